/-
  Walk: the reference's Same.
-/
import Derived.Test.YtmjkbidnghcfnaaWV
import Derived.Test.YtmjkbidnghcfnaaWG
import Derived.Test.YtmjkbidnghcfnaaPX
namespace Go.Proofs.Ytmjkbidnghcfnaa
set_option linter.unusedSimpArgs false
set_option linter.unusedVariables false
open Go Go.Lift Go.Proofs

/-- the table of a number of rounds. -/
def tabB (a b : Enc) (m : Nat) : List (List Bool) := (List.range a.rows.length).map fun s => (List.range b.rows.length).map fun t => apB a b m s t
@[simp] theorem tabB_len {a b : Enc} {m : Nat} : (tabB a b m).length = a.rows.length := by simp [tabB]
theorem tabB_row {a b : Enc} {m s : Nat} (h : s < a.rows.length) : (tabB a b m).getD s [] = (List.range b.rows.length).map fun t => apB a b m s t := by
  rw [getD_get (by rw [tabB_len]; exact h)]; simp [tabB]
theorem tabB_at {a b : Enc} {m s t : Nat} (h : s < a.rows.length) (ht : t < b.rows.length) : ((tabB a b m).getD s []).getD t false = apB a b m s t := by
  rw [tabB_row h, getD_get (by simpa using ht)]; simp
theorem tabB_rlen {a b : Enc} {m s : Nat} (h : s < a.rows.length) : ((tabB a b m).getD s []).length = b.rows.length := by
  rw [tabB_row h]; simp
theorem eqR_rlen {a b : Enc} {s : Nat} (h : s < a.rows.length) : ((eqR a b).getD s []).length = b.rows.length := by
  rw [eqR_row h]; simp
/-- the first input that leads to a difference in time is the first of the list. -/
theorem hij_of {i : Nat} {j0 : Int} {p : Prop} {v : Bool} (h : (i : Int) ≤ j0) (hb : (i : Int) < j0 → p ∧ v = false) (h2 : ¬ p ∨ v = true) : j0 = (i : Int) := by
  rcases (show (i : Int) < j0 ∨ j0 = (i : Int) by omega) with h3 | h3
  · obtain ⟨h4, h5⟩ := hb h3
    rcases h2 with h2 | h2
    · exact absurd h4 h2
    · rw [h5] at h2; cases h2
  · exact h3
set_option maxRecDepth 100000 in
theorem apartP_c (a b : Enc) (k : Nat) (hva : checkE a = 0) (hvb : checkE b = 0) (hab : a.inputs = b.inputs) (hk : k ≤ 1000) : PC Try.prog 55 [.agg 4 (encF a), .agg 4 (encF b), .int .i64 k] (rowsB (tabB a b k)) := by
  have hal := rows_len hva
  have hbl := rows_len hvb
  refine PC_introS T_ok Try.func55 rfl (by simp [Try.ntmps55]) fun G hG hR => ?_
  simp only [Try.ntmps55, Try.results55] at hG ⊢
  simp only [argEnv, Nat.zero_add, Nat.reduceAdd]
  refine awpS_seq ?_
  refine awpS_reg T_ok fun K hK => ?_
  simp [hG, List.getD_cons_zero, List.getD_cons_succ, -List.getD_eq_getElem?_getD]
  refine ⟨Cond.mk (by simp [-List.getD_eq_getElem?_getD]), hK _ ?_⟩
  clear K hK
  refine awpS_seq ?_
  refine awpS_reg T_ok fun K hK => ?_
  simp [hG, List.getD_cons_zero, List.getD_cons_succ, -List.getD_eq_getElem?_getD]
  refine hK _ ?_
  clear K hK
  refine awpS_seq ?_
  refine awpS_seq ?_
  refine awpS_reg T_ok fun K hK => ?_
  simp [hG, List.getD_cons_zero, List.getD_cons_succ, -List.getD_eq_getElem?_getD]
  refine hK _ ?_
  clear K hK
  refine awpS_block ?_
  refine awpS_loop (α := Nat) (fun s => ⟨[(2, .int .i64 k), (3, .ptr (0, 0) 0 0), (4, .ptr (1, 0) 0 0), (7, .sl (2, 0) 0 s), (8, .int .i64 s)], [(0, .one (.arr 1 4 (fun _ => encF a))), (1, .one (.arr 1 4 (fun _ => encF b))), (2, .one (.arr s 1 (fun j _ => .sl (3, j + 1) 0 b.rows.length))), (3, .fam (.arr 0 1 (fun _ _ => .any)) (fun j => some (.arr (upto s b.rows.length j) 1 (fun t _ => .bool (false)))))], 4⟩) (fun s => s ≤ a.rows.length) (fun s => a.rows.length - s) (0) (Nat.zero_le _) ?_ ?_
  ·
    refine wk_ofI (id) (fun _ => false) (fun d => decide (d.1 = 3)) ?_ ?_ ?_ (Nat.zero_le _) (fun d hd => absurd hd (Nat.not_lt_zero _))
    · simp [hG, List.getD_cons_zero, List.getD_cons_succ, -List.getD_eq_getElem?_getD]
    · simp [hG, List.getD_cons_zero, List.getD_cons_succ, -List.getD_eq_getElem?_getD]
    · exact fun id id' _ _ _ _ h => h
  ·
    rintro s hs
    refine awpS_seq ?_
    refine awpS_seq ?_
    refine awpS_reg T_ok fun K hK => ?_
    simp [hG, List.getD_cons_zero, List.getD_cons_succ, -List.getD_eq_getElem?_getD]
    refine hK _ ?_
    clear K hK
    refine awpS_cond rfl (fun hb22 => ?_) (fun hb22 => ?_)
    ·
      try simp [-List.getD_eq_getElem?_getD] at hb22
      refine awpS_skip ?_
      refine awpS_seq ?_
      refine awpS_block ?_
      refine awpS_reg T_ok fun K hK => ?_
      simp [hG, List.getD_cons_zero, List.getD_cons_succ, -List.getD_eq_getElem?_getD]
      refine ⟨Cond.mk (by omega), hK _ ?_⟩
      clear K hK
      refine awpS_nil ?_
      refine blockQ_norm (thenQ_norm ?_)
      refine awpS_reg T_ok fun K hK => ?_
      simp [hG, List.getD_cons_zero, List.getD_cons_succ, -List.getD_eq_getElem?_getD]
      refine ⟨Cond.mk (by omega), hK _ ?_⟩
      clear K hK
      refine awpS_nil ?_
      refine round_end (s + 1) (by omega) (by omega) ?_
      refine wk_ofI (fun d => if d = (2, 0) then (6, 0) else if d = (3, s + 1) then (4, 0) else d) (fun _ => false) (fun _ => false) ?_ ?_ ?_ (Nat.zero_le _) (fun d hd => absurd hd (Nat.not_lt_zero _))
      · simp [hG, List.getD_cons_zero, List.getD_cons_succ, -List.getD_eq_getElem?_getD]
      · simp [hG, List.getD_cons_zero, List.getD_cons_succ, -List.getD_eq_getElem?_getD]; refine ⟨fun i hi => .inl (app_sl hi), fun i => ?_⟩; by_cases h : i = s; (subst h; simp [HLe, upto_own, -List.getD_eq_getElem?_getD]; try exact fun j hj => by first | rfl | simp [hj]); (simp [HLe, h, upto_succ h, -List.getD_eq_getElem?_getD])
      · exact inj_two (f := fun id => (lkH _ id).isSome) (by simp [lkH]) (by simp [lkH]) (by decide)
    ·
      try simp [-List.getD_eq_getElem?_getD] at hb22
      obtain rfl : s = a.rows.length := (by omega)
      refine awpS_exit ?_
      refine thenQ_exit (thenQ_exit ?_)
      refine blockQ_exit (thenQ_norm ?_)
      refine awpS_seq ?_
      refine awpS_seq ?_
      refine awpS_reg T_ok fun K hK => ?_
      simp [hG, List.getD_cons_zero, List.getD_cons_succ, -List.getD_eq_getElem?_getD]
      refine hK _ ?_
      clear K hK
      refine awpS_block ?_
      refine awpS_loop (α := Nat) (fun q => ⟨[(2, .int .i64 k), (3, .ptr (0, 0) 0 0), (4, .ptr (1, 0) 0 0), (7, .sl (2, 0) 0 a.rows.length), (9, .int .i64 q)], [(0, .one (.arr 1 4 (fun _ => encF a))), (1, .one (.arr 1 4 (fun _ => encF b))), (2, .one (.arr a.rows.length 1 (fun j _ => .sl (3, j + 1) 0 b.rows.length))), (3, .fam (.arr 0 1 (fun _ _ => .any)) (fun j => some (.arr (upto a.rows.length b.rows.length j) 1 (fun t _ => .bool (apB a b q j t)))))], 4⟩) (fun q => q ≤ k) (fun q => k - q) (0) (Nat.zero_le _) ?_ ?_
      ·
        refine wk_of (id) (fun _ => false) (fun _ => false) ?_ ?_ rfl (Nat.zero_le _) (fun k hk => absurd hk (Nat.not_lt_zero _))
        · simp [hG, List.getD_cons_zero, List.getD_cons_succ, -List.getD_eq_getElem?_getD]
        · simp [hG, List.getD_cons_zero, List.getD_cons_succ, -List.getD_eq_getElem?_getD]; try exact fun _ _ _ => rfl
      ·
        rintro q hq
        refine awpS_seq ?_
        refine awpS_seq ?_
        refine awpS_reg T_ok fun K hK => ?_
        simp [hG, List.getD_cons_zero, List.getD_cons_succ, -List.getD_eq_getElem?_getD]
        refine hK _ ?_
        clear K hK
        refine awpS_cond rfl (fun hb34 => ?_) (fun hb34 => ?_)
        ·
          try simp [-List.getD_eq_getElem?_getD] at hb34
          refine awpS_skip ?_
          refine awpS_seq ?_
          refine awpS_block ?_
          refine awpS_seq ?_
          refine awpS_reg T_ok fun K hK => ?_
          simp [hG, List.getD_cons_zero, List.getD_cons_succ, -List.getD_eq_getElem?_getD]
          refine hK _ ?_
          clear K hK
          refine awpS_seq ?_
          refine awpS_seq ?_
          refine awpS_reg T_ok fun K hK => ?_
          simp [hG, List.getD_cons_zero, List.getD_cons_succ, -List.getD_eq_getElem?_getD]
          refine hK _ ?_
          clear K hK
          refine awpS_block ?_
          refine awpS_loop (α := Nat) (fun s => ⟨[(2, .int .i64 k), (3, .ptr (0, 0) 0 0), (4, .ptr (1, 0) 0 0), (7, .sl (2, 0) 0 a.rows.length), (9, .int .i64 q), (10, .sl (4, 0) 0 s), (11, .int .i64 s)], [(0, .one (.arr 1 4 (fun _ => encF a))), (1, .one (.arr 1 4 (fun _ => encF b))), (2, .one (.arr a.rows.length 1 (fun j _ => .sl (3, j + 1) 0 b.rows.length))), (3, .fam (.arr 0 1 (fun _ _ => .any)) (fun j => some (.arr (upto a.rows.length b.rows.length j) 1 (fun t _ => .bool (apB a b q j t))))), (4, .one (.arr s 1 (fun j _ => .sl (5, j + 1) 0 b.rows.length))), (5, .fam (.arr 0 1 (fun _ _ => .any)) (fun j => some (.arr (upto s b.rows.length j) 1 (fun t _ => .bool (apB a b (q + 1) j t)))))], 6⟩) (fun s => s ≤ a.rows.length) (fun s => a.rows.length - s) (0) (Nat.zero_le _) ?_ ?_
          ·
            refine wk_ofI (id) (fun _ => false) (fun d => decide (d.1 = 5)) ?_ ?_ ?_ (Nat.zero_le _) (fun d hd => absurd hd (Nat.not_lt_zero _))
            · simp [hG, List.getD_cons_zero, List.getD_cons_succ, -List.getD_eq_getElem?_getD]
            · simp [hG, List.getD_cons_zero, List.getD_cons_succ, -List.getD_eq_getElem?_getD]
            · exact fun id id' _ _ _ _ h => h
          ·
            rintro s hs
            refine awpS_seq ?_
            refine awpS_seq ?_
            refine awpS_reg T_ok fun K hK => ?_
            simp [hG, List.getD_cons_zero, List.getD_cons_succ, -List.getD_eq_getElem?_getD]
            refine hK _ ?_
            clear K hK
            refine awpS_cond rfl (fun hb42 => ?_) (fun hb42 => ?_)
            ·
              try simp [-List.getD_eq_getElem?_getD] at hb42
              refine awpS_skip ?_
              refine awpS_seq ?_
              refine awpS_block ?_
              refine awpS_seq ?_
              refine awpS_reg T_ok fun K hK => ?_
              simp [hG, List.getD_cons_zero, List.getD_cons_succ, -List.getD_eq_getElem?_getD]
              refine ⟨Cond.mk (by omega), hK _ ?_⟩
              clear K hK
              refine awpS_seq ?_
              refine awpS_seq ?_
              refine awpS_reg T_ok fun K hK => ?_
              simp [hG, List.getD_cons_zero, List.getD_cons_succ, -List.getD_eq_getElem?_getD]
              refine hK _ ?_
              clear K hK
              refine awpS_block ?_
              refine awpS_loop (α := Nat) (fun t => ⟨[(2, .int .i64 k), (3, .ptr (0, 0) 0 0), (4, .ptr (1, 0) 0 0), (7, .sl (2, 0) 0 a.rows.length), (9, .int .i64 q), (10, .sl (4, 0) 0 s), (11, .int .i64 s), (12, .sl (6, 0) 0 b.rows.length), (13, .int .i64 t)], [(0, .one (.arr 1 4 (fun _ => encF a))), (1, .one (.arr 1 4 (fun _ => encF b))), (2, .one (.arr a.rows.length 1 (fun j _ => .sl (3, j + 1) 0 b.rows.length))), (3, .fam (.arr 0 1 (fun _ _ => .any)) (fun j => some (.arr (upto a.rows.length b.rows.length j) 1 (fun t _ => .bool (apB a b q j t))))), (4, .one (.arr s 1 (fun j _ => .sl (5, j + 1) 0 b.rows.length))), (5, .fam (.arr 0 1 (fun _ _ => .any)) (fun j => some (.arr (upto s b.rows.length j) 1 (fun t _ => .bool (apB a b (q + 1) j t))))), (6, .one (.arr b.rows.length 1 (fun j _ => .bool (if j < t then apB a b (q + 1) s j else false))))], 7⟩) (fun t => t ≤ b.rows.length) (fun t => b.rows.length - t) (0) (Nat.zero_le _) ?_ ?_
              ·
                refine wk_of (id) (fun _ => false) (fun _ => false) ?_ ?_ rfl (Nat.zero_le _) (fun k hk => absurd hk (Nat.not_lt_zero _))
                · simp [hG, List.getD_cons_zero, List.getD_cons_succ, -List.getD_eq_getElem?_getD]
                · simp [hG, List.getD_cons_zero, List.getD_cons_succ, -List.getD_eq_getElem?_getD]
              ·
                rintro t ht
                refine awpS_seq ?_
                refine awpS_seq ?_
                refine awpS_reg T_ok fun K hK => ?_
                simp [hG, List.getD_cons_zero, List.getD_cons_succ, -List.getD_eq_getElem?_getD]
                refine hK _ ?_
                clear K hK
                refine awpS_cond rfl (fun hb53 => ?_) (fun hb53 => ?_)
                ·
                  try simp [-List.getD_eq_getElem?_getD] at hb53
                  refine awpS_skip ?_
                  refine awpS_seq ?_
                  refine awpS_block ?_
                  refine awpS_seq ?_
                  refine awpS_reg T_ok fun K hK => ?_
                  simp [hG, List.getD_cons_zero, List.getD_cons_succ, -List.getD_eq_getElem?_getD]
                  refine hK _ ?_
                  clear K hK
                  refine awpS_block ?_
                  refine awpS_loop (α := Nat) (fun i => ⟨[(2, .int .i64 k), (3, .ptr (0, 0) 0 0), (4, .ptr (1, 0) 0 0), (7, .sl (2, 0) 0 a.rows.length), (9, .int .i64 q), (10, .sl (4, 0) 0 s), (11, .int .i64 s), (12, .sl (6, 0) 0 b.rows.length), (13, .int .i64 t), (14, .int .i64 i)], [(0, .one (.arr 1 4 (fun _ => encF a))), (1, .one (.arr 1 4 (fun _ => encF b))), (2, .one (.arr a.rows.length 1 (fun j _ => .sl (3, j + 1) 0 b.rows.length))), (3, .fam (.arr 0 1 (fun _ _ => .any)) (fun j => some (.arr (upto a.rows.length b.rows.length j) 1 (fun t _ => .bool (apB a b q j t))))), (4, .one (.arr s 1 (fun j _ => .sl (5, j + 1) 0 b.rows.length))), (5, .fam (.arr 0 1 (fun _ _ => .any)) (fun j => some (.arr (upto s b.rows.length j) 1 (fun t _ => .bool (apB a b (q + 1) j t))))), (6, .one (.arr b.rows.length 1 (fun j _ => .bool (if j < t then apB a b (q + 1) s j else if j = t then apPart a b q s t i else false))))], 7⟩) (fun i => i ≤ a.inputs.toNat) (fun i => a.inputs.toNat - i) (0) (Nat.zero_le _) ?_ ?_
                  ·
                    refine wk_of (id) (fun _ => false) (fun _ => false) ?_ ?_ rfl (Nat.zero_le _) (fun k hk => absurd hk (Nat.not_lt_zero _))
                    · simp [hG, List.getD_cons_zero, List.getD_cons_succ, -List.getD_eq_getElem?_getD]
                    · simp [hG, List.getD_cons_zero, List.getD_cons_succ, -List.getD_eq_getElem?_getD]
                  ·
                    rintro i hi
                    refine awpS_seq ?_
                    refine awpS_seq ?_
                    refine awpS_reg T_ok fun K hK => ?_
                    simp [hG, List.getD_cons_zero, List.getD_cons_succ, -List.getD_eq_getElem?_getD]
                    refine hK _ ?_
                    clear K hK
                    refine awpS_cond rfl (fun hb59 => ?_) (fun hb59 => ?_)
                    ·
                      try simp [-List.getD_eq_getElem?_getD] at hb59
                      have hrl := row_len hva hb42
                      have hra := row_i hva hb42 (i := i) (by omega)
                      have hrb := row_i hvb hb53 (i := i) (by omega)
                      have hca : 0 ≤ ((a.rows.getD s []).getD i dc).to ∧ ((a.rows.getD s []).getD i dc).to < (a.rows.length : Int) := cell_to hva hb42 hra
                      have hcb : 0 ≤ ((b.rows.getD t []).getD i dc).to ∧ ((b.rows.getD t []).getD i dc).to < (b.rows.length : Int) := cell_to hvb hb53 hrb
                      have hup : ((b.rows.getD t []).getD i dc).to.toNat < upto a.rows.length b.rows.length ((a.rows.getD s []).getD i dc).to.toNat := (by rw [upto_lt (by omega)]; omega)
                      refine awpS_skip ?_
                      refine awpS_seq ?_
                      refine awpS_block ?_
                      refine awpS_seq ?_
                      refine awpS_cut (α := Unit) (fun _u => ⟨[(2, .int .i64 k), (3, .ptr (0, 0) 0 0), (4, .ptr (1, 0) 0 0), (7, .sl (2, 0) 0 a.rows.length), (9, .int .i64 q), (10, .sl (4, 0) 0 s), (11, .int .i64 s), (12, .sl (6, 0) 0 b.rows.length), (13, .int .i64 t), (14, .int .i64 i), (15, .ptr (7, 0) 0 0), (16, .ptr (8, 0) 0 0)], [(0, .one (.arr 1 4 (fun _ => encF a))), (1, .one (.arr 1 4 (fun _ => encF b))), (2, .one (.arr a.rows.length 1 (fun j _ => .sl (3, j + 1) 0 b.rows.length))), (3, .fam (.arr 0 1 (fun _ _ => .any)) (fun j => some (.arr (upto a.rows.length b.rows.length j) 1 (fun t _ => .bool (apB a b q j t))))), (4, .one (.arr s 1 (fun j _ => .sl (5, j + 1) 0 b.rows.length))), (5, .fam (.arr 0 1 (fun _ _ => .any)) (fun j => some (.arr (upto s b.rows.length j) 1 (fun t _ => .bool (apB a b (q + 1) j t))))), (6, .one (.arr b.rows.length 1 (fun j _ => .bool (if j < t then apB a b (q + 1) s j else if j = t then apPart a b q s t i else false)))), (7, .one (.arr 1 2 (fun _ => cellF ((a.rows.getD s []).getD i dc)))), (8, .one (.arr 1 2 (fun _ => cellF ((b.rows.getD t []).getD i dc))))], 9⟩) (fun _u => True) ?_ ?_ (by simp)
                      ·
                        refine awpS_draw hR mixed [] ⟨[], [18, 19], [(0, 0), (1, 0)]⟩ fun mu0 => ?_
                        refine awpA_tk T_ok [0, 1, 2, 3, 4, 5, 6, 7, 8, 9, 10, 11, 12, 13, 14, 15] [] (fuel := 4) [15, 14, 13, 12, 11, 10, 9, 8, 7, 6, 5, 4, 3, 2, 1, 0] (by decide +kernel) (by decide +kernel) rfl rfl fun K hK => ?_
                        simp [hG, List.getD_cons_zero, List.getD_cons_succ, -List.getD_eq_getElem?_getD]
                        refine ⟨Cond.mk (by omega), hK _ ?_⟩
                        clear K hK
                        refine awpA_two (fuel := 3) (i := 16) (k := 17) (by decide +kernel) ?_ ?_
                        ·
                          refine awpO_reg T_ok rfl ?_ fun K hK => ?_
                          · simp [hG, List.getD_cons_zero, List.getD_cons_succ, -List.getD_eq_getElem?_getD]
                          simp [hG, List.getD_cons_zero, List.getD_cons_succ, -List.getD_eq_getElem?_getD]
                          refine hK _ ?_
                          clear K hK
                          refine awpA_only (fuel := 2) (i := 17) (by decide +kernel) ?_
                          refine awpO_reg T_ok rfl ?_ fun K hK => ?_
                          · simp [hG, List.getD_cons_zero, List.getD_cons_succ, -List.getD_eq_getElem?_getD]
                          simp [hG, List.getD_cons_zero, List.getD_cons_succ, -List.getD_eq_getElem?_getD]
                          refine hK _ ?_
                          clear K hK
                          refine awpA_only (fuel := 1) (i := 18) (by decide +kernel) ?_
                          refine awpO_reg T_ok rfl ?_ fun K hK => ?_
                          · simp [hG, List.getD_cons_zero, List.getD_cons_succ, -List.getD_eq_getElem?_getD]
                          simp [hG, List.getD_cons_zero, List.getD_cons_succ, -List.getD_eq_getElem?_getD]
                          refine ⟨Cond.mk (by simp [-List.getD_eq_getElem?_getD]), hK _ ?_⟩
                          clear K hK
                          refine awpA_only (fuel := 0) (i := 19) (by decide +kernel) ?_
                          refine awpO_reg T_ok rfl ?_ fun K hK => ?_
                          · simp [hG, List.getD_cons_zero, List.getD_cons_succ, -List.getD_eq_getElem?_getD]
                          simp [hG, List.getD_cons_zero, List.getD_cons_succ, -List.getD_eq_getElem?_getD]
                          refine ⟨Cond.mk (by simp [-List.getD_eq_getElem?_getD]), hK _ ?_⟩
                          clear K hK
                          refine awpA_done (by decide +kernel) ?_
                          refine awpS_nil ?_
                          refine cut_end (()) (trivial) ?_
                          refine wk_of (id) (fun _ => false) (fun _ => false) ?_ ?_ rfl (Nat.zero_le _) (fun k hk => absurd hk (Nat.not_lt_zero _))
                          · simp [hG, List.getD_cons_zero, List.getD_cons_succ, -List.getD_eq_getElem?_getD]
                          · simp [hG, List.getD_cons_zero, List.getD_cons_succ, -List.getD_eq_getElem?_getD]
                        ·
                          refine awpO_reg T_ok rfl ?_ fun K hK => ?_
                          · simp [hG, List.getD_cons_zero, List.getD_cons_succ, -List.getD_eq_getElem?_getD]
                          simp [hG, List.getD_cons_zero, List.getD_cons_succ, -List.getD_eq_getElem?_getD]
                          refine hK _ ?_
                          clear K hK
                          refine awpA_only (fuel := 2) (i := 16) (by decide +kernel) ?_
                          refine awpO_reg T_ok rfl ?_ fun K hK => ?_
                          · simp [hG, List.getD_cons_zero, List.getD_cons_succ, -List.getD_eq_getElem?_getD]
                          simp [hG, List.getD_cons_zero, List.getD_cons_succ, -List.getD_eq_getElem?_getD]
                          refine hK _ ?_
                          clear K hK
                          refine awpA_only (fuel := 1) (i := 18) (by decide +kernel) ?_
                          refine awpO_reg T_ok rfl ?_ fun K hK => ?_
                          · simp [hG, List.getD_cons_zero, List.getD_cons_succ, -List.getD_eq_getElem?_getD]
                          simp [hG, List.getD_cons_zero, List.getD_cons_succ, -List.getD_eq_getElem?_getD]
                          refine ⟨Cond.mk (by simp [-List.getD_eq_getElem?_getD]), hK _ ?_⟩
                          clear K hK
                          refine awpA_only (fuel := 0) (i := 19) (by decide +kernel) ?_
                          refine awpO_reg T_ok rfl ?_ fun K hK => ?_
                          · simp [hG, List.getD_cons_zero, List.getD_cons_succ, -List.getD_eq_getElem?_getD]
                          simp [hG, List.getD_cons_zero, List.getD_cons_succ, -List.getD_eq_getElem?_getD]
                          refine ⟨Cond.mk (by simp [-List.getD_eq_getElem?_getD]), hK _ ?_⟩
                          clear K hK
                          refine awpA_done (by decide +kernel) ?_
                          refine awpS_nil ?_
                          refine cut_end (()) (trivial) ?_
                          refine wk_of (fun k => if k = 7 then 8 else if k = 8 then 7 else k) (fun _ => false) (fun _ => false) ?_ ?_ rfl (Nat.zero_le _) (fun k hk => absurd hk (Nat.not_lt_zero _))
                          · simp [hG, List.getD_cons_zero, List.getD_cons_succ, -List.getD_eq_getElem?_getD]
                          · simp [hG, List.getD_cons_zero, List.getD_cons_succ, -List.getD_eq_getElem?_getD]
                      ·
                        rintro ⟨⟩ -
                        refine awpS_seq ?_
                        refine awpS_draw hR mixed [] ⟨[], [], []⟩ fun mu0 => ?_
                        refine awpA_tk T_ok [0, 1, 2, 3, 4, 5, 6, 7, 8, 9, 10, 11, 12, 13, 14, 15] [] (fuel := 0) [15, 14, 13, 12, 11, 10, 9, 8, 7, 6, 5, 4, 3, 2, 1, 0] (by decide +kernel) (by decide +kernel) rfl rfl fun K hK => ?_
                        simp [hG, List.getD_cons_zero, List.getD_cons_succ, -List.getD_eq_getElem?_getD]
                        refine ⟨Cond.mk (by simp [-List.getD_eq_getElem?_getD]; repeat (first | intro _ | exact And.intro ‹_› ‹_› | apply And.intro | assumption | omega | exact decide_eq_true (by assumption))), hK _ ?_⟩
                        clear K hK
                        refine awpA_done (by decide +kernel) ?_
                        refine awpS_cond rfl (fun hb93 => ?_) (fun hb93 => ?_)
                        ·
                          try simp [-List.getD_eq_getElem?_getD] at hb93
                          have hp1 : apPart a b q s t (i + 1) = true := (by rw [apPart_succ]; unfold cellAt; rcases hb93 with h | h <;> simp [h, -List.getD_eq_getElem?_getD])
                          refine awpS_reg T_ok fun K hK => ?_
                          simp [hG, List.getD_cons_zero, List.getD_cons_succ, -List.getD_eq_getElem?_getD]
                          refine ⟨Cond.mk (by omega), hK _ ?_⟩
                          clear K hK
                          refine awpS_nil ?_
                          refine blockQ_norm (thenQ_norm ?_)
                          refine awpS_reg T_ok fun K hK => ?_
                          simp [hG, List.getD_cons_zero, List.getD_cons_succ, -List.getD_eq_getElem?_getD]
                          refine ⟨Cond.mk (by omega), hK _ ?_⟩
                          clear K hK
                          refine awpS_nil ?_
                          refine round_end (i + 1) (by omega) (by omega) ?_
                          refine wk_of (id) (fun _ => false) (fun _ => false) ?_ ?_ rfl (Nat.zero_le _) (fun k hk => absurd hk (Nat.not_lt_zero _))
                          · simp [hG, List.getD_cons_zero, List.getD_cons_succ, -List.getD_eq_getElem?_getD]
                          · simp [hG, List.getD_cons_zero, List.getD_cons_succ, -List.getD_eq_getElem?_getD]; exact fun j hj => upd_hit hp1
                        ·
                          try simp [-List.getD_eq_getElem?_getD] at hb93
                          have hp0 : apPart a b q s t (i + 1) = apPart a b q s t i := (by rw [apPart_succ]; unfold cellAt; simp [hb93.1, hb93.2, -List.getD_eq_getElem?_getD])
                          refine awpS_skip ?_
                          refine awpS_nil ?_
                          refine blockQ_norm (thenQ_norm ?_)
                          refine awpS_reg T_ok fun K hK => ?_
                          simp [hG, List.getD_cons_zero, List.getD_cons_succ, -List.getD_eq_getElem?_getD]
                          refine ⟨Cond.mk (by omega), hK _ ?_⟩
                          clear K hK
                          refine awpS_nil ?_
                          refine round_end (i + 1) (by omega) (by omega) ?_
                          refine wk_of (id) (fun _ => false) (fun _ => false) ?_ ?_ rfl (Nat.zero_le _) (fun k hk => absurd hk (Nat.not_lt_zero _))
                          · simp [hG, List.getD_cons_zero, List.getD_cons_succ, -List.getD_eq_getElem?_getD]
                          · simp [hG, List.getD_cons_zero, List.getD_cons_succ, -List.getD_eq_getElem?_getD]; exact fun j hj => by rw [hp0]
                    ·
                      try simp [-List.getD_eq_getElem?_getD] at hb59
                      obtain rfl : i = a.inputs.toNat := (by omega)
                      refine awpS_exit ?_
                      refine thenQ_exit (thenQ_exit ?_)
                      refine blockQ_exit (thenQ_norm ?_)
                      refine awpS_nil ?_
                      refine blockQ_norm (thenQ_norm ?_)
                      refine awpS_reg T_ok fun K hK => ?_
                      simp [hG, List.getD_cons_zero, List.getD_cons_succ, -List.getD_eq_getElem?_getD]
                      refine ⟨Cond.mk (by omega), hK _ ?_⟩
                      clear K hK
                      refine awpS_nil ?_
                      refine round_end (t + 1) (by omega) (by omega) ?_
                      refine wk_of (id) (fun _ => false) (fun _ => false) ?_ ?_ rfl (Nat.zero_le _) (fun k hk => absurd hk (Nat.not_lt_zero _))
                      · simp [hG, List.getD_cons_zero, List.getD_cons_succ, -List.getD_eq_getElem?_getD]
                      · simp [hG, List.getD_cons_zero, List.getD_cons_succ, -List.getD_eq_getElem?_getD]; exact fun j hj => upd_row
                ·
                  try simp [-List.getD_eq_getElem?_getD] at hb53
                  obtain rfl : t = b.rows.length := (by omega)
                  refine awpS_exit ?_
                  refine thenQ_exit (thenQ_exit ?_)
                  refine blockQ_exit (thenQ_norm ?_)
                  refine awpS_reg T_ok fun K hK => ?_
                  simp [hG, List.getD_cons_zero, List.getD_cons_succ, -List.getD_eq_getElem?_getD]
                  refine ⟨Cond.mk (by omega), hK _ ?_⟩
                  clear K hK
                  refine awpS_nil ?_
                  refine blockQ_norm (thenQ_norm ?_)
                  refine awpS_reg T_ok fun K hK => ?_
                  simp [hG, List.getD_cons_zero, List.getD_cons_succ, -List.getD_eq_getElem?_getD]
                  refine ⟨Cond.mk (by omega), hK _ ?_⟩
                  clear K hK
                  refine awpS_nil ?_
                  refine round_end (s + 1) (by omega) (by omega) ?_
                  refine wk_ofI (fun d => if d = (4, 0) then (8, 0) else if d = (5, s + 1) then (6, 0) else d) (fun _ => false) (fun _ => false) ?_ ?_ ?_ (Nat.zero_le _) (fun d hd => absurd hd (Nat.not_lt_zero _))
                  · simp [hG, List.getD_cons_zero, List.getD_cons_succ, -List.getD_eq_getElem?_getD]
                  · simp [hG, List.getD_cons_zero, List.getD_cons_succ, -List.getD_eq_getElem?_getD]; refine ⟨fun i hi => .inl (app_sl hi), fun i => ?_⟩; by_cases h : i = s; (subst h; simp [HLe, upto_own, -List.getD_eq_getElem?_getD]; try exact fun j hj => by first | rfl | simp [hj]); (simp [HLe, h, upto_succ h, -List.getD_eq_getElem?_getD])
                  · exact inj_two (f := fun id => (lkH _ id).isSome) (by simp [lkH]) (by simp [lkH]) (by decide)
            ·
              try simp [-List.getD_eq_getElem?_getD] at hb42
              obtain rfl : s = a.rows.length := (by omega)
              refine awpS_exit ?_
              refine thenQ_exit (thenQ_exit ?_)
              refine blockQ_exit (thenQ_norm ?_)
              refine awpS_reg T_ok fun K hK => ?_
              simp [hG, List.getD_cons_zero, List.getD_cons_succ, -List.getD_eq_getElem?_getD]
              refine hK _ ?_
              clear K hK
              refine awpS_nil ?_
              refine blockQ_norm (thenQ_norm ?_)
              refine awpS_reg T_ok fun K hK => ?_
              simp [hG, List.getD_cons_zero, List.getD_cons_succ, -List.getD_eq_getElem?_getD]
              refine ⟨Cond.mk (by omega), hK _ ?_⟩
              clear K hK
              refine awpS_nil ?_
              refine round_end (q + 1) (by omega) (by omega) ?_
              refine wk_ofI (fun d => if d = (2, 0) then (4, 0) else if d.1 = 3 then (5, d.2) else d) (fun _ => false) (fun _ => false) ?_ ?_ ?_ (Nat.zero_le _) (fun d hd => absurd hd (Nat.not_lt_zero _))
              · simp [hG, List.getD_cons_zero, List.getD_cons_succ, -List.getD_eq_getElem?_getD]
              · simp [hG, List.getD_cons_zero, List.getD_cons_succ, -List.getD_eq_getElem?_getD]
              · exact inj_swap (f := fun id => (lkH _ id).isSome) (by simp [lkH]) (fun _ => by simp [lkH]) (by decide)
        ·
          try simp [-List.getD_eq_getElem?_getD] at hb34
          obtain rfl : q = k := (by omega)
          refine awpS_exit ?_
          refine thenQ_exit (thenQ_exit ?_)
          refine blockQ_exit (thenQ_norm ?_)
          refine awpS_seq ?_
          refine awpS_reg T_ok fun K hK => ?_
          simp [hG, List.getD_cons_zero, List.getD_cons_succ, -List.getD_eq_getElem?_getD]
          refine hK _ ?_
          clear K hK
          refine awpS_ret ?_
          refine RetOK_of ?_
          simp [hG, List.getD_cons_zero, List.getD_cons_succ, -List.getD_eq_getElem?_getD]
          intro i hi; rw [tabB_row hi, upto_lt hi]; simp [hi]; exact fun t ht => by simp [ht]

set_option maxRecDepth 100000 in
theorem sameRf_c (a b : Enc) (s t : Int) (hl : checkE a = 0 → checkE b = 0 → a.rows.length + b.rows.length ≤ 64) : PC Try.prog 32 [.agg 4 (encF a), .agg 4 (encF b), .int .i64 s, .int .i64 t] (.tup 3 (fun j => [ints (sameLs a b s t), .bool (sameBs a b s t), .int .i64 (sameNs a b s t)].getD j .any)) := by
  refine PC_introS T_ok Try.func32 rfl (by simp [Try.ntmps32]) fun G hG hR => ?_
  simp only [Try.ntmps32, Try.results32] at hG ⊢
  simp only [argEnv, Nat.zero_add, Nat.reduceAdd]
  refine awpS_seq ?_
  refine awpS_reg T_ok fun K hK => ?_
  simp [hG, List.getD_cons_zero, List.getD_cons_succ, -List.getD_eq_getElem?_getD]
  refine ⟨Cond.mk (by simp [-List.getD_eq_getElem?_getD]), hK _ ?_⟩
  clear K hK
  refine awpS_seq ?_
  refine awpS_seq ?_
  refine awpS_regL ?_
  refine awpL_reg T_ok 1 fun K hK => ?_
  simp [hG, List.getD_cons_zero, List.getD_cons_succ, -List.getD_eq_getElem?_getD]
  refine hK _ ?_
  clear K hK
  refine awpL_call cal41 rfl rfl (fun _ => rfl) (fun hg => checkR_c a) (fun hg => ?_) (fun hg => ?_) fun K hK => ?_
  · simp [hG, List.getD_cons_zero, List.getD_cons_succ, -List.getD_eq_getElem?_getD]
  · simp [hG, List.getD_cons_zero, List.getD_cons_succ, -List.getD_eq_getElem?_getD]
  simp [hG, List.getD_cons_zero, List.getD_cons_succ, -List.getD_eq_getElem?_getD]
  refine hK _ ?_
  clear K hK
  refine awpL_reg T_ok 3 fun K hK => ?_
  simp [hG, List.getD_cons_zero, List.getD_cons_succ, -List.getD_eq_getElem?_getD]
  refine ⟨Cond.mk (by simp [-List.getD_eq_getElem?_getD]), hK _ ?_⟩
  clear K hK
  refine awpL_call cal41 rfl rfl (fun _ => rfl) (fun hg => checkR_c b) (fun hg => ?_) (fun hg => ?_) fun K hK => ?_
  · first | (simp [hG, List.getD_cons_zero, List.getD_cons_succ, -List.getD_eq_getElem?_getD]; done) | (simp [-List.getD_eq_getElem?_getD] at hg; done) | (simp [-List.getD_eq_getElem?_getD] at hg; simp [hG, List.getD_cons_zero, List.getD_cons_succ, -List.getD_eq_getElem?_getD]; first | omega | exact hg | (simp_all [-List.getD_eq_getElem?_getD]; done) | (simp_all [-List.getD_eq_getElem?_getD]; first | exact ⟨rfl, rfl⟩ | exact rfl))
  · first | (simp [hG, List.getD_cons_zero, List.getD_cons_succ, -List.getD_eq_getElem?_getD]; done) | (simp [-List.getD_eq_getElem?_getD] at hg; done) | (simp [-List.getD_eq_getElem?_getD] at hg; simp [hG, List.getD_cons_zero, List.getD_cons_succ, -List.getD_eq_getElem?_getD]; first | omega | exact hg | (simp_all [-List.getD_eq_getElem?_getD]; done) | (simp_all [-List.getD_eq_getElem?_getD]; first | exact ⟨rfl, rfl⟩ | exact rfl))
  simp [hG, List.getD_cons_zero, List.getD_cons_succ, -List.getD_eq_getElem?_getD]
  refine hK _ ?_
  clear K hK
  refine awpL_reg T_ok 2 fun K hK => ?_
  simp [hG, List.getD_cons_zero, List.getD_cons_succ, -List.getD_eq_getElem?_getD]
  refine ⟨Cond.mk (by simp [-List.getD_eq_getElem?_getD]), hK _ ?_⟩
  clear K hK
  refine awpL_nil ?_
  refine awpS_cond rfl (fun hb24 => ?_) (fun hb24 => ?_)
  ·
    try simp [-List.getD_eq_getElem?_getD] at hb24
    refine awpS_seq ?_
    refine awpS_reg T_ok fun K hK => ?_
    simp [hG, List.getD_cons_zero, List.getD_cons_succ, -List.getD_eq_getElem?_getD]
    refine hK _ ?_
    clear K hK
    refine awpS_ret ?_
    refine RetOK_of ?_
    simp [hG, List.getD_cons_zero, List.getD_cons_succ, -List.getD_eq_getElem?_getD]
    have hN : sameNs a b s t = 1 := (by unfold sameNs; rw [if_pos hb24]); exact ⟨(same_err hN (by omega)).1, (same_err hN (by omega)).2, hN.symm⟩
  ·
    try simp [-List.getD_eq_getElem?_getD] at hb24
    have hva := hb24.1
    have hvb := hb24.2
    have hin := (checkE_valid hva).1.inputs
    have hla := rows_len hva
    have hlb := rows_len hvb
    have hll := hl hva hvb
    refine awpS_skip ?_
    refine awpS_seq ?_
    refine awpS_seq ?_
    refine awpS_reg T_ok fun K hK => ?_
    simp [hG, List.getD_cons_zero, List.getD_cons_succ, -List.getD_eq_getElem?_getD]
    refine ⟨Cond.mk (by simp [-List.getD_eq_getElem?_getD]), hK _ ?_⟩
    clear K hK
    refine awpS_cond rfl (fun hb43 => ?_) (fun hb43 => ?_)
    ·
      try simp [-List.getD_eq_getElem?_getD] at hb43
      refine awpS_seq ?_
      refine awpS_reg T_ok fun K hK => ?_
      simp [hG, List.getD_cons_zero, List.getD_cons_succ, -List.getD_eq_getElem?_getD]
      refine hK _ ?_
      clear K hK
      refine awpS_ret ?_
      refine RetOK_of ?_
      simp [hG, List.getD_cons_zero, List.getD_cons_succ, -List.getD_eq_getElem?_getD]
      have hN : sameNs a b s t = 11 := (by unfold sameNs; rw [if_neg (by rintro (h | h) <;> exact h (by assumption)), if_pos (by omega)]); exact ⟨(same_err hN (by omega)).1, (same_err hN (by omega)).2, hN.symm⟩
    ·
      try simp [-List.getD_eq_getElem?_getD] at hb43
      have hmm : a.letters = b.letters ∧ a.block = b.block ∧ a.inputs = b.inputs := ⟨hb43.1.1, hb43.1.2, hb43.2⟩
      refine awpS_skip ?_
      refine awpS_seq ?_
      refine awpS_seq ?_
      refine awpS_reg T_ok fun K hK => ?_
      simp [hG, List.getD_cons_zero, List.getD_cons_succ, -List.getD_eq_getElem?_getD]
      refine ⟨Cond.mk (by simp [-List.getD_eq_getElem?_getD]), hK _ ?_⟩
      clear K hK
      refine awpS_cond rfl (fun hb63 => ?_) (fun hb63 => ?_)
      ·
        try simp [-List.getD_eq_getElem?_getD] at hb63
        refine awpS_seq ?_
        refine awpS_reg T_ok fun K hK => ?_
        simp [hG, List.getD_cons_zero, List.getD_cons_succ, -List.getD_eq_getElem?_getD]
        refine hK _ ?_
        clear K hK
        refine awpS_ret ?_
        refine RetOK_of ?_
        simp [hG, List.getD_cons_zero, List.getD_cons_succ, -List.getD_eq_getElem?_getD]
        have hN : sameNs a b s t = 25 := (by unfold sameNs; rw [if_neg (by rintro (h | h) <;> exact h (by assumption)), if_neg (by exact fun h => h hmm), if_pos (by omega)]); exact ⟨(same_err hN (by omega)).1, (same_err hN (by omega)).2, hN.symm⟩
      ·
        try simp [-List.getD_eq_getElem?_getD] at hb63
        have hst : (0 ≤ s ∧ s < (a.rows.length : Int)) ∧ 0 ≤ t ∧ t < (b.rows.length : Int) := (by omega)
        have hN : sameNs a b s t = 0 := (by unfold sameNs; rw [if_neg (by rintro (h | h) <;> exact h (by assumption)), if_neg (by exact fun h => h hmm), if_neg (by omega)])
        have htb := same_table hva hvb hmm hll hst.1 hst.2
        have hsn : s.toNat < a.rows.length := (by omega)
        have htn : t.toNat < b.rows.length := (by omega)
        have her := eqR_rlen (a := a) (b := b) hsn
        refine awpS_skip ?_
        refine awpS_seq ?_
        refine awpS_seq ?_
        refine awpS_regL ?_
        refine awpL_reg T_ok 2 fun K hK => ?_
        simp [hG, List.getD_cons_zero, List.getD_cons_succ, -List.getD_eq_getElem?_getD]
        refine hK _ ?_
        clear K hK
        refine awpL_call cal42 rfl rfl (fun _ => rfl) (fun hg => equivalent_c a b hva hvb hmm.2.2) (fun hg => ?_) (fun hg => ?_) fun K hK => ?_
        · simp [hG, List.getD_cons_zero, List.getD_cons_succ, -List.getD_eq_getElem?_getD]
        · simp [hG, List.getD_cons_zero, List.getD_cons_succ, -List.getD_eq_getElem?_getD]
        simp [hG, List.getD_cons_zero, List.getD_cons_succ, -List.getD_eq_getElem?_getD]
        refine hK _ ?_
        clear K hK
        refine awpL_reg T_ok 6 fun K hK => ?_
        simp [hG, List.getD_cons_zero, List.getD_cons_succ, -List.getD_eq_getElem?_getD]
        refine ⟨Cond.mk (by omega), hK _ ?_⟩
        clear K hK
        refine awpL_nil ?_
        refine awpS_cond rfl (fun hb72 => ?_) (fun hb72 => ?_)
        ·
          try simp [-List.getD_eq_getElem?_getD] at hb72
          rw [eqR_at hsn htn] at hb72
          have hno := htb.1 (by simpa using hb72)
          refine awpS_seq ?_
          refine awpS_reg T_ok fun K hK => ?_
          simp [hG, List.getD_cons_zero, List.getD_cons_succ, -List.getD_eq_getElem?_getD]
          refine hK _ ?_
          clear K hK
          refine awpS_ret ?_
          refine RetOK_of ?_
          simp [hG, List.getD_cons_zero, List.getD_cons_succ, -List.getD_eq_getElem?_getD]
          have ho := same_ok hN; rw [hno] at ho; exact ⟨ho.1, ho.2, hN.symm⟩
        ·
          try simp [-List.getD_eq_getElem?_getD] at hb72
          rw [eqR_at hsn htn] at hb72
          obtain ⟨d, hd, hL, hdl⟩ := htb.2 (by simpa using hb72)
          have hdr := hL.rounds
          have hdn : d ≠ [] := ME_ne hL.me
          have hdp : 0 < d.length := List.length_pos_iff.2 hdn
          refine awpS_skip ?_
          refine awpS_seq ?_
          refine awpS_reg T_ok fun K hK => ?_
          simp [hG, List.getD_cons_zero, List.getD_cons_succ, -List.getD_eq_getElem?_getD]
          refine hK _ ?_
          clear K hK
          refine awpS_seq ?_
          refine awpS_block ?_
          refine awpS_loop (α := Nat) (fun n => ⟨[(2, .int .i64 s), (3, .int .i64 t), (4, .ptr (0, 0) 0 0), (5, .ptr (1, 0) 0 0), (11, .int .i64 n)], [(0, .one (.arr 1 4 (fun _ => encF a))), (1, .one (.arr 1 4 (fun _ => encF b)))], 2⟩) (fun n => 1 ≤ n ∧ n ≤ d.length) (fun n => d.length - n) (1) (⟨Nat.le_refl _, hdp⟩) ?_ ?_
          ·
            refine wk_of (id) (fun _ => false) (fun _ => false) ?_ ?_ rfl (Nat.zero_le _) (fun k hk => absurd hk (Nat.not_lt_zero _))
            · simp [hG, List.getD_cons_zero, List.getD_cons_succ, -List.getD_eq_getElem?_getD]
            · simp [hG, List.getD_cons_zero, List.getD_cons_succ, -List.getD_eq_getElem?_getD]
          ·
            rintro n ⟨hn1, hn⟩
            have htr := tabB_rlen (a := a) (b := b) (m := n) (s := s.toNat) hsn
            refine awpS_seq ?_
            refine awpS_seq ?_
            refine awpS_regL ?_
            refine awpL_reg T_ok 3 fun K hK => ?_
            simp [hG, List.getD_cons_zero, List.getD_cons_succ, -List.getD_eq_getElem?_getD]
            refine hK _ ?_
            clear K hK
            refine awpL_call cal55 rfl rfl (fun _ => rfl) (fun hg => apartP_c a b n hva hvb hmm.2.2 (by omega)) (fun hg => ?_) (fun hg => ?_) fun K hK => ?_
            · simp [hG, List.getD_cons_zero, List.getD_cons_succ, -List.getD_eq_getElem?_getD]
            · simp [hG, List.getD_cons_zero, List.getD_cons_succ, -List.getD_eq_getElem?_getD]
            simp [hG, List.getD_cons_zero, List.getD_cons_succ, -List.getD_eq_getElem?_getD]
            refine hK _ ?_
            clear K hK
            refine awpL_reg T_ok 7 fun K hK => ?_
            simp [hG, List.getD_cons_zero, List.getD_cons_succ, -List.getD_eq_getElem?_getD]
            refine ⟨Cond.mk (by omega), hK _ ?_⟩
            clear K hK
            refine awpL_nil ?_
            refine awpS_cond rfl (fun hb83 => ?_) (fun hb83 => ?_)
            ·
              try simp [-List.getD_eq_getElem?_getD] at hb83
              rw [tabB_at hsn htn] at hb83
              have hnd : n ≠ d.length := (fun h => by rw [h, hdr.1] at hb83; cases hb83)
              refine awpS_skip ?_
              refine awpS_block ?_
              refine awpS_reg T_ok fun K hK => ?_
              simp [hG, List.getD_cons_zero, List.getD_cons_succ, -List.getD_eq_getElem?_getD]
              refine ⟨Cond.mk (by omega), hK _ ?_⟩
              clear K hK
              refine awpS_nil ?_
              refine blockQ_norm (thenQ_norm ?_)
              refine awpS_nil ?_
              refine round_end (n + 1) (⟨by omega, by omega⟩) (by omega) ?_
              refine wk_of (id) (fun _ => false) (fun _ => false) ?_ ?_ rfl (Nat.zero_le _) (fun k hk => absurd hk (Nat.not_lt_zero _))
              · simp [hG, List.getD_cons_zero, List.getD_cons_succ, -List.getD_eq_getElem?_getD]
              · simp [hG, List.getD_cons_zero, List.getD_cons_succ, -List.getD_eq_getElem?_getD]
            ·
              try simp [-List.getD_eq_getElem?_getD] at hb83
              rw [tabB_at hsn htn] at hb83
              have hnd := hdr.2 n (by simpa using hb83)
              obtain rfl : n = d.length := (by omega)
              obtain ⟨i0, r0, rfl⟩ := List.exists_cons_of_ne_nil hdn
              simp only [List.length_cons] at *
              refine awpS_exit ?_
              refine thenQ_exit (thenQ_exit ?_)
              refine blockQ_exit (thenQ_norm ?_)
              refine awpS_seq ?_
              refine awpS_reg T_ok fun K hK => ?_
              simp [hG, List.getD_cons_zero, List.getD_cons_succ, -List.getD_eq_getElem?_getD]
              refine hK _ ?_
              clear K hK
              refine awpS_seq ?_
              refine awpS_block ?_
              refine awpS_loop (α := List Int × Int × List Int × Int × Int) (fun x => ⟨[(2, .int .i64 x.2.2.2.1), (3, .int .i64 x.2.2.2.2), (4, .ptr (0, 0) 0 0), (5, .ptr (1, 0) 0 0), (11, .int .i64 (x.2.2.1.length + 1)), (12, .sl (2, 0) 0 x.1.length)], [(0, .one (.arr 1 4 (fun _ => encF a))), (1, .one (.arr 1 4 (fun _ => encF b))), (2, .one (.arr x.1.length 1 (fun j _ => .int .i64 (x.1.getD j 0))))], 3⟩) (fun x => Least a b x.2.2.2.1 x.2.2.2.2 (x.2.1 :: x.2.2.1) ∧ x.1 ++ x.2.1 :: x.2.2.1 = i0 :: r0 ∧ (0 ≤ x.2.2.2.1 ∧ x.2.2.2.1 < (a.rows.length : Int)) ∧ 0 ≤ x.2.2.2.2 ∧ x.2.2.2.2 < (b.rows.length : Int)) (fun x => x.2.2.1.length) (([], i0, r0, s, t)) (⟨hL, rfl, hst⟩) ?_ ?_
              ·
                refine wk_of (id) (fun _ => false) (fun _ => false) ?_ ?_ rfl (Nat.zero_le _) (fun k hk => absurd hk (Nat.not_lt_zero _))
                · simp [hG, List.getD_cons_zero, List.getD_cons_succ, -List.getD_eq_getElem?_getD]
                · simp [hG, List.getD_cons_zero, List.getD_cons_succ, -List.getD_eq_getElem?_getD]
              ·
                rintro ⟨dn, j0, r, cs, ct⟩ ⟨hLr, hdone, hcs, hct⟩
                simp only at hLr hdone hcs hct ⊢
                have hj0 := bad_no.1 (hLr.good j0 (List.mem_cons_self ..))
                have hdlen := congrArg List.length hdone
                simp only [List.length_append, List.length_cons] at hdlen
                refine awpS_seq ?_
                refine awpS_seq ?_
                refine awpS_reg T_ok fun K hK => ?_
                simp [hG, List.getD_cons_zero, List.getD_cons_succ, -List.getD_eq_getElem?_getD]
                refine hK _ ?_
                clear K hK
                refine awpS_cond rfl (fun hb88 => ?_) (fun hb88 => ?_)
                ·
                  try simp [-List.getD_eq_getElem?_getD] at hb88
                  refine awpS_skip ?_
                  refine awpS_block ?_
                  refine awpS_seq ?_
                  refine awpS_regL ?_
                  refine awpL_reg T_ok 4 fun K hK => ?_
                  simp [hG, List.getD_cons_zero, List.getD_cons_succ, -List.getD_eq_getElem?_getD]
                  refine ⟨Cond.mk (by omega), hK _ ?_⟩
                  clear K hK
                  refine awpL_call cal55 rfl rfl (fun _ => rfl) (fun hg => apartP_c a b r.length hva hvb hmm.2.2 (by omega)) (fun hg => ?_) (fun hg => ?_) fun K hK => ?_
                  · simp [hG, List.getD_cons_zero, List.getD_cons_succ, -List.getD_eq_getElem?_getD]
                  · simp [hG, List.getD_cons_zero, List.getD_cons_succ, -List.getD_eq_getElem?_getD]
                  simp [hG, List.getD_cons_zero, List.getD_cons_succ, -List.getD_eq_getElem?_getD]
                  refine hK _ ?_
                  clear K hK
                  refine awpL_reg T_ok 1 fun K hK => ?_
                  simp [hG, List.getD_cons_zero, List.getD_cons_succ, -List.getD_eq_getElem?_getD]
                  refine hK _ ?_
                  clear K hK
                  refine awpL_nil ?_
                  refine awpS_seq ?_
                  refine awpS_seq ?_
                  refine awpS_reg T_ok fun K hK => ?_
                  simp [hG, List.getD_cons_zero, List.getD_cons_succ, -List.getD_eq_getElem?_getD]
                  refine hK _ ?_
                  clear K hK
                  refine awpS_block ?_
                  refine awpS_loop (α := Nat) (fun i => ⟨[(2, .int .i64 cs), (3, .int .i64 ct), (4, .ptr (0, 0) 0 0), (5, .ptr (1, 0) 0 0), (11, .int .i64 (r.length + 1)), (12, .sl (2, 0) 0 dn.length), (13, rowsB (tabB a b r.length)), (14, .int .i64 i)], [(0, .one (.arr 1 4 (fun _ => encF a))), (1, .one (.arr 1 4 (fun _ => encF b))), (2, .one (.arr dn.length 1 (fun j _ => .int .i64 (dn.getD j 0))))], 3⟩) (fun i => (i : Int) ≤ j0) (fun i => j0.toNat - i) (0) (by omega) ?_ ?_
                  ·
                    refine wk_of (id) (fun _ => false) (fun _ => false) ?_ ?_ rfl (Nat.zero_le _) (fun k hk => absurd hk (Nat.not_lt_zero _))
                    · simp [hG, List.getD_cons_zero, List.getD_cons_succ, -List.getD_eq_getElem?_getD]
                    · simp [hG, List.getD_cons_zero, List.getD_cons_succ, -List.getD_eq_getElem?_getD]
                  ·
                    rintro i hij
                    refine awpS_seq ?_
                    refine awpS_seq ?_
                    refine awpS_reg T_ok fun K hK => ?_
                    simp [hG, List.getD_cons_zero, List.getD_cons_succ, -List.getD_eq_getElem?_getD]
                    refine hK _ ?_
                    clear K hK
                    refine awpS_cond rfl (fun hb97 => ?_) (fun hb97 => ?_)
                    ·
                      try simp [-List.getD_eq_getElem?_getD] at hb97
                      have hil : i < a.inputs.toNat := (by omega)
                      have hxr := row_eq hva (k := cs.toNat) (by omega)
                      have hyr := row_eq hvb (k := ct.toNat) (by omega)
                      have hxc : 0 ≤ ((a.rows.getD cs.toNat []).getD i dc).to ∧ ((a.rows.getD cs.toNat []).getD i dc).to < (a.rows.length : Int) := cell_to hva (s := cs.toNat) (by omega) (show i < (a.rows.getD cs.toNat []).length by omega)
                      have hyc : 0 ≤ ((b.rows.getD ct.toNat []).getD i dc).to ∧ ((b.rows.getD ct.toNat []).getD i dc).to < (b.rows.length : Int) := cell_to hvb (s := ct.toNat) (by omega) (show i < (b.rows.getD ct.toNat []).length by omega)
                      have htl := tabB_rlen (a := a) (b := b) (m := r.length) (s := ((a.rows.getD cs.toNat []).getD i dc).to.toNat) (by omega)
                      have hta := tabB_at (a := a) (b := b) (m := r.length) (s := ((a.rows.getD cs.toNat []).getD i dc).to.toNat) (t := ((b.rows.getD ct.toNat []).getD i dc).to.toNat) (by omega) (by omega)
                      have hbf := hLr.before (j := i)
                      have hhr := hLr.here
                      simp only [cellAt] at hbf hhr
                      refine awpS_skip ?_
                      refine awpS_seq ?_
                      refine awpS_block ?_
                      refine awpS_seq ?_
                      refine awpS_cut (α := Unit) (fun _u => ⟨[(2, .int .i64 cs), (3, .int .i64 ct), (4, .ptr (0, 0) 0 0), (5, .ptr (1, 0) 0 0), (11, .int .i64 (r.length + 1)), (12, .sl (2, 0) 0 dn.length), (13, rowsB (tabB a b r.length)), (14, .int .i64 i), (15, .ptr (3, 0) 0 0), (16, .ptr (4, 0) 0 0)], [(0, .one (.arr 1 4 (fun _ => encF a))), (1, .one (.arr 1 4 (fun _ => encF b))), (2, .one (.arr dn.length 1 (fun j _ => .int .i64 (dn.getD j 0)))), (3, .one (.arr 1 2 (fun _ => cellF ((a.rows.getD cs.toNat []).getD i dc)))), (4, .one (.arr 1 2 (fun _ => cellF ((b.rows.getD ct.toNat []).getD i dc))))], 5⟩) (fun _u => True) ?_ ?_ (by simp)
                      ·
                        refine awpS_draw hR mixed [] ⟨[], [18, 19], [(0, 0), (1, 0), (2, 0)]⟩ fun mu0 => ?_
                        refine awpA_tk T_ok [0, 1, 2, 3, 4, 5, 6, 7, 8, 9, 10, 11, 12, 13, 14, 15] [] (fuel := 4) [15, 14, 13, 12, 11, 10, 9, 8, 7, 6, 5, 4, 3, 2, 1, 0] (by decide +kernel) (by decide +kernel) rfl rfl fun K hK => ?_
                        simp [hG, List.getD_cons_zero, List.getD_cons_succ, -List.getD_eq_getElem?_getD]
                        refine ⟨Cond.mk (by omega), hK _ ?_⟩
                        clear K hK
                        refine awpA_two (fuel := 3) (i := 16) (k := 17) (by decide +kernel) ?_ ?_
                        ·
                          refine awpO_reg T_ok rfl ?_ fun K hK => ?_
                          · simp [hG, List.getD_cons_zero, List.getD_cons_succ, -List.getD_eq_getElem?_getD]
                          simp [hG, List.getD_cons_zero, List.getD_cons_succ, -List.getD_eq_getElem?_getD]
                          refine hK _ ?_
                          clear K hK
                          refine awpA_only (fuel := 2) (i := 17) (by decide +kernel) ?_
                          refine awpO_reg T_ok rfl ?_ fun K hK => ?_
                          · simp [hG, List.getD_cons_zero, List.getD_cons_succ, -List.getD_eq_getElem?_getD]
                          simp [hG, List.getD_cons_zero, List.getD_cons_succ, -List.getD_eq_getElem?_getD]
                          refine hK _ ?_
                          clear K hK
                          refine awpA_only (fuel := 1) (i := 18) (by decide +kernel) ?_
                          refine awpO_reg T_ok rfl ?_ fun K hK => ?_
                          · simp [hG, List.getD_cons_zero, List.getD_cons_succ, -List.getD_eq_getElem?_getD]
                          simp [hG, List.getD_cons_zero, List.getD_cons_succ, -List.getD_eq_getElem?_getD]
                          refine ⟨Cond.mk (by omega), hK _ ?_⟩
                          clear K hK
                          refine awpA_only (fuel := 0) (i := 19) (by decide +kernel) ?_
                          refine awpO_reg T_ok rfl ?_ fun K hK => ?_
                          · simp [hG, List.getD_cons_zero, List.getD_cons_succ, -List.getD_eq_getElem?_getD]
                          simp [hG, List.getD_cons_zero, List.getD_cons_succ, -List.getD_eq_getElem?_getD]
                          refine ⟨Cond.mk (by omega), hK _ ?_⟩
                          clear K hK
                          refine awpA_done (by decide +kernel) ?_
                          refine awpS_nil ?_
                          refine cut_end (()) (trivial) ?_
                          refine wk_of (id) (fun _ => false) (fun _ => false) ?_ ?_ rfl (Nat.zero_le _) (fun k hk => absurd hk (Nat.not_lt_zero _))
                          · simp [hG, List.getD_cons_zero, List.getD_cons_succ, -List.getD_eq_getElem?_getD]
                          · simp [hG, List.getD_cons_zero, List.getD_cons_succ, -List.getD_eq_getElem?_getD]
                        ·
                          refine awpO_reg T_ok rfl ?_ fun K hK => ?_
                          · simp [hG, List.getD_cons_zero, List.getD_cons_succ, -List.getD_eq_getElem?_getD]
                          simp [hG, List.getD_cons_zero, List.getD_cons_succ, -List.getD_eq_getElem?_getD]
                          refine hK _ ?_
                          clear K hK
                          refine awpA_only (fuel := 2) (i := 16) (by decide +kernel) ?_
                          refine awpO_reg T_ok rfl ?_ fun K hK => ?_
                          · simp [hG, List.getD_cons_zero, List.getD_cons_succ, -List.getD_eq_getElem?_getD]
                          simp [hG, List.getD_cons_zero, List.getD_cons_succ, -List.getD_eq_getElem?_getD]
                          refine hK _ ?_
                          clear K hK
                          refine awpA_only (fuel := 1) (i := 18) (by decide +kernel) ?_
                          refine awpO_reg T_ok rfl ?_ fun K hK => ?_
                          · simp [hG, List.getD_cons_zero, List.getD_cons_succ, -List.getD_eq_getElem?_getD]
                          simp [hG, List.getD_cons_zero, List.getD_cons_succ, -List.getD_eq_getElem?_getD]
                          refine ⟨Cond.mk (by omega), hK _ ?_⟩
                          clear K hK
                          refine awpA_only (fuel := 0) (i := 19) (by decide +kernel) ?_
                          refine awpO_reg T_ok rfl ?_ fun K hK => ?_
                          · simp [hG, List.getD_cons_zero, List.getD_cons_succ, -List.getD_eq_getElem?_getD]
                          simp [hG, List.getD_cons_zero, List.getD_cons_succ, -List.getD_eq_getElem?_getD]
                          refine ⟨Cond.mk (by omega), hK _ ?_⟩
                          clear K hK
                          refine awpA_done (by decide +kernel) ?_
                          refine awpS_nil ?_
                          refine cut_end (()) (trivial) ?_
                          refine wk_of (fun k => if k = 3 then 4 else if k = 4 then 3 else k) (fun _ => false) (fun _ => false) ?_ ?_ rfl (Nat.zero_le _) (fun k hk => absurd hk (Nat.not_lt_zero _))
                          · simp [hG, List.getD_cons_zero, List.getD_cons_succ, -List.getD_eq_getElem?_getD]
                          · simp [hG, List.getD_cons_zero, List.getD_cons_succ, -List.getD_eq_getElem?_getD]
                      ·
                        rintro ⟨⟩ -
                        refine awpS_seq ?_
                        refine awpS_draw hR mixed [] ⟨[], [], []⟩ fun mu0 => ?_
                        refine awpA_tk T_ok [0, 1, 2, 3, 4, 5, 6, 7, 8, 9, 10, 11, 12, 13, 14, 15] [] (fuel := 0) [15, 14, 13, 12, 11, 10, 9, 8, 7, 6, 5, 4, 3, 2, 1, 0] (by decide +kernel) (by decide +kernel) rfl rfl fun K hK => ?_
                        simp [hG, List.getD_cons_zero, List.getD_cons_succ, -List.getD_eq_getElem?_getD]
                        refine ⟨Cond.mk (by simp [-List.getD_eq_getElem?_getD]; repeat (first | intro _ | exact And.intro ‹_› ‹_› | apply And.intro | assumption | omega | exact decide_eq_true (by assumption))), hK _ ?_⟩
                        clear K hK
                        refine awpA_done (by decide +kernel) ?_
                        refine awpS_cond rfl (fun hb131 => ?_) (fun hb131 => ?_)
                        ·
                          try simp [-List.getD_eq_getElem?_getD] at hb131
                          have hji : j0 = (i : Int) := (hij_of hij hbf (by rw [hta] at hb131; exact hb131))
                          rw [hji, Int.toNat_natCast] at hhr
                          obtain rfl := hji
                          refine awpS_seq ?_
                          refine awpS_reg T_ok fun K hK => ?_
                          simp [hG, List.getD_cons_zero, List.getD_cons_succ, -List.getD_eq_getElem?_getD]
                          refine ⟨Cond.mk (by omega), hK _ ?_⟩
                          clear K hK
                          refine awpS_seq ?_
                          refine awpS_seq ?_
                          refine awpS_reg T_ok fun K hK => ?_
                          simp [hG, List.getD_cons_zero, List.getD_cons_succ, -List.getD_eq_getElem?_getD]
                          refine hK _ ?_
                          clear K hK
                          refine awpS_cond rfl (fun hb140 => ?_) (fun hb140 => ?_)
                          ·
                            try simp [-List.getD_eq_getElem?_getD] at hb140
                            obtain rfl := hhr.1.1 hb140
                            refine awpS_seq ?_
                            refine awpS_reg T_ok fun K hK => ?_
                            simp [hG, List.getD_cons_zero, List.getD_cons_succ, -List.getD_eq_getElem?_getD]
                            refine hK _ ?_
                            clear K hK
                            refine awpS_ret ?_
                            refine blockQ_ret (thenQ_ret ?_)
                            refine thenQ_ret (thenQ_ret ?_)
                            refine blockQ_ret (thenQ_ret ?_)
                            refine blockQ_ret (thenQ_ret ?_)
                            refine thenQ_ret (thenQ_ret ?_)
                            refine blockQ_ret (thenQ_ret ?_)
                            refine RetOK_of ?_
                            simp [hG, List.getD_cons_zero, List.getD_cons_succ, -List.getD_eq_getElem?_getD]
                            have ho := same_ok hN; rw [hd] at ho; rw [ho.1, ho.2, hN, show (some (i0 :: r0)).getD [] = i0 :: r0 from rfl, ← hdone]; simp [-List.getD_eq_getElem?_getD]; exact fun q hq => app_one hq
                          ·
                            try simp [-List.getD_eq_getElem?_getD] at hb140
                            have hrn : r ≠ [] := (fun h => hhr.1.2 h hb140)
                            have hnx := (hhr.2 hb140).2
                            obtain ⟨i1, r1, rfl⟩ := List.exists_cons_of_ne_nil hrn
                            simp only [List.length_cons] at hdlen
                            refine awpS_skip ?_
                            refine awpS_seq ?_
                            refine awpS_draw hR mixed [] ⟨[], [], []⟩ fun mu0 => ?_
                            refine awpA_tk T_ok [0, 1, 2, 3, 4, 5] [] (fuel := 0) [5, 4, 3, 2, 1, 0] (by decide +kernel) (by decide +kernel) rfl rfl fun K hK => ?_
                            simp [hG, List.getD_cons_zero, List.getD_cons_succ, -List.getD_eq_getElem?_getD]
                            refine hK _ ?_
                            clear K hK
                            refine awpA_done (by decide +kernel) ?_
                            refine awpS_exit ?_
                            refine blockQ_exit_ne (by decide) (thenQ_exit ?_)
                            refine thenQ_exit (thenQ_exit ?_)
                            refine blockQ_exit (thenQ_norm ?_)
                            refine awpS_reg T_ok fun K hK => ?_
                            simp [hG, List.getD_cons_zero, List.getD_cons_succ, -List.getD_eq_getElem?_getD]
                            refine ⟨Cond.mk (by omega), hK _ ?_⟩
                            clear K hK
                            refine awpS_nil ?_
                            refine blockQ_norm (thenQ_norm ?_)
                            refine awpS_nil ?_
                            refine round_end (x := (dn, (i : Int), i1 :: r1, cs, ct)) ((dn ++ [(i : Int)], i1, r1, ((a.rows.getD cs.toNat []).getD i dc).to, ((b.rows.getD ct.toNat []).getD i dc).to)) (⟨hnx, by rw [← hdone]; simp, hxc, hyc⟩) ((by show r1.length < (i1 :: r1).length; simp)) ?_
                            refine wk_of (fun k => if k = 2 then 6 else k) (fun _ => false) (fun _ => false) ?_ ?_ rfl (Nat.zero_le _) (fun k hk => absurd hk (Nat.not_lt_zero _))
                            · simp [hG, List.getD_cons_zero, List.getD_cons_succ, -List.getD_eq_getElem?_getD]
                            · simp [hG, List.getD_cons_zero, List.getD_cons_succ, -List.getD_eq_getElem?_getD]; exact fun q hq => app_one hq
                        ·
                          try simp [-List.getD_eq_getElem?_getD] at hb131
                          have hne : (i : Int) ≠ j0 := (fun h => by subst h; simp only [Int.toNat_natCast] at hhr; rw [hta] at hb131; have := (hhr.2 hb131.1).1; rw [hb131.2] at this; cases this)
                          refine awpS_skip ?_
                          refine awpS_nil ?_
                          refine blockQ_norm (thenQ_norm ?_)
                          refine awpS_reg T_ok fun K hK => ?_
                          simp [hG, List.getD_cons_zero, List.getD_cons_succ, -List.getD_eq_getElem?_getD]
                          refine ⟨Cond.mk (by omega), hK _ ?_⟩
                          clear K hK
                          refine awpS_nil ?_
                          refine round_end (i + 1) (by omega) (by omega) ?_
                          refine wk_of (id) (fun _ => false) (fun _ => false) ?_ ?_ rfl (Nat.zero_le _) (fun k hk => absurd hk (Nat.not_lt_zero _))
                          · simp [hG, List.getD_cons_zero, List.getD_cons_succ, -List.getD_eq_getElem?_getD]
                          · simp [hG, List.getD_cons_zero, List.getD_cons_succ, -List.getD_eq_getElem?_getD]
                    ·
                      exfalso; simp [-List.getD_eq_getElem?_getD] at hb97 <;> omega
                ·
                  exfalso; simp [-List.getD_eq_getElem?_getD] at hb88 <;> omega

end Go.Proofs.Ytmjkbidnghcfnaa
