/-
  Walks: the reference's Partition.
-/
import Derived.Test.YtmjkbidnghcfnaaWE
import Derived.Test.YtmjkbidnghcfnaaPG
namespace Go.Proofs.Ytmjkbidnghcfnaa
set_option linter.unusedSimpArgs false
set_option linter.unusedVariables false
open Go Go.Lift Go.Proofs

/-- whether one of the first i inputs tells apart, k more at hand. -/
def apPart (a b : Enc) (k s t i : Nat) : Bool := (List.range i).any fun i => decide ((cellAt a s i).word ≠ (cellAt b t i).word) || apB a b k (cellAt a s i).to.toNat (cellAt b t i).to.toNat
@[simp] theorem apPart_zero {a b : Enc} {k s t : Nat} : apPart a b k s t 0 = false := rfl
theorem apPart_succ {a b : Enc} {k s t i : Nat} : apPart a b k s t (i + 1) = (apPart a b k s t i || (decide ((cellAt a s i).word ≠ (cellAt b t i).word) || apB a b k (cellAt a s i).to.toNat (cellAt b t i).to.toNat)) := by
  unfold apPart; rw [List.range_succ, List.any_append]; simp
theorem apPart_all {a b : Enc} {k s t : Nat} : apPart a b k s t a.inputs.toNat = apB a b (k + 1) s t := rfl
/-- n below s, otherwise nothing. -/
def upto (s n j : Nat) : Nat := if j < s then n else 0
theorem upto_lt {s n j : Nat} (h : j < s) : upto s n j = n := if_pos h
theorem upto_ge {s n j : Nat} (h : ¬ j < s) : upto s n j = 0 := if_neg h
@[simp] theorem upto_zero {n j : Nat} : upto 0 n j = 0 := if_neg (Nat.not_lt_zero _)
theorem upd_row {X : Nat → Bool} {t j : Nat} : (if j < t then X j else decide (j = t) && X t) = (decide (j < t + 1) && X j) := by
  by_cases h : j < t
  · rw [if_pos h]; simp [Nat.lt_succ_of_lt h]
  · rw [if_neg h]
    by_cases e : j = t
    · subst e; simp
    · simp [e, show ¬ j < t + 1 by omega]
theorem upd_hit {X : Nat → Bool} {t j : Nat} {p p1 : Bool} (h : p1 = true) : (if j = t then AVal.bool true else .bool (if j < t then X j else decide (j = t) && p)) = .bool (if j < t then X j else decide (j = t) && p1) := by
  by_cases e : j = t
  · subst e; simp [h]
  · simp [e]
theorem app_sl {s n f r i : Nat} {w : Nat → Nat → AVal} (h : i < s + 1) : app (fun j _ => .sl (f, j + 1) 0 n) s (fun i j => if i = 0 ∧ j = 0 then .sl (r, 0) 0 n else w i j) i 0 = .sl (if i = s then (r, 0) else (f, i + 1)) 0 n := by
  unfold app
  by_cases e : i < s
  · rw [if_pos e, if_neg (by omega)]
  · obtain rfl : i = s := by omega
    rw [if_neg e, if_pos rfl, Nat.sub_self]; rfl
theorem upto_succ {s n i : Nat} (h : ¬ i = s) : upto (s + 1) n i = upto s n i := by
  unfold upto
  by_cases e : i < s
  · rw [if_pos e, if_pos (by omega)]
  · rw [if_neg e, if_neg (by omega)]
theorem upto_own {s n : Nat} : upto (s + 1) n s = n := if_pos (Nat.lt_succ_self _)
theorem inj_two {f : Lift.Id → Bool} {p q r r' : Lift.Id} (hr : f r = false) (hr' : f r' = false) (hne : r ≠ r') : ∀ d d' : Lift.Id, f d = true → f d' = true → false = false → false = false → (if d = p then r else if d = q then r' else d) = (if d' = p then r else if d' = q then r' else d') → d = d' := by
  intro d d' h h' _ _ e
  have n1 : ∀ d, f d = true → d ≠ r := fun d h e => by subst e; rw [hr] at h; cases h
  have n2 : ∀ d, f d = true → d ≠ r' := fun d h e => by subst e; rw [hr'] at h; cases h
  split at e
  · split at e
    · simp_all
    · split at e
      · exact absurd e hne
      · exact absurd e.symm (n1 _ h')
  · split at e
    · split at e
      · exact absurd e.symm hne
      · split at e
        · simp_all
        · exact absurd e.symm (n2 _ h')
    · split at e
      · exact absurd e (n1 _ h)
      · split at e
        · exact absurd e (n2 _ h)
        · exact e
theorem inj_swap {f : Lift.Id → Bool} {p r : Lift.Id} {m m' : Nat} (hr : f r = false) (hr' : ∀ x, f (m', x) = false) (hne : r.1 ≠ m') : ∀ d d' : Lift.Id, f d = true → f d' = true → false = false → false = false → (if d = p then r else if d.1 = m then (m', d.2) else d) = (if d' = p then r else if d'.1 = m then (m', d'.2) else d') → d = d' := by
  intro d d' h h' _ _ e
  have n1 : ∀ d, f d = true → d ≠ r := fun d h e => by subst e; rw [hr] at h; cases h
  have n2 : ∀ d, f d = true → d.1 ≠ m' := fun d h e => by
    have := hr' d.2
    rw [show ((m', d.2) : Lift.Id) = d by rw [← e]] at this; rw [this] at h; cases h
  split at e
  · split at e
    · simp_all
    · split at e
      · exact absurd (congrArg Prod.fst e) hne
      · exact absurd e.symm (n1 _ h')
  · split at e
    · split at e
      · exact absurd (congrArg Prod.fst e.symm) hne
      · split at e
        · have := congrArg Prod.snd e; exact Prod.ext (by simp_all) this
        · exact absurd (congrArg Prod.fst e.symm) (n2 _ h')
    · split at e
      · exact absurd e (n1 _ h)
      · split at e
        · exact absurd (congrArg Prod.fst e) (n2 _ h)
        · exact e
/-- which states of two encoders are equivalent, as a table. -/
def eqR (a b : Enc) : List (List Bool) := (List.range a.rows.length).map fun s => (List.range b.rows.length).map fun t => !apB a b (a.rows.length + b.rows.length) s t
@[simp] theorem eqR_len {a b : Enc} : (eqR a b).length = a.rows.length := by simp [eqR]
theorem eqR_row {a b : Enc} {s : Nat} (h : s < a.rows.length) : (eqR a b).getD s [] = (List.range b.rows.length).map fun t => !apB a b (a.rows.length + b.rows.length) s t := by
  rw [getD_get (by rw [eqR_len]; exact h)]; simp [eqR]
theorem eqR_at {a b : Enc} {s t : Nat} (h : s < a.rows.length) (ht : t < b.rows.length) : ((eqR a b).getD s []).getD t false = !apB a b (a.rows.length + b.rows.length) s t := by
  rw [eqR_row h, getD_get (by simpa using ht)]; simp
theorem flip_end {X Y : Bool} {s i t n m : Nat} (h : t < upto n m i) : (if i < s ∨ i = s ∧ t < m then X else Y) = if i < s + 1 then X else Y := by
  unfold upto at h
  split at h
  · congr 1; simp only [eq_iff_iff]; constructor <;> intro h <;> omega
  · omega
theorem flip_upd {X : Nat → Bool} {Y : Nat → Bool} {r t : Nat} : (if t = r then AVal.bool (X r) else .bool (if t < r then X t else Y t)) = .bool (if t < r + 1 then X t else Y t) := by
  by_cases e : t = r
  · subst e; simp
  · rw [if_neg e]; congr 2; simp only [eq_iff_iff]; constructor <;> intro h <;> omega
set_option maxRecDepth 100000 in
theorem apart_c (a b : Enc) (k : Nat) (hva : checkE a = 0) (hvb : checkE b = 0) (hab : a.inputs = b.inputs) (hk : k ≤ 1000) : FC1 Try.prog 55 [.agg 4 (encF a), .agg 4 (encF b), .int .i64 k] [] 0 (.sl (0, 0) 0 a.rows.length) [(0, .one (.arr a.rows.length 1 (fun j _ => .sl (1, j + 1) 0 b.rows.length))), (1, .fam (.arr 0 1 (fun _ _ => .any)) (fun j => some (.arr (upto a.rows.length b.rows.length j) 1 (fun t _ => .bool (apB a b k j t)))))] 2 := by
  have hal := rows_len hva
  have hbl := rows_len hvb
  refine FC_introS T_ok Try.func55 rfl (by simp [Try.ntmps55]) fun G hG hR => ?_
  simp only [Try.ntmps55, Try.results55] at hG ⊢
  simp only [argEnv, Nat.zero_add, Nat.reduceAdd]
  refine awpS_seq ?_
  refine awpS_reg T_ok fun K hK => ?_
  simp [hG, List.getD_cons_zero, List.getD_cons_succ, -List.getD_eq_getElem?_getD]
  refine ⟨Cond.mk (by simp [-List.getD_eq_getElem?_getD]), hK _ ?_⟩
  clear K hK
  refine awpS_seq ?_
  refine awpS_reg T_ok fun K hK => ?_
  simp [hG, List.getD_cons_zero, List.getD_cons_succ, -List.getD_eq_getElem?_getD]
  refine hK _ ?_
  clear K hK
  refine awpS_seq ?_
  refine awpS_seq ?_
  refine awpS_reg T_ok fun K hK => ?_
  simp [hG, List.getD_cons_zero, List.getD_cons_succ, -List.getD_eq_getElem?_getD]
  refine hK _ ?_
  clear K hK
  refine awpS_block ?_
  refine awpS_loop (α := Nat) (fun s => ⟨[(2, .int .i64 k), (3, .ptr (0, 0) 0 0), (4, .ptr (1, 0) 0 0), (7, .sl (2, 0) 0 s), (8, .int .i64 s)], [(0, .one (.arr 1 4 (fun _ => encF a))), (1, .one (.arr 1 4 (fun _ => encF b))), (2, .one (.arr s 1 (fun j _ => .sl (3, j + 1) 0 b.rows.length))), (3, .fam (.arr 0 1 (fun _ _ => .any)) (fun j => some (.arr (upto s b.rows.length j) 1 (fun t _ => .bool (false)))))], 4⟩) (fun s => s ≤ a.rows.length) (fun s => a.rows.length - s) (0) (Nat.zero_le _) ?_ ?_
  ·
    refine wk_ofI (id) (fun _ => false) (fun d => decide (d.1 = 3)) ?_ ?_ ?_ (Nat.zero_le _) (fun d hd => absurd hd (Nat.not_lt_zero _))
    · simp [hG, List.getD_cons_zero, List.getD_cons_succ, -List.getD_eq_getElem?_getD]
    · simp [hG, List.getD_cons_zero, List.getD_cons_succ, -List.getD_eq_getElem?_getD]
    · exact fun id id' _ _ _ _ h => h
  ·
    rintro s hs
    refine awpS_seq ?_
    refine awpS_seq ?_
    refine awpS_reg T_ok fun K hK => ?_
    simp [hG, List.getD_cons_zero, List.getD_cons_succ, -List.getD_eq_getElem?_getD]
    refine hK _ ?_
    clear K hK
    refine awpS_cond rfl (fun hb22 => ?_) (fun hb22 => ?_)
    ·
      try simp [-List.getD_eq_getElem?_getD] at hb22
      refine awpS_skip ?_
      refine awpS_seq ?_
      refine awpS_block ?_
      refine awpS_reg T_ok fun K hK => ?_
      simp [hG, List.getD_cons_zero, List.getD_cons_succ, -List.getD_eq_getElem?_getD]
      refine ⟨Cond.mk (by omega), hK _ ?_⟩
      clear K hK
      refine awpS_nil ?_
      refine blockQ_norm (thenQ_norm ?_)
      refine awpS_reg T_ok fun K hK => ?_
      simp [hG, List.getD_cons_zero, List.getD_cons_succ, -List.getD_eq_getElem?_getD]
      refine ⟨Cond.mk (by omega), hK _ ?_⟩
      clear K hK
      refine awpS_nil ?_
      refine round_end (s + 1) (by omega) (by omega) ?_
      refine wk_ofI (fun d => if d = (2, 0) then (6, 0) else if d = (3, s + 1) then (4, 0) else d) (fun _ => false) (fun _ => false) ?_ ?_ ?_ (Nat.zero_le _) (fun d hd => absurd hd (Nat.not_lt_zero _))
      · simp [hG, List.getD_cons_zero, List.getD_cons_succ, -List.getD_eq_getElem?_getD]
      · simp [hG, List.getD_cons_zero, List.getD_cons_succ, -List.getD_eq_getElem?_getD]; refine ⟨fun i hi => .inl (app_sl hi), fun i => ?_⟩; by_cases h : i = s; (subst h; simp [HLe, upto_own, -List.getD_eq_getElem?_getD]; try exact fun j hj => by first | rfl | simp [hj]); (simp [HLe, h, upto_succ h, -List.getD_eq_getElem?_getD])
      · exact inj_two (f := fun id => (lkH _ id).isSome) (by simp [lkH]) (by simp [lkH]) (by decide)
    ·
      try simp [-List.getD_eq_getElem?_getD] at hb22
      obtain rfl : s = a.rows.length := (by omega)
      refine awpS_exit ?_
      refine thenQ_exit (thenQ_exit ?_)
      refine blockQ_exit (thenQ_norm ?_)
      refine awpS_seq ?_
      refine awpS_seq ?_
      refine awpS_reg T_ok fun K hK => ?_
      simp [hG, List.getD_cons_zero, List.getD_cons_succ, -List.getD_eq_getElem?_getD]
      refine hK _ ?_
      clear K hK
      refine awpS_block ?_
      refine awpS_loop (α := Nat) (fun q => ⟨[(2, .int .i64 k), (3, .ptr (0, 0) 0 0), (4, .ptr (1, 0) 0 0), (7, .sl (2, 0) 0 a.rows.length), (9, .int .i64 q)], [(0, .one (.arr 1 4 (fun _ => encF a))), (1, .one (.arr 1 4 (fun _ => encF b))), (2, .one (.arr a.rows.length 1 (fun j _ => .sl (3, j + 1) 0 b.rows.length))), (3, .fam (.arr 0 1 (fun _ _ => .any)) (fun j => some (.arr (upto a.rows.length b.rows.length j) 1 (fun t _ => .bool (apB a b q j t)))))], 4⟩) (fun q => q ≤ k) (fun q => k - q) (0) (Nat.zero_le _) ?_ ?_
      ·
        refine wk_of (id) (fun _ => false) (fun _ => false) ?_ ?_ rfl (Nat.zero_le _) (fun k hk => absurd hk (Nat.not_lt_zero _))
        · simp [hG, List.getD_cons_zero, List.getD_cons_succ, -List.getD_eq_getElem?_getD]
        · simp [hG, List.getD_cons_zero, List.getD_cons_succ, -List.getD_eq_getElem?_getD]; try exact fun _ _ _ => rfl
      ·
        rintro q hq
        refine awpS_seq ?_
        refine awpS_seq ?_
        refine awpS_reg T_ok fun K hK => ?_
        simp [hG, List.getD_cons_zero, List.getD_cons_succ, -List.getD_eq_getElem?_getD]
        refine hK _ ?_
        clear K hK
        refine awpS_cond rfl (fun hb34 => ?_) (fun hb34 => ?_)
        ·
          try simp [-List.getD_eq_getElem?_getD] at hb34
          refine awpS_skip ?_
          refine awpS_seq ?_
          refine awpS_block ?_
          refine awpS_seq ?_
          refine awpS_reg T_ok fun K hK => ?_
          simp [hG, List.getD_cons_zero, List.getD_cons_succ, -List.getD_eq_getElem?_getD]
          refine hK _ ?_
          clear K hK
          refine awpS_seq ?_
          refine awpS_seq ?_
          refine awpS_reg T_ok fun K hK => ?_
          simp [hG, List.getD_cons_zero, List.getD_cons_succ, -List.getD_eq_getElem?_getD]
          refine hK _ ?_
          clear K hK
          refine awpS_block ?_
          refine awpS_loop (α := Nat) (fun s => ⟨[(2, .int .i64 k), (3, .ptr (0, 0) 0 0), (4, .ptr (1, 0) 0 0), (7, .sl (2, 0) 0 a.rows.length), (9, .int .i64 q), (10, .sl (4, 0) 0 s), (11, .int .i64 s)], [(0, .one (.arr 1 4 (fun _ => encF a))), (1, .one (.arr 1 4 (fun _ => encF b))), (2, .one (.arr a.rows.length 1 (fun j _ => .sl (3, j + 1) 0 b.rows.length))), (3, .fam (.arr 0 1 (fun _ _ => .any)) (fun j => some (.arr (upto a.rows.length b.rows.length j) 1 (fun t _ => .bool (apB a b q j t))))), (4, .one (.arr s 1 (fun j _ => .sl (5, j + 1) 0 b.rows.length))), (5, .fam (.arr 0 1 (fun _ _ => .any)) (fun j => some (.arr (upto s b.rows.length j) 1 (fun t _ => .bool (apB a b (q + 1) j t)))))], 6⟩) (fun s => s ≤ a.rows.length) (fun s => a.rows.length - s) (0) (Nat.zero_le _) ?_ ?_
          ·
            refine wk_ofI (id) (fun _ => false) (fun d => decide (d.1 = 5)) ?_ ?_ ?_ (Nat.zero_le _) (fun d hd => absurd hd (Nat.not_lt_zero _))
            · simp [hG, List.getD_cons_zero, List.getD_cons_succ, -List.getD_eq_getElem?_getD]
            · simp [hG, List.getD_cons_zero, List.getD_cons_succ, -List.getD_eq_getElem?_getD]
            · exact fun id id' _ _ _ _ h => h
          ·
            rintro s hs
            refine awpS_seq ?_
            refine awpS_seq ?_
            refine awpS_reg T_ok fun K hK => ?_
            simp [hG, List.getD_cons_zero, List.getD_cons_succ, -List.getD_eq_getElem?_getD]
            refine hK _ ?_
            clear K hK
            refine awpS_cond rfl (fun hb42 => ?_) (fun hb42 => ?_)
            ·
              try simp [-List.getD_eq_getElem?_getD] at hb42
              refine awpS_skip ?_
              refine awpS_seq ?_
              refine awpS_block ?_
              refine awpS_seq ?_
              refine awpS_reg T_ok fun K hK => ?_
              simp [hG, List.getD_cons_zero, List.getD_cons_succ, -List.getD_eq_getElem?_getD]
              refine ⟨Cond.mk (by omega), hK _ ?_⟩
              clear K hK
              refine awpS_seq ?_
              refine awpS_seq ?_
              refine awpS_reg T_ok fun K hK => ?_
              simp [hG, List.getD_cons_zero, List.getD_cons_succ, -List.getD_eq_getElem?_getD]
              refine hK _ ?_
              clear K hK
              refine awpS_block ?_
              refine awpS_loop (α := Nat) (fun t => ⟨[(2, .int .i64 k), (3, .ptr (0, 0) 0 0), (4, .ptr (1, 0) 0 0), (7, .sl (2, 0) 0 a.rows.length), (9, .int .i64 q), (10, .sl (4, 0) 0 s), (11, .int .i64 s), (12, .sl (6, 0) 0 b.rows.length), (13, .int .i64 t)], [(0, .one (.arr 1 4 (fun _ => encF a))), (1, .one (.arr 1 4 (fun _ => encF b))), (2, .one (.arr a.rows.length 1 (fun j _ => .sl (3, j + 1) 0 b.rows.length))), (3, .fam (.arr 0 1 (fun _ _ => .any)) (fun j => some (.arr (upto a.rows.length b.rows.length j) 1 (fun t _ => .bool (apB a b q j t))))), (4, .one (.arr s 1 (fun j _ => .sl (5, j + 1) 0 b.rows.length))), (5, .fam (.arr 0 1 (fun _ _ => .any)) (fun j => some (.arr (upto s b.rows.length j) 1 (fun t _ => .bool (apB a b (q + 1) j t))))), (6, .one (.arr b.rows.length 1 (fun j _ => .bool (if j < t then apB a b (q + 1) s j else false))))], 7⟩) (fun t => t ≤ b.rows.length) (fun t => b.rows.length - t) (0) (Nat.zero_le _) ?_ ?_
              ·
                refine wk_of (id) (fun _ => false) (fun _ => false) ?_ ?_ rfl (Nat.zero_le _) (fun k hk => absurd hk (Nat.not_lt_zero _))
                · simp [hG, List.getD_cons_zero, List.getD_cons_succ, -List.getD_eq_getElem?_getD]
                · simp [hG, List.getD_cons_zero, List.getD_cons_succ, -List.getD_eq_getElem?_getD]
              ·
                rintro t ht
                refine awpS_seq ?_
                refine awpS_seq ?_
                refine awpS_reg T_ok fun K hK => ?_
                simp [hG, List.getD_cons_zero, List.getD_cons_succ, -List.getD_eq_getElem?_getD]
                refine hK _ ?_
                clear K hK
                refine awpS_cond rfl (fun hb53 => ?_) (fun hb53 => ?_)
                ·
                  try simp [-List.getD_eq_getElem?_getD] at hb53
                  refine awpS_skip ?_
                  refine awpS_seq ?_
                  refine awpS_block ?_
                  refine awpS_seq ?_
                  refine awpS_reg T_ok fun K hK => ?_
                  simp [hG, List.getD_cons_zero, List.getD_cons_succ, -List.getD_eq_getElem?_getD]
                  refine hK _ ?_
                  clear K hK
                  refine awpS_block ?_
                  refine awpS_loop (α := Nat) (fun i => ⟨[(2, .int .i64 k), (3, .ptr (0, 0) 0 0), (4, .ptr (1, 0) 0 0), (7, .sl (2, 0) 0 a.rows.length), (9, .int .i64 q), (10, .sl (4, 0) 0 s), (11, .int .i64 s), (12, .sl (6, 0) 0 b.rows.length), (13, .int .i64 t), (14, .int .i64 i)], [(0, .one (.arr 1 4 (fun _ => encF a))), (1, .one (.arr 1 4 (fun _ => encF b))), (2, .one (.arr a.rows.length 1 (fun j _ => .sl (3, j + 1) 0 b.rows.length))), (3, .fam (.arr 0 1 (fun _ _ => .any)) (fun j => some (.arr (upto a.rows.length b.rows.length j) 1 (fun t _ => .bool (apB a b q j t))))), (4, .one (.arr s 1 (fun j _ => .sl (5, j + 1) 0 b.rows.length))), (5, .fam (.arr 0 1 (fun _ _ => .any)) (fun j => some (.arr (upto s b.rows.length j) 1 (fun t _ => .bool (apB a b (q + 1) j t))))), (6, .one (.arr b.rows.length 1 (fun j _ => .bool (if j < t then apB a b (q + 1) s j else if j = t then apPart a b q s t i else false))))], 7⟩) (fun i => i ≤ a.inputs.toNat) (fun i => a.inputs.toNat - i) (0) (Nat.zero_le _) ?_ ?_
                  ·
                    refine wk_of (id) (fun _ => false) (fun _ => false) ?_ ?_ rfl (Nat.zero_le _) (fun k hk => absurd hk (Nat.not_lt_zero _))
                    · simp [hG, List.getD_cons_zero, List.getD_cons_succ, -List.getD_eq_getElem?_getD]
                    · simp [hG, List.getD_cons_zero, List.getD_cons_succ, -List.getD_eq_getElem?_getD]
                  ·
                    rintro i hi
                    refine awpS_seq ?_
                    refine awpS_seq ?_
                    refine awpS_reg T_ok fun K hK => ?_
                    simp [hG, List.getD_cons_zero, List.getD_cons_succ, -List.getD_eq_getElem?_getD]
                    refine hK _ ?_
                    clear K hK
                    refine awpS_cond rfl (fun hb59 => ?_) (fun hb59 => ?_)
                    ·
                      try simp [-List.getD_eq_getElem?_getD] at hb59
                      have hrl := row_len hva hb42
                      have hra := row_i hva hb42 (i := i) (by omega)
                      have hrb := row_i hvb hb53 (i := i) (by omega)
                      have hca : 0 ≤ ((a.rows.getD s []).getD i dc).to ∧ ((a.rows.getD s []).getD i dc).to < (a.rows.length : Int) := cell_to hva hb42 hra
                      have hcb : 0 ≤ ((b.rows.getD t []).getD i dc).to ∧ ((b.rows.getD t []).getD i dc).to < (b.rows.length : Int) := cell_to hvb hb53 hrb
                      have hup : ((b.rows.getD t []).getD i dc).to.toNat < upto a.rows.length b.rows.length ((a.rows.getD s []).getD i dc).to.toNat := (by rw [upto_lt (by omega)]; omega)
                      refine awpS_skip ?_
                      refine awpS_seq ?_
                      refine awpS_block ?_
                      refine awpS_seq ?_
                      refine awpS_cut (α := Unit) (fun _u => ⟨[(2, .int .i64 k), (3, .ptr (0, 0) 0 0), (4, .ptr (1, 0) 0 0), (7, .sl (2, 0) 0 a.rows.length), (9, .int .i64 q), (10, .sl (4, 0) 0 s), (11, .int .i64 s), (12, .sl (6, 0) 0 b.rows.length), (13, .int .i64 t), (14, .int .i64 i), (15, .ptr (7, 0) 0 0), (16, .ptr (8, 0) 0 0)], [(0, .one (.arr 1 4 (fun _ => encF a))), (1, .one (.arr 1 4 (fun _ => encF b))), (2, .one (.arr a.rows.length 1 (fun j _ => .sl (3, j + 1) 0 b.rows.length))), (3, .fam (.arr 0 1 (fun _ _ => .any)) (fun j => some (.arr (upto a.rows.length b.rows.length j) 1 (fun t _ => .bool (apB a b q j t))))), (4, .one (.arr s 1 (fun j _ => .sl (5, j + 1) 0 b.rows.length))), (5, .fam (.arr 0 1 (fun _ _ => .any)) (fun j => some (.arr (upto s b.rows.length j) 1 (fun t _ => .bool (apB a b (q + 1) j t))))), (6, .one (.arr b.rows.length 1 (fun j _ => .bool (if j < t then apB a b (q + 1) s j else if j = t then apPart a b q s t i else false)))), (7, .one (.arr 1 2 (fun _ => cellF ((a.rows.getD s []).getD i dc)))), (8, .one (.arr 1 2 (fun _ => cellF ((b.rows.getD t []).getD i dc))))], 9⟩) (fun _u => True) ?_ ?_ (by simp)
                      ·
                        refine awpS_draw hR mixed [] ⟨[], [18, 19], [(0, 0), (1, 0)]⟩ fun mu0 => ?_
                        refine awpA_tk T_ok [0, 1, 2, 3, 4, 5, 6, 7, 8, 9, 10, 11, 12, 13, 14, 15] [] (fuel := 4) [15, 14, 13, 12, 11, 10, 9, 8, 7, 6, 5, 4, 3, 2, 1, 0] (by decide +kernel) (by decide +kernel) rfl rfl fun K hK => ?_
                        simp [hG, List.getD_cons_zero, List.getD_cons_succ, -List.getD_eq_getElem?_getD]
                        refine ⟨Cond.mk (by omega), hK _ ?_⟩
                        clear K hK
                        refine awpA_two (fuel := 3) (i := 16) (k := 17) (by decide +kernel) ?_ ?_
                        ·
                          refine awpO_reg T_ok rfl ?_ fun K hK => ?_
                          · simp [hG, List.getD_cons_zero, List.getD_cons_succ, -List.getD_eq_getElem?_getD]
                          simp [hG, List.getD_cons_zero, List.getD_cons_succ, -List.getD_eq_getElem?_getD]
                          refine hK _ ?_
                          clear K hK
                          refine awpA_only (fuel := 2) (i := 17) (by decide +kernel) ?_
                          refine awpO_reg T_ok rfl ?_ fun K hK => ?_
                          · simp [hG, List.getD_cons_zero, List.getD_cons_succ, -List.getD_eq_getElem?_getD]
                          simp [hG, List.getD_cons_zero, List.getD_cons_succ, -List.getD_eq_getElem?_getD]
                          refine hK _ ?_
                          clear K hK
                          refine awpA_only (fuel := 1) (i := 18) (by decide +kernel) ?_
                          refine awpO_reg T_ok rfl ?_ fun K hK => ?_
                          · simp [hG, List.getD_cons_zero, List.getD_cons_succ, -List.getD_eq_getElem?_getD]
                          simp [hG, List.getD_cons_zero, List.getD_cons_succ, -List.getD_eq_getElem?_getD]
                          refine ⟨Cond.mk (by simp [-List.getD_eq_getElem?_getD]), hK _ ?_⟩
                          clear K hK
                          refine awpA_only (fuel := 0) (i := 19) (by decide +kernel) ?_
                          refine awpO_reg T_ok rfl ?_ fun K hK => ?_
                          · simp [hG, List.getD_cons_zero, List.getD_cons_succ, -List.getD_eq_getElem?_getD]
                          simp [hG, List.getD_cons_zero, List.getD_cons_succ, -List.getD_eq_getElem?_getD]
                          refine ⟨Cond.mk (by simp [-List.getD_eq_getElem?_getD]), hK _ ?_⟩
                          clear K hK
                          refine awpA_done (by decide +kernel) ?_
                          refine awpS_nil ?_
                          refine cut_end (()) (trivial) ?_
                          refine wk_of (id) (fun _ => false) (fun _ => false) ?_ ?_ rfl (Nat.zero_le _) (fun k hk => absurd hk (Nat.not_lt_zero _))
                          · simp [hG, List.getD_cons_zero, List.getD_cons_succ, -List.getD_eq_getElem?_getD]
                          · simp [hG, List.getD_cons_zero, List.getD_cons_succ, -List.getD_eq_getElem?_getD]
                        ·
                          refine awpO_reg T_ok rfl ?_ fun K hK => ?_
                          · simp [hG, List.getD_cons_zero, List.getD_cons_succ, -List.getD_eq_getElem?_getD]
                          simp [hG, List.getD_cons_zero, List.getD_cons_succ, -List.getD_eq_getElem?_getD]
                          refine hK _ ?_
                          clear K hK
                          refine awpA_only (fuel := 2) (i := 16) (by decide +kernel) ?_
                          refine awpO_reg T_ok rfl ?_ fun K hK => ?_
                          · simp [hG, List.getD_cons_zero, List.getD_cons_succ, -List.getD_eq_getElem?_getD]
                          simp [hG, List.getD_cons_zero, List.getD_cons_succ, -List.getD_eq_getElem?_getD]
                          refine hK _ ?_
                          clear K hK
                          refine awpA_only (fuel := 1) (i := 18) (by decide +kernel) ?_
                          refine awpO_reg T_ok rfl ?_ fun K hK => ?_
                          · simp [hG, List.getD_cons_zero, List.getD_cons_succ, -List.getD_eq_getElem?_getD]
                          simp [hG, List.getD_cons_zero, List.getD_cons_succ, -List.getD_eq_getElem?_getD]
                          refine ⟨Cond.mk (by simp [-List.getD_eq_getElem?_getD]), hK _ ?_⟩
                          clear K hK
                          refine awpA_only (fuel := 0) (i := 19) (by decide +kernel) ?_
                          refine awpO_reg T_ok rfl ?_ fun K hK => ?_
                          · simp [hG, List.getD_cons_zero, List.getD_cons_succ, -List.getD_eq_getElem?_getD]
                          simp [hG, List.getD_cons_zero, List.getD_cons_succ, -List.getD_eq_getElem?_getD]
                          refine ⟨Cond.mk (by simp [-List.getD_eq_getElem?_getD]), hK _ ?_⟩
                          clear K hK
                          refine awpA_done (by decide +kernel) ?_
                          refine awpS_nil ?_
                          refine cut_end (()) (trivial) ?_
                          refine wk_of (fun k => if k = 7 then 8 else if k = 8 then 7 else k) (fun _ => false) (fun _ => false) ?_ ?_ rfl (Nat.zero_le _) (fun k hk => absurd hk (Nat.not_lt_zero _))
                          · simp [hG, List.getD_cons_zero, List.getD_cons_succ, -List.getD_eq_getElem?_getD]
                          · simp [hG, List.getD_cons_zero, List.getD_cons_succ, -List.getD_eq_getElem?_getD]
                      ·
                        rintro ⟨⟩ -
                        refine awpS_seq ?_
                        refine awpS_draw hR mixed [] ⟨[], [], []⟩ fun mu0 => ?_
                        refine awpA_tk T_ok [0, 1, 2, 3, 4, 5, 6, 7, 8, 9, 10, 11, 12, 13, 14, 15] [] (fuel := 0) [15, 14, 13, 12, 11, 10, 9, 8, 7, 6, 5, 4, 3, 2, 1, 0] (by decide +kernel) (by decide +kernel) rfl rfl fun K hK => ?_
                        simp [hG, List.getD_cons_zero, List.getD_cons_succ, -List.getD_eq_getElem?_getD]
                        refine ⟨Cond.mk (by simp [-List.getD_eq_getElem?_getD]; repeat (first | intro _ | exact And.intro ‹_› ‹_› | apply And.intro | assumption | omega | exact decide_eq_true (by assumption))), hK _ ?_⟩
                        clear K hK
                        refine awpA_done (by decide +kernel) ?_
                        refine awpS_cond rfl (fun hb93 => ?_) (fun hb93 => ?_)
                        ·
                          try simp [-List.getD_eq_getElem?_getD] at hb93
                          have hp1 : apPart a b q s t (i + 1) = true := (by rw [apPart_succ]; unfold cellAt; rcases hb93 with h | h <;> simp [h, -List.getD_eq_getElem?_getD])
                          refine awpS_reg T_ok fun K hK => ?_
                          simp [hG, List.getD_cons_zero, List.getD_cons_succ, -List.getD_eq_getElem?_getD]
                          refine ⟨Cond.mk (by omega), hK _ ?_⟩
                          clear K hK
                          refine awpS_nil ?_
                          refine blockQ_norm (thenQ_norm ?_)
                          refine awpS_reg T_ok fun K hK => ?_
                          simp [hG, List.getD_cons_zero, List.getD_cons_succ, -List.getD_eq_getElem?_getD]
                          refine ⟨Cond.mk (by omega), hK _ ?_⟩
                          clear K hK
                          refine awpS_nil ?_
                          refine round_end (i + 1) (by omega) (by omega) ?_
                          refine wk_of (id) (fun _ => false) (fun _ => false) ?_ ?_ rfl (Nat.zero_le _) (fun k hk => absurd hk (Nat.not_lt_zero _))
                          · simp [hG, List.getD_cons_zero, List.getD_cons_succ, -List.getD_eq_getElem?_getD]
                          · simp [hG, List.getD_cons_zero, List.getD_cons_succ, -List.getD_eq_getElem?_getD]; exact fun j hj => upd_hit hp1
                        ·
                          try simp [-List.getD_eq_getElem?_getD] at hb93
                          have hp0 : apPart a b q s t (i + 1) = apPart a b q s t i := (by rw [apPart_succ]; unfold cellAt; simp [hb93.1, hb93.2, -List.getD_eq_getElem?_getD])
                          refine awpS_skip ?_
                          refine awpS_nil ?_
                          refine blockQ_norm (thenQ_norm ?_)
                          refine awpS_reg T_ok fun K hK => ?_
                          simp [hG, List.getD_cons_zero, List.getD_cons_succ, -List.getD_eq_getElem?_getD]
                          refine ⟨Cond.mk (by omega), hK _ ?_⟩
                          clear K hK
                          refine awpS_nil ?_
                          refine round_end (i + 1) (by omega) (by omega) ?_
                          refine wk_of (id) (fun _ => false) (fun _ => false) ?_ ?_ rfl (Nat.zero_le _) (fun k hk => absurd hk (Nat.not_lt_zero _))
                          · simp [hG, List.getD_cons_zero, List.getD_cons_succ, -List.getD_eq_getElem?_getD]
                          · simp [hG, List.getD_cons_zero, List.getD_cons_succ, -List.getD_eq_getElem?_getD]; exact fun j hj => by rw [hp0]
                    ·
                      try simp [-List.getD_eq_getElem?_getD] at hb59
                      obtain rfl : i = a.inputs.toNat := (by omega)
                      refine awpS_exit ?_
                      refine thenQ_exit (thenQ_exit ?_)
                      refine blockQ_exit (thenQ_norm ?_)
                      refine awpS_nil ?_
                      refine blockQ_norm (thenQ_norm ?_)
                      refine awpS_reg T_ok fun K hK => ?_
                      simp [hG, List.getD_cons_zero, List.getD_cons_succ, -List.getD_eq_getElem?_getD]
                      refine ⟨Cond.mk (by omega), hK _ ?_⟩
                      clear K hK
                      refine awpS_nil ?_
                      refine round_end (t + 1) (by omega) (by omega) ?_
                      refine wk_of (id) (fun _ => false) (fun _ => false) ?_ ?_ rfl (Nat.zero_le _) (fun k hk => absurd hk (Nat.not_lt_zero _))
                      · simp [hG, List.getD_cons_zero, List.getD_cons_succ, -List.getD_eq_getElem?_getD]
                      · simp [hG, List.getD_cons_zero, List.getD_cons_succ, -List.getD_eq_getElem?_getD]; exact fun j hj => upd_row
                ·
                  try simp [-List.getD_eq_getElem?_getD] at hb53
                  obtain rfl : t = b.rows.length := (by omega)
                  refine awpS_exit ?_
                  refine thenQ_exit (thenQ_exit ?_)
                  refine blockQ_exit (thenQ_norm ?_)
                  refine awpS_reg T_ok fun K hK => ?_
                  simp [hG, List.getD_cons_zero, List.getD_cons_succ, -List.getD_eq_getElem?_getD]
                  refine ⟨Cond.mk (by omega), hK _ ?_⟩
                  clear K hK
                  refine awpS_nil ?_
                  refine blockQ_norm (thenQ_norm ?_)
                  refine awpS_reg T_ok fun K hK => ?_
                  simp [hG, List.getD_cons_zero, List.getD_cons_succ, -List.getD_eq_getElem?_getD]
                  refine ⟨Cond.mk (by omega), hK _ ?_⟩
                  clear K hK
                  refine awpS_nil ?_
                  refine round_end (s + 1) (by omega) (by omega) ?_
                  refine wk_ofI (fun d => if d = (4, 0) then (8, 0) else if d = (5, s + 1) then (6, 0) else d) (fun _ => false) (fun _ => false) ?_ ?_ ?_ (Nat.zero_le _) (fun d hd => absurd hd (Nat.not_lt_zero _))
                  · simp [hG, List.getD_cons_zero, List.getD_cons_succ, -List.getD_eq_getElem?_getD]
                  · simp [hG, List.getD_cons_zero, List.getD_cons_succ, -List.getD_eq_getElem?_getD]; refine ⟨fun i hi => .inl (app_sl hi), fun i => ?_⟩; by_cases h : i = s; (subst h; simp [HLe, upto_own, -List.getD_eq_getElem?_getD]; try exact fun j hj => by first | rfl | simp [hj]); (simp [HLe, h, upto_succ h, -List.getD_eq_getElem?_getD])
                  · exact inj_two (f := fun id => (lkH _ id).isSome) (by simp [lkH]) (by simp [lkH]) (by decide)
            ·
              try simp [-List.getD_eq_getElem?_getD] at hb42
              obtain rfl : s = a.rows.length := (by omega)
              refine awpS_exit ?_
              refine thenQ_exit (thenQ_exit ?_)
              refine blockQ_exit (thenQ_norm ?_)
              refine awpS_reg T_ok fun K hK => ?_
              simp [hG, List.getD_cons_zero, List.getD_cons_succ, -List.getD_eq_getElem?_getD]
              refine hK _ ?_
              clear K hK
              refine awpS_nil ?_
              refine blockQ_norm (thenQ_norm ?_)
              refine awpS_reg T_ok fun K hK => ?_
              simp [hG, List.getD_cons_zero, List.getD_cons_succ, -List.getD_eq_getElem?_getD]
              refine ⟨Cond.mk (by omega), hK _ ?_⟩
              clear K hK
              refine awpS_nil ?_
              refine round_end (q + 1) (by omega) (by omega) ?_
              refine wk_ofI (fun d => if d = (2, 0) then (4, 0) else if d.1 = 3 then (5, d.2) else d) (fun _ => false) (fun _ => false) ?_ ?_ ?_ (Nat.zero_le _) (fun d hd => absurd hd (Nat.not_lt_zero _))
              · simp [hG, List.getD_cons_zero, List.getD_cons_succ, -List.getD_eq_getElem?_getD]
              · simp [hG, List.getD_cons_zero, List.getD_cons_succ, -List.getD_eq_getElem?_getD]
              · exact inj_swap (f := fun id => (lkH _ id).isSome) (by simp [lkH]) (fun _ => by simp [lkH]) (by decide)
        ·
          try simp [-List.getD_eq_getElem?_getD] at hb34
          obtain rfl : q = k := (by omega)
          refine awpS_exit ?_
          refine thenQ_exit (thenQ_exit ?_)
          refine blockQ_exit (thenQ_norm ?_)
          refine awpS_seq ?_
          refine awpS_reg T_ok fun K hK => ?_
          simp [hG, List.getD_cons_zero, List.getD_cons_succ, -List.getD_eq_getElem?_getD]
          refine hK _ ?_
          clear K hK
          refine awpS_ret ?_
          refine RetF_of (()) (fun k => k + 2) (fun _ => false) (fun _ => false) trivial ?_ ?_ (by rfl) (by simp) (fun k hk => absurd hk (Nat.not_lt_zero _))
          · simp [hG, List.getD_cons_zero, List.getD_cons_succ, -List.getD_eq_getElem?_getD]
          · simp [hG, List.getD_cons_zero, List.getD_cons_succ, -List.getD_eq_getElem?_getD]

set_option maxRecDepth 100000 in
theorem equivalent_c (a b : Enc) (hva : checkE a = 0) (hvb : checkE b = 0) (hab : a.inputs = b.inputs) : PC Try.prog 42 [.agg 4 (encF a), .agg 4 (encF b)] (rowsB (eqR a b)) := by
  have hal := rows_len hva
  have hbl := rows_len hvb
  refine PC_introS T_ok Try.func42 rfl (by simp [Try.ntmps42]) fun G hG hR => ?_
  simp only [Try.ntmps42, Try.results42] at hG ⊢
  simp only [argEnv, Nat.zero_add, Nat.reduceAdd]
  refine awpS_seq ?_
  refine awpS_reg T_ok fun K hK => ?_
  simp [hG, List.getD_cons_zero, List.getD_cons_succ, -List.getD_eq_getElem?_getD]
  refine ⟨Cond.mk (by simp [-List.getD_eq_getElem?_getD]), hK _ ?_⟩
  clear K hK
  refine awpS_seq ?_
  refine awpS_regL ?_
  refine awpL_reg T_ok 9 fun K hK => ?_
  simp [hG, List.getD_cons_zero, List.getD_cons_succ, -List.getD_eq_getElem?_getD]
  refine ⟨Cond.mk (by omega), hK _ ?_⟩
  clear K hK
  refine awpL_fc cal55 [] (fun _ => false) (apart_c a b (a.rows.length + b.rows.length) hva hvb hab (by omega)) rfl rfl rfl (by simp) (.inl fun _ => rfl) ?_ ?_ ?_ fun K hK x hI hno => ?_
  · simp [hG, List.getD_cons_zero, List.getD_cons_succ, -List.getD_eq_getElem?_getD]
  · simp [hG, List.getD_cons_zero, List.getD_cons_succ, -List.getD_eq_getElem?_getD]
  · simp [hG, List.getD_cons_zero, List.getD_cons_succ, -List.getD_eq_getElem?_getD]
  simp [hG, List.getD_cons_zero, List.getD_cons_succ, -List.getD_eq_getElem?_getD]
  refine hK _ ?_
  clear K hK
  refine awpL_reg T_ok 1 fun K hK => ?_
  simp [hG, List.getD_cons_zero, List.getD_cons_succ, -List.getD_eq_getElem?_getD]
  refine hK _ ?_
  clear K hK
  refine awpL_nil ?_
  refine awpS_seq ?_
  refine awpS_seq ?_
  refine awpS_reg T_ok fun K hK => ?_
  simp [hG, List.getD_cons_zero, List.getD_cons_succ, -List.getD_eq_getElem?_getD]
  refine hK _ ?_
  clear K hK
  refine awpS_block ?_
  refine awpS_loop (α := Nat) (fun s => ⟨[(2, .ptr (0, 0) 0 0), (3, .ptr (1, 0) 0 0), (5, .sl (2, 0) 0 a.rows.length), (6, .int .i64 s)], [(0, .one (.arr 1 4 (fun _ => encF a))), (1, .one (.arr 1 4 (fun _ => encF b))), (2, .one (.arr a.rows.length 1 (fun j _ => .sl (3, j + 1) 0 b.rows.length))), (3, .fam (.arr 0 1 (fun _ _ => .any)) (fun j => some (.arr (upto a.rows.length b.rows.length j) 1 (fun t _ => .bool (if j < s then !apB a b (a.rows.length + b.rows.length) j t else apB a b (a.rows.length + b.rows.length) j t)))))], 4⟩) (fun s => s ≤ a.rows.length) (fun s => a.rows.length - s) (0) (Nat.zero_le _) ?_ ?_
  ·
    refine wk_of (id) (fun _ => false) (fun _ => false) ?_ ?_ rfl (Nat.zero_le _) (fun k hk => absurd hk (Nat.not_lt_zero _))
    · simp [hG, List.getD_cons_zero, List.getD_cons_succ, -List.getD_eq_getElem?_getD]
    · simp [hG, List.getD_cons_zero, List.getD_cons_succ, -List.getD_eq_getElem?_getD]
  ·
    rintro s hs
    refine awpS_seq ?_
    refine awpS_seq ?_
    refine awpS_reg T_ok fun K hK => ?_
    simp [hG, List.getD_cons_zero, List.getD_cons_succ, -List.getD_eq_getElem?_getD]
    refine hK _ ?_
    clear K hK
    refine awpS_cond rfl (fun hb21 => ?_) (fun hb21 => ?_)
    ·
      try simp [-List.getD_eq_getElem?_getD] at hb21
      have hus : upto a.rows.length b.rows.length s = b.rows.length := upto_lt (by omega)
      refine awpS_skip ?_
      refine awpS_seq ?_
      refine awpS_block ?_
      refine awpS_seq ?_
      refine awpS_reg T_ok fun K hK => ?_
      simp [hG, List.getD_cons_zero, List.getD_cons_succ, -List.getD_eq_getElem?_getD]
      refine hK _ ?_
      clear K hK
      refine awpS_block ?_
      refine awpS_loop (α := Nat) (fun r => ⟨[(2, .ptr (0, 0) 0 0), (3, .ptr (1, 0) 0 0), (5, .sl (2, 0) 0 a.rows.length), (6, .int .i64 s), (7, .int .i64 r)], [(0, .one (.arr 1 4 (fun _ => encF a))), (1, .one (.arr 1 4 (fun _ => encF b))), (2, .one (.arr a.rows.length 1 (fun j _ => .sl (3, j + 1) 0 b.rows.length))), (3, .fam (.arr 0 1 (fun _ _ => .any)) (fun j => some (.arr (upto a.rows.length b.rows.length j) 1 (fun t _ => .bool (if j < s ∨ (j = s ∧ t < r) then !apB a b (a.rows.length + b.rows.length) j t else apB a b (a.rows.length + b.rows.length) j t)))))], 4⟩) (fun r => r ≤ b.rows.length) (fun r => b.rows.length - r) (0) (Nat.zero_le _) ?_ ?_
      ·
        refine wk_of (id) (fun _ => false) (fun _ => false) ?_ ?_ rfl (Nat.zero_le _) (fun k hk => absurd hk (Nat.not_lt_zero _))
        · simp [hG, List.getD_cons_zero, List.getD_cons_succ, -List.getD_eq_getElem?_getD]
        · simp [hG, List.getD_cons_zero, List.getD_cons_succ, -List.getD_eq_getElem?_getD]
      ·
        rintro r hr
        refine awpS_seq ?_
        refine awpS_seq ?_
        refine awpS_reg T_ok fun K hK => ?_
        simp [hG, List.getD_cons_zero, List.getD_cons_succ, -List.getD_eq_getElem?_getD]
        refine ⟨Cond.mk (by omega), hK _ ?_⟩
        clear K hK
        refine awpS_cond rfl (fun hb30 => ?_) (fun hb30 => ?_)
        ·
          try simp [-List.getD_eq_getElem?_getD] at hb30
          refine awpS_skip ?_
          refine awpS_seq ?_
          refine awpS_block ?_
          refine awpS_draw hR mixed [] ⟨[14], [], []⟩ fun mu0 => ?_
          refine awpA_tk T_ok [0, 1, 2, 3, 4, 5, 6, 7, 8, 9, 10, 11, 12, 13] [] (fuel := 1) [13, 12, 11, 10, 9, 8, 7, 6, 5, 4, 3, 2, 1, 0] (by decide +kernel) (by decide +kernel) rfl rfl fun K hK => ?_
          simp [hG, List.getD_cons_zero, List.getD_cons_succ, -List.getD_eq_getElem?_getD]
          refine ⟨Cond.mk (by omega), hK _ ?_⟩
          clear K hK
          refine awpA_only (fuel := 0) (i := 14) (by decide +kernel) ?_
          refine awpO_reg T_ok rfl ?_ fun K hK => ?_
          · simp [hG, List.getD_cons_zero, List.getD_cons_succ, -List.getD_eq_getElem?_getD]
          simp [hG, List.getD_cons_zero, List.getD_cons_succ, -List.getD_eq_getElem?_getD]
          refine ⟨Cond.mk (by omega), hK _ ?_⟩
          clear K hK
          refine awpA_done (by decide +kernel) ?_
          refine awpS_nil ?_
          refine blockQ_norm (thenQ_norm ?_)
          refine awpS_reg T_ok fun K hK => ?_
          simp [hG, List.getD_cons_zero, List.getD_cons_succ, -List.getD_eq_getElem?_getD]
          refine ⟨Cond.mk (by omega), hK _ ?_⟩
          clear K hK
          refine awpS_nil ?_
          refine round_end (r + 1) (by omega) (by omega) ?_
          refine wk_of (id) (fun _ => false) (fun _ => false) ?_ ?_ rfl (Nat.zero_le _) (fun k hk => absurd hk (Nat.not_lt_zero _))
          · simp [hG, List.getD_cons_zero, List.getD_cons_succ, -List.getD_eq_getElem?_getD]
          · simp [hG, List.getD_cons_zero, List.getD_cons_succ, -List.getD_eq_getElem?_getD]; intro i; by_cases h : i = s; (subst h; simp [HLe, hus, -List.getD_eq_getElem?_getD]; exact fun j _ => flip_upd (X := fun j => !apB a b (a.rows.length + b.rows.length) i j) (Y := fun j => apB a b (a.rows.length + b.rows.length) i j)); (simp [HLe, h, -List.getD_eq_getElem?_getD])
        ·
          try simp [-List.getD_eq_getElem?_getD] at hb30
          obtain rfl : r = b.rows.length := (by omega)
          refine awpS_exit ?_
          refine thenQ_exit (thenQ_exit ?_)
          refine blockQ_exit (thenQ_norm ?_)
          refine awpS_nil ?_
          refine blockQ_norm (thenQ_norm ?_)
          refine awpS_reg T_ok fun K hK => ?_
          simp [hG, List.getD_cons_zero, List.getD_cons_succ, -List.getD_eq_getElem?_getD]
          refine ⟨Cond.mk (by omega), hK _ ?_⟩
          clear K hK
          refine awpS_nil ?_
          refine round_end (s + 1) (by omega) (by omega) ?_
          refine wk_of (id) (fun _ => false) (fun _ => false) ?_ ?_ rfl (Nat.zero_le _) (fun k hk => absurd hk (Nat.not_lt_zero _))
          · simp [hG, List.getD_cons_zero, List.getD_cons_succ, -List.getD_eq_getElem?_getD]
          · simp [hG, List.getD_cons_zero, List.getD_cons_succ, -List.getD_eq_getElem?_getD]; exact fun i t h => flip_end h
    ·
      try simp [-List.getD_eq_getElem?_getD] at hb21
      obtain rfl : s = a.rows.length := (by omega)
      refine awpS_exit ?_
      refine thenQ_exit (thenQ_exit ?_)
      refine blockQ_exit (thenQ_norm ?_)
      refine awpS_seq ?_
      refine awpS_reg T_ok fun K hK => ?_
      simp [hG, List.getD_cons_zero, List.getD_cons_succ, -List.getD_eq_getElem?_getD]
      refine hK _ ?_
      clear K hK
      refine awpS_ret ?_
      refine RetOK_of ?_
      simp [hG, List.getD_cons_zero, List.getD_cons_succ, -List.getD_eq_getElem?_getD]
      intro i hi; rw [eqR_row hi, upto_lt hi]; simp [hi]; exact fun t ht => by simp [ht]

end Go.Proofs.Ytmjkbidnghcfnaa
