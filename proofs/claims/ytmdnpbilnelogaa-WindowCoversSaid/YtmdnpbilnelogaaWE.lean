/-
  Walks: the reference's windows, its Build, Search, Covers.
-/
import Derived.Test.YtmdnpbilnelogaaWD
import Derived.Test.YtmdnpbilnelogaaND
namespace Go.Proofs.Ytmdnpbilnelogaa
set_option linter.unusedSimpArgs false
set_option linter.unusedVariables false
open Go Go.Lift Go.Proofs
theorem pow_occ {e : Enc} {n : Nat} (hr : 0 < e.rows.length) (hm : manyB e n = false) : e.inputs.toNat ^ n ≤ 65536 ∧ e.rows.length * e.inputs.toNat ^ n ≤ 65536 := by
  simp only [manyB, decide_eq_false_iff_not, Nat.not_lt] at hm
  unfold cntN at hm
  have := Nat.le_mul_of_pos_left (e.inputs.toNat ^ n) hr
  omega
theorem occS_len {e : Enc} {p n : Nat} : ∀ s : Nat, (occS e p n s).length = s * e.inputs.toNat ^ n
  | 0 => by simp [occS]
  | s + 1 => by
    rw [occS_succ]
    unfold occT
    rw [List.length_append, occS_len s, List.length_map, List.length_range, Nat.succ_mul]
theorem occT_len {e : Enc} {p n s t : Nat} : (occT e p n s t).length = s * e.inputs.toNat ^ n + t := by
  unfold occT
  rw [List.length_append, occS_len s, List.length_map, List.length_range]
/-- the digits, while the last j are set back. -/
def zdg (I n t j q : Nat) : Int := if n - j ≤ q then 0 else (digs I n t).getD q 0
theorem zdg_zero {I n t q : Nat} (hq : q < n) : zdg I n t 0 q = (digs I n t).getD q 0 := if_neg (by omega)
theorem zdg_succ {I n t j q : Nat} (hj : j < n) : zdg I n t (j + 1) q = if q = n - 1 - j then 0 else zdg I n t j q := by
  unfold zdg
  by_cases h1 : q = n - 1 - j
  · rw [if_pos h1, if_pos (by omega)]
  · rw [if_neg h1]
    by_cases h2 : n - j ≤ q
    · rw [if_pos h2, if_pos (by omega)]
    · rw [if_neg h2, if_neg (by omega)]
theorem zdg_bump {I n t j q : Nat} (hj : j < n) (hq : q < n) : (if q = n - 1 - j then zdg I n t j (n - 1 - j) + 1 else zdg I n t j q) = bump (digs I n t) (n - 1 - j) q := by
  unfold zdg bump
  by_cases h1 : q = n - 1 - j
  · subst h1
    rw [if_pos rfl, if_neg (by omega), if_neg (by omega), if_pos rfl]
  · rw [if_neg h1]
    by_cases h2 : q < n - 1 - j
    · rw [if_pos h2, if_neg (by omega)]
    · rw [if_neg h2, if_neg h1, if_pos (by omega)]
set_option maxRecDepth 100000 in
set_option maxHeartbeats 1000000 in
theorem occurring_c (e : Enc) (hv : checkE e = 0) (p f n : Nat) (hnn : n = p + 1 + f) (hn : n ≤ 16) (hm : manyB e n = false) : PC Try.prog 51 [.agg 4 (encF e), .int .i64 (p : Nat), .int .i64 (f : Nat)] (ents (pathsL e p f)) := by
  have hr := (checkE_valid hv).2.1
  have h64 := rows_len hv
  have hin := (checkE_valid hv).1.inputs
  have hbk := (checkE_valid hv).1.block
  have hI : 0 < e.inputs.toNat := (by omega)
  have hpb := pow_occ hr hm
  have hII : (e.inputs.toNat : Int) = e.inputs := Int.toNat_of_nonneg (by omega)
  refine PC_introS T_ok Try.func51 rfl (by simp [Try.ntmps51]) fun G hG hR => ?_
  simp only [Try.ntmps51, Try.results51] at hG ⊢
  simp only [argEnv, Nat.zero_add, Nat.reduceAdd]
  refine awpS_seq ?_
  refine awpS_reg T_ok fun K hK => ?_
  simp [hG, List.getD_cons_zero, List.getD_cons_succ, -List.getD_eq_getElem?_getD, pureOp, occS_zero]
  refine ⟨Cond.mk (by exact trivial), hK _ ?_⟩
  clear K hK
  refine awpS_seq ?_
  refine awpS_reg T_ok fun K hK => ?_
  simp [hG, List.getD_cons_zero, List.getD_cons_succ, -List.getD_eq_getElem?_getD, pureOp, occS_zero]
  refine ⟨Cond.mk (by omega), hK _ ?_⟩
  clear K hK
  refine awpS_seq ?_
  refine awpS_reg T_ok fun K hK => ?_
  simp [hG, List.getD_cons_zero, List.getD_cons_succ, -List.getD_eq_getElem?_getD, pureOp, occS_zero]
  refine hK _ ?_
  clear K hK
  refine awpS_seq ?_
  refine awpS_seq ?_
  refine awpS_reg T_ok fun K hK => ?_
  simp [hG, List.getD_cons_zero, List.getD_cons_succ, -List.getD_eq_getElem?_getD, pureOp, occS_zero]
  refine hK _ ?_
  clear K hK
  refine awpS_block ?_
  refine awpS_loop (α := Nat) (fun s => ⟨[(1, .int .i64 (p : Nat)), (3, .ptr (0, 0) 0 0), (7, .int .i64 (n : Nat)), (8, .sl (1, 0) 0 (occS e p n s).length), (9, .int .i64 (s : Nat))], [(0, .one (.arr 1 4 (fun _ => encF e))), (1, .one (.arr (occS e p n s).length 2 (fun q j => entF ((occS e p n s).getD q den) j)))], 2⟩) (fun s => s ≤ e.rows.length) (fun s => e.rows.length - s) (0) (Nat.zero_le _) ?_ ?_
  ·
    refine wk_of (id) (fun _ => false) (fun _ => false) ?_ ?_ rfl (Nat.zero_le _) (fun k hk => absurd hk (Nat.not_lt_zero _))
    · simp [hG, occS_zero, List.getD_cons_zero, List.getD_cons_succ, -List.getD_eq_getElem?_getD]; omega
    · simp [hG, List.getD_cons_zero, List.getD_cons_succ, -List.getD_eq_getElem?_getD, pureOp, occS_zero]
  ·
    rintro s hs
    refine awpS_seq ?_
    refine awpS_seq ?_
    refine awpS_reg T_ok fun K hK => ?_
    simp [hG, List.getD_cons_zero, List.getD_cons_succ, -List.getD_eq_getElem?_getD, pureOp, occS_zero]
    refine hK _ ?_
    clear K hK
    refine awpS_cond rfl (fun hb25 => ?_) (fun hb25 => ?_)
    ·
      try simp [-List.getD_eq_getElem?_getD] at hb25
      have hsl : s < e.rows.length := (by omega)
      have hsm := Nat.mul_le_mul_right (e.inputs.toNat ^ n) (show s + 1 ≤ e.rows.length by omega)
      rw [Nat.succ_mul] at hsm
      refine awpS_skip ?_
      refine awpS_seq ?_
      refine awpS_block ?_
      refine awpS_seq ?_
      refine awpS_reg T_ok fun K hK => ?_
      simp [hG, List.getD_cons_zero, List.getD_cons_succ, -List.getD_eq_getElem?_getD, pureOp, occS_zero]
      refine ⟨Cond.mk (by omega), hK _ ?_⟩
      clear K hK
      refine awpS_block ?_
      refine awpS_loop (α := Nat) (fun t => ⟨[(1, .int .i64 (p : Nat)), (3, .ptr (0, 0) 0 0), (7, .int .i64 (n : Nat)), (8, .sl (1, 0) 0 (occT e p n s t).length), (9, .int .i64 (s : Nat)), (10, .sl (2, 0) 0 n)], [(0, .one (.arr 1 4 (fun _ => encF e))), (1, .one (.arr (occT e p n s t).length 2 (fun q j => entF ((occT e p n s t).getD q den) j))), (2, .one (.arr n 1 (fun q _ => .int .i64 ((digs e.inputs.toNat n t).getD q 0))))], 3⟩) (fun t => t < e.inputs.toNat ^ n) (fun t => e.inputs.toNat ^ n - t) (0) (Nat.pow_pos hI) ?_ ?_
      ·
        refine wk_of (id) (fun _ => false) (fun _ => false) ?_ ?_ rfl (Nat.zero_le _) (fun k hk => absurd hk (Nat.not_lt_zero _))
        · rw [occT_zero]; simp [hG, List.getD_cons_zero, List.getD_cons_succ, -List.getD_eq_getElem?_getD]
        · rw [occT_zero, digs_zero hI]; simp [hG, List.getD_cons_zero, List.getD_cons_succ, -List.getD_eq_getElem?_getD]; exact fun i hi => by simp [List.getD, hi]
      ·
        rintro t ht
        have hDl := digs_len (I := e.inputs.toNat) (k := n) (t := t)
        have hDok := digs_ok hI ht
        have hgood : ∀ d ∈ (digs e.inputs.toNat n t), badI e d = false := fun d hd => bad_no.2 (by have := hDok d hd; omega)
        have hol := occT_len (e := e) (p := p) (n := n) (s := s) (t := t)
        have ho1 : (occT e p n s (t + 1)).length = (occT e p n s t).length + 1 := (by rw [occT_len, occT_len]; omega)
        refine awpS_block ?_
        refine awpS_seq ?_
        refine awpS_reg T_ok fun K hK => ?_
        simp [hG, List.getD_cons_zero, List.getD_cons_succ, -List.getD_eq_getElem?_getD, pureOp, occS_zero]
        refine hK _ ?_
        clear K hK
        refine awpS_seq ?_
        refine awpS_seq ?_
        refine awpS_reg T_ok fun K hK => ?_
        simp [hG, List.getD_cons_zero, List.getD_cons_succ, -List.getD_eq_getElem?_getD, pureOp, occS_zero]
        refine hK _ ?_
        clear K hK
        refine awpS_block ?_
        refine awpS_loop (α := Nat) (fun i => ⟨[(1, .int .i64 (p : Nat)), (3, .ptr (0, 0) 0 0), (7, .int .i64 (n : Nat)), (8, .sl (1, 0) 0 (occT e p n s t).length), (9, .int .i64 (s : Nat)), (10, .sl (2, 0) 0 n), (11, .str (runE e s ((digs e.inputs.toNat n t).take i)).1), (12, .int .i64 (runE e s ((digs e.inputs.toNat n t).take i)).2), (13, .int .i64 (i : Nat))], [(0, .one (.arr 1 4 (fun _ => encF e))), (1, .one (.arr (occT e p n s t).length 2 (fun q j => entF ((occT e p n s t).getD q den) j))), (2, .one (.arr n 1 (fun q _ => .int .i64 ((digs e.inputs.toNat n t).getD q 0))))], 3⟩) (fun i => i ≤ n) (fun i => n - i) (0) (Nat.zero_le _) ?_ ?_
        ·
          refine wk_of (id) (fun _ => false) (fun _ => false) ?_ ?_ rfl (Nat.zero_le _) (fun k hk => absurd hk (Nat.not_lt_zero _))
          · simp [hG, runE, List.getD_cons_zero, List.getD_cons_succ, -List.getD_eq_getElem?_getD]
          · simp [hG, List.getD_cons_zero, List.getD_cons_succ, -List.getD_eq_getElem?_getD, pureOp, occS_zero]
        ·
          rintro i hi
          have hgt : ∀ d ∈ (digs e.inputs.toNat n t).take i, badI e d = false := fun d hd => hgood d (List.mem_of_mem_take hd)
          obtain ⟨r1, r2, r3⟩ := runE_ok hv (s := (s : Int)) (l := (digs e.inputs.toNat n t).take i) (by omega) (by omega) hgt
          rw [List.length_take, hDl, Nat.min_eq_left hi] at r3
          have hmb := mul_bd (a := (i : Int)) (b := e.block) (c := 16) (by omega) hbk
          refine awpS_seq ?_
          refine awpS_seq ?_
          refine awpS_reg T_ok fun K hK => ?_
          simp [hG, List.getD_cons_zero, List.getD_cons_succ, -List.getD_eq_getElem?_getD, pureOp, occS_zero]
          refine hK _ ?_
          clear K hK
          refine awpS_cond rfl (fun hb33 => ?_) (fun hb33 => ?_)
          ·
            try simp [-List.getD_eq_getElem?_getD] at hb33
            have hil : i < n := (by omega)
            have hdi := hDok _ (getD_mem (d := (0 : Int)) (show i < (digs e.inputs.toNat n t).length by omega))
            have hrl := row_eq hv (k := (runE e s ((digs e.inputs.toNat n t).take i)).2.toNat) (by omega)
            have hcw := cell_wlen hv (s := (runE e s ((digs e.inputs.toNat n t).take i)).2.toNat) (i := ((digs e.inputs.toNat n t).getD i 0).toNat) (by omega) (by omega)
            unfold cellAt at hcw
            have hrt := runE_take (e := e) (s := (s : Int)) (l := (digs e.inputs.toNat n t)) (k := i) (by omega)
            unfold cellAt at hrt
            refine awpS_skip ?_
            refine awpS_seq ?_
            refine awpS_block ?_
            refine awpS_seq ?_
            refine awpS_draw hR mixed [] ⟨[12], [], []⟩ fun mu0 => ?_
            refine awpA_tk T_ok [0, 1, 2, 3, 4, 5, 6, 7, 8, 9, 10] [] (fuel := 2) [10, 9, 8, 7, 6, 5, 4, 3, 2, 1, 0] (by decide +kernel) (by decide +kernel) rfl rfl fun K hK => ?_
            simp [hG, List.getD_cons_zero, List.getD_cons_succ, -List.getD_eq_getElem?_getD, pureOp, occS_zero]
            refine ⟨Cond.mk (by omega), hK _ ?_⟩
            clear K hK
            refine awpA_only (fuel := 1) (i := 11) (by decide +kernel) ?_
            refine awpO_reg T_ok rfl ?_ fun K hK => ?_
            · simp [hG, List.getD_cons_zero, List.getD_cons_succ, -List.getD_eq_getElem?_getD, pureOp, occS_zero]; try exact trivial
            simp [hG, List.getD_cons_zero, List.getD_cons_succ, -List.getD_eq_getElem?_getD, pureOp, occS_zero]
            refine hK _ ?_
            clear K hK
            refine awpA_only (fuel := 0) (i := 12) (by decide +kernel) ?_
            refine awpO_reg T_ok rfl ?_ fun K hK => ?_
            · simp [hG, List.getD_cons_zero, List.getD_cons_succ, -List.getD_eq_getElem?_getD, pureOp, occS_zero]; try exact trivial
            simp [hG, List.getD_cons_zero, List.getD_cons_succ, -List.getD_eq_getElem?_getD, pureOp, occS_zero]
            refine ⟨Cond.mk (by exact trivial), hK _ ?_⟩
            clear K hK
            refine awpA_done (by decide +kernel) ?_
            refine awpS_draw hR mixed [] ⟨[], [], []⟩ fun mu0 => ?_
            refine awpA_tk T_ok [0, 1, 2, 3, 4, 5, 6, 7] [] (fuel := 0) [7, 6, 5, 4, 3, 2, 1, 0] (by decide +kernel) (by decide +kernel) rfl rfl fun K hK => ?_
            simp [hG, List.getD_cons_zero, List.getD_cons_succ, -List.getD_eq_getElem?_getD, pureOp, occS_zero]
            refine ⟨Cond.mk (by omega), hK _ ?_⟩
            clear K hK
            refine awpA_done (by decide +kernel) ?_
            refine awpS_nil ?_
            refine blockQ_norm (thenQ_norm ?_)
            refine awpS_reg T_ok fun K hK => ?_
            simp [hG, List.getD_cons_zero, List.getD_cons_succ, -List.getD_eq_getElem?_getD, pureOp, occS_zero]
            refine ⟨Cond.mk (by omega), hK _ ?_⟩
            clear K hK
            refine awpS_nil ?_
            refine round_end (i + 1) (by omega) (by omega) ?_
            refine wk_of (id) (fun _ => false) (fun _ => false) ?_ ?_ rfl (Nat.zero_le _) (fun k hk => absurd hk (Nat.not_lt_zero _))
            · rw [hrt]; simp [hG, List.getD_cons_zero, List.getD_cons_succ, -List.getD_eq_getElem?_getD]
            · simp [hG, List.getD_cons_zero, List.getD_cons_succ, -List.getD_eq_getElem?_getD, pureOp, occS_zero]
          ·
            try simp [-List.getD_eq_getElem?_getD] at hb33
            obtain rfl : n = i := (by omega)
            have htk : (digs e.inputs.toNat n t).take n = (digs e.inputs.toNat n t) := List.take_of_length_le (by omega)
            rw [htk]
            refine awpS_exit ?_
            refine thenQ_exit (thenQ_exit ?_)
            refine blockQ_exit (thenQ_norm ?_)
            refine awpS_seq ?_
            refine awpS_reg T_ok fun K hK => ?_
            simp [hG, List.getD_cons_zero, List.getD_cons_succ, -List.getD_eq_getElem?_getD, pureOp, occS_zero]
            refine ⟨Cond.mk (by simp [-List.getD_eq_getElem?_getD]; omega), hK _ ?_⟩
            clear K hK
            refine awpS_seq ?_
            refine awpS_reg T_ok fun K hK => ?_
            simp [hG, List.getD_cons_zero, List.getD_cons_succ, -List.getD_eq_getElem?_getD, pureOp, occS_zero]
            refine ⟨Cond.mk (by omega), hK _ ?_⟩
            clear K hK
            refine awpS_seq ?_
            refine awpS_block ?_
            refine awpS_loop (α := Nat) (fun j => ⟨[(1, .int .i64 (p : Nat)), (3, .ptr (0, 0) 0 0), (7, .int .i64 (n : Nat)), (8, .sl (1, 0) 0 ((occT e p n s t).length + 1)), (9, .int .i64 (s : Nat)), (10, .sl (2, 0) 0 n), (15, .int .i64 ((n : Nat) - 1 - (j : Nat) : Int))], [(0, .one (.arr 1 4 (fun _ => encF e))), (1, .one (.arr (occT e p n s (t + 1)).length 2 (fun q j => entF ((occT e p n s (t + 1)).getD q den) j))), (2, .one (.arr n 1 (fun q _ => .int .i64 (zdg e.inputs.toNat n t j q))))], 3⟩) (fun j => j ≤ n ∧ ∀ q, n - j ≤ q → q < n → (digs e.inputs.toNat n t).getD q 0 = e.inputs - 1) (fun j => n - j) (0) (⟨Nat.zero_le _, fun q h1 h2 => absurd h2 (by omega)⟩) ?_ ?_
            ·
              refine wk_of (fun k => if k = 1 then 4 else k) (fun _ => false) (fun _ => false) ?_ ?_ rfl (Nat.zero_le _) (fun k hk => absurd hk (Nat.not_lt_zero _))
              · rw [occT_succ]; simp [hG, List.getD_cons_zero, List.getD_cons_succ, -List.getD_eq_getElem?_getD]
              · rw [occT_succ]; simp [hG, List.getD_cons_zero, List.getD_cons_succ, -List.getD_eq_getElem?_getD]; exact ⟨fun i hi => ⟨app_ent (j := 0) hi rfl, app_ent (j := 1) hi rfl⟩, fun i hi => (zdg_zero hi).symm⟩
            ·
              rintro j ⟨hj, hz⟩
              refine awpS_seq ?_
              refine awpS_seq ?_
              refine awpS_draw hR mixed [] ⟨[], [], []⟩ fun mu0 => ?_
              refine awpA_tk T_ok [0, 1, 2, 3, 4, 5, 6, 7, 8, 9, 10, 11] [] (fuel := 0) [11, 10, 9, 8, 7, 6, 5, 4, 3, 2, 1, 0] (by decide +kernel) (by decide +kernel) rfl rfl fun K hK => ?_
              simp [hG, List.getD_cons_zero, List.getD_cons_succ, -List.getD_eq_getElem?_getD, pureOp, occS_zero]
              refine ⟨Cond.mk (by omega), hK _ ?_⟩
              clear K hK
              refine awpA_done (by decide +kernel) ?_
              refine awpS_cond rfl (fun hb75 => ?_) (fun hb75 => ?_)
              ·
                try simp [-List.getD_eq_getElem?_getD] at hb75
                have hjn : j < n := (by omega)
                have hzi : zdg e.inputs.toNat n t j (n - 1 - j) = (digs e.inputs.toNat n t).getD (n - 1 - j) 0 := if_neg (by omega)
                refine awpS_skip ?_
                refine awpS_block ?_
                refine awpS_seq ?_
                refine awpS_reg T_ok fun K hK => ?_
                simp [hG, List.getD_cons_zero, List.getD_cons_succ, -List.getD_eq_getElem?_getD, pureOp, occS_zero]
                refine ⟨Cond.mk (by omega), hK _ ?_⟩
                clear K hK
                refine awpS_reg T_ok fun K hK => ?_
                simp [hG, List.getD_cons_zero, List.getD_cons_succ, -List.getD_eq_getElem?_getD, pureOp, occS_zero]
                refine ⟨Cond.mk (by omega), hK _ ?_⟩
                clear K hK
                refine awpS_nil ?_
                refine blockQ_norm (thenQ_norm ?_)
                refine awpS_nil ?_
                refine round_end (j + 1) (⟨by omega, fun q h1 h2 => by by_cases h3 : q = n - 1 - j; (subst h3; rw [← hzi]; exact hb75.2); exact hz q (by omega) h2⟩) (by omega) ?_
                refine wk_of (id) (fun _ => false) (fun _ => false) ?_ ?_ rfl (Nat.zero_le _) (fun k hk => absurd hk (Nat.not_lt_zero _))
                · simp [hG, List.getD_cons_zero, List.getD_cons_succ, -List.getD_eq_getElem?_getD]; omega
                · simp [hG, List.getD_cons_zero, List.getD_cons_succ, -List.getD_eq_getElem?_getD]; exact fun i hi => by rw [zdg_succ hjn]; split <;> rfl
              ·
                try simp [-List.getD_eq_getElem?_getD] at hb75
                refine awpS_exit ?_
                refine thenQ_exit (thenQ_exit ?_)
                refine blockQ_exit (thenQ_norm ?_)
                refine awpS_seq ?_
                refine awpS_seq ?_
                refine awpS_reg T_ok fun K hK => ?_
                simp [hG, List.getD_cons_zero, List.getD_cons_succ, -List.getD_eq_getElem?_getD, pureOp, occS_zero]
                refine hK _ ?_
                clear K hK
                refine awpS_cond rfl (fun hb82 => ?_) (fun hb82 => ?_)
                ·
                  try simp [-List.getD_eq_getElem?_getD] at hb82
                  have hlast := digs_last hI ht (fun q hq => by have := hz q (by omega) hq; omega)
                  refine awpS_exit ?_
                  refine blockQ_exit_ne (by decide) (thenQ_exit ?_)
                  refine thenQ_exit (thenQ_exit ?_)
                  refine blockQ_exit (thenQ_norm ?_)
                  refine awpS_nil ?_
                  refine blockQ_norm (thenQ_norm ?_)
                  refine awpS_reg T_ok fun K hK => ?_
                  simp [hG, List.getD_cons_zero, List.getD_cons_succ, -List.getD_eq_getElem?_getD, pureOp, occS_zero]
                  refine ⟨Cond.mk (by omega), hK _ ?_⟩
                  clear K hK
                  refine awpS_nil ?_
                  refine round_end (s + 1) (by omega) (by omega) ?_
                  refine wk_of (id) (fun _ => false) (fun _ => false) ?_ ?_ rfl (Nat.zero_le _) (fun k hk => absurd hk (Nat.not_lt_zero _))
                  · rw [occS_succ, ← hlast]; simp [hG, List.getD_cons_zero, List.getD_cons_succ, -List.getD_eq_getElem?_getD]; omega
                  · rw [occS_succ, ← hlast]; simp [hG, List.getD_cons_zero, List.getD_cons_succ, -List.getD_eq_getElem?_getD]
                ·
                  try simp [-List.getD_eq_getElem?_getD] at hb82
                  have hjn : j < n := (by omega)
                  have hzi : zdg e.inputs.toNat n t j (n - 1 - j) = (digs e.inputs.toNat n t).getD (n - 1 - j) 0 := if_neg (by omega)
                  have hdn := hDok _ (getD_mem (d := (0 : Int)) (show n - 1 - j < (digs e.inputs.toNat n t).length by omega))
                  have hnx := digs_next hI ht (i := n - 1 - j) (by omega) (by rw [← hzi, hII]; exact hb75 (by omega)) (fun q h1 h2 => by rw [hII]; exact hz q (by omega) h2)
                  refine awpS_skip ?_
                  refine awpS_reg T_ok fun K hK => ?_
                  simp [hG, List.getD_cons_zero, List.getD_cons_succ, -List.getD_eq_getElem?_getD, pureOp, occS_zero]
                  refine ⟨Cond.mk (by omega), hK _ ?_⟩
                  clear K hK
                  refine awpS_nil ?_
                  refine blockQ_norm (thenQ_norm ?_)
                  refine awpS_nil ?_
                  refine round_end (t + 1) (hnx.1) (by omega) ?_
                  refine wk_of (id) (fun _ => false) (fun _ => false) ?_ ?_ rfl (Nat.zero_le _) (fun k hk => absurd hk (Nat.not_lt_zero _))
                  · simp [hG, List.getD_cons_zero, List.getD_cons_succ, -List.getD_eq_getElem?_getD]; omega
                  · simp [hG, List.getD_cons_zero, List.getD_cons_succ, -List.getD_eq_getElem?_getD]; exact fun i hi => by rw [hnx.2 i hi, ← zdg_bump hjn hi]; split <;> rfl
    ·
      try simp [-List.getD_eq_getElem?_getD] at hb25
      obtain rfl : s = e.rows.length := (by omega)
      rw [paths_occ hv, ← hnn]
      refine awpS_exit ?_
      refine thenQ_exit (thenQ_exit ?_)
      refine blockQ_exit (thenQ_norm ?_)
      refine awpS_seq ?_
      refine awpS_reg T_ok fun K hK => ?_
      simp [hG, List.getD_cons_zero, List.getD_cons_succ, -List.getD_eq_getElem?_getD, pureOp, occS_zero]
      refine hK _ ?_
      clear K hK
      refine awpS_ret ?_
      refine RetOK_of ?_
      simp [hG, List.getD_cons_zero, List.getD_cons_succ, -List.getD_eq_getElem?_getD, pureOp, occS_zero]

end Go.Proofs.Ytmdnpbilnelogaa
