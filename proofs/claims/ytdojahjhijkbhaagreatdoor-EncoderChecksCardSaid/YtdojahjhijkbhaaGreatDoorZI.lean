/-
  Walks: graphs of encoders.
-/
import Derived.Test.YtdojahjhijkbhaaGreatDoorZH
import Derived.Test.YtdojahjhijkbhaaGreatDoorVH
namespace Go.Proofs.YtdojahjhijkbhaaGreatDoor
set_option linter.unusedSimpArgs false
set_option linter.unusedVariables false
open Go Go.Lift Go.Proofs

theorem upTo_pos {q : Int} (hq : 1 ≤ q) : ∀ k, 1 ≤ upTo q k
  | 0 => by simp [upTo]
  | k + 1 => by
    have h := upTo_pos hq k
    unfold upTo
    split
    · exact h
    · have := Int.mul_le_mul h hq (by omega) (by omega)
      omega
theorem upTo_next {q : Int} {k : Nat} (h : ¬ 256 < upTo q k) : upTo q (k + 1) = upTo q k * q := if_neg h
theorem up_end {q n : Int} {k : Nat} (hk : k ≤ n.toNat) (h : n ≤ k ∨ 256 < upTo q k) : upTo q k = upTo q n.toNat := by
  rcases h with h | h
  · rw [show k = n.toNat by omega]
  · exact (upTo_stay h hk).symm
/-- the cells of the first rows and of the first places of the next one. -/
def grK (e : Enc) (s i : Nat) : List Edge := grE e s ++ rowE e s i
theorem grK_zero {e : Enc} {s : Nat} : grK e s 0 = grE e s := by simp [grK, rowE]
theorem grK_none {e : Enc} : grE e 0 = [] := rfl
theorem grK_succ {e : Enc} {s i : Nat} : grK e s (i + 1) = grK e s i ++ [cellE e s i] := by unfold grK; rw [rowE_succ, List.append_assoc]
theorem grK_row {e : Enc} {s : Nat} : grE e (s + 1) = grK e s (e.rows.getD s []).length := grE_succ
theorem grK_len {e : Enc} (hv : checkE e = 0) {s i : Nat} (hs : s < e.rows.length) (hi : i ≤ (e.rows.getD s []).length) : (grK e s i).length ≤ 64 * 256 + 256 := by
  have h1 := grE_len (e := e) (m := 256) (fun s hs => row_len hv hs) (Nat.le_of_lt hs)
  have h2 := row_len hv hs
  have h3 := rows_len hv
  have h4 : (rowE e s i).length = i := by simp [rowE]
  have h5 : s * 256 ≤ 64 * 256 := Nat.mul_le_mul_right _ (by omega)
  unfold grK
  rw [List.length_append]
  omega
theorem grE_small {e : Enc} (hv : checkE e = 0) : (grE e e.rows.length).length ≤ 1000000 := by
  have h1 := grE_len (e := e) (m := 256) (fun s hs => row_len hv hs) (Nat.le_refl _)
  have h3 := rows_len hv
  have h5 : e.rows.length * 256 ≤ 64 * 256 := Nat.mul_le_mul_right _ (by omega)
  omega
theorem gr_bad {e : Enc} (h : ¬ checkE e = 0) : encGN e = 1 ∧ encGX e = ⟨0, 0, []⟩ := by
  have h1 : encGN e = 1 := if_pos h
  exact ⟨h1, by unfold encGX; rw [if_neg (by rw [h1]; decide)]⟩
theorem gr_over {e : Enc} (hv : checkE e = 0) (h : 256 < upTo e.letters e.block.toNat) : encGN e = 4 ∧ encGX e = ⟨0, 0, []⟩ := by
  have h1 : encGN e = 4 := by unfold encGN; rw [if_neg (fun k => k hv), if_pos h]
  exact ⟨h1, by unfold encGX; rw [if_neg (by rw [h1]; decide)]⟩
theorem gr_fin {e : Enc} (hv : checkE e = 0) (h : ¬ 256 < upTo e.letters e.block.toNat) : encGN e = mkN (upTo e.letters e.block.toNat) e.rows.length (grE e e.rows.length) ∧ encGX e = mkX (upTo e.letters e.block.toNat) e.rows.length (grE e e.rows.length) := by
  have h1 : encGN e = mkN (upTo e.letters e.block.toNat) e.rows.length (grE e e.rows.length) := by unfold encGN; rw [if_neg (fun k => k hv), if_neg h]
  refine ⟨h1, ?_⟩
  unfold encGX
  by_cases h2 : encGN e = 0
  · rw [if_pos h2]
  · rw [if_neg h2]
    rw [h1] at h2
    exact (mk_no rfl h2).symm
set_option maxRecDepth 100000 in
theorem raiseE_c (q n : Int) (hq : 1 ≤ q ∧ q ≤ 256) (hn : n ≤ 1000) : PC Tryz.prog 44 [.int .i64 q, .int .i64 n] (.int .i64 (upTo q n.toNat)) := by
  refine PC_introS T_ok Tryz.func44 rfl (by simp [Tryz.ntmps44]) fun G hG hR => ?_
  simp only [Tryz.ntmps44, Tryz.results44] at hG ⊢
  simp only [argEnv, Nat.zero_add, Nat.reduceAdd]
  refine awpS_seq ?_
  refine awpS_reg T_ok fun K hK => ?_
  simp [hG, List.getD_cons_zero, List.getD_cons_succ, -List.getD_eq_getElem?_getD]
  refine hK _ ?_
  clear K hK
  refine awpS_seq ?_
  refine awpS_reg T_ok fun K hK => ?_
  simp [hG, List.getD_cons_zero, List.getD_cons_succ, -List.getD_eq_getElem?_getD]
  refine hK _ ?_
  clear K hK
  refine awpS_seq ?_
  refine awpS_seq ?_
  refine awpS_reg T_ok fun K hK => ?_
  simp [hG, List.getD_cons_zero, List.getD_cons_succ, -List.getD_eq_getElem?_getD]
  refine hK _ ?_
  clear K hK
  refine awpS_block ?_
  refine awpS_loop (α := Nat) (fun k => ⟨[(0, .int .i64 q), (5, .int .i64 (upTo q k)), (6, .int .i64 n), (7, .int .i64 k)], [], 0⟩) (fun k => k ≤ n.toNat) (fun k => n.toNat - k) (0) (Nat.zero_le _) ?_ ?_
  ·
    refine wk_of (id) (fun _ => false) (fun _ => false) ?_ ?_ rfl (Nat.zero_le _) (fun k hk => absurd hk (Nat.not_lt_zero _))
    · simp [hG, List.getD_cons_zero, List.getD_cons_succ, -List.getD_eq_getElem?_getD]; try rfl
    · simp [hG, List.getD_cons_zero, List.getD_cons_succ, -List.getD_eq_getElem?_getD]
  ·
    rintro k hk
    refine awpS_seq ?_
    refine awpS_reg T_ok fun K hK => ?_
    simp [hG, List.getD_cons_zero, List.getD_cons_succ, -List.getD_eq_getElem?_getD]
    refine hK _ ?_
    clear K hK
    refine awpS_seq ?_
    refine awpS_cond rfl (fun hb8 => ?_) (fun hb8 => ?_)
    ·
      try simp [-List.getD_eq_getElem?_getD] at hb8
      have hpos := upTo_pos hq.1 k
      refine awpS_skip ?_
      refine awpS_seq ?_
      refine awpS_block ?_
      refine awpS_seq ?_
      refine awpS_seq ?_
      refine awpS_reg T_ok fun K hK => ?_
      simp [hG, List.getD_cons_zero, List.getD_cons_succ, -List.getD_eq_getElem?_getD]
      refine hK _ ?_
      clear K hK
      refine awpS_cond rfl (fun hb10 => ?_) (fun hb10 => ?_)
      ·
        try simp [-List.getD_eq_getElem?_getD] at hb10
        refine awpS_seq ?_
        refine awpS_reg T_ok fun K hK => ?_
        simp [hG, List.getD_cons_zero, List.getD_cons_succ, -List.getD_eq_getElem?_getD]
        refine hK _ ?_
        clear K hK
        refine awpS_ret ?_
        refine blockQ_ret (thenQ_ret ?_)
        refine thenQ_ret (thenQ_ret ?_)
        refine blockQ_ret (thenQ_ret ?_)
        refine RetOK_of ?_
        simp [hG, List.getD_cons_zero, List.getD_cons_succ, -List.getD_eq_getElem?_getD]
        exact (upTo_stay hb10 (by omega)).symm
      ·
        try simp [-List.getD_eq_getElem?_getD] at hb10
        have hE := upTo_next (q := q) (k := k) (by omega)
        have hmul := mul_box hpos (by omega) hq
        refine awpS_skip ?_
        refine awpS_reg T_ok fun K hK => ?_
        simp [hG, List.getD_cons_zero, List.getD_cons_succ, -List.getD_eq_getElem?_getD]
        refine ⟨Cond.mk (by omega), hK _ ?_⟩
        clear K hK
        refine awpS_nil ?_
        refine blockQ_norm (thenQ_norm ?_)
        refine awpS_reg T_ok fun K hK => ?_
        simp [hG, List.getD_cons_zero, List.getD_cons_succ, -List.getD_eq_getElem?_getD]
        refine ⟨Cond.mk (by omega), hK _ ?_⟩
        clear K hK
        refine awpS_nil ?_
        refine round_end (k + 1) (by omega) (by omega) ?_
        refine wk_of (id) (fun _ => false) (fun _ => false) ?_ ?_ rfl (Nat.zero_le _) (fun k hk => absurd hk (Nat.not_lt_zero _))
        · rw [hE]; simp [hG, List.getD_cons_zero, List.getD_cons_succ, -List.getD_eq_getElem?_getD]
        · simp [hG, List.getD_cons_zero, List.getD_cons_succ, -List.getD_eq_getElem?_getD]
    ·
      try simp [-List.getD_eq_getElem?_getD] at hb8
      obtain rfl : k = n.toNat := (by omega)
      refine awpS_exit ?_
      refine thenQ_exit (thenQ_exit ?_)
      refine blockQ_exit (thenQ_norm ?_)
      refine awpS_seq ?_
      refine awpS_reg T_ok fun K hK => ?_
      simp [hG, List.getD_cons_zero, List.getD_cons_succ, -List.getD_eq_getElem?_getD]
      refine hK _ ?_
      clear K hK
      refine awpS_ret ?_
      refine RetOK_of ?_
      simp [hG, List.getD_cons_zero, List.getD_cons_succ, -List.getD_eq_getElem?_getD]

set_option maxRecDepth 100000 in
theorem graphE_c (e : Enc) : PC Tryz.prog 13 [.agg 4 (encF e)] (.tup 2 (fun j => [.agg 3 (grF (encGX e)), .int .i64 (encGN e)].getD j .any)) := by
  refine PC_introS T_ok Tryz.func13 rfl (by simp [Tryz.ntmps13]) fun G hG hR => ?_
  simp only [Tryz.ntmps13, Tryz.results13] at hG ⊢
  simp only [argEnv, Nat.zero_add, Nat.reduceAdd]
  refine awpS_seq ?_
  refine awpS_reg T_ok fun K hK => ?_
  simp [hG, List.getD_cons_zero, List.getD_cons_succ, -List.getD_eq_getElem?_getD, pureOp, grK_none, grK_zero]
  refine ⟨Cond.mk (by exact trivial), hK _ ?_⟩
  clear K hK
  refine awpS_seq ?_
  refine awpS_seq ?_
  refine awpS_regL ?_
  refine awpL_reg T_ok 1 fun K hK => ?_
  simp [hG, List.getD_cons_zero, List.getD_cons_succ, -List.getD_eq_getElem?_getD, pureOp, grK_none, grK_zero]
  refine hK _ ?_
  clear K hK
  refine awpL_call cal19 rfl rfl (fun _ => rfl) (fun hg => check_c e) (fun hg => ?_) (fun hg => ?_) fun K hK => ?_
  · simp [hG, List.getD_cons_zero, List.getD_cons_succ, -List.getD_eq_getElem?_getD, pureOp, grK_none, grK_zero]
  · simp [hG, List.getD_cons_zero, List.getD_cons_succ, -List.getD_eq_getElem?_getD, pureOp, grK_none, grK_zero]
  simp [hG, List.getD_cons_zero, List.getD_cons_succ, -List.getD_eq_getElem?_getD, pureOp, grK_none, grK_zero]
  refine hK _ ?_
  clear K hK
  refine awpL_reg T_ok 1 fun K hK => ?_
  simp [hG, List.getD_cons_zero, List.getD_cons_succ, -List.getD_eq_getElem?_getD, pureOp, grK_none, grK_zero]
  refine hK _ ?_
  clear K hK
  refine awpL_nil ?_
  refine awpS_cond rfl (fun hb14 => ?_) (fun hb14 => ?_)
  ·
    try simp [-List.getD_eq_getElem?_getD] at hb14
    refine awpS_seq ?_
    refine awpS_reg T_ok fun K hK => ?_
    simp [hG, List.getD_cons_zero, List.getD_cons_succ, -List.getD_eq_getElem?_getD, pureOp, grK_none, grK_zero]
    refine ⟨Cond.mk (by exact trivial), hK _ ?_⟩
    clear K hK
    refine awpS_ret ?_
    refine RetOK_of ?_
    simp [hG, List.getD_cons_zero, List.getD_cons_succ, -List.getD_eq_getElem?_getD, pureOp, grK_none, grK_zero]
    obtain ⟨e1, e2⟩ := gr_bad (by simpa using hb14); rw [e1, e2]; exact ⟨⟨rfl, rfl, rfl⟩, rfl⟩
  ·
    try simp [-List.getD_eq_getElem?_getD] at hb14
    have hv : checkE e = 0 := (by simpa using hb14)
    have hd := (checkE_valid hv).1
    obtain ⟨hd1, hd2, hd3⟩ := hd
    have h64 := rows_len hv
    refine awpS_skip ?_
    refine awpS_seq ?_
    refine awpS_regL ?_
    refine awpL_reg T_ok 4 fun K hK => ?_
    simp [hG, List.getD_cons_zero, List.getD_cons_succ, -List.getD_eq_getElem?_getD, pureOp, grK_none, grK_zero]
    refine hK _ ?_
    clear K hK
    refine awpL_call cal44 rfl rfl (fun _ => rfl) (fun hg => raiseE_c e.letters e.block (by omega) (by omega)) (fun hg => ?_) (fun hg => ?_) fun K hK => ?_
    · simp [hG, List.getD_cons_zero, List.getD_cons_succ, -List.getD_eq_getElem?_getD, pureOp, grK_none, grK_zero]
    · simp [hG, List.getD_cons_zero, List.getD_cons_succ, -List.getD_eq_getElem?_getD, pureOp, grK_none, grK_zero]
    simp [hG, List.getD_cons_zero, List.getD_cons_succ, -List.getD_eq_getElem?_getD, pureOp, grK_none, grK_zero]
    refine hK _ ?_
    clear K hK
    refine awpL_reg T_ok 1 fun K hK => ?_
    simp [hG, List.getD_cons_zero, List.getD_cons_succ, -List.getD_eq_getElem?_getD, pureOp, grK_none, grK_zero]
    refine hK _ ?_
    clear K hK
    refine awpL_nil ?_
    refine awpS_seq ?_
    refine awpS_seq ?_
    refine awpS_reg T_ok fun K hK => ?_
    simp [hG, List.getD_cons_zero, List.getD_cons_succ, -List.getD_eq_getElem?_getD, pureOp, grK_none, grK_zero]
    refine hK _ ?_
    clear K hK
    refine awpS_cond rfl (fun hb22 => ?_) (fun hb22 => ?_)
    ·
      try simp [-List.getD_eq_getElem?_getD] at hb22
      refine awpS_seq ?_
      refine awpS_reg T_ok fun K hK => ?_
      simp [hG, List.getD_cons_zero, List.getD_cons_succ, -List.getD_eq_getElem?_getD, pureOp, grK_none, grK_zero]
      refine ⟨Cond.mk (by exact trivial), hK _ ?_⟩
      clear K hK
      refine awpS_ret ?_
      refine RetOK_of ?_
      simp [hG, List.getD_cons_zero, List.getD_cons_succ, -List.getD_eq_getElem?_getD, pureOp, grK_none, grK_zero]
      obtain ⟨e1, e2⟩ := gr_over hv (by omega); rw [e1, e2]; exact ⟨⟨rfl, rfl, rfl⟩, rfl⟩
    ·
      try simp [-List.getD_eq_getElem?_getD] at hb22
      have hu : (upTo e.letters e.block.toNat) ≤ 256 := (by omega)
      refine awpS_skip ?_
      refine awpS_seq ?_
      refine awpS_reg T_ok fun K hK => ?_
      simp [hG, List.getD_cons_zero, List.getD_cons_succ, -List.getD_eq_getElem?_getD, pureOp, grK_none, grK_zero]
      refine hK _ ?_
      clear K hK
      refine awpS_seq ?_
      refine awpS_seq ?_
      refine awpS_reg T_ok fun K hK => ?_
      simp [hG, List.getD_cons_zero, List.getD_cons_succ, -List.getD_eq_getElem?_getD, pureOp, grK_none, grK_zero]
      refine hK _ ?_
      clear K hK
      refine awpS_block ?_
      refine awpS_loop (α := Nat) (fun s => ⟨[(1, .ptr (0, 0) 0 0), (2, .ptr (1, 0) 0 0), (4, .int .i64 (upTo e.letters e.block.toNat)), (5, .sl (2, 0) 0 (grE e s).length), (25, rowsC e.rows), (26, .int .i64 e.rows.length), (27, .int .i64 s)], [(0, .one (.arr 1 4 (fun _ => encF e))), (1, .one (.arr 1 3 (fun _ j => [.int .i64 0, .int .i64 0, .nils].getD j .any))), (2, .one (.arr ((grE e s)).length 3 (fun q j => edgeF (((grE e s)).getD q de) j)))], 3⟩) (fun s => s ≤ e.rows.length) (fun s => e.rows.length - s) (0) (Nat.zero_le _) ?_ ?_
      ·
        refine wk_of (id) (fun _ => false) (fun k => k == 2) ?_ ?_ rfl (Nat.zero_le _) (fun k hk => absurd hk (Nat.not_lt_zero _))
        · simp [hG, List.getD_cons_zero, List.getD_cons_succ, -List.getD_eq_getElem?_getD, pureOp, grK_none, grK_zero]
        · simp [hG, List.getD_cons_zero, List.getD_cons_succ, -List.getD_eq_getElem?_getD, pureOp, grK_none, grK_zero]
      ·
        rintro s hs
        refine awpS_seq ?_
        refine awpS_reg T_ok fun K hK => ?_
        simp [hG, List.getD_cons_zero, List.getD_cons_succ, -List.getD_eq_getElem?_getD, pureOp, grK_none, grK_zero]
        refine hK _ ?_
        clear K hK
        refine awpS_seq ?_
        refine awpS_cond rfl (fun hb28 => ?_) (fun hb28 => ?_)
        ·
          try simp [-List.getD_eq_getElem?_getD] at hb28
          have hsl : s < e.rows.length := (by omega)
          have hre := row_eq hv hsl
          have hE0 := grK_row (e := e) (s := s)
          refine awpS_skip ?_
          refine awpS_seq ?_
          refine awpS_block ?_
          refine awpS_seq ?_
          refine awpS_reg T_ok fun K hK => ?_
          simp [hG, List.getD_cons_zero, List.getD_cons_succ, -List.getD_eq_getElem?_getD, pureOp, grK_none, grK_zero]
          refine ⟨Cond.mk (by omega), hK _ ?_⟩
          clear K hK
          refine awpS_seq ?_
          refine awpS_reg T_ok fun K hK => ?_
          simp [hG, List.getD_cons_zero, List.getD_cons_succ, -List.getD_eq_getElem?_getD, pureOp, grK_none, grK_zero]
          refine hK _ ?_
          clear K hK
          refine awpS_block ?_
          refine awpS_loop (α := Nat) (fun i => ⟨[(1, .ptr (0, 0) 0 0), (2, .ptr (1, 0) 0 0), (4, .int .i64 (upTo e.letters e.block.toNat)), (5, .sl (2, 0) 0 (grK e s i).length), (6, .int .i64 s), (7, cells (e.rows.getD s [])), (25, rowsC e.rows), (26, .int .i64 e.rows.length), (27, .int .i64 s), (32, cells (e.rows.getD s [])), (33, .int .i64 (e.rows.getD s []).length), (34, .int .i64 i)], [(0, .one (.arr 1 4 (fun _ => encF e))), (1, .one (.arr 1 3 (fun _ j => [.int .i64 0, .int .i64 0, .nils].getD j .any))), (2, .one (.arr ((grK e s i)).length 3 (fun q j => edgeF (((grK e s i)).getD q de) j)))], 3⟩) (fun i => i ≤ (e.rows.getD s []).length) (fun i => (e.rows.getD s []).length - i) (0) (Nat.zero_le _) ?_ ?_
          ·
            refine wk_of (id) (fun _ => false) (fun _ => false) ?_ ?_ rfl (Nat.zero_le _) (fun k hk => absurd hk (Nat.not_lt_zero _))
            · simp [hG, List.getD_cons_zero, List.getD_cons_succ, -List.getD_eq_getElem?_getD, pureOp, grK_none, grK_zero]
            · simp [hG, List.getD_cons_zero, List.getD_cons_succ, -List.getD_eq_getElem?_getD, pureOp, grK_none, grK_zero]
          ·
            rintro i hi
            refine awpS_seq ?_
            refine awpS_reg T_ok fun K hK => ?_
            simp [hG, List.getD_cons_zero, List.getD_cons_succ, -List.getD_eq_getElem?_getD, pureOp, grK_none, grK_zero]
            refine hK _ ?_
            clear K hK
            refine awpS_seq ?_
            refine awpS_cond rfl (fun hb35 => ?_) (fun hb35 => ?_)
            ·
              try simp [-List.getD_eq_getElem?_getD] at hb35
              have hil : i < (e.rows.getD s []).length := (by omega)
              have hlab := cell_label hv hsl hil hu
              unfold cellAt at hlab
              have hto := cell_to hv hsl hil
              unfold cellAt at hto
              have hE := grK_succ (e := e) (s := s) (i := i)
              have hgl := grK_len hv hsl (Nat.le_of_lt hil)
              refine awpS_skip ?_
              refine awpS_seq ?_
              refine awpS_block ?_
              refine awpS_seq ?_
              refine awpS_reg T_ok fun K hK => ?_
              simp [hG, List.getD_cons_zero, List.getD_cons_succ, -List.getD_eq_getElem?_getD, pureOp, grK_none, grK_zero]
              refine ⟨Cond.mk (by simp [-List.getD_eq_getElem?_getD]; omega), hK _ ?_⟩
              clear K hK
              refine awpS_seq ?_
              refine awpS_regL ?_
              refine awpL_reg T_ok 4 fun K hK => ?_
              simp [hG, List.getD_cons_zero, List.getD_cons_succ, -List.getD_eq_getElem?_getD, pureOp, grK_none, grK_zero]
              refine hK _ ?_
              clear K hK
              refine awpL_call cal25 rfl rfl (fun _ => rfl) (fun hg => label_c e.letters ((e.rows.getD s []).getD i dc).word) (fun hg => ?_) (fun hg => ?_) fun K hK => ?_
              · simp [hG, List.getD_cons_zero, List.getD_cons_succ, -List.getD_eq_getElem?_getD, pureOp, grK_none, grK_zero]
              · simp [hG, List.getD_cons_zero, List.getD_cons_succ, -List.getD_eq_getElem?_getD, pureOp, grK_none, grK_zero]
              simp [hG, List.getD_cons_zero, List.getD_cons_succ, -List.getD_eq_getElem?_getD, pureOp, grK_none, grK_zero]
              refine hK _ ?_
              clear K hK
              refine awpL_reg T_ok 5 fun K hK => ?_
              simp [hG, List.getD_cons_zero, List.getD_cons_succ, -List.getD_eq_getElem?_getD, pureOp, grK_none, grK_zero]
              refine hK _ ?_
              clear K hK
              refine awpL_nil ?_
              refine awpS_seq ?_
              refine awpS_seq ?_
              refine awpS_reg T_ok fun K hK => ?_
              simp [hG, List.getD_cons_zero, List.getD_cons_succ, -List.getD_eq_getElem?_getD, pureOp, grK_none, grK_zero]
              refine hK _ ?_
              clear K hK
              refine awpS_cond rfl (fun hb47 => ?_) (fun hb47 => ?_)
              ·
                rw [hlab.1] at hb47; simp at hb47
              ·
                try simp [-List.getD_eq_getElem?_getD] at hb47
                refine awpS_skip ?_
                refine awpS_reg T_ok fun K hK => ?_
                simp [hG, List.getD_cons_zero, List.getD_cons_succ, -List.getD_eq_getElem?_getD, pureOp, grK_none, grK_zero]
                refine ⟨Cond.mk (by simp [-List.getD_eq_getElem?_getD]; omega), hK _ ?_⟩
                clear K hK
                refine awpS_nil ?_
                refine blockQ_norm (thenQ_norm ?_)
                refine awpS_reg T_ok fun K hK => ?_
                simp [hG, List.getD_cons_zero, List.getD_cons_succ, -List.getD_eq_getElem?_getD, pureOp, grK_none, grK_zero]
                refine ⟨Cond.mk (by omega), hK _ ?_⟩
                clear K hK
                refine awpS_nil ?_
                refine round_end (i + 1) (by omega) (by omega) ?_
                refine wk_of (fun k => if k = 2 then 5 else k) (fun _ => false) (fun _ => false) ?_ ?_ rfl (Nat.zero_le _) (fun k hk => absurd hk (Nat.not_lt_zero _))
                · rw [hE]; simp [hG, List.getD_cons_zero, List.getD_cons_succ, -List.getD_eq_getElem?_getD]
                · rw [hE]; simp [hG, List.getD_cons_zero, List.getD_cons_succ, -List.getD_eq_getElem?_getD]; exact fun q hq => ⟨app_ed (j := 0) hq rfl, app_ed (j := 1) hq (congrArg (AVal.int .i64) hlab.2), app_ed (j := 2) hq rfl⟩
            ·
              try simp [-List.getD_eq_getElem?_getD] at hb35
              obtain rfl : i = (e.rows.getD s []).length := (by omega)
              refine awpS_exit ?_
              refine thenQ_exit (thenQ_exit ?_)
              refine blockQ_exit (thenQ_norm ?_)
              refine awpS_nil ?_
              refine blockQ_norm (thenQ_norm ?_)
              refine awpS_reg T_ok fun K hK => ?_
              simp [hG, List.getD_cons_zero, List.getD_cons_succ, -List.getD_eq_getElem?_getD, pureOp, grK_none, grK_zero]
              refine ⟨Cond.mk (by omega), hK _ ?_⟩
              clear K hK
              refine awpS_nil ?_
              refine round_end (s + 1) (by omega) (by omega) ?_
              refine wk_of (id) (fun _ => false) (fun _ => false) ?_ ?_ rfl (Nat.zero_le _) (fun k hk => absurd hk (Nat.not_lt_zero _))
              · rw [hE0]; simp [hG, List.getD_cons_zero, List.getD_cons_succ, -List.getD_eq_getElem?_getD]
              · rw [hE0]; simp [hG, List.getD_cons_zero, List.getD_cons_succ, -List.getD_eq_getElem?_getD]
        ·
          try simp [-List.getD_eq_getElem?_getD] at hb28
          obtain rfl : s = e.rows.length := (by omega)
          refine awpS_exit ?_
          refine thenQ_exit (thenQ_exit ?_)
          refine blockQ_exit (thenQ_norm ?_)
          refine awpS_seq ?_
          refine awpS_wk (st2 := ⟨[(1, .ptr (0, 0) 0 0), (2, .ptr (1, 0) 0 0), (4, .int .i64 (upTo e.letters e.block.toNat)), (5, edgesC (grE e e.rows.length))], [(0, .one (.arr 1 4 (fun _ => encF e))), (1, .one (.arr 1 3 (fun _ j => [.int .i64 0, .int .i64 0, .nils].getD j .any)))], 2⟩) ?_ ?_
          ·
            refine wk_of (id) (fun k => k == 2) (fun _ => false) ?_ ?_ rfl (Nat.zero_le _) (fun k hk => absurd hk (Nat.not_lt_zero _))
            · simp [hG, List.getD_cons_zero, List.getD_cons_succ, -List.getD_eq_getElem?_getD]
            · simp [hG, List.getD_cons_zero, List.getD_cons_succ, -List.getD_eq_getElem?_getD, pureOp, grK_none, grK_zero]
          refine awpS_regL ?_
          refine awpL_reg T_ok 5 fun K hK => ?_
          simp [hG, List.getD_cons_zero, List.getD_cons_succ, -List.getD_eq_getElem?_getD, pureOp, grK_none, grK_zero]
          refine hK _ ?_
          clear K hK
          refine awpL_call cal45 rfl rfl (fun _ => rfl) (fun hg => makeG_c (upTo e.letters e.block.toNat) (e.rows.length : Nat) (grE e e.rows.length) (grE_small hv)) (fun hg => ?_) (fun hg => ?_) fun K hK => ?_
          · simp [hG, List.getD_cons_zero, List.getD_cons_succ, -List.getD_eq_getElem?_getD, pureOp, grK_none, grK_zero]
          · simp [hG, List.getD_cons_zero, List.getD_cons_succ, -List.getD_eq_getElem?_getD, pureOp, grK_none, grK_zero]
          simp [hG, List.getD_cons_zero, List.getD_cons_succ, -List.getD_eq_getElem?_getD, pureOp, grK_none, grK_zero]
          refine hK _ ?_
          clear K hK
          refine awpL_reg T_ok 4 fun K hK => ?_
          simp [hG, List.getD_cons_zero, List.getD_cons_succ, -List.getD_eq_getElem?_getD, pureOp, grK_none, grK_zero]
          refine ⟨Cond.mk (by exact trivial), hK _ ?_⟩
          clear K hK
          refine awpL_nil ?_
          refine awpS_ret ?_
          refine RetOK_of ?_
          simp [hG, List.getD_cons_zero, List.getD_cons_succ, -List.getD_eq_getElem?_getD, pureOp, grK_none, grK_zero]
          obtain ⟨e1, e2⟩ := gr_fin hv (by omega); rw [e1, e2]; exact ⟨⟨rfl, rfl, Clo.le _ Clo_edgesC⟩, rfl⟩

set_option maxRecDepth 100000 in
theorem graphRf_c (e : Enc) : PC Tryz.prog 14 [.agg 4 (encF e)] (.tup 2 (fun j => [.agg 3 (grF (encGX e)), .int .i64 (encGN e)].getD j .any)) := by
  refine PC_introS T_ok Tryz.func14 rfl (by simp [Tryz.ntmps14]) fun G hG hR => ?_
  simp only [Tryz.ntmps14, Tryz.results14] at hG ⊢
  simp only [argEnv, Nat.zero_add, Nat.reduceAdd]
  refine awpS_seq ?_
  refine awpS_reg T_ok fun K hK => ?_
  simp [hG, List.getD_cons_zero, List.getD_cons_succ, -List.getD_eq_getElem?_getD, pureOp, grK_none, grK_zero]
  refine ⟨Cond.mk (by exact trivial), hK _ ?_⟩
  clear K hK
  refine awpS_seq ?_
  refine awpS_seq ?_
  refine awpS_regL ?_
  refine awpL_reg T_ok 1 fun K hK => ?_
  simp [hG, List.getD_cons_zero, List.getD_cons_succ, -List.getD_eq_getElem?_getD, pureOp, grK_none, grK_zero]
  refine hK _ ?_
  clear K hK
  refine awpL_call cal20 rfl rfl (fun _ => rfl) (fun hg => checkR_c e) (fun hg => ?_) (fun hg => ?_) fun K hK => ?_
  · simp [hG, List.getD_cons_zero, List.getD_cons_succ, -List.getD_eq_getElem?_getD, pureOp, grK_none, grK_zero]
  · simp [hG, List.getD_cons_zero, List.getD_cons_succ, -List.getD_eq_getElem?_getD, pureOp, grK_none, grK_zero]
  simp [hG, List.getD_cons_zero, List.getD_cons_succ, -List.getD_eq_getElem?_getD, pureOp, grK_none, grK_zero]
  refine hK _ ?_
  clear K hK
  refine awpL_reg T_ok 1 fun K hK => ?_
  simp [hG, List.getD_cons_zero, List.getD_cons_succ, -List.getD_eq_getElem?_getD, pureOp, grK_none, grK_zero]
  refine hK _ ?_
  clear K hK
  refine awpL_nil ?_
  refine awpS_cond rfl (fun hb13 => ?_) (fun hb13 => ?_)
  ·
    try simp [-List.getD_eq_getElem?_getD] at hb13
    refine awpS_seq ?_
    refine awpS_reg T_ok fun K hK => ?_
    simp [hG, List.getD_cons_zero, List.getD_cons_succ, -List.getD_eq_getElem?_getD, pureOp, grK_none, grK_zero]
    refine ⟨Cond.mk (by exact trivial), hK _ ?_⟩
    clear K hK
    refine awpS_ret ?_
    refine RetOK_of ?_
    simp [hG, List.getD_cons_zero, List.getD_cons_succ, -List.getD_eq_getElem?_getD, pureOp, grK_none, grK_zero]
    obtain ⟨e1, e2⟩ := gr_bad (by simpa using hb13); rw [e1, e2]; exact ⟨⟨rfl, rfl, rfl⟩, rfl⟩
  ·
    try simp [-List.getD_eq_getElem?_getD] at hb13
    have hv : checkE e = 0 := (by simpa using hb13)
    have hd := (checkE_valid hv).1
    obtain ⟨hd1, hd2, hd3⟩ := hd
    have h64 := rows_len hv
    refine awpS_skip ?_
    refine awpS_seq ?_
    refine awpS_reg T_ok fun K hK => ?_
    simp [hG, List.getD_cons_zero, List.getD_cons_succ, -List.getD_eq_getElem?_getD, pureOp, grK_none, grK_zero]
    refine hK _ ?_
    clear K hK
    refine awpS_seq ?_
    refine awpS_seq ?_
    refine awpS_reg T_ok fun K hK => ?_
    simp [hG, List.getD_cons_zero, List.getD_cons_succ, -List.getD_eq_getElem?_getD, pureOp, grK_none, grK_zero]
    refine hK _ ?_
    clear K hK
    refine awpS_block ?_
    refine awpS_loop (α := Nat) (fun k => ⟨[(1, .ptr (0, 0) 0 0), (2, .ptr (1, 0) 0 0), (4, .int .i64 (upTo e.letters k)), (5, .int .i64 k)], [(0, .one (.arr 1 4 (fun _ => encF e))), (1, .one (.arr 1 3 (fun _ j => [.int .i64 0, .int .i64 0, .nils].getD j .any)))], 2⟩) (fun k => k ≤ e.block.toNat) (fun k => e.block.toNat - k) (0) (Nat.zero_le _) ?_ ?_
    ·
      refine wk_of (id) (fun _ => false) (fun _ => false) ?_ ?_ rfl (Nat.zero_le _) (fun k hk => absurd hk (Nat.not_lt_zero _))
      · simp [hG, List.getD_cons_zero, List.getD_cons_succ, -List.getD_eq_getElem?_getD]; try rfl
      · simp [hG, List.getD_cons_zero, List.getD_cons_succ, -List.getD_eq_getElem?_getD, pureOp, grK_none, grK_zero]
    ·
      rintro k hk
      refine awpS_seq ?_
      refine awpS_seq ?_
      refine awpS_reg T_ok fun K hK => ?_
      simp [hG, List.getD_cons_zero, List.getD_cons_succ, -List.getD_eq_getElem?_getD, pureOp, grK_none, grK_zero]
      refine hK _ ?_
      clear K hK
      refine awpS_cond rfl (fun hb22 => ?_) (fun hb22 => ?_)
      ·
        try simp [-List.getD_eq_getElem?_getD] at hb22
        have hpos := upTo_pos (q := e.letters) (by omega) k
        have hE := upTo_next (q := e.letters) (k := k) (by omega)
        have hmul := mul_box hpos (show upTo e.letters k ≤ 256 by omega) (show 1 ≤ e.letters ∧ e.letters ≤ 256 by omega)
        refine awpS_skip ?_
        refine awpS_seq ?_
        refine awpS_block ?_
        refine awpS_reg T_ok fun K hK => ?_
        simp [hG, List.getD_cons_zero, List.getD_cons_succ, -List.getD_eq_getElem?_getD, pureOp, grK_none, grK_zero]
        refine ⟨Cond.mk (by omega), hK _ ?_⟩
        clear K hK
        refine awpS_nil ?_
        refine blockQ_norm (thenQ_norm ?_)
        refine awpS_reg T_ok fun K hK => ?_
        simp [hG, List.getD_cons_zero, List.getD_cons_succ, -List.getD_eq_getElem?_getD, pureOp, grK_none, grK_zero]
        refine ⟨Cond.mk (by omega), hK _ ?_⟩
        clear K hK
        refine awpS_nil ?_
        refine round_end (k + 1) (by omega) (by omega) ?_
        refine wk_of (id) (fun _ => false) (fun _ => false) ?_ ?_ rfl (Nat.zero_le _) (fun k hk => absurd hk (Nat.not_lt_zero _))
        · rw [hE]; simp [hG, List.getD_cons_zero, List.getD_cons_succ, -List.getD_eq_getElem?_getD]
        · simp [hG, List.getD_cons_zero, List.getD_cons_succ, -List.getD_eq_getElem?_getD, pureOp, grK_none, grK_zero]
      ·
        try simp [-List.getD_eq_getElem?_getD] at hb22
        have hup : upTo e.letters k = (upTo e.letters e.block.toNat) := up_end hk (by omega)
        refine awpS_exit ?_
        refine thenQ_exit (thenQ_exit ?_)
        refine blockQ_exit (thenQ_norm ?_)
        refine awpS_seq ?_
        refine awpS_seq ?_
        refine awpS_reg T_ok fun K hK => ?_
        simp [hG, List.getD_cons_zero, List.getD_cons_succ, -List.getD_eq_getElem?_getD, pureOp, grK_none, grK_zero]
        refine hK _ ?_
        clear K hK
        refine awpS_cond rfl (fun hb30 => ?_) (fun hb30 => ?_)
        ·
          try simp [-List.getD_eq_getElem?_getD] at hb30
          rw [hup] at hb30
          refine awpS_seq ?_
          refine awpS_reg T_ok fun K hK => ?_
          simp [hG, List.getD_cons_zero, List.getD_cons_succ, -List.getD_eq_getElem?_getD, pureOp, grK_none, grK_zero]
          refine ⟨Cond.mk (by exact trivial), hK _ ?_⟩
          clear K hK
          refine awpS_ret ?_
          refine RetOK_of ?_
          simp [hG, List.getD_cons_zero, List.getD_cons_succ, -List.getD_eq_getElem?_getD, pureOp, grK_none, grK_zero]
          obtain ⟨e1, e2⟩ := gr_over hv (by omega); rw [e1, e2]; exact ⟨⟨rfl, rfl, rfl⟩, rfl⟩
        ·
          try simp [-List.getD_eq_getElem?_getD] at hb30
          rw [hup] at hb30
          have hu : (upTo e.letters e.block.toNat) ≤ 256 := (by omega)
          refine awpS_skip ?_
          refine awpS_seq ?_
          refine awpS_reg T_ok fun K hK => ?_
          simp [hG, List.getD_cons_zero, List.getD_cons_succ, -List.getD_eq_getElem?_getD, pureOp, grK_none, grK_zero]
          refine hK _ ?_
          clear K hK
          refine awpS_seq ?_
          refine awpS_seq ?_
          refine awpS_reg T_ok fun K hK => ?_
          simp [hG, List.getD_cons_zero, List.getD_cons_succ, -List.getD_eq_getElem?_getD, pureOp, grK_none, grK_zero]
          refine hK _ ?_
          clear K hK
          refine awpS_block ?_
          refine awpS_loop (α := Nat) (fun s => ⟨[(1, .ptr (0, 0) 0 0), (2, .ptr (1, 0) 0 0), (4, .int .i64 (upTo e.letters e.block.toNat)), (6, .sl (2, 0) 0 (grE e s).length), (7, .int .i64 s)], [(0, .one (.arr 1 4 (fun _ => encF e))), (1, .one (.arr 1 3 (fun _ j => [.int .i64 0, .int .i64 0, .nils].getD j .any))), (2, .one (.arr ((grE e s)).length 3 (fun q j => edgeF (((grE e s)).getD q de) j)))], 3⟩) (fun s => s ≤ e.rows.length) (fun s => e.rows.length - s) (0) (Nat.zero_le _) ?_ ?_
          ·
            refine wk_of (id) (fun _ => false) (fun k => k == 2) ?_ ?_ rfl (Nat.zero_le _) (fun k hk => absurd hk (Nat.not_lt_zero _))
            · simp [hG, List.getD_cons_zero, List.getD_cons_succ, -List.getD_eq_getElem?_getD]; exact ⟨hup, rfl⟩
            · simp [hG, List.getD_cons_zero, List.getD_cons_succ, -List.getD_eq_getElem?_getD, pureOp, grK_none, grK_zero]
          ·
            rintro s hs
            refine awpS_seq ?_
            refine awpS_seq ?_
            refine awpS_reg T_ok fun K hK => ?_
            simp [hG, List.getD_cons_zero, List.getD_cons_succ, -List.getD_eq_getElem?_getD, pureOp, grK_none, grK_zero]
            refine hK _ ?_
            clear K hK
            refine awpS_cond rfl (fun hb36 => ?_) (fun hb36 => ?_)
            ·
              try simp [-List.getD_eq_getElem?_getD] at hb36
              have hsl : s < e.rows.length := (by omega)
              have hre := row_eq hv hsl
              have hE0 := grK_row (e := e) (s := s)
              refine awpS_skip ?_
              refine awpS_seq ?_
              refine awpS_block ?_
              refine awpS_seq ?_
              refine awpS_reg T_ok fun K hK => ?_
              simp [hG, List.getD_cons_zero, List.getD_cons_succ, -List.getD_eq_getElem?_getD, pureOp, grK_none, grK_zero]
              refine hK _ ?_
              clear K hK
              refine awpS_block ?_
              refine awpS_loop (α := Nat) (fun i => ⟨[(1, .ptr (0, 0) 0 0), (2, .ptr (1, 0) 0 0), (4, .int .i64 (upTo e.letters e.block.toNat)), (6, .sl (2, 0) 0 (grK e s i).length), (7, .int .i64 s), (8, .int .i64 i)], [(0, .one (.arr 1 4 (fun _ => encF e))), (1, .one (.arr 1 3 (fun _ j => [.int .i64 0, .int .i64 0, .nils].getD j .any))), (2, .one (.arr ((grK e s i)).length 3 (fun q j => edgeF (((grK e s i)).getD q de) j)))], 3⟩) (fun i => i ≤ (e.rows.getD s []).length) (fun i => (e.rows.getD s []).length - i) (0) (Nat.zero_le _) ?_ ?_
              ·
                refine wk_of (id) (fun _ => false) (fun _ => false) ?_ ?_ rfl (Nat.zero_le _) (fun k hk => absurd hk (Nat.not_lt_zero _))
                · simp [hG, List.getD_cons_zero, List.getD_cons_succ, -List.getD_eq_getElem?_getD, pureOp, grK_none, grK_zero]
                · simp [hG, List.getD_cons_zero, List.getD_cons_succ, -List.getD_eq_getElem?_getD, pureOp, grK_none, grK_zero]
              ·
                rintro i hi
                refine awpS_seq ?_
                refine awpS_seq ?_
                refine awpS_reg T_ok fun K hK => ?_
                simp [hG, List.getD_cons_zero, List.getD_cons_succ, -List.getD_eq_getElem?_getD, pureOp, grK_none, grK_zero]
                refine ⟨Cond.mk (by omega), hK _ ?_⟩
                clear K hK
                refine awpS_cond rfl (fun hb46 => ?_) (fun hb46 => ?_)
                ·
                  try simp [-List.getD_eq_getElem?_getD] at hb46
                  have hil : i < (e.rows.getD s []).length := (by omega)
                  have hlab := cell_label hv hsl hil hu
                  unfold cellAt at hlab
                  have hto := cell_to hv hsl hil
                  unfold cellAt at hto
                  have hE := grK_succ (e := e) (s := s) (i := i)
                  have hgl := grK_len hv hsl (Nat.le_of_lt hil)
                  refine awpS_skip ?_
                  refine awpS_seq ?_
                  refine awpS_block ?_
                  refine awpS_seq ?_
                  refine awpS_draw hR mixed [] ⟨[], [], []⟩ fun mu0 => ?_
                  refine awpA_tk T_ok [0, 1, 2, 3, 4, 5, 6, 7, 8, 9, 10] [] (fuel := 6) [10, 9, 8, 7, 6, 5, 4, 3, 2, 1, 0] (by decide +kernel) (by decide +kernel) rfl rfl fun K hK => ?_
                  simp [hG, List.getD_cons_zero, List.getD_cons_succ, -List.getD_eq_getElem?_getD, pureOp, grK_none, grK_zero]
                  refine ⟨Cond.mk (by omega), hK _ ?_⟩
                  clear K hK
                  refine awpA_only (fuel := 5) (i := 11) (by decide +kernel) ?_
                  refine awpO_call cal46 rfl rfl rfl (fun _ => rfl) (fun hg => labelR_c e.letters ((e.rows.getD s []).getD i dc).word) (fun hg => ?_) (fun hg => ?_) fun K hK => ?_
                  · simp [hG, List.getD_cons_zero, List.getD_cons_succ, -List.getD_eq_getElem?_getD, pureOp, grK_none, grK_zero]
                  · simp [hG, List.getD_cons_zero, List.getD_cons_succ, -List.getD_eq_getElem?_getD, pureOp, grK_none, grK_zero]
                  simp [hG, List.getD_cons_zero, List.getD_cons_succ, -List.getD_eq_getElem?_getD, pureOp, grK_none, grK_zero]
                  refine hK _ ?_
                  clear K hK
                  refine awpA_tk T_ok [12, 13, 14, 15, 16] [] (fuel := 0) [16, 15, 14, 13, 12, 11, 10, 9, 8, 7, 6, 5, 4, 3, 2, 1, 0] (by decide +kernel) (by decide +kernel) rfl rfl fun K hK => ?_
                  simp [hG, List.getD_cons_zero, List.getD_cons_succ, -List.getD_eq_getElem?_getD, pureOp, grK_none, grK_zero]
                  refine hK _ ?_
                  clear K hK
                  refine awpA_done (by decide +kernel) ?_
                  refine awpS_reg T_ok fun K hK => ?_
                  simp [hG, List.getD_cons_zero, List.getD_cons_succ, -List.getD_eq_getElem?_getD, pureOp, grK_none, grK_zero]
                  refine ⟨Cond.mk (by simp [-List.getD_eq_getElem?_getD]; omega), hK _ ?_⟩
                  clear K hK
                  refine awpS_nil ?_
                  refine blockQ_norm (thenQ_norm ?_)
                  refine awpS_reg T_ok fun K hK => ?_
                  simp [hG, List.getD_cons_zero, List.getD_cons_succ, -List.getD_eq_getElem?_getD, pureOp, grK_none, grK_zero]
                  refine ⟨Cond.mk (by omega), hK _ ?_⟩
                  clear K hK
                  refine awpS_nil ?_
                  refine round_end (i + 1) (by omega) (by omega) ?_
                  refine wk_of (fun k => if k = 2 then 4 else k) (fun _ => false) (fun _ => false) ?_ ?_ rfl (Nat.zero_le _) (fun k hk => absurd hk (Nat.not_lt_zero _))
                  · rw [hE]; simp [hG, List.getD_cons_zero, List.getD_cons_succ, -List.getD_eq_getElem?_getD]
                  · rw [hE]; simp [hG, List.getD_cons_zero, List.getD_cons_succ, -List.getD_eq_getElem?_getD]; exact fun q hq => ⟨app_ed (j := 0) hq rfl, app_ed (j := 1) hq (congrArg (AVal.int .i64) hlab.2), app_ed (j := 2) hq rfl⟩
                ·
                  try simp [-List.getD_eq_getElem?_getD] at hb46
                  obtain rfl : i = (e.rows.getD s []).length := (by omega)
                  refine awpS_exit ?_
                  refine thenQ_exit (thenQ_exit ?_)
                  refine blockQ_exit (thenQ_norm ?_)
                  refine awpS_nil ?_
                  refine blockQ_norm (thenQ_norm ?_)
                  refine awpS_reg T_ok fun K hK => ?_
                  simp [hG, List.getD_cons_zero, List.getD_cons_succ, -List.getD_eq_getElem?_getD, pureOp, grK_none, grK_zero]
                  refine ⟨Cond.mk (by omega), hK _ ?_⟩
                  clear K hK
                  refine awpS_nil ?_
                  refine round_end (s + 1) (by omega) (by omega) ?_
                  refine wk_of (id) (fun _ => false) (fun _ => false) ?_ ?_ rfl (Nat.zero_le _) (fun k hk => absurd hk (Nat.not_lt_zero _))
                  · rw [hE0]; simp [hG, List.getD_cons_zero, List.getD_cons_succ, -List.getD_eq_getElem?_getD]
                  · rw [hE0]; simp [hG, List.getD_cons_zero, List.getD_cons_succ, -List.getD_eq_getElem?_getD]
            ·
              try simp [-List.getD_eq_getElem?_getD] at hb36
              obtain rfl : s = e.rows.length := (by omega)
              refine awpS_exit ?_
              refine thenQ_exit (thenQ_exit ?_)
              refine blockQ_exit (thenQ_norm ?_)
              refine awpS_seq ?_
              refine awpS_wk (st2 := ⟨[(1, .ptr (0, 0) 0 0), (2, .ptr (1, 0) 0 0), (4, .int .i64 (upTo e.letters e.block.toNat)), (6, edgesC (grE e e.rows.length))], [(0, .one (.arr 1 4 (fun _ => encF e))), (1, .one (.arr 1 3 (fun _ j => [.int .i64 0, .int .i64 0, .nils].getD j .any)))], 2⟩) ?_ ?_
              ·
                refine wk_of (id) (fun k => k == 2) (fun _ => false) ?_ ?_ rfl (Nat.zero_le _) (fun k hk => absurd hk (Nat.not_lt_zero _))
                · simp [hG, List.getD_cons_zero, List.getD_cons_succ, -List.getD_eq_getElem?_getD]
                · simp [hG, List.getD_cons_zero, List.getD_cons_succ, -List.getD_eq_getElem?_getD, pureOp, grK_none, grK_zero]
              refine awpS_regL ?_
              refine awpL_reg T_ok 5 fun K hK => ?_
              simp [hG, List.getD_cons_zero, List.getD_cons_succ, -List.getD_eq_getElem?_getD, pureOp, grK_none, grK_zero]
              refine hK _ ?_
              clear K hK
              refine awpL_call cal47 rfl rfl (fun _ => rfl) (fun hg => makeR_c (upTo e.letters e.block.toNat) (e.rows.length : Nat) (grE e e.rows.length) (grE_small hv)) (fun hg => ?_) (fun hg => ?_) fun K hK => ?_
              · simp [hG, List.getD_cons_zero, List.getD_cons_succ, -List.getD_eq_getElem?_getD, pureOp, grK_none, grK_zero]
              · simp [hG, List.getD_cons_zero, List.getD_cons_succ, -List.getD_eq_getElem?_getD, pureOp, grK_none, grK_zero]
              simp [hG, List.getD_cons_zero, List.getD_cons_succ, -List.getD_eq_getElem?_getD, pureOp, grK_none, grK_zero]
              refine hK _ ?_
              clear K hK
              refine awpL_reg T_ok 4 fun K hK => ?_
              simp [hG, List.getD_cons_zero, List.getD_cons_succ, -List.getD_eq_getElem?_getD, pureOp, grK_none, grK_zero]
              refine ⟨Cond.mk (by exact trivial), hK _ ?_⟩
              clear K hK
              refine awpL_nil ?_
              refine awpS_ret ?_
              refine RetOK_of ?_
              simp [hG, List.getD_cons_zero, List.getD_cons_succ, -List.getD_eq_getElem?_getD, pureOp, grK_none, grK_zero]
              obtain ⟨e1, e2⟩ := gr_fin hv (by omega); rw [e1, e2]; exact ⟨⟨rfl, rfl, Clo.le _ Clo_edgesC⟩, rfl⟩

end Go.Proofs.YtdojahjhijkbhaaGreatDoor
