/-
  Walks: Sort, the law ReductionSorted.
-/
import Derived.Test.YtmjkbidnghcfnaaSC
import Derived.Test.YtmjkbidnghcfnaaWQ
namespace Go.Proofs.Ytmjkbidnghcfnaa
set_option linter.unusedSimpArgs false
set_option linter.unusedVariables false
open Go Go.Lift Go.Proofs

theorem srtX_ok {e : Enc} (h : checkE e = 0) : srtX e = srtE e := by unfold srtX; rw [if_pos h]
theorem srtN_ok {e : Enc} (h : checkE e = 0) : srtN e = 0 := by unfold srtN; rw [if_pos h]
theorem srtX_no {e : Enc} (h : ¬ checkE e = 0) : srtX e = ⟨0, 0, 0, []⟩ := by unfold srtX; rw [if_neg h]
theorem srtN_no {e : Enc} (h : ¬ checkE e = 0) : srtN e = 1 := by unfold srtN; rw [if_neg h]
theorem srt_out {x l : List Cell} (h : x.Perm l ∧ ∀ i j, i < j → j < x.length → ¬ cmpC (x.getD j dc) (x.getD i dc) < 0) : x = srt l :=
  srt_of h.1 fun i j hij hj hlt => h.2 i j hij hj (cmp_ltC.2 hlt)
@[simp] theorem VLe_fn0 {h : Heap} {σ : Lift.Id → Lift.Id} {fz : Nat → Bool} {vz : Lift.Id → Bool} {nx l : Nat} {f f' : Nat → AVal} : VLe h σ fz vz nx (.fn l 0 f) (.fn l 0 f') = True := eq_true ⟨rfl, rfl, fun j hj => absurd hj (Nat.not_lt_zero _)⟩
@[simp] theorem hinC_eq {l : List Cell} : hinC l = [(0, .one (.arr l.length 2 (fun i j => cellF (l.getD i dc) j)))] := rfl
theorem sortV_c (e : Enc) (hv : checkE e = 0) (h : PC Try.prog 34 [.agg 4 (encF e)] (.tup 2 (fun j => [.agg 4 (encF (srtX e)), .int .i64 (srtN e)].getD j .any))) : PC Try.prog 34 [.agg 4 (encF e)] (.tup 2 (fun j => [.agg 4 (encF (srtE e)), .int .i64 0].getD j .any)) := by
  rw [srtX_ok hv, srtN_ok hv] at h; exact h
theorem adj_no {p q : Cell} {i : Nat} (h : 0 < i → ¬ ltC q p) (hb : 0 < i ∧ ((Op.bytesLess p.word q.word = false ∧ ¬ p.word = q.word) ∨ (p.word = q.word ∧ q.to < p.to))) : False := by
  refine h hb.1 ?_
  rcases hb.2 with ⟨h1, h2⟩ | ⟨h1, h2⟩
  · refine .inl ?_
    cases h3 : Op.bytesLess q.word p.word with
    | true => rfl
    | false => exact absurd (less_total h1 h3) h2
  · exact .inr ⟨h1.symm, h2⟩
set_option maxRecDepth 100000 in
theorem sort_c (e : Enc) : PC Try.prog 34 [.agg 4 (encF e)] (.tup 2 (fun j => [.agg 4 (encF (srtX e)), .int .i64 (srtN e)].getD j .any)) := by
  refine PC_introS T_ok Try.func34 rfl (by simp [Try.ntmps34]) fun G hG hR => ?_
  simp only [Try.ntmps34, Try.results34] at hG ⊢
  simp only [argEnv, Nat.zero_add, Nat.reduceAdd]
  refine awpS_seq ?_
  refine awpS_reg T_ok fun K hK => ?_
  simp [hG, List.getD_cons_zero, List.getD_cons_succ, -List.getD_eq_getElem?_getD]
  refine ⟨Cond.mk (by simp [-List.getD_eq_getElem?_getD]), hK _ ?_⟩
  clear K hK
  refine awpS_seq ?_
  refine awpS_seq ?_
  refine awpS_regL ?_
  refine awpL_reg T_ok 1 fun K hK => ?_
  simp [hG, List.getD_cons_zero, List.getD_cons_succ, -List.getD_eq_getElem?_getD]
  refine hK _ ?_
  clear K hK
  refine awpL_call cal25 rfl rfl (fun _ => rfl) (fun hg => check_c e) (fun hg => ?_) (fun hg => ?_) fun K hK => ?_
  · simp [hG, List.getD_cons_zero, List.getD_cons_succ, -List.getD_eq_getElem?_getD]
  · simp [hG, List.getD_cons_zero, List.getD_cons_succ, -List.getD_eq_getElem?_getD]
  simp [hG, List.getD_cons_zero, List.getD_cons_succ, -List.getD_eq_getElem?_getD]
  refine hK _ ?_
  clear K hK
  refine awpL_reg T_ok 1 fun K hK => ?_
  simp [hG, List.getD_cons_zero, List.getD_cons_succ, -List.getD_eq_getElem?_getD]
  refine hK _ ?_
  clear K hK
  refine awpL_nil ?_
  refine awpS_cond rfl (fun hb10 => ?_) (fun hb10 => ?_)
  ·
    try simp [-List.getD_eq_getElem?_getD] at hb10
    refine awpS_seq ?_
    refine awpS_reg T_ok fun K hK => ?_
    simp [hG, List.getD_cons_zero, List.getD_cons_succ, -List.getD_eq_getElem?_getD]
    refine ⟨Cond.mk (by simp [-List.getD_eq_getElem?_getD]), hK _ ?_⟩
    clear K hK
    refine awpS_ret ?_
    refine RetOK_of ?_
    simp [hG, List.getD_cons_zero, List.getD_cons_succ, -List.getD_eq_getElem?_getD]
    rw [srtX_no hb10, srtN_no hb10]; simp
  ·
    try simp [-List.getD_eq_getElem?_getD] at hb10
    have hv : checkE e = 0 := (by simpa using hb10)
    have hl64 := rows_len hv
    have hin := (checkE_valid hv).1.inputs
    refine awpS_skip ?_
    refine awpS_seq ?_
    refine awpS_reg T_ok fun K hK => ?_
    simp [hG, List.getD_cons_zero, List.getD_cons_succ, -List.getD_eq_getElem?_getD]
    refine hK _ ?_
    clear K hK
    refine awpS_seq ?_
    refine awpS_seq ?_
    refine awpS_reg T_ok fun K hK => ?_
    simp [hG, List.getD_cons_zero, List.getD_cons_succ, -List.getD_eq_getElem?_getD]
    refine hK _ ?_
    clear K hK
    refine awpS_block ?_
    refine awpS_loop (α := Nat) (fun s => ⟨[(1, .ptr (0, 0) 0 0), (2, .ptr (1, 0) 0 0), (4, .sl (2, 0) 0 s), (13, rowsC e.rows), (14, .int .i64 e.rows.length), (15, .int .i64 s)], [(0, .one (.arr 1 4 (fun _ => encF e))), (1, .one (.arr 1 4 (fun _ m => [AVal.int IntKind.i64 0, AVal.int IntKind.i64 0, AVal.int IntKind.i64 0, AVal.nils].getD m AVal.any))), (2, .one (.arr s 1 (fun q _ => cells (srt (e.rows.getD q [])))))], 3⟩) (fun s => s ≤ e.rows.length) (fun s => e.rows.length - s) (0) (Nat.zero_le _) ?_ ?_
    ·
      refine wk_of (id) (fun _ => false) (fun k => k == 2) ?_ ?_ rfl (Nat.zero_le _) (fun k hk => absurd hk (Nat.not_lt_zero _))
      · simp [hG, List.getD_cons_zero, List.getD_cons_succ, -List.getD_eq_getElem?_getD]
      · simp [hG, List.getD_cons_zero, List.getD_cons_succ, -List.getD_eq_getElem?_getD]
    ·
      rintro s hs
      refine awpS_seq ?_
      refine awpS_reg T_ok fun K hK => ?_
      simp [hG, List.getD_cons_zero, List.getD_cons_succ, -List.getD_eq_getElem?_getD]
      refine hK _ ?_
      clear K hK
      refine awpS_seq ?_
      refine awpS_cond rfl (fun hb16 => ?_) (fun hb16 => ?_)
      ·
        try simp [-List.getD_eq_getElem?_getD] at hb16
        have hsr := row_len hv (k := s) (by omega)
        have hre := row_eq hv (k := s) (by omega)
        refine awpS_skip ?_
        refine awpS_seq ?_
        refine awpS_block ?_
        refine awpS_seq ?_
        refine awpS_reg T_ok fun K hK => ?_
        simp [hG, List.getD_cons_zero, List.getD_cons_succ, -List.getD_eq_getElem?_getD]
        refine ⟨Cond.mk (by omega), hK _ ?_⟩
        clear K hK
        refine awpS_seq ?_
        refine awpS_regL ?_
        refine awpL_reg T_ok 1 fun K hK => ?_
        simp [hG, List.getD_cons_zero, List.getD_cons_succ, -List.getD_eq_getElem?_getD]
        refine hK _ ?_
        clear K hK
        refine awpL_fc cal39 [] (fun _ => false) (cloneC_c (e.rows.getD s []) (by omega)) rfl rfl rfl (by simp) (.inl fun _ => rfl) ?_ ?_ ?_ fun K hK x hI hno => ?_
        · simp [hG, List.getD_cons_zero, List.getD_cons_succ, -List.getD_eq_getElem?_getD]
        · simp [hG, List.getD_cons_zero, List.getD_cons_succ, -List.getD_eq_getElem?_getD]
        · simp [hG, List.getD_cons_zero, List.getD_cons_succ, -List.getD_eq_getElem?_getD]
        simp [hG, List.getD_cons_zero, List.getD_cons_succ, -List.getD_eq_getElem?_getD]
        refine hK _ ?_
        clear K hK
        refine awpL_reg T_ok 1 fun K hK => ?_
        simp [hG, List.getD_cons_zero, List.getD_cons_succ, -List.getD_eq_getElem?_getD]
        refine hK _ ?_
        clear K hK
        refine awpL_nil ?_
        refine awpS_seq ?_
        refine awpS_regL ?_
        refine awpL_reg T_ok 1 fun K hK => ?_
        simp [hG, List.getD_cons_zero, List.getD_cons_succ, -List.getD_eq_getElem?_getD]
        refine hK _ ?_
        clear K hK
        refine awpL_fc cal56 [3] (fun _ => false) (sortC_pos (e.rows.getD s []) (by omega) (by omega)) rfl rfl rfl (by simp) (.inl fun _ => rfl) ?_ ?_ ?_ fun K hK x hI hno => ?_
        · simp [hG, List.getD_cons_zero, List.getD_cons_succ, -List.getD_eq_getElem?_getD]
        · simp [hG, List.getD_cons_zero, List.getD_cons_succ, -List.getD_eq_getElem?_getD]
        · simp [hG, List.getD_cons_zero, List.getD_cons_succ, -List.getD_eq_getElem?_getD]
        obtain rfl := srt_out hI
        simp [hG, List.getD_cons_zero, List.getD_cons_succ, -List.getD_eq_getElem?_getD]
        refine hK _ ?_
        clear K hK
        refine awpL_nil ?_
        refine awpS_reg T_ok fun K hK => ?_
        simp [hG, List.getD_cons_zero, List.getD_cons_succ, -List.getD_eq_getElem?_getD]
        refine ⟨Cond.mk (by omega), hK _ ?_⟩
        clear K hK
        refine awpS_nil ?_
        refine blockQ_norm (thenQ_norm ?_)
        refine awpS_reg T_ok fun K hK => ?_
        simp [hG, List.getD_cons_zero, List.getD_cons_succ, -List.getD_eq_getElem?_getD]
        refine ⟨Cond.mk (by omega), hK _ ?_⟩
        clear K hK
        refine awpS_nil ?_
        refine round_end (s + 1) (by omega) (by omega) ?_
        refine wk_of (fun k => if k = 2 then 5 else k) (fun k => k == 3) (fun _ => false) ?_ ?_ rfl (Nat.zero_le _) (fun k hk => absurd hk (Nat.not_lt_zero _))
        · simp [hG, List.getD_cons_zero, List.getD_cons_succ, -List.getD_eq_getElem?_getD]
        · simp [hG, List.getD_cons_zero, List.getD_cons_succ, -List.getD_eq_getElem?_getD]; refine fun j hj => app_rowC (F := fun q => srt (e.rows.getD q [])) hj ?_; simp [-List.getD_eq_getElem?_getD]
      ·
        try simp [-List.getD_eq_getElem?_getD] at hb16
        obtain rfl : s = e.rows.length := (by omega)
        refine awpS_exit ?_
        refine thenQ_exit (thenQ_exit ?_)
        refine blockQ_exit (thenQ_norm ?_)
        refine awpS_seq ?_
        refine awpS_wk (st2 := ⟨[(1, .ptr (0, 0) 0 0), (2, .ptr (1, 0) 0 0), (4, rowsC (srtE e).rows)], [(0, .one (.arr 1 4 (fun _ => encF e))), (1, .one (.arr 1 4 (fun _ m => [AVal.int IntKind.i64 0, AVal.int IntKind.i64 0, AVal.int IntKind.i64 0, AVal.nils].getD m AVal.any)))], 2⟩) ?_ ?_
        ·
          refine wk_of (id) (fun k => k == 2) (fun _ => false) ?_ ?_ rfl (Nat.zero_le _) (fun k hk => absurd hk (Nat.not_lt_zero _))
          · simp [hG, List.getD_cons_zero, List.getD_cons_succ, -List.getD_eq_getElem?_getD]; exact fun q hq => (by rw [srtE_row hq]; exact Clo.le _ Clo_cells)
          · simp [hG, List.getD_cons_zero, List.getD_cons_succ, -List.getD_eq_getElem?_getD]
        refine awpS_regL ?_
        refine awpL_reg T_ok 2 fun K hK => ?_
        simp [hG, List.getD_cons_zero, List.getD_cons_succ, -List.getD_eq_getElem?_getD]
        refine hK _ ?_
        clear K hK
        refine awpL_call cal40 rfl rfl (fun _ => rfl) (fun hg => with_c e (srtE e).rows) (fun hg => ?_) (fun hg => ?_) fun K hK => ?_
        · simp [hG, List.getD_cons_zero, List.getD_cons_succ, -List.getD_eq_getElem?_getD]
        · simp [hG, List.getD_cons_zero, List.getD_cons_succ, -List.getD_eq_getElem?_getD]
        simp [hG, List.getD_cons_zero, List.getD_cons_succ, -List.getD_eq_getElem?_getD]
        refine hK _ ?_
        clear K hK
        refine awpL_reg T_ok 2 fun K hK => ?_
        simp [hG, List.getD_cons_zero, List.getD_cons_succ, -List.getD_eq_getElem?_getD]
        refine ⟨Cond.mk (by simp [-List.getD_eq_getElem?_getD]), hK _ ?_⟩
        clear K hK
        refine awpL_nil ?_
        refine awpS_ret ?_
        refine RetOK_of ?_
        simp [hG, List.getD_cons_zero, List.getD_cons_succ, -List.getD_eq_getElem?_getD]
        rw [srtX_ok hv, srtN_ok hv]; simp; exact ⟨rfl, rfl, rfl⟩

set_option maxRecDepth 100000 in
set_option maxHeartbeats 2000000 in
theorem sortedLaw_c (e : Enc) (lb : List UInt8) (hlb : lb.length ≤ maxLen) : PC Try.prog 10 [.agg 4 (encF e), Lift.bytes lb] (.bool true) := by
  refine PC_introS T_ok Try.func10 rfl (by simp [Try.ntmps10]) fun G hG hR => ?_
  simp only [Try.ntmps10, Try.results10] at hG ⊢
  simp only [argEnv, Nat.zero_add, Nat.reduceAdd]
  refine awpS_seq ?_
  refine awpS_reg T_ok fun K hK => ?_
  simp [hG, List.getD_cons_zero, List.getD_cons_succ, -List.getD_eq_getElem?_getD, gtr_less]
  refine ⟨Cond.mk (by simp [-List.getD_eq_getElem?_getD]), hK _ ?_⟩
  clear K hK
  refine awpS_seq ?_
  refine awpS_seq ?_
  refine awpS_regL ?_
  refine awpL_reg T_ok 1 fun K hK => ?_
  simp [hG, List.getD_cons_zero, List.getD_cons_succ, -List.getD_eq_getElem?_getD, gtr_less]
  refine hK _ ?_
  clear K hK
  refine awpL_call cal11 rfl rfl (fun _ => rfl) (fun hg => fine_c e) (fun hg => ?_) (fun hg => ?_) fun K hK => ?_
  · simp [hG, List.getD_cons_zero, List.getD_cons_succ, -List.getD_eq_getElem?_getD, gtr_less]
  · simp [hG, List.getD_cons_zero, List.getD_cons_succ, -List.getD_eq_getElem?_getD, gtr_less]
  simp [hG, List.getD_cons_zero, List.getD_cons_succ, -List.getD_eq_getElem?_getD, gtr_less]
  refine hK _ ?_
  clear K hK
  refine awpL_reg T_ok 1 fun K hK => ?_
  simp [hG, List.getD_cons_zero, List.getD_cons_succ, -List.getD_eq_getElem?_getD, gtr_less]
  refine hK _ ?_
  clear K hK
  refine awpL_nil ?_
  refine awpS_cond rfl (fun hb20 => ?_) (fun hb20 => ?_)
  ·
    try simp [-List.getD_eq_getElem?_getD] at hb20
    refine awpS_seq ?_
    refine awpS_regL ?_
    refine awpL_call cal12 rfl rfl (fun _ => rfl) (fun hg => awake_c) (fun hg => ?_) (fun hg => ?_) fun K hK => ?_
    · simp [hG, List.getD_cons_zero, List.getD_cons_succ, -List.getD_eq_getElem?_getD, gtr_less]
    · simp [hG, List.getD_cons_zero, List.getD_cons_succ, -List.getD_eq_getElem?_getD, gtr_less]
    simp [hG, List.getD_cons_zero, List.getD_cons_succ, -List.getD_eq_getElem?_getD, gtr_less]
    refine hK _ ?_
    clear K hK
    refine awpL_reg T_ok 1 fun K hK => ?_
    simp [hG, List.getD_cons_zero, List.getD_cons_succ, -List.getD_eq_getElem?_getD, gtr_less]
    refine hK _ ?_
    clear K hK
    refine awpL_nil ?_
    refine awpS_ret ?_
    refine RetOK_of ?_
    simp [hG, List.getD_cons_zero, List.getD_cons_succ, -List.getD_eq_getElem?_getD, gtr_less]
  ·
    try simp [-List.getD_eq_getElem?_getD] at hb20
    have hv : checkE e = 0 := (by have := hb20; simp [fineE] at this; exact this.1.2)
    have hpos := (checkE_valid hv).2.1
    have hin := (checkE_valid hv).1.inputs
    have hl64 := rows_len hv
    have hvs := srt_valid hv
    have hP : Perms e (permsL e lb) := perms_ok
    have hvr := rel_valid hv hP
    refine awpS_skip ?_
    refine awpS_seq ?_
    refine awpS_regL ?_
    refine awpL_reg T_ok 1 fun K hK => ?_
    simp [hG, List.getD_cons_zero, List.getD_cons_succ, -List.getD_eq_getElem?_getD, gtr_less]
    refine hK _ ?_
    clear K hK
    refine awpL_call cal34 rfl rfl (fun _ => rfl) (fun hg => sortV_c e hv (sort_c e)) (fun hg => ?_) (fun hg => ?_) fun K hK => ?_
    · simp [hG, List.getD_cons_zero, List.getD_cons_succ, -List.getD_eq_getElem?_getD, gtr_less]
    · simp [hG, List.getD_cons_zero, List.getD_cons_succ, -List.getD_eq_getElem?_getD, gtr_less]
    simp [hG, List.getD_cons_zero, List.getD_cons_succ, -List.getD_eq_getElem?_getD, gtr_less]
    refine hK _ ?_
    clear K hK
    refine awpL_reg T_ok 6 fun K hK => ?_
    simp [hG, List.getD_cons_zero, List.getD_cons_succ, -List.getD_eq_getElem?_getD, gtr_less]
    refine ⟨Cond.mk (by simp [-List.getD_eq_getElem?_getD]), hK _ ?_⟩
    clear K hK
    refine awpL_nil ?_
    refine awpS_seq ?_
    refine awpS_regL ?_
    refine awpL_reg T_ok 1 fun K hK => ?_
    simp [hG, List.getD_cons_zero, List.getD_cons_succ, -List.getD_eq_getElem?_getD, gtr_less]
    refine hK _ ?_
    clear K hK
    refine awpL_call cal34 rfl rfl (fun _ => rfl) (fun hg => by have h := sortV_c (srtE e) hvs (sort_c _); rw [srt_twice] at h; exact h) (fun hg => ?_) (fun hg => ?_) fun K hK => ?_
    · simp [hG, List.getD_cons_zero, List.getD_cons_succ, -List.getD_eq_getElem?_getD, gtr_less]
    · simp [hG, List.getD_cons_zero, List.getD_cons_succ, -List.getD_eq_getElem?_getD, gtr_less]
    simp [hG, List.getD_cons_zero, List.getD_cons_succ, -List.getD_eq_getElem?_getD, gtr_less]
    refine hK _ ?_
    clear K hK
    refine awpL_reg T_ok 6 fun K hK => ?_
    simp [hG, List.getD_cons_zero, List.getD_cons_succ, -List.getD_eq_getElem?_getD, gtr_less]
    refine ⟨Cond.mk (by simp [-List.getD_eq_getElem?_getD]), hK _ ?_⟩
    clear K hK
    refine awpL_nil ?_
    refine awpS_seq ?_
    refine awpS_cut (α := Unit) (fun _u => ⟨[(2, .ptr (0, 0) 0 0), (5, .ptr (1, 0) 0 0), (6, .int .i64 0), (7, .ptr (2, 0) 0 0), (8, .int .i64 0), (9, .ptr (3, 0) 0 0), (10, .int .i64 0)], [(0, .one (.arr 1 4 (fun _ => encF e))), (1, .one (.arr 1 4 (fun _ => encF (srtE e)))), (2, .one (.arr 1 4 (fun _ => encF (srtE e)))), (3, .one (.arr 1 4 (fun _ => encF (relE e (permsL e lb)))))], 4⟩) (fun _u => True) ?_ ?_ (by simp)
    ·
      refine awpS_draw hR mixed [] ⟨[9], [], []⟩ fun mu0 => ?_
      refine awpA_tk T_ok [0, 1, 2] [] (fuel := 8) [2, 1, 0] (by decide +kernel) (by decide +kernel) rfl rfl fun K hK => ?_
      simp [hG, List.getD_cons_zero, List.getD_cons_succ, -List.getD_eq_getElem?_getD, gtr_less]
      refine hK _ ?_
      clear K hK
      refine awpA_two (fuel := 7) (i := 3) (k := 8) (by decide +kernel) ?_ ?_
      ·
        refine awpO_call cal28 rfl rfl rfl (fun _ => rfl) (fun hg => permutations_c e lb hv hlb) (fun hg => ?_) (fun hg => ?_) fun K hK => ?_
        · simp [hG, List.getD_cons_zero, List.getD_cons_succ, -List.getD_eq_getElem?_getD, gtr_less]
        · simp [hG, List.getD_cons_zero, List.getD_cons_succ, -List.getD_eq_getElem?_getD, gtr_less]
        simp [hG, List.getD_cons_zero, List.getD_cons_succ, -List.getD_eq_getElem?_getD, gtr_less]
        refine hK _ ?_
        clear K hK
        refine awpA_two (fuel := 6) (i := 4) (k := 8) (by decide +kernel) ?_ ?_
        ·
          refine awpO_call cal29 rfl rfl rfl (fun _ => rfl) (fun hg => relabelV_c e (permsL e lb) hv hP) (fun hg => ?_) (fun hg => ?_) fun K hK => ?_
          · simp [hG, List.getD_cons_zero, List.getD_cons_succ, -List.getD_eq_getElem?_getD, gtr_less]
          · simp [hG, List.getD_cons_zero, List.getD_cons_succ, -List.getD_eq_getElem?_getD, gtr_less]
          simp [hG, List.getD_cons_zero, List.getD_cons_succ, -List.getD_eq_getElem?_getD, gtr_less]
          refine hK _ ?_
          clear K hK
          refine awpA_tk T_ok [5, 6] [] (fuel := 4) [6, 5, 4, 3, 2, 1, 0] (by decide +kernel) (by decide +kernel) rfl rfl fun K hK => ?_
          simp [hG, List.getD_cons_zero, List.getD_cons_succ, -List.getD_eq_getElem?_getD, gtr_less]
          refine hK _ ?_
          clear K hK
          refine awpA_two (fuel := 3) (i := 7) (k := 8) (by decide +kernel) ?_ ?_
          ·
            refine awpO_reg T_ok rfl ?_ fun K hK => ?_
            · simp [hG, List.getD_cons_zero, List.getD_cons_succ, -List.getD_eq_getElem?_getD, gtr_less]
            simp [hG, List.getD_cons_zero, List.getD_cons_succ, -List.getD_eq_getElem?_getD, gtr_less]
            refine hK _ ?_
            clear K hK
            refine awpA_only (fuel := 2) (i := 8) (by decide +kernel) ?_
            refine awpO_reg T_ok rfl ?_ fun K hK => ?_
            · simp [hG, List.getD_cons_zero, List.getD_cons_succ, -List.getD_eq_getElem?_getD, gtr_less]
            simp [hG, List.getD_cons_zero, List.getD_cons_succ, -List.getD_eq_getElem?_getD, gtr_less]
            refine hK _ ?_
            clear K hK
            refine awpA_only (fuel := 1) (i := 9) (by decide +kernel) ?_
            refine awpO_reg T_ok rfl ?_ fun K hK => ?_
            · simp [hG, List.getD_cons_zero, List.getD_cons_succ, -List.getD_eq_getElem?_getD, gtr_less]
            simp [hG, List.getD_cons_zero, List.getD_cons_succ, -List.getD_eq_getElem?_getD, gtr_less]
            refine ⟨Cond.mk (by simp [-List.getD_eq_getElem?_getD]), hK _ ?_⟩
            clear K hK
            refine awpA_tk T_ok [10] [] (fuel := 0) [10, 9, 8, 7, 6, 5, 4, 3, 2, 1, 0] (by decide +kernel) (by decide +kernel) rfl rfl fun K hK => ?_
            simp [hG, List.getD_cons_zero, List.getD_cons_succ, -List.getD_eq_getElem?_getD, gtr_less]
            refine hK _ ?_
            clear K hK
            refine awpA_done (by decide +kernel) ?_
            refine awpS_nil ?_
            refine cut_end (()) (trivial) ?_
            refine wk_of (id) (fun _ => false) (fun _ => false) ?_ ?_ rfl (Nat.zero_le _) (fun k hk => absurd hk (Nat.not_lt_zero _))
            · simp [hG, List.getD_cons_zero, List.getD_cons_succ, -List.getD_eq_getElem?_getD, gtr_less]
            · simp [hG, List.getD_cons_zero, List.getD_cons_succ, -List.getD_eq_getElem?_getD, gtr_less]
          ·
            refine awpO_reg T_ok rfl ?_ fun K hK => ?_
            · simp [hG, List.getD_cons_zero, List.getD_cons_succ, -List.getD_eq_getElem?_getD, gtr_less]
            simp [hG, List.getD_cons_zero, List.getD_cons_succ, -List.getD_eq_getElem?_getD, gtr_less]
            refine hK _ ?_
            clear K hK
            refine awpA_two (fuel := 2) (i := 7) (k := 9) (by decide +kernel) ?_ ?_
            ·
              refine awpO_reg T_ok rfl ?_ fun K hK => ?_
              · simp [hG, List.getD_cons_zero, List.getD_cons_succ, -List.getD_eq_getElem?_getD, gtr_less]
              simp [hG, List.getD_cons_zero, List.getD_cons_succ, -List.getD_eq_getElem?_getD, gtr_less]
              refine hK _ ?_
              clear K hK
              refine awpA_only (fuel := 1) (i := 9) (by decide +kernel) ?_
              refine awpO_reg T_ok rfl ?_ fun K hK => ?_
              · simp [hG, List.getD_cons_zero, List.getD_cons_succ, -List.getD_eq_getElem?_getD, gtr_less]
              simp [hG, List.getD_cons_zero, List.getD_cons_succ, -List.getD_eq_getElem?_getD, gtr_less]
              refine ⟨Cond.mk (by simp [-List.getD_eq_getElem?_getD]), hK _ ?_⟩
              clear K hK
              refine awpA_tk T_ok [10] [] (fuel := 0) [10, 9, 7, 8, 6, 5, 4, 3, 2, 1, 0] (by decide +kernel) (by decide +kernel) rfl rfl fun K hK => ?_
              simp [hG, List.getD_cons_zero, List.getD_cons_succ, -List.getD_eq_getElem?_getD, gtr_less]
              refine hK _ ?_
              clear K hK
              refine awpA_done (by decide +kernel) ?_
              refine awpS_nil ?_
              refine cut_end (()) (trivial) ?_
              refine wk_of (id) (fun _ => false) (fun _ => false) ?_ ?_ rfl (Nat.zero_le _) (fun k hk => absurd hk (Nat.not_lt_zero _))
              · simp [hG, List.getD_cons_zero, List.getD_cons_succ, -List.getD_eq_getElem?_getD, gtr_less]
              · simp [hG, List.getD_cons_zero, List.getD_cons_succ, -List.getD_eq_getElem?_getD, gtr_less]
            ·
              refine awpO_reg T_ok rfl ?_ fun K hK => ?_
              · simp [hG, List.getD_cons_zero, List.getD_cons_succ, -List.getD_eq_getElem?_getD, gtr_less]
              simp [hG, List.getD_cons_zero, List.getD_cons_succ, -List.getD_eq_getElem?_getD, gtr_less]
              refine ⟨Cond.mk (by simp [-List.getD_eq_getElem?_getD]), hK _ ?_⟩
              clear K hK
              refine awpA_tk T_ok [7, 10] [] (fuel := 0) [10, 7, 9, 8, 6, 5, 4, 3, 2, 1, 0] (by decide +kernel) (by decide +kernel) rfl rfl fun K hK => ?_
              simp [hG, List.getD_cons_zero, List.getD_cons_succ, -List.getD_eq_getElem?_getD, gtr_less]
              refine hK _ ?_
              clear K hK
              refine awpA_done (by decide +kernel) ?_
              refine awpS_nil ?_
              refine cut_end (()) (trivial) ?_
              refine wk_of (id) (fun _ => false) (fun _ => false) ?_ ?_ rfl (Nat.zero_le _) (fun k hk => absurd hk (Nat.not_lt_zero _))
              · simp [hG, List.getD_cons_zero, List.getD_cons_succ, -List.getD_eq_getElem?_getD, gtr_less]
              · simp [hG, List.getD_cons_zero, List.getD_cons_succ, -List.getD_eq_getElem?_getD, gtr_less]
        ·
          refine awpO_reg T_ok rfl ?_ fun K hK => ?_
          · simp [hG, List.getD_cons_zero, List.getD_cons_succ, -List.getD_eq_getElem?_getD, gtr_less]
          simp [hG, List.getD_cons_zero, List.getD_cons_succ, -List.getD_eq_getElem?_getD, gtr_less]
          refine hK _ ?_
          clear K hK
          refine awpA_only (fuel := 5) (i := 4) (by decide +kernel) ?_
          refine awpO_call cal29 rfl rfl rfl (fun _ => rfl) (fun hg => relabelV_c e (permsL e lb) hv hP) (fun hg => ?_) (fun hg => ?_) fun K hK => ?_
          · simp [hG, List.getD_cons_zero, List.getD_cons_succ, -List.getD_eq_getElem?_getD, gtr_less]
          · simp [hG, List.getD_cons_zero, List.getD_cons_succ, -List.getD_eq_getElem?_getD, gtr_less]
          simp [hG, List.getD_cons_zero, List.getD_cons_succ, -List.getD_eq_getElem?_getD, gtr_less]
          refine hK _ ?_
          clear K hK
          refine awpA_tk T_ok [5, 6] [] (fuel := 3) [6, 5, 4, 8, 3, 2, 1, 0] (by decide +kernel) (by decide +kernel) rfl rfl fun K hK => ?_
          simp [hG, List.getD_cons_zero, List.getD_cons_succ, -List.getD_eq_getElem?_getD, gtr_less]
          refine hK _ ?_
          clear K hK
          refine awpA_two (fuel := 2) (i := 7) (k := 9) (by decide +kernel) ?_ ?_
          ·
            refine awpO_reg T_ok rfl ?_ fun K hK => ?_
            · simp [hG, List.getD_cons_zero, List.getD_cons_succ, -List.getD_eq_getElem?_getD, gtr_less]
            simp [hG, List.getD_cons_zero, List.getD_cons_succ, -List.getD_eq_getElem?_getD, gtr_less]
            refine hK _ ?_
            clear K hK
            refine awpA_only (fuel := 1) (i := 9) (by decide +kernel) ?_
            refine awpO_reg T_ok rfl ?_ fun K hK => ?_
            · simp [hG, List.getD_cons_zero, List.getD_cons_succ, -List.getD_eq_getElem?_getD, gtr_less]
            simp [hG, List.getD_cons_zero, List.getD_cons_succ, -List.getD_eq_getElem?_getD, gtr_less]
            refine ⟨Cond.mk (by simp [-List.getD_eq_getElem?_getD]), hK _ ?_⟩
            clear K hK
            refine awpA_tk T_ok [10] [] (fuel := 0) [10, 9, 7, 6, 5, 4, 8, 3, 2, 1, 0] (by decide +kernel) (by decide +kernel) rfl rfl fun K hK => ?_
            simp [hG, List.getD_cons_zero, List.getD_cons_succ, -List.getD_eq_getElem?_getD, gtr_less]
            refine hK _ ?_
            clear K hK
            refine awpA_done (by decide +kernel) ?_
            refine awpS_nil ?_
            refine cut_end (()) (trivial) ?_
            refine wk_of (id) (fun _ => false) (fun _ => false) ?_ ?_ rfl (Nat.zero_le _) (fun k hk => absurd hk (Nat.not_lt_zero _))
            · simp [hG, List.getD_cons_zero, List.getD_cons_succ, -List.getD_eq_getElem?_getD, gtr_less]
            · simp [hG, List.getD_cons_zero, List.getD_cons_succ, -List.getD_eq_getElem?_getD, gtr_less]
          ·
            refine awpO_reg T_ok rfl ?_ fun K hK => ?_
            · simp [hG, List.getD_cons_zero, List.getD_cons_succ, -List.getD_eq_getElem?_getD, gtr_less]
            simp [hG, List.getD_cons_zero, List.getD_cons_succ, -List.getD_eq_getElem?_getD, gtr_less]
            refine ⟨Cond.mk (by simp [-List.getD_eq_getElem?_getD]), hK _ ?_⟩
            clear K hK
            refine awpA_tk T_ok [7, 10] [] (fuel := 0) [10, 7, 9, 6, 5, 4, 8, 3, 2, 1, 0] (by decide +kernel) (by decide +kernel) rfl rfl fun K hK => ?_
            simp [hG, List.getD_cons_zero, List.getD_cons_succ, -List.getD_eq_getElem?_getD, gtr_less]
            refine hK _ ?_
            clear K hK
            refine awpA_done (by decide +kernel) ?_
            refine awpS_nil ?_
            refine cut_end (()) (trivial) ?_
            refine wk_of (id) (fun _ => false) (fun _ => false) ?_ ?_ rfl (Nat.zero_le _) (fun k hk => absurd hk (Nat.not_lt_zero _))
            · simp [hG, List.getD_cons_zero, List.getD_cons_succ, -List.getD_eq_getElem?_getD, gtr_less]
            · simp [hG, List.getD_cons_zero, List.getD_cons_succ, -List.getD_eq_getElem?_getD, gtr_less]
      ·
        refine awpO_reg T_ok rfl ?_ fun K hK => ?_
        · simp [hG, List.getD_cons_zero, List.getD_cons_succ, -List.getD_eq_getElem?_getD, gtr_less]
        simp [hG, List.getD_cons_zero, List.getD_cons_succ, -List.getD_eq_getElem?_getD, gtr_less]
        refine hK _ ?_
        clear K hK
        refine awpA_only (fuel := 6) (i := 3) (by decide +kernel) ?_
        refine awpO_call cal28 rfl rfl rfl (fun _ => rfl) (fun hg => permutations_c e lb hv hlb) (fun hg => ?_) (fun hg => ?_) fun K hK => ?_
        · simp [hG, List.getD_cons_zero, List.getD_cons_succ, -List.getD_eq_getElem?_getD, gtr_less]
        · simp [hG, List.getD_cons_zero, List.getD_cons_succ, -List.getD_eq_getElem?_getD, gtr_less]
        simp [hG, List.getD_cons_zero, List.getD_cons_succ, -List.getD_eq_getElem?_getD, gtr_less]
        refine hK _ ?_
        clear K hK
        refine awpA_only (fuel := 5) (i := 4) (by decide +kernel) ?_
        refine awpO_call cal29 rfl rfl rfl (fun _ => rfl) (fun hg => relabelV_c e (permsL e lb) hv hP) (fun hg => ?_) (fun hg => ?_) fun K hK => ?_
        · simp [hG, List.getD_cons_zero, List.getD_cons_succ, -List.getD_eq_getElem?_getD, gtr_less]
        · simp [hG, List.getD_cons_zero, List.getD_cons_succ, -List.getD_eq_getElem?_getD, gtr_less]
        simp [hG, List.getD_cons_zero, List.getD_cons_succ, -List.getD_eq_getElem?_getD, gtr_less]
        refine hK _ ?_
        clear K hK
        refine awpA_tk T_ok [5, 6] [] (fuel := 3) [6, 5, 4, 3, 8, 2, 1, 0] (by decide +kernel) (by decide +kernel) rfl rfl fun K hK => ?_
        simp [hG, List.getD_cons_zero, List.getD_cons_succ, -List.getD_eq_getElem?_getD, gtr_less]
        refine hK _ ?_
        clear K hK
        refine awpA_two (fuel := 2) (i := 7) (k := 9) (by decide +kernel) ?_ ?_
        ·
          refine awpO_reg T_ok rfl ?_ fun K hK => ?_
          · simp [hG, List.getD_cons_zero, List.getD_cons_succ, -List.getD_eq_getElem?_getD, gtr_less]
          simp [hG, List.getD_cons_zero, List.getD_cons_succ, -List.getD_eq_getElem?_getD, gtr_less]
          refine hK _ ?_
          clear K hK
          refine awpA_only (fuel := 1) (i := 9) (by decide +kernel) ?_
          refine awpO_reg T_ok rfl ?_ fun K hK => ?_
          · simp [hG, List.getD_cons_zero, List.getD_cons_succ, -List.getD_eq_getElem?_getD, gtr_less]
          simp [hG, List.getD_cons_zero, List.getD_cons_succ, -List.getD_eq_getElem?_getD, gtr_less]
          refine ⟨Cond.mk (by simp [-List.getD_eq_getElem?_getD]), hK _ ?_⟩
          clear K hK
          refine awpA_tk T_ok [10] [] (fuel := 0) [10, 9, 7, 6, 5, 4, 3, 8, 2, 1, 0] (by decide +kernel) (by decide +kernel) rfl rfl fun K hK => ?_
          simp [hG, List.getD_cons_zero, List.getD_cons_succ, -List.getD_eq_getElem?_getD, gtr_less]
          refine hK _ ?_
          clear K hK
          refine awpA_done (by decide +kernel) ?_
          refine awpS_nil ?_
          refine cut_end (()) (trivial) ?_
          refine wk_of (id) (fun _ => false) (fun _ => false) ?_ ?_ rfl (Nat.zero_le _) (fun k hk => absurd hk (Nat.not_lt_zero _))
          · simp [hG, List.getD_cons_zero, List.getD_cons_succ, -List.getD_eq_getElem?_getD, gtr_less]
          · simp [hG, List.getD_cons_zero, List.getD_cons_succ, -List.getD_eq_getElem?_getD, gtr_less]
        ·
          refine awpO_reg T_ok rfl ?_ fun K hK => ?_
          · simp [hG, List.getD_cons_zero, List.getD_cons_succ, -List.getD_eq_getElem?_getD, gtr_less]
          simp [hG, List.getD_cons_zero, List.getD_cons_succ, -List.getD_eq_getElem?_getD, gtr_less]
          refine ⟨Cond.mk (by simp [-List.getD_eq_getElem?_getD]), hK _ ?_⟩
          clear K hK
          refine awpA_tk T_ok [7, 10] [] (fuel := 0) [10, 7, 9, 6, 5, 4, 3, 8, 2, 1, 0] (by decide +kernel) (by decide +kernel) rfl rfl fun K hK => ?_
          simp [hG, List.getD_cons_zero, List.getD_cons_succ, -List.getD_eq_getElem?_getD, gtr_less]
          refine hK _ ?_
          clear K hK
          refine awpA_done (by decide +kernel) ?_
          refine awpS_nil ?_
          refine cut_end (()) (trivial) ?_
          refine wk_of (id) (fun _ => false) (fun _ => false) ?_ ?_ rfl (Nat.zero_le _) (fun k hk => absurd hk (Nat.not_lt_zero _))
          · simp [hG, List.getD_cons_zero, List.getD_cons_succ, -List.getD_eq_getElem?_getD, gtr_less]
          · simp [hG, List.getD_cons_zero, List.getD_cons_succ, -List.getD_eq_getElem?_getD, gtr_less]
    ·
      rintro ⟨⟩ -
      refine awpS_seq ?_
      refine awpS_regL ?_
      refine awpL_reg T_ok 1 fun K hK => ?_
      simp [hG, List.getD_cons_zero, List.getD_cons_succ, -List.getD_eq_getElem?_getD, gtr_less]
      refine hK _ ?_
      clear K hK
      refine awpL_call cal34 rfl rfl (fun _ => rfl) (fun hg => by have h := sortV_c (relE e (permsL e lb)) hvr (sort_c _); rw [srt_rel hv hP] at h; exact h) (fun hg => ?_) (fun hg => ?_) fun K hK => ?_
      · simp [hG, List.getD_cons_zero, List.getD_cons_succ, -List.getD_eq_getElem?_getD, gtr_less]
      · simp [hG, List.getD_cons_zero, List.getD_cons_succ, -List.getD_eq_getElem?_getD, gtr_less]
      simp [hG, List.getD_cons_zero, List.getD_cons_succ, -List.getD_eq_getElem?_getD, gtr_less]
      refine hK _ ?_
      clear K hK
      refine awpL_reg T_ok 6 fun K hK => ?_
      simp [hG, List.getD_cons_zero, List.getD_cons_succ, -List.getD_eq_getElem?_getD, gtr_less]
      refine ⟨Cond.mk (by simp [-List.getD_eq_getElem?_getD]), hK _ ?_⟩
      clear K hK
      refine awpL_nil ?_
      refine awpS_seq ?_
      refine awpS_seq ?_
      refine awpS_regL ?_
      refine awpL_reg T_ok 9 fun K hK => ?_
      simp [hG, List.getD_cons_zero, List.getD_cons_succ, -List.getD_eq_getElem?_getD, gtr_less]
      refine ⟨Cond.mk (by simp [-List.getD_eq_getElem?_getD]), hK _ ?_⟩
      clear K hK
      refine awpL_call cal23 rfl rfl (fun _ => rfl) (fun hg => sameV_c (srtE e) hvs) (fun hg => ?_) (fun hg => ?_) fun K hK => ?_
      · first | (simp [hG, List.getD_cons_zero, List.getD_cons_succ, -List.getD_eq_getElem?_getD, gtr_less]; done) | (simp [-List.getD_eq_getElem?_getD] at hg; done) | (simp [-List.getD_eq_getElem?_getD] at hg; simp [hG, List.getD_cons_zero, List.getD_cons_succ, -List.getD_eq_getElem?_getD, gtr_less]; first | omega | exact hg | (simp_all [-List.getD_eq_getElem?_getD]; done) | (simp_all [-List.getD_eq_getElem?_getD]; first | exact ⟨rfl, rfl⟩ | exact rfl))
      · first | (simp [hG, List.getD_cons_zero, List.getD_cons_succ, -List.getD_eq_getElem?_getD, gtr_less]; done) | (simp [-List.getD_eq_getElem?_getD] at hg; done) | (simp [-List.getD_eq_getElem?_getD] at hg; simp [hG, List.getD_cons_zero, List.getD_cons_succ, -List.getD_eq_getElem?_getD, gtr_less]; first | omega | exact hg | (simp_all [-List.getD_eq_getElem?_getD]; done) | (simp_all [-List.getD_eq_getElem?_getD]; first | exact ⟨rfl, rfl⟩ | exact rfl))
      simp [hG, List.getD_cons_zero, List.getD_cons_succ, -List.getD_eq_getElem?_getD, gtr_less]
      refine hK _ ?_
      clear K hK
      refine awpL_reg T_ok 5 fun K hK => ?_
      simp [hG, List.getD_cons_zero, List.getD_cons_succ, -List.getD_eq_getElem?_getD, gtr_less]
      refine ⟨Cond.mk (by simp [-List.getD_eq_getElem?_getD]), hK _ ?_⟩
      clear K hK
      refine awpL_call cal23 rfl rfl (fun _ => rfl) (fun hg => sameV_c (srtE e) hvs) (fun hg => ?_) (fun hg => ?_) fun K hK => ?_
      · first | (simp [hG, List.getD_cons_zero, List.getD_cons_succ, -List.getD_eq_getElem?_getD, gtr_less]; done) | (simp [-List.getD_eq_getElem?_getD] at hg; done) | (simp [-List.getD_eq_getElem?_getD] at hg; simp [hG, List.getD_cons_zero, List.getD_cons_succ, -List.getD_eq_getElem?_getD, gtr_less]; first | omega | exact hg | (simp_all [-List.getD_eq_getElem?_getD]; done) | (simp_all [-List.getD_eq_getElem?_getD]; first | exact ⟨rfl, rfl⟩ | exact rfl))
      · first | (simp [hG, List.getD_cons_zero, List.getD_cons_succ, -List.getD_eq_getElem?_getD, gtr_less]; done) | (simp [-List.getD_eq_getElem?_getD] at hg; done) | (simp [-List.getD_eq_getElem?_getD] at hg; simp [hG, List.getD_cons_zero, List.getD_cons_succ, -List.getD_eq_getElem?_getD, gtr_less]; first | omega | exact hg | (simp_all [-List.getD_eq_getElem?_getD]; done) | (simp_all [-List.getD_eq_getElem?_getD]; first | exact ⟨rfl, rfl⟩ | exact rfl))
      simp [hG, List.getD_cons_zero, List.getD_cons_succ, -List.getD_eq_getElem?_getD, gtr_less]
      refine hK _ ?_
      clear K hK
      refine awpL_reg T_ok 11 fun K hK => ?_
      simp [hG, List.getD_cons_zero, List.getD_cons_succ, -List.getD_eq_getElem?_getD, gtr_less]
      refine ⟨Cond.mk (by simp [-List.getD_eq_getElem?_getD]), hK _ ?_⟩
      clear K hK
      refine awpL_nil ?_
      refine awpS_cond rfl (fun hb71 => ?_) (fun hb71 => ?_)
      ·
        simp at hb71
      ·
        try simp [-List.getD_eq_getElem?_getD] at hb71
        refine awpS_skip ?_
        refine awpS_seq ?_
        refine awpS_reg T_ok fun K hK => ?_
        simp [hG, List.getD_cons_zero, List.getD_cons_succ, -List.getD_eq_getElem?_getD, gtr_less]
        refine hK _ ?_
        clear K hK
        refine awpS_seq ?_
        refine awpS_seq ?_
        refine awpS_reg T_ok fun K hK => ?_
        simp [hG, List.getD_cons_zero, List.getD_cons_succ, -List.getD_eq_getElem?_getD, gtr_less]
        refine hK _ ?_
        clear K hK
        refine awpS_block ?_
        refine awpS_loop (α := Nat) (fun s => ⟨[(2, .ptr (0, 0) 0 0), (5, .ptr (1, 0) 0 0), (13, .fn 36 0 (fun _ => .any)), (73, rowsC (srtE e).rows), (74, .int .i64 e.rows.length), (75, .int .i64 s)], [(0, .one (.arr 1 4 (fun _ => encF e))), (1, .one (.arr 1 4 (fun _ => encF (srtE e))))], 2⟩) (fun s => s ≤ e.rows.length) (fun s => e.rows.length - s) (0) (Nat.zero_le _) ?_ ?_
        ·
          refine wk_of (id) (fun _ => false) (fun _ => false) ?_ ?_ rfl (Nat.zero_le _) (fun k hk => absurd hk (Nat.not_lt_zero _))
          · simp [hG, List.getD_cons_zero, List.getD_cons_succ, -List.getD_eq_getElem?_getD, gtr_less]
          · simp [hG, List.getD_cons_zero, List.getD_cons_succ, -List.getD_eq_getElem?_getD, gtr_less]
        ·
          rintro s hs
          refine awpS_seq ?_
          refine awpS_reg T_ok fun K hK => ?_
          simp [hG, List.getD_cons_zero, List.getD_cons_succ, -List.getD_eq_getElem?_getD, gtr_less]
          refine hK _ ?_
          clear K hK
          refine awpS_seq ?_
          refine awpS_cond rfl (fun hb76 => ?_) (fun hb76 => ?_)
          ·
            try simp [-List.getD_eq_getElem?_getD] at hb76
            have hre := row_eq hv (k := s) (by omega)
            have hrl := row_len hv (k := s) (by omega)
            have hal : (srt (e.rows.getD s [])).length = (e.rows.getD s []).length := srt_len
            have hsr := srtE_row (e := e) (s := s) (by omega)
            refine awpS_skip ?_
            refine awpS_seq ?_
            refine awpS_block ?_
            refine awpS_seq ?_
            refine awpS_reg T_ok fun K hK => ?_
            simp [hG, List.getD_cons_zero, List.getD_cons_succ, -List.getD_eq_getElem?_getD, gtr_less]
            refine ⟨Cond.mk (by omega), hK _ ?_⟩
            clear K hK
            refine awpS_seq ?_
            refine awpS_seq ?_
            refine awpS_reg T_ok fun K hK => ?_
            simp [hG, List.getD_cons_zero, List.getD_cons_succ, -List.getD_eq_getElem?_getD, gtr_less]
            refine hK _ ?_
            clear K hK
            refine awpS_block ?_
            refine awpS_loop (α := Nat) (fun i => ⟨[(2, .ptr (0, 0) 0 0), (5, .ptr (1, 0) 0 0), (13, .fn 36 0 (fun _ => .any)), (14, .int .i64 s), (15, cells (srt (e.rows.getD s []))), (73, rowsC (srtE e).rows), (74, .int .i64 e.rows.length), (75, .int .i64 s), (80, cells (srt (e.rows.getD s []))), (81, .int .i64 (srt (e.rows.getD s [])).length), (82, .int .i64 i)], [(0, .one (.arr 1 4 (fun _ => encF e))), (1, .one (.arr 1 4 (fun _ => encF (srtE e))))], 2⟩) (fun i => i ≤ (srt (e.rows.getD s [])).length) (fun i => (srt (e.rows.getD s [])).length - i) (0) (Nat.zero_le _) ?_ ?_
            ·
              refine wk_of (id) (fun _ => false) (fun _ => false) ?_ ?_ rfl (Nat.zero_le _) (fun k hk => absurd hk (Nat.not_lt_zero _))
              · simp [hG, List.getD_cons_zero, List.getD_cons_succ, -List.getD_eq_getElem?_getD]; rw [hsr]; exact ⟨Clo.le _ Clo_cells, by rw [srt_len]⟩
              · simp [hG, List.getD_cons_zero, List.getD_cons_succ, -List.getD_eq_getElem?_getD, gtr_less]
            ·
              rintro i hi
              refine awpS_seq ?_
              refine awpS_reg T_ok fun K hK => ?_
              simp [hG, List.getD_cons_zero, List.getD_cons_succ, -List.getD_eq_getElem?_getD, gtr_less]
              refine hK _ ?_
              clear K hK
              refine awpS_seq ?_
              refine awpS_cond rfl (fun hb83 => ?_) (fun hb83 => ?_)
              ·
                try simp [-List.getD_eq_getElem?_getD] at hb83
                have hadj : ∀ h : 0 < i, ¬ ltC ((srt (e.rows.getD s [])).getD i dc) ((srt (e.rows.getD s [])).getD (i - 1) dc) := fun h => (by have := srt_adj (l := e.rows.getD s []) (i := i - 1) (by omega); rwa [show i - 1 + 1 = i by omega] at this)
                refine awpS_skip ?_
                refine awpS_seq ?_
                refine awpS_block ?_
                refine awpS_seq ?_
                refine awpS_reg T_ok fun K hK => ?_
                simp [hG, List.getD_cons_zero, List.getD_cons_succ, -List.getD_eq_getElem?_getD, gtr_less]
                refine ⟨Cond.mk (by simp [-List.getD_eq_getElem?_getD]; omega), hK _ ?_⟩
                clear K hK
                refine awpS_seq ?_
                refine awpS_draw hR mixed [] ⟨[], [], []⟩ fun mu0 => ?_
                refine awpA_tk T_ok [0, 1, 2, 4, 5, 6, 7, 8, 9, 10] [] (fuel := 40) [10, 9, 8, 7, 6, 5, 4, 2, 1, 0] (by decide +kernel) (by decide +kernel) rfl rfl fun K hK => ?_
                simp [hG, List.getD_cons_zero, List.getD_cons_succ, -List.getD_eq_getElem?_getD, gtr_less]
                refine ⟨Cond.mk (by omega), hK _ ?_⟩
                clear K hK
                refine awpA_only (fuel := 39) (i := 3) (by decide +kernel) ?_
                refine awpO_call cal36 rfl rfl rfl (fun _ => rfl) (fun hg => count_c (srt (e.rows.getD s [])) ((srt (e.rows.getD s [])).getD i dc) (by rw [srt_len]; omega)) (fun hg => ?_) (fun hg => ?_) fun K hK => ?_
                · simp [hG, List.getD_cons_zero, List.getD_cons_succ, -List.getD_eq_getElem?_getD, gtr_less]
                · simp [hG, List.getD_cons_zero, List.getD_cons_succ, -List.getD_eq_getElem?_getD, gtr_less]
                simp [hG, List.getD_cons_zero, List.getD_cons_succ, -List.getD_eq_getElem?_getD, gtr_less]
                refine hK _ ?_
                clear K hK
                refine awpA_only (fuel := 38) (i := 11) (by decide +kernel) ?_
                refine awpO_call cal36 rfl rfl rfl (fun _ => rfl) (fun hg => by have h := count_c (e.rows.getD s []) ((srt (e.rows.getD s [])).getD i dc) (by omega); rw [← countC_srt] at h; exact h) (fun hg => ?_) (fun hg => ?_) fun K hK => ?_
                · simp [hG, List.getD_cons_zero, List.getD_cons_succ, -List.getD_eq_getElem?_getD, gtr_less]
                · simp [hG, List.getD_cons_zero, List.getD_cons_succ, -List.getD_eq_getElem?_getD, gtr_less]
                simp [hG, List.getD_cons_zero, List.getD_cons_succ, -List.getD_eq_getElem?_getD, gtr_less]
                refine hK _ ?_
                clear K hK
                refine awpA_tk T_ok [12, 13, 14, 15, 16, 17, 18, 19, 20, 21, 22, 23, 24, 25, 26, 27, 28, 29, 30, 31, 32, 33, 34, 35, 36, 37, 38, 39, 40, 41, 42, 43, 44, 45, 46, 47, 48, 49] [] (fuel := 0) [49, 48, 47, 46, 45, 44, 43, 42, 41, 40, 39, 38, 37, 36, 35, 34, 33, 32, 31, 30, 29, 28, 27, 26, 25, 24, 23, 22, 21, 20, 19, 18, 17, 16, 15, 14, 13, 12, 11, 3, 10, 9, 8, 7, 6, 5, 4, 2, 1, 0] (by decide +kernel) (by decide +kernel) rfl rfl fun K hK => ?_
                simp [hG, List.getD_cons_zero, List.getD_cons_succ, -List.getD_eq_getElem?_getD, gtr_less]
                first | refine hK _ ?_ | refine ⟨Cond.mk (by clear hK; simp [-List.getD_eq_getElem?_getD]; repeat (first | intro _ | exact And.intro ‹_› ‹_› | apply And.intro | assumption | omega | exact decide_eq_true (by assumption) | (rename_i hq; rcases Bool.eq_false_or_eq_true (Op.bytesLess ((srt (e.rows.getD s [])).getD (i - 1) dc).word ((srt (e.rows.getD s [])).getD i dc).word) with h | h; exact .inl h; exact .inr (hq h)))), hK _ ?_⟩
                clear K hK
                refine awpA_done (by decide +kernel) ?_
                refine awpS_cond rfl (fun hb136 => ?_) (fun hb136 => ?_)
                ·
                  try simp [-List.getD_eq_getElem?_getD] at hb136
                  refine awpS_seq ?_
                  refine awpS_reg T_ok fun K hK => ?_
                  simp [hG, List.getD_cons_zero, List.getD_cons_succ, -List.getD_eq_getElem?_getD, gtr_less]
                  refine hK _ ?_
                  clear K hK
                  refine awpS_ret ?_
                  refine blockQ_ret (thenQ_ret ?_)
                  refine thenQ_ret (thenQ_ret ?_)
                  refine blockQ_ret (thenQ_ret ?_)
                  refine blockQ_ret (thenQ_ret ?_)
                  refine thenQ_ret (thenQ_ret ?_)
                  refine blockQ_ret (thenQ_ret ?_)
                  refine RetOK_of ?_
                  simp [hG, List.getD_cons_zero, List.getD_cons_succ, -List.getD_eq_getElem?_getD, gtr_less]
                  exact adj_no hadj hb136
                ·
                  try simp [-List.getD_eq_getElem?_getD] at hb136
                  refine awpS_skip ?_
                  refine awpS_nil ?_
                  refine blockQ_norm (thenQ_norm ?_)
                  refine awpS_reg T_ok fun K hK => ?_
                  simp [hG, List.getD_cons_zero, List.getD_cons_succ, -List.getD_eq_getElem?_getD, gtr_less]
                  refine ⟨Cond.mk (by omega), hK _ ?_⟩
                  clear K hK
                  refine awpS_nil ?_
                  refine round_end (i + 1) (by omega) (by omega) ?_
                  refine wk_of (id) (fun _ => false) (fun _ => false) ?_ ?_ rfl (Nat.zero_le _) (fun k hk => absurd hk (Nat.not_lt_zero _))
                  · simp [hG, List.getD_cons_zero, List.getD_cons_succ, -List.getD_eq_getElem?_getD, gtr_less]
                  · simp [hG, List.getD_cons_zero, List.getD_cons_succ, -List.getD_eq_getElem?_getD, gtr_less]
              ·
                try simp [-List.getD_eq_getElem?_getD] at hb83
                obtain rfl : i = (srt (e.rows.getD s [])).length := (by omega)
                refine awpS_exit ?_
                refine thenQ_exit (thenQ_exit ?_)
                refine blockQ_exit (thenQ_norm ?_)
                refine awpS_seq ?_
                refine awpS_reg T_ok fun K hK => ?_
                simp [hG, List.getD_cons_zero, List.getD_cons_succ, -List.getD_eq_getElem?_getD, gtr_less]
                refine hK _ ?_
                clear K hK
                refine awpS_cond rfl (fun hb142 => ?_) (fun hb142 => ?_)
                ·
                  try simp [-List.getD_eq_getElem?_getD] at hb142
                  refine awpS_seq ?_
                  refine awpS_reg T_ok fun K hK => ?_
                  simp [hG, List.getD_cons_zero, List.getD_cons_succ, -List.getD_eq_getElem?_getD, gtr_less]
                  refine hK _ ?_
                  clear K hK
                  refine awpS_ret ?_
                  refine blockQ_ret (thenQ_ret ?_)
                  refine thenQ_ret (thenQ_ret ?_)
                  refine blockQ_ret (thenQ_ret ?_)
                  refine RetOK_of ?_
                  simp [hG, List.getD_cons_zero, List.getD_cons_succ, -List.getD_eq_getElem?_getD, gtr_less]
                  exact hb142 hre
                ·
                  try simp [-List.getD_eq_getElem?_getD] at hb142
                  refine awpS_skip ?_
                  refine awpS_nil ?_
                  refine blockQ_norm (thenQ_norm ?_)
                  refine awpS_reg T_ok fun K hK => ?_
                  simp [hG, List.getD_cons_zero, List.getD_cons_succ, -List.getD_eq_getElem?_getD, gtr_less]
                  refine ⟨Cond.mk (by omega), hK _ ?_⟩
                  clear K hK
                  refine awpS_nil ?_
                  refine round_end (s + 1) (by omega) (by omega) ?_
                  refine wk_of (id) (fun _ => false) (fun _ => false) ?_ ?_ rfl (Nat.zero_le _) (fun k hk => absurd hk (Nat.not_lt_zero _))
                  · simp [hG, List.getD_cons_zero, List.getD_cons_succ, -List.getD_eq_getElem?_getD, gtr_less]
                  · simp [hG, List.getD_cons_zero, List.getD_cons_succ, -List.getD_eq_getElem?_getD, gtr_less]
          ·
            try simp [-List.getD_eq_getElem?_getD] at hb76
            obtain rfl : s = e.rows.length := (by omega)
            refine awpS_exit ?_
            refine thenQ_exit (thenQ_exit ?_)
            refine blockQ_exit (thenQ_norm ?_)
            refine awpS_seq ?_
            refine awpS_regL ?_
            refine awpL_call cal12 rfl rfl (fun _ => rfl) (fun hg => awake_c) (fun hg => ?_) (fun hg => ?_) fun K hK => ?_
            · simp [hG, List.getD_cons_zero, List.getD_cons_succ, -List.getD_eq_getElem?_getD, gtr_less]
            · simp [hG, List.getD_cons_zero, List.getD_cons_succ, -List.getD_eq_getElem?_getD, gtr_less]
            simp [hG, List.getD_cons_zero, List.getD_cons_succ, -List.getD_eq_getElem?_getD, gtr_less]
            refine hK _ ?_
            clear K hK
            refine awpL_reg T_ok 1 fun K hK => ?_
            simp [hG, List.getD_cons_zero, List.getD_cons_succ, -List.getD_eq_getElem?_getD, gtr_less]
            refine hK _ ?_
            clear K hK
            refine awpL_nil ?_
            refine awpS_ret ?_
            refine RetOK_of ?_
            simp [hG, List.getD_cons_zero, List.getD_cons_succ, -List.getD_eq_getElem?_getD, gtr_less]

end Go.Proofs.Ytmjkbidnghcfnaa
