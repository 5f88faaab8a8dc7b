/-
  Walk: the law of proofs that are verified.
-/
import Derived.Test.YthpdkmoedpcboaaGreatWS
namespace Go.Proofs.YthpdkmoedpcboaaGreat
set_option linter.unusedSimpArgs false
set_option linter.unusedVariables false
open Go Go.Lift Go.Proofs
attribute [local simp] List.getD_cons_zero List.getD_cons_succ
theorem flX_len {p : Prf} (hp : PrfOK p) : (flG p).edges.length ≤ 1024 ∧ (flO p).length ≤ 64 := by
  by_cases h : flN p = 0
  · refine ⟨flG_len hp h, ?_⟩
    obtain ⟨h1, h2, h3, _⟩ := flN_zero h
    rw [(flG_ok h).2]
    exact (flo_len hp h1 h3 (Nat.le_refl _)).2
  · obtain ⟨e1, e2⟩ := fl_err rfl h
    rw [e1, e2]
    exact ⟨Nat.zero_le _, Nat.zero_le _⟩
set_option maxRecDepth 100000 in
set_option maxHeartbeats 1000000 in
theorem verifiesLaw_c (p : Prf) (hin : p.w.length ≤ maxLen ∧ p.rounds.length ≤ maxLen ∧ ∀ x ∈ p.rounds, x.length ≤ maxLen ∧ ∀ y ∈ x, y.parts.length ≤ maxLen) : PC Tryz.prog 3 [.agg 6 (prfF p)] (.bool true) := by
  have hML : maxLen = 9223372036854775807 := by decide
  refine PC_introS T_ok Tryz.func3 rfl (by simp [Tryz.ntmps3]) fun G hG hR => ?_
  simp only [Tryz.ntmps3, Tryz.results3] at hG ⊢
  simp only [argEnv, Nat.zero_add, Nat.reduceAdd]
  refine awpS_seq ?_
  refine awpS_reg T_ok fun K hK => ?_
  simp [hG, -List.getD_eq_getElem?_getD, pureOp]
  refine ⟨Cond.mk (by exact trivial), hK _ ?_⟩
  clear K hK
  refine awpS_seq ?_
  refine awpS_seq ?_
  refine awpS_regL ?_
  refine awpL_reg T_ok 1 fun K hK => ?_
  simp [hG, -List.getD_eq_getElem?_getD, pureOp]
  refine hK _ ?_
  clear K hK
  refine awpL_call cal8 rfl rfl (fun _ => rfl) (fun hg => greatP_c p hin.1 hin.2.1 hin.2.2) (fun hg => ?_) (fun hg => ?_) fun K hK => ?_
  · simp [hG, -List.getD_eq_getElem?_getD, pureOp]
  · simp [hG, -List.getD_eq_getElem?_getD, pureOp]
  simp [hG, -List.getD_eq_getElem?_getD, pureOp]
  refine hK _ ?_
  clear K hK
  refine awpL_nil ?_
  refine awpS_cond rfl (fun hb10 => ?_) (fun hb10 => ?_)
  ·
    try simp [-List.getD_eq_getElem?_getD] at hb10
    refine awpS_seq ?_
    refine awpS_regL ?_
    refine awpL_call cal9 rfl rfl (fun _ => rfl) (fun hg => awake_c) (fun hg => ?_) (fun hg => ?_) fun K hK => ?_
    · simp [hG, -List.getD_eq_getElem?_getD, pureOp]
    · simp [hG, -List.getD_eq_getElem?_getD, pureOp]
    simp [hG, -List.getD_eq_getElem?_getD, pureOp]
    refine hK _ ?_
    clear K hK
    refine awpL_reg T_ok 1 fun K hK => ?_
    simp [hG, -List.getD_eq_getElem?_getD, pureOp]
    refine hK _ ?_
    clear K hK
    refine awpL_nil ?_
    refine awpS_ret ?_
    refine RetOK_of ?_
    simp [hG, -List.getD_eq_getElem?_getD, pureOp]
  ·
    try simp [-List.getD_eq_getElem?_getD] at hb10
    obtain ⟨hp, hpr⟩ := greatP_no hb10
    have hfl := flX_len hp
    refine awpS_skip ?_
    refine awpS_seq ?_
    refine awpS_regL ?_
    refine awpL_reg T_ok 1 fun K hK => ?_
    simp [hG, -List.getD_eq_getElem?_getD, pureOp]
    refine hK _ ?_
    clear K hK
    refine awpL_call cal10 rfl rfl (fun _ => rfl) (fun hg => finalM_c p hp hpr) (fun hg => ?_) (fun hg => ?_) fun K hK => ?_
    · simp [hG, -List.getD_eq_getElem?_getD, pureOp]
    · simp [hG, -List.getD_eq_getElem?_getD, pureOp]
    simp [hG, -List.getD_eq_getElem?_getD, pureOp]
    refine hK _ ?_
    clear K hK
    refine awpL_reg T_ok 8 fun K hK => ?_
    simp [hG, -List.getD_eq_getElem?_getD, pureOp]
    refine ⟨Cond.mk (by exact trivial), hK _ ?_⟩
    clear K hK
    refine awpL_nil ?_
    refine awpS_seq ?_
    refine awpS_regL ?_
    refine awpL_reg T_ok 1 fun K hK => ?_
    simp [hG, -List.getD_eq_getElem?_getD, pureOp]
    refine hK _ ?_
    clear K hK
    refine awpL_call cal11 rfl rfl (fun _ => rfl) (fun hg => finalR_c p hp hpr) (fun hg => ?_) (fun hg => ?_) fun K hK => ?_
    · simp [hG, -List.getD_eq_getElem?_getD, pureOp]
    · simp [hG, -List.getD_eq_getElem?_getD, pureOp]
    simp [hG, -List.getD_eq_getElem?_getD, pureOp]
    refine hK _ ?_
    clear K hK
    refine awpL_reg T_ok 8 fun K hK => ?_
    simp [hG, -List.getD_eq_getElem?_getD, pureOp]
    refine ⟨Cond.mk (by exact trivial), hK _ ?_⟩
    clear K hK
    refine awpL_nil ?_
    refine awpS_seq ?_
    refine awpS_draw hR mixed [] ⟨[], [], []⟩ fun mu0 => ?_
    refine awpA_tk T_ok [0, 2] [] (fuel := 22) [2, 0] (by decide +kernel) (by decide +kernel) rfl rfl fun K hK => ?_
    simp [hG, -List.getD_eq_getElem?_getD, pureOp]
    refine hK _ ?_
    clear K hK
    refine awpA_only (fuel := 21) (i := 1) (by decide +kernel) ?_
    refine awpO_call cal12 rfl rfl rfl (fun _ => rfl) (fun hg => verifyM_c p hp hpr) (fun hg => ?_) (fun hg => ?_) fun K hK => ?_
    · simp [hG, -List.getD_eq_getElem?_getD, pureOp]
    · simp [hG, -List.getD_eq_getElem?_getD, pureOp]
    simp [hG, -List.getD_eq_getElem?_getD, pureOp]
    refine hK _ ?_
    clear K hK
    refine awpA_only (fuel := 20) (i := 3) (by decide +kernel) ?_
    refine awpO_call cal13 rfl rfl rfl (fun _ => rfl) (fun hg => verifyR_c p hp hpr) (fun hg => ?_) (fun hg => ?_) fun K hK => ?_
    · simp [hG, -List.getD_eq_getElem?_getD, pureOp]
    · simp [hG, -List.getD_eq_getElem?_getD, pureOp]
    simp [hG, -List.getD_eq_getElem?_getD, pureOp]
    refine hK _ ?_
    clear K hK
    refine awpA_tk T_ok [4, 5, 6, 7] [] (fuel := 16) [7, 6, 5, 4, 3, 1, 2, 0] (by decide +kernel) (by decide +kernel) rfl rfl fun K hK => ?_
    simp [hG, -List.getD_eq_getElem?_getD, pureOp]
    refine hK _ ?_
    clear K hK
    refine awpA_only (fuel := 15) (i := 8) (by decide +kernel) ?_
    refine awpO_call cal14 rfl rfl rfl (fun _ => rfl) (fun hg => same9_c (flG p) (flG p) (by omega)) (fun hg => ?_) (fun hg => ?_) fun K hK => ?_
    · first | (simp [hG, -List.getD_eq_getElem?_getD, pureOp]; done) | (simp [-List.getD_eq_getElem?_getD] at hg; done) | (simp [-List.getD_eq_getElem?_getD] at hg; simp [hG, -List.getD_eq_getElem?_getD, pureOp]; first | omega | exact hg | (simp_all [-List.getD_eq_getElem?_getD]; done) | (simp_all [-List.getD_eq_getElem?_getD]; first | exact ⟨rfl, rfl⟩ | exact rfl))
    · first | (simp [hG, -List.getD_eq_getElem?_getD, pureOp]; done) | (simp [-List.getD_eq_getElem?_getD] at hg; done) | (simp [-List.getD_eq_getElem?_getD] at hg; simp [hG, -List.getD_eq_getElem?_getD, pureOp]; first | omega | exact hg | (simp_all [-List.getD_eq_getElem?_getD]; done) | (simp_all [-List.getD_eq_getElem?_getD]; first | exact ⟨rfl, rfl⟩ | exact rfl))
    simp [hG, -List.getD_eq_getElem?_getD, pureOp]
    refine hK _ ?_
    clear K hK
    refine awpA_tk T_ok [9, 10, 11, 12] [] (fuel := 11) [12, 11, 10, 9, 8, 7, 6, 5, 4, 3, 1, 2, 0] (by decide +kernel) (by decide +kernel) rfl rfl fun K hK => ?_
    simp [hG, -List.getD_eq_getElem?_getD, pureOp]
    refine hK _ ?_
    clear K hK
    refine awpA_only (fuel := 10) (i := 13) (by decide +kernel) ?_
    refine awpO_call cal15 rfl rfl rfl (fun _ => rfl) (fun hg => sameL_c (flO p) (flO p) (by omega)) (fun hg => ?_) (fun hg => ?_) fun K hK => ?_
    · first | (simp [hG, -List.getD_eq_getElem?_getD, pureOp]; done) | (simp [-List.getD_eq_getElem?_getD] at hg; done) | (simp [-List.getD_eq_getElem?_getD] at hg; simp [hG, -List.getD_eq_getElem?_getD, pureOp]; first | omega | exact hg | (simp_all [-List.getD_eq_getElem?_getD]; done) | (simp_all [-List.getD_eq_getElem?_getD]; first | exact ⟨rfl, rfl⟩ | exact rfl))
    · first | (simp [hG, -List.getD_eq_getElem?_getD, pureOp]; done) | (simp [-List.getD_eq_getElem?_getD] at hg; done) | (simp [-List.getD_eq_getElem?_getD] at hg; simp [hG, -List.getD_eq_getElem?_getD, pureOp]; first | omega | exact hg | (simp_all [-List.getD_eq_getElem?_getD]; done) | (simp_all [-List.getD_eq_getElem?_getD]; first | exact ⟨rfl, rfl⟩ | exact rfl))
    simp [hG, -List.getD_eq_getElem?_getD, pureOp]
    refine hK _ ?_
    clear K hK
    refine awpA_tk T_ok [14, 15, 16, 17, 18, 19, 20] [] (fuel := 3) [20, 19, 18, 17, 16, 15, 14, 13, 12, 11, 10, 9, 8, 7, 6, 5, 4, 3, 1, 2, 0] (by decide +kernel) (by decide +kernel) rfl rfl fun K hK => ?_
    simp [hG, -List.getD_eq_getElem?_getD, pureOp]
    refine hK _ ?_
    clear K hK
    refine awpA_only (fuel := 2) (i := 21) (by decide +kernel) ?_
    refine awpO_call cal9 rfl rfl rfl (fun _ => rfl) (fun hg => awake_c) (fun hg => ?_) (fun hg => ?_) fun K hK => ?_
    · first | (simp [hG, -List.getD_eq_getElem?_getD, pureOp]; done) | (simp [-List.getD_eq_getElem?_getD] at hg; done) | (simp [-List.getD_eq_getElem?_getD] at hg; simp [hG, -List.getD_eq_getElem?_getD, pureOp]; first | omega | exact hg | (simp_all [-List.getD_eq_getElem?_getD]; done) | (simp_all [-List.getD_eq_getElem?_getD]; first | exact ⟨rfl, rfl⟩ | exact rfl))
    · first | (simp [hG, -List.getD_eq_getElem?_getD, pureOp]; done) | (simp [-List.getD_eq_getElem?_getD] at hg; done) | (simp [-List.getD_eq_getElem?_getD] at hg; simp [hG, -List.getD_eq_getElem?_getD, pureOp]; first | omega | exact hg | (simp_all [-List.getD_eq_getElem?_getD]; done) | (simp_all [-List.getD_eq_getElem?_getD]; first | exact ⟨rfl, rfl⟩ | exact rfl))
    simp [hG, -List.getD_eq_getElem?_getD, pureOp]
    refine hK _ ?_
    clear K hK
    refine awpA_tk T_ok [22, 23] [] (fuel := 0) [23, 22, 21, 20, 19, 18, 17, 16, 15, 14, 13, 12, 11, 10, 9, 8, 7, 6, 5, 4, 3, 1, 2, 0] (by decide +kernel) (by decide +kernel) rfl rfl fun K hK => ?_
    simp [hG, -List.getD_eq_getElem?_getD, pureOp]
    refine hK _ ?_
    clear K hK
    refine awpA_done (by decide +kernel) ?_
    refine awpS_ret ?_
    refine RetOK_of ?_
    simp [hG, -List.getD_eq_getElem?_getD, pureOp]
    simp [sameG_self]

end Go.Proofs.YthpdkmoedpcboaaGreat
