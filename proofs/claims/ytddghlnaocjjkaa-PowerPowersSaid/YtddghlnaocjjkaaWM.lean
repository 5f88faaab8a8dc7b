/-
  Walk: the law PowerPowers.
-/
import Derived.Test.YtddghlnaocjjkaaWL
import Derived.Test.YtddghlnaocjjkaaWG
namespace Go.Proofs.Ytddghlnaocjjkaa
set_option linter.unusedSimpArgs false
set_option linter.unusedVariables false
open Go Go.Lift Go.Proofs

theorem great_small {g : Gr} (h : ¬ great9 g) (hv : gcheck g = 0) : g.states ≤ 10 ∧ g.edges.length ≤ 30 := by
  have hst := (gcheck_valid hv).1.st
  unfold great9 at h
  omega
theorem powX_len {g : Gr} {n : Int} : (powX g n).edges.length ≤ 1000000 := by
  by_cases h : powN g n = 0
  · rw [pow_ok h]; have := (pow_facts h).2.2.2; simp only; omega
  · rw [pow_no rfl h]; simp
theorem mkX_len {a b : Int} {l : List Edge} : (mkX a b l).edges.length ≤ 1000000 := by
  by_cases h : mkN a b l = 0
  · rw [mk_ok h]
    have := (gcheck_valid (show gcheck ⟨a, b, normE l⟩ = 0 from h)).1.ed
    simp only at this ⊢
    omega
  · rw [mk_no rfl h]; simp
theorem hiX_len {g : Gr} {n : Int} (hg : g.edges.length ≤ 1000000) : (hiX g n).edges.length ≤ 1000000 := by
  unfold hiX
  split
  · simp
  · split
    · exact hg
    · exact mkX_len
set_option maxRecDepth 100000 in
theorem powersLaw_c (g : Gr) (n : Int) : PC Try.prog 3 [.agg 3 (grF g), .int .i64 n] (.bool true) := by
  refine PC_introS T_ok Try.func3 rfl (by simp [Try.ntmps3]) fun G hG hR => ?_
  simp only [Try.ntmps3, Try.results3] at hG ⊢
  simp only [argEnv, Nat.zero_add, Nat.reduceAdd]
  refine awpS_seq ?_
  refine awpS_reg T_ok fun K hK => ?_
  simp [hG, List.getD_cons_zero, List.getD_cons_succ, -List.getD_eq_getElem?_getD]
  first | refine hK _ ?_ | refine ⟨Cond.mk (by first | omega | (simp [-List.getD_eq_getElem?_getD]; done) | (simp [-List.getD_eq_getElem?_getD]; omega) | (simp [-List.getD_eq_getElem?_getD]; repeat (first | intro _ | exact And.intro ‹_› ‹_› | apply And.intro | assumption | omega | exact decide_eq_true (by assumption)))), hK _ ?_⟩
  clear K hK
  refine awpS_seq ?_
  refine awpS_seq ?_
  refine awpS_regL ?_
  refine awpL_reg T_ok 1 fun K hK => ?_
  simp [hG, List.getD_cons_zero, List.getD_cons_succ, -List.getD_eq_getElem?_getD]
  first | refine hK _ ?_ | refine ⟨Cond.mk (by by_cases hgg : great9 g <;> by_cases h4 : 4 < n <;> simp [hgg, h4]), hK _ ?_⟩
  clear K hK
  refine awpL_call cal10 rfl rfl (fun _ => rfl) (fun hg => great_c g) (fun hg => ?_) (fun hg => ?_) fun K hK => ?_
  · simp [hG, List.getD_cons_zero, List.getD_cons_succ, -List.getD_eq_getElem?_getD]
  · simp [hG, List.getD_cons_zero, List.getD_cons_succ, -List.getD_eq_getElem?_getD]
  simp [hG, List.getD_cons_zero, List.getD_cons_succ, -List.getD_eq_getElem?_getD]
  refine hK _ ?_
  clear K hK
  refine awpL_reg T_ok 8 fun K hK => ?_
  simp [hG, List.getD_cons_zero, List.getD_cons_succ, -List.getD_eq_getElem?_getD]
  first | refine hK _ ?_ | refine ⟨Cond.mk (by by_cases hgg : great9 g <;> by_cases h4 : 4 < n <;> simp [hgg, h4]), hK _ ?_⟩
  clear K hK
  refine awpL_nil ?_
  refine awpS_cond rfl (fun hb22 => ?_) (fun hb22 => ?_)
  ·
    try simp [-List.getD_eq_getElem?_getD] at hb22
    refine awpS_seq ?_
    refine awpS_regL ?_
    refine awpL_call cal11 rfl rfl (fun _ => rfl) (fun hg => awake_c) (fun hg => ?_) (fun hg => ?_) fun K hK => ?_
    · simp [hG, List.getD_cons_zero, List.getD_cons_succ, -List.getD_eq_getElem?_getD]
    · simp [hG, List.getD_cons_zero, List.getD_cons_succ, -List.getD_eq_getElem?_getD]
    simp [hG, List.getD_cons_zero, List.getD_cons_succ, -List.getD_eq_getElem?_getD]
    refine hK _ ?_
    clear K hK
    refine awpL_reg T_ok 1 fun K hK => ?_
    simp [hG, List.getD_cons_zero, List.getD_cons_succ, -List.getD_eq_getElem?_getD]
    first | refine hK _ ?_ | refine ⟨Cond.mk (by first | omega | (simp [-List.getD_eq_getElem?_getD]; done) | (simp [-List.getD_eq_getElem?_getD]; omega) | (simp [-List.getD_eq_getElem?_getD]; repeat (first | intro _ | exact And.intro ‹_› ‹_› | apply And.intro | assumption | omega | exact decide_eq_true (by assumption)))), hK _ ?_⟩
    clear K hK
    refine awpL_nil ?_
    refine awpS_ret ?_
    refine RetOK_of ?_
    simp [hG, List.getD_cons_zero, List.getD_cons_succ, -List.getD_eq_getElem?_getD]
  ·
    try simp [-List.getD_eq_getElem?_getD] at hb22
    have hgl : g.edges.length ≤ 1000000 := (by have := hb22.1; unfold great9 at this; omega)
    refine awpS_skip ?_
    refine awpS_seq ?_
    refine awpS_regL ?_
    refine awpL_reg T_ok 2 fun K hK => ?_
    simp [hG, List.getD_cons_zero, List.getD_cons_succ, -List.getD_eq_getElem?_getD]
    first | refine hK _ ?_ | refine ⟨Cond.mk (by first | omega | (simp [-List.getD_eq_getElem?_getD]; done) | (simp [-List.getD_eq_getElem?_getD]; omega) | (simp [-List.getD_eq_getElem?_getD]; repeat (first | intro _ | exact And.intro ‹_› ‹_› | apply And.intro | assumption | omega | exact decide_eq_true (by assumption)))), hK _ ?_⟩
    clear K hK
    refine awpL_call cal12 rfl rfl (fun _ => rfl) (fun hg => power_c g n) (fun hg => ?_) (fun hg => ?_) fun K hK => ?_
    · simp [hG, List.getD_cons_zero, List.getD_cons_succ, -List.getD_eq_getElem?_getD]
    · simp [hG, List.getD_cons_zero, List.getD_cons_succ, -List.getD_eq_getElem?_getD]
    simp [hG, List.getD_cons_zero, List.getD_cons_succ, -List.getD_eq_getElem?_getD]
    refine hK _ ?_
    clear K hK
    refine awpL_reg T_ok 6 fun K hK => ?_
    simp [hG, List.getD_cons_zero, List.getD_cons_succ, -List.getD_eq_getElem?_getD]
    first | refine hK _ ?_ | refine ⟨Cond.mk (by first | omega | (simp [-List.getD_eq_getElem?_getD]; done) | (simp [-List.getD_eq_getElem?_getD]; omega) | (simp [-List.getD_eq_getElem?_getD]; repeat (first | intro _ | exact And.intro ‹_› ‹_› | apply And.intro | assumption | omega | exact decide_eq_true (by assumption)))), hK _ ?_⟩
    clear K hK
    refine awpL_nil ?_
    refine awpS_seq ?_
    refine awpS_regL ?_
    refine awpL_reg T_ok 2 fun K hK => ?_
    simp [hG, List.getD_cons_zero, List.getD_cons_succ, -List.getD_eq_getElem?_getD]
    first | refine hK _ ?_ | refine ⟨Cond.mk (by first | omega | (simp [-List.getD_eq_getElem?_getD]; done) | (simp [-List.getD_eq_getElem?_getD]; omega) | (simp [-List.getD_eq_getElem?_getD]; repeat (first | intro _ | exact And.intro ‹_› ‹_› | apply And.intro | assumption | omega | exact decide_eq_true (by assumption)))), hK _ ?_⟩
    clear K hK
    refine awpL_call cal13 rfl rfl (fun _ => rfl) (fun hg => powerR_c g n (great_small hb22.1)) (fun hg => ?_) (fun hg => ?_) fun K hK => ?_
    · simp [hG, List.getD_cons_zero, List.getD_cons_succ, -List.getD_eq_getElem?_getD]
    · simp [hG, List.getD_cons_zero, List.getD_cons_succ, -List.getD_eq_getElem?_getD]
    simp [hG, List.getD_cons_zero, List.getD_cons_succ, -List.getD_eq_getElem?_getD]
    refine hK _ ?_
    clear K hK
    refine awpL_reg T_ok 6 fun K hK => ?_
    simp [hG, List.getD_cons_zero, List.getD_cons_succ, -List.getD_eq_getElem?_getD]
    first | refine hK _ ?_ | refine ⟨Cond.mk (by first | omega | (simp [-List.getD_eq_getElem?_getD]; done) | (simp [-List.getD_eq_getElem?_getD]; omega) | (simp [-List.getD_eq_getElem?_getD]; repeat (first | intro _ | exact And.intro ‹_› ‹_› | apply And.intro | assumption | omega | exact decide_eq_true (by assumption)))), hK _ ?_⟩
    clear K hK
    refine awpL_nil ?_
    refine awpS_seq ?_
    refine awpS_seq ?_
    refine awpS_reg T_ok fun K hK => ?_
    simp [hG, List.getD_cons_zero, List.getD_cons_succ, -List.getD_eq_getElem?_getD]
    first | refine hK _ ?_ | refine ⟨Cond.mk (by first | omega | (simp [-List.getD_eq_getElem?_getD]; done) | (simp [-List.getD_eq_getElem?_getD]; omega) | (simp [-List.getD_eq_getElem?_getD]; repeat (first | intro _ | exact And.intro ‹_› ‹_› | apply And.intro | assumption | omega | exact decide_eq_true (by assumption)))), hK _ ?_⟩
    clear K hK
    refine awpS_cut (α := Int) (fun m => ⟨[(1, .int .i64 m), (2, .ptr (0, 0) 0 0), (5, .ptr (1, 0) 0 0), (6, .int .i64 (powN g n)), (7, .ptr (2, 0) 0 0), (8, .int .i64 (powN g n))], [(0, .one (.arr 1 3 (fun _ => grF g))), (1, .one (.arr 1 3 (fun _ => grF (powX g n)))), (2, .one (.arr 1 3 (fun _ => grF (powX g n))))], 3⟩) (fun m => True) ?_ ?_ (by simp)
    ·
      refine awpS_cond rfl (fun hb37 => ?_) (fun hb37 => ?_)
      ·
        try simp [-List.getD_eq_getElem?_getD] at hb37
        refine awpS_reg T_ok fun K hK => ?_
        simp [hG, List.getD_cons_zero, List.getD_cons_succ, -List.getD_eq_getElem?_getD]
        first | refine hK _ ?_ | refine ⟨Cond.mk (by first | omega | (simp [-List.getD_eq_getElem?_getD]; done) | (simp [-List.getD_eq_getElem?_getD]; omega) | (simp [-List.getD_eq_getElem?_getD]; repeat (first | intro _ | exact And.intro ‹_› ‹_› | apply And.intro | assumption | omega | exact decide_eq_true (by assumption)))), hK _ ?_⟩
        clear K hK
        refine awpS_nil ?_
        refine cut_end (3) (trivial) ?_
        refine wk_of (id) (fun _ => false) (fun _ => false) ?_ ?_ rfl (Nat.zero_le _) (fun k hk => absurd hk (Nat.not_lt_zero _))
        · simp [hG, List.getD_cons_zero, List.getD_cons_succ, -List.getD_eq_getElem?_getD]
        · simp [hG, List.getD_cons_zero, List.getD_cons_succ, -List.getD_eq_getElem?_getD]
      ·
        try simp [-List.getD_eq_getElem?_getD] at hb37
        refine awpS_skip ?_
        refine awpS_nil ?_
        refine cut_end (n) (trivial) ?_
        refine wk_of (id) (fun _ => false) (fun _ => false) ?_ ?_ rfl (Nat.zero_le _) (fun k hk => absurd hk (Nat.not_lt_zero _))
        · simp [hG, List.getD_cons_zero, List.getD_cons_succ, -List.getD_eq_getElem?_getD]
        · simp [hG, List.getD_cons_zero, List.getD_cons_succ, -List.getD_eq_getElem?_getD]
    ·
      rintro m _
      refine awpS_seq ?_
      refine awpS_regL ?_
      refine awpL_reg T_ok 2 fun K hK => ?_
      simp [hG, List.getD_cons_zero, List.getD_cons_succ, -List.getD_eq_getElem?_getD]
      first | refine hK _ ?_ | refine ⟨Cond.mk (by first | omega | (simp [-List.getD_eq_getElem?_getD]; done) | (simp [-List.getD_eq_getElem?_getD]; omega) | (simp [-List.getD_eq_getElem?_getD]; repeat (first | intro _ | exact And.intro ‹_› ‹_› | apply And.intro | assumption | omega | exact decide_eq_true (by assumption)))), hK _ ?_⟩
      clear K hK
      refine awpL_call cal14 rfl rfl (fun _ => rfl) (fun hg => higher_c g m) (fun hg => ?_) (fun hg => ?_) fun K hK => ?_
      · simp [hG, List.getD_cons_zero, List.getD_cons_succ, -List.getD_eq_getElem?_getD]
      · simp [hG, List.getD_cons_zero, List.getD_cons_succ, -List.getD_eq_getElem?_getD]
      simp [hG, List.getD_cons_zero, List.getD_cons_succ, -List.getD_eq_getElem?_getD]
      refine hK _ ?_
      clear K hK
      refine awpL_reg T_ok 6 fun K hK => ?_
      simp [hG, List.getD_cons_zero, List.getD_cons_succ, -List.getD_eq_getElem?_getD]
      first | refine hK _ ?_ | refine ⟨Cond.mk (by first | omega | (simp [-List.getD_eq_getElem?_getD]; done) | (simp [-List.getD_eq_getElem?_getD]; omega) | (simp [-List.getD_eq_getElem?_getD]; repeat (first | intro _ | exact And.intro ‹_› ‹_› | apply And.intro | assumption | omega | exact decide_eq_true (by assumption)))), hK _ ?_⟩
      clear K hK
      refine awpL_nil ?_
      refine awpS_seq ?_
      refine awpS_regL ?_
      refine awpL_reg T_ok 2 fun K hK => ?_
      simp [hG, List.getD_cons_zero, List.getD_cons_succ, -List.getD_eq_getElem?_getD]
      first | refine hK _ ?_ | refine ⟨Cond.mk (by first | omega | (simp [-List.getD_eq_getElem?_getD]; done) | (simp [-List.getD_eq_getElem?_getD]; omega) | (simp [-List.getD_eq_getElem?_getD]; repeat (first | intro _ | exact And.intro ‹_› ‹_› | apply And.intro | assumption | omega | exact decide_eq_true (by assumption)))), hK _ ?_⟩
      clear K hK
      refine awpL_call cal15 rfl rfl (fun _ => rfl) (fun hg => higherR_c g m) (fun hg => ?_) (fun hg => ?_) fun K hK => ?_
      · simp [hG, List.getD_cons_zero, List.getD_cons_succ, -List.getD_eq_getElem?_getD]
      · simp [hG, List.getD_cons_zero, List.getD_cons_succ, -List.getD_eq_getElem?_getD]
      simp [hG, List.getD_cons_zero, List.getD_cons_succ, -List.getD_eq_getElem?_getD]
      refine hK _ ?_
      clear K hK
      refine awpL_reg T_ok 6 fun K hK => ?_
      simp [hG, List.getD_cons_zero, List.getD_cons_succ, -List.getD_eq_getElem?_getD]
      first | refine hK _ ?_ | refine ⟨Cond.mk (by first | omega | (simp [-List.getD_eq_getElem?_getD]; done) | (simp [-List.getD_eq_getElem?_getD]; omega) | (simp [-List.getD_eq_getElem?_getD]; repeat (first | intro _ | exact And.intro ‹_› ‹_› | apply And.intro | assumption | omega | exact decide_eq_true (by assumption)))), hK _ ?_⟩
      clear K hK
      refine awpL_nil ?_
      refine awpS_seq ?_
      refine awpS_regL ?_
      refine awpL_reg T_ok 2 fun K hK => ?_
      simp [hG, List.getD_cons_zero, List.getD_cons_succ, -List.getD_eq_getElem?_getD]
      first | refine hK _ ?_ | refine ⟨Cond.mk (by first | omega | (simp [-List.getD_eq_getElem?_getD]; done) | (simp [-List.getD_eq_getElem?_getD]; omega) | (simp [-List.getD_eq_getElem?_getD]; repeat (first | intro _ | exact And.intro ‹_› ‹_› | apply And.intro | assumption | omega | exact decide_eq_true (by assumption)))), hK _ ?_⟩
      clear K hK
      refine awpL_call cal16 rfl rfl (fun _ => rfl) (fun hg => same9_c (powX g n) (powX g n) powX_len) (fun hg => ?_) (fun hg => ?_) fun K hK => ?_
      · simp [hG, List.getD_cons_zero, List.getD_cons_succ, -List.getD_eq_getElem?_getD]
      · simp [hG, List.getD_cons_zero, List.getD_cons_succ, -List.getD_eq_getElem?_getD]
      simp [hG, List.getD_cons_zero, List.getD_cons_succ, -List.getD_eq_getElem?_getD]
      refine hK _ ?_
      clear K hK
      refine awpL_reg T_ok 8 fun K hK => ?_
      simp [hG, List.getD_cons_zero, List.getD_cons_succ, -List.getD_eq_getElem?_getD]
      first | refine hK _ ?_ | refine ⟨Cond.mk (by first | omega | (simp [-List.getD_eq_getElem?_getD]; done) | (simp [-List.getD_eq_getElem?_getD]; omega) | (simp [-List.getD_eq_getElem?_getD]; repeat (first | intro _ | exact And.intro ‹_› ‹_› | apply And.intro | assumption | omega | exact decide_eq_true (by assumption)))), hK _ ?_⟩
      clear K hK
      refine awpL_call cal16 rfl rfl (fun _ => rfl) (fun hg => same9_c (hiX g m) (hiX g m) (hiX_len hgl)) (fun hg => ?_) (fun hg => ?_) fun K hK => ?_
      · first | (simp [hG, List.getD_cons_zero, List.getD_cons_succ, -List.getD_eq_getElem?_getD]; done) | (simp [-List.getD_eq_getElem?_getD] at hg; done) | (simp [-List.getD_eq_getElem?_getD] at hg; simp [hG, List.getD_cons_zero, List.getD_cons_succ, -List.getD_eq_getElem?_getD]; first | omega | exact hg | (simp_all [-List.getD_eq_getElem?_getD]; done) | (simp_all [-List.getD_eq_getElem?_getD]; first | exact ⟨rfl, rfl⟩ | exact rfl))
      · first | (simp [hG, List.getD_cons_zero, List.getD_cons_succ, -List.getD_eq_getElem?_getD]; done) | (simp [-List.getD_eq_getElem?_getD] at hg; done) | (simp [-List.getD_eq_getElem?_getD] at hg; simp [hG, List.getD_cons_zero, List.getD_cons_succ, -List.getD_eq_getElem?_getD]; first | omega | exact hg | (simp_all [-List.getD_eq_getElem?_getD]; done) | (simp_all [-List.getD_eq_getElem?_getD]; first | exact ⟨rfl, rfl⟩ | exact rfl))
      simp [hG, List.getD_cons_zero, List.getD_cons_succ, -List.getD_eq_getElem?_getD]
      refine hK _ ?_
      clear K hK
      refine awpL_reg T_ok 7 fun K hK => ?_
      simp [hG, List.getD_cons_zero, List.getD_cons_succ, -List.getD_eq_getElem?_getD]
      first | refine hK _ ?_ | refine ⟨Cond.mk (by first | omega | (simp [-List.getD_eq_getElem?_getD]; done) | (simp [-List.getD_eq_getElem?_getD]; omega) | (simp [-List.getD_eq_getElem?_getD]; repeat (first | intro _ | exact And.intro ‹_› ‹_› | apply And.intro | assumption | omega | exact decide_eq_true (by assumption)))), hK _ ?_⟩
      clear K hK
      refine awpL_call cal11 rfl rfl (fun _ => rfl) (fun hg => awake_c) (fun hg => ?_) (fun hg => ?_) fun K hK => ?_
      · first | (simp [hG, List.getD_cons_zero, List.getD_cons_succ, -List.getD_eq_getElem?_getD]; done) | (simp [-List.getD_eq_getElem?_getD] at hg; done) | (simp [-List.getD_eq_getElem?_getD] at hg; simp [hG, List.getD_cons_zero, List.getD_cons_succ, -List.getD_eq_getElem?_getD]; first | omega | exact hg | (simp_all [-List.getD_eq_getElem?_getD]; done) | (simp_all [-List.getD_eq_getElem?_getD]; first | exact ⟨rfl, rfl⟩ | exact rfl))
      · first | (simp [hG, List.getD_cons_zero, List.getD_cons_succ, -List.getD_eq_getElem?_getD]; done) | (simp [-List.getD_eq_getElem?_getD] at hg; done) | (simp [-List.getD_eq_getElem?_getD] at hg; simp [hG, List.getD_cons_zero, List.getD_cons_succ, -List.getD_eq_getElem?_getD]; first | omega | exact hg | (simp_all [-List.getD_eq_getElem?_getD]; done) | (simp_all [-List.getD_eq_getElem?_getD]; first | exact ⟨rfl, rfl⟩ | exact rfl))
      simp [hG, List.getD_cons_zero, List.getD_cons_succ, -List.getD_eq_getElem?_getD]
      refine hK _ ?_
      clear K hK
      refine awpL_reg T_ok 2 fun K hK => ?_
      simp [hG, List.getD_cons_zero, List.getD_cons_succ, -List.getD_eq_getElem?_getD]
      first | refine hK _ ?_ | refine ⟨Cond.mk (by first | omega | (simp [-List.getD_eq_getElem?_getD]; done) | (simp [-List.getD_eq_getElem?_getD]; omega) | (simp [-List.getD_eq_getElem?_getD]; repeat (first | intro _ | exact And.intro ‹_› ‹_› | apply And.intro | assumption | omega | exact decide_eq_true (by assumption)))), hK _ ?_⟩
      clear K hK
      refine awpL_nil ?_
      refine awpS_ret ?_
      refine RetOK_of ?_
      simp [hG, List.getD_cons_zero, List.getD_cons_succ, -List.getD_eq_getElem?_getD]
      exact ⟨sameG_self, sameG_self⟩

end Go.Proofs.Ytddghlnaocjjkaa
