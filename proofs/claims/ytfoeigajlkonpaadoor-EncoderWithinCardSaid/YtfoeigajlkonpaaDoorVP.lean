/-
  Walks: the law EncoderWithin.
-/
import Derived.Test.YtfoeigajlkonpaaDoorVO
namespace Go.Proofs.YtfoeigajlkonpaaDoor
set_option linter.unusedSimpArgs false
set_option linter.unusedVariables false
open Go Go.Lift Go.Proofs

/-- graphs that are too great. -/
noncomputable def gr13 (g : Gr) : Bool := decide (great9 g ∨ 20 < g.edges.length ∨ (6 < g.states ∧ g.states ≤ 64) ∨ (8 < g.labels ∧ g.labels ≤ 256))
theorem word_of {q : Int} {w : List UInt8} (hq : 1 ≤ q ∧ q ≤ 16) (hl : w.length ≤ 65536) (h : ∀ c ∈ w, 0 ≤ idxB letters c ∧ idxB letters c < q) : wordCheck q w = 0 := by
  unfold wordCheck
  rw [if_neg (by omega), if_neg (by omega), if_pos fun c hc => idxB_take.2 ⟨(h c hc).1, by have := (h c hc).2; omega⟩]
theorem within_zero {e : Enc} {g : Gr} (h : withinN e g = 0) : gcheck g = 0 ∧ g.labels = e.letters := by
  unfold withinN at h
  split at h
  · cases h
  · rename_i h1
    split at h
    · cases h
    · rename_i h2
      exact ⟨Classical.byContradiction fun k => h1 (.inr k), Classical.byContradiction fun k => h2 k⟩
theorem within_fin {e : Enc} {g : Gr} (hv : checkE e = 0) {b : Int} (hb : 0 ≤ b) {l : List UInt8} (hl : l.length ≤ 10) (hN : withinN e g = 0) :
    encodeN e (b % e.rows.length) (inpL e l) = 0 ∧ accN g (encodeW e (b % e.rows.length) (inpL e l)) = 0 ∧ (withinB e g = false ∨ accB g (encodeW e (b % e.rows.length) (inpL e l)) = true) := by
  have h0 := (checkE_valid hv).2.1
  obtain ⟨s1, s2⟩ := st_box hb h0
  obtain ⟨hvg, hlb⟩ := within_zero hN
  have hlt := (checkE_valid hv).1.letters
  have hbk := (checkE_valid hv).1.block
  have n1 := enc_fine hv s1 s2 (inpL_any hv (l := l)) (by rw [inpL_len]; omega)
  have hm := mul_bd (a := ((inpL e l).length : Int)) (b := e.block) (c := 10) (by rw [inpL_len]; omega) hbk
  have hrl := (runE_ok hv s1 s2 (inpL_good hv (l := l))).2.2
  have hdg := run_dig hv s1 s2 (inpL_good hv (l := l))
  have hW : encodeW e (b % e.rows.length) (inpL e l) = (runE e (b % e.rows.length) (inpL e l)).1 := by unfold encodeW; rw [if_pos n1]
  rw [hW]
  have hlang : langN g = 0 := by unfold langN; rw [if_neg (fun k => k hvg), if_neg (by omega)]
  have hacc : accN g (runE e (b % e.rows.length) (inpL e l)).1 = 0 := by
    unfold accN
    rw [if_neg (fun k => k hlang), hlb]
    exact word_of hlt (by omega) hdg
  refine ⟨n1, hacc, ?_⟩
  cases hwb : withinB e g with
  | false => exact .inl rfl
  | true =>
    refine .inr ?_
    have := within_acc hwb s1 s2 (inpL_good hv (l := l))
    unfold accB
    rw [hacc, Bool.and_eq_true]
    exact ⟨rfl, decide_eq_true (List.length_pos_iff.2 this)⟩
set_option maxRecDepth 100000 in
theorem great13_c (g : Gr) : PC Tryd.prog 15 [.agg 3 (grF g)] (.bool (gr13 g)) := by
  refine PC_introS T_ok Tryd.func15 rfl (by simp [Tryd.ntmps15]) fun G hG hR => ?_
  simp only [Tryd.ntmps15, Tryd.results15] at hG ⊢
  simp only [argEnv, Nat.zero_add, Nat.reduceAdd]
  refine awpS_seq ?_
  refine awpS_reg T_ok fun K hK => ?_
  simp [hG, List.getD_cons_zero, List.getD_cons_succ, -List.getD_eq_getElem?_getD, pureOp]
  first | refine hK _ ?_ | refine ⟨Cond.mk (by first | omega | exact trivial | (simp [-List.getD_eq_getElem?_getD]; done) | (simp [-List.getD_eq_getElem?_getD]; omega) | (simp [-List.getD_eq_getElem?_getD]; (repeat (first | assumption | intro _ | exact And.intro ‹_› ‹_› | apply And.intro | omega | exact trivial | exact decide_eq_true (by assumption))); done) | ((repeat (first | assumption | intro _ | exact And.intro ‹_› ‹_› | apply And.intro | omega | exact trivial | exact decide_eq_true (by assumption))); done)), hK _ ?_⟩
  clear K hK
  refine awpS_seq ?_
  refine awpS_regL ?_
  refine awpL_reg T_ok 1 fun K hK => ?_
  simp [hG, List.getD_cons_zero, List.getD_cons_succ, -List.getD_eq_getElem?_getD, pureOp]
  first | refine hK _ ?_ | refine ⟨Cond.mk (by first | omega | exact trivial | (simp [-List.getD_eq_getElem?_getD]; done) | (simp [-List.getD_eq_getElem?_getD]; omega) | (simp [-List.getD_eq_getElem?_getD]; (repeat (first | assumption | intro _ | exact And.intro ‹_› ‹_› | apply And.intro | omega | exact trivial | exact decide_eq_true (by assumption))); done) | ((repeat (first | assumption | intro _ | exact And.intro ‹_› ‹_› | apply And.intro | omega | exact trivial | exact decide_eq_true (by assumption))); done)), hK _ ?_⟩
  clear K hK
  refine awpL_call cal34 rfl rfl (fun _ => rfl) (fun hg => great9_c g) (fun hg => ?_) (fun hg => ?_) fun K hK => ?_
  · simp [hG, List.getD_cons_zero, List.getD_cons_succ, -List.getD_eq_getElem?_getD, pureOp]
  · simp [hG, List.getD_cons_zero, List.getD_cons_succ, -List.getD_eq_getElem?_getD, pureOp]
  simp [hG, List.getD_cons_zero, List.getD_cons_succ, -List.getD_eq_getElem?_getD, pureOp]
  refine hK _ ?_
  clear K hK
  refine awpL_reg T_ok 27 fun K hK => ?_
  simp [hG, List.getD_cons_zero, List.getD_cons_succ, -List.getD_eq_getElem?_getD, pureOp]
  first | refine hK _ ?_ | refine ⟨Cond.mk (by first | omega | exact trivial | (simp [-List.getD_eq_getElem?_getD]; done) | (simp [-List.getD_eq_getElem?_getD]; omega) | (simp [-List.getD_eq_getElem?_getD]; (repeat (first | assumption | intro _ | exact And.intro ‹_› ‹_› | apply And.intro | omega | exact trivial | exact decide_eq_true (by assumption))); done) | ((repeat (first | assumption | intro _ | exact And.intro ‹_› ‹_› | apply And.intro | omega | exact trivial | exact decide_eq_true (by assumption))); done)), hK _ ?_⟩
  clear K hK
  refine awpL_nil ?_
  refine awpS_ret ?_
  refine RetOK_of ?_
  simp [hG, List.getD_cons_zero, List.getD_cons_succ, -List.getD_eq_getElem?_getD, pureOp]
  rw [Bool.eq_iff_iff]; unfold gr13; rw [decide_eq_true_iff]; simp only [Bool.or_eq_true, Bool.and_eq_true, decide_eq_true_eq]; constructor; (rintro (((h | h) | h) | h); exact .inl h; exact .inr (.inl (by omega)); exact .inr (.inr (.inl h)); exact .inr (.inr (.inr h))); (rintro (h | h | h | h); exact .inl (.inl (.inl h)); exact .inl (.inl (.inr (by omega))); exact .inl (.inr h); exact .inr h)

set_option maxRecDepth 100000 in
theorem withinLaw_c (e : Enc) (g : Gr) (b : Int) (hb : 0 ≤ b ∧ b < 256) (l : List UInt8) : PC Tryd.prog 5 [.agg 4 (encF e), .agg 3 (grF g), .int .u8 b, Lift.bytes l] (.bool true) := by
  refine PC_introS T_ok Tryd.func5 rfl (by simp [Tryd.ntmps5]) fun G hG hR => ?_
  simp only [Tryd.ntmps5, Tryd.results5] at hG ⊢
  simp only [argEnv, Nat.zero_add, Nat.reduceAdd]
  refine awpS_seq ?_
  refine awpS_reg T_ok fun K hK => ?_
  simp [hG, List.getD_cons_zero, List.getD_cons_succ, -List.getD_eq_getElem?_getD, pureOp]
  first | refine hK _ ?_ | refine ⟨Cond.mk (by first | omega | exact trivial | (simp [-List.getD_eq_getElem?_getD]; done) | (simp [-List.getD_eq_getElem?_getD]; omega) | (simp [-List.getD_eq_getElem?_getD]; (repeat (first | assumption | intro _ | exact And.intro ‹_› ‹_› | apply And.intro | omega | exact trivial | exact decide_eq_true (by assumption))); done) | ((repeat (first | assumption | intro _ | exact And.intro ‹_› ‹_› | apply And.intro | omega | exact trivial | exact decide_eq_true (by assumption))); done)), hK _ ?_⟩
  clear K hK
  refine awpS_seq ?_
  refine awpS_seq ?_
  refine awpS_regL ?_
  refine awpL_reg T_ok 1 fun K hK => ?_
  simp [hG, List.getD_cons_zero, List.getD_cons_succ, -List.getD_eq_getElem?_getD, pureOp]
  first | refine hK _ ?_ | refine ⟨Cond.mk (by first | omega | exact trivial | (simp [-List.getD_eq_getElem?_getD]; done) | (simp [-List.getD_eq_getElem?_getD]; omega) | (simp [-List.getD_eq_getElem?_getD]; (repeat (first | assumption | intro _ | exact And.intro ‹_› ‹_› | apply And.intro | omega | exact trivial | exact decide_eq_true (by assumption))); done) | ((repeat (first | assumption | intro _ | exact And.intro ‹_› ‹_› | apply And.intro | omega | exact trivial | exact decide_eq_true (by assumption))); done)), hK _ ?_⟩
  clear K hK
  refine awpL_call cal7 rfl rfl (fun _ => rfl) (fun hg => fine_c e) (fun hg => ?_) (fun hg => ?_) fun K hK => ?_
  · simp [hG, List.getD_cons_zero, List.getD_cons_succ, -List.getD_eq_getElem?_getD, pureOp]
  · simp [hG, List.getD_cons_zero, List.getD_cons_succ, -List.getD_eq_getElem?_getD, pureOp]
  simp [hG, List.getD_cons_zero, List.getD_cons_succ, -List.getD_eq_getElem?_getD, pureOp]
  refine hK _ ?_
  clear K hK
  refine awpL_reg T_ok 3 fun K hK => ?_
  simp [hG, List.getD_cons_zero, List.getD_cons_succ, -List.getD_eq_getElem?_getD, pureOp]
  first | refine hK _ ?_ | refine ⟨Cond.mk (by first | omega | exact trivial | (simp [-List.getD_eq_getElem?_getD]; done) | (simp [-List.getD_eq_getElem?_getD]; omega) | (simp [-List.getD_eq_getElem?_getD]; (repeat (first | assumption | intro _ | exact And.intro ‹_› ‹_› | apply And.intro | omega | exact trivial | exact decide_eq_true (by assumption))); done) | ((repeat (first | assumption | intro _ | exact And.intro ‹_› ‹_› | apply And.intro | omega | exact trivial | exact decide_eq_true (by assumption))); done)), hK _ ?_⟩
  clear K hK
  refine awpL_call cal15 rfl rfl (fun _ => rfl) (fun hg => great13_c g) (fun hg => ?_) (fun hg => ?_) fun K hK => ?_
  · first | (simp [hG, List.getD_cons_zero, List.getD_cons_succ, -List.getD_eq_getElem?_getD, pureOp]; done) | (simp [-List.getD_eq_getElem?_getD] at hg; done) | (simp [-List.getD_eq_getElem?_getD] at hg; simp [hG, List.getD_cons_zero, List.getD_cons_succ, -List.getD_eq_getElem?_getD, pureOp]; first | omega | exact hg | (simp_all [-List.getD_eq_getElem?_getD]; done) | (simp_all [-List.getD_eq_getElem?_getD]; first | exact ⟨rfl, rfl⟩ | exact rfl))
  · first | (simp [hG, List.getD_cons_zero, List.getD_cons_succ, -List.getD_eq_getElem?_getD, pureOp]; done) | (simp [-List.getD_eq_getElem?_getD] at hg; done) | (simp [-List.getD_eq_getElem?_getD] at hg; simp [hG, List.getD_cons_zero, List.getD_cons_succ, -List.getD_eq_getElem?_getD, pureOp]; first | omega | exact hg | (simp_all [-List.getD_eq_getElem?_getD]; done) | (simp_all [-List.getD_eq_getElem?_getD]; first | exact ⟨rfl, rfl⟩ | exact rfl))
  simp [hG, List.getD_cons_zero, List.getD_cons_succ, -List.getD_eq_getElem?_getD, pureOp]
  refine hK _ ?_
  clear K hK
  refine awpL_reg T_ok 6 fun K hK => ?_
  simp [hG, List.getD_cons_zero, List.getD_cons_succ, -List.getD_eq_getElem?_getD, pureOp]
  first | refine hK _ ?_ | refine ⟨Cond.mk (by first | omega | exact trivial | (simp [-List.getD_eq_getElem?_getD]; done) | (simp [-List.getD_eq_getElem?_getD]; omega) | (simp [-List.getD_eq_getElem?_getD]; (repeat (first | assumption | intro _ | exact And.intro ‹_› ‹_› | apply And.intro | omega | exact trivial | exact decide_eq_true (by assumption))); done) | ((repeat (first | assumption | intro _ | exact And.intro ‹_› ‹_› | apply And.intro | omega | exact trivial | exact decide_eq_true (by assumption))); done)), hK _ ?_⟩
  clear K hK
  refine awpL_nil ?_
  refine awpS_cond rfl (fun hb27 => ?_) (fun hb27 => ?_)
  ·
    try simp [-List.getD_eq_getElem?_getD] at hb27
    refine awpS_seq ?_
    refine awpS_regL ?_
    refine awpL_call cal8 rfl rfl (fun _ => rfl) (fun hg => awake_c) (fun hg => ?_) (fun hg => ?_) fun K hK => ?_
    · simp [hG, List.getD_cons_zero, List.getD_cons_succ, -List.getD_eq_getElem?_getD, pureOp]
    · simp [hG, List.getD_cons_zero, List.getD_cons_succ, -List.getD_eq_getElem?_getD, pureOp]
    simp [hG, List.getD_cons_zero, List.getD_cons_succ, -List.getD_eq_getElem?_getD, pureOp]
    refine hK _ ?_
    clear K hK
    refine awpL_reg T_ok 1 fun K hK => ?_
    simp [hG, List.getD_cons_zero, List.getD_cons_succ, -List.getD_eq_getElem?_getD, pureOp]
    first | refine hK _ ?_ | refine ⟨Cond.mk (by first | omega | exact trivial | (simp [-List.getD_eq_getElem?_getD]; done) | (simp [-List.getD_eq_getElem?_getD]; omega) | (simp [-List.getD_eq_getElem?_getD]; (repeat (first | assumption | intro _ | exact And.intro ‹_› ‹_› | apply And.intro | omega | exact trivial | exact decide_eq_true (by assumption))); done) | ((repeat (first | assumption | intro _ | exact And.intro ‹_› ‹_› | apply And.intro | omega | exact trivial | exact decide_eq_true (by assumption))); done)), hK _ ?_⟩
    clear K hK
    refine awpL_nil ?_
    refine awpS_ret ?_
    refine RetOK_of ?_
    simp [hG, List.getD_cons_zero, List.getD_cons_succ, -List.getD_eq_getElem?_getD, pureOp]
  ·
    try simp [-List.getD_eq_getElem?_getD] at hb27
    obtain ⟨hv, hm⟩ := fine_ok hb27.1.1
    have h0 := (checkE_valid hv).2.1
    have hsb := st_box hb.1 h0
    have n1 := enc_fine hv hsb.1 hsb.2 (inpL_any hv (l := l)) (by rw [inpL_len]; omega)
    refine awpS_skip ?_
    refine awpS_seq ?_
    refine awpS_regL ?_
    refine awpL_reg T_ok 2 fun K hK => ?_
    simp [hG, List.getD_cons_zero, List.getD_cons_succ, -List.getD_eq_getElem?_getD, pureOp]
    first | refine hK _ ?_ | refine ⟨Cond.mk (by first | omega | exact trivial | (simp [-List.getD_eq_getElem?_getD]; done) | (simp [-List.getD_eq_getElem?_getD]; omega) | (simp [-List.getD_eq_getElem?_getD]; (repeat (first | assumption | intro _ | exact And.intro ‹_› ‹_› | apply And.intro | omega | exact trivial | exact decide_eq_true (by assumption))); done) | ((repeat (first | assumption | intro _ | exact And.intro ‹_› ‹_› | apply And.intro | omega | exact trivial | exact decide_eq_true (by assumption))); done)), hK _ ?_⟩
    clear K hK
    refine awpL_call cal16 rfl rfl (fun _ => rfl) (fun hg => within_c e g) (fun hg => ?_) (fun hg => ?_) fun K hK => ?_
    · simp [hG, List.getD_cons_zero, List.getD_cons_succ, -List.getD_eq_getElem?_getD, pureOp]
    · simp [hG, List.getD_cons_zero, List.getD_cons_succ, -List.getD_eq_getElem?_getD, pureOp]
    simp [hG, List.getD_cons_zero, List.getD_cons_succ, -List.getD_eq_getElem?_getD, pureOp]
    refine hK _ ?_
    clear K hK
    refine awpL_reg T_ok 5 fun K hK => ?_
    simp [hG, List.getD_cons_zero, List.getD_cons_succ, -List.getD_eq_getElem?_getD, pureOp]
    first | refine hK _ ?_ | refine ⟨Cond.mk (by first | omega | exact trivial | (simp [-List.getD_eq_getElem?_getD]; done) | (simp [-List.getD_eq_getElem?_getD]; omega) | (simp [-List.getD_eq_getElem?_getD]; (repeat (first | assumption | intro _ | exact And.intro ‹_› ‹_› | apply And.intro | omega | exact trivial | exact decide_eq_true (by assumption))); done) | ((repeat (first | assumption | intro _ | exact And.intro ‹_› ‹_› | apply And.intro | omega | exact trivial | exact decide_eq_true (by assumption))); done)), hK _ ?_⟩
    clear K hK
    refine awpL_nil ?_
    refine awpS_seq ?_
    refine awpS_draw hR mixed [] ⟨[], [], []⟩ fun mu0 => ?_
    refine awpA_tk T_ok [0, 1, 2, 3, 4, 5, 6, 7, 8] [] (fuel := 9) [8, 7, 6, 5, 4, 3, 2, 1, 0] (by decide +kernel) (by decide +kernel) rfl rfl fun K hK => ?_
    simp [hG, List.getD_cons_zero, List.getD_cons_succ, -List.getD_eq_getElem?_getD, pureOp]
    first | refine hK _ ?_ | refine ⟨Cond.mk (by first | omega | exact trivial | (simp [-List.getD_eq_getElem?_getD]; done) | (simp [-List.getD_eq_getElem?_getD]; omega) | (simp [-List.getD_eq_getElem?_getD]; (repeat (first | assumption | intro _ | exact And.intro ‹_› ‹_› | apply And.intro | omega | exact trivial | exact decide_eq_true (by assumption))); done) | ((repeat (first | assumption | intro _ | exact And.intro ‹_› ‹_› | apply And.intro | omega | exact trivial | exact decide_eq_true (by assumption))); done)), hK _ ?_⟩
    clear K hK
    refine awpA_only (fuel := 8) (i := 9) (by decide +kernel) ?_
    refine awpO_call cal11 rfl rfl rfl (fun _ => rfl) (fun hg => inputs_c e l hv (by omega)) (fun hg => ?_) (fun hg => ?_) fun K hK => ?_
    · simp [hG, List.getD_cons_zero, List.getD_cons_succ, -List.getD_eq_getElem?_getD, pureOp]
    · simp [hG, List.getD_cons_zero, List.getD_cons_succ, -List.getD_eq_getElem?_getD, pureOp]
    simp [hG, List.getD_cons_zero, List.getD_cons_succ, -List.getD_eq_getElem?_getD, pureOp]
    refine hK _ ?_
    clear K hK
    refine awpA_only (fuel := 7) (i := 10) (by decide +kernel) ?_
    refine awpO_call cal12 rfl rfl rfl (fun _ => rfl) (fun hg => encode_c e (b % e.rows.length) (inpL e l) (by rw [inpL_len]; omega)) (fun hg => ?_) (fun hg => ?_) fun K hK => ?_
    · simp [hG, List.getD_cons_zero, List.getD_cons_succ, -List.getD_eq_getElem?_getD, pureOp]
    · simp [hG, List.getD_cons_zero, List.getD_cons_succ, -List.getD_eq_getElem?_getD, pureOp]
    simp [hG, List.getD_cons_zero, List.getD_cons_succ, -List.getD_eq_getElem?_getD, pureOp]
    refine hK _ ?_
    clear K hK
    refine awpA_tk T_ok [11, 12, 13, 14, 15, 16, 17] [] (fuel := 0) [17, 16, 15, 14, 13, 12, 11, 10, 9, 8, 7, 6, 5, 4, 3, 2, 1, 0] (by decide +kernel) (by decide +kernel) rfl rfl fun K hK => ?_
    simp [hG, List.getD_cons_zero, List.getD_cons_succ, -List.getD_eq_getElem?_getD, pureOp]
    first | refine hK _ ?_ | refine ⟨Cond.mk (by first | omega | exact trivial | (simp [-List.getD_eq_getElem?_getD]; done) | (simp [-List.getD_eq_getElem?_getD]; omega) | (simp [-List.getD_eq_getElem?_getD]; (repeat (first | assumption | intro _ | exact And.intro ‹_› ‹_› | apply And.intro | omega | exact trivial | exact decide_eq_true (by assumption))); done) | ((repeat (first | assumption | intro _ | exact And.intro ‹_› ‹_› | apply And.intro | omega | exact trivial | exact decide_eq_true (by assumption))); done)), hK _ ?_⟩
    clear K hK
    refine awpA_done (by decide +kernel) ?_
    refine awpS_seq ?_
    refine awpS_seq ?_
    refine awpS_reg T_ok fun K hK => ?_
    simp [hG, List.getD_cons_zero, List.getD_cons_succ, -List.getD_eq_getElem?_getD, pureOp]
    first | refine hK _ ?_ | refine ⟨Cond.mk (by first | omega | exact trivial | (simp [-List.getD_eq_getElem?_getD]; done) | (simp [-List.getD_eq_getElem?_getD]; omega) | (simp [-List.getD_eq_getElem?_getD]; (repeat (first | assumption | intro _ | exact And.intro ‹_› ‹_› | apply And.intro | omega | exact trivial | exact decide_eq_true (by assumption))); done) | ((repeat (first | assumption | intro _ | exact And.intro ‹_› ‹_› | apply And.intro | omega | exact trivial | exact decide_eq_true (by assumption))); done)), hK _ ?_⟩
    clear K hK
    refine awpS_cond rfl (fun hb51 => ?_) (fun hb51 => ?_)
    ·
      try simp [-List.getD_eq_getElem?_getD] at hb51
      have hwf := withinB_err hb51
      refine awpS_seq ?_
      refine awpS_regL ?_
      refine awpL_reg T_ok 7 fun K hK => ?_
      simp [hG, List.getD_cons_zero, List.getD_cons_succ, -List.getD_eq_getElem?_getD, pureOp]
      first | refine hK _ ?_ | refine ⟨Cond.mk (by first | omega | exact trivial | (simp [-List.getD_eq_getElem?_getD]; done) | (simp [-List.getD_eq_getElem?_getD]; omega) | (simp [-List.getD_eq_getElem?_getD]; (repeat (first | assumption | intro _ | exact And.intro ‹_› ‹_› | apply And.intro | omega | exact trivial | exact decide_eq_true (by assumption))); done) | ((repeat (first | assumption | intro _ | exact And.intro ‹_› ‹_› | apply And.intro | omega | exact trivial | exact decide_eq_true (by assumption))); done)), hK _ ?_⟩
      clear K hK
      refine awpL_call cal8 rfl rfl (fun _ => rfl) (fun hg => awake_c) (fun hg => ?_) (fun hg => ?_) fun K hK => ?_
      · first | (simp [hG, List.getD_cons_zero, List.getD_cons_succ, -List.getD_eq_getElem?_getD, pureOp]; done) | (simp [-List.getD_eq_getElem?_getD] at hg; done) | (simp [-List.getD_eq_getElem?_getD] at hg; simp [hG, List.getD_cons_zero, List.getD_cons_succ, -List.getD_eq_getElem?_getD, pureOp]; first | omega | exact hg | (simp_all [-List.getD_eq_getElem?_getD]; done) | (simp_all [-List.getD_eq_getElem?_getD]; first | exact ⟨rfl, rfl⟩ | exact rfl))
      · first | (simp [hG, List.getD_cons_zero, List.getD_cons_succ, -List.getD_eq_getElem?_getD, pureOp]; done) | (simp [-List.getD_eq_getElem?_getD] at hg; done) | (simp [-List.getD_eq_getElem?_getD] at hg; simp [hG, List.getD_cons_zero, List.getD_cons_succ, -List.getD_eq_getElem?_getD, pureOp]; first | omega | exact hg | (simp_all [-List.getD_eq_getElem?_getD]; done) | (simp_all [-List.getD_eq_getElem?_getD]; first | exact ⟨rfl, rfl⟩ | exact rfl))
      simp [hG, List.getD_cons_zero, List.getD_cons_succ, -List.getD_eq_getElem?_getD, pureOp]
      refine hK _ ?_
      clear K hK
      refine awpL_reg T_ok 2 fun K hK => ?_
      simp [hG, List.getD_cons_zero, List.getD_cons_succ, -List.getD_eq_getElem?_getD, pureOp]
      first | refine hK _ ?_ | refine ⟨Cond.mk (by first | omega | exact trivial | (simp [-List.getD_eq_getElem?_getD]; done) | (simp [-List.getD_eq_getElem?_getD]; omega) | (simp [-List.getD_eq_getElem?_getD]; (repeat (first | assumption | intro _ | exact And.intro ‹_› ‹_› | apply And.intro | omega | exact trivial | exact decide_eq_true (by assumption))); done) | ((repeat (first | assumption | intro _ | exact And.intro ‹_› ‹_› | apply And.intro | omega | exact trivial | exact decide_eq_true (by assumption))); done)), hK _ ?_⟩
      clear K hK
      refine awpL_nil ?_
      refine awpS_ret ?_
      refine RetOK_of ?_
      simp [hG, List.getD_cons_zero, List.getD_cons_succ, -List.getD_eq_getElem?_getD, pureOp]
      exact ⟨hwf, n1⟩
    ·
      try simp [-List.getD_eq_getElem?_getD] at hb51
      have hfin := within_fin hv hb.1 (l := l) (by omega) (by simpa using hb51)
      refine awpS_skip ?_
      refine awpS_seq ?_
      refine awpS_regL ?_
      refine awpL_reg T_ok 2 fun K hK => ?_
      simp [hG, List.getD_cons_zero, List.getD_cons_succ, -List.getD_eq_getElem?_getD, pureOp]
      first | refine hK _ ?_ | refine ⟨Cond.mk (by first | omega | exact trivial | (simp [-List.getD_eq_getElem?_getD]; done) | (simp [-List.getD_eq_getElem?_getD]; omega) | (simp [-List.getD_eq_getElem?_getD]; (repeat (first | assumption | intro _ | exact And.intro ‹_› ‹_› | apply And.intro | omega | exact trivial | exact decide_eq_true (by assumption))); done) | ((repeat (first | assumption | intro _ | exact And.intro ‹_› ‹_› | apply And.intro | omega | exact trivial | exact decide_eq_true (by assumption))); done)), hK _ ?_⟩
      clear K hK
      refine awpL_call cal17 rfl rfl (fun _ => rfl) (fun hg => accepts_c g (encodeW e (b % e.rows.length) (inpL e l))) (fun hg => ?_) (fun hg => ?_) fun K hK => ?_
      · simp [hG, List.getD_cons_zero, List.getD_cons_succ, -List.getD_eq_getElem?_getD, pureOp]
      · simp [hG, List.getD_cons_zero, List.getD_cons_succ, -List.getD_eq_getElem?_getD, pureOp]
      simp [hG, List.getD_cons_zero, List.getD_cons_succ, -List.getD_eq_getElem?_getD, pureOp]
      refine hK _ ?_
      clear K hK
      refine awpL_reg T_ok 5 fun K hK => ?_
      simp [hG, List.getD_cons_zero, List.getD_cons_succ, -List.getD_eq_getElem?_getD, pureOp]
      first | refine hK _ ?_ | refine ⟨Cond.mk (by first | omega | exact trivial | (simp [-List.getD_eq_getElem?_getD]; done) | (simp [-List.getD_eq_getElem?_getD]; omega) | (simp [-List.getD_eq_getElem?_getD]; (repeat (first | assumption | intro _ | exact And.intro ‹_› ‹_› | apply And.intro | omega | exact trivial | exact decide_eq_true (by assumption))); done) | ((repeat (first | assumption | intro _ | exact And.intro ‹_› ‹_› | apply And.intro | omega | exact trivial | exact decide_eq_true (by assumption))); done)), hK _ ?_⟩
      clear K hK
      refine awpL_nil ?_
      refine awpS_seq ?_
      refine awpS_regL ?_
      refine awpL_reg T_ok 14 fun K hK => ?_
      simp [hG, List.getD_cons_zero, List.getD_cons_succ, -List.getD_eq_getElem?_getD, pureOp]
      first | refine hK _ ?_ | refine ⟨Cond.mk (by first | omega | exact trivial | (simp [-List.getD_eq_getElem?_getD]; done) | (simp [-List.getD_eq_getElem?_getD]; omega) | (simp [-List.getD_eq_getElem?_getD]; (repeat (first | assumption | intro _ | exact And.intro ‹_› ‹_› | apply And.intro | omega | exact trivial | exact decide_eq_true (by assumption))); done) | ((repeat (first | assumption | intro _ | exact And.intro ‹_› ‹_› | apply And.intro | omega | exact trivial | exact decide_eq_true (by assumption))); done)), hK _ ?_⟩
      clear K hK
      refine awpL_call cal8 rfl rfl (fun _ => rfl) (fun hg => awake_c) (fun hg => ?_) (fun hg => ?_) fun K hK => ?_
      · first | (simp [hG, List.getD_cons_zero, List.getD_cons_succ, -List.getD_eq_getElem?_getD, pureOp]; done) | (simp [-List.getD_eq_getElem?_getD] at hg; done) | (simp [-List.getD_eq_getElem?_getD] at hg; simp [hG, List.getD_cons_zero, List.getD_cons_succ, -List.getD_eq_getElem?_getD, pureOp]; first | omega | exact hg | (simp_all [-List.getD_eq_getElem?_getD]; done) | (simp_all [-List.getD_eq_getElem?_getD]; first | exact ⟨rfl, rfl⟩ | exact rfl))
      · first | (simp [hG, List.getD_cons_zero, List.getD_cons_succ, -List.getD_eq_getElem?_getD, pureOp]; done) | (simp [-List.getD_eq_getElem?_getD] at hg; done) | (simp [-List.getD_eq_getElem?_getD] at hg; simp [hG, List.getD_cons_zero, List.getD_cons_succ, -List.getD_eq_getElem?_getD, pureOp]; first | omega | exact hg | (simp_all [-List.getD_eq_getElem?_getD]; done) | (simp_all [-List.getD_eq_getElem?_getD]; first | exact ⟨rfl, rfl⟩ | exact rfl))
      simp [hG, List.getD_cons_zero, List.getD_cons_succ, -List.getD_eq_getElem?_getD, pureOp]
      refine hK _ ?_
      clear K hK
      refine awpL_reg T_ok 2 fun K hK => ?_
      simp [hG, List.getD_cons_zero, List.getD_cons_succ, -List.getD_eq_getElem?_getD, pureOp]
      first | refine hK _ ?_ | refine ⟨Cond.mk (by first | omega | exact trivial | (simp [-List.getD_eq_getElem?_getD]; done) | (simp [-List.getD_eq_getElem?_getD]; omega) | (simp [-List.getD_eq_getElem?_getD]; (repeat (first | assumption | intro _ | exact And.intro ‹_› ‹_› | apply And.intro | omega | exact trivial | exact decide_eq_true (by assumption))); done) | ((repeat (first | assumption | intro _ | exact And.intro ‹_› ‹_› | apply And.intro | omega | exact trivial | exact decide_eq_true (by assumption))); done)), hK _ ?_⟩
      clear K hK
      refine awpL_nil ?_
      refine awpS_ret ?_
      refine RetOK_of ?_
      simp [hG, List.getD_cons_zero, List.getD_cons_succ, -List.getD_eq_getElem?_getD, pureOp]
      exact ⟨⟨hfin.1, hfin.2.1⟩, hfin.2.2⟩

end Go.Proofs.YtfoeigajlkonpaaDoor
