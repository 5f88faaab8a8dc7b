/-
  Walks: the law PowerComposed.
-/
import Derived.Test.YtddghlnaocjjkaaWH
import Derived.Test.YtddghlnaocjjkaaPA
namespace Go.Proofs.Ytddghlnaocjjkaa
set_option linter.unusedSimpArgs false
set_option linter.unusedVariables false
open Go Go.Lift Go.Proofs
theorem sameG_eq {a b : Gr} : ((decide (a.labels = b.labels) && decide (a.states = b.states)) && decide (a.edges = b.edges)) = sameG a b := by
  unfold sameG; rw [Bool.eq_iff_iff]; simp [and_assoc]
theorem mul9 {a b : Int} (ha : 1 ≤ a ∧ a ≤ 3) (hb : 1 ≤ b ∧ b ≤ 3) : 1 ≤ a * b ∧ a * b ≤ 9 := by
  rcases (show a = 1 ∨ a = 2 ∨ a = 3 by omega) with rfl | rfl | rfl <;> omega
set_option maxRecDepth 100000 in
theorem equalE_c (a b : List Edge) (ha : a.length ≤ 1000000) : PC Try.prog 51 [edgesC a, edgesC b] (.bool (decide (a = b))) := by
  refine PC_introS T_ok Try.func51 rfl (by simp [Try.ntmps51]) fun G hG hR => ?_
  simp only [Try.ntmps51, Try.results51] at hG ⊢
  simp only [argEnv, Nat.zero_add, Nat.reduceAdd]
  refine awpS_seq ?_
  refine awpS_reg T_ok fun K hK => ?_
  simp [hG, List.getD_cons_zero, List.getD_cons_succ, -List.getD_eq_getElem?_getD]
  first | refine hK _ ?_ | refine ⟨Cond.mk (by first | omega | (simp [-List.getD_eq_getElem?_getD]; done) | (simp [-List.getD_eq_getElem?_getD]; omega) | (simp [-List.getD_eq_getElem?_getD]; repeat (first | intro _ | exact And.intro ‹_› ‹_› | apply And.intro | assumption | omega | exact decide_eq_true (by assumption)))), hK _ ?_⟩
  clear K hK
  refine awpS_seq ?_
  refine awpS_seq ?_
  refine awpS_reg T_ok fun K hK => ?_
  simp [hG, List.getD_cons_zero, List.getD_cons_succ, -List.getD_eq_getElem?_getD]
  first | refine hK _ ?_ | refine ⟨Cond.mk (by first | omega | (simp [-List.getD_eq_getElem?_getD]; done) | (simp [-List.getD_eq_getElem?_getD]; omega) | (simp [-List.getD_eq_getElem?_getD]; repeat (first | intro _ | exact And.intro ‹_› ‹_› | apply And.intro | assumption | omega | exact decide_eq_true (by assumption)))), hK _ ?_⟩
  clear K hK
  refine awpS_cond rfl (fun hb10 => ?_) (fun hb10 => ?_)
  ·
    try simp [-List.getD_eq_getElem?_getD] at hb10
    refine awpS_seq ?_
    refine awpS_reg T_ok fun K hK => ?_
    simp [hG, List.getD_cons_zero, List.getD_cons_succ, -List.getD_eq_getElem?_getD]
    first | refine hK _ ?_ | refine ⟨Cond.mk (by first | omega | (simp [-List.getD_eq_getElem?_getD]; done) | (simp [-List.getD_eq_getElem?_getD]; omega) | (simp [-List.getD_eq_getElem?_getD]; repeat (first | intro _ | exact And.intro ‹_› ‹_› | apply And.intro | assumption | omega | exact decide_eq_true (by assumption)))), hK _ ?_⟩
    clear K hK
    refine awpS_ret ?_
    refine RetOK_of ?_
    simp [hG, List.getD_cons_zero, List.getD_cons_succ, -List.getD_eq_getElem?_getD]
    intro h; rw [h] at hb10; omega
  ·
    try simp [-List.getD_eq_getElem?_getD] at hb10
    refine awpS_skip ?_
    refine awpS_seq ?_
    refine awpS_seq ?_
    refine awpS_reg T_ok fun K hK => ?_
    simp [hG, List.getD_cons_zero, List.getD_cons_succ, -List.getD_eq_getElem?_getD]
    first | refine hK _ ?_ | refine ⟨Cond.mk (by first | omega | (simp [-List.getD_eq_getElem?_getD]; done) | (simp [-List.getD_eq_getElem?_getD]; omega) | (simp [-List.getD_eq_getElem?_getD]; repeat (first | intro _ | exact And.intro ‹_› ‹_› | apply And.intro | assumption | omega | exact decide_eq_true (by assumption)))), hK _ ?_⟩
    clear K hK
    refine awpS_block ?_
    refine awpS_loop (α := Nat) (fun k => ⟨[(0, edgesC a), (1, edgesC b), (12, .int .i64 a.length), (13, .int .i64 k)], [], 0⟩) (fun k => a.length = b.length ∧ k ≤ a.length ∧ ∀ j, j < k → a.getD j de = b.getD j de) (fun k => a.length - k) (0) (⟨by omega, Nat.zero_le _, fun j hj => absurd hj (Nat.not_lt_zero _)⟩) ?_ ?_
    ·
      refine wk_of (id) (fun _ => false) (fun _ => false) ?_ ?_ rfl (Nat.zero_le _) (fun k hk => absurd hk (Nat.not_lt_zero _))
      · simp [hG, List.getD_cons_zero, List.getD_cons_succ, -List.getD_eq_getElem?_getD]
      · simp [hG, List.getD_cons_zero, List.getD_cons_succ, -List.getD_eq_getElem?_getD]
    ·
      rintro k ⟨h3, hk, hn⟩
      refine awpS_seq ?_
      refine awpS_reg T_ok fun K hK => ?_
      simp [hG, List.getD_cons_zero, List.getD_cons_succ, -List.getD_eq_getElem?_getD]
      first | refine hK _ ?_ | refine ⟨Cond.mk (by first | omega | (simp [-List.getD_eq_getElem?_getD]; done) | (simp [-List.getD_eq_getElem?_getD]; omega) | (simp [-List.getD_eq_getElem?_getD]; repeat (first | intro _ | exact And.intro ‹_› ‹_› | apply And.intro | assumption | omega | exact decide_eq_true (by assumption)))), hK _ ?_⟩
      clear K hK
      refine awpS_seq ?_
      refine awpS_cond rfl (fun hb14 => ?_) (fun hb14 => ?_)
      ·
        try simp [-List.getD_eq_getElem?_getD] at hb14
        refine awpS_skip ?_
        refine awpS_seq ?_
        refine awpS_block ?_
        refine awpS_seq ?_
        refine awpS_reg T_ok fun K hK => ?_
        simp [hG, List.getD_cons_zero, List.getD_cons_succ, -List.getD_eq_getElem?_getD]
        first | refine hK _ ?_ | refine ⟨Cond.mk (by first | omega | (simp [-List.getD_eq_getElem?_getD]; done) | (simp [-List.getD_eq_getElem?_getD]; omega) | (simp [-List.getD_eq_getElem?_getD]; repeat (first | intro _ | exact And.intro ‹_› ‹_› | apply And.intro | assumption | omega | exact decide_eq_true (by assumption)))), hK _ ?_⟩
        clear K hK
        refine awpS_seq ?_
        refine awpS_draw hR mixed [] ⟨[], [], []⟩ fun mu0 => ?_
        refine awpA_tk T_ok [0, 1, 2, 3, 4, 5, 6, 7, 8] [] (fuel := 0) [8, 7, 6, 5, 4, 3, 2, 1, 0] (by decide +kernel) (by decide +kernel) rfl rfl fun K hK => ?_
        simp [hG, List.getD_cons_zero, List.getD_cons_succ, -List.getD_eq_getElem?_getD]
        first | refine hK _ ?_ | refine ⟨Cond.mk (by first | omega | (simp [-List.getD_eq_getElem?_getD]; done) | (simp [-List.getD_eq_getElem?_getD]; omega) | (simp [-List.getD_eq_getElem?_getD]; repeat (first | intro _ | exact And.intro ‹_› ‹_› | apply And.intro | assumption | omega | exact decide_eq_true (by assumption)))), hK _ ?_⟩
        clear K hK
        refine awpA_done (by decide +kernel) ?_
        refine awpS_cond rfl (fun hb24 => ?_) (fun hb24 => ?_)
        ·
          try simp [-List.getD_eq_getElem?_getD] at hb24
          refine awpS_seq ?_
          refine awpS_reg T_ok fun K hK => ?_
          simp [hG, List.getD_cons_zero, List.getD_cons_succ, -List.getD_eq_getElem?_getD]
          first | refine hK _ ?_ | refine ⟨Cond.mk (by first | omega | (simp [-List.getD_eq_getElem?_getD]; done) | (simp [-List.getD_eq_getElem?_getD]; omega) | (simp [-List.getD_eq_getElem?_getD]; repeat (first | intro _ | exact And.intro ‹_› ‹_› | apply And.intro | assumption | omega | exact decide_eq_true (by assumption)))), hK _ ?_⟩
          clear K hK
          refine awpS_ret ?_
          refine blockQ_ret (thenQ_ret ?_)
          refine thenQ_ret (thenQ_ret ?_)
          refine blockQ_ret (thenQ_ret ?_)
          refine RetOK_of ?_
          simp [hG, List.getD_cons_zero, List.getD_cons_succ, -List.getD_eq_getElem?_getD]
          intro h; rw [h] at hb24; simp at hb24
        ·
          try simp [-List.getD_eq_getElem?_getD] at hb24
          refine awpS_skip ?_
          refine awpS_nil ?_
          refine blockQ_norm (thenQ_norm ?_)
          refine awpS_reg T_ok fun K hK => ?_
          simp [hG, List.getD_cons_zero, List.getD_cons_succ, -List.getD_eq_getElem?_getD]
          first | refine hK _ ?_ | refine ⟨Cond.mk (by first | omega | (simp [-List.getD_eq_getElem?_getD]; done) | (simp [-List.getD_eq_getElem?_getD]; omega) | (simp [-List.getD_eq_getElem?_getD]; repeat (first | intro _ | exact And.intro ‹_› ‹_› | apply And.intro | assumption | omega | exact decide_eq_true (by assumption)))), hK _ ?_⟩
          clear K hK
          refine awpS_nil ?_
          refine round_end (k + 1) (⟨h3, by omega, step_all hn (edge_ext hb24.1 hb24.2.1 hb24.2.2)⟩) (by omega) ?_
          refine wk_of (id) (fun _ => false) (fun _ => false) ?_ ?_ rfl (Nat.zero_le _) (fun k hk => absurd hk (Nat.not_lt_zero _))
          · simp [hG, List.getD_cons_zero, List.getD_cons_succ, -List.getD_eq_getElem?_getD]
          · simp [hG, List.getD_cons_zero, List.getD_cons_succ, -List.getD_eq_getElem?_getD]
      ·
        try simp [-List.getD_eq_getElem?_getD] at hb14
        refine awpS_exit ?_
        refine thenQ_exit (thenQ_exit ?_)
        refine blockQ_exit (thenQ_norm ?_)
        refine awpS_seq ?_
        refine awpS_reg T_ok fun K hK => ?_
        simp [hG, List.getD_cons_zero, List.getD_cons_succ, -List.getD_eq_getElem?_getD]
        first | refine hK _ ?_ | refine ⟨Cond.mk (by first | omega | (simp [-List.getD_eq_getElem?_getD]; done) | (simp [-List.getD_eq_getElem?_getD]; omega) | (simp [-List.getD_eq_getElem?_getD]; repeat (first | intro _ | exact And.intro ‹_› ‹_› | apply And.intro | assumption | omega | exact decide_eq_true (by assumption)))), hK _ ?_⟩
        clear K hK
        refine awpS_ret ?_
        refine RetOK_of ?_
        simp [hG, List.getD_cons_zero, List.getD_cons_succ, -List.getD_eq_getElem?_getD]
        exact edges_eq h3 fun j hj => hn j (by omega)

set_option maxRecDepth 100000 in
theorem graphSame_c (a b : Gr) (ha : a.edges.length ≤ 1000000) : PC Try.prog 18 [.agg 3 (grF a), .agg 3 (grF b)] (.bool (sameG a b)) := by
  refine PC_introS T_ok Try.func18 rfl (by simp [Try.ntmps18]) fun G hG hR => ?_
  simp only [Try.ntmps18, Try.results18] at hG ⊢
  simp only [argEnv, Nat.zero_add, Nat.reduceAdd]
  refine awpS_seq ?_
  refine awpS_reg T_ok fun K hK => ?_
  simp [hG, List.getD_cons_zero, List.getD_cons_succ, -List.getD_eq_getElem?_getD]
  first | refine hK _ ?_ | refine ⟨Cond.mk (by first | omega | (simp [-List.getD_eq_getElem?_getD]; done) | (simp [-List.getD_eq_getElem?_getD]; omega) | (simp [-List.getD_eq_getElem?_getD]; repeat (first | intro _ | exact And.intro ‹_› ‹_› | apply And.intro | assumption | omega | exact decide_eq_true (by assumption)))), hK _ ?_⟩
  clear K hK
  refine awpS_seq ?_
  refine awpS_regL ?_
  refine awpL_reg T_ok 17 fun K hK => ?_
  simp [hG, List.getD_cons_zero, List.getD_cons_succ, -List.getD_eq_getElem?_getD]
  first | refine hK _ ?_ | refine ⟨Cond.mk (by first | omega | (simp [-List.getD_eq_getElem?_getD]; done) | (simp [-List.getD_eq_getElem?_getD]; omega) | (simp [-List.getD_eq_getElem?_getD]; repeat (first | intro _ | exact And.intro ‹_› ‹_› | apply And.intro | assumption | omega | exact decide_eq_true (by assumption)))), hK _ ?_⟩
  clear K hK
  refine awpL_call cal51 rfl rfl (fun _ => rfl) (fun hg => equalE_c a.edges b.edges ha) (fun hg => ?_) (fun hg => ?_) fun K hK => ?_
  · first | (simp [hG, List.getD_cons_zero, List.getD_cons_succ, -List.getD_eq_getElem?_getD]; done) | (simp [-List.getD_eq_getElem?_getD] at hg; done) | (simp [-List.getD_eq_getElem?_getD] at hg; simp [hG, List.getD_cons_zero, List.getD_cons_succ, -List.getD_eq_getElem?_getD]; first | omega | exact hg | (simp_all [-List.getD_eq_getElem?_getD]; done) | (simp_all [-List.getD_eq_getElem?_getD]; first | exact ⟨rfl, rfl⟩ | exact rfl))
  · first | (simp [hG, List.getD_cons_zero, List.getD_cons_succ, -List.getD_eq_getElem?_getD]; done) | (simp [-List.getD_eq_getElem?_getD] at hg; done) | (simp [-List.getD_eq_getElem?_getD] at hg; simp [hG, List.getD_cons_zero, List.getD_cons_succ, -List.getD_eq_getElem?_getD]; first | omega | exact hg | (simp_all [-List.getD_eq_getElem?_getD]; done) | (simp_all [-List.getD_eq_getElem?_getD]; first | exact ⟨rfl, rfl⟩ | exact rfl))
  simp [hG, List.getD_cons_zero, List.getD_cons_succ, -List.getD_eq_getElem?_getD]
  refine hK _ ?_
  clear K hK
  refine awpL_reg T_ok 2 fun K hK => ?_
  simp [hG, List.getD_cons_zero, List.getD_cons_succ, -List.getD_eq_getElem?_getD]
  first | refine hK _ ?_ | refine ⟨Cond.mk (by first | omega | (simp [-List.getD_eq_getElem?_getD]; done) | (simp [-List.getD_eq_getElem?_getD]; omega) | (simp [-List.getD_eq_getElem?_getD]; repeat (first | intro _ | exact And.intro ‹_› ‹_› | apply And.intro | assumption | omega | exact decide_eq_true (by assumption)))), hK _ ?_⟩
  clear K hK
  refine awpL_nil ?_
  refine awpS_ret ?_
  refine RetOK_of ?_
  simp [hG, List.getD_cons_zero, List.getD_cons_succ, -List.getD_eq_getElem?_getD]
  exact sameG_eq

set_option maxRecDepth 100000 in
theorem composedLaw_c (g : Gr) (m : Int) (hm : 0 ≤ m ∧ m < 256) (n : Int) (hn : 0 ≤ n ∧ n < 256) : PC Try.prog 4 [.agg 3 (grF g), .int .u8 m, .int .u8 n] (.bool true) := by
  have hmb : 0 ≤ m % 3 ∧ m % 3 < 3 := ⟨Int.emod_nonneg _ (by omega), Int.emod_lt_of_pos _ (by omega)⟩
  have hnb : 0 ≤ n % 3 ∧ n % 3 < 3 := ⟨Int.emod_nonneg _ (by omega), Int.emod_lt_of_pos _ (by omega)⟩
  have hmul := mul9 (a := (1 + m % 3)) (b := (1 + n % 3)) (by omega) (by omega)
  refine PC_introS T_ok Try.func4 rfl (by simp [Try.ntmps4]) fun G hG hR => ?_
  simp only [Try.ntmps4, Try.results4] at hG ⊢
  simp only [argEnv, Nat.zero_add, Nat.reduceAdd]
  refine awpS_seq ?_
  refine awpS_reg T_ok fun K hK => ?_
  simp [hG, List.getD_cons_zero, List.getD_cons_succ, -List.getD_eq_getElem?_getD]
  first | refine hK _ ?_ | refine ⟨Cond.mk (by first | omega | (simp [-List.getD_eq_getElem?_getD]; done) | (simp [-List.getD_eq_getElem?_getD]; omega) | (simp [-List.getD_eq_getElem?_getD]; repeat (first | intro _ | exact And.intro ‹_› ‹_› | apply And.intro | assumption | omega | exact decide_eq_true (by assumption)))), hK _ ?_⟩
  clear K hK
  refine awpS_seq ?_
  refine awpS_seq ?_
  refine awpS_regL ?_
  refine awpL_reg T_ok 1 fun K hK => ?_
  simp [hG, List.getD_cons_zero, List.getD_cons_succ, -List.getD_eq_getElem?_getD]
  first | refine hK _ ?_ | refine ⟨Cond.mk (by first | omega | (simp [-List.getD_eq_getElem?_getD]; done) | (simp [-List.getD_eq_getElem?_getD]; omega) | (simp [-List.getD_eq_getElem?_getD]; repeat (first | intro _ | exact And.intro ‹_› ‹_› | apply And.intro | assumption | omega | exact decide_eq_true (by assumption)))), hK _ ?_⟩
  clear K hK
  refine awpL_call cal10 rfl rfl (fun _ => rfl) (fun hg => great_c g) (fun hg => ?_) (fun hg => ?_) fun K hK => ?_
  · simp [hG, List.getD_cons_zero, List.getD_cons_succ, -List.getD_eq_getElem?_getD]
  · simp [hG, List.getD_cons_zero, List.getD_cons_succ, -List.getD_eq_getElem?_getD]
  simp [hG, List.getD_cons_zero, List.getD_cons_succ, -List.getD_eq_getElem?_getD]
  refine hK _ ?_
  clear K hK
  refine awpL_reg T_ok 2 fun K hK => ?_
  simp [hG, List.getD_cons_zero, List.getD_cons_succ, -List.getD_eq_getElem?_getD]
  first | refine hK _ ?_ | refine ⟨Cond.mk (by first | omega | (simp [-List.getD_eq_getElem?_getD]; done) | (simp [-List.getD_eq_getElem?_getD]; omega) | (simp [-List.getD_eq_getElem?_getD]; repeat (first | intro _ | exact And.intro ‹_› ‹_› | apply And.intro | assumption | omega | exact decide_eq_true (by assumption)))), hK _ ?_⟩
  clear K hK
  refine awpL_call cal17 rfl rfl (fun _ => rfl) (fun hg => check_c g) (fun hg => ?_) (fun hg => ?_) fun K hK => ?_
  · first | (simp [hG, List.getD_cons_zero, List.getD_cons_succ, -List.getD_eq_getElem?_getD]; done) | (simp [-List.getD_eq_getElem?_getD] at hg; done) | (simp [-List.getD_eq_getElem?_getD] at hg; simp [hG, List.getD_cons_zero, List.getD_cons_succ, -List.getD_eq_getElem?_getD]; first | omega | exact hg | (simp_all [-List.getD_eq_getElem?_getD]; done) | (simp_all [-List.getD_eq_getElem?_getD]; first | exact ⟨rfl, rfl⟩ | exact rfl))
  · first | (simp [hG, List.getD_cons_zero, List.getD_cons_succ, -List.getD_eq_getElem?_getD]; done) | (simp [-List.getD_eq_getElem?_getD] at hg; done) | (simp [-List.getD_eq_getElem?_getD] at hg; simp [hG, List.getD_cons_zero, List.getD_cons_succ, -List.getD_eq_getElem?_getD]; first | omega | exact hg | (simp_all [-List.getD_eq_getElem?_getD]; done) | (simp_all [-List.getD_eq_getElem?_getD]; first | exact ⟨rfl, rfl⟩ | exact rfl))
  simp [hG, List.getD_cons_zero, List.getD_cons_succ, -List.getD_eq_getElem?_getD]
  refine hK _ ?_
  clear K hK
  refine awpL_reg T_ok 2 fun K hK => ?_
  simp [hG, List.getD_cons_zero, List.getD_cons_succ, -List.getD_eq_getElem?_getD]
  first | refine hK _ ?_ | refine ⟨Cond.mk (by first | omega | (simp [-List.getD_eq_getElem?_getD]; done) | (simp [-List.getD_eq_getElem?_getD]; omega) | (simp [-List.getD_eq_getElem?_getD]; repeat (first | intro _ | exact And.intro ‹_› ‹_› | apply And.intro | assumption | omega | exact decide_eq_true (by assumption)))), hK _ ?_⟩
  clear K hK
  refine awpL_nil ?_
  refine awpS_cond rfl (fun hb21 => ?_) (fun hb21 => ?_)
  ·
    try simp [-List.getD_eq_getElem?_getD] at hb21
    refine awpS_seq ?_
    refine awpS_regL ?_
    refine awpL_call cal11 rfl rfl (fun _ => rfl) (fun hg => awake_c) (fun hg => ?_) (fun hg => ?_) fun K hK => ?_
    · simp [hG, List.getD_cons_zero, List.getD_cons_succ, -List.getD_eq_getElem?_getD]
    · simp [hG, List.getD_cons_zero, List.getD_cons_succ, -List.getD_eq_getElem?_getD]
    simp [hG, List.getD_cons_zero, List.getD_cons_succ, -List.getD_eq_getElem?_getD]
    refine hK _ ?_
    clear K hK
    refine awpL_reg T_ok 1 fun K hK => ?_
    simp [hG, List.getD_cons_zero, List.getD_cons_succ, -List.getD_eq_getElem?_getD]
    first | refine hK _ ?_ | refine ⟨Cond.mk (by first | omega | (simp [-List.getD_eq_getElem?_getD]; done) | (simp [-List.getD_eq_getElem?_getD]; omega) | (simp [-List.getD_eq_getElem?_getD]; repeat (first | intro _ | exact And.intro ‹_› ‹_› | apply And.intro | assumption | omega | exact decide_eq_true (by assumption)))), hK _ ?_⟩
    clear K hK
    refine awpL_nil ?_
    refine awpS_ret ?_
    refine RetOK_of ?_
    simp [hG, List.getD_cons_zero, List.getD_cons_succ, -List.getD_eq_getElem?_getD]
  ·
    try simp [-List.getD_eq_getElem?_getD] at hb21
    refine awpS_skip ?_
    refine awpS_seq ?_
    refine awpS_reg T_ok fun K hK => ?_
    simp [hG, List.getD_cons_zero, List.getD_cons_succ, -List.getD_eq_getElem?_getD]
    first | refine hK _ ?_ | refine ⟨Cond.mk (by first | omega | (simp [-List.getD_eq_getElem?_getD]; done) | (simp [-List.getD_eq_getElem?_getD]; omega) | (simp [-List.getD_eq_getElem?_getD]; repeat (first | intro _ | exact And.intro ‹_› ‹_› | apply And.intro | assumption | omega | exact decide_eq_true (by assumption)))), hK _ ?_⟩
    clear K hK
    refine awpS_seq ?_
    refine awpS_regL ?_
    refine awpL_reg T_ok 4 fun K hK => ?_
    simp [hG, List.getD_cons_zero, List.getD_cons_succ, -List.getD_eq_getElem?_getD]
    first | refine hK _ ?_ | refine ⟨Cond.mk (by first | omega | (simp [-List.getD_eq_getElem?_getD]; done) | (simp [-List.getD_eq_getElem?_getD]; omega) | (simp [-List.getD_eq_getElem?_getD]; repeat (first | intro _ | exact And.intro ‹_› ‹_› | apply And.intro | assumption | omega | exact decide_eq_true (by assumption)))), hK _ ?_⟩
    clear K hK
    refine awpL_call cal12 rfl rfl (fun _ => rfl) (fun hg => power_c g ((1 + m % 3) * (1 + n % 3))) (fun hg => ?_) (fun hg => ?_) fun K hK => ?_
    · simp [hG, List.getD_cons_zero, List.getD_cons_succ, -List.getD_eq_getElem?_getD]
    · simp [hG, List.getD_cons_zero, List.getD_cons_succ, -List.getD_eq_getElem?_getD]
    simp [hG, List.getD_cons_zero, List.getD_cons_succ, -List.getD_eq_getElem?_getD]
    refine hK _ ?_
    clear K hK
    refine awpL_reg T_ok 6 fun K hK => ?_
    simp [hG, List.getD_cons_zero, List.getD_cons_succ, -List.getD_eq_getElem?_getD]
    first | refine hK _ ?_ | refine ⟨Cond.mk (by first | omega | (simp [-List.getD_eq_getElem?_getD]; done) | (simp [-List.getD_eq_getElem?_getD]; omega) | (simp [-List.getD_eq_getElem?_getD]; repeat (first | intro _ | exact And.intro ‹_› ‹_› | apply And.intro | assumption | omega | exact decide_eq_true (by assumption)))), hK _ ?_⟩
    clear K hK
    refine awpL_nil ?_
    refine awpS_seq ?_
    refine awpS_regL ?_
    refine awpL_reg T_ok 2 fun K hK => ?_
    simp [hG, List.getD_cons_zero, List.getD_cons_succ, -List.getD_eq_getElem?_getD]
    first | refine hK _ ?_ | refine ⟨Cond.mk (by first | omega | (simp [-List.getD_eq_getElem?_getD]; done) | (simp [-List.getD_eq_getElem?_getD]; omega) | (simp [-List.getD_eq_getElem?_getD]; repeat (first | intro _ | exact And.intro ‹_› ‹_› | apply And.intro | assumption | omega | exact decide_eq_true (by assumption)))), hK _ ?_⟩
    clear K hK
    refine awpL_call cal12 rfl rfl (fun _ => rfl) (fun hg => power_c g (1 + m % 3)) (fun hg => ?_) (fun hg => ?_) fun K hK => ?_
    · simp [hG, List.getD_cons_zero, List.getD_cons_succ, -List.getD_eq_getElem?_getD]
    · simp [hG, List.getD_cons_zero, List.getD_cons_succ, -List.getD_eq_getElem?_getD]
    simp [hG, List.getD_cons_zero, List.getD_cons_succ, -List.getD_eq_getElem?_getD]
    refine hK _ ?_
    clear K hK
    refine awpL_reg T_ok 6 fun K hK => ?_
    simp [hG, List.getD_cons_zero, List.getD_cons_succ, -List.getD_eq_getElem?_getD]
    first | refine hK _ ?_ | refine ⟨Cond.mk (by first | omega | (simp [-List.getD_eq_getElem?_getD]; done) | (simp [-List.getD_eq_getElem?_getD]; omega) | (simp [-List.getD_eq_getElem?_getD]; repeat (first | intro _ | exact And.intro ‹_› ‹_› | apply And.intro | assumption | omega | exact decide_eq_true (by assumption)))), hK _ ?_⟩
    clear K hK
    refine awpL_nil ?_
    refine awpS_seq ?_
    refine awpS_seq ?_
    refine awpS_reg T_ok fun K hK => ?_
    simp [hG, List.getD_cons_zero, List.getD_cons_succ, -List.getD_eq_getElem?_getD]
    first | refine hK _ ?_ | refine ⟨Cond.mk (by first | omega | (simp [-List.getD_eq_getElem?_getD]; done) | (simp [-List.getD_eq_getElem?_getD]; omega) | (simp [-List.getD_eq_getElem?_getD]; repeat (first | intro _ | exact And.intro ‹_› ‹_› | apply And.intro | assumption | omega | exact decide_eq_true (by assumption)))), hK _ ?_⟩
    clear K hK
    refine awpS_cond rfl (fun hb50 => ?_) (fun hb50 => ?_)
    ·
      try simp [-List.getD_eq_getElem?_getD] at hb50
      refine awpS_seq ?_
      refine awpS_regL ?_
      refine awpL_call cal11 rfl rfl (fun _ => rfl) (fun hg => awake_c) (fun hg => ?_) (fun hg => ?_) fun K hK => ?_
      · simp [hG, List.getD_cons_zero, List.getD_cons_succ, -List.getD_eq_getElem?_getD]
      · simp [hG, List.getD_cons_zero, List.getD_cons_succ, -List.getD_eq_getElem?_getD]
      simp [hG, List.getD_cons_zero, List.getD_cons_succ, -List.getD_eq_getElem?_getD]
      refine hK _ ?_
      clear K hK
      refine awpL_reg T_ok 1 fun K hK => ?_
      simp [hG, List.getD_cons_zero, List.getD_cons_succ, -List.getD_eq_getElem?_getD]
      first | refine hK _ ?_ | refine ⟨Cond.mk (by first | omega | (simp [-List.getD_eq_getElem?_getD]; done) | (simp [-List.getD_eq_getElem?_getD]; omega) | (simp [-List.getD_eq_getElem?_getD]; repeat (first | intro _ | exact And.intro ‹_› ‹_› | apply And.intro | assumption | omega | exact decide_eq_true (by assumption)))), hK _ ?_⟩
      clear K hK
      refine awpL_nil ?_
      refine awpS_ret ?_
      refine RetOK_of ?_
      simp [hG, List.getD_cons_zero, List.getD_cons_succ, -List.getD_eq_getElem?_getD]
    ·
      try simp [-List.getD_eq_getElem?_getD] at hb50
      have hpp := pow_pow hb50.2 hb50.1 (b := (1 + n % 3)) (by omega)
      have hxl : (powX g ((1 + m % 3) * (1 + n % 3))).edges.length ≤ 1000000 := (by rw [pow_ok hb50.1]; have := (pow_facts hb50.1).2.2.2; simp only; omega)
      refine awpS_skip ?_
      refine awpS_seq ?_
      refine awpS_regL ?_
      refine awpL_reg T_ok 2 fun K hK => ?_
      simp [hG, List.getD_cons_zero, List.getD_cons_succ, -List.getD_eq_getElem?_getD]
      first | refine hK _ ?_ | refine ⟨Cond.mk (by first | omega | (simp [-List.getD_eq_getElem?_getD]; done) | (simp [-List.getD_eq_getElem?_getD]; omega) | (simp [-List.getD_eq_getElem?_getD]; repeat (first | intro _ | exact And.intro ‹_› ‹_› | apply And.intro | assumption | omega | exact decide_eq_true (by assumption)))), hK _ ?_⟩
      clear K hK
      refine awpL_call cal12 rfl rfl (fun _ => rfl) (fun hg => power_c (powX g (1 + m % 3)) (1 + n % 3)) (fun hg => ?_) (fun hg => ?_) fun K hK => ?_
      · simp [hG, List.getD_cons_zero, List.getD_cons_succ, -List.getD_eq_getElem?_getD]
      · simp [hG, List.getD_cons_zero, List.getD_cons_succ, -List.getD_eq_getElem?_getD]
      simp [hG, List.getD_cons_zero, List.getD_cons_succ, -List.getD_eq_getElem?_getD]
      refine hK _ ?_
      clear K hK
      refine awpL_reg T_ok 6 fun K hK => ?_
      simp [hG, List.getD_cons_zero, List.getD_cons_succ, -List.getD_eq_getElem?_getD]
      first | refine hK _ ?_ | refine ⟨Cond.mk (by first | omega | (simp [-List.getD_eq_getElem?_getD]; done) | (simp [-List.getD_eq_getElem?_getD]; omega) | (simp [-List.getD_eq_getElem?_getD]; repeat (first | intro _ | exact And.intro ‹_› ‹_› | apply And.intro | assumption | omega | exact decide_eq_true (by assumption)))), hK _ ?_⟩
      clear K hK
      refine awpL_nil ?_
      refine awpS_seq ?_
      refine awpS_regL ?_
      refine awpL_reg T_ok 5 fun K hK => ?_
      simp [hG, List.getD_cons_zero, List.getD_cons_succ, -List.getD_eq_getElem?_getD]
      first | refine hK _ ?_ | refine ⟨Cond.mk (by first | omega | (simp [-List.getD_eq_getElem?_getD]; done) | (simp [-List.getD_eq_getElem?_getD]; omega) | (simp [-List.getD_eq_getElem?_getD]; repeat (first | intro _ | exact And.intro ‹_› ‹_› | apply And.intro | assumption | omega | exact decide_eq_true (by assumption)))), hK _ ?_⟩
      clear K hK
      refine awpL_call cal18 rfl rfl (fun _ => rfl) (fun hg => graphSame_c (powX g ((1 + m % 3) * (1 + n % 3))) (powX (powX g (1 + m % 3)) (1 + n % 3)) hxl) (fun hg => ?_) (fun hg => ?_) fun K hK => ?_
      · first | (simp [hG, List.getD_cons_zero, List.getD_cons_succ, -List.getD_eq_getElem?_getD]; done) | (simp [-List.getD_eq_getElem?_getD] at hg; done) | (simp [-List.getD_eq_getElem?_getD] at hg; simp [hG, List.getD_cons_zero, List.getD_cons_succ, -List.getD_eq_getElem?_getD]; first | omega | exact hg | (simp_all [-List.getD_eq_getElem?_getD]; done) | (simp_all [-List.getD_eq_getElem?_getD]; first | exact ⟨rfl, rfl⟩ | exact rfl))
      · first | (simp [hG, List.getD_cons_zero, List.getD_cons_succ, -List.getD_eq_getElem?_getD]; done) | (simp [-List.getD_eq_getElem?_getD] at hg; done) | (simp [-List.getD_eq_getElem?_getD] at hg; simp [hG, List.getD_cons_zero, List.getD_cons_succ, -List.getD_eq_getElem?_getD]; first | omega | exact hg | (simp_all [-List.getD_eq_getElem?_getD]; done) | (simp_all [-List.getD_eq_getElem?_getD]; first | exact ⟨rfl, rfl⟩ | exact rfl))
      simp [hG, List.getD_cons_zero, List.getD_cons_succ, -List.getD_eq_getElem?_getD]
      refine hK _ ?_
      clear K hK
      refine awpL_reg T_ok 2 fun K hK => ?_
      simp [hG, List.getD_cons_zero, List.getD_cons_succ, -List.getD_eq_getElem?_getD]
      first | refine hK _ ?_ | refine ⟨Cond.mk (by first | omega | (simp [-List.getD_eq_getElem?_getD]; done) | (simp [-List.getD_eq_getElem?_getD]; omega) | (simp [-List.getD_eq_getElem?_getD]; repeat (first | intro _ | exact And.intro ‹_› ‹_› | apply And.intro | assumption | omega | exact decide_eq_true (by assumption)))), hK _ ?_⟩
      clear K hK
      refine awpL_call cal11 rfl rfl (fun _ => rfl) (fun hg => awake_c) (fun hg => ?_) (fun hg => ?_) fun K hK => ?_
      · first | (simp [hG, List.getD_cons_zero, List.getD_cons_succ, -List.getD_eq_getElem?_getD]; done) | (simp [-List.getD_eq_getElem?_getD] at hg; done) | (simp [-List.getD_eq_getElem?_getD] at hg; simp [hG, List.getD_cons_zero, List.getD_cons_succ, -List.getD_eq_getElem?_getD]; first | omega | exact hg | (simp_all [-List.getD_eq_getElem?_getD]; done) | (simp_all [-List.getD_eq_getElem?_getD]; first | exact ⟨rfl, rfl⟩ | exact rfl))
      · first | (simp [hG, List.getD_cons_zero, List.getD_cons_succ, -List.getD_eq_getElem?_getD]; done) | (simp [-List.getD_eq_getElem?_getD] at hg; done) | (simp [-List.getD_eq_getElem?_getD] at hg; simp [hG, List.getD_cons_zero, List.getD_cons_succ, -List.getD_eq_getElem?_getD]; first | omega | exact hg | (simp_all [-List.getD_eq_getElem?_getD]; done) | (simp_all [-List.getD_eq_getElem?_getD]; first | exact ⟨rfl, rfl⟩ | exact rfl))
      simp [hG, List.getD_cons_zero, List.getD_cons_succ, -List.getD_eq_getElem?_getD]
      refine hK _ ?_
      clear K hK
      refine awpL_reg T_ok 2 fun K hK => ?_
      simp [hG, List.getD_cons_zero, List.getD_cons_succ, -List.getD_eq_getElem?_getD]
      first | refine hK _ ?_ | refine ⟨Cond.mk (by first | omega | (simp [-List.getD_eq_getElem?_getD]; done) | (simp [-List.getD_eq_getElem?_getD]; omega) | (simp [-List.getD_eq_getElem?_getD]; repeat (first | intro _ | exact And.intro ‹_› ‹_› | apply And.intro | assumption | omega | exact decide_eq_true (by assumption)))), hK _ ?_⟩
      clear K hK
      refine awpL_nil ?_
      refine awpS_ret ?_
      refine RetOK_of ?_
      simp [hG, List.getD_cons_zero, List.getD_cons_succ, -List.getD_eq_getElem?_getD]
      rw [hpp.2]; exact ⟨hpp.1, sameG_self⟩

end Go.Proofs.Ytddghlnaocjjkaa
