/-
  Walks: the reference's power of a graph.
-/
import Derived.Test.YtddghlnaocjjkaaWJ
import Derived.Test.YtddghlnaocjjkaaPA
namespace Go.Proofs.Ytddghlnaocjjkaa
set_option linter.unusedSimpArgs false
set_option linter.unusedVariables false
open Go Go.Lift Go.Proofs

theorem selfE_zero : selfE 0 = [] := rfl
theorem selfE_len {m : Nat} : (selfE m).length = m := by simp [selfE]
theorem selfE_succ {m : Nat} : selfE (m + 1) = selfE m ++ [⟨m, 0, m⟩] := by simp [selfE, List.range_succ]
theorem rp_zero {g : Gr} : rp g 0 = selfE g.states.toNat := rfl
theorem rp_next {g : Gr} {k : Nat} : onceL (rpAt g (rp g k) (rp g k).length 0) = rp g (k + 1) := by rw [rpAt_all]; rfl
/-- the numbers of an edge of the lists stay small. -/
theorem rp_box {g : Gr} (hv : gcheck g = 0) {k : Nat} (hk : ∀ j, j + 1 ≤ k → (pwL g j).length ≤ 256) {x : Edge} (hx : x ∈ rp g k) : (0 ≤ x.lab ∧ x.lab ≤ 256) ∧ 0 ≤ x.lab * g.labels ∧ x.lab * g.labels ≤ 65536 := by
  have hlb := (gcheck_valid hv).1.lab
  have h1 : 0 ≤ x.lab ∧ x.lab ≤ 256 := by
    cases k with
    | zero =>
      obtain ⟨s, _, rfl⟩ := List.mem_map.1 (show x ∈ (List.range g.states.toNat).map fun (s : Nat) => (⟨s, 0, s⟩ : Edge) from hx)
      simp
    | succ k =>
      obtain ⟨s, l, t, _, h2, _, _, rfl⟩ := eAll_mem.1 ((rp_mem hv).1 hx)
      have := hk k (Nat.le_refl _)
      simp only
      omega
  refine ⟨h1, Int.mul_nonneg h1.1 (by omega), ?_⟩
  have := Int.mul_le_mul h1.2 hlb.2 (by omega) (by omega : (0 : Int) ≤ 256)
  omega
theorem rp_make {g : Gr} (hv : gcheck g = 0) {n : Int} (hn : 1 ≤ n ∧ n ≤ 16) (hu : upTo g.labels n.toNat ≤ 256) (hl : (rp g n.toNat).length ≤ 1024) : powN g n = 0 ∧ mkN (upTo g.labels n.toNat) g.states (rp g n.toNat) = 0 ∧ mkX (upTo g.labels n.toNat) g.states (rp g n.toNat) = powX g n := by
  have hlb := (gcheck_valid hv).1.lab
  have hk : n.toNat = n.toNat - 1 + 1 := by omega
  have hN : powN g n = 0 := by
    unfold powN
    rw [if_neg (by omega), if_neg (by omega), if_neg (by omega), if_neg]
    unfold powE
    rw [hk, (rp_perm hv).length_eq] at hl
    omega
  have hlen := pow_len hlb hn.1
  have hup : upTo g.labels n.toNat = ((pwL g (n.toNat - 1)).length : Int) := by rw [hlen, upTo_low hu]
  have hnm : normE (rp g n.toNat) = powE g n := by rw [hk, rp_norm hv]; rfl
  have hval := pow_valid hN
  rw [pow_ok hN] at hval
  have hM : mkN (upTo g.labels n.toNat) g.states (rp g n.toNat) = 0 := by
    unfold mkN; rw [hnm, hup]; exact hval
  exact ⟨hN, hM, by rw [mk_ok hM, pow_ok hN, hnm, hup]⟩
theorem rp_over {g : Gr} (hv : gcheck g = 0) {n : Int} (hn : 1 ≤ n ∧ n ≤ 16) (hu : upTo g.labels n.toNat ≤ 256) (hl : 1024 < (rp g n.toNat).length) : powN g n = 4 := by
  have hk : n.toNat = n.toNat - 1 + 1 := by omega
  unfold powN
  rw [if_neg (by omega), if_neg (by omega), if_neg (by omega), if_pos]
  unfold powE
  rw [hk, (rp_perm hv).length_eq] at hl
  omega
set_option maxRecDepth 100000 in
theorem makeR_c (labels states : Int) (l : List Edge) (hl : l.length ≤ 1000000) : PC Try.prog 42 [.int .i64 labels, .int .i64 states, edgesC l] (.tup 2 (fun j => [.agg 3 (grF (mkX labels states l)), .int .i64 (mkN labels states l)].getD j .any)) := by
  refine PC_introS T_ok Try.func42 rfl (by simp [Try.ntmps42]) fun G hG hR => ?_
  simp only [Try.ntmps42, Try.results42] at hG ⊢
  simp only [argEnv, Nat.zero_add, Nat.reduceAdd]
  refine awpS_seq ?_
  refine awpS_reg T_ok fun K hK => ?_
  simp [hG, List.getD_cons_zero, List.getD_cons_succ, -List.getD_eq_getElem?_getD]
  first | refine hK _ ?_ | refine ⟨Cond.mk (by first | omega | (simp [-List.getD_eq_getElem?_getD]; done) | (simp [-List.getD_eq_getElem?_getD]; omega) | (simp [-List.getD_eq_getElem?_getD]; repeat (first | intro _ | exact And.intro ‹_› ‹_› | apply And.intro | assumption | omega | exact decide_eq_true (by assumption)))), hK _ ?_⟩
  clear K hK
  refine awpS_seq ?_
  refine awpS_regL ?_
  refine awpL_reg T_ok 3 fun K hK => ?_
  simp [hG, List.getD_cons_zero, List.getD_cons_succ, -List.getD_eq_getElem?_getD]
  first | refine hK _ ?_ | refine ⟨Cond.mk (by first | omega | (simp [-List.getD_eq_getElem?_getD]; done) | (simp [-List.getD_eq_getElem?_getD]; omega) | (simp [-List.getD_eq_getElem?_getD]; repeat (first | intro _ | exact And.intro ‹_› ‹_› | apply And.intro | assumption | omega | exact decide_eq_true (by assumption)))), hK _ ?_⟩
  clear K hK
  refine awpL_call cal67 rfl rfl (fun _ => rfl) (fun hg => sorted_c l hl) (fun hg => ?_) (fun hg => ?_) fun K hK => ?_
  · simp [hG, List.getD_cons_zero, List.getD_cons_succ, -List.getD_eq_getElem?_getD]
  · simp [hG, List.getD_cons_zero, List.getD_cons_succ, -List.getD_eq_getElem?_getD]
  simp [hG, List.getD_cons_zero, List.getD_cons_succ, -List.getD_eq_getElem?_getD]
  refine hK _ ?_
  clear K hK
  refine awpL_reg T_ok 3 fun K hK => ?_
  simp [hG, List.getD_cons_zero, List.getD_cons_succ, -List.getD_eq_getElem?_getD]
  first | refine hK _ ?_ | refine ⟨Cond.mk (by first | omega | (simp [-List.getD_eq_getElem?_getD]; done) | (simp [-List.getD_eq_getElem?_getD]; omega) | (simp [-List.getD_eq_getElem?_getD]; repeat (first | intro _ | exact And.intro ‹_› ‹_› | apply And.intro | assumption | omega | exact decide_eq_true (by assumption)))), hK _ ?_⟩
  clear K hK
  refine awpL_nil ?_
  refine awpS_seq ?_
  refine awpS_seq ?_
  refine awpS_regL ?_
  refine awpL_reg T_ok 1 fun K hK => ?_
  simp [hG, List.getD_cons_zero, List.getD_cons_succ, -List.getD_eq_getElem?_getD]
  first | refine hK _ ?_ | refine ⟨Cond.mk (by first | omega | (simp [-List.getD_eq_getElem?_getD]; done) | (simp [-List.getD_eq_getElem?_getD]; omega) | (simp [-List.getD_eq_getElem?_getD]; repeat (first | intro _ | exact And.intro ‹_› ‹_› | apply And.intro | assumption | omega | exact decide_eq_true (by assumption)))), hK _ ?_⟩
  clear K hK
  refine awpL_call cal17 rfl rfl (fun _ => rfl) (fun hg => check_c ⟨labels, states, normE l⟩) (fun hg => ?_) (fun hg => ?_) fun K hK => ?_
  · simp [hG, List.getD_cons_zero, List.getD_cons_succ, -List.getD_eq_getElem?_getD]
  · simp [hG, List.getD_cons_zero, List.getD_cons_succ, -List.getD_eq_getElem?_getD]
  simp [hG, List.getD_cons_zero, List.getD_cons_succ, -List.getD_eq_getElem?_getD]
  refine hK _ ?_
  clear K hK
  refine awpL_reg T_ok 1 fun K hK => ?_
  simp [hG, List.getD_cons_zero, List.getD_cons_succ, -List.getD_eq_getElem?_getD]
  first | refine hK _ ?_ | refine ⟨Cond.mk (by first | omega | (simp [-List.getD_eq_getElem?_getD]; done) | (simp [-List.getD_eq_getElem?_getD]; omega) | (simp [-List.getD_eq_getElem?_getD]; repeat (first | intro _ | exact And.intro ‹_› ‹_› | apply And.intro | assumption | omega | exact decide_eq_true (by assumption)))), hK _ ?_⟩
  clear K hK
  refine awpL_nil ?_
  refine awpS_seq ?_
  refine awpS_reg T_ok fun K hK => ?_
  simp [hG, List.getD_cons_zero, List.getD_cons_succ, -List.getD_eq_getElem?_getD]
  first | refine hK _ ?_ | refine ⟨Cond.mk (by first | omega | (simp [-List.getD_eq_getElem?_getD]; done) | (simp [-List.getD_eq_getElem?_getD]; omega) | (simp [-List.getD_eq_getElem?_getD]; repeat (first | intro _ | exact And.intro ‹_› ‹_› | apply And.intro | assumption | omega | exact decide_eq_true (by assumption)))), hK _ ?_⟩
  clear K hK
  refine awpS_cond rfl (fun hb18 => ?_) (fun hb18 => ?_)
  ·
    try simp [-List.getD_eq_getElem?_getD] at hb18
    refine awpS_seq ?_
    refine awpS_reg T_ok fun K hK => ?_
    simp [hG, List.getD_cons_zero, List.getD_cons_succ, -List.getD_eq_getElem?_getD]
    first | refine hK _ ?_ | refine ⟨Cond.mk (by first | omega | (simp [-List.getD_eq_getElem?_getD]; done) | (simp [-List.getD_eq_getElem?_getD]; omega) | (simp [-List.getD_eq_getElem?_getD]; repeat (first | intro _ | exact And.intro ‹_› ‹_› | apply And.intro | assumption | omega | exact decide_eq_true (by assumption)))), hK _ ?_⟩
    clear K hK
    refine awpS_ret ?_
    refine RetOK_of ?_
    simp [hG, List.getD_cons_zero, List.getD_cons_succ, -List.getD_eq_getElem?_getD]
    rw [mk_no (m := mkN labels states l) rfl hb18]; simp; exact rfl
  ·
    try simp [-List.getD_eq_getElem?_getD] at hb18
    refine awpS_skip ?_
    refine awpS_seq ?_
    refine awpS_reg T_ok fun K hK => ?_
    simp [hG, List.getD_cons_zero, List.getD_cons_succ, -List.getD_eq_getElem?_getD]
    first | refine hK _ ?_ | refine ⟨Cond.mk (by first | omega | (simp [-List.getD_eq_getElem?_getD]; done) | (simp [-List.getD_eq_getElem?_getD]; omega) | (simp [-List.getD_eq_getElem?_getD]; repeat (first | intro _ | exact And.intro ‹_› ‹_› | apply And.intro | assumption | omega | exact decide_eq_true (by assumption)))), hK _ ?_⟩
    clear K hK
    refine awpS_ret ?_
    refine RetOK_of ?_
    simp [hG, List.getD_cons_zero, List.getD_cons_succ, -List.getD_eq_getElem?_getD]
    rw [mk_ok hb18]; simp; exact hb18.symm

set_option maxRecDepth 100000 in
theorem powerR_c (g : Gr) (n : Int) (hsz : gcheck g = 0 → g.states ≤ 10 ∧ g.edges.length ≤ 30) : PC Try.prog 13 [.agg 3 (grF g), .int .i64 n] (.tup 2 (fun j => [.agg 3 (grF (powX g n)), .int .i64 (powN g n)].getD j .any)) := by
  refine PC_introS T_ok Try.func13 rfl (by simp [Try.ntmps13]) fun G hG hR => ?_
  simp only [Try.ntmps13, Try.results13] at hG ⊢
  simp only [argEnv, Nat.zero_add, Nat.reduceAdd]
  refine awpS_seq ?_
  refine awpS_reg T_ok fun K hK => ?_
  simp [hG, List.getD_cons_zero, List.getD_cons_succ, -List.getD_eq_getElem?_getD, selfE_zero, rpAt_zero]
  first | refine hK _ ?_ | refine ⟨Cond.mk (by first | omega | (simp [-List.getD_eq_getElem?_getD]; done) | (simp [-List.getD_eq_getElem?_getD]; omega) | (simp [-List.getD_eq_getElem?_getD]; repeat (first | intro _ | exact And.intro ‹_› ‹_› | apply And.intro | assumption | omega | exact decide_eq_true (by assumption)))), hK _ ?_⟩
  clear K hK
  refine awpS_seq ?_
  refine awpS_seq ?_
  refine awpS_regL ?_
  refine awpL_reg T_ok 1 fun K hK => ?_
  simp [hG, List.getD_cons_zero, List.getD_cons_succ, -List.getD_eq_getElem?_getD, selfE_zero, rpAt_zero]
  first | refine hK _ ?_ | refine ⟨Cond.mk (by first | omega | (simp [-List.getD_eq_getElem?_getD]; done) | (simp [-List.getD_eq_getElem?_getD]; omega) | (simp [-List.getD_eq_getElem?_getD]; repeat (first | intro _ | exact And.intro ‹_› ‹_› | apply And.intro | assumption | omega | exact decide_eq_true (by assumption)))), hK _ ?_⟩
  clear K hK
  refine awpL_call cal17 rfl rfl (fun _ => rfl) (fun hg => check_c g) (fun hg => ?_) (fun hg => ?_) fun K hK => ?_
  · simp [hG, List.getD_cons_zero, List.getD_cons_succ, -List.getD_eq_getElem?_getD, selfE_zero, rpAt_zero]
  · simp [hG, List.getD_cons_zero, List.getD_cons_succ, -List.getD_eq_getElem?_getD, selfE_zero, rpAt_zero]
  simp [hG, List.getD_cons_zero, List.getD_cons_succ, -List.getD_eq_getElem?_getD, selfE_zero, rpAt_zero]
  refine hK _ ?_
  clear K hK
  refine awpL_reg T_ok 1 fun K hK => ?_
  simp [hG, List.getD_cons_zero, List.getD_cons_succ, -List.getD_eq_getElem?_getD, selfE_zero, rpAt_zero]
  first | refine hK _ ?_ | refine ⟨Cond.mk (by first | omega | (simp [-List.getD_eq_getElem?_getD]; done) | (simp [-List.getD_eq_getElem?_getD]; omega) | (simp [-List.getD_eq_getElem?_getD]; repeat (first | intro _ | exact And.intro ‹_› ‹_› | apply And.intro | assumption | omega | exact decide_eq_true (by assumption)))), hK _ ?_⟩
  clear K hK
  refine awpL_nil ?_
  refine awpS_cond rfl (fun hb15 => ?_) (fun hb15 => ?_)
  ·
    try simp [-List.getD_eq_getElem?_getD] at hb15
    refine awpS_seq ?_
    refine awpS_reg T_ok fun K hK => ?_
    simp [hG, List.getD_cons_zero, List.getD_cons_succ, -List.getD_eq_getElem?_getD, selfE_zero, rpAt_zero]
    first | refine hK _ ?_ | refine ⟨Cond.mk (by first | omega | (simp [-List.getD_eq_getElem?_getD]; done) | (simp [-List.getD_eq_getElem?_getD]; omega) | (simp [-List.getD_eq_getElem?_getD]; repeat (first | intro _ | exact And.intro ‹_› ‹_› | apply And.intro | assumption | omega | exact decide_eq_true (by assumption)))), hK _ ?_⟩
    clear K hK
    refine awpS_ret ?_
    refine RetOK_of ?_
    simp [hG, List.getD_cons_zero, List.getD_cons_succ, -List.getD_eq_getElem?_getD, selfE_zero, rpAt_zero]
    have hN : powN g n = 1 := (by unfold powN; rw [if_pos hb15]); rw [pow_no hN (by omega), hN]; simp
  ·
    try simp [-List.getD_eq_getElem?_getD] at hb15
    have hv : gcheck g = 0 := (by simpa using hb15)
    have hz := (gcheck_valid hv).1
    have hlb := hz.lab
    have hst := hz.st
    obtain ⟨hs10, he30⟩ := hsz hv
    refine awpS_skip ?_
    refine awpS_seq ?_
    refine awpS_seq ?_
    refine awpS_reg T_ok fun K hK => ?_
    simp [hG, List.getD_cons_zero, List.getD_cons_succ, -List.getD_eq_getElem?_getD, selfE_zero, rpAt_zero]
    first | refine hK _ ?_ | refine ⟨Cond.mk (by first | omega | (simp [-List.getD_eq_getElem?_getD]; done) | (simp [-List.getD_eq_getElem?_getD]; omega) | (simp [-List.getD_eq_getElem?_getD]; repeat (first | intro _ | exact And.intro ‹_› ‹_› | apply And.intro | assumption | omega | exact decide_eq_true (by assumption)))), hK _ ?_⟩
    clear K hK
    refine awpS_cond rfl (fun hb22 => ?_) (fun hb22 => ?_)
    ·
      try simp [-List.getD_eq_getElem?_getD] at hb22
      refine awpS_seq ?_
      refine awpS_reg T_ok fun K hK => ?_
      simp [hG, List.getD_cons_zero, List.getD_cons_succ, -List.getD_eq_getElem?_getD, selfE_zero, rpAt_zero]
      first | refine hK _ ?_ | refine ⟨Cond.mk (by first | omega | (simp [-List.getD_eq_getElem?_getD]; done) | (simp [-List.getD_eq_getElem?_getD]; omega) | (simp [-List.getD_eq_getElem?_getD]; repeat (first | intro _ | exact And.intro ‹_› ‹_› | apply And.intro | assumption | omega | exact decide_eq_true (by assumption)))), hK _ ?_⟩
      clear K hK
      refine awpS_ret ?_
      refine RetOK_of ?_
      simp [hG, List.getD_cons_zero, List.getD_cons_succ, -List.getD_eq_getElem?_getD, selfE_zero, rpAt_zero]
      have hN : powN g n = 2 := (by unfold powN; rw [if_neg (by omega), if_pos (by omega)]); rw [pow_no hN (by omega), hN]; simp
    ·
      try simp [-List.getD_eq_getElem?_getD] at hb22
      refine awpS_skip ?_
      refine awpS_seq ?_
      refine awpS_seq ?_
      refine awpS_regL ?_
      refine awpL_reg T_ok 3 fun K hK => ?_
      simp [hG, List.getD_cons_zero, List.getD_cons_succ, -List.getD_eq_getElem?_getD, selfE_zero, rpAt_zero]
      first | refine hK _ ?_ | refine ⟨Cond.mk (by first | omega | (simp [-List.getD_eq_getElem?_getD]; done) | (simp [-List.getD_eq_getElem?_getD]; omega) | (simp [-List.getD_eq_getElem?_getD]; repeat (first | intro _ | exact And.intro ‹_› ‹_› | apply And.intro | assumption | omega | exact decide_eq_true (by assumption)))), hK _ ?_⟩
      clear K hK
      refine awpL_call cal40 rfl rfl (fun _ => rfl) (fun hg => raiseR_c g.labels n hlb (by omega)) (fun hg => ?_) (fun hg => ?_) fun K hK => ?_
      · simp [hG, List.getD_cons_zero, List.getD_cons_succ, -List.getD_eq_getElem?_getD, selfE_zero, rpAt_zero]
      · simp [hG, List.getD_cons_zero, List.getD_cons_succ, -List.getD_eq_getElem?_getD, selfE_zero, rpAt_zero]
      simp [hG, List.getD_cons_zero, List.getD_cons_succ, -List.getD_eq_getElem?_getD, selfE_zero, rpAt_zero]
      refine hK _ ?_
      clear K hK
      refine awpL_reg T_ok 1 fun K hK => ?_
      simp [hG, List.getD_cons_zero, List.getD_cons_succ, -List.getD_eq_getElem?_getD, selfE_zero, rpAt_zero]
      first | refine hK _ ?_ | refine ⟨Cond.mk (by first | omega | (simp [-List.getD_eq_getElem?_getD]; done) | (simp [-List.getD_eq_getElem?_getD]; omega) | (simp [-List.getD_eq_getElem?_getD]; repeat (first | intro _ | exact And.intro ‹_› ‹_› | apply And.intro | assumption | omega | exact decide_eq_true (by assumption)))), hK _ ?_⟩
      clear K hK
      refine awpL_nil ?_
      refine awpS_cond rfl (fun hb28 => ?_) (fun hb28 => ?_)
      ·
        try simp [-List.getD_eq_getElem?_getD] at hb28
        refine awpS_seq ?_
        refine awpS_reg T_ok fun K hK => ?_
        simp [hG, List.getD_cons_zero, List.getD_cons_succ, -List.getD_eq_getElem?_getD, selfE_zero, rpAt_zero]
        first | refine hK _ ?_ | refine ⟨Cond.mk (by first | omega | (simp [-List.getD_eq_getElem?_getD]; done) | (simp [-List.getD_eq_getElem?_getD]; omega) | (simp [-List.getD_eq_getElem?_getD]; repeat (first | intro _ | exact And.intro ‹_› ‹_› | apply And.intro | assumption | omega | exact decide_eq_true (by assumption)))), hK _ ?_⟩
        clear K hK
        refine awpS_ret ?_
        refine RetOK_of ?_
        simp [hG, List.getD_cons_zero, List.getD_cons_succ, -List.getD_eq_getElem?_getD, selfE_zero, rpAt_zero]
        have hN : powN g n = 4 := (by unfold powN; rw [if_neg (by omega), if_neg (by omega), if_pos (by by_cases h : 256 < upTo g.labels n.toNat; exact h; rw [if_neg h] at hb28; omega)]); rw [pow_no hN (by omega), hN]; simp
      ·
        try simp [-List.getD_eq_getElem?_getD] at hb28
        have hu : upTo g.labels n.toNat ≤ 256 := (by by_cases h : 256 < upTo g.labels n.toNat; (rw [if_pos h] at hb28; omega); omega)
        have hpw := pw_box hlb (n := n.toNat) hu
        refine awpS_skip ?_
        refine awpS_seq ?_
        refine awpS_reg T_ok fun K hK => ?_
        simp [hG, List.getD_cons_zero, List.getD_cons_succ, -List.getD_eq_getElem?_getD, selfE_zero, rpAt_zero]
        first | refine hK _ ?_ | refine ⟨Cond.mk (by first | omega | (simp [-List.getD_eq_getElem?_getD]; done) | (simp [-List.getD_eq_getElem?_getD]; omega) | (simp [-List.getD_eq_getElem?_getD]; repeat (first | intro _ | exact And.intro ‹_› ‹_› | apply And.intro | assumption | omega | exact decide_eq_true (by assumption)))), hK _ ?_⟩
        clear K hK
        refine awpS_seq ?_
        refine awpS_seq ?_
        refine awpS_reg T_ok fun K hK => ?_
        simp [hG, List.getD_cons_zero, List.getD_cons_succ, -List.getD_eq_getElem?_getD, selfE_zero, rpAt_zero]
        first | refine hK _ ?_ | refine ⟨Cond.mk (by first | omega | (simp [-List.getD_eq_getElem?_getD]; done) | (simp [-List.getD_eq_getElem?_getD]; omega) | (simp [-List.getD_eq_getElem?_getD]; repeat (first | intro _ | exact And.intro ‹_› ‹_› | apply And.intro | assumption | omega | exact decide_eq_true (by assumption)))), hK _ ?_⟩
        clear K hK
        refine awpS_block ?_
        refine awpS_loop (α := Nat) (fun s => ⟨[(1, .int .i64 n), (2, .ptr (0, 0) 0 0), (4, .ptr (1, 0) 0 0), (6, .sl (2, 0) 0 (selfE s).length), (7, .int .i64 s)], [(0, .one (.arr 1 3 (fun _ => grF g))), (1, .one (.arr 1 3 (fun _ j => [.int .i64 0, .int .i64 0, .nils].getD j .any))), (2, .one (.arr (selfE s).length 3 (fun q j => edgeF ((selfE s).getD q de) j)))], 3⟩) (fun s => s ≤ g.states.toNat) (fun s => g.states.toNat - s) (0) (Nat.zero_le _) ?_ ?_
        ·
          refine wk_of (id) (fun _ => false) (fun _ => false) ?_ ?_ rfl (Nat.zero_le _) (fun k hk => absurd hk (Nat.not_lt_zero _))
          · simp [hG, List.getD_cons_zero, List.getD_cons_succ, -List.getD_eq_getElem?_getD, selfE_zero, rpAt_zero]
          · simp [hG, List.getD_cons_zero, List.getD_cons_succ, -List.getD_eq_getElem?_getD, selfE_zero, rpAt_zero]
        ·
          rintro s hs
          have hsl := selfE_len (m := s)
          refine awpS_seq ?_
          refine awpS_seq ?_
          refine awpS_reg T_ok fun K hK => ?_
          simp [hG, List.getD_cons_zero, List.getD_cons_succ, -List.getD_eq_getElem?_getD, selfE_zero, rpAt_zero]
          first | refine hK _ ?_ | refine ⟨Cond.mk (by first | omega | (simp [-List.getD_eq_getElem?_getD]; done) | (simp [-List.getD_eq_getElem?_getD]; omega) | (simp [-List.getD_eq_getElem?_getD]; repeat (first | intro _ | exact And.intro ‹_› ‹_› | apply And.intro | assumption | omega | exact decide_eq_true (by assumption)))), hK _ ?_⟩
          clear K hK
          refine awpS_cond rfl (fun hb34 => ?_) (fun hb34 => ?_)
          ·
            try simp [-List.getD_eq_getElem?_getD] at hb34
            refine awpS_skip ?_
            refine awpS_seq ?_
            refine awpS_block ?_
            refine awpS_reg T_ok fun K hK => ?_
            simp [hG, List.getD_cons_zero, List.getD_cons_succ, -List.getD_eq_getElem?_getD, selfE_zero, rpAt_zero]
            first | refine hK _ ?_ | refine ⟨Cond.mk (by first | omega | (simp [-List.getD_eq_getElem?_getD]; done) | (simp [-List.getD_eq_getElem?_getD]; omega) | (simp [-List.getD_eq_getElem?_getD]; repeat (first | intro _ | exact And.intro ‹_› ‹_› | apply And.intro | assumption | omega | exact decide_eq_true (by assumption)))), hK _ ?_⟩
            clear K hK
            refine awpS_nil ?_
            refine blockQ_norm (thenQ_norm ?_)
            refine awpS_reg T_ok fun K hK => ?_
            simp [hG, List.getD_cons_zero, List.getD_cons_succ, -List.getD_eq_getElem?_getD, selfE_zero, rpAt_zero]
            first | refine hK _ ?_ | refine ⟨Cond.mk (by first | omega | (simp [-List.getD_eq_getElem?_getD]; done) | (simp [-List.getD_eq_getElem?_getD]; omega) | (simp [-List.getD_eq_getElem?_getD]; repeat (first | intro _ | exact And.intro ‹_› ‹_› | apply And.intro | assumption | omega | exact decide_eq_true (by assumption)))), hK _ ?_⟩
            clear K hK
            refine awpS_nil ?_
            refine round_end (s + 1) (by omega) (by omega) ?_
            refine wk_of (fun k => if k = 2 then 4 else k) (fun _ => false) (fun _ => false) ?_ ?_ rfl (Nat.zero_le _) (fun k hk => absurd hk (Nat.not_lt_zero _))
            · rw [selfE_succ]; simp [hG, List.getD_cons_zero, List.getD_cons_succ, -List.getD_eq_getElem?_getD]
            · rw [selfE_succ]; simp [hG, List.getD_cons_zero, List.getD_cons_succ, -List.getD_eq_getElem?_getD]; exact fun q hq => app_edge3 (by simpa using hq) (fun j hj => by rcases lt3 hj with rfl | rfl | rfl <;> simp)
          ·
            try simp [-List.getD_eq_getElem?_getD] at hb34
            refine awpS_exit ?_
            refine thenQ_exit (thenQ_exit ?_)
            refine blockQ_exit (thenQ_norm ?_)
            refine awpS_seq ?_
            refine awpS_seq ?_
            refine awpS_reg T_ok fun K hK => ?_
            simp [hG, List.getD_cons_zero, List.getD_cons_succ, -List.getD_eq_getElem?_getD, selfE_zero, rpAt_zero]
            first | refine hK _ ?_ | refine ⟨Cond.mk (by first | omega | (simp [-List.getD_eq_getElem?_getD]; done) | (simp [-List.getD_eq_getElem?_getD]; omega) | (simp [-List.getD_eq_getElem?_getD]; repeat (first | intro _ | exact And.intro ‹_› ‹_› | apply And.intro | assumption | omega | exact decide_eq_true (by assumption)))), hK _ ?_⟩
            clear K hK
            refine awpS_block ?_
            refine awpS_loop (α := Nat) (fun k => ⟨[(1, .int .i64 n), (2, .ptr (0, 0) 0 0), (4, .ptr (1, 0) 0 0), (6, edgesC (rp g k)), (8, .int .i64 k)], [(0, .one (.arr 1 3 (fun _ => grF g))), (1, .one (.arr 1 3 (fun _ j => [.int .i64 0, .int .i64 0, .nils].getD j .any)))], 2⟩) (fun k => k ≤ n.toNat) (fun k => n.toNat - k) (0) (Nat.zero_le _) ?_ ?_
            ·
              refine wk_of (id) (fun k => k == 2) (fun _ => false) ?_ ?_ rfl (Nat.zero_le _) (fun k hk => absurd hk (Nat.not_lt_zero _))
              · obtain rfl : s = g.states.toNat := (by omega); simp [hG, List.getD_cons_zero, List.getD_cons_succ, -List.getD_eq_getElem?_getD]; exact ⟨rfl, Nat.le_refl _, fun q hq => ⟨rfl, rfl, rfl⟩⟩
              · simp [hG, List.getD_cons_zero, List.getD_cons_succ, -List.getD_eq_getElem?_getD, selfE_zero, rpAt_zero]
            ·
              rintro k hk
              refine awpS_seq ?_
              refine awpS_seq ?_
              refine awpS_reg T_ok fun K hK => ?_
              simp [hG, List.getD_cons_zero, List.getD_cons_succ, -List.getD_eq_getElem?_getD, selfE_zero, rpAt_zero]
              first | refine hK _ ?_ | refine ⟨Cond.mk (by first | omega | (simp [-List.getD_eq_getElem?_getD]; done) | (simp [-List.getD_eq_getElem?_getD]; omega) | (simp [-List.getD_eq_getElem?_getD]; repeat (first | intro _ | exact And.intro ‹_› ‹_› | apply And.intro | assumption | omega | exact decide_eq_true (by assumption)))), hK _ ?_⟩
              clear K hK
              refine awpS_cond rfl (fun hb45 => ?_) (fun hb45 => ?_)
              ·
                try simp [-List.getD_eq_getElem?_getD] at hb45
                have hkl := rp_len hv hs10 (k := k) (fun j hj => by have := hpw j (by omega); omega)
                refine awpS_skip ?_
                refine awpS_seq ?_
                refine awpS_block ?_
                refine awpS_seq ?_
                refine awpS_reg T_ok fun K hK => ?_
                simp [hG, List.getD_cons_zero, List.getD_cons_succ, -List.getD_eq_getElem?_getD, selfE_zero, rpAt_zero]
                first | refine hK _ ?_ | refine ⟨Cond.mk (by first | omega | (simp [-List.getD_eq_getElem?_getD]; done) | (simp [-List.getD_eq_getElem?_getD]; omega) | (simp [-List.getD_eq_getElem?_getD]; repeat (first | intro _ | exact And.intro ‹_› ‹_› | apply And.intro | assumption | omega | exact decide_eq_true (by assumption)))), hK _ ?_⟩
                clear K hK
                refine awpS_seq ?_
                refine awpS_seq ?_
                refine awpS_reg T_ok fun K hK => ?_
                simp [hG, List.getD_cons_zero, List.getD_cons_succ, -List.getD_eq_getElem?_getD, selfE_zero, rpAt_zero]
                first | refine hK _ ?_ | refine ⟨Cond.mk (by first | omega | (simp [-List.getD_eq_getElem?_getD]; done) | (simp [-List.getD_eq_getElem?_getD]; omega) | (simp [-List.getD_eq_getElem?_getD]; repeat (first | intro _ | exact And.intro ‹_› ‹_› | apply And.intro | assumption | omega | exact decide_eq_true (by assumption)))), hK _ ?_⟩
                clear K hK
                refine awpS_block ?_
                refine awpS_loop (α := Nat) (fun i => ⟨[(1, .int .i64 n), (2, .ptr (0, 0) 0 0), (4, .ptr (1, 0) 0 0), (6, edgesC (rp g k)), (8, .int .i64 k), (9, .sl (2, 0) 0 (rpAt g (rp g k) i 0).length), (10, .int .i64 i)], [(0, .one (.arr 1 3 (fun _ => grF g))), (1, .one (.arr 1 3 (fun _ j => [.int .i64 0, .int .i64 0, .nils].getD j .any))), (2, .one (.arr (rpAt g (rp g k) i 0).length 3 (fun q j => edgeF ((rpAt g (rp g k) i 0).getD q de) j)))], 3⟩) (fun i => i ≤ (rp g k).length) (fun i => (rp g k).length - i) (0) (Nat.zero_le _) ?_ ?_
                ·
                  refine wk_of (id) (fun _ => false) (fun _ => false) ?_ ?_ rfl (Nat.zero_le _) (fun k hk => absurd hk (Nat.not_lt_zero _))
                  · simp [hG, List.getD_cons_zero, List.getD_cons_succ, -List.getD_eq_getElem?_getD, selfE_zero, rpAt_zero]
                  · simp [hG, List.getD_cons_zero, List.getD_cons_succ, -List.getD_eq_getElem?_getD, selfE_zero, rpAt_zero]
                ·
                  rintro i hi
                  refine awpS_seq ?_
                  refine awpS_seq ?_
                  refine awpS_reg T_ok fun K hK => ?_
                  simp [hG, List.getD_cons_zero, List.getD_cons_succ, -List.getD_eq_getElem?_getD, selfE_zero, rpAt_zero]
                  first | refine hK _ ?_ | refine ⟨Cond.mk (by first | omega | (simp [-List.getD_eq_getElem?_getD]; done) | (simp [-List.getD_eq_getElem?_getD]; omega) | (simp [-List.getD_eq_getElem?_getD]; repeat (first | intro _ | exact And.intro ‹_› ‹_› | apply And.intro | assumption | omega | exact decide_eq_true (by assumption)))), hK _ ?_⟩
                  clear K hK
                  refine awpS_cond rfl (fun hb52 => ?_) (fun hb52 => ?_)
                  ·
                    try simp [-List.getD_eq_getElem?_getD] at hb52
                    have hbx := rp_box hv (k := k) (fun j hj => by have := hpw j (by omega); omega) (getD_mem (d := de) (show i < (rp g k).length by omega))
                    refine awpS_skip ?_
                    refine awpS_seq ?_
                    refine awpS_block ?_
                    refine awpS_seq ?_
                    refine awpS_reg T_ok fun K hK => ?_
                    simp [hG, List.getD_cons_zero, List.getD_cons_succ, -List.getD_eq_getElem?_getD, selfE_zero, rpAt_zero]
                    first | refine hK _ ?_ | refine ⟨Cond.mk (by first | omega | (simp [-List.getD_eq_getElem?_getD]; done) | (simp [-List.getD_eq_getElem?_getD]; omega) | (simp [-List.getD_eq_getElem?_getD]; repeat (first | intro _ | exact And.intro ‹_› ‹_› | apply And.intro | assumption | omega | exact decide_eq_true (by assumption)))), hK _ ?_⟩
                    clear K hK
                    refine awpS_block ?_
                    refine awpS_loop (α := Nat) (fun m => ⟨[(1, .int .i64 n), (2, .ptr (0, 0) 0 0), (4, .ptr (1, 0) 0 0), (6, edgesC (rp g k)), (8, .int .i64 k), (9, .sl (2, 0) 0 (rpAt g (rp g k) i m).length), (10, .int .i64 i), (11, .int .i64 m)], [(0, .one (.arr 1 3 (fun _ => grF g))), (1, .one (.arr 1 3 (fun _ j => [.int .i64 0, .int .i64 0, .nils].getD j .any))), (2, .one (.arr (rpAt g (rp g k) i m).length 3 (fun q j => edgeF ((rpAt g (rp g k) i m).getD q de) j)))], 3⟩) (fun m => m ≤ g.edges.length) (fun m => g.edges.length - m) (0) (Nat.zero_le _) ?_ ?_
                    ·
                      refine wk_of (id) (fun _ => false) (fun _ => false) ?_ ?_ rfl (Nat.zero_le _) (fun k hk => absurd hk (Nat.not_lt_zero _))
                      · simp [hG, List.getD_cons_zero, List.getD_cons_succ, -List.getD_eq_getElem?_getD, selfE_zero, rpAt_zero]
                      · simp [hG, List.getD_cons_zero, List.getD_cons_succ, -List.getD_eq_getElem?_getD, selfE_zero, rpAt_zero]
                    ·
                      rintro m hm
                      refine awpS_seq ?_
                      refine awpS_seq ?_
                      refine awpS_reg T_ok fun K hK => ?_
                      simp [hG, List.getD_cons_zero, List.getD_cons_succ, -List.getD_eq_getElem?_getD, selfE_zero, rpAt_zero]
                      first | refine hK _ ?_ | refine ⟨Cond.mk (by first | omega | (simp [-List.getD_eq_getElem?_getD]; done) | (simp [-List.getD_eq_getElem?_getD]; omega) | (simp [-List.getD_eq_getElem?_getD]; repeat (first | intro _ | exact And.intro ‹_› ‹_› | apply And.intro | assumption | omega | exact decide_eq_true (by assumption)))), hK _ ?_⟩
                      clear K hK
                      refine awpS_cond rfl (fun hb59 => ?_) (fun hb59 => ?_)
                      ·
                        try simp [-List.getD_eq_getElem?_getD] at hb59
                        have hml := rpAt_len (g := g) (l := rp g k) (i := i) (m := m) he30 hkl (by omega) (by omega)
                        have heb := edge_box hv (k := m) (by omega)
                        refine awpS_skip ?_
                        refine awpS_seq ?_
                        refine awpS_block ?_
                        refine awpS_seq ?_
                        refine awpS_reg T_ok fun K hK => ?_
                        simp [hG, List.getD_cons_zero, List.getD_cons_succ, -List.getD_eq_getElem?_getD, selfE_zero, rpAt_zero]
                        first | refine hK _ ?_ | refine ⟨Cond.mk (by first | omega | (simp [-List.getD_eq_getElem?_getD]; done) | (simp [-List.getD_eq_getElem?_getD]; omega) | (simp [-List.getD_eq_getElem?_getD]; repeat (first | intro _ | exact And.intro ‹_› ‹_› | apply And.intro | assumption | omega | exact decide_eq_true (by assumption)))), hK _ ?_⟩
                        clear K hK
                        refine awpS_seq ?_
                        refine awpS_draw hR mixed [] ⟨[], [], []⟩ fun mu0 => ?_
                        refine awpA_tk T_ok [0, 1, 2, 3, 4, 5, 6, 7] [] (fuel := 0) [7, 6, 5, 4, 3, 2, 1, 0] (by decide +kernel) (by decide +kernel) rfl rfl fun K hK => ?_
                        simp [hG, List.getD_cons_zero, List.getD_cons_succ, -List.getD_eq_getElem?_getD, selfE_zero, rpAt_zero]
                        first | refine hK _ ?_ | refine ⟨Cond.mk (by first | omega | (simp [-List.getD_eq_getElem?_getD]; done) | (simp [-List.getD_eq_getElem?_getD]; omega) | (simp [-List.getD_eq_getElem?_getD]; repeat (first | intro _ | exact And.intro ‹_› ‹_› | apply And.intro | assumption | omega | exact decide_eq_true (by assumption)))), hK _ ?_⟩
                        clear K hK
                        refine awpA_done (by decide +kernel) ?_
                        refine awpS_cond rfl (fun hb74 => ?_) (fun hb74 => ?_)
                        ·
                          try simp [-List.getD_eq_getElem?_getD] at hb74
                          refine awpS_draw hR mixed [(21, (2, 0))] ⟨[], [], []⟩ fun mu0 => ?_
                          refine awpA_tk T_ok [0] [] (fuel := 22) [0] (by decide +kernel) (by decide +kernel) rfl rfl fun K hK => ?_
                          simp [hG, List.getD_cons_zero, List.getD_cons_succ, -List.getD_eq_getElem?_getD, selfE_zero, rpAt_zero]
                          first | refine hK _ ?_ | refine ⟨Cond.mk (by first | omega | (simp [-List.getD_eq_getElem?_getD]; done) | (simp [-List.getD_eq_getElem?_getD]; omega) | (simp [-List.getD_eq_getElem?_getD]; repeat (first | intro _ | exact And.intro ‹_› ‹_› | apply And.intro | assumption | omega | exact decide_eq_true (by assumption)))), hK _ ?_⟩
                          clear K hK
                          refine awpA_tk T_ok [1, 2, 3, 4, 5, 6, 7, 8, 9, 10, 11, 12, 13, 14, 15, 16, 17, 18, 19] [(2, 0)] (fuel := 3) [19, 18, 17, 16, 15, 14, 13, 12, 11, 10, 9, 8, 7, 6, 5, 4, 3, 2, 1, 0] (by decide +kernel) (by decide +kernel) rfl rfl fun K hK => ?_
                          simp [hG, List.getD_cons_zero, List.getD_cons_succ, -List.getD_eq_getElem?_getD, selfE_zero, rpAt_zero]
                          first | refine hK _ ?_ | refine ⟨Cond.mk (by first | omega | (simp [-List.getD_eq_getElem?_getD]; done) | (simp [-List.getD_eq_getElem?_getD]; omega) | (simp [-List.getD_eq_getElem?_getD]; repeat (first | intro _ | exact And.intro ‹_› ‹_› | apply And.intro | assumption | omega | exact decide_eq_true (by assumption)))), hK _ ?_⟩
                          clear K hK
                          refine awpA_only (fuel := 2) (i := 20) (by decide +kernel) ?_
                          refine awpO_reg T_ok rfl ?_ fun K hK => ?_
                          · simp [hG, List.getD_cons_zero, List.getD_cons_succ, -List.getD_eq_getElem?_getD, selfE_zero, rpAt_zero]
                          simp [hG, List.getD_cons_zero, List.getD_cons_succ, -List.getD_eq_getElem?_getD, selfE_zero, rpAt_zero]
                          first | refine hK _ ?_ | refine ⟨Cond.mk (by first | omega | (simp [-List.getD_eq_getElem?_getD]; done) | (simp [-List.getD_eq_getElem?_getD]; omega) | (simp [-List.getD_eq_getElem?_getD]; repeat (first | intro _ | exact And.intro ‹_› ‹_› | apply And.intro | assumption | omega | exact decide_eq_true (by assumption)))), hK _ ?_⟩
                          clear K hK
                          refine awpA_only (fuel := 1) (i := 21) (by decide +kernel) ?_
                          refine awpO_reg T_ok rfl ?_ fun K hK => ?_
                          · simp [hG, List.getD_cons_zero, List.getD_cons_succ, -List.getD_eq_getElem?_getD, selfE_zero, rpAt_zero]
                          simp [hG, List.getD_cons_zero, List.getD_cons_succ, -List.getD_eq_getElem?_getD, selfE_zero, rpAt_zero]
                          first | refine hK _ ?_ | refine ⟨Cond.mk (by first | omega | (simp [-List.getD_eq_getElem?_getD]; done) | (simp [-List.getD_eq_getElem?_getD]; omega) | (simp [-List.getD_eq_getElem?_getD]; repeat (first | intro _ | exact And.intro ‹_› ‹_› | apply And.intro | assumption | omega | exact decide_eq_true (by assumption)))), hK _ ?_⟩
                          clear K hK
                          refine awpA_tk T_ok [22] [] (fuel := 0) [22, 21, 20, 19, 18, 17, 16, 15, 14, 13, 12, 11, 10, 9, 8, 7, 6, 5, 4, 3, 2, 1, 0] (by decide +kernel) (by decide +kernel) rfl rfl fun K hK => ?_
                          simp [hG, List.getD_cons_zero, List.getD_cons_succ, -List.getD_eq_getElem?_getD, selfE_zero, rpAt_zero]
                          first | refine hK _ ?_ | refine ⟨Cond.mk (by first | omega | (simp [-List.getD_eq_getElem?_getD]; done) | (simp [-List.getD_eq_getElem?_getD]; omega) | (simp [-List.getD_eq_getElem?_getD]; repeat (first | intro _ | exact And.intro ‹_› ‹_› | apply And.intro | assumption | omega | exact decide_eq_true (by assumption)))), hK _ ?_⟩
                          clear K hK
                          refine awpA_done (by decide +kernel) ?_
                          refine awpS_nil ?_
                          refine blockQ_norm (thenQ_norm ?_)
                          refine awpS_reg T_ok fun K hK => ?_
                          simp [hG, List.getD_cons_zero, List.getD_cons_succ, -List.getD_eq_getElem?_getD, selfE_zero, rpAt_zero]
                          first | refine hK _ ?_ | refine ⟨Cond.mk (by first | omega | (simp [-List.getD_eq_getElem?_getD]; done) | (simp [-List.getD_eq_getElem?_getD]; omega) | (simp [-List.getD_eq_getElem?_getD]; repeat (first | intro _ | exact And.intro ‹_› ‹_› | apply And.intro | assumption | omega | exact decide_eq_true (by assumption)))), hK _ ?_⟩
                          clear K hK
                          refine awpS_nil ?_
                          refine round_end (m + 1) (by omega) (by omega) ?_
                          refine wk_of (fun k => if k = 2 then 5 else k) (fun _ => false) (fun _ => false) ?_ ?_ rfl (Nat.zero_le _) (fun k hk => absurd hk (Nat.not_lt_zero _))
                          · rw [rpAt_succ, if_pos hb74]; simp [hG, List.getD_cons_zero, List.getD_cons_succ, -List.getD_eq_getElem?_getD]
                          · rw [rpAt_succ, if_pos hb74]; simp [hG, List.getD_cons_zero, List.getD_cons_succ, -List.getD_eq_getElem?_getD]; exact fun q hq => app_edge3 (by simpa using hq) (fun j hj => by rcases lt3 hj with rfl | rfl | rfl <;> simp)
                        ·
                          try simp [-List.getD_eq_getElem?_getD] at hb74
                          refine awpS_skip ?_
                          refine awpS_nil ?_
                          refine blockQ_norm (thenQ_norm ?_)
                          refine awpS_reg T_ok fun K hK => ?_
                          simp [hG, List.getD_cons_zero, List.getD_cons_succ, -List.getD_eq_getElem?_getD, selfE_zero, rpAt_zero]
                          first | refine hK _ ?_ | refine ⟨Cond.mk (by first | omega | (simp [-List.getD_eq_getElem?_getD]; done) | (simp [-List.getD_eq_getElem?_getD]; omega) | (simp [-List.getD_eq_getElem?_getD]; repeat (first | intro _ | exact And.intro ‹_› ‹_› | apply And.intro | assumption | omega | exact decide_eq_true (by assumption)))), hK _ ?_⟩
                          clear K hK
                          refine awpS_nil ?_
                          refine round_end (m + 1) (by omega) (by omega) ?_
                          refine wk_of (id) (fun _ => false) (fun _ => false) ?_ ?_ rfl (Nat.zero_le _) (fun k hk => absurd hk (Nat.not_lt_zero _))
                          · rw [rpAt_succ, if_neg hb74, List.append_nil]; simp [hG, List.getD_cons_zero, List.getD_cons_succ, -List.getD_eq_getElem?_getD]
                          · rw [rpAt_succ, if_neg hb74, List.append_nil]; simp [hG, List.getD_cons_zero, List.getD_cons_succ, -List.getD_eq_getElem?_getD]
                      ·
                        try simp [-List.getD_eq_getElem?_getD] at hb59
                        obtain rfl : m = g.edges.length := (by omega)
                        have hnx := rpAt_next (g := g) (l := rp g k) (i := i) (by omega)
                        refine awpS_exit ?_
                        refine thenQ_exit (thenQ_exit ?_)
                        refine blockQ_exit (thenQ_norm ?_)
                        refine awpS_nil ?_
                        refine blockQ_norm (thenQ_norm ?_)
                        refine awpS_reg T_ok fun K hK => ?_
                        simp [hG, List.getD_cons_zero, List.getD_cons_succ, -List.getD_eq_getElem?_getD, selfE_zero, rpAt_zero]
                        first | refine hK _ ?_ | refine ⟨Cond.mk (by first | omega | (simp [-List.getD_eq_getElem?_getD]; done) | (simp [-List.getD_eq_getElem?_getD]; omega) | (simp [-List.getD_eq_getElem?_getD]; repeat (first | intro _ | exact And.intro ‹_› ‹_› | apply And.intro | assumption | omega | exact decide_eq_true (by assumption)))), hK _ ?_⟩
                        clear K hK
                        refine awpS_nil ?_
                        refine round_end (i + 1) (by omega) (by omega) ?_
                        refine wk_of (id) (fun _ => false) (fun _ => false) ?_ ?_ rfl (Nat.zero_le _) (fun k hk => absurd hk (Nat.not_lt_zero _))
                        · rw [← hnx]; simp [hG, List.getD_cons_zero, List.getD_cons_succ, -List.getD_eq_getElem?_getD]
                        · rw [← hnx]; simp [hG, List.getD_cons_zero, List.getD_cons_succ, -List.getD_eq_getElem?_getD]
                  ·
                    try simp [-List.getD_eq_getElem?_getD] at hb52
                    obtain rfl : i = (rp g k).length := (by omega)
                    have hnl := rpAt_len (g := g) (l := rp g k) (i := (rp g k).length) (m := 0) he30 hkl (Nat.le_refl _) (Nat.zero_le _)
                    refine awpS_exit ?_
                    refine thenQ_exit (thenQ_exit ?_)
                    refine blockQ_exit (thenQ_norm ?_)
                    refine awpS_wk (st2 := ⟨[(1, .int .i64 n), (2, .ptr (0, 0) 0 0), (4, .ptr (1, 0) 0 0), (6, edgesC (rp g k)), (8, .int .i64 k), (9, edgesC (rpAt g (rp g k) (rp g k).length 0))], [(0, .one (.arr 1 3 (fun _ => grF g))), (1, .one (.arr 1 3 (fun _ j => [.int .i64 0, .int .i64 0, .nils].getD j .any)))], 2⟩) ?_ ?_
                    ·
                      refine wk_of (id) (fun k => k == 2) (fun _ => false) ?_ ?_ rfl (Nat.zero_le _) (fun k hk => absurd hk (Nat.not_lt_zero _))
                      · simp [hG, List.getD_cons_zero, List.getD_cons_succ, -List.getD_eq_getElem?_getD, selfE_zero, rpAt_zero]
                      · simp [hG, List.getD_cons_zero, List.getD_cons_succ, -List.getD_eq_getElem?_getD, selfE_zero, rpAt_zero]
                    refine awpS_regL ?_
                    refine awpL_reg T_ok 1 fun K hK => ?_
                    simp [hG, List.getD_cons_zero, List.getD_cons_succ, -List.getD_eq_getElem?_getD, selfE_zero, rpAt_zero]
                    first | refine hK _ ?_ | refine ⟨Cond.mk (by first | omega | (simp [-List.getD_eq_getElem?_getD]; done) | (simp [-List.getD_eq_getElem?_getD]; omega) | (simp [-List.getD_eq_getElem?_getD]; repeat (first | intro _ | exact And.intro ‹_› ‹_› | apply And.intro | assumption | omega | exact decide_eq_true (by assumption)))), hK _ ?_⟩
                    clear K hK
                    refine awpL_call cal41 rfl rfl (fun _ => rfl) (fun hg => once_c (rpAt g (rp g k) (rp g k).length 0) (by omega)) (fun hg => ?_) (fun hg => ?_) fun K hK => ?_
                    · simp [hG, List.getD_cons_zero, List.getD_cons_succ, -List.getD_eq_getElem?_getD, selfE_zero, rpAt_zero]
                    · simp [hG, List.getD_cons_zero, List.getD_cons_succ, -List.getD_eq_getElem?_getD, selfE_zero, rpAt_zero]
                    simp [hG, List.getD_cons_zero, List.getD_cons_succ, -List.getD_eq_getElem?_getD, selfE_zero, rpAt_zero]
                    refine hK _ ?_
                    clear K hK
                    refine awpL_reg T_ok 1 fun K hK => ?_
                    simp [hG, List.getD_cons_zero, List.getD_cons_succ, -List.getD_eq_getElem?_getD, selfE_zero, rpAt_zero]
                    first | refine hK _ ?_ | refine ⟨Cond.mk (by first | omega | (simp [-List.getD_eq_getElem?_getD]; done) | (simp [-List.getD_eq_getElem?_getD]; omega) | (simp [-List.getD_eq_getElem?_getD]; repeat (first | intro _ | exact And.intro ‹_› ‹_› | apply And.intro | assumption | omega | exact decide_eq_true (by assumption)))), hK _ ?_⟩
                    clear K hK
                    refine awpL_nil ?_
                    refine awpS_nil ?_
                    refine blockQ_norm (thenQ_norm ?_)
                    refine awpS_reg T_ok fun K hK => ?_
                    simp [hG, List.getD_cons_zero, List.getD_cons_succ, -List.getD_eq_getElem?_getD, selfE_zero, rpAt_zero]
                    first | refine hK _ ?_ | refine ⟨Cond.mk (by first | omega | (simp [-List.getD_eq_getElem?_getD]; done) | (simp [-List.getD_eq_getElem?_getD]; omega) | (simp [-List.getD_eq_getElem?_getD]; repeat (first | intro _ | exact And.intro ‹_› ‹_› | apply And.intro | assumption | omega | exact decide_eq_true (by assumption)))), hK _ ?_⟩
                    clear K hK
                    refine awpS_nil ?_
                    refine round_end (k + 1) (by omega) (by omega) ?_
                    refine wk_of (id) (fun _ => false) (fun _ => false) ?_ ?_ rfl (Nat.zero_le _) (fun k hk => absurd hk (Nat.not_lt_zero _))
                    · rw [← rp_next]; simp [hG, List.getD_cons_zero, List.getD_cons_succ, -List.getD_eq_getElem?_getD]
                    · simp [hG, List.getD_cons_zero, List.getD_cons_succ, -List.getD_eq_getElem?_getD, selfE_zero, rpAt_zero]
              ·
                try simp [-List.getD_eq_getElem?_getD] at hb45
                obtain rfl : k = n.toNat := (by omega)
                have hkl := rp_len hv hs10 (k := n.toNat) (fun j hj => by have := hpw j (by omega); omega)
                refine awpS_exit ?_
                refine thenQ_exit (thenQ_exit ?_)
                refine blockQ_exit (thenQ_norm ?_)
                refine awpS_seq ?_
                refine awpS_seq ?_
                refine awpS_reg T_ok fun K hK => ?_
                simp [hG, List.getD_cons_zero, List.getD_cons_succ, -List.getD_eq_getElem?_getD, selfE_zero, rpAt_zero]
                first | refine hK _ ?_ | refine ⟨Cond.mk (by first | omega | (simp [-List.getD_eq_getElem?_getD]; done) | (simp [-List.getD_eq_getElem?_getD]; omega) | (simp [-List.getD_eq_getElem?_getD]; repeat (first | intro _ | exact And.intro ‹_› ‹_› | apply And.intro | assumption | omega | exact decide_eq_true (by assumption)))), hK _ ?_⟩
                clear K hK
                refine awpS_cond rfl (fun hb101 => ?_) (fun hb101 => ?_)
                ·
                  try simp [-List.getD_eq_getElem?_getD] at hb101
                  refine awpS_seq ?_
                  refine awpS_reg T_ok fun K hK => ?_
                  simp [hG, List.getD_cons_zero, List.getD_cons_succ, -List.getD_eq_getElem?_getD, selfE_zero, rpAt_zero]
                  first | refine hK _ ?_ | refine ⟨Cond.mk (by first | omega | (simp [-List.getD_eq_getElem?_getD]; done) | (simp [-List.getD_eq_getElem?_getD]; omega) | (simp [-List.getD_eq_getElem?_getD]; repeat (first | intro _ | exact And.intro ‹_› ‹_› | apply And.intro | assumption | omega | exact decide_eq_true (by assumption)))), hK _ ?_⟩
                  clear K hK
                  refine awpS_ret ?_
                  refine RetOK_of ?_
                  simp [hG, List.getD_cons_zero, List.getD_cons_succ, -List.getD_eq_getElem?_getD, selfE_zero, rpAt_zero]
                  have hN := rp_over hv (by omega) hu (by omega); rw [pow_no hN (by omega), hN]; simp
                ·
                  try simp [-List.getD_eq_getElem?_getD] at hb101
                  refine awpS_skip ?_
                  refine awpS_seq ?_
                  refine awpS_draw hR mixed [] ⟨[10], [], []⟩ fun mu0 => ?_
                  refine awpA_tk T_ok [0, 1, 2, 4, 5, 6] [] (fuel := 6) [6, 5, 4, 2, 1, 0] (by decide +kernel) (by decide +kernel) rfl rfl fun K hK => ?_
                  simp [hG, List.getD_cons_zero, List.getD_cons_succ, -List.getD_eq_getElem?_getD, selfE_zero, rpAt_zero]
                  first | refine hK _ ?_ | refine ⟨Cond.mk (by first | omega | (simp [-List.getD_eq_getElem?_getD]; done) | (simp [-List.getD_eq_getElem?_getD]; omega) | (simp [-List.getD_eq_getElem?_getD]; repeat (first | intro _ | exact And.intro ‹_› ‹_› | apply And.intro | assumption | omega | exact decide_eq_true (by assumption)))), hK _ ?_⟩
                  clear K hK
                  refine awpA_only (fuel := 5) (i := 3) (by decide +kernel) ?_
                  refine awpO_call cal40 rfl rfl rfl (fun _ => rfl) (fun hg => raiseR_c g.labels n hlb (by omega)) (fun hg => ?_) (fun hg => ?_) fun K hK => ?_
                  · simp [hG, List.getD_cons_zero, List.getD_cons_succ, -List.getD_eq_getElem?_getD, selfE_zero, rpAt_zero]
                  · simp [hG, List.getD_cons_zero, List.getD_cons_succ, -List.getD_eq_getElem?_getD, selfE_zero, rpAt_zero]
                  simp [hG, List.getD_cons_zero, List.getD_cons_succ, -List.getD_eq_getElem?_getD, selfE_zero, rpAt_zero]
                  refine hK _ ?_
                  clear K hK
                  refine awpA_only (fuel := 4) (i := 7) (by decide +kernel) ?_
                  refine awpO_call cal42 rfl rfl rfl (fun _ => rfl) (fun hg => makeR_c (upTo g.labels n.toNat) g.states (rp g n.toNat) (by omega)) (fun hg => ?_) (fun hg => ?_) fun K hK => ?_
                  · simp [hG, List.getD_cons_zero, List.getD_cons_succ, -List.getD_eq_getElem?_getD, selfE_zero, rpAt_zero]
                  · simp [hG, List.getD_cons_zero, List.getD_cons_succ, -List.getD_eq_getElem?_getD]; intro h; omega
                  simp [hG, List.getD_cons_zero, List.getD_cons_succ, -List.getD_eq_getElem?_getD, selfE_zero, rpAt_zero]
                  refine hK _ ?_
                  clear K hK
                  refine awpA_tk T_ok [8, 9] [] (fuel := 2) [9, 8, 7, 3, 6, 5, 4, 2, 1, 0] (by decide +kernel) (by decide +kernel) rfl rfl fun K hK => ?_
                  simp [hG, List.getD_cons_zero, List.getD_cons_succ, -List.getD_eq_getElem?_getD, selfE_zero, rpAt_zero]
                  first | refine hK _ ?_ | refine ⟨Cond.mk (by first | omega | (simp [-List.getD_eq_getElem?_getD]; done) | (simp [-List.getD_eq_getElem?_getD]; omega) | (simp [-List.getD_eq_getElem?_getD]; repeat (first | intro _ | exact And.intro ‹_› ‹_› | apply And.intro | assumption | omega | exact decide_eq_true (by assumption)))), hK _ ?_⟩
                  clear K hK
                  refine awpA_only (fuel := 1) (i := 10) (by decide +kernel) ?_
                  refine awpO_reg T_ok rfl ?_ fun K hK => ?_
                  · simp [hG, List.getD_cons_zero, List.getD_cons_succ, -List.getD_eq_getElem?_getD, selfE_zero, rpAt_zero]
                  simp [hG, List.getD_cons_zero, List.getD_cons_succ, -List.getD_eq_getElem?_getD, selfE_zero, rpAt_zero]
                  first | refine hK _ ?_ | refine ⟨Cond.mk (by first | omega | (simp [-List.getD_eq_getElem?_getD]; done) | (simp [-List.getD_eq_getElem?_getD]; omega) | (simp [-List.getD_eq_getElem?_getD]; repeat (first | intro _ | exact And.intro ‹_› ‹_› | apply And.intro | assumption | omega | exact decide_eq_true (by assumption)))), hK _ ?_⟩
                  clear K hK
                  refine awpA_tk T_ok [11] [] (fuel := 0) [11, 10, 9, 8, 7, 3, 6, 5, 4, 2, 1, 0] (by decide +kernel) (by decide +kernel) rfl rfl fun K hK => ?_
                  simp [hG, List.getD_cons_zero, List.getD_cons_succ, -List.getD_eq_getElem?_getD, selfE_zero, rpAt_zero]
                  first | refine hK _ ?_ | refine ⟨Cond.mk (by first | omega | (simp [-List.getD_eq_getElem?_getD]; done) | (simp [-List.getD_eq_getElem?_getD]; omega) | (simp [-List.getD_eq_getElem?_getD]; repeat (first | intro _ | exact And.intro ‹_› ‹_› | apply And.intro | assumption | omega | exact decide_eq_true (by assumption)))), hK _ ?_⟩
                  clear K hK
                  refine awpA_done (by decide +kernel) ?_
                  refine awpS_ret ?_
                  refine RetOK_of ?_
                  simp [hG, List.getD_cons_zero, List.getD_cons_succ, -List.getD_eq_getElem?_getD, selfE_zero, rpAt_zero]
                  obtain ⟨hN, hM, hX⟩ := rp_make hv (by omega) hu (by omega); rw [hM, hX, hN]; simp

end Go.Proofs.Ytddghlnaocjjkaa
