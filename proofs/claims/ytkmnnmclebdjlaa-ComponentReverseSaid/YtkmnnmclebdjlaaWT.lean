/-
  Walks: Of, Cyclic, Sinks, Irreducible, and their references.
-/
import Derived.Test.YtkmnnmclebdjlaaWS
namespace Go.Proofs.Ytkmnnmclebdjlaa
set_option linter.unusedSimpArgs false
set_option linter.unusedVariables false
open Go Go.Lift Go.Proofs

/-- where the first edge is of which q holds. -/
def placeQ (l : List Edge) (q : Edge → Bool) : Int := if l.any q then (l.findIdx q : Nat) else -1
theorem placeQ_at {l : List Edge} {q : Edge → Bool} {i : Nat} (hi : i < l.length) (hq : q (l.getD i de) = true) (hn : ∀ j, j < i → q (l.getD j de) = false) : placeQ l q = i := by
  unfold placeQ
  have hg : ∀ j (hj : j < l.length), l.getD j de = l[j] := fun j hj => by simp [List.getD, hj]
  rw [if_pos (List.any_eq_true.2 ⟨l[i], List.getElem_mem hi, by rw [← hg]; exact hq⟩)]
  have : l.findIdx q = i := (List.findIdx_eq hi).2 ⟨by rw [← hg]; exact hq, fun j hj => by rw [← hg]; exact hn j hj⟩
  rw [this]
theorem placeQ_none {l : List Edge} {q : Edge → Bool} (hn : ∀ j, j < l.length → q (l.getD j de) = false) : placeQ l q = -1 := by
  unfold placeQ
  rw [if_neg]
  intro h
  obtain ⟨x, hx, hq⟩ := List.any_eq_true.1 h
  obtain ⟨j, hj, rfl⟩ := List.mem_iff_getElem.1 hx
  have := hn j hj
  rw [show l.getD j de = l[j] by simp [List.getD, hj]] at this
  rw [this] at hq; cases hq
theorem placeQ_any {l : List Edge} {q : Edge → Bool} : decide (0 ≤ placeQ l q) = l.any q := by
  unfold placeQ
  split
  · rename_i h; rw [h]; simp
  · rename_i h; simp only [Bool.not_eq_true] at h; rw [h]; simp
/-- none of the first k states that are mutual with i lies in front of i. -/
noncomputable def firstAt (g : Gr) (i k : Nat) : Bool := (List.range k).all fun t => !mutB g i t || decide (i ≤ t)
@[simp] theorem firstAt_zero {g : Gr} {i : Nat} : firstAt g i 0 = true := rfl
theorem firstAt_succ {g : Gr} {i k : Nat} : firstAt g i (k + 1) = (firstAt g i k && (!mutB g i k || decide (i ≤ k))) := by
  unfold firstAt
  rw [List.range_succ, List.all_append]
  simp
theorem firstAt_all {g : Gr} {i : Nat} (hi : i < g.n) : firstAt g i g.n = least g i := by
  rw [Bool.eq_iff_iff, least_iff hi]
  unfold firstAt
  simp only [List.all_eq_true, List.mem_range, Bool.or_eq_true, Bool.not_eq_true', decide_eq_true_eq]
  constructor
  · intro h t ht hm
    rcases h t ht with h1 | h1
    · rw [hm] at h1; cases h1
    · exact h1
  · intro h t ht
    cases hm : mutB g i t with
    | false => exact .inl rfl
    | true => exact .inr (h t ht hm)
def cycB (g : Gr) (c : List Int) : Bool := g.edges.any fun x => hasI c x.frm && hasI c x.to
def leaves (g : Gr) (c : List Int) : Bool := g.edges.any fun x => hasI c x.frm && !hasI c x.to

set_option maxRecDepth 100000 in
theorem of1_c (l : List Int) : PC Try.prog 48 [ints l] (.bool true) := by
  refine PC_introS T_ok Try.func48 rfl (by simp [Try.ntmps48]) fun G hG hR => ?_
  simp only [Try.ntmps48, Try.results48] at hG ⊢
  simp only [argEnv, Nat.zero_add, Nat.reduceAdd]
  refine awpS_seq ?_
  refine awpS_reg T_ok fun K hK => ?_
  simp [hG, List.getD_cons_zero, List.getD_cons_succ, -List.getD_eq_getElem?_getD]
  first | refine hK _ ?_ | refine ⟨Cond.mk (by first | omega | (simp [-List.getD_eq_getElem?_getD]; done) | (simp [-List.getD_eq_getElem?_getD]; omega) | (simp [-List.getD_eq_getElem?_getD]; repeat (first | intro _ | exact And.intro ‹_› ‹_› | apply And.intro | assumption | omega | exact decide_eq_true (by assumption)))), hK _ ?_⟩
  clear K hK
  refine awpS_seq ?_
  refine awpS_reg T_ok fun K hK => ?_
  simp [hG, List.getD_cons_zero, List.getD_cons_succ, -List.getD_eq_getElem?_getD]
  first | refine hK _ ?_ | refine ⟨Cond.mk (by first | omega | (simp [-List.getD_eq_getElem?_getD]; done) | (simp [-List.getD_eq_getElem?_getD]; omega) | (simp [-List.getD_eq_getElem?_getD]; repeat (first | intro _ | exact And.intro ‹_› ‹_› | apply And.intro | assumption | omega | exact decide_eq_true (by assumption)))), hK _ ?_⟩
  clear K hK
  refine awpS_ret ?_
  refine RetOK_of ?_
  simp [hG, List.getD_cons_zero, List.getD_cons_succ, -List.getD_eq_getElem?_getD]

set_option maxRecDepth 100000 in
theorem of_c (g : Gr) : PC Try.prog 14 [.agg 3 (grF g)] (.tup 2 (fun j => [rowsI (if gcheck g = 0 then (compsL g).filter fun _ => true else []), .int .i64 (if gcheck g = 0 then 0 else 1)].getD j .any)) := by
  refine PC_introS T_ok Try.func14 rfl (by simp [Try.ntmps14]) fun G hG hR => ?_
  simp only [Try.ntmps14, Try.results14] at hG ⊢
  simp only [argEnv, Nat.zero_add, Nat.reduceAdd]
  refine awpS_seq ?_
  refine awpS_reg T_ok fun K hK => ?_
  simp [hG, List.getD_cons_zero, List.getD_cons_succ, -List.getD_eq_getElem?_getD]
  first | refine hK _ ?_ | refine ⟨Cond.mk (by first | omega | (simp [-List.getD_eq_getElem?_getD]; done) | (simp [-List.getD_eq_getElem?_getD]; omega) | (simp [-List.getD_eq_getElem?_getD]; repeat (first | intro _ | exact And.intro ‹_› ‹_› | apply And.intro | assumption | omega | exact decide_eq_true (by assumption)))), hK _ ?_⟩
  clear K hK
  refine awpS_seq ?_
  refine awpS_regL ?_
  refine awpL_reg T_ok 1 fun K hK => ?_
  simp [hG, List.getD_cons_zero, List.getD_cons_succ, -List.getD_eq_getElem?_getD]
  first | refine hK _ ?_ | refine ⟨Cond.mk (by first | omega | (simp [-List.getD_eq_getElem?_getD]; done) | (simp [-List.getD_eq_getElem?_getD]; omega) | (simp [-List.getD_eq_getElem?_getD]; repeat (first | intro _ | exact And.intro ‹_› ‹_› | apply And.intro | assumption | omega | exact decide_eq_true (by assumption)))), hK _ ?_⟩
  clear K hK
  refine awpL_call cal47 rfl rfl (fun _ => rfl) (fun hg => some_c g (fun _ => true) 48 0 (fun _ => .any) cal48 (fun _ => trivial) fun _ s _ => of1_c (compL g s)) (fun hg => ?_) (fun hg => ?_) fun K hK => ?_
  · simp [hG, List.getD_cons_zero, List.getD_cons_succ, -List.getD_eq_getElem?_getD]
  · simp [hG, List.getD_cons_zero, List.getD_cons_succ, -List.getD_eq_getElem?_getD]
  simp [hG, List.getD_cons_zero, List.getD_cons_succ, -List.getD_eq_getElem?_getD]
  refine hK _ ?_
  clear K hK
  refine awpL_reg T_ok 4 fun K hK => ?_
  simp [hG, List.getD_cons_zero, List.getD_cons_succ, -List.getD_eq_getElem?_getD]
  first | refine hK _ ?_ | refine ⟨Cond.mk (by first | omega | (simp [-List.getD_eq_getElem?_getD]; done) | (simp [-List.getD_eq_getElem?_getD]; omega) | (simp [-List.getD_eq_getElem?_getD]; repeat (first | intro _ | exact And.intro ‹_› ‹_› | apply And.intro | assumption | omega | exact decide_eq_true (by assumption)))), hK _ ?_⟩
  clear K hK
  refine awpL_nil ?_
  refine awpS_ret ?_
  refine RetOK_of ?_
  simp [hG, List.getD_cons_zero, List.getD_cons_succ, -List.getD_eq_getElem?_getD]

set_option maxRecDepth 100000 in
theorem indexQ_c (l : List Edge) (q : Edge → Bool) (hfn hn : Nat) (hc : Nat → AVal) (hl : l.length ≤ 1024) (hcal : Callable Try.prog hfn) (hclo : ∀ j, Clo (hc j)) (hp : ∀ x ∈ l, PC Try.prog hfn (.agg 3 (edgeF x) :: (List.range' 0 hn).map hc) (.bool (q x))) : PC Try.prog 68 [edgesC l, .fn hfn hn hc] (.int .i64 (placeQ l q)) := by
  have hV : ∀ {h : Heap} {σ : Lift.Id → Lift.Id} {fz : Nat → Bool} {vz : Lift.Id → Bool} {nx j : Nat}, VLe h σ fz vz nx (hc j) (hc j) := fun {h σ fz vz nx j} => Clo.le _ (hclo j)
  refine PC_introS T_ok Try.func68 rfl (by simp [Try.ntmps68]) fun G hG hR => ?_
  simp only [Try.ntmps68, Try.results68] at hG ⊢
  simp only [argEnv, Nat.zero_add, Nat.reduceAdd]
  refine awpS_seq ?_
  refine awpS_reg T_ok fun K hK => ?_
  simp [hG, List.getD_cons_zero, List.getD_cons_succ, -List.getD_eq_getElem?_getD, hV]
  first | refine hK _ ?_ | refine ⟨Cond.mk (by first | omega | (simp [-List.getD_eq_getElem?_getD]; done) | (simp [-List.getD_eq_getElem?_getD]; omega) | (simp [-List.getD_eq_getElem?_getD]; repeat (first | intro _ | exact And.intro ‹_› ‹_› | apply And.intro | assumption | omega | exact decide_eq_true (by assumption)))), hK _ ?_⟩
  clear K hK
  refine awpS_seq ?_
  refine awpS_seq ?_
  refine awpS_reg T_ok fun K hK => ?_
  simp [hG, List.getD_cons_zero, List.getD_cons_succ, -List.getD_eq_getElem?_getD, hV]
  first | refine hK _ ?_ | refine ⟨Cond.mk (by first | omega | (simp [-List.getD_eq_getElem?_getD]; done) | (simp [-List.getD_eq_getElem?_getD]; omega) | (simp [-List.getD_eq_getElem?_getD]; repeat (first | intro _ | exact And.intro ‹_› ‹_› | apply And.intro | assumption | omega | exact decide_eq_true (by assumption)))), hK _ ?_⟩
  clear K hK
  refine awpS_block ?_
  refine awpS_loop (α := Nat) (fun i => ⟨[(0, edgesC l), (1, .fn hfn hn hc), (7, .int .i64 l.length), (8, .int .i64 i)], [], 0⟩) (fun i => i ≤ l.length ∧ ∀ j, j < i → q (l.getD j de) = false) (fun i => l.length - i) (0) (⟨Nat.zero_le _, fun j hj => absurd hj (Nat.not_lt_zero _)⟩) ?_ ?_
  ·
    refine wk_of (id) (fun _ => false) (fun _ => false) ?_ ?_ rfl (Nat.zero_le _) (fun k hk => absurd hk (Nat.not_lt_zero _))
    · simp [hG, List.getD_cons_zero, List.getD_cons_succ, -List.getD_eq_getElem?_getD, hV]
    · simp [hG, List.getD_cons_zero, List.getD_cons_succ, -List.getD_eq_getElem?_getD, hV]
  ·
    rintro i ⟨hi, hn0⟩
    refine awpS_seq ?_
    refine awpS_reg T_ok fun K hK => ?_
    simp [hG, List.getD_cons_zero, List.getD_cons_succ, -List.getD_eq_getElem?_getD, hV]
    first | refine hK _ ?_ | refine ⟨Cond.mk (by first | omega | (simp [-List.getD_eq_getElem?_getD]; done) | (simp [-List.getD_eq_getElem?_getD]; omega) | (simp [-List.getD_eq_getElem?_getD]; repeat (first | intro _ | exact And.intro ‹_› ‹_› | apply And.intro | assumption | omega | exact decide_eq_true (by assumption)))), hK _ ?_⟩
    clear K hK
    refine awpS_seq ?_
    refine awpS_cond rfl (fun hb9 => ?_) (fun hb9 => ?_)
    ·
      try simp [-List.getD_eq_getElem?_getD] at hb9
      refine awpS_skip ?_
      refine awpS_seq ?_
      refine awpS_block ?_
      refine awpS_seq ?_
      refine awpS_reg T_ok fun K hK => ?_
      simp [hG, List.getD_cons_zero, List.getD_cons_succ, -List.getD_eq_getElem?_getD, hV]
      first | refine hK _ ?_ | refine ⟨Cond.mk (by first | omega | (simp [-List.getD_eq_getElem?_getD]; done) | (simp [-List.getD_eq_getElem?_getD]; omega) | (simp [-List.getD_eq_getElem?_getD]; repeat (first | intro _ | exact And.intro ‹_› ‹_› | apply And.intro | assumption | omega | exact decide_eq_true (by assumption)))), hK _ ?_⟩
      clear K hK
      refine awpS_seq ?_
      refine awpS_regL ?_
      refine awpL_reg T_ok 5 fun K hK => ?_
      simp [hG, List.getD_cons_zero, List.getD_cons_succ, -List.getD_eq_getElem?_getD, hV]
      first | refine hK _ ?_ | refine ⟨Cond.mk (by first | omega | (simp [-List.getD_eq_getElem?_getD]; done) | (simp [-List.getD_eq_getElem?_getD]; omega) | (simp [-List.getD_eq_getElem?_getD]; repeat (first | intro _ | exact And.intro ‹_› ‹_› | apply And.intro | assumption | omega | exact decide_eq_true (by assumption)))), hK _ ?_⟩
      clear K hK
      refine awpL_call hcal rfl rfl (fun _ => rfl) (fun hg => hp _ (getD_mem (d := de) (by simpa using hb9))) (fun hg => ?_) (fun hg => ?_) fun K hK => ?_
      · simp [hG, List.getD_cons_zero, List.getD_cons_succ, -List.getD_eq_getElem?_getD, hV]
      · simp [hG, List.getD_cons_zero, List.getD_cons_succ, -List.getD_eq_getElem?_getD]; exact argsLe_caps fun j _ => hclo j
      simp [hG, List.getD_cons_zero, List.getD_cons_succ, -List.getD_eq_getElem?_getD, hV]
      refine hK _ ?_
      clear K hK
      refine awpL_nil ?_
      refine awpS_cond rfl (fun hb16 => ?_) (fun hb16 => ?_)
      ·
        try simp [-List.getD_eq_getElem?_getD] at hb16
        refine awpS_seq ?_
        refine awpS_reg T_ok fun K hK => ?_
        simp [hG, List.getD_cons_zero, List.getD_cons_succ, -List.getD_eq_getElem?_getD, hV]
        first | refine hK _ ?_ | refine ⟨Cond.mk (by first | omega | (simp [-List.getD_eq_getElem?_getD]; done) | (simp [-List.getD_eq_getElem?_getD]; omega) | (simp [-List.getD_eq_getElem?_getD]; repeat (first | intro _ | exact And.intro ‹_› ‹_› | apply And.intro | assumption | omega | exact decide_eq_true (by assumption)))), hK _ ?_⟩
        clear K hK
        refine awpS_ret ?_
        refine blockQ_ret (thenQ_ret ?_)
        refine thenQ_ret (thenQ_ret ?_)
        refine blockQ_ret (thenQ_ret ?_)
        refine RetOK_of ?_
        simp [hG, List.getD_cons_zero, List.getD_cons_succ, -List.getD_eq_getElem?_getD, hV]
        exact (placeQ_at (by simpa using hb9) hb16 hn0).symm
      ·
        try simp [-List.getD_eq_getElem?_getD] at hb16
        refine awpS_skip ?_
        refine awpS_nil ?_
        refine blockQ_norm (thenQ_norm ?_)
        refine awpS_reg T_ok fun K hK => ?_
        simp [hG, List.getD_cons_zero, List.getD_cons_succ, -List.getD_eq_getElem?_getD, hV]
        first | refine hK _ ?_ | refine ⟨Cond.mk (by first | omega | (simp [-List.getD_eq_getElem?_getD]; done) | (simp [-List.getD_eq_getElem?_getD]; omega) | (simp [-List.getD_eq_getElem?_getD]; repeat (first | intro _ | exact And.intro ‹_› ‹_› | apply And.intro | assumption | omega | exact decide_eq_true (by assumption)))), hK _ ?_⟩
        clear K hK
        refine awpS_nil ?_
        refine round_end (i + 1) (⟨by omega, fun j hj => (Nat.lt_succ_iff_lt_or_eq.1 hj).elim (hn0 j) fun e => by rw [e]; exact hb16⟩) (by omega) ?_
        refine wk_of (id) (fun _ => false) (fun _ => false) ?_ ?_ rfl (Nat.zero_le _) (fun k hk => absurd hk (Nat.not_lt_zero _))
        · simp [hG, List.getD_cons_zero, List.getD_cons_succ, -List.getD_eq_getElem?_getD, hV]
        · simp [hG, List.getD_cons_zero, List.getD_cons_succ, -List.getD_eq_getElem?_getD, hV]
    ·
      try simp [-List.getD_eq_getElem?_getD] at hb9
      refine awpS_exit ?_
      refine thenQ_exit (thenQ_exit ?_)
      refine blockQ_exit (thenQ_norm ?_)
      refine awpS_seq ?_
      refine awpS_reg T_ok fun K hK => ?_
      simp [hG, List.getD_cons_zero, List.getD_cons_succ, -List.getD_eq_getElem?_getD, hV]
      first | refine hK _ ?_ | refine ⟨Cond.mk (by first | omega | (simp [-List.getD_eq_getElem?_getD]; done) | (simp [-List.getD_eq_getElem?_getD]; omega) | (simp [-List.getD_eq_getElem?_getD]; repeat (first | intro _ | exact And.intro ‹_› ‹_› | apply And.intro | assumption | omega | exact decide_eq_true (by assumption)))), hK _ ?_⟩
      clear K hK
      refine awpS_ret ?_
      refine RetOK_of ?_
      simp [hG, List.getD_cons_zero, List.getD_cons_succ, -List.getD_eq_getElem?_getD, hV]
      exact (placeQ_none fun j hj => hn0 j (by omega)).symm

set_option maxRecDepth 100000 in
theorem containsQ_c (l : List Edge) (q : Edge → Bool) (hfn hn : Nat) (hc : Nat → AVal) (hl : l.length ≤ 1024) (hcal : Callable Try.prog hfn) (hclo : ∀ j, Clo (hc j)) (hp : ∀ x ∈ l, PC Try.prog hfn (.agg 3 (edgeF x) :: (List.range' 0 hn).map hc) (.bool (q x))) : PC Try.prog 41 [edgesC l, .fn hfn hn hc] (.bool (l.any q)) := by
  have hV : ∀ {h : Heap} {σ : Lift.Id → Lift.Id} {fz : Nat → Bool} {vz : Lift.Id → Bool} {nx j : Nat}, VLe h σ fz vz nx (hc j) (hc j) := fun {h σ fz vz nx j} => Clo.le _ (hclo j)
  refine PC_introS T_ok Try.func41 rfl (by simp [Try.ntmps41]) fun G hG hR => ?_
  simp only [Try.ntmps41, Try.results41] at hG ⊢
  simp only [argEnv, Nat.zero_add, Nat.reduceAdd]
  refine awpS_seq ?_
  refine awpS_reg T_ok fun K hK => ?_
  simp [hG, List.getD_cons_zero, List.getD_cons_succ, -List.getD_eq_getElem?_getD, hV]
  first | refine hK _ ?_ | refine ⟨Cond.mk (by first | omega | (simp [-List.getD_eq_getElem?_getD]; done) | (simp [-List.getD_eq_getElem?_getD]; omega) | (simp [-List.getD_eq_getElem?_getD]; repeat (first | intro _ | exact And.intro ‹_› ‹_› | apply And.intro | assumption | omega | exact decide_eq_true (by assumption)))), hK _ ?_⟩
  clear K hK
  refine awpS_seq ?_
  refine awpS_regL ?_
  refine awpL_reg T_ok 2 fun K hK => ?_
  simp [hG, List.getD_cons_zero, List.getD_cons_succ, -List.getD_eq_getElem?_getD, hV]
  first | refine hK _ ?_ | refine ⟨Cond.mk (by first | omega | (simp [-List.getD_eq_getElem?_getD]; done) | (simp [-List.getD_eq_getElem?_getD]; omega) | (simp [-List.getD_eq_getElem?_getD]; repeat (first | intro _ | exact And.intro ‹_› ‹_› | apply And.intro | assumption | omega | exact decide_eq_true (by assumption)))), hK _ ?_⟩
  clear K hK
  refine awpL_call cal68 rfl rfl (fun _ => rfl) (fun hg => indexQ_c l q hfn hn hc hl hcal hclo hp) (fun hg => ?_) (fun hg => ?_) fun K hK => ?_
  · simp [hG, List.getD_cons_zero, List.getD_cons_succ, -List.getD_eq_getElem?_getD, hV]
  · simp [hG, List.getD_cons_zero, List.getD_cons_succ, -List.getD_eq_getElem?_getD, hV]
  simp [hG, List.getD_cons_zero, List.getD_cons_succ, -List.getD_eq_getElem?_getD, hV]
  refine hK _ ?_
  clear K hK
  refine awpL_reg T_ok 2 fun K hK => ?_
  simp [hG, List.getD_cons_zero, List.getD_cons_succ, -List.getD_eq_getElem?_getD, hV]
  first | refine hK _ ?_ | refine ⟨Cond.mk (by first | omega | (simp [-List.getD_eq_getElem?_getD]; done) | (simp [-List.getD_eq_getElem?_getD]; omega) | (simp [-List.getD_eq_getElem?_getD]; repeat (first | intro _ | exact And.intro ‹_› ‹_› | apply And.intro | assumption | omega | exact decide_eq_true (by assumption)))), hK _ ?_⟩
  clear K hK
  refine awpL_nil ?_
  refine awpS_ret ?_
  refine RetOK_of ?_
  simp [hG, List.getD_cons_zero, List.getD_cons_succ, -List.getD_eq_getElem?_getD, hV]
  rw [← placeQ_any]

set_option maxRecDepth 100000 in
theorem cyc2_c (c : List Int) (x : Edge) (hl : c.length ≤ 64) : PC Try.prog 52 [.agg 3 (edgeF x), .vptr 1 (fun _ => ints c) 0] (.bool (hasI c x.frm && hasI c x.to)) := by
  refine PC_introS T_ok Try.func52 rfl (by simp [Try.ntmps52]) fun G hG hR => ?_
  simp only [Try.ntmps52, Try.results52] at hG ⊢
  simp only [argEnv, Nat.zero_add, Nat.reduceAdd]
  refine awpS_seq ?_
  refine awpS_reg T_ok fun K hK => ?_
  simp [hG, List.getD_cons_zero, List.getD_cons_succ, -List.getD_eq_getElem?_getD]
  first | refine hK _ ?_ | refine ⟨Cond.mk (by first | omega | (simp [-List.getD_eq_getElem?_getD]; done) | (simp [-List.getD_eq_getElem?_getD]; omega) | (simp [-List.getD_eq_getElem?_getD]; repeat (first | intro _ | exact And.intro ‹_› ‹_› | apply And.intro | assumption | omega | exact decide_eq_true (by assumption)))), hK _ ?_⟩
  clear K hK
  refine awpS_seq ?_
  refine awpS_regL ?_
  refine awpL_reg T_ok 3 fun K hK => ?_
  simp [hG, List.getD_cons_zero, List.getD_cons_succ, -List.getD_eq_getElem?_getD]
  first | refine hK _ ?_ | refine ⟨Cond.mk (by first | omega | (simp [-List.getD_eq_getElem?_getD]; done) | (simp [-List.getD_eq_getElem?_getD]; omega) | (simp [-List.getD_eq_getElem?_getD]; repeat (first | intro _ | exact And.intro ‹_› ‹_› | apply And.intro | assumption | omega | exact decide_eq_true (by assumption)))), hK _ ?_⟩
  clear K hK
  refine awpL_call cal27 rfl rfl (fun _ => rfl) (fun hg => contains_c c x.frm (by omega)) (fun hg => ?_) (fun hg => ?_) fun K hK => ?_
  · simp [hG, List.getD_cons_zero, List.getD_cons_succ, -List.getD_eq_getElem?_getD]
  · simp [hG, List.getD_cons_zero, List.getD_cons_succ, -List.getD_eq_getElem?_getD]
  simp [hG, List.getD_cons_zero, List.getD_cons_succ, -List.getD_eq_getElem?_getD]
  refine hK _ ?_
  clear K hK
  refine awpL_reg T_ok 4 fun K hK => ?_
  simp [hG, List.getD_cons_zero, List.getD_cons_succ, -List.getD_eq_getElem?_getD]
  first | refine hK _ ?_ | refine ⟨Cond.mk (by first | omega | (simp [-List.getD_eq_getElem?_getD]; done) | (simp [-List.getD_eq_getElem?_getD]; omega) | (simp [-List.getD_eq_getElem?_getD]; repeat (first | intro _ | exact And.intro ‹_› ‹_› | apply And.intro | assumption | omega | exact decide_eq_true (by assumption)))), hK _ ?_⟩
  clear K hK
  refine awpL_call cal27 rfl rfl (fun _ => rfl) (fun hg => contains_c c x.to (by omega)) (fun hg => ?_) (fun hg => ?_) fun K hK => ?_
  · first | (simp [hG, List.getD_cons_zero, List.getD_cons_succ, -List.getD_eq_getElem?_getD]; done) | (simp [-List.getD_eq_getElem?_getD] at hg; done) | (simp [-List.getD_eq_getElem?_getD] at hg; simp [hG, List.getD_cons_zero, List.getD_cons_succ, -List.getD_eq_getElem?_getD]; first | omega | exact hg | (simp_all [-List.getD_eq_getElem?_getD]; done) | (simp_all [-List.getD_eq_getElem?_getD]; first | exact ⟨rfl, rfl⟩ | exact rfl))
  · first | (simp [hG, List.getD_cons_zero, List.getD_cons_succ, -List.getD_eq_getElem?_getD]; done) | (simp [-List.getD_eq_getElem?_getD] at hg; done) | (simp [-List.getD_eq_getElem?_getD] at hg; simp [hG, List.getD_cons_zero, List.getD_cons_succ, -List.getD_eq_getElem?_getD]; first | omega | exact hg | (simp_all [-List.getD_eq_getElem?_getD]; done) | (simp_all [-List.getD_eq_getElem?_getD]; first | exact ⟨rfl, rfl⟩ | exact rfl))
  simp [hG, List.getD_cons_zero, List.getD_cons_succ, -List.getD_eq_getElem?_getD]
  refine hK _ ?_
  clear K hK
  refine awpL_reg T_ok 2 fun K hK => ?_
  simp [hG, List.getD_cons_zero, List.getD_cons_succ, -List.getD_eq_getElem?_getD]
  first | refine hK _ ?_ | refine ⟨Cond.mk (by first | omega | (simp [-List.getD_eq_getElem?_getD]; done) | (simp [-List.getD_eq_getElem?_getD]; omega) | (simp [-List.getD_eq_getElem?_getD]; repeat (first | intro _ | exact And.intro ‹_› ‹_› | apply And.intro | assumption | omega | exact decide_eq_true (by assumption)))), hK _ ?_⟩
  clear K hK
  refine awpL_nil ?_
  refine awpS_ret ?_
  refine RetOK_of ?_
  simp [hG, List.getD_cons_zero, List.getD_cons_succ, -List.getD_eq_getElem?_getD]

set_option maxRecDepth 100000 in
theorem sink2_c (c : List Int) (x : Edge) (hl : c.length ≤ 64) : PC Try.prog 55 [.agg 3 (edgeF x), .vptr 1 (fun _ => ints c) 0] (.bool (hasI c x.frm && !hasI c x.to)) := by
  refine PC_introS T_ok Try.func55 rfl (by simp [Try.ntmps55]) fun G hG hR => ?_
  simp only [Try.ntmps55, Try.results55] at hG ⊢
  simp only [argEnv, Nat.zero_add, Nat.reduceAdd]
  refine awpS_seq ?_
  refine awpS_reg T_ok fun K hK => ?_
  simp [hG, List.getD_cons_zero, List.getD_cons_succ, -List.getD_eq_getElem?_getD]
  first | refine hK _ ?_ | refine ⟨Cond.mk (by first | omega | (simp [-List.getD_eq_getElem?_getD]; done) | (simp [-List.getD_eq_getElem?_getD]; omega) | (simp [-List.getD_eq_getElem?_getD]; repeat (first | intro _ | exact And.intro ‹_› ‹_› | apply And.intro | assumption | omega | exact decide_eq_true (by assumption)))), hK _ ?_⟩
  clear K hK
  refine awpS_seq ?_
  refine awpS_regL ?_
  refine awpL_reg T_ok 3 fun K hK => ?_
  simp [hG, List.getD_cons_zero, List.getD_cons_succ, -List.getD_eq_getElem?_getD]
  first | refine hK _ ?_ | refine ⟨Cond.mk (by first | omega | (simp [-List.getD_eq_getElem?_getD]; done) | (simp [-List.getD_eq_getElem?_getD]; omega) | (simp [-List.getD_eq_getElem?_getD]; repeat (first | intro _ | exact And.intro ‹_› ‹_› | apply And.intro | assumption | omega | exact decide_eq_true (by assumption)))), hK _ ?_⟩
  clear K hK
  refine awpL_call cal27 rfl rfl (fun _ => rfl) (fun hg => contains_c c x.frm (by omega)) (fun hg => ?_) (fun hg => ?_) fun K hK => ?_
  · simp [hG, List.getD_cons_zero, List.getD_cons_succ, -List.getD_eq_getElem?_getD]
  · simp [hG, List.getD_cons_zero, List.getD_cons_succ, -List.getD_eq_getElem?_getD]
  simp [hG, List.getD_cons_zero, List.getD_cons_succ, -List.getD_eq_getElem?_getD]
  refine hK _ ?_
  clear K hK
  refine awpL_reg T_ok 4 fun K hK => ?_
  simp [hG, List.getD_cons_zero, List.getD_cons_succ, -List.getD_eq_getElem?_getD]
  first | refine hK _ ?_ | refine ⟨Cond.mk (by first | omega | (simp [-List.getD_eq_getElem?_getD]; done) | (simp [-List.getD_eq_getElem?_getD]; omega) | (simp [-List.getD_eq_getElem?_getD]; repeat (first | intro _ | exact And.intro ‹_› ‹_› | apply And.intro | assumption | omega | exact decide_eq_true (by assumption)))), hK _ ?_⟩
  clear K hK
  refine awpL_call cal27 rfl rfl (fun _ => rfl) (fun hg => contains_c c x.to (by omega)) (fun hg => ?_) (fun hg => ?_) fun K hK => ?_
  · first | (simp [hG, List.getD_cons_zero, List.getD_cons_succ, -List.getD_eq_getElem?_getD]; done) | (simp [-List.getD_eq_getElem?_getD] at hg; done) | (simp [-List.getD_eq_getElem?_getD] at hg; simp [hG, List.getD_cons_zero, List.getD_cons_succ, -List.getD_eq_getElem?_getD]; first | omega | exact hg | (simp_all [-List.getD_eq_getElem?_getD]; done) | (simp_all [-List.getD_eq_getElem?_getD]; first | exact ⟨rfl, rfl⟩ | exact rfl))
  · first | (simp [hG, List.getD_cons_zero, List.getD_cons_succ, -List.getD_eq_getElem?_getD]; done) | (simp [-List.getD_eq_getElem?_getD] at hg; done) | (simp [-List.getD_eq_getElem?_getD] at hg; simp [hG, List.getD_cons_zero, List.getD_cons_succ, -List.getD_eq_getElem?_getD]; first | omega | exact hg | (simp_all [-List.getD_eq_getElem?_getD]; done) | (simp_all [-List.getD_eq_getElem?_getD]; first | exact ⟨rfl, rfl⟩ | exact rfl))
  simp [hG, List.getD_cons_zero, List.getD_cons_succ, -List.getD_eq_getElem?_getD]
  refine hK _ ?_
  clear K hK
  refine awpL_reg T_ok 3 fun K hK => ?_
  simp [hG, List.getD_cons_zero, List.getD_cons_succ, -List.getD_eq_getElem?_getD]
  first | refine hK _ ?_ | refine ⟨Cond.mk (by first | omega | (simp [-List.getD_eq_getElem?_getD]; done) | (simp [-List.getD_eq_getElem?_getD]; omega) | (simp [-List.getD_eq_getElem?_getD]; repeat (first | intro _ | exact And.intro ‹_› ‹_› | apply And.intro | assumption | omega | exact decide_eq_true (by assumption)))), hK _ ?_⟩
  clear K hK
  refine awpL_nil ?_
  refine awpS_ret ?_
  refine RetOK_of ?_
  simp [hG, List.getD_cons_zero, List.getD_cons_succ, -List.getD_eq_getElem?_getD]

set_option maxRecDepth 100000 in
theorem cyc1_c (g : Gr) (c : List Int) (hl : c.length ≤ 64) (hed : g.edges.length ≤ 1024) : PC Try.prog 51 [ints c, .vptr 3 (grF g) 0] (.bool (cycB g c)) := by
  refine PC_introS T_ok Try.func51 rfl (by simp [Try.ntmps51]) fun G hG hR => ?_
  simp only [Try.ntmps51, Try.results51] at hG ⊢
  simp only [argEnv, Nat.zero_add, Nat.reduceAdd]
  refine awpS_seq ?_
  refine awpS_reg T_ok fun K hK => ?_
  simp [hG, List.getD_cons_zero, List.getD_cons_succ, -List.getD_eq_getElem?_getD]
  first | refine hK _ ?_ | refine ⟨Cond.mk (by first | omega | (simp [-List.getD_eq_getElem?_getD]; done) | (simp [-List.getD_eq_getElem?_getD]; omega) | (simp [-List.getD_eq_getElem?_getD]; repeat (first | intro _ | exact And.intro ‹_› ‹_› | apply And.intro | assumption | omega | exact decide_eq_true (by assumption)))), hK _ ?_⟩
  clear K hK
  refine awpS_seq ?_
  refine awpS_regL ?_
  refine awpL_reg T_ok 3 fun K hK => ?_
  simp [hG, List.getD_cons_zero, List.getD_cons_succ, -List.getD_eq_getElem?_getD]
  first | refine hK _ ?_ | refine ⟨Cond.mk (by first | omega | (simp [-List.getD_eq_getElem?_getD]; done) | (simp [-List.getD_eq_getElem?_getD]; omega) | (simp [-List.getD_eq_getElem?_getD]; repeat (first | intro _ | exact And.intro ‹_› ‹_› | apply And.intro | assumption | omega | exact decide_eq_true (by assumption)))), hK _ ?_⟩
  clear K hK
  refine awpL_callB (mem [0]) cal41 (by simp [flat]) rfl rfl (fun _ => rfl) (fun hg => containsQ_c g.edges (fun x => hasI c x.frm && hasI c x.to) 52 1 (fun _ => .vptr 1 (fun _ => ints c) 0) hed cal52 (fun _ => by simp) fun x _ => cyc2_c c x hl) (fun hg => ?_) (fun hg => ?_) fun K hK => ?_
  · simp [hG, List.getD_cons_zero, List.getD_cons_succ, -List.getD_eq_getElem?_getD]
  · simp [hG, List.getD_cons_zero, List.getD_cons_succ, -List.getD_eq_getElem?_getD]
  simp [hG, List.getD_cons_zero, List.getD_cons_succ, -List.getD_eq_getElem?_getD]
  refine hK _ ?_
  clear K hK
  refine awpL_reg T_ok 1 fun K hK => ?_
  simp [hG, List.getD_cons_zero, List.getD_cons_succ, -List.getD_eq_getElem?_getD]
  first | refine hK _ ?_ | refine ⟨Cond.mk (by first | omega | (simp [-List.getD_eq_getElem?_getD]; done) | (simp [-List.getD_eq_getElem?_getD]; omega) | (simp [-List.getD_eq_getElem?_getD]; repeat (first | intro _ | exact And.intro ‹_› ‹_› | apply And.intro | assumption | omega | exact decide_eq_true (by assumption)))), hK _ ?_⟩
  clear K hK
  refine awpL_nil ?_
  refine awpS_ret ?_
  refine RetOK_of ?_
  simp [hG, List.getD_cons_zero, List.getD_cons_succ, -List.getD_eq_getElem?_getD]
  rfl

set_option maxRecDepth 100000 in
theorem sink1_c (g : Gr) (c : List Int) (hl : c.length ≤ 64) (hed : g.edges.length ≤ 1024) : PC Try.prog 54 [ints c, .vptr 3 (grF g) 0] (.bool (!leaves g c)) := by
  refine PC_introS T_ok Try.func54 rfl (by simp [Try.ntmps54]) fun G hG hR => ?_
  simp only [Try.ntmps54, Try.results54] at hG ⊢
  simp only [argEnv, Nat.zero_add, Nat.reduceAdd]
  refine awpS_seq ?_
  refine awpS_reg T_ok fun K hK => ?_
  simp [hG, List.getD_cons_zero, List.getD_cons_succ, -List.getD_eq_getElem?_getD]
  first | refine hK _ ?_ | refine ⟨Cond.mk (by first | omega | (simp [-List.getD_eq_getElem?_getD]; done) | (simp [-List.getD_eq_getElem?_getD]; omega) | (simp [-List.getD_eq_getElem?_getD]; repeat (first | intro _ | exact And.intro ‹_› ‹_› | apply And.intro | assumption | omega | exact decide_eq_true (by assumption)))), hK _ ?_⟩
  clear K hK
  refine awpS_seq ?_
  refine awpS_regL ?_
  refine awpL_reg T_ok 3 fun K hK => ?_
  simp [hG, List.getD_cons_zero, List.getD_cons_succ, -List.getD_eq_getElem?_getD]
  first | refine hK _ ?_ | refine ⟨Cond.mk (by first | omega | (simp [-List.getD_eq_getElem?_getD]; done) | (simp [-List.getD_eq_getElem?_getD]; omega) | (simp [-List.getD_eq_getElem?_getD]; repeat (first | intro _ | exact And.intro ‹_› ‹_› | apply And.intro | assumption | omega | exact decide_eq_true (by assumption)))), hK _ ?_⟩
  clear K hK
  refine awpL_callB (mem [0]) cal41 (by simp [flat]) rfl rfl (fun _ => rfl) (fun hg => containsQ_c g.edges (fun x => hasI c x.frm && !hasI c x.to) 55 1 (fun _ => .vptr 1 (fun _ => ints c) 0) hed cal55 (fun _ => by simp) fun x _ => sink2_c c x hl) (fun hg => ?_) (fun hg => ?_) fun K hK => ?_
  · simp [hG, List.getD_cons_zero, List.getD_cons_succ, -List.getD_eq_getElem?_getD]
  · simp [hG, List.getD_cons_zero, List.getD_cons_succ, -List.getD_eq_getElem?_getD]
  simp [hG, List.getD_cons_zero, List.getD_cons_succ, -List.getD_eq_getElem?_getD]
  refine hK _ ?_
  clear K hK
  refine awpL_reg T_ok 2 fun K hK => ?_
  simp [hG, List.getD_cons_zero, List.getD_cons_succ, -List.getD_eq_getElem?_getD]
  first | refine hK _ ?_ | refine ⟨Cond.mk (by first | omega | (simp [-List.getD_eq_getElem?_getD]; done) | (simp [-List.getD_eq_getElem?_getD]; omega) | (simp [-List.getD_eq_getElem?_getD]; repeat (first | intro _ | exact And.intro ‹_› ‹_› | apply And.intro | assumption | omega | exact decide_eq_true (by assumption)))), hK _ ?_⟩
  clear K hK
  refine awpL_nil ?_
  refine awpS_ret ?_
  refine RetOK_of ?_
  simp [hG, List.getD_cons_zero, List.getD_cons_succ, -List.getD_eq_getElem?_getD]
  rfl

set_option maxRecDepth 100000 in
theorem cyclic_c (g : Gr) : PC Try.prog 16 [.agg 3 (grF g)] (.tup 2 (fun j => [rowsI (if gcheck g = 0 then (compsL g).filter (cycB g) else []), .int .i64 (if gcheck g = 0 then 0 else 1)].getD j .any)) := by
  refine PC_introS T_ok Try.func16 rfl (by simp [Try.ntmps16]) fun G hG hR => ?_
  simp only [Try.ntmps16, Try.results16] at hG ⊢
  simp only [argEnv, Nat.zero_add, Nat.reduceAdd]
  refine awpS_seq ?_
  refine awpS_reg T_ok fun K hK => ?_
  simp [hG, List.getD_cons_zero, List.getD_cons_succ, -List.getD_eq_getElem?_getD]
  first | refine hK _ ?_ | refine ⟨Cond.mk (by first | omega | (simp [-List.getD_eq_getElem?_getD]; done) | (simp [-List.getD_eq_getElem?_getD]; omega) | (simp [-List.getD_eq_getElem?_getD]; repeat (first | intro _ | exact And.intro ‹_› ‹_› | apply And.intro | assumption | omega | exact decide_eq_true (by assumption)))), hK _ ?_⟩
  clear K hK
  refine awpS_seq ?_
  refine awpS_wk (st2 := ⟨[(1, .vptr 3 (grF g) 0)], [], 0⟩) ?_ ?_
  ·
    refine wk_of (id) (fun _ => true) (fun _ => false) ?_ ?_ rfl (Nat.zero_le _) (fun k hk => absurd hk (Nat.not_lt_zero _))
    · simp [hG, List.getD_cons_zero, List.getD_cons_succ, -List.getD_eq_getElem?_getD]
    · simp [hG, List.getD_cons_zero, List.getD_cons_succ, -List.getD_eq_getElem?_getD]
  refine awpS_regL ?_
  refine awpL_reg T_ok 2 fun K hK => ?_
  simp [hG, List.getD_cons_zero, List.getD_cons_succ, -List.getD_eq_getElem?_getD]
  first | refine hK _ ?_ | refine ⟨Cond.mk (by first | omega | (simp [-List.getD_eq_getElem?_getD]; done) | (simp [-List.getD_eq_getElem?_getD]; omega) | (simp [-List.getD_eq_getElem?_getD]; repeat (first | intro _ | exact And.intro ‹_› ‹_› | apply And.intro | assumption | omega | exact decide_eq_true (by assumption)))), hK _ ?_⟩
  clear K hK
  refine awpL_call cal47 rfl rfl (fun _ => rfl) (fun hg => some_c g (cycB g) 51 1 (fun _ => .vptr 3 (grF g) 0) cal51 (fun _ => by simp) fun hgc s hs => cyc1_c g (compL g s) (Nat.le_trans compAt_len (by have := (gcheck_fit hgc).st; unfold Gr.n; omega)) (gcheck_valid hgc).1.ed) (fun hg => ?_) (fun hg => ?_) fun K hK => ?_
  · simp [hG, List.getD_cons_zero, List.getD_cons_succ, -List.getD_eq_getElem?_getD]
  · simp [hG, List.getD_cons_zero, List.getD_cons_succ, -List.getD_eq_getElem?_getD]
  simp [hG, List.getD_cons_zero, List.getD_cons_succ, -List.getD_eq_getElem?_getD]
  refine hK _ ?_
  clear K hK
  refine awpL_reg T_ok 4 fun K hK => ?_
  simp [hG, List.getD_cons_zero, List.getD_cons_succ, -List.getD_eq_getElem?_getD]
  first | refine hK _ ?_ | refine ⟨Cond.mk (by first | omega | (simp [-List.getD_eq_getElem?_getD]; done) | (simp [-List.getD_eq_getElem?_getD]; omega) | (simp [-List.getD_eq_getElem?_getD]; repeat (first | intro _ | exact And.intro ‹_› ‹_› | apply And.intro | assumption | omega | exact decide_eq_true (by assumption)))), hK _ ?_⟩
  clear K hK
  refine awpL_nil ?_
  refine awpS_ret ?_
  refine RetOK_of ?_
  simp [hG, List.getD_cons_zero, List.getD_cons_succ, -List.getD_eq_getElem?_getD]

set_option maxRecDepth 100000 in
theorem sinks_c (g : Gr) : PC Try.prog 18 [.agg 3 (grF g)] (.tup 2 (fun j => [rowsI (if gcheck g = 0 then (compsL g).filter (fun c => !leaves g c) else []), .int .i64 (if gcheck g = 0 then 0 else 1)].getD j .any)) := by
  refine PC_introS T_ok Try.func18 rfl (by simp [Try.ntmps18]) fun G hG hR => ?_
  simp only [Try.ntmps18, Try.results18] at hG ⊢
  simp only [argEnv, Nat.zero_add, Nat.reduceAdd]
  refine awpS_seq ?_
  refine awpS_reg T_ok fun K hK => ?_
  simp [hG, List.getD_cons_zero, List.getD_cons_succ, -List.getD_eq_getElem?_getD]
  first | refine hK _ ?_ | refine ⟨Cond.mk (by first | omega | (simp [-List.getD_eq_getElem?_getD]; done) | (simp [-List.getD_eq_getElem?_getD]; omega) | (simp [-List.getD_eq_getElem?_getD]; repeat (first | intro _ | exact And.intro ‹_› ‹_› | apply And.intro | assumption | omega | exact decide_eq_true (by assumption)))), hK _ ?_⟩
  clear K hK
  refine awpS_seq ?_
  refine awpS_wk (st2 := ⟨[(1, .vptr 3 (grF g) 0)], [], 0⟩) ?_ ?_
  ·
    refine wk_of (id) (fun _ => true) (fun _ => false) ?_ ?_ rfl (Nat.zero_le _) (fun k hk => absurd hk (Nat.not_lt_zero _))
    · simp [hG, List.getD_cons_zero, List.getD_cons_succ, -List.getD_eq_getElem?_getD]
    · simp [hG, List.getD_cons_zero, List.getD_cons_succ, -List.getD_eq_getElem?_getD]
  refine awpS_regL ?_
  refine awpL_reg T_ok 2 fun K hK => ?_
  simp [hG, List.getD_cons_zero, List.getD_cons_succ, -List.getD_eq_getElem?_getD]
  first | refine hK _ ?_ | refine ⟨Cond.mk (by first | omega | (simp [-List.getD_eq_getElem?_getD]; done) | (simp [-List.getD_eq_getElem?_getD]; omega) | (simp [-List.getD_eq_getElem?_getD]; repeat (first | intro _ | exact And.intro ‹_› ‹_› | apply And.intro | assumption | omega | exact decide_eq_true (by assumption)))), hK _ ?_⟩
  clear K hK
  refine awpL_call cal47 rfl rfl (fun _ => rfl) (fun hg => some_c g (fun c => !leaves g c) 54 1 (fun _ => .vptr 3 (grF g) 0) cal54 (fun _ => by simp) fun hgc s hs => sink1_c g (compL g s) (Nat.le_trans compAt_len (by have := (gcheck_fit hgc).st; unfold Gr.n; omega)) (gcheck_valid hgc).1.ed) (fun hg => ?_) (fun hg => ?_) fun K hK => ?_
  · simp [hG, List.getD_cons_zero, List.getD_cons_succ, -List.getD_eq_getElem?_getD]
  · simp [hG, List.getD_cons_zero, List.getD_cons_succ, -List.getD_eq_getElem?_getD]
  simp [hG, List.getD_cons_zero, List.getD_cons_succ, -List.getD_eq_getElem?_getD]
  refine hK _ ?_
  clear K hK
  refine awpL_reg T_ok 4 fun K hK => ?_
  simp [hG, List.getD_cons_zero, List.getD_cons_succ, -List.getD_eq_getElem?_getD]
  first | refine hK _ ?_ | refine ⟨Cond.mk (by first | omega | (simp [-List.getD_eq_getElem?_getD]; done) | (simp [-List.getD_eq_getElem?_getD]; omega) | (simp [-List.getD_eq_getElem?_getD]; repeat (first | intro _ | exact And.intro ‹_› ‹_› | apply And.intro | assumption | omega | exact decide_eq_true (by assumption)))), hK _ ?_⟩
  clear K hK
  refine awpL_nil ?_
  refine awpS_ret ?_
  refine RetOK_of ?_
  simp [hG, List.getD_cons_zero, List.getD_cons_succ, -List.getD_eq_getElem?_getD]

set_option maxRecDepth 100000 in
theorem refOf_c (g : Gr) : PC Try.prog 15 [.agg 3 (grF g)] (.tup 2 (fun j => [rowsI (if gcheck g = 0 then compsL g else []), .int .i64 (if gcheck g = 0 then 0 else 1)].getD j .any)) := by
  refine PC_introS T_ok Try.func15 rfl (by simp [Try.ntmps15]) fun G hG hR => ?_
  simp only [Try.ntmps15, Try.results15] at hG ⊢
  simp only [argEnv, Nat.zero_add, Nat.reduceAdd]
  refine awpS_seq ?_
  refine awpS_reg T_ok fun K hK => ?_
  simp [hG, List.getD_cons_zero, List.getD_cons_succ, -List.getD_eq_getElem?_getD, reachL_len]
  first | refine hK _ ?_ | refine ⟨Cond.mk (by first | omega | (simp [-List.getD_eq_getElem?_getD]; done) | (simp [-List.getD_eq_getElem?_getD]; omega) | (simp [-List.getD_eq_getElem?_getD]; repeat (first | intro _ | exact And.intro ‹_› ‹_› | apply And.intro | assumption | omega | exact decide_eq_true (by assumption)))), hK _ ?_⟩
  clear K hK
  refine awpS_seq ?_
  refine awpS_seq ?_
  refine awpS_regL ?_
  refine awpL_reg T_ok 1 fun K hK => ?_
  simp [hG, List.getD_cons_zero, List.getD_cons_succ, -List.getD_eq_getElem?_getD, reachL_len]
  first | refine hK _ ?_ | refine ⟨Cond.mk (by first | omega | (simp [-List.getD_eq_getElem?_getD]; done) | (simp [-List.getD_eq_getElem?_getD]; omega) | (simp [-List.getD_eq_getElem?_getD]; repeat (first | intro _ | exact And.intro ‹_› ‹_› | apply And.intro | assumption | omega | exact decide_eq_true (by assumption)))), hK _ ?_⟩
  clear K hK
  refine awpL_call cal49 rfl rfl (fun _ => rfl) (fun hg => check_c g) (fun hg => ?_) (fun hg => ?_) fun K hK => ?_
  · simp [hG, List.getD_cons_zero, List.getD_cons_succ, -List.getD_eq_getElem?_getD, reachL_len]
  · simp [hG, List.getD_cons_zero, List.getD_cons_succ, -List.getD_eq_getElem?_getD, reachL_len]
  simp [hG, List.getD_cons_zero, List.getD_cons_succ, -List.getD_eq_getElem?_getD, reachL_len]
  refine hK _ ?_
  clear K hK
  refine awpL_reg T_ok 1 fun K hK => ?_
  simp [hG, List.getD_cons_zero, List.getD_cons_succ, -List.getD_eq_getElem?_getD, reachL_len]
  first | refine hK _ ?_ | refine ⟨Cond.mk (by first | omega | (simp [-List.getD_eq_getElem?_getD]; done) | (simp [-List.getD_eq_getElem?_getD]; omega) | (simp [-List.getD_eq_getElem?_getD]; repeat (first | intro _ | exact And.intro ‹_› ‹_› | apply And.intro | assumption | omega | exact decide_eq_true (by assumption)))), hK _ ?_⟩
  clear K hK
  refine awpL_nil ?_
  refine awpS_cond rfl (fun hb13 => ?_) (fun hb13 => ?_)
  ·
    try simp [-List.getD_eq_getElem?_getD] at hb13
    refine awpS_seq ?_
    refine awpS_reg T_ok fun K hK => ?_
    simp [hG, List.getD_cons_zero, List.getD_cons_succ, -List.getD_eq_getElem?_getD, reachL_len]
    first | refine hK _ ?_ | refine ⟨Cond.mk (by first | omega | (simp [-List.getD_eq_getElem?_getD]; done) | (simp [-List.getD_eq_getElem?_getD]; omega) | (simp [-List.getD_eq_getElem?_getD]; repeat (first | intro _ | exact And.intro ‹_› ‹_› | apply And.intro | assumption | omega | exact decide_eq_true (by assumption)))), hK _ ?_⟩
    clear K hK
    refine awpS_ret ?_
    refine RetOK_of ?_
    simp [hG, List.getD_cons_zero, List.getD_cons_succ, -List.getD_eq_getElem?_getD, reachL_len]
    rw [if_neg hb13]; exact ⟨⟨rfl, fun h => absurd h hb13, fun i hi => absurd hi (Nat.not_lt_zero _)⟩, hb13⟩
  ·
    try simp [-List.getD_eq_getElem?_getD] at hb13
    have hgc : gcheck g = 0 := (by simpa using hb13)
    have hf := gcheck_fit hgc
    have hed := (gcheck_valid hgc).1.ed
    have hst := hf.st
    have hnn : (g.n : Int) = g.states := (by unfold Gr.n; omega)
    refine awpS_skip ?_
    refine awpS_seq ?_
    refine awpS_reg T_ok fun K hK => ?_
    simp [hG, List.getD_cons_zero, List.getD_cons_succ, -List.getD_eq_getElem?_getD, reachL_len]
    first | refine hK _ ?_ | refine ⟨Cond.mk (by first | omega | (simp [-List.getD_eq_getElem?_getD]; done) | (simp [-List.getD_eq_getElem?_getD]; omega) | (simp [-List.getD_eq_getElem?_getD]; repeat (first | intro _ | exact And.intro ‹_› ‹_› | apply And.intro | assumption | omega | exact decide_eq_true (by assumption)))), hK _ ?_⟩
    clear K hK
    refine awpS_seq ?_
    refine awpS_seq ?_
    refine awpS_reg T_ok fun K hK => ?_
    simp [hG, List.getD_cons_zero, List.getD_cons_succ, -List.getD_eq_getElem?_getD, reachL_len]
    first | refine hK _ ?_ | refine ⟨Cond.mk (by first | omega | (simp [-List.getD_eq_getElem?_getD]; done) | (simp [-List.getD_eq_getElem?_getD]; omega) | (simp [-List.getD_eq_getElem?_getD]; repeat (first | intro _ | exact And.intro ‹_› ‹_› | apply And.intro | assumption | omega | exact decide_eq_true (by assumption)))), hK _ ?_⟩
    clear K hK
    refine awpS_block ?_
    refine awpS_loop (α := Nat) (fun k => ⟨[(1, .ptr (0, 0) 0 0), (4, .sl (1, 0) 0 k), (5, .int .i64 k)], [(0, .one (.arr 1 3 (fun _ => grF g))), (1, .one (.arr k 1 (fun j _ => bools (reachL g j))))], 2⟩) (fun k => k ≤ g.n) (fun k => g.n - k) (0) (Nat.zero_le _) ?_ ?_
    ·
      refine wk_of (id) (fun _ => false) (fun _ => false) ?_ ?_ rfl (Nat.zero_le _) (fun k hk => absurd hk (Nat.not_lt_zero _))
      · simp [hG, List.getD_cons_zero, List.getD_cons_succ, -List.getD_eq_getElem?_getD, reachL_len]
      · simp [hG, List.getD_cons_zero, List.getD_cons_succ, -List.getD_eq_getElem?_getD, reachL_len]
    ·
      rintro k hk
      refine awpS_seq ?_
      refine awpS_seq ?_
      refine awpS_reg T_ok fun K hK => ?_
      simp [hG, List.getD_cons_zero, List.getD_cons_succ, -List.getD_eq_getElem?_getD, reachL_len]
      first | refine hK _ ?_ | refine ⟨Cond.mk (by first | omega | (simp [-List.getD_eq_getElem?_getD]; done) | (simp [-List.getD_eq_getElem?_getD]; omega) | (simp [-List.getD_eq_getElem?_getD]; repeat (first | intro _ | exact And.intro ‹_› ‹_› | apply And.intro | assumption | omega | exact decide_eq_true (by assumption)))), hK _ ?_⟩
      clear K hK
      refine awpS_cond rfl (fun hb19 => ?_) (fun hb19 => ?_)
      ·
        try simp [-List.getD_eq_getElem?_getD] at hb19
        refine awpS_skip ?_
        refine awpS_seq ?_
        refine awpS_block ?_
        refine awpS_regL ?_
        refine awpL_reg T_ok 3 fun K hK => ?_
        simp [hG, List.getD_cons_zero, List.getD_cons_succ, -List.getD_eq_getElem?_getD, reachL_len]
        first | refine hK _ ?_ | refine ⟨Cond.mk (by first | omega | (simp [-List.getD_eq_getElem?_getD]; done) | (simp [-List.getD_eq_getElem?_getD]; omega) | (simp [-List.getD_eq_getElem?_getD]; repeat (first | intro _ | exact And.intro ‹_› ‹_› | apply And.intro | assumption | omega | exact decide_eq_true (by assumption)))), hK _ ?_⟩
        clear K hK
        refine awpL_call cal50 rfl rfl (fun _ => rfl) (fun hg => reachedR_c g k hf hed (by omega)) (fun hg => ?_) (fun hg => ?_) fun K hK => ?_
        · simp [hG, List.getD_cons_zero, List.getD_cons_succ, -List.getD_eq_getElem?_getD, reachL_len]
        · simp [hG, List.getD_cons_zero, List.getD_cons_succ, -List.getD_eq_getElem?_getD, reachL_len]
        simp [hG, List.getD_cons_zero, List.getD_cons_succ, -List.getD_eq_getElem?_getD, reachL_len]
        refine hK _ ?_
        clear K hK
        refine awpL_reg T_ok 3 fun K hK => ?_
        simp [hG, List.getD_cons_zero, List.getD_cons_succ, -List.getD_eq_getElem?_getD, reachL_len]
        first | refine hK _ ?_ | refine ⟨Cond.mk (by first | omega | (simp [-List.getD_eq_getElem?_getD]; done) | (simp [-List.getD_eq_getElem?_getD]; omega) | (simp [-List.getD_eq_getElem?_getD]; repeat (first | intro _ | exact And.intro ‹_› ‹_› | apply And.intro | assumption | omega | exact decide_eq_true (by assumption)))), hK _ ?_⟩
        clear K hK
        refine awpL_nil ?_
        refine awpS_nil ?_
        refine blockQ_norm (thenQ_norm ?_)
        refine awpS_reg T_ok fun K hK => ?_
        simp [hG, List.getD_cons_zero, List.getD_cons_succ, -List.getD_eq_getElem?_getD, reachL_len]
        first | refine hK _ ?_ | refine ⟨Cond.mk (by first | omega | (simp [-List.getD_eq_getElem?_getD]; done) | (simp [-List.getD_eq_getElem?_getD]; omega) | (simp [-List.getD_eq_getElem?_getD]; repeat (first | intro _ | exact And.intro ‹_› ‹_› | apply And.intro | assumption | omega | exact decide_eq_true (by assumption)))), hK _ ?_⟩
        clear K hK
        refine awpS_nil ?_
        refine round_end (k + 1) (by omega) (by omega) ?_
        refine wk_of (fun k => if k = 1 then 3 else k) (fun _ => false) (fun _ => false) ?_ ?_ rfl (Nat.zero_le _) (fun k hk => absurd hk (Nat.not_lt_zero _))
        · simp [hG, List.getD_cons_zero, List.getD_cons_succ, -List.getD_eq_getElem?_getD, reachL_len]
        · simp [hG, reachL_len, List.getD_cons_zero, List.getD_cons_succ, -List.getD_eq_getElem?_getD]; intro i hi; rw [app_fn hi]; exact Clo.le _ Clo_bools
      ·
        try simp [-List.getD_eq_getElem?_getD] at hb19
        obtain rfl : k = g.n := (by omega)
        refine awpS_exit ?_
        refine thenQ_exit (thenQ_exit ?_)
        refine blockQ_exit (thenQ_norm ?_)
        refine awpS_seq ?_
        refine awpS_reg T_ok fun K hK => ?_
        simp [hG, List.getD_cons_zero, List.getD_cons_succ, -List.getD_eq_getElem?_getD, reachL_len]
        first | refine hK _ ?_ | refine ⟨Cond.mk (by first | omega | (simp [-List.getD_eq_getElem?_getD]; done) | (simp [-List.getD_eq_getElem?_getD]; omega) | (simp [-List.getD_eq_getElem?_getD]; repeat (first | intro _ | exact And.intro ‹_› ‹_› | apply And.intro | assumption | omega | exact decide_eq_true (by assumption)))), hK _ ?_⟩
        clear K hK
        refine awpS_seq ?_
        refine awpS_seq ?_
        refine awpS_reg T_ok fun K hK => ?_
        simp [hG, List.getD_cons_zero, List.getD_cons_succ, -List.getD_eq_getElem?_getD, reachL_len]
        first | refine hK _ ?_ | refine ⟨Cond.mk (by first | omega | (simp [-List.getD_eq_getElem?_getD]; done) | (simp [-List.getD_eq_getElem?_getD]; omega) | (simp [-List.getD_eq_getElem?_getD]; repeat (first | intro _ | exact And.intro ‹_› ‹_› | apply And.intro | assumption | omega | exact decide_eq_true (by assumption)))), hK _ ?_⟩
        clear K hK
        refine awpS_block ?_
        refine awpS_loop (α := Nat) (fun i => ⟨[(1, .ptr (0, 0) 0 0), (4, .sl (1, 0) 0 g.n), (6, .sl (2, 0) 0 (compsAt g i).length), (7, .int .i64 i)], [(0, .one (.arr 1 3 (fun _ => grF g))), (1, .one (.arr g.n 1 (fun j _ => bools (reachL g j)))), (2, .one (.arr ((compsAt g i)).length 1 (fun j _ => ints (((compsAt g i)).getD j []))))], 3⟩) (fun i => i ≤ g.n) (fun i => g.n - i) (0) (Nat.zero_le _) ?_ ?_
        ·
          refine wk_of (id) (fun _ => false) (fun _ => false) ?_ ?_ rfl (Nat.zero_le _) (fun k hk => absurd hk (Nat.not_lt_zero _))
          · simp [hG, List.getD_cons_zero, List.getD_cons_succ, -List.getD_eq_getElem?_getD, reachL_len]
          · simp [hG, List.getD_cons_zero, List.getD_cons_succ, -List.getD_eq_getElem?_getD, reachL_len]
        ·
          rintro i hi
          refine awpS_seq ?_
          refine awpS_seq ?_
          refine awpS_reg T_ok fun K hK => ?_
          simp [hG, List.getD_cons_zero, List.getD_cons_succ, -List.getD_eq_getElem?_getD, reachL_len]
          first | refine hK _ ?_ | refine ⟨Cond.mk (by first | omega | (simp [-List.getD_eq_getElem?_getD]; done) | (simp [-List.getD_eq_getElem?_getD]; omega) | (simp [-List.getD_eq_getElem?_getD]; repeat (first | intro _ | exact And.intro ‹_› ‹_› | apply And.intro | assumption | omega | exact decide_eq_true (by assumption)))), hK _ ?_⟩
          clear K hK
          refine awpS_cond rfl (fun hb32 => ?_) (fun hb32 => ?_)
          ·
            try simp [-List.getD_eq_getElem?_getD] at hb32
            refine awpS_skip ?_
            refine awpS_seq ?_
            refine awpS_block ?_
            refine awpS_seq ?_
            refine awpS_reg T_ok fun K hK => ?_
            simp [hG, List.getD_cons_zero, List.getD_cons_succ, -List.getD_eq_getElem?_getD, reachL_len]
            first | refine hK _ ?_ | refine ⟨Cond.mk (by first | omega | (simp [-List.getD_eq_getElem?_getD]; done) | (simp [-List.getD_eq_getElem?_getD]; omega) | (simp [-List.getD_eq_getElem?_getD]; repeat (first | intro _ | exact And.intro ‹_› ‹_› | apply And.intro | assumption | omega | exact decide_eq_true (by assumption)))), hK _ ?_⟩
            clear K hK
            refine awpS_seq ?_
            refine awpS_seq ?_
            refine awpS_reg T_ok fun K hK => ?_
            simp [hG, List.getD_cons_zero, List.getD_cons_succ, -List.getD_eq_getElem?_getD, reachL_len]
            first | refine hK _ ?_ | refine ⟨Cond.mk (by first | omega | (simp [-List.getD_eq_getElem?_getD]; done) | (simp [-List.getD_eq_getElem?_getD]; omega) | (simp [-List.getD_eq_getElem?_getD]; repeat (first | intro _ | exact And.intro ‹_› ‹_› | apply And.intro | assumption | omega | exact decide_eq_true (by assumption)))), hK _ ?_⟩
            clear K hK
            refine awpS_block ?_
            refine awpS_loop (α := Nat) (fun k => ⟨[(1, .ptr (0, 0) 0 0), (4, .sl (1, 0) 0 g.n), (6, .sl (2, 0) 0 (compsAt g i).length), (7, .int .i64 i), (8, .sl (3, 0) 0 (compAt g i k).length), (9, .bool (firstAt g i k)), (10, .int .i64 k)], [(0, .one (.arr 1 3 (fun _ => grF g))), (1, .one (.arr g.n 1 (fun j _ => bools (reachL g j)))), (2, .one (.arr ((compsAt g i)).length 1 (fun j _ => ints (((compsAt g i)).getD j [])))), (3, .one (.arr (compAt g i k).length 1 (fun j _ => .int .i64 ((compAt g i k).getD j 0))))], 4⟩) (fun k => k ≤ g.n) (fun k => g.n - k) (0) (Nat.zero_le _) ?_ ?_
            ·
              refine wk_of (id) (fun _ => false) (fun _ => false) ?_ ?_ rfl (Nat.zero_le _) (fun k hk => absurd hk (Nat.not_lt_zero _))
              · simp [hG, List.getD_cons_zero, List.getD_cons_succ, -List.getD_eq_getElem?_getD, reachL_len]
              · simp [hG, List.getD_cons_zero, List.getD_cons_succ, -List.getD_eq_getElem?_getD, reachL_len]
            ·
              rintro k hk
              refine awpS_seq ?_
              refine awpS_seq ?_
              refine awpS_reg T_ok fun K hK => ?_
              simp [hG, List.getD_cons_zero, List.getD_cons_succ, -List.getD_eq_getElem?_getD, reachL_len]
              first | refine hK _ ?_ | refine ⟨Cond.mk (by first | omega | (simp [-List.getD_eq_getElem?_getD]; done) | (simp [-List.getD_eq_getElem?_getD]; omega) | (simp [-List.getD_eq_getElem?_getD]; repeat (first | intro _ | exact And.intro ‹_› ‹_› | apply And.intro | assumption | omega | exact decide_eq_true (by assumption)))), hK _ ?_⟩
              clear K hK
              refine awpS_cond rfl (fun hb39 => ?_) (fun hb39 => ?_)
              ·
                try simp [-List.getD_eq_getElem?_getD] at hb39
                refine awpS_skip ?_
                refine awpS_seq ?_
                refine awpS_block ?_
                refine awpS_seq ?_
                refine awpS_reg T_ok fun K hK => ?_
                simp [hG, List.getD_cons_zero, List.getD_cons_succ, -List.getD_eq_getElem?_getD, reachL_len]
                first | refine hK _ ?_ | refine ⟨Cond.mk (by simp [-List.getD_eq_getElem?_getD, reachL_len]; refine ⟨by omega, by omega, fun h => ⟨h, by omega⟩, fun h => ⟨h, by omega⟩⟩), hK _ ?_⟩
                clear K hK
                refine awpS_cond rfl (fun hb57 => ?_) (fun hb57 => ?_)
                ·
                  try simp [-List.getD_eq_getElem?_getD] at hb57
                  have hm : mutB g i k = true := (by simp only [mutB, hb57, Bool.and_self])
                  have hcl := compAt_len (g := g) (s := i) (k := k)
                  refine awpS_seq ?_
                  refine awpS_reg T_ok fun K hK => ?_
                  simp [hG, List.getD_cons_zero, List.getD_cons_succ, -List.getD_eq_getElem?_getD, reachL_len]
                  first | refine hK _ ?_ | refine ⟨Cond.mk (by first | omega | (simp [-List.getD_eq_getElem?_getD]; done) | (simp [-List.getD_eq_getElem?_getD]; omega) | (simp [-List.getD_eq_getElem?_getD]; repeat (first | intro _ | exact And.intro ‹_› ‹_› | apply And.intro | assumption | omega | exact decide_eq_true (by assumption)))), hK _ ?_⟩
                  clear K hK
                  refine awpS_reg T_ok fun K hK => ?_
                  simp [hG, List.getD_cons_zero, List.getD_cons_succ, -List.getD_eq_getElem?_getD, reachL_len]
                  first | refine hK _ ?_ | refine ⟨Cond.mk (by first | omega | (simp [-List.getD_eq_getElem?_getD]; done) | (simp [-List.getD_eq_getElem?_getD]; omega) | (simp [-List.getD_eq_getElem?_getD]; repeat (first | intro _ | exact And.intro ‹_› ‹_› | apply And.intro | assumption | omega | exact decide_eq_true (by assumption)))), hK _ ?_⟩
                  clear K hK
                  refine awpS_nil ?_
                  refine blockQ_norm (thenQ_norm ?_)
                  refine awpS_reg T_ok fun K hK => ?_
                  simp [hG, List.getD_cons_zero, List.getD_cons_succ, -List.getD_eq_getElem?_getD, reachL_len]
                  first | refine hK _ ?_ | refine ⟨Cond.mk (by first | omega | (simp [-List.getD_eq_getElem?_getD]; done) | (simp [-List.getD_eq_getElem?_getD]; omega) | (simp [-List.getD_eq_getElem?_getD]; repeat (first | intro _ | exact And.intro ‹_› ‹_› | apply And.intro | assumption | omega | exact decide_eq_true (by assumption)))), hK _ ?_⟩
                  clear K hK
                  refine awpS_nil ?_
                  refine round_end (k + 1) (by omega) (by omega) ?_
                  refine wk_of (fun k => if k = 3 then 5 else k) (fun _ => false) (fun _ => false) ?_ ?_ rfl (Nat.zero_le _) (fun k hk => absurd hk (Nat.not_lt_zero _))
                  · simp [hG, List.getD_cons_zero, List.getD_cons_succ, -List.getD_eq_getElem?_getD]; rw [compAt_succ, if_pos hm, firstAt_succ, hm]; simp
                  · simp [hG, List.getD_cons_zero, List.getD_cons_succ, -List.getD_eq_getElem?_getD]; rw [compAt_succ, if_pos hm]; exact ⟨by simp, fun q hq => app_one (by simpa using hq)⟩
                ·
                  try simp [-List.getD_eq_getElem?_getD] at hb57
                  have hm : ¬ mutB g i k = true := (by unfold mutB; simpa [-List.getD_eq_getElem?_getD] using hb57)
                  refine awpS_skip ?_
                  refine awpS_nil ?_
                  refine blockQ_norm (thenQ_norm ?_)
                  refine awpS_reg T_ok fun K hK => ?_
                  simp [hG, List.getD_cons_zero, List.getD_cons_succ, -List.getD_eq_getElem?_getD, reachL_len]
                  first | refine hK _ ?_ | refine ⟨Cond.mk (by first | omega | (simp [-List.getD_eq_getElem?_getD]; done) | (simp [-List.getD_eq_getElem?_getD]; omega) | (simp [-List.getD_eq_getElem?_getD]; repeat (first | intro _ | exact And.intro ‹_› ‹_› | apply And.intro | assumption | omega | exact decide_eq_true (by assumption)))), hK _ ?_⟩
                  clear K hK
                  refine awpS_nil ?_
                  refine round_end (k + 1) (by omega) (by omega) ?_
                  refine wk_of (id) (fun _ => false) (fun _ => false) ?_ ?_ rfl (Nat.zero_le _) (fun k hk => absurd hk (Nat.not_lt_zero _))
                  · simp [hG, List.getD_cons_zero, List.getD_cons_succ, -List.getD_eq_getElem?_getD]; rw [compAt_succ, if_neg hm, firstAt_succ]; simp [hm]
                  · simp [hG, List.getD_cons_zero, List.getD_cons_succ, -List.getD_eq_getElem?_getD]; rw [compAt_succ, if_neg hm]; exact ⟨Nat.le_refl _, fun _ _ => rfl⟩
              ·
                try simp [-List.getD_eq_getElem?_getD] at hb39
                obtain rfl : k = g.n := (by omega)
                have hcp := compL_pos (g := g) (s := i) (by omega)
                have hfa := firstAt_all (g := g) (i := i) (by omega)
                refine awpS_exit ?_
                refine thenQ_exit (thenQ_exit ?_)
                refine blockQ_exit (thenQ_norm ?_)
                refine awpS_seq ?_
                refine awpS_wk (st2 := ⟨[(1, .ptr (0, 0) 0 0), (4, .sl (1, 0) 0 g.n), (6, .sl (2, 0) 0 (compsAt g i).length), (7, .int .i64 i), (8, ints (compL g i)), (9, .bool (firstAt g i g.n))], [(0, .one (.arr 1 3 (fun _ => grF g))), (1, .one (.arr g.n 1 (fun j _ => bools (reachL g j)))), (2, .one (.arr ((compsAt g i)).length 1 (fun j _ => ints (((compsAt g i)).getD j []))))], 3⟩) ?_ ?_
                ·
                  refine wk_of (id) (fun k => k == 3) (fun _ => false) ?_ ?_ rfl (Nat.zero_le _) (fun k hk => absurd hk (Nat.not_lt_zero _))
                  · simp [hG, List.getD_cons_zero, List.getD_cons_succ, -List.getD_eq_getElem?_getD]; first | done | exact ⟨rfl, Nat.le_refl _, fun _ _ => rfl⟩
                  · simp [hG, List.getD_cons_zero, List.getD_cons_succ, -List.getD_eq_getElem?_getD, reachL_len]
                refine awpS_reg T_ok fun K hK => ?_
                simp [hG, List.getD_cons_zero, List.getD_cons_succ, -List.getD_eq_getElem?_getD, reachL_len]
                first | refine hK _ ?_ | refine ⟨Cond.mk (by first | omega | (simp [-List.getD_eq_getElem?_getD]; done) | (simp [-List.getD_eq_getElem?_getD]; omega) | (simp [-List.getD_eq_getElem?_getD]; repeat (first | intro _ | exact And.intro ‹_› ‹_› | apply And.intro | assumption | omega | exact decide_eq_true (by assumption)))), hK _ ?_⟩
                clear K hK
                refine awpS_cond rfl (fun hb68 => ?_) (fun hb68 => ?_)
                ·
                  try simp [-List.getD_eq_getElem?_getD] at hb68
                  have hls : least g i = true := (by rw [← hfa]; exact hb68)
                  have hcl2 := compsAt_len (g := g) (k := i)
                  refine awpS_reg T_ok fun K hK => ?_
                  simp [hG, List.getD_cons_zero, List.getD_cons_succ, -List.getD_eq_getElem?_getD, reachL_len]
                  first | refine hK _ ?_ | refine ⟨Cond.mk (by first | omega | (simp [-List.getD_eq_getElem?_getD]; done) | (simp [-List.getD_eq_getElem?_getD]; omega) | (simp [-List.getD_eq_getElem?_getD]; repeat (first | intro _ | exact And.intro ‹_› ‹_› | apply And.intro | assumption | omega | exact decide_eq_true (by assumption)))), hK _ ?_⟩
                  clear K hK
                  refine awpS_nil ?_
                  refine blockQ_norm (thenQ_norm ?_)
                  refine awpS_reg T_ok fun K hK => ?_
                  simp [hG, List.getD_cons_zero, List.getD_cons_succ, -List.getD_eq_getElem?_getD, reachL_len]
                  first | refine hK _ ?_ | refine ⟨Cond.mk (by first | omega | (simp [-List.getD_eq_getElem?_getD]; done) | (simp [-List.getD_eq_getElem?_getD]; omega) | (simp [-List.getD_eq_getElem?_getD]; repeat (first | intro _ | exact And.intro ‹_› ‹_› | apply And.intro | assumption | omega | exact decide_eq_true (by assumption)))), hK _ ?_⟩
                  clear K hK
                  refine awpS_nil ?_
                  refine round_end (i + 1) (by omega) (by omega) ?_
                  refine wk_of (fun k => if k = 2 then 4 else k) (fun _ => false) (fun _ => false) ?_ ?_ rfl (Nat.zero_le _) (fun k hk => absurd hk (Nat.not_lt_zero _))
                  · simp [hG, List.getD_cons_zero, List.getD_cons_succ, -List.getD_eq_getElem?_getD]; rw [compsAt_succ, if_pos hls]; simp
                  · simp [hG, List.getD_cons_zero, List.getD_cons_succ, -List.getD_eq_getElem?_getD]; rw [compsAt_succ, if_pos hls]; exact ⟨by simp, fun q hq => by rw [app_gen (f := ints) (by simpa using hq)]; exact Clo.le _ Clo_ints⟩
                ·
                  try simp [-List.getD_eq_getElem?_getD] at hb68
                  have hls : ¬ least g i = true := (by rw [← hfa, hb68]; exact Bool.false_ne_true)
                  refine awpS_skip ?_
                  refine awpS_nil ?_
                  refine blockQ_norm (thenQ_norm ?_)
                  refine awpS_reg T_ok fun K hK => ?_
                  simp [hG, List.getD_cons_zero, List.getD_cons_succ, -List.getD_eq_getElem?_getD, reachL_len]
                  first | refine hK _ ?_ | refine ⟨Cond.mk (by first | omega | (simp [-List.getD_eq_getElem?_getD]; done) | (simp [-List.getD_eq_getElem?_getD]; omega) | (simp [-List.getD_eq_getElem?_getD]; repeat (first | intro _ | exact And.intro ‹_› ‹_› | apply And.intro | assumption | omega | exact decide_eq_true (by assumption)))), hK _ ?_⟩
                  clear K hK
                  refine awpS_nil ?_
                  refine round_end (i + 1) (by omega) (by omega) ?_
                  refine wk_of (id) (fun _ => false) (fun _ => false) ?_ ?_ rfl (Nat.zero_le _) (fun k hk => absurd hk (Nat.not_lt_zero _))
                  · simp [hG, List.getD_cons_zero, List.getD_cons_succ, -List.getD_eq_getElem?_getD]; rw [compsAt_succ, if_neg hls]
                  · simp [hG, List.getD_cons_zero, List.getD_cons_succ, -List.getD_eq_getElem?_getD]; rw [compsAt_succ, if_neg hls]; exact ⟨Nat.le_refl _, fun _ _ => Clo.le _ Clo_ints⟩
          ·
            try simp [-List.getD_eq_getElem?_getD] at hb32
            obtain rfl : i = g.n := (by omega)
            refine awpS_exit ?_
            refine thenQ_exit (thenQ_exit ?_)
            refine blockQ_exit (thenQ_norm ?_)
            refine awpS_seq ?_
            refine awpS_reg T_ok fun K hK => ?_
            simp [hG, List.getD_cons_zero, List.getD_cons_succ, -List.getD_eq_getElem?_getD, reachL_len]
            first | refine hK _ ?_ | refine ⟨Cond.mk (by first | omega | (simp [-List.getD_eq_getElem?_getD]; done) | (simp [-List.getD_eq_getElem?_getD]; omega) | (simp [-List.getD_eq_getElem?_getD]; repeat (first | intro _ | exact And.intro ‹_› ‹_› | apply And.intro | assumption | omega | exact decide_eq_true (by assumption)))), hK _ ?_⟩
            clear K hK
            refine awpS_ret ?_
            refine RetOK_of ?_
            simp [hG, List.getD_cons_zero, List.getD_cons_succ, -List.getD_eq_getElem?_getD, reachL_len]
            refine ⟨?_, hgc⟩; rw [if_pos hgc]; exact ⟨rfl, Nat.le_refl _, fun q _ => Clo.le _ Clo_ints⟩

end Go.Proofs.Ytkmnnmclebdjlaa
