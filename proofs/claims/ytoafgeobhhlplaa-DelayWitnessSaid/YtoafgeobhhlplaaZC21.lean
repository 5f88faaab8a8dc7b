/- Parts of the proof: DH. -/
import Derived.Test.YtoafgeobhhlplaaZC20
namespace Go.Proofs.Ytoafgeobhhlplaa
set_option linter.unusedSimpArgs false
set_option linter.unusedVariables false
open Go Go.Lift
def opB (W : List Wd) (i : Nat) (w : Wd) : Bool := decide (W.getD i [] <+: w) && stB W i w && (othF W w i).isSome
def lngW (W : List Wd) (q i : Nat) : Nat → Wd → Option Wd
  | 0, w => if opB W i w = true then some w else none
  | k + 1, w => if opB W i w = true then (List.range q).findSome? fun j => lngW W q i k (w ++ [letters.getD j 0]) else none
def lessW (a b : Wd) : Prop := a.length < b.length ∨ (a.length = b.length ∧ a < b)
instance {a b : Wd} : Decidable (lessW a b) := by unfold lessW; infer_instance
noncomputable def wtU (W : List Wd) (q d : Nat) (k : Nat) (best : Option (Nat × Wd)) : Option (Nat × Wd) := match fstW W q k d with
  | none => best
  | some u => match best with
    | none => some (k, W.getD k [] ++ u)
    | some (b, w) => if lessW (W.getD k [] ++ u) w then some (k, W.getD k [] ++ u) else some (b, w)
noncomputable def wtA (W : List Wd) (q d : Nat) : Nat → Option (Nat × Wd)
  | 0 => none
  | k + 1 => wtU W q d k (wtA W q d k)
noncomputable def wtF (W : List Wd) (q d : Nat) : Option (Nat × Wd) := wtA W q d W.length
section
variable {W : List Wd} {q : Nat}
theorem opB_iff {i : Nat} {u : Wd} : opB W i (W.getD i [] ++ u) = true ↔ opn W i u := by
  unfold opB
  rw [Bool.and_eq_true, Bool.and_eq_true, decide_eq_true_eq]
  constructor
  · rintro ⟨⟨h1, h2⟩, h3⟩
    obtain ⟨y, hy, hne, h4⟩ := oth_iff.1 h3
    obtain ⟨v, e, ho⟩ := opn_two hy hne h1 h2 h4
    rwa [← List.append_cancel_left e] at ho
  · intro h
    obtain ⟨h1, h2⟩ := opn_st h
    exact ⟨⟨List.prefix_append _ _, h1⟩, h2⟩
theorem lng_spec (hW : ∀ w ∈ W, LtOK q w) {i : Nat} : ∀ k {u : Wd}, (exO W i k u → lngW W q i k (W.getD i [] ++ u) = some (W.getD i [] ++ grW W q i k u)) ∧ (¬ exO W i k u → lngW W q i k (W.getD i [] ++ u) = none)
  | 0, u => by
    constructor
    · intro h
      show (if opB W i (W.getD i [] ++ u) = true then some (W.getD i [] ++ u) else none) = _
      rw [if_pos (opB_iff.2 (exO_zero.1 h))]; rfl
    · intro h
      show (if opB W i (W.getD i [] ++ u) = true then some (W.getD i [] ++ u) else none) = _
      rw [if_neg (fun h2 => h (exO_zero.2 (opB_iff.1 h2)))]
  | k + 1, u => by
    have hstep : ∀ j, lngW W q i k (W.getD i [] ++ u ++ [letters.getD j 0]) = lngW W q i k (W.getD i [] ++ (u ++ [letters.getD j 0])) := fun j => by rw [List.append_assoc]
    constructor
    · intro h
      have ho : opn W i u := by
        obtain ⟨t, _, h1⟩ := h
        exact opn_less h1
      obtain ⟨j0, hj0, h1⟩ := (exO_succ hW).1 h
      have hex : ∃ j, j < q ∧ exO W i k (u ++ [letters.getD j 0]) ∧ ∀ j', j' < j → ¬ exO W i k (u ++ [letters.getD j' 0]) := by
        clear h
        induction j0 using Nat.strongRecOn with
        | ind j ih =>
          by_cases hc : ∀ j', j' < j → ¬ exO W i k (u ++ [letters.getD j' 0])
          · exact ⟨j, hj0, h1, hc⟩
          · have : ∃ j', j' < j ∧ exO W i k (u ++ [letters.getD j' 0]) := Classical.byContradiction fun hc2 => hc fun j' h1 h2 => hc2 ⟨j', h1, h2⟩
            obtain ⟨j', h2, h3⟩ := this
            exact ih j' h2 (by omega) h3
      obtain ⟨j, hj, h2, h3⟩ := hex
      show (if opB W i (W.getD i [] ++ u) = true then (List.range q).findSome? fun j => lngW W q i k (W.getD i [] ++ u ++ [letters.getD j 0]) else none) = _
      rw [if_pos (opB_iff.2 ho), gr_step hj h2 h3]
      simp only [hstep]
      have hfs : ∀ (n : Nat), n ≤ j → (List.range n).findSome? (fun j => lngW W q i k (W.getD i [] ++ (u ++ [letters.getD j 0]))) = none := fun n hn => by
        rw [List.findSome?_eq_none_iff]
        intro a ha
        have := List.mem_range.1 ha
        exact (lng_spec hW k).2 (h3 a (by omega))
      have hq : List.range q = List.range j ++ (j :: (List.range (q - j - 1)).map fun a => j + 1 + a) := by
        conv => lhs; rw [show q = j + (1 + (q - j - 1)) by omega, List.range_add, List.range_add]
        simp [List.map_append, Nat.add_assoc, Nat.add_comm]
        intro a _; omega
      rw [hq, List.findSome?_append, hfs j (Nat.le_refl _), List.findSome?_cons, (lng_spec hW k).1 h2]
      rfl
    · intro h
      show (if opB W i (W.getD i [] ++ u) = true then (List.range q).findSome? fun j => lngW W q i k (W.getD i [] ++ u ++ [letters.getD j 0]) else none) = _
      split
      · rw [List.findSome?_eq_none_iff]
        intro j hj
        rw [hstep]
        exact (lng_spec hW k).2 fun h2 => h ((exO_succ hW).2 ⟨j, List.mem_range.1 hj, h2⟩)
      · rfl
theorem lng_fst (hW : ∀ w ∈ W, LtOK q w) {i n : Nat} : lngW W q i n (W.getD i []) = (fstW W q i n).map fun u => W.getD i [] ++ u := by
  have h := lng_spec hW (i := i) n (u := [])
  rw [List.append_nil] at h
  unfold fstW
  by_cases hc : exO W i n []
  · rw [if_pos hc, h.1 hc]; rfl
  · rw [if_neg hc, h.2 hc]; rfl
theorem wtU_none {d k : Nat} {best : Option (Nat × Wd)} (h : fstW W q k d = none) : wtU W q d k best = best := by unfold wtU; rw [h]
theorem wtU_first {d k : Nat} {u : Wd} (h : fstW W q k d = some u) : wtU W q d k none = some (k, W.getD k [] ++ u) := by unfold wtU; rw [h]
theorem wtU_less {d k b : Nat} {u w : Wd} (h : fstW W q k d = some u) (hl : lessW (W.getD k [] ++ u) w) : wtU W q d k (some (b, w)) = some (k, W.getD k [] ++ u) := by unfold wtU; rw [h]; exact if_pos hl
theorem wtU_keep {d k b : Nat} {u w : Wd} (h : fstW W q k d = some u) (hl : ¬ lessW (W.getD k [] ++ u) w) : wtU W q d k (some (b, w)) = some (b, w) := by unfold wtU; rw [h]; exact if_neg hl
theorem wtA_succ {d k : Nat} : wtA W q d (k + 1) = wtU W q d k (wtA W q d k) := rfl
theorem wtA_some (hW : ∀ w ∈ W, LtOK q w) {d : Nat} : ∀ {k b : Nat} {w : Wd}, wtA W q d k = some (b, w) → b < k ∧ ∃ u, w = W.getD b [] ++ u ∧ opn W b u ∧ u.length = d
  | 0, b, w, h => by cases h
  | k + 1, b, w, h => by
    rw [wtA_succ] at h
    cases hf : fstW W q k d with
    | none =>
      rw [wtU_none hf] at h
      obtain ⟨h1, h2⟩ := wtA_some hW h
      exact ⟨by omega, h2⟩
    | some u =>
      have hs := fst_some hW hf
      cases hb : wtA W q d k with
      | none =>
        rw [hb, wtU_first hf] at h
        injection h with h
        injection h with h1 h2
        subst h1 h2
        exact ⟨by omega, u, rfl, hs.1, hs.2⟩
      | some p =>
        obtain ⟨b', w'⟩ := p
        rw [hb] at h
        by_cases hl : lessW (W.getD k [] ++ u) w'
        · rw [wtU_less hf hl] at h
          injection h with h
          injection h with h1 h2
          subst h1 h2
          exact ⟨by omega, u, rfl, hs.1, hs.2⟩
        · rw [wtU_keep hf hl] at h
          injection h with h
          injection h with h1 h2
          subst h1 h2
          obtain ⟨h1, h2⟩ := wtA_some hW hb
          exact ⟨by omega, h2⟩
theorem wtA_none {d : Nat} : ∀ {k : Nat}, wtA W q d k = none ↔ ∀ j, j < k → fstW W q j d = none
  | 0 => ⟨fun _ j hj => absurd hj (Nat.not_lt_zero _), fun _ => rfl⟩
  | k + 1 => by
    rw [wtA_succ]
    cases hf : fstW W q k d with
    | none =>
      rw [wtU_none hf, wtA_none]
      constructor
      · intro h j hj
        rcases Nat.lt_or_ge j k with h2 | h2
        · exact h j h2
        · obtain rfl : j = k := by omega
          exact hf
      · intro h j hj; exact h j (by omega)
    | some u =>
      constructor
      · intro h
        exfalso
        cases hb : wtA W q d k with
        | none => rw [hb, wtU_first hf] at h; cases h
        | some p =>
          obtain ⟨b', w'⟩ := p
          rw [hb] at h
          by_cases hl : lessW (W.getD k [] ++ u) w'
          · rw [wtU_less hf hl] at h; cases h
          · rw [wtU_keep hf hl] at h; cases h
      · intro h
        rw [h k (by omega)] at hf
        cases hf
theorem wtF_iff {d : Nat} : (wtF W q d).isSome = true ↔ ∃ i, i < W.length ∧ ∃ u, u.length = d ∧ opn W i u := by
  constructor
  · intro h
    refine Classical.byContradiction fun hc => ?_
    have : wtF W q d = none := wtA_none.2 fun j hj => by
      cases hf : fstW W q j d with
      | none => rfl
      | some u => exact absurd ⟨j, hj, fst_iff.1 (by rw [hf]; rfl)⟩ hc
    rw [this] at h; cases h
  · rintro ⟨i, hi, h⟩
    cases hf : wtF W q d with
    | some p => rfl
    | none =>
      have h1 := wtA_none.1 hf i hi
      have h2 := fst_iff (q := q).2 h
      rw [h1] at h2; cases h2
end
end Go.Proofs.Ytoafgeobhhlplaa
