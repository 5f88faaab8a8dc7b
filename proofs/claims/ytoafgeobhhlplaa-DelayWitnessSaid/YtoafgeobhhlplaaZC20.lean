/- Parts of the proof: DG. -/
import Derived.Test.YtoafgeobhhlplaaZC19
namespace Go.Proofs.Ytoafgeobhhlplaa
set_option linter.unusedSimpArgs false
set_option linter.unusedVariables false
open Go Go.Lift
def stB (W : List Wd) (k : Nat) (v : Wd) : Bool := rd W (W.getD k []) v
def preA (W : List Wd) (v : Wd) (n : Nat) : List Int := ((List.range n).filter fun k => stB W k v).map fun k : Nat => (k : Int)
def preL (W : List Wd) (v : Wd) : List Int := preA W v W.length
def othF (W : List Wd) (v : Wd) (x : Nat) : Option Nat := (List.range W.length).find? fun y => decide (y ≠ x) && stB W y v
def othN (W : List Wd) (v : Wd) (x : Nat) : Int := match othF W v x with
  | some y => y
  | none => -1
def cerB (W : List Wd) (d : Nat) (w : Wd) (i : Nat) : Bool := decide ((W.getD i []).length + d ≤ w.length) && decide (W.getD i [] <+: w) && stB W i (w.take ((W.getD i []).length + d)) && !(othF W (w.take ((W.getD i []).length + d)) i).isSome
def cerF (W : List Wd) (d : Nat) (w : Wd) : Option Nat := (List.range W.length).find? (cerB W d w)
def rdS (W : List Wd) (d : Nat) (w : Wd) : Nat → List Int × Nat
  | 0 => ([], 0)
  | k + 1 => match cerF W d (w.drop (rdS W d w k).2) with
    | some i => ((rdS W d w k).1 ++ [(i : Int)], (rdS W d w k).2 + (W.getD i []).length)
    | none => rdS W d w k
def rdR (W : List Wd) (d : Nat) (w : Wd) : List Int × Nat := rdS W d w w.length
section
variable {W : List Wd} {q : Nat}
theorem preA_succ {v : Wd} {n : Nat} : preA W v (n + 1) = preA W v n ++ if stB W n v = true then [(n : Int)] else [] := by
  unfold preA
  by_cases h : stB W n v = true <;> simp [List.range_succ, List.filter_append, h]
theorem preA_len {v : Wd} {n : Nat} : (preA W v n).length ≤ n := by
  unfold preA
  rw [List.length_map]
  exact Nat.le_trans (List.length_filter_le _ _) (by rw [List.length_range]; exact Nat.le_refl _)
theorem pre_mem {v : Wd} {x : Int} : x ∈ preL W v ↔ ∃ k : Nat, k < W.length ∧ x = k ∧ stB W k v = true := by
  unfold preL preA
  rw [List.mem_map]
  constructor
  · rintro ⟨k, hk, rfl⟩
    rw [List.mem_filter, List.mem_range] at hk
    exact ⟨k, hk.1, rfl, hk.2⟩
  · rintro ⟨k, hk, rfl, h⟩
    exact ⟨k, List.mem_filter.2 ⟨List.mem_range.2 hk, h⟩, rfl⟩
theorem oth_some {v : Wd} {x y : Nat} (h : othF W v x = some y) : y < W.length ∧ y ≠ x ∧ stB W y v = true := by
  unfold othF at h
  have h1 := List.find?_some h
  rw [Bool.and_eq_true, decide_eq_true_eq] at h1
  exact ⟨List.mem_range.1 (List.mem_of_find?_eq_some h), h1.1, h1.2⟩
theorem oth_none {v : Wd} {x : Nat} (h : othF W v x = none) {y : Nat} (hy : y < W.length) (hne : y ≠ x) : stB W y v = false := by
  unfold othF at h
  have := List.find?_eq_none.1 h y (List.mem_range.2 hy)
  simpa [hne] using this
theorem oth_at {v : Wd} {x y : Nat} (hy : y < W.length) (hne : y ≠ x) (h : stB W y v = true) (hn : ∀ j, j < y → j ≠ x → stB W j v = false) : othF W v x = some y := by
  unfold othF
  rw [List.find?_eq_some_iff_getElem]
  refine ⟨by simp [hne, h], y, by simpa using hy, by simp, fun j hj => ?_⟩
  rw [List.getElem_range]
  by_cases e : j = x
  · simp [e]
  · simp [e, hn j hj e]
theorem oth_no {v : Wd} {x : Nat} (hn : ∀ j, j < W.length → j ≠ x → stB W j v = false) : othF W v x = none := by
  unfold othF
  rw [List.find?_eq_none]
  intro j hj
  by_cases e : j = x
  · simp [e]
  · simp [e, hn j (List.mem_range.1 hj) e]
theorem oth_iff {v : Wd} {x : Nat} : (othF W v x).isSome = true ↔ ∃ y, y < W.length ∧ y ≠ x ∧ stB W y v = true := by
  constructor
  · intro h
    obtain ⟨y, hy⟩ := Option.isSome_iff_exists.1 h
    exact ⟨y, oth_some hy⟩
  · rintro ⟨y, hy, hne, h⟩
    cases e : othF W v x with
    | some z => rfl
    | none => rw [oth_none e hy hne] at h; cases h
theorem opn_two {i k : Nat} {v : Wd} (hk : k < W.length) (hne : k ≠ i) (hp : W.getD i [] <+: v) (h1 : stB W i v = true) (h2 : stB W k v = true) : ∃ u, v = W.getD i [] ++ u ∧ opn W i u := by
  obtain ⟨u, rfl⟩ := hp
  refine ⟨u, rfl, ?_, k, hk, hne, h2⟩
  unfold stB at h1
  rwa [rd_app0] at h1
theorem opn_st {i : Nat} {u : Wd} (h : opn W i u) : stB W i (W.getD i [] ++ u) = true ∧ (othF W (W.getD i [] ++ u) i).isSome = true := by
  obtain ⟨h1, k, hk, hne, h2⟩ := h
  exact ⟨by unfold stB; rw [rd_app0]; exact h1, oth_iff.2 ⟨k, hk, hne, h2⟩⟩
theorem cer_some {d : Nat} {w : Wd} {i : Nat} (h : cerF W d w = some i) : i < W.length ∧ (W.getD i []).length + d ≤ w.length ∧ W.getD i [] <+: w ∧ stB W i (w.take ((W.getD i []).length + d)) = true ∧ othF W (w.take ((W.getD i []).length + d)) i = none := by
  unfold cerF at h
  have h1 := List.find?_some h
  unfold cerB at h1
  simp only [Bool.and_eq_true, decide_eq_true_eq, Bool.not_eq_true'] at h1
  refine ⟨List.mem_range.1 (List.mem_of_find?_eq_some h), h1.1.1.1, h1.1.1.2, h1.1.2, ?_⟩
  cases e : othF W (w.take ((W.getD i []).length + d)) i with
  | none => rfl
  | some y => rw [e] at h1; simp at h1
theorem cer_at {d : Nat} {w : Wd} {i : Nat} (hi : i < W.length) (h : cerB W d w i = true) (hn : ∀ j, j < i → cerB W d w j = false) : cerF W d w = some i := by
  unfold cerF
  rw [List.find?_eq_some_iff_getElem]
  exact ⟨h, i, by simpa using hi, by simp, fun j hj => by rw [List.getElem_range, hn j hj]; rfl⟩
theorem cer_no {d : Nat} {w : Wd} (hn : ∀ j, j < W.length → cerB W d w j = false) : cerF W d w = none := by
  unfold cerF
  rw [List.find?_eq_none]
  intro j hj
  rw [hn j (List.mem_range.1 hj)]; simp
theorem rdS_box {d : Nat} {w : Wd} : ∀ k, (rdS W d w k).2 ≤ w.length
  | 0 => Nat.zero_le _
  | k + 1 => by
    have ih := rdS_box (d := d) (w := w) k
    show (match cerF W d (w.drop (rdS W d w k).2) with
      | some i => ((rdS W d w k).1 ++ [(i : Int)], (rdS W d w k).2 + (W.getD i []).length)
      | none => rdS W d w k).2 ≤ _
    cases e : cerF W d (w.drop (rdS W d w k).2) with
    | none => exact ih
    | some i =>
      have := (cer_some e).2.1
      rw [List.length_drop] at this
      show (rdS W d w k).2 + _ ≤ _
      omega
theorem rdS_some {d : Nat} {w : Wd} {k i : Nat} (h : cerF W d (w.drop (rdS W d w k).2) = some i) : rdS W d w (k + 1) = ((rdS W d w k).1 ++ [(i : Int)], (rdS W d w k).2 + (W.getD i []).length) := by
  show (match cerF W d (w.drop (rdS W d w k).2) with
      | some i => ((rdS W d w k).1 ++ [(i : Int)], (rdS W d w k).2 + (W.getD i []).length)
      | none => rdS W d w k) = _
  rw [h]
theorem rdS_none {d : Nat} {w : Wd} {k : Nat} (h : cerF W d (w.drop (rdS W d w k).2) = none) : rdS W d w (k + 1) = rdS W d w k := by
  show (match cerF W d (w.drop (rdS W d w k).2) with
      | some i => ((rdS W d w k).1 ++ [(i : Int)], (rdS W d w k).2 + (W.getD i []).length)
      | none => rdS W d w k) = _
  rw [h]
theorem rdS_stay {d : Nat} {w : Wd} {k : Nat} (h : cerF W d (w.drop (rdS W d w k).2) = none) : ∀ e, rdS W d w (k + e) = rdS W d w k
  | 0 => rfl
  | e + 1 => by
    show rdS W d w (k + e + 1) = _
    rw [rdS_none (by rw [rdS_stay h e]; exact h), rdS_stay h e]
theorem rdS_count (hW : ∀ x ∈ W, x ≠ []) {d : Nat} {w : Wd} : ∀ k, (∀ j, j < k → cerF W d (w.drop (rdS W d w j).2) ≠ none) → k ≤ (rdS W d w k).2
  | 0, _ => Nat.zero_le _
  | k + 1, h => by
    have ih := rdS_count hW k fun j hj => h j (by omega)
    cases e : cerF W d (w.drop (rdS W d w k).2) with
    | none => exact absurd e (h k (by omega))
    | some i =>
      have := List.length_pos_iff.2 (hW _ (W_mem (cer_some e).1))
      rw [rdS_some e]
      show k + 1 ≤ _ + _
      omega
theorem rdR_end (hW : ∀ x ∈ W, x ≠ []) {d : Nat} {w : Wd} {k : Nat} (hn : ∀ j, j < k → cerF W d (w.drop (rdS W d w j).2) ≠ none) (h : cerF W d (w.drop (rdS W d w k).2) = none) : rdR W d w = rdS W d w k := by
  have h1 := rdS_count hW k hn
  have h2 := rdS_box (W := W) (d := d) (w := w) k
  have := rdS_stay h (w.length - k)
  rwa [show k + (w.length - k) = w.length by omega] at this
end
end Go.Proofs.Ytoafgeobhhlplaa
