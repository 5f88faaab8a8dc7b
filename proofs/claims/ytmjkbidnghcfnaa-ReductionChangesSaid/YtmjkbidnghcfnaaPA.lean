/-
  Plain laws of this seat: places in lists.
-/
import Derived.Test.YtmjkbidnghcfnaaLV
namespace Go.Proofs.Ytmjkbidnghcfnaa
set_option linter.unusedSimpArgs false
set_option linter.unusedVariables false
open Go Go.Lift

def placeI (l : List Int) (n : Int) : Int := match l.idxOf? n with
  | some i => (i : Int)
  | none => -1
theorem placeI_step {l : List Int} {n : Int} {k : Nat} (h : ∀ j, j < k → l.getD j 0 ≠ n) (hk : l.getD k 0 ≠ n) : ∀ j, j < k + 1 → l.getD j 0 ≠ n := fun j hj => by
  rcases Nat.lt_succ_iff_lt_or_eq.1 hj with h1 | h1
  · exact h j h1
  · rw [h1]; exact hk
theorem placeI_none (l : List Int) (n : Int) (h : ∀ j, j < l.length → l.getD j 0 ≠ n) : placeI l n = -1 := by
  unfold placeI
  have : l.idxOf? n = none := by
    rw [List.idxOf?_eq_none_iff]
    intro hm
    obtain ⟨j, hj, he⟩ := List.mem_iff_getElem.1 hm
    exact h j hj (by simp [List.getD, hj, he])
  rw [this]
theorem placeI_some (l : List Int) (n : Int) (k : Nat) (hk : k < l.length) (h : ∀ j, j < k → l.getD j 0 ≠ n) (he : l.getD k 0 = n) : placeI l n = k := by
  unfold placeI
  have : l.idxOf? n = some k := by
    rw [List.idxOf?, List.findIdx?_eq_some_iff_getElem]
    refine ⟨hk, by simpa [List.getD, hk] using he, fun j hj => ?_⟩
    have := h j hj
    have hj' : j < l.length := by omega
    simpa [List.getD, hj'] using this
  rw [this]
end Go.Proofs.Ytmjkbidnghcfnaa
