/-
  Plain: numbers in order.
-/
import Derived.Test.YtfoeigajlkonpaaDoorLZ
namespace Go.Proofs.YtfoeigajlkonpaaDoor
set_option linter.unusedSimpArgs false
set_option linter.unusedVariables false
open Go Go.Lift Go.Proofs

/-- numbers in order. -/
def srtI (l : List Int) : List Int := l.mergeSort fun x y => decide (x ≤ y)
theorem srtI_perm {l : List Int} : (srtI l).Perm l := List.mergeSort_perm l _
theorem srtI_len {l : List Int} : (srtI l).length = l.length := srtI_perm.length_eq
theorem srtI_mem {l : List Int} {x : Int} : x ∈ srtI l ↔ x ∈ l := srtI_perm.mem_iff
theorem srtI_asc {l : List Int} : (srtI l).Pairwise (· ≤ ·) := by
  have h := List.pairwise_mergeSort (le := fun x y : Int => decide (x ≤ y)) (fun a b c h1 h2 => by simp at *; omega) (fun a b => by simp; omega) l
  exact h.imp fun h => by simpa using h
end Go.Proofs.YtfoeigajlkonpaaDoor
