/-
  Walks: words of a graph; the graph of sets.
-/
import Derived.Test.YtdojahjhijkbhaaGreatDoorVF
import Derived.Test.YtdojahjhijkbhaaGreatDoorVD
import Derived.Test.YtdojahjhijkbhaaGreatDoorVC
import Derived.Test.YtdojahjhijkbhaaGreatDoorQM
namespace Go.Proofs.YtdojahjhijkbhaaGreatDoor
set_option linter.unusedSimpArgs false
set_option linter.unusedVariables false
open Go Go.Lift Go.Proofs

def SetOK (g : Gr) (L : List Int) : Prop := L.Pairwise (· < ·) ∧ ∀ x ∈ L, 0 ≤ x ∧ x < g.states
theorem SetOK.len {g : Gr} (hv : gcheck g = 0) {L : List Int} (h : SetOK g L) : L.length ≤ 64 := asc_short h.1 h.2 (gcheck_valid hv).1.st.2
theorem SetOK.small {g : Gr} (hv : gcheck g = 0) {L : List Int} (h : SetOK g L) : Small L := fun n hn => by
  have h1 := h.2 n hn
  have h2 := (gcheck_valid hv).1.st
  omega
theorem SetOK.step {g : Gr} (hv : gcheck g = 0) {k : Int} {L : List Int} : SetOK g (stepL g k L) := ⟨step_asc, step_box hv⟩
theorem SetOK.all {g : Gr} : SetOK g (iotaL g.states.toNat) := ⟨iota_asc, fun x hx => by have := iota_mem hx; omega⟩
theorem app_one1 {k j : Nat} : (if j = k then AVal.int .i64 (k : Int) else .int .i64 (if j < k then (j : Int) else 0)) = .int .i64 (if j < k + 1 then (j : Int) else 0) := by
  by_cases h : j = k
  · subst h; rw [if_pos rfl, if_pos (by omega)]
  · rw [if_neg h]
    by_cases h2 : j < k
    · rw [if_pos h2, if_pos (by omega)]
    · rw [if_neg h2, if_neg (by omega)]
end Go.Proofs.YtdojahjhijkbhaaGreatDoor
