/-
  Walks: vectors checked by the reference; the edges that leave a state.
-/
import Derived.Test.YthpdkmoedpcboaaWA
import Derived.Test.YthpdkmoedpcboaaPG
namespace Go.Proofs.Ythpdkmoedpcboaa
set_option linter.unusedSimpArgs false
set_option linter.unusedVariables false
open Go Go.Lift Go.Proofs
theorem app_oneI {K : List Int} {x : Int} {w : Nat → Nat → AVal} {i : Nat} (hw : w 0 0 = .int .i64 x) (hi : i < K.length + 1) : app (fun p _ => .int .i64 (K.getD p 0)) K.length w i 0 = .int .i64 ((K ++ [x]).getD i 0) := by
  unfold app
  by_cases h : i < K.length
  · rw [if_pos h]; simp [List.getD, List.getElem?_append_left h]
  · obtain rfl : i = K.length := by omega
    rw [if_neg h, Nat.sub_self, hw]; simp [List.getD]
end Go.Proofs.Ythpdkmoedpcboaa
