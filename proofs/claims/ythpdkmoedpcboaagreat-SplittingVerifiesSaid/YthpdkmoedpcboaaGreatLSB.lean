/-
  The bytes of a string, laid anew: a rule for regions.
-/
import Derived.Test.YthpdkmoedpcboaaGreatLZ
import Derived.Laws.IdiomStrings
import Derived.Lib.MakeNoZero
namespace Go.Lift
set_option linter.unusedSimpArgs false
set_option linter.unusedVariables false
open Go.RowKit

section
variable {P : Program} {G : Gh} {n0 : Nat}
end
section
variable {P : Program} {G : Gh} {n0 : Nat} {ops : List Oper} {W : List (Nat × Id)} {al : AL} {mu0 : Id → Option Base} {nx0 : Nat} {Q : St → Prop}
end
end Go.Lift
