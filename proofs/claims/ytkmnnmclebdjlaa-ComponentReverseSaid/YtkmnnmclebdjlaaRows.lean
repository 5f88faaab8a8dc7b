/-
  No cell of these rows narrows 'for every input' (looked for: loops, veiled, ifaces, maps, wideKeys, modest, calm, conditions, laid).
  DERIVED. THE GIVEN ROWS OF THIS SEAT. 9 by the template 'for every input the law returns true; each argument reads behind the call as it read before'; 0 by the template 'total and deterministic' (their statements: YtkmnnmclebdjlaaTotals.lean).
  GIVEN WITH THE SEED: the statements are not yours to turn. If you find one false, say at which input.
  Laid BY PROGRAM, IN A SANDBOX (cutbox-rows.mjs): the forced cells as the released guide's own fill.sh prints them over the translation 237a475865d42bbb… (all of the seat's roots in one cut). By AI agents, Wed Nov 11 2026. No macro, syntax, notation, axiom, sorry.
-/
import Derived.Test.YtkmnnmclebdjlaaChecked
import GoSem.Claim
import GoSem.ClaimJoined
import GoSem.ClaimMapViews
import Derived.JoinedTies
import Derived.KernelRfl
namespace Go.Proofs.Ytkmnnmclebdjlaa
/- THE CELL 'sum', in the pinned program and in every row, IS THE sha256 OF THE DUMP (.gsa) THAT YtkmnnmclebdjlaaProg.lean LOADS. Nothing in Lean hashes anything: it is a label: what it is worth is what the hold of that sum in a sandbox is worth. -/
noncomputable def Try.pinned : Pinned := { name := "ytkmnnmclebdjlaa", sum := "237a475865d42bbb1fb32e572ff701da1c80855dc480ba79c57c0e1f3a014d11", checked := Try.checked }
namespace Rows
def none {H : Type} : Left H := { results := [], args := [] }

/-- 'groovelaw10.ComponentParts': WHATEVER THE INPUT: true; the input reads as it did. -/
def componentPartsSpec : ChangeSpec := { name := "componentParts", fn := fun _ => fun
  | [d] => { results := [.lit (.bool true)], args := [d] }
  | _ => none }
def componentPartsRow : OpenClaim := { program := "ytkmnnmclebdjlaa", sum := "237a475865d42bbb1fb32e572ff701da1c80855dc480ba79c57c0e1f3a014d11", func := "groove/groovelaw10.ComponentParts", spec := "componentParts", unfollowed := true, recurses := true, apart := false }
def ComponentPartsSaid : Prop := componentPartsRow.holds Try.pinned (OpenSpec.ofChange componentPartsSpec)

/-- ITS FALSE NEIGHBOUR: 'it returns false'. Refute it at one input. -/
def componentPartsWrong : ChangeSpec := { name := "componentParts", fn := fun _ => fun
  | [d] => { results := [.lit (.bool false)], args := [d] }
  | _ => none }
def ComponentPartsWrongFalsely : Prop := componentPartsRow.holds Try.pinned (OpenSpec.ofChange componentPartsWrong)

/-- 'groovelaw10.ComponentCycles': WHATEVER THE INPUT: true; the input reads as it did. -/
def componentCyclesSpec : ChangeSpec := { name := "componentCycles", fn := fun _ => fun
  | [d] => { results := [.lit (.bool true)], args := [d] }
  | _ => none }
def componentCyclesRow : OpenClaim := { program := "ytkmnnmclebdjlaa", sum := "237a475865d42bbb1fb32e572ff701da1c80855dc480ba79c57c0e1f3a014d11", func := "groove/groovelaw10.ComponentCycles", spec := "componentCycles", unfollowed := true, recurses := true, apart := false }
def ComponentCyclesSaid : Prop := componentCyclesRow.holds Try.pinned (OpenSpec.ofChange componentCyclesSpec)

/-- ITS FALSE NEIGHBOUR: 'it returns false'. Refute it at one input. -/
def componentCyclesWrong : ChangeSpec := { name := "componentCycles", fn := fun _ => fun
  | [d] => { results := [.lit (.bool false)], args := [d] }
  | _ => none }
def ComponentCyclesWrongFalsely : Prop := componentCyclesRow.holds Try.pinned (OpenSpec.ofChange componentCyclesWrong)

/-- 'groovelaw10.ComponentClasses': WHATEVER THE INPUT: true; the input reads as it did. -/
def componentClassesSpec : ChangeSpec := { name := "componentClasses", fn := fun _ => fun
  | [d] => { results := [.lit (.bool true)], args := [d] }
  | _ => none }
def componentClassesRow : OpenClaim := { program := "ytkmnnmclebdjlaa", sum := "237a475865d42bbb1fb32e572ff701da1c80855dc480ba79c57c0e1f3a014d11", func := "groove/groovelaw10.ComponentClasses", spec := "componentClasses", unfollowed := true, recurses := true, apart := false }
def ComponentClassesSaid : Prop := componentClassesRow.holds Try.pinned (OpenSpec.ofChange componentClassesSpec)

/-- ITS FALSE NEIGHBOUR: 'it returns false'. Refute it at one input. -/
def componentClassesWrong : ChangeSpec := { name := "componentClasses", fn := fun _ => fun
  | [d] => { results := [.lit (.bool false)], args := [d] }
  | _ => none }
def ComponentClassesWrongFalsely : Prop := componentClassesRow.holds Try.pinned (OpenSpec.ofChange componentClassesWrong)

/-- 'groovelaw10.ComponentPeriods': WHATEVER THE INPUT: true; the input reads as it did. -/
def componentPeriodsSpec : ChangeSpec := { name := "componentPeriods", fn := fun _ => fun
  | [d1, d2] => { results := [.lit (.bool true)], args := [d1, d2] }
  | _ => none }
def componentPeriodsRow : OpenClaim := { program := "ytkmnnmclebdjlaa", sum := "237a475865d42bbb1fb32e572ff701da1c80855dc480ba79c57c0e1f3a014d11", func := "groove/groovelaw10.ComponentPeriods", spec := "componentPeriods", unfollowed := true, recurses := true, apart := false }
def ComponentPeriodsSaid : Prop := componentPeriodsRow.holds Try.pinned (OpenSpec.ofChange componentPeriodsSpec)

/-- ITS FALSE NEIGHBOUR: 'it returns false'. Refute it at one input. -/
def componentPeriodsWrong : ChangeSpec := { name := "componentPeriods", fn := fun _ => fun
  | [d1, d2] => { results := [.lit (.bool false)], args := [d1, d2] }
  | _ => none }
def ComponentPeriodsWrongFalsely : Prop := componentPeriodsRow.holds Try.pinned (OpenSpec.ofChange componentPeriodsWrong)

/-- 'groovelaw10.ComponentSinks': WHATEVER THE INPUT: true; the input reads as it did. -/
def componentSinksSpec : ChangeSpec := { name := "componentSinks", fn := fun _ => fun
  | [d] => { results := [.lit (.bool true)], args := [d] }
  | _ => none }
def componentSinksRow : OpenClaim := { program := "ytkmnnmclebdjlaa", sum := "237a475865d42bbb1fb32e572ff701da1c80855dc480ba79c57c0e1f3a014d11", func := "groove/groovelaw10.ComponentSinks", spec := "componentSinks", unfollowed := true, recurses := true, apart := false }
def ComponentSinksSaid : Prop := componentSinksRow.holds Try.pinned (OpenSpec.ofChange componentSinksSpec)

/-- ITS FALSE NEIGHBOUR: 'it returns false'. Refute it at one input. -/
def componentSinksWrong : ChangeSpec := { name := "componentSinks", fn := fun _ => fun
  | [d] => { results := [.lit (.bool false)], args := [d] }
  | _ => none }
def ComponentSinksWrongFalsely : Prop := componentSinksRow.holds Try.pinned (OpenSpec.ofChange componentSinksWrong)

/-- 'groovelaw10.ComponentMutual': WHATEVER THE INPUT: true; the input reads as it did. -/
def componentMutualSpec : ChangeSpec := { name := "componentMutual", fn := fun _ => fun
  | [d] => { results := [.lit (.bool true)], args := [d] }
  | _ => none }
def componentMutualRow : OpenClaim := { program := "ytkmnnmclebdjlaa", sum := "237a475865d42bbb1fb32e572ff701da1c80855dc480ba79c57c0e1f3a014d11", func := "groove/groovelaw10.ComponentMutual", spec := "componentMutual", unfollowed := true, recurses := true, apart := false }
def ComponentMutualSaid : Prop := componentMutualRow.holds Try.pinned (OpenSpec.ofChange componentMutualSpec)

/-- ITS FALSE NEIGHBOUR: 'it returns false'. Refute it at one input. -/
def componentMutualWrong : ChangeSpec := { name := "componentMutual", fn := fun _ => fun
  | [d] => { results := [.lit (.bool false)], args := [d] }
  | _ => none }
def ComponentMutualWrongFalsely : Prop := componentMutualRow.holds Try.pinned (OpenSpec.ofChange componentMutualWrong)

/-- 'groovelaw10.ComponentKeeps': WHATEVER THE INPUT: true; the input reads as it did. -/
def componentKeepsSpec : ChangeSpec := { name := "componentKeeps", fn := fun _ => fun
  | [d] => { results := [.lit (.bool true)], args := [d] }
  | _ => none }
def componentKeepsRow : OpenClaim := { program := "ytkmnnmclebdjlaa", sum := "237a475865d42bbb1fb32e572ff701da1c80855dc480ba79c57c0e1f3a014d11", func := "groove/groovelaw10.ComponentKeeps", spec := "componentKeeps", unfollowed := true, recurses := true, apart := false }
def ComponentKeepsSaid : Prop := componentKeepsRow.holds Try.pinned (OpenSpec.ofChange componentKeepsSpec)

/-- ITS FALSE NEIGHBOUR: 'it returns false'. Refute it at one input. -/
def componentKeepsWrong : ChangeSpec := { name := "componentKeeps", fn := fun _ => fun
  | [d] => { results := [.lit (.bool false)], args := [d] }
  | _ => none }
def ComponentKeepsWrongFalsely : Prop := componentKeepsRow.holds Try.pinned (OpenSpec.ofChange componentKeepsWrong)

/-- 'groovelaw10.ComponentReverse': WHATEVER THE INPUT: true; the input reads as it did. -/
def componentReverseSpec : ChangeSpec := { name := "componentReverse", fn := fun _ => fun
  | [d] => { results := [.lit (.bool true)], args := [d] }
  | _ => none }
def componentReverseRow : OpenClaim := { program := "ytkmnnmclebdjlaa", sum := "237a475865d42bbb1fb32e572ff701da1c80855dc480ba79c57c0e1f3a014d11", func := "groove/groovelaw10.ComponentReverse", spec := "componentReverse", unfollowed := true, recurses := true, apart := false }
def ComponentReverseSaid : Prop := componentReverseRow.holds Try.pinned (OpenSpec.ofChange componentReverseSpec)

/-- ITS FALSE NEIGHBOUR: 'it returns false'. Refute it at one input. -/
def componentReverseWrong : ChangeSpec := { name := "componentReverse", fn := fun _ => fun
  | [d] => { results := [.lit (.bool false)], args := [d] }
  | _ => none }
def ComponentReverseWrongFalsely : Prop := componentReverseRow.holds Try.pinned (OpenSpec.ofChange componentReverseWrong)

/-- 'groovelaw10.ComponentReach': WHATEVER THE INPUT: true; the input reads as it did. -/
def componentReachSpec : ChangeSpec := { name := "componentReach", fn := fun _ => fun
  | [d1, d2] => { results := [.lit (.bool true)], args := [d1, d2] }
  | _ => none }
def componentReachRow : OpenClaim := { program := "ytkmnnmclebdjlaa", sum := "237a475865d42bbb1fb32e572ff701da1c80855dc480ba79c57c0e1f3a014d11", func := "groove/groovelaw10.ComponentReach", spec := "componentReach", unfollowed := true, recurses := true, apart := false }
def ComponentReachSaid : Prop := componentReachRow.holds Try.pinned (OpenSpec.ofChange componentReachSpec)

/-- ITS FALSE NEIGHBOUR: 'it returns false'. Refute it at one input. -/
def componentReachWrong : ChangeSpec := { name := "componentReach", fn := fun _ => fun
  | [d1, d2] => { results := [.lit (.bool false)], args := [d1, d2] }
  | _ => none }
def ComponentReachWrongFalsely : Prop := componentReachRow.holds Try.pinned (OpenSpec.ofChange componentReachWrong)

/- THE SECOND FORM. 'bulk': how many values and letters a reading holds, each counted each time it is reached (what is shared counts as often as it is met; a slice's spare places count too). A statement '..UptoSaid' is the law's where the arguments, and the package variables that the reading takes, are together of bulk at most 1048576: NARROWER than '..Said'. Prove '..Said' where nothing that the law and all that it calls make is longer than what came in: it says more and counts as full. Else prove '..UptoSaid'. A law counts once. -/
mutual
def uptoBulk {H : Type} : DataW H → Nat
  | .lit (.string bytes) => bytes.length + 1
  | .lit _ => 1
  | .nil => 1
  | .ptr d => uptoBulk d + 1
  | .slice elems spare => uptoBulkAll elems + uptoBulkAll spare + 1
  | .agg parts => uptoBulkAll parts + 1
  | .iface _ d => uptoBulk d + 1
  | .map entries => uptoBulkEntries entries + 1
  | .held _ => 1
def uptoBulkAll {H : Type} : List (DataW H) → Nat
  | [] => 0
  | d :: r => uptoBulk d + uptoBulkAll r
def uptoBulkEntries {H : Type} : List (Lit × DataW H) → Nat
  | [] => 0
  | x :: r => uptoBulkEntry x + uptoBulkEntries r
def uptoBulkEntry {H : Type} : Lit × DataW H → Nat
  | (.string bytes, d) => bytes.length + uptoBulk d + 1
  | (_, d) => uptoBulk d + 1
 end
def uptoSmall : (H : Type) → List (DataW H) → Bool := fun _ ds => decide (uptoBulkAll ds ≤ 1048576)
def OpenSpec.upto (s : _root_.Go.ChangeSpec) : _root_.Go.OpenSpec := { _root_.Go.OpenSpec.ofChange s with cond := some uptoSmall }

/-- 'groovelaw10.ComponentParts', WHERE WHAT IT READS IS OF BULK AT MOST 1048576: true; the input reads as it did. -/
def componentPartsUptoRow : OpenClaim := { program := "ytkmnnmclebdjlaa", sum := "237a475865d42bbb1fb32e572ff701da1c80855dc480ba79c57c0e1f3a014d11", func := "groove/groovelaw10.ComponentParts", spec := "componentParts", unfollowed := true, recurses := true, apart := false, narrowed := true }
def ComponentPartsUptoSaid : Prop := componentPartsUptoRow.holds Try.pinned (OpenSpec.upto componentPartsSpec)

/-- 'groovelaw10.ComponentCycles', WHERE WHAT IT READS IS OF BULK AT MOST 1048576: true; the input reads as it did. -/
def componentCyclesUptoRow : OpenClaim := { program := "ytkmnnmclebdjlaa", sum := "237a475865d42bbb1fb32e572ff701da1c80855dc480ba79c57c0e1f3a014d11", func := "groove/groovelaw10.ComponentCycles", spec := "componentCycles", unfollowed := true, recurses := true, apart := false, narrowed := true }
def ComponentCyclesUptoSaid : Prop := componentCyclesUptoRow.holds Try.pinned (OpenSpec.upto componentCyclesSpec)

/-- 'groovelaw10.ComponentClasses', WHERE WHAT IT READS IS OF BULK AT MOST 1048576: true; the input reads as it did. -/
def componentClassesUptoRow : OpenClaim := { program := "ytkmnnmclebdjlaa", sum := "237a475865d42bbb1fb32e572ff701da1c80855dc480ba79c57c0e1f3a014d11", func := "groove/groovelaw10.ComponentClasses", spec := "componentClasses", unfollowed := true, recurses := true, apart := false, narrowed := true }
def ComponentClassesUptoSaid : Prop := componentClassesUptoRow.holds Try.pinned (OpenSpec.upto componentClassesSpec)

/-- 'groovelaw10.ComponentPeriods', WHERE WHAT IT READS IS OF BULK AT MOST 1048576: true; the input reads as it did. -/
def componentPeriodsUptoRow : OpenClaim := { program := "ytkmnnmclebdjlaa", sum := "237a475865d42bbb1fb32e572ff701da1c80855dc480ba79c57c0e1f3a014d11", func := "groove/groovelaw10.ComponentPeriods", spec := "componentPeriods", unfollowed := true, recurses := true, apart := false, narrowed := true }
def ComponentPeriodsUptoSaid : Prop := componentPeriodsUptoRow.holds Try.pinned (OpenSpec.upto componentPeriodsSpec)

/-- 'groovelaw10.ComponentSinks', WHERE WHAT IT READS IS OF BULK AT MOST 1048576: true; the input reads as it did. -/
def componentSinksUptoRow : OpenClaim := { program := "ytkmnnmclebdjlaa", sum := "237a475865d42bbb1fb32e572ff701da1c80855dc480ba79c57c0e1f3a014d11", func := "groove/groovelaw10.ComponentSinks", spec := "componentSinks", unfollowed := true, recurses := true, apart := false, narrowed := true }
def ComponentSinksUptoSaid : Prop := componentSinksUptoRow.holds Try.pinned (OpenSpec.upto componentSinksSpec)

/-- 'groovelaw10.ComponentMutual', WHERE WHAT IT READS IS OF BULK AT MOST 1048576: true; the input reads as it did. -/
def componentMutualUptoRow : OpenClaim := { program := "ytkmnnmclebdjlaa", sum := "237a475865d42bbb1fb32e572ff701da1c80855dc480ba79c57c0e1f3a014d11", func := "groove/groovelaw10.ComponentMutual", spec := "componentMutual", unfollowed := true, recurses := true, apart := false, narrowed := true }
def ComponentMutualUptoSaid : Prop := componentMutualUptoRow.holds Try.pinned (OpenSpec.upto componentMutualSpec)

/-- 'groovelaw10.ComponentKeeps', WHERE WHAT IT READS IS OF BULK AT MOST 1048576: true; the input reads as it did. -/
def componentKeepsUptoRow : OpenClaim := { program := "ytkmnnmclebdjlaa", sum := "237a475865d42bbb1fb32e572ff701da1c80855dc480ba79c57c0e1f3a014d11", func := "groove/groovelaw10.ComponentKeeps", spec := "componentKeeps", unfollowed := true, recurses := true, apart := false, narrowed := true }
def ComponentKeepsUptoSaid : Prop := componentKeepsUptoRow.holds Try.pinned (OpenSpec.upto componentKeepsSpec)

/-- 'groovelaw10.ComponentReverse', WHERE WHAT IT READS IS OF BULK AT MOST 1048576: true; the input reads as it did. -/
def componentReverseUptoRow : OpenClaim := { program := "ytkmnnmclebdjlaa", sum := "237a475865d42bbb1fb32e572ff701da1c80855dc480ba79c57c0e1f3a014d11", func := "groove/groovelaw10.ComponentReverse", spec := "componentReverse", unfollowed := true, recurses := true, apart := false, narrowed := true }
def ComponentReverseUptoSaid : Prop := componentReverseUptoRow.holds Try.pinned (OpenSpec.upto componentReverseSpec)

/-- 'groovelaw10.ComponentReach', WHERE WHAT IT READS IS OF BULK AT MOST 1048576: true; the input reads as it did. -/
def componentReachUptoRow : OpenClaim := { program := "ytkmnnmclebdjlaa", sum := "237a475865d42bbb1fb32e572ff701da1c80855dc480ba79c57c0e1f3a014d11", func := "groove/groovelaw10.ComponentReach", spec := "componentReach", unfollowed := true, recurses := true, apart := false, narrowed := true }
def ComponentReachUptoSaid : Prop := componentReachUptoRow.holds Try.pinned (OpenSpec.upto componentReachSpec)

end Rows
end Go.Proofs.Ytkmnnmclebdjlaa
