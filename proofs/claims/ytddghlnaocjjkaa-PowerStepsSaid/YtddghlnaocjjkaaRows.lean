/-
  No cell of these rows narrows 'for every input' (looked for: loops, veiled, ifaces, maps, wideKeys, modest, calm, conditions, laid).
  DERIVED. THE GIVEN ROWS OF THIS SEAT. 7 by the template 'for every input the law returns true; each argument reads behind the call as it read before'; 0 by the template 'total and deterministic' (their statements: YtddghlnaocjjkaaTotals.lean).
  GIVEN WITH THE SEED: the statements are not yours to turn. If you find one false, say at which input.
  Laid BY PROGRAM, IN A SANDBOX (cutbox-rows.mjs): the forced cells as the released guide's own fill.sh prints them over the translation 5205ed6b3345e93c… (all of the seat's roots in one cut). By AI agents, Wed Nov 11 2026. No macro, syntax, notation, axiom, sorry.
-/
import Derived.Test.YtddghlnaocjjkaaChecked
import GoSem.Claim
import GoSem.ClaimJoined
import GoSem.ClaimMapViews
import Derived.JoinedTies
import Derived.KernelRfl
namespace Go.Proofs.Ytddghlnaocjjkaa
/- THE CELL 'sum', in the pinned program and in every row, IS THE sha256 OF THE DUMP (.gsa) THAT YtddghlnaocjjkaaProg.lean LOADS. Nothing in Lean hashes anything: it is a label: what it is worth is what the hold of that sum in a sandbox is worth. -/
noncomputable def Try.pinned : Pinned := { name := "ytddghlnaocjjkaa", sum := "5205ed6b3345e93cb61897715eeac5704e96c108efcb9d4f3a418ae165bc1e26", checked := Try.checked }
namespace Rows
def none {H : Type} : Left H := { results := [], args := [] }

/-- 'groovelaw16.PowerPowers': WHATEVER THE INPUT: true; the input reads as it did. -/
def powerPowersSpec : ChangeSpec := { name := "powerPowers", fn := fun _ => fun
  | [d1, d2] => { results := [.lit (.bool true)], args := [d1, d2] }
  | _ => none }
def powerPowersRow : OpenClaim := { program := "ytddghlnaocjjkaa", sum := "5205ed6b3345e93cb61897715eeac5704e96c108efcb9d4f3a418ae165bc1e26", func := "groove/groovelaw16.PowerPowers", spec := "powerPowers", unfollowed := true, recurses := true, plainKeys := false, apart := false }
def PowerPowersSaid : Prop := powerPowersRow.holds Try.pinned (OpenSpec.ofChange powerPowersSpec)

/-- ITS FALSE NEIGHBOUR: 'it returns false'. Refute it at one input. -/
def powerPowersWrong : ChangeSpec := { name := "powerPowers", fn := fun _ => fun
  | [d1, d2] => { results := [.lit (.bool false)], args := [d1, d2] }
  | _ => none }
def PowerPowersWrongFalsely : Prop := powerPowersRow.holds Try.pinned (OpenSpec.ofChange powerPowersWrong)

/-- 'groovelaw16.PowerComposed': WHATEVER THE INPUT: true; the input reads as it did. -/
def powerComposedSpec : ChangeSpec := { name := "powerComposed", fn := fun _ => fun
  | [d1, d2, d3] => { results := [.lit (.bool true)], args := [d1, d2, d3] }
  | _ => none }
def powerComposedRow : OpenClaim := { program := "ytddghlnaocjjkaa", sum := "5205ed6b3345e93cb61897715eeac5704e96c108efcb9d4f3a418ae165bc1e26", func := "groove/groovelaw16.PowerComposed", spec := "powerComposed", unfollowed := true, recurses := true, plainKeys := false, apart := false }
def PowerComposedSaid : Prop := powerComposedRow.holds Try.pinned (OpenSpec.ofChange powerComposedSpec)

/-- ITS FALSE NEIGHBOUR: 'it returns false'. Refute it at one input. -/
def powerComposedWrong : ChangeSpec := { name := "powerComposed", fn := fun _ => fun
  | [d1, d2, d3] => { results := [.lit (.bool false)], args := [d1, d2, d3] }
  | _ => none }
def PowerComposedWrongFalsely : Prop := powerComposedRow.holds Try.pinned (OpenSpec.ofChange powerComposedWrong)

/-- 'groovelaw16.PowerBlocks': WHATEVER THE INPUT: true; the input reads as it did. -/
def powerBlocksSpec : ChangeSpec := { name := "powerBlocks", fn := fun _ => fun
  | [d1, d2, d3, d4] => { results := [.lit (.bool true)], args := [d1, d2, d3, d4] }
  | _ => none }
def powerBlocksRow : OpenClaim := { program := "ytddghlnaocjjkaa", sum := "5205ed6b3345e93cb61897715eeac5704e96c108efcb9d4f3a418ae165bc1e26", func := "groove/groovelaw16.PowerBlocks", spec := "powerBlocks", inPlace := ["internal/bytealg.IndexByteString"], unfollowed := true, recurses := true, plainKeys := false, apart := false }
def PowerBlocksSaid : Prop := powerBlocksRow.holds Try.pinned (OpenSpec.ofChange powerBlocksSpec)

/-- ITS FALSE NEIGHBOUR: 'it returns false'. Refute it at one input. -/
def powerBlocksWrong : ChangeSpec := { name := "powerBlocks", fn := fun _ => fun
  | [d1, d2, d3, d4] => { results := [.lit (.bool false)], args := [d1, d2, d3, d4] }
  | _ => none }
def PowerBlocksWrongFalsely : Prop := powerBlocksRow.holds Try.pinned (OpenSpec.ofChange powerBlocksWrong)

/-- 'groovelaw16.PowerInverse': WHATEVER THE INPUT: true; the input reads as it did. -/
def powerInverseSpec : ChangeSpec := { name := "powerInverse", fn := fun _ => fun
  | [d1, d2, d3] => { results := [.lit (.bool true)], args := [d1, d2, d3] }
  | _ => none }
def powerInverseRow : OpenClaim := { program := "ytddghlnaocjjkaa", sum := "5205ed6b3345e93cb61897715eeac5704e96c108efcb9d4f3a418ae165bc1e26", func := "groove/groovelaw16.PowerInverse", spec := "powerInverse", inPlace := ["internal/bytealg.IndexByteString"], unfollowed := true, recurses := true, plainKeys := false, apart := false }
def PowerInverseSaid : Prop := powerInverseRow.holds Try.pinned (OpenSpec.ofChange powerInverseSpec)

/-- ITS FALSE NEIGHBOUR: 'it returns false'. Refute it at one input. -/
def powerInverseWrong : ChangeSpec := { name := "powerInverse", fn := fun _ => fun
  | [d1, d2, d3] => { results := [.lit (.bool false)], args := [d1, d2, d3] }
  | _ => none }
def PowerInverseWrongFalsely : Prop := powerInverseRow.holds Try.pinned (OpenSpec.ofChange powerInverseWrong)

/-- 'groovelaw16.PowerRecoded': WHATEVER THE INPUT: true; the input reads as it did. -/
def powerRecodedSpec : ChangeSpec := { name := "powerRecoded", fn := fun _ => fun
  | [d1, d2, d3] => { results := [.lit (.bool true)], args := [d1, d2, d3] }
  | _ => none }
def powerRecodedRow : OpenClaim := { program := "ytddghlnaocjjkaa", sum := "5205ed6b3345e93cb61897715eeac5704e96c108efcb9d4f3a418ae165bc1e26", func := "groove/groovelaw16.PowerRecoded", spec := "powerRecoded", unfollowed := true, recurses := true, plainKeys := false, apart := false }
def PowerRecodedSaid : Prop := powerRecodedRow.holds Try.pinned (OpenSpec.ofChange powerRecodedSpec)

/-- ITS FALSE NEIGHBOUR: 'it returns false'. Refute it at one input. -/
def powerRecodedWrong : ChangeSpec := { name := "powerRecoded", fn := fun _ => fun
  | [d1, d2, d3] => { results := [.lit (.bool false)], args := [d1, d2, d3] }
  | _ => none }
def PowerRecodedWrongFalsely : Prop := powerRecodedRow.holds Try.pinned (OpenSpec.ofChange powerRecodedWrong)

/-- 'groovelaw16.PowerPairs': WHATEVER THE INPUT: true; the input reads as it did. -/
def powerPairsSpec : ChangeSpec := { name := "powerPairs", fn := fun _ => fun
  | [d1, d2, d3, d4] => { results := [.lit (.bool true)], args := [d1, d2, d3, d4] }
  | _ => none }
def powerPairsRow : OpenClaim := { program := "ytddghlnaocjjkaa", sum := "5205ed6b3345e93cb61897715eeac5704e96c108efcb9d4f3a418ae165bc1e26", func := "groove/groovelaw16.PowerPairs", spec := "powerPairs", unfollowed := true, recurses := true, plainKeys := false, apart := false }
def PowerPairsSaid : Prop := powerPairsRow.holds Try.pinned (OpenSpec.ofChange powerPairsSpec)

/-- ITS FALSE NEIGHBOUR: 'it returns false'. Refute it at one input. -/
def powerPairsWrong : ChangeSpec := { name := "powerPairs", fn := fun _ => fun
  | [d1, d2, d3, d4] => { results := [.lit (.bool false)], args := [d1, d2, d3, d4] }
  | _ => none }
def PowerPairsWrongFalsely : Prop := powerPairsRow.holds Try.pinned (OpenSpec.ofChange powerPairsWrong)

/-- 'groovelaw16.PowerSteps': WHATEVER THE INPUT: true; the input reads as it did. -/
def powerStepsSpec : ChangeSpec := { name := "powerSteps", fn := fun _ => fun
  | [d1, d2, d3] => { results := [.lit (.bool true)], args := [d1, d2, d3] }
  | _ => none }
def powerStepsRow : OpenClaim := { program := "ytddghlnaocjjkaa", sum := "5205ed6b3345e93cb61897715eeac5704e96c108efcb9d4f3a418ae165bc1e26", func := "groove/groovelaw16.PowerSteps", spec := "powerSteps", unfollowed := true, recurses := true, plainKeys := false, apart := false }
def PowerStepsSaid : Prop := powerStepsRow.holds Try.pinned (OpenSpec.ofChange powerStepsSpec)

/-- ITS FALSE NEIGHBOUR: 'it returns false'. Refute it at one input. -/
def powerStepsWrong : ChangeSpec := { name := "powerSteps", fn := fun _ => fun
  | [d1, d2, d3] => { results := [.lit (.bool false)], args := [d1, d2, d3] }
  | _ => none }
def PowerStepsWrongFalsely : Prop := powerStepsRow.holds Try.pinned (OpenSpec.ofChange powerStepsWrong)

/- THE SECOND FORM. 'bulk': how many values and letters a reading holds, each counted each time it is reached (what is shared counts as often as it is met; a slice's spare places count too). A statement '..UptoSaid' is the law's where the arguments, and the package variables that the reading takes, are together of bulk at most 1048576: NARROWER than '..Said'. Prove '..Said' where nothing that the law and all that it calls make is longer than what came in: it says more and counts as full. Else prove '..UptoSaid'. A law counts once. -/
mutual
def uptoBulk {H : Type} : DataW H → Nat
  | .lit (.string bytes) => bytes.length + 1
  | .lit _ => 1
  | .nil => 1
  | .ptr d => uptoBulk d + 1
  | .slice elems spare => uptoBulkAll elems + uptoBulkAll spare + 1
  | .agg parts => uptoBulkAll parts + 1
  | .iface _ d => uptoBulk d + 1
  | .map entries => uptoBulkEntries entries + 1
  | .held _ => 1
def uptoBulkAll {H : Type} : List (DataW H) → Nat
  | [] => 0
  | d :: r => uptoBulk d + uptoBulkAll r
def uptoBulkEntries {H : Type} : List (Lit × DataW H) → Nat
  | [] => 0
  | x :: r => uptoBulkEntry x + uptoBulkEntries r
def uptoBulkEntry {H : Type} : Lit × DataW H → Nat
  | (.string bytes, d) => bytes.length + uptoBulk d + 1
  | (_, d) => uptoBulk d + 1
 end
def uptoSmall : (H : Type) → List (DataW H) → Bool := fun _ ds => decide (uptoBulkAll ds ≤ 1048576)
def OpenSpec.upto (s : _root_.Go.ChangeSpec) : _root_.Go.OpenSpec := { _root_.Go.OpenSpec.ofChange s with cond := some uptoSmall }

/-- 'groovelaw16.PowerPowers', WHERE WHAT IT READS IS OF BULK AT MOST 1048576: true; the input reads as it did. -/
def powerPowersUptoRow : OpenClaim := { program := "ytddghlnaocjjkaa", sum := "5205ed6b3345e93cb61897715eeac5704e96c108efcb9d4f3a418ae165bc1e26", func := "groove/groovelaw16.PowerPowers", spec := "powerPowers", unfollowed := true, recurses := true, plainKeys := false, apart := false, narrowed := true }
def PowerPowersUptoSaid : Prop := powerPowersUptoRow.holds Try.pinned (OpenSpec.upto powerPowersSpec)

/-- 'groovelaw16.PowerComposed', WHERE WHAT IT READS IS OF BULK AT MOST 1048576: true; the input reads as it did. -/
def powerComposedUptoRow : OpenClaim := { program := "ytddghlnaocjjkaa", sum := "5205ed6b3345e93cb61897715eeac5704e96c108efcb9d4f3a418ae165bc1e26", func := "groove/groovelaw16.PowerComposed", spec := "powerComposed", unfollowed := true, recurses := true, plainKeys := false, apart := false, narrowed := true }
def PowerComposedUptoSaid : Prop := powerComposedUptoRow.holds Try.pinned (OpenSpec.upto powerComposedSpec)

/-- 'groovelaw16.PowerBlocks', WHERE WHAT IT READS IS OF BULK AT MOST 1048576: true; the input reads as it did. -/
def powerBlocksUptoRow : OpenClaim := { program := "ytddghlnaocjjkaa", sum := "5205ed6b3345e93cb61897715eeac5704e96c108efcb9d4f3a418ae165bc1e26", func := "groove/groovelaw16.PowerBlocks", spec := "powerBlocks", inPlace := ["internal/bytealg.IndexByteString"], unfollowed := true, recurses := true, plainKeys := false, apart := false, narrowed := true }
def PowerBlocksUptoSaid : Prop := powerBlocksUptoRow.holds Try.pinned (OpenSpec.upto powerBlocksSpec)

/-- 'groovelaw16.PowerInverse', WHERE WHAT IT READS IS OF BULK AT MOST 1048576: true; the input reads as it did. -/
def powerInverseUptoRow : OpenClaim := { program := "ytddghlnaocjjkaa", sum := "5205ed6b3345e93cb61897715eeac5704e96c108efcb9d4f3a418ae165bc1e26", func := "groove/groovelaw16.PowerInverse", spec := "powerInverse", inPlace := ["internal/bytealg.IndexByteString"], unfollowed := true, recurses := true, plainKeys := false, apart := false, narrowed := true }
def PowerInverseUptoSaid : Prop := powerInverseUptoRow.holds Try.pinned (OpenSpec.upto powerInverseSpec)

/-- 'groovelaw16.PowerRecoded', WHERE WHAT IT READS IS OF BULK AT MOST 1048576: true; the input reads as it did. -/
def powerRecodedUptoRow : OpenClaim := { program := "ytddghlnaocjjkaa", sum := "5205ed6b3345e93cb61897715eeac5704e96c108efcb9d4f3a418ae165bc1e26", func := "groove/groovelaw16.PowerRecoded", spec := "powerRecoded", unfollowed := true, recurses := true, plainKeys := false, apart := false, narrowed := true }
def PowerRecodedUptoSaid : Prop := powerRecodedUptoRow.holds Try.pinned (OpenSpec.upto powerRecodedSpec)

/-- 'groovelaw16.PowerPairs', WHERE WHAT IT READS IS OF BULK AT MOST 1048576: true; the input reads as it did. -/
def powerPairsUptoRow : OpenClaim := { program := "ytddghlnaocjjkaa", sum := "5205ed6b3345e93cb61897715eeac5704e96c108efcb9d4f3a418ae165bc1e26", func := "groove/groovelaw16.PowerPairs", spec := "powerPairs", unfollowed := true, recurses := true, plainKeys := false, apart := false, narrowed := true }
def PowerPairsUptoSaid : Prop := powerPairsUptoRow.holds Try.pinned (OpenSpec.upto powerPairsSpec)

/-- 'groovelaw16.PowerSteps', WHERE WHAT IT READS IS OF BULK AT MOST 1048576: true; the input reads as it did. -/
def powerStepsUptoRow : OpenClaim := { program := "ytddghlnaocjjkaa", sum := "5205ed6b3345e93cb61897715eeac5704e96c108efcb9d4f3a418ae165bc1e26", func := "groove/groovelaw16.PowerSteps", spec := "powerSteps", unfollowed := true, recurses := true, plainKeys := false, apart := false, narrowed := true }
def PowerStepsUptoSaid : Prop := powerStepsUptoRow.holds Try.pinned (OpenSpec.upto powerStepsSpec)

end Rows
end Go.Proofs.Ytddghlnaocjjkaa
