/-
  No cell of these rows narrows 'for every input' (looked for: loops, veiled, ifaces, maps, wideKeys, modest, calm, conditions, laid).
  DERIVED. THE GIVEN ROWS OF THIS SEAT. 8 by the template 'for every input the law returns true; each argument reads behind the call as it read before'; 0 by the template 'total and deterministic' (their statements: YtmjkbidnghcfnaaTotals.lean).
  GIVEN WITH THE SEED: the statements are not yours to turn. If you find one false, say at which input.
  Laid BY PROGRAM, IN A SANDBOX (cutbox-rows.mjs): the forced cells as the released guide's own fill.sh prints them over the translation 06d1f75f30764360… (all of the seat's roots in one cut). By AI agents, Wed Nov 11 2026. No macro, syntax, notation, axiom, sorry.
-/
import Derived.Test.YtmjkbidnghcfnaaChecked
import GoSem.Claim
import GoSem.ClaimJoined
import GoSem.ClaimMapViews
import Derived.JoinedTies
import Derived.KernelRfl
namespace Go.Proofs.Ytmjkbidnghcfnaa
/- THE CELL 'sum', in the pinned program and in every row, IS THE sha256 OF THE DUMP (.gsa) THAT YtmjkbidnghcfnaaProg.lean LOADS. Nothing in Lean hashes anything: it is a label: what it is worth is what the hold of that sum in a sandbox is worth. -/
noncomputable def Try.pinned : Pinned := { name := "ytmjkbidnghcfnaa", sum := "06d1f75f3076436071d36ee5801070f51991a55a87b9863c450610f69e183d97", checked := Try.checked }
namespace Rows
def none {H : Type} : Left H := { results := [], args := [] }

/-- 'groovelaw27.ReductionSizes': WHATEVER THE INPUT: true; the input reads as it did. -/
def reductionSizesSpec : ChangeSpec := { name := "reductionSizes", fn := fun _ => fun
  | [d] => { results := [.lit (.bool true)], args := [d] }
  | _ => none }
def reductionSizesRow : OpenClaim := { program := "ytmjkbidnghcfnaa", sum := "06d1f75f3076436071d36ee5801070f51991a55a87b9863c450610f69e183d97", func := "groove/groovelaw27.ReductionSizes", spec := "reductionSizes", inPlace := ["internal/bytealg.IndexByteString"], plainKeys := false, apart := false }
def ReductionSizesSaid : Prop := reductionSizesRow.holds Try.pinned (OpenSpec.ofChange reductionSizesSpec)

/-- ITS FALSE NEIGHBOUR: 'it returns false'. Refute it at one input. -/
def reductionSizesWrong : ChangeSpec := { name := "reductionSizes", fn := fun _ => fun
  | [d] => { results := [.lit (.bool false)], args := [d] }
  | _ => none }
def ReductionSizesWrongFalsely : Prop := reductionSizesRow.holds Try.pinned (OpenSpec.ofChange reductionSizesWrong)

/-- 'groovelaw27.ReductionClasses': WHATEVER THE INPUT: true; the input reads as it did. -/
def reductionClassesSpec : ChangeSpec := { name := "reductionClasses", fn := fun _ => fun
  | [d1, d2] => { results := [.lit (.bool true)], args := [d1, d2] }
  | _ => none }
def reductionClassesRow : OpenClaim := { program := "ytmjkbidnghcfnaa", sum := "06d1f75f3076436071d36ee5801070f51991a55a87b9863c450610f69e183d97", func := "groove/groovelaw27.ReductionClasses", spec := "reductionClasses", inPlace := ["internal/bytealg.IndexByteString"], unfollowed := true, recurses := true, plainKeys := false, apart := false }
def ReductionClassesSaid : Prop := reductionClassesRow.holds Try.pinned (OpenSpec.ofChange reductionClassesSpec)

/-- ITS FALSE NEIGHBOUR: 'it returns false'. Refute it at one input. -/
def reductionClassesWrong : ChangeSpec := { name := "reductionClasses", fn := fun _ => fun
  | [d1, d2] => { results := [.lit (.bool false)], args := [d1, d2] }
  | _ => none }
def ReductionClassesWrongFalsely : Prop := reductionClassesRow.holds Try.pinned (OpenSpec.ofChange reductionClassesWrong)

/-- 'groovelaw27.ReductionMerged': WHATEVER THE INPUT: true; the input reads as it did. -/
def reductionMergedSpec : ChangeSpec := { name := "reductionMerged", fn := fun _ => fun
  | [d1, d2, d3] => { results := [.lit (.bool true)], args := [d1, d2, d3] }
  | _ => none }
def reductionMergedRow : OpenClaim := { program := "ytmjkbidnghcfnaa", sum := "06d1f75f3076436071d36ee5801070f51991a55a87b9863c450610f69e183d97", func := "groove/groovelaw27.ReductionMerged", spec := "reductionMerged", inPlace := ["internal/bytealg.IndexByteString", "internal/abi.NoEscape"], unfollowed := true, recurses := true, plainKeys := false, apart := false }
def ReductionMergedSaid : Prop := reductionMergedRow.holds Try.pinned (OpenSpec.ofChange reductionMergedSpec)

/-- ITS FALSE NEIGHBOUR: 'it returns false'. Refute it at one input. -/
def reductionMergedWrong : ChangeSpec := { name := "reductionMerged", fn := fun _ => fun
  | [d1, d2, d3] => { results := [.lit (.bool false)], args := [d1, d2, d3] }
  | _ => none }
def ReductionMergedWrongFalsely : Prop := reductionMergedRow.holds Try.pinned (OpenSpec.ofChange reductionMergedWrong)

/-- 'groovelaw27.ReductionSeparates': WHATEVER THE INPUT: true; the input reads as it did. -/
def reductionSeparatesSpec : ChangeSpec := { name := "reductionSeparates", fn := fun _ => fun
  | [d1, d2, d3, d4] => { results := [.lit (.bool true)], args := [d1, d2, d3, d4] }
  | _ => none }
def reductionSeparatesRow : OpenClaim := { program := "ytmjkbidnghcfnaa", sum := "06d1f75f3076436071d36ee5801070f51991a55a87b9863c450610f69e183d97", func := "groove/groovelaw27.ReductionSeparates", spec := "reductionSeparates", inPlace := ["internal/bytealg.IndexByteString", "internal/abi.NoEscape"], unfollowed := true, recurses := true, plainKeys := false, apart := false }
def ReductionSeparatesSaid : Prop := reductionSeparatesRow.holds Try.pinned (OpenSpec.ofChange reductionSeparatesSpec)

/-- ITS FALSE NEIGHBOUR: 'it returns false'. Refute it at one input. -/
def reductionSeparatesWrong : ChangeSpec := { name := "reductionSeparates", fn := fun _ => fun
  | [d1, d2, d3, d4] => { results := [.lit (.bool false)], args := [d1, d2, d3, d4] }
  | _ => none }
def ReductionSeparatesWrongFalsely : Prop := reductionSeparatesRow.holds Try.pinned (OpenSpec.ofChange reductionSeparatesWrong)

/-- 'groovelaw27.ReductionReached': WHATEVER THE INPUT: true; the input reads as it did. -/
def reductionReachedSpec : ChangeSpec := { name := "reductionReached", fn := fun _ => fun
  | [d1, d2, d3] => { results := [.lit (.bool true)], args := [d1, d2, d3] }
  | _ => none }
def reductionReachedRow : OpenClaim := { program := "ytmjkbidnghcfnaa", sum := "06d1f75f3076436071d36ee5801070f51991a55a87b9863c450610f69e183d97", func := "groove/groovelaw27.ReductionReached", spec := "reductionReached", inPlace := ["internal/bytealg.IndexByteString", "internal/abi.NoEscape"], unfollowed := true, recurses := true, plainKeys := false, apart := false }
def ReductionReachedSaid : Prop := reductionReachedRow.holds Try.pinned (OpenSpec.ofChange reductionReachedSpec)

/-- ITS FALSE NEIGHBOUR: 'it returns false'. Refute it at one input. -/
def reductionReachedWrong : ChangeSpec := { name := "reductionReached", fn := fun _ => fun
  | [d1, d2, d3] => { results := [.lit (.bool false)], args := [d1, d2, d3] }
  | _ => none }
def ReductionReachedWrongFalsely : Prop := reductionReachedRow.holds Try.pinned (OpenSpec.ofChange reductionReachedWrong)

/-- 'groovelaw27.ReductionRelabelled': WHATEVER THE INPUT: true; the input reads as it did. -/
def reductionRelabelledSpec : ChangeSpec := { name := "reductionRelabelled", fn := fun _ => fun
  | [d1, d2, d3, d4] => { results := [.lit (.bool true)], args := [d1, d2, d3, d4] }
  | _ => none }
def reductionRelabelledRow : OpenClaim := { program := "ytmjkbidnghcfnaa", sum := "06d1f75f3076436071d36ee5801070f51991a55a87b9863c450610f69e183d97", func := "groove/groovelaw27.ReductionRelabelled", spec := "reductionRelabelled", inPlace := ["internal/bytealg.IndexByteString", "internal/abi.NoEscape"], unfollowed := true, recurses := true, plainKeys := false, apart := false }
def ReductionRelabelledSaid : Prop := reductionRelabelledRow.holds Try.pinned (OpenSpec.ofChange reductionRelabelledSpec)

/-- ITS FALSE NEIGHBOUR: 'it returns false'. Refute it at one input. -/
def reductionRelabelledWrong : ChangeSpec := { name := "reductionRelabelled", fn := fun _ => fun
  | [d1, d2, d3, d4] => { results := [.lit (.bool false)], args := [d1, d2, d3, d4] }
  | _ => none }
def ReductionRelabelledWrongFalsely : Prop := reductionRelabelledRow.holds Try.pinned (OpenSpec.ofChange reductionRelabelledWrong)

/-- 'groovelaw27.ReductionChanges': WHATEVER THE INPUT: true; the input reads as it did. -/
def reductionChangesSpec : ChangeSpec := { name := "reductionChanges", fn := fun _ => fun
  | [d1, d2, d3, d4, d5] => { results := [.lit (.bool true)], args := [d1, d2, d3, d4, d5] }
  | _ => none }
def reductionChangesRow : OpenClaim := { program := "ytmjkbidnghcfnaa", sum := "06d1f75f3076436071d36ee5801070f51991a55a87b9863c450610f69e183d97", func := "groove/groovelaw27.ReductionChanges", spec := "reductionChanges", inPlace := ["internal/bytealg.IndexByteString"], unfollowed := true, recurses := true, plainKeys := false, apart := false }
def ReductionChangesSaid : Prop := reductionChangesRow.holds Try.pinned (OpenSpec.ofChange reductionChangesSpec)

/-- ITS FALSE NEIGHBOUR: 'it returns false'. Refute it at one input. -/
def reductionChangesWrong : ChangeSpec := { name := "reductionChanges", fn := fun _ => fun
  | [d1, d2, d3, d4, d5] => { results := [.lit (.bool false)], args := [d1, d2, d3, d4, d5] }
  | _ => none }
def ReductionChangesWrongFalsely : Prop := reductionChangesRow.holds Try.pinned (OpenSpec.ofChange reductionChangesWrong)

/-- 'groovelaw27.ReductionSorted': WHATEVER THE INPUT: true; the input reads as it did. -/
def reductionSortedSpec : ChangeSpec := { name := "reductionSorted", fn := fun _ => fun
  | [d1, d2] => { results := [.lit (.bool true)], args := [d1, d2] }
  | _ => none }
def reductionSortedRow : OpenClaim := { program := "ytmjkbidnghcfnaa", sum := "06d1f75f3076436071d36ee5801070f51991a55a87b9863c450610f69e183d97", func := "groove/groovelaw27.ReductionSorted", spec := "reductionSorted", inPlace := ["internal/bytealg.IndexByteString"], unfollowed := true, recurses := true, plainKeys := false, apart := false }
def ReductionSortedSaid : Prop := reductionSortedRow.holds Try.pinned (OpenSpec.ofChange reductionSortedSpec)

/-- ITS FALSE NEIGHBOUR: 'it returns false'. Refute it at one input. -/
def reductionSortedWrong : ChangeSpec := { name := "reductionSorted", fn := fun _ => fun
  | [d1, d2] => { results := [.lit (.bool false)], args := [d1, d2] }
  | _ => none }
def ReductionSortedWrongFalsely : Prop := reductionSortedRow.holds Try.pinned (OpenSpec.ofChange reductionSortedWrong)

/- THE SECOND FORM. 'bulk': how many values and letters a reading holds, each counted each time it is reached (what is shared counts as often as it is met; a slice's spare places count too). A statement '..UptoSaid' is the law's where the arguments, and the package variables that the reading takes, are together of bulk at most 1048576: NARROWER than '..Said'. Prove '..Said' where nothing that the law and all that it calls make is longer than what came in: it says more and counts as full. Else prove '..UptoSaid'. A law counts once. -/
mutual
def uptoBulk {H : Type} : DataW H → Nat
  | .lit (.string bytes) => bytes.length + 1
  | .lit _ => 1
  | .nil => 1
  | .ptr d => uptoBulk d + 1
  | .slice elems spare => uptoBulkAll elems + uptoBulkAll spare + 1
  | .agg parts => uptoBulkAll parts + 1
  | .iface _ d => uptoBulk d + 1
  | .map entries => uptoBulkEntries entries + 1
  | .held _ => 1
def uptoBulkAll {H : Type} : List (DataW H) → Nat
  | [] => 0
  | d :: r => uptoBulk d + uptoBulkAll r
def uptoBulkEntries {H : Type} : List (Lit × DataW H) → Nat
  | [] => 0
  | x :: r => uptoBulkEntry x + uptoBulkEntries r
def uptoBulkEntry {H : Type} : Lit × DataW H → Nat
  | (.string bytes, d) => bytes.length + uptoBulk d + 1
  | (_, d) => uptoBulk d + 1
 end
def uptoSmall : (H : Type) → List (DataW H) → Bool := fun _ ds => decide (uptoBulkAll ds ≤ 1048576)
def OpenSpec.upto (s : _root_.Go.ChangeSpec) : _root_.Go.OpenSpec := { _root_.Go.OpenSpec.ofChange s with cond := some uptoSmall }

/-- 'groovelaw27.ReductionSizes', WHERE WHAT IT READS IS OF BULK AT MOST 1048576: true; the input reads as it did. -/
def reductionSizesUptoRow : OpenClaim := { program := "ytmjkbidnghcfnaa", sum := "06d1f75f3076436071d36ee5801070f51991a55a87b9863c450610f69e183d97", func := "groove/groovelaw27.ReductionSizes", spec := "reductionSizes", inPlace := ["internal/bytealg.IndexByteString"], plainKeys := false, apart := false, narrowed := true }
def ReductionSizesUptoSaid : Prop := reductionSizesUptoRow.holds Try.pinned (OpenSpec.upto reductionSizesSpec)

/-- 'groovelaw27.ReductionClasses', WHERE WHAT IT READS IS OF BULK AT MOST 1048576: true; the input reads as it did. -/
def reductionClassesUptoRow : OpenClaim := { program := "ytmjkbidnghcfnaa", sum := "06d1f75f3076436071d36ee5801070f51991a55a87b9863c450610f69e183d97", func := "groove/groovelaw27.ReductionClasses", spec := "reductionClasses", inPlace := ["internal/bytealg.IndexByteString"], unfollowed := true, recurses := true, plainKeys := false, apart := false, narrowed := true }
def ReductionClassesUptoSaid : Prop := reductionClassesUptoRow.holds Try.pinned (OpenSpec.upto reductionClassesSpec)

/-- 'groovelaw27.ReductionMerged', WHERE WHAT IT READS IS OF BULK AT MOST 1048576: true; the input reads as it did. -/
def reductionMergedUptoRow : OpenClaim := { program := "ytmjkbidnghcfnaa", sum := "06d1f75f3076436071d36ee5801070f51991a55a87b9863c450610f69e183d97", func := "groove/groovelaw27.ReductionMerged", spec := "reductionMerged", inPlace := ["internal/bytealg.IndexByteString", "internal/abi.NoEscape"], unfollowed := true, recurses := true, plainKeys := false, apart := false, narrowed := true }
def ReductionMergedUptoSaid : Prop := reductionMergedUptoRow.holds Try.pinned (OpenSpec.upto reductionMergedSpec)

/-- 'groovelaw27.ReductionSeparates', WHERE WHAT IT READS IS OF BULK AT MOST 1048576: true; the input reads as it did. -/
def reductionSeparatesUptoRow : OpenClaim := { program := "ytmjkbidnghcfnaa", sum := "06d1f75f3076436071d36ee5801070f51991a55a87b9863c450610f69e183d97", func := "groove/groovelaw27.ReductionSeparates", spec := "reductionSeparates", inPlace := ["internal/bytealg.IndexByteString", "internal/abi.NoEscape"], unfollowed := true, recurses := true, plainKeys := false, apart := false, narrowed := true }
def ReductionSeparatesUptoSaid : Prop := reductionSeparatesUptoRow.holds Try.pinned (OpenSpec.upto reductionSeparatesSpec)

/-- 'groovelaw27.ReductionReached', WHERE WHAT IT READS IS OF BULK AT MOST 1048576: true; the input reads as it did. -/
def reductionReachedUptoRow : OpenClaim := { program := "ytmjkbidnghcfnaa", sum := "06d1f75f3076436071d36ee5801070f51991a55a87b9863c450610f69e183d97", func := "groove/groovelaw27.ReductionReached", spec := "reductionReached", inPlace := ["internal/bytealg.IndexByteString", "internal/abi.NoEscape"], unfollowed := true, recurses := true, plainKeys := false, apart := false, narrowed := true }
def ReductionReachedUptoSaid : Prop := reductionReachedUptoRow.holds Try.pinned (OpenSpec.upto reductionReachedSpec)

/-- 'groovelaw27.ReductionRelabelled', WHERE WHAT IT READS IS OF BULK AT MOST 1048576: true; the input reads as it did. -/
def reductionRelabelledUptoRow : OpenClaim := { program := "ytmjkbidnghcfnaa", sum := "06d1f75f3076436071d36ee5801070f51991a55a87b9863c450610f69e183d97", func := "groove/groovelaw27.ReductionRelabelled", spec := "reductionRelabelled", inPlace := ["internal/bytealg.IndexByteString", "internal/abi.NoEscape"], unfollowed := true, recurses := true, plainKeys := false, apart := false, narrowed := true }
def ReductionRelabelledUptoSaid : Prop := reductionRelabelledUptoRow.holds Try.pinned (OpenSpec.upto reductionRelabelledSpec)

/-- 'groovelaw27.ReductionChanges', WHERE WHAT IT READS IS OF BULK AT MOST 1048576: true; the input reads as it did. -/
def reductionChangesUptoRow : OpenClaim := { program := "ytmjkbidnghcfnaa", sum := "06d1f75f3076436071d36ee5801070f51991a55a87b9863c450610f69e183d97", func := "groove/groovelaw27.ReductionChanges", spec := "reductionChanges", inPlace := ["internal/bytealg.IndexByteString"], unfollowed := true, recurses := true, plainKeys := false, apart := false, narrowed := true }
def ReductionChangesUptoSaid : Prop := reductionChangesUptoRow.holds Try.pinned (OpenSpec.upto reductionChangesSpec)

/-- 'groovelaw27.ReductionSorted', WHERE WHAT IT READS IS OF BULK AT MOST 1048576: true; the input reads as it did. -/
def reductionSortedUptoRow : OpenClaim := { program := "ytmjkbidnghcfnaa", sum := "06d1f75f3076436071d36ee5801070f51991a55a87b9863c450610f69e183d97", func := "groove/groovelaw27.ReductionSorted", spec := "reductionSorted", inPlace := ["internal/bytealg.IndexByteString"], unfollowed := true, recurses := true, plainKeys := false, apart := false, narrowed := true }
def ReductionSortedUptoSaid : Prop := reductionSortedUptoRow.holds Try.pinned (OpenSpec.upto reductionSortedSpec)

end Rows
end Go.Proofs.Ytmjkbidnghcfnaa
