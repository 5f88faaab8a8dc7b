/-
  No cell of these rows narrows 'for every input' (looked for: loops, veiled, ifaces, maps, wideKeys, modest, calm, conditions, laid).
  DERIVED. THE GIVEN ROWS OF THIS SEAT. 7 by the template 'for every input the law returns true; each argument reads behind the call as it read before'; 0 by the template 'total and deterministic' (their statements: YtoafgeobhhlplaaTotals.lean).
  GIVEN WITH THE SEED: the statements are not yours to turn. If you find one false, say at which input.
  Laid BY PROGRAM, IN A SANDBOX (cutbox-rows.mjs): the forced cells as the released guide's own fill.sh prints them over the translation 63c4774b9b1e73f4… (all of the seat's roots in one cut). By AI agents, Wed Nov 11 2026. No macro, syntax, notation, axiom, sorry.
-/
import Derived.Test.YtoafgeobhhlplaaChecked
import GoSem.Claim
import GoSem.ClaimJoined
import GoSem.ClaimMapViews
import Derived.JoinedTies
import Derived.KernelRfl
namespace Go.Proofs.Ytoafgeobhhlplaa
/- THE CELL 'sum', in the pinned program and in every row, IS THE sha256 OF THE DUMP (.gsa) THAT YtoafgeobhhlplaaProg.lean LOADS. Nothing in Lean hashes anything: it is a label: what it is worth is what the hold of that sum in a sandbox is worth. -/
noncomputable def Try.pinned : Pinned := { name := "ytoafgeobhhlplaa", sum := "63c4774b9b1e73f4f1bccc48df8a3d0d7e4976605ab92c7093066b4036c6a202", checked := Try.checked }
namespace Rows
def none {H : Type} : Left H := { results := [], args := [] }

/-- 'groovelaw35.DelayNumbers': WHATEVER THE INPUT: true; the input reads as it did. -/
def delayNumbersSpec : ChangeSpec := { name := "delayNumbers", fn := fun _ => fun
  | [d1, d2] => { results := [.lit (.bool true)], args := [d1, d2] }
  | _ => none }
def delayNumbersRow : OpenClaim := { program := "ytoafgeobhhlplaa", sum := "63c4774b9b1e73f4f1bccc48df8a3d0d7e4976605ab92c7093066b4036c6a202", func := "groove/groovelaw35.DelayNumbers", spec := "delayNumbers", inPlace := ["internal/bytealg.IndexByteString", "internal/bytealg.abigen_runtime_cmpstring", "internal/abi.NoEscape"], unfollowed := true, recurses := true, plainKeys := false, apart := false }
def DelayNumbersSaid : Prop := delayNumbersRow.holds Try.pinned (OpenSpec.ofChange delayNumbersSpec)

/-- ITS FALSE NEIGHBOUR: 'it returns false'. Refute it at one input. -/
def delayNumbersWrong : ChangeSpec := { name := "delayNumbers", fn := fun _ => fun
  | [d1, d2] => { results := [.lit (.bool false)], args := [d1, d2] }
  | _ => none }
def DelayNumbersWrongFalsely : Prop := delayNumbersRow.holds Try.pinned (OpenSpec.ofChange delayNumbersWrong)

/-- 'groovelaw35.DelayReads': WHATEVER THE INPUT: true; the input reads as it did. -/
def delayReadsSpec : ChangeSpec := { name := "delayReads", fn := fun _ => fun
  | [d1, d2, d3] => { results := [.lit (.bool true)], args := [d1, d2, d3] }
  | _ => none }
def delayReadsRow : OpenClaim := { program := "ytoafgeobhhlplaa", sum := "63c4774b9b1e73f4f1bccc48df8a3d0d7e4976605ab92c7093066b4036c6a202", func := "groove/groovelaw35.DelayReads", spec := "delayReads", inPlace := ["internal/bytealg.IndexByteString", "internal/bytealg.abigen_runtime_cmpstring", "internal/abi.NoEscape"], unfollowed := true, recurses := true, plainKeys := false, apart := false }
def DelayReadsSaid : Prop := delayReadsRow.holds Try.pinned (OpenSpec.ofChange delayReadsSpec)

/-- ITS FALSE NEIGHBOUR: 'it returns false'. Refute it at one input. -/
def delayReadsWrong : ChangeSpec := { name := "delayReads", fn := fun _ => fun
  | [d1, d2, d3] => { results := [.lit (.bool false)], args := [d1, d2, d3] }
  | _ => none }
def DelayReadsWrongFalsely : Prop := delayReadsRow.holds Try.pinned (OpenSpec.ofChange delayReadsWrong)

/-- 'groovelaw35.DelayWitness': WHATEVER THE INPUT: true; the input reads as it did. -/
def delayWitnessSpec : ChangeSpec := { name := "delayWitness", fn := fun _ => fun
  | [d1, d2] => { results := [.lit (.bool true)], args := [d1, d2] }
  | _ => none }
def delayWitnessRow : OpenClaim := { program := "ytoafgeobhhlplaa", sum := "63c4774b9b1e73f4f1bccc48df8a3d0d7e4976605ab92c7093066b4036c6a202", func := "groove/groovelaw35.DelayWitness", spec := "delayWitness", inPlace := ["internal/bytealg.IndexByteString", "internal/bytealg.abigen_runtime_cmpstring", "internal/abi.NoEscape"], unfollowed := true, recurses := true, plainKeys := false, apart := false }
def DelayWitnessSaid : Prop := delayWitnessRow.holds Try.pinned (OpenSpec.ofChange delayWitnessSpec)

/-- ITS FALSE NEIGHBOUR: 'it returns false'. Refute it at one input. -/
def delayWitnessWrong : ChangeSpec := { name := "delayWitness", fn := fun _ => fun
  | [d1, d2] => { results := [.lit (.bool false)], args := [d1, d2] }
  | _ => none }
def DelayWitnessWrongFalsely : Prop := delayWitnessRow.holds Try.pinned (OpenSpec.ofChange delayWitnessWrong)

/-- 'groovelaw35.DelayReading': WHATEVER THE INPUT: true; the input reads as it did. -/
def delayReadingSpec : ChangeSpec := { name := "delayReading", fn := fun _ => fun
  | [d1, d2, d3] => { results := [.lit (.bool true)], args := [d1, d2, d3] }
  | _ => none }
def delayReadingRow : OpenClaim := { program := "ytoafgeobhhlplaa", sum := "63c4774b9b1e73f4f1bccc48df8a3d0d7e4976605ab92c7093066b4036c6a202", func := "groove/groovelaw35.DelayReading", spec := "delayReading", inPlace := ["internal/bytealg.IndexByteString", "internal/bytealg.abigen_runtime_cmpstring", "internal/abi.NoEscape"], unfollowed := true, recurses := true, plainKeys := false, apart := false }
def DelayReadingSaid : Prop := delayReadingRow.holds Try.pinned (OpenSpec.ofChange delayReadingSpec)

/-- ITS FALSE NEIGHBOUR: 'it returns false'. Refute it at one input. -/
def delayReadingWrong : ChangeSpec := { name := "delayReading", fn := fun _ => fun
  | [d1, d2, d3] => { results := [.lit (.bool false)], args := [d1, d2, d3] }
  | _ => none }
def DelayReadingWrongFalsely : Prop := delayReadingRow.holds Try.pinned (OpenSpec.ofChange delayReadingWrong)

/-- 'groovelaw35.DelayMeaning': WHATEVER THE INPUT: true; the input reads as it did. -/
def delayMeaningSpec : ChangeSpec := { name := "delayMeaning", fn := fun _ => fun
  | [d1, d2] => { results := [.lit (.bool true)], args := [d1, d2] }
  | _ => none }
def delayMeaningRow : OpenClaim := { program := "ytoafgeobhhlplaa", sum := "63c4774b9b1e73f4f1bccc48df8a3d0d7e4976605ab92c7093066b4036c6a202", func := "groove/groovelaw35.DelayMeaning", spec := "delayMeaning", inPlace := ["internal/bytealg.IndexByteString", "internal/bytealg.abigen_runtime_cmpstring", "internal/abi.NoEscape"], unfollowed := true, recurses := true, plainKeys := false, apart := false }
def DelayMeaningSaid : Prop := delayMeaningRow.holds Try.pinned (OpenSpec.ofChange delayMeaningSpec)

/-- ITS FALSE NEIGHBOUR: 'it returns false'. Refute it at one input. -/
def delayMeaningWrong : ChangeSpec := { name := "delayMeaning", fn := fun _ => fun
  | [d1, d2] => { results := [.lit (.bool false)], args := [d1, d2] }
  | _ => none }
def DelayMeaningWrongFalsely : Prop := delayMeaningRow.holds Try.pinned (OpenSpec.ofChange delayMeaningWrong)

/-- 'groovelaw35.DelayStarts': WHATEVER THE INPUT: true; the input reads as it did. -/
def delayStartsSpec : ChangeSpec := { name := "delayStarts", fn := fun _ => fun
  | [d1, d2, d3, d4] => { results := [.lit (.bool true)], args := [d1, d2, d3, d4] }
  | _ => none }
def delayStartsRow : OpenClaim := { program := "ytoafgeobhhlplaa", sum := "63c4774b9b1e73f4f1bccc48df8a3d0d7e4976605ab92c7093066b4036c6a202", func := "groove/groovelaw35.DelayStarts", spec := "delayStarts", inPlace := ["internal/bytealg.IndexByteString", "internal/bytealg.abigen_runtime_cmpstring", "internal/abi.NoEscape"], unfollowed := true, recurses := true, plainKeys := false, apart := false }
def DelayStartsSaid : Prop := delayStartsRow.holds Try.pinned (OpenSpec.ofChange delayStartsSpec)

/-- ITS FALSE NEIGHBOUR: 'it returns false'. Refute it at one input. -/
def delayStartsWrong : ChangeSpec := { name := "delayStarts", fn := fun _ => fun
  | [d1, d2, d3, d4] => { results := [.lit (.bool false)], args := [d1, d2, d3, d4] }
  | _ => none }
def DelayStartsWrongFalsely : Prop := delayStartsRow.holds Try.pinned (OpenSpec.ofChange delayStartsWrong)

/-- 'groovelaw35.DelayPrefixes': WHATEVER THE INPUT: true; the input reads as it did. -/
def delayPrefixesSpec : ChangeSpec := { name := "delayPrefixes", fn := fun _ => fun
  | [d] => { results := [.lit (.bool true)], args := [d] }
  | _ => none }
def delayPrefixesRow : OpenClaim := { program := "ytoafgeobhhlplaa", sum := "63c4774b9b1e73f4f1bccc48df8a3d0d7e4976605ab92c7093066b4036c6a202", func := "groove/groovelaw35.DelayPrefixes", spec := "delayPrefixes", inPlace := ["internal/bytealg.IndexByteString", "internal/bytealg.abigen_runtime_cmpstring", "internal/abi.NoEscape"], unfollowed := true, recurses := true, plainKeys := false, apart := false }
def DelayPrefixesSaid : Prop := delayPrefixesRow.holds Try.pinned (OpenSpec.ofChange delayPrefixesSpec)

/-- ITS FALSE NEIGHBOUR: 'it returns false'. Refute it at one input. -/
def delayPrefixesWrong : ChangeSpec := { name := "delayPrefixes", fn := fun _ => fun
  | [d] => { results := [.lit (.bool false)], args := [d] }
  | _ => none }
def DelayPrefixesWrongFalsely : Prop := delayPrefixesRow.holds Try.pinned (OpenSpec.ofChange delayPrefixesWrong)

/- THE SECOND FORM. 'bulk': how many values and letters a reading holds, each counted each time it is reached (what is shared counts as often as it is met; a slice's spare places count too). A statement '..UptoSaid' is the law's where the arguments, and the package variables that the reading takes, are together of bulk at most 1048576: NARROWER than '..Said'. Prove '..Said' where nothing that the law and all that it calls make is longer than what came in: it says more and counts as full. Else prove '..UptoSaid'. A law counts once. -/
mutual
def uptoBulk {H : Type} : DataW H → Nat
  | .lit (.string bytes) => bytes.length + 1
  | .lit _ => 1
  | .nil => 1
  | .ptr d => uptoBulk d + 1
  | .slice elems spare => uptoBulkAll elems + uptoBulkAll spare + 1
  | .agg parts => uptoBulkAll parts + 1
  | .iface _ d => uptoBulk d + 1
  | .map entries => uptoBulkEntries entries + 1
  | .held _ => 1
def uptoBulkAll {H : Type} : List (DataW H) → Nat
  | [] => 0
  | d :: r => uptoBulk d + uptoBulkAll r
def uptoBulkEntries {H : Type} : List (Lit × DataW H) → Nat
  | [] => 0
  | x :: r => uptoBulkEntry x + uptoBulkEntries r
def uptoBulkEntry {H : Type} : Lit × DataW H → Nat
  | (.string bytes, d) => bytes.length + uptoBulk d + 1
  | (_, d) => uptoBulk d + 1
 end
def uptoSmall : (H : Type) → List (DataW H) → Bool := fun _ ds => decide (uptoBulkAll ds ≤ 1048576)
def OpenSpec.upto (s : _root_.Go.ChangeSpec) : _root_.Go.OpenSpec := { _root_.Go.OpenSpec.ofChange s with cond := some uptoSmall }

/-- 'groovelaw35.DelayNumbers', WHERE WHAT IT READS IS OF BULK AT MOST 1048576: true; the input reads as it did. -/
def delayNumbersUptoRow : OpenClaim := { program := "ytoafgeobhhlplaa", sum := "63c4774b9b1e73f4f1bccc48df8a3d0d7e4976605ab92c7093066b4036c6a202", func := "groove/groovelaw35.DelayNumbers", spec := "delayNumbers", inPlace := ["internal/bytealg.IndexByteString", "internal/bytealg.abigen_runtime_cmpstring", "internal/abi.NoEscape"], unfollowed := true, recurses := true, plainKeys := false, apart := false, narrowed := true }
def DelayNumbersUptoSaid : Prop := delayNumbersUptoRow.holds Try.pinned (OpenSpec.upto delayNumbersSpec)

/-- 'groovelaw35.DelayReads', WHERE WHAT IT READS IS OF BULK AT MOST 1048576: true; the input reads as it did. -/
def delayReadsUptoRow : OpenClaim := { program := "ytoafgeobhhlplaa", sum := "63c4774b9b1e73f4f1bccc48df8a3d0d7e4976605ab92c7093066b4036c6a202", func := "groove/groovelaw35.DelayReads", spec := "delayReads", inPlace := ["internal/bytealg.IndexByteString", "internal/bytealg.abigen_runtime_cmpstring", "internal/abi.NoEscape"], unfollowed := true, recurses := true, plainKeys := false, apart := false, narrowed := true }
def DelayReadsUptoSaid : Prop := delayReadsUptoRow.holds Try.pinned (OpenSpec.upto delayReadsSpec)

/-- 'groovelaw35.DelayWitness', WHERE WHAT IT READS IS OF BULK AT MOST 1048576: true; the input reads as it did. -/
def delayWitnessUptoRow : OpenClaim := { program := "ytoafgeobhhlplaa", sum := "63c4774b9b1e73f4f1bccc48df8a3d0d7e4976605ab92c7093066b4036c6a202", func := "groove/groovelaw35.DelayWitness", spec := "delayWitness", inPlace := ["internal/bytealg.IndexByteString", "internal/bytealg.abigen_runtime_cmpstring", "internal/abi.NoEscape"], unfollowed := true, recurses := true, plainKeys := false, apart := false, narrowed := true }
def DelayWitnessUptoSaid : Prop := delayWitnessUptoRow.holds Try.pinned (OpenSpec.upto delayWitnessSpec)

/-- 'groovelaw35.DelayReading', WHERE WHAT IT READS IS OF BULK AT MOST 1048576: true; the input reads as it did. -/
def delayReadingUptoRow : OpenClaim := { program := "ytoafgeobhhlplaa", sum := "63c4774b9b1e73f4f1bccc48df8a3d0d7e4976605ab92c7093066b4036c6a202", func := "groove/groovelaw35.DelayReading", spec := "delayReading", inPlace := ["internal/bytealg.IndexByteString", "internal/bytealg.abigen_runtime_cmpstring", "internal/abi.NoEscape"], unfollowed := true, recurses := true, plainKeys := false, apart := false, narrowed := true }
def DelayReadingUptoSaid : Prop := delayReadingUptoRow.holds Try.pinned (OpenSpec.upto delayReadingSpec)

/-- 'groovelaw35.DelayMeaning', WHERE WHAT IT READS IS OF BULK AT MOST 1048576: true; the input reads as it did. -/
def delayMeaningUptoRow : OpenClaim := { program := "ytoafgeobhhlplaa", sum := "63c4774b9b1e73f4f1bccc48df8a3d0d7e4976605ab92c7093066b4036c6a202", func := "groove/groovelaw35.DelayMeaning", spec := "delayMeaning", inPlace := ["internal/bytealg.IndexByteString", "internal/bytealg.abigen_runtime_cmpstring", "internal/abi.NoEscape"], unfollowed := true, recurses := true, plainKeys := false, apart := false, narrowed := true }
def DelayMeaningUptoSaid : Prop := delayMeaningUptoRow.holds Try.pinned (OpenSpec.upto delayMeaningSpec)

/-- 'groovelaw35.DelayStarts', WHERE WHAT IT READS IS OF BULK AT MOST 1048576: true; the input reads as it did. -/
def delayStartsUptoRow : OpenClaim := { program := "ytoafgeobhhlplaa", sum := "63c4774b9b1e73f4f1bccc48df8a3d0d7e4976605ab92c7093066b4036c6a202", func := "groove/groovelaw35.DelayStarts", spec := "delayStarts", inPlace := ["internal/bytealg.IndexByteString", "internal/bytealg.abigen_runtime_cmpstring", "internal/abi.NoEscape"], unfollowed := true, recurses := true, plainKeys := false, apart := false, narrowed := true }
def DelayStartsUptoSaid : Prop := delayStartsUptoRow.holds Try.pinned (OpenSpec.upto delayStartsSpec)

/-- 'groovelaw35.DelayPrefixes', WHERE WHAT IT READS IS OF BULK AT MOST 1048576: true; the input reads as it did. -/
def delayPrefixesUptoRow : OpenClaim := { program := "ytoafgeobhhlplaa", sum := "63c4774b9b1e73f4f1bccc48df8a3d0d7e4976605ab92c7093066b4036c6a202", func := "groove/groovelaw35.DelayPrefixes", spec := "delayPrefixes", inPlace := ["internal/bytealg.IndexByteString", "internal/bytealg.abigen_runtime_cmpstring", "internal/abi.NoEscape"], unfollowed := true, recurses := true, plainKeys := false, apart := false, narrowed := true }
def DelayPrefixesUptoSaid : Prop := delayPrefixesUptoRow.holds Try.pinned (OpenSpec.upto delayPrefixesSpec)

end Rows
end Go.Proofs.Ytoafgeobhhlplaa
