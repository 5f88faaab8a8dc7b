/-
  No cell of these rows narrows 'for every input' (looked for: loops, veiled, ifaces, maps, wideKeys, modest, calm, conditions, laid).
  DERIVED. THE GIVEN ROWS OF THIS SEAT. 3 by the template 'for every input the law returns true; each argument reads behind the call as it read before'; 0 by the template 'total and deterministic' (their statements: YthpdkmoedpcboaaTotals.lean).
  GIVEN WITH THE SEED: the statements are not yours to turn. If you find one false, say at which input.
  Laid BY PROGRAM, IN A SANDBOX (cutbox-rows.mjs): the forced cells as the released guide's own fill.sh prints them over the translation 755138cf5a20053f… (all of the seat's roots in one cut). By AI agents, Wed Nov 11 2026. No macro, syntax, notation, axiom, sorry.
-/
import Derived.Test.YthpdkmoedpcboaaChecked
import GoSem.Claim
import GoSem.ClaimJoined
import GoSem.ClaimMapViews
import Derived.JoinedTies
import Derived.KernelRfl
namespace Go.Proofs.Ythpdkmoedpcboaa
/- THE CELL 'sum', in the pinned program and in every row, IS THE sha256 OF THE DUMP (.gsa) THAT YthpdkmoedpcboaaProg.lean LOADS. Nothing in Lean hashes anything: it is a label: what it is worth is what the hold of that sum in a sandbox is worth. -/
noncomputable def Try.pinned : Pinned := { name := "ythpdkmoedpcboaa", sum := "755138cf5a20053fe8de53e682840b12b435a0e902d2d56fb925e2374ae1e115", checked := Try.checked }
namespace Rows
def none {H : Type} : Left H := { results := [], args := [] }

/-- 'groovelaw24.SplittingRounds': WHATEVER THE INPUT: true; the input reads as it did. -/
def splittingRoundsSpec : ChangeSpec := { name := "splittingRounds", fn := fun _ => fun
  | [d1, d2, d3, d4] => { results := [.lit (.bool true)], args := [d1, d2, d3, d4] }
  | _ => none }
def splittingRoundsRow : OpenClaim := { program := "ythpdkmoedpcboaa", sum := "755138cf5a20053fe8de53e682840b12b435a0e902d2d56fb925e2374ae1e115", func := "groove/groovelaw24.SplittingRounds", spec := "splittingRounds", unfollowed := true, recurses := true, plainKeys := false, apart := false }
def SplittingRoundsSaid : Prop := splittingRoundsRow.holds Try.pinned (OpenSpec.ofChange splittingRoundsSpec)

/-- ITS FALSE NEIGHBOUR: 'it returns false'. Refute it at one input. -/
def splittingRoundsWrong : ChangeSpec := { name := "splittingRounds", fn := fun _ => fun
  | [d1, d2, d3, d4] => { results := [.lit (.bool false)], args := [d1, d2, d3, d4] }
  | _ => none }
def SplittingRoundsWrongFalsely : Prop := splittingRoundsRow.holds Try.pinned (OpenSpec.ofChange splittingRoundsWrong)

/-- 'groovelaw24.SplittingWeights': WHATEVER THE INPUT: true; the input reads as it did. -/
def splittingWeightsSpec : ChangeSpec := { name := "splittingWeights", fn := fun _ => fun
  | [d1, d2, d3] => { results := [.lit (.bool true)], args := [d1, d2, d3] }
  | _ => none }
def splittingWeightsRow : OpenClaim := { program := "ythpdkmoedpcboaa", sum := "755138cf5a20053fe8de53e682840b12b435a0e902d2d56fb925e2374ae1e115", func := "groove/groovelaw24.SplittingWeights", spec := "splittingWeights", unfollowed := true, recurses := true, plainKeys := false, apart := false }
def SplittingWeightsSaid : Prop := splittingWeightsRow.holds Try.pinned (OpenSpec.ofChange splittingWeightsSpec)

/-- ITS FALSE NEIGHBOUR: 'it returns false'. Refute it at one input. -/
def splittingWeightsWrong : ChangeSpec := { name := "splittingWeights", fn := fun _ => fun
  | [d1, d2, d3] => { results := [.lit (.bool false)], args := [d1, d2, d3] }
  | _ => none }
def SplittingWeightsWrongFalsely : Prop := splittingWeightsRow.holds Try.pinned (OpenSpec.ofChange splittingWeightsWrong)

/-- 'groovelaw24.SplittingEdges': WHATEVER THE INPUT: true; the input reads as it did. -/
def splittingEdgesSpec : ChangeSpec := { name := "splittingEdges", fn := fun _ => fun
  | [d1, d2, d3] => { results := [.lit (.bool true)], args := [d1, d2, d3] }
  | _ => none }
def splittingEdgesRow : OpenClaim := { program := "ythpdkmoedpcboaa", sum := "755138cf5a20053fe8de53e682840b12b435a0e902d2d56fb925e2374ae1e115", func := "groove/groovelaw24.SplittingEdges", spec := "splittingEdges", unfollowed := true, recurses := true, plainKeys := false, apart := false }
def SplittingEdgesSaid : Prop := splittingEdgesRow.holds Try.pinned (OpenSpec.ofChange splittingEdgesSpec)

/-- ITS FALSE NEIGHBOUR: 'it returns false'. Refute it at one input. -/
def splittingEdgesWrong : ChangeSpec := { name := "splittingEdges", fn := fun _ => fun
  | [d1, d2, d3] => { results := [.lit (.bool false)], args := [d1, d2, d3] }
  | _ => none }
def SplittingEdgesWrongFalsely : Prop := splittingEdgesRow.holds Try.pinned (OpenSpec.ofChange splittingEdgesWrong)

/- THE SECOND FORM. 'bulk': how many values and letters a reading holds, each counted each time it is reached (what is shared counts as often as it is met; a slice's spare places count too). A statement '..UptoSaid' is the law's where the arguments, and the package variables that the reading takes, are together of bulk at most 1048576: NARROWER than '..Said'. Prove '..Said' where nothing that the law and all that it calls make is longer than what came in: it says more and counts as full. Else prove '..UptoSaid'. A law counts once. -/
mutual
def uptoBulk {H : Type} : DataW H → Nat
  | .lit (.string bytes) => bytes.length + 1
  | .lit _ => 1
  | .nil => 1
  | .ptr d => uptoBulk d + 1
  | .slice elems spare => uptoBulkAll elems + uptoBulkAll spare + 1
  | .agg parts => uptoBulkAll parts + 1
  | .iface _ d => uptoBulk d + 1
  | .map entries => uptoBulkEntries entries + 1
  | .held _ => 1
def uptoBulkAll {H : Type} : List (DataW H) → Nat
  | [] => 0
  | d :: r => uptoBulk d + uptoBulkAll r
def uptoBulkEntries {H : Type} : List (Lit × DataW H) → Nat
  | [] => 0
  | x :: r => uptoBulkEntry x + uptoBulkEntries r
def uptoBulkEntry {H : Type} : Lit × DataW H → Nat
  | (.string bytes, d) => bytes.length + uptoBulk d + 1
  | (_, d) => uptoBulk d + 1
 end
def uptoSmall : (H : Type) → List (DataW H) → Bool := fun _ ds => decide (uptoBulkAll ds ≤ 1048576)
def OpenSpec.upto (s : _root_.Go.ChangeSpec) : _root_.Go.OpenSpec := { _root_.Go.OpenSpec.ofChange s with cond := some uptoSmall }

/-- 'groovelaw24.SplittingRounds', WHERE WHAT IT READS IS OF BULK AT MOST 1048576: true; the input reads as it did. -/
def splittingRoundsUptoRow : OpenClaim := { program := "ythpdkmoedpcboaa", sum := "755138cf5a20053fe8de53e682840b12b435a0e902d2d56fb925e2374ae1e115", func := "groove/groovelaw24.SplittingRounds", spec := "splittingRounds", unfollowed := true, recurses := true, plainKeys := false, apart := false, narrowed := true }
def SplittingRoundsUptoSaid : Prop := splittingRoundsUptoRow.holds Try.pinned (OpenSpec.upto splittingRoundsSpec)

/-- 'groovelaw24.SplittingWeights', WHERE WHAT IT READS IS OF BULK AT MOST 1048576: true; the input reads as it did. -/
def splittingWeightsUptoRow : OpenClaim := { program := "ythpdkmoedpcboaa", sum := "755138cf5a20053fe8de53e682840b12b435a0e902d2d56fb925e2374ae1e115", func := "groove/groovelaw24.SplittingWeights", spec := "splittingWeights", unfollowed := true, recurses := true, plainKeys := false, apart := false, narrowed := true }
def SplittingWeightsUptoSaid : Prop := splittingWeightsUptoRow.holds Try.pinned (OpenSpec.upto splittingWeightsSpec)

/-- 'groovelaw24.SplittingEdges', WHERE WHAT IT READS IS OF BULK AT MOST 1048576: true; the input reads as it did. -/
def splittingEdgesUptoRow : OpenClaim := { program := "ythpdkmoedpcboaa", sum := "755138cf5a20053fe8de53e682840b12b435a0e902d2d56fb925e2374ae1e115", func := "groove/groovelaw24.SplittingEdges", spec := "splittingEdges", unfollowed := true, recurses := true, plainKeys := false, apart := false, narrowed := true }
def SplittingEdgesUptoSaid : Prop := splittingEdgesUptoRow.holds Try.pinned (OpenSpec.upto splittingEdgesSpec)

end Rows
end Go.Proofs.Ythpdkmoedpcboaa
