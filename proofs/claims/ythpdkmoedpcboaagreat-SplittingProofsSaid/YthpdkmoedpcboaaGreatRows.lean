/-
  No cell of these rows narrows 'for every input' (looked for: loops, veiled, ifaces, maps, wideKeys, modest, calm, conditions, laid).
  DERIVED. THE GIVEN ROWS OF THIS SEAT. 5 by the template 'for every input the law returns true; each argument reads behind the call as it read before'; 0 by the template 'total and deterministic' (their statements: YthpdkmoedpcboaaGreatTotals.lean).
  GIVEN WITH THE SEED: the statements are not yours to turn. If you find one false, say at which input.
  Laid BY PROGRAM, IN A SANDBOX (cutbox-rows.mjs): the forced cells as the released guide's own fill.sh prints them over the translation b09c0c11b26f73e6… (all of the seat's roots in one cut). By AI agents, Wed Nov 11 2026. No macro, syntax, notation, axiom, sorry.
-/
import Derived.Test.YthpdkmoedpcboaaGreatChecked
import GoSem.Claim
import GoSem.ClaimJoined
import GoSem.ClaimMapViews
import Derived.JoinedTies
import Derived.KernelRfl
namespace Go.Proofs.YthpdkmoedpcboaaGreat
/- THE CELL 'sum', in the pinned program and in every row, IS THE sha256 OF THE DUMP (.gsa) THAT YthpdkmoedpcboaaGreatProg.lean LOADS. Nothing in Lean hashes anything: it is a label: what it is worth is what the hold of that sum in a sandbox is worth. -/
noncomputable def Tryz.pinned : Pinned := { name := "ythpdkmoedpcboaagreat", sum := "b09c0c11b26f73e6adb1b8194c19928920bc020d6d07857716382f4a98e02e04", checked := Tryz.checked }
namespace Rows
def none {H : Type} : Left H := { results := [], args := [] }

/-- 'groovelaw24.SplittingVerifies': WHATEVER THE INPUT: true; the input reads as it did. -/
def splittingVerifiesSpec : ChangeSpec := { name := "splittingVerifies", fn := fun _ => fun
  | [d] => { results := [.lit (.bool true)], args := [d] }
  | _ => none }
def splittingVerifiesRow : OpenClaim := { program := "ythpdkmoedpcboaagreat", sum := "b09c0c11b26f73e6adb1b8194c19928920bc020d6d07857716382f4a98e02e04", func := "groove/groovelaw24.SplittingVerifies", spec := "splittingVerifies", unfollowed := true, recurses := true, apart := false }
def SplittingVerifiesSaid : Prop := splittingVerifiesRow.holds Tryz.pinned (OpenSpec.ofChange splittingVerifiesSpec)

/-- ITS FALSE NEIGHBOUR: 'it returns false'. Refute it at one input. -/
def splittingVerifiesWrong : ChangeSpec := { name := "splittingVerifies", fn := fun _ => fun
  | [d] => { results := [.lit (.bool false)], args := [d] }
  | _ => none }
def SplittingVerifiesWrongFalsely : Prop := splittingVerifiesRow.holds Tryz.pinned (OpenSpec.ofChange splittingVerifiesWrong)

/-- 'groovelaw24.SplittingWords': WHATEVER THE INPUT: true; the input reads as it did. -/
def splittingWordsSpec : ChangeSpec := { name := "splittingWords", fn := fun _ => fun
  | [d1, d2, d3, d4] => { results := [.lit (.bool true)], args := [d1, d2, d3, d4] }
  | _ => none }
def splittingWordsRow : OpenClaim := { program := "ythpdkmoedpcboaagreat", sum := "b09c0c11b26f73e6adb1b8194c19928920bc020d6d07857716382f4a98e02e04", func := "groove/groovelaw24.SplittingWords", spec := "splittingWords", inPlace := ["internal/bytealg.IndexByteString"], unfollowed := true, recurses := true, apart := false }
def SplittingWordsSaid : Prop := splittingWordsRow.holds Tryz.pinned (OpenSpec.ofChange splittingWordsSpec)

/-- ITS FALSE NEIGHBOUR: 'it returns false'. Refute it at one input. -/
def splittingWordsWrong : ChangeSpec := { name := "splittingWords", fn := fun _ => fun
  | [d1, d2, d3, d4] => { results := [.lit (.bool false)], args := [d1, d2, d3, d4] }
  | _ => none }
def SplittingWordsWrongFalsely : Prop := splittingWordsRow.holds Tryz.pinned (OpenSpec.ofChange splittingWordsWrong)

/-- 'groovelaw24.SplittingBuilds': WHATEVER THE INPUT: true; the input reads as it did. -/
def splittingBuildsSpec : ChangeSpec := { name := "splittingBuilds", fn := fun _ => fun
  | [d1, d2, d3] => { results := [.lit (.bool true)], args := [d1, d2, d3] }
  | _ => none }
def splittingBuildsRow : OpenClaim := { program := "ythpdkmoedpcboaagreat", sum := "b09c0c11b26f73e6adb1b8194c19928920bc020d6d07857716382f4a98e02e04", func := "groove/groovelaw24.SplittingBuilds", spec := "splittingBuilds", unfollowed := true, recurses := true, apart := false }
def SplittingBuildsSaid : Prop := splittingBuildsRow.holds Tryz.pinned (OpenSpec.ofChange splittingBuildsSpec)

/-- ITS FALSE NEIGHBOUR: 'it returns false'. Refute it at one input. -/
def splittingBuildsWrong : ChangeSpec := { name := "splittingBuilds", fn := fun _ => fun
  | [d1, d2, d3] => { results := [.lit (.bool false)], args := [d1, d2, d3] }
  | _ => none }
def SplittingBuildsWrongFalsely : Prop := splittingBuildsRow.holds Tryz.pinned (OpenSpec.ofChange splittingBuildsWrong)

/-- 'groovelaw24.SplittingRefused': WHATEVER THE INPUT: true; the input reads as it did. -/
def splittingRefusedSpec : ChangeSpec := { name := "splittingRefused", fn := fun _ => fun
  | [d1, d2, d3, d4] => { results := [.lit (.bool true)], args := [d1, d2, d3, d4] }
  | _ => none }
def splittingRefusedRow : OpenClaim := { program := "ythpdkmoedpcboaagreat", sum := "b09c0c11b26f73e6adb1b8194c19928920bc020d6d07857716382f4a98e02e04", func := "groove/groovelaw24.SplittingRefused", spec := "splittingRefused", unfollowed := true, recurses := true, apart := false }
def SplittingRefusedSaid : Prop := splittingRefusedRow.holds Tryz.pinned (OpenSpec.ofChange splittingRefusedSpec)

/-- ITS FALSE NEIGHBOUR: 'it returns false'. Refute it at one input. -/
def splittingRefusedWrong : ChangeSpec := { name := "splittingRefused", fn := fun _ => fun
  | [d1, d2, d3, d4] => { results := [.lit (.bool false)], args := [d1, d2, d3, d4] }
  | _ => none }
def SplittingRefusedWrongFalsely : Prop := splittingRefusedRow.holds Tryz.pinned (OpenSpec.ofChange splittingRefusedWrong)

/-- 'groovelaw24.SplittingProofs': WHATEVER THE INPUT: true; the input reads as it did. -/
def splittingProofsSpec : ChangeSpec := { name := "splittingProofs", fn := fun _ => fun
  | [d1, d2, d3, d4] => { results := [.lit (.bool true)], args := [d1, d2, d3, d4] }
  | _ => none }
def splittingProofsRow : OpenClaim := { program := "ythpdkmoedpcboaagreat", sum := "b09c0c11b26f73e6adb1b8194c19928920bc020d6d07857716382f4a98e02e04", func := "groove/groovelaw24.SplittingProofs", spec := "splittingProofs", inPlace := ["internal/bytealg.IndexByteString"], unfollowed := true, recurses := true, apart := false }
def SplittingProofsSaid : Prop := splittingProofsRow.holds Tryz.pinned (OpenSpec.ofChange splittingProofsSpec)

/-- ITS FALSE NEIGHBOUR: 'it returns false'. Refute it at one input. -/
def splittingProofsWrong : ChangeSpec := { name := "splittingProofs", fn := fun _ => fun
  | [d1, d2, d3, d4] => { results := [.lit (.bool false)], args := [d1, d2, d3, d4] }
  | _ => none }
def SplittingProofsWrongFalsely : Prop := splittingProofsRow.holds Tryz.pinned (OpenSpec.ofChange splittingProofsWrong)

/- THE SECOND FORM. 'bulk': how many values and letters a reading holds, each counted each time it is reached (what is shared counts as often as it is met; a slice's spare places count too). A statement '..UptoSaid' is the law's where the arguments, and the package variables that the reading takes, are together of bulk at most 1048576: NARROWER than '..Said'. Prove '..Said' where nothing that the law and all that it calls make is longer than what came in: it says more and counts as full. Else prove '..UptoSaid'. A law counts once. -/
mutual
def uptoBulk {H : Type} : DataW H → Nat
  | .lit (.string bytes) => bytes.length + 1
  | .lit _ => 1
  | .nil => 1
  | .ptr d => uptoBulk d + 1
  | .slice elems spare => uptoBulkAll elems + uptoBulkAll spare + 1
  | .agg parts => uptoBulkAll parts + 1
  | .iface _ d => uptoBulk d + 1
  | .map entries => uptoBulkEntries entries + 1
  | .held _ => 1
def uptoBulkAll {H : Type} : List (DataW H) → Nat
  | [] => 0
  | d :: r => uptoBulk d + uptoBulkAll r
def uptoBulkEntries {H : Type} : List (Lit × DataW H) → Nat
  | [] => 0
  | x :: r => uptoBulkEntry x + uptoBulkEntries r
def uptoBulkEntry {H : Type} : Lit × DataW H → Nat
  | (.string bytes, d) => bytes.length + uptoBulk d + 1
  | (_, d) => uptoBulk d + 1
 end
def uptoSmall : (H : Type) → List (DataW H) → Bool := fun _ ds => decide (uptoBulkAll ds ≤ 1048576)
def OpenSpec.upto (s : _root_.Go.ChangeSpec) : _root_.Go.OpenSpec := { _root_.Go.OpenSpec.ofChange s with cond := some uptoSmall }

/-- 'groovelaw24.SplittingVerifies', WHERE WHAT IT READS IS OF BULK AT MOST 1048576: true; the input reads as it did. -/
def splittingVerifiesUptoRow : OpenClaim := { program := "ythpdkmoedpcboaagreat", sum := "b09c0c11b26f73e6adb1b8194c19928920bc020d6d07857716382f4a98e02e04", func := "groove/groovelaw24.SplittingVerifies", spec := "splittingVerifies", unfollowed := true, recurses := true, apart := false, narrowed := true }
def SplittingVerifiesUptoSaid : Prop := splittingVerifiesUptoRow.holds Tryz.pinned (OpenSpec.upto splittingVerifiesSpec)

/-- 'groovelaw24.SplittingWords', WHERE WHAT IT READS IS OF BULK AT MOST 1048576: true; the input reads as it did. -/
def splittingWordsUptoRow : OpenClaim := { program := "ythpdkmoedpcboaagreat", sum := "b09c0c11b26f73e6adb1b8194c19928920bc020d6d07857716382f4a98e02e04", func := "groove/groovelaw24.SplittingWords", spec := "splittingWords", inPlace := ["internal/bytealg.IndexByteString"], unfollowed := true, recurses := true, apart := false, narrowed := true }
def SplittingWordsUptoSaid : Prop := splittingWordsUptoRow.holds Tryz.pinned (OpenSpec.upto splittingWordsSpec)

/-- 'groovelaw24.SplittingBuilds', WHERE WHAT IT READS IS OF BULK AT MOST 1048576: true; the input reads as it did. -/
def splittingBuildsUptoRow : OpenClaim := { program := "ythpdkmoedpcboaagreat", sum := "b09c0c11b26f73e6adb1b8194c19928920bc020d6d07857716382f4a98e02e04", func := "groove/groovelaw24.SplittingBuilds", spec := "splittingBuilds", unfollowed := true, recurses := true, apart := false, narrowed := true }
def SplittingBuildsUptoSaid : Prop := splittingBuildsUptoRow.holds Tryz.pinned (OpenSpec.upto splittingBuildsSpec)

/-- 'groovelaw24.SplittingRefused', WHERE WHAT IT READS IS OF BULK AT MOST 1048576: true; the input reads as it did. -/
def splittingRefusedUptoRow : OpenClaim := { program := "ythpdkmoedpcboaagreat", sum := "b09c0c11b26f73e6adb1b8194c19928920bc020d6d07857716382f4a98e02e04", func := "groove/groovelaw24.SplittingRefused", spec := "splittingRefused", unfollowed := true, recurses := true, apart := false, narrowed := true }
def SplittingRefusedUptoSaid : Prop := splittingRefusedUptoRow.holds Tryz.pinned (OpenSpec.upto splittingRefusedSpec)

/-- 'groovelaw24.SplittingProofs', WHERE WHAT IT READS IS OF BULK AT MOST 1048576: true; the input reads as it did. -/
def splittingProofsUptoRow : OpenClaim := { program := "ythpdkmoedpcboaagreat", sum := "b09c0c11b26f73e6adb1b8194c19928920bc020d6d07857716382f4a98e02e04", func := "groove/groovelaw24.SplittingProofs", spec := "splittingProofs", inPlace := ["internal/bytealg.IndexByteString"], unfollowed := true, recurses := true, apart := false, narrowed := true }
def SplittingProofsUptoSaid : Prop := splittingProofsUptoRow.holds Tryz.pinned (OpenSpec.upto splittingProofsSpec)

end Rows
end Go.Proofs.YthpdkmoedpcboaaGreat
