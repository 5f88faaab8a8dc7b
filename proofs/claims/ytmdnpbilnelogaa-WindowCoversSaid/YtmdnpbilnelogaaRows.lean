/-
  No cell of these rows narrows 'for every input' (looked for: loops, veiled, ifaces, maps, wideKeys, modest, calm, conditions, laid).
  DERIVED. THE GIVEN ROWS OF THIS SEAT. 8 by the template 'for every input the law returns true; each argument reads behind the call as it read before'; 0 by the template 'total and deterministic' (their statements: YtmdnpbilnelogaaTotals.lean).
  GIVEN WITH THE SEED: the statements are not yours to turn. If you find one false, say at which input.
  Laid BY PROGRAM, IN A SANDBOX (cutbox-rows.mjs): the forced cells as the released guide's own fill.sh prints them over the translation aca647d4d56de13e… (all of the seat's roots in one cut). By AI agents, Wed Nov 11 2026. No macro, syntax, notation, axiom, sorry.
-/
import Derived.Test.YtmdnpbilnelogaaChecked
import GoSem.Claim
import GoSem.ClaimJoined
import GoSem.ClaimMapViews
import Derived.JoinedTies
import Derived.KernelRfl
namespace Go.Proofs.Ytmdnpbilnelogaa
/- THE CELL 'sum', in the pinned program and in every row, IS THE sha256 OF THE DUMP (.gsa) THAT YtmdnpbilnelogaaProg.lean LOADS. Nothing in Lean hashes anything: it is a label: what it is worth is what the hold of that sum in a sandbox is worth. -/
noncomputable def Try.pinned : Pinned := { name := "ytmdnpbilnelogaa", sum := "aca647d4d56de13e8ecc5b0aef47b3957ebd27979842806e9a242f943723d0a0", checked := Try.checked }
namespace Rows
def none {H : Type} : Left H := { results := [], args := [] }

/-- 'groovelaw26.WindowWider': WHATEVER THE INPUT: true; the input reads as it did. -/
def windowWiderSpec : ChangeSpec := { name := "windowWider", fn := fun _ => fun
  | [d1, d2, d3] => { results := [.lit (.bool true)], args := [d1, d2, d3] }
  | _ => none }
def windowWiderRow : OpenClaim := { program := "ytmdnpbilnelogaa", sum := "aca647d4d56de13e8ecc5b0aef47b3957ebd27979842806e9a242f943723d0a0", func := "groove/groovelaw26.WindowWider", spec := "windowWider", inPlace := ["internal/bytealg.IndexByteString", "internal/bytealg.abigen_runtime_cmpstring"], unfollowed := true, recurses := true, apart := false }
def WindowWiderSaid : Prop := windowWiderRow.holds Try.pinned (OpenSpec.ofChange windowWiderSpec)

/-- ITS FALSE NEIGHBOUR: 'it returns false'. Refute it at one input. -/
def windowWiderWrong : ChangeSpec := { name := "windowWider", fn := fun _ => fun
  | [d1, d2, d3] => { results := [.lit (.bool false)], args := [d1, d2, d3] }
  | _ => none }
def WindowWiderWrongFalsely : Prop := windowWiderRow.holds Try.pinned (OpenSpec.ofChange windowWiderWrong)

/-- 'groovelaw26.WindowSearch': WHATEVER THE INPUT: true; the input reads as it did. -/
def windowSearchSpec : ChangeSpec := { name := "windowSearch", fn := fun _ => fun
  | [d1, d2] => { results := [.lit (.bool true)], args := [d1, d2] }
  | _ => none }
def windowSearchRow : OpenClaim := { program := "ytmdnpbilnelogaa", sum := "aca647d4d56de13e8ecc5b0aef47b3957ebd27979842806e9a242f943723d0a0", func := "groove/groovelaw26.WindowSearch", spec := "windowSearch", inPlace := ["internal/bytealg.IndexByteString", "internal/bytealg.abigen_runtime_cmpstring"], unfollowed := true, recurses := true, apart := false }
def WindowSearchSaid : Prop := windowSearchRow.holds Try.pinned (OpenSpec.ofChange windowSearchSpec)

/-- ITS FALSE NEIGHBOUR: 'it returns false'. Refute it at one input. -/
def windowSearchWrong : ChangeSpec := { name := "windowSearch", fn := fun _ => fun
  | [d1, d2] => { results := [.lit (.bool false)], args := [d1, d2] }
  | _ => none }
def WindowSearchWrongFalsely : Prop := windowSearchRow.holds Try.pinned (OpenSpec.ofChange windowSearchWrong)

/-- 'groovelaw26.WindowLocal': WHATEVER THE INPUT: true; the input reads as it did. -/
def windowLocalSpec : ChangeSpec := { name := "windowLocal", fn := fun _ => fun
  | [d1, d2, d3, d4] => { results := [.lit (.bool true)], args := [d1, d2, d3, d4] }
  | _ => none }
def windowLocalRow : OpenClaim := { program := "ytmdnpbilnelogaa", sum := "aca647d4d56de13e8ecc5b0aef47b3957ebd27979842806e9a242f943723d0a0", func := "groove/groovelaw26.WindowLocal", spec := "windowLocal", inPlace := ["internal/bytealg.IndexByteString", "internal/bytealg.abigen_runtime_cmpstring"], unfollowed := true, recurses := true, apart := false }
def WindowLocalSaid : Prop := windowLocalRow.holds Try.pinned (OpenSpec.ofChange windowLocalSpec)

/-- ITS FALSE NEIGHBOUR: 'it returns false'. Refute it at one input. -/
def windowLocalWrong : ChangeSpec := { name := "windowLocal", fn := fun _ => fun
  | [d1, d2, d3, d4] => { results := [.lit (.bool false)], args := [d1, d2, d3, d4] }
  | _ => none }
def WindowLocalWrongFalsely : Prop := windowLocalRow.holds Try.pinned (OpenSpec.ofChange windowLocalWrong)

/-- 'groovelaw26.WindowDecodes': WHATEVER THE INPUT: true; the input reads as it did. -/
def windowDecodesSpec : ChangeSpec := { name := "windowDecodes", fn := fun _ => fun
  | [d1, d2, d3] => { results := [.lit (.bool true)], args := [d1, d2, d3] }
  | _ => none }
def windowDecodesRow : OpenClaim := { program := "ytmdnpbilnelogaa", sum := "aca647d4d56de13e8ecc5b0aef47b3957ebd27979842806e9a242f943723d0a0", func := "groove/groovelaw26.WindowDecodes", spec := "windowDecodes", inPlace := ["internal/bytealg.IndexByteString", "internal/bytealg.abigen_runtime_cmpstring"], unfollowed := true, recurses := true, apart := false }
def WindowDecodesSaid : Prop := windowDecodesRow.holds Try.pinned (OpenSpec.ofChange windowDecodesSpec)

/-- ITS FALSE NEIGHBOUR: 'it returns false'. Refute it at one input. -/
def windowDecodesWrong : ChangeSpec := { name := "windowDecodes", fn := fun _ => fun
  | [d1, d2, d3] => { results := [.lit (.bool false)], args := [d1, d2, d3] }
  | _ => none }
def WindowDecodesWrongFalsely : Prop := windowDecodesRow.holds Try.pinned (OpenSpec.ofChange windowDecodesWrong)

/-- 'groovelaw26.WindowKnown': WHATEVER THE INPUT: true; the input reads as it did. -/
def windowKnownSpec : ChangeSpec := { name := "windowKnown", fn := fun _ => fun
  | [d1, d2] => { results := [.lit (.bool true)], args := [d1, d2] }
  | _ => none }
def windowKnownRow : OpenClaim := { program := "ytmdnpbilnelogaa", sum := "aca647d4d56de13e8ecc5b0aef47b3957ebd27979842806e9a242f943723d0a0", func := "groove/groovelaw26.WindowKnown", spec := "windowKnown", inPlace := ["internal/bytealg.IndexByteString", "internal/bytealg.abigen_runtime_cmpstring"], unfollowed := true, recurses := true, apart := false }
def WindowKnownSaid : Prop := windowKnownRow.holds Try.pinned (OpenSpec.ofChange windowKnownSpec)

/-- ITS FALSE NEIGHBOUR: 'it returns false'. Refute it at one input. -/
def windowKnownWrong : ChangeSpec := { name := "windowKnown", fn := fun _ => fun
  | [d1, d2] => { results := [.lit (.bool false)], args := [d1, d2] }
  | _ => none }
def WindowKnownWrongFalsely : Prop := windowKnownRow.holds Try.pinned (OpenSpec.ofChange windowKnownWrong)

/-- 'groovelaw26.WindowBuilds': WHATEVER THE INPUT: true; the input reads as it did. -/
def windowBuildsSpec : ChangeSpec := { name := "windowBuilds", fn := fun _ => fun
  | [d1, d2, d3, d4, d5] => { results := [.lit (.bool true)], args := [d1, d2, d3, d4, d5] }
  | _ => none }
def windowBuildsRow : OpenClaim := { program := "ytmdnpbilnelogaa", sum := "aca647d4d56de13e8ecc5b0aef47b3957ebd27979842806e9a242f943723d0a0", func := "groove/groovelaw26.WindowBuilds", spec := "windowBuilds", inPlace := ["internal/bytealg.IndexByteString", "internal/bytealg.abigen_runtime_cmpstring"], unfollowed := true, recurses := true, apart := false }
def WindowBuildsSaid : Prop := windowBuildsRow.holds Try.pinned (OpenSpec.ofChange windowBuildsSpec)

/-- ITS FALSE NEIGHBOUR: 'it returns false'. Refute it at one input. -/
def windowBuildsWrong : ChangeSpec := { name := "windowBuilds", fn := fun _ => fun
  | [d1, d2, d3, d4, d5] => { results := [.lit (.bool false)], args := [d1, d2, d3, d4, d5] }
  | _ => none }
def WindowBuildsWrongFalsely : Prop := windowBuildsRow.holds Try.pinned (OpenSpec.ofChange windowBuildsWrong)

/-- 'groovelaw26.WindowCovers': WHATEVER THE INPUT: true; the input reads as it did. -/
def windowCoversSpec : ChangeSpec := { name := "windowCovers", fn := fun _ => fun
  | [d1, d2, d3, d4] => { results := [.lit (.bool true)], args := [d1, d2, d3, d4] }
  | _ => none }
def windowCoversRow : OpenClaim := { program := "ytmdnpbilnelogaa", sum := "aca647d4d56de13e8ecc5b0aef47b3957ebd27979842806e9a242f943723d0a0", func := "groove/groovelaw26.WindowCovers", spec := "windowCovers", inPlace := ["internal/bytealg.IndexByteString", "internal/bytealg.abigen_runtime_cmpstring"], unfollowed := true, recurses := true, apart := false }
def WindowCoversSaid : Prop := windowCoversRow.holds Try.pinned (OpenSpec.ofChange windowCoversSpec)

/-- ITS FALSE NEIGHBOUR: 'it returns false'. Refute it at one input. -/
def windowCoversWrong : ChangeSpec := { name := "windowCovers", fn := fun _ => fun
  | [d1, d2, d3, d4] => { results := [.lit (.bool false)], args := [d1, d2, d3, d4] }
  | _ => none }
def WindowCoversWrongFalsely : Prop := windowCoversRow.holds Try.pinned (OpenSpec.ofChange windowCoversWrong)

/-- 'groovelaw26.WindowInverts': WHATEVER THE INPUT: true; the input reads as it did. -/
def windowInvertsSpec : ChangeSpec := { name := "windowInverts", fn := fun _ => fun
  | [d1, d2, d3, d4, d5] => { results := [.lit (.bool true)], args := [d1, d2, d3, d4, d5] }
  | _ => none }
def windowInvertsRow : OpenClaim := { program := "ytmdnpbilnelogaa", sum := "aca647d4d56de13e8ecc5b0aef47b3957ebd27979842806e9a242f943723d0a0", func := "groove/groovelaw26.WindowInverts", spec := "windowInverts", inPlace := ["internal/bytealg.IndexByteString", "internal/bytealg.abigen_runtime_cmpstring", "internal/abi.NoEscape"], unfollowed := true, recurses := true, apart := false }
def WindowInvertsSaid : Prop := windowInvertsRow.holds Try.pinned (OpenSpec.ofChange windowInvertsSpec)

/-- ITS FALSE NEIGHBOUR: 'it returns false'. Refute it at one input. -/
def windowInvertsWrong : ChangeSpec := { name := "windowInverts", fn := fun _ => fun
  | [d1, d2, d3, d4, d5] => { results := [.lit (.bool false)], args := [d1, d2, d3, d4, d5] }
  | _ => none }
def WindowInvertsWrongFalsely : Prop := windowInvertsRow.holds Try.pinned (OpenSpec.ofChange windowInvertsWrong)

/- THE SECOND FORM. 'bulk': how many values and letters a reading holds, each counted each time it is reached (what is shared counts as often as it is met; a slice's spare places count too). A statement '..UptoSaid' is the law's where the arguments, and the package variables that the reading takes, are together of bulk at most 1048576: NARROWER than '..Said'. Prove '..Said' where nothing that the law and all that it calls make is longer than what came in: it says more and counts as full. Else prove '..UptoSaid'. A law counts once. -/
mutual
def uptoBulk {H : Type} : DataW H → Nat
  | .lit (.string bytes) => bytes.length + 1
  | .lit _ => 1
  | .nil => 1
  | .ptr d => uptoBulk d + 1
  | .slice elems spare => uptoBulkAll elems + uptoBulkAll spare + 1
  | .agg parts => uptoBulkAll parts + 1
  | .iface _ d => uptoBulk d + 1
  | .map entries => uptoBulkEntries entries + 1
  | .held _ => 1
def uptoBulkAll {H : Type} : List (DataW H) → Nat
  | [] => 0
  | d :: r => uptoBulk d + uptoBulkAll r
def uptoBulkEntries {H : Type} : List (Lit × DataW H) → Nat
  | [] => 0
  | x :: r => uptoBulkEntry x + uptoBulkEntries r
def uptoBulkEntry {H : Type} : Lit × DataW H → Nat
  | (.string bytes, d) => bytes.length + uptoBulk d + 1
  | (_, d) => uptoBulk d + 1
 end
def uptoSmall : (H : Type) → List (DataW H) → Bool := fun _ ds => decide (uptoBulkAll ds ≤ 1048576)
def OpenSpec.upto (s : _root_.Go.ChangeSpec) : _root_.Go.OpenSpec := { _root_.Go.OpenSpec.ofChange s with cond := some uptoSmall }

/-- 'groovelaw26.WindowWider', WHERE WHAT IT READS IS OF BULK AT MOST 1048576: true; the input reads as it did. -/
def windowWiderUptoRow : OpenClaim := { program := "ytmdnpbilnelogaa", sum := "aca647d4d56de13e8ecc5b0aef47b3957ebd27979842806e9a242f943723d0a0", func := "groove/groovelaw26.WindowWider", spec := "windowWider", inPlace := ["internal/bytealg.IndexByteString", "internal/bytealg.abigen_runtime_cmpstring"], unfollowed := true, recurses := true, apart := false, narrowed := true }
def WindowWiderUptoSaid : Prop := windowWiderUptoRow.holds Try.pinned (OpenSpec.upto windowWiderSpec)

/-- 'groovelaw26.WindowSearch', WHERE WHAT IT READS IS OF BULK AT MOST 1048576: true; the input reads as it did. -/
def windowSearchUptoRow : OpenClaim := { program := "ytmdnpbilnelogaa", sum := "aca647d4d56de13e8ecc5b0aef47b3957ebd27979842806e9a242f943723d0a0", func := "groove/groovelaw26.WindowSearch", spec := "windowSearch", inPlace := ["internal/bytealg.IndexByteString", "internal/bytealg.abigen_runtime_cmpstring"], unfollowed := true, recurses := true, apart := false, narrowed := true }
def WindowSearchUptoSaid : Prop := windowSearchUptoRow.holds Try.pinned (OpenSpec.upto windowSearchSpec)

/-- 'groovelaw26.WindowLocal', WHERE WHAT IT READS IS OF BULK AT MOST 1048576: true; the input reads as it did. -/
def windowLocalUptoRow : OpenClaim := { program := "ytmdnpbilnelogaa", sum := "aca647d4d56de13e8ecc5b0aef47b3957ebd27979842806e9a242f943723d0a0", func := "groove/groovelaw26.WindowLocal", spec := "windowLocal", inPlace := ["internal/bytealg.IndexByteString", "internal/bytealg.abigen_runtime_cmpstring"], unfollowed := true, recurses := true, apart := false, narrowed := true }
def WindowLocalUptoSaid : Prop := windowLocalUptoRow.holds Try.pinned (OpenSpec.upto windowLocalSpec)

/-- 'groovelaw26.WindowDecodes', WHERE WHAT IT READS IS OF BULK AT MOST 1048576: true; the input reads as it did. -/
def windowDecodesUptoRow : OpenClaim := { program := "ytmdnpbilnelogaa", sum := "aca647d4d56de13e8ecc5b0aef47b3957ebd27979842806e9a242f943723d0a0", func := "groove/groovelaw26.WindowDecodes", spec := "windowDecodes", inPlace := ["internal/bytealg.IndexByteString", "internal/bytealg.abigen_runtime_cmpstring"], unfollowed := true, recurses := true, apart := false, narrowed := true }
def WindowDecodesUptoSaid : Prop := windowDecodesUptoRow.holds Try.pinned (OpenSpec.upto windowDecodesSpec)

/-- 'groovelaw26.WindowKnown', WHERE WHAT IT READS IS OF BULK AT MOST 1048576: true; the input reads as it did. -/
def windowKnownUptoRow : OpenClaim := { program := "ytmdnpbilnelogaa", sum := "aca647d4d56de13e8ecc5b0aef47b3957ebd27979842806e9a242f943723d0a0", func := "groove/groovelaw26.WindowKnown", spec := "windowKnown", inPlace := ["internal/bytealg.IndexByteString", "internal/bytealg.abigen_runtime_cmpstring"], unfollowed := true, recurses := true, apart := false, narrowed := true }
def WindowKnownUptoSaid : Prop := windowKnownUptoRow.holds Try.pinned (OpenSpec.upto windowKnownSpec)

/-- 'groovelaw26.WindowBuilds', WHERE WHAT IT READS IS OF BULK AT MOST 1048576: true; the input reads as it did. -/
def windowBuildsUptoRow : OpenClaim := { program := "ytmdnpbilnelogaa", sum := "aca647d4d56de13e8ecc5b0aef47b3957ebd27979842806e9a242f943723d0a0", func := "groove/groovelaw26.WindowBuilds", spec := "windowBuilds", inPlace := ["internal/bytealg.IndexByteString", "internal/bytealg.abigen_runtime_cmpstring"], unfollowed := true, recurses := true, apart := false, narrowed := true }
def WindowBuildsUptoSaid : Prop := windowBuildsUptoRow.holds Try.pinned (OpenSpec.upto windowBuildsSpec)

/-- 'groovelaw26.WindowCovers', WHERE WHAT IT READS IS OF BULK AT MOST 1048576: true; the input reads as it did. -/
def windowCoversUptoRow : OpenClaim := { program := "ytmdnpbilnelogaa", sum := "aca647d4d56de13e8ecc5b0aef47b3957ebd27979842806e9a242f943723d0a0", func := "groove/groovelaw26.WindowCovers", spec := "windowCovers", inPlace := ["internal/bytealg.IndexByteString", "internal/bytealg.abigen_runtime_cmpstring"], unfollowed := true, recurses := true, apart := false, narrowed := true }
def WindowCoversUptoSaid : Prop := windowCoversUptoRow.holds Try.pinned (OpenSpec.upto windowCoversSpec)

/-- 'groovelaw26.WindowInverts', WHERE WHAT IT READS IS OF BULK AT MOST 1048576: true; the input reads as it did. -/
def windowInvertsUptoRow : OpenClaim := { program := "ytmdnpbilnelogaa", sum := "aca647d4d56de13e8ecc5b0aef47b3957ebd27979842806e9a242f943723d0a0", func := "groove/groovelaw26.WindowInverts", spec := "windowInverts", inPlace := ["internal/bytealg.IndexByteString", "internal/bytealg.abigen_runtime_cmpstring", "internal/abi.NoEscape"], unfollowed := true, recurses := true, apart := false, narrowed := true }
def WindowInvertsUptoSaid : Prop := windowInvertsUptoRow.holds Try.pinned (OpenSpec.upto windowInvertsSpec)

end Rows
end Go.Proofs.Ytmdnpbilnelogaa
