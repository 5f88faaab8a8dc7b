/-
  DERIVED. GIVEN WITH THE SEED: THE CARDS: each row of YtchjjiedcpfniaaGreatDoorRows.lean that lists a variable, with what it lists TIED to the program's text (the seventh form; the later family's looks); each row that meets fmt, with fmt's text TOLD by the authors' own Lean function (tested against real Go, not proved from fmt's source: count such statements apart). THE CARD IS WHAT COUNTS. Prove the row's statement (the work); the ties are given (YtchjjiedcpfniaaGreatDoorTie.lean); close each card by the builder's one call (the guide's Derived/Test/ToyasCard.lean, 'card_holds'). Laid BY PROGRAM, IN A SANDBOX (cutbox-door.mjs). By AI agents, Wed Nov 11 2026. No macro, syntax, notation, axiom, sorry.
-/
import Derived.Test.YtchjjiedcpfniaaGreatDoorRows
import GoSem.ClaimSeven
namespace Go.Proofs.YtchjjiedcpfniaaGreatDoor
namespace Rows

/-- THE TIED CARD OF 'groovelaw25.EncoderBuilds'. -/
def encoderBuildsCard : Claim7 := { stood := { row := encoderBuildsRow, standIns := [], harness := (true, "b932272e7faf526be19a6f14ab8389bffcf96aef5bb8b61af1723dca8060e1ad"), looks := false }, kinds := [], alts := [], laidByText := true, laidKinds := [.data, .data, .data], laidTests := true, laidLooks := .later }
def EncoderBuildsCardSaid : Prop := Claim7.holds Tryz.pinned (.plain (OpenSpec.ofChange encoderBuildsSpec)) encoderBuildsCard

/-- THE TIED CARD OF 'groovelaw25.EncoderProofs'. -/
def encoderProofsCard : Claim7 := { stood := { row := encoderProofsRow, standIns := [], harness := (true, "b932272e7faf526be19a6f14ab8389bffcf96aef5bb8b61af1723dca8060e1ad"), looks := false }, kinds := [], alts := [], laidByText := true, laidKinds := [.data, .data, .data], laidTests := true, laidLooks := .later }
def EncoderProofsCardSaid : Prop := Claim7.holds Tryz.pinned (.plain (OpenSpec.ofChange encoderProofsSpec)) encoderProofsCard

/-- THE SECOND FORM's CARD OF 'groovelaw25.EncoderBuilds'. -/
def encoderBuildsUptoCard : Claim7 := { stood := { row := encoderBuildsUptoRow, standIns := [], harness := (true, "b932272e7faf526be19a6f14ab8389bffcf96aef5bb8b61af1723dca8060e1ad"), looks := false }, kinds := [], alts := [], laidByText := true, laidKinds := [.data, .data, .data], laidTests := true, laidLooks := .later }
def EncoderBuildsUptoCardSaid : Prop := Claim7.holds Tryz.pinned (.plain (OpenSpec.upto encoderBuildsSpec)) encoderBuildsUptoCard

/-- THE SECOND FORM's CARD OF 'groovelaw25.EncoderProofs'. -/
def encoderProofsUptoCard : Claim7 := { stood := { row := encoderProofsUptoRow, standIns := [], harness := (true, "b932272e7faf526be19a6f14ab8389bffcf96aef5bb8b61af1723dca8060e1ad"), looks := false }, kinds := [], alts := [], laidByText := true, laidKinds := [.data, .data, .data], laidTests := true, laidLooks := .later }
def EncoderProofsUptoCardSaid : Prop := Claim7.holds Tryz.pinned (.plain (OpenSpec.upto encoderProofsSpec)) encoderProofsUptoCard
end Rows
end Go.Proofs.YtchjjiedcpfniaaGreatDoor
