/-
  DERIVED. GIVEN WITH THE SEED: THE CARDS: each row of YtdojahjhijkbhaaGreatDoorRows.lean that lists a variable, with what it lists TIED to the program's text (the seventh form; the later family's looks); each row that meets fmt, with fmt's text TOLD by the authors' own Lean function (tested against real Go, not proved from fmt's source: count such statements apart). THE CARD IS WHAT COUNTS. Prove the row's statement (the work); the ties are given (YtdojahjhijkbhaaGreatDoorTie.lean); close each card by the builder's one call (the guide's Derived/Test/ToyasCard.lean, 'card_holds'). Laid BY PROGRAM, IN A SANDBOX (cutbox-door.mjs). By AI agents, Wed Nov 11 2026. No macro, syntax, notation, axiom, sorry.
-/
import Derived.Test.YtdojahjhijkbhaaGreatDoorRows
import GoSem.ClaimSeven
namespace Go.Proofs.YtdojahjhijkbhaaGreatDoor
namespace Rows

/-- THE TIED CARD OF 'groovelaw25.EncoderRuns'. -/
def encoderRunsCard : Claim7 := { stood := { row := encoderRunsRow, standIns := [], harness := (true, "45cb9d5199700cd4e9418e7974f38618e117fc167edb7b3b4c344aa9cbd00c70"), looks := false }, kinds := [], alts := [], laidByText := true, laidKinds := [.data, .data, .data], laidTests := true, laidLooks := .later }
def EncoderRunsCardSaid : Prop := Claim7.holds Tryz.pinned (.plain (OpenSpec.ofChange encoderRunsSpec)) encoderRunsCard

/-- THE TIED CARD OF 'groovelaw25.EncoderChecks'. -/
def encoderChecksCard : Claim7 := { stood := { row := encoderChecksRow, standIns := [], harness := (true, "45cb9d5199700cd4e9418e7974f38618e117fc167edb7b3b4c344aa9cbd00c70"), looks := false }, kinds := [], alts := [], laidByText := true, laidKinds := [.data, .data, .data], laidTests := true, laidLooks := .later }
def EncoderChecksCardSaid : Prop := Claim7.holds Tryz.pinned (.plain (OpenSpec.ofChange encoderChecksSpec)) encoderChecksCard

/-- THE TIED CARD OF 'groovelaw25.EncoderGraphs'. -/
def encoderGraphsCard : Claim7 := { stood := { row := encoderGraphsRow, standIns := [], harness := (true, "45cb9d5199700cd4e9418e7974f38618e117fc167edb7b3b4c344aa9cbd00c70"), looks := false }, kinds := [], alts := [], laidByText := true, laidKinds := [.data, .data, .data], laidTests := true, laidLooks := .later }
def EncoderGraphsCardSaid : Prop := Claim7.holds Tryz.pinned (.plain (OpenSpec.ofChange encoderGraphsSpec)) encoderGraphsCard

/-- THE SECOND FORM's CARD OF 'groovelaw25.EncoderRuns'. -/
def encoderRunsUptoCard : Claim7 := { stood := { row := encoderRunsUptoRow, standIns := [], harness := (true, "45cb9d5199700cd4e9418e7974f38618e117fc167edb7b3b4c344aa9cbd00c70"), looks := false }, kinds := [], alts := [], laidByText := true, laidKinds := [.data, .data, .data], laidTests := true, laidLooks := .later }
def EncoderRunsUptoCardSaid : Prop := Claim7.holds Tryz.pinned (.plain (OpenSpec.upto encoderRunsSpec)) encoderRunsUptoCard

/-- THE SECOND FORM's CARD OF 'groovelaw25.EncoderChecks'. -/
def encoderChecksUptoCard : Claim7 := { stood := { row := encoderChecksUptoRow, standIns := [], harness := (true, "45cb9d5199700cd4e9418e7974f38618e117fc167edb7b3b4c344aa9cbd00c70"), looks := false }, kinds := [], alts := [], laidByText := true, laidKinds := [.data, .data, .data], laidTests := true, laidLooks := .later }
def EncoderChecksUptoCardSaid : Prop := Claim7.holds Tryz.pinned (.plain (OpenSpec.upto encoderChecksSpec)) encoderChecksUptoCard

/-- THE SECOND FORM's CARD OF 'groovelaw25.EncoderGraphs'. -/
def encoderGraphsUptoCard : Claim7 := { stood := { row := encoderGraphsUptoRow, standIns := [], harness := (true, "45cb9d5199700cd4e9418e7974f38618e117fc167edb7b3b4c344aa9cbd00c70"), looks := false }, kinds := [], alts := [], laidByText := true, laidKinds := [.data, .data, .data], laidTests := true, laidLooks := .later }
def EncoderGraphsUptoCardSaid : Prop := Claim7.holds Tryz.pinned (.plain (OpenSpec.upto encoderGraphsSpec)) encoderGraphsUptoCard
end Rows
end Go.Proofs.YtdojahjhijkbhaaGreatDoor
