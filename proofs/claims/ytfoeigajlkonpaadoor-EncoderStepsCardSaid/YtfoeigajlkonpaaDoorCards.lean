/-
  DERIVED. GIVEN WITH THE SEED: THE CARDS: each row of YtfoeigajlkonpaaDoorRows.lean that lists a variable, with what it lists TIED to the program's text (the seventh form; the later family's looks); each row that meets fmt, with fmt's text TOLD by the authors' own Lean function (tested against real Go, not proved from fmt's source: count such statements apart). THE CARD IS WHAT COUNTS. Prove the row's statement (the work); the ties are given (YtfoeigajlkonpaaDoorTie.lean); close each card by the builder's one call (the guide's Derived/Test/ToyasCard.lean, 'card_holds'). Laid BY PROGRAM, IN A SANDBOX (cutbox-door.mjs). By AI agents, Wed Nov 11 2026. No macro, syntax, notation, axiom, sorry.
-/
import Derived.Test.YtfoeigajlkonpaaDoorRows
import GoSem.ClaimSeven
namespace Go.Proofs.YtfoeigajlkonpaaDoor
namespace Rows

/-- THE TIED CARD OF 'groovelaw25.EncoderLossless'. -/
def encoderLosslessCard : Claim7 := { stood := { row := encoderLosslessRow, standIns := [], harness := (true, "7a31596f46378c90f7113c92b856a12cac89d9c5f3e7c5c086a61e0f6d9e3968"), looks := false }, kinds := [], alts := [], laidByText := true, laidKinds := [.data, .data, .data], laidTests := true, laidLooks := .later }
def EncoderLosslessCardSaid : Prop := Claim7.holds Tryd.pinned (.plain (OpenSpec.ofChange encoderLosslessSpec)) encoderLosslessCard

/-- THE TIED CARD OF 'groovelaw25.EncoderSteps'. -/
def encoderStepsCard : Claim7 := { stood := { row := encoderStepsRow, standIns := [], harness := (true, "7a31596f46378c90f7113c92b856a12cac89d9c5f3e7c5c086a61e0f6d9e3968"), looks := false }, kinds := [], alts := [], laidByText := true, laidKinds := [.data, .data, .data], laidTests := true, laidLooks := .later }
def EncoderStepsCardSaid : Prop := Claim7.holds Tryd.pinned (.plain (OpenSpec.ofChange encoderStepsSpec)) encoderStepsCard

/-- THE TIED CARD OF 'groovelaw25.EncoderWithin'. -/
def encoderWithinCard : Claim7 := { stood := { row := encoderWithinRow, standIns := [], harness := (true, "7a31596f46378c90f7113c92b856a12cac89d9c5f3e7c5c086a61e0f6d9e3968"), looks := false }, kinds := [], alts := [], laidByText := true, laidKinds := [.data, .data, .data], laidTests := true, laidLooks := .later }
def EncoderWithinCardSaid : Prop := Claim7.holds Tryd.pinned (.plain (OpenSpec.ofChange encoderWithinSpec)) encoderWithinCard

/-- THE TIED CARD OF 'groovelaw25.EncoderTexts'. -/
def encoderTextsCard : Claim7 := { stood := { row := encoderTextsRow, standIns := [], harness := (true, "7a31596f46378c90f7113c92b856a12cac89d9c5f3e7c5c086a61e0f6d9e3968"), looks := false }, kinds := [], alts := [], laidByText := true, laidKinds := [.data, .data, .data], laidTests := true, laidLooks := .later }
def EncoderTextsCardSaid : Prop := Claim7.holds Tryd.pinned (.plain (OpenSpec.ofChange encoderTextsSpec)) encoderTextsCard

/-- THE SECOND FORM's CARD OF 'groovelaw25.EncoderLossless'. -/
def encoderLosslessUptoCard : Claim7 := { stood := { row := encoderLosslessUptoRow, standIns := [], harness := (true, "7a31596f46378c90f7113c92b856a12cac89d9c5f3e7c5c086a61e0f6d9e3968"), looks := false }, kinds := [], alts := [], laidByText := true, laidKinds := [.data, .data, .data], laidTests := true, laidLooks := .later }
def EncoderLosslessUptoCardSaid : Prop := Claim7.holds Tryd.pinned (.plain (OpenSpec.upto encoderLosslessSpec)) encoderLosslessUptoCard

/-- THE SECOND FORM's CARD OF 'groovelaw25.EncoderSteps'. -/
def encoderStepsUptoCard : Claim7 := { stood := { row := encoderStepsUptoRow, standIns := [], harness := (true, "7a31596f46378c90f7113c92b856a12cac89d9c5f3e7c5c086a61e0f6d9e3968"), looks := false }, kinds := [], alts := [], laidByText := true, laidKinds := [.data, .data, .data], laidTests := true, laidLooks := .later }
def EncoderStepsUptoCardSaid : Prop := Claim7.holds Tryd.pinned (.plain (OpenSpec.upto encoderStepsSpec)) encoderStepsUptoCard

/-- THE SECOND FORM's CARD OF 'groovelaw25.EncoderWithin'. -/
def encoderWithinUptoCard : Claim7 := { stood := { row := encoderWithinUptoRow, standIns := [], harness := (true, "7a31596f46378c90f7113c92b856a12cac89d9c5f3e7c5c086a61e0f6d9e3968"), looks := false }, kinds := [], alts := [], laidByText := true, laidKinds := [.data, .data, .data], laidTests := true, laidLooks := .later }
def EncoderWithinUptoCardSaid : Prop := Claim7.holds Tryd.pinned (.plain (OpenSpec.upto encoderWithinSpec)) encoderWithinUptoCard

/-- THE SECOND FORM's CARD OF 'groovelaw25.EncoderTexts'. -/
def encoderTextsUptoCard : Claim7 := { stood := { row := encoderTextsUptoRow, standIns := [], harness := (true, "7a31596f46378c90f7113c92b856a12cac89d9c5f3e7c5c086a61e0f6d9e3968"), looks := false }, kinds := [], alts := [], laidByText := true, laidKinds := [.data, .data, .data], laidTests := true, laidLooks := .later }
def EncoderTextsUptoCardSaid : Prop := Claim7.holds Tryd.pinned (.plain (OpenSpec.upto encoderTextsSpec)) encoderTextsUptoCard
end Rows
end Go.Proofs.YtfoeigajlkonpaaDoor
