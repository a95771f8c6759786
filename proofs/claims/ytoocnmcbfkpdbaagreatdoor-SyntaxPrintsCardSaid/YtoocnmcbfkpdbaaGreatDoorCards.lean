/-
  DERIVED. GIVEN WITH THE SEED: THE CARDS: each row of YtoocnmcbfkpdbaaGreatDoorRows.lean that lists a variable, with what it lists TIED to the program's text (the seventh form; the later family's looks); each row that meets fmt, with fmt's text TOLD by the authors' own Lean function (tested against real Go, not proved from fmt's source: count such statements apart). THE CARD IS WHAT COUNTS. Prove the row's statement (the work); the ties are given (YtoocnmcbfkpdbaaGreatDoorTie.lean); close each card by the builder's one call (the guide's Derived/Test/ToyasCard.lean, 'card_holds'). Laid BY PROGRAM, IN A SANDBOX (cutbox-door.mjs). By AI agents, Wed Nov 11 2026. No macro, syntax, notation, axiom, sorry.
-/
import Derived.Test.YtoocnmcbfkpdbaaGreatDoorRows
import GoSem.ClaimSeven
namespace Go.Proofs.YtoocnmcbfkpdbaaGreatDoor
namespace Rows

/-- THE TIED CARD OF 'rexmilllaw06.SyntaxPrints'. -/
def syntaxPrintsCard : Claim7 := { stood := { row := syntaxPrintsRow, standIns := [], harness := (true, "44aedfb3dae7f95294089b8e720c910342bc35c5c38b21e0fe2e2fab0fdd4342"), looks := false }, kinds := [], alts := [], laidByText := true, laidKinds := [.data, .data, .data, .data, .pinned], laidTests := true, laidLooks := .later }
def SyntaxPrintsCardSaid : Prop := Claim7.holds Tryz.pinned (.plain (OpenSpec.ofChange syntaxPrintsSpec)) syntaxPrintsCard

/-- THE TIED CARD OF 'rexmilllaw06.SyntaxOffsets'. -/
def syntaxOffsetsCard : Claim7 := { stood := { row := syntaxOffsetsRow, standIns := [], harness := (true, "44aedfb3dae7f95294089b8e720c910342bc35c5c38b21e0fe2e2fab0fdd4342"), looks := false }, kinds := [], alts := [], laidByText := true, laidKinds := [.data, .data, .data, .data, .pinned], laidTests := true, laidLooks := .later }
def SyntaxOffsetsCardSaid : Prop := Claim7.holds Tryz.pinned (.plain (OpenSpec.ofChange syntaxOffsetsSpec)) syntaxOffsetsCard

/-- THE TIED CARD OF 'rexmilllaw06.SyntaxLimits'. -/
def syntaxLimitsCard : Claim7 := { stood := { row := syntaxLimitsRow, standIns := [], harness := (true, "44aedfb3dae7f95294089b8e720c910342bc35c5c38b21e0fe2e2fab0fdd4342"), looks := false }, kinds := [], alts := [], laidByText := true, laidKinds := [.data, .data, .data, .data, .pinned], laidTests := true, laidLooks := .later }
def SyntaxLimitsCardSaid : Prop := Claim7.holds Tryz.pinned (.plain (OpenSpec.ofChange syntaxLimitsSpec)) syntaxLimitsCard

/-- THE TIED CARD OF 'rexmilllaw06.SyntaxRound'. -/
def syntaxRoundCard : Claim7 := { stood := { row := syntaxRoundRow, standIns := [], harness := (true, "44aedfb3dae7f95294089b8e720c910342bc35c5c38b21e0fe2e2fab0fdd4342"), looks := false }, kinds := [], alts := [], laidByText := true, laidKinds := [.data, .data, .data, .data, .pinned], laidTests := true, laidLooks := .later }
def SyntaxRoundCardSaid : Prop := Claim7.holds Tryz.pinned (.plain (OpenSpec.ofChange syntaxRoundSpec)) syntaxRoundCard

/-- THE TIED CARD OF 'rexmilllaw06.SyntaxFlags'. -/
def syntaxFlagsCard : Claim7 := { stood := { row := syntaxFlagsRow, standIns := [], harness := (true, "44aedfb3dae7f95294089b8e720c910342bc35c5c38b21e0fe2e2fab0fdd4342"), looks := false }, kinds := [], alts := [], laidByText := true, laidKinds := [.data, .data, .data, .data, .pinned], laidTests := true, laidLooks := .later }
def SyntaxFlagsCardSaid : Prop := Claim7.holds Tryz.pinned (.plain (OpenSpec.ofChange syntaxFlagsSpec)) syntaxFlagsCard

/-- THE TIED CARD OF 'rexmilllaw06.SyntaxQuotes'. -/
def syntaxQuotesCard : Claim7 := { stood := { row := syntaxQuotesRow, standIns := [], harness := (true, "44aedfb3dae7f95294089b8e720c910342bc35c5c38b21e0fe2e2fab0fdd4342"), looks := false }, kinds := [], alts := [], laidByText := true, laidKinds := [.data, .data, .data, .data, .data, .pinned], laidTests := true, laidLooks := .later }
def SyntaxQuotesCardSaid : Prop := Claim7.holds Tryz.pinned (.plain (OpenSpec.ofChange syntaxQuotesSpec)) syntaxQuotesCard

/-- THE SECOND FORM's CARD OF 'rexmilllaw06.SyntaxPrints'. -/
def syntaxPrintsUptoCard : Claim7 := { stood := { row := syntaxPrintsUptoRow, standIns := [], harness := (true, "44aedfb3dae7f95294089b8e720c910342bc35c5c38b21e0fe2e2fab0fdd4342"), looks := false }, kinds := [], alts := [], laidByText := true, laidKinds := [.data, .data, .data, .data, .pinned], laidTests := true, laidLooks := .later }
def SyntaxPrintsUptoCardSaid : Prop := Claim7.holds Tryz.pinned (.plain (OpenSpec.upto syntaxPrintsSpec)) syntaxPrintsUptoCard

/-- THE SECOND FORM's CARD OF 'rexmilllaw06.SyntaxOffsets'. -/
def syntaxOffsetsUptoCard : Claim7 := { stood := { row := syntaxOffsetsUptoRow, standIns := [], harness := (true, "44aedfb3dae7f95294089b8e720c910342bc35c5c38b21e0fe2e2fab0fdd4342"), looks := false }, kinds := [], alts := [], laidByText := true, laidKinds := [.data, .data, .data, .data, .pinned], laidTests := true, laidLooks := .later }
def SyntaxOffsetsUptoCardSaid : Prop := Claim7.holds Tryz.pinned (.plain (OpenSpec.upto syntaxOffsetsSpec)) syntaxOffsetsUptoCard

/-- THE SECOND FORM's CARD OF 'rexmilllaw06.SyntaxLimits'. -/
def syntaxLimitsUptoCard : Claim7 := { stood := { row := syntaxLimitsUptoRow, standIns := [], harness := (true, "44aedfb3dae7f95294089b8e720c910342bc35c5c38b21e0fe2e2fab0fdd4342"), looks := false }, kinds := [], alts := [], laidByText := true, laidKinds := [.data, .data, .data, .data, .pinned], laidTests := true, laidLooks := .later }
def SyntaxLimitsUptoCardSaid : Prop := Claim7.holds Tryz.pinned (.plain (OpenSpec.upto syntaxLimitsSpec)) syntaxLimitsUptoCard

/-- THE SECOND FORM's CARD OF 'rexmilllaw06.SyntaxRound'. -/
def syntaxRoundUptoCard : Claim7 := { stood := { row := syntaxRoundUptoRow, standIns := [], harness := (true, "44aedfb3dae7f95294089b8e720c910342bc35c5c38b21e0fe2e2fab0fdd4342"), looks := false }, kinds := [], alts := [], laidByText := true, laidKinds := [.data, .data, .data, .data, .pinned], laidTests := true, laidLooks := .later }
def SyntaxRoundUptoCardSaid : Prop := Claim7.holds Tryz.pinned (.plain (OpenSpec.upto syntaxRoundSpec)) syntaxRoundUptoCard

/-- THE SECOND FORM's CARD OF 'rexmilllaw06.SyntaxFlags'. -/
def syntaxFlagsUptoCard : Claim7 := { stood := { row := syntaxFlagsUptoRow, standIns := [], harness := (true, "44aedfb3dae7f95294089b8e720c910342bc35c5c38b21e0fe2e2fab0fdd4342"), looks := false }, kinds := [], alts := [], laidByText := true, laidKinds := [.data, .data, .data, .data, .pinned], laidTests := true, laidLooks := .later }
def SyntaxFlagsUptoCardSaid : Prop := Claim7.holds Tryz.pinned (.plain (OpenSpec.upto syntaxFlagsSpec)) syntaxFlagsUptoCard

/-- THE SECOND FORM's CARD OF 'rexmilllaw06.SyntaxQuotes'. -/
def syntaxQuotesUptoCard : Claim7 := { stood := { row := syntaxQuotesUptoRow, standIns := [], harness := (true, "44aedfb3dae7f95294089b8e720c910342bc35c5c38b21e0fe2e2fab0fdd4342"), looks := false }, kinds := [], alts := [], laidByText := true, laidKinds := [.data, .data, .data, .data, .data, .pinned], laidTests := true, laidLooks := .later }
def SyntaxQuotesUptoCardSaid : Prop := Claim7.holds Tryz.pinned (.plain (OpenSpec.upto syntaxQuotesSpec)) syntaxQuotesUptoCard
end Rows
end Go.Proofs.YtoocnmcbfkpdbaaGreatDoor
