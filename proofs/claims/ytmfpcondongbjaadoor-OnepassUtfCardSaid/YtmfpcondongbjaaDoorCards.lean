/-
  DERIVED. GIVEN WITH THE SEED: THE CARDS: each row of YtmfpcondongbjaaDoorRows.lean that lists a variable, with what it lists TIED to the program's text (the seventh form; the later family's looks); each row that meets fmt, with fmt's text TOLD by the authors' own Lean function (tested against real Go, not proved from fmt's source: count such statements apart). THE CARD IS WHAT COUNTS. Prove the row's statement (the work); the ties are given (YtmfpcondongbjaaDoorTie.lean); close each card by the builder's one call (the guide's Derived/Test/ToyasCard.lean, 'card_holds'). Laid BY PROGRAM, IN A SANDBOX (cutbox-door.mjs). By AI agents, Wed Nov 11 2026. No macro, syntax, notation, axiom, sorry.
-/
import Derived.Test.YtmfpcondongbjaaDoorRows
import GoSem.ClaimSeven
namespace Go.Proofs.YtmfpcondongbjaaDoor
namespace Rows

/-- THE TIED CARD OF 'rexmilllaw13.OnepassUtf'. -/
def onepassUtfCard : Claim7 := { stood := { row := onepassUtfRow, standIns := [], harness := (true, "b1d22d851c9b3179579be77278f12efca8252611bdfb9119ab3449c795c5da85"), looks := false }, kinds := [], alts := [], laidByText := true, laidKinds := [.data], laidTests := true, laidLooks := .later }
def OnepassUtfCardSaid : Prop := Claim7.holds Tryd.pinned (.plain (OpenSpec.ofChange onepassUtfSpec)) onepassUtfCard

/-- THE SECOND FORM's CARD OF 'rexmilllaw13.OnepassUtf'. -/
def onepassUtfUptoCard : Claim7 := { stood := { row := onepassUtfUptoRow, standIns := [], harness := (true, "b1d22d851c9b3179579be77278f12efca8252611bdfb9119ab3449c795c5da85"), looks := false }, kinds := [], alts := [], laidByText := true, laidKinds := [.data], laidTests := true, laidLooks := .later }
def OnepassUtfUptoCardSaid : Prop := Claim7.holds Tryd.pinned (.plain (OpenSpec.upto onepassUtfSpec)) onepassUtfUptoCard
end Rows
end Go.Proofs.YtmfpcondongbjaaDoor
