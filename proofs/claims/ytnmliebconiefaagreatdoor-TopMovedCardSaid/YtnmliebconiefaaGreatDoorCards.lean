/-
  DERIVED. GIVEN WITH THE SEED: THE CARDS: each row of YtnmliebconiefaaGreatDoorRows.lean that lists a variable, with what it lists TIED to the program's text (the seventh form; the later family's looks); each row that meets fmt, with fmt's text TOLD by the authors' own Lean function (tested against real Go, not proved from fmt's source: count such statements apart). THE CARD IS WHAT COUNTS. Prove the row's statement (the work); the ties are given (YtnmliebconiefaaGreatDoorTie.lean); close each card by the builder's one call (the guide's Derived/Test/ToyasCard.lean, 'card_holds'). Laid BY PROGRAM, IN A SANDBOX (cutbox-door.mjs). By AI agents, Wed Nov 11 2026. No macro, syntax, notation, axiom, sorry.
-/
import Derived.Test.YtnmliebconiefaaGreatDoorRows
import GoSem.ClaimSeven
namespace Go.Proofs.YtnmliebconiefaaGreatDoor
namespace Rows

/-- THE TIED CARD OF 'milestonetop.TopTriangle'. -/
def topTriangleCard : Claim7 := { stood := { row := topTriangleRow, standIns := [], harness := (true, "4d82fe35f6c9bb4c888267545629c57eb401f8a2eb7af5ad776c23b7a6ffb210"), looks := true }, kinds := [], alts := [], laidByText := true, laidKinds := [.handle], laidTests := true, laidLooks := .later }
def TopTriangleCardSaid : Prop := Claim7.holds Tryz.pinned (.plain (OpenSpec.ofChange topTriangleSpec)) topTriangleCard

/-- THE TIED CARD OF 'milestonetop.TopMoved'. -/
def topMovedCard : Claim7 := { stood := { row := topMovedRow, standIns := [], harness := (true, "4d82fe35f6c9bb4c888267545629c57eb401f8a2eb7af5ad776c23b7a6ffb210"), looks := true }, kinds := [], alts := [], laidByText := true, laidKinds := [.handle], laidTests := true, laidLooks := .later }
def TopMovedCardSaid : Prop := Claim7.holds Tryz.pinned (.plain (OpenSpec.ofChange topMovedSpec)) topMovedCard

/-- THE SECOND FORM's CARD OF 'milestonetop.TopTriangle'. -/
def topTriangleUptoCard : Claim7 := { stood := { row := topTriangleUptoRow, standIns := [], harness := (true, "4d82fe35f6c9bb4c888267545629c57eb401f8a2eb7af5ad776c23b7a6ffb210"), looks := true }, kinds := [], alts := [], laidByText := true, laidKinds := [.handle], laidTests := true, laidLooks := .later }
def TopTriangleUptoCardSaid : Prop := Claim7.holds Tryz.pinned (.plain (OpenSpec.upto topTriangleSpec)) topTriangleUptoCard

/-- THE SECOND FORM's CARD OF 'milestonetop.TopMoved'. -/
def topMovedUptoCard : Claim7 := { stood := { row := topMovedUptoRow, standIns := [], harness := (true, "4d82fe35f6c9bb4c888267545629c57eb401f8a2eb7af5ad776c23b7a6ffb210"), looks := true }, kinds := [], alts := [], laidByText := true, laidKinds := [.handle], laidTests := true, laidLooks := .later }
def TopMovedUptoCardSaid : Prop := Claim7.holds Tryz.pinned (.plain (OpenSpec.upto topMovedSpec)) topMovedUptoCard
end Rows
end Go.Proofs.YtnmliebconiefaaGreatDoor
