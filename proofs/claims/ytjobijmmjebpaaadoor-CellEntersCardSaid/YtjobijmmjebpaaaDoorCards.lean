/-
  DERIVED. GIVEN WITH THE SEED: THE CARDS: each row of YtjobijmmjebpaaaDoorRows.lean that lists a variable, with what it lists TIED to the program's text (the seventh form; the later family's looks); each row that meets fmt, with fmt's text TOLD by the authors' own Lean function (tested against real Go, not proved from fmt's source: count such statements apart). THE CARD IS WHAT COUNTS. Prove the row's statement (the work); the ties are given (YtjobijmmjebpaaaDoorTie.lean); close each card by the builder's one call (the guide's Derived/Test/ToyasCard.lean, 'card_holds'). Laid BY PROGRAM, IN A SANDBOX (cutbox-door.mjs). By AI agents, Wed Nov 11 2026. No macro, syntax, notation, axiom, sorry.
-/
import Derived.Test.YtjobijmmjebpaaaDoorRows
import GoSem.ClaimSeven
namespace Go.Proofs.YtjobijmmjebpaaaDoor
namespace Rows

/-- THE TIED CARD OF 'milestonelaw23.CellBorders'. -/
def cellBordersCard : Claim7 := { stood := { row := cellBordersRow, standIns := [], harness := (true, "37def131b7e5bcc0f01f01f8b6e29d11b1fd864daab70a65c6786f93685a7105"), looks := true }, kinds := [], alts := [], laidByText := true, laidKinds := [.handle], laidTests := true, laidLooks := .later }
def CellBordersCardSaid : Prop := Claim7.holds Tryd.pinned (.plain (OpenSpec.ofChange cellBordersSpec)) cellBordersCard

/-- THE TIED CARD OF 'milestonelaw23.CellNorms'. -/
def cellNormsCard : Claim7 := { stood := { row := cellNormsRow, standIns := [], harness := (true, "37def131b7e5bcc0f01f01f8b6e29d11b1fd864daab70a65c6786f93685a7105"), looks := true }, kinds := [], alts := [], laidByText := true, laidKinds := [.handle], laidTests := true, laidLooks := .later }
def CellNormsCardSaid : Prop := Claim7.holds Tryd.pinned (.plain (OpenSpec.ofChange cellNormsSpec)) cellNormsCard

/-- THE TIED CARD OF 'milestonelaw23.CellKnown'. -/
def cellKnownCard : Claim7 := { stood := { row := cellKnownRow, standIns := [], harness := (true, "37def131b7e5bcc0f01f01f8b6e29d11b1fd864daab70a65c6786f93685a7105"), looks := true }, kinds := [], alts := [], laidByText := true, laidKinds := [.handle], laidTests := true, laidLooks := .later }
def CellKnownCardSaid : Prop := Claim7.holds Tryd.pinned (.plain (OpenSpec.ofChange cellKnownSpec)) cellKnownCard

/-- THE TIED CARD OF 'milestonelaw23.CellEnters'. -/
def cellEntersCard : Claim7 := { stood := { row := cellEntersRow, standIns := [], harness := (true, "37def131b7e5bcc0f01f01f8b6e29d11b1fd864daab70a65c6786f93685a7105"), looks := true }, kinds := [], alts := [], laidByText := true, laidKinds := [.handle], laidTests := true, laidLooks := .later }
def CellEntersCardSaid : Prop := Claim7.holds Tryd.pinned (.plain (OpenSpec.ofChange cellEntersSpec)) cellEntersCard

/-- THE SECOND FORM's CARD OF 'milestonelaw23.CellBorders'. -/
def cellBordersUptoCard : Claim7 := { stood := { row := cellBordersUptoRow, standIns := [], harness := (true, "37def131b7e5bcc0f01f01f8b6e29d11b1fd864daab70a65c6786f93685a7105"), looks := true }, kinds := [], alts := [], laidByText := true, laidKinds := [.handle], laidTests := true, laidLooks := .later }
def CellBordersUptoCardSaid : Prop := Claim7.holds Tryd.pinned (.plain (OpenSpec.upto cellBordersSpec)) cellBordersUptoCard

/-- THE SECOND FORM's CARD OF 'milestonelaw23.CellNorms'. -/
def cellNormsUptoCard : Claim7 := { stood := { row := cellNormsUptoRow, standIns := [], harness := (true, "37def131b7e5bcc0f01f01f8b6e29d11b1fd864daab70a65c6786f93685a7105"), looks := true }, kinds := [], alts := [], laidByText := true, laidKinds := [.handle], laidTests := true, laidLooks := .later }
def CellNormsUptoCardSaid : Prop := Claim7.holds Tryd.pinned (.plain (OpenSpec.upto cellNormsSpec)) cellNormsUptoCard

/-- THE SECOND FORM's CARD OF 'milestonelaw23.CellKnown'. -/
def cellKnownUptoCard : Claim7 := { stood := { row := cellKnownUptoRow, standIns := [], harness := (true, "37def131b7e5bcc0f01f01f8b6e29d11b1fd864daab70a65c6786f93685a7105"), looks := true }, kinds := [], alts := [], laidByText := true, laidKinds := [.handle], laidTests := true, laidLooks := .later }
def CellKnownUptoCardSaid : Prop := Claim7.holds Tryd.pinned (.plain (OpenSpec.upto cellKnownSpec)) cellKnownUptoCard

/-- THE SECOND FORM's CARD OF 'milestonelaw23.CellEnters'. -/
def cellEntersUptoCard : Claim7 := { stood := { row := cellEntersUptoRow, standIns := [], harness := (true, "37def131b7e5bcc0f01f01f8b6e29d11b1fd864daab70a65c6786f93685a7105"), looks := true }, kinds := [], alts := [], laidByText := true, laidKinds := [.handle], laidTests := true, laidLooks := .later }
def CellEntersUptoCardSaid : Prop := Claim7.holds Tryd.pinned (.plain (OpenSpec.upto cellEntersSpec)) cellEntersUptoCard
end Rows
end Go.Proofs.YtjobijmmjebpaaaDoor
