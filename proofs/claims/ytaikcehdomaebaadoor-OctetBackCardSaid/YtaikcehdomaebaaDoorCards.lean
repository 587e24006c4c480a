/-
  DERIVED. GIVEN WITH THE SEED: THE CARDS: each row of YtaikcehdomaebaaDoorRows.lean that lists a variable, with what it lists TIED to the program's text (the seventh form; the later family's looks); each row that meets fmt, with fmt's text TOLD by the authors' own Lean function (tested against real Go, not proved from fmt's source: count such statements apart). THE CARD IS WHAT COUNTS. Prove the row's statement (the work); the ties are given (YtaikcehdomaebaaDoorTie.lean); close each card by the builder's one call (the guide's Derived/Test/ToyasCard.lean, 'card_holds'). Laid BY PROGRAM, IN A SANDBOX (cutbox-door.mjs). By AI agents, Wed Nov 11 2026. No macro, syntax, notation, axiom, sorry.
-/
import Derived.Test.YtaikcehdomaebaaDoorRows
import GoSem.ClaimSeven
namespace Go.Proofs.YtaikcehdomaebaaDoor
namespace Rows

/-- THE TIED CARD OF 'milestonelaw01.OctetOnce'. -/
def octetOnceCard : Claim7 := { stood := { row := octetOnceRow, standIns := [], harness := (true, "54392334e24d5ad3ea207f3ab399e901781c14225d78afe0bf341a012026f509"), looks := true }, kinds := [], alts := [], laidByText := true, laidKinds := [.handle], laidTests := true, laidLooks := .later }
def OctetOnceCardSaid : Prop := Claim7.holds Tryd.pinned (.plain (OpenSpec.ofChange octetOnceSpec)) octetOnceCard

/-- THE TIED CARD OF 'milestonelaw01.OctetKnown'. -/
def octetKnownCard : Claim7 := { stood := { row := octetKnownRow, standIns := [], harness := (true, "54392334e24d5ad3ea207f3ab399e901781c14225d78afe0bf341a012026f509"), looks := true }, kinds := [], alts := [], laidByText := true, laidKinds := [.handle], laidTests := true, laidLooks := .later }
def OctetKnownCardSaid : Prop := Claim7.holds Tryd.pinned (.plain (OpenSpec.ofChange octetKnownSpec)) octetKnownCard

/-- THE TIED CARD OF 'milestonelaw01.OctetTells'. -/
def octetTellsCard : Claim7 := { stood := { row := octetTellsRow, standIns := [], harness := (true, "54392334e24d5ad3ea207f3ab399e901781c14225d78afe0bf341a012026f509"), looks := true }, kinds := [], alts := [], laidByText := true, laidKinds := [.handle], laidTests := true, laidLooks := .later }
def OctetTellsCardSaid : Prop := Claim7.holds Tryd.pinned (.plain (OpenSpec.ofChange octetTellsSpec)) octetTellsCard

/-- THE TIED CARD OF 'milestonelaw01.OctetBack'. -/
def octetBackCard : Claim7 := { stood := { row := octetBackRow, standIns := [], harness := (true, "54392334e24d5ad3ea207f3ab399e901781c14225d78afe0bf341a012026f509"), looks := true }, kinds := [], alts := [], laidByText := true, laidKinds := [.handle], laidTests := true, laidLooks := .later }
def OctetBackCardSaid : Prop := Claim7.holds Tryd.pinned (.plain (OpenSpec.ofChange octetBackSpec)) octetBackCard

/-- THE SECOND FORM's CARD OF 'milestonelaw01.OctetOnce'. -/
def octetOnceUptoCard : Claim7 := { stood := { row := octetOnceUptoRow, standIns := [], harness := (true, "54392334e24d5ad3ea207f3ab399e901781c14225d78afe0bf341a012026f509"), looks := true }, kinds := [], alts := [], laidByText := true, laidKinds := [.handle], laidTests := true, laidLooks := .later }
def OctetOnceUptoCardSaid : Prop := Claim7.holds Tryd.pinned (.plain (OpenSpec.upto octetOnceSpec)) octetOnceUptoCard

/-- THE SECOND FORM's CARD OF 'milestonelaw01.OctetKnown'. -/
def octetKnownUptoCard : Claim7 := { stood := { row := octetKnownUptoRow, standIns := [], harness := (true, "54392334e24d5ad3ea207f3ab399e901781c14225d78afe0bf341a012026f509"), looks := true }, kinds := [], alts := [], laidByText := true, laidKinds := [.handle], laidTests := true, laidLooks := .later }
def OctetKnownUptoCardSaid : Prop := Claim7.holds Tryd.pinned (.plain (OpenSpec.upto octetKnownSpec)) octetKnownUptoCard

/-- THE SECOND FORM's CARD OF 'milestonelaw01.OctetTells'. -/
def octetTellsUptoCard : Claim7 := { stood := { row := octetTellsUptoRow, standIns := [], harness := (true, "54392334e24d5ad3ea207f3ab399e901781c14225d78afe0bf341a012026f509"), looks := true }, kinds := [], alts := [], laidByText := true, laidKinds := [.handle], laidTests := true, laidLooks := .later }
def OctetTellsUptoCardSaid : Prop := Claim7.holds Tryd.pinned (.plain (OpenSpec.upto octetTellsSpec)) octetTellsUptoCard

/-- THE SECOND FORM's CARD OF 'milestonelaw01.OctetBack'. -/
def octetBackUptoCard : Claim7 := { stood := { row := octetBackUptoRow, standIns := [], harness := (true, "54392334e24d5ad3ea207f3ab399e901781c14225d78afe0bf341a012026f509"), looks := true }, kinds := [], alts := [], laidByText := true, laidKinds := [.handle], laidTests := true, laidLooks := .later }
def OctetBackUptoCardSaid : Prop := Claim7.holds Tryd.pinned (.plain (OpenSpec.upto octetBackSpec)) octetBackUptoCard
end Rows
end Go.Proofs.YtaikcehdomaebaaDoor
