/-
  DERIVED. GIVEN WITH THE SEED: THE CARDS: each row of YtnkcmlngoeofgaaDoorRows.lean that lists a variable, with what it lists TIED to the program's text (the seventh form; the later family's looks); each row that meets fmt, with fmt's text TOLD by the authors' own Lean function (tested against real Go, not proved from fmt's source: count such statements apart). THE CARD IS WHAT COUNTS. Prove the row's statement (the work); the ties are given (YtnkcmlngoeofgaaDoorTie.lean); close each card by the builder's one call (the guide's Derived/Test/ToyasCard.lean, 'card_holds'). Laid BY PROGRAM, IN A SANDBOX (cutbox-door.mjs). By AI agents, Wed Nov 11 2026. No macro, syntax, notation, axiom, sorry.
-/
import Derived.Test.YtnkcmlngoeofgaaDoorRows
import GoSem.ClaimSeven
namespace Go.Proofs.YtnkcmlngoeofgaaDoor
namespace Rows

/-- THE TIED CARD OF 'milestonelaw06.GraphFirst'. -/
def graphFirstCard : Claim7 := { stood := { row := graphFirstRow, standIns := [], harness := (true, "e3cb26cde5bdc9e32b610e36eb4fc372a197e5534f79321d51ffcb0165723461"), looks := true }, kinds := [], alts := [], laidByText := true, laidKinds := [.handle], laidTests := true, laidLooks := .later }
def GraphFirstCardSaid : Prop := Claim7.holds Tryd.pinned (.plain (OpenSpec.ofChange graphFirstSpec)) graphFirstCard

/-- THE TIED CARD OF 'milestonelaw06.GraphTells'. -/
def graphTellsCard : Claim7 := { stood := { row := graphTellsRow, standIns := [], harness := (true, "e3cb26cde5bdc9e32b610e36eb4fc372a197e5534f79321d51ffcb0165723461"), looks := true }, kinds := [], alts := [], laidByText := true, laidKinds := [.handle], laidTests := true, laidLooks := .later }
def GraphTellsCardSaid : Prop := Claim7.holds Tryd.pinned (.plain (OpenSpec.ofChange graphTellsSpec)) graphTellsCard

/-- THE TIED CARD OF 'milestonelaw06.GraphBack'. -/
def graphBackCard : Claim7 := { stood := { row := graphBackRow, standIns := [], harness := (true, "e3cb26cde5bdc9e32b610e36eb4fc372a197e5534f79321d51ffcb0165723461"), looks := true }, kinds := [], alts := [], laidByText := true, laidKinds := [.handle], laidTests := true, laidLooks := .later }
def GraphBackCardSaid : Prop := Claim7.holds Tryd.pinned (.plain (OpenSpec.ofChange graphBackSpec)) graphBackCard

/-- THE TIED CARD OF 'milestonelaw06.GraphKnown'. -/
def graphKnownCard : Claim7 := { stood := { row := graphKnownRow, standIns := [], harness := (true, "e3cb26cde5bdc9e32b610e36eb4fc372a197e5534f79321d51ffcb0165723461"), looks := true }, kinds := [], alts := [], laidByText := true, laidKinds := [.handle], laidTests := true, laidLooks := .later }
def GraphKnownCardSaid : Prop := Claim7.holds Tryd.pinned (.plain (OpenSpec.ofChange graphKnownSpec)) graphKnownCard

/-- THE TIED CARD OF 'milestonelaw07.NetOnce'. -/
def netOnceCard : Claim7 := { stood := { row := netOnceRow, standIns := [], harness := (true, "e3cb26cde5bdc9e32b610e36eb4fc372a197e5534f79321d51ffcb0165723461"), looks := true }, kinds := [], alts := [], laidByText := true, laidKinds := [.handle], laidTests := true, laidLooks := .later }
def NetOnceCardSaid : Prop := Claim7.holds Tryd.pinned (.plain (OpenSpec.ofChange netOnceSpec)) netOnceCard

/-- THE TIED CARD OF 'milestonelaw07.NetTells'. -/
def netTellsCard : Claim7 := { stood := { row := netTellsRow, standIns := [], harness := (true, "e3cb26cde5bdc9e32b610e36eb4fc372a197e5534f79321d51ffcb0165723461"), looks := true }, kinds := [], alts := [], laidByText := true, laidKinds := [.handle], laidTests := true, laidLooks := .later }
def NetTellsCardSaid : Prop := Claim7.holds Tryd.pinned (.plain (OpenSpec.ofChange netTellsSpec)) netTellsCard

/-- THE TIED CARD OF 'milestonelaw07.NetWrong'. -/
def netWrongCard : Claim7 := { stood := { row := netWrongRow, standIns := [], harness := (true, "e3cb26cde5bdc9e32b610e36eb4fc372a197e5534f79321d51ffcb0165723461"), looks := true }, kinds := [], alts := [], laidByText := true, laidKinds := [.handle], laidTests := true, laidLooks := .later }
def NetWrongCardSaid : Prop := Claim7.holds Tryd.pinned (.plain (OpenSpec.ofChange netWrongSpec)) netWrongCard

/-- THE TIED CARD OF 'milestonelaw07.NetShares'. -/
def netSharesCard : Claim7 := { stood := { row := netSharesRow, standIns := [], harness := (true, "e3cb26cde5bdc9e32b610e36eb4fc372a197e5534f79321d51ffcb0165723461"), looks := true }, kinds := [], alts := [], laidByText := true, laidKinds := [.handle], laidTests := true, laidLooks := .later }
def NetSharesCardSaid : Prop := Claim7.holds Tryd.pinned (.plain (OpenSpec.ofChange netSharesSpec)) netSharesCard

/-- THE TIED CARD OF 'milestonelaw07.NetKnown'. -/
def netKnownCard : Claim7 := { stood := { row := netKnownRow, standIns := [], harness := (true, "e3cb26cde5bdc9e32b610e36eb4fc372a197e5534f79321d51ffcb0165723461"), looks := true }, kinds := [], alts := [], laidByText := true, laidKinds := [.handle], laidTests := true, laidLooks := .later }
def NetKnownCardSaid : Prop := Claim7.holds Tryd.pinned (.plain (OpenSpec.ofChange netKnownSpec)) netKnownCard

/-- THE SECOND FORM's CARD OF 'milestonelaw06.GraphFirst'. -/
def graphFirstUptoCard : Claim7 := { stood := { row := graphFirstUptoRow, standIns := [], harness := (true, "e3cb26cde5bdc9e32b610e36eb4fc372a197e5534f79321d51ffcb0165723461"), looks := true }, kinds := [], alts := [], laidByText := true, laidKinds := [.handle], laidTests := true, laidLooks := .later }
def GraphFirstUptoCardSaid : Prop := Claim7.holds Tryd.pinned (.plain (OpenSpec.upto graphFirstSpec)) graphFirstUptoCard

/-- THE SECOND FORM's CARD OF 'milestonelaw06.GraphTells'. -/
def graphTellsUptoCard : Claim7 := { stood := { row := graphTellsUptoRow, standIns := [], harness := (true, "e3cb26cde5bdc9e32b610e36eb4fc372a197e5534f79321d51ffcb0165723461"), looks := true }, kinds := [], alts := [], laidByText := true, laidKinds := [.handle], laidTests := true, laidLooks := .later }
def GraphTellsUptoCardSaid : Prop := Claim7.holds Tryd.pinned (.plain (OpenSpec.upto graphTellsSpec)) graphTellsUptoCard

/-- THE SECOND FORM's CARD OF 'milestonelaw06.GraphBack'. -/
def graphBackUptoCard : Claim7 := { stood := { row := graphBackUptoRow, standIns := [], harness := (true, "e3cb26cde5bdc9e32b610e36eb4fc372a197e5534f79321d51ffcb0165723461"), looks := true }, kinds := [], alts := [], laidByText := true, laidKinds := [.handle], laidTests := true, laidLooks := .later }
def GraphBackUptoCardSaid : Prop := Claim7.holds Tryd.pinned (.plain (OpenSpec.upto graphBackSpec)) graphBackUptoCard

/-- THE SECOND FORM's CARD OF 'milestonelaw06.GraphKnown'. -/
def graphKnownUptoCard : Claim7 := { stood := { row := graphKnownUptoRow, standIns := [], harness := (true, "e3cb26cde5bdc9e32b610e36eb4fc372a197e5534f79321d51ffcb0165723461"), looks := true }, kinds := [], alts := [], laidByText := true, laidKinds := [.handle], laidTests := true, laidLooks := .later }
def GraphKnownUptoCardSaid : Prop := Claim7.holds Tryd.pinned (.plain (OpenSpec.upto graphKnownSpec)) graphKnownUptoCard

/-- THE SECOND FORM's CARD OF 'milestonelaw07.NetOnce'. -/
def netOnceUptoCard : Claim7 := { stood := { row := netOnceUptoRow, standIns := [], harness := (true, "e3cb26cde5bdc9e32b610e36eb4fc372a197e5534f79321d51ffcb0165723461"), looks := true }, kinds := [], alts := [], laidByText := true, laidKinds := [.handle], laidTests := true, laidLooks := .later }
def NetOnceUptoCardSaid : Prop := Claim7.holds Tryd.pinned (.plain (OpenSpec.upto netOnceSpec)) netOnceUptoCard

/-- THE SECOND FORM's CARD OF 'milestonelaw07.NetTells'. -/
def netTellsUptoCard : Claim7 := { stood := { row := netTellsUptoRow, standIns := [], harness := (true, "e3cb26cde5bdc9e32b610e36eb4fc372a197e5534f79321d51ffcb0165723461"), looks := true }, kinds := [], alts := [], laidByText := true, laidKinds := [.handle], laidTests := true, laidLooks := .later }
def NetTellsUptoCardSaid : Prop := Claim7.holds Tryd.pinned (.plain (OpenSpec.upto netTellsSpec)) netTellsUptoCard

/-- THE SECOND FORM's CARD OF 'milestonelaw07.NetWrong'. -/
def netWrongUptoCard : Claim7 := { stood := { row := netWrongUptoRow, standIns := [], harness := (true, "e3cb26cde5bdc9e32b610e36eb4fc372a197e5534f79321d51ffcb0165723461"), looks := true }, kinds := [], alts := [], laidByText := true, laidKinds := [.handle], laidTests := true, laidLooks := .later }
def NetWrongUptoCardSaid : Prop := Claim7.holds Tryd.pinned (.plain (OpenSpec.upto netWrongSpec)) netWrongUptoCard

/-- THE SECOND FORM's CARD OF 'milestonelaw07.NetShares'. -/
def netSharesUptoCard : Claim7 := { stood := { row := netSharesUptoRow, standIns := [], harness := (true, "e3cb26cde5bdc9e32b610e36eb4fc372a197e5534f79321d51ffcb0165723461"), looks := true }, kinds := [], alts := [], laidByText := true, laidKinds := [.handle], laidTests := true, laidLooks := .later }
def NetSharesUptoCardSaid : Prop := Claim7.holds Tryd.pinned (.plain (OpenSpec.upto netSharesSpec)) netSharesUptoCard

/-- THE SECOND FORM's CARD OF 'milestonelaw07.NetKnown'. -/
def netKnownUptoCard : Claim7 := { stood := { row := netKnownUptoRow, standIns := [], harness := (true, "e3cb26cde5bdc9e32b610e36eb4fc372a197e5534f79321d51ffcb0165723461"), looks := true }, kinds := [], alts := [], laidByText := true, laidKinds := [.handle], laidTests := true, laidLooks := .later }
def NetKnownUptoCardSaid : Prop := Claim7.holds Tryd.pinned (.plain (OpenSpec.upto netKnownSpec)) netKnownUptoCard
end Rows
end Go.Proofs.YtnkcmlngoeofgaaDoor
