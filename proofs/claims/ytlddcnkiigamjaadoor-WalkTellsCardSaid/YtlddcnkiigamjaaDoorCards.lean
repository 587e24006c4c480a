/-
  DERIVED. GIVEN WITH THE SEED: THE CARDS: each row of YtlddcnkiigamjaaDoorRows.lean that lists a variable, with what it lists TIED to the program's text (the seventh form; the later family's looks); each row that meets fmt, with fmt's text TOLD by the authors' own Lean function (tested against real Go, not proved from fmt's source: count such statements apart). THE CARD IS WHAT COUNTS. Prove the row's statement (the work); the ties are given (YtlddcnkiigamjaaDoorTie.lean); close each card by the builder's one call (the guide's Derived/Test/ToyasCard.lean, 'card_holds'). Laid BY PROGRAM, IN A SANDBOX (cutbox-door.mjs). By AI agents, Wed Nov 11 2026. No macro, syntax, notation, axiom, sorry.
-/
import Derived.Test.YtlddcnkiigamjaaDoorRows
import GoSem.ClaimSeven
namespace Go.Proofs.YtlddcnkiigamjaaDoor
namespace Rows

/-- THE TIED CARD OF 'milestonelaw21.GridOrder'. -/
def gridOrderCard : Claim7 := { stood := { row := gridOrderRow, standIns := [], harness := (true, "38c5868caeced93bedc909235f41f670091181e1ee4ccef218d9706d37776ab6"), looks := true }, kinds := [], alts := [], laidByText := true, laidKinds := [.handle], laidTests := true, laidLooks := .later }
def GridOrderCardSaid : Prop := Claim7.holds Tryd.pinned (.plain (OpenSpec.ofChange gridOrderSpec)) gridOrderCard

/-- THE TIED CARD OF 'milestonelaw21.GridKnown'. -/
def gridKnownCard : Claim7 := { stood := { row := gridKnownRow, standIns := [], harness := (true, "38c5868caeced93bedc909235f41f670091181e1ee4ccef218d9706d37776ab6"), looks := true }, kinds := [], alts := [], laidByText := true, laidKinds := [.handle], laidTests := true, laidLooks := .later }
def GridKnownCardSaid : Prop := Claim7.holds Tryd.pinned (.plain (OpenSpec.ofChange gridKnownSpec)) gridKnownCard

/-- THE TIED CARD OF 'milestonelaw09.WalkTells'. -/
def walkTellsCard : Claim7 := { stood := { row := walkTellsRow, standIns := [], harness := (true, "38c5868caeced93bedc909235f41f670091181e1ee4ccef218d9706d37776ab6"), looks := true }, kinds := [], alts := [], laidByText := true, laidKinds := [.handle], laidTests := true, laidLooks := .later }
def WalkTellsCardSaid : Prop := Claim7.holds Tryd.pinned (.plain (OpenSpec.ofChange walkTellsSpec)) walkTellsCard

/-- THE TIED CARD OF 'milestonelaw09.WalkBare'. -/
def walkBareCard : Claim7 := { stood := { row := walkBareRow, standIns := [], harness := (true, "38c5868caeced93bedc909235f41f670091181e1ee4ccef218d9706d37776ab6"), looks := true }, kinds := [], alts := [], laidByText := true, laidKinds := [.handle], laidTests := true, laidLooks := .later }
def WalkBareCardSaid : Prop := Claim7.holds Tryd.pinned (.plain (OpenSpec.ofChange walkBareSpec)) walkBareCard

/-- THE TIED CARD OF 'milestonelaw09.WalkJoins'. -/
def walkJoinsCard : Claim7 := { stood := { row := walkJoinsRow, standIns := [], harness := (true, "38c5868caeced93bedc909235f41f670091181e1ee4ccef218d9706d37776ab6"), looks := true }, kinds := [], alts := [], laidByText := true, laidKinds := [.handle], laidTests := true, laidLooks := .later }
def WalkJoinsCardSaid : Prop := Claim7.holds Tryd.pinned (.plain (OpenSpec.ofChange walkJoinsSpec)) walkJoinsCard

/-- THE TIED CARD OF 'milestonelaw09.WalkKnown'. -/
def walkKnownCard : Claim7 := { stood := { row := walkKnownRow, standIns := [], harness := (true, "38c5868caeced93bedc909235f41f670091181e1ee4ccef218d9706d37776ab6"), looks := true }, kinds := [], alts := [], laidByText := true, laidKinds := [.handle], laidTests := true, laidLooks := .later }
def WalkKnownCardSaid : Prop := Claim7.holds Tryd.pinned (.plain (OpenSpec.ofChange walkKnownSpec)) walkKnownCard

/-- THE TIED CARD OF 'milestonelaw09.WalkTurned'. -/
def walkTurnedCard : Claim7 := { stood := { row := walkTurnedRow, standIns := [], harness := (true, "38c5868caeced93bedc909235f41f670091181e1ee4ccef218d9706d37776ab6"), looks := true }, kinds := [], alts := [], laidByText := true, laidKinds := [.handle], laidTests := true, laidLooks := .later }
def WalkTurnedCardSaid : Prop := Claim7.holds Tryd.pinned (.plain (OpenSpec.ofChange walkTurnedSpec)) walkTurnedCard

/-- THE SECOND FORM's CARD OF 'milestonelaw21.GridOrder'. -/
def gridOrderUptoCard : Claim7 := { stood := { row := gridOrderUptoRow, standIns := [], harness := (true, "38c5868caeced93bedc909235f41f670091181e1ee4ccef218d9706d37776ab6"), looks := true }, kinds := [], alts := [], laidByText := true, laidKinds := [.handle], laidTests := true, laidLooks := .later }
def GridOrderUptoCardSaid : Prop := Claim7.holds Tryd.pinned (.plain (OpenSpec.upto gridOrderSpec)) gridOrderUptoCard

/-- THE SECOND FORM's CARD OF 'milestonelaw21.GridKnown'. -/
def gridKnownUptoCard : Claim7 := { stood := { row := gridKnownUptoRow, standIns := [], harness := (true, "38c5868caeced93bedc909235f41f670091181e1ee4ccef218d9706d37776ab6"), looks := true }, kinds := [], alts := [], laidByText := true, laidKinds := [.handle], laidTests := true, laidLooks := .later }
def GridKnownUptoCardSaid : Prop := Claim7.holds Tryd.pinned (.plain (OpenSpec.upto gridKnownSpec)) gridKnownUptoCard

/-- THE SECOND FORM's CARD OF 'milestonelaw09.WalkTells'. -/
def walkTellsUptoCard : Claim7 := { stood := { row := walkTellsUptoRow, standIns := [], harness := (true, "38c5868caeced93bedc909235f41f670091181e1ee4ccef218d9706d37776ab6"), looks := true }, kinds := [], alts := [], laidByText := true, laidKinds := [.handle], laidTests := true, laidLooks := .later }
def WalkTellsUptoCardSaid : Prop := Claim7.holds Tryd.pinned (.plain (OpenSpec.upto walkTellsSpec)) walkTellsUptoCard

/-- THE SECOND FORM's CARD OF 'milestonelaw09.WalkBare'. -/
def walkBareUptoCard : Claim7 := { stood := { row := walkBareUptoRow, standIns := [], harness := (true, "38c5868caeced93bedc909235f41f670091181e1ee4ccef218d9706d37776ab6"), looks := true }, kinds := [], alts := [], laidByText := true, laidKinds := [.handle], laidTests := true, laidLooks := .later }
def WalkBareUptoCardSaid : Prop := Claim7.holds Tryd.pinned (.plain (OpenSpec.upto walkBareSpec)) walkBareUptoCard

/-- THE SECOND FORM's CARD OF 'milestonelaw09.WalkJoins'. -/
def walkJoinsUptoCard : Claim7 := { stood := { row := walkJoinsUptoRow, standIns := [], harness := (true, "38c5868caeced93bedc909235f41f670091181e1ee4ccef218d9706d37776ab6"), looks := true }, kinds := [], alts := [], laidByText := true, laidKinds := [.handle], laidTests := true, laidLooks := .later }
def WalkJoinsUptoCardSaid : Prop := Claim7.holds Tryd.pinned (.plain (OpenSpec.upto walkJoinsSpec)) walkJoinsUptoCard

/-- THE SECOND FORM's CARD OF 'milestonelaw09.WalkKnown'. -/
def walkKnownUptoCard : Claim7 := { stood := { row := walkKnownUptoRow, standIns := [], harness := (true, "38c5868caeced93bedc909235f41f670091181e1ee4ccef218d9706d37776ab6"), looks := true }, kinds := [], alts := [], laidByText := true, laidKinds := [.handle], laidTests := true, laidLooks := .later }
def WalkKnownUptoCardSaid : Prop := Claim7.holds Tryd.pinned (.plain (OpenSpec.upto walkKnownSpec)) walkKnownUptoCard

/-- THE SECOND FORM's CARD OF 'milestonelaw09.WalkTurned'. -/
def walkTurnedUptoCard : Claim7 := { stood := { row := walkTurnedUptoRow, standIns := [], harness := (true, "38c5868caeced93bedc909235f41f670091181e1ee4ccef218d9706d37776ab6"), looks := true }, kinds := [], alts := [], laidByText := true, laidKinds := [.handle], laidTests := true, laidLooks := .later }
def WalkTurnedUptoCardSaid : Prop := Claim7.holds Tryd.pinned (.plain (OpenSpec.upto walkTurnedSpec)) walkTurnedUptoCard
end Rows
end Go.Proofs.YtlddcnkiigamjaaDoor
