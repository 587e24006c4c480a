/- TopMoved: for every input the law returns true; each argument reads behind the call as it read before. -/
import Derived.Test.YtnmliebconiefaaGreatDoorZLATopMoved
import Derived.Test.YtnmliebconiefaaGreatDoorZLBTopMoved
namespace Go.Proofs.YtnmliebconiefaaGreatDoor.lawTopMoved
open Go.ChangeShapes Go.WideShapes Go.ChangeAt Go.RowKit
open Go.ChangeMaps (open_string)
theorem row : Rows.TopMovedSaid :=
  OpenClaim.holds_of_wide 4 Tryz.f4 rfl rfl rfl rfl rfl rfl rfl ⟨rfl, rfl, rfl, rfl, rfl⟩ rfl rfl rfl rfl rfl funcAt Tryz.func4 closed inst wrap (fun os started H enc _ => lifted os started H enc)
theorem proved : Rows.TopMovedCardSaid :=
  Claim7.holds_tied_plain_at .later [] [.handle] true (true, "4d82fe35f6c9bb4c888267545629c57eb401f8a2eb7af5ad776c23b7a6ffb210") true
    row (fun _ h => by cases h) (by kernel_rfl) (fun _ h => by cases h) topMoved_row_tie rfl ⟨rfl, rfl⟩ (by kernel_rfl) rfl
    (fun f fn hf hfn => by
      obtain rfl : f = 4 := Option.some.inj ((show Tryz.prog.funcNamed "milestone/milestonetop.TopMoved" = some 4 by kernel_rfl).symm.trans hf) |>.symm
      obtain rfl : fn = Tryz.f4 := (Option.some.inj (Tryz.func4.symm.trans hfn)).symm
      exact ⟨by kernel_rfl, fun j t ht => by
        rw [Tryz.params4] at ht
        rcases j with _ | j
        · obtain rfl : t = 25 := by simpa using ht.symm
          exact (show Tryz.prog.wantsStandIn 25 = false by kernel_rfl)
        rcases j with _ | j
        · obtain rfl : t = 52 := by simpa using ht.symm
          exact (show Tryz.prog.wantsStandIn 52 = false by kernel_rfl)
        rcases j with _ | j
        · obtain rfl : t = 26 := by simpa using ht.symm
          exact (show Tryz.prog.wantsStandIn 26 = false by kernel_rfl)
        simp at ht⟩)
    (by kernel_rfl)
end Go.Proofs.YtnmliebconiefaaGreatDoor.lawTopMoved
