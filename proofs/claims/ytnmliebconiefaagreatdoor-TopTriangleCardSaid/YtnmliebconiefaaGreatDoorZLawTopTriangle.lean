/- TopTriangle: for every input the law returns true; each argument reads behind the call as it read before. -/
import Derived.Test.YtnmliebconiefaaGreatDoorZLATopTriangle
import Derived.Test.YtnmliebconiefaaGreatDoorZLBTopTriangle
namespace Go.Proofs.YtnmliebconiefaaGreatDoor.lawTopTriangle
open Go.ChangeShapes Go.WideShapes Go.ChangeAt Go.RowKit
open Go.ChangeMaps (open_string)
theorem row : Rows.TopTriangleSaid :=
  OpenClaim.holds_of_wide 3 Tryz.f3 rfl rfl rfl rfl rfl rfl rfl ⟨rfl, rfl, rfl, rfl, rfl⟩ rfl rfl rfl rfl rfl funcAt Tryz.func3 closed inst wrap (fun os started H enc _ => lifted os started H enc)
theorem proved : Rows.TopTriangleCardSaid :=
  Claim7.holds_tied_plain_at .later [] [.handle] true (true, "4d82fe35f6c9bb4c888267545629c57eb401f8a2eb7af5ad776c23b7a6ffb210") true
    row (fun _ h => by cases h) (by kernel_rfl) (fun _ h => by cases h) topTriangle_row_tie rfl ⟨rfl, rfl⟩ (by kernel_rfl) rfl
    (fun f fn hf hfn => by
      obtain rfl : f = 3 := Option.some.inj ((show Tryz.prog.funcNamed "milestone/milestonetop.TopTriangle" = some 3 by kernel_rfl).symm.trans hf) |>.symm
      obtain rfl : fn = Tryz.f3 := (Option.some.inj (Tryz.func3.symm.trans hfn)).symm
      exact ⟨by kernel_rfl, fun j t ht => by
        rw [Tryz.params3] at ht
        rcases j with _ | j
        · obtain rfl : t = 25 := by simpa using ht.symm
          exact (show Tryz.prog.wantsStandIn 25 = false by kernel_rfl)
        rcases j with _ | j
        · obtain rfl : t = 26 := by simpa using ht.symm
          exact (show Tryz.prog.wantsStandIn 26 = false by kernel_rfl)
        rcases j with _ | j
        · obtain rfl : t = 26 := by simpa using ht.symm
          exact (show Tryz.prog.wantsStandIn 26 = false by kernel_rfl)
        simp at ht⟩)
    (by kernel_rfl)
end Go.Proofs.YtnmliebconiefaaGreatDoor.lawTopTriangle
