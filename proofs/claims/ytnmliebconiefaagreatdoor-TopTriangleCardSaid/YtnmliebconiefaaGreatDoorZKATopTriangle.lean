/- TopTriangle: closed facts of its row, part A; no conditions. -/
import Derived.Test.YtnmliebconiefaaGreatDoorCards
import Derived.Test.YtnmliebconiefaaGreatDoorTie
import Derived.SevenTiedAt
import Derived.ChangeSame
import Derived.ChangeVars
import Derived.JoinedOf
import Derived.RowKit
import Derived.LaidLaws
import Derived.LaidHandle
import Derived.Stop.Joined
import Derived.Test.YtnmliebconiefaaGreatDoorQ05
namespace Go.Proofs.YtnmliebconiefaaGreatDoor.lawTopTriangle
open Go.ChangeShapes Go.WideShapes Go.ChangeAt Go.RowKit
open Go.ChangeMaps (open_string)
theorem k0 : (Rows.topTriangleRow.wf (OpenSpec.ofChange Rows.topTriangleSpec)) = true := by kernel_rfl
theorem k1 : (laidOutB Tryz.pinned.checked.prog) = true := by kernel_rfl
theorem k2 : (mapsRowed Tryz.pinned.checked.prog) = true := by kernel_rfl
theorem k3 : (Tryz.f3.params.all (Tryz.pinned.checked.prog.readableRec ·)) = true := by kernel_rfl
theorem k4 : (namedTie Tryz.pinned.checked.prog Rows.topTriangleRow.named Rows.topTriangleSpec.vars) = true := by kernel_rfl
theorem k5 : ((Rows.topTriangleRow.stops == [])) = true := by kernel_rfl
theorem k6 : ((Tryz.pinned.checked.prog.stops == [])) = true := by kernel_rfl
theorem k7 : ((Rows.topTriangleRow.knobs == [])) = true := by kernel_rfl
theorem k8 : ((Tryz.pinned.checked.prog.stopKnobs == [])) = true := by kernel_rfl
end Go.Proofs.YtnmliebconiefaaGreatDoor.lawTopTriangle
