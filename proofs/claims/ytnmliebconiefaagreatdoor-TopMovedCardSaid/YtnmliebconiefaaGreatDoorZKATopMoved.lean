/- TopMoved: closed facts of its row, part A; no conditions. -/
import Derived.Test.YtnmliebconiefaaGreatDoorCards
import Derived.Test.YtnmliebconiefaaGreatDoorTie
import Derived.SevenTiedAt
import Derived.ChangeSame
import Derived.ChangeVars
import Derived.JoinedOf
import Derived.RowKit
import Derived.LaidLaws
import Derived.LaidHandle
import Derived.Stop.Joined
import Derived.Test.YtnmliebconiefaaGreatDoorQ05
namespace Go.Proofs.YtnmliebconiefaaGreatDoor.lawTopMoved
open Go.ChangeShapes Go.WideShapes Go.ChangeAt Go.RowKit
open Go.ChangeMaps (open_string)
theorem k0 : (Rows.topMovedRow.wf (OpenSpec.ofChange Rows.topMovedSpec)) = true := by kernel_rfl
theorem k1 : (laidOutB Tryz.pinned.checked.prog) = true := by kernel_rfl
theorem k2 : (mapsRowed Tryz.pinned.checked.prog) = true := by kernel_rfl
theorem k3 : (Tryz.f4.params.all (Tryz.pinned.checked.prog.readableRec ·)) = true := by kernel_rfl
theorem k4 : (namedTie Tryz.pinned.checked.prog Rows.topMovedRow.named Rows.topMovedSpec.vars) = true := by kernel_rfl
theorem k5 : ((Rows.topMovedRow.stops == [])) = true := by kernel_rfl
theorem k6 : ((Tryz.pinned.checked.prog.stops == [])) = true := by kernel_rfl
theorem k7 : ((Rows.topMovedRow.knobs == [])) = true := by kernel_rfl
theorem k8 : ((Tryz.pinned.checked.prog.stopKnobs == [])) = true := by kernel_rfl
end Go.Proofs.YtnmliebconiefaaGreatDoor.lawTopMoved
