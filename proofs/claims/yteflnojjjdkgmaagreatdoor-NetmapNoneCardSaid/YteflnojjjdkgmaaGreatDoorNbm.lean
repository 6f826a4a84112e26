/- Joined out of: GcI. -/
import Derived.Test.YteflnojjjdkgmaaGreatDoorNay
import Derived.Deep.DeepHandedRow
set_option linter.unusedVariables false
set_option linter.unusedSimpArgs false
set_option maxHeartbeats 16000000
set_option maxRecDepth 100000
namespace Go.Proofs.YteflnojjjdkgmaaGreatDoor.netmapNone
open Go.ChangeShapes Go.WideShapes Go.ChangeAt Go.RowKit
theorem Yh:false=Rows.netmapNoneRow.goesBy Tryz.prog:=by kernel_rfl
end Go.Proofs.YteflnojjjdkgmaaGreatDoor.netmapNone
