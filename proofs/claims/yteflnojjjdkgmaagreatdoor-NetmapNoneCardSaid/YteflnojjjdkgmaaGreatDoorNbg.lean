/- Joined out of: GcE. -/
import Derived.Test.YteflnojjjdkgmaaGreatDoorNay
import Derived.Deep.DeepHandedRow
set_option linter.unusedVariables false
set_option linter.unusedSimpArgs false
set_option maxHeartbeats 16000000
set_option maxRecDepth 100000
namespace Go.Proofs.YteflnojjjdkgmaaGreatDoor.netmapNone
open Go.ChangeShapes Go.WideShapes Go.ChangeAt Go.RowKit
theorem Yd:(Tryz.prog.stopsHeard&&Tryz.prog.mayEnter&&(Rows.netmapNoneRow.lifted==Tryz.prog.liftsFinal))=true:=by kernel_rfl
end Go.Proofs.YteflnojjjdkgmaaGreatDoor.netmapNone
