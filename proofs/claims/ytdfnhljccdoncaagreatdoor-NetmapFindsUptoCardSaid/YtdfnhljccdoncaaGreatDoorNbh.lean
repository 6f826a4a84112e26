/- Joined out of: FcE. -/
import Derived.Test.YtdfnhljccdoncaaGreatDoorNay
import Derived.Deep.DeepHandedRow
set_option linter.unusedVariables false
set_option linter.unusedSimpArgs false
set_option maxHeartbeats 16000000
set_option maxRecDepth 100000
namespace Go.Proofs.YtdfnhljccdoncaaGreatDoor.netmapFinds
open Go.ChangeShapes Go.WideShapes Go.ChangeAt Go.RowKit
theorem Za:(Tryz.prog.stopsHeard&&Tryz.prog.mayEnter&&(Rows.netmapFindsUptoRow.lifted==Tryz.prog.liftsFinal))=true:=by kernel_rfl
end Go.Proofs.YtdfnhljccdoncaaGreatDoor.netmapFinds
