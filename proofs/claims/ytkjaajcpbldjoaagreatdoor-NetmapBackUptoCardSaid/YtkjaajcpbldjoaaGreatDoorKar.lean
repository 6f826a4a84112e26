/- Joined out of: BcA. -/
import Derived.Test.YtkjaajcpbldjoaaGreatDoorKam
import Derived.Deep.DeepHandedRow
set_option linter.unusedVariables false
set_option linter.unusedSimpArgs false
set_option maxHeartbeats 16000000
set_option maxRecDepth 100000
namespace Go.Proofs.YtkjaajcpbldjoaaGreatDoor.netmapBack
open Go.ChangeShapes Go.WideShapes Go.ChangeAt Go.RowKit
theorem aa0:(Rows.netmapBackUptoRow.inPlace==Tryz.prog.inPlace 3)=true:=by kernel_rfl
end Go.Proofs.YtkjaajcpbldjoaaGreatDoor.netmapBack
