/- Joined out of: BcI. -/
import Derived.Test.YtkjaajcpbldjoaaGreatDoorKam
import Derived.Deep.DeepHandedRow
set_option linter.unusedVariables false
set_option linter.unusedSimpArgs false
set_option maxHeartbeats 16000000
set_option maxRecDepth 100000
namespace Go.Proofs.YtkjaajcpbldjoaaGreatDoor.netmapBack
open Go.ChangeShapes Go.WideShapes Go.ChangeAt Go.RowKit
theorem aa8:false=Rows.netmapBackUptoRow.goesBy Tryz.prog:=by kernel_rfl
end Go.Proofs.YtkjaajcpbldjoaaGreatDoor.netmapBack
