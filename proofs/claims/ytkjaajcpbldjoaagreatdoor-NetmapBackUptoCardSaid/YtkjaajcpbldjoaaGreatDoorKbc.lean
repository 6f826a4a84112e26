/- Joined out of: BcJ. -/
import Derived.Test.YtkjaajcpbldjoaaGreatDoorKam
import Derived.Deep.DeepHandedRow
set_option linter.unusedVariables false
set_option linter.unusedSimpArgs false
set_option maxHeartbeats 16000000
set_option maxRecDepth 100000
namespace Go.Proofs.YtkjaajcpbldjoaaGreatDoor.netmapBack
open Go.ChangeShapes Go.WideShapes Go.ChangeAt Go.RowKit
theorem aa9:Tryz.prog.mainIs=some (true,"77b7ff4e373834766f406ea09969ee5d2e312f7029ce7f777ee1682f2f7e6e0e".toList):=by kernel_rfl
end Go.Proofs.YtkjaajcpbldjoaaGreatDoor.netmapBack
