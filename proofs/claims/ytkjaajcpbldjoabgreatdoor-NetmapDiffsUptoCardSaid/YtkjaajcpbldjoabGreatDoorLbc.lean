/- Joined out of: DcJ. -/
import Derived.Test.YtkjaajcpbldjoabGreatDoorLam
import Derived.Deep.DeepHandedRow
set_option linter.unusedVariables false
set_option linter.unusedSimpArgs false
set_option maxHeartbeats 16000000
set_option maxRecDepth 100000
namespace Go.Proofs.YtkjaajcpbldjoabGreatDoor.netmapDiffs
open Go.ChangeShapes Go.WideShapes Go.ChangeAt Go.RowKit
theorem abg:Tryz.prog.mainIs=some (true,"31db553d4b9b0f2c29219200abb6b1e4ee345a36942dd5a2198528949063cc95".toList):=by kernel_rfl
end Go.Proofs.YtkjaajcpbldjoabGreatDoor.netmapDiffs
