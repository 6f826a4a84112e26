/- Joined out of: DcH. -/
import Derived.Test.YtkjaajcpbldjoabGreatDoorLam
import Derived.Deep.DeepHandedRow
set_option linter.unusedVariables false
set_option linter.unusedSimpArgs false
set_option maxHeartbeats 16000000
set_option maxRecDepth 100000
namespace Go.Proofs.YtkjaajcpbldjoabGreatDoor.netmapDiffs
open Go.ChangeShapes Go.WideShapes Go.ChangeAt Go.RowKit
theorem abe:true=Tryz.prog.looks []:=by kernel_rfl
end Go.Proofs.YtkjaajcpbldjoabGreatDoor.netmapDiffs
