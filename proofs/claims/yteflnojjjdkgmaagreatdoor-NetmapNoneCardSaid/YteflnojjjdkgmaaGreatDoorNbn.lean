/- Joined out of: GcJ. -/
import Derived.Test.YteflnojjjdkgmaaGreatDoorNay
import Derived.Deep.DeepHandedRow
set_option linter.unusedVariables false
set_option linter.unusedSimpArgs false
set_option maxHeartbeats 16000000
set_option maxRecDepth 100000
namespace Go.Proofs.YteflnojjjdkgmaaGreatDoor.netmapNone
open Go.ChangeShapes Go.WideShapes Go.ChangeAt Go.RowKit
theorem Yi:Tryz.prog.mainIs=some (true,"adcff814d17cc362b7e9c17012b3c802dadbcecc7b83e04031ceb758e83c8da2".toList):=by kernel_rfl
end Go.Proofs.YteflnojjjdkgmaaGreatDoor.netmapNone
