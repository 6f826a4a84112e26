/- Joined out of: FcJ. -/
import Derived.Test.YtdfnhljccdoncaaGreatDoorNay
import Derived.Deep.DeepHandedRow
set_option linter.unusedVariables false
set_option linter.unusedSimpArgs false
set_option maxHeartbeats 16000000
set_option maxRecDepth 100000
namespace Go.Proofs.YtdfnhljccdoncaaGreatDoor.netmapFinds
open Go.ChangeShapes Go.WideShapes Go.ChangeAt Go.RowKit
theorem Zf:Tryz.prog.mainIs=some (true,"0f32481d1fff28832fd141eda7792af9bcb8556974367147ae21d35b9a8a9d6a".toList):=by kernel_rfl
end Go.Proofs.YtdfnhljccdoncaaGreatDoor.netmapFinds
