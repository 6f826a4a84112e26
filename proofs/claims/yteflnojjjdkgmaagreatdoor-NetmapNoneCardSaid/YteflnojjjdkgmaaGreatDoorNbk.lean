/- Joined out of: GmB. -/
import Derived.Test.YteflnojjjdkgmaaGreatDoorNbb
import Derived.Test.YteflnojjjdkgmaaGreatDoorNbj
set_option linter.unusedVariables false
set_option linter.unusedSimpArgs false
set_option maxHeartbeats 16000000
set_option maxRecDepth 100000
namespace Go.Proofs.YteflnojjjdkgmaaGreatDoor.netmapNone
open Go.ChangeShapes Go.WideShapes Go.ChangeAt Go.RowKit
theorem over:Rows.netmapNoneRow.holds Tryz.pinned (OpenSpec.ofChange Rows.netmapNoneSpec):=OpenClaim.holds_of_wide 3 Tryz.f3 rfl rfl rfl rfl rfl rfl rfl ⟨rfl,rfl,rfl,rfl,rfl⟩ rfl rfl rfl rfl rfl bg Tryz.func3 closed
 (of_decide_eq_true bg) (by unfold Func.isWrapper;first|(rw[if_pos (by decide+kernel)];kernel_rfl)|(rw[if_neg (by decide+kernel)];exact⟨rfl,rfl⟩))
 (fun os started H enc _=>lifted os started H enc)
end Go.Proofs.YteflnojjjdkgmaaGreatDoor.netmapNone
