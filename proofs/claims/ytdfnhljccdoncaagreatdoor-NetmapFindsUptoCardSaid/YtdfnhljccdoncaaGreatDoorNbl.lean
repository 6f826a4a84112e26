/- Joined out of: FmB. -/
import Derived.Test.YtdfnhljccdoncaaGreatDoorNbc
import Derived.Test.YtdfnhljccdoncaaGreatDoorNbk
set_option linter.unusedVariables false
set_option linter.unusedSimpArgs false
set_option maxHeartbeats 16000000
set_option maxRecDepth 100000
namespace Go.Proofs.YtdfnhljccdoncaaGreatDoor.netmapFinds
open Go.ChangeShapes Go.WideShapes Go.ChangeAt Go.RowKit
theorem over:Rows.netmapFindsUptoRow.holds Tryz.pinned (Rows.OpenSpec.upto Rows.netmapFindsSpec):=OpenClaim.holds_of_cond 4 Tryz.f4 rfl rfl rfl rfl rfl rfl rfl ⟨rfl,rfl,rfl,rfl,rfl⟩ rfl rfl rfl rfl rfl bJ Tryz.func4 closed
 (of_decide_eq_true bJ) (by unfold Func.isWrapper;first|(rw[if_pos (by decide+kernel)];kernel_rfl)|(rw[if_neg (by decide+kernel)];exact⟨rfl,rfl⟩))
 (fun os started H enc _ F=>by rw[OpenClaim.pre_eq_preRow];exact lifted os started H enc F)
end Go.Proofs.YtdfnhljccdoncaaGreatDoor.netmapFinds
