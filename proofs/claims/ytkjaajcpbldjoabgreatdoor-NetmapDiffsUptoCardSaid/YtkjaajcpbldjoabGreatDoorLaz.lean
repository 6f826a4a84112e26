/- Joined out of: DmB. -/
import Derived.Test.YtkjaajcpbldjoabGreatDoorLaq
import Derived.Test.YtkjaajcpbldjoabGreatDoorLay
set_option linter.unusedVariables false
set_option linter.unusedSimpArgs false
set_option maxHeartbeats 16000000
set_option maxRecDepth 100000
namespace Go.Proofs.YtkjaajcpbldjoabGreatDoor.netmapDiffs
open Go.ChangeShapes Go.WideShapes Go.ChangeAt Go.RowKit
theorem over:Rows.netmapDiffsUptoRow.holds Tryz.pinned (Rows.OpenSpec.upto Rows.netmapDiffsSpec):=OpenClaim.holds_of_cond 3 Tryz.f3 rfl rfl rfl rfl rfl rfl rfl ⟨rfl,rfl,rfl,rfl,rfl⟩ rfl rfl rfl rfl rfl bo Tryz.func3 closed
 (of_decide_eq_true bo) (by unfold Func.isWrapper;first|(rw[if_pos (by decide+kernel)];kernel_rfl)|(rw[if_neg (by decide+kernel)];exact⟨rfl,rfl⟩))
 (fun os started H enc _ F=>by rw[OpenClaim.pre_eq_preRow];exact lifted os started H enc F)
end Go.Proofs.YtkjaajcpbldjoabGreatDoor.netmapDiffs
