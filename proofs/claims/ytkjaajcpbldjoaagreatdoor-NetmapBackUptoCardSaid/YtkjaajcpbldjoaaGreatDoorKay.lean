/- Joined out of: BmC. -/
import Derived.Test.YtkjaajcpbldjoaaGreatDoorKar
import Derived.Test.YtkjaajcpbldjoaaGreatDoorKas
import Derived.Test.YtkjaajcpbldjoaaGreatDoorKat
import Derived.Test.YtkjaajcpbldjoaaGreatDoorKau
import Derived.Test.YtkjaajcpbldjoaaGreatDoorKav
import Derived.Test.YtkjaajcpbldjoaaGreatDoorKaw
import Derived.Test.YtkjaajcpbldjoaaGreatDoorKax
set_option linter.unusedVariables false
set_option linter.unusedSimpArgs false
set_option maxHeartbeats 16000000
set_option maxRecDepth 100000
open Bool renaming and_eq_true→aX
namespace Go.Proofs.YtkjaajcpbldjoaaGreatDoor.netmapBack
open Go.ChangeShapes Go.WideShapes Go.ChangeAt Go.RowKit
theorem SX{a b:Bool}(ha:a=true)(hb:b=true):(a&&b)=true:=by rw[ha,hb];rfl
theorem closed:joinedFacts Tryz.prog 3 Tryz.f3 (Rows.OpenSpec.upto Rows.netmapBackSpec).bare Rows.netmapBackUptoRow=true:=by
 unfold joinedFacts;have e:=aa4;rw[aX,aX]at e;have g:=aa6;rw[aX]at g
 repeat' with_reducible apply SX
 all_goals first|with_reducible exact aa0|with_reducible exact aa1|with_reducible exact aa2|with_reducible exact aa3|with_reducible exact aa5|with_reducible exact e.1.1|with_reducible exact e.1.2|with_reducible exact e.2|with_reducible exact g.1|with_reducible exact g.2|kernel_rfl
end Go.Proofs.YtkjaajcpbldjoaaGreatDoor.netmapBack
