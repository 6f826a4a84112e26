/- Joined out of: DmC. -/
import Derived.Test.YtkjaajcpbldjoabGreatDoorLar
import Derived.Test.YtkjaajcpbldjoabGreatDoorLas
import Derived.Test.YtkjaajcpbldjoabGreatDoorLat
import Derived.Test.YtkjaajcpbldjoabGreatDoorLau
import Derived.Test.YtkjaajcpbldjoabGreatDoorLav
import Derived.Test.YtkjaajcpbldjoabGreatDoorLaw
import Derived.Test.YtkjaajcpbldjoabGreatDoorLax
set_option linter.unusedVariables false
set_option linter.unusedSimpArgs false
set_option maxHeartbeats 16000000
set_option maxRecDepth 100000
open Bool renaming and_eq_true→aU
namespace Go.Proofs.YtkjaajcpbldjoabGreatDoor.netmapDiffs
open Go.ChangeShapes Go.WideShapes Go.ChangeAt Go.RowKit
theorem Tz{a b:Bool}(ha:a=true)(hb:b=true):(a&&b)=true:=by rw[ha,hb];rfl
theorem closed:joinedFacts Tryz.prog 3 Tryz.f3 (Rows.OpenSpec.upto Rows.netmapDiffsSpec).bare Rows.netmapDiffsUptoRow=true:=by
 unfold joinedFacts;have e:=aa9;rw[aU,aU]at e;have g:=abd;rw[aU]at g
 repeat' with_reducible apply Tz
 all_goals first|with_reducible exact aa5|with_reducible exact aa6|with_reducible exact aa7|with_reducible exact aa8|with_reducible exact abb|with_reducible exact e.1.1|with_reducible exact e.1.2|with_reducible exact e.2|with_reducible exact g.1|with_reducible exact g.2|kernel_rfl
end Go.Proofs.YtkjaajcpbldjoabGreatDoor.netmapDiffs
