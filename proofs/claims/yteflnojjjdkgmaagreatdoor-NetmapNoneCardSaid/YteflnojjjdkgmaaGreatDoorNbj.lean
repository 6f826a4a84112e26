/- Joined out of: GmC. -/
import Derived.Test.YteflnojjjdkgmaaGreatDoorNbc
import Derived.Test.YteflnojjjdkgmaaGreatDoorNbd
import Derived.Test.YteflnojjjdkgmaaGreatDoorNbe
import Derived.Test.YteflnojjjdkgmaaGreatDoorNbf
import Derived.Test.YteflnojjjdkgmaaGreatDoorNbg
import Derived.Test.YteflnojjjdkgmaaGreatDoorNbh
import Derived.Test.YteflnojjjdkgmaaGreatDoorNbi
set_option linter.unusedVariables false
set_option linter.unusedSimpArgs false
set_option maxHeartbeats 16000000
set_option maxRecDepth 100000
open Bool renaming and_eq_true→aV
namespace Go.Proofs.YteflnojjjdkgmaaGreatDoor.netmapNone
open Go.ChangeShapes Go.WideShapes Go.ChangeAt Go.RowKit
theorem OV{a b:Bool}(ha:a=true)(hb:b=true):(a&&b)=true:=by rw[ha,hb];rfl
theorem closed:joinedFacts Tryz.prog 3 Tryz.f3 (OpenSpec.ofChange Rows.netmapNoneSpec).bare Rows.netmapNoneRow=true:=by
 unfold joinedFacts;have e:=Yd;rw[aV,aV]at e;have g:=Yf;rw[aV]at g
 repeat' with_reducible apply OV
 all_goals first|with_reducible exact X9|with_reducible exact Ya|with_reducible exact Yb|with_reducible exact Yc|with_reducible exact Ye|with_reducible exact e.1.1|with_reducible exact e.1.2|with_reducible exact e.2|with_reducible exact g.1|with_reducible exact g.2|kernel_rfl
end Go.Proofs.YteflnojjjdkgmaaGreatDoor.netmapNone
