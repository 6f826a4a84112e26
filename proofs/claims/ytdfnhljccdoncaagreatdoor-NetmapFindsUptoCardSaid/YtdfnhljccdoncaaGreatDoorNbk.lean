/- Joined out of: FmC. -/
import Derived.Test.YtdfnhljccdoncaaGreatDoorNbd
import Derived.Test.YtdfnhljccdoncaaGreatDoorNbe
import Derived.Test.YtdfnhljccdoncaaGreatDoorNbf
import Derived.Test.YtdfnhljccdoncaaGreatDoorNbg
import Derived.Test.YtdfnhljccdoncaaGreatDoorNbh
import Derived.Test.YtdfnhljccdoncaaGreatDoorNbi
import Derived.Test.YtdfnhljccdoncaaGreatDoorNbj
set_option linter.unusedVariables false
set_option linter.unusedSimpArgs false
set_option maxHeartbeats 16000000
set_option maxRecDepth 100000
open Bool renaming and_eq_true→bg
namespace Go.Proofs.YtdfnhljccdoncaaGreatDoor.netmapFinds
open Go.ChangeShapes Go.WideShapes Go.ChangeAt Go.RowKit
theorem PW{a b:Bool}(ha:a=true)(hb:b=true):(a&&b)=true:=by rw[ha,hb];rfl
theorem closed:joinedFacts Tryz.prog 4 Tryz.f4 (Rows.OpenSpec.upto Rows.netmapFindsSpec).bare Rows.netmapFindsUptoRow=true:=by
 unfold joinedFacts;have e:=Za;rw[bg,bg]at e;have g:=Zc;rw[bg]at g
 repeat' with_reducible apply PW
 all_goals first|with_reducible exact Y6|with_reducible exact Y7|with_reducible exact Y8|with_reducible exact Y9|with_reducible exact Zb|with_reducible exact e.1.1|with_reducible exact e.1.2|with_reducible exact e.2|with_reducible exact g.1|with_reducible exact g.2|kernel_rfl
end Go.Proofs.YtdfnhljccdoncaaGreatDoor.netmapFinds
