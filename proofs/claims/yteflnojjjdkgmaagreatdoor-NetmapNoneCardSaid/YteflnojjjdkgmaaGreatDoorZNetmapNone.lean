/- NetmapNone: the tied card. -/
import Derived.Test.YteflnojjjdkgmaaGreatDoorNbk
import Derived.Test.YteflnojjjdkgmaaGreatDoorNbl
import Derived.Test.YteflnojjjdkgmaaGreatDoorNbm
import Derived.Test.YteflnojjjdkgmaaGreatDoorNbn
set_option linter.unusedVariables false
set_option linter.unusedSimpArgs false
set_option maxHeartbeats 16000000
set_option maxRecDepth 100000
namespace Go.Proofs.YteflnojjjdkgmaaGreatDoor.netmapNone
open Go.ChangeShapes Go.WideShapes Go.ChangeAt Go.RowKit
theorem proved:Rows.NetmapNoneCardSaid:=Claim7.holds_tied_plain_at .later [] [.data,.data,.data,.data,.sentinel,.sentinel,.data,.data,.pinned] true (true,"adcff814d17cc362b7e9c17012b3c802dadbcecc7b83e04031ceb758e83c8da2") true over (fun _ h=>by cases h) bg (fun _ h=>by cases h) netmapNone_row_tie rfl ⟨rfl,rfl⟩ Yi rfl
 (fun f fn hf hfn=>by
   obtain rfl:f=3:=Option.some.inj ((show Tryz.prog.funcNamed "isthmus/isthmuslaw22.NetmapNone" =some 3 by kernel_rfl).symm.trans hf)|>.symm;obtain rfl:fn=Tryz.f3:=(Option.some.inj (Tryz.func3.symm.trans hfn)).symm;exact⟨Yg,fun j t ht=>by
    rw[Tryz.params3]at ht;have hm:t∈[22,9]:=by simpa using Array.mem_of_getElem? ht
    have hall:([22,9].all fun u=> !Tryz.prog.wantsStandIn u)=true:=by kernel_rfl
    exact(show Tryz.prog.wantsStandIn t=false by simpa using List.all_eq_true.1 hall t hm)⟩)
 Yh
#print axioms proved
end Go.Proofs.YteflnojjjdkgmaaGreatDoor.netmapNone
