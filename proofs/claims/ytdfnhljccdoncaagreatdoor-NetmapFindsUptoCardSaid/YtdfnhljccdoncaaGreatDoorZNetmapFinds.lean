/- NetmapFinds is proved (Upto: what comes in is of bulk at most 1048576): each peer of a map that may be is found by its key and by each of its addresses, and nobody by others; any map, any address (the tied card). -/
import Derived.Test.YtdfnhljccdoncaaGreatDoorNbl
import Derived.Test.YtdfnhljccdoncaaGreatDoorNbm
import Derived.Test.YtdfnhljccdoncaaGreatDoorNbn
import Derived.Test.YtdfnhljccdoncaaGreatDoorNbo
set_option linter.unusedVariables false
set_option linter.unusedSimpArgs false
set_option maxHeartbeats 16000000
set_option maxRecDepth 100000
namespace Go.Proofs.YtdfnhljccdoncaaGreatDoor.netmapFinds
open Go.ChangeShapes Go.WideShapes Go.ChangeAt Go.RowKit
theorem proved:Rows.NetmapFindsUptoCardSaid:=Claim7.holds_tied_plain_at .later [] [.data,.data,.data,.data,.sentinel,.sentinel,.data,.pinned] true (true,"0f32481d1fff28832fd141eda7792af9bcb8556974367147ae21d35b9a8a9d6a") true over (fun _ h=>by cases h) bJ (fun _ h=>by cases h) netmapFindsUpto_row_tie rfl ⟨rfl,rfl⟩ Zf rfl
 (fun f fn hf hfn=>by
   obtain rfl:f=4:=Option.some.inj ((show Tryz.prog.funcNamed "isthmus/isthmuslaw22.NetmapFinds" =some 4 by kernel_rfl).symm.trans hf)|>.symm;obtain rfl:fn=Tryz.f4:=(Option.some.inj (Tryz.func4.symm.trans hfn)).symm;exact⟨Zd,fun j t ht=>by
    rw[Tryz.params4]at ht;have hm:t∈[26,44]:=by simpa using Array.mem_of_getElem? ht
    have hall:([26,44].all fun u=> !Tryz.prog.wantsStandIn u)=true:=by kernel_rfl
    exact(show Tryz.prog.wantsStandIn t=false by simpa using List.all_eq_true.1 hall t hm)⟩)
 Ze
#print axioms proved
end Go.Proofs.YtdfnhljccdoncaaGreatDoor.netmapFinds
