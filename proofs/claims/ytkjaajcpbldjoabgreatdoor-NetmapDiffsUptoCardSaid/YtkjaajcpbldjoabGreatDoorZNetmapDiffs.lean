/- NetmapDiffs is proved, where what comes in is of bulk at most 1048576: what is new from one map to another one makes the other one of it, also when it has gone as bytes, and it is only what differs. Any two maps of that bulk -/
import Derived.Test.YtkjaajcpbldjoabGreatDoorLaz
import Derived.Test.YtkjaajcpbldjoabGreatDoorLba
import Derived.Test.YtkjaajcpbldjoabGreatDoorLbb
import Derived.Test.YtkjaajcpbldjoabGreatDoorLbc
set_option linter.unusedVariables false
set_option linter.unusedSimpArgs false
set_option maxHeartbeats 16000000
set_option maxRecDepth 100000
namespace Go.Proofs.YtkjaajcpbldjoabGreatDoor.netmapDiffs
open Go.ChangeShapes Go.WideShapes Go.ChangeAt Go.RowKit
theorem proved:Rows.NetmapDiffsUptoCardSaid:=Claim7.holds_tied_plain_at .later [] [.data,.data,.data,.data,.sentinel,.sentinel,.data,.pinned] true (true,"31db553d4b9b0f2c29219200abb6b1e4ee345a36942dd5a2198528949063cc95") true over (fun _ h=>by cases h) bo (fun _ h=>by cases h) netmapDiffsUpto_row_tie rfl ⟨rfl,rfl⟩ abg rfl
 (fun f fn hf hfn=>by
   obtain rfl:f=3:=Option.some.inj ((show Tryz.prog.funcNamed "isthmus/isthmuslaw22.NetmapDiffs" =some 3 by kernel_rfl).symm.trans hf)|>.symm;obtain rfl:fn=Tryz.f3:=(Option.some.inj (Tryz.func3.symm.trans hfn)).symm;exact⟨abe,fun j t ht=>by
    rw[Tryz.params3]at ht;have hm:t∈[26,26]:=by simpa using Array.mem_of_getElem? ht
    have hall:([26,26].all fun u=> !Tryz.prog.wantsStandIn u)=true:=by kernel_rfl
    exact(show Tryz.prog.wantsStandIn t=false by simpa using List.all_eq_true.1 hall t hm)⟩)
 abf
#print axioms proved
end Go.Proofs.YtkjaajcpbldjoabGreatDoor.netmapDiffs
