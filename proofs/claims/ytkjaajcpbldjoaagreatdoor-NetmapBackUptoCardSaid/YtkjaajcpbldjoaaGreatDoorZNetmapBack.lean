/- NetmapBack is proved, where what comes in is of bulk at most 1048576: maps and deltas are read as they were written, and bytes that are read are written as themselves. Any map, any delta, any text of that bulk -/
import Derived.Test.YtkjaajcpbldjoaaGreatDoorKaz
import Derived.Test.YtkjaajcpbldjoaaGreatDoorKba
import Derived.Test.YtkjaajcpbldjoaaGreatDoorKbb
import Derived.Test.YtkjaajcpbldjoaaGreatDoorKbc
set_option linter.unusedVariables false
set_option linter.unusedSimpArgs false
set_option maxHeartbeats 16000000
set_option maxRecDepth 100000
namespace Go.Proofs.YtkjaajcpbldjoaaGreatDoor.netmapBack
open Go.ChangeShapes Go.WideShapes Go.ChangeAt Go.RowKit
theorem proved:Rows.NetmapBackUptoCardSaid:=Claim7.holds_tied_plain_at .later [] [.data,.data,.data,.data,.sentinel,.sentinel,.data,.pinned] true (true,"77b7ff4e373834766f406ea09969ee5d2e312f7029ce7f777ee1682f2f7e6e0e") true over (fun _ h=>by cases h) bo (fun _ h=>by cases h) netmapBackUpto_row_tie rfl ⟨rfl,rfl⟩ aa9 rfl
 (fun f fn hf hfn=>by
   obtain rfl:f=3:=Option.some.inj ((show Tryz.prog.funcNamed "isthmus/isthmuslaw22.NetmapBack" =some 3 by kernel_rfl).symm.trans hf)|>.symm;obtain rfl:fn=Tryz.f3:=(Option.some.inj (Tryz.func3.symm.trans hfn)).symm;exact⟨aa7,fun j t ht=>by
    rw[Tryz.params3]at ht;have hm:t∈[26,29,9]:=by simpa using Array.mem_of_getElem? ht
    have hall:([26,29,9].all fun u=> !Tryz.prog.wantsStandIn u)=true:=by kernel_rfl
    exact(show Tryz.prog.wantsStandIn t=false by simpa using List.all_eq_true.1 hall t hm)⟩)
 aa8
#print axioms proved
end Go.Proofs.YtkjaajcpbldjoaaGreatDoor.netmapBack
