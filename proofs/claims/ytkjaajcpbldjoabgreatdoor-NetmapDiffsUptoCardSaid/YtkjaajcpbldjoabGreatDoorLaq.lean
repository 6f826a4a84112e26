/- Joined out of: DmA. -/
import Derived.Test.YtkjaajcpbldjoabGreatDoorLap
import Derived.Deep.DeepHandedRow
set_option linter.unusedVariables false
set_option linter.unusedSimpArgs false
set_option maxHeartbeats 16000000
set_option maxRecDepth 100000
open Go.Proofs.Tryz renaming prog→ah
namespace Go.Proofs.YtkjaajcpbldjoabGreatDoor.netmapDiffs
open Go.ChangeShapes Go.WideShapes Go.ChangeAt Go.RowKit
open Go.ChangeMaps (open_string shut_string)
theorem witness{C:Checked}{os:Os}{H:Type}{enc:TypeId×Value→H}{f:FuncId}{fn:Func}{s:OpenSpec}{k:(H:Type)→List (DataW H)→Bool}(hk:s.cond=some k){conds:List PathCond}{apart:Bool}{laid:List (String×DataW Unit)}(modest:Bool)(w0:World)(args:Array Value)(fuel:Nat)(hos:w0.os=os)(hsh:(w0.forCall (fun _ _=>0) ⟨#[],args,[]⟩).Shaped C.prog)(hok:Input.okWideB C.prog (w0.forCall (fun _ _=>0) ⟨#[],args,[]⟩) f ⟨#[],args,[]⟩=true){x:List (DataW H)×List (DataW H)×List MemPlace}(hx:DataW.whole enc C.prog (w0.forCall (fun _ _=>0) ⟨#[],args,[]⟩).memory fn.params.toList s.vars apart args.toList fuel=some x)(hconds:conds.all (PathCond.test C.prog ⟨fn.params.toList,x.1,s.bare.plain.varTypes C.prog,x.2.1⟩)=true)(hkk:k H (x.1++x.2.1)=true)(hsz:s.bare.sizedB enc C.prog fn apart (w0.forCall (fun _ _=>0) ⟨#[],args,[]⟩).memory args fuel=true)(hl:laidMetH C.prog laid (w0.forCall (fun _ _=>0) ⟨#[],args,[]⟩).memory):∃(w:World)(tape:Tape)(i:Input),w.os=os∧(w.forCall tape i).Shaped C.prog∧i.vars=[]∧Input.okWide C.prog (w.forCall tape i) .any w.heap.size f i∧s.preRow enc C.prog fn conds apart laid (w.forCall tape i).memory i.args∧({modest:=modest}:Assume).holds C.prog (lone (Frame.enter C.prog f i.args .normal) [] (w.forCall tape i)):=⟨w0,fun _ _=>0,⟨#[],args,[]⟩,hos,hsh,(Input.okWide_of_okWideB (base:=0) hok).1,(Input.okWide_of_okWideB hok).2,⟨⟨(OpenSpec.pre_some hk conds apart _ _).2 ⟨x.1,x.2.1,x.2.2,DataW.Whole_of_whole hx,hconds,hkk⟩,hl⟩,sizedMet_of_sizedB hsz⟩,by
 simp only[Assume.holds];exact⟨by simp,by simp,fun _=>Modest.zero,by simp,by simp⟩⟩
theorem lifted(os:Os)(started:os.Started)(H:Type)(enc:TypeId×Value→H)(F:Stop.Interp):ReturnsInHanded {} Tryz.checked os 3 .any ((Rows.OpenSpec.upto Rows.netmapDiffsSpec).preRow enc ah Tryz.f3 Rows.netmapDiffsUptoRow.domain false Rows.netmapDiffsUptoRow.laid) (((Rows.OpenSpec.upto Rows.netmapDiffsSpec).at F).post enc ah Tryz.f3 false true false false):=by
 refine returnsInHanded_of_row (C:=Tryz.checked) (s:=Rows.OpenSpec.upto Rows.netmapDiffsSpec) own started bo Tryz.func3
  (witness (enc:=enc) (C:=Tryz.checked) (os:=os) (s:=Rows.OpenSpec.upto Rows.netmapDiffsSpec) (k:=Rows.uptoSmall) rfl false (World.laidAll ah os rY) #[.agg #[.int .u64 0,au,au,aG],.agg #[.int .u64 0,au,au,aG]] 8 (World.laidAll_os _ _ _)
    (World.shaped_of_ZipB bo bo) bo (x:=([.agg [.lit (.int .u64 0),.nil,.nil,.lit (.string [])],.agg [.lit (.int .u64 0),.nil,.nil,.lit (.string [])]],[],[])) bo bo bo (by kernel_rfl)
    (by rw[show Rows.netmapDiffsUptoRow.laid=rY by rfl,MakeChecks.laidMetH_plain _ _ _ bo];exact laidMet_laidAll _ bo bo)) ?_
 intro W base args ds gs before hval0 hW _ hk _ hL hsh _;have hval:∀(j:Nat)t v,Tryz.f3.params[j]? =some t→args[j]? =some v→Value.okWide ah W .any base t v:=hval0;have hkk:Rows.uptoSmall H (ds++gs)=true:=hk _ rfl;have hW':=hW;obtain⟨p,q,hA0,hV,rfl,_,_⟩:=hW;have hA:DataW.TrodAll enc ah W 0 (fun _=>true) true Tryz.f3.params.toList args.toList ds p:=hA0;rw[Tryz.params3]at hA hval;obtain⟨v0,vs0,d0,ds0,p0,q0,hargs,rfl,rfl,h0,r0⟩:=trodAll_cons hA;obtain⟨v1,vs1,d1,ds1,p1,q1,rfl,rfl,rfl,h1,r1⟩:=trodAll_cons r0;obtain⟨rfl,rfl,rfl⟩:=trodAll_nil r1;obtain rfl:args= #[v0,v1]:=by cases args;simp_all
 obtain⟨rfl,rfl⟩:=trodVars_none hV;have hbk:Rows.uptoBulkAll [d0,d1]≤1048576:=of_decide_eq_true hkk;simp only[Rows.uptoBulkAll]at hbk;obtain⟨m0,pv0,rv0,rfl,hp0,hr0,hf0,hs0⟩:=open_map (hval 0 26 v0 rfl rfl) h0 aR;have k0:=h0;have lt0:∀x∈p0,x.block<W.heap.size:=by obtain⟨m,hm⟩:=k0;exact DataW.trod_lt m _ _ _ hm
 obtain⟨m1,pv1,rv1,rfl,hp1,hr1,hf1,hs1⟩:=open_map (hval 1 26 v1 rfl rfl) h1 aR;have k1:=h1;have lt1:∀x∈p1,x.block<W.heap.size:=by obtain⟨m,hm⟩:=k1;exact DataW.trod_lt m _ _ _ hm
 refine(SI (acL hL hsh) (aaD hL) hp0 hr0 hf0 hs0 hp1 hr1 hf1 hs1).mono fun e W'⟨he,hb⟩=>?_
 subst he;exact⟨_,rfl,_,_,_,[],_,[],hW',trodAll_mk1 (shut_bool Tryz.underlying4 _),(trodAll_cons_mk (Below.trod laidOut bo (of_decide_eq_true bo) k0 hb lt0) (trodAll_cons_mk (Below.trod laidOut bo (of_decide_eq_true bo) k1 hb lt1) trodAll_mk0)),rfl,hb.frame _,fun h=>by cases h⟩
end Go.Proofs.YtkjaajcpbldjoabGreatDoor.netmapDiffs
