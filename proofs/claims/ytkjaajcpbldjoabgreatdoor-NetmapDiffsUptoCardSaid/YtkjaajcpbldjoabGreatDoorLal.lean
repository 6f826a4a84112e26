/- Joined out of: BhC BhD BhE BhF BhG EqA EqB. -/
import Derived.Test.YtkjaajcpbldjoabGreatDoorLak
import Derived.Laws.CopyRow
import Derived.Lib.SlBuf
set_option linter.unusedVariables false
set_option linter.unusedSimpArgs false
set_option maxHeartbeats 16000000
set_option maxRecDepth 100000
open Array renaming getElem?_toList→ahN,getElem?_eq_none→ahZ
open Bool renaming and_eq_true→aU,true_and→bV,eq_iff_iff→gW,false_and→uy,not_false→ahV,not_true→ah9
open Go.IntKind renaming wrap_u64→fl
open Go.Lib renaming hid→ae
open Go.Proofs.Tryz renaming prog→ah,underlying9→bq,underlying5→cD,underlying71→cT
open Go.Result renaming andThen_ok→kl
open Go.RowKit renaming Hid→ag
open Go.RowKit.Below renaming refl→aI
open Go.Sem renaming run_bind→ah0
open Go.Value renaming int→ahL
open Go.World renaming block_lt_of_cell?→ak
open List renaming getElem?_eq_getElem→af,length_append→aj,length_map→ay,take_succ_eq_append_getElem→aC,getD_eq_getElem?_getD→aE,range→aF,take_of_length_le→aN,replicate→aS,getElem?_map→bO,map_append→cL,mem_of_getElem?→iD,nil_append→lK,length_replicate→lM,getElem?_toArray→uz,take_zero→MJ,size_toArray→abh,take_succ_cons→ahg,drop_zero→ahh,drop_succ_cons→ahj
open Nat renaming le_trans→aw,le_refl→ax,zero_le→bj,add_zero→cq,add_assoc→jh,lt_of_lt_of_le→ahQ
open Option renaming bind_some→ahU
open UInt8 renaming ofNat→ah5
namespace Go.Proofs.YtkjaajcpbldjoabGreatDoor
open Go.RowKit
attribute [local go_sem↓] Go.wp_at_zero Go.wp_at_succ
theorem WA:cI il= #[.int .u32 1779033703,.int .u32 3144134277,.int .u32 1013904242,.int .u32 2773480762,.int .u32 1359893119,.int .u32 2600822924,.int .u32 528734635,.int .u32 1541459225]:=rfl
theorem first_any(w:World):Calls ah 172 #[] w fun r w'=>r=.returned (.agg #[.int .u32 1779033703,.int .u32 3144134277,.int .u32 1013904242,.int .u32 2773480762,.int .u32 1359893119,.int .u32 2600822924,.int .u32 528734635,.int .u32 1541459225])∧Below w.heap.size w w':=by
 go_enter Tryz.func172,Tryz.ntmps172;go_wp2_with fail
 have hB:=aH.new w 232 (cI il);exact bodyPost_ret (results_cell_row rfl _ _ w.heap.size 232 (cI il) (0,0) _ rfl hB Tryz.underlying232 rfl bo) rfl ⟨rfl,boxed w _⟩
def hsL(h:List Nat)(sz:Nat)(rv:Value)(n:Nat):List Value:=(h.map fun x:Nat=>ahL .u32 x)++[.int .i64 sz,rv,.int .u64 n]
def fV(w:World)(g:Nat)(h:List Nat)(sz:Nat)(rv:Value)(n:Nat):Prop:=aH w g 235 (hsL h sz rv n).toArray
theorem WB{h:List Nat}(hh:Ws 8 h){sz n:Nat}{rv:Value}{i:Nat}(hi:i<8):(hsL h sz rv n).toArray[i]? =some (.int .u32 (bR h i:Int)):=by
 have hl:i<h.length:=by rw[hh.len];exact hi
 unfold hsL bR;rw[uz,List.getElem?_append_left (by rw[ay];exact hl),bO,aE,af hl];rfl
theorem yI{h:List Nat}(hh:Ws 8 h){sz n:Nat}{rv:Value}(i:Nat):(hsL h sz rv n).toArray[8+i]? =[ahL .i64 sz,rv,.int .u64 n][i]? :=by
 unfold hsL;rw[uz,List.getElem?_append_right (by rw[ay,hh.len];omega),ay,hh.len,Nat.add_sub_cancel_left]
theorem N3{h:List Nat}(hh:Ws 8 h){sz n:Nat}{rv:Value}{i x:Nat}(hi:i<8):(hsL h sz rv n).toArray.setIfInBounds i (.int .u32 x)=(hsL (h.set i x) sz rv n).toArray:=by
 unfold hsL;rw[List.setIfInBounds_toArray,List.set_append_left _ _ (by rw[ay,hh.len];exact hi),List.map_set]
section
variable{w w':World}{g sz n:Nat}{h:List Nat}{rv:Value}
theorem fV.word(hg:fV w g h sz rv n)(hh:Ws 8 h){i:Nat}(hi:i<8):w.cell? ⟨g,i,none⟩=some (.int .u32 (bR h i:Int)):=by
 rw[aH.cell hg i];exact WB hh hi
theorem fV.size(hg:fV w g h sz rv n)(hh:Ws 8 h):w.cell? ⟨g,8,none⟩=some (.int .i64 sz):=by
 rw[aH.cell hg 8];exact yI hh 0
theorem fV.rest(hg:fV w g h sz rv n)(hh:Ws 8 h):w.cell? ⟨g,9,none⟩=some rv:=by
 rw[aH.cell hg 9];exact yI hh 1
theorem fV.num(hg:fV w g h sz rv n)(hh:Ws 8 h):w.cell? ⟨g,10,none⟩=some (.int .u64 n):=by
 rw[aH.cell hg 10];exact yI hh 2
end
def lG:Array Value:=(pL.flatten.map fun x:Nat=>ahL .u8 x).toArray
def fZ(w:World):Prop:=w.var? ah "isthmus/blake.orders" =some lG
theorem fZ.at_{w:World}(h:fZ w):∃t fr,w.heap[0]? =some (.cells lG t fr):=by
 unfold fZ World.var? at h;rw[show ah.globalNamed "isthmus/blake.orders" =some 0 by kernel_rfl,ahU]at h;split at h
 ·next cs t fr hc=>injection h with h;subst h;exact⟨t,fr,hc⟩
 ·cases h
theorem fZ.keep{S:Nat→Prop}{w w':World}(h:fZ w)(k:Keeps S w w')(hs:¬S 0):fZ w':=by
 obtain⟨t,fr,hc⟩:=h.at_;have hl:0<w.heap.size:=(Array.getElem?_eq_some_iff.1 hc).1;have h2:=k.block _ hl hs;unfold fZ World.var?;rw[show ah.globalNamed "isthmus/blake.orders" =some 0 by kernel_rfl,ahU,h2,hc]
theorem fZ.below{B:Nat}{w w':World}(h:fZ w)(k:Below B w w')(hs:0<B):fZ w':=by
 obtain⟨t,fr,hc⟩:=h.at_;have h2:=k.block _ hs;unfold fZ World.var?;rw[show ah.globalNamed "isthmus/blake.orders" =some 0 by kernel_rfl,ahU,h2,hc]
theorem fZ.lt{w:World}(h:fZ w):0<w.heap.size:=by
 obtain⟨t,fr,hc⟩:=h.at_;exact(Array.getElem?_eq_some_iff.1 hc).1
def cC(o:List Nat):Array Value:=(o.map fun x:Nat=>ahL .u8 x).toArray
theorem aaq{r:Nat}(hr:r<10):(pL.getD r []).length=16∧∀i,bR (pL.getD r []) i<16:=by
 have h:∀k:Fin 10,(pL.getD k []).length=16∧∀x∈pL.getD k [],x<16:=by decide+kernel
 obtain⟨h1,h2⟩:=h ⟨r,hr⟩;refine⟨h1,fun i=>?_⟩;unfold bR;rw[aE];rcases hi:(pL.getD r [])[i]? with _|x
 ·simp
 ·exact h2 x (iD hi)
theorem DW{w:World}{g:Nat}{t:TypeId}{o:List Nat}(ho:o.length=16)(hg:aH w g t (cC o)){i:Nat}(hi:i<16):w.cell? ⟨g,i,none⟩=some (.int .u8 (bR o i:Int)):=by
 rw[hg.cell i];unfold cC bR;rw[uz,bO,aE,af (by rw[ho];exact hi)];rfl
theorem vo{o:List Nat}(ho:o.length=16):(cC o).size=16:=by unfold cC;rw[abh,ay,ho]
theorem Lq(o:List Nat):(cC o).all (·.oneCell')=true:=by
 unfold cC;rw[List.all_toArray,List.all_map];exact List.all_eq_true.2 fun _ _=>rfl
theorem WC:(ah.info? 260).map (·.size)=some 16:=by kernel_rfl
theorem WE{w w0:World}{g:Nat}{t:TypeId}{v:List Nat}(hg:aH w g t (cI v))(hk:Keeps (fun k=>k=g) w0 w)(i x:Nat):aH (w.setCell ⟨g,i,none⟩ (.int .u32 x)) g t (cI (v.set i x))∧Keeps (fun k=>k=g) w0 (w.setCell ⟨g,i,none⟩ (.int .u32 x)):=by
 refine⟨?_,hk.setCell (p:=⟨g,i,none⟩) (Or.inl rfl) _⟩;rw[←yG];exact hg.aM i _
theorem kF{P:Program}{ops:Array Oper}{rest:List Oper}{o:Oper}{a:Act}{w w':World}{Q:Exit→Act→World→Prop}(hgd:o.guard=none)(s x:Operand)(t u:TypeId)(ho:o.op=.call {callee:=.builtin .copy,args:= #[s,x],argTypes:= #[t,u]}){v y v':Value}(hs:a.eval s=v)(hx:a.eval x=y)(hr:(Builtin.copy_ #[t,u] o.type #[v,y]).run P w=.ok v' w')(h:wpList P ops Q rest (a.put o.dst v') w'):wpList P ops Q (o::rest) a w:=wpList_plain hgd fun _ hK=>Lib.wp_copy_run w s x t u ho v y hs hx hr (hK _ _ h)
theorem WG:(ah.info? 173).map (·.size)=some 1:=by kernel_rfl
theorem N4(g j:Nat):(⟨g,0,none⟩:Addr).add j=⟨g,j,none⟩:=by unfold Addr.add;split<;>simp_all
theorem WH{w:World}{V g o dL dC sL sC:Nat}{t ty:TypeId}{v u:List Nat}(hV:aH w V t (cI v))(ho:o+u.length≤v.length)(hsrc:∀j,j<u.length→w.cell? ⟨g,j,none⟩=some (.int .u32 (bR u j:Int)))(hn:u.length=Nat.min sL dL):∃w',(Builtin.copy_ #[257,257] ty #[.slice (some ⟨V,o,none⟩) dL dC,.slice (some ⟨g,0,none⟩) sL sC]).run ah w=.ok (goInt u.length) w'∧aH w' V t (cI (v.take o++u++v.drop (o+u.length)))∧Keeps (fun k=>k=V) w w':=by
 have h:=run_copy_row (P:=ah) w 257 257 ty 173 V o dL dC ⟨g,0,none⟩ sL sC (cI v) t (u.map fun x:Nat=>ahL .u32 x) Tryz.underlying257 WG hV (by rw[ay];exact hn) (fun j x hx=>by
  rw[N4];have hj:j<u.length:=by
   have:=(List.getElem?_eq_some_iff.1 hx).1;rwa [ay]at this
  rw[bO,af hj]at hx;injection hx with hx
  subst hx;rw[hsrc j hj];unfold bR;rw[aE,af hj];rfl) (by rw[ay];unfold cI;rw[abh,ay];exact ho) (fun x hx=>by
  obtain⟨n,_,rfl⟩:=List.mem_map.1 hx;rfl)
 rw[ay]at h;refine⟨_,h,?_,⟨rfl,rfl,rfl,by rw[setRow_size];exact ax _,fun k _ hk=>setRow_other w V k _ hk⟩⟩;have e:((cI v).toList.take o++(u.map fun x:Nat=>ahL .u32 x)++(cI v).toList.drop (o+u.length)).toArray=cI (v.take o++u++v.drop (o+u.length)):=by
  unfold cI;rw[cL,cL,List.map_take,List.map_drop]
 rw[e];exact setRow_heap w V _ _ t (0,0) hV
theorem Lr{h:List Nat}(hh:h.length=8):(((aS 16 0).take 0++h++(aS 16 0).drop (0+h.length)).take 8++il++((aS 16 0).take 0++h++(aS 16 0).drop (0+h.length)).drop (8+il.length))=h++il:=by
 rw[MJ,lK,List.take_left' hh,List.drop_of_length_le (by simp[hh,il]),List.append_nil]
theorem WI:cI (aS 16 0)= #[.int .u32 0,.int .u32 0,.int .u32 0,.int .u32 0,.int .u32 0,.int .u32 0,.int .u32 0,.int .u32 0,.int .u32 0,.int .u32 0,.int .u32 0,.int .u32 0,.int .u32 0,.int .u32 0,.int .u32 0,.int .u32 0]:=rfl
def Rm(r:Nat):Array Value:=cC (pL.getD r [])
theorem WJ{r:Nat}(hr:r<10):lG.extract (r*16) (r*16+16)=Rm r:=by
 rcases(by omega:r=0∨r=1∨r=2∨r=3∨r=4∨r=5∨r=6∨r=7∨r=8∨r=9)with rfl|rfl|rfl|rfl|rfl|rfl|rfl|rfl|rfl|rfl<;>kernel_rfl
theorem zQ{r:Nat}(hr:r<10)(w:World):(Instr.index 261 (.agg lG) (.int .i64 r)).run ah w=.ok (.agg (Rm r)) w:=by
 have h1:(ah.info? 260).map (·.size)=some 16:=by kernel_rfl
 have h2:ah.underlying 261=some (.array 10 260):=by kernel_rfl
 have h3:ah.underlying 260=some (.array 16 5):=by kernel_rfl
 have hs:(sizeOf 260).run ah w=.ok 16 w:=by
  cases hq:ah.info? 260 with
  |none=>simp[hq]at h1
  |some i=>
   have h1:i.size=16:=by simpa[hq]using h1
   simp[sizeOf,typeInfo,hq,h1]
 have ha:(isAgg 260).run ah w=.ok true w:=by
  unfold isAgg;rw[ah0,run_underlying h3 w];rfl
 have hp:(part 260 lG (r*16)).run ah w=.ok (.agg (Rm r)) w:=by
  simp[part,ah0,ha,hs,WJ hr]
 have hb:(0:Int)≤(r:Int)∧(r:Int)<((10:Nat):Int):=by omega
 simp[Instr.index,asIntOf,ah0,run_underlying h2 w,hs,hr,hp]
theorem ud{ops:Array Oper}{rest:List Oper}{o:Oper}{a:Act}{w:World}{Q:Exit→Act→World→Prop}(hgd:o.guard=none)(x i:Operand)(ho:o.op=.index 261 x i){r:Nat}(hr:r<10){oc:Array Value}(hoc:oc=lG)(hx:a.eval x=.agg oc)(hi:a.eval i=.int .i64 r)(h:wpList ah ops Q rest (a.put o.dst (.agg (Rm r))) w):wpList ah ops Q (o::rest) a w:=wpList_plain hgd fun _ hK=>by
 unfold Oper.wp execOp;subst hoc;simp only[ho,hx,hi,ah0,zQ hr,kl];exact hK _ _ h
theorem aar{x:Nat}(hx:x<4294967296):4294967295^^^x=4294967295-x:=by
 have h:=congrArg BitVec.toNat (BitVec.allOnes_xor (x:=BitVec.ofNat 32 x));rw[BitVec.toNat_xor,BitVec.toNat_not,BitVec.toNat_ofNat,Nat.mod_eq_of_lt hx]at h;simpa using h
theorem agK{x:Nat}(hx:x<4294967296):bits .xor .u32 4294967295 (x:Int)=((4294967295-x:Nat):Int):=by
 rw[←aar hx];have:=u32_xor_nat 4294967295 x aJ hx;simpa using this
theorem zR(w:World):(Instr.alloc 260 true (.tuple #[])).run ah w=.ok (.pointer (some ⟨w.heap.size,0,none⟩)) (w.alloc (.cells (cC (aS 16 0)) 260)):=by
 kernel_rfl
theorem uf{ops:Array Oper}{rest:List Oper}{o:Oper}{a:Act}{w:World}{Q:Exit→Act→World→Prop}(hgd:o.guard=none)(ho:o.op=.alloc 260)(h:wpList ah ops Q rest (a.put o.dst (.pointer (some ⟨w.heap.size,0,none⟩))) (w.alloc (.cells (cC (aS 16 0)) 260))):wpList ah ops Q (o::rest) a w:=wpList_plain hgd fun _ hK=>by
 unfold Oper.wp execOp;simp only[ho,ah0,zR,kl];exact hK _ _ h
theorem aas{B:Nat}{w w0:World}(hB:Below B w0 w)(hle:B≤w.heap.size)(o:List Nat):aH ((w.alloc (.cells (cC (aS 16 0)) 260)).setRow w.heap.size (cC o)) w.heap.size 260 (cC o)∧Below w.heap.size w ((w.alloc (.cells (cC (aS 16 0)) 260)).setRow w.heap.size (cC o))∧Below B w0 ((w.alloc (.cells (cC (aS 16 0)) 260)).setRow w.heap.size (cC o)):=by
 have h1:Below w.heap.size w ((w.alloc (.cells (cC (aS 16 0)) 260)).setRow w.heap.size (cC o)):=⟨rfl,rfl,rfl,by rw[setRow_size];simp,fun k hk=>by rw[setRow_other _ _ _ _ aR];exact heap_alloc_old w _ hk⟩;exact⟨setRow_heap _ _ _ _ _ (0,0) (heap_alloc_new w _),h1,hB.trans (h1.mono hle)⟩
theorem Br{w:World}(ord:fZ w){g gp sz n cap:Nat}{h p:List Nat}{rv:Value}(hh:Ws 8 h)(hg:fV w g h sz rv n)(hn:n<18446744073709551616)(hp:∀i,i<64→w.cell? ⟨gp,i,none⟩=some (.int .u8 (bR p i:Int)))(hpb:∀i,bR p i<256)(hne:gp≠g)(hgo:g≠0)(last:Bool):Calls ah 173 #[.pointer (some ⟨g,0,none⟩),.slice (some ⟨gp,0,none⟩) 64 cap,.bool last] w fun r w'=>r=.returned (.tuple #[])∧fV w' g (pM h n p last) sz rv n∧Keeps (fun k=>k=g) w w':=by
 have hgl:g<w.heap.size:=aH.lt hg;have hpl:gp<w.heap.size:=ak w _ (hp 0 aJ);have hb1:=boxed w (.cells (cI (aS 16 0)) 256);have hM:=aH.new w 256 (cI (aS 16 0));have hb2:=boxed (w.alloc (.cells (cI (aS 16 0)) 256)) (.cells (cI (aS 16 0)) 256);have hV:=aH.new (w.alloc (.cells (cI (aS 16 0)) 256)) 256 (cI (aS 16 0));rw[show(w.alloc (.cells (cI (aS 16 0)) 256)).heap.size=w.heap.size+1 by simp]at hV;obtain⟨pF,HV2⟩:=aL (hM.below hb2 hM.lt) hV;have hB2:=after hb1 hb2;obtain⟨HB2,HG,HPp,fY,DX⟩:=eB hB2 hg hp hpb ord;clear hb1 hM hb2 hV hB2 hg hp hpb ord;rw[WI]at pF HV2 HB2;go_enter Tryz.func173,Tryz.ntmps173;go_upto_region 1 with fail
 generalize hMe:w.heap.size=M at pF HV2 HB2 hgl hpl⊢;have HMe:=ae hMe;clear hMe;generalize(w.alloc (.cells #[.int .u32 0,.int .u32 0,.int .u32 0,.int .u32 0,.int .u32 0,.int .u32 0,.int .u32 0,.int .u32 0,.int .u32 0,.int .u32 0,.int .u32 0,.int .u32 0,.int .u32 0,.int .u32 0,.int .u32 0,.int .u32 0] 256)).alloc (.cells #[.int .u32 0,.int .u32 0,.int .u32 0,.int .u32 0,.int .u32 0,.int .u32 0,.int .u32 0,.int .u32 0,.int .u32 0,.int .u32 0,.int .u32 0,.int .u32 0,.int .u32 0,.int .u32 0,.int .u32 0,.int .u32 0] 256)=w2 at pF HV2 HB2⊢;generalize hVe:M+1=V at HV2⊢;have zS:=ae hVe;clear hVe;rw[←WI]at pF HV2;have HPq:ag (∀i,i<64→w2.cell? ⟨gp,i,none⟩=some (.int .u8 (bR p i:Int))):=ae fun i hi=>ai (HPp.out i hi) (by rw[HMe.out];exact HB2.out)
 have hgM:gp≠M:=by omega
 go_wp2_with fail
 go_loopw [19] (fun v19 wr=>∃k:Nat,k≤64∧v19=.int .i64 k∧ag (aH wr M 256 (cI (lE p k)))∧ag (Keeps (fun x=>x=M) w2 wr)) (fun v19 _=>64-(intOf v19).toNat)
 case atStart=>exact⟨0,by omega,rfl,pF,ae (Keeps.refl _ _)⟩
 case round=>
  obtain⟨k,hk,rfl,hm,hkp⟩:=hrel;obtain⟨wo,rfl⟩:=bw (wr:World);by_cases hlt:k<64
  ·have c0:=bM (HPq.out k hlt) hkp.out hgM;have hb:=fY.out k;have ws:=Bm p k;have agL:k/4<16:=by omega
   have d0:=hm.out.cell (k/4);rw[Bq ws agL]at d0;have f0:=hm.out.frozen (k/4);have lA:=ws.at_ (k/4);have ahB:k%4*8≤24:=by omega
   have hres:=WE hm.out hkp.out (k/4) (bR (lE p k) (k/4)|||bR p k*2^(k%4*8)%4294967296);rw[show(lE p k).set (k/4) (bR (lE p k) (k/4)|||bR p k*2^(k%4*8)%4294967296)=lE p (k+1)from(G7 p k).symm]at hres;have a0:(0:Int)≤(k:Int):=by omega
   have a1:(k:Int)<64:=by omega
   generalize bR p k=X at c0 hb hres;generalize bR (lE p k) (k/4)=A at d0 lA hres;have hor:bits .or .u32 (A:Int) ((X:Int)*2^(k%4*8)%4294967296)=((A|||X*2^(k%4*8)%4294967296:Nat):Int):=by
    have:=u32_or_nat A (X*2^(k%4*8)%4294967296) lA (Nat.mod_lt _ aJ);simpa using this
   generalize A|||X*2^(k%4*8)%4294967296=R at hres hor
   have vE:=ae hres;clear hres;go_wp2_with fail
   go_roundw
   case rel=>exact⟨k+1,by omega,by go_num,ae vE.out.1,ae vE.out.2⟩
   case measure=>simp[intOf];omega
  obtain rfl:k=64:=by omega
  have hV3:=HV2.out.keep hkp.out (by have:=zS.out;omega);have hB3:=hkp.out.below (B:=M) (fun q hq=>by omega) (by have:=pF.out.lt;omega);obtain⟨HB3,HV3⟩:=aL (HB2.out.trans hB3) hV3;have mL:=hm;clear hV3 hB3 hkp HV2 pF HPq HB2 hlt hk;generalize hWW:lE p 64=ww at mL;have wsW:Ws 16 ww:=by rw[←hWW];exact Bm p 64
  have HWW:=ae (fun _:Unit=>hWW);clear hWW fY HPp;go_upto_region 7 with(go_at_call 172;refine(first_any _).mono ?_;rintro r w4⟨rfl,d4⟩;have HD4:=ae d4;clear d4)
  have hB4:=HD4.out;have hBk:=aH.new w4 232 (cI il);rw[WA]at hBk;have hb5:=boxed w4 (.cells #[.int .u32 1779033703,.int .u32 3144134277,.int .u32 1013904242,.int .u32 2773480762,.int .u32 1359893119,.int .u32 2600822924,.int .u32 528734635,.int .u32 1541459225] 232);have HZ:ag (M<w4.heap.size∧V<w4.heap.size):=ae ⟨ahQ mL.out.lt hB4.size,ahQ HV3.out.lt hB4.size⟩;have aat:=after hB4 hb5;obtain⟨tL,HV5⟩:=aL (mL.out.below aat mL.out.lt) (HV3.out.below aat HV3.out.lt);have nZ:=ae (HB3.out.trans (aat.mono (by have h1:=HB3.out.size;have h2:=HMe.out;omega)));have EG:=ae hBk;clear hB4 hBk hb5 aat mL HV3 HB3 HD4;generalize w4.alloc (.cells #[.int .u32 1779033703,.int .u32 3144134277,.int .u32 1013904242,.int .u32 2773480762,.int .u32 1359893119,.int .u32 2600822924,.int .u32 528734635,.int .u32 1541459225] 232)=w5 at tL HV5 nZ EG⊢;generalize w4.heap.size=F at HZ EG⊢;rw[←WA]at EG;have hG5:fV w5 g h sz rv n:=aH.below (g:=g) HG.out (by rw[HMe.out];exact nZ.out) (aH.lt HG.out);refine wp_region_still_tail 5 bo bo ?_;simp only[ahg,MJ,ahj,ahh]
  repeat still_step
  refine wpStill_nil ?_;change wpList _ _ _ _ _ w5.drew;obtain⟨w6,hr6,hV6,hk6⟩:=WH (w:=w5.drew) (V:=V) (g:=g) (o:=0) (dL:=16) (dC:=16) (sL:=8) (sC:=8) (ty:=3) (u:=h) HV5.out.drew (by rw[hh.len,lM];decide) (fun j hj=>hG5.word hh (by rw[hh.len]at hj;exact hj)) (by rw[hh.len];rfl);refine kF rfl _ _ _ _ rfl rfl rfl hr6 ?_;have hl6:((aS 16 0).take 0++h++(aS 16 0).drop (0+h.length)).length=16:=by simp[hh.len]
  have hF6:aH w6 F 232 (cI il):=EG.out.drew.keep hk6 (by have:=HZ.out;omega);have hM6:=tL.out.drew.keep hk6 (by have:=zS.out;omega);have hG6:fV w6 g h sz rv n:=aH.keep (g:=g) (aH.drew hG5) hk6 (by have:=zS.out;omega);have gJ:=nZ.out.drew.trans (hk6.below (B:=M) (fun q hq=>by have:=zS.out;omega) (Nat.le_of_lt tL.out.lt));have afs:=hV6;clear tL HV5 nZ EG hG5 hk6 hr6 hV6;obtain⟨HF6,zf,HG6,kQ,HV6,HL6⟩:=ot hF6 hM6 hG6 gJ afs hl6;clear hF6 hM6 hG6 gJ afs hl6;go_upto_region 8 with fail
  refine wp_region_still_tail 2 bo bo ?_;simp only[ahg,MJ,ahj,ahh]
  repeat still_step
  refine wpStill_nil ?_;change wpList _ _ _ _ _ w6.drew;obtain⟨w7,hr7,hV7,Yf⟩:=WH (w:=w6.drew) (V:=V) (g:=F) (o:=8) (dL:=8) (dC:=8) (sL:=8) (sC:=8) (ty:=3) (u:=il) HV6.out.drew (by rw[HL6.out];decide) (fun j hj=>eF kZ HF6.out.drew hj) (by rfl);rw[Lr hh.len]at hV7;refine kF rfl _ _ _ _ rfl rfl rfl hr7 ?_;have hM7:=zf.out.drew.keep Yf (by have:=zS.out;omega);have hG7:fV w7 g h sz rv n:=aH.keep (g:=g) (aH.drew HG6.out) Yf (by have:=zS.out;omega);have kg:=kQ.out.drew.trans (Yf.below (B:=M) (fun q hq=>by have:=zS.out;omega) (Nat.le_of_lt zf.out.lt));obtain⟨Yp,SO,uO⟩:=bz hM7 hG7 kg;clear HF6 zf HG6 kQ HV6 HL6 hr7 Yf hM7 hG7 kg;generalize h.length=hlen;have ws0:=Ww hh kZ;obtain⟨v0,hv0⟩:=bw (h++il);rw[←hv0]at hV7 ws0;obtain⟨HV7,Hv0⟩:=aL hV7 hv0;clear hV7 hv0;have x0:=eF ws0 HV7.out (show 12<8+8 by decide);have f0:=HV7.out.frozen 12;have y0:=SO.out.num hh;have l0:=ws0.at_ 12;have hln:n%4294967296<4294967296:=Nat.mod_lt _ aJ;have e0:IntKind.u32.wrap (n:Int)=((n%4294967296:Nat):Int):=vm n;have e1:=Hj l0 hln;have hp0:=G9 (n:=16) HV7.out (Keeps.refl _ _) 12 (iN (bR v0 12) (n%4294967296));have ws1:=ws0.aM 12 (kE l0 hln);obtain⟨v1,hv1⟩:=bw (v0.set 12 (iN (bR v0 12) (n%4294967296)));rw[←hv1]at hp0 ws1;generalize iN (bR v0 12) (n%4294967296)=X0 at e1 hp0;generalize bR v0 12=A0 at x0 e1;generalize n%4294967296=N0 at e0 e1;obtain⟨HP0,Hv1⟩:=aL hp0 hv1;clear hp0 hv1 l0 hln;go_upto_region 9 with fail
  refine wp_region_still_tail 9 bo bo ?_;simp only[ahg,MJ,ahj,ahh]
  repeat still_step
  refine wpStill_nil ?_;change wpList _ _ _ _ _ w7.drew;go_wp2_with fail
  have h8:=HP0.out;generalize(w7.setCell ⟨V,12,none⟩ (.int .u32 X0)).drew=w8 at h8⊢;have HM8:=ae (Yp.out.keep h8.2 (by have:=zS.out;omega));have HG8:ag (fV w8 g h sz rv n):=ae (aH.keep (g:=g) SO.out h8.2 (by have:=zS.out;omega));have Yc:=ae (uO.out.trans (h8.2.below (B:=M) (fun q hq=>by have:=zS.out;omega) (Nat.le_of_lt Yp.out.lt)));have HV8:=ae h8.1;clear h8 HP0 HV7 Yp SO uO x0 f0 y0 e0 e1;have x0:=eF ws1 HV8.out (show 13<16 by decide);have f0:=HV8.out.frozen 13;have y0:=HG8.out.num hh;have l0:=ws1.at_ 13;have hln:n/4294967296%4294967296<4294967296:=Nat.mod_lt _ aJ;have e0:IntKind.u32.wrap ((n:Int)/4294967296)=((n/4294967296%4294967296:Nat):Int):=vm (n/4294967296);have e1:=Hj l0 hln;have hp0:=G9 (n:=16) HV8.out (Keeps.refl _ _) 13 (iN (bR v1 13) (n/4294967296%4294967296));have ws2:=ws1.aM 13 (kE l0 hln);obtain⟨v2,hv2⟩:=bw (v1.set 13 (iN (bR v1 13) (n/4294967296%4294967296)));rw[←hv2]at hp0 ws2;generalize iN (bR v1 13) (n/4294967296%4294967296)=X1 at e1 hp0;generalize bR v1 13=A0 at x0 e1;generalize n/4294967296%4294967296=N1 at e0 e1;obtain⟨HP0,Hv2⟩:=aL hp0 hv2;clear hp0 hv2 l0 hln;go_upto_region 10 with fail
  refine wp_region_still_tail 10 bo bo ?_;simp only[ahg,MJ,ahj,ahh]
  repeat still_step
  refine wpStill_nil ?_;change wpList _ _ _ _ _ w8.drew;go_upto_if 67 with fail
  have h9:=HP0.out;generalize(w8.setCell ⟨V,13,none⟩ (.int .u32 X1)).drew=w9 at h9⊢;have P5:=ae (HM8.out.keep h9.2 (by have:=zS.out;omega));have HG9:ag (fV w9 g h sz rv n):=ae (aH.keep (g:=g) HG8.out h9.2 (by have:=zS.out;omega));have Uh:=ae (Yc.out.trans (h9.2.below (B:=M) (fun q hq=>by have:=zS.out;omega) (Nat.le_of_lt HM8.out.lt)));have Yt:=ae h9.1;clear h9 HP0 HV8 HM8 HG8 Yc x0 f0 y0 e0 e1;go_cut []from 17 (fun wx=>ag (aH wx V 256 (cI (nQ h n last)))∧ag (aH wx M 256 (cI ww))∧ag (fV wx g h sz rv n)∧ag (Below M w wx))
  case first=>
   cases last with
   |false=>
    go_wp2_with fail
    go_meet
    case rel=>exact⟨ae (by rw[show nQ h n false=v2 by unfold nQ;rw[Hv2.out,Hv1.out,Hv0.out];rfl];exact Yt.out),P5,HG9,Uh⟩
   |true=>
    have x0:=eF ws2 Yt.out (show 14<16 by decide);have f0:=Yt.out.frozen 14;have l0:=ws2.at_ 14;have hp0:=WE Yt.out (Keeps.refl _ _) 14 (4294967295-bR v2 14);have hbg:v2.set 14 (4294967295-bR v2 14)=nQ h n true:=by unfold nQ;rw[Hv2.out,Hv1.out,Hv0.out];rfl
    rw[hbg]at hp0;generalize bR v2 14=A0 at x0 l0 hp0;have e1:=agK l0;have eS:IntKind.u32.signed=false:=rfl;have eM:IntKind.u32.max=4294967295:=by decide
    generalize 4294967295-A0=R0 at e1 hp0;have HP0:=ae hp0;clear hp0 hbg l0;go_wp2_with fail
    go_meet
    case rel=>
     have h9:=HP0.out;exact⟨ae h9.1,ae (P5.out.keep h9.2 (by have:=zS.out;omega)),ae (aH.keep (g:=g) HG9.out h9.2 (by have:=zS.out;omega)),ae (Uh.out.trans (h9.2.below (B:=M) (fun q hq=>by have:=zS.out;omega) (Nat.le_of_lt P5.out.lt)))⟩
  case rest=>
  obtain⟨hV,hM,hG,hB⟩:=hcut;clear P5 HG9 Uh Yt;go_upto_region 14 with fail
  have agM:=(DX.out.below hB.out (by have:=HMe.out;have:=DX.out.lt;omega)).at_;obtain⟨tO,frO,hO⟩:=agM;obtain⟨oc,hoc⟩:=bw lG;rw[←hoc]at hO;refine wp_region_lit ?_;refine wpList_load_row rfl _ _ rfl 0 rfl tO oc frO (.array 10 260) hO bo rfl (by rw[hoc];kernel_rfl) ?_;have HOc:=ae hoc;clear hoc;go_wp2_with fail
  obtain⟨vb,hvb⟩:=bw (nQ h n last);rw[←hvb]at hV;have wsB:Ws 16 vb:=by rw[hvb];exact Bn hh n last
  have Hvb:=ae hvb;clear hvb Hv0 Hv1 Hv2 ws0 ws1 ws2 hO HZ;go_loopw [74] (fun v74 wr=>∃r:Nat,r≤10∧v74=.int .i64 r∧ag (aH wr V 256 (cI (kV ww vb r)))∧ag (aH wr M 256 (cI ww))∧ag (Below M w wr)) (fun v74 _=>10-(intOf v74).toNat)
  case atStart=>exact⟨0,by omega,rfl,hV,hM,hB⟩
  case round=>
   obtain⟨r,hr,rfl,hVr,hMr,hBr⟩:=hrel;obtain⟨wo,rfl⟩:=bw (wr:World);clear hV hM hG hB;have wsR:=rq (m:=ww) wsB r;by_cases hlt:r<10
   ·have hsucc:=DV ww vb r;unfold rp at hsucc;obtain⟨Ls,hob⟩:=aaq hlt;have hrow:ag (Rm r=cC (pL.getD r [])):=ae rfl;generalize kV ww vb r=vr at hVr wsR hsucc;generalize hor:pL.getD r []=o at hsucc Ls hob hrow;obtain⟨HS,HO⟩:=aL (fun _:Unit=>hsucc) hob;clear hsucc hob hor;go_upto_region 16 with fail
    refine wp_region_lit ?_;refine ud rfl _ _ rfl hlt HOc.out rfl rfl ?_;refine uf rfl rfl ?_;refine wpList_store_row rfl _ _ _ rfl wo.heap.size (Rm r) rfl rfl 260 (cC (aS 16 0)) (heap_alloc_new wo _) (by rw[hrow.out,vo Ls];exact WC) (by rw[hrow.out,vo Ls];rfl) (by rw[hrow.out];exact Lq o) ?_;rw[hrow.out];obtain⟨hR,hb1,hb2⟩:=aas hBr.out (Nat.le_of_lt hMr.out.lt) o;obtain⟨HR1,HB1,HV1,Ua⟩:=cU hR hb2 (hVr.out.below hb1 hVr.out.lt) (hMr.out.below hb1 hMr.out.lt);have hOV:ag (V<wo.heap.size):=ae hVr.out.lt;clear hR hb1 hb2 hVr hMr hBr;generalize(wo.alloc (.cells (cC (aS 16 0)) 260)).setRow wo.heap.size (cC o)=w1 at HR1 HB1 HV1 Ua⊢;generalize wo.heap.size=O at HR1 hOV⊢;go_wp2_with fail
    go_loopw [77] (fun v77 wi=>∃k:Nat,k≤4∧v77=.int .i64 k∧ag (aH wi V 256 (cI (upW ww o vr k)))∧ag (aH wi M 256 (cI ww))∧ag (aH wi O 260 (cC o))∧ag (Below M w wi)) (fun v77 _=>4-(intOf v77).toNat)
    case atStart=>exact⟨0,by omega,rfl,HV1,Ua,HR1,HB1⟩
    case round=>
     obtain⟨k,hk,rfl,N5,Lt,hRi,hBi⟩:=hrel;obtain⟨wo,rfl⟩:=bw (wr:World);clear HR1 HB1 HV1 Ua;by_cases hk4:k<4
     ·have hs:=Wq ww o vr k;unfold NV at hs;have wsU:=Lp (m:=ww) (o:=o) wsR k;generalize upW ww o vr k=vu at N5 wsU hs;have r1:=DW Ls hRi.out (i:=2*k) aR;have r2:=DW Ls hRi.out (i:=2*k+1) aR;have b1:=HO.out (2*k);have b2:=HO.out (2*k+1);generalize bR o (2*k)=X1 at r1 b1 hs;generalize bR o (2*k+1)=X2 at r2 b2 hs;have m1:=eF wsW Lt.out b1;have m2:=eF wsW Lt.out b2;generalize bR ww X1=Y1 at m1 hs;generalize bR ww X2=Y2 at m2 hs;have c1:(X1:Int)<16:=by omega
      have c2:(X2:Int)<16:=by omega
      have hmx:∀(u:World)(gw:Nat),aH u V 256 (cI vu)→aH u gw 173 #[.int .u32 Y1,.int .u32 Y2]→Calls ah 195 #[.int .i64 k,.int .i64 ((4+k:Nat):Int),.int .i64 ((8+k:Nat):Int),.int .i64 ((12+k:Nat):Int),.slice (some ⟨gw,0,none⟩) 2 2,.pointer (some ⟨V,0,none⟩)] u fun r w'=>r=.returned (.tuple #[])∧lF u V (Ln vu k (4+k) (8+k) (12+k) Y1 Y2) w':=fun u gw hv hw=>NZ wsU hv hw aR aR aR (by omega)
      rw[←hs]at hmx;generalize hvn:upW ww o vr (k+1)=vn at hmx;obtain⟨k1,hk1⟩:=bw (k+1);rw[←hk1]at hvn;have HK0:ag (k1≤4):=ae aR;obtain⟨Hvn,qI⟩:=aL (fun _:Unit=>hvn) (fun _:Unit=>hk1);have eW0:IntKind.i64.wrap 0=0:=rfl;have eW1:IntKind.i64.wrap 1=1:=rfl;have eW2:IntKind.i64.wrap 2=2:=rfl;have eW3:IntKind.i64.wrap 3=3:=rfl;have eW4:IntKind.i64.wrap 4=4:=rfl;have eW5:IntKind.i64.wrap 5=5:=rfl;have eW6:IntKind.i64.wrap 6=6:=rfl;have eW7:IntKind.i64.wrap 7=7:=rfl;have eW8:IntKind.i64.wrap 8=8:=rfl;have eW9:IntKind.i64.wrap 9=9:=rfl;have agN:IntKind.i64.wrap 10=10:=rfl;have agO:IntKind.i64.wrap 11=11:=rfl;have agP:IntKind.i64.wrap 12=12:=rfl;have agQ:IntKind.i64.wrap 13=13:=rfl;have agR:IntKind.i64.wrap 14=14:=rfl;have agS:IntKind.i64.wrap 15=15:=rfl;have Lu:O≠V:=by have:=hOV.out;omega
      have Lx:M≠V:=by have:=zS.out;omega
      clear hs b1 b2 hvn hk1;rcases(by omega:k=0∨k=1∨k=2∨k=3)with rfl|rfl|rfl|rfl
      all_goals
       simp only[Nat.reduceMul,Nat.reduceAdd]at r1 r2 hmx;have HMx:=ae hmx;clear hmx;go_upto_region 20 with fail
       refine wp_region_held_drew (S:=(fun w'=>w'.cell? ⟨O,_,none⟩=some (.int .u8 X1)∧w'.cell? ⟨O,_,none⟩=some (.int .u8 X2)∧w'.cell? ⟨M,X1,none⟩=some (.int .u32 Y1)∧w'.cell? ⟨M,X2,none⟩=some (.int .u32 Y2))) bo (⟨r1,r2,m1,m2⟩) (fun hHeld=>?_);refine aY 0 ?_
       refine aY 1 ?_
       refine aY 2 ?_
       refine aY 3 ?_
       refine aY 4 ?_
       refine aY 5 ?_
       refine aY 6 ?_
       refine aY 7 ?_
       refine aY 8 ?_
       refine aY 9 ?_
       refine aY 10 ?_
       refine aY 11 ?_
       refine aY 12 ?_
       refine aY 13 ?_
       refine aY 14 ?_
       refine aY 15 ?_
       refine aY 16 ?_
       refine aY 17 ?_
       refine aY 18 ?_
       refine aY 19 ?_
       refine aY 20 ?_
       refine fA 21 fun K hK=>?_;go_simp;refine hK.out _ _ (⟨ai hHeld.1 (boxed _ _),ai hHeld.2.1 (boxed _ _),ai hHeld.2.2.1 (boxed _ _),ai hHeld.2.2.2 (boxed _ _)⟩) (fun hHeld=>?_);clear hK K;try simp only[ck]
       refine fA 22 fun K hK=>?_;go_simp;refine(HMx.out _ _ ?_ ?_).mono ?_
       ·exact(N5.out.alloc _).drew
       ·exact(aH.new wo _ _).drew
       rintro r wa⟨rfl,hma⟩;have Hl:=hma.2;refine hK.out _ _ (⟨bM hHeld.1 Hl Lu,bM hHeld.2.1 Hl Lu,bM hHeld.2.2.1 Hl Lx,bM hHeld.2.2.2 Hl Lx⟩) (fun hHeld=>?_);clear hK K;try simp only[ck]
       refine lN ?_;obtain⟨zL,IV⟩:=aL ((Lt.out.alloc _).drew.keep Hl Lx) ((hRi.out.alloc _).drew.keep Hl Lu);have iI:=ae ((hBi.out.alloc (Nat.le_of_lt Lt.out.lt) _).drew.trans (Hl.below (B:=M) (fun q hq=>by have:=zS.out;omega) (Nat.le_of_lt (Lt.out.alloc _).drew.lt)));have HVa:=ae hma.1;clear hma Hl r1 r2 m1 m2 N5 Lt hRi hBi hHeld;go_wp2_with fail
       go_roundw
       case rel=>exact⟨k1,HK0.out,by rw[qI.out ()];rfl,ae (by rw[Hvn.out ()];exact HVa.out),zL,IV,iI⟩
       case measure=>simp[intOf]
     ·obtain rfl:k=4:=by omega
      have wsX:=Lp (m:=ww) (o:=o) wsR 4;obtain⟨vx,hvx⟩:=bw (upW ww o vr 4);rw[←hvx]at N5 wsX;have HS2:ag (∀_:Unit,mj ww o vx 4=kV ww vb (r+1)):=ae (fun _=>by rw[hvx,HS.out ()]);clear hvx HS;go_wp2_with fail
      go_loopw [104] (fun ada wi=>∃k:Nat,k≤4∧ada=.int .i64 k∧ag (aH wi V 256 (cI (mj ww o vx k)))∧ag (aH wi M 256 (cI ww))∧ag (aH wi O 260 (cC o))∧ag (Below M w wi)) (fun ada _=>4-(intOf ada).toNat)
      case atStart=>exact⟨0,by omega,rfl,N5,Lt,hRi,hBi⟩
      case round=>
       obtain⟨k,hk,rfl,N5,Lt,hRi,hBi⟩:=hrel;obtain⟨wo,rfl⟩:=bw (wr:World);by_cases hk4:k<4
       ·have hs:=DU ww o vx k;unfold qm at hs;have wsU:=yF (m:=ww) (o:=o) wsX k;generalize mj ww o vx k=vu at N5 wsU hs;have r1:=DW Ls hRi.out (i:=8+2*k) aR;have r2:=DW Ls hRi.out (i:=9+2*k) aR;have b1:=HO.out (8+2*k);have b2:=HO.out (9+2*k);generalize bR o (8+2*k)=X1 at r1 b1 hs;generalize bR o (9+2*k)=X2 at r2 b2 hs;have m1:=eF wsW Lt.out b1;have m2:=eF wsW Lt.out b2;generalize bR ww X1=Y1 at m1 hs;generalize bR ww X2=Y2 at m2 hs;have c1:(X1:Int)<16:=by omega
        have c2:(X2:Int)<16:=by omega
        have hmx:∀(u:World)(gw:Nat),aH u V 256 (cI vu)→aH u gw 173 #[.int .u32 Y1,.int .u32 Y2]→Calls ah 195 #[.int .i64 k,.int .i64 ((4+(k+1)%4:Nat):Int),.int .i64 ((8+(k+2)%4:Nat):Int),.int .i64 ((12+(k+3)%4:Nat):Int),.slice (some ⟨gw,0,none⟩) 2 2,.pointer (some ⟨V,0,none⟩)] u fun r w'=>r=.returned (.tuple #[])∧lF u V (Ln vu k (4+(k+1)%4) (8+(k+2)%4) (12+(k+3)%4) Y1 Y2) w':=fun u gw hv hw=>NZ wsU hv hw aR aR aR (by omega)
        rw[←hs]at hmx;generalize hvn:mj ww o vx (k+1)=vn at hmx;obtain⟨k1,hk1⟩:=bw (k+1);rw[←hk1]at hvn;have HK0:ag (k1≤4):=ae aR;obtain⟨Hvn,qI⟩:=aL (fun _:Unit=>hvn) (fun _:Unit=>hk1);have eW0:IntKind.i64.wrap 0=0:=rfl;have eW1:IntKind.i64.wrap 1=1:=rfl;have eW2:IntKind.i64.wrap 2=2:=rfl;have eW3:IntKind.i64.wrap 3=3:=rfl;have eW4:IntKind.i64.wrap 4=4:=rfl;have eW5:IntKind.i64.wrap 5=5:=rfl;have eW6:IntKind.i64.wrap 6=6:=rfl;have eW7:IntKind.i64.wrap 7=7:=rfl;have eW8:IntKind.i64.wrap 8=8:=rfl;have eW9:IntKind.i64.wrap 9=9:=rfl;have agN:IntKind.i64.wrap 10=10:=rfl;have agO:IntKind.i64.wrap 11=11:=rfl;have agP:IntKind.i64.wrap 12=12:=rfl;have agQ:IntKind.i64.wrap 13=13:=rfl;have agR:IntKind.i64.wrap 14=14:=rfl;have agS:IntKind.i64.wrap 15=15:=rfl;have Lu:O≠V:=by have:=hOV.out;omega
        have Lx:M≠V:=by have:=zS.out;omega
        clear hs b1 b2 hvn hk1;rcases(by omega:k=0∨k=1∨k=2∨k=3)with rfl|rfl|rfl|rfl
        all_goals
         simp only[Nat.reduceMul,Nat.reduceAdd,Nat.reduceMod]at r1 r2 hmx;have HMx:=ae hmx;clear hmx;go_upto_region 25 with fail
         refine wp_region_held_drew (S:=(fun w'=>w'.cell? ⟨O,_,none⟩=some (.int .u8 X1)∧w'.cell? ⟨O,_,none⟩=some (.int .u8 X2)∧w'.cell? ⟨M,X1,none⟩=some (.int .u32 Y1)∧w'.cell? ⟨M,X2,none⟩=some (.int .u32 Y2))) bo (⟨r1,r2,m1,m2⟩) (fun hHeld=>?_);refine aY 0 ?_
         refine aY 1 ?_
         refine aY 2 ?_
         refine aY 3 ?_
         refine aY 4 ?_
         refine aY 5 ?_
         refine aY 6 ?_
         refine aY 7 ?_
         refine aY 8 ?_
         refine aY 9 ?_
         refine aY 10 ?_
         refine aY 11 ?_
         refine aY 12 ?_
         refine aY 13 ?_
         refine aY 14 ?_
         refine aY 15 ?_
         refine aY 16 ?_
         refine aY 17 ?_
         refine aY 18 ?_
         refine aY 19 ?_
         refine aY 20 ?_
         refine aY 21 ?_
         refine aY 22 ?_
         refine aY 23 ?_
         refine aY 24 ?_
         refine aY 25 ?_
         refine aY 26 ?_
         refine aY 27 ?_
         refine fA 28 fun K hK=>?_;go_simp;refine hK.out _ _ (⟨ai hHeld.1 (boxed _ _),ai hHeld.2.1 (boxed _ _),ai hHeld.2.2.1 (boxed _ _),ai hHeld.2.2.2 (boxed _ _)⟩) (fun hHeld=>?_);clear hK K;try simp only[ck]
         refine fA 29 fun K hK=>?_;go_simp;refine(HMx.out _ _ ?_ ?_).mono ?_
         ·exact(N5.out.alloc _).drew
         ·exact(aH.new wo _ _).drew
         rintro r wa⟨rfl,hma⟩;have Hl:=hma.2;refine hK.out _ _ (⟨bM hHeld.1 Hl Lu,bM hHeld.2.1 Hl Lu,bM hHeld.2.2.1 Hl Lx,bM hHeld.2.2.2 Hl Lx⟩) (fun hHeld=>?_);clear hK K;try simp only[ck]
         refine lN ?_;obtain⟨zL,IV⟩:=aL ((Lt.out.alloc _).drew.keep Hl Lx) ((hRi.out.alloc _).drew.keep Hl Lu);have iI:=ae ((hBi.out.alloc (Nat.le_of_lt Lt.out.lt) _).drew.trans (Hl.below (B:=M) (fun q hq=>by have:=zS.out;omega) (Nat.le_of_lt (Lt.out.alloc _).drew.lt)));have HVa:=ae hma.1;clear hma Hl r1 r2 m1 m2 N5 Lt hRi hBi hHeld;go_wp2_with fail
         refine⟨?_,?measure⟩
         (repeat apply Exists.intro)
         refine⟨?rel,rfl⟩
         case rel=>exact⟨k1,HK0.out,by rw[qI.out ()];rfl,ae (by rw[Hvn.out ()];exact HVa.out),zL,IV,iI⟩
         case measure=>simp[intOf]
       ·obtain rfl:k=4:=by omega
        go_wp2_with fail
        go_roundw
        case rel=>exact⟨r+1,by omega,by go_num,ae (by rw[←HS2.out ()];exact N5.out),Lt,hBi⟩
        case measure=>simp[intOf];omega
   ·obtain rfl:r=10:=by omega
    clear DX HOc wsR;obtain⟨vz,hvz⟩:=bw (kV ww vb 10);have wsZ:Ws 16 vz:=by rw[hvz];exact rq wsB 10
    rw[←hvz]at hVr;have hfin:ag (∀_:Unit,nR vz h 8=pM h n p last):=ae (fun _=>by unfold pM;rw[hvz,Hvb.out,HWW.out ()]);clear hvz Hvb HWW wsB;have HG0:ag (fV wo g (nR vz h 0) sz rv n):=ae (aH.below (g:=g) HG.out (by rw[HMe.out];exact hBr.out) (aH.lt HG.out));go_wp2_with fail
    go_loopw [139] (fun v139 wi=>∃i:Nat,i≤8∧v139=.int .i64 i∧ag (fV wi g (nR vz h i) sz rv n)∧ag (aH wi V 256 (cI vz))∧ag (∃u,Below M w u∧M≤u.heap.size∧Keeps (fun k=>k=g) u wi)) (fun v139 _=>8-(intOf v139).toNat)
    case atStart=>exact⟨0,by omega,rfl,HG0,hVr,ae ⟨_,hBr.out,Nat.le_of_lt hMr.out.lt,Keeps.refl _ _⟩⟩
    case round=>
     obtain⟨i,hi,rfl,hGi,N5,hUi⟩:=hrel;obtain⟨wo,rfl⟩:=bw (wr:World);clear HG0 hVr hMr hBr;have wsH:=Bo wsZ hh i;by_cases hi8:i<8
     ·have hs:=G8 vz h i;unfold NW at hs;generalize nR vz h i=hc at hGi wsH hs;have c0:=hGi.out.word wsH hi8;have c1:=eF wsZ N5.out (i:=i) aR;have c2:=eF wsZ N5.out (i:=8+i) aR;have f0:=aH.frozen (g:=g) hGi.out i;have l0:=wsH.at_ i;have l1:=wsZ.at_ i;have l2:=wsZ.at_ (8+i);have e1:=Hj l1 l2;have e2:=Hj l0 (kE l1 l2);have hput:fV (wo.setCell ⟨g,i,none⟩ (.int .u32 (iN (bR hc i) (iN (bR vz i) (bR vz (8+i))):Int))) g (hc.set i (iN (bR hc i) (iN (bR vz i) (bR vz (8+i))))) sz rv n:=by
       unfold fV;rw[←N3 wsH hi8];exact aH.aM hGi.out i _
      rw[←hs]at hput;generalize hhn:nR vz h (i+1)=hn1 at hput;have Hhn:=ae (fun _:Unit=>hhn);generalize iN (bR hc i) (iN (bR vz i) (bR vz (8+i)))=X3 at e2 hput;generalize iN (bR vz i) (bR vz (8+i))=X4 at e1 e2;generalize bR hc i=X0 at c0 e2;generalize bR vz i=X1 at c1 e1;generalize bR vz (8+i)=X2 at c2 e1;have IE:=ae hput;clear hs hhn hput l0 l1 l2;have z1:(i:Int)<16:=by omega
      obtain⟨j,hj⟩:=bw (8+i);rw[←hj]at c2;have z3:8+(i:Int)=(j:Int):=by omega
      have z4:(j:Int)<16:=by omega
      have z5:IntKind.i64.wrap (j:Int)=(j:Int):=by rw[IntKind.wrap_i64];omega
      clear hj;have HMg:ag (V≠g):=ae (by have:=zS.out;omega);go_upto_region 31 with fail
      refine wp_region_still_tail 18 bo bo ?_;simp only[ahg,MJ,ahj,ahh]
      repeat still_step
      refine wpStill_nil ?_;change wpList _ _ _ _ _ wo.drew;go_wp2_with fail
      refine⟨?_,?measure⟩
      (repeat apply Exists.intro)
      refine⟨?rel,rfl⟩
      case rel=>
       refine⟨i+1,by omega,by go_num,ae (by rw[Hhn.out ()];exact aH.drew IE.out),ae (aH.drew (aH.far N5.out (p:=⟨g,i,none⟩) HMg.out _)),ae ?_⟩;obtain⟨u,u1,u2,u3⟩:=hUi.out;exact⟨u,u1,u2,(u3.setCell (p:=⟨g,i,none⟩) (Or.inl rfl) _).drew⟩
      case measure=>simp[intOf];omega
     ·obtain rfl:i=8:=by omega
      go_wp2_with fail
      go_end0
      have hG:=hGi.out;rw[hfin.out ()]at hG;refine⟨rfl,hG,?_⟩;obtain⟨u,u1,u2,u3⟩:=hUi.out;exact(Keeps.of_below (by rw[HMe.out];exact u1) fun k hk _=>hk).trans u3
def DY:List Nat:=il.set 0 1795745351
theorem WM(w:World):Calls ah 148 #[.int .i64 32,aG] w fun r w'=>(∃g,w.heap.size≤g∧r=.returned (.tuple #[.pointer (some ⟨g,0,none⟩),.int .i64 0])∧fV w' g DY 32 au 0)∧Below w.heap.size w w':=by
 have hF:=first_any;go_enter Tryz.func148,Tryz.ntmps148;go_upto_region 4 with(go_at_call 172;refine(hF _).mono ?_;rintro r w1⟨rfl,d1⟩)
 have h1:fV (w1.alloc (.cells #[.int .u32 1779033703,.int .u32 3144134277,.int .u32 1013904242,.int .u32 2773480762,.int .u32 1359893119,.int .u32 2600822924,.int .u32 528734635,.int .u32 1541459225,.int .i64 32,au,.int .u64 0] 235)) w1.heap.size il 32 au 0:=aH.new w1 _ _;have b1:=after d1 (boxed w1 (.cells #[.int .u32 1779033703,.int .u32 3144134277,.int .u32 1013904242,.int .u32 2773480762,.int .u32 1359893119,.int .u32 2600822924,.int .u32 528734635,.int .u32 1541459225,.int .i64 32,au,.int .u64 0] 235));have hle:w.heap.size≤w1.heap.size:=d1.size;clear d1;generalize w1.alloc (.cells #[.int .u32 1779033703,.int .u32 3144134277,.int .u32 1013904242,.int .u32 2773480762,.int .u32 1359893119,.int .u32 2600822924,.int .u32 528734635,.int .u32 1541459225,.int .i64 32,au,.int .u64 0] 235)=w2 at h1 b1⊢;generalize w1.heap.size=g at h1 hle⊢;have c0:=fV.word (i:=0) h1 kZ aJ;rw[show bR il 0=1779033703 from rfl]at c0;have f0:=aH.frozen (g:=g) h1 0;have h2:fV (w2.setCell ⟨g,0,none⟩ (.int .u32 1795745351)).drew g DY 32 au 0:=by
  unfold fV DY;rw[←N3 kZ aJ];exact(aH.aM h1 0 _).drew
 have b2:=(b1.setCell (p:=⟨g,0,none⟩) hle (.int .u32 1795745351)).drew;obtain⟨H1,H2,B2⟩:=bz h1 h2 b2;have e0:bits .xor .u32 16842752 0=16842752:=by decide
 have e1:bits .xor .u32 16842752 32=16842784:=by decide
 have e2:bits .xor .u32 1779033703 16842784=1795745351:=by decide
 clear h1 h2 b1 b2 hF;refine wp_region_still_tail 17 bo bo ?_;simp only[ahg,MJ,ahj,ahh]
 repeat still_step
 refine wpStill_nil ?_;change wpList _ _ _ _ _ w2.drew;go_wp2_with fail
 go_ret2;exact⟨⟨g,hle,rfl,H2.out⟩,B2.out⟩
def u8s(l:List Nat):List Value:=l.map fun x:Nat=>ahL .u8 (x:Int)
def Rn(lo:Nat)(w:World)(g:Nat)(b:Bl):Prop:=∃rv,fV w g b.h 32 rv b.n∧w.ownsRow lo 5 1 rv b.rest.length (u8s b.rest)
theorem Ro{w:World}{lo g n cap:Nat}{e:TypeId}{size:Nat}{xs:List Value}(h:w.ownsRow lo e size (.slice (some ⟨g,0,none⟩) n cap) n xs):w.ownsRow lo e size (.slice (some ⟨g,0,none⟩) 0 cap) 0 []:=by
 refine⟨by simp,Or.inr ?_⟩;rcases h.2 with⟨hv,_⟩|⟨g',cap',cur,hv,hb,hg,hn,hc,hs,_⟩
 ·cases hv
 ·injection hv with h1 h2 h3
  injection h1 with h1
  injection h1 with h1
  subst h1;subst h3;exact⟨g,cap,cur,rfl,hb,hg,bj _,hc,hs,by simp⟩
theorem Bl.Bt(b:Bl)(l:List Nat)(c:Nat):b.adds (l++[c])=(b.adds l).add c:=by
 unfold Bl.adds;rw[List.foldl_append];rfl
theorem ug{w:World}{lo g cap:Nat}{l:List Nat}(h:w.ownsRow lo 5 1 (.slice (some ⟨g,0,none⟩) l.length cap) l.length (u8s l)){i:Nat}(hi:i<l.length):w.cell? ⟨g,i,none⟩=some (.int .u8 (bR l i:Int)):=by
 rcases h.2 with⟨hv,_⟩|⟨g',cap',cur,hv,hb,hg,hn,hc,hs,ht⟩
 ·cases hv
 ·injection hv with h1 h2 h3
  injection h1 with h1
  injection h1 with h1
  subst h1;rw[Nat.mul_one]at ht;have h2:(cur.toList.take l.length)[i]? =(u8s l)[i]? :=by rw[ht]
  rw[List.getElem?_take,if_pos hi]at h2;unfold World.cell?;simp only[hg];rw[←ahN,h2];unfold u8s bR;rw[bO,aE,af hi];rfl
theorem rr{w:World}{lo n size:Nat}{e:TypeId}{v:Value}{xs:List Value}(h:w.ownsRow lo e size v n xs):∃A c,v=.slice A n c:=by
 rcases h.2 with⟨hv,hn⟩|⟨g,cap,cur,hv,_⟩
 ·exact⟨none,0,by rw[hv,hn]⟩
 ·exact⟨_,_,hv⟩
theorem Bv{w:World}{lo n size:Nat}{e:TypeId}{A:Option Addr}{c:Nat}{xs:List Value}(h:w.ownsRow lo e size (.slice A n c) n xs)(hn:n≠0):∃q,A=some ⟨q,0,none⟩:=by
 rcases h.2 with⟨_,h0⟩|⟨g,cap,cur,hv,_⟩
 ·exact absurd h0 hn
 ·injection hv with h1
  exact⟨g,h1⟩
theorem Hr{h:List Nat}(hh:Ws 8 h){sz n:Nat}{rv v:Value}(i:Nat):(hsL h sz rv n).toArray.setIfInBounds (8+i) v=((h.map fun x:Nat=>ahL .u32 x)++[ahL .i64 sz,rv,.int .u64 n].set i v).toArray:=by
 unfold hsL;rw[List.setIfInBounds_toArray,List.set_append_right _ _ (by rw[ay,hh.len];omega),ay,hh.len,Nat.add_sub_cancel_left]
section
variable{w w':World}{g sz n:Nat}{h:List Nat}{rv:Value}
theorem fV.WN(hg:fV w g h sz rv n)(hh:Ws 8 h)(m:Nat):fV (w.setCell ⟨g,10,none⟩ (.int .u64 m)) g h sz rv m:=by
 have:=aH.aM (g:=g) hg 10 (.int .u64 m);rw[Hr hh 2]at this;exact this
theorem fV.N6(hg:fV w g h sz rv n)(hh:Ws 8 h)(v:Value):fV (w.setCell ⟨g,9,none⟩ v) g h sz v n:=by
 have:=aH.aM (g:=g) hg 9 v;rw[Hr hh 1]at this;exact this
theorem jm{lo size m:Nat}{e:TypeId}{v:Value}{xs:List Value}(hw:w.ownsRow lo e size v m xs)(hk:∀q,v.ownBlock=some q→w'.heap[q]? =w.heap[q]?):w'.ownsRow lo e size v m xs:=by
 refine⟨hw.1,?_⟩;rcases hw.2 with h0|⟨q,cap,cur,hv,hb,hg,rest⟩
 ·exact Or.inl h0
 ·exact Or.inr ⟨q,cap,cur,hv,hb,by rw[hk q (by rw[hv];rfl)];exact hg,rest⟩
theorem wR{lo size m q:Nat}{v:Value}{xs:List Value}(hw:w.ownsRow lo 5 size v m xs)(hg:fV w g h sz rv n)(hq:v.ownBlock=some q):q≠g:=by
 rcases hw.2 with⟨hv,_⟩|⟨q',cap,cur,hv,hb,hq',_⟩
 ·rw[hv]at hq;cases hq
 ·rw[hv]at hq;injection hq with hq
  subst hq;exact aH.vO hq' hg (by decide)
end
theorem qo(w:World)(g k i:Nat)(v:Value)(h:k≠g):(w.setCell ⟨g,i,none⟩ v).heap[k]? =w.heap[k]? :=by
 have:=((Keeps.refl (fun q=>q=g) w).setCell (p:=⟨g,i,none⟩) (Or.inl rfl) v);rcases Nat.lt_or_ge k w.heap.size with hl|hl
 ·exact this.block k hl h
 ·rw[ahZ hl,ahZ (by simpa using hl)]
theorem DZ{w:World}{lo size m q:Nat}{e:TypeId}{v:Value}{xs:List Value}(hw:w.ownsRow lo e size v m xs)(hq:v.ownBlock=some q):q<w.heap.size:=by
 rcases hw.2 with⟨hv,_⟩|⟨q',cap,cur,hv,hb,hq',_⟩
 ·rw[hv]at hq;cases hq
 ·rw[hv]at hq;injection hq with hq
  subst hq;exact(Array.getElem?_eq_some_iff.1 hq').1
theorem WQ(l:List Nat)(x:Nat):u8s (l++[x])=u8s l++[.int .u8 x]:=by unfold u8s;rw[cL];rfl
theorem kW{P:Program}{w:World}{ops:Array Oper}{o:Oper}{a:Act}{K:Act→World→Prop}{Q:Exit→Act→World→Prop}{E:Prop}(hgd:o.guard=none)(s x:Operand)(t u:TypeId)(ho:o.op=.call {callee:=.builtin .append,args:= #[s,x],argTypes:= #[t,u]}){v y v':Value}{w':World}(hs:a.eval s=v)(hx:a.eval x=y)(hr:(Builtin.append_ #[t,u] o.type #[v,y]).run P w=.ok v' w')(h:K (a.put o.dst v') w'):if Region.wanted o (yielded ops a.tmps)=true then Oper.wp P o a w K Q else E:=by
 have hw:Region.wanted o (yielded ops a.tmps)=true:=by simp[Region.wanted,hgd]
 rw[if_pos hw];unfold Oper.wp execOp;simp only[ho,resolve,invoke,builtin,ah0,Sem.run_pure,kl,List.map_toArray,List.map_cons,List.map_nil,hs,hx,hr];exact h
theorem aau:(ah.info? 5).map (fun i=>(i.zero,i.size,i.bytes))=some (some (.int .u8 0),1,1):=by kernel_rfl
theorem WR{w:World}(ord:fZ w){g lo:Nat}{b:Bl}(ok:b.Ok)(s:ByteArray)(hs:s.size≤16777216)(hn:b.n+b.rest.length≤16777216)(hlo:lo≤g)(MU:lo≤w.heap.size)(hol:0<lo)(hb:Rn lo w g b):Calls ah 149 #[.pointer (some ⟨g,0,none⟩),.string s] w fun r w'=>r=.returned (.int .i64 0)∧Rn lo w' g (b.adds (s.data.toList.map UInt8.toNat))∧Below lo w w':=by
 obtain⟨HB,Rq,DX⟩:=bz hb ok ord;obtain⟨rv0,a1,a2⟩:=hb;have c8:=a1.size ok.h;clear a1 a2 ok ord;go_enter Tryz.func149,Tryz.ntmps149;go_wp2_with fail
 clear c8;generalize hl:s.data.toList.map UInt8.toNat=l;have hll:l.length=s.size:=by rw[←hl,ay];rfl
 obtain⟨HL,HLl⟩:=aL hl hll;clear hl hll;go_loopw [17] (fun v17 wr=>∃k:Nat,k≤s.size∧v17=.int .i64 k∧ag (Rn lo wr g (b.adds (l.take k)))∧ag (Below lo w wr)∧ag (lo≤wr.heap.size)) (fun v17 _=>s.size-(intOf v17).toNat)
 case atStart=>exact⟨0,by omega,rfl,ae (by rw[MJ];exact HB.out),ae (aI _ _),ae MU⟩
 case round=>
  obtain⟨k,hk,rfl,hBk,hBw,hSz⟩:=hrel;obtain⟨wo,rfl⟩:=bw (wr:World);clear HB;by_cases hlt:k<s.size
  ·have hok:(b.adds (l.take k)).Ok:=Bl.NY (fun x hx=>by
    have hx:=List.mem_of_mem_take hx;rw[←HL.out]at hx;obtain⟨y,_,rfl⟩:=List.mem_map.1 hx;exact y.toNat_lt) Rq.out
   have hcount:=Bl.Wy (l.take k) b;rw[List.length_take,HLl.out,Nat.min_eq_left hk]at hcount;have hstep:ag (∀_:Unit,b.adds (l.take (k+1))=(b.adds (l.take k)).add (bR l k)):=ae (fun _=>by
    rw[←Bl.Bt];congr 1;have hk':k<l.length:=by rw[HLl.out];exact hlt
    rw[List.take_add_one,af hk'];unfold bR;rw[aE,af hk'];rfl)
   generalize b.adds (l.take k)=bk at hBk hok hcount hstep;have af7:bk.n+bk.rest.length≤33554432:=by omega
   have Hu:=ae hok;clear hcount hok;obtain⟨rv,h1,h2⟩:=hBk.out;obtain⟨A,cp,hrv⟩:=rr h2;subst hrv;have c9:=h1.rest Hu.out.h;obtain⟨H1,H2⟩:=aL h1 h2;clear h1 h2 hBk;have e64:((bk.rest.length:Int)==64)=decide (bk.rest.length=64):=by rw[gW];simp;omega
   go_upto_if 25 with fail
   go_cut []from 18 (fun wc=>ag (∃A c h' rest' n',fV wc g h' 32 (.slice A rest'.length c) n'∧wc.ownsRow lo 5 1 (.slice A rest'.length c) rest'.length (u8s rest')∧Ws 8 h'∧rest'.length≤63∧∀x,bk.add x=⟨h',rest'++[x],n'⟩)∧ag (Below lo w wc)∧ag (lo≤wc.heap.size))
   case first=>
    by_cases h64:bk.rest.length=64
    ·obtain⟨q,hq⟩:=Bv H2.out aR;subst hq;have hqg:=wR H2.out H1.out (q:=q) rfl;have c10:=H1.out.num Hu.out.h;have f9:=aH.frozen (g:=g) H1.out 9;have f10:=aH.frozen (g:=g) H1.out 10;obtain⟨m,hm⟩:=bw (bk.n+64);have e10:IntKind.u64.wrap ((bk.n:Int)+64)=(m:Int):=by rw[fl];omega
     have h1:=H1.out.WN Hu.out.h m;have h2:=jm H2.out (w':=wo.setCell ⟨g,10,none⟩ (.int .u64 m)) (fun q' hq'=>by injection hq' with hq';subst hq';exact qo _ _ _ _ _ hqg);have b1:=hBw.out.setCell (p:=⟨g,10,none⟩) hlo (.int .u64 m);rw[h64]at c9 h1;have hp:=fun i(hi:i<64)=>ug h2 (i:=i) (by rw[h64];exact hi)
     have hpb:∀i,bR bk.rest i<256:=fun i=>by
      unfold bR;rw[aE];rcases hi:bk.rest[i]? with _|x
      ·simp
      ·exact Hu.out.byte x (iD hi)
     have ht:=Br (DX.out.below b1 hol) Hu.out.h h1 aR (cap:=cp) hp hpb hqg aR false;obtain⟨H3,H4,B1,HT⟩:=cU h1 h2 b1 ht;have Rr:ag (lo≤(wo.setCell ⟨g,10,none⟩ (.int .u64 m)).heap.size):=ae (aw MU b1.size);have HM:=ae hm;clear h1 h2 b1 ht hp hpb hm;go_upto_region 9 with(go_at_call 173;refine HT.out.mono ?_;rintro r w3⟨rfl,h5,k5⟩)
     clear c9 c10 f9 f10 e10 HT;have wp:=ub Hu.out.h m bk.rest false;have c9:=h5.rest wp;have f9:=aH.frozen (g:=g) h5 9;have h6:=h5.N6 wp (.slice (some ⟨q,0,none⟩) 0 cp);have ql:q<(wo.setCell ⟨g,10,none⟩ (.int .u64 m)).heap.size:=ak _ _ (ug H4.out (i:=0) aR);have o3:=Ro (jm H4.out (fun q' hq'=>by injection hq' with hq';subst hq';exact k5.block _ ql hqg));have o4:=jm o3 (w':=w3.setCell ⟨g,9,none⟩ (.slice (some ⟨q,0,none⟩) 0 cp)) (fun q' hq'=>by injection hq' with hq';subst hq';exact qo _ _ _ _ _ hqg);have b6:=(B1.out.trans (k5.below (B:=lo) (fun q hq=>by rw[hq];exact hlo) Rr.out)).setCell (p:=⟨g,9,none⟩) hlo (.slice (some ⟨q,0,none⟩) 0 cp);obtain⟨H6,O4,B6,WP⟩:=cU h6 o4 b6 wp;clear h5 k5 h6 o3 o4 b6 H4 H3 B1 Rr wp;go_wp2_with fail
     go_meet
     case rel=>exact⟨ae ⟨some ⟨q,0,none⟩,cp,_,[],m,H6.out,O4.out,WP.out,bj _,fun x=>by unfold Bl.add;rw[if_pos h64,HM.out];rfl⟩,ae B6.out,ae (aw MU B6.out.size)⟩
    ·go_wp2_with fail
     go_meet
     case rel=>exact⟨ae ⟨A,cp,bk.h,bk.rest,bk.n,H1.out,H2.out,Hu.out.h,by have:=Hu.out.rest;omega,fun x=>by unfold Bl.add;rw[if_neg h64]⟩,hBw,hSz⟩
   case rest=>
    obtain⟨hX,hBw,hSz⟩:=hcut;obtain⟨A,cp,h',rest',n',h1,h2,wh,hr,hadd⟩:=hX.out;clear c9 H1 H2 hX;have hkl:k<s.size:=hlt;have hkd:k<s.data.size:=hlt;have hck:ag (∀_:Unit,bR l k=(s[k]'hkl).toNat):=ae (fun _=>by
     rw[←HL.out];unfold bR;rw[aE,bO,ahN,Array.getElem?_eq_getElem hkd];rfl)
    have c9:=h1.rest wh;have z1:(k:Int)<(s.size:Int):=by omega
    have hgl:g<wc.heap.size:=aH.lt (g:=g) h1;obtain⟨i0,lD,hz0,hz1,hz2⟩:=info_parts aau;have hz:wc.heap.size≠g:=by omega
    have c9':=ai c9 (boxed wc (.cells ([.int .u8 ((s[k]'hkl).toNat:Int)]:List Value).toArray 5)).drew;obtain⟨v',w',hr',o2,gr,_⟩:=run_append_own (P:=ah) (w:=(wc.alloc (.cells ([.int .u8 ((s[k]'hkl).toNat:Int)]:List Value).toArray 5)).drew) lo 71 71 5 i0 (.int .u8 0) 1 1 cT lD hz0 hz1 hz2 rfl aJ (.slice A rest'.length cp) rest'.length (u8s rest') (jm h2 (fun q hq=>heap_alloc_old wc _ (DZ h2 hq))) ⟨wc.heap.size,0,none⟩ 1 1 [.int .u8 ((s[k]'hkl).toNat:Int)] rfl (cS wc _ 5) (by intro u hu;rw[List.mem_singleton.1 hu];rfl) (by show rest'.length+1≤9223372036854775807;omega) aR (aw hSz.out (by show wc.heap.size≤(wc.alloc _).heap.size;simp));obtain⟨A2,c2,hv2⟩:=rr o2;subst hv2;obtain⟨HR,HO2,G6⟩:=bz hr' o2 gr;have hw':fV w' g h' 32 (.slice A rest'.length cp) n':=aH.keep (g:=g) (aH.drew (aH.alloc (g:=g) h1 _)) (Keeps.row gr) (fun hq=>wR h2 h1 hq rfl);have c9a:=hw'.rest wh;have f9:=aH.frozen (g:=g) hw' 9;have hb':=(hBw.out.alloc hSz.out (.cells ([.int .u8 ((s[k]'hkl).toNat:Int)]:List Value).toArray 5)).drew.trans ((Keeps.row gr).below (B:=lo) (fun q hq=>by
     rcases h2.2 with⟨hv,_⟩|⟨q',cap,cur,hv,hb,_⟩
     ·rw[hv]at hq;cases hq
     ·rw[hv]at hq;injection hq with hq;subst hq;exact hb) (aw hSz.out (by show wc.heap.size≤(wc.alloc _).heap.size;simp)))
    obtain⟨HW,SL⟩:=aL hw' hb';clear hw' hb';obtain⟨H1,H2⟩:=aL h1 h2;clear h1 h2 hr' o2 gr;go_upto_region 10 with fail
    refine dW 12 (fun u=>u.cell? ⟨g,9,none⟩=some (.slice A rest'.length cp)) bo (c9) (fun hHeld=>?_);refine dT 0 ?_
    refine dT 1 ?_
    refine dT 2 ?_
    refine dT 3 ?_
    refine dT 4 ?_
    refine dT 5 ?_
    refine dT 6 ?_
    refine dT 7 ?_
    refine np 8 fun K hK=>?_;go_simp;refine hK.out _ _ (fun _=>c9') (fun hHeld=>?_);have hHeld:=hHeld aJ;clear hK K;try simp only[ck]
    refine np 9 fun K hK=>?_;refine kW rfl _ _ 71 71 rfl rfl rfl HR.out ?_;refine hK.out _ _ (fun _=>c9a) (fun hHeld=>?_);have hHeld:=hHeld aJ;clear hK K;try simp only[ck]
    refine np 10 fun K hK=>?_;go_simp;refine hK.out _ _ (fun _=>hHeld) (fun hHeld=>?_);have hHeld:=hHeld aJ;clear hK K;try simp only[ck]
    refine dT 11 ?_
    refine np 12 fun K hK=>?_;go_simp;refine hK.out _ _ (fun h=>absurd rfl h) (fun _=>?_);clear hK K hHeld;try simp only[ck]
    refine OU ?_;have g1:=HW.out.N6 wh (.slice A2 (rest'.length+1) c2);have g2:=jm HO2.out (w':=w'.setCell ⟨g,9,none⟩ (.slice A2 (rest'.length+1) c2)) (fun q hq=>qo _ _ _ _ _ (wR HO2.out HW.out hq));have g3:=SL.out.setCell (p:=⟨g,9,none⟩) hlo (.slice A2 (rest'.length+1) c2);rw[←hck.out ()]at g2;have hfin:Rn lo (w'.setCell ⟨g,9,none⟩ (.slice A2 (rest'.length+1) c2)) g (b.adds (l.take (k+1))):=by
     rw[hstep.out (),hadd];refine⟨_,g1,?_⟩;simp only[WQ,aj,List.length_singleton];exact g2
    obtain⟨G2,G3⟩:=aL hfin g3;clear g1 g2 g3 hfin;go_wp2_with fail
    go_roundw
    case rel=>exact⟨k+1,by omega,by go_num,G2,G3,ae (aw MU G3.out.size)⟩
    case measure=>simp[intOf];omega
  ·obtain rfl:k=s.size:=by omega
   go_wp2_with fail
   go_ret;refine⟨rfl,?_,hBw.out⟩;rw[HL.out];have h:=hBk.out;rw[←HLl.out,List.take_length]at h;exact h
def Bz:Array Value:=(hsL (aS 8 0) 0 au 0).toArray
theorem yJ(w:World):(Instr.alloc 235 true (.tuple #[])).run ah w=.ok (.pointer (some ⟨w.heap.size,0,none⟩)) (w.alloc (.cells Bz 235)):=by
 kernel_rfl
theorem sG{ops:Array Oper}{rest:List Oper}{o:Oper}{a:Act}{w:World}{Q:Exit→Act→World→Prop}(hgd:o.guard=none)(ho:o.op=.alloc 235)(h:wpList ah ops Q rest (a.put o.dst (.pointer (some ⟨w.heap.size,0,none⟩))) (w.alloc (.cells Bz 235))):wpList ah ops Q (o::rest) a w:=wpList_plain hgd fun _ hK=>by
 unfold Oper.wp execOp;simp only[ho,ah0,yJ,kl];exact hK _ _ h
theorem BB:(ah.info? 235).map (·.size)=some 11:=by kernel_rfl
theorem yK{h:List Nat}(hh:Ws 8 h)(sz n:Nat)(rv:Value):(hsL h sz rv n).toArray.size=11:=by
 unfold hsL;rw[abh,aj,ay,hh.len];rfl
theorem aav(h:List Nat)(sz n:Nat)(A:Option Addr)(m c:Nat):(hsL h sz (.slice A m c) n).toArray.all (·.oneCell')=true:=by
 unfold hsL;rw[List.all_toArray,List.all_append,List.all_map];simp only[aU];exact⟨List.all_eq_true.2 fun _ _=>rfl,rfl⟩
def outW(L:List Nat)(k:Nat):List Nat:=(aF k).foldl (fun v i=>v.set i (kO L i)) (aS 32 0)
theorem uh(L:List Nat)(k:Nat):outW L (k+1)=(outW L k).set k (kO L k):=j4 (fun v i=>v.set i (kO L i)) _ k
theorem WT(L:List Nat)(k:Nat):(outW L k).length=32:=by
 induction k with
 |zero=>exact lM
 |succ k ih=>rw[uh,List.length_set,ih]
theorem aaw(L:List Nat)(k:Nat)(hk:k≤32):outW L k=(aF k).map (kO L)++aS (32-k) 0:=by
 induction k with
 |zero=>rfl
 |succ k ih=>
  rw[uh,ih aR,List.range_succ,cL,List.set_append_right _ _ (by rw[ay,List.length_range];omega),ay,List.length_range,Nat.sub_self,show 32-k=(32-(k+1))+1 by omega,List.replicate_succ,List.append_assoc];rfl
theorem aax:(ah.info? 5).map (·.size)=some 1:=by kernel_rfl
theorem adb{w:World}{V g dL dC sL sC:Nat}{t ty:TypeId}{v u:List Nat}(hV:aH w V t (cC v))(ho:u.length≤v.length)(hsrc:∀j,j<u.length→w.cell? ⟨g,j,none⟩=some (.int .u8 (bR u j:Int)))(hn:u.length=Nat.min sL dL):∃w',(Builtin.copy_ #[71,71] ty #[.slice (some ⟨V,0,none⟩) dL dC,.slice (some ⟨g,0,none⟩) sL sC]).run ah w=.ok (goInt u.length) w'∧aH w' V t (cC (u++v.drop u.length))∧Keeps (fun k=>k=V) w w':=by
 have h:=run_copy_row (P:=ah) w 71 71 ty 5 V 0 dL dC ⟨g,0,none⟩ sL sC (cC v) t (u.map fun x:Nat=>ahL .u8 x) cT aax hV (by rw[ay];exact hn) (fun j x hx=>by
  rw[N4];have hj:j<u.length:=by
   have:=(List.getElem?_eq_some_iff.1 hx).1;rwa [ay]at this
  rw[bO,af hj]at hx;injection hx with hx
  subst hx;rw[hsrc j hj];unfold bR;rw[aE,af hj];rfl) (by rw[ay];unfold cC;rw[abh,ay,Nat.zero_add];exact ho) (fun x hx=>by
  obtain⟨n,_,rfl⟩:=List.mem_map.1 hx;rfl)
 rw[ay]at h;refine⟨_,h,?_,⟨rfl,rfl,rfl,by rw[setRow_size];exact ax _,fun k _ hk=>setRow_other w V k _ hk⟩⟩;have e:((cC v).toList.take 0++(u.map fun x:Nat=>ahL .u8 x)++(cC v).toList.drop (0+u.length)).toArray=cC (u++v.drop u.length):=by
  unfold cC;rw[cL,List.map_drop,MJ,lK,Nat.zero_add]
 rw[e];exact setRow_heap w V _ _ t (0,0) hV
theorem WU{w:World}(ord:fZ w){g lo:Nat}{b:Bl}(ok:b.Ok)(hn:b.n+b.rest.length≤33554432)(hne:0<b.rest.length)(hb:Rn lo w g b):Calls ah 150 #[.pointer (some ⟨g,0,none⟩)] w (Got (.string ⟨(b.sum.map ah5).toArray⟩) w):=by
 obtain⟨rv,h1,h2⟩:=hb;obtain⟨A,cp,hrv⟩:=rr h2;subst hrv;have c8:=h1.size ok.h;obtain⟨H1,H2,Rq,DX⟩:=cU h1 h2 ok ord;clear h1 h2 ok ord;go_enter Tryz.func150,Tryz.ntmps150;go_upto_region 3 with fail
 refine wp_region_lit ?_
 iterate 6 go_step
 refine wpList_load_row rfl _ _ rfl g rfl _ _ (0,0) _ H1.out Tryz.underlying235 rfl (by rw[yK Rq.out.h];exact BB) ?_;refine sG rfl rfl ?_;refine wpList_store_row rfl _ _ _ rfl w.heap.size _ rfl rfl 235 Bz (heap_alloc_new w _) (by rw[yK Rq.out.h];exact BB) (by rw[yK Rq.out.h];rfl) (aav _ _ _ _ _ _) ?_;have hC:ag (fV ((w.alloc (.cells Bz 235)).setRow w.heap.size (hsL b.h 32 (.slice A b.rest.length cp) b.n).toArray) w.heap.size b.h 32 (.slice A b.rest.length cp) b.n):=ae (setRow_heap _ _ _ _ _ (0,0) (heap_alloc_new w _));have hBl:ag (Below w.heap.size w ((w.alloc (.cells Bz 235)).setRow w.heap.size (hsL b.h 32 (.slice A b.rest.length cp) b.n).toArray)):=ae ⟨rfl,rfl,rfl,by rw[setRow_size];simp,fun k hk=>by rw[setRow_other _ _ _ _ aR];exact heap_alloc_old w _ hk⟩;have H2b:=ae (jm H2.out (fun q hq=>hBl.out.block q (DZ H2.out hq)));clear c8 H2;generalize(w.alloc (.cells Bz 235)).setRow w.heap.size (hsL b.h 32 (.slice A b.rest.length cp) b.n).toArray=w1 at hC hBl H2b⊢;generalize hCe:w.heap.size=C at hC hBl⊢;have HCe:=ae hCe;clear hCe;have c9:=hC.out.rest Rq.out.h;have c10:=hC.out.num Rq.out.h;have f10:=aH.frozen (g:=C) hC.out 10;obtain⟨m,hm⟩:=bw (b.n+b.rest.length);have e0:IntKind.u64.wrap (b.rest.length:Int)=(b.rest.length:Int):=by rw[fl];omega
 have e1:IntKind.u64.wrap ((b.n:Int)+(b.rest.length:Int))=(m:Int):=by rw[fl];omega
 obtain⟨h3,HM⟩:=aL (hC.out.WN Rq.out.h m) hm;clear hm;go_upto_region 5 with fail
 obtain⟨aay,HR2⟩:=aL (hBl.out.setCell (p:=⟨C,10,none⟩) (ax _) (.int .u64 m)) (jm H2b.out (w':=w1.setCell ⟨C,10,none⟩ (.int .u64 m)) (fun q hq=>qo _ _ _ _ _ (wR H2b.out hC.out hq)));clear c9 c10 f10 e0 e1 hBl H2b hC H1;generalize w1.setCell ⟨C,10,none⟩ (.int .u64 m)=w2 at h3 aay HR2⊢;go_upto_region 6 with fail
 have hD0:=aH.new w2 237 (cC (aS 64 0));have hb2:=boxed w2 (.cells (cC (aS 64 0)) 237);have h4:fV (w2.alloc (.cells (cC (aS 64 0)) 237)) C b.h 32 (.slice A b.rest.length cp) m:=aH.below (g:=C) h3.out hb2 (aH.lt (g:=C) h3.out);have HR3:=ae (jm HR2.out (fun q hq=>hb2.block q (DZ HR2.out hq)));have aaz:=ae (aay.out.trans (hb2.mono (by have:=aay.out.size;have:=HCe.out;omega)));have hCD:ag (C<w2.heap.size):=ae (aH.lt (g:=C) h3.out);rw[show cC (aS 64 0)= #[.int .u8 0,.int .u8 0,.int .u8 0,.int .u8 0,.int .u8 0,.int .u8 0,.int .u8 0,.int .u8 0,.int .u8 0,.int .u8 0,.int .u8 0,.int .u8 0,.int .u8 0,.int .u8 0,.int .u8 0,.int .u8 0,.int .u8 0,.int .u8 0,.int .u8 0,.int .u8 0,.int .u8 0,.int .u8 0,.int .u8 0,.int .u8 0,.int .u8 0,.int .u8 0,.int .u8 0,.int .u8 0,.int .u8 0,.int .u8 0,.int .u8 0,.int .u8 0,.int .u8 0,.int .u8 0,.int .u8 0,.int .u8 0,.int .u8 0,.int .u8 0,.int .u8 0,.int .u8 0,.int .u8 0,.int .u8 0,.int .u8 0,.int .u8 0,.int .u8 0,.int .u8 0,.int .u8 0,.int .u8 0,.int .u8 0,.int .u8 0,.int .u8 0,.int .u8 0,.int .u8 0,.int .u8 0,.int .u8 0,.int .u8 0,.int .u8 0,.int .u8 0,.int .u8 0,.int .u8 0,.int .u8 0,.int .u8 0,.int .u8 0,.int .u8 0]from rfl]at hD0 h4 HR3 aaz;obtain⟨HD0,H4⟩:=aL hD0 h4;clear hD0 hb2 h4 HR2 aay h3;generalize w2.alloc (.cells #[.int .u8 0,.int .u8 0,.int .u8 0,.int .u8 0,.int .u8 0,.int .u8 0,.int .u8 0,.int .u8 0,.int .u8 0,.int .u8 0,.int .u8 0,.int .u8 0,.int .u8 0,.int .u8 0,.int .u8 0,.int .u8 0,.int .u8 0,.int .u8 0,.int .u8 0,.int .u8 0,.int .u8 0,.int .u8 0,.int .u8 0,.int .u8 0,.int .u8 0,.int .u8 0,.int .u8 0,.int .u8 0,.int .u8 0,.int .u8 0,.int .u8 0,.int .u8 0,.int .u8 0,.int .u8 0,.int .u8 0,.int .u8 0,.int .u8 0,.int .u8 0,.int .u8 0,.int .u8 0,.int .u8 0,.int .u8 0,.int .u8 0,.int .u8 0,.int .u8 0,.int .u8 0,.int .u8 0,.int .u8 0,.int .u8 0,.int .u8 0,.int .u8 0,.int .u8 0,.int .u8 0,.int .u8 0,.int .u8 0,.int .u8 0,.int .u8 0,.int .u8 0,.int .u8 0,.int .u8 0,.int .u8 0,.int .u8 0,.int .u8 0,.int .u8 0] 237)=w3 at HD0 H4 HR3 aaz⊢;generalize w2.heap.size=D at HD0 hCD⊢;rw[←show cC (aS 64 0)= #[.int .u8 0,.int .u8 0,.int .u8 0,.int .u8 0,.int .u8 0,.int .u8 0,.int .u8 0,.int .u8 0,.int .u8 0,.int .u8 0,.int .u8 0,.int .u8 0,.int .u8 0,.int .u8 0,.int .u8 0,.int .u8 0,.int .u8 0,.int .u8 0,.int .u8 0,.int .u8 0,.int .u8 0,.int .u8 0,.int .u8 0,.int .u8 0,.int .u8 0,.int .u8 0,.int .u8 0,.int .u8 0,.int .u8 0,.int .u8 0,.int .u8 0,.int .u8 0,.int .u8 0,.int .u8 0,.int .u8 0,.int .u8 0,.int .u8 0,.int .u8 0,.int .u8 0,.int .u8 0,.int .u8 0,.int .u8 0,.int .u8 0,.int .u8 0,.int .u8 0,.int .u8 0,.int .u8 0,.int .u8 0,.int .u8 0,.int .u8 0,.int .u8 0,.int .u8 0,.int .u8 0,.int .u8 0,.int .u8 0,.int .u8 0,.int .u8 0,.int .u8 0,.int .u8 0,.int .u8 0,.int .u8 0,.int .u8 0,.int .u8 0,.int .u8 0]from rfl]at HD0;obtain⟨q,hq⟩:=Bv HR3.out aR;subst hq;have c9:=H4.out.rest Rq.out.h;have aft:=Rq.out.rest;refine wp_region_still_tail 3 bo bo ?_;simp only[ahg,MJ,ahj,ahh]
 repeat still_step
 refine wpStill_nil ?_;change wpList _ _ _ _ _ w3.drew;obtain⟨w4,hr4,hD4,hk4⟩:=adb (w:=w3.drew) (V:=D) (g:=q) (dL:=64) (dC:=64) (sL:=b.rest.length) (sC:=cp) (ty:=3) (u:=b.rest) HD0.out.drew (by rw[lM];exact aft) (fun j hj=>ug HR3.out hj) (Nat.min_eq_left aft).symm;refine kF rfl _ _ _ _ rfl rfl rfl hr4 ?_;rw[List.drop_replicate]at hD4;have afu:C≠D:=by have:=hCD.out;omega
 have h5:fV w4 C b.h 32 (.slice (some ⟨q,0,none⟩) b.rest.length cp) m:=aH.keep (g:=C) (aH.drew (g:=C) H4.out) hk4 afu;have hb4:=aaz.out.drew.trans (hk4.below (B:=C) (fun x hx=>by have:=hCD.out;omega) (Nat.le_of_lt (aH.lt (g:=C) H4.out)));generalize hp:b.rest++aS (64-b.rest.length) 0=p at hD4;have hpl:p.length=64:=by rw[←hp,aj,lM];omega
 have hpb:∀i,bR p i<256:=fun i=>by
  unfold bR;rw[aE];rcases hi:p[i]? with _|x
  ·simp
  ·have hx:=iD hi;rw[←hp]at hx;rcases List.mem_append.1 hx with hx|hx
   ·exact Rq.out.byte x hx
   ·rw[(List.mem_replicate.1 hx).2];decide
 have hm':m<18446744073709551616:=by have:=HM.out;omega
 have ht:=Br (DX.out.below hb4 (by have:=HCe.out;have:=DX.out.lt;omega)) Rq.out.h h5 hm' (gp:=D) (cap:=64) (p:=p) (fun i hi=>by
  rw[hD4.cell i];unfold cC bR;rw[uz,bO,aE,af (by rw[hpl];exact hi)];rfl) hpb afu.symm (by have:=HCe.out;have:=DX.out.lt;omega) true
 obtain⟨HT,Hp,HB4⟩:=bz ht hp hb4;clear ht hp hb4 hpb hD4 hk4 hr4 HD0 H4 HR3 aaz h5 c9;go_upto_region 8 with(go_at_call 173;refine HT.out.mono ?_;rintro r w5⟨rfl,h6,k6⟩)
 have hb6:=HB4.out.trans (k6.below (B:=C) (fun x hx=>Nat.le_of_eq hx.symm) (by have:=HB4.out.size;have:=HCe.out;omega));have h7:=h6;have hE0:=aH.new w5 238 (cC (aS 32 0));have hbE:=boxed w5 (.cells (cC (aS 32 0)) 238);have H7:=ae (aH.below (g:=C) h7 hbE (aH.lt (g:=C) h7));have kQ:=ae (hb6.trans (hbE.mono (by have:=hb6.size;have:=HCe.out;omega)));have hCE:ag (C<w5.heap.size):=ae (aH.lt (g:=C) h7);have HE0:=ae hE0;clear h6 h7 k6 hb6 hbE hE0 HT HB4;rw[show cC (aS 32 0)= #[.int .u8 0,.int .u8 0,.int .u8 0,.int .u8 0,.int .u8 0,.int .u8 0,.int .u8 0,.int .u8 0,.int .u8 0,.int .u8 0,.int .u8 0,.int .u8 0,.int .u8 0,.int .u8 0,.int .u8 0,.int .u8 0,.int .u8 0,.int .u8 0,.int .u8 0,.int .u8 0,.int .u8 0,.int .u8 0,.int .u8 0,.int .u8 0,.int .u8 0,.int .u8 0,.int .u8 0,.int .u8 0,.int .u8 0,.int .u8 0,.int .u8 0,.int .u8 0]from rfl]at H7 kQ HE0;have wsL:=ub Rq.out.h m p true;have hL:ag (∀_:Unit,pM b.h m p true=b.last):=ae (fun _=>by unfold Bl.last;rw[Hp.out,HM.out]);go_upto_region 9 with fail
 generalize w5.alloc (.cells #[.int .u8 0,.int .u8 0,.int .u8 0,.int .u8 0,.int .u8 0,.int .u8 0,.int .u8 0,.int .u8 0,.int .u8 0,.int .u8 0,.int .u8 0,.int .u8 0,.int .u8 0,.int .u8 0,.int .u8 0,.int .u8 0,.int .u8 0,.int .u8 0,.int .u8 0,.int .u8 0,.int .u8 0,.int .u8 0,.int .u8 0,.int .u8 0,.int .u8 0,.int .u8 0,.int .u8 0,.int .u8 0,.int .u8 0,.int .u8 0,.int .u8 0,.int .u8 0] 238)=w6 at H7 kQ HE0⊢;generalize w5.heap.size=E at HE0 hCE⊢;rw[←show cC (aS 32 0)= #[.int .u8 0,.int .u8 0,.int .u8 0,.int .u8 0,.int .u8 0,.int .u8 0,.int .u8 0,.int .u8 0,.int .u8 0,.int .u8 0,.int .u8 0,.int .u8 0,.int .u8 0,.int .u8 0,.int .u8 0,.int .u8 0,.int .u8 0,.int .u8 0,.int .u8 0,.int .u8 0,.int .u8 0,.int .u8 0,.int .u8 0,.int .u8 0,.int .u8 0,.int .u8 0,.int .u8 0,.int .u8 0,.int .u8 0,.int .u8 0,.int .u8 0,.int .u8 0]from rfl]at HE0;generalize pM b.h m p true=L at H7 wsL hL;clear Hp HM;go_wp2_with fail
 go_loopw [33] (fun v33 wi=>∃k:Nat,k≤32∧v33=.int .i64 k∧ag (fV wi C L 32 (.slice (some ⟨q,0,none⟩) b.rest.length cp) m)∧ag (aH wi E 238 (cC (outW L k)))∧ag (Below C w wi)) (fun v33 _=>32-(intOf v33).toNat)
 case atStart=>exact⟨0,by omega,rfl,H7,HE0,kQ⟩
 case round=>
  obtain⟨k,hk,rfl,hH,hE,hB⟩:=hrel;obtain⟨wo,rfl⟩:=bw (wr:World);clear H7 HE0 kQ;by_cases hlt:k<32
  ·have hs:=uh L k;have hq8:k/4<8:=by omega
   have c0:=hH.out.word wsL hq8;have f0:=aH.frozen (g:=E) hE.out k;have d0:wo.cell? ⟨E,k,none⟩=some (.int .u8 (bR (outW L k) k:Int)):=by
    rw[hE.out.cell k];unfold cC bR;rw[uz,bO,aE,af (by rw[WT];exact hlt)];rfl
   generalize bR (outW L k) k=Y0 at d0;have hput:aH (wo.setCell ⟨E,k,none⟩ (.int .u8 (kO L k:Int))) E 238 (cC (outW L (k+1))):=by
    rw[hs];have:=aH.aM hE.out k (.int .u8 (kO L k:Int));unfold cC at this⊢;rw[List.setIfInBounds_toArray,←List.map_set]at this;exact this
   unfold kO at hput;have IE:=ae hput;have a0:(0:Int)≤(k:Int):=by omega
   have a1:(k:Int)<32:=by omega
   clear hput hs;generalize bR L (k/4)=X at c0 IE;have hEC:C≠E:=by have:=hCE.out;omega
   go_wp2_with fail
   go_roundw
   case rel=>
    have e:((X/2^(k%4*8)%256:Nat):Int)=(X:Int)/2^(k%4*8)%256:=by simp
    rw[←e];exact⟨k+1,by omega,by go_num,ae (aH.far hH.out (p:=⟨E,k,none⟩) hEC _),IE,ae (hB.out.setCell (p:=⟨E,k,none⟩) (Nat.le_of_lt hCE.out) _)⟩
   case measure=>simp[intOf];omega
  ·obtain rfl:k=32:=by omega
   have c8:=hH.out.size wsL;have hl:∀i,i<32→kO L i<256:=fun i _=>Nat.mod_lt _ (by decide)
   have hback:=run_convert_bytes_back (P:=ah) wo 71 9 5 ⟨E,0,none⟩ 32 (((aF 32).map (kO L)).map ah5) cT cD bq (fun j hj=>by
    have hj:j<32:=by simpa using hj
    rw[N4,hE.out.cell j,aaw L 32 aJ];have hv:kO L j%256=kO L j:=Nat.mod_eq_of_lt (hl j hj);have hv':((kO L j:Nat):Int)%256=(kO L j:Int):=by omega
    unfold cC;simp[hj,hv,hv'])
   rw[ay,ay,List.length_range]at hback;have HFin:ag (∀_:Unit,((aF 32).map (kO L)).map ah5=b.sum.map ah5):=ae (fun _=>by unfold Bl.sum;rw[hL.out ()]);generalize((aF 32).map (kO L)).map ah5=Z at hback HFin;have HB:=ae hB;clear hB hH hE hl;go_wp2_with fail
   go_ret;exact⟨by rw[←HFin.out ()];rfl,by rw[HCe.out];exact HB.out.out⟩
theorem WV{w:World}{lo g:Nat}(h:fV w g DY 32 au 0):Rn lo w g Bl.new:=⟨au,h,World.ownsRow_nil _ _ _ _⟩
theorem Bl.WW(b:Bl){l:List Nat}(h:l≠[]):0<(b.adds l).rest.length:=by
 rw[←List.dropLast_concat_getLast h,Bl.Bt];unfold Bl.add;split
 ·exact Nat.one_pos
 ·simp
theorem Rt{w:World}(ord:fZ w)(s:ByteArray)(hs:s.size≤16777216)(h0:s.size≠0):Calls ah 117 #[.int .i64 32,aG,.string s] w fun r w'=>r=.returned (.tuple #[.string (uc s),.int .i64 0])∧aW w w':=by
 have HN:=ae fun u=>WM u
 have HO:=ae ord;have hne:s.data.toList.map UInt8.toNat≠[]:=fun h=>h0 (by
  have:=congrArg List.length h;rw[ay]at this;exact this)
 have hll:(s.data.toList.map UInt8.toNat).length=s.size:=by rw[ay];rfl
 have hb:∀x∈s.data.toList.map UInt8.toNat,x<256:=fun x hx=>by
  obtain⟨y,_,rfl⟩:=List.mem_map.1 hx;exact y.toNat_lt
 obtain⟨HK,HP⟩:=aL (Bl.NY hb Bl.Wx) (Bl.WW Bl.new hne);have hn:=Bl.Wy (s.data.toList.map UInt8.toNat) Bl.new;rw[hll]at hn;have HL:ag ((Bl.new.adds (s.data.toList.map UInt8.toNat)).n+(Bl.new.adds (s.data.toList.map UInt8.toNat)).rest.length≤33554432):=ae (by rw[hn];show 0+0+s.size≤_;omega);obtain⟨hlt,HS⟩:=aL ord.lt hs;clear ord hne hll hb hn h0 hs;go_enter Tryz.func117,Tryz.ntmps117;go_wp2_with(first
  |(go_at_call 148;refine(HN.out _).mono ?_;rintro r w1⟨⟨g,hg,rfl,h1⟩,d1⟩;have HA:=ae (WR (HO.out.below d1 hlt.out) Bl.Wx s HS.out aJ hg d1.size hlt.out (WV h1));obtain⟨HO1,D1⟩:=aL (HO.out.below d1 hlt.out) d1;clear h1 d1 hg)
  |(go_at_call 149;refine HA.out.mono ?_;rintro r w2⟨rfl,h2,d2⟩;have hS:Calls ah 150 #[.pointer (some ⟨g,0,none⟩)] w2 (Got (.string (uc s)) w2):=WU (HO1.out.below d2 hlt.out) HK.out HL.out HP.out h2;obtain⟨N7,D2⟩:=aL hS (D1.out.trans d2);clear h2 d2 hS HA)
  |(go_at_call 150;refine N7.out.mono ?_;rintro r w3⟨rfl,d3⟩))
 go_ret2;exact⟨rfl,after D2.out d3⟩
theorem WX{w:World}(ord:fZ w)(s:ByteArray)(hs:s.size≤16777216)(h0:s.size≠0):Calls ah 70 #[.string s] w (Got (.string (uc s)) w):=by
 have HS:=ae (Rt ord s hs h0);generalize uc s=t at HS⊢;clear ord hs h0;go_enter Tryz.func70,Tryz.ntmps70;go_wp2_with(go_at_call 117;refine HS.out.mono ?_;rintro r w2⟨rfl,d2⟩)
 go_ret;exact⟨rfl,d2⟩
def cz(m:Mp):ByteArray:=if(cR m).2=0 then uc (cR m).1 else⟨#[]⟩
theorem yL{m:Mp}(h:(cR m).2=0):(cR m).1.size≤32768∧(cR m).1.size≠0:=by
 have h3:=mR (may:=jE m) (b:=zE m) h;have e:(cR m).1=iJ (zE m):=congrArg Prod.fst h3.2.2;rw[e,Vk];refine⟨h3.2.1,?_⟩;unfold zE;rw[aj,aP];omega
theorem uj{w:World}(env:Env w)(ord:fZ w){pv rv:Value}{m:Mp}(hp:df w pv m.aK)(hr:eG w rv m.aA)(fit:jG m)(sz:∀p∈m.aK,gQ p)(hpl:m.aK.length≤4000000)(hrl:m.aA.length≤4000000)(hol:m.policy.size≤2000000)(hml:jE m=true→(zE m).length≤80000000):Calls ah 22 #[.agg #[.int .u64 (m.version:Int),pv,rv,.string m.policy]] w (Got (.string (cz m)) w):=by
 have he:=fun u(hu:aW w u)=>rm (env.below hu) (hp.below hu) (a8.below hr hu) fit sz hpl hrl hol hml
 have hh:∀u,aW w u→(cR m).2=0→Calls ah 70 #[.string (cR m).1] u (Got (.string (cz m)) u):=fun u hu h=>by
  have:=WX (ord.below hu ord.lt) (cR m).1 (by have:=(yL h).1;omega) (yL h).2;unfold cz;rw[if_pos h];exact this
 have h0:(cR m).2≠0→cz m=⟨#[]⟩:=fun h=>by unfold cz;rw[if_neg h]
 obtain⟨Ap,cp,rfl⟩:=hp.shape;obtain⟨Ar,cr,rfl⟩:=a8.shape hr;generalize cz m=G at hh h0⊢;generalize cR m=R at he hh h0;obtain⟨version,aK,aA,policy⟩:=m;simp only at*;generalize aA.length=NR at*;generalize aK.length=NP at*;obtain⟨HE,HH,H0,HB,HM⟩:=eB he hh h0 (boxed w (.cells #[.int .u64 version,.slice Ap NP cp,.slice Ar NR cr,.string policy] 26)) (aH.new w 26 #[.int .u64 version,.slice Ap NP cp,.slice Ar NR cr,.string policy]);clear he hh h0 hp hr fit sz hpl hrl hol hml env ord;go_enter Tryz.func22,Tryz.ntmps22;go_upto_region 1 with fail
 generalize w.alloc (.cells #[.int .u64 version,.slice Ap NP cp,.slice Ar NR cr,.string policy] 26)=w1 at HB HM⊢;generalize w.heap.size=P at HM⊢;obtain⟨m0,m1,m2,m3⟩:=dY HM;go_upto_region 2 with(go_at_call 18;refine(HE.out _ HB.out).mono ?_;rintro r w2⟨⟨t,e,hte,rfl⟩,d2⟩;have Hte:=ae hte;have HB2:=bg HB d2;clear hte d2)
 by_cases hz:e=0
 ·have HO:=HH.out _ HB2.out (by rw[←Hte.out];exact hz);rw[←Hte.out]at HO;have HO':=ae HO;simp only at HO';have q0:((e:Int) !=0)=false:=by simp[hz]
  clear HO hz;go_wp2_with(go_at_call 70;refine HO'.out.mono ?_;rintro r w3⟨rfl,d3⟩)
  go_ret;exact⟨rfl,after HB2.out d3⟩
 ·have HG:=ae (H0.out (by rw[←Hte.out];exact hz));have q0:((e:Int) !=0)=true:=by simp;omega
  clear hz;go_wp2_with fail
  go_ret;exact⟨by rw[HG.out];rfl,HB2.out⟩
theorem agT(x y:ByteArray):(x==y)=decide (x=y):=by
 obtain⟨a⟩:=x;obtain⟨b⟩:=y;show(a==b)=_;rw[gW,decide_eq_true_eq,beq_iff_eq,ByteArray.mk.injEq]
theorem abG(x y:Ad)(w:World):(binOp .neq 52 (.agg x.cells) (.agg y.cells)).run ah w=.ok (.bool (!decide (x=y))) w:=by
 have h:=wk x.hi x.lo y.hi y.lo x.v6 y.v6 9997 w;rw[Vs]at h;unfold Ad.cells;simp only[binOp];simp[Op.equal,Op.maxDepth,h]
theorem abH(x y:En)(w:World):(binOp .neq 55 (.agg (cF x).toArray) (.agg (cF y).toArray)).run ah w=.ok (.bool (!decide (x=y))) w:=by
 have h:(Op.equalIn 10000 55 (.agg (cF x).toArray) (.agg (cF y).toArray)).run ah w=.ok (decide (x=y)) w:=Dv x y 9996 w;unfold cF at h⊢;simp only[binOp];simp[Op.equal,Op.maxDepth,h]
theorem aaA(x y:Ry)(d:Nat)(w:World):(Op.equalIn (d+5) 57 (.agg (bH x).toArray) (.agg (bH y).toArray)).run ah w=.ok (decide (x=y)) w:=by
 have h32:ah.stoodInHeld 57=false:=by kernel_rfl
 have ha:=fun w=>Dv x.fin y.fin d w
 unfold uZ ya at ha;have hp:∀w,(Op.equalIn (d+4) 5 (.int .u8 (x.id:Int)) (.int .u8 (y.id:Int))).run ah w=.ok (decide (x.id=y.id)) w:=by
  intro w;rw[show decide (x.id=y.id)=((x.id:Int)==(y.id:Int)) by rw[gW,decide_eq_true_eq,beq_iff_eq];omega];simp[go_sem,cD,Op.equalIn]
 have hk:∀w,(Op.equalIn (d+4) 9 (.string x.key) (.string y.key)).run ah w=.ok (decide (x.key=y.key)) w:=by
  intro w;rw[←agT];simp[go_sem,bq,Op.equalIn]
 obtain⟨i,k,⟨⟨a,b,c⟩,p⟩⟩:=x;obtain⟨i',k',⟨⟨a',b',c'⟩,p'⟩⟩:=y;simp only at ha hp hk;unfold bH;rw[run_equalIn_struct w (d+4) 57 _ _ bo h32];simp[go_sem,Tryz.underlying57,part,ha,hp,hk];by_cases h1:i=i'<;>by_cases h2:k=k'<;>by_cases h3:((⟨a,b,c⟩:Ad),p)=(⟨a',b',c'⟩,p')<;>simp_all
theorem abI(x y:Ry)(w:World):(binOp .neq 57 (.agg (bH x).toArray) (.agg (bH y).toArray)).run ah w=.ok (.bool (!decide (x=y))) w:=by
 have h:(Op.equalIn 10000 57 (.agg (bH x).toArray) (.agg (bH y).toArray)).run ah w=.ok (decide (x=y)) w:=aaA x y 9995 w;unfold bH at h⊢;simp only[binOp];simp[Op.equal,Op.maxDepth,h]
theorem aaB{w:World}{v1 v2:Value}(l m:List ByteArray)(hl:l.length≤4000000)(hm:m.length≤4000000)(h1:a8 w v1 l.length 1 (strCells l))(h2:a8 w v2 m.length 1 (strCells m)):Calls ah 73 #[v1,v2] w (Got (.bool (decide (l=m))) w):=by
 obtain⟨A1,cap1,rfl,_,hA1⟩:=h1;obtain⟨A2,cap2,rfl,_,hA2⟩:=h2;obtain⟨HA1,HA2⟩:=aL hA1 hA2;clear hA1 hA2;by_cases hn:l.length=m.length
 ·obtain⟨N,hN⟩:=bw l.length;rw[←hn]at HA2 hm⊢;rw[←hN]at HA1 HA2 hl⊢;obtain⟨jL,kX⟩:=aL hN (hN.trans hn);clear hn hN hm;obtain⟨R,hR⟩:=bw (decide (l=m));rw[←hR];have HR:=ae hR;clear hR;go_enter Tryz.func73,Tryz.ntmps73;go_wp2_with fail
  go_loopw [13] (fun v13 wr=>∃k:Nat,k≤N∧v13=.int .i64 k∧ag (aW w wr)∧ag (l.take k=m.take k)) (fun v13 _=>N-(intOf v13).toNat)
  case atStart=>exact⟨0,bj _,rfl,ae (aI _ _),ae rfl⟩
  case round=>
   obtain⟨k,hk,rfl,HW,hsame⟩:=hrel;by_cases hlt:k<N
   ·have hkl:k<l.length:=by have:=jL.out;omega
    have hkm:k<m.length:=by have:=kX.out;omega
    obtain⟨q1,o1,rfl,hc1⟩:=HA1.out aR;obtain⟨q2,o2,rfl,hc2⟩:=HA2.out aR;have ht1:=aC hkl;have ht2:=aC hkm;have hne:l[k]≠m[k]→l≠m:=fun h e=>h (by simp only[e])
    have d1:=ai (hc1 k _ (by unfold strCells;rw[bO,af hkl];rfl)) HW.out;have d2:=ai (hc2 k _ (by unfold strCells;rw[bO,af hkm];rfl)) HW.out;generalize l[k]=X at ht1 hne d1;generalize m[k]=Y at ht2 hne d2;clear hc1 hc2 hkl hkm;by_cases hX:(X:ByteArray)=Y
    ·have Ly:ag (l.take (k+1)=m.take (k+1)):=ae (by rw[ht1,ht2,hsame.out,hX]);have hq:(X.toList==Y.toList)=true:=by rw[hX];simp
     clear ht1 ht2 hne hX;go_upto_region 6 with fail
     go_quiet (fail);go_wp2_with fail
     go_roundw
     case rel=>exact⟨k+1,by omega,by go_num,ae (HW.out.gK _),Ly⟩
     case measure=>simp[intOf];omega
    ·have ej:ag (R=false):=ae (by rw[HR.out];exact decide_eq_false (hne hX));have hq:(X.toList==Y.toList)=false:=by simp only[beq_eq_false_iff_ne,ne_eq];exact fun h=>hX (toList_inj h)
     clear ht1 ht2 hne hX;go_upto_region 6 with fail
     go_quiet (fail);go_wp2_with fail
     go_ret;exact⟨by rw[ej.out];rfl,HW.out.gK _⟩
   ·obtain rfl:k=N:=by omega
    have ej:ag (R=true):=ae (by
     rw[HR.out];have e:=hsame.out;rw[aN (by have:=jL.out;omega),aN (by have:=kX.out;omega)]at e;exact decide_eq_true e)
    go_wp2_with fail
    go_ret;exact⟨by rw[ej.out];rfl,HW.out⟩
 ·have hd:decide (l=m)=false:=decide_eq_false fun e=>hn (by rw[e])
  rw[hd];generalize l.length=N1 at*;generalize m.length=N2 at*;have hne:((N1:Int) !=(N2:Int))=true:=by simp;omega
  clear hn hd HA1 HA2;go_enter Tryz.func73,Tryz.ntmps73;go_wp2_with fail
  go_ret;exact⟨rfl,aI _ _⟩
theorem WY{w:World}{v1 v2:Value}(l m:List Ad)(hl:l.length≤4000000)(hm:m.length≤4000000)(h1:a8 w v1 l.length 3 (dy l))(h2:a8 w v2 m.length 3 (dy m)):Calls ah 74 #[v1,v2] w (Got (.bool (decide (l=m))) w):=by
 obtain⟨A1,cap1,rfl,_,hA1⟩:=h1;obtain⟨A2,cap2,rfl,_,hA2⟩:=h2;obtain⟨HA1,HA2⟩:=aL hA1 hA2;clear hA1 hA2;by_cases hn:l.length=m.length
 ·obtain⟨N,hN⟩:=bw l.length;rw[←hn]at HA2 hm⊢;rw[←hN]at HA1 HA2 hl⊢;obtain⟨jL,kX⟩:=aL hN (hN.trans hn);clear hn hN hm;obtain⟨R,hR⟩:=bw (decide (l=m));rw[←hR];have HR:=ae hR;clear hR;go_enter Tryz.func74,Tryz.ntmps74;go_wp2_with fail
  go_loopw [13] (fun v13 wr=>∃k:Nat,k≤N∧v13=.int .i64 k∧ag (aW w wr)∧ag (l.take k=m.take k)) (fun v13 _=>N-(intOf v13).toNat)
  case atStart=>exact⟨0,bj _,rfl,ae (aI _ _),ae rfl⟩
  case round=>
   obtain⟨k,hk,rfl,HW,hsame⟩:=hrel;by_cases hlt:k<N
   ·have hkl:k<l.length:=by have:=jL.out;omega
    have hkm:k<m.length:=by have:=kX.out;omega
    obtain⟨q1,o1,rfl,hc1⟩:=HA1.out aR;obtain⟨q2,o2,rfl,hc2⟩:=HA2.out aR;have ht1:=aC hkl;have ht2:=aC hkm;have hne:l[k]≠m[k]→l≠m:=fun h e=>h (by simp only[e])
    have g10:=aD (fun a:Ad=>a.cells.toList) 3 (fun a:Ad=>rfl) (af hkl) (r:=0) rfl;have g11:=aD (fun a:Ad=>a.cells.toList) 3 (fun a:Ad=>rfl) (af hkl) (r:=1) rfl;have g12:=aD (fun a:Ad=>a.cells.toList) 3 (fun a:Ad=>rfl) (af hkl) (r:=2) rfl;have g20:=aD (fun a:Ad=>a.cells.toList) 3 (fun a:Ad=>rfl) (af hkm) (r:=0) rfl;have g21:=aD (fun a:Ad=>a.cells.toList) 3 (fun a:Ad=>rfl) (af hkm) (r:=1) rfl;have g22:=aD (fun a:Ad=>a.cells.toList) 3 (fun a:Ad=>rfl) (af hkm) (r:=2) rfl;have d10:=ai (hc1 _ _ g10) HW.out;have d11:=ai (hc1 _ _ g11) HW.out;have d12:=ai (hc1 _ _ g12) HW.out;have lR:=ai (hc2 _ _ g20) HW.out;have oI:=ai (hc2 _ _ g21) HW.out;have oJ:=ai (hc2 _ _ g22) HW.out;clear g10 g11 g12 g20 g21 g22;generalize l[k]=X at ht1 hne d10 d11 d12;generalize m[k]=Y at ht2 hne lR oI oJ;have hqq:=fun W=>abG X Y W
    obtain⟨v1,hi1,lo1⟩:=X;obtain⟨v2,hi2,lo2⟩:=Y;unfold Ad.cells at hqq;simp only at hqq d10 d11 d12 lR oI oJ;rw[cq]at d10 lR;rw[←jh]at d11 d12 oI oJ;clear hc1 hc2 hkl hkm;by_cases hX:(⟨v1,hi1,lo1⟩:Ad)=⟨v2,hi2,lo2⟩
    ·have Ly:ag (l.take (k+1)=m.take (k+1)):=ae (by rw[ht1,ht2,hsame.out,hX]);have hq:=hqq;rw[decide_eq_true hX]at hq;simp only[ah9]at hq;clear hqq;clear ht1 ht2 hne hX;go_upto_region 6 with fail
     go_quiet (fail);go_wp2_with fail
     go_roundw
     case rel=>exact⟨k+1,by omega,by go_num,ae (HW.out.gK _),Ly⟩
     case measure=>simp[intOf];omega
    ·have ej:ag (R=false):=ae (by rw[HR.out];exact decide_eq_false (hne hX));have hq:=hqq;rw[decide_eq_false hX]at hq;simp only[ahV]at hq;clear hqq;clear ht1 ht2 hne hX;go_upto_region 6 with fail
     go_quiet (fail);go_wp2_with fail
     go_ret;exact⟨by rw[ej.out];rfl,HW.out.gK _⟩
   ·obtain rfl:k=N:=by omega
    have ej:ag (R=true):=ae (by
     rw[HR.out];have e:=hsame.out;rw[aN (by have:=jL.out;omega),aN (by have:=kX.out;omega)]at e;exact decide_eq_true e)
    go_wp2_with fail
    go_ret;exact⟨by rw[ej.out];rfl,HW.out⟩
 ·have hd:decide (l=m)=false:=decide_eq_false fun e=>hn (by rw[e])
  rw[hd];generalize l.length=N1 at*;generalize m.length=N2 at*;have hne:((N1:Int) !=(N2:Int))=true:=by simp;omega
  clear hn hd HA1 HA2;go_enter Tryz.func74,Tryz.ntmps74;go_wp2_with fail
  go_ret;exact⟨rfl,aI _ _⟩
theorem WZ{w:World}{v1 v2:Value}(l m:List En)(hl:l.length≤4000000)(hm:m.length≤4000000)(h1:a8 w v1 l.length 4 (l9 l))(h2:a8 w v2 m.length 4 (l9 m)):Calls ah 75 #[v1,v2] w (Got (.bool (decide (l=m))) w):=by
 obtain⟨A1,cap1,rfl,_,hA1⟩:=h1;obtain⟨A2,cap2,rfl,_,hA2⟩:=h2;obtain⟨HA1,HA2⟩:=aL hA1 hA2;clear hA1 hA2;by_cases hn:l.length=m.length
 ·obtain⟨N,hN⟩:=bw l.length;rw[←hn]at HA2 hm⊢;rw[←hN]at HA1 HA2 hl⊢;obtain⟨jL,kX⟩:=aL hN (hN.trans hn);clear hn hN hm;obtain⟨R,hR⟩:=bw (decide (l=m));rw[←hR];have HR:=ae hR;clear hR;go_enter Tryz.func75,Tryz.ntmps75;go_wp2_with fail
  go_loopw [13] (fun v13 wr=>∃k:Nat,k≤N∧v13=.int .i64 k∧ag (aW w wr)∧ag (l.take k=m.take k)) (fun v13 _=>N-(intOf v13).toNat)
  case atStart=>exact⟨0,bj _,rfl,ae (aI _ _),ae rfl⟩
  case round=>
   obtain⟨k,hk,rfl,HW,hsame⟩:=hrel;by_cases hlt:k<N
   ·have hkl:k<l.length:=by have:=jL.out;omega
    have hkm:k<m.length:=by have:=kX.out;omega
    obtain⟨q1,o1,rfl,hc1⟩:=HA1.out aR;obtain⟨q2,o2,rfl,hc2⟩:=HA2.out aR;have ht1:=aC hkl;have ht2:=aC hkm;have hne:l[k]≠m[k]→l≠m:=fun h e=>h (by simp only[e])
    have g10:=aD cF 4 fF (af hkl) (r:=0) rfl;have g11:=aD cF 4 fF (af hkl) (r:=1) rfl;have g12:=aD cF 4 fF (af hkl) (r:=2) rfl;have g13:=aD cF 4 fF (af hkl) (r:=3) rfl;have g20:=aD cF 4 fF (af hkm) (r:=0) rfl;have g21:=aD cF 4 fF (af hkm) (r:=1) rfl;have g22:=aD cF 4 fF (af hkm) (r:=2) rfl;have g23:=aD cF 4 fF (af hkm) (r:=3) rfl;have d10:=ai (hc1 _ _ g10) HW.out;have d11:=ai (hc1 _ _ g11) HW.out;have d12:=ai (hc1 _ _ g12) HW.out;have d13:=ai (hc1 _ _ g13) HW.out;have lR:=ai (hc2 _ _ g20) HW.out;have oI:=ai (hc2 _ _ g21) HW.out;have oJ:=ai (hc2 _ _ g22) HW.out;have tc:=ai (hc2 _ _ g23) HW.out;clear g10 g11 g12 g13 g20 g21 g22 g23;generalize l[k]=X at ht1 hne d10 d11 d12 d13;generalize m[k]=Y at ht2 hne lR oI oJ tc;have hqq:=fun W=>abH X Y W
    obtain⟨⟨v1,hi1,lo1⟩,po1⟩:=X;obtain⟨⟨v2,hi2,lo2⟩,po2⟩:=Y;unfold cF at hqq;simp only at hqq d10 d11 d12 d13 lR oI oJ tc;rw[cq]at d10 lR;rw[←jh]at d11 d12 d13 oI oJ tc;clear hc1 hc2 hkl hkm;by_cases hX:(⟨⟨v1,hi1,lo1⟩,po1⟩:En)=⟨⟨v2,hi2,lo2⟩,po2⟩
    ·have Ly:ag (l.take (k+1)=m.take (k+1)):=ae (by rw[ht1,ht2,hsame.out,hX]);have hq:=hqq;rw[decide_eq_true hX]at hq;simp only[ah9]at hq;clear hqq;clear ht1 ht2 hne hX;go_upto_region 6 with fail
     go_quiet (fail);go_wp2_with fail
     go_roundw
     case rel=>exact⟨k+1,by omega,by go_num,ae (HW.out.gK _),Ly⟩
     case measure=>simp[intOf];omega
    ·have ej:ag (R=false):=ae (by rw[HR.out];exact decide_eq_false (hne hX));have hq:=hqq;rw[decide_eq_false hX]at hq;simp only[ahV]at hq;clear hqq;clear ht1 ht2 hne hX;go_upto_region 6 with fail
     go_quiet (fail);go_wp2_with fail
     go_ret;exact⟨by rw[ej.out];rfl,HW.out.gK _⟩
   ·obtain rfl:k=N:=by omega
    have ej:ag (R=true):=ae (by
     rw[HR.out];have e:=hsame.out;rw[aN (by have:=jL.out;omega),aN (by have:=kX.out;omega)]at e;exact decide_eq_true e)
    go_wp2_with fail
    go_ret;exact⟨by rw[ej.out];rfl,HW.out⟩
 ·have hd:decide (l=m)=false:=decide_eq_false fun e=>hn (by rw[e])
  rw[hd];generalize l.length=N1 at*;generalize m.length=N2 at*;have hne:((N1:Int) !=(N2:Int))=true:=by simp;omega
  clear hn hd HA1 HA2;go_enter Tryz.func75,Tryz.ntmps75;go_wp2_with fail
  go_ret;exact⟨rfl,aI _ _⟩
theorem Hw{w:World}{v1 v2:Value}(l m:List Ry)(hl:l.length≤4000000)(hm:m.length≤4000000)(h1:a8 w v1 l.length 6 (dX l))(h2:a8 w v2 m.length 6 (dX m)):Calls ah 26 #[v1,v2] w (Got (.bool (decide (l=m))) w):=by
 obtain⟨A1,cap1,rfl,_,hA1⟩:=h1;obtain⟨A2,cap2,rfl,_,hA2⟩:=h2;obtain⟨HA1,HA2⟩:=aL hA1 hA2;clear hA1 hA2;by_cases hn:l.length=m.length
 ·obtain⟨N,hN⟩:=bw l.length;rw[←hn]at HA2 hm⊢;rw[←hN]at HA1 HA2 hl⊢;obtain⟨jL,kX⟩:=aL hN (hN.trans hn);clear hn hN hm;obtain⟨R,hR⟩:=bw (decide (l=m));rw[←hR];have HR:=ae hR;clear hR;go_enter Tryz.func26,Tryz.ntmps26;go_wp2_with fail
  go_loopw [13] (fun v13 wr=>∃k:Nat,k≤N∧v13=.int .i64 k∧ag (aW w wr)∧ag (l.take k=m.take k)) (fun v13 _=>N-(intOf v13).toNat)
  case atStart=>exact⟨0,bj _,rfl,ae (aI _ _),ae rfl⟩
  case round=>
   obtain⟨k,hk,rfl,HW,hsame⟩:=hrel;by_cases hlt:k<N
   ·have hkl:k<l.length:=by have:=jL.out;omega
    have hkm:k<m.length:=by have:=kX.out;omega
    obtain⟨q1,o1,rfl,hc1⟩:=HA1.out aR;obtain⟨q2,o2,rfl,hc2⟩:=HA2.out aR;have ht1:=aC hkl;have ht2:=aC hkm;have hne:l[k]≠m[k]→l≠m:=fun h e=>h (by simp only[e])
    have g10:=aD bH 6 bI (af hkl) (r:=0) rfl;have g11:=aD bH 6 bI (af hkl) (r:=1) rfl;have g12:=aD bH 6 bI (af hkl) (r:=2) rfl;have g13:=aD bH 6 bI (af hkl) (r:=3) rfl;have g14:=aD bH 6 bI (af hkl) (r:=4) rfl;have g15:=aD bH 6 bI (af hkl) (r:=5) rfl;have g20:=aD bH 6 bI (af hkm) (r:=0) rfl;have g21:=aD bH 6 bI (af hkm) (r:=1) rfl;have g22:=aD bH 6 bI (af hkm) (r:=2) rfl;have g23:=aD bH 6 bI (af hkm) (r:=3) rfl;have g24:=aD bH 6 bI (af hkm) (r:=4) rfl;have N8:=aD bH 6 bI (af hkm) (r:=5) rfl;have d10:=ai (hc1 _ _ g10) HW.out;have d11:=ai (hc1 _ _ g11) HW.out;have d12:=ai (hc1 _ _ g12) HW.out;have d13:=ai (hc1 _ _ g13) HW.out;have jM:=ai (hc1 _ _ g14) HW.out;have mG:=ai (hc1 _ _ g15) HW.out;have lR:=ai (hc2 _ _ g20) HW.out;have oI:=ai (hc2 _ _ g21) HW.out;have oJ:=ai (hc2 _ _ g22) HW.out;have tc:=ai (hc2 _ _ g23) HW.out;have AK:=ai (hc2 _ _ g24) HW.out;have AN:=ai (hc2 _ _ N8) HW.out;clear g10 g11 g12 g13 g14 g15 g20 g21 g22 g23 g24 N8;generalize l[k]=X at ht1 hne d10 d11 d12 d13 jM mG;generalize m[k]=Y at ht2 hne lR oI oJ tc AK AN;have hqq:=fun W=>abI X Y W
    obtain⟨id1,key1,⟨⟨v1,hi1,lo1⟩,po1⟩⟩:=X;obtain⟨id2,key2,⟨⟨v2,hi2,lo2⟩,po2⟩⟩:=Y;unfold bH at hqq;simp only at hqq d10 d11 d12 d13 jM mG lR oI oJ tc AK AN;rw[cq]at d10 lR;rw[←jh]at d11 d12 d13 jM mG oI oJ tc AK AN;clear hc1 hc2 hkl hkm;by_cases hX:(⟨id1,key1,⟨⟨v1,hi1,lo1⟩,po1⟩⟩:Ry)=⟨id2,key2,⟨⟨v2,hi2,lo2⟩,po2⟩⟩
    ·have Ly:ag (l.take (k+1)=m.take (k+1)):=ae (by rw[ht1,ht2,hsame.out,hX]);have hq:=hqq;rw[decide_eq_true hX]at hq;simp only[ah9]at hq;clear hqq;clear ht1 ht2 hne hX;go_upto_region 6 with fail
     go_quiet (fail);go_wp2_with fail
     go_roundw
     case rel=>exact⟨k+1,by omega,by go_num,ae (HW.out.gK _),Ly⟩
     case measure=>simp[intOf];omega
    ·have ej:ag (R=false):=ae (by rw[HR.out];exact decide_eq_false (hne hX));have hq:=hqq;rw[decide_eq_false hX]at hq;simp only[ahV]at hq;clear hqq;clear ht1 ht2 hne hX;go_upto_region 6 with fail
     go_quiet (fail);go_wp2_with fail
     go_ret;exact⟨by rw[ej.out];rfl,HW.out.gK _⟩
   ·obtain rfl:k=N:=by omega
    have ej:ag (R=true):=ae (by
     rw[HR.out];have e:=hsame.out;rw[aN (by have:=jL.out;omega),aN (by have:=kX.out;omega)]at e;exact decide_eq_true e)
    go_wp2_with fail
    go_ret;exact⟨by rw[ej.out];rfl,HW.out⟩
 ·have hd:decide (l=m)=false:=decide_eq_false fun e=>hn (by rw[e])
  rw[hd];generalize l.length=N1 at*;generalize m.length=N2 at*;have hne:((N1:Int) !=(N2:Int))=true:=by simp;omega
  clear hn hd HA1 HA2;go_enter Tryz.func26,Tryz.ntmps26;go_wp2_with fail
  go_ret;exact⟨rfl,aI _ _⟩
theorem afv(x y:Pr):decide (x=y)=((x.key.toList==y.key.toList)&&((x.bu.toList==y.bu.toList)&&((x.user.toList==y.user.toList)&&(((x.exp:Int)==(y.exp:Int))&&(((x.bm:Int)==(y.bm:Int))&&(decide (x.tags=y.tags)&&(decide (x.aQ=y.aQ)&&decide (x.ends=y.ends)))))))):=by
 obtain⟨a,b,c,d,e,f,g,h⟩:=x;obtain⟨a',b',c',d',e',f',g',h'⟩:=y;rw[gW];simp only[aU,beq_iff_eq,decide_eq_true_eq,Pr.mk.injEq];constructor
 ·rintro⟨rfl,rfl,rfl,rfl,rfl,rfl,rfl,rfl⟩;exact⟨rfl,rfl,rfl,rfl,rfl,rfl,rfl,rfl⟩
 ·rintro⟨h1,h2,h3,h4,h5,h6,h7,h8⟩;exact⟨toList_inj h1,toList_inj h2,toList_inj h3,h6,h7,by omega,by omega,h8⟩
theorem sH{w:World}{X Y:bS}(hX:fc w X)(hY:fc w Y)(sX:gQ X.p)(sY:gQ Y.p):Calls ah 24 #[.agg X.vals.toArray,.agg Y.vals.toArray] w (Got (.bool (decide (X.p=Y.p))) w):=by
 have ht:=fun u(hu:aW w u)=>aaB X.p.tags Y.p.tags (by have:=sX.tl;omega) (by have:=sY.tl;omega) (hX.tags.below hu) (hY.tags.below hu)
 have ha:=fun u(hu:aW w u)=>WY X.p.aQ Y.p.aQ (by have:=sX.al;omega) (by have:=sY.al;omega) (hX.aQ.below hu) (hY.aQ.below hu)
 have he:=fun u(hu:aW w u)=>WZ X.p.ends Y.p.ends (by have:=sX.el;omega) (by have:=sY.el;omega) (hX.ends.below hu) (hY.ends.below hu)
 obtain⟨gk,c11,e11⟩:=hX.tags.shape;obtain⟨gi,c12,e12⟩:=hX.aQ.shape;obtain⟨jJ,c13,e13⟩:=hX.ends.shape;obtain⟨jq,c21,e21⟩:=hY.tags.shape;obtain⟨jr,js,e22⟩:=hY.aQ.shape;obtain⟨mh,c23,e23⟩:=hY.ends.shape;clear hX hY sX sY;rw[afv];obtain⟨⟨key1,bD,b8,ew,dr,gU,bA,eJ⟩,Yq,Yr,ev1⟩:=X;obtain⟨⟨key2,bB,cf,du,cH,iP,bJ,dw⟩,tv2,av2,ev2⟩:=Y;simp only at*;subst e11 e12 e13 e21 e22 e23;unfold bS.vals;simp only;generalize decide (ew=du)=BT at*;generalize decide (dr=cH)=BA at*;generalize decide (eJ=dw)=BE at*;generalize ew.length=n11 at*;generalize dr.length=n12 at*;generalize eJ.length=n13 at*;generalize du.length=n21 at*;generalize cH.length=n22 at*;generalize dw.length=n23 at*;obtain⟨HT,HA,HE⟩:=bz ht ha he;have hb1:=boxed w (.cells #[.string key1,.string bD,.string b8,.slice gk n11 c11,.slice gi n12 c12,.int .u64 gU,.int .u8 bA,.slice jJ n13 c13] 47);obtain⟨od,HB1⟩:=aL (aH.new w 47 #[.string key1,.string bD,.string b8,.slice gk n11 c11,.slice gi n12 c12,.int .u64 gU,.int .u8 bA,.slice jJ n13 c13]) hb1;clear ht ha he hb1;obtain⟨HB2,bQ⟩:=aL (after HB1.out (boxed (w.alloc (.cells #[.string key1,.string bD,.string b8,.slice gk n11 c11,.slice gi n12 c12,.int .u64 gU,.int .u8 bA,.slice jJ n13 c13] 47)) (.cells #[.string key2,.string bB,.string cf,.slice jq n21 c21,.slice jr n22 js,.int .u64 iP,.int .u8 bJ,.slice mh n23 c23] 47))) (bK od (boxed (w.alloc (.cells #[.string key1,.string bD,.string b8,.slice gk n11 c11,.slice gi n12 c12,.int .u64 gU,.int .u8 bA,.slice jJ n13 c13] 47)) (.cells #[.string key2,.string bB,.string cf,.slice jq n21 c21,.slice jr n22 js,.int .u64 iP,.int .u8 bJ,.slice mh n23 c23] 47)));have hP2:aH ((w.alloc (.cells #[.string key1,.string bD,.string b8,.slice gk n11 c11,.slice gi n12 c12,.int .u64 gU,.int .u8 bA,.slice jJ n13 c13] 47)).alloc (.cells #[.string key2,.string bB,.string cf,.slice jq n21 c21,.slice jr n22 js,.int .u64 iP,.int .u8 bJ,.slice mh n23 c23] 47)) (w.heap.size+1) 47 #[.string key2,.string bB,.string cf,.slice jq n21 c21,.slice jr n22 js,.int .u64 iP,.int .u8 bJ,.slice mh n23 c23]:=by
  have:=aH.new (w.alloc (.cells #[.string key1,.string bD,.string b8,.slice gk n11 c11,.slice gi n12 c12,.int .u64 gU,.int .u8 bA,.slice jJ n13 c13] 47)) 47 #[.string key2,.string bB,.string cf,.slice jq n21 c21,.slice jr n22 js,.int .u64 iP,.int .u8 bJ,.slice mh n23 c23];rw[show(w.alloc (.cells #[.string key1,.string bD,.string b8,.slice gk n11 c11,.slice gi n12 c12,.int .u64 gU,.int .u8 bA,.slice jJ n13 c13] 47)).heap.size=w.heap.size+1 by simp]at this;exact this
 have HP2:=ae hP2;clear hP2 od HB1;cases hb0:(key1.toList==key2.toList)with
 |false=>
  simp only[uy];go_enter Tryz.func24,Tryz.ntmps24;go_upto_region 1 with fail
  generalize(w.alloc (.cells #[.string key1,.string bD,.string b8,.slice gk n11 c11,.slice gi n12 c12,.int .u64 gU,.int .u8 bA,.slice jJ n13 c13] 47)).alloc (.cells #[.string key2,.string bB,.string cf,.slice jq n21 c21,.slice jr n22 js,.int .u64 iP,.int .u8 bJ,.slice mh n23 c23] 47)=w2 at HB2 bQ HP2⊢;generalize w.heap.size+1=Q at HP2⊢;generalize hPw:w.heap.size=P at bQ⊢;have kN:=ae hPw;clear hPw;have x0:=bQ.out.cell 0;have x1:=bQ.out.cell 1;have x2:=bQ.out.cell 2;have x3:=bQ.out.cell 3;have x4:=bQ.out.cell 4;have x5:=bQ.out.cell 5;have x6:=bQ.out.cell 6;have x7:=bQ.out.cell 7;have y0:=HP2.out.cell 0;have y1:=HP2.out.cell 1;have y2:=HP2.out.cell 2;have y3:=HP2.out.cell 3;have y4:=HP2.out.cell 4;have y5:=HP2.out.cell 5;have y6:=HP2.out.cell 6;have y7:=HP2.out.cell 7;simp at x0 x1 x2 x3 x4 x5 x6 x7 y0 y1 y2 y3 y4 y5 y6 y7;go_wp2_with fail
  go_ret;exact⟨rfl,HB2.out⟩
 |true=>
  cases hb1:(bD.toList==bB.toList)with
  |false=>
   simp only[uy,bV];go_enter Tryz.func24,Tryz.ntmps24;go_upto_region 1 with fail
   generalize(w.alloc (.cells #[.string key1,.string bD,.string b8,.slice gk n11 c11,.slice gi n12 c12,.int .u64 gU,.int .u8 bA,.slice jJ n13 c13] 47)).alloc (.cells #[.string key2,.string bB,.string cf,.slice jq n21 c21,.slice jr n22 js,.int .u64 iP,.int .u8 bJ,.slice mh n23 c23] 47)=w2 at HB2 bQ HP2⊢;generalize w.heap.size+1=Q at HP2⊢;generalize hPw:w.heap.size=P at bQ⊢;have kN:=ae hPw;clear hPw;have x0:=bQ.out.cell 0;have x1:=bQ.out.cell 1;have x2:=bQ.out.cell 2;have x3:=bQ.out.cell 3;have x4:=bQ.out.cell 4;have x5:=bQ.out.cell 5;have x6:=bQ.out.cell 6;have x7:=bQ.out.cell 7;have y0:=HP2.out.cell 0;have y1:=HP2.out.cell 1;have y2:=HP2.out.cell 2;have y3:=HP2.out.cell 3;have y4:=HP2.out.cell 4;have y5:=HP2.out.cell 5;have y6:=HP2.out.cell 6;have y7:=HP2.out.cell 7;simp at x0 x1 x2 x3 x4 x5 x6 x7 y0 y1 y2 y3 y4 y5 y6 y7;go_wp2_with fail
   go_ret;exact⟨rfl,HB2.out⟩
  |true=>
   cases hb2:(b8.toList==cf.toList)with
   |false=>
    simp only[uy,bV];go_enter Tryz.func24,Tryz.ntmps24;go_upto_region 1 with fail
    generalize(w.alloc (.cells #[.string key1,.string bD,.string b8,.slice gk n11 c11,.slice gi n12 c12,.int .u64 gU,.int .u8 bA,.slice jJ n13 c13] 47)).alloc (.cells #[.string key2,.string bB,.string cf,.slice jq n21 c21,.slice jr n22 js,.int .u64 iP,.int .u8 bJ,.slice mh n23 c23] 47)=w2 at HB2 bQ HP2⊢;generalize w.heap.size+1=Q at HP2⊢;generalize hPw:w.heap.size=P at bQ⊢;have kN:=ae hPw;clear hPw;have x0:=bQ.out.cell 0;have x1:=bQ.out.cell 1;have x2:=bQ.out.cell 2;have x3:=bQ.out.cell 3;have x4:=bQ.out.cell 4;have x5:=bQ.out.cell 5;have x6:=bQ.out.cell 6;have x7:=bQ.out.cell 7;have y0:=HP2.out.cell 0;have y1:=HP2.out.cell 1;have y2:=HP2.out.cell 2;have y3:=HP2.out.cell 3;have y4:=HP2.out.cell 4;have y5:=HP2.out.cell 5;have y6:=HP2.out.cell 6;have y7:=HP2.out.cell 7;simp at x0 x1 x2 x3 x4 x5 x6 x7 y0 y1 y2 y3 y4 y5 y6 y7;go_wp2_with fail
    go_ret;exact⟨rfl,HB2.out⟩
   |true=>
    cases hb3:((gU:Int)==(iP:Int))with
    |false=>
     simp only[uy,bV];go_enter Tryz.func24,Tryz.ntmps24;go_upto_region 1 with fail
     generalize(w.alloc (.cells #[.string key1,.string bD,.string b8,.slice gk n11 c11,.slice gi n12 c12,.int .u64 gU,.int .u8 bA,.slice jJ n13 c13] 47)).alloc (.cells #[.string key2,.string bB,.string cf,.slice jq n21 c21,.slice jr n22 js,.int .u64 iP,.int .u8 bJ,.slice mh n23 c23] 47)=w2 at HB2 bQ HP2⊢;generalize w.heap.size+1=Q at HP2⊢;generalize hPw:w.heap.size=P at bQ⊢;have kN:=ae hPw;clear hPw;have x0:=bQ.out.cell 0;have x1:=bQ.out.cell 1;have x2:=bQ.out.cell 2;have x3:=bQ.out.cell 3;have x4:=bQ.out.cell 4;have x5:=bQ.out.cell 5;have x6:=bQ.out.cell 6;have x7:=bQ.out.cell 7;have y0:=HP2.out.cell 0;have y1:=HP2.out.cell 1;have y2:=HP2.out.cell 2;have y3:=HP2.out.cell 3;have y4:=HP2.out.cell 4;have y5:=HP2.out.cell 5;have y6:=HP2.out.cell 6;have y7:=HP2.out.cell 7;simp at x0 x1 x2 x3 x4 x5 x6 x7 y0 y1 y2 y3 y4 y5 y6 y7;go_wp2_with fail
     go_ret;exact⟨rfl,HB2.out⟩
    |true=>
     cases hb4:((bA:Int)==(bJ:Int))with
     |false=>
      simp only[uy,bV];go_enter Tryz.func24,Tryz.ntmps24;go_upto_region 1 with fail
      generalize(w.alloc (.cells #[.string key1,.string bD,.string b8,.slice gk n11 c11,.slice gi n12 c12,.int .u64 gU,.int .u8 bA,.slice jJ n13 c13] 47)).alloc (.cells #[.string key2,.string bB,.string cf,.slice jq n21 c21,.slice jr n22 js,.int .u64 iP,.int .u8 bJ,.slice mh n23 c23] 47)=w2 at HB2 bQ HP2⊢;generalize w.heap.size+1=Q at HP2⊢;generalize hPw:w.heap.size=P at bQ⊢;have kN:=ae hPw;clear hPw;have x0:=bQ.out.cell 0;have x1:=bQ.out.cell 1;have x2:=bQ.out.cell 2;have x3:=bQ.out.cell 3;have x4:=bQ.out.cell 4;have x5:=bQ.out.cell 5;have x6:=bQ.out.cell 6;have x7:=bQ.out.cell 7;have y0:=HP2.out.cell 0;have y1:=HP2.out.cell 1;have y2:=HP2.out.cell 2;have y3:=HP2.out.cell 3;have y4:=HP2.out.cell 4;have y5:=HP2.out.cell 5;have y6:=HP2.out.cell 6;have y7:=HP2.out.cell 7;simp at x0 x1 x2 x3 x4 x5 x6 x7 y0 y1 y2 y3 y4 y5 y6 y7;go_wp2_with fail
      go_ret;exact⟨rfl,HB2.out⟩
     |true=>
      simp only[bV];cases BT with
      |false=>
       simp only[uy];go_enter Tryz.func24,Tryz.ntmps24;go_upto_region 1 with fail
       generalize(w.alloc (.cells #[.string key1,.string bD,.string b8,.slice gk n11 c11,.slice gi n12 c12,.int .u64 gU,.int .u8 bA,.slice jJ n13 c13] 47)).alloc (.cells #[.string key2,.string bB,.string cf,.slice jq n21 c21,.slice jr n22 js,.int .u64 iP,.int .u8 bJ,.slice mh n23 c23] 47)=w2 at HB2 bQ HP2⊢;generalize w.heap.size+1=Q at HP2⊢;generalize hPw:w.heap.size=P at bQ⊢;have kN:=ae hPw;clear hPw;have x0:=bQ.out.cell 0;have x1:=bQ.out.cell 1;have x2:=bQ.out.cell 2;have x3:=bQ.out.cell 3;have x4:=bQ.out.cell 4;have x5:=bQ.out.cell 5;have x6:=bQ.out.cell 6;have x7:=bQ.out.cell 7;have y0:=HP2.out.cell 0;have y1:=HP2.out.cell 1;have y2:=HP2.out.cell 2;have y3:=HP2.out.cell 3;have y4:=HP2.out.cell 4;have y5:=HP2.out.cell 5;have y6:=HP2.out.cell 6;have y7:=HP2.out.cell 7;simp at x0 x1 x2 x3 x4 x5 x6 x7 y0 y1 y2 y3 y4 y5 y6 y7;go_wp2_with(first
        |(go_at_call 73;refine(HT.out _ HB2.out).mono ?_;rintro r w3⟨rfl,d3⟩;have px4:=ai x4 d3;have px7:=ai x7 d3;have py4:=ai y4 d3;have py7:=ai y7 d3;have HB3:=bg HB2 d3;clear d3))
       go_ret;exact⟨rfl,HB3.out⟩
      |true=>
       cases BA with
       |false=>
        simp only[uy,bV];go_enter Tryz.func24,Tryz.ntmps24;go_upto_region 1 with fail
        generalize(w.alloc (.cells #[.string key1,.string bD,.string b8,.slice gk n11 c11,.slice gi n12 c12,.int .u64 gU,.int .u8 bA,.slice jJ n13 c13] 47)).alloc (.cells #[.string key2,.string bB,.string cf,.slice jq n21 c21,.slice jr n22 js,.int .u64 iP,.int .u8 bJ,.slice mh n23 c23] 47)=w2 at HB2 bQ HP2⊢;generalize w.heap.size+1=Q at HP2⊢;generalize hPw:w.heap.size=P at bQ⊢;have kN:=ae hPw;clear hPw;have x0:=bQ.out.cell 0;have x1:=bQ.out.cell 1;have x2:=bQ.out.cell 2;have x3:=bQ.out.cell 3;have x4:=bQ.out.cell 4;have x5:=bQ.out.cell 5;have x6:=bQ.out.cell 6;have x7:=bQ.out.cell 7;have y0:=HP2.out.cell 0;have y1:=HP2.out.cell 1;have y2:=HP2.out.cell 2;have y3:=HP2.out.cell 3;have y4:=HP2.out.cell 4;have y5:=HP2.out.cell 5;have y6:=HP2.out.cell 6;have y7:=HP2.out.cell 7;simp at x0 x1 x2 x3 x4 x5 x6 x7 y0 y1 y2 y3 y4 y5 y6 y7;go_wp2_with(first
         |(go_at_call 73;refine(HT.out _ HB2.out).mono ?_;rintro r w3⟨rfl,d3⟩;have px4:=ai x4 d3;have px7:=ai x7 d3;have py4:=ai y4 d3;have py7:=ai y7 d3;have HB3:=bg HB2 d3;clear d3)
         |(go_at_call 74;refine(HA.out _ HB3.out).mono ?_;rintro r w4⟨rfl,d4⟩;have qx7:=ai px7 d4;have qy7:=ai py7 d4;have HB4:=bg HB3 d4;clear d4))
        go_ret;exact⟨rfl,HB4.out⟩
       |true=>
        simp only[bV];go_enter Tryz.func24,Tryz.ntmps24;go_upto_region 1 with fail
        generalize(w.alloc (.cells #[.string key1,.string bD,.string b8,.slice gk n11 c11,.slice gi n12 c12,.int .u64 gU,.int .u8 bA,.slice jJ n13 c13] 47)).alloc (.cells #[.string key2,.string bB,.string cf,.slice jq n21 c21,.slice jr n22 js,.int .u64 iP,.int .u8 bJ,.slice mh n23 c23] 47)=w2 at HB2 bQ HP2⊢;generalize w.heap.size+1=Q at HP2⊢;generalize hPw:w.heap.size=P at bQ⊢;have kN:=ae hPw;clear hPw;have x0:=bQ.out.cell 0;have x1:=bQ.out.cell 1;have x2:=bQ.out.cell 2;have x3:=bQ.out.cell 3;have x4:=bQ.out.cell 4;have x5:=bQ.out.cell 5;have x6:=bQ.out.cell 6;have x7:=bQ.out.cell 7;have y0:=HP2.out.cell 0;have y1:=HP2.out.cell 1;have y2:=HP2.out.cell 2;have y3:=HP2.out.cell 3;have y4:=HP2.out.cell 4;have y5:=HP2.out.cell 5;have y6:=HP2.out.cell 6;have y7:=HP2.out.cell 7;simp at x0 x1 x2 x3 x4 x5 x6 x7 y0 y1 y2 y3 y4 y5 y6 y7;go_wp2_with(first
         |(go_at_call 73;refine(HT.out _ HB2.out).mono ?_;rintro r w3⟨rfl,d3⟩;have px4:=ai x4 d3;have px7:=ai x7 d3;have py4:=ai y4 d3;have py7:=ai y7 d3;have HB3:=bg HB2 d3;clear d3)
         |(go_at_call 74;refine(HA.out _ HB3.out).mono ?_;rintro r w4⟨rfl,d4⟩;have qx7:=ai px7 d4;have qy7:=ai py7 d4;have HB4:=bg HB3 d4;clear d4)
         |(go_at_call 75;refine(HE.out _ HB4.out).mono ?_;rintro r w5⟨rfl,d5⟩;have nZ:=bg HB4 d5;clear d5))
        go_ret;exact⟨rfl,nZ.out⟩
end Go.Proofs.YtkjaajcpbldjoabGreatDoor
