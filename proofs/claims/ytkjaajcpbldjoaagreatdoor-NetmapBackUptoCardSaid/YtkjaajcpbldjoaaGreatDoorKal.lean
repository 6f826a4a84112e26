/- Joined out of: BhC BhD BhE BhF BhG EqA EqB. -/
import Derived.Test.YtkjaajcpbldjoaaGreatDoorKak
import Derived.Laws.CopyRow
import Derived.Lib.SlBuf
set_option linter.unusedVariables false
set_option linter.unusedSimpArgs false
set_option maxHeartbeats 16000000
set_option maxRecDepth 100000
open Array renaming getElem?_toList→ahD,getElem?_eq_none→ahM
open Bool renaming and_eq_true→aX,true_and→bV,eq_iff_iff→fE,false_and→ux
open Go.IntKind renaming wrap_u64→fe
open Go.Lib renaming hid→ae
open Go.Proofs.Tryz renaming prog→ah,underlying9→bn,underlying5→cB,underlying67→cR
open Go.Result renaming andThen_ok→j9
open Go.RowKit renaming Hid→ag
open Go.RowKit.Below renaming refl→aM
open Go.Sem renaming run_bind→ahN
open Go.Value renaming int→ahE
open Go.World renaming block_lt_of_cell?→aj
open List renaming getElem?_eq_getElem→af,length_append→ai,length_map→ay,take_succ_eq_append_getElem→aB,getD_eq_getElem?_getD→aE,range→aF,take_of_length_le→aJ,replicate→aS,getElem?_map→bS,map_append→cH,mem_of_getElem?→kE,nil_append→lI,length_replicate→lK,getElem?_toArray→uy,take_zero→ME,size_toArray→abd,take_succ_cons→ag6,drop_zero→ag7,drop_succ_cons→ag8
open Nat renaming le_trans→aw,le_refl→aA,zero_le→bh,add_zero→b8,add_assoc→ku,lt_of_lt_of_le→ahF
open Option renaming bind_some→ahJ
open UInt8 renaming ofNat→ahT
namespace Go.Proofs.YtkjaajcpbldjoaaGreatDoor
open Go.RowKit
attribute [local go_sem↓] Go.wp_at_zero Go.wp_at_succ
theorem V8:cF ia= #[.int .u32 1779033703,.int .u32 3144134277,.int .u32 1013904242,.int .u32 2773480762,.int .u32 1359893119,.int .u32 2600822924,.int .u32 528734635,.int .u32 1541459225]:=rfl
theorem first_any(w:World):Calls ah 174 #[] w fun r w'=>r=.returned (.agg #[.int .u32 1779033703,.int .u32 3144134277,.int .u32 1013904242,.int .u32 2773480762,.int .u32 1359893119,.int .u32 2600822924,.int .u32 528734635,.int .u32 1541459225])∧Below w.heap.size w w':=by
 go_enter Tryz.func174,Tryz.ntmps174;go_wp2_with fail
 have hB:=aG.new w 235 (cF ia);exact bodyPost_ret (results_cell_row rfl _ _ w.heap.size 235 (cF ia) (0,0) _ rfl hB Tryz.underlying235 rfl bo) rfl ⟨rfl,boxed w _⟩
def hsL(h:List Nat)(sz:Nat)(rv:Value)(n:Nat):List Value:=(h.map fun x:Nat=>ahE .u32 x)++[.int .i64 sz,rv,.int .u64 n]
def fW(w:World)(g:Nat)(h:List Nat)(sz:Nat)(rv:Value)(n:Nat):Prop:=aG w g 238 (hsL h sz rv n).toArray
theorem V9{h:List Nat}(hh:Ws 8 h){sz n:Nat}{rv:Value}{i:Nat}(hi:i<8):(hsL h sz rv n).toArray[i]? =some (.int .u32 (bQ h i:Int)):=by
 have hl:i<h.length:=by rw[hh.len];exact hi
 unfold hsL bQ;rw[uy,List.getElem?_append_left (by rw[ay];exact hl),bS,aE,af hl];rfl
theorem yL{h:List Nat}(hh:Ws 8 h){sz n:Nat}{rv:Value}(i:Nat):(hsL h sz rv n).toArray[8+i]? =[ahE .i64 sz,rv,.int .u64 n][i]? :=by
 unfold hsL;rw[uy,List.getElem?_append_right (by rw[ay,hh.len];omega),ay,hh.len,Nat.add_sub_cancel_left]
theorem NN{h:List Nat}(hh:Ws 8 h){sz n:Nat}{rv:Value}{i x:Nat}(hi:i<8):(hsL h sz rv n).toArray.setIfInBounds i (.int .u32 x)=(hsL (h.set i x) sz rv n).toArray:=by
 unfold hsL;rw[List.setIfInBounds_toArray,List.set_append_left _ _ (by rw[ay,hh.len];exact hi),List.map_set]
section
variable{w w':World}{g sz n:Nat}{h:List Nat}{rv:Value}
theorem fW.word(hg:fW w g h sz rv n)(hh:Ws 8 h){i:Nat}(hi:i<8):w.cell? ⟨g,i,none⟩=some (.int .u32 (bQ h i:Int)):=by
 rw[aG.cell hg i];exact V9 hh hi
theorem fW.size(hg:fW w g h sz rv n)(hh:Ws 8 h):w.cell? ⟨g,8,none⟩=some (.int .i64 sz):=by
 rw[aG.cell hg 8];exact yL hh 0
theorem fW.rest(hg:fW w g h sz rv n)(hh:Ws 8 h):w.cell? ⟨g,9,none⟩=some rv:=by
 rw[aG.cell hg 9];exact yL hh 1
theorem fW.num(hg:fW w g h sz rv n)(hh:Ws 8 h):w.cell? ⟨g,10,none⟩=some (.int .u64 n):=by
 rw[aG.cell hg 10];exact yL hh 2
end
def lG:Array Value:=(pO.flatten.map fun x:Nat=>ahE .u8 x).toArray
def gd(w:World):Prop:=w.var? ah "isthmus/blake.orders" =some lG
theorem gd.at_{w:World}(h:gd w):∃t fr,w.heap[0]? =some (.cells lG t fr):=by
 unfold gd World.var? at h;rw[show ah.globalNamed "isthmus/blake.orders" =some 0 by kernel_rfl,ahJ]at h;split at h
 ·next cs t fr hc=>injection h with h;subst h;exact⟨t,fr,hc⟩
 ·cases h
theorem gd.keep{S:Nat→Prop}{w w':World}(h:gd w)(k:Keeps S w w')(hs:¬S 0):gd w':=by
 obtain⟨t,fr,hc⟩:=h.at_;have hl:0<w.heap.size:=(Array.getElem?_eq_some_iff.1 hc).1;have h2:=k.block _ hl hs;unfold gd World.var?;rw[show ah.globalNamed "isthmus/blake.orders" =some 0 by kernel_rfl,ahJ,h2,hc]
theorem gd.below{B:Nat}{w w':World}(h:gd w)(k:Below B w w')(hs:0<B):gd w':=by
 obtain⟨t,fr,hc⟩:=h.at_;have h2:=k.block _ hs;unfold gd World.var?;rw[show ah.globalNamed "isthmus/blake.orders" =some 0 by kernel_rfl,ahJ,h2,hc]
theorem gd.lt{w:World}(h:gd w):0<w.heap.size:=by
 obtain⟨t,fr,hc⟩:=h.at_;exact(Array.getElem?_eq_some_iff.1 hc).1
def cA(o:List Nat):Array Value:=(o.map fun x:Nat=>ahE .u8 x).toArray
theorem aak{r:Nat}(hr:r<10):(pO.getD r []).length=16∧∀i,bQ (pO.getD r []) i<16:=by
 have h:∀k:Fin 10,(pO.getD k []).length=16∧∀x∈pO.getD k [],x<16:=by decide+kernel
 obtain⟨h1,h2⟩:=h ⟨r,hr⟩;refine⟨h1,fun i=>?_⟩;unfold bQ;rw[aE];rcases hi:(pO.getD r [])[i]? with _|x
 ·simp
 ·exact h2 x (kE hi)
theorem DF{w:World}{g:Nat}{t:TypeId}{o:List Nat}(ho:o.length=16)(hg:aG w g t (cA o)){i:Nat}(hi:i<16):w.cell? ⟨g,i,none⟩=some (.int .u8 (bQ o i:Int)):=by
 rw[hg.cell i];unfold cA bQ;rw[uy,bS,aE,af (by rw[ho];exact hi)];rfl
theorem vq{o:List Nat}(ho:o.length=16):(cA o).size=16:=by unfold cA;rw[abd,ay,ho]
theorem Le(o:List Nat):(cA o).all (·.oneCell')=true:=by
 unfold cA;rw[List.all_toArray,List.all_map];exact List.all_eq_true.2 fun _ _=>rfl
theorem Wa:(ah.info? 263).map (·.size)=some 16:=by kernel_rfl
theorem Wb{w w0:World}{g:Nat}{t:TypeId}{v:List Nat}(hg:aG w g t (cF v))(hk:Keeps (fun k=>k=g) w0 w)(i x:Nat):aG (w.setCell ⟨g,i,none⟩ (.int .u32 x)) g t (cF (v.set i x))∧Keeps (fun k=>k=g) w0 (w.setCell ⟨g,i,none⟩ (.int .u32 x)):=by
 refine⟨?_,hk.setCell (p:=⟨g,i,none⟩) (Or.inl rfl) _⟩;rw[←yJ];exact hg.aL i _
theorem kB{P:Program}{ops:Array Oper}{rest:List Oper}{o:Oper}{a:Act}{w w':World}{Q:Exit→Act→World→Prop}(hgd:o.guard=none)(s x:Operand)(t u:TypeId)(ho:o.op=.call {callee:=.builtin .copy,args:= #[s,x],argTypes:= #[t,u]}){v y v':Value}(hs:a.eval s=v)(hx:a.eval x=y)(hr:(Builtin.copy_ #[t,u] o.type #[v,y]).run P w=.ok v' w')(h:wpList P ops Q rest (a.put o.dst v') w'):wpList P ops Q (o::rest) a w:=wpList_plain hgd fun _ hK=>Lib.wp_copy_run w s x t u ho v y hs hx hr (hK _ _ h)
theorem Wc:(ah.info? 177).map (·.size)=some 1:=by kernel_rfl
theorem NQ(g j:Nat):(⟨g,0,none⟩:Addr).add j=⟨g,j,none⟩:=by unfold Addr.add;split<;>simp_all
theorem Wg{w:World}{V g o dL dC sL sC:Nat}{t ty:TypeId}{v u:List Nat}(hV:aG w V t (cF v))(ho:o+u.length≤v.length)(hsrc:∀j,j<u.length→w.cell? ⟨g,j,none⟩=some (.int .u32 (bQ u j:Int)))(hn:u.length=Nat.min sL dL):∃w',(Builtin.copy_ #[260,260] ty #[.slice (some ⟨V,o,none⟩) dL dC,.slice (some ⟨g,0,none⟩) sL sC]).run ah w=.ok (goInt u.length) w'∧aG w' V t (cF (v.take o++u++v.drop (o+u.length)))∧Keeps (fun k=>k=V) w w':=by
 have h:=run_copy_row (P:=ah) w 260 260 ty 177 V o dL dC ⟨g,0,none⟩ sL sC (cF v) t (u.map fun x:Nat=>ahE .u32 x) Tryz.underlying260 Wc hV (by rw[ay];exact hn) (fun j x hx=>by
  rw[NQ];have hj:j<u.length:=by
   have:=(List.getElem?_eq_some_iff.1 hx).1;rwa [ay]at this
  rw[bS,af hj]at hx;injection hx with hx
  subst hx;rw[hsrc j hj];unfold bQ;rw[aE,af hj];rfl) (by rw[ay];unfold cF;rw[abd,ay];exact ho) (fun x hx=>by
  obtain⟨n,_,rfl⟩:=List.mem_map.1 hx;rfl)
 rw[ay]at h;refine⟨_,h,?_,⟨rfl,rfl,rfl,by rw[setRow_size];exact aA _,fun k _ hk=>setRow_other w V k _ hk⟩⟩;have e:((cF v).toList.take o++(u.map fun x:Nat=>ahE .u32 x)++(cF v).toList.drop (o+u.length)).toArray=cF (v.take o++u++v.drop (o+u.length)):=by
  unfold cF;rw[cH,cH,List.map_take,List.map_drop]
 rw[e];exact setRow_heap w V _ _ t (0,0) hV
theorem Lh{h:List Nat}(hh:h.length=8):(((aS 16 0).take 0++h++(aS 16 0).drop (0+h.length)).take 8++ia++((aS 16 0).take 0++h++(aS 16 0).drop (0+h.length)).drop (8+ia.length))=h++ia:=by
 rw[ME,lI,List.take_left' hh,List.drop_of_length_le (by simp[hh,ia]),List.append_nil]
theorem Wh:cF (aS 16 0)= #[.int .u32 0,.int .u32 0,.int .u32 0,.int .u32 0,.int .u32 0,.int .u32 0,.int .u32 0,.int .u32 0,.int .u32 0,.int .u32 0,.int .u32 0,.int .u32 0,.int .u32 0,.int .u32 0,.int .u32 0,.int .u32 0]:=rfl
def Q5(r:Nat):Array Value:=cA (pO.getD r [])
theorem Wi{r:Nat}(hr:r<10):lG.extract (r*16) (r*16+16)=Q5 r:=by
 rcases(by omega:r=0∨r=1∨r=2∨r=3∨r=4∨r=5∨r=6∨r=7∨r=8∨r=9)with rfl|rfl|rfl|rfl|rfl|rfl|rfl|rfl|rfl|rfl<;>kernel_rfl
theorem zK{r:Nat}(hr:r<10)(w:World):(Instr.index 264 (.agg lG) (.int .i64 r)).run ah w=.ok (.agg (Q5 r)) w:=by
 have h1:(ah.info? 263).map (·.size)=some 16:=by kernel_rfl
 have h2:ah.underlying 264=some (.array 10 263):=by kernel_rfl
 have h3:ah.underlying 263=some (.array 16 5):=by kernel_rfl
 have hs:(sizeOf 263).run ah w=.ok 16 w:=by
  cases hq:ah.info? 263 with
  |none=>simp[hq]at h1
  |some i=>
   have h1:i.size=16:=by simpa[hq]using h1
   simp[sizeOf,typeInfo,hq,h1]
 have ha:(isAgg 263).run ah w=.ok true w:=by
  unfold isAgg;rw[ahN,run_underlying h3 w];rfl
 have hp:(part 263 lG (r*16)).run ah w=.ok (.agg (Q5 r)) w:=by
  simp[part,ahN,ha,hs,Wi hr]
 have hb:(0:Int)≤(r:Int)∧(r:Int)<((10:Nat):Int):=by omega
 simp[Instr.index,asIntOf,ahN,run_underlying h2 w,hs,hr,hp]
theorem ud{ops:Array Oper}{rest:List Oper}{o:Oper}{a:Act}{w:World}{Q:Exit→Act→World→Prop}(hgd:o.guard=none)(x i:Operand)(ho:o.op=.index 264 x i){r:Nat}(hr:r<10){oc:Array Value}(hoc:oc=lG)(hx:a.eval x=.agg oc)(hi:a.eval i=.int .i64 r)(h:wpList ah ops Q rest (a.put o.dst (.agg (Q5 r))) w):wpList ah ops Q (o::rest) a w:=wpList_plain hgd fun _ hK=>by
 unfold Oper.wp execOp;subst hoc;simp only[ho,hx,hi,ahN,zK hr,j9];exact hK _ _ h
theorem aal{x:Nat}(hx:x<4294967296):4294967295^^^x=4294967295-x:=by
 have h:=congrArg BitVec.toNat (BitVec.allOnes_xor (x:=BitVec.ofNat 32 x));rw[BitVec.toNat_xor,BitVec.toNat_not,BitVec.toNat_ofNat,Nat.mod_eq_of_lt hx]at h;simpa using h
theorem agA{x:Nat}(hx:x<4294967296):bits .xor .u32 4294967295 (x:Int)=((4294967295-x:Nat):Int):=by
 rw[←aal hx];have:=u32_xor_nat 4294967295 x aH hx;simpa using this
theorem zL(w:World):(Instr.alloc 263 true (.tuple #[])).run ah w=.ok (.pointer (some ⟨w.heap.size,0,none⟩)) (w.alloc (.cells (cA (aS 16 0)) 263)):=by
 kernel_rfl
theorem uf{ops:Array Oper}{rest:List Oper}{o:Oper}{a:Act}{w:World}{Q:Exit→Act→World→Prop}(hgd:o.guard=none)(ho:o.op=.alloc 263)(h:wpList ah ops Q rest (a.put o.dst (.pointer (some ⟨w.heap.size,0,none⟩))) (w.alloc (.cells (cA (aS 16 0)) 263))):wpList ah ops Q (o::rest) a w:=wpList_plain hgd fun _ hK=>by
 unfold Oper.wp execOp;simp only[ho,ahN,zL,j9];exact hK _ _ h
theorem aam{B:Nat}{w w0:World}(hB:Below B w0 w)(hle:B≤w.heap.size)(o:List Nat):aG ((w.alloc (.cells (cA (aS 16 0)) 263)).setRow w.heap.size (cA o)) w.heap.size 263 (cA o)∧Below w.heap.size w ((w.alloc (.cells (cA (aS 16 0)) 263)).setRow w.heap.size (cA o))∧Below B w0 ((w.alloc (.cells (cA (aS 16 0)) 263)).setRow w.heap.size (cA o)):=by
 have h1:Below w.heap.size w ((w.alloc (.cells (cA (aS 16 0)) 263)).setRow w.heap.size (cA o)):=⟨rfl,rfl,rfl,by rw[setRow_size];simp,fun k hk=>by rw[setRow_other _ _ _ _ aQ];exact heap_alloc_old w _ hk⟩;exact⟨setRow_heap _ _ _ _ _ (0,0) (heap_alloc_new w _),h1,hB.trans (h1.mono hle)⟩
theorem Bc{w:World}(ord:gd w){g gp sz n cap:Nat}{h p:List Nat}{rv:Value}(hh:Ws 8 h)(hg:fW w g h sz rv n)(hn:n<18446744073709551616)(hp:∀i,i<64→w.cell? ⟨gp,i,none⟩=some (.int .u8 (bQ p i:Int)))(hpb:∀i,bQ p i<256)(hne:gp≠g)(hgo:g≠0)(last:Bool):Calls ah 175 #[.pointer (some ⟨g,0,none⟩),.slice (some ⟨gp,0,none⟩) 64 cap,.bool last] w fun r w'=>r=.returned (.tuple #[])∧fW w' g (pP h n p last) sz rv n∧Keeps (fun k=>k=g) w w':=by
 have hgl:g<w.heap.size:=aG.lt hg;have hpl:gp<w.heap.size:=aj w _ (hp 0 aH);have hb1:=boxed w (.cells (cF (aS 16 0)) 259);have hM:=aG.new w 259 (cF (aS 16 0));have hb2:=boxed (w.alloc (.cells (cF (aS 16 0)) 259)) (.cells (cF (aS 16 0)) 259);have hV:=aG.new (w.alloc (.cells (cF (aS 16 0)) 259)) 259 (cF (aS 16 0));rw[show(w.alloc (.cells (cF (aS 16 0)) 259)).heap.size=w.heap.size+1 by simp]at hV;obtain⟨pI,HV2⟩:=aN (hM.below hb2 hM.lt) hV;have hB2:=after hb1 hb2;obtain⟨HB2,HG,HPp,fZ,DG⟩:=ej hB2 hg hp hpb ord;clear hb1 hM hb2 hV hB2 hg hp hpb ord;rw[Wh]at pI HV2 HB2;go_enter Tryz.func175,Tryz.ntmps175;go_upto_region 1 with fail
 generalize hMe:w.heap.size=M at pI HV2 HB2 hgl hpl⊢;have HMe:=ae hMe;clear hMe;generalize(w.alloc (.cells #[.int .u32 0,.int .u32 0,.int .u32 0,.int .u32 0,.int .u32 0,.int .u32 0,.int .u32 0,.int .u32 0,.int .u32 0,.int .u32 0,.int .u32 0,.int .u32 0,.int .u32 0,.int .u32 0,.int .u32 0,.int .u32 0] 259)).alloc (.cells #[.int .u32 0,.int .u32 0,.int .u32 0,.int .u32 0,.int .u32 0,.int .u32 0,.int .u32 0,.int .u32 0,.int .u32 0,.int .u32 0,.int .u32 0,.int .u32 0,.int .u32 0,.int .u32 0,.int .u32 0,.int .u32 0] 259)=w2 at pI HV2 HB2⊢;generalize hVe:M+1=V at HV2⊢;have zM:=ae hVe;clear hVe;rw[←Wh]at pI HV2;have HPq:ag (∀i,i<64→w2.cell? ⟨gp,i,none⟩=some (.int .u8 (bQ p i:Int))):=ae fun i hi=>ak (HPp.out i hi) (by rw[HMe.out];exact HB2.out)
 have hgM:gp≠M:=by omega
 go_wp2_with fail
 go_loopw [19] (fun v19 wr=>∃k:Nat,k≤64∧v19=.int .i64 k∧ag (aG wr M 259 (cF (lE p k)))∧ag (Keeps (fun x=>x=M) w2 wr)) (fun v19 _=>64-(intOf v19).toNat)
 case atStart=>exact⟨0,by omega,rfl,pI,ae (Keeps.refl _ _)⟩
 case round=>
  obtain⟨k,hk,rfl,hm,hkp⟩:=hrel;obtain⟨wo,rfl⟩:=bq (wr:World);by_cases hlt:k<64
  ·have c0:=bN (HPq.out k hlt) hkp.out hgM;have hb:=fZ.out k;have ws:=AY p k;have agB:k/4<16:=by omega
   have d0:=hm.out.cell (k/4);rw[Ba ws agB]at d0;have f0:=hm.out.frozen (k/4);have lA:=ws.at_ (k/4);have ahs:k%4*8≤24:=by omega
   have hres:=Wb hm.out hkp.out (k/4) (bQ (lE p k) (k/4)|||bQ p k*2^(k%4*8)%4294967296);rw[show(lE p k).set (k/4) (bQ (lE p k) (k/4)|||bQ p k*2^(k%4*8)%4294967296)=lE p (k+1)from(GL p k).symm]at hres;have a0:(0:Int)≤(k:Int):=by omega
   have a1:(k:Int)<64:=by omega
   generalize bQ p k=X at c0 hb hres;generalize bQ (lE p k) (k/4)=A at d0 lA hres;have hor:bits .or .u32 (A:Int) ((X:Int)*2^(k%4*8)%4294967296)=((A|||X*2^(k%4*8)%4294967296:Nat):Int):=by
    have:=u32_or_nat A (X*2^(k%4*8)%4294967296) lA (Nat.mod_lt _ aH);simpa using this
   generalize A|||X*2^(k%4*8)%4294967296=R at hres hor
   have vE:=ae hres;clear hres;go_wp2_with fail
   go_roundw
   case rel=>exact⟨k+1,by omega,by go_num,ae vE.out.1,ae vE.out.2⟩
   case measure=>simp[intOf];omega
  obtain rfl:k=64:=by omega
  have hV3:=HV2.out.keep hkp.out (by have:=zM.out;omega);have hB3:=hkp.out.below (B:=M) (fun q hq=>by omega) (by have:=pI.out.lt;omega);obtain⟨HB3,HV3⟩:=aN (HB2.out.trans hB3) hV3;have mJ:=hm;clear hV3 hB3 hkp HV2 pI HPq HB2 hlt hk;generalize hWW:lE p 64=ww at mJ;have wsW:Ws 16 ww:=by rw[←hWW];exact AY p 64
  have HWW:=ae (fun _:Unit=>hWW);clear hWW fZ HPp;go_upto_region 7 with(go_at_call 174;refine(first_any _).mono ?_;rintro r w4⟨rfl,d4⟩;have HD4:=ae d4;clear d4)
  have hB4:=HD4.out;have hBk:=aG.new w4 235 (cF ia);rw[V8]at hBk;have hb5:=boxed w4 (.cells #[.int .u32 1779033703,.int .u32 3144134277,.int .u32 1013904242,.int .u32 2773480762,.int .u32 1359893119,.int .u32 2600822924,.int .u32 528734635,.int .u32 1541459225] 235);have HZ:ag (M<w4.heap.size∧V<w4.heap.size):=ae ⟨ahF mJ.out.lt hB4.size,ahF HV3.out.lt hB4.size⟩;have aan:=after hB4 hb5;obtain⟨tN,HV5⟩:=aN (mJ.out.below aan mJ.out.lt) (HV3.out.below aan HV3.out.lt);have nw:=ae (HB3.out.trans (aan.mono (by have h1:=HB3.out.size;have h2:=HMe.out;omega)));have Ei:=ae hBk;clear hB4 hBk hb5 aan mJ HV3 HB3 HD4;generalize w4.alloc (.cells #[.int .u32 1779033703,.int .u32 3144134277,.int .u32 1013904242,.int .u32 2773480762,.int .u32 1359893119,.int .u32 2600822924,.int .u32 528734635,.int .u32 1541459225] 235)=w5 at tN HV5 nw Ei⊢;generalize w4.heap.size=F at HZ Ei⊢;rw[←V8]at Ei;have hG5:fW w5 g h sz rv n:=aG.below (g:=g) HG.out (by rw[HMe.out];exact nw.out) (aG.lt HG.out);refine wp_region_still_tail 5 bo bo ?_;simp only[ag6,ME,ag8,ag7]
  repeat still_step
  refine wpStill_nil ?_;change wpList _ _ _ _ _ w5.drew;obtain⟨w6,hr6,hV6,hk6⟩:=Wg (w:=w5.drew) (V:=V) (g:=g) (o:=0) (dL:=16) (dC:=16) (sL:=8) (sC:=8) (ty:=3) (u:=h) HV5.out.drew (by rw[hh.len,lK];decide) (fun j hj=>hG5.word hh (by rw[hh.len]at hj;exact hj)) (by rw[hh.len];rfl);refine kB rfl _ _ _ _ rfl rfl rfl hr6 ?_;have hl6:((aS 16 0).take 0++h++(aS 16 0).drop (0+h.length)).length=16:=by simp[hh.len]
  have hF6:aG w6 F 235 (cF ia):=Ei.out.drew.keep hk6 (by have:=HZ.out;omega);have hM6:=tN.out.drew.keep hk6 (by have:=zM.out;omega);have hG6:fW w6 g h sz rv n:=aG.keep (g:=g) (aG.drew hG5) hk6 (by have:=zM.out;omega);have gC:=nw.out.drew.trans (hk6.below (B:=M) (fun q hq=>by have:=zM.out;omega) (Nat.le_of_lt tN.out.lt));have afh:=hV6;clear tN HV5 nw Ei hG5 hk6 hr6 hV6;obtain⟨HF6,zd,HG6,kO,HV6,HL6⟩:=mL hF6 hM6 hG6 gC afh hl6;clear hF6 hM6 hG6 gC afh hl6;go_upto_region 8 with fail
  refine wp_region_still_tail 2 bo bo ?_;simp only[ag6,ME,ag8,ag7]
  repeat still_step
  refine wpStill_nil ?_;change wpList _ _ _ _ _ w6.drew;obtain⟨w7,hr7,hV7,X7⟩:=Wg (w:=w6.drew) (V:=V) (g:=F) (o:=8) (dL:=8) (dC:=8) (sL:=8) (sC:=8) (ty:=3) (u:=ia) HV6.out.drew (by rw[HL6.out];decide) (fun j hj=>eA kZ HF6.out.drew hj) (by rfl);rw[Lh hh.len]at hV7;refine kB rfl _ _ _ _ rfl rfl rfl hr7 ?_;have hM7:=zd.out.drew.keep X7 (by have:=zM.out;omega);have hG7:fW w7 g h sz rv n:=aG.keep (g:=g) (aG.drew HG6.out) X7 (by have:=zM.out;omega);have j5:=kO.out.drew.trans (X7.below (B:=M) (fun q hq=>by have:=zM.out;omega) (Nat.le_of_lt zd.out.lt));obtain⟨Yh,Sl,uN⟩:=bu hM7 hG7 j5;clear HF6 zd HG6 kO HV6 HL6 hr7 X7 hM7 hG7 j5;generalize h.length=hlen;have ws0:=V5 hh kZ;obtain⟨v0,hv0⟩:=bq (h++ia);rw[←hv0]at hV7 ws0;obtain⟨HV7,Hv0⟩:=aN hV7 hv0;clear hV7 hv0;have x0:=eA ws0 HV7.out (show 12<8+8 by decide);have f0:=HV7.out.frozen 12;have y0:=Sl.out.num hh;have l0:=ws0.at_ 12;have hln:n%4294967296<4294967296:=Nat.mod_lt _ aH;have e0:IntKind.u32.wrap (n:Int)=((n%4294967296:Nat):Int):=vo n;have e1:=GX l0 hln;have hp0:=GQ (n:=16) HV7.out (Keeps.refl _ _) 12 (iE (bQ v0 12) (n%4294967296));have ws1:=ws0.aL 12 (kA l0 hln);obtain⟨v1,hv1⟩:=bq (v0.set 12 (iE (bQ v0 12) (n%4294967296)));rw[←hv1]at hp0 ws1;generalize iE (bQ v0 12) (n%4294967296)=X0 at e1 hp0;generalize bQ v0 12=A0 at x0 e1;generalize n%4294967296=N0 at e0 e1;obtain⟨HP0,Hv1⟩:=aN hp0 hv1;clear hp0 hv1 l0 hln;go_upto_region 9 with fail
  refine wp_region_still_tail 9 bo bo ?_;simp only[ag6,ME,ag8,ag7]
  repeat still_step
  refine wpStill_nil ?_;change wpList _ _ _ _ _ w7.drew;go_wp2_with fail
  have h8:=HP0.out;generalize(w7.setCell ⟨V,12,none⟩ (.int .u32 X0)).drew=w8 at h8⊢;have HM8:=ae (Yh.out.keep h8.2 (by have:=zM.out;omega));have HG8:ag (fW w8 g h sz rv n):=ae (aG.keep (g:=g) Sl.out h8.2 (by have:=zM.out;omega));have XY:=ae (uN.out.trans (h8.2.below (B:=M) (fun q hq=>by have:=zM.out;omega) (Nat.le_of_lt Yh.out.lt)));have HV8:=ae h8.1;clear h8 HP0 HV7 Yh Sl uN x0 f0 y0 e0 e1;have x0:=eA ws1 HV8.out (show 13<16 by decide);have f0:=HV8.out.frozen 13;have y0:=HG8.out.num hh;have l0:=ws1.at_ 13;have hln:n/4294967296%4294967296<4294967296:=Nat.mod_lt _ aH;have e0:IntKind.u32.wrap ((n:Int)/4294967296)=((n/4294967296%4294967296:Nat):Int):=vo (n/4294967296);have e1:=GX l0 hln;have hp0:=GQ (n:=16) HV8.out (Keeps.refl _ _) 13 (iE (bQ v1 13) (n/4294967296%4294967296));have ws2:=ws1.aL 13 (kA l0 hln);obtain⟨v2,hv2⟩:=bq (v1.set 13 (iE (bQ v1 13) (n/4294967296%4294967296)));rw[←hv2]at hp0 ws2;generalize iE (bQ v1 13) (n/4294967296%4294967296)=X1 at e1 hp0;generalize bQ v1 13=A0 at x0 e1;generalize n/4294967296%4294967296=N1 at e0 e1;obtain⟨HP0,Hv2⟩:=aN hp0 hv2;clear hp0 hv2 l0 hln;go_upto_region 10 with fail
  refine wp_region_still_tail 10 bo bo ?_;simp only[ag6,ME,ag8,ag7]
  repeat still_step
  refine wpStill_nil ?_;change wpList _ _ _ _ _ w8.drew;go_upto_if 67 with fail
  have h9:=HP0.out;generalize(w8.setCell ⟨V,13,none⟩ (.int .u32 X1)).drew=w9 at h9⊢;have PT:=ae (HM8.out.keep h9.2 (by have:=zM.out;omega));have HG9:ag (fW w9 g h sz rv n):=ae (aG.keep (g:=g) HG8.out h9.2 (by have:=zM.out;omega));have TR:=ae (XY.out.trans (h9.2.below (B:=M) (fun q hq=>by have:=zM.out;omega) (Nat.le_of_lt HM8.out.lt)));have Yl:=ae h9.1;clear h9 HP0 HV8 HM8 HG8 XY x0 f0 y0 e0 e1;go_cut []from 17 (fun wx=>ag (aG wx V 259 (cF (nX h n last)))∧ag (aG wx M 259 (cF ww))∧ag (fW wx g h sz rv n)∧ag (Below M w wx))
  case first=>
   cases last with
   |false=>
    go_wp2_with fail
    go_meet
    case rel=>exact⟨ae (by rw[show nX h n false=v2 by unfold nX;rw[Hv2.out,Hv1.out,Hv0.out];rfl];exact Yl.out),PT,HG9,TR⟩
   |true=>
    have x0:=eA ws2 Yl.out (show 14<16 by decide);have f0:=Yl.out.frozen 14;have l0:=ws2.at_ 14;have hp0:=Wb Yl.out (Keeps.refl _ _) 14 (4294967295-bQ v2 14);have hbg:v2.set 14 (4294967295-bQ v2 14)=nX h n true:=by unfold nX;rw[Hv2.out,Hv1.out,Hv0.out];rfl
    rw[hbg]at hp0;generalize bQ v2 14=A0 at x0 l0 hp0;have e1:=agA l0;have eS:IntKind.u32.signed=false:=rfl;have eM:IntKind.u32.max=4294967295:=by decide
    generalize 4294967295-A0=R0 at e1 hp0;have HP0:=ae hp0;clear hp0 hbg l0;go_wp2_with fail
    go_meet
    case rel=>
     have h9:=HP0.out;exact⟨ae h9.1,ae (PT.out.keep h9.2 (by have:=zM.out;omega)),ae (aG.keep (g:=g) HG9.out h9.2 (by have:=zM.out;omega)),ae (TR.out.trans (h9.2.below (B:=M) (fun q hq=>by have:=zM.out;omega) (Nat.le_of_lt PT.out.lt)))⟩
  case rest=>
  obtain⟨hV,hM,hG,hB⟩:=hcut;clear PT HG9 TR Yl;go_upto_region 14 with fail
  have agC:=(DG.out.below hB.out (by have:=HMe.out;have:=DG.out.lt;omega)).at_;obtain⟨tO,frO,hO⟩:=agC;obtain⟨oc,hoc⟩:=bq lG;rw[←hoc]at hO;refine wp_region_lit ?_;refine wpList_load_row rfl _ _ rfl 0 rfl tO oc frO (.array 10 263) hO bo rfl (by rw[hoc];kernel_rfl) ?_;have HOc:=ae hoc;clear hoc;go_wp2_with fail
  obtain⟨vb,hvb⟩:=bq (nX h n last);rw[←hvb]at hV;have wsB:Ws 16 vb:=by rw[hvb];exact AZ hh n last
  have Hvb:=ae hvb;clear hvb Hv0 Hv1 Hv2 ws0 ws1 ws2 hO HZ;go_loopw [74] (fun v74 wr=>∃r:Nat,r≤10∧v74=.int .i64 r∧ag (aG wr V 259 (cF (kS ww vb r)))∧ag (aG wr M 259 (cF ww))∧ag (Below M w wr)) (fun v74 _=>10-(intOf v74).toNat)
  case atStart=>exact⟨0,by omega,rfl,hV,hM,hB⟩
  case round=>
   obtain⟨r,hr,rfl,hVr,hMr,hBr⟩:=hrel;obtain⟨wo,rfl⟩:=bq (wr:World);clear hV hM hG hB;have wsR:=rA (m:=ww) wsB r;by_cases hlt:r<10
   ·have hsucc:=DC ww vb r;unfold rz at hsucc;obtain⟨Lj,hob⟩:=aak hlt;have hrow:ag (Q5 r=cA (pO.getD r [])):=ae rfl;generalize kS ww vb r=vr at hVr wsR hsucc;generalize hor:pO.getD r []=o at hsucc Lj hob hrow;obtain⟨HS,HO⟩:=aN (fun _:Unit=>hsucc) hob;clear hsucc hob hor;go_upto_region 16 with fail
    refine wp_region_lit ?_;refine ud rfl _ _ rfl hlt HOc.out rfl rfl ?_;refine uf rfl rfl ?_;refine wpList_store_row rfl _ _ _ rfl wo.heap.size (Q5 r) rfl rfl 263 (cA (aS 16 0)) (heap_alloc_new wo _) (by rw[hrow.out,vq Lj];exact Wa) (by rw[hrow.out,vq Lj];rfl) (by rw[hrow.out];exact Le o) ?_;rw[hrow.out];obtain⟨hR,hb1,hb2⟩:=aam hBr.out (Nat.le_of_lt hMr.out.lt) o;obtain⟨HR1,HB1,HV1,TJ⟩:=cY hR hb2 (hVr.out.below hb1 hVr.out.lt) (hMr.out.below hb1 hMr.out.lt);have hOV:ag (V<wo.heap.size):=ae hVr.out.lt;clear hR hb1 hb2 hVr hMr hBr;generalize(wo.alloc (.cells (cA (aS 16 0)) 263)).setRow wo.heap.size (cA o)=w1 at HR1 HB1 HV1 TJ⊢;generalize wo.heap.size=O at HR1 hOV⊢;go_wp2_with fail
    go_loopw [77] (fun v77 wi=>∃k:Nat,k≤4∧v77=.int .i64 k∧ag (aG wi V 259 (cF (upW ww o vr k)))∧ag (aG wi M 259 (cF ww))∧ag (aG wi O 263 (cA o))∧ag (Below M w wi)) (fun v77 _=>4-(intOf v77).toNat)
    case atStart=>exact⟨0,by omega,rfl,HV1,TJ,HR1,HB1⟩
    case round=>
     obtain⟨k,hk,rfl,NU,Ll,hRi,hBi⟩:=hrel;obtain⟨wo,rfl⟩:=bq (wr:World);clear HR1 HB1 HV1 TJ;by_cases hk4:k<4
     ·have hs:=V3 ww o vr k;unfold NJ at hs;have wsU:=Ld (m:=ww) (o:=o) wsR k;generalize upW ww o vr k=vu at NU wsU hs;have r1:=DF Lj hRi.out (i:=2*k) aQ;have r2:=DF Lj hRi.out (i:=2*k+1) aQ;have b1:=HO.out (2*k);have b2:=HO.out (2*k+1);generalize bQ o (2*k)=X1 at r1 b1 hs;generalize bQ o (2*k+1)=X2 at r2 b2 hs;have m1:=eA wsW Ll.out b1;have m2:=eA wsW Ll.out b2;generalize bQ ww X1=Y1 at m1 hs;generalize bQ ww X2=Y2 at m2 hs;have c1:(X1:Int)<16:=by omega
      have c2:(X2:Int)<16:=by omega
      have hmx:∀(u:World)(gw:Nat),aG u V 259 (cF vu)→aG u gw 177 #[.int .u32 Y1,.int .u32 Y2]→Calls ah 197 #[.int .i64 k,.int .i64 ((4+k:Nat):Int),.int .i64 ((8+k:Nat):Int),.int .i64 ((12+k:Nat):Int),.slice (some ⟨gw,0,none⟩) 2 2,.pointer (some ⟨V,0,none⟩)] u fun r w'=>r=.returned (.tuple #[])∧lF u V (Lc vu k (4+k) (8+k) (12+k) Y1 Y2) w':=fun u gw hv hw=>NM wsU hv hw aQ aQ aQ (by omega)
      rw[←hs]at hmx;generalize hvn:upW ww o vr (k+1)=vn at hmx;obtain⟨k1,hk1⟩:=bq (k+1);rw[←hk1]at hvn;have HK0:ag (k1≤4):=ae aQ;obtain⟨Hvn,qO⟩:=aN (fun _:Unit=>hvn) (fun _:Unit=>hk1);have eW0:IntKind.i64.wrap 0=0:=rfl;have eW1:IntKind.i64.wrap 1=1:=rfl;have eW2:IntKind.i64.wrap 2=2:=rfl;have eW3:IntKind.i64.wrap 3=3:=rfl;have eW4:IntKind.i64.wrap 4=4:=rfl;have eW5:IntKind.i64.wrap 5=5:=rfl;have eW6:IntKind.i64.wrap 6=6:=rfl;have eW7:IntKind.i64.wrap 7=7:=rfl;have eW8:IntKind.i64.wrap 8=8:=rfl;have eW9:IntKind.i64.wrap 9=9:=rfl;have agD:IntKind.i64.wrap 10=10:=rfl;have agE:IntKind.i64.wrap 11=11:=rfl;have agF:IntKind.i64.wrap 12=12:=rfl;have agG:IntKind.i64.wrap 13=13:=rfl;have agH:IntKind.i64.wrap 14=14:=rfl;have agI:IntKind.i64.wrap 15=15:=rfl;have Lm:O≠V:=by have:=hOV.out;omega
      have Ln:M≠V:=by have:=zM.out;omega
      clear hs b1 b2 hvn hk1;rcases(by omega:k=0∨k=1∨k=2∨k=3)with rfl|rfl|rfl|rfl
      all_goals
       simp only[Nat.reduceMul,Nat.reduceAdd]at r1 r2 hmx;have HMx:=ae hmx;clear hmx;go_upto_region 20 with fail
       refine wp_region_held_drew (S:=(fun w'=>w'.cell? ⟨O,_,none⟩=some (.int .u8 X1)∧w'.cell? ⟨O,_,none⟩=some (.int .u8 X2)∧w'.cell? ⟨M,X1,none⟩=some (.int .u32 Y1)∧w'.cell? ⟨M,X2,none⟩=some (.int .u32 Y2))) bo (⟨r1,r2,m1,m2⟩) (fun hHeld=>?_);refine bC 0 ?_
       refine bC 1 ?_
       refine bC 2 ?_
       refine bC 3 ?_
       refine bC 4 ?_
       refine bC 5 ?_
       refine bC 6 ?_
       refine bC 7 ?_
       refine bC 8 ?_
       refine bC 9 ?_
       refine bC 10 ?_
       refine bC 11 ?_
       refine bC 12 ?_
       refine bC 13 ?_
       refine bC 14 ?_
       refine bC 15 ?_
       refine bC 16 ?_
       refine bC 17 ?_
       refine bC 18 ?_
       refine bC 19 ?_
       refine bC 20 ?_
       refine jg 21 fun K hK=>?_;go_simp;refine hK.out _ _ (⟨ak hHeld.1 (boxed _ _),ak hHeld.2.1 (boxed _ _),ak hHeld.2.2.1 (boxed _ _),ak hHeld.2.2.2 (boxed _ _)⟩) (fun hHeld=>?_);clear hK K;try simp only[cN]
       refine jg 22 fun K hK=>?_;go_simp;refine(HMx.out _ _ ?_ ?_).mono ?_
       ·exact(NU.out.alloc _).drew
       ·exact(aG.new wo _ _).drew
       rintro r wa⟨rfl,hma⟩;have GY:=hma.2;refine hK.out _ _ (⟨bN hHeld.1 GY Lm,bN hHeld.2.1 GY Lm,bN hHeld.2.2.1 GY Ln,bN hHeld.2.2.2 GY Ln⟩) (fun hHeld=>?_);clear hK K;try simp only[cN]
       refine qW ?_;obtain⟨Sj,Dt⟩:=aN ((Ll.out.alloc _).drew.keep GY Ln) ((hRi.out.alloc _).drew.keep GY Lm);have hZ:=ae ((hBi.out.alloc (Nat.le_of_lt Ll.out.lt) _).drew.trans (GY.below (B:=M) (fun q hq=>by have:=zM.out;omega) (Nat.le_of_lt (Ll.out.alloc _).drew.lt)));have HVa:=ae hma.1;clear hma GY r1 r2 m1 m2 NU Ll hRi hBi hHeld;go_wp2_with fail
       go_roundw
       case rel=>exact⟨k1,HK0.out,by rw[qO.out ()];rfl,ae (by rw[Hvn.out ()];exact HVa.out),Sj,Dt,hZ⟩
       case measure=>simp[intOf]
     ·obtain rfl:k=4:=by omega
      have wsX:=Ld (m:=ww) (o:=o) wsR 4;obtain⟨vx,hvx⟩:=bq (upW ww o vr 4);rw[←hvx]at NU wsX;have HS2:ag (∀_:Unit,me ww o vx 4=kS ww vb (r+1)):=ae (fun _=>by rw[hvx,HS.out ()]);clear hvx HS;go_wp2_with fail
      go_loopw [104] (fun ac4 wi=>∃k:Nat,k≤4∧ac4=.int .i64 k∧ag (aG wi V 259 (cF (me ww o vx k)))∧ag (aG wi M 259 (cF ww))∧ag (aG wi O 263 (cA o))∧ag (Below M w wi)) (fun ac4 _=>4-(intOf ac4).toNat)
      case atStart=>exact⟨0,by omega,rfl,NU,Ll,hRi,hBi⟩
      case round=>
       obtain⟨k,hk,rfl,NU,Ll,hRi,hBi⟩:=hrel;obtain⟨wo,rfl⟩:=bq (wr:World);by_cases hk4:k<4
       ·have hs:=Dz ww o vx k;unfold qq at hs;have wsU:=yI (m:=ww) (o:=o) wsX k;generalize me ww o vx k=vu at NU wsU hs;have r1:=DF Lj hRi.out (i:=8+2*k) aQ;have r2:=DF Lj hRi.out (i:=9+2*k) aQ;have b1:=HO.out (8+2*k);have b2:=HO.out (9+2*k);generalize bQ o (8+2*k)=X1 at r1 b1 hs;generalize bQ o (9+2*k)=X2 at r2 b2 hs;have m1:=eA wsW Ll.out b1;have m2:=eA wsW Ll.out b2;generalize bQ ww X1=Y1 at m1 hs;generalize bQ ww X2=Y2 at m2 hs;have c1:(X1:Int)<16:=by omega
        have c2:(X2:Int)<16:=by omega
        have hmx:∀(u:World)(gw:Nat),aG u V 259 (cF vu)→aG u gw 177 #[.int .u32 Y1,.int .u32 Y2]→Calls ah 197 #[.int .i64 k,.int .i64 ((4+(k+1)%4:Nat):Int),.int .i64 ((8+(k+2)%4:Nat):Int),.int .i64 ((12+(k+3)%4:Nat):Int),.slice (some ⟨gw,0,none⟩) 2 2,.pointer (some ⟨V,0,none⟩)] u fun r w'=>r=.returned (.tuple #[])∧lF u V (Lc vu k (4+(k+1)%4) (8+(k+2)%4) (12+(k+3)%4) Y1 Y2) w':=fun u gw hv hw=>NM wsU hv hw aQ aQ aQ (by omega)
        rw[←hs]at hmx;generalize hvn:me ww o vx (k+1)=vn at hmx;obtain⟨k1,hk1⟩:=bq (k+1);rw[←hk1]at hvn;have HK0:ag (k1≤4):=ae aQ;obtain⟨Hvn,qO⟩:=aN (fun _:Unit=>hvn) (fun _:Unit=>hk1);have eW0:IntKind.i64.wrap 0=0:=rfl;have eW1:IntKind.i64.wrap 1=1:=rfl;have eW2:IntKind.i64.wrap 2=2:=rfl;have eW3:IntKind.i64.wrap 3=3:=rfl;have eW4:IntKind.i64.wrap 4=4:=rfl;have eW5:IntKind.i64.wrap 5=5:=rfl;have eW6:IntKind.i64.wrap 6=6:=rfl;have eW7:IntKind.i64.wrap 7=7:=rfl;have eW8:IntKind.i64.wrap 8=8:=rfl;have eW9:IntKind.i64.wrap 9=9:=rfl;have agD:IntKind.i64.wrap 10=10:=rfl;have agE:IntKind.i64.wrap 11=11:=rfl;have agF:IntKind.i64.wrap 12=12:=rfl;have agG:IntKind.i64.wrap 13=13:=rfl;have agH:IntKind.i64.wrap 14=14:=rfl;have agI:IntKind.i64.wrap 15=15:=rfl;have Lm:O≠V:=by have:=hOV.out;omega
        have Ln:M≠V:=by have:=zM.out;omega
        clear hs b1 b2 hvn hk1;rcases(by omega:k=0∨k=1∨k=2∨k=3)with rfl|rfl|rfl|rfl
        all_goals
         simp only[Nat.reduceMul,Nat.reduceAdd,Nat.reduceMod]at r1 r2 hmx;have HMx:=ae hmx;clear hmx;go_upto_region 25 with fail
         refine wp_region_held_drew (S:=(fun w'=>w'.cell? ⟨O,_,none⟩=some (.int .u8 X1)∧w'.cell? ⟨O,_,none⟩=some (.int .u8 X2)∧w'.cell? ⟨M,X1,none⟩=some (.int .u32 Y1)∧w'.cell? ⟨M,X2,none⟩=some (.int .u32 Y2))) bo (⟨r1,r2,m1,m2⟩) (fun hHeld=>?_);refine bC 0 ?_
         refine bC 1 ?_
         refine bC 2 ?_
         refine bC 3 ?_
         refine bC 4 ?_
         refine bC 5 ?_
         refine bC 6 ?_
         refine bC 7 ?_
         refine bC 8 ?_
         refine bC 9 ?_
         refine bC 10 ?_
         refine bC 11 ?_
         refine bC 12 ?_
         refine bC 13 ?_
         refine bC 14 ?_
         refine bC 15 ?_
         refine bC 16 ?_
         refine bC 17 ?_
         refine bC 18 ?_
         refine bC 19 ?_
         refine bC 20 ?_
         refine bC 21 ?_
         refine bC 22 ?_
         refine bC 23 ?_
         refine bC 24 ?_
         refine bC 25 ?_
         refine bC 26 ?_
         refine bC 27 ?_
         refine jg 28 fun K hK=>?_;go_simp;refine hK.out _ _ (⟨ak hHeld.1 (boxed _ _),ak hHeld.2.1 (boxed _ _),ak hHeld.2.2.1 (boxed _ _),ak hHeld.2.2.2 (boxed _ _)⟩) (fun hHeld=>?_);clear hK K;try simp only[cN]
         refine jg 29 fun K hK=>?_;go_simp;refine(HMx.out _ _ ?_ ?_).mono ?_
         ·exact(NU.out.alloc _).drew
         ·exact(aG.new wo _ _).drew
         rintro r wa⟨rfl,hma⟩;have GY:=hma.2;refine hK.out _ _ (⟨bN hHeld.1 GY Lm,bN hHeld.2.1 GY Lm,bN hHeld.2.2.1 GY Ln,bN hHeld.2.2.2 GY Ln⟩) (fun hHeld=>?_);clear hK K;try simp only[cN]
         refine qW ?_;obtain⟨Sj,Dt⟩:=aN ((Ll.out.alloc _).drew.keep GY Ln) ((hRi.out.alloc _).drew.keep GY Lm);have hZ:=ae ((hBi.out.alloc (Nat.le_of_lt Ll.out.lt) _).drew.trans (GY.below (B:=M) (fun q hq=>by have:=zM.out;omega) (Nat.le_of_lt (Ll.out.alloc _).drew.lt)));have HVa:=ae hma.1;clear hma GY r1 r2 m1 m2 NU Ll hRi hBi hHeld;go_wp2_with fail
         refine⟨?_,?measure⟩
         (repeat apply Exists.intro)
         refine⟨?rel,rfl⟩
         case rel=>exact⟨k1,HK0.out,by rw[qO.out ()];rfl,ae (by rw[Hvn.out ()];exact HVa.out),Sj,Dt,hZ⟩
         case measure=>simp[intOf]
       ·obtain rfl:k=4:=by omega
        go_wp2_with fail
        go_roundw
        case rel=>exact⟨r+1,by omega,by go_num,ae (by rw[←HS2.out ()];exact NU.out),Ll,hBi⟩
        case measure=>simp[intOf];omega
   ·obtain rfl:r=10:=by omega
    clear DG HOc wsR;obtain⟨vz,hvz⟩:=bq (kS ww vb 10);have wsZ:Ws 16 vz:=by rw[hvz];exact rA wsB 10
    rw[←hvz]at hVr;have hfin:ag (∀_:Unit,nY vz h 8=pP h n p last):=ae (fun _=>by unfold pP;rw[hvz,Hvb.out,HWW.out ()]);clear hvz Hvb HWW wsB;have HG0:ag (fW wo g (nY vz h 0) sz rv n):=ae (aG.below (g:=g) HG.out (by rw[HMe.out];exact hBr.out) (aG.lt HG.out));go_wp2_with fail
    go_loopw [139] (fun v139 wi=>∃i:Nat,i≤8∧v139=.int .i64 i∧ag (fW wi g (nY vz h i) sz rv n)∧ag (aG wi V 259 (cF vz))∧ag (∃u,Below M w u∧M≤u.heap.size∧Keeps (fun k=>k=g) u wi)) (fun v139 _=>8-(intOf v139).toNat)
    case atStart=>exact⟨0,by omega,rfl,HG0,hVr,ae ⟨_,hBr.out,Nat.le_of_lt hMr.out.lt,Keeps.refl _ _⟩⟩
    case round=>
     obtain⟨i,hi,rfl,hGi,NU,hUi⟩:=hrel;obtain⟨wo,rfl⟩:=bq (wr:World);clear HG0 hVr hMr hBr;have wsH:=A8 wsZ hh i;by_cases hi8:i<8
     ·have hs:=GM vz h i;unfold NK at hs;generalize nY vz h i=hc at hGi wsH hs;have c0:=hGi.out.word wsH hi8;have c1:=eA wsZ NU.out (i:=i) aQ;have c2:=eA wsZ NU.out (i:=8+i) aQ;have f0:=aG.frozen (g:=g) hGi.out i;have l0:=wsH.at_ i;have l1:=wsZ.at_ i;have l2:=wsZ.at_ (8+i);have e1:=GX l1 l2;have e2:=GX l0 (kA l1 l2);have hput:fW (wo.setCell ⟨g,i,none⟩ (.int .u32 (iE (bQ hc i) (iE (bQ vz i) (bQ vz (8+i))):Int))) g (hc.set i (iE (bQ hc i) (iE (bQ vz i) (bQ vz (8+i))))) sz rv n:=by
       unfold fW;rw[←NN wsH hi8];exact aG.aL hGi.out i _
      rw[←hs]at hput;generalize hhn:nY vz h (i+1)=hn1 at hput;have Hhn:=ae (fun _:Unit=>hhn);generalize iE (bQ hc i) (iE (bQ vz i) (bQ vz (8+i)))=X3 at e2 hput;generalize iE (bQ vz i) (bQ vz (8+i))=X4 at e1 e2;generalize bQ hc i=X0 at c0 e2;generalize bQ vz i=X1 at c1 e1;generalize bQ vz (8+i)=X2 at c2 e1;have Im:=ae hput;clear hs hhn hput l0 l1 l2;have z1:(i:Int)<16:=by omega
      obtain⟨j,hj⟩:=bq (8+i);rw[←hj]at c2;have z3:8+(i:Int)=(j:Int):=by omega
      have z4:(j:Int)<16:=by omega
      have z5:IntKind.i64.wrap (j:Int)=(j:Int):=by rw[IntKind.wrap_i64];omega
      clear hj;have HMg:ag (V≠g):=ae (by have:=zM.out;omega);go_upto_region 31 with fail
      refine wp_region_still_tail 18 bo bo ?_;simp only[ag6,ME,ag8,ag7]
      repeat still_step
      refine wpStill_nil ?_;change wpList _ _ _ _ _ wo.drew;go_wp2_with fail
      refine⟨?_,?measure⟩
      (repeat apply Exists.intro)
      refine⟨?rel,rfl⟩
      case rel=>
       refine⟨i+1,by omega,by go_num,ae (by rw[Hhn.out ()];exact aG.drew Im.out),ae (aG.drew (aG.far NU.out (p:=⟨g,i,none⟩) HMg.out _)),ae ?_⟩;obtain⟨u,u1,u2,u3⟩:=hUi.out;exact⟨u,u1,u2,(u3.setCell (p:=⟨g,i,none⟩) (Or.inl rfl) _).drew⟩
      case measure=>simp[intOf];omega
     ·obtain rfl:i=8:=by omega
      go_wp2_with fail
      go_end0
      have hG:=hGi.out;rw[hfin.out ()]at hG;refine⟨rfl,hG,?_⟩;obtain⟨u,u1,u2,u3⟩:=hUi.out;exact(Keeps.of_below (by rw[HMe.out];exact u1) fun k hk _=>hk).trans u3
def DI:List Nat:=ia.set 0 1795745351
theorem Wj(w:World):Calls ah 150 #[.int .i64 32,aI] w fun r w'=>(∃g,w.heap.size≤g∧r=.returned (.tuple #[.pointer (some ⟨g,0,none⟩),.int .i64 0])∧fW w' g DI 32 au 0)∧Below w.heap.size w w':=by
 have hF:=first_any;go_enter Tryz.func150,Tryz.ntmps150;go_upto_region 4 with(go_at_call 174;refine(hF _).mono ?_;rintro r w1⟨rfl,d1⟩)
 have h1:fW (w1.alloc (.cells #[.int .u32 1779033703,.int .u32 3144134277,.int .u32 1013904242,.int .u32 2773480762,.int .u32 1359893119,.int .u32 2600822924,.int .u32 528734635,.int .u32 1541459225,.int .i64 32,au,.int .u64 0] 238)) w1.heap.size ia 32 au 0:=aG.new w1 _ _;have b1:=after d1 (boxed w1 (.cells #[.int .u32 1779033703,.int .u32 3144134277,.int .u32 1013904242,.int .u32 2773480762,.int .u32 1359893119,.int .u32 2600822924,.int .u32 528734635,.int .u32 1541459225,.int .i64 32,au,.int .u64 0] 238));have hle:w.heap.size≤w1.heap.size:=d1.size;clear d1;generalize w1.alloc (.cells #[.int .u32 1779033703,.int .u32 3144134277,.int .u32 1013904242,.int .u32 2773480762,.int .u32 1359893119,.int .u32 2600822924,.int .u32 528734635,.int .u32 1541459225,.int .i64 32,au,.int .u64 0] 238)=w2 at h1 b1⊢;generalize w1.heap.size=g at h1 hle⊢;have c0:=fW.word (i:=0) h1 kZ aH;rw[show bQ ia 0=1779033703 from rfl]at c0;have f0:=aG.frozen (g:=g) h1 0;have h2:fW (w2.setCell ⟨g,0,none⟩ (.int .u32 1795745351)).drew g DI 32 au 0:=by
  unfold fW DI;rw[←NN kZ aH];exact(aG.aL h1 0 _).drew
 have b2:=(b1.setCell (p:=⟨g,0,none⟩) hle (.int .u32 1795745351)).drew;obtain⟨H1,H2,B2⟩:=bu h1 h2 b2;have e0:bits .xor .u32 16842752 0=16842752:=by decide
 have e1:bits .xor .u32 16842752 32=16842784:=by decide
 have e2:bits .xor .u32 1779033703 16842784=1795745351:=by decide
 clear h1 h2 b1 b2 hF;refine wp_region_still_tail 17 bo bo ?_;simp only[ag6,ME,ag8,ag7]
 repeat still_step
 refine wpStill_nil ?_;change wpList _ _ _ _ _ w2.drew;go_wp2_with fail
 go_ret2;exact⟨⟨g,hle,rfl,H2.out⟩,B2.out⟩
def u8s(l:List Nat):List Value:=l.map fun x:Nat=>ahE .u8 (x:Int)
def Q6(lo:Nat)(w:World)(g:Nat)(b:Bl):Prop:=∃rv,fW w g b.h 32 rv b.n∧w.ownsRow lo 5 1 rv b.rest.length (u8s b.rest)
theorem Q7{w:World}{lo g n cap:Nat}{e:TypeId}{size:Nat}{xs:List Value}(h:w.ownsRow lo e size (.slice (some ⟨g,0,none⟩) n cap) n xs):w.ownsRow lo e size (.slice (some ⟨g,0,none⟩) 0 cap) 0 []:=by
 refine⟨by simp,Or.inr ?_⟩;rcases h.2 with⟨hv,_⟩|⟨g',cap',cur,hv,hb,hg,hn,hc,hs,_⟩
 ·cases hv
 ·injection hv with h1 h2 h3
  injection h1 with h1
  injection h1 with h1
  subst h1;subst h3;exact⟨g,cap,cur,rfl,hb,hg,bh _,hc,hs,by simp⟩
theorem Bl.Bd(b:Bl)(l:List Nat)(c:Nat):b.adds (l++[c])=(b.adds l).add c:=by
 unfold Bl.adds;rw[List.foldl_append];rfl
theorem ug{w:World}{lo g cap:Nat}{l:List Nat}(h:w.ownsRow lo 5 1 (.slice (some ⟨g,0,none⟩) l.length cap) l.length (u8s l)){i:Nat}(hi:i<l.length):w.cell? ⟨g,i,none⟩=some (.int .u8 (bQ l i:Int)):=by
 rcases h.2 with⟨hv,_⟩|⟨g',cap',cur,hv,hb,hg,hn,hc,hs,ht⟩
 ·cases hv
 ·injection hv with h1 h2 h3
  injection h1 with h1
  injection h1 with h1
  subst h1;rw[Nat.mul_one]at ht;have h2:(cur.toList.take l.length)[i]? =(u8s l)[i]? :=by rw[ht]
  rw[List.getElem?_take,if_pos hi]at h2;unfold World.cell?;simp only[hg];rw[←ahD,h2];unfold u8s bQ;rw[bS,aE,af hi];rfl
theorem rB{w:World}{lo n size:Nat}{e:TypeId}{v:Value}{xs:List Value}(h:w.ownsRow lo e size v n xs):∃A c,v=.slice A n c:=by
 rcases h.2 with⟨hv,hn⟩|⟨g,cap,cur,hv,_⟩
 ·exact⟨none,0,by rw[hv,hn]⟩
 ·exact⟨_,_,hv⟩
theorem Be{w:World}{lo n size:Nat}{e:TypeId}{A:Option Addr}{c:Nat}{xs:List Value}(h:w.ownsRow lo e size (.slice A n c) n xs)(hn:n≠0):∃q,A=some ⟨q,0,none⟩:=by
 rcases h.2 with⟨_,h0⟩|⟨g,cap,cur,hv,_⟩
 ·exact absurd h0 hn
 ·injection hv with h1
  exact⟨g,h1⟩
theorem GZ{h:List Nat}(hh:Ws 8 h){sz n:Nat}{rv v:Value}(i:Nat):(hsL h sz rv n).toArray.setIfInBounds (8+i) v=((h.map fun x:Nat=>ahE .u32 x)++[ahE .i64 sz,rv,.int .u64 n].set i v).toArray:=by
 unfold hsL;rw[List.setIfInBounds_toArray,List.set_append_right _ _ (by rw[ay,hh.len];omega),ay,hh.len,Nat.add_sub_cancel_left]
section
variable{w w':World}{g sz n:Nat}{h:List Nat}{rv:Value}
theorem fW.Wl(hg:fW w g h sz rv n)(hh:Ws 8 h)(m:Nat):fW (w.setCell ⟨g,10,none⟩ (.int .u64 m)) g h sz rv m:=by
 have:=aG.aL (g:=g) hg 10 (.int .u64 m);rw[GZ hh 2]at this;exact this
theorem fW.NV(hg:fW w g h sz rv n)(hh:Ws 8 h)(v:Value):fW (w.setCell ⟨g,9,none⟩ v) g h sz v n:=by
 have:=aG.aL (g:=g) hg 9 v;rw[GZ hh 1]at this;exact this
theorem je{lo size m:Nat}{e:TypeId}{v:Value}{xs:List Value}(hw:w.ownsRow lo e size v m xs)(hk:∀q,v.ownBlock=some q→w'.heap[q]? =w.heap[q]?):w'.ownsRow lo e size v m xs:=by
 refine⟨hw.1,?_⟩;rcases hw.2 with h0|⟨q,cap,cur,hv,hb,hg,rest⟩
 ·exact Or.inl h0
 ·exact Or.inr ⟨q,cap,cur,hv,hb,by rw[hk q (by rw[hv];rfl)];exact hg,rest⟩
theorem wR{lo size m q:Nat}{v:Value}{xs:List Value}(hw:w.ownsRow lo 5 size v m xs)(hg:fW w g h sz rv n)(hq:v.ownBlock=some q):q≠g:=by
 rcases hw.2 with⟨hv,_⟩|⟨q',cap,cur,hv,hb,hq',_⟩
 ·rw[hv]at hq;cases hq
 ·rw[hv]at hq;injection hq with hq
  subst hq;exact aG.vP hq' hg (by decide)
end
theorem qu(w:World)(g k i:Nat)(v:Value)(h:k≠g):(w.setCell ⟨g,i,none⟩ v).heap[k]? =w.heap[k]? :=by
 have:=((Keeps.refl (fun q=>q=g) w).setCell (p:=⟨g,i,none⟩) (Or.inl rfl) v);rcases Nat.lt_or_ge k w.heap.size with hl|hl
 ·exact this.block k hl h
 ·rw[ahM hl,ahM (by simpa using hl)]
theorem DJ{w:World}{lo size m q:Nat}{e:TypeId}{v:Value}{xs:List Value}(hw:w.ownsRow lo e size v m xs)(hq:v.ownBlock=some q):q<w.heap.size:=by
 rcases hw.2 with⟨hv,_⟩|⟨q',cap,cur,hv,hb,hq',_⟩
 ·rw[hv]at hq;cases hq
 ·rw[hv]at hq;injection hq with hq
  subst hq;exact(Array.getElem?_eq_some_iff.1 hq').1
theorem Wm(l:List Nat)(x:Nat):u8s (l++[x])=u8s l++[.int .u8 x]:=by unfold u8s;rw[cH];rfl
theorem kT{P:Program}{w:World}{ops:Array Oper}{o:Oper}{a:Act}{K:Act→World→Prop}{Q:Exit→Act→World→Prop}{E:Prop}(hgd:o.guard=none)(s x:Operand)(t u:TypeId)(ho:o.op=.call {callee:=.builtin .append,args:= #[s,x],argTypes:= #[t,u]}){v y v':Value}{w':World}(hs:a.eval s=v)(hx:a.eval x=y)(hr:(Builtin.append_ #[t,u] o.type #[v,y]).run P w=.ok v' w')(h:K (a.put o.dst v') w'):if Region.wanted o (yielded ops a.tmps)=true then Oper.wp P o a w K Q else E:=by
 have hw:Region.wanted o (yielded ops a.tmps)=true:=by simp[Region.wanted,hgd]
 rw[if_pos hw];unfold Oper.wp execOp;simp only[ho,resolve,invoke,builtin,ahN,Sem.run_pure,j9,List.map_toArray,List.map_cons,List.map_nil,hs,hx,hr];exact h
theorem aao:(ah.info? 5).map (fun i=>(i.zero,i.size,i.bytes))=some (some (.int .u8 0),1,1):=by kernel_rfl
theorem Wn{w:World}(ord:gd w){g lo:Nat}{b:Bl}(ok:b.Ok)(s:ByteArray)(hs:s.size≤16777216)(hn:b.n+b.rest.length≤16777216)(hlo:lo≤g)(MP:lo≤w.heap.size)(hol:0<lo)(hb:Q6 lo w g b):Calls ah 151 #[.pointer (some ⟨g,0,none⟩),.string s] w fun r w'=>r=.returned (.int .i64 0)∧Q6 lo w' g (b.adds (s.data.toList.map UInt8.toNat))∧Below lo w w':=by
 obtain⟨HB,Q8,DG⟩:=bu hb ok ord;obtain⟨rv0,a1,a2⟩:=hb;have c8:=a1.size ok.h;clear a1 a2 ok ord;go_enter Tryz.func151,Tryz.ntmps151;go_wp2_with fail
 clear c8;generalize hl:s.data.toList.map UInt8.toNat=l;have hll:l.length=s.size:=by rw[←hl,ay];rfl
 obtain⟨HL,HLl⟩:=aN hl hll;clear hl hll;go_loopw [17] (fun v17 wr=>∃k:Nat,k≤s.size∧v17=.int .i64 k∧ag (Q6 lo wr g (b.adds (l.take k)))∧ag (Below lo w wr)∧ag (lo≤wr.heap.size)) (fun v17 _=>s.size-(intOf v17).toNat)
 case atStart=>exact⟨0,by omega,rfl,ae (by rw[ME];exact HB.out),ae (aM _ _),ae MP⟩
 case round=>
  obtain⟨k,hk,rfl,hBk,hBw,hSz⟩:=hrel;obtain⟨wo,rfl⟩:=bq (wr:World);clear HB;by_cases hlt:k<s.size
  ·have hok:(b.adds (l.take k)).Ok:=Bl.NL (fun x hx=>by
    have hx:=List.mem_of_mem_take hx;rw[←HL.out]at hx;obtain⟨y,_,rfl⟩:=List.mem_map.1 hx;exact y.toNat_lt) Q8.out
   have hcount:=Bl.V7 (l.take k) b;rw[List.length_take,HLl.out,Nat.min_eq_left hk]at hcount;have hstep:ag (∀_:Unit,b.adds (l.take (k+1))=(b.adds (l.take k)).add (bQ l k)):=ae (fun _=>by
    rw[←Bl.Bd];congr 1;have hk':k<l.length:=by rw[HLl.out];exact hlt
    rw[List.take_add_one,af hk'];unfold bQ;rw[aE,af hk'];rfl)
   generalize b.adds (l.take k)=bk at hBk hok hcount hstep;have afW:bk.n+bk.rest.length≤33554432:=by omega
   have G0:=ae hok;clear hcount hok;obtain⟨rv,h1,h2⟩:=hBk.out;obtain⟨A,cp,hrv⟩:=rB h2;subst hrv;have c9:=h1.rest G0.out.h;obtain⟨H1,H2⟩:=aN h1 h2;clear h1 h2 hBk;have e64:((bk.rest.length:Int)==64)=decide (bk.rest.length=64):=by rw[fE];simp;omega
   go_upto_if 25 with fail
   go_cut []from 18 (fun wc=>ag (∃A c h' rest' n',fW wc g h' 32 (.slice A rest'.length c) n'∧wc.ownsRow lo 5 1 (.slice A rest'.length c) rest'.length (u8s rest')∧Ws 8 h'∧rest'.length≤63∧∀x,bk.add x=⟨h',rest'++[x],n'⟩)∧ag (Below lo w wc)∧ag (lo≤wc.heap.size))
   case first=>
    by_cases h64:bk.rest.length=64
    ·obtain⟨q,hq⟩:=Be H2.out aQ;subst hq;have hqg:=wR H2.out H1.out (q:=q) rfl;have c10:=H1.out.num G0.out.h;have f9:=aG.frozen (g:=g) H1.out 9;have f10:=aG.frozen (g:=g) H1.out 10;obtain⟨m,hm⟩:=bq (bk.n+64);have e10:IntKind.u64.wrap ((bk.n:Int)+64)=(m:Int):=by rw[fe];omega
     have h1:=H1.out.Wl G0.out.h m;have h2:=je H2.out (w':=wo.setCell ⟨g,10,none⟩ (.int .u64 m)) (fun q' hq'=>by injection hq' with hq';subst hq';exact qu _ _ _ _ _ hqg);have b1:=hBw.out.setCell (p:=⟨g,10,none⟩) hlo (.int .u64 m);rw[h64]at c9 h1;have hp:=fun i(hi:i<64)=>ug h2 (i:=i) (by rw[h64];exact hi)
     have hpb:∀i,bQ bk.rest i<256:=fun i=>by
      unfold bQ;rw[aE];rcases hi:bk.rest[i]? with _|x
      ·simp
      ·exact G0.out.byte x (kE hi)
     have ht:=Bc (DG.out.below b1 hol) G0.out.h h1 aQ (cap:=cp) hp hpb hqg aQ false;obtain⟨H3,H4,B1,HT⟩:=cY h1 h2 b1 ht;have Q9:ag (lo≤(wo.setCell ⟨g,10,none⟩ (.int .u64 m)).heap.size):=ae (aw MP b1.size);have HM:=ae hm;clear h1 h2 b1 ht hp hpb hm;go_upto_region 9 with(go_at_call 175;refine HT.out.mono ?_;rintro r w3⟨rfl,h5,k5⟩)
     clear c9 c10 f9 f10 e10 HT;have wp:=ub G0.out.h m bk.rest false;have c9:=h5.rest wp;have f9:=aG.frozen (g:=g) h5 9;have h6:=h5.NV wp (.slice (some ⟨q,0,none⟩) 0 cp);have ql:q<(wo.setCell ⟨g,10,none⟩ (.int .u64 m)).heap.size:=aj _ _ (ug H4.out (i:=0) aQ);have o3:=Q7 (je H4.out (fun q' hq'=>by injection hq' with hq';subst hq';exact k5.block _ ql hqg));have o4:=je o3 (w':=w3.setCell ⟨g,9,none⟩ (.slice (some ⟨q,0,none⟩) 0 cp)) (fun q' hq'=>by injection hq' with hq';subst hq';exact qu _ _ _ _ _ hqg);have b6:=(B1.out.trans (k5.below (B:=lo) (fun q hq=>by rw[hq];exact hlo) Q9.out)).setCell (p:=⟨g,9,none⟩) hlo (.slice (some ⟨q,0,none⟩) 0 cp);obtain⟨H6,O4,B6,WP⟩:=cY h6 o4 b6 wp;clear h5 k5 h6 o3 o4 b6 H4 H3 B1 Q9 wp;go_wp2_with fail
     go_meet
     case rel=>exact⟨ae ⟨some ⟨q,0,none⟩,cp,_,[],m,H6.out,O4.out,WP.out,bh _,fun x=>by unfold Bl.add;rw[if_pos h64,HM.out];rfl⟩,ae B6.out,ae (aw MP B6.out.size)⟩
    ·go_wp2_with fail
     go_meet
     case rel=>exact⟨ae ⟨A,cp,bk.h,bk.rest,bk.n,H1.out,H2.out,G0.out.h,by have:=G0.out.rest;omega,fun x=>by unfold Bl.add;rw[if_neg h64]⟩,hBw,hSz⟩
   case rest=>
    obtain⟨hX,hBw,hSz⟩:=hcut;obtain⟨A,cp,h',rest',n',h1,h2,wh,hr,hadd⟩:=hX.out;clear c9 H1 H2 hX;have hkl:k<s.size:=hlt;have hkd:k<s.data.size:=hlt;have hck:ag (∀_:Unit,bQ l k=(s[k]'hkl).toNat):=ae (fun _=>by
     rw[←HL.out];unfold bQ;rw[aE,bS,ahD,Array.getElem?_eq_getElem hkd];rfl)
    have c9:=h1.rest wh;have z1:(k:Int)<(s.size:Int):=by omega
    have hgl:g<wc.heap.size:=aG.lt (g:=g) h1;obtain⟨i0,lD,hz0,hz1,hz2⟩:=info_parts aao;have hz:wc.heap.size≠g:=by omega
    have c9':=ak c9 (boxed wc (.cells ([.int .u8 ((s[k]'hkl).toNat:Int)]:List Value).toArray 5)).drew;obtain⟨v',w',hr',o2,gr,_⟩:=run_append_own (P:=ah) (w:=(wc.alloc (.cells ([.int .u8 ((s[k]'hkl).toNat:Int)]:List Value).toArray 5)).drew) lo 67 67 5 i0 (.int .u8 0) 1 1 cR lD hz0 hz1 hz2 rfl aH (.slice A rest'.length cp) rest'.length (u8s rest') (je h2 (fun q hq=>heap_alloc_old wc _ (DJ h2 hq))) ⟨wc.heap.size,0,none⟩ 1 1 [.int .u8 ((s[k]'hkl).toNat:Int)] rfl (cQ wc _ 5) (by intro u hu;rw[List.mem_singleton.1 hu];rfl) (by show rest'.length+1≤9223372036854775807;omega) aQ (aw hSz.out (by show wc.heap.size≤(wc.alloc _).heap.size;simp));obtain⟨A2,c2,hv2⟩:=rB o2;subst hv2;obtain⟨HR,HO2,GK⟩:=bu hr' o2 gr;have hw':fW w' g h' 32 (.slice A rest'.length cp) n':=aG.keep (g:=g) (aG.drew (aG.alloc (g:=g) h1 _)) (Keeps.row gr) (fun hq=>wR h2 h1 hq rfl);have c9a:=hw'.rest wh;have f9:=aG.frozen (g:=g) hw' 9;have hb':=(hBw.out.alloc hSz.out (.cells ([.int .u8 ((s[k]'hkl).toNat:Int)]:List Value).toArray 5)).drew.trans ((Keeps.row gr).below (B:=lo) (fun q hq=>by
     rcases h2.2 with⟨hv,_⟩|⟨q',cap,cur,hv,hb,_⟩
     ·rw[hv]at hq;cases hq
     ·rw[hv]at hq;injection hq with hq;subst hq;exact hb) (aw hSz.out (by show wc.heap.size≤(wc.alloc _).heap.size;simp)))
    obtain⟨HW,ZN⟩:=aN hw' hb';clear hw' hb';obtain⟨H1,H2⟩:=aN h1 h2;clear h1 h2 hr' o2 gr;go_upto_region 10 with fail
    refine dW 12 (fun u=>u.cell? ⟨g,9,none⟩=some (.slice A rest'.length cp)) bo (c9) (fun hHeld=>?_);refine dR 0 ?_
    refine dR 1 ?_
    refine dR 2 ?_
    refine dR 3 ?_
    refine dR 4 ?_
    refine dR 5 ?_
    refine dR 6 ?_
    refine dR 7 ?_
    refine nA 8 fun K hK=>?_;go_simp;refine hK.out _ _ (fun _=>c9') (fun hHeld=>?_);have hHeld:=hHeld aH;clear hK K;try simp only[cN]
    refine nA 9 fun K hK=>?_;refine kT rfl _ _ 67 67 rfl rfl rfl HR.out ?_;refine hK.out _ _ (fun _=>c9a) (fun hHeld=>?_);have hHeld:=hHeld aH;clear hK K;try simp only[cN]
    refine nA 10 fun K hK=>?_;go_simp;refine hK.out _ _ (fun _=>hHeld) (fun hHeld=>?_);have hHeld:=hHeld aH;clear hK K;try simp only[cN]
    refine dR 11 ?_
    refine nA 12 fun K hK=>?_;go_simp;refine hK.out _ _ (fun h=>absurd rfl h) (fun _=>?_);clear hK K hHeld;try simp only[cN]
    refine OC ?_;have g1:=HW.out.NV wh (.slice A2 (rest'.length+1) c2);have g2:=je HO2.out (w':=w'.setCell ⟨g,9,none⟩ (.slice A2 (rest'.length+1) c2)) (fun q hq=>qu _ _ _ _ _ (wR HO2.out HW.out hq));have g3:=ZN.out.setCell (p:=⟨g,9,none⟩) hlo (.slice A2 (rest'.length+1) c2);rw[←hck.out ()]at g2;have hfin:Q6 lo (w'.setCell ⟨g,9,none⟩ (.slice A2 (rest'.length+1) c2)) g (b.adds (l.take (k+1))):=by
     rw[hstep.out (),hadd];refine⟨_,g1,?_⟩;simp only[Wm,ai,List.length_singleton];exact g2
    obtain⟨G2,G3⟩:=aN hfin g3;clear g1 g2 g3 hfin;go_wp2_with fail
    go_roundw
    case rel=>exact⟨k+1,by omega,by go_num,G2,G3,ae (aw MP G3.out.size)⟩
    case measure=>simp[intOf];omega
  ·obtain rfl:k=s.size:=by omega
   go_wp2_with fail
   go_ret;refine⟨rfl,?_,hBw.out⟩;rw[HL.out];have h:=hBk.out;rw[←HLl.out,List.take_length]at h;exact h
def Bf:Array Value:=(hsL (aS 8 0) 0 au 0).toArray
theorem yM(w:World):(Instr.alloc 238 true (.tuple #[])).run ah w=.ok (.pointer (some ⟨w.heap.size,0,none⟩)) (w.alloc (.cells Bf 238)):=by
 kernel_rfl
theorem sM{ops:Array Oper}{rest:List Oper}{o:Oper}{a:Act}{w:World}{Q:Exit→Act→World→Prop}(hgd:o.guard=none)(ho:o.op=.alloc 238)(h:wpList ah ops Q rest (a.put o.dst (.pointer (some ⟨w.heap.size,0,none⟩))) (w.alloc (.cells Bf 238))):wpList ah ops Q (o::rest) a w:=wpList_plain hgd fun _ hK=>by
 unfold Oper.wp execOp;simp only[ho,ahN,yM,j9];exact hK _ _ h
theorem Bg:(ah.info? 238).map (·.size)=some 11:=by kernel_rfl
theorem yN{h:List Nat}(hh:Ws 8 h)(sz n:Nat)(rv:Value):(hsL h sz rv n).toArray.size=11:=by
 unfold hsL;rw[abd,ai,ay,hh.len];rfl
theorem aap(h:List Nat)(sz n:Nat)(A:Option Addr)(m c:Nat):(hsL h sz (.slice A m c) n).toArray.all (·.oneCell')=true:=by
 unfold hsL;rw[List.all_toArray,List.all_append,List.all_map];simp only[aX];exact⟨List.all_eq_true.2 fun _ _=>rfl,rfl⟩
def outW(L:List Nat)(k:Nat):List Nat:=(aF k).foldl (fun v i=>v.set i (kN L i)) (aS 32 0)
theorem uh(L:List Nat)(k:Nat):outW L (k+1)=(outW L k).set k (kN L k):=jU (fun v i=>v.set i (kN L i)) _ k
theorem Wp(L:List Nat)(k:Nat):(outW L k).length=32:=by
 induction k with
 |zero=>exact lK
 |succ k ih=>rw[uh,List.length_set,ih]
theorem aaq(L:List Nat)(k:Nat)(hk:k≤32):outW L k=(aF k).map (kN L)++aS (32-k) 0:=by
 induction k with
 |zero=>rfl
 |succ k ih=>
  rw[uh,ih aQ,List.range_succ,cH,List.set_append_right _ _ (by rw[ay,List.length_range];omega),ay,List.length_range,Nat.sub_self,show 32-k=(32-(k+1))+1 by omega,List.replicate_succ,List.append_assoc];rfl
theorem aar:(ah.info? 5).map (·.size)=some 1:=by kernel_rfl
theorem ac5{w:World}{V g dL dC sL sC:Nat}{t ty:TypeId}{v u:List Nat}(hV:aG w V t (cA v))(ho:u.length≤v.length)(hsrc:∀j,j<u.length→w.cell? ⟨g,j,none⟩=some (.int .u8 (bQ u j:Int)))(hn:u.length=Nat.min sL dL):∃w',(Builtin.copy_ #[67,67] ty #[.slice (some ⟨V,0,none⟩) dL dC,.slice (some ⟨g,0,none⟩) sL sC]).run ah w=.ok (goInt u.length) w'∧aG w' V t (cA (u++v.drop u.length))∧Keeps (fun k=>k=V) w w':=by
 have h:=run_copy_row (P:=ah) w 67 67 ty 5 V 0 dL dC ⟨g,0,none⟩ sL sC (cA v) t (u.map fun x:Nat=>ahE .u8 x) cR aar hV (by rw[ay];exact hn) (fun j x hx=>by
  rw[NQ];have hj:j<u.length:=by
   have:=(List.getElem?_eq_some_iff.1 hx).1;rwa [ay]at this
  rw[bS,af hj]at hx;injection hx with hx
  subst hx;rw[hsrc j hj];unfold bQ;rw[aE,af hj];rfl) (by rw[ay];unfold cA;rw[abd,ay,Nat.zero_add];exact ho) (fun x hx=>by
  obtain⟨n,_,rfl⟩:=List.mem_map.1 hx;rfl)
 rw[ay]at h;refine⟨_,h,?_,⟨rfl,rfl,rfl,by rw[setRow_size];exact aA _,fun k _ hk=>setRow_other w V k _ hk⟩⟩;have e:((cA v).toList.take 0++(u.map fun x:Nat=>ahE .u8 x)++(cA v).toList.drop (0+u.length)).toArray=cA (u++v.drop u.length):=by
  unfold cA;rw[cH,List.map_drop,ME,lI,Nat.zero_add]
 rw[e];exact setRow_heap w V _ _ t (0,0) hV
theorem Wq{w:World}(ord:gd w){g lo:Nat}{b:Bl}(ok:b.Ok)(hn:b.n+b.rest.length≤33554432)(hne:0<b.rest.length)(hb:Q6 lo w g b):Calls ah 152 #[.pointer (some ⟨g,0,none⟩)] w (Got (.string ⟨(b.sum.map ahT).toArray⟩) w):=by
 obtain⟨rv,h1,h2⟩:=hb;obtain⟨A,cp,hrv⟩:=rB h2;subst hrv;have c8:=h1.size ok.h;obtain⟨H1,H2,Q8,DG⟩:=cY h1 h2 ok ord;clear h1 h2 ok ord;go_enter Tryz.func152,Tryz.ntmps152;go_upto_region 3 with fail
 refine wp_region_lit ?_
 iterate 6 go_step
 refine wpList_load_row rfl _ _ rfl g rfl _ _ (0,0) _ H1.out Tryz.underlying238 rfl (by rw[yN Q8.out.h];exact Bg) ?_;refine sM rfl rfl ?_;refine wpList_store_row rfl _ _ _ rfl w.heap.size _ rfl rfl 238 Bf (heap_alloc_new w _) (by rw[yN Q8.out.h];exact Bg) (by rw[yN Q8.out.h];rfl) (aap _ _ _ _ _ _) ?_;have hC:ag (fW ((w.alloc (.cells Bf 238)).setRow w.heap.size (hsL b.h 32 (.slice A b.rest.length cp) b.n).toArray) w.heap.size b.h 32 (.slice A b.rest.length cp) b.n):=ae (setRow_heap _ _ _ _ _ (0,0) (heap_alloc_new w _));have hBl:ag (Below w.heap.size w ((w.alloc (.cells Bf 238)).setRow w.heap.size (hsL b.h 32 (.slice A b.rest.length cp) b.n).toArray)):=ae ⟨rfl,rfl,rfl,by rw[setRow_size];simp,fun k hk=>by rw[setRow_other _ _ _ _ aQ];exact heap_alloc_old w _ hk⟩;have H2b:=ae (je H2.out (fun q hq=>hBl.out.block q (DJ H2.out hq)));clear c8 H2;generalize(w.alloc (.cells Bf 238)).setRow w.heap.size (hsL b.h 32 (.slice A b.rest.length cp) b.n).toArray=w1 at hC hBl H2b⊢;generalize hCe:w.heap.size=C at hC hBl⊢;have HCe:=ae hCe;clear hCe;have c9:=hC.out.rest Q8.out.h;have c10:=hC.out.num Q8.out.h;have f10:=aG.frozen (g:=C) hC.out 10;obtain⟨m,hm⟩:=bq (b.n+b.rest.length);have e0:IntKind.u64.wrap (b.rest.length:Int)=(b.rest.length:Int):=by rw[fe];omega
 have e1:IntKind.u64.wrap ((b.n:Int)+(b.rest.length:Int))=(m:Int):=by rw[fe];omega
 obtain⟨h3,HM⟩:=aN (hC.out.Wl Q8.out.h m) hm;clear hm;go_upto_region 5 with fail
 obtain⟨aas,HR2⟩:=aN (hBl.out.setCell (p:=⟨C,10,none⟩) (aA _) (.int .u64 m)) (je H2b.out (w':=w1.setCell ⟨C,10,none⟩ (.int .u64 m)) (fun q hq=>qu _ _ _ _ _ (wR H2b.out hC.out hq)));clear c9 c10 f10 e0 e1 hBl H2b hC H1;generalize w1.setCell ⟨C,10,none⟩ (.int .u64 m)=w2 at h3 aas HR2⊢;go_upto_region 6 with fail
 have hD0:=aG.new w2 240 (cA (aS 64 0));have hb2:=boxed w2 (.cells (cA (aS 64 0)) 240);have h4:fW (w2.alloc (.cells (cA (aS 64 0)) 240)) C b.h 32 (.slice A b.rest.length cp) m:=aG.below (g:=C) h3.out hb2 (aG.lt (g:=C) h3.out);have HR3:=ae (je HR2.out (fun q hq=>hb2.block q (DJ HR2.out hq)));have aat:=ae (aas.out.trans (hb2.mono (by have:=aas.out.size;have:=HCe.out;omega)));have hCD:ag (C<w2.heap.size):=ae (aG.lt (g:=C) h3.out);rw[show cA (aS 64 0)= #[.int .u8 0,.int .u8 0,.int .u8 0,.int .u8 0,.int .u8 0,.int .u8 0,.int .u8 0,.int .u8 0,.int .u8 0,.int .u8 0,.int .u8 0,.int .u8 0,.int .u8 0,.int .u8 0,.int .u8 0,.int .u8 0,.int .u8 0,.int .u8 0,.int .u8 0,.int .u8 0,.int .u8 0,.int .u8 0,.int .u8 0,.int .u8 0,.int .u8 0,.int .u8 0,.int .u8 0,.int .u8 0,.int .u8 0,.int .u8 0,.int .u8 0,.int .u8 0,.int .u8 0,.int .u8 0,.int .u8 0,.int .u8 0,.int .u8 0,.int .u8 0,.int .u8 0,.int .u8 0,.int .u8 0,.int .u8 0,.int .u8 0,.int .u8 0,.int .u8 0,.int .u8 0,.int .u8 0,.int .u8 0,.int .u8 0,.int .u8 0,.int .u8 0,.int .u8 0,.int .u8 0,.int .u8 0,.int .u8 0,.int .u8 0,.int .u8 0,.int .u8 0,.int .u8 0,.int .u8 0,.int .u8 0,.int .u8 0,.int .u8 0,.int .u8 0]from rfl]at hD0 h4 HR3 aat;obtain⟨HD0,H4⟩:=aN hD0 h4;clear hD0 hb2 h4 HR2 aas h3;generalize w2.alloc (.cells #[.int .u8 0,.int .u8 0,.int .u8 0,.int .u8 0,.int .u8 0,.int .u8 0,.int .u8 0,.int .u8 0,.int .u8 0,.int .u8 0,.int .u8 0,.int .u8 0,.int .u8 0,.int .u8 0,.int .u8 0,.int .u8 0,.int .u8 0,.int .u8 0,.int .u8 0,.int .u8 0,.int .u8 0,.int .u8 0,.int .u8 0,.int .u8 0,.int .u8 0,.int .u8 0,.int .u8 0,.int .u8 0,.int .u8 0,.int .u8 0,.int .u8 0,.int .u8 0,.int .u8 0,.int .u8 0,.int .u8 0,.int .u8 0,.int .u8 0,.int .u8 0,.int .u8 0,.int .u8 0,.int .u8 0,.int .u8 0,.int .u8 0,.int .u8 0,.int .u8 0,.int .u8 0,.int .u8 0,.int .u8 0,.int .u8 0,.int .u8 0,.int .u8 0,.int .u8 0,.int .u8 0,.int .u8 0,.int .u8 0,.int .u8 0,.int .u8 0,.int .u8 0,.int .u8 0,.int .u8 0,.int .u8 0,.int .u8 0,.int .u8 0,.int .u8 0] 240)=w3 at HD0 H4 HR3 aat⊢;generalize w2.heap.size=D at HD0 hCD⊢;rw[←show cA (aS 64 0)= #[.int .u8 0,.int .u8 0,.int .u8 0,.int .u8 0,.int .u8 0,.int .u8 0,.int .u8 0,.int .u8 0,.int .u8 0,.int .u8 0,.int .u8 0,.int .u8 0,.int .u8 0,.int .u8 0,.int .u8 0,.int .u8 0,.int .u8 0,.int .u8 0,.int .u8 0,.int .u8 0,.int .u8 0,.int .u8 0,.int .u8 0,.int .u8 0,.int .u8 0,.int .u8 0,.int .u8 0,.int .u8 0,.int .u8 0,.int .u8 0,.int .u8 0,.int .u8 0,.int .u8 0,.int .u8 0,.int .u8 0,.int .u8 0,.int .u8 0,.int .u8 0,.int .u8 0,.int .u8 0,.int .u8 0,.int .u8 0,.int .u8 0,.int .u8 0,.int .u8 0,.int .u8 0,.int .u8 0,.int .u8 0,.int .u8 0,.int .u8 0,.int .u8 0,.int .u8 0,.int .u8 0,.int .u8 0,.int .u8 0,.int .u8 0,.int .u8 0,.int .u8 0,.int .u8 0,.int .u8 0,.int .u8 0,.int .u8 0,.int .u8 0,.int .u8 0]from rfl]at HD0;obtain⟨q,hq⟩:=Be HR3.out aQ;subst hq;have c9:=H4.out.rest Q8.out.h;have afi:=Q8.out.rest;refine wp_region_still_tail 3 bo bo ?_;simp only[ag6,ME,ag8,ag7]
 repeat still_step
 refine wpStill_nil ?_;change wpList _ _ _ _ _ w3.drew;obtain⟨w4,hr4,hD4,hk4⟩:=ac5 (w:=w3.drew) (V:=D) (g:=q) (dL:=64) (dC:=64) (sL:=b.rest.length) (sC:=cp) (ty:=3) (u:=b.rest) HD0.out.drew (by rw[lK];exact afi) (fun j hj=>ug HR3.out hj) (Nat.min_eq_left afi).symm;refine kB rfl _ _ _ _ rfl rfl rfl hr4 ?_;rw[List.drop_replicate]at hD4;have afj:C≠D:=by have:=hCD.out;omega
 have h5:fW w4 C b.h 32 (.slice (some ⟨q,0,none⟩) b.rest.length cp) m:=aG.keep (g:=C) (aG.drew (g:=C) H4.out) hk4 afj;have hb4:=aat.out.drew.trans (hk4.below (B:=C) (fun x hx=>by have:=hCD.out;omega) (Nat.le_of_lt (aG.lt (g:=C) H4.out)));generalize hp:b.rest++aS (64-b.rest.length) 0=p at hD4;have hpl:p.length=64:=by rw[←hp,ai,lK];omega
 have hpb:∀i,bQ p i<256:=fun i=>by
  unfold bQ;rw[aE];rcases hi:p[i]? with _|x
  ·simp
  ·have hx:=kE hi;rw[←hp]at hx;rcases List.mem_append.1 hx with hx|hx
   ·exact Q8.out.byte x hx
   ·rw[(List.mem_replicate.1 hx).2];decide
 have hm':m<18446744073709551616:=by have:=HM.out;omega
 have ht:=Bc (DG.out.below hb4 (by have:=HCe.out;have:=DG.out.lt;omega)) Q8.out.h h5 hm' (gp:=D) (cap:=64) (p:=p) (fun i hi=>by
  rw[hD4.cell i];unfold cA bQ;rw[uy,bS,aE,af (by rw[hpl];exact hi)];rfl) hpb afj.symm (by have:=HCe.out;have:=DG.out.lt;omega) true
 obtain⟨HT,Hp,HB4⟩:=bu ht hp hb4;clear ht hp hb4 hpb hD4 hk4 hr4 HD0 H4 HR3 aat h5 c9;go_upto_region 8 with(go_at_call 175;refine HT.out.mono ?_;rintro r w5⟨rfl,h6,k6⟩)
 have hb6:=HB4.out.trans (k6.below (B:=C) (fun x hx=>Nat.le_of_eq hx.symm) (by have:=HB4.out.size;have:=HCe.out;omega));have h7:=h6;have hE0:=aG.new w5 241 (cA (aS 32 0));have hbE:=boxed w5 (.cells (cA (aS 32 0)) 241);have H7:=ae (aG.below (g:=C) h7 hbE (aG.lt (g:=C) h7));have kO:=ae (hb6.trans (hbE.mono (by have:=hb6.size;have:=HCe.out;omega)));have hCE:ag (C<w5.heap.size):=ae (aG.lt (g:=C) h7);have HE0:=ae hE0;clear h6 h7 k6 hb6 hbE hE0 HT HB4;rw[show cA (aS 32 0)= #[.int .u8 0,.int .u8 0,.int .u8 0,.int .u8 0,.int .u8 0,.int .u8 0,.int .u8 0,.int .u8 0,.int .u8 0,.int .u8 0,.int .u8 0,.int .u8 0,.int .u8 0,.int .u8 0,.int .u8 0,.int .u8 0,.int .u8 0,.int .u8 0,.int .u8 0,.int .u8 0,.int .u8 0,.int .u8 0,.int .u8 0,.int .u8 0,.int .u8 0,.int .u8 0,.int .u8 0,.int .u8 0,.int .u8 0,.int .u8 0,.int .u8 0,.int .u8 0]from rfl]at H7 kO HE0;have wsL:=ub Q8.out.h m p true;have hL:ag (∀_:Unit,pP b.h m p true=b.last):=ae (fun _=>by unfold Bl.last;rw[Hp.out,HM.out]);go_upto_region 9 with fail
 generalize w5.alloc (.cells #[.int .u8 0,.int .u8 0,.int .u8 0,.int .u8 0,.int .u8 0,.int .u8 0,.int .u8 0,.int .u8 0,.int .u8 0,.int .u8 0,.int .u8 0,.int .u8 0,.int .u8 0,.int .u8 0,.int .u8 0,.int .u8 0,.int .u8 0,.int .u8 0,.int .u8 0,.int .u8 0,.int .u8 0,.int .u8 0,.int .u8 0,.int .u8 0,.int .u8 0,.int .u8 0,.int .u8 0,.int .u8 0,.int .u8 0,.int .u8 0,.int .u8 0,.int .u8 0] 241)=w6 at H7 kO HE0⊢;generalize w5.heap.size=E at HE0 hCE⊢;rw[←show cA (aS 32 0)= #[.int .u8 0,.int .u8 0,.int .u8 0,.int .u8 0,.int .u8 0,.int .u8 0,.int .u8 0,.int .u8 0,.int .u8 0,.int .u8 0,.int .u8 0,.int .u8 0,.int .u8 0,.int .u8 0,.int .u8 0,.int .u8 0,.int .u8 0,.int .u8 0,.int .u8 0,.int .u8 0,.int .u8 0,.int .u8 0,.int .u8 0,.int .u8 0,.int .u8 0,.int .u8 0,.int .u8 0,.int .u8 0,.int .u8 0,.int .u8 0,.int .u8 0,.int .u8 0]from rfl]at HE0;generalize pP b.h m p true=L at H7 wsL hL;clear Hp HM;go_wp2_with fail
 go_loopw [33] (fun v33 wi=>∃k:Nat,k≤32∧v33=.int .i64 k∧ag (fW wi C L 32 (.slice (some ⟨q,0,none⟩) b.rest.length cp) m)∧ag (aG wi E 241 (cA (outW L k)))∧ag (Below C w wi)) (fun v33 _=>32-(intOf v33).toNat)
 case atStart=>exact⟨0,by omega,rfl,H7,HE0,kO⟩
 case round=>
  obtain⟨k,hk,rfl,hH,hE,hB⟩:=hrel;obtain⟨wo,rfl⟩:=bq (wr:World);clear H7 HE0 kO;by_cases hlt:k<32
  ·have hs:=uh L k;have hq8:k/4<8:=by omega
   have c0:=hH.out.word wsL hq8;have f0:=aG.frozen (g:=E) hE.out k;have d0:wo.cell? ⟨E,k,none⟩=some (.int .u8 (bQ (outW L k) k:Int)):=by
    rw[hE.out.cell k];unfold cA bQ;rw[uy,bS,aE,af (by rw[Wp];exact hlt)];rfl
   generalize bQ (outW L k) k=Y0 at d0;have hput:aG (wo.setCell ⟨E,k,none⟩ (.int .u8 (kN L k:Int))) E 241 (cA (outW L (k+1))):=by
    rw[hs];have:=aG.aL hE.out k (.int .u8 (kN L k:Int));unfold cA at this⊢;rw[List.setIfInBounds_toArray,←List.map_set]at this;exact this
   unfold kN at hput;have Im:=ae hput;have a0:(0:Int)≤(k:Int):=by omega
   have a1:(k:Int)<32:=by omega
   clear hput hs;generalize bQ L (k/4)=X at c0 Im;have hEC:C≠E:=by have:=hCE.out;omega
   go_wp2_with fail
   go_roundw
   case rel=>
    have e:((X/2^(k%4*8)%256:Nat):Int)=(X:Int)/2^(k%4*8)%256:=by simp
    rw[←e];exact⟨k+1,by omega,by go_num,ae (aG.far hH.out (p:=⟨E,k,none⟩) hEC _),Im,ae (hB.out.setCell (p:=⟨E,k,none⟩) (Nat.le_of_lt hCE.out) _)⟩
   case measure=>simp[intOf];omega
  ·obtain rfl:k=32:=by omega
   have c8:=hH.out.size wsL;have hl:∀i,i<32→kN L i<256:=fun i _=>Nat.mod_lt _ (by decide)
   have hback:=run_convert_bytes_back (P:=ah) wo 67 9 5 ⟨E,0,none⟩ 32 (((aF 32).map (kN L)).map ahT) cR cB bn (fun j hj=>by
    have hj:j<32:=by simpa using hj
    rw[NQ,hE.out.cell j,aaq L 32 aH];have hv:kN L j%256=kN L j:=Nat.mod_eq_of_lt (hl j hj);have hv':((kN L j:Nat):Int)%256=(kN L j:Int):=by omega
    unfold cA;simp[hj,hv,hv'])
   rw[ay,ay,List.length_range]at hback;have HFin:ag (∀_:Unit,((aF 32).map (kN L)).map ahT=b.sum.map ahT):=ae (fun _=>by unfold Bl.sum;rw[hL.out ()]);generalize((aF 32).map (kN L)).map ahT=Z at hback HFin;have HB:=ae hB;clear hB hH hE hl;go_wp2_with fail
   go_ret;exact⟨by rw[←HFin.out ()];rfl,by rw[HCe.out];exact HB.out.out⟩
theorem Wu{w:World}{lo g:Nat}(h:fW w g DI 32 au 0):Q6 lo w g Bl.new:=⟨au,h,World.ownsRow_nil _ _ _ _⟩
theorem Bl.Ww(b:Bl){l:List Nat}(h:l≠[]):0<(b.adds l).rest.length:=by
 rw[←List.dropLast_concat_getLast h,Bl.Bd];unfold Bl.add;split
 ·exact Nat.one_pos
 ·simp
theorem Rb{w:World}(ord:gd w)(s:ByteArray)(hs:s.size≤16777216)(h0:s.size≠0):Calls ah 119 #[.int .i64 32,aI,.string s] w fun r w'=>r=.returned (.tuple #[.string (uc s),.int .i64 0])∧aW w w':=by
 have HN:=ae fun u=>Wj u
 have HO:=ae ord;have hne:s.data.toList.map UInt8.toNat≠[]:=fun h=>h0 (by
  have:=congrArg List.length h;rw[ay]at this;exact this)
 have hll:(s.data.toList.map UInt8.toNat).length=s.size:=by rw[ay];rfl
 have hb:∀x∈s.data.toList.map UInt8.toNat,x<256:=fun x hx=>by
  obtain⟨y,_,rfl⟩:=List.mem_map.1 hx;exact y.toNat_lt
 obtain⟨HK,HP⟩:=aN (Bl.NL hb Bl.V6) (Bl.Ww Bl.new hne);have hn:=Bl.V7 (s.data.toList.map UInt8.toNat) Bl.new;rw[hll]at hn;have HL:ag ((Bl.new.adds (s.data.toList.map UInt8.toNat)).n+(Bl.new.adds (s.data.toList.map UInt8.toNat)).rest.length≤33554432):=ae (by rw[hn];show 0+0+s.size≤_;omega);obtain⟨hlt,HS⟩:=aN ord.lt hs;clear ord hne hll hb hn h0 hs;go_enter Tryz.func119,Tryz.ntmps119;go_wp2_with(first
  |(go_at_call 150;refine(HN.out _).mono ?_;rintro r w1⟨⟨g,hg,rfl,h1⟩,d1⟩;have HA:=ae (Wn (HO.out.below d1 hlt.out) Bl.V6 s HS.out aH hg d1.size hlt.out (Wu h1));obtain⟨HO1,D1⟩:=aN (HO.out.below d1 hlt.out) d1;clear h1 d1 hg)
  |(go_at_call 151;refine HA.out.mono ?_;rintro r w2⟨rfl,h2,d2⟩;have hS:Calls ah 152 #[.pointer (some ⟨g,0,none⟩)] w2 (Got (.string (uc s)) w2):=Wq (HO1.out.below d2 hlt.out) HK.out HL.out HP.out h2;obtain⟨HSm,D2⟩:=aN hS (D1.out.trans d2);clear h2 d2 hS HA)
  |(go_at_call 152;refine HSm.out.mono ?_;rintro r w3⟨rfl,d3⟩))
 go_ret2;exact⟨rfl,after D2.out d3⟩
theorem Wx{w:World}(ord:gd w)(s:ByteArray)(hs:s.size≤16777216)(h0:s.size≠0):Calls ah 71 #[.string s] w (Got (.string (uc s)) w):=by
 have HS:=ae (Rb ord s hs h0);generalize uc s=t at HS⊢;clear ord hs h0;go_enter Tryz.func71,Tryz.ntmps71;go_wp2_with(go_at_call 119;refine HS.out.mono ?_;rintro r w2⟨rfl,d2⟩)
 go_ret;exact⟨rfl,d2⟩
def dm(m:Mp):ByteArray:=if(cT m).2=0 then uc (cT m).1 else⟨#[]⟩
theorem yO{m:Mp}(h:(cT m).2=0):(cT m).1.size≤32768∧(cT m).1.size≠0:=by
 have h3:=jw (may:=jv m) (b:=uU m) h;have e:(cT m).1=gJ (uU m):=congrArg Prod.fst h3.2.2;rw[e,U1];refine⟨h3.2.1,?_⟩;unfold uU;rw[ai,aP];omega
theorem uj{w:World}(env:Env w)(ord:gd w){pv rv:Value}{m:Mp}(hp:dJ w pv m.aK)(hr:fy w rv m.ax)(fit:kM m)(sz:∀p∈m.aK,gm p)(hpl:m.aK.length≤4000000)(hrl:m.ax.length≤4000000)(hol:m.policy.size≤2000000)(hml:jv m=true→(uU m).length≤80000000):Calls ah 21 #[.agg #[.int .u64 (m.version:Int),pv,rv,.string m.policy]] w (Got (.string (dm m)) w):=by
 have he:=fun u(hu:aW w u)=>lu (env.below hu) (hp.below hu) (aY.below hr hu) fit sz hpl hrl hol hml
 have hh:∀u,aW w u→(cT m).2=0→Calls ah 71 #[.string (cT m).1] u (Got (.string (dm m)) u):=fun u hu h=>by
  have:=Wx (ord.below hu ord.lt) (cT m).1 (by have:=(yO h).1;omega) (yO h).2;unfold dm;rw[if_pos h];exact this
 have h0:(cT m).2≠0→dm m=⟨#[]⟩:=fun h=>by unfold dm;rw[if_neg h]
 obtain⟨Ap,cp,rfl⟩:=hp.shape;obtain⟨Ar,cr,rfl⟩:=aY.shape hr;generalize dm m=G at hh h0⊢;generalize cT m=R at he hh h0;obtain⟨version,aK,ax,policy⟩:=m;simp only at*;generalize ax.length=NR at*;generalize aK.length=NP at*;obtain⟨HE,HH,H0,HB,HM⟩:=ej he hh h0 (boxed w (.cells #[.int .u64 version,.slice Ap NP cp,.slice Ar NR cr,.string policy] 26)) (aG.new w 26 #[.int .u64 version,.slice Ap NP cp,.slice Ar NR cr,.string policy]);clear he hh h0 hp hr fit sz hpl hrl hol hml env ord;go_enter Tryz.func21,Tryz.ntmps21;go_upto_region 1 with fail
 generalize w.alloc (.cells #[.int .u64 version,.slice Ap NP cp,.slice Ar NR cr,.string policy] 26)=w1 at HB HM⊢;generalize w.heap.size=P at HM⊢;obtain⟨m0,m1,m2,m3⟩:=dV HM;go_upto_region 2 with(go_at_call 7;refine(HE.out _ HB.out).mono ?_;rintro r w2⟨⟨t,e,hte,rfl⟩,d2⟩;have Hte:=ae hte;have HB2:=aZ HB d2;clear hte d2)
 by_cases hz:e=0
 ·have HO:=HH.out _ HB2.out (by rw[←Hte.out];exact hz);rw[←Hte.out]at HO;have HO':=ae HO;simp only at HO';have q0:((e:Int) !=0)=false:=by simp[hz]
  clear HO hz;go_wp2_with(go_at_call 71;refine HO'.out.mono ?_;rintro r w3⟨rfl,d3⟩)
  go_ret;exact⟨rfl,after HB2.out d3⟩
 ·have HG:=ae (H0.out (by rw[←Hte.out];exact hz));have q0:((e:Int) !=0)=true:=by simp;omega
  clear hz;go_wp2_with fail
  go_ret;exact⟨by rw[HG.out];rfl,HB2.out⟩
theorem agJ(x y:ByteArray):(x==y)=decide (x=y):=by
 obtain⟨a⟩:=x;obtain⟨b⟩:=y;show(a==b)=_;rw[fE,decide_eq_true_eq,beq_iff_eq,ByteArray.mk.injEq]
theorem abA(x y:Ad)(w:World):(binOp .neq 52 (.agg x.cells) (.agg y.cells)).run ah w=.ok (.bool (!decide (x=y))) w:=by
 have h:=wk x.hi x.lo y.hi y.lo x.v6 y.v6 9997 w;rw[U9]at h;unfold Ad.cells;simp only[binOp];simp[Op.equal,Op.maxDepth,h]
theorem abB(x y:En)(w:World):(binOp .neq 55 (.agg (cD x).toArray) (.agg (cD y).toArray)).run ah w=.ok (.bool (!decide (x=y))) w:=by
 have h:(Op.equalIn 10000 55 (.agg (cD x).toArray) (.agg (cD y).toArray)).run ah w=.ok (decide (x=y)) w:=Db x y 9996 w;unfold cD at h⊢;simp only[binOp];simp[Op.equal,Op.maxDepth,h]
theorem aau(x y:Ry)(d:Nat)(w:World):(Op.equalIn (d+5) 57 (.agg (bF x).toArray) (.agg (bF y).toArray)).run ah w=.ok (decide (x=y)) w:=by
 have h32:ah.stoodInHeld 57=false:=by kernel_rfl
 have ha:=fun w=>Db x.fin y.fin d w
 unfold u9 yb at ha;have hp:∀w,(Op.equalIn (d+4) 5 (.int .u8 (x.id:Int)) (.int .u8 (y.id:Int))).run ah w=.ok (decide (x.id=y.id)) w:=by
  intro w;rw[show decide (x.id=y.id)=((x.id:Int)==(y.id:Int)) by rw[fE,decide_eq_true_eq,beq_iff_eq];omega];simp[go_sem,cB,Op.equalIn]
 have hk:∀w,(Op.equalIn (d+4) 9 (.string x.key) (.string y.key)).run ah w=.ok (decide (x.key=y.key)) w:=by
  intro w;rw[←agJ];simp[go_sem,bn,Op.equalIn]
 obtain⟨i,k,⟨⟨a,b,c⟩,p⟩⟩:=x;obtain⟨i',k',⟨⟨a',b',c'⟩,p'⟩⟩:=y;simp only at ha hp hk;unfold bF;rw[run_equalIn_struct w (d+4) 57 _ _ bo h32];simp[go_sem,Tryz.underlying57,part,ha,hp,hk];by_cases h1:i=i'<;>by_cases h2:k=k'<;>by_cases h3:((⟨a,b,c⟩:Ad),p)=(⟨a',b',c'⟩,p')<;>simp_all
theorem abC(x y:Ry)(w:World):(binOp .neq 57 (.agg (bF x).toArray) (.agg (bF y).toArray)).run ah w=.ok (.bool (!decide (x=y))) w:=by
 have h:(Op.equalIn 10000 57 (.agg (bF x).toArray) (.agg (bF y).toArray)).run ah w=.ok (decide (x=y)) w:=aau x y 9995 w;unfold bF at h⊢;simp only[binOp];simp[Op.equal,Op.maxDepth,h]
theorem aav{w:World}{v1 v2:Value}(l m:List ByteArray)(hl:l.length≤4000000)(hm:m.length≤4000000)(h1:aY w v1 l.length 1 (strCells l))(h2:aY w v2 m.length 1 (strCells m)):Calls ah 107 #[v1,v2] w (Got (.bool (decide (l=m))) w):=by
 obtain⟨A1,cap1,rfl,_,hA1⟩:=h1;obtain⟨A2,cap2,rfl,_,hA2⟩:=h2;obtain⟨HA1,HA2⟩:=aN hA1 hA2;clear hA1 hA2;by_cases hn:l.length=m.length
 ·obtain⟨N,hN⟩:=bq l.length;rw[←hn]at HA2 hm⊢;rw[←hN]at HA1 HA2 hl⊢;obtain⟨jq,kq⟩:=aN hN (hN.trans hn);clear hn hN hm;obtain⟨R,hR⟩:=bq (decide (l=m));rw[←hR];have HR:=ae hR;clear hR;go_enter Tryz.func107,Tryz.ntmps107;go_wp2_with fail
  go_loopw [13] (fun v13 wr=>∃k:Nat,k≤N∧v13=.int .i64 k∧ag (aW w wr)∧ag (l.take k=m.take k)) (fun v13 _=>N-(intOf v13).toNat)
  case atStart=>exact⟨0,bh _,rfl,ae (aM _ _),ae rfl⟩
  case round=>
   obtain⟨k,hk,rfl,HW,hsame⟩:=hrel;by_cases hlt:k<N
   ·have hkl:k<l.length:=by have:=jq.out;omega
    have hkm:k<m.length:=by have:=kq.out;omega
    obtain⟨q1,o1,rfl,hc1⟩:=HA1.out aQ;obtain⟨q2,o2,rfl,hc2⟩:=HA2.out aQ;have ht1:=aB hkl;have ht2:=aB hkm;have hne:l[k]≠m[k]→l≠m:=fun h e=>h (by simp only[e])
    have d1:=ak (hc1 k _ (by unfold strCells;rw[bS,af hkl];rfl)) HW.out;have d2:=ak (hc2 k _ (by unfold strCells;rw[bS,af hkm];rfl)) HW.out;generalize l[k]=X at ht1 hne d1;generalize m[k]=Y at ht2 hne d2;clear hc1 hc2 hkl hkm;by_cases hX:(X:ByteArray)=Y
    ·have G1:ag (l.take (k+1)=m.take (k+1)):=ae (by rw[ht1,ht2,hsame.out,hX]);have hq:(X.toList==Y.toList)=true:=by rw[hX];simp
     clear ht1 ht2 hne hX;go_upto_region 6 with fail
     go_quiet (fail);go_wp2_with fail
     go_roundw
     case rel=>exact⟨k+1,by omega,by go_num,ae (HW.out.fS _),G1⟩
     case measure=>simp[intOf];omega
    ·have dZ:ag (R=false):=ae (by rw[HR.out];exact decide_eq_false (hne hX));have hq:(X.toList==Y.toList)=false:=by simp only[beq_eq_false_iff_ne,ne_eq];exact fun h=>hX (toList_inj h)
     clear ht1 ht2 hne hX;go_upto_region 6 with fail
     go_quiet (fail);go_wp2_with fail
     go_ret;exact⟨by rw[dZ.out];rfl,HW.out.fS _⟩
   ·obtain rfl:k=N:=by omega
    have dZ:ag (R=true):=ae (by
     rw[HR.out];have e:=hsame.out;rw[aJ (by have:=jq.out;omega),aJ (by have:=kq.out;omega)]at e;exact decide_eq_true e)
    go_wp2_with fail
    go_ret;exact⟨by rw[dZ.out];rfl,HW.out⟩
 ·have hd:decide (l=m)=false:=decide_eq_false fun e=>hn (by rw[e])
  rw[hd];generalize l.length=N1 at*;generalize m.length=N2 at*;have hne:((N1:Int) !=(N2:Int))=true:=by simp;omega
  clear hn hd HA1 HA2;go_enter Tryz.func107,Tryz.ntmps107;go_wp2_with fail
  go_ret;exact⟨rfl,aM _ _⟩
theorem Wy{w:World}{v1 v2:Value}(l m:List Ad)(hl:l.length≤4000000)(hm:m.length≤4000000)(h1:aY w v1 l.length 3 (du l))(h2:aY w v2 m.length 3 (du m)):Calls ah 108 #[v1,v2] w (Got (.bool (decide (l=m))) w):=by
 obtain⟨A1,cap1,rfl,_,hA1⟩:=h1;obtain⟨A2,cap2,rfl,_,hA2⟩:=h2;obtain⟨HA1,HA2⟩:=aN hA1 hA2;clear hA1 hA2;by_cases hn:l.length=m.length
 ·obtain⟨N,hN⟩:=bq l.length;rw[←hn]at HA2 hm⊢;rw[←hN]at HA1 HA2 hl⊢;obtain⟨jq,kq⟩:=aN hN (hN.trans hn);clear hn hN hm;obtain⟨R,hR⟩:=bq (decide (l=m));rw[←hR];have HR:=ae hR;clear hR;go_enter Tryz.func108,Tryz.ntmps108;go_wp2_with fail
  go_loopw [13] (fun v13 wr=>∃k:Nat,k≤N∧v13=.int .i64 k∧ag (aW w wr)∧ag (l.take k=m.take k)) (fun v13 _=>N-(intOf v13).toNat)
  case atStart=>exact⟨0,bh _,rfl,ae (aM _ _),ae rfl⟩
  case round=>
   obtain⟨k,hk,rfl,HW,hsame⟩:=hrel;by_cases hlt:k<N
   ·have hkl:k<l.length:=by have:=jq.out;omega
    have hkm:k<m.length:=by have:=kq.out;omega
    obtain⟨q1,o1,rfl,hc1⟩:=HA1.out aQ;obtain⟨q2,o2,rfl,hc2⟩:=HA2.out aQ;have ht1:=aB hkl;have ht2:=aB hkm;have hne:l[k]≠m[k]→l≠m:=fun h e=>h (by simp only[e])
    have g10:=aD (fun a:Ad=>a.cells.toList) 3 (fun a:Ad=>rfl) (af hkl) (r:=0) rfl;have g11:=aD (fun a:Ad=>a.cells.toList) 3 (fun a:Ad=>rfl) (af hkl) (r:=1) rfl;have g12:=aD (fun a:Ad=>a.cells.toList) 3 (fun a:Ad=>rfl) (af hkl) (r:=2) rfl;have g20:=aD (fun a:Ad=>a.cells.toList) 3 (fun a:Ad=>rfl) (af hkm) (r:=0) rfl;have g21:=aD (fun a:Ad=>a.cells.toList) 3 (fun a:Ad=>rfl) (af hkm) (r:=1) rfl;have g22:=aD (fun a:Ad=>a.cells.toList) 3 (fun a:Ad=>rfl) (af hkm) (r:=2) rfl;have d10:=ak (hc1 _ _ g10) HW.out;have d11:=ak (hc1 _ _ g11) HW.out;have d12:=ak (hc1 _ _ g12) HW.out;have ky:=ak (hc2 _ _ g20) HW.out;have oN:=ak (hc2 _ _ g21) HW.out;have ov:=ak (hc2 _ _ g22) HW.out;clear g10 g11 g12 g20 g21 g22;generalize l[k]=X at ht1 hne d10 d11 d12;generalize m[k]=Y at ht2 hne ky oN ov;have hqq:=fun W=>abA X Y W
    obtain⟨v1,hi1,lo1⟩:=X;obtain⟨v2,hi2,lo2⟩:=Y;unfold Ad.cells at hqq;simp only at hqq d10 d11 d12 ky oN ov;rw[b8]at d10 ky;rw[←ku]at d11 d12 oN ov;clear hc1 hc2 hkl hkm;by_cases hX:(⟨v1,hi1,lo1⟩:Ad)=⟨v2,hi2,lo2⟩
    ·have G1:ag (l.take (k+1)=m.take (k+1)):=ae (by rw[ht1,ht2,hsame.out,hX]);have hq:=hqq;rw[decide_eq_true hX]at hq;simp only[Bool.not_true]at hq;clear hqq;clear ht1 ht2 hne hX;go_upto_region 6 with fail
     go_quiet (fail);go_wp2_with fail
     go_roundw
     case rel=>exact⟨k+1,by omega,by go_num,ae (HW.out.fS _),G1⟩
     case measure=>simp[intOf];omega
    ·have dZ:ag (R=false):=ae (by rw[HR.out];exact decide_eq_false (hne hX));have hq:=hqq;rw[decide_eq_false hX]at hq;simp only[Bool.not_false]at hq;clear hqq;clear ht1 ht2 hne hX;go_upto_region 6 with fail
     go_quiet (fail);go_wp2_with fail
     go_ret;exact⟨by rw[dZ.out];rfl,HW.out.fS _⟩
   ·obtain rfl:k=N:=by omega
    have dZ:ag (R=true):=ae (by
     rw[HR.out];have e:=hsame.out;rw[aJ (by have:=jq.out;omega),aJ (by have:=kq.out;omega)]at e;exact decide_eq_true e)
    go_wp2_with fail
    go_ret;exact⟨by rw[dZ.out];rfl,HW.out⟩
 ·have hd:decide (l=m)=false:=decide_eq_false fun e=>hn (by rw[e])
  rw[hd];generalize l.length=N1 at*;generalize m.length=N2 at*;have hne:((N1:Int) !=(N2:Int))=true:=by simp;omega
  clear hn hd HA1 HA2;go_enter Tryz.func108,Tryz.ntmps108;go_wp2_with fail
  go_ret;exact⟨rfl,aM _ _⟩
theorem WA{w:World}{v1 v2:Value}(l m:List En)(hl:l.length≤4000000)(hm:m.length≤4000000)(h1:aY w v1 l.length 4 (lX l))(h2:aY w v2 m.length 4 (lX m)):Calls ah 109 #[v1,v2] w (Got (.bool (decide (l=m))) w):=by
 obtain⟨A1,cap1,rfl,_,hA1⟩:=h1;obtain⟨A2,cap2,rfl,_,hA2⟩:=h2;obtain⟨HA1,HA2⟩:=aN hA1 hA2;clear hA1 hA2;by_cases hn:l.length=m.length
 ·obtain⟨N,hN⟩:=bq l.length;rw[←hn]at HA2 hm⊢;rw[←hN]at HA1 HA2 hl⊢;obtain⟨jq,kq⟩:=aN hN (hN.trans hn);clear hn hN hm;obtain⟨R,hR⟩:=bq (decide (l=m));rw[←hR];have HR:=ae hR;clear hR;go_enter Tryz.func109,Tryz.ntmps109;go_wp2_with fail
  go_loopw [13] (fun v13 wr=>∃k:Nat,k≤N∧v13=.int .i64 k∧ag (aW w wr)∧ag (l.take k=m.take k)) (fun v13 _=>N-(intOf v13).toNat)
  case atStart=>exact⟨0,bh _,rfl,ae (aM _ _),ae rfl⟩
  case round=>
   obtain⟨k,hk,rfl,HW,hsame⟩:=hrel;by_cases hlt:k<N
   ·have hkl:k<l.length:=by have:=jq.out;omega
    have hkm:k<m.length:=by have:=kq.out;omega
    obtain⟨q1,o1,rfl,hc1⟩:=HA1.out aQ;obtain⟨q2,o2,rfl,hc2⟩:=HA2.out aQ;have ht1:=aB hkl;have ht2:=aB hkm;have hne:l[k]≠m[k]→l≠m:=fun h e=>h (by simp only[e])
    have g10:=aD cD 4 fB (af hkl) (r:=0) rfl;have g11:=aD cD 4 fB (af hkl) (r:=1) rfl;have g12:=aD cD 4 fB (af hkl) (r:=2) rfl;have g13:=aD cD 4 fB (af hkl) (r:=3) rfl;have g20:=aD cD 4 fB (af hkm) (r:=0) rfl;have g21:=aD cD 4 fB (af hkm) (r:=1) rfl;have g22:=aD cD 4 fB (af hkm) (r:=2) rfl;have g23:=aD cD 4 fB (af hkm) (r:=3) rfl;have d10:=ak (hc1 _ _ g10) HW.out;have d11:=ak (hc1 _ _ g11) HW.out;have d12:=ak (hc1 _ _ g12) HW.out;have d13:=ak (hc1 _ _ g13) HW.out;have ky:=ak (hc2 _ _ g20) HW.out;have oN:=ak (hc2 _ _ g21) HW.out;have ov:=ak (hc2 _ _ g22) HW.out;have ti:=ak (hc2 _ _ g23) HW.out;clear g10 g11 g12 g13 g20 g21 g22 g23;generalize l[k]=X at ht1 hne d10 d11 d12 d13;generalize m[k]=Y at ht2 hne ky oN ov ti;have hqq:=fun W=>abB X Y W
    obtain⟨⟨v1,hi1,lo1⟩,po1⟩:=X;obtain⟨⟨v2,hi2,lo2⟩,po2⟩:=Y;unfold cD at hqq;simp only at hqq d10 d11 d12 d13 ky oN ov ti;rw[b8]at d10 ky;rw[←ku]at d11 d12 d13 oN ov ti;clear hc1 hc2 hkl hkm;by_cases hX:(⟨⟨v1,hi1,lo1⟩,po1⟩:En)=⟨⟨v2,hi2,lo2⟩,po2⟩
    ·have G1:ag (l.take (k+1)=m.take (k+1)):=ae (by rw[ht1,ht2,hsame.out,hX]);have hq:=hqq;rw[decide_eq_true hX]at hq;simp only[Bool.not_true]at hq;clear hqq;clear ht1 ht2 hne hX;go_upto_region 6 with fail
     go_quiet (fail);go_wp2_with fail
     go_roundw
     case rel=>exact⟨k+1,by omega,by go_num,ae (HW.out.fS _),G1⟩
     case measure=>simp[intOf];omega
    ·have dZ:ag (R=false):=ae (by rw[HR.out];exact decide_eq_false (hne hX));have hq:=hqq;rw[decide_eq_false hX]at hq;simp only[Bool.not_false]at hq;clear hqq;clear ht1 ht2 hne hX;go_upto_region 6 with fail
     go_quiet (fail);go_wp2_with fail
     go_ret;exact⟨by rw[dZ.out];rfl,HW.out.fS _⟩
   ·obtain rfl:k=N:=by omega
    have dZ:ag (R=true):=ae (by
     rw[HR.out];have e:=hsame.out;rw[aJ (by have:=jq.out;omega),aJ (by have:=kq.out;omega)]at e;exact decide_eq_true e)
    go_wp2_with fail
    go_ret;exact⟨by rw[dZ.out];rfl,HW.out⟩
 ·have hd:decide (l=m)=false:=decide_eq_false fun e=>hn (by rw[e])
  rw[hd];generalize l.length=N1 at*;generalize m.length=N2 at*;have hne:((N1:Int) !=(N2:Int))=true:=by simp;omega
  clear hn hd HA1 HA2;go_enter Tryz.func109,Tryz.ntmps109;go_wp2_with fail
  go_ret;exact⟨rfl,aM _ _⟩
theorem G4{w:World}{v1 v2:Value}(l m:List Ry)(hl:l.length≤4000000)(hm:m.length≤4000000)(h1:aY w v1 l.length 6 (dQ l))(h2:aY w v2 m.length 6 (dQ m)):Calls ah 56 #[v1,v2] w (Got (.bool (decide (l=m))) w):=by
 obtain⟨A1,cap1,rfl,_,hA1⟩:=h1;obtain⟨A2,cap2,rfl,_,hA2⟩:=h2;obtain⟨HA1,HA2⟩:=aN hA1 hA2;clear hA1 hA2;by_cases hn:l.length=m.length
 ·obtain⟨N,hN⟩:=bq l.length;rw[←hn]at HA2 hm⊢;rw[←hN]at HA1 HA2 hl⊢;obtain⟨jq,kq⟩:=aN hN (hN.trans hn);clear hn hN hm;obtain⟨R,hR⟩:=bq (decide (l=m));rw[←hR];have HR:=ae hR;clear hR;go_enter Tryz.func56,Tryz.ntmps56;go_wp2_with fail
  go_loopw [13] (fun v13 wr=>∃k:Nat,k≤N∧v13=.int .i64 k∧ag (aW w wr)∧ag (l.take k=m.take k)) (fun v13 _=>N-(intOf v13).toNat)
  case atStart=>exact⟨0,bh _,rfl,ae (aM _ _),ae rfl⟩
  case round=>
   obtain⟨k,hk,rfl,HW,hsame⟩:=hrel;by_cases hlt:k<N
   ·have hkl:k<l.length:=by have:=jq.out;omega
    have hkm:k<m.length:=by have:=kq.out;omega
    obtain⟨q1,o1,rfl,hc1⟩:=HA1.out aQ;obtain⟨q2,o2,rfl,hc2⟩:=HA2.out aQ;have ht1:=aB hkl;have ht2:=aB hkm;have hne:l[k]≠m[k]→l≠m:=fun h e=>h (by simp only[e])
    have g10:=aD bF 6 bH (af hkl) (r:=0) rfl;have g11:=aD bF 6 bH (af hkl) (r:=1) rfl;have g12:=aD bF 6 bH (af hkl) (r:=2) rfl;have g13:=aD bF 6 bH (af hkl) (r:=3) rfl;have g14:=aD bF 6 bH (af hkl) (r:=4) rfl;have g15:=aD bF 6 bH (af hkl) (r:=5) rfl;have g20:=aD bF 6 bH (af hkm) (r:=0) rfl;have g21:=aD bF 6 bH (af hkm) (r:=1) rfl;have g22:=aD bF 6 bH (af hkm) (r:=2) rfl;have g23:=aD bF 6 bH (af hkm) (r:=3) rfl;have g24:=aD bF 6 bH (af hkm) (r:=4) rfl;have NW:=aD bF 6 bH (af hkm) (r:=5) rfl;have d10:=ak (hc1 _ _ g10) HW.out;have d11:=ak (hc1 _ _ g11) HW.out;have d12:=ak (hc1 _ _ g12) HW.out;have d13:=ak (hc1 _ _ g13) HW.out;have ji:=ak (hc1 _ _ g14) HW.out;have mE:=ak (hc1 _ _ g15) HW.out;have ky:=ak (hc2 _ _ g20) HW.out;have oN:=ak (hc2 _ _ g21) HW.out;have ov:=ak (hc2 _ _ g22) HW.out;have ti:=ak (hc2 _ _ g23) HW.out;have Ao:=ak (hc2 _ _ g24) HW.out;have Aq:=ak (hc2 _ _ NW) HW.out;clear g10 g11 g12 g13 g14 g15 g20 g21 g22 g23 g24 NW;generalize l[k]=X at ht1 hne d10 d11 d12 d13 ji mE;generalize m[k]=Y at ht2 hne ky oN ov ti Ao Aq;have hqq:=fun W=>abC X Y W
    obtain⟨id1,key1,⟨⟨v1,hi1,lo1⟩,po1⟩⟩:=X;obtain⟨id2,key2,⟨⟨v2,hi2,lo2⟩,po2⟩⟩:=Y;unfold bF at hqq;simp only at hqq d10 d11 d12 d13 ji mE ky oN ov ti Ao Aq;rw[b8]at d10 ky;rw[←ku]at d11 d12 d13 ji mE oN ov ti Ao Aq;clear hc1 hc2 hkl hkm;by_cases hX:(⟨id1,key1,⟨⟨v1,hi1,lo1⟩,po1⟩⟩:Ry)=⟨id2,key2,⟨⟨v2,hi2,lo2⟩,po2⟩⟩
    ·have G1:ag (l.take (k+1)=m.take (k+1)):=ae (by rw[ht1,ht2,hsame.out,hX]);have hq:=hqq;rw[decide_eq_true hX]at hq;simp only[Bool.not_true]at hq;clear hqq;clear ht1 ht2 hne hX;go_upto_region 6 with fail
     go_quiet (fail);go_wp2_with fail
     go_roundw
     case rel=>exact⟨k+1,by omega,by go_num,ae (HW.out.fS _),G1⟩
     case measure=>simp[intOf];omega
    ·have dZ:ag (R=false):=ae (by rw[HR.out];exact decide_eq_false (hne hX));have hq:=hqq;rw[decide_eq_false hX]at hq;simp only[Bool.not_false]at hq;clear hqq;clear ht1 ht2 hne hX;go_upto_region 6 with fail
     go_quiet (fail);go_wp2_with fail
     go_ret;exact⟨by rw[dZ.out];rfl,HW.out.fS _⟩
   ·obtain rfl:k=N:=by omega
    have dZ:ag (R=true):=ae (by
     rw[HR.out];have e:=hsame.out;rw[aJ (by have:=jq.out;omega),aJ (by have:=kq.out;omega)]at e;exact decide_eq_true e)
    go_wp2_with fail
    go_ret;exact⟨by rw[dZ.out];rfl,HW.out⟩
 ·have hd:decide (l=m)=false:=decide_eq_false fun e=>hn (by rw[e])
  rw[hd];generalize l.length=N1 at*;generalize m.length=N2 at*;have hne:((N1:Int) !=(N2:Int))=true:=by simp;omega
  clear hn hd HA1 HA2;go_enter Tryz.func56,Tryz.ntmps56;go_wp2_with fail
  go_ret;exact⟨rfl,aM _ _⟩
theorem afk(x y:Pr):decide (x=y)=((x.key.toList==y.key.toList)&&((x.bw.toList==y.bw.toList)&&((x.user.toList==y.user.toList)&&(((x.exp:Int)==(y.exp:Int))&&(((x.bm:Int)==(y.bm:Int))&&(decide (x.tags=y.tags)&&(decide (x.aR=y.aR)&&decide (x.ends=y.ends)))))))):=by
 obtain⟨a,b,c,d,e,f,g,h⟩:=x;obtain⟨a',b',c',d',e',f',g',h'⟩:=y;rw[fE];simp only[aX,beq_iff_eq,decide_eq_true_eq,Pr.mk.injEq];constructor
 ·rintro⟨rfl,rfl,rfl,rfl,rfl,rfl,rfl,rfl⟩;exact⟨rfl,rfl,rfl,rfl,rfl,rfl,rfl,rfl⟩
 ·rintro⟨h1,h2,h3,h4,h5,h6,h7,h8⟩;exact⟨toList_inj h1,toList_inj h2,toList_inj h3,h6,h7,by omega,by omega,h8⟩
theorem sN{w:World}{X Y:bU}(hX:fC w X)(hY:fC w Y)(sX:gm X.p)(sY:gm Y.p):Calls ah 54 #[.agg X.vals.toArray,.agg Y.vals.toArray] w (Got (.bool (decide (X.p=Y.p))) w):=by
 have ht:=fun u(hu:aW w u)=>aav X.p.tags Y.p.tags (by have:=sX.tl;omega) (by have:=sY.tl;omega) (hX.tags.below hu) (hY.tags.below hu)
 have ha:=fun u(hu:aW w u)=>Wy X.p.aR Y.p.aR (by have:=sX.al;omega) (by have:=sY.al;omega) (hX.aR.below hu) (hY.aR.below hu)
 have he:=fun u(hu:aW w u)=>WA X.p.ends Y.p.ends (by have:=sX.el;omega) (by have:=sY.el;omega) (hX.ends.below hu) (hY.ends.below hu)
 obtain⟨fA,c11,e11⟩:=hX.tags.shape;obtain⟨ft,c12,e12⟩:=hX.aR.shape;obtain⟨ig,c13,e13⟩:=hX.ends.shape;obtain⟨iK,c21,e21⟩:=hY.tags.shape;obtain⟨iL,iM,e22⟩:=hY.aR.shape;obtain⟨kY,c23,e23⟩:=hY.ends.shape;clear hX hY sX sY;rw[afk];obtain⟨⟨key1,bG,cj,eF,dw,ik,bA,eV⟩,Yi,Yj,ev1⟩:=X;obtain⟨⟨key2,bB,ck,dx,cI,iR,bL,dy⟩,tv2,av2,ev2⟩:=Y;simp only at*;subst e11 e12 e13 e21 e22 e23;unfold bU.vals;simp only;generalize decide (eF=dx)=BT at*;generalize decide (dw=cI)=BA at*;generalize decide (eV=dy)=BE at*;generalize eF.length=n11 at*;generalize dw.length=n12 at*;generalize eV.length=n13 at*;generalize dx.length=n21 at*;generalize cI.length=n22 at*;generalize dy.length=n23 at*;obtain⟨HT,HA,HE⟩:=bu ht ha he;have hb1:=boxed w (.cells #[.string key1,.string bG,.string cj,.slice fA n11 c11,.slice ft n12 c12,.int .u64 ik,.int .u8 bA,.slice ig n13 c13] 50);obtain⟨mI,HB1⟩:=aN (aG.new w 50 #[.string key1,.string bG,.string cj,.slice fA n11 c11,.slice ft n12 c12,.int .u64 ik,.int .u8 bA,.slice ig n13 c13]) hb1;clear ht ha he hb1;obtain⟨HB2,bP⟩:=aN (after HB1.out (boxed (w.alloc (.cells #[.string key1,.string bG,.string cj,.slice fA n11 c11,.slice ft n12 c12,.int .u64 ik,.int .u8 bA,.slice ig n13 c13] 50)) (.cells #[.string key2,.string bB,.string ck,.slice iK n21 c21,.slice iL n22 iM,.int .u64 iR,.int .u8 bL,.slice kY n23 c23] 50))) (bJ mI (boxed (w.alloc (.cells #[.string key1,.string bG,.string cj,.slice fA n11 c11,.slice ft n12 c12,.int .u64 ik,.int .u8 bA,.slice ig n13 c13] 50)) (.cells #[.string key2,.string bB,.string ck,.slice iK n21 c21,.slice iL n22 iM,.int .u64 iR,.int .u8 bL,.slice kY n23 c23] 50)));have hP2:aG ((w.alloc (.cells #[.string key1,.string bG,.string cj,.slice fA n11 c11,.slice ft n12 c12,.int .u64 ik,.int .u8 bA,.slice ig n13 c13] 50)).alloc (.cells #[.string key2,.string bB,.string ck,.slice iK n21 c21,.slice iL n22 iM,.int .u64 iR,.int .u8 bL,.slice kY n23 c23] 50)) (w.heap.size+1) 50 #[.string key2,.string bB,.string ck,.slice iK n21 c21,.slice iL n22 iM,.int .u64 iR,.int .u8 bL,.slice kY n23 c23]:=by
  have:=aG.new (w.alloc (.cells #[.string key1,.string bG,.string cj,.slice fA n11 c11,.slice ft n12 c12,.int .u64 ik,.int .u8 bA,.slice ig n13 c13] 50)) 50 #[.string key2,.string bB,.string ck,.slice iK n21 c21,.slice iL n22 iM,.int .u64 iR,.int .u8 bL,.slice kY n23 c23];rw[show(w.alloc (.cells #[.string key1,.string bG,.string cj,.slice fA n11 c11,.slice ft n12 c12,.int .u64 ik,.int .u8 bA,.slice ig n13 c13] 50)).heap.size=w.heap.size+1 by simp]at this;exact this
 have HP2:=ae hP2;clear hP2 mI HB1;cases hb0:(key1.toList==key2.toList)with
 |false=>
  simp only[ux];go_enter Tryz.func54,Tryz.ntmps54;go_upto_region 1 with fail
  generalize(w.alloc (.cells #[.string key1,.string bG,.string cj,.slice fA n11 c11,.slice ft n12 c12,.int .u64 ik,.int .u8 bA,.slice ig n13 c13] 50)).alloc (.cells #[.string key2,.string bB,.string ck,.slice iK n21 c21,.slice iL n22 iM,.int .u64 iR,.int .u8 bL,.slice kY n23 c23] 50)=w2 at HB2 bP HP2⊢;generalize w.heap.size+1=Q at HP2⊢;generalize hPw:w.heap.size=P at bP⊢;have kr:=ae hPw;clear hPw;have x0:=bP.out.cell 0;have x1:=bP.out.cell 1;have x2:=bP.out.cell 2;have x3:=bP.out.cell 3;have x4:=bP.out.cell 4;have x5:=bP.out.cell 5;have x6:=bP.out.cell 6;have x7:=bP.out.cell 7;have y0:=HP2.out.cell 0;have y1:=HP2.out.cell 1;have y2:=HP2.out.cell 2;have y3:=HP2.out.cell 3;have y4:=HP2.out.cell 4;have y5:=HP2.out.cell 5;have y6:=HP2.out.cell 6;have y7:=HP2.out.cell 7;simp at x0 x1 x2 x3 x4 x5 x6 x7 y0 y1 y2 y3 y4 y5 y6 y7;go_wp2_with fail
  go_ret;exact⟨rfl,HB2.out⟩
 |true=>
  cases hb1:(bG.toList==bB.toList)with
  |false=>
   simp only[ux,bV];go_enter Tryz.func54,Tryz.ntmps54;go_upto_region 1 with fail
   generalize(w.alloc (.cells #[.string key1,.string bG,.string cj,.slice fA n11 c11,.slice ft n12 c12,.int .u64 ik,.int .u8 bA,.slice ig n13 c13] 50)).alloc (.cells #[.string key2,.string bB,.string ck,.slice iK n21 c21,.slice iL n22 iM,.int .u64 iR,.int .u8 bL,.slice kY n23 c23] 50)=w2 at HB2 bP HP2⊢;generalize w.heap.size+1=Q at HP2⊢;generalize hPw:w.heap.size=P at bP⊢;have kr:=ae hPw;clear hPw;have x0:=bP.out.cell 0;have x1:=bP.out.cell 1;have x2:=bP.out.cell 2;have x3:=bP.out.cell 3;have x4:=bP.out.cell 4;have x5:=bP.out.cell 5;have x6:=bP.out.cell 6;have x7:=bP.out.cell 7;have y0:=HP2.out.cell 0;have y1:=HP2.out.cell 1;have y2:=HP2.out.cell 2;have y3:=HP2.out.cell 3;have y4:=HP2.out.cell 4;have y5:=HP2.out.cell 5;have y6:=HP2.out.cell 6;have y7:=HP2.out.cell 7;simp at x0 x1 x2 x3 x4 x5 x6 x7 y0 y1 y2 y3 y4 y5 y6 y7;go_wp2_with fail
   go_ret;exact⟨rfl,HB2.out⟩
  |true=>
   cases hb2:(cj.toList==ck.toList)with
   |false=>
    simp only[ux,bV];go_enter Tryz.func54,Tryz.ntmps54;go_upto_region 1 with fail
    generalize(w.alloc (.cells #[.string key1,.string bG,.string cj,.slice fA n11 c11,.slice ft n12 c12,.int .u64 ik,.int .u8 bA,.slice ig n13 c13] 50)).alloc (.cells #[.string key2,.string bB,.string ck,.slice iK n21 c21,.slice iL n22 iM,.int .u64 iR,.int .u8 bL,.slice kY n23 c23] 50)=w2 at HB2 bP HP2⊢;generalize w.heap.size+1=Q at HP2⊢;generalize hPw:w.heap.size=P at bP⊢;have kr:=ae hPw;clear hPw;have x0:=bP.out.cell 0;have x1:=bP.out.cell 1;have x2:=bP.out.cell 2;have x3:=bP.out.cell 3;have x4:=bP.out.cell 4;have x5:=bP.out.cell 5;have x6:=bP.out.cell 6;have x7:=bP.out.cell 7;have y0:=HP2.out.cell 0;have y1:=HP2.out.cell 1;have y2:=HP2.out.cell 2;have y3:=HP2.out.cell 3;have y4:=HP2.out.cell 4;have y5:=HP2.out.cell 5;have y6:=HP2.out.cell 6;have y7:=HP2.out.cell 7;simp at x0 x1 x2 x3 x4 x5 x6 x7 y0 y1 y2 y3 y4 y5 y6 y7;go_wp2_with fail
    go_ret;exact⟨rfl,HB2.out⟩
   |true=>
    cases hb3:((ik:Int)==(iR:Int))with
    |false=>
     simp only[ux,bV];go_enter Tryz.func54,Tryz.ntmps54;go_upto_region 1 with fail
     generalize(w.alloc (.cells #[.string key1,.string bG,.string cj,.slice fA n11 c11,.slice ft n12 c12,.int .u64 ik,.int .u8 bA,.slice ig n13 c13] 50)).alloc (.cells #[.string key2,.string bB,.string ck,.slice iK n21 c21,.slice iL n22 iM,.int .u64 iR,.int .u8 bL,.slice kY n23 c23] 50)=w2 at HB2 bP HP2⊢;generalize w.heap.size+1=Q at HP2⊢;generalize hPw:w.heap.size=P at bP⊢;have kr:=ae hPw;clear hPw;have x0:=bP.out.cell 0;have x1:=bP.out.cell 1;have x2:=bP.out.cell 2;have x3:=bP.out.cell 3;have x4:=bP.out.cell 4;have x5:=bP.out.cell 5;have x6:=bP.out.cell 6;have x7:=bP.out.cell 7;have y0:=HP2.out.cell 0;have y1:=HP2.out.cell 1;have y2:=HP2.out.cell 2;have y3:=HP2.out.cell 3;have y4:=HP2.out.cell 4;have y5:=HP2.out.cell 5;have y6:=HP2.out.cell 6;have y7:=HP2.out.cell 7;simp at x0 x1 x2 x3 x4 x5 x6 x7 y0 y1 y2 y3 y4 y5 y6 y7;go_wp2_with fail
     go_ret;exact⟨rfl,HB2.out⟩
    |true=>
     cases hb4:((bA:Int)==(bL:Int))with
     |false=>
      simp only[ux,bV];go_enter Tryz.func54,Tryz.ntmps54;go_upto_region 1 with fail
      generalize(w.alloc (.cells #[.string key1,.string bG,.string cj,.slice fA n11 c11,.slice ft n12 c12,.int .u64 ik,.int .u8 bA,.slice ig n13 c13] 50)).alloc (.cells #[.string key2,.string bB,.string ck,.slice iK n21 c21,.slice iL n22 iM,.int .u64 iR,.int .u8 bL,.slice kY n23 c23] 50)=w2 at HB2 bP HP2⊢;generalize w.heap.size+1=Q at HP2⊢;generalize hPw:w.heap.size=P at bP⊢;have kr:=ae hPw;clear hPw;have x0:=bP.out.cell 0;have x1:=bP.out.cell 1;have x2:=bP.out.cell 2;have x3:=bP.out.cell 3;have x4:=bP.out.cell 4;have x5:=bP.out.cell 5;have x6:=bP.out.cell 6;have x7:=bP.out.cell 7;have y0:=HP2.out.cell 0;have y1:=HP2.out.cell 1;have y2:=HP2.out.cell 2;have y3:=HP2.out.cell 3;have y4:=HP2.out.cell 4;have y5:=HP2.out.cell 5;have y6:=HP2.out.cell 6;have y7:=HP2.out.cell 7;simp at x0 x1 x2 x3 x4 x5 x6 x7 y0 y1 y2 y3 y4 y5 y6 y7;go_wp2_with fail
      go_ret;exact⟨rfl,HB2.out⟩
     |true=>
      simp only[bV];cases BT with
      |false=>
       simp only[ux];go_enter Tryz.func54,Tryz.ntmps54;go_upto_region 1 with fail
       generalize(w.alloc (.cells #[.string key1,.string bG,.string cj,.slice fA n11 c11,.slice ft n12 c12,.int .u64 ik,.int .u8 bA,.slice ig n13 c13] 50)).alloc (.cells #[.string key2,.string bB,.string ck,.slice iK n21 c21,.slice iL n22 iM,.int .u64 iR,.int .u8 bL,.slice kY n23 c23] 50)=w2 at HB2 bP HP2⊢;generalize w.heap.size+1=Q at HP2⊢;generalize hPw:w.heap.size=P at bP⊢;have kr:=ae hPw;clear hPw;have x0:=bP.out.cell 0;have x1:=bP.out.cell 1;have x2:=bP.out.cell 2;have x3:=bP.out.cell 3;have x4:=bP.out.cell 4;have x5:=bP.out.cell 5;have x6:=bP.out.cell 6;have x7:=bP.out.cell 7;have y0:=HP2.out.cell 0;have y1:=HP2.out.cell 1;have y2:=HP2.out.cell 2;have y3:=HP2.out.cell 3;have y4:=HP2.out.cell 4;have y5:=HP2.out.cell 5;have y6:=HP2.out.cell 6;have y7:=HP2.out.cell 7;simp at x0 x1 x2 x3 x4 x5 x6 x7 y0 y1 y2 y3 y4 y5 y6 y7;go_wp2_with(first
        |(go_at_call 107;refine(HT.out _ HB2.out).mono ?_;rintro r w3⟨rfl,d3⟩;have px4:=ak x4 d3;have px7:=ak x7 d3;have py4:=ak y4 d3;have py7:=ak y7 d3;have HB3:=aZ HB2 d3;clear d3))
       go_ret;exact⟨rfl,HB3.out⟩
      |true=>
       cases BA with
       |false=>
        simp only[ux,bV];go_enter Tryz.func54,Tryz.ntmps54;go_upto_region 1 with fail
        generalize(w.alloc (.cells #[.string key1,.string bG,.string cj,.slice fA n11 c11,.slice ft n12 c12,.int .u64 ik,.int .u8 bA,.slice ig n13 c13] 50)).alloc (.cells #[.string key2,.string bB,.string ck,.slice iK n21 c21,.slice iL n22 iM,.int .u64 iR,.int .u8 bL,.slice kY n23 c23] 50)=w2 at HB2 bP HP2⊢;generalize w.heap.size+1=Q at HP2⊢;generalize hPw:w.heap.size=P at bP⊢;have kr:=ae hPw;clear hPw;have x0:=bP.out.cell 0;have x1:=bP.out.cell 1;have x2:=bP.out.cell 2;have x3:=bP.out.cell 3;have x4:=bP.out.cell 4;have x5:=bP.out.cell 5;have x6:=bP.out.cell 6;have x7:=bP.out.cell 7;have y0:=HP2.out.cell 0;have y1:=HP2.out.cell 1;have y2:=HP2.out.cell 2;have y3:=HP2.out.cell 3;have y4:=HP2.out.cell 4;have y5:=HP2.out.cell 5;have y6:=HP2.out.cell 6;have y7:=HP2.out.cell 7;simp at x0 x1 x2 x3 x4 x5 x6 x7 y0 y1 y2 y3 y4 y5 y6 y7;go_wp2_with(first
         |(go_at_call 107;refine(HT.out _ HB2.out).mono ?_;rintro r w3⟨rfl,d3⟩;have px4:=ak x4 d3;have px7:=ak x7 d3;have py4:=ak y4 d3;have py7:=ak y7 d3;have HB3:=aZ HB2 d3;clear d3)
         |(go_at_call 108;refine(HA.out _ HB3.out).mono ?_;rintro r w4⟨rfl,d4⟩;have qx7:=ak px7 d4;have qy7:=ak py7 d4;have HB4:=aZ HB3 d4;clear d4))
        go_ret;exact⟨rfl,HB4.out⟩
       |true=>
        simp only[bV];go_enter Tryz.func54,Tryz.ntmps54;go_upto_region 1 with fail
        generalize(w.alloc (.cells #[.string key1,.string bG,.string cj,.slice fA n11 c11,.slice ft n12 c12,.int .u64 ik,.int .u8 bA,.slice ig n13 c13] 50)).alloc (.cells #[.string key2,.string bB,.string ck,.slice iK n21 c21,.slice iL n22 iM,.int .u64 iR,.int .u8 bL,.slice kY n23 c23] 50)=w2 at HB2 bP HP2⊢;generalize w.heap.size+1=Q at HP2⊢;generalize hPw:w.heap.size=P at bP⊢;have kr:=ae hPw;clear hPw;have x0:=bP.out.cell 0;have x1:=bP.out.cell 1;have x2:=bP.out.cell 2;have x3:=bP.out.cell 3;have x4:=bP.out.cell 4;have x5:=bP.out.cell 5;have x6:=bP.out.cell 6;have x7:=bP.out.cell 7;have y0:=HP2.out.cell 0;have y1:=HP2.out.cell 1;have y2:=HP2.out.cell 2;have y3:=HP2.out.cell 3;have y4:=HP2.out.cell 4;have y5:=HP2.out.cell 5;have y6:=HP2.out.cell 6;have y7:=HP2.out.cell 7;simp at x0 x1 x2 x3 x4 x5 x6 x7 y0 y1 y2 y3 y4 y5 y6 y7;go_wp2_with(first
         |(go_at_call 107;refine(HT.out _ HB2.out).mono ?_;rintro r w3⟨rfl,d3⟩;have px4:=ak x4 d3;have px7:=ak x7 d3;have py4:=ak y4 d3;have py7:=ak y7 d3;have HB3:=aZ HB2 d3;clear d3)
         |(go_at_call 108;refine(HA.out _ HB3.out).mono ?_;rintro r w4⟨rfl,d4⟩;have qx7:=ak px7 d4;have qy7:=ak py7 d4;have HB4:=aZ HB3 d4;clear d4)
         |(go_at_call 109;refine(HE.out _ HB4.out).mono ?_;rintro r w5⟨rfl,d5⟩;have nw:=aZ HB4 d5;clear d5))
        go_ret;exact⟨rfl,nw.out⟩
end Go.Proofs.YtkjaajcpbldjoaaGreatDoor
