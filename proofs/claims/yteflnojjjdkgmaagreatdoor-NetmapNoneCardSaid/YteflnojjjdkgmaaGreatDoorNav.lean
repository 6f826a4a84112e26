/- Joined out of: BhC BhD BhE. -/
import Derived.Test.YteflnojjjdkgmaaGreatDoorNau
import Derived.Laws.CopyRow
import Derived.Lib.SlBuf
set_option linter.unusedVariables false
set_option linter.unusedSimpArgs false
set_option maxHeartbeats 16000000
set_option maxRecDepth 100000
open Array renaming getElem?_toList→ae9,getElem?_eq_none→afh
open Go.Lib renaming hid→ae
open Go.Proofs.Tryz renaming prog→ag
open Go.Result renaming andThen_ok→mD
open Go.RowKit renaming Hid→af
open Go.Sem renaming run_bind→afq
open Go.Value renaming int→afa
open Go.World renaming block_lt_of_cell?→aj
open List renaming getElem?_eq_getElem→ah,length_map→ax,getD_eq_getElem?_getD→ay,replicate→aH,getElem?_map→bA,map_append→cA,mem_of_getElem?→oK,getElem?_toArray→sc,take_zero→IM,size_toArray→Yk,take_succ_cons→aeB,drop_zero→aeC,drop_succ_cons→aeD
open Nat renaming le_trans→au,lt_of_lt_of_le→afb
open Option renaming bind_some→afw
namespace Go.Proofs.YteflnojjjdkgmaaGreatDoor
open Go.RowKit
attribute [local go_sem↓] Go.wp_at_zero Go.wp_at_succ
theorem S3:bP fK= #[.int .u32 1779033703,.int .u32 3144134277,.int .u32 1013904242,.int .u32 2773480762,.int .u32 1359893119,.int .u32 2600822924,.int .u32 528734635,.int .u32 1541459225]:=rfl
theorem first_any(w:World):Calls ag 187 #[] w fun r w'=>r=.returned (.agg #[.int .u32 1779033703,.int .u32 3144134277,.int .u32 1013904242,.int .u32 2773480762,.int .u32 1359893119,.int .u32 2600822924,.int .u32 528734635,.int .u32 1541459225])∧Below w.heap.size w w':=by
 go_enter Tryz.func187,Tryz.ntmps187;go_wp2_with fail
 have hB:=aD.new w 260 (bP fK);exact bodyPost_ret (results_cell_row rfl _ _ w.heap.size 260 (bP fK) (0,0) _ rfl hB Tryz.underlying260 rfl bg) rfl ⟨rfl,boxed w _⟩
def hsL(h:List Nat)(sz:Nat)(rv:Value)(n:Nat):List Value:=(h.map fun x:Nat=>afa .u32 x)++[.int .i64 sz,rv,.int .u64 n]
def fc(w:World)(g:Nat)(h:List Nat)(sz:Nat)(rv:Value)(n:Nat):Prop:=aD w g 263 (hsL h sz rv n).toArray
theorem S4{h:List Nat}(hh:Ws 8 h){sz n:Nat}{rv:Value}{i:Nat}(hi:i<8):(hsL h sz rv n).toArray[i]? =some (.int .u32 (bw h i:Int)):=by
 have hl:i<h.length:=by rw[hh.len];exact hi
 unfold hsL bw;rw[sc,List.getElem?_append_left (by rw[ax];exact hl),bA,ay,ah hl];rfl
theorem vP{h:List Nat}(hh:Ws 8 h){sz n:Nat}{rv:Value}(i:Nat):(hsL h sz rv n).toArray[8+i]? =[afa .i64 sz,rv,.int .u64 n][i]? :=by
 unfold hsL;rw[sc,List.getElem?_append_right (by rw[ax,hh.len];omega),ax,hh.len,Nat.add_sub_cancel_left]
theorem JB{h:List Nat}(hh:Ws 8 h){sz n:Nat}{rv:Value}{i x:Nat}(hi:i<8):(hsL h sz rv n).toArray.setIfInBounds i (.int .u32 x)=(hsL (h.set i x) sz rv n).toArray:=by
 unfold hsL;rw[List.setIfInBounds_toArray,List.set_append_left _ _ (by rw[ax,hh.len];exact hi),List.map_set]
section
variable{w w':World}{g sz n:Nat}{h:List Nat}{rv:Value}
theorem fc.word(hg:fc w g h sz rv n)(hh:Ws 8 h){i:Nat}(hi:i<8):w.cell? ⟨g,i,none⟩=some (.int .u32 (bw h i:Int)):=by
 rw[aD.cell hg i];exact S4 hh hi
theorem fc.size(hg:fc w g h sz rv n)(hh:Ws 8 h):w.cell? ⟨g,8,none⟩=some (.int .i64 sz):=by
 rw[aD.cell hg 8];exact vP hh 0
theorem fc.rest(hg:fc w g h sz rv n)(hh:Ws 8 h):w.cell? ⟨g,9,none⟩=some rv:=by
 rw[aD.cell hg 9];exact vP hh 1
theorem fc.num(hg:fc w g h sz rv n)(hh:Ws 8 h):w.cell? ⟨g,10,none⟩=some (.int .u64 n):=by
 rw[aD.cell hg 10];exact vP hh 2
end
def jZ:Array Value:=(nJ.flatten.map fun x:Nat=>afa .u8 x).toArray
def fh(w:World):Prop:=w.var? ag "isthmus/blake.orders" =some jZ
theorem fh.at_{w:World}(h:fh w):∃t fr,w.heap[0]? =some (.cells jZ t fr):=by
 unfold fh World.var? at h;rw[show ag.globalNamed "isthmus/blake.orders" =some 0 by kernel_rfl,afw]at h;split at h
 ·next cs t fr hc=>injection h with h;subst h;exact⟨t,fr,hc⟩
 ·cases h
theorem fh.keep{S:Nat→Prop}{w w':World}(h:fh w)(k:Keeps S w w')(hs:¬S 0):fh w':=by
 obtain⟨t,fr,hc⟩:=h.at_;have hl:0<w.heap.size:=(Array.getElem?_eq_some_iff.1 hc).1;have h2:=k.block _ hl hs;unfold fh World.var?;rw[show ag.globalNamed "isthmus/blake.orders" =some 0 by kernel_rfl,afw,h2,hc]
theorem fh.below{B:Nat}{w w':World}(h:fh w)(k:Below B w w')(hs:0<B):fh w':=by
 obtain⟨t,fr,hc⟩:=h.at_;have h2:=k.block _ hs;unfold fh World.var?;rw[show ag.globalNamed "isthmus/blake.orders" =some 0 by kernel_rfl,afw,h2,hc]
theorem fh.lt{w:World}(h:fh w):0<w.heap.size:=by
 obtain⟨t,fr,hc⟩:=h.at_;exact(Array.getElem?_eq_some_iff.1 hc).1
def bM(o:List Nat):Array Value:=(o.map fun x:Nat=>afa .u8 x).toArray
theorem WR{r:Nat}(hr:r<10):(nJ.getD r []).length=16∧∀i,bw (nJ.getD r []) i<16:=by
 have h:∀k:Fin 10,(nJ.getD k []).length=16∧∀x∈nJ.getD k [],x<16:=by decide+kernel
 obtain⟨h1,h2⟩:=h ⟨r,hr⟩;refine⟨h1,fun i=>?_⟩;unfold bw;rw[ay];rcases hi:(nJ.getD r [])[i]? with _|x
 ·simp
 ·exact h2 x (oK hi)
theorem Aj{w:World}{g:Nat}{t:TypeId}{o:List Nat}(ho:o.length=16)(hg:aD w g t (bM o)){i:Nat}(hi:i<16):w.cell? ⟨g,i,none⟩=some (.int .u8 (bw o i:Int)):=by
 rw[hg.cell i];unfold bM bw;rw[sc,bA,ay,ah (by rw[ho];exact hi)];rfl
theorem sW{o:List Nat}(ho:o.length=16):(bM o).size=16:=by unfold bM;rw[Yk,ax,ho]
theorem Ie(o:List Nat):(bM o).all (·.oneCell')=true:=by
 unfold bM;rw[List.all_toArray,List.all_map];exact List.all_eq_true.2 fun _ _=>rfl
theorem S5:(ag.info? 301).map (·.size)=some 16:=by kernel_rfl
theorem S7{w w0:World}{g:Nat}{t:TypeId}{v:List Nat}(hg:aD w g t (bP v))(hk:Keeps (fun k=>k=g) w0 w)(i x:Nat):aD (w.setCell ⟨g,i,none⟩ (.int .u32 x)) g t (bP (v.set i x))∧Keeps (fun k=>k=g) w0 (w.setCell ⟨g,i,none⟩ (.int .u32 x)):=by
 refine⟨?_,hk.setCell (p:=⟨g,i,none⟩) (Or.inl rfl) _⟩;rw[←vN];exact hg.aN i _
theorem jt{P:Program}{ops:Array Oper}{rest:List Oper}{o:Oper}{a:Act}{w w':World}{Q:Exit→Act→World→Prop}(hgd:o.guard=none)(s x:Operand)(t u:TypeId)(ho:o.op=.call {callee:=.builtin .copy,args:= #[s,x],argTypes:= #[t,u]}){v y v':Value}(hs:a.eval s=v)(hx:a.eval x=y)(hr:(Builtin.copy_ #[t,u] o.type #[v,y]).run P w=.ok v' w')(h:wpList P ops Q rest (a.put o.dst v') w'):wpList P ops Q (o::rest) a w:=wpList_plain hgd fun _ hK=>Lib.wp_copy_run w s x t u ho v y hs hx hr (hK _ _ h)
theorem S8:(ag.info? 187).map (·.size)=some 1:=by kernel_rfl
theorem JC(g j:Nat):(⟨g,0,none⟩:Addr).add j=⟨g,j,none⟩:=by unfold Addr.add;split<;>simp_all
theorem S9{w:World}{V g o dL dC sL sC:Nat}{t ty:TypeId}{v u:List Nat}(hV:aD w V t (bP v))(ho:o+u.length≤v.length)(hsrc:∀j,j<u.length→w.cell? ⟨g,j,none⟩=some (.int .u32 (bw u j:Int)))(hn:u.length=Nat.min sL dL):∃w',(Builtin.copy_ #[298,298] ty #[.slice (some ⟨V,o,none⟩) dL dC,.slice (some ⟨g,0,none⟩) sL sC]).run ag w=.ok (goInt u.length) w'∧aD w' V t (bP (v.take o++u++v.drop (o+u.length)))∧Keeps (fun k=>k=V) w w':=by
 have h:=run_copy_row (P:=ag) w 298 298 ty 187 V o dL dC ⟨g,0,none⟩ sL sC (bP v) t (u.map fun x:Nat=>afa .u32 x) Tryz.underlying298 S8 hV (by rw[ax];exact hn) (fun j x hx=>by
  rw[JC];have hj:j<u.length:=by
   have:=(List.getElem?_eq_some_iff.1 hx).1;rwa [ax]at this
  rw[bA,ah hj]at hx;injection hx with hx
  subst hx;rw[hsrc j hj];unfold bw;rw[ay,ah hj];rfl) (by rw[ax];unfold bP;rw[Yk,ax];exact ho) (fun x hx=>by
  obtain⟨n,_,rfl⟩:=List.mem_map.1 hx;rfl)
 rw[ax]at h;refine⟨_,h,?_,⟨rfl,rfl,rfl,by rw[setRow_size];exact Nat.le_refl _,fun k _ hk=>setRow_other w V k _ hk⟩⟩;have e:((bP v).toList.take o++(u.map fun x:Nat=>afa .u32 x)++(bP v).toList.drop (o+u.length)).toArray=bP (v.take o++u++v.drop (o+u.length)):=by
  unfold bP;rw[cA,cA,List.map_take,List.map_drop]
 rw[e];exact setRow_heap w V _ _ t (0,0) hV
theorem Ig{h:List Nat}(hh:h.length=8):(((aH 16 0).take 0++h++(aH 16 0).drop (0+h.length)).take 8++fK++((aH 16 0).take 0++h++(aH 16 0).drop (0+h.length)).drop (8+fK.length))=h++fK:=by
 rw[IM,List.nil_append,List.take_left' hh,List.drop_of_length_le (by simp[hh,fK]),List.append_nil]
theorem Ta:bP (aH 16 0)= #[.int .u32 0,.int .u32 0,.int .u32 0,.int .u32 0,.int .u32 0,.int .u32 0,.int .u32 0,.int .u32 0,.int .u32 0,.int .u32 0,.int .u32 0,.int .u32 0,.int .u32 0,.int .u32 0,.int .u32 0,.int .u32 0]:=rfl
def Ny(r:Nat):Array Value:=bM (nJ.getD r [])
theorem Tc{r:Nat}(hr:r<10):jZ.extract (r*16) (r*16+16)=Ny r:=by
 rcases(by omega:r=0∨r=1∨r=2∨r=3∨r=4∨r=5∨r=6∨r=7∨r=8∨r=9)with rfl|rfl|rfl|rfl|rfl|rfl|rfl|rfl|rfl|rfl<;>kernel_rfl
theorem xx{r:Nat}(hr:r<10)(w:World):(Instr.index 302 (.agg jZ) (.int .i64 r)).run ag w=.ok (.agg (Ny r)) w:=by
 have h1:(ag.info? 301).map (·.size)=some 16:=by kernel_rfl
 have h2:ag.underlying 302=some (.array 10 301):=by kernel_rfl
 have h3:ag.underlying 301=some (.array 16 5):=by kernel_rfl
 have hs:(sizeOf 301).run ag w=.ok 16 w:=by
  cases hq:ag.info? 301 with
  |none=>simp[hq]at h1
  |some i=>
   have h1:i.size=16:=by simpa[hq]using h1
   simp[sizeOf,typeInfo,hq,h1]
 have ha:(isAgg 301).run ag w=.ok true w:=by
  unfold isAgg;rw[afq,run_underlying h3 w];rfl
 have hp:(part 301 jZ (r*16)).run ag w=.ok (.agg (Ny r)) w:=by
  simp[part,afq,ha,hs,Tc hr]
 have hb:(0:Int)≤(r:Int)∧(r:Int)<((10:Nat):Int):=by omega
 simp[Instr.index,asIntOf,afq,run_underlying h2 w,hs,hr,hp]
theorem rP{ops:Array Oper}{rest:List Oper}{o:Oper}{a:Act}{w:World}{Q:Exit→Act→World→Prop}(hgd:o.guard=none)(x i:Operand)(ho:o.op=.index 302 x i){r:Nat}(hr:r<10){oc:Array Value}(hoc:oc=jZ)(hx:a.eval x=.agg oc)(hi:a.eval i=.int .i64 r)(h:wpList ag ops Q rest (a.put o.dst (.agg (Ny r))) w):wpList ag ops Q (o::rest) a w:=wpList_plain hgd fun _ hK=>by
 unfold Oper.wp execOp;subst hoc;simp only[ho,hx,hi,afq,xx hr,mD];exact hK _ _ h
theorem WT{x:Nat}(hx:x<4294967296):4294967295^^^x=4294967295-x:=by
 have h:=congrArg BitVec.toNat (BitVec.allOnes_xor (x:=BitVec.ofNat 32 x));rw[BitVec.toNat_xor,BitVec.toNat_not,BitVec.toNat_ofNat,Nat.mod_eq_of_lt hx]at h;simpa using h
theorem ad8{x:Nat}(hx:x<4294967296):bits .xor .u32 4294967295 (x:Int)=((4294967295-x:Nat):Int):=by
 rw[←WT hx];have:=u32_xor_nat 4294967295 x aF hx;simpa using this
theorem xy(w:World):(Instr.alloc 301 true (.tuple #[])).run ag w=.ok (.pointer (some ⟨w.heap.size,0,none⟩)) (w.alloc (.cells (bM (aH 16 0)) 301)):=by
 kernel_rfl
theorem rQ{ops:Array Oper}{rest:List Oper}{o:Oper}{a:Act}{w:World}{Q:Exit→Act→World→Prop}(hgd:o.guard=none)(ho:o.op=.alloc 301)(h:wpList ag ops Q rest (a.put o.dst (.pointer (some ⟨w.heap.size,0,none⟩))) (w.alloc (.cells (bM (aH 16 0)) 301))):wpList ag ops Q (o::rest) a w:=wpList_plain hgd fun _ hK=>by
 unfold Oper.wp execOp;simp only[ho,afq,xy,mD];exact hK _ _ h
theorem WU{B:Nat}{w w0:World}(hB:Below B w0 w)(hle:B≤w.heap.size)(o:List Nat):aD ((w.alloc (.cells (bM (aH 16 0)) 301)).setRow w.heap.size (bM o)) w.heap.size 301 (bM o)∧Below w.heap.size w ((w.alloc (.cells (bM (aH 16 0)) 301)).setRow w.heap.size (bM o))∧Below B w0 ((w.alloc (.cells (bM (aH 16 0)) 301)).setRow w.heap.size (bM o)):=by
 have h1:Below w.heap.size w ((w.alloc (.cells (bM (aH 16 0)) 301)).setRow w.heap.size (bM o)):=⟨rfl,rfl,rfl,by rw[setRow_size];simp,fun k hk=>by rw[setRow_other _ _ _ _ aM];exact heap_alloc_old w _ hk⟩;exact⟨setRow_heap _ _ _ _ _ (0,0) (heap_alloc_new w _),h1,hB.trans (h1.mono hle)⟩
theorem yt{w:World}(ord:fh w){g gp sz n cap:Nat}{h p:List Nat}{rv:Value}(hh:Ws 8 h)(hg:fc w g h sz rv n)(hn:n<18446744073709551616)(hp:∀i,i<64→w.cell? ⟨gp,i,none⟩=some (.int .u8 (bw p i:Int)))(hpb:∀i,bw p i<256)(hne:gp≠g)(hgo:g≠0)(last:Bool):Calls ag 188 #[.pointer (some ⟨g,0,none⟩),.slice (some ⟨gp,0,none⟩) 64 cap,.bool last] w fun r w'=>r=.returned (.tuple #[])∧fc w' g (nK h n p last) sz rv n∧Keeps (fun k=>k=g) w w':=by
 have hgl:g<w.heap.size:=aD.lt hg;have hpl:gp<w.heap.size:=aj w _ (hp 0 aF);have hb1:=boxed w (.cells (bP (aH 16 0)) 297);have hM:=aD.new w 297 (bP (aH 16 0));have hb2:=boxed (w.alloc (.cells (bP (aH 16 0)) 297)) (.cells (bP (aH 16 0)) 297);have hV:=aD.new (w.alloc (.cells (bP (aH 16 0)) 297)) 297 (bP (aH 16 0));rw[show(w.alloc (.cells (bP (aH 16 0)) 297)).heap.size=w.heap.size+1 by simp]at hV;obtain⟨sU,HV2⟩:=aI (hM.below hb2 hM.lt) hV;have hB2:=after hb1 hb2;obtain⟨HB2,HG,HPp,ei,Ak⟩:=dR hB2 hg hp hpb ord;clear hb1 hM hb2 hV hB2 hg hp hpb ord;rw[Ta]at sU HV2 HB2;go_enter Tryz.func188,Tryz.ntmps188;go_upto_region 1 with fail
 generalize hMe:w.heap.size=M at sU HV2 HB2 hgl hpl⊢;have HMe:=ae hMe;clear hMe;generalize(w.alloc (.cells #[.int .u32 0,.int .u32 0,.int .u32 0,.int .u32 0,.int .u32 0,.int .u32 0,.int .u32 0,.int .u32 0,.int .u32 0,.int .u32 0,.int .u32 0,.int .u32 0,.int .u32 0,.int .u32 0,.int .u32 0,.int .u32 0] 297)).alloc (.cells #[.int .u32 0,.int .u32 0,.int .u32 0,.int .u32 0,.int .u32 0,.int .u32 0,.int .u32 0,.int .u32 0,.int .u32 0,.int .u32 0,.int .u32 0,.int .u32 0,.int .u32 0,.int .u32 0,.int .u32 0,.int .u32 0] 297)=w2 at sU HV2 HB2⊢;generalize hVe:M+1=V at HV2⊢;have xA:=ae hVe;clear hVe;rw[←Ta]at sU HV2;have HPq:af (∀i,i<64→w2.cell? ⟨gp,i,none⟩=some (.int .u8 (bw p i:Int))):=ae fun i hi=>ak (HPp.out i hi) (by rw[HMe.out];exact HB2.out)
 have hgM:gp≠M:=by omega
 go_wp2_with fail
 go_loopw [19] (fun v19 wr=>∃k:Nat,k≤64∧v19=.int .i64 k∧af (aD wr M 297 (bP (jX p k)))∧af (Keeps (fun x=>x=M) w2 wr)) (fun v19 _=>64-(intOf v19).toNat)
 case atStart=>exact⟨0,by omega,rfl,sU,ae (Keeps.refl _ _)⟩
 case round=>
  obtain⟨k,hk,rfl,hm,hkp⟩:=hrel;obtain⟨wo,rfl⟩:∃wo:World,wo=wr:=⟨_,rfl⟩;by_cases hlt:k<64
  ·have c0:=bu (HPq.out k hlt) hkp.out hgM;have hb:=ei.out k;have ws:=yo p k;have ad9:k/4<16:=by omega
   have d0:=hm.out.cell (k/4);rw[yr ws ad9]at d0;have f0:=hm.out.frozen (k/4);have lA:=ws.at_ (k/4);have aeY:k%4*8≤24:=by omega
   have hres:=S7 hm.out hkp.out (k/4) (bw (jX p k) (k/4)|||bw p k*2^(k%4*8)%4294967296);rw[show(jX p k).set (k/4) (bw (jX p k) (k/4)|||bw p k*2^(k%4*8)%4294967296)=jX p (k+1)from(DJ p k).symm]at hres;have a0:(0:Int)≤(k:Int):=by omega
   have a1:(k:Int)<64:=by omega
   generalize bw p k=X at c0 hb hres;generalize bw (jX p k) (k/4)=A at d0 lA hres;have hor:bits .or .u32 (A:Int) ((X:Int)*2^(k%4*8)%4294967296)=((A|||X*2^(k%4*8)%4294967296:Nat):Int):=by
    have:=u32_or_nat A (X*2^(k%4*8)%4294967296) lA (Nat.mod_lt _ aF);simpa using this
   generalize A|||X*2^(k%4*8)%4294967296=R at hres hor
   have Cb:=ae hres;clear hres;go_wp2_with fail
   go_roundw
   case rel=>exact⟨k+1,by omega,by go_num,ae Cb.out.1,ae Cb.out.2⟩
   case measure=>simp[intOf];omega
  obtain rfl:k=64:=by omega
  have hV3:=HV2.out.keep hkp.out (by have:=xA.out;omega);have hB3:=hkp.out.below (B:=M) (fun q hq=>by omega) (by have:=sU.out.lt;omega);obtain⟨HB3,HV3⟩:=aI (HB2.out.trans hB3) hV3;have oD:=hm;clear hV3 hB3 hkp HV2 sU HPq HB2 hlt hk;generalize hWW:jX p 64=ww at oD;have wsW:Ws 16 ww:=by rw[←hWW];exact yo p 64
  have HWW:=ae (fun _:Unit=>hWW);clear hWW ei HPp;go_upto_region 7 with(go_at_call 187;(with_reducible refine(first_any _).mono ?_);rintro r w4⟨rfl,d4⟩;have HD4:=ae d4;clear d4)
  have hB4:=HD4.out;have YR:=aD.new w4 260 (bP fK);rw[S3]at YR;have hb5:=boxed w4 (.cells #[.int .u32 1779033703,.int .u32 3144134277,.int .u32 1013904242,.int .u32 2773480762,.int .u32 1359893119,.int .u32 2600822924,.int .u32 528734635,.int .u32 1541459225] 260);have HZ:af (M<w4.heap.size∧V<w4.heap.size):=ae ⟨afb oD.out.lt hB4.size,afb HV3.out.lt hB4.size⟩;have WV:=after hB4 hb5;obtain⟨rD,HV5⟩:=aI (oD.out.below WV oD.out.lt) (HV3.out.below WV HV3.out.lt);have mO:=ae (HB3.out.trans (WV.mono (by have h1:=HB3.out.size;have h2:=HMe.out;omega)));have Bc:=ae YR;clear hB4 YR hb5 WV oD HV3 HB3 HD4;generalize w4.alloc (.cells #[.int .u32 1779033703,.int .u32 3144134277,.int .u32 1013904242,.int .u32 2773480762,.int .u32 1359893119,.int .u32 2600822924,.int .u32 528734635,.int .u32 1541459225] 260)=w5 at rD HV5 mO Bc⊢;generalize w4.heap.size=F at HZ Bc⊢;rw[←S3]at Bc;have hG5:fc w5 g h sz rv n:=aD.below (g:=g) HG.out (by rw[HMe.out];exact mO.out) (aD.lt HG.out);refine wp_region_still_tail 5 bg bg ?_;simp only[aeB,IM,aeD,aeC]
  repeat still_step
  refine wpStill_nil ?_;change wpList _ _ _ _ _ w5.drew;obtain⟨w6,hr6,hV6,hk6⟩:=S9 (w:=w5.drew) (V:=V) (g:=g) (o:=0) (dL:=16) (dC:=16) (sL:=8) (sC:=8) (ty:=3) (u:=h) HV5.out.drew (by rw[hh.len,List.length_replicate];decide) (fun j hj=>hG5.word hh (by rw[hh.len]at hj;exact hj)) (by rw[hh.len];rfl);refine jt rfl _ _ _ _ rfl rfl rfl hr6 ?_;have hl6:((aH 16 0).take 0++h++(aH 16 0).drop (0+h.length)).length=16:=by simp[hh.len]
  have hF6:aD w6 F 260 (bP fK):=Bc.out.drew.keep hk6 (by have:=HZ.out;omega);have hM6:=rD.out.drew.keep hk6 (by have:=xA.out;omega);have hG6:fc w6 g h sz rv n:=aD.keep (g:=g) (aD.drew hG5) hk6 (by have:=xA.out;omega);have fu:=mO.out.drew.trans (hk6.below (B:=M) (fun q hq=>by have:=xA.out;omega) (Nat.le_of_lt rD.out.lt));have acG:=hV6;clear rD HV5 mO Bc hG5 hk6 hr6 hV6;obtain⟨HF6,Ba,HG6,jH,HV6,HL6⟩:=ox hF6 hM6 hG6 fu acG hl6;clear hF6 hM6 hG6 fu acG hl6;go_upto_region 8 with fail
  refine wp_region_still_tail 2 bg bg ?_;simp only[aeB,IM,aeD,aeC]
  repeat still_step
  refine wpStill_nil ?_;change wpList _ _ _ _ _ w6.drew;obtain⟨w7,hr7,hV7,UA⟩:=S9 (w:=w6.drew) (V:=V) (g:=F) (o:=8) (dL:=8) (dC:=8) (sL:=8) (sC:=8) (ty:=3) (u:=fK) HV6.out.drew (by rw[HL6.out];decide) (fun j hj=>dJ jJ HF6.out.drew hj) (by rfl);rw[Ig hh.len]at hV7;refine jt rfl _ _ _ _ rfl rfl rfl hr7 ?_;have hM7:=Ba.out.drew.keep UA (by have:=xA.out;omega);have hG7:fc w7 g h sz rv n:=aD.keep (g:=g) (aD.drew HG6.out) UA (by have:=xA.out;omega);have iV:=jH.out.drew.trans (UA.below (B:=M) (fun q hq=>by have:=xA.out;omega) (Nat.le_of_lt Ba.out.lt));obtain⟨HM7,Om,tK⟩:=bj hM7 hG7 iV;clear HF6 Ba HG6 jH HV6 HL6 hr7 UA hM7 hG7 iV;generalize h.length=hlen;have ws0:=SV hh jJ;obtain⟨v0,hv0⟩:∃v,v=h++fK:=⟨_,rfl⟩;rw[←hv0]at hV7 ws0;obtain⟨HV7,Hv0⟩:=aI hV7 hv0;clear hV7 hv0;have x0:=dJ ws0 HV7.out (show 12<8+8 by decide);have f0:=HV7.out.frozen 12;have y0:=Om.out.num hh;have l0:=ws0.at_ 12;have hln:n%4294967296<4294967296:=Nat.mod_lt _ aF;have e0:IntKind.u32.wrap (n:Int)=((n%4294967296:Nat):Int):=sV n;have e1:=DT l0 hln;have hp0:=DN (n:=16) HV7.out (Keeps.refl _ _) 12 (fY (bw v0 12) (n%4294967296));have ws1:=ws0.aN 12 (js l0 hln);obtain⟨v1,hv1⟩:∃v,v=v0.set 12 (fY (bw v0 12) (n%4294967296)):=⟨_,rfl⟩;rw[←hv1]at hp0 ws1;generalize fY (bw v0 12) (n%4294967296)=X0 at e1 hp0;generalize bw v0 12=A0 at x0 e1;generalize n%4294967296=N0 at e0 e1;obtain⟨HP0,Hv1⟩:=aI hp0 hv1;clear hp0 hv1 l0 hln;go_upto_region 9 with fail
  refine wp_region_still_tail 9 bg bg ?_;simp only[aeB,IM,aeD,aeC]
  repeat still_step
  refine wpStill_nil ?_;change wpList _ _ _ _ _ w7.drew;go_wp2_with fail
  have h8:=HP0.out;generalize(w7.setCell ⟨V,12,none⟩ (.int .u32 X0)).drew=w8 at h8⊢;have HM8:=ae (HM7.out.keep h8.2 (by have:=xA.out;omega));have HG8:af (fc w8 g h sz rv n):=ae (aD.keep (g:=g) Om.out h8.2 (by have:=xA.out;omega));have HB8:=ae (tK.out.trans (h8.2.below (B:=M) (fun q hq=>by have:=xA.out;omega) (Nat.le_of_lt HM7.out.lt)));have HV8:=ae h8.1;clear h8 HP0 HV7 HM7 Om tK x0 f0 y0 e0 e1;have x0:=dJ ws1 HV8.out (show 13<16 by decide);have f0:=HV8.out.frozen 13;have y0:=HG8.out.num hh;have l0:=ws1.at_ 13;have hln:n/4294967296%4294967296<4294967296:=Nat.mod_lt _ aF;have e0:IntKind.u32.wrap ((n:Int)/4294967296)=((n/4294967296%4294967296:Nat):Int):=sV (n/4294967296);have e1:=DT l0 hln;have hp0:=DN (n:=16) HV8.out (Keeps.refl _ _) 13 (fY (bw v1 13) (n/4294967296%4294967296));have ws2:=ws1.aN 13 (js l0 hln);obtain⟨v2,hv2⟩:∃v,v=v1.set 13 (fY (bw v1 13) (n/4294967296%4294967296)):=⟨_,rfl⟩;rw[←hv2]at hp0 ws2;generalize fY (bw v1 13) (n/4294967296%4294967296)=X1 at e1 hp0;generalize bw v1 13=A0 at x0 e1;generalize n/4294967296%4294967296=N1 at e0 e1;obtain⟨HP0,Hv2⟩:=aI hp0 hv2;clear hp0 hv2 l0 hln;go_upto_region 10 with fail
  refine wp_region_still_tail 10 bg bg ?_;simp only[aeB,IM,aeD,aeC]
  repeat still_step
  refine wpStill_nil ?_;change wpList _ _ _ _ _ w8.drew;go_upto_if 67 with fail
  have h9:=HP0.out;generalize(w8.setCell ⟨V,13,none⟩ (.int .u32 X1)).drew=w9 at h9⊢;have Yy:=ae (HM8.out.keep h9.2 (by have:=xA.out;omega));have HG9:af (fc w9 g h sz rv n):=ae (aD.keep (g:=g) HG8.out h9.2 (by have:=xA.out;omega));have ZF:=ae (HB8.out.trans (h9.2.below (B:=M) (fun q hq=>by have:=xA.out;omega) (Nat.le_of_lt HM8.out.lt)));have HV9:=ae h9.1;clear h9 HP0 HV8 HM8 HG8 HB8 x0 f0 y0 e0 e1;go_cut []from 17 (fun wx=>af (aD wx V 297 (bP (mo h n last)))∧af (aD wx M 297 (bP ww))∧af (fc wx g h sz rv n)∧af (Below M w wx))
  case first=>
   cases last with
   |false=>
    go_wp2_with fail
    go_meet
    case rel=>exact⟨ae (by rw[show mo h n false=v2 by unfold mo;rw[Hv2.out,Hv1.out,Hv0.out];rfl];exact HV9.out),Yy,HG9,ZF⟩
   |true=>
    have x0:=dJ ws2 HV9.out (show 14<16 by decide);have f0:=HV9.out.frozen 14;have l0:=ws2.at_ 14;have hp0:=S7 HV9.out (Keeps.refl _ _) 14 (4294967295-bw v2 14);have hbg:v2.set 14 (4294967295-bw v2 14)=mo h n true:=by unfold mo;rw[Hv2.out,Hv1.out,Hv0.out];rfl
    rw[hbg]at hp0;generalize bw v2 14=A0 at x0 l0 hp0;have e1:=ad8 l0;have eS:IntKind.u32.signed=false:=rfl;have eM:IntKind.u32.max=4294967295:=by decide
    generalize 4294967295-A0=R0 at e1 hp0;have HP0:=ae hp0;clear hp0 hbg l0;go_wp2_with fail
    go_meet
    case rel=>
     have h9:=HP0.out;exact⟨ae h9.1,ae (Yy.out.keep h9.2 (by have:=xA.out;omega)),ae (aD.keep (g:=g) HG9.out h9.2 (by have:=xA.out;omega)),ae (ZF.out.trans (h9.2.below (B:=M) (fun q hq=>by have:=xA.out;omega) (Nat.le_of_lt Yy.out.lt)))⟩
  case rest=>
  obtain⟨hV,hM,hG,hB⟩:=hcut;clear Yy HG9 ZF HV9;go_upto_region 14 with fail
  have aea:=(Ak.out.below hB.out (by have:=HMe.out;have:=Ak.out.lt;omega)).at_;obtain⟨tO,frO,hO⟩:=aea;obtain⟨oc,hoc⟩:∃c,c=jZ:=⟨_,rfl⟩;rw[←hoc]at hO;refine wp_region_lit ?_;refine wpList_load_row rfl _ _ rfl 0 rfl tO oc frO (.array 10 301) hO bg rfl (by rw[hoc];kernel_rfl) ?_;have HOc:=ae hoc;clear hoc;go_wp2_with fail
  obtain⟨vb,hvb⟩:∃v,v=mo h n last:=⟨_,rfl⟩;rw[←hvb]at hV;have wsB:Ws 16 vb:=by rw[hvb];exact yp hh n last
  have Hvb:=ae hvb;clear hvb Hv0 Hv1 Hv2 ws0 ws1 ws2 hO HZ;go_loopw [74] (fun v74 wr=>∃r:Nat,r≤10∧v74=.int .i64 r∧af (aD wr V 297 (bP (jF ww vb r)))∧af (aD wr M 297 (bP ww))∧af (Below M w wr)) (fun v74 _=>10-(intOf v74).toNat)
  case atStart=>exact⟨0,by omega,rfl,hV,hM,hB⟩
  case round=>
   obtain⟨r,hr,rfl,YS,hMr,hBr⟩:=hrel;obtain⟨wo,rfl⟩:∃wo:World,wo=wr:=⟨_,rfl⟩;clear hV hM hG hB;have wsR:=pJ (m:=ww) wsB r;by_cases hlt:r<10
   ·have hsucc:=Ai ww vb r;unfold pI at hsucc;obtain⟨Ih,hob⟩:=WR hlt;have hrow:af (Ny r=bM (nJ.getD r [])):=ae rfl;generalize jF ww vb r=vr at YS wsR hsucc;generalize hor:nJ.getD r []=o at hsucc Ih hob hrow;obtain⟨HS,HO⟩:=aI (fun _:Unit=>hsucc) hob;clear hsucc hob hor;go_upto_region 16 with fail
    refine wp_region_lit ?_;refine rP rfl _ _ rfl hlt HOc.out rfl rfl ?_;refine rQ rfl rfl ?_;refine wpList_store_row rfl _ _ _ rfl wo.heap.size (Ny r) rfl rfl 301 (bM (aH 16 0)) (heap_alloc_new wo _) (by rw[hrow.out,sW Ih];exact S5) (by rw[hrow.out,sW Ih];rfl) (by rw[hrow.out];exact Ie o) ?_;rw[hrow.out];obtain⟨hR,hb1,hb2⟩:=WU hBr.out (Nat.le_of_lt hMr.out.lt) o;obtain⟨HR1,HB1,HV1,PL⟩:=cH hR hb2 (YS.out.below hb1 YS.out.lt) (hMr.out.below hb1 hMr.out.lt);have hOV:af (V<wo.heap.size):=ae YS.out.lt;clear hR hb1 hb2 YS hMr hBr;generalize(wo.alloc (.cells (bM (aH 16 0)) 301)).setRow wo.heap.size (bM o)=w1 at HR1 HB1 HV1 PL⊢;generalize wo.heap.size=O at HR1 hOV⊢;go_wp2_with fail
    go_loopw [77] (fun v77 wi=>∃k:Nat,k≤4∧v77=.int .i64 k∧af (aD wi V 297 (bP (YQ ww o vr k)))∧af (aD wi M 297 (bP ww))∧af (aD wi O 301 (bM o))∧af (Below M w wi)) (fun v77 _=>4-(intOf v77).toNat)
    case atStart=>exact⟨0,by omega,rfl,HV1,PL,HR1,HB1⟩
    case round=>
     obtain⟨k,hk,rfl,JD,Ii,hRi,hBi⟩:=hrel;obtain⟨wo,rfl⟩:∃wo:World,wo=wr:=⟨_,rfl⟩;clear HR1 HB1 HV1 PL;by_cases hk4:k<4
     ·have hs:=SS ww o vr k;unfold Jx at hs;have wsU:=Ic (m:=ww) (o:=o) wsR k;generalize YQ ww o vr k=vu at JD wsU hs;have r1:=Aj Ih hRi.out (i:=2*k) aM;have r2:=Aj Ih hRi.out (i:=2*k+1) aM;have b1:=HO.out (2*k);have b2:=HO.out (2*k+1);generalize bw o (2*k)=X1 at r1 b1 hs;generalize bw o (2*k+1)=X2 at r2 b2 hs;have m1:=dJ wsW Ii.out b1;have m2:=dJ wsW Ii.out b2;generalize bw ww X1=Y1 at m1 hs;generalize bw ww X2=Y2 at m2 hs;have c1:(X1:Int)<16:=by omega
      have c2:(X2:Int)<16:=by omega
      have hmx:∀(u:World)(gw:Nat),aD u V 297 (bP vu)→aD u gw 187 #[.int .u32 Y1,.int .u32 Y2]→Calls ag 230 #[.int .i64 k,.int .i64 ((4+k:Nat):Int),.int .i64 ((8+k:Nat):Int),.int .i64 ((12+k:Nat):Int),.slice (some ⟨gw,0,none⟩) 2 2,.pointer (some ⟨V,0,none⟩)] u fun r w'=>r=.returned (.tuple #[])∧jY u V (Ib vu k (4+k) (8+k) (12+k) Y1 Y2) w':=fun u gw hv hw=>JA wsU hv hw aM aM aM (by omega)
      rw[←hs]at hmx;generalize hvn:YQ ww o vr (k+1)=vn at hmx;obtain⟨k1,hk1⟩:∃k1,k1=k+1:=⟨_,rfl⟩;rw[←hk1]at hvn;have HK0:af (k1≤4):=ae aM;obtain⟨Hvn,oS⟩:=aI (fun _:Unit=>hvn) (fun _:Unit=>hk1);have eW0:IntKind.i64.wrap 0=0:=rfl;have eW1:IntKind.i64.wrap 1=1:=rfl;have eW2:IntKind.i64.wrap 2=2:=rfl;have eW3:IntKind.i64.wrap 3=3:=rfl;have eW4:IntKind.i64.wrap 4=4:=rfl;have eW5:IntKind.i64.wrap 5=5:=rfl;have eW6:IntKind.i64.wrap 6=6:=rfl;have eW7:IntKind.i64.wrap 7=7:=rfl;have eW8:IntKind.i64.wrap 8=8:=rfl;have eW9:IntKind.i64.wrap 9=9:=rfl;have aeb:IntKind.i64.wrap 10=10:=rfl;have aec:IntKind.i64.wrap 11=11:=rfl;have aed:IntKind.i64.wrap 12=12:=rfl;have aee:IntKind.i64.wrap 13=13:=rfl;have aef:IntKind.i64.wrap 14=14:=rfl;have aeg:IntKind.i64.wrap 15=15:=rfl;have Ij:O≠V:=by have:=hOV.out;omega
      have Ik:M≠V:=by have:=xA.out;omega
      clear hs b1 b2 hvn hk1;rcases(by omega:k=0∨k=1∨k=2∨k=3)with rfl|rfl|rfl|rfl
      all_goals
       simp only[Nat.reduceMul,Nat.reduceAdd]at r1 r2 hmx;have HMx:=ae hmx;clear hmx;go_upto_region 20 with fail
       refine wp_region_held_drew (S:=(fun w'=>w'.cell? ⟨O,_,none⟩=some (.int .u8 X1)∧w'.cell? ⟨O,_,none⟩=some (.int .u8 X2)∧w'.cell? ⟨M,X1,none⟩=some (.int .u32 Y1)∧w'.cell? ⟨M,X2,none⟩=some (.int .u32 Y2))) bg (⟨r1,r2,m1,m2⟩) (fun hHeld=>?_);refine bm 0 ?_
       refine bm 1 ?_
       refine bm 2 ?_
       refine bm 3 ?_
       refine bm 4 ?_
       refine bm 5 ?_
       refine bm 6 ?_
       refine bm 7 ?_
       refine bm 8 ?_
       refine bm 9 ?_
       refine bm 10 ?_
       refine bm 11 ?_
       refine bm 12 ?_
       refine bm 13 ?_
       refine bm 14 ?_
       refine bm 15 ?_
       refine bm 16 ?_
       refine bm 17 ?_
       refine bm 18 ?_
       refine bm 19 ?_
       refine bm 20 ?_
       refine jk 21 fun K hK=>?_;go_simp;refine hK.out _ _ (⟨ak hHeld.1 (boxed _ _),ak hHeld.2.1 (boxed _ _),ak hHeld.2.2.1 (boxed _ _),ak hHeld.2.2.2 (boxed _ _)⟩) (fun hHeld=>?_);clear hK K;try simp only[cq]
       refine jk 22 fun K hK=>?_;go_simp;refine(HMx.out _ _ ?_ ?_).mono ?_
       ·exact(JD.out.alloc _).drew
       ·exact(aD.new wo _ _).drew
       rintro r wa⟨rfl,hma⟩;have DU:=hma.2;refine hK.out _ _ (⟨bu hHeld.1 DU Ij,bu hHeld.2.1 DU Ij,bu hHeld.2.2.1 DU Ik,bu hHeld.2.2.2 DU Ik⟩) (fun hHeld=>?_);clear hK K;try simp only[cq]
       refine qR ?_;obtain⟨Oh,Hh⟩:=aI ((Ii.out.alloc _).drew.keep DU Ik) ((hRi.out.alloc _).drew.keep DU Ij);have gg:=ae ((hBi.out.alloc (Nat.le_of_lt Ii.out.lt) _).drew.trans (DU.below (B:=M) (fun q hq=>by have:=xA.out;omega) (Nat.le_of_lt (Ii.out.alloc _).drew.lt)));have HVa:=ae hma.1;clear hma DU r1 r2 m1 m2 JD Ii hRi hBi hHeld;go_wp2_with fail
       go_roundw
       case rel=>exact⟨k1,HK0.out,by rw[oS.out ()];rfl,ae (by rw[Hvn.out ()];exact HVa.out),Oh,Hh,gg⟩
       case measure=>simp[intOf]
     ·obtain rfl:k=4:=by omega
      have wsX:=Ic (m:=ww) (o:=o) wsR 4;obtain⟨vx,hvx⟩:∃v,v=YQ ww o vr 4:=⟨_,rfl⟩;rw[←hvx]at JD wsX;have HS2:af (∀_:Unit,ku ww o vx 4=jF ww vb (r+1)):=ae (fun _=>by rw[hvx,HS.out ()]);clear hvx HS;go_wp2_with fail
      go_loopw [104] (fun aaG wi=>∃k:Nat,k≤4∧aaG=.int .i64 k∧af (aD wi V 297 (bP (ku ww o vx k)))∧af (aD wi M 297 (bP ww))∧af (aD wi O 301 (bM o))∧af (Below M w wi)) (fun aaG _=>4-(intOf aaG).toNat)
      case atStart=>exact⟨0,by omega,rfl,JD,Ii,hRi,hBi⟩
      case round=>
       obtain⟨k,hk,rfl,JD,Ii,hRi,hBi⟩:=hrel;obtain⟨wo,rfl⟩:∃wo:World,wo=wr:=⟨_,rfl⟩;by_cases hk4:k<4
       ·have hs:=Ae ww o vx k;unfold ot at hs;have wsU:=vM (m:=ww) (o:=o) wsX k;generalize ku ww o vx k=vu at JD wsU hs;have r1:=Aj Ih hRi.out (i:=8+2*k) aM;have r2:=Aj Ih hRi.out (i:=9+2*k) aM;have b1:=HO.out (8+2*k);have b2:=HO.out (9+2*k);generalize bw o (8+2*k)=X1 at r1 b1 hs;generalize bw o (9+2*k)=X2 at r2 b2 hs;have m1:=dJ wsW Ii.out b1;have m2:=dJ wsW Ii.out b2;generalize bw ww X1=Y1 at m1 hs;generalize bw ww X2=Y2 at m2 hs;have c1:(X1:Int)<16:=by omega
        have c2:(X2:Int)<16:=by omega
        have hmx:∀(u:World)(gw:Nat),aD u V 297 (bP vu)→aD u gw 187 #[.int .u32 Y1,.int .u32 Y2]→Calls ag 230 #[.int .i64 k,.int .i64 ((4+(k+1)%4:Nat):Int),.int .i64 ((8+(k+2)%4:Nat):Int),.int .i64 ((12+(k+3)%4:Nat):Int),.slice (some ⟨gw,0,none⟩) 2 2,.pointer (some ⟨V,0,none⟩)] u fun r w'=>r=.returned (.tuple #[])∧jY u V (Ib vu k (4+(k+1)%4) (8+(k+2)%4) (12+(k+3)%4) Y1 Y2) w':=fun u gw hv hw=>JA wsU hv hw aM aM aM (by omega)
        rw[←hs]at hmx;generalize hvn:ku ww o vx (k+1)=vn at hmx;obtain⟨k1,hk1⟩:∃k1,k1=k+1:=⟨_,rfl⟩;rw[←hk1]at hvn;have HK0:af (k1≤4):=ae aM;obtain⟨Hvn,oS⟩:=aI (fun _:Unit=>hvn) (fun _:Unit=>hk1);have eW0:IntKind.i64.wrap 0=0:=rfl;have eW1:IntKind.i64.wrap 1=1:=rfl;have eW2:IntKind.i64.wrap 2=2:=rfl;have eW3:IntKind.i64.wrap 3=3:=rfl;have eW4:IntKind.i64.wrap 4=4:=rfl;have eW5:IntKind.i64.wrap 5=5:=rfl;have eW6:IntKind.i64.wrap 6=6:=rfl;have eW7:IntKind.i64.wrap 7=7:=rfl;have eW8:IntKind.i64.wrap 8=8:=rfl;have eW9:IntKind.i64.wrap 9=9:=rfl;have aeb:IntKind.i64.wrap 10=10:=rfl;have aec:IntKind.i64.wrap 11=11:=rfl;have aed:IntKind.i64.wrap 12=12:=rfl;have aee:IntKind.i64.wrap 13=13:=rfl;have aef:IntKind.i64.wrap 14=14:=rfl;have aeg:IntKind.i64.wrap 15=15:=rfl;have Ij:O≠V:=by have:=hOV.out;omega
        have Ik:M≠V:=by have:=xA.out;omega
        clear hs b1 b2 hvn hk1;rcases(by omega:k=0∨k=1∨k=2∨k=3)with rfl|rfl|rfl|rfl
        all_goals
         simp only[Nat.reduceMul,Nat.reduceAdd,Nat.reduceMod]at r1 r2 hmx;have HMx:=ae hmx;clear hmx;go_upto_region 25 with fail
         refine wp_region_held_drew (S:=(fun w'=>w'.cell? ⟨O,_,none⟩=some (.int .u8 X1)∧w'.cell? ⟨O,_,none⟩=some (.int .u8 X2)∧w'.cell? ⟨M,X1,none⟩=some (.int .u32 Y1)∧w'.cell? ⟨M,X2,none⟩=some (.int .u32 Y2))) bg (⟨r1,r2,m1,m2⟩) (fun hHeld=>?_);refine bm 0 ?_
         refine bm 1 ?_
         refine bm 2 ?_
         refine bm 3 ?_
         refine bm 4 ?_
         refine bm 5 ?_
         refine bm 6 ?_
         refine bm 7 ?_
         refine bm 8 ?_
         refine bm 9 ?_
         refine bm 10 ?_
         refine bm 11 ?_
         refine bm 12 ?_
         refine bm 13 ?_
         refine bm 14 ?_
         refine bm 15 ?_
         refine bm 16 ?_
         refine bm 17 ?_
         refine bm 18 ?_
         refine bm 19 ?_
         refine bm 20 ?_
         refine bm 21 ?_
         refine bm 22 ?_
         refine bm 23 ?_
         refine bm 24 ?_
         refine bm 25 ?_
         refine bm 26 ?_
         refine bm 27 ?_
         refine jk 28 fun K hK=>?_;go_simp;refine hK.out _ _ (⟨ak hHeld.1 (boxed _ _),ak hHeld.2.1 (boxed _ _),ak hHeld.2.2.1 (boxed _ _),ak hHeld.2.2.2 (boxed _ _)⟩) (fun hHeld=>?_);clear hK K;try simp only[cq]
         refine jk 29 fun K hK=>?_;go_simp;refine(HMx.out _ _ ?_ ?_).mono ?_
         ·exact(JD.out.alloc _).drew
         ·exact(aD.new wo _ _).drew
         rintro r wa⟨rfl,hma⟩;have DU:=hma.2;refine hK.out _ _ (⟨bu hHeld.1 DU Ij,bu hHeld.2.1 DU Ij,bu hHeld.2.2.1 DU Ik,bu hHeld.2.2.2 DU Ik⟩) (fun hHeld=>?_);clear hK K;try simp only[cq]
         refine qR ?_;obtain⟨Oh,Hh⟩:=aI ((Ii.out.alloc _).drew.keep DU Ik) ((hRi.out.alloc _).drew.keep DU Ij);have gg:=ae ((hBi.out.alloc (Nat.le_of_lt Ii.out.lt) _).drew.trans (DU.below (B:=M) (fun q hq=>by have:=xA.out;omega) (Nat.le_of_lt (Ii.out.alloc _).drew.lt)));have HVa:=ae hma.1;clear hma DU r1 r2 m1 m2 JD Ii hRi hBi hHeld;go_wp2_with fail
         refine⟨?_,?measure⟩
         (repeat apply Exists.intro)
         refine⟨?rel,rfl⟩
         case rel=>exact⟨k1,HK0.out,by rw[oS.out ()];rfl,ae (by rw[Hvn.out ()];exact HVa.out),Oh,Hh,gg⟩
         case measure=>simp[intOf]
       ·obtain rfl:k=4:=by omega
        go_wp2_with fail
        go_roundw
        case rel=>exact⟨r+1,by omega,by go_num,ae (by rw[←HS2.out ()];exact JD.out),Ii,hBi⟩
        case measure=>simp[intOf];omega
   ·obtain rfl:r=10:=by omega
    clear Ak HOc wsR;obtain⟨vz,hvz⟩:∃v,v=jF ww vb 10:=⟨_,rfl⟩;have wsZ:Ws 16 vz:=by rw[hvz];exact pJ wsB 10
    rw[←hvz]at YS;have hfin:af (∀_:Unit,mq vz h 8=nK h n p last):=ae (fun _=>by unfold nK;rw[hvz,Hvb.out,HWW.out ()]);clear hvz Hvb HWW wsB;have HG0:af (fc wo g (mq vz h 0) sz rv n):=ae (aD.below (g:=g) HG.out (by rw[HMe.out];exact hBr.out) (aD.lt HG.out));go_wp2_with fail
    go_loopw [139] (fun v139 wi=>∃i:Nat,i≤8∧v139=.int .i64 i∧af (fc wi g (mq vz h i) sz rv n)∧af (aD wi V 297 (bP vz))∧af (∃u,Below M w u∧M≤u.heap.size∧Keeps (fun k=>k=g) u wi)) (fun v139 _=>8-(intOf v139).toNat)
    case atStart=>exact⟨0,by omega,rfl,HG0,YS,ae ⟨_,hBr.out,Nat.le_of_lt hMr.out.lt,Keeps.refl _ _⟩⟩
    case round=>
     obtain⟨i,hi,rfl,hGi,JD,hUi⟩:=hrel;obtain⟨wo,rfl⟩:∃wo:World,wo=wr:=⟨_,rfl⟩;clear HG0 YS hMr hBr;have wsH:=yq wsZ hh i;by_cases hi8:i<8
     ·have hs:=DK vz h i;unfold Jy at hs;generalize mq vz h i=hc at hGi wsH hs;have c0:=hGi.out.word wsH hi8;have c1:=dJ wsZ JD.out (i:=i) aM;have c2:=dJ wsZ JD.out (i:=8+i) aM;have f0:=aD.frozen (g:=g) hGi.out i;have l0:=wsH.at_ i;have l1:=wsZ.at_ i;have l2:=wsZ.at_ (8+i);have e1:=DT l1 l2;have e2:=DT l0 (js l1 l2);have hput:fc (wo.setCell ⟨g,i,none⟩ (.int .u32 (fY (bw hc i) (fY (bw vz i) (bw vz (8+i))):Int))) g (hc.set i (fY (bw hc i) (fY (bw vz i) (bw vz (8+i))))) sz rv n:=by
       unfold fc;rw[←JB wsH hi8];exact aD.aN hGi.out i _
      rw[←hs]at hput;generalize hhn:mq vz h (i+1)=hn1 at hput;have Hhn:=ae (fun _:Unit=>hhn);generalize fY (bw hc i) (fY (bw vz i) (bw vz (8+i)))=X3 at e2 hput;generalize fY (bw vz i) (bw vz (8+i))=X4 at e1 e2;generalize bw hc i=X0 at c0 e2;generalize bw vz i=X1 at c1 e1;generalize bw vz (8+i)=X2 at c2 e1;have ED:=ae hput;clear hs hhn hput l0 l1 l2;have z1:(i:Int)<16:=by omega
      obtain⟨j,hj⟩:∃j,j=8+i:=⟨_,rfl⟩;rw[←hj]at c2;have z3:8+(i:Int)=(j:Int):=by omega
      have z4:(j:Int)<16:=by omega
      have z5:IntKind.i64.wrap (j:Int)=(j:Int):=by rw[IntKind.wrap_i64];omega
      clear hj;have HMg:af (V≠g):=ae (by have:=xA.out;omega);go_upto_region 31 with fail
      refine wp_region_still_tail 18 bg bg ?_;simp only[aeB,IM,aeD,aeC]
      repeat still_step
      refine wpStill_nil ?_;change wpList _ _ _ _ _ wo.drew;go_wp2_with fail
      refine⟨?_,?measure⟩
      (repeat apply Exists.intro)
      refine⟨?rel,rfl⟩
      case rel=>
       refine⟨i+1,by omega,by go_num,ae (by rw[Hhn.out ()];exact aD.drew ED.out),ae (aD.drew (aD.far JD.out (p:=⟨g,i,none⟩) HMg.out _)),ae ?_⟩;obtain⟨u,u1,u2,u3⟩:=hUi.out;exact⟨u,u1,u2,(u3.setCell (p:=⟨g,i,none⟩) (Or.inl rfl) _).drew⟩
      case measure=>simp[intOf];omega
     ·obtain rfl:i=8:=by omega
      go_wp2_with fail
      go_end0
      have hG:=hGi.out;rw[hfin.out ()]at hG;refine⟨rfl,hG,?_⟩;obtain⟨u,u1,u2,u3⟩:=hUi.out;exact(Keeps.of_below (by rw[HMe.out];exact u1) fun k hk _=>hk).trans u3
def Am:List Nat:=fK.set 0 1795745351
theorem Td(w:World):Calls ag 154 #[.int .i64 32,.string ⟨#[]⟩] w fun r w'=>(∃g,w.heap.size≤g∧r=.returned (.tuple #[.pointer (some ⟨g,0,none⟩),.int .i64 0])∧fc w' g Am 32 (.slice none 0 0) 0)∧Below w.heap.size w w':=by
 have hF:=first_any;go_enter Tryz.func154,Tryz.ntmps154;go_upto_region 4 with(go_at_call 187;(with_reducible refine(hF _).mono ?_);rintro r w1⟨rfl,d1⟩)
 have h1:fc (w1.alloc (.cells #[.int .u32 1779033703,.int .u32 3144134277,.int .u32 1013904242,.int .u32 2773480762,.int .u32 1359893119,.int .u32 2600822924,.int .u32 528734635,.int .u32 1541459225,.int .i64 32,.slice none 0 0,.int .u64 0] 263)) w1.heap.size fK 32 (.slice none 0 0) 0:=aD.new w1 _ _;have b1:=after d1 (boxed w1 (.cells #[.int .u32 1779033703,.int .u32 3144134277,.int .u32 1013904242,.int .u32 2773480762,.int .u32 1359893119,.int .u32 2600822924,.int .u32 528734635,.int .u32 1541459225,.int .i64 32,.slice none 0 0,.int .u64 0] 263));have hle:w.heap.size≤w1.heap.size:=d1.size;clear d1;generalize w1.alloc (.cells #[.int .u32 1779033703,.int .u32 3144134277,.int .u32 1013904242,.int .u32 2773480762,.int .u32 1359893119,.int .u32 2600822924,.int .u32 528734635,.int .u32 1541459225,.int .i64 32,.slice none 0 0,.int .u64 0] 263)=w2 at h1 b1⊢;generalize w1.heap.size=g at h1 hle⊢;have c0:=fc.word (i:=0) h1 jJ aF;rw[show bw fK 0=1779033703 from rfl]at c0;have f0:=aD.frozen (g:=g) h1 0;have h2:fc (w2.setCell ⟨g,0,none⟩ (.int .u32 1795745351)).drew g Am 32 (.slice none 0 0) 0:=by
  unfold fc Am;rw[←JB jJ aF];exact(aD.aN h1 0 _).drew
 have b2:=(b1.setCell (p:=⟨g,0,none⟩) hle (.int .u32 1795745351)).drew;obtain⟨H1,H2,B2⟩:=bj h1 h2 b2;have e0:bits .xor .u32 16842752 0=16842752:=by decide
 have e1:bits .xor .u32 16842752 32=16842784:=by decide
 have e2:bits .xor .u32 1779033703 16842784=1795745351:=by decide
 clear h1 h2 b1 b2 hF;refine wp_region_still_tail 17 bg bg ?_;simp only[aeB,IM,aeD,aeC]
 repeat still_step
 refine wpStill_nil ?_;change wpList _ _ _ _ _ w2.drew;go_wp2_with fail
 go_ret2;exact⟨⟨g,hle,rfl,H2.out⟩,B2.out⟩
def WW(l:List Nat):List Value:=l.map fun x:Nat=>afa .u8 (x:Int)
def Nz(lo:Nat)(w:World)(g:Nat)(b:Bl):Prop:=∃rv,fc w g b.h 32 rv b.n∧w.ownsRow lo 5 1 rv b.rest.length (WW b.rest)
theorem NC{w:World}{lo g n cap:Nat}{e:TypeId}{size:Nat}{xs:List Value}(h:w.ownsRow lo e size (.slice (some ⟨g,0,none⟩) n cap) n xs):w.ownsRow lo e size (.slice (some ⟨g,0,none⟩) 0 cap) 0 []:=by
 refine⟨by simp,Or.inr ?_⟩;rcases h.2 with⟨hv,_⟩|⟨g',cap',cur,hv,hb,hg,hn,hc,hs,_⟩
 ·cases hv
 ·injection hv with h1 h2 h3
  injection h1 with h1
  injection h1 with h1
  subst h1;subst h3;exact⟨g,cap,cur,rfl,hb,hg,Nat.zero_le _,hc,hs,by simp⟩
theorem Bl.yu(b:Bl)(l:List Nat)(c:Nat):b.adds (l++[c])=(b.adds l).add c:=by
 unfold Bl.adds;rw[List.foldl_append];rfl
theorem rR{w:World}{lo g cap:Nat}{l:List Nat}(h:w.ownsRow lo 5 1 (.slice (some ⟨g,0,none⟩) l.length cap) l.length (WW l)){i:Nat}(hi:i<l.length):w.cell? ⟨g,i,none⟩=some (.int .u8 (bw l i:Int)):=by
 rcases h.2 with⟨hv,_⟩|⟨g',cap',cur,hv,hb,hg,hn,hc,hs,ht⟩
 ·cases hv
 ·injection hv with h1 h2 h3
  injection h1 with h1
  injection h1 with h1
  subst h1;rw[Nat.mul_one]at ht;have h2:(cur.toList.take l.length)[i]? =(WW l)[i]? :=by rw[ht]
  rw[List.getElem?_take,if_pos hi]at h2;unfold World.cell?;simp only[hg];rw[←ae9,h2];unfold WW bw;rw[bA,ay,ah hi];rfl
theorem pK{w:World}{lo n size:Nat}{e:TypeId}{v:Value}{xs:List Value}(h:w.ownsRow lo e size v n xs):∃A c,v=.slice A n c:=by
 rcases h.2 with⟨hv,hn⟩|⟨g,cap,cur,hv,_⟩
 ·exact⟨none,0,by rw[hv,hn]⟩
 ·exact⟨_,_,hv⟩
theorem yw{w:World}{lo n size:Nat}{e:TypeId}{A:Option Addr}{c:Nat}{xs:List Value}(h:w.ownsRow lo e size (.slice A n c) n xs)(hn:n≠0):∃q,A=some ⟨q,0,none⟩:=by
 rcases h.2 with⟨_,h0⟩|⟨g,cap,cur,hv,_⟩
 ·exact absurd h0 hn
 ·injection hv with h1
  exact⟨g,h1⟩
theorem DV{h:List Nat}(hh:Ws 8 h){sz n:Nat}{rv v:Value}(i:Nat):(hsL h sz rv n).toArray.setIfInBounds (8+i) v=((h.map fun x:Nat=>afa .u32 x)++[afa .i64 sz,rv,.int .u64 n].set i v).toArray:=by
 unfold hsL;rw[List.setIfInBounds_toArray,List.set_append_right _ _ (by rw[ax,hh.len];omega),ax,hh.len,Nat.add_sub_cancel_left]
section
variable{w w':World}{g sz n:Nat}{h:List Nat}{rv:Value}
theorem fc.Tf(hg:fc w g h sz rv n)(hh:Ws 8 h)(m:Nat):fc (w.setCell ⟨g,10,none⟩ (.int .u64 m)) g h sz rv m:=by
 have:=aD.aN (g:=g) hg 10 (.int .u64 m);rw[DV hh 2]at this;exact this
theorem fc.JE(hg:fc w g h sz rv n)(hh:Ws 8 h)(v:Value):fc (w.setCell ⟨g,9,none⟩ v) g h sz v n:=by
 have:=aD.aN (g:=g) hg 9 v;rw[DV hh 1]at this;exact this
theorem gK{lo size m:Nat}{e:TypeId}{v:Value}{xs:List Value}(hw:w.ownsRow lo e size v m xs)(hk:∀q,v.ownBlock=some q→w'.heap[q]? =w.heap[q]?):w'.ownsRow lo e size v m xs:=by
 refine⟨hw.1,?_⟩;rcases hw.2 with h0|⟨q,cap,cur,hv,hb,hg,rest⟩
 ·exact Or.inl h0
 ·exact Or.inr ⟨q,cap,cur,hv,hb,by rw[hk q (by rw[hv];rfl)];exact hg,rest⟩
theorem tY{lo size m q:Nat}{v:Value}{xs:List Value}(hw:w.ownsRow lo 5 size v m xs)(hg:fc w g h sz rv n)(hq:v.ownBlock=some q):q≠g:=by
 rcases hw.2 with⟨hv,_⟩|⟨q',cap,cur,hv,hb,hq',_⟩
 ·rw[hv]at hq;cases hq
 ·rw[hv]at hq;injection hq with hq
  subst hq;exact aD.wH hq' hg (by decide)
end
theorem ov(w:World)(g k i:Nat)(v:Value)(h:k≠g):(w.setCell ⟨g,i,none⟩ v).heap[k]? =w.heap[k]? :=by
 have:=((Keeps.refl (fun q=>q=g) w).setCell (p:=⟨g,i,none⟩) (Or.inl rfl) v);rcases Nat.lt_or_ge k w.heap.size with hl|hl
 ·exact this.block k hl h
 ·rw[afh hl,afh (by simpa using hl)]
theorem An{w:World}{lo size m q:Nat}{e:TypeId}{v:Value}{xs:List Value}(hw:w.ownsRow lo e size v m xs)(hq:v.ownBlock=some q):q<w.heap.size:=by
 rcases hw.2 with⟨hv,_⟩|⟨q',cap,cur,hv,hb,hq',_⟩
 ·rw[hv]at hq;cases hq
 ·rw[hv]at hq;injection hq with hq
  subst hq;exact(Array.getElem?_eq_some_iff.1 hq').1
theorem Ti(l:List Nat)(x:Nat):WW (l++[x])=WW l++[.int .u8 x]:=by unfold WW;rw[cA];rfl
theorem jG{P:Program}{w:World}{ops:Array Oper}{o:Oper}{a:Act}{K:Act→World→Prop}{Q:Exit→Act→World→Prop}{E:Prop}(hgd:o.guard=none)(s x:Operand)(t u:TypeId)(ho:o.op=.call {callee:=.builtin .append,args:= #[s,x],argTypes:= #[t,u]}){v y v':Value}{w':World}(hs:a.eval s=v)(hx:a.eval x=y)(hr:(Builtin.append_ #[t,u] o.type #[v,y]).run P w=.ok v' w')(h:K (a.put o.dst v') w'):if Region.wanted o (yielded ops a.tmps)=true then Oper.wp P o a w K Q else E:=by
 have hw:Region.wanted o (yielded ops a.tmps)=true:=by simp[Region.wanted,hgd]
 rw[if_pos hw];unfold Oper.wp execOp;simp only[ho,resolve,invoke,builtin,afq,Sem.run_pure,mD,List.map_toArray,List.map_cons,List.map_nil,hs,hx,hr];exact h
theorem WX:(ag.info? 5).map (fun i=>(i.zero,i.size,i.bytes))=some (some (.int .u8 0),1,1):=by kernel_rfl
theorem Tj{w:World}(ord:fh w){g lo:Nat}{b:Bl}(ok:b.Ok)(s:ByteArray)(hs:s.size≤16777216)(hn:b.n+b.rest.length≤16777216)(hlo:lo≤g)(IZ:lo≤w.heap.size)(hol:0<lo)(hb:Nz lo w g b):Calls ag 155 #[.pointer (some ⟨g,0,none⟩),.string s] w fun r w'=>r=.returned (.int .i64 0)∧Nz lo w' g (b.adds (s.data.toList.map UInt8.toNat))∧Below lo w w':=by
 obtain⟨HB,ND,Ak⟩:=bj hb ok ord;obtain⟨rv0,a1,a2⟩:=hb;have c8:=a1.size ok.h;clear a1 a2 ok ord;go_enter Tryz.func155,Tryz.ntmps155;go_wp2_with fail
 clear c8;generalize hl:s.data.toList.map UInt8.toNat=l;have hll:l.length=s.size:=by rw[←hl,ax];rfl
 obtain⟨HL,HLl⟩:=aI hl hll;clear hl hll;go_loopw [17] (fun v17 wr=>∃k:Nat,k≤s.size∧v17=.int .i64 k∧af (Nz lo wr g (b.adds (l.take k)))∧af (Below lo w wr)∧af (lo≤wr.heap.size)) (fun v17 _=>s.size-(intOf v17).toNat)
 case atStart=>exact⟨0,by omega,rfl,ae (by rw[IM];exact HB.out),ae (Below.refl _ _),ae IZ⟩
 case round=>
  obtain⟨k,hk,rfl,YR,hBw,hSz⟩:=hrel;obtain⟨wo,rfl⟩:∃wo:World,wo=wr:=⟨_,rfl⟩;clear HB;by_cases hlt:k<s.size
  ·have hok:(b.adds (l.take k)).Ok:=Bl.Jz (fun x hx=>by
    have hx:=List.mem_of_mem_take hx;rw[←HL.out]at hx;obtain⟨y,_,rfl⟩:=List.mem_map.1 hx;exact y.toNat_lt) ND.out
   have hcount:=Bl.SY (l.take k) b;rw[List.length_take,HLl.out,Nat.min_eq_left hk]at hcount;have hstep:af (∀_:Unit,b.adds (l.take (k+1))=(b.adds (l.take k)).add (bw l k)):=ae (fun _=>by
    rw[←Bl.yu];congr 1;have hk':k<l.length:=by rw[HLl.out];exact hlt
    rw[List.take_add_one,ah hk'];unfold bw;rw[ay,ah hk'];rfl)
   generalize b.adds (l.take k)=bk at YR hok hcount hstep;have adt:bk.n+bk.rest.length≤33554432:=by omega
   have DW:=ae hok;clear hcount hok;obtain⟨rv,h1,h2⟩:=YR.out;obtain⟨A,cp,hrv⟩:=pK h2;subst hrv;have c9:=h1.rest DW.out.h;obtain⟨H1,H2⟩:=aI h1 h2;clear h1 h2 YR;have e64:((bk.rest.length:Int)==64)=decide (bk.rest.length=64):=by rw[Bool.eq_iff_iff];simp;omega
   go_upto_if 25 with fail
   go_cut []from 18 (fun wc=>af (∃A c h' rest' n',fc wc g h' 32 (.slice A rest'.length c) n'∧wc.ownsRow lo 5 1 (.slice A rest'.length c) rest'.length (WW rest')∧Ws 8 h'∧rest'.length≤63∧∀x,bk.add x=⟨h',rest'++[x],n'⟩)∧af (Below lo w wc)∧af (lo≤wc.heap.size))
   case first=>
    by_cases h64:bk.rest.length=64
    ·obtain⟨q,hq⟩:=yw H2.out aM;subst hq;have hqg:=tY H2.out H1.out (q:=q) rfl;have c10:=H1.out.num DW.out.h;have f9:=aD.frozen (g:=g) H1.out 9;have f10:=aD.frozen (g:=g) H1.out 10;obtain⟨m,hm⟩:∃m,m=bk.n+64:=⟨_,rfl⟩;have e10:IntKind.u64.wrap ((bk.n:Int)+64)=(m:Int):=by rw[IntKind.wrap_u64];omega
     have h1:=H1.out.Tf DW.out.h m;have h2:=gK H2.out (w':=wo.setCell ⟨g,10,none⟩ (.int .u64 m)) (fun q' hq'=>by injection hq' with hq';subst hq';exact ov _ _ _ _ _ hqg);have b1:=hBw.out.setCell (p:=⟨g,10,none⟩) hlo (.int .u64 m);rw[h64]at c9 h1;have hp:=fun i(hi:i<64)=>rR h2 (i:=i) (by rw[h64];exact hi)
     have hpb:∀i,bw bk.rest i<256:=fun i=>by
      unfold bw;rw[ay];rcases hi:bk.rest[i]? with _|x
      ·simp
      ·exact DW.out.byte x (oK hi)
     have ht:=yt (Ak.out.below b1 hol) DW.out.h h1 aM (cap:=cp) hp hpb hqg aM false;obtain⟨H3,H4,B1,HT⟩:=cH h1 h2 b1 ht;have acH:af (lo≤(wo.setCell ⟨g,10,none⟩ (.int .u64 m)).heap.size):=ae (au IZ b1.size);have HM:=ae hm;clear h1 h2 b1 ht hp hpb hm;go_upto_region 9 with(go_at_call 188;(with_reducible refine HT.out.mono ?_);rintro r w3⟨rfl,h5,k5⟩)
     clear c9 c10 f9 f10 e10 HT;have wp:=rN DW.out.h m bk.rest false;have c9:=h5.rest wp;have f9:=aD.frozen (g:=g) h5 9;have h6:=h5.JE wp (.slice (some ⟨q,0,none⟩) 0 cp);have ql:q<(wo.setCell ⟨g,10,none⟩ (.int .u64 m)).heap.size:=aj _ _ (rR H4.out (i:=0) aM);have o3:=NC (gK H4.out (fun q' hq'=>by injection hq' with hq';subst hq';exact k5.block _ ql hqg));have o4:=gK o3 (w':=w3.setCell ⟨g,9,none⟩ (.slice (some ⟨q,0,none⟩) 0 cp)) (fun q' hq'=>by injection hq' with hq';subst hq';exact ov _ _ _ _ _ hqg);have b6:=(B1.out.trans (k5.below (B:=lo) (fun q hq=>by rw[hq];exact hlo) acH.out)).setCell (p:=⟨g,9,none⟩) hlo (.slice (some ⟨q,0,none⟩) 0 cp);obtain⟨H6,O4,B6,WP⟩:=cH h6 o4 b6 wp;clear h5 k5 h6 o3 o4 b6 H4 H3 B1 acH wp;go_wp2_with fail
     go_meet
     case rel=>exact⟨ae ⟨some ⟨q,0,none⟩,cp,_,[],m,H6.out,O4.out,WP.out,Nat.zero_le _,fun x=>by unfold Bl.add;rw[if_pos h64,HM.out];rfl⟩,ae B6.out,ae (au IZ B6.out.size)⟩
    ·go_wp2_with fail
     go_meet
     case rel=>exact⟨ae ⟨A,cp,bk.h,bk.rest,bk.n,H1.out,H2.out,DW.out.h,by have:=DW.out.rest;omega,fun x=>by unfold Bl.add;rw[if_neg h64]⟩,hBw,hSz⟩
   case rest=>
    obtain⟨hX,hBw,hSz⟩:=hcut;obtain⟨A,cp,h',rest',n',h1,h2,wh,hr,hadd⟩:=hX.out;clear c9 H1 H2 hX;have hkl:k<s.size:=hlt;have hkd:k<s.data.size:=hlt;have hck:af (∀_:Unit,bw l k=(s[k]'hkl).toNat):=ae (fun _=>by
     rw[←HL.out];unfold bw;rw[ay,bA,ae9,Array.getElem?_eq_getElem hkd];rfl)
    have c9:=h1.rest wh;have z1:(k:Int)<(s.size:Int):=by omega
    have hgl:g<wc.heap.size:=aD.lt (g:=g) h1;obtain⟨i0,kO,hz0,hz1,hz2⟩:=info_parts WX;have hz:wc.heap.size≠g:=by omega
    have c9':=ak c9 (boxed wc (.cells ([.int .u8 ((s[k]'hkl).toNat:Int)]:List Value).toArray 5)).drew;obtain⟨v',w',hr',o2,gr,_⟩:=run_append_own (P:=ag) (w:=(wc.alloc (.cells ([.int .u8 ((s[k]'hkl).toNat:Int)]:List Value).toArray 5)).drew) lo 67 67 5 i0 (.int .u8 0) 1 1 Tryz.underlying67 kO hz0 hz1 hz2 rfl aF (.slice A rest'.length cp) rest'.length (WW rest') (gK h2 (fun q hq=>heap_alloc_old wc _ (An h2 hq))) ⟨wc.heap.size,0,none⟩ 1 1 [.int .u8 ((s[k]'hkl).toNat:Int)] rfl (cz wc _ 5) (by intro u hu;rw[List.mem_singleton.1 hu];rfl) (by show rest'.length+1≤9223372036854775807;omega) aM (au hSz.out (by show wc.heap.size≤(wc.alloc _).heap.size;simp));obtain⟨A2,c2,hv2⟩:=pK o2;subst hv2;obtain⟨HR,HO2,DI⟩:=bj hr' o2 gr;have hw':fc w' g h' 32 (.slice A rest'.length cp) n':=aD.keep (g:=g) (aD.drew (aD.alloc (g:=g) h1 _)) (Keeps.row gr) (fun hq=>tY h2 h1 hq rfl);have c9a:=hw'.rest wh;have f9:=aD.frozen (g:=g) hw' 9;have hb':=(hBw.out.alloc hSz.out (.cells ([.int .u8 ((s[k]'hkl).toNat:Int)]:List Value).toArray 5)).drew.trans ((Keeps.row gr).below (B:=lo) (fun q hq=>by
     rcases h2.2 with⟨hv,_⟩|⟨q',cap,cur,hv,hb,_⟩
     ·rw[hv]at hq;cases hq
     ·rw[hv]at hq;injection hq with hq;subst hq;exact hb) (au hSz.out (by show wc.heap.size≤(wc.alloc _).heap.size;simp)))
    obtain⟨HW,V6⟩:=aI hw' hb';clear hw' hb';obtain⟨H1,H2⟩:=aI h1 h2;clear h1 h2 hr' o2 gr;go_upto_region 10 with fail
    refine dt 12 (fun u=>u.cell? ⟨g,9,none⟩=some (.slice A rest'.length cp)) bg (c9) (fun hHeld=>?_);refine dm 0 ?_
    refine dm 1 ?_
    refine dm 2 ?_
    refine dm 3 ?_
    refine dm 4 ?_
    refine dm 5 ?_
    refine dm 6 ?_
    refine dm 7 ?_
    refine lI 8 fun K hK=>?_;go_simp;refine hK.out _ _ (fun _=>c9') (fun hHeld=>?_);have hHeld:=hHeld aF;clear hK K;try simp only[cq]
    refine lI 9 fun K hK=>?_;refine jG rfl _ _ 67 67 rfl rfl rfl HR.out ?_;refine hK.out _ _ (fun _=>c9a) (fun hHeld=>?_);have hHeld:=hHeld aF;clear hK K;try simp only[cq]
    refine lI 10 fun K hK=>?_;go_simp;refine hK.out _ _ (fun _=>hHeld) (fun hHeld=>?_);have hHeld:=hHeld aF;clear hK K;try simp only[cq]
    refine dm 11 ?_
    refine lI 12 fun K hK=>?_;go_simp;refine hK.out _ _ (fun h=>absurd rfl h) (fun _=>?_);clear hK K hHeld;try simp only[cq]
    refine J9 ?_;have g1:=HW.out.JE wh (.slice A2 (rest'.length+1) c2);have g2:=gK HO2.out (w':=w'.setCell ⟨g,9,none⟩ (.slice A2 (rest'.length+1) c2)) (fun q hq=>ov _ _ _ _ _ (tY HO2.out HW.out hq));have g3:=V6.out.setCell (p:=⟨g,9,none⟩) hlo (.slice A2 (rest'.length+1) c2);rw[←hck.out ()]at g2;have hfin:Nz lo (w'.setCell ⟨g,9,none⟩ (.slice A2 (rest'.length+1) c2)) g (b.adds (l.take (k+1))):=by
     rw[hstep.out (),hadd];refine⟨_,g1,?_⟩;simp only[Ti,List.length_append,List.length_singleton];exact g2
    obtain⟨G2,G3⟩:=aI hfin g3;clear g1 g2 g3 hfin;go_wp2_with fail
    go_roundw
    case rel=>exact⟨k+1,by omega,by go_num,G2,G3,ae (au IZ G3.out.size)⟩
    case measure=>simp[intOf];omega
  ·obtain rfl:k=s.size:=by omega
   go_wp2_with fail
   go_ret;refine⟨rfl,?_,hBw.out⟩;rw[HL.out];have h:=YR.out;rw[←HLl.out,List.take_length]at h;exact h
end Go.Proofs.YteflnojjjdkgmaaGreatDoor
