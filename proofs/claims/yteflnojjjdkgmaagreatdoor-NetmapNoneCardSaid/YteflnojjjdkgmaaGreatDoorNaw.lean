/- Joined out of: BhF BhG EqA EqB. -/
import Derived.Test.YteflnojjjdkgmaaGreatDoorNav
set_option linter.unusedVariables false
set_option linter.unusedSimpArgs false
set_option maxHeartbeats 16000000
set_option maxRecDepth 100000
open Bool renaming and_eq_true→aV,true_and→bH,eq_iff_iff→ix,false_and→IL
open Go.IntKind renaming wrap_u64→ej
open Go.Lib renaming hid→ae
open Go.Proofs.Tryz renaming prog→ag,underlying9→aZ,underlying5→bV,underlying67→cn
open Go.RowKit renaming Hid→af
open Go.RowKit.Below renaming refl→aG
open List renaming getElem?_eq_getElem→ah,length_append→ai,length_map→ax,getD_eq_getElem?_getD→ay,range→aA,take_succ_eq_append_getElem→aC,replicate→aH,take_of_length_le→aT,getElem?_map→bA,map_append→cA,length_replicate→j5,getElem?_toArray→sc,take_zero→IM,size_toArray→Yk
open Nat renaming zero_le→bD,add_zero→dq,add_assoc→aff
open UInt8 renaming ofNat→afn
namespace Go.Proofs.YteflnojjjdkgmaaGreatDoor
open Go.RowKit
attribute [local go_sem↓] Go.wp_at_zero Go.wp_at_succ
def yx:Array Value:=(hsL (aH 8 0) 0 (.slice none 0 0) 0).toArray
theorem vQ(w:World):(Instr.alloc 263 true (.tuple #[])).run ag w=.ok (.pointer (some ⟨w.heap.size,0,none⟩)) (w.alloc (.cells yx 263)):=by
 kernel_rfl
theorem qI{ops:Array Oper}{rest:List Oper}{o:Oper}{a:Act}{w:World}{Q:Exit→Act→World→Prop}(hgd:o.guard=none)(ho:o.op=.alloc 263)(h:wpList ag ops Q rest (a.put o.dst (.pointer (some ⟨w.heap.size,0,none⟩))) (w.alloc (.cells yx 263))):wpList ag ops Q (o::rest) a w:=wpList_plain hgd fun _ hK=>by
 unfold Oper.wp execOp;simp only[ho,Sem.run_bind,vQ,Result.andThen_ok];exact hK _ _ h
theorem yy:(ag.info? 263).map (·.size)=some 11:=by kernel_rfl
theorem vR{h:List Nat}(hh:Ws 8 h)(sz n:Nat)(rv:Value):(hsL h sz rv n).toArray.size=11:=by
 unfold hsL;rw[Yk,ai,ax,hh.len];rfl
theorem WY(h:List Nat)(sz n:Nat)(A:Option Addr)(m c:Nat):(hsL h sz (.slice A m c) n).toArray.all (·.oneCell')=true:=by
 unfold hsL;rw[List.all_toArray,List.all_append,List.all_map];simp only[aV];exact⟨List.all_eq_true.2 fun _ _=>rfl,rfl⟩
def outW(L:List Nat)(k:Nat):List Nat:=(aA k).foldl (fun v i=>v.set i (jA L i)) (aH 32 0)
theorem rS(L:List Nat)(k:Nat):outW L (k+1)=(outW L k).set k (jA L k):=iQ (fun v i=>v.set i (jA L i)) _ k
theorem Tm(L:List Nat)(k:Nat):(outW L k).length=32:=by
 induction k with
 |zero=>exact j5
 |succ k ih=>rw[rS,List.length_set,ih]
theorem WZ(L:List Nat)(k:Nat)(hk:k≤32):outW L k=(aA k).map (jA L)++aH (32-k) 0:=by
 induction k with
 |zero=>rfl
 |succ k ih=>
  rw[rS,ih aM,List.range_succ,cA,List.set_append_right _ _ (by rw[ax,List.length_range];omega),ax,List.length_range,Nat.sub_self,show 32-k=(32-(k+1))+1 by omega,List.replicate_succ,List.append_assoc];rfl
theorem W3:(ag.info? 5).map (·.size)=some 1:=by kernel_rfl
theorem aaH{w:World}{V g dL dC sL sC:Nat}{t ty:TypeId}{v u:List Nat}(hV:aD w V t (bM v))(ho:u.length≤v.length)(hsrc:∀j,j<u.length→w.cell? ⟨g,j,none⟩=some (.int .u8 (bw u j:Int)))(hn:u.length=Nat.min sL dL):∃w',(Builtin.copy_ #[67,67] ty #[.slice (some ⟨V,0,none⟩) dL dC,.slice (some ⟨g,0,none⟩) sL sC]).run ag w=.ok (goInt u.length) w'∧aD w' V t (bM (u++v.drop u.length))∧Keeps (fun k=>k=V) w w':=by
 have h:=run_copy_row (P:=ag) w 67 67 ty 5 V 0 dL dC ⟨g,0,none⟩ sL sC (bM v) t (u.map fun x:Nat=>Value.int .u8 x) cn W3 hV (by rw[ax];exact hn) (fun j x hx=>by
  rw[JC];have hj:j<u.length:=by
   have:=(List.getElem?_eq_some_iff.1 hx).1;rwa [ax]at this
  rw[bA,ah hj]at hx;injection hx with hx
  subst hx;rw[hsrc j hj];unfold bw;rw[ay,ah hj];rfl) (by rw[ax];unfold bM;rw[Yk,ax,Nat.zero_add];exact ho) (fun x hx=>by
  obtain⟨n,_,rfl⟩:=List.mem_map.1 hx;rfl)
 rw[ax]at h;refine⟨_,h,?_,⟨rfl,rfl,rfl,by rw[setRow_size];exact Nat.le_refl _,fun k _ hk=>setRow_other w V k _ hk⟩⟩;have e:((bM v).toList.take 0++(u.map fun x:Nat=>Value.int .u8 x)++(bM v).toList.drop (0+u.length)).toArray=bM (u++v.drop u.length):=by
  unfold bM;rw[cA,List.map_drop,IM,List.nil_append,Nat.zero_add]
 rw[e];exact setRow_heap w V _ _ t (0,0) hV
theorem Tn{w:World}(ord:fh w){g lo:Nat}{b:Bl}(ok:b.Ok)(hn:b.n+b.rest.length≤33554432)(hne:0<b.rest.length)(hb:Nz lo w g b):Calls ag 156 #[.pointer (some ⟨g,0,none⟩)] w (Got (.string ⟨(b.sum.map afn).toArray⟩) w):=by
 obtain⟨rv,h1,h2⟩:=hb;obtain⟨A,cp,hrv⟩:=pK h2;subst hrv;have c8:=h1.size ok.h;obtain⟨H1,H2,ND,Ak⟩:=cH h1 h2 ok ord;clear h1 h2 ok ord;go_enter Tryz.func156,Tryz.ntmps156;go_upto_region 3 with fail
 refine wp_region_lit ?_
 iterate 6 go_step
 refine wpList_load_row rfl _ _ rfl g rfl _ _ (0,0) _ H1.out Tryz.underlying263 rfl (by rw[vR ND.out.h];exact yy) ?_;refine qI rfl rfl ?_;refine wpList_store_row rfl _ _ _ rfl w.heap.size _ rfl rfl 263 yx (heap_alloc_new w _) (by rw[vR ND.out.h];exact yy) (by rw[vR ND.out.h];rfl) (WY _ _ _ _ _ _) ?_;have hC:af (fc ((w.alloc (.cells yx 263)).setRow w.heap.size (hsL b.h 32 (.slice A b.rest.length cp) b.n).toArray) w.heap.size b.h 32 (.slice A b.rest.length cp) b.n):=ae (setRow_heap _ _ _ _ _ (0,0) (heap_alloc_new w _));have hBl:af (Below w.heap.size w ((w.alloc (.cells yx 263)).setRow w.heap.size (hsL b.h 32 (.slice A b.rest.length cp) b.n).toArray)):=ae ⟨rfl,rfl,rfl,by rw[setRow_size];simp,fun k hk=>by rw[setRow_other _ _ _ _ aM];exact heap_alloc_old w _ hk⟩;have H2b:=ae (gK H2.out (fun q hq=>hBl.out.block q (An H2.out hq)));clear c8 H2;generalize(w.alloc (.cells yx 263)).setRow w.heap.size (hsL b.h 32 (.slice A b.rest.length cp) b.n).toArray=w1 at hC hBl H2b⊢;generalize hCe:w.heap.size=C at hC hBl⊢;have HCe:=ae hCe;clear hCe;have c9:=hC.out.rest ND.out.h;have c10:=hC.out.num ND.out.h;have f10:=aD.frozen (g:=C) hC.out 10;obtain⟨m,hm⟩:∃m,m=b.n+b.rest.length:=⟨_,rfl⟩;have e0:IntKind.u64.wrap (b.rest.length:Int)=(b.rest.length:Int):=by rw[ej];omega
 have e1:IntKind.u64.wrap ((b.n:Int)+(b.rest.length:Int))=(m:Int):=by rw[ej];omega
 obtain⟨h3,HM⟩:=aI (hC.out.Tf ND.out.h m) hm;clear hm;go_upto_region 5 with fail
 obtain⟨W8,HR2⟩:=aI (hBl.out.setCell (p:=⟨C,10,none⟩) (Nat.le_refl _) (.int .u64 m)) (gK H2b.out (w':=w1.setCell ⟨C,10,none⟩ (.int .u64 m)) (fun q hq=>ov _ _ _ _ _ (tY H2b.out hC.out hq)));clear c9 c10 f10 e0 e1 hBl H2b hC H1;generalize w1.setCell ⟨C,10,none⟩ (.int .u64 m)=w2 at h3 W8 HR2⊢;go_upto_region 6 with fail
 have hD0:=aD.new w2 265 (bM (aH 64 0));have hb2:=boxed w2 (.cells (bM (aH 64 0)) 265);have h4:fc (w2.alloc (.cells (bM (aH 64 0)) 265)) C b.h 32 (.slice A b.rest.length cp) m:=aD.below (g:=C) h3.out hb2 (aD.lt (g:=C) h3.out);have HR3:=ae (gK HR2.out (fun q hq=>hb2.block q (An HR2.out hq)));have W9:=ae (W8.out.trans (hb2.mono (by have:=W8.out.size;have:=HCe.out;omega)));have hCD:af (C<w2.heap.size):=ae (aD.lt (g:=C) h3.out);rw[show bM (aH 64 0)= #[.int .u8 0,.int .u8 0,.int .u8 0,.int .u8 0,.int .u8 0,.int .u8 0,.int .u8 0,.int .u8 0,.int .u8 0,.int .u8 0,.int .u8 0,.int .u8 0,.int .u8 0,.int .u8 0,.int .u8 0,.int .u8 0,.int .u8 0,.int .u8 0,.int .u8 0,.int .u8 0,.int .u8 0,.int .u8 0,.int .u8 0,.int .u8 0,.int .u8 0,.int .u8 0,.int .u8 0,.int .u8 0,.int .u8 0,.int .u8 0,.int .u8 0,.int .u8 0,.int .u8 0,.int .u8 0,.int .u8 0,.int .u8 0,.int .u8 0,.int .u8 0,.int .u8 0,.int .u8 0,.int .u8 0,.int .u8 0,.int .u8 0,.int .u8 0,.int .u8 0,.int .u8 0,.int .u8 0,.int .u8 0,.int .u8 0,.int .u8 0,.int .u8 0,.int .u8 0,.int .u8 0,.int .u8 0,.int .u8 0,.int .u8 0,.int .u8 0,.int .u8 0,.int .u8 0,.int .u8 0,.int .u8 0,.int .u8 0,.int .u8 0,.int .u8 0]from rfl]at hD0 h4 HR3 W9;obtain⟨HD0,H4⟩:=aI hD0 h4;clear hD0 hb2 h4 HR2 W8 h3;generalize w2.alloc (.cells #[.int .u8 0,.int .u8 0,.int .u8 0,.int .u8 0,.int .u8 0,.int .u8 0,.int .u8 0,.int .u8 0,.int .u8 0,.int .u8 0,.int .u8 0,.int .u8 0,.int .u8 0,.int .u8 0,.int .u8 0,.int .u8 0,.int .u8 0,.int .u8 0,.int .u8 0,.int .u8 0,.int .u8 0,.int .u8 0,.int .u8 0,.int .u8 0,.int .u8 0,.int .u8 0,.int .u8 0,.int .u8 0,.int .u8 0,.int .u8 0,.int .u8 0,.int .u8 0,.int .u8 0,.int .u8 0,.int .u8 0,.int .u8 0,.int .u8 0,.int .u8 0,.int .u8 0,.int .u8 0,.int .u8 0,.int .u8 0,.int .u8 0,.int .u8 0,.int .u8 0,.int .u8 0,.int .u8 0,.int .u8 0,.int .u8 0,.int .u8 0,.int .u8 0,.int .u8 0,.int .u8 0,.int .u8 0,.int .u8 0,.int .u8 0,.int .u8 0,.int .u8 0,.int .u8 0,.int .u8 0,.int .u8 0,.int .u8 0,.int .u8 0,.int .u8 0] 265)=w3 at HD0 H4 HR3 W9⊢;generalize w2.heap.size=D at HD0 hCD⊢;rw[←show bM (aH 64 0)= #[.int .u8 0,.int .u8 0,.int .u8 0,.int .u8 0,.int .u8 0,.int .u8 0,.int .u8 0,.int .u8 0,.int .u8 0,.int .u8 0,.int .u8 0,.int .u8 0,.int .u8 0,.int .u8 0,.int .u8 0,.int .u8 0,.int .u8 0,.int .u8 0,.int .u8 0,.int .u8 0,.int .u8 0,.int .u8 0,.int .u8 0,.int .u8 0,.int .u8 0,.int .u8 0,.int .u8 0,.int .u8 0,.int .u8 0,.int .u8 0,.int .u8 0,.int .u8 0,.int .u8 0,.int .u8 0,.int .u8 0,.int .u8 0,.int .u8 0,.int .u8 0,.int .u8 0,.int .u8 0,.int .u8 0,.int .u8 0,.int .u8 0,.int .u8 0,.int .u8 0,.int .u8 0,.int .u8 0,.int .u8 0,.int .u8 0,.int .u8 0,.int .u8 0,.int .u8 0,.int .u8 0,.int .u8 0,.int .u8 0,.int .u8 0,.int .u8 0,.int .u8 0,.int .u8 0,.int .u8 0,.int .u8 0,.int .u8 0,.int .u8 0,.int .u8 0]from rfl]at HD0;obtain⟨q,hq⟩:=yw HR3.out aM;subst hq;have c9:=H4.out.rest ND.out.h;have acI:=ND.out.rest;refine wp_region_still_tail 3 bg bg ?_;simp only[List.take_succ_cons,IM,List.drop_succ_cons,List.drop_zero]
 repeat still_step
 refine wpStill_nil ?_;change wpList _ _ _ _ _ w3.drew;obtain⟨w4,hr4,hD4,hk4⟩:=aaH (w:=w3.drew) (V:=D) (g:=q) (dL:=64) (dC:=64) (sL:=b.rest.length) (sC:=cp) (ty:=3) (u:=b.rest) HD0.out.drew (by rw[j5];exact acI) (fun j hj=>rR HR3.out hj) (Nat.min_eq_left acI).symm;refine jt rfl _ _ _ _ rfl rfl rfl hr4 ?_;rw[List.drop_replicate]at hD4;have acJ:C≠D:=by have:=hCD.out;omega
 have h5:fc w4 C b.h 32 (.slice (some ⟨q,0,none⟩) b.rest.length cp) m:=aD.keep (g:=C) (aD.drew (g:=C) H4.out) hk4 acJ;have hb4:=W9.out.drew.trans (hk4.below (B:=C) (fun x hx=>by have:=hCD.out;omega) (Nat.le_of_lt (aD.lt (g:=C) H4.out)));generalize hp:b.rest++aH (64-b.rest.length) 0=p at hD4;have hpl:p.length=64:=by rw[←hp,ai,j5];omega
 have hpb:∀i,bw p i<256:=fun i=>by
  unfold bw;rw[ay];rcases hi:p[i]? with _|x
  ·simp
  ·have hx:=List.mem_of_getElem? hi;rw[←hp]at hx;rcases List.mem_append.1 hx with hx|hx
   ·exact ND.out.byte x hx
   ·rw[(List.mem_replicate.1 hx).2];decide
 have hm':m<18446744073709551616:=by have:=HM.out;omega
 have ht:=yt (Ak.out.below hb4 (by have:=HCe.out;have:=Ak.out.lt;omega)) ND.out.h h5 hm' (gp:=D) (cap:=64) (p:=p) (fun i hi=>by
  rw[hD4.cell i];unfold bM bw;rw[sc,bA,ay,ah (by rw[hpl];exact hi)];rfl) hpb acJ.symm (by have:=HCe.out;have:=Ak.out.lt;omega) true
 obtain⟨HT,Hp,HB4⟩:=bj ht hp hb4;clear ht hp hb4 hpb hD4 hk4 hr4 HD0 H4 HR3 W9 h5 c9;go_upto_region 8 with(go_at_call 188;(with_reducible refine HT.out.mono ?_);rintro r w5⟨rfl,h6,k6⟩)
 have hb6:=HB4.out.trans (k6.below (B:=C) (fun x hx=>Nat.le_of_eq hx.symm) (by have:=HB4.out.size;have:=HCe.out;omega));have h7:=h6;have hE0:=aD.new w5 266 (bM (aH 32 0));have hbE:=boxed w5 (.cells (bM (aH 32 0)) 266);have H7:=ae (aD.below (g:=C) h7 hbE (aD.lt (g:=C) h7));have jH:=ae (hb6.trans (hbE.mono (by have:=hb6.size;have:=HCe.out;omega)));have hCE:af (C<w5.heap.size):=ae (aD.lt (g:=C) h7);have HE0:=ae hE0;clear h6 h7 k6 hb6 hbE hE0 HT HB4;rw[show bM (aH 32 0)= #[.int .u8 0,.int .u8 0,.int .u8 0,.int .u8 0,.int .u8 0,.int .u8 0,.int .u8 0,.int .u8 0,.int .u8 0,.int .u8 0,.int .u8 0,.int .u8 0,.int .u8 0,.int .u8 0,.int .u8 0,.int .u8 0,.int .u8 0,.int .u8 0,.int .u8 0,.int .u8 0,.int .u8 0,.int .u8 0,.int .u8 0,.int .u8 0,.int .u8 0,.int .u8 0,.int .u8 0,.int .u8 0,.int .u8 0,.int .u8 0,.int .u8 0,.int .u8 0]from rfl]at H7 jH HE0;have wsL:=rN ND.out.h m p true;have hL:af (∀_:Unit,nK b.h m p true=b.last):=ae (fun _=>by unfold Bl.last;rw[Hp.out,HM.out]);go_upto_region 9 with fail
 generalize w5.alloc (.cells #[.int .u8 0,.int .u8 0,.int .u8 0,.int .u8 0,.int .u8 0,.int .u8 0,.int .u8 0,.int .u8 0,.int .u8 0,.int .u8 0,.int .u8 0,.int .u8 0,.int .u8 0,.int .u8 0,.int .u8 0,.int .u8 0,.int .u8 0,.int .u8 0,.int .u8 0,.int .u8 0,.int .u8 0,.int .u8 0,.int .u8 0,.int .u8 0,.int .u8 0,.int .u8 0,.int .u8 0,.int .u8 0,.int .u8 0,.int .u8 0,.int .u8 0,.int .u8 0] 266)=w6 at H7 jH HE0⊢;generalize w5.heap.size=E at HE0 hCE⊢;rw[←show bM (aH 32 0)= #[.int .u8 0,.int .u8 0,.int .u8 0,.int .u8 0,.int .u8 0,.int .u8 0,.int .u8 0,.int .u8 0,.int .u8 0,.int .u8 0,.int .u8 0,.int .u8 0,.int .u8 0,.int .u8 0,.int .u8 0,.int .u8 0,.int .u8 0,.int .u8 0,.int .u8 0,.int .u8 0,.int .u8 0,.int .u8 0,.int .u8 0,.int .u8 0,.int .u8 0,.int .u8 0,.int .u8 0,.int .u8 0,.int .u8 0,.int .u8 0,.int .u8 0,.int .u8 0]from rfl]at HE0;generalize nK b.h m p true=L at H7 wsL hL;clear Hp HM;go_wp2_with fail
 go_loopw [33] (fun v33 wi=>∃k:Nat,k≤32∧v33=.int .i64 k∧af (fc wi C L 32 (.slice (some ⟨q,0,none⟩) b.rest.length cp) m)∧af (aD wi E 266 (bM (outW L k)))∧af (Below C w wi)) (fun v33 _=>32-(intOf v33).toNat)
 case atStart=>exact⟨0,by omega,rfl,H7,HE0,jH⟩
 case round=>
  obtain⟨k,hk,rfl,hH,hE,hB⟩:=hrel;obtain⟨wo,rfl⟩:∃wo:World,wo=wr:=⟨_,rfl⟩;clear H7 HE0 jH;by_cases hlt:k<32
  ·have hs:=rS L k;have hq8:k/4<8:=by omega
   have c0:=hH.out.word wsL hq8;have f0:=aD.frozen (g:=E) hE.out k;have d0:wo.cell? ⟨E,k,none⟩=some (.int .u8 (bw (outW L k) k:Int)):=by
    rw[hE.out.cell k];unfold bM bw;rw[sc,bA,ay,ah (by rw[Tm];exact hlt)];rfl
   generalize bw (outW L k) k=Y0 at d0;have hput:aD (wo.setCell ⟨E,k,none⟩ (.int .u8 (jA L k:Int))) E 266 (bM (outW L (k+1))):=by
    rw[hs];have:=aD.aN hE.out k (.int .u8 (jA L k:Int));unfold bM at this⊢;rw[List.setIfInBounds_toArray,←List.map_set]at this;exact this
   unfold jA at hput;have ED:=ae hput;have a0:(0:Int)≤(k:Int):=by omega
   have a1:(k:Int)<32:=by omega
   clear hput hs;generalize bw L (k/4)=X at c0 ED;have hEC:C≠E:=by have:=hCE.out;omega
   go_wp2_with fail
   go_roundw
   case rel=>
    have e:((X/2^(k%4*8)%256:Nat):Int)=(X:Int)/2^(k%4*8)%256:=by simp
    rw[←e];exact⟨k+1,by omega,by go_num,ae (aD.far hH.out (p:=⟨E,k,none⟩) hEC _),ED,ae (hB.out.setCell (p:=⟨E,k,none⟩) (Nat.le_of_lt hCE.out) _)⟩
   case measure=>simp[intOf];omega
  ·obtain rfl:k=32:=by omega
   have c8:=hH.out.size wsL;have hl:∀i,i<32→jA L i<256:=fun i _=>Nat.mod_lt _ (by decide)
   have hback:=run_convert_bytes_back (P:=ag) wo 67 9 5 ⟨E,0,none⟩ 32 (((aA 32).map (jA L)).map afn) cn bV aZ (fun j hj=>by
    have hj:j<32:=by simpa using hj
    rw[JC,hE.out.cell j,WZ L 32 aF];have hv:jA L j%256=jA L j:=Nat.mod_eq_of_lt (hl j hj);have hv':((jA L j:Nat):Int)%256=(jA L j:Int):=by omega
    unfold bM;simp[hj,hv,hv'])
   rw[ax,ax,List.length_range]at hback;have HFin:af (∀_:Unit,((aA 32).map (jA L)).map afn=b.sum.map afn):=ae (fun _=>by unfold Bl.sum;rw[hL.out ()]);generalize((aA 32).map (jA L)).map afn=Z at hback HFin;have HB:=ae hB;clear hB hH hE hl;go_wp2_with fail
   go_ret;exact⟨by rw[←HFin.out ()];rfl,by rw[HCe.out];exact HB.out.out⟩
theorem Tq{w:World}{lo g:Nat}(h:fc w g Am 32 (.slice none 0 0) 0):Nz lo w g Bl.new:=⟨.slice none 0 0,h,World.ownsRow_nil _ _ _ _⟩
theorem Bl.Tt(b:Bl){l:List Nat}(h:l≠[]):0<(b.adds l).rest.length:=by
 rw[←List.dropLast_concat_getLast h,Bl.yu];unfold Bl.add;split
 ·exact Nat.one_pos
 ·simp
theorem NF{w:World}(ord:fh w)(s:ByteArray)(hs:s.size≤16777216)(h0:s.size≠0):Calls ag 116 #[.int .i64 32,.string ⟨#[]⟩,.string s] w fun r w'=>r=.returned (.tuple #[.string (rO s),.int .i64 0])∧Below w.heap.size w w':=by
 have HN:=ae fun u=>Td u
 have HO:=ae ord;have hne:s.data.toList.map UInt8.toNat≠[]:=fun h=>h0 (by
  have:=congrArg List.length h;rw[ax]at this;exact this)
 have hll:(s.data.toList.map UInt8.toNat).length=s.size:=by rw[ax];rfl
 have hb:∀x∈s.data.toList.map UInt8.toNat,x<256:=fun x hx=>by
  obtain⟨y,_,rfl⟩:=List.mem_map.1 hx;exact y.toNat_lt
 obtain⟨HK,HP⟩:=aI (Bl.Jz hb Bl.SX) (Bl.Tt Bl.new hne);have hn:=Bl.SY (s.data.toList.map UInt8.toNat) Bl.new;rw[hll]at hn;have HL:af ((Bl.new.adds (s.data.toList.map UInt8.toNat)).n+(Bl.new.adds (s.data.toList.map UInt8.toNat)).rest.length≤33554432):=ae (by rw[hn];show 0+0+s.size≤_;omega);obtain⟨hlt,HS⟩:=aI ord.lt hs;clear ord hne hll hb hn h0 hs;go_enter Tryz.func116,Tryz.ntmps116;go_wp2_with(first
  |(go_at_call 154;(with_reducible refine(HN.out _).mono ?_);rintro r w1⟨⟨g,hg,rfl,h1⟩,d1⟩;have HA:=ae (Tj (HO.out.below d1 hlt.out) Bl.SX s HS.out aF hg d1.size hlt.out (Tq h1));obtain⟨HO1,D1⟩:=aI (HO.out.below d1 hlt.out) d1;clear h1 d1 hg)
  |(go_at_call 155;(with_reducible refine HA.out.mono ?_);rintro r w2⟨rfl,h2,d2⟩;have hS:Calls ag 156 #[.pointer (some ⟨g,0,none⟩)] w2 (Got (.string (rO s)) w2):=Tn (HO1.out.below d2 hlt.out) HK.out HL.out HP.out h2;obtain⟨HSm,D2⟩:=aI hS (D1.out.trans d2);clear h2 d2 hS HA)
  |(go_at_call 156;(with_reducible refine HSm.out.mono ?_);rintro r w3⟨rfl,d3⟩))
 go_ret2;exact⟨rfl,after D2.out d3⟩
theorem Tv{w:World}(ord:fh w)(s:ByteArray)(hs:s.size≤16777216)(h0:s.size≠0):Calls ag 62 #[.string s] w (Got (.string (rO s)) w):=by
 have HS:=ae (NF ord s hs h0);generalize rO s=t at HS⊢;clear ord hs h0;go_enter Tryz.func62,Tryz.ntmps62;go_wp2_with(go_at_call 116;(with_reducible refine HS.out.mono ?_);rintro r w2⟨rfl,d2⟩)
 go_ret;exact⟨rfl,d2⟩
def cG(m:Mp):ByteArray:=if(cK m).2=0 then rO (cK m).1 else⟨#[]⟩
theorem vS{m:Mp}(h:(cK m).2=0):(cK m).1.size≤32768∧(cK m).1.size≠0:=by
 have h3:=vj (may:=ig m) (b:=xe m) h;have e:(cK m).1=gW (xe m):=congrArg Prod.fst h3.2.2;rw[e,QR];refine⟨h3.2.1,?_⟩;unfold xe;rw[ai,aR];omega
theorem rT{w:World}(env:Env w)(ord:fh w){pv rv:Value}{m:Mp}(hp:dZ w pv m.aK)(hr:gQ w rv m.aB)(fit:kr m)(sz:∀p∈m.aK,j9 p)(hpl:m.aK.length≤4000000)(hrl:m.aB.length≤4000000)(hol:m.policy.size≤2000000)(hml:ig m=true→(xe m).length≤80000000):Calls ag 18 #[.agg #[.int .u64 (m.version:Int),pv,rv,.string m.policy]] w (Got (.string (cG m)) w):=by
 have he:=fun u(hu:Below w.heap.size w u)=>pG (env.below hu) (hp.below hu) (aW.below hr hu) fit sz hpl hrl hol hml
 have hh:∀u,Below w.heap.size w u→(cK m).2=0→Calls ag 62 #[.string (cK m).1] u (Got (.string (cG m)) u):=fun u hu h=>by
  have:=Tv (ord.below hu ord.lt) (cK m).1 (by have:=(vS h).1;omega) (vS h).2;unfold cG;rw[if_pos h];exact this
 have h0:(cK m).2≠0→cG m=⟨#[]⟩:=fun h=>by unfold cG;rw[if_neg h]
 obtain⟨Ap,cp,rfl⟩:=hp.shape;obtain⟨Ar,cr,rfl⟩:=aW.shape hr;generalize cG m=G at hh h0⊢;generalize cK m=R at he hh h0;obtain⟨version,aK,aB,policy⟩:=m;simp only at*;generalize aB.length=NR at*;generalize aK.length=NP at*;obtain⟨HE,HH,H0,HB,HM⟩:=dR he hh h0 (boxed w (.cells #[.int .u64 version,.slice Ap NP cp,.slice Ar NR cr,.string policy] 33)) (aD.new w 33 #[.int .u64 version,.slice Ap NP cp,.slice Ar NR cr,.string policy]);clear he hh h0 hp hr fit sz hpl hrl hol hml env ord;go_enter Tryz.func18,Tryz.ntmps18;go_upto_region 1 with fail
 generalize w.alloc (.cells #[.int .u64 version,.slice Ap NP cp,.slice Ar NR cr,.string policy] 33)=w1 at HB HM⊢;generalize w.heap.size=P at HM⊢;obtain⟨m0,m1,m2,m3⟩:=dy HM;go_upto_region 2 with(go_at_call 12;(with_reducible refine(HE.out _ HB.out).mono ?_);rintro r w2⟨⟨t,e,hte,rfl⟩,d2⟩;have Hte:=ae hte;have HB2:=aU HB d2;clear hte d2)
 by_cases hz:e=0
 ·have HO:=HH.out _ HB2.out (by rw[←Hte.out];exact hz);rw[←Hte.out]at HO;have HO':=ae HO;simp only at HO';have q0:((e:Int) !=0)=false:=by simp[hz]
  clear HO hz;go_wp2_with(go_at_call 62;(with_reducible refine HO'.out.mono ?_);rintro r w3⟨rfl,d3⟩)
  go_ret;exact⟨rfl,after HB2.out d3⟩
 ·have HG:=ae (H0.out (by rw[←Hte.out];exact hz));have q0:((e:Int) !=0)=true:=by simp;omega
  clear hz;go_wp2_with fail
  go_ret;exact⟨by rw[HG.out];rfl,HB2.out⟩
theorem aeh(x y:ByteArray):(x==y)=decide (x=y):=by
 obtain⟨a⟩:=x;obtain⟨b⟩:=y;show(a==b)=_;rw[ix,decide_eq_true_eq,beq_iff_eq,ByteArray.mk.injEq]
theorem acK(x y:Ad)(w:World):(binOp .neq 54 (.agg x.cells) (.agg y.cells)).run ag w=.ok (.bool (!decide (x=y))) w:=by
 have h:=tQ x.hi x.lo y.hi y.lo x.v6 y.v6 9997 w;rw[QX]at h;unfold Ad.cells;simp only[binOp];simp[Op.equal,Op.maxDepth,h]
theorem acL(x y:En)(w:World):(binOp .neq 82 (.agg (cL x).toArray) (.agg (cL y).toArray)).run ag w=.ok (.bool (!decide (x=y))) w:=by
 have h:(Op.equalIn 10000 82 (.agg (cL x).toArray) (.agg (cL y).toArray)).run ag w=.ok (decide (x=y)) w:=zD x y 9996 w;unfold cL at h⊢;simp only[binOp];simp[Op.equal,Op.maxDepth,h]
theorem Xa(x y:Ry)(d:Nat)(w:World):(Op.equalIn (d+5) 84 (.agg (bJ x).toArray) (.agg (bJ y).toArray)).run ag w=.ok (decide (x=y)) w:=by
 have h32:ag.stoodInHeld 84=false:=by kernel_rfl
 have ha:=fun w=>zD x.fin y.fin d w
 unfold sS vm at ha;have hp:∀w,(Op.equalIn (d+4) 5 (.int .u8 (x.id:Int)) (.int .u8 (y.id:Int))).run ag w=.ok (decide (x.id=y.id)) w:=by
  intro w;rw[show decide (x.id=y.id)=((x.id:Int)==(y.id:Int)) by rw[ix,decide_eq_true_eq,beq_iff_eq];omega];simp[go_sem,bV,Op.equalIn]
 have hk:∀w,(Op.equalIn (d+4) 9 (.string x.key) (.string y.key)).run ag w=.ok (decide (x.key=y.key)) w:=by
  intro w;rw[←aeh];simp[go_sem,aZ,Op.equalIn]
 obtain⟨i,k,⟨⟨a,b,c⟩,p⟩⟩:=x;obtain⟨i',k',⟨⟨a',b',c'⟩,p'⟩⟩:=y;simp only at ha hp hk;unfold bJ;rw[run_equalIn_struct w (d+4) 84 _ _ bg h32];simp[go_sem,Tryz.underlying84,part,ha,hp,hk];by_cases h1:i=i'<;>by_cases h2:k=k'<;>by_cases h3:((⟨a,b,c⟩:Ad),p)=(⟨a',b',c'⟩,p')<;>simp_all
theorem acM(x y:Ry)(w:World):(binOp .neq 84 (.agg (bJ x).toArray) (.agg (bJ y).toArray)).run ag w=.ok (.bool (!decide (x=y))) w:=by
 have h:(Op.equalIn 10000 84 (.agg (bJ x).toArray) (.agg (bJ y).toArray)).run ag w=.ok (decide (x=y)) w:=Xa x y 9995 w;unfold bJ at h⊢;simp only[binOp];simp[Op.equal,Op.maxDepth,h]
theorem Xb{w:World}{v1 v2:Value}(l m:List ByteArray)(hl:l.length≤4000000)(hm:m.length≤4000000)(h1:aW w v1 l.length 1 (strCells l))(h2:aW w v2 m.length 1 (strCells m)):Calls ag 101 #[v1,v2] w (Got (.bool (decide (l=m))) w):=by
 obtain⟨A1,cap1,rfl,_,hA1⟩:=h1;obtain⟨A2,cap2,rfl,_,hA2⟩:=h2;obtain⟨HA1,HA2⟩:=aI hA1 hA2;clear hA1 hA2;by_cases hn:l.length=m.length
 ·obtain⟨N,hN⟩:∃n,n=l.length:=⟨_,rfl⟩;rw[←hn]at HA2 hm⊢;rw[←hN]at HA1 HA2 hl⊢;obtain⟨j8,mP⟩:=aI hN (hN.trans hn);clear hn hN hm;obtain⟨R,hR⟩:∃r,r=decide (l=m):=⟨_,rfl⟩;rw[←hR];have HR:=ae hR;clear hR;go_enter Tryz.func101,Tryz.ntmps101;go_wp2_with fail
  go_loopw [13] (fun v13 wr=>∃k:Nat,k≤N∧v13=.int .i64 k∧af (Below w.heap.size w wr)∧af (l.take k=m.take k)) (fun v13 _=>N-(intOf v13).toNat)
  case atStart=>exact⟨0,bD _,rfl,ae (aG _ _),ae rfl⟩
  case round=>
   obtain⟨k,hk,rfl,HW,hsame⟩:=hrel;by_cases hlt:k<N
   ·have hkl:k<l.length:=by have:=j8.out;omega
    have hkm:k<m.length:=by have:=mP.out;omega
    obtain⟨q1,o1,rfl,hc1⟩:=HA1.out aM;obtain⟨q2,o2,rfl,hc2⟩:=HA2.out aM;have ht1:=aC hkl;have ht2:=aC hkm;have hne:l[k]≠m[k]→l≠m:=fun h e=>h (by simp only[e])
    have d1:=ak (hc1 k _ (by unfold strCells;rw[bA,ah hkl];rfl)) HW.out;have d2:=ak (hc2 k _ (by unfold strCells;rw[bA,ah hkm];rfl)) HW.out;generalize l[k]=X at ht1 hne d1;generalize m[k]=Y at ht2 hne d2;clear hc1 hc2 hkl hkm;by_cases hX:(X:ByteArray)=Y
    ·have Hs2:af (l.take (k+1)=m.take (k+1)):=ae (by rw[ht1,ht2,hsame.out,hX]);have hq:(X.toList==Y.toList)=true:=by rw[hX];simp
     clear ht1 ht2 hne hX;go_upto_region 6 with fail
     go_quiet (fail);go_wp2_with fail
     go_roundw
     case rel=>exact⟨k+1,by omega,by go_num,ae (HW.out.kJ _),Hs2⟩
     case measure=>simp[intOf];omega
    ·have fi:af (R=false):=ae (by rw[HR.out];exact decide_eq_false (hne hX));have hq:(X.toList==Y.toList)=false:=by simp only[beq_eq_false_iff_ne,ne_eq];exact fun h=>hX (toList_inj h)
     clear ht1 ht2 hne hX;go_upto_region 6 with fail
     go_quiet (fail);go_wp2_with fail
     go_ret;exact⟨by rw[fi.out];rfl,HW.out.kJ _⟩
   ·obtain rfl:k=N:=by omega
    have fi:af (R=true):=ae (by
     rw[HR.out];have e:=hsame.out;rw[aT (by have:=j8.out;omega),aT (by have:=mP.out;omega)]at e;exact decide_eq_true e)
    go_wp2_with fail
    go_ret;exact⟨by rw[fi.out];rfl,HW.out⟩
 ·have hd:decide (l=m)=false:=decide_eq_false fun e=>hn (by rw[e])
  rw[hd];generalize l.length=N1 at*;generalize m.length=N2 at*;have hne:((N1:Int) !=(N2:Int))=true:=by simp;omega
  clear hn hd HA1 HA2;go_enter Tryz.func101,Tryz.ntmps101;go_wp2_with fail
  go_ret;exact⟨rfl,aG _ _⟩
theorem Tz{w:World}{v1 v2:Value}(l m:List Ad)(hl:l.length≤4000000)(hm:m.length≤4000000)(h1:aW w v1 l.length 3 (cO l))(h2:aW w v2 m.length 3 (cO m)):Calls ag 102 #[v1,v2] w (Got (.bool (decide (l=m))) w):=by
 obtain⟨A1,cap1,rfl,_,hA1⟩:=h1;obtain⟨A2,cap2,rfl,_,hA2⟩:=h2;obtain⟨HA1,HA2⟩:=aI hA1 hA2;clear hA1 hA2;by_cases hn:l.length=m.length
 ·obtain⟨N,hN⟩:∃n,n=l.length:=⟨_,rfl⟩;rw[←hn]at HA2 hm⊢;rw[←hN]at HA1 HA2 hl⊢;obtain⟨j8,mP⟩:=aI hN (hN.trans hn);clear hn hN hm;obtain⟨R,hR⟩:∃r,r=decide (l=m):=⟨_,rfl⟩;rw[←hR];have HR:=ae hR;clear hR;go_enter Tryz.func102,Tryz.ntmps102;go_wp2_with fail
  go_loopw [13] (fun v13 wr=>∃k:Nat,k≤N∧v13=.int .i64 k∧af (Below w.heap.size w wr)∧af (l.take k=m.take k)) (fun v13 _=>N-(intOf v13).toNat)
  case atStart=>exact⟨0,bD _,rfl,ae (aG _ _),ae rfl⟩
  case round=>
   obtain⟨k,hk,rfl,HW,hsame⟩:=hrel;by_cases hlt:k<N
   ·have hkl:k<l.length:=by have:=j8.out;omega
    have hkm:k<m.length:=by have:=mP.out;omega
    obtain⟨q1,o1,rfl,hc1⟩:=HA1.out aM;obtain⟨q2,o2,rfl,hc2⟩:=HA2.out aM;have ht1:=aC hkl;have ht2:=aC hkm;have hne:l[k]≠m[k]→l≠m:=fun h e=>h (by simp only[e])
    have g10:=aP (fun a:Ad=>a.cells.toList) 3 (fun a:Ad=>rfl) (ah hkl) (r:=0) rfl;have g11:=aP (fun a:Ad=>a.cells.toList) 3 (fun a:Ad=>rfl) (ah hkl) (r:=1) rfl;have g12:=aP (fun a:Ad=>a.cells.toList) 3 (fun a:Ad=>rfl) (ah hkl) (r:=2) rfl;have g20:=aP (fun a:Ad=>a.cells.toList) 3 (fun a:Ad=>rfl) (ah hkm) (r:=0) rfl;have g21:=aP (fun a:Ad=>a.cells.toList) 3 (fun a:Ad=>rfl) (ah hkm) (r:=1) rfl;have g22:=aP (fun a:Ad=>a.cells.toList) 3 (fun a:Ad=>rfl) (ah hkm) (r:=2) rfl;have d10:=ak (hc1 _ _ g10) HW.out;have d11:=ak (hc1 _ _ g11) HW.out;have d12:=ak (hc1 _ _ g12) HW.out;have tM:=ak (hc2 _ _ g20) HW.out;have Bh:=ak (hc2 _ _ g21) HW.out;have Bi:=ak (hc2 _ _ g22) HW.out;clear g10 g11 g12 g20 g21 g22;generalize l[k]=X at ht1 hne d10 d11 d12;generalize m[k]=Y at ht2 hne tM Bh Bi;have hqq:=fun W=>acK X Y W
    obtain⟨v1,hi1,lo1⟩:=X;obtain⟨v2,hi2,lo2⟩:=Y;unfold Ad.cells at hqq;simp only at hqq d10 d11 d12 tM Bh Bi;rw[dq]at d10 tM;rw[←aff]at d11 d12 Bh Bi;clear hc1 hc2 hkl hkm;by_cases hX:(⟨v1,hi1,lo1⟩:Ad)=⟨v2,hi2,lo2⟩
    ·have Hs2:af (l.take (k+1)=m.take (k+1)):=ae (by rw[ht1,ht2,hsame.out,hX]);have hq:=hqq;rw[decide_eq_true hX]at hq;simp only[Bool.not_true]at hq;clear hqq;clear ht1 ht2 hne hX;go_upto_region 6 with fail
     go_quiet (fail);go_wp2_with fail
     go_roundw
     case rel=>exact⟨k+1,by omega,by go_num,ae (HW.out.kJ _),Hs2⟩
     case measure=>simp[intOf];omega
    ·have fi:af (R=false):=ae (by rw[HR.out];exact decide_eq_false (hne hX));have hq:=hqq;rw[decide_eq_false hX]at hq;simp only[Bool.not_false]at hq;clear hqq;clear ht1 ht2 hne hX;go_upto_region 6 with fail
     go_quiet (fail);go_wp2_with fail
     go_ret;exact⟨by rw[fi.out];rfl,HW.out.kJ _⟩
   ·obtain rfl:k=N:=by omega
    have fi:af (R=true):=ae (by
     rw[HR.out];have e:=hsame.out;rw[aT (by have:=j8.out;omega),aT (by have:=mP.out;omega)]at e;exact decide_eq_true e)
    go_wp2_with fail
    go_ret;exact⟨by rw[fi.out];rfl,HW.out⟩
 ·have hd:decide (l=m)=false:=decide_eq_false fun e=>hn (by rw[e])
  rw[hd];generalize l.length=N1 at*;generalize m.length=N2 at*;have hne:((N1:Int) !=(N2:Int))=true:=by simp;omega
  clear hn hd HA1 HA2;go_enter Tryz.func102,Tryz.ntmps102;go_wp2_with fail
  go_ret;exact⟨rfl,aG _ _⟩
theorem TA{w:World}{v1 v2:Value}(l m:List En)(hl:l.length≤4000000)(hm:m.length≤4000000)(h1:aW w v1 l.length 4 (kt l))(h2:aW w v2 m.length 4 (kt m)):Calls ag 103 #[v1,v2] w (Got (.bool (decide (l=m))) w):=by
 obtain⟨A1,cap1,rfl,_,hA1⟩:=h1;obtain⟨A2,cap2,rfl,_,hA2⟩:=h2;obtain⟨HA1,HA2⟩:=aI hA1 hA2;clear hA1 hA2;by_cases hn:l.length=m.length
 ·obtain⟨N,hN⟩:∃n,n=l.length:=⟨_,rfl⟩;rw[←hn]at HA2 hm⊢;rw[←hN]at HA1 HA2 hl⊢;obtain⟨j8,mP⟩:=aI hN (hN.trans hn);clear hn hN hm;obtain⟨R,hR⟩:∃r,r=decide (l=m):=⟨_,rfl⟩;rw[←hR];have HR:=ae hR;clear hR;go_enter Tryz.func103,Tryz.ntmps103;go_wp2_with fail
  go_loopw [13] (fun v13 wr=>∃k:Nat,k≤N∧v13=.int .i64 k∧af (Below w.heap.size w wr)∧af (l.take k=m.take k)) (fun v13 _=>N-(intOf v13).toNat)
  case atStart=>exact⟨0,bD _,rfl,ae (aG _ _),ae rfl⟩
  case round=>
   obtain⟨k,hk,rfl,HW,hsame⟩:=hrel;by_cases hlt:k<N
   ·have hkl:k<l.length:=by have:=j8.out;omega
    have hkm:k<m.length:=by have:=mP.out;omega
    obtain⟨q1,o1,rfl,hc1⟩:=HA1.out aM;obtain⟨q2,o2,rfl,hc2⟩:=HA2.out aM;have ht1:=aC hkl;have ht2:=aC hkm;have hne:l[k]≠m[k]→l≠m:=fun h e=>h (by simp only[e])
    have g10:=aP cL 4 eF (ah hkl) (r:=0) rfl;have g11:=aP cL 4 eF (ah hkl) (r:=1) rfl;have g12:=aP cL 4 eF (ah hkl) (r:=2) rfl;have g13:=aP cL 4 eF (ah hkl) (r:=3) rfl;have g20:=aP cL 4 eF (ah hkm) (r:=0) rfl;have g21:=aP cL 4 eF (ah hkm) (r:=1) rfl;have g22:=aP cL 4 eF (ah hkm) (r:=2) rfl;have g23:=aP cL 4 eF (ah hkm) (r:=3) rfl;have d10:=ak (hc1 _ _ g10) HW.out;have d11:=ak (hc1 _ _ g11) HW.out;have d12:=ak (hc1 _ _ g12) HW.out;have d13:=ak (hc1 _ _ g13) HW.out;have tM:=ak (hc2 _ _ g20) HW.out;have Bh:=ak (hc2 _ _ g21) HW.out;have Bi:=ak (hc2 _ _ g22) HW.out;have Jf:=ak (hc2 _ _ g23) HW.out;clear g10 g11 g12 g13 g20 g21 g22 g23;generalize l[k]=X at ht1 hne d10 d11 d12 d13;generalize m[k]=Y at ht2 hne tM Bh Bi Jf;have hqq:=fun W=>acL X Y W
    obtain⟨⟨v1,hi1,lo1⟩,po1⟩:=X;obtain⟨⟨v2,hi2,lo2⟩,po2⟩:=Y;unfold cL at hqq;simp only at hqq d10 d11 d12 d13 tM Bh Bi Jf;rw[dq]at d10 tM;rw[←aff]at d11 d12 d13 Bh Bi Jf;clear hc1 hc2 hkl hkm;by_cases hX:(⟨⟨v1,hi1,lo1⟩,po1⟩:En)=⟨⟨v2,hi2,lo2⟩,po2⟩
    ·have Hs2:af (l.take (k+1)=m.take (k+1)):=ae (by rw[ht1,ht2,hsame.out,hX]);have hq:=hqq;rw[decide_eq_true hX]at hq;simp only[Bool.not_true]at hq;clear hqq;clear ht1 ht2 hne hX;go_upto_region 6 with fail
     go_quiet (fail);go_wp2_with fail
     go_roundw
     case rel=>exact⟨k+1,by omega,by go_num,ae (HW.out.kJ _),Hs2⟩
     case measure=>simp[intOf];omega
    ·have fi:af (R=false):=ae (by rw[HR.out];exact decide_eq_false (hne hX));have hq:=hqq;rw[decide_eq_false hX]at hq;simp only[Bool.not_false]at hq;clear hqq;clear ht1 ht2 hne hX;go_upto_region 6 with fail
     go_quiet (fail);go_wp2_with fail
     go_ret;exact⟨by rw[fi.out];rfl,HW.out.kJ _⟩
   ·obtain rfl:k=N:=by omega
    have fi:af (R=true):=ae (by
     rw[HR.out];have e:=hsame.out;rw[aT (by have:=j8.out;omega),aT (by have:=mP.out;omega)]at e;exact decide_eq_true e)
    go_wp2_with fail
    go_ret;exact⟨by rw[fi.out];rfl,HW.out⟩
 ·have hd:decide (l=m)=false:=decide_eq_false fun e=>hn (by rw[e])
  rw[hd];generalize l.length=N1 at*;generalize m.length=N2 at*;have hne:((N1:Int) !=(N2:Int))=true:=by simp;omega
  clear hn hd HA1 HA2;go_enter Tryz.func103,Tryz.ntmps103;go_wp2_with fail
  go_ret;exact⟨rfl,aG _ _⟩
theorem DX{w:World}{v1 v2:Value}(l m:List Ry)(hl:l.length≤4000000)(hm:m.length≤4000000)(h1:aW w v1 l.length 6 (fy l))(h2:aW w v2 m.length 6 (fy m)):Calls ag 47 #[v1,v2] w (Got (.bool (decide (l=m))) w):=by
 obtain⟨A1,cap1,rfl,_,hA1⟩:=h1;obtain⟨A2,cap2,rfl,_,hA2⟩:=h2;obtain⟨HA1,HA2⟩:=aI hA1 hA2;clear hA1 hA2;by_cases hn:l.length=m.length
 ·obtain⟨N,hN⟩:∃n,n=l.length:=⟨_,rfl⟩;rw[←hn]at HA2 hm⊢;rw[←hN]at HA1 HA2 hl⊢;obtain⟨j8,mP⟩:=aI hN (hN.trans hn);clear hn hN hm;obtain⟨R,hR⟩:∃r,r=decide (l=m):=⟨_,rfl⟩;rw[←hR];have HR:=ae hR;clear hR;go_enter Tryz.func47,Tryz.ntmps47;go_wp2_with fail
  go_loopw [13] (fun v13 wr=>∃k:Nat,k≤N∧v13=.int .i64 k∧af (Below w.heap.size w wr)∧af (l.take k=m.take k)) (fun v13 _=>N-(intOf v13).toNat)
  case atStart=>exact⟨0,bD _,rfl,ae (aG _ _),ae rfl⟩
  case round=>
   obtain⟨k,hk,rfl,HW,hsame⟩:=hrel;by_cases hlt:k<N
   ·have hkl:k<l.length:=by have:=j8.out;omega
    have hkm:k<m.length:=by have:=mP.out;omega
    obtain⟨q1,o1,rfl,hc1⟩:=HA1.out aM;obtain⟨q2,o2,rfl,hc2⟩:=HA2.out aM;have ht1:=aC hkl;have ht2:=aC hkm;have hne:l[k]≠m[k]→l≠m:=fun h e=>h (by simp only[e])
    have g10:=aP bJ 6 cF (ah hkl) (r:=0) rfl;have g11:=aP bJ 6 cF (ah hkl) (r:=1) rfl;have g12:=aP bJ 6 cF (ah hkl) (r:=2) rfl;have g13:=aP bJ 6 cF (ah hkl) (r:=3) rfl;have g14:=aP bJ 6 cF (ah hkl) (r:=4) rfl;have g15:=aP bJ 6 cF (ah hkl) (r:=5) rfl;have g20:=aP bJ 6 cF (ah hkm) (r:=0) rfl;have g21:=aP bJ 6 cF (ah hkm) (r:=1) rfl;have g22:=aP bJ 6 cF (ah hkm) (r:=2) rfl;have g23:=aP bJ 6 cF (ah hkm) (r:=3) rfl;have g24:=aP bJ 6 cF (ah hkm) (r:=4) rfl;have YT:=aP bJ 6 cF (ah hkm) (r:=5) rfl;have d10:=ak (hc1 _ _ g10) HW.out;have d11:=ak (hc1 _ _ g11) HW.out;have d12:=ak (hc1 _ _ g12) HW.out;have d13:=ak (hc1 _ _ g13) HW.out;have kQ:=ak (hc1 _ _ g14) HW.out;have qV:=ak (hc1 _ _ g15) HW.out;have tM:=ak (hc2 _ _ g20) HW.out;have Bh:=ak (hc2 _ _ g21) HW.out;have Bi:=ak (hc2 _ _ g22) HW.out;have Jf:=ak (hc2 _ _ g23) HW.out;have UH:=ak (hc2 _ _ g24) HW.out;have UI:=ak (hc2 _ _ YT) HW.out;clear g10 g11 g12 g13 g14 g15 g20 g21 g22 g23 g24 YT;generalize l[k]=X at ht1 hne d10 d11 d12 d13 kQ qV;generalize m[k]=Y at ht2 hne tM Bh Bi Jf UH UI;have hqq:=fun W=>acM X Y W
    obtain⟨id1,key1,⟨⟨v1,hi1,lo1⟩,po1⟩⟩:=X;obtain⟨id2,key2,⟨⟨v2,hi2,lo2⟩,po2⟩⟩:=Y;unfold bJ at hqq;simp only at hqq d10 d11 d12 d13 kQ qV tM Bh Bi Jf UH UI;rw[dq]at d10 tM;rw[←aff]at d11 d12 d13 kQ qV Bh Bi Jf UH UI;clear hc1 hc2 hkl hkm;by_cases hX:(⟨id1,key1,⟨⟨v1,hi1,lo1⟩,po1⟩⟩:Ry)=⟨id2,key2,⟨⟨v2,hi2,lo2⟩,po2⟩⟩
    ·have Hs2:af (l.take (k+1)=m.take (k+1)):=ae (by rw[ht1,ht2,hsame.out,hX]);have hq:=hqq;rw[decide_eq_true hX]at hq;simp only[Bool.not_true]at hq;clear hqq;clear ht1 ht2 hne hX;go_upto_region 6 with fail
     go_quiet (fail);go_wp2_with fail
     go_roundw
     case rel=>exact⟨k+1,by omega,by go_num,ae (HW.out.kJ _),Hs2⟩
     case measure=>simp[intOf];omega
    ·have fi:af (R=false):=ae (by rw[HR.out];exact decide_eq_false (hne hX));have hq:=hqq;rw[decide_eq_false hX]at hq;simp only[Bool.not_false]at hq;clear hqq;clear ht1 ht2 hne hX;go_upto_region 6 with fail
     go_quiet (fail);go_wp2_with fail
     go_ret;exact⟨by rw[fi.out];rfl,HW.out.kJ _⟩
   ·obtain rfl:k=N:=by omega
    have fi:af (R=true):=ae (by
     rw[HR.out];have e:=hsame.out;rw[aT (by have:=j8.out;omega),aT (by have:=mP.out;omega)]at e;exact decide_eq_true e)
    go_wp2_with fail
    go_ret;exact⟨by rw[fi.out];rfl,HW.out⟩
 ·have hd:decide (l=m)=false:=decide_eq_false fun e=>hn (by rw[e])
  rw[hd];generalize l.length=N1 at*;generalize m.length=N2 at*;have hne:((N1:Int) !=(N2:Int))=true:=by simp;omega
  clear hn hd HA1 HA2;go_enter Tryz.func47,Tryz.ntmps47;go_wp2_with fail
  go_ret;exact⟨rfl,aG _ _⟩
theorem acN(x y:Pr):decide (x=y)=((x.key.toList==y.key.toList)&&((x.bh.toList==y.bh.toList)&&((x.user.toList==y.user.toList)&&(((x.exp:Int)==(y.exp:Int))&&(((x.aY:Int)==(y.aY:Int))&&(decide (x.tags=y.tags)&&(decide (x.aJ=y.aJ)&&decide (x.ends=y.ends)))))))):=by
 obtain⟨a,b,c,d,e,f,g,h⟩:=x;obtain⟨a',b',c',d',e',f',g',h'⟩:=y;rw[ix];simp only[aV,beq_iff_eq,decide_eq_true_eq,Pr.mk.injEq];constructor
 ·rintro⟨rfl,rfl,rfl,rfl,rfl,rfl,rfl,rfl⟩;exact⟨rfl,rfl,rfl,rfl,rfl,rfl,rfl,rfl⟩
 ·rintro⟨h1,h2,h3,h4,h5,h6,h7,h8⟩;exact⟨toList_inj h1,toList_inj h2,toList_inj h3,h6,h7,by omega,by omega,h8⟩
theorem qJ{w:World}{X Y:bN}(hX:gJ w X)(hY:gJ w Y)(sX:j9 X.p)(sY:j9 Y.p):Calls ag 45 #[.agg X.vals.toArray,.agg Y.vals.toArray] w (Got (.bool (decide (X.p=Y.p))) w):=by
 have ht:=fun u(hu:Below w.heap.size w u)=>Xb X.p.tags Y.p.tags (by have:=sX.tl;omega) (by have:=sY.tl;omega) (hX.tags.below hu) (hY.tags.below hu)
 have ha:=fun u(hu:Below w.heap.size w u)=>Tz X.p.aJ Y.p.aJ (by have:=sX.al;omega) (by have:=sY.al;omega) (hX.aJ.below hu) (hY.aJ.below hu)
 have he:=fun u(hu:Below w.heap.size w u)=>TA X.p.ends Y.p.ends (by have:=sX.el;omega) (by have:=sY.el;omega) (hX.ends.below hu) (hY.ends.below hu)
 obtain⟨jo,c11,e11⟩:=hX.tags.shape;obtain⟨jq,c12,e12⟩:=hX.aJ.shape;obtain⟨mf,c13,e13⟩:=hX.ends.shape;obtain⟨jU,c21,e21⟩:=hY.tags.shape;obtain⟨jV,jW,e22⟩:=hY.aJ.shape;obtain⟨mQ,c23,e23⟩:=hY.ends.shape;clear hX hY sX sY;rw[acN];obtain⟨⟨key1,ck,di,mJ,jr,lG,cm,mK⟩,tv1,av1,ev1⟩:=X;obtain⟨⟨key2,bq,bQ,dW,cQ,i6,bI,dX⟩,tv2,av2,ev2⟩:=Y;simp only at*;subst e11 e12 e13 e21 e22 e23;unfold bN.vals;simp only;generalize decide (mJ=dW)=BT at*;generalize decide (jr=cQ)=BA at*;generalize decide (mK=dX)=BE at*;generalize mJ.length=n11 at*;generalize jr.length=n12 at*;generalize mK.length=n13 at*;generalize dW.length=n21 at*;generalize cQ.length=n22 at*;generalize dX.length=n23 at*;obtain⟨HT,HA,HE⟩:=bj ht ha he;have hb1:=boxed w (.cells #[.string key1,.string ck,.string di,.slice jo n11 c11,.slice jq n12 c12,.int .u64 lG,.int .u8 cm,.slice mf n13 c13] 50);obtain⟨lF,HB1⟩:=aI (aD.new w 50 #[.string key1,.string ck,.string di,.slice jo n11 c11,.slice jq n12 c12,.int .u64 lG,.int .u8 cm,.slice mf n13 c13]) hb1;clear ht ha he hb1;obtain⟨HB2,bC⟩:=aI (after HB1.out (boxed (w.alloc (.cells #[.string key1,.string ck,.string di,.slice jo n11 c11,.slice jq n12 c12,.int .u64 lG,.int .u8 cm,.slice mf n13 c13] 50)) (.cells #[.string key2,.string bq,.string bQ,.slice jU n21 c21,.slice jV n22 jW,.int .u64 i6,.int .u8 bI,.slice mQ n23 c23] 50))) (lF.out.below (boxed (w.alloc (.cells #[.string key1,.string ck,.string di,.slice jo n11 c11,.slice jq n12 c12,.int .u64 lG,.int .u8 cm,.slice mf n13 c13] 50)) (.cells #[.string key2,.string bq,.string bQ,.slice jU n21 c21,.slice jV n22 jW,.int .u64 i6,.int .u8 bI,.slice mQ n23 c23] 50)) lF.out.lt);have hP2:aD ((w.alloc (.cells #[.string key1,.string ck,.string di,.slice jo n11 c11,.slice jq n12 c12,.int .u64 lG,.int .u8 cm,.slice mf n13 c13] 50)).alloc (.cells #[.string key2,.string bq,.string bQ,.slice jU n21 c21,.slice jV n22 jW,.int .u64 i6,.int .u8 bI,.slice mQ n23 c23] 50)) (w.heap.size+1) 50 #[.string key2,.string bq,.string bQ,.slice jU n21 c21,.slice jV n22 jW,.int .u64 i6,.int .u8 bI,.slice mQ n23 c23]:=by
  have:=aD.new (w.alloc (.cells #[.string key1,.string ck,.string di,.slice jo n11 c11,.slice jq n12 c12,.int .u64 lG,.int .u8 cm,.slice mf n13 c13] 50)) 50 #[.string key2,.string bq,.string bQ,.slice jU n21 c21,.slice jV n22 jW,.int .u64 i6,.int .u8 bI,.slice mQ n23 c23];rw[show(w.alloc (.cells #[.string key1,.string ck,.string di,.slice jo n11 c11,.slice jq n12 c12,.int .u64 lG,.int .u8 cm,.slice mf n13 c13] 50)).heap.size=w.heap.size+1 by simp]at this;exact this
 have HP2:=ae hP2;clear hP2 lF HB1;cases hb0:(key1.toList==key2.toList)with
 |false=>
  simp only[IL];go_enter Tryz.func45,Tryz.ntmps45;go_upto_region 1 with fail
  generalize(w.alloc (.cells #[.string key1,.string ck,.string di,.slice jo n11 c11,.slice jq n12 c12,.int .u64 lG,.int .u8 cm,.slice mf n13 c13] 50)).alloc (.cells #[.string key2,.string bq,.string bQ,.slice jU n21 c21,.slice jV n22 jW,.int .u64 i6,.int .u8 bI,.slice mQ n23 c23] 50)=w2 at HB2 bC HP2⊢;generalize w.heap.size+1=Q at HP2⊢;generalize hPw:w.heap.size=P at bC⊢;have kf:=ae hPw;clear hPw;have x0:=bC.out.cell 0;have x1:=bC.out.cell 1;have x2:=bC.out.cell 2;have x3:=bC.out.cell 3;have x4:=bC.out.cell 4;have x5:=bC.out.cell 5;have x6:=bC.out.cell 6;have x7:=bC.out.cell 7;have y0:=HP2.out.cell 0;have y1:=HP2.out.cell 1;have y2:=HP2.out.cell 2;have y3:=HP2.out.cell 3;have y4:=HP2.out.cell 4;have y5:=HP2.out.cell 5;have y6:=HP2.out.cell 6;have y7:=HP2.out.cell 7;simp at x0 x1 x2 x3 x4 x5 x6 x7 y0 y1 y2 y3 y4 y5 y6 y7;go_wp2_with fail
  go_ret;exact⟨rfl,HB2.out⟩
 |true=>
  cases hb1:(ck.toList==bq.toList)with
  |false=>
   simp only[IL,bH];go_enter Tryz.func45,Tryz.ntmps45;go_upto_region 1 with fail
   generalize(w.alloc (.cells #[.string key1,.string ck,.string di,.slice jo n11 c11,.slice jq n12 c12,.int .u64 lG,.int .u8 cm,.slice mf n13 c13] 50)).alloc (.cells #[.string key2,.string bq,.string bQ,.slice jU n21 c21,.slice jV n22 jW,.int .u64 i6,.int .u8 bI,.slice mQ n23 c23] 50)=w2 at HB2 bC HP2⊢;generalize w.heap.size+1=Q at HP2⊢;generalize hPw:w.heap.size=P at bC⊢;have kf:=ae hPw;clear hPw;have x0:=bC.out.cell 0;have x1:=bC.out.cell 1;have x2:=bC.out.cell 2;have x3:=bC.out.cell 3;have x4:=bC.out.cell 4;have x5:=bC.out.cell 5;have x6:=bC.out.cell 6;have x7:=bC.out.cell 7;have y0:=HP2.out.cell 0;have y1:=HP2.out.cell 1;have y2:=HP2.out.cell 2;have y3:=HP2.out.cell 3;have y4:=HP2.out.cell 4;have y5:=HP2.out.cell 5;have y6:=HP2.out.cell 6;have y7:=HP2.out.cell 7;simp at x0 x1 x2 x3 x4 x5 x6 x7 y0 y1 y2 y3 y4 y5 y6 y7;go_wp2_with fail
   go_ret;exact⟨rfl,HB2.out⟩
  |true=>
   cases hb2:(di.toList==bQ.toList)with
   |false=>
    simp only[IL,bH];go_enter Tryz.func45,Tryz.ntmps45;go_upto_region 1 with fail
    generalize(w.alloc (.cells #[.string key1,.string ck,.string di,.slice jo n11 c11,.slice jq n12 c12,.int .u64 lG,.int .u8 cm,.slice mf n13 c13] 50)).alloc (.cells #[.string key2,.string bq,.string bQ,.slice jU n21 c21,.slice jV n22 jW,.int .u64 i6,.int .u8 bI,.slice mQ n23 c23] 50)=w2 at HB2 bC HP2⊢;generalize w.heap.size+1=Q at HP2⊢;generalize hPw:w.heap.size=P at bC⊢;have kf:=ae hPw;clear hPw;have x0:=bC.out.cell 0;have x1:=bC.out.cell 1;have x2:=bC.out.cell 2;have x3:=bC.out.cell 3;have x4:=bC.out.cell 4;have x5:=bC.out.cell 5;have x6:=bC.out.cell 6;have x7:=bC.out.cell 7;have y0:=HP2.out.cell 0;have y1:=HP2.out.cell 1;have y2:=HP2.out.cell 2;have y3:=HP2.out.cell 3;have y4:=HP2.out.cell 4;have y5:=HP2.out.cell 5;have y6:=HP2.out.cell 6;have y7:=HP2.out.cell 7;simp at x0 x1 x2 x3 x4 x5 x6 x7 y0 y1 y2 y3 y4 y5 y6 y7;go_wp2_with fail
    go_ret;exact⟨rfl,HB2.out⟩
   |true=>
    cases hb3:((lG:Int)==(i6:Int))with
    |false=>
     simp only[IL,bH];go_enter Tryz.func45,Tryz.ntmps45;go_upto_region 1 with fail
     generalize(w.alloc (.cells #[.string key1,.string ck,.string di,.slice jo n11 c11,.slice jq n12 c12,.int .u64 lG,.int .u8 cm,.slice mf n13 c13] 50)).alloc (.cells #[.string key2,.string bq,.string bQ,.slice jU n21 c21,.slice jV n22 jW,.int .u64 i6,.int .u8 bI,.slice mQ n23 c23] 50)=w2 at HB2 bC HP2⊢;generalize w.heap.size+1=Q at HP2⊢;generalize hPw:w.heap.size=P at bC⊢;have kf:=ae hPw;clear hPw;have x0:=bC.out.cell 0;have x1:=bC.out.cell 1;have x2:=bC.out.cell 2;have x3:=bC.out.cell 3;have x4:=bC.out.cell 4;have x5:=bC.out.cell 5;have x6:=bC.out.cell 6;have x7:=bC.out.cell 7;have y0:=HP2.out.cell 0;have y1:=HP2.out.cell 1;have y2:=HP2.out.cell 2;have y3:=HP2.out.cell 3;have y4:=HP2.out.cell 4;have y5:=HP2.out.cell 5;have y6:=HP2.out.cell 6;have y7:=HP2.out.cell 7;simp at x0 x1 x2 x3 x4 x5 x6 x7 y0 y1 y2 y3 y4 y5 y6 y7;go_wp2_with fail
     go_ret;exact⟨rfl,HB2.out⟩
    |true=>
     cases hb4:((cm:Int)==(bI:Int))with
     |false=>
      simp only[IL,bH];go_enter Tryz.func45,Tryz.ntmps45;go_upto_region 1 with fail
      generalize(w.alloc (.cells #[.string key1,.string ck,.string di,.slice jo n11 c11,.slice jq n12 c12,.int .u64 lG,.int .u8 cm,.slice mf n13 c13] 50)).alloc (.cells #[.string key2,.string bq,.string bQ,.slice jU n21 c21,.slice jV n22 jW,.int .u64 i6,.int .u8 bI,.slice mQ n23 c23] 50)=w2 at HB2 bC HP2⊢;generalize w.heap.size+1=Q at HP2⊢;generalize hPw:w.heap.size=P at bC⊢;have kf:=ae hPw;clear hPw;have x0:=bC.out.cell 0;have x1:=bC.out.cell 1;have x2:=bC.out.cell 2;have x3:=bC.out.cell 3;have x4:=bC.out.cell 4;have x5:=bC.out.cell 5;have x6:=bC.out.cell 6;have x7:=bC.out.cell 7;have y0:=HP2.out.cell 0;have y1:=HP2.out.cell 1;have y2:=HP2.out.cell 2;have y3:=HP2.out.cell 3;have y4:=HP2.out.cell 4;have y5:=HP2.out.cell 5;have y6:=HP2.out.cell 6;have y7:=HP2.out.cell 7;simp at x0 x1 x2 x3 x4 x5 x6 x7 y0 y1 y2 y3 y4 y5 y6 y7;go_wp2_with fail
      go_ret;exact⟨rfl,HB2.out⟩
     |true=>
      simp only[bH];cases BT with
      |false=>
       simp only[IL];go_enter Tryz.func45,Tryz.ntmps45;go_upto_region 1 with fail
       generalize(w.alloc (.cells #[.string key1,.string ck,.string di,.slice jo n11 c11,.slice jq n12 c12,.int .u64 lG,.int .u8 cm,.slice mf n13 c13] 50)).alloc (.cells #[.string key2,.string bq,.string bQ,.slice jU n21 c21,.slice jV n22 jW,.int .u64 i6,.int .u8 bI,.slice mQ n23 c23] 50)=w2 at HB2 bC HP2⊢;generalize w.heap.size+1=Q at HP2⊢;generalize hPw:w.heap.size=P at bC⊢;have kf:=ae hPw;clear hPw;have x0:=bC.out.cell 0;have x1:=bC.out.cell 1;have x2:=bC.out.cell 2;have x3:=bC.out.cell 3;have x4:=bC.out.cell 4;have x5:=bC.out.cell 5;have x6:=bC.out.cell 6;have x7:=bC.out.cell 7;have y0:=HP2.out.cell 0;have y1:=HP2.out.cell 1;have y2:=HP2.out.cell 2;have y3:=HP2.out.cell 3;have y4:=HP2.out.cell 4;have y5:=HP2.out.cell 5;have y6:=HP2.out.cell 6;have y7:=HP2.out.cell 7;simp at x0 x1 x2 x3 x4 x5 x6 x7 y0 y1 y2 y3 y4 y5 y6 y7;go_wp2_with(first
        |(go_at_call 101;(with_reducible refine(HT.out _ HB2.out).mono ?_);rintro r w3⟨rfl,d3⟩;have px4:=ak x4 d3;have px7:=ak x7 d3;have py4:=ak y4 d3;have py7:=ak y7 d3;have HB3:=aU HB2 d3;clear d3))
       go_ret;exact⟨rfl,HB3.out⟩
      |true=>
       cases BA with
       |false=>
        simp only[IL,bH];go_enter Tryz.func45,Tryz.ntmps45;go_upto_region 1 with fail
        generalize(w.alloc (.cells #[.string key1,.string ck,.string di,.slice jo n11 c11,.slice jq n12 c12,.int .u64 lG,.int .u8 cm,.slice mf n13 c13] 50)).alloc (.cells #[.string key2,.string bq,.string bQ,.slice jU n21 c21,.slice jV n22 jW,.int .u64 i6,.int .u8 bI,.slice mQ n23 c23] 50)=w2 at HB2 bC HP2⊢;generalize w.heap.size+1=Q at HP2⊢;generalize hPw:w.heap.size=P at bC⊢;have kf:=ae hPw;clear hPw;have x0:=bC.out.cell 0;have x1:=bC.out.cell 1;have x2:=bC.out.cell 2;have x3:=bC.out.cell 3;have x4:=bC.out.cell 4;have x5:=bC.out.cell 5;have x6:=bC.out.cell 6;have x7:=bC.out.cell 7;have y0:=HP2.out.cell 0;have y1:=HP2.out.cell 1;have y2:=HP2.out.cell 2;have y3:=HP2.out.cell 3;have y4:=HP2.out.cell 4;have y5:=HP2.out.cell 5;have y6:=HP2.out.cell 6;have y7:=HP2.out.cell 7;simp at x0 x1 x2 x3 x4 x5 x6 x7 y0 y1 y2 y3 y4 y5 y6 y7;go_wp2_with(first
         |(go_at_call 101;(with_reducible refine(HT.out _ HB2.out).mono ?_);rintro r w3⟨rfl,d3⟩;have px4:=ak x4 d3;have px7:=ak x7 d3;have py4:=ak y4 d3;have py7:=ak y7 d3;have HB3:=aU HB2 d3;clear d3)
         |(go_at_call 102;(with_reducible refine(HA.out _ HB3.out).mono ?_);rintro r w4⟨rfl,d4⟩;have qx7:=ak px7 d4;have qy7:=ak py7 d4;have HB4:=aU HB3 d4;clear d4))
        go_ret;exact⟨rfl,HB4.out⟩
       |true=>
        simp only[bH];go_enter Tryz.func45,Tryz.ntmps45;go_upto_region 1 with fail
        generalize(w.alloc (.cells #[.string key1,.string ck,.string di,.slice jo n11 c11,.slice jq n12 c12,.int .u64 lG,.int .u8 cm,.slice mf n13 c13] 50)).alloc (.cells #[.string key2,.string bq,.string bQ,.slice jU n21 c21,.slice jV n22 jW,.int .u64 i6,.int .u8 bI,.slice mQ n23 c23] 50)=w2 at HB2 bC HP2⊢;generalize w.heap.size+1=Q at HP2⊢;generalize hPw:w.heap.size=P at bC⊢;have kf:=ae hPw;clear hPw;have x0:=bC.out.cell 0;have x1:=bC.out.cell 1;have x2:=bC.out.cell 2;have x3:=bC.out.cell 3;have x4:=bC.out.cell 4;have x5:=bC.out.cell 5;have x6:=bC.out.cell 6;have x7:=bC.out.cell 7;have y0:=HP2.out.cell 0;have y1:=HP2.out.cell 1;have y2:=HP2.out.cell 2;have y3:=HP2.out.cell 3;have y4:=HP2.out.cell 4;have y5:=HP2.out.cell 5;have y6:=HP2.out.cell 6;have y7:=HP2.out.cell 7;simp at x0 x1 x2 x3 x4 x5 x6 x7 y0 y1 y2 y3 y4 y5 y6 y7;go_wp2_with(first
         |(go_at_call 101;(with_reducible refine(HT.out _ HB2.out).mono ?_);rintro r w3⟨rfl,d3⟩;have px4:=ak x4 d3;have px7:=ak x7 d3;have py4:=ak y4 d3;have py7:=ak y7 d3;have HB3:=aU HB2 d3;clear d3)
         |(go_at_call 102;(with_reducible refine(HA.out _ HB3.out).mono ?_);rintro r w4⟨rfl,d4⟩;have qx7:=ak px7 d4;have qy7:=ak py7 d4;have HB4:=aU HB3 d4;clear d4)
         |(go_at_call 103;(with_reducible refine(HE.out _ HB4.out).mono ?_);rintro r w5⟨rfl,d5⟩;have mO:=aU HB4 d5;clear d5))
        go_ret;exact⟨rfl,mO.out⟩
end Go.Proofs.YteflnojjjdkgmaaGreatDoor
