/- Joined out of: BhF BhG EqA EqB. -/
import Derived.Test.YtdfnhljccdoncaaGreatDoorNav
set_option linter.unusedVariables false
set_option linter.unusedSimpArgs false
set_option maxHeartbeats 16000000
set_option maxRecDepth 100000
open Bool renaming and_eq_true→bg,true_and→bT,eq_iff_iff→kq,false_and→afv
open Go.IntKind renaming wrap_u64→kR
open Go.Lib renaming hid→ae
open Go.Proofs.Tryz renaming prog→ai,underlying9→bL,underlying5→cB,underlying89→ew
open Go.RowKit renaming Hid→af
open Go.RowKit.Below renaming refl→aK
open List renaming getElem?_eq_getElem→ag,length_append→aj,length_map→ay,take_succ_eq_append_getElem→aA,getD_eq_getElem?_getD→aB,range→aD,take_of_length_le→aO,replicate→aS,getElem?_map→bR,map_append→eT,length_replicate→sB,getElem?_toArray→Jl,size_toArray→af4
open Nat renaming zero_le→bF,add_zero→cN,add_assoc→sE
open UInt8 renaming ofNat→agq
namespace Go.Proofs.YtdfnhljccdoncaaGreatDoor
open Go.RowKit
attribute [local go_sem↓] Go.wp_at_zero Go.wp_at_succ
def yW:Array Value:=(hsL (aS 8 0) 0 (.slice none 0 0) 0).toArray
theorem wN(w:World):(Instr.alloc 270 true (.tuple #[])).run ai w=.ok (.pointer (some ⟨w.heap.size,0,none⟩)) (w.alloc (.cells yW 270)):=by
 kernel_rfl
theorem qQ{ops:Array Oper}{rest:List Oper}{o:Oper}{a:Act}{w:World}{Q:Exit→Act→World→Prop}(hgd:o.guard=none)(ho:o.op=.alloc 270)(h:wpList ai ops Q rest (a.put o.dst (.pointer (some ⟨w.heap.size,0,none⟩))) (w.alloc (.cells yW 270))):wpList ai ops Q (o::rest) a w:=wpList_plain hgd fun _ hK=>by
 unfold Oper.wp execOp;simp only[ho,Sem.run_bind,wN,Result.andThen_ok];exact hK _ _ h
theorem yX:(ai.info? 270).map (·.size)=some 11:=by kernel_rfl
theorem wO{h:List Nat}(hh:Ws 8 h)(sz n:Nat)(rv:Value):(hsL h sz rv n).toArray.size=11:=by
 unfold hsL;rw[af4,aj,ay,hh.len];rfl
theorem XW(h:List Nat)(sz n:Nat)(A:Option Addr)(m c:Nat):(hsL h sz (.slice A m c) n).toArray.all (·.oneCell')=true:=by
 unfold hsL;rw[List.all_toArray,List.all_append,List.all_map];simp only[bg];exact⟨List.all_eq_true.2 fun _ _=>rfl,rfl⟩
def outW(L:List Nat)(k:Nat):List Nat:=(aD k).foldl (fun v i=>v.set i (jN L i)) (aS 32 0)
theorem si(L:List Nat)(k:Nat):outW L (k+1)=(outW L k).set k (jN L k):=jg (fun v i=>v.set i (jN L i)) _ k
theorem Uh(L:List Nat)(k:Nat):(outW L k).length=32:=by
 induction k with
 |zero=>exact sB
 |succ k ih=>rw[si,List.length_set,ih]
theorem XY(L:List Nat)(k:Nat)(hk:k≤32):outW L k=(aD k).map (jN L)++aS (32-k) 0:=by
 induction k with
 |zero=>rfl
 |succ k ih=>
  rw[si,ih aY,List.range_succ,eT,List.set_append_right _ _ (by rw[ay,List.length_range];omega),ay,List.length_range,Nat.sub_self,show 32-k=(32-(k+1))+1 by omega,List.replicate_succ,List.append_assoc];rfl
theorem XZ:(ai.info? 5).map (·.size)=some 1:=by kernel_rfl
theorem abu{w:World}{V g dL dC sL sC:Nat}{t ty:TypeId}{v u:List Nat}(hV:aG w V t (bQ v))(ho:u.length≤v.length)(hsrc:∀j,j<u.length→w.cell? ⟨g,j,none⟩=some (.int .u8 (bA u j:Int)))(hn:u.length=Nat.min sL dL):∃w',(Builtin.copy_ #[89,89] ty #[.slice (some ⟨V,0,none⟩) dL dC,.slice (some ⟨g,0,none⟩) sL sC]).run ai w=.ok (goInt u.length) w'∧aG w' V t (bQ (u++v.drop u.length))∧Keeps (fun k=>k=V) w w':=by
 have h:=run_copy_row (P:=ai) w 89 89 ty 5 V 0 dL dC ⟨g,0,none⟩ sL sC (bQ v) t (u.map fun x:Nat=>Value.int .u8 x) ew XZ hV (by rw[ay];exact hn) (fun j x hx=>by
  rw[J9];have hj:j<u.length:=by
   have:=(List.getElem?_eq_some_iff.1 hx).1;rwa [ay]at this
  rw[bR,ag hj]at hx;injection hx with hx
  subst hx;rw[hsrc j hj];unfold bA;rw[aB,ag hj];rfl) (by rw[ay];unfold bQ;rw[af4,ay,Nat.zero_add];exact ho) (fun x hx=>by
  obtain⟨n,_,rfl⟩:=List.mem_map.1 hx;rfl)
 rw[ay]at h;refine⟨_,h,?_,⟨rfl,rfl,rfl,by rw[setRow_size];exact Nat.le_refl _,fun k _ hk=>setRow_other w V k _ hk⟩⟩;have e:((bQ v).toList.take 0++(u.map fun x:Nat=>Value.int .u8 x)++(bQ v).toList.drop (0+u.length)).toArray=bQ (u++v.drop u.length):=by
  unfold bQ;rw[eT,List.map_drop,List.take_zero,List.nil_append,Nat.zero_add]
 rw[e];exact setRow_heap w V _ _ t (0,0) hV
theorem Ui{w:World}(ord:ft w){g lo:Nat}{b:Bl}(ok:b.Ok)(hn:b.n+b.rest.length≤33554432)(hne:0<b.rest.length)(hb:Og lo w g b):Calls ai 195 #[.pointer (some ⟨g,0,none⟩)] w (Got (.string ⟨(b.sum.map agq).toArray⟩) w):=by
 obtain⟨rv,h1,h2⟩:=hb;obtain⟨A,cp,hrv⟩:=pQ h2;subst hrv;have c8:=h1.size ok.h;obtain⟨H1,H2,Oi,Ba⟩:=fH h1 h2 ok ord;clear h1 h2 ok ord;go_enter Tryz.func195,Tryz.ntmps195;go_upto_region 3 with fail
 refine wp_region_lit ?_
 iterate 6 go_step
 refine wpList_load_row rfl _ _ rfl g rfl _ _ (0,0) _ H1.out Tryz.underlying270 rfl (by rw[wO Oi.out.h];exact yX) ?_;refine qQ rfl rfl ?_;refine wpList_store_row rfl _ _ _ rfl w.heap.size _ rfl rfl 270 yW (heap_alloc_new w _) (by rw[wO Oi.out.h];exact yX) (by rw[wO Oi.out.h];rfl) (XW _ _ _ _ _ _) ?_;have hC:af (fl ((w.alloc (.cells yW 270)).setRow w.heap.size (hsL b.h 32 (.slice A b.rest.length cp) b.n).toArray) w.heap.size b.h 32 (.slice A b.rest.length cp) b.n):=ae (setRow_heap _ _ _ _ _ (0,0) (heap_alloc_new w _));have hBl:af (Below w.heap.size w ((w.alloc (.cells yW 270)).setRow w.heap.size (hsL b.h 32 (.slice A b.rest.length cp) b.n).toArray)):=ae ⟨rfl,rfl,rfl,by rw[setRow_size];simp,fun k hk=>by rw[setRow_other _ _ _ _ aY];exact heap_alloc_old w _ hk⟩;have H2b:=ae (iw H2.out (fun q hq=>hBl.out.block q (Bd H2.out hq)));clear c8 H2;generalize(w.alloc (.cells yW 270)).setRow w.heap.size (hsL b.h 32 (.slice A b.rest.length cp) b.n).toArray=w1 at hC hBl H2b⊢;generalize hCe:w.heap.size=C at hC hBl⊢;have HCe:=ae hCe;clear hCe;have c9:=hC.out.rest Oi.out.h;have c10:=hC.out.num Oi.out.h;have f10:=aG.frozen (g:=C) hC.out 10;obtain⟨m,hm⟩:∃m,m=b.n+b.rest.length:=⟨_,rfl⟩;have e0:IntKind.u64.wrap (b.rest.length:Int)=(b.rest.length:Int):=by rw[kR];omega
 have e1:IntKind.u64.wrap ((b.n:Int)+(b.rest.length:Int))=(m:Int):=by rw[kR];omega
 obtain⟨h3,HM⟩:=aQ (hC.out.Ue Oi.out.h m) hm;clear hm;go_upto_region 5 with fail
 obtain⟨X6,HR2⟩:=aQ (hBl.out.setCell (p:=⟨C,10,none⟩) (Nat.le_refl _) (.int .u64 m)) (iw H2b.out (w':=w1.setCell ⟨C,10,none⟩ (.int .u64 m)) (fun q hq=>oH _ _ _ _ _ (uz H2b.out hC.out hq)));clear c9 c10 f10 e0 e1 hBl H2b hC H1;generalize w1.setCell ⟨C,10,none⟩ (.int .u64 m)=w2 at h3 X6 HR2⊢;go_upto_region 6 with fail
 have hD0:=aG.new w2 272 (bQ (aS 64 0));have hb2:=boxed w2 (.cells (bQ (aS 64 0)) 272);have h4:fl (w2.alloc (.cells (bQ (aS 64 0)) 272)) C b.h 32 (.slice A b.rest.length cp) m:=aG.below (g:=C) h3.out hb2 (aG.lt (g:=C) h3.out);have HR3:=ae (iw HR2.out (fun q hq=>hb2.block q (Bd HR2.out hq)));have X7:=ae (X6.out.trans (hb2.mono (by have:=X6.out.size;have:=HCe.out;omega)));have hCD:af (C<w2.heap.size):=ae (aG.lt (g:=C) h3.out);rw[show bQ (aS 64 0)= #[.int .u8 0,.int .u8 0,.int .u8 0,.int .u8 0,.int .u8 0,.int .u8 0,.int .u8 0,.int .u8 0,.int .u8 0,.int .u8 0,.int .u8 0,.int .u8 0,.int .u8 0,.int .u8 0,.int .u8 0,.int .u8 0,.int .u8 0,.int .u8 0,.int .u8 0,.int .u8 0,.int .u8 0,.int .u8 0,.int .u8 0,.int .u8 0,.int .u8 0,.int .u8 0,.int .u8 0,.int .u8 0,.int .u8 0,.int .u8 0,.int .u8 0,.int .u8 0,.int .u8 0,.int .u8 0,.int .u8 0,.int .u8 0,.int .u8 0,.int .u8 0,.int .u8 0,.int .u8 0,.int .u8 0,.int .u8 0,.int .u8 0,.int .u8 0,.int .u8 0,.int .u8 0,.int .u8 0,.int .u8 0,.int .u8 0,.int .u8 0,.int .u8 0,.int .u8 0,.int .u8 0,.int .u8 0,.int .u8 0,.int .u8 0,.int .u8 0,.int .u8 0,.int .u8 0,.int .u8 0,.int .u8 0,.int .u8 0,.int .u8 0,.int .u8 0]from rfl]at hD0 h4 HR3 X7;obtain⟨HD0,H4⟩:=aQ hD0 h4;clear hD0 hb2 h4 HR2 X6 h3;generalize w2.alloc (.cells #[.int .u8 0,.int .u8 0,.int .u8 0,.int .u8 0,.int .u8 0,.int .u8 0,.int .u8 0,.int .u8 0,.int .u8 0,.int .u8 0,.int .u8 0,.int .u8 0,.int .u8 0,.int .u8 0,.int .u8 0,.int .u8 0,.int .u8 0,.int .u8 0,.int .u8 0,.int .u8 0,.int .u8 0,.int .u8 0,.int .u8 0,.int .u8 0,.int .u8 0,.int .u8 0,.int .u8 0,.int .u8 0,.int .u8 0,.int .u8 0,.int .u8 0,.int .u8 0,.int .u8 0,.int .u8 0,.int .u8 0,.int .u8 0,.int .u8 0,.int .u8 0,.int .u8 0,.int .u8 0,.int .u8 0,.int .u8 0,.int .u8 0,.int .u8 0,.int .u8 0,.int .u8 0,.int .u8 0,.int .u8 0,.int .u8 0,.int .u8 0,.int .u8 0,.int .u8 0,.int .u8 0,.int .u8 0,.int .u8 0,.int .u8 0,.int .u8 0,.int .u8 0,.int .u8 0,.int .u8 0,.int .u8 0,.int .u8 0,.int .u8 0,.int .u8 0] 272)=w3 at HD0 H4 HR3 X7⊢;generalize w2.heap.size=D at HD0 hCD⊢;rw[←show bQ (aS 64 0)= #[.int .u8 0,.int .u8 0,.int .u8 0,.int .u8 0,.int .u8 0,.int .u8 0,.int .u8 0,.int .u8 0,.int .u8 0,.int .u8 0,.int .u8 0,.int .u8 0,.int .u8 0,.int .u8 0,.int .u8 0,.int .u8 0,.int .u8 0,.int .u8 0,.int .u8 0,.int .u8 0,.int .u8 0,.int .u8 0,.int .u8 0,.int .u8 0,.int .u8 0,.int .u8 0,.int .u8 0,.int .u8 0,.int .u8 0,.int .u8 0,.int .u8 0,.int .u8 0,.int .u8 0,.int .u8 0,.int .u8 0,.int .u8 0,.int .u8 0,.int .u8 0,.int .u8 0,.int .u8 0,.int .u8 0,.int .u8 0,.int .u8 0,.int .u8 0,.int .u8 0,.int .u8 0,.int .u8 0,.int .u8 0,.int .u8 0,.int .u8 0,.int .u8 0,.int .u8 0,.int .u8 0,.int .u8 0,.int .u8 0,.int .u8 0,.int .u8 0,.int .u8 0,.int .u8 0,.int .u8 0,.int .u8 0,.int .u8 0,.int .u8 0,.int .u8 0]from rfl]at HD0;obtain⟨q,hq⟩:=yV HR3.out aY;subst hq;have c9:=H4.out.rest Oi.out.h;have adC:=Oi.out.rest;refine wp_region_still_tail 3 bJ bJ ?_;simp only[List.take_succ_cons,List.take_zero,List.drop_succ_cons,List.drop_zero]
 repeat still_step
 refine wpStill_nil ?_;change wpList _ _ _ _ _ w3.drew;obtain⟨w4,hr4,hD4,hk4⟩:=abu (w:=w3.drew) (V:=D) (g:=q) (dL:=64) (dC:=64) (sL:=b.rest.length) (sC:=cp) (ty:=3) (u:=b.rest) HD0.out.drew (by rw[sB];exact adC) (fun j hj=>sg HR3.out hj) (Nat.min_eq_left adC).symm;refine jE rfl _ _ _ _ rfl rfl rfl hr4 ?_;rw[List.drop_replicate]at hD4;have adD:C≠D:=by have:=hCD.out;omega
 have h5:fl w4 C b.h 32 (.slice (some ⟨q,0,none⟩) b.rest.length cp) m:=aG.keep (g:=C) (aG.drew (g:=C) H4.out) hk4 adD;have hb4:=X7.out.drew.trans (hk4.below (B:=C) (fun x hx=>by have:=hCD.out;omega) (Nat.le_of_lt (aG.lt (g:=C) H4.out)));generalize hp:b.rest++aS (64-b.rest.length) 0=p at hD4;have hpl:p.length=64:=by rw[←hp,aj,sB];omega
 have hpb:∀i,bA p i<256:=fun i=>by
  unfold bA;rw[aB];rcases hi:p[i]? with _|x
  ·simp
  ·have hx:=List.mem_of_getElem? hi;rw[←hp]at hx;rcases List.mem_append.1 hx with hx|hx
   ·exact Oi.out.byte x hx
   ·rw[(List.mem_replicate.1 hx).2];decide
 have hm':m<18446744073709551616:=by have:=HM.out;omega
 have ht:=yT (Ba.out.below hb4 (by have:=HCe.out;have:=Ba.out.lt;omega)) Oi.out.h h5 hm' (gp:=D) (cap:=64) (p:=p) (fun i hi=>by
  rw[hD4.cell i];unfold bQ bA;rw[Jl,bR,aB,ag (by rw[hpl];exact hi)];rfl) hpb adD.symm (by have:=HCe.out;have:=Ba.out.lt;omega) true
 obtain⟨HT,Hp,HB4⟩:=bO ht hp hb4;clear ht hp hb4 hpb hD4 hk4 hr4 HD0 H4 HR3 X7 h5 c9;go_upto_region 8 with(go_at_call 229;(with_reducible refine HT.out.mono ?_);rintro r w5⟨rfl,h6,k6⟩)
 have hb6:=HB4.out.trans (k6.below (B:=C) (fun x hx=>Nat.le_of_eq hx.symm) (by have:=HB4.out.size;have:=HCe.out;omega));have h7:=h6;have hE0:=aG.new w5 273 (bQ (aS 32 0));have hbE:=boxed w5 (.cells (bQ (aS 32 0)) 273);have H7:=ae (aG.below (g:=C) h7 hbE (aG.lt (g:=C) h7));have ku:=ae (hb6.trans (hbE.mono (by have:=hb6.size;have:=HCe.out;omega)));have hCE:af (C<w5.heap.size):=ae (aG.lt (g:=C) h7);have ZN:=ae hE0;clear h6 h7 k6 hb6 hbE hE0 HT HB4;rw[show bQ (aS 32 0)= #[.int .u8 0,.int .u8 0,.int .u8 0,.int .u8 0,.int .u8 0,.int .u8 0,.int .u8 0,.int .u8 0,.int .u8 0,.int .u8 0,.int .u8 0,.int .u8 0,.int .u8 0,.int .u8 0,.int .u8 0,.int .u8 0,.int .u8 0,.int .u8 0,.int .u8 0,.int .u8 0,.int .u8 0,.int .u8 0,.int .u8 0,.int .u8 0,.int .u8 0,.int .u8 0,.int .u8 0,.int .u8 0,.int .u8 0,.int .u8 0,.int .u8 0,.int .u8 0]from rfl]at H7 ku ZN;have wsL:=rZ Oi.out.h m p true;have hL:af (∀_:Unit,nP b.h m p true=b.last):=ae (fun _=>by unfold Bl.last;rw[Hp.out,HM.out]);go_upto_region 9 with fail
 generalize w5.alloc (.cells #[.int .u8 0,.int .u8 0,.int .u8 0,.int .u8 0,.int .u8 0,.int .u8 0,.int .u8 0,.int .u8 0,.int .u8 0,.int .u8 0,.int .u8 0,.int .u8 0,.int .u8 0,.int .u8 0,.int .u8 0,.int .u8 0,.int .u8 0,.int .u8 0,.int .u8 0,.int .u8 0,.int .u8 0,.int .u8 0,.int .u8 0,.int .u8 0,.int .u8 0,.int .u8 0,.int .u8 0,.int .u8 0,.int .u8 0,.int .u8 0,.int .u8 0,.int .u8 0] 273)=w6 at H7 ku ZN⊢;generalize w5.heap.size=E at ZN hCE⊢;rw[←show bQ (aS 32 0)= #[.int .u8 0,.int .u8 0,.int .u8 0,.int .u8 0,.int .u8 0,.int .u8 0,.int .u8 0,.int .u8 0,.int .u8 0,.int .u8 0,.int .u8 0,.int .u8 0,.int .u8 0,.int .u8 0,.int .u8 0,.int .u8 0,.int .u8 0,.int .u8 0,.int .u8 0,.int .u8 0,.int .u8 0,.int .u8 0,.int .u8 0,.int .u8 0,.int .u8 0,.int .u8 0,.int .u8 0,.int .u8 0,.int .u8 0,.int .u8 0,.int .u8 0,.int .u8 0]from rfl]at ZN;generalize nP b.h m p true=L at H7 wsL hL;clear Hp HM;go_wp2_with fail
 go_loopw [33] (fun v33 wi=>∃k:Nat,k≤32∧v33=.int .i64 k∧af (fl wi C L 32 (.slice (some ⟨q,0,none⟩) b.rest.length cp) m)∧af (aG wi E 273 (bQ (outW L k)))∧af (Below C w wi)) (fun v33 _=>32-(intOf v33).toNat)
 case atStart=>exact⟨0,by omega,rfl,H7,ZN,ku⟩
 case round=>
  obtain⟨k,hk,rfl,hH,hE,hB⟩:=hrel;obtain⟨wo,rfl⟩:∃wo:World,wo=wr:=⟨_,rfl⟩;clear H7 ZN ku;by_cases hlt:k<32
  ·have hs:=si L k;have hq8:k/4<8:=by omega
   have c0:=hH.out.word wsL hq8;have f0:=aG.frozen (g:=E) hE.out k;have d0:wo.cell? ⟨E,k,none⟩=some (.int .u8 (bA (outW L k) k:Int)):=by
    rw[hE.out.cell k];unfold bQ bA;rw[Jl,bR,aB,ag (by rw[Uh];exact hlt)];rfl
   generalize bA (outW L k) k=Y0 at d0;have hput:aG (wo.setCell ⟨E,k,none⟩ (.int .u8 (jN L k:Int))) E 273 (bQ (outW L (k+1))):=by
    rw[hs];have:=aG.aM hE.out k (.int .u8 (jN L k:Int));unfold bQ at this⊢;rw[List.setIfInBounds_toArray,←List.map_set]at this;exact this
   unfold jN at hput;have Fg:=ae hput;have a0:(0:Int)≤(k:Int):=by omega
   have a1:(k:Int)<32:=by omega
   clear hput hs;generalize bA L (k/4)=X at c0 Fg;have hEC:C≠E:=by have:=hCE.out;omega
   go_wp2_with fail
   go_roundw
   case rel=>
    have e:((X/2^(k%4*8)%256:Nat):Int)=(X:Int)/2^(k%4*8)%256:=by simp
    rw[←e];exact⟨k+1,by omega,by go_num,ae (aG.far hH.out (p:=⟨E,k,none⟩) hEC _),Fg,ae (hB.out.setCell (p:=⟨E,k,none⟩) (Nat.le_of_lt hCE.out) _)⟩
   case measure=>simp[intOf];omega
  ·obtain rfl:k=32:=by omega
   have c8:=hH.out.size wsL;have hl:∀i,i<32→jN L i<256:=fun i _=>Nat.mod_lt _ (by decide)
   have hback:=run_convert_bytes_back (P:=ai) wo 89 9 5 ⟨E,0,none⟩ 32 (((aD 32).map (jN L)).map agq) ew cB bL (fun j hj=>by
    have hj:j<32:=by simpa using hj
    rw[J9,hE.out.cell j,XY L 32 aI];have hv:jN L j%256=jN L j:=Nat.mod_eq_of_lt (hl j hj);have hv':((jN L j:Nat):Int)%256=(jN L j:Int):=by omega
    unfold bQ;simp[hj,hv,hv'])
   rw[ay,ay,List.length_range]at hback;have HFin:af (∀_:Unit,((aD 32).map (jN L)).map agq=b.sum.map agq):=ae (fun _=>by unfold Bl.sum;rw[hL.out ()]);generalize((aD 32).map (jN L)).map agq=Z at hback HFin;have HB:=ae hB;clear hB hH hE hl;go_wp2_with fail
   go_ret;exact⟨by rw[←HFin.out ()];rfl,by rw[HCe.out];exact HB.out.out⟩
theorem Uj{w:World}{lo g:Nat}(h:fl w g Bc 32 (.slice none 0 0) 0):Og lo w g Bl.new:=⟨.slice none 0 0,h,World.ownsRow_nil _ _ _ _⟩
theorem Bl.Uk(b:Bl){l:List Nat}(h:l≠[]):0<(b.adds l).rest.length:=by
 rw[←List.dropLast_concat_getLast h,Bl.yU];unfold Bl.add;split
 ·exact Nat.one_pos
 ·simp
theorem Oj{w:World}(ord:ft w)(s:ByteArray)(hs:s.size≤16777216)(h0:s.size≠0):Calls ai 155 #[.int .i64 32,.string ⟨#[]⟩,.string s] w fun r w'=>r=.returned (.tuple #[.string (sc s),.int .i64 0])∧Below w.heap.size w w':=by
 have HN:=ae fun u=>Ud u
 have HO:=ae ord;have hne:s.data.toList.map UInt8.toNat≠[]:=fun h=>h0 (by
  have:=congrArg List.length h;rw[ay]at this;exact this)
 have hll:(s.data.toList.map UInt8.toNat).length=s.size:=by rw[ay];rfl
 have hb:∀x∈s.data.toList.map UInt8.toNat,x<256:=fun x hx=>by
  obtain⟨y,_,rfl⟩:=List.mem_map.1 hx;exact y.toNat_lt
 obtain⟨HK,HP⟩:=aQ (Bl.J6 hb Bl.TV) (Bl.Uk Bl.new hne);have hn:=Bl.TW (s.data.toList.map UInt8.toNat) Bl.new;rw[hll]at hn;have HL:af ((Bl.new.adds (s.data.toList.map UInt8.toNat)).n+(Bl.new.adds (s.data.toList.map UInt8.toNat)).rest.length≤33554432):=ae (by rw[hn];show 0+0+s.size≤_;omega);obtain⟨hlt,HS⟩:=aQ ord.lt hs;clear ord hne hll hb hn h0 hs;go_enter Tryz.func155,Tryz.ntmps155;go_wp2_with(first
  |(go_at_call 193;(with_reducible refine(HN.out _).mono ?_);rintro r w1⟨⟨g,hg,rfl,h1⟩,d1⟩;have HA:=ae (Ug (HO.out.below d1 hlt.out) Bl.TV s HS.out aI hg d1.size hlt.out (Uj h1));obtain⟨HO1,D1⟩:=aQ (HO.out.below d1 hlt.out) d1;clear h1 d1 hg)
  |(go_at_call 194;(with_reducible refine HA.out.mono ?_);rintro r w2⟨rfl,h2,d2⟩;have hS:Calls ai 195 #[.pointer (some ⟨g,0,none⟩)] w2 (Got (.string (sc s)) w2):=Ui (HO1.out.below d2 hlt.out) HK.out HL.out HP.out h2;obtain⟨HSm,D2⟩:=aQ hS (D1.out.trans d2);clear h2 d2 hS HA)
  |(go_at_call 195;(with_reducible refine HSm.out.mono ?_);rintro r w3⟨rfl,d3⟩))
 go_ret2;exact⟨rfl,after D2.out d3⟩
theorem Ul{w:World}(ord:ft w)(s:ByteArray)(hs:s.size≤16777216)(h0:s.size≠0):Calls ai 93 #[.string s] w (Got (.string (sc s)) w):=by
 have HS:=ae (Oj ord s hs h0);generalize sc s=t at HS⊢;clear ord hs h0;go_enter Tryz.func93,Tryz.ntmps93;go_wp2_with(go_at_call 155;(with_reducible refine HS.out.mono ?_);rintro r w2⟨rfl,d2⟩)
 go_ret;exact⟨rfl,d2⟩
def cL(m:Mp):ByteArray:=if(cJ m).2=0 then sc (cJ m).1 else⟨#[]⟩
theorem wP{m:Mp}(h:(cJ m).2=0):(cJ m).1.size≤32768∧(cJ m).1.size≠0:=by
 have h3:=vK (may:=ip m) (b:=xJ m) h;have e:(cJ m).1=iF (xJ m):=congrArg Prod.fst h3.2.2;rw[e,RQ];refine⟨h3.2.1,?_⟩;unfold xJ;rw[aj,aR];omega
theorem sj{w:World}(env:Env w)(ord:ft w){pv rv:Value}{m:Mp}(hp:dP w pv m.aJ)(hr:gi w rv m.aF)(fit:jM m)(sz:∀p∈m.aJ,gI p)(hpl:m.aJ.length≤4000000)(hrl:m.aF.length≤4000000)(hol:m.policy.size≤2000000)(hml:ip m=true→(xJ m).length≤80000000):Calls ai 31 #[.agg #[.int .u64 (m.version:Int),pv,rv,.string m.policy]] w (Got (.string (cL m)) w):=by
 have he:=fun u(hu:Below w.heap.size w u)=>pM (env.below hu) (hp.below hu) (aV.below hr hu) fit sz hpl hrl hol hml
 have hh:∀u,Below w.heap.size w u→(cJ m).2=0→Calls ai 93 #[.string (cJ m).1] u (Got (.string (cL m)) u):=fun u hu h=>by
  have:=Ul (ord.below hu ord.lt) (cJ m).1 (by have:=(wP h).1;omega) (wP h).2;unfold cL;rw[if_pos h];exact this
 have h0:(cJ m).2≠0→cL m=⟨#[]⟩:=fun h=>by unfold cL;rw[if_neg h]
 obtain⟨Ap,cp,rfl⟩:=hp.shape;obtain⟨Ar,cr,rfl⟩:=aV.shape hr;generalize cL m=G at hh h0⊢;generalize cJ m=R at he hh h0;obtain⟨version,aJ,aF,policy⟩:=m;simp only at*;generalize aF.length=NR at*;generalize aJ.length=NP at*;obtain⟨HE,HH,H0,HB,HM⟩:=kp he hh h0 (boxed w (.cells #[.int .u64 version,.slice Ap NP cp,.slice Ar NR cr,.string policy] 26)) (aG.new w 26 #[.int .u64 version,.slice Ap NP cp,.slice Ar NR cr,.string policy]);clear he hh h0 hp hr fit sz hpl hrl hol hml env ord;go_enter Tryz.func31,Tryz.ntmps31;go_upto_region 1 with fail
 generalize w.alloc (.cells #[.int .u64 version,.slice Ap NP cp,.slice Ar NR cr,.string policy] 26)=w1 at HB HM⊢;generalize w.heap.size=P at HM⊢;obtain⟨m0,m1,m2,m3⟩:=jB HM;go_upto_region 2 with(go_at_call 23;(with_reducible refine(HE.out _ HB.out).mono ?_);rintro r w2⟨⟨t,e,hte,rfl⟩,d2⟩;have Hte:=ae hte;have HB2:=bm HB d2;clear hte d2)
 by_cases hz:e=0
 ·have HO:=HH.out _ HB2.out (by rw[←Hte.out];exact hz);rw[←Hte.out]at HO;have HO':=ae HO;simp only at HO';have q0:((e:Int) !=0)=false:=by simp[hz]
  clear HO hz;go_wp2_with(go_at_call 93;(with_reducible refine HO'.out.mono ?_);rintro r w3⟨rfl,d3⟩)
  go_ret;exact⟨rfl,after HB2.out d3⟩
 ·have HG:=ae (H0.out (by rw[←Hte.out];exact hz));have q0:((e:Int) !=0)=true:=by simp;omega
  clear hz;go_wp2_with fail
  go_ret;exact⟨by rw[HG.out];rfl,HB2.out⟩
theorem ae7(x y:ByteArray):(x==y)=decide (x=y):=by
 obtain⟨a⟩:=x;obtain⟨b⟩:=y;show(a==b)=_;rw[kq,decide_eq_true_eq,beq_iff_eq,ByteArray.mk.injEq]
theorem ZO(x y:Ad)(w:World):(binOp .neq 44 (.agg x.cells) (.agg y.cells)).run ai w=.ok (.bool (!decide (x=y))) w:=by
 have h:=uo x.hi x.lo y.hi y.lo x.v6 y.v6 9997 w;rw[Sj]at h;unfold Ad.cells;simp only[binOp];simp[Op.equal,Op.maxDepth,h]
theorem ZQ(x y:En)(w:World):(binOp .neq 69 (.agg (bV x).toArray) (.agg (bV y).toArray)).run ai w=.ok (.bool (!decide (x=y))) w:=by
 have h:(Op.equalIn 10000 69 (.agg (bV x).toArray) (.agg (bV y).toArray)).run ai w=.ok (decide (x=y)) w:=Aj x y 9996 w;unfold bV at h⊢;simp only[binOp];simp[Op.equal,Op.maxDepth,h]
theorem X8(x y:Ry)(d:Nat)(w:World):(Op.equalIn (d+5) 71 (.agg (bI x).toArray) (.agg (bI y).toArray)).run ai w=.ok (decide (x=y)) w:=by
 have h32:ai.stoodInHeld 71=false:=by kernel_rfl
 have ha:=fun w=>Aj x.fin y.fin d w
 unfold tu vO at ha;have hp:∀w,(Op.equalIn (d+4) 5 (.int .u8 (x.id:Int)) (.int .u8 (y.id:Int))).run ai w=.ok (decide (x.id=y.id)) w:=by
  intro w;rw[show decide (x.id=y.id)=((x.id:Int)==(y.id:Int)) by rw[kq,decide_eq_true_eq,beq_iff_eq];omega];simp[go_sem,cB,Op.equalIn]
 have hk:∀w,(Op.equalIn (d+4) 9 (.string x.key) (.string y.key)).run ai w=.ok (decide (x.key=y.key)) w:=by
  intro w;rw[←ae7];simp[go_sem,bL,Op.equalIn]
 obtain⟨i,k,⟨⟨a,b,c⟩,p⟩⟩:=x;obtain⟨i',k',⟨⟨a',b',c'⟩,p'⟩⟩:=y;simp only at ha hp hk;unfold bI;rw[run_equalIn_struct w (d+4) 71 _ _ bJ h32];simp[go_sem,Tryz.underlying71,part,ha,hp,hk];by_cases h1:i=i'<;>by_cases h2:k=k'<;>by_cases h3:((⟨a,b,c⟩:Ad),p)=(⟨a',b',c'⟩,p')<;>simp_all
theorem adF(x y:Ry)(w:World):(binOp .neq 71 (.agg (bI x).toArray) (.agg (bI y).toArray)).run ai w=.ok (.bool (!decide (x=y))) w:=by
 have h:(Op.equalIn 10000 71 (.agg (bI x).toArray) (.agg (bI y).toArray)).run ai w=.ok (decide (x=y)) w:=X8 x y 9995 w;unfold bI at h⊢;simp only[binOp];simp[Op.equal,Op.maxDepth,h]
theorem X9{w:World}{v1 v2:Value}(l m:List ByteArray)(hl:l.length≤4000000)(hm:m.length≤4000000)(h1:aV w v1 l.length 1 (strCells l))(h2:aV w v2 m.length 1 (strCells m)):Calls ai 105 #[v1,v2] w (Got (.bool (decide (l=m))) w):=by
 obtain⟨A1,cap1,rfl,_,hA1⟩:=h1;obtain⟨A2,cap2,rfl,_,hA2⟩:=h2;obtain⟨HA1,HA2⟩:=aQ hA1 hA2;clear hA1 hA2;by_cases hn:l.length=m.length
 ·obtain⟨N,hN⟩:∃n,n=l.length:=⟨_,rfl⟩;rw[←hn]at HA2 hm⊢;rw[←hN]at HA1 HA2 hl⊢;obtain⟨jI,lU⟩:=aQ hN (hN.trans hn);clear hn hN hm;obtain⟨R,hR⟩:∃r,r=decide (l=m):=⟨_,rfl⟩;rw[←hR];have HR:=ae hR;clear hR;go_enter Tryz.func105,Tryz.ntmps105;go_wp2_with fail
  go_loopw [13] (fun v13 wr=>∃k:Nat,k≤N∧v13=.int .i64 k∧af (Below w.heap.size w wr)∧af (l.take k=m.take k)) (fun v13 _=>N-(intOf v13).toNat)
  case atStart=>exact⟨0,bF _,rfl,ae (aK _ _),ae rfl⟩
  case round=>
   obtain⟨k,hk,rfl,HW,hsame⟩:=hrel;by_cases hlt:k<N
   ·have hkl:k<l.length:=by have:=jI.out;omega
    have hkm:k<m.length:=by have:=lU.out;omega
    obtain⟨q1,o1,rfl,hc1⟩:=HA1.out aY;obtain⟨q2,o2,rfl,hc2⟩:=HA2.out aY;have ht1:=aA hkl;have ht2:=aA hkm;have hne:l[k]≠m[k]→l≠m:=fun h e=>h (by simp only[e])
    have d1:=ak (hc1 k _ (by unfold strCells;rw[bR,ag hkl];rfl)) HW.out;have d2:=ak (hc2 k _ (by unfold strCells;rw[bR,ag hkm];rfl)) HW.out;generalize l[k]=X at ht1 hne d1;generalize m[k]=Y at ht2 hne d2;clear hc1 hc2 hkl hkm;by_cases hX:(X:ByteArray)=Y
    ·have Ol:af (l.take (k+1)=m.take (k+1)):=ae (by rw[ht1,ht2,hsame.out,hX]);have hq:(X.toList==Y.toList)=true:=by rw[hX];simp
     clear ht1 ht2 hne hX;go_upto_region 6 with fail
     go_quiet (fail);go_wp2_with fail
     go_roundw
     case rel=>exact⟨k+1,by omega,by go_num,ae (HW.out.gy _),Ol⟩
     case measure=>simp[intOf];omega
    ·have ej:af (R=false):=ae (by rw[HR.out];exact decide_eq_false (hne hX));have hq:(X.toList==Y.toList)=false:=by simp only[beq_eq_false_iff_ne,ne_eq];exact fun h=>hX (toList_inj h)
     clear ht1 ht2 hne hX;go_upto_region 6 with fail
     go_quiet (fail);go_wp2_with fail
     go_ret;exact⟨by rw[ej.out];rfl,HW.out.gy _⟩
   ·obtain rfl:k=N:=by omega
    have ej:af (R=true):=ae (by
     rw[HR.out];have e:=hsame.out;rw[aO (by have:=jI.out;omega),aO (by have:=lU.out;omega)]at e;exact decide_eq_true e)
    go_wp2_with fail
    go_ret;exact⟨by rw[ej.out];rfl,HW.out⟩
 ·have hd:decide (l=m)=false:=decide_eq_false fun e=>hn (by rw[e])
  rw[hd];generalize l.length=N1 at*;generalize m.length=N2 at*;have hne:((N1:Int) !=(N2:Int))=true:=by simp;omega
  clear hn hd HA1 HA2;go_enter Tryz.func105,Tryz.ntmps105;go_wp2_with fail
  go_ret;exact⟨rfl,aK _ _⟩
theorem Um{w:World}{v1 v2:Value}(l m:List Ad)(hl:l.length≤4000000)(hm:m.length≤4000000)(h1:aV w v1 l.length 3 (cR l))(h2:aV w v2 m.length 3 (cR m)):Calls ai 106 #[v1,v2] w (Got (.bool (decide (l=m))) w):=by
 obtain⟨A1,cap1,rfl,_,hA1⟩:=h1;obtain⟨A2,cap2,rfl,_,hA2⟩:=h2;obtain⟨HA1,HA2⟩:=aQ hA1 hA2;clear hA1 hA2;by_cases hn:l.length=m.length
 ·obtain⟨N,hN⟩:∃n,n=l.length:=⟨_,rfl⟩;rw[←hn]at HA2 hm⊢;rw[←hN]at HA1 HA2 hl⊢;obtain⟨jI,lU⟩:=aQ hN (hN.trans hn);clear hn hN hm;obtain⟨R,hR⟩:∃r,r=decide (l=m):=⟨_,rfl⟩;rw[←hR];have HR:=ae hR;clear hR;go_enter Tryz.func106,Tryz.ntmps106;go_wp2_with fail
  go_loopw [13] (fun v13 wr=>∃k:Nat,k≤N∧v13=.int .i64 k∧af (Below w.heap.size w wr)∧af (l.take k=m.take k)) (fun v13 _=>N-(intOf v13).toNat)
  case atStart=>exact⟨0,bF _,rfl,ae (aK _ _),ae rfl⟩
  case round=>
   obtain⟨k,hk,rfl,HW,hsame⟩:=hrel;by_cases hlt:k<N
   ·have hkl:k<l.length:=by have:=jI.out;omega
    have hkm:k<m.length:=by have:=lU.out;omega
    obtain⟨q1,o1,rfl,hc1⟩:=HA1.out aY;obtain⟨q2,o2,rfl,hc2⟩:=HA2.out aY;have ht1:=aA hkl;have ht2:=aA hkm;have hne:l[k]≠m[k]→l≠m:=fun h e=>h (by simp only[e])
    have g10:=aE (fun a:Ad=>a.cells.toList) 3 (fun a:Ad=>rfl) (ag hkl) (r:=0) rfl;have g11:=aE (fun a:Ad=>a.cells.toList) 3 (fun a:Ad=>rfl) (ag hkl) (r:=1) rfl;have g12:=aE (fun a:Ad=>a.cells.toList) 3 (fun a:Ad=>rfl) (ag hkl) (r:=2) rfl;have g20:=aE (fun a:Ad=>a.cells.toList) 3 (fun a:Ad=>rfl) (ag hkm) (r:=0) rfl;have g21:=aE (fun a:Ad=>a.cells.toList) 3 (fun a:Ad=>rfl) (ag hkm) (r:=1) rfl;have g22:=aE (fun a:Ad=>a.cells.toList) 3 (fun a:Ad=>rfl) (ag hkm) (r:=2) rfl;have d10:=ak (hc1 _ _ g10) HW.out;have d11:=ak (hc1 _ _ g11) HW.out;have d12:=ak (hc1 _ _ g12) HW.out;have nA:=ak (hc2 _ _ g20) HW.out;have tf:=ak (hc2 _ _ g21) HW.out;have ti:=ak (hc2 _ _ g22) HW.out;clear g10 g11 g12 g20 g21 g22;generalize l[k]=X at ht1 hne d10 d11 d12;generalize m[k]=Y at ht2 hne nA tf ti;have hqq:=fun W=>ZO X Y W
    obtain⟨v1,hi1,lo1⟩:=X;obtain⟨v2,hi2,lo2⟩:=Y;unfold Ad.cells at hqq;simp only at hqq d10 d11 d12 nA tf ti;rw[cN]at d10 nA;rw[←sE]at d11 d12 tf ti;clear hc1 hc2 hkl hkm;by_cases hX:(⟨v1,hi1,lo1⟩:Ad)=⟨v2,hi2,lo2⟩
    ·have Ol:af (l.take (k+1)=m.take (k+1)):=ae (by rw[ht1,ht2,hsame.out,hX]);have hq:=hqq;rw[decide_eq_true hX]at hq;simp only[Bool.not_true]at hq;clear hqq;clear ht1 ht2 hne hX;go_upto_region 6 with fail
     go_quiet (fail);go_wp2_with fail
     go_roundw
     case rel=>exact⟨k+1,by omega,by go_num,ae (HW.out.gy _),Ol⟩
     case measure=>simp[intOf];omega
    ·have ej:af (R=false):=ae (by rw[HR.out];exact decide_eq_false (hne hX));have hq:=hqq;rw[decide_eq_false hX]at hq;simp only[Bool.not_false]at hq;clear hqq;clear ht1 ht2 hne hX;go_upto_region 6 with fail
     go_quiet (fail);go_wp2_with fail
     go_ret;exact⟨by rw[ej.out];rfl,HW.out.gy _⟩
   ·obtain rfl:k=N:=by omega
    have ej:af (R=true):=ae (by
     rw[HR.out];have e:=hsame.out;rw[aO (by have:=jI.out;omega),aO (by have:=lU.out;omega)]at e;exact decide_eq_true e)
    go_wp2_with fail
    go_ret;exact⟨by rw[ej.out];rfl,HW.out⟩
 ·have hd:decide (l=m)=false:=decide_eq_false fun e=>hn (by rw[e])
  rw[hd];generalize l.length=N1 at*;generalize m.length=N2 at*;have hne:((N1:Int) !=(N2:Int))=true:=by simp;omega
  clear hn hd HA1 HA2;go_enter Tryz.func106,Tryz.ntmps106;go_wp2_with fail
  go_ret;exact⟨rfl,aK _ _⟩
theorem Un{w:World}{v1 v2:Value}(l m:List En)(hl:l.length≤4000000)(hm:m.length≤4000000)(h1:aV w v1 l.length 4 (kM l))(h2:aV w v2 m.length 4 (kM m)):Calls ai 107 #[v1,v2] w (Got (.bool (decide (l=m))) w):=by
 obtain⟨A1,cap1,rfl,_,hA1⟩:=h1;obtain⟨A2,cap2,rfl,_,hA2⟩:=h2;obtain⟨HA1,HA2⟩:=aQ hA1 hA2;clear hA1 hA2;by_cases hn:l.length=m.length
 ·obtain⟨N,hN⟩:∃n,n=l.length:=⟨_,rfl⟩;rw[←hn]at HA2 hm⊢;rw[←hN]at HA1 HA2 hl⊢;obtain⟨jI,lU⟩:=aQ hN (hN.trans hn);clear hn hN hm;obtain⟨R,hR⟩:∃r,r=decide (l=m):=⟨_,rfl⟩;rw[←hR];have HR:=ae hR;clear hR;go_enter Tryz.func107,Tryz.ntmps107;go_wp2_with fail
  go_loopw [13] (fun v13 wr=>∃k:Nat,k≤N∧v13=.int .i64 k∧af (Below w.heap.size w wr)∧af (l.take k=m.take k)) (fun v13 _=>N-(intOf v13).toNat)
  case atStart=>exact⟨0,bF _,rfl,ae (aK _ _),ae rfl⟩
  case round=>
   obtain⟨k,hk,rfl,HW,hsame⟩:=hrel;by_cases hlt:k<N
   ·have hkl:k<l.length:=by have:=jI.out;omega
    have hkm:k<m.length:=by have:=lU.out;omega
    obtain⟨q1,o1,rfl,hc1⟩:=HA1.out aY;obtain⟨q2,o2,rfl,hc2⟩:=HA2.out aY;have ht1:=aA hkl;have ht2:=aA hkm;have hne:l[k]≠m[k]→l≠m:=fun h e=>h (by simp only[e])
    have g10:=aE bV 4 eO (ag hkl) (r:=0) rfl;have g11:=aE bV 4 eO (ag hkl) (r:=1) rfl;have g12:=aE bV 4 eO (ag hkl) (r:=2) rfl;have g13:=aE bV 4 eO (ag hkl) (r:=3) rfl;have g20:=aE bV 4 eO (ag hkm) (r:=0) rfl;have g21:=aE bV 4 eO (ag hkm) (r:=1) rfl;have g22:=aE bV 4 eO (ag hkm) (r:=2) rfl;have g23:=aE bV 4 eO (ag hkm) (r:=3) rfl;have d10:=ak (hc1 _ _ g10) HW.out;have d11:=ak (hc1 _ _ g11) HW.out;have d12:=ak (hc1 _ _ g12) HW.out;have d13:=ak (hc1 _ _ g13) HW.out;have nA:=ak (hc2 _ _ g20) HW.out;have tf:=ak (hc2 _ _ g21) HW.out;have ti:=ak (hc2 _ _ g22) HW.out;have BW:=ak (hc2 _ _ g23) HW.out;clear g10 g11 g12 g13 g20 g21 g22 g23;generalize l[k]=X at ht1 hne d10 d11 d12 d13;generalize m[k]=Y at ht2 hne nA tf ti BW;have hqq:=fun W=>ZQ X Y W
    obtain⟨⟨v1,hi1,lo1⟩,po1⟩:=X;obtain⟨⟨v2,hi2,lo2⟩,po2⟩:=Y;unfold bV at hqq;simp only at hqq d10 d11 d12 d13 nA tf ti BW;rw[cN]at d10 nA;rw[←sE]at d11 d12 d13 tf ti BW;clear hc1 hc2 hkl hkm;by_cases hX:(⟨⟨v1,hi1,lo1⟩,po1⟩:En)=⟨⟨v2,hi2,lo2⟩,po2⟩
    ·have Ol:af (l.take (k+1)=m.take (k+1)):=ae (by rw[ht1,ht2,hsame.out,hX]);have hq:=hqq;rw[decide_eq_true hX]at hq;simp only[Bool.not_true]at hq;clear hqq;clear ht1 ht2 hne hX;go_upto_region 6 with fail
     go_quiet (fail);go_wp2_with fail
     go_roundw
     case rel=>exact⟨k+1,by omega,by go_num,ae (HW.out.gy _),Ol⟩
     case measure=>simp[intOf];omega
    ·have ej:af (R=false):=ae (by rw[HR.out];exact decide_eq_false (hne hX));have hq:=hqq;rw[decide_eq_false hX]at hq;simp only[Bool.not_false]at hq;clear hqq;clear ht1 ht2 hne hX;go_upto_region 6 with fail
     go_quiet (fail);go_wp2_with fail
     go_ret;exact⟨by rw[ej.out];rfl,HW.out.gy _⟩
   ·obtain rfl:k=N:=by omega
    have ej:af (R=true):=ae (by
     rw[HR.out];have e:=hsame.out;rw[aO (by have:=jI.out;omega),aO (by have:=lU.out;omega)]at e;exact decide_eq_true e)
    go_wp2_with fail
    go_ret;exact⟨by rw[ej.out];rfl,HW.out⟩
 ·have hd:decide (l=m)=false:=decide_eq_false fun e=>hn (by rw[e])
  rw[hd];generalize l.length=N1 at*;generalize m.length=N2 at*;have hne:((N1:Int) !=(N2:Int))=true:=by simp;omega
  clear hn hd HA1 HA2;go_enter Tryz.func107,Tryz.ntmps107;go_wp2_with fail
  go_ret;exact⟨rfl,aK _ _⟩
theorem EF{w:World}{v1 v2:Value}(l m:List Ry)(hl:l.length≤4000000)(hm:m.length≤4000000)(h1:aV w v1 l.length 6 (fL l))(h2:aV w v2 m.length 6 (fL m)):Calls ai 44 #[v1,v2] w (Got (.bool (decide (l=m))) w):=by
 obtain⟨A1,cap1,rfl,_,hA1⟩:=h1;obtain⟨A2,cap2,rfl,_,hA2⟩:=h2;obtain⟨HA1,HA2⟩:=aQ hA1 hA2;clear hA1 hA2;by_cases hn:l.length=m.length
 ·obtain⟨N,hN⟩:∃n,n=l.length:=⟨_,rfl⟩;rw[←hn]at HA2 hm⊢;rw[←hN]at HA1 HA2 hl⊢;obtain⟨jI,lU⟩:=aQ hN (hN.trans hn);clear hn hN hm;obtain⟨R,hR⟩:∃r,r=decide (l=m):=⟨_,rfl⟩;rw[←hR];have HR:=ae hR;clear hR;go_enter Tryz.func44,Tryz.ntmps44;go_wp2_with fail
  go_loopw [13] (fun v13 wr=>∃k:Nat,k≤N∧v13=.int .i64 k∧af (Below w.heap.size w wr)∧af (l.take k=m.take k)) (fun v13 _=>N-(intOf v13).toNat)
  case atStart=>exact⟨0,bF _,rfl,ae (aK _ _),ae rfl⟩
  case round=>
   obtain⟨k,hk,rfl,HW,hsame⟩:=hrel;by_cases hlt:k<N
   ·have hkl:k<l.length:=by have:=jI.out;omega
    have hkm:k<m.length:=by have:=lU.out;omega
    obtain⟨q1,o1,rfl,hc1⟩:=HA1.out aY;obtain⟨q2,o2,rfl,hc2⟩:=HA2.out aY;have ht1:=aA hkl;have ht2:=aA hkm;have hne:l[k]≠m[k]→l≠m:=fun h e=>h (by simp only[e])
    have g10:=aE bI 6 cq (ag hkl) (r:=0) rfl;have g11:=aE bI 6 cq (ag hkl) (r:=1) rfl;have g12:=aE bI 6 cq (ag hkl) (r:=2) rfl;have g13:=aE bI 6 cq (ag hkl) (r:=3) rfl;have g14:=aE bI 6 cq (ag hkl) (r:=4) rfl;have g15:=aE bI 6 cq (ag hkl) (r:=5) rfl;have g20:=aE bI 6 cq (ag hkm) (r:=0) rfl;have g21:=aE bI 6 cq (ag hkm) (r:=1) rfl;have g22:=aE bI 6 cq (ag hkm) (r:=2) rfl;have g23:=aE bI 6 cq (ag hkm) (r:=3) rfl;have g24:=aE bI 6 cq (ag hkm) (r:=4) rfl;have ZR:=aE bI 6 cq (ag hkm) (r:=5) rfl;have d10:=ak (hc1 _ _ g10) HW.out;have d11:=ak (hc1 _ _ g11) HW.out;have d12:=ak (hc1 _ _ g12) HW.out;have d13:=ak (hc1 _ _ g13) HW.out;have lp:=ak (hc1 _ _ g14) HW.out;have ri:=ak (hc1 _ _ g15) HW.out;have nA:=ak (hc2 _ _ g20) HW.out;have tf:=ak (hc2 _ _ g21) HW.out;have ti:=ak (hc2 _ _ g22) HW.out;have BW:=ak (hc2 _ _ g23) HW.out;have Vn:=ak (hc2 _ _ g24) HW.out;have Vo:=ak (hc2 _ _ ZR) HW.out;clear g10 g11 g12 g13 g14 g15 g20 g21 g22 g23 g24 ZR;generalize l[k]=X at ht1 hne d10 d11 d12 d13 lp ri;generalize m[k]=Y at ht2 hne nA tf ti BW Vn Vo;have hqq:=fun W=>adF X Y W
    obtain⟨id1,key1,⟨⟨v1,hi1,lo1⟩,po1⟩⟩:=X;obtain⟨id2,key2,⟨⟨v2,hi2,lo2⟩,po2⟩⟩:=Y;unfold bI at hqq;simp only at hqq d10 d11 d12 d13 lp ri nA tf ti BW Vn Vo;rw[cN]at d10 nA;rw[←sE]at d11 d12 d13 lp ri tf ti BW Vn Vo;clear hc1 hc2 hkl hkm;by_cases hX:(⟨id1,key1,⟨⟨v1,hi1,lo1⟩,po1⟩⟩:Ry)=⟨id2,key2,⟨⟨v2,hi2,lo2⟩,po2⟩⟩
    ·have Ol:af (l.take (k+1)=m.take (k+1)):=ae (by rw[ht1,ht2,hsame.out,hX]);have hq:=hqq;rw[decide_eq_true hX]at hq;simp only[Bool.not_true]at hq;clear hqq;clear ht1 ht2 hne hX;go_upto_region 6 with fail
     go_quiet (fail);go_wp2_with fail
     go_roundw
     case rel=>exact⟨k+1,by omega,by go_num,ae (HW.out.gy _),Ol⟩
     case measure=>simp[intOf];omega
    ·have ej:af (R=false):=ae (by rw[HR.out];exact decide_eq_false (hne hX));have hq:=hqq;rw[decide_eq_false hX]at hq;simp only[Bool.not_false]at hq;clear hqq;clear ht1 ht2 hne hX;go_upto_region 6 with fail
     go_quiet (fail);go_wp2_with fail
     go_ret;exact⟨by rw[ej.out];rfl,HW.out.gy _⟩
   ·obtain rfl:k=N:=by omega
    have ej:af (R=true):=ae (by
     rw[HR.out];have e:=hsame.out;rw[aO (by have:=jI.out;omega),aO (by have:=lU.out;omega)]at e;exact decide_eq_true e)
    go_wp2_with fail
    go_ret;exact⟨by rw[ej.out];rfl,HW.out⟩
 ·have hd:decide (l=m)=false:=decide_eq_false fun e=>hn (by rw[e])
  rw[hd];generalize l.length=N1 at*;generalize m.length=N2 at*;have hne:((N1:Int) !=(N2:Int))=true:=by simp;omega
  clear hn hd HA1 HA2;go_enter Tryz.func44,Tryz.ntmps44;go_wp2_with fail
  go_ret;exact⟨rfl,aK _ _⟩
theorem adG(x y:Pr):decide (x=y)=((x.key.toList==y.key.toList)&&((x.bj.toList==y.bj.toList)&&((x.user.toList==y.user.toList)&&(((x.exp:Int)==(y.exp:Int))&&(((x.aW:Int)==(y.aW:Int))&&(decide (x.tags=y.tags)&&(decide (x.aH=y.aH)&&decide (x.ends=y.ends)))))))):=by
 obtain⟨a,b,c,d,e,f,g,h⟩:=x;obtain⟨a',b',c',d',e',f',g',h'⟩:=y;rw[kq];simp only[bg,beq_iff_eq,decide_eq_true_eq,Pr.mk.injEq];constructor
 ·rintro⟨rfl,rfl,rfl,rfl,rfl,rfl,rfl,rfl⟩;exact⟨rfl,rfl,rfl,rfl,rfl,rfl,rfl,rfl⟩
 ·rintro⟨h1,h2,h3,h4,h5,h6,h7,h8⟩;exact⟨toList_inj h1,toList_inj h2,toList_inj h3,h6,h7,by omega,by omega,h8⟩
theorem qR{w:World}{X Y:bG}(hX:eI w X)(hY:eI w Y)(sX:gI X.p)(sY:gI Y.p):Calls ai 42 #[.agg X.vals.toArray,.agg Y.vals.toArray] w (Got (.bool (decide (X.p=Y.p))) w):=by
 have ht:=fun u(hu:Below w.heap.size w u)=>X9 X.p.tags Y.p.tags (by have:=sX.tl;omega) (by have:=sY.tl;omega) (hX.tags.below hu) (hY.tags.below hu)
 have ha:=fun u(hu:Below w.heap.size w u)=>Um X.p.aH Y.p.aH (by have:=sX.al;omega) (by have:=sY.al;omega) (hX.aH.below hu) (hY.aH.below hu)
 have he:=fun u(hu:Below w.heap.size w u)=>Un X.p.ends Y.p.ends (by have:=sX.el;omega) (by have:=sY.el;omega) (hX.ends.below hu) (hY.ends.below hu)
 obtain⟨gQ,c11,e11⟩:=hX.tags.shape;obtain⟨gY,c12,e12⟩:=hX.aH.shape;obtain⟨jA,c13,e13⟩:=hX.ends.shape;obtain⟨dq,c21,e21⟩:=hY.tags.shape;obtain⟨dr,dt,e22⟩:=hY.aH.shape;obtain⟨dK,c23,e23⟩:=hY.ends.shape;clear hX hY sX sY;rw[adG];obtain⟨⟨key1,aU,bo,eN,cP,eu,aT,fi⟩,XG,XI,ev1⟩:=X;obtain⟨⟨key2,aX,bz,cG,bM,fN,bn,cH⟩,XJ,XK,XM⟩:=Y;simp only at*;subst e11 e12 e13 e21 e22 e23;unfold bG.vals;simp only;generalize decide (eN=cG)=BT at*;generalize decide (cP=bM)=BA at*;generalize decide (fi=cH)=BE at*;generalize eN.length=n11 at*;generalize cP.length=n12 at*;generalize fi.length=n13 at*;generalize cG.length=n21 at*;generalize bM.length=n22 at*;generalize cH.length=n23 at*;obtain⟨HT,HA,HE⟩:=bO ht ha he;have hb1:=boxed w (.cells #[.string key1,.string aU,.string bo,.slice gQ n11 c11,.slice gY n12 c12,.int .u64 eu,.int .u8 aT,.slice jA n13 c13] 49);obtain⟨lT,HB1⟩:=aQ (aG.new w 49 #[.string key1,.string aU,.string bo,.slice gQ n11 c11,.slice gY n12 c12,.int .u64 eu,.int .u8 aT,.slice jA n13 c13]) hb1;clear ht ha he hb1;obtain⟨HB2,bD⟩:=aQ (after HB1.out (boxed (w.alloc (.cells #[.string key1,.string aU,.string bo,.slice gQ n11 c11,.slice gY n12 c12,.int .u64 eu,.int .u8 aT,.slice jA n13 c13] 49)) (.cells #[.string key2,.string aX,.string bz,.slice dq n21 c21,.slice dr n22 dt,.int .u64 fN,.int .u8 bn,.slice dK n23 c23] 49))) (lT.out.below (boxed (w.alloc (.cells #[.string key1,.string aU,.string bo,.slice gQ n11 c11,.slice gY n12 c12,.int .u64 eu,.int .u8 aT,.slice jA n13 c13] 49)) (.cells #[.string key2,.string aX,.string bz,.slice dq n21 c21,.slice dr n22 dt,.int .u64 fN,.int .u8 bn,.slice dK n23 c23] 49)) lT.out.lt);have hP2:aG ((w.alloc (.cells #[.string key1,.string aU,.string bo,.slice gQ n11 c11,.slice gY n12 c12,.int .u64 eu,.int .u8 aT,.slice jA n13 c13] 49)).alloc (.cells #[.string key2,.string aX,.string bz,.slice dq n21 c21,.slice dr n22 dt,.int .u64 fN,.int .u8 bn,.slice dK n23 c23] 49)) (w.heap.size+1) 49 #[.string key2,.string aX,.string bz,.slice dq n21 c21,.slice dr n22 dt,.int .u64 fN,.int .u8 bn,.slice dK n23 c23]:=by
  have:=aG.new (w.alloc (.cells #[.string key1,.string aU,.string bo,.slice gQ n11 c11,.slice gY n12 c12,.int .u64 eu,.int .u8 aT,.slice jA n13 c13] 49)) 49 #[.string key2,.string aX,.string bz,.slice dq n21 c21,.slice dr n22 dt,.int .u64 fN,.int .u8 bn,.slice dK n23 c23];rw[show(w.alloc (.cells #[.string key1,.string aU,.string bo,.slice gQ n11 c11,.slice gY n12 c12,.int .u64 eu,.int .u8 aT,.slice jA n13 c13] 49)).heap.size=w.heap.size+1 by simp]at this;exact this
 have HP2:=ae hP2;clear hP2 lT HB1;cases hb0:(key1.toList==key2.toList)with
 |false=>
  simp only[afv];go_enter Tryz.func42,Tryz.ntmps42;go_upto_region 1 with fail
  generalize(w.alloc (.cells #[.string key1,.string aU,.string bo,.slice gQ n11 c11,.slice gY n12 c12,.int .u64 eu,.int .u8 aT,.slice jA n13 c13] 49)).alloc (.cells #[.string key2,.string aX,.string bz,.slice dq n21 c21,.slice dr n22 dt,.int .u64 fN,.int .u8 bn,.slice dK n23 c23] 49)=w2 at HB2 bD HP2⊢;generalize w.heap.size+1=Q at HP2⊢;generalize hPw:w.heap.size=P at bD⊢;have kN:=ae hPw;clear hPw;have x0:=bD.out.cell 0;have x1:=bD.out.cell 1;have x2:=bD.out.cell 2;have x3:=bD.out.cell 3;have x4:=bD.out.cell 4;have x5:=bD.out.cell 5;have x6:=bD.out.cell 6;have x7:=bD.out.cell 7;have y0:=HP2.out.cell 0;have y1:=HP2.out.cell 1;have y2:=HP2.out.cell 2;have y3:=HP2.out.cell 3;have y4:=HP2.out.cell 4;have y5:=HP2.out.cell 5;have y6:=HP2.out.cell 6;have y7:=HP2.out.cell 7;simp at x0 x1 x2 x3 x4 x5 x6 x7 y0 y1 y2 y3 y4 y5 y6 y7;go_wp2_with fail
  go_ret;exact⟨rfl,HB2.out⟩
 |true=>
  cases hb1:(aU.toList==aX.toList)with
  |false=>
   simp only[afv,bT];go_enter Tryz.func42,Tryz.ntmps42;go_upto_region 1 with fail
   generalize(w.alloc (.cells #[.string key1,.string aU,.string bo,.slice gQ n11 c11,.slice gY n12 c12,.int .u64 eu,.int .u8 aT,.slice jA n13 c13] 49)).alloc (.cells #[.string key2,.string aX,.string bz,.slice dq n21 c21,.slice dr n22 dt,.int .u64 fN,.int .u8 bn,.slice dK n23 c23] 49)=w2 at HB2 bD HP2⊢;generalize w.heap.size+1=Q at HP2⊢;generalize hPw:w.heap.size=P at bD⊢;have kN:=ae hPw;clear hPw;have x0:=bD.out.cell 0;have x1:=bD.out.cell 1;have x2:=bD.out.cell 2;have x3:=bD.out.cell 3;have x4:=bD.out.cell 4;have x5:=bD.out.cell 5;have x6:=bD.out.cell 6;have x7:=bD.out.cell 7;have y0:=HP2.out.cell 0;have y1:=HP2.out.cell 1;have y2:=HP2.out.cell 2;have y3:=HP2.out.cell 3;have y4:=HP2.out.cell 4;have y5:=HP2.out.cell 5;have y6:=HP2.out.cell 6;have y7:=HP2.out.cell 7;simp at x0 x1 x2 x3 x4 x5 x6 x7 y0 y1 y2 y3 y4 y5 y6 y7;go_wp2_with fail
   go_ret;exact⟨rfl,HB2.out⟩
  |true=>
   cases hb2:(bo.toList==bz.toList)with
   |false=>
    simp only[afv,bT];go_enter Tryz.func42,Tryz.ntmps42;go_upto_region 1 with fail
    generalize(w.alloc (.cells #[.string key1,.string aU,.string bo,.slice gQ n11 c11,.slice gY n12 c12,.int .u64 eu,.int .u8 aT,.slice jA n13 c13] 49)).alloc (.cells #[.string key2,.string aX,.string bz,.slice dq n21 c21,.slice dr n22 dt,.int .u64 fN,.int .u8 bn,.slice dK n23 c23] 49)=w2 at HB2 bD HP2⊢;generalize w.heap.size+1=Q at HP2⊢;generalize hPw:w.heap.size=P at bD⊢;have kN:=ae hPw;clear hPw;have x0:=bD.out.cell 0;have x1:=bD.out.cell 1;have x2:=bD.out.cell 2;have x3:=bD.out.cell 3;have x4:=bD.out.cell 4;have x5:=bD.out.cell 5;have x6:=bD.out.cell 6;have x7:=bD.out.cell 7;have y0:=HP2.out.cell 0;have y1:=HP2.out.cell 1;have y2:=HP2.out.cell 2;have y3:=HP2.out.cell 3;have y4:=HP2.out.cell 4;have y5:=HP2.out.cell 5;have y6:=HP2.out.cell 6;have y7:=HP2.out.cell 7;simp at x0 x1 x2 x3 x4 x5 x6 x7 y0 y1 y2 y3 y4 y5 y6 y7;go_wp2_with fail
    go_ret;exact⟨rfl,HB2.out⟩
   |true=>
    cases hb3:((eu:Int)==(fN:Int))with
    |false=>
     simp only[afv,bT];go_enter Tryz.func42,Tryz.ntmps42;go_upto_region 1 with fail
     generalize(w.alloc (.cells #[.string key1,.string aU,.string bo,.slice gQ n11 c11,.slice gY n12 c12,.int .u64 eu,.int .u8 aT,.slice jA n13 c13] 49)).alloc (.cells #[.string key2,.string aX,.string bz,.slice dq n21 c21,.slice dr n22 dt,.int .u64 fN,.int .u8 bn,.slice dK n23 c23] 49)=w2 at HB2 bD HP2⊢;generalize w.heap.size+1=Q at HP2⊢;generalize hPw:w.heap.size=P at bD⊢;have kN:=ae hPw;clear hPw;have x0:=bD.out.cell 0;have x1:=bD.out.cell 1;have x2:=bD.out.cell 2;have x3:=bD.out.cell 3;have x4:=bD.out.cell 4;have x5:=bD.out.cell 5;have x6:=bD.out.cell 6;have x7:=bD.out.cell 7;have y0:=HP2.out.cell 0;have y1:=HP2.out.cell 1;have y2:=HP2.out.cell 2;have y3:=HP2.out.cell 3;have y4:=HP2.out.cell 4;have y5:=HP2.out.cell 5;have y6:=HP2.out.cell 6;have y7:=HP2.out.cell 7;simp at x0 x1 x2 x3 x4 x5 x6 x7 y0 y1 y2 y3 y4 y5 y6 y7;go_wp2_with fail
     go_ret;exact⟨rfl,HB2.out⟩
    |true=>
     cases hb4:((aT:Int)==(bn:Int))with
     |false=>
      simp only[afv,bT];go_enter Tryz.func42,Tryz.ntmps42;go_upto_region 1 with fail
      generalize(w.alloc (.cells #[.string key1,.string aU,.string bo,.slice gQ n11 c11,.slice gY n12 c12,.int .u64 eu,.int .u8 aT,.slice jA n13 c13] 49)).alloc (.cells #[.string key2,.string aX,.string bz,.slice dq n21 c21,.slice dr n22 dt,.int .u64 fN,.int .u8 bn,.slice dK n23 c23] 49)=w2 at HB2 bD HP2⊢;generalize w.heap.size+1=Q at HP2⊢;generalize hPw:w.heap.size=P at bD⊢;have kN:=ae hPw;clear hPw;have x0:=bD.out.cell 0;have x1:=bD.out.cell 1;have x2:=bD.out.cell 2;have x3:=bD.out.cell 3;have x4:=bD.out.cell 4;have x5:=bD.out.cell 5;have x6:=bD.out.cell 6;have x7:=bD.out.cell 7;have y0:=HP2.out.cell 0;have y1:=HP2.out.cell 1;have y2:=HP2.out.cell 2;have y3:=HP2.out.cell 3;have y4:=HP2.out.cell 4;have y5:=HP2.out.cell 5;have y6:=HP2.out.cell 6;have y7:=HP2.out.cell 7;simp at x0 x1 x2 x3 x4 x5 x6 x7 y0 y1 y2 y3 y4 y5 y6 y7;go_wp2_with fail
      go_ret;exact⟨rfl,HB2.out⟩
     |true=>
      simp only[bT];cases BT with
      |false=>
       simp only[afv];go_enter Tryz.func42,Tryz.ntmps42;go_upto_region 1 with fail
       generalize(w.alloc (.cells #[.string key1,.string aU,.string bo,.slice gQ n11 c11,.slice gY n12 c12,.int .u64 eu,.int .u8 aT,.slice jA n13 c13] 49)).alloc (.cells #[.string key2,.string aX,.string bz,.slice dq n21 c21,.slice dr n22 dt,.int .u64 fN,.int .u8 bn,.slice dK n23 c23] 49)=w2 at HB2 bD HP2⊢;generalize w.heap.size+1=Q at HP2⊢;generalize hPw:w.heap.size=P at bD⊢;have kN:=ae hPw;clear hPw;have x0:=bD.out.cell 0;have x1:=bD.out.cell 1;have x2:=bD.out.cell 2;have x3:=bD.out.cell 3;have x4:=bD.out.cell 4;have x5:=bD.out.cell 5;have x6:=bD.out.cell 6;have x7:=bD.out.cell 7;have y0:=HP2.out.cell 0;have y1:=HP2.out.cell 1;have y2:=HP2.out.cell 2;have y3:=HP2.out.cell 3;have y4:=HP2.out.cell 4;have y5:=HP2.out.cell 5;have y6:=HP2.out.cell 6;have y7:=HP2.out.cell 7;simp at x0 x1 x2 x3 x4 x5 x6 x7 y0 y1 y2 y3 y4 y5 y6 y7;go_wp2_with(first
        |(go_at_call 105;(with_reducible refine(HT.out _ HB2.out).mono ?_);rintro r w3⟨rfl,d3⟩;have px4:=ak x4 d3;have px7:=ak x7 d3;have py4:=ak y4 d3;have py7:=ak y7 d3;have HB3:=bm HB2 d3;clear d3))
       go_ret;exact⟨rfl,HB3.out⟩
      |true=>
       cases BA with
       |false=>
        simp only[afv,bT];go_enter Tryz.func42,Tryz.ntmps42;go_upto_region 1 with fail
        generalize(w.alloc (.cells #[.string key1,.string aU,.string bo,.slice gQ n11 c11,.slice gY n12 c12,.int .u64 eu,.int .u8 aT,.slice jA n13 c13] 49)).alloc (.cells #[.string key2,.string aX,.string bz,.slice dq n21 c21,.slice dr n22 dt,.int .u64 fN,.int .u8 bn,.slice dK n23 c23] 49)=w2 at HB2 bD HP2⊢;generalize w.heap.size+1=Q at HP2⊢;generalize hPw:w.heap.size=P at bD⊢;have kN:=ae hPw;clear hPw;have x0:=bD.out.cell 0;have x1:=bD.out.cell 1;have x2:=bD.out.cell 2;have x3:=bD.out.cell 3;have x4:=bD.out.cell 4;have x5:=bD.out.cell 5;have x6:=bD.out.cell 6;have x7:=bD.out.cell 7;have y0:=HP2.out.cell 0;have y1:=HP2.out.cell 1;have y2:=HP2.out.cell 2;have y3:=HP2.out.cell 3;have y4:=HP2.out.cell 4;have y5:=HP2.out.cell 5;have y6:=HP2.out.cell 6;have y7:=HP2.out.cell 7;simp at x0 x1 x2 x3 x4 x5 x6 x7 y0 y1 y2 y3 y4 y5 y6 y7;go_wp2_with(first
         |(go_at_call 105;(with_reducible refine(HT.out _ HB2.out).mono ?_);rintro r w3⟨rfl,d3⟩;have px4:=ak x4 d3;have px7:=ak x7 d3;have py4:=ak y4 d3;have py7:=ak y7 d3;have HB3:=bm HB2 d3;clear d3)
         |(go_at_call 106;(with_reducible refine(HA.out _ HB3.out).mono ?_);rintro r w4⟨rfl,d4⟩;have qx7:=ak px7 d4;have qy7:=ak py7 d4;have HB4:=bm HB3 d4;clear d4))
        go_ret;exact⟨rfl,HB4.out⟩
       |true=>
        simp only[bT];go_enter Tryz.func42,Tryz.ntmps42;go_upto_region 1 with fail
        generalize(w.alloc (.cells #[.string key1,.string aU,.string bo,.slice gQ n11 c11,.slice gY n12 c12,.int .u64 eu,.int .u8 aT,.slice jA n13 c13] 49)).alloc (.cells #[.string key2,.string aX,.string bz,.slice dq n21 c21,.slice dr n22 dt,.int .u64 fN,.int .u8 bn,.slice dK n23 c23] 49)=w2 at HB2 bD HP2⊢;generalize w.heap.size+1=Q at HP2⊢;generalize hPw:w.heap.size=P at bD⊢;have kN:=ae hPw;clear hPw;have x0:=bD.out.cell 0;have x1:=bD.out.cell 1;have x2:=bD.out.cell 2;have x3:=bD.out.cell 3;have x4:=bD.out.cell 4;have x5:=bD.out.cell 5;have x6:=bD.out.cell 6;have x7:=bD.out.cell 7;have y0:=HP2.out.cell 0;have y1:=HP2.out.cell 1;have y2:=HP2.out.cell 2;have y3:=HP2.out.cell 3;have y4:=HP2.out.cell 4;have y5:=HP2.out.cell 5;have y6:=HP2.out.cell 6;have y7:=HP2.out.cell 7;simp at x0 x1 x2 x3 x4 x5 x6 x7 y0 y1 y2 y3 y4 y5 y6 y7;go_wp2_with(first
         |(go_at_call 105;(with_reducible refine(HT.out _ HB2.out).mono ?_);rintro r w3⟨rfl,d3⟩;have px4:=ak x4 d3;have px7:=ak x7 d3;have py4:=ak y4 d3;have py7:=ak y7 d3;have HB3:=bm HB2 d3;clear d3)
         |(go_at_call 106;(with_reducible refine(HA.out _ HB3.out).mono ?_);rintro r w4⟨rfl,d4⟩;have qx7:=ak px7 d4;have qy7:=ak py7 d4;have HB4:=bm HB3 d4;clear d4)
         |(go_at_call 107;(with_reducible refine(HE.out _ HB4.out).mono ?_);rintro r w5⟨rfl,d5⟩;have nt:=bm HB4 d5;clear d5))
        go_ret;exact⟨rfl,nt.out⟩
end Go.Proofs.YtdfnhljccdoncaaGreatDoor
