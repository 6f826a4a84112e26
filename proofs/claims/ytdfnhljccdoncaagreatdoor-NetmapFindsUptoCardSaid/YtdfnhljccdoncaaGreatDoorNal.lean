/- Joined out of: PlV PxL PzA PzC IxA CnA RuA RxB RxE MyA RxJ. -/
import Derived.Test.YtdfnhljccdoncaaGreatDoorNak
import Derived.Test.YtdfnhljccdoncaaGreatDoorTie
import Derived.Test.YtdfnhljccdoncaaGreatDoorCards
import Derived.ProofKit
import Derived.OpenShut
import Derived.ShutString
import Derived.ChangeMaps5
import Derived.HandedShaped
import Derived.LaidMore
import Derived.Lay
import Derived.SevenTiedAt
import Derived.Shelf.Vars
import Derived.Lib.LaidU8
import Derived.Deep.Slices
set_option linter.unusedVariables false
set_option linter.unusedSimpArgs false
set_option maxHeartbeats 16000000
set_option maxRecDepth 100000
open Array renaming length_toList→mL
open Bool renaming and_eq_true→bg
open Go.Lib renaming hid→ae
open Go.Proofs.Tryz renaming prog→ai
open Go.RowKit renaming Hid→af
open Go.RowKit.Below renaming refl→aK
open Go.Value renaming string→bU
open Go.World renaming block_lt_of_cell?→au
open List renaming getElem?_eq_getElem→ag,length_map→ay,range→aD,getElem?_map→bR,length_cons→cm,drop_eq_nil_of_le→sU,flatMap_cons→Zg
open Nat renaming le_refl→aw,le_trans→ax,zero_le→bF
namespace Go.Proofs.YtdfnhljccdoncaaGreatDoor
open Go.RowKit
attribute [local go_sem↓] Go.wp_at_zero Go.wp_at_succ
theorem G7{w:World}(s:ByteArray)(hs:s.size≤2000000)(hl:8192<s.size):Calls ai 167 #[.string s] w (dB s.data.toList w):=by
 have q:(8192:Int)<(s.size:Int):=by omega
 have hp:ic s.data.toList=(Po.zero,(4,0,0)):=by
  unfold ic;rw[if_pos (by rw[show s.data.toList.length=s.size from(Lib.size_eq s).symm];exact hl)]
 have B1:=aG.new w 190 #[.slice none 0 0,.slice none 0 0,.slice none 0 0,.slice none 0 0];have b1:=boxed w (.cells #[.slice none 0 0,.slice none 0 0,.slice none 0 0,.slice none 0 0] 190);have B2:=aG.new (w.alloc (.cells #[.slice none 0 0,.slice none 0 0,.slice none 0 0,.slice none 0 0] 190)) 192 #[.int .i64 4,.int .i64 0,.int .i64 0];have b2:=boxed (w.alloc (.cells #[.slice none 0 0,.slice none 0 0,.slice none 0 0,.slice none 0 0] 190)) (.cells #[.int .i64 4,.int .i64 0,.int .i64 0] 192);obtain⟨HB2,HB1,Hb,Hp⟩:=fH B2 (B1.below b2 B1.lt) (after b1 b2) hp;clear B1 B2 b1 b2 hp hl hs
 go_enter_defers Tryz.func167,Tryz.ntmps167
 go_wp2_with fail
 show Leaves _ _ _ _ [] .returning _;refine⟨_,pK rfl rfl (JC HB1.out) (JD ?_),dB.bad Hp.out Hb.out⟩;simpa using HB2.out
theorem DF{w:World}(env:Env w)(s:ByteArray)(hl:¬8192<s.size):Calls ai 167 #[.string s] w (dB s.data.toList w):=by
 have hmf:∀(fn:Fn)(first cap:Array Value)(w:World),(Instr.makeFunc fn first cap).run ai w=.ok (.func fn first cap) w:=fun _ _ _ _=>rfl
 have q:¬(8192:Int)<(s.size:Int):=by omega
 have hp:=MX (s:=s.data.toList) (by rw[show s.data.toList.length=s.size from(Lib.size_eq s).symm];exact hl);rw[←qm]at hp;have Lt:=oY 10 s;have hFs:=Da (c:=10) (s:=s);obtain⟨LS,hLS⟩:∃l,l=i6 10 s:=⟨_,rfl⟩;rw[←hLS]at hp Lt hFs;obtain⟨RES,dY⟩:∃r,r=pA (LS.map (·.data.toList)) 1 ⟨Po.zero,[]⟩:=⟨_,rfl⟩;rw[←dY]at hp;obtain⟨Hp,iZ,HFs,tM⟩:=fH hp dY hFs env;have PB1:=aG.new w 190 #[.slice none 0 0,.slice none 0 0,.slice none 0 0,.slice none 0 0];have b1:=boxed w (.cells #[.slice none 0 0,.slice none 0 0,.slice none 0 0,.slice none 0 0] 190);have um:=aG.new (w.alloc (.cells #[.slice none 0 0,.slice none 0 0,.slice none 0 0,.slice none 0 0] 190)) 192 #[.int .i64 0,.int .i64 0,.int .i64 0];have b2:=boxed (w.alloc (.cells #[.slice none 0 0,.slice none 0 0,.slice none 0 0,.slice none 0 0] 190)) (.cells #[.int .i64 0,.int .i64 0,.int .i64 0] 192);have RB3:=aG.new ((w.alloc (.cells #[.slice none 0 0,.slice none 0 0,.slice none 0 0,.slice none 0 0] 190)).alloc (.cells #[.int .i64 0,.int .i64 0,.int .i64 0] 192)) 235 #[.slice none 0 0,.int .i64 0,.pointer (some ⟨w.heap.size,0,none⟩),.slice none 0 0];have b3:=boxed ((w.alloc (.cells #[.slice none 0 0,.slice none 0 0,.slice none 0 0,.slice none 0 0] 190)).alloc (.cells #[.int .i64 0,.int .i64 0,.int .i64 0] 192)) (.cells #[.slice none 0 0,.int .i64 0,.pointer (some ⟨w.heap.size,0,none⟩),.slice none 0 0] 235);have PB3:=(PB1.below b2 PB1.lt).below b3 (PB1.below b2 PB1.lt).lt;have FB3:=um.below b3 um.lt;have bb3:=after (after b1 b2) b3;rw[show((w.alloc (.cells #[.slice none 0 0,.slice none 0 0,.slice none 0 0,.slice none 0 0] 190)).alloc (.cells #[.int .i64 0,.int .i64 0,.int .i64 0] 192)).heap.size=w.heap.size+1+1 by simp]at RB3;rw[show(w.alloc (.cells #[.slice none 0 0,.slice none 0 0,.slice none 0 0,.slice none 0 0] 190)).heap.size=w.heap.size+1 by simp]at FB3;clear hp dY hFs env PB1 b1 um b2 b3
 go_enter_defers Tryz.func167,Tryz.ntmps167
 go_upto_region 5 with fail
 generalize((((w.alloc (.cells #[.slice none 0 0,.slice none 0 0,.slice none 0 0,.slice none 0 0] 190)).alloc (.cells #[.int .i64 0,.int .i64 0,.int .i64 0] 192)).alloc (.cells #[.slice none 0 0,.int .i64 0,.pointer (some ⟨w.heap.size,0,none⟩),.slice none 0 0] 235)))=w3 at PB3 FB3 RB3 bb3⊢;obtain⟨b,hb⟩:∃b,b=w.heap.size+1+1:=⟨_,rfl⟩;obtain⟨F,hF⟩:∃F,F=w.heap.size+1:=⟨_,rfl⟩;obtain⟨P,hP⟩:∃P,P=w.heap.size:=⟨_,rfl⟩;rw[←hb]at RB3⊢;rw[←hF]at FB3⊢;have PM3:Pm w.heap.size w3 P (.slice none 0 0) ⟨.slice none 0 0,.slice none 0 0,.slice none 0 0,.slice none 0 0⟩ ⟨Po.zero,[]⟩:=Pm.nil (by rw[hP];exact PB3);have RD3:RdB w3 b (.slice none 0 0) 0 P (.slice none 0 0):=by rw[hP];exact RB3
 rw[←hP];have hbb:w.heap.size≤b:=by omega
 have zT:w.heap.size≤P:=by omega
 have hFF:w.heap.size≤F:=by omega
 have hPF:P≠F:=by omega
 have WR:=ae hPF;have hsp:=vl (tM.out.below bb3) s aY 10;obtain⟨N,hN⟩:∃n,n=LS.length:=⟨_,rfl⟩;rw[←hLS,←hN]at hsp;rw[←hN]at Lt;obtain⟨HSp,HN,ac5,aaN,aaO,ac6⟩:=tU hsp hN PM3 RD3 FB3 bb3;clear hb hF hP hsp hN hLS PB3 PM3 RD3 RB3 FB3 bb3 hPF;go_wp2_with(go_at_call 206;(with_reducible refine HSp.out.mono ?_);rintro r wq⟨rfl,rfl⟩)
 have hrow:aG (w3.alloc (.cells (LS.map bU).toArray 9)) w3.heap.size 9 (LS.map bU).toArray:=aG.new _ _ _;have hb4:=boxed w3 (.cells (LS.map bU).toArray 9);obtain⟨MY,aaP,aaQ,aaR⟩:=fH hrow (ac5.out.below hb4) (aaN.out.below hb4 aaN.out.lt) (aaO.out.below hb4 aaO.out.lt);have aaS:=bm ac6 hb4;clear hrow hb4 ac5 aaN aaO ac6 HSp;generalize w3.alloc (.cells (LS.map bU).toArray 9)=w4 at MY aaP aaQ aaR aaS⊢;generalize w3.heap.size=gS at MY⊢;go_loopw [22] (fun v22 wr=>∃(k:Nat)(lv:Value)(j:Nat)(uv:Value)(V:uk)(dA:oV),k≤N∧v22=.int .i64 k∧af (RdB wr b lv j P uv)∧af (Pm w.heap.size wr P uv V dA)∧af (aG wr F 192 #[.int .i64 0,.int .i64 0,.int .i64 0])∧af (aG wr gS 9 (LS.map bU).toArray)∧af (Below w.heap.size w wr)∧af (RES=pA ((LS.map (·.data.toList)).drop k) (k+1) dA)) (fun v22 _=>N-(intOf v22).toNat)
 case atStart=>exact⟨0,_,0,_,_,_,bF _,rfl,aaQ,aaP,aaR,MY,aaS,iZ⟩
 case round=>
  obtain⟨k,lv,j,uv,V,dA,hk,rfl,hrd,hpm,hfb,hrow,hbw,hres⟩:=hrel;clear aaQ aaP aaR MY aaS iZ;by_cases hlt:k<N
  ·have FZ:k<LS.length:=by have:=HN.out;omega
   have cx:=hrow.out.cell k;rw[List.getElem?_toArray,bR,ag FZ]at cx;simp only[Option.map_some]at cx;have hres2:=hres.out;rw[←List.map_drop,List.drop_eq_getElem_cons FZ,List.map_cons,pA,List.map_drop]at hres2;have hTs:=HFs.out LS[k] (List.getElem_mem FZ);generalize LS[k]'FZ=T at cx hres2 hTs;have hsplit:=Ls T aY (k+1) aY wr;rw[show((k+1:Nat):Int)=(k:Int)+1 by omega]at hsplit;have hwl:=MW T.data.toList;rw[show T.data.toList.length=T.size from(Lib.size_eq T).symm]at hwl;generalize nb T.data.toList=ws at hsplit hres2 hwl;obtain⟨Q0,ey⟩:=aQ hsplit hres2;have afL:=hwl.1;have HWl:=ae hwl.2;have i1:IntKind.i64.wrap ((k:Int)+1)=(k:Int)+1:=by rw[IntKind.wrap_i64];omega
   clear hsplit hres2 hres FZ hwl;go_upto_region 9 with(go_at_call 207;(with_reducible refine Q0.out.mono ?_);rintro r w1⟨v,rfl,o1,d1⟩;obtain⟨Av,cv,rfl⟩:=aL o1;have O1:=ae o1;clear o1;have RD1:=ae (hrd.out.below d1 hrd.out.lt);have c0:=RD1.out.cell 0;have c1:=RD1.out.cell 1;have z0:=RD1.out.frozen 0;have z1:=RD1.out.frozen 1;simp at c0 c1)
   obtain⟨w2,hw2⟩:∃x,x=(w1.setCell ⟨b,0,none⟩ (.slice Av ws.length cv)).setCell ⟨b,1,none⟩ (.int .i64 0):=⟨_,rfl⟩;rw[←hw2];have K2:Keeps (fun x=>x=b) w1 w2:=by rw[hw2];exact((Keeps.refl (fun x=>x=b) w1).setCell (p:=⟨b,0,none⟩) (Or.inl rfl) _).setCell (p:=⟨b,1,none⟩) (Or.inl rfl) _
   have O2:Off (fun x=>x=b) w1 [235]:=fun k hk=>⟨_,_,_,by subst hk;exact RD1.out,by simp⟩
   have WT:af (RdB w2 b (.slice Av ws.length cv) 0 P uv):=ae (by rw[hw2];exact aG.aM (aG.aM RD1.out 0 _) 1 _);have Q5:=ae ((hpm.out.below d1).reader K2 O2);have um:=ae ((hfb.out.below d1 hfb.out.lt).off K2 O2 aI);have Fj:=ae ((hrow.out.below d1 hrow.out.lt).off K2 O2 aI);have Q6:af (Below w.heap.size w w2):=ae (bN (after hbw.out d1) K2 (fun k hk=>by subst hk;exact hbb));have OV2:=ae (a8 O1.out K2 O2 aI);clear hw2 K2 O2 RD1 O1 hrd hpm hfb hrow hbw d1 c0 c1 z0 z1 cx i1 Q0;have c0:=WT.out.cell 0;simp at c0;by_cases hws:ws.length=0
   ·obtain rfl:=List.eq_nil_of_length_eq_zero hws;have hR:RES=pA ((LS.map (·.data.toList)).drop (k+1)) (k+1+1) dA:=ey.out;have HR:=ae hR;clear hR ey hws;go_wp2_with fail
    go_roundw
    case rel=>exact⟨k+1,_,0,uv,V,dA,by omega,by go_num,WT,Q5,um,Fj,Q6,HR⟩
    case measure=>simp[intOf];omega
   have afM:((ws.length:Int)==0)=false:=by simp;exact fun e=>hws (by rw[e];rfl)
   have hne:ws≠[]:=fun e=>hws (by rw[e];rfl)
   obtain⟨x,hx⟩:∃x,ws[0]? =some x:=⟨_,ag aY⟩;have pG:af (Rs w2 b P 0 (k+1) (.slice Av ws.length cv) uv ws):=ae ⟨WT.out,⟨_,OV2.out⟩,hne,by omega,fun s hs=>by have:=HWl.out s hs;omega⟩;have DG:af (∀u,Below w2.heap.size w2 u→Calls ai 209 #[.pointer (some ⟨b,0,none⟩)] u fun r w'=>(Keeps (fun x=>x=b) u w'∧Rs w' b P 1 (k+1) (.slice Av ws.length cv) uv ws)∧r=.returned (.string x)):=ae fun u hu=>((pG.out.below hu).take (bF _)).mono fun r w'⟨h1,h2⟩=>⟨h1,by unfold iI at h2;rw[hx]at h2;exact h2⟩
   have hbl:b<w2.heap.size:=WT.out.lt;have aeM:1≤ws.length:=by omega
   clear hws hne;go_upto_region 10 with fail
   by_cases x1:x=eU
   case pos=>
    subst x1;go_upto_region 11 with(first
     |(go_at_call 208;(with_reducible refine(nB _ b).mono ?_);rintro r w3⟨⟨m,c,rfl,BS,JE,WU,hc3⟩,d3⟩;obtain⟨oK,JF⟩:=aQ BS JE;clear BS JE)
     |(go_at_call 209;(with_reducible refine(DG.out _ d3).mono ?_);rintro r w5⟨⟨d5,e5⟩,rfl⟩;have pH:=ae e5;clear e5;have rN:=ae (oK.out.keep d5 aY);have hlk:=(qu rN.out).1))
    have O3:Off (fun x=>x=b) w3 [235]:=fun k hk=>⟨_,_,_,by subst hk;exact(pG.out.below d3).blk,by simp⟩
    have JG:=ae ((Q5.out.below d3).reader d5 O3);have tQ:=ae ((um.out.below d3 um.out.lt).off d5 O3 aI);have Fo:=ae ((Fj.out.below d3 Fj.out.lt).off d5 O3 aI);have Fp:=ae (JF.out.off d5 O3 aI);have MZ:af (Below w.heap.size w w5):=ae (bN (after Q6.out d3) d5 (fun k hk=>by subst hk;exact hbb));clear O3 d3 d5 oK rN JF WU hc3 hlk DG pG WT Q5 um Fj Q6 OV2 c0;have hun:=pH.out.unless (aw 1) aY true 190;have jv:af (Calls ai 210 #[.pointer (some ⟨b,0,none⟩),.bool true,.int .i64 190] w5 fun r w'=>r=.returned (.tuple #[])∧Below w5.heap.size w5 w'):=ae hun;clear hun;go_upto_region 12 with(go_at_call 210;(with_reducible refine jv.out.mono ?_);rintro r w6⟨rfl,d6⟩)
    obtain⟨Dp,PM6,Q7,RW6,HC6⟩:=kp (pH.out.below d6) (JG.out.below d6) (tQ.out.below d6 tQ.out.lt) (Fo.out.below d6 Fo.out.lt) (Fp.out.below d6 Fp.out.lt);have vG:=bm MZ d6;clear pH JG tQ Fo Fp MZ d6 jv;have hcall:=MU vG.out hbb zT Dp.out PM6.out hx HC6.out;cases ho:eE dA (k+1) ws with
    |error e=>
     rw[ho]at hcall;have bu:af (Calls ai 244 #[.pointer (some ⟨c,0,none⟩)] w6 fun r w'=>bZ w.heap.size w6 w'∧r=aP e.1 (k+1) e.2∧mr (α:=oV) w' P (.error e)):=ae hcall;have hR:=ey.out;rw[ho]at hR;simp only at hR;have HR:=ae hR;clear hcall hR ey ho;go_wp2_with(go_at_call 244;(with_reducible refine bu.out.mono ?_);rintro r w7⟨d7,rfl,p7⟩;unfold aP)
     obtain⟨p0,p1,p2,p3,rO⟩:=p7 e rfl;have hF7:=Q7.out.off d7 bZ.off aI;have jl:=vG.out.trans (d7.below vG.out.size);exact j4 rfl rfl rO hF7 WR.out (fun w8 hk8=>dB.bad (by rw[Hp.out,HR.out];rfl) (bN jl hk8 (fun q hq=>hq.elim (fun e=>by subst e;exact zT) fun e=>by subst e;exact hFF)))
    |ok rL=>
     rw[ho]at hcall;have bu:af (Calls ai 244 #[.pointer (some ⟨c,0,none⟩)] w6 fun r w'=>bZ w.heap.size w6 w'∧r=.returned (.tuple #[])∧∃k' uv' V',Rs w' b P k' (k+1) (.slice Av ws.length cv) uv' ws∧Pm w.heap.size w' P uv' V' rL):=ae (hcall.mono fun r w'⟨h1,⟨h2,h3⟩,_⟩=>⟨h1,h2,h3⟩);have hR:=ey.out;rw[ho]at hR;simp only at hR;have HR:=ae hR;clear hcall hR ey ho;go_wp2_with(go_at_call 244;(with_reducible refine bu.out.mono ?_);rintro r w7⟨d7,rfl,k',uv',V',R7,M7⟩;obtain⟨om,PM7⟩:=aQ R7 M7;clear R7 M7)
     have Q8:=ae (Q7.out.off d7 bZ.off aI);have RW7:=ae (RW6.out.off d7 bZ.off aI);have Vm:=ae (vG.out.trans (d7.below vG.out.size));go_roundw
     case rel=>exact⟨k+1,_,k',uv',V',rL,by omega,by go_num,ae om.out.blk,PM7,Q8,RW7,Vm,HR⟩
     case measure=>simp[intOf];omega
   by_cases x2:x=jG
   case pos=>
    subst x2;go_upto_region 11 with(first
     |(go_at_call 208;(with_reducible refine(nB _ b).mono ?_);rintro r w3⟨⟨m,c,rfl,BS,JE,WU,hc3⟩,d3⟩;obtain⟨oK,JF⟩:=aQ BS JE;clear BS JE)
     |(go_at_call 209;(with_reducible refine(DG.out _ d3).mono ?_);rintro r w5⟨⟨d5,e5⟩,rfl⟩;have pH:=ae e5;clear e5;have rN:=ae (oK.out.keep d5 aY);have hlk:=(qu rN.out).2.1))
    have O3:Off (fun x=>x=b) w3 [235]:=fun k hk=>⟨_,_,_,by subst hk;exact(pG.out.below d3).blk,by simp⟩
    have JG:=ae ((Q5.out.below d3).reader d5 O3);have tQ:=ae ((um.out.below d3 um.out.lt).off d5 O3 aI);have Fo:=ae ((Fj.out.below d3 Fj.out.lt).off d5 O3 aI);have Fp:=ae (JF.out.off d5 O3 aI);have MZ:af (Below w.heap.size w w5):=ae (bN (after Q6.out d3) d5 (fun k hk=>by subst hk;exact hbb));clear O3 d3 d5 oK rN JF WU hc3 hlk DG pG WT Q5 um Fj Q6 OV2 c0;have hun:=pH.out.unless (aw 1) aY true 190;have jv:af (Calls ai 210 #[.pointer (some ⟨b,0,none⟩),.bool true,.int .i64 190] w5 fun r w'=>r=.returned (.tuple #[])∧Below w5.heap.size w5 w'):=ae hun;clear hun;go_upto_region 12 with(go_at_call 210;(with_reducible refine jv.out.mono ?_);rintro r w6⟨rfl,d6⟩)
    obtain⟨Dp,PM6,Q7,RW6,HC6⟩:=kp (pH.out.below d6) (JG.out.below d6) (tQ.out.below d6 tQ.out.lt) (Fo.out.below d6 Fo.out.lt) (Fp.out.below d6 Fp.out.lt);have vG:=bm MZ d6;clear pH JG tQ Fo Fp MZ d6 jv;have hcall:=MV vG.out hbb zT Dp.out PM6.out hx HC6.out;cases ho:eE dA (k+1) ws with
    |error e=>
     rw[ho]at hcall;have bu:af (Calls ai 246 #[.pointer (some ⟨c,0,none⟩)] w6 fun r w'=>bZ w.heap.size w6 w'∧r=aP e.1 (k+1) e.2∧mr (α:=oV) w' P (.error e)):=ae hcall;have hR:=ey.out;rw[ho]at hR;simp only at hR;have HR:=ae hR;clear hcall hR ey ho;go_wp2_with(go_at_call 246;(with_reducible refine bu.out.mono ?_);rintro r w7⟨d7,rfl,p7⟩;unfold aP)
     obtain⟨p0,p1,p2,p3,rO⟩:=p7 e rfl;have hF7:=Q7.out.off d7 bZ.off aI;have jl:=vG.out.trans (d7.below vG.out.size);exact j4 rfl rfl rO hF7 WR.out (fun w8 hk8=>dB.bad (by rw[Hp.out,HR.out];rfl) (bN jl hk8 (fun q hq=>hq.elim (fun e=>by subst e;exact zT) fun e=>by subst e;exact hFF)))
    |ok rL=>
     rw[ho]at hcall;have bu:af (Calls ai 246 #[.pointer (some ⟨c,0,none⟩)] w6 fun r w'=>bZ w.heap.size w6 w'∧r=.returned (.tuple #[])∧∃k' uv' V',Rs w' b P k' (k+1) (.slice Av ws.length cv) uv' ws∧Pm w.heap.size w' P uv' V' rL):=ae (hcall.mono fun r w'⟨h1,⟨h2,h3⟩,_⟩=>⟨h1,h2,h3⟩);have hR:=ey.out;rw[ho]at hR;simp only at hR;have HR:=ae hR;clear hcall hR ey ho;go_wp2_with(go_at_call 246;(with_reducible refine bu.out.mono ?_);rintro r w7⟨d7,rfl,k',uv',V',R7,M7⟩;obtain⟨om,PM7⟩:=aQ R7 M7;clear R7 M7)
     have Q8:=ae (Q7.out.off d7 bZ.off aI);have RW7:=ae (RW6.out.off d7 bZ.off aI);have Vm:=ae (vG.out.trans (d7.below vG.out.size));go_roundw
     case rel=>exact⟨k+1,_,k',uv',V',rL,by omega,by go_num,ae om.out.blk,PM7,Q8,RW7,Vm,HR⟩
     case measure=>simp[intOf];omega
   by_cases x3:x=ib
   case pos=>
    subst x3;go_upto_region 11 with(first
     |(go_at_call 208;(with_reducible refine(nB _ b).mono ?_);rintro r w3⟨⟨m,c,rfl,BS,JE,WU,hc3⟩,d3⟩;obtain⟨oK,JF⟩:=aQ BS JE;clear BS JE)
     |(go_at_call 209;(with_reducible refine(DG.out _ d3).mono ?_);rintro r w5⟨⟨d5,e5⟩,rfl⟩;have pH:=ae e5;clear e5;have rN:=ae (oK.out.keep d5 aY);have hlk:=(qu rN.out).2.2.1))
    have O3:Off (fun x=>x=b) w3 [235]:=fun k hk=>⟨_,_,_,by subst hk;exact(pG.out.below d3).blk,by simp⟩
    have JG:=ae ((Q5.out.below d3).reader d5 O3);have tQ:=ae ((um.out.below d3 um.out.lt).off d5 O3 aI);have Fo:=ae ((Fj.out.below d3 Fj.out.lt).off d5 O3 aI);have Fp:=ae (JF.out.off d5 O3 aI);have MZ:af (Below w.heap.size w w5):=ae (bN (after Q6.out d3) d5 (fun k hk=>by subst hk;exact hbb));clear O3 d3 d5 oK rN JF WU hc3 hlk DG pG WT Q5 um Fj Q6 OV2 c0;have hun:=pH.out.unless (aw 1) aY true 190;have jv:af (Calls ai 210 #[.pointer (some ⟨b,0,none⟩),.bool true,.int .i64 190] w5 fun r w'=>r=.returned (.tuple #[])∧Below w5.heap.size w5 w'):=ae hun;clear hun;go_upto_region 12 with(go_at_call 210;(with_reducible refine jv.out.mono ?_);rintro r w6⟨rfl,d6⟩)
    obtain⟨Dp,PM6,Q7,RW6,HC6⟩:=kp (pH.out.below d6) (JG.out.below d6) (tQ.out.below d6 tQ.out.lt) (Fo.out.below d6 Fo.out.lt) (Fp.out.below d6 Fp.out.lt);have vG:=bm MZ d6;clear pH JG tQ Fo Fp MZ d6 jv;have hcall:=G5 tM.out vG.out hbb zT Dp.out PM6.out hx;cases ho:eE dA (k+1) ws with
    |error e=>
     rw[ho]at hcall;have bu:af (Calls ai 247 #[.pointer (some ⟨b,0,none⟩)] w6 fun r w'=>bZ w.heap.size w6 w'∧r=aP e.1 (k+1) e.2∧mr (α:=oV) w' P (.error e)):=ae hcall;have hR:=ey.out;rw[ho]at hR;simp only at hR;have HR:=ae hR;clear hcall hR ey ho;go_wp2_with(go_at_call 247;(with_reducible refine bu.out.mono ?_);rintro r w7⟨d7,rfl,p7⟩;unfold aP)
     obtain⟨p0,p1,p2,p3,rO⟩:=p7 e rfl;have hF7:=Q7.out.off d7 bZ.off aI;have jl:=vG.out.trans (d7.below vG.out.size);exact j4 rfl rfl rO hF7 WR.out (fun w8 hk8=>dB.bad (by rw[Hp.out,HR.out];rfl) (bN jl hk8 (fun q hq=>hq.elim (fun e=>by subst e;exact zT) fun e=>by subst e;exact hFF)))
    |ok rL=>
     rw[ho]at hcall;have bu:af (Calls ai 247 #[.pointer (some ⟨b,0,none⟩)] w6 fun r w'=>bZ w.heap.size w6 w'∧r=.returned (.tuple #[])∧∃k' uv' V',Rs w' b P k' (k+1) (.slice Av ws.length cv) uv' ws∧Pm w.heap.size w' P uv' V' rL):=ae (hcall.mono fun r w'⟨h1,⟨h2,h3⟩,_⟩=>⟨h1,h2,h3⟩);have hR:=ey.out;rw[ho]at hR;simp only at hR;have HR:=ae hR;clear hcall hR ey ho;go_wp2_with(go_at_call 247;(with_reducible refine bu.out.mono ?_);rintro r w7⟨d7,rfl,k',uv',V',R7,M7⟩;obtain⟨om,PM7⟩:=aQ R7 M7;clear R7 M7)
     have Q8:=ae (Q7.out.off d7 bZ.off aI);have RW7:=ae (RW6.out.off d7 bZ.off aI);have Vm:=ae (vG.out.trans (d7.below vG.out.size));go_roundw
     case rel=>exact⟨k+1,_,k',uv',V',rL,by omega,by go_num,ae om.out.blk,PM7,Q8,RW7,Vm,HR⟩
     case measure=>simp[intOf];omega
   by_cases x4:x=iG
   case pos=>
    subst x4;go_upto_region 11 with(first
     |(go_at_call 208;(with_reducible refine(nB _ b).mono ?_);rintro r w3⟨⟨m,c,rfl,BS,JE,WU,hc3⟩,d3⟩;obtain⟨oK,JF⟩:=aQ BS JE;clear BS JE)
     |(go_at_call 209;(with_reducible refine(DG.out _ d3).mono ?_);rintro r w5⟨⟨d5,e5⟩,rfl⟩;have pH:=ae e5;clear e5;have rN:=ae (oK.out.keep d5 aY);have hlk:=(qu rN.out).2.2.2))
    have O3:Off (fun x=>x=b) w3 [235]:=fun k hk=>⟨_,_,_,by subst hk;exact(pG.out.below d3).blk,by simp⟩
    have JG:=ae ((Q5.out.below d3).reader d5 O3);have tQ:=ae ((um.out.below d3 um.out.lt).off d5 O3 aI);have Fo:=ae ((Fj.out.below d3 Fj.out.lt).off d5 O3 aI);have Fp:=ae (JF.out.off d5 O3 aI);have MZ:af (Below w.heap.size w w5):=ae (bN (after Q6.out d3) d5 (fun k hk=>by subst hk;exact hbb));clear O3 d3 d5 oK rN JF WU hc3 hlk DG pG WT Q5 um Fj Q6 OV2 c0;have hun:=pH.out.unless (aw 1) aY true 190;have jv:af (Calls ai 210 #[.pointer (some ⟨b,0,none⟩),.bool true,.int .i64 190] w5 fun r w'=>r=.returned (.tuple #[])∧Below w5.heap.size w5 w'):=ae hun;clear hun;go_upto_region 12 with(go_at_call 210;(with_reducible refine jv.out.mono ?_);rintro r w6⟨rfl,d6⟩)
    obtain⟨Dp,PM6,Q7,RW6,HC6⟩:=kp (pH.out.below d6) (JG.out.below d6) (tQ.out.below d6 tQ.out.lt) (Fo.out.below d6 Fo.out.lt) (Fp.out.below d6 Fp.out.lt);have vG:=bm MZ d6;clear pH JG tQ Fo Fp MZ d6 jv;have hcall:=zU tM.out vG.out hbb zT Dp.out PM6.out hx;cases ho:eE dA (k+1) ws with
    |error e=>
     rw[ho]at hcall;have bu:af (Calls ai 248 #[.pointer (some ⟨b,0,none⟩)] w6 fun r w'=>bZ w.heap.size w6 w'∧r=aP e.1 (k+1) e.2∧mr (α:=oV) w' P (.error e)):=ae hcall;have hR:=ey.out;rw[ho]at hR;simp only at hR;have HR:=ae hR;clear hcall hR ey ho;go_wp2_with(go_at_call 248;(with_reducible refine bu.out.mono ?_);rintro r w7⟨d7,rfl,p7⟩;unfold aP)
     obtain⟨p0,p1,p2,p3,rO⟩:=p7 e rfl;have hF7:=Q7.out.off d7 bZ.off aI;have jl:=vG.out.trans (d7.below vG.out.size);exact j4 rfl rfl rO hF7 WR.out (fun w8 hk8=>dB.bad (by rw[Hp.out,HR.out];rfl) (bN jl hk8 (fun q hq=>hq.elim (fun e=>by subst e;exact zT) fun e=>by subst e;exact hFF)))
    |ok rL=>
     rw[ho]at hcall;have bu:af (Calls ai 248 #[.pointer (some ⟨b,0,none⟩)] w6 fun r w'=>bZ w.heap.size w6 w'∧r=.returned (.tuple #[])∧∃k' uv' V',Rs w' b P k' (k+1) (.slice Av ws.length cv) uv' ws∧Pm w.heap.size w' P uv' V' rL):=ae (hcall.mono fun r w'⟨h1,⟨h2,h3⟩,_⟩=>⟨h1,h2,h3⟩);have hR:=ey.out;rw[ho]at hR;simp only at hR;have HR:=ae hR;clear hcall hR ey ho;go_wp2_with(go_at_call 248;(with_reducible refine bu.out.mono ?_);rintro r w7⟨d7,rfl,k',uv',V',R7,M7⟩;obtain⟨om,PM7⟩:=aQ R7 M7;clear R7 M7)
     have Q8:=ae (Q7.out.off d7 bZ.off aI);have RW7:=ae (RW6.out.off d7 bZ.off aI);have Vm:=ae (vG.out.trans (d7.below vG.out.size));go_roundw
     case rel=>exact⟨k+1,_,k',uv',V',rL,by omega,by go_num,ae om.out.blk,PM7,Q8,RW7,Vm,HR⟩
     case measure=>simp[intOf];omega
   have hR:=ey.out;rw[MR dA (k+1) hx x1 x2 x3 x4]at hR;simp only at hR;have HR:=ae hR;clear hR ey;go_upto_region 11 with(first
    |(go_at_call 208;(with_reducible refine(nB _ b).mono ?_);rintro r w3⟨⟨m,c,rfl,BS,JE,WU,hc3⟩,d3⟩;obtain⟨oK,JF⟩:=aQ BS JE;clear BS JE)
    |(go_at_call 209;(with_reducible refine(DG.out _ d3).mono ?_);rintro r w5⟨⟨d5,e5⟩,rfl⟩;have pH:=ae e5;clear e5;have rN:=ae (oK.out.keep d5 aY);have hlk:=QZ rN.out x1 x2 x3 x4))
   have O3:Off (fun x=>x=b) w3 [235]:=fun k hk=>⟨_,_,_,by subst hk;exact(pG.out.below d3).blk,by simp⟩
   have JG:=ae ((Q5.out.below d3).reader d5 O3);have tQ:=ae ((um.out.below d3 um.out.lt).off d5 O3 aI);have Fo:=ae ((Fj.out.below d3 Fj.out.lt).off d5 O3 aI);have Fp:=ae (JF.out.off d5 O3 aI);have MZ:af (Below w.heap.size w w5):=ae (bN (after Q6.out d3) d5 (fun k hk=>by subst hk;exact hbb));clear O3 d3 d5 oK rN JF WU hc3 hlk DG pG WT Q5 um Fj Q6 OV2 c0;have hun:=pH.out.unless (aw 1) aY false 190;rw[show EY 1 ws=0 by unfold EY;rw[if_pos aeM]]at hun;have jv:af (Calls ai 210 #[.pointer (some ⟨b,0,none⟩),.bool false,.int .i64 190] w5 fun r w'=>r=aP 190 (k+1) 0∧Below w5.heap.size w5 w'):=ae hun;clear hun;go_wp2_with(go_at_call 210;(with_reducible refine jv.out.mono ?_);rintro r w6⟨rfl,d6⟩;unfold aP)
   exact j4 rfl rfl (JG.out.blk.below d6 JG.out.blk.lt) (tQ.out.below d6 tQ.out.lt) WR.out (fun w8 hk8=>dB.bad (by rw[Hp.out,HR.out];rfl) (bN (after MZ.out d6) hk8 (fun q hq=>hq.elim (fun e=>by subst e;exact zT) fun e=>by subst e;exact hFF)))
  ·obtain rfl:k=N:=by omega
   have hR:RES=.ok dA:=by rw[hres.out,sU (by rw[ay];have:=HN.out;omega)];rfl
   obtain⟨xs,hxs,Jz⟩:=hpm.out.u;obtain⟨Au,cu,rfl⟩:=aL Jz;obtain⟨U,hU⟩:∃n,n=dA.used.length:=⟨_,rfl⟩;obtain⟨-,-,-,c3⟩:=jB hrd;rw[←hU]at Jz c3;obtain⟨A9,afN,hA9,ac7,Q9⟩:=aV.dm Jz;injection hA9 with hA9 _ hC9
   subst hA9 hC9;have hUl:U≤2000000:=by have:=hpm.out.ul;have:=hpm.out.al;omega
   obtain⟨gv,tv,hv,av⟩:=V;obtain⟨Ag,cg,eg⟩:=hpm.out.g.shape;obtain⟨At,ct,et⟩:=hpm.out.t.shape;obtain⟨Ah,ch,eh⟩:=aL hpm.out.h;obtain⟨Aa,ca,ea⟩:=hpm.out.a.shape;simp only at eg et eh ea;obtain⟨HEg,HEt,HEh,HEa⟩:=fH eg et eh ea;clear eg et eh ea;obtain⟨FD,hFD⟩:∃f,f=dA.used.find? fun u=> !gx dA.p u.1:=⟨_,rfl⟩
   have hend:endP (.ok dA)=QX dA FD:=by rw[WN,hFD]
   have hp2:=Hp.out;rw[hR,hend]at hp2;have ac8:FD=(dA.used.drop 0).find? fun u=> !gx dA.p u.1:=hFD
   obtain⟨HP2,HFD,GM,HU,HC9⟩:=kp hp2 ac8 hxs hU Q9;have PM0:=hpm;have FB0:=hfb;have BW0:=hbw;have hPl:=PM0.out.blk.lt;have Lt:=FB0.out.lt;obtain⟨wo,rfl⟩:∃wo:World,wo=wr:=⟨_,rfl⟩;clear hp2 hend hFD ac8 hR hxs hU Jz Q9 ac7 hres hrow hpm hfb hbw;go_wp2_with fail
   go_loopw [62] (fun v62 wr2=>∃k2:Nat,k2≤U∧v62=.int .i64 k2∧af (Below wo.heap.size wo wr2)∧af (FD=(dA.used.drop k2).find? fun u=> !gx dA.p u.1)) (fun v62 _=>U-(intOf v62).toNat)
   case atStart=>exact⟨0,bF _,rfl,ae (aK _ _),HFD⟩
   case round=>
    obtain⟨k2,hk2,rfl,hb2,hfd⟩:=hrel;clear HFD;obtain⟨JH,FBr,RRr,BWr⟩:=fH (PM0.out.blk.below hb2.out hPl) (FB0.out.below hb2.out Lt) (PM0.out.rows.below hb2.out) (BW0.out.trans (hb2.out.mono BW0.out.size));by_cases hlt2:k2<U
    ·obtain⟨X,hX⟩:∃X,xs[k2]? =some X:=⟨_,ag (by have:=congrArg List.length GM.out;rw[ay]at this;have:=HU.out;omega)⟩;have hXu:dA.used[k2]? =some X.1:=by rw[←GM.out,bR,hX];rfl
     obtain⟨g9,o9,rfl,zV⟩:=HC9.out aY;obtain⟨e0,e1,e2,e3,e4,e5,e6,e7,e8⟩:=G6 xs k2 X hX;have d0:=(hb2.out.cell (au wo _ (zV _ _ e0))).trans (zV _ _ e0);have d1:=(hb2.out.cell (au wo _ (zV _ _ e1))).trans (zV _ _ e1);have d2:=(hb2.out.cell (au wo _ (zV _ _ e2))).trans (zV _ _ e2);have d3:=(hb2.out.cell (au wo _ (zV _ _ e3))).trans (zV _ _ e3);have d4:=(hb2.out.cell (au wo _ (zV _ _ e4))).trans (zV _ _ e4);have d5:=(hb2.out.cell (au wo _ (zV _ _ e5))).trans (zV _ _ e5);have d6:=(hb2.out.cell (au wo _ (zV _ _ e6))).trans (zV _ _ e6);have d7:=(hb2.out.cell (au wo _ (zV _ _ e7))).trans (zV _ _ e7);have d8:=(hb2.out.cell (au wo _ (zV _ _ e8))).trans (zV _ _ e8);rw[←Nat.add_assoc]at d1 d2 d3 d4 d5 d6 d7 d8;obtain⟨⟨⟨sk,sn,⟨⟨s3,s4,s5⟩,s6⟩⟩,un,ui⟩,wd⟩:=X;simp only at d0 d1 d2 d3 d4 d5 d6 d7 d8 hXu;have aaT:=hfd.out;rw[QY hXu]at aaT;have WV:=ae aaT;clear aaT hfd hX hXu e0 e1 e2 e3 e4 e5 e6 e7 e8 zV;go_upto_region 17 with fail
     have M7:=ae (aG.new wr 249 #[.int .u8 sk,.string sn,.bool s3,.int .u64 s4,.int .u64 s5,.int .u8 s6,.string wd,.int .i64 un,.int .i64 ui]);have q7:=boxed wr (.cells #[.int .u8 sk,.string sn,.bool s3,.int .u64 s4,.int .u64 s5,.int .u8 s6,.string wd,.int .i64 un,.int .i64 ui] 249);have aeN:wo.heap.size≤wr.heap.size:=hb2.out.size;generalize wr.alloc (.cells #[.int .u8 sk,.string sn,.bool s3,.int .u64 s4,.int .u64 s5,.int .u8 s6,.string wd,.int .i64 un,.int .i64 ui] 249)=w7 at M7 q7⊢;obtain⟨PB7,Q8,RR7⟩:=bO (JH.out.below q7 JH.out.lt) (FBr.out.below q7 FBr.out.lt) (RRr.out.below q7);have Vm:=bm BWr q7;have BO7:=bm hb2 q7;clear q7 JH FBr RRr BWr hb2 d0 d1 d2 d3 d4 d5 d6 d7 d8;generalize wr.heap.size=M at M7 aeN⊢;have hkn:=MO (V:=⟨gv,tv,hv,av⟩) RR7.out.rd (by have:=PM0.out.gl;omega) (by have:=PM0.out.tl;omega) (by have:=PM0.out.hl;omega) ⟨sk,sn,⟨⟨s3,s4,s5⟩,s6⟩⟩;have x0:=PB7.out.cell 0;have x1:=PB7.out.cell 1;have x2:=PB7.out.cell 2;have x3:=PB7.out.cell 3;have m0:=M7.out.cell 0;have m1:=M7.out.cell 1;have m2:=M7.out.cell 2;have m3:=M7.out.cell 3;have m4:=M7.out.cell 4;have m5:=M7.out.cell 5;simp at x0 x1 x2 x3 m0 m1 m2 m3 m4 m5;simp only at hkn;by_cases hkk:gx dA.p ⟨sk,sn,⟨⟨s3,s4,s5⟩,s6⟩⟩=true
     ·rw[hkk]at hkn;have HKn:=ae hkn;have hR:=WV.out;rw[if_pos hkk]at hR;have HR:=ae hR;clear hkn hR WV hkk;go_wp2_with(go_at_call 211;(with_reducible refine HKn.out.mono ?_);rintro r w8⟨rfl,d8⟩)
      go_roundw
      case rel=>exact⟨k2+1,by omega,by go_num,(bm BO7 d8),HR⟩
      case measure=>simp[intOf];omega
     have hkf:gx dA.p ⟨sk,sn,⟨⟨s3,s4,s5⟩,s6⟩⟩=false:=by simpa using hkk
     rw[hkf]at hkn;have HKn:=ae hkn;have hR:=WV.out;rw[if_neg hkk]at hR;have hp3:=HP2.out;rw[hR]at hp3;have fJ:af (ic s.data.toList=(Po.zero,(196,un,ui))):=ae hp3;clear hkn hR WV hkk hkf hp3;go_upto_region 18 with(go_at_call 211;(with_reducible refine HKn.out.mono ?_);rintro r w8⟨rfl,d8⟩)
     have Rb:=PB7.out.below d8 PB7.out.lt;have FB8:=Q8.out.below d8 Q8.out.lt;have M8:=M7.out.below d8 M7.out.lt;have BW8:=after Vm.out d8;clear x0 x1 x2 x3 m0 m1 m2 m3 m4 m5 M7 PB7 Q8 RR7 Vm BO7 d8 HKn;have n7:=M8.cell 7;have n8:=M8.cell 8;have x0:=Rb.cell 0;have x1:=Rb.cell 1;have x2:=Rb.cell 2;have x3:=Rb.cell 3;have z0:=Rb.frozen 0;have z1:=Rb.frozen 1;have z2:=Rb.frozen 2;have z3:=Rb.frozen 3;have hMP:M≠P:=M8.xc Rb aI;have hMF:M≠F:=M8.xc FB8 aI;obtain⟨PB4,KP⟩:=aaL (.slice none 0 0) (.slice none 0 0) (.slice none 0 0) (.slice none 0 0) Rb;obtain⟨W4,QW⟩:∃W,W=(((w8.setCell ⟨P,0,none⟩ (.slice none 0 0)).setCell ⟨P,1,none⟩ (.slice none 0 0)).setCell ⟨P,2,none⟩ (.slice none 0 0)).setCell ⟨P,3,none⟩ (.slice none 0 0):=⟨_,rfl⟩;rw[←QW]at PB4 KP;have WM:=ae QW;have BV:=FB8.keep KP (fun e=>WR.out e.symm);have M4:=M8.keep KP hMP;have m7:=M4.cell 7;have m8:=M4.cell 8;have y0:=BV.cell 0;have y1:=BV.cell 1;have y2:=BV.cell 2;have u0:=BV.frozen 0;have u1:=BV.frozen 1;have u2:=BV.frozen 2;obtain⟨tQ,KF⟩:=aaM (.int .i64 196) (.int .i64 un) (.int .i64 ui) BV;obtain⟨W5,hW5⟩:∃W,W=((W4.setCell ⟨F,0,none⟩ (.int .i64 196)).setCell ⟨F,1,none⟩ (.int .i64 un)).setCell ⟨F,2,none⟩ (.int .i64 ui):=⟨_,rfl⟩;rw[←hW5]at tQ KF;obtain⟨xg,HF5,Fb⟩:=bO hW5 tQ (PB4.keep KF WR.out);have M5:=M4.keep KF hMF;have o7:=M5.cell 7;have o8:=M5.cell 8;have nt:=ae (bN (bN BW8 KP (fun q hq=>by subst hq;exact zT)) KF (fun q hq=>by subst hq;exact hFF));simp at n7 n8 x0 x1 x2 x3 m7 m8 y0 y1 y2 o7 o8;clear QW hW5 tQ PB4 KF KP M4 M5 BV Rb FB8 M8 BW8;refine wp_region_held_drew (S:=(fun w'=>w'.cell? ⟨M,7,none⟩=some (.int .i64 un)∧w'.cell? ⟨M,8,none⟩=some (.int .i64 ui))) bJ (⟨n7,n8⟩) (fun hHeld=>?_);refine xa 0 ?_ (hQ:=by exact fun _ _ _ h=>fV aI aI h);try simp only[dX]
     refine xa 1 ?_ (hQ:=by exact fun _ _ _ h=>fV aI aI h);try simp only[dX]
     refine xa 2 ?_ (hQ:=by exact fun _ _ _ h=>fV aI aI h);try simp only[dX]
     refine xa 3 ?_ (hQ:=by exact fun _ _ _ h=>fV aI aI h);try simp only[dX]
     refine xa 4 ?_ (hQ:=by exact fun _ _ _ h=>fV aI aI h);try simp only[dX]
     refine xa 5 ?_ (hQ:=by exact fun _ _ _ h=>fV aI aI h);try simp only[dX]
     refine xa 6 ?_ (hQ:=by exact fun _ _ _ h=>fV aI aI h);try simp only[dX]
     refine xa 7 ?_ (hQ:=by exact fun _ _ _ h=>fV aI aI h);try simp only[dX]
     refine mM 8 fun K hK=>?_;go_simp;rw[←WM.out];refine hK.out _ _ (⟨m7,m8⟩) (fun hHeld=>?_);clear hK K;try simp only[dX]
     refine mM 9 fun K hK=>?_;go_simp;rw[←xg.out];refine hK.out _ _ (⟨o7,o8⟩) (fun hHeld=>?_);clear hK K;try simp only[dX]
     refine tX ?_;go_wp2_with fail
     exact td rfl rfl (JC Fb.out) (JD HF5.out) (dB.bad fJ.out ⟨nt.out.os,nt.out.tape,nt.out.output,nt.out.size,nt.out.block⟩)
    ·obtain rfl:k2=U:=by omega
     have hF:FD=none:=by rw[hfd.out,sU (by have:=HU.out;omega)];rfl
     have hp3:=HP2.out;rw[hF]at hp3;have fJ:=ae hp3;have eg:=HEg.out;have et:=HEt.out;have eh:=HEh.out;have ea:=HEa.out;generalize dA.p.groups.length=lg at eg;generalize dA.p.tags.length=lt at et;generalize dA.p.hosts.length=lh at eh;generalize dA.p.kt.length=la at ea;clear HEg HEt HEh HEa;subst eg et eh ea;have x0:=JH.out.cell 0;have x1:=JH.out.cell 1;have x2:=JH.out.cell 2;have x3:=JH.out.cell 3;have z0:=JH.out.frozen 0;have z1:=JH.out.frozen 1;have z2:=JH.out.frozen 2;have z3:=JH.out.frozen 3;obtain⟨PB4,KP⟩:=aaL (.slice Ag lg cg) (.slice At lt ct) (.slice Ah lh ch) (.slice Aa la ca) JH.out;obtain⟨W4,QW⟩:∃W,W=(((wr.setCell ⟨P,0,none⟩ (.slice Ag lg cg)).setCell ⟨P,1,none⟩ (.slice At lt ct)).setCell ⟨P,2,none⟩ (.slice Ah lh ch)).setCell ⟨P,3,none⟩ (.slice Aa la ca):=⟨_,rfl⟩;rw[←QW]at PB4 KP;have BV:=FBr.out.keep KP (fun e=>WR.out e.symm);have y0:=BV.cell 0;have y1:=BV.cell 1;have y2:=BV.cell 2;have u0:=BV.frozen 0;have u1:=BV.frozen 1;have u2:=BV.frozen 2;have OP:Off (fun x=>x=P) wr [190]:=fun q hq=>⟨_,_,_,by subst hq;exact JH.out,by simp⟩
     have OF:Off (fun x=>x=F) W4 [192]:=fun q hq=>⟨_,_,_,by subst hq;exact BV,by simp⟩
     obtain⟨tQ,KF⟩:=aaM (.int .i64 0) (.int .i64 0) (.int .i64 0) BV;obtain⟨HF5,Fb⟩:=aQ tQ (PB4.keep KF WR.out);have HR5:=ae ((RRr.out.off KP OP aI aI aI aI aI aI aI).off KF OF aI aI aI aI aI aI aI).rd;have nt:=ae (bN (bN BWr.out KP (fun q hq=>by subst hq;exact zT)) KF (fun q hq=>by subst hq;exact hFF));simp at x0 x1 x2 x3 y0 y1 y2;rw[QW]at HF5 Fb HR5 nt y0 y1 y2 u0 u1 u2;clear QW tQ PB4 KF KP BV OP OF JH FBr RRr BWr hb2 hfd hp3 hF c3;go_wp2_with fail
     exact td rfl rfl (JC Fb.out) (JD HF5.out) (dB.good (V:=⟨(.slice Ag lg cg),(.slice At lt ct),(.slice Ah lh ch),(.slice Aa la ca)⟩) fJ.out HR5 nt.out)
theorem parse_any{w:World}(env:Env w)(s:ByteArray)(hs:s.size≤2000000):Calls ai 167 #[.string s] w (dB s.data.toList w):=by
 by_cases hl:8192<s.size
 ·exact G7 s hs hl
 ·exact DF env s hl
theorem mA{s:ByteArray}(h:cn s=true):s.size≤33:=by
 have e:s.size=s.data.toList.length:=by rw[mL];rfl
 unfold cn at h;generalize s.data.toList=l at h e;cases l with
 |nil=>rw[e];decide
 |cons c r=>
  unfold na at h;simp only[bg,decide_eq_true_eq]at h;simp only[cm]at e;omega
theorem Re(k:List UInt8):fR k≤6:=by
 unfold fR
 repeat' split
 all_goals decide
theorem JI{w:ByteArray}{s:jC}(h:lu w=some s):G1 s:=by
 have hz:Pf.zero.Ok:=⟨⟨by decide,by decide⟩,by decide⟩;cases Jt h with
 |star h1 h2=>subst h2;exact⟨hz,by decide,by decide⟩
 |named k nm h0 h1 h2 h3 h4=>
  subst h4;have h5:cn (iF nm)=true:=h3;have:=mA h5;exact⟨hz,Nat.lt_of_le_of_lt (Re k) aI,ax this aI⟩
 |net k t n h0 h1 h2 h3=>subst h3;exact⟨(m9 h2).2.1,(by show(6:Nat)<256;decide),(by show(0:Nat)≤1900000;decide)⟩
theorem acb.fit{p:Po}(ok:acb p)(hm:aac p=true):ac4 p:=by
 obtain⟨m1,m2,m3,m4,m5,m6,m7⟩:=VK hm;have hnm:∀l:List Nm,ym l=true→(∀n∈l,QU n)∧l.length≤64:=by
  intro l hl;unfold ym at hl;simp only[bg,decide_eq_true_eq]at hl;refine⟨fun n hn=>?_,hl.1.2⟩;have:=List.all_eq_true.1 hl.1.1 n hn;simp only[bg,decide_eq_true_eq]at this;exact⟨ax (mA this.1.1.1) aI,by omega,fun s hs=>ax (mA (List.all_eq_true.1 this.2 s hs)) aI⟩
 obtain⟨g1,g2⟩:=hnm _ m1;obtain⟨t1,t2⟩:=hnm _ m2;refine⟨g1,t1,fun x hx=>⟨ax (mA (m5 x hx).1) aI,ok.hosts x hx⟩,fun a ha=>?_,by omega,by omega,by omega,by omega⟩;have h:=m6 a ha;unfold PQ at h;simp only[bg,decide_eq_true_eq]at h;obtain⟨⟨⟨⟨⟨h1,h2⟩,h3⟩,h4⟩,h5⟩,h6⟩:=h;obtain⟨s1,s2,s3⟩:=uT h5;obtain⟨d1,d2,d3⟩:=uT h6;refine⟨fun s hs=>JI (s1 s hs).1,fun s hs=>JI (d1 s hs).1,ax (zS _ h2 h3) aI,by omega,by omega,by omega,fun x hx=>?_,ok.iU a ha⟩;have:=List.all_eq_true.1 h2 x hx;simp only[Bool.or_eq_true,decide_eq_true_eq]at this;omega
open Go.ChangeShapes Go.WideShapes Go.ChangeAt
theorem Rf{P:Program}{W:World}{name:String}{k:IntKind}{zs:List Int}{g:Nat}{t e:TypeId}{n:Nat}(hg:P.globalNamed name=some g)(hty:(P.globals[g]?).map (·.type)=some t)(ht:P.underlying t=some (.array n e))(he:P.underlying e=some (.int k))(hce:P.cellsOf e=1)(hct:P.cellsOf t=n)(h:Lib.VarReads P W name (Lib.tabData k zs)):Lib.TabIs P W name k zs:=by
 obtain⟨g',t',cs,fuel,p,hg',ht',hvar,hd⟩:=h;obtain rfl:=Option.some.inj (hg.symm.trans hg');obtain rfl:=Option.some.inj (hty.symm.trans ht');unfold Lib.TabIs;rw[hvar,←Lib.cells_of_tab ht he hce hct hd]
theorem DI{P:Program}{W:World}{name nm:String}{d:DataW Unit}{g:Nat}{t:TypeId}{ms:Array (String×TypeId)}(hg:P.globalNamed name=some g)(hty:(P.globals[g]?).map (·.type)=some t)(ht:P.underlying t=some (.interface ms))(h:Lib.VarReads P W name (.iface nm d)):∃(tp:TypeId)(p:Value),W.cell? ⟨g,0,none⟩=some (.iface tp p):=by
 obtain⟨g',t',cs,fuel,p,hg',ht',hvar,hd⟩:=h;obtain rfl:=Option.some.inj (hg.symm.trans hg');obtain rfl:=Option.some.inj (hty.symm.trans ht');have hc:=World.var?_cell hg hvar 0;obtain⟨l⟩:=cs;cases fuel with
 |zero=>simp[DataW.trod]at hd
 |succ fuel=>
  cases l with
  |nil=>simp[DataW.trod,ht]at hd
  |cons x r=>
   cases r with
   |cons y r=>simp[DataW.trod,ht]at hd
   |nil=>
    cases x
    case iface tp q=>exact⟨tp,q,by simpa using hc⟩
    all_goals simp[DataW.trod,ht]at hd
variable{H:Type}{enc:TypeId×Value→H}
def qw:List (String×DataW Unit):=Rows.netmapFindsRow.laid
theorem aaU{W:World}(hL:laidMetH ai qw W)(hsh:W.ShapedOpen ai):Env W:=by
 rw[MakeChecks.laidMetH_plain _ _ _ bJ]at hL;refine⟨?_,?_,?_,?_,?_⟩
 ·exact Go.Proofs.cell_of_shapedOpen_int (zero:= #[.int .i64 0]) (t:=3) hsh (of_decide_eq_true bJ) bJ rfl bJ bJ Tryz.underlying3
 ·have h:Lib.VarReads ai W "internal/strconv.uint64pow10" (Lib.tabData .u64 Lib.pow10Tab):=Lib.laidMet.reads hL (.tail _ (.tail _ (.head _)));exact Rf (g:=1) (t:=383) (e:=22) (n:=20) bJ bJ bJ bJ bJ bJ h
 ·have h:Lib.VarReads ai W "math/bits.deBruijn64tab" (Lib.tabData .u8 [0,1,56,2,57,49,28,3,61,58,42,50,38,29,17,4,62,47,59,36,45,43,51,22,53,39,33,30,24,18,12,5,63,55,48,27,60,41,37,16,46,35,44,21,52,32,23,11,54,26,40,15,34,20,31,10,25,14,19,9,13,8,7,6]):=Lib.laidMet.reads hL (.tail _ (.head _));exact(Rf (g:=6) (t:=272) (e:=5) (n:=64) bJ bJ bJ bJ bJ bJ h).cell bJ 15 (by decide)
 ·exact DI (g:=7) (t:=154) bJ bJ Tryz.underlying154 (Lib.laidMet.reads hL (.tail _ (.tail _ (.tail _ (.tail _ (.tail _ (.head _)))))))
 ·exact DI (g:=8) (t:=154) bJ bJ Tryz.underlying154 (Lib.laidMet.reads hL (.tail _ (.tail _ (.tail _ (.tail _ (.head _))))))
theorem own:ownKnob ai.godebug=none:=by kernel_rfl
open Go.Deep
theorem WW{α:Type}{n:Nat}{P:Nat→α→Prop}(h:∀i,i<n→∃x,P i x):∃l:List α,l.length=n∧∀i x,l[i]? =some x→P i x:=by
 induction n with
 |zero=>exact⟨[],rfl,fun i x hx=>by simp at hx⟩
 |succ n ih=>
  obtain⟨l,hl,hp⟩:=ih fun i hi=>h i (by omega)
  obtain⟨x,hx⟩:=h n aY;refine⟨l++[x],by simp[hl],fun i y hy=>?_⟩;by_cases hi:i<n
  ·rw[List.getElem?_append_left aY]at hy;exact hp i y hy
  ·have h2:=(List.getElem?_eq_some_iff.1 hy).1;simp at h2;obtain rfl:i=n:=by omega
   rw[List.getElem?_append_right aY,hl,Nat.sub_self]at hy;simp at hy;subst hy;exact hx
theorem JJ{α:Type}(cells:α→List Value)(size:Nat)(hc:∀x,(cells x).length=size):∀l:List α,(l.flatMap cells).length=l.length*size:=by
 intro l
 induction l with
 |nil=>simp
 |cons x r ih=>rw[Zg,List.length_append,ih,hc,cm,Nat.add_mul,Nat.one_mul,Nat.add_comm]
theorem aaV{α:Type}(cells:α→List Value)(size:Nat)(hc:∀x,(cells x).length=size):∀(l:List α)(j:Nat)(u:Value),(l.flatMap cells)[j]? =some u→∃i x r,l[i]? =some x∧(cells x)[r]? =some u∧j=i*size+r:=by
 intro l
 induction l with
 |nil=>intro j u h;simp at h
 |cons x r ih=>
  intro j u h;rw[Zg]at h;by_cases hj:j<size
  ·rw[List.getElem?_append_left (by rw[hc];exact hj)]at h;exact⟨0,x,j,rfl,h,by omega⟩
  ·rw[List.getElem?_append_right (by rw[hc];omega),hc]at h;obtain⟨i,y,k,h1,h2,h3⟩:=ih _ _ h;exact⟨i+1,y,k,by simpa using h1,h2,by rw[Nat.add_mul];omega⟩
section
variable{H:Type}
theorem Rh(d:DataW H):1≤Rows.uptoBulk d:=by
 cases d with
 |lit l=>cases l<;>simp[Rows.uptoBulk]
 |_=>simp[Rows.uptoBulk]
theorem DJ{d:DataW H}:∀{l:List (DataW H)},d∈l→Rows.uptoBulk d≤Rows.uptoBulkAll l:=by
 intro l
 induction l with
 |nil=>intro h;cases h
 |cons x r ih=>
  intro h;rw[Rows.uptoBulkAll];rcases List.mem_cons.1 h with e|e
  ·subst e;omega
  ·have:=ih e;omega
theorem Ri:∀l:List (DataW H),l.length≤Rows.uptoBulkAll l:=by
 intro l
 induction l with
 |nil=>exact bF _
 |cons x r ih=>rw[Rows.uptoBulkAll,cm];have:=Rh x;omega
theorem j5{xs:List (DataW H×List MemPlace)}{i:Nat}{y:DataW H×List MemPlace}(h:xs[i]? =some y):Rows.uptoBulk y.1≤Rows.uptoBulk (.agg (xs.map (·.1))):=by
 rw[Rows.uptoBulk];have:=DJ (d:=y.1) (l:=xs.map (·.1)) (List.mem_map.2 ⟨y,List.mem_of_getElem? h,rfl⟩);omega
end
section
variable{H:Type}{enc:TypeId×Value→H}{w:World}{base:Nat}{sp:Nat→Bool}{held:Bool}
theorem open_row{t e:TypeId}{fuel:Nat}{cs:List Value}{x:DataW H×List MemPlace}(ht:ai.underlying t=some (.slice e)){α:Type}(size:Nat)(hsz:0<size)(hc:ai.cellsOf e=size)(cells:α→List Value)(hcl:∀x,(cells x).length=size)(Q:DataW H→α→Prop)(hel:∀n cs y,DataW.trod enc ai w base sp held n e cs=some y→∃x,cs=cells x∧Q y.1 x)(h:DataW.trod enc ai w base sp held fuel t cs=some x):∃(l:List α)(v:Value),cs=[v]∧aV w v l.length size (l.flatMap cells)∧(∀y∈l,∃D,Q D y∧Rows.uptoBulk D≤Rows.uptoBulk x.1)∧l.length≤Rows.uptoBulk x.1∧∀A n c,v=.slice A n c→n≤c:=by
 rcases open_slice ht h with⟨rfl,rfl⟩|⟨a,len,cap,m,n,D,Pl,rfl,hb,hl,hm,hmm,rfl,hi⟩
 ·exact⟨[],_,rfl,aV.empty _ _,fun y hy=>(by cases hy),bF _,fun A n c e=>by injection e with _ e1 e2;omega⟩
 ·have hlm:len≤m:=by rw[hmm];split<;>omega
  obtain⟨l,hl1,hl2⟩:=WW (n:=len) (P:=fun i x=>w.cells? base (a.add (i*size)) size=some (cells x)∧Q (D i) x) (fun i hil=>by
   obtain⟨cs',h1,h2⟩:=hi i aY;obtain⟨x,rfl,hq⟩:=hel _ _ _ h2;rw[hc]at h1;exact⟨x,h1,hq⟩)
  have hbl:Rows.uptoBulkAll ((aD len).map D)+1≤Rows.uptoBulk (DataW.slice ((aD len).map D) ((aD (m-len)).map fun j=>D (len+j))):=by rw[Rows.uptoBulk];omega
  refine⟨l,_,rfl,⟨some a,cap,by rw[hl1],JJ cells size hcl l,fun hpos=>?_⟩,fun y hy=>?_,?_,fun A n c e=>by injection e with _ e1 e2;omega⟩
  ·have hcell:∀j u,(l.flatMap cells)[j]? =some u→w.cell? (a.add j)=some u:=by
    intro j u hu;obtain⟨i,x,r,h1,h2,rfl⟩:=aaV cells size hcl l j u hu;have hr:r<size:=by have:=(List.getElem?_eq_some_iff.1 h2).1;rw[hcl]at this;exact this
    have h3:=(World.cells?_some (hl2 i x h1).1).2.2 r hr;rw[add_add]at h3;rw[h3,h2]
   obtain⟨g,o,spot⟩:=a;have h0:∃u,(l.flatMap cells)[0]? =some u:=by
    have:0<(l.flatMap cells).length:=by rw[JJ cells size hcl];exact Nat.mul_pos hpos hsz
    exact⟨_,ag this⟩
   obtain⟨u,hu⟩:=h0;have hspot:spot=none:=by simpa[Addr.add]using World.cell?_spot (hcell 0 u hu)
   subst hspot;refine⟨g,o,rfl,fun j u hu=>?_⟩;have:=hcell j u hu;rw[addr_add]at this;exact this
  ·obtain⟨i,hiy⟩:=List.mem_iff_getElem?.1 hy;have hil:i<len:=by have:=(List.getElem?_eq_some_iff.1 hiy).1;omega
   refine⟨D i,(hl2 i y hiy).2,?_⟩;have:=DJ (d:=D i) (l:=(aD len).map D) (List.mem_map.2 ⟨i,List.mem_range.2 hil,rfl⟩);exact ax this (by simp only at hbl⊢;omega)
  ·have:=Ri ((aD len).map D);rw[ay,List.length_range]at this;simp only at hbl⊢;omega
end
theorem d4:ai.cellsOf 4=1:=by kernel_rfl
theorem d5:ai.cellsOf 5=1:=by kernel_rfl
theorem d6:ai.cellsOf 67=1:=by kernel_rfl
theorem d9:ai.cellsOf 9=1:=by kernel_rfl
theorem d10:ai.cellsOf 22=1:=by kernel_rfl
theorem d11:ai.cellsOf 44=3:=by kernel_rfl
theorem d12:ai.cellsOf 243=4:=by kernel_rfl
theorem d13:ai.cellsOf 296=2:=by kernel_rfl
theorem lp:ai.cellsOf 300=5:=by kernel_rfl
theorem ri:ai.cellsOf 245=6:=by kernel_rfl
theorem kG:ai.cellsOf 342=2:=by kernel_rfl
theorem rj:ai.cellsOf 306=4:=by kernel_rfl
theorem d19:ai.cellsOf 27=1:=by kernel_rfl
theorem nA:ai.cellsOf 89=1:=by kernel_rfl
theorem tf:ai.cellsOf 303=1:=by kernel_rfl
theorem ti:ai.cellsOf 304=1:=by kernel_rfl
theorem BW:ai.cellsOf 186=1:=by kernel_rfl
theorem Vn:ai.cellsOf 187=1:=by kernel_rfl
theorem Vo:ai.cellsOf 188=1:=by kernel_rfl
theorem DK{k:IntKind}{z:Int}{b:Nat}(h:(Lit.int k z).wf=true)(hk:k.min=0∧k.max=(b:Int)):∃n:Nat,z=(n:Int)∧n≤b:=by
 have hx:k.min≤z∧z≤k.max:=by simpa[Lit.wf]using h
 rw[hk.1,hk.2]at hx;exact⟨z.toNat,by omega,by omega⟩
section
variable{H:Type}{enc:TypeId×Value→H}{w:World}{base:Nat}{sp:Nat→Bool}{held:Bool}
theorem rP:∀n cs y,DataW.trod enc ai w base sp held n 9 cs=some y→∃x:ByteArray,cs=[.string x]∧x.size<Rows.uptoBulk y.1:=by
 intro n cs y h;obtain⟨s,rfl,rfl,_⟩:=DataW.trod_string Tryz.underlying9 h;exact⟨s,rfl,by rw[Rows.uptoBulk];show s.data.size<s.data.toList.length+1;rw[mL];omega⟩
theorem Zz:∀n cs y,DataW.trod enc ai w base sp held n 5 cs=some y→∃x:Nat,cs=[.int .u8 x]∧x<256:=by
 intro n cs y h;obtain⟨z,rfl,_,hw⟩:=DataW.trod_int Tryz.underlying5 h;obtain⟨m,rfl,hm⟩:=DK (b:=255) hw ⟨by decide,by decide⟩;exact⟨m,rfl,by omega⟩
theorem Rj{n:Nat}{cs:List Value}{y:DataW H×List MemPlace}(h:DataW.trod enc ai w base sp held n 44 cs=some y):∃a:Ad,a.Ok∧cs=a.cells.toList:=by
 obtain⟨xs,n,_,rfl,hl,hlen,hf⟩:=DataW.trod_struct Tryz.underlying44 h;rw[d11]at hl
 match cs,hl with
 |[v0,v1,v2],_=>
  have h0:=hf 0 _ rfl;have h1:=hf 1 _ rfl;have h2:=hf 2 _ rfl;rw[ag (show 0<xs.length by rw[hlen];decide)]at h0;rw[ag (show 1<xs.length by rw[hlen];decide)]at h1;rw[ag (show 2<xs.length by rw[hlen];decide)]at h2;obtain⟨b,e0,_⟩:=DataW.trod_bool Tryz.underlying4 h0;obtain⟨z1,e1,_,w1⟩:=DataW.trod_int Tryz.underlying22 h1;obtain⟨z2,e2,_,w2⟩:=DataW.trod_int Tryz.underlying22 h2;simp[d4,d10]at e0 e1 e2;subst e0 e1 e2;obtain⟨n1,rfl,k1⟩:=DK (b:=18446744073709551615) w1 ⟨by decide,by decide⟩;obtain⟨n2,rfl,k2⟩:=DK (b:=18446744073709551615) w2 ⟨by decide,by decide⟩;exact⟨⟨b,n1,n2⟩,⟨by show n1<_;omega,by show n2<_;omega⟩,rfl⟩
theorem Rk(l:List ByteArray):l.flatMap (fun x=>[bU x])=strCells l:=by
 unfold strCells
 induction l with
 |nil=>rfl
 |cons x r ih=>rw[Zg,ih];rfl
end
theorem laidOut:laidOutB ai=true:=by kernel_rfl
def Vp(p:Nat→Bool)(n:Nat)(z:Int):Prop:=(∃k:Nat,k<n∧z=(k:Int)∧p k=true∧∀j,j<k→p j=false)∨(z= -1∧∀j,j<n→p j=false)
theorem Vp.any{p:Nat→Bool}{n:Nat}{z:Int}(h:Vp p n z):decide (0≤z)=(aD n).any p:=by
 rcases h with⟨k,hk,rfl,hp,_⟩|⟨rfl,hp⟩
 ·rw[decide_eq_true aY];exact(List.any_eq_true.2 ⟨k,List.mem_range.2 hk,hp⟩).symm
 ·rw[decide_eq_false aY]
  symm
  rw[List.any_eq_false];intro j hj;rw[hp j (List.mem_range.1 hj)];decide
def dh(w:World)(A:Option Addr)(n K:Nat)(cs:Nat→List Value):Prop:=∀k,k<n→(cs k).length=K∧∃g o,A=some ⟨g,o,none⟩∧∀j u,(cs k)[j]? =some u→w.cell? ⟨g,o+k*K+j,none⟩=some u
theorem aV.gX{w:World}{A:Option Addr}{n cap K:Nat}{xs:List Value}(h:aV w (.slice A n cap) n K xs):dh w A n K fun k=>(xs.drop (k*K)).take K:=by
 obtain⟨A',cap',e,hl,hc⟩:=h;injection e with e1 _ e2
 subst e1 e2;intro k hk;have hb:k*K+K≤n*K:=by
  have:=Nat.mul_le_mul_right K (show k+1≤n from hk);rw[Nat.succ_mul]at this;exact this
 refine⟨by rw[List.length_take,List.length_drop,hl];omega,?_⟩;obtain⟨g,o,ha,hcc⟩:=hc aY;refine⟨g,o,ha,fun j u hu=>?_⟩;rw[Nat.add_assoc];refine hcc _ u ?_;rw[List.getElem?_take]at hu;split at hu
 ·rw[List.getElem?_drop]at hu;exact hu
 ·cases hu
theorem DL{w:World}{A:Option Addr}{N cap:Nat}(hN:N≤4000000)(cs:Nat→List Value)(p:Nat→Bool)(hc:dh w A N 8 cs)(f:Nat)(lb:Array Value)(eg:∀args w,(callFunc f args).run ai w=.ok (.enter f args) w)(hf:∀k,k<N→∀W,Below w.heap.size w W→Calls ai f (#[.agg (cs k).toArray]++lb) W (Got (.bool (p k)) W)):Calls ai 103 #[.slice A N cap,.func (.func f) #[] lb] w fun r w'=>(∃z:Int,r=.returned (.int .i64 z)∧Vp p N z)∧Below w.heap.size w w':=by
 obtain⟨HC,HF⟩:=aQ hc hf;clear hc hf;go_enter Tryz.func103,Tryz.ntmps103;go_wp2_with fail
 go_loopw [8] (fun v8 wr=>∃k:Nat,k≤N∧v8=.int .i64 k∧af (Below w.heap.size w wr)∧af (∀j,j<k→p j=false)) (fun v8 _=>N-(intOf v8).toNat)
 case atStart=>exact⟨0,bF _,rfl,ae (aK _ _),ae (fun j hj=>absurd hj (Nat.not_lt_zero j))⟩
 case round=>
  obtain⟨k,hk,rfl,hb,hno⟩:=hrel;by_cases hlt:k<N
  ·obtain⟨hlen,q,o,rfl,hcell⟩:=HC.out k hlt;have hcall:=HF.out k hlt wr hb.out;generalize hcs:cs k=L at hlen hcell hcall;clear hcs;obtain⟨c0,c1,c2,c3,c4,c5,c6,c7,hL⟩:∃c0 c1 c2 c3 c4 c5 c6 c7,L=[c0,c1,c2,c3,c4,c5,c6,c7]:=by
    match L,hlen with
    |[c0,c1,c2,c3,c4,c5,c6,c7],_=>exact⟨c0,c1,c2,c3,c4,c5,c6,c7,rfl⟩
   subst hL;have d0:=(hb.out.cell (au w _ (hcell 0 _ rfl))).trans (hcell 0 _ rfl);have d1:=(hb.out.cell (au w _ (hcell 1 _ rfl))).trans (hcell 1 _ rfl);have d2:=(hb.out.cell (au w _ (hcell 2 _ rfl))).trans (hcell 2 _ rfl);have d3:=(hb.out.cell (au w _ (hcell 3 _ rfl))).trans (hcell 3 _ rfl);have d4:=(hb.out.cell (au w _ (hcell 4 _ rfl))).trans (hcell 4 _ rfl);have d5:=(hb.out.cell (au w _ (hcell 5 _ rfl))).trans (hcell 5 _ rfl);have d6:=(hb.out.cell (au w _ (hcell 6 _ rfl))).trans (hcell 6 _ rfl);have d7:=(hb.out.cell (au w _ (hcell 7 _ rfl))).trans (hcell 7 _ rfl);rw[Nat.add_zero]at d0;have bu:=ae hcall;clear hcall hcell hlen;cases hp:p k with
   |true=>
    rw[hp]at bu;have HP:=ae hp;clear hp;go_wp2_with(go_at_fn f;(with_reducible refine bu.out.mono ?_);rintro r w2⟨rfl,e2⟩)
    go_ret;exact⟨⟨_,rfl,.inl ⟨k,hlt,rfl,HP.out,hno.out⟩⟩,after hb.out e2⟩
   |false=>
    rw[hp]at bu;have HP:=ae hp;clear hp;go_wp2_with(go_at_fn f;(with_reducible refine bu.out.mono ?_);rintro r w2⟨rfl,e2⟩)
    go_roundw
    case rel=>
     refine⟨k+1,by omega,by go_num,(bm hb e2),ae (fun j hj=>?_)⟩;by_cases e:j=k
     ·rw[e];exact HP.out
     ·exact hno.out j (by omega)
    case measure=>simp[intOf];omega
  ·obtain rfl:k=N:=by omega
   go_wp2_with fail
   go_ret;exact⟨⟨_,rfl,.inr ⟨rfl,hno.out⟩⟩,hb.out⟩
theorem Rm{w:World}{A:Option Addr}{N cap:Nat}(hN:N≤4000000)(cs:Nat→List Value)(p:Nat→Bool)(hc:dh w A N 8 cs)(f:Nat)(lb:Array Value)(eg:∀args w,(callFunc f args).run ai w=.ok (.enter f args) w)(hf:∀k,k<N→∀W,Below w.heap.size w W→Calls ai f (#[.agg (cs k).toArray]++lb) W (Got (.bool (p k)) W)):Calls ai 182 #[.slice A N cap,.func (.func f) #[] lb] w (Got (.bool ((aD N).any p)) w):=by
 have HI:=ae (DL (cap:=cap) hN cs p hc f lb eg hf);clear hc hf;generalize hR:(aD N).any p=R;have HR:=ae hR;clear hR;go_enter Tryz.func182,Tryz.ntmps182;go_wp2_with(go_at_call 103;(with_reducible refine HI.out.mono ?_);rintro r w2⟨⟨z,rfl,hz⟩,e2⟩)
 go_ret;exact⟨by rw[←HR.out,←hz.any];rfl,e2⟩
theorem eqS(x y:ByteArray):(x.toList==y.toList)=decide (y=x):=by
 rw[Bool.eq_iff_iff,beq_iff_eq,decide_eq_true_eq];constructor
 ·intro h;exact(aaK h).symm
 ·rintro rfl;rfl
theorem Rn{w:World}(l:List ByteArray){v:Value}(hl:l.length≤4000000)(hr:aV w v l.length 1 (strCells l))(x:ByteArray):Calls ai 119 #[v,(bU x)] w fun r w'=>(∃z:Int,r=.returned (.int .i64 z)∧decide (0≤z)=l.any fun y=>decide (y=x))∧Below w.heap.size w w':=by
 obtain⟨A,cap,rfl,hlen,hA⟩:=hr;obtain⟨N,hN⟩:∃n,n=l.length:=⟨_,rfl⟩;obtain⟨R,hR⟩:∃r,r=l.any fun y=>decide (y=x):=⟨_,rfl⟩
 rw[←hN]at hA hl⊢;rw[←hR];obtain⟨HA,HN,HR⟩:=bO hA hN hR;clear hA hN hlen hR;go_enter Tryz.func119,Tryz.ntmps119;go_wp2_with fail
 go_loopw [8] (fun v8 wr=>∃k:Nat,k≤N∧v8=.int .i64 k∧af (Below w.heap.size w wr)∧af (((l.take k).any fun y=>decide (y=x))=false)) (fun v8 _=>N-(intOf v8).toNat)
 case atStart=>exact⟨0,bF _,rfl,ae (aK _ _),ae rfl⟩
 case round=>
  obtain⟨k,hk,rfl,hb,hno⟩:=hrel;by_cases hlt:k<N
  ·have hkl:k<l.length:=by have:=HN.out;omega
   obtain⟨q,o,rfl,hc⟩:=HA.out aY;have htk:=List.take_succ_eq_append_getElem hkl;have hx:l[k]? =some l[k]:=ag hkl;have c0:=hc _ _ (Dw hx);generalize l[k]=X at htk c0;have d0:=(hb.out.cell (au w _ c0)).trans c0;have hq:(x.toList==X.toList)=decide (X=x):=eqS x X;clear c0 hx hc;cases hD:decide (X=x)with
   |true=>
    rw[hD]at hq;have hres:R=true:=by
     rw[HR.out];have:(l.take (k+1)).any (fun y=>decide (y=x))=true:=by rw[htk,List.any_append];simp[hD]
     obtain⟨y,hy,hys⟩:=List.any_eq_true.1 this;exact List.any_eq_true.2 ⟨y,List.mem_of_mem_take hy,hys⟩
    have ej:=ae hres;clear hres htk hD;go_wp2_with fail
    go_ret;exact⟨⟨_,rfl,by rw[ej.out];exact decide_eq_true aY⟩,hb.out⟩
   |false=>
    rw[hD]at hq;have F7:af (((l.take (k+1)).any fun y=>decide (y=x))=false):=ae (by rw[htk,List.any_append,hno.out];simp[hD]);clear htk hD;go_wp2_with fail
    go_roundw
    case rel=>exact⟨k+1,by omega,by go_num,hb,F7⟩
    case measure=>simp[intOf];omega
  ·obtain rfl:k=N:=by omega
   have hres:R=false:=by
    have:=hno.out;rw[List.take_of_length_le (by have:=HN.out;omega)]at this;rw[HR.out];exact this
   have ej:=ae hres;clear hres;go_wp2_with fail
   go_ret;exact⟨⟨_,rfl,by rw[ej.out];rfl⟩,hb.out⟩
theorem WX{w:World}(l:List ByteArray){v:Value}(hl:l.length≤4000000)(hr:aV w v l.length 1 (strCells l))(x:ByteArray):Calls ai 51 #[v,(bU x)] w (Got (.bool (l.any fun y=>decide (y=x))) w):=by
 have HI:=ae (Rn l hl hr x);obtain⟨A,cap,rfl,_,_⟩:=hr;generalize(l.any fun y=>decide (y=x))=R at HI⊢;generalize l.length=N at HI⊢;go_enter Tryz.func51,Tryz.ntmps51;go_wp2_with(go_at_call 119;(with_reducible refine HI.out.mono ?_);rintro r w2⟨⟨z,rfl,hz⟩,e2⟩)
 go_ret;exact⟨by rw[←hz];rfl,e2⟩
structure Pe where
 user:ByteArray
 tags:List ByteArray
 aH:List Ad
structure Fw where
 proto:Nat
 src:Ad
 dst:Ad
 sent:Nat
 ac9:Nat
def ada(p:Po)(s:ByteArray):Option Nm:=p.groups.find? fun n=>decide (n.name=s)
def adb(p:Po)(s:ByteArray):Option Hs:=p.hosts.find? fun h=>decide (h.name=s)
def Ro(p:Po)(s:jC)(x:Pe):Bool:=if s.kind=2 then decide (x.user=s.name)
 else if s.kind=4 then x.tags.any fun t=>decide (t=s.name)
 else if s.kind=3 then match ada p s.name with
  |some n=>n.list.any fun t=>decide (t=x.user)
  |none=>false
 else false
def i7(p:Po)(l:List Pe)(s:jC)(a:Ad):Bool:=a.may&&(if s.kind=1 then true
 else if s.kind=5 then match adb p s.name with
  |some h=>PL h.net a
  |none=>false
 else if s.kind=6 then PL s.net a
 else l.any fun x=>Ro p s x&&x.aH.any fun b=>decide (b=a))
def Ad.key(a:Ad):Nat:=(if a.v6 then 2^128 else 0)+(a.hi*2^64+a.lo)
abbrev Sp:=Ad×Ad
def Sp.Ok(s:Sp):Prop:=s.1.Ok∧s.2.Ok
def vH(s:Sp):Bool:=s.1.may&&s.2.may&&(s.1.v6==s.2.v6)&& !uQ s.2 s.1
def Sp.cells(s:Sp):Array Value:= #[.bool s.1.v6,.int .u64 (s.1.hi:Int),.int .u64 (s.1.lo:Int),.bool s.2.v6,.int .u64 (s.2.hi:Int),.int .u64 (s.2.lo:Int)]
def cR(l:List Ad):List Value:=l.flatMap fun a=>a.cells.toList
structure WY where
 x:Pe
 key:ByteArray
 bj:ByteArray
 tg:Value
 ad:Value
 exp:Nat
 aW:Nat
 en:Value
def WY.cells(X:WY):Array Value:= #[.string X.key,.string X.bj,.string X.x.user,X.tg,X.ad,.int .u64 (X.exp:Int),.int .u8 (X.aW:Int),X.en]
structure yC(w:World)(X:WY):Prop where
 tags:aV w X.tg X.x.tags.length 1 (strCells X.x.tags)
 aH:aV w X.ad X.x.aH.length 3 (cR X.x.aH)
 ends:∃A n c,X.en=.slice A n c
 tl:X.x.tags.length≤4000000
 al:X.x.aH.length≤4000000
theorem yC.below{w w':World}{X:WY}(h:yC w X)(hb:Below w.heap.size w w'):yC w' X:=⟨h.tags.below hb,h.aH.below hb,h.ends,h.tl,h.al⟩
theorem copied{w:World}{V:uk}{p:Po}(h:tP w V p):∃(Ag At Ah Aa:Option Addr)(cg ct ch ca:Nat),V=⟨.slice Ag p.groups.length cg,.slice At p.tags.length ct,.slice Ah p.hosts.length ch,.slice Aa p.kt.length ca⟩:=by
 obtain⟨gv,tv,hv,av⟩:=V;obtain⟨Ag,cg,eg⟩:=h.g.shape;obtain⟨At,ct,et⟩:=h.t.shape;obtain⟨Ah,ch,eh⟩:=h.h.shape;obtain⟨Aa,ca,ea⟩:=h.a.shape;simp only at eg et eh ea;subst eg et eh ea;exact⟨Ag,At,Ah,Aa,cg,ct,ch,ca,rfl⟩
theorem ak{w u:World}{a:Addr}{v:Value}(h:w.cell? a=some v)(hb:Below w.heap.size w u):u.cell? a=some v:=(hb.cell (au w _ h)).trans h
theorem Below.o5{n:Nat}{w u:World}(h:Below n w u):Below n w u.drew:=⟨h.os,h.tape,h.output,h.size,h.block⟩
theorem Below.eW{w u:World}(h:Below w.drew.heap.size w.drew u):Below w.heap.size w u:=⟨h.os,h.tape,h.output,h.size,h.block⟩
def zW(w:World)(p:Po)(s:jC)(v:Value):Prop:=∃(f:Nat)(lb:Array Value),v=.func (.func f) #[] lb∧(∀args w,(callFunc f args).run ai w=.ok (.enter f args) w)∧∀W,Below w.heap.size w W→∀X:WY,yC W X→Calls ai f (#[.agg X.cells]++lb) W (Got (.bool (Ro p s X.x)) W)
theorem zW.below{w u:World}{p:Po}{s:jC}{v:Value}(h:zW w p s v)(hb:Below w.heap.size w u):zW u p s v:=by
 obtain⟨f,lb,e,eg,hc⟩:=h;exact⟨f,lb,e,eg,fun W hW=>hc W (after hb hW)⟩
end Go.Proofs.YtdfnhljccdoncaaGreatDoor
