/- Joined out of: PlV PxL PzA PzC IxA CnA RuA RxB RxE MyA RxJ. -/
import Derived.Test.YteflnojjjdkgmaaGreatDoorNak
import Derived.Test.YteflnojjjdkgmaaGreatDoorTie
import Derived.Test.YteflnojjjdkgmaaGreatDoorCards
import Derived.ProofKit
import Derived.OpenShut
import Derived.ShutString
import Derived.ChangeMaps5
import Derived.HandedShaped
import Derived.LaidMore
import Derived.Lay
import Derived.SevenTiedAt
import Derived.Shelf.Vars
import Derived.Lib.LaidU8
import Derived.Deep.Slices
set_option linter.unusedVariables false
set_option linter.unusedSimpArgs false
set_option maxHeartbeats 16000000
set_option maxRecDepth 100000
open Bool renaming and_eq_true→aV
open Go.Lib renaming hid→ae
open Go.Proofs.Tryz renaming prog→ag
open Go.RowKit renaming Hid→af
open Go.RowKit.Below renaming refl→aG
open Go.Value renaming string→cC
open Go.World renaming block_lt_of_cell?→aj
open List renaming getElem?_eq_getElem→ah,length_map→ax,range→aA,getElem?_map→bA,drop_eq_nil_of_le→mC
open Nat renaming le_trans→au,le_refl→aw,zero_le→bD
namespace Go.Proofs.YteflnojjjdkgmaaGreatDoor
open Go.RowKit
attribute [local go_sem↓] Go.wp_at_zero Go.wp_at_succ
theorem Gm{w:World}(s:ByteArray)(hs:s.size≤2000000)(hl:8192<s.size):Calls ag 132 #[.string s] w (dz s.data.toList w):=by
 have q:(8192:Int)<(s.size:Int):=by omega
 have hp:gy s.data.toList=(Po.zero,(4,0,0)):=by
  unfold gy;rw[if_pos (by rw[show s.data.toList.length=s.size from(Lib.size_eq s).symm];exact hl)]
 have B1:=aD.new w 179 #[.slice none 0 0,.slice none 0 0,.slice none 0 0,.slice none 0 0];have b1:=boxed w (.cells #[.slice none 0 0,.slice none 0 0,.slice none 0 0,.slice none 0 0] 179);have B2:=aD.new (w.alloc (.cells #[.slice none 0 0,.slice none 0 0,.slice none 0 0,.slice none 0 0] 179)) 181 #[.int .i64 4,.int .i64 0,.int .i64 0];have b2:=boxed (w.alloc (.cells #[.slice none 0 0,.slice none 0 0,.slice none 0 0,.slice none 0 0] 179)) (.cells #[.int .i64 4,.int .i64 0,.int .i64 0] 181);obtain⟨HB2,HB1,Hb,Hp⟩:=cH B2 (B1.below b2 B1.lt) (after b1 b2) hp;clear B1 B2 b1 b2 hp hl hs
 go_enter_defers Tryz.func132,Tryz.ntmps132
 go_wp2_with fail
 show Leaves _ _ _ _ [] .returning _;refine⟨_,pE rfl rfl (I8 HB1.out) (I9 ?_),dz.bad Hp.out Hb.out⟩;simpa using HB2.out
theorem CW{w:World}(env:Env w)(s:ByteArray)(hl:¬8192<s.size):Calls ag 132 #[.string s] w (dz s.data.toList w):=by
 have hmf:∀(fn:Fn)(first cap:Array Value)(w:World),(Instr.makeFunc fn first cap).run ag w=.ok (.func fn first cap) w:=fun _ _ _ _=>rfl
 have q:¬(8192:Int)<(s.size:Int):=by omega
 have hp:=LX (s:=s.data.toList) (by rw[show s.data.toList.length=s.size from(Lib.size_eq s).symm];exact hl);rw[←qg]at hp;have KI:=oQ 10 s;have hFs:=Cc (c:=10) (s:=s);obtain⟨LS,hLS⟩:∃l,l=iI 10 s:=⟨_,rfl⟩;rw[←hLS]at hp KI hFs;obtain⟨RES,dT⟩:∃r,r=pj (LS.map (·.data.toList)) 1 ⟨Po.zero,[]⟩:=⟨_,rfl⟩;rw[←dT]at hp;obtain⟨Hp,iH,HFs,tm⟩:=cH hp dT hFs env;have PB1:=aD.new w 179 #[.slice none 0 0,.slice none 0 0,.slice none 0 0,.slice none 0 0];have b1:=boxed w (.cells #[.slice none 0 0,.slice none 0 0,.slice none 0 0,.slice none 0 0] 179);have tP:=aD.new (w.alloc (.cells #[.slice none 0 0,.slice none 0 0,.slice none 0 0,.slice none 0 0] 179)) 181 #[.int .i64 0,.int .i64 0,.int .i64 0];have b2:=boxed (w.alloc (.cells #[.slice none 0 0,.slice none 0 0,.slice none 0 0,.slice none 0 0] 179)) (.cells #[.int .i64 0,.int .i64 0,.int .i64 0] 181);have RB3:=aD.new ((w.alloc (.cells #[.slice none 0 0,.slice none 0 0,.slice none 0 0,.slice none 0 0] 179)).alloc (.cells #[.int .i64 0,.int .i64 0,.int .i64 0] 181)) 235 #[.slice none 0 0,.int .i64 0,.pointer (some ⟨w.heap.size,0,none⟩),.slice none 0 0];have b3:=boxed ((w.alloc (.cells #[.slice none 0 0,.slice none 0 0,.slice none 0 0,.slice none 0 0] 179)).alloc (.cells #[.int .i64 0,.int .i64 0,.int .i64 0] 181)) (.cells #[.slice none 0 0,.int .i64 0,.pointer (some ⟨w.heap.size,0,none⟩),.slice none 0 0] 235);have PB3:=(PB1.below b2 PB1.lt).below b3 (PB1.below b2 PB1.lt).lt;have FB3:=tP.below b3 tP.lt;have bb3:=after (after b1 b2) b3;rw[show((w.alloc (.cells #[.slice none 0 0,.slice none 0 0,.slice none 0 0,.slice none 0 0] 179)).alloc (.cells #[.int .i64 0,.int .i64 0,.int .i64 0] 181)).heap.size=w.heap.size+1+1 by simp]at RB3;rw[show(w.alloc (.cells #[.slice none 0 0,.slice none 0 0,.slice none 0 0,.slice none 0 0] 179)).heap.size=w.heap.size+1 by simp]at FB3;clear hp dT hFs env PB1 b1 tP b2 b3
 go_enter_defers Tryz.func132,Tryz.ntmps132
 go_upto_region 5 with fail
 generalize((((w.alloc (.cells #[.slice none 0 0,.slice none 0 0,.slice none 0 0,.slice none 0 0] 179)).alloc (.cells #[.int .i64 0,.int .i64 0,.int .i64 0] 181)).alloc (.cells #[.slice none 0 0,.int .i64 0,.pointer (some ⟨w.heap.size,0,none⟩),.slice none 0 0] 235)))=w3 at PB3 FB3 RB3 bb3⊢;obtain⟨b,hb⟩:∃b,b=w.heap.size+1+1:=⟨_,rfl⟩;obtain⟨F,hF⟩:∃F,F=w.heap.size+1:=⟨_,rfl⟩;obtain⟨P,hP⟩:∃P,P=w.heap.size:=⟨_,rfl⟩;rw[←hb]at RB3⊢;rw[←hF]at FB3⊢;have PM3:Pm w.heap.size w3 P (.slice none 0 0) ⟨.slice none 0 0,.slice none 0 0,.slice none 0 0,.slice none 0 0⟩ ⟨Po.zero,[]⟩:=Pm.nil (by rw[hP];exact PB3);have RD3:RdB w3 b (.slice none 0 0) 0 P (.slice none 0 0):=by rw[hP];exact RB3
 rw[←hP];have hbb:w.heap.size≤b:=by omega
 have zv:w.heap.size≤P:=by omega
 have Z4:w.heap.size≤F:=by omega
 have Z2:P≠F:=by omega
 have VW:=ae Z2;have hsp:=uL (tm.out.below bb3) s aM 10;obtain⟨N,hN⟩:∃n,n=LS.length:=⟨_,rfl⟩;rw[←hLS,←hN]at hsp;rw[←hN]at KI;obtain⟨HSp,HN,aca,Z5,Z6,acb⟩:=ox hsp hN PM3 RD3 FB3 bb3;clear hb hF hP hsp hN hLS PB3 PM3 RD3 RB3 FB3 bb3 Z2;go_wp2_with(go_at_call 173;(with_reducible refine HSp.out.mono ?_);rintro r wq⟨rfl,rfl⟩)
 have hrow:aD (w3.alloc (.cells (LS.map cC).toArray 9)) w3.heap.size 9 (LS.map cC).toArray:=aD.new _ _ _;have hb4:=boxed w3 (.cells (LS.map cC).toArray 9);obtain⟨VX,Z7,Z8,Z9⟩:=cH hrow (aca.out.below hb4) (Z5.out.below hb4 Z5.out.lt) (Z6.out.below hb4 Z6.out.lt);have aac:=aU acb hb4;clear hrow hb4 aca Z5 Z6 acb HSp;generalize w3.alloc (.cells (LS.map cC).toArray 9)=w4 at VX Z7 Z8 Z9 aac⊢;generalize w3.heap.size=gS at VX⊢;go_loopw [22] (fun v22 wr=>∃(k:Nat)(lv:Value)(j:Nat)(uv:Value)(V:tN)(dx:oO),k≤N∧v22=.int .i64 k∧af (RdB wr b lv j P uv)∧af (Pm w.heap.size wr P uv V dx)∧af (aD wr F 181 #[.int .i64 0,.int .i64 0,.int .i64 0])∧af (aD wr gS 9 (LS.map cC).toArray)∧af (Below w.heap.size w wr)∧af (RES=pj ((LS.map (·.data.toList)).drop k) (k+1) dx)) (fun v22 _=>N-(intOf v22).toNat)
 case atStart=>exact⟨0,_,0,_,_,_,bD _,rfl,Z8,Z7,Z9,VX,aac,iH⟩
 case round=>
  obtain⟨k,lv,j,uv,V,dx,hk,rfl,hrd,hpm,hfb,hrow,hbw,hres⟩:=hrel;clear Z8 Z7 Z9 VX aac iH;by_cases hlt:k<N
  ·have Fa:k<LS.length:=by have:=HN.out;omega
   have cx:=hrow.out.cell k;rw[List.getElem?_toArray,bA,ah Fa]at cx;simp only[Option.map_some]at cx;have hres2:=hres.out;rw[←List.map_drop,List.drop_eq_getElem_cons Fa,List.map_cons,pj,List.map_drop]at hres2;have hTs:=HFs.out LS[k] (List.getElem_mem Fa);generalize LS[k]'Fa=T at cx hres2 hTs;have hsplit:=KH T aM (k+1) aM wr;rw[show((k+1:Nat):Int)=(k:Int)+1 by omega]at hsplit;have hwl:=LW T.data.toList;rw[show T.data.toList.length=T.size from(Lib.size_eq T).symm]at hwl;generalize mZ T.data.toList=ws at hsplit hres2 hwl;obtain⟨Qu,ek⟩:=aI hsplit hres2;have aeT:=hwl.1;have HWl:=ae hwl.2;have i1:IntKind.i64.wrap ((k:Int)+1)=(k:Int)+1:=by rw[IntKind.wrap_i64];omega
   clear hsplit hres2 hres Fa hwl;go_upto_region 9 with(go_at_call 174;(with_reducible refine Qu.out.mono ?_);rintro r w1⟨v,rfl,o1,d1⟩;obtain⟨Av,cv,rfl⟩:=aQ o1;have O1:=ae o1;clear o1;have RD1:=ae (hrd.out.below d1 hrd.out.lt);have c0:=RD1.out.cell 0;have c1:=RD1.out.cell 1;have z0:=RD1.out.frozen 0;have z1:=RD1.out.frozen 1;simp at c0 c1)
   obtain⟨w2,hw2⟩:∃x,x=(w1.setCell ⟨b,0,none⟩ (.slice Av ws.length cv)).setCell ⟨b,1,none⟩ (.int .i64 0):=⟨_,rfl⟩;rw[←hw2];have K2:Keeps (fun x=>x=b) w1 w2:=by rw[hw2];exact((Keeps.refl (fun x=>x=b) w1).setCell (p:=⟨b,0,none⟩) (Or.inl rfl) _).setCell (p:=⟨b,1,none⟩) (Or.inl rfl) _
   have O2:Off (fun x=>x=b) w1 [235]:=fun k hk=>⟨_,_,_,by subst hk;exact RD1.out,by simp⟩
   have VY:af (RdB w2 b (.slice Av ws.length cv) 0 P uv):=ae (by rw[hw2];exact aD.aN (aD.aN RD1.out 0 _) 1 _);have Qv:=ae ((hpm.out.below d1).reader K2 O2);have tP:=ae ((hfb.out.below d1 hfb.out.lt).off K2 O2 aF);have EF:=ae ((hrow.out.below d1 hrow.out.lt).off K2 O2 aF);have Qw:af (Below w.heap.size w w2):=ae (bK (after hbw.out d1) K2 (fun k hk=>by subst hk;exact hbb));have OV2:=ae (aX O1.out K2 O2 aF);clear hw2 K2 O2 RD1 O1 hrd hpm hfb hrow hbw d1 c0 c1 z0 z1 cx i1 Qu;have c0:=VY.out.cell 0;simp at c0;by_cases hws:ws.length=0
   ·obtain rfl:=List.eq_nil_of_length_eq_zero hws;have hR:RES=pj ((LS.map (·.data.toList)).drop (k+1)) (k+1+1) dx:=ek.out;have HR:=ae hR;clear hR ek hws;go_wp2_with fail
    go_roundw
    case rel=>exact⟨k+1,_,0,uv,V,dx,by omega,by go_num,VY,Qv,tP,EF,Qw,HR⟩
    case measure=>simp[intOf];omega
   have aeU:((ws.length:Int)==0)=false:=by simp;exact fun e=>hws (by rw[e];rfl)
   have hne:ws≠[]:=fun e=>hws (by rw[e];rfl)
   obtain⟨x,hx⟩:∃x,ws[0]? =some x:=⟨_,ah aM⟩;have pA:af (Rs w2 b P 0 (k+1) (.slice Av ws.length cv) uv ws):=ae ⟨VY.out,⟨_,OV2.out⟩,hne,by omega,fun s hs=>by have:=HWl.out s hs;omega⟩;have Gn:af (∀u,Below w2.heap.size w2 u→Calls ag 176 #[.pointer (some ⟨b,0,none⟩)] u fun r w'=>(Keeps (fun x=>x=b) u w'∧Rs w' b P 1 (k+1) (.slice Av ws.length cv) uv ws)∧r=.returned (.string x)):=ae fun u hu=>((pA.out.below hu).take (bD _)).mono fun r w'⟨h1,h2⟩=>⟨h1,by unfold gZ at h2;rw[hx]at h2;exact h2⟩
   have hbl:b<w2.heap.size:=VY.out.lt;have adW:1≤ws.length:=by omega
   clear hws hne;go_upto_region 10 with fail
   by_cases x1:x=eG
   case pos=>
    subst x1;go_upto_region 11 with(first
     |(go_at_call 175;(with_reducible refine(nu _ b).mono ?_);rintro r w3⟨⟨m,c,rfl,Be,Ja,VZ,hc3⟩,d3⟩;obtain⟨oD,Jb⟩:=aI Be Ja;clear Be Ja)
     |(go_at_call 176;(with_reducible refine(Gn.out _ d3).mono ?_);rintro r w5⟨⟨d5,e5⟩,rfl⟩;have pB:=ae e5;clear e5;have rD:=ae (oD.out.keep d5 aM);have hlk:=(qo rD.out).1))
    have O3:Off (fun x=>x=b) w3 [235]:=fun k hk=>⟨_,_,_,by subst hk;exact(pA.out.below d3).blk,by simp⟩
    have Jc:=ae ((Qv.out.below d3).reader d5 O3);have tr:=ae ((tP.out.below d3 tP.out.lt).off d5 O3 aF);have EG:=ae ((EF.out.below d3 EF.out.lt).off d5 O3 aF);have EI:=ae (Jb.out.off d5 O3 aF);have LY:af (Below w.heap.size w w5):=ae (bK (after Qw.out d3) d5 (fun k hk=>by subst hk;exact hbb));clear O3 d3 d5 oD rD Jb VZ hc3 hlk Gn pA VY Qv tP EF Qw OV2 c0;have hun:=pB.out.unless (aw 1) aM true 190;have jf:af (Calls ag 177 #[.pointer (some ⟨b,0,none⟩),.bool true,.int .i64 190] w5 fun r w'=>r=.returned (.tuple #[])∧Below w5.heap.size w5 w'):=ae hun;clear hun;go_upto_region 12 with(go_at_call 177;(with_reducible refine jf.out.mono ?_);rintro r w6⟨rfl,d6⟩)
    obtain⟨CJ,PM6,Qx,RW6,HC6⟩:=dR (pB.out.below d6) (Jc.out.below d6) (tr.out.below d6 tr.out.lt) (EG.out.below d6 EG.out.lt) (EI.out.below d6 EI.out.lt);have uY:=aU LY d6;clear pB Jc tr EG EI LY d6 jf;have hcall:=LQ uY.out hbb zv CJ.out PM6.out hx HC6.out;cases ho:eB dx (k+1) ws with
    |error e=>
     rw[ho]at hcall;have bo:af (Calls ag 221 #[.pointer (some ⟨c,0,none⟩)] w6 fun r w'=>bT w.heap.size w6 w'∧r=aL e.1 (k+1) e.2∧lW (α:=oO) w' P (.error e)):=ae hcall;have hR:=ek.out;rw[ho]at hR;simp only at hR;have HR:=ae hR;clear hcall hR ek ho;go_wp2_with(go_at_call 221;(with_reducible refine bo.out.mono ?_);rintro r w7⟨d7,rfl,p7⟩;unfold aL)
     obtain⟨p0,p1,p2,p3,rE⟩:=p7 e rfl;have hF7:=Qx.out.off d7 bT.off aF;have iV:=uY.out.trans (d7.below uY.out.size);exact jO rfl rfl rE hF7 VW.out (fun w8 hk8=>dz.bad (by rw[Hp.out,HR.out];rfl) (bK iV hk8 (fun q hq=>hq.elim (fun e=>by subst e;exact zv) fun e=>by subst e;exact Z4)))
    |ok rB=>
     rw[ho]at hcall;have bo:af (Calls ag 221 #[.pointer (some ⟨c,0,none⟩)] w6 fun r w'=>bT w.heap.size w6 w'∧r=.returned (.tuple #[])∧∃k' uv' V',Rs w' b P k' (k+1) (.slice Av ws.length cv) uv' ws∧Pm w.heap.size w' P uv' V' rB):=ae (hcall.mono fun r w'⟨h1,⟨h2,h3⟩,_⟩=>⟨h1,h2,h3⟩);have hR:=ek.out;rw[ho]at hR;simp only at hR;have HR:=ae hR;clear hcall hR ek ho;go_wp2_with(go_at_call 221;(with_reducible refine bo.out.mono ?_);rintro r w7⟨d7,rfl,k',uv',V',R7,M7⟩;obtain⟨nX,PM7⟩:=aI R7 M7;clear R7 M7)
     have Qy:=ae (Qx.out.off d7 bT.off aF);have RW7:=ae (RW6.out.off d7 bT.off aF);have UG:=ae (uY.out.trans (d7.below uY.out.size));go_roundw
     case rel=>exact⟨k+1,_,k',uv',V',rB,by omega,by go_num,ae nX.out.blk,PM7,Qy,RW7,UG,HR⟩
     case measure=>simp[intOf];omega
   by_cases x2:x=ju
   case pos=>
    subst x2;go_upto_region 11 with(first
     |(go_at_call 175;(with_reducible refine(nu _ b).mono ?_);rintro r w3⟨⟨m,c,rfl,Be,Ja,VZ,hc3⟩,d3⟩;obtain⟨oD,Jb⟩:=aI Be Ja;clear Be Ja)
     |(go_at_call 176;(with_reducible refine(Gn.out _ d3).mono ?_);rintro r w5⟨⟨d5,e5⟩,rfl⟩;have pB:=ae e5;clear e5;have rD:=ae (oD.out.keep d5 aM);have hlk:=(qo rD.out).2.1))
    have O3:Off (fun x=>x=b) w3 [235]:=fun k hk=>⟨_,_,_,by subst hk;exact(pA.out.below d3).blk,by simp⟩
    have Jc:=ae ((Qv.out.below d3).reader d5 O3);have tr:=ae ((tP.out.below d3 tP.out.lt).off d5 O3 aF);have EG:=ae ((EF.out.below d3 EF.out.lt).off d5 O3 aF);have EI:=ae (Jb.out.off d5 O3 aF);have LY:af (Below w.heap.size w w5):=ae (bK (after Qw.out d3) d5 (fun k hk=>by subst hk;exact hbb));clear O3 d3 d5 oD rD Jb VZ hc3 hlk Gn pA VY Qv tP EF Qw OV2 c0;have hun:=pB.out.unless (aw 1) aM true 190;have jf:af (Calls ag 177 #[.pointer (some ⟨b,0,none⟩),.bool true,.int .i64 190] w5 fun r w'=>r=.returned (.tuple #[])∧Below w5.heap.size w5 w'):=ae hun;clear hun;go_upto_region 12 with(go_at_call 177;(with_reducible refine jf.out.mono ?_);rintro r w6⟨rfl,d6⟩)
    obtain⟨CJ,PM6,Qx,RW6,HC6⟩:=dR (pB.out.below d6) (Jc.out.below d6) (tr.out.below d6 tr.out.lt) (EG.out.below d6 EG.out.lt) (EI.out.below d6 EI.out.lt);have uY:=aU LY d6;clear pB Jc tr EG EI LY d6 jf;have hcall:=LV uY.out hbb zv CJ.out PM6.out hx HC6.out;cases ho:eB dx (k+1) ws with
    |error e=>
     rw[ho]at hcall;have bo:af (Calls ag 223 #[.pointer (some ⟨c,0,none⟩)] w6 fun r w'=>bT w.heap.size w6 w'∧r=aL e.1 (k+1) e.2∧lW (α:=oO) w' P (.error e)):=ae hcall;have hR:=ek.out;rw[ho]at hR;simp only at hR;have HR:=ae hR;clear hcall hR ek ho;go_wp2_with(go_at_call 223;(with_reducible refine bo.out.mono ?_);rintro r w7⟨d7,rfl,p7⟩;unfold aL)
     obtain⟨p0,p1,p2,p3,rE⟩:=p7 e rfl;have hF7:=Qx.out.off d7 bT.off aF;have iV:=uY.out.trans (d7.below uY.out.size);exact jO rfl rfl rE hF7 VW.out (fun w8 hk8=>dz.bad (by rw[Hp.out,HR.out];rfl) (bK iV hk8 (fun q hq=>hq.elim (fun e=>by subst e;exact zv) fun e=>by subst e;exact Z4)))
    |ok rB=>
     rw[ho]at hcall;have bo:af (Calls ag 223 #[.pointer (some ⟨c,0,none⟩)] w6 fun r w'=>bT w.heap.size w6 w'∧r=.returned (.tuple #[])∧∃k' uv' V',Rs w' b P k' (k+1) (.slice Av ws.length cv) uv' ws∧Pm w.heap.size w' P uv' V' rB):=ae (hcall.mono fun r w'⟨h1,⟨h2,h3⟩,_⟩=>⟨h1,h2,h3⟩);have hR:=ek.out;rw[ho]at hR;simp only at hR;have HR:=ae hR;clear hcall hR ek ho;go_wp2_with(go_at_call 223;(with_reducible refine bo.out.mono ?_);rintro r w7⟨d7,rfl,k',uv',V',R7,M7⟩;obtain⟨nX,PM7⟩:=aI R7 M7;clear R7 M7)
     have Qy:=ae (Qx.out.off d7 bT.off aF);have RW7:=ae (RW6.out.off d7 bT.off aF);have UG:=ae (uY.out.trans (d7.below uY.out.size));go_roundw
     case rel=>exact⟨k+1,_,k',uv',V',rB,by omega,by go_num,ae nX.out.blk,PM7,Qy,RW7,UG,HR⟩
     case measure=>simp[intOf];omega
   by_cases x3:x=gx
   case pos=>
    subst x3;go_upto_region 11 with(first
     |(go_at_call 175;(with_reducible refine(nu _ b).mono ?_);rintro r w3⟨⟨m,c,rfl,Be,Ja,VZ,hc3⟩,d3⟩;obtain⟨oD,Jb⟩:=aI Be Ja;clear Be Ja)
     |(go_at_call 176;(with_reducible refine(Gn.out _ d3).mono ?_);rintro r w5⟨⟨d5,e5⟩,rfl⟩;have pB:=ae e5;clear e5;have rD:=ae (oD.out.keep d5 aM);have hlk:=(qo rD.out).2.2.1))
    have O3:Off (fun x=>x=b) w3 [235]:=fun k hk=>⟨_,_,_,by subst hk;exact(pA.out.below d3).blk,by simp⟩
    have Jc:=ae ((Qv.out.below d3).reader d5 O3);have tr:=ae ((tP.out.below d3 tP.out.lt).off d5 O3 aF);have EG:=ae ((EF.out.below d3 EF.out.lt).off d5 O3 aF);have EI:=ae (Jb.out.off d5 O3 aF);have LY:af (Below w.heap.size w w5):=ae (bK (after Qw.out d3) d5 (fun k hk=>by subst hk;exact hbb));clear O3 d3 d5 oD rD Jb VZ hc3 hlk Gn pA VY Qv tP EF Qw OV2 c0;have hun:=pB.out.unless (aw 1) aM true 190;have jf:af (Calls ag 177 #[.pointer (some ⟨b,0,none⟩),.bool true,.int .i64 190] w5 fun r w'=>r=.returned (.tuple #[])∧Below w5.heap.size w5 w'):=ae hun;clear hun;go_upto_region 12 with(go_at_call 177;(with_reducible refine jf.out.mono ?_);rintro r w6⟨rfl,d6⟩)
    obtain⟨CJ,PM6,Qx,RW6,HC6⟩:=dR (pB.out.below d6) (Jc.out.below d6) (tr.out.below d6 tr.out.lt) (EG.out.below d6 EG.out.lt) (EI.out.below d6 EI.out.lt);have uY:=aU LY d6;clear pB Jc tr EG EI LY d6 jf;have hcall:=Gk tm.out uY.out hbb zv CJ.out PM6.out hx;cases ho:eB dx (k+1) ws with
    |error e=>
     rw[ho]at hcall;have bo:af (Calls ag 224 #[.pointer (some ⟨b,0,none⟩)] w6 fun r w'=>bT w.heap.size w6 w'∧r=aL e.1 (k+1) e.2∧lW (α:=oO) w' P (.error e)):=ae hcall;have hR:=ek.out;rw[ho]at hR;simp only at hR;have HR:=ae hR;clear hcall hR ek ho;go_wp2_with(go_at_call 224;(with_reducible refine bo.out.mono ?_);rintro r w7⟨d7,rfl,p7⟩;unfold aL)
     obtain⟨p0,p1,p2,p3,rE⟩:=p7 e rfl;have hF7:=Qx.out.off d7 bT.off aF;have iV:=uY.out.trans (d7.below uY.out.size);exact jO rfl rfl rE hF7 VW.out (fun w8 hk8=>dz.bad (by rw[Hp.out,HR.out];rfl) (bK iV hk8 (fun q hq=>hq.elim (fun e=>by subst e;exact zv) fun e=>by subst e;exact Z4)))
    |ok rB=>
     rw[ho]at hcall;have bo:af (Calls ag 224 #[.pointer (some ⟨b,0,none⟩)] w6 fun r w'=>bT w.heap.size w6 w'∧r=.returned (.tuple #[])∧∃k' uv' V',Rs w' b P k' (k+1) (.slice Av ws.length cv) uv' ws∧Pm w.heap.size w' P uv' V' rB):=ae (hcall.mono fun r w'⟨h1,⟨h2,h3⟩,_⟩=>⟨h1,h2,h3⟩);have hR:=ek.out;rw[ho]at hR;simp only at hR;have HR:=ae hR;clear hcall hR ek ho;go_wp2_with(go_at_call 224;(with_reducible refine bo.out.mono ?_);rintro r w7⟨d7,rfl,k',uv',V',R7,M7⟩;obtain⟨nX,PM7⟩:=aI R7 M7;clear R7 M7)
     have Qy:=ae (Qx.out.off d7 bT.off aF);have RW7:=ae (RW6.out.off d7 bT.off aF);have UG:=ae (uY.out.trans (d7.below uY.out.size));go_roundw
     case rel=>exact⟨k+1,_,k',uv',V',rB,by omega,by go_num,ae nX.out.blk,PM7,Qy,RW7,UG,HR⟩
     case measure=>simp[intOf];omega
   by_cases x4:x=gX
   case pos=>
    subst x4;go_upto_region 11 with(first
     |(go_at_call 175;(with_reducible refine(nu _ b).mono ?_);rintro r w3⟨⟨m,c,rfl,Be,Ja,VZ,hc3⟩,d3⟩;obtain⟨oD,Jb⟩:=aI Be Ja;clear Be Ja)
     |(go_at_call 176;(with_reducible refine(Gn.out _ d3).mono ?_);rintro r w5⟨⟨d5,e5⟩,rfl⟩;have pB:=ae e5;clear e5;have rD:=ae (oD.out.keep d5 aM);have hlk:=(qo rD.out).2.2.2))
    have O3:Off (fun x=>x=b) w3 [235]:=fun k hk=>⟨_,_,_,by subst hk;exact(pA.out.below d3).blk,by simp⟩
    have Jc:=ae ((Qv.out.below d3).reader d5 O3);have tr:=ae ((tP.out.below d3 tP.out.lt).off d5 O3 aF);have EG:=ae ((EF.out.below d3 EF.out.lt).off d5 O3 aF);have EI:=ae (Jb.out.off d5 O3 aF);have LY:af (Below w.heap.size w w5):=ae (bK (after Qw.out d3) d5 (fun k hk=>by subst hk;exact hbb));clear O3 d3 d5 oD rD Jb VZ hc3 hlk Gn pA VY Qv tP EF Qw OV2 c0;have hun:=pB.out.unless (aw 1) aM true 190;have jf:af (Calls ag 177 #[.pointer (some ⟨b,0,none⟩),.bool true,.int .i64 190] w5 fun r w'=>r=.returned (.tuple #[])∧Below w5.heap.size w5 w'):=ae hun;clear hun;go_upto_region 12 with(go_at_call 177;(with_reducible refine jf.out.mono ?_);rintro r w6⟨rfl,d6⟩)
    obtain⟨CJ,PM6,Qx,RW6,HC6⟩:=dR (pB.out.below d6) (Jc.out.below d6) (tr.out.below d6 tr.out.lt) (EG.out.below d6 EG.out.lt) (EI.out.below d6 EI.out.lt);have uY:=aU LY d6;clear pB Jc tr EG EI LY d6 jf;have hcall:=zw tm.out uY.out hbb zv CJ.out PM6.out hx;cases ho:eB dx (k+1) ws with
    |error e=>
     rw[ho]at hcall;have bo:af (Calls ag 225 #[.pointer (some ⟨b,0,none⟩)] w6 fun r w'=>bT w.heap.size w6 w'∧r=aL e.1 (k+1) e.2∧lW (α:=oO) w' P (.error e)):=ae hcall;have hR:=ek.out;rw[ho]at hR;simp only at hR;have HR:=ae hR;clear hcall hR ek ho;go_wp2_with(go_at_call 225;(with_reducible refine bo.out.mono ?_);rintro r w7⟨d7,rfl,p7⟩;unfold aL)
     obtain⟨p0,p1,p2,p3,rE⟩:=p7 e rfl;have hF7:=Qx.out.off d7 bT.off aF;have iV:=uY.out.trans (d7.below uY.out.size);exact jO rfl rfl rE hF7 VW.out (fun w8 hk8=>dz.bad (by rw[Hp.out,HR.out];rfl) (bK iV hk8 (fun q hq=>hq.elim (fun e=>by subst e;exact zv) fun e=>by subst e;exact Z4)))
    |ok rB=>
     rw[ho]at hcall;have bo:af (Calls ag 225 #[.pointer (some ⟨b,0,none⟩)] w6 fun r w'=>bT w.heap.size w6 w'∧r=.returned (.tuple #[])∧∃k' uv' V',Rs w' b P k' (k+1) (.slice Av ws.length cv) uv' ws∧Pm w.heap.size w' P uv' V' rB):=ae (hcall.mono fun r w'⟨h1,⟨h2,h3⟩,_⟩=>⟨h1,h2,h3⟩);have hR:=ek.out;rw[ho]at hR;simp only at hR;have HR:=ae hR;clear hcall hR ek ho;go_wp2_with(go_at_call 225;(with_reducible refine bo.out.mono ?_);rintro r w7⟨d7,rfl,k',uv',V',R7,M7⟩;obtain⟨nX,PM7⟩:=aI R7 M7;clear R7 M7)
     have Qy:=ae (Qx.out.off d7 bT.off aF);have RW7:=ae (RW6.out.off d7 bT.off aF);have UG:=ae (uY.out.trans (d7.below uY.out.size));go_roundw
     case rel=>exact⟨k+1,_,k',uv',V',rB,by omega,by go_num,ae nX.out.blk,PM7,Qy,RW7,UG,HR⟩
     case measure=>simp[intOf];omega
   have hR:=ek.out;rw[LK dx (k+1) hx x1 x2 x3 x4]at hR;simp only at hR;have HR:=ae hR;clear hR ek;go_upto_region 11 with(first
    |(go_at_call 175;(with_reducible refine(nu _ b).mono ?_);rintro r w3⟨⟨m,c,rfl,Be,Ja,VZ,hc3⟩,d3⟩;obtain⟨oD,Jb⟩:=aI Be Ja;clear Be Ja)
    |(go_at_call 176;(with_reducible refine(Gn.out _ d3).mono ?_);rintro r w5⟨⟨d5,e5⟩,rfl⟩;have pB:=ae e5;clear e5;have rD:=ae (oD.out.keep d5 aM);have hlk:=Qs rD.out x1 x2 x3 x4))
   have O3:Off (fun x=>x=b) w3 [235]:=fun k hk=>⟨_,_,_,by subst hk;exact(pA.out.below d3).blk,by simp⟩
   have Jc:=ae ((Qv.out.below d3).reader d5 O3);have tr:=ae ((tP.out.below d3 tP.out.lt).off d5 O3 aF);have EG:=ae ((EF.out.below d3 EF.out.lt).off d5 O3 aF);have EI:=ae (Jb.out.off d5 O3 aF);have LY:af (Below w.heap.size w w5):=ae (bK (after Qw.out d3) d5 (fun k hk=>by subst hk;exact hbb));clear O3 d3 d5 oD rD Jb VZ hc3 hlk Gn pA VY Qv tP EF Qw OV2 c0;have hun:=pB.out.unless (aw 1) aM false 190;rw[show Es 1 ws=0 by unfold Es;rw[if_pos adW]]at hun;have jf:af (Calls ag 177 #[.pointer (some ⟨b,0,none⟩),.bool false,.int .i64 190] w5 fun r w'=>r=aL 190 (k+1) 0∧Below w5.heap.size w5 w'):=ae hun;clear hun;go_wp2_with(go_at_call 177;(with_reducible refine jf.out.mono ?_);rintro r w6⟨rfl,d6⟩;unfold aL)
   exact jO rfl rfl (Jc.out.blk.below d6 Jc.out.blk.lt) (tr.out.below d6 tr.out.lt) VW.out (fun w8 hk8=>dz.bad (by rw[Hp.out,HR.out];rfl) (bK (after LY.out d6) hk8 (fun q hq=>hq.elim (fun e=>by subst e;exact zv) fun e=>by subst e;exact Z4)))
  ·obtain rfl:k=N:=by omega
   have hR:RES=.ok dx:=by rw[hres.out,mC (by rw[ax];have:=HN.out;omega)];rfl
   obtain⟨xs,hxs,I5⟩:=hpm.out.u;obtain⟨Au,cu,rfl⟩:=aQ I5;obtain⟨U,hU⟩:∃n,n=dx.used.length:=⟨_,rfl⟩;obtain⟨-,-,-,c3⟩:=dy hrd;rw[←hU]at I5 c3;obtain⟨A9,aeV,hA9,acd,Qz⟩:=aW.dn I5;injection hA9 with hA9 _ hC9
   subst hA9 hC9;have hUl:U≤2000000:=by have:=hpm.out.ul;have:=hpm.out.al;omega
   obtain⟨gv,tv,hv,av⟩:=V;obtain⟨Ag,cg,eg⟩:=hpm.out.g.shape;obtain⟨At,ct,et⟩:=hpm.out.t.shape;obtain⟨Ah,ch,eh⟩:=aQ hpm.out.h;obtain⟨Aa,ca,ea⟩:=hpm.out.a.shape;simp only at eg et eh ea;obtain⟨HEg,HEt,HEh,HEa⟩:=cH eg et eh ea;clear eg et eh ea;obtain⟨FD,hFD⟩:∃f,f=dx.used.find? fun u=> !fW dx.p u.1:=⟨_,rfl⟩
   have hend:endP (.ok dx)=Qq dx FD:=by rw[VU,hFD]
   have hp2:=Hp.out;rw[hR,hend]at hp2;have ace:FD=(dx.used.drop 0).find? fun u=> !fW dx.p u.1:=hFD
   obtain⟨HP2,HFD,F5,HU,HC9⟩:=dR hp2 ace hxs hU Qz;have PM0:=hpm;have FB0:=hfb;have BW0:=hbw;have hPl:=PM0.out.blk.lt;have KI:=FB0.out.lt;obtain⟨wo,rfl⟩:∃wo:World,wo=wr:=⟨_,rfl⟩;clear hp2 hend hFD ace hR hxs hU I5 Qz acd hres hrow hpm hfb hbw;go_wp2_with fail
   go_loopw [62] (fun v62 wr2=>∃k2:Nat,k2≤U∧v62=.int .i64 k2∧af (Below wo.heap.size wo wr2)∧af (FD=(dx.used.drop k2).find? fun u=> !fW dx.p u.1)) (fun v62 _=>U-(intOf v62).toNat)
   case atStart=>exact⟨0,bD _,rfl,ae (aG _ _),HFD⟩
   case round=>
    obtain⟨k2,hk2,rfl,hb2,hfd⟩:=hrel;clear HFD;obtain⟨Jd,FBr,RRr,BWr⟩:=cH (PM0.out.blk.below hb2.out hPl) (FB0.out.below hb2.out KI) (PM0.out.rows.below hb2.out) (BW0.out.trans (hb2.out.mono BW0.out.size));by_cases hlt2:k2<U
    ·obtain⟨X,hX⟩:∃X,xs[k2]? =some X:=⟨_,ah (by have:=congrArg List.length F5.out;rw[ax]at this;have:=HU.out;omega)⟩;have hXu:dx.used[k2]? =some X.1:=by rw[←F5.out,bA,hX];rfl
     obtain⟨g9,o9,rfl,zx⟩:=HC9.out aM;obtain⟨e0,e1,e2,e3,e4,e5,e6,e7,e8⟩:=Gl xs k2 X hX;have d0:=(hb2.out.cell (aj wo _ (zx _ _ e0))).trans (zx _ _ e0);have d1:=(hb2.out.cell (aj wo _ (zx _ _ e1))).trans (zx _ _ e1);have d2:=(hb2.out.cell (aj wo _ (zx _ _ e2))).trans (zx _ _ e2);have d3:=(hb2.out.cell (aj wo _ (zx _ _ e3))).trans (zx _ _ e3);have d4:=(hb2.out.cell (aj wo _ (zx _ _ e4))).trans (zx _ _ e4);have d5:=(hb2.out.cell (aj wo _ (zx _ _ e5))).trans (zx _ _ e5);have d6:=(hb2.out.cell (aj wo _ (zx _ _ e6))).trans (zx _ _ e6);have d7:=(hb2.out.cell (aj wo _ (zx _ _ e7))).trans (zx _ _ e7);have d8:=(hb2.out.cell (aj wo _ (zx _ _ e8))).trans (zx _ _ e8);rw[←Nat.add_assoc]at d1 d2 d3 d4 d5 d6 d7 d8;obtain⟨⟨⟨sk,sn,⟨⟨s3,s4,s5⟩,s6⟩⟩,un,ui⟩,wd⟩:=X;simp only at d0 d1 d2 d3 d4 d5 d6 d7 d8 hXu;have aad:=hfd.out;rw[Qr hXu]at aad;have V0:=ae aad;clear aad hfd hX hXu e0 e1 e2 e3 e4 e5 e6 e7 e8 zx;go_upto_region 17 with fail
     have M7:=ae (aD.new wr 249 #[.int .u8 sk,.string sn,.bool s3,.int .u64 s4,.int .u64 s5,.int .u8 s6,.string wd,.int .i64 un,.int .i64 ui]);have q7:=boxed wr (.cells #[.int .u8 sk,.string sn,.bool s3,.int .u64 s4,.int .u64 s5,.int .u8 s6,.string wd,.int .i64 un,.int .i64 ui] 249);have adX:wo.heap.size≤wr.heap.size:=hb2.out.size;generalize wr.alloc (.cells #[.int .u8 sk,.string sn,.bool s3,.int .u64 s4,.int .u64 s5,.int .u8 s6,.string wd,.int .i64 un,.int .i64 ui] 249)=w7 at M7 q7⊢;obtain⟨PB7,Qy,RR7⟩:=bj (Jd.out.below q7 Jd.out.lt) (FBr.out.below q7 FBr.out.lt) (RRr.out.below q7);have UG:=aU BWr q7;have BO7:=aU hb2 q7;clear q7 Jd FBr RRr BWr hb2 d0 d1 d2 d3 d4 d5 d6 d7 d8;generalize wr.heap.size=M at M7 adX⊢;have hkn:=LH (V:=⟨gv,tv,hv,av⟩) RR7.out.rd (by have:=PM0.out.gl;omega) (by have:=PM0.out.tl;omega) (by have:=PM0.out.hl;omega) ⟨sk,sn,⟨⟨s3,s4,s5⟩,s6⟩⟩;have x0:=PB7.out.cell 0;have x1:=PB7.out.cell 1;have x2:=PB7.out.cell 2;have x3:=PB7.out.cell 3;have m0:=M7.out.cell 0;have m1:=M7.out.cell 1;have m2:=M7.out.cell 2;have m3:=M7.out.cell 3;have m4:=M7.out.cell 4;have m5:=M7.out.cell 5;simp at x0 x1 x2 x3 m0 m1 m2 m3 m4 m5;simp only at hkn;by_cases hkk:fW dx.p ⟨sk,sn,⟨⟨s3,s4,s5⟩,s6⟩⟩=true
     ·rw[hkk]at hkn;have HKn:=ae hkn;have hR:=V0.out;rw[if_pos hkk]at hR;have HR:=ae hR;clear hkn hR V0 hkk;go_wp2_with(go_at_call 178;(with_reducible refine HKn.out.mono ?_);rintro r w8⟨rfl,d8⟩)
      go_roundw
      case rel=>exact⟨k2+1,by omega,by go_num,(aU BO7 d8),HR⟩
      case measure=>simp[intOf];omega
     have hkf:fW dx.p ⟨sk,sn,⟨⟨s3,s4,s5⟩,s6⟩⟩=false:=by simpa using hkk
     rw[hkf]at hkn;have HKn:=ae hkn;have hR:=V0.out;rw[if_neg hkk]at hR;have hp3:=HP2.out;rw[hR]at hp3;have fX:af (gy s.data.toList=(Po.zero,(196,un,ui))):=ae hp3;clear hkn hR V0 hkk hkf hp3;go_upto_region 18 with(go_at_call 178;(with_reducible refine HKn.out.mono ?_);rintro r w8⟨rfl,d8⟩)
     have QA:=PB7.out.below d8 PB7.out.lt;have FB8:=Qy.out.below d8 Qy.out.lt;have M8:=M7.out.below d8 M7.out.lt;have BW8:=after UG.out d8;clear x0 x1 x2 x3 m0 m1 m2 m3 m4 m5 M7 PB7 Qy RR7 UG BO7 d8 HKn;have n7:=M8.cell 7;have n8:=M8.cell 8;have x0:=QA.cell 0;have x1:=QA.cell 1;have x2:=QA.cell 2;have x3:=QA.cell 3;have z0:=QA.frozen 0;have z1:=QA.frozen 1;have z2:=QA.frozen 2;have z3:=QA.frozen 3;have hMP:M≠P:=M8.wH QA aF;have hMF:M≠F:=M8.wH FB8 aF;obtain⟨PB4,KP⟩:=ZZ (.slice none 0 0) (.slice none 0 0) (.slice none 0 0) (.slice none 0 0) QA;obtain⟨W4,Qp⟩:∃W,W=(((w8.setCell ⟨P,0,none⟩ (.slice none 0 0)).setCell ⟨P,1,none⟩ (.slice none 0 0)).setCell ⟨P,2,none⟩ (.slice none 0 0)).setCell ⟨P,3,none⟩ (.slice none 0 0):=⟨_,rfl⟩;rw[←Qp]at PB4 KP;have Z3:=ae Qp;have Bg:=FB8.keep KP (fun e=>VW.out e.symm);have M4:=M8.keep KP hMP;have m7:=M4.cell 7;have m8:=M4.cell 8;have y0:=Bg.cell 0;have y1:=Bg.cell 1;have y2:=Bg.cell 2;have u0:=Bg.frozen 0;have u1:=Bg.frozen 1;have u2:=Bg.frozen 2;obtain⟨tr,KF⟩:=Z1 (.int .i64 196) (.int .i64 un) (.int .i64 ui) Bg;obtain⟨W5,hW5⟩:∃W,W=((W4.setCell ⟨F,0,none⟩ (.int .i64 196)).setCell ⟨F,1,none⟩ (.int .i64 un)).setCell ⟨F,2,none⟩ (.int .i64 ui):=⟨_,rfl⟩;rw[←hW5]at tr KF;obtain⟨CX,HF5,EA⟩:=bj hW5 tr (PB4.keep KF VW.out);have M5:=M4.keep KF hMF;have o7:=M5.cell 7;have o8:=M5.cell 8;have mO:=ae (bK (bK BW8 KP (fun q hq=>by subst hq;exact zv)) KF (fun q hq=>by subst hq;exact Z4));simp at n7 n8 x0 x1 x2 x3 m7 m8 y0 y1 y2 o7 o8;clear Qp hW5 tr PB4 KF KP M4 M5 Bg QA FB8 M8 BW8;refine wp_region_held_drew (S:=(fun w'=>w'.cell? ⟨M,7,none⟩=some (.int .i64 un)∧w'.cell? ⟨M,8,none⟩=some (.int .i64 ui))) bg (⟨n7,n8⟩) (fun hHeld=>?_);refine nP 0 ?_ (hQ:=by exact fun _ _ _ h=>fH aF aF h);try simp only[cq]
     refine nP 1 ?_ (hQ:=by exact fun _ _ _ h=>fH aF aF h);try simp only[cq]
     refine nP 2 ?_ (hQ:=by exact fun _ _ _ h=>fH aF aF h);try simp only[cq]
     refine nP 3 ?_ (hQ:=by exact fun _ _ _ h=>fH aF aF h);try simp only[cq]
     refine nP 4 ?_ (hQ:=by exact fun _ _ _ h=>fH aF aF h);try simp only[cq]
     refine nP 5 ?_ (hQ:=by exact fun _ _ _ h=>fH aF aF h);try simp only[cq]
     refine nP 6 ?_ (hQ:=by exact fun _ _ _ h=>fH aF aF h);try simp only[cq]
     refine nP 7 ?_ (hQ:=by exact fun _ _ _ h=>fH aF aF h);try simp only[cq]
     refine jk 8 fun K hK=>?_;go_simp;rw[←Z3.out];refine hK.out _ _ (⟨m7,m8⟩) (fun hHeld=>?_);clear hK K;try simp only[cq]
     refine jk 9 fun K hK=>?_;go_simp;rw[←CX.out];refine hK.out _ _ (⟨o7,o8⟩) (fun hHeld=>?_);clear hK K;try simp only[cq]
     refine qR ?_;go_wp2_with fail
     exact sJ rfl rfl (I8 EA.out) (I9 HF5.out) (dz.bad fX.out ⟨mO.out.os,mO.out.tape,mO.out.output,mO.out.size,mO.out.block⟩)
    ·obtain rfl:k2=U:=by omega
     have hF:FD=none:=by rw[hfd.out,mC (by have:=HU.out;omega)];rfl
     have hp3:=HP2.out;rw[hF]at hp3;have fX:=ae hp3;have eg:=HEg.out;have et:=HEt.out;have eh:=HEh.out;have ea:=HEa.out;generalize dx.p.groups.length=lg at eg;generalize dx.p.tags.length=lt at et;generalize dx.p.hosts.length=lh at eh;generalize dx.p.j7.length=la at ea;clear HEg HEt HEh HEa;subst eg et eh ea;have x0:=Jd.out.cell 0;have x1:=Jd.out.cell 1;have x2:=Jd.out.cell 2;have x3:=Jd.out.cell 3;have z0:=Jd.out.frozen 0;have z1:=Jd.out.frozen 1;have z2:=Jd.out.frozen 2;have z3:=Jd.out.frozen 3;obtain⟨PB4,KP⟩:=ZZ (.slice Ag lg cg) (.slice At lt ct) (.slice Ah lh ch) (.slice Aa la ca) Jd.out;obtain⟨W4,Qp⟩:∃W,W=(((wr.setCell ⟨P,0,none⟩ (.slice Ag lg cg)).setCell ⟨P,1,none⟩ (.slice At lt ct)).setCell ⟨P,2,none⟩ (.slice Ah lh ch)).setCell ⟨P,3,none⟩ (.slice Aa la ca):=⟨_,rfl⟩;rw[←Qp]at PB4 KP;have Bg:=FBr.out.keep KP (fun e=>VW.out e.symm);have y0:=Bg.cell 0;have y1:=Bg.cell 1;have y2:=Bg.cell 2;have u0:=Bg.frozen 0;have u1:=Bg.frozen 1;have u2:=Bg.frozen 2;have OP:Off (fun x=>x=P) wr [179]:=fun q hq=>⟨_,_,_,by subst hq;exact Jd.out,by simp⟩
     have OF:Off (fun x=>x=F) W4 [181]:=fun q hq=>⟨_,_,_,by subst hq;exact Bg,by simp⟩
     obtain⟨tr,KF⟩:=Z1 (.int .i64 0) (.int .i64 0) (.int .i64 0) Bg;obtain⟨HF5,EA⟩:=aI tr (PB4.keep KF VW.out);have HR5:=ae ((RRr.out.off KP OP aF aF aF aF aF aF aF).off KF OF aF aF aF aF aF aF aF).rd;have mO:=ae (bK (bK BWr.out KP (fun q hq=>by subst hq;exact zv)) KF (fun q hq=>by subst hq;exact Z4));simp at x0 x1 x2 x3 y0 y1 y2;rw[Qp]at HF5 EA HR5 mO y0 y1 y2 u0 u1 u2;clear Qp tr PB4 KF KP Bg OP OF Jd FBr RRr BWr hb2 hfd hp3 hF c3;go_wp2_with fail
     exact sJ rfl rfl (I8 EA.out) (I9 HF5.out) (dz.good (V:=⟨(.slice Ag lg cg),(.slice At lt ct),(.slice Ah lh ch),(.slice Aa la ca)⟩) fX.out HR5 mO.out)
theorem parse_any{w:World}(env:Env w)(s:ByteArray)(hs:s.size≤2000000):Calls ag 132 #[.string s] w (dz s.data.toList w):=by
 by_cases hl:8192<s.size
 ·exact Gm s hs hl
 ·exact CW env s hl
theorem lY{s:ByteArray}(h:b8 s=true):s.size≤33:=by
 have e:s.size=s.data.toList.length:=by rw[Array.length_toList];rfl
 unfold b8 at h;generalize s.data.toList=l at h e;cases l with
 |nil=>rw[e];decide
 |cons c r=>
  unfold mY at h;simp only[aV,decide_eq_true_eq]at h;simp only[List.length_cons]at e;omega
theorem QB(k:List UInt8):fE k≤6:=by
 unfold fE
 repeat' split
 all_goals decide
theorem Je{w:ByteArray}{s:jm}(h:kT w=some s):Gi s:=by
 have hz:Pf.zero.Ok:=⟨⟨by decide,by decide⟩,by decide⟩;cases IY h with
 |star h1 h2=>subst h2;exact⟨hz,by decide,by decide⟩
 |named k nm h0 h1 h2 h3 h4=>
  subst h4;have h5:b8 (gW nm)=true:=h3;have:=lY h5;exact⟨hz,Nat.lt_of_le_of_lt (QB k) aF,au this aF⟩
 |net k t n h0 h1 h2 h3=>subst h3;exact⟨(mX h2).2.1,(by show(6:Nat)<256;decide),(by show(0:Nat)≤1900000;decide)⟩
theorem abh.fit{p:Po}(ok:abh p)(hm:Zc p=true):ab9 p:=by
 obtain⟨m1,m2,m3,m4,m5,m6,m7⟩:=U5 hm;have hnm:∀l:List Nm,xN l=true→(∀n∈l,Qn n)∧l.length≤64:=by
  intro l hl;unfold xN at hl;simp only[aV,decide_eq_true_eq]at hl;refine⟨fun n hn=>?_,hl.1.2⟩;have:=List.all_eq_true.1 hl.1.1 n hn;simp only[aV,decide_eq_true_eq]at this;exact⟨au (lY this.1.1.1) aF,by omega,fun s hs=>au (lY (List.all_eq_true.1 this.2 s hs)) aF⟩
 obtain⟨g1,g2⟩:=hnm _ m1;obtain⟨t1,t2⟩:=hnm _ m2;refine⟨g1,t1,fun x hx=>⟨au (lY (m5 x hx).1) aF,ok.hosts x hx⟩,fun a ha=>?_,by omega,by omega,by omega,by omega⟩;have h:=m6 a ha;unfold OL at h;simp only[aV,decide_eq_true_eq]at h;obtain⟨⟨⟨⟨⟨h1,h2⟩,h3⟩,h4⟩,h5⟩,h6⟩:=h;obtain⟨s1,s2,s3⟩:=uA h5;obtain⟨d1,d2,d3⟩:=uA h6;refine⟨fun s hs=>Je (s1 s hs).1,fun s hs=>Je (d1 s hs).1,au (zu _ h2 h3) aF,by omega,by omega,by omega,fun x hx=>?_,ok.iz a ha⟩;have:=List.all_eq_true.1 h2 x hx;simp only[Bool.or_eq_true,decide_eq_true_eq]at this;omega
open Go.ChangeShapes Go.WideShapes Go.ChangeAt
theorem QC{P:Program}{W:World}{name:String}{k:IntKind}{zs:List Int}{g:Nat}{t e:TypeId}{n:Nat}(hg:P.globalNamed name=some g)(hty:(P.globals[g]?).map (·.type)=some t)(ht:P.underlying t=some (.array n e))(he:P.underlying e=some (.int k))(hce:P.cellsOf e=1)(hct:P.cellsOf t=n)(h:Lib.VarReads P W name (Lib.tabData k zs)):Lib.TabIs P W name k zs:=by
 obtain⟨g',t',cs,fuel,p,hg',ht',hvar,hd⟩:=h;obtain rfl:=Option.some.inj (hg.symm.trans hg');obtain rfl:=Option.some.inj (hty.symm.trans ht');unfold Lib.TabIs;rw[hvar,←Lib.cells_of_tab ht he hce hct hd]
theorem CY{P:Program}{W:World}{name nm:String}{d:DataW Unit}{g:Nat}{t:TypeId}{ms:Array (String×TypeId)}(hg:P.globalNamed name=some g)(hty:(P.globals[g]?).map (·.type)=some t)(ht:P.underlying t=some (.interface ms))(h:Lib.VarReads P W name (.iface nm d)):∃(tp:TypeId)(p:Value),W.cell? ⟨g,0,none⟩=some (.iface tp p):=by
 obtain⟨g',t',cs,fuel,p,hg',ht',hvar,hd⟩:=h;obtain rfl:=Option.some.inj (hg.symm.trans hg');obtain rfl:=Option.some.inj (hty.symm.trans ht');have hc:=World.var?_cell hg hvar 0;obtain⟨l⟩:=cs;cases fuel with
 |zero=>simp[DataW.trod]at hd
 |succ fuel=>
  cases l with
  |nil=>simp[DataW.trod,ht]at hd
  |cons x r=>
   cases r with
   |cons y r=>simp[DataW.trod,ht]at hd
   |nil=>
    cases x
    case iface tp q=>exact⟨tp,q,by simpa using hc⟩
    all_goals simp[DataW.trod,ht]at hd
variable{H:Type}{enc:TypeId×Value→H}
theorem nw{a:Assume}{C:Checked}{os:Os}{f:FuncId}{fn:Func}{s:ChangeSpec}{conds:List PathCond}{apart fresh handsOn again:Bool}{X:World→Array Value→Prop}(hX:∀(w w':World)(args:Array Value),w.heap=w'.heap→X w args→X w' args)(own:ownKnob C.prog.godebug=none)(started:os.Started)(noInit:C.prog.inits.idxOf? f=none)(hfn:C.prog.funcs[f]? =some fn)(witness:∃(w:World)(tape:Tape)(i:Input),w.os=os∧(w.forCall tape i).Shaped C.prog∧i.vars=[]∧Input.okWide C.prog (w.forCall tape i) .any w.heap.size f i∧((s.pre enc C.prog fn conds apart (w.forCall tape i).memory i.args∧X (w.forCall tape i).memory i.args)∧sizedMet enc C.prog fn (OpenSpec.ofChange s) apart (w.forCall tape i).memory i.args)∧a.holds C.prog (lone (Frame.enter C.prog f i.args .normal) [] (w.forCall tape i)))(contract:∀(W:World)(base:Nat)(args:Array Value)(ds gs:List (DataW H))(before:List MemPlace),(∀(j:Nat)t v,fn.params[j]? =some t→args[j]? =some v→Value.okWide C.prog W .any base t v)→DataW.Whole enc C.prog fn.params.toList s.vars apart W args.toList ds gs before→conds.all (PathCond.test C.prog ⟨fn.params.toList,ds,s.plain.varTypes C.prog,gs⟩)=true→X W args→W.ShapedOpen C.prog→Calls C.prog f args W fun e W'=>∃v,e=.returned v∧s.post enc C.prog fn apart fresh handsOn again W args v W'):ReturnsInHanded a C os f .any (fun w args=>(s.pre enc C.prog fn conds apart w args∧X w args)∧sizedMet enc C.prog fn (OpenSpec.ofChange s) apart w args) (s.post enc C.prog fn apart fresh handsOn again):=by
 refine returnsInHanded_of_calls own started noInit witness ?_;intro w tape i _ hsh _ hok hpre _;obtain⟨_,_,_,fn',hfn',_,_,_,_,hval⟩:=hok;have e:fn'=fn:=Option.some.inj (hfn'.symm.trans hfn);subst e;obtain⟨⟨⟨ds,gs,before,hw,hc⟩,hx⟩,_⟩:=hpre;have hw':=DataW.Whole.of_heap (w':=w.forCall tape i) (by rfl) hw;refine(contract (w.forCall tape i) w.heap.size i.args ds gs before hval hw' hc (hX _ _ _ (by rfl) hx) hsh).mono fun e W'⟨v,he,hp⟩=>?_
 subst he;exact ChangeSpec.post_blind hp
def kY:List (String×DataW Unit):=Rows.netmapNoneRow.laid
theorem aae{W:World}(hL:laidMetH ag kY W)(hsh:W.ShapedOpen ag):Env W:=by
 rw[MakeChecks.laidMetH_plain _ _ _ bg]at hL;refine⟨?_,?_,?_,?_,?_⟩
 ·exact Go.Proofs.cell_of_shapedOpen_int (zero:= #[.int .i64 0]) (t:=3) hsh (of_decide_eq_true bg) bg rfl bg bg Tryz.underlying3
 ·have h:Lib.VarReads ag W "internal/strconv.uint64pow10" (Lib.tabData .u64 Lib.pow10Tab):=Lib.laidMet.reads hL (.tail _ (.tail _ (.head _)));exact QC (g:=2) (t:=392) (e:=22) (n:=20) bg bg bg bg bg bg h
 ·have h:Lib.VarReads ag W "math/bits.deBruijn64tab" (Lib.tabData .u8 [0,1,56,2,57,49,28,3,61,58,42,50,38,29,17,4,62,47,59,36,45,43,51,22,53,39,33,30,24,18,12,5,63,55,48,27,60,41,37,16,46,35,44,21,52,32,23,11,54,26,40,15,34,20,31,10,25,14,19,9,13,8,7,6]):=Lib.laidMet.reads hL (.tail _ (.head _));exact(QC (g:=7) (t:=265) (e:=5) (n:=64) bg bg bg bg bg bg h).cell bg 15 (by decide)
 ·exact CY (g:=8) (t:=127) bg bg Tryz.underlying127 (Lib.laidMet.reads hL (.tail _ (.tail _ (.tail _ (.tail _ (.tail _ (.head _)))))))
 ·exact CY (g:=9) (t:=127) bg bg Tryz.underlying127 (Lib.laidMet.reads hL (.tail _ (.tail _ (.tail _ (.tail _ (.head _))))))
theorem own:ownKnob ag.godebug=none:=by kernel_rfl
open Go.Deep
section
variable{H:Type}
end
section
variable{H:Type}{enc:TypeId×Value→H}{w:World}{base:Nat}{sp:Nat→Bool}{held:Bool}
end
theorem d4:ag.cellsOf 4=1:=by kernel_rfl
theorem d5:ag.cellsOf 5=1:=by kernel_rfl
theorem d6:ag.cellsOf 80=1:=by kernel_rfl
theorem d9:ag.cellsOf 9=1:=by kernel_rfl
theorem d10:ag.cellsOf 22=1:=by kernel_rfl
theorem d11:ag.cellsOf 54=3:=by kernel_rfl
theorem d12:ag.cellsOf 243=4:=by kernel_rfl
theorem d13:ag.cellsOf 332=2:=by kernel_rfl
theorem kQ:ag.cellsOf 334=5:=by kernel_rfl
theorem qV:ag.cellsOf 245=6:=by kernel_rfl
theorem kp:ag.cellsOf 345=2:=by kernel_rfl
theorem qW:ag.cellsOf 340=4:=by kernel_rfl
theorem tM:ag.cellsOf 67=1:=by kernel_rfl
theorem Bh:ag.cellsOf 337=1:=by kernel_rfl
theorem Bi:ag.cellsOf 338=1:=by kernel_rfl
theorem Jf:ag.cellsOf 175=1:=by kernel_rfl
theorem UH:ag.cellsOf 176=1:=by kernel_rfl
theorem UI:ag.cellsOf 177=1:=by kernel_rfl
section
variable{H:Type}{enc:TypeId×Value→H}{w:World}{base:Nat}{sp:Nat→Bool}{held:Bool}
end
def UJ(p:Nat→Bool)(n:Nat)(z:Int):Prop:=(∃k:Nat,k<n∧z=(k:Int)∧p k=true∧∀j,j<k→p j=false)∨(z= -1∧∀j,j<n→p j=false)
theorem UJ.any{p:Nat→Bool}{n:Nat}{z:Int}(h:UJ p n z):decide (0≤z)=(aA n).any p:=by
 rcases h with⟨k,hk,rfl,hp,_⟩|⟨rfl,hp⟩
 ·rw[decide_eq_true aM];exact(List.any_eq_true.2 ⟨k,List.mem_range.2 hk,hp⟩).symm
 ·rw[decide_eq_false aM]
  symm
  rw[List.any_eq_false];intro j hj;rw[hp j (List.mem_range.1 hj)];decide
def dh(w:World)(A:Option Addr)(n K:Nat)(cs:Nat→List Value):Prop:=∀k,k<n→(cs k).length=K∧∃g o,A=some ⟨g,o,none⟩∧∀j u,(cs k)[j]? =some u→w.cell? ⟨g,o+k*K+j,none⟩=some u
theorem aW.gm{w:World}{A:Option Addr}{n cap K:Nat}{xs:List Value}(h:aW w (.slice A n cap) n K xs):dh w A n K fun k=>(xs.drop (k*K)).take K:=by
 obtain⟨A',cap',e,hl,hc⟩:=h;injection e with e1 _ e2
 subst e1 e2;intro k hk;have hb:k*K+K≤n*K:=by
  have:=Nat.mul_le_mul_right K (show k+1≤n from hk);rw[Nat.succ_mul]at this;exact this
 refine⟨by rw[List.length_take,List.length_drop,hl];omega,?_⟩;obtain⟨g,o,ha,hcc⟩:=hc aM;refine⟨g,o,ha,fun j u hu=>?_⟩;rw[Nat.add_assoc];refine hcc _ u ?_;rw[List.getElem?_take]at hu;split at hu
 ·rw[List.getElem?_drop]at hu;exact hu
 ·cases hu
theorem CZ{w:World}{A:Option Addr}{N cap:Nat}(hN:N≤4000000)(cs:Nat→List Value)(p:Nat→Bool)(hc:dh w A N 8 cs)(f:Nat)(lb:Array Value)(eg:∀args w,(callFunc f args).run ag w=.ok (.enter f args) w)(hf:∀k,k<N→∀W,Below w.heap.size w W→Calls ag f (#[.agg (cs k).toArray]++lb) W (Got (.bool (p k)) W)):Calls ag 99 #[.slice A N cap,.func (.func f) #[] lb] w fun r w'=>(∃z:Int,r=.returned (.int .i64 z)∧UJ p N z)∧Below w.heap.size w w':=by
 obtain⟨HC,HF⟩:=aI hc hf;clear hc hf;go_enter Tryz.func99,Tryz.ntmps99;go_wp2_with fail
 go_loopw [8] (fun v8 wr=>∃k:Nat,k≤N∧v8=.int .i64 k∧af (Below w.heap.size w wr)∧af (∀j,j<k→p j=false)) (fun v8 _=>N-(intOf v8).toNat)
 case atStart=>exact⟨0,bD _,rfl,ae (aG _ _),ae (fun j hj=>absurd hj (Nat.not_lt_zero j))⟩
 case round=>
  obtain⟨k,hk,rfl,hb,hno⟩:=hrel;by_cases hlt:k<N
  ·obtain⟨hlen,q,o,rfl,hcell⟩:=HC.out k hlt;have hcall:=HF.out k hlt wr hb.out;generalize hcs:cs k=L at hlen hcell hcall;clear hcs;obtain⟨c0,c1,c2,c3,c4,c5,c6,c7,hL⟩:∃c0 c1 c2 c3 c4 c5 c6 c7,L=[c0,c1,c2,c3,c4,c5,c6,c7]:=by
    match L,hlen with
    |[c0,c1,c2,c3,c4,c5,c6,c7],_=>exact⟨c0,c1,c2,c3,c4,c5,c6,c7,rfl⟩
   subst hL;have d0:=(hb.out.cell (aj w _ (hcell 0 _ rfl))).trans (hcell 0 _ rfl);have d1:=(hb.out.cell (aj w _ (hcell 1 _ rfl))).trans (hcell 1 _ rfl);have d2:=(hb.out.cell (aj w _ (hcell 2 _ rfl))).trans (hcell 2 _ rfl);have d3:=(hb.out.cell (aj w _ (hcell 3 _ rfl))).trans (hcell 3 _ rfl);have d4:=(hb.out.cell (aj w _ (hcell 4 _ rfl))).trans (hcell 4 _ rfl);have d5:=(hb.out.cell (aj w _ (hcell 5 _ rfl))).trans (hcell 5 _ rfl);have d6:=(hb.out.cell (aj w _ (hcell 6 _ rfl))).trans (hcell 6 _ rfl);have d7:=(hb.out.cell (aj w _ (hcell 7 _ rfl))).trans (hcell 7 _ rfl);rw[Nat.add_zero]at d0;have bo:=ae hcall;clear hcall hcell hlen;cases hp:p k with
   |true=>
    rw[hp]at bo;have HP:=ae hp;clear hp;go_wp2_with(go_at_fn f;(with_reducible refine bo.out.mono ?_);rintro r w2⟨rfl,e2⟩)
    go_ret;exact⟨⟨_,rfl,.inl ⟨k,hlt,rfl,HP.out,hno.out⟩⟩,after hb.out e2⟩
   |false=>
    rw[hp]at bo;have HP:=ae hp;clear hp;go_wp2_with(go_at_fn f;(with_reducible refine bo.out.mono ?_);rintro r w2⟨rfl,e2⟩)
    go_roundw
    case rel=>
     refine⟨k+1,by omega,by go_num,(aU hb e2),ae (fun j hj=>?_)⟩;by_cases e:j=k
     ·rw[e];exact HP.out
     ·exact hno.out j (by omega)
    case measure=>simp[intOf];omega
  ·obtain rfl:k=N:=by omega
   go_wp2_with fail
   go_ret;exact⟨⟨_,rfl,.inr ⟨rfl,hno.out⟩⟩,hb.out⟩
theorem QD{w:World}{A:Option Addr}{N cap:Nat}(hN:N≤4000000)(cs:Nat→List Value)(p:Nat→Bool)(hc:dh w A N 8 cs)(f:Nat)(lb:Array Value)(eg:∀args w,(callFunc f args).run ag w=.ok (.enter f args) w)(hf:∀k,k<N→∀W,Below w.heap.size w W→Calls ag f (#[.agg (cs k).toArray]++lb) W (Got (.bool (p k)) W)):Calls ag 133 #[.slice A N cap,.func (.func f) #[] lb] w (Got (.bool ((aA N).any p)) w):=by
 have HI:=ae (CZ (cap:=cap) hN cs p hc f lb eg hf);clear hc hf;generalize hR:(aA N).any p=R;have HR:=ae hR;clear hR;go_enter Tryz.func133,Tryz.ntmps133;go_wp2_with(go_at_call 99;(with_reducible refine HI.out.mono ?_);rintro r w2⟨⟨z,rfl,hz⟩,e2⟩)
 go_ret;exact⟨by rw[←HR.out,←hz.any];rfl,e2⟩
theorem eqS(x y:ByteArray):(x.toList==y.toList)=decide (y=x):=by
 rw[Bool.eq_iff_iff,beq_iff_eq,decide_eq_true_eq];constructor
 ·intro h;exact(ZY h).symm
 ·rintro rfl;rfl
theorem QE{w:World}(l:List ByteArray){v:Value}(hl:l.length≤4000000)(hr:aW w v l.length 1 (strCells l))(x:ByteArray):Calls ag 112 #[v,(cC x)] w fun r w'=>(∃z:Int,r=.returned (.int .i64 z)∧decide (0≤z)=l.any fun y=>decide (y=x))∧Below w.heap.size w w':=by
 obtain⟨A,cap,rfl,hlen,hA⟩:=hr;obtain⟨N,hN⟩:∃n,n=l.length:=⟨_,rfl⟩;obtain⟨R,hR⟩:∃r,r=l.any fun y=>decide (y=x):=⟨_,rfl⟩
 rw[←hN]at hA hl⊢;rw[←hR];obtain⟨HA,HN,HR⟩:=bj hA hN hR;clear hA hN hlen hR;go_enter Tryz.func112,Tryz.ntmps112;go_wp2_with fail
 go_loopw [8] (fun v8 wr=>∃k:Nat,k≤N∧v8=.int .i64 k∧af (Below w.heap.size w wr)∧af (((l.take k).any fun y=>decide (y=x))=false)) (fun v8 _=>N-(intOf v8).toNat)
 case atStart=>exact⟨0,bD _,rfl,ae (aG _ _),ae rfl⟩
 case round=>
  obtain⟨k,hk,rfl,hb,hno⟩:=hrel;by_cases hlt:k<N
  ·have hkl:k<l.length:=by have:=HN.out;omega
   obtain⟨q,o,rfl,hc⟩:=HA.out aM;have htk:=List.take_succ_eq_append_getElem hkl;have hx:l[k]? =some l[k]:=ah hkl;have c0:=hc _ _ (CP hx);generalize l[k]=X at htk c0;have d0:=(hb.out.cell (aj w _ c0)).trans c0;have hq:(x.toList==X.toList)=decide (X=x):=eqS x X;clear c0 hx hc;cases hD:decide (X=x)with
   |true=>
    rw[hD]at hq;have hres:R=true:=by
     rw[HR.out];have:(l.take (k+1)).any (fun y=>decide (y=x))=true:=by rw[htk,List.any_append];simp[hD]
     obtain⟨y,hy,hys⟩:=List.any_eq_true.1 this;exact List.any_eq_true.2 ⟨y,List.mem_of_mem_take hy,hys⟩
    have fi:=ae hres;clear hres htk hD;go_wp2_with fail
    go_ret;exact⟨⟨_,rfl,by rw[fi.out];exact decide_eq_true aM⟩,hb.out⟩
   |false=>
    rw[hD]at hq;have Ff:af (((l.take (k+1)).any fun y=>decide (y=x))=false):=ae (by rw[htk,List.any_append,hno.out];simp[hD]);clear htk hD;go_wp2_with fail
    go_roundw
    case rel=>exact⟨k+1,by omega,by go_num,hb,Ff⟩
    case measure=>simp[intOf];omega
  ·obtain rfl:k=N:=by omega
   have hres:R=false:=by
    have:=hno.out;rw[List.take_of_length_le (by have:=HN.out;omega)]at this;rw[HR.out];exact this
   have fi:=ae hres;clear hres;go_wp2_with fail
   go_ret;exact⟨⟨_,rfl,by rw[fi.out];rfl⟩,hb.out⟩
theorem V1{w:World}(l:List ByteArray){v:Value}(hl:l.length≤4000000)(hr:aW w v l.length 1 (strCells l))(x:ByteArray):Calls ag 54 #[v,(cC x)] w (Got (.bool (l.any fun y=>decide (y=x))) w):=by
 have HI:=ae (QE l hl hr x);obtain⟨A,cap,rfl,_,_⟩:=hr;generalize(l.any fun y=>decide (y=x))=R at HI⊢;generalize l.length=N at HI⊢;go_enter Tryz.func54,Tryz.ntmps54;go_wp2_with(go_at_call 112;(with_reducible refine HI.out.mono ?_);rintro r w2⟨⟨z,rfl,hz⟩,e2⟩)
 go_ret;exact⟨by rw[←hz];rfl,e2⟩
structure Pe where
 user:ByteArray
 tags:List ByteArray
 aJ:List Ad
structure Fw where
 proto:Nat
 src:Ad
 dst:Ad
 sent:Nat
 acf:Nat
def acg(p:Po)(s:ByteArray):Option Nm:=p.groups.find? fun n=>decide (n.name=s)
def ach(p:Po)(s:ByteArray):Option Hs:=p.hosts.find? fun h=>decide (h.name=s)
def QF(p:Po)(s:jm)(x:Pe):Bool:=if s.kind=2 then decide (x.user=s.name)
 else if s.kind=4 then x.tags.any fun t=>decide (t=s.name)
 else if s.kind=3 then match acg p s.name with
  |some n=>n.list.any fun t=>decide (t=x.user)
  |none=>false
 else false
def iJ(p:Po)(l:List Pe)(s:jm)(a:Ad):Bool:=a.may&&(if s.kind=1 then true
 else if s.kind=5 then match ach p s.name with
  |some h=>OI h.net a
  |none=>false
 else if s.kind=6 then OI s.net a
 else l.any fun x=>QF p s x&&x.aJ.any fun b=>decide (b=a))
def Ad.key(a:Ad):Nat:=(if a.v6 then 2^128 else 0)+(a.hi*2^64+a.lo)
abbrev Sp:=Ad×Ad
def Sp.Ok(s:Sp):Prop:=s.1.Ok∧s.2.Ok
def uZ(s:Sp):Bool:=s.1.may&&s.2.may&&(s.1.v6==s.2.v6)&& !ux s.2 s.1
def Sp.cells(s:Sp):Array Value:= #[.bool s.1.v6,.int .u64 (s.1.hi:Int),.int .u64 (s.1.lo:Int),.bool s.2.v6,.int .u64 (s.2.hi:Int),.int .u64 (s.2.lo:Int)]
def cO(l:List Ad):List Value:=l.flatMap fun a=>a.cells.toList
structure V2 where
 x:Pe
 key:ByteArray
 bh:ByteArray
 tg:Value
 ad:Value
 exp:Nat
 aY:Nat
 en:Value
def V2.cells(X:V2):Array Value:= #[.string X.key,.string X.bh,.string X.x.user,X.tg,X.ad,.int .u64 (X.exp:Int),.int .u8 (X.aY:Int),X.en]
structure yb(w:World)(X:V2):Prop where
 tags:aW w X.tg X.x.tags.length 1 (strCells X.x.tags)
 aJ:aW w X.ad X.x.aJ.length 3 (cO X.x.aJ)
 ends:∃A n c,X.en=.slice A n c
 tl:X.x.tags.length≤4000000
 al:X.x.aJ.length≤4000000
theorem yb.below{w w':World}{X:V2}(h:yb w X)(hb:Below w.heap.size w w'):yb w' X:=⟨h.tags.below hb,h.aJ.below hb,h.ends,h.tl,h.al⟩
theorem copied{w:World}{V:tN}{p:Po}(h:tq w V p):∃(Ag At Ah Aa:Option Addr)(cg ct ch ca:Nat),V=⟨.slice Ag p.groups.length cg,.slice At p.tags.length ct,.slice Ah p.hosts.length ch,.slice Aa p.j7.length ca⟩:=by
 obtain⟨gv,tv,hv,av⟩:=V;obtain⟨Ag,cg,eg⟩:=h.g.shape;obtain⟨At,ct,et⟩:=h.t.shape;obtain⟨Ah,ch,eh⟩:=h.h.shape;obtain⟨Aa,ca,ea⟩:=h.a.shape;simp only at eg et eh ea;subst eg et eh ea;exact⟨Ag,At,Ah,Aa,cg,ct,ch,ca,rfl⟩
theorem ak{w u:World}{a:Addr}{v:Value}(h:w.cell? a=some v)(hb:Below w.heap.size w u):u.cell? a=some v:=(hb.cell (aj w _ h)).trans h
theorem Below.oU{n:Nat}{w u:World}(h:Below n w u):Below n w u.drew:=⟨h.os,h.tape,h.output,h.size,h.block⟩
theorem Below.eJ{w u:World}(h:Below w.drew.heap.size w.drew u):Below w.heap.size w u:=⟨h.os,h.tape,h.output,h.size,h.block⟩
def zy(w:World)(p:Po)(s:jm)(v:Value):Prop:=∃(f:Nat)(lb:Array Value),v=.func (.func f) #[] lb∧(∀args w,(callFunc f args).run ag w=.ok (.enter f args) w)∧∀W,Below w.heap.size w W→∀X:V2,yb W X→Calls ag f (#[.agg X.cells]++lb) W (Got (.bool (QF p s X.x)) W)
theorem zy.below{w u:World}{p:Po}{s:jm}{v:Value}(h:zy w p s v)(hb:Below w.heap.size w u):zy u p s v:=by
 obtain⟨f,lb,e,eg,hc⟩:=h;exact⟨f,lb,e,eg,fun W hW=>hc W (after hb hW)⟩
end Go.Proofs.YteflnojjjdkgmaaGreatDoor
