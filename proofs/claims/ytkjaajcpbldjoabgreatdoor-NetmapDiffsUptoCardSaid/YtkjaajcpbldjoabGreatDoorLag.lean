/- Joined out of: PlV PxL PzA PzC IxA CnA RuA RxB RxE MyA RxJ CnB RxL RxM CpA RwL RxO PzD NtA PeA. -/
import Derived.Test.YtkjaajcpbldjoabGreatDoorLaf
import Derived.Test.YtkjaajcpbldjoabGreatDoorTie
import Derived.Test.YtkjaajcpbldjoabGreatDoorCards
import Derived.ProofKit
import Derived.OpenShut
import Derived.ShutString
import Derived.ChangeMaps5
import Derived.HandedShaped
import Derived.LaidMore
import Derived.Lay
import Derived.SevenTiedAt
import Derived.Shelf.Vars
import Derived.Lib.LaidU8
import Derived.Deep.Slices
set_option linter.unusedVariables false
set_option linter.unusedSimpArgs false
set_option maxHeartbeats 16000000
set_option maxRecDepth 100000
open Array renaming length_toList→fE
open Bool renaming and_eq_true→aU,eq_iff_iff→gW
open Go.Lib renaming hid→ae
open Go.Proofs.Tryz renaming prog→ah,underlying9→bq,underlying4→zc,underlying22→ahW
open Go.RowKit renaming Hid→ag
open Go.RowKit.Below renaming refl→aI
open Go.Value renaming string→bN
open Go.World renaming block_lt_of_cell?→ak,ownsRow_nil→bh
open List renaming getElem?_eq_getElem→af,length_append→aj,length_map→ay,take_succ_eq_append_getElem→aC,range→aF,take_of_length_le→aN,eq_nil_of_length_eq_zero→bC,getElem?_map→bO,length_cons→bP,mem_of_getElem?→iD,nil_append→lK,drop_eq_nil_of_le→nW,getElem?_toArray→uz,flatMap_cons→abj,getElem?_take→ah1,mem_of_mem_take→ah8
open Nat renaming le_trans→aw,le_refl→ax,zero_le→bj,add_assoc→jh
namespace Go.Proofs.YtkjaajcpbldjoabGreatDoor
open Go.RowKit
attribute [local go_sem↓] Go.wp_at_zero Go.wp_at_succ
theorem Kp{w:World}(s:ByteArray)(hs:s.size≤2000000)(hl:8192<s.size):Calls ah 126 #[.string s] w (ei s.data.toList w):=by
 have q:(8192:Int)<(s.size:Int):=by omega
 have hp:jb s.data.toList=(Po.zero,(4,0,0)):=by
  unfold jb;rw[if_pos (by rw[show s.data.toList.length=s.size from(Lib.size_eq s).symm];exact hl)]
 have B1:=aH.new w 166 #[au,au,au,au];have b1:=boxed w (.cells #[au,au,au,au] 166);have B2:=aH.new (w.alloc (.cells #[au,au,au,au] 166)) 168 #[.int .i64 4,.int .i64 0,.int .i64 0];have b2:=boxed (w.alloc (.cells #[au,au,au,au] 166)) (.cells #[.int .i64 4,.int .i64 0,.int .i64 0] 168);obtain⟨HB2,HB1,Hb,Hp⟩:=cU B2 (B1.below b2 B1.lt) (after b1 b2) hp;clear B1 B2 b1 b2 hp hl hs
 go_enter_defers Tryz.func126,Tryz.ntmps126
 go_wp2_with fail
 show Leaves _ _ _ _ [] .returning _;refine⟨_,rj rfl rfl (Nh HB1.out) (Ni ?_),ei.bad Hp.out Hb.out⟩;simpa using HB2.out
theorem Gg{w:World}(env:Env w)(s:ByteArray)(hl:¬8192<s.size):Calls ah 126 #[.string s] w (ei s.data.toList w):=by
 have hmf:∀(fn:Fn)(first cap:Array Value)(w:World),(Instr.makeFunc fn first cap).run ah w=.ok (.func fn first cap) w:=fun _ _ _ _=>rfl
 have q:¬(8192:Int)<(s.size:Int):=by omega
 have hp:=Qq (s:=s.data.toList) (by rw[show s.data.toList.length=s.size from(Lib.size_eq s).symm];exact hl);rw[←rP]at hp;have PD:=qG 10 s;have hFs:=FK (c:=10) (s:=s);obtain⟨LS,hLS⟩:=bw (jU 10 s);rw[←hLS]at hp PD hFs;obtain⟨RES,eV⟩:=bw (qT (LS.map (·.data.toList)) 1 ⟨Po.zero,[]⟩);rw[←eV]at hp;obtain⟨Hp,jT,HFs,vF⟩:=cU hp eV hFs env;have PB1:=aH.new w 166 #[au,au,au,au];have b1:=boxed w (.cells #[au,au,au,au] 166);have vZ:=aH.new (w.alloc (.cells #[au,au,au,au] 166)) 168 #[.int .i64 0,.int .i64 0,.int .i64 0];have b2:=boxed (w.alloc (.cells #[au,au,au,au] 166)) (.cells #[.int .i64 0,.int .i64 0,.int .i64 0] 168);have RB3:=aH.new ((w.alloc (.cells #[au,au,au,au] 166)).alloc (.cells #[.int .i64 0,.int .i64 0,.int .i64 0] 168)) 207 #[au,.int .i64 0,.pointer (some ⟨w.heap.size,0,none⟩),au];have b3:=boxed ((w.alloc (.cells #[au,au,au,au] 166)).alloc (.cells #[.int .i64 0,.int .i64 0,.int .i64 0] 168)) (.cells #[au,.int .i64 0,.pointer (some ⟨w.heap.size,0,none⟩),au] 207);have PB3:=(PB1.below b2 PB1.lt).below b3 (PB1.below b2 PB1.lt).lt;have FB3:=vZ.below b3 vZ.lt;have bb3:=after (after b1 b2) b3;rw[show((w.alloc (.cells #[au,au,au,au] 166)).alloc (.cells #[.int .i64 0,.int .i64 0,.int .i64 0] 168)).heap.size=w.heap.size+1+1 by simp]at RB3;rw[show(w.alloc (.cells #[au,au,au,au] 166)).heap.size=w.heap.size+1 by simp]at FB3;clear hp eV hFs env PB1 b1 vZ b2 b3
 go_enter_defers Tryz.func126,Tryz.ntmps126
 go_upto_region 5 with fail
 generalize((((w.alloc (.cells #[au,au,au,au] 166)).alloc (.cells #[.int .i64 0,.int .i64 0,.int .i64 0] 168)).alloc (.cells #[au,.int .i64 0,.pointer (some ⟨w.heap.size,0,none⟩),au] 207)))=w3 at PB3 FB3 RB3 bb3⊢;obtain⟨b,hb⟩:=bw (w.heap.size+1+1);obtain⟨F,hF⟩:=bw (w.heap.size+1);obtain⟨P,hP⟩:=bw w.heap.size;rw[←hb]at RB3⊢;rw[←hF]at FB3⊢;have PM3:Pm w.heap.size w3 P au ⟨au,au,au,au⟩ ⟨Po.zero,[]⟩:=Pm.nil (by rw[hP];exact PB3);have RD3:RdB w3 b au 0 P au:=by rw[hP];exact RB3
 rw[←hP];have hbb:w.heap.size≤b:=by omega
 have Di:w.heap.size≤P:=by omega
 have hFF:w.heap.size≤F:=by omega
 have hPF:P≠F:=by omega
 have ZO:=ae hPF;have hsp:=xE (vF.out.below bb3) s aR 10;obtain⟨N,hN⟩:=bw LS.length;rw[←hLS,←hN]at hsp;rw[←hN]at PD;obtain⟨EF,HN,aeY,acE,acF,aeZ⟩:=ot hsp hN PM3 RD3 FB3 bb3;clear hb hF hP hsp hN hLS PB3 PM3 RD3 RB3 FB3 bb3 hPF;go_wp2_with(go_at_call 158;refine EF.out.mono ?_;rintro r wq⟨rfl,rfl⟩)
 have hrow:aH (w3.alloc (.cells (LS.map bN).toArray 9)) w3.heap.size 9 (LS.map bN).toArray:=aH.new _ _ _;have hb4:=boxed w3 (.cells (LS.map bN).toArray 9);obtain⟨ZQ,acG,acH,acI⟩:=cU hrow (aeY.out.below hb4) (acE.out.below hb4 acE.out.lt) (acF.out.below hb4 acF.out.lt);have acJ:=bg aeZ hb4;clear hrow hb4 aeY acE acF aeZ EF;generalize w3.alloc (.cells (LS.map bN).toArray 9)=w4 at ZQ acG acH acI acJ⊢;generalize w3.heap.size=gS at ZQ⊢;go_loopw [22] (fun v22 wr=>∃(k:Nat)(lv:Value)(j:Nat)(uv:Value)(V:vY)(ed:qE),k≤N∧v22=.int .i64 k∧ag (RdB wr b lv j P uv)∧ag (Pm w.heap.size wr P uv V ed)∧ag (aH wr F 168 #[.int .i64 0,.int .i64 0,.int .i64 0])∧ag (aH wr gS 9 (LS.map bN).toArray)∧ag (aW w wr)∧ag (RES=qT ((LS.map (·.data.toList)).drop k) (k+1) ed)) (fun v22 _=>N-(intOf v22).toNat)
 case atStart=>exact⟨0,_,0,_,_,_,bj _,rfl,acH,acG,acI,ZQ,acJ,jT⟩
 case round=>
  obtain⟨k,lv,j,uv,V,ed,hk,rfl,hrd,hpm,hfb,hrow,hbw,hres⟩:=hrel;clear acH acG acI ZQ acJ jT;by_cases hlt:k<N
  ·have Jj:k<LS.length:=by have:=HN.out;omega
   have cx:=hrow.out.cell k;rw[uz,bO,af Jj]at cx;simp only[Option.map_some]at cx;have hres2:=hres.out;rw[←List.map_drop,List.drop_eq_getElem_cons Jj,List.map_cons,qT,List.map_drop]at hres2;have hTs:=HFs.out LS[k] (List.getElem_mem Jj);generalize LS[k]'Jj=T at cx hres2 hTs;have hsplit:=Pz T aR (k+1) aR wr;rw[show((k+1:Nat):Int)=(k:Int)+1 by omega]at hsplit;have hwl:=Qp T.data.toList;rw[show T.data.toList.length=T.size from(Lib.size_eq T).symm]at hwl;generalize oU T.data.toList=ws at hsplit hres2 hwl;obtain⟨UO,fm⟩:=aL hsplit hres2;have ahy:=hwl.1;have HWl:=ae hwl.2;have i1:IntKind.i64.wrap ((k:Int)+1)=(k:Int)+1:=by rw[IntKind.wrap_i64];omega
   clear hsplit hres2 hres Jj hwl;go_upto_region 9 with(go_at_call 159;refine UO.out.mono ?_;rintro r w1⟨v,rfl,o1,d1⟩;obtain⟨Av,cv,rfl⟩:=aX o1;have O1:=ae o1;clear o1;have RD1:=ae (hrd.out.below d1 hrd.out.lt);have c0:=RD1.out.cell 0;have c1:=RD1.out.cell 1;have z0:=RD1.out.frozen 0;have z1:=RD1.out.frozen 1;simp at c0 c1)
   obtain⟨w2,hw2⟩:=bw ((w1.setCell ⟨b,0,none⟩ (.slice Av ws.length cv)).setCell ⟨b,1,none⟩ (.int .i64 0));rw[←hw2];have K2:Keeps (fun x=>x=b) w1 w2:=by rw[hw2];exact((Keeps.refl (fun x=>x=b) w1).setCell (p:=⟨b,0,none⟩) (Or.inl rfl) _).setCell (p:=⟨b,1,none⟩) (Or.inl rfl) _
   have O2:Off (fun x=>x=b) w1 [207]:=fun k hk=>⟨_,_,_,by subst hk;exact RD1.out,by simp⟩
   have ZR:ag (RdB w2 b (.slice Av ws.length cv) 0 P uv):=ae (by rw[hw2];exact aH.aM (aH.aM RD1.out 0 _) 1 _);have UP:=ae ((hpm.out.below d1).reader K2 O2);have vZ:=ae ((hfb.out.below d1 hfb.out.lt).off K2 O2 aJ);have IH:=ae ((hrow.out.below d1 hrow.out.lt).off K2 O2 aJ);have UQ:ag (aW w w2):=ae (cw (after hbw.out d1) K2 (fun k hk=>by subst hk;exact hbb));have OV2:=ae (bn O1.out K2 O2 aJ);clear hw2 K2 O2 RD1 O1 hrd hpm hfb hrow hbw d1 c0 c1 z0 z1 cx i1 UO;have c0:=ZR.out.cell 0;simp at c0;by_cases hws:ws.length=0
   ·obtain rfl:=bC hws;have hR:RES=qT ((LS.map (·.data.toList)).drop (k+1)) (k+1+1) ed:=fm.out;have HR:=ae hR;clear hR fm hws;go_wp2_with fail
    go_roundw
    case rel=>exact⟨k+1,_,0,uv,V,ed,by omega,by go_num,ZR,UP,vZ,IH,UQ,HR⟩
    case measure=>simp[intOf];omega
   have ahz:((ws.length:Int)==0)=false:=by simp;exact fun e=>hws (by rw[e];rfl)
   have hne:ws≠[]:=fun e=>hws (by rw[e];rfl)
   obtain⟨x,hx⟩:∃x,ws[0]? =some x:=⟨_,af aR⟩;have rc:ag (Rs w2 b P 0 (k+1) (.slice Av ws.length cv) uv ws):=ae ⟨ZR.out,⟨_,OV2.out⟩,hne,by omega,fun s hs=>by have:=HWl.out s hs;omega⟩;have Kq:ag (∀u,aW w2 u→Calls ah 161 #[.pointer (some ⟨b,0,none⟩)] u fun r w'=>(Keeps (fun x=>x=b) u w'∧Rs w' b P 1 (k+1) (.slice Av ws.length cv) uv ws)∧r=.returned (.string x)):=ae fun u hu=>((rc.out.below hu).take (bj _)).mono fun r w'⟨h1,h2⟩=>⟨h1,by unfold jy at h2;rw[hx]at h2;exact h2⟩
   have hbl:b<w2.heap.size:=ZR.out.lt;have agy:1≤ws.length:=by omega
   clear hws hne;go_upto_region 10 with fail
   by_cases x1:x=fJ
   case pos=>
    subst x1;go_upto_region 11 with(first
     |(go_at_call 160;refine(py _ b).mono ?_;rintro r w3⟨⟨m,c,rfl,EJ,Nj,ZS,hc3⟩,d3⟩;obtain⟨mL,Nk⟩:=aL EJ Nj;clear EJ Nj)
     |(go_at_call 161;refine(Kq.out _ d3).mono ?_;rintro r w5⟨⟨d5,e5⟩,rfl⟩;have rf:=ae e5;clear e5;have tL:=ae (mL.out.keep d5 aR);have hlk:=(rX tL.out).1))
    have O3:Off (fun x=>x=b) w3 [207]:=fun k hk=>⟨_,_,_,by subst hk;exact(rc.out.below d3).blk,by simp⟩
    have Nl:=ae ((UP.out.below d3).reader d5 O3);have vI:=ae ((vZ.out.below d3 vZ.out.lt).off d5 O3 aJ);have II:=ae ((IH.out.below d3 IH.out.lt).off d5 O3 aJ);have IJ:=ae (Nk.out.off d5 O3 aJ);have Qr:ag (aW w w5):=ae (cw (after UQ.out d3) d5 (fun k hk=>by subst hk;exact hbb));clear O3 d3 d5 mL tL Nk ZS hc3 hlk Kq rc ZR UP vZ IH UQ OV2 c0;have hun:=rf.out.unless (ax 1) aR true 190;have kr:ag (Calls ah 162 #[.pointer (some ⟨b,0,none⟩),.bool true,.int .i64 190] w5 fun r w'=>r=.returned (.tuple #[])∧aW w5 w'):=ae hun;clear hun;go_upto_region 12 with(go_at_call 162;refine kr.out.mono ?_;rintro r w6⟨rfl,d6⟩)
    obtain⟨FX,PM6,UT,RW6,HC6⟩:=eB (rf.out.below d6) (Nl.out.below d6) (vI.out.below d6 vI.out.lt) (II.out.below d6 II.out.lt) (IJ.out.below d6 IJ.out.lt);have xR:=bg Qr d6;clear rf Nl vI II IJ Qr d6 kr;have hcall:=Qn xR.out hbb Di FX.out PM6.out hx HC6.out;cases ho:fB ed (k+1) ws with
    |error e=>
     rw[ho]at hcall;have bG:ag (Calls ah 186 #[.pointer (some ⟨c,0,none⟩)] w6 fun r w'=>cK w.heap.size w6 w'∧r=aT e.1 (k+1) e.2∧nH (α:=qE) w' P (.error e)):=ae hcall;have hR:=fm.out;rw[ho]at hR;simp only at hR;have HR:=ae hR;clear hcall hR fm ho;go_wp2_with(go_at_call 186;refine bG.out.mono ?_;rintro r w7⟨d7,rfl,p7⟩;unfold aT)
     obtain⟨p0,p1,p2,p3,tM⟩:=p7 e rfl;have hF7:=UT.out.off d7 cK.off aJ;have kg:=xR.out.trans (d7.below xR.out.size);exact lp rfl rfl tM hF7 ZO.out (fun w8 hk8=>ei.bad (by rw[Hp.out,HR.out];rfl) (cw kg hk8 (fun q hq=>hq.elim (fun e=>by subst e;exact Di) fun e=>by subst e;exact hFF)))
    |ok tJ=>
     rw[ho]at hcall;have bG:ag (Calls ah 186 #[.pointer (some ⟨c,0,none⟩)] w6 fun r w'=>cK w.heap.size w6 w'∧r=.returned (.tuple #[])∧∃k' uv' V',Rs w' b P k' (k+1) (.slice Av ws.length cv) uv' ws∧Pm w.heap.size w' P uv' V' tJ):=ae (hcall.mono fun r w'⟨h1,⟨h2,h3⟩,_⟩=>⟨h1,h2,h3⟩);have hR:=fm.out;rw[ho]at hR;simp only at hR;have HR:=ae hR;clear hcall hR fm ho;go_wp2_with(go_at_call 186;refine bG.out.mono ?_;rintro r w7⟨d7,rfl,k',uv',V',R7,M7⟩;obtain⟨pX,PM7⟩:=aL R7 M7;clear R7 M7)
     have UU:=ae (UT.out.off d7 cK.off aJ);have RW7:=ae (RW6.out.off d7 cK.off aJ);have Ym:=ae (xR.out.trans (d7.below xR.out.size));go_roundw
     case rel=>exact⟨k+1,_,k',uv',V',tJ,by omega,by go_num,ae pX.out.blk,PM7,UU,RW7,Ym,HR⟩
     case measure=>simp[intOf];omega
   by_cases x2:x=kG
   case pos=>
    subst x2;go_upto_region 11 with(first
     |(go_at_call 160;refine(py _ b).mono ?_;rintro r w3⟨⟨m,c,rfl,EJ,Nj,ZS,hc3⟩,d3⟩;obtain⟨mL,Nk⟩:=aL EJ Nj;clear EJ Nj)
     |(go_at_call 161;refine(Kq.out _ d3).mono ?_;rintro r w5⟨⟨d5,e5⟩,rfl⟩;have rf:=ae e5;clear e5;have tL:=ae (mL.out.keep d5 aR);have hlk:=(rX tL.out).2.1))
    have O3:Off (fun x=>x=b) w3 [207]:=fun k hk=>⟨_,_,_,by subst hk;exact(rc.out.below d3).blk,by simp⟩
    have Nl:=ae ((UP.out.below d3).reader d5 O3);have vI:=ae ((vZ.out.below d3 vZ.out.lt).off d5 O3 aJ);have II:=ae ((IH.out.below d3 IH.out.lt).off d5 O3 aJ);have IJ:=ae (Nk.out.off d5 O3 aJ);have Qr:ag (aW w w5):=ae (cw (after UQ.out d3) d5 (fun k hk=>by subst hk;exact hbb));clear O3 d3 d5 mL tL Nk ZS hc3 hlk Kq rc ZR UP vZ IH UQ OV2 c0;have hun:=rf.out.unless (ax 1) aR true 190;have kr:ag (Calls ah 162 #[.pointer (some ⟨b,0,none⟩),.bool true,.int .i64 190] w5 fun r w'=>r=.returned (.tuple #[])∧aW w5 w'):=ae hun;clear hun;go_upto_region 12 with(go_at_call 162;refine kr.out.mono ?_;rintro r w6⟨rfl,d6⟩)
    obtain⟨FX,PM6,UT,RW6,HC6⟩:=eB (rf.out.below d6) (Nl.out.below d6) (vI.out.below d6 vI.out.lt) (II.out.below d6 II.out.lt) (IJ.out.below d6 IJ.out.lt);have xR:=bg Qr d6;clear rf Nl vI II IJ Qr d6 kr;have hcall:=Qo xR.out hbb Di FX.out PM6.out hx HC6.out;cases ho:fB ed (k+1) ws with
    |error e=>
     rw[ho]at hcall;have bG:ag (Calls ah 188 #[.pointer (some ⟨c,0,none⟩)] w6 fun r w'=>cK w.heap.size w6 w'∧r=aT e.1 (k+1) e.2∧nH (α:=qE) w' P (.error e)):=ae hcall;have hR:=fm.out;rw[ho]at hR;simp only at hR;have HR:=ae hR;clear hcall hR fm ho;go_wp2_with(go_at_call 188;refine bG.out.mono ?_;rintro r w7⟨d7,rfl,p7⟩;unfold aT)
     obtain⟨p0,p1,p2,p3,tM⟩:=p7 e rfl;have hF7:=UT.out.off d7 cK.off aJ;have kg:=xR.out.trans (d7.below xR.out.size);exact lp rfl rfl tM hF7 ZO.out (fun w8 hk8=>ei.bad (by rw[Hp.out,HR.out];rfl) (cw kg hk8 (fun q hq=>hq.elim (fun e=>by subst e;exact Di) fun e=>by subst e;exact hFF)))
    |ok tJ=>
     rw[ho]at hcall;have bG:ag (Calls ah 188 #[.pointer (some ⟨c,0,none⟩)] w6 fun r w'=>cK w.heap.size w6 w'∧r=.returned (.tuple #[])∧∃k' uv' V',Rs w' b P k' (k+1) (.slice Av ws.length cv) uv' ws∧Pm w.heap.size w' P uv' V' tJ):=ae (hcall.mono fun r w'⟨h1,⟨h2,h3⟩,_⟩=>⟨h1,h2,h3⟩);have hR:=fm.out;rw[ho]at hR;simp only at hR;have HR:=ae hR;clear hcall hR fm ho;go_wp2_with(go_at_call 188;refine bG.out.mono ?_;rintro r w7⟨d7,rfl,k',uv',V',R7,M7⟩;obtain⟨pX,PM7⟩:=aL R7 M7;clear R7 M7)
     have UU:=ae (UT.out.off d7 cK.off aJ);have RW7:=ae (RW6.out.off d7 cK.off aJ);have Ym:=ae (xR.out.trans (d7.below xR.out.size));go_roundw
     case rel=>exact⟨k+1,_,k',uv',V',tJ,by omega,by go_num,ae pX.out.blk,PM7,UU,RW7,Ym,HR⟩
     case measure=>simp[intOf];omega
   by_cases x3:x=ja
   case pos=>
    subst x3;go_upto_region 11 with(first
     |(go_at_call 160;refine(py _ b).mono ?_;rintro r w3⟨⟨m,c,rfl,EJ,Nj,ZS,hc3⟩,d3⟩;obtain⟨mL,Nk⟩:=aL EJ Nj;clear EJ Nj)
     |(go_at_call 161;refine(Kq.out _ d3).mono ?_;rintro r w5⟨⟨d5,e5⟩,rfl⟩;have rf:=ae e5;clear e5;have tL:=ae (mL.out.keep d5 aR);have hlk:=(rX tL.out).2.2.1))
    have O3:Off (fun x=>x=b) w3 [207]:=fun k hk=>⟨_,_,_,by subst hk;exact(rc.out.below d3).blk,by simp⟩
    have Nl:=ae ((UP.out.below d3).reader d5 O3);have vI:=ae ((vZ.out.below d3 vZ.out.lt).off d5 O3 aJ);have II:=ae ((IH.out.below d3 IH.out.lt).off d5 O3 aJ);have IJ:=ae (Nk.out.off d5 O3 aJ);have Qr:ag (aW w w5):=ae (cw (after UQ.out d3) d5 (fun k hk=>by subst hk;exact hbb));clear O3 d3 d5 mL tL Nk ZS hc3 hlk Kq rc ZR UP vZ IH UQ OV2 c0;have hun:=rf.out.unless (ax 1) aR true 190;have kr:ag (Calls ah 162 #[.pointer (some ⟨b,0,none⟩),.bool true,.int .i64 190] w5 fun r w'=>r=.returned (.tuple #[])∧aW w5 w'):=ae hun;clear hun;go_upto_region 12 with(go_at_call 162;refine kr.out.mono ?_;rintro r w6⟨rfl,d6⟩)
    obtain⟨FX,PM6,UT,RW6,HC6⟩:=eB (rf.out.below d6) (Nl.out.below d6) (vI.out.below d6 vI.out.lt) (II.out.below d6 II.out.lt) (IJ.out.below d6 IJ.out.lt);have xR:=bg Qr d6;clear rf Nl vI II IJ Qr d6 kr;have hcall:=J9 vF.out xR.out hbb Di FX.out PM6.out hx;cases ho:fB ed (k+1) ws with
    |error e=>
     rw[ho]at hcall;have bG:ag (Calls ah 189 #[.pointer (some ⟨b,0,none⟩)] w6 fun r w'=>cK w.heap.size w6 w'∧r=aT e.1 (k+1) e.2∧nH (α:=qE) w' P (.error e)):=ae hcall;have hR:=fm.out;rw[ho]at hR;simp only at hR;have HR:=ae hR;clear hcall hR fm ho;go_wp2_with(go_at_call 189;refine bG.out.mono ?_;rintro r w7⟨d7,rfl,p7⟩;unfold aT)
     obtain⟨p0,p1,p2,p3,tM⟩:=p7 e rfl;have hF7:=UT.out.off d7 cK.off aJ;have kg:=xR.out.trans (d7.below xR.out.size);exact lp rfl rfl tM hF7 ZO.out (fun w8 hk8=>ei.bad (by rw[Hp.out,HR.out];rfl) (cw kg hk8 (fun q hq=>hq.elim (fun e=>by subst e;exact Di) fun e=>by subst e;exact hFF)))
    |ok tJ=>
     rw[ho]at hcall;have bG:ag (Calls ah 189 #[.pointer (some ⟨b,0,none⟩)] w6 fun r w'=>cK w.heap.size w6 w'∧r=.returned (.tuple #[])∧∃k' uv' V',Rs w' b P k' (k+1) (.slice Av ws.length cv) uv' ws∧Pm w.heap.size w' P uv' V' tJ):=ae (hcall.mono fun r w'⟨h1,⟨h2,h3⟩,_⟩=>⟨h1,h2,h3⟩);have hR:=fm.out;rw[ho]at hR;simp only at hR;have HR:=ae hR;clear hcall hR fm ho;go_wp2_with(go_at_call 189;refine bG.out.mono ?_;rintro r w7⟨d7,rfl,k',uv',V',R7,M7⟩;obtain⟨pX,PM7⟩:=aL R7 M7;clear R7 M7)
     have UU:=ae (UT.out.off d7 cK.off aJ);have RW7:=ae (RW6.out.off d7 cK.off aJ);have Ym:=ae (xR.out.trans (d7.below xR.out.size));go_roundw
     case rel=>exact⟨k+1,_,k',uv',V',tJ,by omega,by go_num,ae pX.out.blk,PM7,UU,RW7,Ym,HR⟩
     case measure=>simp[intOf];omega
   by_cases x4:x=jv
   case pos=>
    subst x4;go_upto_region 11 with(first
     |(go_at_call 160;refine(py _ b).mono ?_;rintro r w3⟨⟨m,c,rfl,EJ,Nj,ZS,hc3⟩,d3⟩;obtain⟨mL,Nk⟩:=aL EJ Nj;clear EJ Nj)
     |(go_at_call 161;refine(Kq.out _ d3).mono ?_;rintro r w5⟨⟨d5,e5⟩,rfl⟩;have rf:=ae e5;clear e5;have tL:=ae (mL.out.keep d5 aR);have hlk:=(rX tL.out).2.2.2))
    have O3:Off (fun x=>x=b) w3 [207]:=fun k hk=>⟨_,_,_,by subst hk;exact(rc.out.below d3).blk,by simp⟩
    have Nl:=ae ((UP.out.below d3).reader d5 O3);have vI:=ae ((vZ.out.below d3 vZ.out.lt).off d5 O3 aJ);have II:=ae ((IH.out.below d3 IH.out.lt).off d5 O3 aJ);have IJ:=ae (Nk.out.off d5 O3 aJ);have Qr:ag (aW w w5):=ae (cw (after UQ.out d3) d5 (fun k hk=>by subst hk;exact hbb));clear O3 d3 d5 mL tL Nk ZS hc3 hlk Kq rc ZR UP vZ IH UQ OV2 c0;have hun:=rf.out.unless (ax 1) aR true 190;have kr:ag (Calls ah 162 #[.pointer (some ⟨b,0,none⟩),.bool true,.int .i64 190] w5 fun r w'=>r=.returned (.tuple #[])∧aW w5 w'):=ae hun;clear hun;go_upto_region 12 with(go_at_call 162;refine kr.out.mono ?_;rintro r w6⟨rfl,d6⟩)
    obtain⟨FX,PM6,UT,RW6,HC6⟩:=eB (rf.out.below d6) (Nl.out.below d6) (vI.out.below d6 vI.out.lt) (II.out.below d6 II.out.lt) (IJ.out.below d6 IJ.out.lt);have xR:=bg Qr d6;clear rf Nl vI II IJ Qr d6 kr;have hcall:=Dj vF.out xR.out hbb Di FX.out PM6.out hx;cases ho:fB ed (k+1) ws with
    |error e=>
     rw[ho]at hcall;have bG:ag (Calls ah 190 #[.pointer (some ⟨b,0,none⟩)] w6 fun r w'=>cK w.heap.size w6 w'∧r=aT e.1 (k+1) e.2∧nH (α:=qE) w' P (.error e)):=ae hcall;have hR:=fm.out;rw[ho]at hR;simp only at hR;have HR:=ae hR;clear hcall hR fm ho;go_wp2_with(go_at_call 190;refine bG.out.mono ?_;rintro r w7⟨d7,rfl,p7⟩;unfold aT)
     obtain⟨p0,p1,p2,p3,tM⟩:=p7 e rfl;have hF7:=UT.out.off d7 cK.off aJ;have kg:=xR.out.trans (d7.below xR.out.size);exact lp rfl rfl tM hF7 ZO.out (fun w8 hk8=>ei.bad (by rw[Hp.out,HR.out];rfl) (cw kg hk8 (fun q hq=>hq.elim (fun e=>by subst e;exact Di) fun e=>by subst e;exact hFF)))
    |ok tJ=>
     rw[ho]at hcall;have bG:ag (Calls ah 190 #[.pointer (some ⟨b,0,none⟩)] w6 fun r w'=>cK w.heap.size w6 w'∧r=.returned (.tuple #[])∧∃k' uv' V',Rs w' b P k' (k+1) (.slice Av ws.length cv) uv' ws∧Pm w.heap.size w' P uv' V' tJ):=ae (hcall.mono fun r w'⟨h1,⟨h2,h3⟩,_⟩=>⟨h1,h2,h3⟩);have hR:=fm.out;rw[ho]at hR;simp only at hR;have HR:=ae hR;clear hcall hR fm ho;go_wp2_with(go_at_call 190;refine bG.out.mono ?_;rintro r w7⟨d7,rfl,k',uv',V',R7,M7⟩;obtain⟨pX,PM7⟩:=aL R7 M7;clear R7 M7)
     have UU:=ae (UT.out.off d7 cK.off aJ);have RW7:=ae (RW6.out.off d7 cK.off aJ);have Ym:=ae (xR.out.trans (d7.below xR.out.size));go_roundw
     case rel=>exact⟨k+1,_,k',uv',V',tJ,by omega,by go_num,ae pX.out.blk,PM7,UU,RW7,Ym,HR⟩
     case measure=>simp[intOf];omega
   have hR:=fm.out;rw[Ql ed (k+1) hx x1 x2 x3 x4]at hR;simp only at hR;have HR:=ae hR;clear hR fm;go_upto_region 11 with(first
    |(go_at_call 160;refine(py _ b).mono ?_;rintro r w3⟨⟨m,c,rfl,EJ,Nj,ZS,hc3⟩,d3⟩;obtain⟨mL,Nk⟩:=aL EJ Nj;clear EJ Nj)
    |(go_at_call 161;refine(Kq.out _ d3).mono ?_;rintro r w5⟨⟨d5,e5⟩,rfl⟩;have rf:=ae e5;clear e5;have tL:=ae (mL.out.keep d5 aR);have hlk:=UN tL.out x1 x2 x3 x4))
   have O3:Off (fun x=>x=b) w3 [207]:=fun k hk=>⟨_,_,_,by subst hk;exact(rc.out.below d3).blk,by simp⟩
   have Nl:=ae ((UP.out.below d3).reader d5 O3);have vI:=ae ((vZ.out.below d3 vZ.out.lt).off d5 O3 aJ);have II:=ae ((IH.out.below d3 IH.out.lt).off d5 O3 aJ);have IJ:=ae (Nk.out.off d5 O3 aJ);have Qr:ag (aW w w5):=ae (cw (after UQ.out d3) d5 (fun k hk=>by subst hk;exact hbb));clear O3 d3 d5 mL tL Nk ZS hc3 hlk Kq rc ZR UP vZ IH UQ OV2 c0;have hun:=rf.out.unless (ax 1) aR false 190;rw[show Ix 1 ws=0 by unfold Ix;rw[if_pos agy]]at hun;have kr:ag (Calls ah 162 #[.pointer (some ⟨b,0,none⟩),.bool false,.int .i64 190] w5 fun r w'=>r=aT 190 (k+1) 0∧aW w5 w'):=ae hun;clear hun;go_wp2_with(go_at_call 162;refine kr.out.mono ?_;rintro r w6⟨rfl,d6⟩;unfold aT)
   exact lp rfl rfl (Nl.out.blk.below d6 Nl.out.blk.lt) (vI.out.below d6 vI.out.lt) ZO.out (fun w8 hk8=>ei.bad (by rw[Hp.out,HR.out];rfl) (cw (after Qr.out d6) hk8 (fun q hq=>hq.elim (fun e=>by subst e;exact Di) fun e=>by subst e;exact hFF)))
  ·obtain rfl:k=N:=by omega
   have hR:RES=.ok ed:=by rw[hres.out,nW (by rw[ay];have:=HN.out;omega)];rfl
   obtain⟨xs,hxs,MZ⟩:=hpm.out.u;obtain⟨Au,cu,rfl⟩:=aX MZ;obtain⟨U,hU⟩:=bw ed.used.length;obtain⟨-,-,-,c3⟩:=dY hrd;rw[←hU]at MZ c3;obtain⟨A9,ae0,hA9,ae1,UW⟩:=a8.di MZ;injection hA9 with hA9 _ hC9
   subst hA9 hC9;have hUl:U≤2000000:=by have:=hpm.out.ul;have:=hpm.out.al;omega
   obtain⟨gv,tv,hv,av⟩:=V;obtain⟨Ag,cg,eg⟩:=hpm.out.g.shape;obtain⟨At,ct,et⟩:=hpm.out.t.shape;obtain⟨Ah,ch,eh⟩:=aX hpm.out.h;obtain⟨Aa,ca,ea⟩:=hpm.out.a.shape;simp only at eg et eh ea;obtain⟨HEg,HEt,HEh,HEa⟩:=cU eg et eh ea;clear eg et eh ea;obtain⟨FD,hFD⟩:=bw (ed.used.find? fun u=> !iK ed.p u.1)
   have hend:endP (.ok ed)=UL ed FD:=by rw[ZM,hFD]
   have hp2:=Hp.out;rw[hR,hend]at hp2;have ae2:FD=(ed.used.drop 0).find? fun u=> !iK ed.p u.1:=hFD
   obtain⟨HP2,HFD,JR,HU,HC9⟩:=eB hp2 ae2 hxs hU UW;have PM0:=hpm;have FB0:=hfb;have BW0:=hbw;have hPl:=PM0.out.blk.lt;have PD:=FB0.out.lt;obtain⟨wo,rfl⟩:=bw (wr:World);clear hp2 hend hFD ae2 hR hxs hU MZ UW ae1 hres hrow hpm hfb hbw;go_wp2_with fail
   go_loopw [62] (fun v62 wr2=>∃k2:Nat,k2≤U∧v62=.int .i64 k2∧ag (aW wo wr2)∧ag (FD=(ed.used.drop k2).find? fun u=> !iK ed.p u.1)) (fun v62 _=>U-(intOf v62).toNat)
   case atStart=>exact⟨0,bj _,rfl,ae (aI _ _),HFD⟩
   case round=>
    obtain⟨k2,hk2,rfl,hb2,hfd⟩:=hrel;clear HFD;obtain⟨Nn,FBr,RRr,BWr⟩:=cU (PM0.out.blk.below hb2.out hPl) (FB0.out.below hb2.out PD) (PM0.out.rows.below hb2.out) (BW0.out.trans (hb2.out.mono BW0.out.size));by_cases hlt2:k2<U
    ·obtain⟨X,hX⟩:∃X,xs[k2]? =some X:=⟨_,af (by have:=congrArg List.length JR.out;rw[ay]at this;have:=HU.out;omega)⟩;have hXu:ed.used[k2]? =some X.1:=by rw[←JR.out,bO,hX];rfl
     obtain⟨g9,o9,rfl,xT⟩:=HC9.out aR;obtain⟨e0,e1,e2,e3,e4,e5,e6,e7,e8⟩:=Ko xs k2 X hX;have d0:=(hb2.out.cell (ak wo _ (xT _ _ e0))).trans (xT _ _ e0);have d1:=(hb2.out.cell (ak wo _ (xT _ _ e1))).trans (xT _ _ e1);have d2:=(hb2.out.cell (ak wo _ (xT _ _ e2))).trans (xT _ _ e2);have d3:=(hb2.out.cell (ak wo _ (xT _ _ e3))).trans (xT _ _ e3);have d4:=(hb2.out.cell (ak wo _ (xT _ _ e4))).trans (xT _ _ e4);have d5:=(hb2.out.cell (ak wo _ (xT _ _ e5))).trans (xT _ _ e5);have d6:=(hb2.out.cell (ak wo _ (xT _ _ e6))).trans (xT _ _ e6);have d7:=(hb2.out.cell (ak wo _ (xT _ _ e7))).trans (xT _ _ e7);have d8:=(hb2.out.cell (ak wo _ (xT _ _ e8))).trans (xT _ _ e8);rw[←jh]at d1 d2 d3 d4 d5 d6 d7 d8;obtain⟨⟨⟨sk,sn,⟨⟨s3,s4,s5⟩,s6⟩⟩,un,ui⟩,wd⟩:=X;simp only at d0 d1 d2 d3 d4 d5 d6 d7 d8 hXu;have acK:=hfd.out;rw[UM hXu]at acK;have ZT:=ae acK;clear acK hfd hX hXu e0 e1 e2 e3 e4 e5 e6 e7 e8 xT;go_upto_region 17 with fail
     have M7:=ae (aH.new wr 221 #[.int .u8 sk,.string sn,.bool s3,.int .u64 s4,.int .u64 s5,.int .u8 s6,.string wd,.int .i64 un,.int .i64 ui]);have q7:=boxed wr (.cells #[.int .u8 sk,.string sn,.bool s3,.int .u64 s4,.int .u64 s5,.int .u8 s6,.string wd,.int .i64 un,.int .i64 ui] 221);have agz:wo.heap.size≤wr.heap.size:=hb2.out.size;generalize wr.alloc (.cells #[.int .u8 sk,.string sn,.bool s3,.int .u64 s4,.int .u64 s5,.int .u8 s6,.string wd,.int .i64 un,.int .i64 ui] 221)=w7 at M7 q7⊢;obtain⟨PB7,UU,RR7⟩:=bz (Nn.out.below q7 Nn.out.lt) (FBr.out.below q7 FBr.out.lt) (RRr.out.below q7);have Ym:=bg BWr q7;have BO7:=bg hb2 q7;clear q7 Nn FBr RRr BWr hb2 d0 d1 d2 d3 d4 d5 d6 d7 d8;generalize wr.heap.size=M at M7 agz⊢;have hkn:=Qi (V:=⟨gv,tv,hv,av⟩) RR7.out.rd (by have:=PM0.out.gl;omega) (by have:=PM0.out.tl;omega) (by have:=PM0.out.hl;omega) ⟨sk,sn,⟨⟨s3,s4,s5⟩,s6⟩⟩;have x0:=PB7.out.cell 0;have x1:=PB7.out.cell 1;have x2:=PB7.out.cell 2;have x3:=PB7.out.cell 3;have m0:=M7.out.cell 0;have m1:=M7.out.cell 1;have m2:=M7.out.cell 2;have m3:=M7.out.cell 3;have m4:=M7.out.cell 4;have m5:=M7.out.cell 5;simp at x0 x1 x2 x3 m0 m1 m2 m3 m4 m5;simp only at hkn;by_cases hkk:iK ed.p ⟨sk,sn,⟨⟨s3,s4,s5⟩,s6⟩⟩=true
     ·rw[hkk]at hkn;have HKn:=ae hkn;have hR:=ZT.out;rw[if_pos hkk]at hR;have HR:=ae hR;clear hkn hR ZT hkk;go_wp2_with(go_at_call 163;refine HKn.out.mono ?_;rintro r w8⟨rfl,d8⟩)
      go_roundw
      case rel=>exact⟨k2+1,by omega,by go_num,(bg BO7 d8),HR⟩
      case measure=>simp[intOf];omega
     have hkf:iK ed.p ⟨sk,sn,⟨⟨s3,s4,s5⟩,s6⟩⟩=false:=by simpa using hkk
     rw[hkf]at hkn;have HKn:=ae hkn;have hR:=ZT.out;rw[if_neg hkk]at hR;have hp3:=HP2.out;rw[hR]at hp3;have gy:ag (jb s.data.toList=(Po.zero,(196,un,ui))):=ae hp3;clear hkn hR ZT hkk hkf hp3;go_upto_region 18 with(go_at_call 163;refine HKn.out.mono ?_;rintro r w8⟨rfl,d8⟩)
     have UX:=PB7.out.below d8 PB7.out.lt;have FB8:=UU.out.below d8 UU.out.lt;have M8:=M7.out.below d8 M7.out.lt;have BW8:=after Ym.out d8;clear x0 x1 x2 x3 m0 m1 m2 m3 m4 m5 M7 PB7 UU RR7 Ym BO7 d8 HKn;have n7:=M8.cell 7;have n8:=M8.cell 8;have x0:=UX.cell 0;have x1:=UX.cell 1;have x2:=UX.cell 2;have x3:=UX.cell 3;have z0:=UX.frozen 0;have z1:=UX.frozen 1;have z2:=UX.frozen 2;have z3:=UX.frozen 3;have hMP:M≠P:=M8.vO UX aJ;have hMF:M≠F:=M8.vO FB8 aJ;obtain⟨PB4,KP⟩:=acC au au au au UX;obtain⟨W4,UK⟩:=bw ((((w8.setCell ⟨P,0,none⟩ au).setCell ⟨P,1,none⟩ au).setCell ⟨P,2,none⟩ au).setCell ⟨P,3,none⟩ au);rw[←UK]at PB4 KP;have HW4:=ae UK;have EK:=FB8.keep KP (fun e=>ZO.out e.symm);have M4:=M8.keep KP hMP;have m7:=M4.cell 7;have m8:=M4.cell 8;have y0:=EK.cell 0;have y1:=EK.cell 1;have y2:=EK.cell 2;have u0:=EK.frozen 0;have u1:=EK.frozen 1;have u2:=EK.frozen 2;obtain⟨vI,KF⟩:=acD (.int .i64 196) (.int .i64 un) (.int .i64 ui) EK;obtain⟨W5,hW5⟩:=bw (((W4.setCell ⟨F,0,none⟩ (.int .i64 196)).setCell ⟨F,1,none⟩ (.int .i64 un)).setCell ⟨F,2,none⟩ (.int .i64 ui));rw[←hW5]at vI KF;obtain⟨Gh,HF5,IB⟩:=bz hW5 vI (PB4.keep KF ZO.out);have M5:=M4.keep KF hMF;have o7:=M5.cell 7;have o8:=M5.cell 8;have nZ:=ae (cw (cw BW8 KP (fun q hq=>by subst hq;exact Di)) KF (fun q hq=>by subst hq;exact hFF));simp at n7 n8 x0 x1 x2 x3 m7 m8 y0 y1 y2 o7 o8;clear UK hW5 vI PB4 KF KP M4 M5 EK UX FB8 M8 BW8;refine wp_region_held_drew (S:=(fun w'=>w'.cell? ⟨M,7,none⟩=some (.int .i64 un)∧w'.cell? ⟨M,8,none⟩=some (.int .i64 ui))) bo (⟨n7,n8⟩) (fun hHeld=>?_);refine pP 0 ?_ (hQ:=by exact fun _ _ _ h=>ig aJ aJ h);try simp only[ck]
     refine pP 1 ?_ (hQ:=by exact fun _ _ _ h=>ig aJ aJ h);try simp only[ck]
     refine pP 2 ?_ (hQ:=by exact fun _ _ _ h=>ig aJ aJ h);try simp only[ck]
     refine pP 3 ?_ (hQ:=by exact fun _ _ _ h=>ig aJ aJ h);try simp only[ck]
     refine pP 4 ?_ (hQ:=by exact fun _ _ _ h=>ig aJ aJ h);try simp only[ck]
     refine pP 5 ?_ (hQ:=by exact fun _ _ _ h=>ig aJ aJ h);try simp only[ck]
     refine pP 6 ?_ (hQ:=by exact fun _ _ _ h=>ig aJ aJ h);try simp only[ck]
     refine pP 7 ?_ (hQ:=by exact fun _ _ _ h=>ig aJ aJ h);try simp only[ck]
     refine fA 8 fun K hK=>?_;go_simp;rw[←HW4.out];refine hK.out _ _ (⟨m7,m8⟩) (fun hHeld=>?_);clear hK K;try simp only[ck]
     refine fA 9 fun K hK=>?_;go_simp;rw[←Gh.out];refine hK.out _ _ (⟨o7,o8⟩) (fun hHeld=>?_);clear hK K;try simp only[ck]
     refine lN ?_;go_wp2_with fail
     exact uS rfl rfl (Nh IB.out) (Ni HF5.out) (ei.bad gy.out ⟨nZ.out.os,nZ.out.tape,nZ.out.output,nZ.out.size,nZ.out.block⟩)
    ·obtain rfl:k2=U:=by omega
     have hF:FD=none:=by rw[hfd.out,nW (by have:=HU.out;omega)];rfl
     have hp3:=HP2.out;rw[hF]at hp3;have gy:=ae hp3;have eg:=HEg.out;have et:=HEt.out;have eh:=HEh.out;have ea:=HEa.out;generalize ed.p.groups.length=lg at eg;generalize ed.p.tags.length=lt at et;generalize ed.p.hosts.length=lh at eh;generalize ed.p.lP.length=la at ea;clear HEg HEt HEh HEa;subst eg et eh ea;have x0:=Nn.out.cell 0;have x1:=Nn.out.cell 1;have x2:=Nn.out.cell 2;have x3:=Nn.out.cell 3;have z0:=Nn.out.frozen 0;have z1:=Nn.out.frozen 1;have z2:=Nn.out.frozen 2;have z3:=Nn.out.frozen 3;obtain⟨PB4,KP⟩:=acC (.slice Ag lg cg) (.slice At lt ct) (.slice Ah lh ch) (.slice Aa la ca) Nn.out;obtain⟨W4,UK⟩:=bw ((((wr.setCell ⟨P,0,none⟩ (.slice Ag lg cg)).setCell ⟨P,1,none⟩ (.slice At lt ct)).setCell ⟨P,2,none⟩ (.slice Ah lh ch)).setCell ⟨P,3,none⟩ (.slice Aa la ca));rw[←UK]at PB4 KP;have EK:=FBr.out.keep KP (fun e=>ZO.out e.symm);have y0:=EK.cell 0;have y1:=EK.cell 1;have y2:=EK.cell 2;have u0:=EK.frozen 0;have u1:=EK.frozen 1;have u2:=EK.frozen 2;have OP:Off (fun x=>x=P) wr [166]:=fun q hq=>⟨_,_,_,by subst hq;exact Nn.out,by simp⟩
     have OF:Off (fun x=>x=F) W4 [168]:=fun q hq=>⟨_,_,_,by subst hq;exact EK,by simp⟩
     obtain⟨vI,KF⟩:=acD (.int .i64 0) (.int .i64 0) (.int .i64 0) EK;obtain⟨HF5,IB⟩:=aL vI (PB4.keep KF ZO.out);have HR5:=ae ((RRr.out.off KP OP aJ aJ aJ aJ aJ aJ aJ).off KF OF aJ aJ aJ aJ aJ aJ aJ).rd;have nZ:=ae (cw (cw BWr.out KP (fun q hq=>by subst hq;exact Di)) KF (fun q hq=>by subst hq;exact hFF));simp at x0 x1 x2 x3 y0 y1 y2;rw[UK]at HF5 IB HR5 nZ y0 y1 y2 u0 u1 u2;clear UK vI PB4 KF KP EK OP OF Nn FBr RRr BWr hb2 hfd hp3 hF c3;go_wp2_with fail
     exact uS rfl rfl (Nh IB.out) (Ni HF5.out) (ei.good (V:=⟨(.slice Ag lg cg),(.slice At lt ct),(.slice Ah lh ch),(.slice Aa la ca)⟩) gy.out HR5 nZ.out)
theorem parse_any{w:World}(env:Env w)(s:ByteArray)(hs:s.size≤2000000):Calls ah 126 #[.string s] w (ei s.data.toList w):=by
 by_cases hl:8192<s.size
 ·exact Kp s hs hl
 ·exact Gg env s hl
theorem nJ{s:ByteArray}(h:cQ s=true):s.size≤33:=by
 have e:s.size=s.data.toList.length:=by rw[fE];rfl
 unfold cQ at h;generalize s.data.toList=l at h e;cases l with
 |nil=>rw[e];decide
 |cons c r=>
  unfold oS at h;simp only[aU,decide_eq_true_eq]at h;simp only[bP]at e;omega
theorem UY(k:List UInt8):ia k≤6:=by
 unfold ia
 repeat' split
 all_goals decide
theorem Np{w:ByteArray}{s:kD}(h:mM w=some s):J7 s:=by
 have hz:Pf.zero.Ok:=⟨⟨by decide,by decide⟩,by decide⟩;cases MS h with
 |star h1 h2=>subst h2;exact⟨hz,by decide,by decide⟩
 |named k nm h0 h1 h2 h3 h4=>
  subst h4;have h5:cQ (iJ nm)=true:=h3;have:=nJ h5;exact⟨hz,Nat.lt_of_le_of_lt (UY k) aJ,aw this aJ⟩
 |net k t n h0 h1 h2 h3=>subst h3;exact⟨(oR h2).2.1,(by show(6:Nat)<256;decide),(by show(0:Nat)≤1900000;decide)⟩
theorem ad8.fit{p:Po}(ok:ad8 p)(hm:abZ p=true):aeX p:=by
 obtain⟨m1,m2,m3,m4,m5,m6,m7⟩:=YT hm;have hnm:∀l:List Nm,Am l=true→(∀n∈l,UI n)∧l.length≤64:=by
  intro l hl;unfold Am at hl;simp only[aU,decide_eq_true_eq]at hl;refine⟨fun n hn=>?_,hl.1.2⟩;have:=List.all_eq_true.1 hl.1.1 n hn;simp only[aU,decide_eq_true_eq]at this;exact⟨aw (nJ this.1.1.1) aJ,by omega,fun s hs=>aw (nJ (List.all_eq_true.1 this.2 s hs)) aJ⟩
 obtain⟨g1,g2⟩:=hnm _ m1;obtain⟨t1,t2⟩:=hnm _ m2;refine⟨g1,t1,fun x hx=>⟨aw (nJ (m5 x hx).1) aJ,ok.hosts x hx⟩,fun a ha=>?_,by omega,by omega,by omega,by omega⟩;have h:=m6 a ha;unfold Tj at h;simp only[aU,decide_eq_true_eq]at h;obtain⟨⟨⟨⟨⟨h1,h2⟩,h3⟩,h4⟩,h5⟩,h6⟩:=h;obtain⟨s1,s2,s3⟩:=xo h5;obtain⟨d1,d2,d3⟩:=xo h6;refine⟨fun s hs=>Np (s1 s hs).1,fun s hs=>Np (d1 s hs).1,aw (Dh _ h2 h3) aJ,by omega,by omega,by omega,fun x hx=>?_,ok.jO a ha⟩;have:=List.all_eq_true.1 h2 x hx;simp only[Bool.or_eq_true,decide_eq_true_eq]at this;omega
open Go.ChangeShapes Go.WideShapes Go.ChangeAt
theorem UZ{P:Program}{W:World}{name:String}{k:IntKind}{zs:List Int}{g:Nat}{t e:TypeId}{n:Nat}(hg:P.globalNamed name=some g)(hty:(P.globals[g]?).map (·.type)=some t)(ht:P.underlying t=some (.array n e))(he:P.underlying e=some (.int k))(hce:P.cellsOf e=1)(hct:P.cellsOf t=n)(h:Lib.VarReads P W name (Lib.tabData k zs)):Lib.TabIs P W name k zs:=by
 obtain⟨g',t',cs,fuel,p,hg',ht',hvar,hd⟩:=h;obtain rfl:=Option.some.inj (hg.symm.trans hg');obtain rfl:=Option.some.inj (hty.symm.trans ht');unfold Lib.TabIs;rw[hvar,←Lib.cells_of_tab ht he hce hct hd]
theorem Gi{P:Program}{W:World}{name nm:String}{d:DataW Unit}{g:Nat}{t:TypeId}{ms:Array (String×TypeId)}(hg:P.globalNamed name=some g)(hty:(P.globals[g]?).map (·.type)=some t)(ht:P.underlying t=some (.interface ms))(h:Lib.VarReads P W name (.iface nm d)):∃(tp:TypeId)(p:Value),W.cell? ⟨g,0,none⟩=some (.iface tp p):=by
 obtain⟨g',t',cs,fuel,p,hg',ht',hvar,hd⟩:=h;obtain rfl:=Option.some.inj (hg.symm.trans hg');obtain rfl:=Option.some.inj (hty.symm.trans ht');have hc:=World.var?_cell hg hvar 0;obtain⟨l⟩:=cs;cases fuel with
 |zero=>simp[DataW.trod]at hd
 |succ fuel=>
  cases l with
  |nil=>simp[DataW.trod,ht]at hd
  |cons x r=>
   cases r with
   |cons y r=>simp[DataW.trod,ht]at hd
   |nil=>
    cases x
    case iface tp q=>exact⟨tp,q,by simpa using hc⟩
    all_goals simp[DataW.trod,ht]at hd
variable{H:Type}{enc:TypeId×Value→H}
def rY:List (String×DataW Unit):=Rows.netmapDiffsRow.laid
theorem acL{W:World}(hL:laidMetH ah rY W)(hsh:W.ShapedOpen ah):Env W:=by
 rw[MakeChecks.laidMetH_plain _ _ _ bo]at hL;refine⟨?_,?_,?_,?_,?_⟩
 ·exact Go.Proofs.cell_of_shapedOpen_int (zero:= #[.int .i64 0]) (t:=3) hsh (of_decide_eq_true bo) bo rfl bo bo Tryz.underlying3
 ·have h:Lib.VarReads ah W "internal/strconv.uint64pow10" (Lib.tabData .u64 Lib.pow10Tab):=Lib.laidMet.reads hL (.tail _ (.tail _ (.head _)));exact UZ (g:=1) (t:=326) (e:=22) (n:=20) bo bo bo bo bo bo h
 ·have h:Lib.VarReads ah W "math/bits.deBruijn64tab" (Lib.tabData .u8 [0,1,56,2,57,49,28,3,61,58,42,50,38,29,17,4,62,47,59,36,45,43,51,22,53,39,33,30,24,18,12,5,63,55,48,27,60,41,37,16,46,35,44,21,52,32,23,11,54,26,40,15,34,20,31,10,25,14,19,9,13,8,7,6]):=Lib.laidMet.reads hL (.tail _ (.head _));exact(UZ (g:=6) (t:=237) (e:=5) (n:=64) bo bo bo bo bo bo h).cell bo 15 (by decide)
 ·exact Gi (g:=7) (t:=123) bo bo Tryz.underlying123 (Lib.laidMet.reads hL (.tail _ (.tail _ (.tail _ (.tail _ (.tail _ (.head _)))))))
 ·exact Gi (g:=8) (t:=123) bo bo Tryz.underlying123 (Lib.laidMet.reads hL (.tail _ (.tail _ (.tail _ (.tail _ (.head _))))))
theorem own:ownKnob ah.godebug=none:=by kernel_rfl
open Go.Deep
theorem ZU{α:Type}{n:Nat}{P:Nat→α→Prop}(h:∀i,i<n→∃x,P i x):∃l:List α,l.length=n∧∀i x,l[i]? =some x→P i x:=by
 induction n with
 |zero=>exact⟨[],rfl,fun i x hx=>by simp at hx⟩
 |succ n ih=>
  obtain⟨l,hl,hp⟩:=ih fun i hi=>h i (by omega)
  obtain⟨x,hx⟩:=h n aR;refine⟨l++[x],by simp[hl],fun i y hy=>?_⟩;by_cases hi:i<n
  ·rw[List.getElem?_append_left aR]at hy;exact hp i y hy
  ·have h2:=(List.getElem?_eq_some_iff.1 hy).1;simp at h2;obtain rfl:i=n:=by omega
   rw[List.getElem?_append_right aR,hl,Nat.sub_self]at hy;simp at hy;subst hy;exact hx
theorem Nq{α:Type}(cells:α→List Value)(size:Nat)(hc:∀x,(cells x).length=size):∀l:List α,(l.flatMap cells).length=l.length*size:=by
 intro l
 induction l with
 |nil=>simp
 |cons x r ih=>rw[abj,aj,ih,hc,bP,Nat.add_mul,Nat.one_mul,Nat.add_comm]
theorem acM{α:Type}(cells:α→List Value)(size:Nat)(hc:∀x,(cells x).length=size):∀(l:List α)(j:Nat)(u:Value),(l.flatMap cells)[j]? =some u→∃i x r,l[i]? =some x∧(cells x)[r]? =some u∧j=i*size+r:=by
 intro l
 induction l with
 |nil=>intro j u h;simp at h
 |cons x r ih=>
  intro j u h;rw[abj]at h;by_cases hj:j<size
  ·rw[List.getElem?_append_left (by rw[hc];exact hj)]at h;exact⟨0,x,j,rfl,h,by omega⟩
  ·rw[List.getElem?_append_right (by rw[hc];omega),hc]at h;obtain⟨i,y,k,h1,h2,h3⟩:=ih _ _ h;exact⟨i+1,y,k,by simpa using h1,h2,by rw[Nat.add_mul];omega⟩
section
variable{H:Type}
theorem U0(d:DataW H):1≤Rows.uptoBulk d:=by
 cases d with
 |lit l=>cases l<;>simp[Rows.uptoBulk]
 |_=>simp[Rows.uptoBulk]
theorem Gj{d:DataW H}:∀{l:List (DataW H)},d∈l→Rows.uptoBulk d≤Rows.uptoBulkAll l:=by
 intro l
 induction l with
 |nil=>intro h;cases h
 |cons x r ih=>
  intro h;rw[Rows.uptoBulkAll];rcases List.mem_cons.1 h with e|e
  ·subst e;omega
  ·have:=ih e;omega
theorem U1:∀l:List (DataW H),l.length≤Rows.uptoBulkAll l:=by
 intro l
 induction l with
 |nil=>exact bj _
 |cons x r ih=>rw[Rows.uptoBulkAll,bP];have:=U0 x;omega
theorem lq{xs:List (DataW H×List MemPlace)}{i:Nat}{y:DataW H×List MemPlace}(h:xs[i]? =some y):Rows.uptoBulk y.1≤Rows.uptoBulk (.agg (xs.map (·.1))):=by
 rw[Rows.uptoBulk];have:=Gj (d:=y.1) (l:=xs.map (·.1)) (List.mem_map.2 ⟨y,iD h,rfl⟩);omega
end
section
variable{H:Type}{enc:TypeId×Value→H}{w:World}{base:Nat}{sp:Nat→Bool}{held:Bool}
theorem open_row{t e:TypeId}{fuel:Nat}{cs:List Value}{x:DataW H×List MemPlace}(ht:ah.underlying t=some (.slice e)){α:Type}(size:Nat)(hsz:0<size)(hc:ah.cellsOf e=size)(cells:α→List Value)(hcl:∀x,(cells x).length=size)(Q:DataW H→α→Prop)(hel:∀n cs y,DataW.trod enc ah w base sp held n e cs=some y→∃x,cs=cells x∧Q y.1 x)(h:DataW.trod enc ah w base sp held fuel t cs=some x):∃(l:List α)(v:Value),cs=[v]∧a8 w v l.length size (l.flatMap cells)∧(∀y∈l,∃D,Q D y∧Rows.uptoBulk D≤Rows.uptoBulk x.1)∧l.length≤Rows.uptoBulk x.1∧∀A n c,v=.slice A n c→n≤c:=by
 rcases open_slice ht h with⟨rfl,rfl⟩|⟨a,len,cap,m,n,D,Pl,rfl,hb,hl,hm,hmm,rfl,hi⟩
 ·exact⟨[],_,rfl,a8.empty _ _,fun y hy=>(by cases hy),bj _,fun A n c e=>by injection e with _ e1 e2;omega⟩
 ·have hlm:len≤m:=by rw[hmm];split<;>omega
  obtain⟨l,hl1,hl2⟩:=ZU (n:=len) (P:=fun i x=>w.cells? base (a.add (i*size)) size=some (cells x)∧Q (D i) x) (fun i hil=>by
   obtain⟨cs',h1,h2⟩:=hi i aR;obtain⟨x,rfl,hq⟩:=hel _ _ _ h2;rw[hc]at h1;exact⟨x,h1,hq⟩)
  have hbl:Rows.uptoBulkAll ((aF len).map D)+1≤Rows.uptoBulk (DataW.slice ((aF len).map D) ((aF (m-len)).map fun j=>D (len+j))):=by rw[Rows.uptoBulk];omega
  refine⟨l,_,rfl,⟨some a,cap,by rw[hl1],Nq cells size hcl l,fun hpos=>?_⟩,fun y hy=>?_,?_,fun A n c e=>by injection e with _ e1 e2;omega⟩
  ·have hcell:∀j u,(l.flatMap cells)[j]? =some u→w.cell? (a.add j)=some u:=by
    intro j u hu;obtain⟨i,x,r,h1,h2,rfl⟩:=acM cells size hcl l j u hu;have hr:r<size:=by have:=(List.getElem?_eq_some_iff.1 h2).1;rw[hcl]at this;exact this
    have h3:=(World.cells?_some (hl2 i x h1).1).2.2 r hr;rw[add_add]at h3;rw[h3,h2]
   obtain⟨g,o,spot⟩:=a;have h0:∃u,(l.flatMap cells)[0]? =some u:=by
    have:0<(l.flatMap cells).length:=by rw[Nq cells size hcl];exact Nat.mul_pos hpos hsz
    exact⟨_,af this⟩
   obtain⟨u,hu⟩:=h0;have hspot:spot=none:=by simpa[Addr.add]using World.cell?_spot (hcell 0 u hu)
   subst hspot;refine⟨g,o,rfl,fun j u hu=>?_⟩;have:=hcell j u hu;rw[addr_add]at this;exact this
  ·obtain⟨i,hiy⟩:=List.mem_iff_getElem?.1 hy;have hil:i<len:=by have:=(List.getElem?_eq_some_iff.1 hiy).1;omega
   refine⟨D i,(hl2 i y hiy).2,?_⟩;have:=Gj (d:=D i) (l:=(aF len).map D) (List.mem_map.2 ⟨i,List.mem_range.2 hil,rfl⟩);exact aw this (by simp only at hbl⊢;omega)
  ·have:=U1 ((aF len).map D);rw[ay,List.length_range]at this;simp only at hbl⊢;omega
end
theorem d4:ah.cellsOf 4=1:=by kernel_rfl
theorem d5:ah.cellsOf 5=1:=by kernel_rfl
theorem d6:ah.cellsOf 53=1:=by kernel_rfl
theorem d9:ah.cellsOf 9=1:=by kernel_rfl
theorem d10:ah.cellsOf 22=1:=by kernel_rfl
theorem d11:ah.cellsOf 52=3:=by kernel_rfl
theorem d12:ah.cellsOf 215=4:=by kernel_rfl
theorem d13:ah.cellsOf 277=2:=by kernel_rfl
theorem jM:ah.cellsOf 279=5:=by kernel_rfl
theorem mG:ah.cellsOf 217=6:=by kernel_rfl
theorem jV:ah.cellsOf 290=2:=by kernel_rfl
theorem nk:ah.cellsOf 285=4:=by kernel_rfl
theorem d19:ah.cellsOf 29=1:=by kernel_rfl
theorem lR:ah.cellsOf 71=1:=by kernel_rfl
theorem oI:ah.cellsOf 282=1:=by kernel_rfl
theorem oJ:ah.cellsOf 283=1:=by kernel_rfl
theorem tc:ah.cellsOf 162=1:=by kernel_rfl
theorem AK:ah.cellsOf 163=1:=by kernel_rfl
theorem AN:ah.cellsOf 164=1:=by kernel_rfl
theorem Gk{k:IntKind}{z:Int}{b:Nat}(h:(Lit.int k z).wf=true)(hk:k.min=0∧k.max=(b:Int)):∃n:Nat,z=(n:Int)∧n≤b:=by
 have hx:k.min≤z∧z≤k.max:=by simpa[Lit.wf]using h
 rw[hk.1,hk.2]at hx;exact⟨z.toNat,by omega,by omega⟩
section
variable{H:Type}{enc:TypeId×Value→H}{w:World}{base:Nat}{sp:Nat→Bool}{held:Bool}
theorem tN:∀n cs y,DataW.trod enc ah w base sp held n 9 cs=some y→∃x:ByteArray,cs=[.string x]∧x.size<Rows.uptoBulk y.1:=by
 intro n cs y h;obtain⟨s,rfl,rfl,_⟩:=DataW.trod_string bq h;exact⟨s,rfl,by rw[Rows.uptoBulk];show s.data.size<s.data.toList.length+1;rw[fE];omega⟩
theorem abv:∀n cs y,DataW.trod enc ah w base sp held n 5 cs=some y→∃x:Nat,cs=[.int .u8 x]∧x<256:=by
 intro n cs y h;obtain⟨z,rfl,_,hw⟩:=DataW.trod_int Tryz.underlying5 h;obtain⟨m,rfl,hm⟩:=Gk (b:=255) hw ⟨by decide,by decide⟩;exact⟨m,rfl,by omega⟩
theorem abw{n:Nat}{cs:List Value}{y:DataW H×List MemPlace}(h:DataW.trod enc ah w base sp held n 52 cs=some y):∃a:Ad,a.Ok∧cs=a.cells.toList:=by
 obtain⟨xs,n,_,rfl,hl,hlen,hf⟩:=DataW.trod_struct Tryz.underlying52 h;rw[d11]at hl
 match cs,hl with
 |[v0,v1,v2],_=>
  have h0:=hf 0 _ rfl;have h1:=hf 1 _ rfl;have h2:=hf 2 _ rfl;rw[af (show 0<xs.length by rw[hlen];decide)]at h0;rw[af (show 1<xs.length by rw[hlen];decide)]at h1;rw[af (show 2<xs.length by rw[hlen];decide)]at h2;obtain⟨b,e0,_⟩:=DataW.trod_bool zc h0;obtain⟨z1,e1,_,w1⟩:=DataW.trod_int ahW h1;obtain⟨z2,e2,_,w2⟩:=DataW.trod_int ahW h2;simp[d4,d10]at e0 e1 e2;subst e0 e1 e2;obtain⟨n1,rfl,k1⟩:=Gk (b:=18446744073709551615) w1 ⟨by decide,by decide⟩;obtain⟨n2,rfl,k2⟩:=Gk (b:=18446744073709551615) w2 ⟨by decide,by decide⟩;exact⟨⟨b,n1,n2⟩,⟨by show n1<_;omega,by show n2<_;omega⟩,rfl⟩
theorem U2(l:List ByteArray):l.flatMap (fun x=>[bN x])=strCells l:=by
 unfold strCells
 induction l with
 |nil=>rfl
 |cons x r ih=>rw[abj,ih];rfl
end
theorem laidOut:laidOutB ah=true:=by kernel_rfl
def Yn(p:Nat→Bool)(n:Nat)(z:Int):Prop:=(∃k:Nat,k<n∧z=(k:Int)∧p k=true∧∀j,j<k→p j=false)∨(z= -1∧∀j,j<n→p j=false)
theorem Yn.any{p:Nat→Bool}{n:Nat}{z:Int}(h:Yn p n z):decide (0≤z)=(aF n).any p:=by
 rcases h with⟨k,hk,rfl,hp,_⟩|⟨rfl,hp⟩
 ·rw[decide_eq_true aR];exact(List.any_eq_true.2 ⟨k,List.mem_range.2 hk,hp⟩).symm
 ·rw[decide_eq_false aR]
  symm
  rw[List.any_eq_false];intro j hj;rw[hp j (List.mem_range.1 hj)];decide
def dO(w:World)(A:Option Addr)(n K:Nat)(cs:Nat→List Value):Prop:=∀k,k<n→(cs k).length=K∧∃g o,A=some ⟨g,o,none⟩∧∀j u,(cs k)[j]? =some u→w.cell? ⟨g,o+k*K+j,none⟩=some u
theorem a8.iZ{w:World}{A:Option Addr}{n cap K:Nat}{xs:List Value}(h:a8 w (.slice A n cap) n K xs):dO w A n K fun k=>(xs.drop (k*K)).take K:=by
 obtain⟨A',cap',e,hl,hc⟩:=h;injection e with e1 _ e2
 subst e1 e2;intro k hk;have hb:k*K+K≤n*K:=by
  have:=Nat.mul_le_mul_right K (show k+1≤n from hk);rw[Nat.succ_mul]at this;exact this
 refine⟨by rw[List.length_take,List.length_drop,hl];omega,?_⟩;obtain⟨g,o,ha,hcc⟩:=hc aR;refine⟨g,o,ha,fun j u hu=>?_⟩;rw[jh];refine hcc _ u ?_;rw[ah1]at hu;split at hu
 ·rw[List.getElem?_drop]at hu;exact hu
 ·cases hu
theorem Gl{w:World}{A:Option Addr}{N cap:Nat}(hN:N≤4000000)(cs:Nat→List Value)(p:Nat→Bool)(hc:dO w A N 8 cs)(f:Nat)(lb:Array Value)(eg:∀args w,(callFunc f args).run ah w=.ok (.enter f args) w)(hf:∀k,k<N→∀W,aW w W→Calls ah f (#[.agg (cs k).toArray]++lb) W (Got (.bool (p k)) W)):Calls ah 71 #[.slice A N cap,.func (.func f) #[] lb] w fun r w'=>(∃z:Int,r=.returned (.int .i64 z)∧Yn p N z)∧aW w w':=by
 obtain⟨HC,HF⟩:=aL hc hf;clear hc hf;go_enter Tryz.func71,Tryz.ntmps71;go_wp2_with fail
 go_loopw [8] (fun v8 wr=>∃k:Nat,k≤N∧v8=.int .i64 k∧ag (aW w wr)∧ag (∀j,j<k→p j=false)) (fun v8 _=>N-(intOf v8).toNat)
 case atStart=>exact⟨0,bj _,rfl,ae (aI _ _),ae (fun j hj=>absurd hj (Nat.not_lt_zero j))⟩
 case round=>
  obtain⟨k,hk,rfl,hb,hno⟩:=hrel;by_cases hlt:k<N
  ·obtain⟨hlen,q,o,rfl,hcell⟩:=HC.out k hlt;have hcall:=HF.out k hlt wr hb.out;generalize hcs:cs k=L at hlen hcell hcall;clear hcs;obtain⟨c0,c1,c2,c3,c4,c5,c6,c7,hL⟩:∃c0 c1 c2 c3 c4 c5 c6 c7,L=[c0,c1,c2,c3,c4,c5,c6,c7]:=by
    match L,hlen with
    |[c0,c1,c2,c3,c4,c5,c6,c7],_=>exact⟨c0,c1,c2,c3,c4,c5,c6,c7,rfl⟩
   subst hL;have d0:=(hb.out.cell (ak w _ (hcell 0 _ rfl))).trans (hcell 0 _ rfl);have d1:=(hb.out.cell (ak w _ (hcell 1 _ rfl))).trans (hcell 1 _ rfl);have d2:=(hb.out.cell (ak w _ (hcell 2 _ rfl))).trans (hcell 2 _ rfl);have d3:=(hb.out.cell (ak w _ (hcell 3 _ rfl))).trans (hcell 3 _ rfl);have d4:=(hb.out.cell (ak w _ (hcell 4 _ rfl))).trans (hcell 4 _ rfl);have d5:=(hb.out.cell (ak w _ (hcell 5 _ rfl))).trans (hcell 5 _ rfl);have d6:=(hb.out.cell (ak w _ (hcell 6 _ rfl))).trans (hcell 6 _ rfl);have d7:=(hb.out.cell (ak w _ (hcell 7 _ rfl))).trans (hcell 7 _ rfl);rw[Nat.add_zero]at d0;have bG:=ae hcall;clear hcall hcell hlen;cases hp:p k with
   |true=>
    rw[hp]at bG;have HP:=ae hp;clear hp;go_wp2_with(go_at_fn f;(with_reducible refine bG.out.mono ?_);rintro r w2⟨rfl,e2⟩)
    go_ret;exact⟨⟨_,rfl,.inl ⟨k,hlt,rfl,HP.out,hno.out⟩⟩,after hb.out e2⟩
   |false=>
    rw[hp]at bG;have HP:=ae hp;clear hp;go_wp2_with(go_at_fn f;(with_reducible refine bG.out.mono ?_);rintro r w2⟨rfl,e2⟩)
    go_roundw
    case rel=>
     refine⟨k+1,by omega,by go_num,(bg hb e2),ae (fun j hj=>?_)⟩;by_cases e:j=k
     ·rw[e];exact HP.out
     ·exact hno.out j (by omega)
    case measure=>simp[intOf];omega
  ·obtain rfl:k=N:=by omega
   go_wp2_with fail
   go_ret;exact⟨⟨_,rfl,.inr ⟨rfl,hno.out⟩⟩,hb.out⟩
theorem U3{w:World}{A:Option Addr}{N cap:Nat}(hN:N≤4000000)(cs:Nat→List Value)(p:Nat→Bool)(hc:dO w A N 8 cs)(f:Nat)(lb:Array Value)(eg:∀args w,(callFunc f args).run ah w=.ok (.enter f args) w)(hf:∀k,k<N→∀W,aW w W→Calls ah f (#[.agg (cs k).toArray]++lb) W (Got (.bool (p k)) W)):Calls ah 145 #[.slice A N cap,.func (.func f) #[] lb] w (Got (.bool ((aF N).any p)) w):=by
 have HI:=ae (Gl (cap:=cap) hN cs p hc f lb eg hf);clear hc hf;generalize hR:(aF N).any p=R;have HR:=ae hR;clear hR;go_enter Tryz.func145,Tryz.ntmps145;go_wp2_with(go_at_call 71;refine HI.out.mono ?_;rintro r w2⟨⟨z,rfl,hz⟩,e2⟩)
 go_ret;exact⟨by rw[←HR.out,←hz.any];rfl,e2⟩
theorem eqS(x y:ByteArray):(x.toList==y.toList)=decide (y=x):=by
 rw[gW,beq_iff_eq,decide_eq_true_eq];constructor
 ·intro h;exact(acB h).symm
 ·rintro rfl;rfl
theorem U4{w:World}(l:List ByteArray){v:Value}(hl:l.length≤4000000)(hr:a8 w v l.length 1 (strCells l))(x:ByteArray):Calls ah 109 #[v,(bN x)] w fun r w'=>(∃z:Int,r=.returned (.int .i64 z)∧decide (0≤z)=l.any fun y=>decide (y=x))∧aW w w':=by
 obtain⟨A,cap,rfl,hlen,hA⟩:=hr;obtain⟨N,hN⟩:=bw l.length;obtain⟨R,hR⟩:=bw (l.any fun y=>decide (y=x))
 rw[←hN]at hA hl⊢;rw[←hR];obtain⟨HA,HN,HR⟩:=bz hA hN hR;clear hA hN hlen hR;go_enter Tryz.func109,Tryz.ntmps109;go_wp2_with fail
 go_loopw [8] (fun v8 wr=>∃k:Nat,k≤N∧v8=.int .i64 k∧ag (aW w wr)∧ag (((l.take k).any fun y=>decide (y=x))=false)) (fun v8 _=>N-(intOf v8).toNat)
 case atStart=>exact⟨0,bj _,rfl,ae (aI _ _),ae rfl⟩
 case round=>
  obtain⟨k,hk,rfl,hb,hno⟩:=hrel;by_cases hlt:k<N
  ·have hkl:k<l.length:=by have:=HN.out;omega
   obtain⟨q,o,rfl,hc⟩:=HA.out aR;have htk:=aC hkl;have hx:l[k]? =some l[k]:=af hkl;have c0:=hc _ _ (F7 hx);generalize l[k]=X at htk c0;have d0:=(hb.out.cell (ak w _ c0)).trans c0;have hq:(x.toList==X.toList)=decide (X=x):=eqS x X;clear c0 hx hc;cases hD:decide (X=x)with
   |true=>
    rw[hD]at hq;have hres:R=true:=by
     rw[HR.out];have:(l.take (k+1)).any (fun y=>decide (y=x))=true:=by rw[htk,List.any_append];simp[hD]
     obtain⟨y,hy,hys⟩:=List.any_eq_true.1 this;exact List.any_eq_true.2 ⟨y,ah8 hy,hys⟩
    have ej:=ae hres;clear hres htk hD;go_wp2_with fail
    go_ret;exact⟨⟨_,rfl,by rw[ej.out];exact decide_eq_true aR⟩,hb.out⟩
   |false=>
    rw[hD]at hq;have Jm:ag (((l.take (k+1)).any fun y=>decide (y=x))=false):=ae (by rw[htk,List.any_append,hno.out];simp[hD]);clear htk hD;go_wp2_with fail
    go_roundw
    case rel=>exact⟨k+1,by omega,by go_num,hb,Jm⟩
    case measure=>simp[intOf];omega
  ·obtain rfl:k=N:=by omega
   have hres:R=false:=by
    have:=hno.out;rw[aN (by have:=HN.out;omega)]at this;rw[HR.out];exact this
   have ej:=ae hres;clear hres;go_wp2_with fail
   go_ret;exact⟨⟨_,rfl,by rw[ej.out];rfl⟩,hb.out⟩
theorem ZV{w:World}(l:List ByteArray){v:Value}(hl:l.length≤4000000)(hr:a8 w v l.length 1 (strCells l))(x:ByteArray):Calls ah 59 #[v,(bN x)] w (Got (.bool (l.any fun y=>decide (y=x))) w):=by
 have HI:=ae (U4 l hl hr x);obtain⟨A,cap,rfl,_,_⟩:=hr;generalize(l.any fun y=>decide (y=x))=R at HI⊢;generalize l.length=N at HI⊢;go_enter Tryz.func59,Tryz.ntmps59;go_wp2_with(go_at_call 109;refine HI.out.mono ?_;rintro r w2⟨⟨z,rfl,hz⟩,e2⟩)
 go_ret;exact⟨by rw[←hz];rfl,e2⟩
structure Pe where
 user:ByteArray
 tags:List ByteArray
 aQ:List Ad
structure Fw where
 proto:Nat
 src:Ad
 dst:Ad
 sent:Nat
 ae3:Nat
def ae4(p:Po)(s:ByteArray):Option Nm:=p.groups.find? fun n=>decide (n.name=s)
def ae5(p:Po)(s:ByteArray):Option Hs:=p.hosts.find? fun h=>decide (h.name=s)
def U5(p:Po)(s:kD)(x:Pe):Bool:=if s.kind=2 then decide (x.user=s.name)
 else if s.kind=4 then x.tags.any fun t=>decide (t=s.name)
 else if s.kind=3 then match ae4 p s.name with
  |some n=>n.list.any fun t=>decide (t=x.user)
  |none=>false
 else false
def fe(p:Po)(l:List Pe)(s:kD)(a:Ad):Bool:=a.may&&(if s.kind=1 then true
 else if s.kind=5 then match ae5 p s.name with
  |some h=>Tf h.net a
  |none=>false
 else if s.kind=6 then Tf s.net a
 else l.any fun x=>U5 p s x&&x.aQ.any fun b=>decide (b=a))
def Ad.key(a:Ad):Nat:=(if a.v6 then 2^128 else 0)+(a.hi*2^64+a.lo)
abbrev Sp:=Ad×Ad
def Sp.Ok(s:Sp):Prop:=s.1.Ok∧s.2.Ok
def xU(s:Sp):Bool:=s.1.may&&s.2.may&&(s.1.v6==s.2.v6)&& !xj s.2 s.1
def Sp.cells(s:Sp):Array Value:= #[.bool s.1.v6,.int .u64 (s.1.hi:Int),.int .u64 (s.1.lo:Int),.bool s.2.v6,.int .u64 (s.2.hi:Int),.int .u64 (s.2.lo:Int)]
def dy(l:List Ad):List Value:=l.flatMap fun a=>a.cells.toList
structure ZW where
 x:Pe
 key:ByteArray
 bu:ByteArray
 tg:Value
 ad:Value
 exp:Nat
 bm:Nat
 en:Value
def ZW.cells(X:ZW):Array Value:= #[.string X.key,.string X.bu,.string X.x.user,X.tg,X.ad,.int .u64 (X.exp:Int),.int .u8 (X.bm:Int),X.en]
structure AO(w:World)(X:ZW):Prop where
 tags:a8 w X.tg X.x.tags.length 1 (strCells X.x.tags)
 aQ:a8 w X.ad X.x.aQ.length 3 (dy X.x.aQ)
 ends:∃A n c,X.en=.slice A n c
 tl:X.x.tags.length≤4000000
 al:X.x.aQ.length≤4000000
theorem AO.below{w w':World}{X:ZW}(h:AO w X)(hb:aW w w'):AO w' X:=⟨h.tags.below hb,h.aQ.below hb,h.ends,h.tl,h.al⟩
theorem copied{w:World}{V:vY}{p:Po}(h:vH w V p):∃(Ag At Ah Aa:Option Addr)(cg ct ch ca:Nat),V=⟨.slice Ag p.groups.length cg,.slice At p.tags.length ct,.slice Ah p.hosts.length ch,.slice Aa p.lP.length ca⟩:=by
 obtain⟨gv,tv,hv,av⟩:=V;obtain⟨Ag,cg,eg⟩:=h.g.shape;obtain⟨At,ct,et⟩:=h.t.shape;obtain⟨Ah,ch,eh⟩:=h.h.shape;obtain⟨Aa,ca,ea⟩:=h.a.shape;simp only at eg et eh ea;subst eg et eh ea;exact⟨Ag,At,Ah,Aa,cg,ct,ch,ca,rfl⟩
theorem ai{w u:World}{a:Addr}{v:Value}(h:w.cell? a=some v)(hb:Below w.heap.size w u):u.cell? a=some v:=(hb.cell (ak w _ h)).trans h
theorem Below.qJ{n:Nat}{w u:World}(h:Below n w u):Below n w u.drew:=⟨h.os,h.tape,h.output,h.size,h.block⟩
theorem Below.fL{w u:World}(h:Below w.drew.heap.size w.drew u):Below w.heap.size w u:=⟨h.os,h.tape,h.output,h.size,h.block⟩
def Dk(w:World)(p:Po)(s:kD)(v:Value):Prop:=∃(f:Nat)(lb:Array Value),v=.func (.func f) #[] lb∧(∀args w,(callFunc f args).run ah w=.ok (.enter f args) w)∧∀W,Below w.heap.size w W→∀X:ZW,AO W X→Calls ah f (#[.agg X.cells]++lb) W (Got (.bool (U5 p s X.x)) W)
theorem Dk.below{w u:World}{p:Po}{s:kD}{v:Value}(h:Dk w p s v)(hb:Below w.heap.size w u):Dk u p s v:=by
 obtain⟨f,lb,e,eg,hc⟩:=h;exact⟨f,lb,e,eg,fun W hW=>hc W (after hb hW)⟩
theorem _root_.Go.RowKit.Below.gK{n:Nat}{w u:World}(h:Below n w u)(k:Nat):Below n w (u.drewN k):=⟨h.os,h.tape,h.output,h.size,h.block⟩
theorem dU{α:Type}(cells:α→List Value)(size:Nat)(hc:∀x,(cells x).length=size):∀(l:List α)(k:Nat)(x:α),l[k]? =some x→((l.flatMap cells).drop (k*size)).take size=cells x:=by
 intro l
 induction l with
 |nil=>intro k x h;cases h
 |cons y r ih=>
  intro k x h;cases k with
  |zero=>
   injection h with h
   subst h;rw[Nat.zero_mul,List.drop_zero,abj,List.take_append_of_le_length (by rw[hc];exact ax _),aN (by rw[hc];exact ax _)]
  |succ k=>
   rw[Nat.succ_mul,Nat.add_comm,←List.drop_drop,abj]
   conv=>lhs;arg 2;arg 2;rw[List.drop_append_of_le_length (by rw[hc];exact ax _),List.drop_of_length_le (by rw[hc];exact ax _),lK]
   exact ih k x h
theorem aD{α:Type}(cells:α→List Value)(size:Nat)(hc:∀x,(cells x).length=size){l:List α}{k:Nat}{x:α}(h:l[k]? =some x){r:Nat}{u:Value}(hu:(cells x)[r]? =some u):(l.flatMap cells)[k*size+r]? =some u:=by
 have hr:r<size:=by rw[←hc x];exact(List.getElem?_eq_some_iff.1 hu).1
 rw[←dU cells size hc l k x h,ah1,if_pos hr,List.getElem?_drop]at hu;exact hu
theorem Qs{α:Type}(l:List α)(q:α→Bool):((aF l.length).any fun k=>match l[k]? with|some x=>q x|none=>false)=l.any q:=by
 rw[gW,List.any_eq_true,List.any_eq_true];constructor
 ·rintro⟨k,_,h⟩;cases hx:l[k]? with
  |none=>simp[hx]at h
  |some x=>simp only[hx]at h;exact⟨x,iD hx,h⟩
 ·rintro⟨x,hx,h⟩;obtain⟨k,hk⟩:=List.getElem?_of_mem hx;exact⟨k,List.mem_range.2 (List.getElem?_eq_some_iff.1 hk).1,by simp only[hk];exact h⟩
theorem wk(u v p q:Nat)(r s:Bool)(d:Nat)(w:World):(Op.equalIn (d+3) 52 (.agg #[.bool r,.int .u64 u,.int .u64 v]) (.agg #[.bool s,.int .u64 p,.int .u64 q])).run ah w=.ok (r==s&&(u==p&&v==q)) w:=by
 have h32:ah.stoodInHeld 52=false:=by kernel_rfl
 rw[run_equalIn_struct w (d+2) 52 _ _ bo h32];simp[go_sem,Tryz.underlying52,zc,ahW,part,Op.equalIn];by_cases h1:r=s
 ·by_cases h2:u=p
  ·by_cases h3:v=q
   ·subst h1 h2 h3;simp
   ·have h4:¬(v:Int)=(q:Int):=by omega
    subst h1 h2;simp[h3,h4]
  ·have h4:¬(u:Int)=(p:Int):=by omega
   subst h1;simp[h2,h4]
 ·simp[h1]
theorem ae6(x y:Ad)(w:World):(binOp .eql 52 (.agg #[.bool x.v6,.int .u64 (x.hi:Int),.int .u64 (x.lo:Int)]) (.agg #[.bool y.v6,.int .u64 (y.hi:Int),.int .u64 (y.lo:Int)])).run ah w=.ok (.bool (decide (y=x))) w:=by
 have e:(x.v6==y.v6&&(x.hi==y.hi&&x.lo==y.lo))=decide (y=x):=by
  obtain⟨a,b,c⟩:=x;obtain⟨d,e,f⟩:=y;rw[gW];simp only[aU,beq_iff_eq,decide_eq_true_eq,Ad.mk.injEq];constructor
  ·rintro⟨rfl,rfl,rfl⟩;exact⟨rfl,rfl,rfl⟩
  ·rintro⟨rfl,rfl,rfl⟩;exact⟨rfl,rfl,rfl⟩
 simp only[binOp];simp[Op.equal,Op.maxDepth,wk x.hi x.lo y.hi y.lo x.v6 y.v6 9997,e]
theorem Kr(a:Ad):a.cells.toList.length=3:=rfl
theorem Ks{l:List Ad}{k:Nat}{x:Ad}(h:l[k]? =some x):(dy l)[k*3]? =some (.bool x.v6)∧(dy l)[k*3+1]? =some (.int .u64 (x.hi:Int))∧(dy l)[k*3+2]? =some (.int .u64 (x.lo:Int)):=⟨aD _ 3 Kr h (r:=0) rfl,aD _ 3 Kr h (r:=1) rfl,aD _ 3 Kr h (r:=2) rfl⟩
theorem U6{w:World}(l:List Ad){v:Value}(hl:l.length≤4000000)(hr:a8 w v l.length 3 (dy l))(x:Ad):Calls ah 116 #[v,.agg x.cells] w fun r w'=>(∃z:Int,r=.returned (.int .i64 z)∧decide (0≤z)=l.any fun y=>decide (y=x))∧aW w w':=by
 obtain⟨A,cap,rfl,hlen,hA⟩:=hr;obtain⟨N,hN⟩:=bw l.length;obtain⟨R,hR⟩:=bw (l.any fun y=>decide (y=x))
 rw[←hN]at hA hl⊢;rw[←hR];obtain⟨v6,hi,lo⟩:=x;obtain⟨HA,HN,HR⟩:=bz hA hN hR;clear hA hN hlen hR;unfold Ad.cells;simp only;obtain⟨HP,HB⟩:=aL (aH.new w 52 #[.bool v6,.int .u64 hi,.int .u64 lo]) (boxed w (.cells #[.bool v6,.int .u64 hi,.int .u64 lo] 52));go_enter Tryz.func116,Tryz.ntmps116;go_upto_region 1 with fail
 generalize w.alloc (.cells #[.bool v6,.int .u64 hi,.int .u64 lo] 52)=w1 at HP HB⊢;generalize hP:w.heap.size=P at HP⊢;have HPe:=ae hP;clear hP;go_wp2_with fail
 go_loopw [8] (fun v8 wr=>∃k:Nat,k≤N∧v8=.int .i64 k∧ag (aW w1 wr)∧ag (((l.take k).any fun y=>decide (y=(⟨v6,hi,lo⟩:Ad)))=false)) (fun v8 _=>N-(intOf v8).toNat)
 case atStart=>exact⟨0,bj _,rfl,ae (aI _ _),ae rfl⟩
 case round=>
  obtain⟨k,hk,rfl,hb,hno⟩:=hrel;have HW:=ae (after HB.out hb.out);by_cases hlt:k<N
  ·have hkl:k<l.length:=by have:=HN.out;omega
   obtain⟨q,o,rfl,hc⟩:=HA.out aR;have htk:=aC hkl;obtain⟨c0,c1,c2⟩:=Ks (af hkl);generalize l[k]=X at htk c0 c1 c2;have d0:=ai (hc _ _ c0) HW.out;have d1:=ai (hc _ _ c1) HW.out;have d2:=ai (hc _ _ c2) HW.out;rw[←jh]at d1 d2;have x0:=ai (HP.out.cell 0) hb.out;have x1:=ai (HP.out.cell 1) hb.out;have x2:=ai (HP.out.cell 2) hb.out;simp at x0 x1 x2;obtain⟨yv,yh,yl⟩:=X;simp only at d0 d1 d2;clear c0 c1 c2 hc;by_cases hX:(⟨yv,yh,yl⟩:Ad)=⟨v6,hi,lo⟩
   ·have hres:R=true:=by
     rw[HR.out];have:(l.take (k+1)).any (fun y=>decide (y=(⟨v6,hi,lo⟩:Ad)))=true:=by rw[htk,List.any_append];simp[hX]
     obtain⟨y,hy,hys⟩:=List.any_eq_true.1 this;exact List.any_eq_true.2 ⟨y,ah8 hy,hys⟩
    have ej:=ae hres;have hq:=fun W=>ae6 ⟨v6,hi,lo⟩ ⟨yv,yh,yl⟩ W
    rw[decide_eq_true hX]at hq;simp only at hq;clear hres htk hX;go_upto_region 4 with fail
    go_quiet (fail);go_wp2_with fail
    go_ret;exact⟨⟨_,rfl,by rw[ej.out];exact decide_eq_true aR⟩,HW.out.gK _⟩
   ·have Jm:ag (((l.take (k+1)).any fun y=>decide (y=(⟨v6,hi,lo⟩:Ad)))=false):=ae (by rw[htk,List.any_append,hno.out];simp[hX]);have hq:=fun W=>ae6 ⟨v6,hi,lo⟩ ⟨yv,yh,yl⟩ W
    rw[decide_eq_false hX]at hq;simp only at hq;clear htk hX;go_upto_region 4 with fail
    go_quiet (fail);go_wp2_with fail
    go_roundw
    case rel=>exact⟨k+1,by omega,by go_num,ae (hb.out.gK _),Jm⟩
    case measure=>simp[intOf];omega
  ·obtain rfl:k=N:=by omega
   have hres:R=false:=by
    have:=hno.out;rw[aN (by have:=HN.out;omega)]at this;rw[HR.out];exact this
   have ej:=ae hres;clear hres;go_wp2_with fail
   go_ret;exact⟨⟨_,rfl,by rw[ej.out];rfl⟩,HW.out⟩
theorem ZX{w:World}(l:List Ad){v:Value}(hl:l.length≤4000000)(hr:a8 w v l.length 3 (dy l))(x:Ad):Calls ah 68 #[v,.agg x.cells] w (Got (.bool (l.any fun y=>decide (y=x))) w):=by
 have HI:=ae (fun u(hu:aW w u)=>U6 l hl (hr.below hu) x);obtain⟨A,cap,rfl,_,_⟩:=hr;generalize(l.any fun y=>decide (y=x))=R at HI⊢;generalize l.length=N at HI⊢;obtain⟨v6,hi,lo⟩:=x;unfold Ad.cells at HI⊢;simp only at HI⊢;obtain⟨HP,HB⟩:=aL (aH.new w 52 #[.bool v6,.int .u64 hi,.int .u64 lo]) (boxed w (.cells #[.bool v6,.int .u64 hi,.int .u64 lo] 52));go_enter Tryz.func68,Tryz.ntmps68;go_upto_region 1 with fail
 generalize w.alloc (.cells #[.bool v6,.int .u64 hi,.int .u64 lo] 52)=w1 at HP HB⊢;generalize w.heap.size=P at HP⊢;obtain⟨x0,x1,x2⟩:=jt HP;go_wp2_with(go_at_call 116;refine(HI.out _ HB.out).mono ?_;rintro r w2⟨⟨z,rfl,hz⟩,e2⟩)
 go_ret;exact⟨by rw[←hz];rfl,after HB.out e2⟩
def ZY(l:List ZW):List Value:=l.flatMap fun X=>X.cells.toList
def Qu(w:World)(v:Value)(l:List Pe):Prop:=∃xs:List ZW,xs.map (·.x)=l∧a8 w v xs.length 8 (ZY xs)∧∀X∈xs,AO w X
theorem Qu.below{w w':World}{v:Value}{l:List Pe}(h:Qu w v l)(hb:aW w w'):Qu w' v l:=by
 obtain⟨xs,h1,h2,h3⟩:=h;exact⟨xs,h1,h2.below hb,fun X hX=>(h3 X hX).below hb⟩
theorem Qu.shape{w:World}{v:Value}{l:List Pe}(h:Qu w v l):∃A cap,v=.slice A l.length cap:=by
 obtain⟨xs,h1,h2,_⟩:=h;have:=h2.shape;rw[←h1,ay];exact this
theorem ez{P:Program}{w:World}{a:Addr}{m:Mode}(f:Fn)(bs lb:Array Value):(store a (.func f bs lb) m).run P w=stored P w a (.func f bs lb) m:=run_store P w a _ m rfl
attribute [local go_sem] ez
theorem Kt{P:Program}(w:World)(base:Nat)(t ty e:TypeId)(i:TypeInfo)(z:Value)(size bytes:Nat)(ht:P.underlying t=some (.slice e))(hi:P.info? e=some i)(hz:i.zero=some z)(hsize:i.size=size)(hby:i.bytes=bytes)(hzs:z.cells.size=size)(hsz:0<size){v:Value}{n:Nat}{xs:List Value}(h:a8 w v n size xs)(h1:∀u∈xs,u.oneCell'=true)(hn:n≤4000000)(hb:bytes≤4096)(hbase:base≤w.heap.size):∃A c w',(Builtin.append_ #[t,t] ty #[au,v]).run P w=.ok (.slice A n c) w'∧w'.ownsRow base e size (.slice A n c) n xs∧aW w w':=by
 obtain⟨A,cap,rfl,hl,hc⟩:=h;have hbytes:(0+n)*bytes≤140737488355328:=by
  have:(0+n)*bytes≤4000000*4096:=Nat.mul_le_mul aR hb;omega
 have hmax:0+n≤maxLen:=by unfold maxLen;omega
 cases A with
 |none=>
  have h0:n=0:=by
   rcases Nat.eq_zero_or_pos n with h|h
   ·exact h
   ·obtain⟨g,o,e1,_⟩:=hc h;cases e1
  subst h0;have hx:xs=[]:=bC (by simpa using hl);subst hx;exact⟨none,0,w,by simp[Builtin.append_,run_underlying ht,sizeOf,typeInfo,hi,Builtin.lenOf,Builtin.firstCells],bh _ _ _ _,aI _ _⟩
 |some a=>
  have hnews:∀j u,xs[j]? =some u→w.cell? (a.add j)=some u:=by
   intro j u hu;rcases Nat.eq_zero_or_pos n with h|h
   ·subst h;have hx:xs=[]:=bC (by simpa using hl);rw[hx]at hu;cases hu
   ·obtain⟨g,o,e1,hcc⟩:=hc h;injection e1 with e1
    subst e1;rw[addr_add];exact hcc j u hu
  obtain⟨v',w',hr,ho,hg,_⟩:=run_append_own (P:=P) w base t ty e i z size bytes ht hi hz hsize hby hzs hsz au 0 [] (bh _ _ _ _) a n cap xs hl hnews h1 hmax hbytes hbase;rw[Nat.zero_add,lK]at ho;obtain⟨A,c,rfl⟩:=aX ho;exact⟨A,c,w',hr,ho,⟨hg.os,hg.tape,hg.output,hg.size,fun k hk=>hg.block k hk (by simp[Value.ownBlock])⟩⟩
theorem Nr(l:List ByteArray):∀u∈strCells l,u.oneCell'=true:=fun u hu=>by
 unfold strCells at hu;obtain⟨s,_,rfl⟩:=List.mem_map.1 hu;rfl
theorem Keeps.low{S:Nat→Prop}{B:Nat}{a b:World}(h:Keeps S a b)(hS:∀k,S k→B≤k)(hB:B≤a.heap.size):Below B a b:=h.below hS hB
def uT(e:TypeId)(size n:Nat)(xs:List Value)(w:World)(r:Ending)(w':World):Prop:=(∃A c,r=.returned (.slice A n c)∧w'.ownsRow w.heap.size e size (.slice A n c) n xs)∧aW w w'
theorem rZ{w:World}{a:Addr}{n cap size:Nat}{xs:List Value}(h:a8 w (.slice (some a) n cap) n size xs):xs.length=n*size∧∀j u,xs[j]? =some u→w.cell? (a.add j)=some u:=by
 obtain⟨A',cap',e,hl,hc⟩:=h;injection e with e1 _ e2
 subst e1;refine⟨hl,fun j u hu=>?_⟩;rcases Nat.eq_zero_or_pos n with h|h
 ·subst h;have hx:xs=[]:=bC (by simpa using hl);rw[hx]at hu;cases hu
 ·obtain⟨g,o,e1,hcc⟩:=hc h;injection e1 with e1
  subst e1;rw[addr_add];exact hcc j u hu
theorem sc{w:World}{n cap size:Nat}{xs:List Value}(h:a8 w (.slice none n cap) n size xs):n=0∧xs=[]:=by
 obtain⟨A',cap',e,hl,hc⟩:=h;injection e with e1 _ e2
 subst e1;rcases Nat.eq_zero_or_pos n with h|h
 ·subst h;exact⟨rfl,bC (by simpa using hl)⟩
 ·obtain⟨g,o,e1,_⟩:=hc h;cases e1
theorem kS{w u:World}{a:Addr}{v:Value}(h:w.cell? a=some v)(hb:aW w u):u.cell? a=some v:=(hb.cell (ak w _ h)).trans h
theorem Qv{w:World}{v:Value}{n:Nat}{xs:List Value}(h:a8 w v n 1 xs)(hn:n≤2000000)(h1:∀u∈xs,u.oneCell'=true):Calls ah 76 #[v] w (uT 9 1 n xs w):=by
 obtain⟨A,cap,rfl⟩:=h.shape;cases A with
 |none=>
  obtain⟨rfl,rfl⟩:=sc h;clear h;have e1:∀W,(binOp .eql 29 (.slice none 0 cap) au).run ah W=.ok (.bool true) W:=fun _=>by kernel_rfl
  go_enter Tryz.func76,Tryz.ntmps76;go_wp2_with fail
  go_ret;exact⟨⟨none,0,rfl,bh _ _ _ _⟩,aI _ _⟩
 |some a=>
  obtain⟨hl,hnews⟩:=rZ h;obtain⟨i0,hi,hz0,hz1,hz2⟩:=info_parts rH;have HB:=ae (boxed w (.cells #[] 9));have HO:=ae (World.ownsRow_lit (e:=9) (size:=1) (base:=w.heap.size) w #[] 0 (ax _) (by unfold maxLen;omega) rfl);have U7:=ae fun j u hu=>kS (hnews j u hu) HB.out
  obtain⟨HL,H1⟩:=aL hl h1;clear h hl hnews h1;have e1:∀W,(binOp .eql 29 (.slice (some a) n cap) au).run ah W=.ok (.bool false) W:=fun _=>by kernel_rfl
  go_enter Tryz.func76,Tryz.ntmps76;go_wp2_with(at_builtin;refine wpList_append_own _ rfl _ _ 29 rfl w.heap.size 9 i0 (.string ByteArray.empty) 1 16 Tryz.underlying29 hi hz0 hz1 hz2 rfl aJ _ 0 [] rfl HO.out a n cap xs rfl HL.out U7.out H1.out (by unfold maxLen;omega) aR (by simp) ?_;intro v' w' ho hg hnil;obtain⟨A5,c5,rfl⟩:=aX ho;rw[Nat.zero_add]at ho;obtain⟨IK,SL⟩:=aL ho (HB.out.grown hg HB.out.size (fun q hq=>(HO.out.lt q hq).1));clear ho hg hnil)
  go_ret;exact⟨⟨A5,c5,rfl,by have:=IK.out;rw[lK]at this;exact this⟩,SL.out⟩
def Fw.cells(f:Fw):Array Value:= #[.int .u8 (f.proto:Int),.bool f.src.v6,.int .u64 (f.src.hi:Int),.int .u64 (f.src.lo:Int),.bool f.dst.v6,.int .u64 (f.dst.hi:Int),.int .u64 (f.dst.lo:Int),.int .u16 (f.sent:Int),.int .u16 (f.ae3:Int)]
theorem d30:ah.cellsOf 55=4:=by kernel_rfl
theorem d31:ah.cellsOf 47=8:=by kernel_rfl
theorem d32:ah.cellsOf 44=1:=by kernel_rfl
theorem d33:ah.cellsOf 45=1:=by kernel_rfl
theorem d34:ah.cellsOf 23=1:=by kernel_rfl
def acN(x:Ad×Nat):List Value:=[.bool x.1.v6,.int .u64 (x.1.hi:Int),.int .u64 (x.1.lo:Int),.int .u16 (x.2:Int)]
def ZZ(l:List (Ad×Nat)):List Value:=l.flatMap acN
structure acO(w:World)(X:ZW):Prop where
 mem:AO w X
 ends:∃es:List (Ad×Nat),a8 w X.en es.length 4 (ZZ es)∧es.length≤1048576
 ok:∀b∈X.x.aQ,b.Ok
 tl:X.x.tags.length≤1048576
 al:X.x.aQ.length≤1048576
theorem acO.below{w w':World}{X:ZW}(h:acO w X)(hb:aW w w'):acO w' X:=by
 obtain⟨es,h1,h2⟩:=h.ends;exact⟨h.mem.below hb,⟨es,h1.below hb,h2⟩,h.ok,h.tl,h.al⟩
section
variable{H:Type}{enc:TypeId×Value→H}{w:World}{base:Nat}{sp:Nat→Bool}{held:Bool}
theorem Z1:∀n cs y,DataW.trod enc ah w base sp held n 52 cs=some y→∃x:Ad,cs=x.cells.toList∧x.Ok:=by
 intro n cs y h;obtain⟨a,ha,rfl⟩:=abw h;exact⟨a,rfl,ha⟩
theorem acP:∀n cs y,DataW.trod enc ah w base sp held n 53 cs=some y→∃x:Nat,cs=[.int .u16 x]∧x<65536:=by
 intro n cs y h;obtain⟨z,rfl,_,hw⟩:=DataW.trod_int Tryz.underlying53 h;obtain⟨m,rfl,hm⟩:=Gk (b:=65535) hw ⟨by decide,by decide⟩;exact⟨m,rfl,by omega⟩
theorem U8:∀n cs y,DataW.trod enc ah w base sp held n 22 cs=some y→∃x:Nat,cs=[.int .u64 x]∧x<18446744073709551616:=by
 intro n cs y h;obtain⟨z,rfl,_,hw⟩:=DataW.trod_int ahW h;obtain⟨m,rfl,hm⟩:=Gk (b:=18446744073709551615) hw ⟨by decide,by decide⟩;exact⟨m,rfl,by omega⟩
end
abbrev En:=Ad×Nat
structure Pr where
 key:ByteArray
 bu:ByteArray
 user:ByteArray
 tags:List ByteArray
 aQ:List Ad
 exp:Nat
 bm:Nat
 ends:List En
structure Ry where
 id:Nat
 key:ByteArray
 fin:En
structure Mp where
 version:Nat
 aK:List Pr
 aA:List Ry
 policy:ByteArray
structure Dl where
 base:Nat
 version:Nat
 aM:List Pr
 gone:List ByteArray
 eX:Bool
 aA:List Ry
 fe:Bool
 policy:ByteArray
 hash:ByteArray
deriving instance DecidableEq for Pr
deriving instance DecidableEq for Ry
deriving instance DecidableEq for Mp
deriving instance DecidableEq for Dl
def sf(a b:ByteArray):Bool:=Op.bytesLess a.toList b.toList
def cX{α:Type}(lt:α→α→Bool):List α→Bool
 |x::y::r=>lt x y&&cX lt (y::r)
 |_=>true
def kt(p:Pr):Bool:=decide (p.key.size=32)&&decide (p.bu.size=32)&&cQ p.user&&decide (p.tags.length≤8)&&decide (1≤p.aQ.length)&&decide (p.aQ.length≤4)&&decide (p.ends.length≤8)&&((p.ends.all fun e=>e.1.may)&&decide p.ends.Nodup)&&p.tags.all cQ&&cX sf p.tags&&p.aQ.all Ad.may&&cX xj p.aQ
def fh(a b:Pr):Bool:=sf a.key b.key
def jC(l:List Pr):Bool:=decide (l.length≤64)&&l.all kt&&cX fh l
def xW(r:Ry):Bool:=decide (r.key.size=32)&&r.fin.1.may
def jD(l:List Ry):Bool:=decide (l.length≤8)&&cX (fun a b:Ry=>decide (a.id<b.id)) l&&l.all xW
def lZ(s:ByteArray):Bool:=decide ((jb s.data.toList).2.1=0)
def jE(m:Mp):Bool:=decide (1≤m.version)&&jC m.aK&&jD m.aA&&lZ m.policy&&(decide (m.aK.flatMap (·.aQ)).Nodup&&m.aK.all fun p=>decide (p.bm=0)||m.aA.any fun r=>decide (r.id=p.bm))
def nK(l:List Pr)(k:ByteArray):Option Pr:=l.find? fun p=>decide (p.key=k)
def iH(d:Dl):Bool:=decide (1≤d.base)&&decide (d.base<d.version)&&decide (d.hash.size=32)&&decide (d.gone.length≤64)&&(d.eX||d.aA.isEmpty)&&(d.fe||decide (d.policy.size=0))&&(d.gone.all fun k=>decide (k.size=32)&&(nK d.aM k).isNone)&&cX sf d.gone&&jC d.aM&&jD d.aA&&lZ d.policy
def oy(s:ByteArray):List UInt8:=fH 2 s.size++s.data.toList
def zj(a:Ad):List UInt8:=if a.v6 then 6::(fH 8 a.hi++fH 8 a.lo)else 4::fH 4 a.lo
def Gm(e:En):List UInt8:=zj e.1++fH 2 e.2
def bU{α:Type}(f:α→List UInt8)(l:List α):List UInt8:=fH 2 l.length++l.flatMap f
def qs(p:Pr):List UInt8:=p.key.data.toList++(p.bu.data.toList++(oy p.user++(bU oy p.tags++(bU zj p.aQ++(fH 8 p.exp++(fH 1 p.bm++bU Gm p.ends))))))
def qK(r:Ry):List UInt8:=fH 1 r.id++(r.key.data.toList++Gm r.fin)
def zE(m:Mp):List UInt8:=fH 8 m.version++(bU qs m.aK++(bU qK m.aA++oy m.policy))
def iR(b:Bool)(x:List UInt8):List UInt8:=if b then 1::x else [0]
def Dm(d:Dl):List UInt8:=fH 8 d.base++(fH 8 d.version++(bU qs d.aM++(bU (fun k:ByteArray=>k.data.toList) d.gone++(iR d.eX (bU qK d.aA)++(iR d.fe (oy d.policy)++d.hash.data.toList)))))
def encR(may:Bool)(b:List UInt8):ByteArray×Nat:=if may=false then(⟨#[]⟩,220)else if 32768<b.length then(⟨#[]⟩,4)else(iJ b,0)
def cR(m:Mp):ByteArray×Nat:=encR (jE m) (zE m)
def jW(d:Dl):ByteArray×Nat:=encR (iH d) (Dm d)
abbrev Ps(α:Type):=List UInt8→Option (α×List UInt8)
def qt(l:List UInt8):Nat:=l.foldl (fun x c=>x*256+c.toNat) 0
def ku(n:Nat):Ps (List UInt8):=fun t=>if n≤t.length then some (t.take n,t.drop n)else none
def lr(n:Nat):Ps Nat:=fun t=>(ku n t).map fun x=>(qt x.1,x.2)
def vJ(n:Nat):Ps ByteArray:=fun t=>(ku n t).map fun x=>(iJ x.1,x.2)
def cN{α β:Type}(p:Ps α)(f:α→Ps β):Ps β:=fun t=>(p t).bind fun x=>f x.1 x.2
def mP{α:Type}(x:α):Ps α:=fun t=>some (x,t)
def Ku:Ps ByteArray:=cN (lr 2) fun n=>if 32768<n then fun _=>none else vJ n
def adP:Ps Ad:=cN (lr 1) fun k=>if k=4 then cN (lr 4) fun l=>mP ⟨false,0,l⟩else if k=6 then cN (lr 8) fun h=>cN (lr 8) fun l=>mP ⟨true,h,l⟩else fun _=>none
def enP:Ps En:=cN adP fun a=>cN (lr 2) fun p=>mP (a,p)
def xX{α:Type}(p:Ps α):Nat→Ps (List α)
 |0=>mP []
 |n+1=>cN p fun x=>cN (xX p n) fun l=>mP (x::l)
def pB{α:Type}(p:Ps α):Ps (List α):=cN (lr 2) (xX p)
def prP:Ps Pr:=cN (vJ 32) fun k=>cN (vJ 32) fun d=>cN Ku fun u=>cN (pB Ku) fun ts=>cN (pB adP) fun as_=>cN (lr 8) fun ex=>cN (lr 1) fun rl=>cN (pB enP) fun es=>mP ⟨k,d,u,ts,as_,ex,rl,es⟩
def ryP:Ps Ry:=cN (lr 1) fun i=>cN (vJ 32) fun k=>cN enP fun e=>mP ⟨i,k,e⟩
def mpP:Ps Mp:=cN (lr 8) fun v=>cN (pB prP) fun ps=>cN (pB ryP) fun rs=>cN Ku fun t=>mP ⟨v,ps,rs,t⟩
def mQ:Ps Bool:=cN (lr 1) fun b=>if 1<b then fun _=>none else mP (decide (b=1))
def Gn{α:Type}(b:Bool)(z:α)(p:Ps α):Ps α:=if b then p else mP z
def dlP:Ps Dl:=cN (lr 8) fun b=>cN (lr 8) fun v=>cN (pB prP) fun ps=>cN (pB (vJ 32)) fun g=>cN mQ fun hr=>cN (Gn hr [] (pB ryP)) fun rs=>cN mQ fun hp=>cN (Gn hp ⟨#[]⟩ Ku) fun t=>cN (vJ 32) fun h=>mP ⟨b,v,ps,g,hr,rs,hp,t,h⟩
def Mp.zero:Mp:=⟨0,[],[],⟨#[]⟩⟩
def Dl.zero:Dl:=⟨0,0,[],[],false,[],false,⟨#[]⟩,⟨#[]⟩⟩
def fk{α:Type}(p:Ps α)(s:List UInt8):Option α:=if 32768<s.length then none else match p s with
 |some (x,[])=>some x
 |_=>none
def zF(s:ByteArray):Mp×Nat:=match fk mpP s.data.toList with
 |none=>(Mp.zero,8)
 |some m=>if(cR m).2=0 then(m,0)else(Mp.zero,(cR m).2)
def zG(s:ByteArray):Dl×Nat:=match fk dlP s.data.toList with
 |none=>(Dl.zero,8)
 |some d=>if(jW d).2=0 then(d,0)else(Dl.zero,(jW d).2)
def gj(B b:Nat)(D:List UInt8)(w:World):Prop:=Lib.IsBuilder 75 5 B b (Lib.byteCells D) w
structure Wrote(B b:Nat)(w w':World):Prop where
 below:Below B w w'
 kept:∀g t cs,aH w g t cs→g≠b→t≠5→aH w' g t cs
theorem Wrote.refl(B b:Nat)(w:World):Wrote B b w w:=⟨aI _ _,fun _ _ _ h _ _=>h⟩
theorem Wrote.trans{B b:Nat}{w1 w2 w3:World}(h:Wrote B b w1 w2)(h2:Wrote B b w2 w3):Wrote B b w1 w3:=⟨h.below.trans h2.below,fun g t cs hg hne ht=>h2.kept g t cs (h.kept g t cs hg hne ht) hne ht⟩
theorem Wrote.of{B b:Nat}{w1 w2:World}(hB:B≤w1.heap.size)(h:aW w1 w2):Wrote B b w1 w2:=⟨h.mono hB,fun _ _ _ hg _ _=>hg.below h hg.lt⟩
theorem gj.lt{B b:Nat}{D:List UInt8}{w:World}(h:gj B b D w):b<w.heap.size:=h.elim (fun h=>h.lt) (fun h=>h.lt)
theorem gj.ge{B b:Nat}{D:List UInt8}{w:World}(h:gj B b D w):B≤b:=h.elim (fun h=>h.1) (fun h=>h.1)
theorem uU{B b:Nat}{p:Value}{bs:List Value}{w w':World}(h:Lib.BuilderAt 75 5 B b p bs w)(hb:aW w w'):Lib.BuilderAt 75 5 B b p bs w':=by
 obtain⟨hB,v,hbk,hown,hne⟩:=h;exact⟨hB,v,(aH.below (g:=b) hbk hb (aH.lt hbk)),own_below hown hb,hne⟩
theorem gj.below{B b:Nat}{D:List UInt8}{w w':World}(h:gj B b D w)(hb:aW w w'):gj B b D w':=Or.imp (fun h=>uU h hb) (fun h=>uU h hb) h
theorem Z2:liesAt ah ah.depth 75 (2/ah.cellsOf 75) 0 73 1=true:=by kernel_rfl
theorem Gp(b:Nat)(w:World)(h0:w.cell? ⟨b,0,none⟩=some (.pointer (some ⟨b,0,none⟩))):Calls ah 127 #[.pointer (some ⟨b,0,none⟩)] w fun r w'=>r=.returned (.tuple #[])∧w'=w:=by
 obtain⟨j,hj,_⟩:=Option.map_eq_some_iff.1 Tryz.Builder_Extra_169.sizeBuilder;go_enter Tryz.func127,Tryz.ntmps127;go_wp2_with fail
 rw[Lib.run_neq_ptr_same w _ Tryz.underlying70 hj];go_wp2_with fail
 go_end0
 exact⟨rfl,rfl⟩
theorem Dn(b:Nat)(w:World)(h0:w.cell? ⟨b,0,none⟩=some (.pointer none))(hsh:w.shape? b=some (75,2))(hfz:w.frozen? ⟨b,0,none⟩=false):Calls ah 127 #[.pointer (some ⟨b,0,none⟩)] w fun r w'=>r=.returned (.tuple #[])∧w'=w.setCell ⟨b,0,none⟩ (.pointer (some ⟨b,0,none⟩)):=by
 obtain⟨j,hj,hjs⟩:=Option.map_eq_some_iff.1 Tryz.Builder_Extra_169.sizeBuilder;go_enter Tryz.func127,Tryz.ntmps127;go_wp2_with fail
 rw[Lib.run_to_unsafe w ⟨b,0,none⟩ Tryz.underlying70 Tryz.underlying223 hj (by rw[hjs];decide) hsh (Nat.zero_lt_succ 1)];simp only[Result.andThen];rw[Oper.upon_value];go_wp2_with fail
 rw[run_callFunc_extern Tryz.func164 bo bo bo (e:=Extern.AbiNoEscape.same) bo];rw[Lib.run_noEscape];simp only[Result.andThen];rw[Oper.upon_value];go_wp2_with fail
 rw[Lib.run_from_unsafe w ⟨b,0,none⟩ Tryz.underlying223 Tryz.underlying70 hj hsh Z2];simp only[Result.andThen];rw[Oper.upon_value];go_wp2_with fail
 go_end0
 exact⟨rfl,rfl⟩
theorem Kv{B b:Nat}{bs:List Value}{w:World}(h:Lib.IsBuilder 75 5 B b bs w):Calls ah 127 #[.pointer (some ⟨b,0,none⟩)] w fun r w'=>r=.returned (.tuple #[])∧Lib.BuilderAt 75 5 B b (.pointer (some ⟨b,0,none⟩)) bs w'∧Below B w w'∧∀g t cs,aH w g t cs→g≠b→aH w' g t cs:=by
 rcases h with h|h
 ·refine(Dn b w h.cell0 h.shape h.frozen0).mono ?_;rintro r w'⟨rfl,rfl⟩;exact⟨rfl,h.used _,(aI B w).setCell (p:=⟨b,0,none⟩) h.1 _,fun g t cs hg hne=>hg.far hne _⟩
 ·refine(Gp b w h.cell0).mono ?_;rintro r w'⟨rfl,rfl⟩;exact⟨rfl,h,aI B _,fun g t cs hg _=>hg⟩
theorem Kw{B b:Nat}{bs:List Value}(s:ByteArray){w:World}(h:Lib.IsBuilder 75 5 B b bs w)(hlen:bs.length+s.size≤140737488355328)(hBw:B≤w.heap.size):Calls ah 85 #[.pointer (some ⟨b,0,none⟩),.string s] w fun r w'=>r=.returned (.tuple #[.int .i64 (s.size:Int),.nilIface])∧Lib.BuilderAt 75 5 B b (.pointer (some ⟨b,0,none⟩)) (bs++Lib.strCells s) w'∧Below B w w'∧∀g t cs,aH w g t cs→g≠b→t≠5→aH w' g t cs:=by
 obtain⟨i0,hi,hz0,hz1,hz2⟩:=info_parts Tryz.Builder_Extra_169.infoByte;have hcc:=ae (Kv h);go_enter Tryz.func85,Tryz.ntmps85;go_wp2_with fail
 go_at_call 127;refine hcc.out.mono ?_;rintro r w1⟨rfl,h1,hb1,hk1⟩;have Hk1:=ae hk1;clear hk1;obtain⟨hB,v,hbk,hown,hne⟩:=h1;have c1:w1.cell? ⟨b,1,none⟩=some v:=by rw[Lib.cell_of_heap hbk];rfl
 go_wp2_with(at_builtin;refine Lib.wpList_append_own_string _ rfl _ _ 71 9 rfl B 5 i0 Tryz.underlying71 bq hi hz0 hz1 hz2 _ _ _ rfl hown s rfl ?c3 ?c4 ?c5 ?_)
 case c3=>unfold maxLen;omega
 case c4=>omega
 case c5=>have:=hb1.size;omega
 intro v' w2 hown' hgrow _;have hlt:b<w1.heap.size:=by
  rcases Nat.lt_or_ge b w1.heap.size with h'|h'
  ·exact h'
  ·simp[Array.getElem?_eq_none h']at hbk
 have hb2:w2.heap[b]? =some (.cells #[.pointer (some ⟨b,0,none⟩),v] 75 (0,0)):=by
  rw[hgrow.block b hlt (fun e=>hne e.symm)];exact hbk
 have d1:w2.cell? ⟨b,1,none⟩=some v:=by rw[Lib.cell_of_heap hb2];rfl
 have f1:w2.frozen? ⟨b,1,none⟩=false:=Lib.frozen_of_heap hb2 1;obtain⟨ao,n',cap,rfl⟩:∃ao n' cap,v'=.slice ao n' cap:=by
  rcases hown'.2 with⟨hv,_⟩|⟨g,cap,cur,hv,_⟩
  ·exact⟨_,_,_,hv⟩
  ·exact⟨_,_,_,hv⟩
 go_wp2_with fail
 go_ret2;refine⟨rfl,?_,?_,?_⟩
 ·exact Lib.BuilderAt.put (T:=75) (e:=5) hB hb2 (bs':=bs++Lib.strCells s) (by simpa[Lib.strCells_length]using hown') (by decide)
 ·exact(hb1.grown hgrow (by have:=hb1.size;omega) (fun k hk=>(hown.lt k hk).1)).setCell (p:=⟨b,1,none⟩) hB _
 ·intro g t cs hg hne ht;have h1:=Hk1.out g t cs hg hne;exact(h1.grown hgrow (fun e=>Lib.ownBlock_ne hown h1 ht e.symm)).far (p:=⟨b,1,none⟩) hne _
theorem U9(D:List UInt8)(s:ByteArray):Lib.byteCells D++Lib.strCells s=Lib.byteCells (D++s.data.toList):=by
 simp[Lib.byteCells,Lib.strCells]
theorem Kx{B b:Nat}{D:List UInt8}(s:ByteArray){w:World}(h:gj B b D w)(hlen:D.length+s.size≤140737488355328)(hBw:B≤w.heap.size):Calls ah 85 #[.pointer (some ⟨b,0,none⟩),.string s] w fun r w'=>r=.returned (.tuple #[.int .i64 (s.size:Int),.nilIface])∧gj B b (D++s.data.toList) w'∧Wrote B b w w':=by
 refine(Kw s h (by rw[Lib.byteCells_length];exact hlen) hBw).mono ?_;rintro r w'⟨rfl,h1,h2,h3⟩;rw[U9]at h1;exact⟨rfl,.inr h1,h2,h3⟩
def fG(L:List ByteArray):List UInt8:=L.flatMap fun s=>s.data.toList
theorem Qw{L:List ByteArray}{k:Nat}{s:ByteArray}(h:L[k]? =some s):fG (L.take (k+1))=fG (L.take k)++s.data.toList:=by
 rw[List.take_add_one,h];simp[fG]
theorem Dp(L:List ByteArray)(k:Nat):(fG (L.take k)).length≤(fG L).length:=by
 have:=congrArg (fun l=>(fG l).length) (List.take_append_drop k L);simp only[fG,List.flatMap_append,aj]at this⊢;omega
theorem put_any{B b g:Nat}{D:List UInt8}{w:World}(L:List ByteArray)(h:gj B b D w)(hg:aH w g 9 (L.map bN).toArray)(hgb:g≠b)(hL:L.length≤4000000)(hlen:D.length+(fG L).length≤140737488355328)(hBw:B≤w.heap.size)(n:Nat)(hn:n=L.length):Calls ah 30 #[.pointer (some ⟨b,0,none⟩),.slice (some ⟨g,0,none⟩) n n] w fun r w'=>r=.returned (.tuple #[])∧gj B b (D++fG L) w'∧Wrote B b w w':=by
 obtain⟨HG,HP,HN,HLen⟩:=cU hg h hn hlen;rw[←hn]at hL;clear h hg hn hlen;obtain⟨R,hR⟩:=bw (D++fG L);rw[←hR];have HR:=ae hR;clear hR;go_enter Tryz.func30,Tryz.ntmps30;go_wp2_with fail
 go_loopw [8] (fun v8 wr=>∃k:Nat,k≤n∧v8=.int .i64 k∧ag (gj B b (D++fG (L.take k)) wr)∧ag (Wrote B b w wr)) (fun v8 _=>n-(intOf v8).toNat)
 case atStart=>exact⟨0,bj _,rfl,ae (by rw[List.take_zero,show fG []=[]from rfl,List.append_nil];exact HP.out),ae (Wrote.refl _ _ _)⟩
 case round=>
  obtain⟨k,hk,rfl,hp,hw⟩:=hrel;by_cases hlt:k<n
  ·have hkl:k<L.length:=by rw[←HN.out];exact hlt
   have hx:L[k]? =some L[k]:=af hkl;have Z3:=Qw hx;have hle:=Dp L (k+1);have c0:=(hw.out.kept _ _ _ HG.out hgb aJ).cell k;rw[uz,bO,hx,Option.map_some]at c0;have hcall:=fun u(hu:wr=u)=>Kx L[k] hp.out (by rw[Z3]at hle;simp only[aj]at hle⊢;have:=HLen.out;rw[←ByteArray.size_data,←fE];omega) (aw hBw hw.out.below.size)
   generalize L[k]=X at Z3 c0 hcall;rw[List.append_assoc,←Z3]at hcall;have HC:=ae hcall;clear hcall hx Z3 hle;go_wp2_with(go_at_call 85;refine(HC.out _ rfl).mono ?_;rintro r w2⟨rfl,hp2,hw2⟩)
   go_roundw
   case rel=>exact⟨k+1,by omega,by go_num,ae hp2,ae (hw.out.trans hw2)⟩
   case measure=>simp[intOf];omega
  ·obtain rfl:k=n:=by omega
   have hall:ag (gj B b R wr):=ae (by have:=hp.out;rw[aN (by rw[HN.out];exact ax _)]at this;rw[HR.out];exact this);go_wp2_with fail
   go_end0
   exact⟨rfl,hall.out,hw.out⟩
end Go.Proofs.YtkjaajcpbldjoabGreatDoor
