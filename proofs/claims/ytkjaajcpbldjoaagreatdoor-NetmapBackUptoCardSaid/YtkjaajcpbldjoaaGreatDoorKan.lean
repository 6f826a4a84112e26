/- Joined out of: EqD RsA NlC RsB RcA RcB EdA EdB EdC. -/
import Derived.Test.YtkjaajcpbldjoaaGreatDoorKam
set_option linter.unusedVariables false
set_option linter.unusedSimpArgs false
set_option maxHeartbeats 16000000
set_option maxRecDepth 100000
open Bool renaming and_eq_true→aX,true_and→bV,eq_iff_iff→fE,false_and→ux
open Go.Lib renaming hid→ae
open Go.Proofs.Tryz renaming prog→ah,underlying27→abb
open Go.RowKit renaming Hid→ag
open Go.RowKit.Below renaming refl→aM
open Go.Value renaming string→bM
open Go.World renaming ownsRow_nil→bg
open List renaming getElem?_eq_getElem→af,length_append→ai,length_map→ay,take_succ_eq_append_getElem→aB,range→aF,take_of_length_le→aJ,append_assoc→aO,getElem_mem→a8,length_cons→bO,map_append→cH,mem_map_of_mem→eC,map_cons→i6
open Nat renaming le_trans→aw,zero_le→bh,add_zero→b8,add_assoc→ku
namespace Go.Proofs.YtkjaajcpbldjoaaGreatDoor
open Go.RowKit
attribute [local go_sem↓] Go.wp_at_zero Go.wp_at_succ
theorem abD(x y:Mp):decide (x=y)=(((x.version:Int)==(y.version:Int))&&((x.policy.toList==y.policy.toList)&&(decide (x.aK=y.aK)&&decide (x.ax=y.ax)))):=by
 obtain⟨a,b,c,d⟩:=x;obtain⟨a',b',c',d'⟩:=y;rw[fE];simp only[aX,beq_iff_eq,decide_eq_true_eq,Mp.mk.injEq];constructor
 ·rintro⟨rfl,rfl,rfl,rfl⟩;exact⟨rfl,rfl,rfl,rfl⟩
 ·rintro⟨h1,h2,h3,h4⟩;exact⟨by omega,h3,h4,toList_inj h2⟩
theorem dJ.open_{w:World}{v:Value}{l:List Pr}(h:dJ w v l):∃xs:List bU,xs.map (·.p)=l∧xs.length=l.length∧aY w v xs.length 8 (cZ xs)∧∀X∈xs,fC w X:=by
 obtain⟨xs,h1,h2,h3⟩:=h;exact⟨xs,h1,by rw[←h1,ay],h2,h3⟩
theorem Bh{w:World}{pv1 Sz pv2 rv2:Value}{x y:Mp}(hp1:dJ w pv1 x.aK)(hr1:fy w Sz x.ax)(hp2:dJ w pv2 y.aK)(hr2:fy w rv2 y.ax)(s1:∀p∈x.aK,gm p)(s2:∀p∈y.aK,gm p)(l1:x.aK.length≤4000000)(l2:y.aK.length≤4000000)(m1:x.ax.length≤4000000)(m2:y.ax.length≤4000000):Calls ah 20 #[.agg #[.int .u64 (x.version:Int),pv1,Sz,.string x.policy],.agg #[.int .u64 (y.version:Int),pv2,rv2,.string y.policy]] w (Got (.bool (decide (x=y))) w):=by
 have hre:=fun u(hu:aW w u)=>G4 x.ax y.ax m1 m2 (aY.below hr1 hu) (aY.below hr2 hu)
 obtain⟨xs,e1,le1,ro1,me1⟩:=hp1.open_;obtain⟨ys,e2,le2,ro2,me2⟩:=hp2.open_;have hpe:=fun u(hu:aW w u)=>WY xs ys aQ aQ (ro1.below hu) (ro2.below hu) (fun X hX=>(me1 X hX).below hu) (fun Y hY=>(me2 Y hY).below hu) (fun X Y=>decide (X.p=Y.p)) 54 (enters_of Tryz.func54 bo rfl) fun W hW X hX Y hY=>sN (((me1 X hX).below hu).below hW) (((me2 Y hY).below hu).below hW) (s1 _ (by rw[←e1];exact eC hX)) (s2 _ (by rw[←e2];exact eC hY))
 rw[WX,e1,e2]at hpe;obtain⟨fA,c11,e11⟩:=hp1.shape;obtain⟨ft,c12,e12⟩:=aY.shape hr1;obtain⟨iK,c21,e21⟩:=hp2.shape;obtain⟨iL,iM,e22⟩:=aY.shape hr2;clear hp1 hp2 hr1 hr2 s1 s2 l1 l2 m1 m2 e1 e2 le1 le2 ro1 ro2 me1 me2;rw[abD];obtain⟨gn,yR,sP,gI⟩:=x;obtain⟨jW,yS,sQ,kC⟩:=y;simp only at*;subst e11 e12 e21 e22;generalize decide (yR=yS)=BP at*;generalize decide (sP=sQ)=BR at*;generalize yR.length=n11 at*;generalize sP.length=n12 at*;generalize yS.length=n21 at*;generalize sQ.length=n22 at*;obtain⟨HP,HR,mI,HB1⟩:=cY hpe hre (aG.new w 26 #[.int .u64 gn,.slice fA n11 c11,.slice ft n12 c12,.string gI]) (boxed w (.cells #[.int .u64 gn,.slice fA n11 c11,.slice ft n12 c12,.string gI] 26));clear hpe hre;obtain⟨HB2,bP⟩:=aN (after HB1.out (boxed (w.alloc (.cells #[.int .u64 gn,.slice fA n11 c11,.slice ft n12 c12,.string gI] 26)) (.cells #[.int .u64 jW,.slice iK n21 c21,.slice iL n22 iM,.string kC] 26))) (bJ mI (boxed (w.alloc (.cells #[.int .u64 gn,.slice fA n11 c11,.slice ft n12 c12,.string gI] 26)) (.cells #[.int .u64 jW,.slice iK n21 c21,.slice iL n22 iM,.string kC] 26)));have hP2:aG ((w.alloc (.cells #[.int .u64 gn,.slice fA n11 c11,.slice ft n12 c12,.string gI] 26)).alloc (.cells #[.int .u64 jW,.slice iK n21 c21,.slice iL n22 iM,.string kC] 26)) (w.heap.size+1) 26 #[.int .u64 jW,.slice iK n21 c21,.slice iL n22 iM,.string kC]:=by
  have:=aG.new (w.alloc (.cells #[.int .u64 gn,.slice fA n11 c11,.slice ft n12 c12,.string gI] 26)) 26 #[.int .u64 jW,.slice iK n21 c21,.slice iL n22 iM,.string kC];rw[show(w.alloc (.cells #[.int .u64 gn,.slice fA n11 c11,.slice ft n12 c12,.string gI] 26)).heap.size=w.heap.size+1 by simp]at this;exact this
 have HP2:=ae hP2;clear hP2 mI HB1;cases hb0:((gn:Int)==(jW:Int))with
 |false=>
  simp only[ux];go_enter Tryz.func20,Tryz.ntmps20;go_upto_region 1 with fail
  generalize(w.alloc (.cells #[.int .u64 gn,.slice fA n11 c11,.slice ft n12 c12,.string gI] 26)).alloc (.cells #[.int .u64 jW,.slice iK n21 c21,.slice iL n22 iM,.string kC] 26)=w2 at HB2 bP HP2⊢;generalize w.heap.size+1=Q at HP2⊢;generalize hPw:w.heap.size=P at bP⊢;have kr:=ae hPw;clear hPw;have x0:=bP.out.cell 0;have x1:=bP.out.cell 1;have x2:=bP.out.cell 2;have x3:=bP.out.cell 3;have y0:=HP2.out.cell 0;have y1:=HP2.out.cell 1;have y2:=HP2.out.cell 2;have y3:=HP2.out.cell 3;simp at x0 x1 x2 x3 y0 y1 y2 y3;go_wp2_with fail
  go_ret;exact⟨rfl,HB2.out⟩
 |true=>
  cases hb1:(gI.toList==kC.toList)with
  |false=>
   simp only[ux,bV];go_enter Tryz.func20,Tryz.ntmps20;go_upto_region 1 with fail
   generalize(w.alloc (.cells #[.int .u64 gn,.slice fA n11 c11,.slice ft n12 c12,.string gI] 26)).alloc (.cells #[.int .u64 jW,.slice iK n21 c21,.slice iL n22 iM,.string kC] 26)=w2 at HB2 bP HP2⊢;generalize w.heap.size+1=Q at HP2⊢;generalize hPw:w.heap.size=P at bP⊢;have kr:=ae hPw;clear hPw;have x0:=bP.out.cell 0;have x1:=bP.out.cell 1;have x2:=bP.out.cell 2;have x3:=bP.out.cell 3;have y0:=HP2.out.cell 0;have y1:=HP2.out.cell 1;have y2:=HP2.out.cell 2;have y3:=HP2.out.cell 3;simp at x0 x1 x2 x3 y0 y1 y2 y3;go_wp2_with fail
   go_ret;exact⟨rfl,HB2.out⟩
  |true=>
   simp only[bV];cases BP with
   |false=>
    simp only[ux];go_enter Tryz.func20,Tryz.ntmps20;go_upto_region 1 with fail
    generalize(w.alloc (.cells #[.int .u64 gn,.slice fA n11 c11,.slice ft n12 c12,.string gI] 26)).alloc (.cells #[.int .u64 jW,.slice iK n21 c21,.slice iL n22 iM,.string kC] 26)=w2 at HB2 bP HP2⊢;generalize w.heap.size+1=Q at HP2⊢;generalize hPw:w.heap.size=P at bP⊢;have kr:=ae hPw;clear hPw;have x0:=bP.out.cell 0;have x1:=bP.out.cell 1;have x2:=bP.out.cell 2;have x3:=bP.out.cell 3;have y0:=HP2.out.cell 0;have y1:=HP2.out.cell 1;have y2:=HP2.out.cell 2;have y3:=HP2.out.cell 3;simp at x0 x1 x2 x3 y0 y1 y2 y3;go_wp2_with(first
     |(go_at_call 70;refine(HP.out _ HB2.out).mono ?_;rintro r w3⟨rfl,d3⟩;have px2:=ak x2 d3;have py2:=ak y2 d3;have HB3:=aZ HB2 d3;clear d3))
    go_ret;exact⟨rfl,HB3.out⟩
   |true=>
    simp only[bV];go_enter Tryz.func20,Tryz.ntmps20;go_upto_region 1 with fail
    generalize(w.alloc (.cells #[.int .u64 gn,.slice fA n11 c11,.slice ft n12 c12,.string gI] 26)).alloc (.cells #[.int .u64 jW,.slice iK n21 c21,.slice iL n22 iM,.string kC] 26)=w2 at HB2 bP HP2⊢;generalize w.heap.size+1=Q at HP2⊢;generalize hPw:w.heap.size=P at bP⊢;have kr:=ae hPw;clear hPw;have x0:=bP.out.cell 0;have x1:=bP.out.cell 1;have x2:=bP.out.cell 2;have x3:=bP.out.cell 3;have y0:=HP2.out.cell 0;have y1:=HP2.out.cell 1;have y2:=HP2.out.cell 2;have y3:=HP2.out.cell 3;simp at x0 x1 x2 x3 y0 y1 y2 y3;go_wp2_with(first
     |(go_at_call 70;refine(HP.out _ HB2.out).mono ?_;rintro r w3⟨rfl,d3⟩;have px2:=ak x2 d3;have py2:=ak y2 d3;have HB3:=aZ HB2 d3;clear d3)
     |(go_at_call 56;refine(HR.out _ HB3.out).mono ?_;rintro r w4⟨rfl,d4⟩;have HB4:=aZ HB3 d4;clear d4))
    go_ret;exact⟨rfl,HB4.out⟩
theorem pS{w:World}{v1 v2:Value}{l1 l2:List Pr}(h1:dJ w v1 l1)(h2:dJ w v2 l2)(s1:∀p∈l1,gm p)(s2:∀p∈l2,gm p)(hl:l1.length≤4000000)(hl2:l2.length≤4000000):Calls ah 41 #[v1,v2] w (Got (.bool (decide (l1=l2))) w):=by
 obtain⟨xs,hx1,⟨A1,cap1,rfl,_,hA1⟩,hx⟩:=h1;obtain⟨ys,hy1,⟨A2,cap2,rfl,_,hA2⟩,hy⟩:=h2;subst hx1 hy1;rw[←WX];rw[ay]at hl hl2;obtain⟨HA1,HA2,HX,HY,HSx,HSy⟩:=mL hA1 hA2 hx hy (fun X(hX:X∈xs)=>s1 X.p (eC hX)) (fun X(hX:X∈ys)=>s2 X.p (eC hX));clear hA1 hA2 hx hy s1 s2;unfold eqL;by_cases hn:xs.length=ys.length
 ·rw[decide_eq_true hn,bV];obtain⟨N,hN⟩:=bq xs.length;rw[←hn]at HA2 hl2⊢;rw[←hN]at HA1 HA2 hl⊢;obtain⟨jq,kq⟩:=aN hN (hN.trans hn);clear hn hN hl2;obtain⟨R,hR⟩:=bq ((aF N).all (um (fun X Y=>decide (X.p=Y.p)) xs ys));rw[←hR];have HR:=ae hR;clear hR;go_enter Tryz.func41,Tryz.ntmps41;go_wp2_with fail
  go_loopw [5] (fun v5 wr=>∃k:Nat,k≤N∧v5=.int .i64 k∧ag (aW w wr)∧ag ((aF k).all (um (fun X Y=>decide (X.p=Y.p)) xs ys)=true)) (fun v5 _=>N-(intOf v5).toNat)
  case atStart=>exact⟨0,bh _,rfl,ae (aM _ _),ae rfl⟩
  case round=>
   obtain⟨k,hk,rfl,HW,hall⟩:=hrel;obtain⟨wo,rfl⟩:=bq (wr:World);by_cases hlt:k<N
   case neg=>
    obtain rfl:k=N:=by omega
    have dZ:ag (R=true):=ae (by rw[HR.out];exact hall.out);go_wp2_with fail
    go_ret;exact⟨by rw[dZ.out];rfl,HW.out⟩
   have hkl:k<xs.length:=by have:=jq.out;omega
   have hkm:k<ys.length:=by have:=kq.out;omega
   have htw:um (fun X Y=>decide (X.p=Y.p)) xs ys k=decide (xs[k].p=ys[k].p):=by
    unfold um;rw[af hkl,af hkm]
   have hcall:=fun u(hu:aW w u)=>zQ ((HX.out _ (a8 hkl)).below hu) ((HY.out _ (a8 hkm)).below hu) (HSx.out _ (a8 hkl)) (HSy.out _ (a8 hkm))
   obtain⟨q1,o1,rfl,hc1⟩:=HA1.out aQ;have hm1:=HX.out _ (a8 hkl);have g10:=aD bU.vals 8 aC (af hkl) (r:=0) rfl;have g11:=aD bU.vals 8 aC (af hkl) (r:=1) rfl;have g12:=aD bU.vals 8 aC (af hkl) (r:=2) rfl;have g13:=aD bU.vals 8 aC (af hkl) (r:=3) rfl;have g14:=aD bU.vals 8 aC (af hkl) (r:=4) rfl;have g15:=aD bU.vals 8 aC (af hkl) (r:=5) rfl;have g16:=aD bU.vals 8 aC (af hkl) (r:=6) rfl;have g17:=aD bU.vals 8 aC (af hkl) (r:=7) rfl;have d10:=ak (hc1 _ _ g10) HW.out;have d11:=ak (hc1 _ _ g11) HW.out;have d12:=ak (hc1 _ _ g12) HW.out;have d13:=ak (hc1 _ _ g13) HW.out;have ji:=ak (hc1 _ _ g14) HW.out;have mE:=ak (hc1 _ _ g15) HW.out;have jF:=ak (hc1 _ _ g16) HW.out;have ny:=ak (hc1 _ _ g17) HW.out;clear hc1 g10 g11 g12 g13 g14 g15 g16 g17;obtain⟨q2,o2,rfl,hc2⟩:=HA2.out aQ;have hm2:=HY.out _ (a8 hkm);have g20:=aD bU.vals 8 aC (af hkm) (r:=0) rfl;have g21:=aD bU.vals 8 aC (af hkm) (r:=1) rfl;have g22:=aD bU.vals 8 aC (af hkm) (r:=2) rfl;have g23:=aD bU.vals 8 aC (af hkm) (r:=3) rfl;have g24:=aD bU.vals 8 aC (af hkm) (r:=4) rfl;have NW:=aD bU.vals 8 aC (af hkm) (r:=5) rfl;have g26:=aD bU.vals 8 aC (af hkm) (r:=6) rfl;have g27:=aD bU.vals 8 aC (af hkm) (r:=7) rfl;have ky:=ak (hc2 _ _ g20) HW.out;have oN:=ak (hc2 _ _ g21) HW.out;have ov:=ak (hc2 _ _ g22) HW.out;have ti:=ak (hc2 _ _ g23) HW.out;have Ao:=ak (hc2 _ _ g24) HW.out;have Aq:=ak (hc2 _ _ NW) HW.out;have WZ:=ak (hc2 _ _ g26) HW.out;have W3:=ak (hc2 _ _ g27) HW.out;clear hc2 g20 g21 g22 g23 g24 NW g26 g27;generalize xs[k]=X at htw hcall hm1 d10 d11 d12 d13 ji mE jF ny;generalize ys[k]=Y at htw hcall hm2 ky oN ov ti Ao Aq WZ W3;generalize decide (X.p=Y.p)=B at htw hcall;obtain⟨fA,c11,e11⟩:=hm1.tags.shape;obtain⟨ft,c12,e12⟩:=hm1.aR.shape;obtain⟨ig,c13,e13⟩:=hm1.ends.shape;clear hm1;obtain⟨⟨key1,bG,cj,eF,dw,ik,bA,eV⟩,Yi,Yj,ev1⟩:=X;simp only at e11 e12 e13 d10 d11 d12 d13 ji mE jF ny;subst e11 e12 e13;obtain⟨iK,c21,e21⟩:=hm2.tags.shape;obtain⟨iL,iM,e22⟩:=hm2.aR.shape;obtain⟨kY,c23,e23⟩:=hm2.ends.shape;clear hm2;obtain⟨⟨key2,bB,ck,dx,cI,iR,bL,dy⟩,tv2,av2,ev2⟩:=Y;simp only at e21 e22 e23 ky oN ov ti Ao Aq WZ W3;subst e21 e22 e23;unfold bU.vals at hcall;simp only at hcall;generalize eF.length=n11 at*;generalize dw.length=n12 at*;generalize eV.length=n13 at*;generalize dx.length=n21 at*;generalize cI.length=n22 at*;generalize dy.length=n23 at*;rw[b8]at d10 ky;rw[←ku]at d11 d12 d13 ji mE jF ny oN ov ti Ao Aq WZ W3;obtain⟨bI,HTw⟩:=aN hcall htw;clear hcall htw hkl hkm;go_upto_region 6 with fail
   refine wp_region_held_drew (S:=(fun w'=>w'.cell? ⟨q1,o1+k*8,none⟩=some (.string key1)∧w'.cell? ⟨q1,o1+k*8+1,none⟩=some (.string bG)∧w'.cell? ⟨q1,o1+k*8+2,none⟩=some (.string cj)∧w'.cell? ⟨q1,o1+k*8+3,none⟩=some (.slice fA n11 c11)∧w'.cell? ⟨q1,o1+k*8+4,none⟩=some (.slice ft n12 c12)∧w'.cell? ⟨q1,o1+k*8+5,none⟩=some (.int .u64 ik)∧w'.cell? ⟨q1,o1+k*8+6,none⟩=some (.int .u8 bA)∧w'.cell? ⟨q1,o1+k*8+7,none⟩=some (.slice ig n13 c13)∧w'.cell? ⟨q2,o2+k*8,none⟩=some (.string key2)∧w'.cell? ⟨q2,o2+k*8+1,none⟩=some (.string bB)∧w'.cell? ⟨q2,o2+k*8+2,none⟩=some (.string ck)∧w'.cell? ⟨q2,o2+k*8+3,none⟩=some (.slice iK n21 c21)∧w'.cell? ⟨q2,o2+k*8+4,none⟩=some (.slice iL n22 iM)∧w'.cell? ⟨q2,o2+k*8+5,none⟩=some (.int .u64 iR)∧w'.cell? ⟨q2,o2+k*8+6,none⟩=some (.int .u8 bL)∧w'.cell? ⟨q2,o2+k*8+7,none⟩=some (.slice kY n23 c23))) bo (⟨d10,d11,d12,d13,ji,mE,jF,ny,ky,oN,ov,ti,Ao,Aq,WZ,W3⟩) (fun hHeld=>?_);refine bC 0 ?_
   refine bC 1 ?_
   refine bC 2 ?_
   refine bC 3 ?_
   refine bC 4 ?_
   refine bC 5 ?_
   refine bC 6 ?_
   refine bC 7 ?_
   refine jg 8 fun K hK=>?_;go_simp;refine(bI.out _ HW.out.drew).mono ?_;rintro r w3⟨rfl,d3⟩;refine hK.out _ _ (⟨ak hHeld.1 d3,ak hHeld.2.1 d3,ak hHeld.2.2.1 d3,ak hHeld.2.2.2.1 d3,ak hHeld.2.2.2.2.1 d3,ak hHeld.2.2.2.2.2.1 d3,ak hHeld.2.2.2.2.2.2.1 d3,ak hHeld.2.2.2.2.2.2.2.1 d3,ak hHeld.2.2.2.2.2.2.2.2.1 d3,ak hHeld.2.2.2.2.2.2.2.2.2.1 d3,ak hHeld.2.2.2.2.2.2.2.2.2.2.1 d3,ak hHeld.2.2.2.2.2.2.2.2.2.2.2.1 d3,ak hHeld.2.2.2.2.2.2.2.2.2.2.2.2.1 d3,ak hHeld.2.2.2.2.2.2.2.2.2.2.2.2.2.1 d3,ak hHeld.2.2.2.2.2.2.2.2.2.2.2.2.2.2.1 d3,ak hHeld.2.2.2.2.2.2.2.2.2.2.2.2.2.2.2 d3⟩) (fun hHeld=>?_);clear hK K;try simp only[cN]
   refine bC 9 ?_
   refine qW ?_;have HB3:=ae (after HW.out.drew d3);clear hHeld d3 d10 d11 d12 d13 ji mE jF ny ky oN ov ti Ao Aq WZ W3;cases B with
   |false=>
    have dZ:ag (R=false):=ae (by rw[HR.out];exact fq hlt HTw.out);go_wp2_with fail
    go_ret;exact⟨by rw[dZ.out];rfl,HB3.out⟩
   |true=>
    have ado:ag ((aF (k+1)).all (um (fun X Y=>decide (X.p=Y.p)) xs ys)=true):=ae (by rw[eZ,hall.out,HTw.out];rfl);go_wp2_with fail
    go_roundw
    case rel=>exact⟨k+1,by omega,by go_num,HB3,ado⟩
    case measure=>simp[intOf];omega
 ·rw[decide_eq_false hn,ux];generalize xs.length=N1 at*;generalize ys.length=N2 at*;have hne:((N1:Int) !=(N2:Int))=true:=by simp;omega
  clear hn HA1 HA2;go_enter Tryz.func41,Tryz.ntmps41;go_wp2_with fail
  go_ret;exact⟨rfl,aM _ _⟩
theorem oy{w:World}{v1 v2:Value}(l m:List Ry)(hl:l.length≤4000000)(hm:m.length≤4000000)(h1:aY w v1 l.length 6 (dQ l))(h2:aY w v2 m.length 6 (dQ m)):Calls ah 42 #[v1,v2] w (Got (.bool (decide (l=m))) w):=by
 obtain⟨A1,cap1,rfl,_,hA1⟩:=h1;obtain⟨A2,cap2,rfl,_,hA2⟩:=h2;obtain⟨HA1,HA2⟩:=aN hA1 hA2;clear hA1 hA2;by_cases hn:l.length=m.length
 ·obtain⟨N,hN⟩:=bq l.length;rw[←hn]at HA2 hm⊢;rw[←hN]at HA1 HA2 hl⊢;obtain⟨jq,kq⟩:=aN hN (hN.trans hn);clear hn hN hm;obtain⟨R,hR⟩:=bq (decide (l=m));rw[←hR];have HR:=ae hR;clear hR;go_enter Tryz.func42,Tryz.ntmps42;go_wp2_with fail
  go_loopw [5] (fun v5 wr=>∃k:Nat,k≤N∧v5=.int .i64 k∧ag (aW w wr)∧ag (l.take k=m.take k)) (fun v5 _=>N-(intOf v5).toNat)
  case atStart=>exact⟨0,bh _,rfl,ae (aM _ _),ae rfl⟩
  case round=>
   obtain⟨k,hk,rfl,HW,hsame⟩:=hrel;by_cases hlt:k<N
   ·have hkl:k<l.length:=by have:=jq.out;omega
    have hkm:k<m.length:=by have:=kq.out;omega
    obtain⟨q1,o1,rfl,hc1⟩:=HA1.out aQ;obtain⟨q2,o2,rfl,hc2⟩:=HA2.out aQ;have ht1:=aB hkl;have ht2:=aB hkm;have hne:l[k]≠m[k]→l≠m:=fun h e=>h (by simp only[e])
    have g10:=aD bF 6 bH (af hkl) (r:=0) rfl;have g11:=aD bF 6 bH (af hkl) (r:=1) rfl;have g12:=aD bF 6 bH (af hkl) (r:=2) rfl;have g13:=aD bF 6 bH (af hkl) (r:=3) rfl;have g14:=aD bF 6 bH (af hkl) (r:=4) rfl;have g15:=aD bF 6 bH (af hkl) (r:=5) rfl;have g20:=aD bF 6 bH (af hkm) (r:=0) rfl;have g21:=aD bF 6 bH (af hkm) (r:=1) rfl;have g22:=aD bF 6 bH (af hkm) (r:=2) rfl;have g23:=aD bF 6 bH (af hkm) (r:=3) rfl;have g24:=aD bF 6 bH (af hkm) (r:=4) rfl;have NW:=aD bF 6 bH (af hkm) (r:=5) rfl;have d10:=ak (hc1 _ _ g10) HW.out;have d11:=ak (hc1 _ _ g11) HW.out;have d12:=ak (hc1 _ _ g12) HW.out;have d13:=ak (hc1 _ _ g13) HW.out;have ji:=ak (hc1 _ _ g14) HW.out;have mE:=ak (hc1 _ _ g15) HW.out;have ky:=ak (hc2 _ _ g20) HW.out;have oN:=ak (hc2 _ _ g21) HW.out;have ov:=ak (hc2 _ _ g22) HW.out;have ti:=ak (hc2 _ _ g23) HW.out;have Ao:=ak (hc2 _ _ g24) HW.out;have Aq:=ak (hc2 _ _ NW) HW.out;clear g10 g11 g12 g13 g14 g15 g20 g21 g22 g23 g24 NW;generalize l[k]=X at ht1 hne d10 d11 d12 d13 ji mE;generalize m[k]=Y at ht2 hne ky oN ov ti Ao Aq;have hqq:=fun W=>abC X Y W
    obtain⟨id1,key1,⟨⟨v1,hi1,lo1⟩,po1⟩⟩:=X;obtain⟨id2,key2,⟨⟨v2,hi2,lo2⟩,po2⟩⟩:=Y;unfold bF at hqq;simp only at hqq d10 d11 d12 d13 ji mE ky oN ov ti Ao Aq;rw[b8]at d10 ky;rw[←ku]at d11 d12 d13 ji mE oN ov ti Ao Aq;clear hc1 hc2 hkl hkm;by_cases hX:(⟨id1,key1,⟨⟨v1,hi1,lo1⟩,po1⟩⟩:Ry)=⟨id2,key2,⟨⟨v2,hi2,lo2⟩,po2⟩⟩
    ·have G1:ag (l.take (k+1)=m.take (k+1)):=ae (by rw[ht1,ht2,hsame.out,hX]);have hq:=hqq;rw[decide_eq_true hX]at hq;simp only[Bool.not_true]at hq;clear hqq;clear ht1 ht2 hne hX;go_upto_region 6 with fail
     go_quiet (fail);go_wp2_with fail
     go_roundw
     case rel=>exact⟨k+1,by omega,by go_num,ae (HW.out.fS _),G1⟩
     case measure=>simp[intOf];omega
    ·have dZ:ag (R=false):=ae (by rw[HR.out];exact decide_eq_false (hne hX));have hq:=hqq;rw[decide_eq_false hX]at hq;simp only[Bool.not_false]at hq;clear hqq;clear ht1 ht2 hne hX;go_upto_region 6 with fail
     go_quiet (fail);go_wp2_with fail
     go_ret;exact⟨by rw[dZ.out];rfl,HW.out.fS _⟩
   ·obtain rfl:k=N:=by omega
    have dZ:ag (R=true):=ae (by
     rw[HR.out];have e:=hsame.out;rw[aJ (by have:=jq.out;omega),aJ (by have:=kq.out;omega)]at e;exact decide_eq_true e)
    go_wp2_with fail
    go_ret;exact⟨by rw[dZ.out];rfl,HW.out⟩
 ·have hd:decide (l=m)=false:=decide_eq_false fun e=>hn (by rw[e])
  rw[hd];generalize l.length=N1 at*;generalize m.length=N2 at*;have hne:((N1:Int) !=(N2:Int))=true:=by simp;omega
  clear hn hd HA1 HA2;go_enter Tryz.func42,Tryz.ntmps42;go_wp2_with fail
  go_ret;exact⟨rfl,aM _ _⟩
theorem Rt{w:World}{pv1 Sz pv2 rv2:Value}{x y:Mp}(hp1:dJ w pv1 x.aK)(hr1:fy w Sz x.ax)(hp2:dJ w pv2 y.aK)(hr2:fy w rv2 y.ax)(s1:∀p∈x.aK,gm p)(s2:∀p∈y.aK,gm p)(l1:x.aK.length≤4000000)(l2:y.aK.length≤4000000)(m1:x.ax.length≤4000000)(m2:y.ax.length≤4000000):Calls ah 10 #[.agg #[.int .u64 (x.version:Int),pv1,Sz,.string x.policy],.agg #[.int .u64 (y.version:Int),pv2,rv2,.string y.policy]] w (Got (.bool (decide (x=y))) w):=by
 have hre:=fun u(hu:aW w u)=>oy x.ax y.ax m1 m2 (aY.below hr1 hu) (aY.below hr2 hu)
 have hpe:=fun u(hu:aW w u)=>pS (hp1.below hu) (hp2.below hu) s1 s2 l1 l2
 obtain⟨fA,c11,e11⟩:=hp1.shape;obtain⟨ft,c12,e12⟩:=aY.shape hr1;obtain⟨iK,c21,e21⟩:=hp2.shape;obtain⟨iL,iM,e22⟩:=aY.shape hr2;clear hp1 hp2 hr1 hr2 s1 s2 l1 l2 m1 m2;rw[abD];obtain⟨gn,yR,sP,gI⟩:=x;obtain⟨jW,yS,sQ,kC⟩:=y;simp only at*;subst e11 e12 e21 e22;generalize decide (yR=yS)=BP at*;generalize decide (sP=sQ)=BR at*;generalize yR.length=n11 at*;generalize sP.length=n12 at*;generalize yS.length=n21 at*;generalize sQ.length=n22 at*;obtain⟨HP,HR,mI,HB1⟩:=cY hpe hre (aG.new w 26 #[.int .u64 gn,.slice fA n11 c11,.slice ft n12 c12,.string gI]) (boxed w (.cells #[.int .u64 gn,.slice fA n11 c11,.slice ft n12 c12,.string gI] 26));clear hpe hre;obtain⟨HB2,bP⟩:=aN (after HB1.out (boxed (w.alloc (.cells #[.int .u64 gn,.slice fA n11 c11,.slice ft n12 c12,.string gI] 26)) (.cells #[.int .u64 jW,.slice iK n21 c21,.slice iL n22 iM,.string kC] 26))) (bJ mI (boxed (w.alloc (.cells #[.int .u64 gn,.slice fA n11 c11,.slice ft n12 c12,.string gI] 26)) (.cells #[.int .u64 jW,.slice iK n21 c21,.slice iL n22 iM,.string kC] 26)));have hP2:aG ((w.alloc (.cells #[.int .u64 gn,.slice fA n11 c11,.slice ft n12 c12,.string gI] 26)).alloc (.cells #[.int .u64 jW,.slice iK n21 c21,.slice iL n22 iM,.string kC] 26)) (w.heap.size+1) 26 #[.int .u64 jW,.slice iK n21 c21,.slice iL n22 iM,.string kC]:=by
  have:=aG.new (w.alloc (.cells #[.int .u64 gn,.slice fA n11 c11,.slice ft n12 c12,.string gI] 26)) 26 #[.int .u64 jW,.slice iK n21 c21,.slice iL n22 iM,.string kC];rw[show(w.alloc (.cells #[.int .u64 gn,.slice fA n11 c11,.slice ft n12 c12,.string gI] 26)).heap.size=w.heap.size+1 by simp]at this;exact this
 have HP2:=ae hP2;clear hP2 mI HB1;obtain⟨R,hR⟩:=bq ((((gn:Int)==(jW:Int))&&((gI.toList==kC.toList)&&(BP&&BR))));rw[←hR];have vE:=ae hR;clear hR;go_enter Tryz.func10,Tryz.ntmps10;go_upto_region 1 with fail
 generalize(w.alloc (.cells #[.int .u64 gn,.slice fA n11 c11,.slice ft n12 c12,.string gI] 26)).alloc (.cells #[.int .u64 jW,.slice iK n21 c21,.slice iL n22 iM,.string kC] 26)=w2 at HB2 bP HP2⊢;generalize w.heap.size+1=Q at HP2⊢;generalize hPw:w.heap.size=P at bP⊢;have kr:=ae hPw;clear hPw;have x0:=bP.out.cell 0;have x1:=bP.out.cell 1;have x2:=bP.out.cell 2;have x3:=bP.out.cell 3;have y0:=HP2.out.cell 0;have y1:=HP2.out.cell 1;have y2:=HP2.out.cell 2;have y3:=HP2.out.cell 3;simp at x0 x1 x2 x3 y0 y1 y2 y3;cases hb0:((gn:Int)==(jW:Int))with
 |false=>
  have HE:ag (R=false):=ae (by rw[vE.out,hb0];rfl);go_wp2_with fail
  go_ret;exact⟨by rw[HE.out];rfl,HB2.out⟩
 |true=>
  cases hb1:(gI.toList==kC.toList)with
  |false=>
   have HE:ag (R=false):=ae (by rw[vE.out,hb0,hb1];rfl);go_wp2_with fail
   go_ret;exact⟨by rw[HE.out];rfl,HB2.out⟩
  |true=>
   have HE:ag (R=(BP&&BR)):=ae (by rw[vE.out,hb0,hb1];rfl);cases BP with
   |false=>
    go_wp2_with(go_at_call 41;refine(HP.out _ HB2.out).mono ?_;rintro r w3⟨rfl,d3⟩;have px2:=ak x2 d3;have py2:=ak y2 d3;have HB3:=aZ HB2 d3;clear d3)
    go_ret;exact⟨by rw[HE.out];rfl,HB3.out⟩
   |true=>
    go_wp2_with(first
     |(go_at_call 41;refine(HP.out _ HB2.out).mono ?_;rintro r w3⟨rfl,d3⟩;have px2:=ak x2 d3;have py2:=ak y2 d3;have HB3:=aZ HB2 d3;clear d3)
     |(go_at_call 42;refine(HR.out _ HB3.out).mono ?_;rintro r w4⟨rfl,d4⟩;have HB4:=aZ HB3 d4;clear d4))
    go_ret;exact⟨by rw[HE.out];rfl,HB4.out⟩
def aaF(w:World)(r:Ending)(w':World):Prop:=(∃z:Int,r=.returned (.int .i64 z))∧aW w w'
def sR(w:World)(r:Ending)(w':World):Prop:=(∃b:Bool,r=.returned (.bool b))∧aW w w'
theorem Ru{w:World}{X:bU}(hX:fC w X)(sX:gm X.p):Calls ah 15 #[.agg X.vals.toArray] w (aaF w):=by
 have hl:=sX.tl;obtain⟨⟨key1,bG,cj,eF,dw,ik,bA,eV⟩,Yi,Yj,ev1⟩:=X;obtain⟨ht,ha,he⟩:=hX;simp only at ht ha he hl;obtain⟨fA,c11,rfl,_,hT⟩:=ht;obtain⟨ft,c12,rfl⟩:=ha.shape;obtain⟨ig,c13,rfl⟩:=he.shape;rw[sO]at hT;unfold bU.vals;simp only;obtain⟨n11,hn⟩:=bq eF.length;rw[←hn]at hT hl⊢;generalize dw.length=n12 at*;generalize eV.length=n13 at*;obtain⟨HT,HN⟩:=aN hT hn;clear hT hn ha he sX;obtain⟨HB,HP⟩:=aN (boxed w (.cells #[.string key1,.string bG,.string cj,.slice fA n11 c11,.slice ft n12 c12,.int .u64 ik,.int .u8 bA,.slice ig n13 c13] 50)) (aG.new w 50 #[.string key1,.string bG,.string cj,.slice fA n11 c11,.slice ft n12 c12,.int .u64 ik,.int .u8 bA,.slice ig n13 c13]);go_enter Tryz.func15,Tryz.ntmps15;go_upto_region 1 with fail
 generalize w.alloc (.cells #[.string key1,.string bG,.string cj,.slice fA n11 c11,.slice ft n12 c12,.int .u64 ik,.int .u8 bA,.slice ig n13 c13] 50)=w1 at HB HP⊢;generalize w.heap.size=P at HP⊢;obtain⟨p0,p1,p2,p3,p4,p5,p6,p7⟩:=dA HP;go_upto_region 3 with fail
 generalize hz0:IntKind.wrap .i64 _=z0;clear hz0;go_loopw [3,4] (fun v3 v4 wr=>∃(z:Int)(k:Nat),k≤n11∧v3=.int .i64 z∧v4=.int .i64 k∧wr=w1) (fun _ v4 _=>n11-(intOf v4).toNat)
 case atStart=>exact⟨_,0,bh _,rfl,rfl,rfl⟩
 case round=>
  obtain⟨z,k,hk,rfl,rfl,rfl⟩:=hrel;by_cases hlt:k<n11
  ·have q1:(k:Int)<(n11:Int):=by omega
   by_cases h4:k<400
   ·have q2:(k:Int)<400:=by omega
    have hkl:k<eF.length:=by have:=HN.out;omega
    obtain⟨g,o,rfl,hc⟩:=HT.out aQ;have d0:=ak (hc _ _ (aD (fun x:ByteArray=>[bM x]) 1 (fun _=>rfl) (af hkl) (r:=0) rfl)) HB.out;simp only[Nat.mul_one,b8]at d0;generalize eF[k]=U at d0;clear hc hkl;go_wp2_with fail
    go_roundw
    case rel=>exact⟨_,k+1,by omega,rfl,by go_num,trivial⟩
    case measure=>simp[intOf];omega
   ·have q2:¬(k:Int)<400:=by omega
    go_wp2_with fail
    go_ret;exact⟨⟨_,rfl⟩,HB.out⟩
  ·have q1:¬(k:Int)<(n11:Int):=by omega
   go_wp2_with fail
   go_ret;exact⟨⟨_,rfl⟩,HB.out⟩
theorem yT{w:World}{pa ra:Value}{a:Mp}(ha:dJ w pa a.aK)(hr:fy w ra a.ax)(sz:∀p∈a.aK,gm p)(hl:a.aK.length≤2000000)(hl2:a.ax.length≤2000000):Calls ah 4 #[.agg #[.int .u64 (a.version:Int),pa,ra,.string a.policy]] w (sR w):=by
 obtain⟨xs,hxl,hro,hxm⟩:=ha;have szx:∀X∈xs,gm X.p:=fun X hX=>sz _ (by rw[←hxl];exact eC hX)
 have lx:xs.length=a.aK.length:=by rw[←hxl,ay]
 obtain⟨kU,ca1,rfl,_,hA⟩:=hro;obtain⟨kV,ca2,rfl,_,hR⟩:=hr;obtain⟨va,gG,fL,ta⟩:=a;simp only at*;obtain⟨ib,hn1⟩:=bq xs.length;obtain⟨ic,hn2⟩:=bq fL.length;rw[←hn1]at hA lx⊢;rw[←hn2]at hR hl2⊢;rw[←lx]at hl;have hsz:=fun k(hk:k<xs.length)u(hu:aW w u)=>Ru ((hxm _ (a8 hk)).below hu) (szx _ (a8 hk))
 have hsh:=fun k(hk:k<xs.length)=>hxm _ (a8 hk)
 obtain⟨HA,HR,jq,kq,HSz,HSh⟩:=mL hA hR hn1 hn2 hsz hsh;clear hA hR hn1 hn2 hsz hsh hxl hxm szx sz lx;obtain⟨HB,HP⟩:=aN (boxed w (.cells #[.int .u64 va,.slice kU ib ca1,.slice kV ic ca2,.string ta] 26)) (aG.new w 26 #[.int .u64 va,.slice kU ib ca1,.slice kV ic ca2,.string ta]);go_enter Tryz.func4,Tryz.ntmps4;go_upto_region 1 with fail
 generalize w.alloc (.cells #[.int .u64 va,.slice kU ib ca1,.slice kV ic ca2,.string ta] 26)=w1 at HB HP⊢;generalize w.heap.size=P at HP⊢;obtain⟨p0,p1,p2,p3⟩:=dV HP;go_upto_region 3 with fail
 go_loopw [3,4] (fun v3 v4 wr=>∃(z:Int)(k:Nat),k≤ib∧v3=.int .i64 z∧v4=.int .i64 k∧ag (aW w1 wr)) (fun _ v4 _=>ib-(intOf v4).toNat)
 case atStart=>exact⟨_,0,bh _,rfl,rfl,ae (aM _ _)⟩
 case round=>
  obtain⟨z,k,hk,rfl,rfl,HW⟩:=hrel;obtain⟨wo,rfl⟩:=bq (wr:World);have px1:=ak p1 HW.out;have px2:=ak p2 HW.out;have end_:(¬(k:Int)<(ib:Int)∨((k:Int)<(ib:Int)∧¬(k:Int)<200))∨((k:Int)<(ib:Int)∧(k:Int)<200):=by omega
  rcases end_ with hend|⟨q1,q2⟩
  ·rcases hend with q1|⟨q1,q2⟩
   ·go_upto_region 7 with fail
    go_loopw [3,5] (fun v3 v5 wr=>∃(z:Int)(k:Nat),k≤ic∧v3=.int .i64 z∧v5=.int .i64 k∧wr=wo) (fun _ v5 _=>ic-(intOf v5).toNat)
    case atStart=>exact⟨_,0,bh _,rfl,rfl,rfl⟩
    case round=>
     obtain⟨z2,j,hj,rfl,rfl,rfl⟩:=hrel;have e2:((j:Int)<(ic:Int)∧(j:Int)<300)∨(¬(j:Int)<(ic:Int))∨((j:Int)<(ic:Int)∧¬(j:Int)<300):=by omega
     rcases e2 with⟨r1,r2⟩|r1|⟨r1,r2⟩
     ·have hkl:j<fL.length:=by have:=kq.out;omega
      obtain⟨g,o,rfl,hc⟩:=HR.out aQ;have d1:=ak (ak (hc _ _ (aD bF 6 bH (af hkl) (r:=1) rfl)) HB.out) HW.out;rw[←ku]at d1;generalize fL[j]=U at d1;clear hc hkl;go_wp2_with fail
      go_roundw
      case rel=>exact⟨_,j+1,by omega,rfl,by go_num,trivial⟩
      case measure=>simp[intOf];omega
     ·go_wp2_with fail
      go_ret;exact⟨⟨_,rfl⟩,after HB.out HW.out⟩
     ·go_wp2_with fail
      go_ret;exact⟨⟨_,rfl⟩,after HB.out HW.out⟩
   ·go_upto_region 7 with fail
    go_loopw [3,5] (fun v3 v5 wr=>∃(z:Int)(k:Nat),k≤ic∧v3=.int .i64 z∧v5=.int .i64 k∧wr=wo) (fun _ v5 _=>ic-(intOf v5).toNat)
    case atStart=>exact⟨_,0,bh _,rfl,rfl,rfl⟩
    case round=>
     obtain⟨z2,j,hj,rfl,rfl,rfl⟩:=hrel;have e2:((j:Int)<(ic:Int)∧(j:Int)<300)∨(¬(j:Int)<(ic:Int))∨((j:Int)<(ic:Int)∧¬(j:Int)<300):=by omega
     rcases e2 with⟨r1,r2⟩|r1|⟨r1,r2⟩
     ·have hkl:j<fL.length:=by have:=kq.out;omega
      obtain⟨g,o,rfl,hc⟩:=HR.out aQ;have d1:=ak (ak (hc _ _ (aD bF 6 bH (af hkl) (r:=1) rfl)) HB.out) HW.out;rw[←ku]at d1;generalize fL[j]=U at d1;clear hc hkl;go_wp2_with fail
      go_roundw
      case rel=>exact⟨_,j+1,by omega,rfl,by go_num,trivial⟩
      case measure=>simp[intOf];omega
     ·go_wp2_with fail
      go_ret;exact⟨⟨_,rfl⟩,after HB.out HW.out⟩
     ·go_wp2_with fail
      go_ret;exact⟨⟨_,rfl⟩,after HB.out HW.out⟩
  ·have hkl:k<xs.length:=by have:=jq.out;omega
   obtain⟨g,o,rfl,hc⟩:=HA.out aQ;have d0:=ak (ak (hc _ _ (aD bU.vals 8 aC (af hkl) (r:=0) rfl)) HB.out) HW.out;have d1:=ak (ak (hc _ _ (aD bU.vals 8 aC (af hkl) (r:=1) rfl)) HB.out) HW.out;have d2:=ak (ak (hc _ _ (aD bU.vals 8 aC (af hkl) (r:=2) rfl)) HB.out) HW.out;have d3:=ak (ak (hc _ _ (aD bU.vals 8 aC (af hkl) (r:=3) rfl)) HB.out) HW.out;have d4:=ak (ak (hc _ _ (aD bU.vals 8 aC (af hkl) (r:=4) rfl)) HB.out) HW.out;have d5:=ak (ak (hc _ _ (aD bU.vals 8 aC (af hkl) (r:=5) rfl)) HB.out) HW.out;have d6:=ak (ak (hc _ _ (aD bU.vals 8 aC (af hkl) (r:=6) rfl)) HB.out) HW.out;have d7:=ak (ak (hc _ _ (aD bU.vals 8 aC (af hkl) (r:=7) rfl)) HB.out) HW.out;have hcall:=HSz.out k hkl wo (after HB.out HW.out);have hm1:=HSh.out k hkl;generalize xs[k]=X at hcall hm1 d0 d1 d2 d3 d4 d5 d6 d7;obtain⟨fA,c11,e11⟩:=hm1.tags.shape;obtain⟨ft,c12,e12⟩:=hm1.aR.shape;obtain⟨ig,c13,e13⟩:=hm1.ends.shape;clear hm1 hc hkl;obtain⟨⟨key1,bG,cj,eF,dw,ik,bA,eV⟩,Yi,Yj,ev1⟩:=X;unfold bU.vals at hcall;simp only at e11 e12 e13 hcall d0 d1 d2 d3 d4 d5 d6 d7;subst e11 e12 e13;generalize eF.length=n11 at hcall d3;generalize dw.length=n12 at hcall d4;generalize eV.length=n13 at hcall d7;rw[b8]at d0;rw[←ku]at d1 d2 d3 d4 d5 d6 d7;have bI:=ae hcall;clear hcall;go_wp2_with(go_at_call 15;refine bI.out.mono ?_;rintro r w2⟨⟨z2,rfl⟩,d9⟩)
   go_roundw
   case rel=>exact⟨_,k+1,by omega,rfl,by go_num,(aZ HW d9)⟩
   case measure=>simp[intOf];omega
theorem W8{d:Dl}(h:jc d=true):(Az d).length≤80000000:=by
 unfold jc at h;simp only[aX,decide_eq_true_eq]at h;obtain⟨⟨⟨⟨⟨⟨⟨⟨⟨⟨h1,h2⟩,h3⟩,h4⟩,h5⟩,h6⟩,h7⟩,h8⟩,h9⟩,h10⟩,h11⟩:=h;obtain⟨_,p2,p3⟩:=jz h9;unfold ju at h10;simp only[aX,decide_eq_true_eq]at h10;have e1:=mf qB 1000 64 d.aL p2 (fun p hp=>WQ (p3 p hp));have e2:=mf qR 100 8 d.ax h10.1.1 (fun r hr=>WR (List.all_eq_true.1 h10.2 r hr));have e3:=DR d.policy;have e4:=sw h11;have e5:=mf (fun k:ByteArray=>k.data.toList) 32 64 d.gone h4 (fun k hk=>by
  have:=List.all_eq_true.1 h7 k hk;simp only[aX,decide_eq_true_eq]at this;show k.data.toList.length≤32;rw[show k.data.toList.length=k.size from rfl];omega)
 have e6:∀(b:Bool)(x:List UInt8),(iG b x).length≤1+x.length:=fun b x=>by cases b<;>simp[iG]<;>omega
 have e7:=e6 d.cS (bT qR d.ax);have e8:=e6 d.cX (oJ d.policy);have k1:d.hash.data.toList.length=32:=h3;unfold Az;simp only[ai,aP,k1];omega
theorem LD{w:World}{x y:Dl}{sv1 gv1 Sz sv2 gv2 rv2:Value}(h1:kz w x sv1 gv1 Sz)(h2:kz w y sv2 gv2 rv2)(s1:yF x)(s2:yF y):Calls ah 14 #[.agg (fc x sv1 gv1 Sz),.agg (fc y sv2 gv2 rv2)] w (Got (.bool (decide (x=y))) w):=by
 obtain⟨R,hR⟩:=bq (decide (x=y));rw[←hR];have hpe:=fun u(hu:aW w u)=>pS (h1.aL.below hu) (h2.aL.below hu) s1.aL s2.aL (by have:=s1.sl;omega) (by have:=s2.sl;omega)
 have hre:=fun u(hu:aW w u)=>oy x.ax y.ax (by have:=s1.rl;omega) (by have:=s2.rl;omega) (aY.below h1.ax hu) (aY.below h2.ax hu)
 have lg:=s1.gl;obtain⟨fA,c11,e11⟩:=h1.aL.shape;obtain⟨ig,c13,e13⟩:=aY.shape h1.ax;obtain⟨iK,c21,e21⟩:=h2.aL.shape;obtain⟨kY,c23,e23⟩:=aY.shape h2.ax;obtain⟨ft,c12,e12,_,hg1⟩:=h1.gone;obtain⟨iL,iM,e22,_,hg2⟩:=h2.gone;rw[sO]at hg1 hg2;clear h1 h2 s1 s2;obtain⟨mg,gn,set1,np,mh,W9,mj,gI,oC⟩:=x;obtain⟨pq,jW,set2,sS,yU,adp,yV,kC,G6⟩:=y;simp only at*;subst e11 e12 e13 e21 e22 e23;unfold fc;simp only;have hand:mg=pq→gn=jW→mh=yU→mj=yV→gI=kC→oC=G6→np=sS→R=(decide (set1=set2)&&decide (W9=adp)):=by
  intro q1 q2 q3 q4 q5 q6 q7;subst q1 q2 q3 q4 q5 q6 q7;rw[hR,fE];simp
 generalize decide (set1=set2)=BP at hpe hand;generalize decide (W9=adp)=BR at hre hand;generalize set1.length=n11 at*;generalize set2.length=n21 at*;generalize W9.length=n13 at*;generalize adp.length=n23 at*;obtain⟨n12,vO⟩:=bq np.length;obtain⟨n22,G5⟩:=bq sS.length;rw[←vO]at hg1 lg⊢;rw[←G5]at hg2⊢;obtain⟨HPe,Lq,HG1,HG2,HR,HAnd,jq,kq⟩:=SA hpe hre hg1 hg2 hR hand vO G5;clear hpe hre hg1 hg2 hR hand vO G5;have hb1:=boxed w (.cells #[.int .u64 mg,.int .u64 gn,.slice fA n11 c11,.slice ft n12 c12,.bool mh,.slice ig n13 c13,.bool mj,.string gI,.string oC] 29);have hp1:=aG.new w 29 #[.int .u64 mg,.int .u64 gn,.slice fA n11 c11,.slice ft n12 c12,.bool mh,.slice ig n13 c13,.bool mj,.string gI,.string oC];have hb2:=boxed (w.alloc (.cells #[.int .u64 mg,.int .u64 gn,.slice fA n11 c11,.slice ft n12 c12,.bool mh,.slice ig n13 c13,.bool mj,.string gI,.string oC] 29)) (.cells #[.int .u64 pq,.int .u64 jW,.slice iK n21 c21,.slice iL n22 iM,.bool yU,.slice kY n23 c23,.bool yV,.string kC,.string G6] 29);have hp2:=aG.new (w.alloc (.cells #[.int .u64 mg,.int .u64 gn,.slice fA n11 c11,.slice ft n12 c12,.bool mh,.slice ig n13 c13,.bool mj,.string gI,.string oC] 29)) 29 #[.int .u64 pq,.int .u64 jW,.slice iK n21 c21,.slice iL n22 iM,.bool yU,.slice kY n23 c23,.bool yV,.string kC,.string G6];rw[show(w.alloc (.cells #[.int .u64 mg,.int .u64 gn,.slice fA n11 c11,.slice ft n12 c12,.bool mh,.slice ig n13 c13,.bool mj,.string gI,.string oC] 29)).heap.size=w.heap.size+1 by simp]at hp2;obtain⟨mI,HP2,HB2⟩:=bu (hp1.below hb2 hp1.lt) hp2 (after hb1 hb2);clear hb1 hp1 hb2 hp2;go_enter Tryz.func14,Tryz.ntmps14;go_upto_region 1 with fail
 generalize(w.alloc (.cells #[.int .u64 mg,.int .u64 gn,.slice fA n11 c11,.slice ft n12 c12,.bool mh,.slice ig n13 c13,.bool mj,.string gI,.string oC] 29)).alloc (.cells #[.int .u64 pq,.int .u64 jW,.slice iK n21 c21,.slice iL n22 iM,.bool yU,.slice kY n23 c23,.bool yV,.string kC,.string G6] 29)=w2 at HB2 mI HP2⊢;generalize w.heap.size+1=Q at HP2⊢;generalize hPw:w.heap.size=P at mI⊢;have kr:=ae hPw;clear hPw;obtain⟨x0,x1,x2,x3,x4,x5,x6,x7,x8⟩:=oR mI;obtain⟨y0,y1,y2,y3,y4,y5,y6,y7,y8⟩:=oR HP2;by_cases k0:mg=pq;rotate_left
 ·have zk0:((mg:Int) !=(pq:Int))=true:=by simp;omega
  have dt:ag (R=false):=ae (by rw[HR.out];exact decide_eq_false (fun e=>k0 (by injection e)));clear k0;go_wp2_with fail
  go_ret;exact⟨by rw[dt.out];rfl,HB2.out⟩
 have z0:((mg:Int) !=(pq:Int))=false:=by simp[k0]
 by_cases k1:gn=jW;rotate_left
 ·have zk1:((gn:Int) !=(jW:Int))=true:=by simp;omega
  have dt:ag (R=false):=ae (by rw[HR.out];exact decide_eq_false (fun e=>k1 (by injection e)));clear k0 k1;go_wp2_with fail
  go_ret;exact⟨by rw[dt.out];rfl,HB2.out⟩
 have z1:((gn:Int) !=(jW:Int))=false:=by simp[k1]
 by_cases k2:mh=yU;rotate_left
 ·have zk2:(mh==yU)=false:=by simp[k2]
  have dt:ag (R=false):=ae (by rw[HR.out];exact decide_eq_false (fun e=>k2 (by injection e)));clear k0 k1 k2;go_wp2_with fail
  go_ret;exact⟨by rw[dt.out];rfl,HB2.out⟩
 have z2:(mh==yU)=true:=by simp[k2]
 by_cases k3:mj=yV;rotate_left
 ·have zk3:(mj==yV)=false:=by simp[k3]
  have dt:ag (R=false):=ae (by rw[HR.out];exact decide_eq_false (fun e=>k3 (by injection e)));clear k0 k1 k2 k3;go_wp2_with fail
  go_ret;exact⟨by rw[dt.out];rfl,HB2.out⟩
 have z3:(mj==yV)=true:=by simp[k3]
 by_cases k4:gI=kC;rotate_left
 ·have zk4:=fR k4;have dt:ag (R=false):=ae (by rw[HR.out];exact decide_eq_false (fun e=>k4 (by injection e)));clear k0 k1 k2 k3 k4;go_wp2_with fail
  go_ret;exact⟨by rw[dt.out];rfl,HB2.out⟩
 have z4:=eX k4;by_cases k5:oC=G6;rotate_left
 ·have zk5:=fR k5;have dt:ag (R=false):=ae (by rw[HR.out];exact decide_eq_false (fun e=>k5 (by injection e)));clear k0 k1 k2 k3 k4 k5;go_wp2_with fail
  go_ret;exact⟨by rw[dt.out];rfl,HB2.out⟩
 have z5:=eX k5;by_cases k6:n12=n22;rotate_left
 ·have z6:((n12:Int) !=(n22:Int))=true:=by simp;omega
  have dt:ag (R=false):=ae (by rw[HR.out];exact decide_eq_false (fun e=>k6 (by rw[jq.out,kq.out];injection e with _ _ _ e;rw[e])));clear k0 k1 k2 k3 k4 k5 k6;go_wp2_with fail
  go_ret;exact⟨by rw[dt.out];rfl,HB2.out⟩
 have z6:((n12:Int) !=(n22:Int))=false:=by simp[k6]
 obtain⟨E0,E1,E2,E3,E4,E5,E6⟩:=mM k0 k1 k2 k3 k4 k5 k6;clear k0 k1 k2 k3 k4 k5 k6;go_upto_region 3 with fail
 clear z0 z1 z2 z3 z4 z5 z6;go_upto_region 4 with fail
 go_loopw [5] (fun v wr=>∃k:Nat,k≤n12∧v=.int .i64 k∧ag (aW w2 wr)∧ag (np.take k=sS.take k)) (fun v _=>n12-(intOf v).toNat)
 case atStart=>exact⟨0,bh _,rfl,ae (aM _ _),ae rfl⟩
 case round=>
  obtain⟨k,hk,rfl,HW,hsame⟩:=hrel;obtain⟨wo,rfl⟩:=bq (wr:World);have px:=ak x3 HW.out;have qx:=ak y3 HW.out;by_cases hlt:k<n12
  ·have hkl:k<np.length:=by have:=jq.out;omega
   have hkm:k<sS.length:=by have:=kq.out;have:=E6.out;omega
   obtain⟨q1,o1,rfl,hc1⟩:=HG1.out aQ;obtain⟨q2,o2,rfl,hc2⟩:=HG2.out (by have:=E6.out;omega);have ht1:=aB hkl;have ht2:=aB hkm;have hne:np[k]≠sS[k]→np≠sS:=fun h e=>h (by simp only[e])
   have d10:=ak (ak (hc1 _ _ (aD (fun x:ByteArray=>[bM x]) 1 (fun _=>rfl) (af hkl) (r:=0) rfl)) HB2.out) HW.out;have ky:=ak (ak (hc2 _ _ (aD (fun x:ByteArray=>[bM x]) 1 (fun _=>rfl) (af hkm) (r:=0) rfl)) HB2.out) HW.out;have z0:(k:Int)<(n12:Int):=by omega
   have z1:(k:Int)<(n22:Int):=by have:=E6.out;omega
   have z2:(0:Int)≤(k:Int):=by omega
   generalize np[k]=U at ht1 hne d10;generalize sS[k]=V at ht2 hne ky;clear hc1 hc2 hkl hkm;simp only[Nat.mul_one,b8]at d10 ky;by_cases hX:U=V
   ·have G1:ag (np.take (k+1)=sS.take (k+1)):=ae (by rw[ht1,ht2,hsame.out,hX]);have hq:=eX hX;clear ht1 ht2 hne hX;go_upto_region 6 with fail
    go_quiet (fail);go_wp2_with fail
    go_roundw
    case rel=>exact⟨k+1,by omega,by go_num,ae (HW.out.fS _),G1⟩
    case measure=>simp[intOf];omega
   ·have dZ:ag (R=false):=ae (by rw[HR.out];exact decide_eq_false (fun e=>hne hX (congrArg Dl.gone e)));have hq:=fR hX;clear ht1 ht2 hne hX;go_upto_region 6 with fail
    go_quiet (fail);go_wp2_with fail
    go_ret;exact⟨by rw[dZ.out];rfl,after HB2.out (HW.out.fS _)⟩
  ·obtain rfl:k=n12:=by omega
   have he0:np=sS:=by
    have e:=hsame.out;rw[aJ (by have:=jq.out;omega),aJ (by have:=kq.out;have:=E6.out;omega)]at e;exact e
   have HE:ag (R=(BP&&BR)):=ae (HAnd.out E0.out E1.out E2.out E3.out E4.out E5.out he0);clear he0 hsame;have px2:=ak x2 HW.out;have qx2:=ak y2 HW.out;have px5:=ak x5 HW.out;have qx5:=ak y5 HW.out;have HB3:=ae (after HB2.out HW.out);cases BP with
   |false=>
    go_wp2_with(go_at_call 41;refine(HPe.out _ HB3.out).mono ?_;rintro r w3⟨rfl,d3⟩;have HB4:=aZ HB3 d3;clear d3)
    go_ret;exact⟨by rw[HE.out];rfl,HB4.out⟩
   |true=>
    go_wp2_with(first
     |(go_at_call 41;refine(HPe.out _ HB3.out).mono ?_;rintro r w3⟨rfl,d3⟩;have rx5:=ak px5 d3;have sx5:=ak qx5 d3;have HB4:=aZ HB3 d3;clear d3)
     |(go_at_call 42;refine(Lq.out _ HB4.out).mono ?_;rintro r w4⟨rfl,d4⟩;have nw:=aZ HB4 d4;clear d4))
    go_ret;exact⟨by rw[HE.out];rfl,nw.out⟩
theorem G7{w:World}{d:Dl}{sv gv rv:Value}(hd:kz w d sv gv rv)(sz:yF d):Calls ah 5 #[.agg (fc d sv gv rv)] w (sR w):=by
 have hhv:∀u,aW w u→Calls ah 4 #[.agg #[.int .u64 0,sv,rv,.string d.policy]] u (sR u):=fun u hu=>yT (a:=⟨0,d.aL,d.ax,d.policy⟩) (hd.aL.below hu) (aY.below hd.ax hu) sz.aL sz.sl sz.rl
 obtain⟨fA,c11,e11⟩:=hd.aL.shape;obtain⟨ig,c13,e13⟩:=aY.shape hd.ax;obtain⟨ft,c12,e12,_,hg⟩:=hd.gone;rw[sO]at hg;have lg:=sz.gl;clear hd sz;obtain⟨mg,gn,set1,np,mh,W9,mj,gI,oC⟩:=d;simp only at*;subst e11 e12 e13;unfold fc;simp only;generalize set1.length=n11 at*;generalize W9.length=n13 at*;obtain⟨n12,vO⟩:=bq np.length;rw[←vO]at hg lg⊢;obtain⟨HHv,HG,HN⟩:=bu hhv hg vO;clear hhv hg vO;obtain⟨HB,HP⟩:=aN (boxed w (.cells #[.int .u64 mg,.int .u64 gn,.slice fA n11 c11,.slice ft n12 c12,.bool mh,.slice ig n13 c13,.bool mj,.string gI,.string oC] 29)) (aG.new w 29 #[.int .u64 mg,.int .u64 gn,.slice fA n11 c11,.slice ft n12 c12,.bool mh,.slice ig n13 c13,.bool mj,.string gI,.string oC]);go_enter Tryz.func5,Tryz.ntmps5;go_upto_region 1 with fail
 generalize w.alloc (.cells #[.int .u64 mg,.int .u64 gn,.slice fA n11 c11,.slice ft n12 c12,.bool mh,.slice ig n13 c13,.bool mj,.string gI,.string oC] 29)=w1 at HB HP⊢;generalize w.heap.size=P at HP⊢;obtain⟨x0,x1,x2,x3,x4,x5,x6,x7,x8⟩:=oR HP;go_upto_region 3 with fail
 go_loopw [3,4] (fun v3 v4 wr=>∃(z:Int)(k:Nat),k≤n12∧v3=.int .i64 z∧v4=.int .i64 k∧wr=w1) (fun _ v4 _=>n12-(intOf v4).toNat)
 case atStart=>exact⟨_,0,bh _,rfl,rfl,rfl⟩
 case round=>
  obtain⟨z,k,hk,rfl,rfl,rfl⟩:=hrel;have e2:((k:Int)<(n12:Int)∧(k:Int)<300)∨((¬(k:Int)<(n12:Int))∨((k:Int)<(n12:Int)∧¬(k:Int)<300)):=by omega
  rcases e2 with⟨r1,r2⟩|e2
  ·have hkl:k<np.length:=by have:=HN.out;omega
   obtain⟨g,o,rfl,hc⟩:=HG.out aQ;have d0:=ak (hc _ _ (aD (fun x:ByteArray=>[bM x]) 1 (fun _=>rfl) (af hkl) (r:=0) rfl)) HB.out;simp only[Nat.mul_one,b8]at d0;generalize np[k]=U at d0;clear hc hkl;go_wp2_with fail
   go_roundw
   case rel=>exact⟨_,k+1,by omega,rfl,by go_num,trivial⟩
   case measure=>simp[intOf];omega
  ·rcases e2 with r1|⟨r1,r2⟩
   all_goals
    by_cases hz:(8192:Int)<z
    ·go_wp2_with fail
     go_ret;exact⟨⟨_,rfl⟩,HB.out⟩
    ·go_wp2_with(go_at_call 4;refine(HHv.out _ HB.out).mono ?_;rintro r w2⟨⟨bb,rfl⟩,d2⟩)
     go_ret;exact⟨⟨_,rfl⟩,after HB.out d2⟩
section
variable{P:Program}
theorem eG{ops:Array Oper}{rest:List Oper}{o:Oper}{a:Act}{w w':World}{Q:Exit→Act→World→Prop}(hgd:o.guard=none)(s x:Operand)(t u:TypeId)(ho:o.op=.call {callee:=.builtin .append,args:= #[s,x],argTypes:= #[t,u]}){v y v':Value}(hs:a.eval s=v)(hx:a.eval x=y)(hr:(Builtin.append_ #[t,u] o.type #[v,y]).run P w=.ok v' w')(h:wpList P ops Q rest (a.put o.dst v') w'):wpList P ops Q (o::rest) a w:=by
 refine wpList_plain hgd fun K hK=>?_
 unfold Oper.wp execOp;simp only[ho,resolve,invoke,builtin,Sem.run_bind,Sem.run_pure,Result.andThen_ok,List.map_toArray,i6,List.map_nil,hs,hx,hr];exact hK _ _ h
end
structure agS(B0 M i n:Nat)(T e:TypeId)(size:Nat)(xs:List Value)(cs:Array Value)(v:World)(B:Option Addr)(m:Nat)(u:World):Prop where
 fz:u.frozen? ⟨M,i,none⟩=false
 cl:u.cell? ⟨M,i,none⟩=cs[i]?
 blk:aG (u.setCell ⟨M,i,none⟩ (.slice B n m)) M T (cs.setIfInBounds i (.slice B n m))
 own:(u.setCell ⟨M,i,none⟩ (.slice B n m)).ownsRow B0 e size (.slice B n m) n xs
 rows:∀(t:TypeId)(sz k:Nat)(x:Value)(ys:List Value),v.ownsRow B0 t sz x k ys→(u.setCell ⟨M,i,none⟩ (.slice B n m)).ownsRow B0 t sz x k ys
 below:∀a:World,a.heap.size≤M→aW a v→aW a (u.setCell ⟨M,i,none⟩ (.slice B n m))
 Xa:v.heap.size≤(u.setCell ⟨M,i,none⟩ (.slice B n m)).heap.size
 db:aW v u
theorem qw{v:World}{B0 M n:Nat}(i:Nat){T t e:TypeId}{cs:Array Value}{z:Value}{size bytes:Nat}(hM:aG v M T cs)(hlt:M<B0)(hB:B0≤v.heap.size)(ht:ah.underlying t=some (.slice e))(hi:(ah.info? e).map (fun i=>(i.zero,i.size,i.bytes))=some (some z,size,bytes))(hzs:z.cells.size=size)(hsz:0<size){x:Value}{xs:List Value}(h:aY v x n size xs)(h1:∀u∈xs,u.oneCell'=true)(hn:n≤4000000)(hb:bytes≤4096):∃B m u,(Builtin.append_ #[t,t] t #[au,x]).run ah v=.ok (.slice B n m) u∧agS B0 M i n T e size xs cs v B m u:=by
 obtain⟨s0,hin,hz0,hz1,hz2⟩:=info_parts hi;obtain⟨B,m,u,hr,ho,hd⟩:=JZ v B0 t t e s0 z size bytes ht hin hz0 hz1 hz2 hzs hsz h h1 hn hb hB;have hm:=hM.below hd hM.lt;exact⟨B,m,u,hr,hm.frozen i,hm.cell i,hm.aL i _,aU ho hlt,fun _ _ _ _ _ hy=>aU (own_below hy hd) hlt,fun a ha hv=>(hv.trans (hd.mono hv.size)).setCell (p:=⟨M,i,none⟩) ha _,by have:=hd.size;simp;omega,hd⟩
theorem pT{w:World}{v:Value}{l:List Pr}(hp:dJ w v l)(sz:∀p∈l,gm p)(hl:l.length≤2000000):Calls ah 32 #[v] w (vm l w):=by
 obtain⟨xs,hxl,hr,hm⟩:=hp;obtain⟨j0,lD,hz0,hz1,hz2⟩:=info_parts nh;obtain⟨N,hN⟩:=bq xs.length;have hlN:l.length=N:=by rw[←hxl,ay,hN]
 obtain⟨A0,cap0,rfl,_,hA⟩:=hr;unfold vm;rw[hlN]at hl⊢;rw[←hN]at hA⊢;obtain⟨HA,HM,HN,VY,HSz⟩:=ej hA hm hN hxl sz;clear hA hm hN hxl sz hlN;go_enter Tryz.func32,Tryz.ntmps32;go_wp2_with fail
 go_loopw [3,4] (fun v3 v4 wr=>∃(k:Nat)(A:Option Addr)(c:Nat)(ys:List bU),k≤N∧v4=.int .i64 k∧v3=.slice A k c∧ag (wr.ownsRow w.heap.size 50 8 (.slice A k c) k (cZ ys))∧ag (∀Y∈ys,di wr w.heap.size Y)∧ag (ys.map (·.p)=(xs.take k).map (·.p))∧ag (ys.length=k)∧ag (aW w wr)) (fun _ v4 _=>N-(intOf v4).toNat)
 case atStart=>exact⟨0,none,0,[],bh _,rfl,rfl,ae (bg _ _ _ _),ae (fun Y hY=>by cases hY),ae rfl,ae rfl,ae (aM _ _)⟩
 case round=>
  obtain⟨k,A,c,ys,hk,rfl,rfl,how,hys,hmap,hyl,HW⟩:=hrel;obtain⟨wo,rfl⟩:=bq (wr:World);by_cases hlt:k<N
  case neg=>
   obtain rfl:N=k:=by omega
   have hfin:ag (cn wo w.heap.size (.slice A N c) l):=ae (by
    have e:=hmap.out;rw[aJ (by rw[HN.out];exact Nat.le_refl _),VY.out]at e;exact⟨ys,e,by rw[hyl.out];exact how.out,hys.out⟩)
   clear how hys hmap hyl;go_wp2_with fail
   go_ret;exact⟨⟨A,c,rfl,hfin.out⟩,HW.out⟩
  have hkl:k<xs.length:=by have:=HN.out;omega
  have htn:=wP (af hkl);obtain⟨q1,o1,rfl,hc1⟩:=HA.out aQ;have hm1:=HM.out _ (a8 hkl);have hs1:=HSz.out _ (by rw[←VY.out];exact eC (a8 hkl));have g10:=aD bU.vals 8 aC (af hkl) (r:=0) rfl;have g11:=aD bU.vals 8 aC (af hkl) (r:=1) rfl;have g12:=aD bU.vals 8 aC (af hkl) (r:=2) rfl;have g13:=aD bU.vals 8 aC (af hkl) (r:=3) rfl;have g14:=aD bU.vals 8 aC (af hkl) (r:=4) rfl;have g15:=aD bU.vals 8 aC (af hkl) (r:=5) rfl;have g16:=aD bU.vals 8 aC (af hkl) (r:=6) rfl;have g17:=aD bU.vals 8 aC (af hkl) (r:=7) rfl;have d10:=ak (hc1 _ _ g10) HW.out;have d11:=ak (hc1 _ _ g11) HW.out;have d12:=ak (hc1 _ _ g12) HW.out;have d13:=ak (hc1 _ _ g13) HW.out;have ji:=ak (hc1 _ _ g14) HW.out;have mE:=ak (hc1 _ _ g15) HW.out;have jF:=ak (hc1 _ _ g16) HW.out;have ny:=ak (hc1 _ _ g17) HW.out;clear hc1 g10 g11 g12 g13 g14 g15 g16 g17;generalize xs[k]=X at htn hm1 hs1 d10 d11 d12 d13 ji mE jF ny;obtain⟨fA,c11,e11⟩:=hm1.tags.shape;obtain⟨ft,c12,e12⟩:=hm1.aR.shape;obtain⟨ig,c13,e13⟩:=hm1.ends.shape;have rt:=hm1.tags;have ra:=hm1.aR;have re:=hm1.ends;have st:=hs1.tl;have sa:=hs1.al;have se:=hs1.el;clear hm1 hs1;obtain⟨⟨key1,bG,cj,eF,dw,ik,bA,eV⟩,Yi,Yj,ev1⟩:=X;simp only at e11 e12 e13 d10 d11 d12 d13 ji mE jF ny rt ra re st sa se;subst e11 e12 e13;obtain⟨n11,yA⟩:=bq eF.length;obtain⟨n12,yB⟩:=bq dw.length;obtain⟨n13,yC⟩:=bq eV.length;rw[←yA]at d13 rt st;rw[←yB]at ji ra sa;rw[←yC]at ny re se;rw[b8]at d10;rw[←ku]at d11 d12 d13 ji mE jF ny;obtain⟨RT,RA,RE,jq,kq,vF,HTn⟩:=mM rt ra re yA yB yC htn;clear htn hkl yA yB yC rt ra re;have hbx:=boxed wo (.cells #[.string key1,.string bG,.string cj,.slice fA n11 c11,.slice ft n12 c12,.int .u64 ik,.int .u8 bA,.slice ig n13 c13] 50);have M0:=ae (aG.new wo 50 #[.string key1,.string bG,.string cj,.slice fA n11 c11,.slice ft n12 c12,.int .u64 ik,.int .u8 bA,.slice ig n13 c13]);have DT:ag (wo.heap.size+1≤(wo.alloc (.cells #[.string key1,.string bG,.string cj,.slice fA n11 c11,.slice ft n12 c12,.int .u64 ik,.int .u8 bA,.slice ig n13 c13] 50)).heap.size):=ae (by simp);have NY:=ae hbx;clear hbx;go_upto_region 6 with fail
  generalize wo.alloc (.cells #[.string key1,.string bG,.string cj,.slice fA n11 c11,.slice ft n12 c12,.int .u64 ik,.int .u8 bA,.slice ig n13 c13] 50)=w1 at M0 DT NY⊢;obtain⟨P,hP⟩:=bq wo.heap.size;rw[←hP]at M0 DT⊢;have kr:ag (wo.heap.size≤P):=ae (Nat.le_of_eq hP.symm);have qE:ag (P<P+1):=ae (Nat.lt_succ_self P);have adq:=DT;have HPq:ag (w.heap.size≤P+1):=ae (by have:=HW.out.size;omega);clear d10 d11 d12 d13 ji mE jF ny hP DT;obtain⟨-,-,-,y0⟩:=dV M0;obtain⟨B1,m1,u1,hr1,ha1⟩:=qw 3 M0.out qE.out adq.out abb wL rfl aH (RT.out.below (after HW.out NY.out)) (CU eF) aQ aH;obtain⟨R1,A1⟩:=aN hr1 ha1;have q1:=ha1.cl;have f1:=ha1.fz;simp at q1;clear hr1 ha1;go_upto_region 7 with(at_builtin;refine eG rfl _ _ _ _ rfl rfl rfl R1.out ?_)
  have M1:ag (aG (u1.setCell ⟨P,3,none⟩ (.slice B1 n11 m1)) P 50 #[.string key1,.string bG,.string cj,.slice B1 n11 m1,.slice ft n12 c12,.int .u64 ik,.int .u8 bA,.slice ig n13 c13]):=ae A1.out.blk;have HB1:=ae (A1.out.below wo kr.out NY.out);have DT:ag (P+1≤(u1.setCell ⟨P,3,none⟩ (.slice B1 n11 m1)).heap.size):=ae (aw adq.out A1.out.Xa);have O1:=ae A1.out.own;generalize u1.setCell ⟨P,3,none⟩ (.slice B1 n11 m1)=v1 at M1 HB1 DT O1⊢;clear y0 q1 f1 A1 R1 M0 adq NY;obtain⟨-,-,-,-,y1⟩:=ID M1;obtain⟨B2,m2,u2,hr2,ha2⟩:=qw 4 M1.out qE.out DT.out Tryz.underlying47 GG rfl aH (RA.out.below (after HW.out HB1.out)) (ND dw) aQ aH;obtain⟨R2,A2⟩:=aN hr2 ha2;have q2:=ha2.cl;have f2:=ha2.fz;simp at q2;clear hr2 ha2;go_upto_region 8 with(at_builtin;refine eG rfl _ _ _ _ rfl rfl rfl R2.out ?_)
  have M2:ag (aG (u2.setCell ⟨P,4,none⟩ (.slice B2 n12 m2)) P 50 #[.string key1,.string bG,.string cj,.slice B1 n11 m1,.slice B2 n12 m2,.int .u64 ik,.int .u8 bA,.slice ig n13 c13]):=ae A2.out.blk;have HB2:=ae (A2.out.below wo kr.out HB1.out);have Q9:ag (P+1≤(u2.setCell ⟨P,4,none⟩ (.slice B2 n12 m2)).heap.size):=ae (aw DT.out A2.out.Xa);obtain⟨O1b,O2⟩:=aN (A2.out.rows _ _ _ _ _ O1.out) A2.out.own;generalize u2.setCell ⟨P,4,none⟩ (.slice B2 n12 m2)=v2 at M2 HB2 Q9 O1b O2⊢;clear y1 q2 f2 A2 R2 M1 HB1 DT O1;have y2:=M2.out.cell 7;simp at y2;obtain⟨B3,m3,u3,hr3,ha3⟩:=qw 7 M2.out qE.out Q9.out Tryz.underlying48 GH rfl aH (RE.out.below (after HW.out HB2.out)) (NC eV) aQ aH;obtain⟨R3,A3⟩:=aN hr3 ha3;have q3:=ha3.cl;have f3:=ha3.fz;simp at q3;clear hr3 ha3;go_upto_region 9 with(at_builtin;refine eG rfl _ _ _ _ rfl rfl rfl R3.out ?_)
  have M3:ag (aG (u3.setCell ⟨P,7,none⟩ (.slice B3 n13 m3)) P 50 #[.string key1,.string bG,.string cj,.slice B1 n11 m1,.slice B2 n12 m2,.int .u64 ik,.int .u8 bA,.slice B3 n13 m3]):=ae A3.out.blk;obtain⟨HB3,O1c,O2c,O3⟩:=cY (A3.out.below wo kr.out HB2.out) (A3.out.rows _ _ _ _ _ O1b.out) (A3.out.rows _ _ _ _ _ O2.out) A3.out.own;generalize u3.setCell ⟨P,7,none⟩ (.slice B3 n13 m3)=v3 at M3 HB3 O1c O2c O3⊢;clear y2 q3 f3 A3 R3 M2 HB2 Q9 O1b O2;obtain⟨z0,z1,z2,z3,z4,z5,z6,z7⟩:=dA M3;have Is:=ae (own_below how.out HB3.out);have HYs:ag (∀Y∈ys,di v3 w.heap.size Y):=ae (fun Y hY=>(hys.out Y hY).low HB3.out);have iY:ag (di v3 w.heap.size ⟨⟨key1,bG,cj,eF,dw,ik,bA,eV⟩,.slice B1 n11 m1,.slice B2 n12 m2,.slice B3 n13 m3⟩):=ae ⟨by simp only;rw[←jq.out];exact O1c.out.mono HPq.out,by simp only;rw[←kq.out];exact O2c.out.mono HPq.out,by simp only;rw[←vF.out];exact O3.out.mono HPq.out⟩;have HBv:=ae (after HW.out HB3.out);clear how hys HW O1c O2c O3 HB3;go_wp2_with(at_builtin;refine wpList_append_own _ rfl _ _ 23 rfl w.heap.size 50 j0 (.agg #[aI,aI,aI,au,au,.int .u64 0,.int .u8 0,au]) 8 136 Tryz.underlying23 lD hz0 hz1 hz2 rfl aH _ k _ rfl (Is.out.alloc _) ⟨v3.heap.size,0,none⟩ 1 1 [.string key1,.string bG,.string cj,.slice B1 n11 m1,.slice B2 n12 m2,.int .u64 ik,.int .u8 bA,.slice B3 n13 m3] rfl rfl (cQ v3 [.string key1,.string bG,.string cj,.slice B1 n11 m1,.slice B2 n12 m2,.int .u64 ik,.int .u8 bA,.slice B3 n13 m3] 50) (by intro u hu;simp at hu;rcases hu with rfl|rfl|rfl|rfl|rfl|rfl|rfl|rfl<;>rfl) (by unfold maxLen;omega) aQ (by have:=HBv.out.size;simp;omega) ?_;intro v' w4 qf hg4 hn4;obtain⟨A4,c4,rfl⟩:=aV qf;obtain⟨wN,wO⟩:=aN qf hg4;clear qf hg4 hn4)
  go_roundw
  case rel=>
   have hb3:=boxed v3 (.cells ([.string key1,.string bG,.string cj,.slice B1 n11 m1,.slice B2 n12 m2,.int .u64 ik,.int .u8 bA,.slice B3 n13 m3]:List Value).toArray 50);have hkr:=Keeps.row wO.out;have hoff:=cE (Is.out.alloc (.cells ([.string key1,.string bG,.string cj,.slice B1 n11 m1,.slice B2 n12 m2,.int .u64 ik,.int .u8 bA,.slice B3 n13 m3]:List Value).toArray 50));refine⟨k+1,A4,c4,ys++[⟨⟨key1,bG,cj,eF,dw,ik,bA,eV⟩,.slice B1 n11 m1,.slice B2 n12 m2,.slice B3 n13 m3⟩],by omega,by go_num,rfl,ae (by rw[lB];exact wN.out),ae ?_,ae (by rw[cH,HTn.out,cH,hmap.out];rfl),ae (by rw[ai,hyl.out];rfl),ae ((HBv.out.alloc HBv.out.size _).grown wO.out (by have:=HBv.out.size;simp;omega) fun q hq=>(Is.out.lt q hq).1)⟩;intro Y hY;rcases List.mem_append.1 hY with hY|hY
   ·exact((HYs.out Y hY).low hb3).keep hkr hoff aH aH (by decide)
   ·rw[List.mem_singleton.1 hY];exact((iY.out.low hb3).keep hkr hoff aH aH aH)
  case measure=>simp[intOf];omega
theorem Rw{w:World}{pv rv:Value}{m:Mp}(hp:dJ w pv m.aK)(hr:fy w rv m.ax)(sz:∀p∈m.aK,gm p)(hl:m.aK.length≤2000000)(hrl:m.ax.length≤2000000):Calls ah 8 #[.agg #[.int .u64 (m.version:Int),pv,rv,.string m.policy]] w (V2 m w):=by
 have ha:=fun u(hu:aW w u)=>pT (hp.below hu) sz hl
 have hc:=hr;obtain⟨A1,c1,e1⟩:=hp.shape;obtain⟨A2,c2,e2⟩:=aY.shape hr;have hone:=sH m.ax;clear hp hr sz hl;obtain⟨ver,aK,ax,pol⟩:=m;simp only at*;subst e1 e2;unfold vm at ha;unfold V2;simp only;obtain⟨n1,hn1⟩:=bq aK.length;obtain⟨n2,hn2⟩:=bq ax.length;rw[←hn1]at ha⊢;unfold fy at hc;rw[←hn2]at hc hrl⊢;obtain⟨HA,HC,Z8⟩:=bu ha hc hone;clear ha hc hn1 hn2 hone;have HP:=ae (aG.new w 26 #[.int .u64 ver,.slice A1 n1 c1,.slice A2 n2 c2,.string pol]);have hb1:=boxed w (.cells #[.int .u64 ver,.slice A1 n1 c1,.slice A2 n2 c2,.string pol] 26);have HB:=ae hb1;clear hb1;go_enter Tryz.func8,Tryz.ntmps8;go_upto_region 1 with fail
 have hbz:=boxed (w.alloc (.cells #[.int .u64 ver,.slice A1 n1 c1,.slice A2 n2 c2,.string pol] 26)) (.cells #[.int .u64 0,au,au,aI] 26);have HB2:=aZ HB hbz;have HP2:=ae (bJ HP hbz);have hR:=aG.new (w.alloc (.cells #[.int .u64 ver,.slice A1 n1 c1,.slice A2 n2 c2,.string pol] 26)) 26 #[.int .u64 0,au,au,aI];rw[show(w.alloc (.cells #[.int .u64 ver,.slice A1 n1 c1,.slice A2 n2 c2,.string pol] 26)).heap.size=w.heap.size+1 by simp]at hR;have HR2:=ae hR;have HS2:ag (w.heap.size+2≤((w.alloc (.cells #[.int .u64 ver,.slice A1 n1 c1,.slice A2 n2 c2,.string pol] 26)).alloc (.cells #[.int .u64 0,au,au,aI] 26)).heap.size):=ae (by simp);clear hbz hR HB HP;generalize(w.alloc (.cells #[.int .u64 ver,.slice A1 n1 c1,.slice A2 n2 c2,.string pol] 26)).alloc (.cells #[.int .u64 0,au,au,aI] 26)=w2 at HB2 HP2 HR2 HS2⊢;have hQ:∃P R Q,P=w.heap.size∧R=w.heap.size+1∧Q=w.heap.size+2:=⟨_,_,_,rfl,rfl,rfl⟩;obtain⟨P,R,Q,eP,eR,eQ⟩:=hQ;rw[←eP]at HP2;rw[←eR]at HR2;rw[←eQ]at HS2;rw[←eR,←eP];have HPQ:ag (P<Q∧R<Q∧P≠R∧w.heap.size≤P∧w.heap.size≤R∧w.heap.size≤Q):=ae aQ;clear eP eR eQ;obtain⟨-,a1,a2⟩:=jf HP2;go_upto_region 2 with(go_at_call 32;refine(HA.out _ HB2.out).mono ?_;rintro r wa⟨⟨B1,m1,rfl,oa⟩,da⟩;have hPa:=bJ HP2 da;have Dt:=ae (bJ HR2 da);have hZ:=aZ HB2 da;obtain⟨KX,HOa⟩:=aN (aw HS2.out da.size) (oa.mono HS2.out);have y1:=hPa.cell 1;simp at y1;have fz:=hPa.frozen 1;have ie:=ae hPa;clear hPa oa da)
 have fU:ag (aG (wa.setCell ⟨P,1,none⟩ (.slice B1 n1 m1)) P 26 #[.int .u64 ver,.slice B1 n1 m1,.slice A2 n2 c2,.string pol]):=ae (ie.out.aL 1 (.slice B1 n1 m1));obtain⟨HR3,HB3,nz⟩:=bu (Dt.out.far (p:=⟨P,1,none⟩) HPQ.out.2.2.1.symm (.slice B1 n1 m1)) (hZ.out.setCell (p:=⟨P,1,none⟩) HPQ.out.2.2.2.1 (.slice B1 n1 m1)) (HOa.out.far (k:=1) (u:=.slice B1 n1 m1) HPQ.out.1);have Dv:ag (Q≤(wa.setCell ⟨P,1,none⟩ (.slice B1 n1 m1)).heap.size):=ae (by have:=KX.out;simp;omega);generalize wa.setCell ⟨P,1,none⟩ (.slice B1 n1 m1)=w3 at fU HR3 HB3 nz Dv⊢;clear y1 fz a1 a2 ie Dt hZ HOa KX HP2 HR2 HB2 HS2;obtain⟨-,-,b2⟩:=jf fU;obtain⟨B2,m2,u,hr,ha2⟩:=qw 2 fU.out HPQ.out.1 Dv.out Tryz.underlying24 yt rfl aH (HC.out.below HB3.out) Z8.out aQ aH;obtain⟨R2,AR⟩:=aN hr ha2;have q2:=ha2.cl;have f2:=ha2.fz;simp at q2;clear hr ha2;go_upto_region 3 with(at_builtin;refine eG rfl _ _ _ _ rfl rfl rfl R2.out ?_)
 have q1:aG (u.setCell ⟨P,2,none⟩ (.slice B2 n2 m2)) P 26 #[.int .u64 ver,.slice B1 n1 m1,.slice B2 n2 m2,.string pol]:=AR.out.blk;have q3:=(after HB3.out AR.out.db).setCell (p:=⟨P,2,none⟩) HPQ.out.2.2.2.1 (.slice B2 n2 m2);have q4:=(nz.out.low AR.out.db).far (k:=2) (u:=.slice B2 n2 m2) HPQ.out.1;have q5:=AR.out.own;have q6:=(bJ HR3 AR.out.db).far (p:=⟨P,2,none⟩) HPQ.out.2.2.1.symm (.slice B2 n2 m2);clear q2 f2 b2 AR R2 fU HR3 HB3 nz Dv;have q2:=q6;clear q6;generalize u.setCell ⟨P,2,none⟩ (.slice B2 n2 m2)=wd at q1 q2 q3 q4 q5⊢;have x0:=q1.cell 0;have x1:=q1.cell 1;have x2:=q1.cell 2;have x3:=q1.cell 3;have z0:=q2.cell 0;have z1:=q2.cell 1;have z2:=q2.cell 2;have z3:=q2.cell 3;simp at x0 x1 x2 x3 z0 z1 z2 z3;have fr:=fun i=>q2.frozen i
 obtain⟨Z9,yj,Ns,Yg⟩:=cY q2 q3 q4 q5;clear q1 q2 q3 q4 q5;go_wp2_with fail
 obtain⟨s1,s2⟩:=jC Z9.out yj.out HPQ.out.2.2.2.2.1 (.int .u64 ver) (.slice B1 n1 m1) (.slice B2 n2 m2) (.string pol);have o1:=(((Ns.out.far (k:=0) (u:=.int .u64 ver) HPQ.out.2.1).far (k:=1) (u:=.slice B1 n1 m1) HPQ.out.2.1).far (k:=2) (u:=.slice B2 n2 m2) HPQ.out.2.1).far (k:=3) (u:=.string pol) HPQ.out.2.1;have o2:=aU (k:=3) (u:=.string pol) (aU (k:=2) (u:=.slice B2 n2 m2) (aU (k:=1) (u:=.slice B1 n1 m1) (aU (k:=0) (u:=.int .u64 ver) Yg.out HPQ.out.2.1) HPQ.out.2.1) HPQ.out.2.1) HPQ.out.2.1;exact bodyPost_ret (fp (x:=2) rfl rfl (iw s1)) rfl ⟨⟨B1,m1,B2,m2,rfl,o1.mono HPQ.out.2.2.2.2.2,o2.mono HPQ.out.2.2.2.2.2⟩,s2⟩
def adr(d:Dl)(w:World)(r:Ending)(w':World):Prop:=(∃sv gv rv,r=.returned (.agg (fc d sv gv rv))∧kz w' d sv gv rv)∧aW w w'
theorem LH{w:World}{d:Dl}{sv gv rv:Value}(hd:kz w d sv gv rv)(sz:yF d):Calls ah 12 #[.agg (fc d sv gv rv)] w (adr d w):=by
 have ha:=fun u(hu:aW w u)=>pT (hd.aL.below hu) sz.aL sz.sl
 have hg:=hd.gone;have hr:=hd.ax;obtain⟨A1,c1,e1⟩:=hd.aL.shape;obtain⟨A2,c2,e2⟩:=hd.gone.shape;obtain⟨A3,c3,e3⟩:=aY.shape hd.ax;have hone:=sH d.ax;have abE:=CU d.gone;have lg:=sz.gl;have lr:=sz.rl;clear hd sz;obtain⟨base,ver,aK,gone,cS,ax,cX,pol,hash⟩:=d;simp only at*;subst e1 e2 e3;unfold vm at ha;unfold adr fc;unfold fy at hr;simp only;obtain⟨n1,hn1⟩:=bq aK.length;obtain⟨n2,hn2⟩:=bq gone.length;obtain⟨n3,hn3⟩:=bq ax.length;have hend:∀(W:World)(B1 B2 B3:Option Addr)(m1 m2 m3 b0:Nat),cn W b0 (.slice B1 n1 m1) aK→W.ownsRow b0 9 1 (.slice B2 n2 m2) n2 (strCells gone)→W.ownsRow b0 57 6 (.slice B3 n3 m3) n3 (dQ ax)→kz W ⟨base,ver,aK,gone,cS,ax,cX,pol,hash⟩ (.slice B1 n1 m1) (.slice B2 n2 m2) (.slice B3 n3 m3):=fun W B1 B2 B3 m1 m2 m3 b0 h1 h2 h3=>⟨h1.rd,by rw[hn2]at h2⊢;exact aY.dh h2,by rw[hn3]at h3⊢;exact aY.dh h3⟩
 rw[←hn1]at ha⊢;rw[←hn2]at hg lg⊢;rw[←hn3]at hr lr⊢;obtain⟨HA,HG,HR,Z8,HOg,KE⟩:=mL ha hg hr hone abE hend;clear ha hg hr hone abE hend hn1 hn2 hn3;have hb1:=boxed w (.cells #[.int .u64 base,.int .u64 ver,.slice A1 n1 c1,.slice A2 n2 c2,.bool cS,.slice A3 n3 c3,.bool cX,.string pol,.string hash] 29);have hp1:=aG.new w 29 #[.int .u64 base,.int .u64 ver,.slice A1 n1 c1,.slice A2 n2 c2,.bool cS,.slice A3 n3 c3,.bool cX,.string pol,.string hash];have hbz:=boxed (w.alloc (.cells #[.int .u64 base,.int .u64 ver,.slice A1 n1 c1,.slice A2 n2 c2,.bool cS,.slice A3 n3 c3,.bool cX,.string pol,.string hash] 29)) (.cells #[.int .u64 0,.int .u64 0,au,au,.bool false,au,.bool false,aI,aI] 29);obtain⟨HB2,HP2⟩:=aN (after hb1 hbz) (hp1.below hbz hp1.lt);have hR:=aG.new (w.alloc (.cells #[.int .u64 base,.int .u64 ver,.slice A1 n1 c1,.slice A2 n2 c2,.bool cS,.slice A3 n3 c3,.bool cX,.string pol,.string hash] 29)) 29 #[.int .u64 0,.int .u64 0,au,au,.bool false,au,.bool false,aI,aI];rw[show(w.alloc (.cells #[.int .u64 base,.int .u64 ver,.slice A1 n1 c1,.slice A2 n2 c2,.bool cS,.slice A3 n3 c3,.bool cX,.string pol,.string hash] 29)).heap.size=w.heap.size+1 by simp]at hR;have HR2:=ae hR;have HS2:ag (w.heap.size+2≤((w.alloc (.cells #[.int .u64 base,.int .u64 ver,.slice A1 n1 c1,.slice A2 n2 c2,.bool cS,.slice A3 n3 c3,.bool cX,.string pol,.string hash] 29)).alloc (.cells #[.int .u64 0,.int .u64 0,au,au,.bool false,au,.bool false,aI,aI] 29)).heap.size):=ae (by simp);clear hb1 hp1 hbz hR;go_enter Tryz.func12,Tryz.ntmps12;go_upto_region 1 with fail
 generalize(w.alloc (.cells #[.int .u64 base,.int .u64 ver,.slice A1 n1 c1,.slice A2 n2 c2,.bool cS,.slice A3 n3 c3,.bool cX,.string pol,.string hash] 29)).alloc (.cells #[.int .u64 0,.int .u64 0,au,au,.bool false,au,.bool false,aI,aI] 29)=w2 at HB2 HP2 HR2 HS2⊢;have hQ:∃P R Q,P=w.heap.size∧R=w.heap.size+1∧Q=w.heap.size+2:=⟨_,_,_,rfl,rfl,rfl⟩;obtain⟨P,R,Q,eP,eR,eQ⟩:=hQ;rw[←eP]at HP2;rw[←eR]at HR2;rw[←eQ]at HS2;rw[←eR,←eP];have HPQ:ag (P<Q∧R<Q∧P≠R∧w.heap.size≤P∧w.heap.size≤R∧w.heap.size≤Q):=ae aQ;clear eP eR eQ;obtain⟨-,-,b2⟩:=jf HP2;go_upto_region 2 with(go_at_call 32;refine(HA.out _ HB2.out).mono ?_;rintro r wa⟨⟨B1,m1,rfl,oa⟩,da⟩;have hPa:=bJ HP2 da;have Dt:=ae (bJ HR2 da);have hZ:=aZ HB2 da;obtain⟨KX,HOa⟩:=aN (aw HS2.out da.size) (oa.mono HS2.out);have y1:=hPa.cell 2;simp at y1;have fz:=hPa.frozen 2;have ie:=ae hPa;clear hPa oa da)
 have fU:ag (aG (wa.setCell ⟨P,2,none⟩ (.slice B1 n1 m1)) P 29 #[.int .u64 base,.int .u64 ver,.slice B1 n1 m1,.slice A2 n2 c2,.bool cS,.slice A3 n3 c3,.bool cX,.string pol,.string hash]):=ae (ie.out.aL 2 (.slice B1 n1 m1));obtain⟨HR3,HB3,nz⟩:=bu (Dt.out.far (p:=⟨P,2,none⟩) HPQ.out.2.2.1.symm (.slice B1 n1 m1)) (hZ.out.setCell (p:=⟨P,2,none⟩) HPQ.out.2.2.2.1 (.slice B1 n1 m1)) (HOa.out.far (k:=2) (u:=.slice B1 n1 m1) HPQ.out.1);have Dv:ag (Q≤(wa.setCell ⟨P,2,none⟩ (.slice B1 n1 m1)).heap.size):=ae (by have:=KX.out;simp;omega);generalize wa.setCell ⟨P,2,none⟩ (.slice B1 n1 m1)=w3 at fU HR3 HB3 nz Dv⊢;clear y1 fz b2 ie Dt hZ HOa KX HP2 HR2 HB2 HS2;obtain⟨-,-,-,b3⟩:=dV fU;obtain⟨B2,m2,u2,hr2,ha2⟩:=qw 3 fU.out HPQ.out.1 Dv.out abb wL rfl aH (HG.out.below HB3.out) HOg.out aQ aH;obtain⟨R2,AR2⟩:=aN hr2 ha2;have q2:=ha2.cl;have f2:=ha2.fz;simp at q2;clear hr2 ha2;go_upto_region 3 with(at_builtin;refine eG rfl _ _ _ _ rfl rfl rfl R2.out ?_)
 have qT:ag (aG (u2.setCell ⟨P,3,none⟩ (.slice B2 n2 m2)) P 29 #[.int .u64 base,.int .u64 ver,.slice B1 n1 m1,.slice B2 n2 m2,.bool cS,.slice A3 n3 c3,.bool cX,.string pol,.string hash]):=ae AR2.out.blk;obtain⟨HB4,wN,wO,HR4,HS4⟩:=ej ((after HB3.out AR2.out.db).setCell (p:=⟨P,3,none⟩) HPQ.out.2.2.2.1 (.slice B2 n2 m2)) ((nz.out.low AR2.out.db).far (k:=3) (u:=.slice B2 n2 m2) HPQ.out.1) AR2.out.own ((bJ HR3 AR2.out.db).far (p:=⟨P,3,none⟩) HPQ.out.2.2.1.symm (.slice B2 n2 m2)) (aw Dv.out AR2.out.Xa);generalize u2.setCell ⟨P,3,none⟩ (.slice B2 n2 m2)=w4 at qT HB4 wN wO HR4 HS4⊢;clear q2 f2 b3 AR2 R2 fU HR3 HB3 nz Dv;obtain⟨-,-,-,-,-,b5⟩:=wZ qT;obtain⟨B3,m3,u3,hr3,ha3⟩:=qw 5 qT.out HPQ.out.1 HS4.out Tryz.underlying24 yt rfl aH (HR.out.below HB4.out) Z8.out aQ aH;obtain⟨R3,AR3⟩:=aN hr3 ha3;have q3:=ha3.cl;have f3:=ha3.fz;simp at q3;clear hr3 ha3;go_upto_region 4 with(at_builtin;refine eG rfl _ _ _ _ rfl rfl rfl R3.out ?_)
 have Cc:ag (aG (u3.setCell ⟨P,5,none⟩ (.slice B3 n3 m3)) P 29 #[.int .u64 base,.int .u64 ver,.slice B1 n1 m1,.slice B2 n2 m2,.bool cS,.slice B3 n3 m3,.bool cX,.string pol,.string hash]):=ae AR3.out.blk;obtain⟨nw,HO5,HG5,HY5,HR5⟩:=ej ((after HB4.out AR3.out.db).setCell (p:=⟨P,5,none⟩) HPQ.out.2.2.2.1 (.slice B3 n3 m3)) ((wN.out.low AR3.out.db).far (k:=5) (u:=.slice B3 n3 m3) HPQ.out.1) (AR3.out.rows _ _ _ _ _ wO.out) AR3.out.own ((bJ HR4 AR3.out.db).far (p:=⟨P,5,none⟩) HPQ.out.2.2.1.symm (.slice B3 n3 m3));generalize u3.setCell ⟨P,5,none⟩ (.slice B3 n3 m3)=w5 at Cc nw HO5 HG5 HY5 HR5⊢;clear q3 f3 b5 AR3 R3 qT HR4 HB4 wN wO HS4;obtain⟨x0,x1,x2,x3,x4,x5,x6,x7,x8⟩:=oR Cc;obtain⟨z0,z1,z2,z3,z4,z5,z6,z7,z8⟩:=oR HR5;have fr:=fun i=>HR5.out.frozen i
 go_wp2_with fail
 refine bodyPost_ret (fp (x:=2) rfl rfl (jD (jV HR5.out (.int .u64 base) (.int .u64 ver) (.slice B1 n1 m1) (.slice B2 n2 m2) (.bool cS) (.slice B3 n3 m3) (.bool cX) (.string pol) (.string hash)))) rfl ?_;exact⟨⟨_,_,_,rfl,KE.out _ B1 B2 B3 m1 m2 m3 Q (pQ (P:=R) (Q:=fun u=>cn u Q (.slice B1 n1 m1) aK) (fun u i x h=>h.far (k:=i) (u:=x) HPQ.out.2.1) HO5.out (.int .u64 base) (.int .u64 ver) (.slice B1 n1 m1) (.slice B2 n2 m2) (.bool cS) (.slice B3 n3 m3) (.bool cX) (.string pol) (.string hash)) (pQ (P:=R) (Q:=fun u=>u.ownsRow Q 9 1 (.slice B2 n2 m2) n2 (strCells gone)) (fun u i x h=>aU (k:=i) (u:=x) h HPQ.out.2.1) HG5.out (.int .u64 base) (.int .u64 ver) (.slice B1 n1 m1) (.slice B2 n2 m2) (.bool cS) (.slice B3 n3 m3) (.bool cX) (.string pol) (.string hash)) (pQ (P:=R) (Q:=fun u=>u.ownsRow Q 57 6 (.slice B3 n3 m3) n3 (dQ ax)) (fun u i x h=>aU (k:=i) (u:=x) h HPQ.out.2.1) HY5.out (.int .u64 base) (.int .u64 ver) (.slice B1 n1 m1) (.slice B2 n2 m2) (.bool cS) (.slice B3 n3 m3) (.bool cX) (.string pol) (.string hash))⟩,pQ (P:=R) (Q:=fun u=>aW w u) (fun u i x h=>h.setCell (p:=⟨R,i,none⟩) HPQ.out.2.2.2.2.1 x) nw.out (.int .u64 base) (.int .u64 ver) (.slice B1 n1 m1) (.slice B2 n2 m2) (.bool cS) (.slice B3 n3 m3) (.bool cX) (.string pol) (.string hash)⟩
theorem Rz{B b:Nat}{lb:Array Value}{D:List UInt8}{w:World}{A:Option Addr}{N cap:Nat}{M:Nat}(hM:M≤800000000)(hN:N<65536)(cs:Nat→ByteArray)(E:Nat→List UInt8)(hc:mF w A N cs)(hA:0<N→∀g o,A=some ⟨g,o,none⟩→g<B)(f:Nat)(eg:∀args w,(callFunc f args).run ah w=.ok (.enter f args) w)(h:gj B b D w)(hBw:B≤w.heap.size)(hlen:D.length+2+((aF N).flatMap E).length≤M)(hf:∀k,k<N→∀W D',Wrote B b w W→gj B b D' W→D'.length≤M→B≤W.heap.size→Calls ah f (#[.string (cs k)]++lb) W (Put B b D' (E k) W)):Calls ah 44 #[.pointer (some ⟨b,0,none⟩),.slice A N cap,.func (.func f) #[] lb] w (Put B b D (fF 2 N++(aF N).flatMap E) w):=by
 have hu:=fun u=>lP N hN u
 have hw:IntKind.u16.wrap (N:Int)=(N:Int):=by
  show(N:Int)%65536=_;omega
 have hput:=fun u(hu:aW w u)=>fK (w:=u) [be 2 N] (h.below hu) (by simp) (by rw[df,bZ,aP];omega) (aw hBw hu.size) 1 rfl
 rw[show fD [be 2 N]=fF 2 N by rw[df,bZ]]at hput;obtain⟨HC,HF,HA,HB,HLen,HU,jh⟩:=mM hc hf hA hBw hlen hu hput;unfold Put at HF⊢;clear hc hf hA hBw hlen h hu hput;go_enter Tryz.func44,Tryz.ntmps44;go_wp2_with(first
  |(go_at_call 81;refine(HU.out _).mono ?_;rintro r w1⟨rfl,d1⟩)
  |(go_at_call 24;(refine(jh.out _ d1).mono ?_);rintro r w2⟨rfl,p2,k2⟩;obtain⟨HP2,lN⟩:=aN p2 (k2.low HB.out d1);clear p2 k2))
 go_loopw [17] (fun v17 wr=>∃k:Nat,k≤N∧v17=.int .i64 k∧ag (gj B b (D++fF 2 N++(aF k).flatMap E) wr)∧ag (Wrote B b w wr)) (fun v17 _=>N-(intOf v17).toNat)
 case atStart=>exact⟨0,bh _,rfl,ae (by rw[show(aF 0).flatMap E=[]from rfl,List.append_nil];exact HP2.out),lN⟩
 case round=>
  obtain⟨k,hk,rfl,hp,hb⟩:=hrel;have hBr:=aw HB.out hb.out.below.size;have QL:=ae hBr;by_cases hlt:k<N
  ·have hlr:(D++fF 2 N++(aF k).flatMap E).length≤M:=by
    have h1:=gy E hk;have h2:=HLen.out;simp only[ai,aP]at*;omega
   obtain⟨q,o,rfl,hcell⟩:=HC.out k hlt;have hcall:=fun u(hu:aW wr u)=>HF.out k hlt u (D++fF 2 N++(aF k).flatMap E) (hb.out.trans (Wrote.of hBr hu)) (hp.out.below hu) hlr (aw hBr hu.size)
   have d0:=(hb.out.below.cell (p:=⟨q,o+k,none⟩) (HA.out aQ _ _ rfl)).trans hcell;generalize cs k=L at d0 hcall;have bI:=ae hcall;clear hcall hcell;clear hlr hBr;go_wp2_with(go_at_fn f;(with_reducible refine(bI.out _ (aM _ _)).mono ?_);rintro r w4⟨rfl,p4,k4⟩;have qT:=ae p4;clear p4)
   go_roundw
   case rel=>exact⟨k+1,by omega,by go_num,ae (by rw[iZ,←aO];exact qT.out),ae (hb.out.trans (k4))⟩
   case measure=>simp[intOf];omega
  ·obtain rfl:k=N:=by omega
   clear hBr;go_wp2_with fail
   go_end0
   exact⟨rfl,by rw[←aO];exact hp.out,hb.out⟩
theorem Xb{b:Nat}{D:List UInt8}{w0 w:World}{v:Value}{l:List ByteArray}{lb:Array Value}(fb:ByteArray→List UInt8)(hr:aY w0 v l.length 1 (strCells l))(hb:aW w0 w)(hl:l.length<65536)(f:Nat)(eg:∀args w,(callFunc f args).run ah w=.ok (.enter f args) w)(h:gj w0.heap.size b D w){M:Nat}(hM:M≤800000000)(hlen:D.length+2+(l.flatMap fb).length≤M)(hf:∀x∈l,∀W D',Wrote w0.heap.size b w W→gj w0.heap.size b D' W→D'.length≤M→w0.heap.size≤W.heap.size→Calls ah f (#[.string x]++lb) W (Put w0.heap.size b D' (fb x) W)):Calls ah 44 #[.pointer (some ⟨b,0,none⟩),v,.func (.func f) #[] lb] w (Put w0.heap.size b D (bT fb l) w):=by
 obtain⟨A,cap,rfl⟩:=hr.shape;unfold bT;rw[←jS fb ⟨#[]⟩ l]at hlen⊢;exact Rz hM hl (fun k=>l.getD k ⟨#[]⟩) (fun k=>fb (l.getD k ⟨#[]⟩)) (wH (hr.below hb)) (qk aH hr) f eg h hb.size hlen fun k hk W D' h1 h2 h3 h4=>hf _ (getD_mem _ hk) W D' h1 h2 h3 h4
theorem Bi(s:ByteArray):s.data.toList.length=s.size:=by rw[Array.length_toList,ByteArray.size_data]
theorem RD{B b V:Nat}{D:List UInt8}{w:World}(k:ByteArray)(hk:k.size≤1000000)(hV:aG w V 65 #[.pointer (some ⟨b,0,none⟩)])(h:gj B b D w)(hlen:D.length≤800000000)(hBw:B≤w.heap.size):Calls ah 45 #[.string k,.pointer (some ⟨V,0,none⟩)] w (Put B b D k.data.toList w):=by
 have hput:=fK (w:=w) [k] h (by simp) (by rw[df,Bi];omega) hBw 1 rfl;rw[df]at hput;simp only[i6,List.map_nil]at hput;have c0:=hV.cell 0;simp at c0;have jh:=ae hput;unfold Put;clear hput hV h hBw;go_enter Tryz.func45,Tryz.ntmps45;go_wp2_with(go_at_call 24;refine jh.out.mono ?_;rintro r w2⟨rfl,p2,k2⟩)
 go_end0
 exact⟨rfl,p2,k2⟩
theorem LI{B b V M:Nat}{D:List UInt8}{w:World}(s:ByteArray)(hs:s.size≤32768)(hV:aG w V 65 #[.pointer (some ⟨b,0,none⟩)])(hM:w.cell? ⟨M,7,none⟩=some (.string s))(h:gj B b D w)(hlen:D.length≤800000000)(hBw:B≤w.heap.size):Calls ah 48 #[.pointer (some ⟨V,0,none⟩),.pointer (some ⟨M,0,none⟩)] w (Put B b D (oJ s) w):=by
 have ht:=lY s hs h aQ hBw;have c0:=hV.cell 0;simp at c0;have HT:=ae ht;unfold Put at HT⊢;clear ht hV h hBw hs hlen;go_enter Tryz.func48,Tryz.ntmps48;go_wp2_with(go_at_call 30;refine HT.out.mono ?_;rintro r w2⟨rfl,p2,k2⟩)
 go_end0
 exact⟨rfl,p2,k2⟩
theorem RF{b V M:Nat}{D:List UInt8}{w0 w:World}{rv:Value}{l:List Ry}(hr:fy w0 rv l)(hb:aW w0 w)(ok:l.length<65536∧∀x∈l,Kp x)(hV:aG w V 65 #[.pointer (some ⟨b,0,none⟩)])(hM:w.cell? ⟨M,5,none⟩=some rv)(h:gj w0.heap.size b D w)(hlen:D.length+2+(l.flatMap qR).length≤90000000):Calls ah 47 #[.pointer (some ⟨V,0,none⟩),.pointer (some ⟨M,0,none⟩)] w (Put w0.heap.size b D (bT qR l) w):=by
 have ht:=AO qR hr hb ok.1 29 (enters_of Tryz.func29 bo rfl) h (show 90000000≤800000000 by decide) hlen fun r hr' W D' q1 q2 q3 q4=>sD r (by have:=(ok.2 r hr').id;omega) (ok.2 r hr').fin.1 (ok.2 r hr').fin.2 (by rw[(ok.2 r hr').key];decide) q2 aQ q4
 obtain⟨A,c,rfl⟩:=aY.shape hr;have c0:=hV.cell 0;simp at c0;have HT:=ae ht;unfold Put at HT⊢;clear ht hV h hb hlen ok hr;generalize l.length=N at*;generalize bT qR l=X at*;go_enter Tryz.func47,Tryz.ntmps47;go_wp2_with(go_at_call 28;refine HT.out.mono ?_;rintro r w2⟨rfl,p2,k2⟩)
 go_end0
 exact⟨rfl,p2,k2⟩
theorem vv{B b:Nat}{D X:List UInt8}{w:World}(is:Bool)(f:Nat)(lb:Array Value)(eg:∀args w,(callFunc f args).run ah w=.ok (.enter f args) w)(h:gj B b D w)(hlen:D.length≤800000000)(hBw:B≤w.heap.size)(hf:is=true→∀W,Wrote B b w W→gj B b (D++[1]) W→B≤W.heap.size→Calls ah f lb W (Put B b (D++[1]) X W)):Calls ah 46 #[.pointer (some ⟨b,0,none⟩),.bool is,.func (.func f) #[] lb] w (Put B b D (iG is X) w):=by
 cases is with
 |false=>
  have hput:=fK (w:=w) [⟨#[0]⟩] h (by simp) (by rw[df];show D.length+1≤_;omega) hBw 1 rfl;rw[show fD [⟨#[0]⟩]=[0]from rfl]at hput;simp only[i6,List.map_nil]at hput;have jh:=ae hput;unfold Put iG;rw[if_neg aH];clear hput h hBw hf;go_enter Tryz.func46,Tryz.ntmps46;go_wp2_with(go_at_call 24;refine jh.out.mono ?_;rintro r w2⟨rfl,p2,k2⟩)
  try simp only[Exit.inBlock,Exit.then]
  refine bodyPost_ret (results_none rfl _ _ _) rfl ?_;exact⟨rfl,p2,k2⟩
 |true=>
  have hput:=fK (w:=w) [⟨#[1]⟩] h (by simp) (by rw[df];show D.length+1≤_;omega) hBw 1 rfl;rw[show fD [⟨#[1]⟩]=[1]from rfl]at hput;simp only[i6,List.map_nil]at hput;obtain⟨jh,HF,Sm⟩:=bu hput (hf rfl) hBw;unfold Put at HF⊢;unfold iG;rw[if_pos rfl,show D++1::X=D++[1]++X by simp];clear hput h hBw hf;go_enter Tryz.func46,Tryz.ntmps46;go_wp2_with(first
   |(go_at_call 24;refine jh.out.mono ?_;rintro r w2⟨rfl,p2,k2⟩;obtain⟨K2,HF2⟩:=aN k2 (HF.out w2 k2 p2 (aw Sm.out k2.below.size)))
   |(go_at_fn f;(with_reducible refine HF2.out.mono ?_);rintro r w3⟨rfl,p3,k3⟩))
  go_end0
  exact⟨rfl,p3,K2.out.trans k3⟩
theorem adt{B:Nat}{w:World}(hB:B≤w.heap.size):gj B w.heap.size [] ((w.alloc (.cells #[.pointer none,au] 71)).alloc (.cells #[.pointer (some ⟨w.heap.size,0,none⟩)] 65)):=(Nu hB).below (boxed _ _)
theorem uo{w:World}(env:Env w){d:Dl}{sv gv rv:Value}(hd:kz w d sv gv rv)(fit:sx d)(sz:yF d)(hml:jc d=true→(Az d).length≤80000000):Calls ah 11 #[.agg (fc d sv gv rv)] w fun r w'=>(∃(t:ByteArray)(e:Nat),(t,e)=lO d∧r=.returned (.tuple #[.string t,.int .i64 e]))∧aW w w':=by
 have hmay:=fun u(hu:aW w u)=>qV (env.below hu) (hd.below hu) fit sz
 cases hm:jc d with
 |false=>
  have hR:lO d=(⟨#[]⟩,220):=by unfold lO encR;rw[if_pos hm]
  rw[hm]at hmay;rw[hR];obtain⟨As,cs,e1⟩:=(hd.aL).shape;obtain⟨Ag,cg,e2⟩:=hd.gone.shape;obtain⟨Ar,cr,e3⟩:=aY.shape hd.ax;obtain⟨base,version,aL,gone,cS,ax,cX,policy,hash⟩:=d;simp only at*;subst e1 e2 e3;unfold fc at*;simp only at*;generalize aL.length=NS at*;generalize gone.length=NG at*;generalize ax.length=NR at*;obtain⟨vK,HB,HM⟩:=bu hmay (boxed w (.cells #[.int .u64 base,.int .u64 version,.slice As NS cs,.slice Ag NG cg,.bool cS,.slice Ar NR cr,.bool cX,.string policy,.string hash] 29)) (aG.new w 29 #[.int .u64 base,.int .u64 version,.slice As NS cs,.slice Ag NG cg,.bool cS,.slice Ar NR cr,.bool cX,.string policy,.string hash]);clear hmay hd fit sz hml env hm hR;go_enter Tryz.func11,Tryz.ntmps11;go_upto_region 1 with fail
  generalize w.alloc (.cells #[.int .u64 base,.int .u64 version,.slice As NS cs,.slice Ag NG cg,.bool cS,.slice Ar NR cr,.bool cX,.string policy,.string hash] 29)=w1 at HB HM⊢;generalize w.heap.size=P at HM⊢;obtain⟨m0,m1,m2,m3,m4,m5,m6,m7,m8⟩:=oR HM;go_wp2_with(go_at_call 43;refine(vK.out _ HB.out).mono ?_;rintro r w2⟨rfl,d2⟩)
  go_ret2;exact⟨⟨_,220,rfl,rfl⟩,after HB.out d2⟩
 |true=>
  have hml:=hml hm;have ok:=abt fit hm;have hR:lO d=(if 32768<(Az d).length then((⟨#[]⟩:ByteArray),4)else(gJ (Az d),0)):=by unfold lO encR;rw[if_neg (by simp[hm])]
  rw[hm]at hmay;have hsum:(Az d).length=8+(8+((bT qB d.aL).length+((bT (fun k:ByteArray=>k.data.toList) d.gone).length+((iG d.cS (bT qR d.ax)).length+((iG d.cX (oJ d.policy)).length+d.hash.data.toList.length))))):=by
   unfold Az;simp only[ai,aP]
  have hsl:(bT qB d.aL).length=2+(d.aL.flatMap qB).length:=by unfold bT;rw[ai,aP]
  have hgl:(bT (fun k:ByteArray=>k.data.toList) d.gone).length=2+(d.gone.flatMap fun k:ByteArray=>k.data.toList).length:=by unfold bT;rw[ai,aP]
  have hrl:(bT qR d.ax).length=2+(d.ax.flatMap qR).length:=by unfold bT;rw[ai,aP]
  have hfl:d.cS=true→(iG d.cS (bT qR d.ax)).length=1+(bT qR d.ax).length:=fun h=>by rw[h];unfold iG;rw[if_pos rfl,bO];omega
  obtain⟨xs,hxs,hrow,hx⟩:=hd.aL;have hone:∀X∈xs,(qB X.p).length≤(d.aL.flatMap qB).length:=fun X hX=>by
   rw[←hxs,List.flatMap_map];exact List.Sublist.length_le (List.sublist_flatten_of_mem (eC hX))
  obtain⟨D1,hD1⟩:=bq (fD [be 8 d.base,be 8 d.version]);obtain⟨D2,hD2⟩:=bq (D1++bT qB d.aL);obtain⟨D3,hD3⟩:=bq (D2++bT (fun k:ByteArray=>k.data.toList) d.gone);obtain⟨D4,hD4⟩:=bq (D3++iG d.cS (bT qR d.ax));obtain⟨D5,hD5⟩:=bq (D4++iG d.cX (oJ d.policy));obtain⟨D6,hD6⟩:=bq (D5++fD [d.hash]);have hD:Az d=D6:=by rw[hD6,hD5,hD4,hD3,hD2,hD1,ez,df,bZ,bZ];unfold Az;simp only[aO]
  have l1:D1.length=16:=by rw[hD1,ez,bZ,bZ,ai,aP,aP]
  have l2:D2.length=D1.length+(bT qB d.aL).length:=by rw[hD2,ai]
  have l3:D3.length=D2.length+(bT (fun k:ByteArray=>k.data.toList) d.gone).length:=by rw[hD3,ai]
  have l4:D4.length=D3.length+(iG d.cS (bT qR d.ax)).length:=by rw[hD4,ai]
  have l5:D5.length=D4.length+(iG d.cX (oJ d.policy)).length:=by rw[hD5,ai]
  have h6:D6≠[]:=by
   intro h;have:=congrArg List.length h;rw[hD6,ai,List.length_nil]at this;omega
  have hps:=fun b u(hu:aW w u)(hp:gj w.heap.size b D1 u)=>AP qB hrow hx hu (by have:=ok.aL.1;rw[←hxs,ay]at this;exact this) 27 (enters_of Tryz.func27 bo rfl) hp (show 90000000≤800000000 by decide) (by rw[hxs];omega) fun X hX W D' q1 q2 q3 q4=>vj (hx X hX) (ok.aL.2 _ (by rw[←hxs];exact eC hX)) (hu.trans q1) q2 (by have:=hone X hX;omega)
  rw[hxs]at hps;have hgs:=fun b V u(hu:aW w u)(hp:gj w.heap.size b D2 u)(hV:aG u V 65 #[.pointer (some ⟨b,0,none⟩)])(hne:V≠b)=>Xb (fun k:ByteArray=>k.data.toList) hd.gone hu ok.gone.1 45 (enters_of Tryz.func45 bo rfl) (lb:= #[.pointer (some ⟨V,0,none⟩)]) hp (show 90000000≤800000000 by decide) aQ fun k hk W D' q1 q2 q3 q4=>RD k (by have:=ok.gone.2 k hk;omega) (q1.kept _ _ _ hV hne aH) q2 aQ q4
  have hrs:=fun b V M u(dv:Array Value)(hu:aW w u)(hp:gj w.heap.size b D3 u)(hV:aG u V 65 #[.pointer (some ⟨b,0,none⟩)])(hne:V≠b)(hM:aG u M 29 dv)(hmb:M≠b)(h5:dv[5]? =some rv)=>vv d.cS 47 #[.pointer (some ⟨V,0,none⟩),.pointer (some ⟨M,0,none⟩)] (enters_of Tryz.func47 bo rfl) hp aQ hu.size fun e W q1 q2 q3=>RF hd.ax (hu.trans q1.below) (ok.ax e) (q1.kept _ _ _ hV hne aH) (by rw[(q1.kept _ _ _ hM hmb aH).cell 5,h5]) q2 (by have:=hfl e;rw[ai];simp only[bO,List.length_nil];omega)
  have hts:=fun b V M u(dv:Array Value)(hu:aW w u)(hp:gj w.heap.size b D4 u)(hV:aG u V 65 #[.pointer (some ⟨b,0,none⟩)])(hne:V≠b)(hM:aG u M 29 dv)(hmb:M≠b)(h7:dv[7]? =some (.string d.policy))=>vv d.cX 48 #[.pointer (some ⟨V,0,none⟩),.pointer (some ⟨M,0,none⟩)] (enters_of Tryz.func48 bo rfl) hp aQ hu.size fun e W q1 q2 q3=>LI d.policy (ok.policy e) (q1.kept _ _ _ hV hne aH) (by rw[(q1.kept _ _ _ hM hmb aH).cell 7,h7]) q2 (by rw[ai];simp only[bO,List.length_nil];omega) q3
  have hhs:=fun b u(hB:w.heap.size≤u.heap.size)(hp:gj w.heap.size b D5 u)=>fK (w:=u) [d.hash] hp (by simp) (by rw[df,Bi,ok.hash];omega) hB 1 rfl
  simp only[i6,List.map_nil]at hhs;rw[←hD6]at hhs;have hby:=fun b u(hp:gj w.heap.size b D6 u)=>sE hp h6
  rw[hR,hD];generalize(if 32768<D6.length then((⟨#[]⟩:ByteArray),4)else(gJ D6,0))=R at hby⊢;have hu1:=fun u=>rE d.base fit.base u
  have hu2:=fun u=>rE d.version fit.version u
  unfold Put at hps hgs hrs hts;obtain⟨HD1,HD2,HD3,HD4,HD5⟩:=ej hD1 hD2 hD3 hD4 hD5;obtain⟨Ag,cg,e2⟩:=hd.gone.shape;obtain⟨Ar,cr,e3⟩:=aY.shape hd.ax;have hsz:xs.length=d.aL.length:=by rw[←hxs,ay]
  obtain⟨As,cs,e1⟩:=hrow.shape;rw[hsz]at e1;clear hsum hsl hgl hrl hfl hone hD1 hD2 hD3 hD4 hD5 hD6 hD l1 l2 l3 l4 l5 h6 hrow hx hxs hd fit sz hml env hm hR ok hsz;obtain⟨base,version,aL,gone,cS,ax,cX,policy,hash⟩:=d;simp only at*;subst e1 e2 e3;unfold fc at*;simp only at*;generalize bT qB aL=LP at*;generalize bT (fun k:ByteArray=>k.data.toList) gone=LG at*;generalize iG cS (bT qR ax)=LR at*;generalize iG cX (oJ policy)=LT at*;generalize aL.length=NS at*;generalize gone.length=NG at*;generalize ax.length=NR at*;obtain⟨vK,zG,HGs,HRs,HTs,HHs,HBy,HU1,HU2,HB,HM⟩:=EB hmay hps hgs hrs hts hhs hby hu1 hu2 (boxed w (.cells #[.int .u64 base,.int .u64 version,.slice As NS cs,.slice Ag NG cg,.bool cS,.slice Ar NR cr,.bool cX,.string policy,.string hash] 29)) (aG.new w 29 #[.int .u64 base,.int .u64 version,.slice As NS cs,.slice Ag NG cg,.bool cS,.slice Ar NR cr,.bool cX,.string policy,.string hash]);clear hmay hps hgs hrs hts hhs hby hu1 hu2;go_enter Tryz.func11,Tryz.ntmps11;go_upto_region 1 with fail
  generalize w.alloc (.cells #[.int .u64 base,.int .u64 version,.slice As NS cs,.slice Ag NG cg,.bool cS,.slice Ar NR cr,.bool cX,.string policy,.string hash] 29)=w1 at HB HM⊢;generalize hP:w.heap.size=M at HM⊢;have kr:=ae hP;clear hP;obtain⟨m0,m1,m2,m3,m4,m5,m6,m7,m8⟩:=oR HM;go_upto_region 3 with(go_at_call 43;refine(vK.out _ HB.out).mono ?_;rintro r w2⟨rfl,d2⟩)
  have HB2:=aZ HB d2;have pI:=ae (bJ HM d2);clear m0 m1 m2 m3 m4 m5 m6 m7 m8 d2 HB HM;go_upto_region 4 with fail
  have hbx:=fQ w2 (.cells #[.pointer none,au] 71) (.cells #[.pointer (some ⟨w2.heap.size,0,none⟩)] 65);have HN:=ae (adt (B:=w.heap.size) HB2.out.size);have hV:=aG.new (w2.alloc (.cells #[.pointer none,au] 71)) 65 #[.pointer (some ⟨w2.heap.size,0,none⟩)];rw[show(w2.alloc (.cells #[.pointer none,au] 71)).heap.size=w2.heap.size+1 by simp]at hV;obtain⟨HV,mJ⟩:=aN hV (bJ pI hbx);have HB3:=aZ HB2 hbx;have It:ag (M≠w2.heap.size):=ae (by have:=pI.out.lt;omega);have Xc:ag (w2.heap.size+1≠w2.heap.size):=ae aQ;clear hbx hV HB2 pI;generalize(w2.alloc (.cells #[.pointer none,au] 71)).alloc (.cells #[.pointer (some ⟨w2.heap.size,0,none⟩)] 65)=w4 at HN HV mJ HB3⊢;generalize w2.heap.size+1=V at HV Xc⊢;generalize w2.heap.size=b at HN HV It Xc⊢;have v0:=HV.out.cell 0;have m0:=mJ.out.cell 0;have m1:=mJ.out.cell 1;simp at v0 m0 m1;have hpn:=HN.out.below (Below.drew (aM _ w4));refine wp_region_held_drew (S:=(fun w'=>Wrote w.heap.size b w4 w'∧w'.cell? ⟨V,0,none⟩=some (.pointer (some ⟨b,0,none⟩))∧w'.cell? ⟨M,0,none⟩=some (.int .u64 base)∧w'.cell? ⟨M,1,none⟩=some (.int .u64 version))) bo (⟨Wrote.of HB3.out.size (Below.drew (aM _ _)),v0,m0,m1⟩) (fun hHeld=>?_);refine bC 0 ?_
  refine bC 1 ?_
  refine bC 2 ?_
  refine bC 4 ?_
  refine bC 5 ?_
  refine jg 3 fun K hK=>?_;go_simp;refine(HU1.out _).mono ?_;rintro r wb⟨rfl,db⟩;have hpn:=hpn.below db;refine hK.out _ _ (⟨hHeld.1.trans (Wrote.of (aw HB3.out.size hHeld.1.below.size) db),ak hHeld.2.1 db,ak hHeld.2.2.1 db,ak hHeld.2.2.2 db⟩) (fun hHeld=>?_);clear hK K;try simp only[cN]
  refine jg 6 fun K hK=>?_;go_simp;refine(HU2.out _).mono ?_;rintro r wc⟨rfl,dc⟩;have hpn:=hpn.below dc;refine hK.out _ _ (⟨hHeld.1.trans (Wrote.of (aw HB3.out.size hHeld.1.below.size) dc),ak hHeld.2.1 dc,ak hHeld.2.2.1 dc,ak hHeld.2.2.2 dc⟩) (fun hHeld=>?_);clear hK K;try simp only[cN]
  refine jg 7 fun K hK=>?_;go_simp;have hst:=tX hHeld.1 #[.string (be 8 base),.string (be 8 version)] 9;have hge:=hpn.lt;have hpn:=hpn.below (boxed _ (.cells #[.string (be 8 base),.string (be 8 version)] 9));refine hK.out _ _ (⟨hHeld.1.trans (Wrote.of (aw HB3.out.size hHeld.1.below.size) (boxed _ _)),ak hHeld.2.1 (boxed _ _),ak hHeld.2.2.1 (boxed _ _),ak hHeld.2.2.2 (boxed _ _)⟩) (fun hHeld=>?_);clear hK K;try simp only[cN]
  refine jg 8 fun K hK=>?_;go_simp;refine(put_any [be 8 base,be 8 version] hpn (by first|exact hst|simpa using hst) (by first|omega|(simp at hge⊢;omega)) (by simp) (by rw[ez,bZ,bZ,ai,aP,aP];decide) (aw HB3.out.size hHeld.1.below.size) 2 rfl).mono ?_;rintro r w6⟨rfl,p6,k6⟩;have k46:=hHeld.1.trans k6;have hV6:=k46.kept _ _ _ HV.out Xc.out aH;have hM6:=k46.kept _ _ _ mJ.out It.out aH;refine hK.out _ _ (⟨k46,hV6.cell 0,hM6.cell 0,hM6.cell 1⟩) (fun hHeld=>?_);clear hK K;try simp only[cN]
  refine qW ?_;rw[List.nil_append,←HD1.out]at p6;obtain⟨HV6,zd,kO⟩:=bu hV6 hM6 (HB3.out.trans k46.below);have Vv:=ae (zG.out b w6 kO.out p6);have v6:=HV6.out.cell 0;have m6:=zd.out.cell 2;simp at v6 m6;clear v0 m0 m1 hV6 hM6 k46 k6 p6 hst hge hpn hHeld HN HV mJ HB3;go_upto_region 6 with(go_at_call 26;refine Vv.out.mono ?_;rintro r w7⟨rfl,p7,k7⟩;rw[←HD2.out]at p7)
  have HV7:=ae (k7.kept _ _ _ HV6.out Xc.out aH);have Yh:=ae (k7.kept _ _ _ zd.out It.out aH);have uN:=ae (kO.out.trans k7.below);have HT7:=ae (HGs.out b V w7 uN.out p7 HV7.out Xc.out);have v7:=HV7.out.cell 0;have m7:=Yh.out.cell 3;simp at v7 m7;clear v6 m6 k7 p7 HV6 zd kO Vv;go_upto_region 7 with(go_at_call 44;refine HT7.out.mono ?_;rintro r w8⟨rfl,p8,k8⟩;rw[←HD3.out]at p8)
  have HV8:=ae (k8.kept _ _ _ HV7.out Xc.out aH);have HM8:=ae (k8.kept _ _ _ Yh.out It.out aH);have XY:=ae (uN.out.trans k8.below);have HT8:=ae (HRs.out b V M w8 _ XY.out p8 HV8.out Xc.out HM8.out It.out rfl);have v8:=HV8.out.cell 0;have m8:=HM8.out.cell 4;simp at v8 m8;clear v7 m7 k8 p8 HV7 Yh uN HT7;go_upto_region 8 with(go_at_call 46;refine HT8.out.mono ?_;rintro r w9⟨rfl,p9,k9⟩;rw[←HD4.out]at p9)
  have Yl:=ae (k9.kept _ _ _ HV8.out Xc.out aH);have PT:=ae (k9.kept _ _ _ HM8.out It.out aH);have TR:=ae (XY.out.trans k9.below);have HT9:=ae (HTs.out b V M w9 _ TR.out p9 Yl.out Xc.out PT.out It.out rfl);have v9:=Yl.out.cell 0;have m9:=PT.out.cell 6;simp at v9 m9;clear v8 m8 k9 p9 HV8 HM8 XY HT8;go_upto_region 9 with(go_at_call 46;refine HT9.out.mono ?_;rintro r w10⟨rfl,p10,k10⟩;rw[←HD5.out]at p10)
  have adu:=ae (k10.kept _ _ _ Yl.out Xc.out aH);have Fz:=ae (k10.kept _ _ _ PT.out It.out aH);have rk:=ae (TR.out.trans k10.below);have aft:=ae (HHs.out b w10 rk.out.size p10);have v10:=adu.out.cell 0;have m10:=Fz.out.cell 8;simp at v10 m10;clear v9 m9 k10 p10 Yl PT TR HT9;go_upto_region 10 with(go_at_call 24;refine aft.out.mono ?_;rintro r uP⟨rfl,p11,k11⟩)
  have agT:=ae (k11.kept _ _ _ adu.out Xc.out aH);obtain⟨Jy,agU⟩:=aN (rk.out.trans k11.below) (HBy.out b uP p11);have v11:=agT.out.cell 0;simp at v11;clear v10 m10 k11 p11 adu Fz rk aft;go_wp2_with(go_at_call 31;refine agU.out.mono ?_;rintro r w12⟨⟨t,e,hte,rfl⟩,b12⟩;have Hte:=ae hte;clear hte)
  go_ret2;exact⟨⟨t,e,Hte.out,rfl⟩,Jy.out.trans b12⟩
structure DU(w:World)(b rb mb:Nat)(e:Ey)(cs:Array Value)(J:World→Prop)(W:World):Prop where
 blk:aG W mb 29 cs
 ey:cf W b rb e
 kp:Keeps (Three b rb mb) w W
 rows:J W
theorem Xd{U W:World}{b rb mb:Nat}(k:Keeps (Two b rb) U W):Keeps (Three b rb mb) U W:=k.mono fun _ _ h=>h.elim Or.inl fun h=>Or.inr (Or.inl h)
def Stb(b rb mb:Nat)(J:World→Prop):Prop:=∀u v,Keeps (Three b rb mb) u v→J u→J v
theorem DU.call{w U W:World}{b rb mb:Nat}{e e':Ey}{cs:Array Value}{J:World→Prop}(h:DU w b rb mb e cs J U)(hJ:Stb b rb mb J)(hm:¬Two b rb mb)(g:cf W b rb e')(k:Keeps (Two b rb) U W):DU w b rb mb e' cs J W:=have k3:Keeps (Three b rb mb) U W:=k.mono fun _ _ h=>h.elim Or.inl fun h=>Or.inr (Or.inl h)
 ⟨h.blk.keep k hm,g,h.kp.trans k3,hJ _ _ k3 h.rows⟩
theorem DU.put{w U:World}{b rb mb:Nat}{e:Ey}{cs:Array Value}{J:World→Prop}(h:DU w b rb mb e cs J U)(hJ:Stb b rb mb J)(hb:mb≠b)(hr:mb≠rb)(i:Nat)(v:Value):DU w b rb mb e (cs.setIfInBounds i v) J (U.setCell ⟨mb,i,none⟩ v):=have k3:Keeps (Three b rb mb) U (U.setCell ⟨mb,i,none⟩ v):=(Keeps.refl _ _).setCell (p:=⟨mb,i,none⟩) (Or.inl (Or.inr (Or.inr rfl))) v
 ⟨h.blk.aL i v,h.ey.far (p:=⟨mb,i,none⟩) hb.symm hr.symm v,h.kp.trans k3,hJ _ _ k3 h.rows⟩
theorem DU.also{w U:World}{b rb mb:Nat}{e:Ey}{cs:Array Value}{J J':World→Prop}(h:DU w b rb mb e cs J U)(h':J' U):DU w b rb mb e cs J' U:=⟨h.blk,h.ey,h.kp,h'⟩
theorem G8{α:Type}{p:Rg α}(h:vk p)(c:Bool)(z:α):vk (ym c z p):=by
 unfold ym;cases c with
 |false=>exact ko z
 |true=>exact h
def aaG(w:World)(B mb:Nat)(d:Dl):Prop:=∃A1 c1 A2 c2 A3 c3,aG w mb 29 #[.int .u64 (d.base:Int),.int .u64 (d.version:Int),.slice A1 d.aL.length c1,.slice A2 d.gone.length c2,.bool d.cS,.slice A3 d.ax.length c3,.bool d.cX,.string d.policy,.string d.hash]∧cn w B (.slice A1 d.aL.length c1) d.aL∧w.ownsRow B 9 1 (.slice A2 d.gone.length c2) d.gone.length (strCells d.gone)∧w.ownsRow B 57 6 (.slice A3 d.ax.length c3) d.ax.length (dQ d.ax)
theorem Xe{w:World}{b rb mb:Nat}{e:Ey}(h:cf w b rb e)(hs:e.s.size≤4000000)(hm:aG w mb 29 #[.int .u64 0,.int .u64 0,au,au,.bool false,au,.bool false,aI,aI]){B:Nat}(hB:B≤w.heap.size)(hBm:mb<B):Calls ah 49 #[.pointer (some ⟨b,0,none⟩),.pointer (some ⟨mb,0,none⟩)] w fun r w'=>r=.returned (.tuple #[])∧aaG w' B mb (Ix e).1∧cf w' b rb (Ix e).2∧Keeps (Three b rb mb) w w':=by
 have hbl:=h.lt.1;have hrl:=h.lt.2;have hml:=hm.lt;have hne:mb≠b:=aG.vP hm h.blk aH;have hnr:mb≠rb:=aG.vP hm h.rd aH;unfold Ix;simp only[cU,jd];have l1:=aw (ef 8 e) hs;have hc1:=fun u(hu:cf u b rb e)=>ua hu hs
 generalize(bK 8 e).2=e1 at*;generalize(bK 8 e).1=base at*;have l2:=aw (ef 8 e1) l1;have hc2:=fun u(hu:cf u b rb e1)=>ua hu l1
 generalize(bK 8 e1).2=e2 at*;generalize(bK 8 e1).1=ver at*;have l3:=aw (iJ Dn e2) l2;have hc3:=fun u(hu:cf u b rb e2)=>yw hu l2 Gt Dn 37 (enters_of Tryz.func37 bo rfl) (pb:=b) fun W u h1 h2=>yy h1 h2
 generalize(cq Gt e2).2=e3 at*;generalize(cq Gt e2).1=ps at*;have l4:=aw (iJ (mc 32) e3) l3;have hc4:=fun u(hu:cf u b rb e3)=>AV hu l3 (keyE 32) (mc 32) 51 (enters_of Tryz.func51 bo rfl) (pb:=b) fun W u h1 h2=>mZ h1 h2
 generalize(cq (keyE 32) e3).2=e4 at*;generalize(cq (keyE 32) e3).1=gs at*;have l5:=aw (Gz e4) l4;have hc5:=fun u(hu:cf u b rb e4)=>yq hu l4
 generalize(lZ e4).2=e5 at*;generalize(lZ e4).1=hr at*;have l6:=aw (G8 (iJ Dp) hr [] e5) l5;have hc6:=fun u(hu:cf u b rb e5)=>yu hu l5 Iu Dp 39 (enters_of Tryz.func39 bo rfl) (pb:=b) fun W u h1 h2=>vl h1 h2
 obtain⟨R6,hR6⟩:=bq (ym hr [] (cq Iu) e5);rw[←hR6]at l6⊢;obtain⟨rs,e6⟩:=R6;simp only at l6⊢;have l7:=aw (Gz e6) l6;have hc7:=fun u(hu:cf u b rb e6)=>yq hu l6
 generalize(lZ e6).2=e7 at*;generalize(lZ e6).1=hp at*;have l8:=aw (G8 qm hp ⟨#[]⟩ e7) l7;have hc8:=fun u(hu:cf u b rb e7)=>wK hu l7
 obtain⟨R8,vV⟩:=bq (ym hp ⟨#[]⟩ gi e7);rw[←vV]at l8⊢;obtain⟨tx,e8⟩:=R8;simp only at l8⊢;have xT:=fun u(hu:cf u b rb e8)=>mZ hu l8
 generalize(keyE 32 e8).2=e9 at*;generalize(keyE 32 e8).1=hash at*;unfold aaG;simp only;obtain⟨n1,hn1⟩:=bq ps.length;obtain⟨n2,hn2⟩:=bq gs.length;unfold iD at hc1 hc2 hc5 hc7 hc8 xT;unfold Dq at hc3;unfold lC at hc4 hc6;rw[←hn1]at hc3⊢;rw[←hn2]at hc4⊢;have a0:=h.c0;obtain⟨C1,C2,C3,C4,C5,C6,C7,C8,C9,zv,YV⟩:=EB hc1 hc2 hc3 hc4 hc5 hc6 hc7 hc8 xT hR6 vV;have St0:ag (Stb b rb mb fun _=>True):=ae fun _ _ _ h=>h
 have hdr:Keeps (Three b rb mb) w w.drew:=Keeps.of_below (Below.drew (aM _ w)) fun _ h _=>h
 have S0:ag (DU w b rb mb e #[.int .u64 0,.int .u64 0,au,au,.bool false,au,.bool false,aI,aI] (fun _=>True) w.drew):=ae ⟨hm.drew,h.drew,hdr,trivial⟩;have qE:ag (∀k,Three b rb mb k→k<w.heap.size):=ae (by rintro k(rfl|rfl|rfl)<;>assumption);have NF:¬Two b rb mb:=by rintro(h|h)<;>contradiction
 obtain⟨HBB,jq,kq⟩:=bu hB hn1 hn2;clear hn1 hn2 hc1 hc2 hc3 hc4 hc5 hc6 hc7 hc8 xT hR6 vV h hm hs l1 l2 l3 l4 l5 l6 l7 l8 hB hBm hdr hbl hrl hml;go_enter Tryz.func49,Tryz.ntmps49;go_upto_region 0 with fail
 refine wp_region_held_drew (S:=(fun w'=>w'.cell? ⟨b,0,none⟩=some (.pointer (some ⟨rb,0,none⟩)))) bo (a0) (fun hHeld=>?_);refine bC 0 ?_
 refine bC 1 ?_
 refine bC 2 ?_
 refine bC 3 ?_
 refine bC 5 ?_
 refine bC 6 ?_
 refine bC 7 ?_
 refine bC 8 ?_
 refine jg 4 fun K hK=>?_;go_simp;refine(C1.out _ S0.out.ey).mono ?_;rintro r wb⟨rfl,gb,kb⟩;have s1:=S0.out.call St0.out NF gb kb;refine hK.out _ _ (gb.c0) (fun hHeld=>?_);clear hK K;try simp only[cN]
 refine bC 10 ?_
 refine jg 9 fun K hK=>?_;go_simp;refine(C2.out _ gb).mono ?_;rintro r wc⟨rfl,gc,kc⟩;have s2:=s1.call St0.out NF gc kc;have d0:=s2.blk.cell 0;have d1:=s2.blk.cell 1;simp at d0 d1;have f0:=s2.blk.frozen 0;have f1:=s2.blk.frozen 1;refine hK.out _ _ (gc.c0) (fun hHeld=>?_);clear hK K;try simp only[cN]
 refine jg 11 fun K hK=>?_;go_simp;refine hK.out _ _ (((cell_far (a:=⟨mb,0,none⟩) (c:=⟨b,0,none⟩) hne).trans gc.c0)) (fun hHeld=>?_);clear hK K;try simp only[cN]
 refine bC 12 ?_
 refine jg 13 fun K hK=>?_;go_simp;refine hK.out _ _ (((cell_far (a:=⟨mb,1,none⟩) (c:=⟨b,0,none⟩) hne).trans ((cell_far (a:=⟨mb,0,none⟩) (c:=⟨b,0,none⟩) hne).trans gc.c0))) (fun hHeld=>?_);clear hK K;try simp only[cN]
 refine qW ?_;have S2:ag (DU w b rb mb e2 #[.int .u64 base,.int .u64 ver,au,au,.bool false,au,.bool false,aI,aI] (fun _=>True) ((wc.setCell ⟨mb,0,none⟩ (.int .u64 base)).setCell ⟨mb,1,none⟩ (.int .u64 ver))):=ae ((s2.put St0.out hne hnr 0 (.int .u64 base)).put St0.out hne hnr 1 (.int .u64 ver));clear s1 s2 d0 d1 f0 f1 gb gc kb kc hHeld C1 C2 S0 a0;generalize(wc.setCell ⟨mb,0,none⟩ (.int .u64 base)).setCell ⟨mb,1,none⟩ (.int .u64 ver)=w2 at S2⊢;have HZ2:ag (w.heap.size≤w2.heap.size):=ae S2.out.kp.size;go_upto_region 2 with(first
  |(go_at_call 36;refine(C3.out _ S2.out.ey).mono ?_;rintro r w3⟨⟨A1,c1,rfl,o3⟩,g3,k3⟩;obtain⟨S3,O3⟩:=aN (S2.out.call St0.out NF g3 k3) (o3.mono HZ2.out);clear o3 g3 k3)
  |(go_at_call 50;refine(C4.out _ S3.out.ey).mono ?_;rintro r w4⟨⟨A2,c2,rfl,o4⟩,g4,k4⟩;have s4:=(S3.out.call St0.out NF g4 k4).also (J':=(fun u=>cn u w.heap.size (.slice A1 n1 c1) ps∧u.ownsRow w.heap.size 9 1 (.slice A2 n2 c2) n2 (strCells gs))) ⟨O3.out.above (Xd k4) qE.out,o4.mono S3.out.kp.size⟩;have St5:ag (Stb b rb mb (fun u=>cn u w.heap.size (.slice A1 n1 c1) ps∧u.ownsRow w.heap.size 9 1 (.slice A2 n2 c2) n2 (strCells gs))):=ae fun _ _ k h=>⟨h.1.above k qE.out,cJ h.2 k qE.out⟩;have d2:=s4.blk.cell 2;have d3:=s4.blk.cell 3;simp at d2 d3;have f2:=s4.blk.frozen 2;have f3:=s4.blk.frozen 3;have S5:ag (DU w b rb mb e4 #[.int .u64 base,.int .u64 ver,.slice A1 n1 c1,.slice A2 n2 c2,.bool false,au,.bool false,aI,aI] (fun u=>cn u w.heap.size (.slice A1 n1 c1) ps∧u.ownsRow w.heap.size 9 1 (.slice A2 n2 c2) n2 (strCells gs)) ((w4.setCell ⟨mb,2,none⟩ (.slice A1 n1 c1)).setCell ⟨mb,3,none⟩ (.slice A2 n2 c2))):=ae ((s4.put St5.out hne hnr 2 (.slice A1 n1 c1)).put St5.out hne hnr 3 (.slice A2 n2 c2));clear o4 g4 k4 s4))
 generalize(w4.setCell ⟨mb,2,none⟩ (.slice A1 n1 c1)).setCell ⟨mb,3,none⟩ (.slice A2 n2 c2)=w5 at S5⊢;clear d2 d3 f2 f3 C3 C4 S2 S3 O3 St0;go_upto_region 3 with(go_at_call 52;refine(C5.out _ S5.out.ey).mono ?_;rintro r w6⟨rfl,g6,k6⟩;have s6:=S5.out.call St5.out NF g6 k6;have d4:=s6.blk.cell 4;simp at d4;have f4:=s6.blk.frozen 4;have S6:ag (DU w b rb mb e5 #[.int .u64 base,.int .u64 ver,.slice A1 n1 c1,.slice A2 n2 c2,.bool hr,au,.bool false,aI,aI] (fun u=>cn u w.heap.size (.slice A1 n1 c1) ps∧u.ownsRow w.heap.size 9 1 (.slice A2 n2 c2) n2 (strCells gs)) (w6.setCell ⟨mb,4,none⟩ (.bool hr))):=ae (s6.put St5.out hne hnr 4 (.bool hr));clear g6 k6 s6)
 generalize w6.setCell ⟨mb,4,none⟩ (.bool hr)=w7 at S6⊢;clear d4 f4 C5 S5;have d4:=S6.out.blk.cell 4;simp at d4;go_upto_if 29 with fail
 clear d4;go_cut []from 30 (fun wx=>∃(A3:Option Addr)(n3 c3:Nat),ag (n3=rs.length)∧ag (DU w b rb mb e6 #[.int .u64 base,.int .u64 ver,.slice A1 n1 c1,.slice A2 n2 c2,.bool hr,.slice A3 n3 c3,.bool false,aI,aI] (fun u=>(cn u w.heap.size (.slice A1 n1 c1) ps∧u.ownsRow w.heap.size 9 1 (.slice A2 n2 c2) n2 (strCells gs))∧u.ownsRow w.heap.size 57 6 (.slice A3 n3 c3) n3 (dQ rs)) wx))
 case first=>
  cases hr with
  |false=>
   have e:(rs,e6)=(([]:List Ry),e5):=zv.out;injection e with e1 e2
   subst e1 e2;go_wp2_with fail
   go_meet;exact⟨none,0,0,ae (by simp),ae (S6.out.also ⟨S6.out.rows,bg _ _ _ _⟩)⟩
  |true=>
   have e:(rs,e6)=cq Iu e5:=zv.out;have c6:=C6.out;rw[←e]at c6;simp only at c6;obtain⟨n3,hn3⟩:=bq rs.length;rw[←hn3]at c6;obtain⟨vF,C6'⟩:=aN hn3 c6;clear e c6 hn3 C6;go_wp2_with(go_at_call 38;refine(C6'.out _ S6.out.ey).mono ?_;rintro r w8⟨⟨A3,c3,rfl,o8⟩,g8,k8⟩;have s8:=(S6.out.call St5.out NF g8 k8).also (J':=(fun u=>(cn u w.heap.size (.slice A1 n1 c1) ps∧u.ownsRow w.heap.size 9 1 (.slice A2 n2 c2) n2 (strCells gs))∧u.ownsRow w.heap.size 57 6 (.slice A3 n3 c3) n3 (dQ rs))) ⟨St5.out _ _ (Xd k8) S6.out.rows,o8.mono S6.out.kp.size⟩;have St7:ag (Stb b rb mb (fun u=>(cn u w.heap.size (.slice A1 n1 c1) ps∧u.ownsRow w.heap.size 9 1 (.slice A2 n2 c2) n2 (strCells gs))∧u.ownsRow w.heap.size 57 6 (.slice A3 n3 c3) n3 (dQ rs))):=ae fun _ _ k h=>⟨⟨h.1.1.above k qE.out,cJ h.1.2 k qE.out⟩,cJ h.2 k qE.out⟩;have d5:=s8.blk.cell 5;simp at d5;have f5:=s8.blk.frozen 5;have S8:ag (DU w b rb mb e6 #[.int .u64 base,.int .u64 ver,.slice A1 n1 c1,.slice A2 n2 c2,.bool true,.slice A3 n3 c3,.bool false,aI,aI] (fun u=>(cn u w.heap.size (.slice A1 n1 c1) ps∧u.ownsRow w.heap.size 9 1 (.slice A2 n2 c2) n2 (strCells gs))∧u.ownsRow w.heap.size 57 6 (.slice A3 n3 c3) n3 (dQ rs)) (w8.setCell ⟨mb,5,none⟩ (.slice A3 n3 c3))):=ae (s8.put St7.out hne hnr 5 (.slice A3 n3 c3));clear o8 g8 k8 s8)
   go_meet;exact⟨A3,n3,c3,vF,S8⟩
 case rest=>
 obtain⟨A3,n3,c3,hn3,S9⟩:=hcut;have St7:ag (Stb b rb mb (fun u=>(cn u w.heap.size (.slice A1 n1 c1) ps∧u.ownsRow w.heap.size 9 1 (.slice A2 n2 c2) n2 (strCells gs))∧u.ownsRow w.heap.size 57 6 (.slice A3 n3 c3) n3 (dQ rs))):=ae fun _ _ k h=>⟨⟨h.1.1.above k qE.out,cJ h.1.2 k qE.out⟩,cJ h.2 k qE.out⟩
 obtain⟨w9,rfl⟩:=bq (wc:World);clear S6 C6 zv St5;go_upto_region 6 with(go_at_call 52;refine(C7.out _ S9.out.ey).mono ?_;rintro r w10⟨rfl,g10,k10⟩;have s10:=S9.out.call St7.out NF g10 k10;have d6:=s10.blk.cell 6;simp at d6;have f6:=s10.blk.frozen 6;have S10:ag (DU w b rb mb e7 #[.int .u64 base,.int .u64 ver,.slice A1 n1 c1,.slice A2 n2 c2,.bool hr,.slice A3 n3 c3,.bool hp,aI,aI] (fun u=>(cn u w.heap.size (.slice A1 n1 c1) ps∧u.ownsRow w.heap.size 9 1 (.slice A2 n2 c2) n2 (strCells gs))∧u.ownsRow w.heap.size 57 6 (.slice A3 n3 c3) n3 (dQ rs)) (w10.setCell ⟨mb,6,none⟩ (.bool hp))):=ae (s10.put St7.out hne hnr 6 (.bool hp));clear g10 k10 s10)
 generalize w10.setCell ⟨mb,6,none⟩ (.bool hp)=uP at S10⊢;clear d6 f6 C7 S9;have d6:=S10.out.blk.cell 6;simp at d6;go_upto_if 39 with fail
 clear d6;go_cut []from 40 (fun wx=>ag (DU w b rb mb e8 #[.int .u64 base,.int .u64 ver,.slice A1 n1 c1,.slice A2 n2 c2,.bool hr,.slice A3 n3 c3,.bool hp,.string tx,aI] (fun u=>(cn u w.heap.size (.slice A1 n1 c1) ps∧u.ownsRow w.heap.size 9 1 (.slice A2 n2 c2) n2 (strCells gs))∧u.ownsRow w.heap.size 57 6 (.slice A3 n3 c3) n3 (dQ rs)) wx))
 case first=>
  cases hp with
  |false=>
   have e:(tx,e8)=((⟨#[]⟩:ByteArray),e7):=YV.out;injection e with e1 e2
   subst e1 e2;go_wp2_with fail
   go_meet;exact S10
  |true=>
   have e:(tx,e8)=gi e7:=YV.out;have c8:=C8.out;rw[←e]at c8;simp only at c8;have C8':=ae c8;have a11:=S10.out.ey.c0;clear e c8 C8;go_wp2_with(go_at_call 40;refine(C8'.out _ S10.out.ey).mono ?_;rintro r w12⟨rfl,g12,k12⟩;have s12:=S10.out.call St7.out NF g12 k12;have d7:=s12.blk.cell 7;simp at d7;have f7:=s12.blk.frozen 7;have S12:ag (DU w b rb mb e8 #[.int .u64 base,.int .u64 ver,.slice A1 n1 c1,.slice A2 n2 c2,.bool hr,.slice A3 n3 c3,.bool true,.string tx,aI] (fun u=>(cn u w.heap.size (.slice A1 n1 c1) ps∧u.ownsRow w.heap.size 9 1 (.slice A2 n2 c2) n2 (strCells gs))∧u.ownsRow w.heap.size 57 6 (.slice A3 n3 c3) n3 (dQ rs)) (w12.setCell ⟨mb,7,none⟩ (.string tx))):=ae (s12.put St7.out hne hnr 7 (.string tx));clear g12 k12 s12)
   go_meet;exact S12
 case rest=>
 obtain⟨Ek,rfl⟩:=bq (wc:World);have S13:=hcut;clear S10 C8 YV hcut;go_wp2_with(go_at_call 51;refine(C9.out _ S13.out.ey).mono ?_;rintro r jH⟨rfl,g14,k14⟩;have s14:=S13.out.call St7.out NF g14 k14;have d8:=s14.blk.cell 8;simp at d8;have f8:=s14.blk.frozen 8;have S14:ag (DU w b rb mb e9 #[.int .u64 base,.int .u64 ver,.slice A1 n1 c1,.slice A2 n2 c2,.bool hr,.slice A3 n3 c3,.bool hp,.string tx,.string hash] (fun u=>(cn u w.heap.size (.slice A1 n1 c1) ps∧u.ownsRow w.heap.size 9 1 (.slice A2 n2 c2) n2 (strCells gs))∧u.ownsRow w.heap.size 57 6 (.slice A3 n3 c3) n3 (dQ rs)) (jH.setCell ⟨mb,8,none⟩ (.string hash))):=ae (s14.put St7.out hne hnr 8 (.string hash));clear g14 k14 s14)
 go_end0
 obtain⟨z1,z2,z3,⟨z4,z5⟩,z6⟩:=S14.out;rw[hn3.out]at z1 z6;exact⟨rfl,⟨A1,c1,A2,c2,A3,c3,z1,z4.mono HBB.out,z5.mono HBB.out,z6.mono HBB.out⟩,z2,z3⟩
end Go.Proofs.YtkjaajcpbldjoaaGreatDoor
