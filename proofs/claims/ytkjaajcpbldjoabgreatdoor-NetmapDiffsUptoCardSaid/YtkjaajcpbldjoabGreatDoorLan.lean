/- Joined out of: EqC EqD RsA NlC RsB RcA RcB EdA EdB EdC EdD DfC SoA OwA. -/
import Derived.Test.YtkjaajcpbldjoabGreatDoorLam
import Derived.Sort.Grow
import Derived.Laws.OwnMore
set_option linter.unusedVariables false
set_option linter.unusedSimpArgs false
set_option maxHeartbeats 16000000
set_option maxRecDepth 100000
open Bool renaming and_eq_true→aU,true_and→bV,eq_iff_iff→gW,false_and→uy
open Go.Lib renaming hid→ae
open Go.Proofs.Tryz renaming prog→ah
open Go.RowKit renaming Hid→ag
open Go.RowKit.Below renaming refl→aI
open Go.World renaming ownsRow_nil→bh
open List renaming getElem?_eq_getElem→af,length_append→aj,length_map→ay,take_succ_eq_append_getElem→aC,range→aF,take_of_length_le→aN,append_assoc→aO,getElem_mem→aZ,getElem?_map→bO,length_cons→bP,map_append→cL,mem_map_of_mem→dQ,append_nil→ep,map_cons→jg,getElem?_eq_none→ux
open Nat renaming le_trans→aw,zero_le→bj,add_zero→cq,add_assoc→jh
namespace Go.Proofs.YtkjaajcpbldjoabGreatDoor
open Go.RowKit
attribute [local go_sem↓] Go.wp_at_zero Go.wp_at_succ
def uo(q:bS→bS→Bool)(xs ys:List bS)(k:Nat):Bool:=match xs[k]?,ys[k]? with|some x,some y=>q x y|_,_=>false
def eqL(q:bS→bS→Bool)(xs ys:List bS):Bool:=decide (xs.length=ys.length)&&(aF xs.length).all (uo q xs ys)
theorem Xk(xs ys:List bS):eqL (fun X Y=>decide (X.p=Y.p)) xs ys=decide (xs.map (·.p)=ys.map (·.p)):=by
 unfold eqL;rw[gW,aU,decide_eq_true_eq,decide_eq_true_eq,List.all_eq_true];constructor
 ·rintro⟨h1,h2⟩;apply List.ext_getElem (by rw[ay,ay];exact h1);intro k hk hk2;rw[ay]at hk hk2;have:=h2 k (List.mem_range.2 hk);unfold uo at this;rw[af hk,af hk2]at this;rw[List.getElem_map,List.getElem_map];exact of_decide_eq_true this
 ·intro h;have hl:xs.length=ys.length:=by have:=congrArg List.length h;rwa [ay,ay]at this
  refine⟨hl,fun k hk=>?_⟩;have hk1:=List.mem_range.1 hk;have hk2:k<ys.length:=by omega
  unfold uo;rw[af hk1,af hk2];refine decide_eq_true ?_;have h1:(xs.map (·.p))[k]? =(ys.map (·.p))[k]? :=by rw[h]
  rw[bO,bO,af hk1,af hk2]at h1;injection h1
theorem Xl{w:World}{v1 v2:Value}(xs ys:List bS)(hl:xs.length≤4000000)(hl2:ys.length≤4000000)(h1:a8 w v1 xs.length 8 (cY xs))(h2:a8 w v2 ys.length 8 (cY ys))(hx:∀X∈xs,fc w X)(hy:∀Y∈ys,fc w Y)(q:bS→bS→Bool)(f:Nat)(eg:∀args w,(callFunc f args).run ah w=.ok (.enter f args) w)(hf:∀W,aW w W→∀X∈xs,∀Y∈ys,Calls ah f #[.agg X.vals.toArray,.agg Y.vals.toArray] W (Got (.bool (q X Y)) W)):Calls ah 69 #[v1,v2,.func (.func f) #[] #[]] w (Got (.bool (eqL q xs ys)) w):=by
 obtain⟨A1,cap1,rfl,_,hA1⟩:=h1;obtain⟨A2,cap2,rfl,_,hA2⟩:=h2;obtain⟨HA1,HA2,HX,HY,HF⟩:=eB hA1 hA2 hx hy hf;clear hA1 hA2 hx hy hf;unfold eqL;by_cases hn:xs.length=ys.length
 ·rw[decide_eq_true hn,bV];obtain⟨N,hN⟩:=bw xs.length;rw[←hn]at HA2 hl2⊢;rw[←hN]at HA1 HA2 hl⊢;obtain⟨jL,kX⟩:=aL hN (hN.trans hn);clear hn hN hl2;obtain⟨R,hR⟩:=bw ((aF N).all (uo q xs ys));rw[←hR];have HR:=ae hR;clear hR;go_enter Tryz.func69,Tryz.ntmps69;go_wp2_with fail
  go_loopw [17] (fun v17 wr=>∃k:Nat,k≤N∧v17=.int .i64 k∧ag (aW w wr)∧ag ((aF k).all (uo q xs ys)=true)) (fun v17 _=>N-(intOf v17).toNat)
  case atStart=>exact⟨0,bj _,rfl,ae (aI _ _),ae rfl⟩
  case round=>
   obtain⟨k,hk,rfl,HW,hall⟩:=hrel;obtain⟨wo,rfl⟩:=bw (wr:World);by_cases hlt:k<N
   case neg=>
    obtain rfl:k=N:=by omega
    have ej:ag (R=true):=ae (by rw[HR.out];exact hall.out);go_wp2_with fail
    go_ret;exact⟨by rw[ej.out];rfl,HW.out⟩
   have hkl:k<xs.length:=by have:=jL.out;omega
   have hkm:k<ys.length:=by have:=kX.out;omega
   have htw:uo q xs ys k=q xs[k] ys[k]:=by
    unfold uo;rw[af hkl,af hkm]
   have hcall:=fun u(hu:aW w u)=>HF.out u hu _ (aZ hkl) _ (aZ hkm)
   obtain⟨q1,o1,rfl,hc1⟩:=HA1.out aR;have hm1:=HX.out _ (aZ hkl);have g10:=aD bS.vals 8 aB (af hkl) (r:=0) rfl;have g11:=aD bS.vals 8 aB (af hkl) (r:=1) rfl;have g12:=aD bS.vals 8 aB (af hkl) (r:=2) rfl;have g13:=aD bS.vals 8 aB (af hkl) (r:=3) rfl;have g14:=aD bS.vals 8 aB (af hkl) (r:=4) rfl;have g15:=aD bS.vals 8 aB (af hkl) (r:=5) rfl;have g16:=aD bS.vals 8 aB (af hkl) (r:=6) rfl;have g17:=aD bS.vals 8 aB (af hkl) (r:=7) rfl;have d10:=ai (hc1 _ _ g10) HW.out;have d11:=ai (hc1 _ _ g11) HW.out;have d12:=ai (hc1 _ _ g12) HW.out;have d13:=ai (hc1 _ _ g13) HW.out;have jM:=ai (hc1 _ _ g14) HW.out;have mG:=ai (hc1 _ _ g15) HW.out;have jV:=ai (hc1 _ _ g16) HW.out;have nk:=ai (hc1 _ _ g17) HW.out;clear hc1 g10 g11 g12 g13 g14 g15 g16 g17;obtain⟨q2,o2,rfl,hc2⟩:=HA2.out aR;have hm2:=HY.out _ (aZ hkm);have g20:=aD bS.vals 8 aB (af hkm) (r:=0) rfl;have g21:=aD bS.vals 8 aB (af hkm) (r:=1) rfl;have g22:=aD bS.vals 8 aB (af hkm) (r:=2) rfl;have g23:=aD bS.vals 8 aB (af hkm) (r:=3) rfl;have g24:=aD bS.vals 8 aB (af hkm) (r:=4) rfl;have N8:=aD bS.vals 8 aB (af hkm) (r:=5) rfl;have g26:=aD bS.vals 8 aB (af hkm) (r:=6) rfl;have g27:=aD bS.vals 8 aB (af hkm) (r:=7) rfl;have lR:=ai (hc2 _ _ g20) HW.out;have oI:=ai (hc2 _ _ g21) HW.out;have oJ:=ai (hc2 _ _ g22) HW.out;have tc:=ai (hc2 _ _ g23) HW.out;have AK:=ai (hc2 _ _ g24) HW.out;have AN:=ai (hc2 _ _ N8) HW.out;have Xm:=ai (hc2 _ _ g26) HW.out;have Xn:=ai (hc2 _ _ g27) HW.out;clear hc2 g20 g21 g22 g23 g24 N8 g26 g27;generalize xs[k]=X at htw hcall hm1 d10 d11 d12 d13 jM mG jV nk;generalize ys[k]=Y at htw hcall hm2 lR oI oJ tc AK AN Xm Xn;generalize q X Y=B at htw hcall;obtain⟨gk,c11,e11⟩:=hm1.tags.shape;obtain⟨gi,c12,e12⟩:=hm1.aQ.shape;obtain⟨jJ,c13,e13⟩:=hm1.ends.shape;clear hm1;obtain⟨⟨key1,bD,b8,ew,dr,gU,bA,eJ⟩,Yq,Yr,ev1⟩:=X;simp only at e11 e12 e13 d10 d11 d12 d13 jM mG jV nk;subst e11 e12 e13;obtain⟨jq,c21,e21⟩:=hm2.tags.shape;obtain⟨jr,js,e22⟩:=hm2.aQ.shape;obtain⟨mh,c23,e23⟩:=hm2.ends.shape;clear hm2;obtain⟨⟨key2,bB,cf,du,cH,iP,bJ,dw⟩,tv2,av2,ev2⟩:=Y;simp only at e21 e22 e23 lR oI oJ tc AK AN Xm Xn;subst e21 e22 e23;unfold bS.vals at hcall;simp only at hcall;generalize ew.length=n11 at*;generalize dr.length=n12 at*;generalize eJ.length=n13 at*;generalize du.length=n21 at*;generalize cH.length=n22 at*;generalize dw.length=n23 at*;rw[cq]at d10 lR;rw[←jh]at d11 d12 d13 jM mG jV nk oI oJ tc AK AN Xm Xn;obtain⟨bG,HTw⟩:=aL hcall htw;clear hcall htw hkl hkm;obtain⟨HB1,od⟩:=aL (after HW.out (boxed wo (.cells #[.string key1,.string bD,.string b8,.slice gk n11 c11,.slice gi n12 c12,.int .u64 gU,.int .u8 bA,.slice jJ n13 c13] 47))) (aH.new wo 47 #[.string key1,.string bD,.string b8,.slice gk n11 c11,.slice gi n12 c12,.int .u64 gU,.int .u8 bA,.slice jJ n13 c13]);have hzz:=boxed wo (.cells #[.string key1,.string bD,.string b8,.slice gk n11 c11,.slice gi n12 c12,.int .u64 gU,.int .u8 bA,.slice jJ n13 c13] 47);go_upto_region 6 with fail
   generalize wo.alloc (.cells #[.string key1,.string bD,.string b8,.slice gk n11 c11,.slice gi n12 c12,.int .u64 gU,.int .u8 bA,.slice jJ n13 c13] 47)=w1 at HB1 od hzz⊢;generalize wo.heap.size=P at od⊢;have e20:=ai lR hzz;have e21:=ai oI hzz;have e22:=ai oJ hzz;have e23:=ai tc hzz;have e24:=ai AK hzz;have e25:=ai AN hzz;have e26:=ai Xm hzz;have e27:=ai Xn hzz;clear hzz d10 d11 d12 d13 jM mG jV nk lR oI oJ tc AK AN Xm Xn;have hb2:=boxed w1 (.cells #[.string key2,.string bB,.string cf,.slice jq n21 c21,.slice jr n22 js,.int .u64 iP,.int .u8 bJ,.slice mh n23 c23] 47);have HB2:=bg HB1 hb2;obtain⟨HP2,bQ⟩:=aL (aH.new w1 47 #[.string key2,.string bB,.string cf,.slice jq n21 c21,.slice jr n22 js,.int .u64 iP,.int .u8 bJ,.slice mh n23 c23]) (bK od hb2);clear hb2;go_upto_region 7 with fail
   generalize w1.alloc (.cells #[.string key2,.string bB,.string cf,.slice jq n21 c21,.slice jr n22 js,.int .u64 iP,.int .u8 bJ,.slice mh n23 c23] 47)=w2 at HB2 HP2 bQ⊢;generalize w1.heap.size=Q at HP2⊢;have x0:=bQ.out.cell 0;have y0:=HP2.out.cell 0;have x1:=bQ.out.cell 1;have y1:=HP2.out.cell 1;have x2:=bQ.out.cell 2;have y2:=HP2.out.cell 2;have x3:=bQ.out.cell 3;have y3:=HP2.out.cell 3;have x4:=bQ.out.cell 4;have y4:=HP2.out.cell 4;have x5:=bQ.out.cell 5;have y5:=HP2.out.cell 5;have x6:=bQ.out.cell 6;have y6:=HP2.out.cell 6;have x7:=bQ.out.cell 7;have y7:=HP2.out.cell 7;simp at x0 y0 x1 y1 x2 y2 x3 y3 x4 y4 x5 y5 x6 y6 x7 y7;clear e20 e21 e22 e23 e24 e25 e26 e27;cases B with
   |false=>
    have ej:ag (R=false):=ae (by rw[HR.out];exact fy hlt HTw.out);go_wp2_with(go_at_fn f;(with_reducible refine(bG.out _ HB2.out).mono ?_);rintro r w3⟨rfl,d3⟩;have HB3:=bg HB2 d3;clear d3)
    go_ret;exact⟨by rw[ej.out];rfl,HB3.out⟩
   |true=>
    have ady:ag ((aF (k+1)).all (uo q xs ys)=true):=ae (by rw[fi,hall.out,HTw.out];rfl);go_wp2_with(go_at_fn f;(with_reducible refine(bG.out _ HB2.out).mono ?_);rintro r w3⟨rfl,d3⟩;have HB3:=bg HB2 d3;clear d3)
    go_roundw
    case rel=>exact⟨k+1,by omega,by go_num,HB3,ady⟩
    case measure=>simp[intOf];omega
 ·rw[decide_eq_false hn,uy];generalize xs.length=N1 at*;generalize ys.length=N2 at*;have hne:((N1:Int) !=(N2:Int))=true:=by simp;omega
  clear hn HA1 HA2;go_enter Tryz.func69,Tryz.ntmps69;go_wp2_with fail
  go_ret;exact⟨rfl,aI _ _⟩
theorem abJ(x y:Mp):decide (x=y)=(((x.version:Int)==(y.version:Int))&&((x.policy.toList==y.policy.toList)&&(decide (x.aK=y.aK)&&decide (x.aA=y.aA)))):=by
 obtain⟨a,b,c,d⟩:=x;obtain⟨a',b',c',d'⟩:=y;rw[gW];simp only[aU,beq_iff_eq,decide_eq_true_eq,Mp.mk.injEq];constructor
 ·rintro⟨rfl,rfl,rfl,rfl⟩;exact⟨rfl,rfl,rfl,rfl⟩
 ·rintro⟨h1,h2,h3,h4⟩;exact⟨by omega,h3,h4,toList_inj h2⟩
theorem df.open_{w:World}{v:Value}{l:List Pr}(h:df w v l):∃xs:List bS,xs.map (·.p)=l∧xs.length=l.length∧a8 w v xs.length 8 (cY xs)∧∀X∈xs,fc w X:=by
 obtain⟨xs,h1,h2,h3⟩:=h;exact⟨xs,h1,by rw[←h1,ay],h2,h3⟩
theorem BF{w:World}{pv1 rv1 pv2 rv2:Value}{x y:Mp}(hp1:df w pv1 x.aK)(hr1:eG w rv1 x.aA)(hp2:df w pv2 y.aK)(hr2:eG w rv2 y.aA)(s1:∀p∈x.aK,gQ p)(s2:∀p∈y.aK,gQ p)(l1:x.aK.length≤4000000)(l2:y.aK.length≤4000000)(m1:x.aA.length≤4000000)(m2:y.aA.length≤4000000):Calls ah 21 #[.agg #[.int .u64 (x.version:Int),pv1,rv1,.string x.policy],.agg #[.int .u64 (y.version:Int),pv2,rv2,.string y.policy]] w (Got (.bool (decide (x=y))) w):=by
 have hre:=fun u(hu:aW w u)=>Hw x.aA y.aA m1 m2 (a8.below hr1 hu) (a8.below hr2 hu)
 obtain⟨xs,e1,le1,ro1,me1⟩:=hp1.open_;obtain⟨ys,e2,le2,ro2,me2⟩:=hp2.open_;have hpe:=fun u(hu:aW w u)=>Xl xs ys aR aR (ro1.below hu) (ro2.below hu) (fun X hX=>(me1 X hX).below hu) (fun Y hY=>(me2 Y hY).below hu) (fun X Y=>decide (X.p=Y.p)) 24 (enters_of Tryz.func24 bo rfl) fun W hW X hX Y hY=>sH (((me1 X hX).below hu).below hW) (((me2 Y hY).below hu).below hW) (s1 _ (by rw[←e1];exact dQ hX)) (s2 _ (by rw[←e2];exact dQ hY))
 rw[Xk,e1,e2]at hpe;obtain⟨gk,c11,e11⟩:=hp1.shape;obtain⟨gi,c12,e12⟩:=a8.shape hr1;obtain⟨jq,c21,e21⟩:=hp2.shape;obtain⟨jr,js,e22⟩:=a8.shape hr2;clear hp1 hp2 hr1 hr2 s1 s2 l1 l2 m1 m2 e1 e2 le1 le2 ro1 ro2 me1 me2;rw[abJ];obtain⟨lH,yO,sN,lI⟩:=x;obtain⟨nT,yP,sO,nU⟩:=y;simp only at*;subst e11 e12 e21 e22;generalize decide (yO=yP)=BP at*;generalize decide (sN=sO)=BR at*;generalize yO.length=n11 at*;generalize sN.length=n12 at*;generalize yP.length=n21 at*;generalize sO.length=n22 at*;obtain⟨HP,HR,od,HB1⟩:=cU hpe hre (aH.new w 26 #[.int .u64 lH,.slice gk n11 c11,.slice gi n12 c12,.string lI]) (boxed w (.cells #[.int .u64 lH,.slice gk n11 c11,.slice gi n12 c12,.string lI] 26));clear hpe hre;obtain⟨HB2,bQ⟩:=aL (after HB1.out (boxed (w.alloc (.cells #[.int .u64 lH,.slice gk n11 c11,.slice gi n12 c12,.string lI] 26)) (.cells #[.int .u64 nT,.slice jq n21 c21,.slice jr n22 js,.string nU] 26))) (bK od (boxed (w.alloc (.cells #[.int .u64 lH,.slice gk n11 c11,.slice gi n12 c12,.string lI] 26)) (.cells #[.int .u64 nT,.slice jq n21 c21,.slice jr n22 js,.string nU] 26)));have hP2:aH ((w.alloc (.cells #[.int .u64 lH,.slice gk n11 c11,.slice gi n12 c12,.string lI] 26)).alloc (.cells #[.int .u64 nT,.slice jq n21 c21,.slice jr n22 js,.string nU] 26)) (w.heap.size+1) 26 #[.int .u64 nT,.slice jq n21 c21,.slice jr n22 js,.string nU]:=by
  have:=aH.new (w.alloc (.cells #[.int .u64 lH,.slice gk n11 c11,.slice gi n12 c12,.string lI] 26)) 26 #[.int .u64 nT,.slice jq n21 c21,.slice jr n22 js,.string nU];rw[show(w.alloc (.cells #[.int .u64 lH,.slice gk n11 c11,.slice gi n12 c12,.string lI] 26)).heap.size=w.heap.size+1 by simp]at this;exact this
 have HP2:=ae hP2;clear hP2 od HB1;cases hb0:((lH:Int)==(nT:Int))with
 |false=>
  simp only[uy];go_enter Tryz.func21,Tryz.ntmps21;go_upto_region 1 with fail
  generalize(w.alloc (.cells #[.int .u64 lH,.slice gk n11 c11,.slice gi n12 c12,.string lI] 26)).alloc (.cells #[.int .u64 nT,.slice jq n21 c21,.slice jr n22 js,.string nU] 26)=w2 at HB2 bQ HP2⊢;generalize w.heap.size+1=Q at HP2⊢;generalize hPw:w.heap.size=P at bQ⊢;have kN:=ae hPw;clear hPw;have x0:=bQ.out.cell 0;have x1:=bQ.out.cell 1;have x2:=bQ.out.cell 2;have x3:=bQ.out.cell 3;have y0:=HP2.out.cell 0;have y1:=HP2.out.cell 1;have y2:=HP2.out.cell 2;have y3:=HP2.out.cell 3;simp at x0 x1 x2 x3 y0 y1 y2 y3;go_wp2_with fail
  go_ret;exact⟨rfl,HB2.out⟩
 |true=>
  cases hb1:(lI.toList==nU.toList)with
  |false=>
   simp only[uy,bV];go_enter Tryz.func21,Tryz.ntmps21;go_upto_region 1 with fail
   generalize(w.alloc (.cells #[.int .u64 lH,.slice gk n11 c11,.slice gi n12 c12,.string lI] 26)).alloc (.cells #[.int .u64 nT,.slice jq n21 c21,.slice jr n22 js,.string nU] 26)=w2 at HB2 bQ HP2⊢;generalize w.heap.size+1=Q at HP2⊢;generalize hPw:w.heap.size=P at bQ⊢;have kN:=ae hPw;clear hPw;have x0:=bQ.out.cell 0;have x1:=bQ.out.cell 1;have x2:=bQ.out.cell 2;have x3:=bQ.out.cell 3;have y0:=HP2.out.cell 0;have y1:=HP2.out.cell 1;have y2:=HP2.out.cell 2;have y3:=HP2.out.cell 3;simp at x0 x1 x2 x3 y0 y1 y2 y3;go_wp2_with fail
   go_ret;exact⟨rfl,HB2.out⟩
  |true=>
   simp only[bV];cases BP with
   |false=>
    simp only[uy];go_enter Tryz.func21,Tryz.ntmps21;go_upto_region 1 with fail
    generalize(w.alloc (.cells #[.int .u64 lH,.slice gk n11 c11,.slice gi n12 c12,.string lI] 26)).alloc (.cells #[.int .u64 nT,.slice jq n21 c21,.slice jr n22 js,.string nU] 26)=w2 at HB2 bQ HP2⊢;generalize w.heap.size+1=Q at HP2⊢;generalize hPw:w.heap.size=P at bQ⊢;have kN:=ae hPw;clear hPw;have x0:=bQ.out.cell 0;have x1:=bQ.out.cell 1;have x2:=bQ.out.cell 2;have x3:=bQ.out.cell 3;have y0:=HP2.out.cell 0;have y1:=HP2.out.cell 1;have y2:=HP2.out.cell 2;have y3:=HP2.out.cell 3;simp at x0 x1 x2 x3 y0 y1 y2 y3;go_wp2_with(first
     |(go_at_call 69;refine(HP.out _ HB2.out).mono ?_;rintro r w3⟨rfl,d3⟩;have px2:=ai x2 d3;have py2:=ai y2 d3;have HB3:=bg HB2 d3;clear d3))
    go_ret;exact⟨rfl,HB3.out⟩
   |true=>
    simp only[bV];go_enter Tryz.func21,Tryz.ntmps21;go_upto_region 1 with fail
    generalize(w.alloc (.cells #[.int .u64 lH,.slice gk n11 c11,.slice gi n12 c12,.string lI] 26)).alloc (.cells #[.int .u64 nT,.slice jq n21 c21,.slice jr n22 js,.string nU] 26)=w2 at HB2 bQ HP2⊢;generalize w.heap.size+1=Q at HP2⊢;generalize hPw:w.heap.size=P at bQ⊢;have kN:=ae hPw;clear hPw;have x0:=bQ.out.cell 0;have x1:=bQ.out.cell 1;have x2:=bQ.out.cell 2;have x3:=bQ.out.cell 3;have y0:=HP2.out.cell 0;have y1:=HP2.out.cell 1;have y2:=HP2.out.cell 2;have y3:=HP2.out.cell 3;simp at x0 x1 x2 x3 y0 y1 y2 y3;go_wp2_with(first
     |(go_at_call 69;refine(HP.out _ HB2.out).mono ?_;rintro r w3⟨rfl,d3⟩;have px2:=ai x2 d3;have py2:=ai y2 d3;have HB3:=bg HB2 d3;clear d3)
     |(go_at_call 26;refine(HR.out _ HB3.out).mono ?_;rintro r w4⟨rfl,d4⟩;have HB4:=bg HB3 d4;clear d4))
    go_ret;exact⟨rfl,HB4.out⟩
theorem yQ{w:World}{v1 v2:Value}{l1 l2:List Pr}(h1:df w v1 l1)(h2:df w v2 l2)(s1:∀p∈l1,gQ p)(s2:∀p∈l2,gQ p)(hl:l1.length≤4000000)(hl2:l2.length≤4000000):Calls ah 63 #[v1,v2] w (Got (.bool (decide (l1=l2))) w):=by
 obtain⟨xs,hx1,⟨A1,cap1,rfl,_,hA1⟩,hx⟩:=h1;obtain⟨ys,hy1,⟨A2,cap2,rfl,_,hA2⟩,hy⟩:=h2;subst hx1 hy1;rw[←Xk];rw[ay]at hl hl2;obtain⟨HA1,HA2,HX,HY,HSx,HSy⟩:=ot hA1 hA2 hx hy (fun X(hX:X∈xs)=>s1 X.p (dQ hX)) (fun X(hX:X∈ys)=>s2 X.p (dQ hX));clear hA1 hA2 hx hy s1 s2;unfold eqL;by_cases hn:xs.length=ys.length
 ·rw[decide_eq_true hn,bV];obtain⟨N,hN⟩:=bw xs.length;rw[←hn]at HA2 hl2⊢;rw[←hN]at HA1 HA2 hl⊢;obtain⟨jL,kX⟩:=aL hN (hN.trans hn);clear hn hN hl2;obtain⟨R,hR⟩:=bw ((aF N).all (uo (fun X Y=>decide (X.p=Y.p)) xs ys));rw[←hR];have HR:=ae hR;clear hR;go_enter Tryz.func63,Tryz.ntmps63;go_wp2_with fail
  go_loopw [5] (fun v5 wr=>∃k:Nat,k≤N∧v5=.int .i64 k∧ag (aW w wr)∧ag ((aF k).all (uo (fun X Y=>decide (X.p=Y.p)) xs ys)=true)) (fun v5 _=>N-(intOf v5).toNat)
  case atStart=>exact⟨0,bj _,rfl,ae (aI _ _),ae rfl⟩
  case round=>
   obtain⟨k,hk,rfl,HW,hall⟩:=hrel;obtain⟨wo,rfl⟩:=bw (wr:World);by_cases hlt:k<N
   case neg=>
    obtain rfl:k=N:=by omega
    have ej:ag (R=true):=ae (by rw[HR.out];exact hall.out);go_wp2_with fail
    go_ret;exact⟨by rw[ej.out];rfl,HW.out⟩
   have hkl:k<xs.length:=by have:=jL.out;omega
   have hkm:k<ys.length:=by have:=kX.out;omega
   have htw:uo (fun X Y=>decide (X.p=Y.p)) xs ys k=decide (xs[k].p=ys[k].p):=by
    unfold uo;rw[af hkl,af hkm]
   have hcall:=fun u(hu:aW w u)=>qP ((HX.out _ (aZ hkl)).below hu) ((HY.out _ (aZ hkm)).below hu) (HSx.out _ (aZ hkl)) (HSy.out _ (aZ hkm))
   obtain⟨q1,o1,rfl,hc1⟩:=HA1.out aR;have hm1:=HX.out _ (aZ hkl);have g10:=aD bS.vals 8 aB (af hkl) (r:=0) rfl;have g11:=aD bS.vals 8 aB (af hkl) (r:=1) rfl;have g12:=aD bS.vals 8 aB (af hkl) (r:=2) rfl;have g13:=aD bS.vals 8 aB (af hkl) (r:=3) rfl;have g14:=aD bS.vals 8 aB (af hkl) (r:=4) rfl;have g15:=aD bS.vals 8 aB (af hkl) (r:=5) rfl;have g16:=aD bS.vals 8 aB (af hkl) (r:=6) rfl;have g17:=aD bS.vals 8 aB (af hkl) (r:=7) rfl;have d10:=ai (hc1 _ _ g10) HW.out;have d11:=ai (hc1 _ _ g11) HW.out;have d12:=ai (hc1 _ _ g12) HW.out;have d13:=ai (hc1 _ _ g13) HW.out;have jM:=ai (hc1 _ _ g14) HW.out;have mG:=ai (hc1 _ _ g15) HW.out;have jV:=ai (hc1 _ _ g16) HW.out;have nk:=ai (hc1 _ _ g17) HW.out;clear hc1 g10 g11 g12 g13 g14 g15 g16 g17;obtain⟨q2,o2,rfl,hc2⟩:=HA2.out aR;have hm2:=HY.out _ (aZ hkm);have g20:=aD bS.vals 8 aB (af hkm) (r:=0) rfl;have g21:=aD bS.vals 8 aB (af hkm) (r:=1) rfl;have g22:=aD bS.vals 8 aB (af hkm) (r:=2) rfl;have g23:=aD bS.vals 8 aB (af hkm) (r:=3) rfl;have g24:=aD bS.vals 8 aB (af hkm) (r:=4) rfl;have N8:=aD bS.vals 8 aB (af hkm) (r:=5) rfl;have g26:=aD bS.vals 8 aB (af hkm) (r:=6) rfl;have g27:=aD bS.vals 8 aB (af hkm) (r:=7) rfl;have lR:=ai (hc2 _ _ g20) HW.out;have oI:=ai (hc2 _ _ g21) HW.out;have oJ:=ai (hc2 _ _ g22) HW.out;have tc:=ai (hc2 _ _ g23) HW.out;have AK:=ai (hc2 _ _ g24) HW.out;have AN:=ai (hc2 _ _ N8) HW.out;have Xm:=ai (hc2 _ _ g26) HW.out;have Xn:=ai (hc2 _ _ g27) HW.out;clear hc2 g20 g21 g22 g23 g24 N8 g26 g27;generalize xs[k]=X at htw hcall hm1 d10 d11 d12 d13 jM mG jV nk;generalize ys[k]=Y at htw hcall hm2 lR oI oJ tc AK AN Xm Xn;generalize decide (X.p=Y.p)=B at htw hcall;obtain⟨gk,c11,e11⟩:=hm1.tags.shape;obtain⟨gi,c12,e12⟩:=hm1.aQ.shape;obtain⟨jJ,c13,e13⟩:=hm1.ends.shape;clear hm1;obtain⟨⟨key1,bD,b8,ew,dr,gU,bA,eJ⟩,Yq,Yr,ev1⟩:=X;simp only at e11 e12 e13 d10 d11 d12 d13 jM mG jV nk;subst e11 e12 e13;obtain⟨jq,c21,e21⟩:=hm2.tags.shape;obtain⟨jr,js,e22⟩:=hm2.aQ.shape;obtain⟨mh,c23,e23⟩:=hm2.ends.shape;clear hm2;obtain⟨⟨key2,bB,cf,du,cH,iP,bJ,dw⟩,tv2,av2,ev2⟩:=Y;simp only at e21 e22 e23 lR oI oJ tc AK AN Xm Xn;subst e21 e22 e23;unfold bS.vals at hcall;simp only at hcall;generalize ew.length=n11 at*;generalize dr.length=n12 at*;generalize eJ.length=n13 at*;generalize du.length=n21 at*;generalize cH.length=n22 at*;generalize dw.length=n23 at*;rw[cq]at d10 lR;rw[←jh]at d11 d12 d13 jM mG jV nk oI oJ tc AK AN Xm Xn;obtain⟨bG,HTw⟩:=aL hcall htw;clear hcall htw hkl hkm;go_upto_region 6 with fail
   refine wp_region_held_drew (S:=(fun w'=>w'.cell? ⟨q1,o1+k*8,none⟩=some (.string key1)∧w'.cell? ⟨q1,o1+k*8+1,none⟩=some (.string bD)∧w'.cell? ⟨q1,o1+k*8+2,none⟩=some (.string b8)∧w'.cell? ⟨q1,o1+k*8+3,none⟩=some (.slice gk n11 c11)∧w'.cell? ⟨q1,o1+k*8+4,none⟩=some (.slice gi n12 c12)∧w'.cell? ⟨q1,o1+k*8+5,none⟩=some (.int .u64 gU)∧w'.cell? ⟨q1,o1+k*8+6,none⟩=some (.int .u8 bA)∧w'.cell? ⟨q1,o1+k*8+7,none⟩=some (.slice jJ n13 c13)∧w'.cell? ⟨q2,o2+k*8,none⟩=some (.string key2)∧w'.cell? ⟨q2,o2+k*8+1,none⟩=some (.string bB)∧w'.cell? ⟨q2,o2+k*8+2,none⟩=some (.string cf)∧w'.cell? ⟨q2,o2+k*8+3,none⟩=some (.slice jq n21 c21)∧w'.cell? ⟨q2,o2+k*8+4,none⟩=some (.slice jr n22 js)∧w'.cell? ⟨q2,o2+k*8+5,none⟩=some (.int .u64 iP)∧w'.cell? ⟨q2,o2+k*8+6,none⟩=some (.int .u8 bJ)∧w'.cell? ⟨q2,o2+k*8+7,none⟩=some (.slice mh n23 c23))) bo (⟨d10,d11,d12,d13,jM,mG,jV,nk,lR,oI,oJ,tc,AK,AN,Xm,Xn⟩) (fun hHeld=>?_);refine aY 0 ?_
   refine aY 1 ?_
   refine aY 2 ?_
   refine aY 3 ?_
   refine aY 4 ?_
   refine aY 5 ?_
   refine aY 6 ?_
   refine aY 7 ?_
   refine fA 8 fun K hK=>?_;go_simp;refine(bG.out _ HW.out.drew).mono ?_;rintro r w3⟨rfl,d3⟩;refine hK.out _ _ (⟨ai hHeld.1 d3,ai hHeld.2.1 d3,ai hHeld.2.2.1 d3,ai hHeld.2.2.2.1 d3,ai hHeld.2.2.2.2.1 d3,ai hHeld.2.2.2.2.2.1 d3,ai hHeld.2.2.2.2.2.2.1 d3,ai hHeld.2.2.2.2.2.2.2.1 d3,ai hHeld.2.2.2.2.2.2.2.2.1 d3,ai hHeld.2.2.2.2.2.2.2.2.2.1 d3,ai hHeld.2.2.2.2.2.2.2.2.2.2.1 d3,ai hHeld.2.2.2.2.2.2.2.2.2.2.2.1 d3,ai hHeld.2.2.2.2.2.2.2.2.2.2.2.2.1 d3,ai hHeld.2.2.2.2.2.2.2.2.2.2.2.2.2.1 d3,ai hHeld.2.2.2.2.2.2.2.2.2.2.2.2.2.2.1 d3,ai hHeld.2.2.2.2.2.2.2.2.2.2.2.2.2.2.2 d3⟩) (fun hHeld=>?_);clear hK K;try simp only[ck]
   refine aY 9 ?_
   refine lN ?_;have HB3:=ae (after HW.out.drew d3);clear hHeld d3 d10 d11 d12 d13 jM mG jV nk lR oI oJ tc AK AN Xm Xn;cases B with
   |false=>
    have ej:ag (R=false):=ae (by rw[HR.out];exact fy hlt HTw.out);go_wp2_with fail
    go_ret;exact⟨by rw[ej.out];rfl,HB3.out⟩
   |true=>
    have ady:ag ((aF (k+1)).all (uo (fun X Y=>decide (X.p=Y.p)) xs ys)=true):=ae (by rw[fi,hall.out,HTw.out];rfl);go_wp2_with fail
    go_roundw
    case rel=>exact⟨k+1,by omega,by go_num,HB3,ady⟩
    case measure=>simp[intOf];omega
 ·rw[decide_eq_false hn,uy];generalize xs.length=N1 at*;generalize ys.length=N2 at*;have hne:((N1:Int) !=(N2:Int))=true:=by simp;omega
  clear hn HA1 HA2;go_enter Tryz.func63,Tryz.ntmps63;go_wp2_with fail
  go_ret;exact⟨rfl,aI _ _⟩
theorem oo{w:World}{v1 v2:Value}(l m:List Ry)(hl:l.length≤4000000)(hm:m.length≤4000000)(h1:a8 w v1 l.length 6 (dX l))(h2:a8 w v2 m.length 6 (dX m)):Calls ah 15 #[v1,v2] w (Got (.bool (decide (l=m))) w):=by
 obtain⟨A1,cap1,rfl,_,hA1⟩:=h1;obtain⟨A2,cap2,rfl,_,hA2⟩:=h2;obtain⟨HA1,HA2⟩:=aL hA1 hA2;clear hA1 hA2;by_cases hn:l.length=m.length
 ·obtain⟨N,hN⟩:=bw l.length;rw[←hn]at HA2 hm⊢;rw[←hN]at HA1 HA2 hl⊢;obtain⟨jL,kX⟩:=aL hN (hN.trans hn);clear hn hN hm;obtain⟨R,hR⟩:=bw (decide (l=m));rw[←hR];have HR:=ae hR;clear hR;go_enter Tryz.func15,Tryz.ntmps15;go_wp2_with fail
  go_loopw [5] (fun v5 wr=>∃k:Nat,k≤N∧v5=.int .i64 k∧ag (aW w wr)∧ag (l.take k=m.take k)) (fun v5 _=>N-(intOf v5).toNat)
  case atStart=>exact⟨0,bj _,rfl,ae (aI _ _),ae rfl⟩
  case round=>
   obtain⟨k,hk,rfl,HW,hsame⟩:=hrel;by_cases hlt:k<N
   ·have hkl:k<l.length:=by have:=jL.out;omega
    have hkm:k<m.length:=by have:=kX.out;omega
    obtain⟨q1,o1,rfl,hc1⟩:=HA1.out aR;obtain⟨q2,o2,rfl,hc2⟩:=HA2.out aR;have ht1:=aC hkl;have ht2:=aC hkm;have hne:l[k]≠m[k]→l≠m:=fun h e=>h (by simp only[e])
    have g10:=aD bH 6 bI (af hkl) (r:=0) rfl;have g11:=aD bH 6 bI (af hkl) (r:=1) rfl;have g12:=aD bH 6 bI (af hkl) (r:=2) rfl;have g13:=aD bH 6 bI (af hkl) (r:=3) rfl;have g14:=aD bH 6 bI (af hkl) (r:=4) rfl;have g15:=aD bH 6 bI (af hkl) (r:=5) rfl;have g20:=aD bH 6 bI (af hkm) (r:=0) rfl;have g21:=aD bH 6 bI (af hkm) (r:=1) rfl;have g22:=aD bH 6 bI (af hkm) (r:=2) rfl;have g23:=aD bH 6 bI (af hkm) (r:=3) rfl;have g24:=aD bH 6 bI (af hkm) (r:=4) rfl;have N8:=aD bH 6 bI (af hkm) (r:=5) rfl;have d10:=ai (hc1 _ _ g10) HW.out;have d11:=ai (hc1 _ _ g11) HW.out;have d12:=ai (hc1 _ _ g12) HW.out;have d13:=ai (hc1 _ _ g13) HW.out;have jM:=ai (hc1 _ _ g14) HW.out;have mG:=ai (hc1 _ _ g15) HW.out;have lR:=ai (hc2 _ _ g20) HW.out;have oI:=ai (hc2 _ _ g21) HW.out;have oJ:=ai (hc2 _ _ g22) HW.out;have tc:=ai (hc2 _ _ g23) HW.out;have AK:=ai (hc2 _ _ g24) HW.out;have AN:=ai (hc2 _ _ N8) HW.out;clear g10 g11 g12 g13 g14 g15 g20 g21 g22 g23 g24 N8;generalize l[k]=X at ht1 hne d10 d11 d12 d13 jM mG;generalize m[k]=Y at ht2 hne lR oI oJ tc AK AN;have hqq:=fun W=>abI X Y W
    obtain⟨id1,key1,⟨⟨v1,hi1,lo1⟩,po1⟩⟩:=X;obtain⟨id2,key2,⟨⟨v2,hi2,lo2⟩,po2⟩⟩:=Y;unfold bH at hqq;simp only at hqq d10 d11 d12 d13 jM mG lR oI oJ tc AK AN;rw[cq]at d10 lR;rw[←jh]at d11 d12 d13 jM mG oI oJ tc AK AN;clear hc1 hc2 hkl hkm;by_cases hX:(⟨id1,key1,⟨⟨v1,hi1,lo1⟩,po1⟩⟩:Ry)=⟨id2,key2,⟨⟨v2,hi2,lo2⟩,po2⟩⟩
    ·have Ly:ag (l.take (k+1)=m.take (k+1)):=ae (by rw[ht1,ht2,hsame.out,hX]);have hq:=hqq;rw[decide_eq_true hX]at hq;simp only[Bool.not_true]at hq;clear hqq;clear ht1 ht2 hne hX;go_upto_region 6 with fail
     go_quiet (fail);go_wp2_with fail
     go_roundw
     case rel=>exact⟨k+1,by omega,by go_num,ae (HW.out.gK _),Ly⟩
     case measure=>simp[intOf];omega
    ·have ej:ag (R=false):=ae (by rw[HR.out];exact decide_eq_false (hne hX));have hq:=hqq;rw[decide_eq_false hX]at hq;simp only[Bool.not_false]at hq;clear hqq;clear ht1 ht2 hne hX;go_upto_region 6 with fail
     go_quiet (fail);go_wp2_with fail
     go_ret;exact⟨by rw[ej.out];rfl,HW.out.gK _⟩
   ·obtain rfl:k=N:=by omega
    have ej:ag (R=true):=ae (by
     rw[HR.out];have e:=hsame.out;rw[aN (by have:=jL.out;omega),aN (by have:=kX.out;omega)]at e;exact decide_eq_true e)
    go_wp2_with fail
    go_ret;exact⟨by rw[ej.out];rfl,HW.out⟩
 ·have hd:decide (l=m)=false:=decide_eq_false fun e=>hn (by rw[e])
  rw[hd];generalize l.length=N1 at*;generalize m.length=N2 at*;have hne:((N1:Int) !=(N2:Int))=true:=by simp;omega
  clear hn hd HA1 HA2;go_enter Tryz.func15,Tryz.ntmps15;go_wp2_with fail
  go_ret;exact⟨rfl,aI _ _⟩
theorem RZ{w:World}{pv1 rv1 pv2 rv2:Value}{x y:Mp}(hp1:df w pv1 x.aK)(hr1:eG w rv1 x.aA)(hp2:df w pv2 y.aK)(hr2:eG w rv2 y.aA)(s1:∀p∈x.aK,gQ p)(s2:∀p∈y.aK,gQ p)(l1:x.aK.length≤4000000)(l2:y.aK.length≤4000000)(m1:x.aA.length≤4000000)(m2:y.aA.length≤4000000):Calls ah 12 #[.agg #[.int .u64 (x.version:Int),pv1,rv1,.string x.policy],.agg #[.int .u64 (y.version:Int),pv2,rv2,.string y.policy]] w (Got (.bool (decide (x=y))) w):=by
 have hre:=fun u(hu:aW w u)=>oo x.aA y.aA m1 m2 (a8.below hr1 hu) (a8.below hr2 hu)
 have hpe:=fun u(hu:aW w u)=>yQ (hp1.below hu) (hp2.below hu) s1 s2 l1 l2
 obtain⟨gk,c11,e11⟩:=hp1.shape;obtain⟨gi,c12,e12⟩:=a8.shape hr1;obtain⟨jq,c21,e21⟩:=hp2.shape;obtain⟨jr,js,e22⟩:=a8.shape hr2;clear hp1 hp2 hr1 hr2 s1 s2 l1 l2 m1 m2;rw[abJ];obtain⟨lH,yO,sN,lI⟩:=x;obtain⟨nT,yP,sO,nU⟩:=y;simp only at*;subst e11 e12 e21 e22;generalize decide (yO=yP)=BP at*;generalize decide (sN=sO)=BR at*;generalize yO.length=n11 at*;generalize sN.length=n12 at*;generalize yP.length=n21 at*;generalize sO.length=n22 at*;obtain⟨HP,HR,od,HB1⟩:=cU hpe hre (aH.new w 26 #[.int .u64 lH,.slice gk n11 c11,.slice gi n12 c12,.string lI]) (boxed w (.cells #[.int .u64 lH,.slice gk n11 c11,.slice gi n12 c12,.string lI] 26));clear hpe hre;obtain⟨HB2,bQ⟩:=aL (after HB1.out (boxed (w.alloc (.cells #[.int .u64 lH,.slice gk n11 c11,.slice gi n12 c12,.string lI] 26)) (.cells #[.int .u64 nT,.slice jq n21 c21,.slice jr n22 js,.string nU] 26))) (bK od (boxed (w.alloc (.cells #[.int .u64 lH,.slice gk n11 c11,.slice gi n12 c12,.string lI] 26)) (.cells #[.int .u64 nT,.slice jq n21 c21,.slice jr n22 js,.string nU] 26)));have hP2:aH ((w.alloc (.cells #[.int .u64 lH,.slice gk n11 c11,.slice gi n12 c12,.string lI] 26)).alloc (.cells #[.int .u64 nT,.slice jq n21 c21,.slice jr n22 js,.string nU] 26)) (w.heap.size+1) 26 #[.int .u64 nT,.slice jq n21 c21,.slice jr n22 js,.string nU]:=by
  have:=aH.new (w.alloc (.cells #[.int .u64 lH,.slice gk n11 c11,.slice gi n12 c12,.string lI] 26)) 26 #[.int .u64 nT,.slice jq n21 c21,.slice jr n22 js,.string nU];rw[show(w.alloc (.cells #[.int .u64 lH,.slice gk n11 c11,.slice gi n12 c12,.string lI] 26)).heap.size=w.heap.size+1 by simp]at this;exact this
 have HP2:=ae hP2;clear hP2 od HB1;obtain⟨R,hR⟩:=bw ((((lH:Int)==(nT:Int))&&((lI.toList==nU.toList)&&(BP&&BR))));rw[←hR];have vE:=ae hR;clear hR;go_enter Tryz.func12,Tryz.ntmps12;go_upto_region 1 with fail
 generalize(w.alloc (.cells #[.int .u64 lH,.slice gk n11 c11,.slice gi n12 c12,.string lI] 26)).alloc (.cells #[.int .u64 nT,.slice jq n21 c21,.slice jr n22 js,.string nU] 26)=w2 at HB2 bQ HP2⊢;generalize w.heap.size+1=Q at HP2⊢;generalize hPw:w.heap.size=P at bQ⊢;have kN:=ae hPw;clear hPw;have x0:=bQ.out.cell 0;have x1:=bQ.out.cell 1;have x2:=bQ.out.cell 2;have x3:=bQ.out.cell 3;have y0:=HP2.out.cell 0;have y1:=HP2.out.cell 1;have y2:=HP2.out.cell 2;have y3:=HP2.out.cell 3;simp at x0 x1 x2 x3 y0 y1 y2 y3;cases hb0:((lH:Int)==(nT:Int))with
 |false=>
  have HE:ag (R=false):=ae (by rw[vE.out,hb0];rfl);go_wp2_with fail
  go_ret;exact⟨by rw[HE.out];rfl,HB2.out⟩
 |true=>
  cases hb1:(lI.toList==nU.toList)with
  |false=>
   have HE:ag (R=false):=ae (by rw[vE.out,hb0,hb1];rfl);go_wp2_with fail
   go_ret;exact⟨by rw[HE.out];rfl,HB2.out⟩
  |true=>
   have HE:ag (R=(BP&&BR)):=ae (by rw[vE.out,hb0,hb1];rfl);cases BP with
   |false=>
    go_wp2_with(go_at_call 63;refine(HP.out _ HB2.out).mono ?_;rintro r w3⟨rfl,d3⟩;have px2:=ai x2 d3;have py2:=ai y2 d3;have HB3:=bg HB2 d3;clear d3)
    go_ret;exact⟨by rw[HE.out];rfl,HB3.out⟩
   |true=>
    go_wp2_with(first
     |(go_at_call 63;refine(HP.out _ HB2.out).mono ?_;rintro r w3⟨rfl,d3⟩;have px2:=ai x2 d3;have py2:=ai y2 d3;have HB3:=bg HB2 d3;clear d3)
     |(go_at_call 15;refine(HR.out _ HB3.out).mono ?_;rintro r w4⟨rfl,d4⟩;have HB4:=bg HB3 d4;clear d4))
    go_ret;exact⟨by rw[HE.out];rfl,HB4.out⟩
def aaM(w:World)(r:Ending)(w':World):Prop:=(∃z:Int,r=.returned (.int .i64 z))∧aW w w'
def Ie(w:World)(r:Ending)(w':World):Prop:=(∃b:Bool,r=.returned (.bool b))∧aW w w'
theorem R9{w:World}{X:bS}(hX:fc w X)(sX:gQ X.p):Calls ah 16 #[.agg X.vals.toArray] w (aaM w):=by
 have hl:=sX.tl;obtain⟨⟨key1,bD,b8,ew,dr,gU,bA,eJ⟩,Yq,Yr,ev1⟩:=X;obtain⟨ht,ha,he⟩:=hX;simp only at ht ha he hl;obtain⟨gk,c11,rfl,_,hT⟩:=ht;obtain⟨gi,c12,rfl⟩:=ha.shape;obtain⟨jJ,c13,rfl⟩:=he.shape;rw[Ee]at hT;unfold bS.vals;simp only;obtain⟨n11,hn⟩:=bw ew.length;rw[←hn]at hT hl⊢;generalize dr.length=n12 at*;generalize eJ.length=n13 at*;obtain⟨HT,HN⟩:=aL hT hn;clear hT hn ha he sX;obtain⟨HB,HP⟩:=aL (boxed w (.cells #[.string key1,.string bD,.string b8,.slice gk n11 c11,.slice gi n12 c12,.int .u64 gU,.int .u8 bA,.slice jJ n13 c13] 47)) (aH.new w 47 #[.string key1,.string bD,.string b8,.slice gk n11 c11,.slice gi n12 c12,.int .u64 gU,.int .u8 bA,.slice jJ n13 c13]);go_enter Tryz.func16,Tryz.ntmps16;go_upto_region 1 with fail
 generalize w.alloc (.cells #[.string key1,.string bD,.string b8,.slice gk n11 c11,.slice gi n12 c12,.int .u64 gU,.int .u8 bA,.slice jJ n13 c13] 47)=w1 at HB HP⊢;generalize w.heap.size=P at HP⊢;obtain⟨p0,p1,p2,p3,p4,p5,p6,p7⟩:=dB HP;go_upto_region 3 with fail
 generalize hz0:IntKind.wrap .i64 _=z0;clear hz0;go_loopw [3,4] (fun v3 v4 wr=>∃(z:Int)(k:Nat),k≤n11∧v3=.int .i64 z∧v4=.int .i64 k∧wr=w1) (fun _ v4 _=>n11-(intOf v4).toNat)
 case atStart=>exact⟨_,0,bj _,rfl,rfl,rfl⟩
 case round=>
  obtain⟨z,k,hk,rfl,rfl,rfl⟩:=hrel;by_cases hlt:k<n11
  ·have q1:(k:Int)<(n11:Int):=by omega
   by_cases h4:k<400
   ·have q2:(k:Int)<400:=by omega
    have hkl:k<ew.length:=by have:=HN.out;omega
    obtain⟨g,o,rfl,hc⟩:=HT.out aR;have d0:=ai (hc _ _ (aD (fun x:ByteArray=>[Value.string x]) 1 (fun _=>rfl) (af hkl) (r:=0) rfl)) HB.out;simp only[Nat.mul_one,cq]at d0;generalize ew[k]=U at d0;clear hc hkl;go_wp2_with fail
    go_roundw
    case rel=>exact⟨_,k+1,by omega,rfl,by go_num,trivial⟩
    case measure=>simp[intOf];omega
   ·have q2:¬(k:Int)<400:=by omega
    go_wp2_with fail
    go_ret;exact⟨⟨_,rfl⟩,HB.out⟩
  ·have q1:¬(k:Int)<(n11:Int):=by omega
   go_wp2_with fail
   go_ret;exact⟨⟨_,rfl⟩,HB.out⟩
theorem yR{w:World}{pa ra:Value}{a:Mp}(ha:df w pa a.aK)(hr:eG w ra a.aA)(sz:∀p∈a.aK,gQ p)(hl:a.aK.length≤2000000)(hl2:a.aA.length≤2000000):Calls ah 4 #[.agg #[.int .u64 (a.version:Int),pa,ra,.string a.policy]] w (Ie w):=by
 obtain⟨xs,hxl,hro,hxm⟩:=ha;have szx:∀X∈xs,gQ X.p:=fun X hX=>sz _ (by rw[←hxl];exact dQ hX)
 have lx:xs.length=a.aK.length:=by rw[←hxl,ay]
 obtain⟨kP,ca1,rfl,_,hA⟩:=hro;obtain⟨kB,ca2,rfl,_,hR⟩:=hr;obtain⟨va,fu,eZ,ta⟩:=a;simp only at*;obtain⟨gV,hn1⟩:=bw xs.length;obtain⟨iq,hn2⟩:=bw eZ.length;rw[←hn1]at hA lx⊢;rw[←hn2]at hR hl2⊢;rw[←lx]at hl;have hsz:=fun k(hk:k<xs.length)u(hu:aW w u)=>R9 ((hxm _ (aZ hk)).below hu) (szx _ (aZ hk))
 have hsh:=fun k(hk:k<xs.length)=>hxm _ (aZ hk)
 obtain⟨HA,HR,jL,kX,HSz,HSh⟩:=ot hA hR hn1 hn2 hsz hsh;clear hA hR hn1 hn2 hsz hsh hxl hxm szx sz lx;obtain⟨HB,HP⟩:=aL (boxed w (.cells #[.int .u64 va,.slice kP gV ca1,.slice kB iq ca2,.string ta] 26)) (aH.new w 26 #[.int .u64 va,.slice kP gV ca1,.slice kB iq ca2,.string ta]);go_enter Tryz.func4,Tryz.ntmps4;go_upto_region 1 with fail
 generalize w.alloc (.cells #[.int .u64 va,.slice kP gV ca1,.slice kB iq ca2,.string ta] 26)=w1 at HB HP⊢;generalize w.heap.size=P at HP⊢;obtain⟨p0,p1,p2,p3⟩:=dY HP;go_upto_region 3 with fail
 go_loopw [3,4] (fun v3 v4 wr=>∃(z:Int)(k:Nat),k≤gV∧v3=.int .i64 z∧v4=.int .i64 k∧ag (aW w1 wr)) (fun _ v4 _=>gV-(intOf v4).toNat)
 case atStart=>exact⟨_,0,bj _,rfl,rfl,ae (aI _ _)⟩
 case round=>
  obtain⟨z,k,hk,rfl,rfl,HW⟩:=hrel;obtain⟨wo,rfl⟩:=bw (wr:World);have px1:=ai p1 HW.out;have px2:=ai p2 HW.out;have end_:(¬(k:Int)<(gV:Int)∨((k:Int)<(gV:Int)∧¬(k:Int)<200))∨((k:Int)<(gV:Int)∧(k:Int)<200):=by omega
  rcases end_ with hend|⟨q1,q2⟩
  ·rcases hend with q1|⟨q1,q2⟩
   ·go_upto_region 7 with fail
    go_loopw [3,5] (fun v3 v5 wr=>∃(z:Int)(k:Nat),k≤iq∧v3=.int .i64 z∧v5=.int .i64 k∧wr=wo) (fun _ v5 _=>iq-(intOf v5).toNat)
    case atStart=>exact⟨_,0,bj _,rfl,rfl,rfl⟩
    case round=>
     obtain⟨z2,j,hj,rfl,rfl,rfl⟩:=hrel;have e2:((j:Int)<(iq:Int)∧(j:Int)<300)∨(¬(j:Int)<(iq:Int))∨((j:Int)<(iq:Int)∧¬(j:Int)<300):=by omega
     rcases e2 with⟨r1,r2⟩|r1|⟨r1,r2⟩
     ·have hkl:j<eZ.length:=by have:=kX.out;omega
      obtain⟨g,o,rfl,hc⟩:=HR.out aR;have d1:=ai (ai (hc _ _ (aD bH 6 bI (af hkl) (r:=1) rfl)) HB.out) HW.out;rw[←jh]at d1;generalize eZ[j]=U at d1;clear hc hkl;go_wp2_with fail
      go_roundw
      case rel=>exact⟨_,j+1,by omega,rfl,by go_num,trivial⟩
      case measure=>simp[intOf];omega
     ·go_wp2_with fail
      go_ret;exact⟨⟨_,rfl⟩,after HB.out HW.out⟩
     ·go_wp2_with fail
      go_ret;exact⟨⟨_,rfl⟩,after HB.out HW.out⟩
   ·go_upto_region 7 with fail
    go_loopw [3,5] (fun v3 v5 wr=>∃(z:Int)(k:Nat),k≤iq∧v3=.int .i64 z∧v5=.int .i64 k∧wr=wo) (fun _ v5 _=>iq-(intOf v5).toNat)
    case atStart=>exact⟨_,0,bj _,rfl,rfl,rfl⟩
    case round=>
     obtain⟨z2,j,hj,rfl,rfl,rfl⟩:=hrel;have e2:((j:Int)<(iq:Int)∧(j:Int)<300)∨(¬(j:Int)<(iq:Int))∨((j:Int)<(iq:Int)∧¬(j:Int)<300):=by omega
     rcases e2 with⟨r1,r2⟩|r1|⟨r1,r2⟩
     ·have hkl:j<eZ.length:=by have:=kX.out;omega
      obtain⟨g,o,rfl,hc⟩:=HR.out aR;have d1:=ai (ai (hc _ _ (aD bH 6 bI (af hkl) (r:=1) rfl)) HB.out) HW.out;rw[←jh]at d1;generalize eZ[j]=U at d1;clear hc hkl;go_wp2_with fail
      go_roundw
      case rel=>exact⟨_,j+1,by omega,rfl,by go_num,trivial⟩
      case measure=>simp[intOf];omega
     ·go_wp2_with fail
      go_ret;exact⟨⟨_,rfl⟩,after HB.out HW.out⟩
     ·go_wp2_with fail
      go_ret;exact⟨⟨_,rfl⟩,after HB.out HW.out⟩
  ·have hkl:k<xs.length:=by have:=jL.out;omega
   obtain⟨g,o,rfl,hc⟩:=HA.out aR;have d0:=ai (ai (hc _ _ (aD bS.vals 8 aB (af hkl) (r:=0) rfl)) HB.out) HW.out;have d1:=ai (ai (hc _ _ (aD bS.vals 8 aB (af hkl) (r:=1) rfl)) HB.out) HW.out;have d2:=ai (ai (hc _ _ (aD bS.vals 8 aB (af hkl) (r:=2) rfl)) HB.out) HW.out;have d3:=ai (ai (hc _ _ (aD bS.vals 8 aB (af hkl) (r:=3) rfl)) HB.out) HW.out;have d4:=ai (ai (hc _ _ (aD bS.vals 8 aB (af hkl) (r:=4) rfl)) HB.out) HW.out;have d5:=ai (ai (hc _ _ (aD bS.vals 8 aB (af hkl) (r:=5) rfl)) HB.out) HW.out;have d6:=ai (ai (hc _ _ (aD bS.vals 8 aB (af hkl) (r:=6) rfl)) HB.out) HW.out;have d7:=ai (ai (hc _ _ (aD bS.vals 8 aB (af hkl) (r:=7) rfl)) HB.out) HW.out;have hcall:=HSz.out k hkl wo (after HB.out HW.out);have hm1:=HSh.out k hkl;generalize xs[k]=X at hcall hm1 d0 d1 d2 d3 d4 d5 d6 d7;obtain⟨gk,c11,e11⟩:=hm1.tags.shape;obtain⟨gi,c12,e12⟩:=hm1.aQ.shape;obtain⟨jJ,c13,e13⟩:=hm1.ends.shape;clear hm1 hc hkl;obtain⟨⟨key1,bD,b8,ew,dr,gU,bA,eJ⟩,Yq,Yr,ev1⟩:=X;unfold bS.vals at hcall;simp only at e11 e12 e13 hcall d0 d1 d2 d3 d4 d5 d6 d7;subst e11 e12 e13;generalize ew.length=n11 at hcall d3;generalize dr.length=n12 at hcall d4;generalize eJ.length=n13 at hcall d7;rw[cq]at d0;rw[←jh]at d1 d2 d3 d4 d5 d6 d7;have bG:=ae hcall;clear hcall;go_wp2_with(go_at_call 16;refine bG.out.mono ?_;rintro r w2⟨⟨z2,rfl⟩,d9⟩)
   go_roundw
   case rel=>exact⟨_,k+1,by omega,rfl,by go_num,(bg HW d9)⟩
   case measure=>simp[intOf];omega
theorem adz{d:Dl}(h:iH d=true):(Dm d).length≤80000000:=by
 unfold iH at h;simp only[aU,decide_eq_true_eq]at h;obtain⟨⟨⟨⟨⟨⟨⟨⟨⟨⟨h1,h2⟩,h3⟩,h4⟩,h5⟩,h6⟩,h7⟩,h8⟩,h9⟩,h10⟩,h11⟩:=h;obtain⟨_,p2,p3⟩:=gu h9;unfold jD at h10;simp only[aU,decide_eq_true_eq]at h10;have e1:=mo qs 1000 64 d.aM p2 (fun p hp=>Xf (p3 p hp));have e2:=mo qK 100 8 d.aA h10.1.1 (fun r hr=>Xg (List.all_eq_true.1 h10.2 r hr));have e3:=Ed d.policy;have e4:=sq h11;have e5:=mo (fun k:ByteArray=>k.data.toList) 32 64 d.gone h4 (fun k hk=>by
  have:=List.all_eq_true.1 h7 k hk;simp only[aU,decide_eq_true_eq]at this;show k.data.toList.length≤32;rw[show k.data.toList.length=k.size from rfl];omega)
 have e6:∀(b:Bool)(x:List UInt8),(iR b x).length≤1+x.length:=fun b x=>by cases b<;>simp[iR]<;>omega
 have e7:=e6 d.eX (bU qK d.aA);have e8:=e6 d.fe (oy d.policy);have k1:d.hash.data.toList.length=32:=h3;unfold Dm;simp only[aj,aP,k1];omega
section
variable{P:Program}
theorem gP{ops:Array Oper}{rest:List Oper}{o:Oper}{a:Act}{w w':World}{Q:Exit→Act→World→Prop}(hgd:o.guard=none)(s x:Operand)(t u:TypeId)(ho:o.op=.call {callee:=.builtin .append,args:= #[s,x],argTypes:= #[t,u]}){v y v':Value}(hs:a.eval s=v)(hx:a.eval x=y)(hr:(Builtin.append_ #[t,u] o.type #[v,y]).run P w=.ok v' w')(h:wpList P ops Q rest (a.put o.dst v') w'):wpList P ops Q (o::rest) a w:=by
 refine wpList_plain hgd fun K hK=>?_
 unfold Oper.wp execOp;simp only[ho,resolve,invoke,builtin,Sem.run_bind,Sem.run_pure,Result.andThen_ok,List.map_toArray,jg,List.map_nil,hs,hx,hr];exact hK _ _ h
end
structure ag2(B0 M i n:Nat)(T e:TypeId)(size:Nat)(xs:List Value)(cs:Array Value)(v:World)(B:Option Addr)(m:Nat)(u:World):Prop where
 fz:u.frozen? ⟨M,i,none⟩=false
 cl:u.cell? ⟨M,i,none⟩=cs[i]?
 blk:aH (u.setCell ⟨M,i,none⟩ (.slice B n m)) M T (cs.setIfInBounds i (.slice B n m))
 own:(u.setCell ⟨M,i,none⟩ (.slice B n m)).ownsRow B0 e size (.slice B n m) n xs
 rows:∀(t:TypeId)(sz k:Nat)(x:Value)(ys:List Value),v.ownsRow B0 t sz x k ys→(u.setCell ⟨M,i,none⟩ (.slice B n m)).ownsRow B0 t sz x k ys
 below:∀a:World,a.heap.size≤M→aW a v→aW a (u.setCell ⟨M,i,none⟩ (.slice B n m))
 abK:v.heap.size≤(u.setCell ⟨M,i,none⟩ (.slice B n m)).heap.size
 db:aW v u
theorem wS{v:World}{B0 M n:Nat}(i:Nat){T t e:TypeId}{cs:Array Value}{z:Value}{size bytes:Nat}(hM:aH v M T cs)(hlt:M<B0)(hB:B0≤v.heap.size)(ht:ah.underlying t=some (.slice e))(hi:(ah.info? e).map (fun i=>(i.zero,i.size,i.bytes))=some (some z,size,bytes))(hzs:z.cells.size=size)(hsz:0<size){x:Value}{xs:List Value}(h:a8 v x n size xs)(h1:∀u∈xs,u.oneCell'=true)(hn:n≤4000000)(hb:bytes≤4096):∃B m u,(Builtin.append_ #[t,t] t #[au,x]).run ah v=.ok (.slice B n m) u∧ag2 B0 M i n T e size xs cs v B m u:=by
 obtain⟨s0,hin,hz0,hz1,hz2⟩:=info_parts hi;obtain⟨B,m,u,hr,ho,hd⟩:=Kt v B0 t t e s0 z size bytes ht hin hz0 hz1 hz2 hzs hsz h h1 hn hb hB;have hm:=hM.below hd hM.lt;exact⟨B,m,u,hr,hm.frozen i,hm.cell i,hm.aM i _,aV ho hlt,fun _ _ _ _ _ hy=>aV (own_below hy hd) hlt,fun a ha hv=>(hv.trans (hd.mono hv.size)).setCell (p:=⟨M,i,none⟩) ha _,by have:=hd.size;simp;omega,hd⟩
theorem yS{w:World}{v:Value}{l:List Pr}(hp:df w v l)(sz:∀p∈l,gQ p)(hl:l.length≤2000000):Calls ah 28 #[v] w (yw l w):=by
 obtain⟨xs,hxl,hr,hm⟩:=hp;obtain⟨j0,lD,hz0,hz1,hz2⟩:=info_parts mY;obtain⟨N,hN⟩:=bw xs.length;have hlN:l.length=N:=by rw[←hxl,ay,hN]
 obtain⟨A0,cap0,rfl,_,hA⟩:=hr;unfold yw;rw[hlN]at hl⊢;rw[←hN]at hA⊢;obtain⟨HA,HM,HN,Wl,HSz⟩:=eB hA hm hN hxl sz;clear hA hm hN hxl sz hlN;go_enter Tryz.func28,Tryz.ntmps28;go_wp2_with fail
 go_loopw [3,4] (fun v3 v4 wr=>∃(k:Nat)(A:Option Addr)(c:Nat)(ys:List bS),k≤N∧v4=.int .i64 k∧v3=.slice A k c∧ag (wr.ownsRow w.heap.size 47 8 (.slice A k c) k (cY ys))∧ag (∀Y∈ys,dm wr w.heap.size Y)∧ag (ys.map (·.p)=(xs.take k).map (·.p))∧ag (ys.length=k)∧ag (aW w wr)) (fun _ v4 _=>N-(intOf v4).toNat)
 case atStart=>exact⟨0,none,0,[],bj _,rfl,rfl,ae (bh _ _ _ _),ae (fun Y hY=>by cases hY),ae rfl,ae rfl,ae (aI _ _)⟩
 case round=>
  obtain⟨k,A,c,ys,hk,rfl,rfl,how,hys,hmap,hyl,HW⟩:=hrel;obtain⟨wo,rfl⟩:=bw (wr:World);by_cases hlt:k<N
  case neg=>
   obtain rfl:N=k:=by omega
   have hfin:ag (cA wo w.heap.size (.slice A N c) l):=ae (by
    have e:=hmap.out;rw[aN (by rw[HN.out];exact Nat.le_refl _),Wl.out]at e;exact⟨ys,e,by rw[hyl.out];exact how.out,hys.out⟩)
   clear how hys hmap hyl;go_wp2_with fail
   go_ret;exact⟨⟨A,c,rfl,hfin.out⟩,HW.out⟩
  have hkl:k<xs.length:=by have:=HN.out;omega
  have htn:=wP (af hkl);obtain⟨q1,o1,rfl,hc1⟩:=HA.out aR;have hm1:=HM.out _ (aZ hkl);have hs1:=HSz.out _ (by rw[←Wl.out];exact dQ (aZ hkl));have g10:=aD bS.vals 8 aB (af hkl) (r:=0) rfl;have g11:=aD bS.vals 8 aB (af hkl) (r:=1) rfl;have g12:=aD bS.vals 8 aB (af hkl) (r:=2) rfl;have g13:=aD bS.vals 8 aB (af hkl) (r:=3) rfl;have g14:=aD bS.vals 8 aB (af hkl) (r:=4) rfl;have g15:=aD bS.vals 8 aB (af hkl) (r:=5) rfl;have g16:=aD bS.vals 8 aB (af hkl) (r:=6) rfl;have g17:=aD bS.vals 8 aB (af hkl) (r:=7) rfl;have d10:=ai (hc1 _ _ g10) HW.out;have d11:=ai (hc1 _ _ g11) HW.out;have d12:=ai (hc1 _ _ g12) HW.out;have d13:=ai (hc1 _ _ g13) HW.out;have jM:=ai (hc1 _ _ g14) HW.out;have mG:=ai (hc1 _ _ g15) HW.out;have jV:=ai (hc1 _ _ g16) HW.out;have nk:=ai (hc1 _ _ g17) HW.out;clear hc1 g10 g11 g12 g13 g14 g15 g16 g17;generalize xs[k]=X at htn hm1 hs1 d10 d11 d12 d13 jM mG jV nk;obtain⟨gk,c11,e11⟩:=hm1.tags.shape;obtain⟨gi,c12,e12⟩:=hm1.aQ.shape;obtain⟨jJ,c13,e13⟩:=hm1.ends.shape;have rt:=hm1.tags;have ra:=hm1.aQ;have re:=hm1.ends;have st:=hs1.tl;have sa:=hs1.al;have se:=hs1.el;clear hm1 hs1;obtain⟨⟨key1,bD,b8,ew,dr,gU,bA,eJ⟩,Yq,Yr,ev1⟩:=X;simp only at e11 e12 e13 d10 d11 d12 d13 jM mG jV nk rt ra re st sa se;subst e11 e12 e13;obtain⟨n11,yx⟩:=bw ew.length;obtain⟨n12,yy⟩:=bw dr.length;obtain⟨n13,yA⟩:=bw eJ.length;rw[←yx]at d13 rt st;rw[←yy]at jM ra sa;rw[←yA]at nk re se;rw[cq]at d10;rw[←jh]at d11 d12 d13 jM mG jV nk;obtain⟨RT,RA,RE,jL,kX,vX,HTn⟩:=nn rt ra re yx yy yA htn;clear htn hkl yx yy yA rt ra re;have hbx:=boxed wo (.cells #[.string key1,.string bD,.string b8,.slice gk n11 c11,.slice gi n12 c12,.int .u64 gU,.int .u8 bA,.slice jJ n13 c13] 47);have M0:=ae (aH.new wo 47 #[.string key1,.string bD,.string b8,.slice gk n11 c11,.slice gi n12 c12,.int .u64 gU,.int .u8 bA,.slice jJ n13 c13]);have Ef:ag (wo.heap.size+1≤(wo.alloc (.cells #[.string key1,.string bD,.string b8,.slice gk n11 c11,.slice gi n12 c12,.int .u64 gU,.int .u8 bA,.slice jJ n13 c13] 47)).heap.size):=ae (by simp);have D8:=ae hbx;clear hbx;go_upto_region 6 with fail
  generalize wo.alloc (.cells #[.string key1,.string bD,.string b8,.slice gk n11 c11,.slice gi n12 c12,.int .u64 gU,.int .u8 bA,.slice jJ n13 c13] 47)=w1 at M0 Ef D8⊢;obtain⟨P,hP⟩:=bw wo.heap.size;rw[←hP]at M0 Ef⊢;have kN:ag (wo.heap.size≤P):=ae (Nat.le_of_eq hP.symm);have qw:ag (P<P+1):=ae (Nat.lt_succ_self P);have adA:=Ef;have HPq:ag (w.heap.size≤P+1):=ae (by have:=HW.out.size;omega);clear d10 d11 d12 d13 jM mG jV nk hP Ef;obtain⟨-,-,-,y0⟩:=dY M0;obtain⟨B1,m1,u1,hr1,ha1⟩:=wS 3 M0.out qw.out adA.out Tryz.underlying29 DL rfl aJ (RT.out.below (after HW.out D8.out)) (Nr ew) aR aJ;obtain⟨R1,A1⟩:=aL hr1 ha1;have q1:=ha1.cl;have f1:=ha1.fz;simp at q1;clear hr1 ha1;go_upto_region 7 with(at_builtin;refine gP rfl _ _ _ _ rfl rfl rfl R1.out ?_)
  have M1:ag (aH (u1.setCell ⟨P,3,none⟩ (.slice B1 n11 m1)) P 47 #[.string key1,.string bD,.string b8,.slice B1 n11 m1,.slice gi n12 c12,.int .u64 gU,.int .u8 bA,.slice jJ n13 c13]):=ae A1.out.blk;have HB1:=ae (A1.out.below wo kN.out D8.out);have Ef:ag (P+1≤(u1.setCell ⟨P,3,none⟩ (.slice B1 n11 m1)).heap.size):=ae (aw adA.out A1.out.abK);have O1:=ae A1.out.own;generalize u1.setCell ⟨P,3,none⟩ (.slice B1 n11 m1)=v1 at M1 HB1 Ef O1⊢;clear y0 q1 f1 A1 R1 M0 adA D8;obtain⟨-,-,-,-,y1⟩:=IZ M1;obtain⟨B2,m2,u2,hr2,ha2⟩:=wS 4 M1.out qw.out Ef.out Tryz.underlying44 GZ rfl aJ (RA.out.below (after HW.out HB1.out)) (NL dr) aR aJ;obtain⟨R2,A2⟩:=aL hr2 ha2;have q2:=ha2.cl;have f2:=ha2.fz;simp at q2;clear hr2 ha2;go_upto_region 8 with(at_builtin;refine gP rfl _ _ _ _ rfl rfl rfl R2.out ?_)
  have M2:ag (aH (u2.setCell ⟨P,4,none⟩ (.slice B2 n12 m2)) P 47 #[.string key1,.string bD,.string b8,.slice B1 n11 m1,.slice B2 n12 m2,.int .u64 gU,.int .u8 bA,.slice jJ n13 c13]):=ae A2.out.blk;have HB2:=ae (A2.out.below wo kN.out HB1.out);have Rr:ag (P+1≤(u2.setCell ⟨P,4,none⟩ (.slice B2 n12 m2)).heap.size):=ae (aw Ef.out A2.out.abK);obtain⟨O1b,O2⟩:=aL (A2.out.rows _ _ _ _ _ O1.out) A2.out.own;generalize u2.setCell ⟨P,4,none⟩ (.slice B2 n12 m2)=v2 at M2 HB2 Rr O1b O2⊢;clear y1 q2 f2 A2 R2 M1 HB1 Ef O1;have y2:=M2.out.cell 7;simp at y2;obtain⟨B3,m3,u3,hr3,ha3⟩:=wS 7 M2.out qw.out Rr.out Tryz.underlying45 G0 rfl aJ (RE.out.below (after HW.out HB2.out)) (NK eJ) aR aJ;obtain⟨R3,A3⟩:=aL hr3 ha3;have q3:=ha3.cl;have f3:=ha3.fz;simp at q3;clear hr3 ha3;go_upto_region 9 with(at_builtin;refine gP rfl _ _ _ _ rfl rfl rfl R3.out ?_)
  have M3:ag (aH (u3.setCell ⟨P,7,none⟩ (.slice B3 n13 m3)) P 47 #[.string key1,.string bD,.string b8,.slice B1 n11 m1,.slice B2 n12 m2,.int .u64 gU,.int .u8 bA,.slice B3 n13 m3]):=ae A3.out.blk;obtain⟨HB3,O1c,O2c,O3⟩:=cU (A3.out.below wo kN.out HB2.out) (A3.out.rows _ _ _ _ _ O1b.out) (A3.out.rows _ _ _ _ _ O2.out) A3.out.own;generalize u3.setCell ⟨P,7,none⟩ (.slice B3 n13 m3)=v3 at M3 HB3 O1c O2c O3⊢;clear y2 q3 f3 A3 R3 M2 HB2 Rr O1b O2;obtain⟨z0,z1,z2,z3,z4,z5,z6,z7⟩:=dB M3;have IK:=ae (own_below how.out HB3.out);have HYs:ag (∀Y∈ys,dm v3 w.heap.size Y):=ae (fun Y hY=>(hys.out Y hY).low HB3.out);have jd:ag (dm v3 w.heap.size ⟨⟨key1,bD,b8,ew,dr,gU,bA,eJ⟩,.slice B1 n11 m1,.slice B2 n12 m2,.slice B3 n13 m3⟩):=ae ⟨by simp only;rw[←jL.out];exact O1c.out.mono HPq.out,by simp only;rw[←kX.out];exact O2c.out.mono HPq.out,by simp only;rw[←vX.out];exact O3.out.mono HPq.out⟩;have HBv:=ae (after HW.out HB3.out);clear how hys HW O1c O2c O3 HB3;go_wp2_with(at_builtin;refine wpList_append_own _ rfl _ _ 23 rfl w.heap.size 47 j0 (.agg #[aG,aG,aG,au,au,.int .u64 0,.int .u8 0,au]) 8 136 Tryz.underlying23 lD hz0 hz1 hz2 rfl aJ _ k _ rfl (IK.out.alloc _) ⟨v3.heap.size,0,none⟩ 1 1 [.string key1,.string bD,.string b8,.slice B1 n11 m1,.slice B2 n12 m2,.int .u64 gU,.int .u8 bA,.slice B3 n13 m3] rfl rfl (cS v3 [.string key1,.string bD,.string b8,.slice B1 n11 m1,.slice B2 n12 m2,.int .u64 gU,.int .u8 bA,.slice B3 n13 m3] 47) (by intro u hu;simp at hu;rcases hu with rfl|rfl|rfl|rfl|rfl|rfl|rfl|rfl<;>rfl) (by unfold maxLen;omega) aR (by have:=HBv.out.size;simp;omega) ?_;intro v' w4 pW hg4 hn4;obtain⟨A4,c4,rfl⟩:=aX pW;obtain⟨Bh,Bi⟩:=aL pW hg4;clear pW hg4 hn4)
  go_roundw
  case rel=>
   have hb3:=boxed v3 (.cells ([.string key1,.string bD,.string b8,.slice B1 n11 m1,.slice B2 n12 m2,.int .u64 gU,.int .u8 bA,.slice B3 n13 m3]:List Value).toArray 47);have hkr:=Keeps.row Bi.out;have hoff:=cG (IK.out.alloc (.cells ([.string key1,.string bD,.string b8,.slice B1 n11 m1,.slice B2 n12 m2,.int .u64 gU,.int .u8 bA,.slice B3 n13 m3]:List Value).toArray 47));refine⟨k+1,A4,c4,ys++[⟨⟨key1,bD,b8,ew,dr,gU,bA,eJ⟩,.slice B1 n11 m1,.slice B2 n12 m2,.slice B3 n13 m3⟩],by omega,by go_num,rfl,ae (by rw[lB];exact Bh.out),ae ?_,ae (by rw[cL,HTn.out,cL,hmap.out];rfl),ae (by rw[aj,hyl.out];rfl),ae ((HBv.out.alloc HBv.out.size _).grown Bi.out (by have:=HBv.out.size;simp;omega) fun q hq=>(IK.out.lt q hq).1)⟩;intro Y hY;rcases List.mem_append.1 hY with hY|hY
   ·exact((HYs.out Y hY).low hb3).keep hkr hoff aJ aJ (by decide)
   ·rw[List.mem_singleton.1 hY];exact((jd.out.low hb3).keep hkr hoff aJ aJ aJ)
  case measure=>simp[intOf];omega
theorem BG{w:World}{pv rv:Value}{m:Mp}(hp:df w pv m.aK)(hr:eG w rv m.aA)(sz:∀p∈m.aK,gQ p)(hl:m.aK.length≤2000000)(hrl:m.aA.length≤2000000):Calls ah 7 #[.agg #[.int .u64 (m.version:Int),pv,rv,.string m.policy]] w (Wp m w):=by
 have ha:=fun u(hu:aW w u)=>yS (hp.below hu) sz hl
 have hc:=hr;obtain⟨A1,c1,e1⟩:=hp.shape;obtain⟨A2,c2,e2⟩:=a8.shape hr;have hone:=wO m.aA;clear hp hr sz hl;obtain⟨ver,aK,aA,pol⟩:=m;simp only at*;subst e1 e2;unfold yw at ha;unfold Wp;simp only;obtain⟨n1,hn1⟩:=bw aK.length;obtain⟨n2,hn2⟩:=bw aA.length;rw[←hn1]at ha⊢;unfold eG at hc;rw[←hn2]at hc hrl⊢;obtain⟨HA,HC,afi⟩:=bz ha hc hone;clear ha hc hn1 hn2 hone;have HP:=ae (aH.new w 26 #[.int .u64 ver,.slice A1 n1 c1,.slice A2 n2 c2,.string pol]);have hb1:=boxed w (.cells #[.int .u64 ver,.slice A1 n1 c1,.slice A2 n2 c2,.string pol] 26);have HB:=ae hb1;clear hb1;go_enter Tryz.func7,Tryz.ntmps7;go_upto_region 1 with fail
 have hbz:=boxed (w.alloc (.cells #[.int .u64 ver,.slice A1 n1 c1,.slice A2 n2 c2,.string pol] 26)) (.cells #[.int .u64 0,au,au,aG] 26);have HB2:=bg HB hbz;have HP2:=ae (bK HP hbz);have hR:=aH.new (w.alloc (.cells #[.int .u64 ver,.slice A1 n1 c1,.slice A2 n2 c2,.string pol] 26)) 26 #[.int .u64 0,au,au,aG];rw[show(w.alloc (.cells #[.int .u64 ver,.slice A1 n1 c1,.slice A2 n2 c2,.string pol] 26)).heap.size=w.heap.size+1 by simp]at hR;have HR2:=ae hR;have HS2:ag (w.heap.size+2≤((w.alloc (.cells #[.int .u64 ver,.slice A1 n1 c1,.slice A2 n2 c2,.string pol] 26)).alloc (.cells #[.int .u64 0,au,au,aG] 26)).heap.size):=ae (by simp);clear hbz hR HB HP;generalize(w.alloc (.cells #[.int .u64 ver,.slice A1 n1 c1,.slice A2 n2 c2,.string pol] 26)).alloc (.cells #[.int .u64 0,au,au,aG] 26)=w2 at HB2 HP2 HR2 HS2⊢;have hQ:∃P R Q,P=w.heap.size∧R=w.heap.size+1∧Q=w.heap.size+2:=⟨_,_,_,rfl,rfl,rfl⟩;obtain⟨P,R,Q,eP,eR,eQ⟩:=hQ;rw[←eP]at HP2;rw[←eR]at HR2;rw[←eQ]at HS2;rw[←eR,←eP];have HPQ:ag (P<Q∧R<Q∧P≠R∧w.heap.size≤P∧w.heap.size≤R∧w.heap.size≤Q):=ae aR;clear eP eR eQ;obtain⟨-,a1,a2⟩:=jt HP2;go_upto_region 2 with(go_at_call 28;refine(HA.out _ HB2.out).mono ?_;rintro r wa⟨⟨B1,m1,rfl,oa⟩,da⟩;have hPa:=bK HP2 da;have IV:=ae (bK HR2 da);have iI:=bg HB2 da;obtain⟨HSa,HOa⟩:=aL (aw HS2.out da.size) (oa.mono HS2.out);have y1:=hPa.cell 1;simp at y1;have fz:=hPa.frozen 1;have iM:=ae hPa;clear hPa oa da)
 have gy:ag (aH (wa.setCell ⟨P,1,none⟩ (.slice B1 n1 m1)) P 26 #[.int .u64 ver,.slice B1 n1 m1,.slice A2 n2 c2,.string pol]):=ae (iM.out.aM 1 (.slice B1 n1 m1));obtain⟨HR3,HB3,oL⟩:=bz (IV.out.far (p:=⟨P,1,none⟩) HPQ.out.2.2.1.symm (.slice B1 n1 m1)) (iI.out.setCell (p:=⟨P,1,none⟩) HPQ.out.2.2.2.1 (.slice B1 n1 m1)) (HOa.out.far (k:=1) (u:=.slice B1 n1 m1) HPQ.out.1);have NQ:ag (Q≤(wa.setCell ⟨P,1,none⟩ (.slice B1 n1 m1)).heap.size):=ae (by have:=HSa.out;simp;omega);generalize wa.setCell ⟨P,1,none⟩ (.slice B1 n1 m1)=w3 at gy HR3 HB3 oL NQ⊢;clear y1 fz a1 a2 iM IV iI HOa HSa HP2 HR2 HB2 HS2;obtain⟨-,-,b2⟩:=jt gy;obtain⟨B2,m2,u,hr,ha2⟩:=wS 2 gy.out HPQ.out.1 NQ.out Tryz.underlying24 G1 rfl aJ (HC.out.below HB3.out) afi.out aR aJ;obtain⟨R2,AR⟩:=aL hr ha2;have q2:=ha2.cl;have f2:=ha2.fz;simp at q2;clear hr ha2;go_upto_region 3 with(at_builtin;refine gP rfl _ _ _ _ rfl rfl rfl R2.out ?_)
 have q1:aH (u.setCell ⟨P,2,none⟩ (.slice B2 n2 m2)) P 26 #[.int .u64 ver,.slice B1 n1 m1,.slice B2 n2 m2,.string pol]:=AR.out.blk;have q3:=(after HB3.out AR.out.db).setCell (p:=⟨P,2,none⟩) HPQ.out.2.2.2.1 (.slice B2 n2 m2);have q4:=(oL.out.low AR.out.db).far (k:=2) (u:=.slice B2 n2 m2) HPQ.out.1;have q5:=AR.out.own;have q6:=(bK HR3 AR.out.db).far (p:=⟨P,2,none⟩) HPQ.out.2.2.1.symm (.slice B2 n2 m2);clear q2 f2 b2 AR R2 gy HR3 HB3 oL NQ;have q2:=q6;clear q6;generalize u.setCell ⟨P,2,none⟩ (.slice B2 n2 m2)=wd at q1 q2 q3 q4 q5⊢;have x0:=q1.cell 0;have x1:=q1.cell 1;have x2:=q1.cell 2;have x3:=q1.cell 3;have z0:=q2.cell 0;have z1:=q2.cell 1;have z2:=q2.cell 2;have z3:=q2.cell 3;simp at x0 x1 x2 x3 z0 z1 z2 z3;have fr:=fun i=>q2.frozen i
 obtain⟨HQ2,yi,Nz,Yo⟩:=cU q2 q3 q4 q5;clear q1 q2 q3 q4 q5;go_wp2_with fail
 obtain⟨s1,s2⟩:=jK HQ2.out yi.out HPQ.out.2.2.2.2.1 (.int .u64 ver) (.slice B1 n1 m1) (.slice B2 n2 m2) (.string pol);have o1:=(((Nz.out.far (k:=0) (u:=.int .u64 ver) HPQ.out.2.1).far (k:=1) (u:=.slice B1 n1 m1) HPQ.out.2.1).far (k:=2) (u:=.slice B2 n2 m2) HPQ.out.2.1).far (k:=3) (u:=.string pol) HPQ.out.2.1;have o2:=aV (k:=3) (u:=.string pol) (aV (k:=2) (u:=.slice B2 n2 m2) (aV (k:=1) (u:=.slice B1 n1 m1) (aV (k:=0) (u:=.int .u64 ver) Yo.out HPQ.out.2.1) HPQ.out.2.1) HPQ.out.2.1) HPQ.out.2.1;exact bodyPost_ret (fS (x:=2) rfl rfl (iC s1)) rfl ⟨⟨B1,m1,B2,m2,rfl,o1.mono HPQ.out.2.2.2.2.2,o2.mono HPQ.out.2.2.2.2.2⟩,s2⟩
theorem Si{B b:Nat}{lb:Array Value}{D:List UInt8}{w:World}{A:Option Addr}{N cap:Nat}{M:Nat}(hM:M≤800000000)(hN:N<65536)(cs:Nat→ByteArray)(E:Nat→List UInt8)(hc:mH w A N cs)(hA:0<N→∀g o,A=some ⟨g,o,none⟩→g<B)(f:Nat)(eg:∀args w,(callFunc f args).run ah w=.ok (.enter f args) w)(h:gj B b D w)(hBw:B≤w.heap.size)(hlen:D.length+2+((aF N).flatMap E).length≤M)(hf:∀k,k<N→∀W D',Wrote B b w W→gj B b D' W→D'.length≤M→B≤W.heap.size→Calls ah f (#[.string (cs k)]++lb) W (Put B b D' (E k) W)):Calls ah 34 #[.pointer (some ⟨b,0,none⟩),.slice A N cap,.func (.func f) #[] lb] w (Put B b D (fH 2 N++(aF N).flatMap E) w):=by
 have hu:=fun u=>lS N hN u
 have hw:IntKind.u16.wrap (N:Int)=(N:Int):=by
  show(N:Int)%65536=_;omega
 have hput:=fun u(hu:aW w u)=>fM (w:=u) [be 2 N] (h.below hu) (by simp) (by rw[cZ,bZ,aP];omega) (aw hBw hu.size) 1 rfl
 rw[show fG [be 2 N]=fH 2 N by rw[cZ,bZ]]at hput;obtain⟨HC,HF,HA,HB,HLen,HU,jo⟩:=nn hc hf hA hBw hlen hu hput;unfold Put at HF⊢;clear hc hf hA hBw hlen h hu hput;go_enter Tryz.func34,Tryz.ntmps34;go_wp2_with(first
  |(go_at_call 87;refine(HU.out _).mono ?_;rintro r w1⟨rfl,d1⟩)
  |(go_at_call 30;(refine(jo.out _ d1).mono ?_);rintro r w2⟨rfl,p2,k2⟩;obtain⟨HP2,lQ⟩:=aL p2 (k2.low HB.out d1);clear p2 k2))
 go_loopw [17] (fun v17 wr=>∃k:Nat,k≤N∧v17=.int .i64 k∧ag (gj B b (D++fH 2 N++(aF k).flatMap E) wr)∧ag (Wrote B b w wr)) (fun v17 _=>N-(intOf v17).toNat)
 case atStart=>exact⟨0,bj _,rfl,ae (by rw[show(aF 0).flatMap E=[]from rfl,ep];exact HP2.out),lQ⟩
 case round=>
  obtain⟨k,hk,rfl,hp,hb⟩:=hrel;have hBr:=aw HB.out hb.out.below.size;have QV:=ae hBr;by_cases hlt:k<N
  ·have hlr:(D++fH 2 N++(aF k).flatMap E).length≤M:=by
    have h1:=gC E hk;have h2:=HLen.out;simp only[aj,aP]at*;omega
   obtain⟨q,o,rfl,hcell⟩:=HC.out k hlt;have hcall:=fun u(hu:aW wr u)=>HF.out k hlt u (D++fH 2 N++(aF k).flatMap E) (hb.out.trans (Wrote.of hBr hu)) (hp.out.below hu) hlr (aw hBr hu.size)
   have d0:=(hb.out.below.cell (p:=⟨q,o+k,none⟩) (HA.out aR _ _ rfl)).trans hcell;generalize cs k=L at d0 hcall;have bG:=ae hcall;clear hcall hcell;clear hlr hBr;go_wp2_with(go_at_fn f;(with_reducible refine(bG.out _ (aI _ _)).mono ?_);rintro r w4⟨rfl,p4,k4⟩;have tW:=ae p4;clear p4)
   go_roundw
   case rel=>exact⟨k+1,by omega,by go_num,ae (by rw[jf,←aO];exact tW.out),ae (hb.out.trans (k4))⟩
   case measure=>simp[intOf];omega
  ·obtain rfl:k=N:=by omega
   clear hBr;go_wp2_with fail
   go_end0
   exact⟨rfl,by rw[←aO];exact hp.out,hb.out⟩
theorem Xo{b:Nat}{D:List UInt8}{w0 w:World}{v:Value}{l:List ByteArray}{lb:Array Value}(fb:ByteArray→List UInt8)(hr:a8 w0 v l.length 1 (strCells l))(hb:aW w0 w)(hl:l.length<65536)(f:Nat)(eg:∀args w,(callFunc f args).run ah w=.ok (.enter f args) w)(h:gj w0.heap.size b D w){M:Nat}(hM:M≤800000000)(hlen:D.length+2+(l.flatMap fb).length≤M)(hf:∀x∈l,∀W D',Wrote w0.heap.size b w W→gj w0.heap.size b D' W→D'.length≤M→w0.heap.size≤W.heap.size→Calls ah f (#[.string x]++lb) W (Put w0.heap.size b D' (fb x) W)):Calls ah 34 #[.pointer (some ⟨b,0,none⟩),v,.func (.func f) #[] lb] w (Put w0.heap.size b D (bU fb l) w):=by
 obtain⟨A,cap,rfl⟩:=hr.shape;unfold bU;rw[←jY fb ⟨#[]⟩ l]at hlen⊢;exact Si hM hl (fun k=>l.getD k ⟨#[]⟩) (fun k=>fb (l.getD k ⟨#[]⟩)) (wI (hr.below hb)) (qg aJ hr) f eg h hb.size hlen fun k hk W D' h1 h2 h3 h4=>hf _ (getD_mem _ hk) W D' h1 h2 h3 h4
theorem BH(s:ByteArray):s.data.toList.length=s.size:=by rw[Array.length_toList,ByteArray.size_data]
theorem Sj{B b V:Nat}{D:List UInt8}{w:World}(k:ByteArray)(hk:k.size≤1000000)(hV:aH w V 69 #[.pointer (some ⟨b,0,none⟩)])(h:gj B b D w)(hlen:D.length≤800000000)(hBw:B≤w.heap.size):Calls ah 35 #[.string k,.pointer (some ⟨V,0,none⟩)] w (Put B b D k.data.toList w):=by
 have hput:=fM (w:=w) [k] h (by simp) (by rw[cZ,BH];omega) hBw 1 rfl;rw[cZ]at hput;simp only[jg,List.map_nil]at hput;have c0:=hV.cell 0;simp at c0;have jo:=ae hput;unfold Put;clear hput hV h hBw;go_enter Tryz.func35,Tryz.ntmps35;go_wp2_with(go_at_call 30;refine jo.out.mono ?_;rintro r w2⟨rfl,p2,k2⟩)
 go_end0
 exact⟨rfl,p2,k2⟩
theorem LM{B b V M:Nat}{D:List UInt8}{w:World}(s:ByteArray)(hs:s.size≤32768)(hV:aH w V 69 #[.pointer (some ⟨b,0,none⟩)])(hM:w.cell? ⟨M,7,none⟩=some (.string s))(h:gj B b D w)(hlen:D.length≤800000000)(hBw:B≤w.heap.size):Calls ah 40 #[.pointer (some ⟨V,0,none⟩),.pointer (some ⟨M,0,none⟩)] w (Put B b D (oy s) w):=by
 have ht:=mc s hs h aR hBw;have c0:=hV.cell 0;simp at c0;have HT:=ae ht;unfold Put at HT⊢;clear ht hV h hBw hs hlen;go_enter Tryz.func40,Tryz.ntmps40;go_wp2_with(go_at_call 41;refine HT.out.mono ?_;rintro r w2⟨rfl,p2,k2⟩)
 go_end0
 exact⟨rfl,p2,k2⟩
theorem Sl{b V M:Nat}{D:List UInt8}{w0 w:World}{rv:Value}{l:List Ry}(hr:eG w0 rv l)(hb:aW w0 w)(ok:l.length<65536∧∀x∈l,Kz x)(hV:aH w V 69 #[.pointer (some ⟨b,0,none⟩)])(hM:w.cell? ⟨M,5,none⟩=some rv)(h:gj w0.heap.size b D w)(hlen:D.length+2+(l.flatMap qK).length≤90000000):Calls ah 37 #[.pointer (some ⟨V,0,none⟩),.pointer (some ⟨M,0,none⟩)] w (Put w0.heap.size b D (bU qK l) w):=by
 have ht:=Ba qK hr hb ok.1 39 (enters_of Tryz.func39 bo rfl) h (show 90000000≤800000000 by decide) hlen fun r hr' W D' q1 q2 q3 q4=>sy r (by have:=(ok.2 r hr').id;omega) (ok.2 r hr').fin.1 (ok.2 r hr').fin.2 (by rw[(ok.2 r hr').key];decide) q2 aR q4
 obtain⟨A,c,rfl⟩:=a8.shape hr;have c0:=hV.cell 0;simp at c0;have HT:=ae ht;unfold Put at HT⊢;clear ht hV h hb hlen ok hr;generalize l.length=N at*;generalize bU qK l=X at*;go_enter Tryz.func37,Tryz.ntmps37;go_wp2_with(go_at_call 38;refine HT.out.mono ?_;rintro r w2⟨rfl,p2,k2⟩)
 go_end0
 exact⟨rfl,p2,k2⟩
theorem vq{B b:Nat}{D X:List UInt8}{w:World}(is:Bool)(f:Nat)(lb:Array Value)(eg:∀args w,(callFunc f args).run ah w=.ok (.enter f args) w)(h:gj B b D w)(hlen:D.length≤800000000)(hBw:B≤w.heap.size)(hf:is=true→∀W,Wrote B b w W→gj B b (D++[1]) W→B≤W.heap.size→Calls ah f lb W (Put B b (D++[1]) X W)):Calls ah 36 #[.pointer (some ⟨b,0,none⟩),.bool is,.func (.func f) #[] lb] w (Put B b D (iR is X) w):=by
 cases is with
 |false=>
  have hput:=fM (w:=w) [⟨#[0]⟩] h (by simp) (by rw[cZ];show D.length+1≤_;omega) hBw 1 rfl;rw[show fG [⟨#[0]⟩]=[0]from rfl]at hput;simp only[jg,List.map_nil]at hput;have jo:=ae hput;unfold Put iR;rw[if_neg aJ];clear hput h hBw hf;go_enter Tryz.func36,Tryz.ntmps36;go_wp2_with(go_at_call 30;refine jo.out.mono ?_;rintro r w2⟨rfl,p2,k2⟩)
  try simp only[Exit.inBlock,Exit.then]
  refine bodyPost_ret (results_none rfl _ _ _) rfl ?_;exact⟨rfl,p2,k2⟩
 |true=>
  have hput:=fM (w:=w) [⟨#[1]⟩] h (by simp) (by rw[cZ];show D.length+1≤_;omega) hBw 1 rfl;rw[show fG [⟨#[1]⟩]=[1]from rfl]at hput;simp only[jg,List.map_nil]at hput;obtain⟨jo,HF,SR⟩:=bz hput (hf rfl) hBw;unfold Put at HF⊢;unfold iR;rw[if_pos rfl,show D++1::X=D++[1]++X by simp];clear hput h hBw hf;go_enter Tryz.func36,Tryz.ntmps36;go_wp2_with(first
   |(go_at_call 30;refine jo.out.mono ?_;rintro r w2⟨rfl,p2,k2⟩;obtain⟨K2,HF2⟩:=aL k2 (HF.out w2 k2 p2 (aw SR.out k2.below.size)))
   |(go_at_fn f;(with_reducible refine HF2.out.mono ?_);rintro r w3⟨rfl,p3,k3⟩))
  go_end0
  exact⟨rfl,p3,K2.out.trans k3⟩
theorem adB{B:Nat}{w:World}(hB:B≤w.heap.size):gj B w.heap.size [] ((w.alloc (.cells #[.pointer none,au] 75)).alloc (.cells #[.pointer (some ⟨w.heap.size,0,none⟩)] 69)):=(NC hB).below (boxed _ _)
theorem BI{w:World}(env:Env w){d:Dl}{sv gv rv:Value}(hd:mK w d sv gv rv)(fit:uW d)(sz:Rj d)(hml:iH d=true→(Dm d).length≤80000000):Calls ah 9 #[.agg (eT d sv gv rv)] w fun r w'=>(∃(t:ByteArray)(e:Nat),(t,e)=jW d∧r=.returned (.tuple #[.string t,.int .i64 e]))∧aW w w':=by
 have hmay:=fun u(hu:aW w u)=>qN (env.below hu) (hd.below hu) fit sz
 cases hm:iH d with
 |false=>
  have hR:jW d=(⟨#[]⟩,220):=by unfold jW encR;rw[if_pos hm]
  rw[hm]at hmay;rw[hR];obtain⟨As,cs,e1⟩:=(hd.aM).shape;obtain⟨Ag,cg,e2⟩:=hd.gone.shape;obtain⟨Ar,cr,e3⟩:=a8.shape hd.aA;obtain⟨base,version,aM,gone,eX,aA,fe,policy,hash⟩:=d;simp only at*;subst e1 e2 e3;unfold eT at*;simp only at*;generalize aM.length=NS at*;generalize gone.length=NG at*;generalize aA.length=NR at*;obtain⟨vK,HB,HM⟩:=bz hmay (boxed w (.cells #[.int .u64 base,.int .u64 version,.slice As NS cs,.slice Ag NG cg,.bool eX,.slice Ar NR cr,.bool fe,.string policy,.string hash] 31)) (aH.new w 31 #[.int .u64 base,.int .u64 version,.slice As NS cs,.slice Ag NG cg,.bool eX,.slice Ar NR cr,.bool fe,.string policy,.string hash]);clear hmay hd fit sz hml env hm hR;go_enter Tryz.func9,Tryz.ntmps9;go_upto_region 1 with fail
  generalize w.alloc (.cells #[.int .u64 base,.int .u64 version,.slice As NS cs,.slice Ag NG cg,.bool eX,.slice Ar NR cr,.bool fe,.string policy,.string hash] 31)=w1 at HB HM⊢;generalize w.heap.size=P at HM⊢;obtain⟨m0,m1,m2,m3,m4,m5,m6,m7,m8⟩:=vw HM;go_wp2_with(go_at_call 29;refine(vK.out _ HB.out).mono ?_;rintro r w2⟨rfl,d2⟩)
  go_ret2;exact⟨⟨_,220,rfl,rfl⟩,after HB.out d2⟩
 |true=>
  have hml:=hml hm;have ok:=aby fit hm;have hR:jW d=(if 32768<(Dm d).length then((⟨#[]⟩:ByteArray),4)else(iJ (Dm d),0)):=by unfold jW encR;rw[if_neg (by simp[hm])]
  rw[hm]at hmay;have hsum:(Dm d).length=8+(8+((bU qs d.aM).length+((bU (fun k:ByteArray=>k.data.toList) d.gone).length+((iR d.eX (bU qK d.aA)).length+((iR d.fe (oy d.policy)).length+d.hash.data.toList.length))))):=by
   unfold Dm;simp only[aj,aP]
  have hsl:(bU qs d.aM).length=2+(d.aM.flatMap qs).length:=by unfold bU;rw[aj,aP]
  have hgl:(bU (fun k:ByteArray=>k.data.toList) d.gone).length=2+(d.gone.flatMap fun k:ByteArray=>k.data.toList).length:=by unfold bU;rw[aj,aP]
  have hrl:(bU qK d.aA).length=2+(d.aA.flatMap qK).length:=by unfold bU;rw[aj,aP]
  have hfl:d.eX=true→(iR d.eX (bU qK d.aA)).length=1+(bU qK d.aA).length:=fun h=>by rw[h];unfold iR;rw[if_pos rfl,bP];omega
  obtain⟨xs,hxs,hrow,hx⟩:=hd.aM;have hone:∀X∈xs,(qs X.p).length≤(d.aM.flatMap qs).length:=fun X hX=>by
   rw[←hxs,List.flatMap_map];exact List.Sublist.length_le (List.sublist_flatten_of_mem (dQ hX))
  obtain⟨D1,hD1⟩:=bw (fG [be 8 d.base,be 8 d.version]);obtain⟨D2,hD2⟩:=bw (D1++bU qs d.aM);obtain⟨D3,hD3⟩:=bw (D2++bU (fun k:ByteArray=>k.data.toList) d.gone);obtain⟨D4,hD4⟩:=bw (D3++iR d.eX (bU qK d.aA));obtain⟨D5,hD5⟩:=bw (D4++iR d.fe (oy d.policy));obtain⟨D6,hD6⟩:=bw (D5++fG [d.hash]);have hD:Dm d=D6:=by rw[hD6,hD5,hD4,hD3,hD2,hD1,eE,cZ,bZ,bZ];unfold Dm;simp only[aO]
  have l1:D1.length=16:=by rw[hD1,eE,bZ,bZ,aj,aP,aP]
  have l2:D2.length=D1.length+(bU qs d.aM).length:=by rw[hD2,aj]
  have l3:D3.length=D2.length+(bU (fun k:ByteArray=>k.data.toList) d.gone).length:=by rw[hD3,aj]
  have l4:D4.length=D3.length+(iR d.eX (bU qK d.aA)).length:=by rw[hD4,aj]
  have l5:D5.length=D4.length+(iR d.fe (oy d.policy)).length:=by rw[hD5,aj]
  have h6:D6≠[]:=by
   intro h;have:=congrArg List.length h;rw[hD6,aj,List.length_nil]at this;omega
  have hps:=fun b u(hu:aW w u)(hp:gj w.heap.size b D1 u)=>Bc qs hrow hx hu (by have:=ok.aM.1;rw[←hxs,ay]at this;exact this) 33 (enters_of Tryz.func33 bo rfl) hp (show 90000000≤800000000 by decide) (by rw[hxs];omega) fun X hX W D' q1 q2 q3 q4=>ve (hx X hX) (ok.aM.2 _ (by rw[←hxs];exact dQ hX)) (hu.trans q1) q2 (by have:=hone X hX;omega)
  rw[hxs]at hps;have hgs:=fun b V u(hu:aW w u)(hp:gj w.heap.size b D2 u)(hV:aH u V 69 #[.pointer (some ⟨b,0,none⟩)])(hne:V≠b)=>Xo (fun k:ByteArray=>k.data.toList) hd.gone hu ok.gone.1 35 (enters_of Tryz.func35 bo rfl) (lb:= #[.pointer (some ⟨V,0,none⟩)]) hp (show 90000000≤800000000 by decide) aR fun k hk W D' q1 q2 q3 q4=>Sj k (by have:=ok.gone.2 k hk;omega) (q1.kept _ _ _ hV hne aJ) q2 aR q4
  have hrs:=fun b V M u(dv:Array Value)(hu:aW w u)(hp:gj w.heap.size b D3 u)(hV:aH u V 69 #[.pointer (some ⟨b,0,none⟩)])(hne:V≠b)(hM:aH u M 31 dv)(hmb:M≠b)(h5:dv[5]? =some rv)=>vq d.eX 37 #[.pointer (some ⟨V,0,none⟩),.pointer (some ⟨M,0,none⟩)] (enters_of Tryz.func37 bo rfl) hp aR hu.size fun e W q1 q2 q3=>Sl hd.aA (hu.trans q1.below) (ok.aA e) (q1.kept _ _ _ hV hne aJ) (by rw[(q1.kept _ _ _ hM hmb aJ).cell 5,h5]) q2 (by have:=hfl e;rw[aj];simp only[bP,List.length_nil];omega)
  have hts:=fun b V M u(dv:Array Value)(hu:aW w u)(hp:gj w.heap.size b D4 u)(hV:aH u V 69 #[.pointer (some ⟨b,0,none⟩)])(hne:V≠b)(hM:aH u M 31 dv)(hmb:M≠b)(h7:dv[7]? =some (.string d.policy))=>vq d.fe 40 #[.pointer (some ⟨V,0,none⟩),.pointer (some ⟨M,0,none⟩)] (enters_of Tryz.func40 bo rfl) hp aR hu.size fun e W q1 q2 q3=>LM d.policy (ok.policy e) (q1.kept _ _ _ hV hne aJ) (by rw[(q1.kept _ _ _ hM hmb aJ).cell 7,h7]) q2 (by rw[aj];simp only[bP,List.length_nil];omega) q3
  have hhs:=fun b u(hB:w.heap.size≤u.heap.size)(hp:gj w.heap.size b D5 u)=>fM (w:=u) [d.hash] hp (by simp) (by rw[cZ,BH,ok.hash];omega) hB 1 rfl
  simp only[jg,List.map_nil]at hhs;rw[←hD6]at hhs;have hby:=fun b u(hp:gj w.heap.size b D6 u)=>sA hp h6
  rw[hR,hD];generalize(if 32768<D6.length then((⟨#[]⟩:ByteArray),4)else(iJ D6,0))=R at hby⊢;have hu1:=fun u=>rC d.base fit.base u
  have hu2:=fun u=>rC d.version fit.version u
  unfold Put at hps hgs hrs hts;obtain⟨HD1,HD2,HD3,HD4,HD5⟩:=eB hD1 hD2 hD3 hD4 hD5;obtain⟨Ag,cg,e2⟩:=hd.gone.shape;obtain⟨Ar,cr,e3⟩:=a8.shape hd.aA;have hsz:xs.length=d.aM.length:=by rw[←hxs,ay]
  obtain⟨As,cs,e1⟩:=hrow.shape;rw[hsz]at e1;clear hsum hsl hgl hrl hfl hone hD1 hD2 hD3 hD4 hD5 hD6 hD l1 l2 l3 l4 l5 h6 hrow hx hxs hd fit sz hml env hm hR ok hsz;obtain⟨base,version,aM,gone,eX,aA,fe,policy,hash⟩:=d;simp only at*;subst e1 e2 e3;unfold eT at*;simp only at*;generalize bU qs aM=LP at*;generalize bU (fun k:ByteArray=>k.data.toList) gone=LG at*;generalize iR eX (bU qK aA)=LR at*;generalize iR fe (oy policy)=LT at*;generalize aM.length=NS at*;generalize gone.length=NG at*;generalize aA.length=NR at*;obtain⟨vK,zM,HGs,HRs,HTs,HHs,SN,HU1,HU2,HB,HM⟩:=zZ hmay hps hgs hrs hts hhs hby hu1 hu2 (boxed w (.cells #[.int .u64 base,.int .u64 version,.slice As NS cs,.slice Ag NG cg,.bool eX,.slice Ar NR cr,.bool fe,.string policy,.string hash] 31)) (aH.new w 31 #[.int .u64 base,.int .u64 version,.slice As NS cs,.slice Ag NG cg,.bool eX,.slice Ar NR cr,.bool fe,.string policy,.string hash]);clear hmay hps hgs hrs hts hhs hby hu1 hu2;go_enter Tryz.func9,Tryz.ntmps9;go_upto_region 1 with fail
  generalize w.alloc (.cells #[.int .u64 base,.int .u64 version,.slice As NS cs,.slice Ag NG cg,.bool eX,.slice Ar NR cr,.bool fe,.string policy,.string hash] 31)=w1 at HB HM⊢;generalize hP:w.heap.size=M at HM⊢;have kN:=ae hP;clear hP;obtain⟨m0,m1,m2,m3,m4,m5,m6,m7,m8⟩:=vw HM;go_upto_region 3 with(go_at_call 29;refine(vK.out _ HB.out).mono ?_;rintro r w2⟨rfl,d2⟩)
  have HB2:=bg HB d2;have pF:=ae (bK HM d2);clear m0 m1 m2 m3 m4 m5 m6 m7 m8 d2 HB HM;go_upto_region 4 with fail
  have hbx:=fR w2 (.cells #[.pointer none,au] 75) (.cells #[.pointer (some ⟨w2.heap.size,0,none⟩)] 69);have HN:=ae (adB (B:=w.heap.size) HB2.out.size);have hV:=aH.new (w2.alloc (.cells #[.pointer none,au] 75)) 69 #[.pointer (some ⟨w2.heap.size,0,none⟩)];rw[show(w2.alloc (.cells #[.pointer none,au] 75)).heap.size=w2.heap.size+1 by simp]at hV;obtain⟨HV,mL⟩:=aL hV (bK pF hbx);have HB3:=bg HB2 hbx;have wJ:ag (M≠w2.heap.size):=ae (by have:=pF.out.lt;omega);have Oc:ag (w2.heap.size+1≠w2.heap.size):=ae aR;clear hbx hV HB2 pF;generalize(w2.alloc (.cells #[.pointer none,au] 75)).alloc (.cells #[.pointer (some ⟨w2.heap.size,0,none⟩)] 69)=w4 at HN HV mL HB3⊢;generalize w2.heap.size+1=V at HV Oc⊢;generalize w2.heap.size=b at HN HV wJ Oc⊢;have v0:=HV.out.cell 0;have m0:=mL.out.cell 0;have m1:=mL.out.cell 1;simp at v0 m0 m1;have hpn:=HN.out.below (Below.drew (aI _ w4));refine wp_region_held_drew (S:=(fun w'=>Wrote w.heap.size b w4 w'∧w'.cell? ⟨V,0,none⟩=some (.pointer (some ⟨b,0,none⟩))∧w'.cell? ⟨M,0,none⟩=some (.int .u64 base)∧w'.cell? ⟨M,1,none⟩=some (.int .u64 version))) bo (⟨Wrote.of HB3.out.size (Below.drew (aI _ _)),v0,m0,m1⟩) (fun hHeld=>?_);refine aY 0 ?_
  refine aY 1 ?_
  refine aY 2 ?_
  refine aY 4 ?_
  refine aY 5 ?_
  refine fA 3 fun K hK=>?_;go_simp;refine(HU1.out _).mono ?_;rintro r wb⟨rfl,db⟩;have hpn:=hpn.below db;refine hK.out _ _ (⟨hHeld.1.trans (Wrote.of (aw HB3.out.size hHeld.1.below.size) db),ai hHeld.2.1 db,ai hHeld.2.2.1 db,ai hHeld.2.2.2 db⟩) (fun hHeld=>?_);clear hK K;try simp only[ck]
  refine fA 6 fun K hK=>?_;go_simp;refine(HU2.out _).mono ?_;rintro r wc⟨rfl,dc⟩;have hpn:=hpn.below dc;refine hK.out _ _ (⟨hHeld.1.trans (Wrote.of (aw HB3.out.size hHeld.1.below.size) dc),ai hHeld.2.1 dc,ai hHeld.2.2.1 dc,ai hHeld.2.2.2 dc⟩) (fun hHeld=>?_);clear hK K;try simp only[ck]
  refine fA 7 fun K hK=>?_;go_simp;have hst:=tX hHeld.1 #[.string (be 8 base),.string (be 8 version)] 9;have hge:=hpn.lt;have hpn:=hpn.below (boxed _ (.cells #[.string (be 8 base),.string (be 8 version)] 9));refine hK.out _ _ (⟨hHeld.1.trans (Wrote.of (aw HB3.out.size hHeld.1.below.size) (boxed _ _)),ai hHeld.2.1 (boxed _ _),ai hHeld.2.2.1 (boxed _ _),ai hHeld.2.2.2 (boxed _ _)⟩) (fun hHeld=>?_);clear hK K;try simp only[ck]
  refine fA 8 fun K hK=>?_;go_simp;refine(put_any [be 8 base,be 8 version] hpn (by first|exact hst|simpa using hst) (by first|omega|(simp at hge⊢;omega)) (by simp) (by rw[eE,bZ,bZ,aj,aP,aP];decide) (aw HB3.out.size hHeld.1.below.size) 2 rfl).mono ?_;rintro r w6⟨rfl,p6,k6⟩;have k46:=hHeld.1.trans k6;have hV6:=k46.kept _ _ _ HV.out Oc.out aJ;have hM6:=k46.kept _ _ _ mL.out wJ.out aJ;refine hK.out _ _ (⟨k46,hV6.cell 0,hM6.cell 0,hM6.cell 1⟩) (fun hHeld=>?_);clear hK K;try simp only[ck]
  refine lN ?_;rw[List.nil_append,←HD1.out]at p6;obtain⟨HV6,zf,kQ⟩:=bz hV6 hM6 (HB3.out.trans k46.below);have VO:=ae (zM.out b w6 kQ.out p6);have v6:=HV6.out.cell 0;have m6:=zf.out.cell 2;simp at v6 m6;clear v0 m0 m1 hV6 hM6 k46 k6 p6 hst hge hpn hHeld HN HV mL HB3;go_upto_region 6 with(go_at_call 32;refine VO.out.mono ?_;rintro r w7⟨rfl,p7,k7⟩;rw[←HD2.out]at p7)
  have HV7:=ae (k7.kept _ _ _ HV6.out Oc.out aJ);have Yp:=ae (k7.kept _ _ _ zf.out wJ.out aJ);have uO:=ae (kQ.out.trans k7.below);have HT7:=ae (HGs.out b V w7 uO.out p7 HV7.out Oc.out);have v7:=HV7.out.cell 0;have m7:=Yp.out.cell 3;simp at v7 m7;clear v6 m6 k7 p7 HV6 zf kQ VO;go_upto_region 7 with(go_at_call 34;refine HT7.out.mono ?_;rintro r w8⟨rfl,p8,k8⟩;rw[←HD3.out]at p8)
  have HV8:=ae (k8.kept _ _ _ HV7.out Oc.out aJ);have HM8:=ae (k8.kept _ _ _ Yp.out wJ.out aJ);have Yc:=ae (uO.out.trans k8.below);have HT8:=ae (HRs.out b V M w8 _ Yc.out p8 HV8.out Oc.out HM8.out wJ.out rfl);have v8:=HV8.out.cell 0;have m8:=HM8.out.cell 4;simp at v8 m8;clear v7 m7 k8 p8 HV7 Yp uO HT7;go_upto_region 8 with(go_at_call 36;refine HT8.out.mono ?_;rintro r w9⟨rfl,p9,k9⟩;rw[←HD4.out]at p9)
  have Yt:=ae (k9.kept _ _ _ HV8.out Oc.out aJ);have P5:=ae (k9.kept _ _ _ HM8.out wJ.out aJ);have Uh:=ae (Yc.out.trans k9.below);have HT9:=ae (HTs.out b V M w9 _ Uh.out p9 Yt.out Oc.out P5.out wJ.out rfl);have v9:=Yt.out.cell 0;have m9:=P5.out.cell 6;simp at v9 m9;clear v8 m8 k9 p9 HV8 HM8 Yc HT8;go_upto_region 9 with(go_at_call 36;refine HT9.out.mono ?_;rintro r w10⟨rfl,p10,k10⟩;rw[←HD5.out]at p10)
  have adC:=ae (k10.kept _ _ _ Yt.out Oc.out aJ);have FQ:=ae (k10.kept _ _ _ P5.out wJ.out aJ);have qY:=ae (Uh.out.trans k10.below);have afE:=ae (HHs.out b w10 qY.out.size p10);have v10:=adC.out.cell 0;have m10:=FQ.out.cell 8;simp at v10 m10;clear v9 m9 k10 p10 Yt P5 Uh HT9;go_upto_region 10 with(go_at_call 30;refine afE.out.mono ?_;rintro r vG⟨rfl,p11,k11⟩)
  have ag3:=ae (k11.kept _ _ _ adC.out Oc.out aJ);obtain⟨JJ,ag4⟩:=aL (qY.out.trans k11.below) (SN.out b vG p11);have v11:=ag3.out.cell 0;simp at v11;clear v10 m10 k11 p11 adC FQ qY afE;go_wp2_with(go_at_call 42;refine ag4.out.mono ?_;rintro r w12⟨⟨t,e,hte,rfl⟩,b12⟩;have Hte:=ae hte;clear hte)
  go_ret2;exact⟨⟨t,e,Hte.out,rfl⟩,JJ.out.trans b12⟩
structure Eg(w:World)(b rb mb:Nat)(e:Ey)(cs:Array Value)(J:World→Prop)(W:World):Prop where
 blk:aH W mb 31 cs
 ey:cj W b rb e
 kp:Keeps (Three b rb mb) w W
 rows:J W
theorem Xp{U W:World}{b rb mb:Nat}(k:Keeps (Two b rb) U W):Keeps (Three b rb mb) U W:=k.mono fun _ _ h=>h.elim Or.inl fun h=>Or.inr (Or.inl h)
def Stb(b rb mb:Nat)(J:World→Prop):Prop:=∀u v,Keeps (Three b rb mb) u v→J u→J v
theorem Eg.call{w U W:World}{b rb mb:Nat}{e e':Ey}{cs:Array Value}{J:World→Prop}(h:Eg w b rb mb e cs J U)(hJ:Stb b rb mb J)(hm:¬Two b rb mb)(g:cj W b rb e')(k:Keeps (Two b rb) U W):Eg w b rb mb e' cs J W:=have k3:Keeps (Three b rb mb) U W:=k.mono fun _ _ h=>h.elim Or.inl fun h=>Or.inr (Or.inl h)
 ⟨h.blk.keep k hm,g,h.kp.trans k3,hJ _ _ k3 h.rows⟩
theorem Eg.put{w U:World}{b rb mb:Nat}{e:Ey}{cs:Array Value}{J:World→Prop}(h:Eg w b rb mb e cs J U)(hJ:Stb b rb mb J)(hb:mb≠b)(hr:mb≠rb)(i:Nat)(v:Value):Eg w b rb mb e (cs.setIfInBounds i v) J (U.setCell ⟨mb,i,none⟩ v):=have k3:Keeps (Three b rb mb) U (U.setCell ⟨mb,i,none⟩ v):=(Keeps.refl _ _).setCell (p:=⟨mb,i,none⟩) (Or.inl (Or.inr (Or.inr rfl))) v
 ⟨h.blk.aM i v,h.ey.far (p:=⟨mb,i,none⟩) hb.symm hr.symm v,h.kp.trans k3,hJ _ _ k3 h.rows⟩
theorem Eg.also{w U:World}{b rb mb:Nat}{e:Ey}{cs:Array Value}{J J':World→Prop}(h:Eg w b rb mb e cs J U)(h':J' U):Eg w b rb mb e cs J' U:=⟨h.blk,h.ey,h.kp,h'⟩
theorem Ig{α:Type}{p:Rg α}(h:vj p)(c:Bool)(z:α):vj (yk c z p):=by
 unfold yk;cases c with
 |false=>exact kA z
 |true=>exact h
def aaN(w:World)(B mb:Nat)(d:Dl):Prop:=∃A1 c1 A2 c2 A3 c3,aH w mb 31 #[.int .u64 (d.base:Int),.int .u64 (d.version:Int),.slice A1 d.aM.length c1,.slice A2 d.gone.length c2,.bool d.eX,.slice A3 d.aA.length c3,.bool d.fe,.string d.policy,.string d.hash]∧cA w B (.slice A1 d.aM.length c1) d.aM∧w.ownsRow B 9 1 (.slice A2 d.gone.length c2) d.gone.length (strCells d.gone)∧w.ownsRow B 57 6 (.slice A3 d.aA.length c3) d.aA.length (dX d.aA)
theorem Xq{w:World}{b rb mb:Nat}{e:Ey}(h:cj w b rb e)(hs:e.s.size≤4000000)(hm:aH w mb 31 #[.int .u64 0,.int .u64 0,au,au,.bool false,au,.bool false,aG,aG]){B:Nat}(hB:B≤w.heap.size)(hBm:mb<B):Calls ah 44 #[.pointer (some ⟨b,0,none⟩),.pointer (some ⟨mb,0,none⟩)] w fun r w'=>r=.returned (.tuple #[])∧aaN w' B mb (IP e).1∧cj w' b rb (IP e).2∧Keeps (Three b rb mb) w w':=by
 have hbl:=h.lt.1;have hrl:=h.lt.2;have hml:=hm.lt;have hne:mb≠b:=aH.vO hm h.blk aJ;have hnr:mb≠rb:=aH.vO hm h.rd aJ;unfold IP;simp only[cV,jl];have l1:=aw (ef 8 e) hs;have hc1:=fun u(hu:cj u b rb e)=>ua hu hs
 generalize(bL 8 e).2=e1 at*;generalize(bL 8 e).1=base at*;have l2:=aw (ef 8 e1) l1;have hc2:=fun u(hu:cj u b rb e1)=>ua hu l1
 generalize(bL 8 e1).2=e2 at*;generalize(bL 8 e1).1=ver at*;have l3:=aw (iU DI e2) l2;have hc3:=fun u(hu:cj u b rb e2)=>yr hu l2 GL DI 47 (enters_of Tryz.func47 bo rfl) (pb:=b) fun W u h1 h2=>yu h1 h2
 generalize(cn GL e2).2=e3 at*;generalize(cn GL e2).1=ps at*;have l4:=aw (iU (mg 32) e3) l3;have hc4:=fun u(hu:cj u b rb e3)=>Bf hu l3 (keyE 32) (mg 32) 49 (enters_of Tryz.func49 bo rfl) (pb:=b) fun W u h1 h2=>mU h1 h2
 generalize(cn (keyE 32) e3).2=e4 at*;generalize(cn (keyE 32) e3).1=gs at*;have l5:=aw (GX e4) l4;have hc5:=fun u(hu:cj u b rb e4)=>yp hu l4
 generalize(me e4).2=e5 at*;generalize(me e4).1=hr at*;have l6:=aw (Ig (iU DJ) hr [] e5) l5;have hc6:=fun u(hu:cj u b rb e5)=>yq hu l5 IL DJ 52 (enters_of Tryz.func52 bo rfl) (pb:=b) fun W u h1 h2=>vk h1 h2
 obtain⟨R6,hR6⟩:=bw (yk hr [] (cn IL) e5);rw[←hR6]at l6⊢;obtain⟨rs,e6⟩:=R6;simp only at l6⊢;have l7:=aw (GX e6) l6;have hc7:=fun u(hu:cj u b rb e6)=>yp hu l6
 generalize(me e6).2=e7 at*;generalize(me e6).1=hp at*;have l8:=aw (Ig qh hp ⟨#[]⟩ e7) l7;have hc8:=fun u(hu:cj u b rb e7)=>wM hu l7
 obtain⟨R8,vU⟩:=bw (yk hp ⟨#[]⟩ gg e7);rw[←vU]at l8⊢;obtain⟨tx,e8⟩:=R8;simp only at l8⊢;have xT:=fun u(hu:cj u b rb e8)=>mU hu l8
 generalize(keyE 32 e8).2=e9 at*;generalize(keyE 32 e8).1=hash at*;unfold aaN;simp only;obtain⟨n1,hn1⟩:=bw ps.length;obtain⟨n2,hn2⟩:=bw gs.length;unfold iL at hc1 hc2 hc5 hc7 hc8 xT;unfold DK at hc3;unfold lC at hc4 hc6;rw[←hn1]at hc3⊢;rw[←hn2]at hc4⊢;have a0:=h.c0;obtain⟨C1,C2,C3,C4,C5,C6,C7,C8,C9,zy,Y8⟩:=zZ hc1 hc2 hc3 hc4 hc5 hc6 hc7 hc8 xT hR6 vU;have St0:ag (Stb b rb mb fun _=>True):=ae fun _ _ _ h=>h
 have hdr:Keeps (Three b rb mb) w w.drew:=Keeps.of_below (Below.drew (aI _ w)) fun _ h _=>h
 have S0:ag (Eg w b rb mb e #[.int .u64 0,.int .u64 0,au,au,.bool false,au,.bool false,aG,aG] (fun _=>True) w.drew):=ae ⟨hm.drew,h.drew,hdr,trivial⟩;have qw:ag (∀k,Three b rb mb k→k<w.heap.size):=ae (by rintro k(rfl|rfl|rfl)<;>assumption);have NM:¬Two b rb mb:=by rintro(h|h)<;>contradiction
 obtain⟨HBB,jL,kX⟩:=bz hB hn1 hn2;clear hn1 hn2 hc1 hc2 hc3 hc4 hc5 hc6 hc7 hc8 xT hR6 vU h hm hs l1 l2 l3 l4 l5 l6 l7 l8 hB hBm hdr hbl hrl hml;go_enter Tryz.func44,Tryz.ntmps44;go_upto_region 0 with fail
 refine wp_region_held_drew (S:=(fun w'=>w'.cell? ⟨b,0,none⟩=some (.pointer (some ⟨rb,0,none⟩)))) bo (a0) (fun hHeld=>?_);refine aY 0 ?_
 refine aY 1 ?_
 refine aY 2 ?_
 refine aY 3 ?_
 refine aY 5 ?_
 refine aY 6 ?_
 refine aY 7 ?_
 refine aY 8 ?_
 refine fA 4 fun K hK=>?_;go_simp;refine(C1.out _ S0.out.ey).mono ?_;rintro r wb⟨rfl,gb,kb⟩;have s1:=S0.out.call St0.out NM gb kb;refine hK.out _ _ (gb.c0) (fun hHeld=>?_);clear hK K;try simp only[ck]
 refine aY 10 ?_
 refine fA 9 fun K hK=>?_;go_simp;refine(C2.out _ gb).mono ?_;rintro r wc⟨rfl,gc,kc⟩;have s2:=s1.call St0.out NM gc kc;have d0:=s2.blk.cell 0;have d1:=s2.blk.cell 1;simp at d0 d1;have f0:=s2.blk.frozen 0;have f1:=s2.blk.frozen 1;refine hK.out _ _ (gc.c0) (fun hHeld=>?_);clear hK K;try simp only[ck]
 refine fA 11 fun K hK=>?_;go_simp;refine hK.out _ _ (((cell_far (a:=⟨mb,0,none⟩) (c:=⟨b,0,none⟩) hne).trans gc.c0)) (fun hHeld=>?_);clear hK K;try simp only[ck]
 refine aY 12 ?_
 refine fA 13 fun K hK=>?_;go_simp;refine hK.out _ _ (((cell_far (a:=⟨mb,1,none⟩) (c:=⟨b,0,none⟩) hne).trans ((cell_far (a:=⟨mb,0,none⟩) (c:=⟨b,0,none⟩) hne).trans gc.c0))) (fun hHeld=>?_);clear hK K;try simp only[ck]
 refine lN ?_;have S2:ag (Eg w b rb mb e2 #[.int .u64 base,.int .u64 ver,au,au,.bool false,au,.bool false,aG,aG] (fun _=>True) ((wc.setCell ⟨mb,0,none⟩ (.int .u64 base)).setCell ⟨mb,1,none⟩ (.int .u64 ver))):=ae ((s2.put St0.out hne hnr 0 (.int .u64 base)).put St0.out hne hnr 1 (.int .u64 ver));clear s1 s2 d0 d1 f0 f1 gb gc kb kc hHeld C1 C2 S0 a0;generalize(wc.setCell ⟨mb,0,none⟩ (.int .u64 base)).setCell ⟨mb,1,none⟩ (.int .u64 ver)=w2 at S2⊢;have HZ2:ag (w.heap.size≤w2.heap.size):=ae S2.out.kp.size;go_upto_region 2 with(first
  |(go_at_call 46;refine(C3.out _ S2.out.ey).mono ?_;rintro r w3⟨⟨A1,c1,rfl,o3⟩,g3,k3⟩;obtain⟨S3,O3⟩:=aL (S2.out.call St0.out NM g3 k3) (o3.mono HZ2.out);clear o3 g3 k3)
  |(go_at_call 48;refine(C4.out _ S3.out.ey).mono ?_;rintro r w4⟨⟨A2,c2,rfl,o4⟩,g4,k4⟩;have s4:=(S3.out.call St0.out NM g4 k4).also (J':=(fun u=>cA u w.heap.size (.slice A1 n1 c1) ps∧u.ownsRow w.heap.size 9 1 (.slice A2 n2 c2) n2 (strCells gs))) ⟨O3.out.above (Xp k4) qw.out,o4.mono S3.out.kp.size⟩;have St5:ag (Stb b rb mb (fun u=>cA u w.heap.size (.slice A1 n1 c1) ps∧u.ownsRow w.heap.size 9 1 (.slice A2 n2 c2) n2 (strCells gs))):=ae fun _ _ k h=>⟨h.1.above k qw.out,cM h.2 k qw.out⟩;have d2:=s4.blk.cell 2;have d3:=s4.blk.cell 3;simp at d2 d3;have f2:=s4.blk.frozen 2;have f3:=s4.blk.frozen 3;have S5:ag (Eg w b rb mb e4 #[.int .u64 base,.int .u64 ver,.slice A1 n1 c1,.slice A2 n2 c2,.bool false,au,.bool false,aG,aG] (fun u=>cA u w.heap.size (.slice A1 n1 c1) ps∧u.ownsRow w.heap.size 9 1 (.slice A2 n2 c2) n2 (strCells gs)) ((w4.setCell ⟨mb,2,none⟩ (.slice A1 n1 c1)).setCell ⟨mb,3,none⟩ (.slice A2 n2 c2))):=ae ((s4.put St5.out hne hnr 2 (.slice A1 n1 c1)).put St5.out hne hnr 3 (.slice A2 n2 c2));clear o4 g4 k4 s4))
 generalize(w4.setCell ⟨mb,2,none⟩ (.slice A1 n1 c1)).setCell ⟨mb,3,none⟩ (.slice A2 n2 c2)=w5 at S5⊢;clear d2 d3 f2 f3 C3 C4 S2 S3 O3 St0;go_upto_region 3 with(go_at_call 50;refine(C5.out _ S5.out.ey).mono ?_;rintro r w6⟨rfl,g6,k6⟩;have s6:=S5.out.call St5.out NM g6 k6;have d4:=s6.blk.cell 4;simp at d4;have f4:=s6.blk.frozen 4;have S6:ag (Eg w b rb mb e5 #[.int .u64 base,.int .u64 ver,.slice A1 n1 c1,.slice A2 n2 c2,.bool hr,au,.bool false,aG,aG] (fun u=>cA u w.heap.size (.slice A1 n1 c1) ps∧u.ownsRow w.heap.size 9 1 (.slice A2 n2 c2) n2 (strCells gs)) (w6.setCell ⟨mb,4,none⟩ (.bool hr))):=ae (s6.put St5.out hne hnr 4 (.bool hr));clear g6 k6 s6)
 generalize w6.setCell ⟨mb,4,none⟩ (.bool hr)=w7 at S6⊢;clear d4 f4 C5 S5;have d4:=S6.out.blk.cell 4;simp at d4;go_upto_if 29 with fail
 clear d4;go_cut []from 30 (fun wx=>∃(A3:Option Addr)(n3 c3:Nat),ag (n3=rs.length)∧ag (Eg w b rb mb e6 #[.int .u64 base,.int .u64 ver,.slice A1 n1 c1,.slice A2 n2 c2,.bool hr,.slice A3 n3 c3,.bool false,aG,aG] (fun u=>(cA u w.heap.size (.slice A1 n1 c1) ps∧u.ownsRow w.heap.size 9 1 (.slice A2 n2 c2) n2 (strCells gs))∧u.ownsRow w.heap.size 57 6 (.slice A3 n3 c3) n3 (dX rs)) wx))
 case first=>
  cases hr with
  |false=>
   have e:(rs,e6)=(([]:List Ry),e5):=zy.out;injection e with e1 e2
   subst e1 e2;go_wp2_with fail
   go_meet;exact⟨none,0,0,ae (by simp),ae (S6.out.also ⟨S6.out.rows,bh _ _ _ _⟩)⟩
  |true=>
   have e:(rs,e6)=cn IL e5:=zy.out;have c6:=C6.out;rw[←e]at c6;simp only at c6;obtain⟨n3,hn3⟩:=bw rs.length;rw[←hn3]at c6;obtain⟨vX,C6'⟩:=aL hn3 c6;clear e c6 hn3 C6;go_wp2_with(go_at_call 51;refine(C6'.out _ S6.out.ey).mono ?_;rintro r w8⟨⟨A3,c3,rfl,o8⟩,g8,k8⟩;have s8:=(S6.out.call St5.out NM g8 k8).also (J':=(fun u=>(cA u w.heap.size (.slice A1 n1 c1) ps∧u.ownsRow w.heap.size 9 1 (.slice A2 n2 c2) n2 (strCells gs))∧u.ownsRow w.heap.size 57 6 (.slice A3 n3 c3) n3 (dX rs))) ⟨St5.out _ _ (Xp k8) S6.out.rows,o8.mono S6.out.kp.size⟩;have St7:ag (Stb b rb mb (fun u=>(cA u w.heap.size (.slice A1 n1 c1) ps∧u.ownsRow w.heap.size 9 1 (.slice A2 n2 c2) n2 (strCells gs))∧u.ownsRow w.heap.size 57 6 (.slice A3 n3 c3) n3 (dX rs))):=ae fun _ _ k h=>⟨⟨h.1.1.above k qw.out,cM h.1.2 k qw.out⟩,cM h.2 k qw.out⟩;have d5:=s8.blk.cell 5;simp at d5;have f5:=s8.blk.frozen 5;have S8:ag (Eg w b rb mb e6 #[.int .u64 base,.int .u64 ver,.slice A1 n1 c1,.slice A2 n2 c2,.bool true,.slice A3 n3 c3,.bool false,aG,aG] (fun u=>(cA u w.heap.size (.slice A1 n1 c1) ps∧u.ownsRow w.heap.size 9 1 (.slice A2 n2 c2) n2 (strCells gs))∧u.ownsRow w.heap.size 57 6 (.slice A3 n3 c3) n3 (dX rs)) (w8.setCell ⟨mb,5,none⟩ (.slice A3 n3 c3))):=ae (s8.put St7.out hne hnr 5 (.slice A3 n3 c3));clear o8 g8 k8 s8)
   go_meet;exact⟨A3,n3,c3,vX,S8⟩
 case rest=>
 obtain⟨A3,n3,c3,hn3,S9⟩:=hcut;have St7:ag (Stb b rb mb (fun u=>(cA u w.heap.size (.slice A1 n1 c1) ps∧u.ownsRow w.heap.size 9 1 (.slice A2 n2 c2) n2 (strCells gs))∧u.ownsRow w.heap.size 57 6 (.slice A3 n3 c3) n3 (dX rs))):=ae fun _ _ k h=>⟨⟨h.1.1.above k qw.out,cM h.1.2 k qw.out⟩,cM h.2 k qw.out⟩
 obtain⟨w9,rfl⟩:=bw (wc:World);clear S6 C6 zy St5;go_upto_region 6 with(go_at_call 50;refine(C7.out _ S9.out.ey).mono ?_;rintro r w10⟨rfl,g10,k10⟩;have s10:=S9.out.call St7.out NM g10 k10;have d6:=s10.blk.cell 6;simp at d6;have f6:=s10.blk.frozen 6;have S10:ag (Eg w b rb mb e7 #[.int .u64 base,.int .u64 ver,.slice A1 n1 c1,.slice A2 n2 c2,.bool hr,.slice A3 n3 c3,.bool hp,aG,aG] (fun u=>(cA u w.heap.size (.slice A1 n1 c1) ps∧u.ownsRow w.heap.size 9 1 (.slice A2 n2 c2) n2 (strCells gs))∧u.ownsRow w.heap.size 57 6 (.slice A3 n3 c3) n3 (dX rs)) (w10.setCell ⟨mb,6,none⟩ (.bool hp))):=ae (s10.put St7.out hne hnr 6 (.bool hp));clear g10 k10 s10)
 generalize w10.setCell ⟨mb,6,none⟩ (.bool hp)=vG at S10⊢;clear d6 f6 C7 S9;have d6:=S10.out.blk.cell 6;simp at d6;go_upto_if 39 with fail
 clear d6;go_cut []from 40 (fun wx=>ag (Eg w b rb mb e8 #[.int .u64 base,.int .u64 ver,.slice A1 n1 c1,.slice A2 n2 c2,.bool hr,.slice A3 n3 c3,.bool hp,.string tx,aG] (fun u=>(cA u w.heap.size (.slice A1 n1 c1) ps∧u.ownsRow w.heap.size 9 1 (.slice A2 n2 c2) n2 (strCells gs))∧u.ownsRow w.heap.size 57 6 (.slice A3 n3 c3) n3 (dX rs)) wx))
 case first=>
  cases hp with
  |false=>
   have e:(tx,e8)=((⟨#[]⟩:ByteArray),e7):=Y8.out;injection e with e1 e2
   subst e1 e2;go_wp2_with fail
   go_meet;exact S10
  |true=>
   have e:(tx,e8)=gg e7:=Y8.out;have c8:=C8.out;rw[←e]at c8;simp only at c8;have C8':=ae c8;have a11:=S10.out.ey.c0;clear e c8 C8;go_wp2_with(go_at_call 53;refine(C8'.out _ S10.out.ey).mono ?_;rintro r w12⟨rfl,g12,k12⟩;have s12:=S10.out.call St7.out NM g12 k12;have d7:=s12.blk.cell 7;simp at d7;have f7:=s12.blk.frozen 7;have S12:ag (Eg w b rb mb e8 #[.int .u64 base,.int .u64 ver,.slice A1 n1 c1,.slice A2 n2 c2,.bool hr,.slice A3 n3 c3,.bool true,.string tx,aG] (fun u=>(cA u w.heap.size (.slice A1 n1 c1) ps∧u.ownsRow w.heap.size 9 1 (.slice A2 n2 c2) n2 (strCells gs))∧u.ownsRow w.heap.size 57 6 (.slice A3 n3 c3) n3 (dX rs)) (w12.setCell ⟨mb,7,none⟩ (.string tx))):=ae (s12.put St7.out hne hnr 7 (.string tx));clear g12 k12 s12)
   go_meet;exact S12
 case rest=>
 obtain⟨FR,rfl⟩:=bw (wc:World);have S13:=hcut;clear S10 C8 Y8 hcut;go_wp2_with(go_at_call 49;refine(C9.out _ S13.out.ey).mono ?_;rintro r jP⟨rfl,g14,k14⟩;have s14:=S13.out.call St7.out NM g14 k14;have d8:=s14.blk.cell 8;simp at d8;have f8:=s14.blk.frozen 8;have S14:ag (Eg w b rb mb e9 #[.int .u64 base,.int .u64 ver,.slice A1 n1 c1,.slice A2 n2 c2,.bool hr,.slice A3 n3 c3,.bool hp,.string tx,.string hash] (fun u=>(cA u w.heap.size (.slice A1 n1 c1) ps∧u.ownsRow w.heap.size 9 1 (.slice A2 n2 c2) n2 (strCells gs))∧u.ownsRow w.heap.size 57 6 (.slice A3 n3 c3) n3 (dX rs)) (jP.setCell ⟨mb,8,none⟩ (.string hash))):=ae (s14.put St7.out hne hnr 8 (.string hash));clear g14 k14 s14)
 go_end0
 obtain⟨z1,z2,z3,⟨z4,z5⟩,z6⟩:=S14.out;rw[hn3.out]at z1 z6;exact⟨rfl,⟨A1,c1,A2,c2,A3,c3,z1,z4.mono HBB.out,z5.mono HBB.out,z6.mono HBB.out⟩,z2,z3⟩
theorem adD{d:Dl}(h:Vm d):uW d∧Rj d:=by
 have hrs:d.aA.length<65536∧∀x∈d.aA,Kz x:=by
  cases hr:d.eX with
  |true=>exact h.aA hr
  |false=>rw[h.Gw hr];exact⟨by decide,fun x hx=>by cases hx⟩
 have hpl:d.policy.size≤32768:=by
  cases hp:d.fe with
  |true=>exact h.policy hp
  |false=>rw[h.Gx hp];decide
 exact⟨⟨h.base,h.version,fun p hp=>(DN (h.aM.2 p hp)).1,fun r hr=>Wn (hrs.2 r hr)⟩,⟨fun p hp=>(DN (h.aM.2 p hp)).2,by have:=h.aM.1;omega,by have:=h.gone.1;omega,by have:=hrs.1;omega,by omega,fun k hk=>by have:=h.gone.2 k hk;omega⟩⟩
theorem LQ(s:ByteArray):((decide (s.size≤32768)&&tY (IP ⟨s,0,false⟩).2)=false∧zG s=(Dl.zero,8))∨((decide (s.size≤32768)&&tY (IP ⟨s,0,false⟩).2)=true∧Vm (IP ⟨s,0,false⟩).1∧(Dm (IP ⟨s,0,false⟩).1).length≤32768∧zG s=(if(jW (IP ⟨s,0,false⟩).1).2=0 then((IP ⟨s,0,false⟩).1,0)else(Dl.zero,(jW (IP ⟨s,0,false⟩).1).2))):=by
 by_cases hs:32768<s.size
 ·refine Or.inl ⟨by rw[decide_eq_false aR];rfl,?_⟩;have:fk dlP s.data.toList=none:=by unfold fk;rw[if_pos (by rw[ek];exact hs)]
  unfold zG;rw[this]
 ·rcases Be acX s hs with⟨h1,h2⟩|⟨h1,h2⟩
  ·refine Or.inr ⟨by rw[decide_eq_true aR,h1];rfl,?_⟩;have hq:∃z,dlP s.data.toList=some z∧z=((IP ⟨s,0,false⟩).1,[]):=by
    unfold fk at h2;rw[if_neg (by rw[ek];exact hs)]at h2;split at h2
    ·next x hx=>injection h2 with h2;subst h2;exact⟨_,hx,rfl⟩
    ·cases h2
   obtain⟨z,hz,rfl⟩:=hq;obtain⟨e1,e2⟩:=Nu.same _ _ _ hz;rw[ep]at e1;refine⟨e2,by rw[←e1,ek];omega,?_⟩;unfold zG;rw[h2]
  ·refine Or.inl ⟨by rw[h1,Bool.and_false],?_⟩;unfold zG;rw[h2]
theorem Sm{w:World}(env:Env w)(s:ByteArray)(hs:s.size≤4000000):Calls ah 10 #[.string s] w (W3 (zG s).1 (zG s).2 w):=by
 have hz:=boxed w (.cells #[.int .u64 0,.int .u64 0,au,au,.bool false,au,.bool false,aG,aG] 31);have hP:=aH.new w 31 #[.int .u64 0,.int .u64 0,au,au,.bool false,au,.bool false,aG,aG];have hrd:=fun(w2:World)(M:Nat)(hM:aH w2 M 31 #[.int .u64 0,.int .u64 0,au,au,.bool false,au,.bool false,aG,aG])=>Bj (w:=w2) (mb:=M) (J:=fun W=>aaN W w2.heap.size M (IP ⟨s,0,false⟩).1) (e':=(IP ⟨s,0,false⟩).2) (lb:= #[.pointer (some ⟨M,0,none⟩)]) hs (enters_of Tryz.func44 bo rfl) (fun W b rb hW hb hr hE=>Xq hE hs (hM.below hW hM.lt) hW.size hM.lt)
 have hcs:=LQ s;have IW:=fun u(hu:aW w u)=>env.below hu
 generalize(IP ⟨s,0,false⟩).2=e2 at*;generalize(IP ⟨s,0,false⟩).1=d at*;generalize(decide (s.size≤32768)&&tY e2)=OK at hcs hrd;generalize zG s=Q at hcs⊢;obtain⟨lk,HP,HB,HCs,Rf⟩:=eB hrd hP hz hcs IW;clear hcs IW hrd hP hz;go_enter Tryz.func10,Tryz.ntmps10;go_upto_region 1 with fail
 generalize w.alloc (.cells #[.int .u64 0,.int .u64 0,au,au,.bool false,au,.bool false,aG,aG] 31)=w1 at HP HB⊢;generalize hPw:w.heap.size=P at HP⊢;have kN:=ae hPw;clear hPw;have hb2:=boxed w1 (.cells #[.int .u64 0,.int .u64 0,au,au,.bool false,au,.bool false,aG,aG] 31);have HB2:=bg HB hb2;obtain⟨HP2,pF,EP⟩:=bz (bK HP hb2) (aH.new w1 31 #[.int .u64 0,.int .u64 0,au,au,.bool false,au,.bool false,aG,aG]) HP.out.lt;clear hb2;go_upto_region 2 with fail
 generalize w1.alloc (.cells #[.int .u64 0,.int .u64 0,au,au,.bool false,au,.bool false,aG,aG] 31)=w2 at HB2 HP2 pF⊢;generalize w1.heap.size=M at pF EP⊢;have CS:=ae (lk.out w2 M pF.out);have Re:ag (P<w2.heap.size):=ae (by have:=pF.out.lt;have:=EP.out;omega);clear lk;go_upto_if 10 with(go_at_call 43;refine CS.out.mono ?_;rintro r w3⟨rfl,j3,k3⟩;have gy:=ae (HP2.out.keep k3 (Nat.ne_of_lt EP.out));have HB3:=ae (HB2.out.trans (k3.below (B:=w.heap.size) (fun k hk=>by have:=kN.out;have:=EP.out;omega) HB2.out.size));have HJ3:=ae j3;clear j3 k3)
 have ge:w.heap.size≤P:=Nat.le_of_eq kN.out;have HGe:=ae ge;clear ge CS HB2 HP2 pF;rcases HCs.out with⟨e1,hd⟩|⟨e1,hok,hml,hd⟩
 ·have Hd:=ae hd;clear hd HCs Rf;rw[e1];clear e1;have fr:=fun i=>gy.out.frozen i
  obtain⟨x0,x1,x2,x3,x4,x5,x6,x7,x8⟩:=vw gy;go_wp2_with fail
  refine bodyPost_ret (bF rfl rfl rfl (kj (j5 gy.out (.int .u64 0) (.int .u64 0) au au (.bool false) au (.bool false) aG aG))) rfl ?_;rw[Hd.out];exact⟨⟨au,au,au,rfl,na _⟩,ru (P:=P) (Q:=fun u=>aW w u) (fun u i x h=>h.setCell (p:=⟨P,i,none⟩) HGe.out x) HB3.out (.int .u64 0) (.int .u64 0) au au (.bool false) au (.bool false) aG aG⟩
 ·obtain⟨fit,sz⟩:=adD hok;have hmay:=fun u sv gv rv(hu:aW w u)(hd:mK u d sv gv rv)=>BI (Rf.out u hu) hd fit sz (fun _=>by omega)
  have Hd:=ae hd;rw[e1];clear e1 hd HCs Rf hok fit sz hml;have aaO:=ae hmay;clear hmay;unfold aaN at HJ3;obtain⟨base,ver,ps,gs,hr,rs,hp,pol,hash⟩:=d;obtain⟨A1,c1,A2,c2,A3,c3,hB3,hO3,hG3,Ys⟩:=HJ3.out;simp only at hB3 hO3 hG3 Ys;have hdr:mK w3 ⟨base,ver,ps,gs,hr,rs,hp,pol,hash⟩ (.slice A1 ps.length c1) (.slice A2 gs.length c2) (.slice A3 rs.length c3):=⟨hO3.rd,a8.di hG3,a8.di Ys⟩;have IW:=aaO.out w3 _ _ _ HB3.out hdr;have hown:∀W,(cA W w2.heap.size (.slice A1 ps.length c1) ps∧W.ownsRow w2.heap.size 9 1 (.slice A2 gs.length c2) gs.length (strCells gs)∧W.ownsRow w2.heap.size 57 6 (.slice A3 rs.length c3) rs.length (dX rs))→mK W ⟨base,ver,ps,gs,hr,rs,hp,pol,hash⟩ (.slice A1 ps.length c1) (.slice A2 gs.length c2) (.slice A3 rs.length c3):=fun W h=>⟨h.1.rd,a8.di h.2.1,a8.di h.2.2⟩
  have hO:=And.intro hO3 (And.intro hG3 Ys);unfold eT at IW;simp only at IW;generalize jW ⟨base,ver,ps,gs,hr,rs,hp,pol,hash⟩=RE at IW Hd;obtain⟨n1,hn1⟩:=bw ps.length;obtain⟨n2,hn2⟩:=bw gs.length;obtain⟨n3,hn3⟩:=bw rs.length;rw[←hn1,←hn2,←hn3]at IW hB3 hown hO;obtain⟨Rf,mL,IK,HO⟩:=cU IW hB3 hown hO;clear IW hB3 hown hO hdr HJ3 aaO hO3 hG3 Ys hn1 hn2 hn3;obtain⟨x0,x1,x2,x3,x4,x5,x6,x7,x8⟩:=vw mL;go_upto_if 18 with(go_at_call 9;refine Rf.out.mono ?_;rintro r w4⟨⟨t,e,hte,rfl⟩,d4⟩;obtain⟨Hte,EM,tW⟩:=bz hte (bK mL d4) (bK gy d4);have HB4:=bg HB3 d4;have Bh:=ae (And.intro (HO.out.1.low d4) (And.intro (own_below HO.out.2.1 d4) (own_below HO.out.2.2 d4)));clear hte d4)
  clear x0 x1 x2 x3 x4 x5 x6 x7 x8 Rf mL gy HB3 HO;have fr:=fun i=>tW.out.frozen i
  obtain⟨z0,z1,z2,z3,z4,z5,z6,z7,z8⟩:=vw tW;by_cases hE:e=0
  ·have q:((e:Int) !=0)=false:=by simp[hE]
   have HE:=ae hE;clear hE;obtain⟨y0,y1,y2,y3,y4,y5,y6,y7,y8⟩:=vw EM;go_wp2_with fail
   refine bodyPost_ret (bF rfl rfl rfl (kj (j5 tW.out (.int .u64 base) (.int .u64 ver) (.slice A1 n1 c1) (.slice A2 n2 c2) (.bool hr) (.slice A3 n3 c3) (.bool hp) (.string pol) (.string hash)))) rfl ?_;rw[Hd.out,if_pos (by rw[←Hte.out];exact HE.out)];exact⟨⟨.slice A1 n1 c1,.slice A2 n2 c2,.slice A3 n3 c3,rfl,IK.out _ (ru (P:=P) (Q:=fun W=>cA W w2.heap.size (.slice A1 n1 c1) ps∧W.ownsRow w2.heap.size 9 1 (.slice A2 n2 c2) n2 (strCells gs)∧W.ownsRow w2.heap.size 57 6 (.slice A3 n3 c3) n3 (dX rs)) (fun u i x h=>⟨h.1.far (k:=i) (u:=x) Re.out,aV (k:=i) (u:=x) h.2.1 Re.out,aV (k:=i) (u:=x) h.2.2 Re.out⟩) Bh.out (.int .u64 base) (.int .u64 ver) (.slice A1 n1 c1) (.slice A2 n2 c2) (.bool hr) (.slice A3 n3 c3) (.bool hp) (.string pol) (.string hash))⟩,ru (P:=P) (Q:=fun u=>aW w u) (fun u i x h=>h.setCell (p:=⟨P,i,none⟩) HGe.out x) HB4.out (.int .u64 base) (.int .u64 ver) (.slice A1 n1 c1) (.slice A2 n2 c2) (.bool hr) (.slice A3 n3 c3) (.bool hp) (.string pol) (.string hash)⟩
  ·have q:((e:Int) !=0)=true:=by simp;omega
   have HE:=ae (show¬RE.2=0 by rw[←Hte.out];exact hE);clear hE;go_wp2_with fail
   refine bodyPost_ret (bF rfl rfl rfl (kj (j5 tW.out (.int .u64 0) (.int .u64 0) au au (.bool false) au (.bool false) aG aG))) rfl ?_;rw[Hd.out,if_neg HE.out,←Hte.out];exact⟨⟨au,au,au,rfl,na _⟩,ru (P:=P) (Q:=fun u=>aW w u) (fun u i x h=>h.setCell (p:=⟨P,i,none⟩) HGe.out x) HB4.out (.int .u64 0) (.int .u64 0) au au (.bool false) au (.bool false) aG aG⟩
theorem AtR.some_{l:List Pr}{key:ByteArray}{z:Int}(h:AtR l key z):(nK l key).isSome=decide (0≤z):=by
 rcases h with⟨rfl,h⟩|⟨k,hk,rfl,h⟩
 ·rw[h];rfl
 ·rw[h,decide_eq_true aR];rfl
theorem LV{w:World}{pv:Value}{ps:List Pr}{g:Nat}(hp:df w pv ps)(hl:ps.length≤4000000)(hg:w.cell? ⟨g,1,none⟩=some pv)(k:ByteArray):Calls ah 55 #[.string k,.pointer (some ⟨g,0,none⟩)] w (Got (.bool (nK ps k).isSome) w):=by
 have ha:=pK hp hl k;obtain⟨A,c,e⟩:=hp.shape;subst e;generalize ps.length=NS at*;have HA:=ae ha;clear ha hp hl;go_enter Tryz.func55,Tryz.ntmps55;go_wp2_with(go_at_call 23;refine HA.out.mono ?_;rintro r w2⟨⟨z,rfl,hz⟩,d2⟩;have HZ:=ae hz;clear hz)
 go_ret;exact⟨by rw[HZ.out.some_];rfl,d2⟩
theorem LW{w:World}{sv gv:Value}{d:Dl}{g:Nat}(hp:df w sv d.aM)(hgo:a8 w gv d.gone.length 1 (strCells d.gone))(hl:d.aM.length≤4000000)(hl2:d.gone.length≤4000000)(hg2:w.cell? ⟨g,2,none⟩=some sv)(hg3:w.cell? ⟨g,3,none⟩=some gv)(key:ByteArray)(c1 c2 c3 c4 c5 c6 c7:Value){p:Pr}(hk:p.key=key):Calls ah 58 #[.agg #[.string key,c1,c2,c3,c4,c5,c6,c7],.pointer (some ⟨g,0,none⟩)] w (Got (.bool (!stays d p)) w):=by
 have ha:=fun u(hu:aW w u)=>pK (hp.below hu) hl key
 have hc:=fun u(hu:aW w u)=>ZV d.gone hl2 (hgo.below hu) key
 have hR:(!stays d p)=((d.gone.any fun y=>decide (y=key))||(nK d.aM key).isSome):=by
  unfold stays;rw[hk];cases(d.gone.any fun y=>decide (y=key))<;>cases nK d.aM key<;>rfl
 rw[hR];obtain⟨A,c,e⟩:=hp.shape;obtain⟨A2,cc2,e2⟩:=hgo.shape;subst e e2;generalize d.aM.length=NS at*;generalize d.gone.length=NG at*;generalize(d.gone.any fun y=>decide (y=key))=GA at hc⊢;have hb:=boxed w (.cells #[.string key,c1,c2,c3,c4,c5,c6,c7] 47);have HS:=ae (aH.new w 47 #[.string key,c1,c2,c3,c4,c5,c6,c7]);have g2:=ai hg2 hb;have g3:=ai hg3 hb;obtain⟨HB,HA,HC⟩:=bz hb ha hc;clear ha hc hp hgo hl hl2 hg2 hg3 hb hR hk;go_enter Tryz.func58,Tryz.ntmps58;go_upto_region 1 with fail
 generalize w.alloc (.cells #[.string key,c1,c2,c3,c4,c5,c6,c7] 47)=w1 at HB HS g2 g3⊢;generalize w.heap.size=G at HS⊢;have s0:=HS.out.cell 0;simp at s0;cases GA with
 |true=>
  go_wp2_with(go_at_call 59;refine(HC.out _ HB.out).mono ?_;rintro r w2⟨rfl,d2⟩)
  go_ret;exact⟨by simp,after HB.out d2⟩
 |false=>
  go_wp2_with(first
   |(go_at_call 59;refine(HC.out _ HB.out).mono ?_;rintro r w2⟨rfl,d2⟩;have HB2:=bg HB d2;have HS2:=ae (bK HS d2);have g2:=ai g2 d2;have s0:=HS2.out.cell 0;simp at s0;clear d2)
   |(go_at_call 23;refine(HA.out _ HB2.out).mono ?_;rintro r w3⟨⟨z,rfl,hz⟩,d3⟩;have HZ:=ae hz;clear hz))
  go_ret;exact⟨by rw[HZ.out.some_];simp,after HB2.out d3⟩
def Grew(w w':World):Prop:=∃(q:Nat)(os:Array Obj),w'=Sort.grow (w.drewN q) os
theorem Grew.below{w w':World}(h:Grew w w'):aW w w':=by
 obtain⟨q,os,rfl⟩:=h;exact⟨rfl,rfl,rfl,by simp[Sort.grow,World.drewN],fun k hk=>by simp[Sort.grow,World.drewN,Array.getElem?_append,hk]⟩
theorem Grew.alloc(w:World)(o:Obj):Grew w (w.alloc o):=⟨0,#[o],by rw[Sort.alloc_eq_grow];rfl⟩
theorem Grew.trans{a b c:World}(h:Grew a b)(k:Grew b c):Grew a c:=by
 obtain⟨q,os,rfl⟩:=h;obtain⟨q',os',rfl⟩:=k;exact⟨q+q',os++os',by simp[Sort.grow,World.drewN,jh,Array.append_assoc]⟩
theorem Xr(w:World)(o o':Obj):Grew w ((w.alloc o).alloc o'):=(Grew.alloc w o).trans (Grew.alloc _ o')
def ag5(v:Value)(w:World)(r:Ending)(w':World):Prop:=r=.returned v∧Grew w w'
section
variable{α:Type}(t:α→α→Bool)(j:α→α→α)
end
def BJ(xs:List Value)(j:Nat):List Value→List Value
 |[]=>xs
 |v::r=>BJ (xs.set j v) (j+1) r
theorem Ih:∀(vs:List Value)(xs:List Value)(j t:Nat),(BJ xs j vs)[t]? =if j≤t∧t<j+vs.length∧t<xs.length then vs[t-j]? else xs[t]? :=by
 intro vs
 induction vs with
 |nil=>
  intro xs j t;rw[if_neg (by simp;omega)];rfl
 |cons v r ih=>
  intro xs j t;rw[BJ,ih,List.length_set,bP];by_cases h1:t=j
  ·subst h1;rw[if_neg aR];by_cases h2:t<xs.length
   ·rw[List.getElem?_set_self h2,if_pos ⟨Nat.le_refl _,by omega,h2⟩,Nat.sub_self];rfl
   ·rw[if_neg aR,ux (by rw[List.length_set];omega),ux aR]
  ·rw[List.getElem?_set_ne (Ne.symm h1)];by_cases h2:j+1≤t∧t<j+1+r.length∧t<xs.length
   ·rw[if_pos h2,if_pos ⟨by omega,by omega,h2.2.2⟩,show t-j=(t-(j+1))+1 by omega];rfl
   ·rw[if_neg h2,if_neg aR]
theorem Sr{α:Type}(enc:α→List Value)(k:Nat)(hk:∀x,(enc x).length=k)(hk0:0<k)(l:List α){i:Nat}(hi:i<l.length)(x:α):BJ (l.flatMap enc) (i*k) (enc x)=(l.set i x).flatMap enc:=by
 have hlen:∀l:List α,(l.flatMap enc).length=l.length*k:=by
  intro l
  induction l with
  |nil=>simp
  |cons y r ih=>rw[List.flatMap_cons,aj,ih,hk,bP,Nat.succ_mul,Nat.add_comm]
 have hb:i*k+k≤l.length*k:=by
  have:=Nat.mul_le_mul_right k (show i+1≤l.length from hi);rw[Nat.succ_mul]at this;exact this
 apply List.ext_getElem?;intro t;rw[Ih,hk,hlen];by_cases ht:t<l.length*k
 ·have hq:t/k<l.length:=(Nat.div_lt_iff_lt_mul hk0).2 ht;have hr:t%k<k:=Nat.mod_lt _ hk0;have hdm:t/k*k+t%k=t:=by rw[Nat.mul_comm];exact Nat.div_add_mod t k
  have key:∀(m:List α)(y:α),m[t/k]? =some y→(m.flatMap enc)[t]? =(enc y)[t%k]? :=by
   intro m y hy;have h1:=aD enc k hk hy (af (show t%k<(enc y).length by rw[hk];exact hr));rw[hdm]at h1;rw[h1];exact(af (show t%k<(enc y).length by rw[hk];exact hr)).symm
  by_cases hti:t/k=i
  ·have h2:i*k≤t∧t<i*k+k∧t<l.length*k:=by rw[←hti];exact⟨by omega,by omega,ht⟩
   rw[if_pos h2,key (l.set i x) x (by rw[hti];exact List.getElem?_set_self hi)];congr 1;rw[←hti];omega
  ·have h2:¬(i*k≤t∧t<i*k+k∧t<l.length*k):=by
    rintro⟨h3,h4,_⟩;apply hti;exact Nat.div_eq_of_lt_le (by rw[Nat.mul_comm]at h3⊢;exact(by rw[Nat.mul_comm];rw[Nat.mul_comm]at h3;exact h3)) (by rw[Nat.succ_mul];exact h4)
   rw[if_neg h2,key l _ (af hq),key (l.set i x) l[t/k] (by rw[List.getElem?_set_ne (Ne.symm hti)];exact af hq)]
 ·rw[if_neg aR,ux (by rw[hlen];omega),ux (by rw[hlen,List.length_set];omega)]
theorem Ii{base g cap n size:Nat}{e:TypeId}:∀(vs:List Value)(w:World)(j:Nat)(xs:List Value),w.ownsRow base e size (.slice (some ⟨g,0,none⟩) n cap) n xs→(w.setCells g j vs).ownsRow base e size (.slice (some ⟨g,0,none⟩) n cap) n (BJ xs j vs):=by
 intro vs
 induction vs with
 |nil=>intro w j xs h;exact h
 |cons v r ih=>intro w j xs h;exact ih _ _ _ (World.ownsRow.stored h j v).1
theorem uq{w:World}{base n cap size:Nat}{A:Option Addr}{e:TypeId}{xs:List Value}(h:w.ownsRow base e size (.slice A n cap) n xs)(hn:0<n):∃g,A=some ⟨g,0,none⟩∧base≤g∧g<w.heap.size∧∀j u,xs[j]? =some u→w.cell? ⟨g,j,none⟩=some u:=by
 have h0:=h;rcases h.2 with⟨e0,e1⟩|⟨g,cap',cur,e0,hb,hg,_⟩
 ·omega
 ·injection e0 with e0 e2 e3
  subst e0;refine⟨g,rfl,hb,(Array.getElem?_eq_some_iff.1 hg).1,fun j u hu=>?_⟩;have hj:=(List.getElem?_eq_some_iff.1 hu).1;rw[h0.1]at hj;rw[World.ownsRow.cellAt h0 j hj];exact hu
def Oe(l:List Sp):List Value:=l.flatMap fun s=>s.cells.toList
end Go.Proofs.YtkjaajcpbldjoabGreatDoor
