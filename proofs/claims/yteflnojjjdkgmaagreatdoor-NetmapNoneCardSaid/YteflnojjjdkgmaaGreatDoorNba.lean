/- Joined out of: EqD RuC MtA WoA NlA NlQ NlD NnA. -/
import Derived.Test.YteflnojjjdkgmaaGreatDoorNaz
set_option linter.unusedVariables false
set_option linter.unusedSimpArgs false
set_option maxHeartbeats 16000000
set_option maxRecDepth 100000
open Bool renaming true_and→bH,false_and→IL
open Go.Lib renaming hid→ae
open Go.Proofs.Tryz renaming prog→ag
open Go.RowKit.Below renaming refl→aG
open List renaming length_map→ax,replicate→aH,length_replicate→j5,mem_map_of_mem→aeE
open Nat renaming le_refl→aw
namespace Go.Proofs.YteflnojjjdkgmaaGreatDoor
open Go.RowKit
attribute [local go_sem↓] Go.wp_at_zero Go.wp_at_succ
theorem ac7(x y:Mp):decide (x=y)=(((x.version:Int)==(y.version:Int))&&((x.policy.toList==y.policy.toList)&&(decide (x.aK=y.aK)&&decide (x.aB=y.aB)))):=by
 obtain⟨a,b,c,d⟩:=x;obtain⟨a',b',c',d'⟩:=y;rw[Bool.eq_iff_iff];simp only[Bool.and_eq_true,beq_iff_eq,decide_eq_true_eq,Mp.mk.injEq];constructor
 ·rintro⟨rfl,rfl,rfl,rfl⟩;exact⟨rfl,rfl,rfl,rfl⟩
 ·rintro⟨h1,h2,h3,h4⟩;exact⟨by omega,h3,h4,toList_inj h2⟩
theorem dZ.open_{w:World}{v:Value}{l:List Pr}(h:dZ w v l):∃xs:List bN,xs.map (·.p)=l∧xs.length=l.length∧aW w v xs.length 8 (cD xs)∧∀X∈xs,gJ w X:=by
 obtain⟨xs,h1,h2,h3⟩:=h;exact⟨xs,h1,by rw[←h1,ax],h2,h3⟩
theorem yB{w:World}{pv1 rv1 pv2 rv2:Value}{x y:Mp}(hp1:dZ w pv1 x.aK)(hr1:gQ w rv1 x.aB)(hp2:dZ w pv2 y.aK)(hr2:gQ w rv2 y.aB)(s1:∀p∈x.aK,j9 p)(s2:∀p∈y.aK,j9 p)(l1:x.aK.length≤4000000)(l2:y.aK.length≤4000000)(m1:x.aB.length≤4000000)(m2:y.aB.length≤4000000):Calls ag 17 #[.agg #[.int .u64 (x.version:Int),pv1,rv1,.string x.policy],.agg #[.int .u64 (y.version:Int),pv2,rv2,.string y.policy]] w (Got (.bool (decide (x=y))) w):=by
 have hre:=fun u(hu:Below w.heap.size w u)=>DX x.aB y.aB m1 m2 (aW.below hr1 hu) (aW.below hr2 hu)
 obtain⟨xs,e1,le1,ro1,me1⟩:=hp1.open_;obtain⟨ys,e2,le2,ro2,me2⟩:=hp2.open_;have hpe:=fun u(hu:Below w.heap.size w u)=>TX xs ys aM aM (ro1.below hu) (ro2.below hu) (fun X hX=>(me1 X hX).below hu) (fun Y hY=>(me2 Y hY).below hu) (fun X Y=>decide (X.p=Y.p)) 45 (enters_of Tryz.func45 bg rfl) fun W hW X hX Y hY=>qJ (((me1 X hX).below hu).below hW) (((me2 Y hY).below hu).below hW) (s1 _ (by rw[←e1];exact aeE hX)) (s2 _ (by rw[←e2];exact aeE hY))
 rw[aaY,e1,e2]at hpe;obtain⟨jo,c11,e11⟩:=hp1.shape;obtain⟨jq,c12,e12⟩:=aW.shape hr1;obtain⟨jU,c21,e21⟩:=hp2.shape;obtain⟨jV,jW,e22⟩:=aW.shape hr2;clear hp1 hp2 hr1 hr2 s1 s2 l1 l2 m1 m2 e1 e2 le1 le2 ro1 ro2 me1 me2;rw[ac7];obtain⟨tA,TY,JM,tB⟩:=x;obtain⟨xG,T0,JO,xH⟩:=y;simp only at*;subst e11 e12 e21 e22;generalize decide (TY=T0)=BP at*;generalize decide (JM=JO)=BR at*;generalize TY.length=n11 at*;generalize JM.length=n12 at*;generalize T0.length=n21 at*;generalize JO.length=n22 at*;obtain⟨HP,HR,lF,HB1⟩:=cH hpe hre (aD.new w 33 #[.int .u64 tA,.slice jo n11 c11,.slice jq n12 c12,.string tB]) (boxed w (.cells #[.int .u64 tA,.slice jo n11 c11,.slice jq n12 c12,.string tB] 33));clear hpe hre;obtain⟨HB2,bC⟩:=aI (after HB1.out (boxed (w.alloc (.cells #[.int .u64 tA,.slice jo n11 c11,.slice jq n12 c12,.string tB] 33)) (.cells #[.int .u64 xG,.slice jU n21 c21,.slice jV n22 jW,.string xH] 33))) (lF.out.below (boxed (w.alloc (.cells #[.int .u64 tA,.slice jo n11 c11,.slice jq n12 c12,.string tB] 33)) (.cells #[.int .u64 xG,.slice jU n21 c21,.slice jV n22 jW,.string xH] 33)) lF.out.lt);have hP2:aD ((w.alloc (.cells #[.int .u64 tA,.slice jo n11 c11,.slice jq n12 c12,.string tB] 33)).alloc (.cells #[.int .u64 xG,.slice jU n21 c21,.slice jV n22 jW,.string xH] 33)) (w.heap.size+1) 33 #[.int .u64 xG,.slice jU n21 c21,.slice jV n22 jW,.string xH]:=by
  have:=aD.new (w.alloc (.cells #[.int .u64 tA,.slice jo n11 c11,.slice jq n12 c12,.string tB] 33)) 33 #[.int .u64 xG,.slice jU n21 c21,.slice jV n22 jW,.string xH];rw[show(w.alloc (.cells #[.int .u64 tA,.slice jo n11 c11,.slice jq n12 c12,.string tB] 33)).heap.size=w.heap.size+1 by simp]at this;exact this
 have HP2:=ae hP2;clear hP2 lF HB1;cases hb0:((tA:Int)==(xG:Int))with
 |false=>
  simp only[IL];go_enter Tryz.func17,Tryz.ntmps17;go_upto_region 1 with fail
  generalize(w.alloc (.cells #[.int .u64 tA,.slice jo n11 c11,.slice jq n12 c12,.string tB] 33)).alloc (.cells #[.int .u64 xG,.slice jU n21 c21,.slice jV n22 jW,.string xH] 33)=w2 at HB2 bC HP2⊢;generalize w.heap.size+1=Q at HP2⊢;generalize hPw:w.heap.size=P at bC⊢;have kf:=ae hPw;clear hPw;have x0:=bC.out.cell 0;have x1:=bC.out.cell 1;have x2:=bC.out.cell 2;have x3:=bC.out.cell 3;have y0:=HP2.out.cell 0;have y1:=HP2.out.cell 1;have y2:=HP2.out.cell 2;have y3:=HP2.out.cell 3;simp at x0 x1 x2 x3 y0 y1 y2 y3;go_wp2_with fail
  go_ret;exact⟨rfl,HB2.out⟩
 |true=>
  cases hb1:(tB.toList==xH.toList)with
  |false=>
   simp only[IL,bH];go_enter Tryz.func17,Tryz.ntmps17;go_upto_region 1 with fail
   generalize(w.alloc (.cells #[.int .u64 tA,.slice jo n11 c11,.slice jq n12 c12,.string tB] 33)).alloc (.cells #[.int .u64 xG,.slice jU n21 c21,.slice jV n22 jW,.string xH] 33)=w2 at HB2 bC HP2⊢;generalize w.heap.size+1=Q at HP2⊢;generalize hPw:w.heap.size=P at bC⊢;have kf:=ae hPw;clear hPw;have x0:=bC.out.cell 0;have x1:=bC.out.cell 1;have x2:=bC.out.cell 2;have x3:=bC.out.cell 3;have y0:=HP2.out.cell 0;have y1:=HP2.out.cell 1;have y2:=HP2.out.cell 2;have y3:=HP2.out.cell 3;simp at x0 x1 x2 x3 y0 y1 y2 y3;go_wp2_with fail
   go_ret;exact⟨rfl,HB2.out⟩
  |true=>
   simp only[bH];cases BP with
   |false=>
    simp only[IL];go_enter Tryz.func17,Tryz.ntmps17;go_upto_region 1 with fail
    generalize(w.alloc (.cells #[.int .u64 tA,.slice jo n11 c11,.slice jq n12 c12,.string tB] 33)).alloc (.cells #[.int .u64 xG,.slice jU n21 c21,.slice jV n22 jW,.string xH] 33)=w2 at HB2 bC HP2⊢;generalize w.heap.size+1=Q at HP2⊢;generalize hPw:w.heap.size=P at bC⊢;have kf:=ae hPw;clear hPw;have x0:=bC.out.cell 0;have x1:=bC.out.cell 1;have x2:=bC.out.cell 2;have x3:=bC.out.cell 3;have y0:=HP2.out.cell 0;have y1:=HP2.out.cell 1;have y2:=HP2.out.cell 2;have y3:=HP2.out.cell 3;simp at x0 x1 x2 x3 y0 y1 y2 y3;go_wp2_with(first
     |(go_at_call 61;(with_reducible refine(HP.out _ HB2.out).mono ?_);rintro r w3⟨rfl,d3⟩;have px2:=ak x2 d3;have py2:=ak y2 d3;have HB3:=aU HB2 d3;clear d3))
    go_ret;exact⟨rfl,HB3.out⟩
   |true=>
    simp only[bH];go_enter Tryz.func17,Tryz.ntmps17;go_upto_region 1 with fail
    generalize(w.alloc (.cells #[.int .u64 tA,.slice jo n11 c11,.slice jq n12 c12,.string tB] 33)).alloc (.cells #[.int .u64 xG,.slice jU n21 c21,.slice jV n22 jW,.string xH] 33)=w2 at HB2 bC HP2⊢;generalize w.heap.size+1=Q at HP2⊢;generalize hPw:w.heap.size=P at bC⊢;have kf:=ae hPw;clear hPw;have x0:=bC.out.cell 0;have x1:=bC.out.cell 1;have x2:=bC.out.cell 2;have x3:=bC.out.cell 3;have y0:=HP2.out.cell 0;have y1:=HP2.out.cell 1;have y2:=HP2.out.cell 2;have y3:=HP2.out.cell 3;simp at x0 x1 x2 x3 y0 y1 y2 y3;go_wp2_with(first
     |(go_at_call 61;(with_reducible refine(HP.out _ HB2.out).mono ?_);rintro r w3⟨rfl,d3⟩;have px2:=ak x2 d3;have py2:=ak y2 d3;have HB3:=aU HB2 d3;clear d3)
     |(go_at_call 47;(with_reducible refine(HR.out _ HB3.out).mono ?_);rintro r w4⟨rfl,d4⟩;have HB4:=aU HB3 d4;clear d4))
    go_ret;exact⟨rfl,HB4.out⟩
structure Rl where
 gu:List Nat
 src:List Sp
 dst:List Sp
 iz:List (Nat×Nat)
structure RlV where
 r:Rl
 p:Value
 s:Value
 d:Value
 o:Value
def aaZ(x:RlV):List Value:=[x.p,x.s,x.d,x.o]
def XI(l:List RlV):List Value:=l.flatMap aaZ
structure ac8(r:Rl):Prop where
 p:r.gu.length≤4000000
 s:r.src.length≤4000000
 d:r.dst.length≤4000000
 o:r.iz.length≤4000000
 src:∀x∈r.src,x.Ok
 dst:∀x∈r.dst,x.Ok
structure JP(w:World)(x:RlV):Prop where
 p:aW w x.p x.r.gu.length 1 (dQ x.r.gu)
 s:aW w x.s x.r.src.length 6 (JJ x.r.src)
 d:aW w x.d x.r.dst.length 6 (JJ x.r.dst)
 o:aW w x.o x.r.iz.length 2 (gG x.r.iz)
theorem JP.below{w w':World}{x:RlV}(h:JP w x)(hb:Below w.heap.size w w'):JP w' x:=⟨h.p.below hb,h.s.below hb,h.d.below hb,h.o.below hb⟩
def T8(w:World)(v:Value)(rs:List Rl):Prop:=∃xs:List RlV,xs.map (·.r)=rs∧aW w v xs.length 4 (XI xs)∧(∀x∈xs,JP w x)∧∀r∈rs,ac8 r
theorem T8.below{w w':World}{v:Value}{rs:List Rl}(h:T8 w v rs)(hb:Below w.heap.size w w'):T8 w' v rs:=by
 obtain⟨xs,h1,h2,h3,h4⟩:=h;exact⟨xs,h1,h2.below hb,fun x hx=>(h3 x hx).below hb,h4⟩
theorem T8.shape{w:World}{v:Value}{rs:List Rl}(h:T8 w v rs):∃A c,v=.slice A rs.length c:=by
 obtain⟨xs,h1,h2,_⟩:=h;have:=h2.shape;rw[←h1,ax];exact this
attribute [local go_sem] dB
theorem vX{w:World}{g:Nat}{t:TypeId}{cs:Array Value}{n size c:Nat}(h:aD w g t cs)(hl:cs.toList.length=n*size):aW w (.slice (some ⟨g,0,none⟩) n c) n size cs.toList:=by
 refine⟨some ⟨g,0,none⟩,c,rfl,hl,fun _=>⟨g,0,rfl,fun j u hu=>?_⟩⟩;rw[Nat.zero_add];have:=h.cell j;rw[this,←Array.getElem?_toList];exact hu
def T9:ByteArray:=⟨#[97,110,110]⟩
def Ua:ByteArray:=⟨#[119,101,98]⟩
def ac9:ByteArray:=⟨#[98,111,98]⟩
def wkA:Ad:=⟨false,0,167772161⟩
def wkB:Ad:=⟨false,0,167772162⟩
def aes:Ac:=⟨[6],[⟨2,T9,Pf.zero⟩],[⟨4,Ua,Pf.zero⟩],[(80,80)]⟩
def wkP:Po:=⟨[],[⟨Ua,[T9]⟩],[],[aes]⟩
def wkL:List Pe:=[⟨T9,[],[wkA]⟩,⟨ac9,[Ua],[wkB]⟩]
def Ub(w:World)(g3 g8 g13:Nat):Prop:=tq w ⟨.slice none 0 0,.slice (some ⟨g3,0,none⟩) 1 1,.slice none 0 0,.slice (some ⟨g8,0,none⟩) 1 1⟩ wkP∧L6 w (.slice (some ⟨g13,0,none⟩) 2 2) wkL
theorem Ub.below{w u:World}{g3 g8 g13:Nat}(h:Ub w g3 g8 g13)(hb:Below w.heap.size w u):Ub u g3 g8 g13:=⟨h.1.below hb,h.2.below hb⟩
def Iz:ByteArray:=⟨(aH 32 (0:UInt8)).toArray⟩
def vY:ByteArray:=⟨#[97,99,99,101,112,116,32,97,110,121,32,102,114,111,109,32,42,32,116,111,32,42]⟩
def lC(u:ByteArray):Pr:=⟨Iz,Iz,u,[],[⟨false,0,167772161⟩],9,0,[]⟩
def ey(v:Nat)(u:ByteArray):Mp:=⟨v,[lC u],[],vY⟩
def lD:Array Value:=(aH 32 (Value.int .u8 0)).toArray
theorem Uc{W:World}{g:Nat}{t:TypeId}(h:aD W g t lD):(convert 67 9 (.slice (some ⟨g,0,none⟩) 32 32)).run ag W=.ok (.string Iz) W:=by
 have hback:=run_convert_bytes_back (P:=ag) W 67 9 5 ⟨g,0,none⟩ 32 (aH 32 (0:UInt8)) Tryz.underlying67 Tryz.underlying5 Tryz.underlying9 (fun j hj=>by
  rw[j5]at hj;rw[JC,h.cell j];unfold lD;rw[List.getElem?_toArray,List.getElem?_replicate,if_pos hj];have e:(aH 32 (0:UInt8))[j]'(by rw[j5];exact hj)=0:=List.getElem_replicate ..;rw[e];rfl)
 rw[j5]at hback;exact hback
theorem one_any(w:World)(v:Nat)(u:ByteArray):Calls ag 11 #[.int .u64 v,.string u] w fun r w'=>(∃A c,r=.returned (.agg #[.int .u64 v,.slice A 1 c,.slice none 0 0,.string vY])∧dZ w' (.slice A 1 c) (ey v u).aK)∧Below w.heap.size w w':=by
 have hb0:=boxed w (.cells #[.int .u64 0,.slice none 0 0,.slice none 0 0,.string ⟨#[]⟩] 33);have hR0:=aD.new w 33 #[.int .u64 0,.slice none 0 0,.slice none 0 0,.string ⟨#[]⟩];obtain⟨HB0,HR0⟩:=aI hb0 hR0;clear hb0 hR0;rw[show vY=⟨#[97,99,99,101,112,116,32,97,110,121,32,102,114,111,109,32,42,32,116,111,32,42]⟩from rfl];go_enter Tryz.func11,Tryz.ntmps11;go_upto_region 1 with fail
 have HRl:=ae HR0.out.lt;generalize w.alloc (.cells #[.int .u64 0,.slice none 0 0,.slice none 0 0,.string ⟨#[]⟩] 33)=w1 at HB0 HR0 HRl⊢;have hRw:RowKit.Hid (w.heap.size≤w.heap.size):=ae (aw _);have hmk:∀W:World,(Instr.makeSlice 67 (.int .i64 32) (.int .i64 32)).run ag W=.ok (.slice (some ⟨W.heap.size,0,none⟩) 32 32) (W.alloc (.cells lD 5)):=fun W=>by kernel_rfl
 have hz0:=Uc (aD.new w1 5 lD);have hbz:=boxed w1 (.cells lD 5);have HB1:=aU HB0 hbz;have HR1:=ae (HR0.out.below hbz HR0.out.lt);clear hbz;generalize lD=Z at hmk hz0 HB1 HR1;go_upto_region 2 with fail
 clear hmk hz0 HB0 HR0 HRl;generalize w1.alloc (.cells Z 5)=w2 at HB1 HR1⊢;generalize hzk:Iz=zk;have HZk:=ae hzk.symm;clear hzk;have k1:=boxed w2 (.cells #[.bool false,.int .u64 0,.int .u64 167772161] 54);have k2:=boxed (w2.alloc (.cells #[.bool false,.int .u64 0,.int .u64 167772161] 54)) (.cells #[.string zk,.string zk,.string u,.slice none 0 0,.slice (some ⟨w2.heap.size,0,none⟩) 1 1,.int .u64 9,.int .u8 0,.slice none 0 0] 50);have hA:=(aD.new w2 54 #[.bool false,.int .u64 0,.int .u64 167772161]).below k2 (aD.new w2 54 #[.bool false,.int .u64 0,.int .u64 167772161]).lt;have hP:=aD.new (w2.alloc (.cells #[.bool false,.int .u64 0,.int .u64 167772161] 54)) 50 #[.string zk,.string zk,.string u,.slice none 0 0,.slice (some ⟨w2.heap.size,0,none⟩) 1 1,.int .u64 9,.int .u8 0,.slice none 0 0];rw[show(w2.alloc (.cells #[.bool false,.int .u64 0,.int .u64 167772161] 54)).heap.size=w2.heap.size+1 by simp]at hP;have gk:=(HR1.out.below k1 HR1.out.lt).below k2 (HR1.out.below k1 HR1.out.lt).lt;have HB3:=ae (after (after HB1.out k1) k2);have hne1:w2.heap.size≠w.heap.size:=by have:=HR1.out.lt;omega
 have hne2:w2.heap.size+1≠w.heap.size:=by have:=HR1.out.lt;omega
 have r0:=gk.cell 0;have r1:=gk.cell 1;have r2:=gk.cell 2;have r3:=gk.cell 3;simp at r0 r1 r2 r3;have fr:=fun i=>gk.frozen i
 obtain⟨HA,HP,HR3,HNe⟩:=cH hA hP gk (And.intro hne1 hne2);clear k1 k2 hA hP gk hne1 hne2 HB1 HR1;go_wp2_with fail
 obtain⟨s9,q9⟩:=iu HR3.out HB3.out (aw _) (.int .u64 v) (.slice (some ⟨w2.heap.size+1,0,none⟩) 1 1) (.slice none 0 0) (.string ⟨#[97,99,99,101,112,116,32,97,110,121,32,102,114,111,109,32,42,32,116,111,32,42]⟩);have z9:=TW (P:=w.heap.size) (Q:=fun W=>aD W w2.heap.size 54 #[.bool false,.int .u64 0,.int .u64 167772161]∧aD W (w2.heap.size+1) 50 #[.string zk,.string zk,.string u,.slice none 0 0,.slice (some ⟨w2.heap.size,0,none⟩) 1 1,.int .u64 9,.int .u8 0,.slice none 0 0]) (fun W i x hq=>⟨hq.1.far (p:=⟨w.heap.size,i,none⟩) HNe.out.1 x,hq.2.far (p:=⟨w.heap.size,i,none⟩) HNe.out.2 x⟩) ⟨HA.out,HP.out⟩ (.int .u64 v) (.slice (some ⟨w2.heap.size+1,0,none⟩) 1 1) (.slice none 0 0) (.string ⟨#[97,99,99,101,112,116,32,97,110,121,32,102,114,111,109,32,42,32,116,111,32,42]⟩);have hrd:dZ ((((((w2.alloc (.cells #[.bool false,.int .u64 0,.int .u64 167772161] 54)).alloc (.cells #[.string zk,.string zk,.string u,.slice none 0 0,.slice (some ⟨w2.heap.size,0,none⟩) 1 1,.int .u64 9,.int .u8 0,.slice none 0 0] 50)).setCell ⟨w.heap.size,0,none⟩ (.int .u64 v)).setCell ⟨w.heap.size,1,none⟩ (.slice (some ⟨w2.heap.size+1,0,none⟩) 1 1)).setCell ⟨w.heap.size,2,none⟩ (.slice none 0 0)).setCell ⟨w.heap.size,3,none⟩ (.string ⟨#[97,99,99,101,112,116,32,97,110,121,32,102,114,111,109,32,42,32,116,111,32,42]⟩)) (.slice (some ⟨w2.heap.size+1,0,none⟩) 1 1) [lC u]:=by
  generalize((((((w2.alloc (.cells #[.bool false,.int .u64 0,.int .u64 167772161] 54)).alloc (.cells #[.string zk,.string zk,.string u,.slice none 0 0,.slice (some ⟨w2.heap.size,0,none⟩) 1 1,.int .u64 9,.int .u8 0,.slice none 0 0] 50)).setCell ⟨w.heap.size,0,none⟩ (.int .u64 v)).setCell ⟨w.heap.size,1,none⟩ (.slice (some ⟨w2.heap.size+1,0,none⟩) 1 1)).setCell ⟨w.heap.size,2,none⟩ (.slice none 0 0)).setCell ⟨w.heap.size,3,none⟩ (.string ⟨#[97,99,99,101,112,116,32,97,110,121,32,102,114,111,109,32,42,32,116,111,32,42]⟩))=W at z9⊢;rw[HZk.out]at z9;have e:cD [⟨lC u,.slice none 0 0,.slice (some ⟨w2.heap.size,0,none⟩) 1 1,.slice none 0 0⟩]=(#[.string Iz,.string Iz,.string u,.slice none 0 0,.slice (some ⟨w2.heap.size,0,none⟩) 1 1,.int .u64 9,.int .u8 0,.slice none 0 0]:Array Value).toList:=rfl;have e2:cO (lC u).aJ=(#[.bool false,.int .u64 0,.int .u64 167772161]:Array Value).toList:=rfl;refine⟨[⟨lC u,.slice none 0 0,.slice (some ⟨w2.heap.size,0,none⟩) 1 1,.slice none 0 0⟩],rfl,?_,fun X hX=>?_⟩
  ·rw[e];exact vX (n:=1) (size:=8) (c:=1) z9.2 rfl
  ·rw[List.mem_singleton.1 hX];refine⟨qG _ 1,?_,qG _ 4⟩;show aW W _ 1 3 (cO (lC u).aJ);rw[e2];exact vX (n:=1) (size:=3) (c:=1) z9.1 rfl
 exact bodyPost_ret (eV (x:=4) rfl rfl (fR s9)) rfl ⟨⟨some ⟨w2.heap.size+1,0,none⟩,1,rfl,hrd⟩,q9⟩
theorem Ud{H:Mp→ByteArray}{a b:Mp}(fa:kr a)(fb:kr b):Jl (du H a b):=by
 refine⟨fa.version,fb.version,fun p hp=>fb.aK p (List.mem_filter.1 hp).1,fun r hr=>?_⟩;have hr':r∈(if a.aB≠b.aB then b.aB else []):=hr;split at hr'
 ·exact fb.aB r hr'
 ·cases hr'
def ann:ByteArray:=⟨#[97,110,110]⟩
def qM:ByteArray:=⟨#[98,111,98]⟩
theorem ky(v:Nat)(u:ByteArray)(hv:v<18446744073709551616):kr (ey v u):=by
 refine⟨hv,fun p hp=>?_,fun r hr=>by cases hr⟩;rw[List.mem_singleton.1 (show p∈[lC u]from hp)];exact⟨by show(9:Nat)<_;decide,by show(0:Nat)<_;decide,fun a ha=>by rw[List.mem_singleton.1 (show a∈[(⟨false,0,167772161⟩:Ad)]from ha)];exact⟨by decide,by decide⟩,fun e he=>by cases he⟩
theorem j4(v:Nat)(u:ByteArray)(hu:u.size≤2000000):TC (ey v u):=by
 refine⟨fun p hp=>?_,by show 1≤_;decide,by show 0≤_;decide,by show vY.size≤_;decide,tZ⟩;rw[List.mem_singleton.1 (show p∈[lC u]from hp)];exact⟨hu,by show 0≤_;decide,by show 1≤_;decide,by show 0≤_;decide,fun t ht=>by cases ht⟩
theorem sZ:(cK (ey 1 ann)).2=0:=by decide+kernel
theorem JQ:(cK (ey 2 qM)).2=0:=by decide+kernel
theorem aa0:xg (cK (ey 1 ann)).1=(ey 1 ann,0):=Wj (YF (ky 1 ann aF) (nZ sZ)) sZ
theorem XJ:lk cG (ey 1 ann) (ey 2 qM)=(du cG (ey 1 ann) (ey 2 qM),0):=by
 unfold lk;rw[if_neg (by rw[sZ];decide),if_neg (by rw[JQ];decide),if_neg aF]
theorem JR(m:Mp)(h:(cK m).2=0):(cG m).size=32:=by
 unfold cG;rw[if_pos h,DL]
theorem Ue:ik cG (ey 1 ann) (du cG (ey 1 ann) (ey 2 qM))=(ey 2 qM,0):=MR sZ JQ aF (JR _ JQ)
theorem Oa:cS (ey 1 ann) (du cG (ey 1 ann) (ey 2 qM))=ey 2 qM:=vl (nZ sZ) (nZ JQ)
theorem aa1:(ey 2 qM).aK.filter (iC (ey 1 ann).aK)=[lC qM]:=by decide+kernel
theorem XK:((ey 1 ann).aK.filter fun p=>(mI (ey 2 qM).aK p.key).isNone).map (·.key)=[]:=by decide+kernel
theorem XM:du cG (ey 1 ann) (ey 2 qM)=⟨1,2,[lC qM],[],false,[],false,⟨#[]⟩,cG (ey 2 qM)⟩:=by
 unfold du;rw[aa1,XK];rfl
theorem aa2:aaC (du cG (ey 1 ann) (ey 2 qM)):=by
 rw[XM];refine⟨fun p hp=>?_,by show 1≤_;decide,by show 0≤_;decide,by show 0≤_;decide,by show 0≤_;decide,fun k hk=>by cases hk⟩;rw[List.mem_singleton.1 (show p∈[lC qM]from hp)];exact⟨by show 3≤_;decide,by show 0≤_;decide,by show 1≤_;decide,by show 0≤_;decide,fun t ht=>by cases ht⟩
theorem XN:((ey 1 ann).aK.find? fun p=>p.aJ.any fun y=>decide (y=(⟨false,0,167772161⟩:Ad)))=some (lC ann):=by decide+kernel
theorem XO:(cK Mp.zero).2=220:=by decide+kernel
theorem eN{w w':World}{v:Value}{l:List Ry}(h:gQ w v l)(hb:Below w.heap.size w w'):gQ w' v l:=aW.below h hb
theorem IA{w:World}(env:Env w)(ord:fh w):Calls ag 4 #[] w (Got (.bool true) w):=by
 obtain⟨pol,rH⟩:∃p,p=vY:=⟨_,rfl⟩;obtain⟨zk,hzk⟩:∃p,p=Iz:=⟨_,rfl⟩;obtain⟨Ma,XP⟩:∃m,m=ey 1 ann:=⟨_,rfl⟩;obtain⟨Mb,hMb⟩:∃m,m=ey 2 qM:=⟨_,rfl⟩;obtain⟨S,hS⟩:∃s,s=(cK (ey 1 ann)).1:=⟨_,rfl⟩;obtain⟨D,hDe⟩:∃d,d=du cG (ey 1 ann) (ey 2 qM):=⟨_,rfl⟩;obtain⟨HH,hHH⟩:∃d,d=cG (ey 2 qM):=⟨_,rfl⟩;obtain⟨G,hG⟩:∃d,d=cG (ey 1 ann):=⟨_,rfl⟩;have ada:∀u,Below w.heap.size w u→∀Aa ca,dZ u (.slice Aa 1 ca) Ma.aK→Calls ag 12 #[.agg #[.int .u64 1,.slice Aa 1 ca,.slice none 0 0,.string pol]] u fun r w'=>r=.returned (.tuple #[.string S,.int .i64 0])∧Below u.heap.size u w':=by
  subst rH XP hS;intro u hu Aa ca h;refine(pG (env.below hu) h (df u) (ky 1 ann aF) (j4 1 ann aF).sz aF aF aF tZ).mono ?_;rintro r w'⟨⟨t,e,hte,rfl⟩,d⟩;have h2:=sZ;rw[←hte]at h2⊢;simp only at h2;subst h2;exact⟨rfl,d⟩
 have adb:∀u,Below w.heap.size w u→Calls ag 13 #[.string S] u fun r w'=>(∃Ax cx Rx rx,r=.returned (.tuple #[.agg #[.int .u64 1,.slice Ax 1 cx,.slice Rx 0 rx,.string pol],.int .i64 0])∧dZ w' (.slice Ax 1 cx) Ma.aK∧gQ w' (.slice Rx 0 rx) [])∧Below u.heap.size u w':=by
  subst rH XP hS;intro u hu;have h:=decode_any (env.below hu) (cK (ey 1 ann)).1 (by have:=(vS sZ).1;omega);rw[aa0]at h;exact h
 have ade:∀u,Below w.heap.size w u→∀Aa ca Ab cb,dZ u (.slice Aa 1 ca) Ma.aK→dZ u (.slice Ab 1 cb) Mb.aK→Calls ag 14 #[.agg #[.int .u64 1,.slice Aa 1 ca,.slice none 0 0,.string pol],.agg #[.int .u64 2,.slice Ab 1 cb,.slice none 0 0,.string pol]] u fun r w'=>(∃As cs Ag cg Ar cr,r=.returned (.tuple #[.agg #[.int .u64 1,.int .u64 2,.slice As 1 cs,.slice Ag 0 cg,.bool false,.slice Ar 0 cr,.bool false,.string ⟨#[]⟩,.string HH],.int .i64 0])∧zW w' D (.slice As 1 cs) (.slice Ag 0 cg) (.slice Ar 0 cr))∧Below u.heap.size u w':=by
  subst rH XP hMb hDe hHH;intro u hu Aa ca Ab cb h1 h2;have h:=NH (env.below hu) (ord.below hu ord.lt) h1 (df u) h2 (df u) (ky 1 ann aF) (ky 2 qM aF) (j4 1 ann aF) (j4 2 qM aF);rw[XJ]at h;refine h.mono ?_;rintro r w'⟨⟨sv,gv,rv,rfl,hd⟩,d⟩;have hd':=hd;rw[XM]at hd';obtain⟨As,cs,e1⟩:=hd'.aN.shape;obtain⟨Ag,cg,e2⟩:=hd'.gone.shape;obtain⟨Ar,cr,e3⟩:=aW.shape hd'.aB;subst e1 e2 e3;refine⟨⟨As,cs,Ag,cg,Ar,cr,?_,hd⟩,d⟩;rw[XM];rfl
 have adf:∀u,Below w.heap.size w u→∀Aa ca As cs Ag cg Ar cr,dZ u (.slice Aa 1 ca) Ma.aK→zW u D (.slice As 1 cs) (.slice Ag 0 cg) (.slice Ar 0 cr)→Calls ag 15 #[.agg #[.int .u64 1,.slice Aa 1 ca,.slice none 0 0,.string pol],.agg #[.int .u64 1,.int .u64 2,.slice As 1 cs,.slice Ag 0 cg,.bool false,.slice Ar 0 cr,.bool false,.string ⟨#[]⟩,.string HH]] u fun r w'=>(∃Ay cy UP ry,r=.returned (.tuple #[.agg #[.int .u64 2,.slice Ay 1 cy,.slice UP 0 ry,.string pol],.int .i64 0])∧dZ w' (.slice Ay 1 cy) Mb.aK∧gQ w' (.slice UP 0 ry) [])∧Below u.heap.size u w':=by
  subst rH XP hMb hDe hHH;intro u hu Aa ca As cs Ag cg Ar cr h1 h2;have h:=Iy (env.below hu) (ord.below hu ord.lt) h1 (df u) (ky 1 ann aF) (j4 1 ann aF) h2 (Ud (ky 1 ann aF) (ky 2 qM aF)) aa2 (by rw[Oa];exact j4 2 qM aF);rw[Ue]at h;have e:rM (du cG (ey 1 ann) (ey 2 qM)) (.slice As 1 cs) (.slice Ag 0 cg) (.slice Ar 0 cr)= #[.int .u64 1,.int .u64 2,.slice As 1 cs,.slice Ag 0 cg,.bool false,.slice Ar 0 cr,.bool false,.string ⟨#[]⟩,.string (cG (ey 2 qM))]:=by rw[XM];rfl
  rw[e]at h;exact h
 have adg:∀u,Below w.heap.size w u→∀Aa ca,dZ u (.slice Aa 1 ca) Ma.aK→Calls ag 16 #[.agg #[.int .u64 1,.slice Aa 1 ca,.slice none 0 0,.string pol],.agg #[.bool false,.int .u64 0,.int .u64 167772161]] u fun r w'=>(∃A1 c1 A2 c2 A3 c3,r=.returned (.tuple #[.agg #[.string zk,.string zk,.string ⟨#[97,110,110]⟩,.slice A1 0 c1,.slice A2 1 c2,.int .u64 9,.int .u8 0,.slice A3 0 c3],.bool true]))∧Below u.heap.size u w':=by
  subst rH XP hzk;intro u hu Aa ca h1;have h:=N9 (m:=ey 1 ann) h1 (df u) (j4 1 ann aF).sz aF ⟨false,0,167772161⟩;rw[XN]at h;refine h.mono ?_;rintro r w'⟨⟨X,rfl,hp,ho⟩,d⟩;obtain⟨p,tv,av,ev⟩:=X;have hp:p=lC ann:=hp;subst hp;obtain⟨A1,c1,e1⟩:=aQ ho.tags;obtain⟨A2,c2,e2⟩:=aQ ho.aJ;obtain⟨A3,c3,e3⟩:=aQ ho.ends;simp only at e1 e2 e3;subst e1 e2 e3;exact⟨⟨A1,c1,A2,c2,A3,c3,rfl⟩,d⟩
 have hSa:∀u,∀Aa ca Ax cx Rx rx,dZ u (.slice Aa 1 ca) Ma.aK→dZ u (.slice Ax 1 cx) Ma.aK→gQ u (.slice Rx 0 rx) []→Calls ag 17 #[.agg #[.int .u64 1,.slice Aa 1 ca,.slice none 0 0,.string pol],.agg #[.int .u64 1,.slice Ax 1 cx,.slice Rx 0 rx,.string pol]] u (Got (.bool true) u):=by
  subst rH XP;intro u Aa ca Ax cx Rx rx h1 h2 h3;have h:=yB (x:=ey 1 ann) (y:=ey 1 ann) h1 (df u) h2 h3 (j4 1 ann aF).sz (j4 1 ann aF).sz aF aF aF aF;rw[decide_eq_true rfl]at h;exact h
 have hSb:∀u,∀Ab cb Ay cy UP ry,dZ u (.slice Ab 1 cb) Mb.aK→dZ u (.slice Ay 1 cy) Mb.aK→gQ u (.slice UP 0 ry) []→Calls ag 17 #[.agg #[.int .u64 2,.slice Ab 1 cb,.slice none 0 0,.string pol],.agg #[.int .u64 2,.slice Ay 1 cy,.slice UP 0 ry,.string pol]] u (Got (.bool true) u):=by
  subst rH hMb;intro u Ab cb Ay cy UP ry h1 h2 h3;have h:=yB (x:=ey 2 qM) (y:=ey 2 qM) h1 (df u) h2 h3 (j4 2 qM aF).sz (j4 2 qM aF).sz aF aF aF aF;rw[decide_eq_true rfl]at h;exact h
 have adh:∀u,Below w.heap.size w u→∀Aa ca,dZ u (.slice Aa 1 ca) Ma.aK→Calls ag 18 #[.agg #[.int .u64 1,.slice Aa 1 ca,.slice none 0 0,.string pol]] u (Got (.string G) u):=by
  subst rH XP hG;intro u hu Aa ca h;exact rT (env.below hu) (ord.below hu ord.lt) h (df u) (ky 1 ann aF) (j4 1 ann aF).sz aF aF aF tZ
 have adi:∀u,Below w.heap.size w u→Calls ag 19 #[.agg #[.int .u64 0,.slice none 0 0,.slice none 0 0,.string ⟨#[]⟩]] u (Got (.int .i64 220) u):=by
  intro u hu;have h:=ll (m:=Mp.zero) (env.below hu) (gi u) (df u) ⟨by decide,(fun p hp=>by cases hp),(fun p hp=>by cases hp)⟩ (fun p hp=>by cases hp) aF aF aF tZ;rw[XO]at h;exact h
 have Yu:∀u,Calls ag 11 #[.int .u64 1,.string ⟨#[97,110,110]⟩] u fun r w'=>(∃Aa ca,r=.returned (.agg #[.int .u64 1,.slice Aa 1 ca,.slice none 0 0,.string pol])∧dZ w' (.slice Aa 1 ca) Ma.aK)∧Below u.heap.size u w':=by
  subst rH XP;exact fun u=>one_any u 1 ann
 have hO2:∀u,Calls ag 11 #[.int .u64 2,.string ⟨#[98,111,98]⟩] u fun r w'=>(∃Ab cb,r=.returned (.agg #[.int .u64 2,.slice Ab 1 cb,.slice none 0 0,.string pol])∧dZ w' (.slice Ab 1 cb) Mb.aK)∧Below u.heap.size u w':=by
  subst rH hMb;exact fun u=>one_any u 2 qM
 have hGs:((G.size:Int)==32)=true:=by rw[hG,JR _ sZ];rfl
 obtain⟨aet,aeu,aev,aew,HFin,HSa,Wu,rr,Du,HO1,HO2⟩:=Oy ada adb ade adf adg hSa hSb adh adi Yu hO2;clear ada adb ade adf adg hSa hSb adh adi Yu hO2 rH hzk XP hMb hS hDe hHH hG env ord;go_enter Tryz.func4,Tryz.ntmps4;go_upto_region 2 with(first
  |(go_at_call 11;(with_reducible refine(HO1.out _).mono ?_);rintro r w1⟨⟨Aa,ca,rfl,ha⟩,d1⟩;obtain⟨TA1,JG⟩:=aI ha d1;clear ha d1)
  |(go_at_call 11;(with_reducible refine(HO2.out _).mono ?_);rintro r w2⟨⟨Ab,cb,rfl,hb⟩,d2⟩;obtain⟨TA2,TC2⟩:=aI (TA1.out.below d2) hb;have JH:=aU JG d2;clear hb d2 TA1 JG))
 have k1:=boxed w2 (.cells #[.int .u64 1,.slice Aa 1 ca,.slice none 0 0,.string pol] 33);have k2:=boxed (w2.alloc (.cells #[.int .u64 1,.slice Aa 1 ca,.slice none 0 0,.string pol] 33)) (.cells #[.int .u64 2,.slice Ab 1 cb,.slice none 0 0,.string pol] 33);have hP:=aD.new w2 33 #[.int .u64 1,.slice Aa 1 ca,.slice none 0 0,.string pol];have wM:=ae (hP.below k2 hP.lt);have hQ:=aD.new (w2.alloc (.cells #[.int .u64 1,.slice Aa 1 ca,.slice none 0 0,.string pol] 33)) 33 #[.int .u64 2,.slice Ab 1 cb,.slice none 0 0,.string pol];rw[show(w2.alloc (.cells #[.int .u64 1,.slice Aa 1 ca,.slice none 0 0,.string pol] 33)).heap.size=w2.heap.size+1 by simp]at hQ;obtain⟨xC,Az,TA3,TC3⟩:=cH hQ (after (after JH.out k1) k2) ((TA2.out.below k1).below k2) ((TC2.out.below k1).below k2);clear k1 k2 hP hQ JH TA2 TC2;generalize(w2.alloc (.cells #[.int .u64 1,.slice Aa 1 ca,.slice none 0 0,.string pol] 33)).alloc (.cells #[.int .u64 2,.slice Ab 1 cb,.slice none 0 0,.string pol] 33)=w3 at wM xC Az TA3 TC3⊢;generalize w2.heap.size+1=Q at xC⊢;generalize w2.heap.size=P at wM⊢;obtain⟨p0,p1,p2,p3⟩:=dy wM;go_upto_region 3 with(go_at_call 12;(with_reducible refine(aet.out _ Az.out _ _ TA3.out).mono ?_);rintro r w4⟨rfl,d4⟩;have Xn:=aU Az d4;obtain⟨TJ,Xm,TA4,TC4⟩:=cH (wM.out.below d4 wM.out.lt) (xC.out.below d4 xC.out.lt) (TA3.out.below d4) (TC3.out.below d4);clear Az wM xC TA3 TC3;clear d4)
 clear p0 p1 p2 p3;go_upto_region 4 with(go_at_call 13;(with_reducible refine(aeu.out _ Xn.out).mono ?_);rintro r w5⟨⟨Ax,cx,Rx,rx,rfl,hx,hrx⟩,d⟩;have adj:=aU Xn d;obtain⟨aa3,aa4,adk,adl⟩:=cH (TJ.out.below d TJ.out.lt) (Xm.out.below d Xm.out.lt) (TA4.out.below d) (TC4.out.below d);clear Xn TJ Xm TA4 TC4;obtain⟨adn,YY⟩:=aI hx hrx;clear hx hrx;clear d)
 have kk:=boxed w5 (.cells #[.int .u64 1,.slice Ax 1 cx,.slice Rx 0 rx,.string pol] 33);have XQ:=aU adj kk;obtain⟨Uf,Ug,XR,XS,aa5,Uh,Eg⟩:=mS (aa3.out.below kk aa3.out.lt) (aa4.out.below kk aa4.out.lt) (adk.out.below kk) (adl.out.below kk) (adn.out.below kk) (eN YY.out kk) (aD.new w5 33 #[.int .u64 1,.slice Ax 1 cx,.slice Rx 0 rx,.string pol]);clear adj aa3 aa4 adk adl adn YY;clear kk;generalize w5.alloc (.cells #[.int .u64 1,.slice Ax 1 cx,.slice Rx 0 rx,.string pol] 33)=w6 at XQ Uf Ug XR XS aa5 Uh Eg⊢;generalize w5.heap.size=X at Eg⊢;obtain⟨p0,p1,p2,p3⟩:=dy Uf;obtain⟨q0,q1,q2,q3⟩:=dy Ug;go_upto_region 5 with(go_at_call 14;(with_reducible refine(aev.out _ XQ.out _ _ _ _ XR.out XS.out).mono ?_);rintro r w7⟨⟨As,cs,Ag,cg,Ar,cr,rfl,hd⟩,d⟩;have YZ:=aU XQ d;obtain⟨Ui,Uj,Y3,Y4,Y5,Uk,IB⟩:=mS (Uf.out.below d Uf.out.lt) (Ug.out.below d Ug.out.lt) (XR.out.below d) (XS.out.below d) (aa5.out.below d) (eN Uh.out d) (Eg.out.below d Eg.out.lt);clear XQ Uf Ug XR XS aa5 Uh Eg;have Y6:=ae hd;clear hd;clear d)
 have kk:=boxed w7 (.cells #[.int .u64 1,.int .u64 2,.slice As 1 cs,.slice Ag 0 cg,.bool false,.slice Ar 0 cr,.bool false,.string ⟨#[]⟩,.string HH] 43);have JS:=aU YZ kk;obtain⟨Eh,JU,JV,Ul,Um,IC,AE,JW,rY⟩:=Ox (Ui.out.below kk Ui.out.lt) (Uj.out.below kk Uj.out.lt) (Y3.out.below kk) (Y4.out.below kk) (Y5.out.below kk) (eN Uk.out kk) (IB.out.below kk IB.out.lt) (Y6.out.below kk) (aD.new w7 43 #[.int .u64 1,.int .u64 2,.slice As 1 cs,.slice Ag 0 cg,.bool false,.slice Ar 0 cr,.bool false,.string ⟨#[]⟩,.string HH]);clear YZ Ui Uj Y3 Y4 Y5 Uk IB Y6;clear kk;generalize w7.alloc (.cells #[.int .u64 1,.int .u64 2,.slice As 1 cs,.slice Ag 0 cg,.bool false,.slice Ar 0 cr,.bool false,.string ⟨#[]⟩,.string HH] 43)=w8 at JS Eh JU JV Ul Um IC AE JW rY⊢;generalize w7.heap.size=DP at rY⊢;clear p0 p1 p2 p3 q0 q1 q2 q3;obtain⟨p0,p1,p2,p3⟩:=dy Eh;obtain⟨q0,q1,q2,q3,q4,q5,q6,q7,q8⟩:=J8 rY;go_upto_region 6 with(go_at_call 15;(with_reducible refine(aew.out _ JS.out _ _ _ _ _ _ _ _ JV.out JW.out).mono ?_);rintro r w9⟨⟨Ay,cy,UP,ry,rfl,hy,hry⟩,d⟩;have Un:=aU JS d;obtain⟨ID,IE,Uo,Up,Ur,JX,AG,Ut,AH⟩:=Ox (Eh.out.below d Eh.out.lt) (JU.out.below d JU.out.lt) (JV.out.below d) (Ul.out.below d) (Um.out.below d) (eN IC.out d) (AE.out.below d AE.out.lt) (JW.out.below d) (rY.out.below d rY.out.lt);clear JS Eh JU JV Ul Um IC AE JW rY;obtain⟨Uu,JY⟩:=aI hy hry;clear hy hry;clear d)
 have kk:=boxed w9 (.cells #[.int .u64 2,.slice Ay 1 cy,.slice UP 0 ry,.string pol] 33);have AK:=aU Un kk;obtain⟨vZ,AN,AO,IG,IH,AP,ua,II,ub,IJ,AQ,qN⟩:=pQ (ID.out.below kk ID.out.lt) (IE.out.below kk IE.out.lt) (Uo.out.below kk) (Up.out.below kk) (Ur.out.below kk) (eN JX.out kk) (AG.out.below kk AG.out.lt) (Ut.out.below kk) (AH.out.below kk AH.out.lt) (Uu.out.below kk) (eN JY.out kk) (aD.new w9 33 #[.int .u64 2,.slice Ay 1 cy,.slice UP 0 ry,.string pol]);clear Un ID IE Uo Up Ur JX AG Ut AH Uu JY;clear kk;generalize w9.alloc (.cells #[.int .u64 2,.slice Ay 1 cy,.slice UP 0 ry,.string pol] 33)=wA at AK vZ AN AO IG IH AP ua II ub IJ AQ qN⊢;generalize w9.heap.size=YP at qN⊢;clear p0 p1 p2 p3 q0 q1 q2 q3 q4 q5 q6 q7 q8;obtain⟨p0,p1,p2,p3⟩:=dy vZ;go_upto_region 7 with(go_at_call 16;(with_reducible refine(HFin.out _ AK.out _ _ AO.out).mono ?_);rintro r wB⟨⟨A1,c1,A2,c2,A3,c3,rfl⟩,d⟩;have JZ:=aU AK d;obtain⟨AU,AV,J0,J3,J4,Ei,wk,J5,wm,J6,Ej,wn⟩:=pQ (vZ.out.below d vZ.out.lt) (AN.out.below d AN.out.lt) (AO.out.below d) (IG.out.below d) (IH.out.below d) (eN AP.out d) (ua.out.below d ua.out.lt) (II.out.below d) (ub.out.below d ub.out.lt) (IJ.out.below d) (eN AQ.out d) (qN.out.below d qN.out.lt);clear AK vZ AN AO IG IH AP ua II ub IJ AQ qN;skip;clear d)
 have kk:=boxed wB (.cells #[.string zk,.string zk,.string ⟨#[97,110,110]⟩,.slice A1 0 c1,.slice A2 1 c2,.int .u64 9,.int .u8 0,.slice A3 0 c3] 50);have AW:=aU JZ kk;obtain⟨qO,qP,uc,AX,ud,qQ,nM,AY,nN,AZ,wt,nO⟩:=pQ (AU.out.below kk AU.out.lt) (AV.out.below kk AV.out.lt) (J0.out.below kk) (J3.out.below kk) (J4.out.below kk) (eN Ei.out kk) (wk.out.below kk wk.out.lt) (J5.out.below kk) (wm.out.below kk wm.out.lt) (J6.out.below kk) (eN Ej.out kk) (wn.out.below kk wn.out.lt);have lE:=ae (aD.new wB 50 #[.string zk,.string zk,.string ⟨#[97,110,110]⟩,.slice A1 0 c1,.slice A2 1 c2,.int .u64 9,.int .u8 0,.slice A3 0 c3]);clear JZ AU AV J0 J3 J4 Ei wk J5 wm J6 Ej wn;clear kk;generalize wB.alloc (.cells #[.string zk,.string zk,.string ⟨#[97,110,110]⟩,.slice A1 0 c1,.slice A2 1 c2,.int .u64 9,.int .u8 0,.slice A3 0 c3] 50)=wC at AW qO qP uc AX ud qQ nM AY nN AZ wt nO lE⊢;generalize wB.heap.size=ZP at lE⊢;clear p0 p1 p2 p3;obtain⟨p0,p1,p2,p3⟩:=dy qO;obtain⟨x0,x1,x2,x3⟩:=dy nM;obtain⟨-,-,d2⟩:=iE nN;obtain⟨q0,q1,q2,q3⟩:=dy qP;obtain⟨y0,y1,y2,y3⟩:=dy nO;obtain⟨-,-,z2⟩:=iE lE;go_wp2_with(first
  |(go_at_call 17;(with_reducible refine(HSa.out _ _ _ _ _ _ _ uc.out ud.out qQ.out).mono ?_);rintro r wD⟨rfl,dD⟩;clear p0 p1 p2 p3 x0 x1 x2 x3 d2 q0 q1 q2 q3 y0 y1 y2 y3 z2;have Ou:=aU AW dD;obtain⟨DZ,EP,TA5,TC5,TX5,ado,XT,UN,XU,TY5,aa6,XW⟩:=pQ (qO.out.below dD qO.out.lt) (qP.out.below dD qP.out.lt) (uc.out.below dD) (AX.out.below dD) (ud.out.below dD) (eN qQ.out dD) (nM.out.below dD nM.out.lt) (AY.out.below dD) (nN.out.below dD nN.out.lt) (AZ.out.below dD) (eN wt.out dD) (nO.out.below dD nO.out.lt);have XY:=ae (lE.out.below dD lE.out.lt);clear AW qO qP uc AX ud qQ nM AY nN AZ wt nO lE;clear dD;obtain⟨p0,p1,p2,p3⟩:=dy DZ;obtain⟨x0,x1,x2,x3⟩:=dy XT;obtain⟨-,-,d2⟩:=iE XU;obtain⟨q0,q1,q2,q3⟩:=dy EP;obtain⟨y0,y1,y2,y3⟩:=dy XW;obtain⟨-,-,z2⟩:=iE XY)
  |(go_at_call 17;(with_reducible refine(Wu.out _ _ _ _ _ _ _ TC5.out TY5.out aa6.out).mono ?_);rintro r wE⟨rfl,dE⟩;clear p0 p1 p2 p3 x0 x1 x2 x3 d2 q0 q1 q2 q3 y0 y1 y2 y3 z2;have UO:=aU Ou dE;obtain⟨XF,XG,TA6,TC6,TX6,adp,XZ,TD6,X6,TY6,adq,X7⟩:=pQ (DZ.out.below dE DZ.out.lt) (EP.out.below dE EP.out.lt) (TA5.out.below dE) (TC5.out.below dE) (TX5.out.below dE) (eN ado.out dE) (XT.out.below dE XT.out.lt) (UN.out.below dE) (XU.out.below dE XU.out.lt) (TY5.out.below dE) (eN aa6.out dE) (XW.out.below dE XW.out.lt);have X8:=ae (XY.out.below dE XY.out.lt);clear Ou DZ EP TA5 TC5 TX5 ado XT UN XU TY5 aa6 XW XY;clear dE;obtain⟨p0,p1,p2,p3⟩:=dy XF;obtain⟨x0,x1,x2,x3⟩:=dy XZ;obtain⟨-,-,d2⟩:=iE X6;obtain⟨q0,q1,q2,q3⟩:=dy XG;obtain⟨y0,y1,y2,y3⟩:=dy X7;obtain⟨-,-,z2⟩:=iE X8)
  |(go_at_call 18;(with_reducible refine(rr.out _ UO.out _ _ TA6.out).mono ?_);rintro r wF⟨rfl,dF⟩;clear p0 p1 p2 p3 x0 x1 x2 x3 d2 q0 q1 q2 q3 y0 y1 y2 y3 z2;have TB7:=aU UO dF;obtain⟨TP7,TQ7,TA7,TC7,TX7,ae3,aex,TD7,aey,TY7,ae4,aez⟩:=pQ (XF.out.below dF XF.out.lt) (XG.out.below dF XG.out.lt) (TA6.out.below dF) (TC6.out.below dF) (TX6.out.below dF) (eN adp.out dF) (XZ.out.below dF XZ.out.lt) (TD6.out.below dF) (X6.out.below dF X6.out.lt) (TY6.out.below dF) (eN adq.out dF) (X7.out.below dF X7.out.lt);have aeA:=ae (X8.out.below dF X8.out.lt);clear UO XF XG TA6 TC6 TX6 adp XZ TD6 X6 TY6 adq X7 X8;clear dF;obtain⟨p0,p1,p2,p3⟩:=dy TP7;obtain⟨x0,x1,x2,x3⟩:=dy aex;obtain⟨-,-,d2⟩:=iE aey;obtain⟨q0,q1,q2,q3⟩:=dy TQ7;obtain⟨y0,y1,y2,y3⟩:=dy aez;obtain⟨-,-,z2⟩:=iE aeA)
  |(go_at_call 19;(with_reducible refine(Du.out _ TB7.out).mono ?_);rintro r wG⟨rfl,dG⟩))
 go_ret;exact⟨by simp,after TB7.out dG⟩
theorem yC(x y:Nat)(d s:ByteArray)(F:Value)(w:World):Calls ag 20 #[.pointer none,.int .u64 x,.int .u64 y,.string d,.string s,F] w (Got (.int .i64 1) w):=by
 go_enter Tryz.func20,Tryz.ntmps20;go_wp2_with fail
 go_ret;exact⟨rfl,aG _ _⟩
theorem Uw(v:Nat)(d s:ByteArray)(w:World):Calls ag 5 #[.pointer none,.int .u64 v,.string d,.string s] w (Got (.int .i64 1) w):=by
 have ht:∀(y:Nat)(d s:ByteArray)(F:Value)(W:World),Calls ag 20 #[.pointer none,.int .u64 0,.int .u64 y,.string d,.string s,F] W (Got (.int .i64 1) W):=fun y d s F W=>yC 0 y d s F W
 have HT:=ae ht;clear ht;go_enter Tryz.func5,Tryz.ntmps5;go_wp2_with(go_at_call 20;(with_reducible refine(HT.out _ _ _ _ _).mono ?_);rintro r w1⟨rfl,d1⟩)
 go_ret;exact⟨rfl,after (eA _ _ _) d1⟩
theorem Ob(b v:Nat)(d s:ByteArray)(w:World):Calls ag 6 #[.pointer none,.int .u64 b,.int .u64 v,.string d,.string s] w (Got (.int .i64 1) w):=by
 have HT:=ae fun x y d s F W=>yC x y d s F W
 go_enter Tryz.func6,Tryz.ntmps6;go_wp2_with(go_at_call 20;(with_reducible refine(HT.out _ _ _ _ _ _).mono ?_);rintro r w1⟨rfl,d1⟩)
 go_ret;exact⟨rfl,after (after (eA _ _ _) (eA _ _ _)) d1⟩
theorem Ek(w:World):Calls ag 7 #[.pointer none] w (Got (.int .u64 0) w):=by
 go_enter Tryz.func7,Tryz.ntmps7;go_wp2_with fail
 go_ret;exact⟨rfl,aG _ _⟩
theorem Oc(w:World):Calls ag 8 #[.pointer none] w (Got (.bool false) w):=by
 go_enter Tryz.func8,Tryz.ntmps8;go_wp2_with fail
 go_ret;exact⟨rfl,aG _ _⟩
theorem map_nil(w:World):Calls ag 10 #[.pointer none] w (Got (.agg #[.int .u64 0,.slice none 0 0,.slice none 0 0,.string ⟨#[]⟩]) w):=by
 have hb:=boxed w (.cells #[.int .u64 0,.slice none 0 0,.slice none 0 0,.string ⟨#[]⟩] 33);have hP:=aD.new w 33 #[.int .u64 0,.slice none 0 0,.slice none 0 0,.string ⟨#[]⟩];obtain⟨HB,HP⟩:=aI hb hP;clear hb hP;go_enter Tryz.func10,Tryz.ntmps10;go_upto_region 1 with fail
 have lt:=HP.out.lt;generalize w.alloc (.cells #[.int .u64 0,.slice none 0 0,.slice none 0 0,.string ⟨#[]⟩] 33)=w1 at HB HP lt⊢;obtain⟨r0,r1,r2,r3⟩:=dy HP;have fr:=fun i=>HP.out.frozen i
 go_wp2_with fail
 obtain⟨s9,q9⟩:=iu HP.out HB.out (aw _) (.int .u64 0) (.slice none 0 0) (.slice none 0 0) (.string ⟨#[]⟩);exact bodyPost_ret (eV (x:=2) rfl rfl (fR s9)) rfl ⟨rfl,q9⟩
theorem IK(w:World):Calls ag 24 #[.slice none 0 0,.slice none 0 0] w (Got (.bool true) w):=by
 go_enter Tryz.func24,Tryz.ntmps24;go_wp2_with fail
 go_loopw [5] (fun v5 wr=>v5=.int .i64 0∧wr=w) (fun _ _=>0)
 case atStart=>exact⟨rfl,rfl⟩
 case round=>
  obtain⟨rfl,rfl⟩:=hrel;go_wp2_with fail
  go_ret;exact⟨rfl,aG _ _⟩
theorem Em(w:World):Calls ag 25 #[.slice none 0 0,.slice none 0 0] w (Got (.bool true) w):=by
 go_enter Tryz.func25,Tryz.ntmps25;go_wp2_with fail
 go_loopw [5] (fun v5 wr=>v5=.int .i64 0∧wr=w) (fun _ _=>0)
 case atStart=>exact⟨rfl,rfl⟩
 case round=>
  obtain⟨rfl,rfl⟩:=hrel;go_wp2_with fail
  go_ret;exact⟨rfl,aG _ _⟩
theorem Oe(w:World):Calls ag 9 #[.agg #[.int .u64 0,.slice none 0 0,.slice none 0 0,.string ⟨#[]⟩],.agg #[.int .u64 0,.slice none 0 0,.slice none 0 0,.string ⟨#[]⟩]] w (Got (.bool true) w):=by
 have hb1:=boxed w (.cells #[.int .u64 0,.slice none 0 0,.slice none 0 0,.string ⟨#[]⟩] 33);have hP1:=aD.new w 33 #[.int .u64 0,.slice none 0 0,.slice none 0 0,.string ⟨#[]⟩];have hb2:=boxed (w.alloc (.cells #[.int .u64 0,.slice none 0 0,.slice none 0 0,.string ⟨#[]⟩] 33)) (.cells #[.int .u64 0,.slice none 0 0,.slice none 0 0,.string ⟨#[]⟩] 33);have HP2:=ae (hP1.below hb2 hP1.lt);have hQ2:=aD.new (w.alloc (.cells #[.int .u64 0,.slice none 0 0,.slice none 0 0,.string ⟨#[]⟩] 33)) 33 #[.int .u64 0,.slice none 0 0,.slice none 0 0,.string ⟨#[]⟩];rw[show(w.alloc (.cells #[.int .u64 0,.slice none 0 0,.slice none 0 0,.string ⟨#[]⟩] 33)).heap.size=w.heap.size+1 by simp]at hQ2;obtain⟨Jo,HB⟩:=aI hQ2 (after hb1 hb2);clear hb1 hP1 hb2 hQ2;go_enter Tryz.func9,Tryz.ntmps9;go_upto_region 1 with fail
 generalize(w.alloc (.cells #[.int .u64 0,.slice none 0 0,.slice none 0 0,.string ⟨#[]⟩] 33)).alloc (.cells #[.int .u64 0,.slice none 0 0,.slice none 0 0,.string ⟨#[]⟩] 33)=w2 at HP2 Jo HB⊢;generalize w.heap.size+1=Q at Jo⊢;generalize hP:w.heap.size=P at HP2⊢;have kf:=ae hP;clear hP;have x0:=HP2.out.cell 0;have x1:=HP2.out.cell 1;have x2:=HP2.out.cell 2;have x3:=HP2.out.cell 3;have y0:=Jo.out.cell 0;have y1:=Jo.out.cell 1;have y2:=Jo.out.cell 2;have y3:=Jo.out.cell 3;simp at x0 x1 x2 x3 y0 y1 y2 y3;have HS:=ae fun W=>IK W
 have HR:=ae fun W=>Em W
 go_wp2_with(first
  |(go_at_call 24;(with_reducible refine(HS.out _).mono ?_);rintro r w3⟨rfl,d3⟩;have HB3:=aU HB d3;have z0:=ak x2 d3;have z1:=ak y2 d3)
  |(go_at_call 25;(with_reducible refine(HR.out _).mono ?_);rintro r w4⟨rfl,d4⟩;have HB4:=aU HB3 d4))
 go_ret;exact⟨rfl,HB4.out⟩
theorem Ux{w:World}(env:Env w)(ord:fh w)(v:Nat)(s:ByteArray):Calls ag 3 #[.int .u64 v,.string s] w (Got (.bool true) w):=by
 have HW:=ae fun(u:World)(hu:Below w.heap.size w u)=>IA (env.below hu) (ord.below hu ord.lt)
 have H1:=ae fun W=>Uw v s ⟨#[]⟩ W
 have H2:=ae fun W=>Ob v v s ⟨#[]⟩ W
 have H3:=ae fun W=>Ek W
 have H4:=ae fun W=>Oc W
 have H5:=ae fun W=>map_nil W
 have H6:=ae fun W=>Oe W
 clear env ord;have HB:=ae (aG w.heap.size w);go_enter Tryz.func3,Tryz.ntmps3;by_cases hs:(1024:Int)<(s.size:Int)
 ·go_wp2_with(go_at_call 4;(with_reducible refine(HW.out _ HB.out).mono ?_);rintro r w1⟨rfl,d1⟩)
  go_ret;exact⟨rfl,d1⟩
 ·go_wp2_with(first
   |(go_at_call 5;(with_reducible refine(H1.out _).mono ?_);rintro r w1⟨rfl,d1⟩;have HB1:=aU HB d1;clear d1)
   |(go_at_call 6;(with_reducible refine(H2.out _).mono ?_);rintro r w2⟨rfl,d2⟩;have HB2:=aU HB1 d2;clear d2)
   |(go_at_call 7;(with_reducible refine(H3.out _).mono ?_);rintro r w3⟨rfl,d3⟩;have HB3:=aU HB2 d3;clear d3)
   |(go_at_call 8;(with_reducible refine(H4.out _).mono ?_);rintro r w4⟨rfl,d4⟩;have HB4:=aU HB3 d4;clear d4)
   |(go_at_call 10;(with_reducible refine(H5.out _).mono ?_);rintro r w5⟨rfl,d5⟩;have mO:=aU HB4 d5;clear d5)
   |(go_at_call 9;(with_reducible refine(H6.out _).mono ?_);rintro r w6⟨rfl,d6⟩;have jH:=aU mO d6;clear d6)
   |(go_at_call 4;(with_reducible refine(HW.out _ jH.out).mono ?_);rintro r w7⟨rfl,d7⟩;have tK:=aU jH d7))
  go_ret;exact⟨rfl,tK.out⟩
end Go.Proofs.YteflnojjjdkgmaaGreatDoor
