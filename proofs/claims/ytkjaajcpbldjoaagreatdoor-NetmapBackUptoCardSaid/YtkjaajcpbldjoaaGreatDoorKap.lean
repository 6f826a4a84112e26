/- Joined out of: NlD NbA. -/
import Derived.Test.YtkjaajcpbldjoaaGreatDoorKao
set_option linter.unusedVariables false
set_option linter.unusedSimpArgs false
set_option maxHeartbeats 16000000
set_option maxRecDepth 100000
open Go.Lib renaming hid→ae
open Go.Proofs.Tryz renaming prog→ah
open Go.RowKit renaming Hid→ag
namespace Go.Proofs.YtkjaajcpbldjoaaGreatDoor
open Go.RowKit
attribute [local go_sem↓] Go.wp_at_zero Go.wp_at_succ
theorem fM{w w':World}{v:Value}{l:List Ry}(h:fy w v l)(hb:aW w w'):fy w' v l:=aY.below h hb
theorem L8{w:World}(env:Env w)(ord:gd w):Calls ah 6 #[] w (Got (.bool true) w):=by
 obtain⟨pol,tU⟩:=bq yZ;obtain⟨zk,hzk⟩:=bq L6;obtain⟨Ma,hMa⟩:=bq (fk 1 ann);obtain⟨Mb,hMb⟩:=bq (fk 2 sU);obtain⟨S,hS⟩:=bq ((cT (fk 1 ann)).1);obtain⟨D,hDe⟩:=bq (dX dm (fk 1 ann) (fk 2 sU));obtain⟨HH,hHH⟩:=bq (dm (fk 2 sU));obtain⟨G,hG⟩:=bq (dm (fk 1 ann));have afE:∀u,aW w u→∀Aa ca,dJ u (.slice Aa 1 ca) Ma.aK→Calls ah 7 #[.agg #[.int .u64 1,.slice Aa 1 ca,au,.string pol]] u fun r w'=>r=.returned (.tuple #[.string S,.int .i64 0])∧aW u w':=by
  subst tU hMa hS;intro u hu Aa ca h;refine(lu (env.below hu) h (dN u) (mo 1 ann aH) (lH 1 ann aH).sz aH aH aH od).mono ?_;rintro r w'⟨⟨t,e,hte,rfl⟩,d⟩;have h2:=vw;rw[←hte]at h2⊢;simp only at h2;subst h2;exact⟨rfl,d⟩
 have afF:∀u,aW w u→Calls ah 9 #[.string S] u fun r w'=>(∃Ax cx Rx rx,r=.returned (.tuple #[.agg #[.int .u64 1,.slice Ax 1 cx,.slice Rx 0 rx,.string pol],.int .i64 0])∧dJ w' (.slice Ax 1 cx) Ma.aK∧fy w' (.slice Rx 0 rx) [])∧aW u w':=by
  subst tU hMa hS;intro u hu;have h:=decode_any (env.below hu) (cT (fk 1 ann)).1 (by have:=(yO vw).1;omega);rw[adA]at h;exact h
 have afG:∀u,aW w u→∀Aa ca Ab cb,dJ u (.slice Aa 1 ca) Ma.aK→dJ u (.slice Ab 1 cb) Mb.aK→Calls ah 17 #[.agg #[.int .u64 1,.slice Aa 1 ca,au,.string pol],.agg #[.int .u64 2,.slice Ab 1 cb,au,.string pol]] u fun r w'=>(∃As cs Ag cg Ar cr,r=.returned (.tuple #[.agg #[.int .u64 1,.int .u64 2,.slice As 1 cs,.slice Ag 0 cg,.bool false,.slice Ar 0 cr,.bool false,aI,.string HH],.int .i64 0])∧kz w' D (.slice As 1 cs) (.slice Ag 0 cg) (.slice Ar 0 cr))∧aW u w':=by
  subst tU hMa hMb hDe hHH;intro u hu Aa ca Ab cb h1 h2;have h:=Re (env.below hu) (ord.below hu ord.lt) h1 (dN u) h2 (dN u) (mo 1 ann aH) (mo 2 sU aH) (lH 1 ann aH) (lH 2 sU aH);rw[aaO]at h;refine h.mono ?_;rintro r w'⟨⟨sv,gv,rv,rfl,hd⟩,d⟩;have hd':=hd;rw[aaQ]at hd';obtain⟨As,cs,e1⟩:=hd'.aL.shape;obtain⟨Ag,cg,e2⟩:=hd'.gone.shape;obtain⟨Ar,cr,e3⟩:=aY.shape hd'.ax;subst e1 e2 e3;refine⟨⟨As,cs,Ag,cg,Ar,cr,?_,hd⟩,d⟩;rw[aaQ];rfl
 have afH:∀u,aW w u→∀Aa ca As cs Ag cg Ar cr,dJ u (.slice Aa 1 ca) Ma.aK→kz u D (.slice As 1 cs) (.slice Ag 0 cg) (.slice Ar 0 cr)→Calls ah 18 #[.agg #[.int .u64 1,.slice Aa 1 ca,au,.string pol],.agg #[.int .u64 1,.int .u64 2,.slice As 1 cs,.slice Ag 0 cg,.bool false,.slice Ar 0 cr,.bool false,aI,.string HH]] u fun r w'=>(∃Ay cy Yu ry,r=.returned (.tuple #[.agg #[.int .u64 2,.slice Ay 1 cy,.slice Yu 0 ry,.string pol],.int .i64 0])∧dJ w' (.slice Ay 1 cy) Mb.aK∧fy w' (.slice Yu 0 ry) [])∧aW u w':=by
  subst tU hMa hMb hDe hHH;intro u hu Aa ca As cs Ag cg Ar cr h1 h2;have h:=LZ (env.below hu) (ord.below hu ord.lt) h1 (dN u) (mo 1 ann aH) (lH 1 ann aH) h2 (Xv (mo 1 ann aH) (mo 2 sU aH)) adC (by rw[R9];exact lH 2 sU aH);rw[Xw]at h;have e:fc (dX dm (fk 1 ann) (fk 2 sU)) (.slice As 1 cs) (.slice Ag 0 cg) (.slice Ar 0 cr)= #[.int .u64 1,.int .u64 2,.slice As 1 cs,.slice Ag 0 cg,.bool false,.slice Ar 0 cr,.bool false,aI,.string (dm (fk 2 sU))]:=by rw[aaQ];rfl
  rw[e]at h;exact h
 have afI:∀u,aW w u→∀Aa ca,dJ u (.slice Aa 1 ca) Ma.aK→Calls ah 19 #[.agg #[.int .u64 1,.slice Aa 1 ca,au,.string pol],.agg #[.bool false,.int .u64 0,.int .u64 167772161]] u fun r w'=>(∃A1 c1 A2 c2 A3 c3,r=.returned (.tuple #[.agg #[.string zk,.string zk,.string ⟨#[97,110,110]⟩,.slice A1 0 c1,.slice A2 1 c2,.int .u64 9,.int .u8 0,.slice A3 0 c3],.bool true]))∧aW u w':=by
  subst tU hMa hzk;intro u hu Aa ca h1;have h:=RZ (m:=fk 1 ann) h1 (dN u) (lH 1 ann aH).sz aH ⟨false,0,167772161⟩;rw[aaR]at h;refine h.mono ?_;rintro r w'⟨⟨X,rfl,hp,ho⟩,d⟩;obtain⟨p,tv,av,ev⟩:=X;have hp:p=nt ann:=hp;subst hp;obtain⟨A1,c1,e1⟩:=aV ho.tags;obtain⟨A2,c2,e2⟩:=aV ho.aR;obtain⟨A3,c3,e3⟩:=aV ho.ends;simp only at e1 e2 e3;subst e1 e2 e3;exact⟨⟨A1,c1,A2,c2,A3,c3,rfl⟩,d⟩
 have hSa:∀u,∀Aa ca Ax cx Rx rx,dJ u (.slice Aa 1 ca) Ma.aK→dJ u (.slice Ax 1 cx) Ma.aK→fy u (.slice Rx 0 rx) []→Calls ah 20 #[.agg #[.int .u64 1,.slice Aa 1 ca,au,.string pol],.agg #[.int .u64 1,.slice Ax 1 cx,.slice Rx 0 rx,.string pol]] u (Got (.bool true) u):=by
  subst tU hMa;intro u Aa ca Ax cx Rx rx h1 h2 h3;have h:=Bh (x:=fk 1 ann) (y:=fk 1 ann) h1 (dN u) h2 h3 (lH 1 ann aH).sz (lH 1 ann aH).sz aH aH aH aH;rw[decide_eq_true rfl]at h;exact h
 have hSb:∀u,∀Ab cb Ay cy Yu ry,dJ u (.slice Ab 1 cb) Mb.aK→dJ u (.slice Ay 1 cy) Mb.aK→fy u (.slice Yu 0 ry) []→Calls ah 20 #[.agg #[.int .u64 2,.slice Ab 1 cb,au,.string pol],.agg #[.int .u64 2,.slice Ay 1 cy,.slice Yu 0 ry,.string pol]] u (Got (.bool true) u):=by
  subst tU hMb;intro u Ab cb Ay cy Yu ry h1 h2 h3;have h:=Bh (x:=fk 2 sU) (y:=fk 2 sU) h1 (dN u) h2 h3 (lH 2 sU aH).sz (lH 2 sU aH).sz aH aH aH aH;rw[decide_eq_true rfl]at h;exact h
 have afJ:∀u,aW w u→∀Aa ca,dJ u (.slice Aa 1 ca) Ma.aK→Calls ah 21 #[.agg #[.int .u64 1,.slice Aa 1 ca,au,.string pol]] u (Got (.string G) u):=by
  subst tU hMa hG;intro u hu Aa ca h;exact uj (env.below hu) (ord.below hu ord.lt) h (dN u) (mo 1 ann aH) (lH 1 ann aH).sz aH aH aH od
 have afK:∀u,aW w u→Calls ah 22 #[.agg #[.int .u64 0,au,au,aI]] u (Got (.int .i64 220) u):=by
  intro u hu;have h:=mX (m:=Mp.zero) (env.below hu) (iN u) (dN u) ⟨by decide,(fun p hp=>by cases hp),(fun p hp=>by cases hp)⟩ (fun p hp=>by cases hp) aH aH aH od;rw[aaS]at h;exact h
 have hO1:∀u,Calls ah 16 #[.int .u64 1,.string ⟨#[97,110,110]⟩] u fun r w'=>(∃Aa ca,r=.returned (.agg #[.int .u64 1,.slice Aa 1 ca,au,.string pol])∧dJ w' (.slice Aa 1 ca) Ma.aK)∧aW u w':=by
  subst tU hMa;exact fun u=>one_any u 1 ann
 have hO2:∀u,Calls ah 16 #[.int .u64 2,.string ⟨#[98,111,98]⟩] u fun r w'=>(∃Ab cb,r=.returned (.agg #[.int .u64 2,.slice Ab 1 cb,au,.string pol])∧dJ w' (.slice Ab 1 cb) Mb.aK)∧aW u w':=by
  subst tU hMb;exact fun u=>one_any u 2 sU
 have hGs:((G.size:Int)==32)=true:=by rw[hG,Oa _ vw];rfl
 obtain⟨aaH,agZ,ag0,ag1,HFin,KX,Z7,tH,vK,HO1,HO2⟩:=EB afE afF afG afH afI hSa hSb afJ afK hO1 hO2;clear afE afF afG afH afI hSa hSb afJ afK hO1 hO2 tU hzk hMa hMb hS hDe hHH hG env ord;go_enter Tryz.func6,Tryz.ntmps6;go_upto_region 2 with(first
  |(go_at_call 16;(with_reducible refine(HO1.out _).mono ?_);rintro r w1⟨⟨Aa,ca,rfl,ha⟩,d1⟩;obtain⟨TA1,NZ⟩:=aN ha d1;clear ha d1)
  |(go_at_call 16;(with_reducible refine(HO2.out _).mono ?_);rintro r w2⟨⟨Ab,cb,rfl,hb⟩,d2⟩;obtain⟨TA2,TC2⟩:=aN (TA1.out.below d2) hb;have N4:=aZ NZ d2;clear hb d2 TA1 NZ))
 have k1:=boxed w2 (.cells #[.int .u64 1,.slice Aa 1 ca,au,.string pol] 26);have k2:=boxed (w2.alloc (.cells #[.int .u64 1,.slice Aa 1 ca,au,.string pol] 26)) (.cells #[.int .u64 2,.slice Ab 1 cb,au,.string pol] 26);have hP:=aG.new w2 26 #[.int .u64 1,.slice Aa 1 ca,au,.string pol];have DN:=ae (hP.below k2 hP.lt);have hQ:=aG.new (w2.alloc (.cells #[.int .u64 1,.slice Aa 1 ca,au,.string pol] 26)) 26 #[.int .u64 2,.slice Ab 1 cb,au,.string pol];rw[show(w2.alloc (.cells #[.int .u64 1,.slice Aa 1 ca,au,.string pol] 26)).heap.size=w2.heap.size+1 by simp]at hQ;obtain⟨EA,DO,TA3,TC3⟩:=cY hQ (after (after N4.out k1) k2) ((TA2.out.below k1).below k2) ((TC2.out.below k1).below k2);clear k1 k2 hP hQ N4 TA2 TC2;generalize(w2.alloc (.cells #[.int .u64 1,.slice Aa 1 ca,au,.string pol] 26)).alloc (.cells #[.int .u64 2,.slice Ab 1 cb,au,.string pol] 26)=w3 at DN EA DO TA3 TC3⊢;generalize w2.heap.size+1=Q at EA⊢;generalize w2.heap.size=P at DN⊢;obtain⟨p0,p1,p2,p3⟩:=dV DN;go_upto_region 3 with(go_at_call 7;refine(aaH.out _ DO.out _ _ TA3.out).mono ?_;rintro r w4⟨rfl,d4⟩;have TB4:=aZ DO d4;obtain⟨Yr,TQ4,TA4,TC4⟩:=cY (bJ DN d4) (bJ EA d4) (TA3.out.below d4) (TC3.out.below d4);clear DO DN EA TA3 TC3;clear d4)
 clear p0 p1 p2 p3;go_upto_region 4 with(go_at_call 9;refine(agZ.out _ TB4.out).mono ?_;rintro r w5⟨⟨Ax,cx,Rx,rx,rfl,hx,hrx⟩,d⟩;have afL:=aZ TB4 d;obtain⟨afM,afN,afO,afP⟩:=cY (bJ Yr d) (bJ TQ4 d) (TA4.out.below d) (TC4.out.below d);clear TB4 Yr TQ4 TA4 TC4;obtain⟨afQ,abH⟩:=aN hx hrx;clear hx hrx;clear d)
 have kk:=boxed w5 (.cells #[.int .u64 1,.slice Ax 1 cx,.slice Rx 0 rx,.string pol] 26);have aaT:=aZ afL kk;obtain⟨aaU,aaV,aaW,aaX,adD,Xx,Ob⟩:=mM (bJ afM kk) (bJ afN kk) (afO.out.below kk) (afP.out.below kk) (afQ.out.below kk) (fM abH.out kk) (aG.new w5 26 #[.int .u64 1,.slice Ax 1 cx,.slice Rx 0 rx,.string pol]);clear afL afM afN afO afP afQ abH;clear kk;generalize w5.alloc (.cells #[.int .u64 1,.slice Ax 1 cx,.slice Rx 0 rx,.string pol] 26)=w6 at aaT aaU aaV aaW aaX adD Xx Ob⊢;generalize w5.heap.size=X at Ob⊢;obtain⟨p0,p1,p2,p3⟩:=dV aaU;obtain⟨q0,q1,q2,q3⟩:=dV aaV;go_upto_region 5 with(go_at_call 17;refine(ag0.out _ aaT.out _ _ _ _ aaW.out aaX.out).mono ?_;rintro r w7⟨⟨As,cs,Ag,cg,Ar,cr,rfl,hd⟩,d⟩;have abI:=aZ aaT d;obtain⟨abJ,abK,abL,abM,abN,Xy,Xz⟩:=mM (bJ aaU d) (bJ aaV d) (aaW.out.below d) (aaX.out.below d) (adD.out.below d) (fM Xx.out d) (bJ Ob d);clear aaT aaU aaV aaW aaX adD Xx Ob;have abO:=ae hd;clear hd;clear d)
 have kk:=boxed w7 (.cells #[.int .u64 1,.int .u64 2,.slice As 1 cs,.slice Ag 0 cg,.bool false,.slice Ar 0 cr,.bool false,aI,.string HH] 29);have Oc:=aZ abI kk;obtain⟨Oe,XA,Og,XC,XD,L9,Mc,Oh,y9⟩:=SC (bJ abJ kk) (bJ abK kk) (abL.out.below kk) (abM.out.below kk) (abN.out.below kk) (fM Xy.out kk) (bJ Xz kk) (abO.out.below kk) (aG.new w7 29 #[.int .u64 1,.int .u64 2,.slice As 1 cs,.slice Ag 0 cg,.bool false,.slice Ar 0 cr,.bool false,aI,.string HH]);clear abI abJ abK abL abM abN Xy Xz abO;clear kk;generalize w7.alloc (.cells #[.int .u64 1,.int .u64 2,.slice As 1 cs,.slice Ag 0 cg,.bool false,.slice Ar 0 cr,.bool false,aI,.string HH] 29)=w8 at Oc Oe XA Og XC XD L9 Mc Oh y9⊢;generalize w7.heap.size=DP at y9⊢;clear p0 p1 p2 p3 q0 q1 q2 q3;obtain⟨p0,p1,p2,p3⟩:=dV Oe;obtain⟨q0,q1,q2,q3,q4,q5,q6,q7,q8⟩:=oR y9;go_upto_region 6 with(go_at_call 18;refine(ag1.out _ Oc.out _ _ _ _ _ _ _ _ Og.out Oh.out).mono ?_;rintro r w9⟨⟨Ay,cy,Yu,ry,rfl,hy,hry⟩,d⟩;have XE:=aZ Oc d;obtain⟨XF,XG,XI,XJ,XK,Oi,Oj,XM,Ol⟩:=SC (bJ Oe d) (bJ XA d) (Og.out.below d) (XC.out.below d) (XD.out.below d) (fM L9.out d) (bJ Mc d) (Oh.out.below d) (bJ y9 d);clear Oc Oe XA Og XC XD L9 Mc Oh y9;obtain⟨XN,Om⟩:=aN hy hry;clear hy hry;clear d)
 have kk:=boxed w9 (.cells #[.int .u64 2,.slice Ay 1 cy,.slice Yu 0 ry,.string pol] 26);have DX:=aZ XE kk;obtain⟨DY,Md,DZ,Me,MA,D7,D8,MB,D9,MC,Ec,wS⟩:=oP (bJ XF kk) (bJ XG kk) (XI.out.below kk) (XJ.out.below kk) (XK.out.below kk) (fM Oi.out kk) (bJ Oj kk) (XM.out.below kk) (bJ Ol kk) (XN.out.below kk) (fM Om.out kk) (aG.new w9 26 #[.int .u64 2,.slice Ay 1 cy,.slice Yu 0 ry,.string pol]);clear XE XF XG XI XJ XK Oi Oj XM Ol XN Om;clear kk;generalize w9.alloc (.cells #[.int .u64 2,.slice Ay 1 cy,.slice Yu 0 ry,.string pol] 26)=wA at DX DY Md DZ Me MA D7 D8 MB D9 MC Ec wS⊢;generalize w9.heap.size=YP at wS⊢;clear p0 p1 p2 p3 q0 q1 q2 q3 q4 q5 q6 q7 q8;obtain⟨p0,p1,p2,p3⟩:=dV DY;go_upto_region 7 with(go_at_call 19;refine(HFin.out _ DX.out _ _ DZ.out).mono ?_;rintro r wB⟨⟨A1,c1,A2,c2,A3,c3,rfl⟩,d⟩;have On:=aZ DX d;obtain⟨Oo,Oq,Ot,Ou,Ov,Hw,Hz,Ox,Ia,Oy,Ib,Ic⟩:=oP (bJ DY d) (bJ Md d) (DZ.out.below d) (Me.out.below d) (MA.out.below d) (fM D7.out d) (bJ D8 d) (MB.out.below d) (bJ D9 d) (MC.out.below d) (fM Ec.out d) (bJ wS d);clear DX DY Md DZ Me MA D7 D8 MB D9 MC Ec wS;skip;clear d)
 have kk:=boxed wB (.cells #[.string zk,.string zk,.string ⟨#[97,110,110]⟩,.slice A1 0 c1,.slice A2 1 c2,.int .u64 9,.int .u8 0,.slice A3 0 c3] 50);have Ed:=aZ On kk;obtain⟨wT,wU,wV,Ee,wW,sV,sW,Ef,sZ,Eg,za,tc⟩:=oP (bJ Oo kk) (bJ Oq kk) (Ot.out.below kk) (Ou.out.below kk) (Ov.out.below kk) (fM Hw.out kk) (bJ Hz kk) (Ox.out.below kk) (bJ Ia kk) (Oy.out.below kk) (fM Ib.out kk) (bJ Ic kk);have pU:=ae (aG.new wB 50 #[.string zk,.string zk,.string ⟨#[97,110,110]⟩,.slice A1 0 c1,.slice A2 1 c2,.int .u64 9,.int .u8 0,.slice A3 0 c3]);clear On Oo Oq Ot Ou Ov Hw Hz Ox Ia Oy Ib Ic;clear kk;generalize wB.alloc (.cells #[.string zk,.string zk,.string ⟨#[97,110,110]⟩,.slice A1 0 c1,.slice A2 1 c2,.int .u64 9,.int .u8 0,.slice A3 0 c3] 50)=wC at Ed wT wU wV Ee wW sV sW Ef sZ Eg za tc pU⊢;generalize wB.heap.size=ZP at pU⊢;clear p0 p1 p2 p3;obtain⟨p0,p1,p2,p3⟩:=dV wT;obtain⟨x0,x1,x2,x3⟩:=dV sW;obtain⟨-,-,d2⟩:=jf sZ;obtain⟨q0,q1,q2,q3⟩:=dV wU;obtain⟨y0,y1,y2,y3⟩:=dV tc;obtain⟨-,-,z2⟩:=jf pU;go_wp2_with(first
  |(go_at_call 20;(with_reducible refine(KX.out _ _ _ _ _ _ _ wV.out wW.out sV.out).mono ?_);rintro r wD⟨rfl,dD⟩;clear p0 p1 p2 p3 x0 x1 x2 x3 d2 q0 q1 q2 q3 y0 y1 y2 y3 z2;have Ss:=aZ Ed dD;obtain⟨IC,Lu,TA5,TC5,TX5,afR,adF,Ys,adG,TY5,adH,adI⟩:=oP (bJ wT dD) (bJ wU dD) (wV.out.below dD) (Ee.out.below dD) (wW.out.below dD) (fM sV.out dD) (bJ sW dD) (Ef.out.below dD) (bJ sZ dD) (Eg.out.below dD) (fM za.out dD) (bJ tc dD);have adJ:=ae (bJ pU dD);clear Ed wT wU wV Ee wW sV sW Ef sZ Eg za tc pU;clear dD;obtain⟨p0,p1,p2,p3⟩:=dV IC;obtain⟨x0,x1,x2,x3⟩:=dV adF;obtain⟨-,-,d2⟩:=jf adG;obtain⟨q0,q1,q2,q3⟩:=dV Lu;obtain⟨y0,y1,y2,y3⟩:=dV adI;obtain⟨-,-,z2⟩:=jf adJ)
  |(go_at_call 20;(with_reducible refine(Z7.out _ _ _ _ _ _ _ TC5.out TY5.out adH.out).mono ?_);rintro r wE⟨rfl,dE⟩;clear p0 p1 p2 p3 x0 x1 x2 x3 d2 q0 q1 q2 q3 y0 y1 y2 y3 z2;have Yt:=aZ Ss dE;obtain⟨TP6,TQ6,TA6,TC6,TX6,afS,adK,TD6,adM,TY6,afT,adN⟩:=oP (bJ IC dE) (bJ Lu dE) (TA5.out.below dE) (TC5.out.below dE) (TX5.out.below dE) (fM afR.out dE) (bJ adF dE) (Ys.out.below dE) (bJ adG dE) (TY5.out.below dE) (fM adH.out dE) (bJ adI dE);have adO:=ae (bJ adJ dE);clear Ss IC Lu TA5 TC5 TX5 afR adF Ys adG TY5 adH adI adJ;clear dE;obtain⟨p0,p1,p2,p3⟩:=dV TP6;obtain⟨x0,x1,x2,x3⟩:=dV adK;obtain⟨-,-,d2⟩:=jf adM;obtain⟨q0,q1,q2,q3⟩:=dV TQ6;obtain⟨y0,y1,y2,y3⟩:=dV adN;obtain⟨-,-,z2⟩:=jf adO)
  |(go_at_call 21;refine(tH.out _ Yt.out _ _ TA6.out).mono ?_;rintro r wF⟨rfl,dF⟩;clear p0 p1 p2 p3 x0 x1 x2 x3 d2 q0 q1 q2 q3 y0 y1 y2 y3 z2;have TB7:=aZ Yt dF;obtain⟨TP7,TQ7,TA7,TC7,TX7,ahy,ag2,TD7,ag3,TY7,ahz,ag4⟩:=oP (bJ TP6 dF) (bJ TQ6 dF) (TA6.out.below dF) (TC6.out.below dF) (TX6.out.below dF) (fM afS.out dF) (bJ adK dF) (TD6.out.below dF) (bJ adM dF) (TY6.out.below dF) (fM afT.out dF) (bJ adN dF);have ag5:=ae (bJ adO dF);clear Yt TP6 TQ6 TA6 TC6 TX6 afS adK TD6 adM TY6 afT adN adO;clear dF;obtain⟨p0,p1,p2,p3⟩:=dV TP7;obtain⟨x0,x1,x2,x3⟩:=dV ag2;obtain⟨-,-,d2⟩:=jf ag3;obtain⟨q0,q1,q2,q3⟩:=dV TQ7;obtain⟨y0,y1,y2,y3⟩:=dV ag4;obtain⟨-,-,z2⟩:=jf ag5)
  |(go_at_call 22;refine(vK.out _ TB7.out).mono ?_;rintro r wG⟨rfl,dG⟩))
 go_ret;exact⟨by simp,after TB7.out dG⟩
structure BkI(w:World)(P Q:Nat)(cm cd:Array Value)(W:World):Prop where
 low:aW w W
 pm:aG W P 26 cm
 pd:aG W Q 29 cd
theorem BkI.below{w W U:World}{P Q:Nat}{cm cd:Array Value}(h:BkI w P Q cm cd W)(d:aW W U):BkI w P Q cm cd U:=⟨after h.low d,h.pm.below d h.pm.lt,h.pd.below d h.pd.lt⟩
theorem aaY{m:Mp}(h:(cT m).2=0):(cT m).1.size≤32768:=by
 obtain⟨_,h2,h3⟩:=jw h;have e:cT m=(gJ (uU m),0):=h3;rw[e];show(gJ (uU m)).size≤_;rw[←dT,show(gJ (uU m)).data.toList=uU m from rfl];exact h2
theorem XO{m:Dl}(h:(lO m).2=0):(lO m).1.size≤32768:=by
 obtain⟨_,h2,h3⟩:=jw h;have e:lO m=(gJ (Az m),0):=h3;rw[e];show(gJ (Az m)).size≤_;rw[←dT,show(gJ (Az m)).data.toList=Az m from rfl];exact h2
def abP(m:Mp)(w:World)(r:Ending)(w':World):Prop:=(∃A1 c1 A2 c2,r=.returned (.agg #[.int .u64 (m.version:Int),.slice A1 m.aK.length c1,.slice A2 m.ax.length c2,.string m.policy])∧dJ w' (.slice A1 m.aK.length c1) m.aK∧fy w' (.slice A2 m.ax.length c2) m.ax)∧aW w w'
def XP(m:Mp)(w:World)(r:Ending)(w':World):Prop:=(∃A1 c1 A2 c2,r=.returned (.tuple #[.agg #[.int .u64 (m.version:Int),.slice A1 m.aK.length c1,.slice A2 m.ax.length c2,.string m.policy],.int .i64 0])∧dJ w' (.slice A1 m.aK.length c1) m.aK∧fy w' (.slice A2 m.ax.length c2) m.ax)∧aW w w'
def XQ(d:Dl)(e:Nat)(w:World)(r:Ending)(w':World):Prop:=(∃A1 c1 A2 c2 A3 c3,r=.returned (.tuple #[.agg (fc d (.slice A1 d.aL.length c1) (.slice A2 d.gone.length c2) (.slice A3 d.ax.length c3)),.int .i64 e])∧kz w' d (.slice A1 d.aL.length c1) (.slice A2 d.gone.length c2) (.slice A3 d.ax.length c3))∧aW w w'
theorem XR{w:World}{D:Dl}{e:Nat}{r:Ending}{w':World}(h:WB D e w r w'):XQ D e w r w':=by
 obtain⟨⟨sv,gv,rv,rfl,hd⟩,b⟩:=h;obtain⟨C1,k1,f1⟩:=hd.aL.shape;obtain⟨C2,k2,f2⟩:=hd.gone.shape;obtain⟨C3,k3,f3⟩:=aY.shape hd.ax;subst f1 f2 f3;exact⟨⟨_,_,_,_,_,_,rfl,hd⟩,b⟩
theorem Oz{u:World}{m:Mp}{f:Nat}{args:Array Value}{X:ByteArray×Nat}(h:Calls ah f args u fun r w'=>(∃(t:ByteArray)(e:Nat),(t,e)=X∧r=.returned (.tuple #[.string t,.int .i64 e]))∧aW u w'):Calls ah f args u (Got (.tuple #[.string X.1,.int .i64 (X.2:Int)]) u):=by
 refine h.mono ?_;rintro r w'⟨⟨t,e,rfl,rfl⟩,b⟩;exact⟨rfl,b⟩
theorem XS{w:World}(env:Env w)(ord:gd w){pa ra:Value}{m:Mp}(ha:dJ w pa m.aK)(hr:fy w ra m.ax)(fm:kM m)(sm:Lp m){d:Dl}{sv gv rv:Value}(hd:kz w d sv gv rv)(fd:sx d)(sd:yF d)(s:ByteArray)(hs:s.size≤2000000):Calls ah 3 #[.agg #[.int .u64 (m.version:Int),pa,ra,.string m.policy],.agg (fc d sv gv rv),.string s] w (Got (.bool true) w):=by
 have hwk:=fun u(hu:aW w u)=>L8 (env.below hu) (ord.below hu ord.lt)
 have hhv:=fun u(hu:aW w u)=>yT (ha.below hu) (aY.below hr hu) sm.sz sm.pl sm.rl
 have hhd:=fun u(hu:aW w u)=>G7 (hd.below hu) sd
 have hcp:∀u,aW w u→Calls ah 8 #[.agg #[.int .u64 (m.version:Int),pa,ra,.string m.policy]] u (abP m u):=fun u hu=>(Rw (ha.below hu) (aY.below hr hu) sm.sz sm.pl sm.rl).mono fun r w'⟨⟨A1,c1,A2,c2,e,h1,h2⟩,b⟩=>⟨⟨A1,c1,A2,c2,e,h1.rd,aY.dh h2⟩,b⟩
 have hcd:=fun u(hu:aW w u)=>LH (hd.below hu) sd
 have hen:=fun u pv rv(hu:aW w u)(h1:dJ u pv m.aK)(h2:fy u rv m.ax)=>Oz (m:=m) (lu (env.below hu) h1 h2 fm sm.sz (by have:=sm.pl;omega) (by have:=sm.rl;omega) sm.ol od)
 have hed:=fun u sv gv rv(hu:aW w u)(h:kz u d sv gv rv)=>Oz (m:=m) (uo (env.below hu) h fd sd W8)
 have hsa:=fun u pv rv(hu:aW w u)(h1:dJ u pv m.aK)(h2:fy u rv m.ax)=>Rt (x:=m) (y:=m) h1 h2 (ha.below hu) (aY.below hr hu) sm.sz sm.sz (by have:=sm.pl;omega) (by have:=sm.pl;omega) (by have:=sm.rl;omega) (by have:=sm.rl;omega)
 have hsd:=fun u sv1 gv1 Sz(hu:aW w u)(h:kz u d sv1 gv1 Sz)=>LD (x:=d) (y:=d) h (hd.below hu) sd sd
 have hdm:(cT m).2=0→∀u,aW w u→Calls ah 9 #[.string (cT m).1] u (XP m u):=fun h u hu=>by
  have:=decode_any (env.below hu) (cT m).1 (by have:=aaY h;omega);rw[Nk (U8 fm (nR h)) h]at this;exact this
 have hdd:(lO d).2=0→∀u,aW w u→Calls ah 13 #[.string (lO d).1] u (XQ d 0 u):=fun h u hu=>by
  have:=Bj (env.below hu) (lO d).1 (by have:=XO h;omega);rw[ZZ (abt fd (jw h).1) h]at this;exact this.mono fun _ _=>XR
 have hms:=fun u(hu:aW w u)=>decode_any (env.below hu) s (by omega)
 have hds:=fun u(hu:aW w u)=>(Bj (env.below hu) s aQ).mono fun _ _=>XR
 have hem:(mT s).2=0→∀u pv rv,aW w u→dJ u pv (mT s).1.aK→fy u rv (mT s).1.ax→Calls ah 7 #[.agg #[.int .u64 ((mT s).1.version:Int),pv,rv,.string (mT s).1.policy]] u (Got (.tuple #[.string s,.int .i64 0]) u):=fun h u pv rv hu h1 h2=>by
  obtain⟨e1,e2⟩:=ZY (show mT s=((mT s).1,0) by rw[←h]);obtain⟨f1,f2⟩:=V1 e2;have k1:=e2.aK.1;have k2:=e2.ax.1;have k3:=e2.policy;refine(lu (env.below hu) h1 h2 f1 f2 aQ aQ aQ od).mono ?_;rintro r w'⟨⟨t,e,hte,rfl⟩,b⟩;rw[e1]at hte;injection hte with q1 q2
  subst q1 q2;exact⟨rfl,b⟩
 have hel:(oK s).2=0→∀u sv gv rv,aW w u→kz u (oK s).1 sv gv rv→Calls ah 11 #[.agg (fc (oK s).1 sv gv rv)] u (Got (.tuple #[.string s,.int .i64 0]) u):=fun h u sv gv rv hu h1=>by
  obtain⟨e1,e2⟩:=Z1 (show oK s=((oK s).1,0) by rw[←h]);obtain⟨f1,f2⟩:=Xf e2;refine(uo (env.below hu) h1 f1 f2 W8).mono ?_;rintro r w'⟨⟨t,e,hte,rfl⟩,b⟩;rw[e1]at hte;injection hte with q1 q2
  subst q1 q2;exact⟨rfl,b⟩
 obtain⟨kU,ca1,e1⟩:=ha.shape;obtain⟨kV,ca2,e2⟩:=aY.shape hr;obtain⟨As,cs,e3⟩:=hd.aL.shape;obtain⟨Ag,cg,e4⟩:=hd.gone.shape;obtain⟨Ar,cr,e5⟩:=aY.shape hd.ax;clear ha hr fm sm hd fd sd env ord;simp only[decide_true]at hsa hsd;generalize cT m=EM at hen hdm;generalize lO d=ED at hed hdd;generalize mT s=DM at hms hem;generalize oK s=DD at hds hel;obtain⟨em1,em2⟩:=EM;obtain⟨ed1,ed2⟩:=ED;obtain⟨ms,mse⟩:=DM;obtain⟨ds,dse⟩:=DD;obtain⟨va,aK,ax,ta⟩:=m;obtain⟨base,ver,aL,gone,cS,aaL,cX,pol,hash⟩:=d;obtain⟨vs,adQ,aaZ,ts⟩:=ms;obtain⟨XT,adR,Xn,Xo,XU,afU,XW,kW,jK⟩:=ds;simp only at*;subst e1 e2 e3 e4 e5;unfold abP at hcp;unfold adr at hcd;unfold XP at hdm;unfold AX at hms;unfold XQ at hdd hds;unfold sR at hhv hhd;unfold fc at*;simp only at*;obtain⟨ib,hn1⟩:=bq aK.length;obtain⟨ic,hn2⟩:=bq ax.length;obtain⟨ns,hn3⟩:=bq aL.length;obtain⟨ng,hn4⟩:=bq gone.length;obtain⟨nr,hn5⟩:=bq aaL.length;simp only[←hn1,←hn2,←hn3,←hn4,←hn5]at*;obtain⟨HWk,HHv,HHd,HCp,HCd,HEn,HEd,KX,HSd,HDm,HDd,HMs⟩:=oP hwk hhv hhd hcp hcd hen hed hsa hsd hdm hdd hms;obtain⟨HDs,HEm,HEl,vF,HN4,HN5⟩:=mL hds hem hel hn3 hn4 hn5;clear hwk hhv hhd hcp hcd hen hed hsa hsd hdm hdd hms hds hem hel hn1 hn2 hn3 hn4 hn5;have hb1:=boxed w (.cells #[.int .u64 va,.slice kU ib ca1,.slice kV ic ca2,.string ta] 26);have hp1:=aG.new w 26 #[.int .u64 va,.slice kU ib ca1,.slice kV ic ca2,.string ta];have hb2:=boxed (w.alloc (.cells #[.int .u64 va,.slice kU ib ca1,.slice kV ic ca2,.string ta] 26)) (.cells #[.int .u64 base,.int .u64 ver,.slice As ns cs,.slice Ag ng cg,.bool cS,.slice Ar nr cr,.bool cX,.string pol,.string hash] 29);have hp2:=aG.new (w.alloc (.cells #[.int .u64 va,.slice kU ib ca1,.slice kV ic ca2,.string ta] 26)) 29 #[.int .u64 base,.int .u64 ver,.slice As ns cs,.slice Ag ng cg,.bool cS,.slice Ar nr cr,.bool cX,.string pol,.string hash];have I0:ag (BkI w w.heap.size (w.alloc (.cells #[.int .u64 va,.slice kU ib ca1,.slice kV ic ca2,.string ta] 26)).heap.size #[.int .u64 va,.slice kU ib ca1,.slice kV ic ca2,.string ta] #[.int .u64 base,.int .u64 ver,.slice As ns cs,.slice Ag ng cg,.bool cS,.slice Ar nr cr,.bool cX,.string pol,.string hash] ((w.alloc (.cells #[.int .u64 va,.slice kU ib ca1,.slice kV ic ca2,.string ta] 26)).alloc (.cells #[.int .u64 base,.int .u64 ver,.slice As ns cs,.slice Ag ng cg,.bool cS,.slice Ar nr cr,.bool cX,.string pol,.string hash] 29))):=ae ⟨after hb1 hb2,hp1.below hb2 hp1.lt,hp2⟩;rw[show(w.alloc (.cells #[.int .u64 va,.slice kU ib ca1,.slice kV ic ca2,.string ta] 26)).heap.size=w.heap.size+1 by simp]at I0;clear hb1 hp1 hb2 hp2;go_enter Tryz.func3,Tryz.ntmps3;go_upto_region 1 with fail
 generalize(w.alloc (.cells #[.int .u64 va,.slice kU ib ca1,.slice kV ic ca2,.string ta] 26)).alloc (.cells #[.int .u64 base,.int .u64 ver,.slice As ns cs,.slice Ag ng cg,.bool cS,.slice Ar nr cr,.bool cX,.string pol,.string hash] 29)=w1 at I0⊢;generalize w.heap.size+1=Q at I0⊢;obtain⟨P,hP⟩:=bq w.heap.size;rw[←hP]at I0⊢;have kr:=ae hP;clear hP;have p0:=I0.out.pm.cell 0;have p1:=I0.out.pm.cell 1;have p2:=I0.out.pm.cell 2;have p3:=I0.out.pm.cell 3;simp at p0 p1 p2 p3;have q0:=I0.out.pd.cell 0;have q1:=I0.out.pd.cell 1;have q2:=I0.out.pd.cell 2;have q3:=I0.out.pd.cell 3;have q4:=I0.out.pd.cell 4;have q5:=I0.out.pd.cell 5;have q6:=I0.out.pd.cell 6;have q7:=I0.out.pd.cell 7;have q8:=I0.out.pd.cell 8;simp at q0 q1 q2 q3 q4 q5 q6 q7 q8;by_cases hsl:(8192:Int)<(s.size:Int)
 ·go_upto_if 32 with(first
   |(go_at_call 4;refine(HHv.out _ I0.out.low).mono ?_;rintro r w2⟨⟨b,rfl⟩,d2⟩;have I1:=ae (I0.out.below d2);have y0:=ak q0 d2;have y1:=ak q1 d2;have y2:=ak q2 d2;have y3:=ak q3 d2;have y4:=ak q4 d2;have y5:=ak q5 d2;have y6:=ak q6 d2;have y7:=ak q7 d2;have y8:=ak q8 d2;cases b)
   |(go_at_call 5;refine(HHd.out _ I1.out.low).mono ?_;rintro r w3⟨⟨b2,rfl⟩,d3⟩;have I2:=ae (I1.out.below d3);cases b2))
  ·go_wp2_with(go_at_call 6;refine(HWk.out _ I2.out.low).mono ?_;rintro r wz⟨rfl,dz⟩)
   go_ret;exact⟨rfl,after I2.out.low dz⟩
  ·go_wp2_with(go_at_call 6;refine(HWk.out _ I2.out.low).mono ?_;rintro r wz⟨rfl,dz⟩)
   go_ret;exact⟨rfl,after I2.out.low dz⟩
  ·go_wp2_with(go_at_call 6;refine(HWk.out _ I1.out.low).mono ?_;rintro r wz⟨rfl,dz⟩)
   go_ret;exact⟨rfl,after I1.out.low dz⟩
 go_upto_if 32 with(first
  |(go_at_call 4;refine(HHv.out _ I0.out.low).mono ?_;rintro r w2⟨⟨b,rfl⟩,d2⟩;have I1:=ae (I0.out.below d2);have y0:=ak q0 d2;have y1:=ak q1 d2;have y2:=ak q2 d2;have y3:=ak q3 d2;have y4:=ak q4 d2;have y5:=ak q5 d2;have y6:=ak q6 d2;have y7:=ak q7 d2;have y8:=ak q8 d2;cases b)
  |(go_at_call 5;refine(HHd.out _ I1.out.low).mono ?_;rintro r w3⟨⟨b2,rfl⟩,d3⟩;have I2:=ae (I1.out.below d3);cases b2))
 rotate_left
 ·go_wp2_with(go_at_call 6;refine(HWk.out _ I2.out.low).mono ?_;rintro r wz⟨rfl,dz⟩)
  go_ret;exact⟨rfl,after I2.out.low dz⟩
 ·go_wp2_with(go_at_call 6;refine(HWk.out _ I1.out.low).mono ?_;rintro r wz⟨rfl,dz⟩)
  go_ret;exact⟨rfl,after I1.out.low dz⟩
 clear HHv HHd d2 d3 I0 I1 p0 p1 p2 p3 q0 q1 q2 q3 q4 q5 q6 q7 q8 y0 y1 y2 y3 y4 y5 y6 y7 y8;obtain⟨w3,rfl⟩:=bq (w3:World);have p0:=I2.out.pm.cell 0;have p1:=I2.out.pm.cell 1;have p2:=I2.out.pm.cell 2;have p3:=I2.out.pm.cell 3;simp at p0 p1 p2 p3;go_upto_if 41 with(first
  |(go_at_call 8;refine(HCp.out _ I2.out.low).mono ?_;rintro r w4⟨⟨B1,m1,B2,m2,rfl,hp4,hr4⟩,d4⟩;have I3:=ae (I2.out.below d4);have HE4:=ae (HEn.out w4 _ _ I3.out.low hp4 hr4);clear hp4 hr4 d4)
  |(go_at_call 7;refine HE4.out.mono ?_;rintro r w5⟨rfl,d5⟩;have I4:=ae (I3.out.below d5);clear d5))
 clear hsl I2 I3 HE4 HCp HEn p0 p1 p2 p3;go_cut []from 9 (fun wx=>ag (BkI w P Q #[.int .u64 va,.slice kU ib ca1,.slice kV ic ca2,.string ta] #[.int .u64 base,.int .u64 ver,.slice As ns cs,.slice Ag ng cg,.bool cS,.slice Ar nr cr,.bool cX,.string pol,.string hash] wx))
 case first=>
  by_cases he:em2=0
  ·have qe:((em2:Int)==0)=true:=by simp[he]
   have HD:=ae (HDm.out he);clear he;go_upto_region 6 with(go_at_call 9;refine(HD.out _ I4.out.low).mono ?_;rintro r w6⟨⟨C1,k1,C2,k2,rfl,hp6,hr6⟩,d6⟩;obtain⟨I5,HPr,IB⟩:=bu (I4.out.below d6) hp6 hr6;clear hp6 hr6 d6)
   have bx:=boxed w6 (.cells #[.int .u64 va,.slice C1 ib k1,.slice C2 ic k2,.string ta] 26);have nx:=aG.new w6 26 #[.int .u64 va,.slice C1 ib k1,.slice C2 ic k2,.string ta];have I6:=ae (I5.out.below bx);have HS6:=ae (KX.out _ _ _ I6.out.low (HPr.out.below bx) (aY.below IB.out bx));generalize w6.alloc (.cells #[.int .u64 va,.slice C1 ib k1,.slice C2 ic k2,.string ta] 26)=w7 at nx I6 HS6⊢;generalize w6.heap.size=X at nx⊢;have x0:=nx.cell 0;have x1:=nx.cell 1;have x2:=nx.cell 2;have x3:=nx.cell 3;simp at x0 x1 x2 x3;have p0:=I6.out.pm.cell 0;have p1:=I6.out.pm.cell 1;have p2:=I6.out.pm.cell 2;have p3:=I6.out.pm.cell 3;simp at p0 p1 p2 p3;clear bx nx I5 I4 HPr IB qe HD;go_wp2_with(go_at_call 10;refine HS6.out.mono ?_;rintro r w8⟨rfl,d8⟩;have I8:=ae (I6.out.below d8))
   go_meet;exact I8
  ·have qe:((em2:Int)==0)=false:=by simp;omega
   clear he;go_wp2_with fail
   go_meet;exact I4
 case rest=>
 obtain⟨w9,rfl⟩:=bq (wc:World);have J0:=hcut;clear I4 HDm KX hcut;have q0:=J0.out.pd.cell 0;have q1:=J0.out.pd.cell 1;have q2:=J0.out.pd.cell 2;have q3:=J0.out.pd.cell 3;have q4:=J0.out.pd.cell 4;have q5:=J0.out.pd.cell 5;have q6:=J0.out.pd.cell 6;have q7:=J0.out.pd.cell 7;have q8:=J0.out.pd.cell 8;simp at q0 q1 q2 q3 q4 q5 q6 q7 q8;go_upto_if 62 with(first
  |(go_at_call 12;refine(HCd.out _ J0.out.low).mono ?_;rintro r w10⟨⟨sv1,gv1,Sz,rfl,hd1⟩,d10⟩;have J1:=ae (J0.out.below d10);have yr:=ae (HEd.out w10 _ _ _ J1.out.low hd1);clear hd1 d10)
  |(go_at_call 11;refine yr.out.mono ?_;rintro r uP⟨rfl,d11⟩;have J2:=ae (J1.out.below d11);clear d11))
 clear J0 J1 yr HCd HEd q0 q1 q2 q3 q4 q5 q6 q7 q8;go_cut []from 12 (fun wx=>ag (BkI w P Q #[.int .u64 va,.slice kU ib ca1,.slice kV ic ca2,.string ta] #[.int .u64 base,.int .u64 ver,.slice As ns cs,.slice Ag ng cg,.bool cS,.slice Ar nr cr,.bool cX,.string pol,.string hash] wx))
 case first=>
  by_cases he:ed2=0
  ·have qe:((ed2:Int)==0)=true:=by simp[he]
   have HD:=ae (HDd.out he);clear he;go_upto_region 11 with(go_at_call 13;refine(HD.out _ J2.out.low).mono ?_;rintro r w12⟨⟨C1,k1,C2,k2,C3,k3,rfl,hd2⟩,d12⟩;obtain⟨J3,j6⟩:=aN (J2.out.below d12) hd2;clear hd2 d12)
   have bx:=boxed w12 (.cells #[.int .u64 base,.int .u64 ver,.slice C1 ns k1,.slice C2 ng k2,.bool cS,.slice C3 nr k3,.bool cX,.string pol,.string hash] 29);have nx:=aG.new w12 29 #[.int .u64 base,.int .u64 ver,.slice C1 ns k1,.slice C2 ng k2,.bool cS,.slice C3 nr k3,.bool cX,.string pol,.string hash];have J4:=ae (J3.out.below bx);have HS4:=ae (HSd.out _ _ _ _ J4.out.low (j6.out.below bx));generalize w12.alloc (.cells #[.int .u64 base,.int .u64 ver,.slice C1 ns k1,.slice C2 ng k2,.bool cS,.slice C3 nr k3,.bool cX,.string pol,.string hash] 29)=Ek at nx J4 HS4⊢;generalize w12.heap.size=X at nx⊢;have x0:=nx.cell 0;have x1:=nx.cell 1;have x2:=nx.cell 2;have x3:=nx.cell 3;have x4:=nx.cell 4;have x5:=nx.cell 5;have x6:=nx.cell 6;have x7:=nx.cell 7;have x8:=nx.cell 8;simp at x0 x1 x2 x3 x4 x5 x6 x7 x8;have q0:=J4.out.pd.cell 0;have q1:=J4.out.pd.cell 1;have q2:=J4.out.pd.cell 2;have q3:=J4.out.pd.cell 3;have q4:=J4.out.pd.cell 4;have q5:=J4.out.pd.cell 5;have q6:=J4.out.pd.cell 6;have q7:=J4.out.pd.cell 7;have q8:=J4.out.pd.cell 8;simp at q0 q1 q2 q3 q4 q5 q6 q7 q8;clear bx nx J3 J2 j6 qe HD;go_wp2_with(go_at_call 14;refine HS4.out.mono ?_;rintro r jH⟨rfl,ji⟩;have J5:=ae (J4.out.below ji))
   go_meet;exact J5
  ·have qe:((ed2:Int)==0)=false:=by simp;omega
   clear he;go_wp2_with fail
   go_meet;exact J2
 case rest=>
 obtain⟨qP,rfl⟩:=bq (wc:World);have K0:=hcut;clear J2 HDd HSd hcut;go_upto_region 14 with(go_at_call 9;refine(HMs.out _ K0.out.low).mono ?_;rintro r w16⟨⟨C1,k1,C2,k2,rfl,hp6,hr6⟩,jF⟩;obtain⟨K1,HPr,IB⟩:=bu (K0.out.below jF) hp6 hr6;clear hp6 hr6 jF)
 obtain⟨l1,hl1⟩:=bq adQ.length;obtain⟨l2,hl2⟩:=bq aaZ.length;rw[←hl1,←hl2];rw[←hl1]at HPr;rw[←hl2]at IB;clear hl1 hl2;have bx:=boxed w16 (.cells #[.int .u64 vs,.slice C1 l1 k1,.slice C2 l2 k2,.string ts] 26);have nx:=aG.new w16 26 #[.int .u64 vs,.slice C1 l1 k1,.slice C2 l2 k2,.string ts];obtain⟨K2,WG,Lr⟩:=bu (K1.out.below bx) (HPr.out.below bx) (aY.below IB.out bx);generalize w16.alloc (.cells #[.int .u64 vs,.slice C1 l1 k1,.slice C2 l2 k2,.string ts] 26)=w17 at nx K2 WG Lr⊢;generalize w16.heap.size=X at nx⊢;have x0:=nx.cell 0;have x1:=nx.cell 1;have x2:=nx.cell 2;have x3:=nx.cell 3;simp at x0 x1 x2 x3;clear bx nx K0 K1 HPr IB HMs;go_upto_if 82 with fail
 go_cut []from 16 (fun wx=>ag (BkI w P Q #[.int .u64 va,.slice kU ib ca1,.slice kV ic ca2,.string ta] #[.int .u64 base,.int .u64 ver,.slice As ns cs,.slice Ag ng cg,.bool cS,.slice Ar nr cr,.bool cX,.string pol,.string hash] wx))
 case first=>
  by_cases he:mse=0
  ·have qe:((mse:Int)==0)=true:=by simp[he]
   have HE:=ae (HEm.out he _ _ _ K2.out.low WG.out Lr.out);have qs:=eX (rfl:s=s);clear he;go_wp2_with(go_at_call 7;refine HE.out.mono ?_;rintro r w18⟨rfl,d18⟩;have K3:=ae (K2.out.below d18))
   go_meet;exact K3
  ·have qe:((mse:Int)==0)=false:=by simp;omega
   clear he;go_wp2_with fail
   go_meet;exact K2
 case rest=>
 obtain⟨w19,rfl⟩:=bq (wc:World);have L0:=hcut;clear K2 WG Lr HEm hcut x0 x1 x2 x3;go_upto_region 19 with(go_at_call 13;refine(HDs.out _ L0.out.low).mono ?_;rintro r JO⟨⟨C1,k1,C2,k2,C3,k3,rfl,hd2⟩,ky⟩;obtain⟨L1,j6⟩:=aN (L0.out.below ky) hd2;clear hd2 ky)
 obtain⟨l3,hl3⟩:=bq Xn.length;obtain⟨l4,hl4⟩:=bq Xo.length;obtain⟨l5,hl5⟩:=bq afU.length;rw[←hl3,←hl4,←hl5];rw[←hl3,←hl4,←hl5]at j6;clear hl3 hl4 hl5;have bx:=boxed JO (.cells #[.int .u64 XT,.int .u64 adR,.slice C1 l3 k1,.slice C2 l4 k2,.bool XU,.slice C3 l5 k3,.bool XW,.string kW,.string jK] 29);have nx:=aG.new JO 29 #[.int .u64 XT,.int .u64 adR,.slice C1 l3 k1,.slice C2 l4 k2,.bool XU,.slice C3 l5 k3,.bool XW,.string kW,.string jK];obtain⟨L2,Lr⟩:=aN (L1.out.below bx) (j6.out.below bx);generalize JO.alloc (.cells #[.int .u64 XT,.int .u64 adR,.slice C1 l3 k1,.slice C2 l4 k2,.bool XU,.slice C3 l5 k3,.bool XW,.string kW,.string jK] 29)=w21 at nx L2 Lr⊢;generalize JO.heap.size=X at nx⊢;have x0:=nx.cell 0;have x1:=nx.cell 1;have x2:=nx.cell 2;have x3:=nx.cell 3;have x4:=nx.cell 4;have x5:=nx.cell 5;have x6:=nx.cell 6;have x7:=nx.cell 7;have x8:=nx.cell 8;simp at x0 x1 x2 x3 x4 x5 x6 x7 x8;clear bx nx L0 L1 j6 HDs;go_upto_if 101 with fail
 go_cut []from 20 (fun wx=>ag (BkI w P Q #[.int .u64 va,.slice kU ib ca1,.slice kV ic ca2,.string ta] #[.int .u64 base,.int .u64 ver,.slice As ns cs,.slice Ag ng cg,.bool cS,.slice Ar nr cr,.bool cX,.string pol,.string hash] wx))
 case first=>
  by_cases he:dse=0
  ·have qe:((dse:Int)==0)=true:=by simp[he]
   have HE:=ae (HEl.out he _ _ _ _ L2.out.low Lr.out);have qs:=eX (rfl:s=s);clear he;go_wp2_with(go_at_call 11;refine HE.out.mono ?_;rintro r w22⟨rfl,ov⟩;have L3:=ae (L2.out.below ov))
   go_meet;exact L3
  ·have qe:((dse:Int)==0)=false:=by simp;omega
   clear he;go_wp2_with fail
   go_meet;exact L2
 case rest=>
 obtain⟨w23,rfl⟩:=bq (wc:World);have M0:=hcut;clear L2 Lr HEl hcut;go_wp2_with(go_at_call 6;refine(HWk.out _ M0.out.low).mono ?_;rintro r wz⟨rfl,dz⟩)
 go_ret;exact⟨rfl,after M0.out.low dz⟩
end Go.Proofs.YtkjaajcpbldjoaaGreatDoor
