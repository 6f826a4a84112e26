/- Joined out of: NlE. -/
import Derived.Test.YtdfnhljccdoncaaGreatDoorNba
set_option linter.unusedVariables false
set_option linter.unusedSimpArgs false
set_option maxHeartbeats 16000000
set_option maxRecDepth 100000
open Bool renaming eq_iff_iff→kq
open Go.Lib renaming hid→ae
open Go.Proofs.Tryz renaming prog→ai
open Go.RowKit renaming Hid→af
open Go.RowKit.Below renaming refl→aK
open List renaming getElem?_eq_getElem→ag,take_of_length_le→aO,getElem_mem→bC,mem_map_of_mem→rE
open Nat renaming le_refl→aw,lt_succ_self→cE
namespace Go.Proofs.YtdfnhljccdoncaaGreatDoor
open Go.RowKit
attribute [local go_sem↓] Go.wp_at_zero Go.wp_at_succ
theorem U9{l:List Pr}(h:l.Pairwise fun x y=>ef x y=true){p:Pr}(hp:p∈l):(l.find? fun q=>decide (q.key=p.key))=some p:=by
 cases hf:l.find? fun q=>decide (q.key=p.key)with
 |none=>
  have:=List.find?_eq_none.1 hf p hp;simp at this
 |some q=>
  have hq:=List.mem_of_find?_eq_some hf;have hk:q.key=p.key:=by simpa using List.find?_some hf
  rw[Ae h hq hp hk]
theorem OV:∀{l:List Pr},(l.flatMap (·.aH)).Nodup→∀{p:Pr}{a:Ad},p∈l→a∈p.aH→(l.find? fun q=>q.aH.any fun y=>decide (y=a))=some p:=by
 intro l
 induction l with
 |nil=>intro _ p a hp;cases hp
 |cons q r ih=>
  intro hn p a hp ha;rw[List.flatMap_cons,List.nodup_append]at hn;obtain⟨_,h2,h3⟩:=hn;rw[List.find?_cons];rcases List.mem_cons.1 hp with e|hp
  ·subst e;have:(p.aH.any fun y=>decide (y=a))=true:=List.any_eq_true.2 ⟨a,ha,by simp⟩;rw[this]
  ·have:(q.aH.any fun y=>decide (y=a))=false:=by
    rw[List.any_eq_false];intro y hy e;have e':y=a:=by simpa using e
    subst e';exact h3 y hy y (List.mem_flatMap.2 ⟨p,hp,ha⟩) rfl
   rw[this];exact ih h2 hp ha
theorem Va(l:List Pr)(a:Ad):(l.find? fun q=>q.aH.any fun y=>decide (y=a)).isSome=l.any fun q=>q.aH.any fun y=>decide (y=a):=by
 rw[kq,List.find?_isSome,List.any_eq_true]
def ab3(p1:Pr)(AGG:Option Addr→Nat→Option Addr→Nat→Option Addr→Nat→Array Value)(n11 n12 n13:Nat)(w:World)(r:Ending)(w':World):Prop:=(∃dq c21 dr dt dK c23,r=.returned (.tuple #[.agg (AGG dq c21 dr dt dK c23),.bool true])∧cz w' w.heap.size ⟨p1,.slice dq n11 c21,.slice dr n12 dt,.slice dK n13 c23⟩)∧Below w.heap.size w w'
theorem EX{p:Pr}{o:Option Pr}(ho:o=some p){f:Nat}{args:Array Value}{u:World}(h:Calls ai f args u (ZI o u)):Calls ai f args u (ab3 p (fun dq c21 dr dt dK c23=> #[.string p.key,.string p.bj,.string p.user,.slice dq p.tags.length c21,.slice dr p.aH.length dt,.int .u64 (p.exp:Int),.int .u8 (p.aW:Int),.slice dK p.ends.length c23]) p.tags.length p.aH.length p.ends.length u):=by
 subst ho;refine h.mono ?_;rintro r w'⟨⟨X,rfl,hp,ho⟩,d⟩;obtain⟨q,tv,av,ev⟩:=X;have hp:q=p:=hp;subst hp;obtain⟨A1,c1,e1⟩:=aL ho.tags;obtain⟨A2,c2,e2⟩:=aL ho.aH;obtain⟨A3,c3,e3⟩:=aL ho.ends;simp only at e1 e2 e3;subst e1 e2 e3;exact⟨⟨A1,c1,A2,c2,A3,c3,rfl,ho⟩,d⟩
theorem Y5{xs:List bG}{l:List Pr}(h:xs.map (·.p)=l)(a:Ad):(xs.any fun X:bG=>X.p.aH.any fun y=>decide (y=a))=l.any fun q=>q.aH.any fun y=>decide (y=a):=by
 subst h;rw[List.any_map];rfl
theorem OX{o:Option Pr}{b:Bool}(hb:o.isSome=b){f:Nat}{args:Array Value}{u:World}(h:Calls ai f args u (ZI o u)):Calls ai f args u (fun r w'=>(∃X:bG,r=.returned (.tuple #[.agg X.vals.toArray,.bool b])∧cz w' u.heap.size X)∧Below u.heap.size u w'):=by
 subst hb;exact h.mono fun r w'⟨⟨X,e,_,ho⟩,d⟩=>⟨⟨X,e,ho⟩,d⟩
theorem KW{w:World}{P:Nat}{z0 z1 z2 z3 z4 z5 z6 z7:Value}(hP:aG w P 49 #[z0,z1,z2,z3,z4,z5,z6,z7])(v0 v1 v2 v3 v4 v5 v6 v7:Value):aG ((((((((w.setCell ⟨P,0,none⟩ v0).setCell ⟨P,1,none⟩ v1).setCell ⟨P,2,none⟩ v2).setCell ⟨P,3,none⟩ v3).setCell ⟨P,4,none⟩ v4).setCell ⟨P,5,none⟩ v5).setCell ⟨P,6,none⟩ v6).setCell ⟨P,7,none⟩ v7) P 49 #[v0,v1,v2,v3,v4,v5,v6,v7]:=by
 have s1:aG _ P 49 #[v0,z1,z2,z3,z4,z5,z6,z7]:=hP.aM 0 v0;have s2:aG _ P 49 #[v0,v1,z2,z3,z4,z5,z6,z7]:=s1.aM 1 v1;have s3:aG _ P 49 #[v0,v1,v2,z3,z4,z5,z6,z7]:=s2.aM 2 v2;have s4:aG _ P 49 #[v0,v1,v2,v3,z4,z5,z6,z7]:=s3.aM 3 v3;have s5:aG _ P 49 #[v0,v1,v2,v3,v4,z5,z6,z7]:=s4.aM 4 v4;have s6:aG _ P 49 #[v0,v1,v2,v3,v4,v5,z6,z7]:=s5.aM 5 v5;have s7:aG _ P 49 #[v0,v1,v2,v3,v4,v5,v6,z7]:=s6.aM 6 v6;have s8:aG _ P 49 #[v0,v1,v2,v3,v4,v5,v6,v7]:=s7.aM 7 v7;exact s8
theorem OY{w:World}(env:Env w)(ord:ft w){pa ra:Value}{m:Mp}(ha:dP w pa m.aJ)(hr:gi w ra m.aF)(fm:jM m)(sm:IV m)(a:Ad):Calls ai 4 #[.agg #[.int .u64 (m.version:Int),pa,ra,.string m.policy],.agg a.cells] w (Got (.bool true) w):=by
 have hwk:=fun u(hu:Below w.heap.size w u)=>Jc (env.below hu) (ord.below hu ord.lt)
 have hhv:=fun u(hu:Below w.heap.size w u)=>I0 (ha.below hu) (dT hr hu) sm.sz sm.pl sm.rl
 have TP:=fun u(hu:Below w.heap.size w u)=>j8 (env.below hu) (ha.below hu) (dT hr hu) fm sm.sz (by have:=sm.pl;omega) (by have:=sm.rl;omega) sm.ol sm.ml
 have hky:=fun u(hu:Below w.heap.size w u)(key:ByteArray)=>OT (ha.below hu) (dT hr hu) sm.sz sm.pl key
 have hfd:=fun u(hu:Below w.heap.size w u)(b:Ad)=>yZ (ha.below hu) (dT hr hu) sm.sz sm.pl b
 have hk1:(cJ m).2=0→∀p∈m.aJ,(m.aJ.find? fun q=>decide (q.key=p.key))=some p:=fun h p hp=>U9 (iP (iu (kK h)).2.1).1 hp
 have hk2:(cJ m).2=0→∀p∈m.aJ,∀b∈p.aH,(m.aJ.find? fun q=>q.aH.any fun y=>decide (y=b))=some p:=fun h p hp b hb=>by
  have h2:=kK h;unfold ip at h2;simp only[Bool.and_eq_true,decide_eq_true_eq]at h2;exact OV h2.2.1 hp hb
 have hk3:=Va m.aJ a;obtain⟨xs,hxl,hro,hxm⟩:=ha;have ZS:∀X∈xs,gI X.p:=fun X hX=>sm.sz _ (by rw[←hxl];exact rE hX)
 have mex:∀X∈xs,X.p∈m.aJ:=fun X hX=>by rw[←hxl];exact rE hX
 have lxa:xs.length=m.aJ.length:=by rw[←hxl,List.length_map]
 have lx:=sm.pl;rw[←lxa]at lx;obtain⟨lL,ca1,rfl,_,hA⟩:=hro;obtain⟨ll,ca2,rfl⟩:=aV.shape hr;generalize(cJ m).2=em at TP hk1 hk2;obtain⟨va,aJ,aF,ta⟩:=m;obtain⟨av,ah,al⟩:=a;unfold Ad.cells;simp only at*;obtain⟨gk,nR⟩:∃n,n=xs.length:=⟨_,rfl⟩;obtain⟨ix,pR⟩:∃n,n=aF.length:=⟨_,rfl⟩;rw[←nR,←pR]at hhv TP;simp only[←nR,←pR]at hky hfd;rw[←nR]at hA lx⊢;rw[←pR];obtain⟨HWk,HHv,Vt,HKy,HFd,og,kx,iD,HA,mS,Vs,SzX⟩:=uF hwk hhv TP hky hfd hk1 hk2 hk3 hA hxm hxl ZS;obtain⟨MeX,jI⟩:=aQ mex nR;clear hwk hhv TP hky hfd hk1 hk2 hk3 hA hxm hxl ZS mex nR pR lxa env ord hr fm sm;have HB0:=ae (fe w (.cells #[.int .u64 va,.slice lL gk ca1,.slice ll ix ca2,.string ta] 26) (.cells #[.bool av,.int .u64 ah,.int .u64 al] 44));have hp:=aG.new w 26 #[.int .u64 va,.slice lL gk ca1,.slice ll ix ca2,.string ta];have HP:=ae (hp.below (boxed _ (.cells #[.bool av,.int .u64 ah,.int .u64 al] 44)) hp.lt);have hq:=aG.new (w.alloc (.cells #[.int .u64 va,.slice lL gk ca1,.slice ll ix ca2,.string ta] 26)) 44 #[.bool av,.int .u64 ah,.int .u64 al];rw[show(w.alloc (.cells #[.int .u64 va,.slice lL gk ca1,.slice ll ix ca2,.string ta] 26)).heap.size=w.heap.size+1 by simp]at hq;have HQ:=ae hq;clear hp hq;go_enter Tryz.func4,Tryz.ntmps4;go_upto_region 1 with fail
 generalize(w.alloc (.cells #[.int .u64 va,.slice lL gk ca1,.slice ll ix ca2,.string ta] 26)).alloc (.cells #[.bool av,.int .u64 ah,.int .u64 al] 44)=w1 at HB0 HP HQ⊢;generalize w.heap.size+1=Q at HQ⊢;generalize hP:w.heap.size=P at HP⊢;clear hP;obtain⟨p0,p1,p2,p3⟩:=jB HP;obtain⟨a0,a1,a2⟩:=oM HQ;have ab4:=ae (HHv.out w1 HB0.out);by_cases hz:em=0;rotate_left
 ·have q0:((em:Int) !=0)=true:=by simp;omega
  clear hz;go_upto_if 20 with(first|(go_at_call 8;(with_reducible refine ab4.out.mono ?_);rintro r w2⟨⟨b,rfl⟩,d2⟩;have x0:=ak p0 d2;have x1:=ak p1 d2;have x2:=ak p2 d2;have x3:=ak p3 d2;cases b)|(go_at_call 19;(with_reducible refine(Vt.out _ (after HB0.out d2)).mono ?_);rintro r w3⟨rfl,d3⟩))
  ·go_wp2_with(go_at_call 10;(with_reducible refine(HWk.out _ (after HB0.out (after d2 d3))).mono ?_);rintro r wz⟨rfl,dz⟩)
   go_ret;exact⟨rfl,after (after HB0.out (after d2 d3)) dz⟩
  ·go_wp2_with(go_at_call 10;(with_reducible refine(HWk.out _ (after HB0.out d2)).mono ?_);rintro r wz⟨rfl,dz⟩)
   go_ret;exact⟨rfl,after (after HB0.out d2) dz⟩
 have q0:((em:Int) !=0)=false:=by simp[hz]
 have Hz:=ae hz;clear hz;go_upto_if 20 with(first|(go_at_call 8;(with_reducible refine ab4.out.mono ?_);rintro r w2⟨⟨b,rfl⟩,d2⟩;have x0:=ak p0 d2;have x1:=ak p1 d2;have x2:=ak p2 d2;have x3:=ak p3 d2;cases b)|(go_at_call 19;(with_reducible refine(Vt.out _ (after HB0.out d2)).mono ?_);rintro r w3⟨rfl,d3⟩))
 rotate_left
 ·go_wp2_with(go_at_call 10;(with_reducible refine(HWk.out _ (after HB0.out d2)).mono ?_);rintro r wz⟨rfl,dz⟩)
  go_ret;exact⟨rfl,after (after HB0.out d2) dz⟩
 clear HHv ab4 Vt q0 p0 p1 p2 p3;obtain⟨HB3,fJ,tA⟩:=bO (after HB0.out (after d2 d3)) (HP.out.below (after d2 d3) HP.out.lt) (HQ.out.below (after d2 d3) HQ.out.lt);clear d2 d3 x0 x1 x2 x3 HB0 HP HQ a0 a1 a2;go_upto_region 5 with fail
 go_loopw [5,6] (fun v5 v6 wr=>∃(i:Nat)(own:Bool),i≤gk∧v6=.int .i64 i∧v5=.bool own∧af (own=(xs.take i).any (fun X:bG=>X.p.aH.any fun y=>decide (y=(⟨av,ah,al⟩:Ad))))∧af (Below w3.heap.size w3 wr)) (fun _ v6 _=>gk-(intOf v6).toNat)
 case atStart=>exact⟨0,false,Nat.zero_le _,rfl,rfl,ae rfl,ae (aK _ _)⟩
 case round=>
  obtain⟨i,own,hi,rfl,rfl,hown,kS⟩:=hrel;obtain⟨wo,rfl⟩:∃wo:World,wo=wr:=⟨_,rfl⟩;obtain⟨p0,p1,p2,p3⟩:=jB fJ
  replace p0:=ak p0 kS.out
  replace p1:=ak p1 kS.out
  replace p2:=ak p2 kS.out
  replace p3:=ak p3 kS.out
  by_cases hlt:i<gk;rotate_left
  ·obtain rfl:i=gk:=by omega
   have hsome:((aJ.find? fun q=>q.aH.any fun y=>decide (y=(⟨av,ah,al⟩:Ad))).isSome)=own:=by
    refine iD.out.trans (Eq.trans (Y5 Vs.out (⟨av,ah,al⟩:Ad)).symm ?_);have e:=hown.out;rw[aO (by rw[jI.out];exact aw _)]at e;exact e.symm
   have hfa:=HFd.out wo (after HB3.out kS.out) (⟨av,ah,al⟩:Ad);unfold Ad.cells at hfa;simp only at hfa;have hfa:=OX hsome hfa;have HFa:=ae hfa;clear hsome hfa;have a0:=ak (show w3.cell? ⟨Q,0,none⟩=some (.bool av) by have:=tA.out.cell 0;simpa using this) kS.out;have a1:=ak (show w3.cell? ⟨Q,1,none⟩=some (.int .u64 ah) by have:=tA.out.cell 1;simpa using this) kS.out;have a2:=ak (show w3.cell? ⟨Q,2,none⟩=some (.int .u64 al) by have:=tA.out.cell 2;simpa using this) kS.out;go_upto_region 18 with(go_at_call 22;(with_reducible refine HFa.out.mono ?_);rintro r w4⟨⟨⟨⟨key2,aX,bz,cG,bM,fN,bn,cH⟩,XJ,XK,XM⟩,rfl,ko⟩,d4⟩;obtain⟨dq,c21,e21⟩:=aL ko.tags;obtain⟨dr,dt,e22⟩:=aL ko.aH;obtain⟨dK,c23,e23⟩:=aL ko.ends;simp only at e21 e22 e23;subst e21 e22 e23;clear ko;unfold bG.vals;simp only;generalize cG.length=n21;generalize bM.length=n22;generalize cH.length=n23;have WM:=bm kS d4;clear d4)
   have hbz:=boxed w4 (.cells #[.string key2,.string aX,.string bz,.slice dq n21 c21,.slice dr n22 dt,.int .u64 fN,.int .u8 bn,.slice dK n23 c23] 49);have xg:=bm WM hbz;clear hbz;generalize w4.alloc (.cells #[.string key2,.string aX,.string bz,.slice dq n21 c21,.slice dr n22 dt,.int .u64 fN,.int .u8 bn,.slice dK n23 c23] 49)=w5 at xg⊢;have aej:=ae (HWk.out w5 (after HB3.out xg.out));cases own with
   |true=>
    go_wp2_with(go_at_call 10;(with_reducible refine aej.out.mono ?_);rintro r wz⟨rfl,dz⟩)
    go_ret;exact⟨rfl,after (after HB3.out xg.out) dz⟩
   |false=>
    go_wp2_with(go_at_call 10;(with_reducible refine aej.out.mono ?_);rintro r wz⟨rfl,dz⟩)
    go_ret;exact⟨rfl,after (after HB3.out xg.out) dz⟩
  have hkl:i<xs.length:=by have:=jI.out;omega
  obtain⟨g,o,rfl,hc⟩:=HA.out aY;have b0:=ak (hc _ _ (aE bG.vals 8 aC (ag hkl) (r:=0) rfl)) HB3.out;have b1:=ak (hc _ _ (aE bG.vals 8 aC (ag hkl) (r:=1) rfl)) HB3.out;have b2:=ak (hc _ _ (aE bG.vals 8 aC (ag hkl) (r:=2) rfl)) HB3.out;have b3:=ak (hc _ _ (aE bG.vals 8 aC (ag hkl) (r:=3) rfl)) HB3.out;have b4:=ak (hc _ _ (aE bG.vals 8 aC (ag hkl) (r:=4) rfl)) HB3.out;have b5:=ak (hc _ _ (aE bG.vals 8 aC (ag hkl) (r:=5) rfl)) HB3.out;have b6:=ak (hc _ _ (aE bG.vals 8 aC (ag hkl) (r:=6) rfl)) HB3.out;have b7:=ak (hc _ _ (aE bG.vals 8 aC (ag hkl) (r:=7) rfl)) HB3.out;have hmm:=mS.out _ (bC hkl);have hsz:=SzX.out _ (bC hkl);have hme:=MeX.out _ (bC hkl);have htk:(xs.take (i+1)).any (fun X:bG=>X.p.aH.any fun y=>decide (y=(⟨av,ah,al⟩:Ad)))=((xs.take i).any (fun X:bG=>X.p.aH.any fun y=>decide (y=(⟨av,ah,al⟩:Ad)))||xs[i].p.aH.any fun y=>decide (y=(⟨av,ah,al⟩:Ad))):=by rw[qN (ag hkl),List.any_append,List.any_cons,List.any_nil,Bool.or_false]
  generalize xs[i]=X at hmm hsz hme htk b0 b1 b2 b3 b4 b5 b6 b7;have hby:=fun u(hu:Below w3.heap.size w3 u)=>EX (og.out Hz.out _ hme) (HKy.out u (after HB3.out hu) X.p.key)
  have hfi:=fun b(hb:b∈X.p.aH)u(hu:Below w3.heap.size w3 u)=>EX (kx.out Hz.out _ hme b hb) (HFd.out u (after HB3.out hu) b)
  have hsm:∀u,Below w3.heap.size w3 u→∀dq c21 dr dt dK c23,eI u ⟨X.p,.slice dq X.p.tags.length c21,.slice dr X.p.aH.length dt,.slice dK X.p.ends.length c23⟩→Calls ai 21 #[.agg #[.string X.p.key,.string X.p.bj,.string X.p.user,.slice dq X.p.tags.length c21,.slice dr X.p.aH.length dt,.int .u64 (X.p.exp:Int),.int .u8 (X.p.aW:Int),.slice dK X.p.ends.length c23],.agg X.vals.toArray] u (Got (.bool true) u):=fun u hu dq c21 dr dt dK c23 h1=>by
   have h:=yd h1 (hmm.below (after HB3.out hu)) hsz hsz;rw[decide_eq_true rfl]at h;exact h
  obtain⟨gQ,c11,e11⟩:=hmm.tags.shape;obtain⟨gY,c12,e12⟩:=hmm.aH.shape;obtain⟨jA,c13,e13⟩:=hmm.ends.shape;have hrow:=hmm.aH;have hal:=hsz.al;clear hmm hsz hme hc hkl;obtain⟨pe,hp1⟩:∃p,p=X.p:=⟨_,rfl⟩;obtain⟨XV,Px⟩:∃v,v=X.vals.toArray:=⟨_,rfl⟩;simp only[←Px]at hsm;have hf:pe.key=X.p.key∧pe.bj=X.p.bj∧pe.user=X.p.user∧pe.exp=X.p.exp∧pe.aW=X.p.aW:=by rw[hp1];exact⟨rfl,rfl,rfl,rfl,rfl⟩
  have hf2:pe.tags.length=X.p.tags.length∧pe.aH.length=X.p.aH.length∧pe.ends.length=X.p.ends.length∧pe.aH=X.p.aH:=by rw[hp1];exact⟨rfl,rfl,rfl,rfl⟩
  rw[←hp1]at hby hfi hrow;simp only[←hp1]at hsm;simp only[hf.1,hf.2.1,hf.2.2.1,hf.2.2.2.1,hf.2.2.2.2,hf2.1,hf2.2.1,hf2.2.2.1]at hby hfi hsm;rw[hf2.2.2.2]at hrow;simp only[hf2.2.2.2]at hfi;clear hp1 hf hf2;obtain⟨⟨key1,aU,bo,eN,cP,eu,aT,fi⟩,XG,XI,ev1⟩:=X;unfold bG.vals at Px;simp only at Px e11 e12 e13 htk hby hfi hsm hrow hal b0 b1 b2 b3 b4 b5 b6 b7;subst e11 e12 e13;obtain⟨n11,wn⟩:∃n,n=eN.length:=⟨_,rfl⟩;obtain⟨n12,tR⟩:∃n,n=cP.length:=⟨_,rfl⟩;obtain⟨n13,wt⟩:∃n,n=fi.length:=⟨_,rfl⟩;simp only[←wn,←tR,←wt]at Px hby hfi hsm;subst Px;rw[←wn]at b3;rw[←tR]at b4 hrow hal;rw[←wt]at b7;rw[Nat.add_zero]at b0;rw[←Nat.add_assoc]at b1 b2 b3 b4 b5 b6 b7;have d0:=ak b0 kS.out;have d1:=ak b1 kS.out;have d2:=ak b2 kS.out;have d3:=ak b3 kS.out;have d4:=ak b4 kS.out;have d5:=ak b5 kS.out;have d6:=ak b6 kS.out;have d7:=ak b7 kS.out;obtain⟨B0,B1,B2,B3,B4,B5,B6,B7⟩:=af0 b0 b1 b2 b3 b4 b5 b6 b7;clear b0 b1 b2 b3 b4 b5 b6 b7;obtain⟨Vr,HFi,HSm,DG,MY,HEn⟩:=tU hby hfi hsm htk hrow tR;clear hby hfi hsm htk hrow wn tR wt;go_upto_region 7 with fail
  go_cut [7,8]from 29 to 40 (fun vp vb wx=>∃(D:Nat)(dq:Option Addr)(c21:Nat)(dr:Option Addr)(dt:Nat)(dK:Option Addr)(c23:Nat),vp=.pointer (some ⟨D,0,none⟩)∧vb=.bool true∧af (aG wx D 49 #[.string key1,.string aU,.string bo,.slice dq n11 c21,.slice dr n12 dt,.int .u64 eu,.int .u8 aT,.slice dK n13 c23])∧af (eI wx (⟨pe,.slice dq n11 c21,.slice dr n12 dt,.slice dK n13 c23⟩:bG))∧af (Below wo.heap.size wo wx))
  case first=>
   have E:=(aK wo.heap.size wo).drew;refine wp_region_held_drew (S:=(fun u=>u.cell? ⟨P,0,none⟩=some (.int .u64 va)∧u.cell? ⟨P,1,none⟩=some (.slice (some ⟨g,o,none⟩) gk ca1)∧u.cell? ⟨P,2,none⟩=some (.slice ll ix ca2)∧u.cell? ⟨P,3,none⟩=some (.string ta)∧u.cell? ⟨g,o+i*8,none⟩=some (.string key1))) bJ (⟨p0,p1,p2,p3,d0⟩) (fun hHeld=>?_);refine bB 0 ?_
   refine bB 1 ?_
   refine bB 2 ?_
   refine bB 3 ?_
   refine bB 4 ?_
   refine bB 5 ?_
   refine bB 6 ?_
   refine wpAnyH_ready (rs:=[7,11]) bJ (by simp) ?_;refine AllReadyH.cons rfl (fun K hK=>?_) (AllReadyH.cons rfl (fun K hK=>?_) AllReadyH.nil)
   ·go_simp;refine(Vr.out _ (kS.out.trans (E.mono kS.out.size))).mono ?_;rintro r wy⟨⟨dq,c21,dr,dt,dK,c23,rfl,hmm⟩,dy⟩;try have hmm:=hmm.mono (show wo.heap.size+1≤_ from HD.out.lt)
    try have HD:=ae (HD.out.below dy HD.out.lt)
    have E:=after E dy;have HM:=ae hmm;clear dy hmm;try have z:=fun i=>HD.out.frozen i
    try have y0:=HD.out.cell 0
    try have y1:=HD.out.cell 1
    try have y2:=HD.out.cell 2
    try have y3:=HD.out.cell 3
    try have y4:=HD.out.cell 4
    try have y5:=HD.out.cell 5
    try have y6:=HD.out.cell 6
    try have y7:=HD.out.cell 7
    try simp at y0 y1 y2 y3 y4 y5 y6 y7
    refine hK.out _ _ (⟨ak p0 E,ak p1 E,ak p2 E,ak p3 E,ak d0 E⟩) (fun hHeld=>?_);clear hK K;try simp only[dX]
    refine bB 8 ?_
    refine bB 9 ?_
    refine bB 10 ?_
    refine mM 11 fun K hK=>?_;go_simp;obtain⟨HDs,HD⟩:=aQ E.size (tV E 49 #[.string ⟨#[]⟩,.string ⟨#[]⟩,.string ⟨#[]⟩,.slice none 0 0,.slice none 0 0,.int .u64 0,.int .u8 0,.slice none 0 0]);try(have HD:af (aG _ wo.heap.size _ _):=HD)
    have Eo:=E;try have H1:=ae (aw wy.heap.size)
    try have HMo:=HM
    have E:=after E (oO E (.cells #[.string ⟨#[]⟩,.string ⟨#[]⟩,.string ⟨#[]⟩,.slice none 0 0,.slice none 0 0,.int .u64 0,.int .u8 0,.slice none 0 0] 49));refine hK.out _ _ (⟨ak p0 E,ak p1 E,ak p2 E,ak p3 E,ak d0 E⟩) (fun hHeld=>?_);clear hK K;try simp only[dX]
    refine mM 12 fun K hK=>?_;go_simp;first
     |(have:=H1;obtain⟨f1,f2,f3⟩:=bO (tV Eo 49 #[.string key1,.string aU,.string bo,.slice dq n11 c21,.slice dr n12 dt,.int .u64 eu,.int .u8 aT,.slice dK n13 c23]) (after Eo (oO Eo (.cells #[.string key1,.string aU,.string bo,.slice dq n11 c21,.slice dr n12 dt,.int .u64 eu,.int .u8 aT,.slice dK n13 c23] 49))) (HMo.out.rd.below (oO Eo (.cells #[.string key1,.string aU,.string bo,.slice dq n11 c21,.slice dr n12 dt,.int .u64 eu,.int .u8 aT,.slice dK n13 c23] 49)));generalize wy.alloc (.cells #[.string key1,.string aU,.string bo,.slice dq n11 c21,.slice dr n12 dt,.int .u64 eu,.int .u8 aT,.slice dK n13 c23] 49)=wf at f1 f2 f3⊢)
     |(obtain⟨f1,f2,f3⟩:=bO (KW HD.out (.string key1) (.string aU) (.string bo) (.slice dq n11 c21) (.slice dr n12 dt) (.int .u64 eu) (.int .u8 aT) (.slice dK n13 c23)) (qM (P:=wo.heap.size) (Q:=fun u=>Below wo.heap.size wo u) (fun u i x hq=>hq.setCell (p:=⟨_,i,none⟩) (aw _) x) E (.string key1) (.string aU) (.string bo) (.slice dq n11 c21) (.slice dr n12 dt) (.int .u64 eu) (.int .u8 aT) (.slice dK n13 c23)) (cz.rd (qM (P:=wo.heap.size) (Q:=fun u=>cz u (wo.heap.size+1) (⟨pe,.slice dq n11 c21,.slice dr n12 dt,.slice dK n13 c23⟩:bG)) (fun u i x hq=>⟨aN hq.tags (cE _),aN hq.aH (cE _),aN hq.ends (cE _)⟩) HM.out (.string key1) (.string aU) (.string bo) (.slice dq n11 c21) (.slice dr n12 dt) (.int .u64 eu) (.int .u8 aT) (.slice dK n13 c23)));generalize((((((((wy.setCell ⟨wo.heap.size,0,none⟩ (.string key1)).setCell ⟨wo.heap.size,1,none⟩ (.string aU)).setCell ⟨wo.heap.size,2,none⟩ (.string bo)).setCell ⟨wo.heap.size,3,none⟩ (.slice dq n11 c21)).setCell ⟨wo.heap.size,4,none⟩ (.slice dr n12 dt)).setCell ⟨wo.heap.size,5,none⟩ (.int .u64 eu)).setCell ⟨wo.heap.size,6,none⟩ (.int .u8 aT)).setCell ⟨wo.heap.size,7,none⟩ (.slice dK n13 c23))=wf at f1 f2 f3⊢)
    refine hK.out _ _ (⟨ak p0 f2.out,ak p1 f2.out,ak p2 f2.out,ak p3 f2.out,ak d0 f2.out⟩) (fun hHeld=>?_);clear hK K;try simp only[dX]
    refine bB 13 ?_
    refine tX ?_;go_wp2_with fail
    go_meet;exact⟨_,dq,c21,dr,dt,dK,c23,rfl,rfl,f1,f3,f2⟩
   ·go_simp;obtain⟨HDs,HD⟩:=aQ E.size (tV E 49 #[.string ⟨#[]⟩,.string ⟨#[]⟩,.string ⟨#[]⟩,.slice none 0 0,.slice none 0 0,.int .u64 0,.int .u8 0,.slice none 0 0]);try(have HD:af (aG _ wo.heap.size _ _):=HD)
    have Eo:=E;try have H1:=ae (aw wy.heap.size)
    try have HMo:=HM
    have E:=after E (oO E (.cells #[.string ⟨#[]⟩,.string ⟨#[]⟩,.string ⟨#[]⟩,.slice none 0 0,.slice none 0 0,.int .u64 0,.int .u8 0,.slice none 0 0] 49));refine hK.out _ _ (⟨ak p0 E,ak p1 E,ak p2 E,ak p3 E,ak d0 E⟩) (fun hHeld=>?_);clear hK K;try simp only[dX]
    refine mM 7 fun K hK=>?_;go_simp;refine(Vr.out _ (kS.out.trans (E.mono kS.out.size))).mono ?_;rintro r wy⟨⟨dq,c21,dr,dt,dK,c23,rfl,hmm⟩,dy⟩;try have hmm:=hmm.mono (show wo.heap.size+1≤_ from HD.out.lt)
    try have HD:=ae (HD.out.below dy HD.out.lt)
    have E:=after E dy;have HM:=ae hmm;clear dy hmm;try have z:=fun i=>HD.out.frozen i
    try have y0:=HD.out.cell 0
    try have y1:=HD.out.cell 1
    try have y2:=HD.out.cell 2
    try have y3:=HD.out.cell 3
    try have y4:=HD.out.cell 4
    try have y5:=HD.out.cell 5
    try have y6:=HD.out.cell 6
    try have y7:=HD.out.cell 7
    try simp at y0 y1 y2 y3 y4 y5 y6 y7
    refine hK.out _ _ (⟨ak p0 E,ak p1 E,ak p2 E,ak p3 E,ak d0 E⟩) (fun hHeld=>?_);clear hK K;try simp only[dX]
    refine bB 8 ?_
    refine bB 9 ?_
    refine bB 10 ?_
    refine mM 12 fun K hK=>?_;go_simp;first
     |(have:=H1;obtain⟨f1,f2,f3⟩:=bO (tV Eo 49 #[.string key1,.string aU,.string bo,.slice dq n11 c21,.slice dr n12 dt,.int .u64 eu,.int .u8 aT,.slice dK n13 c23]) (after Eo (oO Eo (.cells #[.string key1,.string aU,.string bo,.slice dq n11 c21,.slice dr n12 dt,.int .u64 eu,.int .u8 aT,.slice dK n13 c23] 49))) (HMo.out.rd.below (oO Eo (.cells #[.string key1,.string aU,.string bo,.slice dq n11 c21,.slice dr n12 dt,.int .u64 eu,.int .u8 aT,.slice dK n13 c23] 49)));generalize wy.alloc (.cells #[.string key1,.string aU,.string bo,.slice dq n11 c21,.slice dr n12 dt,.int .u64 eu,.int .u8 aT,.slice dK n13 c23] 49)=wf at f1 f2 f3⊢)
     |(obtain⟨f1,f2,f3⟩:=bO (KW HD.out (.string key1) (.string aU) (.string bo) (.slice dq n11 c21) (.slice dr n12 dt) (.int .u64 eu) (.int .u8 aT) (.slice dK n13 c23)) (qM (P:=wo.heap.size) (Q:=fun u=>Below wo.heap.size wo u) (fun u i x hq=>hq.setCell (p:=⟨_,i,none⟩) (aw _) x) E (.string key1) (.string aU) (.string bo) (.slice dq n11 c21) (.slice dr n12 dt) (.int .u64 eu) (.int .u8 aT) (.slice dK n13 c23)) (cz.rd (qM (P:=wo.heap.size) (Q:=fun u=>cz u (wo.heap.size+1) (⟨pe,.slice dq n11 c21,.slice dr n12 dt,.slice dK n13 c23⟩:bG)) (fun u i x hq=>⟨aN hq.tags (cE _),aN hq.aH (cE _),aN hq.ends (cE _)⟩) HM.out (.string key1) (.string aU) (.string bo) (.slice dq n11 c21) (.slice dr n12 dt) (.int .u64 eu) (.int .u8 aT) (.slice dK n13 c23)));generalize((((((((wy.setCell ⟨wo.heap.size,0,none⟩ (.string key1)).setCell ⟨wo.heap.size,1,none⟩ (.string aU)).setCell ⟨wo.heap.size,2,none⟩ (.string bo)).setCell ⟨wo.heap.size,3,none⟩ (.slice dq n11 c21)).setCell ⟨wo.heap.size,4,none⟩ (.slice dr n12 dt)).setCell ⟨wo.heap.size,5,none⟩ (.int .u64 eu)).setCell ⟨wo.heap.size,6,none⟩ (.int .u8 aT)).setCell ⟨wo.heap.size,7,none⟩ (.slice dK n13 c23))=wf at f1 f2 f3⊢)
    refine hK.out _ _ (⟨ak p0 f2.out,ak p1 f2.out,ak p2 f2.out,ak p3 f2.out,ak d0 f2.out⟩) (fun hHeld=>?_);clear hK K;try simp only[dX]
    refine bB 13 ?_
    refine tX ?_;go_wp2_with fail
    go_meet;exact⟨_,dq,c21,dr,dt,dK,c23,rfl,rfl,f1,f3,f2⟩
  case rest=>
  obtain⟨D,dq,c21,dr,dt,dK,c23,rfl,rfl,hDi,HMi,lV⟩:=hcut;obtain⟨wi,rfl⟩:∃wi:World,wi=wc:=⟨_,rfl⟩;have HWi:=ae (after kS.out lV.out)
  replace p0:=ak p0 lV.out
  replace p1:=ak p1 lV.out
  replace p2:=ak p2 lV.out
  replace p3:=ak p3 lV.out
  replace d0:=ak d0 lV.out
  replace d1:=ak d1 lV.out
  replace d2:=ak d2 lV.out
  replace d3:=ak d3 lV.out
  replace d4:=ak d4 lV.out
  replace d5:=ak d5 lV.out
  replace d6:=ak d6 lV.out
  replace d7:=ak d7 lV.out
  obtain⟨y0,y1,y2,y3,y4,y5,y6,y7⟩:=jq hDi;go_upto_region 8 with fail
  refine wp_region_held_drew (S:=(fun u=>u.cell? ⟨P,1,none⟩=some (.slice (some ⟨g,o,none⟩) gk ca1)∧u.cell? ⟨g,o+i*8,none⟩=some (.string key1)∧u.cell? ⟨g,o+i*8+1,none⟩=some (.string aU)∧u.cell? ⟨g,o+i*8+2,none⟩=some (.string bo)∧u.cell? ⟨g,o+i*8+3,none⟩=some (.slice gQ n11 c11)∧u.cell? ⟨g,o+i*8+4,none⟩=some (.slice gY n12 c12)∧u.cell? ⟨g,o+i*8+5,none⟩=some (.int .u64 eu)∧u.cell? ⟨g,o+i*8+6,none⟩=some (.int .u8 aT)∧u.cell? ⟨g,o+i*8+7,none⟩=some (.slice jA n13 c13)∧u.cell? ⟨D,0,none⟩=some (.string key1)∧u.cell? ⟨D,1,none⟩=some (.string aU)∧u.cell? ⟨D,2,none⟩=some (.string bo)∧u.cell? ⟨D,3,none⟩=some (.slice dq n11 c21)∧u.cell? ⟨D,4,none⟩=some (.slice dr n12 dt)∧u.cell? ⟨D,5,none⟩=some (.int .u64 eu)∧u.cell? ⟨D,6,none⟩=some (.int .u8 aT)∧u.cell? ⟨D,7,none⟩=some (.slice dK n13 c23))) bJ (⟨p1,d0,d1,d2,d3,d4,d5,d6,d7,y0,y1,y2,y3,y4,y5,y6,y7⟩) (fun hHeld=>?_);refine bB 0 ?_
  refine bB 1 ?_
  refine bB 2 ?_
  refine bB 3 ?_
  refine bB 4 ?_
  refine bB 5 ?_
  refine bB 6 ?_
  refine bB 7 ?_
  refine bB 8 ?_
  refine mM 9 fun K hK=>?_;go_simp;refine(HSm.out _ (HWi.out.drew) _ _ _ _ _ _ (HMi.out.below (aK _ _).drew)).mono ?_;rintro r wv⟨rfl,dv⟩;refine hK.out _ _ (⟨ak hHeld.1 dv,ak hHeld.2.1 dv,ak hHeld.2.2.1 dv,ak hHeld.2.2.2.1 dv,ak hHeld.2.2.2.2.1 dv,ak hHeld.2.2.2.2.2.1 dv,ak hHeld.2.2.2.2.2.2.1 dv,ak hHeld.2.2.2.2.2.2.2.1 dv,ak hHeld.2.2.2.2.2.2.2.2.1 dv,ak hHeld.2.2.2.2.2.2.2.2.2.1 dv,ak hHeld.2.2.2.2.2.2.2.2.2.2.1 dv,ak hHeld.2.2.2.2.2.2.2.2.2.2.2.1 dv,ak hHeld.2.2.2.2.2.2.2.2.2.2.2.2.1 dv,ak hHeld.2.2.2.2.2.2.2.2.2.2.2.2.2.1 dv,ak hHeld.2.2.2.2.2.2.2.2.2.2.2.2.2.2.1 dv,ak hHeld.2.2.2.2.2.2.2.2.2.2.2.2.2.2.2.1 dv,ak hHeld.2.2.2.2.2.2.2.2.2.2.2.2.2.2.2.2 dv⟩) (fun hHeld=>?_);clear hK K;try simp only[dX]
  refine bB 10 ?_
  refine bB 11 ?_
  refine tX ?_;have Z4:=ae (after HWi.out.drew dv);clear dv HWi p0 p1 p2 p3 d0 d1 d2 d3 d4 d5 d6 d7 y0 y1 y2 y3 y4 y5 y6 y7 hDi HMi lV;go_upto_region 11 with fail
  go_loopw [5,9] (fun v5 v9 wr=>∃(k:Nat)(Vb:Bool),k≤n12∧v9=.int .i64 k∧v5=.bool Vb∧af (Vb=(own||(cP.take k).any (fun y=>decide (y=(⟨av,ah,al⟩:Ad)))))∧af (Below w3.heap.size w3 wr)) (fun _ v9 _=>n12-(intOf v9).toNat)
  case atStart=>exact⟨0,own,Nat.zero_le _,rfl,rfl,ae (by simp),Z4⟩
  case round=>
   obtain⟨k,Vb,hk,rfl,rfl,hown2,kS⟩:=hrel;obtain⟨wo,rfl⟩:∃wo:World,wo=wr:=⟨_,rfl⟩;clear Z4;obtain⟨p0,p1,p2,p3⟩:=jB fJ
   replace p0:=ak p0 kS.out
   replace p1:=ak p1 kS.out
   replace p2:=ak p2 kS.out
   replace p3:=ak p3 kS.out
   have d0:=ak B0.out kS.out;have d1:=ak B1.out kS.out;have d2:=ak B2.out kS.out;have d3:=ak B3.out kS.out;have d4:=ak B4.out kS.out;have d5:=ak B5.out kS.out;have d6:=ak B6.out kS.out;have d7:=ak B7.out kS.out;by_cases hkn:k<n12;rotate_left
   ·obtain rfl:k=n12:=by omega
    go_wp2_with fail
    go_roundw
    case rel=>exact⟨i+1,Vb,by omega,by go_num,rfl,ae (by rw[hown2.out,DG.out,hown.out,aO (l:=cP) (Nat.le_of_eq HEn.out.symm)]),kS⟩
    case measure=>simp[intOf];omega
   have hkk:k<cP.length:=by have:=HEn.out;omega
   obtain⟨A',c',e',_,hcc⟩:=MY.out;injection e' with e' _ e'2
   subst e' e'2;obtain⟨ga,oa,rfl,hca⟩:=hcc aY;have t0:=ak (ak (hca _ _ (aE (fun a:Ad=>a.cells.toList) 3 (fun _=>rfl) (ag hkk) (r:=0) rfl)) HB3.out) kS.out;have t1:=ak (ak (hca _ _ (aE (fun a:Ad=>a.cells.toList) 3 (fun _=>rfl) (ag hkk) (r:=1) rfl)) HB3.out) kS.out;have t2:=ak (ak (hca _ _ (aE (fun a:Ad=>a.cells.toList) 3 (fun _=>rfl) (ag hkk) (r:=2) rfl)) HB3.out) kS.out;have hbm:=bC hkk;have ab5:(cP.take (k+1)).any (fun y=>decide (y=(⟨av,ah,al⟩:Ad)))=((cP.take k).any (fun y=>decide (y=(⟨av,ah,al⟩:Ad)))||decide (cP[k]=(⟨av,ah,al⟩:Ad))):=by rw[qN (ag hkk),List.any_append,List.any_cons,List.any_nil,Bool.or_false]
   generalize cP[k]=BB at t0 t1 t2 hbm ab5;have hfb:=HFi.out BB hbm;obtain⟨bv,bh,bl⟩:=BB;unfold Ad.cells at hfb;simp only at hfb t0 t1 t2;rw[Nat.add_zero]at t0;rw[←Nat.add_assoc]at t1 t2;obtain⟨HFb,aek⟩:=aQ hfb ab5;clear hfb ab5 hbm hca hcc hkk;go_upto_region 13 with fail
   go_cut [10,11]from 63 to 77 (fun vp vb wx=>∃(D:Nat)(dq:Option Addr)(c21:Nat)(dr:Option Addr)(dt:Nat)(dK:Option Addr)(c23:Nat),vp=.pointer (some ⟨D,0,none⟩)∧vb=.bool true∧af (aG wx D 49 #[.string key1,.string aU,.string bo,.slice dq n11 c21,.slice dr n12 dt,.int .u64 eu,.int .u8 aT,.slice dK n13 c23])∧af (eI wx (⟨pe,.slice dq n11 c21,.slice dr n12 dt,.slice dK n13 c23⟩:bG))∧af (Below wo.heap.size wo wx))
   case first=>
    have E:=(aK wo.heap.size wo).drew;refine wp_region_held_drew (S:=(fun u=>u.cell? ⟨P,0,none⟩=some (.int .u64 va)∧u.cell? ⟨P,1,none⟩=some (.slice (some ⟨g,o,none⟩) gk ca1)∧u.cell? ⟨P,2,none⟩=some (.slice ll ix ca2)∧u.cell? ⟨P,3,none⟩=some (.string ta)∧u.cell? ⟨g,o+i*8+4,none⟩=some (.slice (some ⟨ga,oa,none⟩) n12 c12)∧u.cell? ⟨ga,oa+k*3,none⟩=some (.bool bv)∧u.cell? ⟨ga,oa+k*3+1,none⟩=some (.int .u64 bh)∧u.cell? ⟨ga,oa+k*3+2,none⟩=some (.int .u64 bl))) bJ (⟨p0,p1,p2,p3,d4,t0,t1,t2⟩) (fun hHeld=>?_);refine bB 0 ?_
    refine bB 1 ?_
    refine bB 2 ?_
    refine bB 3 ?_
    refine bB 4 ?_
    refine bB 5 ?_
    refine bB 6 ?_
    refine bB 7 ?_
    refine bB 8 ?_
    refine bB 9 ?_
    refine wpAnyH_ready (rs:=[10,14]) bJ (by simp) ?_;refine AllReadyH.cons rfl (fun K hK=>?_) (AllReadyH.cons rfl (fun K hK=>?_) AllReadyH.nil)
    ·go_simp;refine(HFb.out _ (kS.out.trans (E.mono kS.out.size))).mono ?_;rintro r wy⟨⟨dq,c21,dr,dt,dK,c23,rfl,hmm⟩,dy⟩;try have hmm:=hmm.mono (show wo.heap.size+1≤_ from HD.out.lt)
     try have HD:=ae (HD.out.below dy HD.out.lt)
     have E:=after E dy;have HM:=ae hmm;clear dy hmm;try have z:=fun i=>HD.out.frozen i
     try have y0:=HD.out.cell 0
     try have y1:=HD.out.cell 1
     try have y2:=HD.out.cell 2
     try have y3:=HD.out.cell 3
     try have y4:=HD.out.cell 4
     try have y5:=HD.out.cell 5
     try have y6:=HD.out.cell 6
     try have y7:=HD.out.cell 7
     try simp at y0 y1 y2 y3 y4 y5 y6 y7
     refine hK.out _ _ (⟨ak p0 E,ak p1 E,ak p2 E,ak p3 E,ak d4 E,ak t0 E,ak t1 E,ak t2 E⟩) (fun hHeld=>?_);clear hK K;try simp only[dX]
     refine bB 11 ?_
     refine bB 12 ?_
     refine bB 13 ?_
     refine mM 14 fun K hK=>?_;go_simp;obtain⟨HDs,HD⟩:=aQ E.size (tV E 49 #[.string ⟨#[]⟩,.string ⟨#[]⟩,.string ⟨#[]⟩,.slice none 0 0,.slice none 0 0,.int .u64 0,.int .u8 0,.slice none 0 0]);try(have HD:af (aG _ wo.heap.size _ _):=HD)
     have Eo:=E;try have H1:=ae (aw wy.heap.size)
     try have HMo:=HM
     have E:=after E (oO E (.cells #[.string ⟨#[]⟩,.string ⟨#[]⟩,.string ⟨#[]⟩,.slice none 0 0,.slice none 0 0,.int .u64 0,.int .u8 0,.slice none 0 0] 49));refine hK.out _ _ (⟨ak p0 E,ak p1 E,ak p2 E,ak p3 E,ak d4 E,ak t0 E,ak t1 E,ak t2 E⟩) (fun hHeld=>?_);clear hK K;try simp only[dX]
     refine mM 15 fun K hK=>?_;go_simp;first
      |(have:=H1;obtain⟨f1,f2,f3⟩:=bO (tV Eo 49 #[.string key1,.string aU,.string bo,.slice dq n11 c21,.slice dr n12 dt,.int .u64 eu,.int .u8 aT,.slice dK n13 c23]) (after Eo (oO Eo (.cells #[.string key1,.string aU,.string bo,.slice dq n11 c21,.slice dr n12 dt,.int .u64 eu,.int .u8 aT,.slice dK n13 c23] 49))) (HMo.out.rd.below (oO Eo (.cells #[.string key1,.string aU,.string bo,.slice dq n11 c21,.slice dr n12 dt,.int .u64 eu,.int .u8 aT,.slice dK n13 c23] 49)));generalize wy.alloc (.cells #[.string key1,.string aU,.string bo,.slice dq n11 c21,.slice dr n12 dt,.int .u64 eu,.int .u8 aT,.slice dK n13 c23] 49)=wf at f1 f2 f3⊢)
      |(obtain⟨f1,f2,f3⟩:=bO (KW HD.out (.string key1) (.string aU) (.string bo) (.slice dq n11 c21) (.slice dr n12 dt) (.int .u64 eu) (.int .u8 aT) (.slice dK n13 c23)) (qM (P:=wo.heap.size) (Q:=fun u=>Below wo.heap.size wo u) (fun u i x hq=>hq.setCell (p:=⟨_,i,none⟩) (aw _) x) E (.string key1) (.string aU) (.string bo) (.slice dq n11 c21) (.slice dr n12 dt) (.int .u64 eu) (.int .u8 aT) (.slice dK n13 c23)) (cz.rd (qM (P:=wo.heap.size) (Q:=fun u=>cz u (wo.heap.size+1) (⟨pe,.slice dq n11 c21,.slice dr n12 dt,.slice dK n13 c23⟩:bG)) (fun u i x hq=>⟨aN hq.tags (cE _),aN hq.aH (cE _),aN hq.ends (cE _)⟩) HM.out (.string key1) (.string aU) (.string bo) (.slice dq n11 c21) (.slice dr n12 dt) (.int .u64 eu) (.int .u8 aT) (.slice dK n13 c23)));generalize((((((((wy.setCell ⟨wo.heap.size,0,none⟩ (.string key1)).setCell ⟨wo.heap.size,1,none⟩ (.string aU)).setCell ⟨wo.heap.size,2,none⟩ (.string bo)).setCell ⟨wo.heap.size,3,none⟩ (.slice dq n11 c21)).setCell ⟨wo.heap.size,4,none⟩ (.slice dr n12 dt)).setCell ⟨wo.heap.size,5,none⟩ (.int .u64 eu)).setCell ⟨wo.heap.size,6,none⟩ (.int .u8 aT)).setCell ⟨wo.heap.size,7,none⟩ (.slice dK n13 c23))=wf at f1 f2 f3⊢)
     refine hK.out _ _ (⟨ak p0 f2.out,ak p1 f2.out,ak p2 f2.out,ak p3 f2.out,ak d4 f2.out,ak t0 f2.out,ak t1 f2.out,ak t2 f2.out⟩) (fun hHeld=>?_);clear hK K;try simp only[dX]
     refine bB 16 ?_
     refine tX ?_;go_wp2_with fail
     go_meet;exact⟨_,dq,c21,dr,dt,dK,c23,rfl,rfl,f1,f3,f2⟩
    ·go_simp;obtain⟨HDs,HD⟩:=aQ E.size (tV E 49 #[.string ⟨#[]⟩,.string ⟨#[]⟩,.string ⟨#[]⟩,.slice none 0 0,.slice none 0 0,.int .u64 0,.int .u8 0,.slice none 0 0]);try(have HD:af (aG _ wo.heap.size _ _):=HD)
     have Eo:=E;try have H1:=ae (aw wy.heap.size)
     try have HMo:=HM
     have E:=after E (oO E (.cells #[.string ⟨#[]⟩,.string ⟨#[]⟩,.string ⟨#[]⟩,.slice none 0 0,.slice none 0 0,.int .u64 0,.int .u8 0,.slice none 0 0] 49));refine hK.out _ _ (⟨ak p0 E,ak p1 E,ak p2 E,ak p3 E,ak d4 E,ak t0 E,ak t1 E,ak t2 E⟩) (fun hHeld=>?_);clear hK K;try simp only[dX]
     refine mM 10 fun K hK=>?_;go_simp;refine(HFb.out _ (kS.out.trans (E.mono kS.out.size))).mono ?_;rintro r wy⟨⟨dq,c21,dr,dt,dK,c23,rfl,hmm⟩,dy⟩;try have hmm:=hmm.mono (show wo.heap.size+1≤_ from HD.out.lt)
     try have HD:=ae (HD.out.below dy HD.out.lt)
     have E:=after E dy;have HM:=ae hmm;clear dy hmm;try have z:=fun i=>HD.out.frozen i
     try have y0:=HD.out.cell 0
     try have y1:=HD.out.cell 1
     try have y2:=HD.out.cell 2
     try have y3:=HD.out.cell 3
     try have y4:=HD.out.cell 4
     try have y5:=HD.out.cell 5
     try have y6:=HD.out.cell 6
     try have y7:=HD.out.cell 7
     try simp at y0 y1 y2 y3 y4 y5 y6 y7
     refine hK.out _ _ (⟨ak p0 E,ak p1 E,ak p2 E,ak p3 E,ak d4 E,ak t0 E,ak t1 E,ak t2 E⟩) (fun hHeld=>?_);clear hK K;try simp only[dX]
     refine bB 11 ?_
     refine bB 12 ?_
     refine bB 13 ?_
     refine mM 15 fun K hK=>?_;go_simp;first
      |(have:=H1;obtain⟨f1,f2,f3⟩:=bO (tV Eo 49 #[.string key1,.string aU,.string bo,.slice dq n11 c21,.slice dr n12 dt,.int .u64 eu,.int .u8 aT,.slice dK n13 c23]) (after Eo (oO Eo (.cells #[.string key1,.string aU,.string bo,.slice dq n11 c21,.slice dr n12 dt,.int .u64 eu,.int .u8 aT,.slice dK n13 c23] 49))) (HMo.out.rd.below (oO Eo (.cells #[.string key1,.string aU,.string bo,.slice dq n11 c21,.slice dr n12 dt,.int .u64 eu,.int .u8 aT,.slice dK n13 c23] 49)));generalize wy.alloc (.cells #[.string key1,.string aU,.string bo,.slice dq n11 c21,.slice dr n12 dt,.int .u64 eu,.int .u8 aT,.slice dK n13 c23] 49)=wf at f1 f2 f3⊢)
      |(obtain⟨f1,f2,f3⟩:=bO (KW HD.out (.string key1) (.string aU) (.string bo) (.slice dq n11 c21) (.slice dr n12 dt) (.int .u64 eu) (.int .u8 aT) (.slice dK n13 c23)) (qM (P:=wo.heap.size) (Q:=fun u=>Below wo.heap.size wo u) (fun u i x hq=>hq.setCell (p:=⟨_,i,none⟩) (aw _) x) E (.string key1) (.string aU) (.string bo) (.slice dq n11 c21) (.slice dr n12 dt) (.int .u64 eu) (.int .u8 aT) (.slice dK n13 c23)) (cz.rd (qM (P:=wo.heap.size) (Q:=fun u=>cz u (wo.heap.size+1) (⟨pe,.slice dq n11 c21,.slice dr n12 dt,.slice dK n13 c23⟩:bG)) (fun u i x hq=>⟨aN hq.tags (cE _),aN hq.aH (cE _),aN hq.ends (cE _)⟩) HM.out (.string key1) (.string aU) (.string bo) (.slice dq n11 c21) (.slice dr n12 dt) (.int .u64 eu) (.int .u8 aT) (.slice dK n13 c23)));generalize((((((((wy.setCell ⟨wo.heap.size,0,none⟩ (.string key1)).setCell ⟨wo.heap.size,1,none⟩ (.string aU)).setCell ⟨wo.heap.size,2,none⟩ (.string bo)).setCell ⟨wo.heap.size,3,none⟩ (.slice dq n11 c21)).setCell ⟨wo.heap.size,4,none⟩ (.slice dr n12 dt)).setCell ⟨wo.heap.size,5,none⟩ (.int .u64 eu)).setCell ⟨wo.heap.size,6,none⟩ (.int .u8 aT)).setCell ⟨wo.heap.size,7,none⟩ (.slice dK n13 c23))=wf at f1 f2 f3⊢)
     refine hK.out _ _ (⟨ak p0 f2.out,ak p1 f2.out,ak p2 f2.out,ak p3 f2.out,ak d4 f2.out,ak t0 f2.out,ak t1 f2.out,ak t2 f2.out⟩) (fun hHeld=>?_);clear hK K;try simp only[dX]
     refine bB 16 ?_
     refine tX ?_;go_wp2_with fail
     go_meet;exact⟨_,dq,c21,dr,dt,dK,c23,rfl,rfl,f1,f3,f2⟩
   case rest=>
   obtain⟨D,dq,c21,dr,dt,dK,c23,rfl,rfl,hDi,HMi,lV⟩:=hcut;obtain⟨wi,rfl⟩:∃wi:World,wi=wc:=⟨_,rfl⟩;have HWi:=ae (after kS.out lV.out)
   replace p0:=ak p0 lV.out
   replace p1:=ak p1 lV.out
   replace p2:=ak p2 lV.out
   replace p3:=ak p3 lV.out
   replace d0:=ak d0 lV.out
   replace d1:=ak d1 lV.out
   replace d2:=ak d2 lV.out
   replace d3:=ak d3 lV.out
   replace d4:=ak d4 lV.out
   replace d5:=ak d5 lV.out
   replace d6:=ak d6 lV.out
   replace d7:=ak d7 lV.out
   obtain⟨y0,y1,y2,y3,y4,y5,y6,y7⟩:=jq hDi
   replace t0:=ak t0 lV.out
   replace t1:=ak t1 lV.out
   replace t2:=ak t2 lV.out
   go_upto_region 14 with fail
   refine wp_region_held_drew (S:=(fun u=>u.cell? ⟨P,1,none⟩=some (.slice (some ⟨g,o,none⟩) gk ca1)∧u.cell? ⟨g,o+i*8,none⟩=some (.string key1)∧u.cell? ⟨g,o+i*8+1,none⟩=some (.string aU)∧u.cell? ⟨g,o+i*8+2,none⟩=some (.string bo)∧u.cell? ⟨g,o+i*8+3,none⟩=some (.slice gQ n11 c11)∧u.cell? ⟨g,o+i*8+4,none⟩=some (.slice (some ⟨ga,oa,none⟩) n12 c12)∧u.cell? ⟨g,o+i*8+5,none⟩=some (.int .u64 eu)∧u.cell? ⟨g,o+i*8+6,none⟩=some (.int .u8 aT)∧u.cell? ⟨g,o+i*8+7,none⟩=some (.slice jA n13 c13)∧u.cell? ⟨D,0,none⟩=some (.string key1)∧u.cell? ⟨D,1,none⟩=some (.string aU)∧u.cell? ⟨D,2,none⟩=some (.string bo)∧u.cell? ⟨D,3,none⟩=some (.slice dq n11 c21)∧u.cell? ⟨D,4,none⟩=some (.slice dr n12 dt)∧u.cell? ⟨D,5,none⟩=some (.int .u64 eu)∧u.cell? ⟨D,6,none⟩=some (.int .u8 aT)∧u.cell? ⟨D,7,none⟩=some (.slice dK n13 c23))) bJ (⟨p1,d0,d1,d2,d3,d4,d5,d6,d7,y0,y1,y2,y3,y4,y5,y6,y7⟩) (fun hHeld=>?_);refine bB 0 ?_
   refine bB 1 ?_
   refine bB 2 ?_
   refine bB 3 ?_
   refine bB 4 ?_
   refine bB 5 ?_
   refine bB 6 ?_
   refine bB 7 ?_
   refine bB 8 ?_
   refine mM 9 fun K hK=>?_;go_simp;refine(HSm.out _ (HWi.out.drew) _ _ _ _ _ _ (HMi.out.below (aK _ _).drew)).mono ?_;rintro r wv⟨rfl,dv⟩;refine hK.out _ _ (⟨ak hHeld.1 dv,ak hHeld.2.1 dv,ak hHeld.2.2.1 dv,ak hHeld.2.2.2.1 dv,ak hHeld.2.2.2.2.1 dv,ak hHeld.2.2.2.2.2.1 dv,ak hHeld.2.2.2.2.2.2.1 dv,ak hHeld.2.2.2.2.2.2.2.1 dv,ak hHeld.2.2.2.2.2.2.2.2.1 dv,ak hHeld.2.2.2.2.2.2.2.2.2.1 dv,ak hHeld.2.2.2.2.2.2.2.2.2.2.1 dv,ak hHeld.2.2.2.2.2.2.2.2.2.2.2.1 dv,ak hHeld.2.2.2.2.2.2.2.2.2.2.2.2.1 dv,ak hHeld.2.2.2.2.2.2.2.2.2.2.2.2.2.1 dv,ak hHeld.2.2.2.2.2.2.2.2.2.2.2.2.2.2.1 dv,ak hHeld.2.2.2.2.2.2.2.2.2.2.2.2.2.2.2.1 dv,ak hHeld.2.2.2.2.2.2.2.2.2.2.2.2.2.2.2.2 dv⟩) (fun hHeld=>?_);clear hK K;try simp only[dX]
   refine bB 10 ?_
   refine bB 11 ?_
   refine tX ?_;have Z4:=ae (after HWi.out.drew dv)
   replace p1:=ak p1 (after (aK _ wi).drew dv)
   replace d4:=ak d4 (after (aK _ wi).drew dv)
   replace t0:=ak t0 (after (aK _ wi).drew dv)
   replace t1:=ak t1 (after (aK _ wi).drew dv)
   replace t2:=ak t2 (after (aK _ wi).drew dv)
   obtain⟨a0,a1,a2⟩:=oM tA
   replace a0:=ak a0 Z4.out
   replace a1:=ak a1 Z4.out
   replace a2:=ak a2 Z4.out
   clear dv HWi p0 p2 p3 d0 d1 d2 d3 d5 d6 d7 y0 y1 y2 y3 y4 y5 y6 y7 hDi HMi lV;have hq:∀W:World,(binOp .eql 44 (.agg #[.bool bv,.int .u64 bh,.int .u64 bl]) (.agg #[.bool av,.int .u64 ah,.int .u64 al])).run ai W=.ok (.bool (decide ((⟨av,ah,al⟩:Ad)=⟨bv,bh,bl⟩))) W:=fun W=>aaW ⟨bv,bh,bl⟩ ⟨av,ah,al⟩ W
   obtain⟨EB,hEB⟩:∃e,e=decide ((⟨av,ah,al⟩:Ad)=⟨bv,bh,bl⟩):=⟨_,rfl⟩;rw[←hEB]at hq;have HEb:=ae (show decide ((⟨bv,bh,bl⟩:Ad)=⟨av,ah,al⟩)=EB by rw[hEB];rw[kq,decide_eq_true_eq,decide_eq_true_eq];exact eq_comm);clear hEB;cases Vb with
   |true=>
    go_upto_region 16 with fail
    refine wp_region_held_drew (S:=(fun _=>True)) bJ (trivial) (fun hHeld=>?_);refine bB 0 ?_
    refine bB 1 ?_
    refine xb 2 ?_
    refine xb 3 ?_
    refine xb 4 ?_
    refine xb 5 ?_
    refine xb 6 ?_
    refine xb 7 ?_
    refine xb 8 ?_
    refine xb 9 ?_
    refine xb 10 ?_
    refine xb 11 ?_
    refine xb 12 ?_
    refine bB 13 ?_
    refine bB 14 ?_
    refine tX ?_;go_wp2_with fail
    go_roundw
    case rel=>exact⟨k+1,true,by omega,by go_num,rfl,ae (by rw[aek.out,←Bool.or_assoc,←hown2.out];rfl),ae Z4.out.drew⟩
    case measure=>simp[intOf];omega
   |false=>
    go_upto_region 16 with fail
    refine wp_region_held_drew (S:=(fun u=>u.cell? ⟨P,1,none⟩=some (.slice (some ⟨g,o,none⟩) gk ca1)∧u.cell? ⟨g,o+i*8+4,none⟩=some (.slice (some ⟨ga,oa,none⟩) n12 c12)∧u.cell? ⟨ga,oa+k*3,none⟩=some (.bool bv)∧u.cell? ⟨ga,oa+k*3+1,none⟩=some (.int .u64 bh)∧u.cell? ⟨ga,oa+k*3+2,none⟩=some (.int .u64 bl)∧u.cell? ⟨Q,0,none⟩=some (.bool av)∧u.cell? ⟨Q,1,none⟩=some (.int .u64 ah)∧u.cell? ⟨Q,2,none⟩=some (.int .u64 al))) bJ (⟨p1,d4,t0,t1,t2,a0,a1,a2⟩) (fun hHeld=>?_);refine bB 0 ?_
    refine bB 1 ?_
    refine bB 2 ?_
    refine bB 3 ?_
    refine bB 4 ?_
    refine bB 5 ?_
    refine bB 6 ?_
    refine bB 7 ?_
    refine bB 8 ?_
    refine bB 9 ?_
    refine bB 10 ?_
    refine bB 11 ?_
    refine bB 12 ?_
    refine bB 13 ?_
    refine bB 14 ?_
    refine tX ?_;go_wp2_with fail
    go_roundw
    case rel=>exact⟨k+1,EB,by omega,by go_num,rfl,ae (by rw[aek.out,←Bool.or_assoc,←hown2.out,HEb.out];rfl),ae Z4.out.drew⟩
    case measure=>simp[intOf];omega
end Go.Proofs.YtdfnhljccdoncaaGreatDoor
