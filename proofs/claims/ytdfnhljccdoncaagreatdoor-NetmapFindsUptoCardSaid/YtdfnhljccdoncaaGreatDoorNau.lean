/- Joined out of: DfA BhA BhB. -/
import Derived.Test.YtdfnhljccdoncaaGreatDoorNat
import Derived.RegionTactic
import Derived.ChangeAlike
import Derived.LoopTactic
import Derived.StillTailTactics
set_option linter.unusedVariables false
set_option linter.unusedSimpArgs false
set_option maxHeartbeats 16000000
set_option maxRecDepth 100000
open Bool renaming true_and→bT
open Go.Lib renaming hid→ae
open Go.Proofs.Tryz renaming prog→ai
open Go.RowKit renaming Hid→af
open List renaming length_append→aj,length_map→ay,getD_eq_getElem?_getD→aB,range→aD,replicate→aS,length_singleton→fY,take_zero→afH,take_succ_cons→af9,drop_zero→aga,drop_succ_cons→agb
namespace Go.Proofs.YtdfnhljccdoncaaGreatDoor
open Go.RowKit
attribute [local go_sem↓] Go.wp_at_zero Go.wp_at_succ
def AtR(l:List Pr)(key:ByteArray)(z:Int):Prop:=(z= -1∧mR l key=none)∨∃(k:Nat)(hk:k<l.length),z=(k:Int)∧mR l key=some l[k]
theorem nN{w:World}{v:Value}{l:List Pr}(h:dP w v l)(hl:l.length≤4000000)(key:ByteArray):Calls ai 41 #[v,.string key] w fun r w'=>(∃z:Int,r=.returned (.int .i64 z)∧AtR l key z)∧Below w.heap.size w w':=by
 obtain⟨xs,rfl,hr,hx⟩:=h;rw[ay]at hl;refine(Xt hr hl key).mono ?_;rintro r w2⟨⟨z,rfl,hz⟩,d⟩;refine⟨⟨z,rfl,?_⟩,d⟩;rcases JZ (q:=fun p=>decide (p.key=key)) hz with⟨e,h⟩|⟨k,hk,e,h⟩
 ·exact Or.inl ⟨e,h⟩
 ·refine Or.inr ⟨k,by rw[ay];exact hk,e,?_⟩;rw[List.getElem_map];exact h
theorem AtR.none{l:List Pr}{key:ByteArray}{z:Int}(h:AtR l key z):(mR l key).isNone=decide (z<0):=by
 rcases h with⟨rfl,h⟩|⟨k,hk,rfl,h⟩
 ·rw[h];rfl
 ·rw[h,decide_eq_false aY];rfl
theorem AtR.lo{l:List Pr}{key:ByteArray}{z:Int}(h:AtR l key z): -1≤z∧z<l.length:=by
 rcases h with⟨rfl,h⟩|⟨k,hk,rfl,h⟩
 ·omega
 ·omega
theorem IE{w:World}{sv:Value}{ps:List Pr}{g:Nat}(hp:dP w sv ps)(hl:ps.length≤4000000)(hg:w.cell? ⟨g,2,none⟩=some sv)(k:ByteArray):Calls ai 111 #[.string k,.pointer (some ⟨g,0,none⟩)] w (Got (.bool (decide (k.size=32)&&(mR ps k).isNone)) w):=by
 have ha:=nN hp hl k;obtain⟨A,c,e⟩:=hp.shape;subst e;generalize ps.length=NS at*;have HA:=ae ha;clear ha hp hl;go_enter Tryz.func111,Tryz.ntmps111;by_cases k1:k.size=32;rotate_left
 ·have q1:((k.size:Int)==32)=false:=by simp;omega
  rw[decide_eq_false k1,Bool.false_and];clear k1;go_wp2_with fail
  go_ret;exact⟨rfl,Below.refl _ _⟩
 have q1:((k.size:Int)==32)=true:=by simp;omega
 rw[decide_eq_true k1,bT];clear k1;go_wp2_with(go_at_call 41;(with_reducible refine HA.out.mono ?_);rintro r w2⟨⟨z,rfl,hz⟩,d2⟩;have HZ:=ae hz;clear hz)
 go_ret;exact⟨by rw[HZ.out.none];rfl,d2⟩
def rY(d:Dl)(sv gv rv:Value):Array Value:= #[.int .u64 (d.base:Int),.int .u64 (d.version:Int),sv,gv,.bool d.ja,rv,.bool d.i7,.string d.policy,.string d.hash]
structure AU(w:World)(d:Dl)(sv gv rv:Value):Prop where
 aM:dP w sv d.aM
 gone:aV w gv d.gone.length 1 (strCells d.gone)
 aF:gi w rv d.aF
theorem AU.below{w w':World}{d:Dl}{sv gv rv:Value}(h:AU w d sv gv rv)(hb:Below w.heap.size w w'):AU w' d sv gv rv:=⟨h.aM.below hb,h.gone.below hb,aV.below h.aF hb⟩
structure abo(d:Dl):Prop where
 aM:∀p∈d.aM,gI p
 sl:d.aM.length≤2000000
 gl:d.gone.length≤2000000
 rl:d.aF.length≤2000000
 pl:d.policy.size≤2000000
 keys:∀k∈d.gone,k.size≤2000000
theorem xW{w:World}(env:Env w){d:Dl}{sv gv rv:Value}(hd:AU w d sv gv rv)(fit:JQ d)(sz:abo d):Calls ai 46 #[.agg (rY d sv gv rv)] w (Got (.bool (lD d)) w):=by
 have hps:=fun u(hu:Below w.heap.size w u)=>pg (env.below hu) (hd.aM.below hu) (by have:=sz.sl;omega) fit.aJ sz.aM
 have hrs:=fun u(hu:Below w.heap.size w u)=>nF (env.below hu) (aV.below hd.aF hu) (by have:=sz.rl;omega) fit.aF
 have hpo:=fun u(hu:Below w.heap.size w u)=>nE (env.below hu) d.policy sz.pl
 have hgo:=fun u(hu:Below w.heap.size w u)g(hg:u.cell? ⟨g,2,none⟩=some sv)=>Am (hd.gone.below hu) (by have:=sz.gl;omega) (fun k=>decide (k.size=32)&&(mR d.aM k).isNone) 111 #[.pointer (some ⟨g,0,none⟩)] (enters_of Tryz.func111 bJ rfl) fun W hW x hx=>IE (hd.aM.below (after hu hW)) (by have:=sz.sl;omega) (ak hg hW) x
 have hgr:=fun u(hu:Below w.heap.size w u)=>JR (hd.gone.below hu) (by have:=sz.gl;omega) qB 113 #[] (enters_of Tryz.func113 bJ rfl) fun W hW x y=>vP x y W
 obtain⟨R,hR⟩:∃r,r=lD d:=⟨_,rfl⟩;rw[←hR];unfold lD at hR;have l1:=sz.sl;have l2:=sz.gl;have l3:=sz.rl;obtain⟨A1,c1,e1⟩:=hd.aM.shape;obtain⟨A2,c2,e2⟩:=hd.gone.shape;obtain⟨A3,c3,e3⟩:=aV.shape hd.aF;have hie:d.aF.isEmpty=decide (d.aF.length=0):=by cases d.aF<;>rfl
 rw[hie]at hR;clear hd fit sz env hie;obtain⟨base,version,aM,gone,ja,aF,i7,policy,hash⟩:=d;simp only at*;subst e1 e2 e3;unfold rY;simp only;generalize(gone.all fun k=>decide (k.size=32)&&(mR aM k).isNone)=AM at hgo hR;generalize cC qB gone=RA at hgr hR;generalize iN aM=PA at hps hR;generalize jb aF=YA at hrs hR;generalize kJ policy=OA at hpo hR;generalize aM.length=NS at*;generalize gone.length=NG at*;generalize aF.length=NR at*;obtain⟨Aw,HRs,MF,HGo,Ek,HR⟩:=tU hps hrs hpo hgo hgr hR;clear hps hrs hpo hgo hgr hR l1;obtain⟨HB,HP⟩:=aQ (boxed w (.cells #[.int .u64 base,.int .u64 version,.slice A1 NS c1,.slice A2 NG c2,.bool ja,.slice A3 NR c3,.bool i7,.string policy,.string hash] 29)) (aG.new w 29 #[.int .u64 base,.int .u64 version,.slice A1 NS c1,.slice A2 NG c2,.bool ja,.slice A3 NR c3,.bool i7,.string policy,.string hash]);go_enter Tryz.func46,Tryz.ntmps46;go_upto_region 1 with fail
 generalize w.alloc (.cells #[.int .u64 base,.int .u64 version,.slice A1 NS c1,.slice A2 NG c2,.bool ja,.slice A3 NR c3,.bool i7,.string policy,.string hash] 29)=w1 at HB HP⊢;generalize hP:w.heap.size=P at HP⊢;obtain⟨p0,p1,p2,p3,p4,p5,p6,p7,p8⟩:=afZ HP;by_cases k1:1≤base;rotate_left
 ·have q1:(base:Int)<1:=by omega
  have q1':base<1:=by omega
  have di:af (R=false):=ae (by rw[HR.out,decide_eq_false k1];simp);clear k1;go_wp2_with fail
  go_ret;exact⟨by rw[di.out];rfl,HB.out⟩
 have q1:¬(base:Int)<1:=by omega
 have q1':¬base<1:=by omega
 by_cases k2:base<version;rotate_left
 ·have q2:(version:Int)≤(base:Int):=by omega
  have q2':version≤base:=by omega
  have di:af (R=false):=ae (by rw[HR.out,decide_eq_false k2];simp);clear k1 k2;go_wp2_with fail
  go_ret;exact⟨by rw[di.out];rfl,HB.out⟩
 have q2:¬(version:Int)≤(base:Int):=by omega
 have q2':¬version≤base:=by omega
 by_cases k3:hash.size=32;rotate_left
 ·have q3:((hash.size:Int) !=32)=true:=by simp;omega
  have di:af (R=false):=ae (by rw[HR.out,decide_eq_false k3];simp);clear k1 k2 k3;go_wp2_with fail
  go_ret;exact⟨by rw[di.out];rfl,HB.out⟩
 have q3:((hash.size:Int) !=32)=false:=by simp;omega
 by_cases k4:NG≤64;rotate_left
 ·have q4:(64:Int)<(NG:Int):=by omega
  have q4':64<NG:=by omega
  have di:af (R=false):=ae (by rw[HR.out,decide_eq_false k4];simp);clear k1 k2 k3 k4;go_wp2_with fail
  go_ret;exact⟨by rw[di.out];rfl,HB.out⟩
 have q4:¬(64:Int)<(NG:Int):=by omega
 have q4':¬64<NG:=by omega
 have HR1:=ae HR.out;rw[decide_eq_true k1,decide_eq_true k2,decide_eq_true k3,decide_eq_true k4,bT,bT,bT,bT]at HR1;clear HR k1 k2 k3 k4;go_upto_region 3 with fail
 clear q1 q1' q2 q2' q3 q4 q4';have lK:=ae (HGo.out _ HB.out P p2);by_cases k5:ja=true∨NR=0;rotate_left
 ·obtain⟨ka,kb⟩:=not_or.1 k5;have ka:ja=false:=by simpa using ka
  subst ka;have q5:(0:Int)<(NR:Int):=by omega
  have q5':0<NR:=by omega
  have di:af (R=false):=ae (by rw[HR1.out,decide_eq_false kb];simp);clear k5 kb;cases i7 with
  |false=>
   go_wp2_with fail
   go_ret;exact⟨by rw[di.out];rfl,HB.out⟩
  |true=>
   go_wp2_with fail
   go_ret;exact⟨by rw[di.out];rfl,HB.out⟩
 by_cases k6:i7=true∨policy.size=0;rotate_left
 ·obtain⟨ka,kb⟩:=not_or.1 k6;have ka:i7=false:=by simpa using ka
  subst ka;have q6:(policy.toList.isEmpty)=false:=by rw[wu];exact decide_eq_false kb
  have di:af (R=false):=ae (by rw[HR1.out,decide_eq_false kb];simp);clear k6 kb;cases ja with
  |true=>
   go_wp2_with fail
   go_ret;exact⟨by rw[di.out];rfl,HB.out⟩
  |false=>
   obtain rfl:NR=0:=by
    rcases k5 with h|h;·cases h
    ·exact h
   go_wp2_with fail
   go_ret;exact⟨by rw[di.out];rfl,HB.out⟩
 have ht:(ja||decide (NR=0))=true:=by rcases k5 with h|h<;>simp[h]
 have ht2:(i7||decide (policy.size=0))=true:=by rcases k6 with h|h<;>simp[h]
 have HR2:=ae HR1.out;rw[ht,ht2,bT,bT]at HR2;clear HR1 ht ht2;have q6:i7=false→policy.toList.isEmpty=true:=fun h=>by
  rw[wu];rcases k6 with k|k
  ·rw[h]at k;cases k
  ·exact decide_eq_true k
 have q5:ja=false→NR=0:=fun h=>by
  rcases k5 with k|k
  ·rw[h]at k;cases k
  ·exact k
 clear k5 k6;cases ja<;>cases i7
 ·obtain rfl:=q5 rfl;have q6:=q6 rfl;go_upto_region 5 with fail
  cases AM with
  |false=>
   have di:af (R=false):=ae (by rw[HR2.out];simp);go_wp2_with(first
    |(go_at_call 47;(with_reducible refine lK.out.mono ?_);rintro r wa⟨rfl,da⟩;have gP:=bm HB da;have fj:=ae (HP.out.below da HP.out.lt);obtain⟨-,-,x2,x3,-,x5,-,x7⟩:=jq fj;clear da))
   go_ret;exact⟨by rw[di.out];rfl,gP.out⟩
  |true=>
   cases RA with
   |false=>
    have di:af (R=false):=ae (by rw[HR2.out];simp);go_wp2_with(first
     |(go_at_call 47;(with_reducible refine lK.out.mono ?_);rintro r wa⟨rfl,da⟩;have gP:=bm HB da;have fj:=ae (HP.out.below da HP.out.lt);obtain⟨-,-,x2,x3,-,x5,-,x7⟩:=jq fj;clear da)
     |(go_at_call 112;(with_reducible refine(Ek.out _ gP.out).mono ?_);rintro r wb⟨rfl,db⟩;have jR:=bm gP db;have ep:=ae (fj.out.below db fj.out.lt);obtain⟨-,-,y2,-,-,y5,-,y7⟩:=jq ep;clear db))
    go_ret;exact⟨by rw[di.out];rfl,jR.out⟩
   |true=>
    cases PA with
    |false=>
     have di:af (R=false):=ae (by rw[HR2.out];simp);go_wp2_with(first
      |(go_at_call 47;(with_reducible refine lK.out.mono ?_);rintro r wa⟨rfl,da⟩;have gP:=bm HB da;have fj:=ae (HP.out.below da HP.out.lt);obtain⟨-,-,x2,x3,-,x5,-,x7⟩:=jq fj;clear da)
      |(go_at_call 112;(with_reducible refine(Ek.out _ gP.out).mono ?_);rintro r wb⟨rfl,db⟩;have jR:=bm gP db;have ep:=ae (fj.out.below db fj.out.lt);obtain⟨-,-,y2,-,-,y5,-,y7⟩:=jq ep;clear db)
      |(go_at_call 114;(with_reducible refine(Aw.out _ jR.out).mono ?_);rintro r wc⟨rfl,dc⟩;have HBc:=bm jR dc;have lq:=ae (ep.out.below dc ep.out.lt);obtain⟨-,-,-,-,-,z5,-,z7⟩:=jq lq;clear dc))
     go_ret;exact⟨by rw[di.out];rfl,HBc.out⟩
    |true=>
     cases YA with
     |false=>
      have di:af (R=false):=ae (by rw[HR2.out];simp);go_wp2_with(first
       |(go_at_call 47;(with_reducible refine lK.out.mono ?_);rintro r wa⟨rfl,da⟩;have gP:=bm HB da;have fj:=ae (HP.out.below da HP.out.lt);obtain⟨-,-,x2,x3,-,x5,-,x7⟩:=jq fj;clear da)
       |(go_at_call 112;(with_reducible refine(Ek.out _ gP.out).mono ?_);rintro r wb⟨rfl,db⟩;have jR:=bm gP db;have ep:=ae (fj.out.below db fj.out.lt);obtain⟨-,-,y2,-,-,y5,-,y7⟩:=jq ep;clear db)
       |(go_at_call 114;(with_reducible refine(Aw.out _ jR.out).mono ?_);rintro r wc⟨rfl,dc⟩;have HBc:=bm jR dc;have lq:=ae (ep.out.below dc ep.out.lt);obtain⟨-,-,-,-,-,z5,-,z7⟩:=jq lq;clear dc)
       |(go_at_call 115;(with_reducible refine(HRs.out _ HBc.out).mono ?_);rintro r wd⟨rfl,dd⟩;have AV:=bm HBc dd;have ln:=ae (lq.out.below dd lq.out.lt);have t7:=ln.out.cell 7;simp at t7;clear dd))
      go_ret;exact⟨by rw[di.out];rfl,AV.out⟩
     |true=>
      have di:af (R=OA):=ae (by rw[HR2.out];simp);go_wp2_with(first
       |(go_at_call 47;(with_reducible refine lK.out.mono ?_);rintro r wa⟨rfl,da⟩;have gP:=bm HB da;have fj:=ae (HP.out.below da HP.out.lt);obtain⟨-,-,x2,x3,-,x5,-,x7⟩:=jq fj;clear da)
       |(go_at_call 112;(with_reducible refine(Ek.out _ gP.out).mono ?_);rintro r wb⟨rfl,db⟩;have jR:=bm gP db;have ep:=ae (fj.out.below db fj.out.lt);obtain⟨-,-,y2,-,-,y5,-,y7⟩:=jq ep;clear db)
       |(go_at_call 114;(with_reducible refine(Aw.out _ jR.out).mono ?_);rintro r wc⟨rfl,dc⟩;have HBc:=bm jR dc;have lq:=ae (ep.out.below dc ep.out.lt);obtain⟨-,-,-,-,-,z5,-,z7⟩:=jq lq;clear dc)
       |(go_at_call 115;(with_reducible refine(HRs.out _ HBc.out).mono ?_);rintro r wd⟨rfl,dd⟩;have AV:=bm HBc dd;have ln:=ae (lq.out.below dd lq.out.lt);have t7:=ln.out.cell 7;simp at t7;clear dd)
       |(go_at_call 116;(with_reducible refine(MF.out _ AV.out).mono ?_);rintro r we⟨rfl,de⟩;have HBe:=bm AV de;have HPe:=ae (ln.out.below de ln.out.lt);clear de))
      go_ret;exact⟨by rw[di.out];rfl,HBe.out⟩
 ·obtain rfl:=q5 rfl;go_upto_region 5 with fail
  cases AM with
  |false=>
   have di:af (R=false):=ae (by rw[HR2.out];simp);go_wp2_with(first
    |(go_at_call 47;(with_reducible refine lK.out.mono ?_);rintro r wa⟨rfl,da⟩;have gP:=bm HB da;have fj:=ae (HP.out.below da HP.out.lt);obtain⟨-,-,x2,x3,-,x5,-,x7⟩:=jq fj;clear da))
   go_ret;exact⟨by rw[di.out];rfl,gP.out⟩
  |true=>
   cases RA with
   |false=>
    have di:af (R=false):=ae (by rw[HR2.out];simp);go_wp2_with(first
     |(go_at_call 47;(with_reducible refine lK.out.mono ?_);rintro r wa⟨rfl,da⟩;have gP:=bm HB da;have fj:=ae (HP.out.below da HP.out.lt);obtain⟨-,-,x2,x3,-,x5,-,x7⟩:=jq fj;clear da)
     |(go_at_call 112;(with_reducible refine(Ek.out _ gP.out).mono ?_);rintro r wb⟨rfl,db⟩;have jR:=bm gP db;have ep:=ae (fj.out.below db fj.out.lt);obtain⟨-,-,y2,-,-,y5,-,y7⟩:=jq ep;clear db))
    go_ret;exact⟨by rw[di.out];rfl,jR.out⟩
   |true=>
    cases PA with
    |false=>
     have di:af (R=false):=ae (by rw[HR2.out];simp);go_wp2_with(first
      |(go_at_call 47;(with_reducible refine lK.out.mono ?_);rintro r wa⟨rfl,da⟩;have gP:=bm HB da;have fj:=ae (HP.out.below da HP.out.lt);obtain⟨-,-,x2,x3,-,x5,-,x7⟩:=jq fj;clear da)
      |(go_at_call 112;(with_reducible refine(Ek.out _ gP.out).mono ?_);rintro r wb⟨rfl,db⟩;have jR:=bm gP db;have ep:=ae (fj.out.below db fj.out.lt);obtain⟨-,-,y2,-,-,y5,-,y7⟩:=jq ep;clear db)
      |(go_at_call 114;(with_reducible refine(Aw.out _ jR.out).mono ?_);rintro r wc⟨rfl,dc⟩;have HBc:=bm jR dc;have lq:=ae (ep.out.below dc ep.out.lt);obtain⟨-,-,-,-,-,z5,-,z7⟩:=jq lq;clear dc))
     go_ret;exact⟨by rw[di.out];rfl,HBc.out⟩
    |true=>
     cases YA with
     |false=>
      have di:af (R=false):=ae (by rw[HR2.out];simp);go_wp2_with(first
       |(go_at_call 47;(with_reducible refine lK.out.mono ?_);rintro r wa⟨rfl,da⟩;have gP:=bm HB da;have fj:=ae (HP.out.below da HP.out.lt);obtain⟨-,-,x2,x3,-,x5,-,x7⟩:=jq fj;clear da)
       |(go_at_call 112;(with_reducible refine(Ek.out _ gP.out).mono ?_);rintro r wb⟨rfl,db⟩;have jR:=bm gP db;have ep:=ae (fj.out.below db fj.out.lt);obtain⟨-,-,y2,-,-,y5,-,y7⟩:=jq ep;clear db)
       |(go_at_call 114;(with_reducible refine(Aw.out _ jR.out).mono ?_);rintro r wc⟨rfl,dc⟩;have HBc:=bm jR dc;have lq:=ae (ep.out.below dc ep.out.lt);obtain⟨-,-,-,-,-,z5,-,z7⟩:=jq lq;clear dc)
       |(go_at_call 115;(with_reducible refine(HRs.out _ HBc.out).mono ?_);rintro r wd⟨rfl,dd⟩;have AV:=bm HBc dd;have ln:=ae (lq.out.below dd lq.out.lt);have t7:=ln.out.cell 7;simp at t7;clear dd))
      go_ret;exact⟨by rw[di.out];rfl,AV.out⟩
     |true=>
      have di:af (R=OA):=ae (by rw[HR2.out];simp);go_wp2_with(first
       |(go_at_call 47;(with_reducible refine lK.out.mono ?_);rintro r wa⟨rfl,da⟩;have gP:=bm HB da;have fj:=ae (HP.out.below da HP.out.lt);obtain⟨-,-,x2,x3,-,x5,-,x7⟩:=jq fj;clear da)
       |(go_at_call 112;(with_reducible refine(Ek.out _ gP.out).mono ?_);rintro r wb⟨rfl,db⟩;have jR:=bm gP db;have ep:=ae (fj.out.below db fj.out.lt);obtain⟨-,-,y2,-,-,y5,-,y7⟩:=jq ep;clear db)
       |(go_at_call 114;(with_reducible refine(Aw.out _ jR.out).mono ?_);rintro r wc⟨rfl,dc⟩;have HBc:=bm jR dc;have lq:=ae (ep.out.below dc ep.out.lt);obtain⟨-,-,-,-,-,z5,-,z7⟩:=jq lq;clear dc)
       |(go_at_call 115;(with_reducible refine(HRs.out _ HBc.out).mono ?_);rintro r wd⟨rfl,dd⟩;have AV:=bm HBc dd;have ln:=ae (lq.out.below dd lq.out.lt);have t7:=ln.out.cell 7;simp at t7;clear dd)
       |(go_at_call 116;(with_reducible refine(MF.out _ AV.out).mono ?_);rintro r we⟨rfl,de⟩;have HBe:=bm AV de;have HPe:=ae (ln.out.below de ln.out.lt);clear de))
      go_ret;exact⟨by rw[di.out];rfl,HBe.out⟩
 ·have q6:=q6 rfl;go_upto_region 5 with fail
  cases AM with
  |false=>
   have di:af (R=false):=ae (by rw[HR2.out];simp);go_wp2_with(first
    |(go_at_call 47;(with_reducible refine lK.out.mono ?_);rintro r wa⟨rfl,da⟩;have gP:=bm HB da;have fj:=ae (HP.out.below da HP.out.lt);obtain⟨-,-,x2,x3,-,x5,-,x7⟩:=jq fj;clear da))
   go_ret;exact⟨by rw[di.out];rfl,gP.out⟩
  |true=>
   cases RA with
   |false=>
    have di:af (R=false):=ae (by rw[HR2.out];simp);go_wp2_with(first
     |(go_at_call 47;(with_reducible refine lK.out.mono ?_);rintro r wa⟨rfl,da⟩;have gP:=bm HB da;have fj:=ae (HP.out.below da HP.out.lt);obtain⟨-,-,x2,x3,-,x5,-,x7⟩:=jq fj;clear da)
     |(go_at_call 112;(with_reducible refine(Ek.out _ gP.out).mono ?_);rintro r wb⟨rfl,db⟩;have jR:=bm gP db;have ep:=ae (fj.out.below db fj.out.lt);obtain⟨-,-,y2,-,-,y5,-,y7⟩:=jq ep;clear db))
    go_ret;exact⟨by rw[di.out];rfl,jR.out⟩
   |true=>
    cases PA with
    |false=>
     have di:af (R=false):=ae (by rw[HR2.out];simp);go_wp2_with(first
      |(go_at_call 47;(with_reducible refine lK.out.mono ?_);rintro r wa⟨rfl,da⟩;have gP:=bm HB da;have fj:=ae (HP.out.below da HP.out.lt);obtain⟨-,-,x2,x3,-,x5,-,x7⟩:=jq fj;clear da)
      |(go_at_call 112;(with_reducible refine(Ek.out _ gP.out).mono ?_);rintro r wb⟨rfl,db⟩;have jR:=bm gP db;have ep:=ae (fj.out.below db fj.out.lt);obtain⟨-,-,y2,-,-,y5,-,y7⟩:=jq ep;clear db)
      |(go_at_call 114;(with_reducible refine(Aw.out _ jR.out).mono ?_);rintro r wc⟨rfl,dc⟩;have HBc:=bm jR dc;have lq:=ae (ep.out.below dc ep.out.lt);obtain⟨-,-,-,-,-,z5,-,z7⟩:=jq lq;clear dc))
     go_ret;exact⟨by rw[di.out];rfl,HBc.out⟩
    |true=>
     cases YA with
     |false=>
      have di:af (R=false):=ae (by rw[HR2.out];simp);go_wp2_with(first
       |(go_at_call 47;(with_reducible refine lK.out.mono ?_);rintro r wa⟨rfl,da⟩;have gP:=bm HB da;have fj:=ae (HP.out.below da HP.out.lt);obtain⟨-,-,x2,x3,-,x5,-,x7⟩:=jq fj;clear da)
       |(go_at_call 112;(with_reducible refine(Ek.out _ gP.out).mono ?_);rintro r wb⟨rfl,db⟩;have jR:=bm gP db;have ep:=ae (fj.out.below db fj.out.lt);obtain⟨-,-,y2,-,-,y5,-,y7⟩:=jq ep;clear db)
       |(go_at_call 114;(with_reducible refine(Aw.out _ jR.out).mono ?_);rintro r wc⟨rfl,dc⟩;have HBc:=bm jR dc;have lq:=ae (ep.out.below dc ep.out.lt);obtain⟨-,-,-,-,-,z5,-,z7⟩:=jq lq;clear dc)
       |(go_at_call 115;(with_reducible refine(HRs.out _ HBc.out).mono ?_);rintro r wd⟨rfl,dd⟩;have AV:=bm HBc dd;have ln:=ae (lq.out.below dd lq.out.lt);have t7:=ln.out.cell 7;simp at t7;clear dd))
      go_ret;exact⟨by rw[di.out];rfl,AV.out⟩
     |true=>
      have di:af (R=OA):=ae (by rw[HR2.out];simp);go_wp2_with(first
       |(go_at_call 47;(with_reducible refine lK.out.mono ?_);rintro r wa⟨rfl,da⟩;have gP:=bm HB da;have fj:=ae (HP.out.below da HP.out.lt);obtain⟨-,-,x2,x3,-,x5,-,x7⟩:=jq fj;clear da)
       |(go_at_call 112;(with_reducible refine(Ek.out _ gP.out).mono ?_);rintro r wb⟨rfl,db⟩;have jR:=bm gP db;have ep:=ae (fj.out.below db fj.out.lt);obtain⟨-,-,y2,-,-,y5,-,y7⟩:=jq ep;clear db)
       |(go_at_call 114;(with_reducible refine(Aw.out _ jR.out).mono ?_);rintro r wc⟨rfl,dc⟩;have HBc:=bm jR dc;have lq:=ae (ep.out.below dc ep.out.lt);obtain⟨-,-,-,-,-,z5,-,z7⟩:=jq lq;clear dc)
       |(go_at_call 115;(with_reducible refine(HRs.out _ HBc.out).mono ?_);rintro r wd⟨rfl,dd⟩;have AV:=bm HBc dd;have ln:=ae (lq.out.below dd lq.out.lt);have t7:=ln.out.cell 7;simp at t7;clear dd)
       |(go_at_call 116;(with_reducible refine(MF.out _ AV.out).mono ?_);rintro r we⟨rfl,de⟩;have HBe:=bm AV de;have HPe:=ae (ln.out.below de ln.out.lt);clear de))
      go_ret;exact⟨by rw[di.out];rfl,HBe.out⟩
 ·go_upto_region 5 with fail
  cases AM with
  |false=>
   have di:af (R=false):=ae (by rw[HR2.out];simp);go_wp2_with(first
    |(go_at_call 47;(with_reducible refine lK.out.mono ?_);rintro r wa⟨rfl,da⟩;have gP:=bm HB da;have fj:=ae (HP.out.below da HP.out.lt);obtain⟨-,-,x2,x3,-,x5,-,x7⟩:=jq fj;clear da))
   go_ret;exact⟨by rw[di.out];rfl,gP.out⟩
  |true=>
   cases RA with
   |false=>
    have di:af (R=false):=ae (by rw[HR2.out];simp);go_wp2_with(first
     |(go_at_call 47;(with_reducible refine lK.out.mono ?_);rintro r wa⟨rfl,da⟩;have gP:=bm HB da;have fj:=ae (HP.out.below da HP.out.lt);obtain⟨-,-,x2,x3,-,x5,-,x7⟩:=jq fj;clear da)
     |(go_at_call 112;(with_reducible refine(Ek.out _ gP.out).mono ?_);rintro r wb⟨rfl,db⟩;have jR:=bm gP db;have ep:=ae (fj.out.below db fj.out.lt);obtain⟨-,-,y2,-,-,y5,-,y7⟩:=jq ep;clear db))
    go_ret;exact⟨by rw[di.out];rfl,jR.out⟩
   |true=>
    cases PA with
    |false=>
     have di:af (R=false):=ae (by rw[HR2.out];simp);go_wp2_with(first
      |(go_at_call 47;(with_reducible refine lK.out.mono ?_);rintro r wa⟨rfl,da⟩;have gP:=bm HB da;have fj:=ae (HP.out.below da HP.out.lt);obtain⟨-,-,x2,x3,-,x5,-,x7⟩:=jq fj;clear da)
      |(go_at_call 112;(with_reducible refine(Ek.out _ gP.out).mono ?_);rintro r wb⟨rfl,db⟩;have jR:=bm gP db;have ep:=ae (fj.out.below db fj.out.lt);obtain⟨-,-,y2,-,-,y5,-,y7⟩:=jq ep;clear db)
      |(go_at_call 114;(with_reducible refine(Aw.out _ jR.out).mono ?_);rintro r wc⟨rfl,dc⟩;have HBc:=bm jR dc;have lq:=ae (ep.out.below dc ep.out.lt);obtain⟨-,-,-,-,-,z5,-,z7⟩:=jq lq;clear dc))
     go_ret;exact⟨by rw[di.out];rfl,HBc.out⟩
    |true=>
     cases YA with
     |false=>
      have di:af (R=false):=ae (by rw[HR2.out];simp);go_wp2_with(first
       |(go_at_call 47;(with_reducible refine lK.out.mono ?_);rintro r wa⟨rfl,da⟩;have gP:=bm HB da;have fj:=ae (HP.out.below da HP.out.lt);obtain⟨-,-,x2,x3,-,x5,-,x7⟩:=jq fj;clear da)
       |(go_at_call 112;(with_reducible refine(Ek.out _ gP.out).mono ?_);rintro r wb⟨rfl,db⟩;have jR:=bm gP db;have ep:=ae (fj.out.below db fj.out.lt);obtain⟨-,-,y2,-,-,y5,-,y7⟩:=jq ep;clear db)
       |(go_at_call 114;(with_reducible refine(Aw.out _ jR.out).mono ?_);rintro r wc⟨rfl,dc⟩;have HBc:=bm jR dc;have lq:=ae (ep.out.below dc ep.out.lt);obtain⟨-,-,-,-,-,z5,-,z7⟩:=jq lq;clear dc)
       |(go_at_call 115;(with_reducible refine(HRs.out _ HBc.out).mono ?_);rintro r wd⟨rfl,dd⟩;have AV:=bm HBc dd;have ln:=ae (lq.out.below dd lq.out.lt);have t7:=ln.out.cell 7;simp at t7;clear dd))
      go_ret;exact⟨by rw[di.out];rfl,AV.out⟩
     |true=>
      have di:af (R=OA):=ae (by rw[HR2.out];simp);go_wp2_with(first
       |(go_at_call 47;(with_reducible refine lK.out.mono ?_);rintro r wa⟨rfl,da⟩;have gP:=bm HB da;have fj:=ae (HP.out.below da HP.out.lt);obtain⟨-,-,x2,x3,-,x5,-,x7⟩:=jq fj;clear da)
       |(go_at_call 112;(with_reducible refine(Ek.out _ gP.out).mono ?_);rintro r wb⟨rfl,db⟩;have jR:=bm gP db;have ep:=ae (fj.out.below db fj.out.lt);obtain⟨-,-,y2,-,-,y5,-,y7⟩:=jq ep;clear db)
       |(go_at_call 114;(with_reducible refine(Aw.out _ jR.out).mono ?_);rintro r wc⟨rfl,dc⟩;have HBc:=bm jR dc;have lq:=ae (ep.out.below dc ep.out.lt);obtain⟨-,-,-,-,-,z5,-,z7⟩:=jq lq;clear dc)
       |(go_at_call 115;(with_reducible refine(HRs.out _ HBc.out).mono ?_);rintro r wd⟨rfl,dd⟩;have AV:=bm HBc dd;have ln:=ae (lq.out.below dd lq.out.lt);have t7:=ln.out.cell 7;simp at t7;clear dd)
       |(go_at_call 116;(with_reducible refine(MF.out _ AV.out).mono ?_);rintro r we⟨rfl,de⟩;have HBe:=bm AV de;have HPe:=ae (ln.out.below de ln.out.lt);clear de))
      go_ret;exact⟨by rw[di.out];rfl,HBe.out⟩
def wH(x s:Nat):Nat:=x*2^s%4294967296|||x/2^(32-s)
def bA(v:List Nat)(i:Nat):Nat:=v.getD i 0
def gA(x y:Nat):Nat:=x^^^y
structure Ws(n:Nat)(v:List Nat):Prop where
 len:v.length=n
 lt:∀x∈v,x<4294967296
theorem Ws.at_{n:Nat}{v:List Nat}(h:Ws n v)(i:Nat):bA v i<4294967296:=by
 unfold bA;rw[aB];cases hi:v[i]? with
 |none=>decide
 |some x=>exact h.lt x (List.mem_of_getElem? hi)
theorem Ws.aM{n:Nat}{v:List Nat}(h:Ws n v)(i:Nat){x:Nat}(hx:x<4294967296):Ws n (v.set i x):=⟨by rw[List.length_set];exact h.len,fun y hy=>by
 rcases List.mem_or_eq_of_mem_set hy with hy|rfl
 ·exact h.lt y hy
 ·exact hx⟩
theorem ZJ{x y:Nat}(hx:x<4294967296)(hy:y<4294967296):x|||y<4294967296:=Nat.or_lt_two_pow (n:=32) hx hy
theorem jD{x y:Nat}(hx:x<4294967296)(hy:y<4294967296):gA x y<4294967296:=Nat.xor_lt_two_pow (n:=32) hx hy
theorem abp{x s:Nat}(hx:x<4294967296):wH x s<4294967296:=ZJ (Nat.mod_lt _ aI) (Nat.lt_of_le_of_lt (Nat.div_le_self _ _) hx)
def IG(v:List Nat)(a b x:Nat):List Nat:=v.set a ((bA v a+(bA v b+x)%4294967296)%4294967296)
def xX(v:List Nat)(d a s:Nat):List Nat:=v.set d (wH (gA (bA v d) (bA v a)) s)
def IH(v:List Nat)(c d:Nat):List Nat:=v.set c ((bA v c+bA v d)%4294967296)
def stepW(v:List Nat)(a b c d x r s:Nat):List Nat:=xX (IH (xX (IG v a b x) d a r) c d) b c s
def II(v:List Nat)(a b c d x y:Nat):List Nat:=stepW (stepW v a b c d x 16 20) a b c d y 24 25
theorem AW{n:Nat}{v:List Nat}(h:Ws n v)(a b x:Nat):Ws n (IG v a b x):=h.aM a (Nat.mod_lt _ aI)
theorem AX{n:Nat}{v:List Nat}(h:Ws n v)(a b:Nat):Ws n (IH v a b):=h.aM a (Nat.mod_lt _ aI)
theorem oC{n:Nat}{v:List Nat}(h:Ws n v)(a b s:Nat):Ws n (xX v a b s):=h.aM a (abp (jD (h.at_ a) (h.at_ b)))
theorem wI{n:Nat}{v:List Nat}(h:Ws n v)(a b c d x r s:Nat):Ws n (stepW v a b c d x r s):=oC (AX (oC (AW h a b x) d a r) c d) b c s
theorem J3{n:Nat}{v:List Nat}(h:Ws n v)(a b c d x y:Nat):Ws n (II v a b c d x y):=wI (wI h a b c d x 16 20) a b c d y 24 25
def nO:List (List Nat):=[[0,1,2,3,4,5,6,7,8,9,10,11,12,13,14,15],[14,10,4,8,9,15,13,6,1,12,0,2,11,7,5,3],[11,8,12,0,5,2,15,13,10,14,3,6,7,1,9,4],[7,9,3,1,13,12,11,14,2,6,5,10,4,0,15,8],[9,0,5,7,2,4,10,15,14,1,11,12,6,8,3,13],[2,12,6,10,0,11,8,3,4,13,7,5,15,14,1,9],[12,5,1,15,14,13,4,10,0,7,6,3,9,2,8,11],[13,11,7,14,12,1,3,9,5,0,15,4,8,6,2,10],[6,15,14,9,11,3,0,8,12,2,13,7,1,4,10,5],[10,2,8,4,7,6,1,5,15,11,9,14,3,12,13,0]]
def J4(m o v:List Nat)(i:Nat):List Nat:=II v i (4+i) (8+i) (12+i) (bA m (bA o (2*i))) (bA m (bA o (2*i+1)))
def oD(m o v:List Nat)(i:Nat):List Nat:=II v i (4+(i+1)%4) (8+(i+2)%4) (12+(i+3)%4) (bA m (bA o (8+2*i))) (bA m (bA o (9+2*i)))
def ZK(m o v:List Nat)(k:Nat):List Nat:=(aD k).foldl (J4 m o) v
def kO(m o v:List Nat)(k:Nat):List Nat:=(aD k).foldl (oD m o) v
def pO(m v:List Nat)(r:Nat):List Nat:=kO m (nO.getD r []) (ZK m (nO.getD r []) v 4) 4
def jS(m v:List Nat)(k:Nat):List Nat:=(aD k).foldl (pO m) v
theorem oG{n:Nat}{f:List Nat→Nat→List Nat}(hf:∀v i,Ws n v→Ws n (f v i)):∀(l:List Nat)(v:List Nat),Ws n v→Ws n (l.foldl f v)
 |[],_,h=>h
 |i::l,v,h=>oG hf l (f v i) (hf v i h)
theorem IJ{n:Nat}{m o v:List Nat}(h:Ws n v)(k:Nat):Ws n (ZK m o v k):=oG (fun _ _ h=>J3 h _ _ _ _ _ _) _ v h
theorem wJ{n:Nat}{m o v:List Nat}(h:Ws n v)(k:Nat):Ws n (kO m o v k):=oG (fun _ _ h=>J3 h _ _ _ _ _ _) _ v h
theorem Oc{n:Nat}{m v:List Nat}(h:Ws n v)(r:Nat):Ws n (pO m v r):=by unfold pO;exact wJ (IJ h 4) 4
theorem pP{n:Nat}{m v:List Nat}(h:Ws n v)(k:Nat):Ws n (jS m v k):=by unfold jS;exact oG (f:=pO m) (fun _ r h=>Oc h r) _ v h
theorem jg(f:List Nat→Nat→List Nat)(v:List Nat)(k:Nat):(aD (k+1)).foldl f v=f ((aD k).foldl f v) k:=by rw[List.range_succ,List.foldl_append];rfl
theorem TQ(m o v:List Nat)(k:Nat):ZK m o v (k+1)=J4 m o (ZK m o v k) k:=jg (J4 m o) _ k
theorem AY(m o v:List Nat)(k:Nat):kO m o v (k+1)=oD m o (kO m o v k) k:=jg (oD m o) _ k
theorem AZ(m v:List Nat)(k:Nat):jS m v (k+1)=pO m (jS m v k) k:=jg (pO m) _ k
def TR(p:List Nat)(m:List Nat)(i:Nat):List Nat:=m.set (i/4) (bA m (i/4)|||bA p i*2^(i%4*8)%4294967296)
def kj(p:List Nat)(k:Nat):List Nat:=(aD k).foldl (TR p) (aS 16 0)
theorem abq(n:Nat):Ws n (aS n 0):=⟨List.length_replicate,fun x hx=>by rw[(List.mem_replicate.1 hx).2];decide⟩
theorem yP(p:List Nat)(k:Nat):Ws 16 (kj p k):=oG (fun _ _ h=>h.aM _ (ZJ (h.at_ _) (Nat.mod_lt _ aI))) _ _ (abq 16)
theorem Em(p:List Nat)(k:Nat):kj p (k+1)=TR p (kj p k) k:=jg (TR p) _ k
def fX:List Nat:=[1779033703,3144134277,1013904242,2773480762,1359893119,2600822924,528734635,1541459225]
theorem jV:Ws 8 fX:=⟨rfl,by decide⟩
def mF(h:List Nat)(n:Nat)(last:Bool):List Nat:=let v:=h++fX
 let v:=v.set 12 (gA (bA v 12) (n%4294967296))
 let v:=v.set 13 (gA (bA v 13) (n/4294967296%4294967296))
 if last then v.set 14 (4294967295-bA v 14)else v
theorem TS{n m:Nat}{u v:List Nat}(h:Ws n u)(k:Ws m v):Ws (n+m) (u++v):=⟨by rw[aj,h.len,k.len],fun x hx=>(List.mem_append.1 hx).elim (h.lt x) (k.lt x)⟩
theorem yQ{h:List Nat}(hh:Ws 8 h)(n:Nat)(last:Bool):Ws 16 (mF h n last):=by
 unfold mF;have h1:=TS hh jV;have h2:=h1.aM 12 (jD (h1.at_ 12) (Nat.mod_lt n (show 0<4294967296 by decide)));have h3:=h2.aM 13 (jD (h2.at_ 13) (Nat.mod_lt (n/4294967296) (show 0<4294967296 by decide)));cases last with
 |false=>exact h3
 |true=>exact h3.aM 14 (by omega)
def J5(v h:List Nat)(i:Nat):List Nat:=h.set i (gA (bA h i) (gA (bA v i) (bA v (8+i))))
def mG(v h:List Nat)(k:Nat):List Nat:=(aD k).foldl (J5 v) h
theorem Ep(v h:List Nat)(k:Nat):mG v h (k+1)=J5 v (mG v h k) k:=jg (J5 v) _ k
theorem yR{n m:Nat}{v h:List Nat}(hv:Ws m v)(hh:Ws n h)(k:Nat):Ws n (mG v h k):=oG (fun _ _ h=>h.aM _ (jD (h.at_ _) (jD (hv.at_ _) (hv.at_ _)))) _ _ hh
def nP(h:List Nat)(n:Nat)(p:List Nat)(last:Bool):List Nat:=mG (jS (kj p 64) (mF h n last) 10) h 8
theorem rZ{h:List Nat}(hh:Ws 8 h)(n:Nat)(p:List Nat)(last:Bool):Ws 8 (nP h n p last):=yR (pP (yQ hh n last) 10) hh 8
structure Bl where
 h:List Nat
 rest:List Nat
 n:Nat
structure Bl.Ok(b:Bl):Prop where
 h:Ws 8 b.h
 rest:b.rest.length≤64
 byte:∀x∈b.rest,x<256
def Bl.add(b:Bl)(c:Nat):Bl:=if b.rest.length=64 then⟨nP b.h (b.n+64) b.rest false,[c],b.n+64⟩else⟨b.h,b.rest++[c],b.n⟩
theorem Bl.abr{b:Bl}(ok:b.Ok){c:Nat}(hc:c<256):(b.add c).Ok:=by
 unfold Bl.add;split
 ·exact⟨rZ ok.h _ _ _,(show 1≤64 by decide),fun x hx=>by rw[List.mem_singleton.1 hx];exact hc⟩
 ·refine⟨ok.h,?_,fun x hx=>?_⟩
  ·have:=ok.rest;simp only[aj,fY];omega
  ·rcases List.mem_append.1 hx with hx|hx
   ·exact ok.byte x hx
   ·rw[List.mem_singleton.1 hx];exact hc
def Bl.adds(b:Bl)(l:List Nat):Bl:=l.foldl Bl.add b
def Bl.new:Bl:=⟨fX.set 0 1795745351,[],0⟩
theorem Bl.TV:Bl.new.Ok:=⟨jV.aM 0 aI,by decide,fun x hx=>by cases hx⟩
theorem Bl.J6{l:List Nat}(hl:∀x∈l,x<256):∀{b:Bl},b.Ok→(b.adds l).Ok:=by
 induction l with
 |nil=>intro b h;exact h
 |cons c l ih=>intro b h;exact ih (fun x hx=>hl x (List.mem_cons_of_mem _ hx)) (b.abr h (hl c (List.mem_cons_self ..)))
theorem Bl.adz(b:Bl)(c:Nat):(b.add c).n≤b.n+64∧(b.add c).n+(b.add c).rest.length=b.n+b.rest.length+1:=by
 unfold Bl.add;split
 ·next h=>simp only[fY];omega
 ·simp only[aj,fY];omega
theorem Bl.TW(l:List Nat):∀b:Bl,(b.adds l).n+(b.adds l).rest.length=b.n+b.rest.length+l.length:=by
 induction l with
 |nil=>intro b;rfl
 |cons c l ih=>
  intro b;show((b.add c).adds l).n+((b.add c).adds l).rest.length=_;rw[ih,(b.adz c).2,List.length_cons];omega
def Bl.last(b:Bl):List Nat:=nP b.h (b.n+b.rest.length) (b.rest++aS (64-b.rest.length) 0) true
def jN(h:List Nat)(i:Nat):Nat:=bA h (i/4)/2^(i%4*8)%256
def Bl.sum(b:Bl):List Nat:=(aD 32).map (jN b.last)
def sc(s:ByteArray):ByteArray:=⟨((Bl.new.adds (s.data.toList.map UInt8.toNat)).sum.map UInt8.ofNat).toArray⟩
theorem Es(s:ByteArray):(sc s).size=32:=by
 show(((Bl.new.adds _).sum.map UInt8.ofNat).toArray).size=32;rw[List.size_toArray,ay];unfold Bl.sum;rw[ay,List.length_range]
theorem uy(x s:Nat)(hx:x<4294967296)(hs:s<32)(k:Int)(hk:bits .and .u64 (IntKind.u64.wrap k) 31=(s:Int))(w:World):Calls ai 263 #[.int .u32 x,.int .i64 k] w fun r w'=>r=.returned (.int .u32 (wH x s:Int))∧w=w':=by
 have h3:IntKind.u64.wrap (32-(s:Int))=((32-s:Nat):Int):=by rw[IntKind.wrap_u64];omega
 have h4:bits .or .u32 ((x:Int)*2^s%4294967296) ((x:Int)/2^(32-s))=(wH x s:Int):=by
  have:=u32_or_nat (x*2^s%4294967296) (x/2^(32-s)) (Nat.mod_lt _ aI) (Nat.lt_of_le_of_lt (Nat.div_le_self _ _) hx);unfold wH;simpa using this
 have ht:32-s≤32:=Nat.sub_le _ _;generalize 32-s=t at*;generalize wH x s=R at*;go_enter Tryz.func263,Tryz.ntmps263;go_wp2_with fail
 go_ret;exact⟨rfl,rfl⟩
def bW(v:List Nat):Array Value:=(v.map fun x:Nat=>Value.int .u32 x).toArray
theorem yS{n:Nat}{v:List Nat}(h:Ws n v){i:Nat}(hi:i<n):(bW v)[i]? =some (.int .u32 (bA v i:Int)):=by
 unfold bW bA;rw[List.getElem?_toArray,List.getElem?_map,aB,List.getElem?_eq_getElem (by rw[h.len];exact hi)];rfl
theorem wK(v:List Nat)(i x:Nat):(bW v).setIfInBounds i (.int .u32 x)=bW (v.set i x):=by
 unfold bW;rw[List.setIfInBounds_toArray,List.map_set]
theorem tC(n:Nat):IntKind.u32.wrap (n:Int)=((n%4294967296:Nat):Int):=by rw[IntKind.wrap_u32];rfl
theorem dO{w:World}{g n:Nat}{t:TypeId}{v:List Nat}(hv:Ws n v)(hg:aG w g t (bW v)){i:Nat}(hi:i<n):w.cell? ⟨g,i,none⟩=some (.int .u32 (bA v i:Int)):=by
 rw[hg.cell i];exact yS hv hi
theorem Et{w w0:World}{g n:Nat}{t:TypeId}{v:List Nat}(hg:aG w g t (bW v))(hk:Keeps (fun k=>k=g) w0 w)(i x:Nat):aG (w.setCell ⟨g,i,none⟩ (.int .u32 x)).drew g t (bW (v.set i x))∧Keeps (fun k=>k=g) w0 (w.setCell ⟨g,i,none⟩ (.int .u32 x)).drew:=by
 refine⟨?_,(hk.setCell (p:=⟨g,i,none⟩) (Or.inl rfl) _).drew⟩;rw[←wK];exact(hg.aM i _).drew
def kl(w0:World)(g:Nat)(v:List Nat)(w:World):Prop:=aG w g 274 (bW v)∧Keeps (fun k=>k=g) w0 w
theorem Eu{w w0:World}{g:Nat}{v:List Nat}(h:kl w0 g v w){a b x A B R0 R1:Nat}(hA:bA v a=A)(hB:bA v b=B)(h0:(B+x)%4294967296=R0)(h1:(A+R0)%4294967296=R1):kl w0 g (IG v a b x) (w.setCell ⟨g,a,none⟩ (.int .u32 R1)).drew:=by
 have:=Et (n:=16) h.1 h.2 a R1;rw[show v.set a R1=IG v a b x by unfold IG;rw[hA,hB,h0,h1]]at this;exact this
theorem Ez{w w0:World}{g:Nat}{v:List Nat}(h:kl w0 g v w){a b A B R1:Nat}(hA:bA v a=A)(hB:bA v b=B)(h1:(A+B)%4294967296=R1):kl w0 g (IH v a b) (w.setCell ⟨g,a,none⟩ (.int .u32 R1)).drew:=by
 have:=Et (n:=16) h.1 h.2 a R1;rw[show v.set a R1=IH v a b by unfold IH;rw[hA,hB,h1]]at this;exact this
theorem qP{w w0:World}{g:Nat}{v:List Nat}(h:kl w0 g v w){a b s A B R1:Nat}(hA:bA v a=A)(hB:bA v b=B)(h1:wH (gA A B) s=R1):kl w0 g (xX v a b s) (w.setCell ⟨g,a,none⟩ (.int .u32 R1)).drew:=by
 have:=Et (n:=16) h.1 h.2 a R1;rw[show v.set a R1=xX v a b s by unfold xX;rw[hA,hB,h1]]at this;exact this
theorem EA{x y:Nat}(hx:x<4294967296)(hy:y<4294967296):bits .xor .u32 (x:Int) (y:Int)=(gA x y:Int):=u32_xor_nat x y hx hy
theorem J7{w:World}{g gw:Nat}{v:List Nat}(hv:Ws 16 v)(hg:aG w g 274 (bW v)){x y:Nat}(hw:aG w gw 205 #[.int .u32 x,.int .u32 y]){a b c d:Nat}(ha:a<16)(hb:b<16)(hc:c<16)(hd:d<16):Calls ai 262 #[.int .i64 a,.int .i64 b,.int .i64 c,.int .i64 d,.slice (some ⟨gw,0,none⟩) 2 2,.pointer (some ⟨g,0,none⟩)] w fun r w'=>r=.returned (.tuple #[])∧kl w g (II v a b c d x y) w':=by
 have hne:gw≠g:=aG.xc hw hg aI;have HG:af (kl w g v w):=ae ⟨hg,Keeps.refl _ _⟩;have HW:=ae hw;have a1:(0:Int)≤(a:Int):=by omega
 have a2:(a:Int)<16:=by omega
 have a3:(b:Int)<16:=by omega
 have a4:(c:Int)<16:=by omega
 have a5:(d:Int)<16:=by omega
 clear hg hw;go_enter Tryz.func262,Tryz.ntmps262;go_wp2_with fail
 go_loopw [15] (fun v15 wr=>(v15=.int .i64 0∧af (kl w g v wr))∨(v15=.int .i64 1∧af (kl w g (stepW v a b c d x 16 20) wr))∨(v15=.int .i64 2∧af (kl w g (II v a b c d x y) wr))) (fun v15 _=>2-(intOf v15).toNat)
 case atStart=>exact Or.inl ⟨rfl,HG⟩
 case round=>
  rcases hrel with⟨rfl,h⟩|⟨rfl,h⟩|⟨rfl,h⟩
  ·have hvv:=hv;obtain⟨wo,rfl⟩:∃wo:World,wo=wr:=⟨_,rfl⟩;have c0:=(HW.out.keep h.out.2 hne).cell 0;simp at c0;have d1:=dO hvv h.out.1 ha;have d2:=dO hvv h.out.1 hb;have f1:=h.out.1.frozen a;have l1:=hvv.at_ a;have l2:=hvv.at_ b;generalize hA:bA v a=A at d1 l1;generalize hB:bA v b=B at d2 l2;obtain⟨HA,HB⟩:=aQ hA hB;clear hA hB;have e1:IntKind.u32.wrap ((B:Int)+(x:Int))=(((B+x)%4294967296:Nat):Int):=tC (B+x);have e2:IntKind.u32.wrap ((A:Int)+(((B+x)%4294967296:Nat):Int))=(((A+(B+x)%4294967296)%4294967296:Nat):Int):=tC (A+(B+x)%4294967296);generalize hR1:(A+(B+x)%4294967296)%4294967296=R1 at e2;generalize hR0:(B+x)%4294967296=R0 at e1 e2 hR1;have h1:=ae (Eu h.out HA.out HB.out hR0 hR1);have hv1:=AW hvv a b x;generalize hX:IG v a b x=u1 at h1 hv1;have HX1:=ae hX;clear hR0 hR1 hX l1 l2 HA HB;go_upto_region 3 with fail
   go_region;generalize(wo.setCell ⟨g,a,none⟩ (.int .u32 R1)).drew=w1 at h1⊢;clear d1 d2 f1 e1 e2 c0;have d1:=dO hv1 h1.out.1 hd;have d2:=dO hv1 h1.out.1 ha;have f1:=h1.out.1.frozen d;have l1:=hv1.at_ d;have l2:=hv1.at_ a;generalize hA:bA u1 d=A at d1 l1;generalize hB:bA u1 a=B at d2 l2;obtain⟨HA,HB⟩:=aQ hA hB;clear hA hB;have e1:=EA l1 l2;have mH:=fun u=>uy (gA A B) 16 (jD l1 l2) aI (-16) aI u
   generalize hR1:wH (gA A B) 16=R1 at mH;have h2:=ae (qP h1.out HA.out HB.out hR1);have hv2:=oC hv1 d a 16;generalize hX:xX u1 d a 16=u2 at h2 hv2;generalize gA A B=X0 at e1 mH;obtain⟨wL,HX2⟩:=aQ mH hX;clear mH hR1 hX l1 l2 HA HB hv1 h1;go_upto_region 4 with fail
   refine wp_region_still_tail 13 bJ bJ ?_;simp only[af9,afH,agb,aga]
   repeat still_step
   still_call ((wL.out _).mono fun _ _ h=>⟨h.1,h.2.symm⟩)
   repeat still_step
   refine wpStill_nil ?_;change wpList _ _ _ _ _ w1.drew;go_wp2_with fail
   generalize(w1.setCell ⟨g,d,none⟩ (.int .u32 R1)).drew=w2 at h2⊢;clear d1 d2 f1 e1 wL;have d1:=dO hv2 h2.out.1 hc;have d2:=dO hv2 h2.out.1 hd;have f1:=h2.out.1.frozen c;have l1:=hv2.at_ c;have l2:=hv2.at_ d;generalize hA:bA u2 c=A at d1 l1;generalize hB:bA u2 d=B at d2 l2;obtain⟨HA,HB⟩:=aQ hA hB;clear hA hB;have e1:IntKind.u32.wrap ((A:Int)+(B:Int))=(((A+B)%4294967296:Nat):Int):=tC (A+B);generalize hR1:(A+B)%4294967296=R1 at e1;have h3:=ae (Ez h2.out HA.out HB.out hR1);have hv3:=AX hv2 c d;generalize hX:IH u2 c d=u3 at h3 hv3;have HX3:=ae hX;clear hR1 hX l1 l2 HA HB;go_upto_region 5 with fail
   go_region;generalize(w2.setCell ⟨g,c,none⟩ (.int .u32 R1)).drew=w3 at h3⊢;clear d1 d2 f1 e1 h2 hv2;have d1:=dO hv3 h3.out.1 hb;have d2:=dO hv3 h3.out.1 hc;have f1:=h3.out.1.frozen b;have l1:=hv3.at_ b;have l2:=hv3.at_ c;generalize hA:bA u3 b=A at d1 l1;generalize hB:bA u3 c=B at d2 l2;obtain⟨HA,HB⟩:=aQ hA hB;clear hA hB;have e1:=EA l1 l2;have mH:=fun u=>uy (gA A B) 20 (jD l1 l2) aI (-12) aI u
   generalize hR1:wH (gA A B) 20=R1 at mH;have h4:=ae (qP h3.out HA.out HB.out hR1);have hv4:=oC hv3 b c 20;generalize hX:xX u3 b c 20=u4 at h4 hv4;generalize gA A B=X0 at e1 mH;obtain⟨wL,Ig⟩:=aQ mH hX;clear mH hR1 hX l1 l2 HA HB hv3 h3;go_upto_region 6 with fail
   refine wp_region_still_tail 13 bJ bJ ?_;simp only[af9,afH,agb,aga]
   repeat still_step
   still_call ((wL.out _).mono fun _ _ h=>⟨h.1,h.2.symm⟩)
   repeat still_step
   refine wpStill_nil ?_;change wpList _ _ _ _ _ w3.drew;go_wp2_with fail
   generalize(w3.setCell ⟨g,b,none⟩ (.int .u32 R1)).drew=w4 at h4⊢;clear d1 d2 f1 e1 wL;have hfin:af (kl w g (stepW v a b c d x 16 20) w4):=ae (by
    have e:stepW v a b c d x 16 20=u4:=by unfold stepW;rw[HX1.out,HX2.out,HX3.out,Ig.out]
    rw[e];exact h4.out)
   clear HX1 HX2 HX3 Ig h4 hv4 h;go_wp2_with fail
   go_roundw
   case rel=>exact Or.inr (Or.inl ⟨rfl,hfin⟩)
   case measure=>simp[intOf]
  ·have hvv:=wI hv a b c d x 16 20;generalize hV:stepW v a b c d x 16 20=v1 at h hvv;have HV:=ae hV;clear hV;obtain⟨wo,rfl⟩:∃wo:World,wo=wr:=⟨_,rfl⟩;have c0:=(HW.out.keep h.out.2 hne).cell 1;simp at c0;have d1:=dO hvv h.out.1 ha;have d2:=dO hvv h.out.1 hb;have f1:=h.out.1.frozen a;have l1:=hvv.at_ a;have l2:=hvv.at_ b;generalize hA:bA v1 a=A at d1 l1;generalize hB:bA v1 b=B at d2 l2;obtain⟨HA,HB⟩:=aQ hA hB;clear hA hB;have e1:IntKind.u32.wrap ((B:Int)+(y:Int))=(((B+y)%4294967296:Nat):Int):=tC (B+y);have e2:IntKind.u32.wrap ((A:Int)+(((B+y)%4294967296:Nat):Int))=(((A+(B+y)%4294967296)%4294967296:Nat):Int):=tC (A+(B+y)%4294967296);generalize hR1:(A+(B+y)%4294967296)%4294967296=R1 at e2;generalize hR0:(B+y)%4294967296=R0 at e1 e2 hR1;have h1:=ae (Eu h.out HA.out HB.out hR0 hR1);have hv1:=AW hvv a b y;generalize hX:IG v1 a b y=u1 at h1 hv1;have HX1:=ae hX;clear hR0 hR1 hX l1 l2 HA HB;go_upto_region 3 with fail
   go_region;generalize(wo.setCell ⟨g,a,none⟩ (.int .u32 R1)).drew=w1 at h1⊢;clear d1 d2 f1 e1 e2 c0;have d1:=dO hv1 h1.out.1 hd;have d2:=dO hv1 h1.out.1 ha;have f1:=h1.out.1.frozen d;have l1:=hv1.at_ d;have l2:=hv1.at_ a;generalize hA:bA u1 d=A at d1 l1;generalize hB:bA u1 a=B at d2 l2;obtain⟨HA,HB⟩:=aQ hA hB;clear hA hB;have e1:=EA l1 l2;have mH:=fun u=>uy (gA A B) 24 (jD l1 l2) aI (-8) aI u
   generalize hR1:wH (gA A B) 24=R1 at mH;have h2:=ae (qP h1.out HA.out HB.out hR1);have hv2:=oC hv1 d a 24;generalize hX:xX u1 d a 24=u2 at h2 hv2;generalize gA A B=X0 at e1 mH;obtain⟨wL,HX2⟩:=aQ mH hX;clear mH hR1 hX l1 l2 HA HB hv1 h1;go_upto_region 4 with fail
   refine wp_region_still_tail 13 bJ bJ ?_;simp only[af9,afH,agb,aga]
   repeat still_step
   still_call ((wL.out _).mono fun _ _ h=>⟨h.1,h.2.symm⟩)
   repeat still_step
   refine wpStill_nil ?_;change wpList _ _ _ _ _ w1.drew;go_wp2_with fail
   generalize(w1.setCell ⟨g,d,none⟩ (.int .u32 R1)).drew=w2 at h2⊢;clear d1 d2 f1 e1 wL;have d1:=dO hv2 h2.out.1 hc;have d2:=dO hv2 h2.out.1 hd;have f1:=h2.out.1.frozen c;have l1:=hv2.at_ c;have l2:=hv2.at_ d;generalize hA:bA u2 c=A at d1 l1;generalize hB:bA u2 d=B at d2 l2;obtain⟨HA,HB⟩:=aQ hA hB;clear hA hB;have e1:IntKind.u32.wrap ((A:Int)+(B:Int))=(((A+B)%4294967296:Nat):Int):=tC (A+B);generalize hR1:(A+B)%4294967296=R1 at e1;have h3:=ae (Ez h2.out HA.out HB.out hR1);have hv3:=AX hv2 c d;generalize hX:IH u2 c d=u3 at h3 hv3;have HX3:=ae hX;clear hR1 hX l1 l2 HA HB;go_upto_region 5 with fail
   go_region;generalize(w2.setCell ⟨g,c,none⟩ (.int .u32 R1)).drew=w3 at h3⊢;clear d1 d2 f1 e1 h2 hv2;have d1:=dO hv3 h3.out.1 hb;have d2:=dO hv3 h3.out.1 hc;have f1:=h3.out.1.frozen b;have l1:=hv3.at_ b;have l2:=hv3.at_ c;generalize hA:bA u3 b=A at d1 l1;generalize hB:bA u3 c=B at d2 l2;obtain⟨HA,HB⟩:=aQ hA hB;clear hA hB;have e1:=EA l1 l2;have mH:=fun u=>uy (gA A B) 25 (jD l1 l2) aI (-7) aI u
   generalize hR1:wH (gA A B) 25=R1 at mH;have h4:=ae (qP h3.out HA.out HB.out hR1);have hv4:=oC hv3 b c 25;generalize hX:xX u3 b c 25=u4 at h4 hv4;generalize gA A B=X0 at e1 mH;obtain⟨wL,Ig⟩:=aQ mH hX;clear mH hR1 hX l1 l2 HA HB hv3 h3;go_upto_region 6 with fail
   refine wp_region_still_tail 13 bJ bJ ?_;simp only[af9,afH,agb,aga]
   repeat still_step
   still_call ((wL.out _).mono fun _ _ h=>⟨h.1,h.2.symm⟩)
   repeat still_step
   refine wpStill_nil ?_;change wpList _ _ _ _ _ w3.drew;go_wp2_with fail
   generalize(w3.setCell ⟨g,b,none⟩ (.int .u32 R1)).drew=w4 at h4⊢;clear d1 d2 f1 e1 wL;have hfin:af (kl w g (stepW v1 a b c d y 24 25) w4):=ae (by
    have e:stepW v1 a b c d y 24 25=u4:=by unfold stepW;rw[HX1.out,HX2.out,HX3.out,Ig.out]
    rw[e];exact h4.out)
   clear HX1 HX2 HX3 Ig h4 hv4 h;go_wp2_with fail
   go_roundw
   case rel=>exact Or.inr (Or.inr ⟨rfl,ae (by have:=hfin.out;rw[←HV.out]at this;exact this)⟩)
   case measure=>simp[intOf]
  ·go_wp2_with fail
   go_end0
   exact⟨rfl,h.out⟩
end Go.Proofs.YtdfnhljccdoncaaGreatDoor
