/- Joined out of: DfA BhA BhB. -/
import Derived.Test.YteflnojjjdkgmaaGreatDoorNat
import Derived.RegionTactic
import Derived.ChangeAlike
import Derived.LoopTactic
import Derived.StillTailTactics
set_option linter.unusedVariables false
set_option linter.unusedSimpArgs false
set_option maxHeartbeats 16000000
set_option maxRecDepth 100000
open Bool renaming true_and→bH
open Go.Lib renaming hid→ae
open Go.Proofs.Tryz renaming prog→ag
open Go.RowKit renaming Hid→af
open List renaming length_append→ai,length_map→ax,getD_eq_getElem?_getD→ay,range→aA,replicate→aH,length_singleton→cI,take_zero→IM,take_succ_cons→aeB,drop_zero→aeC,drop_succ_cons→aeD
namespace Go.Proofs.YteflnojjjdkgmaaGreatDoor
open Go.RowKit
attribute [local go_sem↓] Go.wp_at_zero Go.wp_at_succ
def AtR(l:List Pr)(key:ByteArray)(z:Int):Prop:=(z= -1∧mI l key=none)∨∃(k:Nat)(hk:k<l.length),z=(k:Int)∧mI l key=some l[k]
theorem nI{w:World}{v:Value}{l:List Pr}(h:dZ w v l)(hl:l.length≤4000000)(key:ByteArray):Calls ag 44 #[v,.string key] w fun r w'=>(∃z:Int,r=.returned (.int .i64 z)∧AtR l key z)∧Below w.heap.size w w':=by
 obtain⟨xs,rfl,hr,hx⟩:=h;rw[ax]at hl;refine(Wx hr hl key).mono ?_;rintro r w2⟨⟨z,rfl,hz⟩,d⟩;refine⟨⟨z,rfl,?_⟩,d⟩;rcases Jv (q:=fun p=>decide (p.key=key)) hz with⟨e,h⟩|⟨k,hk,e,h⟩
 ·exact Or.inl ⟨e,h⟩
 ·refine Or.inr ⟨k,by rw[ax];exact hk,e,?_⟩;rw[List.getElem_map];exact h
theorem AtR.none{l:List Pr}{key:ByteArray}{z:Int}(h:AtR l key z):(mI l key).isNone=decide (z<0):=by
 rcases h with⟨rfl,h⟩|⟨k,hk,rfl,h⟩
 ·rw[h];rfl
 ·rw[h,decide_eq_false aM];rfl
theorem AtR.lo{l:List Pr}{key:ByteArray}{z:Int}(h:AtR l key z): -1≤z∧z<l.length:=by
 rcases h with⟨rfl,h⟩|⟨k,hk,rfl,h⟩
 ·omega
 ·omega
theorem Hw{w:World}{sv:Value}{ps:List Pr}{g:Nat}(hp:dZ w sv ps)(hl:ps.length≤4000000)(hg:w.cell? ⟨g,2,none⟩=some sv)(k:ByteArray):Calls ag 107 #[.string k,.pointer (some ⟨g,0,none⟩)] w (Got (.bool (decide (k.size=32)&&(mI ps k).isNone)) w):=by
 have ha:=nI hp hl k;obtain⟨A,c,e⟩:=hp.shape;subst e;generalize ps.length=NS at*;have HA:=ae ha;clear ha hp hl;go_enter Tryz.func107,Tryz.ntmps107;by_cases k1:k.size=32;rotate_left
 ·have q1:((k.size:Int)==32)=false:=by simp;omega
  rw[decide_eq_false k1,Bool.false_and];clear k1;go_wp2_with fail
  go_ret;exact⟨rfl,Below.refl _ _⟩
 have q1:((k.size:Int)==32)=true:=by simp;omega
 rw[decide_eq_true k1,bH];clear k1;go_wp2_with(go_at_call 44;(with_reducible refine HA.out.mono ?_);rintro r w2⟨⟨z,rfl,hz⟩,d2⟩;have HZ:=ae hz;clear hz)
 go_ret;exact⟨by rw[HZ.out.none];rfl,d2⟩
def rM(d:Dl)(sv gv rv:Value):Array Value:= #[.int .u64 (d.base:Int),.int .u64 (d.version:Int),sv,gv,.bool d.iK,rv,.bool d.iJ,.string d.policy,.string d.hash]
structure zW(w:World)(d:Dl)(sv gv rv:Value):Prop where
 aN:dZ w sv d.aN
 gone:aW w gv d.gone.length 1 (strCells d.gone)
 aB:gQ w rv d.aB
theorem zW.below{w w':World}{d:Dl}{sv gv rv:Value}(h:zW w d sv gv rv)(hb:Below w.heap.size w w'):zW w' d sv gv rv:=⟨h.aN.below hb,h.gone.below hb,aW.below h.aB hb⟩
structure aaC(d:Dl):Prop where
 aN:∀p∈d.aN,j9 p
 sl:d.aN.length≤2000000
 gl:d.gone.length≤2000000
 rl:d.aB.length≤2000000
 pl:d.policy.size≤2000000
 keys:∀k∈d.gone,k.size≤2000000
theorem xu{w:World}(env:Env w){d:Dl}{sv gv rv:Value}(hd:zW w d sv gv rv)(fit:Jl d)(sz:aaC d):Calls ag 49 #[.agg (rM d sv gv rv)] w (Got (.bool (k9 d)) w):=by
 have hps:=fun u(hu:Below w.heap.size w u)=>oW (env.below hu) (hd.aN.below hu) (by have:=sz.sl;omega) fit.aK sz.aN
 have hrs:=fun u(hu:Below w.heap.size w u)=>nA (env.below hu) (aW.below hd.aB hu) (by have:=sz.rl;omega) fit.aB
 have hpo:=fun u(hu:Below w.heap.size w u)=>nz (env.below hu) d.policy sz.pl
 have hgo:=fun u(hu:Below w.heap.size w u)g(hg:u.cell? ⟨g,2,none⟩=some sv)=>zF (hd.gone.below hu) (by have:=sz.gl;omega) (fun k=>decide (k.size=32)&&(mI d.aN k).isNone) 107 #[.pointer (some ⟨g,0,none⟩)] (enters_of Tryz.func107 bg rfl) fun W hW x hx=>Hw (hd.aN.below (after hu hW)) (by have:=sz.sl;omega) (ak hg hW) x
 have hgr:=fun u(hu:Below w.heap.size w u)=>Jm (hd.gone.below hu) (by have:=sz.gl;omega) qs 109 #[] (enters_of Tryz.func109 bg rfl) fun W hW x y=>vo x y W
 obtain⟨R,hR⟩:∃r,r=k9 d:=⟨_,rfl⟩;rw[←hR];unfold k9 at hR;have l1:=sz.sl;have l2:=sz.gl;have l3:=sz.rl;obtain⟨A1,c1,e1⟩:=hd.aN.shape;obtain⟨A2,c2,e2⟩:=hd.gone.shape;obtain⟨A3,c3,e3⟩:=aW.shape hd.aB;have hie:d.aB.isEmpty=decide (d.aB.length=0):=by cases d.aB<;>rfl
 rw[hie]at hR;clear hd fit sz env hie;obtain⟨base,version,aN,gone,iK,aB,iJ,policy,hash⟩:=d;simp only at*;subst e1 e2 e3;unfold rM;simp only;generalize(gone.all fun k=>decide (k.size=32)&&(mI aN k).isNone)=AM at hgo hR;generalize cw qs gone=RA at hgr hR;generalize ie aN=PA at hps hR;generalize iL aB=YA at hrs hR;generalize kq policy=OA at hpo hR;generalize aN.length=NS at*;generalize gone.length=NG at*;generalize aB.length=NR at*;obtain⟨zJ,HRs,Lu,HGo,DI,HR⟩:=ox hps hrs hpo hgo hgr hR;clear hps hrs hpo hgo hgr hR l1;obtain⟨HB,HP⟩:=aI (boxed w (.cells #[.int .u64 base,.int .u64 version,.slice A1 NS c1,.slice A2 NG c2,.bool iK,.slice A3 NR c3,.bool iJ,.string policy,.string hash] 43)) (aD.new w 43 #[.int .u64 base,.int .u64 version,.slice A1 NS c1,.slice A2 NG c2,.bool iK,.slice A3 NR c3,.bool iJ,.string policy,.string hash]);go_enter Tryz.func49,Tryz.ntmps49;go_upto_region 1 with fail
 generalize w.alloc (.cells #[.int .u64 base,.int .u64 version,.slice A1 NS c1,.slice A2 NG c2,.bool iK,.slice A3 NR c3,.bool iJ,.string policy,.string hash] 43)=w1 at HB HP⊢;generalize hP:w.heap.size=P at HP⊢;obtain⟨p0,p1,p2,p3,p4,p5,p6,p7,p8⟩:=J8 HP;by_cases k1:1≤base;rotate_left
 ·have q1:(base:Int)<1:=by omega
  have q1':base<1:=by omega
  have dK:af (R=false):=ae (by rw[HR.out,decide_eq_false k1];simp);clear k1;go_wp2_with fail
  go_ret;exact⟨by rw[dK.out];rfl,HB.out⟩
 have q1:¬(base:Int)<1:=by omega
 have q1':¬base<1:=by omega
 by_cases k2:base<version;rotate_left
 ·have q2:(version:Int)≤(base:Int):=by omega
  have q2':version≤base:=by omega
  have dK:af (R=false):=ae (by rw[HR.out,decide_eq_false k2];simp);clear k1 k2;go_wp2_with fail
  go_ret;exact⟨by rw[dK.out];rfl,HB.out⟩
 have q2:¬(version:Int)≤(base:Int):=by omega
 have q2':¬version≤base:=by omega
 by_cases k3:hash.size=32;rotate_left
 ·have q3:((hash.size:Int) !=32)=true:=by simp;omega
  have dK:af (R=false):=ae (by rw[HR.out,decide_eq_false k3];simp);clear k1 k2 k3;go_wp2_with fail
  go_ret;exact⟨by rw[dK.out];rfl,HB.out⟩
 have q3:((hash.size:Int) !=32)=false:=by simp;omega
 by_cases k4:NG≤64;rotate_left
 ·have q4:(64:Int)<(NG:Int):=by omega
  have q4':64<NG:=by omega
  have dK:af (R=false):=ae (by rw[HR.out,decide_eq_false k4];simp);clear k1 k2 k3 k4;go_wp2_with fail
  go_ret;exact⟨by rw[dK.out];rfl,HB.out⟩
 have q4:¬(64:Int)<(NG:Int):=by omega
 have q4':¬64<NG:=by omega
 have HR1:=ae HR.out;rw[decide_eq_true k1,decide_eq_true k2,decide_eq_true k3,decide_eq_true k4,bH,bH,bH,bH]at HR1;clear HR k1 k2 k3 k4;go_upto_region 3 with fail
 clear q1 q1' q2 q2' q3 q4 q4';have lr:=ae (HGo.out _ HB.out P p2);by_cases k5:iK=true∨NR=0;rotate_left
 ·obtain⟨ka,kb⟩:=not_or.1 k5;have ka:iK=false:=by simpa using ka
  subst ka;have q5:(0:Int)<(NR:Int):=by omega
  have q5':0<NR:=by omega
  have dK:af (R=false):=ae (by rw[HR1.out,decide_eq_false kb];simp);clear k5 kb;cases iJ with
  |false=>
   go_wp2_with fail
   go_ret;exact⟨by rw[dK.out];rfl,HB.out⟩
  |true=>
   go_wp2_with fail
   go_ret;exact⟨by rw[dK.out];rfl,HB.out⟩
 by_cases k6:iJ=true∨policy.size=0;rotate_left
 ·obtain⟨ka,kb⟩:=not_or.1 k6;have ka:iJ=false:=by simpa using ka
  subst ka;have q6:(policy.toList.isEmpty)=false:=by rw[vI];exact decide_eq_false kb
  have dK:af (R=false):=ae (by rw[HR1.out,decide_eq_false kb];simp);clear k6 kb;cases iK with
  |true=>
   go_wp2_with fail
   go_ret;exact⟨by rw[dK.out];rfl,HB.out⟩
  |false=>
   obtain rfl:NR=0:=by
    rcases k5 with h|h;·cases h
    ·exact h
   go_wp2_with fail
   go_ret;exact⟨by rw[dK.out];rfl,HB.out⟩
 have ht:(iK||decide (NR=0))=true:=by rcases k5 with h|h<;>simp[h]
 have ht2:(iJ||decide (policy.size=0))=true:=by rcases k6 with h|h<;>simp[h]
 have HR2:=ae HR1.out;rw[ht,ht2,bH,bH]at HR2;clear HR1 ht ht2;have q6:iJ=false→policy.toList.isEmpty=true:=fun h=>by
  rw[vI];rcases k6 with k|k
  ·rw[h]at k;cases k
  ·exact decide_eq_true k
 have q5:iK=false→NR=0:=fun h=>by
  rcases k5 with k|k
  ·rw[h]at k;cases k
  ·exact k
 clear k5 k6;cases iK<;>cases iJ
 ·obtain rfl:=q5 rfl;have q6:=q6 rfl;go_upto_region 5 with fail
  cases AM with
  |false=>
   have dK:af (R=false):=ae (by rw[HR2.out];simp);go_wp2_with(first
    |(go_at_call 50;(with_reducible refine lr.out.mono ?_);rintro r wa⟨rfl,da⟩;have gg:=aU HB da;have eY:=ae (HP.out.below da HP.out.lt);obtain⟨-,-,x2,x3,-,x5,-,x7⟩:=cU eY;clear da))
   go_ret;exact⟨by rw[dK.out];rfl,gg.out⟩
  |true=>
   cases RA with
   |false=>
    have dK:af (R=false):=ae (by rw[HR2.out];simp);go_wp2_with(first
     |(go_at_call 50;(with_reducible refine lr.out.mono ?_);rintro r wa⟨rfl,da⟩;have gg:=aU HB da;have eY:=ae (HP.out.below da HP.out.lt);obtain⟨-,-,x2,x3,-,x5,-,x7⟩:=cU eY;clear da)
     |(go_at_call 108;(with_reducible refine(DI.out _ gg.out).mono ?_);rintro r wb⟨rfl,db⟩;have jE:=aU gg db;have ei:=ae (eY.out.below db eY.out.lt);obtain⟨-,-,y2,-,-,y5,-,y7⟩:=cU ei;clear db))
    go_ret;exact⟨by rw[dK.out];rfl,jE.out⟩
   |true=>
    cases PA with
    |false=>
     have dK:af (R=false):=ae (by rw[HR2.out];simp);go_wp2_with(first
      |(go_at_call 50;(with_reducible refine lr.out.mono ?_);rintro r wa⟨rfl,da⟩;have gg:=aU HB da;have eY:=ae (HP.out.below da HP.out.lt);obtain⟨-,-,x2,x3,-,x5,-,x7⟩:=cU eY;clear da)
      |(go_at_call 108;(with_reducible refine(DI.out _ gg.out).mono ?_);rintro r wb⟨rfl,db⟩;have jE:=aU gg db;have ei:=ae (eY.out.below db eY.out.lt);obtain⟨-,-,y2,-,-,y5,-,y7⟩:=cU ei;clear db)
      |(go_at_call 70;(with_reducible refine(zJ.out _ jE.out).mono ?_);rintro r wc⟨rfl,dc⟩;have HBc:=aU jE dc;have kR:=ae (ei.out.below dc ei.out.lt);obtain⟨-,-,-,-,-,z5,-,z7⟩:=cU kR;clear dc))
     go_ret;exact⟨by rw[dK.out];rfl,HBc.out⟩
    |true=>
     cases YA with
     |false=>
      have dK:af (R=false):=ae (by rw[HR2.out];simp);go_wp2_with(first
       |(go_at_call 50;(with_reducible refine lr.out.mono ?_);rintro r wa⟨rfl,da⟩;have gg:=aU HB da;have eY:=ae (HP.out.below da HP.out.lt);obtain⟨-,-,x2,x3,-,x5,-,x7⟩:=cU eY;clear da)
       |(go_at_call 108;(with_reducible refine(DI.out _ gg.out).mono ?_);rintro r wb⟨rfl,db⟩;have jE:=aU gg db;have ei:=ae (eY.out.below db eY.out.lt);obtain⟨-,-,y2,-,-,y5,-,y7⟩:=cU ei;clear db)
       |(go_at_call 70;(with_reducible refine(zJ.out _ jE.out).mono ?_);rintro r wc⟨rfl,dc⟩;have HBc:=aU jE dc;have kR:=ae (ei.out.below dc ei.out.lt);obtain⟨-,-,-,-,-,z5,-,z7⟩:=cU kR;clear dc)
       |(go_at_call 71;(with_reducible refine(HRs.out _ HBc.out).mono ?_);rintro r wd⟨rfl,dd⟩;have zX:=aU HBc dd;have kP:=ae (kR.out.below dd kR.out.lt);have t7:=kP.out.cell 7;simp at t7;clear dd))
      go_ret;exact⟨by rw[dK.out];rfl,zX.out⟩
     |true=>
      have dK:af (R=OA):=ae (by rw[HR2.out];simp);go_wp2_with(first
       |(go_at_call 50;(with_reducible refine lr.out.mono ?_);rintro r wa⟨rfl,da⟩;have gg:=aU HB da;have eY:=ae (HP.out.below da HP.out.lt);obtain⟨-,-,x2,x3,-,x5,-,x7⟩:=cU eY;clear da)
       |(go_at_call 108;(with_reducible refine(DI.out _ gg.out).mono ?_);rintro r wb⟨rfl,db⟩;have jE:=aU gg db;have ei:=ae (eY.out.below db eY.out.lt);obtain⟨-,-,y2,-,-,y5,-,y7⟩:=cU ei;clear db)
       |(go_at_call 70;(with_reducible refine(zJ.out _ jE.out).mono ?_);rintro r wc⟨rfl,dc⟩;have HBc:=aU jE dc;have kR:=ae (ei.out.below dc ei.out.lt);obtain⟨-,-,-,-,-,z5,-,z7⟩:=cU kR;clear dc)
       |(go_at_call 71;(with_reducible refine(HRs.out _ HBc.out).mono ?_);rintro r wd⟨rfl,dd⟩;have zX:=aU HBc dd;have kP:=ae (kR.out.below dd kR.out.lt);have t7:=kP.out.cell 7;simp at t7;clear dd)
       |(go_at_call 72;(with_reducible refine(Lu.out _ zX.out).mono ?_);rintro r we⟨rfl,de⟩;have HBe:=aU zX de;have HPe:=ae (kP.out.below de kP.out.lt);clear de))
      go_ret;exact⟨by rw[dK.out];rfl,HBe.out⟩
 ·obtain rfl:=q5 rfl;go_upto_region 5 with fail
  cases AM with
  |false=>
   have dK:af (R=false):=ae (by rw[HR2.out];simp);go_wp2_with(first
    |(go_at_call 50;(with_reducible refine lr.out.mono ?_);rintro r wa⟨rfl,da⟩;have gg:=aU HB da;have eY:=ae (HP.out.below da HP.out.lt);obtain⟨-,-,x2,x3,-,x5,-,x7⟩:=cU eY;clear da))
   go_ret;exact⟨by rw[dK.out];rfl,gg.out⟩
  |true=>
   cases RA with
   |false=>
    have dK:af (R=false):=ae (by rw[HR2.out];simp);go_wp2_with(first
     |(go_at_call 50;(with_reducible refine lr.out.mono ?_);rintro r wa⟨rfl,da⟩;have gg:=aU HB da;have eY:=ae (HP.out.below da HP.out.lt);obtain⟨-,-,x2,x3,-,x5,-,x7⟩:=cU eY;clear da)
     |(go_at_call 108;(with_reducible refine(DI.out _ gg.out).mono ?_);rintro r wb⟨rfl,db⟩;have jE:=aU gg db;have ei:=ae (eY.out.below db eY.out.lt);obtain⟨-,-,y2,-,-,y5,-,y7⟩:=cU ei;clear db))
    go_ret;exact⟨by rw[dK.out];rfl,jE.out⟩
   |true=>
    cases PA with
    |false=>
     have dK:af (R=false):=ae (by rw[HR2.out];simp);go_wp2_with(first
      |(go_at_call 50;(with_reducible refine lr.out.mono ?_);rintro r wa⟨rfl,da⟩;have gg:=aU HB da;have eY:=ae (HP.out.below da HP.out.lt);obtain⟨-,-,x2,x3,-,x5,-,x7⟩:=cU eY;clear da)
      |(go_at_call 108;(with_reducible refine(DI.out _ gg.out).mono ?_);rintro r wb⟨rfl,db⟩;have jE:=aU gg db;have ei:=ae (eY.out.below db eY.out.lt);obtain⟨-,-,y2,-,-,y5,-,y7⟩:=cU ei;clear db)
      |(go_at_call 70;(with_reducible refine(zJ.out _ jE.out).mono ?_);rintro r wc⟨rfl,dc⟩;have HBc:=aU jE dc;have kR:=ae (ei.out.below dc ei.out.lt);obtain⟨-,-,-,-,-,z5,-,z7⟩:=cU kR;clear dc))
     go_ret;exact⟨by rw[dK.out];rfl,HBc.out⟩
    |true=>
     cases YA with
     |false=>
      have dK:af (R=false):=ae (by rw[HR2.out];simp);go_wp2_with(first
       |(go_at_call 50;(with_reducible refine lr.out.mono ?_);rintro r wa⟨rfl,da⟩;have gg:=aU HB da;have eY:=ae (HP.out.below da HP.out.lt);obtain⟨-,-,x2,x3,-,x5,-,x7⟩:=cU eY;clear da)
       |(go_at_call 108;(with_reducible refine(DI.out _ gg.out).mono ?_);rintro r wb⟨rfl,db⟩;have jE:=aU gg db;have ei:=ae (eY.out.below db eY.out.lt);obtain⟨-,-,y2,-,-,y5,-,y7⟩:=cU ei;clear db)
       |(go_at_call 70;(with_reducible refine(zJ.out _ jE.out).mono ?_);rintro r wc⟨rfl,dc⟩;have HBc:=aU jE dc;have kR:=ae (ei.out.below dc ei.out.lt);obtain⟨-,-,-,-,-,z5,-,z7⟩:=cU kR;clear dc)
       |(go_at_call 71;(with_reducible refine(HRs.out _ HBc.out).mono ?_);rintro r wd⟨rfl,dd⟩;have zX:=aU HBc dd;have kP:=ae (kR.out.below dd kR.out.lt);have t7:=kP.out.cell 7;simp at t7;clear dd))
      go_ret;exact⟨by rw[dK.out];rfl,zX.out⟩
     |true=>
      have dK:af (R=OA):=ae (by rw[HR2.out];simp);go_wp2_with(first
       |(go_at_call 50;(with_reducible refine lr.out.mono ?_);rintro r wa⟨rfl,da⟩;have gg:=aU HB da;have eY:=ae (HP.out.below da HP.out.lt);obtain⟨-,-,x2,x3,-,x5,-,x7⟩:=cU eY;clear da)
       |(go_at_call 108;(with_reducible refine(DI.out _ gg.out).mono ?_);rintro r wb⟨rfl,db⟩;have jE:=aU gg db;have ei:=ae (eY.out.below db eY.out.lt);obtain⟨-,-,y2,-,-,y5,-,y7⟩:=cU ei;clear db)
       |(go_at_call 70;(with_reducible refine(zJ.out _ jE.out).mono ?_);rintro r wc⟨rfl,dc⟩;have HBc:=aU jE dc;have kR:=ae (ei.out.below dc ei.out.lt);obtain⟨-,-,-,-,-,z5,-,z7⟩:=cU kR;clear dc)
       |(go_at_call 71;(with_reducible refine(HRs.out _ HBc.out).mono ?_);rintro r wd⟨rfl,dd⟩;have zX:=aU HBc dd;have kP:=ae (kR.out.below dd kR.out.lt);have t7:=kP.out.cell 7;simp at t7;clear dd)
       |(go_at_call 72;(with_reducible refine(Lu.out _ zX.out).mono ?_);rintro r we⟨rfl,de⟩;have HBe:=aU zX de;have HPe:=ae (kP.out.below de kP.out.lt);clear de))
      go_ret;exact⟨by rw[dK.out];rfl,HBe.out⟩
 ·have q6:=q6 rfl;go_upto_region 5 with fail
  cases AM with
  |false=>
   have dK:af (R=false):=ae (by rw[HR2.out];simp);go_wp2_with(first
    |(go_at_call 50;(with_reducible refine lr.out.mono ?_);rintro r wa⟨rfl,da⟩;have gg:=aU HB da;have eY:=ae (HP.out.below da HP.out.lt);obtain⟨-,-,x2,x3,-,x5,-,x7⟩:=cU eY;clear da))
   go_ret;exact⟨by rw[dK.out];rfl,gg.out⟩
  |true=>
   cases RA with
   |false=>
    have dK:af (R=false):=ae (by rw[HR2.out];simp);go_wp2_with(first
     |(go_at_call 50;(with_reducible refine lr.out.mono ?_);rintro r wa⟨rfl,da⟩;have gg:=aU HB da;have eY:=ae (HP.out.below da HP.out.lt);obtain⟨-,-,x2,x3,-,x5,-,x7⟩:=cU eY;clear da)
     |(go_at_call 108;(with_reducible refine(DI.out _ gg.out).mono ?_);rintro r wb⟨rfl,db⟩;have jE:=aU gg db;have ei:=ae (eY.out.below db eY.out.lt);obtain⟨-,-,y2,-,-,y5,-,y7⟩:=cU ei;clear db))
    go_ret;exact⟨by rw[dK.out];rfl,jE.out⟩
   |true=>
    cases PA with
    |false=>
     have dK:af (R=false):=ae (by rw[HR2.out];simp);go_wp2_with(first
      |(go_at_call 50;(with_reducible refine lr.out.mono ?_);rintro r wa⟨rfl,da⟩;have gg:=aU HB da;have eY:=ae (HP.out.below da HP.out.lt);obtain⟨-,-,x2,x3,-,x5,-,x7⟩:=cU eY;clear da)
      |(go_at_call 108;(with_reducible refine(DI.out _ gg.out).mono ?_);rintro r wb⟨rfl,db⟩;have jE:=aU gg db;have ei:=ae (eY.out.below db eY.out.lt);obtain⟨-,-,y2,-,-,y5,-,y7⟩:=cU ei;clear db)
      |(go_at_call 70;(with_reducible refine(zJ.out _ jE.out).mono ?_);rintro r wc⟨rfl,dc⟩;have HBc:=aU jE dc;have kR:=ae (ei.out.below dc ei.out.lt);obtain⟨-,-,-,-,-,z5,-,z7⟩:=cU kR;clear dc))
     go_ret;exact⟨by rw[dK.out];rfl,HBc.out⟩
    |true=>
     cases YA with
     |false=>
      have dK:af (R=false):=ae (by rw[HR2.out];simp);go_wp2_with(first
       |(go_at_call 50;(with_reducible refine lr.out.mono ?_);rintro r wa⟨rfl,da⟩;have gg:=aU HB da;have eY:=ae (HP.out.below da HP.out.lt);obtain⟨-,-,x2,x3,-,x5,-,x7⟩:=cU eY;clear da)
       |(go_at_call 108;(with_reducible refine(DI.out _ gg.out).mono ?_);rintro r wb⟨rfl,db⟩;have jE:=aU gg db;have ei:=ae (eY.out.below db eY.out.lt);obtain⟨-,-,y2,-,-,y5,-,y7⟩:=cU ei;clear db)
       |(go_at_call 70;(with_reducible refine(zJ.out _ jE.out).mono ?_);rintro r wc⟨rfl,dc⟩;have HBc:=aU jE dc;have kR:=ae (ei.out.below dc ei.out.lt);obtain⟨-,-,-,-,-,z5,-,z7⟩:=cU kR;clear dc)
       |(go_at_call 71;(with_reducible refine(HRs.out _ HBc.out).mono ?_);rintro r wd⟨rfl,dd⟩;have zX:=aU HBc dd;have kP:=ae (kR.out.below dd kR.out.lt);have t7:=kP.out.cell 7;simp at t7;clear dd))
      go_ret;exact⟨by rw[dK.out];rfl,zX.out⟩
     |true=>
      have dK:af (R=OA):=ae (by rw[HR2.out];simp);go_wp2_with(first
       |(go_at_call 50;(with_reducible refine lr.out.mono ?_);rintro r wa⟨rfl,da⟩;have gg:=aU HB da;have eY:=ae (HP.out.below da HP.out.lt);obtain⟨-,-,x2,x3,-,x5,-,x7⟩:=cU eY;clear da)
       |(go_at_call 108;(with_reducible refine(DI.out _ gg.out).mono ?_);rintro r wb⟨rfl,db⟩;have jE:=aU gg db;have ei:=ae (eY.out.below db eY.out.lt);obtain⟨-,-,y2,-,-,y5,-,y7⟩:=cU ei;clear db)
       |(go_at_call 70;(with_reducible refine(zJ.out _ jE.out).mono ?_);rintro r wc⟨rfl,dc⟩;have HBc:=aU jE dc;have kR:=ae (ei.out.below dc ei.out.lt);obtain⟨-,-,-,-,-,z5,-,z7⟩:=cU kR;clear dc)
       |(go_at_call 71;(with_reducible refine(HRs.out _ HBc.out).mono ?_);rintro r wd⟨rfl,dd⟩;have zX:=aU HBc dd;have kP:=ae (kR.out.below dd kR.out.lt);have t7:=kP.out.cell 7;simp at t7;clear dd)
       |(go_at_call 72;(with_reducible refine(Lu.out _ zX.out).mono ?_);rintro r we⟨rfl,de⟩;have HBe:=aU zX de;have HPe:=ae (kP.out.below de kP.out.lt);clear de))
      go_ret;exact⟨by rw[dK.out];rfl,HBe.out⟩
 ·go_upto_region 5 with fail
  cases AM with
  |false=>
   have dK:af (R=false):=ae (by rw[HR2.out];simp);go_wp2_with(first
    |(go_at_call 50;(with_reducible refine lr.out.mono ?_);rintro r wa⟨rfl,da⟩;have gg:=aU HB da;have eY:=ae (HP.out.below da HP.out.lt);obtain⟨-,-,x2,x3,-,x5,-,x7⟩:=cU eY;clear da))
   go_ret;exact⟨by rw[dK.out];rfl,gg.out⟩
  |true=>
   cases RA with
   |false=>
    have dK:af (R=false):=ae (by rw[HR2.out];simp);go_wp2_with(first
     |(go_at_call 50;(with_reducible refine lr.out.mono ?_);rintro r wa⟨rfl,da⟩;have gg:=aU HB da;have eY:=ae (HP.out.below da HP.out.lt);obtain⟨-,-,x2,x3,-,x5,-,x7⟩:=cU eY;clear da)
     |(go_at_call 108;(with_reducible refine(DI.out _ gg.out).mono ?_);rintro r wb⟨rfl,db⟩;have jE:=aU gg db;have ei:=ae (eY.out.below db eY.out.lt);obtain⟨-,-,y2,-,-,y5,-,y7⟩:=cU ei;clear db))
    go_ret;exact⟨by rw[dK.out];rfl,jE.out⟩
   |true=>
    cases PA with
    |false=>
     have dK:af (R=false):=ae (by rw[HR2.out];simp);go_wp2_with(first
      |(go_at_call 50;(with_reducible refine lr.out.mono ?_);rintro r wa⟨rfl,da⟩;have gg:=aU HB da;have eY:=ae (HP.out.below da HP.out.lt);obtain⟨-,-,x2,x3,-,x5,-,x7⟩:=cU eY;clear da)
      |(go_at_call 108;(with_reducible refine(DI.out _ gg.out).mono ?_);rintro r wb⟨rfl,db⟩;have jE:=aU gg db;have ei:=ae (eY.out.below db eY.out.lt);obtain⟨-,-,y2,-,-,y5,-,y7⟩:=cU ei;clear db)
      |(go_at_call 70;(with_reducible refine(zJ.out _ jE.out).mono ?_);rintro r wc⟨rfl,dc⟩;have HBc:=aU jE dc;have kR:=ae (ei.out.below dc ei.out.lt);obtain⟨-,-,-,-,-,z5,-,z7⟩:=cU kR;clear dc))
     go_ret;exact⟨by rw[dK.out];rfl,HBc.out⟩
    |true=>
     cases YA with
     |false=>
      have dK:af (R=false):=ae (by rw[HR2.out];simp);go_wp2_with(first
       |(go_at_call 50;(with_reducible refine lr.out.mono ?_);rintro r wa⟨rfl,da⟩;have gg:=aU HB da;have eY:=ae (HP.out.below da HP.out.lt);obtain⟨-,-,x2,x3,-,x5,-,x7⟩:=cU eY;clear da)
       |(go_at_call 108;(with_reducible refine(DI.out _ gg.out).mono ?_);rintro r wb⟨rfl,db⟩;have jE:=aU gg db;have ei:=ae (eY.out.below db eY.out.lt);obtain⟨-,-,y2,-,-,y5,-,y7⟩:=cU ei;clear db)
       |(go_at_call 70;(with_reducible refine(zJ.out _ jE.out).mono ?_);rintro r wc⟨rfl,dc⟩;have HBc:=aU jE dc;have kR:=ae (ei.out.below dc ei.out.lt);obtain⟨-,-,-,-,-,z5,-,z7⟩:=cU kR;clear dc)
       |(go_at_call 71;(with_reducible refine(HRs.out _ HBc.out).mono ?_);rintro r wd⟨rfl,dd⟩;have zX:=aU HBc dd;have kP:=ae (kR.out.below dd kR.out.lt);have t7:=kP.out.cell 7;simp at t7;clear dd))
      go_ret;exact⟨by rw[dK.out];rfl,zX.out⟩
     |true=>
      have dK:af (R=OA):=ae (by rw[HR2.out];simp);go_wp2_with(first
       |(go_at_call 50;(with_reducible refine lr.out.mono ?_);rintro r wa⟨rfl,da⟩;have gg:=aU HB da;have eY:=ae (HP.out.below da HP.out.lt);obtain⟨-,-,x2,x3,-,x5,-,x7⟩:=cU eY;clear da)
       |(go_at_call 108;(with_reducible refine(DI.out _ gg.out).mono ?_);rintro r wb⟨rfl,db⟩;have jE:=aU gg db;have ei:=ae (eY.out.below db eY.out.lt);obtain⟨-,-,y2,-,-,y5,-,y7⟩:=cU ei;clear db)
       |(go_at_call 70;(with_reducible refine(zJ.out _ jE.out).mono ?_);rintro r wc⟨rfl,dc⟩;have HBc:=aU jE dc;have kR:=ae (ei.out.below dc ei.out.lt);obtain⟨-,-,-,-,-,z5,-,z7⟩:=cU kR;clear dc)
       |(go_at_call 71;(with_reducible refine(HRs.out _ HBc.out).mono ?_);rintro r wd⟨rfl,dd⟩;have zX:=aU HBc dd;have kP:=ae (kR.out.below dd kR.out.lt);have t7:=kP.out.cell 7;simp at t7;clear dd)
       |(go_at_call 72;(with_reducible refine(Lu.out _ zX.out).mono ?_);rintro r we⟨rfl,de⟩;have HBe:=aU zX de;have HPe:=ae (kP.out.below de kP.out.lt);clear de))
      go_ret;exact⟨by rw[dK.out];rfl,HBe.out⟩
def vK(x s:Nat):Nat:=x*2^s%4294967296|||x/2^(32-s)
def bw(v:List Nat)(i:Nat):Nat:=v.getD i 0
def fY(x y:Nat):Nat:=x^^^y
structure Ws(n:Nat)(v:List Nat):Prop where
 len:v.length=n
 lt:∀x∈v,x<4294967296
theorem Ws.at_{n:Nat}{v:List Nat}(h:Ws n v)(i:Nat):bw v i<4294967296:=by
 unfold bw;rw[ay];cases hi:v[i]? with
 |none=>decide
 |some x=>exact h.lt x (List.mem_of_getElem? hi)
theorem Ws.aN{n:Nat}{v:List Nat}(h:Ws n v)(i:Nat){x:Nat}(hx:x<4294967296):Ws n (v.set i x):=⟨by rw[List.length_set];exact h.len,fun y hy=>by
 rcases List.mem_or_eq_of_mem_set hy with hy|rfl
 ·exact h.lt y hy
 ·exact hx⟩
theorem YO{x y:Nat}(hx:x<4294967296)(hy:y<4294967296):x|||y<4294967296:=Nat.or_lt_two_pow (n:=32) hx hy
theorem js{x y:Nat}(hx:x<4294967296)(hy:y<4294967296):fY x y<4294967296:=Nat.xor_lt_two_pow (n:=32) hx hy
theorem aaD{x s:Nat}(hx:x<4294967296):vK x s<4294967296:=YO (Nat.mod_lt _ aF) (Nat.lt_of_le_of_lt (Nat.div_le_self _ _) hx)
def Hz(v:List Nat)(a b x:Nat):List Nat:=v.set a ((bw v a+(bw v b+x)%4294967296)%4294967296)
def xw(v:List Nat)(d a s:Nat):List Nat:=v.set d (vK (fY (bw v d) (bw v a)) s)
def Ia(v:List Nat)(c d:Nat):List Nat:=v.set c ((bw v c+bw v d)%4294967296)
def stepW(v:List Nat)(a b c d x r s:Nat):List Nat:=xw (Ia (xw (Hz v a b x) d a r) c d) b c s
def Ib(v:List Nat)(a b c d x y:Nat):List Nat:=stepW (stepW v a b c d x 16 20) a b c d y 24 25
theorem zY{n:Nat}{v:List Nat}(h:Ws n v)(a b x:Nat):Ws n (Hz v a b x):=h.aN a (Nat.mod_lt _ aF)
theorem zZ{n:Nat}{v:List Nat}(h:Ws n v)(a b:Nat):Ws n (Ia v a b):=h.aN a (Nat.mod_lt _ aF)
theorem oq{n:Nat}{v:List Nat}(h:Ws n v)(a b s:Nat):Ws n (xw v a b s):=h.aN a (aaD (js (h.at_ a) (h.at_ b)))
theorem vL{n:Nat}{v:List Nat}(h:Ws n v)(a b c d x r s:Nat):Ws n (stepW v a b c d x r s):=oq (zZ (oq (zY h a b x) d a r) c d) b c s
theorem Jw{n:Nat}{v:List Nat}(h:Ws n v)(a b c d x y:Nat):Ws n (Ib v a b c d x y):=vL (vL h a b c d x 16 20) a b c d y 24 25
def nJ:List (List Nat):=[[0,1,2,3,4,5,6,7,8,9,10,11,12,13,14,15],[14,10,4,8,9,15,13,6,1,12,0,2,11,7,5,3],[11,8,12,0,5,2,15,13,10,14,3,6,7,1,9,4],[7,9,3,1,13,12,11,14,2,6,5,10,4,0,15,8],[9,0,5,7,2,4,10,15,14,1,11,12,6,8,3,13],[2,12,6,10,0,11,8,3,4,13,7,5,15,14,1,9],[12,5,1,15,14,13,4,10,0,7,6,3,9,2,8,11],[13,11,7,14,12,1,3,9,5,0,15,4,8,6,2,10],[6,15,14,9,11,3,0,8,12,2,13,7,1,4,10,5],[10,2,8,4,7,6,1,5,15,11,9,14,3,12,13,0]]
def Jx(m o v:List Nat)(i:Nat):List Nat:=Ib v i (4+i) (8+i) (12+i) (bw m (bw o (2*i))) (bw m (bw o (2*i+1)))
def ot(m o v:List Nat)(i:Nat):List Nat:=Ib v i (4+(i+1)%4) (8+(i+2)%4) (12+(i+3)%4) (bw m (bw o (8+2*i))) (bw m (bw o (9+2*i)))
def YQ(m o v:List Nat)(k:Nat):List Nat:=(aA k).foldl (Jx m o) v
def ku(m o v:List Nat)(k:Nat):List Nat:=(aA k).foldl (ot m o) v
def pI(m v:List Nat)(r:Nat):List Nat:=ku m (nJ.getD r []) (YQ m (nJ.getD r []) v 4) 4
def jF(m v:List Nat)(k:Nat):List Nat:=(aA k).foldl (pI m) v
theorem ou{n:Nat}{f:List Nat→Nat→List Nat}(hf:∀v i,Ws n v→Ws n (f v i)):∀(l:List Nat)(v:List Nat),Ws n v→Ws n (l.foldl f v)
 |[],_,h=>h
 |i::l,v,h=>ou hf l (f v i) (hf v i h)
theorem Ic{n:Nat}{m o v:List Nat}(h:Ws n v)(k:Nat):Ws n (YQ m o v k):=ou (fun _ _ h=>Jw h _ _ _ _ _ _) _ v h
theorem vM{n:Nat}{m o v:List Nat}(h:Ws n v)(k:Nat):Ws n (ku m o v k):=ou (fun _ _ h=>Jw h _ _ _ _ _ _) _ v h
theorem Nx{n:Nat}{m v:List Nat}(h:Ws n v)(r:Nat):Ws n (pI m v r):=by unfold pI;exact vM (Ic h 4) 4
theorem pJ{n:Nat}{m v:List Nat}(h:Ws n v)(k:Nat):Ws n (jF m v k):=by unfold jF;exact ou (f:=pI m) (fun _ r h=>Nx h r) _ v h
theorem iQ(f:List Nat→Nat→List Nat)(v:List Nat)(k:Nat):(aA (k+1)).foldl f v=f ((aA k).foldl f v) k:=by rw[List.range_succ,List.foldl_append];rfl
theorem SS(m o v:List Nat)(k:Nat):YQ m o v (k+1)=Jx m o (YQ m o v k) k:=iQ (Jx m o) _ k
theorem Ae(m o v:List Nat)(k:Nat):ku m o v (k+1)=ot m o (ku m o v k) k:=iQ (ot m o) _ k
theorem Ai(m v:List Nat)(k:Nat):jF m v (k+1)=pI m (jF m v k) k:=iQ (pI m) _ k
def SU(p:List Nat)(m:List Nat)(i:Nat):List Nat:=m.set (i/4) (bw m (i/4)|||bw p i*2^(i%4*8)%4294967296)
def jX(p:List Nat)(k:Nat):List Nat:=(aA k).foldl (SU p) (aH 16 0)
theorem aaE(n:Nat):Ws n (aH n 0):=⟨List.length_replicate,fun x hx=>by rw[(List.mem_replicate.1 hx).2];decide⟩
theorem yo(p:List Nat)(k:Nat):Ws 16 (jX p k):=ou (fun _ _ h=>h.aN _ (YO (h.at_ _) (Nat.mod_lt _ aF))) _ _ (aaE 16)
theorem DJ(p:List Nat)(k:Nat):jX p (k+1)=SU p (jX p k) k:=iQ (SU p) _ k
def fK:List Nat:=[1779033703,3144134277,1013904242,2773480762,1359893119,2600822924,528734635,1541459225]
theorem jJ:Ws 8 fK:=⟨rfl,by decide⟩
def mo(h:List Nat)(n:Nat)(last:Bool):List Nat:=let v:=h++fK
 let v:=v.set 12 (fY (bw v 12) (n%4294967296))
 let v:=v.set 13 (fY (bw v 13) (n/4294967296%4294967296))
 if last then v.set 14 (4294967295-bw v 14)else v
theorem SV{n m:Nat}{u v:List Nat}(h:Ws n u)(k:Ws m v):Ws (n+m) (u++v):=⟨by rw[ai,h.len,k.len],fun x hx=>(List.mem_append.1 hx).elim (h.lt x) (k.lt x)⟩
theorem yp{h:List Nat}(hh:Ws 8 h)(n:Nat)(last:Bool):Ws 16 (mo h n last):=by
 unfold mo;have h1:=SV hh jJ;have h2:=h1.aN 12 (js (h1.at_ 12) (Nat.mod_lt n (show 0<4294967296 by decide)));have h3:=h2.aN 13 (js (h2.at_ 13) (Nat.mod_lt (n/4294967296) (show 0<4294967296 by decide)));cases last with
 |false=>exact h3
 |true=>exact h3.aN 14 (by omega)
def Jy(v h:List Nat)(i:Nat):List Nat:=h.set i (fY (bw h i) (fY (bw v i) (bw v (8+i))))
def mq(v h:List Nat)(k:Nat):List Nat:=(aA k).foldl (Jy v) h
theorem DK(v h:List Nat)(k:Nat):mq v h (k+1)=Jy v (mq v h k) k:=iQ (Jy v) _ k
theorem yq{n m:Nat}{v h:List Nat}(hv:Ws m v)(hh:Ws n h)(k:Nat):Ws n (mq v h k):=ou (fun _ _ h=>h.aN _ (js (h.at_ _) (js (hv.at_ _) (hv.at_ _)))) _ _ hh
def nK(h:List Nat)(n:Nat)(p:List Nat)(last:Bool):List Nat:=mq (jF (jX p 64) (mo h n last) 10) h 8
theorem rN{h:List Nat}(hh:Ws 8 h)(n:Nat)(p:List Nat)(last:Bool):Ws 8 (nK h n p last):=yq (pJ (yp hh n last) 10) hh 8
structure Bl where
 h:List Nat
 rest:List Nat
 n:Nat
structure Bl.Ok(b:Bl):Prop where
 h:Ws 8 b.h
 rest:b.rest.length≤64
 byte:∀x∈b.rest,x<256
def Bl.add(b:Bl)(c:Nat):Bl:=if b.rest.length=64 then⟨nK b.h (b.n+64) b.rest false,[c],b.n+64⟩else⟨b.h,b.rest++[c],b.n⟩
theorem Bl.aaF{b:Bl}(ok:b.Ok){c:Nat}(hc:c<256):(b.add c).Ok:=by
 unfold Bl.add;split
 ·exact⟨rN ok.h _ _ _,(show 1≤64 by decide),fun x hx=>by rw[List.mem_singleton.1 hx];exact hc⟩
 ·refine⟨ok.h,?_,fun x hx=>?_⟩
  ·have:=ok.rest;simp only[ai,cI];omega
  ·rcases List.mem_append.1 hx with hx|hx
   ·exact ok.byte x hx
   ·rw[List.mem_singleton.1 hx];exact hc
def Bl.adds(b:Bl)(l:List Nat):Bl:=l.foldl Bl.add b
def Bl.new:Bl:=⟨fK.set 0 1795745351,[],0⟩
theorem Bl.SX:Bl.new.Ok:=⟨jJ.aN 0 aF,by decide,fun x hx=>by cases hx⟩
theorem Bl.Jz{l:List Nat}(hl:∀x∈l,x<256):∀{b:Bl},b.Ok→(b.adds l).Ok:=by
 induction l with
 |nil=>intro b h;exact h
 |cons c l ih=>intro b h;exact ih (fun x hx=>hl x (List.mem_cons_of_mem _ hx)) (b.aaF h (hl c (List.mem_cons_self ..)))
theorem Bl.acF(b:Bl)(c:Nat):(b.add c).n≤b.n+64∧(b.add c).n+(b.add c).rest.length=b.n+b.rest.length+1:=by
 unfold Bl.add;split
 ·next h=>simp only[cI];omega
 ·simp only[ai,cI];omega
theorem Bl.SY(l:List Nat):∀b:Bl,(b.adds l).n+(b.adds l).rest.length=b.n+b.rest.length+l.length:=by
 induction l with
 |nil=>intro b;rfl
 |cons c l ih=>
  intro b;show((b.add c).adds l).n+((b.add c).adds l).rest.length=_;rw[ih,(b.acF c).2,List.length_cons];omega
def Bl.last(b:Bl):List Nat:=nK b.h (b.n+b.rest.length) (b.rest++aH (64-b.rest.length) 0) true
def jA(h:List Nat)(i:Nat):Nat:=bw h (i/4)/2^(i%4*8)%256
def Bl.sum(b:Bl):List Nat:=(aA 32).map (jA b.last)
def rO(s:ByteArray):ByteArray:=⟨((Bl.new.adds (s.data.toList.map UInt8.toNat)).sum.map UInt8.ofNat).toArray⟩
theorem DL(s:ByteArray):(rO s).size=32:=by
 show(((Bl.new.adds _).sum.map UInt8.ofNat).toArray).size=32;rw[List.size_toArray,ax];unfold Bl.sum;rw[ax,List.length_range]
theorem tX(x s:Nat)(hx:x<4294967296)(hs:s<32)(k:Int)(hk:bits .and .u64 (IntKind.u64.wrap k) 31=(s:Int))(w:World):Calls ag 231 #[.int .u32 x,.int .i64 k] w fun r w'=>r=.returned (.int .u32 (vK x s:Int))∧w=w':=by
 have h3:IntKind.u64.wrap (32-(s:Int))=((32-s:Nat):Int):=by rw[IntKind.wrap_u64];omega
 have h4:bits .or .u32 ((x:Int)*2^s%4294967296) ((x:Int)/2^(32-s))=(vK x s:Int):=by
  have:=u32_or_nat (x*2^s%4294967296) (x/2^(32-s)) (Nat.mod_lt _ aF) (Nat.lt_of_le_of_lt (Nat.div_le_self _ _) hx);unfold vK;simpa using this
 have ht:32-s≤32:=Nat.sub_le _ _;generalize 32-s=t at*;generalize vK x s=R at*;go_enter Tryz.func231,Tryz.ntmps231;go_wp2_with fail
 go_ret;exact⟨rfl,rfl⟩
def bP(v:List Nat):Array Value:=(v.map fun x:Nat=>Value.int .u32 x).toArray
theorem yr{n:Nat}{v:List Nat}(h:Ws n v){i:Nat}(hi:i<n):(bP v)[i]? =some (.int .u32 (bw v i:Int)):=by
 unfold bP bw;rw[List.getElem?_toArray,List.getElem?_map,ay,List.getElem?_eq_getElem (by rw[h.len];exact hi)];rfl
theorem vN(v:List Nat)(i x:Nat):(bP v).setIfInBounds i (.int .u32 x)=bP (v.set i x):=by
 unfold bP;rw[List.setIfInBounds_toArray,List.map_set]
theorem sV(n:Nat):IntKind.u32.wrap (n:Int)=((n%4294967296:Nat):Int):=by rw[IntKind.wrap_u32];rfl
theorem dJ{w:World}{g n:Nat}{t:TypeId}{v:List Nat}(hv:Ws n v)(hg:aD w g t (bP v)){i:Nat}(hi:i<n):w.cell? ⟨g,i,none⟩=some (.int .u32 (bw v i:Int)):=by
 rw[hg.cell i];exact yr hv hi
theorem DN{w w0:World}{g n:Nat}{t:TypeId}{v:List Nat}(hg:aD w g t (bP v))(hk:Keeps (fun k=>k=g) w0 w)(i x:Nat):aD (w.setCell ⟨g,i,none⟩ (.int .u32 x)).drew g t (bP (v.set i x))∧Keeps (fun k=>k=g) w0 (w.setCell ⟨g,i,none⟩ (.int .u32 x)).drew:=by
 refine⟨?_,(hk.setCell (p:=⟨g,i,none⟩) (Or.inl rfl) _).drew⟩;rw[←vN];exact(hg.aN i _).drew
def jY(w0:World)(g:Nat)(v:List Nat)(w:World):Prop:=aD w g 297 (bP v)∧Keeps (fun k=>k=g) w0 w
theorem DO{w w0:World}{g:Nat}{v:List Nat}(h:jY w0 g v w){a b x A B R0 R1:Nat}(hA:bw v a=A)(hB:bw v b=B)(h0:(B+x)%4294967296=R0)(h1:(A+R0)%4294967296=R1):jY w0 g (Hz v a b x) (w.setCell ⟨g,a,none⟩ (.int .u32 R1)).drew:=by
 have:=DN (n:=16) h.1 h.2 a R1;rw[show v.set a R1=Hz v a b x by unfold Hz;rw[hA,hB,h0,h1]]at this;exact this
theorem DR{w w0:World}{g:Nat}{v:List Nat}(h:jY w0 g v w){a b A B R1:Nat}(hA:bw v a=A)(hB:bw v b=B)(h1:(A+B)%4294967296=R1):jY w0 g (Ia v a b) (w.setCell ⟨g,a,none⟩ (.int .u32 R1)).drew:=by
 have:=DN (n:=16) h.1 h.2 a R1;rw[show v.set a R1=Ia v a b by unfold Ia;rw[hA,hB,h1]]at this;exact this
theorem qH{w w0:World}{g:Nat}{v:List Nat}(h:jY w0 g v w){a b s A B R1:Nat}(hA:bw v a=A)(hB:bw v b=B)(h1:vK (fY A B) s=R1):jY w0 g (xw v a b s) (w.setCell ⟨g,a,none⟩ (.int .u32 R1)).drew:=by
 have:=DN (n:=16) h.1 h.2 a R1;rw[show v.set a R1=xw v a b s by unfold xw;rw[hA,hB,h1]]at this;exact this
theorem DT{x y:Nat}(hx:x<4294967296)(hy:y<4294967296):bits .xor .u32 (x:Int) (y:Int)=(fY x y:Int):=u32_xor_nat x y hx hy
theorem JA{w:World}{g gw:Nat}{v:List Nat}(hv:Ws 16 v)(hg:aD w g 297 (bP v)){x y:Nat}(hw:aD w gw 187 #[.int .u32 x,.int .u32 y]){a b c d:Nat}(ha:a<16)(hb:b<16)(hc:c<16)(hd:d<16):Calls ag 230 #[.int .i64 a,.int .i64 b,.int .i64 c,.int .i64 d,.slice (some ⟨gw,0,none⟩) 2 2,.pointer (some ⟨g,0,none⟩)] w fun r w'=>r=.returned (.tuple #[])∧jY w g (Ib v a b c d x y) w':=by
 have hne:gw≠g:=aD.wH hw hg aF;have HG:af (jY w g v w):=ae ⟨hg,Keeps.refl _ _⟩;have HW:=ae hw;have a1:(0:Int)≤(a:Int):=by omega
 have a2:(a:Int)<16:=by omega
 have a3:(b:Int)<16:=by omega
 have a4:(c:Int)<16:=by omega
 have a5:(d:Int)<16:=by omega
 clear hg hw;go_enter Tryz.func230,Tryz.ntmps230;go_wp2_with fail
 go_loopw [15] (fun v15 wr=>(v15=.int .i64 0∧af (jY w g v wr))∨(v15=.int .i64 1∧af (jY w g (stepW v a b c d x 16 20) wr))∨(v15=.int .i64 2∧af (jY w g (Ib v a b c d x y) wr))) (fun v15 _=>2-(intOf v15).toNat)
 case atStart=>exact Or.inl ⟨rfl,HG⟩
 case round=>
  rcases hrel with⟨rfl,h⟩|⟨rfl,h⟩|⟨rfl,h⟩
  ·have hvv:=hv;obtain⟨wo,rfl⟩:∃wo:World,wo=wr:=⟨_,rfl⟩;have c0:=(HW.out.keep h.out.2 hne).cell 0;simp at c0;have d1:=dJ hvv h.out.1 ha;have d2:=dJ hvv h.out.1 hb;have f1:=h.out.1.frozen a;have l1:=hvv.at_ a;have l2:=hvv.at_ b;generalize hA:bw v a=A at d1 l1;generalize hB:bw v b=B at d2 l2;obtain⟨HA,HB⟩:=aI hA hB;clear hA hB;have e1:IntKind.u32.wrap ((B:Int)+(x:Int))=(((B+x)%4294967296:Nat):Int):=sV (B+x);have e2:IntKind.u32.wrap ((A:Int)+(((B+x)%4294967296:Nat):Int))=(((A+(B+x)%4294967296)%4294967296:Nat):Int):=sV (A+(B+x)%4294967296);generalize hR1:(A+(B+x)%4294967296)%4294967296=R1 at e2;generalize hR0:(B+x)%4294967296=R0 at e1 e2 hR1;have h1:=ae (DO h.out HA.out HB.out hR0 hR1);have hv1:=zY hvv a b x;generalize hX:Hz v a b x=u1 at h1 hv1;have HX1:=ae hX;clear hR0 hR1 hX l1 l2 HA HB;go_upto_region 3 with fail
   go_region;generalize(wo.setCell ⟨g,a,none⟩ (.int .u32 R1)).drew=w1 at h1⊢;clear d1 d2 f1 e1 e2 c0;have d1:=dJ hv1 h1.out.1 hd;have d2:=dJ hv1 h1.out.1 ha;have f1:=h1.out.1.frozen d;have l1:=hv1.at_ d;have l2:=hv1.at_ a;generalize hA:bw u1 d=A at d1 l1;generalize hB:bw u1 a=B at d2 l2;obtain⟨HA,HB⟩:=aI hA hB;clear hA hB;have e1:=DT l1 l2;have mr:=fun u=>tX (fY A B) 16 (js l1 l2) aF (-16) aF u
   generalize hR1:vK (fY A B) 16=R1 at mr;have h2:=ae (qH h1.out HA.out HB.out hR1);have hv2:=oq hv1 d a 16;generalize hX:xw u1 d a 16=u2 at h2 hv2;generalize fY A B=X0 at e1 mr;obtain⟨vO,Zn⟩:=aI mr hX;clear mr hR1 hX l1 l2 HA HB hv1 h1;go_upto_region 4 with fail
   refine wp_region_still_tail 13 bg bg ?_;simp only[aeB,IM,aeD,aeC]
   repeat still_step
   still_call ((vO.out _).mono fun _ _ h=>⟨h.1,h.2.symm⟩)
   repeat still_step
   refine wpStill_nil ?_;change wpList _ _ _ _ _ w1.drew;go_wp2_with fail
   generalize(w1.setCell ⟨g,d,none⟩ (.int .u32 R1)).drew=w2 at h2⊢;clear d1 d2 f1 e1 vO;have d1:=dJ hv2 h2.out.1 hc;have d2:=dJ hv2 h2.out.1 hd;have f1:=h2.out.1.frozen c;have l1:=hv2.at_ c;have l2:=hv2.at_ d;generalize hA:bw u2 c=A at d1 l1;generalize hB:bw u2 d=B at d2 l2;obtain⟨HA,HB⟩:=aI hA hB;clear hA hB;have e1:IntKind.u32.wrap ((A:Int)+(B:Int))=(((A+B)%4294967296:Nat):Int):=sV (A+B);generalize hR1:(A+B)%4294967296=R1 at e1;have h3:=ae (DR h2.out HA.out HB.out hR1);have hv3:=zZ hv2 c d;generalize hX:Ia u2 c d=u3 at h3 hv3;have HX3:=ae hX;clear hR1 hX l1 l2 HA HB;go_upto_region 5 with fail
   go_region;generalize(w2.setCell ⟨g,c,none⟩ (.int .u32 R1)).drew=w3 at h3⊢;clear d1 d2 f1 e1 h2 hv2;have d1:=dJ hv3 h3.out.1 hb;have d2:=dJ hv3 h3.out.1 hc;have f1:=h3.out.1.frozen b;have l1:=hv3.at_ b;have l2:=hv3.at_ c;generalize hA:bw u3 b=A at d1 l1;generalize hB:bw u3 c=B at d2 l2;obtain⟨HA,HB⟩:=aI hA hB;clear hA hB;have e1:=DT l1 l2;have mr:=fun u=>tX (fY A B) 20 (js l1 l2) aF (-12) aF u
   generalize hR1:vK (fY A B) 20=R1 at mr;have h4:=ae (qH h3.out HA.out HB.out hR1);have hv4:=oq hv3 b c 20;generalize hX:xw u3 b c 20=u4 at h4 hv4;generalize fY A B=X0 at e1 mr;obtain⟨vO,GI⟩:=aI mr hX;clear mr hR1 hX l1 l2 HA HB hv3 h3;go_upto_region 6 with fail
   refine wp_region_still_tail 13 bg bg ?_;simp only[aeB,IM,aeD,aeC]
   repeat still_step
   still_call ((vO.out _).mono fun _ _ h=>⟨h.1,h.2.symm⟩)
   repeat still_step
   refine wpStill_nil ?_;change wpList _ _ _ _ _ w3.drew;go_wp2_with fail
   generalize(w3.setCell ⟨g,b,none⟩ (.int .u32 R1)).drew=w4 at h4⊢;clear d1 d2 f1 e1 vO;have hfin:af (jY w g (stepW v a b c d x 16 20) w4):=ae (by
    have e:stepW v a b c d x 16 20=u4:=by unfold stepW;rw[HX1.out,Zn.out,HX3.out,GI.out]
    rw[e];exact h4.out)
   clear HX1 Zn HX3 GI h4 hv4 h;go_wp2_with fail
   go_roundw
   case rel=>exact Or.inr (Or.inl ⟨rfl,hfin⟩)
   case measure=>simp[intOf]
  ·have hvv:=vL hv a b c d x 16 20;generalize hV:stepW v a b c d x 16 20=v1 at h hvv;have HV:=ae hV;clear hV;obtain⟨wo,rfl⟩:∃wo:World,wo=wr:=⟨_,rfl⟩;have c0:=(HW.out.keep h.out.2 hne).cell 1;simp at c0;have d1:=dJ hvv h.out.1 ha;have d2:=dJ hvv h.out.1 hb;have f1:=h.out.1.frozen a;have l1:=hvv.at_ a;have l2:=hvv.at_ b;generalize hA:bw v1 a=A at d1 l1;generalize hB:bw v1 b=B at d2 l2;obtain⟨HA,HB⟩:=aI hA hB;clear hA hB;have e1:IntKind.u32.wrap ((B:Int)+(y:Int))=(((B+y)%4294967296:Nat):Int):=sV (B+y);have e2:IntKind.u32.wrap ((A:Int)+(((B+y)%4294967296:Nat):Int))=(((A+(B+y)%4294967296)%4294967296:Nat):Int):=sV (A+(B+y)%4294967296);generalize hR1:(A+(B+y)%4294967296)%4294967296=R1 at e2;generalize hR0:(B+y)%4294967296=R0 at e1 e2 hR1;have h1:=ae (DO h.out HA.out HB.out hR0 hR1);have hv1:=zY hvv a b y;generalize hX:Hz v1 a b y=u1 at h1 hv1;have HX1:=ae hX;clear hR0 hR1 hX l1 l2 HA HB;go_upto_region 3 with fail
   go_region;generalize(wo.setCell ⟨g,a,none⟩ (.int .u32 R1)).drew=w1 at h1⊢;clear d1 d2 f1 e1 e2 c0;have d1:=dJ hv1 h1.out.1 hd;have d2:=dJ hv1 h1.out.1 ha;have f1:=h1.out.1.frozen d;have l1:=hv1.at_ d;have l2:=hv1.at_ a;generalize hA:bw u1 d=A at d1 l1;generalize hB:bw u1 a=B at d2 l2;obtain⟨HA,HB⟩:=aI hA hB;clear hA hB;have e1:=DT l1 l2;have mr:=fun u=>tX (fY A B) 24 (js l1 l2) aF (-8) aF u
   generalize hR1:vK (fY A B) 24=R1 at mr;have h2:=ae (qH h1.out HA.out HB.out hR1);have hv2:=oq hv1 d a 24;generalize hX:xw u1 d a 24=u2 at h2 hv2;generalize fY A B=X0 at e1 mr;obtain⟨vO,Zn⟩:=aI mr hX;clear mr hR1 hX l1 l2 HA HB hv1 h1;go_upto_region 4 with fail
   refine wp_region_still_tail 13 bg bg ?_;simp only[aeB,IM,aeD,aeC]
   repeat still_step
   still_call ((vO.out _).mono fun _ _ h=>⟨h.1,h.2.symm⟩)
   repeat still_step
   refine wpStill_nil ?_;change wpList _ _ _ _ _ w1.drew;go_wp2_with fail
   generalize(w1.setCell ⟨g,d,none⟩ (.int .u32 R1)).drew=w2 at h2⊢;clear d1 d2 f1 e1 vO;have d1:=dJ hv2 h2.out.1 hc;have d2:=dJ hv2 h2.out.1 hd;have f1:=h2.out.1.frozen c;have l1:=hv2.at_ c;have l2:=hv2.at_ d;generalize hA:bw u2 c=A at d1 l1;generalize hB:bw u2 d=B at d2 l2;obtain⟨HA,HB⟩:=aI hA hB;clear hA hB;have e1:IntKind.u32.wrap ((A:Int)+(B:Int))=(((A+B)%4294967296:Nat):Int):=sV (A+B);generalize hR1:(A+B)%4294967296=R1 at e1;have h3:=ae (DR h2.out HA.out HB.out hR1);have hv3:=zZ hv2 c d;generalize hX:Ia u2 c d=u3 at h3 hv3;have HX3:=ae hX;clear hR1 hX l1 l2 HA HB;go_upto_region 5 with fail
   go_region;generalize(w2.setCell ⟨g,c,none⟩ (.int .u32 R1)).drew=w3 at h3⊢;clear d1 d2 f1 e1 h2 hv2;have d1:=dJ hv3 h3.out.1 hb;have d2:=dJ hv3 h3.out.1 hc;have f1:=h3.out.1.frozen b;have l1:=hv3.at_ b;have l2:=hv3.at_ c;generalize hA:bw u3 b=A at d1 l1;generalize hB:bw u3 c=B at d2 l2;obtain⟨HA,HB⟩:=aI hA hB;clear hA hB;have e1:=DT l1 l2;have mr:=fun u=>tX (fY A B) 25 (js l1 l2) aF (-7) aF u
   generalize hR1:vK (fY A B) 25=R1 at mr;have h4:=ae (qH h3.out HA.out HB.out hR1);have hv4:=oq hv3 b c 25;generalize hX:xw u3 b c 25=u4 at h4 hv4;generalize fY A B=X0 at e1 mr;obtain⟨vO,GI⟩:=aI mr hX;clear mr hR1 hX l1 l2 HA HB hv3 h3;go_upto_region 6 with fail
   refine wp_region_still_tail 13 bg bg ?_;simp only[aeB,IM,aeD,aeC]
   repeat still_step
   still_call ((vO.out _).mono fun _ _ h=>⟨h.1,h.2.symm⟩)
   repeat still_step
   refine wpStill_nil ?_;change wpList _ _ _ _ _ w3.drew;go_wp2_with fail
   generalize(w3.setCell ⟨g,b,none⟩ (.int .u32 R1)).drew=w4 at h4⊢;clear d1 d2 f1 e1 vO;have hfin:af (jY w g (stepW v1 a b c d y 24 25) w4):=ae (by
    have e:stepW v1 a b c d y 24 25=u4:=by unfold stepW;rw[HX1.out,Zn.out,HX3.out,GI.out]
    rw[e];exact h4.out)
   clear HX1 Zn HX3 GI h4 hv4 h;go_wp2_with fail
   go_roundw
   case rel=>exact Or.inr (Or.inr ⟨rfl,ae (by have:=hfin.out;rw[←HV.out]at this;exact this)⟩)
   case measure=>simp[intOf]
  ·go_wp2_with fail
   go_end0
   exact⟨rfl,h.out⟩
end Go.Proofs.YteflnojjjdkgmaaGreatDoor
