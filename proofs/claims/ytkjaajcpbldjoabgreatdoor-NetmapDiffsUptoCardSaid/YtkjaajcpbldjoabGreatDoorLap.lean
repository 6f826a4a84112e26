/- Joined out of: NdA. -/
import Derived.Test.YtkjaajcpbldjoabGreatDoorLao
set_option linter.unusedVariables false
set_option linter.unusedSimpArgs false
set_option maxHeartbeats 16000000
set_option maxRecDepth 100000
open Bool renaming not_false→ahV,not_true→ah9
open Go.AllReadyH renaming cons→ahO
open Go.Lib renaming hid→ae
open Go.Proofs.Tryz renaming prog→ah
open Go.RowKit renaming Hid→ag
open Go.RowKit.Below renaming refl→aI
open List renaming getElem?_eq_getElem→af
open Nat renaming le_refl→ax
namespace Go.Proofs.YtkjaajcpbldjoabGreatDoor
open Go.RowKit
attribute [local go_sem↓] Go.wp_at_zero Go.wp_at_succ
theorem iu{w w':World}{v:Value}{l:List Ry}(h:eG w v l)(hb:aW w w'):eG w' v l:=a8.below h hb
theorem SI{w:World}(env:Env w)(ord:fZ w){pa ra pb rb:Value}{a b:Mp}(ha:df w pa a.aK)(hra:eG w ra a.aA)(fa:jG a)(sa:zT a)(hb:df w pb b.aK)(hrb:eG w rb b.aA)(fb:jG b)(sb:zT b):Calls ah 3 #[.agg #[.int .u64 (a.version:Int),pa,ra,.string a.policy],.agg #[.int .u64 (b.version:Int),pb,rb,.string b.policy]] w (Got (.bool true) w):=by
 have hwk:=fun u(hu:aW w u)=>Md (env.below hu) (ord.below hu ord.lt)
 have hva:=fun u(hu:aW w u)=>yR (ha.below hu) (iu hra hu) sa.sz sa.pl sa.rl
 have hvb:=fun u(hu:aW w u)=>yR (hb.below hu) (iu hrb hu) sb.sz sb.pl sb.rl
 have hca:∀u,aW w u→Calls ah 7 #[.agg #[.int .u64 (a.version:Int),pa,ra,.string a.policy]] u (XZ a u):=fun u hu=>(BG (ha.below hu) (iu hra hu) sa.sz sa.pl sa.rl).mono fun r w'⟨⟨A1,c1,A2,c2,e,h1,h2⟩,b⟩=>⟨⟨A1,c1,A2,c2,e,h1.rd,a8.di h2⟩,b⟩
 have hcb:∀u,aW w u→Calls ah 7 #[.agg #[.int .u64 (b.version:Int),pb,rb,.string b.policy]] u (XZ b u):=fun u hu=>(BG (hb.below hu) (iu hrb hu) sb.sz sb.pl sb.rl).mono fun r w'⟨⟨A1,c1,A2,c2,e,h1,h2⟩,b⟩=>⟨⟨A1,c1,A2,c2,e,h1.rd,a8.di h2⟩,b⟩
 have hdf:=fun u p1 r1 p2 r2(hu:aW w u)(h1:df u p1 a.aK)(h2:eG u r1 a.aA)(h3:df u p2 b.aK)(h4:eG u r2 b.aA)=>(BD (env.below hu) (ord.below hu ord.lt) h1 h2 h3 h4 fa fb sa sb).mono fun _ _=>X8
 have hma:=fun u(hu:aW w u)=>ky (env.below hu) (ha.below hu) (iu hra hu) fa sa.sz (by have:=sa.pl;omega) (by have:=sa.rl;omega) sa.ol sa.ml
 have hmb:=fun u(hu:aW w u)=>ky (env.below hu) (hb.below hu) (iu hrb hu) fb sb.sz (by have:=sb.pl;omega) (by have:=sb.rl;omega) sb.ol sb.ml
 have hbad:(fj cz a b).2≠0→(cR a).2≠0∨(cR b).2≠0∨b.version≤a.version:=SH;have htz:(∀p∈(fj cz a b).1.aM,∀s∈p.tags,s.size≠0)∧(∀s∈(fj cz a b).1.gone,s.size≠0):=by
  by_cases h:(fj cz a b).2=0
  ·exact⟨(y9 fa fb sa sb h).tags,(y9 fa fb sa sb h).keys⟩
  ·have e:(fj cz a b).1=Dl.zero:=by
    unfold fj at h⊢;split
    ·rfl
    ·split
     ·rfl
     ·split
      ·rfl
      ·rename_i h1 h2 h3;rw[if_neg h1,if_neg h2,if_neg h3]at h;exact absurd rfl h
   rw[e];exact⟨fun p hp=>absurd hp (List.not_mem_nil),fun s hs=>absurd hs (List.not_mem_nil)⟩
 have hok:(fj cz a b).2=0→OM a b (fj cz a b).1:=y9 fa fb sa sb;generalize fj cz a b=DD at hdf hbad htz hok;obtain⟨d,de⟩:=DD;simp only at hdf hbad htz hok;have hed:de=0→∀u sv gv rv,aW w u→mK u d sv gv rv→Calls ah 9 #[.agg (eT d sv gv rv)] u (Got (.tuple #[.string (jW d).1,.int .i64 ((jW d).2:Int)]) u):=fun h u sv gv rv hu h1=>aa4 (m:=a) (BI (env.below hu) h1 (hok h).fit (hok h).sz adz)
 have he4:de=0→(jW d).2=0∨(jW d).2=4:=fun h=>X9 (hok h).may
 have hdd:de=0→(jW d).2=0→∀u,aW w u→Calls ah 10 #[.string (jW d).1] u (X7 d 0 u):=fun h0 h u hu=>by
  have:=Sm (env.below hu) (jW d).1 (by have:=XY h;omega);rw[aac (aby (hok h0).fit (mR h).1) h]at this;exact this.mono fun _ _=>X8
 have hap:de=0→∀u p1 r1 sv gv rv,aW w u→df u p1 a.aK→eG u r1 a.aA→mK u d sv gv rv→Calls ah 11 #[.agg #[.int .u64 (a.version:Int),p1,r1,.string a.policy],.agg (eT d sv gv rv)] u (X6 b u):=fun h u p1 r1 sv gv rv hu h1 h2 h3=>by
  have:=yU (env.below hu) (ord.below hu ord.lt) h1 h2 fa sa h3 (hok h).fit (hok h).sz (by rw[(hok h).to_];exact sb);rw[(hok h).app]at this;exact this
 have hsm:=fun u p1 r1(hu:aW w u)(h1:df u p1 b.aK)(h2:eG u r1 b.aA)=>RZ (x:=b) (y:=b) h1 h2 (hb.below hu) (iu hrb hu) sb.sz sb.sz (by have:=sb.pl;omega) (by have:=sb.pl;omega) (by have:=sb.rl;omega) (by have:=sb.rl;omega)
 have hat:=fun u key(hu:aW w u)=>aaL (ha.below hu) (by have:=sa.pl;omega) key
 have hsr:=fun u(hu:aW w u)=>oo a.aA b.aA (by have:=sa.rl;omega) (by have:=sb.rl;omega) (iu hra hu) (iu hrb hu)
 have hsp:de=0→∀u(X Y:bS),aW w u→fc u X→fc u Y→X.p∈a.aK→Y.p∈d.aM→X.p.key=Y.p.key→Calls ah 14 #[.agg X.vals.toArray,.agg Y.vals.toArray] u (Got (.bool false) u):=fun h u X Y hu h1 h2 h3 h4 h5=>by
  have:=qP h1 h2 (sa.sz _ h3) ((hok h).sz.aM _ h4);rw[decide_eq_false ((hok h).only _ h4 _ h3 h5)]at this;exact this
 have hmt:de=0→∀p∈b.aK,∀s∈p.tags,s.size≠0:=fun h p hp=>by
  obtain⟨_,h2,_,_⟩:=gB (kT (hok h).vb);exact OL ((gu h2).2.2 p hp)
 have hfl:de=0→d.fe= !(a.policy.toList==b.policy.toList)∧d.eX= !decide (a.aA=b.aA):=fun h=>by
  rw[(hok h).is];refine⟨?_,?_⟩
  ·show decide (a.policy≠b.policy)=_;by_cases e:a.policy=b.policy
   ·rw[e];simp
   ·have:(a.policy.toList==b.policy.toList)=false:=gm e;rw[this,decide_eq_true e];rfl
  ·show decide (a.aA≠b.aA)=_;by_cases e:a.aA=b.aA<;>simp[e]
 have hpr:=LK ha;have hpl:=sa.pl;have hsl:de=0→d.aM.length≤2000000:=fun h=>(hok h).sz.sl
 obtain⟨kP,ca1,e1⟩:=ha.shape;obtain⟨kB,ca2,e2⟩:=a8.shape hra;obtain⟨uk,cb1,e3⟩:=hb.shape;obtain⟨rz,cb2,e4⟩:=a8.shape hrb;clear hra fa sa hb hrb fb sb env ord hok ha;simp only[decide_true]at hsm;generalize(cR a).2=ea at hma hbad;generalize(cR b).2=eb at hmb hbad;generalize jW d=ED at hed he4 hdd;obtain⟨bs,be⟩:=ED;obtain⟨va,fu,eZ,ta⟩:=a;obtain⟨vb,ip,eA,tb⟩:=b;obtain⟨db,dv,zY,BK,dR,L9,dP,dt,dh⟩:=d;simp only at*;subst e1 e2 e3 e4;obtain⟨A9,ae0,e9,hpr⟩:=hpr;cases e9;unfold XZ at hca hcb;unfold X7 at hdf hdd;unfold X6 at hap;unfold Ie at hva hvb;unfold eT at hdf hed hdd hap;simp only at*;obtain⟨gV,hn1⟩:=bw fu.length;obtain⟨iq,hn2⟩:=bw eZ.length;obtain⟨qO,hn3⟩:=bw ip.length;obtain⟨j6,hn4⟩:=bw eA.length;obtain⟨n1,hn5⟩:=bw zY.length;obtain⟨n2,hn6⟩:=bw BK.length;obtain⟨n3,hn7⟩:=bw L9.length;have jL:abU gV fu:=⟨hn1⟩;have Zq:abU n1 zY:=⟨hn5⟩;simp only[←hn1,←hn2,←hn3,←hn4,←hn5,←hn6,←hn7]at*;obtain⟨HWk,HVa,Oc,IY,HCb,HDf,zL,wJ,MI,HTz,HEd,Q9⟩:=oM hwk hva hvb hca hcb hdf hma hmb hbad htz hed he4;obtain⟨Ya,OO,N7,HAt,OR,EF,OT,SJ,YE,HPl,HSl⟩:=zZ hdd hap hsm hat hsr hsp hmt hfl hpr hpl hsl;clear hwk hva hvb hca hcb hdf hma hmb hbad htz hed he4 hdd hap hsm hat hsr hsp hmt hfl hpr hpl hsl hn1 hn2 hn3 hn4 hn5 hn6 hn7;have hb1:=boxed w (.cells #[.int .u64 va,.slice kP gV ca1,.slice kB iq ca2,.string ta] 26);have hp1:=aH.new w 26 #[.int .u64 va,.slice kP gV ca1,.slice kB iq ca2,.string ta];have hb2:=boxed (w.alloc (.cells #[.int .u64 va,.slice kP gV ca1,.slice kB iq ca2,.string ta] 26)) (.cells #[.int .u64 vb,.slice uk qO cb1,.slice rz j6 cb2,.string tb] 26);have hp2:=aH.new (w.alloc (.cells #[.int .u64 va,.slice kP gV ca1,.slice kB iq ca2,.string ta] 26)) 26 #[.int .u64 vb,.slice uk qO cb1,.slice rz j6 cb2,.string tb];have I0:ag (MmI w w.heap.size (w.alloc (.cells #[.int .u64 va,.slice kP gV ca1,.slice kB iq ca2,.string ta] 26)).heap.size #[.int .u64 va,.slice kP gV ca1,.slice kB iq ca2,.string ta] #[.int .u64 vb,.slice uk qO cb1,.slice rz j6 cb2,.string tb] ((w.alloc (.cells #[.int .u64 va,.slice kP gV ca1,.slice kB iq ca2,.string ta] 26)).alloc (.cells #[.int .u64 vb,.slice uk qO cb1,.slice rz j6 cb2,.string tb] 26))):=ae ⟨after hb1 hb2,hp1.below hb2 hp1.lt,hp2⟩;rw[show(w.alloc (.cells #[.int .u64 va,.slice kP gV ca1,.slice kB iq ca2,.string ta] 26)).heap.size=w.heap.size+1 by simp]at I0;clear hb1 hp1 hb2 hp2;go_enter Tryz.func3,Tryz.ntmps3;go_upto_region 1 with fail
 generalize(w.alloc (.cells #[.int .u64 va,.slice kP gV ca1,.slice kB iq ca2,.string ta] 26)).alloc (.cells #[.int .u64 vb,.slice uk qO cb1,.slice rz j6 cb2,.string tb] 26)=w1 at I0⊢;generalize w.heap.size+1=Q at I0⊢;obtain⟨P,hP⟩:=bw w.heap.size;rw[←hP]at I0⊢;clear hP;have p0:=I0.out.pm.cell 0;have p1:=I0.out.pm.cell 1;have p2:=I0.out.pm.cell 2;have p3:=I0.out.pm.cell 3;simp at p0 p1 p2 p3;have q0:=I0.out.pd.cell 0;have q1:=I0.out.pd.cell 1;have q2:=I0.out.pd.cell 2;have q3:=I0.out.pd.cell 3;simp at q0 q1 q2 q3;go_upto_if 20 with(first
  |(go_at_call 4;(with_reducible refine(HVa.out _ I0.out.low).mono ?_);rintro r w2⟨⟨b,rfl⟩,d2⟩;have I1:=ae (I0.out.below d2);have y0:=ai q0 d2;have y1:=ai q1 d2;have y2:=ai q2 d2;have y3:=ai q3 d2;cases b)
  |(go_at_call 4;(with_reducible refine(Oc.out _ I1.out.low).mono ?_);rintro r w3⟨⟨b2,rfl⟩,d3⟩;have I2:=ae (I1.out.below d3);cases b2))
 rotate_left
 ·go_wp2_with(go_at_call 5;refine(HWk.out _ I2.out.low).mono ?_;rintro r wz⟨rfl,dz⟩)
  go_ret;exact⟨rfl,after I2.out.low dz⟩
 ·go_wp2_with(go_at_call 5;refine(HWk.out _ I1.out.low).mono ?_;rintro r wz⟨rfl,dz⟩)
  go_ret;exact⟨rfl,after I1.out.low dz⟩
 clear HVa Oc d2 d3 I0 I1 p0 p1 p2 p3 q0 q1 q2 q3 y0 y1 y2 y3;obtain⟨w3,rfl⟩:=bw (w3:World);have p0:=I2.out.pm.cell 0;have p1:=I2.out.pm.cell 1;have p2:=I2.out.pm.cell 2;have p3:=I2.out.pm.cell 3;simp at p0 p1 p2 p3;have q0:=I2.out.pd.cell 0;have q1:=I2.out.pd.cell 1;have q2:=I2.out.pd.cell 2;have q3:=I2.out.pd.cell 3;simp at q0 q1 q2 q3;go_upto_region 3 with fail
 go_cut [5,6]from 15 (fun v5 v6 wx=>∃(D:Nat)(C1:Option Addr)(k1:Nat)(C2:Option Addr)(k2:Nat)(C3:Option Addr)(k3:Nat),v5=.pointer (some ⟨D,0,none⟩)∧v6=.int .i64 de∧ag (Iw w3 ⟨db,dv,zY,BK,dR,L9,dP,dt,dh⟩ D (.slice C1 n1 k1) (.slice C2 n2 k2) (.slice C3 n3 k3) wx))
 case first=>
  have E:=(aI w3.heap.size w3).drew;refine wp_region_held_drew (S:=(fun u=>u.cell? ⟨P,0,none⟩=some (.int .u64 va)∧u.cell? ⟨P,1,none⟩=some (.slice kP gV ca1)∧u.cell? ⟨P,2,none⟩=some (.slice kB iq ca2)∧u.cell? ⟨P,3,none⟩=some (.string ta)∧u.cell? ⟨Q,0,none⟩=some (.int .u64 vb)∧u.cell? ⟨Q,1,none⟩=some (.slice uk qO cb1)∧u.cell? ⟨Q,2,none⟩=some (.slice rz j6 cb2)∧u.cell? ⟨Q,3,none⟩=some (.string tb))) bo (⟨p0,p1,p2,p3,q0,q1,q2,q3⟩) (fun hHeld=>?_);refine aY 0 ?_
  refine aY 2 ?_
  refine wpAnyH_ready (rs:=[1,8]) bo (by simp) ?_;refine ahO rfl (fun K hK=>?_) (ahO rfl (fun K hK=>?_) AllReadyH.nil)
  ·go_simp;refine(IY.out _ (after I2.out.low E)).mono ?_;rintro r wa⟨⟨B1,m1,B2,m2,rfl,hpa,hra⟩,d⟩;obtain⟨oC,oD⟩:=aL hpa hra;try have HD:=ae (HD.out.below d HD.out.lt)
   have E:=after E d;clear hpa hra d;refine hK.out _ _ (⟨ai p0 E,ai p1 E,ai p2 E,ai p3 E,ai q0 E,ai q1 E,ai q2 E,ai q3 E⟩) (fun hHeld=>?_);clear hK K;try simp only[ck]
   refine wpAnyH_ready (rs:=[3,8]) bo (by simp) ?_;refine ahO rfl (fun K hK=>?_) (ahO rfl (fun K hK=>?_) AllReadyH.nil)
   ·go_simp;refine(HCb.out _ (after I2.out.low E)).mono ?_;rintro r wb⟨⟨B3,m3,B4,m4,rfl,hpb,hrb⟩,d⟩;obtain⟨oC,oD,rW,uw⟩:=cU (oC.out.below d) (iu oD.out d) hpb hrb;try have HD:=ae (HD.out.below d HD.out.lt)
    have E:=after E d;clear hpb hrb d;refine hK.out _ _ (⟨ai p0 E,ai p1 E,ai p2 E,ai p3 E,ai q0 E,ai q1 E,ai q2 E,ai q3 E⟩) (fun hHeld=>?_);clear hK K;try simp only[ck]
    refine wpAnyH_ready (rs:=[4,8]) bo (by simp) ?_;refine ahO rfl (fun K hK=>?_) (ahO rfl (fun K hK=>?_) AllReadyH.nil)
    ·go_simp;refine(HDf.out _ _ _ _ _ (after I2.out.low E) oC.out oD.out rW.out uw.out).mono ?_;rintro r wd⟨⟨C1,k1,C2,k2,C3,k3,rfl,hdl⟩,d⟩;have Yb:=ae hdl;try have HD:=ae (HD.out.below d HD.out.lt)
     have E:=after E d;clear hdl d oC oD rW uw;try have z:=fun i=>HD.out.frozen i
     try have x0:=HD.out.cell 0
     try have x1:=HD.out.cell 1
     try have x2:=HD.out.cell 2
     try have x3:=HD.out.cell 3
     try have x4:=HD.out.cell 4
     try have x5:=HD.out.cell 5
     try have x6:=HD.out.cell 6
     try have x7:=HD.out.cell 7
     try have x8:=HD.out.cell 8
     try simp at x0 x1 x2 x3 x4 x5 x6 x7 x8
     refine hK.out _ _ (⟨ai p0 E,ai p1 E,ai p2 E,ai p3 E,ai q0 E,ai q1 E,ai q2 E,ai q3 E⟩) (fun hHeld=>?_);clear hK K;try simp only[ck]
     refine aY 5 ?_
     refine aY 6 ?_
     refine aY 7 ?_
     refine fA 8 fun K hK=>?_;go_simp;obtain⟨Hz,HD⟩:=aL E.size (yM E 31 #[.int .u64 0,.int .u64 0,au,au,.bool false,au,.bool false,aG,aG]);try(have HD:ag (aH _ w3.heap.size _ _):=HD)
     have Eo:=E;try have H1:=ae (ax wd.heap.size)
     try have oC:=ae (oC.out.below (iO E (.cells #[.int .u64 0,.int .u64 0,au,au,.bool false,au,.bool false,aG,aG] 31)))
     try have oD:=ae (iu oD.out (iO E (.cells #[.int .u64 0,.int .u64 0,au,au,.bool false,au,.bool false,aG,aG] 31)))
     try have rW:=ae (rW.out.below (iO E (.cells #[.int .u64 0,.int .u64 0,au,au,.bool false,au,.bool false,aG,aG] 31)))
     try have uw:=ae (iu uw.out (iO E (.cells #[.int .u64 0,.int .u64 0,au,au,.bool false,au,.bool false,aG,aG] 31)))
     have E:=after E (iO E (.cells #[.int .u64 0,.int .u64 0,au,au,.bool false,au,.bool false,aG,aG] 31));refine hK.out _ _ (⟨ai p0 E,ai p1 E,ai p2 E,ai p3 E,ai q0 E,ai q1 E,ai q2 E,ai q3 E⟩) (fun hHeld=>?_);clear hK K;try simp only[ck]
     refine fA 9 fun K hK=>?_;go_simp;first
      |(have:=H1;have F:=ae (pO Eo Yb.out);unfold eT at F;simp only at F)
      |(have F:=ae (sV E HD.out Hz.out Yb.out HTz.out.1 HTz.out.2);unfold D7 at F;simp only at F)
     refine hK.out _ _ (⟨ai p0 F.out.low,ai p1 F.out.low,ai p2 F.out.low,ai p3 F.out.low,ai q0 F.out.low,ai q1 F.out.low,ai q2 F.out.low,ai q3 F.out.low⟩) (fun hHeld=>?_);clear hK K;try simp only[ck]
     refine aY 10 ?_
     refine lN ?_;clear HWk IY HCb HDf zL wJ MI HEd Q9 Ya OO N7 HAt OR EF OT SJ YE;go_wp2_with fail
     go_meet;exact⟨_,_,_,_,_,_,_,rfl,rfl,F⟩
    ·go_simp;obtain⟨Hz,HD⟩:=aL E.size (yM E 31 #[.int .u64 0,.int .u64 0,au,au,.bool false,au,.bool false,aG,aG]);try(have HD:ag (aH _ w3.heap.size _ _):=HD)
     have Eo:=E;try have H1:=ae (ax wd.heap.size)
     try have oC:=ae (oC.out.below (iO E (.cells #[.int .u64 0,.int .u64 0,au,au,.bool false,au,.bool false,aG,aG] 31)))
     try have oD:=ae (iu oD.out (iO E (.cells #[.int .u64 0,.int .u64 0,au,au,.bool false,au,.bool false,aG,aG] 31)))
     try have rW:=ae (rW.out.below (iO E (.cells #[.int .u64 0,.int .u64 0,au,au,.bool false,au,.bool false,aG,aG] 31)))
     try have uw:=ae (iu uw.out (iO E (.cells #[.int .u64 0,.int .u64 0,au,au,.bool false,au,.bool false,aG,aG] 31)))
     have E:=after E (iO E (.cells #[.int .u64 0,.int .u64 0,au,au,.bool false,au,.bool false,aG,aG] 31));refine hK.out _ _ (⟨ai p0 E,ai p1 E,ai p2 E,ai p3 E,ai q0 E,ai q1 E,ai q2 E,ai q3 E⟩) (fun hHeld=>?_);clear hK K;try simp only[ck]
     refine fA 4 fun K hK=>?_;go_simp;refine(HDf.out _ _ _ _ _ (after I2.out.low E) oC.out oD.out rW.out uw.out).mono ?_;rintro r wd⟨⟨C1,k1,C2,k2,C3,k3,rfl,hdl⟩,d⟩;have Yb:=ae hdl;try have HD:=ae (HD.out.below d HD.out.lt)
     have E:=after E d;clear hdl d oC oD rW uw;try have z:=fun i=>HD.out.frozen i
     try have x0:=HD.out.cell 0
     try have x1:=HD.out.cell 1
     try have x2:=HD.out.cell 2
     try have x3:=HD.out.cell 3
     try have x4:=HD.out.cell 4
     try have x5:=HD.out.cell 5
     try have x6:=HD.out.cell 6
     try have x7:=HD.out.cell 7
     try have x8:=HD.out.cell 8
     try simp at x0 x1 x2 x3 x4 x5 x6 x7 x8
     refine hK.out _ _ (⟨ai p0 E,ai p1 E,ai p2 E,ai p3 E,ai q0 E,ai q1 E,ai q2 E,ai q3 E⟩) (fun hHeld=>?_);clear hK K;try simp only[ck]
     refine aY 5 ?_
     refine aY 6 ?_
     refine aY 7 ?_
     refine fA 9 fun K hK=>?_;go_simp;first
      |(have:=H1;have F:=ae (pO Eo Yb.out);unfold eT at F;simp only at F)
      |(have F:=ae (sV E HD.out Hz.out Yb.out HTz.out.1 HTz.out.2);unfold D7 at F;simp only at F)
     refine hK.out _ _ (⟨ai p0 F.out.low,ai p1 F.out.low,ai p2 F.out.low,ai p3 F.out.low,ai q0 F.out.low,ai q1 F.out.low,ai q2 F.out.low,ai q3 F.out.low⟩) (fun hHeld=>?_);clear hK K;try simp only[ck]
     refine aY 10 ?_
     refine lN ?_;clear HWk IY HCb HDf zL wJ MI HEd Q9 Ya OO N7 HAt OR EF OT SJ YE;go_wp2_with fail
     go_meet;exact⟨_,_,_,_,_,_,_,rfl,rfl,F⟩
   ·go_simp;obtain⟨Hz,HD⟩:=aL E.size (yM E 31 #[.int .u64 0,.int .u64 0,au,au,.bool false,au,.bool false,aG,aG]);try(have HD:ag (aH _ w3.heap.size _ _):=HD)
    have Eo:=E;try have H1:=ae (ax wd.heap.size)
    try have oC:=ae (oC.out.below (iO E (.cells #[.int .u64 0,.int .u64 0,au,au,.bool false,au,.bool false,aG,aG] 31)))
    try have oD:=ae (iu oD.out (iO E (.cells #[.int .u64 0,.int .u64 0,au,au,.bool false,au,.bool false,aG,aG] 31)))
    try have rW:=ae (rW.out.below (iO E (.cells #[.int .u64 0,.int .u64 0,au,au,.bool false,au,.bool false,aG,aG] 31)))
    try have uw:=ae (iu uw.out (iO E (.cells #[.int .u64 0,.int .u64 0,au,au,.bool false,au,.bool false,aG,aG] 31)))
    have E:=after E (iO E (.cells #[.int .u64 0,.int .u64 0,au,au,.bool false,au,.bool false,aG,aG] 31));refine hK.out _ _ (⟨ai p0 E,ai p1 E,ai p2 E,ai p3 E,ai q0 E,ai q1 E,ai q2 E,ai q3 E⟩) (fun hHeld=>?_);clear hK K;try simp only[ck]
    refine fA 3 fun K hK=>?_;go_simp;refine(HCb.out _ (after I2.out.low E)).mono ?_;rintro r wb⟨⟨B3,m3,B4,m4,rfl,hpb,hrb⟩,d⟩;obtain⟨oC,oD,rW,uw⟩:=cU (oC.out.below d) (iu oD.out d) hpb hrb;try have HD:=ae (HD.out.below d HD.out.lt)
    have E:=after E d;clear hpb hrb d;refine hK.out _ _ (⟨ai p0 E,ai p1 E,ai p2 E,ai p3 E,ai q0 E,ai q1 E,ai q2 E,ai q3 E⟩) (fun hHeld=>?_);clear hK K;try simp only[ck]
    refine fA 4 fun K hK=>?_;go_simp;refine(HDf.out _ _ _ _ _ (after I2.out.low E) oC.out oD.out rW.out uw.out).mono ?_;rintro r wd⟨⟨C1,k1,C2,k2,C3,k3,rfl,hdl⟩,d⟩;have Yb:=ae hdl;try have HD:=ae (HD.out.below d HD.out.lt)
    have E:=after E d;clear hdl d oC oD rW uw;try have z:=fun i=>HD.out.frozen i
    try have x0:=HD.out.cell 0
    try have x1:=HD.out.cell 1
    try have x2:=HD.out.cell 2
    try have x3:=HD.out.cell 3
    try have x4:=HD.out.cell 4
    try have x5:=HD.out.cell 5
    try have x6:=HD.out.cell 6
    try have x7:=HD.out.cell 7
    try have x8:=HD.out.cell 8
    try simp at x0 x1 x2 x3 x4 x5 x6 x7 x8
    refine hK.out _ _ (⟨ai p0 E,ai p1 E,ai p2 E,ai p3 E,ai q0 E,ai q1 E,ai q2 E,ai q3 E⟩) (fun hHeld=>?_);clear hK K;try simp only[ck]
    refine aY 5 ?_
    refine aY 6 ?_
    refine aY 7 ?_
    refine fA 9 fun K hK=>?_;go_simp;first
     |(have:=H1;have F:=ae (pO Eo Yb.out);unfold eT at F;simp only at F)
     |(have F:=ae (sV E HD.out Hz.out Yb.out HTz.out.1 HTz.out.2);unfold D7 at F;simp only at F)
    refine hK.out _ _ (⟨ai p0 F.out.low,ai p1 F.out.low,ai p2 F.out.low,ai p3 F.out.low,ai q0 F.out.low,ai q1 F.out.low,ai q2 F.out.low,ai q3 F.out.low⟩) (fun hHeld=>?_);clear hK K;try simp only[ck]
    refine aY 10 ?_
    refine lN ?_;clear HWk IY HCb HDf zL wJ MI HEd Q9 Ya OO N7 HAt OR EF OT SJ YE;go_wp2_with fail
    go_meet;exact⟨_,_,_,_,_,_,_,rfl,rfl,F⟩
  ·go_simp;obtain⟨Hz,HD⟩:=aL E.size (yM E 31 #[.int .u64 0,.int .u64 0,au,au,.bool false,au,.bool false,aG,aG]);try(have HD:ag (aH _ w3.heap.size _ _):=HD)
   have Eo:=E;try have H1:=ae (ax wd.heap.size)
   try have oC:=ae (oC.out.below (iO E (.cells #[.int .u64 0,.int .u64 0,au,au,.bool false,au,.bool false,aG,aG] 31)))
   try have oD:=ae (iu oD.out (iO E (.cells #[.int .u64 0,.int .u64 0,au,au,.bool false,au,.bool false,aG,aG] 31)))
   try have rW:=ae (rW.out.below (iO E (.cells #[.int .u64 0,.int .u64 0,au,au,.bool false,au,.bool false,aG,aG] 31)))
   try have uw:=ae (iu uw.out (iO E (.cells #[.int .u64 0,.int .u64 0,au,au,.bool false,au,.bool false,aG,aG] 31)))
   have E:=after E (iO E (.cells #[.int .u64 0,.int .u64 0,au,au,.bool false,au,.bool false,aG,aG] 31));refine hK.out _ _ (⟨ai p0 E,ai p1 E,ai p2 E,ai p3 E,ai q0 E,ai q1 E,ai q2 E,ai q3 E⟩) (fun hHeld=>?_);clear hK K;try simp only[ck]
   refine fA 1 fun K hK=>?_;go_simp;refine(IY.out _ (after I2.out.low E)).mono ?_;rintro r wa⟨⟨B1,m1,B2,m2,rfl,hpa,hra⟩,d⟩;obtain⟨oC,oD⟩:=aL hpa hra;try have HD:=ae (HD.out.below d HD.out.lt)
   have E:=after E d;clear hpa hra d;refine hK.out _ _ (⟨ai p0 E,ai p1 E,ai p2 E,ai p3 E,ai q0 E,ai q1 E,ai q2 E,ai q3 E⟩) (fun hHeld=>?_);clear hK K;try simp only[ck]
   refine fA 3 fun K hK=>?_;go_simp;refine(HCb.out _ (after I2.out.low E)).mono ?_;rintro r wb⟨⟨B3,m3,B4,m4,rfl,hpb,hrb⟩,d⟩;obtain⟨oC,oD,rW,uw⟩:=cU (oC.out.below d) (iu oD.out d) hpb hrb;try have HD:=ae (HD.out.below d HD.out.lt)
   have E:=after E d;clear hpb hrb d;refine hK.out _ _ (⟨ai p0 E,ai p1 E,ai p2 E,ai p3 E,ai q0 E,ai q1 E,ai q2 E,ai q3 E⟩) (fun hHeld=>?_);clear hK K;try simp only[ck]
   refine fA 4 fun K hK=>?_;go_simp;refine(HDf.out _ _ _ _ _ (after I2.out.low E) oC.out oD.out rW.out uw.out).mono ?_;rintro r wd⟨⟨C1,k1,C2,k2,C3,k3,rfl,hdl⟩,d⟩;have Yb:=ae hdl;try have HD:=ae (HD.out.below d HD.out.lt)
   have E:=after E d;clear hdl d oC oD rW uw;try have z:=fun i=>HD.out.frozen i
   try have x0:=HD.out.cell 0
   try have x1:=HD.out.cell 1
   try have x2:=HD.out.cell 2
   try have x3:=HD.out.cell 3
   try have x4:=HD.out.cell 4
   try have x5:=HD.out.cell 5
   try have x6:=HD.out.cell 6
   try have x7:=HD.out.cell 7
   try have x8:=HD.out.cell 8
   try simp at x0 x1 x2 x3 x4 x5 x6 x7 x8
   refine hK.out _ _ (⟨ai p0 E,ai p1 E,ai p2 E,ai p3 E,ai q0 E,ai q1 E,ai q2 E,ai q3 E⟩) (fun hHeld=>?_);clear hK K;try simp only[ck]
   refine aY 5 ?_
   refine aY 6 ?_
   refine aY 7 ?_
   refine fA 9 fun K hK=>?_;go_simp;first
    |(have:=H1;have F:=ae (pO Eo Yb.out);unfold eT at F;simp only at F)
    |(have F:=ae (sV E HD.out Hz.out Yb.out HTz.out.1 HTz.out.2);unfold D7 at F;simp only at F)
   refine hK.out _ _ (⟨ai p0 F.out.low,ai p1 F.out.low,ai p2 F.out.low,ai p3 F.out.low,ai q0 F.out.low,ai q1 F.out.low,ai q2 F.out.low,ai q3 F.out.low⟩) (fun hHeld=>?_);clear hK K;try simp only[ck]
   refine aY 10 ?_
   refine lN ?_;clear HWk IY HCb HDf zL wJ MI HEd Q9 Ya OO N7 HAt OR EF OT SJ YE;go_wp2_with fail
   go_meet;exact⟨_,_,_,_,_,_,_,rfl,rfl,F⟩
 case rest=>
 obtain⟨D,C1,k1,C2,k2,C3,k3,rfl,rfl,hB⟩:=hcut;obtain⟨w4,rfl⟩:=bw (wc:World);have J0:=ae (I2.out.below hB.out.low);have D8:ag (Iw w4 ⟨db,dv,zY,BK,dR,L9,dP,dt,dh⟩ D (.slice C1 n1 k1) (.slice C2 n2 k2) (.slice C3 n3 k3) w4):=ae ⟨hB.out.blk,hB.out.rd,aI _ _⟩;clear hB I2 p0 p1 p2 p3 q0 q1 q2 q3 HDf HCb HTz;by_cases hde:de=0
 case neg=>
  have qe:((de:Int) !=0)=true:=by simp;omega
  have hbad:=MI.out hde;have p0:=J0.out.pm.cell 0;have p1:=J0.out.pm.cell 1;have p2:=J0.out.pm.cell 2;have p3:=J0.out.pm.cell 3;simp at p0 p1 p2 p3;have q0:=J0.out.pd.cell 0;have q1:=J0.out.pd.cell 1;have q2:=J0.out.pd.cell 2;have q3:=J0.out.pd.cell 3;simp at q0 q1 q2 q3;clear hde MI HEd Q9 Ya OO N7 HAt OR EF OT SJ YE IY;by_cases h1:ea=0
  ·have qa:((ea:Int) !=0)=false:=by simp[h1]
   by_cases h2:eb=0
   ·have qb:((eb:Int) !=0)=false:=by simp[h2]
    have qv:(vb:Int)≤(va:Int):=by
     rcases hbad with h|h|h
     ·exact absurd h1 h
     ·exact absurd h2 h
     ·omega
    clear h1 h2 hbad;go_wp2_with(first
     |(go_at_call 8;(with_reducible refine(zL.out _ J0.out.low).mono ?_);rintro r w5⟨rfl,d5⟩;have J1:=ae (J0.out.below d5);have y0:=ai q0 d5;have y1:=ai q1 d5;have y2:=ai q2 d5;have y3:=ai q3 d5;have z0:=ai p0 d5)
     |(go_at_call 8;(with_reducible refine(wJ.out _ J1.out.low).mono ?_);rintro r w6⟨rfl,d6⟩;have J2:=ae (J1.out.below d6);have s0:=ai y0 d6;have t0:=ai z0 d6)
     |(go_at_call 5;refine(HWk.out _ J2.out.low).mono ?_;rintro r wz⟨rfl,dz⟩))
    go_ret;exact⟨rfl,after J2.out.low dz⟩
   ·have qb:((eb:Int) !=0)=true:=by simp;omega
    clear h1 h2 hbad;go_wp2_with(first
     |(go_at_call 8;(with_reducible refine(zL.out _ J0.out.low).mono ?_);rintro r w5⟨rfl,d5⟩;have J1:=ae (J0.out.below d5);have y0:=ai q0 d5;have y1:=ai q1 d5;have y2:=ai q2 d5;have y3:=ai q3 d5)
     |(go_at_call 8;(with_reducible refine(wJ.out _ J1.out.low).mono ?_);rintro r w6⟨rfl,d6⟩;have J2:=ae (J1.out.below d6))
     |(go_at_call 5;refine(HWk.out _ J2.out.low).mono ?_;rintro r wz⟨rfl,dz⟩))
    go_ret;exact⟨rfl,after J2.out.low dz⟩
  ·have qa:((ea:Int) !=0)=true:=by simp;omega
   clear h1 hbad;go_wp2_with(first
    |(go_at_call 8;refine(zL.out _ J0.out.low).mono ?_;rintro r w5⟨rfl,d5⟩;have J1:=ae (J0.out.below d5))
    |(go_at_call 5;refine(HWk.out _ J1.out.low).mono ?_;rintro r wz⟨rfl,dz⟩))
   go_ret;exact⟨rfl,after J1.out.low dz⟩
 replace HEd:=ae (HEd.out hde)
 replace Q9:=ae (Q9.out hde)
 replace Ya:=ae (Ya.out hde)
 replace OO:=ae (OO.out hde)
 replace EF:=ae (EF.out hde)
 replace OT:=ae (OT.out hde)
 replace SJ:=ae (SJ.out hde)
 replace HSl:=ae (HSl.out hde)
 subst hde;clear MI zL wJ;have HC:=ae (HEd.out _ _ _ _ J0.out.low D8.out.rd);have hbk:=D8.out.blk;unfold eT at hbk;have x0:=hbk.cell 0;have x1:=hbk.cell 1;have x2:=hbk.cell 2;have x3:=hbk.cell 3;have x4:=hbk.cell 4;have x5:=hbk.cell 5;have x6:=hbk.cell 6;have x7:=hbk.cell 7;have x8:=hbk.cell 8;simp at x0 x1 x2 x3 x4 x5 x6 x7 x8;clear hbk;go_upto_if 56 with(go_at_call 9;refine HC.out.mono ?_;rintro r w5⟨rfl,d5⟩;obtain⟨J1,SN⟩:=aL (J0.out.below d5) (D8.out.below d5);clear d5;rcases Q9.out with rfl|rfl)
 rotate_left
 ·go_wp2_with(go_at_call 5;refine(HWk.out _ J1.out.low).mono ?_;rintro r wz⟨rfl,dz⟩)
  go_ret;exact⟨rfl,after J1.out.low dz⟩
 clear HEd Q9 HC J0 D8 x0 x1 x2 x3 x4 x5 x6 x7 x8
 replace Ya:=ae (Ya.out (by simp))
 obtain⟨w5,rfl⟩:=bw (w5:World);go_upto_region 10 with(go_at_call 10;refine(Ya.out _ J1.out.low).mono ?_;rintro r w6⟨⟨A4,c4,A5,c5,A6,c6,rfl,hx⟩,d6⟩;obtain⟨J2,SL,HX⟩:=bz (J1.out.below d6) (SN.out.below d6) hx;clear hx d6)
 have hbx:=boxed w6 (.cells #[.int .u64 db,.int .u64 dv,.slice A4 n1 c4,.slice A5 n2 c5,.bool dR,.slice A6 n3 c6,.bool dP,.string dt,.string dh] 31);obtain⟨J3,HB3,SQ⟩:=bz (J2.out.below hbx) (SL.out.below hbx) (pO (aI w6.heap.size w6) HX.out);unfold eT at SQ;simp only at SQ;clear hbx J1 J2 SN SL HX Ya;generalize w6.alloc (.cells #[.int .u64 db,.int .u64 dv,.slice A4 n1 c4,.slice A5 n2 c5,.bool dR,.slice A6 n3 c6,.bool dP,.string dt,.string dh] 31)=w7 at J3 HB3 SQ⊢;have HXr:=ae SQ.out.rd;have hxb:=SQ.out.blk;unfold eT at hxb;clear SQ;generalize w6.heap.size=X at hxb⊢;have x0:=hxb.cell 0;have x1:=hxb.cell 1;have x2:=hxb.cell 2;have x3:=hxb.cell 3;have x4:=hxb.cell 4;have x5:=hxb.cell 5;have x6:=hxb.cell 6;have x7:=hxb.cell 7;have x8:=hxb.cell 8;simp at x0 x1 x2 x3 x4 x5 x6 x7 x8;clear hxb;have p0:=J3.out.pm.cell 0;have p1:=J3.out.pm.cell 1;have p2:=J3.out.pm.cell 2;have p3:=J3.out.pm.cell 3;simp at p0 p1 p2 p3;go_cut [11,12]from 63 (fun v11 v12 wx=>∃(M:Nat)(A1:Option Addr)(c1:Nat)(A2:Option Addr)(c2:Nat),v11=.pointer (some ⟨M,0,none⟩)∧v12=.int .i64 0∧ag (ad0 w7 ⟨vb,ip,eA,tb⟩ M (.slice A1 qO c1) (.slice A2 j6 c2) wx))
 case first=>
  have E:=(aI w7.heap.size w7).drew;refine wp_region_held_drew (S:=(fun u=>u.cell? ⟨P,0,none⟩=some (.int .u64 va)∧u.cell? ⟨P,1,none⟩=some (.slice kP gV ca1)∧u.cell? ⟨P,2,none⟩=some (.slice kB iq ca2)∧u.cell? ⟨P,3,none⟩=some (.string ta)∧u.cell? ⟨X,0,none⟩=some (.int .u64 db)∧u.cell? ⟨X,1,none⟩=some (.int .u64 dv)∧u.cell? ⟨X,2,none⟩=some (.slice A4 n1 c4)∧u.cell? ⟨X,3,none⟩=some (.slice A5 n2 c5)∧u.cell? ⟨X,4,none⟩=some (.bool dR)∧u.cell? ⟨X,5,none⟩=some (.slice A6 n3 c6)∧u.cell? ⟨X,6,none⟩=some (.bool dP)∧u.cell? ⟨X,7,none⟩=some (.string dt)∧u.cell? ⟨X,8,none⟩=some (.string dh))) bo (⟨p0,p1,p2,p3,x0,x1,x2,x3,x4,x5,x6,x7,x8⟩) (fun hHeld=>?_);refine aY 0 ?_
  refine aY 2 ?_
  refine wpAnyH_ready (rs:=[1,7]) bo (by simp) ?_;refine ahO rfl (fun K hK=>?_) (ahO rfl (fun K hK=>?_) AllReadyH.nil)
  ·go_simp;refine(IY.out _ (after J3.out.low E)).mono ?_;rintro r wa⟨⟨B1,m1,B2,m2,rfl,hpa,hra⟩,d⟩;obtain⟨oC,oD⟩:=aL hpa hra;try have HD:=ae (HD.out.below d HD.out.lt)
   have E:=after E d;clear hpa hra d;refine hK.out _ _ (⟨ai p0 E,ai p1 E,ai p2 E,ai p3 E,ai x0 E,ai x1 E,ai x2 E,ai x3 E,ai x4 E,ai x5 E,ai x6 E,ai x7 E,ai x8 E⟩) (fun hHeld=>?_);clear hK K;try simp only[ck]
   refine wpAnyH_ready (rs:=[3,7]) bo (by simp) ?_;refine ahO rfl (fun K hK=>?_) (ahO rfl (fun K hK=>?_) AllReadyH.nil)
   ·go_simp;refine(OO.out _ _ _ _ _ _ (after J3.out.low E) oC.out oD.out (HXr.out.below E)).mono ?_;rintro r wd⟨⟨A7,c7,A8,c8,rfl,hpb,hrb⟩,d⟩;obtain⟨rW,uw⟩:=aL hpb hrb;try have HD:=ae (HD.out.below d HD.out.lt)
    have E:=after E d;clear hpb hrb d oC oD;try have z:=fun i=>HD.out.frozen i
    try have m0:=HD.out.cell 0
    try have m1:=HD.out.cell 1
    try have m2:=HD.out.cell 2
    try have m3:=HD.out.cell 3
    try simp at m0 m1 m2 m3
    refine hK.out _ _ (⟨ai p0 E,ai p1 E,ai p2 E,ai p3 E,ai x0 E,ai x1 E,ai x2 E,ai x3 E,ai x4 E,ai x5 E,ai x6 E,ai x7 E,ai x8 E⟩) (fun hHeld=>?_);clear hK K;try simp only[ck]
    refine aY 4 ?_
    refine aY 5 ?_
    refine aY 6 ?_
    refine fA 7 fun K hK=>?_;go_simp;obtain⟨Hz,HD⟩:=aL E.size (yM E 26 #[.int .u64 0,au,au,aG]);try(have HD:ag (aH _ w7.heap.size _ _):=HD)
    have Eo:=E;try have H1:=ae (ax wd.heap.size)
    try have oC:=ae (oC.out.below (iO E (.cells #[.int .u64 0,au,au,aG] 26)))
    try have oD:=ae (iu oD.out (iO E (.cells #[.int .u64 0,au,au,aG] 26)))
    have E:=after E (iO E (.cells #[.int .u64 0,au,au,aG] 26));refine hK.out _ _ (⟨ai p0 E,ai p1 E,ai p2 E,ai p3 E,ai x0 E,ai x1 E,ai x2 E,ai x3 E,ai x4 E,ai x5 E,ai x6 E,ai x7 E,ai x8 E⟩) (fun hHeld=>?_);clear hK K;try simp only[ck]
    refine fA 8 fun K hK=>?_;go_simp;first
     |(have:=H1;have F:=ae (za (m:=⟨vb,ip,eA,tb⟩) Eo rW.out uw.out);simp only at F)
     |(have F:=ae (zb (m:=⟨vb,ip,eA,tb⟩) E HD.out Hz.out rW.out uw.out OT.out);simp only at F)
    refine hK.out _ _ (⟨ai p0 F.out.low,ai p1 F.out.low,ai p2 F.out.low,ai p3 F.out.low,ai x0 F.out.low,ai x1 F.out.low,ai x2 F.out.low,ai x3 F.out.low,ai x4 F.out.low,ai x5 F.out.low,ai x6 F.out.low,ai x7 F.out.low,ai x8 F.out.low⟩) (fun hHeld=>?_);clear hK K;try simp only[ck]
    refine aY 9 ?_
    refine lN ?_;clear HWk IY OO N7 HAt OR EF OT SJ YE HXr;go_wp2_with fail
    go_meet;exact⟨_,_,_,_,_,rfl,rfl,F⟩
   ·go_simp;obtain⟨Hz,HD⟩:=aL E.size (yM E 26 #[.int .u64 0,au,au,aG]);try(have HD:ag (aH _ w7.heap.size _ _):=HD)
    have Eo:=E;try have H1:=ae (ax wd.heap.size)
    try have oC:=ae (oC.out.below (iO E (.cells #[.int .u64 0,au,au,aG] 26)))
    try have oD:=ae (iu oD.out (iO E (.cells #[.int .u64 0,au,au,aG] 26)))
    have E:=after E (iO E (.cells #[.int .u64 0,au,au,aG] 26));refine hK.out _ _ (⟨ai p0 E,ai p1 E,ai p2 E,ai p3 E,ai x0 E,ai x1 E,ai x2 E,ai x3 E,ai x4 E,ai x5 E,ai x6 E,ai x7 E,ai x8 E⟩) (fun hHeld=>?_);clear hK K;try simp only[ck]
    refine fA 3 fun K hK=>?_;go_simp;refine(OO.out _ _ _ _ _ _ (after J3.out.low E) oC.out oD.out (HXr.out.below E)).mono ?_;rintro r wd⟨⟨A7,c7,A8,c8,rfl,hpb,hrb⟩,d⟩;obtain⟨rW,uw⟩:=aL hpb hrb;try have HD:=ae (HD.out.below d HD.out.lt)
    have E:=after E d;clear hpb hrb d oC oD;try have z:=fun i=>HD.out.frozen i
    try have m0:=HD.out.cell 0
    try have m1:=HD.out.cell 1
    try have m2:=HD.out.cell 2
    try have m3:=HD.out.cell 3
    try simp at m0 m1 m2 m3
    refine hK.out _ _ (⟨ai p0 E,ai p1 E,ai p2 E,ai p3 E,ai x0 E,ai x1 E,ai x2 E,ai x3 E,ai x4 E,ai x5 E,ai x6 E,ai x7 E,ai x8 E⟩) (fun hHeld=>?_);clear hK K;try simp only[ck]
    refine aY 4 ?_
    refine aY 5 ?_
    refine aY 6 ?_
    refine fA 8 fun K hK=>?_;go_simp;first
     |(have:=H1;have F:=ae (za (m:=⟨vb,ip,eA,tb⟩) Eo rW.out uw.out);simp only at F)
     |(have F:=ae (zb (m:=⟨vb,ip,eA,tb⟩) E HD.out Hz.out rW.out uw.out OT.out);simp only at F)
    refine hK.out _ _ (⟨ai p0 F.out.low,ai p1 F.out.low,ai p2 F.out.low,ai p3 F.out.low,ai x0 F.out.low,ai x1 F.out.low,ai x2 F.out.low,ai x3 F.out.low,ai x4 F.out.low,ai x5 F.out.low,ai x6 F.out.low,ai x7 F.out.low,ai x8 F.out.low⟩) (fun hHeld=>?_);clear hK K;try simp only[ck]
    refine aY 9 ?_
    refine lN ?_;clear HWk IY OO N7 HAt OR EF OT SJ YE HXr;go_wp2_with fail
    go_meet;exact⟨_,_,_,_,_,rfl,rfl,F⟩
  ·go_simp;obtain⟨Hz,HD⟩:=aL E.size (yM E 26 #[.int .u64 0,au,au,aG]);try(have HD:ag (aH _ w7.heap.size _ _):=HD)
   have Eo:=E;try have H1:=ae (ax wd.heap.size)
   try have oC:=ae (oC.out.below (iO E (.cells #[.int .u64 0,au,au,aG] 26)))
   try have oD:=ae (iu oD.out (iO E (.cells #[.int .u64 0,au,au,aG] 26)))
   have E:=after E (iO E (.cells #[.int .u64 0,au,au,aG] 26));refine hK.out _ _ (⟨ai p0 E,ai p1 E,ai p2 E,ai p3 E,ai x0 E,ai x1 E,ai x2 E,ai x3 E,ai x4 E,ai x5 E,ai x6 E,ai x7 E,ai x8 E⟩) (fun hHeld=>?_);clear hK K;try simp only[ck]
   refine fA 1 fun K hK=>?_;go_simp;refine(IY.out _ (after J3.out.low E)).mono ?_;rintro r wa⟨⟨B1,m1,B2,m2,rfl,hpa,hra⟩,d⟩;obtain⟨oC,oD⟩:=aL hpa hra;try have HD:=ae (HD.out.below d HD.out.lt)
   have E:=after E d;clear hpa hra d;refine hK.out _ _ (⟨ai p0 E,ai p1 E,ai p2 E,ai p3 E,ai x0 E,ai x1 E,ai x2 E,ai x3 E,ai x4 E,ai x5 E,ai x6 E,ai x7 E,ai x8 E⟩) (fun hHeld=>?_);clear hK K;try simp only[ck]
   refine fA 3 fun K hK=>?_;go_simp;refine(OO.out _ _ _ _ _ _ (after J3.out.low E) oC.out oD.out (HXr.out.below E)).mono ?_;rintro r wd⟨⟨A7,c7,A8,c8,rfl,hpb,hrb⟩,d⟩;obtain⟨rW,uw⟩:=aL hpb hrb;try have HD:=ae (HD.out.below d HD.out.lt)
   have E:=after E d;clear hpb hrb d oC oD;try have z:=fun i=>HD.out.frozen i
   try have m0:=HD.out.cell 0
   try have m1:=HD.out.cell 1
   try have m2:=HD.out.cell 2
   try have m3:=HD.out.cell 3
   try simp at m0 m1 m2 m3
   refine hK.out _ _ (⟨ai p0 E,ai p1 E,ai p2 E,ai p3 E,ai x0 E,ai x1 E,ai x2 E,ai x3 E,ai x4 E,ai x5 E,ai x6 E,ai x7 E,ai x8 E⟩) (fun hHeld=>?_);clear hK K;try simp only[ck]
   refine aY 4 ?_
   refine aY 5 ?_
   refine aY 6 ?_
   refine fA 8 fun K hK=>?_;go_simp;first
    |(have:=H1;have F:=ae (za (m:=⟨vb,ip,eA,tb⟩) Eo rW.out uw.out);simp only at F)
    |(have F:=ae (zb (m:=⟨vb,ip,eA,tb⟩) E HD.out Hz.out rW.out uw.out OT.out);simp only at F)
   refine hK.out _ _ (⟨ai p0 F.out.low,ai p1 F.out.low,ai p2 F.out.low,ai p3 F.out.low,ai x0 F.out.low,ai x1 F.out.low,ai x2 F.out.low,ai x3 F.out.low,ai x4 F.out.low,ai x5 F.out.low,ai x6 F.out.low,ai x7 F.out.low,ai x8 F.out.low⟩) (fun hHeld=>?_);clear hK K;try simp only[ck]
   refine aY 9 ?_
   refine lN ?_;clear HWk IY OO N7 HAt OR EF OT SJ YE HXr;go_wp2_with fail
   go_meet;exact⟨_,_,_,_,_,rfl,rfl,F⟩
 case rest=>
 obtain⟨M,A7,c7,A8,c8,rfl,rfl,hM⟩:=hcut;obtain⟨w8,rfl⟩:=bw (wc:World);obtain⟨J4,HB4⟩:=aL (J3.out.below hM.out.low) (HB3.out.below hM.out.low);have HC:=ae (N7.out _ _ _ J4.out.low hM.out.pr hM.out.ry);clear J3 HB3 HXr IY OO OT N7 p0 p1 p2 p3 x0 x1 x2 x3 x4 x5 x6 x7 x8;have x0:=hM.out.blk.cell 0;have x1:=hM.out.blk.cell 1;have x2:=hM.out.blk.cell 2;have x3:=hM.out.blk.cell 3;simp at x0 x1 x2 x3;have q0:=J4.out.pd.cell 0;have q1:=J4.out.pd.cell 1;have q2:=J4.out.pd.cell 2;have q3:=J4.out.pd.cell 3;simp at q0 q1 q2 q3;clear hM;go_wp2_with(go_at_call 12;refine HC.out.mono ?_;rintro r w9⟨rfl,d9⟩;obtain⟨J5,nZ⟩:=aL (J4.out.below d9) (HB4.out.below d9);clear d9)
 clear J4 HB4 HC x0 x1 x2 x3 q0 q1 q2 q3;obtain⟨w9,rfl⟩:=bw (w9:World);go_loopw [13] (fun v13 wr=>∃k:Nat,k≤n1∧v13=.int .i64 k∧ag (MmI w P Q #[.int .u64 va,.slice kP gV ca1,.slice kB iq ca2,.string ta] #[.int .u64 vb,.slice uk qO cb1,.slice rz j6 cb2,.string tb] wr)∧ag (Iw w4 ⟨db,dv,zY,BK,dR,L9,dP,dt,dh⟩ D (.slice C1 n1 k1) (.slice C2 n2 k2) (.slice C3 n3 k3) wr)) (fun v13 _=>n1-(intOf v13).toNat)
 case atStart=>exact⟨0,Nat.zero_le _,rfl,J5,nZ⟩
 case round=>
  obtain⟨k,hk,rfl,BL,HDw⟩:=hrel;clear J5 nZ;obtain⟨wo,rfl⟩:=bw (wr:World);have hnb:=HSl.out;by_cases hlt:k<n1
  case neg=>
   obtain rfl:k=n1:=by omega
   have hdb:=HDw.out.blk;unfold eT at hdb;have u2:=BL.out.pm.cell 2;have u3:=BL.out.pm.cell 3;have v2:=BL.out.pd.cell 2;have v3:=BL.out.pd.cell 3;have z2:=hdb.cell 2;have z4:=hdb.cell 4;have z6:=hdb.cell 6;simp at u2 u3 v2 v3 z2 z4 z6;rw[SJ.out.1]at z6;rw[SJ.out.2]at z4;have hsr:=OR.out;generalize decide (eZ=eA)=BR at hsr z4;have OR:=ae hsr;clear hsr hdb SJ YE HAt EF HDw;go_upto_region 19 with fail
   have E:=(aI wo.heap.size wo).drew;cases hT:(ta.toList==tb.toList)with
   |false=>
    rw[hT]at z6;simp only[ah9,ahV]at z6;cases BR with
    |false=>
     simp only[ah9,ahV]at z4;refine wp_region_held_drew (S:=(fun u=>u.cell? ⟨D,6,none⟩=some (.bool true)∧u.cell? ⟨P,3,none⟩=some (.string ta)∧u.cell? ⟨Q,3,none⟩=some (.string tb)∧u.cell? ⟨D,4,none⟩=some (.bool true)∧u.cell? ⟨P,2,none⟩=some (.slice kB iq ca2)∧u.cell? ⟨Q,2,none⟩=some (.slice rz j6 cb2))) bo (⟨z6,u3,v3,z4,u2,v2⟩) (fun hHeld=>?_);refine aY 0 ?_
     refine aY 1 ?_
     refine aY 2 ?_
     refine aY 3 ?_
     refine aY 4 ?_
     refine aY 5 ?_
     refine aY 6 ?_
     refine aY 7 ?_
     refine aY 8 ?_
     refine aY 9 ?_
     refine aY 10 ?_
     refine aY 11 ?_
     refine aY 12 ?_
     refine aY 13 ?_
     refine aY 14 ?_
     refine fA 15 fun K hK=>?_;go_simp;refine(OR.out _ (after BL.out.low E)).mono ?_;rintro r w19⟨rfl,d⟩;have E:=after E d;clear d;refine hK.out _ _ (⟨ai z6 E,ai u3 E,ai v3 E,ai z4 E,ai u2 E,ai v2 E⟩) (fun hHeld=>?_);clear hK K;try simp only[ck]
     refine aY 16 ?_
     refine aY 17 ?_
     refine aY 18 ?_
     refine aY 19 ?_
     refine fA 20 fun K hK=>?_;go_simp;refine(HWk.out _ (after BL.out.low E)).mono ?_;rintro r Nc⟨rfl,d⟩;have E:=after E d;clear d;refine hK.out _ _ (⟨ai z6 E,ai u3 E,ai v3 E,ai z4 E,ai u2 E,ai v2 E⟩) (fun hHeld=>?_);clear hK K;try simp only[ck]
     refine aY 21 ?_
     refine aY 22 ?_
     refine lN ?_;go_wp2_with fail
     go_ret;exact⟨rfl,after BL.out.low E⟩
    |true=>
     simp only[ah9,ahV]at z4;refine wp_region_held_drew (S:=(fun u=>u.cell? ⟨D,6,none⟩=some (.bool true)∧u.cell? ⟨P,3,none⟩=some (.string ta)∧u.cell? ⟨Q,3,none⟩=some (.string tb)∧u.cell? ⟨D,4,none⟩=some (.bool false)∧u.cell? ⟨P,2,none⟩=some (.slice kB iq ca2)∧u.cell? ⟨Q,2,none⟩=some (.slice rz j6 cb2))) bo (⟨z6,u3,v3,z4,u2,v2⟩) (fun hHeld=>?_);refine aY 0 ?_
     refine aY 1 ?_
     refine aY 2 ?_
     refine aY 3 ?_
     refine aY 4 ?_
     refine aY 5 ?_
     refine aY 6 ?_
     refine aY 7 ?_
     refine aY 8 ?_
     refine aY 9 ?_
     refine aY 10 ?_
     refine aY 11 ?_
     refine aY 12 ?_
     refine aY 13 ?_
     refine aY 14 ?_
     refine fA 15 fun K hK=>?_;go_simp;refine(OR.out _ (after BL.out.low E)).mono ?_;rintro r w19⟨rfl,d⟩;have E:=after E d;clear d;refine hK.out _ _ (⟨ai z6 E,ai u3 E,ai v3 E,ai z4 E,ai u2 E,ai v2 E⟩) (fun hHeld=>?_);clear hK K;try simp only[ck]
     refine aY 16 ?_
     refine aY 17 ?_
     refine aY 18 ?_
     refine aY 19 ?_
     refine fA 20 fun K hK=>?_;go_simp;refine(HWk.out _ (after BL.out.low E)).mono ?_;rintro r Nc⟨rfl,d⟩;have E:=after E d;clear d;refine hK.out _ _ (⟨ai z6 E,ai u3 E,ai v3 E,ai z4 E,ai u2 E,ai v2 E⟩) (fun hHeld=>?_);clear hK K;try simp only[ck]
     refine aY 21 ?_
     refine aY 22 ?_
     refine lN ?_;go_wp2_with fail
     go_ret;exact⟨rfl,after BL.out.low E⟩
   |true=>
    rw[hT]at z6;simp only[ah9,ahV]at z6;cases BR with
    |false=>
     simp only[ah9,ahV]at z4;refine wp_region_held_drew (S:=(fun u=>u.cell? ⟨D,6,none⟩=some (.bool false)∧u.cell? ⟨P,3,none⟩=some (.string ta)∧u.cell? ⟨Q,3,none⟩=some (.string tb)∧u.cell? ⟨D,4,none⟩=some (.bool true)∧u.cell? ⟨P,2,none⟩=some (.slice kB iq ca2)∧u.cell? ⟨Q,2,none⟩=some (.slice rz j6 cb2))) bo (⟨z6,u3,v3,z4,u2,v2⟩) (fun hHeld=>?_);refine aY 0 ?_
     refine aY 1 ?_
     refine aY 2 ?_
     refine aY 3 ?_
     refine aY 4 ?_
     refine aY 5 ?_
     refine aY 6 ?_
     refine aY 7 ?_
     refine aY 8 ?_
     refine aY 9 ?_
     refine aY 10 ?_
     refine aY 11 ?_
     refine aY 12 ?_
     refine aY 13 ?_
     refine aY 14 ?_
     refine fA 15 fun K hK=>?_;go_simp;refine(OR.out _ (after BL.out.low E)).mono ?_;rintro r w19⟨rfl,d⟩;have E:=after E d;clear d;refine hK.out _ _ (⟨ai z6 E,ai u3 E,ai v3 E,ai z4 E,ai u2 E,ai v2 E⟩) (fun hHeld=>?_);clear hK K;try simp only[ck]
     refine aY 16 ?_
     refine aY 17 ?_
     refine aY 18 ?_
     refine aY 19 ?_
     refine fA 20 fun K hK=>?_;go_simp;refine(HWk.out _ (after BL.out.low E)).mono ?_;rintro r Nc⟨rfl,d⟩;have E:=after E d;clear d;refine hK.out _ _ (⟨ai z6 E,ai u3 E,ai v3 E,ai z4 E,ai u2 E,ai v2 E⟩) (fun hHeld=>?_);clear hK K;try simp only[ck]
     refine aY 21 ?_
     refine aY 22 ?_
     refine lN ?_;go_wp2_with fail
     go_ret;exact⟨rfl,after BL.out.low E⟩
    |true=>
     simp only[ah9,ahV]at z4;refine wp_region_held_drew (S:=(fun u=>u.cell? ⟨D,6,none⟩=some (.bool false)∧u.cell? ⟨P,3,none⟩=some (.string ta)∧u.cell? ⟨Q,3,none⟩=some (.string tb)∧u.cell? ⟨D,4,none⟩=some (.bool false)∧u.cell? ⟨P,2,none⟩=some (.slice kB iq ca2)∧u.cell? ⟨Q,2,none⟩=some (.slice rz j6 cb2))) bo (⟨z6,u3,v3,z4,u2,v2⟩) (fun hHeld=>?_);refine aY 0 ?_
     refine aY 1 ?_
     refine aY 2 ?_
     refine aY 3 ?_
     refine aY 4 ?_
     refine aY 5 ?_
     refine aY 6 ?_
     refine aY 7 ?_
     refine aY 8 ?_
     refine aY 9 ?_
     refine aY 10 ?_
     refine aY 11 ?_
     refine aY 12 ?_
     refine aY 13 ?_
     refine aY 14 ?_
     refine fA 15 fun K hK=>?_;go_simp;refine(OR.out _ (after BL.out.low E)).mono ?_;rintro r w19⟨rfl,d⟩;have E:=after E d;clear d;refine hK.out _ _ (⟨ai z6 E,ai u3 E,ai v3 E,ai z4 E,ai u2 E,ai v2 E⟩) (fun hHeld=>?_);clear hK K;try simp only[ck]
     refine aY 16 ?_
     refine aY 17 ?_
     refine aY 18 ?_
     refine aY 19 ?_
     refine fA 20 fun K hK=>?_;go_simp;refine(HWk.out _ (after BL.out.low E)).mono ?_;rintro r Nc⟨rfl,d⟩;have E:=after E d;clear d;refine hK.out _ _ (⟨ai z6 E,ai u3 E,ai v3 E,ai z4 E,ai u2 E,ai v2 E⟩) (fun hHeld=>?_);clear hK K;try simp only[ck]
     refine aY 21 ?_
     refine aY 22 ?_
     refine lN ?_;go_wp2_with fail
     go_ret;exact⟨rfl,after BL.out.low E⟩
  case pos=>
  obtain⟨g,o,rfl,hrow⟩:=aaK HDw.out.rd.aM aR;obtain⟨pd,hpd⟩:∃p,zY[k]? =some p:=⟨_,af (by have:=Zq.is;omega)⟩;obtain⟨A1,c1,A2,c2,A3,c3,hmD,csD⟩:=hrow k pd hpd;have HpM:=ae (List.mem_of_getElem? hpd);clear hrow hpd;have hdb:=HDw.out.blk;unfold eT at hdb;have s1:=BL.out.pm.cell 1;have s2:=hdb.cell 2;simp at s1 s2;have s3:=csD.z0;obtain⟨HmD,HcD⟩:=aL hmD csD;clear hdb hmD csD;obtain⟨key1,bD,b8,ew,dr,gU,bA,eJ⟩:=pd;simp only at s3 HmD;go_upto_region 16 with fail
  have E:=(aI wo.heap.size wo).drew;refine wp_region_held_drew (S:=(fun u=>u.cell? ⟨P,1,none⟩=some (.slice kP gV ca1)∧u.cell? ⟨D,2,none⟩=some (.slice (some ⟨g,o,none⟩) n1 k1)∧u.cell? ⟨g,o+k*8,none⟩=some (.string key1))) bo (⟨s1,s2,s3⟩) (fun hHeld=>?_);refine aY 0 ?_
  refine aY 1 ?_
  refine aY 2 ?_
  refine aY 3 ?_
  refine aY 4 ?_
  refine aY 5 ?_
  refine aY 6 ?_
  refine aY 7 ?_
  refine fA 8 fun K hK=>?_;go_simp;refine(HAt.out _ key1 (after BL.out.low E)).mono ?_;rintro r wt⟨⟨z,rfl,hz⟩,d⟩;have HZ:=ae hz;have E:=after E d;clear d hz;refine hK.out _ _ (⟨ai s1 E,ai s2 E,ai s3 E⟩) (fun hHeld=>?_);clear hK K;try simp only[ck]
  refine aY 9 ?_
  refine lN ?_;obtain⟨HIt,HDt,HmE,HcE⟩:=cU (BL.out.below E) (HDw.out.below E) (HmD.out.below E) (HcD.out.below E);have s1:=ai s1 E;have s2:=ai s2 E;clear BL HDw HmD HcD E s3;obtain⟨wt,rfl⟩:=bw (wt:World);rcases HZ.out with⟨rfl,-⟩|⟨i2,hi2,rfl,hkey⟩
  ·clear HZ;go_upto_region 17 with fail
   have E:=(aI wt.heap.size wt).drew;refine wp_region_held_drew (S:=(fun u=>u.cell? ⟨P,1,none⟩=some (.slice kP gV ca1))) bo (s1) (fun hHeld=>?_);refine aY 0 ?_
   refine aY 1 ?_
   refine aY 2 ?_
   refine tj 3 ?_
   refine tj 4 ?_
   refine tj 5 ?_
   refine tj 6 ?_
   refine tj 7 ?_
   refine tj 8 ?_
   refine tj 9 ?_
   refine tj 10 ?_
   refine tj 11 ?_
   refine tj 12 ?_
   refine tj 13 ?_
   refine aY 14 ?_
   refine lN ?_;obtain⟨HIu,HDu⟩:=aL (HIt.out.below E) (HDt.out.below E);go_wp2_with fail
   go_roundw
   case rel=>exact⟨k+1,by omega,by go_num,HIu,HDu⟩
   case measure=>simp[intOf];omega
  ·obtain⟨g2,o2,rfl,hrow2⟩:=YE.out (by have:=jL.is;omega);obtain⟨A4,c4,A5,c5,A6,c6,hmA,csA⟩:=hrow2 i2 _ (af hi2);have hi3:i2<gV:=by have:=jL.is;omega
   have hz0:(0:Int)≤(i2:Int):=by omega
   have hcall:=fun u(hu:aW wt u)=>EF.out u _ _ (after HIt.out.low hu) (hmA.below (after HIt.out.low hu)) (HmE.out.below hu) (List.getElem_mem hi2) HpM.out hkey
   replace csA:=csA.below HIt.out.low
   clear hrow2 hmA HZ hkey HmE;unfold bS.vals at hcall;simp only at hcall;generalize fu[i2]=pA at hcall csA;obtain⟨key2,bB,cf,du,cH,iP,bJ,dw⟩:=pA;obtain⟨a0,a1,a2,a3,a4,a5,a6,a7⟩:=csA;obtain⟨b0,b1,b2,b3,b4,b5,b6,b7⟩:=HcE.out;simp only at hcall a0 a1 a2 a3 a4 a5 a6 a7 b0 b1 b2 b3 b4 b5 b6 b7;generalize ew.length=l11 at*;generalize dr.length=l12 at*;generalize eJ.length=l13 at*;generalize du.length=l21 at*;generalize cH.length=l22 at*;generalize dw.length=l23 at*;have bG:=ae hcall;clear hcall HcE hi2;go_upto_region 17 with fail
   have E:=(aI wt.heap.size wt).drew;refine wp_region_held_drew (S:=(fun u=>u.cell? ⟨P,1,none⟩=some (.slice (some ⟨g2,o2,none⟩) gV ca1)∧u.cell? ⟨D,2,none⟩=some (.slice (some ⟨g,o,none⟩) n1 k1)∧u.cell? ⟨g2,o2+i2*8,none⟩=some (.string key2)∧u.cell? ⟨g2,o2+i2*8+1,none⟩=some (.string bB)∧u.cell? ⟨g2,o2+i2*8+2,none⟩=some (.string cf)∧u.cell? ⟨g2,o2+i2*8+3,none⟩=some (.slice A4 l21 c4)∧u.cell? ⟨g2,o2+i2*8+4,none⟩=some (.slice A5 l22 c5)∧u.cell? ⟨g2,o2+i2*8+5,none⟩=some (.int .u64 iP)∧u.cell? ⟨g2,o2+i2*8+6,none⟩=some (.int .u8 bJ)∧u.cell? ⟨g2,o2+i2*8+7,none⟩=some (.slice A6 l23 c6)∧u.cell? ⟨g,o+k*8,none⟩=some (.string key1)∧u.cell? ⟨g,o+k*8+1,none⟩=some (.string bD)∧u.cell? ⟨g,o+k*8+2,none⟩=some (.string b8)∧u.cell? ⟨g,o+k*8+3,none⟩=some (.slice A1 l11 c1)∧u.cell? ⟨g,o+k*8+4,none⟩=some (.slice A2 l12 c2)∧u.cell? ⟨g,o+k*8+5,none⟩=some (.int .u64 gU)∧u.cell? ⟨g,o+k*8+6,none⟩=some (.int .u8 bA)∧u.cell? ⟨g,o+k*8+7,none⟩=some (.slice A3 l13 c3))) bo (⟨s1,s2,a0,a1,a2,a3,a4,a5,a6,a7,b0,b1,b2,b3,b4,b5,b6,b7⟩) (fun hHeld=>?_);refine aY 0 ?_
   refine aY 1 ?_
   refine aY 2 ?_
   refine aY 3 ?_
   refine aY 4 ?_
   refine aY 5 ?_
   refine aY 6 ?_
   refine aY 7 ?_
   refine aY 8 ?_
   refine aY 9 ?_
   refine aY 10 ?_
   refine aY 11 ?_
   refine aY 12 ?_
   refine fA 13 fun K hK=>?_;go_simp;refine(bG.out _ E).mono ?_;rintro r wp⟨rfl,d⟩;have E:=after E d;clear d;refine hK.out _ _ (⟨ai s1 E,ai s2 E,ai a0 E,ai a1 E,ai a2 E,ai a3 E,ai a4 E,ai a5 E,ai a6 E,ai a7 E,ai b0 E,ai b1 E,ai b2 E,ai b3 E,ai b4 E,ai b5 E,ai b6 E,ai b7 E⟩) (fun hHeld=>?_);clear hK K;try simp only[ck]
   refine aY 14 ?_
   refine lN ?_;obtain⟨HIu,HDu⟩:=aL (HIt.out.below E) (HDt.out.below E);clear HIt HDt s1 s2 a0 a1 a2 a3 a4 a5 a6 a7 b0 b1 b2 b3 b4 b5 b6 b7 bG E;go_wp2_with fail
   go_roundw
   case rel=>exact⟨k+1,by omega,by go_num,HIu,HDu⟩
   case measure=>simp[intOf];omega
end Go.Proofs.YtkjaajcpbldjoabGreatDoor
