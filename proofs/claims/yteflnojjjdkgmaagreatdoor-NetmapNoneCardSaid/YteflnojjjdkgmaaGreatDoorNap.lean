/- Joined out of: MkC NmB NmC NmD NmE. -/
import Derived.Test.YteflnojjjdkgmaaGreatDoorNao
set_option linter.unusedVariables false
set_option linter.unusedSimpArgs false
set_option maxHeartbeats 16000000
set_option maxRecDepth 100000
open Bool renaming true_and→bH
open Go.Lib renaming hid→ae
open Go.Proofs.Tryz renaming prog→ag,zeroValue3→aa7
open Go.Result renaming andThen_ok→mD
open Go.RowKit renaming Hid→af
open Go.RowKit.Below renaming refl→aG
open List renaming getElem?_eq_getElem→ah,length_map→ax,take_of_length_le→aT,getElem_mem→bB,append_nil→dY,take_zero→IM,mem_map_of_mem→aeE,map_cons→ae5,flatMap_cons→afr,take_add_one→afz
open Nat renaming le_refl→aw
namespace Go.Proofs.YteflnojjjdkgmaaGreatDoor
open Go.RowKit
open Go.ChangeMaps (setBlock)
section
variable{α:Type}[DecidableEq α]{P:Program}{T K E:TypeId}{enc:α→Value}{w:World}{m:Nat}
def cX(l:List α):List (α×Nat):=l.map fun x=>(x,1)
theorem vq{l:List α}{a:α}(h:a∉l):kK (cX l) a=none:=by
 unfold kK cX;rw[List.findIdx?_eq_none_iff];intro x hx;rw[decide_eq_false_iff_not];rintro rfl;obtain⟨y,hy,rfl⟩:=List.mem_map.1 hx;exact h hy
theorem Rb{l:List α}{a:α}(h:a∉l)(n:Nat):kK (cX l++[(a,n)]) a=some l.length:=by
 have hn:=vq h;unfold kK at hn⊢;rw[List.findIdx?_append,hn];simp[cX]
theorem Re{l:List α}{a:α}(h:a∈l):∃j,∃hj:j<l.length,l[j]'hj=a∧kK (cX l) a=some j:=by
 cases hi:kK (cX l) a with
 |none=>exact absurd rfl (MS hi (a,1) (List.mem_map.2 ⟨a,h,rfl⟩))
 |some j=>
  obtain⟨hj,e⟩:=rI hi;have hl:j<l.length:=by simpa[cX]using hj
  exact⟨j,hl,by simpa[cX]using e,rfl⟩
theorem GH{L:List (α×Nat)}{a:α}{j n:Nat}(hi:kK L a=some j)(hx:(L.map (·.2))[j]? =some n):xj L a=n:=by
 unfold xj;rw[hi];simp only[List.getD_eq_getElem?_getD,hx,Option.getD_some]
theorem Rf{l:List α}{a:α}(h:a∉l):xj (cX l) a=0:=by unfold xj;rw[vq h]
theorem Rh{l:List α}{a:α}(h:a∉l)(n:Nat):xj (cX l++[(a,n)]) a=n:=GH (Rb h n) (by simp[cX])
theorem zH{l:List α}{a:α}(h:a∈l):xj (cX l) a=1:=by
 obtain⟨j,hj,_,hi⟩:=Re h;exact GH hi (by simp[cX,hj])
omit [DecidableEq α]in
theorem Ri{l:List α}{a:α}(n:Nat):(cX l++[(a,n)]).set l.length (((cX l++[(a,n)])[l.length]'(by simp[cX])).1,1)=cX (l++[a]):=by
 have hl:(cX l).length=l.length:=by simp[cX]
 rw[List.set_append_right _ _ aM];simp[cX]
omit [DecidableEq α]in
theorem KM.aN{L:List (α×Nat)}(h:KM enc w m L)(L':List (α×Nat)):KM enc (setBlock w m (.map (fJ enc L').toArray L'.length)) m L':=by
 have hl:=h.lt;unfold KM;simp[setBlock,hl]
theorem jI(w:World)(m:Nat)(o:Obj):Keeps (fun x=>x=m) w (setBlock w m o):=(Keeps.refl (fun x=>x=m) w).setBlock (Or.inl rfl) o
theorem yf(ok:qy P K enc)(hT:P.underlying T=some (.map K E))(hz:∀w,(zeroValue E).run P w=.ok (.int .i64 0) w){l:List α}(h:KM enc w m (cX l)){a:α}(ha:a∉l):∃w1 w2:World,(Instr.lookup T (.map (some m)) (enc a) false).run P w=.ok (.int .i64 0) w∧(Instr.mapEntry T (.map (some m)) (enc a)).run P w=.ok (.tuple #[.int .i64 0,.int .i64 (l.length:Int)]) w1∧(Instr.lookup T (.map (some m)) (enc a) false).run P w1=.ok (.int .i64 0) w1∧Keeps (fun x=>x=m) w w1∧(Instr.entryStore T (.map (some m)) (.int .i64 (l.length:Int)) (.int .i64 1)).run P w1=.ok () w2∧Keeps (fun x=>x=m) w w2∧KM enc w2 m (cX (l++[a]))∧(Instr.lookup T (.map (some m)) (enc a) false).run P w2=.ok (.int .i64 1) w2:=by
 have hl:(cX l).length=l.length:=by simp[cX]
 have l0:=fP ok hT (hz w) h a;rw[Rf ha]at l0;have en:=xk ok hT (hz w) h (vq ha);rw[hl]at en;have k1:=h.aN (cX l++[(a,0)]);have l1:=fP ok hT (hz _) k1 a;rw[Rh ha]at l1;have st:=sQ (P:=P) (T:=T) k1 (j:=l.length) (by simp[cX]) 1;rw[Ri]at st;have k2:=k1.aN (cX (l++[a]));have l2:=fP ok hT (hz _) k2 a;rw[zH (by simp)]at l2;exact⟨_,_,l0,en,l1,jI _ _ _,st,(jI _ _ _).trans (jI _ _ _),k2,l2⟩
theorem yg(ok:qy P K enc)(hT:P.underlying T=some (.map K E))(hz:∀w,(zeroValue E).run P w=.ok (.int .i64 0) w){l:List α}(h:KM enc w m (cX l)){a:α}(ha:a∈l):∃(j:Nat)(w1 w2:World),(Instr.lookup T (.map (some m)) (enc a) false).run P w=.ok (.int .i64 1) w∧(Instr.mapEntry T (.map (some m)) (enc a)).run P w=.ok (.tuple #[.int .i64 1,.int .i64 j]) w1∧(Instr.lookup T (.map (some m)) (enc a) false).run P w1=.ok (.int .i64 1) w1∧Keeps (fun x=>x=m) w w1∧(Instr.entryStore T (.map (some m)) (.int .i64 j) (.int .i64 2)).run P w1=.ok () w2∧Keeps (fun x=>x=m) w w2∧(Instr.lookup T (.map (some m)) (enc a) false).run P w2=.ok (.int .i64 2) w2:=by
 obtain⟨j,hj,hja,hi⟩:=Re ha;have hl:(cX l).length=l.length:=by simp[cX]
 have l0:=fP ok hT (hz w) h a;rw[zH ha]at l0;have en:=xn ok hT h hi;rw[zH ha]at en;have k1:=h.aN (cX l);have l1:=fP ok hT (hz _) k1 a;rw[zH ha]at l1;have st:=sQ (P:=P) (T:=T) k1 (j:=j) (by rw[hl];exact hj) 2;have k2:=k1.aN ((cX l).set j ((((cX l)[j]'(by rw[hl];exact hj))).1,2));have l2:=fP ok hT (hz _) k2 a;rw[GH (n:=2) (j:=j) ?_ (by rw[List.map_set,List.getElem?_set_self (by rw[ax,hl];exact hj)])]at l2
 ·exact⟨j,_,_,l0,en,l1,jI _ _ _,st,(jI _ _ _).trans (jI _ _ _),l2⟩
 ·unfold kK at hi⊢;rw[List.findIdx?_eq_some_iff_getElem]at hi⊢;obtain⟨h1,h2,h3⟩:=hi;refine⟨by rw[List.length_set];exact h1,?_,fun i hij=>?_⟩
  ·rw[List.getElem_set_self];exact h2
  ·rw[List.getElem_set_ne aM];exact h3 i hij
end
attribute [local go_sem↓] Go.wp_at_zero Go.wp_at_succ
attribute [local go_sem] dB
theorem KM.below{α:Type}{enc:α→Value}{w w':World}{m:Nat}{L:List (α×Nat)}(h:KM enc w m L)(hb:Below w.heap.size w w'):KM enc w' m L:=(hb.block m h.lt).trans h
theorem KM.drew{α:Type}{enc:α→Value}{w:World}{m:Nat}{L:List (α×Nat)}(h:KM enc w m L):KM enc w.drew m L:=h
theorem KM.ne{α:Type}{enc:α→Value}{w:World}{m g:Nat}{L:List (α×Nat)}{t:TypeId}{cs:Array Value}(h:KM enc w m L)(hg:aD w g t cs):g≠m:=by
 rintro rfl;have:=h.symm.trans hg;cases this
theorem vv{α:Type}[DecidableEq α]{l:List α}{k:Nat}{x:α}(hx:l[k]? =some x)(h:(l.take k).Nodup):(l.take (k+1)).Nodup↔x∉l.take k:=by
 rw[afz,hx,Option.toList_some,List.nodup_append];constructor
 ·rintro⟨_,_,h3⟩hm;exact h3 _ hm _ (List.mem_singleton.2 rfl) rfl
 ·intro hn;refine⟨h,by simp,fun a ha b hb=>?_⟩;rw[List.mem_singleton]at hb;subst hb;rintro rfl;exact hn ha
theorem vw{α:Type}{l:List α}(h:l.Nodup)(k:Nat):(l.take k).Nodup:=(List.take_sublist k l).nodup h
theorem zI{w:World}(env:Env w){X:bN}(hX:gJ w X)(fit:sP X.p)(sz:j9 X.p):Calls ag 124 #[.agg X.vals.toArray] w (Got (.bool (kZ X.p)) w):=by
 have hlab:=fun u=>nT X.p.user (by have:=sz.user;omega) u
 have hma:=fun u(hu:Below w.heap.size w u)(a:Ad)(ok:a.Ok)=>l9 (env.below hu) a ok
 have hts:=fun u(hu:Below w.heap.size w u)=>zF (hX.tags.below hu) (by have:=sz.tl;omega) b8 166 #[] (enters_of Tryz.func166 bg rfl) fun W hW x hx=>nT x (by have:=sz.tags x hx;omega) W
 have htr:=fun u(hu:Below w.heap.size w u)=>Jm (hX.tags.below hu) (by have:=sz.tl;omega) qs 109 #[] (enters_of Tryz.func109 bg rfl) fun W hW x y=>vo x y W
 have has:=fun u(hu:Below w.heap.size w u)=>Q0 (hX.aJ.below hu) (by have:=sz.al;omega) Ad.may 131 #[] (enters_of Tryz.func131 bg rfl) fun W hW x hx=>l9 (env.below (after hu hW)) x (fit.aJ x hx)
 have har:=fun u(hu:Below w.heap.size w u)=>Q5 (hX.aJ.below hu) (by have:=sz.al;omega) ux 169 #[] (enters_of Tryz.func169 bg rfl) fun W hW x y=>OY x y W
 have acu:∀e∈X.p.ends,e.1.Ok:=fun e he=>(fit.ends e he).1
 have hEl:=sz.el;have hE:=hX.ends;obtain⟨R,hR⟩:∃r,r=kZ X.p:=⟨_,rfl⟩;rw[←hR];unfold kZ at hR;obtain⟨A1,c1,e1⟩:=hX.tags.shape;obtain⟨A2,c2,e2⟩:=hX.aJ.shape;obtain⟨A3,c3,e3⟩:=hX.ends.shape;obtain⟨⟨key,bh,user,tags,aJ,ex,aY,ends⟩,tv,av,ev⟩:=X;simp only at*;subst e1 e2 e3;unfold bN.vals;generalize b8 user=LU at hlab hR;generalize tags.all b8=LT at hts hR;generalize cw qs tags=RT at htr hR;generalize aJ.all Ad.may=AM at has hR;generalize cw ux aJ=RA at har hR;generalize tags.length=NT at*;generalize aJ.length=NA at*;obtain⟨NE,hNE⟩:∃n,n=ends.length:=⟨_,rfl⟩;rw[←hNE]at hR hE hEl⊢;obtain⟨Lh,Oh,HTs,HTr,HAs,HAr,adZ,HE,HNE,HR⟩:=aa9 hlab hma hts htr has har acu hE hNE hR;clear hlab hma hts htr has har acu hE hNE hR env hX fit sz;obtain⟨HB,HP⟩:=aI (boxed w (.cells #[.string key,.string bh,.string user,.slice A1 NT c1,.slice A2 NA c2,.int .u64 ex,.int .u8 aY,.slice A3 NE c3] 50)) (aD.new w 50 #[.string key,.string bh,.string user,.slice A1 NT c1,.slice A2 NA c2,.int .u64 ex,.int .u8 aY,.slice A3 NE c3]);go_enter Tryz.func124,Tryz.ntmps124;go_upto_region 1 with fail
 generalize w.alloc (.cells #[.string key,.string bh,.string user,.slice A1 NT c1,.slice A2 NA c2,.int .u64 ex,.int .u8 aY,.slice A3 NE c3] 50)=w1 at HB HP⊢;generalize hP:w.heap.size=P at HP⊢;obtain⟨p0,p1,p2,p3,p4,-,-,p7⟩:=cU HP;by_cases k1:key.size=32;rotate_left
 ·have q1:((key.size:Int) !=32)=true:=by simp;omega
  have dK:af (R=false):=ae (by rw[HR.out,decide_eq_false k1];simp);clear k1;go_wp2_with fail
  go_ret;exact⟨by rw[dK.out];rfl,HB.out⟩
 have q1:((key.size:Int) !=32)=false:=by simp;omega
 by_cases k2:bh.size=32;rotate_left
 ·have q2:((bh.size:Int) !=32)=true:=by simp;omega
  have dK:af (R=false):=ae (by rw[HR.out,decide_eq_false k2];simp);clear k1 k2;go_wp2_with fail
  go_ret;exact⟨by rw[dK.out];rfl,HB.out⟩
 have q2:((bh.size:Int) !=32)=false:=by simp;omega
 have HR1:=ae HR.out;rw[decide_eq_true k1,decide_eq_true k2,bH,bH]at HR1;clear HR k1 k2;cases LU with
 |false=>
  have dK:af (R=false):=ae (by rw[HR1.out];simp);go_wp2_with(go_at_call 166;(with_reducible refine(Lh.out _).mono ?_);rintro r w2⟨rfl,d2⟩)
  go_ret;exact⟨by rw[dK.out];rfl,after HB.out d2⟩
 |true=>
  have HR2:=ae (HR1.out.trans (by rw[bH]));clear HR1;go_upto_region 3 with(go_at_call 166;(with_reducible refine(Lh.out _).mono ?_);rintro r w2⟨rfl,d2⟩)
  have HB2:=aU HB d2;have HP2:=ae (HP.out.below d2 HP.out.lt);clear p0 p1 p2 p3 p4 p7 d2 HB HP q1 q2;obtain⟨-,-,-,p3,p4,-,-,p7⟩:=cU HP2;by_cases k1:NT≤8;rotate_left
  ·have q1:(8:Int)<(NT:Int):=by omega
   have q1':8<NT:=by omega
   have dK:af (R=false):=ae (by rw[HR2.out,decide_eq_false k1];simp);clear k1;go_wp2_with fail
   go_ret;exact⟨by rw[dK.out];rfl,HB2.out⟩
  have q1:¬(8:Int)<(NT:Int):=by omega
  have q1':¬8<NT:=by omega
  by_cases k2:1≤NA;rotate_left
  ·have q2:(NA:Int)<1:=by omega
   have dK:af (R=false):=ae (by rw[HR2.out,decide_eq_false k2];simp);obtain rfl:NA=0:=by omega
   clear k1 k2;go_wp2_with fail
   go_ret;exact⟨by rw[dK.out];rfl,HB2.out⟩
  have q2:¬(NA:Int)<1:=by omega
  by_cases k3:NA≤4;rotate_left
  ·have q3:(4:Int)<(NA:Int):=by omega
   have q3':4<NA:=by omega
   have dK:af (R=false):=ae (by rw[HR2.out,decide_eq_false k3];simp);clear k1 k2 k3;go_wp2_with fail
   go_ret;exact⟨by rw[dK.out];rfl,HB2.out⟩
  have q3:¬(4:Int)<(NA:Int):=by omega
  have q3':¬4<NA:=by omega
  by_cases k4:NE≤8;rotate_left
  ·have q4:(8:Int)<(NE:Int):=by omega
   have q4':8<NE:=by omega
   have dK:af (R=false):=ae (by rw[HR2.out,decide_eq_false k4];simp);clear k1 k2 k3 k4;go_wp2_with fail
   go_ret;exact⟨by rw[dK.out];rfl,HB2.out⟩
  have q4:¬(8:Int)<(NE:Int):=by omega
  have q4':¬8<NE:=by omega
  have HR3:=ae HR2.out;rw[decide_eq_true k1,decide_eq_true k2,decide_eq_true k3,decide_eq_true k4,bH,bH,bH,bH]at HR3;clear HR2 k1 k2 k3 k4;have hmm:= @run_makeMap ag;go_upto_region 6 with fail
  clear hmm;obtain⟨m,hm⟩:∃m,m=w2.heap.size:=⟨_,rfl⟩;have hM:KM sS (w2.alloc (.map #[] 0)) m (cX []):=by rw[hm];exact heap_alloc_new w2 _
  have hmw:w.heap.size≤m:=by rw[hm];exact HB2.out.size
  obtain⟨Hmw,HB3,fX⟩:=bj hmw (after HB2.out (boxed w2 (.map #[] 0))) (HP2.out.below (boxed w2 (.map #[] 0)) HP2.out.lt);obtain⟨HPm,HM⟩:=aI (hM.ne fX.out) hM;rw[←hm];clear hM hmw p3 p4 p7 HB2 HP2 q1 q1' q2 q3 q3' q4 q4';generalize w2.alloc (.map #[] 0)=w3 at HB3 fX HM⊢;clear hm;obtain⟨-,-,-,p3,p4,-,-,p7⟩:=cU fX;go_upto_region 7 with fail
  go_loopw [48] (fun v48 wr=>∃k:Nat,k≤NE∧v48=.int .i64 k∧af (KM sS wr m (cX (ends.take k)))∧af (Keeps (fun x=>x=m) w3 wr)∧af ((ends.take k).Nodup∧∀e∈ends.take k,e.1.may=true)) (fun v48 _=>NE-(intOf v48).toNat)
  case atStart=>exact⟨0,Nat.zero_le _,rfl,HM,ae (Keeps.refl _ _),ae ⟨by simp,fun e he=>by simp at he⟩⟩
  case round=>
   obtain⟨k,hk,rfl,hkm,hkk,hno⟩:=hrel;have hbw:Below w.heap.size w wr:=HB3.out.trans (hkk.out.below (fun x hx=>by subst hx;exact Hmw.out) HB3.out.size);have yi:=ae hbw;clear hbw;by_cases hlt:k<NE
   ·have hkl:k<ends.length:=by rw[←HNE.out];exact hlt
    have hx:ends[k]? =some ends[k]:=ah hkl;have hxo:=adZ.out _ (bB hkl);have hxm:ends[k]∈ends:=bB hkl;obtain⟨_,q,o,hA,hcell⟩:=HE.out.gm k hlt;rw[show kt ends=ends.flatMap cL from rfl]at hcell;simp only at hcell;rw[dr cL 4 eF ends k _ hx]at hcell;subst hA;generalize ends[k]=x at hx hxo hcell hxm;have hma:=fun u(hu:Below w.heap.size w u)=>Oh.out u hu x.1 hxo
    have d0:=ak (hcell 0 _ rfl) yi.out;have d1:=ak (hcell 1 _ rfl) yi.out;have d2:=ak (hcell 2 _ rfl) yi.out;have d3:=ak (hcell 3 _ rfl) yi.out;rw[Nat.add_zero]at d0;have hen:sS x=.agg #[.bool x.1.v6,.int .u64 (x.1.hi:Int),.int .u64 (x.1.lo:Int),.int .u16 (x.2:Int)]:=rfl;obtain⟨Hx,Hxm⟩:=aI hx hxm;obtain⟨xm,Rj⟩:∃b,b=x.1.may:=⟨_,rfl⟩;rw[←Rj]at hma;obtain⟨Rk,Hma⟩:=aI Rj hma;clear hcell hx hxo hxm hma Rj hkl;go_upto_region 9 with fail
    obtain⟨⟨xv,xh,xl⟩,xp⟩:=x;simp only at hen Hma Rk;have hma:=Hma.out;unfold Ad.cells at hma;simp only at hma;have Hma:=ae hma;clear hma;have hb4:=boxed wr (.cells #[.bool xv,.int .u64 xh,.int .u64 xl,.int .u16 xp] 82);obtain⟨GI,Dn,yj⟩:=bj (aD.new wr 82 #[.bool xv,.int .u64 xh,.int .u64 xl,.int .u16 xp]) (hkm.out.below hb4) (hkk.out.than hb4);have HB4:=aU yi hb4;have mR:=ae (Dn.out.ne GI.out);simp only;clear d0 d1 d2 d3 hb4 hkm hkk yi;generalize wr.alloc (.cells #[.bool xv,.int .u64 xh,.int .u64 xl,.int .u16 xp] 82)=w4 at GI Dn yj HB4⊢;generalize wr.heap.size=X at GI mR⊢;obtain⟨x0,x1,x2,x3⟩:=dy GI;by_cases hin:((⟨xv,xh,xl⟩,xp):En)∈ends.take k
    ·have dK:af (R=false):=ae (by
      have hnd:¬ends.Nodup:=fun h=>((vv Hx.out (vw h k)).1 (vw h (k+1))) hin
      rw[HR3.out,decide_eq_false hnd];simp)
     obtain⟨j,w5,w6,l0,en,l1,hk5,st,hk6,l2⟩:=yg (P:=ag) YI Tryz.underlying222 aa7 Dn.out.drew hin;rw[hen]at l0 en l1 l2;have jH:=ae ((Below.oU HB4.out).trans (hk6.below (fun x hx=>by subst hx;exact Hmw.out) HB4.out.size));have y0:=bu (w:=w4.drew) x0 hk5 mR.out;have y1:=bu (w:=w4.drew) x1 hk5 mR.out;have y2:=bu (w:=w4.drew) x2 hk5 mR.out;have y3:=bu (w:=w4.drew) x3 hk5 mR.out;have z0:=bu (w:=w4.drew) x0 hk6 mR.out;have z1:=bu (w:=w4.drew) x1 hk6 mR.out;have z2:=bu (w:=w4.drew) x2 hk6 mR.out;have z3:=bu (w:=w4.drew) x3 hk6 mR.out;clear hin hk5 hk6;refine dt 6 (fun w'=>(Instr.lookup 222 (.map (some m)) (.agg #[.bool xv,.int .u64 xh,.int .u64 xl,.int .u16 xp]) false).run ag w'=.ok (.int .i64 1) w'∧w'.cell? ⟨X,0,none⟩=some (.bool xv)∧w'.cell? ⟨X,1,none⟩=some (.int .u64 xh)∧w'.cell? ⟨X,2,none⟩=some (.int .u64 xl)∧w'.cell? ⟨X,3,none⟩=some (.int .u16 xp)) bg (⟨l0,x0,x1,x2,x3⟩) (fun hHeld=>?_);refine dm 0 ?_
     refine dm 1 ?_
     refine dm 2 ?_
     refine dm 3 ?_
     refine lI 4 fun K hK=>?_;go_simp;refine hK.out _ _ (fun _=>⟨l1,y0,y1,y2,y3⟩) (fun hHeld=>?_);have hHeld:=hHeld aF;clear hK K;try simp only[cq]
     refine dm 5 ?_
     refine lI 6 fun K hK=>?_;go_simp;rw[show IntKind.i64.wrap 2=2 by decide,st,mD];refine hK.out _ _ (fun h=>absurd rfl h) (fun _=>?_);clear hK K hHeld;try simp only[cq]
     refine J9 ?_;clear x0 x1 x2 x3 y0 y1 y2 y3 l0 l1 en st;go_wp2_with fail
     go_ret;exact⟨by rw[dK.out];rfl,jH.out⟩
    ·obtain⟨w5,w6,l0,en,l1,hk5,st,hk6,km6,l2⟩:=yf (P:=ag) YI Tryz.underlying222 aa7 Dn.out.drew hin;rw[hen]at l0 en l1 l2;have htk:ends.take (k+1)=ends.take k++[((⟨xv,xh,xl⟩,xp):En)]:=by rw[afz,Hx.out];rfl
     rw[←htk]at km6;have jH:=ae ((Below.oU HB4.out).trans (hk6.below (fun x hx=>by subst hx;exact Hmw.out) HB4.out.size));obtain⟨ru,Ba,Htk,Hin⟩:=cH (yj.out.drew.trans hk6) km6 htk hin;have y0:=bu (w:=w4.drew) x0 hk5 mR.out;have y1:=bu (w:=w4.drew) x1 hk5 mR.out;have y2:=bu (w:=w4.drew) x2 hk5 mR.out;have y3:=bu (w:=w4.drew) x3 hk5 mR.out;have z0:=bu (w:=w4.drew) x0 hk6 mR.out;have z1:=bu (w:=w4.drew) x1 hk6 mR.out;have z2:=bu (w:=w4.drew) x2 hk6 mR.out;have z3:=bu (w:=w4.drew) x3 hk6 mR.out;generalize(ends.take k).length=J at en st;clear hin hk5 hk6 km6 htk;refine dt 6 (fun w'=>(Instr.lookup 222 (.map (some m)) (.agg #[.bool xv,.int .u64 xh,.int .u64 xl,.int .u16 xp]) false).run ag w'=.ok (.int .i64 0) w'∧w'.cell? ⟨X,0,none⟩=some (.bool xv)∧w'.cell? ⟨X,1,none⟩=some (.int .u64 xh)∧w'.cell? ⟨X,2,none⟩=some (.int .u64 xl)∧w'.cell? ⟨X,3,none⟩=some (.int .u16 xp)) bg (⟨l0,x0,x1,x2,x3⟩) (fun hHeld=>?_);refine dm 0 ?_
     refine dm 1 ?_
     refine dm 2 ?_
     refine dm 3 ?_
     refine lI 4 fun K hK=>?_;go_simp;refine hK.out _ _ (fun _=>⟨l1,y0,y1,y2,y3⟩) (fun hHeld=>?_);have hHeld:=hHeld aF;clear hK K;try simp only[cq]
     refine dm 5 ?_
     refine lI 6 fun K hK=>?_;go_simp;rw[show IntKind.i64.wrap 1=1 by decide,st,mD];refine hK.out _ _ (fun h=>absurd rfl h) (fun _=>?_);clear hK K hHeld;try simp only[cq]
     refine J9 ?_;clear x0 x1 x2 x3 y0 y1 y2 y3 l0 l1 en st;cases xm with
     |false=>
      have dK:af (R=false):=ae (by
       have hnm:(ends.all fun e=>e.1.may)=false:=by
        rw[List.all_eq_false];exact⟨_,Hxm.out,by rw[←Rk.out];decide⟩
       rw[HR3.out,hnm];simp)
      go_wp2_with(go_at_call 131;(with_reducible refine(Hma.out _ jH.out).mono ?_);rintro r w7⟨rfl,d7⟩)
      go_ret;exact⟨by rw[dK.out];rfl,after jH.out d7⟩
     |true=>
      go_wp2_with(go_at_call 131;(with_reducible refine(Hma.out _ jH.out).mono ?_);rintro r w7⟨rfl,d7⟩)
      go_roundw
      case rel=>
       refine⟨k+1,by omega,by go_num,ae (Ba.out.below d7),ae (ru.out.than d7),ae ⟨(vv Hx.out hno.out.1).2 Hin.out,fun e he=>?_⟩⟩;rw[Htk.out]at he;rcases List.mem_append.1 he with he|he
       ·exact hno.out.2 e he
       ·rw[List.mem_singleton]at he;subst he;exact Rk.out.symm
      case measure=>simp[intOf];omega
   ·obtain rfl:k=NE:=by omega
    have hall:ends.take k=ends:=aT (by rw[←HNE.out];exact aw _);have HR4:af (R=(LT&&RT&&AM&&RA)):=ae (by
     have h1:=hno.out.1;have h2:=hno.out.2;rw[hall]at h1 h2;have h3:(ends.all fun e=>e.1.may)=true:=List.all_eq_true.2 h2;rw[HR3.out,h3,decide_eq_true h1];simp)
    have z3:=bu p3 hkk.out HPm.out;have z4:=bu p4 hkk.out HPm.out;clear hall p3 p4 p7 hno hkm hkk;cases LT with
    |false=>
     have dK:af (R=false):=ae (by rw[HR4.out];simp);go_wp2_with(go_at_call 50;(with_reducible refine(HTs.out _ yi.out).mono ?_);rintro r w7⟨rfl,d7⟩)
     go_ret;exact⟨by rw[dK.out];rfl,after yi.out d7⟩
    |true=>
     cases RT with
     |false=>
      have dK:af (R=false):=ae (by rw[HR4.out];simp);go_wp2_with(first
       |(go_at_call 50;(with_reducible refine(HTs.out _ yi.out).mono ?_);rintro r w7⟨rfl,d7⟩;have y3:=ak z3 d7;have y4:=ak z4 d7)
       |(go_at_call 108;(with_reducible refine(HTr.out _ (after yi.out d7)).mono ?_);rintro r w8⟨rfl,d8⟩))
      go_ret;exact⟨by rw[dK.out];rfl,after (after yi.out d7) d8⟩
     |true=>
      cases AM with
      |false=>
       have dK:af (R=false):=ae (by rw[HR4.out];simp);go_wp2_with(first
        |(go_at_call 50;(with_reducible refine(HTs.out _ yi.out).mono ?_);rintro r w7⟨rfl,d7⟩;have y3:=ak z3 d7;have y4:=ak z4 d7)
        |(go_at_call 108;(with_reducible refine(HTr.out _ (after yi.out d7)).mono ?_);rintro r w8⟨rfl,d8⟩;have v4:=ak y4 d8)
        |(go_at_call 167;(with_reducible refine(HAs.out _ (after (after yi.out d7) d8)).mono ?_);rintro r w9⟨rfl,d9⟩))
       go_ret;exact⟨by rw[dK.out];rfl,after (after (after yi.out d7) d8) d9⟩
      |true=>
       have HRr:af (R=RA):=ae (by rw[HR4.out];simp);go_wp2_with(first
        |(go_at_call 50;(with_reducible refine(HTs.out _ yi.out).mono ?_);rintro r w7⟨rfl,d7⟩;have y3:=ak z3 d7;have y4:=ak z4 d7)
        |(go_at_call 108;(with_reducible refine(HTr.out _ (after yi.out d7)).mono ?_);rintro r w8⟨rfl,d8⟩;have v4:=ak y4 d8)
        |(go_at_call 167;(with_reducible refine(HAs.out _ (after (after yi.out d7) d8)).mono ?_);rintro r w9⟨rfl,d9⟩;have u4:=ak v4 d9)
        |(go_at_call 168;(with_reducible refine(HAr.out _ (after (after (after yi.out d7) d8) d9)).mono ?_);rintro r w10⟨rfl,d10⟩))
       go_ret;exact⟨by rw[HRr.out];rfl,after (after (after (after yi.out d7) d8) d9) d10⟩
theorem rising_map{α β:Type}(f:α→β)(lt:β→β→Bool):∀l:List α,cw lt (l.map f)=cw (fun x y=>lt (f x) (f y)) l
 |[]=>rfl
 |[_]=>rfl
 |x::y::r=>by
  have ih:=rising_map f lt (y::r);rw[ae5]at ih;rw[ae5,ae5,cw,cw,ih]
theorem oW{w:World}(env:Env w){v:Value}{l:List Pr}(h:dZ w v l)(hl:l.length≤4000000)(fit:∀p∈l,sP p)(sz:∀p∈l,j9 p):Calls ag 70 #[v] w (Got (.bool (ie l)) w):=by
 have ha:∀u,Below w.heap.size w u→Calls ag 73 #[v,.func (.func 124) #[] #[]] u (Got (.bool (l.all kZ)) u):=fun u hu=>by
  obtain⟨xs,rfl,hr,hx⟩:=h;rw[ax]at hl;rw[List.all_map];exact Q8 (hr.below hu) hl (kZ∘fun X=>X.p) _ _ (enters_of Tryz.func124 bg rfl) fun W hW X hX=>zI (env.below (after hu hW)) ((hx X hX).below (after hu hW)) (fit _ (aeE hX)) (sz _ (aeE hX))
 have hs:∀u,Below w.heap.size w u→Calls ag 125 #[v,.func (.func 126) #[] #[]] u (Got (.bool (cw ef l)) u):=fun u hu=>by
  obtain⟨xs,rfl,hr,hx⟩:=h;rw[ax]at hl;rw[rising_map];exact Q9 (hr.below hu) hl (fun X Y=>ef X.p Y.p) _ _ (enters_of Tryz.func126 bg rfl) fun W hW X Y=>Dk X.p.key Y.p.key _ _ _ _ _ _ _ _ _ _ _ _ _ _ W
 obtain⟨R,hR⟩:∃r,r=ie l:=⟨_,rfl⟩;rw[←hR];unfold ie at hR;obtain⟨A,cap,rfl⟩:=h.shape;generalize l.all kZ=AM at ha hR;generalize cw ef l=RA at hs hR;generalize l.length=N at*;obtain⟨HA,HS,HR⟩:=bj ha hs hR;clear ha hs hR h fit sz env;go_enter Tryz.func70,Tryz.ntmps70;by_cases k1:N≤64;rotate_left
 ·have q1:¬(N:Int)≤64:=by omega
  have dK:af (R=false):=ae (by rw[HR.out,decide_eq_false k1];simp);go_wp2_with fail
  go_ret;exact⟨by rw[dK.out];rfl,aG _ _⟩
 have q1:(N:Int)≤64:=by omega
 have HR1:=ae HR.out;rw[decide_eq_true k1,bH]at HR1;clear HR;cases AM with
 |false=>
  go_wp2_with(go_at_call 73;(with_reducible refine(HA.out _ (aG _ _)).mono ?_);rintro r w2⟨rfl,d2⟩)
  go_ret;exact⟨by rw[HR1.out];rfl,d2⟩
 |true=>
  go_wp2_with(first
   |(go_at_call 73;(with_reducible refine(HA.out _ (aG _ _)).mono ?_);rintro r w2⟨rfl,d2⟩)
   |(go_at_call 125;(with_reducible refine(HS.out _ d2).mono ?_);rintro r w3⟨rfl,d3⟩))
  go_ret;exact⟨by rw[HR1.out];rfl,after d2 d3⟩
theorem nA{w:World}(env:Env w){v:Value}{l:List Ry}(h:gQ w v l)(hl:l.length≤4000000)(fit:∀r∈l,Dj r):Calls ag 71 #[v] w (Got (.bool (iL l)) w):=by
 have ha:∀u,Below w.heap.size w u→Calls ag 129 #[v,.func (.func 130) #[] #[]] u (Got (.bool (l.all u9)) u):=fun u hu=>
  Q6 (aW.below h hu) hl u9 _ _ (enters_of Tryz.func130 bg rfl) fun W hW x hx=>Dm (env.below (after hu hW)) _ _ x.key x.fin.1 (fit x hx).2.1
 have hs:∀u,Below w.heap.size w u→Calls ag 127 #[v,.func (.func 128) #[] #[]] u (Got (.bool (cw (fun a b:Ry=>decide (a.id<b.id)) l)) u):=fun u hu=>
  Q7 (aW.below h hu) hl _ _ _ (enters_of Tryz.func128 bg rfl) fun W hW x y=>Gz x.id y.id _ _ _ _ _ _ _ _ _ _ W
 obtain⟨R,hR⟩:∃r,r=iL l:=⟨_,rfl⟩;rw[←hR];unfold iL at hR;obtain⟨A,cap,rfl⟩:=aW.shape h;generalize l.all u9=AM at ha hR;generalize cw (fun a b:Ry=>decide (a.id<b.id)) l=RA at hs hR;generalize l.length=N at*;obtain⟨HA,HS,HR⟩:=bj ha hs hR;clear ha hs hR h fit env;go_enter Tryz.func71,Tryz.ntmps71;by_cases k1:N≤8;rotate_left
 ·have q1:¬(N:Int)≤8:=by omega
  have dK:af (R=false):=ae (by rw[HR.out,decide_eq_false k1];simp);go_wp2_with fail
  go_ret;exact⟨by rw[dK.out];rfl,aG _ _⟩
 have q1:(N:Int)≤8:=by omega
 have HR1:=ae HR.out;rw[decide_eq_true k1,bH]at HR1;clear HR;cases RA with
 |false=>
  go_wp2_with(go_at_call 127;(with_reducible refine(HS.out _ (aG _ _)).mono ?_);rintro r w2⟨rfl,d2⟩)
  go_ret;exact⟨by rw[HR1.out];rfl,d2⟩
 |true=>
  go_wp2_with(first
   |(go_at_call 127;(with_reducible refine(HS.out _ (aG _ _)).mono ?_);rintro r w2⟨rfl,d2⟩)
   |(go_at_call 129;(with_reducible refine(HA.out _ d2).mono ?_);rintro r w3⟨rfl,d3⟩))
  go_ret;exact⟨by rw[HR1.out];rfl,after d2 d3⟩
theorem Rm{w:World}{m:Nat}{es:Array MapEntry}{n o:Nat}(h:w.heap[m]? =some (.map es n)):w.cell? ⟨m,o,none⟩=none:=by
 unfold World.cell?;simp[h]
theorem KM.oe{α:Type}{enc:α→Value}{w:World}{m g o:Nat}{L:List (α×Nat)}{v:Value}(h:KM enc w m L)(hc:w.cell? ⟨g,o,none⟩=some v):g≠m:=by
 rintro rfl;rw[Rm h]at hc;cases hc
theorem Dp{w:World}(x:Ry)(g:Nat)(n:Nat)(hg:w.cell? ⟨g,6,none⟩=some (.int .u8 n)):Calls ag 76 #[.agg (bJ x).toArray,.pointer (some ⟨g,0,none⟩)] w (Got (.bool (decide (x.id=n))) w):=by
 obtain⟨id,key,⟨⟨v,h,l⟩,p⟩⟩:=x;unfold bJ;simp only;rw[show decide (id=n)=((id:Int)==(n:Int)) by rw[Bool.eq_iff_iff,decide_eq_true_eq,beq_iff_eq];omega];have hb:=boxed w (.cells #[.int .u8 id,.string key,.bool v,.int .u64 h,.int .u64 l,.int .u16 p] 84);have HS:=ae (aD.new w 84 #[.int .u8 id,.string key,.bool v,.int .u64 h,.int .u64 l,.int .u16 p]);have g0:=ak hg hb;have HB:=ae hb;clear hg hb;go_enter Tryz.func76,Tryz.ntmps76;go_upto_region 1 with fail
 generalize w.alloc (.cells #[.int .u8 id,.string key,.bool v,.int .u64 h,.int .u64 l,.int .u16 p] 84)=w1 at HB HS g0⊢;generalize w.heap.size=G at HS⊢;have s0:=HS.out.cell 0;simp at s0;go_wp2_with fail
 go_ret;exact⟨rfl,HB.out⟩
def jP(rl:List Ry)(p:Pr):Bool:=decide (p.aY=0)||rl.any fun r=>decide (r.id=p.aY)
theorem Rn{w:World}{X:bN}(hX:gJ w X)(fit:sP X.p)(sz:j9 X.p){m sb mb:Nat}{ver pv pol:Value}{rv:Value}{rl:List Ry}(hr:gQ w rv rl)(hrl:rl.length≤4000000)(acc:List Ad)(hnd:acc.Nodup)(hm:KM sR w m (cX acc))(hs:w.cell? ⟨sb,0,none⟩=some (.map (some m)))(hM:aD w mb 33 #[ver,pv,rv,pol]):Calls ag 74 #[.agg X.vals.toArray,.pointer (some ⟨sb,0,none⟩),.pointer (some ⟨mb,0,none⟩)] w fun r w'=>r=.returned (.bool (decide (acc++X.p.aJ).Nodup&&jP rl X.p))∧Keeps (fun x=>x=m) w w'∧((decide (acc++X.p.aJ).Nodup&&jP rl X.p)=true→KM sR w' m (cX (acc++X.p.aJ))):=by
 have hco:=fun u(hu:Keeps (fun x=>x=m) w u)g(hg:u.cell? ⟨g,6,none⟩=some (.int .u8 (X.p.aY:Int)))(hrr:aW u rv rl.length 6 (fy rl))=>
  show Calls ag 75 #[rv,.func (.func 76) #[] #[.pointer (some ⟨g,0,none⟩)]] u (Got (.bool (rl.any fun r=>decide (r.id=X.p.aY))) u)from by
   rw[←LZ];obtain⟨A,cap,rfl⟩:=hrr.shape;refine Db hrl _ _ hrr.gm _ _ (enters_of Tryz.func76 bg rfl) fun k hk W hW=>?_
   have hxk:rl[k]? =some rl[k]:=ah hk;rw[show fy rl=rl.flatMap bJ from rfl];simp only[hxk];rw[dr bJ 6 cF rl k _ hxk];exact Dp _ g _ (ak hg hW)
 have hrk:∀u,Keeps (fun x=>x=m) w u→aW u rv rl.length 6 (fy rl):=fun u hu=>by
  obtain⟨A,cap,e,hlen,hc⟩:=hr;refine⟨A,cap,e,hlen,fun hp=>?_⟩;obtain⟨g,o,ha,hcc⟩:=hc hp;exact⟨g,o,ha,fun j v hv=>bu (hcc j v hv) hu (hm.oe (hcc j v hv))⟩
 have acv:=fit.aJ;have hAl:=sz.al;have hA:=hX.aJ;obtain⟨R,hR⟩:∃r,r=(decide (acc++X.p.aJ).Nodup&&jP rl X.p):=⟨_,rfl⟩;rw[←hR];unfold jP at hR;generalize(rl.any fun r=>decide (r.id=X.p.aY))=RO at hco hR;obtain⟨A1,c1,e1⟩:=hX.tags.shape;obtain⟨A2,c2,e2⟩:=hX.aJ.shape;obtain⟨A3,c3,e3⟩:=hX.ends.shape;obtain⟨Ar,cr,er⟩:=aW.shape hr;obtain⟨⟨key,bh,user,tags,aJ,ex,aY,ends⟩,tv,av,ev⟩:=X;simp only at*;subst e1 e2 e3 er;unfold bN.vals;simp only at*;generalize tags.length=NT at*;generalize ends.length=NE at*;generalize rl.length=NR at*;obtain⟨NA,hNA⟩:∃n,n=aJ.length:=⟨_,rfl⟩;rw[←hNA]at hA hAl⊢;have hb1:=boxed w (.cells #[.string key,.string bh,.string user,.slice A1 NT c1,.slice A2 NA c2,.int .u64 ex,.int .u8 aY,.slice A3 NE c3] 50);obtain⟨HP,QL,HRk,aeW,HA,UB,HR,HM,HW⟩:=Ox (aD.new w 50 #[.string key,.string bh,.string user,.slice A1 NT c1,.slice A2 NA c2,.int .u64 ex,.int .u8 aY,.slice A3 NE c3]) hco hrk acv hA hNA hR (hm.below hb1) hm;have s0:=ak hs hb1;obtain⟨HMb,HK,HND⟩:=bj (hM.below hb1 hM.lt) ((Keeps.refl (fun x=>x=m) w).than hb1) hnd;clear hco hrk acv hA hNA hR hm hs hM hb1 hnd hX fit sz hr;go_enter Tryz.func74,Tryz.ntmps74;go_upto_region 1 with fail
 generalize w.alloc (.cells #[.string key,.string bh,.string user,.slice A1 NT c1,.slice A2 NA c2,.int .u64 ex,.int .u8 aY,.slice A3 NE c3] 50)=w1 at HP HM s0 HMb HK⊢;generalize w.heap.size=P at HP⊢;obtain⟨HPm,ad0,Wu⟩:=bj (HM.out.ne HP.out) (HM.out.ne HMb.out) (HM.out.oe s0);have p4:=HP.out.cell 4;have p6:=HP.out.cell 6;have m2:=HMb.out.cell 2;simp at p4 p6 m2;go_upto_region 2 with fail
 go_loopw [10] (fun v10 wr=>∃k:Nat,k≤NA∧v10=.int .i64 k∧af (KM sR wr m (cX (acc++aJ.take k)))∧af (Keeps (fun x=>x=m) w1 wr)∧af ((acc++aJ.take k).Nodup)) (fun v10 _=>NA-(intOf v10).toNat)
 case atStart=>exact⟨0,Nat.zero_le _,rfl,ae (by rw[IM,dY];exact HM.out),ae (Keeps.refl _ _),ae (by rw[IM,dY];exact HND.out)⟩
 case round=>
  obtain⟨k,hk,rfl,hkm,hkk,hno⟩:=hrel;by_cases hlt:k<NA
  ·have hkl:k<aJ.length:=by rw[←UB.out];exact hlt
   have hx:aJ[k]? =some aJ[k]:=ah hkl;obtain⟨_,q,o,hA,hcell⟩:=HA.out.gm k hlt;rw[show cO aJ=aJ.flatMap (fun a:Ad=>a.cells.toList)from rfl]at hcell;simp only at hcell;rw[dr (fun a:Ad=>a.cells.toList) 3 (fun a:Ad=>rfl) aJ k _ hx]at hcell;subst hA;generalize aJ[k]=x at hx hcell;have hKw:=HK.out.trans hkk.out;have d0:=bu (hcell 0 _ rfl) hKw (HW.out.oe (hcell 0 _ rfl));have d1:=bu (hcell 1 _ rfl) hKw (HW.out.oe (hcell 1 _ rfl));have d2:=bu (hcell 2 _ rfl) hKw (HW.out.oe (hcell 2 _ rfl));rw[Nat.add_zero]at d0;have hen:sR x=.agg #[.bool x.v6,.int .u64 (x.hi:Int),.int .u64 (x.lo:Int)]:=rfl;obtain⟨Hx,HKw⟩:=aI hx hKw;clear hcell hx hkl hKw;go_upto_region 4 with fail
   obtain⟨xv,xh,xl⟩:=x;simp only at hen;have hb4:=boxed wr (.cells #[.bool xv,.int .u64 xh,.int .u64 xl] 54);obtain⟨GI,Dn,yj⟩:=bj (aD.new wr 54 #[.bool xv,.int .u64 xh,.int .u64 xl]) (hkm.out.below hb4) (hkk.out.than hb4);have mR:=ae (Dn.out.ne GI.out);simp only;clear d0 d1 d2 hb4 hkm hkk HKw;generalize wr.alloc (.cells #[.bool xv,.int .u64 xh,.int .u64 xl] 54)=w4 at GI Dn yj⊢;generalize wr.heap.size=X at GI mR⊢;obtain⟨x0,x1,x2⟩:=iE GI;have xs:=bu s0 yj.out Wu.out;have htk:acc++aJ.take (k+1)=(acc++aJ.take k)++[(⟨xv,xh,xl⟩:Ad)]:=by rw[afz,Hx.out,List.append_assoc];rfl
   by_cases hin:(⟨xv,xh,xl⟩:Ad)∈acc++aJ.take k
   ·have dK:af (R=false):=ae (by
     have hnd:¬(acc++aJ).Nodup:=fun h=>by
      have h2:(acc++aJ.take (k+1)).Nodup:=((List.Sublist.refl acc).append (List.take_sublist _ _)).nodup h;rw[htk,List.nodup_append]at h2;exact h2.2.2 _ hin _ (List.mem_singleton.2 rfl) rfl
     rw[HR.out,decide_eq_false hnd];simp)
    obtain⟨j,w5,w6,l0,en,l1,hk5,st,hk6,l2⟩:=yg (P:=ag) YH Tryz.underlying122 aa7 Dn.out.drew hin;rw[hen]at l0 en l1 l2;have ru:=ae (yj.out.drew.trans hk6);have y0:=bu (w:=w4.drew) x0 hk5 mR.out;have y1:=bu (w:=w4.drew) x1 hk5 mR.out;have y2:=bu (w:=w4.drew) x2 hk5 mR.out;have ys:=bu (w:=w4.drew) xs hk5 Wu.out;have z0:=bu (w:=w4.drew) x0 hk6 mR.out;have z1:=bu (w:=w4.drew) x1 hk6 mR.out;have z2:=bu (w:=w4.drew) x2 hk6 mR.out;have zs:=bu (w:=w4.drew) xs hk6 Wu.out;clear hin hk5 hk6 htk;refine dt 6 (fun w'=>(Instr.lookup 122 (.map (some m)) (.agg #[.bool xv,.int .u64 xh,.int .u64 xl]) false).run ag w'=.ok (.int .i64 1) w'∧w'.cell? ⟨X,0,none⟩=some (.bool xv)∧w'.cell? ⟨X,1,none⟩=some (.int .u64 xh)∧w'.cell? ⟨X,2,none⟩=some (.int .u64 xl)∧w'.cell? ⟨sb,0,none⟩=some (.map (some m))) bg (⟨l0,x0,x1,x2,xs⟩) (fun hHeld=>?_);refine dm 0 ?_
    refine dm 1 ?_
    refine dm 2 ?_
    refine dm 3 ?_
    refine lI 4 fun K hK=>?_;go_simp;refine hK.out _ _ (fun _=>⟨l1,y0,y1,y2,ys⟩) (fun hHeld=>?_);have hHeld:=hHeld aF;clear hK K;try simp only[cq]
    refine dm 5 ?_
    refine lI 6 fun K hK=>?_;go_simp;rw[show IntKind.i64.wrap 2=2 by decide,st,mD];refine hK.out _ _ (fun h=>absurd rfl h) (fun _=>?_);clear hK K hHeld;try simp only[cq]
    refine J9 ?_;clear x0 x1 x2 y0 y1 y2 xs ys l0 l1 en st;go_wp2_with fail
    go_ret;exact⟨by rw[dK.out];rfl,HK.out.trans ru.out,fun h=>by rw[dK.out]at h;cases h⟩
   ·obtain⟨w5,w6,l0,en,l1,hk5,st,hk6,km6,l2⟩:=yf (P:=ag) YH Tryz.underlying122 aa7 Dn.out.drew hin;rw[hen]at l0 en l1 l2;rw[←htk]at km6;have acw:(acc++aJ.take (k+1)).Nodup:=by
     rw[htk,List.nodup_append];refine⟨hno.out,by simp,fun a ha b hb=>?_⟩;rw[List.mem_singleton]at hb;subst hb;rintro rfl;exact hin ha
    obtain⟨ad1,ru,Ba⟩:=bj acw (yj.out.drew.trans hk6) km6;have y0:=bu (w:=w4.drew) x0 hk5 mR.out;have y1:=bu (w:=w4.drew) x1 hk5 mR.out;have y2:=bu (w:=w4.drew) x2 hk5 mR.out;have ys:=bu (w:=w4.drew) xs hk5 Wu.out;have z0:=bu (w:=w4.drew) x0 hk6 mR.out;have z1:=bu (w:=w4.drew) x1 hk6 mR.out;have z2:=bu (w:=w4.drew) x2 hk6 mR.out;have zs:=bu (w:=w4.drew) xs hk6 Wu.out;generalize(acc++aJ.take k).length=J at en st;clear hin hk5 hk6 km6 htk acw;refine dt 6 (fun w'=>(Instr.lookup 122 (.map (some m)) (.agg #[.bool xv,.int .u64 xh,.int .u64 xl]) false).run ag w'=.ok (.int .i64 0) w'∧w'.cell? ⟨X,0,none⟩=some (.bool xv)∧w'.cell? ⟨X,1,none⟩=some (.int .u64 xh)∧w'.cell? ⟨X,2,none⟩=some (.int .u64 xl)∧w'.cell? ⟨sb,0,none⟩=some (.map (some m))) bg (⟨l0,x0,x1,x2,xs⟩) (fun hHeld=>?_);refine dm 0 ?_
    refine dm 1 ?_
    refine dm 2 ?_
    refine dm 3 ?_
    refine lI 4 fun K hK=>?_;go_simp;refine hK.out _ _ (fun _=>⟨l1,y0,y1,y2,ys⟩) (fun hHeld=>?_);have hHeld:=hHeld aF;clear hK K;try simp only[cq]
    refine dm 5 ?_
    refine lI 6 fun K hK=>?_;go_simp;rw[show IntKind.i64.wrap 1=1 by decide,st,mD];refine hK.out _ _ (fun h=>absurd rfl h) (fun _=>?_);clear hK K hHeld;try simp only[cq]
    refine J9 ?_;clear x0 x1 x2 y0 y1 y2 xs ys l0 l1 en st;go_wp2_with fail
    go_roundw
    case rel=>exact⟨k+1,by omega,by go_num,Ba,ru,ad1⟩
    case measure=>simp[intOf];omega
  ·obtain rfl:k=NA:=by omega
   have hall:aJ.take k=aJ:=aT (by rw[←UB.out];exact aw _);have aap:=hkm.out;have yW:=hno.out;rw[hall]at aap yW;have HR2:=ae HR.out;rw[decide_eq_true yW,bH]at HR2;have HKe:=ae aap;have z4:=bu p4 hkk.out HPm.out;have z6:=bu p6 hkk.out HPm.out;have zm:=bu m2 hkk.out ad0.out;have HKw:=ae (HK.out.trans hkk.out);clear hall aap yW p4 p6 m2 hkm hno HR;by_cases k0:aY=0
   ·have q0:((aY:Int)==0)=true:=by simp;omega
    have Wc:af (R=true):=ae (by rw[HR2.out,decide_eq_true k0,Bool.true_or]);clear k0 HR2;go_wp2_with fail
    go_ret;exact⟨by rw[Wc.out];rfl,HKw.out,fun _=>HKe.out⟩
   ·have q0:((aY:Int)==0)=false:=by simp;omega
    have HRr:af (R=RO):=ae (by rw[HR2.out,decide_eq_false k0,Bool.false_or]);have HC:=ae (QL.out _ HKw.out _ z6 (HRk.out _ HKw.out));clear k0 HR2;go_wp2_with(go_at_call 75;(with_reducible refine HC.out.mono ?_);rintro r w7⟨rfl,d7⟩)
    go_ret;exact⟨by rw[HRr.out];rfl,HKw.out.than d7,fun _=>HKe.out.below d7⟩
def oH(l:List bN):List Ad:=l.flatMap fun X=>X.p.aJ
def rJ(rl:List Ry)(xs:List bN)(k:Nat):Bool:=match xs[k]? with
 |some X=>decide (oH (xs.take k)++X.p.aJ).Nodup&&jP rl X.p
 |none=>false
theorem Dq(rl:List Ry)(xs:List bN):∀n,n≤xs.length→(List.range n).all (rJ rl xs)=(decide (oH (xs.take n)).Nodup&&(xs.take n).all fun X=>jP rl X.p)
 |0,_=>by simp[oH]
 |n+1,h=>by
  have ih:=Dq rl xs n aM;have hx:xs[n]? =some xs[n]:=ah aM;have htk:oH (xs.take (n+1))=oH (xs.take n)++xs[n].p.aJ:=by unfold oH;rw[afz,hx,List.flatMap_append];simp only[Option.toList_some,afr,List.flatMap_nil,dY]
  have hta:((xs.take (n+1)).all fun X=>jP rl X.p)=(((xs.take n).all fun X=>jP rl X.p)&&jP rl xs[n].p):=by rw[afz,hx,List.all_append];simp only[Option.toList_some,List.all_cons,List.all_nil,Bool.and_true]
  rw[eW,ih,htk,hta];unfold rJ;rw[hx];simp only;by_cases h1:(oH (xs.take n)).Nodup
  ·rw[decide_eq_true h1,bH];cases(decide (oH (xs.take n)++xs[n].p.aJ).Nodup)<;>cases((xs.take n).all fun X=>jP rl X.p)<;>simp
  ·have h2:¬(oH (xs.take n)++xs[n].p.aJ).Nodup:=fun h=>h1 ((List.sublist_append_left _ _).nodup h)
   rw[decide_eq_false h1,decide_eq_false h2];simp
theorem MY(rl:List Ry)(xs:List bN):(List.range xs.length).all (rJ rl xs)=(decide ((xs.map (·.p)).flatMap fun p=>p.aJ).Nodup&&(xs.map (·.p)).all (jP rl)):=by
 rw[Dq rl xs xs.length (aw _),List.take_length,List.flatMap_map,List.all_map];rfl
theorem Ro{w:World}(env:Env w){pv rv:Value}{m:Mp}(hp:dZ w pv m.aK)(hr:gQ w rv m.aB)(fit:kr m)(sz:∀p∈m.aK,j9 p)(hpl:m.aK.length≤4000000)(hrl:m.aB.length≤4000000)(hol:m.policy.size≤2000000):Calls ag 27 #[.agg #[.int .u64 (m.version:Int),pv,rv,.string m.policy]] w (Got (.bool (ig m)) w):=by
 have hps:=fun u(hu:Below w.heap.size w u)=>oW (env.below hu) (hp.below hu) hpl fit.aK sz
 have hrs:=fun u(hu:Below w.heap.size w u)=>nA (env.below hu) (aW.below hr hu) hrl fit.aB
 have hpo:=fun u(hu:Below w.heap.size w u)=>nz (env.below hu) m.policy hol
 have hal:∀u mm sb mb,Below w.heap.size w u→w.heap.size≤mm→KM sR u mm (cX [])→u.cell? ⟨sb,0,none⟩=some (.map (some mm))→aD u mb 33 #[.int .u64 (m.version:Int),pv,rv,.string m.policy]→Calls ag 73 #[pv,.func (.func 74) #[] #[.pointer (some ⟨sb,0,none⟩),.pointer (some ⟨mb,0,none⟩)]] u fun r w'=>r=.returned (.bool (decide (m.aK.flatMap (·.aJ)).Nodup&&m.aK.all (jP m.aB)))∧Keeps (fun x=>x=mm) u w':=fun u mm sb mb hu hmm hkm hs hM=>by
  obtain⟨xs,hxs,hrow,hx⟩:=hp;rw[←hxs,←MY];obtain⟨A,cap,rfl⟩:=hrow.shape;have hlen:xs.length≤4000000:=by rw[←hxs,ax]at hpl;exact hpl
  refine GG (m:=mm) hlen _ (rJ m.aB xs) (fun k W=>KM sR W mm (cX (oH (xs.take k)))∧(oH (xs.take k)).Nodup∧W.cell? ⟨sb,0,none⟩=some (.map (some mm))∧aD W mb 33 #[.int .u64 (m.version:Int),.slice A xs.length cap,rv,.string m.policy]∧Keeps (fun x=>x=mm) u W) (fun k W W' h hb=>⟨h.1.below hb,h.2.1,ak h.2.2.1 hb,h.2.2.2.1.below hb h.2.2.2.1.lt,h.2.2.2.2.than hb⟩) hkm.lt (hrow.below hu).gm ?_ _ _ (enters_of Tryz.func74 bg rfl) ?_ ⟨hkm,by simp[oH],hs,hM,Keeps.refl _ _⟩
  ·rintro h0 g o rfl hg;obtain⟨A',cap',e,hl,hc⟩:=hrow;injection e with e1 _ _
   obtain⟨g',o',ha,hcc⟩:=hc h0;rw[←e1]at ha;injection ha with ha
   injection ha with ha _ _
   subst ha;have hz:0<(cD xs).length:=by rw[hl];omega
   have hlt:=World.block_lt_of_cell? w _ (hcc 0 _ (ah hz));simp only at hlt;omega
  ·rintro k hk W⟨hk1,hk2,hk3,hk4,hk5⟩;have hxk:xs[k]? =some xs[k]:=ah hk;have hbW:Below w.heap.size w W:=hu.trans (hk5.below (fun x hx=>by subst hx;exact hmm) hu.size);have hmem:=bB hk;have hin:xs[k].p∈m.aK:=by rw[←hxs];exact aeE hmem
   have hc:=Rn ((hx _ hmem).below hbW) (fit.aK _ hin) (sz _ hin) (aW.below hr hbW) hrl _ hk2 hk1 hk3 hk4;rw[show cD xs=xs.flatMap bN.vals from rfl];rw[dr bN.vals 8 aE xs k _ hxk];have hst:rJ m.aB xs k=(decide (oH (xs.take k)++xs[k].p.aJ).Nodup&&jP m.aB xs[k].p):=by unfold rJ;rw[hxk]
   have htk:oH (xs.take (k+1))=oH (xs.take k)++xs[k].p.aJ:=by unfold oH;rw[afz,hxk,List.flatMap_append];simp only[Option.toList_some,afr,List.flatMap_nil,dY]
   rw[hst,htk];refine hc.mono fun r W' h=>⟨h.1,h.2.1,fun ht=>⟨h.2.2 ht,?_,bu hk3 h.2.1 (hk1.oe hk3),hk4.keep h.2.1 (hk1.ne hk4),hk5.trans h.2.1⟩⟩
   rw[Bool.and_eq_true,decide_eq_true_eq]at ht;exact ht.1
 obtain⟨R,hR⟩:∃r,r=ig m:=⟨_,rfl⟩;rw[←hR];unfold ig at hR;rw[show(m.aK.all fun p=>decide (p.aY=0)||m.aB.any fun r=>decide (r.id=p.aY))=m.aK.all (jP m.aB)from rfl]at hR;generalize(decide (m.aK.flatMap (·.aJ)).Nodup&&m.aK.all (jP m.aB))=RL at hal hR;obtain⟨Ap,cp,rfl⟩:=hp.shape;obtain⟨Ar,cr,rfl⟩:=aW.shape hr;have hv:=fit.version;obtain⟨version,aK,aB,policy⟩:=m;simp only at*;generalize ie aK=RP at hps hR;generalize iL aB=RY at hrs hR;generalize kq policy=RO at hpo hR;generalize aK.length=NP at*;generalize aB.length=NR at*;obtain⟨zJ,HRs,Lu,HAl,HR,HB,HM⟩:=mS hps hrs hpo hal hR (boxed w (.cells #[.int .u64 version,.slice Ap NP cp,.slice Ar NR cr,.string policy] 33)) (aD.new w 33 #[.int .u64 version,.slice Ap NP cp,.slice Ar NR cr,.string policy]);clear hps hrs hpo hal hR env hp hr fit sz hol;go_enter Tryz.func27,Tryz.ntmps27;go_upto_region 1 with fail
 generalize w.alloc (.cells #[.int .u64 version,.slice Ap NP cp,.slice Ar NR cr,.string policy] 33)=w1 at HB HM⊢;generalize hP:w.heap.size=P at HM⊢;obtain⟨m0,m1,m2,m3⟩:=dy HM;by_cases k1:1≤version;rotate_left
 ·obtain rfl:version=0:=by omega
  have dK:af (R=false):=ae (by rw[HR.out,decide_eq_false k1];simp);clear k1;go_wp2_with fail
  go_ret;exact⟨by rw[dK.out];rfl,HB.out⟩
 have q1:¬(version:Int)<1:=by omega
 have HR1:=ae HR.out;rw[decide_eq_true k1,bH]at HR1;clear HR k1;cases RP with
 |false=>
  have dK:af (R=false):=ae (by rw[HR1.out];simp);go_wp2_with(go_at_call 70;(with_reducible refine(zJ.out _ HB.out).mono ?_);rintro r w2⟨rfl,d2⟩)
  go_ret;exact⟨by rw[dK.out];rfl,after HB.out d2⟩
 |true=>
 cases RY with
 |false=>
  have dK:af (R=false):=ae (by rw[HR1.out];simp);go_wp2_with(first
   |(go_at_call 70;(with_reducible refine(zJ.out _ HB.out).mono ?_);rintro r w2⟨rfl,d2⟩;have n2:=ak m2 d2)
   |(go_at_call 71;(with_reducible refine(HRs.out _ (after HB.out d2)).mono ?_);rintro r w3⟨rfl,d3⟩))
  go_ret;exact⟨by rw[dK.out];rfl,after (after HB.out d2) d3⟩
 |true=>
 cases RO with
 |false=>
  have dK:af (R=false):=ae (by rw[HR1.out];simp);go_wp2_with(first
   |(go_at_call 70;(with_reducible refine(zJ.out _ HB.out).mono ?_);rintro r w2⟨rfl,d2⟩;have n2:=ak m2 d2;have n3:=ak m3 d2)
   |(go_at_call 71;(with_reducible refine(HRs.out _ (after HB.out d2)).mono ?_);rintro r w3⟨rfl,d3⟩;have v3:=ak n3 d3)
   |(go_at_call 72;(with_reducible refine(Lu.out _ (after (after HB.out d2) d3)).mono ?_);rintro r w4⟨rfl,d4⟩))
  go_ret;exact⟨by rw[dK.out];rfl,after (after (after HB.out d2) d3) d4⟩
 |true=>
  have HRl:af (R=RL):=ae (by rw[HR1.out];simp);clear HR1;have hmm:= @run_makeMap ag;go_upto_region 3 with(first
   |(go_at_call 70;(with_reducible refine(zJ.out _ HB.out).mono ?_);rintro r w2⟨rfl,d2⟩;have n2:=ak m2 d2;have n3:=ak m3 d2)
   |(go_at_call 71;(with_reducible refine(HRs.out _ (after HB.out d2)).mono ?_);rintro r w3⟨rfl,d3⟩;have v3:=ak n3 d3)
   |(go_at_call 72;(with_reducible refine(Lu.out _ (after (after HB.out d2) d3)).mono ?_);rintro r w4⟨rfl,d4⟩))
  have e4:=after d2 (after d3 d4);have HB4:=aU HB e4;have Dn:=ae (HM.out.below e4 HM.out.lt);clear m0 m1 m2 m3 n2 n3 v3 d2 d3 d4 e4 HB HM;obtain⟨-,c1⟩:=iD Dn;go_upto_region 4 with fail
  clear hmm c1;have hb5:=eA w4 (.map #[] 0) (.cells #[.map (some w4.heap.size)] 122);have hKM:KM sR (w4.alloc (.map #[] 0)) w4.heap.size (cX []):=heap_alloc_new w4 _;have HKM:=ae (hKM.below (boxed _ (.cells #[.map (some w4.heap.size)] 122)));have hS:((w4.alloc (.map #[] 0)).alloc (.cells #[.map (some w4.heap.size)] 122)).cell? ⟨w4.heap.size+1,0,none⟩=some (.map (some w4.heap.size)):=by
   have:=(aD.new (w4.alloc (.map #[] 0)) 122 #[.map (some w4.heap.size)]).cell 0;rw[show(w4.alloc (.map #[] 0)).heap.size=w4.heap.size+1 by simp]at this;exact this
  have HS:=ae hS;have mO:=aU HB4 hb5;have rD:=ae (Dn.out.below hb5 Dn.out.lt);have hmm:w.heap.size≤w4.heap.size:=HB4.out.size;have Hmm:=ae hmm;clear hS hKM hb5 HB4 Dn hmm;generalize(w4.alloc (.map #[] 0)).alloc (.cells #[.map (some w4.heap.size)] 122)=w5 at HKM HS mO rD⊢;generalize w4.heap.size+1=SB at HS⊢;generalize w4.heap.size=MM at HKM HS Hmm⊢;obtain⟨-,c1⟩:=iD rD;go_wp2_with(go_at_call 73;(with_reducible refine(HAl.out _ _ _ _ mO.out Hmm.out HKM.out HS.out rD.out).mono ?_);rintro r w6⟨rfl,k6⟩)
  go_ret;exact⟨by rw[HRl.out];rfl,mO.out.trans (k6.below (fun x hx=>by subst hx;exact Hmm.out) mO.out.size)⟩
end Go.Proofs.YteflnojjjdkgmaaGreatDoor
