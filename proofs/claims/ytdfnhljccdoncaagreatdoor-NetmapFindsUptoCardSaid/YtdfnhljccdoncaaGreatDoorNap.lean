/- Joined out of: MkC NmB NmC NmD NmE. -/
import Derived.Test.YtdfnhljccdoncaaGreatDoorNao
set_option linter.unusedVariables false
set_option linter.unusedSimpArgs false
set_option maxHeartbeats 16000000
set_option maxRecDepth 100000
open Bool renaming true_and→bT
open Go.Lib renaming hid→ae
open Go.Proofs.Tryz renaming prog→ai
open Go.Result renaming andThen_ok→tH
open Go.RowKit renaming Hid→af
open Go.RowKit.Below renaming refl→aK
open List renaming getElem?_eq_getElem→ag,length_map→ay,take_of_length_le→aO,getElem_mem→bC,append_nil→lS,mem_map_of_mem→rE,flatMap_cons→Zg,map_cons→af5,take_add_one→agy
open Nat renaming le_refl→aw
namespace Go.Proofs.YtdfnhljccdoncaaGreatDoor
open Go.RowKit
open Go.ChangeMaps (setBlock)
section
variable{α:Type}[DecidableEq α]{P:Program}{T K E:TypeId}{enc:α→Value}{w:World}{m:Nat}
def cX(l:List α):List (α×Nat):=l.map fun x=>(x,1)
theorem vQ{l:List α}{a:α}(h:a∉l):k9 (cX l) a=none:=by
 unfold k9 cX;rw[List.findIdx?_eq_none_iff];intro x hx;rw[decide_eq_false_iff_not];rintro rfl;obtain⟨y,hy,rfl⟩:=List.mem_map.1 hx;exact h hy
theorem SD{l:List α}{a:α}(h:a∉l)(n:Nat):k9 (cX l++[(a,n)]) a=some l.length:=by
 have hn:=vQ h;unfold k9 at hn⊢;rw[List.findIdx?_append,hn];simp[cX]
theorem SG{l:List α}{a:α}(h:a∈l):∃j,∃hj:j<l.length,l[j]'hj=a∧k9 (cX l) a=some j:=by
 cases hi:k9 (cX l) a with
 |none=>exact absurd rfl (Nz hi (a,1) (List.mem_map.2 ⟨a,h,rfl⟩))
 |some j=>
  obtain⟨hj,e⟩:=rT hi;have hl:j<l.length:=by simpa[cX]using hj
  exact⟨j,hl,by simpa[cX]using e,rfl⟩
theorem Ie{L:List (α×Nat)}{a:α}{j n:Nat}(hi:k9 L a=some j)(hx:(L.map (·.2))[j]? =some n):xO L a=n:=by
 unfold xO;rw[hi];simp only[List.getD_eq_getElem?_getD,hx,Option.getD_some]
theorem SH{l:List α}{a:α}(h:a∉l):xO (cX l) a=0:=by unfold xO;rw[vQ h]
theorem SI{l:List α}{a:α}(h:a∉l)(n:Nat):xO (cX l++[(a,n)]) a=n:=Ie (SD h n) (by simp[cX])
theorem Ao{l:List α}{a:α}(h:a∈l):xO (cX l) a=1:=by
 obtain⟨j,hj,_,hi⟩:=SG h;exact Ie hi (by simp[cX,hj])
omit [DecidableEq α]in
theorem SJ{l:List α}{a:α}(n:Nat):(cX l++[(a,n)]).set l.length (((cX l++[(a,n)])[l.length]'(by simp[cX])).1,1)=cX (l++[a]):=by
 have hl:(cX l).length=l.length:=by simp[cX]
 rw[List.set_append_right _ _ aY];simp[cX]
omit [DecidableEq α]in
theorem KM.aM{L:List (α×Nat)}(h:KM enc w m L)(L':List (α×Nat)):KM enc (setBlock w m (.map (fW enc L').toArray L'.length)) m L':=by
 have hl:=h.lt;unfold KM;simp[setBlock,hl]
theorem jU(w:World)(m:Nat)(o:Obj):Keeps (fun x=>x=m) w (setBlock w m o):=(Keeps.refl (fun x=>x=m) w).setBlock (Or.inl rfl) o
theorem yG(ok:qG P K enc)(hT:P.underlying T=some (.map K E))(hz:∀w,(zeroValue E).run P w=.ok (.int .i64 0) w){l:List α}(h:KM enc w m (cX l)){a:α}(ha:a∉l):∃w1 w2:World,(Instr.lookup T (.map (some m)) (enc a) false).run P w=.ok (.int .i64 0) w∧(Instr.mapEntry T (.map (some m)) (enc a)).run P w=.ok (.tuple #[.int .i64 0,.int .i64 (l.length:Int)]) w1∧(Instr.lookup T (.map (some m)) (enc a) false).run P w1=.ok (.int .i64 0) w1∧Keeps (fun x=>x=m) w w1∧(Instr.entryStore T (.map (some m)) (.int .i64 (l.length:Int)) (.int .i64 1)).run P w1=.ok () w2∧Keeps (fun x=>x=m) w w2∧KM enc w2 m (cX (l++[a]))∧(Instr.lookup T (.map (some m)) (enc a) false).run P w2=.ok (.int .i64 1) w2:=by
 have hl:(cX l).length=l.length:=by simp[cX]
 have l0:=gg ok hT (hz w) h a;rw[SH ha]at l0;have en:=xP ok hT (hz w) h (vQ ha);rw[hl]at en;have k1:=h.aM (cX l++[(a,0)]);have l1:=gg ok hT (hz _) k1 a;rw[SI ha]at l1;have st:=tr (P:=P) (T:=T) k1 (j:=l.length) (by simp[cX]) 1;rw[SJ]at st;have k2:=k1.aM (cX (l++[a]));have l2:=gg ok hT (hz _) k2 a;rw[Ao (by simp)]at l2;exact⟨_,_,l0,en,l1,jU _ _ _,st,(jU _ _ _).trans (jU _ _ _),k2,l2⟩
theorem yH(ok:qG P K enc)(hT:P.underlying T=some (.map K E))(hz:∀w,(zeroValue E).run P w=.ok (.int .i64 0) w){l:List α}(h:KM enc w m (cX l)){a:α}(ha:a∈l):∃(j:Nat)(w1 w2:World),(Instr.lookup T (.map (some m)) (enc a) false).run P w=.ok (.int .i64 1) w∧(Instr.mapEntry T (.map (some m)) (enc a)).run P w=.ok (.tuple #[.int .i64 1,.int .i64 j]) w1∧(Instr.lookup T (.map (some m)) (enc a) false).run P w1=.ok (.int .i64 1) w1∧Keeps (fun x=>x=m) w w1∧(Instr.entryStore T (.map (some m)) (.int .i64 j) (.int .i64 2)).run P w1=.ok () w2∧Keeps (fun x=>x=m) w w2∧(Instr.lookup T (.map (some m)) (enc a) false).run P w2=.ok (.int .i64 2) w2:=by
 obtain⟨j,hj,hja,hi⟩:=SG ha;have hl:(cX l).length=l.length:=by simp[cX]
 have l0:=gg ok hT (hz w) h a;rw[Ao ha]at l0;have en:=xQ ok hT h hi;rw[Ao ha]at en;have k1:=h.aM (cX l);have l1:=gg ok hT (hz _) k1 a;rw[Ao ha]at l1;have st:=tr (P:=P) (T:=T) k1 (j:=j) (by rw[hl];exact hj) 2;have k2:=k1.aM ((cX l).set j ((((cX l)[j]'(by rw[hl];exact hj))).1,2));have l2:=gg ok hT (hz _) k2 a;rw[Ie (n:=2) (j:=j) ?_ (by rw[List.map_set,List.getElem?_set_self (by rw[ay,hl];exact hj)])]at l2
 ·exact⟨j,_,_,l0,en,l1,jU _ _ _,st,(jU _ _ _).trans (jU _ _ _),l2⟩
 ·unfold k9 at hi⊢;rw[List.findIdx?_eq_some_iff_getElem]at hi⊢;obtain⟨h1,h2,h3⟩:=hi;refine⟨by rw[List.length_set];exact h1,?_,fun i hij=>?_⟩
  ·rw[List.getElem_set_self];exact h2
  ·rw[List.getElem_set_ne aY];exact h3 i hij
end
attribute [local go_sem↓] Go.wp_at_zero Go.wp_at_succ
attribute [local go_sem] dJ
theorem KM.below{α:Type}{enc:α→Value}{w w':World}{m:Nat}{L:List (α×Nat)}(h:KM enc w m L)(hb:Below w.heap.size w w'):KM enc w' m L:=(hb.block m h.lt).trans h
theorem KM.drew{α:Type}{enc:α→Value}{w:World}{m:Nat}{L:List (α×Nat)}(h:KM enc w m L):KM enc w.drew m L:=h
theorem KM.ne{α:Type}{enc:α→Value}{w:World}{m g:Nat}{L:List (α×Nat)}{t:TypeId}{cs:Array Value}(h:KM enc w m L)(hg:aG w g t cs):g≠m:=by
 rintro rfl;have:=h.symm.trans hg;cases this
theorem vR{α:Type}[DecidableEq α]{l:List α}{k:Nat}{x:α}(hx:l[k]? =some x)(h:(l.take k).Nodup):(l.take (k+1)).Nodup↔x∉l.take k:=by
 rw[agy,hx,Option.toList_some,List.nodup_append];constructor
 ·rintro⟨_,_,h3⟩hm;exact h3 _ hm _ (List.mem_singleton.2 rfl) rfl
 ·intro hn;refine⟨h,by simp,fun a ha b hb=>?_⟩;rw[List.mem_singleton]at hb;subst hb;rintro rfl;exact hn ha
theorem vS{α:Type}{l:List α}(h:l.Nodup)(k:Nat):(l.take k).Nodup:=(List.take_sublist k l).nodup h
theorem Aq{w:World}(env:Env w){X:bG}(hX:eI w X)(fit:nC X.p)(sz:gI X.p):Calls ai 159 #[.agg X.vals.toArray] w (Got (.bool (lC X.p)) w):=by
 have hlab:=fun u=>nY X.p.user (by have:=sz.user;omega) u
 have hma:=fun u(hu:Below w.heap.size w u)(a:Ad)(ok:a.Ok)=>mC (env.below hu) a ok
 have hts:=fun u(hu:Below w.heap.size w u)=>Am (hX.tags.below hu) (by have:=sz.tl;omega) cn 199 #[] (enters_of Tryz.func199 bJ rfl) fun W hW x hx=>nY x (by have:=sz.tags x hx;omega) W
 have htr:=fun u(hu:Below w.heap.size w u)=>JR (hX.tags.below hu) (by have:=sz.tl;omega) qB 113 #[] (enters_of Tryz.func113 bJ rfl) fun W hW x y=>vP x y W
 have has:=fun u(hu:Below w.heap.size w u)=>Sr (hX.aH.below hu) (by have:=sz.al;omega) Ad.may 166 #[] (enters_of Tryz.func166 bJ rfl) fun W hW x hx=>mC (env.below (after hu hW)) x (fit.aH x hx)
 have har:=fun u(hu:Below w.heap.size w u)=>Ss (hX.aH.below hu) (by have:=sz.al;omega) uQ 202 #[] (enters_of Tryz.func202 bJ rfl) fun W hW x y=>PY x y W
 have adn:∀e∈X.p.ends,e.1.Ok:=fun e he=>(fit.ends e he).1
 have hEl:=sz.el;have hE:=hX.ends;obtain⟨R,hR⟩:∃r,r=lC X.p:=⟨_,rfl⟩;rw[←hR];unfold lC at hR;obtain⟨A1,c1,e1⟩:=hX.tags.shape;obtain⟨A2,c2,e2⟩:=hX.aH.shape;obtain⟨A3,c3,e3⟩:=hX.ends.shape;obtain⟨⟨key,bj,user,tags,aH,ex,aW,ends⟩,tv,av,ev⟩:=X;simp only at*;subst e1 e2 e3;unfold bG.vals;generalize cn user=LU at hlab hR;generalize tags.all cn=LT at hts hR;generalize cC qB tags=RT at htr hR;generalize aH.all Ad.may=AM at has hR;generalize cC uQ aH=RA at har hR;generalize tags.length=NT at*;generalize aH.length=NA at*;obtain⟨NE,hNE⟩:∃n,n=ends.length:=⟨_,rfl⟩;rw[←hNE]at hR hE hEl⊢;obtain⟨L6,O0,HTs,HTr,HAs,HAr,aeP,HE,HNE,HR⟩:=af7 hlab hma hts htr has har adn hE hNE hR;clear hlab hma hts htr has har adn hE hNE hR env hX fit sz;obtain⟨HB,HP⟩:=aQ (boxed w (.cells #[.string key,.string bj,.string user,.slice A1 NT c1,.slice A2 NA c2,.int .u64 ex,.int .u8 aW,.slice A3 NE c3] 49)) (aG.new w 49 #[.string key,.string bj,.string user,.slice A1 NT c1,.slice A2 NA c2,.int .u64 ex,.int .u8 aW,.slice A3 NE c3]);go_enter Tryz.func159,Tryz.ntmps159;go_upto_region 1 with fail
 generalize w.alloc (.cells #[.string key,.string bj,.string user,.slice A1 NT c1,.slice A2 NA c2,.int .u64 ex,.int .u8 aW,.slice A3 NE c3] 49)=w1 at HB HP⊢;generalize hP:w.heap.size=P at HP⊢;obtain⟨p0,p1,p2,p3,p4,-,-,p7⟩:=jq HP;by_cases k1:key.size=32;rotate_left
 ·have q1:((key.size:Int) !=32)=true:=by simp;omega
  have di:af (R=false):=ae (by rw[HR.out,decide_eq_false k1];simp);clear k1;go_wp2_with fail
  go_ret;exact⟨by rw[di.out];rfl,HB.out⟩
 have q1:((key.size:Int) !=32)=false:=by simp;omega
 by_cases k2:bj.size=32;rotate_left
 ·have q2:((bj.size:Int) !=32)=true:=by simp;omega
  have di:af (R=false):=ae (by rw[HR.out,decide_eq_false k2];simp);clear k1 k2;go_wp2_with fail
  go_ret;exact⟨by rw[di.out];rfl,HB.out⟩
 have q2:((bj.size:Int) !=32)=false:=by simp;omega
 have HR1:=ae HR.out;rw[decide_eq_true k1,decide_eq_true k2,bT,bT]at HR1;clear HR k1 k2;cases LU with
 |false=>
  have di:af (R=false):=ae (by rw[HR1.out];simp);go_wp2_with(go_at_call 199;(with_reducible refine(L6.out _).mono ?_);rintro r w2⟨rfl,d2⟩)
  go_ret;exact⟨by rw[di.out];rfl,after HB.out d2⟩
 |true=>
  have HR2:=ae (HR1.out.trans (by rw[bT]));clear HR1;go_upto_region 3 with(go_at_call 199;(with_reducible refine(L6.out _).mono ?_);rintro r w2⟨rfl,d2⟩)
  have HB2:=bm HB d2;have HP2:=ae (HP.out.below d2 HP.out.lt);clear p0 p1 p2 p3 p4 p7 d2 HB HP q1 q2;obtain⟨-,-,-,p3,p4,-,-,p7⟩:=jq HP2;by_cases k1:NT≤8;rotate_left
  ·have q1:(8:Int)<(NT:Int):=by omega
   have q1':8<NT:=by omega
   have di:af (R=false):=ae (by rw[HR2.out,decide_eq_false k1];simp);clear k1;go_wp2_with fail
   go_ret;exact⟨by rw[di.out];rfl,HB2.out⟩
  have q1:¬(8:Int)<(NT:Int):=by omega
  have q1':¬8<NT:=by omega
  by_cases k2:1≤NA;rotate_left
  ·have q2:(NA:Int)<1:=by omega
   have di:af (R=false):=ae (by rw[HR2.out,decide_eq_false k2];simp);obtain rfl:NA=0:=by omega
   clear k1 k2;go_wp2_with fail
   go_ret;exact⟨by rw[di.out];rfl,HB2.out⟩
  have q2:¬(NA:Int)<1:=by omega
  by_cases k3:NA≤4;rotate_left
  ·have q3:(4:Int)<(NA:Int):=by omega
   have q3':4<NA:=by omega
   have di:af (R=false):=ae (by rw[HR2.out,decide_eq_false k3];simp);clear k1 k2 k3;go_wp2_with fail
   go_ret;exact⟨by rw[di.out];rfl,HB2.out⟩
  have q3:¬(4:Int)<(NA:Int):=by omega
  have q3':¬4<NA:=by omega
  by_cases k4:NE≤8;rotate_left
  ·have q4:(8:Int)<(NE:Int):=by omega
   have q4':8<NE:=by omega
   have di:af (R=false):=ae (by rw[HR2.out,decide_eq_false k4];simp);clear k1 k2 k3 k4;go_wp2_with fail
   go_ret;exact⟨by rw[di.out];rfl,HB2.out⟩
  have q4:¬(8:Int)<(NE:Int):=by omega
  have q4':¬8<NE:=by omega
  have HR3:=ae HR2.out;rw[decide_eq_true k1,decide_eq_true k2,decide_eq_true k3,decide_eq_true k4,bT,bT,bT,bT]at HR3;clear HR2 k1 k2 k3 k4;have hmm:= @run_makeMap ai;go_upto_region 6 with fail
  clear hmm;obtain⟨m,hm⟩:∃m,m=w2.heap.size:=⟨_,rfl⟩;have hM:KM tu (w2.alloc (.map #[] 0)) m (cX []):=by rw[hm];exact heap_alloc_new w2 _
  have hmw:w.heap.size≤m:=by rw[hm];exact HB2.out.size
  obtain⟨Hmw,HB3,fJ⟩:=bO hmw (after HB2.out (boxed w2 (.map #[] 0))) (HP2.out.below (boxed w2 (.map #[] 0)) HP2.out.lt);obtain⟨HPm,HM⟩:=aQ (hM.ne fJ.out) hM;rw[←hm];clear hM hmw p3 p4 p7 HB2 HP2 q1 q1' q2 q3 q3' q4 q4';generalize w2.alloc (.map #[] 0)=w3 at HB3 fJ HM⊢;clear hm;obtain⟨-,-,-,p3,p4,-,-,p7⟩:=jq fJ;go_upto_region 7 with fail
  go_loopw [48] (fun v48 wr=>∃k:Nat,k≤NE∧v48=.int .i64 k∧af (KM tu wr m (cX (ends.take k)))∧af (Keeps (fun x=>x=m) w3 wr)∧af ((ends.take k).Nodup∧∀e∈ends.take k,e.1.may=true)) (fun v48 _=>NE-(intOf v48).toNat)
  case atStart=>exact⟨0,Nat.zero_le _,rfl,HM,ae (Keeps.refl _ _),ae ⟨by simp,fun e he=>by simp at he⟩⟩
  case round=>
   obtain⟨k,hk,rfl,hkm,hkk,hno⟩:=hrel;have hbw:Below w.heap.size w wr:=HB3.out.trans (hkk.out.below (fun x hx=>by subst hx;exact Hmw.out) HB3.out.size);have yI:=ae hbw;clear hbw;by_cases hlt:k<NE
   ·have hkl:k<ends.length:=by rw[←HNE.out];exact hlt
    have hx:ends[k]? =some ends[k]:=ag hkl;have hxo:=aeP.out _ (bC hkl);have hxm:ends[k]∈ends:=bC hkl;obtain⟨_,q,o,hA,hcell⟩:=HE.out.gX k hlt;rw[show kM ends=ends.flatMap bV from rfl]at hcell;simp only at hcell;rw[dn bV 4 eO ends k _ hx]at hcell;subst hA;generalize ends[k]=x at hx hxo hcell hxm;have hma:=fun u(hu:Below w.heap.size w u)=>O0.out u hu x.1 hxo
    have d0:=ak (hcell 0 _ rfl) yI.out;have d1:=ak (hcell 1 _ rfl) yI.out;have d2:=ak (hcell 2 _ rfl) yI.out;have d3:=ak (hcell 3 _ rfl) yI.out;rw[Nat.add_zero]at d0;have hen:tu x=.agg #[.bool x.1.v6,.int .u64 (x.1.hi:Int),.int .u64 (x.1.lo:Int),.int .u16 (x.2:Int)]:=rfl;obtain⟨Hx,Hxm⟩:=aQ hx hxm;obtain⟨xm,SK⟩:∃b,b=x.1.may:=⟨_,rfl⟩;rw[←SK]at hma;obtain⟨SL,Hma⟩:=aQ SK hma;clear hcell hx hxo hxm hma SK hkl;go_upto_region 9 with fail
    obtain⟨⟨xv,xh,xl⟩,xp⟩:=x;simp only at hen Hma SL;have hma:=Hma.out;unfold Ad.cells at hma;simp only at hma;have Hma:=ae hma;clear hma;have hb4:=boxed wr (.cells #[.bool xv,.int .u64 xh,.int .u64 xl,.int .u16 xp] 69);obtain⟨Ig,D6,yJ⟩:=bO (aG.new wr 69 #[.bool xv,.int .u64 xh,.int .u64 xl,.int .u16 xp]) (hkm.out.below hb4) (hkk.out.than hb4);have HB4:=bm yI hb4;have mS:=ae (D6.out.ne Ig.out);simp only;clear d0 d1 d2 d3 hb4 hkm hkk yI;generalize wr.alloc (.cells #[.bool xv,.int .u64 xh,.int .u64 xl,.int .u16 xp] 69)=w4 at Ig D6 yJ HB4⊢;generalize wr.heap.size=X at Ig mS⊢;obtain⟨x0,x1,x2,x3⟩:=jB Ig;by_cases hin:((⟨xv,xh,xl⟩,xp):En)∈ends.take k
    ·have di:af (R=false):=ae (by
      have hnd:¬ends.Nodup:=fun h=>((vR Hx.out (vS h k)).1 (vS h (k+1))) hin
      rw[HR3.out,decide_eq_false hnd];simp)
     obtain⟨j,w5,w6,l0,en,l1,hk5,st,hk6,l2⟩:=yH (P:=ai) ZD Tryz.underlying223 Tryz.zeroValue3 D6.out.drew hin;rw[hen]at l0 en l1 l2;have ku:=ae ((Below.o5 HB4.out).trans (hk6.below (fun x hx=>by subst hx;exact Hmw.out) HB4.out.size));have y0:=bw (w:=w4.drew) x0 hk5 mS.out;have y1:=bw (w:=w4.drew) x1 hk5 mS.out;have y2:=bw (w:=w4.drew) x2 hk5 mS.out;have y3:=bw (w:=w4.drew) x3 hk5 mS.out;have z0:=bw (w:=w4.drew) x0 hk6 mS.out;have z1:=bw (w:=w4.drew) x1 hk6 mS.out;have z2:=bw (w:=w4.drew) x2 hk6 mS.out;have z3:=bw (w:=w4.drew) x3 hk6 mS.out;clear hin hk5 hk6;refine du 6 (fun w'=>(Instr.lookup 223 (.map (some m)) (.agg #[.bool xv,.int .u64 xh,.int .u64 xl,.int .u16 xp]) false).run ai w'=.ok (.int .i64 1) w'∧w'.cell? ⟨X,0,none⟩=some (.bool xv)∧w'.cell? ⟨X,1,none⟩=some (.int .u64 xh)∧w'.cell? ⟨X,2,none⟩=some (.int .u64 xl)∧w'.cell? ⟨X,3,none⟩=some (.int .u16 xp)) bJ (⟨l0,x0,x1,x2,x3⟩) (fun hHeld=>?_);refine jF 0 ?_
     refine jF 1 ?_
     refine jF 2 ?_
     refine jF 3 ?_
     refine sH 4 fun K hK=>?_;go_simp;refine hK.out _ _ (fun _=>⟨l1,y0,y1,y2,y3⟩) (fun hHeld=>?_);have hHeld:=hHeld aI;clear hK K;try simp only[dX]
     refine jF 5 ?_
     refine sH 6 fun K hK=>?_;go_simp;rw[show IntKind.i64.wrap 2=2 by decide,st,tH];refine hK.out _ _ (fun h=>absurd rfl h) (fun _=>?_);clear hK K hHeld;try simp only[dX]
     refine zdE ?_;clear x0 x1 x2 x3 y0 y1 y2 y3 l0 l1 en st;go_wp2_with fail
     go_ret;exact⟨by rw[di.out];rfl,ku.out⟩
    ·obtain⟨w5,w6,l0,en,l1,hk5,st,hk6,km6,l2⟩:=yG (P:=ai) ZD Tryz.underlying223 Tryz.zeroValue3 D6.out.drew hin;rw[hen]at l0 en l1 l2;have htk:ends.take (k+1)=ends.take k++[((⟨xv,xh,xl⟩,xp):En)]:=by rw[agy,Hx.out];rfl
     rw[←htk]at km6;have ku:=ae ((Below.o5 HB4.out).trans (hk6.below (fun x hx=>by subst hx;exact Hmw.out) HB4.out.size));obtain⟨rI,BM,Htk,Hin⟩:=fH (yJ.out.drew.trans hk6) km6 htk hin;have y0:=bw (w:=w4.drew) x0 hk5 mS.out;have y1:=bw (w:=w4.drew) x1 hk5 mS.out;have y2:=bw (w:=w4.drew) x2 hk5 mS.out;have y3:=bw (w:=w4.drew) x3 hk5 mS.out;have z0:=bw (w:=w4.drew) x0 hk6 mS.out;have z1:=bw (w:=w4.drew) x1 hk6 mS.out;have z2:=bw (w:=w4.drew) x2 hk6 mS.out;have z3:=bw (w:=w4.drew) x3 hk6 mS.out;generalize(ends.take k).length=J at en st;clear hin hk5 hk6 km6 htk;refine du 6 (fun w'=>(Instr.lookup 223 (.map (some m)) (.agg #[.bool xv,.int .u64 xh,.int .u64 xl,.int .u16 xp]) false).run ai w'=.ok (.int .i64 0) w'∧w'.cell? ⟨X,0,none⟩=some (.bool xv)∧w'.cell? ⟨X,1,none⟩=some (.int .u64 xh)∧w'.cell? ⟨X,2,none⟩=some (.int .u64 xl)∧w'.cell? ⟨X,3,none⟩=some (.int .u16 xp)) bJ (⟨l0,x0,x1,x2,x3⟩) (fun hHeld=>?_);refine jF 0 ?_
     refine jF 1 ?_
     refine jF 2 ?_
     refine jF 3 ?_
     refine sH 4 fun K hK=>?_;go_simp;refine hK.out _ _ (fun _=>⟨l1,y0,y1,y2,y3⟩) (fun hHeld=>?_);have hHeld:=hHeld aI;clear hK K;try simp only[dX]
     refine jF 5 ?_
     refine sH 6 fun K hK=>?_;go_simp;rw[show IntKind.i64.wrap 1=1 by decide,st,tH];refine hK.out _ _ (fun h=>absurd rfl h) (fun _=>?_);clear hK K hHeld;try simp only[dX]
     refine zdE ?_;clear x0 x1 x2 x3 y0 y1 y2 y3 l0 l1 en st;cases xm with
     |false=>
      have di:af (R=false):=ae (by
       have hnm:(ends.all fun e=>e.1.may)=false:=by
        rw[List.all_eq_false];exact⟨_,Hxm.out,by rw[←SL.out];decide⟩
       rw[HR3.out,hnm];simp)
      go_wp2_with(go_at_call 166;(with_reducible refine(Hma.out _ ku.out).mono ?_);rintro r w7⟨rfl,d7⟩)
      go_ret;exact⟨by rw[di.out];rfl,after ku.out d7⟩
     |true=>
      go_wp2_with(go_at_call 166;(with_reducible refine(Hma.out _ ku.out).mono ?_);rintro r w7⟨rfl,d7⟩)
      go_roundw
      case rel=>
       refine⟨k+1,by omega,by go_num,ae (BM.out.below d7),ae (rI.out.than d7),ae ⟨(vR Hx.out hno.out.1).2 Hin.out,fun e he=>?_⟩⟩;rw[Htk.out]at he;rcases List.mem_append.1 he with he|he
       ·exact hno.out.2 e he
       ·rw[List.mem_singleton]at he;subst he;exact SL.out.symm
      case measure=>simp[intOf];omega
   ·obtain rfl:k=NE:=by omega
    have hall:ends.take k=ends:=aO (by rw[←HNE.out];exact aw _);have HR4:af (R=(LT&&RT&&AM&&RA)):=ae (by
     have h1:=hno.out.1;have h2:=hno.out.2;rw[hall]at h1 h2;have h3:(ends.all fun e=>e.1.may)=true:=List.all_eq_true.2 h2;rw[HR3.out,h3,decide_eq_true h1];simp)
    have z3:=bw p3 hkk.out HPm.out;have z4:=bw p4 hkk.out HPm.out;clear hall p3 p4 p7 hno hkm hkk;cases LT with
    |false=>
     have di:af (R=false):=ae (by rw[HR4.out];simp);go_wp2_with(go_at_call 47;(with_reducible refine(HTs.out _ yI.out).mono ?_);rintro r w7⟨rfl,d7⟩)
     go_ret;exact⟨by rw[di.out];rfl,after yI.out d7⟩
    |true=>
     cases RT with
     |false=>
      have di:af (R=false):=ae (by rw[HR4.out];simp);go_wp2_with(first
       |(go_at_call 47;(with_reducible refine(HTs.out _ yI.out).mono ?_);rintro r w7⟨rfl,d7⟩;have y3:=ak z3 d7;have y4:=ak z4 d7)
       |(go_at_call 112;(with_reducible refine(HTr.out _ (after yI.out d7)).mono ?_);rintro r w8⟨rfl,d8⟩))
      go_ret;exact⟨by rw[di.out];rfl,after (after yI.out d7) d8⟩
     |true=>
      cases AM with
      |false=>
       have di:af (R=false):=ae (by rw[HR4.out];simp);go_wp2_with(first
        |(go_at_call 47;(with_reducible refine(HTs.out _ yI.out).mono ?_);rintro r w7⟨rfl,d7⟩;have y3:=ak z3 d7;have y4:=ak z4 d7)
        |(go_at_call 112;(with_reducible refine(HTr.out _ (after yI.out d7)).mono ?_);rintro r w8⟨rfl,d8⟩;have v4:=ak y4 d8)
        |(go_at_call 200;(with_reducible refine(HAs.out _ (after (after yI.out d7) d8)).mono ?_);rintro r w9⟨rfl,d9⟩))
       go_ret;exact⟨by rw[di.out];rfl,after (after (after yI.out d7) d8) d9⟩
      |true=>
       have HRr:af (R=RA):=ae (by rw[HR4.out];simp);go_wp2_with(first
        |(go_at_call 47;(with_reducible refine(HTs.out _ yI.out).mono ?_);rintro r w7⟨rfl,d7⟩;have y3:=ak z3 d7;have y4:=ak z4 d7)
        |(go_at_call 112;(with_reducible refine(HTr.out _ (after yI.out d7)).mono ?_);rintro r w8⟨rfl,d8⟩;have v4:=ak y4 d8)
        |(go_at_call 200;(with_reducible refine(HAs.out _ (after (after yI.out d7) d8)).mono ?_);rintro r w9⟨rfl,d9⟩;have u4:=ak v4 d9)
        |(go_at_call 201;(with_reducible refine(HAr.out _ (after (after (after yI.out d7) d8) d9)).mono ?_);rintro r w10⟨rfl,d10⟩))
       go_ret;exact⟨by rw[HRr.out];rfl,after (after (after (after yI.out d7) d8) d9) d10⟩
theorem rising_map{α β:Type}(f:α→β)(lt:β→β→Bool):∀l:List α,cC lt (l.map f)=cC (fun x y=>lt (f x) (f y)) l
 |[]=>rfl
 |[_]=>rfl
 |x::y::r=>by
  have ih:=rising_map f lt (y::r);rw[af5]at ih;rw[af5,af5,cC,cC,ih]
theorem pg{w:World}(env:Env w){v:Value}{l:List Pr}(h:dP w v l)(hl:l.length≤4000000)(fit:∀p∈l,nC p)(sz:∀p∈l,gI p):Calls ai 114 #[v] w (Got (.bool (iN l)) w):=by
 have ha:∀u,Below w.heap.size w u→Calls ai 127 #[v,.func (.func 159) #[] #[]] u (Got (.bool (l.all lC)) u):=fun u hu=>by
  obtain⟨xs,rfl,hr,hx⟩:=h;rw[ay]at hl;rw[List.all_map];exact SA (hr.below hu) hl (lC∘fun X=>X.p) _ _ (enters_of Tryz.func159 bJ rfl) fun W hW X hX=>Aq (env.below (after hu hW)) ((hx X hX).below (after hu hW)) (fit _ (rE hX)) (sz _ (rE hX))
 have hs:∀u,Below w.heap.size w u→Calls ai 160 #[v,.func (.func 161) #[] #[]] u (Got (.bool (cC ef l)) u):=fun u hu=>by
  obtain⟨xs,rfl,hr,hx⟩:=h;rw[ay]at hl;rw[rising_map];exact SC (hr.below hu) hl (fun X Y=>ef X.p Y.p) _ _ (enters_of Tryz.func161 bJ rfl) fun W hW X Y=>DY X.p.key Y.p.key _ _ _ _ _ _ _ _ _ _ _ _ _ _ W
 obtain⟨R,hR⟩:∃r,r=iN l:=⟨_,rfl⟩;rw[←hR];unfold iN at hR;obtain⟨A,cap,rfl⟩:=h.shape;generalize l.all lC=AM at ha hR;generalize cC ef l=RA at hs hR;generalize l.length=N at*;obtain⟨HA,HS,HR⟩:=bO ha hs hR;clear ha hs hR h fit sz env;go_enter Tryz.func114,Tryz.ntmps114;by_cases k1:N≤64;rotate_left
 ·have q1:¬(N:Int)≤64:=by omega
  have di:af (R=false):=ae (by rw[HR.out,decide_eq_false k1];simp);go_wp2_with fail
  go_ret;exact⟨by rw[di.out];rfl,aK _ _⟩
 have q1:(N:Int)≤64:=by omega
 have HR1:=ae HR.out;rw[decide_eq_true k1,bT]at HR1;clear HR;cases AM with
 |false=>
  go_wp2_with(go_at_call 127;(with_reducible refine(HA.out _ (aK _ _)).mono ?_);rintro r w2⟨rfl,d2⟩)
  go_ret;exact⟨by rw[HR1.out];rfl,d2⟩
 |true=>
  go_wp2_with(first
   |(go_at_call 127;(with_reducible refine(HA.out _ (aK _ _)).mono ?_);rintro r w2⟨rfl,d2⟩)
   |(go_at_call 160;(with_reducible refine(HS.out _ d2).mono ?_);rintro r w3⟨rfl,d3⟩))
  go_ret;exact⟨by rw[HR1.out];rfl,after d2 d3⟩
theorem nF{w:World}(env:Env w){v:Value}{l:List Ry}(h:gi w v l)(hl:l.length≤4000000)(fit:∀r∈l,vN r):Calls ai 115 #[v] w (Got (.bool (jb l)) w):=by
 have ha:∀u,Below w.heap.size w u→Calls ai 164 #[v,.func (.func 165) #[] #[]] u (Got (.bool (l.all vI)) u):=fun u hu=>
  Sv (aV.below h hu) hl vI _ _ (enters_of Tryz.func165 bJ rfl) fun W hW x hx=>DZ (env.below (after hu hW)) _ _ x.key x.fin.1 (fit x hx).2.1
 have hs:∀u,Below w.heap.size w u→Calls ai 162 #[v,.func (.func 163) #[] #[]] u (Got (.bool (cC (fun a b:Ry=>decide (a.id<b.id)) l)) u):=fun u hu=>
  Sz (aV.below h hu) hl _ _ _ (enters_of Tryz.func163 bJ rfl) fun W hW x y=>Ia x.id y.id _ _ _ _ _ _ _ _ _ _ W
 obtain⟨R,hR⟩:∃r,r=jb l:=⟨_,rfl⟩;rw[←hR];unfold jb at hR;obtain⟨A,cap,rfl⟩:=aV.shape h;generalize l.all vI=AM at ha hR;generalize cC (fun a b:Ry=>decide (a.id<b.id)) l=RA at hs hR;generalize l.length=N at*;obtain⟨HA,HS,HR⟩:=bO ha hs hR;clear ha hs hR h fit env;go_enter Tryz.func115,Tryz.ntmps115;by_cases k1:N≤8;rotate_left
 ·have q1:¬(N:Int)≤8:=by omega
  have di:af (R=false):=ae (by rw[HR.out,decide_eq_false k1];simp);go_wp2_with fail
  go_ret;exact⟨by rw[di.out];rfl,aK _ _⟩
 have q1:(N:Int)≤8:=by omega
 have HR1:=ae HR.out;rw[decide_eq_true k1,bT]at HR1;clear HR;cases RA with
 |false=>
  go_wp2_with(go_at_call 162;(with_reducible refine(HS.out _ (aK _ _)).mono ?_);rintro r w2⟨rfl,d2⟩)
  go_ret;exact⟨by rw[HR1.out];rfl,d2⟩
 |true=>
  go_wp2_with(first
   |(go_at_call 162;(with_reducible refine(HS.out _ (aK _ _)).mono ?_);rintro r w2⟨rfl,d2⟩)
   |(go_at_call 164;(with_reducible refine(HA.out _ d2).mono ?_);rintro r w3⟨rfl,d3⟩))
  go_ret;exact⟨by rw[HR1.out];rfl,after d2 d3⟩
theorem SN{w:World}{m:Nat}{es:Array MapEntry}{n o:Nat}(h:w.heap[m]? =some (.map es n)):w.cell? ⟨m,o,none⟩=none:=by
 unfold World.cell?;simp[h]
theorem KM.ot{α:Type}{enc:α→Value}{w:World}{m g o:Nat}{L:List (α×Nat)}{v:Value}(h:KM enc w m L)(hc:w.cell? ⟨g,o,none⟩=some v):g≠m:=by
 rintro rfl;rw[SN h]at hc;cases hc
theorem D7{w:World}(x:Ry)(g:Nat)(n:Nat)(hg:w.cell? ⟨g,6,none⟩=some (.int .u8 n)):Calls ai 130 #[.agg (bI x).toArray,.pointer (some ⟨g,0,none⟩)] w (Got (.bool (decide (x.id=n))) w):=by
 obtain⟨id,key,⟨⟨v,h,l⟩,p⟩⟩:=x;unfold bI;simp only;rw[show decide (id=n)=((id:Int)==(n:Int)) by rw[Bool.eq_iff_iff,decide_eq_true_eq,beq_iff_eq];omega];have hb:=boxed w (.cells #[.int .u8 id,.string key,.bool v,.int .u64 h,.int .u64 l,.int .u16 p] 71);have HS:=ae (aG.new w 71 #[.int .u8 id,.string key,.bool v,.int .u64 h,.int .u64 l,.int .u16 p]);have g0:=ak hg hb;have HB:=ae hb;clear hg hb;go_enter Tryz.func130,Tryz.ntmps130;go_upto_region 1 with fail
 generalize w.alloc (.cells #[.int .u8 id,.string key,.bool v,.int .u64 h,.int .u64 l,.int .u16 p] 71)=w1 at HB HS g0⊢;generalize w.heap.size=G at HS⊢;have s0:=HS.out.cell 0;simp at s0;go_wp2_with fail
 go_ret;exact⟨rfl,HB.out⟩
def j6(rl:List Ry)(p:Pr):Bool:=decide (p.aW=0)||rl.any fun r=>decide (r.id=p.aW)
theorem SO{w:World}{X:bG}(hX:eI w X)(fit:nC X.p)(sz:gI X.p){m sb mb:Nat}{ver pv pol:Value}{rv:Value}{rl:List Ry}(hr:gi w rv rl)(hrl:rl.length≤4000000)(acc:List Ad)(hnd:acc.Nodup)(hm:KM tt w m (cX acc))(hs:w.cell? ⟨sb,0,none⟩=some (.map (some m)))(hM:aG w mb 26 #[ver,pv,rv,pol]):Calls ai 128 #[.agg X.vals.toArray,.pointer (some ⟨sb,0,none⟩),.pointer (some ⟨mb,0,none⟩)] w fun r w'=>r=.returned (.bool (decide (acc++X.p.aH).Nodup&&j6 rl X.p))∧Keeps (fun x=>x=m) w w'∧((decide (acc++X.p.aH).Nodup&&j6 rl X.p)=true→KM tt w' m (cX (acc++X.p.aH))):=by
 have hco:=fun u(hu:Keeps (fun x=>x=m) w u)g(hg:u.cell? ⟨g,6,none⟩=some (.int .u8 (X.p.aW:Int)))(hrr:aV u rv rl.length 6 (fL rl))=>
  show Calls ai 129 #[rv,.func (.func 130) #[] #[.pointer (some ⟨g,0,none⟩)]] u (Got (.bool (rl.any fun r=>decide (r.id=X.p.aW))) u)from by
   rw[←M1];obtain⟨A,cap,rfl⟩:=hrr.shape;refine DT hrl _ _ hrr.gX _ _ (enters_of Tryz.func130 bJ rfl) fun k hk W hW=>?_
   have hxk:rl[k]? =some rl[k]:=ag hk;rw[show fL rl=rl.flatMap bI from rfl];simp only[hxk];rw[dn bI 6 cq rl k _ hxk];exact D7 _ g _ (ak hg hW)
 have hrk:∀u,Keeps (fun x=>x=m) w u→aV u rv rl.length 6 (fL rl):=fun u hu=>by
  obtain⟨A,cap,e,hlen,hc⟩:=hr;refine⟨A,cap,e,hlen,fun hp=>?_⟩;obtain⟨g,o,ha,hcc⟩:=hc hp;exact⟨g,o,ha,fun j v hv=>bw (hcc j v hv) hu (hm.ot (hcc j v hv))⟩
 have ado:=fit.aH;have hAl:=sz.al;have hA:=hX.aH;obtain⟨R,hR⟩:∃r,r=(decide (acc++X.p.aH).Nodup&&j6 rl X.p):=⟨_,rfl⟩;rw[←hR];unfold j6 at hR;generalize(rl.any fun r=>decide (r.id=X.p.aW))=RO at hco hR;obtain⟨A1,c1,e1⟩:=hX.tags.shape;obtain⟨A2,c2,e2⟩:=hX.aH.shape;obtain⟨A3,c3,e3⟩:=hX.ends.shape;obtain⟨Ar,cr,er⟩:=aV.shape hr;obtain⟨⟨key,bj,user,tags,aH,ex,aW,ends⟩,tv,av,ev⟩:=X;simp only at*;subst e1 e2 e3 er;unfold bG.vals;simp only at*;generalize tags.length=NT at*;generalize ends.length=NE at*;generalize rl.length=NR at*;obtain⟨NA,hNA⟩:∃n,n=aH.length:=⟨_,rfl⟩;rw[←hNA]at hA hAl⊢;have hb1:=boxed w (.cells #[.string key,.string bj,.string user,.slice A1 NT c1,.slice A2 NA c2,.int .u64 ex,.int .u8 aW,.slice A3 NE c3] 49);obtain⟨HP,RD,HRk,afO,HA,Vh,HR,HM,HW⟩:=af1 (aG.new w 49 #[.string key,.string bj,.string user,.slice A1 NT c1,.slice A2 NA c2,.int .u64 ex,.int .u8 aW,.slice A3 NE c3]) hco hrk ado hA hNA hR (hm.below hb1) hm;have s0:=ak hs hb1;obtain⟨HMb,HK,HND⟩:=bO (hM.below hb1 hM.lt) ((Keeps.refl (fun x=>x=m) w).than hb1) hnd;clear hco hrk ado hA hNA hR hm hs hM hb1 hnd hX fit sz hr;go_enter Tryz.func128,Tryz.ntmps128;go_upto_region 1 with fail
 generalize w.alloc (.cells #[.string key,.string bj,.string user,.slice A1 NT c1,.slice A2 NA c2,.int .u64 ex,.int .u8 aW,.slice A3 NE c3] 49)=w1 at HP HM s0 HMb HK⊢;generalize w.heap.size=P at HP⊢;obtain⟨HPm,aeQ,Xq⟩:=bO (HM.out.ne HP.out) (HM.out.ne HMb.out) (HM.out.ot s0);have p4:=HP.out.cell 4;have p6:=HP.out.cell 6;have m2:=HMb.out.cell 2;simp at p4 p6 m2;go_upto_region 2 with fail
 go_loopw [10] (fun v10 wr=>∃k:Nat,k≤NA∧v10=.int .i64 k∧af (KM tt wr m (cX (acc++aH.take k)))∧af (Keeps (fun x=>x=m) w1 wr)∧af ((acc++aH.take k).Nodup)) (fun v10 _=>NA-(intOf v10).toNat)
 case atStart=>exact⟨0,Nat.zero_le _,rfl,ae (by rw[List.take_zero,lS];exact HM.out),ae (Keeps.refl _ _),ae (by rw[List.take_zero,lS];exact HND.out)⟩
 case round=>
  obtain⟨k,hk,rfl,hkm,hkk,hno⟩:=hrel;by_cases hlt:k<NA
  ·have hkl:k<aH.length:=by rw[←Vh.out];exact hlt
   have hx:aH[k]? =some aH[k]:=ag hkl;obtain⟨_,q,o,hA,hcell⟩:=HA.out.gX k hlt;rw[show cR aH=aH.flatMap (fun a:Ad=>a.cells.toList)from rfl]at hcell;simp only at hcell;rw[dn (fun a:Ad=>a.cells.toList) 3 (fun a:Ad=>rfl) aH k _ hx]at hcell;subst hA;generalize aH[k]=x at hx hcell;have hKw:=HK.out.trans hkk.out;have d0:=bw (hcell 0 _ rfl) hKw (HW.out.ot (hcell 0 _ rfl));have d1:=bw (hcell 1 _ rfl) hKw (HW.out.ot (hcell 1 _ rfl));have d2:=bw (hcell 2 _ rfl) hKw (HW.out.ot (hcell 2 _ rfl));rw[Nat.add_zero]at d0;have hen:tt x=.agg #[.bool x.v6,.int .u64 (x.hi:Int),.int .u64 (x.lo:Int)]:=rfl;obtain⟨Hx,HKw⟩:=aQ hx hKw;clear hcell hx hkl hKw;go_upto_region 4 with fail
   obtain⟨xv,xh,xl⟩:=x;simp only at hen;have hb4:=boxed wr (.cells #[.bool xv,.int .u64 xh,.int .u64 xl] 44);obtain⟨Ig,D6,yJ⟩:=bO (aG.new wr 44 #[.bool xv,.int .u64 xh,.int .u64 xl]) (hkm.out.below hb4) (hkk.out.than hb4);have mS:=ae (D6.out.ne Ig.out);simp only;clear d0 d1 d2 hb4 hkm hkk HKw;generalize wr.alloc (.cells #[.bool xv,.int .u64 xh,.int .u64 xl] 44)=w4 at Ig D6 yJ⊢;generalize wr.heap.size=X at Ig mS⊢;obtain⟨x0,x1,x2⟩:=oM Ig;have xs:=bw s0 yJ.out Xq.out;have htk:acc++aH.take (k+1)=(acc++aH.take k)++[(⟨xv,xh,xl⟩:Ad)]:=by rw[agy,Hx.out,List.append_assoc];rfl
   by_cases hin:(⟨xv,xh,xl⟩:Ad)∈acc++aH.take k
   ·have di:af (R=false):=ae (by
     have hnd:¬(acc++aH).Nodup:=fun h=>by
      have h2:(acc++aH.take (k+1)).Nodup:=((List.Sublist.refl acc).append (List.take_sublist _ _)).nodup h;rw[htk,List.nodup_append]at h2;exact h2.2.2 _ hin _ (List.mem_singleton.2 rfl) rfl
     rw[HR.out,decide_eq_false hnd];simp)
    obtain⟨j,w5,w6,l0,en,l1,hk5,st,hk6,l2⟩:=yH (P:=ai) ZC Tryz.underlying149 Tryz.zeroValue3 D6.out.drew hin;rw[hen]at l0 en l1 l2;have rI:=ae (yJ.out.drew.trans hk6);have y0:=bw (w:=w4.drew) x0 hk5 mS.out;have y1:=bw (w:=w4.drew) x1 hk5 mS.out;have y2:=bw (w:=w4.drew) x2 hk5 mS.out;have ys:=bw (w:=w4.drew) xs hk5 Xq.out;have z0:=bw (w:=w4.drew) x0 hk6 mS.out;have z1:=bw (w:=w4.drew) x1 hk6 mS.out;have z2:=bw (w:=w4.drew) x2 hk6 mS.out;have zs:=bw (w:=w4.drew) xs hk6 Xq.out;clear hin hk5 hk6 htk;refine du 6 (fun w'=>(Instr.lookup 149 (.map (some m)) (.agg #[.bool xv,.int .u64 xh,.int .u64 xl]) false).run ai w'=.ok (.int .i64 1) w'∧w'.cell? ⟨X,0,none⟩=some (.bool xv)∧w'.cell? ⟨X,1,none⟩=some (.int .u64 xh)∧w'.cell? ⟨X,2,none⟩=some (.int .u64 xl)∧w'.cell? ⟨sb,0,none⟩=some (.map (some m))) bJ (⟨l0,x0,x1,x2,xs⟩) (fun hHeld=>?_);refine jF 0 ?_
    refine jF 1 ?_
    refine jF 2 ?_
    refine jF 3 ?_
    refine sH 4 fun K hK=>?_;go_simp;refine hK.out _ _ (fun _=>⟨l1,y0,y1,y2,ys⟩) (fun hHeld=>?_);have hHeld:=hHeld aI;clear hK K;try simp only[dX]
    refine jF 5 ?_
    refine sH 6 fun K hK=>?_;go_simp;rw[show IntKind.i64.wrap 2=2 by decide,st,tH];refine hK.out _ _ (fun h=>absurd rfl h) (fun _=>?_);clear hK K hHeld;try simp only[dX]
    refine zdE ?_;clear x0 x1 x2 y0 y1 y2 xs ys l0 l1 en st;go_wp2_with fail
    go_ret;exact⟨by rw[di.out];rfl,HK.out.trans rI.out,fun h=>by rw[di.out]at h;cases h⟩
   ·obtain⟨w5,w6,l0,en,l1,hk5,st,hk6,km6,l2⟩:=yG (P:=ai) ZC Tryz.underlying149 Tryz.zeroValue3 D6.out.drew hin;rw[hen]at l0 en l1 l2;rw[←htk]at km6;have adp:(acc++aH.take (k+1)).Nodup:=by
     rw[htk,List.nodup_append];refine⟨hno.out,by simp,fun a ha b hb=>?_⟩;rw[List.mem_singleton]at hb;subst hb;rintro rfl;exact hin ha
    obtain⟨aeR,rI,BM⟩:=bO adp (yJ.out.drew.trans hk6) km6;have y0:=bw (w:=w4.drew) x0 hk5 mS.out;have y1:=bw (w:=w4.drew) x1 hk5 mS.out;have y2:=bw (w:=w4.drew) x2 hk5 mS.out;have ys:=bw (w:=w4.drew) xs hk5 Xq.out;have z0:=bw (w:=w4.drew) x0 hk6 mS.out;have z1:=bw (w:=w4.drew) x1 hk6 mS.out;have z2:=bw (w:=w4.drew) x2 hk6 mS.out;have zs:=bw (w:=w4.drew) xs hk6 Xq.out;generalize(acc++aH.take k).length=J at en st;clear hin hk5 hk6 km6 htk adp;refine du 6 (fun w'=>(Instr.lookup 149 (.map (some m)) (.agg #[.bool xv,.int .u64 xh,.int .u64 xl]) false).run ai w'=.ok (.int .i64 0) w'∧w'.cell? ⟨X,0,none⟩=some (.bool xv)∧w'.cell? ⟨X,1,none⟩=some (.int .u64 xh)∧w'.cell? ⟨X,2,none⟩=some (.int .u64 xl)∧w'.cell? ⟨sb,0,none⟩=some (.map (some m))) bJ (⟨l0,x0,x1,x2,xs⟩) (fun hHeld=>?_);refine jF 0 ?_
    refine jF 1 ?_
    refine jF 2 ?_
    refine jF 3 ?_
    refine sH 4 fun K hK=>?_;go_simp;refine hK.out _ _ (fun _=>⟨l1,y0,y1,y2,ys⟩) (fun hHeld=>?_);have hHeld:=hHeld aI;clear hK K;try simp only[dX]
    refine jF 5 ?_
    refine sH 6 fun K hK=>?_;go_simp;rw[show IntKind.i64.wrap 1=1 by decide,st,tH];refine hK.out _ _ (fun h=>absurd rfl h) (fun _=>?_);clear hK K hHeld;try simp only[dX]
    refine zdE ?_;clear x0 x1 x2 y0 y1 y2 xs ys l0 l1 en st;go_wp2_with fail
    go_roundw
    case rel=>exact⟨k+1,by omega,by go_num,BM,rI,aeR⟩
    case measure=>simp[intOf];omega
  ·obtain rfl:k=NA:=by omega
   have hall:aH.take k=aH:=aO (by rw[←Vh.out];exact aw _);have aa8:=hkm.out;have zw:=hno.out;rw[hall]at aa8 zw;have HR2:=ae HR.out;rw[decide_eq_true zw,bT]at HR2;have HKe:=ae aa8;have z4:=bw p4 hkk.out HPm.out;have z6:=bw p6 hkk.out HPm.out;have zm:=bw m2 hkk.out aeQ.out;have HKw:=ae (HK.out.trans hkk.out);clear hall aa8 zw p4 p6 m2 hkm hno HR;by_cases k0:aW=0
   ·have q0:((aW:Int)==0)=true:=by simp;omega
    have Xg:af (R=true):=ae (by rw[HR2.out,decide_eq_true k0,Bool.true_or]);clear k0 HR2;go_wp2_with fail
    go_ret;exact⟨by rw[Xg.out];rfl,HKw.out,fun _=>HKe.out⟩
   ·have q0:((aW:Int)==0)=false:=by simp;omega
    have HRr:af (R=RO):=ae (by rw[HR2.out,decide_eq_false k0,Bool.false_or]);have HC:=ae (RD.out _ HKw.out _ z6 (HRk.out _ HKw.out));clear k0 HR2;go_wp2_with(go_at_call 129;(with_reducible refine HC.out.mono ?_);rintro r w7⟨rfl,d7⟩)
    go_ret;exact⟨by rw[HRr.out];rfl,HKw.out.than d7,fun _=>HKe.out.below d7⟩
def oN(l:List bG):List Ad:=l.flatMap fun X=>X.p.aH
def rU(rl:List Ry)(xs:List bG)(k:Nat):Bool:=match xs[k]? with
 |some X=>decide (oN (xs.take k)++X.p.aH).Nodup&&j6 rl X.p
 |none=>false
theorem D8(rl:List Ry)(xs:List bG):∀n,n≤xs.length→(List.range n).all (rU rl xs)=(decide (oN (xs.take n)).Nodup&&(xs.take n).all fun X=>j6 rl X.p)
 |0,_=>by simp[oN]
 |n+1,h=>by
  have ih:=D8 rl xs n aY;have hx:xs[n]? =some xs[n]:=ag aY;have htk:oN (xs.take (n+1))=oN (xs.take n)++xs[n].p.aH:=by unfold oN;rw[agy,hx,List.flatMap_append];simp only[Option.toList_some,Zg,List.flatMap_nil,lS]
  have hta:((xs.take (n+1)).all fun X=>j6 rl X.p)=(((xs.take n).all fun X=>j6 rl X.p)&&j6 rl xs[n].p):=by rw[agy,hx,List.all_append];simp only[Option.toList_some,List.all_cons,List.all_nil,Bool.and_true]
  rw[ff,ih,htk,hta];unfold rU;rw[hx];simp only;by_cases h1:(oN (xs.take n)).Nodup
  ·rw[decide_eq_true h1,bT];cases(decide (oN (xs.take n)++xs[n].p.aH).Nodup)<;>cases((xs.take n).all fun X=>j6 rl X.p)<;>simp
  ·have h2:¬(oN (xs.take n)++xs[n].p.aH).Nodup:=fun h=>h1 ((List.sublist_append_left _ _).nodup h)
   rw[decide_eq_false h1,decide_eq_false h2];simp
theorem NI(rl:List Ry)(xs:List bG):(List.range xs.length).all (rU rl xs)=(decide ((xs.map (·.p)).flatMap fun p=>p.aH).Nodup&&(xs.map (·.p)).all (j6 rl)):=by
 rw[D8 rl xs xs.length (aw _),List.take_length,List.flatMap_map,List.all_map];rfl
theorem SQ{w:World}(env:Env w){pv rv:Value}{m:Mp}(hp:dP w pv m.aJ)(hr:gi w rv m.aF)(fit:jM m)(sz:∀p∈m.aJ,gI p)(hpl:m.aJ.length≤4000000)(hrl:m.aF.length≤4000000)(hol:m.policy.size≤2000000):Calls ai 61 #[.agg #[.int .u64 (m.version:Int),pv,rv,.string m.policy]] w (Got (.bool (ip m)) w):=by
 have hps:=fun u(hu:Below w.heap.size w u)=>pg (env.below hu) (hp.below hu) hpl fit.aJ sz
 have hrs:=fun u(hu:Below w.heap.size w u)=>nF (env.below hu) (aV.below hr hu) hrl fit.aF
 have hpo:=fun u(hu:Below w.heap.size w u)=>nE (env.below hu) m.policy hol
 have hal:∀u mm sb mb,Below w.heap.size w u→w.heap.size≤mm→KM tt u mm (cX [])→u.cell? ⟨sb,0,none⟩=some (.map (some mm))→aG u mb 26 #[.int .u64 (m.version:Int),pv,rv,.string m.policy]→Calls ai 127 #[pv,.func (.func 128) #[] #[.pointer (some ⟨sb,0,none⟩),.pointer (some ⟨mb,0,none⟩)]] u fun r w'=>r=.returned (.bool (decide (m.aJ.flatMap (·.aH)).Nodup&&m.aJ.all (j6 m.aF)))∧Keeps (fun x=>x=mm) u w':=fun u mm sb mb hu hmm hkm hs hM=>by
  obtain⟨xs,hxs,hrow,hx⟩:=hp;rw[←hxs,←NI];obtain⟨A,cap,rfl⟩:=hrow.shape;have hlen:xs.length≤4000000:=by rw[←hxs,ay]at hpl;exact hpl
  refine Ic (m:=mm) hlen _ (rU m.aF xs) (fun k W=>KM tt W mm (cX (oN (xs.take k)))∧(oN (xs.take k)).Nodup∧W.cell? ⟨sb,0,none⟩=some (.map (some mm))∧aG W mb 26 #[.int .u64 (m.version:Int),.slice A xs.length cap,rv,.string m.policy]∧Keeps (fun x=>x=mm) u W) (fun k W W' h hb=>⟨h.1.below hb,h.2.1,ak h.2.2.1 hb,h.2.2.2.1.below hb h.2.2.2.1.lt,h.2.2.2.2.than hb⟩) hkm.lt (hrow.below hu).gX ?_ _ _ (enters_of Tryz.func128 bJ rfl) ?_ ⟨hkm,by simp[oN],hs,hM,Keeps.refl _ _⟩
  ·rintro h0 g o rfl hg;obtain⟨A',cap',e,hl,hc⟩:=hrow;injection e with e1 _ _
   obtain⟨g',o',ha,hcc⟩:=hc h0;rw[←e1]at ha;injection ha with ha
   injection ha with ha _ _
   subst ha;have hz:0<(cI xs).length:=by rw[hl];omega
   have hlt:=World.block_lt_of_cell? w _ (hcc 0 _ (ag hz));simp only at hlt;omega
  ·rintro k hk W⟨hk1,hk2,hk3,hk4,hk5⟩;have hxk:xs[k]? =some xs[k]:=ag hk;have hbW:Below w.heap.size w W:=hu.trans (hk5.below (fun x hx=>by subst hx;exact hmm) hu.size);have hmem:=bC hk;have hin:xs[k].p∈m.aJ:=by rw[←hxs];exact rE hmem
   have hc:=SO ((hx _ hmem).below hbW) (fit.aJ _ hin) (sz _ hin) (aV.below hr hbW) hrl _ hk2 hk1 hk3 hk4;rw[show cI xs=xs.flatMap bG.vals from rfl];rw[dn bG.vals 8 aC xs k _ hxk];have hst:rU m.aF xs k=(decide (oN (xs.take k)++xs[k].p.aH).Nodup&&j6 m.aF xs[k].p):=by unfold rU;rw[hxk]
   have htk:oN (xs.take (k+1))=oN (xs.take k)++xs[k].p.aH:=by unfold oN;rw[agy,hxk,List.flatMap_append];simp only[Option.toList_some,Zg,List.flatMap_nil,lS]
   rw[hst,htk];refine hc.mono fun r W' h=>⟨h.1,h.2.1,fun ht=>⟨h.2.2 ht,?_,bw hk3 h.2.1 (hk1.ot hk3),hk4.keep h.2.1 (hk1.ne hk4),hk5.trans h.2.1⟩⟩
   rw[Bool.and_eq_true,decide_eq_true_eq]at ht;exact ht.1
 obtain⟨R,hR⟩:∃r,r=ip m:=⟨_,rfl⟩;rw[←hR];unfold ip at hR;rw[show(m.aJ.all fun p=>decide (p.aW=0)||m.aF.any fun r=>decide (r.id=p.aW))=m.aJ.all (j6 m.aF)from rfl]at hR;generalize(decide (m.aJ.flatMap (·.aH)).Nodup&&m.aJ.all (j6 m.aF))=RL at hal hR;obtain⟨Ap,cp,rfl⟩:=hp.shape;obtain⟨Ar,cr,rfl⟩:=aV.shape hr;have hv:=fit.version;obtain⟨version,aJ,aF,policy⟩:=m;simp only at*;generalize iN aJ=RP at hps hR;generalize jb aF=RY at hrs hR;generalize kJ policy=RO at hpo hR;generalize aJ.length=NP at*;generalize aF.length=NR at*;obtain⟨Aw,HRs,MF,HAl,HR,HB,HM⟩:=uE hps hrs hpo hal hR (boxed w (.cells #[.int .u64 version,.slice Ap NP cp,.slice Ar NR cr,.string policy] 26)) (aG.new w 26 #[.int .u64 version,.slice Ap NP cp,.slice Ar NR cr,.string policy]);clear hps hrs hpo hal hR env hp hr fit sz hol;go_enter Tryz.func61,Tryz.ntmps61;go_upto_region 1 with fail
 generalize w.alloc (.cells #[.int .u64 version,.slice Ap NP cp,.slice Ar NR cr,.string policy] 26)=w1 at HB HM⊢;generalize hP:w.heap.size=P at HM⊢;obtain⟨m0,m1,m2,m3⟩:=jB HM;by_cases k1:1≤version;rotate_left
 ·obtain rfl:version=0:=by omega
  have di:af (R=false):=ae (by rw[HR.out,decide_eq_false k1];simp);clear k1;go_wp2_with fail
  go_ret;exact⟨by rw[di.out];rfl,HB.out⟩
 have q1:¬(version:Int)<1:=by omega
 have HR1:=ae HR.out;rw[decide_eq_true k1,bT]at HR1;clear HR k1;cases RP with
 |false=>
  have di:af (R=false):=ae (by rw[HR1.out];simp);go_wp2_with(go_at_call 114;(with_reducible refine(Aw.out _ HB.out).mono ?_);rintro r w2⟨rfl,d2⟩)
  go_ret;exact⟨by rw[di.out];rfl,after HB.out d2⟩
 |true=>
 cases RY with
 |false=>
  have di:af (R=false):=ae (by rw[HR1.out];simp);go_wp2_with(first
   |(go_at_call 114;(with_reducible refine(Aw.out _ HB.out).mono ?_);rintro r w2⟨rfl,d2⟩;have n2:=ak m2 d2)
   |(go_at_call 115;(with_reducible refine(HRs.out _ (after HB.out d2)).mono ?_);rintro r w3⟨rfl,d3⟩))
  go_ret;exact⟨by rw[di.out];rfl,after (after HB.out d2) d3⟩
 |true=>
 cases RO with
 |false=>
  have di:af (R=false):=ae (by rw[HR1.out];simp);go_wp2_with(first
   |(go_at_call 114;(with_reducible refine(Aw.out _ HB.out).mono ?_);rintro r w2⟨rfl,d2⟩;have n2:=ak m2 d2;have n3:=ak m3 d2)
   |(go_at_call 115;(with_reducible refine(HRs.out _ (after HB.out d2)).mono ?_);rintro r w3⟨rfl,d3⟩;have v3:=ak n3 d3)
   |(go_at_call 116;(with_reducible refine(MF.out _ (after (after HB.out d2) d3)).mono ?_);rintro r w4⟨rfl,d4⟩))
  go_ret;exact⟨by rw[di.out];rfl,after (after (after HB.out d2) d3) d4⟩
 |true=>
  have HRl:af (R=RL):=ae (by rw[HR1.out];simp);clear HR1;have hmm:= @run_makeMap ai;go_upto_region 3 with(first
   |(go_at_call 114;(with_reducible refine(Aw.out _ HB.out).mono ?_);rintro r w2⟨rfl,d2⟩;have n2:=ak m2 d2;have n3:=ak m3 d2)
   |(go_at_call 115;(with_reducible refine(HRs.out _ (after HB.out d2)).mono ?_);rintro r w3⟨rfl,d3⟩;have v3:=ak n3 d3)
   |(go_at_call 116;(with_reducible refine(MF.out _ (after (after HB.out d2) d3)).mono ?_);rintro r w4⟨rfl,d4⟩))
  have e4:=after d2 (after d3 d4);have HB4:=bm HB e4;have D6:=ae (HM.out.below e4 HM.out.lt);clear m0 m1 m2 m3 n2 n3 v3 d2 d3 d4 e4 HB HM;obtain⟨-,c1⟩:=pW D6;go_upto_region 4 with fail
  clear hmm c1;have hb5:=fe w4 (.map #[] 0) (.cells #[.map (some w4.heap.size)] 149);have hKM:KM tt (w4.alloc (.map #[] 0)) w4.heap.size (cX []):=heap_alloc_new w4 _;have HKM:=ae (hKM.below (boxed _ (.cells #[.map (some w4.heap.size)] 149)));have hS:((w4.alloc (.map #[] 0)).alloc (.cells #[.map (some w4.heap.size)] 149)).cell? ⟨w4.heap.size+1,0,none⟩=some (.map (some w4.heap.size)):=by
   have:=(aG.new (w4.alloc (.map #[] 0)) 149 #[.map (some w4.heap.size)]).cell 0;rw[show(w4.alloc (.map #[] 0)).heap.size=w4.heap.size+1 by simp]at this;exact this
  have HS:=ae hS;have nt:=bm HB4 hb5;have rN:=ae (D6.out.below hb5 D6.out.lt);have hmm:w.heap.size≤w4.heap.size:=HB4.out.size;have Hmm:=ae hmm;clear hS hKM hb5 HB4 D6 hmm;generalize(w4.alloc (.map #[] 0)).alloc (.cells #[.map (some w4.heap.size)] 149)=w5 at HKM HS nt rN⊢;generalize w4.heap.size+1=SB at HS⊢;generalize w4.heap.size=MM at HKM HS Hmm⊢;obtain⟨-,c1⟩:=pW rN;go_wp2_with(go_at_call 127;(with_reducible refine(HAl.out _ _ _ _ nt.out Hmm.out HKM.out HS.out rN.out).mono ?_);rintro r w6⟨rfl,k6⟩)
  go_ret;exact⟨by rw[HRl.out];rfl,nt.out.trans (k6.below (fun x hx=>by subst hx;exact Hmm.out) nt.out.size)⟩
end Go.Proofs.YtdfnhljccdoncaaGreatDoor
