/- Joined out of: NfB EyA EyB EyC EyD NfC NfD. -/
import Derived.Test.YtkjaajcpbldjoaaGreatDoorKai
import Derived.Deep.Cut
set_option linter.unusedVariables false
set_option linter.unusedSimpArgs false
set_option maxHeartbeats 16000000
set_option maxRecDepth 100000
open Bool renaming eq_iff_iff→fE
open Go.Lib renaming hid→ae
open Go.Proofs.Tryz renaming prog→ah,underlying23→ahV
open Go.RowKit renaming Hid→ag
open Go.RowKit.Below renaming refl→aM
open Go.Value renaming slice→dq
open Go.World renaming ownsRow_nil→bg
open List renaming getElem?_eq_getElem→af,length_append→ai,length_map→ay,take_of_length_le→aJ,getElem_mem→a8,map_append→cH,length_singleton→dn,nil_append→lI,map_singleton→ahC
open Nat renaming le_trans→aw,le_refl→aA,lt_succ_self→oL,zero_add→ahU
open Option renaming bind_some→ahJ
namespace Go.Proofs.YtkjaajcpbldjoaaGreatDoor
open Go.RowKit
attribute [local go_sem↓] Go.wp_at_zero Go.wp_at_succ
theorem Vw:(ah.info? 52).map (fun i=>(i.zero,i.size,i.bytes))=some (some (.agg #[.bool false,.int .u64 0,.int .u64 0]),3,24):=by kernel_rfl
theorem Vx:(ah.info? 55).map (fun i=>(i.zero,i.size,i.bytes))=some (some (.agg #[.bool false,.int .u64 0,.int .u64 0,.int .u16 0]),4,32):=by kernel_rfl
theorem Vy:(ah.info? 57).map (fun i=>(i.zero,i.size,i.bytes))=some (some (.agg #[.int .u8 0,aI,.bool false,.int .u64 0,.int .u64 0,.int .u16 0]),6,56):=by kernel_rfl
theorem Vz{w:World}{v:Value}{n:Nat}{xs:List Value}(h:aY w v n 3 xs)(hn:n≤2000000)(h1:∀u∈xs,u.oneCell'=true):Calls ah 111 #[v] w (uT 52 3 n xs w):=by
 obtain⟨A,cap,rfl⟩:=h.shape;cases A with
 |none=>
  obtain⟨rfl,rfl⟩:=sf h;clear h;have e1:∀W,(binOp .eql 47 (.slice none 0 cap) au).run ah W=.ok (.bool true) W:=fun _=>by kernel_rfl
  go_enter Tryz.func111,Tryz.ntmps111;go_wp2_with fail
  go_ret;exact⟨⟨none,0,rfl,bg _ _ _ _⟩,aM _ _⟩
 |some a=>
  obtain⟨hl,hnews⟩:=sc h;obtain⟨i0,hi,hz0,hz1,hz2⟩:=info_parts Vw;have HB:=ae (boxed w (.cells #[] 52));have HO:=ae (World.ownsRow_lit (e:=52) (size:=3) (base:=w.heap.size) w #[] 0 (aA _) (by unfold maxLen;omega) rfl);have UN:=ae fun j u hu=>kQ (hnews j u hu) HB.out
  obtain⟨HL,H1⟩:=aN hl h1;clear h hl hnews h1;have e1:∀W,(binOp .eql 47 (.slice (some a) n cap) au).run ah W=.ok (.bool false) W:=fun _=>by kernel_rfl
  go_enter Tryz.func111,Tryz.ntmps111;go_wp2_with(at_builtin;refine wpList_append_own _ rfl _ _ 47 rfl w.heap.size 52 i0 (.agg #[.bool false,.int .u64 0,.int .u64 0]) 3 24 Tryz.underlying47 hi hz0 hz1 hz2 rfl aH _ 0 [] rfl HO.out a n cap xs rfl HL.out UN.out H1.out (by unfold maxLen;omega) aQ (by simp) ?_;intro v' w' ho hg hnil;obtain⟨A5,c5,rfl⟩:=aV ho;rw[ahU]at ho;obtain⟨Is,ZN⟩:=aN ho (HB.out.grown hg HB.out.size (fun q hq=>(HO.out.lt q hq).1));clear ho hg hnil)
  go_ret;exact⟨⟨A5,c5,rfl,by have:=Is.out;rw[lI]at this;exact this⟩,ZN.out⟩
theorem VA{w:World}{v:Value}{n:Nat}{xs:List Value}(h:aY w v n 4 xs)(hn:n≤2000000)(h1:∀u∈xs,u.oneCell'=true):Calls ah 112 #[v] w (uT 55 4 n xs w):=by
 obtain⟨A,cap,rfl⟩:=h.shape;cases A with
 |none=>
  obtain⟨rfl,rfl⟩:=sf h;clear h;have e1:∀W,(binOp .eql 48 (.slice none 0 cap) au).run ah W=.ok (.bool true) W:=fun _=>by kernel_rfl
  go_enter Tryz.func112,Tryz.ntmps112;go_wp2_with fail
  go_ret;exact⟨⟨none,0,rfl,bg _ _ _ _⟩,aM _ _⟩
 |some a=>
  obtain⟨hl,hnews⟩:=sc h;obtain⟨i0,hi,hz0,hz1,hz2⟩:=info_parts Vx;have HB:=ae (boxed w (.cells #[] 55));have HO:=ae (World.ownsRow_lit (e:=55) (size:=4) (base:=w.heap.size) w #[] 0 (aA _) (by unfold maxLen;omega) rfl);have UN:=ae fun j u hu=>kQ (hnews j u hu) HB.out
  obtain⟨HL,H1⟩:=aN hl h1;clear h hl hnews h1;have e1:∀W,(binOp .eql 48 (.slice (some a) n cap) au).run ah W=.ok (.bool false) W:=fun _=>by kernel_rfl
  go_enter Tryz.func112,Tryz.ntmps112;go_wp2_with(at_builtin;refine wpList_append_own _ rfl _ _ 48 rfl w.heap.size 55 i0 (.agg #[.bool false,.int .u64 0,.int .u64 0,.int .u16 0]) 4 32 Tryz.underlying48 hi hz0 hz1 hz2 rfl aH _ 0 [] rfl HO.out a n cap xs rfl HL.out UN.out H1.out (by unfold maxLen;omega) aQ (by simp) ?_;intro v' w' ho hg hnil;obtain⟨A5,c5,rfl⟩:=aV ho;rw[ahU]at ho;obtain⟨Is,ZN⟩:=aN ho (HB.out.grown hg HB.out.size (fun q hq=>(HO.out.lt q hq).1));clear ho hg hnil)
  go_ret;exact⟨⟨A5,c5,rfl,by have:=Is.out;rw[lI]at this;exact this⟩,ZN.out⟩
theorem yk{w:World}{v:Value}{n:Nat}{xs:List Value}(h:aY w v n 6 xs)(hn:n≤2000000)(h1:∀u∈xs,u.oneCell'=true):Calls ah 57 #[v] w (uT 57 6 n xs w):=by
 obtain⟨A,cap,rfl⟩:=h.shape;cases A with
 |none=>
  obtain⟨rfl,rfl⟩:=sf h;clear h;have e1:∀W,(binOp .eql 24 (.slice none 0 cap) au).run ah W=.ok (.bool true) W:=fun _=>by kernel_rfl
  go_enter Tryz.func57,Tryz.ntmps57;go_wp2_with fail
  go_ret;exact⟨⟨none,0,rfl,bg _ _ _ _⟩,aM _ _⟩
 |some a=>
  obtain⟨hl,hnews⟩:=sc h;obtain⟨i0,hi,hz0,hz1,hz2⟩:=info_parts Vy;have HB:=ae (boxed w (.cells #[] 57));have HO:=ae (World.ownsRow_lit (e:=57) (size:=6) (base:=w.heap.size) w #[] 0 (aA _) (by unfold maxLen;omega) rfl);have UN:=ae fun j u hu=>kQ (hnews j u hu) HB.out
  obtain⟨HL,H1⟩:=aN hl h1;clear h hl hnews h1;have e1:∀W,(binOp .eql 24 (.slice (some a) n cap) au).run ah W=.ok (.bool false) W:=fun _=>by kernel_rfl
  go_enter Tryz.func57,Tryz.ntmps57;go_wp2_with(at_builtin;refine wpList_append_own _ rfl _ _ 24 rfl w.heap.size 57 i0 (.agg #[.int .u8 0,aI,.bool false,.int .u64 0,.int .u64 0,.int .u16 0]) 6 56 Tryz.underlying24 hi hz0 hz1 hz2 rfl aH _ 0 [] rfl HO.out a n cap xs rfl HL.out UN.out H1.out (by unfold maxLen;omega) aQ (by simp) ?_;intro v' w' ho hg hnil;obtain⟨A5,c5,rfl⟩:=aV ho;rw[ahU]at ho;obtain⟨Is,ZN⟩:=aN ho (HB.out.grown hg HB.out.size (fun q hq=>(HO.out.lt q hq).1));clear ho hg hnil)
  go_ret;exact⟨⟨A5,c5,rfl,by have:=Is.out;rw[lI]at this;exact this⟩,ZN.out⟩
structure Ey where
 s:ByteArray
 f:Nat
 odd:Bool
def Ey.fine(e:Ey):Prop:=e.f=0∧e.odd=false
def Ey.iH(e:Ey):Bool:= !e.odd&&decide (e.f=0)
theorem Ey.pJ(e:Ey):e.iH=true↔e.fine:=by
 unfold Ey.iH Ey.fine;cases e.odd<;>simp
abbrev Rg(α:Type):=Ey→α×Ey
def Ey.tk(e:Ey)(n:Nat):Ey:=⟨oM e.s e.f n,oH e.s e.f n,e.odd⟩
def bK(n:Nat):Rg Nat:=fun e=>(jG e.s e.f n,e.tk n)
def keyE(n:Nat):Rg ByteArray:=fun e=>(td e.s e.f n,e.tk n)
def cU{α β:Type}(p:Rg α)(g:α→Rg β):Rg β:=fun e=>g (p e).1 (p e).2
def jd{α:Type}(x:α):Rg α:=fun e=>(x,e)
def KH(f n:Nat):Nat:=if f=0∧32768<n then 4 else f
def Dk(s0:ByteArray)(n:Nat):Rg ByteArray:=fun e=>(td e.s (KH e.f n) n,⟨if KH e.f n=0∧n≤e.s.size then oM e.s (KH e.f n) n else s0,oH e.s (KH e.f n) n,e.odd⟩)
def gi:Rg ByteArray:=fun e=>cU (bK 2) (Dk e.s) e
def ae9:Rg Ad:=fun e=>(⟨false,0,0⟩,⟨e.s,e.f,true⟩)
def tj:Rg Ad:=cU (bK 1) fun k=>if k=4 then cU (bK 4) fun l=>jd ⟨false,0,l⟩else if k=6 then cU (bK 8) fun h=>cU (bK 8) fun l=>jd ⟨true,h,l⟩else ae9
def Et:Rg En:=cU tj fun a=>cU (bK 2) fun p=>jd (a,p)
def ek{α:Type}(p:Rg α):Nat→Rg (List α)
 |0=>jd []
 |n+1=>fun e=>if e.iH then cU p (fun x=>cU (ek p n) fun l=>jd (x::l)) e else([],e)
def cq{α:Type}(p:Rg α):Rg (List α):=cU (bK 2) (ek p)
def Gt:Rg Pr:=cU (keyE 32) fun k=>cU (keyE 32) fun d=>cU gi fun u=>cU (cq gi) fun ts=>cU (cq tj) fun as_=>cU (bK 8) fun ex=>cU (bK 1) fun rl=>cU (cq Et) fun es=>jd ⟨k,d,u,ts,as_,ex,rl,es⟩
def Iu:Rg Ry:=cU (bK 1) fun i=>cU (keyE 32) fun k=>cU Et fun e=>jd ⟨i,k,e⟩
def Iw:Rg Mp:=cU (bK 8) fun v=>cU (cq Gt) fun ps=>cU (cq Iu) fun rs=>cU gi fun t=>jd ⟨v,ps,rs,t⟩
def lZ:Rg Bool:=fun e=>(decide (jG e.s e.f 1=1),⟨oM e.s e.f 1,oH e.s e.f 1,e.odd||decide (1<jG e.s e.f 1)⟩)
def ym{α:Type}(b:Bool)(z:α)(p:Rg α):Rg α:=if b then p else jd z
def Ix:Rg Dl:=cU (bK 8) fun b=>cU (bK 8) fun v=>cU (cq Gt) fun ps=>cU (cq (keyE 32)) fun g=>cU lZ fun hr=>cU (ym hr [] (cq Iu)) fun rs=>cU lZ fun hp=>cU (ym hp ⟨#[]⟩ gi) fun t=>cU (keyE 32) fun h=>jd ⟨b,v,ps,g,hr,rs,hp,t,h⟩
structure wI{α:Type}(p:Rg α)(q:Ps α):Prop where
 good:∀e,e.fine→∀x r,q e.s.data.toList=some (x,r)→p e=(x,⟨gJ r,0,false⟩)
 bad:∀e,e.fine→q e.s.data.toList=none→¬(p e).2.fine
 stay:∀e,¬e.fine→¬(p e).2.fine
theorem iI{α:Type}(x:α):wI (jd x) (mR x)where
 good:=fun e he y r h=>by
  injection h with h
  injection h with h1 h2
  obtain⟨s,f,o⟩:=e;obtain⟨rfl,rfl⟩:f=0∧o=false:=he;subst h1 h2;rfl
 bad:=fun e _ h=>by cases h
 stay:=fun e h=>h
theorem bY{α β:Type}{p:Rg α}{q:Ps α}{g:α→Rg β}{k:α→Ps β}(h:wI p q)(hg:∀x,wI (g x) (k x)):wI (cU p g) (cK q k)where
 good:=fun e he y r hq=>by
  unfold cK at hq;cases hp:q e.s.data.toList with
  |none=>rw[hp]at hq;cases hq
  |some z=>
   obtain⟨x,u⟩:=z;rw[hp]at hq;have h1:=h.good e he x u hp;have h2:=(hg x).good ⟨gJ u,0,false⟩ ⟨rfl,rfl⟩ y r hq;unfold cU;rw[h1];exact h2
 bad:=fun e he hq=>by
  unfold cK at hq;unfold cU;cases hp:q e.s.data.toList with
  |none=>exact(hg _).stay _ (h.bad e he hp)
  |some z=>
   obtain⟨x,u⟩:=z;rw[hp]at hq;rw[h.good e he x u hp];exact(hg x).bad ⟨gJ u,0,false⟩ ⟨rfl,rfl⟩ hq
 stay:=fun e he=>(hg _).stay _ (h.stay e he)
theorem Nv{e:Ey}{n:Nat}(h:(e.tk n).fine):e.fine∧n≤e.s.size:=by
 obtain⟨h1,h2⟩:=h;unfold Ey.tk oH at h1;simp only at h1;split at h1
 ·next hf=>
  split at h1
  ·next hn=>exact⟨⟨hf,h2⟩,hn⟩
  ·cases h1
 ·next hf=>exact absurd h1 hf
theorem VB(s:ByteArray)(n:Nat):(s.extract 0 n).data.toList=s.data.toList.take n:=by
 rw[ByteArray.data_extract];simp
theorem VC(s:ByteArray)(n:Nat):(s.extract n s.size).data.toList=s.data.toList.drop n:=by
 rw[ByteArray.data_extract];simp;rw[aJ (by rw[List.length_drop,dT];exact aA _)]
theorem VD{s:ByteArray}{l:List UInt8}(h:s.data.toList=l):s=gJ l:=by rw[←h];exact(acO s).symm
theorem aad{e:Ey}(he:e.fine){n:Nat}(hn:n≤e.s.data.toList.length):td e.s e.f n=gJ (e.s.data.toList.take n)∧e.tk n=⟨gJ (e.s.data.toList.drop n),0,false⟩:=by
 obtain⟨s,f,o⟩:=e;obtain⟨rfl,rfl⟩:f=0∧o=false:=he;simp only at hn⊢;rw[dT]at hn;refine⟨?_,?_⟩
 ·unfold td;rw[if_pos ⟨rfl,hn⟩];exact VD (VB s n)
 ·unfold Ey.tk oM oH;simp only;rw[if_pos ⟨trivial,hn⟩,if_pos trivial,if_pos hn];rw[VD (VC s n)]
theorem QO(l:List UInt8):Tc (gJ l)=qC l:=by
 unfold Tc rM kg qC gJ;rw[List.foldl_map]
theorem AQ{n:Nat}{t x r:List UInt8}(h:kl n t=some (x,r)):n≤t.length∧x=t.take n∧r=t.drop n:=by
 unfold kl at h;split at h
 ·next hn=>injection h with h;injection h with h1 h2;exact⟨hn,h1.symm,h2.symm⟩
 ·cases h
theorem QP{n:Nat}{t:List UInt8}(h:kl n t=none):t.length<n:=by
 unfold kl at h;split at h
 ·cases h
 ·omega
theorem Gu{α:Type}(n:Nat)(F:ByteArray→α):wI (fun e=>(F (td e.s e.f n),e.tk n)) (fun t=>(kl n t).map fun x=>(F (gJ x.1),x.2))where
 good:=fun e he y r h=>by
  cases ht:kl n e.s.data.toList with
  |none=>simp only[ht]at h;cases h
  |some z=>
   obtain⟨x,u⟩:=z;simp only[ht]at h;injection h with h
   injection h with h1 h2
   obtain⟨hn,e1,e2⟩:=AQ ht;obtain⟨g1,g2⟩:=aad he hn;simp only at h1 h2;subst e1 e2 h1 h2;rw[g1,g2]
 bad:=fun e he h=>by
  intro hf;have:=(Nv hf).2;cases ht:kl n e.s.data.toList with
  |none=>have:=QP ht;rw[dT]at this;omega
  |some z=>simp only[ht]at h;cases h
 stay:=fun e he hf=>he (Nv hf).1
theorem eU(n:Nat):wI (bK n) (lp n):=by
 have:=Gu n Tc;unfold bK lp jG;simp only[QO]at this;exact this
theorem l9(n:Nat):wI (keyE n) (vJ n):=Gu n fun s=>s
theorem Gv{α:Type}{p:Rg α}(h:∀e,¬(p e).2.fine):wI p (fun _=>none)where
 good:=fun e _ x r hq=>by cases hq
 bad:=fun e _ _=>h e
 stay:=fun e _=>h e
theorem VE:wI tj adP:=by
 refine bY (eU 1) fun k=>?_
 by_cases h4:k=4
 ·rw[if_pos h4,if_pos h4];exact bY (eU 4) fun l=>iI _
 ·rw[if_neg h4,if_neg h4];by_cases h6:k=6
  ·rw[if_pos h6,if_pos h6];exact bY (eU 8) fun h=>bY (eU 8) fun l=>iI _
  ·rw[if_neg h6,if_neg h6];exact Gv fun e h=>by cases h.2
theorem VF:wI Et enP:=bY VE fun _=>bY (eU 2) fun _=>iI _
theorem Dm(s0:ByteArray)(n:Nat)(hn:¬32768<n)(e:Ey):(Dk s0 n e).1=(keyE n e).1∧(e.f=0∧n≤e.s.size→(Dk s0 n e).2=(keyE n e).2)∧(Dk s0 n e).2.f=(keyE n e).2.f∧(Dk s0 n e).2.odd=(keyE n e).2.odd:=by
 have h:KH e.f n=e.f:=by unfold KH;rw[if_neg aQ]
 unfold Dk keyE Ey.tk;simp only[h];exact⟨trivial,fun g=>by rw[if_pos g],trivial,trivial⟩
theorem yn(s0:ByteArray)(n:Nat):wI (Dk s0 n) (if 32768<n then fun _=>none else vJ n):=by
 by_cases hn:32768<n
 ·rw[if_pos hn];refine Gv fun e h=>?_
  obtain⟨h1,h2⟩:=h;have h3:KH e.f n≠0:=by
   unfold KH;split
   ·decide
   ·next h=>intro h0;exact h ⟨h0,hn⟩
  unfold Dk oH at h1;simp only at h1;rw[if_neg h3]at h1;exact h3 h1
 ·rw[if_neg hn];refine⟨fun e he x r hq=>?_,fun e he hq hf=>?_,fun e he hf=>?_⟩
  ·obtain⟨h1,h2,_,_⟩:=Dm s0 n hn e;have hk:=(l9 n).good e he x r hq;have hle:n≤e.s.size:=by
    unfold vJ at hq;cases ht:kl n e.s.data.toList with
    |none=>rw[ht]at hq;cases hq
    |some z=>have:=(AQ (x:=z.1) (r:=z.2) ht).1;rw[dT]at this;exact this
   have h3:=h2 ⟨he.1,hle⟩;rw[hk]at h1 h3;exact Prod.ext h1 h3
  ·obtain⟨_,_,h3,h4⟩:=Dm s0 n hn e;exact(l9 n).bad e he hq ⟨h3▸hf.1,h4▸hf.2⟩
  ·obtain⟨_,_,h3,h4⟩:=Dm s0 n hn e;exact(l9 n).stay e he ⟨h3▸hf.1,h4▸hf.2⟩
theorem wJ:wI gi J6 where
 good:=fun e he x r hq=>(bY (eU 2) (yn e.s)).good e he x r hq
 bad:=fun e he hq=>(bY (eU 2) (yn e.s)).bad e he hq
 stay:=fun e he=>(bY (eU 2) (yn e.s)).stay e he
theorem Gw{α:Type}{p:Rg α}{q:Ps α}(h:wI p q):∀n,wI (ek p n) (xX q n)
 |0=>iI []
 |n+1=>by
  have ih:=bY h fun x=>bY (Gw h n) fun l=>iI (x::l)
  have hd:∀e,ek p (n+1) e=if e.iH then cU p (fun x=>cU (ek p n) fun l=>jd (x::l)) e else([],e):=fun e=>rfl
  refine⟨fun e he x r hq=>?_,fun e he hq hf=>?_,fun e he hf=>?_⟩
  ·rw[hd,if_pos ((Ey.pJ e).2 he)];exact ih.good e he x r hq
  ·rw[hd,if_pos ((Ey.pJ e).2 he)]at hf;exact ih.bad e he hq hf
  ·rw[hd,if_neg (fun h=>he ((Ey.pJ e).1 h))]at hf;exact he hf
theorem kn{α:Type}{p:Rg α}{q:Ps α}(h:wI p q):wI (cq p) (pF q):=bY (eU 2) fun n=>Gw h n
theorem VG:wI Gt prP:=bY (l9 32) fun _=>bY (l9 32) fun _=>bY wJ fun _=>bY (kn wJ) fun _=>bY (kn VE) fun _=>bY (eU 8) fun _=>bY (eU 1) fun _=>bY (kn VF) fun _=>iI _
theorem VH:wI Iu ryP:=bY (eU 1) fun _=>bY (l9 32) fun _=>bY VF fun _=>iI _
theorem acR:wI Iw mpP:=bY (eU 8) fun _=>bY (kn VG) fun _=>bY (kn VH) fun _=>bY wJ fun _=>iI _
theorem Gx:wI lZ mS where
 good:=fun e he x r hq=>by
  unfold mS cK at hq;cases hp:lp 1 e.s.data.toList with
  |none=>rw[hp]at hq;cases hq
  |some z=>
   obtain⟨k,u⟩:=z;rw[hp]at hq;have hn:=(eU 1).good e he k u hp;have h1:jG e.s e.f 1=k:=congrArg Prod.fst hn;have h2:e.tk 1=⟨gJ u,0,false⟩:=congrArg Prod.snd hn;have h3:oM e.s e.f 1=gJ u:=congrArg Ey.s h2;have h4:oH e.s e.f 1=0:=congrArg Ey.f h2;simp only[ahJ]at hq;split at hq
   ·cases hq
   ·next hk=>
    injection hq with hq
    injection hq with e1 e2
    unfold lZ;rw[h1,h3,h4,e1,e2,he.2,decide_eq_false hk];rfl
 bad:=fun e he hq hf=>by
  unfold mS cK at hq;cases hp:lp 1 e.s.data.toList with
  |none=>
   have:=(eU 1).bad e he hp;refine this ⟨hf.1,he.2⟩
  |some z=>
   obtain⟨k,u⟩:=z;rw[hp]at hq;have hn:=(eU 1).good e he k u hp;have h1:jG e.s e.f 1=k:=congrArg Prod.fst hn;simp only[ahJ]at hq;split at hq
   ·next hk=>
    have h2:=hf.2;unfold lZ at h2;simp only at h2;rw[h1,decide_eq_true hk,Bool.or_true]at h2;cases h2
   ·cases hq
 stay:=fun e he hf=>by
  have h2:=hf.2;unfold lZ at h2;simp only[Bool.or_eq_false_iff]at h2;exact(eU 1).stay e he ⟨hf.1,h2.1⟩
theorem Gy{α:Type}{p:Rg α}{q:Ps α}(h:wI p q)(b:Bool)(z:α):wI (ym b z p) (F8 b z q):=by
 cases b with
 |false=>exact iI z
 |true=>exact h
theorem acS:wI Ix dlP:=bY (eU 8) fun _=>bY (eU 8) fun _=>bY (kn VG) fun _=>bY (kn (l9 32)) fun _=>bY Gx fun _=>bY (Gy (kn VH) _ _) fun _=>bY Gx fun _=>bY (Gy wJ _ _) fun _=>bY (l9 32) fun _=>iI _
def tY(e:Ey):Bool:=e.iH&&decide (e.s.size=0)
theorem KI{α:Type}{q:Ps α}{t:List UInt8}(hs:¬32768<t.length)(h:q t=none):eD q t=none:=by unfold eD;rw[if_neg hs,h]
theorem QQ{α:Type}{q:Ps α}{t:List UInt8}{x:α}(hs:¬32768<t.length)(h:q t=some (x,[])):eD q t=some x:=by unfold eD;rw[if_neg hs,h]
theorem KJ{α:Type}{q:Ps α}{t r:List UInt8}{x:α}{c:UInt8}(hs:¬32768<t.length)(h:q t=some (x,c::r)):eD q t=none:=by unfold eD;rw[if_neg hs,h]
theorem AU{α:Type}{p:Rg α}{q:Ps α}(h:wI p q)(s:ByteArray)(hs:¬32768<s.size):(tY (p ⟨s,0,false⟩).2=true∧eD q s.data.toList=some (p ⟨s,0,false⟩).1)∨(tY (p ⟨s,0,false⟩).2=false∧eD q s.data.toList=none):=by
 have hl:¬32768<s.data.toList.length:=by rw[dT];exact hs
 have hf:(⟨s,0,false⟩:Ey).fine:=⟨rfl,rfl⟩;cases hq:q s.data.toList with
 |none=>
  refine Or.inr ⟨?_,KI hl hq⟩;have hb:=h.bad _ hf hq;cases he:tY (p ⟨s,0,false⟩).2 with
  |false=>rfl
  |true=>
   unfold tY at he;simp only[Bool.and_eq_true]at he;exact absurd ((Ey.pJ _).1 he.1) hb
 |some z=>
  obtain⟨x,r⟩:=z;have hg:=h.good _ hf x r hq;cases r with
  |nil=>
   rw[QQ hl hq,hg];exact Or.inl ⟨rfl,rfl⟩
  |cons c r=>
   rw[KJ hl hq,hg];refine Or.inr ⟨?_,rfl⟩;unfold tY;have:(gJ (c::r)).size=r.length+1:=rfl;simp[this]
def vk{α:Type}(p:Rg α):Prop:=∀e,(p e).2.s.size≤e.s.size
theorem mY(s:ByteArray)(f n:Nat):(oM s f n).size≤s.size:=by
 unfold oM;split
 ·rw[ByteArray.size_extract];omega
 ·exact aA _
theorem ko{α:Type}(x:α):vk (jd x):=fun _=>aA _
theorem ef(n:Nat):vk (bK n):=fun _=>mY _ _ _
theorem mc(n:Nat):vk (keyE n):=fun _=>mY _ _ _
theorem Gz:vk lZ:=fun _=>mY _ _ _
theorem dM{α β:Type}{p:Rg α}{g:α→Rg β}(h:vk p)(hg:∀x,vk (g x)):vk (cU p g):=fun e=>aw (hg _ _) (h e)
theorem qm:vk gi:=fun e=>by
 have h1:=mY e.s e.f 2;unfold gi cU Dk bK Ey.tk;simp only;split
 ·exact aw (mY _ _ _) h1
 ·exact aA _
theorem VI{α:Type}{c:Prop}[Decidable c]{p q:Rg α}(hp:vk p)(hq:vk q):vk (if c then p else q):=by
 split
 ·exact hp
 ·exact hq
theorem yo:vk tj:=dM (ef 1) fun _=>VI (dM (ef 4) fun _=>ko _) (VI (dM (ef 8) fun _=>dM (ef 8) fun _=>ko _) fun _=>aA _)
theorem KL:vk Et:=dM yo fun _=>dM (ef 2) fun _=>ko _
theorem GF{α:Type}{p:Rg α}(h:vk p):∀n,vk (ek p n)
 |0=>ko []
 |n+1=>fun e=>by
  rw[show ek p (n+1) e=if e.iH then cU p (fun x=>cU (ek p n) fun l=>jd (x::l)) e else([],e)from rfl];split
  ·exact(dM h fun x=>dM (GF h n) fun _=>ko _) e
  ·exact aA _
theorem iJ{α:Type}{p:Rg α}(h:vk p):vk (cq p):=dM (ef 2) fun n=>GF h n
theorem Dn:vk Gt:=dM (mc 32) fun _=>dM (mc 32) fun _=>dM qm fun _=>dM (iJ qm) fun _=>dM (iJ yo) fun _=>dM (ef 8) fun _=>dM (ef 1) fun _=>dM (iJ KL) fun _=>ko _
theorem Dp:vk Iu:=dM (ef 1) fun _=>dM (mc 32) fun _=>dM KL fun _=>ko _
theorem QR{α:Type}(p:Rg α){n:Nat}{e:Ey}(h:e.iH=true):ek p (n+1) e=((p e).1::(ek p n (p e).2).1,(ek p n (p e).2).2):=by
 rw[show ek p (n+1) e=if e.iH then cU p (fun x=>cU (ek p n) fun l=>jd (x::l)) e else([],e)from rfl,if_pos h];rfl
theorem VJ{α:Type}(p:Rg α){n:Nat}{e:Ey}(h:e.iH=false):ek p n e=([],e):=by
 cases n with
 |zero=>rfl
 |succ n=>
  rw[show ek p (n+1) e=if e.iH then cU p (fun x=>cU (ek p n) fun l=>jd (x::l)) e else([],e)from rfl,h];rfl
theorem aae{w:World}{b:Nat}{s:ByteArray}{f:Nat}(h:Rd w b s f)(n:Nat)(hs:s.size≤4000000)(hn:n≤4000000)(B:Bool)(hB:decide (f=0∧n≤s.size)=B):Calls ah 99 #[.pointer (some ⟨b,0,none⟩),.int .i64 n] w fun r w'=>r=.returned (.tuple #[.string (td s f n),.bool B])∧Rd w' b (oM s f n) (oH s f n)∧Keeps (fun k=>k=b) w w':=by
 subst hB;exact iq h n hs hn
theorem KO{w:World}{rb:Nat}{e:Ey}(h:Rd w rb e.s e.f)(hs:e.s.size≤4000000):Calls ah 40 #[.pointer (some ⟨rb,0,none⟩)] w fun r w'=>r=.returned (.string (gi e).1)∧Rd w' rb (gi e).2.s (gi e).2.f∧Keeps (fun k=>k=rb) w w':=by
 obtain⟨s,f,o⟩:=e;simp only at h hs;have h16:=Fb h hs;have hn:=lT s f 2;have hs1:=mY s f 2;have c0:=h.cells.1;have e1:(gi ⟨s,f,o⟩).1=td (oM s f 2) (KH (oH s f 2) (jG s f 2)) (jG s f 2):=rfl;have e2:(gi ⟨s,f,o⟩).2.s=if KH (oH s f 2) (jG s f 2)=0∧jG s f 2≤(oM s f 2).size then oM (oM s f 2) (KH (oH s f 2) (jG s f 2)) (jG s f 2)else s:=rfl
 have e3:(gi ⟨s,f,o⟩).2.f=oH (oM s f 2) (KH (oH s f 2) (jG s f 2)) (jG s f 2):=rfl;rw[e1,e2,e3];clear e1 e2 e3;generalize jG s f 2=n at*;generalize oM s f 2=s1 at*;generalize oH s f 2=f1 at*;have hn1:n<65536:=by simpa using hn
 have htk:=fun u f2 B(hB:decide (f2=0∧n≤s1.size)=B)(hu:Rd u rb s1 f2)=>aae hu n aQ aQ B hB
 obtain⟨Iy,JW⟩:=aN h16 htk;have hwr:IntKind.i64.wrap (n:Int)=(n:Int):=IntWalk.i64_in _ aQ;clear h16 htk h hs hs1 hn;by_cases hf:f1=0
 ·subst hf;by_cases hl:32768<n
  ·rw[show KH 0 n=4 from if_pos ⟨rfl,hl⟩,if_neg aQ];have hl':(32768:Int)<(n:Int):=by omega
   go_enter Tryz.func40,Tryz.ntmps40;go_wp2_with(first
    |(go_at_call 93;refine Iy.out.mono ?_;rintro r w1⟨rfl,hR1,hK1⟩;have d1:w1.cell? ⟨rb,1,none⟩=some (.int .i64 0):=hR1.cells.2;have g1:=hR1.free.2;obtain⟨qO,HR2,lN⟩:=bu hK1 (show Rd (w1.setCell ⟨rb,1,none⟩ (.int .i64 4)) rb s1 4 from hR1.aL 1 (.int .i64 4)) ((Keeps.refl (fun k=>k=rb) w1).setCell (p:=⟨rb,1,none⟩) (.inl rfl) (.int .i64 4));clear hR1 hK1)
    |(go_at_call 99;refine(JW.out _ 4 false (by simp) HR2.out).mono ?_;rintro r w3⟨rfl,iP,hK3⟩;have g0:=iP.free.1;have q0:=iP.cells.1;obtain⟨HR4,j8⟩:=aN (iP.aL 0 (.string s)) (hK3.setCell (p:=⟨rb,0,none⟩) (.inl rfl) (.string s));clear iP hK3))
   go_ret;exact⟨rfl,HR4.out,qO.out.trans (lN.out.trans j8.out)⟩
  ·rw[show KH 0 n=0 from if_neg (fun h=>hl h.2)];have hl':¬(32768:Int)<(n:Int):=by omega
   by_cases ht:n≤s1.size
   ·rw[if_pos ⟨rfl,ht⟩];have HT:=ae ht;clear ht;go_enter Tryz.func40,Tryz.ntmps40;go_wp2_with(first
     |(go_at_call 93;refine Iy.out.mono ?_;rintro r w1⟨rfl,hR1,hK1⟩;have d1:w1.cell? ⟨rb,1,none⟩=some (.int .i64 0):=hR1.cells.2;obtain⟨qO,HR2⟩:=aN hK1 hR1;clear hR1 hK1)
     |(go_at_call 99;refine(JW.out _ 0 true (by have h:=HT.out;simp[h]) HR2.out).mono ?_;rintro r w3⟨rfl,iP,hK3⟩;obtain⟨HR4,j8⟩:=aN iP hK3;clear iP hK3))
    go_ret;exact⟨rfl,HR4.out,qO.out.trans j8.out⟩
   ·rw[if_neg (fun h=>ht h.2)];have HT:=ae ht;clear ht;go_enter Tryz.func40,Tryz.ntmps40;go_wp2_with(first
     |(go_at_call 93;refine Iy.out.mono ?_;rintro r w1⟨rfl,hR1,hK1⟩;have d1:w1.cell? ⟨rb,1,none⟩=some (.int .i64 0):=hR1.cells.2;obtain⟨qO,HR2⟩:=aN hK1 hR1;clear hR1 hK1)
     |(go_at_call 99;refine(JW.out _ 0 false (by have h:=HT.out;simp[h]) HR2.out).mono ?_;rintro r w3⟨rfl,iP,hK3⟩;have g0:=iP.free.1;have q0:=iP.cells.1;obtain⟨HR4,j8⟩:=aN (iP.aL 0 (.string s)) (hK3.setCell (p:=⟨rb,0,none⟩) (.inl rfl) (.string s));clear iP hK3))
    go_ret;exact⟨rfl,HR4.out,qO.out.trans j8.out⟩
 ·rw[show KH f1 n=f1 from if_neg (fun h=>hf h.1),if_neg (fun h=>hf h.1)];have HT:=ae hf;have hf':((f1:Int)==0)=false:=by simp;omega
  clear hf;go_enter Tryz.func40,Tryz.ntmps40;go_wp2_with(first
   |(go_at_call 93;refine Iy.out.mono ?_;rintro r w1⟨rfl,hR1,hK1⟩;have d1:=hR1.cells.2;obtain⟨qO,HR2⟩:=aN hK1 hR1;clear hR1 hK1)
   |(go_at_call 99;refine(JW.out _ f1 false (by have h:=HT.out;simp[h]) HR2.out).mono ?_;rintro r w3⟨rfl,iP,hK3⟩;have g0:=iP.free.1;have q0:=iP.cells.1;obtain⟨HR4,j8⟩:=aN (iP.aL 0 (.string s)) (hK3.setCell (p:=⟨rb,0,none⟩) (.inl rfl) (.string s));clear iP hK3))
  go_ret;exact⟨rfl,HR4.out,qO.out.trans j8.out⟩
structure cf(w:World)(b rb:Nat)(e:Ey):Prop where
 blk:aG w b 86 #[.pointer (some ⟨rb,0,none⟩),.bool e.odd]
 rd:Rd w rb e.s e.f
theorem cf.ne{w:World}{b rb:Nat}{e:Ey}(h:cf w b rb e):b≠rb:=aG.vP h.blk h.rd (by decide)
theorem cf.c0{w:World}{b rb:Nat}{e:Ey}(h:cf w b rb e):w.cell? ⟨b,0,none⟩=some (.pointer (some ⟨rb,0,none⟩)):=h.blk.cell 0
theorem cf.c1{w:World}{b rb:Nat}{e:Ey}(h:cf w b rb e):w.cell? ⟨b,1,none⟩=some (.bool e.odd):=h.blk.cell 1
abbrev Two(b rb:Nat):Nat→Prop:=fun k=>k=b∨k=rb
theorem cf.keep{S:Nat→Prop}{w w':World}{b rb:Nat}{e:Ey}(h:cf w b rb e)(k:Keeps S w w')(hb:¬S b)(hr:¬S rb):cf w' b rb e:=⟨h.blk.keep k hb,h.rd.keep k hr⟩
theorem cf.below{w w':World}{b rb:Nat}{e:Ey}(h:cf w b rb e)(k:aW w w'):cf w' b rb e:=⟨h.blk.below k h.blk.lt,h.rd.below k⟩
theorem cf.drew{w:World}{b rb:Nat}{e:Ey}(h:cf w b rb e):cf w.drew b rb e:=⟨h.blk.drew,aG.drew h.rd⟩
theorem cf.far{w:World}{b rb:Nat}{e:Ey}(h:cf w b rb e){p:Addr}(hb:b≠p.block)(hr:rb≠p.block)(u:Value):cf (w.setCell p u) b rb e:=⟨h.blk.far hb u,aG.far h.rd hr u⟩
theorem cf.step{w w':World}{b rb:Nat}{e:Ey}{s:ByteArray}{f:Nat}(h:cf w b rb e)(hr:Rd w' rb s f)(k:Keeps (fun k=>k=rb) w w'):cf w' b rb ⟨s,f,e.odd⟩∧Keeps (Two b rb) w w':=⟨⟨h.blk.keep k h.ne,hr⟩,k.mono fun _ _ h=>Or.inr h⟩
def iD(v:Value)(b rb:Nat)(e':Ey)(w:World)(r:Ending)(w':World):Prop:=r=.returned v∧cf w' b rb e'∧Keeps (Two b rb) w w'
theorem Nw{w:World}{b rb:Nat}{e:Ey}(h:cf w b rb e)(hs:e.s.size≤4000000):Calls ah 96 #[.pointer (some ⟨rb,0,none⟩)] w (iD (.int .u8 ((bK 1 e).1:Int)) b rb (bK 1 e).2 w):=(YU h.rd hs).mono fun _ _⟨h1,h2,h3⟩=>⟨h1,h.step h2 h3⟩
theorem tZ{w:World}{b rb:Nat}{e:Ey}(h:cf w b rb e)(hs:e.s.size≤4000000):Calls ah 93 #[.pointer (some ⟨rb,0,none⟩)] w (iD (.int .u16 ((bK 2 e).1:Int)) b rb (bK 2 e).2 w):=(Fb h.rd hs).mono fun _ _⟨h1,h2,h3⟩=>⟨h1,h.step h2 h3⟩
theorem acT{w:World}{b rb:Nat}{e:Ey}(h:cf w b rb e)(hs:e.s.size≤4000000):Calls ah 137 #[.pointer (some ⟨rb,0,none⟩)] w (iD (.int .u32 ((bK 4 e).1:Int)) b rb (bK 4 e).2 w):=(Td h.rd hs).mono fun _ _⟨h1,h2,h3⟩=>⟨h1,h.step h2 h3⟩
theorem ua{w:World}{b rb:Nat}{e:Ey}(h:cf w b rb e)(hs:e.s.size≤4000000):Calls ah 35 #[.pointer (some ⟨rb,0,none⟩)] w (iD (.int .u64 ((bK 8 e).1:Int)) b rb (bK 8 e).2 w):=(Tf h.rd hs).mono fun _ _⟨h1,h2,h3⟩=>⟨h1,h.step h2 h3⟩
theorem aaf{w:World}{b rb:Nat}{e:Ey}(h:cf w b rb e)(hs:e.s.size≤4000000):Calls ah 104 #[.pointer (some ⟨rb,0,none⟩),.int .i64 32] w (iD (.string (keyE 32 e).1) b rb (keyE 32 e).2 w):=(Pq h.rd 32 hs aH).mono fun _ _⟨h1,h2,h3⟩=>⟨h1,h.step h2 h3⟩
theorem wK{w:World}{b rb:Nat}{e:Ey}(h:cf w b rb e)(hs:e.s.size≤4000000):Calls ah 40 #[.pointer (some ⟨rb,0,none⟩)] w (iD (.string (gi e).1) b rb (gi e).2 w):=(KO h.rd hs).mono fun _ _⟨h1,h2,h3⟩=>⟨h1,h.step h2 h3⟩
theorem jT{w:World}{b rb:Nat}{e:Ey}(h:cf w b rb e):Calls ah 90 #[.pointer (some ⟨b,0,none⟩)] w fun r w'=>r=.returned (.bool e.iH)∧w=w':=by
 have c0:=h.c0;have c1:=h.c1;have HF:=ae (xy h.rd);obtain⟨s,f,o⟩:=e;clear h;cases o with
 |true=>
  rw[show(⟨s,f,true⟩:Ey).iH=false from rfl];go_enter Tryz.func90,Tryz.ntmps90;go_wp2_with fail
  go_ret;exact⟨rfl,rfl⟩
 |false=>
  rw[show(⟨s,f,false⟩:Ey).iH=decide (f=0)from rfl];have hb:((f:Int)==0)=decide (f=0):=by
   rw[fE];simp
  generalize decide (f=0)=B at hb⊢;go_enter Tryz.func90,Tryz.ntmps90;go_wp2_with(go_at_call 135;refine HF.out.mono ?_;rintro r w1⟨rfl,rfl⟩)
  go_ret;exact⟨rfl,rfl⟩
theorem mZ{w:World}{b rb:Nat}{e:Ey}(h:cf w b rb e)(hs:e.s.size≤4000000):Calls ah 51 #[.pointer (some ⟨b,0,none⟩)] w (iD (.string (keyE 32 e).1) b rb (keyE 32 e).2 w):=by
 have c0:=h.c0;have H:=ae (aaf h hs);unfold iD at H⊢;clear h hs;go_enter Tryz.func51,Tryz.ntmps51;go_wp2_with(go_at_call 104;refine H.out.mono ?_;rintro r w1⟨rfl,h1,h2⟩)
 go_ret;exact⟨rfl,h1,h2⟩
theorem cf.put{W w:World}{b rb P:Nat}{e:Ey}(h:cf w b rb e)(hk:Keeps (Two b rb) W w)(hb:b<P)(hr:rb<P)(hP:W.heap.size≤P)(i:Nat)(u:Value):cf (w.setCell ⟨P,i,none⟩ u) b rb e∧Keeps (Two b rb) W (w.setCell ⟨P,i,none⟩ u):=⟨h.far (p:=⟨P,i,none⟩) (by simp;omega) (by simp;omega) u,hk.setCell (p:=⟨P,i,none⟩) (Or.inr hP) u⟩
theorem cf.lt{w:World}{b rb:Nat}{e:Ey}(h:cf w b rb e):b<w.heap.size∧rb<w.heap.size:=⟨h.blk.lt,h.rd.lt⟩
theorem agv{e:Ey}(h:(bK 1 e).1=4):tj e=(⟨false,0,(bK 4 (bK 1 e).2).1⟩,(bK 4 (bK 1 e).2).2):=by
 simp[tj,cU,jd,h]
theorem agw{e:Ey}(h:(bK 1 e).1=6):tj e=(⟨true,(bK 8 (bK 1 e).2).1,(bK 8 (bK 8 (bK 1 e).2).2).1⟩,(bK 8 (bK 8 (bK 1 e).2).2).2):=by
 simp[tj,cU,jd,h]
theorem agx{e:Ey}(h4:(bK 1 e).1≠4)(h6:(bK 1 e).1≠6):tj e=(⟨false,0,0⟩,⟨(bK 1 e).2.s,(bK 1 e).2.f,true⟩):=by
 simp[tj,cU,ae9,h4,h6]
theorem yp{w:World}{b rb:Nat}{e:Ey}(h:cf w b rb e)(hs:e.s.size≤4000000):Calls ah 95 #[.pointer (some ⟨b,0,none⟩)] w (iD (.agg (tj e).1.cells) b rb (tj e).2 w):=by
 obtain⟨hbl,hrl⟩:=h.lt;have hb1:=boxed w (.cells #[.bool false,.int .u64 0,.int .u64 0] 52);obtain⟨H1,HP,HK⟩:=bu (h.below hb1) (aG.new w 52 #[.bool false,.int .u64 0,.int .u64 0]) (Keeps.of_below (S:=Two b rb) hb1 fun _ h _=>h);have hl1:=ef 1 e;have h8:=fun u(hu:cf u b rb e)=>Nw hu hs
 have h32:=fun u(hu:cf u b rb (bK 1 e).2)=>acT hu (aw hl1 hs)
 have h64:=fun u(hu:cf u b rb (bK 1 e).2)=>ua hu (aw hl1 hs)
 have VK:=fun u(hu:cf u b rb (bK 8 (bK 1 e).2).2)=>ua hu (aw (ef 8 _) (aw hl1 hs))
 have b1:(bK 1 e).1<256:=lT e.s e.f 1;have b4:(bK 4 (bK 1 e).2).1<4294967296:=lT (bK 1 e).2.s (bK 1 e).2.f 4;unfold iD at h8 h32 h64 VK⊢;have tm:¬Two b rb w.heap.size:=by unfold Two;omega
 clear h hb1 hl1 hs;by_cases k4:(bK 1 e).1=4
 ·rw[agv k4];unfold Ad.cells;simp only;rw[k4]at h8;generalize(bK 1 e).2=e1 at*;generalize(bK 4 e1).1=lo at*;generalize(bK 4 e1).2=e2 at*;have hwl:IntKind.u64.wrap (lo:Int)=(lo:Int):=by rw[IntKind.wrap_u64];omega
  obtain⟨H8,H32⟩:=aN h8 h32;clear h8 h32 h64 VK b1 k4 b4;go_enter Tryz.func95,Tryz.ntmps95;go_upto_region 1 with fail
  generalize w.alloc (.cells #[.bool false,.int .u64 0,.int .u64 0] 52)=w1 at H1 HP HK⊢;have hWP:=aA w.heap.size;generalize hP:w.heap.size=P at HP hbl hrl tm hWP⊢;have kr:=ae hP;clear hP;have a0:=H1.out.c0;go_wp2_with(first
   |(go_at_call 96;refine(H8.out _ H1.out).mono ?_;rintro r w2⟨rfl,g2,K2⟩;have a2:=g2.c0;obtain⟨H2,HP2,lN⟩:=bu g2 (HP.out.keep K2 tm) (HK.out.trans K2);clear g2 K2)
   |(go_at_call 137;refine(H32.out _ H2.out).mono ?_;rintro r w3⟨rfl,g3,K3⟩;have H3:=ae g3;have hP3:=HP2.out.keep K3 tm;have c0:=hP3.cell 0;have c1:=hP3.cell 1;have c2:=hP3.cell 2;simp at c0 c1 c2;have fr:=(fun i=>hP3.frozen i);obtain⟨fU,j8⟩:=aN hP3 (lN.out.trans K3);clear g3 K3 hP3))
  have s1:aG _ P 52 #[.bool false,.int .u64 0,.int .u64 0]:=fU.out.aL 0 (.bool false);have s2:aG _ P 52 #[.bool false,.int .u64 0,.int .u64 0]:=s1.aL 1 (.int .u64 0);have s3:aG _ P 52 #[.bool false,.int .u64 0,.int .u64 lo]:=s2.aL 2 (.int .u64 lo);have lw:w.heap.size≤P:=Nat.le_of_eq kr.out;obtain⟨p1,q1⟩:=H3.out.put j8.out hbl hrl lw 0 (.bool false);obtain⟨p2,q2⟩:=p1.put q1 hbl hrl lw 1 (.int .u64 0);obtain⟨p3,q3⟩:=p2.put q2 hbl hrl lw 2 (.int .u64 lo);exact bodyPost_ret (fp (x:=2) rfl rfl (qb s3)) rfl ⟨rfl,p3,q3⟩
 ·by_cases k6:(bK 1 e).1=6
  ·rw[agw k6];unfold Ad.cells;simp only;rw[k6]at h8;generalize(bK 1 e).2=e1 at*;generalize(bK 8 e1).1=hi at*;generalize(bK 8 e1).2=e2 at*;generalize(bK 8 e2).1=lo at*;generalize(bK 8 e2).2=e3 at*;obtain⟨H8,H64,agy⟩:=bu h8 h64 VK;clear h8 h32 h64 VK b1 k6 b4 k4;go_enter Tryz.func95,Tryz.ntmps95;go_upto_region 1 with fail
   generalize w.alloc (.cells #[.bool false,.int .u64 0,.int .u64 0] 52)=w1 at H1 HP HK⊢;have hWP:=aA w.heap.size;generalize hP:w.heap.size=P at HP hbl hrl tm hWP⊢;have kr:=ae hP;clear hP;have a0:=H1.out.c0;go_wp2_with(go_at_call 96;refine(H8.out _ H1.out).mono ?_;rintro r w2⟨rfl,g2,K2⟩;have a2:=g2.c0;have H2:=ae g2.drew;have HP2:=ae (HP.out.keep K2 tm).drew;have lN:=ae (HK.out.trans K2).drew;clear g2 K2 a0)
   go_region_held3 (fun w'=>w'.cell? ⟨b,0,none⟩=some (.pointer (some ⟨rb,0,none⟩)))
    (first|exact a2|exact a3|exact a4|(rw[cell_far (by simp;omega),cell_far (by simp;omega),cell_far (by simp;omega)];exact a4))
    (first
      |(go_at_call 35;(with_reducible refine(H64.out _ H2.out).mono ?_);rintro r w3⟨rfl,g3,K3⟩;have a3:=g3.c0;obtain⟨H3,fU,j8⟩:=bu g3 (HP2.out.keep K3 tm) (lN.out.trans K3);clear g3 K3)
      |(go_at_call 35;(with_reducible refine(agy.out _ H3.out).mono ?_);rintro r w4⟨rfl,g4,K4⟩;have a4:=g4.c0;have H4:=ae g4;have nT:=fU.out.keep K4 tm;have c0:=nT.cell 0;have c1:=nT.cell 1;have c2:=nT.cell 2;simp at c0 c1 c2;have fr:=(fun i=>nT.frozen i);obtain⟨qT,AN⟩:=aN nT (j8.out.trans K4);clear g4 K4 nT))
   go_wp2_with fail
   have s1:aG _ P 52 #[.bool true,.int .u64 0,.int .u64 0]:=qT.out.aL 0 (.bool true);have s2:aG _ P 52 #[.bool true,.int .u64 hi,.int .u64 0]:=s1.aL 1 (.int .u64 hi);have s3:aG _ P 52 #[.bool true,.int .u64 hi,.int .u64 lo]:=s2.aL 2 (.int .u64 lo);have lw:w.heap.size≤P:=Nat.le_of_eq kr.out;obtain⟨p1,q1⟩:=H4.out.put AN.out hbl hrl lw 0 (.bool true);obtain⟨p2,q2⟩:=p1.put q1 hbl hrl lw 1 (.int .u64 hi);obtain⟨p3,q3⟩:=p2.put q2 hbl hrl lw 2 (.int .u64 lo);exact bodyPost_ret (fp (x:=2) rfl rfl (qb s3)) rfl ⟨rfl,p3,q3⟩
  ·rw[agx k4 k6];unfold Ad.cells;simp only;generalize(bK 1 e).1=k at*;generalize(bK 1 e).2=e1 at*;have x4:((k:Int)==4)=false:=by simp;omega
   have x6:((k:Int)==6)=false:=by simp;omega
   have H8:=ae h8;clear h8 h32 h64 VK b1 k6 b4 k4;go_enter Tryz.func95,Tryz.ntmps95;go_upto_region 1 with fail
   generalize w.alloc (.cells #[.bool false,.int .u64 0,.int .u64 0] 52)=w1 at H1 HP HK⊢;have hWP:=aA w.heap.size;generalize hP:w.heap.size=P at HP hbl hrl tm hWP⊢;have kr:=ae hP;clear hP;have a0:=H1.out.c0;go_wp2_with(go_at_call 96;refine(H8.out _ H1.out).mono ?_;rintro r w2⟨rfl,g2,K2⟩;have a2:=g2.c1;have f2:=g2.blk.frozen 1;have hP2:=HP.out.keep K2 tm;have c0:=hP2.cell 0;have c1:=hP2.cell 1;have c2:=hP2.cell 2;simp at c0 c1 c2;have fr:=(fun i=>hP2.frozen i);obtain⟨H2,HP2,lN⟩:=bu g2 hP2 (HK.out.trans K2);clear g2 K2 a0 hP2)
   have hbP:b≠P:=by omega
   have hE:cf (w2.setCell ⟨b,1,none⟩ (.bool true)) b rb ⟨e1.s,e1.f,true⟩:=⟨H2.out.blk.aL 1 (.bool true),aG.far H2.out.rd (p:=⟨b,1,none⟩) H2.out.ne.symm _⟩;have hK:=lN.out.setCell (p:=⟨b,1,none⟩) (Or.inl (Or.inl rfl)) (.bool true);have s0:aG (w2.setCell ⟨b,1,none⟩ (.bool true)) P 52 #[.bool false,.int .u64 0,.int .u64 0]:=HP2.out.far (p:=⟨b,1,none⟩) hbP.symm (.bool true);have s1:aG _ P 52 #[.bool false,.int .u64 0,.int .u64 0]:=s0.aL 0 (.bool false);have s2:aG _ P 52 #[.bool false,.int .u64 0,.int .u64 0]:=s1.aL 1 (.int .u64 0);have s3:aG _ P 52 #[.bool false,.int .u64 0,.int .u64 0]:=s2.aL 2 (.int .u64 0);have lw:w.heap.size≤P:=Nat.le_of_eq kr.out;obtain⟨p1,q1⟩:=hE.put hK hbl hrl lw 0 (.bool false);obtain⟨p2,q2⟩:=p1.put q1 hbl hrl lw 1 (.int .u64 0);obtain⟨p3,q3⟩:=p2.put q2 hbl hrl lw 2 (.int .u64 0);exact bodyPost_ret (fp (x:=2) rfl rfl (qb s3)) rfl ⟨rfl,p3,q3⟩
theorem aag{w:World}{g:Nat}{v0 v1 v2 v3:Value}(h:aG w g 55 #[v0,v1,v2,v3]):(loadVar 55 ⟨g,0,none⟩).run ah w=.ok (.agg #[v0,v1,v2,v3]) w:=by
 have c0:=h.cell 0;have c1:=h.cell 1;have c2:=h.cell 2;have c3:=h.cell 3;simp at c0 c1 c2 c3;simp[loadVar,go_sem,c0,c1,c2,c3]
theorem aah{w:World}{g:Nat}{v0 v1 v2 v3 v4 v5:Value}(h:aG w g 57 #[v0,v1,v2,v3,v4,v5]):(loadVar 57 ⟨g,0,none⟩).run ah w=.ok (.agg #[v0,v1,v2,v3,v4,v5]) w:=by
 have c0:=h.cell 0;have c1:=h.cell 1;have c2:=h.cell 2;have c3:=h.cell 3;have c4:=h.cell 4;have c5:=h.cell 5;simp at c0 c1 c2 c3 c4 c5;simp[loadVar,go_sem,c0,c1,c2,c3,c4,c5]
def afa(e:En):Array Value:= #[.bool e.1.v6,.int .u64 (e.1.hi:Int),.int .u64 (e.1.lo:Int),.int .u16 (e.2:Int)]
theorem acU(e:Ey):Et e=(((tj e).1,(bK 2 (tj e).2).1),(bK 2 (tj e).2).2):=rfl
theorem QS{w:World}{b rb:Nat}{e:Ey}(h:cf w b rb e)(hs:e.s.size≤4000000):Calls ah 98 #[.pointer (some ⟨b,0,none⟩)] w (iD (.agg (afa (Et e).1)) b rb (Et e).2 w):=by
 obtain⟨hbl,hrl⟩:=h.lt;have hb1:=boxed w (.cells #[.bool false,.int .u64 0,.int .u64 0,.int .u16 0] 55);obtain⟨H1,HP,HK⟩:=bu (h.below hb1) (aG.new w 55 #[.bool false,.int .u64 0,.int .u64 0,.int .u16 0]) (Keeps.of_below (S:=Two b rb) hb1 fun _ h _=>h);have hl1:=yo e;have had:=fun u(hu:cf u b rb e)=>yp hu hs
 have h16:=fun u(hu:cf u b rb (tj e).2)=>tZ hu (aw hl1 hs)
 have tm:¬Two b rb w.heap.size:=by unfold Two;omega
 rw[acU];unfold afa;unfold iD at had h16⊢;simp only;clear h hb1 hl1 hs;generalize(bK 2 (tj e).2).1=po at*;generalize(bK 2 (tj e).2).2=e2 at*;generalize(tj e).2=e1 at*;generalize(tj e).1=a at*;obtain⟨v,hi,lo⟩:=a;unfold Ad.cells at had;simp only at had⊢;obtain⟨HAd,Iy⟩:=aN had h16;clear had h16;go_enter Tryz.func98,Tryz.ntmps98;go_upto_region 1 with fail
 generalize w.alloc (.cells #[.bool false,.int .u64 0,.int .u64 0,.int .u16 0] 55)=w1 at H1 HP HK⊢;have hWP:=aA w.heap.size;generalize hP:w.heap.size=P at HP hbl hrl tm hWP⊢;have kr:=ae hP;clear hP;have a1:=H1.out.c0;obtain⟨H1d,ot,Ik⟩:=bu H1.out.drew HP.out.drew HK.out.drew;clear H1 HP HK;go_region_held3 (fun w'=>w'.cell? ⟨b,0,none⟩=some (.pointer (some ⟨rb,0,none⟩)))
  (first|exact a1|exact a2|exact a3|(rw[cell_far (by simp;omega),cell_far (by simp;omega),cell_far (by simp;omega),cell_far (by simp;omega)];exact a3))
  (first
    |(go_at_call 95;refine(HAd.out _ H1d.out).mono ?_;rintro r w2⟨rfl,g2,K2⟩;have a2:=g2.c0;obtain⟨H2,HP2,lN⟩:=bu g2 (ot.out.keep K2 tm) (Ik.out.trans K2);clear g2 K2)
    |(go_at_call 93;refine(Iy.out _ H2.out).mono ?_;rintro r w3⟨rfl,g3,K3⟩;have a3:=g3.c0;have H3:=ae g3;have hP3:=HP2.out.keep K3 tm;have c0:=hP3.cell 0;have c1:=hP3.cell 1;have c2:=hP3.cell 2;have c3:=hP3.cell 3;simp at c0 c1 c2 c3;have fr:=(fun i=>hP3.frozen i);obtain⟨fU,j8⟩:=aN hP3 (lN.out.trans K3);clear g3 K3 hP3))
 go_wp2_with fail
 have s1:aG _ P 55 #[.bool v,.int .u64 0,.int .u64 0,.int .u16 0]:=fU.out.aL 0 (.bool v);have s2:aG _ P 55 #[.bool v,.int .u64 hi,.int .u64 0,.int .u16 0]:=s1.aL 1 (.int .u64 hi);have s3:aG _ P 55 #[.bool v,.int .u64 hi,.int .u64 lo,.int .u16 0]:=s2.aL 2 (.int .u64 lo);have s4:aG _ P 55 #[.bool v,.int .u64 hi,.int .u64 lo,.int .u16 po]:=s3.aL 3 (.int .u16 po);have lw:w.heap.size≤P:=Nat.le_of_eq kr.out;obtain⟨p1,q1⟩:=H3.out.put j8.out hbl hrl lw 0 (.bool v);obtain⟨p2,q2⟩:=p1.put q1 hbl hrl lw 1 (.int .u64 hi);obtain⟨p3,q3⟩:=p2.put q2 hbl hrl lw 2 (.int .u64 lo);obtain⟨p4,q4⟩:=p3.put q3 hbl hrl lw 3 (.int .u16 po);exact bodyPost_ret (fp (x:=2) rfl rfl (aag s4)) rfl ⟨rfl,p4,q4⟩
theorem VL(e:Ey):lZ e=(decide ((bK 1 e).1=1),⟨(bK 1 e).2.s,(bK 1 e).2.f,(bK 1 e).2.odd||decide (1<(bK 1 e).1)⟩):=rfl
theorem yq{w:World}{b rb:Nat}{e:Ey}(h:cf w b rb e)(hs:e.s.size≤4000000):Calls ah 52 #[.pointer (some ⟨b,0,none⟩)] w (iD (.bool (lZ e).1) b rb (lZ e).2 w):=by
 have a0:=h.c0;have h8:=Nw h hs;rw[VL];simp only;unfold iD at h8⊢;clear h hs;generalize(bK 1 e).1=k at*;generalize(bK 1 e).2=e1 at*;obtain⟨s1,f1,o1⟩:=e1;simp only at*;have hk1:((k:Int)==1)=decide (k=1):=by rw[fE];simp;omega
 generalize decide (k=1)=K1 at*;have H8:=ae h8;clear h8;cases o1 with
 |true=>
  rw[Bool.true_or];go_enter Tryz.func52,Tryz.ntmps52;go_wp2_with(go_at_call 96;refine H8.out.mono ?_;rintro r w2⟨rfl,g2,K2⟩;have a2:=g2.c1;have f2:=g2.blk.frozen 1;obtain⟨HE,HK⟩:=aN (show cf (w2.setCell ⟨b,1,none⟩ (.bool true)) b rb ⟨s1,f1,true⟩from⟨g2.blk.aL 1 (.bool true),aG.far g2.rd (p:=⟨b,1,none⟩) g2.ne.symm _⟩) (K2.setCell (p:=⟨b,1,none⟩) (Or.inl (Or.inl rfl)) (.bool true));clear g2 K2)
  go_ret;exact⟨rfl,HE.out,HK.out⟩
 |false=>
  rw[Bool.false_or];generalize hK2:decide (1<k)=G;have hk2:decide ((1:Int)<(k:Int))=G:=by rw[←hK2];apply decide_eq_decide.2;omega
  clear hK2;go_enter Tryz.func52,Tryz.ntmps52;go_wp2_with(go_at_call 96;refine H8.out.mono ?_;rintro r w2⟨rfl,g2,K2⟩;have a2:=g2.c1;have f2:=g2.blk.frozen 1;obtain⟨HE,HK⟩:=aN (show cf (w2.setCell ⟨b,1,none⟩ (.bool G)) b rb ⟨s1,f1,G⟩from⟨g2.blk.aL 1 (.bool G),aG.far g2.rd (p:=⟨b,1,none⟩) g2.ne.symm _⟩) (K2.setCell (p:=⟨b,1,none⟩) (Or.inl (Or.inl rfl)) (.bool G));clear g2 K2)
  go_ret;exact⟨rfl,HE.out,HK.out⟩
theorem zI(l:List Ad)(x:Ad):du (l++[x])=du l++x.cells.toList:=by simp[du]
theorem KR(l:List En)(x:En):lX (l++[x])=lX l++cD x:=by simp[lX]
theorem KT(l:List Ry)(x:Ry):dQ (l++[x])=dQ l++bF x:=by simp[dQ]
theorem lB(l:List bU)(x:bU):cZ (l++[x])=cZ l++x.vals:=by simp[cZ]
structure di(w:World)(base:Nat)(X:bU):Prop where
 tags:w.ownsRow base 9 1 X.tv X.p.tags.length (strCells X.p.tags)
 aR:w.ownsRow base 52 3 X.av X.p.aR.length (du X.p.aR)
 ends:w.ownsRow base 55 4 X.ev X.p.ends.length (lX X.p.ends)
theorem di.keep{S:Nat→Prop}{w w':World}{L:List TypeId}{base:Nat}{X:bU}(h:di w base X)(hk:Keeps S w w')(ho:Off S w L)(h1:9∉L)(h2:52∉L)(h3:55∉L):di w' base X:=⟨bj h.tags hk ho h1,bj h.aR hk ho h2,bj h.ends hk ho h3⟩
theorem di.low{w w':World}{base:Nat}{X:bU}(h:di w base X)(hb:aW w w'):di w' base X:=⟨own_below h.tags hb,own_below h.aR hb,own_below h.ends hb⟩
theorem cJ{w w':World}{base size n:Nat}{t:TypeId}{v:Value}{xs:List Value}{S:Nat→Prop}(h:w.ownsRow base t size v n xs)(hk:Keeps S w w')(hS:∀k,S k→k<base):w'.ownsRow base t size v n xs:=kh h hk fun g hg hs=>by have:=(h.lt g hg).1;have:=hS g hs;omega
theorem di.above{S:Nat→Prop}{w w':World}{base:Nat}{X:bU}(h:di w base X)(hk:Keeps S w w')(hS:∀k,S k→k<base):di w' base X:=⟨cJ h.tags hk hS,cJ h.aR hk hS,cJ h.ends hk hS⟩
theorem di.mono{w:World}{base b':Nat}{X:bU}(h:di w base X)(hb:b'≤base):di w b' X:=⟨h.tags.mono hb,h.aR.mono hb,h.ends.mono hb⟩
theorem di.rd{w:World}{base:Nat}{X:bU}(h:di w base X):fC w X:=⟨aY.dh h.tags,aY.dh h.aR,aY.dh h.ends⟩
def cn(w:World)(base:Nat)(v:Value)(l:List Pr):Prop:=∃xs:List bU,xs.map (·.p)=l∧w.ownsRow base 50 8 v xs.length (cZ xs)∧∀X∈xs,di w base X
theorem cn.rd{w:World}{base:Nat}{v:Value}{l:List Pr}(h:cn w base v l):dJ w v l:=by
 obtain⟨xs,h1,h2,h3⟩:=h;exact⟨xs,h1,aY.dh h2,fun X hX=>(h3 X hX).rd⟩
def lC(t:TypeId)(size n:Nat)(cs:List Value)(b rb:Nat)(e':Ey)(w:World)(r:Ending)(w':World):Prop:=(∃A c,r=.returned (.slice A n c)∧w'.ownsRow w.heap.size t size (.slice A n c) n cs)∧cf w' b rb e'∧Keeps (Two b rb) w w'
def Dq(l:List Pr)(b rb:Nat)(e':Ey)(w:World)(r:Ending)(w':World):Prop:=(∃A c,r=.returned (.slice A l.length c)∧cn w' w.heap.size (.slice A l.length c) l)∧cf w' b rb e'∧Keeps (Two b rb) w w'
def Nx(p:Pr)(b rb:Nat)(e':Ey)(w:World)(r:Ending)(w':World):Prop:=(∃X:bU,r=.returned (.agg X.vals.toArray)∧X.p=p∧di w' w.heap.size X)∧cf w' b rb e'∧Keeps (Two b rb) w w'
theorem pK{α:Type}(p:Rg α)(e:Ey):cq p e=ek p (bK 2 e).1 (bK 2 e).2:=rfl
theorem na{α:Type}{p:Rg α}{R:List α×Ey}{xs:List α}{e:Ey}(h:R=(xs++(ek p 0 e).1,(ek p 0 e).2)):R=(xs,e):=by rw[h];simp[ek,jd]
theorem pL{α:Type}{p:Rg α}{R:List α×Ey}{xs:List α}{e:Ey}{k:Nat}(hf:e.iH=false)(h:R=(xs++(ek p k e).1,(ek p k e).2)):R=(xs,e):=by rw[h,VJ p hf];simp
theorem nb{α:Type}{p:Rg α}{R:List α×Ey}{xs:List α}{e:Ey}{k:Nat}(hk:0<k)(hf:e.iH=true)(h:R=(xs++(ek p k e).1,(ek p k e).2)):R=(xs++[(p e).1]++(ek p (k-1) (p e).2).1,(ek p (k-1) (p e).2).2):=by
 obtain⟨j,rfl⟩:∃j,k=j+1:=⟨k-1,by omega⟩;rw[h,QR p hf];simp
theorem wL:(ah.info? 9).map (fun i=>(i.zero,i.size,i.bytes))=some (some aI,1,16):=by kernel_rfl
theorem AV{w:World}{b rb pb:Nat}{e:Ey}(h:cf w b rb e)(hs:e.s.size≤4000000)(p:Rg ByteArray)(hp:vk p)(f:Nat)(eg:∀args w,(callFunc f args).run ah w=.ok (.enter f args) w)(hf:∀W u,cf W b rb u→u.s.size≤4000000→Calls ah f #[.pointer (some ⟨pb,0,none⟩)] W (iD (.string (p u).1) b rb (p u).2 W)):Calls ah 50 #[.pointer (some ⟨b,0,none⟩),.func (.func f) #[.pointer (some ⟨pb,0,none⟩)] #[]] w (lC 9 1 (cq p e).1.length (strCells (cq p e).1) b rb (cq p e).2 w):=by
 obtain⟨hbl,hrl⟩:=h.lt;obtain⟨i0,lD,hz0,hz1,hz2⟩:=info_parts wL;have c0:=h.c0;have h16:=tZ h hs;have hk1:(bK 2 e).1<65536:=lT e.s e.f 2;have hl1:=aw (ef 2 e) hs;unfold iD at hf;unfold lC;unfold iD at h16;obtain⟨R,hR⟩:=bq (cq p e);rw[←hR];rw[pK]at hR;generalize(bK 2 e).1=N at*;generalize(bK 2 e).2=e1 at*;obtain⟨HR,Iy,HF,Ih⟩:=cY hR h16 hf hl1;have qE:ag (∀k,Two b rb k→k<w.heap.size):=ae (by rintro k(rfl|rfl);exact hbl;exact hrl);clear hR h16 hf h hs hl1 hbl hrl;go_enter Tryz.func50,Tryz.ntmps50;go_wp2_with(go_at_call 93;refine Iy.out.mono ?_;rintro r w1⟨rfl,g1,k1⟩;obtain⟨yr,qO⟩:=aN g1 k1;clear g1 k1)
 clear c0;go_loopw [5,6] (fun v5 v6 wr=>∃(k:Nat)(u:Ey)(A:Option Addr)(c:Nat)(xs:List ByteArray),k<65536∧v6=.int .u16 k∧v5=.slice A xs.length c∧ag (wr.ownsRow w.heap.size 9 1 (.slice A xs.length c) xs.length (strCells xs))∧ag (cf wr b rb u)∧ag (u.s.size≤4000000)∧ag (R=(xs++(ek p k u).1,(ek p k u).2))∧ag (xs.length+k<65536)∧ag (Keeps (Two b rb) w wr)) (fun _ v6 _=>(intOf v6).toNat)
 case atStart=>exact⟨N,e1,none,0,[],hk1,rfl,rfl,ae (bg _ _ _ _),yr,Ih,ae HR.out,ae (by simpa using hk1),qO⟩
 case round=>
  obtain⟨k,u,A,c,xs,hk,rfl,rfl,how,wM,sF,hrel,hlen,hkp⟩:=hrel;by_cases h0:k=0
  ·subst h0;have hdone:=na hrel.out;have HD:=ae hdone;clear hrel hlen hdone sF;go_wp2_with fail
   go_ret;exact⟨⟨A,c,by rw[HD.out];rfl,by rw[HD.out];exact how.out⟩,by rw[HD.out];exact wM.out,hkp.out⟩
  ·have hpos:0<k:=by omega
   have eE:=jT wM.out;cases hB:u.iH with
   |false=>
    have HD:=ae (pL hB hrel.out);rw[hB]at eE;have jB:=ae eE;clear hrel hlen eE sF hB h0;go_wp2_with(go_at_call 90;refine jB.out.mono ?_;rintro r w2⟨rfl,rfl⟩)
    go_ret;exact⟨⟨A,c,by rw[HD.out];rfl,by rw[HD.out];exact how.out⟩,by rw[HD.out];exact wM.out,hkp.out⟩
   |true=>
    have HS:=ae (nb hpos hB hrel.out);rw[hB]at eE;have jB:=ae eE;have hread:=HF.out wr u wM.out sF.out;have Ny:=ae (aw (hp u) sF.out);generalize hx:(p u).1=x at hread HS;generalize(p u).2=u2 at hread HS Ny;have nc:=ae hread;have hw:IntKind.u16.wrap ((k:Int)-1)=((k-1:Nat):Int):=by rw[IntKind.wrap_u16];omega
    have hlr:=hlen.out;have hxl:xs.length<65536:=by omega
    have HLen:=ae hlr;clear hrel hlen eE sF hB h0 hread hx hlr;go_wp2_with(first
     |(go_at_call 90;refine jB.out.mono ?_;rintro r w2⟨rfl,rfl⟩)
     |(go_at_fn f;(with_reducible refine nc.out.mono ?_);rintro r w3⟨rfl,g3,k3⟩;obtain⟨Iz,j8,nz⟩:=bu g3 (hkp.out.trans k3) (cJ how.out k3 qE.out);clear g3 k3)
     |(at_builtin;refine wpList_append_own _ rfl _ _ 27 rfl w.heap.size 9 i0 aI 1 16 Tryz.underlying27 lD hz0 hz1 hz2 rfl aH _ xs.length _ rfl (nz.out.alloc _) ⟨w3.heap.size,0,none⟩ 1 1 [.string x] rfl rfl (cQ w3 [.string x] 9) (by intro q hq;simp at hq;subst hq;rfl) (by unfold maxLen;omega) aQ (by have:=j8.out.size;simp;omega) ?_;intro v' w4 qf hg4 hn4;obtain⟨A4,c4,rfl⟩:=aV qf;obtain⟨wN,wO⟩:=aN qf hg4;clear qf hg4 hn4))
    go_roundw
    case rel=>
     have hb3:=boxed w3 (.cells ([.string x]:List Value).toArray 9);have hkr:=Keeps.row wO.out;have hnr:∀q,Two b rb q→¬((dq A xs.length c).ownBlock=some q):=fun q hq hqe=>by have:=(nz.out.lt q hqe).1;have:=qE.out q hq;omega
     refine⟨k-1,u2,A4,c4,xs++[x],by omega,rfl,by rw[ai];rfl,ae (by rw[mB,ai];exact wN.out),ae ((Iz.out.below hb3).keep hkr (hnr b (Or.inl rfl)) (hnr rb (Or.inr rfl))),Ny,ae (by exact HS.out),ae (by have h5:=HLen.out;rw[ai,dn];omega),ae (Keeps.grown (j8.out.alloc _) wO.out fun q hq=>Or.inr (nz.out.lt q hq).1)⟩
    case measure=>simp[intOf];omega
theorem GG:(ah.info? 52).map (fun i=>(i.zero,i.size,i.bytes))=some (some (.agg #[.bool false,.int .u64 0,.int .u64 0]),3,24):=by kernel_rfl
theorem KU{w:World}{b rb pb:Nat}{e:Ey}(h:cf w b rb e)(hs:e.s.size≤4000000)(p:Rg Ad)(hp:vk p)(f:Nat)(eg:∀args w,(callFunc f args).run ah w=.ok (.enter f args) w)(hf:∀W u,cf W b rb u→u.s.size≤4000000→Calls ah f #[.pointer (some ⟨pb,0,none⟩)] W (iD (.agg (p u).1.cells) b rb (p u).2 W)):Calls ah 94 #[.pointer (some ⟨b,0,none⟩),.func (.func f) #[.pointer (some ⟨pb,0,none⟩)] #[]] w (lC 52 3 (cq p e).1.length (du (cq p e).1) b rb (cq p e).2 w):=by
 obtain⟨hbl,hrl⟩:=h.lt;obtain⟨i0,lD,hz0,hz1,hz2⟩:=info_parts GG;have c0:=h.c0;have h16:=tZ h hs;have hk1:(bK 2 e).1<65536:=lT e.s e.f 2;have hl1:=aw (ef 2 e) hs;unfold iD at hf;unfold lC;unfold iD at h16;obtain⟨R,hR⟩:=bq (cq p e);rw[←hR];rw[pK]at hR;generalize(bK 2 e).1=N at*;generalize(bK 2 e).2=e1 at*;obtain⟨HR,Iy,HF,Ih⟩:=cY hR h16 hf hl1;have qE:ag (∀k,Two b rb k→k<w.heap.size):=ae (by rintro k(rfl|rfl);exact hbl;exact hrl);clear hR h16 hf h hs hl1 hbl hrl;go_enter Tryz.func94,Tryz.ntmps94;go_wp2_with(go_at_call 93;refine Iy.out.mono ?_;rintro r w1⟨rfl,g1,k1⟩;obtain⟨yr,qO⟩:=aN g1 k1;clear g1 k1)
 clear c0;go_loopw [5,6] (fun v5 v6 wr=>∃(k:Nat)(u:Ey)(A:Option Addr)(c:Nat)(xs:List Ad),k<65536∧v6=.int .u16 k∧v5=.slice A xs.length c∧ag (wr.ownsRow w.heap.size 52 3 (.slice A xs.length c) xs.length (du xs))∧ag (cf wr b rb u)∧ag (u.s.size≤4000000)∧ag (R=(xs++(ek p k u).1,(ek p k u).2))∧ag (xs.length+k<65536)∧ag (Keeps (Two b rb) w wr)) (fun _ v6 _=>(intOf v6).toNat)
 case atStart=>exact⟨N,e1,none,0,[],hk1,rfl,rfl,ae (bg _ _ _ _),yr,Ih,ae HR.out,ae (by simpa using hk1),qO⟩
 case round=>
  obtain⟨k,u,A,c,xs,hk,rfl,rfl,how,wM,sF,hrel,hlen,hkp⟩:=hrel;by_cases h0:k=0
  ·subst h0;have hdone:=na hrel.out;have HD:=ae hdone;clear hrel hlen hdone sF;go_wp2_with fail
   go_ret;exact⟨⟨A,c,by rw[HD.out];rfl,by rw[HD.out];exact how.out⟩,by rw[HD.out];exact wM.out,hkp.out⟩
  ·have hpos:0<k:=by omega
   have eE:=jT wM.out;cases hB:u.iH with
   |false=>
    have HD:=ae (pL hB hrel.out);rw[hB]at eE;have jB:=ae eE;clear hrel hlen eE sF hB h0;go_wp2_with(go_at_call 90;refine jB.out.mono ?_;rintro r w2⟨rfl,rfl⟩)
    go_ret;exact⟨⟨A,c,by rw[HD.out];rfl,by rw[HD.out];exact how.out⟩,by rw[HD.out];exact wM.out,hkp.out⟩
   |true=>
    have HS:=ae (nb hpos hB hrel.out);rw[hB]at eE;have jB:=ae eE;have hread:=HF.out wr u wM.out sF.out;have Ny:=ae (aw (hp u) sF.out);generalize hx:(p u).1=x at hread HS;generalize(p u).2=u2 at hread HS Ny;obtain⟨v,hi,lo⟩:=x;unfold Ad.cells at hread;simp only at hread;have nc:=ae hread;have hw:IntKind.u16.wrap ((k:Int)-1)=((k-1:Nat):Int):=by rw[IntKind.wrap_u16];omega
    have hlr:=hlen.out;have hxl:xs.length<65536:=by omega
    have HLen:=ae hlr;clear hrel hlen eE sF hB h0 hread hx hlr;go_wp2_with(first
     |(go_at_call 90;refine jB.out.mono ?_;rintro r w2⟨rfl,rfl⟩)
     |(go_at_fn f;(with_reducible refine nc.out.mono ?_);rintro r w3⟨rfl,g3,k3⟩;obtain⟨Iz,j8,nz⟩:=bu g3 (hkp.out.trans k3) (cJ how.out k3 qE.out);clear g3 k3)
     |(at_builtin;refine wpList_append_own _ rfl _ _ 47 rfl w.heap.size 52 i0 (.agg #[.bool false,.int .u64 0,.int .u64 0]) 3 24 Tryz.underlying47 lD hz0 hz1 hz2 rfl aH _ xs.length _ rfl (nz.out.alloc _) ⟨w3.heap.size,0,none⟩ 1 1 [.bool v,.int .u64 hi,.int .u64 lo] rfl rfl (cQ w3 [.bool v,.int .u64 hi,.int .u64 lo] 52) (by intro q hq;simp at hq;rcases hq with rfl|rfl|rfl<;>rfl) (by unfold maxLen;omega) aQ (by have:=j8.out.size;simp;omega) ?_;intro v' w4 qf hg4 hn4;obtain⟨A4,c4,rfl⟩:=aV qf;obtain⟨wN,wO⟩:=aN qf hg4;clear qf hg4 hn4))
    go_roundw
    case rel=>
     have hb3:=boxed w3 (.cells ([.bool v,.int .u64 hi,.int .u64 lo]:List Value).toArray 52);have hkr:=Keeps.row wO.out;have hnr:∀q,Two b rb q→¬((dq A xs.length c).ownBlock=some q):=fun q hq hqe=>by have:=(nz.out.lt q hqe).1;have:=qE.out q hq;omega
     refine⟨k-1,u2,A4,c4,xs++[⟨v,hi,lo⟩],by omega,rfl,by rw[ai];rfl,ae (by rw[zI,ai];exact wN.out),ae ((Iz.out.below hb3).keep hkr (hnr b (Or.inl rfl)) (hnr rb (Or.inr rfl))),Ny,ae (by exact HS.out),ae (by have h5:=HLen.out;rw[ai,dn];omega),ae (Keeps.grown (j8.out.alloc _) wO.out fun q hq=>Or.inr (nz.out.lt q hq).1)⟩
    case measure=>simp[intOf];omega
theorem GH:(ah.info? 55).map (fun i=>(i.zero,i.size,i.bytes))=some (some (.agg #[.bool false,.int .u64 0,.int .u64 0,.int .u16 0]),4,32):=by kernel_rfl
theorem KV{w:World}{b rb pb:Nat}{e:Ey}(h:cf w b rb e)(hs:e.s.size≤4000000)(p:Rg En)(hp:vk p)(f:Nat)(eg:∀args w,(callFunc f args).run ah w=.ok (.enter f args) w)(hf:∀W u,cf W b rb u→u.s.size≤4000000→Calls ah f #[.pointer (some ⟨pb,0,none⟩)] W (iD (.agg (cD (p u).1).toArray) b rb (p u).2 W)):Calls ah 97 #[.pointer (some ⟨b,0,none⟩),.func (.func f) #[.pointer (some ⟨pb,0,none⟩)] #[]] w (lC 55 4 (cq p e).1.length (lX (cq p e).1) b rb (cq p e).2 w):=by
 obtain⟨hbl,hrl⟩:=h.lt;obtain⟨i0,lD,hz0,hz1,hz2⟩:=info_parts GH;have c0:=h.c0;have h16:=tZ h hs;have hk1:(bK 2 e).1<65536:=lT e.s e.f 2;have hl1:=aw (ef 2 e) hs;unfold iD at hf;unfold lC;unfold iD at h16;obtain⟨R,hR⟩:=bq (cq p e);rw[←hR];rw[pK]at hR;generalize(bK 2 e).1=N at*;generalize(bK 2 e).2=e1 at*;obtain⟨HR,Iy,HF,Ih⟩:=cY hR h16 hf hl1;have qE:ag (∀k,Two b rb k→k<w.heap.size):=ae (by rintro k(rfl|rfl);exact hbl;exact hrl);clear hR h16 hf h hs hl1 hbl hrl;go_enter Tryz.func97,Tryz.ntmps97;go_wp2_with(go_at_call 93;refine Iy.out.mono ?_;rintro r w1⟨rfl,g1,k1⟩;obtain⟨yr,qO⟩:=aN g1 k1;clear g1 k1)
 clear c0;go_loopw [5,6] (fun v5 v6 wr=>∃(k:Nat)(u:Ey)(A:Option Addr)(c:Nat)(xs:List En),k<65536∧v6=.int .u16 k∧v5=.slice A xs.length c∧ag (wr.ownsRow w.heap.size 55 4 (.slice A xs.length c) xs.length (lX xs))∧ag (cf wr b rb u)∧ag (u.s.size≤4000000)∧ag (R=(xs++(ek p k u).1,(ek p k u).2))∧ag (xs.length+k<65536)∧ag (Keeps (Two b rb) w wr)) (fun _ v6 _=>(intOf v6).toNat)
 case atStart=>exact⟨N,e1,none,0,[],hk1,rfl,rfl,ae (bg _ _ _ _),yr,Ih,ae HR.out,ae (by simpa using hk1),qO⟩
 case round=>
  obtain⟨k,u,A,c,xs,hk,rfl,rfl,how,wM,sF,hrel,hlen,hkp⟩:=hrel;by_cases h0:k=0
  ·subst h0;have hdone:=na hrel.out;have HD:=ae hdone;clear hrel hlen hdone sF;go_wp2_with fail
   go_ret;exact⟨⟨A,c,by rw[HD.out];rfl,by rw[HD.out];exact how.out⟩,by rw[HD.out];exact wM.out,hkp.out⟩
  ·have hpos:0<k:=by omega
   have eE:=jT wM.out;cases hB:u.iH with
   |false=>
    have HD:=ae (pL hB hrel.out);rw[hB]at eE;have jB:=ae eE;clear hrel hlen eE sF hB h0;go_wp2_with(go_at_call 90;refine jB.out.mono ?_;rintro r w2⟨rfl,rfl⟩)
    go_ret;exact⟨⟨A,c,by rw[HD.out];rfl,by rw[HD.out];exact how.out⟩,by rw[HD.out];exact wM.out,hkp.out⟩
   |true=>
    have HS:=ae (nb hpos hB hrel.out);rw[hB]at eE;have jB:=ae eE;have hread:=HF.out wr u wM.out sF.out;have Ny:=ae (aw (hp u) sF.out);generalize hx:(p u).1=x at hread HS;generalize(p u).2=u2 at hread HS Ny;obtain⟨⟨v,hi,lo⟩,po⟩:=x;unfold cD at hread;simp only at hread;have nc:=ae hread;have hw:IntKind.u16.wrap ((k:Int)-1)=((k-1:Nat):Int):=by rw[IntKind.wrap_u16];omega
    have hlr:=hlen.out;have hxl:xs.length<65536:=by omega
    have HLen:=ae hlr;clear hrel hlen eE sF hB h0 hread hx hlr;go_wp2_with(first
     |(go_at_call 90;refine jB.out.mono ?_;rintro r w2⟨rfl,rfl⟩)
     |(go_at_fn f;(with_reducible refine nc.out.mono ?_);rintro r w3⟨rfl,g3,k3⟩;obtain⟨Iz,j8,nz⟩:=bu g3 (hkp.out.trans k3) (cJ how.out k3 qE.out);clear g3 k3)
     |(at_builtin;refine wpList_append_own _ rfl _ _ 48 rfl w.heap.size 55 i0 (.agg #[.bool false,.int .u64 0,.int .u64 0,.int .u16 0]) 4 32 Tryz.underlying48 lD hz0 hz1 hz2 rfl aH _ xs.length _ rfl (nz.out.alloc _) ⟨w3.heap.size,0,none⟩ 1 1 [.bool v,.int .u64 hi,.int .u64 lo,.int .u16 po] rfl rfl (cQ w3 [.bool v,.int .u64 hi,.int .u64 lo,.int .u16 po] 55) (by intro q hq;simp at hq;rcases hq with rfl|rfl|rfl|rfl<;>rfl) (by unfold maxLen;omega) aQ (by have:=j8.out.size;simp;omega) ?_;intro v' w4 qf hg4 hn4;obtain⟨A4,c4,rfl⟩:=aV qf;obtain⟨wN,wO⟩:=aN qf hg4;clear qf hg4 hn4))
    go_roundw
    case rel=>
     have hb3:=boxed w3 (.cells ([.bool v,.int .u64 hi,.int .u64 lo,.int .u16 po]:List Value).toArray 55);have hkr:=Keeps.row wO.out;have hnr:∀q,Two b rb q→¬((dq A xs.length c).ownBlock=some q):=fun q hq hqe=>by have:=(nz.out.lt q hqe).1;have:=qE.out q hq;omega
     refine⟨k-1,u2,A4,c4,xs++[⟨⟨v,hi,lo⟩,po⟩],by omega,rfl,by rw[ai];rfl,ae (by rw[KR,ai];exact wN.out),ae ((Iz.out.below hb3).keep hkr (hnr b (Or.inl rfl)) (hnr rb (Or.inr rfl))),Ny,ae (by exact HS.out),ae (by have h5:=HLen.out;rw[ai,dn];omega),ae (Keeps.grown (j8.out.alloc _) wO.out fun q hq=>Or.inr (nz.out.lt q hq).1)⟩
    case measure=>simp[intOf];omega
theorem yt:(ah.info? 57).map (fun i=>(i.zero,i.size,i.bytes))=some (some (.agg #[.int .u8 0,aI,.bool false,.int .u64 0,.int .u64 0,.int .u16 0]),6,56):=by kernel_rfl
theorem yu{w:World}{b rb pb:Nat}{e:Ey}(h:cf w b rb e)(hs:e.s.size≤4000000)(p:Rg Ry)(hp:vk p)(f:Nat)(eg:∀args w,(callFunc f args).run ah w=.ok (.enter f args) w)(hf:∀W u,cf W b rb u→u.s.size≤4000000→Calls ah f #[.pointer (some ⟨pb,0,none⟩)] W (iD (.agg (bF (p u).1).toArray) b rb (p u).2 W)):Calls ah 38 #[.pointer (some ⟨b,0,none⟩),.func (.func f) #[.pointer (some ⟨pb,0,none⟩)] #[]] w (lC 57 6 (cq p e).1.length (dQ (cq p e).1) b rb (cq p e).2 w):=by
 obtain⟨hbl,hrl⟩:=h.lt;obtain⟨i0,lD,hz0,hz1,hz2⟩:=info_parts yt;have c0:=h.c0;have h16:=tZ h hs;have hk1:(bK 2 e).1<65536:=lT e.s e.f 2;have hl1:=aw (ef 2 e) hs;unfold iD at hf;unfold lC;unfold iD at h16;obtain⟨R,hR⟩:=bq (cq p e);rw[←hR];rw[pK]at hR;generalize(bK 2 e).1=N at*;generalize(bK 2 e).2=e1 at*;obtain⟨HR,Iy,HF,Ih⟩:=cY hR h16 hf hl1;have qE:ag (∀k,Two b rb k→k<w.heap.size):=ae (by rintro k(rfl|rfl);exact hbl;exact hrl);clear hR h16 hf h hs hl1 hbl hrl;go_enter Tryz.func38,Tryz.ntmps38;go_wp2_with(go_at_call 93;refine Iy.out.mono ?_;rintro r w1⟨rfl,g1,k1⟩;obtain⟨yr,qO⟩:=aN g1 k1;clear g1 k1)
 clear c0;go_loopw [5,6] (fun v5 v6 wr=>∃(k:Nat)(u:Ey)(A:Option Addr)(c:Nat)(xs:List Ry),k<65536∧v6=.int .u16 k∧v5=.slice A xs.length c∧ag (wr.ownsRow w.heap.size 57 6 (.slice A xs.length c) xs.length (dQ xs))∧ag (cf wr b rb u)∧ag (u.s.size≤4000000)∧ag (R=(xs++(ek p k u).1,(ek p k u).2))∧ag (xs.length+k<65536)∧ag (Keeps (Two b rb) w wr)) (fun _ v6 _=>(intOf v6).toNat)
 case atStart=>exact⟨N,e1,none,0,[],hk1,rfl,rfl,ae (bg _ _ _ _),yr,Ih,ae HR.out,ae (by simpa using hk1),qO⟩
 case round=>
  obtain⟨k,u,A,c,xs,hk,rfl,rfl,how,wM,sF,hrel,hlen,hkp⟩:=hrel;by_cases h0:k=0
  ·subst h0;have hdone:=na hrel.out;have HD:=ae hdone;clear hrel hlen hdone sF;go_wp2_with fail
   go_ret;exact⟨⟨A,c,by rw[HD.out];rfl,by rw[HD.out];exact how.out⟩,by rw[HD.out];exact wM.out,hkp.out⟩
  ·have hpos:0<k:=by omega
   have eE:=jT wM.out;cases hB:u.iH with
   |false=>
    have HD:=ae (pL hB hrel.out);rw[hB]at eE;have jB:=ae eE;clear hrel hlen eE sF hB h0;go_wp2_with(go_at_call 90;refine jB.out.mono ?_;rintro r w2⟨rfl,rfl⟩)
    go_ret;exact⟨⟨A,c,by rw[HD.out];rfl,by rw[HD.out];exact how.out⟩,by rw[HD.out];exact wM.out,hkp.out⟩
   |true=>
    have HS:=ae (nb hpos hB hrel.out);rw[hB]at eE;have jB:=ae eE;have hread:=HF.out wr u wM.out sF.out;have Ny:=ae (aw (hp u) sF.out);generalize hx:(p u).1=x at hread HS;generalize(p u).2=u2 at hread HS Ny;obtain⟨id,key,⟨⟨v,hi,lo⟩,po⟩⟩:=x;unfold bF at hread;simp only at hread;have nc:=ae hread;have hw:IntKind.u16.wrap ((k:Int)-1)=((k-1:Nat):Int):=by rw[IntKind.wrap_u16];omega
    have hlr:=hlen.out;have hxl:xs.length<65536:=by omega
    have HLen:=ae hlr;clear hrel hlen eE sF hB h0 hread hx hlr;go_wp2_with(first
     |(go_at_call 90;refine jB.out.mono ?_;rintro r w2⟨rfl,rfl⟩)
     |(go_at_fn f;(with_reducible refine nc.out.mono ?_);rintro r w3⟨rfl,g3,k3⟩;obtain⟨Iz,j8,nz⟩:=bu g3 (hkp.out.trans k3) (cJ how.out k3 qE.out);clear g3 k3)
     |(at_builtin;refine wpList_append_own _ rfl _ _ 24 rfl w.heap.size 57 i0 (.agg #[.int .u8 0,aI,.bool false,.int .u64 0,.int .u64 0,.int .u16 0]) 6 56 Tryz.underlying24 lD hz0 hz1 hz2 rfl aH _ xs.length _ rfl (nz.out.alloc _) ⟨w3.heap.size,0,none⟩ 1 1 [.int .u8 id,.string key,.bool v,.int .u64 hi,.int .u64 lo,.int .u16 po] rfl rfl (cQ w3 [.int .u8 id,.string key,.bool v,.int .u64 hi,.int .u64 lo,.int .u16 po] 57) (by intro q hq;simp at hq;rcases hq with rfl|rfl|rfl|rfl|rfl|rfl<;>rfl) (by unfold maxLen;omega) aQ (by have:=j8.out.size;simp;omega) ?_;intro v' w4 qf hg4 hn4;obtain⟨A4,c4,rfl⟩:=aV qf;obtain⟨wN,wO⟩:=aN qf hg4;clear qf hg4 hn4))
    go_roundw
    case rel=>
     have hb3:=boxed w3 (.cells ([.int .u8 id,.string key,.bool v,.int .u64 hi,.int .u64 lo,.int .u16 po]:List Value).toArray 57);have hkr:=Keeps.row wO.out;have hnr:∀q,Two b rb q→¬((dq A xs.length c).ownBlock=some q):=fun q hq hqe=>by have:=(nz.out.lt q hqe).1;have:=qE.out q hq;omega
     refine⟨k-1,u2,A4,c4,xs++[⟨id,key,⟨⟨v,hi,lo⟩,po⟩⟩],by omega,rfl,by rw[ai];rfl,ae (by rw[KT,ai];exact wN.out),ae ((Iz.out.below hb3).keep hkr (hnr b (Or.inl rfl)) (hnr rb (Or.inr rfl))),Ny,ae (by exact HS.out),ae (by have h5:=HLen.out;rw[ai,dn];omega),ae (Keeps.grown (j8.out.alloc _) wO.out fun q hq=>Or.inr (nz.out.lt q hq).1)⟩
    case measure=>simp[intOf];omega
theorem nh:(ah.info? 50).map (fun i=>(i.zero,i.size,i.bytes))=some (some (.agg #[aI,aI,aI,au,au,.int .u64 0,.int .u8 0,au]),8,136):=by kernel_rfl
theorem yw{w:World}{b rb pb:Nat}{e:Ey}(h:cf w b rb e)(hs:e.s.size≤4000000)(p:Rg Pr)(hp:vk p)(f:Nat)(eg:∀args w,(callFunc f args).run ah w=.ok (.enter f args) w)(hf:∀W u,cf W b rb u→u.s.size≤4000000→Calls ah f #[.pointer (some ⟨pb,0,none⟩)] W (Nx (p u).1 b rb (p u).2 W)):Calls ah 36 #[.pointer (some ⟨b,0,none⟩),.func (.func f) #[.pointer (some ⟨pb,0,none⟩)] #[]] w (Dq (cq p e).1 b rb (cq p e).2 w):=by
 obtain⟨hbl,hrl⟩:=h.lt;obtain⟨i0,lD,hz0,hz1,hz2⟩:=info_parts nh;have c0:=h.c0;have h16:=tZ h hs;have hk1:(bK 2 e).1<65536:=lT e.s e.f 2;have hl1:=aw (ef 2 e) hs;unfold Nx at hf;unfold Dq;unfold iD at h16;obtain⟨R,hR⟩:=bq (cq p e);rw[←hR];rw[pK]at hR;generalize(bK 2 e).1=N at*;generalize(bK 2 e).2=e1 at*;obtain⟨HR,Iy,HF,Ih⟩:=cY hR h16 hf hl1;have qE:ag (∀k,Two b rb k→k<w.heap.size):=ae (by rintro k(rfl|rfl);exact hbl;exact hrl);clear hR h16 hf h hs hl1 hbl hrl;go_enter Tryz.func36,Tryz.ntmps36;go_wp2_with(go_at_call 93;refine Iy.out.mono ?_;rintro r w1⟨rfl,g1,k1⟩;obtain⟨yr,qO⟩:=aN g1 k1;clear g1 k1)
 clear c0;go_loopw [5,6] (fun v5 v6 wr=>∃(k:Nat)(u:Ey)(A:Option Addr)(c:Nat)(xs:List bU),k<65536∧v6=.int .u16 k∧v5=.slice A xs.length c∧ag (wr.ownsRow w.heap.size 50 8 (.slice A xs.length c) xs.length (cZ xs))∧ag (cf wr b rb u)∧ag (u.s.size≤4000000)∧ag (R=(xs.map (·.p)++(ek p k u).1,(ek p k u).2))∧ag (xs.length+k<65536)∧ag (Keeps (Two b rb) w wr)∧ag (∀X∈xs,di wr w.heap.size X)) (fun _ v6 _=>(intOf v6).toNat)
 case atStart=>exact⟨N,e1,none,0,[],hk1,rfl,rfl,ae (bg _ _ _ _),yr,Ih,ae HR.out,ae (by simpa using hk1),qO,ae (fun X hX=>by cases hX)⟩
 case round=>
  obtain⟨k,u,A,c,xs,hk,rfl,rfl,how,wM,sF,hrel,hlen,hkp,hpo⟩:=hrel;by_cases h0:k=0
  ·subst h0;have hdone:=na hrel.out;have HD:=ae hdone;clear hrel hlen hdone sF;go_wp2_with fail
   go_ret;exact⟨⟨A,c,by rw[HD.out];simp only[ay];rfl,by rw[HD.out];simp only[ay];exact⟨xs,rfl,how.out,hpo.out⟩⟩,by rw[HD.out];exact wM.out,hkp.out⟩
  ·have hpos:0<k:=by omega
   have eE:=jT wM.out;cases hB:u.iH with
   |false=>
    have HD:=ae (pL hB hrel.out);rw[hB]at eE;have jB:=ae eE;clear hrel hlen eE sF hB h0;go_wp2_with(go_at_call 90;refine jB.out.mono ?_;rintro r w2⟨rfl,rfl⟩)
    go_ret;exact⟨⟨A,c,by rw[HD.out];simp only[ay];rfl,by rw[HD.out];simp only[ay];exact⟨xs,rfl,how.out,hpo.out⟩⟩,by rw[HD.out];exact wM.out,hkp.out⟩
   |true=>
    have HS:=ae (nb hpos hB hrel.out);rw[hB]at eE;have jB:=ae eE;have hread:=HF.out wr u wM.out sF.out;have Ny:=ae (aw (hp u) sF.out);generalize hx:(p u).1=x at hread HS;generalize(p u).2=u2 at hread HS Ny;have nc:=ae hread;have hw:IntKind.u16.wrap ((k:Int)-1)=((k-1:Nat):Int):=by rw[IntKind.wrap_u16];omega
    have hlr:=hlen.out;have hxl:xs.length<65536:=by omega
    have HLen:=ae hlr;clear hrel hlen eE sF hB h0 hread hx hlr;go_wp2_with(first
     |(go_at_call 90;refine jB.out.mono ?_;rintro r w2⟨rfl,rfl⟩)
     |(go_at_fn f;(with_reducible refine nc.out.mono ?_);rintro r w3⟨⟨X,rfl,GI,pM⟩,g3,k3⟩;obtain⟨⟨key,bw,user,tags,aR,ex,bm,ends⟩,tv,av,ev⟩:=X;obtain⟨A1,c1,e1⟩:=aV pM.tags;obtain⟨A2,c2,e2⟩:=aV pM.aR;obtain⟨A3,c3,e3⟩:=aV pM.ends;simp only at e1 e2 e3;subst e1 e2 e3;obtain⟨Nz,VM⟩:=aN pM GI;obtain⟨n1,en1⟩:=bq tags.length;obtain⟨n2,en2⟩:=bq aR.length;obtain⟨n3,en3⟩:=bq ends.length;unfold bU.vals;simp only;rw[←en1,←en2,←en3];obtain⟨jq,kq,vF⟩:=bu en1 en2 en3;clear en1 en2 en3 pM GI;obtain⟨Iz,j8,nz,agz⟩:=cY g3 (hkp.out.trans k3) (cJ how.out k3 qE.out) (fun Y hY=>(hpo.out Y hY).above k3 qE.out);clear g3 k3)
     |(at_builtin;refine wpList_append_own _ rfl _ _ 23 rfl w.heap.size 50 i0 (.agg #[aI,aI,aI,au,au,.int .u64 0,.int .u8 0,au]) 8 136 ahV lD hz0 hz1 hz2 rfl aH _ xs.length _ rfl (nz.out.alloc _) ⟨w3.heap.size,0,none⟩ 1 1 [.string key,.string bw,.string user,.slice A1 n1 c1,.slice A2 n2 c2,.int .u64 ex,.int .u8 bm,.slice A3 n3 c3] rfl rfl (cQ w3 [.string key,.string bw,.string user,.slice A1 n1 c1,.slice A2 n2 c2,.int .u64 ex,.int .u8 bm,.slice A3 n3 c3] 50) (by intro q hq;simp at hq;rcases hq with rfl|rfl|rfl|rfl|rfl|rfl|rfl|rfl<;>rfl) (by unfold maxLen;omega) aQ (by have:=j8.out.size;simp;omega) ?_;intro v' w4 qf hg4 hn4;obtain⟨A4,c4,rfl⟩:=aV qf;obtain⟨wN,wO⟩:=aN qf hg4;clear qf hg4 hn4))
    go_roundw
    case rel=>
     have hb3:=boxed w3 (.cells ([.string key,.string bw,.string user,.slice A1 n1 c1,.slice A2 n2 c2,.int .u64 ex,.int .u8 bm,.slice A3 n3 c3]:List Value).toArray 50);have hkr:=Keeps.row wO.out;have hnr:∀q,Two b rb q→¬((dq A xs.length c).ownBlock=some q):=fun q hq hqe=>by have:=(nz.out.lt q hqe).1;have:=qE.out q hq;omega
     refine⟨k-1,u2,A4,c4,xs++[⟨⟨key,bw,user,tags,aR,ex,bm,ends⟩,.slice A1 tags.length c1,.slice A2 aR.length c2,.slice A3 ends.length c3⟩],by omega,rfl,by rw[ai];rfl,ae (by rw[lB,ai];unfold bU.vals;simp only[dn];rw[←jq.out,←kq.out,←vF.out];exact wN.out),ae ((Iz.out.below hb3).keep hkr (hnr b (Or.inl rfl)) (hnr rb (Or.inr rfl))),Ny,ae (by rw[HS.out,cH,ahC];rw[←VM.out]),ae (by have h5:=HLen.out;rw[ai,dn];omega),ae (Keeps.grown (j8.out.alloc _) wO.out fun q hq=>Or.inr (nz.out.lt q hq).1),ae ?_⟩;intro Y hY;have hoff:=cE (nz.out.alloc (.cells ([.string key,.string bw,.string user,.slice A1 n1 c1,.slice A2 n2 c2,.int .u64 ex,.int .u8 bm,.slice A3 n3 c3]:List Value).toArray 50));rcases List.mem_append.1 hY with hY|hY
     ·exact((agz.out Y hY).low hb3).keep hkr hoff aH aH (by decide)
     ·rw[List.mem_singleton.1 hY];exact(((Nz.out.mono hkp.out.size).low hb3).keep hkr hoff aH aH aH)
    case measure=>simp[intOf];omega
theorem yx{w:World}{b rb:Nat}{e:Ey}(h:cf w b rb e)(hs:e.s.size≤4000000):Calls ah 98 #[.pointer (some ⟨b,0,none⟩)] w (iD (.agg (cD (Et e).1).toArray) b rb (Et e).2 w):=QS h hs
theorem acV(e:Ey):Iu e=(⟨(bK 1 e).1,(keyE 32 (bK 1 e).2).1,(Et (keyE 32 (bK 1 e).2).2).1⟩,(Et (keyE 32 (bK 1 e).2).2).2):=rfl
theorem vl{w:World}{b rb:Nat}{e:Ey}(h:cf w b rb e)(hs:e.s.size≤4000000):Calls ah 39 #[.pointer (some ⟨b,0,none⟩)] w (iD (.agg (bF (Iu e).1).toArray) b rb (Iu e).2 w):=by
 obtain⟨hbl,hrl⟩:=h.lt;have hb1:=boxed w (.cells #[.int .u8 0,aI,.bool false,.int .u64 0,.int .u64 0,.int .u16 0] 57);obtain⟨H1,HP,HK⟩:=bu (h.below hb1) (aG.new w 57 #[.int .u8 0,aI,.bool false,.int .u64 0,.int .u64 0,.int .u16 0]) (Keeps.of_below (S:=Two b rb) hb1 fun _ h _=>h);have l1:=aw (ef 1 e) hs;have l2:=aw (mc 32 (bK 1 e).2) l1;have h8:=fun u(hu:cf u b rb e)=>Nw hu hs
 have hky:=fun u(hu:cf u b rb (bK 1 e).2)=>mZ hu l1
 have hen:=fun u(hu:cf u b rb (keyE 32 (bK 1 e).2).2)=>yx hu l2
 have tm:¬Two b rb w.heap.size:=by unfold Two;omega
 rw[acV];unfold bF;unfold iD at h8 hky hen⊢;simp only;clear h hb1 hs l1 l2;generalize(Et (keyE 32 (bK 1 e).2).2).2=e3 at*;generalize(Et (keyE 32 (bK 1 e).2).2).1=en at*;generalize(keyE 32 (bK 1 e).2).2=e2 at*;generalize(keyE 32 (bK 1 e).2).1=key at*;generalize(bK 1 e).2=e1 at*;generalize(bK 1 e).1=id at*;obtain⟨⟨v,hi,lo⟩,po⟩:=en;unfold cD at hen;simp only at hen⊢;obtain⟨H8,HKy,HEn⟩:=bu h8 hky hen;clear h8 hky hen;go_enter Tryz.func39,Tryz.ntmps39;go_upto_region 1 with fail
 generalize w.alloc (.cells #[.int .u8 0,aI,.bool false,.int .u64 0,.int .u64 0,.int .u16 0] 57)=w1 at H1 HP HK⊢;generalize hP:w.heap.size=P at HP hbl hrl tm⊢;have kr:=ae hP;clear hP;have a1:=H1.out.c0;go_wp2_with(first
  |(go_at_call 96;refine(H8.out _ H1.out).mono ?_;rintro r w2⟨rfl,g2,K2⟩;obtain⟨H2,HP2,lN⟩:=bu g2 (HP.out.keep K2 tm) (HK.out.trans K2);clear g2 K2)
  |(go_at_call 51;refine(HKy.out _ H2.out).mono ?_;rintro r w3⟨rfl,g3,K3⟩;obtain⟨H3,fU,j8⟩:=bu g3 (HP2.out.keep K3 tm) (lN.out.trans K3);clear g3 K3)
  |(go_at_call 98;refine(HEn.out _ H3.out).mono ?_;rintro r w4⟨rfl,g4,K4⟩;have H4:=ae g4;have nT:=fU.out.keep K4 tm;have c0:=nT.cell 0;have c1:=nT.cell 1;have c2:=nT.cell 2;have c3:=nT.cell 3;have c4:=nT.cell 4;have c5:=nT.cell 5;simp at c0 c1 c2 c3 c4 c5;have fr:=(fun i=>nT.frozen i);obtain⟨qT,AN⟩:=aN nT (j8.out.trans K4);clear g4 K4 nT))
 have s1:aG _ P 57 #[.int .u8 id,aI,.bool false,.int .u64 0,.int .u64 0,.int .u16 0]:=qT.out.aL 0 (.int .u8 id);have s2:aG _ P 57 #[.int .u8 id,.string key,.bool false,.int .u64 0,.int .u64 0,.int .u16 0]:=s1.aL 1 (.string key);have s3:aG _ P 57 #[.int .u8 id,.string key,.bool v,.int .u64 0,.int .u64 0,.int .u16 0]:=s2.aL 2 (.bool v);have s4:aG _ P 57 #[.int .u8 id,.string key,.bool v,.int .u64 hi,.int .u64 0,.int .u16 0]:=s3.aL 3 (.int .u64 hi);have s5:aG _ P 57 #[.int .u8 id,.string key,.bool v,.int .u64 hi,.int .u64 lo,.int .u16 0]:=s4.aL 4 (.int .u64 lo);have s6:aG _ P 57 #[.int .u8 id,.string key,.bool v,.int .u64 hi,.int .u64 lo,.int .u16 po]:=s5.aL 5 (.int .u16 po);have lw:w.heap.size≤P:=Nat.le_of_eq kr.out;obtain⟨p1,q1⟩:=H4.out.put AN.out hbl hrl lw 0 (.int .u8 id);obtain⟨p2,q2⟩:=p1.put q1 hbl hrl lw 1 (.string key);obtain⟨p3,q3⟩:=p2.put q2 hbl hrl lw 2 (.bool v);obtain⟨p4,q4⟩:=p3.put q3 hbl hrl lw 3 (.int .u64 hi);obtain⟨p5,q5⟩:=p4.put q4 hbl hrl lw 4 (.int .u64 lo);obtain⟨p6,q6⟩:=p5.put q5 hbl hrl lw 5 (.int .u16 po);exact bodyPost_ret (fp (x:=2) rfl rfl (aah s6)) rfl ⟨rfl,p6,q6⟩
theorem aU{w:World}{base size n M k:Nat}{t:TypeId}{v u:Value}{xs:List Value}(h:w.ownsRow base t size v n xs)(hM:M<base):(w.setCell ⟨M,k,none⟩ u).ownsRow base t size v n xs:=kh (S:=fun x=>x=M) h ((Keeps.refl (fun x=>x=M) w).setCell (p:=⟨M,k,none⟩) (Or.inl rfl) u) fun g hg e=>by have:=(h.lt g hg).1;omega
theorem sG{w:World}{g:Nat}{v0 v1 v2 v3 v4 v5 v6 v7:Value}(h:aG w g 50 #[v0,v1,v2,v3,v4,v5,v6,v7]):(loadVar 50 ⟨g,0,none⟩).run ah w=.ok (.agg #[v0,v1,v2,v3,v4,v5,v6,v7]) w:=by
 have c0:=h.cell 0;have c1:=h.cell 1;have c2:=h.cell 2;have c3:=h.cell 3;have c4:=h.cell 4;have c5:=h.cell 5;have c6:=h.cell 6;have c7:=h.cell 7;simp at c0 c1 c2 c3 c4 c5 c6 c7;simp[loadVar,go_sem,c0,c1,c2,c3,c4,c5,c6,c7]
theorem VN{Q:World→Prop}{P:Nat}(hq:∀u i x,Q u→Q (u.setCell ⟨P,i,none⟩ x)){W:World}(h:Q W)(v0 v1 v2 v3 v4 v5 v6 v7:Value):Q ((((((((W.setCell ⟨P,0,none⟩ v0).setCell ⟨P,1,none⟩ v1).setCell ⟨P,2,none⟩ v2).setCell ⟨P,3,none⟩ v3).setCell ⟨P,4,none⟩ v4).setCell ⟨P,5,none⟩ v5).setCell ⟨P,6,none⟩ v6).setCell ⟨P,7,none⟩ v7):=hq _ _ _ (hq _ _ _ (hq _ _ _ (hq _ _ _ (hq _ _ _ (hq _ _ _ (hq _ _ _ (hq _ _ _ h)))))))
theorem acW(e:Ey):Gt e=(⟨(keyE 32 e).1,(keyE 32 (keyE 32 e).2).1,(gi (keyE 32 (keyE 32 e).2).2).1,(cq gi (gi (keyE 32 (keyE 32 e).2).2).2).1,(cq tj (cq gi (gi (keyE 32 (keyE 32 e).2).2).2).2).1,(bK 8 (cq tj (cq gi (gi (keyE 32 (keyE 32 e).2).2).2).2).2).1,(bK 1 (bK 8 (cq tj (cq gi (gi (keyE 32 (keyE 32 e).2).2).2).2).2).2).1,(cq Et (bK 1 (bK 8 (cq tj (cq gi (gi (keyE 32 (keyE 32 e).2).2).2).2).2).2).2).1⟩,(cq Et (bK 1 (bK 8 (cq tj (cq gi (gi (keyE 32 (keyE 32 e).2).2).2).2).2).2).2).2):=rfl
theorem yy{w:World}{b rb:Nat}{e:Ey}(h:cf w b rb e)(hs:e.s.size≤4000000):Calls ah 37 #[.pointer (some ⟨b,0,none⟩)] w (Nx (Gt e).1 b rb (Gt e).2 w):=by
 obtain⟨hbl,hrl⟩:=h.lt;have hb1:=boxed w (.cells #[aI,aI,aI,au,au,.int .u64 0,.int .u8 0,au] 50);have h1:=h.below hb1;have hp1:=aG.new w 50 #[aI,aI,aI,au,au,.int .u64 0,.int .u8 0,au];have hk1:=Keeps.of_below (S:=Two b rb) hb1 fun _ h _=>h
 have l1:=aw (mc 32 e) hs;have hc1:=fun u(hu:cf u b rb e)=>mZ hu hs
 rw[acW];generalize(keyE 32 e).2=e1 at*;generalize(keyE 32 e).1=key at*;have l2:=aw (mc 32 e1) l1;have hc2:=fun u(hu:cf u b rb e1)=>mZ hu l1
 generalize(keyE 32 e1).2=e2 at*;generalize(keyE 32 e1).1=bw at*;have l3:=aw (qm e2) l2;have hc3:=fun u(hu:cf u b rb e2)=>wK hu l2
 generalize(gi e2).2=e3 at*;generalize(gi e2).1=user at*;have l4:=aw (iJ qm e3) l3;have hc4:=fun u(hu:cf u b rb e3)=>AV hu l3 gi qm 40 (enters_of Tryz.func40 bo rfl) (pb:=rb) fun W u h1 h2=>wK h1 h2
 generalize(cq gi e3).2=e4 at*;generalize(cq gi e3).1=tags at*;have l5:=aw (iJ yo e4) l4;have hc5:=fun u(hu:cf u b rb e4)=>KU hu l4 tj yo 95 (enters_of Tryz.func95 bo rfl) (pb:=b) fun W u h1 h2=>yp h1 h2
 generalize(cq tj e4).2=e5 at*;generalize(cq tj e4).1=aR at*;have l6:=aw (ef 8 e5) l5;have hc6:=fun u(hu:cf u b rb e5)=>ua hu l5
 generalize(bK 8 e5).2=e6 at*;generalize(bK 8 e5).1=ex at*;have l7:=aw (ef 1 e6) l6;have hc7:=fun u(hu:cf u b rb e6)=>Nw hu l6
 generalize(bK 1 e6).2=e7 at*;generalize(bK 1 e6).1=bm at*;have hc8:=fun u(hu:cf u b rb e7)=>KV hu l7 Et KL 98 (enters_of Tryz.func98 bo rfl) (pb:=b) fun W u h1 h2=>yx h1 h2
 generalize(cq Et e7).2=e8 at*;generalize(cq Et e7).1=ends at*;clear l1 l2 l3 l4 l5 l6 l7 hs;have tm:¬Two b rb w.heap.size:=by unfold Two;omega
 obtain⟨n1,hn1⟩:=bq tags.length;obtain⟨n2,hn2⟩:=bq aR.length;obtain⟨n3,hn3⟩:=bq ends.length;rw[←hn1]at hc4;rw[←hn2]at hc5;rw[←hn3]at hc8;obtain⟨jq,kq,vF⟩:=bu hn1 hn2 hn3;unfold iD at hc1 hc2 hc3 hc6 hc7;unfold lC at hc4 hc5 hc8;unfold Nx;simp only;obtain⟨C1,C2,C3,C4,C5,C6,C7,C8,H1,HP,HK⟩:=EB hc1 hc2 hc3 hc4 hc5 hc6 hc7 hc8 h1 hp1 hk1;clear hc1 hc2 hc3 hc4 hc5 hc6 hc7 hc8 hn1 hn2 hn3 h h1 hp1 hk1 hb1;go_enter Tryz.func37,Tryz.ntmps37;go_upto_region 1 with fail
 generalize w.alloc (.cells #[aI,aI,aI,au,au,.int .u64 0,.int .u8 0,au] 50)=w1 at H1 HP HK⊢;have hWP:w.heap.size≤w.heap.size:=aA _;generalize hP:w.heap.size=P at HP hbl hrl tm⊢;have kr:=ae hP;rw[hP]at hWP;clear hP;have a1:=H1.out.c0;obtain⟨H1d,ot,Ik⟩:=bu H1.out.drew HP.out.drew HK.out.drew;clear H1 HP HK;go_region_held3 (fun w'=>w'.cell? ⟨b,0,none⟩=some (.pointer (some ⟨rb,0,none⟩)))
  (first|exact a1|exact a2|exact a3|exact a4|(rw[cell_far (by simp;omega)];exact a4)|(rw[cell_far (by simp;omega),cell_far (by simp;omega)];exact a4)|(rw[cell_far (by simp;omega),cell_far (by simp;omega),cell_far (by simp;omega)];exact a4))
  (first
    |(go_at_call 51;(with_reducible refine(C1.out _ H1d.out).mono ?_);rintro r w2⟨rfl,g2,K2⟩;have a2:=g2.c0;obtain⟨H2,HP2,lN⟩:=bu g2 (ot.out.keep K2 tm) (Ik.out.trans K2);clear g2 K2)
    |(go_at_call 51;(with_reducible refine(C2.out _ H2.out).mono ?_);rintro r w3⟨rfl,g3,K3⟩;have a3:=g3.c0;obtain⟨H3,fU,j8⟩:=bu g3 (HP2.out.keep K3 tm) (lN.out.trans K3);clear g3 K3)
    |(go_at_call 40;refine(C3.out _ H3.out).mono ?_;rintro r w4⟨rfl,g4,K4⟩;have a4:=g4.c0;have H4:=ae g4;have nT:=fU.out.keep K4 tm;have c0:=nT.cell 0;have c1:=nT.cell 1;have c2:=nT.cell 2;simp at c0 c1 c2;have fr:=(fun i=>nT.frozen i);obtain⟨qT,AN⟩:=aN nT (j8.out.trans K4);clear g4 K4 nT))
 have aai:w.heap.size≤P:=Nat.le_of_eq kr.out;have hw5:∃W,W=((w4.setCell ⟨P,0,none⟩ (.string key)).setCell ⟨P,1,none⟩ (.string bw)).setCell ⟨P,2,none⟩ (.string user):=⟨_,rfl⟩;obtain⟨w5,hw5⟩:=hw5;rw[←hw5];have s1:aG _ P 50 #[.string key,aI,aI,au,au,.int .u64 0,.int .u8 0,au]:=qT.out.aL 0 (.string key);have s2:aG _ P 50 #[.string key,.string bw,aI,au,au,.int .u64 0,.int .u8 0,au]:=s1.aL 1 (.string bw);have s3:aG _ P 50 #[.string key,.string bw,.string user,au,au,.int .u64 0,.int .u8 0,au]:=s2.aL 2 (.string user);obtain⟨p1,q1⟩:=H4.out.put AN.out hbl hrl aai 0 (.string key);obtain⟨p2,q2⟩:=p1.put q1 hbl hrl aai 1 (.string bw);obtain⟨p3,q3⟩:=p2.put q2 hbl hrl aai 2 (.string user);rw[←hw5]at s3 p3 q3;obtain⟨H5,Cc,Ei⟩:=bu p3 s3 q3;have HLP:ag (∀k,Two b rb k→k<P+1):=ae (by rintro k(rfl|rfl)<;>omega);have KW:=ae aai;clear hw5 s1 s2 s3 p1 p2 p3 q1 q2 q3 H4 qT AN c0 c1 c2 fr H1d ot Ik H2 HP2 lN H3 fU j8 C1 C2 C3 a1 a2 a3 a4;have e5:=H5.out.c0;go_upto_region 3 with(go_at_call 50;refine(C4.out _ H5.out).mono ?_;rintro r w6⟨⟨A1,c1,rfl,o6⟩,g6,K6⟩;have h6:=Cc.out.keep K6 tm;have d6:=h6.cell 3;have f6:=h6.frozen 3;simp at d6;have Zg:ag (aG (w6.setCell ⟨P,3,none⟩ (.slice A1 n1 c1)) P 50 #[.string key,.string bw,.string user,.slice A1 n1 c1,au,.int .u64 0,.int .u8 0,au]):=ae (h6.aL 3 (.slice A1 n1 c1));obtain⟨HG6,VO⟩:=aN (g6.put (Ei.out.trans K6) hbl hrl KW.out 3 (.slice A1 n1 c1)) (aU (k:=3) (u:=.slice A1 n1 c1) (o6.mono Cc.out.lt) (oL P));clear o6 g6 K6 h6)
 generalize w6.setCell ⟨P,3,none⟩ (.slice A1 n1 c1)=W6 at Zg HG6 VO⊢;obtain⟨H6,tI⟩:=aN HG6.out.1 HG6.out.2;clear HG6 d6 f6 e5 H5 Cc Ei C4;have e6:=H6.out.c0;go_upto_region 4 with(go_at_call 94;refine(C5.out _ H6.out).mono ?_;rintro r w7⟨⟨A2,c2,rfl,o7⟩,g7,K7⟩;have h7:=Zg.out.keep K7 tm;have d7:=h7.cell 4;have f7:=h7.frozen 4;simp at d7;have HP7:ag (aG (w7.setCell ⟨P,4,none⟩ (.slice A2 n2 c2)) P 50 #[.string key,.string bw,.string user,.slice A1 n1 c1,.slice A2 n2 c2,.int .u64 0,.int .u8 0,au]):=ae (h7.aL 4 (.slice A2 n2 c2));obtain⟨Sl,VP,VQ⟩:=bu (g7.put (tI.out.trans K7) hbl hrl KW.out 4 (.slice A2 n2 c2)) (aU (k:=4) (u:=.slice A2 n2 c2) (o7.mono Zg.out.lt) (oL P)) (aU (k:=4) (u:=.slice A2 n2 c2) (cJ VO.out K7 HLP.out) (oL P));clear o7 g7 K7 h7)
 generalize w7.setCell ⟨P,4,none⟩ (.slice A2 n2 c2)=W7 at HP7 Sl VP VQ⊢;obtain⟨H7,zf⟩:=aN Sl.out.1 Sl.out.2;clear Sl d7 f7 e6 H6 Zg tI C5 VO;have e7:=H7.out.c0;obtain⟨H7d,afb,afc,VR,VS⟩:=ej H7.out.drew HP7.out.drew zf.out.drew (cJ VQ.out (Keeps.refl (Two b rb) W7).drew HLP.out) (cJ VP.out (Keeps.refl (Two b rb) W7).drew HLP.out);go_region_held3 (fun w'=>w'.cell? ⟨b,0,none⟩=some (.pointer (some ⟨rb,0,none⟩)))
  (first|exact e7|exact e8|exact e9|(rw[cell_far (by simp;omega)];exact e9)|(rw[cell_far (by simp;omega),cell_far (by simp;omega)];exact e9))
  (first
    |(go_at_call 35;refine(C6.out _ H7d.out).mono ?_;rintro r w8⟨rfl,g8,K8⟩;have e8:=g8.c0;obtain⟨H8,HP8,HK8,abx,aby⟩:=ej g8 (afb.out.keep K8 tm) (afc.out.trans K8) (cJ VR.out K8 HLP.out) (cJ VS.out K8 HLP.out);clear g8 K8)
    |(go_at_call 96;refine(C7.out _ H8.out).mono ?_;rintro r w9⟨rfl,g9,K9⟩;have e9:=g9.c0;have H9:=ae g9;have hP9:=HP8.out.keep K9 tm;have c5:=hP9.cell 5;have c6:=hP9.cell 6;simp at c5 c6;have f5:=hP9.frozen 5;have f6:=hP9.frozen 6;obtain⟨HP9,HK9,VT,VU⟩:=cY hP9 (HK8.out.trans K9) (aU (k:=6) (u:=.int .u8 bm) (aU (k:=5) (u:=.int .u64 ex) (cJ abx.out K9 HLP.out) (oL P)) (oL P)) (aU (k:=6) (u:=.int .u8 bm) (aU (k:=5) (u:=.int .u64 ex) (cJ aby.out K9 HLP.out) (oL P)) (oL P));clear g9 K9 hP9))
 have s1:aG _ P 50 #[.string key,.string bw,.string user,.slice A1 n1 c1,.slice A2 n2 c2,.int .u64 ex,.int .u8 0,au]:=HP9.out.aL 5 (.int .u64 ex);have s2:aG _ P 50 #[.string key,.string bw,.string user,.slice A1 n1 c1,.slice A2 n2 c2,.int .u64 ex,.int .u8 bm,au]:=s1.aL 6 (.int .u8 bm);obtain⟨p1,q1⟩:=H9.out.put HK9.out hbl hrl KW.out 5 (.int .u64 ex);obtain⟨p2,q2⟩:=p1.put q1 hbl hrl KW.out 6 (.int .u8 bm);obtain⟨ie,Ha,HKa⟩:=bu s2 p2 q2;clear s1 s2 p1 p2 q1 q2 H9 HP9 HK9 c5 c6 f5 f6 e7 e8 e9 H7 HP7 zf H7d afb afc H8 HP8 HK8 VQ VP VR VS abx aby C6 C7;generalize(w9.setCell ⟨P,5,none⟩ (.int .u64 ex)).setCell ⟨P,6,none⟩ (.int .u8 bm)=wa at ie Ha HKa VT VU⊢;have ea:=Ha.out.c0;go_upto_region 6 with(go_at_call 97;refine(C8.out _ Ha.out).mono ?_;rintro r wb⟨⟨A3,c3,rfl,ob⟩,gb,Kb⟩;have hb:=ie.out.keep Kb tm;have db:=hb.cell 7;have fb:=hb.frozen 7;simp at db;have fZ:ag (aG (wb.setCell ⟨P,7,none⟩ (.slice A3 n3 c3)) P 50 #[.string key,.string bw,.string user,.slice A1 n1 c1,.slice A2 n2 c2,.int .u64 ex,.int .u8 bm,.slice A3 n3 c3]):=ae (hb.aL 7 (.slice A3 n3 c3));obtain⟨HGb,afd,afe,aff⟩:=cY (gb.put (HKa.out.trans Kb) hbl hrl KW.out 7 (.slice A3 n3 c3)) (aU (k:=7) (u:=.slice A3 n3 c3) (ob.mono ie.out.lt) (oL P)) (aU (k:=7) (u:=.slice A3 n3 c3) (cJ VT.out Kb HLP.out) (oL P)) (aU (k:=7) (u:=.slice A3 n3 c3) (cJ VU.out Kb HLP.out) (oL P));clear ob gb Kb hb)
 generalize wb.setCell ⟨P,7,none⟩ (.slice A3 n3 c3)=wc at fZ HGb afd afe aff⊢;clear ea db fb ie Ha HKa VT VU C8;obtain⟨x0,x1,x2,x3,x4,x5,x6,x7⟩:=dA fZ;have fr:=fun i=>fZ.out.frozen i
 go_wp2_with fail
 have s1:aG _ P 50 #[.string key,.string bw,.string user,.slice A1 n1 c1,.slice A2 n2 c2,.int .u64 ex,.int .u8 bm,.slice A3 n3 c3]:=fZ.out.aL 0 (.string key);have s2:aG _ P 50 #[.string key,.string bw,.string user,.slice A1 n1 c1,.slice A2 n2 c2,.int .u64 ex,.int .u8 bm,.slice A3 n3 c3]:=s1.aL 1 (.string bw);have s3:aG _ P 50 #[.string key,.string bw,.string user,.slice A1 n1 c1,.slice A2 n2 c2,.int .u64 ex,.int .u8 bm,.slice A3 n3 c3]:=s2.aL 2 (.string user);have s4:aG _ P 50 #[.string key,.string bw,.string user,.slice A1 n1 c1,.slice A2 n2 c2,.int .u64 ex,.int .u8 bm,.slice A3 n3 c3]:=s3.aL 3 (.slice A1 n1 c1);have s5:aG _ P 50 #[.string key,.string bw,.string user,.slice A1 n1 c1,.slice A2 n2 c2,.int .u64 ex,.int .u8 bm,.slice A3 n3 c3]:=s4.aL 4 (.slice A2 n2 c2);have s6:aG _ P 50 #[.string key,.string bw,.string user,.slice A1 n1 c1,.slice A2 n2 c2,.int .u64 ex,.int .u8 bm,.slice A3 n3 c3]:=s5.aL 5 (.int .u64 ex);have s7:aG _ P 50 #[.string key,.string bw,.string user,.slice A1 n1 c1,.slice A2 n2 c2,.int .u64 ex,.int .u8 bm,.slice A3 n3 c3]:=s6.aL 6 (.int .u8 bm);have s8:aG _ P 50 #[.string key,.string bw,.string user,.slice A1 n1 c1,.slice A2 n2 c2,.int .u64 ex,.int .u8 bm,.slice A3 n3 c3]:=s7.aL 7 (.slice A3 n3 c3);obtain⟨⟨pz,qz⟩,oz1,oz2,oz3⟩:=VN (P:=P) (Q:=fun u=>(cf u b rb e8∧Keeps (Two b rb) w u)∧u.ownsRow (P+1) 9 1 (.slice A1 n1 c1) n1 (strCells tags)∧u.ownsRow (P+1) 52 3 (.slice A2 n2 c2) n2 (du aR)∧u.ownsRow (P+1) 55 4 (.slice A3 n3 c3) n3 (lX ends)) (fun u i x hq=>⟨hq.1.1.put hq.1.2 hbl hrl KW.out i x,aU hq.2.1 (oL P),aU hq.2.2.1 (oL P),aU hq.2.2.2 (oL P)⟩) ⟨HGb.out,afe.out,aff.out,afd.out⟩ (.string key) (.string bw) (.string user) (.slice A1 n1 c1) (.slice A2 n2 c2) (.int .u64 ex) (.int .u8 bm) (.slice A3 n3 c3);have acX:w.heap.size≤P+1:=Nat.le_succ_of_le KW.out;exact bodyPost_ret (fp (x:=2) rfl rfl (sG s8)) rfl ⟨⟨⟨⟨key,bw,user,tags,aR,ex,bm,ends⟩,.slice A1 n1 c1,.slice A2 n2 c2,.slice A3 n3 c3⟩,rfl,rfl,⟨by simp only;rw[←jq.out];exact oz1.mono acX,by simp only;rw[←kq.out];exact oz2.mono acX,by simp only;rw[←vF.out];exact oz3.mono acX⟩⟩,pz,qz⟩
theorem NC(l:List En):∀u∈lX l,u.oneCell'=true:=by
 intro u hu;obtain⟨s,_,hs⟩:=List.mem_flatMap.1 hu;simp[cD]at hs;rcases hs with rfl|rfl|rfl|rfl<;>rfl
theorem sH(l:List Ry):∀u∈dQ l,u.oneCell'=true:=by
 intro u hu;obtain⟨s,_,hs⟩:=List.mem_flatMap.1 hu;simp[bF]at hs;rcases hs with rfl|rfl|rfl|rfl|rfl|rfl<;>rfl
theorem ND(l:List Ad):∀u∈du l,u.oneCell'=true:=by
 intro u hu;obtain⟨s,_,hs⟩:=List.mem_flatMap.1 hu;simp[Ad.cells]at hs;rcases hs with rfl|rfl|rfl<;>rfl
def VV(p:Pr)(w:World)(r:Ending)(w':World):Prop:=(∃X:bU,r=.returned (.agg X.vals.toArray)∧X.p=p∧di w' w.heap.size X)∧aW w w'
theorem ru{w:World}{X:bU}(hX:fC w X)(sX:gm X.p):Calls ah 55 #[.agg X.vals.toArray] w (VV X.p w):=by
 have ht:=fun u(hu:aW w u)=>Qi (hX.tags.below hu) sX.tl (CU _)
 have ha:=fun u(hu:aW w u)=>Vz (hX.aR.below hu) sX.al (ND _)
 have he:=fun u(hu:aW w u)=>VA (hX.ends.below hu) sX.el (NC _)
 obtain⟨A1,c1,e1⟩:=hX.tags.shape;obtain⟨A2,c2,e2⟩:=hX.aR.shape;obtain⟨A3,c3,e3⟩:=hX.ends.shape;clear hX sX;obtain⟨⟨key,bw,user,tags,aR,ex,bm,ends⟩,tv,av,ev⟩:=X;simp only at*;subst e1 e2 e3;unfold uT at ht ha he;unfold VV bU.vals;simp only;obtain⟨n1,hn1⟩:=bq tags.length;obtain⟨n2,hn2⟩:=bq aR.length;obtain⟨n3,hn3⟩:=bq ends.length;rw[←hn1]at ht⊢;rw[←hn2]at ha⊢;rw[←hn3]at he⊢;obtain⟨jq,kq,vF,HT,HA,HE⟩:=mL hn1 hn2 hn3 ht ha he;clear ht ha he hn1 hn2 hn3;have HP:=ae (aG.new w 50 #[.string key,.string bw,.string user,.slice A1 n1 c1,.slice A2 n2 c2,.int .u64 ex,.int .u8 bm,.slice A3 n3 c3]);have hb1:=boxed w (.cells #[.string key,.string bw,.string user,.slice A1 n1 c1,.slice A2 n2 c2,.int .u64 ex,.int .u8 bm,.slice A3 n3 c3] 50);have HB:=ae hb1;have HPl:ag (w.heap.size<(w.alloc (.cells #[.string key,.string bw,.string user,.slice A1 n1 c1,.slice A2 n2 c2,.int .u64 ex,.int .u8 bm,.slice A3 n3 c3] 50)).heap.size):=ae (by simp);clear hb1;go_enter Tryz.func55,Tryz.ntmps55;go_upto_region 1 with fail
 have hbz:=boxed (w.alloc (.cells #[.string key,.string bw,.string user,.slice A1 n1 c1,.slice A2 n2 c2,.int .u64 ex,.int .u8 bm,.slice A3 n3 c3] 50)) (.cells #[aI,aI,aI,au,au,.int .u64 0,.int .u8 0,au] 50);have HB2:=aZ HB hbz;have HP2:=ae (bJ HP hbz);have hR:=aG.new (w.alloc (.cells #[.string key,.string bw,.string user,.slice A1 n1 c1,.slice A2 n2 c2,.int .u64 ex,.int .u8 bm,.slice A3 n3 c3] 50)) 50 #[aI,aI,aI,au,au,.int .u64 0,.int .u8 0,au];rw[show(w.alloc (.cells #[.string key,.string bw,.string user,.slice A1 n1 c1,.slice A2 n2 c2,.int .u64 ex,.int .u8 bm,.slice A3 n3 c3] 50)).heap.size=w.heap.size+1 by simp]at hR;have HR2:=ae hR;have HS2:ag (w.heap.size+2≤((w.alloc (.cells #[.string key,.string bw,.string user,.slice A1 n1 c1,.slice A2 n2 c2,.int .u64 ex,.int .u8 bm,.slice A3 n3 c3] 50)).alloc (.cells #[aI,aI,aI,au,au,.int .u64 0,.int .u8 0,au] 50)).heap.size):=ae (by simp);clear hbz hR HB HP HPl;generalize(w.alloc (.cells #[.string key,.string bw,.string user,.slice A1 n1 c1,.slice A2 n2 c2,.int .u64 ex,.int .u8 bm,.slice A3 n3 c3] 50)).alloc (.cells #[aI,aI,aI,au,au,.int .u64 0,.int .u8 0,au] 50)=w2 at HB2 HP2 HR2 HS2⊢;have hQ:∃P R Q,P=w.heap.size∧R=w.heap.size+1∧Q=w.heap.size+2:=⟨_,_,_,rfl,rfl,rfl⟩;obtain⟨P,R,Q,eP,eR,eQ⟩:=hQ;rw[←eP]at HP2;rw[←eR]at HR2;rw[←eQ]at HS2;rw[←eR,←eP];have HPQ:ag (P<Q∧R<Q∧P≠R∧w.heap.size≤P∧w.heap.size≤R∧w.heap.size≤Q):=ae aQ;clear eP eR eQ;obtain⟨-,-,-,a3,a4,-,-,a7⟩:=dA HP2;obtain⟨VW,acY,acZ⟩:=bu HB2.out.drew HP2.out.drew HR2.out.drew;have VX:ag (Q≤w2.drew.heap.size):=ae HS2.out;refine kf 10 (fun w'=>w'.cell? ⟨P,3,none⟩=some (.slice A1 n1 c1)∧w'.cell? ⟨P,4,none⟩=some (.slice A2 n2 c2)∧w'.cell? ⟨P,7,none⟩=some (.slice A3 n3 c3)) bo (⟨a3,a4,a7⟩) (fun hHeld=>?_);refine vy 0 ?_
 refine vy 1 ?_
 refine vy 3 ?_
 refine vy 4 ?_
 refine vy 6 ?_
 refine vy 7 ?_
 refine vQ 2 fun K hK=>?_;go_simp;refine(HT.out _ VW.out).mono ?_;rintro r wa⟨⟨B1,m1,rfl,oa⟩,da⟩;have hZ:=aZ VW da;obtain⟨ie,Dt,KX,HOa⟩:=cY (bJ acY da) (bJ acZ da) (aw VX.out da.size) (oa.mono VX.out);clear oa;refine hK.out _ _ (fun _=>⟨ak hHeld.1 da,ak hHeld.2.1 da,ak hHeld.2.2 da⟩) (fun hHeld=>?_);have hHeld:=hHeld aH;clear hK K;try simp only[cN]
 refine vy 9 ?_
 refine vQ 5 fun K hK=>?_;go_simp;refine(HA.out _ hZ.out).mono ?_;rintro r wb⟨⟨B2,m2,rfl,ob⟩,db⟩;have kR:=aZ hZ db;obtain⟨fZ,Eu,Z7,HOb,HUb⟩:=ej (bJ ie db) (bJ Dt db) (aw KX.out db.size) (own_below HOa.out db) (ob.mono KX.out);clear ob;refine hK.out _ _ (fun _=>⟨ak hHeld.1 db,ak hHeld.2.1 db,ak hHeld.2.2 db⟩) (fun hHeld=>?_);have hHeld:=hHeld aH;clear hK K;try simp only[cN]
 refine vQ 8 fun K hK=>?_;go_simp;refine(HE.out _ kR.out).mono ?_;rintro r wc⟨⟨B3,m3,rfl,oc⟩,dc⟩;have HBc:=aZ kR dc;have hPc:=bJ fZ dc;obtain⟨qn,HRc,HOc,HUc,HVc⟩:=ej hPc (bJ Eu dc) (own_below HOb.out dc) (own_below HUb.out dc) (oc.mono Z7.out);have y3:=hPc.cell 3;have y4:=hPc.cell 4;have y7:=hPc.cell 7;simp at y3 y4 y7;have fz:=fun i=>hPc.frozen i
 clear oc hPc;refine hK.out _ _ (fun _=>⟨ak hHeld.1 dc,ak hHeld.2.1 dc,ak hHeld.2.2 dc⟩) (fun hHeld=>?_);have hHeld:=hHeld aH;clear hK K;try simp only[cN]
 refine vQ 10 fun K hK=>?_;go_simp;refine hK.out _ _ (fun h=>absurd h aH) (fun _=>?_);clear hK K;try clear hHeld
 try simp only[cN]
 refine vQ 11 fun K hK=>?_;go_simp;refine hK.out _ _ (fun h=>absurd h aH) (fun _=>?_);clear hK K;try clear hHeld
 try simp only[cN]
 refine vQ 12 fun K hK=>?_;go_simp;refine hK.out _ _ (fun h=>absurd h aH) (fun _=>?_);clear hK K;try clear hHeld
 try simp only[cN]
 refine vQ 13 fun K hK=>?_;go_simp;refine hK.out _ _ (fun h=>absurd h aH) (fun _=>?_);clear hK K;try clear hHeld
 try simp only[cN]
 refine vQ 14 fun K hK=>?_;go_simp;refine hK.out _ _ (fun h=>absurd h aH) (fun _=>?_);clear hK K;try clear hHeld
 try simp only[cN]
 refine zdX ?_;have q1:aG _ P 50 #[.string key,.string bw,.string user,.slice B1 n1 m1,.slice B2 n2 m2,.int .u64 ex,.int .u8 bm,.slice B3 n3 m3]:=((qn.out.aL 3 (.slice B1 n1 m1)).aL 4 (.slice B2 n2 m2)).aL 7 (.slice B3 n3 m3);have q2:=((HRc.out.far (p:=⟨P,3,none⟩) HPQ.out.2.2.1.symm (.slice B1 n1 m1)).far (p:=⟨P,4,none⟩) HPQ.out.2.2.1.symm (.slice B2 n2 m2)).far (p:=⟨P,7,none⟩) HPQ.out.2.2.1.symm (.slice B3 n3 m3);have q3:=((HBc.out.setCell (p:=⟨P,3,none⟩) HPQ.out.2.2.2.1 (.slice B1 n1 m1)).setCell (p:=⟨P,4,none⟩) HPQ.out.2.2.2.1 (.slice B2 n2 m2)).setCell (p:=⟨P,7,none⟩) HPQ.out.2.2.2.1 (.slice B3 n3 m3);have q4:=aU (k:=7) (u:=.slice B3 n3 m3) (aU (k:=4) (u:=.slice B2 n2 m2) (aU (k:=3) (u:=.slice B1 n1 m1) HOc.out HPQ.out.1) HPQ.out.1) HPQ.out.1;have q5:=aU (k:=7) (u:=.slice B3 n3 m3) (aU (k:=4) (u:=.slice B2 n2 m2) (aU (k:=3) (u:=.slice B1 n1 m1) HUc.out HPQ.out.1) HPQ.out.1) HPQ.out.1;have q6:=aU (k:=7) (u:=.slice B3 n3 m3) (aU (k:=4) (u:=.slice B2 n2 m2) (aU (k:=3) (u:=.slice B1 n1 m1) HVc.out HPQ.out.1) HPQ.out.1) HPQ.out.1;clear y3 y4 y7 fz qn HRc HBc HOc HUc HVc a3 a4 a7;generalize((wc.setCell ⟨P,3,none⟩ (.slice B1 n1 m1)).setCell ⟨P,4,none⟩ (.slice B2 n2 m2)).setCell ⟨P,7,none⟩ (.slice B3 n3 m3)=wd at q1 q2 q3 q4 q5 q6⊢;have x0:=q1.cell 0;have z0:=q2.cell 0;have x1:=q1.cell 1;have z1:=q2.cell 1;have x2:=q1.cell 2;have z2:=q2.cell 2;have x3:=q1.cell 3;have z3:=q2.cell 3;have x4:=q1.cell 4;have z4:=q2.cell 4;have x5:=q1.cell 5;have z5:=q2.cell 5;have x6:=q1.cell 6;have z6:=q2.cell 6;have x7:=q1.cell 7;have z7:=q2.cell 7;simp at x0 x1 x2 x3 x4 x5 x6 x7 z0 z1 z2 z3 z4 z5 z6 z7;have fr:=fun i=>q2.frozen i
 obtain⟨HQ1,Z9,yj,Ns,Yg,HQ6⟩:=mL q1 q2 q3 q4 q5 q6;clear q1 q2 q3 q4 q5 q6;go_wp2_with fail
 have s1:aG _ R 50 #[.string key,aI,aI,au,au,.int .u64 0,.int .u8 0,au]:=Z9.out.aL 0 (.string key);have s2:aG _ R 50 #[.string key,.string bw,aI,au,au,.int .u64 0,.int .u8 0,au]:=s1.aL 1 (.string bw);have s3:aG _ R 50 #[.string key,.string bw,.string user,au,au,.int .u64 0,.int .u8 0,au]:=s2.aL 2 (.string user);have s4:aG _ R 50 #[.string key,.string bw,.string user,.slice B1 n1 m1,au,.int .u64 0,.int .u8 0,au]:=s3.aL 3 (.slice B1 n1 m1);have s5:aG _ R 50 #[.string key,.string bw,.string user,.slice B1 n1 m1,.slice B2 n2 m2,.int .u64 0,.int .u8 0,au]:=s4.aL 4 (.slice B2 n2 m2);have s6:aG _ R 50 #[.string key,.string bw,.string user,.slice B1 n1 m1,.slice B2 n2 m2,.int .u64 ex,.int .u8 0,au]:=s5.aL 5 (.int .u64 ex);have s7:aG _ R 50 #[.string key,.string bw,.string user,.slice B1 n1 m1,.slice B2 n2 m2,.int .u64 ex,.int .u8 bm,au]:=s6.aL 6 (.int .u8 bm);have s8:aG _ R 50 #[.string key,.string bw,.string user,.slice B1 n1 m1,.slice B2 n2 m2,.int .u64 ex,.int .u8 bm,.slice B3 n3 m3]:=s7.aL 7 (.slice B3 n3 m3);obtain⟨oz0,oz1,oz2,oz3⟩:=VN (P:=R) (Q:=fun u=>aW w u∧u.ownsRow Q 9 1 (.slice B1 n1 m1) n1 (strCells tags)∧u.ownsRow Q 52 3 (.slice B2 n2 m2) n2 (du aR)∧u.ownsRow Q 55 4 (.slice B3 n3 m3) n3 (lX ends)) (fun u i x hq=>⟨hq.1.setCell (p:=⟨R,i,none⟩) HPQ.out.2.2.2.2.1 x,aU hq.2.1 HPQ.out.2.1,aU hq.2.2.1 HPQ.out.2.1,aU hq.2.2.2 HPQ.out.2.1⟩) ⟨yj.out,Ns.out,Yg.out,HQ6.out⟩ (.string key) (.string bw) (.string user) (.slice B1 n1 m1) (.slice B2 n2 m2) (.int .u64 ex) (.int .u8 bm) (.slice B3 n3 m3);exact bodyPost_ret (fp (x:=2) rfl rfl (sG s8)) rfl ⟨⟨⟨⟨key,bw,user,tags,aR,ex,bm,ends⟩,.slice B1 n1 m1,.slice B2 n2 m2,.slice B3 n3 m3⟩,rfl,rfl,⟨by simp only;rw[←jq.out];exact oz1.mono HPQ.out.2.2.2.2.2,by simp only;rw[←kq.out];exact oz2.mono HPQ.out.2.2.2.2.2,by simp only;rw[←vF.out];exact oz3.mono HPQ.out.2.2.2.2.2⟩⟩,oz0⟩
theorem wP{α:Type}{l:List α}{k:Nat}{x:α}(h:l[k]? =some x):l.take (k+1)=l.take k++[x]:=by
 rw[List.take_add_one,h];rfl
def vm(l:List Pr)(w:World)(r:Ending)(w':World):Prop:=(∃A c,r=.returned (.slice A l.length c)∧cn w' w.heap.size (.slice A l.length c) l)∧aW w w'
theorem qU{w:World}{v:Value}{l:List Pr}(hp:dJ w v l)(sz:∀p∈l,gm p)(hl:l.length≤2000000):Calls ah 64 #[v] w (vm l w):=by
 obtain⟨xs,hxl,hr,hm⟩:=hp;obtain⟨j0,lD,hz0,hz1,hz2⟩:=info_parts nh;obtain⟨N,hN⟩:=bq xs.length;have hlN:l.length=N:=by rw[←hxl,ay,hN]
 obtain⟨A0,cap0,rfl,_,hA⟩:=hr;unfold vm;rw[hlN]at hl⊢;rw[←hN]at hA⊢;obtain⟨HA,HM,HN,VY,HSz⟩:=ej hA hm hN hxl sz;clear hA hm hN hxl sz hlN;go_enter Tryz.func64,Tryz.ntmps64;go_wp2_with fail
 go_loopw [3,8] (fun v3 v8 wr=>∃(k:Nat)(A:Option Addr)(c:Nat)(ys:List bU),k≤N∧v8=.int .i64 k∧v3=.slice A k c∧ag (wr.ownsRow w.heap.size 50 8 (.slice A k c) k (cZ ys))∧ag (∀Y∈ys,di wr w.heap.size Y)∧ag (ys.map (·.p)=(xs.take k).map (·.p))∧ag (ys.length=k)∧ag (aW w wr)) (fun _ v8 _=>N-(intOf v8).toNat)
 case atStart=>exact⟨0,none,0,[],Nat.zero_le _,rfl,rfl,ae (bg _ _ _ _),ae (fun Y hY=>by cases hY),ae rfl,ae rfl,ae (aM _ _)⟩
 case round=>
  obtain⟨k,A,c,ys,hk,rfl,rfl,how,hys,hmap,hyl,HW⟩:=hrel;obtain⟨wo,rfl⟩:=bq (wr:World);by_cases hlt:k<N
  case neg=>
   obtain rfl:N=k:=by omega
   have hfin:ag (cn wo w.heap.size (.slice A N c) l):=ae (by
    have e:=hmap.out;rw[aJ (by rw[HN.out];exact aA _),VY.out]at e;exact⟨ys,e,by rw[hyl.out];exact how.out,hys.out⟩)
   clear how hys hmap hyl;go_wp2_with fail
   go_ret;exact⟨⟨A,c,rfl,hfin.out⟩,HW.out⟩
  have hkl:k<xs.length:=by have:=HN.out;omega
  have htn:=wP (af hkl);obtain⟨q1,o1,rfl,hc1⟩:=HA.out aQ;have hm1:=HM.out _ (a8 hkl);have hs1:=HSz.out _ (by rw[←VY.out];exact List.mem_map_of_mem (a8 hkl));have g10:=aD bU.vals 8 aC (af hkl) (r:=0) rfl;have g11:=aD bU.vals 8 aC (af hkl) (r:=1) rfl;have g12:=aD bU.vals 8 aC (af hkl) (r:=2) rfl;have g13:=aD bU.vals 8 aC (af hkl) (r:=3) rfl;have g14:=aD bU.vals 8 aC (af hkl) (r:=4) rfl;have g15:=aD bU.vals 8 aC (af hkl) (r:=5) rfl;have g16:=aD bU.vals 8 aC (af hkl) (r:=6) rfl;have g17:=aD bU.vals 8 aC (af hkl) (r:=7) rfl;have d10:=ak (hc1 _ _ g10) HW.out;have d11:=ak (hc1 _ _ g11) HW.out;have d12:=ak (hc1 _ _ g12) HW.out;have d13:=ak (hc1 _ _ g13) HW.out;have ji:=ak (hc1 _ _ g14) HW.out;have mE:=ak (hc1 _ _ g15) HW.out;have jF:=ak (hc1 _ _ g16) HW.out;have ny:=ak (hc1 _ _ g17) HW.out;clear hc1 g10 g11 g12 g13 g14 g15 g16 g17;generalize xs[k]=X at htn hm1 hs1 d10 d11 d12 d13 ji mE jF ny;have hcall:=fun u(hu:aW w u)=>ru (hm1.below hu) hs1
  obtain⟨fA,c11,e11⟩:=hm1.tags.shape;obtain⟨ft,c12,e12⟩:=hm1.aR.shape;obtain⟨ig,c13,e13⟩:=hm1.ends.shape;clear hm1 hs1;obtain⟨⟨key1,bG,cj,eF,dw,ik,bA,eV⟩,Yi,Yj,ev1⟩:=X;simp only at e11 e12 e13 d10 d11 d12 d13 ji mE jF ny;subst e11 e12 e13;unfold bU.vals VV at hcall;simp only at hcall;obtain⟨n11,yA⟩:=bq eF.length;obtain⟨n12,yB⟩:=bq dw.length;obtain⟨n13,yC⟩:=bq eV.length;rw[←yA,←yB,←yC]at hcall;rw[←yA]at d13;rw[←yB]at ji;rw[←yC]at ny;rw[Nat.add_zero]at d10;rw[←Nat.add_assoc]at d11 d12 d13 ji mE jF ny;obtain⟨bI,HTn⟩:=aN hcall htn;clear hcall htn hkl yA yB yC;obtain⟨HB1,mI,HO1⟩:=bu (after HW.out (boxed wo (.cells #[.string key1,.string bG,.string cj,.slice fA n11 c11,.slice ft n12 c12,.int .u64 ik,.int .u8 bA,.slice ig n13 c13] 50))) (aG.new wo 50 #[.string key1,.string bG,.string cj,.slice fA n11 c11,.slice ft n12 c12,.int .u64 ik,.int .u8 bA,.slice ig n13 c13]) (own_below how.out (boxed wo (.cells #[.string key1,.string bG,.string cj,.slice fA n11 c11,.slice ft n12 c12,.int .u64 ik,.int .u8 bA,.slice ig n13 c13] 50)));have HY1:ag (∀Y∈ys,di (wo.alloc (.cells #[.string key1,.string bG,.string cj,.slice fA n11 c11,.slice ft n12 c12,.int .u64 ik,.int .u8 bA,.slice ig n13 c13] 50)) w.heap.size Y):=ae (fun Y hY=>(hys.out Y hY).low (boxed wo _));go_upto_region 5 with fail
  generalize wo.alloc (.cells #[.string key1,.string bG,.string cj,.slice fA n11 c11,.slice ft n12 c12,.int .u64 ik,.int .u8 bA,.slice ig n13 c13] 50)=w1 at HB1 mI HO1 HY1⊢;generalize wo.heap.size=P at mI⊢;clear d10 d11 d12 d13 ji mE jF ny how hys;obtain⟨x0,x1,x2,x3,x4,x5,x6,x7⟩:=dA mI;go_wp2_with(first
   |(go_at_call 55;refine(bI.out _ HB1.out).mono ?_;rintro r w3⟨⟨⟨⟨key2,bB,ck,dx,cI,iR,bL,dy⟩,tv2,av2,ev2⟩,rfl,GI,pM⟩,d3⟩;obtain⟨iK,c21,e21⟩:=aV pM.tags;obtain⟨iL,iM,e22⟩:=aV pM.aR;obtain⟨kY,c23,e23⟩:=aV pM.ends;simp only at e21 e22 e23;subst e21 e22 e23;obtain⟨Nz,VM⟩:=aN (pM.mono HB1.out.size) GI;obtain⟨n21,nU⟩:=bq dx.length;obtain⟨n22,nV⟩:=bq cI.length;obtain⟨n23,nW⟩:=bq dy.length;unfold bU.vals;simp only;rw[←nU,←nV,←nW];obtain⟨jq,kq,vF⟩:=bu nU nV nW;have HB3:=aZ HB1 d3;have nz:=ae (own_below HO1.out d3);have HY3:ag (∀Y∈ys,di w3 w.heap.size Y):=ae (fun Y hY=>(HY1.out Y hY).low d3);clear nU nV nW pM GI d3)
   |(at_builtin;refine wpList_append_own _ rfl _ _ 23 rfl w.heap.size 50 j0 (.agg #[aI,aI,aI,au,au,.int .u64 0,.int .u8 0,au]) 8 136 ahV lD hz0 hz1 hz2 rfl aH _ k _ rfl (nz.out.alloc _) ⟨w3.heap.size,0,none⟩ 1 1 [.string key2,.string bB,.string ck,.slice iK n21 c21,.slice iL n22 iM,.int .u64 iR,.int .u8 bL,.slice kY n23 c23] rfl rfl (cQ w3 [.string key2,.string bB,.string ck,.slice iK n21 c21,.slice iL n22 iM,.int .u64 iR,.int .u8 bL,.slice kY n23 c23] 50) (by intro u hu;simp at hu;rcases hu with rfl|rfl|rfl|rfl|rfl|rfl|rfl|rfl<;>rfl) (by unfold maxLen;omega) aQ (by have:=HB3.out.size;simp;omega) ?_;intro v' w4 qf hg4 hn4;obtain⟨A4,c4,rfl⟩:=aV qf;obtain⟨wN,wO⟩:=aN qf hg4;clear qf hg4 hn4))
  go_roundw
  case rel=>
   have hb3:=boxed w3 (.cells ([.string key2,.string bB,.string ck,.slice iK n21 c21,.slice iL n22 iM,.int .u64 iR,.int .u8 bL,.slice kY n23 c23]:List Value).toArray 50);have hkr:=Keeps.row wO.out;have hoff:=cE (nz.out.alloc (.cells ([.string key2,.string bB,.string ck,.slice iK n21 c21,.slice iL n22 iM,.int .u64 iR,.int .u8 bL,.slice kY n23 c23]:List Value).toArray 50));refine⟨k+1,A4,c4,ys++[⟨⟨key2,bB,ck,dx,cI,iR,bL,dy⟩,.slice iK dx.length c21,.slice iL cI.length iM,.slice kY dy.length c23⟩],by omega,by go_num,rfl,ae (by rw[lB];unfold bU.vals;simp only;rw[←jq.out,←kq.out,←vF.out];exact wN.out),ae ?_,ae (by rw[cH,HTn.out,cH,hmap.out,ahC,ahC];simp only;rw[←VM.out]),ae (by rw[ai,hyl.out];rfl),ae ((HB3.out.alloc HB3.out.size _).grown wO.out (by have:=HB3.out.size;simp;omega) fun q hq=>(nz.out.lt q hq).1)⟩;intro Y hY;rcases List.mem_append.1 hY with hY|hY
   ·exact((HY3.out Y hY).low hb3).keep hkr hoff aH aH (by decide)
   ·rw[List.mem_singleton.1 hY];exact((Nz.out.low hb3).keep hkr hoff aH aH aH)
  case measure=>simp[intOf];omega
end Go.Proofs.YtkjaajcpbldjoaaGreatDoor
