/- Joined out of: NfB EyA EyB. -/
import Derived.Test.YteflnojjjdkgmaaGreatDoorNaq
import Derived.Deep.Cut
set_option linter.unusedVariables false
set_option linter.unusedSimpArgs false
set_option maxHeartbeats 16000000
set_option maxRecDepth 100000
open Go.Lib renaming hid→ae
open Go.Proofs.Tryz renaming prog→ag
open Go.RowKit.Below renaming refl→aG
open Go.World renaming ownsRow_nil→a8
open List renaming nil_append→aa8
open Nat renaming le_trans→au,le_refl→aw,zero_add→afx
namespace Go.Proofs.YteflnojjjdkgmaaGreatDoor
open Go.RowKit
attribute [local go_sem↓] Go.wp_at_zero Go.wp_at_succ
theorem Ru:(ag.info? 54).map (fun i=>(i.zero,i.size,i.bytes))=some (some (.agg #[.bool false,.int .u64 0,.int .u64 0]),3,24):=by kernel_rfl
theorem Rw:(ag.info? 82).map (fun i=>(i.zero,i.size,i.bytes))=some (some (.agg #[.bool false,.int .u64 0,.int .u64 0,.int .u16 0]),4,32):=by kernel_rfl
theorem Rz:(ag.info? 84).map (fun i=>(i.zero,i.size,i.bytes))=some (some (.agg #[.int .u8 0,.string ⟨#[]⟩,.bool false,.int .u64 0,.int .u64 0,.int .u16 0]),6,56):=by kernel_rfl
theorem RD{w:World}{v:Value}{n:Nat}{xs:List Value}(h:aW w v n 3 xs)(hn:n≤2000000)(h1:∀u∈xs,u.oneCell'=true):Calls ag 105 #[v] w (sK 54 3 n xs w):=by
 obtain⟨A,cap,rfl⟩:=h.shape;cases A with
 |none=>
  obtain⟨rfl,rfl⟩:=qq h;clear h;have e1:∀W,(binOp .eql 47 (.slice none 0 cap) (.slice none 0 0)).run ag W=.ok (.bool true) W:=fun _=>by kernel_rfl
  go_enter Tryz.func105,Tryz.ntmps105;go_wp2_with fail
  go_ret;exact⟨⟨none,0,rfl,a8 _ _ _ _⟩,aG _ _⟩
 |some a=>
  obtain⟨hl,hnews⟩:=qp h;obtain⟨i0,hi,hz0,hz1,hz2⟩:=info_parts Ru;have HB:=ae (boxed w (.cells #[] 54));have HO:=ae (World.ownsRow_lit (e:=54) (size:=3) (base:=w.heap.size) w #[] 0 (aw _) (by unfold maxLen;omega) rfl);have QH:=ae fun j u hu=>jD (hnews j u hu) HB.out
  obtain⟨HL,H1⟩:=aI hl h1;clear h hl hnews h1;have e1:∀W,(binOp .eql 47 (.slice (some a) n cap) (.slice none 0 0)).run ag W=.ok (.bool false) W:=fun _=>by kernel_rfl
  go_enter Tryz.func105,Tryz.ntmps105;go_wp2_with(at_builtin;refine wpList_append_own _ rfl _ _ 47 rfl w.heap.size 54 i0 (.agg #[.bool false,.int .u64 0,.int .u64 0]) 3 24 Tryz.underlying47 hi hz0 hz1 hz2 rfl aF _ 0 [] rfl HO.out a n cap xs rfl HL.out QH.out H1.out (by unfold maxLen;omega) aM (by simp) ?_;intro v' w' ho hg hnil;obtain⟨A5,c5,rfl⟩:=aQ ho;rw[afx]at ho;obtain⟨UK,V6⟩:=aI ho (HB.out.grown hg HB.out.size (fun q hq=>(HO.out.lt q hq).1));clear ho hg hnil)
  go_ret;exact⟨⟨A5,c5,rfl,by have:=UK.out;rw[aa8]at this;exact this⟩,V6.out⟩
theorem RE{w:World}{v:Value}{n:Nat}{xs:List Value}(h:aW w v n 4 xs)(hn:n≤2000000)(h1:∀u∈xs,u.oneCell'=true):Calls ag 106 #[v] w (sK 82 4 n xs w):=by
 obtain⟨A,cap,rfl⟩:=h.shape;cases A with
 |none=>
  obtain⟨rfl,rfl⟩:=qq h;clear h;have e1:∀W,(binOp .eql 48 (.slice none 0 cap) (.slice none 0 0)).run ag W=.ok (.bool true) W:=fun _=>by kernel_rfl
  go_enter Tryz.func106,Tryz.ntmps106;go_wp2_with fail
  go_ret;exact⟨⟨none,0,rfl,a8 _ _ _ _⟩,aG _ _⟩
 |some a=>
  obtain⟨hl,hnews⟩:=qp h;obtain⟨i0,hi,hz0,hz1,hz2⟩:=info_parts Rw;have HB:=ae (boxed w (.cells #[] 82));have HO:=ae (World.ownsRow_lit (e:=82) (size:=4) (base:=w.heap.size) w #[] 0 (aw _) (by unfold maxLen;omega) rfl);have QH:=ae fun j u hu=>jD (hnews j u hu) HB.out
  obtain⟨HL,H1⟩:=aI hl h1;clear h hl hnews h1;have e1:∀W,(binOp .eql 48 (.slice (some a) n cap) (.slice none 0 0)).run ag W=.ok (.bool false) W:=fun _=>by kernel_rfl
  go_enter Tryz.func106,Tryz.ntmps106;go_wp2_with(at_builtin;refine wpList_append_own _ rfl _ _ 48 rfl w.heap.size 82 i0 (.agg #[.bool false,.int .u64 0,.int .u64 0,.int .u16 0]) 4 32 Tryz.underlying48 hi hz0 hz1 hz2 rfl aF _ 0 [] rfl HO.out a n cap xs rfl HL.out QH.out H1.out (by unfold maxLen;omega) aM (by simp) ?_;intro v' w' ho hg hnil;obtain⟨A5,c5,rfl⟩:=aQ ho;rw[afx]at ho;obtain⟨UK,V6⟩:=aI ho (HB.out.grown hg HB.out.size (fun q hq=>(HO.out.lt q hq).1));clear ho hg hnil)
  go_ret;exact⟨⟨A5,c5,rfl,by have:=UK.out;rw[aa8]at this;exact this⟩,V6.out⟩
theorem vC{w:World}{v:Value}{n:Nat}{xs:List Value}(h:aW w v n 6 xs)(hn:n≤2000000)(h1:∀u∈xs,u.oneCell'=true):Calls ag 48 #[v] w (sK 84 6 n xs w):=by
 obtain⟨A,cap,rfl⟩:=h.shape;cases A with
 |none=>
  obtain⟨rfl,rfl⟩:=qq h;clear h;have e1:∀W,(binOp .eql 31 (.slice none 0 cap) (.slice none 0 0)).run ag W=.ok (.bool true) W:=fun _=>by kernel_rfl
  go_enter Tryz.func48,Tryz.ntmps48;go_wp2_with fail
  go_ret;exact⟨⟨none,0,rfl,a8 _ _ _ _⟩,aG _ _⟩
 |some a=>
  obtain⟨hl,hnews⟩:=qp h;obtain⟨i0,hi,hz0,hz1,hz2⟩:=info_parts Rz;have HB:=ae (boxed w (.cells #[] 84));have HO:=ae (World.ownsRow_lit (e:=84) (size:=6) (base:=w.heap.size) w #[] 0 (aw _) (by unfold maxLen;omega) rfl);have QH:=ae fun j u hu=>jD (hnews j u hu) HB.out
  obtain⟨HL,H1⟩:=aI hl h1;clear h hl hnews h1;have e1:∀W,(binOp .eql 31 (.slice (some a) n cap) (.slice none 0 0)).run ag W=.ok (.bool false) W:=fun _=>by kernel_rfl
  go_enter Tryz.func48,Tryz.ntmps48;go_wp2_with(at_builtin;refine wpList_append_own _ rfl _ _ 31 rfl w.heap.size 84 i0 (.agg #[.int .u8 0,.string ⟨#[]⟩,.bool false,.int .u64 0,.int .u64 0,.int .u16 0]) 6 56 Tryz.underlying31 hi hz0 hz1 hz2 rfl aF _ 0 [] rfl HO.out a n cap xs rfl HL.out QH.out H1.out (by unfold maxLen;omega) aM (by simp) ?_;intro v' w' ho hg hnil;obtain⟨A5,c5,rfl⟩:=aQ ho;rw[afx]at ho;obtain⟨UK,V6⟩:=aI ho (HB.out.grown hg HB.out.size (fun q hq=>(HO.out.lt q hq).1));clear ho hg hnil)
  go_ret;exact⟨⟨A5,c5,rfl,by have:=UK.out;rw[aa8]at this;exact this⟩,V6.out⟩
structure Ey where
 s:ByteArray
 f:Nat
 odd:Bool
def Ey.fine(e:Ey):Prop:=e.f=0∧e.odd=false
def Ey.gd(e:Ey):Bool:= !e.odd&&decide (e.f=0)
theorem Ey.nB(e:Ey):e.gd=true↔e.fine:=by
 unfold Ey.gd Ey.fine;cases e.odd<;>simp
abbrev Rg(α:Type):=Ey→α×Ey
def Ey.tk(e:Ey)(n:Nat):Ey:=⟨nU e.s e.f n,nh e.s e.f n,e.odd⟩
def bG(n:Nat):Rg Nat:=fun e=>(jB e.s e.f n,e.tk n)
def keyE(n:Nat):Rg ByteArray:=fun e=>(qS e.s e.f n,e.tk n)
def cY{α β:Type}(p:Rg α)(g:α→Rg β):Rg β:=fun e=>g (p e).1 (p e).2
def ji{α:Type}(x:α):Rg α:=fun e=>(x,e)
def GU(f n:Nat):Nat:=if f=0∧32768<n then 4 else f
def zN(s0:ByteArray)(n:Nat):Rg ByteArray:=fun e=>(qS e.s (GU e.f n) n,⟨if GU e.f n=0∧n≤e.s.size then nU e.s (GU e.f n) n else s0,nh e.s (GU e.f n) n,e.odd⟩)
def fA:Rg ByteArray:=fun e=>cY (bG 2) (zN e.s) e
def acy:Rg Ad:=fun e=>(⟨false,0,0⟩,⟨e.s,e.f,true⟩)
def qX:Rg Ad:=cY (bG 1) fun k=>if k=4 then cY (bG 4) fun l=>ji ⟨false,0,l⟩else if k=6 then cY (bG 8) fun h=>cY (bG 8) fun l=>ji ⟨true,h,l⟩else acy
def Bj:Rg En:=cY qX fun a=>cY (bG 2) fun p=>ji (a,p)
def dA{α:Type}(p:Rg α):Nat→Rg (List α)
 |0=>ji []
 |n+1=>fun e=>if e.gd then cY p (fun x=>cY (dA p n) fun l=>ji (x::l)) e else([],e)
def bZ{α:Type}(p:Rg α):Rg (List α):=cY (bG 2) (dA p)
def Nb:Rg Pr:=cY (keyE 32) fun k=>cY (keyE 32) fun d=>cY fA fun u=>cY (bZ fA) fun ts=>cY (bZ qX) fun as_=>cY (bG 8) fun ex=>cY (bG 1) fun rl=>cY (bZ Bj) fun es=>ji ⟨k,d,u,ts,as_,ex,rl,es⟩
def Ol:Rg Ry:=cY (bG 1) fun i=>cY (keyE 32) fun k=>cY Bj fun e=>ji ⟨i,k,e⟩
def EJ:Rg Mp:=cY (bG 8) fun v=>cY (bZ Nb) fun ps=>cY (bZ Ol) fun rs=>cY fA fun t=>ji ⟨v,ps,rs,t⟩
structure ym{α:Type}(p:Rg α)(q:Ps α):Prop where
 good:∀e,e.fine→∀x r,q e.s.data.toList=some (x,r)→p e=(x,⟨gW r,0,false⟩)
 bad:∀e,e.fine→q e.s.data.toList=none→¬(p e).2.fine
 stay:∀e,¬e.fine→¬(p e).2.fine
theorem jj{α:Type}(x:α):ym (ji x) (oV x)where
 good:=fun e he y r h=>by
  injection h with h
  injection h with h1 h2
  obtain⟨s,f,o⟩:=e;obtain⟨rfl,rfl⟩:f=0∧o=false:=he;subst h1 h2;rfl
 bad:=fun e _ h=>by cases h
 stay:=fun e h=>h
theorem cf{α β:Type}{p:Rg α}{q:Ps α}{g:α→Rg β}{k:α→Ps β}(h:ym p q)(hg:∀x,ym (g x) (k x)):ym (cY p g) (dM q k)where
 good:=fun e he y r hq=>by
  unfold dM at hq;cases hp:q e.s.data.toList with
  |none=>rw[hp]at hq;cases hq
  |some z=>
   obtain⟨x,u⟩:=z;rw[hp]at hq;have h1:=h.good e he x u hp;have h2:=(hg x).good ⟨gW u,0,false⟩ ⟨rfl,rfl⟩ y r hq;unfold cY;rw[h1];exact h2
 bad:=fun e he hq=>by
  unfold dM at hq;unfold cY;cases hp:q e.s.data.toList with
  |none=>exact(hg _).stay _ (h.bad e he hp)
  |some z=>
   obtain⟨x,u⟩:=z;rw[hp]at hq;rw[h.good e he x u hp];exact(hg x).bad ⟨gW u,0,false⟩ ⟨rfl,rfl⟩ hq
 stay:=fun e he=>(hg _).stay _ (h.stay e he)
theorem Jp{e:Ey}{n:Nat}(h:(e.tk n).fine):e.fine∧n≤e.s.size:=by
 obtain⟨h1,h2⟩:=h;unfold Ey.tk nh at h1;simp only at h1;split at h1
 ·next hf=>
  split at h1
  ·next hn=>exact⟨⟨hf,h2⟩,hn⟩
  ·cases h1
 ·next hf=>exact absurd h1 hf
theorem RF(s:ByteArray)(n:Nat):(s.extract 0 n).data.toList=s.data.toList.take n:=by
 rw[ByteArray.data_extract];simp
theorem RI(s:ByteArray)(n:Nat):(s.extract n s.size).data.toList=s.data.toList.drop n:=by
 rw[ByteArray.data_extract];simp;rw[List.take_of_length_le (by rw[List.length_drop,eX];exact aw _)]
theorem RJ{s:ByteArray}{l:List UInt8}(h:s.data.toList=l):s=gW l:=by rw[←h];exact(aal s).symm
theorem Wy{e:Ey}(he:e.fine){n:Nat}(hn:n≤e.s.data.toList.length):qS e.s e.f n=gW (e.s.data.toList.take n)∧e.tk n=⟨gW (e.s.data.toList.drop n),0,false⟩:=by
 obtain⟨s,f,o⟩:=e;obtain⟨rfl,rfl⟩:f=0∧o=false:=he;simp only at hn⊢;rw[eX]at hn;refine⟨?_,?_⟩
 ·unfold qS;rw[if_pos ⟨rfl,hn⟩];exact RJ (RF s n)
 ·unfold Ey.tk nU nh;simp only;rw[if_pos ⟨trivial,hn⟩,if_pos trivial,if_pos hn];rw[RJ (RI s n)]
theorem Nc(l:List UInt8):O6 (gW l)=pF l:=by
 unfold O6 pZ jc pF gW;rw[List.foldl_map]
theorem yn{n:Nat}{t x r:List UInt8}(h:jz n t=some (x,r)):n≤t.length∧x=t.take n∧r=t.drop n:=by
 unfold jz at h;split at h
 ·next hn=>injection h with h;injection h with h1 h2;exact⟨hn,h1.symm,h2.symm⟩
 ·cases h
theorem Nh{n:Nat}{t:List UInt8}(h:jz n t=none):t.length<n:=by
 unfold jz at h;split at h
 ·cases h
 ·omega
theorem Dv{α:Type}(n:Nat)(F:ByteArray→α):ym (fun e=>(F (qS e.s e.f n),e.tk n)) (fun t=>(jz n t).map fun x=>(F (gW x.1),x.2))where
 good:=fun e he y r h=>by
  cases ht:jz n e.s.data.toList with
  |none=>simp only[ht]at h;cases h
  |some z=>
   obtain⟨x,u⟩:=z;simp only[ht]at h;injection h with h
   injection h with h1 h2
   obtain⟨hn,e1,e2⟩:=yn ht;obtain⟨g1,g2⟩:=Wy he hn;simp only at h1 h2;subst e1 e2 h1 h2;rw[g1,g2]
 bad:=fun e he h=>by
  intro hf;have:=(Jp hf).2;cases ht:jz n e.s.data.toList with
  |none=>have:=Nh ht;rw[eX]at this;omega
  |some z=>simp only[ht]at h;cases h
 stay:=fun e he hf=>he (Jp hf).1
theorem fQ(n:Nat):ym (bG n) (oG n):=by
 have:=Dv n O6;unfold bG oG jB;simp only[Nc]at this;exact this
theorem og(n:Nat):ym (keyE n) (xf n):=Dv n fun s=>s
theorem Dw{α:Type}{p:Rg α}(h:∀e,¬(p e).2.fine):ym p (fun _=>none)where
 good:=fun e _ x r hq=>by cases hq
 bad:=fun e _ _=>h e
 stay:=fun e _=>h e
theorem RN:ym qX adP:=by
 refine cf (fQ 1) fun k=>?_
 by_cases h4:k=4
 ·rw[if_pos h4,if_pos h4];exact cf (fQ 4) fun l=>jj _
 ·rw[if_neg h4,if_neg h4];by_cases h6:k=6
  ·rw[if_pos h6,if_pos h6];exact cf (fQ 8) fun h=>cf (fQ 8) fun l=>jj _
  ·rw[if_neg h6,if_neg h6];exact Dw fun e h=>by cases h.2
theorem RQ:ym Bj enP:=cf RN fun _=>cf (fQ 2) fun _=>jj _
theorem zO(s0:ByteArray)(n:Nat)(hn:¬32768<n)(e:Ey):(zN s0 n e).1=(keyE n e).1∧(e.f=0∧n≤e.s.size→(zN s0 n e).2=(keyE n e).2)∧(zN s0 n e).2.f=(keyE n e).2.f∧(zN s0 n e).2.odd=(keyE n e).2.odd:=by
 have h:GU e.f n=e.f:=by unfold GU;rw[if_neg aM]
 unfold zN keyE Ey.tk;simp only[h];exact⟨trivial,fun g=>by rw[if_pos g],trivial,trivial⟩
theorem vD(s0:ByteArray)(n:Nat):ym (zN s0 n) (if 32768<n then fun _=>none else xf n):=by
 by_cases hn:32768<n
 ·rw[if_pos hn];refine Dw fun e h=>?_
  obtain⟨h1,h2⟩:=h;have h3:GU e.f n≠0:=by
   unfold GU;split
   ·decide
   ·next h=>intro h0;exact h ⟨h0,hn⟩
  unfold zN nh at h1;simp only at h1;rw[if_neg h3]at h1;exact h3 h1
 ·rw[if_neg hn];refine⟨fun e he x r hq=>?_,fun e he hq hf=>?_,fun e he hf=>?_⟩
  ·obtain⟨h1,h2,_,_⟩:=zO s0 n hn e;have hk:=(og n).good e he x r hq;have hle:n≤e.s.size:=by
    unfold xf at hq;cases ht:jz n e.s.data.toList with
    |none=>rw[ht]at hq;cases hq
    |some z=>have:=(yn (x:=z.1) (r:=z.2) ht).1;rw[eX]at this;exact this
   have h3:=h2 ⟨he.1,hle⟩;rw[hk]at h1 h3;exact Prod.ext h1 h3
  ·obtain⟨_,_,h3,h4⟩:=zO s0 n hn e;exact(og n).bad e he hq ⟨h3▸hf.1,h4▸hf.2⟩
  ·obtain⟨_,_,h3,h4⟩:=zO s0 n hn e;exact(og n).stay e he ⟨h3▸hf.1,h4▸hf.2⟩
theorem zP:ym fA L9 where
 good:=fun e he x r hq=>(cf (fQ 2) (vD e.s)).good e he x r hq
 bad:=fun e he hq=>(cf (fQ 2) (vD e.s)).bad e he hq
 stay:=fun e he=>(cf (fQ 2) (vD e.s)).stay e he
theorem Dx{α:Type}{p:Rg α}{q:Ps α}(h:ym p q):∀n,ym (dA p n) (ve q n)
 |0=>jj []
 |n+1=>by
  have ih:=cf h fun x=>cf (Dx h n) fun l=>jj (x::l)
  have hd:∀e,dA p (n+1) e=if e.gd then cY p (fun x=>cY (dA p n) fun l=>ji (x::l)) e else([],e):=fun e=>rfl
  refine⟨fun e he x r hq=>?_,fun e he hq hf=>?_,fun e he hf=>?_⟩
  ·rw[hd,if_pos ((Ey.nB e).2 he)];exact ih.good e he x r hq
  ·rw[hd,if_pos ((Ey.nB e).2 he)]at hf;exact ih.bad e he hq hf
  ·rw[hd,if_neg (fun h=>he ((Ey.nB e).1 h))]at hf;exact he hf
theorem nC{α:Type}{p:Rg α}{q:Ps α}(h:ym p q):ym (bZ p) (sM q):=cf (fQ 2) fun n=>Dx h n
theorem aaq:ym Nb prP:=cf (og 32) fun _=>cf (og 32) fun _=>cf zP fun _=>cf (nC zP) fun _=>cf (nC RN) fun _=>cf (fQ 8) fun _=>cf (fQ 1) fun _=>cf (nC RQ) fun _=>jj _
theorem aar:ym Ol ryP:=cf (fQ 1) fun _=>cf (og 32) fun _=>cf RQ fun _=>jj _
theorem aas:ym EJ mpP:=cf (fQ 8) fun _=>cf (nC aaq) fun _=>cf (nC aar) fun _=>cf zP fun _=>jj _
def xr(e:Ey):Bool:=e.gd&&decide (e.s.size=0)
theorem GV{α:Type}{q:Ps α}{t:List UInt8}(hs:¬32768<t.length)(h:q t=none):fx q t=none:=by unfold fx;rw[if_neg hs,h]
theorem Ni{α:Type}{q:Ps α}{t:List UInt8}{x:α}(hs:¬32768<t.length)(h:q t=some (x,[])):fx q t=some x:=by unfold fx;rw[if_neg hs,h]
theorem GX{α:Type}{q:Ps α}{t r:List UInt8}{x:α}{c:UInt8}(hs:¬32768<t.length)(h:q t=some (x,c::r)):fx q t=none:=by unfold fx;rw[if_neg hs,h]
theorem Nj{α:Type}{p:Rg α}{q:Ps α}(h:ym p q)(s:ByteArray)(hs:¬32768<s.size):(xr (p ⟨s,0,false⟩).2=true∧fx q s.data.toList=some (p ⟨s,0,false⟩).1)∨(xr (p ⟨s,0,false⟩).2=false∧fx q s.data.toList=none):=by
 have hl:¬32768<s.data.toList.length:=by rw[eX];exact hs
 have hf:(⟨s,0,false⟩:Ey).fine:=⟨rfl,rfl⟩;cases hq:q s.data.toList with
 |none=>
  refine Or.inr ⟨?_,GV hl hq⟩;have hb:=h.bad _ hf hq;cases he:xr (p ⟨s,0,false⟩).2 with
  |false=>rfl
  |true=>
   unfold xr at he;simp only[Bool.and_eq_true]at he;exact absurd ((Ey.nB _).1 he.1) hb
 |some z=>
  obtain⟨x,r⟩:=z;have hg:=h.good _ hf x r hq;cases r with
  |nil=>
   rw[Ni hl hq,hg];exact Or.inl ⟨rfl,rfl⟩
  |cons c r=>
   rw[GX hl hq,hg];refine Or.inr ⟨?_,rfl⟩;unfold xr;have:(gW (c::r)).size=r.length+1:=rfl;simp[this]
def vE{α:Type}(p:Rg α):Prop:=∀e,(p e).2.s.size≤e.s.size
theorem nD(s:ByteArray)(f n:Nat):(nU s f n).size≤s.size:=by
 unfold nU;split
 ·rw[ByteArray.size_extract];omega
 ·exact aw _
theorem jR{α:Type}(x:α):vE (ji x):=fun _=>aw _
theorem dN(n:Nat):vE (bG n):=fun _=>nD _ _ _
theorem om(n:Nat):vE (keyE n):=fun _=>nD _ _ _
theorem cZ{α β:Type}{p:Rg α}{g:α→Rg β}(h:vE p)(hg:∀x,vE (g x)):vE (cY p g):=fun e=>au (hg _ _) (h e)
theorem qD:vE fA:=fun e=>by
 have h1:=nD e.s e.f 2;unfold fA cY zN bG Ey.tk;simp only;split
 ·exact au (nD _ _ _) h1
 ·exact aw _
theorem RU{α:Type}{c:Prop}[Decidable c]{p q:Rg α}(hp:vE p)(hq:vE q):vE (if c then p else q):=by
 split
 ·exact hp
 ·exact hq
theorem vF:vE qX:=cZ (dN 1) fun _=>RU (cZ (dN 4) fun _=>jR _) (RU (cZ (dN 8) fun _=>cZ (dN 8) fun _=>jR _) fun _=>aw _)
theorem GY:vE Bj:=cZ vF fun _=>cZ (dN 2) fun _=>jR _
theorem Dy{α:Type}{p:Rg α}(h:vE p):∀n,vE (dA p n)
 |0=>jR []
 |n+1=>fun e=>by
  rw[show dA p (n+1) e=if e.gd then cY p (fun x=>cY (dA p n) fun l=>ji (x::l)) e else([],e)from rfl];split
  ·exact(cZ h fun x=>cZ (Dy h n) fun _=>jR _) e
  ·exact aw _
theorem jS{α:Type}{p:Rg α}(h:vE p):vE (bZ p):=cZ (dN 2) fun n=>Dy h n
theorem RX:vE Nb:=cZ (om 32) fun _=>cZ (om 32) fun _=>cZ qD fun _=>cZ (jS qD) fun _=>cZ (jS vF) fun _=>cZ (dN 8) fun _=>cZ (dN 1) fun _=>cZ (jS GY) fun _=>jR _
theorem RZ:vE Ol:=cZ (dN 1) fun _=>cZ (om 32) fun _=>cZ GY fun _=>jR _
theorem Nk{α:Type}(p:Rg α){n:Nat}{e:Ey}(h:e.gd=true):dA p (n+1) e=((p e).1::(dA p n (p e).2).1,(dA p n (p e).2).2):=by
 rw[show dA p (n+1) e=if e.gd then cY p (fun x=>cY (dA p n) fun l=>ji (x::l)) e else([],e)from rfl,if_pos h];rfl
theorem R9{α:Type}(p:Rg α){n:Nat}{e:Ey}(h:e.gd=false):dA p n e=([],e):=by
 cases n with
 |zero=>rfl
 |succ n=>
  rw[show dA p (n+1) e=if e.gd then cY p (fun x=>cY (dA p n) fun l=>ji (x::l)) e else([],e)from rfl,h];rfl
theorem WA{w:World}{b:Nat}{s:ByteArray}{f:Nat}(h:Rd w b s f)(n:Nat)(hs:s.size≤4000000)(hn:n≤4000000)(B:Bool)(hB:decide (f=0∧n≤s.size)=B):Calls ag 98 #[.pointer (some ⟨b,0,none⟩),.int .i64 n] w fun r w'=>r=.returned (.tuple #[.string (qS s f n),.bool B])∧Rd w' b (nU s f n) (nh s f n)∧Keeps (fun k=>k=b) w w':=by
 subst hB;exact fO h n hs hn
theorem GZ{w:World}{rb:Nat}{e:Ey}(h:Rd w rb e.s e.f)(hs:e.s.size≤4000000):Calls ag 43 #[.pointer (some ⟨rb,0,none⟩)] w fun r w'=>r=.returned (.string (fA e).1)∧Rd w' rb (fA e).2.s (fA e).2.f∧Keeps (fun k=>k=rb) w w':=by
 obtain⟨s,f,o⟩:=e;simp only at h hs;have h16:=BV h hs;have hn:=kl s f 2;have hs1:=nD s f 2;have c0:=h.cells.1;have e1:(fA ⟨s,f,o⟩).1=qS (nU s f 2) (GU (nh s f 2) (jB s f 2)) (jB s f 2):=rfl;have e2:(fA ⟨s,f,o⟩).2.s=if GU (nh s f 2) (jB s f 2)=0∧jB s f 2≤(nU s f 2).size then nU (nU s f 2) (GU (nh s f 2) (jB s f 2)) (jB s f 2)else s:=rfl
 have e3:(fA ⟨s,f,o⟩).2.f=nh (nU s f 2) (GU (nh s f 2) (jB s f 2)) (jB s f 2):=rfl;rw[e1,e2,e3];clear e1 e2 e3;generalize jB s f 2=n at*;generalize nU s f 2=s1 at*;generalize nh s f 2=f1 at*;have hn1:n<65536:=by simpa using hn
 have htk:=fun u f2 B(hB:decide (f2=0∧n≤s1.size)=B)(hu:Rd u rb s1 f2)=>WA hu n aM aM B hB
 obtain⟨EK,Gn⟩:=aI h16 htk;have hwr:IntKind.i64.wrap (n:Int)=(n:Int):=IntWalk.i64_in _ aM;clear h16 htk h hs hs1 hn;by_cases hf:f1=0
 ·subst hf;by_cases hl:32768<n
  ·rw[show GU 0 n=4 from if_pos ⟨rfl,hl⟩,if_neg aM];have hl':(32768:Int)<(n:Int):=by omega
   go_enter Tryz.func43,Tryz.ntmps43;go_wp2_with(first
    |(go_at_call 92;(with_reducible refine EK.out.mono ?_);rintro r w1⟨rfl,hR1,hK1⟩;have d1:w1.cell? ⟨rb,1,none⟩=some (.int .i64 0):=hR1.cells.2;have g1:=hR1.free.2;obtain⟨oS,HR2,kE⟩:=bj hK1 (show Rd (w1.setCell ⟨rb,1,none⟩ (.int .i64 4)) rb s1 4 from hR1.aN 1 (.int .i64 4)) ((Keeps.refl (fun k=>k=rb) w1).setCell (p:=⟨rb,1,none⟩) (.inl rfl) (.int .i64 4));clear hR1 hK1)
    |(go_at_call 98;(with_reducible refine(Gn.out _ 4 false (by simp) HR2.out).mono ?_);rintro r w3⟨rfl,gk,hK3⟩;have g0:=gk.free.1;have q0:=gk.cells.1;obtain⟨HR4,iY⟩:=aI (gk.aN 0 (.string s)) (hK3.setCell (p:=⟨rb,0,none⟩) (.inl rfl) (.string s));clear gk hK3))
   go_ret;exact⟨rfl,HR4.out,oS.out.trans (kE.out.trans iY.out)⟩
  ·rw[show GU 0 n=0 from if_neg (fun h=>hl h.2)];have hl':¬(32768:Int)<(n:Int):=by omega
   by_cases ht:n≤s1.size
   ·rw[if_pos ⟨rfl,ht⟩];have HT:=ae ht;clear ht;go_enter Tryz.func43,Tryz.ntmps43;go_wp2_with(first
     |(go_at_call 92;(with_reducible refine EK.out.mono ?_);rintro r w1⟨rfl,hR1,hK1⟩;have d1:w1.cell? ⟨rb,1,none⟩=some (.int .i64 0):=hR1.cells.2;obtain⟨oS,HR2⟩:=aI hK1 hR1;clear hR1 hK1)
     |(go_at_call 98;(with_reducible refine(Gn.out _ 0 true (by have h:=HT.out;simp[h]) HR2.out).mono ?_);rintro r w3⟨rfl,gk,hK3⟩;obtain⟨HR4,iY⟩:=aI gk hK3;clear gk hK3))
    go_ret;exact⟨rfl,HR4.out,oS.out.trans iY.out⟩
   ·rw[if_neg (fun h=>ht h.2)];have HT:=ae ht;clear ht;go_enter Tryz.func43,Tryz.ntmps43;go_wp2_with(first
     |(go_at_call 92;(with_reducible refine EK.out.mono ?_);rintro r w1⟨rfl,hR1,hK1⟩;have d1:w1.cell? ⟨rb,1,none⟩=some (.int .i64 0):=hR1.cells.2;obtain⟨oS,HR2⟩:=aI hK1 hR1;clear hR1 hK1)
     |(go_at_call 98;(with_reducible refine(Gn.out _ 0 false (by have h:=HT.out;simp[h]) HR2.out).mono ?_);rintro r w3⟨rfl,gk,hK3⟩;have g0:=gk.free.1;have q0:=gk.cells.1;obtain⟨HR4,iY⟩:=aI (gk.aN 0 (.string s)) (hK3.setCell (p:=⟨rb,0,none⟩) (.inl rfl) (.string s));clear gk hK3))
    go_ret;exact⟨rfl,HR4.out,oS.out.trans iY.out⟩
 ·rw[show GU f1 n=f1 from if_neg (fun h=>hf h.1),if_neg (fun h=>hf h.1)];have HT:=ae hf;have hf':((f1:Int)==0)=false:=by simp;omega
  clear hf;go_enter Tryz.func43,Tryz.ntmps43;go_wp2_with(first
   |(go_at_call 92;(with_reducible refine EK.out.mono ?_);rintro r w1⟨rfl,hR1,hK1⟩;have d1:=hR1.cells.2;obtain⟨oS,HR2⟩:=aI hK1 hR1;clear hR1 hK1)
   |(go_at_call 98;(with_reducible refine(Gn.out _ f1 false (by have h:=HT.out;simp[h]) HR2.out).mono ?_);rintro r w3⟨rfl,gk,hK3⟩;have g0:=gk.free.1;have q0:=gk.cells.1;obtain⟨HR4,iY⟩:=aI (gk.aN 0 (.string s)) (hK3.setCell (p:=⟨rb,0,none⟩) (.inl rfl) (.string s));clear gk hK3))
  go_ret;exact⟨rfl,HR4.out,oS.out.trans iY.out⟩
structure bX(w:World)(b rb:Nat)(e:Ey):Prop where
 blk:aD w b 92 #[.pointer (some ⟨rb,0,none⟩),.bool e.odd]
 rd:Rd w rb e.s e.f
theorem bX.ne{w:World}{b rb:Nat}{e:Ey}(h:bX w b rb e):b≠rb:=aD.wH h.blk h.rd (by decide)
theorem bX.c0{w:World}{b rb:Nat}{e:Ey}(h:bX w b rb e):w.cell? ⟨b,0,none⟩=some (.pointer (some ⟨rb,0,none⟩)):=h.blk.cell 0
theorem bX.c1{w:World}{b rb:Nat}{e:Ey}(h:bX w b rb e):w.cell? ⟨b,1,none⟩=some (.bool e.odd):=h.blk.cell 1
abbrev Two(b rb:Nat):Nat→Prop:=fun k=>k=b∨k=rb
theorem bX.keep{S:Nat→Prop}{w w':World}{b rb:Nat}{e:Ey}(h:bX w b rb e)(k:Keeps S w w')(hb:¬S b)(hr:¬S rb):bX w' b rb e:=⟨h.blk.keep k hb,h.rd.keep k hr⟩
theorem bX.below{w w':World}{b rb:Nat}{e:Ey}(h:bX w b rb e)(k:Below w.heap.size w w'):bX w' b rb e:=⟨h.blk.below k h.blk.lt,h.rd.below k⟩
theorem bX.drew{w:World}{b rb:Nat}{e:Ey}(h:bX w b rb e):bX w.drew b rb e:=⟨h.blk.drew,aD.drew h.rd⟩
theorem bX.far{w:World}{b rb:Nat}{e:Ey}(h:bX w b rb e){p:Addr}(hb:b≠p.block)(hr:rb≠p.block)(u:Value):bX (w.setCell p u) b rb e:=⟨h.blk.far hb u,aD.far h.rd hr u⟩
theorem bX.step{w w':World}{b rb:Nat}{e:Ey}{s:ByteArray}{f:Nat}(h:bX w b rb e)(hr:Rd w' rb s f)(k:Keeps (fun k=>k=rb) w w'):bX w' b rb ⟨s,f,e.odd⟩∧Keeps (Two b rb) w w':=⟨⟨h.blk.keep k h.ne,hr⟩,k.mono fun _ _ h=>Or.inr h⟩
def gU(v:Value)(b rb:Nat)(e':Ey)(w:World)(r:Ending)(w':World):Prop:=r=.returned v∧bX w' b rb e'∧Keeps (Two b rb) w w'
theorem Si{w:World}{b rb:Nat}{e:Ey}(h:bX w b rb e)(hs:e.s.size≤4000000):Calls ag 95 #[.pointer (some ⟨rb,0,none⟩)] w (gU (.int .u8 ((bG 1 e).1:Int)) b rb (bG 1 e).2 w):=(Vh h.rd hs).mono fun _ _⟨h1,h2,h3⟩=>⟨h1,h.step h2 h3⟩
theorem rK{w:World}{b rb:Nat}{e:Ey}(h:bX w b rb e)(hs:e.s.size≤4000000):Calls ag 92 #[.pointer (some ⟨rb,0,none⟩)] w (gU (.int .u16 ((bG 2 e).1:Int)) b rb (bG 2 e).2 w):=(BV h.rd hs).mono fun _ _⟨h1,h2,h3⟩=>⟨h1,h.step h2 h3⟩
theorem aat{w:World}{b rb:Nat}{e:Ey}(h:bX w b rb e)(hs:e.s.size≤4000000):Calls ag 141 #[.pointer (some ⟨rb,0,none⟩)] w (gU (.int .u32 ((bG 4 e).1:Int)) b rb (bG 4 e).2 w):=(O7 h.rd hs).mono fun _ _⟨h1,h2,h3⟩=>⟨h1,h.step h2 h3⟩
theorem zQ{w:World}{b rb:Nat}{e:Ey}(h:bX w b rb e)(hs:e.s.size≤4000000):Calls ag 38 #[.pointer (some ⟨rb,0,none⟩)] w (gU (.int .u64 ((bG 8 e).1:Int)) b rb (bG 8 e).2 w):=(O9 h.rd hs).mono fun _ _⟨h1,h2,h3⟩=>⟨h1,h.step h2 h3⟩
theorem WB{w:World}{b rb:Nat}{e:Ey}(h:bX w b rb e)(hs:e.s.size≤4000000):Calls ag 119 #[.pointer (some ⟨rb,0,none⟩),.int .i64 32] w (gU (.string (keyE 32 e).1) b rb (keyE 32 e).2 w):=(KV h.rd 32 hs aF).mono fun _ _⟨h1,h2,h3⟩=>⟨h1,h.step h2 h3⟩
theorem zR{w:World}{b rb:Nat}{e:Ey}(h:bX w b rb e)(hs:e.s.size≤4000000):Calls ag 43 #[.pointer (some ⟨rb,0,none⟩)] w (gU (.string (fA e).1) b rb (fA e).2 w):=(GZ h.rd hs).mono fun _ _⟨h1,h2,h3⟩=>⟨h1,h.step h2 h3⟩
theorem iP{w:World}{b rb:Nat}{e:Ey}(h:bX w b rb e):Calls ag 89 #[.pointer (some ⟨b,0,none⟩)] w fun r w'=>r=.returned (.bool e.gd)∧w=w':=by
 have c0:=h.c0;have c1:=h.c1;have HF:=ae (uH h.rd);obtain⟨s,f,o⟩:=e;clear h;cases o with
 |true=>
  rw[show(⟨s,f,true⟩:Ey).gd=false from rfl];go_enter Tryz.func89,Tryz.ntmps89;go_wp2_with fail
  go_ret;exact⟨rfl,rfl⟩
 |false=>
  rw[show(⟨s,f,false⟩:Ey).gd=decide (f=0)from rfl];have hb:((f:Int)==0)=decide (f=0):=by
   rw[Bool.eq_iff_iff];simp
  generalize decide (f=0)=B at hb⊢;go_enter Tryz.func89,Tryz.ntmps89;go_wp2_with(go_at_call 139;(with_reducible refine HF.out.mono ?_);rintro r w1⟨rfl,rfl⟩)
  go_ret;exact⟨rfl,rfl⟩
theorem rL{w:World}{b rb:Nat}{e:Ey}(h:bX w b rb e)(hs:e.s.size≤4000000):Calls ag 66 #[.pointer (some ⟨b,0,none⟩)] w (gU (.string (keyE 32 e).1) b rb (keyE 32 e).2 w):=by
 have c0:=h.c0;have H:=ae (WB h hs);unfold gU at H⊢;clear h hs;go_enter Tryz.func66,Tryz.ntmps66;go_wp2_with(go_at_call 119;(with_reducible refine H.out.mono ?_);rintro r w1⟨rfl,h1,h2⟩)
 go_ret;exact⟨rfl,h1,h2⟩
theorem bX.put{W w:World}{b rb P:Nat}{e:Ey}(h:bX w b rb e)(hk:Keeps (Two b rb) W w)(hb:b<P)(hr:rb<P)(hP:W.heap.size≤P)(i:Nat)(u:Value):bX (w.setCell ⟨P,i,none⟩ u) b rb e∧Keeps (Two b rb) W (w.setCell ⟨P,i,none⟩ u):=⟨h.far (p:=⟨P,i,none⟩) (by simp;omega) (by simp;omega) u,hk.setCell (p:=⟨P,i,none⟩) (Or.inr hP) u⟩
theorem bX.lt{w:World}{b rb:Nat}{e:Ey}(h:bX w b rb e):b<w.heap.size∧rb<w.heap.size:=⟨h.blk.lt,h.rd.lt⟩
theorem ad3{e:Ey}(h:(bG 1 e).1=4):qX e=(⟨false,0,(bG 4 (bG 1 e).2).1⟩,(bG 4 (bG 1 e).2).2):=by
 simp[qX,cY,ji,h]
theorem ad4{e:Ey}(h:(bG 1 e).1=6):qX e=(⟨true,(bG 8 (bG 1 e).2).1,(bG 8 (bG 8 (bG 1 e).2).2).1⟩,(bG 8 (bG 8 (bG 1 e).2).2).2):=by
 simp[qX,cY,ji,h]
theorem ad5{e:Ey}(h4:(bG 1 e).1≠4)(h6:(bG 1 e).1≠6):qX e=(⟨false,0,0⟩,⟨(bG 1 e).2.s,(bG 1 e).2.f,true⟩):=by
 simp[qX,cY,acy,h4,h6]
theorem vG{w:World}{b rb:Nat}{e:Ey}(h:bX w b rb e)(hs:e.s.size≤4000000):Calls ag 94 #[.pointer (some ⟨b,0,none⟩)] w (gU (.agg (qX e).1.cells) b rb (qX e).2 w):=by
 obtain⟨hbl,hrl⟩:=h.lt;have hb1:=boxed w (.cells #[.bool false,.int .u64 0,.int .u64 0] 54);obtain⟨H1,HP,HK⟩:=bj (h.below hb1) (aD.new w 54 #[.bool false,.int .u64 0,.int .u64 0]) (Keeps.of_below (S:=Two b rb) hb1 fun _ h _=>h);have hl1:=dN 1 e;have h8:=fun u(hu:bX u b rb e)=>Si hu hs
 have h32:=fun u(hu:bX u b rb (bG 1 e).2)=>aat hu (au hl1 hs)
 have h64:=fun u(hu:bX u b rb (bG 1 e).2)=>zQ hu (au hl1 hs)
 have Sj:=fun u(hu:bX u b rb (bG 8 (bG 1 e).2).2)=>zQ hu (au (dN 8 _) (au hl1 hs))
 have b1:(bG 1 e).1<256:=kl e.s e.f 1;have b4:(bG 4 (bG 1 e).2).1<4294967296:=kl (bG 1 e).2.s (bG 1 e).2.f 4;unfold gU at h8 h32 h64 Sj⊢;have qY:¬Two b rb w.heap.size:=by unfold Two;omega
 clear h hb1 hl1 hs;by_cases k4:(bG 1 e).1=4
 ·rw[ad3 k4];unfold Ad.cells;simp only;rw[k4]at h8;generalize(bG 1 e).2=e1 at*;generalize(bG 4 e1).1=lo at*;generalize(bG 4 e1).2=e2 at*;have hwl:IntKind.u64.wrap (lo:Int)=(lo:Int):=by rw[IntKind.wrap_u64];omega
  obtain⟨H8,H32⟩:=aI h8 h32;clear h8 h32 h64 Sj b1 k4 b4;go_enter Tryz.func94,Tryz.ntmps94;go_upto_region 1 with fail
  generalize w.alloc (.cells #[.bool false,.int .u64 0,.int .u64 0] 54)=w1 at H1 HP HK⊢;have WC:=aw w.heap.size;generalize hP:w.heap.size=P at HP hbl hrl qY WC⊢;have kf:=ae hP;clear hP;have a0:=H1.out.c0;go_wp2_with(first
   |(go_at_call 95;(with_reducible refine(H8.out _ H1.out).mono ?_);rintro r w2⟨rfl,g2,K2⟩;have a2:=g2.c0;obtain⟨H2,HP2,kE⟩:=bj g2 (HP.out.keep K2 qY) (HK.out.trans K2);clear g2 K2)
   |(go_at_call 141;(with_reducible refine(H32.out _ H2.out).mono ?_);rintro r w3⟨rfl,g3,K3⟩;have H3:=ae g3;have hP3:=HP2.out.keep K3 qY;have c0:=hP3.cell 0;have c1:=hP3.cell 1;have c2:=hP3.cell 2;simp at c0 c1 c2;have fr:=(fun i=>hP3.frozen i);obtain⟨fX,iY⟩:=aI hP3 (kE.out.trans K3);clear g3 K3 hP3))
  have s1:aD _ P 54 #[.bool false,.int .u64 0,.int .u64 0]:=fX.out.aN 0 (.bool false);have s2:aD _ P 54 #[.bool false,.int .u64 0,.int .u64 0]:=s1.aN 1 (.int .u64 0);have s3:aD _ P 54 #[.bool false,.int .u64 0,.int .u64 lo]:=s2.aN 2 (.int .u64 lo);have jT:w.heap.size≤P:=Nat.le_of_eq kf.out;obtain⟨p1,q1⟩:=H3.out.put iY.out hbl hrl jT 0 (.bool false);obtain⟨p2,q2⟩:=p1.put q1 hbl hrl jT 1 (.int .u64 0);obtain⟨p3,q3⟩:=p2.put q2 hbl hrl jT 2 (.int .u64 lo);exact bodyPost_ret (eV (x:=2) rfl rfl (nV s3)) rfl ⟨rfl,p3,q3⟩
 ·by_cases k6:(bG 1 e).1=6
  ·rw[ad4 k6];unfold Ad.cells;simp only;rw[k6]at h8;generalize(bG 1 e).2=e1 at*;generalize(bG 8 e1).1=hi at*;generalize(bG 8 e1).2=e2 at*;generalize(bG 8 e2).1=lo at*;generalize(bG 8 e2).2=e3 at*;obtain⟨H8,H64,ad6⟩:=bj h8 h64 Sj;clear h8 h32 h64 Sj b1 k6 b4 k4;go_enter Tryz.func94,Tryz.ntmps94;go_upto_region 1 with fail
   generalize w.alloc (.cells #[.bool false,.int .u64 0,.int .u64 0] 54)=w1 at H1 HP HK⊢;have WC:=aw w.heap.size;generalize hP:w.heap.size=P at HP hbl hrl qY WC⊢;have kf:=ae hP;clear hP;have a0:=H1.out.c0;go_wp2_with(go_at_call 95;(with_reducible refine(H8.out _ H1.out).mono ?_);rintro r w2⟨rfl,g2,K2⟩;have a2:=g2.c0;have H2:=ae g2.drew;have HP2:=ae (HP.out.keep K2 qY).drew;have kE:=ae (HK.out.trans K2).drew;clear g2 K2 a0)
   go_region_held3 (fun w'=>w'.cell? ⟨b,0,none⟩=some (.pointer (some ⟨rb,0,none⟩)))
    (first|exact a2|exact a3|exact a4|(rw[cell_far (by simp;omega),cell_far (by simp;omega),cell_far (by simp;omega)];exact a4))
    (first
      |(go_at_call 38;(with_reducible refine(H64.out _ H2.out).mono ?_);rintro r w3⟨rfl,g3,K3⟩;have a3:=g3.c0;obtain⟨H3,fX,iY⟩:=bj g3 (HP2.out.keep K3 qY) (kE.out.trans K3);clear g3 K3)
      |(go_at_call 38;(with_reducible refine(ad6.out _ H3.out).mono ?_);rintro r w4⟨rfl,g4,K4⟩;have a4:=g4.c0;have H4:=ae g4;have mc:=fX.out.keep K4 qY;have c0:=mc.cell 0;have c1:=mc.cell 1;have c2:=mc.cell 2;simp at c0 c1 c2;have fr:=(fun i=>mc.frozen i);obtain⟨yk,yj⟩:=aI mc (iY.out.trans K4);clear g4 K4 mc))
   go_wp2_with fail
   have s1:aD _ P 54 #[.bool true,.int .u64 0,.int .u64 0]:=yk.out.aN 0 (.bool true);have s2:aD _ P 54 #[.bool true,.int .u64 hi,.int .u64 0]:=s1.aN 1 (.int .u64 hi);have s3:aD _ P 54 #[.bool true,.int .u64 hi,.int .u64 lo]:=s2.aN 2 (.int .u64 lo);have jT:w.heap.size≤P:=Nat.le_of_eq kf.out;obtain⟨p1,q1⟩:=H4.out.put yj.out hbl hrl jT 0 (.bool true);obtain⟨p2,q2⟩:=p1.put q1 hbl hrl jT 1 (.int .u64 hi);obtain⟨p3,q3⟩:=p2.put q2 hbl hrl jT 2 (.int .u64 lo);exact bodyPost_ret (eV (x:=2) rfl rfl (nV s3)) rfl ⟨rfl,p3,q3⟩
  ·rw[ad5 k4 k6];unfold Ad.cells;simp only;generalize(bG 1 e).1=k at*;generalize(bG 1 e).2=e1 at*;have x4:((k:Int)==4)=false:=by simp;omega
   have x6:((k:Int)==6)=false:=by simp;omega
   have H8:=ae h8;clear h8 h32 h64 Sj b1 k6 b4 k4;go_enter Tryz.func94,Tryz.ntmps94;go_upto_region 1 with fail
   generalize w.alloc (.cells #[.bool false,.int .u64 0,.int .u64 0] 54)=w1 at H1 HP HK⊢;have WC:=aw w.heap.size;generalize hP:w.heap.size=P at HP hbl hrl qY WC⊢;have kf:=ae hP;clear hP;have a0:=H1.out.c0;go_wp2_with(go_at_call 95;(with_reducible refine(H8.out _ H1.out).mono ?_);rintro r w2⟨rfl,g2,K2⟩;have a2:=g2.c1;have f2:=g2.blk.frozen 1;have hP2:=HP.out.keep K2 qY;have c0:=hP2.cell 0;have c1:=hP2.cell 1;have c2:=hP2.cell 2;simp at c0 c1 c2;have fr:=(fun i=>hP2.frozen i);obtain⟨H2,HP2,kE⟩:=bj g2 hP2 (HK.out.trans K2);clear g2 K2 a0 hP2)
   have hbP:b≠P:=by omega
   have hE:bX (w2.setCell ⟨b,1,none⟩ (.bool true)) b rb ⟨e1.s,e1.f,true⟩:=⟨H2.out.blk.aN 1 (.bool true),aD.far H2.out.rd (p:=⟨b,1,none⟩) H2.out.ne.symm _⟩;have hK:=kE.out.setCell (p:=⟨b,1,none⟩) (Or.inl (Or.inl rfl)) (.bool true);have s0:aD (w2.setCell ⟨b,1,none⟩ (.bool true)) P 54 #[.bool false,.int .u64 0,.int .u64 0]:=HP2.out.far (p:=⟨b,1,none⟩) hbP.symm (.bool true);have s1:aD _ P 54 #[.bool false,.int .u64 0,.int .u64 0]:=s0.aN 0 (.bool false);have s2:aD _ P 54 #[.bool false,.int .u64 0,.int .u64 0]:=s1.aN 1 (.int .u64 0);have s3:aD _ P 54 #[.bool false,.int .u64 0,.int .u64 0]:=s2.aN 2 (.int .u64 0);have jT:w.heap.size≤P:=Nat.le_of_eq kf.out;obtain⟨p1,q1⟩:=hE.put hK hbl hrl jT 0 (.bool false);obtain⟨p2,q2⟩:=p1.put q1 hbl hrl jT 1 (.int .u64 0);obtain⟨p3,q3⟩:=p2.put q2 hbl hrl jT 2 (.int .u64 0);exact bodyPost_ret (eV (x:=2) rfl rfl (nV s3)) rfl ⟨rfl,p3,q3⟩
theorem WE{w:World}{g:Nat}{v0 v1 v2 v3:Value}(h:aD w g 82 #[v0,v1,v2,v3]):(loadVar 82 ⟨g,0,none⟩).run ag w=.ok (.agg #[v0,v1,v2,v3]) w:=by
 have c0:=h.cell 0;have c1:=h.cell 1;have c2:=h.cell 2;have c3:=h.cell 3;simp at c0 c1 c2 c3;simp[loadVar,go_sem,c0,c1,c2,c3]
theorem WG{w:World}{g:Nat}{v0 v1 v2 v3 v4 v5:Value}(h:aD w g 84 #[v0,v1,v2,v3,v4,v5]):(loadVar 84 ⟨g,0,none⟩).run ag w=.ok (.agg #[v0,v1,v2,v3,v4,v5]) w:=by
 have c0:=h.cell 0;have c1:=h.cell 1;have c2:=h.cell 2;have c3:=h.cell 3;have c4:=h.cell 4;have c5:=h.cell 5;simp at c0 c1 c2 c3 c4 c5;simp[loadVar,go_sem,c0,c1,c2,c3,c4,c5]
def acz(e:En):Array Value:= #[.bool e.1.v6,.int .u64 (e.1.hi:Int),.int .u64 (e.1.lo:Int),.int .u16 (e.2:Int)]
theorem aau(e:Ey):Bj e=(((qX e).1,(bG 2 (qX e).2).1),(bG 2 (qX e).2).2):=rfl
theorem Nl{w:World}{b rb:Nat}{e:Ey}(h:bX w b rb e)(hs:e.s.size≤4000000):Calls ag 97 #[.pointer (some ⟨b,0,none⟩)] w (gU (.agg (acz (Bj e).1)) b rb (Bj e).2 w):=by
 obtain⟨hbl,hrl⟩:=h.lt;have hb1:=boxed w (.cells #[.bool false,.int .u64 0,.int .u64 0,.int .u16 0] 82);obtain⟨H1,HP,HK⟩:=bj (h.below hb1) (aD.new w 82 #[.bool false,.int .u64 0,.int .u64 0,.int .u16 0]) (Keeps.of_below (S:=Two b rb) hb1 fun _ h _=>h);have hl1:=vF e;have had:=fun u(hu:bX u b rb e)=>vG hu hs
 have h16:=fun u(hu:bX u b rb (qX e).2)=>rK hu (au hl1 hs)
 have qY:¬Two b rb w.heap.size:=by unfold Two;omega
 rw[aau];unfold acz;unfold gU at had h16⊢;simp only;clear h hb1 hl1 hs;generalize(bG 2 (qX e).2).1=po at*;generalize(bG 2 (qX e).2).2=e2 at*;generalize(qX e).2=e1 at*;generalize(qX e).1=a at*;obtain⟨v,hi,lo⟩:=a;unfold Ad.cells at had;simp only at had⊢;obtain⟨HAd,EK⟩:=aI had h16;clear had h16;go_enter Tryz.func97,Tryz.ntmps97;go_upto_region 1 with fail
 generalize w.alloc (.cells #[.bool false,.int .u64 0,.int .u64 0,.int .u16 0] 82)=w1 at H1 HP HK⊢;have WC:=aw w.heap.size;generalize hP:w.heap.size=P at HP hbl hrl qY WC⊢;have kf:=ae hP;clear hP;have a1:=H1.out.c0;obtain⟨H1d,kP,EB⟩:=bj H1.out.drew HP.out.drew HK.out.drew;clear H1 HP HK;go_region_held3 (fun w'=>w'.cell? ⟨b,0,none⟩=some (.pointer (some ⟨rb,0,none⟩)))
  (first|exact a1|exact a2|exact a3|(rw[cell_far (by simp;omega),cell_far (by simp;omega),cell_far (by simp;omega),cell_far (by simp;omega)];exact a3))
  (first
    |(go_at_call 94;(with_reducible refine(HAd.out _ H1d.out).mono ?_);rintro r w2⟨rfl,g2,K2⟩;have a2:=g2.c0;obtain⟨H2,HP2,kE⟩:=bj g2 (kP.out.keep K2 qY) (EB.out.trans K2);clear g2 K2)
    |(go_at_call 92;(with_reducible refine(EK.out _ H2.out).mono ?_);rintro r w3⟨rfl,g3,K3⟩;have a3:=g3.c0;have H3:=ae g3;have hP3:=HP2.out.keep K3 qY;have c0:=hP3.cell 0;have c1:=hP3.cell 1;have c2:=hP3.cell 2;have c3:=hP3.cell 3;simp at c0 c1 c2 c3;have fr:=(fun i=>hP3.frozen i);obtain⟨fX,iY⟩:=aI hP3 (kE.out.trans K3);clear g3 K3 hP3))
 go_wp2_with fail
 have s1:aD _ P 82 #[.bool v,.int .u64 0,.int .u64 0,.int .u16 0]:=fX.out.aN 0 (.bool v);have s2:aD _ P 82 #[.bool v,.int .u64 hi,.int .u64 0,.int .u16 0]:=s1.aN 1 (.int .u64 hi);have s3:aD _ P 82 #[.bool v,.int .u64 hi,.int .u64 lo,.int .u16 0]:=s2.aN 2 (.int .u64 lo);have s4:aD _ P 82 #[.bool v,.int .u64 hi,.int .u64 lo,.int .u16 po]:=s3.aN 3 (.int .u16 po);have jT:w.heap.size≤P:=Nat.le_of_eq kf.out;obtain⟨p1,q1⟩:=H3.out.put iY.out hbl hrl jT 0 (.bool v);obtain⟨p2,q2⟩:=p1.put q1 hbl hrl jT 1 (.int .u64 hi);obtain⟨p3,q3⟩:=p2.put q2 hbl hrl jT 2 (.int .u64 lo);obtain⟨p4,q4⟩:=p3.put q3 hbl hrl jT 3 (.int .u16 po);exact bodyPost_ret (eV (x:=2) rfl rfl (WE s4)) rfl ⟨rfl,p4,q4⟩
end Go.Proofs.YteflnojjjdkgmaaGreatDoor
