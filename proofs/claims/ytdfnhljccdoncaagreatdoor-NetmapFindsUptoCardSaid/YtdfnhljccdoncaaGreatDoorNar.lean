/- Joined out of: NfB EyA EyB. -/
import Derived.Test.YtdfnhljccdoncaaGreatDoorNaq
import Derived.Deep.Cut
set_option linter.unusedVariables false
set_option linter.unusedSimpArgs false
set_option maxHeartbeats 16000000
set_option maxRecDepth 100000
open Go.Lib renaming hid→ae
open Go.Proofs.Tryz renaming prog→ai
open Go.RowKit.Below renaming refl→aK
open Go.World renaming ownsRow_nil→bK
open List renaming nil_append→af6
open Nat renaming le_refl→aw,le_trans→ax,zero_add→agw
namespace Go.Proofs.YtdfnhljccdoncaaGreatDoor
open Go.RowKit
attribute [local go_sem↓] Go.wp_at_zero Go.wp_at_succ
theorem SV:(ai.info? 44).map (fun i=>(i.zero,i.size,i.bytes))=some (some (.agg #[.bool false,.int .u64 0,.int .u64 0]),3,24):=by kernel_rfl
theorem SX:(ai.info? 69).map (fun i=>(i.zero,i.size,i.bytes))=some (some (.agg #[.bool false,.int .u64 0,.int .u64 0,.int .u16 0]),4,32):=by kernel_rfl
theorem SY:(ai.info? 71).map (fun i=>(i.zero,i.size,i.bytes))=some (some (.agg #[.int .u8 0,.string ⟨#[]⟩,.bool false,.int .u64 0,.int .u64 0,.int .u16 0]),6,56):=by kernel_rfl
theorem S3{w:World}{v:Value}{n:Nat}{xs:List Value}(h:aV w v n 3 xs)(hn:n≤2000000)(h1:∀u∈xs,u.oneCell'=true):Calls ai 109 #[v] w (tj 44 3 n xs w):=by
 obtain⟨A,cap,rfl⟩:=h.shape;cases A with
 |none=>
  obtain⟨rfl,rfl⟩:=qA h;clear h;have e1:∀W,(binOp .eql 46 (.slice none 0 cap) (.slice none 0 0)).run ai W=.ok (.bool true) W:=fun _=>by kernel_rfl
  go_enter Tryz.func109,Tryz.ntmps109;go_wp2_with fail
  go_ret;exact⟨⟨none,0,rfl,bK _ _ _ _⟩,aK _ _⟩
 |some a=>
  obtain⟨hl,hnews⟩:=qy h;obtain⟨i0,hi,hz0,hz1,hz2⟩:=info_parts SV;have HB:=ae (boxed w (.cells #[] 44));have HO:=ae (World.ownsRow_lit (e:=44) (size:=3) (base:=w.heap.size) w #[] 0 (aw _) (by unfold maxLen;omega) rfl);have Rr:=ae fun j u hu=>jQ (hnews j u hu) HB.out
  obtain⟨HL,H1⟩:=aQ hl h1;clear h hl hnews h1;have e1:∀W,(binOp .eql 46 (.slice (some a) n cap) (.slice none 0 0)).run ai W=.ok (.bool false) W:=fun _=>by kernel_rfl
  go_enter Tryz.func109,Tryz.ntmps109;go_wp2_with(at_builtin;refine wpList_append_own _ rfl _ _ 46 rfl w.heap.size 44 i0 (.agg #[.bool false,.int .u64 0,.int .u64 0]) 3 24 Tryz.underlying46 hi hz0 hz1 hz2 rfl aI _ 0 [] rfl HO.out a n cap xs rfl HL.out Rr.out H1.out (by unfold maxLen;omega) aY (by simp) ?_;intro v' w' ho hg hnil;obtain⟨A5,c5,rfl⟩:=aL ho;rw[agw]at ho;obtain⟨Vq,W9⟩:=aQ ho (HB.out.grown hg HB.out.size (fun q hq=>(HO.out.lt q hq).1));clear ho hg hnil)
  go_ret;exact⟨⟨A5,c5,rfl,by have:=Vq.out;rw[af6]at this;exact this⟩,W9.out⟩
theorem S4{w:World}{v:Value}{n:Nat}{xs:List Value}(h:aV w v n 4 xs)(hn:n≤2000000)(h1:∀u∈xs,u.oneCell'=true):Calls ai 110 #[v] w (tj 69 4 n xs w):=by
 obtain⟨A,cap,rfl⟩:=h.shape;cases A with
 |none=>
  obtain⟨rfl,rfl⟩:=qA h;clear h;have e1:∀W,(binOp .eql 47 (.slice none 0 cap) (.slice none 0 0)).run ai W=.ok (.bool true) W:=fun _=>by kernel_rfl
  go_enter Tryz.func110,Tryz.ntmps110;go_wp2_with fail
  go_ret;exact⟨⟨none,0,rfl,bK _ _ _ _⟩,aK _ _⟩
 |some a=>
  obtain⟨hl,hnews⟩:=qy h;obtain⟨i0,hi,hz0,hz1,hz2⟩:=info_parts SX;have HB:=ae (boxed w (.cells #[] 69));have HO:=ae (World.ownsRow_lit (e:=69) (size:=4) (base:=w.heap.size) w #[] 0 (aw _) (by unfold maxLen;omega) rfl);have Rr:=ae fun j u hu=>jQ (hnews j u hu) HB.out
  obtain⟨HL,H1⟩:=aQ hl h1;clear h hl hnews h1;have e1:∀W,(binOp .eql 47 (.slice (some a) n cap) (.slice none 0 0)).run ai W=.ok (.bool false) W:=fun _=>by kernel_rfl
  go_enter Tryz.func110,Tryz.ntmps110;go_wp2_with(at_builtin;refine wpList_append_own _ rfl _ _ 47 rfl w.heap.size 69 i0 (.agg #[.bool false,.int .u64 0,.int .u64 0,.int .u16 0]) 4 32 Tryz.underlying47 hi hz0 hz1 hz2 rfl aI _ 0 [] rfl HO.out a n cap xs rfl HL.out Rr.out H1.out (by unfold maxLen;omega) aY (by simp) ?_;intro v' w' ho hg hnil;obtain⟨A5,c5,rfl⟩:=aL ho;rw[agw]at ho;obtain⟨Vq,W9⟩:=aQ ho (HB.out.grown hg HB.out.size (fun q hq=>(HO.out.lt q hq).1));clear ho hg hnil)
  go_ret;exact⟨⟨A5,c5,rfl,by have:=Vq.out;rw[af6]at this;exact this⟩,W9.out⟩
theorem vW{w:World}{v:Value}{n:Nat}{xs:List Value}(h:aV w v n 6 xs)(hn:n≤2000000)(h1:∀u∈xs,u.oneCell'=true):Calls ai 45 #[v] w (tj 71 6 n xs w):=by
 obtain⟨A,cap,rfl⟩:=h.shape;cases A with
 |none=>
  obtain⟨rfl,rfl⟩:=qA h;clear h;have e1:∀W,(binOp .eql 24 (.slice none 0 cap) (.slice none 0 0)).run ai W=.ok (.bool true) W:=fun _=>by kernel_rfl
  go_enter Tryz.func45,Tryz.ntmps45;go_wp2_with fail
  go_ret;exact⟨⟨none,0,rfl,bK _ _ _ _⟩,aK _ _⟩
 |some a=>
  obtain⟨hl,hnews⟩:=qy h;obtain⟨i0,hi,hz0,hz1,hz2⟩:=info_parts SY;have HB:=ae (boxed w (.cells #[] 71));have HO:=ae (World.ownsRow_lit (e:=71) (size:=6) (base:=w.heap.size) w #[] 0 (aw _) (by unfold maxLen;omega) rfl);have Rr:=ae fun j u hu=>jQ (hnews j u hu) HB.out
  obtain⟨HL,H1⟩:=aQ hl h1;clear h hl hnews h1;have e1:∀W,(binOp .eql 24 (.slice (some a) n cap) (.slice none 0 0)).run ai W=.ok (.bool false) W:=fun _=>by kernel_rfl
  go_enter Tryz.func45,Tryz.ntmps45;go_wp2_with(at_builtin;refine wpList_append_own _ rfl _ _ 24 rfl w.heap.size 71 i0 (.agg #[.int .u8 0,.string ⟨#[]⟩,.bool false,.int .u64 0,.int .u64 0,.int .u16 0]) 6 56 Tryz.underlying24 hi hz0 hz1 hz2 rfl aI _ 0 [] rfl HO.out a n cap xs rfl HL.out Rr.out H1.out (by unfold maxLen;omega) aY (by simp) ?_;intro v' w' ho hg hnil;obtain⟨A5,c5,rfl⟩:=aL ho;rw[agw]at ho;obtain⟨Vq,W9⟩:=aQ ho (HB.out.grown hg HB.out.size (fun q hq=>(HO.out.lt q hq).1));clear ho hg hnil)
  go_ret;exact⟨⟨A5,c5,rfl,by have:=Vq.out;rw[af6]at this;exact this⟩,W9.out⟩
structure Ey where
 s:ByteArray
 f:Nat
 odd:Bool
def Ey.fine(e:Ey):Prop:=e.f=0∧e.odd=false
def Ey.gK(e:Ey):Bool:= !e.odd&&decide (e.f=0)
theorem Ey.nG(e:Ey):e.gK=true↔e.fine:=by
 unfold Ey.gK Ey.fine;cases e.odd<;>simp
abbrev Rg(α:Type):=Ey→α×Ey
def Ey.tk(e:Ey)(n:Nat):Ey:=⟨nZ e.s e.f n,nk e.s e.f n,e.odd⟩
def bH(n:Nat):Rg Nat:=fun e=>(jO e.s e.f n,e.tk n)
def keyE(n:Nat):Rg ByteArray:=fun e=>(rc e.s e.f n,e.tk n)
def cY{α β:Type}(p:Rg α)(g:α→Rg β):Rg β:=fun e=>g (p e).1 (p e).2
def jy{α:Type}(x:α):Rg α:=fun e=>(x,e)
def Im(f n:Nat):Nat:=if f=0∧32768<n then 4 else f
def AE(s0:ByteArray)(n:Nat):Rg ByteArray:=fun e=>(rc e.s (Im e.f n) n,⟨if Im e.f n=0∧n≤e.s.size then nZ e.s (Im e.f n) n else s0,nk e.s (Im e.f n) n,e.odd⟩)
def fM:Rg ByteArray:=fun e=>cY (bH 2) (AE e.s) e
def adr:Rg Ad:=fun e=>(⟨false,0,0⟩,⟨e.s,e.f,true⟩)
def rk:Rg Ad:=cY (bH 1) fun k=>if k=4 then cY (bH 4) fun l=>jy ⟨false,0,l⟩else if k=6 then cY (bH 8) fun h=>cY (bH 8) fun l=>jy ⟨true,h,l⟩else adr
def BX:Rg En:=cY rk fun a=>cY (bH 2) fun p=>jy (a,p)
def dI{α:Type}(p:Rg α):Nat→Rg (List α)
 |0=>jy []
 |n+1=>fun e=>if e.gK then cY p (fun x=>cY (dI p n) fun l=>jy (x::l)) e else([],e)
def ck{α:Type}(p:Rg α):Rg (List α):=cY (bH 2) (dI p)
def NQ:Rg Pr:=cY (keyE 32) fun k=>cY (keyE 32) fun d=>cY fM fun u=>cY (ck fM) fun ts=>cY (ck rk) fun as_=>cY (bH 8) fun ex=>cY (bH 1) fun rl=>cY (ck BX) fun es=>jy ⟨k,d,u,ts,as_,ex,rl,es⟩
def O7:Rg Ry:=cY (bH 1) fun i=>cY (keyE 32) fun k=>cY BX fun e=>jy ⟨i,k,e⟩
def Fq:Rg Mp:=cY (bH 8) fun v=>cY (ck NQ) fun ps=>cY (ck O7) fun rs=>cY fM fun t=>jy ⟨v,ps,rs,t⟩
structure yL{α:Type}(p:Rg α)(q:Ps α):Prop where
 good:∀e,e.fine→∀x r,q e.s.data.toList=some (x,r)→p e=(x,⟨iF r,0,false⟩)
 bad:∀e,e.fine→q e.s.data.toList=none→¬(p e).2.fine
 stay:∀e,¬e.fine→¬(p e).2.fine
theorem jz{α:Type}(x:α):yL (jy x) (pd x)where
 good:=fun e he y r h=>by
  injection h with h
  injection h with h1 h2
  obtain⟨s,f,o⟩:=e;obtain⟨rfl,rfl⟩:f=0∧o=false:=he;subst h1 h2;rfl
 bad:=fun e _ h=>by cases h
 stay:=fun e h=>h
theorem cw{α β:Type}{p:Rg α}{q:Ps α}{g:α→Rg β}{k:α→Ps β}(h:yL p q)(hg:∀x,yL (g x) (k x)):yL (cY p g) (dQ q k)where
 good:=fun e he y r hq=>by
  unfold dQ at hq;cases hp:q e.s.data.toList with
  |none=>rw[hp]at hq;cases hq
  |some z=>
   obtain⟨x,u⟩:=z;rw[hp]at hq;have h1:=h.good e he x u hp;have h2:=(hg x).good ⟨iF u,0,false⟩ ⟨rfl,rfl⟩ y r hq;unfold cY;rw[h1];exact h2
 bad:=fun e he hq=>by
  unfold dQ at hq;unfold cY;cases hp:q e.s.data.toList with
  |none=>exact(hg _).stay _ (h.bad e he hp)
  |some z=>
   obtain⟨x,u⟩:=z;rw[hp]at hq;rw[h.good e he x u hp];exact(hg x).bad ⟨iF u,0,false⟩ ⟨rfl,rfl⟩ hq
 stay:=fun e he=>(hg _).stay _ (h.stay e he)
theorem JU{e:Ey}{n:Nat}(h:(e.tk n).fine):e.fine∧n≤e.s.size:=by
 obtain⟨h1,h2⟩:=h;unfold Ey.tk nk at h1;simp only at h1;split at h1
 ·next hf=>
  split at h1
  ·next hn=>exact⟨⟨hf,h2⟩,hn⟩
  ·cases h1
 ·next hf=>exact absurd h1 hf
theorem S5(s:ByteArray)(n:Nat):(s.extract 0 n).data.toList=s.data.toList.take n:=by
 rw[ByteArray.data_extract];simp
theorem S7(s:ByteArray)(n:Nat):(s.extract n s.size).data.toList=s.data.toList.drop n:=by
 rw[ByteArray.data_extract];simp;rw[List.take_of_length_le (by rw[List.length_drop,fh];exact aw _)]
theorem S8{s:ByteArray}{l:List UInt8}(h:s.data.toList=l):s=iF l:=by rw[←h];exact(aa4 s).symm
theorem Xu{e:Ey}(he:e.fine){n:Nat}(hn:n≤e.s.data.toList.length):rc e.s e.f n=iF (e.s.data.toList.take n)∧e.tk n=⟨iF (e.s.data.toList.drop n),0,false⟩:=by
 obtain⟨s,f,o⟩:=e;obtain⟨rfl,rfl⟩:f=0∧o=false:=he;simp only at hn⊢;rw[fh]at hn;refine⟨?_,?_⟩
 ·unfold rc;rw[if_pos ⟨rfl,hn⟩];exact S8 (S5 s n)
 ·unfold Ey.tk nZ nk;simp only;rw[if_pos ⟨trivial,hn⟩,if_pos trivial,if_pos hn];rw[S8 (S7 s n)]
theorem NU(l:List UInt8):P2 (iF l)=pL l:=by
 unfold P2 qg js pL iF;rw[List.foldl_map]
theorem yM{n:Nat}{t x r:List UInt8}(h:jL n t=some (x,r)):n≤t.length∧x=t.take n∧r=t.drop n:=by
 unfold jL at h;split at h
 ·next hn=>injection h with h;injection h with h1 h2;exact⟨hn,h1.symm,h2.symm⟩
 ·cases h
theorem NV{n:Nat}{t:List UInt8}(h:jL n t=none):t.length<n:=by
 unfold jL at h;split at h
 ·cases h
 ·omega
theorem Ed{α:Type}(n:Nat)(F:ByteArray→α):yL (fun e=>(F (rc e.s e.f n),e.tk n)) (fun t=>(jL n t).map fun x=>(F (iF x.1),x.2))where
 good:=fun e he y r h=>by
  cases ht:jL n e.s.data.toList with
  |none=>simp only[ht]at h;cases h
  |some z=>
   obtain⟨x,u⟩:=z;simp only[ht]at h;injection h with h
   injection h with h1 h2
   obtain⟨hn,e1,e2⟩:=yM ht;obtain⟨g1,g2⟩:=Xu he hn;simp only at h1 h2;subst e1 e2 h1 h2;rw[g1,g2]
 bad:=fun e he h=>by
  intro hf;have:=(JU hf).2;cases ht:jL n e.s.data.toList with
  |none=>have:=NV ht;rw[fh]at this;omega
  |some z=>simp only[ht]at h;cases h
 stay:=fun e he hf=>he (JU hf).1
theorem gj(n:Nat):yL (bH n) (oL n):=by
 have:=Ed n P2;unfold bH oL jO;simp only[NU]at this;exact this
theorem ou(n:Nat):yL (keyE n) (xK n):=Ed n fun s=>s
theorem Ee{α:Type}{p:Rg α}(h:∀e,¬(p e).2.fine):yL p (fun _=>none)where
 good:=fun e _ x r hq=>by cases hq
 bad:=fun e _ _=>h e
 stay:=fun e _=>h e
theorem S9:yL rk adP:=by
 refine cw (gj 1) fun k=>?_
 by_cases h4:k=4
 ·rw[if_pos h4,if_pos h4];exact cw (gj 4) fun l=>jz _
 ·rw[if_neg h4,if_neg h4];by_cases h6:k=6
  ·rw[if_pos h6,if_pos h6];exact cw (gj 8) fun h=>cw (gj 8) fun l=>jz _
  ·rw[if_neg h6,if_neg h6];exact Ee fun e h=>by cases h.2
theorem Ta:yL BX enP:=cw S9 fun _=>cw (gj 2) fun _=>jz _
theorem AG(s0:ByteArray)(n:Nat)(hn:¬32768<n)(e:Ey):(AE s0 n e).1=(keyE n e).1∧(e.f=0∧n≤e.s.size→(AE s0 n e).2=(keyE n e).2)∧(AE s0 n e).2.f=(keyE n e).2.f∧(AE s0 n e).2.odd=(keyE n e).2.odd:=by
 have h:Im e.f n=e.f:=by unfold Im;rw[if_neg aY]
 unfold AE keyE Ey.tk;simp only[h];exact⟨trivial,fun g=>by rw[if_pos g],trivial,trivial⟩
theorem vX(s0:ByteArray)(n:Nat):yL (AE s0 n) (if 32768<n then fun _=>none else xK n):=by
 by_cases hn:32768<n
 ·rw[if_pos hn];refine Ee fun e h=>?_
  obtain⟨h1,h2⟩:=h;have h3:Im e.f n≠0:=by
   unfold Im;split
   ·decide
   ·next h=>intro h0;exact h ⟨h0,hn⟩
  unfold AE nk at h1;simp only at h1;rw[if_neg h3]at h1;exact h3 h1
 ·rw[if_neg hn];refine⟨fun e he x r hq=>?_,fun e he hq hf=>?_,fun e he hf=>?_⟩
  ·obtain⟨h1,h2,_,_⟩:=AG s0 n hn e;have hk:=(ou n).good e he x r hq;have hle:n≤e.s.size:=by
    unfold xK at hq;cases ht:jL n e.s.data.toList with
    |none=>rw[ht]at hq;cases hq
    |some z=>have:=(yM (x:=z.1) (r:=z.2) ht).1;rw[fh]at this;exact this
   have h3:=h2 ⟨he.1,hle⟩;rw[hk]at h1 h3;exact Prod.ext h1 h3
  ·obtain⟨_,_,h3,h4⟩:=AG s0 n hn e;exact(ou n).bad e he hq ⟨h3▸hf.1,h4▸hf.2⟩
  ·obtain⟨_,_,h3,h4⟩:=AG s0 n hn e;exact(ou n).stay e he ⟨h3▸hf.1,h4▸hf.2⟩
theorem AH:yL fM Na where
 good:=fun e he x r hq=>(cw (gj 2) (vX e.s)).good e he x r hq
 bad:=fun e he hq=>(cw (gj 2) (vX e.s)).bad e he hq
 stay:=fun e he=>(cw (gj 2) (vX e.s)).stay e he
theorem Ef{α:Type}{p:Rg α}{q:Ps α}(h:yL p q):∀n,yL (dI p n) (vJ q n)
 |0=>jz []
 |n+1=>by
  have ih:=cw h fun x=>cw (Ef h n) fun l=>jz (x::l)
  have hd:∀e,dI p (n+1) e=if e.gK then cY p (fun x=>cY (dI p n) fun l=>jy (x::l)) e else([],e):=fun e=>rfl
  refine⟨fun e he x r hq=>?_,fun e he hq hf=>?_,fun e he hf=>?_⟩
  ·rw[hd,if_pos ((Ey.nG e).2 he)];exact ih.good e he x r hq
  ·rw[hd,if_pos ((Ey.nG e).2 he)]at hf;exact ih.bad e he hq hf
  ·rw[hd,if_neg (fun h=>he ((Ey.nG e).1 h))]at hf;exact he hf
theorem nH{α:Type}{p:Rg α}{q:Ps α}(h:yL p q):yL (ck p) (tm q):=cw (gj 2) fun n=>Ef h n
theorem aa9:yL NQ prP:=cw (ou 32) fun _=>cw (ou 32) fun _=>cw AH fun _=>cw (nH AH) fun _=>cw (nH S9) fun _=>cw (gj 8) fun _=>cw (gj 1) fun _=>cw (nH Ta) fun _=>jz _
theorem abb:yL O7 ryP:=cw (gj 1) fun _=>cw (ou 32) fun _=>cw Ta fun _=>jz _
theorem abd:yL Fq mpP:=cw (gj 8) fun _=>cw (nH aa9) fun _=>cw (nH abb) fun _=>cw AH fun _=>jz _
def xT(e:Ey):Bool:=e.gK&&decide (e.s.size=0)
theorem Io{α:Type}{q:Ps α}{t:List UInt8}(hs:¬32768<t.length)(h:q t=none):fK q t=none:=by unfold fK;rw[if_neg hs,h]
theorem NW{α:Type}{q:Ps α}{t:List UInt8}{x:α}(hs:¬32768<t.length)(h:q t=some (x,[])):fK q t=some x:=by unfold fK;rw[if_neg hs,h]
theorem Ip{α:Type}{q:Ps α}{t r:List UInt8}{x:α}{c:UInt8}(hs:¬32768<t.length)(h:q t=some (x,c::r)):fK q t=none:=by unfold fK;rw[if_neg hs,h]
theorem NY{α:Type}{p:Rg α}{q:Ps α}(h:yL p q)(s:ByteArray)(hs:¬32768<s.size):(xT (p ⟨s,0,false⟩).2=true∧fK q s.data.toList=some (p ⟨s,0,false⟩).1)∨(xT (p ⟨s,0,false⟩).2=false∧fK q s.data.toList=none):=by
 have hl:¬32768<s.data.toList.length:=by rw[fh];exact hs
 have hf:(⟨s,0,false⟩:Ey).fine:=⟨rfl,rfl⟩;cases hq:q s.data.toList with
 |none=>
  refine Or.inr ⟨?_,Io hl hq⟩;have hb:=h.bad _ hf hq;cases he:xT (p ⟨s,0,false⟩).2 with
  |false=>rfl
  |true=>
   unfold xT at he;simp only[Bool.and_eq_true]at he;exact absurd ((Ey.nG _).1 he.1) hb
 |some z=>
  obtain⟨x,r⟩:=z;have hg:=h.good _ hf x r hq;cases r with
  |nil=>
   rw[NW hl hq,hg];exact Or.inl ⟨rfl,rfl⟩
  |cons c r=>
   rw[Ip hl hq,hg];refine Or.inr ⟨?_,rfl⟩;unfold xT;have:(iF (c::r)).size=r.length+1:=rfl;simp[this]
def vY{α:Type}(p:Rg α):Prop:=∀e,(p e).2.s.size≤e.s.size
theorem nI(s:ByteArray)(f n:Nat):(nZ s f n).size≤s.size:=by
 unfold nZ;split
 ·rw[ByteArray.size_extract];omega
 ·exact aw _
theorem j9{α:Type}(x:α):vY (jy x):=fun _=>aw _
theorem dR(n:Nat):vY (bH n):=fun _=>nI _ _ _
theorem ov(n:Nat):vY (keyE n):=fun _=>nI _ _ _
theorem cZ{α β:Type}{p:Rg α}{g:α→Rg β}(h:vY p)(hg:∀x,vY (g x)):vY (cY p g):=fun e=>ax (hg _ _) (h e)
theorem qK:vY fM:=fun e=>by
 have h1:=nI e.s e.f 2;unfold fM cY AE bH Ey.tk;simp only;split
 ·exact ax (nI _ _ _) h1
 ·exact aw _
theorem Tc{α:Type}{c:Prop}[Decidable c]{p q:Rg α}(hp:vY p)(hq:vY q):vY (if c then p else q):=by
 split
 ·exact hp
 ·exact hq
theorem vZ:vY rk:=cZ (dR 1) fun _=>Tc (cZ (dR 4) fun _=>j9 _) (Tc (cZ (dR 8) fun _=>cZ (dR 8) fun _=>j9 _) fun _=>aw _)
theorem Iq:vY BX:=cZ vZ fun _=>cZ (dR 2) fun _=>j9 _
theorem Eg{α:Type}{p:Rg α}(h:vY p):∀n,vY (dI p n)
 |0=>j9 []
 |n+1=>fun e=>by
  rw[show dI p (n+1) e=if e.gK then cY p (fun x=>cY (dI p n) fun l=>jy (x::l)) e else([],e)from rfl];split
  ·exact(cZ h fun x=>cZ (Eg h n) fun _=>j9 _) e
  ·exact aw _
theorem kc{α:Type}{p:Rg α}(h:vY p):vY (ck p):=cZ (dR 2) fun n=>Eg h n
theorem Td:vY NQ:=cZ (ov 32) fun _=>cZ (ov 32) fun _=>cZ qK fun _=>cZ (kc qK) fun _=>cZ (kc vZ) fun _=>cZ (dR 8) fun _=>cZ (dR 1) fun _=>cZ (kc Iq) fun _=>j9 _
theorem Tf:vY O7:=cZ (dR 1) fun _=>cZ (ov 32) fun _=>cZ Iq fun _=>j9 _
theorem NZ{α:Type}(p:Rg α){n:Nat}{e:Ey}(h:e.gK=true):dI p (n+1) e=((p e).1::(dI p n (p e).2).1,(dI p n (p e).2).2):=by
 rw[show dI p (n+1) e=if e.gK then cY p (fun x=>cY (dI p n) fun l=>jy (x::l)) e else([],e)from rfl,if_pos h];rfl
theorem Ti{α:Type}(p:Rg α){n:Nat}{e:Ey}(h:e.gK=false):dI p n e=([],e):=by
 cases n with
 |zero=>rfl
 |succ n=>
  rw[show dI p (n+1) e=if e.gK then cY p (fun x=>cY (dI p n) fun l=>jy (x::l)) e else([],e)from rfl,h];rfl
theorem Xv{w:World}{b:Nat}{s:ByteArray}{f:Nat}(h:Rd w b s f)(n:Nat)(hs:s.size≤4000000)(hn:n≤4000000)(B:Bool)(hB:decide (f=0∧n≤s.size)=B):Calls ai 151 #[.pointer (some ⟨b,0,none⟩),.int .i64 n] w fun r w'=>r=.returned (.tuple #[.string (rc s f n),.bool B])∧Rd w' b (nZ s f n) (nk s f n)∧Keeps (fun k=>k=b) w w':=by
 subst hB;exact gd h n hs hn
theorem Ir{w:World}{rb:Nat}{e:Ey}(h:Rd w rb e.s e.f)(hs:e.s.size≤4000000):Calls ai 77 #[.pointer (some ⟨rb,0,none⟩)] w fun r w'=>r=.returned (.string (fM e).1)∧Rd w' rb (fM e).2.s (fM e).2.f∧Keeps (fun k=>k=rb) w w':=by
 obtain⟨s,f,o⟩:=e;simp only at h hs;have h16:=CU h hs;have hn:=kC s f 2;have hs1:=nI s f 2;have c0:=h.cells.1;have e1:(fM ⟨s,f,o⟩).1=rc (nZ s f 2) (Im (nk s f 2) (jO s f 2)) (jO s f 2):=rfl;have e2:(fM ⟨s,f,o⟩).2.s=if Im (nk s f 2) (jO s f 2)=0∧jO s f 2≤(nZ s f 2).size then nZ (nZ s f 2) (Im (nk s f 2) (jO s f 2)) (jO s f 2)else s:=rfl
 have e3:(fM ⟨s,f,o⟩).2.f=nk (nZ s f 2) (Im (nk s f 2) (jO s f 2)) (jO s f 2):=rfl;rw[e1,e2,e3];clear e1 e2 e3;generalize jO s f 2=n at*;generalize nZ s f 2=s1 at*;generalize nk s f 2=f1 at*;have hn1:n<65536:=by simpa using hn
 have htk:=fun u f2 B(hB:decide (f2=0∧n≤s1.size)=B)(hu:Rd u rb s1 f2)=>Xv hu n aY aY B hB
 obtain⟨Ft,DG⟩:=aQ h16 htk;have hwr:IntKind.i64.wrap (n:Int)=(n:Int):=IntWalk.i64_in _ aY;clear h16 htk h hs hs1 hn;by_cases hf:f1=0
 ·subst hf;by_cases hl:32768<n
  ·rw[show Im 0 n=4 from if_pos ⟨rfl,hl⟩,if_neg aY];have hl':(32768:Int)<(n:Int):=by omega
   go_enter Tryz.func77,Tryz.ntmps77;go_wp2_with(first
    |(go_at_call 145;(with_reducible refine Ft.out.mono ?_);rintro r w1⟨rfl,hR1,hK1⟩;have d1:w1.cell? ⟨rb,1,none⟩=some (.int .i64 0):=hR1.cells.2;have g1:=hR1.free.2;obtain⟨og,HR2,kx⟩:=bO hK1 (show Rd (w1.setCell ⟨rb,1,none⟩ (.int .i64 4)) rb s1 4 from hR1.aM 1 (.int .i64 4)) ((Keeps.refl (fun k=>k=rb) w1).setCell (p:=⟨rb,1,none⟩) (.inl rfl) (.int .i64 4));clear hR1 hK1)
    |(go_at_call 151;(with_reducible refine(DG.out _ 4 false (by simp) HR2.out).mono ?_);rintro r w3⟨rfl,gW,hK3⟩;have g0:=gW.free.1;have q0:=gW.cells.1;obtain⟨HR4,iD⟩:=aQ (gW.aM 0 (.string s)) (hK3.setCell (p:=⟨rb,0,none⟩) (.inl rfl) (.string s));clear gW hK3))
   go_ret;exact⟨rfl,HR4.out,og.out.trans (kx.out.trans iD.out)⟩
  ·rw[show Im 0 n=0 from if_neg (fun h=>hl h.2)];have hl':¬(32768:Int)<(n:Int):=by omega
   by_cases ht:n≤s1.size
   ·rw[if_pos ⟨rfl,ht⟩];have HT:=ae ht;clear ht;go_enter Tryz.func77,Tryz.ntmps77;go_wp2_with(first
     |(go_at_call 145;(with_reducible refine Ft.out.mono ?_);rintro r w1⟨rfl,hR1,hK1⟩;have d1:w1.cell? ⟨rb,1,none⟩=some (.int .i64 0):=hR1.cells.2;obtain⟨og,HR2⟩:=aQ hK1 hR1;clear hR1 hK1)
     |(go_at_call 151;(with_reducible refine(DG.out _ 0 true (by have h:=HT.out;simp[h]) HR2.out).mono ?_);rintro r w3⟨rfl,gW,hK3⟩;obtain⟨HR4,iD⟩:=aQ gW hK3;clear gW hK3))
    go_ret;exact⟨rfl,HR4.out,og.out.trans iD.out⟩
   ·rw[if_neg (fun h=>ht h.2)];have HT:=ae ht;clear ht;go_enter Tryz.func77,Tryz.ntmps77;go_wp2_with(first
     |(go_at_call 145;(with_reducible refine Ft.out.mono ?_);rintro r w1⟨rfl,hR1,hK1⟩;have d1:w1.cell? ⟨rb,1,none⟩=some (.int .i64 0):=hR1.cells.2;obtain⟨og,HR2⟩:=aQ hK1 hR1;clear hR1 hK1)
     |(go_at_call 151;(with_reducible refine(DG.out _ 0 false (by have h:=HT.out;simp[h]) HR2.out).mono ?_);rintro r w3⟨rfl,gW,hK3⟩;have g0:=gW.free.1;have q0:=gW.cells.1;obtain⟨HR4,iD⟩:=aQ (gW.aM 0 (.string s)) (hK3.setCell (p:=⟨rb,0,none⟩) (.inl rfl) (.string s));clear gW hK3))
    go_ret;exact⟨rfl,HR4.out,og.out.trans iD.out⟩
 ·rw[show Im f1 n=f1 from if_neg (fun h=>hf h.1),if_neg (fun h=>hf h.1)];have HT:=ae hf;have hf':((f1:Int)==0)=false:=by simp;omega
  clear hf;go_enter Tryz.func77,Tryz.ntmps77;go_wp2_with(first
   |(go_at_call 145;(with_reducible refine Ft.out.mono ?_);rintro r w1⟨rfl,hR1,hK1⟩;have d1:=hR1.cells.2;obtain⟨og,HR2⟩:=aQ hK1 hR1;clear hR1 hK1)
   |(go_at_call 151;(with_reducible refine(DG.out _ f1 false (by have h:=HT.out;simp[h]) HR2.out).mono ?_);rintro r w3⟨rfl,gW,hK3⟩;have g0:=gW.free.1;have q0:=gW.cells.1;obtain⟨HR4,iD⟩:=aQ (gW.aM 0 (.string s)) (hK3.setCell (p:=⟨rb,0,none⟩) (.inl rfl) (.string s));clear gW hK3))
  go_ret;exact⟨rfl,HR4.out,og.out.trans iD.out⟩
structure cf(w:World)(b rb:Nat)(e:Ey):Prop where
 blk:aG w b 107 #[.pointer (some ⟨rb,0,none⟩),.bool e.odd]
 rd:Rd w rb e.s e.f
theorem cf.ne{w:World}{b rb:Nat}{e:Ey}(h:cf w b rb e):b≠rb:=aG.xc h.blk h.rd (by decide)
theorem cf.c0{w:World}{b rb:Nat}{e:Ey}(h:cf w b rb e):w.cell? ⟨b,0,none⟩=some (.pointer (some ⟨rb,0,none⟩)):=h.blk.cell 0
theorem cf.c1{w:World}{b rb:Nat}{e:Ey}(h:cf w b rb e):w.cell? ⟨b,1,none⟩=some (.bool e.odd):=h.blk.cell 1
abbrev Two(b rb:Nat):Nat→Prop:=fun k=>k=b∨k=rb
theorem cf.keep{S:Nat→Prop}{w w':World}{b rb:Nat}{e:Ey}(h:cf w b rb e)(k:Keeps S w w')(hb:¬S b)(hr:¬S rb):cf w' b rb e:=⟨h.blk.keep k hb,h.rd.keep k hr⟩
theorem cf.below{w w':World}{b rb:Nat}{e:Ey}(h:cf w b rb e)(k:Below w.heap.size w w'):cf w' b rb e:=⟨h.blk.below k h.blk.lt,h.rd.below k⟩
theorem cf.drew{w:World}{b rb:Nat}{e:Ey}(h:cf w b rb e):cf w.drew b rb e:=⟨h.blk.drew,aG.drew h.rd⟩
theorem cf.far{w:World}{b rb:Nat}{e:Ey}(h:cf w b rb e){p:Addr}(hb:b≠p.block)(hr:rb≠p.block)(u:Value):cf (w.setCell p u) b rb e:=⟨h.blk.far hb u,aG.far h.rd hr u⟩
theorem cf.step{w w':World}{b rb:Nat}{e:Ey}{s:ByteArray}{f:Nat}(h:cf w b rb e)(hr:Rd w' rb s f)(k:Keeps (fun k=>k=rb) w w'):cf w' b rb ⟨s,f,e.odd⟩∧Keeps (Two b rb) w w':=⟨⟨h.blk.keep k h.ne,hr⟩,k.mono fun _ _ h=>Or.inr h⟩
def iz(v:Value)(b rb:Nat)(e':Ey)(w:World)(r:Ending)(w':World):Prop:=r=.returned v∧cf w' b rb e'∧Keeps (Two b rb) w w'
theorem Tj{w:World}{b rb:Nat}{e:Ey}(h:cf w b rb e)(hs:e.s.size≤4000000):Calls ai 148 #[.pointer (some ⟨rb,0,none⟩)] w (iz (.int .u8 ((bH 1 e).1:Int)) b rb (bH 1 e).2 w):=(VV h.rd hs).mono fun _ _⟨h1,h2,h3⟩=>⟨h1,h.step h2 h3⟩
theorem rV{w:World}{b rb:Nat}{e:Ey}(h:cf w b rb e)(hs:e.s.size≤4000000):Calls ai 145 #[.pointer (some ⟨rb,0,none⟩)] w (iz (.int .u16 ((bH 2 e).1:Int)) b rb (bH 2 e).2 w):=(CU h.rd hs).mono fun _ _⟨h1,h2,h3⟩=>⟨h1,h.step h2 h3⟩
theorem abe{w:World}{b rb:Nat}{e:Ey}(h:cf w b rb e)(hs:e.s.size≤4000000):Calls ai 190 #[.pointer (some ⟨rb,0,none⟩)] w (iz (.int .u32 ((bH 4 e).1:Int)) b rb (bH 4 e).2 w):=(P3 h.rd hs).mono fun _ _⟨h1,h2,h3⟩=>⟨h1,h.step h2 h3⟩
theorem AK{w:World}{b rb:Nat}{e:Ey}(h:cf w b rb e)(hs:e.s.size≤4000000):Calls ai 72 #[.pointer (some ⟨rb,0,none⟩)] w (iz (.int .u64 ((bH 8 e).1:Int)) b rb (bH 8 e).2 w):=(P4 h.rd hs).mono fun _ _⟨h1,h2,h3⟩=>⟨h1,h.step h2 h3⟩
theorem Xw{w:World}{b rb:Nat}{e:Ey}(h:cf w b rb e)(hs:e.s.size≤4000000):Calls ai 152 #[.pointer (some ⟨rb,0,none⟩),.int .i64 32] w (iz (.string (keyE 32 e).1) b rb (keyE 32 e).2 w):=(LH h.rd 32 hs aI).mono fun _ _⟨h1,h2,h3⟩=>⟨h1,h.step h2 h3⟩
theorem AN{w:World}{b rb:Nat}{e:Ey}(h:cf w b rb e)(hs:e.s.size≤4000000):Calls ai 77 #[.pointer (some ⟨rb,0,none⟩)] w (iz (.string (fM e).1) b rb (fM e).2 w):=(Ir h.rd hs).mono fun _ _⟨h1,h2,h3⟩=>⟨h1,h.step h2 h3⟩
theorem je{w:World}{b rb:Nat}{e:Ey}(h:cf w b rb e):Calls ai 142 #[.pointer (some ⟨b,0,none⟩)] w fun r w'=>r=.returned (.bool e.gK)∧w=w':=by
 have c0:=h.c0;have c1:=h.c1;have HF:=ae (u9 h.rd);obtain⟨s,f,o⟩:=e;clear h;cases o with
 |true=>
  rw[show(⟨s,f,true⟩:Ey).gK=false from rfl];go_enter Tryz.func142,Tryz.ntmps142;go_wp2_with fail
  go_ret;exact⟨rfl,rfl⟩
 |false=>
  rw[show(⟨s,f,false⟩:Ey).gK=decide (f=0)from rfl];have hb:((f:Int)==0)=decide (f=0):=by
   rw[Bool.eq_iff_iff];simp
  generalize decide (f=0)=B at hb⊢;go_enter Tryz.func142,Tryz.ntmps142;go_wp2_with(go_at_call 188;(with_reducible refine HF.out.mono ?_);rintro r w1⟨rfl,rfl⟩)
  go_ret;exact⟨rfl,rfl⟩
theorem rW{w:World}{b rb:Nat}{e:Ey}(h:cf w b rb e)(hs:e.s.size≤4000000):Calls ai 85 #[.pointer (some ⟨b,0,none⟩)] w (iz (.string (keyE 32 e).1) b rb (keyE 32 e).2 w):=by
 have c0:=h.c0;have H:=ae (Xw h hs);unfold iz at H⊢;clear h hs;go_enter Tryz.func85,Tryz.ntmps85;go_wp2_with(go_at_call 152;(with_reducible refine H.out.mono ?_);rintro r w1⟨rfl,h1,h2⟩)
 go_ret;exact⟨rfl,h1,h2⟩
theorem cf.put{W w:World}{b rb P:Nat}{e:Ey}(h:cf w b rb e)(hk:Keeps (Two b rb) W w)(hb:b<P)(hr:rb<P)(hP:W.heap.size≤P)(i:Nat)(u:Value):cf (w.setCell ⟨P,i,none⟩ u) b rb e∧Keeps (Two b rb) W (w.setCell ⟨P,i,none⟩ u):=⟨h.far (p:=⟨P,i,none⟩) (by simp;omega) (by simp;omega) u,hk.setCell (p:=⟨P,i,none⟩) (Or.inr hP) u⟩
theorem cf.lt{w:World}{b rb:Nat}{e:Ey}(h:cf w b rb e):b<w.heap.size∧rb<w.heap.size:=⟨h.blk.lt,h.rd.lt⟩
theorem aeT{e:Ey}(h:(bH 1 e).1=4):rk e=(⟨false,0,(bH 4 (bH 1 e).2).1⟩,(bH 4 (bH 1 e).2).2):=by
 simp[rk,cY,jy,h]
theorem aeU{e:Ey}(h:(bH 1 e).1=6):rk e=(⟨true,(bH 8 (bH 1 e).2).1,(bH 8 (bH 8 (bH 1 e).2).2).1⟩,(bH 8 (bH 8 (bH 1 e).2).2).2):=by
 simp[rk,cY,jy,h]
theorem aeV{e:Ey}(h4:(bH 1 e).1≠4)(h6:(bH 1 e).1≠6):rk e=(⟨false,0,0⟩,⟨(bH 1 e).2.s,(bH 1 e).2.f,true⟩):=by
 simp[rk,cY,adr,h4,h6]
theorem wk{w:World}{b rb:Nat}{e:Ey}(h:cf w b rb e)(hs:e.s.size≤4000000):Calls ai 147 #[.pointer (some ⟨b,0,none⟩)] w (iz (.agg (rk e).1.cells) b rb (rk e).2 w):=by
 obtain⟨hbl,hrl⟩:=h.lt;have hb1:=boxed w (.cells #[.bool false,.int .u64 0,.int .u64 0] 44);obtain⟨H1,HP,HK⟩:=bO (h.below hb1) (aG.new w 44 #[.bool false,.int .u64 0,.int .u64 0]) (Keeps.of_below (S:=Two b rb) hb1 fun _ h _=>h);have hl1:=dR 1 e;have h8:=fun u(hu:cf u b rb e)=>Tj hu hs
 have h32:=fun u(hu:cf u b rb (bH 1 e).2)=>abe hu (ax hl1 hs)
 have h64:=fun u(hu:cf u b rb (bH 1 e).2)=>AK hu (ax hl1 hs)
 have Tm:=fun u(hu:cf u b rb (bH 8 (bH 1 e).2).2)=>AK hu (ax (dR 8 _) (ax hl1 hs))
 have b1:(bH 1 e).1<256:=kC e.s e.f 1;have b4:(bH 4 (bH 1 e).2).1<4294967296:=kC (bH 1 e).2.s (bH 1 e).2.f 4;unfold iz at h8 h32 h64 Tm⊢;have rm:¬Two b rb w.heap.size:=by unfold Two;omega
 clear h hb1 hl1 hs;by_cases k4:(bH 1 e).1=4
 ·rw[aeT k4];unfold Ad.cells;simp only;rw[k4]at h8;generalize(bH 1 e).2=e1 at*;generalize(bH 4 e1).1=lo at*;generalize(bH 4 e1).2=e2 at*;have hwl:IntKind.u64.wrap (lo:Int)=(lo:Int):=by rw[IntKind.wrap_u64];omega
  obtain⟨H8,H32⟩:=aQ h8 h32;clear h8 h32 h64 Tm b1 k4 b4;go_enter Tryz.func147,Tryz.ntmps147;go_upto_region 1 with fail
  generalize w.alloc (.cells #[.bool false,.int .u64 0,.int .u64 0] 44)=w1 at H1 HP HK⊢;have Xx:=aw w.heap.size;generalize hP:w.heap.size=P at HP hbl hrl rm Xx⊢;have kN:=ae hP;clear hP;have a0:=H1.out.c0;go_wp2_with(first
   |(go_at_call 148;(with_reducible refine(H8.out _ H1.out).mono ?_);rintro r w2⟨rfl,g2,K2⟩;have a2:=g2.c0;obtain⟨H2,HP2,kx⟩:=bO g2 (HP.out.keep K2 rm) (HK.out.trans K2);clear g2 K2)
   |(go_at_call 190;(with_reducible refine(H32.out _ H2.out).mono ?_);rintro r w3⟨rfl,g3,K3⟩;have H3:=ae g3;have hP3:=HP2.out.keep K3 rm;have c0:=hP3.cell 0;have c1:=hP3.cell 1;have c2:=hP3.cell 2;simp at c0 c1 c2;have fr:=(fun i=>hP3.frozen i);obtain⟨fJ,iD⟩:=aQ hP3 (kx.out.trans K3);clear g3 K3 hP3))
  have s1:aG _ P 44 #[.bool false,.int .u64 0,.int .u64 0]:=fJ.out.aM 0 (.bool false);have s2:aG _ P 44 #[.bool false,.int .u64 0,.int .u64 0]:=s1.aM 1 (.int .u64 0);have s3:aG _ P 44 #[.bool false,.int .u64 0,.int .u64 lo]:=s2.aM 2 (.int .u64 lo);have kf:w.heap.size≤P:=Nat.le_of_eq kN.out;obtain⟨p1,q1⟩:=H3.out.put iD.out hbl hrl kf 0 (.bool false);obtain⟨p2,q2⟩:=p1.put q1 hbl hrl kf 1 (.int .u64 0);obtain⟨p3,q3⟩:=p2.put q2 hbl hrl kf 2 (.int .u64 lo);exact bodyPost_ret (fy (x:=2) rfl rfl (od s3)) rfl ⟨rfl,p3,q3⟩
 ·by_cases k6:(bH 1 e).1=6
  ·rw[aeU k6];unfold Ad.cells;simp only;rw[k6]at h8;generalize(bH 1 e).2=e1 at*;generalize(bH 8 e1).1=hi at*;generalize(bH 8 e1).2=e2 at*;generalize(bH 8 e2).1=lo at*;generalize(bH 8 e2).2=e3 at*;obtain⟨H8,H64,aeW⟩:=bO h8 h64 Tm;clear h8 h32 h64 Tm b1 k6 b4 k4;go_enter Tryz.func147,Tryz.ntmps147;go_upto_region 1 with fail
   generalize w.alloc (.cells #[.bool false,.int .u64 0,.int .u64 0] 44)=w1 at H1 HP HK⊢;have Xx:=aw w.heap.size;generalize hP:w.heap.size=P at HP hbl hrl rm Xx⊢;have kN:=ae hP;clear hP;have a0:=H1.out.c0;go_wp2_with(go_at_call 148;(with_reducible refine(H8.out _ H1.out).mono ?_);rintro r w2⟨rfl,g2,K2⟩;have a2:=g2.c0;have H2:=ae g2.drew;have HP2:=ae (HP.out.keep K2 rm).drew;have kx:=ae (HK.out.trans K2).drew;clear g2 K2 a0)
   go_region_held3 (fun w'=>w'.cell? ⟨b,0,none⟩=some (.pointer (some ⟨rb,0,none⟩)))
    (first|exact a2|exact a3|exact a4|(rw[cell_far (by simp;omega),cell_far (by simp;omega),cell_far (by simp;omega)];exact a4))
    (first
      |(go_at_call 72;(with_reducible refine(H64.out _ H2.out).mono ?_);rintro r w3⟨rfl,g3,K3⟩;have a3:=g3.c0;obtain⟨H3,fJ,iD⟩:=bO g3 (HP2.out.keep K3 rm) (kx.out.trans K3);clear g3 K3)
      |(go_at_call 72;(with_reducible refine(aeW.out _ H3.out).mono ?_);rintro r w4⟨rfl,g4,K4⟩;have a4:=g4.c0;have H4:=ae g4;have mD:=fJ.out.keep K4 rm;have c0:=mD.cell 0;have c1:=mD.cell 1;have c2:=mD.cell 2;simp at c0 c1 c2;have fr:=(fun i=>mD.frozen i);obtain⟨yK,yJ⟩:=aQ mD (iD.out.trans K4);clear g4 K4 mD))
   go_wp2_with fail
   have s1:aG _ P 44 #[.bool true,.int .u64 0,.int .u64 0]:=yK.out.aM 0 (.bool true);have s2:aG _ P 44 #[.bool true,.int .u64 hi,.int .u64 0]:=s1.aM 1 (.int .u64 hi);have s3:aG _ P 44 #[.bool true,.int .u64 hi,.int .u64 lo]:=s2.aM 2 (.int .u64 lo);have kf:w.heap.size≤P:=Nat.le_of_eq kN.out;obtain⟨p1,q1⟩:=H4.out.put yJ.out hbl hrl kf 0 (.bool true);obtain⟨p2,q2⟩:=p1.put q1 hbl hrl kf 1 (.int .u64 hi);obtain⟨p3,q3⟩:=p2.put q2 hbl hrl kf 2 (.int .u64 lo);exact bodyPost_ret (fy (x:=2) rfl rfl (od s3)) rfl ⟨rfl,p3,q3⟩
  ·rw[aeV k4 k6];unfold Ad.cells;simp only;generalize(bH 1 e).1=k at*;generalize(bH 1 e).2=e1 at*;have x4:((k:Int)==4)=false:=by simp;omega
   have x6:((k:Int)==6)=false:=by simp;omega
   have H8:=ae h8;clear h8 h32 h64 Tm b1 k6 b4 k4;go_enter Tryz.func147,Tryz.ntmps147;go_upto_region 1 with fail
   generalize w.alloc (.cells #[.bool false,.int .u64 0,.int .u64 0] 44)=w1 at H1 HP HK⊢;have Xx:=aw w.heap.size;generalize hP:w.heap.size=P at HP hbl hrl rm Xx⊢;have kN:=ae hP;clear hP;have a0:=H1.out.c0;go_wp2_with(go_at_call 148;(with_reducible refine(H8.out _ H1.out).mono ?_);rintro r w2⟨rfl,g2,K2⟩;have a2:=g2.c1;have f2:=g2.blk.frozen 1;have hP2:=HP.out.keep K2 rm;have c0:=hP2.cell 0;have c1:=hP2.cell 1;have c2:=hP2.cell 2;simp at c0 c1 c2;have fr:=(fun i=>hP2.frozen i);obtain⟨H2,HP2,kx⟩:=bO g2 hP2 (HK.out.trans K2);clear g2 K2 a0 hP2)
   have hbP:b≠P:=by omega
   have hE:cf (w2.setCell ⟨b,1,none⟩ (.bool true)) b rb ⟨e1.s,e1.f,true⟩:=⟨H2.out.blk.aM 1 (.bool true),aG.far H2.out.rd (p:=⟨b,1,none⟩) H2.out.ne.symm _⟩;have hK:=kx.out.setCell (p:=⟨b,1,none⟩) (Or.inl (Or.inl rfl)) (.bool true);have s0:aG (w2.setCell ⟨b,1,none⟩ (.bool true)) P 44 #[.bool false,.int .u64 0,.int .u64 0]:=HP2.out.far (p:=⟨b,1,none⟩) hbP.symm (.bool true);have s1:aG _ P 44 #[.bool false,.int .u64 0,.int .u64 0]:=s0.aM 0 (.bool false);have s2:aG _ P 44 #[.bool false,.int .u64 0,.int .u64 0]:=s1.aM 1 (.int .u64 0);have s3:aG _ P 44 #[.bool false,.int .u64 0,.int .u64 0]:=s2.aM 2 (.int .u64 0);have kf:w.heap.size≤P:=Nat.le_of_eq kN.out;obtain⟨p1,q1⟩:=hE.put hK hbl hrl kf 0 (.bool false);obtain⟨p2,q2⟩:=p1.put q1 hbl hrl kf 1 (.int .u64 0);obtain⟨p3,q3⟩:=p2.put q2 hbl hrl kf 2 (.int .u64 0);exact bodyPost_ret (fy (x:=2) rfl rfl (od s3)) rfl ⟨rfl,p3,q3⟩
theorem Xy{w:World}{g:Nat}{v0 v1 v2 v3:Value}(h:aG w g 69 #[v0,v1,v2,v3]):(loadVar 69 ⟨g,0,none⟩).run ai w=.ok (.agg #[v0,v1,v2,v3]) w:=by
 have c0:=h.cell 0;have c1:=h.cell 1;have c2:=h.cell 2;have c3:=h.cell 3;simp at c0 c1 c2 c3;simp[loadVar,go_sem,c0,c1,c2,c3]
theorem Xz{w:World}{g:Nat}{v0 v1 v2 v3 v4 v5:Value}(h:aG w g 71 #[v0,v1,v2,v3,v4,v5]):(loadVar 71 ⟨g,0,none⟩).run ai w=.ok (.agg #[v0,v1,v2,v3,v4,v5]) w:=by
 have c0:=h.cell 0;have c1:=h.cell 1;have c2:=h.cell 2;have c3:=h.cell 3;have c4:=h.cell 4;have c5:=h.cell 5;simp at c0 c1 c2 c3 c4 c5;simp[loadVar,go_sem,c0,c1,c2,c3,c4,c5]
def adt(e:En):Array Value:= #[.bool e.1.v6,.int .u64 (e.1.hi:Int),.int .u64 (e.1.lo:Int),.int .u16 (e.2:Int)]
theorem abf(e:Ey):BX e=(((rk e).1,(bH 2 (rk e).2).1),(bH 2 (rk e).2).2):=rfl
theorem N3{w:World}{b rb:Nat}{e:Ey}(h:cf w b rb e)(hs:e.s.size≤4000000):Calls ai 150 #[.pointer (some ⟨b,0,none⟩)] w (iz (.agg (adt (BX e).1)) b rb (BX e).2 w):=by
 obtain⟨hbl,hrl⟩:=h.lt;have hb1:=boxed w (.cells #[.bool false,.int .u64 0,.int .u64 0,.int .u16 0] 69);obtain⟨H1,HP,HK⟩:=bO (h.below hb1) (aG.new w 69 #[.bool false,.int .u64 0,.int .u64 0,.int .u16 0]) (Keeps.of_below (S:=Two b rb) hb1 fun _ h _=>h);have hl1:=vZ e;have had:=fun u(hu:cf u b rb e)=>wk hu hs
 have h16:=fun u(hu:cf u b rb (rk e).2)=>rV hu (ax hl1 hs)
 have rm:¬Two b rb w.heap.size:=by unfold Two;omega
 rw[abf];unfold adt;unfold iz at had h16⊢;simp only;clear h hb1 hl1 hs;generalize(bH 2 (rk e).2).1=po at*;generalize(bH 2 (rk e).2).2=e2 at*;generalize(rk e).2=e1 at*;generalize(rk e).1=a at*;obtain⟨v,hi,lo⟩:=a;unfold Ad.cells at had;simp only at had⊢;obtain⟨HAd,Ft⟩:=aQ had h16;clear had h16;go_enter Tryz.func150,Tryz.ntmps150;go_upto_region 1 with fail
 generalize w.alloc (.cells #[.bool false,.int .u64 0,.int .u64 0,.int .u16 0] 69)=w1 at H1 HP HK⊢;have Xx:=aw w.heap.size;generalize hP:w.heap.size=P at HP hbl hrl rm Xx⊢;have kN:=ae hP;clear hP;have a1:=H1.out.c0;obtain⟨H1d,ln,Fe⟩:=bO H1.out.drew HP.out.drew HK.out.drew;clear H1 HP HK;go_region_held3 (fun w'=>w'.cell? ⟨b,0,none⟩=some (.pointer (some ⟨rb,0,none⟩)))
  (first|exact a1|exact a2|exact a3|(rw[cell_far (by simp;omega),cell_far (by simp;omega),cell_far (by simp;omega),cell_far (by simp;omega)];exact a3))
  (first
    |(go_at_call 147;(with_reducible refine(HAd.out _ H1d.out).mono ?_);rintro r w2⟨rfl,g2,K2⟩;have a2:=g2.c0;obtain⟨H2,HP2,kx⟩:=bO g2 (ln.out.keep K2 rm) (Fe.out.trans K2);clear g2 K2)
    |(go_at_call 145;(with_reducible refine(Ft.out _ H2.out).mono ?_);rintro r w3⟨rfl,g3,K3⟩;have a3:=g3.c0;have H3:=ae g3;have hP3:=HP2.out.keep K3 rm;have c0:=hP3.cell 0;have c1:=hP3.cell 1;have c2:=hP3.cell 2;have c3:=hP3.cell 3;simp at c0 c1 c2 c3;have fr:=(fun i=>hP3.frozen i);obtain⟨fJ,iD⟩:=aQ hP3 (kx.out.trans K3);clear g3 K3 hP3))
 go_wp2_with fail
 have s1:aG _ P 69 #[.bool v,.int .u64 0,.int .u64 0,.int .u16 0]:=fJ.out.aM 0 (.bool v);have s2:aG _ P 69 #[.bool v,.int .u64 hi,.int .u64 0,.int .u16 0]:=s1.aM 1 (.int .u64 hi);have s3:aG _ P 69 #[.bool v,.int .u64 hi,.int .u64 lo,.int .u16 0]:=s2.aM 2 (.int .u64 lo);have s4:aG _ P 69 #[.bool v,.int .u64 hi,.int .u64 lo,.int .u16 po]:=s3.aM 3 (.int .u16 po);have kf:w.heap.size≤P:=Nat.le_of_eq kN.out;obtain⟨p1,q1⟩:=H3.out.put iD.out hbl hrl kf 0 (.bool v);obtain⟨p2,q2⟩:=p1.put q1 hbl hrl kf 1 (.int .u64 hi);obtain⟨p3,q3⟩:=p2.put q2 hbl hrl kf 2 (.int .u64 lo);obtain⟨p4,q4⟩:=p3.put q3 hbl hrl kf 3 (.int .u16 po);exact bodyPost_ret (fy (x:=2) rfl rfl (Xy s4)) rfl ⟨rfl,p4,q4⟩
end Go.Proofs.YtdfnhljccdoncaaGreatDoor
