/- Joined out of: NfB EyA EyB EyC EyD NfC NfD. -/
import Derived.Test.YtkjaajcpbldjoabGreatDoorLai
import Derived.Deep.Cut
set_option linter.unusedVariables false
set_option linter.unusedSimpArgs false
set_option maxHeartbeats 16000000
set_option maxRecDepth 100000
open Bool renaming eq_iff_iff→gW
open Go.Lib renaming hid→ae
open Go.Proofs.Tryz renaming prog→ah,underlying23→aif
open Go.RowKit renaming Hid→ag
open Go.RowKit.Below renaming refl→aI
open Go.Value renaming slice→dq
open Go.World renaming ownsRow_nil→bh
open List renaming getElem?_eq_getElem→af,length_append→aj,length_map→ay,take_of_length_le→aN,getElem_mem→aZ,map_append→cL,length_singleton→dn,nil_append→lK,map_singleton→ahM
open Nat renaming le_trans→aw,le_refl→ax,lt_succ_self→oG,zero_add→ah6
open Option renaming bind_some→ahU
namespace Go.Proofs.YtkjaajcpbldjoabGreatDoor
open Go.RowKit
attribute [local go_sem↓] Go.wp_at_zero Go.wp_at_succ
theorem VP:(ah.info? 52).map (fun i=>(i.zero,i.size,i.bytes))=some (some (.agg #[.bool false,.int .u64 0,.int .u64 0]),3,24):=by kernel_rfl
theorem VQ:(ah.info? 55).map (fun i=>(i.zero,i.size,i.bytes))=some (some (.agg #[.bool false,.int .u64 0,.int .u64 0,.int .u16 0]),4,32):=by kernel_rfl
theorem VR:(ah.info? 57).map (fun i=>(i.zero,i.size,i.bytes))=some (some (.agg #[.int .u8 0,aG,.bool false,.int .u64 0,.int .u64 0,.int .u16 0]),6,56):=by kernel_rfl
theorem VS{w:World}{v:Value}{n:Nat}{xs:List Value}(h:a8 w v n 3 xs)(hn:n≤2000000)(h1:∀u∈xs,u.oneCell'=true):Calls ah 77 #[v] w (uT 52 3 n xs w):=by
 obtain⟨A,cap,rfl⟩:=h.shape;cases A with
 |none=>
  obtain⟨rfl,rfl⟩:=sc h;clear h;have e1:∀W,(binOp .eql 44 (.slice none 0 cap) au).run ah W=.ok (.bool true) W:=fun _=>by kernel_rfl
  go_enter Tryz.func77,Tryz.ntmps77;go_wp2_with fail
  go_ret;exact⟨⟨none,0,rfl,bh _ _ _ _⟩,aI _ _⟩
 |some a=>
  obtain⟨hl,hnews⟩:=rZ h;obtain⟨i0,hi,hz0,hz1,hz2⟩:=info_parts VP;have HB:=ae (boxed w (.cells #[] 52));have HO:=ae (World.ownsRow_lit (e:=52) (size:=3) (base:=w.heap.size) w #[] 0 (ax _) (by unfold maxLen;omega) rfl);have U7:=ae fun j u hu=>kS (hnews j u hu) HB.out
  obtain⟨HL,H1⟩:=aL hl h1;clear h hl hnews h1;have e1:∀W,(binOp .eql 44 (.slice (some a) n cap) au).run ah W=.ok (.bool false) W:=fun _=>by kernel_rfl
  go_enter Tryz.func77,Tryz.ntmps77;go_wp2_with(at_builtin;refine wpList_append_own _ rfl _ _ 44 rfl w.heap.size 52 i0 (.agg #[.bool false,.int .u64 0,.int .u64 0]) 3 24 Tryz.underlying44 hi hz0 hz1 hz2 rfl aJ _ 0 [] rfl HO.out a n cap xs rfl HL.out U7.out H1.out (by unfold maxLen;omega) aR (by simp) ?_;intro v' w' ho hg hnil;obtain⟨A5,c5,rfl⟩:=aX ho;rw[ah6]at ho;obtain⟨IK,SL⟩:=aL ho (HB.out.grown hg HB.out.size (fun q hq=>(HO.out.lt q hq).1));clear ho hg hnil)
  go_ret;exact⟨⟨A5,c5,rfl,by have:=IK.out;rw[lK]at this;exact this⟩,SL.out⟩
theorem VT{w:World}{v:Value}{n:Nat}{xs:List Value}(h:a8 w v n 4 xs)(hn:n≤2000000)(h1:∀u∈xs,u.oneCell'=true):Calls ah 78 #[v] w (uT 55 4 n xs w):=by
 obtain⟨A,cap,rfl⟩:=h.shape;cases A with
 |none=>
  obtain⟨rfl,rfl⟩:=sc h;clear h;have e1:∀W,(binOp .eql 45 (.slice none 0 cap) au).run ah W=.ok (.bool true) W:=fun _=>by kernel_rfl
  go_enter Tryz.func78,Tryz.ntmps78;go_wp2_with fail
  go_ret;exact⟨⟨none,0,rfl,bh _ _ _ _⟩,aI _ _⟩
 |some a=>
  obtain⟨hl,hnews⟩:=rZ h;obtain⟨i0,hi,hz0,hz1,hz2⟩:=info_parts VQ;have HB:=ae (boxed w (.cells #[] 55));have HO:=ae (World.ownsRow_lit (e:=55) (size:=4) (base:=w.heap.size) w #[] 0 (ax _) (by unfold maxLen;omega) rfl);have U7:=ae fun j u hu=>kS (hnews j u hu) HB.out
  obtain⟨HL,H1⟩:=aL hl h1;clear h hl hnews h1;have e1:∀W,(binOp .eql 45 (.slice (some a) n cap) au).run ah W=.ok (.bool false) W:=fun _=>by kernel_rfl
  go_enter Tryz.func78,Tryz.ntmps78;go_wp2_with(at_builtin;refine wpList_append_own _ rfl _ _ 45 rfl w.heap.size 55 i0 (.agg #[.bool false,.int .u64 0,.int .u64 0,.int .u16 0]) 4 32 Tryz.underlying45 hi hz0 hz1 hz2 rfl aJ _ 0 [] rfl HO.out a n cap xs rfl HL.out U7.out H1.out (by unfold maxLen;omega) aR (by simp) ?_;intro v' w' ho hg hnil;obtain⟨A5,c5,rfl⟩:=aX ho;rw[ah6]at ho;obtain⟨IK,SL⟩:=aL ho (HB.out.grown hg HB.out.size (fun q hq=>(HO.out.lt q hq).1));clear ho hg hnil)
  go_ret;exact⟨⟨A5,c5,rfl,by have:=IK.out;rw[lK]at this;exact this⟩,SL.out⟩
theorem yj{w:World}{v:Value}{n:Nat}{xs:List Value}(h:a8 w v n 6 xs)(hn:n≤2000000)(h1:∀u∈xs,u.oneCell'=true):Calls ah 27 #[v] w (uT 57 6 n xs w):=by
 obtain⟨A,cap,rfl⟩:=h.shape;cases A with
 |none=>
  obtain⟨rfl,rfl⟩:=sc h;clear h;have e1:∀W,(binOp .eql 24 (.slice none 0 cap) au).run ah W=.ok (.bool true) W:=fun _=>by kernel_rfl
  go_enter Tryz.func27,Tryz.ntmps27;go_wp2_with fail
  go_ret;exact⟨⟨none,0,rfl,bh _ _ _ _⟩,aI _ _⟩
 |some a=>
  obtain⟨hl,hnews⟩:=rZ h;obtain⟨i0,hi,hz0,hz1,hz2⟩:=info_parts VR;have HB:=ae (boxed w (.cells #[] 57));have HO:=ae (World.ownsRow_lit (e:=57) (size:=6) (base:=w.heap.size) w #[] 0 (ax _) (by unfold maxLen;omega) rfl);have U7:=ae fun j u hu=>kS (hnews j u hu) HB.out
  obtain⟨HL,H1⟩:=aL hl h1;clear h hl hnews h1;have e1:∀W,(binOp .eql 24 (.slice (some a) n cap) au).run ah W=.ok (.bool false) W:=fun _=>by kernel_rfl
  go_enter Tryz.func27,Tryz.ntmps27;go_wp2_with(at_builtin;refine wpList_append_own _ rfl _ _ 24 rfl w.heap.size 57 i0 (.agg #[.int .u8 0,aG,.bool false,.int .u64 0,.int .u64 0,.int .u16 0]) 6 56 Tryz.underlying24 hi hz0 hz1 hz2 rfl aJ _ 0 [] rfl HO.out a n cap xs rfl HL.out U7.out H1.out (by unfold maxLen;omega) aR (by simp) ?_;intro v' w' ho hg hnil;obtain⟨A5,c5,rfl⟩:=aX ho;rw[ah6]at ho;obtain⟨IK,SL⟩:=aL ho (HB.out.grown hg HB.out.size (fun q hq=>(HO.out.lt q hq).1));clear ho hg hnil)
  go_ret;exact⟨⟨A5,c5,rfl,by have:=IK.out;rw[lK]at this;exact this⟩,SL.out⟩
structure Ey where
 s:ByteArray
 f:Nat
 odd:Bool
def Ey.fine(e:Ey):Prop:=e.f=0∧e.odd=false
def Ey.iS(e:Ey):Bool:= !e.odd&&decide (e.f=0)
theorem Ey.pG(e:Ey):e.iS=true↔e.fine:=by
 unfold Ey.iS Ey.fine;cases e.odd<;>simp
abbrev Rg(α:Type):=Ey→α×Ey
def Ey.tk(e:Ey)(n:Nat):Ey:=⟨oH e.s e.f n,ov e.s e.f n,e.odd⟩
def bL(n:Nat):Rg Nat:=fun e=>(jN e.s e.f n,e.tk n)
def keyE(n:Nat):Rg ByteArray:=fun e=>(sW e.s e.f n,e.tk n)
def cV{α β:Type}(p:Rg α)(g:α→Rg β):Rg β:=fun e=>g (p e).1 (p e).2
def jl{α:Type}(x:α):Rg α:=fun e=>(x,e)
def KW(f n:Nat):Nat:=if f=0∧32768<n then 4 else f
def DF(s0:ByteArray)(n:Nat):Rg ByteArray:=fun e=>(sW e.s (KW e.f n) n,⟨if KW e.f n=0∧n≤e.s.size then oH e.s (KW e.f n) n else s0,ov e.s (KW e.f n) n,e.odd⟩)
def gg:Rg ByteArray:=fun e=>cV (bL 2) (DF e.s) e
def afk:Rg Ad:=fun e=>(⟨false,0,0⟩,⟨e.s,e.f,true⟩)
def td:Rg Ad:=cV (bL 1) fun k=>if k=4 then cV (bL 4) fun l=>jl ⟨false,0,l⟩else if k=6 then cV (bL 8) fun h=>cV (bL 8) fun l=>jl ⟨true,h,l⟩else afk
def EN:Rg En:=cV td fun a=>cV (bL 2) fun p=>jl (a,p)
def eu{α:Type}(p:Rg α):Nat→Rg (List α)
 |0=>jl []
 |n+1=>fun e=>if e.iS then cV p (fun x=>cV (eu p n) fun l=>jl (x::l)) e else([],e)
def cn{α:Type}(p:Rg α):Rg (List α):=cV (bL 2) (eu p)
def GL:Rg Pr:=cV (keyE 32) fun k=>cV (keyE 32) fun d=>cV gg fun u=>cV (cn gg) fun ts=>cV (cn td) fun as_=>cV (bL 8) fun ex=>cV (bL 1) fun rl=>cV (cn EN) fun es=>jl ⟨k,d,u,ts,as_,ex,rl,es⟩
def IL:Rg Ry:=cV (bL 1) fun i=>cV (keyE 32) fun k=>cV EN fun e=>jl ⟨i,k,e⟩
def IM:Rg Mp:=cV (bL 8) fun v=>cV (cn GL) fun ps=>cV (cn IL) fun rs=>cV gg fun t=>jl ⟨v,ps,rs,t⟩
def me:Rg Bool:=fun e=>(decide (jN e.s e.f 1=1),⟨oH e.s e.f 1,ov e.s e.f 1,e.odd||decide (1<jN e.s e.f 1)⟩)
def yk{α:Type}(b:Bool)(z:α)(p:Rg α):Rg α:=if b then p else jl z
def IP:Rg Dl:=cV (bL 8) fun b=>cV (bL 8) fun v=>cV (cn GL) fun ps=>cV (cn (keyE 32)) fun g=>cV me fun hr=>cV (yk hr [] (cn IL)) fun rs=>cV me fun hp=>cV (yk hp ⟨#[]⟩ gg) fun t=>cV (keyE 32) fun h=>jl ⟨b,v,ps,g,hr,rs,hp,t,h⟩
structure wK{α:Type}(p:Rg α)(q:Ps α):Prop where
 good:∀e,e.fine→∀x r,q e.s.data.toList=some (x,r)→p e=(x,⟨iJ r,0,false⟩)
 bad:∀e,e.fine→q e.s.data.toList=none→¬(p e).2.fine
 stay:∀e,¬e.fine→¬(p e).2.fine
theorem iT{α:Type}(x:α):wK (jl x) (mP x)where
 good:=fun e he y r h=>by
  injection h with h
  injection h with h1 h2
  obtain⟨s,f,o⟩:=e;obtain⟨rfl,rfl⟩:f=0∧o=false:=he;subst h1 h2;rfl
 bad:=fun e _ h=>by cases h
 stay:=fun e h=>h
theorem bY{α β:Type}{p:Rg α}{q:Ps α}{g:α→Rg β}{k:α→Ps β}(h:wK p q)(hg:∀x,wK (g x) (k x)):wK (cV p g) (cN q k)where
 good:=fun e he y r hq=>by
  unfold cN at hq;cases hp:q e.s.data.toList with
  |none=>rw[hp]at hq;cases hq
  |some z=>
   obtain⟨x,u⟩:=z;rw[hp]at hq;have h1:=h.good e he x u hp;have h2:=(hg x).good ⟨iJ u,0,false⟩ ⟨rfl,rfl⟩ y r hq;unfold cV;rw[h1];exact h2
 bad:=fun e he hq=>by
  unfold cN at hq;unfold cV;cases hp:q e.s.data.toList with
  |none=>exact(hg _).stay _ (h.bad e he hp)
  |some z=>
   obtain⟨x,u⟩:=z;rw[hp]at hq;rw[h.good e he x u hp];exact(hg x).bad ⟨iJ u,0,false⟩ ⟨rfl,rfl⟩ hq
 stay:=fun e he=>(hg _).stay _ (h.stay e he)
theorem ND{e:Ey}{n:Nat}(h:(e.tk n).fine):e.fine∧n≤e.s.size:=by
 obtain⟨h1,h2⟩:=h;unfold Ey.tk ov at h1;simp only at h1;split at h1
 ·next hf=>
  split at h1
  ·next hn=>exact⟨⟨hf,h2⟩,hn⟩
  ·cases h1
 ·next hf=>exact absurd h1 hf
theorem VU(s:ByteArray)(n:Nat):(s.extract 0 n).data.toList=s.data.toList.take n:=by
 rw[ByteArray.data_extract];simp
theorem VV(s:ByteArray)(n:Nat):(s.extract n s.size).data.toList=s.data.toList.drop n:=by
 rw[ByteArray.data_extract];simp;rw[aN (by rw[List.length_drop,ek];exact ax _)]
theorem VW{s:ByteArray}{l:List UInt8}(h:s.data.toList=l):s=iJ l:=by rw[←h];exact(acT s).symm
theorem aaj{e:Ey}(he:e.fine){n:Nat}(hn:n≤e.s.data.toList.length):sW e.s e.f n=iJ (e.s.data.toList.take n)∧e.tk n=⟨iJ (e.s.data.toList.drop n),0,false⟩:=by
 obtain⟨s,f,o⟩:=e;obtain⟨rfl,rfl⟩:f=0∧o=false:=he;simp only at hn⊢;rw[ek]at hn;refine⟨?_,?_⟩
 ·unfold sW;rw[if_pos ⟨rfl,hn⟩];exact VW (VU s n)
 ·unfold Ey.tk oH ov;simp only;rw[if_pos ⟨trivial,hn⟩,if_pos trivial,if_pos hn];rw[VW (VV s n)]
theorem QY(l:List UInt8):TG (iJ l)=qt l:=by
 unfold TG rK kn qt iJ;rw[List.foldl_map]
theorem Bd{n:Nat}{t x r:List UInt8}(h:ku n t=some (x,r)):n≤t.length∧x=t.take n∧r=t.drop n:=by
 unfold ku at h;split at h
 ·next hn=>injection h with h;injection h with h1 h2;exact⟨hn,h1.symm,h2.symm⟩
 ·cases h
theorem QZ{n:Nat}{t:List UInt8}(h:ku n t=none):t.length<n:=by
 unfold ku at h;split at h
 ·cases h
 ·omega
theorem GM{α:Type}(n:Nat)(F:ByteArray→α):wK (fun e=>(F (sW e.s e.f n),e.tk n)) (fun t=>(ku n t).map fun x=>(F (iJ x.1),x.2))where
 good:=fun e he y r h=>by
  cases ht:ku n e.s.data.toList with
  |none=>simp only[ht]at h;cases h
  |some z=>
   obtain⟨x,u⟩:=z;simp only[ht]at h;injection h with h
   injection h with h1 h2
   obtain⟨hn,e1,e2⟩:=Bd ht;obtain⟨g1,g2⟩:=aaj he hn;simp only at h1 h2;subst e1 e2 h1 h2;rw[g1,g2]
 bad:=fun e he h=>by
  intro hf;have:=(ND hf).2;cases ht:ku n e.s.data.toList with
  |none=>have:=QZ ht;rw[ek]at this;omega
  |some z=>simp only[ht]at h;cases h
 stay:=fun e he hf=>he (ND hf).1
theorem eY(n:Nat):wK (bL n) (lr n):=by
 have:=GM n TG;unfold bL lr jN;simp only[QY]at this;exact this
theorem mf(n:Nat):wK (keyE n) (vJ n):=GM n fun s=>s
theorem GN{α:Type}{p:Rg α}(h:∀e,¬(p e).2.fine):wK p (fun _=>none)where
 good:=fun e _ x r hq=>by cases hq
 bad:=fun e _ _=>h e
 stay:=fun e _=>h e
theorem VX:wK td adP:=by
 refine bY (eY 1) fun k=>?_
 by_cases h4:k=4
 ·rw[if_pos h4,if_pos h4];exact bY (eY 4) fun l=>iT _
 ·rw[if_neg h4,if_neg h4];by_cases h6:k=6
  ·rw[if_pos h6,if_pos h6];exact bY (eY 8) fun h=>bY (eY 8) fun l=>iT _
  ·rw[if_neg h6,if_neg h6];exact GN fun e h=>by cases h.2
theorem VY:wK EN enP:=bY VX fun _=>bY (eY 2) fun _=>iT _
theorem DG(s0:ByteArray)(n:Nat)(hn:¬32768<n)(e:Ey):(DF s0 n e).1=(keyE n e).1∧(e.f=0∧n≤e.s.size→(DF s0 n e).2=(keyE n e).2)∧(DF s0 n e).2.f=(keyE n e).2.f∧(DF s0 n e).2.odd=(keyE n e).2.odd:=by
 have h:KW e.f n=e.f:=by unfold KW;rw[if_neg aR]
 unfold DF keyE Ey.tk;simp only[h];exact⟨trivial,fun g=>by rw[if_pos g],trivial,trivial⟩
theorem ym(s0:ByteArray)(n:Nat):wK (DF s0 n) (if 32768<n then fun _=>none else vJ n):=by
 by_cases hn:32768<n
 ·rw[if_pos hn];refine GN fun e h=>?_
  obtain⟨h1,h2⟩:=h;have h3:KW e.f n≠0:=by
   unfold KW;split
   ·decide
   ·next h=>intro h0;exact h ⟨h0,hn⟩
  unfold DF ov at h1;simp only at h1;rw[if_neg h3]at h1;exact h3 h1
 ·rw[if_neg hn];refine⟨fun e he x r hq=>?_,fun e he hq hf=>?_,fun e he hf=>?_⟩
  ·obtain⟨h1,h2,_,_⟩:=DG s0 n hn e;have hk:=(mf n).good e he x r hq;have hle:n≤e.s.size:=by
    unfold vJ at hq;cases ht:ku n e.s.data.toList with
    |none=>rw[ht]at hq;cases hq
    |some z=>have:=(Bd (x:=z.1) (r:=z.2) ht).1;rw[ek]at this;exact this
   have h3:=h2 ⟨he.1,hle⟩;rw[hk]at h1 h3;exact Prod.ext h1 h3
  ·obtain⟨_,_,h3,h4⟩:=DG s0 n hn e;exact(mf n).bad e he hq ⟨h3▸hf.1,h4▸hf.2⟩
  ·obtain⟨_,_,h3,h4⟩:=DG s0 n hn e;exact(mf n).stay e he ⟨h3▸hf.1,h4▸hf.2⟩
theorem wL:wK gg Ku where
 good:=fun e he x r hq=>(bY (eY 2) (ym e.s)).good e he x r hq
 bad:=fun e he hq=>(bY (eY 2) (ym e.s)).bad e he hq
 stay:=fun e he=>(bY (eY 2) (ym e.s)).stay e he
theorem GQ{α:Type}{p:Rg α}{q:Ps α}(h:wK p q):∀n,wK (eu p n) (xX q n)
 |0=>iT []
 |n+1=>by
  have ih:=bY h fun x=>bY (GQ h n) fun l=>iT (x::l)
  have hd:∀e,eu p (n+1) e=if e.iS then cV p (fun x=>cV (eu p n) fun l=>jl (x::l)) e else([],e):=fun e=>rfl
  refine⟨fun e he x r hq=>?_,fun e he hq hf=>?_,fun e he hf=>?_⟩
  ·rw[hd,if_pos ((Ey.pG e).2 he)];exact ih.good e he x r hq
  ·rw[hd,if_pos ((Ey.pG e).2 he)]at hf;exact ih.bad e he hq hf
  ·rw[hd,if_neg (fun h=>he ((Ey.pG e).1 h))]at hf;exact he hf
theorem kz{α:Type}{p:Rg α}{q:Ps α}(h:wK p q):wK (cn p) (pB q):=bY (eY 2) fun n=>GQ h n
theorem VZ:wK GL prP:=bY (mf 32) fun _=>bY (mf 32) fun _=>bY wL fun _=>bY (kz wL) fun _=>bY (kz VX) fun _=>bY (eY 8) fun _=>bY (eY 1) fun _=>bY (kz VY) fun _=>iT _
theorem V0:wK IL ryP:=bY (eY 1) fun _=>bY (mf 32) fun _=>bY VY fun _=>iT _
theorem acW:wK IM mpP:=bY (eY 8) fun _=>bY (kz VZ) fun _=>bY (kz V0) fun _=>bY wL fun _=>iT _
theorem GU:wK me mQ where
 good:=fun e he x r hq=>by
  unfold mQ cN at hq;cases hp:lr 1 e.s.data.toList with
  |none=>rw[hp]at hq;cases hq
  |some z=>
   obtain⟨k,u⟩:=z;rw[hp]at hq;have hn:=(eY 1).good e he k u hp;have h1:jN e.s e.f 1=k:=congrArg Prod.fst hn;have h2:e.tk 1=⟨iJ u,0,false⟩:=congrArg Prod.snd hn;have h3:oH e.s e.f 1=iJ u:=congrArg Ey.s h2;have h4:ov e.s e.f 1=0:=congrArg Ey.f h2;simp only[ahU]at hq;split at hq
   ·cases hq
   ·next hk=>
    injection hq with hq
    injection hq with e1 e2
    unfold me;rw[h1,h3,h4,e1,e2,he.2,decide_eq_false hk];rfl
 bad:=fun e he hq hf=>by
  unfold mQ cN at hq;cases hp:lr 1 e.s.data.toList with
  |none=>
   have:=(eY 1).bad e he hp;refine this ⟨hf.1,he.2⟩
  |some z=>
   obtain⟨k,u⟩:=z;rw[hp]at hq;have hn:=(eY 1).good e he k u hp;have h1:jN e.s e.f 1=k:=congrArg Prod.fst hn;simp only[ahU]at hq;split at hq
   ·next hk=>
    have h2:=hf.2;unfold me at h2;simp only at h2;rw[h1,decide_eq_true hk,Bool.or_true]at h2;cases h2
   ·cases hq
 stay:=fun e he hf=>by
  have h2:=hf.2;unfold me at h2;simp only[Bool.or_eq_false_iff]at h2;exact(eY 1).stay e he ⟨hf.1,h2.1⟩
theorem GV{α:Type}{p:Rg α}{q:Ps α}(h:wK p q)(b:Bool)(z:α):wK (yk b z p) (Gn b z q):=by
 cases b with
 |false=>exact iT z
 |true=>exact h
theorem acX:wK IP dlP:=bY (eY 8) fun _=>bY (eY 8) fun _=>bY (kz VZ) fun _=>bY (kz (mf 32)) fun _=>bY GU fun _=>bY (GV (kz V0) _ _) fun _=>bY GU fun _=>bY (GV wL _ _) fun _=>bY (mf 32) fun _=>iT _
def tY(e:Ey):Bool:=e.iS&&decide (e.s.size=0)
theorem KX{α:Type}{q:Ps α}{t:List UInt8}(hs:¬32768<t.length)(h:q t=none):fk q t=none:=by unfold fk;rw[if_neg hs,h]
theorem Q0{α:Type}{q:Ps α}{t:List UInt8}{x:α}(hs:¬32768<t.length)(h:q t=some (x,[])):fk q t=some x:=by unfold fk;rw[if_neg hs,h]
theorem KY{α:Type}{q:Ps α}{t r:List UInt8}{x:α}{c:UInt8}(hs:¬32768<t.length)(h:q t=some (x,c::r)):fk q t=none:=by unfold fk;rw[if_neg hs,h]
theorem Be{α:Type}{p:Rg α}{q:Ps α}(h:wK p q)(s:ByteArray)(hs:¬32768<s.size):(tY (p ⟨s,0,false⟩).2=true∧fk q s.data.toList=some (p ⟨s,0,false⟩).1)∨(tY (p ⟨s,0,false⟩).2=false∧fk q s.data.toList=none):=by
 have hl:¬32768<s.data.toList.length:=by rw[ek];exact hs
 have hf:(⟨s,0,false⟩:Ey).fine:=⟨rfl,rfl⟩;cases hq:q s.data.toList with
 |none=>
  refine Or.inr ⟨?_,KX hl hq⟩;have hb:=h.bad _ hf hq;cases he:tY (p ⟨s,0,false⟩).2 with
  |false=>rfl
  |true=>
   unfold tY at he;simp only[Bool.and_eq_true]at he;exact absurd ((Ey.pG _).1 he.1) hb
 |some z=>
  obtain⟨x,r⟩:=z;have hg:=h.good _ hf x r hq;cases r with
  |nil=>
   rw[Q0 hl hq,hg];exact Or.inl ⟨rfl,rfl⟩
  |cons c r=>
   rw[KY hl hq,hg];refine Or.inr ⟨?_,rfl⟩;unfold tY;have:(iJ (c::r)).size=r.length+1:=rfl;simp[this]
def vj{α:Type}(p:Rg α):Prop:=∀e,(p e).2.s.size≤e.s.size
theorem mT(s:ByteArray)(f n:Nat):(oH s f n).size≤s.size:=by
 unfold oH;split
 ·rw[ByteArray.size_extract];omega
 ·exact ax _
theorem kA{α:Type}(x:α):vj (jl x):=fun _=>ax _
theorem ef(n:Nat):vj (bL n):=fun _=>mT _ _ _
theorem mg(n:Nat):vj (keyE n):=fun _=>mT _ _ _
theorem GX:vj me:=fun _=>mT _ _ _
theorem dM{α β:Type}{p:Rg α}{g:α→Rg β}(h:vj p)(hg:∀x,vj (g x)):vj (cV p g):=fun e=>aw (hg _ _) (h e)
theorem qh:vj gg:=fun e=>by
 have h1:=mT e.s e.f 2;unfold gg cV DF bL Ey.tk;simp only;split
 ·exact aw (mT _ _ _) h1
 ·exact ax _
theorem V1{α:Type}{c:Prop}[Decidable c]{p q:Rg α}(hp:vj p)(hq:vj q):vj (if c then p else q):=by
 split
 ·exact hp
 ·exact hq
theorem yn:vj td:=dM (ef 1) fun _=>V1 (dM (ef 4) fun _=>kA _) (V1 (dM (ef 8) fun _=>dM (ef 8) fun _=>kA _) fun _=>ax _)
theorem KZ:vj EN:=dM yn fun _=>dM (ef 2) fun _=>kA _
theorem GY{α:Type}{p:Rg α}(h:vj p):∀n,vj (eu p n)
 |0=>kA []
 |n+1=>fun e=>by
  rw[show eu p (n+1) e=if e.iS then cV p (fun x=>cV (eu p n) fun l=>jl (x::l)) e else([],e)from rfl];split
  ·exact(dM h fun x=>dM (GY h n) fun _=>kA _) e
  ·exact ax _
theorem iU{α:Type}{p:Rg α}(h:vj p):vj (cn p):=dM (ef 2) fun n=>GY h n
theorem DI:vj GL:=dM (mg 32) fun _=>dM (mg 32) fun _=>dM qh fun _=>dM (iU qh) fun _=>dM (iU yn) fun _=>dM (ef 8) fun _=>dM (ef 1) fun _=>dM (iU KZ) fun _=>kA _
theorem DJ:vj IL:=dM (ef 1) fun _=>dM (mg 32) fun _=>dM KZ fun _=>kA _
theorem Q5{α:Type}(p:Rg α){n:Nat}{e:Ey}(h:e.iS=true):eu p (n+1) e=((p e).1::(eu p n (p e).2).1,(eu p n (p e).2).2):=by
 rw[show eu p (n+1) e=if e.iS then cV p (fun x=>cV (eu p n) fun l=>jl (x::l)) e else([],e)from rfl,if_pos h];rfl
theorem V2{α:Type}(p:Rg α){n:Nat}{e:Ey}(h:e.iS=false):eu p n e=([],e):=by
 cases n with
 |zero=>rfl
 |succ n=>
  rw[show eu p (n+1) e=if e.iS then cV p (fun x=>cV (eu p n) fun l=>jl (x::l)) e else([],e)from rfl,h];rfl
theorem aak{w:World}{b:Nat}{s:ByteArray}{f:Nat}(h:Rd w b s f)(n:Nat)(hs:s.size≤4000000)(hn:n≤4000000)(B:Bool)(hB:decide (f=0∧n≤s.size)=B):Calls ah 106 #[.pointer (some ⟨b,0,none⟩),.int .i64 n] w fun r w'=>r=.returned (.tuple #[.string (sW s f n),.bool B])∧Rd w' b (oH s f n) (ov s f n)∧Keeps (fun k=>k=b) w w':=by
 subst hB;exact iy h n hs hn
theorem K0{w:World}{rb:Nat}{e:Ey}(h:Rd w rb e.s e.f)(hs:e.s.size≤4000000):Calls ah 53 #[.pointer (some ⟨rb,0,none⟩)] w fun r w'=>r=.returned (.string (gg e).1)∧Rd w' rb (gg e).2.s (gg e).2.f∧Keeps (fun k=>k=rb) w w':=by
 obtain⟨s,f,o⟩:=e;simp only at h hs;have h16:=Fz h hs;have hn:=lW s f 2;have hs1:=mT s f 2;have c0:=h.cells.1;have e1:(gg ⟨s,f,o⟩).1=sW (oH s f 2) (KW (ov s f 2) (jN s f 2)) (jN s f 2):=rfl;have e2:(gg ⟨s,f,o⟩).2.s=if KW (ov s f 2) (jN s f 2)=0∧jN s f 2≤(oH s f 2).size then oH (oH s f 2) (KW (ov s f 2) (jN s f 2)) (jN s f 2)else s:=rfl
 have e3:(gg ⟨s,f,o⟩).2.f=ov (oH s f 2) (KW (ov s f 2) (jN s f 2)) (jN s f 2):=rfl;rw[e1,e2,e3];clear e1 e2 e3;generalize jN s f 2=n at*;generalize oH s f 2=s1 at*;generalize ov s f 2=f1 at*;have hn1:n<65536:=by simpa using hn
 have htk:=fun u f2 B(hB:decide (f2=0∧n≤s1.size)=B)(hu:Rd u rb s1 f2)=>aak hu n aR aR B hB
 obtain⟨IQ,Kq⟩:=aL h16 htk;have hwr:IntKind.i64.wrap (n:Int)=(n:Int):=IntWalk.i64_in _ aR;clear h16 htk h hs hs1 hn;by_cases hf:f1=0
 ·subst hf;by_cases hl:32768<n
  ·rw[show KW 0 n=4 from if_pos ⟨rfl,hl⟩,if_neg aR];have hl':(32768:Int)<(n:Int):=by omega
   go_enter Tryz.func53,Tryz.ntmps53;go_wp2_with(first
    |(go_at_call 99;refine IQ.out.mono ?_;rintro r w1⟨rfl,hR1,hK1⟩;have d1:w1.cell? ⟨rb,1,none⟩=some (.int .i64 0):=hR1.cells.2;have g1:=hR1.free.2;obtain⟨qI,HR2,lQ⟩:=bz hK1 (show Rd (w1.setCell ⟨rb,1,none⟩ (.int .i64 4)) rb s1 4 from hR1.aM 1 (.int .i64 4)) ((Keeps.refl (fun k=>k=rb) w1).setCell (p:=⟨rb,1,none⟩) (.inl rfl) (.int .i64 4));clear hR1 hK1)
    |(go_at_call 106;refine(Kq.out _ 4 false (by simp) HR2.out).mono ?_;rintro r w3⟨rfl,iY,hK3⟩;have g0:=iY.free.1;have q0:=iY.cells.1;obtain⟨HR4,ki⟩:=aL (iY.aM 0 (.string s)) (hK3.setCell (p:=⟨rb,0,none⟩) (.inl rfl) (.string s));clear iY hK3))
   go_ret;exact⟨rfl,HR4.out,qI.out.trans (lQ.out.trans ki.out)⟩
  ·rw[show KW 0 n=0 from if_neg (fun h=>hl h.2)];have hl':¬(32768:Int)<(n:Int):=by omega
   by_cases ht:n≤s1.size
   ·rw[if_pos ⟨rfl,ht⟩];have HT:=ae ht;clear ht;go_enter Tryz.func53,Tryz.ntmps53;go_wp2_with(first
     |(go_at_call 99;refine IQ.out.mono ?_;rintro r w1⟨rfl,hR1,hK1⟩;have d1:w1.cell? ⟨rb,1,none⟩=some (.int .i64 0):=hR1.cells.2;obtain⟨qI,HR2⟩:=aL hK1 hR1;clear hR1 hK1)
     |(go_at_call 106;refine(Kq.out _ 0 true (by have h:=HT.out;simp[h]) HR2.out).mono ?_;rintro r w3⟨rfl,iY,hK3⟩;obtain⟨HR4,ki⟩:=aL iY hK3;clear iY hK3))
    go_ret;exact⟨rfl,HR4.out,qI.out.trans ki.out⟩
   ·rw[if_neg (fun h=>ht h.2)];have HT:=ae ht;clear ht;go_enter Tryz.func53,Tryz.ntmps53;go_wp2_with(first
     |(go_at_call 99;refine IQ.out.mono ?_;rintro r w1⟨rfl,hR1,hK1⟩;have d1:w1.cell? ⟨rb,1,none⟩=some (.int .i64 0):=hR1.cells.2;obtain⟨qI,HR2⟩:=aL hK1 hR1;clear hR1 hK1)
     |(go_at_call 106;refine(Kq.out _ 0 false (by have h:=HT.out;simp[h]) HR2.out).mono ?_;rintro r w3⟨rfl,iY,hK3⟩;have g0:=iY.free.1;have q0:=iY.cells.1;obtain⟨HR4,ki⟩:=aL (iY.aM 0 (.string s)) (hK3.setCell (p:=⟨rb,0,none⟩) (.inl rfl) (.string s));clear iY hK3))
    go_ret;exact⟨rfl,HR4.out,qI.out.trans ki.out⟩
 ·rw[show KW f1 n=f1 from if_neg (fun h=>hf h.1),if_neg (fun h=>hf h.1)];have HT:=ae hf;have hf':((f1:Int)==0)=false:=by simp;omega
  clear hf;go_enter Tryz.func53,Tryz.ntmps53;go_wp2_with(first
   |(go_at_call 99;refine IQ.out.mono ?_;rintro r w1⟨rfl,hR1,hK1⟩;have d1:=hR1.cells.2;obtain⟨qI,HR2⟩:=aL hK1 hR1;clear hR1 hK1)
   |(go_at_call 106;refine(Kq.out _ f1 false (by have h:=HT.out;simp[h]) HR2.out).mono ?_;rintro r w3⟨rfl,iY,hK3⟩;have g0:=iY.free.1;have q0:=iY.cells.1;obtain⟨HR4,ki⟩:=aL (iY.aM 0 (.string s)) (hK3.setCell (p:=⟨rb,0,none⟩) (.inl rfl) (.string s));clear iY hK3))
  go_ret;exact⟨rfl,HR4.out,qI.out.trans ki.out⟩
structure cj(w:World)(b rb:Nat)(e:Ey):Prop where
 blk:aH w b 91 #[.pointer (some ⟨rb,0,none⟩),.bool e.odd]
 rd:Rd w rb e.s e.f
theorem cj.ne{w:World}{b rb:Nat}{e:Ey}(h:cj w b rb e):b≠rb:=aH.vO h.blk h.rd (by decide)
theorem cj.c0{w:World}{b rb:Nat}{e:Ey}(h:cj w b rb e):w.cell? ⟨b,0,none⟩=some (.pointer (some ⟨rb,0,none⟩)):=h.blk.cell 0
theorem cj.c1{w:World}{b rb:Nat}{e:Ey}(h:cj w b rb e):w.cell? ⟨b,1,none⟩=some (.bool e.odd):=h.blk.cell 1
abbrev Two(b rb:Nat):Nat→Prop:=fun k=>k=b∨k=rb
theorem cj.keep{S:Nat→Prop}{w w':World}{b rb:Nat}{e:Ey}(h:cj w b rb e)(k:Keeps S w w')(hb:¬S b)(hr:¬S rb):cj w' b rb e:=⟨h.blk.keep k hb,h.rd.keep k hr⟩
theorem cj.below{w w':World}{b rb:Nat}{e:Ey}(h:cj w b rb e)(k:aW w w'):cj w' b rb e:=⟨h.blk.below k h.blk.lt,h.rd.below k⟩
theorem cj.drew{w:World}{b rb:Nat}{e:Ey}(h:cj w b rb e):cj w.drew b rb e:=⟨h.blk.drew,aH.drew h.rd⟩
theorem cj.far{w:World}{b rb:Nat}{e:Ey}(h:cj w b rb e){p:Addr}(hb:b≠p.block)(hr:rb≠p.block)(u:Value):cj (w.setCell p u) b rb e:=⟨h.blk.far hb u,aH.far h.rd hr u⟩
theorem cj.step{w w':World}{b rb:Nat}{e:Ey}{s:ByteArray}{f:Nat}(h:cj w b rb e)(hr:Rd w' rb s f)(k:Keeps (fun k=>k=rb) w w'):cj w' b rb ⟨s,f,e.odd⟩∧Keeps (Two b rb) w w':=⟨⟨h.blk.keep k h.ne,hr⟩,k.mono fun _ _ h=>Or.inr h⟩
def iL(v:Value)(b rb:Nat)(e':Ey)(w:World)(r:Ending)(w':World):Prop:=r=.returned v∧cj w' b rb e'∧Keeps (Two b rb) w w'
theorem NF{w:World}{b rb:Nat}{e:Ey}(h:cj w b rb e)(hs:e.s.size≤4000000):Calls ah 102 #[.pointer (some ⟨rb,0,none⟩)] w (iL (.int .u8 ((bL 1 e).1:Int)) b rb (bL 1 e).2 w):=(Y7 h.rd hs).mono fun _ _⟨h1,h2,h3⟩=>⟨h1,h.step h2 h3⟩
theorem tZ{w:World}{b rb:Nat}{e:Ey}(h:cj w b rb e)(hs:e.s.size≤4000000):Calls ah 99 #[.pointer (some ⟨rb,0,none⟩)] w (iL (.int .u16 ((bL 2 e).1:Int)) b rb (bL 2 e).2 w):=(Fz h.rd hs).mono fun _ _⟨h1,h2,h3⟩=>⟨h1,h.step h2 h3⟩
theorem acY{w:World}{b rb:Nat}{e:Ey}(h:cj w b rb e)(hs:e.s.size≤4000000):Calls ah 132 #[.pointer (some ⟨rb,0,none⟩)] w (iL (.int .u32 ((bL 4 e).1:Int)) b rb (bL 4 e).2 w):=(TI h.rd hs).mono fun _ _⟨h1,h2,h3⟩=>⟨h1,h.step h2 h3⟩
theorem ua{w:World}{b rb:Nat}{e:Ey}(h:cj w b rb e)(hs:e.s.size≤4000000):Calls ah 45 #[.pointer (some ⟨rb,0,none⟩)] w (iL (.int .u64 ((bL 8 e).1:Int)) b rb (bL 8 e).2 w):=(TJ h.rd hs).mono fun _ _⟨h1,h2,h3⟩=>⟨h1,h.step h2 h3⟩
theorem aal{w:World}{b rb:Nat}{e:Ey}(h:cj w b rb e)(hs:e.s.size≤4000000):Calls ah 105 #[.pointer (some ⟨rb,0,none⟩),.int .i64 32] w (iL (.string (keyE 32 e).1) b rb (keyE 32 e).2 w):=(PQ h.rd 32 hs aJ).mono fun _ _⟨h1,h2,h3⟩=>⟨h1,h.step h2 h3⟩
theorem wM{w:World}{b rb:Nat}{e:Ey}(h:cj w b rb e)(hs:e.s.size≤4000000):Calls ah 53 #[.pointer (some ⟨rb,0,none⟩)] w (iL (.string (gg e).1) b rb (gg e).2 w):=(K0 h.rd hs).mono fun _ _⟨h1,h2,h3⟩=>⟨h1,h.step h2 h3⟩
theorem jZ{w:World}{b rb:Nat}{e:Ey}(h:cj w b rb e):Calls ah 96 #[.pointer (some ⟨b,0,none⟩)] w fun r w'=>r=.returned (.bool e.iS)∧w=w':=by
 have c0:=h.c0;have c1:=h.c1;have HF:=ae (xy h.rd);obtain⟨s,f,o⟩:=e;clear h;cases o with
 |true=>
  rw[show(⟨s,f,true⟩:Ey).iS=false from rfl];go_enter Tryz.func96,Tryz.ntmps96;go_wp2_with fail
  go_ret;exact⟨rfl,rfl⟩
 |false=>
  rw[show(⟨s,f,false⟩:Ey).iS=decide (f=0)from rfl];have hb:((f:Int)==0)=decide (f=0):=by
   rw[gW];simp
  generalize decide (f=0)=B at hb⊢;go_enter Tryz.func96,Tryz.ntmps96;go_wp2_with(go_at_call 130;refine HF.out.mono ?_;rintro r w1⟨rfl,rfl⟩)
  go_ret;exact⟨rfl,rfl⟩
theorem mU{w:World}{b rb:Nat}{e:Ey}(h:cj w b rb e)(hs:e.s.size≤4000000):Calls ah 49 #[.pointer (some ⟨b,0,none⟩)] w (iL (.string (keyE 32 e).1) b rb (keyE 32 e).2 w):=by
 have c0:=h.c0;have H:=ae (aal h hs);unfold iL at H⊢;clear h hs;go_enter Tryz.func49,Tryz.ntmps49;go_wp2_with(go_at_call 105;refine H.out.mono ?_;rintro r w1⟨rfl,h1,h2⟩)
 go_ret;exact⟨rfl,h1,h2⟩
theorem cj.put{W w:World}{b rb P:Nat}{e:Ey}(h:cj w b rb e)(hk:Keeps (Two b rb) W w)(hb:b<P)(hr:rb<P)(hP:W.heap.size≤P)(i:Nat)(u:Value):cj (w.setCell ⟨P,i,none⟩ u) b rb e∧Keeps (Two b rb) W (w.setCell ⟨P,i,none⟩ u):=⟨h.far (p:=⟨P,i,none⟩) (by simp;omega) (by simp;omega) u,hk.setCell (p:=⟨P,i,none⟩) (Or.inr hP) u⟩
theorem cj.lt{w:World}{b rb:Nat}{e:Ey}(h:cj w b rb e):b<w.heap.size∧rb<w.heap.size:=⟨h.blk.lt,h.rd.lt⟩
theorem agF{e:Ey}(h:(bL 1 e).1=4):td e=(⟨false,0,(bL 4 (bL 1 e).2).1⟩,(bL 4 (bL 1 e).2).2):=by
 simp[td,cV,jl,h]
theorem agG{e:Ey}(h:(bL 1 e).1=6):td e=(⟨true,(bL 8 (bL 1 e).2).1,(bL 8 (bL 8 (bL 1 e).2).2).1⟩,(bL 8 (bL 8 (bL 1 e).2).2).2):=by
 simp[td,cV,jl,h]
theorem agH{e:Ey}(h4:(bL 1 e).1≠4)(h6:(bL 1 e).1≠6):td e=(⟨false,0,0⟩,⟨(bL 1 e).2.s,(bL 1 e).2.f,true⟩):=by
 simp[td,cV,afk,h4,h6]
theorem yo{w:World}{b rb:Nat}{e:Ey}(h:cj w b rb e)(hs:e.s.size≤4000000):Calls ah 101 #[.pointer (some ⟨b,0,none⟩)] w (iL (.agg (td e).1.cells) b rb (td e).2 w):=by
 obtain⟨hbl,hrl⟩:=h.lt;have hb1:=boxed w (.cells #[.bool false,.int .u64 0,.int .u64 0] 52);obtain⟨H1,HP,HK⟩:=bz (h.below hb1) (aH.new w 52 #[.bool false,.int .u64 0,.int .u64 0]) (Keeps.of_below (S:=Two b rb) hb1 fun _ h _=>h);have hl1:=ef 1 e;have h8:=fun u(hu:cj u b rb e)=>NF hu hs
 have h32:=fun u(hu:cj u b rb (bL 1 e).2)=>acY hu (aw hl1 hs)
 have h64:=fun u(hu:cj u b rb (bL 1 e).2)=>ua hu (aw hl1 hs)
 have V3:=fun u(hu:cj u b rb (bL 8 (bL 1 e).2).2)=>ua hu (aw (ef 8 _) (aw hl1 hs))
 have b1:(bL 1 e).1<256:=lW e.s e.f 1;have b4:(bL 4 (bL 1 e).2).1<4294967296:=lW (bL 1 e).2.s (bL 1 e).2.f 4;unfold iL at h8 h32 h64 V3⊢;have tf:¬Two b rb w.heap.size:=by unfold Two;omega
 clear h hb1 hl1 hs;by_cases k4:(bL 1 e).1=4
 ·rw[agF k4];unfold Ad.cells;simp only;rw[k4]at h8;generalize(bL 1 e).2=e1 at*;generalize(bL 4 e1).1=lo at*;generalize(bL 4 e1).2=e2 at*;have hwl:IntKind.u64.wrap (lo:Int)=(lo:Int):=by rw[IntKind.wrap_u64];omega
  obtain⟨H8,H32⟩:=aL h8 h32;clear h8 h32 h64 V3 b1 k4 b4;go_enter Tryz.func101,Tryz.ntmps101;go_upto_region 1 with fail
  generalize w.alloc (.cells #[.bool false,.int .u64 0,.int .u64 0] 52)=w1 at H1 HP HK⊢;have hWP:=ax w.heap.size;generalize hP:w.heap.size=P at HP hbl hrl tf hWP⊢;have kN:=ae hP;clear hP;have a0:=H1.out.c0;go_wp2_with(first
   |(go_at_call 102;refine(H8.out _ H1.out).mono ?_;rintro r w2⟨rfl,g2,K2⟩;have a2:=g2.c0;obtain⟨H2,HP2,lQ⟩:=bz g2 (HP.out.keep K2 tf) (HK.out.trans K2);clear g2 K2)
   |(go_at_call 132;refine(H32.out _ H2.out).mono ?_;rintro r w3⟨rfl,g3,K3⟩;have H3:=ae g3;have hP3:=HP2.out.keep K3 tf;have c0:=hP3.cell 0;have c1:=hP3.cell 1;have c2:=hP3.cell 2;simp at c0 c1 c2;have fr:=(fun i=>hP3.frozen i);obtain⟨gy,ki⟩:=aL hP3 (lQ.out.trans K3);clear g3 K3 hP3))
  have s1:aH _ P 52 #[.bool false,.int .u64 0,.int .u64 0]:=gy.out.aM 0 (.bool false);have s2:aH _ P 52 #[.bool false,.int .u64 0,.int .u64 0]:=s1.aM 1 (.int .u64 0);have s3:aH _ P 52 #[.bool false,.int .u64 0,.int .u64 lo]:=s2.aM 2 (.int .u64 lo);have lw:w.heap.size≤P:=Nat.le_of_eq kN.out;obtain⟨p1,q1⟩:=H3.out.put ki.out hbl hrl lw 0 (.bool false);obtain⟨p2,q2⟩:=p1.put q1 hbl hrl lw 1 (.int .u64 0);obtain⟨p3,q3⟩:=p2.put q2 hbl hrl lw 2 (.int .u64 lo);exact bodyPost_ret (fS (x:=2) rfl rfl (pU s3)) rfl ⟨rfl,p3,q3⟩
 ·by_cases k6:(bL 1 e).1=6
  ·rw[agG k6];unfold Ad.cells;simp only;rw[k6]at h8;generalize(bL 1 e).2=e1 at*;generalize(bL 8 e1).1=hi at*;generalize(bL 8 e1).2=e2 at*;generalize(bL 8 e2).1=lo at*;generalize(bL 8 e2).2=e3 at*;obtain⟨H8,H64,agI⟩:=bz h8 h64 V3;clear h8 h32 h64 V3 b1 k6 b4 k4;go_enter Tryz.func101,Tryz.ntmps101;go_upto_region 1 with fail
   generalize w.alloc (.cells #[.bool false,.int .u64 0,.int .u64 0] 52)=w1 at H1 HP HK⊢;have hWP:=ax w.heap.size;generalize hP:w.heap.size=P at HP hbl hrl tf hWP⊢;have kN:=ae hP;clear hP;have a0:=H1.out.c0;go_wp2_with(go_at_call 102;refine(H8.out _ H1.out).mono ?_;rintro r w2⟨rfl,g2,K2⟩;have a2:=g2.c0;have H2:=ae g2.drew;have HP2:=ae (HP.out.keep K2 tf).drew;have lQ:=ae (HK.out.trans K2).drew;clear g2 K2 a0)
   go_region_held3 (fun w'=>w'.cell? ⟨b,0,none⟩=some (.pointer (some ⟨rb,0,none⟩)))
    (first|exact a2|exact a3|exact a4|(rw[cell_far (by simp;omega),cell_far (by simp;omega),cell_far (by simp;omega)];exact a4))
    (first
      |(go_at_call 45;(with_reducible refine(H64.out _ H2.out).mono ?_);rintro r w3⟨rfl,g3,K3⟩;have a3:=g3.c0;obtain⟨H3,gy,ki⟩:=bz g3 (HP2.out.keep K3 tf) (lQ.out.trans K3);clear g3 K3)
      |(go_at_call 45;(with_reducible refine(agI.out _ H3.out).mono ?_);rintro r w4⟨rfl,g4,K4⟩;have a4:=g4.c0;have H4:=ae g4;have nM:=gy.out.keep K4 tf;have c0:=nM.cell 0;have c1:=nM.cell 1;have c2:=nM.cell 2;simp at c0 c1 c2;have fr:=(fun i=>nM.frozen i);obtain⟨tW,AZ⟩:=aL nM (ki.out.trans K4);clear g4 K4 nM))
   go_wp2_with fail
   have s1:aH _ P 52 #[.bool true,.int .u64 0,.int .u64 0]:=tW.out.aM 0 (.bool true);have s2:aH _ P 52 #[.bool true,.int .u64 hi,.int .u64 0]:=s1.aM 1 (.int .u64 hi);have s3:aH _ P 52 #[.bool true,.int .u64 hi,.int .u64 lo]:=s2.aM 2 (.int .u64 lo);have lw:w.heap.size≤P:=Nat.le_of_eq kN.out;obtain⟨p1,q1⟩:=H4.out.put AZ.out hbl hrl lw 0 (.bool true);obtain⟨p2,q2⟩:=p1.put q1 hbl hrl lw 1 (.int .u64 hi);obtain⟨p3,q3⟩:=p2.put q2 hbl hrl lw 2 (.int .u64 lo);exact bodyPost_ret (fS (x:=2) rfl rfl (pU s3)) rfl ⟨rfl,p3,q3⟩
  ·rw[agH k4 k6];unfold Ad.cells;simp only;generalize(bL 1 e).1=k at*;generalize(bL 1 e).2=e1 at*;have x4:((k:Int)==4)=false:=by simp;omega
   have x6:((k:Int)==6)=false:=by simp;omega
   have H8:=ae h8;clear h8 h32 h64 V3 b1 k6 b4 k4;go_enter Tryz.func101,Tryz.ntmps101;go_upto_region 1 with fail
   generalize w.alloc (.cells #[.bool false,.int .u64 0,.int .u64 0] 52)=w1 at H1 HP HK⊢;have hWP:=ax w.heap.size;generalize hP:w.heap.size=P at HP hbl hrl tf hWP⊢;have kN:=ae hP;clear hP;have a0:=H1.out.c0;go_wp2_with(go_at_call 102;refine(H8.out _ H1.out).mono ?_;rintro r w2⟨rfl,g2,K2⟩;have a2:=g2.c1;have f2:=g2.blk.frozen 1;have hP2:=HP.out.keep K2 tf;have c0:=hP2.cell 0;have c1:=hP2.cell 1;have c2:=hP2.cell 2;simp at c0 c1 c2;have fr:=(fun i=>hP2.frozen i);obtain⟨H2,HP2,lQ⟩:=bz g2 hP2 (HK.out.trans K2);clear g2 K2 a0 hP2)
   have hbP:b≠P:=by omega
   have hE:cj (w2.setCell ⟨b,1,none⟩ (.bool true)) b rb ⟨e1.s,e1.f,true⟩:=⟨H2.out.blk.aM 1 (.bool true),aH.far H2.out.rd (p:=⟨b,1,none⟩) H2.out.ne.symm _⟩;have hK:=lQ.out.setCell (p:=⟨b,1,none⟩) (Or.inl (Or.inl rfl)) (.bool true);have s0:aH (w2.setCell ⟨b,1,none⟩ (.bool true)) P 52 #[.bool false,.int .u64 0,.int .u64 0]:=HP2.out.far (p:=⟨b,1,none⟩) hbP.symm (.bool true);have s1:aH _ P 52 #[.bool false,.int .u64 0,.int .u64 0]:=s0.aM 0 (.bool false);have s2:aH _ P 52 #[.bool false,.int .u64 0,.int .u64 0]:=s1.aM 1 (.int .u64 0);have s3:aH _ P 52 #[.bool false,.int .u64 0,.int .u64 0]:=s2.aM 2 (.int .u64 0);have lw:w.heap.size≤P:=Nat.le_of_eq kN.out;obtain⟨p1,q1⟩:=hE.put hK hbl hrl lw 0 (.bool false);obtain⟨p2,q2⟩:=p1.put q1 hbl hrl lw 1 (.int .u64 0);obtain⟨p3,q3⟩:=p2.put q2 hbl hrl lw 2 (.int .u64 0);exact bodyPost_ret (fS (x:=2) rfl rfl (pU s3)) rfl ⟨rfl,p3,q3⟩
theorem aam{w:World}{g:Nat}{v0 v1 v2 v3:Value}(h:aH w g 55 #[v0,v1,v2,v3]):(loadVar 55 ⟨g,0,none⟩).run ah w=.ok (.agg #[v0,v1,v2,v3]) w:=by
 have c0:=h.cell 0;have c1:=h.cell 1;have c2:=h.cell 2;have c3:=h.cell 3;simp at c0 c1 c2 c3;simp[loadVar,go_sem,c0,c1,c2,c3]
theorem aan{w:World}{g:Nat}{v0 v1 v2 v3 v4 v5:Value}(h:aH w g 57 #[v0,v1,v2,v3,v4,v5]):(loadVar 57 ⟨g,0,none⟩).run ah w=.ok (.agg #[v0,v1,v2,v3,v4,v5]) w:=by
 have c0:=h.cell 0;have c1:=h.cell 1;have c2:=h.cell 2;have c3:=h.cell 3;have c4:=h.cell 4;have c5:=h.cell 5;simp at c0 c1 c2 c3 c4 c5;simp[loadVar,go_sem,c0,c1,c2,c3,c4,c5]
def afl(e:En):Array Value:= #[.bool e.1.v6,.int .u64 (e.1.hi:Int),.int .u64 (e.1.lo:Int),.int .u16 (e.2:Int)]
theorem acZ(e:Ey):EN e=(((td e).1,(bL 2 (td e).2).1),(bL 2 (td e).2).2):=rfl
theorem Q6{w:World}{b rb:Nat}{e:Ey}(h:cj w b rb e)(hs:e.s.size≤4000000):Calls ah 104 #[.pointer (some ⟨b,0,none⟩)] w (iL (.agg (afl (EN e).1)) b rb (EN e).2 w):=by
 obtain⟨hbl,hrl⟩:=h.lt;have hb1:=boxed w (.cells #[.bool false,.int .u64 0,.int .u64 0,.int .u16 0] 55);obtain⟨H1,HP,HK⟩:=bz (h.below hb1) (aH.new w 55 #[.bool false,.int .u64 0,.int .u64 0,.int .u16 0]) (Keeps.of_below (S:=Two b rb) hb1 fun _ h _=>h);have hl1:=yn e;have had:=fun u(hu:cj u b rb e)=>yo hu hs
 have h16:=fun u(hu:cj u b rb (td e).2)=>tZ hu (aw hl1 hs)
 have tf:¬Two b rb w.heap.size:=by unfold Two;omega
 rw[acZ];unfold afl;unfold iL at had h16⊢;simp only;clear h hb1 hl1 hs;generalize(bL 2 (td e).2).1=po at*;generalize(bL 2 (td e).2).2=e2 at*;generalize(td e).2=e1 at*;generalize(td e).1=a at*;obtain⟨v,hi,lo⟩:=a;unfold Ad.cells at had;simp only at had⊢;obtain⟨HAd,IQ⟩:=aL had h16;clear had h16;go_enter Tryz.func104,Tryz.ntmps104;go_upto_region 1 with fail
 generalize w.alloc (.cells #[.bool false,.int .u64 0,.int .u64 0,.int .u16 0] 55)=w1 at H1 HP HK⊢;have hWP:=ax w.heap.size;generalize hP:w.heap.size=P at HP hbl hrl tf hWP⊢;have kN:=ae hP;clear hP;have a1:=H1.out.c0;obtain⟨H1d,og,IC⟩:=bz H1.out.drew HP.out.drew HK.out.drew;clear H1 HP HK;go_region_held3 (fun w'=>w'.cell? ⟨b,0,none⟩=some (.pointer (some ⟨rb,0,none⟩)))
  (first|exact a1|exact a2|exact a3|(rw[cell_far (by simp;omega),cell_far (by simp;omega),cell_far (by simp;omega),cell_far (by simp;omega)];exact a3))
  (first
    |(go_at_call 101;refine(HAd.out _ H1d.out).mono ?_;rintro r w2⟨rfl,g2,K2⟩;have a2:=g2.c0;obtain⟨H2,HP2,lQ⟩:=bz g2 (og.out.keep K2 tf) (IC.out.trans K2);clear g2 K2)
    |(go_at_call 99;refine(IQ.out _ H2.out).mono ?_;rintro r w3⟨rfl,g3,K3⟩;have a3:=g3.c0;have H3:=ae g3;have hP3:=HP2.out.keep K3 tf;have c0:=hP3.cell 0;have c1:=hP3.cell 1;have c2:=hP3.cell 2;have c3:=hP3.cell 3;simp at c0 c1 c2 c3;have fr:=(fun i=>hP3.frozen i);obtain⟨gy,ki⟩:=aL hP3 (lQ.out.trans K3);clear g3 K3 hP3))
 go_wp2_with fail
 have s1:aH _ P 55 #[.bool v,.int .u64 0,.int .u64 0,.int .u16 0]:=gy.out.aM 0 (.bool v);have s2:aH _ P 55 #[.bool v,.int .u64 hi,.int .u64 0,.int .u16 0]:=s1.aM 1 (.int .u64 hi);have s3:aH _ P 55 #[.bool v,.int .u64 hi,.int .u64 lo,.int .u16 0]:=s2.aM 2 (.int .u64 lo);have s4:aH _ P 55 #[.bool v,.int .u64 hi,.int .u64 lo,.int .u16 po]:=s3.aM 3 (.int .u16 po);have lw:w.heap.size≤P:=Nat.le_of_eq kN.out;obtain⟨p1,q1⟩:=H3.out.put ki.out hbl hrl lw 0 (.bool v);obtain⟨p2,q2⟩:=p1.put q1 hbl hrl lw 1 (.int .u64 hi);obtain⟨p3,q3⟩:=p2.put q2 hbl hrl lw 2 (.int .u64 lo);obtain⟨p4,q4⟩:=p3.put q3 hbl hrl lw 3 (.int .u16 po);exact bodyPost_ret (fS (x:=2) rfl rfl (aam s4)) rfl ⟨rfl,p4,q4⟩
theorem V4(e:Ey):me e=(decide ((bL 1 e).1=1),⟨(bL 1 e).2.s,(bL 1 e).2.f,(bL 1 e).2.odd||decide (1<(bL 1 e).1)⟩):=rfl
theorem yp{w:World}{b rb:Nat}{e:Ey}(h:cj w b rb e)(hs:e.s.size≤4000000):Calls ah 50 #[.pointer (some ⟨b,0,none⟩)] w (iL (.bool (me e).1) b rb (me e).2 w):=by
 have a0:=h.c0;have h8:=NF h hs;rw[V4];simp only;unfold iL at h8⊢;clear h hs;generalize(bL 1 e).1=k at*;generalize(bL 1 e).2=e1 at*;obtain⟨s1,f1,o1⟩:=e1;simp only at*;have hk1:((k:Int)==1)=decide (k=1):=by rw[gW];simp;omega
 generalize decide (k=1)=K1 at*;have H8:=ae h8;clear h8;cases o1 with
 |true=>
  rw[Bool.true_or];go_enter Tryz.func50,Tryz.ntmps50;go_wp2_with(go_at_call 102;refine H8.out.mono ?_;rintro r w2⟨rfl,g2,K2⟩;have a2:=g2.c1;have f2:=g2.blk.frozen 1;obtain⟨HE,HK⟩:=aL (show cj (w2.setCell ⟨b,1,none⟩ (.bool true)) b rb ⟨s1,f1,true⟩from⟨g2.blk.aM 1 (.bool true),aH.far g2.rd (p:=⟨b,1,none⟩) g2.ne.symm _⟩) (K2.setCell (p:=⟨b,1,none⟩) (Or.inl (Or.inl rfl)) (.bool true));clear g2 K2)
  go_ret;exact⟨rfl,HE.out,HK.out⟩
 |false=>
  rw[Bool.false_or];generalize hK2:decide (1<k)=G;have hk2:decide ((1:Int)<(k:Int))=G:=by rw[←hK2];apply decide_eq_decide.2;omega
  clear hK2;go_enter Tryz.func50,Tryz.ntmps50;go_wp2_with(go_at_call 102;refine H8.out.mono ?_;rintro r w2⟨rfl,g2,K2⟩;have a2:=g2.c1;have f2:=g2.blk.frozen 1;obtain⟨HE,HK⟩:=aL (show cj (w2.setCell ⟨b,1,none⟩ (.bool G)) b rb ⟨s1,f1,G⟩from⟨g2.blk.aM 1 (.bool G),aH.far g2.rd (p:=⟨b,1,none⟩) g2.ne.symm _⟩) (K2.setCell (p:=⟨b,1,none⟩) (Or.inl (Or.inl rfl)) (.bool G));clear g2 K2)
  go_ret;exact⟨rfl,HE.out,HK.out⟩
theorem zO(l:List Ad)(x:Ad):dy (l++[x])=dy l++x.cells.toList:=by simp[dy]
theorem K5(l:List En)(x:En):l9 (l++[x])=l9 l++cF x:=by simp[l9]
theorem La(l:List Ry)(x:Ry):dX (l++[x])=dX l++bH x:=by simp[dX]
theorem lB(l:List bS)(x:bS):cY (l++[x])=cY l++x.vals:=by simp[cY]
structure dm(w:World)(base:Nat)(X:bS):Prop where
 tags:w.ownsRow base 9 1 X.tv X.p.tags.length (strCells X.p.tags)
 aQ:w.ownsRow base 52 3 X.av X.p.aQ.length (dy X.p.aQ)
 ends:w.ownsRow base 55 4 X.ev X.p.ends.length (l9 X.p.ends)
theorem dm.keep{S:Nat→Prop}{w w':World}{L:List TypeId}{base:Nat}{X:bS}(h:dm w base X)(hk:Keeps S w w')(ho:Off S w L)(h1:9∉L)(h2:52∉L)(h3:55∉L):dm w' base X:=⟨bn h.tags hk ho h1,bn h.aQ hk ho h2,bn h.ends hk ho h3⟩
theorem dm.low{w w':World}{base:Nat}{X:bS}(h:dm w base X)(hb:aW w w'):dm w' base X:=⟨own_below h.tags hb,own_below h.aQ hb,own_below h.ends hb⟩
theorem cM{w w':World}{base size n:Nat}{t:TypeId}{v:Value}{xs:List Value}{S:Nat→Prop}(h:w.ownsRow base t size v n xs)(hk:Keeps S w w')(hS:∀k,S k→k<base):w'.ownsRow base t size v n xs:=ko h hk fun g hg hs=>by have:=(h.lt g hg).1;have:=hS g hs;omega
theorem dm.above{S:Nat→Prop}{w w':World}{base:Nat}{X:bS}(h:dm w base X)(hk:Keeps S w w')(hS:∀k,S k→k<base):dm w' base X:=⟨cM h.tags hk hS,cM h.aQ hk hS,cM h.ends hk hS⟩
theorem dm.mono{w:World}{base b':Nat}{X:bS}(h:dm w base X)(hb:b'≤base):dm w b' X:=⟨h.tags.mono hb,h.aQ.mono hb,h.ends.mono hb⟩
theorem dm.rd{w:World}{base:Nat}{X:bS}(h:dm w base X):fc w X:=⟨a8.di h.tags,a8.di h.aQ,a8.di h.ends⟩
def cA(w:World)(base:Nat)(v:Value)(l:List Pr):Prop:=∃xs:List bS,xs.map (·.p)=l∧w.ownsRow base 47 8 v xs.length (cY xs)∧∀X∈xs,dm w base X
theorem cA.rd{w:World}{base:Nat}{v:Value}{l:List Pr}(h:cA w base v l):df w v l:=by
 obtain⟨xs,h1,h2,h3⟩:=h;exact⟨xs,h1,a8.di h2,fun X hX=>(h3 X hX).rd⟩
def lC(t:TypeId)(size n:Nat)(cs:List Value)(b rb:Nat)(e':Ey)(w:World)(r:Ending)(w':World):Prop:=(∃A c,r=.returned (.slice A n c)∧w'.ownsRow w.heap.size t size (.slice A n c) n cs)∧cj w' b rb e'∧Keeps (Two b rb) w w'
def DK(l:List Pr)(b rb:Nat)(e':Ey)(w:World)(r:Ending)(w':World):Prop:=(∃A c,r=.returned (.slice A l.length c)∧cA w' w.heap.size (.slice A l.length c) l)∧cj w' b rb e'∧Keeps (Two b rb) w w'
def NH(p:Pr)(b rb:Nat)(e':Ey)(w:World)(r:Ending)(w':World):Prop:=(∃X:bS,r=.returned (.agg X.vals.toArray)∧X.p=p∧dm w' w.heap.size X)∧cj w' b rb e'∧Keeps (Two b rb) w w'
theorem pH{α:Type}(p:Rg α)(e:Ey):cn p e=eu p (bL 2 e).1 (bL 2 e).2:=rfl
theorem mV{α:Type}{p:Rg α}{R:List α×Ey}{xs:List α}{e:Ey}(h:R=(xs++(eu p 0 e).1,(eu p 0 e).2)):R=(xs,e):=by rw[h];simp[eu,jl]
theorem pI{α:Type}{p:Rg α}{R:List α×Ey}{xs:List α}{e:Ey}{k:Nat}(hf:e.iS=false)(h:R=(xs++(eu p k e).1,(eu p k e).2)):R=(xs,e):=by rw[h,V2 p hf];simp
theorem mW{α:Type}{p:Rg α}{R:List α×Ey}{xs:List α}{e:Ey}{k:Nat}(hk:0<k)(hf:e.iS=true)(h:R=(xs++(eu p k e).1,(eu p k e).2)):R=(xs++[(p e).1]++(eu p (k-1) (p e).2).1,(eu p (k-1) (p e).2).2):=by
 obtain⟨j,rfl⟩:∃j,k=j+1:=⟨k-1,by omega⟩;rw[h,Q5 p hf];simp
theorem DL:(ah.info? 9).map (fun i=>(i.zero,i.size,i.bytes))=some (some aG,1,16):=by kernel_rfl
theorem Bf{w:World}{b rb pb:Nat}{e:Ey}(h:cj w b rb e)(hs:e.s.size≤4000000)(p:Rg ByteArray)(hp:vj p)(f:Nat)(eg:∀args w,(callFunc f args).run ah w=.ok (.enter f args) w)(hf:∀W u,cj W b rb u→u.s.size≤4000000→Calls ah f #[.pointer (some ⟨pb,0,none⟩)] W (iL (.string (p u).1) b rb (p u).2 W)):Calls ah 48 #[.pointer (some ⟨b,0,none⟩),.func (.func f) #[.pointer (some ⟨pb,0,none⟩)] #[]] w (lC 9 1 (cn p e).1.length (strCells (cn p e).1) b rb (cn p e).2 w):=by
 obtain⟨hbl,hrl⟩:=h.lt;obtain⟨i0,lD,hz0,hz1,hz2⟩:=info_parts DL;have c0:=h.c0;have h16:=tZ h hs;have hk1:(bL 2 e).1<65536:=lW e.s e.f 2;have hl1:=aw (ef 2 e) hs;unfold iL at hf;unfold lC;unfold iL at h16;obtain⟨R,hR⟩:=bw (cn p e);rw[←hR];rw[pH]at hR;generalize(bL 2 e).1=N at*;generalize(bL 2 e).2=e1 at*;obtain⟨HR,IQ,HF,Iy⟩:=cU hR h16 hf hl1;have qw:ag (∀k,Two b rb k→k<w.heap.size):=ae (by rintro k(rfl|rfl);exact hbl;exact hrl);clear hR h16 hf h hs hl1 hbl hrl;go_enter Tryz.func48,Tryz.ntmps48;go_wp2_with(go_at_call 99;refine IQ.out.mono ?_;rintro r w1⟨rfl,g1,k1⟩;obtain⟨Bg,qI⟩:=aL g1 k1;clear g1 k1)
 clear c0;go_loopw [5,6] (fun v5 v6 wr=>∃(k:Nat)(u:Ey)(A:Option Addr)(c:Nat)(xs:List ByteArray),k<65536∧v6=.int .u16 k∧v5=.slice A xs.length c∧ag (wr.ownsRow w.heap.size 9 1 (.slice A xs.length c) xs.length (strCells xs))∧ag (cj wr b rb u)∧ag (u.s.size≤4000000)∧ag (R=(xs++(eu p k u).1,(eu p k u).2))∧ag (xs.length+k<65536)∧ag (Keeps (Two b rb) w wr)) (fun _ v6 _=>(intOf v6).toNat)
 case atStart=>exact⟨N,e1,none,0,[],hk1,rfl,rfl,ae (bh _ _ _ _),Bg,Iy,ae HR.out,ae (by simpa using hk1),qI⟩
 case round=>
  obtain⟨k,u,A,c,xs,hk,rfl,rfl,how,wN,sB,hrel,hlen,hkp⟩:=hrel;by_cases h0:k=0
  ·subst h0;have hdone:=mV hrel.out;have HD:=ae hdone;clear hrel hlen hdone sB;go_wp2_with fail
   go_ret;exact⟨⟨A,c,by rw[HD.out];rfl,by rw[HD.out];exact how.out⟩,by rw[HD.out];exact wN.out,hkp.out⟩
  ·have hpos:0<k:=by omega
   have eI:=jZ wN.out;cases hB:u.iS with
   |false=>
    have HD:=ae (pI hB hrel.out);rw[hB]at eI;have jI:=ae eI;clear hrel hlen eI sB hB h0;go_wp2_with(go_at_call 96;refine jI.out.mono ?_;rintro r w2⟨rfl,rfl⟩)
    go_ret;exact⟨⟨A,c,by rw[HD.out];rfl,by rw[HD.out];exact how.out⟩,by rw[HD.out];exact wN.out,hkp.out⟩
   |true=>
    have HS:=ae (mW hpos hB hrel.out);rw[hB]at eI;have jI:=ae eI;have hread:=HF.out wr u wN.out sB.out;have NI:=ae (aw (hp u) sB.out);generalize hx:(p u).1=x at hread HS;generalize(p u).2=u2 at hread HS NI;have mX:=ae hread;have hw:IntKind.u16.wrap ((k:Int)-1)=((k-1:Nat):Int):=by rw[IntKind.wrap_u16];omega
    have hlr:=hlen.out;have hxl:xs.length<65536:=by omega
    have HLen:=ae hlr;clear hrel hlen eI sB hB h0 hread hx hlr;go_wp2_with(first
     |(go_at_call 96;refine jI.out.mono ?_;rintro r w2⟨rfl,rfl⟩)
     |(go_at_fn f;(with_reducible refine mX.out.mono ?_);rintro r w3⟨rfl,g3,k3⟩;obtain⟨IU,ki,oL⟩:=bz g3 (hkp.out.trans k3) (cM how.out k3 qw.out);clear g3 k3)
     |(at_builtin;refine wpList_append_own _ rfl _ _ 29 rfl w.heap.size 9 i0 aG 1 16 Tryz.underlying29 lD hz0 hz1 hz2 rfl aJ _ xs.length _ rfl (oL.out.alloc _) ⟨w3.heap.size,0,none⟩ 1 1 [.string x] rfl rfl (cS w3 [.string x] 9) (by intro q hq;simp at hq;subst hq;rfl) (by unfold maxLen;omega) aR (by have:=ki.out.size;simp;omega) ?_;intro v' w4 pW hg4 hn4;obtain⟨A4,c4,rfl⟩:=aX pW;obtain⟨Bh,Bi⟩:=aL pW hg4;clear pW hg4 hn4))
    go_roundw
    case rel=>
     have hb3:=boxed w3 (.cells ([.string x]:List Value).toArray 9);have hkr:=Keeps.row Bi.out;have hnr:∀q,Two b rb q→¬((dq A xs.length c).ownBlock=some q):=fun q hq hqe=>by have:=(oL.out.lt q hqe).1;have:=qw.out q hq;omega
     refine⟨k-1,u2,A4,c4,xs++[x],by omega,rfl,by rw[aj];rfl,ae (by rw[mD,aj];exact Bh.out),ae ((IU.out.below hb3).keep hkr (hnr b (Or.inl rfl)) (hnr rb (Or.inr rfl))),NI,ae (by exact HS.out),ae (by have h5:=HLen.out;rw[aj,dn];omega),ae (Keeps.grown (ki.out.alloc _) Bi.out fun q hq=>Or.inr (oL.out.lt q hq).1)⟩
    case measure=>simp[intOf];omega
theorem GZ:(ah.info? 52).map (fun i=>(i.zero,i.size,i.bytes))=some (some (.agg #[.bool false,.int .u64 0,.int .u64 0]),3,24):=by kernel_rfl
theorem Lc{w:World}{b rb pb:Nat}{e:Ey}(h:cj w b rb e)(hs:e.s.size≤4000000)(p:Rg Ad)(hp:vj p)(f:Nat)(eg:∀args w,(callFunc f args).run ah w=.ok (.enter f args) w)(hf:∀W u,cj W b rb u→u.s.size≤4000000→Calls ah f #[.pointer (some ⟨pb,0,none⟩)] W (iL (.agg (p u).1.cells) b rb (p u).2 W)):Calls ah 100 #[.pointer (some ⟨b,0,none⟩),.func (.func f) #[.pointer (some ⟨pb,0,none⟩)] #[]] w (lC 52 3 (cn p e).1.length (dy (cn p e).1) b rb (cn p e).2 w):=by
 obtain⟨hbl,hrl⟩:=h.lt;obtain⟨i0,lD,hz0,hz1,hz2⟩:=info_parts GZ;have c0:=h.c0;have h16:=tZ h hs;have hk1:(bL 2 e).1<65536:=lW e.s e.f 2;have hl1:=aw (ef 2 e) hs;unfold iL at hf;unfold lC;unfold iL at h16;obtain⟨R,hR⟩:=bw (cn p e);rw[←hR];rw[pH]at hR;generalize(bL 2 e).1=N at*;generalize(bL 2 e).2=e1 at*;obtain⟨HR,IQ,HF,Iy⟩:=cU hR h16 hf hl1;have qw:ag (∀k,Two b rb k→k<w.heap.size):=ae (by rintro k(rfl|rfl);exact hbl;exact hrl);clear hR h16 hf h hs hl1 hbl hrl;go_enter Tryz.func100,Tryz.ntmps100;go_wp2_with(go_at_call 99;refine IQ.out.mono ?_;rintro r w1⟨rfl,g1,k1⟩;obtain⟨Bg,qI⟩:=aL g1 k1;clear g1 k1)
 clear c0;go_loopw [5,6] (fun v5 v6 wr=>∃(k:Nat)(u:Ey)(A:Option Addr)(c:Nat)(xs:List Ad),k<65536∧v6=.int .u16 k∧v5=.slice A xs.length c∧ag (wr.ownsRow w.heap.size 52 3 (.slice A xs.length c) xs.length (dy xs))∧ag (cj wr b rb u)∧ag (u.s.size≤4000000)∧ag (R=(xs++(eu p k u).1,(eu p k u).2))∧ag (xs.length+k<65536)∧ag (Keeps (Two b rb) w wr)) (fun _ v6 _=>(intOf v6).toNat)
 case atStart=>exact⟨N,e1,none,0,[],hk1,rfl,rfl,ae (bh _ _ _ _),Bg,Iy,ae HR.out,ae (by simpa using hk1),qI⟩
 case round=>
  obtain⟨k,u,A,c,xs,hk,rfl,rfl,how,wN,sB,hrel,hlen,hkp⟩:=hrel;by_cases h0:k=0
  ·subst h0;have hdone:=mV hrel.out;have HD:=ae hdone;clear hrel hlen hdone sB;go_wp2_with fail
   go_ret;exact⟨⟨A,c,by rw[HD.out];rfl,by rw[HD.out];exact how.out⟩,by rw[HD.out];exact wN.out,hkp.out⟩
  ·have hpos:0<k:=by omega
   have eI:=jZ wN.out;cases hB:u.iS with
   |false=>
    have HD:=ae (pI hB hrel.out);rw[hB]at eI;have jI:=ae eI;clear hrel hlen eI sB hB h0;go_wp2_with(go_at_call 96;refine jI.out.mono ?_;rintro r w2⟨rfl,rfl⟩)
    go_ret;exact⟨⟨A,c,by rw[HD.out];rfl,by rw[HD.out];exact how.out⟩,by rw[HD.out];exact wN.out,hkp.out⟩
   |true=>
    have HS:=ae (mW hpos hB hrel.out);rw[hB]at eI;have jI:=ae eI;have hread:=HF.out wr u wN.out sB.out;have NI:=ae (aw (hp u) sB.out);generalize hx:(p u).1=x at hread HS;generalize(p u).2=u2 at hread HS NI;obtain⟨v,hi,lo⟩:=x;unfold Ad.cells at hread;simp only at hread;have mX:=ae hread;have hw:IntKind.u16.wrap ((k:Int)-1)=((k-1:Nat):Int):=by rw[IntKind.wrap_u16];omega
    have hlr:=hlen.out;have hxl:xs.length<65536:=by omega
    have HLen:=ae hlr;clear hrel hlen eI sB hB h0 hread hx hlr;go_wp2_with(first
     |(go_at_call 96;refine jI.out.mono ?_;rintro r w2⟨rfl,rfl⟩)
     |(go_at_fn f;(with_reducible refine mX.out.mono ?_);rintro r w3⟨rfl,g3,k3⟩;obtain⟨IU,ki,oL⟩:=bz g3 (hkp.out.trans k3) (cM how.out k3 qw.out);clear g3 k3)
     |(at_builtin;refine wpList_append_own _ rfl _ _ 44 rfl w.heap.size 52 i0 (.agg #[.bool false,.int .u64 0,.int .u64 0]) 3 24 Tryz.underlying44 lD hz0 hz1 hz2 rfl aJ _ xs.length _ rfl (oL.out.alloc _) ⟨w3.heap.size,0,none⟩ 1 1 [.bool v,.int .u64 hi,.int .u64 lo] rfl rfl (cS w3 [.bool v,.int .u64 hi,.int .u64 lo] 52) (by intro q hq;simp at hq;rcases hq with rfl|rfl|rfl<;>rfl) (by unfold maxLen;omega) aR (by have:=ki.out.size;simp;omega) ?_;intro v' w4 pW hg4 hn4;obtain⟨A4,c4,rfl⟩:=aX pW;obtain⟨Bh,Bi⟩:=aL pW hg4;clear pW hg4 hn4))
    go_roundw
    case rel=>
     have hb3:=boxed w3 (.cells ([.bool v,.int .u64 hi,.int .u64 lo]:List Value).toArray 52);have hkr:=Keeps.row Bi.out;have hnr:∀q,Two b rb q→¬((dq A xs.length c).ownBlock=some q):=fun q hq hqe=>by have:=(oL.out.lt q hqe).1;have:=qw.out q hq;omega
     refine⟨k-1,u2,A4,c4,xs++[⟨v,hi,lo⟩],by omega,rfl,by rw[aj];rfl,ae (by rw[zO,aj];exact Bh.out),ae ((IU.out.below hb3).keep hkr (hnr b (Or.inl rfl)) (hnr rb (Or.inr rfl))),NI,ae (by exact HS.out),ae (by have h5:=HLen.out;rw[aj,dn];omega),ae (Keeps.grown (ki.out.alloc _) Bi.out fun q hq=>Or.inr (oL.out.lt q hq).1)⟩
    case measure=>simp[intOf];omega
theorem G0:(ah.info? 55).map (fun i=>(i.zero,i.size,i.bytes))=some (some (.agg #[.bool false,.int .u64 0,.int .u64 0,.int .u16 0]),4,32):=by kernel_rfl
theorem Ld{w:World}{b rb pb:Nat}{e:Ey}(h:cj w b rb e)(hs:e.s.size≤4000000)(p:Rg En)(hp:vj p)(f:Nat)(eg:∀args w,(callFunc f args).run ah w=.ok (.enter f args) w)(hf:∀W u,cj W b rb u→u.s.size≤4000000→Calls ah f #[.pointer (some ⟨pb,0,none⟩)] W (iL (.agg (cF (p u).1).toArray) b rb (p u).2 W)):Calls ah 103 #[.pointer (some ⟨b,0,none⟩),.func (.func f) #[.pointer (some ⟨pb,0,none⟩)] #[]] w (lC 55 4 (cn p e).1.length (l9 (cn p e).1) b rb (cn p e).2 w):=by
 obtain⟨hbl,hrl⟩:=h.lt;obtain⟨i0,lD,hz0,hz1,hz2⟩:=info_parts G0;have c0:=h.c0;have h16:=tZ h hs;have hk1:(bL 2 e).1<65536:=lW e.s e.f 2;have hl1:=aw (ef 2 e) hs;unfold iL at hf;unfold lC;unfold iL at h16;obtain⟨R,hR⟩:=bw (cn p e);rw[←hR];rw[pH]at hR;generalize(bL 2 e).1=N at*;generalize(bL 2 e).2=e1 at*;obtain⟨HR,IQ,HF,Iy⟩:=cU hR h16 hf hl1;have qw:ag (∀k,Two b rb k→k<w.heap.size):=ae (by rintro k(rfl|rfl);exact hbl;exact hrl);clear hR h16 hf h hs hl1 hbl hrl;go_enter Tryz.func103,Tryz.ntmps103;go_wp2_with(go_at_call 99;refine IQ.out.mono ?_;rintro r w1⟨rfl,g1,k1⟩;obtain⟨Bg,qI⟩:=aL g1 k1;clear g1 k1)
 clear c0;go_loopw [5,6] (fun v5 v6 wr=>∃(k:Nat)(u:Ey)(A:Option Addr)(c:Nat)(xs:List En),k<65536∧v6=.int .u16 k∧v5=.slice A xs.length c∧ag (wr.ownsRow w.heap.size 55 4 (.slice A xs.length c) xs.length (l9 xs))∧ag (cj wr b rb u)∧ag (u.s.size≤4000000)∧ag (R=(xs++(eu p k u).1,(eu p k u).2))∧ag (xs.length+k<65536)∧ag (Keeps (Two b rb) w wr)) (fun _ v6 _=>(intOf v6).toNat)
 case atStart=>exact⟨N,e1,none,0,[],hk1,rfl,rfl,ae (bh _ _ _ _),Bg,Iy,ae HR.out,ae (by simpa using hk1),qI⟩
 case round=>
  obtain⟨k,u,A,c,xs,hk,rfl,rfl,how,wN,sB,hrel,hlen,hkp⟩:=hrel;by_cases h0:k=0
  ·subst h0;have hdone:=mV hrel.out;have HD:=ae hdone;clear hrel hlen hdone sB;go_wp2_with fail
   go_ret;exact⟨⟨A,c,by rw[HD.out];rfl,by rw[HD.out];exact how.out⟩,by rw[HD.out];exact wN.out,hkp.out⟩
  ·have hpos:0<k:=by omega
   have eI:=jZ wN.out;cases hB:u.iS with
   |false=>
    have HD:=ae (pI hB hrel.out);rw[hB]at eI;have jI:=ae eI;clear hrel hlen eI sB hB h0;go_wp2_with(go_at_call 96;refine jI.out.mono ?_;rintro r w2⟨rfl,rfl⟩)
    go_ret;exact⟨⟨A,c,by rw[HD.out];rfl,by rw[HD.out];exact how.out⟩,by rw[HD.out];exact wN.out,hkp.out⟩
   |true=>
    have HS:=ae (mW hpos hB hrel.out);rw[hB]at eI;have jI:=ae eI;have hread:=HF.out wr u wN.out sB.out;have NI:=ae (aw (hp u) sB.out);generalize hx:(p u).1=x at hread HS;generalize(p u).2=u2 at hread HS NI;obtain⟨⟨v,hi,lo⟩,po⟩:=x;unfold cF at hread;simp only at hread;have mX:=ae hread;have hw:IntKind.u16.wrap ((k:Int)-1)=((k-1:Nat):Int):=by rw[IntKind.wrap_u16];omega
    have hlr:=hlen.out;have hxl:xs.length<65536:=by omega
    have HLen:=ae hlr;clear hrel hlen eI sB hB h0 hread hx hlr;go_wp2_with(first
     |(go_at_call 96;refine jI.out.mono ?_;rintro r w2⟨rfl,rfl⟩)
     |(go_at_fn f;(with_reducible refine mX.out.mono ?_);rintro r w3⟨rfl,g3,k3⟩;obtain⟨IU,ki,oL⟩:=bz g3 (hkp.out.trans k3) (cM how.out k3 qw.out);clear g3 k3)
     |(at_builtin;refine wpList_append_own _ rfl _ _ 45 rfl w.heap.size 55 i0 (.agg #[.bool false,.int .u64 0,.int .u64 0,.int .u16 0]) 4 32 Tryz.underlying45 lD hz0 hz1 hz2 rfl aJ _ xs.length _ rfl (oL.out.alloc _) ⟨w3.heap.size,0,none⟩ 1 1 [.bool v,.int .u64 hi,.int .u64 lo,.int .u16 po] rfl rfl (cS w3 [.bool v,.int .u64 hi,.int .u64 lo,.int .u16 po] 55) (by intro q hq;simp at hq;rcases hq with rfl|rfl|rfl|rfl<;>rfl) (by unfold maxLen;omega) aR (by have:=ki.out.size;simp;omega) ?_;intro v' w4 pW hg4 hn4;obtain⟨A4,c4,rfl⟩:=aX pW;obtain⟨Bh,Bi⟩:=aL pW hg4;clear pW hg4 hn4))
    go_roundw
    case rel=>
     have hb3:=boxed w3 (.cells ([.bool v,.int .u64 hi,.int .u64 lo,.int .u16 po]:List Value).toArray 55);have hkr:=Keeps.row Bi.out;have hnr:∀q,Two b rb q→¬((dq A xs.length c).ownBlock=some q):=fun q hq hqe=>by have:=(oL.out.lt q hqe).1;have:=qw.out q hq;omega
     refine⟨k-1,u2,A4,c4,xs++[⟨⟨v,hi,lo⟩,po⟩],by omega,rfl,by rw[aj];rfl,ae (by rw[K5,aj];exact Bh.out),ae ((IU.out.below hb3).keep hkr (hnr b (Or.inl rfl)) (hnr rb (Or.inr rfl))),NI,ae (by exact HS.out),ae (by have h5:=HLen.out;rw[aj,dn];omega),ae (Keeps.grown (ki.out.alloc _) Bi.out fun q hq=>Or.inr (oL.out.lt q hq).1)⟩
    case measure=>simp[intOf];omega
theorem G1:(ah.info? 57).map (fun i=>(i.zero,i.size,i.bytes))=some (some (.agg #[.int .u8 0,aG,.bool false,.int .u64 0,.int .u64 0,.int .u16 0]),6,56):=by kernel_rfl
theorem yq{w:World}{b rb pb:Nat}{e:Ey}(h:cj w b rb e)(hs:e.s.size≤4000000)(p:Rg Ry)(hp:vj p)(f:Nat)(eg:∀args w,(callFunc f args).run ah w=.ok (.enter f args) w)(hf:∀W u,cj W b rb u→u.s.size≤4000000→Calls ah f #[.pointer (some ⟨pb,0,none⟩)] W (iL (.agg (bH (p u).1).toArray) b rb (p u).2 W)):Calls ah 51 #[.pointer (some ⟨b,0,none⟩),.func (.func f) #[.pointer (some ⟨pb,0,none⟩)] #[]] w (lC 57 6 (cn p e).1.length (dX (cn p e).1) b rb (cn p e).2 w):=by
 obtain⟨hbl,hrl⟩:=h.lt;obtain⟨i0,lD,hz0,hz1,hz2⟩:=info_parts G1;have c0:=h.c0;have h16:=tZ h hs;have hk1:(bL 2 e).1<65536:=lW e.s e.f 2;have hl1:=aw (ef 2 e) hs;unfold iL at hf;unfold lC;unfold iL at h16;obtain⟨R,hR⟩:=bw (cn p e);rw[←hR];rw[pH]at hR;generalize(bL 2 e).1=N at*;generalize(bL 2 e).2=e1 at*;obtain⟨HR,IQ,HF,Iy⟩:=cU hR h16 hf hl1;have qw:ag (∀k,Two b rb k→k<w.heap.size):=ae (by rintro k(rfl|rfl);exact hbl;exact hrl);clear hR h16 hf h hs hl1 hbl hrl;go_enter Tryz.func51,Tryz.ntmps51;go_wp2_with(go_at_call 99;refine IQ.out.mono ?_;rintro r w1⟨rfl,g1,k1⟩;obtain⟨Bg,qI⟩:=aL g1 k1;clear g1 k1)
 clear c0;go_loopw [5,6] (fun v5 v6 wr=>∃(k:Nat)(u:Ey)(A:Option Addr)(c:Nat)(xs:List Ry),k<65536∧v6=.int .u16 k∧v5=.slice A xs.length c∧ag (wr.ownsRow w.heap.size 57 6 (.slice A xs.length c) xs.length (dX xs))∧ag (cj wr b rb u)∧ag (u.s.size≤4000000)∧ag (R=(xs++(eu p k u).1,(eu p k u).2))∧ag (xs.length+k<65536)∧ag (Keeps (Two b rb) w wr)) (fun _ v6 _=>(intOf v6).toNat)
 case atStart=>exact⟨N,e1,none,0,[],hk1,rfl,rfl,ae (bh _ _ _ _),Bg,Iy,ae HR.out,ae (by simpa using hk1),qI⟩
 case round=>
  obtain⟨k,u,A,c,xs,hk,rfl,rfl,how,wN,sB,hrel,hlen,hkp⟩:=hrel;by_cases h0:k=0
  ·subst h0;have hdone:=mV hrel.out;have HD:=ae hdone;clear hrel hlen hdone sB;go_wp2_with fail
   go_ret;exact⟨⟨A,c,by rw[HD.out];rfl,by rw[HD.out];exact how.out⟩,by rw[HD.out];exact wN.out,hkp.out⟩
  ·have hpos:0<k:=by omega
   have eI:=jZ wN.out;cases hB:u.iS with
   |false=>
    have HD:=ae (pI hB hrel.out);rw[hB]at eI;have jI:=ae eI;clear hrel hlen eI sB hB h0;go_wp2_with(go_at_call 96;refine jI.out.mono ?_;rintro r w2⟨rfl,rfl⟩)
    go_ret;exact⟨⟨A,c,by rw[HD.out];rfl,by rw[HD.out];exact how.out⟩,by rw[HD.out];exact wN.out,hkp.out⟩
   |true=>
    have HS:=ae (mW hpos hB hrel.out);rw[hB]at eI;have jI:=ae eI;have hread:=HF.out wr u wN.out sB.out;have NI:=ae (aw (hp u) sB.out);generalize hx:(p u).1=x at hread HS;generalize(p u).2=u2 at hread HS NI;obtain⟨id,key,⟨⟨v,hi,lo⟩,po⟩⟩:=x;unfold bH at hread;simp only at hread;have mX:=ae hread;have hw:IntKind.u16.wrap ((k:Int)-1)=((k-1:Nat):Int):=by rw[IntKind.wrap_u16];omega
    have hlr:=hlen.out;have hxl:xs.length<65536:=by omega
    have HLen:=ae hlr;clear hrel hlen eI sB hB h0 hread hx hlr;go_wp2_with(first
     |(go_at_call 96;refine jI.out.mono ?_;rintro r w2⟨rfl,rfl⟩)
     |(go_at_fn f;(with_reducible refine mX.out.mono ?_);rintro r w3⟨rfl,g3,k3⟩;obtain⟨IU,ki,oL⟩:=bz g3 (hkp.out.trans k3) (cM how.out k3 qw.out);clear g3 k3)
     |(at_builtin;refine wpList_append_own _ rfl _ _ 24 rfl w.heap.size 57 i0 (.agg #[.int .u8 0,aG,.bool false,.int .u64 0,.int .u64 0,.int .u16 0]) 6 56 Tryz.underlying24 lD hz0 hz1 hz2 rfl aJ _ xs.length _ rfl (oL.out.alloc _) ⟨w3.heap.size,0,none⟩ 1 1 [.int .u8 id,.string key,.bool v,.int .u64 hi,.int .u64 lo,.int .u16 po] rfl rfl (cS w3 [.int .u8 id,.string key,.bool v,.int .u64 hi,.int .u64 lo,.int .u16 po] 57) (by intro q hq;simp at hq;rcases hq with rfl|rfl|rfl|rfl|rfl|rfl<;>rfl) (by unfold maxLen;omega) aR (by have:=ki.out.size;simp;omega) ?_;intro v' w4 pW hg4 hn4;obtain⟨A4,c4,rfl⟩:=aX pW;obtain⟨Bh,Bi⟩:=aL pW hg4;clear pW hg4 hn4))
    go_roundw
    case rel=>
     have hb3:=boxed w3 (.cells ([.int .u8 id,.string key,.bool v,.int .u64 hi,.int .u64 lo,.int .u16 po]:List Value).toArray 57);have hkr:=Keeps.row Bi.out;have hnr:∀q,Two b rb q→¬((dq A xs.length c).ownBlock=some q):=fun q hq hqe=>by have:=(oL.out.lt q hqe).1;have:=qw.out q hq;omega
     refine⟨k-1,u2,A4,c4,xs++[⟨id,key,⟨⟨v,hi,lo⟩,po⟩⟩],by omega,rfl,by rw[aj];rfl,ae (by rw[La,aj];exact Bh.out),ae ((IU.out.below hb3).keep hkr (hnr b (Or.inl rfl)) (hnr rb (Or.inr rfl))),NI,ae (by exact HS.out),ae (by have h5:=HLen.out;rw[aj,dn];omega),ae (Keeps.grown (ki.out.alloc _) Bi.out fun q hq=>Or.inr (oL.out.lt q hq).1)⟩
    case measure=>simp[intOf];omega
theorem mY:(ah.info? 47).map (fun i=>(i.zero,i.size,i.bytes))=some (some (.agg #[aG,aG,aG,au,au,.int .u64 0,.int .u8 0,au]),8,136):=by kernel_rfl
theorem yr{w:World}{b rb pb:Nat}{e:Ey}(h:cj w b rb e)(hs:e.s.size≤4000000)(p:Rg Pr)(hp:vj p)(f:Nat)(eg:∀args w,(callFunc f args).run ah w=.ok (.enter f args) w)(hf:∀W u,cj W b rb u→u.s.size≤4000000→Calls ah f #[.pointer (some ⟨pb,0,none⟩)] W (NH (p u).1 b rb (p u).2 W)):Calls ah 46 #[.pointer (some ⟨b,0,none⟩),.func (.func f) #[.pointer (some ⟨pb,0,none⟩)] #[]] w (DK (cn p e).1 b rb (cn p e).2 w):=by
 obtain⟨hbl,hrl⟩:=h.lt;obtain⟨i0,lD,hz0,hz1,hz2⟩:=info_parts mY;have c0:=h.c0;have h16:=tZ h hs;have hk1:(bL 2 e).1<65536:=lW e.s e.f 2;have hl1:=aw (ef 2 e) hs;unfold NH at hf;unfold DK;unfold iL at h16;obtain⟨R,hR⟩:=bw (cn p e);rw[←hR];rw[pH]at hR;generalize(bL 2 e).1=N at*;generalize(bL 2 e).2=e1 at*;obtain⟨HR,IQ,HF,Iy⟩:=cU hR h16 hf hl1;have qw:ag (∀k,Two b rb k→k<w.heap.size):=ae (by rintro k(rfl|rfl);exact hbl;exact hrl);clear hR h16 hf h hs hl1 hbl hrl;go_enter Tryz.func46,Tryz.ntmps46;go_wp2_with(go_at_call 99;refine IQ.out.mono ?_;rintro r w1⟨rfl,g1,k1⟩;obtain⟨Bg,qI⟩:=aL g1 k1;clear g1 k1)
 clear c0;go_loopw [5,6] (fun v5 v6 wr=>∃(k:Nat)(u:Ey)(A:Option Addr)(c:Nat)(xs:List bS),k<65536∧v6=.int .u16 k∧v5=.slice A xs.length c∧ag (wr.ownsRow w.heap.size 47 8 (.slice A xs.length c) xs.length (cY xs))∧ag (cj wr b rb u)∧ag (u.s.size≤4000000)∧ag (R=(xs.map (·.p)++(eu p k u).1,(eu p k u).2))∧ag (xs.length+k<65536)∧ag (Keeps (Two b rb) w wr)∧ag (∀X∈xs,dm wr w.heap.size X)) (fun _ v6 _=>(intOf v6).toNat)
 case atStart=>exact⟨N,e1,none,0,[],hk1,rfl,rfl,ae (bh _ _ _ _),Bg,Iy,ae HR.out,ae (by simpa using hk1),qI,ae (fun X hX=>by cases hX)⟩
 case round=>
  obtain⟨k,u,A,c,xs,hk,rfl,rfl,how,wN,sB,hrel,hlen,hkp,hpo⟩:=hrel;by_cases h0:k=0
  ·subst h0;have hdone:=mV hrel.out;have HD:=ae hdone;clear hrel hlen hdone sB;go_wp2_with fail
   go_ret;exact⟨⟨A,c,by rw[HD.out];simp only[ay];rfl,by rw[HD.out];simp only[ay];exact⟨xs,rfl,how.out,hpo.out⟩⟩,by rw[HD.out];exact wN.out,hkp.out⟩
  ·have hpos:0<k:=by omega
   have eI:=jZ wN.out;cases hB:u.iS with
   |false=>
    have HD:=ae (pI hB hrel.out);rw[hB]at eI;have jI:=ae eI;clear hrel hlen eI sB hB h0;go_wp2_with(go_at_call 96;refine jI.out.mono ?_;rintro r w2⟨rfl,rfl⟩)
    go_ret;exact⟨⟨A,c,by rw[HD.out];simp only[ay];rfl,by rw[HD.out];simp only[ay];exact⟨xs,rfl,how.out,hpo.out⟩⟩,by rw[HD.out];exact wN.out,hkp.out⟩
   |true=>
    have HS:=ae (mW hpos hB hrel.out);rw[hB]at eI;have jI:=ae eI;have hread:=HF.out wr u wN.out sB.out;have NI:=ae (aw (hp u) sB.out);generalize hx:(p u).1=x at hread HS;generalize(p u).2=u2 at hread HS NI;have mX:=ae hread;have hw:IntKind.u16.wrap ((k:Int)-1)=((k-1:Nat):Int):=by rw[IntKind.wrap_u16];omega
    have hlr:=hlen.out;have hxl:xs.length<65536:=by omega
    have HLen:=ae hlr;clear hrel hlen eI sB hB h0 hread hx hlr;go_wp2_with(first
     |(go_at_call 96;refine jI.out.mono ?_;rintro r w2⟨rfl,rfl⟩)
     |(go_at_fn f;(with_reducible refine mX.out.mono ?_);rintro r w3⟨⟨X,rfl,G4,pJ⟩,g3,k3⟩;obtain⟨⟨key,bu,user,tags,aQ,ex,bm,ends⟩,tv,av,ev⟩:=X;obtain⟨A1,c1,e1⟩:=aX pJ.tags;obtain⟨A2,c2,e2⟩:=aX pJ.aQ;obtain⟨A3,c3,e3⟩:=aX pJ.ends;simp only at e1 e2 e3;subst e1 e2 e3;obtain⟨NJ,V5⟩:=aL pJ G4;obtain⟨n1,en1⟩:=bw tags.length;obtain⟨n2,en2⟩:=bw aQ.length;obtain⟨n3,en3⟩:=bw ends.length;unfold bS.vals;simp only;rw[←en1,←en2,←en3];obtain⟨jL,kX,vX⟩:=bz en1 en2 en3;clear en1 en2 en3 pJ G4;obtain⟨IU,ki,oL,agJ⟩:=cU g3 (hkp.out.trans k3) (cM how.out k3 qw.out) (fun Y hY=>(hpo.out Y hY).above k3 qw.out);clear g3 k3)
     |(at_builtin;refine wpList_append_own _ rfl _ _ 23 rfl w.heap.size 47 i0 (.agg #[aG,aG,aG,au,au,.int .u64 0,.int .u8 0,au]) 8 136 aif lD hz0 hz1 hz2 rfl aJ _ xs.length _ rfl (oL.out.alloc _) ⟨w3.heap.size,0,none⟩ 1 1 [.string key,.string bu,.string user,.slice A1 n1 c1,.slice A2 n2 c2,.int .u64 ex,.int .u8 bm,.slice A3 n3 c3] rfl rfl (cS w3 [.string key,.string bu,.string user,.slice A1 n1 c1,.slice A2 n2 c2,.int .u64 ex,.int .u8 bm,.slice A3 n3 c3] 47) (by intro q hq;simp at hq;rcases hq with rfl|rfl|rfl|rfl|rfl|rfl|rfl|rfl<;>rfl) (by unfold maxLen;omega) aR (by have:=ki.out.size;simp;omega) ?_;intro v' w4 pW hg4 hn4;obtain⟨A4,c4,rfl⟩:=aX pW;obtain⟨Bh,Bi⟩:=aL pW hg4;clear pW hg4 hn4))
    go_roundw
    case rel=>
     have hb3:=boxed w3 (.cells ([.string key,.string bu,.string user,.slice A1 n1 c1,.slice A2 n2 c2,.int .u64 ex,.int .u8 bm,.slice A3 n3 c3]:List Value).toArray 47);have hkr:=Keeps.row Bi.out;have hnr:∀q,Two b rb q→¬((dq A xs.length c).ownBlock=some q):=fun q hq hqe=>by have:=(oL.out.lt q hqe).1;have:=qw.out q hq;omega
     refine⟨k-1,u2,A4,c4,xs++[⟨⟨key,bu,user,tags,aQ,ex,bm,ends⟩,.slice A1 tags.length c1,.slice A2 aQ.length c2,.slice A3 ends.length c3⟩],by omega,rfl,by rw[aj];rfl,ae (by rw[lB,aj];unfold bS.vals;simp only[dn];rw[←jL.out,←kX.out,←vX.out];exact Bh.out),ae ((IU.out.below hb3).keep hkr (hnr b (Or.inl rfl)) (hnr rb (Or.inr rfl))),NI,ae (by rw[HS.out,cL,ahM];rw[←V5.out]),ae (by have h5:=HLen.out;rw[aj,dn];omega),ae (Keeps.grown (ki.out.alloc _) Bi.out fun q hq=>Or.inr (oL.out.lt q hq).1),ae ?_⟩;intro Y hY;have hoff:=cG (oL.out.alloc (.cells ([.string key,.string bu,.string user,.slice A1 n1 c1,.slice A2 n2 c2,.int .u64 ex,.int .u8 bm,.slice A3 n3 c3]:List Value).toArray 47));rcases List.mem_append.1 hY with hY|hY
     ·exact((agJ.out Y hY).low hb3).keep hkr hoff aJ aJ (by decide)
     ·rw[List.mem_singleton.1 hY];exact(((NJ.out.mono hkp.out.size).low hb3).keep hkr hoff aJ aJ aJ)
    case measure=>simp[intOf];omega
theorem yt{w:World}{b rb:Nat}{e:Ey}(h:cj w b rb e)(hs:e.s.size≤4000000):Calls ah 104 #[.pointer (some ⟨b,0,none⟩)] w (iL (.agg (cF (EN e).1).toArray) b rb (EN e).2 w):=Q6 h hs
theorem ac0(e:Ey):IL e=(⟨(bL 1 e).1,(keyE 32 (bL 1 e).2).1,(EN (keyE 32 (bL 1 e).2).2).1⟩,(EN (keyE 32 (bL 1 e).2).2).2):=rfl
theorem vk{w:World}{b rb:Nat}{e:Ey}(h:cj w b rb e)(hs:e.s.size≤4000000):Calls ah 52 #[.pointer (some ⟨b,0,none⟩)] w (iL (.agg (bH (IL e).1).toArray) b rb (IL e).2 w):=by
 obtain⟨hbl,hrl⟩:=h.lt;have hb1:=boxed w (.cells #[.int .u8 0,aG,.bool false,.int .u64 0,.int .u64 0,.int .u16 0] 57);obtain⟨H1,HP,HK⟩:=bz (h.below hb1) (aH.new w 57 #[.int .u8 0,aG,.bool false,.int .u64 0,.int .u64 0,.int .u16 0]) (Keeps.of_below (S:=Two b rb) hb1 fun _ h _=>h);have l1:=aw (ef 1 e) hs;have l2:=aw (mg 32 (bL 1 e).2) l1;have h8:=fun u(hu:cj u b rb e)=>NF hu hs
 have hky:=fun u(hu:cj u b rb (bL 1 e).2)=>mU hu l1
 have hen:=fun u(hu:cj u b rb (keyE 32 (bL 1 e).2).2)=>yt hu l2
 have tf:¬Two b rb w.heap.size:=by unfold Two;omega
 rw[ac0];unfold bH;unfold iL at h8 hky hen⊢;simp only;clear h hb1 hs l1 l2;generalize(EN (keyE 32 (bL 1 e).2).2).2=e3 at*;generalize(EN (keyE 32 (bL 1 e).2).2).1=en at*;generalize(keyE 32 (bL 1 e).2).2=e2 at*;generalize(keyE 32 (bL 1 e).2).1=key at*;generalize(bL 1 e).2=e1 at*;generalize(bL 1 e).1=id at*;obtain⟨⟨v,hi,lo⟩,po⟩:=en;unfold cF at hen;simp only at hen⊢;obtain⟨H8,HKy,HEn⟩:=bz h8 hky hen;clear h8 hky hen;go_enter Tryz.func52,Tryz.ntmps52;go_upto_region 1 with fail
 generalize w.alloc (.cells #[.int .u8 0,aG,.bool false,.int .u64 0,.int .u64 0,.int .u16 0] 57)=w1 at H1 HP HK⊢;generalize hP:w.heap.size=P at HP hbl hrl tf⊢;have kN:=ae hP;clear hP;have a1:=H1.out.c0;go_wp2_with(first
  |(go_at_call 102;refine(H8.out _ H1.out).mono ?_;rintro r w2⟨rfl,g2,K2⟩;obtain⟨H2,HP2,lQ⟩:=bz g2 (HP.out.keep K2 tf) (HK.out.trans K2);clear g2 K2)
  |(go_at_call 49;refine(HKy.out _ H2.out).mono ?_;rintro r w3⟨rfl,g3,K3⟩;obtain⟨H3,gy,ki⟩:=bz g3 (HP2.out.keep K3 tf) (lQ.out.trans K3);clear g3 K3)
  |(go_at_call 104;refine(HEn.out _ H3.out).mono ?_;rintro r w4⟨rfl,g4,K4⟩;have H4:=ae g4;have nM:=gy.out.keep K4 tf;have c0:=nM.cell 0;have c1:=nM.cell 1;have c2:=nM.cell 2;have c3:=nM.cell 3;have c4:=nM.cell 4;have c5:=nM.cell 5;simp at c0 c1 c2 c3 c4 c5;have fr:=(fun i=>nM.frozen i);obtain⟨tW,AZ⟩:=aL nM (ki.out.trans K4);clear g4 K4 nM))
 have s1:aH _ P 57 #[.int .u8 id,aG,.bool false,.int .u64 0,.int .u64 0,.int .u16 0]:=tW.out.aM 0 (.int .u8 id);have s2:aH _ P 57 #[.int .u8 id,.string key,.bool false,.int .u64 0,.int .u64 0,.int .u16 0]:=s1.aM 1 (.string key);have s3:aH _ P 57 #[.int .u8 id,.string key,.bool v,.int .u64 0,.int .u64 0,.int .u16 0]:=s2.aM 2 (.bool v);have s4:aH _ P 57 #[.int .u8 id,.string key,.bool v,.int .u64 hi,.int .u64 0,.int .u16 0]:=s3.aM 3 (.int .u64 hi);have s5:aH _ P 57 #[.int .u8 id,.string key,.bool v,.int .u64 hi,.int .u64 lo,.int .u16 0]:=s4.aM 4 (.int .u64 lo);have s6:aH _ P 57 #[.int .u8 id,.string key,.bool v,.int .u64 hi,.int .u64 lo,.int .u16 po]:=s5.aM 5 (.int .u16 po);have lw:w.heap.size≤P:=Nat.le_of_eq kN.out;obtain⟨p1,q1⟩:=H4.out.put AZ.out hbl hrl lw 0 (.int .u8 id);obtain⟨p2,q2⟩:=p1.put q1 hbl hrl lw 1 (.string key);obtain⟨p3,q3⟩:=p2.put q2 hbl hrl lw 2 (.bool v);obtain⟨p4,q4⟩:=p3.put q3 hbl hrl lw 3 (.int .u64 hi);obtain⟨p5,q5⟩:=p4.put q4 hbl hrl lw 4 (.int .u64 lo);obtain⟨p6,q6⟩:=p5.put q5 hbl hrl lw 5 (.int .u16 po);exact bodyPost_ret (fS (x:=2) rfl rfl (aan s6)) rfl ⟨rfl,p6,q6⟩
theorem aV{w:World}{base size n M k:Nat}{t:TypeId}{v u:Value}{xs:List Value}(h:w.ownsRow base t size v n xs)(hM:M<base):(w.setCell ⟨M,k,none⟩ u).ownsRow base t size v n xs:=ko (S:=fun x=>x=M) h ((Keeps.refl (fun x=>x=M) w).setCell (p:=⟨M,k,none⟩) (Or.inl rfl) u) fun g hg e=>by have:=(h.lt g hg).1;omega
theorem sD{w:World}{g:Nat}{v0 v1 v2 v3 v4 v5 v6 v7:Value}(h:aH w g 47 #[v0,v1,v2,v3,v4,v5,v6,v7]):(loadVar 47 ⟨g,0,none⟩).run ah w=.ok (.agg #[v0,v1,v2,v3,v4,v5,v6,v7]) w:=by
 have c0:=h.cell 0;have c1:=h.cell 1;have c2:=h.cell 2;have c3:=h.cell 3;have c4:=h.cell 4;have c5:=h.cell 5;have c6:=h.cell 6;have c7:=h.cell 7;simp at c0 c1 c2 c3 c4 c5 c6 c7;simp[loadVar,go_sem,c0,c1,c2,c3,c4,c5,c6,c7]
theorem V6{Q:World→Prop}{P:Nat}(hq:∀u i x,Q u→Q (u.setCell ⟨P,i,none⟩ x)){W:World}(h:Q W)(v0 v1 v2 v3 v4 v5 v6 v7:Value):Q ((((((((W.setCell ⟨P,0,none⟩ v0).setCell ⟨P,1,none⟩ v1).setCell ⟨P,2,none⟩ v2).setCell ⟨P,3,none⟩ v3).setCell ⟨P,4,none⟩ v4).setCell ⟨P,5,none⟩ v5).setCell ⟨P,6,none⟩ v6).setCell ⟨P,7,none⟩ v7):=hq _ _ _ (hq _ _ _ (hq _ _ _ (hq _ _ _ (hq _ _ _ (hq _ _ _ (hq _ _ _ (hq _ _ _ h)))))))
theorem ac1(e:Ey):GL e=(⟨(keyE 32 e).1,(keyE 32 (keyE 32 e).2).1,(gg (keyE 32 (keyE 32 e).2).2).1,(cn gg (gg (keyE 32 (keyE 32 e).2).2).2).1,(cn td (cn gg (gg (keyE 32 (keyE 32 e).2).2).2).2).1,(bL 8 (cn td (cn gg (gg (keyE 32 (keyE 32 e).2).2).2).2).2).1,(bL 1 (bL 8 (cn td (cn gg (gg (keyE 32 (keyE 32 e).2).2).2).2).2).2).1,(cn EN (bL 1 (bL 8 (cn td (cn gg (gg (keyE 32 (keyE 32 e).2).2).2).2).2).2).2).1⟩,(cn EN (bL 1 (bL 8 (cn td (cn gg (gg (keyE 32 (keyE 32 e).2).2).2).2).2).2).2).2):=rfl
theorem yu{w:World}{b rb:Nat}{e:Ey}(h:cj w b rb e)(hs:e.s.size≤4000000):Calls ah 47 #[.pointer (some ⟨b,0,none⟩)] w (NH (GL e).1 b rb (GL e).2 w):=by
 obtain⟨hbl,hrl⟩:=h.lt;have hb1:=boxed w (.cells #[aG,aG,aG,au,au,.int .u64 0,.int .u8 0,au] 47);have h1:=h.below hb1;have hp1:=aH.new w 47 #[aG,aG,aG,au,au,.int .u64 0,.int .u8 0,au];have hk1:=Keeps.of_below (S:=Two b rb) hb1 fun _ h _=>h
 have l1:=aw (mg 32 e) hs;have hc1:=fun u(hu:cj u b rb e)=>mU hu hs
 rw[ac1];generalize(keyE 32 e).2=e1 at*;generalize(keyE 32 e).1=key at*;have l2:=aw (mg 32 e1) l1;have hc2:=fun u(hu:cj u b rb e1)=>mU hu l1
 generalize(keyE 32 e1).2=e2 at*;generalize(keyE 32 e1).1=bu at*;have l3:=aw (qh e2) l2;have hc3:=fun u(hu:cj u b rb e2)=>wM hu l2
 generalize(gg e2).2=e3 at*;generalize(gg e2).1=user at*;have l4:=aw (iU qh e3) l3;have hc4:=fun u(hu:cj u b rb e3)=>Bf hu l3 gg qh 53 (enters_of Tryz.func53 bo rfl) (pb:=rb) fun W u h1 h2=>wM h1 h2
 generalize(cn gg e3).2=e4 at*;generalize(cn gg e3).1=tags at*;have l5:=aw (iU yn e4) l4;have hc5:=fun u(hu:cj u b rb e4)=>Lc hu l4 td yn 101 (enters_of Tryz.func101 bo rfl) (pb:=b) fun W u h1 h2=>yo h1 h2
 generalize(cn td e4).2=e5 at*;generalize(cn td e4).1=aQ at*;have l6:=aw (ef 8 e5) l5;have hc6:=fun u(hu:cj u b rb e5)=>ua hu l5
 generalize(bL 8 e5).2=e6 at*;generalize(bL 8 e5).1=ex at*;have l7:=aw (ef 1 e6) l6;have hc7:=fun u(hu:cj u b rb e6)=>NF hu l6
 generalize(bL 1 e6).2=e7 at*;generalize(bL 1 e6).1=bm at*;have hc8:=fun u(hu:cj u b rb e7)=>Ld hu l7 EN KZ 104 (enters_of Tryz.func104 bo rfl) (pb:=b) fun W u h1 h2=>yt h1 h2
 generalize(cn EN e7).2=e8 at*;generalize(cn EN e7).1=ends at*;clear l1 l2 l3 l4 l5 l6 l7 hs;have tf:¬Two b rb w.heap.size:=by unfold Two;omega
 obtain⟨n1,hn1⟩:=bw tags.length;obtain⟨n2,hn2⟩:=bw aQ.length;obtain⟨n3,hn3⟩:=bw ends.length;rw[←hn1]at hc4;rw[←hn2]at hc5;rw[←hn3]at hc8;obtain⟨jL,kX,vX⟩:=bz hn1 hn2 hn3;unfold iL at hc1 hc2 hc3 hc6 hc7;unfold lC at hc4 hc5 hc8;unfold NH;simp only;obtain⟨C1,C2,C3,C4,C5,C6,C7,C8,H1,HP,HK⟩:=zZ hc1 hc2 hc3 hc4 hc5 hc6 hc7 hc8 h1 hp1 hk1;clear hc1 hc2 hc3 hc4 hc5 hc6 hc7 hc8 hn1 hn2 hn3 h h1 hp1 hk1 hb1;go_enter Tryz.func47,Tryz.ntmps47;go_upto_region 1 with fail
 generalize w.alloc (.cells #[aG,aG,aG,au,au,.int .u64 0,.int .u8 0,au] 47)=w1 at H1 HP HK⊢;have hWP:w.heap.size≤w.heap.size:=ax _;generalize hP:w.heap.size=P at HP hbl hrl tf⊢;have kN:=ae hP;rw[hP]at hWP;clear hP;have a1:=H1.out.c0;obtain⟨H1d,og,IC⟩:=bz H1.out.drew HP.out.drew HK.out.drew;clear H1 HP HK;go_region_held3 (fun w'=>w'.cell? ⟨b,0,none⟩=some (.pointer (some ⟨rb,0,none⟩)))
  (first|exact a1|exact a2|exact a3|exact a4|(rw[cell_far (by simp;omega)];exact a4)|(rw[cell_far (by simp;omega),cell_far (by simp;omega)];exact a4)|(rw[cell_far (by simp;omega),cell_far (by simp;omega),cell_far (by simp;omega)];exact a4))
  (first
    |(go_at_call 49;(with_reducible refine(C1.out _ H1d.out).mono ?_);rintro r w2⟨rfl,g2,K2⟩;have a2:=g2.c0;obtain⟨H2,HP2,lQ⟩:=bz g2 (og.out.keep K2 tf) (IC.out.trans K2);clear g2 K2)
    |(go_at_call 49;(with_reducible refine(C2.out _ H2.out).mono ?_);rintro r w3⟨rfl,g3,K3⟩;have a3:=g3.c0;obtain⟨H3,gy,ki⟩:=bz g3 (HP2.out.keep K3 tf) (lQ.out.trans K3);clear g3 K3)
    |(go_at_call 53;refine(C3.out _ H3.out).mono ?_;rintro r w4⟨rfl,g4,K4⟩;have a4:=g4.c0;have H4:=ae g4;have nM:=gy.out.keep K4 tf;have c0:=nM.cell 0;have c1:=nM.cell 1;have c2:=nM.cell 2;simp at c0 c1 c2;have fr:=(fun i=>nM.frozen i);obtain⟨tW,AZ⟩:=aL nM (ki.out.trans K4);clear g4 K4 nM))
 have aao:w.heap.size≤P:=Nat.le_of_eq kN.out;have hw5:∃W,W=((w4.setCell ⟨P,0,none⟩ (.string key)).setCell ⟨P,1,none⟩ (.string bu)).setCell ⟨P,2,none⟩ (.string user):=⟨_,rfl⟩;obtain⟨w5,hw5⟩:=hw5;rw[←hw5];have s1:aH _ P 47 #[.string key,aG,aG,au,au,.int .u64 0,.int .u8 0,au]:=tW.out.aM 0 (.string key);have s2:aH _ P 47 #[.string key,.string bu,aG,au,au,.int .u64 0,.int .u8 0,au]:=s1.aM 1 (.string bu);have s3:aH _ P 47 #[.string key,.string bu,.string user,au,au,.int .u64 0,.int .u8 0,au]:=s2.aM 2 (.string user);obtain⟨p1,q1⟩:=H4.out.put AZ.out hbl hrl aao 0 (.string key);obtain⟨p2,q2⟩:=p1.put q1 hbl hrl aao 1 (.string bu);obtain⟨p3,q3⟩:=p2.put q2 hbl hrl aao 2 (.string user);rw[←hw5]at s3 p3 q3;obtain⟨H5,IB,EG⟩:=bz p3 s3 q3;have HLP:ag (∀k,Two b rb k→k<P+1):=ae (by rintro k(rfl|rfl)<;>omega);have Le:=ae aao;clear hw5 s1 s2 s3 p1 p2 p3 q1 q2 q3 H4 tW AZ c0 c1 c2 fr H1d og IC H2 HP2 lQ H3 gy ki C1 C2 C3 a1 a2 a3 a4;have e5:=H5.out.c0;go_upto_region 3 with(go_at_call 48;refine(C4.out _ H5.out).mono ?_;rintro r w6⟨⟨A1,c1,rfl,o6⟩,g6,K6⟩;have h6:=IB.out.keep K6 tf;have d6:=h6.cell 3;have f6:=h6.frozen 3;simp at d6;have Zr:ag (aH (w6.setCell ⟨P,3,none⟩ (.slice A1 n1 c1)) P 47 #[.string key,.string bu,.string user,.slice A1 n1 c1,au,.int .u64 0,.int .u8 0,au]):=ae (h6.aM 3 (.slice A1 n1 c1));obtain⟨HG6,V7⟩:=aL (g6.put (EG.out.trans K6) hbl hrl Le.out 3 (.slice A1 n1 c1)) (aV (k:=3) (u:=.slice A1 n1 c1) (o6.mono IB.out.lt) (oG P));clear o6 g6 K6 h6)
 generalize w6.setCell ⟨P,3,none⟩ (.slice A1 n1 c1)=W6 at Zr HG6 V7⊢;obtain⟨H6,tG⟩:=aL HG6.out.1 HG6.out.2;clear HG6 d6 f6 e5 H5 IB EG C4;have e6:=H6.out.c0;go_upto_region 4 with(go_at_call 100;refine(C5.out _ H6.out).mono ?_;rintro r w7⟨⟨A2,c2,rfl,o7⟩,g7,K7⟩;have h7:=Zr.out.keep K7 tf;have d7:=h7.cell 4;have f7:=h7.frozen 4;simp at d7;have HP7:ag (aH (w7.setCell ⟨P,4,none⟩ (.slice A2 n2 c2)) P 47 #[.string key,.string bu,.string user,.slice A1 n1 c1,.slice A2 n2 c2,.int .u64 0,.int .u8 0,au]):=ae (h7.aM 4 (.slice A2 n2 c2));obtain⟨SO,V8,V9⟩:=bz (g7.put (tG.out.trans K7) hbl hrl Le.out 4 (.slice A2 n2 c2)) (aV (k:=4) (u:=.slice A2 n2 c2) (o7.mono Zr.out.lt) (oG P)) (aV (k:=4) (u:=.slice A2 n2 c2) (cM V7.out K7 HLP.out) (oG P));clear o7 g7 K7 h7)
 generalize w7.setCell ⟨P,4,none⟩ (.slice A2 n2 c2)=W7 at HP7 SO V8 V9⊢;obtain⟨H7,zh⟩:=aL SO.out.1 SO.out.2;clear SO d7 f7 e6 H6 Zr tG C5 V7;have e7:=H7.out.c0;obtain⟨H7d,afm,afn,Wa,Wb⟩:=eB H7.out.drew HP7.out.drew zh.out.drew (cM V9.out (Keeps.refl (Two b rb) W7).drew HLP.out) (cM V8.out (Keeps.refl (Two b rb) W7).drew HLP.out);go_region_held3 (fun w'=>w'.cell? ⟨b,0,none⟩=some (.pointer (some ⟨rb,0,none⟩)))
  (first|exact e7|exact e8|exact e9|(rw[cell_far (by simp;omega)];exact e9)|(rw[cell_far (by simp;omega),cell_far (by simp;omega)];exact e9))
  (first
    |(go_at_call 45;refine(C6.out _ H7d.out).mono ?_;rintro r w8⟨rfl,g8,K8⟩;have e8:=g8.c0;obtain⟨H8,HP8,HK8,abC,abD⟩:=eB g8 (afm.out.keep K8 tf) (afn.out.trans K8) (cM Wa.out K8 HLP.out) (cM Wb.out K8 HLP.out);clear g8 K8)
    |(go_at_call 102;refine(C7.out _ H8.out).mono ?_;rintro r w9⟨rfl,g9,K9⟩;have e9:=g9.c0;have H9:=ae g9;have hP9:=HP8.out.keep K9 tf;have c5:=hP9.cell 5;have c6:=hP9.cell 6;simp at c5 c6;have f5:=hP9.frozen 5;have f6:=hP9.frozen 6;obtain⟨HP9,HK9,Wc,Wg⟩:=cU hP9 (HK8.out.trans K9) (aV (k:=6) (u:=.int .u8 bm) (aV (k:=5) (u:=.int .u64 ex) (cM abC.out K9 HLP.out) (oG P)) (oG P)) (aV (k:=6) (u:=.int .u8 bm) (aV (k:=5) (u:=.int .u64 ex) (cM abD.out K9 HLP.out) (oG P)) (oG P));clear g9 K9 hP9))
 have s1:aH _ P 47 #[.string key,.string bu,.string user,.slice A1 n1 c1,.slice A2 n2 c2,.int .u64 ex,.int .u8 0,au]:=HP9.out.aM 5 (.int .u64 ex);have s2:aH _ P 47 #[.string key,.string bu,.string user,.slice A1 n1 c1,.slice A2 n2 c2,.int .u64 ex,.int .u8 bm,au]:=s1.aM 6 (.int .u8 bm);obtain⟨p1,q1⟩:=H9.out.put HK9.out hbl hrl Le.out 5 (.int .u64 ex);obtain⟨p2,q2⟩:=p1.put q1 hbl hrl Le.out 6 (.int .u8 bm);obtain⟨iM,Ha,HKa⟩:=bz s2 p2 q2;clear s1 s2 p1 p2 q1 q2 H9 HP9 HK9 c5 c6 f5 f6 e7 e8 e9 H7 HP7 zh H7d afm afn H8 HP8 HK8 V9 V8 Wa Wb abC abD C6 C7;generalize(w9.setCell ⟨P,5,none⟩ (.int .u64 ex)).setCell ⟨P,6,none⟩ (.int .u8 bm)=wa at iM Ha HKa Wc Wg⊢;have ea:=Ha.out.c0;go_upto_region 6 with(go_at_call 103;refine(C8.out _ Ha.out).mono ?_;rintro r wb⟨⟨A3,c3,rfl,ob⟩,gb,Kb⟩;have hb:=iM.out.keep Kb tf;have db:=hb.cell 7;have fb:=hb.frozen 7;simp at db;have fY:ag (aH (wb.setCell ⟨P,7,none⟩ (.slice A3 n3 c3)) P 47 #[.string key,.string bu,.string user,.slice A1 n1 c1,.slice A2 n2 c2,.int .u64 ex,.int .u8 bm,.slice A3 n3 c3]):=ae (hb.aM 7 (.slice A3 n3 c3));obtain⟨HGb,afo,afp,afq⟩:=cU (gb.put (HKa.out.trans Kb) hbl hrl Le.out 7 (.slice A3 n3 c3)) (aV (k:=7) (u:=.slice A3 n3 c3) (ob.mono iM.out.lt) (oG P)) (aV (k:=7) (u:=.slice A3 n3 c3) (cM Wc.out Kb HLP.out) (oG P)) (aV (k:=7) (u:=.slice A3 n3 c3) (cM Wg.out Kb HLP.out) (oG P));clear ob gb Kb hb)
 generalize wb.setCell ⟨P,7,none⟩ (.slice A3 n3 c3)=wc at fY HGb afo afp afq⊢;clear ea db fb iM Ha HKa Wc Wg C8;obtain⟨x0,x1,x2,x3,x4,x5,x6,x7⟩:=dB fY;have fr:=fun i=>fY.out.frozen i
 go_wp2_with fail
 have s1:aH _ P 47 #[.string key,.string bu,.string user,.slice A1 n1 c1,.slice A2 n2 c2,.int .u64 ex,.int .u8 bm,.slice A3 n3 c3]:=fY.out.aM 0 (.string key);have s2:aH _ P 47 #[.string key,.string bu,.string user,.slice A1 n1 c1,.slice A2 n2 c2,.int .u64 ex,.int .u8 bm,.slice A3 n3 c3]:=s1.aM 1 (.string bu);have s3:aH _ P 47 #[.string key,.string bu,.string user,.slice A1 n1 c1,.slice A2 n2 c2,.int .u64 ex,.int .u8 bm,.slice A3 n3 c3]:=s2.aM 2 (.string user);have s4:aH _ P 47 #[.string key,.string bu,.string user,.slice A1 n1 c1,.slice A2 n2 c2,.int .u64 ex,.int .u8 bm,.slice A3 n3 c3]:=s3.aM 3 (.slice A1 n1 c1);have s5:aH _ P 47 #[.string key,.string bu,.string user,.slice A1 n1 c1,.slice A2 n2 c2,.int .u64 ex,.int .u8 bm,.slice A3 n3 c3]:=s4.aM 4 (.slice A2 n2 c2);have s6:aH _ P 47 #[.string key,.string bu,.string user,.slice A1 n1 c1,.slice A2 n2 c2,.int .u64 ex,.int .u8 bm,.slice A3 n3 c3]:=s5.aM 5 (.int .u64 ex);have s7:aH _ P 47 #[.string key,.string bu,.string user,.slice A1 n1 c1,.slice A2 n2 c2,.int .u64 ex,.int .u8 bm,.slice A3 n3 c3]:=s6.aM 6 (.int .u8 bm);have s8:aH _ P 47 #[.string key,.string bu,.string user,.slice A1 n1 c1,.slice A2 n2 c2,.int .u64 ex,.int .u8 bm,.slice A3 n3 c3]:=s7.aM 7 (.slice A3 n3 c3);obtain⟨⟨pz,qz⟩,oz1,oz2,oz3⟩:=V6 (P:=P) (Q:=fun u=>(cj u b rb e8∧Keeps (Two b rb) w u)∧u.ownsRow (P+1) 9 1 (.slice A1 n1 c1) n1 (strCells tags)∧u.ownsRow (P+1) 52 3 (.slice A2 n2 c2) n2 (dy aQ)∧u.ownsRow (P+1) 55 4 (.slice A3 n3 c3) n3 (l9 ends)) (fun u i x hq=>⟨hq.1.1.put hq.1.2 hbl hrl Le.out i x,aV hq.2.1 (oG P),aV hq.2.2.1 (oG P),aV hq.2.2.2 (oG P)⟩) ⟨HGb.out,afp.out,afq.out,afo.out⟩ (.string key) (.string bu) (.string user) (.slice A1 n1 c1) (.slice A2 n2 c2) (.int .u64 ex) (.int .u8 bm) (.slice A3 n3 c3);have ac2:w.heap.size≤P+1:=Nat.le_succ_of_le Le.out;exact bodyPost_ret (fS (x:=2) rfl rfl (sD s8)) rfl ⟨⟨⟨⟨key,bu,user,tags,aQ,ex,bm,ends⟩,.slice A1 n1 c1,.slice A2 n2 c2,.slice A3 n3 c3⟩,rfl,rfl,⟨by simp only;rw[←jL.out];exact oz1.mono ac2,by simp only;rw[←kX.out];exact oz2.mono ac2,by simp only;rw[←vX.out];exact oz3.mono ac2⟩⟩,pz,qz⟩
theorem NK(l:List En):∀u∈l9 l,u.oneCell'=true:=by
 intro u hu;obtain⟨s,_,hs⟩:=List.mem_flatMap.1 hu;simp[cF]at hs;rcases hs with rfl|rfl|rfl|rfl<;>rfl
theorem wO(l:List Ry):∀u∈dX l,u.oneCell'=true:=by
 intro u hu;obtain⟨s,_,hs⟩:=List.mem_flatMap.1 hu;simp[bH]at hs;rcases hs with rfl|rfl|rfl|rfl|rfl|rfl<;>rfl
theorem NL(l:List Ad):∀u∈dy l,u.oneCell'=true:=by
 intro u hu;obtain⟨s,_,hs⟩:=List.mem_flatMap.1 hu;simp[Ad.cells]at hs;rcases hs with rfl|rfl|rfl<;>rfl
def Wh(p:Pr)(w:World)(r:Ending)(w':World):Prop:=(∃X:bS,r=.returned (.agg X.vals.toArray)∧X.p=p∧dm w' w.heap.size X)∧aW w w'
theorem rn{w:World}{X:bS}(hX:fc w X)(sX:gQ X.p):Calls ah 25 #[.agg X.vals.toArray] w (Wh X.p w):=by
 have ht:=fun u(hu:aW w u)=>Qv (hX.tags.below hu) sX.tl (Nr _)
 have ha:=fun u(hu:aW w u)=>VS (hX.aQ.below hu) sX.al (NL _)
 have he:=fun u(hu:aW w u)=>VT (hX.ends.below hu) sX.el (NK _)
 obtain⟨A1,c1,e1⟩:=hX.tags.shape;obtain⟨A2,c2,e2⟩:=hX.aQ.shape;obtain⟨A3,c3,e3⟩:=hX.ends.shape;clear hX sX;obtain⟨⟨key,bu,user,tags,aQ,ex,bm,ends⟩,tv,av,ev⟩:=X;simp only at*;subst e1 e2 e3;unfold uT at ht ha he;unfold Wh bS.vals;simp only;obtain⟨n1,hn1⟩:=bw tags.length;obtain⟨n2,hn2⟩:=bw aQ.length;obtain⟨n3,hn3⟩:=bw ends.length;rw[←hn1]at ht⊢;rw[←hn2]at ha⊢;rw[←hn3]at he⊢;obtain⟨jL,kX,vX,HT,HA,HE⟩:=ot hn1 hn2 hn3 ht ha he;clear ht ha he hn1 hn2 hn3;have HP:=ae (aH.new w 47 #[.string key,.string bu,.string user,.slice A1 n1 c1,.slice A2 n2 c2,.int .u64 ex,.int .u8 bm,.slice A3 n3 c3]);have hb1:=boxed w (.cells #[.string key,.string bu,.string user,.slice A1 n1 c1,.slice A2 n2 c2,.int .u64 ex,.int .u8 bm,.slice A3 n3 c3] 47);have HB:=ae hb1;have HPl:ag (w.heap.size<(w.alloc (.cells #[.string key,.string bu,.string user,.slice A1 n1 c1,.slice A2 n2 c2,.int .u64 ex,.int .u8 bm,.slice A3 n3 c3] 47)).heap.size):=ae (by simp);clear hb1;go_enter Tryz.func25,Tryz.ntmps25;go_upto_region 1 with fail
 have hbz:=boxed (w.alloc (.cells #[.string key,.string bu,.string user,.slice A1 n1 c1,.slice A2 n2 c2,.int .u64 ex,.int .u8 bm,.slice A3 n3 c3] 47)) (.cells #[aG,aG,aG,au,au,.int .u64 0,.int .u8 0,au] 47);have HB2:=bg HB hbz;have HP2:=ae (bK HP hbz);have hR:=aH.new (w.alloc (.cells #[.string key,.string bu,.string user,.slice A1 n1 c1,.slice A2 n2 c2,.int .u64 ex,.int .u8 bm,.slice A3 n3 c3] 47)) 47 #[aG,aG,aG,au,au,.int .u64 0,.int .u8 0,au];rw[show(w.alloc (.cells #[.string key,.string bu,.string user,.slice A1 n1 c1,.slice A2 n2 c2,.int .u64 ex,.int .u8 bm,.slice A3 n3 c3] 47)).heap.size=w.heap.size+1 by simp]at hR;have HR2:=ae hR;have HS2:ag (w.heap.size+2≤((w.alloc (.cells #[.string key,.string bu,.string user,.slice A1 n1 c1,.slice A2 n2 c2,.int .u64 ex,.int .u8 bm,.slice A3 n3 c3] 47)).alloc (.cells #[aG,aG,aG,au,au,.int .u64 0,.int .u8 0,au] 47)).heap.size):=ae (by simp);clear hbz hR HB HP HPl;generalize(w.alloc (.cells #[.string key,.string bu,.string user,.slice A1 n1 c1,.slice A2 n2 c2,.int .u64 ex,.int .u8 bm,.slice A3 n3 c3] 47)).alloc (.cells #[aG,aG,aG,au,au,.int .u64 0,.int .u8 0,au] 47)=w2 at HB2 HP2 HR2 HS2⊢;have hQ:∃P R Q,P=w.heap.size∧R=w.heap.size+1∧Q=w.heap.size+2:=⟨_,_,_,rfl,rfl,rfl⟩;obtain⟨P,R,Q,eP,eR,eQ⟩:=hQ;rw[←eP]at HP2;rw[←eR]at HR2;rw[←eQ]at HS2;rw[←eR,←eP];have HPQ:ag (P<Q∧R<Q∧P≠R∧w.heap.size≤P∧w.heap.size≤R∧w.heap.size≤Q):=ae aR;clear eP eR eQ;obtain⟨-,-,-,a3,a4,-,-,a7⟩:=dB HP2;obtain⟨Wi,ac3,ac4⟩:=bz HB2.out.drew HP2.out.drew HR2.out.drew;have Wj:ag (Q≤w2.drew.heap.size):=ae HS2.out;refine km 10 (fun w'=>w'.cell? ⟨P,3,none⟩=some (.slice A1 n1 c1)∧w'.cell? ⟨P,4,none⟩=some (.slice A2 n2 c2)∧w'.cell? ⟨P,7,none⟩=some (.slice A3 n3 c3)) bo (⟨a3,a4,a7⟩) (fun hHeld=>?_);refine vy 0 ?_
 refine vy 1 ?_
 refine vy 3 ?_
 refine vy 4 ?_
 refine vy 6 ?_
 refine vy 7 ?_
 refine vP 2 fun K hK=>?_;go_simp;refine(HT.out _ Wi.out).mono ?_;rintro r wa⟨⟨B1,m1,rfl,oa⟩,da⟩;have iI:=bg Wi da;obtain⟨iM,IV,HSa,HOa⟩:=cU (bK ac3 da) (bK ac4 da) (aw Wj.out da.size) (oa.mono Wj.out);clear oa;refine hK.out _ _ (fun _=>⟨ai hHeld.1 da,ai hHeld.2.1 da,ai hHeld.2.2 da⟩) (fun hHeld=>?_);have hHeld:=hHeld aJ;clear hK K;try simp only[ck]
 refine vy 9 ?_
 refine vP 5 fun K hK=>?_;go_simp;refine(HA.out _ iI.out).mono ?_;rintro r wb⟨⟨B2,m2,rfl,ob⟩,db⟩;have kU:=bg iI db;obtain⟨fY,EO,HSb,HOb,HUb⟩:=eB (bK iM db) (bK IV db) (aw HSa.out db.size) (own_below HOa.out db) (ob.mono HSa.out);clear ob;refine hK.out _ _ (fun _=>⟨ai hHeld.1 db,ai hHeld.2.1 db,ai hHeld.2.2 db⟩) (fun hHeld=>?_);have hHeld:=hHeld aJ;clear hK K;try simp only[ck]
 refine vP 8 fun K hK=>?_;go_simp;refine(HE.out _ kU.out).mono ?_;rintro r wc⟨⟨B3,m3,rfl,oc⟩,dc⟩;have HBc:=bg kU dc;have hPc:=bK fY dc;obtain⟨qi,HRc,HOc,HUc,HVc⟩:=eB hPc (bK EO dc) (own_below HOb.out dc) (own_below HUb.out dc) (oc.mono HSb.out);have y3:=hPc.cell 3;have y4:=hPc.cell 4;have y7:=hPc.cell 7;simp at y3 y4 y7;have fz:=fun i=>hPc.frozen i
 clear oc hPc;refine hK.out _ _ (fun _=>⟨ai hHeld.1 dc,ai hHeld.2.1 dc,ai hHeld.2.2 dc⟩) (fun hHeld=>?_);have hHeld:=hHeld aJ;clear hK K;try simp only[ck]
 refine vP 10 fun K hK=>?_;go_simp;refine hK.out _ _ (fun h=>absurd h aJ) (fun _=>?_);clear hK K;try clear hHeld
 try simp only[ck]
 refine vP 11 fun K hK=>?_;go_simp;refine hK.out _ _ (fun h=>absurd h aJ) (fun _=>?_);clear hK K;try clear hHeld
 try simp only[ck]
 refine vP 12 fun K hK=>?_;go_simp;refine hK.out _ _ (fun h=>absurd h aJ) (fun _=>?_);clear hK K;try clear hHeld
 try simp only[ck]
 refine vP 13 fun K hK=>?_;go_simp;refine hK.out _ _ (fun h=>absurd h aJ) (fun _=>?_);clear hK K;try clear hHeld
 try simp only[ck]
 refine vP 14 fun K hK=>?_;go_simp;refine hK.out _ _ (fun h=>absurd h aJ) (fun _=>?_);clear hK K;try clear hHeld
 try simp only[ck]
 refine zdX ?_;have q1:aH _ P 47 #[.string key,.string bu,.string user,.slice B1 n1 m1,.slice B2 n2 m2,.int .u64 ex,.int .u8 bm,.slice B3 n3 m3]:=((qi.out.aM 3 (.slice B1 n1 m1)).aM 4 (.slice B2 n2 m2)).aM 7 (.slice B3 n3 m3);have q2:=((HRc.out.far (p:=⟨P,3,none⟩) HPQ.out.2.2.1.symm (.slice B1 n1 m1)).far (p:=⟨P,4,none⟩) HPQ.out.2.2.1.symm (.slice B2 n2 m2)).far (p:=⟨P,7,none⟩) HPQ.out.2.2.1.symm (.slice B3 n3 m3);have q3:=((HBc.out.setCell (p:=⟨P,3,none⟩) HPQ.out.2.2.2.1 (.slice B1 n1 m1)).setCell (p:=⟨P,4,none⟩) HPQ.out.2.2.2.1 (.slice B2 n2 m2)).setCell (p:=⟨P,7,none⟩) HPQ.out.2.2.2.1 (.slice B3 n3 m3);have q4:=aV (k:=7) (u:=.slice B3 n3 m3) (aV (k:=4) (u:=.slice B2 n2 m2) (aV (k:=3) (u:=.slice B1 n1 m1) HOc.out HPQ.out.1) HPQ.out.1) HPQ.out.1;have q5:=aV (k:=7) (u:=.slice B3 n3 m3) (aV (k:=4) (u:=.slice B2 n2 m2) (aV (k:=3) (u:=.slice B1 n1 m1) HUc.out HPQ.out.1) HPQ.out.1) HPQ.out.1;have q6:=aV (k:=7) (u:=.slice B3 n3 m3) (aV (k:=4) (u:=.slice B2 n2 m2) (aV (k:=3) (u:=.slice B1 n1 m1) HVc.out HPQ.out.1) HPQ.out.1) HPQ.out.1;clear y3 y4 y7 fz qi HRc HBc HOc HUc HVc a3 a4 a7;generalize((wc.setCell ⟨P,3,none⟩ (.slice B1 n1 m1)).setCell ⟨P,4,none⟩ (.slice B2 n2 m2)).setCell ⟨P,7,none⟩ (.slice B3 n3 m3)=wd at q1 q2 q3 q4 q5 q6⊢;have x0:=q1.cell 0;have z0:=q2.cell 0;have x1:=q1.cell 1;have z1:=q2.cell 1;have x2:=q1.cell 2;have z2:=q2.cell 2;have x3:=q1.cell 3;have z3:=q2.cell 3;have x4:=q1.cell 4;have z4:=q2.cell 4;have x5:=q1.cell 5;have z5:=q2.cell 5;have x6:=q1.cell 6;have z6:=q2.cell 6;have x7:=q1.cell 7;have z7:=q2.cell 7;simp at x0 x1 x2 x3 x4 x5 x6 x7 z0 z1 z2 z3 z4 z5 z6 z7;have fr:=fun i=>q2.frozen i
 obtain⟨HQ1,HQ2,yi,Nz,Yo,HQ6⟩:=ot q1 q2 q3 q4 q5 q6;clear q1 q2 q3 q4 q5 q6;go_wp2_with fail
 have s1:aH _ R 47 #[.string key,aG,aG,au,au,.int .u64 0,.int .u8 0,au]:=HQ2.out.aM 0 (.string key);have s2:aH _ R 47 #[.string key,.string bu,aG,au,au,.int .u64 0,.int .u8 0,au]:=s1.aM 1 (.string bu);have s3:aH _ R 47 #[.string key,.string bu,.string user,au,au,.int .u64 0,.int .u8 0,au]:=s2.aM 2 (.string user);have s4:aH _ R 47 #[.string key,.string bu,.string user,.slice B1 n1 m1,au,.int .u64 0,.int .u8 0,au]:=s3.aM 3 (.slice B1 n1 m1);have s5:aH _ R 47 #[.string key,.string bu,.string user,.slice B1 n1 m1,.slice B2 n2 m2,.int .u64 0,.int .u8 0,au]:=s4.aM 4 (.slice B2 n2 m2);have s6:aH _ R 47 #[.string key,.string bu,.string user,.slice B1 n1 m1,.slice B2 n2 m2,.int .u64 ex,.int .u8 0,au]:=s5.aM 5 (.int .u64 ex);have s7:aH _ R 47 #[.string key,.string bu,.string user,.slice B1 n1 m1,.slice B2 n2 m2,.int .u64 ex,.int .u8 bm,au]:=s6.aM 6 (.int .u8 bm);have s8:aH _ R 47 #[.string key,.string bu,.string user,.slice B1 n1 m1,.slice B2 n2 m2,.int .u64 ex,.int .u8 bm,.slice B3 n3 m3]:=s7.aM 7 (.slice B3 n3 m3);obtain⟨oz0,oz1,oz2,oz3⟩:=V6 (P:=R) (Q:=fun u=>aW w u∧u.ownsRow Q 9 1 (.slice B1 n1 m1) n1 (strCells tags)∧u.ownsRow Q 52 3 (.slice B2 n2 m2) n2 (dy aQ)∧u.ownsRow Q 55 4 (.slice B3 n3 m3) n3 (l9 ends)) (fun u i x hq=>⟨hq.1.setCell (p:=⟨R,i,none⟩) HPQ.out.2.2.2.2.1 x,aV hq.2.1 HPQ.out.2.1,aV hq.2.2.1 HPQ.out.2.1,aV hq.2.2.2 HPQ.out.2.1⟩) ⟨yi.out,Nz.out,Yo.out,HQ6.out⟩ (.string key) (.string bu) (.string user) (.slice B1 n1 m1) (.slice B2 n2 m2) (.int .u64 ex) (.int .u8 bm) (.slice B3 n3 m3);exact bodyPost_ret (fS (x:=2) rfl rfl (sD s8)) rfl ⟨⟨⟨⟨key,bu,user,tags,aQ,ex,bm,ends⟩,.slice B1 n1 m1,.slice B2 n2 m2,.slice B3 n3 m3⟩,rfl,rfl,⟨by simp only;rw[←jL.out];exact oz1.mono HPQ.out.2.2.2.2.2,by simp only;rw[←kX.out];exact oz2.mono HPQ.out.2.2.2.2.2,by simp only;rw[←vX.out];exact oz3.mono HPQ.out.2.2.2.2.2⟩⟩,oz0⟩
theorem wP{α:Type}{l:List α}{k:Nat}{x:α}(h:l[k]? =some x):l.take (k+1)=l.take k++[x]:=by
 rw[List.take_add_one,h];rfl
def yw(l:List Pr)(w:World)(r:Ending)(w':World):Prop:=(∃A c,r=.returned (.slice A l.length c)∧cA w' w.heap.size (.slice A l.length c) l)∧aW w w'
theorem qM{w:World}{v:Value}{l:List Pr}(hp:df w v l)(sz:∀p∈l,gQ p)(hl:l.length≤2000000):Calls ah 60 #[v] w (yw l w):=by
 obtain⟨xs,hxl,hr,hm⟩:=hp;obtain⟨j0,lD,hz0,hz1,hz2⟩:=info_parts mY;obtain⟨N,hN⟩:=bw xs.length;have hlN:l.length=N:=by rw[←hxl,ay,hN]
 obtain⟨A0,cap0,rfl,_,hA⟩:=hr;unfold yw;rw[hlN]at hl⊢;rw[←hN]at hA⊢;obtain⟨HA,HM,HN,Wl,HSz⟩:=eB hA hm hN hxl sz;clear hA hm hN hxl sz hlN;go_enter Tryz.func60,Tryz.ntmps60;go_wp2_with fail
 go_loopw [3,8] (fun v3 v8 wr=>∃(k:Nat)(A:Option Addr)(c:Nat)(ys:List bS),k≤N∧v8=.int .i64 k∧v3=.slice A k c∧ag (wr.ownsRow w.heap.size 47 8 (.slice A k c) k (cY ys))∧ag (∀Y∈ys,dm wr w.heap.size Y)∧ag (ys.map (·.p)=(xs.take k).map (·.p))∧ag (ys.length=k)∧ag (aW w wr)) (fun _ v8 _=>N-(intOf v8).toNat)
 case atStart=>exact⟨0,none,0,[],Nat.zero_le _,rfl,rfl,ae (bh _ _ _ _),ae (fun Y hY=>by cases hY),ae rfl,ae rfl,ae (aI _ _)⟩
 case round=>
  obtain⟨k,A,c,ys,hk,rfl,rfl,how,hys,hmap,hyl,HW⟩:=hrel;obtain⟨wo,rfl⟩:=bw (wr:World);by_cases hlt:k<N
  case neg=>
   obtain rfl:N=k:=by omega
   have hfin:ag (cA wo w.heap.size (.slice A N c) l):=ae (by
    have e:=hmap.out;rw[aN (by rw[HN.out];exact ax _),Wl.out]at e;exact⟨ys,e,by rw[hyl.out];exact how.out,hys.out⟩)
   clear how hys hmap hyl;go_wp2_with fail
   go_ret;exact⟨⟨A,c,rfl,hfin.out⟩,HW.out⟩
  have hkl:k<xs.length:=by have:=HN.out;omega
  have htn:=wP (af hkl);obtain⟨q1,o1,rfl,hc1⟩:=HA.out aR;have hm1:=HM.out _ (aZ hkl);have hs1:=HSz.out _ (by rw[←Wl.out];exact List.mem_map_of_mem (aZ hkl));have g10:=aD bS.vals 8 aB (af hkl) (r:=0) rfl;have g11:=aD bS.vals 8 aB (af hkl) (r:=1) rfl;have g12:=aD bS.vals 8 aB (af hkl) (r:=2) rfl;have g13:=aD bS.vals 8 aB (af hkl) (r:=3) rfl;have g14:=aD bS.vals 8 aB (af hkl) (r:=4) rfl;have g15:=aD bS.vals 8 aB (af hkl) (r:=5) rfl;have g16:=aD bS.vals 8 aB (af hkl) (r:=6) rfl;have g17:=aD bS.vals 8 aB (af hkl) (r:=7) rfl;have d10:=ai (hc1 _ _ g10) HW.out;have d11:=ai (hc1 _ _ g11) HW.out;have d12:=ai (hc1 _ _ g12) HW.out;have d13:=ai (hc1 _ _ g13) HW.out;have jM:=ai (hc1 _ _ g14) HW.out;have mG:=ai (hc1 _ _ g15) HW.out;have jV:=ai (hc1 _ _ g16) HW.out;have nk:=ai (hc1 _ _ g17) HW.out;clear hc1 g10 g11 g12 g13 g14 g15 g16 g17;generalize xs[k]=X at htn hm1 hs1 d10 d11 d12 d13 jM mG jV nk;have hcall:=fun u(hu:aW w u)=>rn (hm1.below hu) hs1
  obtain⟨gk,c11,e11⟩:=hm1.tags.shape;obtain⟨gi,c12,e12⟩:=hm1.aQ.shape;obtain⟨jJ,c13,e13⟩:=hm1.ends.shape;clear hm1 hs1;obtain⟨⟨key1,bD,b8,ew,dr,gU,bA,eJ⟩,Yq,Yr,ev1⟩:=X;simp only at e11 e12 e13 d10 d11 d12 d13 jM mG jV nk;subst e11 e12 e13;unfold bS.vals Wh at hcall;simp only at hcall;obtain⟨n11,yx⟩:=bw ew.length;obtain⟨n12,yy⟩:=bw dr.length;obtain⟨n13,yA⟩:=bw eJ.length;rw[←yx,←yy,←yA]at hcall;rw[←yx]at d13;rw[←yy]at jM;rw[←yA]at nk;rw[Nat.add_zero]at d10;rw[←Nat.add_assoc]at d11 d12 d13 jM mG jV nk;obtain⟨bG,HTn⟩:=aL hcall htn;clear hcall htn hkl yx yy yA;obtain⟨HB1,od,HO1⟩:=bz (after HW.out (boxed wo (.cells #[.string key1,.string bD,.string b8,.slice gk n11 c11,.slice gi n12 c12,.int .u64 gU,.int .u8 bA,.slice jJ n13 c13] 47))) (aH.new wo 47 #[.string key1,.string bD,.string b8,.slice gk n11 c11,.slice gi n12 c12,.int .u64 gU,.int .u8 bA,.slice jJ n13 c13]) (own_below how.out (boxed wo (.cells #[.string key1,.string bD,.string b8,.slice gk n11 c11,.slice gi n12 c12,.int .u64 gU,.int .u8 bA,.slice jJ n13 c13] 47)));have HY1:ag (∀Y∈ys,dm (wo.alloc (.cells #[.string key1,.string bD,.string b8,.slice gk n11 c11,.slice gi n12 c12,.int .u64 gU,.int .u8 bA,.slice jJ n13 c13] 47)) w.heap.size Y):=ae (fun Y hY=>(hys.out Y hY).low (boxed wo _));go_upto_region 5 with fail
  generalize wo.alloc (.cells #[.string key1,.string bD,.string b8,.slice gk n11 c11,.slice gi n12 c12,.int .u64 gU,.int .u8 bA,.slice jJ n13 c13] 47)=w1 at HB1 od HO1 HY1⊢;generalize wo.heap.size=P at od⊢;clear d10 d11 d12 d13 jM mG jV nk how hys;obtain⟨x0,x1,x2,x3,x4,x5,x6,x7⟩:=dB od;go_wp2_with(first
   |(go_at_call 25;refine(bG.out _ HB1.out).mono ?_;rintro r w3⟨⟨⟨⟨key2,bB,cf,du,cH,iP,bJ,dw⟩,tv2,av2,ev2⟩,rfl,G4,pJ⟩,d3⟩;obtain⟨jq,c21,e21⟩:=aX pJ.tags;obtain⟨jr,js,e22⟩:=aX pJ.aQ;obtain⟨mh,c23,e23⟩:=aX pJ.ends;simp only at e21 e22 e23;subst e21 e22 e23;obtain⟨NJ,V5⟩:=aL (pJ.mono HB1.out.size) G4;obtain⟨n21,nN⟩:=bw du.length;obtain⟨n22,nO⟩:=bw cH.length;obtain⟨n23,nP⟩:=bw dw.length;unfold bS.vals;simp only;rw[←nN,←nO,←nP];obtain⟨jL,kX,vX⟩:=bz nN nO nP;have HB3:=bg HB1 d3;have oL:=ae (own_below HO1.out d3);have HY3:ag (∀Y∈ys,dm w3 w.heap.size Y):=ae (fun Y hY=>(HY1.out Y hY).low d3);clear nN nO nP pJ G4 d3)
   |(at_builtin;refine wpList_append_own _ rfl _ _ 23 rfl w.heap.size 47 j0 (.agg #[aG,aG,aG,au,au,.int .u64 0,.int .u8 0,au]) 8 136 aif lD hz0 hz1 hz2 rfl aJ _ k _ rfl (oL.out.alloc _) ⟨w3.heap.size,0,none⟩ 1 1 [.string key2,.string bB,.string cf,.slice jq n21 c21,.slice jr n22 js,.int .u64 iP,.int .u8 bJ,.slice mh n23 c23] rfl rfl (cS w3 [.string key2,.string bB,.string cf,.slice jq n21 c21,.slice jr n22 js,.int .u64 iP,.int .u8 bJ,.slice mh n23 c23] 47) (by intro u hu;simp at hu;rcases hu with rfl|rfl|rfl|rfl|rfl|rfl|rfl|rfl<;>rfl) (by unfold maxLen;omega) aR (by have:=HB3.out.size;simp;omega) ?_;intro v' w4 pW hg4 hn4;obtain⟨A4,c4,rfl⟩:=aX pW;obtain⟨Bh,Bi⟩:=aL pW hg4;clear pW hg4 hn4))
  go_roundw
  case rel=>
   have hb3:=boxed w3 (.cells ([.string key2,.string bB,.string cf,.slice jq n21 c21,.slice jr n22 js,.int .u64 iP,.int .u8 bJ,.slice mh n23 c23]:List Value).toArray 47);have hkr:=Keeps.row Bi.out;have hoff:=cG (oL.out.alloc (.cells ([.string key2,.string bB,.string cf,.slice jq n21 c21,.slice jr n22 js,.int .u64 iP,.int .u8 bJ,.slice mh n23 c23]:List Value).toArray 47));refine⟨k+1,A4,c4,ys++[⟨⟨key2,bB,cf,du,cH,iP,bJ,dw⟩,.slice jq du.length c21,.slice jr cH.length js,.slice mh dw.length c23⟩],by omega,by go_num,rfl,ae (by rw[lB];unfold bS.vals;simp only;rw[←jL.out,←kX.out,←vX.out];exact Bh.out),ae ?_,ae (by rw[cL,HTn.out,cL,hmap.out,ahM,ahM];simp only;rw[←V5.out]),ae (by rw[aj,hyl.out];rfl),ae ((HB3.out.alloc HB3.out.size _).grown Bi.out (by have:=HB3.out.size;simp;omega) fun q hq=>(oL.out.lt q hq).1)⟩;intro Y hY;rcases List.mem_append.1 hY with hY|hY
   ·exact((HY3.out Y hY).low hb3).keep hkr hoff aJ aJ (by decide)
   ·rw[List.mem_singleton.1 hY];exact((NJ.out.low hb3).keep hkr hoff aJ aJ aJ)
  case measure=>simp[intOf];omega
end Go.Proofs.YtkjaajcpbldjoabGreatDoor
