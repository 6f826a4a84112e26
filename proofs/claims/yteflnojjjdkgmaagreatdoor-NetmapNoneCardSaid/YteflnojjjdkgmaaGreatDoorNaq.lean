/- Joined out of: PeC PeD PeE PeF PeH PeI PeJ PeK PeL PeM NfA. -/
import Derived.Test.YteflnojjjdkgmaaGreatDoorNap
set_option linter.unusedVariables false
set_option linter.unusedSimpArgs false
set_option maxHeartbeats 16000000
set_option maxRecDepth 100000
open Go.Lib renaming hid→ae
open Go.Proofs.Tryz renaming prog→ag,underlying9→aZ,underlying5→bV,underlying67→cn
open Go.RowKit renaming Hid→af
open Go.RowKit.Below renaming refl→aG
open List renaming getElem?_eq_getElem→ah,length_append→ai,length_map→ax,getD_eq_getElem?_getD→ay,range→aA,append_assoc→aO,getElem_mem→bB,append_nil→dY,getElem?_eq_none→rZ,mem_map_of_mem→aeE
open Nat renaming le_trans→au,le_refl→aw,zero_le→bD,add_zero→dq
namespace Go.Proofs.YteflnojjjdkgmaaGreatDoor
open Go.RowKit
attribute [local go_sem↓] Go.wp_at_zero Go.wp_at_succ
attribute [local go_sem] dB
theorem vy{B b:Nat}{D:List UInt8}{w:World}(e:En)(ok:xi e.1)(op:e.2<65536)(h:gP B b D w)(hlen:D.length≤900000000)(hBw:B≤w.heap.size):Calls ag 84 #[.pointer (some ⟨b,0,none⟩),.agg (cL e).toArray] w (Put B b D (C0 e) w):=by
 have hal:=Jn e.1;have had:=fun u(hu:Below w.heap.size w u)=>sT e.1 ok (h.below hu) aM (au hBw hu.size)
 have hpo:=fun u=>lJ e.2 op u
 have hput:=fun v u(hp:gP B b (D++wK e.1) v)(hv:B≤v.heap.size)(hu:Below v.heap.size v u)=>ip (w:=u) [be 2 e.2] (hp.below hu) (by simp) (by rw[dV,bU,aR,ai];omega) (au hv hu.size) 1 rfl
 have ei:af (w.heap.size≠b):=ae (by have:=h.lt;omega);obtain⟨X,hX⟩:∃x,x=C0 e:=⟨_,rfl⟩;rw[←hX];have hX2:D++wK e.1++fw [be 2 e.2]=D++X:=by rw[hX,dV,bU,aO];rfl
 have HX:=ae hX2;have hb1:=boxed w (.cells (cL e).toArray 82);obtain⟨HP,HB1,HB⟩:=bj (aD.new w 82 (cL e).toArray) hb1 hBw;unfold Put at had⊢;obtain⟨⟨v,hi,lo⟩,po⟩:=e;unfold cL at HP HB1⊢;simp only at*;unfold Ad.cells at had;simp only at had;obtain⟨HAd,Lu,kc⟩:=bj had hpo hput;clear had hpo hput hX hX2 hb1 h hBw hal ok op;go_enter Tryz.func84,Tryz.ntmps84;go_upto_region 1 with fail
 generalize w.alloc (.cells #[.bool v,.int .u64 hi,.int .u64 lo,.int .u16 po] 82)=w1 at HP HB1⊢;generalize w.heap.size=P at HP ei⊢;obtain⟨a0,a1,a2⟩:=iE HP;go_upto_region 2 with(go_at_call 82;(with_reducible refine(HAd.out _ HB1.out).mono ?_);rintro r w2⟨rfl,p2,k2⟩)
 have HP2:=ae (k2.kept _ _ _ HP.out ei.out aF);obtain⟨-,-,-,a3⟩:=dy HP2;have hB2:=au HB.out (au HB1.out.size k2.below.size);obtain⟨HB2,kE,ad2⟩:=bj hB2 k2 p2;clear a0 a1 a2 hB2 k2 p2;go_wp2_with(first
  |(go_at_call 79;(with_reducible refine(Lu.out _).mono ?_);rintro r w3⟨rfl,d3⟩)
  |(go_at_call 28;(refine(kc.out w2 w3 ad2.out HB2.out d3).mono ?_);rintro r w4⟨rfl,p4,k4⟩;rw[HX.out]at p4))
 go_end0
 exact⟨rfl,p4,(kE.out.low HB.out HB1.out).trans (k4.low HB2.out d3)⟩
theorem iO{β:Type}(E:Nat→List β)(k:Nat):(aA (k+1)).flatMap E=(aA k).flatMap E++E k:=by
 rw[List.range_succ,List.flatMap_append];simp
theorem f8{β:Type}(E:Nat→List β){k n:Nat}(h:k≤n):((aA k).flatMap E).length≤((aA n).flatMap E).length:=by
 induction n with
 |zero=>rw[Nat.le_zero.1 h];exact aw _
 |succ n ih=>
  rcases Nat.lt_or_ge k (n+1)with h1|h1
  ·rw[iO E n,ai];have:=ih aM;omega
  ·rw[show k=n+1 by omega];exact aw _
theorem MZ{B b:Nat}{D:List UInt8}{w:World}{A:Option Addr}{N cap:Nat}{M:Nat}(hM:M≤800000000)(hN:N<65536)(cs:Nat→ByteArray)(E:Nat→List UInt8)(hc:lZ w A N cs)(hA:0<N→∀g o,A=some ⟨g,o,none⟩→g<B)(f:Nat)(eg:∀args w,(callFunc f args).run ag w=.ok (.enter f args) w)(h:gP B b D w)(hBw:B≤w.heap.size)(hlen:D.length+2+((aA N).flatMap E).length≤M)(hf:∀k,k<N→∀W D',Below B w W→gP B b D' W→D'.length≤M→B≤W.heap.size→Calls ag f #[.pointer (some ⟨b,0,none⟩),.string (cs k)] W (Put B b D' (E k) W)):Calls ag 80 #[.pointer (some ⟨b,0,none⟩),.slice A N cap,.func (.func f) #[.pointer (some ⟨b,0,none⟩)] #[]] w (Put B b D (fk 2 N++(aA N).flatMap E) w):=by
 have hu:=fun u=>lJ N hN u
 have hw:IntKind.u16.wrap (N:Int)=(N:Int):=by
  show(N:Int)%65536=_;omega
 have hput:=fun u(hu:Below w.heap.size w u)=>ip (w:=u) [be 2 N] (h.below hu) (by simp) (by rw[dV,bU,aR];omega) (au hBw hu.size) 1 rfl
 rw[show fw [be 2 N]=fk 2 N by rw[dV,bU]]at hput;obtain⟨HC,HF,HA,HB,HLen,HU,kc⟩:=mS hc hf hA hBw hlen hu hput;unfold Put at HF⊢;clear hc hf hA hBw hlen h hu hput;go_enter Tryz.func80,Tryz.ntmps80;go_wp2_with(first
  |(go_at_call 79;(with_reducible refine(HU.out _).mono ?_);rintro r w1⟨rfl,d1⟩)
  |(go_at_call 28;(refine(kc.out _ d1).mono ?_);rintro r w2⟨rfl,p2,k2⟩;obtain⟨HP2,kE⟩:=aI p2 (k2.low HB.out d1);clear p2 k2))
 go_loopw [17] (fun v17 wr=>∃k:Nat,k≤N∧v17=.int .i64 k∧af (gP B b (D++fk 2 N++(aA k).flatMap E) wr)∧af (Wrote B b w wr)) (fun v17 _=>N-(intOf v17).toNat)
 case atStart=>exact⟨0,bD _,rfl,ae (by rw[show(aA 0).flatMap E=[]from rfl,dY];exact HP2.out),kE⟩
 case round=>
  obtain⟨k,hk,rfl,hp,hb⟩:=hrel;have hBr:=au HB.out hb.out.below.size;have Oi:=ae hBr;by_cases hlt:k<N
  ·have hlr:(D++fk 2 N++(aA k).flatMap E).length≤M:=by
    have h1:=f8 E hk;have h2:=HLen.out;simp only[ai,aR]at*;omega
   obtain⟨q,o,rfl,hcell⟩:=HC.out k hlt;have hcall:=fun u(hu:Below wr.heap.size wr u)=>HF.out k hlt u (D++fk 2 N++(aA k).flatMap E) (hb.out.below.trans (hu.mono hBr)) (hp.out.below hu) hlr (au hBr hu.size)
   have d0:=(hb.out.below.cell (p:=⟨q,o+k,none⟩) (HA.out aM _ _ rfl)).trans hcell;generalize cs k=L at d0 hcall;have bo:=ae hcall;clear hcall hcell;clear hlr hBr;go_wp2_with(go_at_fn f;(with_reducible refine(bo.out _ (aG _ _)).mono ?_);rintro r w4⟨rfl,p4,k4⟩;have yk:=ae p4;clear p4)
   go_roundw
   case rel=>exact⟨k+1,by omega,by go_num,ae (by rw[iO,←aO];exact yk.out),ae (hb.out.trans (k4))⟩
   case measure=>simp[intOf];omega
  ·obtain rfl:k=N:=by omega
   clear hBr;go_wp2_with fail
   go_end0
   exact⟨rfl,by rw[←aO];exact hp.out,hb.out⟩
theorem GK{B b:Nat}{D:List UInt8}{w:World}{A:Option Addr}{N cap:Nat}{M:Nat}(hM:M≤800000000)(hN:N<65536)(cs:Nat→Ad)(E:Nat→List UInt8)(hc:dh w A N 3 fun k=>(fun a:Ad=>a.cells.toList) (cs k))(hA:0<N→∀g o,A=some ⟨g,o,none⟩→g<B)(f:Nat)(eg:∀args w,(callFunc f args).run ag w=.ok (.enter f args) w)(h:gP B b D w)(hBw:B≤w.heap.size)(hlen:D.length+2+((aA N).flatMap E).length≤M)(hf:∀k,k<N→∀W D',Below B w W→gP B b D' W→D'.length≤M→B≤W.heap.size→Calls ag f #[.pointer (some ⟨b,0,none⟩),.agg ((fun a:Ad=>a.cells.toList) (cs k)).toArray] W (Put B b D' (E k) W)):Calls ag 81 #[.pointer (some ⟨b,0,none⟩),.slice A N cap,.func (.func f) #[.pointer (some ⟨b,0,none⟩)] #[]] w (Put B b D (fk 2 N++(aA N).flatMap E) w):=by
 have hu:=fun u=>lJ N hN u
 have hw:IntKind.u16.wrap (N:Int)=(N:Int):=by
  show(N:Int)%65536=_;omega
 have hput:=fun u(hu:Below w.heap.size w u)=>ip (w:=u) [be 2 N] (h.below hu) (by simp) (by rw[dV,bU,aR];omega) (au hBw hu.size) 1 rfl
 rw[show fw [be 2 N]=fk 2 N by rw[dV,bU]]at hput;obtain⟨HC,HF,HA,HB,HLen,HU,kc⟩:=mS hc hf hA hBw hlen hu hput;unfold Put at HF⊢;clear hc hf hA hBw hlen h hu hput;go_enter Tryz.func81,Tryz.ntmps81;go_wp2_with(first
  |(go_at_call 79;(with_reducible refine(HU.out _).mono ?_);rintro r w1⟨rfl,d1⟩)
  |(go_at_call 28;(refine(kc.out _ d1).mono ?_);rintro r w2⟨rfl,p2,k2⟩;obtain⟨HP2,kE⟩:=aI p2 (k2.low HB.out d1);clear p2 k2))
 go_loopw [17] (fun v17 wr=>∃k:Nat,k≤N∧v17=.int .i64 k∧af (gP B b (D++fk 2 N++(aA k).flatMap E) wr)∧af (Wrote B b w wr)) (fun v17 _=>N-(intOf v17).toNat)
 case atStart=>exact⟨0,bD _,rfl,ae (by rw[show(aA 0).flatMap E=[]from rfl,dY];exact HP2.out),kE⟩
 case round=>
  obtain⟨k,hk,rfl,hp,hb⟩:=hrel;have hBr:=au HB.out hb.out.below.size;have Oi:=ae hBr;by_cases hlt:k<N
  ·have hlr:(D++fk 2 N++(aA k).flatMap E).length≤M:=by
    have h1:=f8 E hk;have h2:=HLen.out;simp only[ai,aR]at*;omega
   obtain⟨_,q,o,rfl,hcell⟩:=HC.out k hlt;have hcall:=fun u(hu:Below wr.heap.size wr u)=>HF.out k hlt u (D++fk 2 N++(aA k).flatMap E) (hb.out.below.trans (hu.mono hBr)) (hp.out.below hu) hlr (au hBr hu.size)
   dsimp only at hcell;generalize cs k=x at hcell hcall;obtain⟨v,hi,lo⟩:=x;unfold Ad.cells at hcell hcall;simp only at hcell hcall;have d0:=(hb.out.below.cell (p:=⟨q,o+k*3+0,none⟩) (HA.out aM _ _ rfl)).trans (hcell 0 _ rfl);have d1:=(hb.out.below.cell (p:=⟨q,o+k*3+1,none⟩) (HA.out aM _ _ rfl)).trans (hcell 1 _ rfl);have d2:=(hb.out.below.cell (p:=⟨q,o+k*3+2,none⟩) (HA.out aM _ _ rfl)).trans (hcell 2 _ rfl);rw[dq]at d0;have bo:=ae hcall;clear hcall hcell;clear hlr hBr;go_wp2_with(go_at_fn f;(with_reducible refine(bo.out _ (boxed _ _)).mono ?_);rintro r w4⟨rfl,p4,k4⟩;have yk:=ae p4;clear p4)
   go_roundw
   case rel=>exact⟨k+1,by omega,by go_num,ae (by rw[iO,←aO];exact yk.out),ae (hb.out.trans (k4.low Oi.out (boxed _ _)))⟩
   case measure=>simp[intOf];omega
  ·obtain rfl:k=N:=by omega
   clear hBr;go_wp2_with fail
   go_end0
   exact⟨rfl,by rw[←aO];exact hp.out,hb.out⟩
theorem GL{B b:Nat}{D:List UInt8}{w:World}{A:Option Addr}{N cap:Nat}{M:Nat}(hM:M≤800000000)(hN:N<65536)(cs:Nat→En)(E:Nat→List UInt8)(hc:dh w A N 4 fun k=>cL (cs k))(hA:0<N→∀g o,A=some ⟨g,o,none⟩→g<B)(f:Nat)(eg:∀args w,(callFunc f args).run ag w=.ok (.enter f args) w)(h:gP B b D w)(hBw:B≤w.heap.size)(hlen:D.length+2+((aA N).flatMap E).length≤M)(hf:∀k,k<N→∀W D',Below B w W→gP B b D' W→D'.length≤M→B≤W.heap.size→Calls ag f #[.pointer (some ⟨b,0,none⟩),.agg (cL (cs k)).toArray] W (Put B b D' (E k) W)):Calls ag 83 #[.pointer (some ⟨b,0,none⟩),.slice A N cap,.func (.func f) #[.pointer (some ⟨b,0,none⟩)] #[]] w (Put B b D (fk 2 N++(aA N).flatMap E) w):=by
 have hu:=fun u=>lJ N hN u
 have hw:IntKind.u16.wrap (N:Int)=(N:Int):=by
  show(N:Int)%65536=_;omega
 have hput:=fun u(hu:Below w.heap.size w u)=>ip (w:=u) [be 2 N] (h.below hu) (by simp) (by rw[dV,bU,aR];omega) (au hBw hu.size) 1 rfl
 rw[show fw [be 2 N]=fk 2 N by rw[dV,bU]]at hput;obtain⟨HC,HF,HA,HB,HLen,HU,kc⟩:=mS hc hf hA hBw hlen hu hput;unfold Put at HF⊢;clear hc hf hA hBw hlen h hu hput;go_enter Tryz.func83,Tryz.ntmps83;go_wp2_with(first
  |(go_at_call 79;(with_reducible refine(HU.out _).mono ?_);rintro r w1⟨rfl,d1⟩)
  |(go_at_call 28;(refine(kc.out _ d1).mono ?_);rintro r w2⟨rfl,p2,k2⟩;obtain⟨HP2,kE⟩:=aI p2 (k2.low HB.out d1);clear p2 k2))
 go_loopw [17] (fun v17 wr=>∃k:Nat,k≤N∧v17=.int .i64 k∧af (gP B b (D++fk 2 N++(aA k).flatMap E) wr)∧af (Wrote B b w wr)) (fun v17 _=>N-(intOf v17).toNat)
 case atStart=>exact⟨0,bD _,rfl,ae (by rw[show(aA 0).flatMap E=[]from rfl,dY];exact HP2.out),kE⟩
 case round=>
  obtain⟨k,hk,rfl,hp,hb⟩:=hrel;have hBr:=au HB.out hb.out.below.size;have Oi:=ae hBr;by_cases hlt:k<N
  ·have hlr:(D++fk 2 N++(aA k).flatMap E).length≤M:=by
    have h1:=f8 E hk;have h2:=HLen.out;simp only[ai,aR]at*;omega
   obtain⟨_,q,o,rfl,hcell⟩:=HC.out k hlt;have hcall:=fun u(hu:Below wr.heap.size wr u)=>HF.out k hlt u (D++fk 2 N++(aA k).flatMap E) (hb.out.below.trans (hu.mono hBr)) (hp.out.below hu) hlr (au hBr hu.size)
   dsimp only at hcell;generalize cs k=x at hcell hcall;obtain⟨⟨v,hi,lo⟩,po⟩:=x;unfold cL at hcell hcall;simp only at hcell hcall;have d0:=(hb.out.below.cell (p:=⟨q,o+k*4+0,none⟩) (HA.out aM _ _ rfl)).trans (hcell 0 _ rfl);have d1:=(hb.out.below.cell (p:=⟨q,o+k*4+1,none⟩) (HA.out aM _ _ rfl)).trans (hcell 1 _ rfl);have d2:=(hb.out.below.cell (p:=⟨q,o+k*4+2,none⟩) (HA.out aM _ _ rfl)).trans (hcell 2 _ rfl);have d3:=(hb.out.below.cell (p:=⟨q,o+k*4+3,none⟩) (HA.out aM _ _ rfl)).trans (hcell 3 _ rfl);rw[dq]at d0;have bo:=ae hcall;clear hcall hcell;clear hlr hBr;go_wp2_with(go_at_fn f;(with_reducible refine(bo.out _ (boxed _ _)).mono ?_);rintro r w4⟨rfl,p4,k4⟩;have yk:=ae p4;clear p4)
   go_roundw
   case rel=>exact⟨k+1,by omega,by go_num,ae (by rw[iO,←aO];exact yk.out),ae (hb.out.trans (k4.low Oi.out (boxed _ _)))⟩
   case measure=>simp[intOf];omega
  ·obtain rfl:k=N:=by omega
   clear hBr;go_wp2_with fail
   go_end0
   exact⟨rfl,by rw[←aO];exact hp.out,hb.out⟩
theorem GM{B b:Nat}{D:List UInt8}{w:World}{A:Option Addr}{N cap:Nat}{M:Nat}(hM:M≤800000000)(hN:N<65536)(cs:Nat→Ry)(E:Nat→List UInt8)(hc:dh w A N 6 fun k=>bJ (cs k))(hA:0<N→∀g o,A=some ⟨g,o,none⟩→g<B)(f:Nat)(eg:∀args w,(callFunc f args).run ag w=.ok (.enter f args) w)(h:gP B b D w)(hBw:B≤w.heap.size)(hlen:D.length+2+((aA N).flatMap E).length≤M)(hf:∀k,k<N→∀W D',Below B w W→gP B b D' W→D'.length≤M→B≤W.heap.size→Calls ag f #[.pointer (some ⟨b,0,none⟩),.agg (bJ (cs k)).toArray] W (Put B b D' (E k) W)):Calls ag 32 #[.pointer (some ⟨b,0,none⟩),.slice A N cap,.func (.func f) #[.pointer (some ⟨b,0,none⟩)] #[]] w (Put B b D (fk 2 N++(aA N).flatMap E) w):=by
 have hu:=fun u=>lJ N hN u
 have hw:IntKind.u16.wrap (N:Int)=(N:Int):=by
  show(N:Int)%65536=_;omega
 have hput:=fun u(hu:Below w.heap.size w u)=>ip (w:=u) [be 2 N] (h.below hu) (by simp) (by rw[dV,bU,aR];omega) (au hBw hu.size) 1 rfl
 rw[show fw [be 2 N]=fk 2 N by rw[dV,bU]]at hput;obtain⟨HC,HF,HA,HB,HLen,HU,kc⟩:=mS hc hf hA hBw hlen hu hput;unfold Put at HF⊢;clear hc hf hA hBw hlen h hu hput;go_enter Tryz.func32,Tryz.ntmps32;go_wp2_with(first
  |(go_at_call 79;(with_reducible refine(HU.out _).mono ?_);rintro r w1⟨rfl,d1⟩)
  |(go_at_call 28;(refine(kc.out _ d1).mono ?_);rintro r w2⟨rfl,p2,k2⟩;obtain⟨HP2,kE⟩:=aI p2 (k2.low HB.out d1);clear p2 k2))
 go_loopw [17] (fun v17 wr=>∃k:Nat,k≤N∧v17=.int .i64 k∧af (gP B b (D++fk 2 N++(aA k).flatMap E) wr)∧af (Wrote B b w wr)) (fun v17 _=>N-(intOf v17).toNat)
 case atStart=>exact⟨0,bD _,rfl,ae (by rw[show(aA 0).flatMap E=[]from rfl,dY];exact HP2.out),kE⟩
 case round=>
  obtain⟨k,hk,rfl,hp,hb⟩:=hrel;have hBr:=au HB.out hb.out.below.size;have Oi:=ae hBr;by_cases hlt:k<N
  ·have hlr:(D++fk 2 N++(aA k).flatMap E).length≤M:=by
    have h1:=f8 E hk;have h2:=HLen.out;simp only[ai,aR]at*;omega
   obtain⟨_,q,o,rfl,hcell⟩:=HC.out k hlt;have hcall:=fun u(hu:Below wr.heap.size wr u)=>HF.out k hlt u (D++fk 2 N++(aA k).flatMap E) (hb.out.below.trans (hu.mono hBr)) (hp.out.below hu) hlr (au hBr hu.size)
   dsimp only at hcell;generalize cs k=x at hcell hcall;obtain⟨id,key,⟨⟨v,hi,lo⟩,po⟩⟩:=x;unfold bJ at hcell hcall;simp only at hcell hcall;have d0:=(hb.out.below.cell (p:=⟨q,o+k*6+0,none⟩) (HA.out aM _ _ rfl)).trans (hcell 0 _ rfl);have d1:=(hb.out.below.cell (p:=⟨q,o+k*6+1,none⟩) (HA.out aM _ _ rfl)).trans (hcell 1 _ rfl);have d2:=(hb.out.below.cell (p:=⟨q,o+k*6+2,none⟩) (HA.out aM _ _ rfl)).trans (hcell 2 _ rfl);have d3:=(hb.out.below.cell (p:=⟨q,o+k*6+3,none⟩) (HA.out aM _ _ rfl)).trans (hcell 3 _ rfl);have d4:=(hb.out.below.cell (p:=⟨q,o+k*6+4,none⟩) (HA.out aM _ _ rfl)).trans (hcell 4 _ rfl);have d5:=(hb.out.below.cell (p:=⟨q,o+k*6+5,none⟩) (HA.out aM _ _ rfl)).trans (hcell 5 _ rfl);rw[dq]at d0;have bo:=ae hcall;clear hcall hcell;clear hlr hBr;go_wp2_with(go_at_fn f;(with_reducible refine(bo.out _ (boxed _ _)).mono ?_);rintro r w4⟨rfl,p4,k4⟩;have yk:=ae p4;clear p4)
   go_roundw
   case rel=>exact⟨k+1,by omega,by go_num,ae (by rw[iO,←aO];exact yk.out),ae (hb.out.trans (k4.low Oi.out (boxed _ _)))⟩
   case measure=>simp[intOf];omega
  ·obtain rfl:k=N:=by omega
   clear hBr;go_wp2_with fail
   go_end0
   exact⟨rfl,by rw[←aO];exact hp.out,hb.out⟩
theorem GN{B b:Nat}{D:List UInt8}{w:World}{A:Option Addr}{N cap:Nat}{M:Nat}(hM:M≤800000000)(hN:N<65536)(cs:Nat→bN)(E:Nat→List UInt8)(hc:dh w A N 8 fun k=>bN.vals (cs k))(hA:0<N→∀g o,A=some ⟨g,o,none⟩→g<B)(f:Nat)(eg:∀args w,(callFunc f args).run ag w=.ok (.enter f args) w)(hsh:∀k,k<N→∃A1 n1 c1 A2 n2 c2 A3 n3 c3,(cs k).tv=.slice A1 n1 c1∧(cs k).av=.slice A2 n2 c2∧(cs k).ev=.slice A3 n3 c3)(h:gP B b D w)(hBw:B≤w.heap.size)(hlen:D.length+2+((aA N).flatMap E).length≤M)(hf:∀k,k<N→∀W D',Below B w W→gP B b D' W→D'.length≤M→B≤W.heap.size→Calls ag f #[.pointer (some ⟨b,0,none⟩),.agg (bN.vals (cs k)).toArray] W (Put B b D' (E k) W)):Calls ag 30 #[.pointer (some ⟨b,0,none⟩),.slice A N cap,.func (.func f) #[.pointer (some ⟨b,0,none⟩)] #[]] w (Put B b D (fk 2 N++(aA N).flatMap E) w):=by
 have hu:=fun u=>lJ N hN u
 have hw:IntKind.u16.wrap (N:Int)=(N:Int):=by
  show(N:Int)%65536=_;omega
 have hput:=fun u(hu:Below w.heap.size w u)=>ip (w:=u) [be 2 N] (h.below hu) (by simp) (by rw[dV,bU,aR];omega) (au hBw hu.size) 1 rfl
 rw[show fw [be 2 N]=fk 2 N by rw[dV,bU]]at hput;obtain⟨HC,HF,HA,HB,HLen,HU,kc,HSh⟩:=Y7 hc hf hA hBw hlen hu hput hsh;clear hsh;unfold Put at HF⊢;clear hc hf hA hBw hlen h hu hput;go_enter Tryz.func30,Tryz.ntmps30;go_wp2_with(first
  |(go_at_call 79;(with_reducible refine(HU.out _).mono ?_);rintro r w1⟨rfl,d1⟩)
  |(go_at_call 28;(refine(kc.out _ d1).mono ?_);rintro r w2⟨rfl,p2,k2⟩;obtain⟨HP2,kE⟩:=aI p2 (k2.low HB.out d1);clear p2 k2))
 go_loopw [17] (fun v17 wr=>∃k:Nat,k≤N∧v17=.int .i64 k∧af (gP B b (D++fk 2 N++(aA k).flatMap E) wr)∧af (Wrote B b w wr)) (fun v17 _=>N-(intOf v17).toNat)
 case atStart=>exact⟨0,bD _,rfl,ae (by rw[show(aA 0).flatMap E=[]from rfl,dY];exact HP2.out),kE⟩
 case round=>
  obtain⟨k,hk,rfl,hp,hb⟩:=hrel;have hBr:=au HB.out hb.out.below.size;have Oi:=ae hBr;by_cases hlt:k<N
  ·have hlr:(D++fk 2 N++(aA k).flatMap E).length≤M:=by
    have h1:=f8 E hk;have h2:=HLen.out;simp only[ai,aR]at*;omega
   obtain⟨_,q,o,rfl,hcell⟩:=HC.out k hlt;have hcall:=fun u(hu:Below wr.heap.size wr u)=>HF.out k hlt u (D++fk 2 N++(aA k).flatMap E) (hb.out.below.trans (hu.mono hBr)) (hp.out.below hu) hlr (au hBr hu.size)
   dsimp only at hcell;obtain⟨A1,n1,c1,A2,n2,c2,A3,n3,c3,e1,e2,e3⟩:=HSh.out k hlt;generalize cs k=x at hcell hcall e1 e2 e3;obtain⟨⟨key,bh,user,tags,aJ,ex,aY,ends⟩,tv,av,ev⟩:=x;unfold bN.vals at hcell hcall;simp only at hcell hcall e1 e2 e3;subst e1 e2 e3;have d0:=(hb.out.below.cell (p:=⟨q,o+k*8+0,none⟩) (HA.out aM _ _ rfl)).trans (hcell 0 _ rfl);have d1:=(hb.out.below.cell (p:=⟨q,o+k*8+1,none⟩) (HA.out aM _ _ rfl)).trans (hcell 1 _ rfl);have d2:=(hb.out.below.cell (p:=⟨q,o+k*8+2,none⟩) (HA.out aM _ _ rfl)).trans (hcell 2 _ rfl);have d3:=(hb.out.below.cell (p:=⟨q,o+k*8+3,none⟩) (HA.out aM _ _ rfl)).trans (hcell 3 _ rfl);have d4:=(hb.out.below.cell (p:=⟨q,o+k*8+4,none⟩) (HA.out aM _ _ rfl)).trans (hcell 4 _ rfl);have d5:=(hb.out.below.cell (p:=⟨q,o+k*8+5,none⟩) (HA.out aM _ _ rfl)).trans (hcell 5 _ rfl);have d6:=(hb.out.below.cell (p:=⟨q,o+k*8+6,none⟩) (HA.out aM _ _ rfl)).trans (hcell 6 _ rfl);have d7:=(hb.out.below.cell (p:=⟨q,o+k*8+7,none⟩) (HA.out aM _ _ rfl)).trans (hcell 7 _ rfl);rw[dq]at d0;have bo:=ae hcall;clear hcall hcell;clear hlr hBr;go_wp2_with(go_at_fn f;(with_reducible refine(bo.out _ (boxed _ _)).mono ?_);rintro r w4⟨rfl,p4,k4⟩;have yk:=ae p4;clear p4)
   go_roundw
   case rel=>exact⟨k+1,by omega,by go_num,ae (by rw[iO,←aO];exact yk.out),ae (hb.out.trans (k4.low Oi.out (boxed _ _)))⟩
   case measure=>simp[intOf];omega
  ·obtain rfl:k=N:=by omega
   clear hBr;go_wp2_with fail
   go_end0
   exact⟨rfl,by rw[←aO];exact hp.out,hb.out⟩
theorem qB{α:Type}(vals:α→List Value)(K:Nat)(hv:∀x,(vals x).length=K)(z:α){w:World}{A:Option Addr}{cap:Nat}{l:List α}(h:aW w (.slice A l.length cap) l.length K (l.flatMap vals)):dh w A l.length K fun k=>vals (l.getD k z):=by
 intro k hk;have:=h.gm k hk;have hx:l[k]? =some l[k]:=ah hk;dsimp only at this⊢;rw[dr vals K hv l k _ hx]at this;rw[ay,hx,Option.getD_some];exact this
theorem qC{w:World}{A:Option Addr}{n cap K:Nat}{xs:List Value}(hK:0<K)(h:aW w (.slice A n cap) n K xs):0<n→∀g o,A=some ⟨g,o,none⟩→g<w.heap.size:=by
 rintro h0 g o rfl;obtain⟨A',cap',e,hl,hc⟩:=h;injection e with e1 _ _
 obtain⟨g',o',ha,hcc⟩:=hc h0;rw[←e1]at ha;injection ha with ha
 injection ha with ha _ _
 subst ha;have hz:0<xs.length:=by rw[hl];exact Nat.mul_pos h0 hK
 exact World.block_lt_of_cell? w _ (hcc 0 _ (ah hz))
theorem jQ{α β:Type}(f:α→List β)(z:α)(l:List α):(aA l.length).flatMap (fun k=>f (l.getD k z))=l.flatMap f:=by
 rw[←List.flatMap_map (f:=fun k=>l.getD k z) (g:=f)];congr 1;apply List.ext_getElem?;intro i;rw[List.getElem?_map];rcases Nat.lt_or_ge i l.length with h|h
 ·rw[List.getElem?_range h,Option.map_some,ay,ah h,Option.getD_some]
 ·rw[rZ (by rw[List.length_range];exact h),rZ h,Option.map_none]
theorem getD_mem{α:Type}(z:α){l:List α}{k:Nat}(h:k<l.length):l.getD k z∈l:=by
 rw[ay,ah h,Option.getD_some];exact bB h
def Ad.none_:Ad:=⟨false,0,0⟩
def En.none_:En:=(Ad.none_,0)
def Ry.none_:Ry:=⟨0,⟨#[]⟩,En.none_⟩
theorem Rq{b:Nat}{D:List UInt8}{w0 w:World}{v:Value}{l:List ByteArray}(fb:ByteArray→List UInt8)(hr:aW w0 v l.length 1 (strCells l))(hb:Below w0.heap.size w0 w)(hl:l.length<65536)(f:Nat)(eg:∀args w,(callFunc f args).run ag w=.ok (.enter f args) w)(h:gP w0.heap.size b D w){M:Nat}(hM:M≤800000000)(hlen:D.length+2+(l.flatMap fb).length≤M)(hf:∀x∈l,∀W D',Below w0.heap.size w W→gP w0.heap.size b D' W→D'.length≤M→w0.heap.size≤W.heap.size→Calls ag f #[.pointer (some ⟨b,0,none⟩),.string x] W (Put w0.heap.size b D' (fb x) W)):Calls ag 80 #[.pointer (some ⟨b,0,none⟩),v,.func (.func f) #[.pointer (some ⟨b,0,none⟩)] #[]] w (Put w0.heap.size b D (cB fb l) w):=by
 obtain⟨A,cap,rfl⟩:=hr.shape;unfold cB;rw[←jQ fb ⟨#[]⟩ l]at hlen⊢;exact MZ hM hl (fun k=>l.getD k ⟨#[]⟩) (fun k=>fb (l.getD k ⟨#[]⟩)) (zE (hr.below hb)) (qC aF hr) f eg h hb.size hlen fun k hk W D' h1 h2 h3 h4=>hf _ (getD_mem _ hk) W D' h1 h2 h3 h4
theorem M1{b:Nat}{D:List UInt8}{w0 w:World}{v:Value}{l:List Ad}(fb:Ad→List UInt8)(hr:aW w0 v l.length 3 (cO l))(hb:Below w0.heap.size w0 w)(hl:l.length<65536)(f:Nat)(eg:∀args w,(callFunc f args).run ag w=.ok (.enter f args) w)(h:gP w0.heap.size b D w){M:Nat}(hM:M≤800000000)(hlen:D.length+2+(l.flatMap fb).length≤M)(hf:∀x∈l,∀W D',Below w0.heap.size w W→gP w0.heap.size b D' W→D'.length≤M→w0.heap.size≤W.heap.size→Calls ag f #[.pointer (some ⟨b,0,none⟩),.agg x.cells] W (Put w0.heap.size b D' (fb x) W)):Calls ag 81 #[.pointer (some ⟨b,0,none⟩),v,.func (.func f) #[.pointer (some ⟨b,0,none⟩)] #[]] w (Put w0.heap.size b D (cB fb l) w):=by
 obtain⟨A,cap,rfl⟩:=hr.shape;unfold cB;rw[←jQ fb Ad.none_ l]at hlen⊢;exact GK hM hl (fun k=>l.getD k Ad.none_) (fun k=>fb (l.getD k Ad.none_)) (qB (fun a:Ad=>a.cells.toList) 3 (fun _=>rfl) Ad.none_ (hr.below hb)) (qC aF hr) f eg h hb.size hlen fun k hk W D' h1 h2 h3 h4=>hf _ (getD_mem _ hk) W D' h1 h2 h3 h4
theorem M3{b:Nat}{D:List UInt8}{w0 w:World}{v:Value}{l:List En}(fb:En→List UInt8)(hr:aW w0 v l.length 4 (kt l))(hb:Below w0.heap.size w0 w)(hl:l.length<65536)(f:Nat)(eg:∀args w,(callFunc f args).run ag w=.ok (.enter f args) w)(h:gP w0.heap.size b D w){M:Nat}(hM:M≤800000000)(hlen:D.length+2+(l.flatMap fb).length≤M)(hf:∀x∈l,∀W D',Below w0.heap.size w W→gP w0.heap.size b D' W→D'.length≤M→w0.heap.size≤W.heap.size→Calls ag f #[.pointer (some ⟨b,0,none⟩),.agg (cL x).toArray] W (Put w0.heap.size b D' (fb x) W)):Calls ag 83 #[.pointer (some ⟨b,0,none⟩),v,.func (.func f) #[.pointer (some ⟨b,0,none⟩)] #[]] w (Put w0.heap.size b D (cB fb l) w):=by
 obtain⟨A,cap,rfl⟩:=hr.shape;unfold cB;rw[←jQ fb En.none_ l]at hlen⊢;exact GL hM hl (fun k=>l.getD k En.none_) (fun k=>fb (l.getD k En.none_)) (qB cL 4 eF En.none_ (hr.below hb)) (qC aF hr) f eg h hb.size hlen fun k hk W D' h1 h2 h3 h4=>hf _ (getD_mem _ hk) W D' h1 h2 h3 h4
theorem M9{b:Nat}{D:List UInt8}{w0 w:World}{v:Value}{l:List Ry}(fb:Ry→List UInt8)(hr:gQ w0 v l)(hb:Below w0.heap.size w0 w)(hl:l.length<65536)(f:Nat)(eg:∀args w,(callFunc f args).run ag w=.ok (.enter f args) w)(h:gP w0.heap.size b D w){M:Nat}(hM:M≤800000000)(hlen:D.length+2+(l.flatMap fb).length≤M)(hf:∀x∈l,∀W D',Below w0.heap.size w W→gP w0.heap.size b D' W→D'.length≤M→w0.heap.size≤W.heap.size→Calls ag f #[.pointer (some ⟨b,0,none⟩),.agg (bJ x).toArray] W (Put w0.heap.size b D' (fb x) W)):Calls ag 32 #[.pointer (some ⟨b,0,none⟩),v,.func (.func f) #[.pointer (some ⟨b,0,none⟩)] #[]] w (Put w0.heap.size b D (cB fb l) w):=by
 obtain⟨A,cap,rfl⟩:=aW.shape hr;unfold cB;rw[←jQ fb Ry.none_ l]at hlen⊢;exact GM hM hl (fun k=>l.getD k Ry.none_) (fun k=>fb (l.getD k Ry.none_)) (qB bJ 6 cF Ry.none_ (aW.below hr hb)) (qC aF hr) f eg h hb.size hlen fun k hk W D' h1 h2 h3 h4=>hf _ (getD_mem _ hk) W D' h1 h2 h3 h4
theorem one_byte(u:World)(n:Nat)(hn:n<256):(convert 67 9 (.slice (some ⟨u.heap.size,0,none⟩) 1 1)).run ag (u.alloc (.cells #[.int .u8 n] 5))=.ok (.string (be 1 n)) (u.alloc (.cells #[.int .u8 n] 5)):=by
 have hback:=run_convert_bytes_back (P:=ag) (u.alloc (.cells #[.int .u8 n] 5)) 67 9 5 ⟨u.heap.size,0,none⟩ 1 (fk 1 n) cn bV aZ (fun j hj=>by
  rw[aR]at hj;obtain rfl:j=0:=by omega
  have h0:=(aD.new u 5 #[.int .u8 n]).cell 0;have hv:((fk 1 n)[0]'(by rw[aR];omega)).toNat=n:=by
   simp[fk];omega
  simp only[hv];exact h0)
 rw[aR]at hback;exact hback
theorem zK{B b:Nat}{D:List UInt8}{w:World}(r:Ry)(oi:r.id<256)(ok:xi r.fin.1)(op:r.fin.2<65536)(hk:r.key.size≤1000000)(h:gP B b D w)(hlen:D.length≤800000000)(hBw:B≤w.heap.size):Calls ag 33 #[.pointer (some ⟨b,0,none⟩),.agg (bJ r).toArray] w (Put B b D (C9 r) w):=by
 have hone:=fun u=>one_byte u r.id oi
 have hkl:r.key.data.toList.length=r.key.size:=by rw[Array.length_toList,ByteArray.size_data]
 have hput:=fun u(hu:Below w.heap.size w u)=>ip (w:=u) [be 1 r.id,r.key] (h.below hu) (by simp) (by rw[eE,bU,ai,aR,hkl];omega) (au hBw hu.size) 2 rfl
 have hend:=fun u(hu:B≤u.heap.size)(hp:gP B b (D++fw [be 1 r.id,r.key]) u)=>vy r.fin ok op hp (by rw[eE,bU,ai,ai,aR,hkl];omega) hu
 have ei:af (w.heap.size≠b):=ae (by have:=h.lt;omega);obtain⟨X,hX⟩:∃x,x=C9 r:=⟨_,rfl⟩;rw[←hX];have hX2:D++fw [be 1 r.id,r.key]++C0 r.fin=D++X:=by rw[hX,eE,bU];unfold C9;simp only[aO]
 have HX:=ae hX2;have hb1:=boxed w (.cells (bJ r).toArray 84);obtain⟨HP,HB1,HB⟩:=bj (aD.new w 84 (bJ r).toArray) hb1 hBw;generalize fw [be 1 r.id,r.key]=Y at hput hend hX2 HX;unfold Put at hend⊢;obtain⟨id,key,⟨⟨v,hi,lo⟩,po⟩⟩:=r;unfold cL at hend;unfold bJ at HP HB1⊢;simp only at*;obtain⟨aeX,kc,Rr⟩:=bj hone hput hend;clear hput hend hX hX2 hb1 h hBw ok op hk hkl oi;go_enter Tryz.func33,Tryz.ntmps33;go_upto_region 1 with fail
 generalize w.alloc (.cells #[.int .u8 id,.string key,.bool v,.int .u64 hi,.int .u64 lo,.int .u16 po] 84)=w1 at HP HB1⊢;generalize w.heap.size=P at HP ei⊢;obtain⟨a0,a1⟩:=iD HP;have acx:=hone w1;have u1:=boxed w1 (.cells #[.int .u8 id] 5);have b1:=ak a1 u1;have hp1:=kc.out _ (after HB1.out u1);rw[show(w1.alloc (.cells #[.int .u8 id] 5)).heap.size=w1.heap.size+1 by simp]at hp1;simp only[List.map_cons,List.map_nil]at hp1;have lF:=ae hp1;clear hone hp1;go_upto_region 2 with(go_at_call 28;(with_reducible refine lF.out.mono ?_);rintro r w2⟨rfl,p2,k2⟩)
 have HP2:=ae (k2.kept _ _ _ (HP.out.below u1 HP.out.lt) ei.out aF);obtain⟨-,-,c2,c3,c4,c5⟩:=wN HP2;have hw2:=au HB.out (au (after HB1.out u1).size k2.below.size);obtain⟨HE2,kE⟩:=aI (Rr.out w2 hw2 p2) (k2.low HB.out (after HB1.out u1));clear a0 a1 b1 acx u1 hw2 k2 p2;go_wp2_with(go_at_call 84;(with_reducible refine HE2.out.mono ?_);rintro r w3⟨rfl,p3,k3⟩;rw[HX.out]at p3)
 go_end0
 exact⟨rfl,p3,kE.out.trans k3⟩
def bN.none_:bN:=⟨⟨⟨#[]⟩,⟨#[]⟩,⟨#[]⟩,[],[],0,0,[]⟩,.slice none 0 0,.slice none 0 0,.slice none 0 0⟩
theorem Na{b:Nat}{D:List UInt8}{w0 w:World}{v:Value}{xs:List bN}(fb:Pr→List UInt8)(hr:aW w0 v xs.length 8 (cD xs))(hx:∀X∈xs,gJ w0 X)(hb:Below w0.heap.size w0 w)(hl:xs.length<65536)(f:Nat)(eg:∀args w,(callFunc f args).run ag w=.ok (.enter f args) w)(h:gP w0.heap.size b D w){M:Nat}(hM:M≤800000000)(hlen:D.length+2+((xs.map (·.p)).flatMap fb).length≤M)(hf:∀X∈xs,∀W D',Below w0.heap.size w W→gP w0.heap.size b D' W→D'.length≤M→w0.heap.size≤W.heap.size→Calls ag f #[.pointer (some ⟨b,0,none⟩),.agg X.vals.toArray] W (Put w0.heap.size b D' (fb X.p) W)):Calls ag 30 #[.pointer (some ⟨b,0,none⟩),v,.func (.func f) #[.pointer (some ⟨b,0,none⟩)] #[]] w (Put w0.heap.size b D (cB fb (xs.map (·.p))) w):=by
 obtain⟨A,cap,rfl⟩:=hr.shape;unfold cB;rw[ax,List.flatMap_map]at*;rw[←jQ (fun X:bN=>fb X.p) bN.none_ xs]at hlen⊢;exact GN hM hl (fun k=>xs.getD k bN.none_) (fun k=>fb (xs.getD k bN.none_).p) (qB bN.vals 8 aE bN.none_ (hr.below hb)) (qC aF hr) f eg
  (fun k hk=>by
    have hm:=hx _ (getD_mem bN.none_ hk);obtain⟨A1,c1,e1⟩:=hm.tags.shape;obtain⟨A2,c2,e2⟩:=hm.aJ.shape;obtain⟨A3,c3,e3⟩:=hm.ends.shape;exact⟨A1,_,c1,A2,_,c2,A3,_,c3,e1,e2,e3⟩)
  h hb.size hlen fun k hk W D' h1 h2 h3 h4=>hf _ (getD_mem _ hk) W D' h1 h2 h3 h4
theorem GQ{B b:Nat}{D:List UInt8}{w:World}(h:gP B b D w):Calls ag 86 #[.pointer (some ⟨b,0,none⟩)] w fun r w'=>r=.returned (.int .i64 (D.length:Int))∧w'=w:=by
 obtain⟨p,hB,v,hbk,hown,hne⟩:∃p,Lib.BuilderAt 74 5 B b p (Lib.byteCells D) w:=by
  rcases h with h|h
  ·exact⟨_,h⟩
  ·exact⟨_,h⟩
 rw[Lib.byteCells_length]at hown;obtain⟨A,cap,rfl⟩:∃A cap,v=.slice A D.length cap:=by
  rcases hown.2 with⟨rfl,hz⟩|⟨g,cap,cur,hv,r⟩
  ·exact⟨none,0,by rw[hz]⟩
  ·exact⟨_,_,hv⟩
 have c1:w.cell? ⟨b,1,none⟩=some (.slice A D.length cap):=by rw[Lib.cell_of_heap hbk];rfl
 generalize D.length=N at*;clear hbk hown hne;go_enter Tryz.func86,Tryz.ntmps86;go_wp2_with fail
 go_ret;exact⟨rfl,rfl⟩
theorem xo{B b:Nat}{l:List UInt8}{w:World}(h:gP B b l w)(h0:l≠[]):Calls ag 87 #[.pointer (some ⟨b,0,none⟩)] w fun r w'=>r=.returned (.string ⟨l.toArray⟩)∧Below B w w':=by
 obtain⟨p,hB,v,hbk,hown,hne⟩:∃p,Lib.BuilderAt 74 5 B b p (Lib.byteCells l) w:=by
  rcases h with h|h
  ·exact⟨_,h⟩
  ·exact⟨_,h⟩
 have hl0:l.length≠0:=by simpa using h0
 rw[Lib.byteCells_length]at hown;obtain⟨g,cap,cur,rfl,hbg,hg,hnc,hcm,hcs,htake⟩:∃g cap cur,v=.slice (some ⟨g,0,none⟩) l.length cap∧B≤g∧w.heap[g]? =some (.cells cur 5 (0,0))∧l.length≤cap∧cap≤maxLen∧cur.size=cap*1∧cur.toList.take (l.length*1)=Lib.byteCells l:=by
  rcases hown.2 with⟨_,hz⟩|⟨g,cap,cur,hv,r⟩
  ·exact absurd hz hl0
  ·exact⟨g,cap,cur,hv,r⟩
 have c1:w.drew.cell? ⟨b,1,none⟩=some (.slice (some ⟨g,0,none⟩) l.length cap):=by
  have:w.drew.heap[b]? =some (.cells #[p,.slice (some ⟨g,0,none⟩) l.length cap] 74 (0,0)):=hbk;rw[Lib.cell_of_heap this];rfl
 have hSD:(Builtin.unsafeSliceData_ #[67] 188 #[.slice (some ⟨g,0,none⟩) l.length cap]).run ag w.drew=.ok (.pointer (some ⟨g,0,none⟩)) w.drew:=Lib.run_unsafeSliceData_row _ _ _ _ _ _ aM;have hUS:(Builtin.unsafeString_ #[188,3] 9 #[.pointer (some ⟨g,0,none⟩),.int .i64 l.length]).run ag w.drew=.ok (.string ⟨l.toArray⟩) (w.drew.freeze ⟨g,0,none⟩ l.length):=by
  refine Lib.run_unsafeString_row w.drew 188 3 9 5 Tryz.underlying188 bg g cur.size (by have hg':w.drew.heap[g]? =some (.cells cur 5 (0,0)):=hg;simp[World.shape?,hg']) l h0 aM (by unfold maxLen at hcm;omega) ?_;intro j x hx;have:=hown.cells (g:=g) rfl j (.int .u8 x.toNat) (by simp[Lib.byteCells,hx]);exact this
 have mixed:ag.follows Departure.mixedOrders=true:=by kernel_rfl
 generalize l.length=N at*;generalize(⟨l.toArray⟩:ByteArray)=T at*;clear hbk hown hne hg htake hcs h0 hl0;go_enter Tryz.func87,Tryz.ntmps87;go_wp2_with fail
 go_region_o
 all_goals(go_wp2_with fail;go_ret;exact⟨rfl,Lib.below_freeze (Below.drew (aG B w)) (p:=⟨g,0,none⟩) hbg _⟩)
theorem zL{B b:Nat}{D:List UInt8}{w:World}(h:gP B b D w)(h0:D≠[]):Calls ag 35 #[.pointer (some ⟨b,0,none⟩)] w fun r w'=>(∃(t:ByteArray)(e:Nat),(t,e)=(if 32768<D.length then((⟨#[]⟩:ByteArray),4)else(gW D,0))∧r=.returned (.tuple #[.string t,.int .i64 e]))∧Below B w w':=by
 have hl:=GQ h;have hs:=xo h h0;rw[show(⟨D.toArray⟩:ByteArray)=gW D from rfl]at hs;obtain⟨R,hR⟩:∃r,r=(if 32768<D.length then((⟨#[]⟩:ByteArray),4)else(gW D,0)):=⟨_,rfl⟩;rw[←hR];generalize gW D=T at hs hR;generalize D.length=N at hl hR;obtain⟨HL,HS⟩:=aI hl hs;clear hl hs h h0;go_enter Tryz.func35,Tryz.ntmps35;by_cases k1:32768<N
 ·have q1:(32768:Int)<(N:Int):=by omega
  rw[if_pos k1]at hR;have HR:=ae hR;clear hR;go_wp2_with(go_at_call 86;(with_reducible refine HL.out.mono ?_);rintro r w1⟨rfl,rfl⟩)
  go_ret2;exact⟨⟨_,4,HR.out.symm,rfl⟩,aG _ _⟩
 ·have q1:¬(32768:Int)<(N:Int):=by omega
  rw[if_neg k1]at hR;have HR:=ae hR;clear hR;go_wp2_with(first
   |(go_at_call 86;(with_reducible refine HL.out.mono ?_);rintro r w1⟨rfl,rfl⟩)
   |(go_at_call 87;(with_reducible refine HS.out.mono ?_);rintro r w2⟨rfl,d2⟩))
  go_ret2;exact⟨⟨_,0,HR.out.symm,rfl⟩,d2⟩
theorem vA{B b:Nat}{w W:World}(_h:Wrote B b w W)(cs:Array Value)(t:TypeId):aD (W.alloc (.cells cs t)) W.heap.size t cs:=aD.new W t cs
theorem vB{W:World}{g n:Nat}(h:aD W g 5 #[.int .u8 n])(hn:n<256):(convert 67 9 (.slice (some ⟨g,0,none⟩) 1 1)).run ag W=.ok (.string (be 1 n)) W:=by
 have hback:=run_convert_bytes_back (P:=ag) W 67 9 5 ⟨g,0,none⟩ 1 (fk 1 n) cn bV aZ (fun j hj=>by
  rw[aR]at hj;obtain rfl:j=0:=by omega
  have h0:=h.cell 0;have hv:((fk 1 n)[0]'(by rw[aR];omega)).toNat=n:=by
   simp[fk];omega
  simp only[hv];exact h0)
 rw[aR]at hback;exact hback
theorem Dt{b:Nat}{D:List UInt8}{w0 w:World}{X:bN}(hX:gJ w0 X)(ok:MN X.p)(hb:Below w0.heap.size w0 w)(h:gP w0.heap.size b D w)(hlen:D.length+(wL X.p).length≤700000000):Calls ag 31 #[.pointer (some ⟨b,0,none⟩),.agg X.vals.toArray] w (Put w0.heap.size b D (wL X.p) w):=by
 have hsum:(wL X.p).length=X.p.key.data.toList.length+(X.p.bh.data.toList.length+((pP X.p.user).length+((cB pP X.p.tags).length+((cB wK X.p.aJ).length+(8+(1+(cB C0 X.p.ends).length)))))):=by
  unfold wL;simp only[ai,aR]
 have htl:(cB pP X.p.tags).length=2+(X.p.tags.flatMap pP).length:=by unfold cB;rw[ai,aR]
 have hal:(cB wK X.p.aJ).length=2+(X.p.aJ.flatMap wK).length:=by unfold cB;rw[ai,aR]
 have hel:(cB C0 X.p.ends).length=2+(X.p.ends.flatMap C0).length:=by unfold cB;rw[ai,aR]
 obtain⟨D1,hD1⟩:∃d,d=D++fw [X.p.key,X.p.bh]:=⟨_,rfl⟩;obtain⟨D2,hD2⟩:∃d,d=D1++pP X.p.user:=⟨_,rfl⟩;obtain⟨D3,hD3⟩:∃d,d=D2++cB pP X.p.tags:=⟨_,rfl⟩;obtain⟨D4,hD4⟩:∃d,d=D3++cB wK X.p.aJ:=⟨_,rfl⟩;have l1:D1.length=D.length+(X.p.key.data.toList.length+X.p.bh.data.toList.length):=by rw[hD1,eE];simp only[ai]
 have l2:D2.length=D1.length+(pP X.p.user).length:=by rw[hD2,ai]
 have l3:D3.length=D2.length+(cB pP X.p.tags).length:=by rw[hD3,ai]
 have l4:D4.length=D3.length+(cB wK X.p.aJ).length:=by rw[hD4,ai]
 have l5:D4.length+9≤700000000:=by omega
 have hput:=fun u(hu:Below w.heap.size w u)=>ip (w:=u) [X.p.key,X.p.bh] (h.below hu) (by simp) (by rw[eE,ai];omega) (au hb.size hu.size) 2 rfl
 rw[←hD1]at hput;have htx:=fun u(hu:w0.heap.size≤u.heap.size)(hp:gP w0.heap.size b D1 u)=>ny X.p.user ok.user hp aM hu
 have hts:=fun u(hu:Below w0.heap.size w0 u)(hp:gP w0.heap.size b D2 u)=>Rq pP hX.tags hu ok.tags.1 34 (enters_of Tryz.func34 bg rfl) hp (aw 800000000) aM fun x hx W D' h1 h2 h3 h4=>ny x (ok.tags.2 x hx) h2 aM h4
 have has:=fun u(hu:Below w0.heap.size w0 u)(hp:gP w0.heap.size b D3 u)=>M1 wK hX.aJ hu ok.aJ.1 82 (enters_of Tryz.func82 bg rfl) hp (aw 800000000) aM fun x hx W D' h1 h2 h3 h4=>sT x (ok.aJ.2 x hx) h2 aM h4
 have hes:=fun u D5(hl:D5.length=D4.length+9)(hu:Below w0.heap.size w0 u)(hp:gP w0.heap.size b D5 u)=>M3 C0 hX.ends hu ok.ends.1 84 (enters_of Tryz.func84 bg rfl) hp (aw 800000000) aM fun x hx W D' h1 h2 h3 h4=>vy x (ok.ends.2 x hx).1 (ok.ends.2 x hx).2 h2 aM h4
 have ei:af (w.heap.size≠b):=ae (by have:=h.lt;omega);obtain⟨HW0,HD2,HD3,HD4⟩:=cH hb hD2 hD3 hD4;have hoe:=ok.exp;have hor:=ok.aY;obtain⟨R,hR⟩:∃r,r=D++wL X.p:=⟨_,rfl⟩;have hR2:R=D4++fw [be 8 X.p.exp,be 1 X.p.aY]++cB C0 X.p.ends:=by
  rw[hR,hD4,hD3,hD2,hD1,eE,eE,bU,bU];unfold wL;simp only[aO]
 unfold Put at htx hts has hes⊢;rw[←hR];have HR:=ae hR2;obtain⟨A1,c1,e1⟩:=hX.tags.shape;obtain⟨A2,c2,e2⟩:=hX.aJ.shape;obtain⟨A3,c3,e3⟩:=hX.ends.shape;clear hsum htl hal hel l1 l2 l3 hD1 hD2 hD3 hD4 hR hR2 hX ok h hlen hb;obtain⟨⟨key,bh,user,tags,aJ,ex,aY,ends⟩,tv,av,ev⟩:=X;simp only at*;subst e1 e2 e3;unfold bN.vals;simp only;generalize cB pP tags=LT at*;generalize cB wK aJ=LA at*;generalize cB C0 ends=LE at*;generalize pP user=TU at*;generalize tags.length=NT at*;generalize aJ.length=NA at*;generalize ends.length=NE at*;obtain⟨kc,HTx,HTs,HAs,HEs⟩:=dR hput htx hts has hes;clear hput htx hts has hes;obtain⟨HB1,HP⟩:=aI (boxed w (.cells #[.string key,.string bh,.string user,.slice A1 NT c1,.slice A2 NA c2,.int .u64 ex,.int .u8 aY,.slice A3 NE c3] 50)) (aD.new w 50 #[.string key,.string bh,.string user,.slice A1 NT c1,.slice A2 NA c2,.int .u64 ex,.int .u8 aY,.slice A3 NE c3]);go_enter Tryz.func31,Tryz.ntmps31;go_upto_region 1 with fail
 generalize w.alloc (.cells #[.string key,.string bh,.string user,.slice A1 NT c1,.slice A2 NA c2,.int .u64 ex,.int .u8 aY,.slice A3 NE c3] 50)=w1 at HB1 HP⊢;generalize w.heap.size=P at HP ei⊢;obtain⟨a0,a1⟩:=iD HP;have hp1:=kc.out w1 HB1.out;simp only[List.map_cons,List.map_nil]at hp1;have lF:=ae hp1;clear hp1;go_upto_region 2 with(go_at_call 28;(with_reducible refine lF.out.mono ?_);rintro r w2⟨rfl,p2,k2⟩)
 have HB0:=ae (HW0.out.trans (HB1.out.mono HW0.out.size));have Jo:=ae (k2.kept _ _ _ HP.out ei.out aF);have HW2:=ae (HB0.out.trans k2.below);obtain⟨HT2,kE⟩:=aI (HTx.out w2 HW2.out.size p2) (k2.low HW0.out.size HB1.out);obtain⟨-,-,b2⟩:=iE Jo;clear a0 a1 k2 p2 HP HB1 lF;go_upto_region 3 with(go_at_call 34;(with_reducible refine HT2.out.mono ?_);rintro r w3⟨rfl,p3,k3⟩;rw[←HD2.out]at p3)
 have xq:=ae (k3.kept _ _ _ Jo.out ei.out aF);have HW3:=ae (HW2.out.trans k3.below);obtain⟨HT3,iY⟩:=aI (HTs.out w3 HW3.out p3) (kE.out.trans k3);obtain⟨-,-,-,b3⟩:=dy xq;clear b2 k3 p3 Jo HW2 HT2 kE;go_upto_region 4 with(go_at_call 80;(with_reducible refine HT3.out.mono ?_);rintro r w4⟨rfl,p4,k4⟩;rw[←HD3.out]at p4)
 have Oj:=ae (k4.kept _ _ _ xq.out ei.out aF);have Z3:=ae (HW3.out.trans k4.below);obtain⟨HT4,yj⟩:=aI (HAs.out w4 Z3.out p4) (iY.out.trans k4);obtain⟨-,-,-,-,b4⟩:=J7 Oj;clear b3 k4 p4 xq HW3 HT3 iY;go_upto_region 5 with(go_at_call 81;(with_reducible refine HT4.out.mono ?_);rintro r w5⟨rfl,p5,k5⟩;rw[←HD4.out]at p5)
 have YJ:=ae (k5.kept _ _ _ Oj.out ei.out aF);obtain⟨CX,Bc,EA⟩:=bj (Z3.out.trans k5.below) (yj.out.trans k5) p5;obtain⟨-,-,-,-,-,b5,b6⟩:=abb YJ;clear b4 k5 p5 Oj Z3 HT4 yj;have hu64:=fun u=>yG ex aM u
 have HU:=ae hu64;have Hor:af (aY<256):=ae aM;have hpn:=EA.out.below (Below.drew (aG _ w5));clear hu64;refine wp_region_held_drew (S:=(fun w'=>Wrote w0.heap.size b w5 w'∧w'.cell? ⟨P,5,none⟩=some (.int .u64 ex)∧w'.cell? ⟨P,6,none⟩=some (.int .u8 aY))) bg (⟨Wrote.of CX.out.size (Below.drew (aG _ _)),b5,b6⟩) (fun hHeld=>?_);refine bm 0 ?_
 refine bm 1 ?_
 refine bm 2 ?_
 refine bm 4 ?_
 refine bm 5 ?_
 refine wpAnyH_ready (rs:=[3,6]) bg (by simp) ?_;refine AllReadyH.cons rfl (fun K hK=>?_) (AllReadyH.cons rfl (fun K hK=>?_) AllReadyH.nil)
 ·go_simp;refine(HU.out _).mono ?_;rintro r wb⟨rfl,db⟩
  (try have hsb:=aD.below hsb db (aD.lt hsb))
  (try have hone:=vB hsb Hor.out)
  have hpn:=hpn.below db;refine hK.out _ _ (⟨hHeld.1.trans (Wrote.of (au CX.out.size hHeld.1.below.size) db),ak hHeld.2.1 db,ak hHeld.2.2 db⟩) (fun hHeld=>?_);clear hK K;try simp only[cq]
  refine jk 6 fun K hK=>?_;go_simp;have hsb:=vA hHeld.1 #[.int .u8 aY] 5;have hone:=vB hsb Hor.out;have hpn:=hpn.below (boxed _ (.cells #[.int .u8 aY] 5));refine hK.out _ _ (⟨hHeld.1.trans (Wrote.of (au CX.out.size hHeld.1.below.size) (boxed _ _)),ak hHeld.2.1 (boxed _ _),ak hHeld.2.2 (boxed _ _)⟩) (fun hHeld=>?_);clear hK K;try simp only[cq]
  refine jk 7 fun K hK=>?_;go_simp
  (try(first|rw[hone]|erw [hone]))
  (try simp only[Result.andThen])
  (try rw[Oper.upon_value])
  refine hK.out _ _ (hHeld) (fun hHeld=>?_);clear hK K;try simp only[cq]
  refine jk 8 fun K hK=>?_;go_simp;have hst:=vA hHeld.1 #[.string (be 8 ex),.string (be 1 aY)] 9;have hge:=hpn.lt;have hpn:=hpn.below (boxed _ (.cells #[.string (be 8 ex),.string (be 1 aY)] 9));refine hK.out _ _ (⟨hHeld.1.trans (Wrote.of (au CX.out.size hHeld.1.below.size) (boxed _ _)),ak hHeld.2.1 (boxed _ _),ak hHeld.2.2 (boxed _ _)⟩) (fun hHeld=>?_);clear hK K;try simp only[cq]
  refine jk 9 fun K hK=>?_;go_simp;refine(put_any [be 8 ex,be 1 aY] hpn (by first|exact hst|simpa using hst) (by first|omega|(simp at hge⊢;omega)) (by simp) (by rw[eE,bU,bU,ai,aR,aR];omega) (au CX.out.size hHeld.1.below.size) 2 rfl).mono ?_;rintro r w6⟨rfl,p6,k6⟩;have hQ6:=(hHeld.1.trans k6).kept _ _ _ YJ.out ei.out aF;have Rt:=hHeld.1.trans k6;refine hK.out _ _ (⟨hHeld.1.trans k6,hQ6.cell 5,hQ6.cell 6⟩) (fun hHeld=>?_);clear hK K;try simp only[cq]
  refine qR ?_;have h7:=hQ6.cell 7;simp at h7;have YK:=ae (HEs.out w6 _ (by rw[ai,eE,bU,bU,ai,aR,aR]) (CX.out.trans Rt.below) p6);have ru:=ae (Bc.out.trans Rt);clear hQ6 Rt k6 p6 hst hsb hone hpn hge hHeld;go_wp2_with(go_at_call 83;(with_reducible refine YK.out.mono ?_);rintro r w7⟨rfl,p7,k7⟩;rw[←HR.out]at p7)
  go_end0
  exact⟨rfl,p7,ru.out.trans k7⟩
 ·go_simp;have hsb:=vA hHeld.1 #[.int .u8 aY] 5;have hone:=vB hsb Hor.out;have hpn:=hpn.below (boxed _ (.cells #[.int .u8 aY] 5));refine hK.out _ _ (⟨hHeld.1.trans (Wrote.of (au CX.out.size hHeld.1.below.size) (boxed _ _)),ak hHeld.2.1 (boxed _ _),ak hHeld.2.2 (boxed _ _)⟩) (fun hHeld=>?_);clear hK K;try simp only[cq]
  refine wpAnyH_ready (rs:=[3,7]) bg (by simp) ?_;refine AllReadyH.cons rfl (fun K hK=>?_) (AllReadyH.cons rfl (fun K hK=>?_) AllReadyH.nil)
  ·go_simp;refine(HU.out _).mono ?_;rintro r wb⟨rfl,db⟩
   (try have hsb:=aD.below hsb db (aD.lt hsb))
   (try have hone:=vB hsb Hor.out)
   have hpn:=hpn.below db;refine hK.out _ _ (⟨hHeld.1.trans (Wrote.of (au CX.out.size hHeld.1.below.size) db),ak hHeld.2.1 db,ak hHeld.2.2 db⟩) (fun hHeld=>?_);clear hK K;try simp only[cq]
   refine jk 7 fun K hK=>?_;go_simp
   (try(first|rw[hone]|erw [hone]))
   (try simp only[Result.andThen])
   (try rw[Oper.upon_value])
   refine hK.out _ _ (hHeld) (fun hHeld=>?_);clear hK K;try simp only[cq]
   refine jk 8 fun K hK=>?_;go_simp;have hst:=vA hHeld.1 #[.string (be 8 ex),.string (be 1 aY)] 9;have hge:=hpn.lt;have hpn:=hpn.below (boxed _ (.cells #[.string (be 8 ex),.string (be 1 aY)] 9));refine hK.out _ _ (⟨hHeld.1.trans (Wrote.of (au CX.out.size hHeld.1.below.size) (boxed _ _)),ak hHeld.2.1 (boxed _ _),ak hHeld.2.2 (boxed _ _)⟩) (fun hHeld=>?_);clear hK K;try simp only[cq]
   refine jk 9 fun K hK=>?_;go_simp;refine(put_any [be 8 ex,be 1 aY] hpn (by first|exact hst|simpa using hst) (by first|omega|(simp at hge⊢;omega)) (by simp) (by rw[eE,bU,bU,ai,aR,aR];omega) (au CX.out.size hHeld.1.below.size) 2 rfl).mono ?_;rintro r w6⟨rfl,p6,k6⟩;have hQ6:=(hHeld.1.trans k6).kept _ _ _ YJ.out ei.out aF;have Rt:=hHeld.1.trans k6;refine hK.out _ _ (⟨hHeld.1.trans k6,hQ6.cell 5,hQ6.cell 6⟩) (fun hHeld=>?_);clear hK K;try simp only[cq]
   refine qR ?_;have h7:=hQ6.cell 7;simp at h7;have YK:=ae (HEs.out w6 _ (by rw[ai,eE,bU,bU,ai,aR,aR]) (CX.out.trans Rt.below) p6);have ru:=ae (Bc.out.trans Rt);clear hQ6 Rt k6 p6 hst hsb hone hpn hge hHeld;go_wp2_with(go_at_call 83;(with_reducible refine YK.out.mono ?_);rintro r w7⟨rfl,p7,k7⟩;rw[←HR.out]at p7)
   go_end0
   exact⟨rfl,p7,ru.out.trans k7⟩
  ·go_simp
   (try(first|rw[hone]|erw [hone]))
   (try simp only[Result.andThen])
   (try rw[Oper.upon_value])
   refine hK.out _ _ (hHeld) (fun hHeld=>?_);clear hK K;try simp only[cq]
   refine jk 3 fun K hK=>?_;go_simp;refine(HU.out _).mono ?_;rintro r wb⟨rfl,db⟩
   (try have hsb:=aD.below hsb db (aD.lt hsb))
   (try have hone:=vB hsb Hor.out)
   have hpn:=hpn.below db;refine hK.out _ _ (⟨hHeld.1.trans (Wrote.of (au CX.out.size hHeld.1.below.size) db),ak hHeld.2.1 db,ak hHeld.2.2 db⟩) (fun hHeld=>?_);clear hK K;try simp only[cq]
   refine jk 8 fun K hK=>?_;go_simp;have hst:=vA hHeld.1 #[.string (be 8 ex),.string (be 1 aY)] 9;have hge:=hpn.lt;have hpn:=hpn.below (boxed _ (.cells #[.string (be 8 ex),.string (be 1 aY)] 9));refine hK.out _ _ (⟨hHeld.1.trans (Wrote.of (au CX.out.size hHeld.1.below.size) (boxed _ _)),ak hHeld.2.1 (boxed _ _),ak hHeld.2.2 (boxed _ _)⟩) (fun hHeld=>?_);clear hK K;try simp only[cq]
   refine jk 9 fun K hK=>?_;go_simp;refine(put_any [be 8 ex,be 1 aY] hpn (by first|exact hst|simpa using hst) (by first|omega|(simp at hge⊢;omega)) (by simp) (by rw[eE,bU,bU,ai,aR,aR];omega) (au CX.out.size hHeld.1.below.size) 2 rfl).mono ?_;rintro r w6⟨rfl,p6,k6⟩;have hQ6:=(hHeld.1.trans k6).kept _ _ _ YJ.out ei.out aF;have Rt:=hHeld.1.trans k6;refine hK.out _ _ (⟨hHeld.1.trans k6,hQ6.cell 5,hQ6.cell 6⟩) (fun hHeld=>?_);clear hK K;try simp only[cq]
   refine qR ?_;have h7:=hQ6.cell 7;simp at h7;have YK:=ae (HEs.out w6 _ (by rw[ai,eE,bU,bU,ai,aR,aR]) (CX.out.trans Rt.below) p6);have ru:=ae (Bc.out.trans Rt);clear hQ6 Rt k6 p6 hst hsb hone hpn hge hHeld;go_wp2_with(go_at_call 83;(with_reducible refine YK.out.mono ?_);rintro r w7⟨rfl,p7,k7⟩;rw[←HR.out]at p7)
   go_end0
   exact⟨rfl,p7,ru.out.trans k7⟩
theorem Ww{B:Nat}{w:World}(hB:B≤w.heap.size):gP B w.heap.size [] (w.alloc (.cells #[.pointer none,.slice none 0 0] 74)):=Or.inl ⟨hB,.slice none 0 0,aD.new w _ _,⟨rfl,Or.inl ⟨rfl,rfl⟩⟩,by simp[Value.ownBlock]⟩
theorem pG{w:World}(env:Env w){pv rv:Value}{m:Mp}(hp:dZ w pv m.aK)(hr:gQ w rv m.aB)(fit:kr m)(sz:∀p∈m.aK,j9 p)(hpl:m.aK.length≤4000000)(hrl:m.aB.length≤4000000)(hol:m.policy.size≤2000000)(hml:ig m=true→(xe m).length≤80000000):Calls ag 12 #[.agg #[.int .u64 (m.version:Int),pv,rv,.string m.policy]] w fun r w'=>(∃(t:ByteArray)(e:Nat),(t,e)=cK m∧r=.returned (.tuple #[.string t,.int .i64 e]))∧Below w.heap.size w w':=by
 have hmay:=fun u(hu:Below w.heap.size w u)=>Ro (env.below hu) (hp.below hu) (aW.below hr hu) fit sz hpl hrl hol
 obtain⟨xs,hxs,hrow,hx⟩:=hp;cases hm:ig m with
 |false=>
  have hR:cK m=(⟨#[]⟩,220):=by unfold cK encR;rw[if_pos hm]
  rw[hm]at hmay;rw[hR];obtain⟨Ap,cp,rfl⟩:=hrow.shape;obtain⟨Ar,cr,rfl⟩:=aW.shape hr;obtain⟨version,aK,aB,policy⟩:=m;simp only at*;generalize aB.length=NR at*;generalize xs.length=NP at*;obtain⟨Du,HB,HM⟩:=bj hmay (boxed w (.cells #[.int .u64 version,.slice Ap NP cp,.slice Ar NR cr,.string policy] 33)) (aD.new w 33 #[.int .u64 version,.slice Ap NP cp,.slice Ar NR cr,.string policy]);clear hmay hrow hx hr fit sz hpl hrl hol hml env hm hR hxs;go_enter Tryz.func12,Tryz.ntmps12;go_upto_region 1 with fail
  generalize w.alloc (.cells #[.int .u64 version,.slice Ap NP cp,.slice Ar NR cr,.string policy] 33)=w1 at HB HM⊢;generalize w.heap.size=P at HM⊢;obtain⟨m0,m1,m2,m3⟩:=dy HM;go_wp2_with(go_at_call 27;(with_reducible refine(Du.out _ HB.out).mono ?_);rintro r w2⟨rfl,d2⟩)
  go_ret2;exact⟨⟨_,220,rfl,rfl⟩,after HB.out d2⟩
 |true=>
  have hml:=hml hm;have ok:=YF fit hm;have hR:cK m=(if 32768<(xe m).length then((⟨#[]⟩:ByteArray),4)else(gW (xe m),0)):=by unfold cK encR;rw[if_neg (by simp[hm])]
  rw[hm]at hmay;have hsum:(xe m).length=8+((cB wL m.aK).length+((cB C9 m.aB).length+(pP m.policy).length)):=by
   unfold xe;simp only[ai,aR]
  have hpl2:(cB wL m.aK).length=2+(m.aK.flatMap wL).length:=by unfold cB;rw[ai,aR]
  have hrl2:(cB C9 m.aB).length=2+(m.aB.flatMap C9).length:=by unfold cB;rw[ai,aR]
  have hone:∀X∈xs,(wL X.p).length≤(m.aK.flatMap wL).length:=fun X hX=>by
   rw[←hxs,List.flatMap_map];exact List.Sublist.length_le (List.sublist_flatten_of_mem (aeE hX))
  obtain⟨D1,hD1⟩:∃d,d=fk 8 m.version:=⟨_,rfl⟩;obtain⟨D2,hD2⟩:∃d,d=D1++cB wL m.aK:=⟨_,rfl⟩;obtain⟨D3,hD3⟩:∃d,d=D2++cB C9 m.aB:=⟨_,rfl⟩;obtain⟨D4,hD4⟩:∃d,d=D3++pP m.policy:=⟨_,rfl⟩;have hD:xe m=D4:=by rw[hD4,hD3,hD2,hD1];unfold xe;simp only[aO]
  have l1:D1.length=8:=by rw[hD1,aR]
  have l2:D2.length=D1.length+(cB wL m.aK).length:=by rw[hD2,ai]
  have l3:D3.length=D2.length+(cB C9 m.aB).length:=by rw[hD3,ai]
  have h4:D4≠[]:=by
   intro h;have:=congrArg List.length h;rw[hD4,ai,List.length_nil]at this;omega
  have hput:=fun b u(hB:w.heap.size≤u.heap.size)(hp:gP w.heap.size b [] u)=>ip (w:=u) [be 8 m.version] hp (by simp) (by rw[dV,bU,aR];simp) hB 1 rfl
  rw[show([]:List UInt8)++fw [be 8 m.version]=D1 by rw[List.nil_append,dV,bU,hD1]]at hput;have hps:=fun b u(hu:Below w.heap.size w u)(hp:gP w.heap.size b D1 u)=>Na wL hrow hx hu (by have:=ok.aK.1;rw[←hxs,ax]at this;exact this) 31 (enters_of Tryz.func31 bg rfl) hp (show 90000000≤800000000 by decide) (by rw[hxs];omega) fun X hX W D' q1 q2 q3 q4=>Dt (hx X hX) (ok.aK.2 _ (by rw[←hxs];exact aeE hX)) (hu.trans q1) q2 (by have:=hone X hX;omega)
  rw[hxs]at hps;have hrs:=fun b u(hu:Below w.heap.size w u)(hp:gP w.heap.size b D2 u)=>M9 C9 hr hu ok.aB.1 33 (enters_of Tryz.func33 bg rfl) hp (show 90000000≤800000000 by decide) aM fun r hr' W D' q1 q2 q3 q4=>zK r (by have:=(ok.aB.2 r hr').id;omega) (ok.aB.2 r hr').fin.1 (ok.aB.2 r hr').fin.2 (by rw[(ok.aB.2 r hr').key];decide) q2 aM q4
  have htx:=fun b u(hB:w.heap.size≤u.heap.size)(hp:gP w.heap.size b D3 u)=>ny m.policy ok.policy hp aM hB
  have hby:=fun b u(hp:gP w.heap.size b D4 u)=>zL hp h4
  rw[hR,hD];generalize(if 32768<D4.length then((⟨#[]⟩:ByteArray),4)else(gW D4,0))=R at hby⊢;have hu64:=fun u=>yG m.version fit.version u
  unfold Put at hps hrs htx;obtain⟨HD2,HD3,HD4⟩:=bj hD2 hD3 hD4;obtain⟨Ap,cp,rfl⟩:=hrow.shape;obtain⟨Ar,cr,rfl⟩:=aW.shape hr;clear hsum hpl2 hrl2 hone hD1 hD2 hD3 hD4 hD l1 l2 l3 h4 hrow hx hr fit sz hpl hrl hol hml env hm hR ok;obtain⟨version,aK,aB,policy⟩:=m;simp only at*;clear hxs;generalize cB wL aK=LP at*;generalize cB C9 aB=LR at*;generalize pP policy=LT at*;generalize aB.length=NR at*;generalize xs.length=NP at*;obtain⟨Du,kc,zJ,HRs,HTx,HBy,HU,HB,HM⟩:=Ox hmay hput hps hrs htx hby hu64 (boxed w (.cells #[.int .u64 version,.slice Ap NP cp,.slice Ar NR cr,.string policy] 33)) (aD.new w 33 #[.int .u64 version,.slice Ap NP cp,.slice Ar NR cr,.string policy]);clear hmay hput hps hrs htx hby hu64;go_enter Tryz.func12,Tryz.ntmps12;go_upto_region 1 with fail
  generalize w.alloc (.cells #[.int .u64 version,.slice Ap NP cp,.slice Ar NR cr,.string policy] 33)=w1 at HB HM⊢;generalize hP:w.heap.size=P at HM⊢;obtain⟨m0,m1,m2,m3⟩:=dy HM;go_upto_region 3 with(go_at_call 27;(with_reducible refine(Du.out _ HB.out).mono ?_);rintro r w2⟨rfl,d2⟩)
  have HB2:=aU HB d2;have sU:=ae (HM.out.below d2 HM.out.lt);clear m0 m1 m2 m3 d2 HB HM;go_upto_region 4 with fail
  have hb3:=boxed w2 (.cells #[.pointer none,.slice none 0 0] 74);obtain⟨HN,oD⟩:=aI (Ww (B:=w.heap.size) HB2.out.size) (sU.out.below hb3 sU.out.lt);have HB3:=aU HB2 hb3;have ei:af (P≠w2.heap.size):=ae (by have:=sU.out.lt;omega);clear hb3 HB2 sU;generalize w2.alloc (.cells #[.pointer none,.slice none 0 0] 74)=w3 at HN oD HB3⊢;generalize w2.heap.size=b at HN ei⊢;have m0:=oD.out.cell 0;simp at m0;go_upto_region 5 with(first
   |(go_at_call 29;(with_reducible refine(HU.out _).mono ?_);rintro r w4⟨rfl,d4⟩)
   |(go_at_call 28;(refine(kc.out b w4 (HB3.out.trans (d4.mono HB3.out.size)).size (HN.out.below d4)).mono ?_);rintro r w5⟨rfl,p5,k5⟩))
  have rD:=ae (k5.kept _ _ _ (oD.out.below d4 oD.out.lt) ei.out aF);have mO:=ae (HB3.out.trans ((d4.mono HB3.out.size).trans k5.below));have HT5:=ae (zJ.out b w5 mO.out p5);obtain⟨-,m1⟩:=iD rD;clear m0 d4 k5 p5 oD HB3 HN;go_upto_region 6 with(go_at_call 30;(with_reducible refine HT5.out.mono ?_);rintro r w6⟨rfl,p6,k6⟩;rw[←HD2.out]at p6)
  have Ba:=ae (k6.kept _ _ _ rD.out ei.out aF);have jH:=ae (mO.out.trans k6.below);have YK:=ae (HRs.out b w6 jH.out p6);obtain⟨-,-,m2⟩:=iE Ba;clear m1 k6 p6 rD mO HT5;go_upto_region 7 with(go_at_call 32;(with_reducible refine YK.out.mono ?_);rintro r w7⟨rfl,p7,k7⟩;rw[←HD3.out]at p7)
  have HM7:=ae (k7.kept _ _ _ Ba.out ei.out aF);have tK:=ae (jH.out.trans k7.below);have HT7:=ae (HTx.out b w7 tK.out.size p7);obtain⟨-,-,-,m3⟩:=dy HM7;clear m2 k7 p7 Ba jH YK;go_upto_region 8 with(go_at_call 34;(with_reducible refine HT7.out.mono ?_);rintro r w8⟨rfl,p8,k8⟩;rw[←HD4.out]at p8)
  obtain⟨HB8,HT8⟩:=aI (tK.out.trans k8.below) (HBy.out b w8 p8);clear m3 k8 p8 HM7 tK HT7;go_wp2_with(go_at_call 35;(with_reducible refine HT8.out.mono ?_);rintro r w9⟨⟨t,e,hte,rfl⟩,b9⟩;have Hte:=ae hte;clear hte)
  go_ret2;exact⟨⟨t,e,Hte.out,rfl⟩,HB8.out.trans b9⟩
theorem ll{w:World}(env:Env w){pv rv:Value}{m:Mp}(hp:dZ w pv m.aK)(hr:gQ w rv m.aB)(fit:kr m)(sz:∀p∈m.aK,j9 p)(hpl:m.aK.length≤4000000)(hrl:m.aB.length≤4000000)(hol:m.policy.size≤2000000)(hml:ig m=true→(xe m).length≤80000000):Calls ag 19 #[.agg #[.int .u64 (m.version:Int),pv,rv,.string m.policy]] w (Got (.int .i64 ((cK m).2:Int)) w):=by
 have he:=fun u(hu:Below w.heap.size w u)=>pG (env.below hu) (hp.below hu) (aW.below hr hu) fit sz hpl hrl hol hml
 obtain⟨Ap,cp,rfl⟩:=hp.shape;obtain⟨Ar,cr,rfl⟩:=aW.shape hr;generalize cK m=R at he⊢;obtain⟨version,aK,aB,policy⟩:=m;simp only at*;generalize aB.length=NR at*;generalize aK.length=NP at*;obtain⟨HE,HB,HM⟩:=bj he (boxed w (.cells #[.int .u64 version,.slice Ap NP cp,.slice Ar NR cr,.string policy] 33)) (aD.new w 33 #[.int .u64 version,.slice Ap NP cp,.slice Ar NR cr,.string policy]);clear he hp hr fit sz hpl hrl hol hml env;go_enter Tryz.func19,Tryz.ntmps19;go_upto_region 1 with fail
 generalize w.alloc (.cells #[.int .u64 version,.slice Ap NP cp,.slice Ar NR cr,.string policy] 33)=w1 at HB HM⊢;generalize w.heap.size=P at HM⊢;obtain⟨m0,m1,m2,m3⟩:=dy HM;go_wp2_with(go_at_call 12;(with_reducible refine(HE.out _ HB.out).mono ?_);rintro r w2⟨⟨t,e,hte,rfl⟩,d2⟩;have Hte:=ae hte;clear hte)
 go_ret;exact⟨by rw[←Hte.out];rfl,after HB.out d2⟩
def keyAt(xs:List bN)(key:ByteArray)(k:Nat):Bool:=match xs[k]? with|some X=>decide (X.p.key=key)|none=>false
theorem zM{w:World}{v:Value}{xs:List bN}(hr:aW w v xs.length 8 (cD xs))(hl:xs.length≤4000000)(q:bN→Bool)(f:Nat)(lb:Array Value)(eg:∀args w,(callFunc f args).run ag w=.ok (.enter f args) w)(hf:∀W,Below w.heap.size w W→∀X∈xs,Calls ag f (#[.agg X.vals.toArray]++lb) W (Got (.bool (q X)) W)):Calls ag 99 #[v,.func (.func f) #[] lb] w fun r w'=>(∃z:Int,r=.returned (.int .i64 z)∧UJ (fun k=>match xs[k]? with|some X=>q X|none=>false) xs.length z)∧Below w.heap.size w w':=by
 obtain⟨A,cap,rfl⟩:=hr.shape;refine CZ hl _ _ hr.gm f lb eg fun k hk W hW=>?_
 have hxk:xs[k]? =some xs[k]:=ah hk;rw[show cD xs=xs.flatMap bN.vals from rfl];simp only[hxk];rw[dr bN.vals 8 aE xs k _ hxk];exact hf W hW _ (bB hk)
theorem Wx{w:World}{v:Value}{xs:List bN}(hr:aW w v xs.length 8 (cD xs))(hl:xs.length≤4000000)(key:ByteArray):Calls ag 44 #[v,.string key] w fun r w'=>(∃z:Int,r=.returned (.int .i64 z)∧UJ (keyAt xs key) xs.length z)∧Below w.heap.size w w':=by
 have hi:=fun u(hu:Below w.heap.size w u)g(hg:u.cell? ⟨g,0,none⟩=some (.string key))=>zM (hr.below hu) hl (fun X=>decide (X.p.key=key)) 100 #[.pointer (some ⟨g,0,none⟩)] (enters_of Tryz.func100 bg rfl)
  fun W hW X hX=>MV key X.p.key _ _ _ _ _ _ _ g (ak hg hW)
 rw[show(fun k=>match xs[k]? with|some X=>decide (X.p.key=key)|none=>false)=keyAt xs key from rfl]at hi;generalize keyAt xs key=K at hi⊢;obtain⟨A,cap,rfl⟩:=hr.shape;generalize xs.length=N at*;have HI:=ae hi;have hb:=boxed w (.cells #[.string key] 9);have hg:(w.alloc (.cells #[.string key] 9)).cell? ⟨w.heap.size,0,none⟩=some (.string key):=(aD.new w 9 #[.string key]).cell 0;obtain⟨HG,HB⟩:=aI hg hb;clear hi hr hb hg;go_enter Tryz.func44,Tryz.ntmps44;go_upto_region 1 with fail
 generalize w.alloc (.cells #[.string key] 9)=w1 at HB HG⊢;generalize w.heap.size=P at HG⊢;go_wp2_with(go_at_call 99;(with_reducible refine(HI.out _ HB.out _ HG.out).mono ?_);rintro r w2⟨⟨z,rfl,hz⟩,d2⟩;have HZ:=ae hz;clear hz)
 go_ret;exact⟨⟨z,rfl,HZ.out⟩,after HB.out d2⟩
end Go.Proofs.YteflnojjjdkgmaaGreatDoor
