/- Joined out of: PeC PeD PeE PeF PeH PeI PeJ PeK PeL PeM NfA. -/
import Derived.Test.YtdfnhljccdoncaaGreatDoorNap
set_option linter.unusedVariables false
set_option linter.unusedSimpArgs false
set_option maxHeartbeats 16000000
set_option maxRecDepth 100000
open Go.Lib renaming hid→ae
open Go.Proofs.Tryz renaming prog→ai,underlying9→bL,underlying5→cB,underlying89→ew
open Go.RowKit renaming Hid→af
open Go.RowKit.Below renaming refl→aK
open List renaming getElem?_eq_getElem→ag,length_append→aj,length_map→ay,getD_eq_getElem?_getD→aB,range→aD,append_assoc→aZ,getElem_mem→bC,append_nil→lS,mem_map_of_mem→rE,getElem?_eq_none→BL
open Nat renaming le_refl→aw,le_trans→ax,zero_le→bF,add_zero→cN
namespace Go.Proofs.YtdfnhljccdoncaaGreatDoor
open Go.RowKit
attribute [local go_sem↓] Go.wp_at_zero Go.wp_at_succ
attribute [local go_sem] dJ
theorem vT{B b:Nat}{D:List UInt8}{w:World}(e:En)(ok:xN e.1)(op:e.2<65536)(h:iy B b D w)(hlen:D.length≤900000000)(hBw:B≤w.heap.size):Calls ai 137 #[.pointer (some ⟨b,0,none⟩),.agg (bV e).toArray] w (Put B b D (DN e) w):=by
 have hal:=JS e.1;have had:=fun u(hu:Below w.heap.size w u)=>tz e.1 ok (h.below hu) aY (ax hBw hu.size)
 have hpo:=fun u=>lW e.2 op u
 have hput:=fun v u(hp:iy B b (D++xi e.1) v)(hv:B≤v.heap.size)(hu:Below v.heap.size v u)=>iR (w:=u) [be 2 e.2] (hp.below hu) (by simp) (by rw[ed,b8,aR,aj];omega) (ax hv hu.size) 1 rfl
 have ep:af (w.heap.size≠b):=ae (by have:=h.lt;omega);obtain⟨X,hX⟩:∃x,x=DN e:=⟨_,rfl⟩;rw[←hX];have hX2:D++xi e.1++fF [be 2 e.2]=D++X:=by rw[hX,ed,b8,aZ];rfl
 have HX:=ae hX2;have hb1:=boxed w (.cells (bV e).toArray 69);obtain⟨HP,HB1,HB⟩:=bO (aG.new w 69 (bV e).toArray) hb1 hBw;unfold Put at had⊢;obtain⟨⟨v,hi,lo⟩,po⟩:=e;unfold bV at HP HB1⊢;simp only at*;unfold Ad.cells at had;simp only at had;obtain⟨HAd,MF,ky⟩:=bO had hpo hput;clear had hpo hput hX hX2 hb1 h hBw hal ok op;go_enter Tryz.func137,Tryz.ntmps137;go_upto_region 1 with fail
 generalize w.alloc (.cells #[.bool v,.int .u64 hi,.int .u64 lo,.int .u16 po] 69)=w1 at HP HB1⊢;generalize w.heap.size=P at HP ep⊢;obtain⟨a0,a1,a2⟩:=oM HP;go_upto_region 2 with(go_at_call 135;(with_reducible refine(HAd.out _ HB1.out).mono ?_);rintro r w2⟨rfl,p2,k2⟩)
 have HP2:=ae (k2.kept _ _ _ HP.out ep.out aI);obtain⟨-,-,-,a3⟩:=jB HP2;have hB2:=ax HB.out (ax HB1.out.size k2.below.size);obtain⟨HB2,kx,aeS⟩:=bO hB2 k2 p2;clear a0 a1 a2 hB2 k2 p2;go_wp2_with(first
  |(go_at_call 133;(with_reducible refine(MF.out _).mono ?_);rintro r w3⟨rfl,d3⟩)
  |(go_at_call 62;(refine(ky.out w2 w3 aeS.out HB2.out d3).mono ?_);rintro r w4⟨rfl,p4,k4⟩;rw[HX.out]at p4))
 go_end0
 exact⟨rfl,p4,(kx.out.low HB.out HB1.out).trans (k4.low HB2.out d3)⟩
theorem jd{β:Type}(E:Nat→List β)(k:Nat):(aD (k+1)).flatMap E=(aD k).flatMap E++E k:=by
 rw[List.range_succ,List.flatMap_append];simp
theorem gJ{β:Type}(E:Nat→List β){k n:Nat}(h:k≤n):((aD k).flatMap E).length≤((aD n).flatMap E).length:=by
 induction n with
 |zero=>rw[Nat.le_zero.1 h];exact aw _
 |succ n ih=>
  rcases Nat.lt_or_ge k (n+1)with h1|h1
  ·rw[jd E n,aj];have:=ih aY;omega
  ·rw[show k=n+1 by omega];exact aw _
theorem NJ{B b:Nat}{D:List UInt8}{w:World}{A:Option Addr}{N cap:Nat}{M:Nat}(hM:M≤800000000)(hN:N<65536)(cs:Nat→ByteArray)(E:Nat→List UInt8)(hc:mB w A N cs)(hA:0<N→∀g o,A=some ⟨g,o,none⟩→g<B)(f:Nat)(eg:∀args w,(callFunc f args).run ai w=.ok (.enter f args) w)(h:iy B b D w)(hBw:B≤w.heap.size)(hlen:D.length+2+((aD N).flatMap E).length≤M)(hf:∀k,k<N→∀W D',Below B w W→iy B b D' W→D'.length≤M→B≤W.heap.size→Calls ai f #[.pointer (some ⟨b,0,none⟩),.string (cs k)] W (Put B b D' (E k) W)):Calls ai 78 #[.pointer (some ⟨b,0,none⟩),.slice A N cap,.func (.func f) #[.pointer (some ⟨b,0,none⟩)] #[]] w (Put B b D (fw 2 N++(aD N).flatMap E) w):=by
 have hu:=fun u=>lW N hN u
 have hw:IntKind.u16.wrap (N:Int)=(N:Int):=by
  show(N:Int)%65536=_;omega
 have hput:=fun u(hu:Below w.heap.size w u)=>iR (w:=u) [be 2 N] (h.below hu) (by simp) (by rw[ed,b8,aR];omega) (ax hBw hu.size) 1 rfl
 rw[show fF [be 2 N]=fw 2 N by rw[ed,b8]]at hput;obtain⟨HC,HF,HA,HB,HLen,HU,ky⟩:=uE hc hf hA hBw hlen hu hput;unfold Put at HF⊢;clear hc hf hA hBw hlen h hu hput;go_enter Tryz.func78,Tryz.ntmps78;go_wp2_with(first
  |(go_at_call 133;(with_reducible refine(HU.out _).mono ?_);rintro r w1⟨rfl,d1⟩)
  |(go_at_call 62;(refine(ky.out _ d1).mono ?_);rintro r w2⟨rfl,p2,k2⟩;obtain⟨HP2,kx⟩:=aQ p2 (k2.low HB.out d1);clear p2 k2))
 go_loopw [17] (fun v17 wr=>∃k:Nat,k≤N∧v17=.int .i64 k∧af (iy B b (D++fw 2 N++(aD k).flatMap E) wr)∧af (Wrote B b w wr)) (fun v17 _=>N-(intOf v17).toNat)
 case atStart=>exact⟨0,bF _,rfl,ae (by rw[show(aD 0).flatMap E=[]from rfl,lS];exact HP2.out),kx⟩
 case round=>
  obtain⟨k,hk,rfl,hp,hb⟩:=hrel;have hBr:=ax HB.out hb.out.below.size;have O5:=ae hBr;by_cases hlt:k<N
  ·have hlr:(D++fw 2 N++(aD k).flatMap E).length≤M:=by
    have h1:=gJ E hk;have h2:=HLen.out;simp only[aj,aR]at*;omega
   obtain⟨q,o,rfl,hcell⟩:=HC.out k hlt;have hcall:=fun u(hu:Below wr.heap.size wr u)=>HF.out k hlt u (D++fw 2 N++(aD k).flatMap E) (hb.out.below.trans (hu.mono hBr)) (hp.out.below hu) hlr (ax hBr hu.size)
   have d0:=(hb.out.below.cell (p:=⟨q,o+k,none⟩) (HA.out aY _ _ rfl)).trans hcell;generalize cs k=L at d0 hcall;have bu:=ae hcall;clear hcall hcell;clear hlr hBr;go_wp2_with(go_at_fn f;(with_reducible refine(bu.out _ (aK _ _)).mono ?_);rintro r w4⟨rfl,p4,k4⟩;have yK:=ae p4;clear p4)
   go_roundw
   case rel=>exact⟨k+1,by omega,by go_num,ae (by rw[jd,←aZ];exact yK.out),ae (hb.out.trans (k4))⟩
   case measure=>simp[intOf];omega
  ·obtain rfl:k=N:=by omega
   clear hBr;go_wp2_with fail
   go_end0
   exact⟨rfl,by rw[←aZ];exact hp.out,hb.out⟩
theorem Ih{B b:Nat}{D:List UInt8}{w:World}{A:Option Addr}{N cap:Nat}{M:Nat}(hM:M≤800000000)(hN:N<65536)(cs:Nat→Ad)(E:Nat→List UInt8)(hc:dh w A N 3 fun k=>(fun a:Ad=>a.cells.toList) (cs k))(hA:0<N→∀g o,A=some ⟨g,o,none⟩→g<B)(f:Nat)(eg:∀args w,(callFunc f args).run ai w=.ok (.enter f args) w)(h:iy B b D w)(hBw:B≤w.heap.size)(hlen:D.length+2+((aD N).flatMap E).length≤M)(hf:∀k,k<N→∀W D',Below B w W→iy B b D' W→D'.length≤M→B≤W.heap.size→Calls ai f #[.pointer (some ⟨b,0,none⟩),.agg ((fun a:Ad=>a.cells.toList) (cs k)).toArray] W (Put B b D' (E k) W)):Calls ai 134 #[.pointer (some ⟨b,0,none⟩),.slice A N cap,.func (.func f) #[.pointer (some ⟨b,0,none⟩)] #[]] w (Put B b D (fw 2 N++(aD N).flatMap E) w):=by
 have hu:=fun u=>lW N hN u
 have hw:IntKind.u16.wrap (N:Int)=(N:Int):=by
  show(N:Int)%65536=_;omega
 have hput:=fun u(hu:Below w.heap.size w u)=>iR (w:=u) [be 2 N] (h.below hu) (by simp) (by rw[ed,b8,aR];omega) (ax hBw hu.size) 1 rfl
 rw[show fF [be 2 N]=fw 2 N by rw[ed,b8]]at hput;obtain⟨HC,HF,HA,HB,HLen,HU,ky⟩:=uE hc hf hA hBw hlen hu hput;unfold Put at HF⊢;clear hc hf hA hBw hlen h hu hput;go_enter Tryz.func134,Tryz.ntmps134;go_wp2_with(first
  |(go_at_call 133;(with_reducible refine(HU.out _).mono ?_);rintro r w1⟨rfl,d1⟩)
  |(go_at_call 62;(refine(ky.out _ d1).mono ?_);rintro r w2⟨rfl,p2,k2⟩;obtain⟨HP2,kx⟩:=aQ p2 (k2.low HB.out d1);clear p2 k2))
 go_loopw [17] (fun v17 wr=>∃k:Nat,k≤N∧v17=.int .i64 k∧af (iy B b (D++fw 2 N++(aD k).flatMap E) wr)∧af (Wrote B b w wr)) (fun v17 _=>N-(intOf v17).toNat)
 case atStart=>exact⟨0,bF _,rfl,ae (by rw[show(aD 0).flatMap E=[]from rfl,lS];exact HP2.out),kx⟩
 case round=>
  obtain⟨k,hk,rfl,hp,hb⟩:=hrel;have hBr:=ax HB.out hb.out.below.size;have O5:=ae hBr;by_cases hlt:k<N
  ·have hlr:(D++fw 2 N++(aD k).flatMap E).length≤M:=by
    have h1:=gJ E hk;have h2:=HLen.out;simp only[aj,aR]at*;omega
   obtain⟨_,q,o,rfl,hcell⟩:=HC.out k hlt;have hcall:=fun u(hu:Below wr.heap.size wr u)=>HF.out k hlt u (D++fw 2 N++(aD k).flatMap E) (hb.out.below.trans (hu.mono hBr)) (hp.out.below hu) hlr (ax hBr hu.size)
   dsimp only at hcell;generalize cs k=x at hcell hcall;obtain⟨v,hi,lo⟩:=x;unfold Ad.cells at hcell hcall;simp only at hcell hcall;have d0:=(hb.out.below.cell (p:=⟨q,o+k*3+0,none⟩) (HA.out aY _ _ rfl)).trans (hcell 0 _ rfl);have d1:=(hb.out.below.cell (p:=⟨q,o+k*3+1,none⟩) (HA.out aY _ _ rfl)).trans (hcell 1 _ rfl);have d2:=(hb.out.below.cell (p:=⟨q,o+k*3+2,none⟩) (HA.out aY _ _ rfl)).trans (hcell 2 _ rfl);rw[cN]at d0;have bu:=ae hcall;clear hcall hcell;clear hlr hBr;go_wp2_with(go_at_fn f;(with_reducible refine(bu.out _ (boxed _ _)).mono ?_);rintro r w4⟨rfl,p4,k4⟩;have yK:=ae p4;clear p4)
   go_roundw
   case rel=>exact⟨k+1,by omega,by go_num,ae (by rw[jd,←aZ];exact yK.out),ae (hb.out.trans (k4.low O5.out (boxed _ _)))⟩
   case measure=>simp[intOf];omega
  ·obtain rfl:k=N:=by omega
   clear hBr;go_wp2_with fail
   go_end0
   exact⟨rfl,by rw[←aZ];exact hp.out,hb.out⟩
theorem Ii{B b:Nat}{D:List UInt8}{w:World}{A:Option Addr}{N cap:Nat}{M:Nat}(hM:M≤800000000)(hN:N<65536)(cs:Nat→En)(E:Nat→List UInt8)(hc:dh w A N 4 fun k=>bV (cs k))(hA:0<N→∀g o,A=some ⟨g,o,none⟩→g<B)(f:Nat)(eg:∀args w,(callFunc f args).run ai w=.ok (.enter f args) w)(h:iy B b D w)(hBw:B≤w.heap.size)(hlen:D.length+2+((aD N).flatMap E).length≤M)(hf:∀k,k<N→∀W D',Below B w W→iy B b D' W→D'.length≤M→B≤W.heap.size→Calls ai f #[.pointer (some ⟨b,0,none⟩),.agg (bV (cs k)).toArray] W (Put B b D' (E k) W)):Calls ai 136 #[.pointer (some ⟨b,0,none⟩),.slice A N cap,.func (.func f) #[.pointer (some ⟨b,0,none⟩)] #[]] w (Put B b D (fw 2 N++(aD N).flatMap E) w):=by
 have hu:=fun u=>lW N hN u
 have hw:IntKind.u16.wrap (N:Int)=(N:Int):=by
  show(N:Int)%65536=_;omega
 have hput:=fun u(hu:Below w.heap.size w u)=>iR (w:=u) [be 2 N] (h.below hu) (by simp) (by rw[ed,b8,aR];omega) (ax hBw hu.size) 1 rfl
 rw[show fF [be 2 N]=fw 2 N by rw[ed,b8]]at hput;obtain⟨HC,HF,HA,HB,HLen,HU,ky⟩:=uE hc hf hA hBw hlen hu hput;unfold Put at HF⊢;clear hc hf hA hBw hlen h hu hput;go_enter Tryz.func136,Tryz.ntmps136;go_wp2_with(first
  |(go_at_call 133;(with_reducible refine(HU.out _).mono ?_);rintro r w1⟨rfl,d1⟩)
  |(go_at_call 62;(refine(ky.out _ d1).mono ?_);rintro r w2⟨rfl,p2,k2⟩;obtain⟨HP2,kx⟩:=aQ p2 (k2.low HB.out d1);clear p2 k2))
 go_loopw [17] (fun v17 wr=>∃k:Nat,k≤N∧v17=.int .i64 k∧af (iy B b (D++fw 2 N++(aD k).flatMap E) wr)∧af (Wrote B b w wr)) (fun v17 _=>N-(intOf v17).toNat)
 case atStart=>exact⟨0,bF _,rfl,ae (by rw[show(aD 0).flatMap E=[]from rfl,lS];exact HP2.out),kx⟩
 case round=>
  obtain⟨k,hk,rfl,hp,hb⟩:=hrel;have hBr:=ax HB.out hb.out.below.size;have O5:=ae hBr;by_cases hlt:k<N
  ·have hlr:(D++fw 2 N++(aD k).flatMap E).length≤M:=by
    have h1:=gJ E hk;have h2:=HLen.out;simp only[aj,aR]at*;omega
   obtain⟨_,q,o,rfl,hcell⟩:=HC.out k hlt;have hcall:=fun u(hu:Below wr.heap.size wr u)=>HF.out k hlt u (D++fw 2 N++(aD k).flatMap E) (hb.out.below.trans (hu.mono hBr)) (hp.out.below hu) hlr (ax hBr hu.size)
   dsimp only at hcell;generalize cs k=x at hcell hcall;obtain⟨⟨v,hi,lo⟩,po⟩:=x;unfold bV at hcell hcall;simp only at hcell hcall;have d0:=(hb.out.below.cell (p:=⟨q,o+k*4+0,none⟩) (HA.out aY _ _ rfl)).trans (hcell 0 _ rfl);have d1:=(hb.out.below.cell (p:=⟨q,o+k*4+1,none⟩) (HA.out aY _ _ rfl)).trans (hcell 1 _ rfl);have d2:=(hb.out.below.cell (p:=⟨q,o+k*4+2,none⟩) (HA.out aY _ _ rfl)).trans (hcell 2 _ rfl);have d3:=(hb.out.below.cell (p:=⟨q,o+k*4+3,none⟩) (HA.out aY _ _ rfl)).trans (hcell 3 _ rfl);rw[cN]at d0;have bu:=ae hcall;clear hcall hcell;clear hlr hBr;go_wp2_with(go_at_fn f;(with_reducible refine(bu.out _ (boxed _ _)).mono ?_);rintro r w4⟨rfl,p4,k4⟩;have yK:=ae p4;clear p4)
   go_roundw
   case rel=>exact⟨k+1,by omega,by go_num,ae (by rw[jd,←aZ];exact yK.out),ae (hb.out.trans (k4.low O5.out (boxed _ _)))⟩
   case measure=>simp[intOf];omega
  ·obtain rfl:k=N:=by omega
   clear hBr;go_wp2_with fail
   go_end0
   exact⟨rfl,by rw[←aZ];exact hp.out,hb.out⟩
theorem Ij{B b:Nat}{D:List UInt8}{w:World}{A:Option Addr}{N cap:Nat}{M:Nat}(hM:M≤800000000)(hN:N<65536)(cs:Nat→Ry)(E:Nat→List UInt8)(hc:dh w A N 6 fun k=>bI (cs k))(hA:0<N→∀g o,A=some ⟨g,o,none⟩→g<B)(f:Nat)(eg:∀args w,(callFunc f args).run ai w=.ok (.enter f args) w)(h:iy B b D w)(hBw:B≤w.heap.size)(hlen:D.length+2+((aD N).flatMap E).length≤M)(hf:∀k,k<N→∀W D',Below B w W→iy B b D' W→D'.length≤M→B≤W.heap.size→Calls ai f #[.pointer (some ⟨b,0,none⟩),.agg (bI (cs k)).toArray] W (Put B b D' (E k) W)):Calls ai 66 #[.pointer (some ⟨b,0,none⟩),.slice A N cap,.func (.func f) #[.pointer (some ⟨b,0,none⟩)] #[]] w (Put B b D (fw 2 N++(aD N).flatMap E) w):=by
 have hu:=fun u=>lW N hN u
 have hw:IntKind.u16.wrap (N:Int)=(N:Int):=by
  show(N:Int)%65536=_;omega
 have hput:=fun u(hu:Below w.heap.size w u)=>iR (w:=u) [be 2 N] (h.below hu) (by simp) (by rw[ed,b8,aR];omega) (ax hBw hu.size) 1 rfl
 rw[show fF [be 2 N]=fw 2 N by rw[ed,b8]]at hput;obtain⟨HC,HF,HA,HB,HLen,HU,ky⟩:=uE hc hf hA hBw hlen hu hput;unfold Put at HF⊢;clear hc hf hA hBw hlen h hu hput;go_enter Tryz.func66,Tryz.ntmps66;go_wp2_with(first
  |(go_at_call 133;(with_reducible refine(HU.out _).mono ?_);rintro r w1⟨rfl,d1⟩)
  |(go_at_call 62;(refine(ky.out _ d1).mono ?_);rintro r w2⟨rfl,p2,k2⟩;obtain⟨HP2,kx⟩:=aQ p2 (k2.low HB.out d1);clear p2 k2))
 go_loopw [17] (fun v17 wr=>∃k:Nat,k≤N∧v17=.int .i64 k∧af (iy B b (D++fw 2 N++(aD k).flatMap E) wr)∧af (Wrote B b w wr)) (fun v17 _=>N-(intOf v17).toNat)
 case atStart=>exact⟨0,bF _,rfl,ae (by rw[show(aD 0).flatMap E=[]from rfl,lS];exact HP2.out),kx⟩
 case round=>
  obtain⟨k,hk,rfl,hp,hb⟩:=hrel;have hBr:=ax HB.out hb.out.below.size;have O5:=ae hBr;by_cases hlt:k<N
  ·have hlr:(D++fw 2 N++(aD k).flatMap E).length≤M:=by
    have h1:=gJ E hk;have h2:=HLen.out;simp only[aj,aR]at*;omega
   obtain⟨_,q,o,rfl,hcell⟩:=HC.out k hlt;have hcall:=fun u(hu:Below wr.heap.size wr u)=>HF.out k hlt u (D++fw 2 N++(aD k).flatMap E) (hb.out.below.trans (hu.mono hBr)) (hp.out.below hu) hlr (ax hBr hu.size)
   dsimp only at hcell;generalize cs k=x at hcell hcall;obtain⟨id,key,⟨⟨v,hi,lo⟩,po⟩⟩:=x;unfold bI at hcell hcall;simp only at hcell hcall;have d0:=(hb.out.below.cell (p:=⟨q,o+k*6+0,none⟩) (HA.out aY _ _ rfl)).trans (hcell 0 _ rfl);have d1:=(hb.out.below.cell (p:=⟨q,o+k*6+1,none⟩) (HA.out aY _ _ rfl)).trans (hcell 1 _ rfl);have d2:=(hb.out.below.cell (p:=⟨q,o+k*6+2,none⟩) (HA.out aY _ _ rfl)).trans (hcell 2 _ rfl);have d3:=(hb.out.below.cell (p:=⟨q,o+k*6+3,none⟩) (HA.out aY _ _ rfl)).trans (hcell 3 _ rfl);have d4:=(hb.out.below.cell (p:=⟨q,o+k*6+4,none⟩) (HA.out aY _ _ rfl)).trans (hcell 4 _ rfl);have d5:=(hb.out.below.cell (p:=⟨q,o+k*6+5,none⟩) (HA.out aY _ _ rfl)).trans (hcell 5 _ rfl);rw[cN]at d0;have bu:=ae hcall;clear hcall hcell;clear hlr hBr;go_wp2_with(go_at_fn f;(with_reducible refine(bu.out _ (boxed _ _)).mono ?_);rintro r w4⟨rfl,p4,k4⟩;have yK:=ae p4;clear p4)
   go_roundw
   case rel=>exact⟨k+1,by omega,by go_num,ae (by rw[jd,←aZ];exact yK.out),ae (hb.out.trans (k4.low O5.out (boxed _ _)))⟩
   case measure=>simp[intOf];omega
  ·obtain rfl:k=N:=by omega
   clear hBr;go_wp2_with fail
   go_end0
   exact⟨rfl,by rw[←aZ];exact hp.out,hb.out⟩
theorem Ik{B b:Nat}{D:List UInt8}{w:World}{A:Option Addr}{N cap:Nat}{M:Nat}(hM:M≤800000000)(hN:N<65536)(cs:Nat→bG)(E:Nat→List UInt8)(hc:dh w A N 8 fun k=>bG.vals (cs k))(hA:0<N→∀g o,A=some ⟨g,o,none⟩→g<B)(f:Nat)(eg:∀args w,(callFunc f args).run ai w=.ok (.enter f args) w)(hsh:∀k,k<N→∃A1 n1 c1 A2 n2 c2 A3 n3 c3,(cs k).tv=.slice A1 n1 c1∧(cs k).av=.slice A2 n2 c2∧(cs k).ev=.slice A3 n3 c3)(h:iy B b D w)(hBw:B≤w.heap.size)(hlen:D.length+2+((aD N).flatMap E).length≤M)(hf:∀k,k<N→∀W D',Below B w W→iy B b D' W→D'.length≤M→B≤W.heap.size→Calls ai f #[.pointer (some ⟨b,0,none⟩),.agg (bG.vals (cs k)).toArray] W (Put B b D' (E k) W)):Calls ai 64 #[.pointer (some ⟨b,0,none⟩),.slice A N cap,.func (.func f) #[.pointer (some ⟨b,0,none⟩)] #[]] w (Put B b D (fw 2 N++(aD N).flatMap E) w):=by
 have hu:=fun u=>lW N hN u
 have hw:IntKind.u16.wrap (N:Int)=(N:Int):=by
  show(N:Int)%65536=_;omega
 have hput:=fun u(hu:Below w.heap.size w u)=>iR (w:=u) [be 2 N] (h.below hu) (by simp) (by rw[ed,b8,aR];omega) (ax hBw hu.size) 1 rfl
 rw[show fF [be 2 N]=fw 2 N by rw[ed,b8]]at hput;obtain⟨HC,HF,HA,HB,HLen,HU,ky,HSh⟩:=af0 hc hf hA hBw hlen hu hput hsh;clear hsh;unfold Put at HF⊢;clear hc hf hA hBw hlen h hu hput;go_enter Tryz.func64,Tryz.ntmps64;go_wp2_with(first
  |(go_at_call 133;(with_reducible refine(HU.out _).mono ?_);rintro r w1⟨rfl,d1⟩)
  |(go_at_call 62;(refine(ky.out _ d1).mono ?_);rintro r w2⟨rfl,p2,k2⟩;obtain⟨HP2,kx⟩:=aQ p2 (k2.low HB.out d1);clear p2 k2))
 go_loopw [17] (fun v17 wr=>∃k:Nat,k≤N∧v17=.int .i64 k∧af (iy B b (D++fw 2 N++(aD k).flatMap E) wr)∧af (Wrote B b w wr)) (fun v17 _=>N-(intOf v17).toNat)
 case atStart=>exact⟨0,bF _,rfl,ae (by rw[show(aD 0).flatMap E=[]from rfl,lS];exact HP2.out),kx⟩
 case round=>
  obtain⟨k,hk,rfl,hp,hb⟩:=hrel;have hBr:=ax HB.out hb.out.below.size;have O5:=ae hBr;by_cases hlt:k<N
  ·have hlr:(D++fw 2 N++(aD k).flatMap E).length≤M:=by
    have h1:=gJ E hk;have h2:=HLen.out;simp only[aj,aR]at*;omega
   obtain⟨_,q,o,rfl,hcell⟩:=HC.out k hlt;have hcall:=fun u(hu:Below wr.heap.size wr u)=>HF.out k hlt u (D++fw 2 N++(aD k).flatMap E) (hb.out.below.trans (hu.mono hBr)) (hp.out.below hu) hlr (ax hBr hu.size)
   dsimp only at hcell;obtain⟨A1,n1,c1,A2,n2,c2,A3,n3,c3,e1,e2,e3⟩:=HSh.out k hlt;generalize cs k=x at hcell hcall e1 e2 e3;obtain⟨⟨key,bj,user,tags,aH,ex,aW,ends⟩,tv,av,ev⟩:=x;unfold bG.vals at hcell hcall;simp only at hcell hcall e1 e2 e3;subst e1 e2 e3;have d0:=(hb.out.below.cell (p:=⟨q,o+k*8+0,none⟩) (HA.out aY _ _ rfl)).trans (hcell 0 _ rfl);have d1:=(hb.out.below.cell (p:=⟨q,o+k*8+1,none⟩) (HA.out aY _ _ rfl)).trans (hcell 1 _ rfl);have d2:=(hb.out.below.cell (p:=⟨q,o+k*8+2,none⟩) (HA.out aY _ _ rfl)).trans (hcell 2 _ rfl);have d3:=(hb.out.below.cell (p:=⟨q,o+k*8+3,none⟩) (HA.out aY _ _ rfl)).trans (hcell 3 _ rfl);have d4:=(hb.out.below.cell (p:=⟨q,o+k*8+4,none⟩) (HA.out aY _ _ rfl)).trans (hcell 4 _ rfl);have d5:=(hb.out.below.cell (p:=⟨q,o+k*8+5,none⟩) (HA.out aY _ _ rfl)).trans (hcell 5 _ rfl);have d6:=(hb.out.below.cell (p:=⟨q,o+k*8+6,none⟩) (HA.out aY _ _ rfl)).trans (hcell 6 _ rfl);have d7:=(hb.out.below.cell (p:=⟨q,o+k*8+7,none⟩) (HA.out aY _ _ rfl)).trans (hcell 7 _ rfl);rw[cN]at d0;have bu:=ae hcall;clear hcall hcell;clear hlr hBr;go_wp2_with(go_at_fn f;(with_reducible refine(bu.out _ (boxed _ _)).mono ?_);rintro r w4⟨rfl,p4,k4⟩;have yK:=ae p4;clear p4)
   go_roundw
   case rel=>exact⟨k+1,by omega,by go_num,ae (by rw[jd,←aZ];exact yK.out),ae (hb.out.trans (k4.low O5.out (boxed _ _)))⟩
   case measure=>simp[intOf];omega
  ·obtain rfl:k=N:=by omega
   clear hBr;go_wp2_with fail
   go_end0
   exact⟨rfl,by rw[←aZ];exact hp.out,hb.out⟩
theorem qI{α:Type}(vals:α→List Value)(K:Nat)(hv:∀x,(vals x).length=K)(z:α){w:World}{A:Option Addr}{cap:Nat}{l:List α}(h:aV w (.slice A l.length cap) l.length K (l.flatMap vals)):dh w A l.length K fun k=>vals (l.getD k z):=by
 intro k hk;have:=h.gX k hk;have hx:l[k]? =some l[k]:=ag hk;dsimp only at this⊢;rw[dn vals K hv l k _ hx]at this;rw[aB,hx,Option.getD_some];exact this
theorem qJ{w:World}{A:Option Addr}{n cap K:Nat}{xs:List Value}(hK:0<K)(h:aV w (.slice A n cap) n K xs):0<n→∀g o,A=some ⟨g,o,none⟩→g<w.heap.size:=by
 rintro h0 g o rfl;obtain⟨A',cap',e,hl,hc⟩:=h;injection e with e1 _ _
 obtain⟨g',o',ha,hcc⟩:=hc h0;rw[←e1]at ha;injection ha with ha
 injection ha with ha _ _
 subst ha;have hz:0<xs.length:=by rw[hl];exact Nat.mul_pos h0 hK
 exact World.block_lt_of_cell? w _ (hcc 0 _ (ag hz))
theorem j7{α β:Type}(f:α→List β)(z:α)(l:List α):(aD l.length).flatMap (fun k=>f (l.getD k z))=l.flatMap f:=by
 rw[←List.flatMap_map (f:=fun k=>l.getD k z) (g:=f)];congr 1;apply List.ext_getElem?;intro i;rw[List.getElem?_map];rcases Nat.lt_or_ge i l.length with h|h
 ·rw[List.getElem?_range h,Option.map_some,aB,ag h,Option.getD_some]
 ·rw[BL (by rw[List.length_range];exact h),BL h,Option.map_none]
theorem getD_mem{α:Type}(z:α){l:List α}{k:Nat}(h:k<l.length):l.getD k z∈l:=by
 rw[aB,ag h,Option.getD_some];exact bC h
def Ad.none_:Ad:=⟨false,0,0⟩
def En.none_:En:=(Ad.none_,0)
def Ry.none_:Ry:=⟨0,⟨#[]⟩,En.none_⟩
theorem SR{b:Nat}{D:List UInt8}{w0 w:World}{v:Value}{l:List ByteArray}(fb:ByteArray→List UInt8)(hr:aV w0 v l.length 1 (strCells l))(hb:Below w0.heap.size w0 w)(hl:l.length<65536)(f:Nat)(eg:∀args w,(callFunc f args).run ai w=.ok (.enter f args) w)(h:iy w0.heap.size b D w){M:Nat}(hM:M≤800000000)(hlen:D.length+2+(l.flatMap fb).length≤M)(hf:∀x∈l,∀W D',Below w0.heap.size w W→iy w0.heap.size b D' W→D'.length≤M→w0.heap.size≤W.heap.size→Calls ai f #[.pointer (some ⟨b,0,none⟩),.string x] W (Put w0.heap.size b D' (fb x) W)):Calls ai 78 #[.pointer (some ⟨b,0,none⟩),v,.func (.func f) #[.pointer (some ⟨b,0,none⟩)] #[]] w (Put w0.heap.size b D (cF fb l) w):=by
 obtain⟨A,cap,rfl⟩:=hr.shape;unfold cF;rw[←j7 fb ⟨#[]⟩ l]at hlen⊢;exact NJ hM hl (fun k=>l.getD k ⟨#[]⟩) (fun k=>fb (l.getD k ⟨#[]⟩)) (Ak (hr.below hb)) (qJ aI hr) f eg h hb.size hlen fun k hk W D' h1 h2 h3 h4=>hf _ (getD_mem _ hk) W D' h1 h2 h3 h4
theorem NK{b:Nat}{D:List UInt8}{w0 w:World}{v:Value}{l:List Ad}(fb:Ad→List UInt8)(hr:aV w0 v l.length 3 (cR l))(hb:Below w0.heap.size w0 w)(hl:l.length<65536)(f:Nat)(eg:∀args w,(callFunc f args).run ai w=.ok (.enter f args) w)(h:iy w0.heap.size b D w){M:Nat}(hM:M≤800000000)(hlen:D.length+2+(l.flatMap fb).length≤M)(hf:∀x∈l,∀W D',Below w0.heap.size w W→iy w0.heap.size b D' W→D'.length≤M→w0.heap.size≤W.heap.size→Calls ai f #[.pointer (some ⟨b,0,none⟩),.agg x.cells] W (Put w0.heap.size b D' (fb x) W)):Calls ai 134 #[.pointer (some ⟨b,0,none⟩),v,.func (.func f) #[.pointer (some ⟨b,0,none⟩)] #[]] w (Put w0.heap.size b D (cF fb l) w):=by
 obtain⟨A,cap,rfl⟩:=hr.shape;unfold cF;rw[←j7 fb Ad.none_ l]at hlen⊢;exact Ih hM hl (fun k=>l.getD k Ad.none_) (fun k=>fb (l.getD k Ad.none_)) (qI (fun a:Ad=>a.cells.toList) 3 (fun _=>rfl) Ad.none_ (hr.below hb)) (qJ aI hr) f eg h hb.size hlen fun k hk W D' h1 h2 h3 h4=>hf _ (getD_mem _ hk) W D' h1 h2 h3 h4
theorem NL{b:Nat}{D:List UInt8}{w0 w:World}{v:Value}{l:List En}(fb:En→List UInt8)(hr:aV w0 v l.length 4 (kM l))(hb:Below w0.heap.size w0 w)(hl:l.length<65536)(f:Nat)(eg:∀args w,(callFunc f args).run ai w=.ok (.enter f args) w)(h:iy w0.heap.size b D w){M:Nat}(hM:M≤800000000)(hlen:D.length+2+(l.flatMap fb).length≤M)(hf:∀x∈l,∀W D',Below w0.heap.size w W→iy w0.heap.size b D' W→D'.length≤M→w0.heap.size≤W.heap.size→Calls ai f #[.pointer (some ⟨b,0,none⟩),.agg (bV x).toArray] W (Put w0.heap.size b D' (fb x) W)):Calls ai 136 #[.pointer (some ⟨b,0,none⟩),v,.func (.func f) #[.pointer (some ⟨b,0,none⟩)] #[]] w (Put w0.heap.size b D (cF fb l) w):=by
 obtain⟨A,cap,rfl⟩:=hr.shape;unfold cF;rw[←j7 fb En.none_ l]at hlen⊢;exact Ii hM hl (fun k=>l.getD k En.none_) (fun k=>fb (l.getD k En.none_)) (qI bV 4 eO En.none_ (hr.below hb)) (qJ aI hr) f eg h hb.size hlen fun k hk W D' h1 h2 h3 h4=>hf _ (getD_mem _ hk) W D' h1 h2 h3 h4
theorem NM{b:Nat}{D:List UInt8}{w0 w:World}{v:Value}{l:List Ry}(fb:Ry→List UInt8)(hr:gi w0 v l)(hb:Below w0.heap.size w0 w)(hl:l.length<65536)(f:Nat)(eg:∀args w,(callFunc f args).run ai w=.ok (.enter f args) w)(h:iy w0.heap.size b D w){M:Nat}(hM:M≤800000000)(hlen:D.length+2+(l.flatMap fb).length≤M)(hf:∀x∈l,∀W D',Below w0.heap.size w W→iy w0.heap.size b D' W→D'.length≤M→w0.heap.size≤W.heap.size→Calls ai f #[.pointer (some ⟨b,0,none⟩),.agg (bI x).toArray] W (Put w0.heap.size b D' (fb x) W)):Calls ai 66 #[.pointer (some ⟨b,0,none⟩),v,.func (.func f) #[.pointer (some ⟨b,0,none⟩)] #[]] w (Put w0.heap.size b D (cF fb l) w):=by
 obtain⟨A,cap,rfl⟩:=aV.shape hr;unfold cF;rw[←j7 fb Ry.none_ l]at hlen⊢;exact Ij hM hl (fun k=>l.getD k Ry.none_) (fun k=>fb (l.getD k Ry.none_)) (qI bI 6 cq Ry.none_ (aV.below hr hb)) (qJ aI hr) f eg h hb.size hlen fun k hk W D' h1 h2 h3 h4=>hf _ (getD_mem _ hk) W D' h1 h2 h3 h4
theorem one_byte(u:World)(n:Nat)(hn:n<256):(convert 89 9 (.slice (some ⟨u.heap.size,0,none⟩) 1 1)).run ai (u.alloc (.cells #[.int .u8 n] 5))=.ok (.string (be 1 n)) (u.alloc (.cells #[.int .u8 n] 5)):=by
 have hback:=run_convert_bytes_back (P:=ai) (u.alloc (.cells #[.int .u8 n] 5)) 89 9 5 ⟨u.heap.size,0,none⟩ 1 (fw 1 n) ew cB bL (fun j hj=>by
  rw[aR]at hj;obtain rfl:j=0:=by omega
  have h0:=(aG.new u 5 #[.int .u8 n]).cell 0;have hv:((fw 1 n)[0]'(by rw[aR];omega)).toNat=n:=by
   simp[fw];omega
  simp only[hv];exact h0)
 rw[aR]at hback;exact hback
theorem Az{B b:Nat}{D:List UInt8}{w:World}(r:Ry)(oi:r.id<256)(ok:xN r.fin.1)(op:r.fin.2<65536)(hk:r.key.size≤1000000)(h:iy B b D w)(hlen:D.length≤800000000)(hBw:B≤w.heap.size):Calls ai 67 #[.pointer (some ⟨b,0,none⟩),.agg (bI r).toArray] w (Put B b D (DO r) w):=by
 have hone:=fun u=>one_byte u r.id oi
 have hkl:r.key.data.toList.length=r.key.size:=by rw[Array.length_toList,ByteArray.size_data]
 have hput:=fun u(hu:Below w.heap.size w u)=>iR (w:=u) [be 1 r.id,r.key] (h.below hu) (by simp) (by rw[eJ,b8,aj,aR,hkl];omega) (ax hBw hu.size) 2 rfl
 have hend:=fun u(hu:B≤u.heap.size)(hp:iy B b (D++fF [be 1 r.id,r.key]) u)=>vT r.fin ok op hp (by rw[eJ,b8,aj,aj,aR,hkl];omega) hu
 have ep:af (w.heap.size≠b):=ae (by have:=h.lt;omega);obtain⟨X,hX⟩:∃x,x=DO r:=⟨_,rfl⟩;rw[←hX];have hX2:D++fF [be 1 r.id,r.key]++DN r.fin=D++X:=by rw[hX,eJ,b8];unfold DO;simp only[aZ]
 have HX:=ae hX2;have hb1:=boxed w (.cells (bI r).toArray 71);obtain⟨HP,HB1,HB⟩:=bO (aG.new w 71 (bI r).toArray) hb1 hBw;generalize fF [be 1 r.id,r.key]=Y at hput hend hX2 HX;unfold Put at hend⊢;obtain⟨id,key,⟨⟨v,hi,lo⟩,po⟩⟩:=r;unfold bV at hend;unfold bI at HP HB1⊢;simp only at*;obtain⟨afP,ky,SS⟩:=bO hone hput hend;clear hput hend hX hX2 hb1 h hBw ok op hk hkl oi;go_enter Tryz.func67,Tryz.ntmps67;go_upto_region 1 with fail
 generalize w.alloc (.cells #[.int .u8 id,.string key,.bool v,.int .u64 hi,.int .u64 lo,.int .u16 po] 71)=w1 at HP HB1⊢;generalize w.heap.size=P at HP ep⊢;obtain⟨a0,a1⟩:=pW HP;have adq:=hone w1;have u1:=boxed w1 (.cells #[.int .u8 id] 5);have b1:=ak a1 u1;have hp1:=ky.out _ (after HB1.out u1);rw[show(w1.alloc (.cells #[.int .u8 id] 5)).heap.size=w1.heap.size+1 by simp]at hp1;simp only[List.map_cons,List.map_nil]at hp1;have lT:=ae hp1;clear hone hp1;go_upto_region 2 with(go_at_call 62;(with_reducible refine lT.out.mono ?_);rintro r w2⟨rfl,p2,k2⟩)
 have HP2:=ae (k2.kept _ _ _ (HP.out.below u1 HP.out.lt) ep.out aI);obtain⟨-,-,c2,c3,c4,c5⟩:=aft HP2;have hw2:=ax HB.out (ax (after HB1.out u1).size k2.below.size);obtain⟨HE2,kx⟩:=aQ (SS.out w2 hw2 p2) (k2.low HB.out (after HB1.out u1));clear a0 a1 b1 adq u1 hw2 k2 p2;go_wp2_with(go_at_call 137;(with_reducible refine HE2.out.mono ?_);rintro r w3⟨rfl,p3,k3⟩;rw[HX.out]at p3)
 go_end0
 exact⟨rfl,p3,kx.out.trans k3⟩
def bG.none_:bG:=⟨⟨⟨#[]⟩,⟨#[]⟩,⟨#[]⟩,[],[],0,0,[]⟩,.slice none 0 0,.slice none 0 0,.slice none 0 0⟩
theorem NN{b:Nat}{D:List UInt8}{w0 w:World}{v:Value}{xs:List bG}(fb:Pr→List UInt8)(hr:aV w0 v xs.length 8 (cI xs))(hx:∀X∈xs,eI w0 X)(hb:Below w0.heap.size w0 w)(hl:xs.length<65536)(f:Nat)(eg:∀args w,(callFunc f args).run ai w=.ok (.enter f args) w)(h:iy w0.heap.size b D w){M:Nat}(hM:M≤800000000)(hlen:D.length+2+((xs.map (·.p)).flatMap fb).length≤M)(hf:∀X∈xs,∀W D',Below w0.heap.size w W→iy w0.heap.size b D' W→D'.length≤M→w0.heap.size≤W.heap.size→Calls ai f #[.pointer (some ⟨b,0,none⟩),.agg X.vals.toArray] W (Put w0.heap.size b D' (fb X.p) W)):Calls ai 64 #[.pointer (some ⟨b,0,none⟩),v,.func (.func f) #[.pointer (some ⟨b,0,none⟩)] #[]] w (Put w0.heap.size b D (cF fb (xs.map (·.p))) w):=by
 obtain⟨A,cap,rfl⟩:=hr.shape;unfold cF;rw[ay,List.flatMap_map]at*;rw[←j7 (fun X:bG=>fb X.p) bG.none_ xs]at hlen⊢;exact Ik hM hl (fun k=>xs.getD k bG.none_) (fun k=>fb (xs.getD k bG.none_).p) (qI bG.vals 8 aC bG.none_ (hr.below hb)) (qJ aI hr) f eg
  (fun k hk=>by
    have hm:=hx _ (getD_mem bG.none_ hk);obtain⟨A1,c1,e1⟩:=hm.tags.shape;obtain⟨A2,c2,e2⟩:=hm.aH.shape;obtain⟨A3,c3,e3⟩:=hm.ends.shape;exact⟨A1,_,c1,A2,_,c2,A3,_,c3,e1,e2,e3⟩)
  h hb.size hlen fun k hk W D' h1 h2 h3 h4=>hf _ (getD_mem _ hk) W D' h1 h2 h3 h4
theorem Il{B b:Nat}{D:List UInt8}{w:World}(h:iy B b D w):Calls ai 139 #[.pointer (some ⟨b,0,none⟩)] w fun r w'=>r=.returned (.int .i64 (D.length:Int))∧w'=w:=by
 obtain⟨p,hB,v,hbk,hown,hne⟩:∃p,Lib.BuilderAt 93 5 B b p (Lib.byteCells D) w:=by
  rcases h with h|h
  ·exact⟨_,h⟩
  ·exact⟨_,h⟩
 rw[Lib.byteCells_length]at hown;obtain⟨A,cap,rfl⟩:∃A cap,v=.slice A D.length cap:=by
  rcases hown.2 with⟨rfl,hz⟩|⟨g,cap,cur,hv,r⟩
  ·exact⟨none,0,by rw[hz]⟩
  ·exact⟨_,_,hv⟩
 have c1:w.cell? ⟨b,1,none⟩=some (.slice A D.length cap):=by rw[Lib.cell_of_heap hbk];rfl
 generalize D.length=N at*;clear hbk hown hne;go_enter Tryz.func139,Tryz.ntmps139;go_wp2_with fail
 go_ret;exact⟨rfl,rfl⟩
theorem xR{B b:Nat}{l:List UInt8}{w:World}(h:iy B b l w)(h0:l≠[]):Calls ai 140 #[.pointer (some ⟨b,0,none⟩)] w fun r w'=>r=.returned (.string ⟨l.toArray⟩)∧Below B w w':=by
 obtain⟨p,hB,v,hbk,hown,hne⟩:∃p,Lib.BuilderAt 93 5 B b p (Lib.byteCells l) w:=by
  rcases h with h|h
  ·exact⟨_,h⟩
  ·exact⟨_,h⟩
 have hl0:l.length≠0:=by simpa using h0
 rw[Lib.byteCells_length]at hown;obtain⟨g,cap,cur,rfl,hbg,hg,hnc,hcm,hcs,htake⟩:∃g cap cur,v=.slice (some ⟨g,0,none⟩) l.length cap∧B≤g∧w.heap[g]? =some (.cells cur 5 (0,0))∧l.length≤cap∧cap≤maxLen∧cur.size=cap*1∧cur.toList.take (l.length*1)=Lib.byteCells l:=by
  rcases hown.2 with⟨_,hz⟩|⟨g,cap,cur,hv,r⟩
  ·exact absurd hz hl0
  ·exact⟨g,cap,cur,hv,r⟩
 have c1:w.drew.cell? ⟨b,1,none⟩=some (.slice (some ⟨g,0,none⟩) l.length cap):=by
  have:w.drew.heap[b]? =some (.cells #[p,.slice (some ⟨g,0,none⟩) l.length cap] 93 (0,0)):=hbk;rw[Lib.cell_of_heap this];rfl
 have hSD:(Builtin.unsafeSliceData_ #[89] 210 #[.slice (some ⟨g,0,none⟩) l.length cap]).run ai w.drew=.ok (.pointer (some ⟨g,0,none⟩)) w.drew:=Lib.run_unsafeSliceData_row _ _ _ _ _ _ aY;have hUS:(Builtin.unsafeString_ #[210,3] 9 #[.pointer (some ⟨g,0,none⟩),.int .i64 l.length]).run ai w.drew=.ok (.string ⟨l.toArray⟩) (w.drew.freeze ⟨g,0,none⟩ l.length):=by
  refine Lib.run_unsafeString_row w.drew 210 3 9 5 Tryz.underlying210 bJ g cur.size (by have hg':w.drew.heap[g]? =some (.cells cur 5 (0,0)):=hg;simp[World.shape?,hg']) l h0 aY (by unfold maxLen at hcm;omega) ?_;intro j x hx;have:=hown.cells (g:=g) rfl j (.int .u8 x.toNat) (by simp[Lib.byteCells,hx]);exact this
 have mixed:ai.follows Departure.mixedOrders=true:=by kernel_rfl
 generalize l.length=N at*;generalize(⟨l.toArray⟩:ByteArray)=T at*;clear hbk hown hne hg htake hcs h0 hl0;go_enter Tryz.func140,Tryz.ntmps140;go_wp2_with fail
 go_region_o
 all_goals(go_wp2_with fail;go_ret;exact⟨rfl,Lib.below_freeze (Below.drew (aK B w)) (p:=⟨g,0,none⟩) hbg _⟩)
theorem AA{B b:Nat}{D:List UInt8}{w:World}(h:iy B b D w)(h0:D≠[]):Calls ai 69 #[.pointer (some ⟨b,0,none⟩)] w fun r w'=>(∃(t:ByteArray)(e:Nat),(t,e)=(if 32768<D.length then((⟨#[]⟩:ByteArray),4)else(iF D,0))∧r=.returned (.tuple #[.string t,.int .i64 e]))∧Below B w w':=by
 have hl:=Il h;have hs:=xR h h0;rw[show(⟨D.toArray⟩:ByteArray)=iF D from rfl]at hs;obtain⟨R,hR⟩:∃r,r=(if 32768<D.length then((⟨#[]⟩:ByteArray),4)else(iF D,0)):=⟨_,rfl⟩;rw[←hR];generalize iF D=T at hs hR;generalize D.length=N at hl hR;obtain⟨HL,HS⟩:=aQ hl hs;clear hl hs h h0;go_enter Tryz.func69,Tryz.ntmps69;by_cases k1:32768<N
 ·have q1:(32768:Int)<(N:Int):=by omega
  rw[if_pos k1]at hR;have HR:=ae hR;clear hR;go_wp2_with(go_at_call 139;(with_reducible refine HL.out.mono ?_);rintro r w1⟨rfl,rfl⟩)
  go_ret2;exact⟨⟨_,4,HR.out.symm,rfl⟩,aK _ _⟩
 ·have q1:¬(32768:Int)<(N:Int):=by omega
  rw[if_neg k1]at hR;have HR:=ae hR;clear hR;go_wp2_with(first
   |(go_at_call 139;(with_reducible refine HL.out.mono ?_);rintro r w1⟨rfl,rfl⟩)
   |(go_at_call 140;(with_reducible refine HS.out.mono ?_);rintro r w2⟨rfl,d2⟩))
  go_ret2;exact⟨⟨_,0,HR.out.symm,rfl⟩,d2⟩
theorem vU{B b:Nat}{w W:World}(_h:Wrote B b w W)(cs:Array Value)(t:TypeId):aG (W.alloc (.cells cs t)) W.heap.size t cs:=aG.new W t cs
theorem vV{W:World}{g n:Nat}(h:aG W g 5 #[.int .u8 n])(hn:n<256):(convert 89 9 (.slice (some ⟨g,0,none⟩) 1 1)).run ai W=.ok (.string (be 1 n)) W:=by
 have hback:=run_convert_bytes_back (P:=ai) W 89 9 5 ⟨g,0,none⟩ 1 (fw 1 n) ew cB bL (fun j hj=>by
  rw[aR]at hj;obtain rfl:j=0:=by omega
  have h0:=h.cell 0;have hv:((fw 1 n)[0]'(by rw[aR];omega)).toNat=n:=by
   simp[fw];omega
  simp only[hv];exact h0)
 rw[aR]at hback;exact hback
theorem D9{b:Nat}{D:List UInt8}{w0 w:World}{X:bG}(hX:eI w0 X)(ok:Nu X.p)(hb:Below w0.heap.size w0 w)(h:iy w0.heap.size b D w)(hlen:D.length+(xj X.p).length≤700000000):Calls ai 65 #[.pointer (some ⟨b,0,none⟩),.agg X.vals.toArray] w (Put w0.heap.size b D (xj X.p) w):=by
 have hsum:(xj X.p).length=X.p.key.data.toList.length+(X.p.bj.data.toList.length+((pU X.p.user).length+((cF pU X.p.tags).length+((cF xi X.p.aH).length+(8+(1+(cF DN X.p.ends).length)))))):=by
  unfold xj;simp only[aj,aR]
 have htl:(cF pU X.p.tags).length=2+(X.p.tags.flatMap pU).length:=by unfold cF;rw[aj,aR]
 have hal:(cF xi X.p.aH).length=2+(X.p.aH.flatMap xi).length:=by unfold cF;rw[aj,aR]
 have hel:(cF DN X.p.ends).length=2+(X.p.ends.flatMap DN).length:=by unfold cF;rw[aj,aR]
 obtain⟨D1,hD1⟩:∃d,d=D++fF [X.p.key,X.p.bj]:=⟨_,rfl⟩;obtain⟨D2,hD2⟩:∃d,d=D1++pU X.p.user:=⟨_,rfl⟩;obtain⟨D3,hD3⟩:∃d,d=D2++cF pU X.p.tags:=⟨_,rfl⟩;obtain⟨D4,hD4⟩:∃d,d=D3++cF xi X.p.aH:=⟨_,rfl⟩;have l1:D1.length=D.length+(X.p.key.data.toList.length+X.p.bj.data.toList.length):=by rw[hD1,eJ];simp only[aj]
 have l2:D2.length=D1.length+(pU X.p.user).length:=by rw[hD2,aj]
 have l3:D3.length=D2.length+(cF pU X.p.tags).length:=by rw[hD3,aj]
 have l4:D4.length=D3.length+(cF xi X.p.aH).length:=by rw[hD4,aj]
 have l5:D4.length+9≤700000000:=by omega
 have hput:=fun u(hu:Below w.heap.size w u)=>iR (w:=u) [X.p.key,X.p.bj] (h.below hu) (by simp) (by rw[eJ,aj];omega) (ax hb.size hu.size) 2 rfl
 rw[←hD1]at hput;have htx:=fun u(hu:w0.heap.size≤u.heap.size)(hp:iy w0.heap.size b D1 u)=>nD X.p.user ok.user hp aY hu
 have hts:=fun u(hu:Below w0.heap.size w0 u)(hp:iy w0.heap.size b D2 u)=>SR pU hX.tags hu ok.tags.1 68 (enters_of Tryz.func68 bJ rfl) hp (aw 800000000) aY fun x hx W D' h1 h2 h3 h4=>nD x (ok.tags.2 x hx) h2 aY h4
 have has:=fun u(hu:Below w0.heap.size w0 u)(hp:iy w0.heap.size b D3 u)=>NK xi hX.aH hu ok.aH.1 135 (enters_of Tryz.func135 bJ rfl) hp (aw 800000000) aY fun x hx W D' h1 h2 h3 h4=>tz x (ok.aH.2 x hx) h2 aY h4
 have hes:=fun u D5(hl:D5.length=D4.length+9)(hu:Below w0.heap.size w0 u)(hp:iy w0.heap.size b D5 u)=>NL DN hX.ends hu ok.ends.1 137 (enters_of Tryz.func137 bJ rfl) hp (aw 800000000) aY fun x hx W D' h1 h2 h3 h4=>vT x (ok.ends.2 x hx).1 (ok.ends.2 x hx).2 h2 aY h4
 have ep:af (w.heap.size≠b):=ae (by have:=h.lt;omega);obtain⟨HW0,HD2,HD3,HD4⟩:=fH hb hD2 hD3 hD4;have hoe:=ok.exp;have hor:=ok.aW;obtain⟨R,hR⟩:∃r,r=D++xj X.p:=⟨_,rfl⟩;have hR2:R=D4++fF [be 8 X.p.exp,be 1 X.p.aW]++cF DN X.p.ends:=by
  rw[hR,hD4,hD3,hD2,hD1,eJ,eJ,b8,b8];unfold xj;simp only[aZ]
 unfold Put at htx hts has hes⊢;rw[←hR];have HR:=ae hR2;obtain⟨A1,c1,e1⟩:=hX.tags.shape;obtain⟨A2,c2,e2⟩:=hX.aH.shape;obtain⟨A3,c3,e3⟩:=hX.ends.shape;clear hsum htl hal hel l1 l2 l3 hD1 hD2 hD3 hD4 hR hR2 hX ok h hlen hb;obtain⟨⟨key,bj,user,tags,aH,ex,aW,ends⟩,tv,av,ev⟩:=X;simp only at*;subst e1 e2 e3;unfold bG.vals;simp only;generalize cF pU tags=LT at*;generalize cF xi aH=LA at*;generalize cF DN ends=LE at*;generalize pU user=TU at*;generalize tags.length=NT at*;generalize aH.length=NA at*;generalize ends.length=NE at*;obtain⟨ky,HTx,HTs,HAs,HEs⟩:=kp hput htx hts has hes;clear hput htx hts has hes;obtain⟨HB1,HP⟩:=aQ (boxed w (.cells #[.string key,.string bj,.string user,.slice A1 NT c1,.slice A2 NA c2,.int .u64 ex,.int .u8 aW,.slice A3 NE c3] 49)) (aG.new w 49 #[.string key,.string bj,.string user,.slice A1 NT c1,.slice A2 NA c2,.int .u64 ex,.int .u8 aW,.slice A3 NE c3]);go_enter Tryz.func65,Tryz.ntmps65;go_upto_region 1 with fail
 generalize w.alloc (.cells #[.string key,.string bj,.string user,.slice A1 NT c1,.slice A2 NA c2,.int .u64 ex,.int .u8 aW,.slice A3 NE c3] 49)=w1 at HB1 HP⊢;generalize w.heap.size=P at HP ep⊢;obtain⟨a0,a1⟩:=pW HP;have hp1:=ky.out w1 HB1.out;simp only[List.map_cons,List.map_nil]at hp1;have lT:=ae hp1;clear hp1;go_upto_region 2 with(go_at_call 62;(with_reducible refine lT.out.mono ?_);rintro r w2⟨rfl,p2,k2⟩)
 have HB0:=ae (HW0.out.trans (HB1.out.mono HW0.out.size));have HQ2:=ae (k2.kept _ _ _ HP.out ep.out aI);have HW2:=ae (HB0.out.trans k2.below);obtain⟨HT2,kx⟩:=aQ (HTx.out w2 HW2.out.size p2) (k2.low HW0.out.size HB1.out);obtain⟨-,-,b2⟩:=oM HQ2;clear a0 a1 k2 p2 HP HB1 lT;go_upto_region 3 with(go_at_call 68;(with_reducible refine HT2.out.mono ?_);rintro r w3⟨rfl,p3,k3⟩;rw[←HD2.out]at p3)
 have tA:=ae (k3.kept _ _ _ HQ2.out ep.out aI);have HW3:=ae (HW2.out.trans k3.below);obtain⟨HT3,iD⟩:=aQ (HTs.out w3 HW3.out p3) (kx.out.trans k3);obtain⟨-,-,-,b3⟩:=jB tA;clear b2 k3 p3 HQ2 HW2 HT2 kx;go_upto_region 4 with(go_at_call 78;(with_reducible refine HT3.out.mono ?_);rintro r w4⟨rfl,p4,k4⟩;rw[←HD3.out]at p4)
 have O6:=ae (k4.kept _ _ _ tA.out ep.out aI);have WM:=ae (HW3.out.trans k4.below);obtain⟨HT4,yJ⟩:=aQ (HAs.out w4 WM.out p4) (iD.out.trans k4);obtain⟨-,-,-,-,b4⟩:=afY O6;clear b3 k4 p4 tA HW3 HT3 iD;go_upto_region 5 with(go_at_call 134;(with_reducible refine HT4.out.mono ?_);rintro r w5⟨rfl,p5,k5⟩;rw[←HD4.out]at p5)
 have ZE:=ae (k5.kept _ _ _ O6.out ep.out aI);obtain⟨xg,BO,Fb⟩:=bO (WM.out.trans k5.below) (yJ.out.trans k5) p5;obtain⟨-,-,-,-,-,b5,b6⟩:=af8 ZE;clear b4 k5 p5 O6 WM HT4 yJ;have hu64:=fun u=>zd ex aY u
 have HU:=ae hu64;have Hor:af (aW<256):=ae aY;have hpn:=Fb.out.below (Below.drew (aK _ w5));clear hu64;refine wp_region_held_drew (S:=(fun w'=>Wrote w0.heap.size b w5 w'∧w'.cell? ⟨P,5,none⟩=some (.int .u64 ex)∧w'.cell? ⟨P,6,none⟩=some (.int .u8 aW))) bJ (⟨Wrote.of xg.out.size (Below.drew (aK _ _)),b5,b6⟩) (fun hHeld=>?_);refine bB 0 ?_
 refine bB 1 ?_
 refine bB 2 ?_
 refine bB 4 ?_
 refine bB 5 ?_
 refine wpAnyH_ready (rs:=[3,6]) bJ (by simp) ?_;refine AllReadyH.cons rfl (fun K hK=>?_) (AllReadyH.cons rfl (fun K hK=>?_) AllReadyH.nil)
 ·go_simp;refine(HU.out _).mono ?_;rintro r wb⟨rfl,db⟩
  (try have hsb:=aG.below hsb db (aG.lt hsb))
  (try have hone:=vV hsb Hor.out)
  have hpn:=hpn.below db;refine hK.out _ _ (⟨hHeld.1.trans (Wrote.of (ax xg.out.size hHeld.1.below.size) db),ak hHeld.2.1 db,ak hHeld.2.2 db⟩) (fun hHeld=>?_);clear hK K;try simp only[dX]
  refine mM 6 fun K hK=>?_;go_simp;have hsb:=vU hHeld.1 #[.int .u8 aW] 5;have hone:=vV hsb Hor.out;have hpn:=hpn.below (boxed _ (.cells #[.int .u8 aW] 5));refine hK.out _ _ (⟨hHeld.1.trans (Wrote.of (ax xg.out.size hHeld.1.below.size) (boxed _ _)),ak hHeld.2.1 (boxed _ _),ak hHeld.2.2 (boxed _ _)⟩) (fun hHeld=>?_);clear hK K;try simp only[dX]
  refine mM 7 fun K hK=>?_;go_simp
  (try(first|rw[hone]|erw [hone]))
  (try simp only[Result.andThen])
  (try rw[Oper.upon_value])
  refine hK.out _ _ (hHeld) (fun hHeld=>?_);clear hK K;try simp only[dX]
  refine mM 8 fun K hK=>?_;go_simp;have hst:=vU hHeld.1 #[.string (be 8 ex),.string (be 1 aW)] 9;have hge:=hpn.lt;have hpn:=hpn.below (boxed _ (.cells #[.string (be 8 ex),.string (be 1 aW)] 9));refine hK.out _ _ (⟨hHeld.1.trans (Wrote.of (ax xg.out.size hHeld.1.below.size) (boxed _ _)),ak hHeld.2.1 (boxed _ _),ak hHeld.2.2 (boxed _ _)⟩) (fun hHeld=>?_);clear hK K;try simp only[dX]
  refine mM 9 fun K hK=>?_;go_simp;refine(put_any [be 8 ex,be 1 aW] hpn (by first|exact hst|simpa using hst) (by first|omega|(simp at hge⊢;omega)) (by simp) (by rw[eJ,b8,b8,aj,aR,aR];omega) (ax xg.out.size hHeld.1.below.size) 2 rfl).mono ?_;rintro r w6⟨rfl,p6,k6⟩;have hQ6:=(hHeld.1.trans k6).kept _ _ _ ZE.out ep.out aI;have SU:=hHeld.1.trans k6;refine hK.out _ _ (⟨hHeld.1.trans k6,hQ6.cell 5,hQ6.cell 6⟩) (fun hHeld=>?_);clear hK K;try simp only[dX]
  refine tX ?_;have h7:=hQ6.cell 7;simp at h7;have ZF:=ae (HEs.out w6 _ (by rw[aj,eJ,b8,b8,aj,aR,aR]) (xg.out.trans SU.below) p6);have rI:=ae (BO.out.trans SU);clear hQ6 SU k6 p6 hst hsb hone hpn hge hHeld;go_wp2_with(go_at_call 136;(with_reducible refine ZF.out.mono ?_);rintro r w7⟨rfl,p7,k7⟩;rw[←HR.out]at p7)
  go_end0
  exact⟨rfl,p7,rI.out.trans k7⟩
 ·go_simp;have hsb:=vU hHeld.1 #[.int .u8 aW] 5;have hone:=vV hsb Hor.out;have hpn:=hpn.below (boxed _ (.cells #[.int .u8 aW] 5));refine hK.out _ _ (⟨hHeld.1.trans (Wrote.of (ax xg.out.size hHeld.1.below.size) (boxed _ _)),ak hHeld.2.1 (boxed _ _),ak hHeld.2.2 (boxed _ _)⟩) (fun hHeld=>?_);clear hK K;try simp only[dX]
  refine wpAnyH_ready (rs:=[3,7]) bJ (by simp) ?_;refine AllReadyH.cons rfl (fun K hK=>?_) (AllReadyH.cons rfl (fun K hK=>?_) AllReadyH.nil)
  ·go_simp;refine(HU.out _).mono ?_;rintro r wb⟨rfl,db⟩
   (try have hsb:=aG.below hsb db (aG.lt hsb))
   (try have hone:=vV hsb Hor.out)
   have hpn:=hpn.below db;refine hK.out _ _ (⟨hHeld.1.trans (Wrote.of (ax xg.out.size hHeld.1.below.size) db),ak hHeld.2.1 db,ak hHeld.2.2 db⟩) (fun hHeld=>?_);clear hK K;try simp only[dX]
   refine mM 7 fun K hK=>?_;go_simp
   (try(first|rw[hone]|erw [hone]))
   (try simp only[Result.andThen])
   (try rw[Oper.upon_value])
   refine hK.out _ _ (hHeld) (fun hHeld=>?_);clear hK K;try simp only[dX]
   refine mM 8 fun K hK=>?_;go_simp;have hst:=vU hHeld.1 #[.string (be 8 ex),.string (be 1 aW)] 9;have hge:=hpn.lt;have hpn:=hpn.below (boxed _ (.cells #[.string (be 8 ex),.string (be 1 aW)] 9));refine hK.out _ _ (⟨hHeld.1.trans (Wrote.of (ax xg.out.size hHeld.1.below.size) (boxed _ _)),ak hHeld.2.1 (boxed _ _),ak hHeld.2.2 (boxed _ _)⟩) (fun hHeld=>?_);clear hK K;try simp only[dX]
   refine mM 9 fun K hK=>?_;go_simp;refine(put_any [be 8 ex,be 1 aW] hpn (by first|exact hst|simpa using hst) (by first|omega|(simp at hge⊢;omega)) (by simp) (by rw[eJ,b8,b8,aj,aR,aR];omega) (ax xg.out.size hHeld.1.below.size) 2 rfl).mono ?_;rintro r w6⟨rfl,p6,k6⟩;have hQ6:=(hHeld.1.trans k6).kept _ _ _ ZE.out ep.out aI;have SU:=hHeld.1.trans k6;refine hK.out _ _ (⟨hHeld.1.trans k6,hQ6.cell 5,hQ6.cell 6⟩) (fun hHeld=>?_);clear hK K;try simp only[dX]
   refine tX ?_;have h7:=hQ6.cell 7;simp at h7;have ZF:=ae (HEs.out w6 _ (by rw[aj,eJ,b8,b8,aj,aR,aR]) (xg.out.trans SU.below) p6);have rI:=ae (BO.out.trans SU);clear hQ6 SU k6 p6 hst hsb hone hpn hge hHeld;go_wp2_with(go_at_call 136;(with_reducible refine ZF.out.mono ?_);rintro r w7⟨rfl,p7,k7⟩;rw[←HR.out]at p7)
   go_end0
   exact⟨rfl,p7,rI.out.trans k7⟩
  ·go_simp
   (try(first|rw[hone]|erw [hone]))
   (try simp only[Result.andThen])
   (try rw[Oper.upon_value])
   refine hK.out _ _ (hHeld) (fun hHeld=>?_);clear hK K;try simp only[dX]
   refine mM 3 fun K hK=>?_;go_simp;refine(HU.out _).mono ?_;rintro r wb⟨rfl,db⟩
   (try have hsb:=aG.below hsb db (aG.lt hsb))
   (try have hone:=vV hsb Hor.out)
   have hpn:=hpn.below db;refine hK.out _ _ (⟨hHeld.1.trans (Wrote.of (ax xg.out.size hHeld.1.below.size) db),ak hHeld.2.1 db,ak hHeld.2.2 db⟩) (fun hHeld=>?_);clear hK K;try simp only[dX]
   refine mM 8 fun K hK=>?_;go_simp;have hst:=vU hHeld.1 #[.string (be 8 ex),.string (be 1 aW)] 9;have hge:=hpn.lt;have hpn:=hpn.below (boxed _ (.cells #[.string (be 8 ex),.string (be 1 aW)] 9));refine hK.out _ _ (⟨hHeld.1.trans (Wrote.of (ax xg.out.size hHeld.1.below.size) (boxed _ _)),ak hHeld.2.1 (boxed _ _),ak hHeld.2.2 (boxed _ _)⟩) (fun hHeld=>?_);clear hK K;try simp only[dX]
   refine mM 9 fun K hK=>?_;go_simp;refine(put_any [be 8 ex,be 1 aW] hpn (by first|exact hst|simpa using hst) (by first|omega|(simp at hge⊢;omega)) (by simp) (by rw[eJ,b8,b8,aj,aR,aR];omega) (ax xg.out.size hHeld.1.below.size) 2 rfl).mono ?_;rintro r w6⟨rfl,p6,k6⟩;have hQ6:=(hHeld.1.trans k6).kept _ _ _ ZE.out ep.out aI;have SU:=hHeld.1.trans k6;refine hK.out _ _ (⟨hHeld.1.trans k6,hQ6.cell 5,hQ6.cell 6⟩) (fun hHeld=>?_);clear hK K;try simp only[dX]
   refine tX ?_;have h7:=hQ6.cell 7;simp at h7;have ZF:=ae (HEs.out w6 _ (by rw[aj,eJ,b8,b8,aj,aR,aR]) (xg.out.trans SU.below) p6);have rI:=ae (BO.out.trans SU);clear hQ6 SU k6 p6 hst hsb hone hpn hge hHeld;go_wp2_with(go_at_call 136;(with_reducible refine ZF.out.mono ?_);rintro r w7⟨rfl,p7,k7⟩;rw[←HR.out]at p7)
   go_end0
   exact⟨rfl,p7,rI.out.trans k7⟩
theorem Xr{B:Nat}{w:World}(hB:B≤w.heap.size):iy B w.heap.size [] (w.alloc (.cells #[.pointer none,.slice none 0 0] 93)):=Or.inl ⟨hB,.slice none 0 0,aG.new w _ _,⟨rfl,Or.inl ⟨rfl,rfl⟩⟩,by simp[Value.ownBlock]⟩
theorem pM{w:World}(env:Env w){pv rv:Value}{m:Mp}(hp:dP w pv m.aJ)(hr:gi w rv m.aF)(fit:jM m)(sz:∀p∈m.aJ,gI p)(hpl:m.aJ.length≤4000000)(hrl:m.aF.length≤4000000)(hol:m.policy.size≤2000000)(hml:ip m=true→(xJ m).length≤80000000):Calls ai 23 #[.agg #[.int .u64 (m.version:Int),pv,rv,.string m.policy]] w fun r w'=>(∃(t:ByteArray)(e:Nat),(t,e)=cJ m∧r=.returned (.tuple #[.string t,.int .i64 e]))∧Below w.heap.size w w':=by
 have hmay:=fun u(hu:Below w.heap.size w u)=>SQ (env.below hu) (hp.below hu) (aV.below hr hu) fit sz hpl hrl hol
 obtain⟨xs,hxs,hrow,hx⟩:=hp;cases hm:ip m with
 |false=>
  have hR:cJ m=(⟨#[]⟩,220):=by unfold cJ encR;rw[if_pos hm]
  rw[hm]at hmay;rw[hR];obtain⟨Ap,cp,rfl⟩:=hrow.shape;obtain⟨Ar,cr,rfl⟩:=aV.shape hr;obtain⟨version,aJ,aF,policy⟩:=m;simp only at*;generalize aF.length=NR at*;generalize xs.length=NP at*;obtain⟨Ec,HB,HM⟩:=bO hmay (boxed w (.cells #[.int .u64 version,.slice Ap NP cp,.slice Ar NR cr,.string policy] 26)) (aG.new w 26 #[.int .u64 version,.slice Ap NP cp,.slice Ar NR cr,.string policy]);clear hmay hrow hx hr fit sz hpl hrl hol hml env hm hR hxs;go_enter Tryz.func23,Tryz.ntmps23;go_upto_region 1 with fail
  generalize w.alloc (.cells #[.int .u64 version,.slice Ap NP cp,.slice Ar NR cr,.string policy] 26)=w1 at HB HM⊢;generalize w.heap.size=P at HM⊢;obtain⟨m0,m1,m2,m3⟩:=jB HM;go_wp2_with(go_at_call 61;(with_reducible refine(Ec.out _ HB.out).mono ?_);rintro r w2⟨rfl,d2⟩)
  go_ret2;exact⟨⟨_,220,rfl,rfl⟩,after HB.out d2⟩
 |true=>
  have hml:=hml hm;have ok:=ZA fit hm;have hR:cJ m=(if 32768<(xJ m).length then((⟨#[]⟩:ByteArray),4)else(iF (xJ m),0)):=by unfold cJ encR;rw[if_neg (by simp[hm])]
  rw[hm]at hmay;have hsum:(xJ m).length=8+((cF xj m.aJ).length+((cF DO m.aF).length+(pU m.policy).length)):=by
   unfold xJ;simp only[aj,aR]
  have hpl2:(cF xj m.aJ).length=2+(m.aJ.flatMap xj).length:=by unfold cF;rw[aj,aR]
  have hrl2:(cF DO m.aF).length=2+(m.aF.flatMap DO).length:=by unfold cF;rw[aj,aR]
  have hone:∀X∈xs,(xj X.p).length≤(m.aJ.flatMap xj).length:=fun X hX=>by
   rw[←hxs,List.flatMap_map];exact List.Sublist.length_le (List.sublist_flatten_of_mem (rE hX))
  obtain⟨D1,hD1⟩:∃d,d=fw 8 m.version:=⟨_,rfl⟩;obtain⟨D2,hD2⟩:∃d,d=D1++cF xj m.aJ:=⟨_,rfl⟩;obtain⟨D3,hD3⟩:∃d,d=D2++cF DO m.aF:=⟨_,rfl⟩;obtain⟨D4,hD4⟩:∃d,d=D3++pU m.policy:=⟨_,rfl⟩;have hD:xJ m=D4:=by rw[hD4,hD3,hD2,hD1];unfold xJ;simp only[aZ]
  have l1:D1.length=8:=by rw[hD1,aR]
  have l2:D2.length=D1.length+(cF xj m.aJ).length:=by rw[hD2,aj]
  have l3:D3.length=D2.length+(cF DO m.aF).length:=by rw[hD3,aj]
  have h4:D4≠[]:=by
   intro h;have:=congrArg List.length h;rw[hD4,aj,List.length_nil]at this;omega
  have hput:=fun b u(hB:w.heap.size≤u.heap.size)(hp:iy w.heap.size b [] u)=>iR (w:=u) [be 8 m.version] hp (by simp) (by rw[ed,b8,aR];simp) hB 1 rfl
  rw[show([]:List UInt8)++fF [be 8 m.version]=D1 by rw[List.nil_append,ed,b8,hD1]]at hput;have hps:=fun b u(hu:Below w.heap.size w u)(hp:iy w.heap.size b D1 u)=>NN xj hrow hx hu (by have:=ok.aJ.1;rw[←hxs,ay]at this;exact this) 65 (enters_of Tryz.func65 bJ rfl) hp (show 90000000≤800000000 by decide) (by rw[hxs];omega) fun X hX W D' q1 q2 q3 q4=>D9 (hx X hX) (ok.aJ.2 _ (by rw[←hxs];exact rE hX)) (hu.trans q1) q2 (by have:=hone X hX;omega)
  rw[hxs]at hps;have hrs:=fun b u(hu:Below w.heap.size w u)(hp:iy w.heap.size b D2 u)=>NM DO hr hu ok.aF.1 67 (enters_of Tryz.func67 bJ rfl) hp (show 90000000≤800000000 by decide) aY fun r hr' W D' q1 q2 q3 q4=>Az r (by have:=(ok.aF.2 r hr').id;omega) (ok.aF.2 r hr').fin.1 (ok.aF.2 r hr').fin.2 (by rw[(ok.aF.2 r hr').key];decide) q2 aY q4
  have htx:=fun b u(hB:w.heap.size≤u.heap.size)(hp:iy w.heap.size b D3 u)=>nD m.policy ok.policy hp aY hB
  have hby:=fun b u(hp:iy w.heap.size b D4 u)=>AA hp h4
  rw[hR,hD];generalize(if 32768<D4.length then((⟨#[]⟩:ByteArray),4)else(iF D4,0))=R at hby⊢;have hu64:=fun u=>zd m.version fit.version u
  unfold Put at hps hrs htx;obtain⟨HD2,HD3,HD4⟩:=bO hD2 hD3 hD4;obtain⟨Ap,cp,rfl⟩:=hrow.shape;obtain⟨Ar,cr,rfl⟩:=aV.shape hr;clear hsum hpl2 hrl2 hone hD1 hD2 hD3 hD4 hD l1 l2 l3 h4 hrow hx hr fit sz hpl hrl hol hml env hm hR ok;obtain⟨version,aJ,aF,policy⟩:=m;simp only at*;clear hxs;generalize cF xj aJ=LP at*;generalize cF DO aF=LR at*;generalize pU policy=LT at*;generalize aF.length=NR at*;generalize xs.length=NP at*;obtain⟨Ec,ky,Aw,HRs,HTx,Vr,HU,HB,HM⟩:=af1 hmay hput hps hrs htx hby hu64 (boxed w (.cells #[.int .u64 version,.slice Ap NP cp,.slice Ar NR cr,.string policy] 26)) (aG.new w 26 #[.int .u64 version,.slice Ap NP cp,.slice Ar NR cr,.string policy]);clear hmay hput hps hrs htx hby hu64;go_enter Tryz.func23,Tryz.ntmps23;go_upto_region 1 with fail
  generalize w.alloc (.cells #[.int .u64 version,.slice Ap NP cp,.slice Ar NR cr,.string policy] 26)=w1 at HB HM⊢;generalize hP:w.heap.size=P at HM⊢;obtain⟨m0,m1,m2,m3⟩:=jB HM;go_upto_region 3 with(go_at_call 61;(with_reducible refine(Ec.out _ HB.out).mono ?_);rintro r w2⟨rfl,d2⟩)
  have HB2:=bm HB d2;have tB:=ae (HM.out.below d2 HM.out.lt);clear m0 m1 m2 m3 d2 HB HM;go_upto_region 4 with fail
  have hb3:=boxed w2 (.cells #[.pointer none,.slice none 0 0] 93);obtain⟨HN,oK⟩:=aQ (Xr (B:=w.heap.size) HB2.out.size) (tB.out.below hb3 tB.out.lt);have HB3:=bm HB2 hb3;have ep:af (P≠w2.heap.size):=ae (by have:=tB.out.lt;omega);clear hb3 HB2 tB;generalize w2.alloc (.cells #[.pointer none,.slice none 0 0] 93)=w3 at HN oK HB3⊢;generalize w2.heap.size=b at HN ep⊢;have m0:=oK.out.cell 0;simp at m0;go_upto_region 5 with(first
   |(go_at_call 63;(with_reducible refine(HU.out _).mono ?_);rintro r w4⟨rfl,d4⟩)
   |(go_at_call 62;(refine(ky.out b w4 (HB3.out.trans (d4.mono HB3.out.size)).size (HN.out.below d4)).mono ?_);rintro r w5⟨rfl,p5,k5⟩))
  have rN:=ae (k5.kept _ _ _ (oK.out.below d4 oK.out.lt) ep.out aI);have nt:=ae (HB3.out.trans ((d4.mono HB3.out.size).trans k5.below));have HT5:=ae (Aw.out b w5 nt.out p5);obtain⟨-,m1⟩:=pW rN;clear m0 d4 k5 p5 oK HB3 HN;go_upto_region 6 with(go_at_call 64;(with_reducible refine HT5.out.mono ?_);rintro r w6⟨rfl,p6,k6⟩;rw[←HD2.out]at p6)
  have BM:=ae (k6.kept _ _ _ rN.out ep.out aI);have ku:=ae (nt.out.trans k6.below);have ZF:=ae (HRs.out b w6 ku.out p6);obtain⟨-,-,m2⟩:=oM BM;clear m1 k6 p6 rN nt HT5;go_upto_region 7 with(go_at_call 66;(with_reducible refine ZF.out.mono ?_);rintro r w7⟨rfl,p7,k7⟩;rw[←HD3.out]at p7)
  have HM7:=ae (k7.kept _ _ _ BM.out ep.out aI);have xd:=ae (ku.out.trans k7.below);have HT7:=ae (HTx.out b w7 xd.out.size p7);obtain⟨-,-,-,m3⟩:=jB HM7;clear m2 k7 p7 BM ku ZF;go_upto_region 8 with(go_at_call 68;(with_reducible refine HT7.out.mono ?_);rintro r w8⟨rfl,p8,k8⟩;rw[←HD4.out]at p8)
  obtain⟨HB8,HT8⟩:=aQ (xd.out.trans k8.below) (Vr.out b w8 p8);clear m3 k8 p8 HM7 xd HT7;go_wp2_with(go_at_call 69;(with_reducible refine HT8.out.mono ?_);rintro r w9⟨⟨t,e,hte,rfl⟩,b9⟩;have Hte:=ae hte;clear hte)
  go_ret2;exact⟨⟨t,e,Hte.out,rfl⟩,HB8.out.trans b9⟩
theorem j8{w:World}(env:Env w){pv rv:Value}{m:Mp}(hp:dP w pv m.aJ)(hr:gi w rv m.aF)(fit:jM m)(sz:∀p∈m.aJ,gI p)(hpl:m.aJ.length≤4000000)(hrl:m.aF.length≤4000000)(hol:m.policy.size≤2000000)(hml:ip m=true→(xJ m).length≤80000000):Calls ai 19 #[.agg #[.int .u64 (m.version:Int),pv,rv,.string m.policy]] w (Got (.int .i64 ((cJ m).2:Int)) w):=by
 have he:=fun u(hu:Below w.heap.size w u)=>pM (env.below hu) (hp.below hu) (aV.below hr hu) fit sz hpl hrl hol hml
 obtain⟨Ap,cp,rfl⟩:=hp.shape;obtain⟨Ar,cr,rfl⟩:=aV.shape hr;generalize cJ m=R at he⊢;obtain⟨version,aJ,aF,policy⟩:=m;simp only at*;generalize aF.length=NR at*;generalize aJ.length=NP at*;obtain⟨HE,HB,HM⟩:=bO he (boxed w (.cells #[.int .u64 version,.slice Ap NP cp,.slice Ar NR cr,.string policy] 26)) (aG.new w 26 #[.int .u64 version,.slice Ap NP cp,.slice Ar NR cr,.string policy]);clear he hp hr fit sz hpl hrl hol hml env;go_enter Tryz.func19,Tryz.ntmps19;go_upto_region 1 with fail
 generalize w.alloc (.cells #[.int .u64 version,.slice Ap NP cp,.slice Ar NR cr,.string policy] 26)=w1 at HB HM⊢;generalize w.heap.size=P at HM⊢;obtain⟨m0,m1,m2,m3⟩:=jB HM;go_wp2_with(go_at_call 23;(with_reducible refine(HE.out _ HB.out).mono ?_);rintro r w2⟨⟨t,e,hte,rfl⟩,d2⟩;have Hte:=ae hte;clear hte)
 go_ret;exact⟨by rw[←Hte.out];rfl,after HB.out d2⟩
def keyAt(xs:List bG)(key:ByteArray)(k:Nat):Bool:=match xs[k]? with|some X=>decide (X.p.key=key)|none=>false
theorem AB{w:World}{v:Value}{xs:List bG}(hr:aV w v xs.length 8 (cI xs))(hl:xs.length≤4000000)(q:bG→Bool)(f:Nat)(lb:Array Value)(eg:∀args w,(callFunc f args).run ai w=.ok (.enter f args) w)(hf:∀W,Below w.heap.size w W→∀X∈xs,Calls ai f (#[.agg X.vals.toArray]++lb) W (Got (.bool (q X)) W)):Calls ai 103 #[v,.func (.func f) #[] lb] w fun r w'=>(∃z:Int,r=.returned (.int .i64 z)∧Vp (fun k=>match xs[k]? with|some X=>q X|none=>false) xs.length z)∧Below w.heap.size w w':=by
 obtain⟨A,cap,rfl⟩:=hr.shape;refine DL hl _ _ hr.gX f lb eg fun k hk W hW=>?_
 have hxk:xs[k]? =some xs[k]:=ag hk;rw[show cI xs=xs.flatMap bG.vals from rfl];simp only[hxk];rw[dn bG.vals 8 aC xs k _ hxk];exact hf W hW _ (bC hk)
theorem Xt{w:World}{v:Value}{xs:List bG}(hr:aV w v xs.length 8 (cI xs))(hl:xs.length≤4000000)(key:ByteArray):Calls ai 41 #[v,.string key] w fun r w'=>(∃z:Int,r=.returned (.int .i64 z)∧Vp (keyAt xs key) xs.length z)∧Below w.heap.size w w':=by
 have hi:=fun u(hu:Below w.heap.size w u)g(hg:u.cell? ⟨g,0,none⟩=some (.string key))=>AB (hr.below hu) hl (fun X=>decide (X.p.key=key)) 104 #[.pointer (some ⟨g,0,none⟩)] (enters_of Tryz.func104 bJ rfl)
  fun W hW X hX=>ND key X.p.key _ _ _ _ _ _ _ g (ak hg hW)
 rw[show(fun k=>match xs[k]? with|some X=>decide (X.p.key=key)|none=>false)=keyAt xs key from rfl]at hi;generalize keyAt xs key=K at hi⊢;obtain⟨A,cap,rfl⟩:=hr.shape;generalize xs.length=N at*;have HI:=ae hi;have hb:=boxed w (.cells #[.string key] 9);have hg:(w.alloc (.cells #[.string key] 9)).cell? ⟨w.heap.size,0,none⟩=some (.string key):=(aG.new w 9 #[.string key]).cell 0;obtain⟨HG,HB⟩:=aQ hg hb;clear hi hr hb hg;go_enter Tryz.func41,Tryz.ntmps41;go_upto_region 1 with fail
 generalize w.alloc (.cells #[.string key] 9)=w1 at HB HG⊢;generalize w.heap.size=P at HG⊢;go_wp2_with(go_at_call 103;(with_reducible refine(HI.out _ HB.out _ HG.out).mono ?_);rintro r w2⟨⟨z,rfl,hz⟩,d2⟩;have HZ:=ae hz;clear hz)
 go_ret;exact⟨⟨z,rfl,HZ.out⟩,after HB.out d2⟩
end Go.Proofs.YtdfnhljccdoncaaGreatDoor
