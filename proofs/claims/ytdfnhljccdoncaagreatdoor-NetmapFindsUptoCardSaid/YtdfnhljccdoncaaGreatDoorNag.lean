/- Joined out of: RdB PtA PtB PlH PlI. -/
import Derived.Test.YtdfnhljccdoncaaGreatDoorNaf
set_option linter.unusedVariables false
set_option linter.unusedSimpArgs false
set_option maxHeartbeats 16000000
set_option maxRecDepth 100000
open ByteArray renaming empty→sA,size→agj,ext→ago
open Go.ByteArray renaming toList_eq→cM
open Go.Lib renaming hid→ae,decDigits→dH
open Go.Proofs.Tryz renaming prog→ai,underlying9→bL
open Go.RowKit renaming Hid→af
open List renaming getElem?_eq_getElem→ag,getD_eq_getElem?_getD→aB
open Nat renaming le_refl→aw
namespace Go.Proofs.YtdfnhljccdoncaaGreatDoor
open Go.RowKit
theorem gB{a b:ByteArray}(h:a=b):(a.toList==b.toList)=true:=by rw[h];simp
theorem gC{a b:ByteArray}(h:a≠b):(a.toList==b.toList)=false:=by
 rw[beq_eq_false_iff_ne];intro e;apply h;apply ago;rw[cM,cM]at e;exact Array.ext' e
theorem Qc{w:World}(env:Env w)(s:ByteArray)(hs:s.size≤2000000):Calls ai 313 #[.string s] w (Got (Zp (sF s.data.toList)) w):=by
 obtain⟨RL,hRL⟩:∃r,r=sF s.data.toList:=⟨_,rfl⟩;rw[←hRL];have hB0:=(aG.new w 44 #[.bool false,.int .u64 0,.int .u64 0]).alloc (.cells #[.bool false,.int .u64 0,.int .u64 0] 44);have hD0:aG ((w.alloc (.cells #[.bool false,.int .u64 0,.int .u64 0] 44)).alloc (.cells #[.bool false,.int .u64 0,.int .u64 0] 44)) (w.heap.size+1) 44 #[.bool false,.int .u64 0,.int .u64 0]:=by
  have h:=aG.new (w.alloc (.cells #[.bool false,.int .u64 0,.int .u64 0] 44)) 44 #[.bool false,.int .u64 0,.int .u64 0];simpa using h
 have hb0:=fe w (.cells #[.bool false,.int .u64 0,.int .u64 0] 44) (.cells #[.bool false,.int .u64 0,.int .u64 0] 44);have jI:=ae (acw (env.below hb0) s hs 46);unfold sF uO at hRL;have hrd:∀l,cV 46 10 256 s.data.toList=some l→l.length=4→(RL=if gm ⟨false,0,fP l⟩=s.data.toList then some ⟨false,0,fP l⟩else none):=fun l h1 h2=>by rw[hRL,h1];simp only;rw[if_pos h2];rfl
 have aap:((cV 46 10 256 s.data.toList=none)∨(∃l,cV 46 10 256 s.data.toList=some l∧l.length≠4))→RL=(rr s.data.toList).bind fun a=>if gm a=s.data.toList then some a else none:=fun h=>by
  rcases h with h|⟨l,h,hl⟩
  ·rw[hRL,h]
  ·rw[hRL,h];simp only;rw[if_neg hl]
 have hnl:∀l,cV 46 10 256 s.data.toList=some l→(∀x∈l,x<256)∧l.length≤9:=fun l h=>ik h
 clear hRL;generalize Zq:cV 46 10 256 s.data.toList=O1 at jI hrd aap hnl;clear Zq;obtain⟨HB0,HD0,Hb0,mU,Hrd,aey,Hnl⟩:=uE hB0 hD0 hb0 env hrd aap hnl;clear hB0 hD0 hb0 env hrd aap hnl;generalize hW0:(w.alloc (.cells #[.bool false,.int .u64 0,.int .u64 0] 44)).alloc (.cells #[.bool false,.int .u64 0,.int .u64 0] 44)=W0 at jI HB0 HD0 Hb0;have HW0:=ae hW0;clear hW0;go_enter Tryz.func313,Tryz.ntmps313;go_wp2_with fail
 rw[HW0.out];go_at_call 338;refine jI.out.mono ?_;intro r w1 hg1;obtain⟨v1,L1,rfl,ho1,hL1,hb1⟩:=hg1.any;obtain⟨Ho1,EZ,HB1,HD1⟩:=fH ho1 hL1 (HB0.out.below hb1 HB0.out.lt) (HD0.out.below hb1 HD0.out.lt);have Hb1:=bm Hb0 hb1;have hsz0:w.heap.size+1<W0.heap.size:=HD0.out.lt;have hsz1:w.heap.size+1<w1.heap.size:=HD1.out.lt;clear hg1 ho1 hL1 hb1;obtain⟨A1,cap1,rfl⟩:=aL Ho1.out;by_cases h4:O1.isSome=true∧L1.length=4
 ·obtain⟨his,hlen⟩:=h4;have Zq:O1=some L1:=by rcases EZ.out with h|⟨h,_⟩;exact h;rw[h]at his;cases his
  have hrl:=Hrd.out L1 Zq hlen;have hlx:=(Hnl.out L1 Zq).1;obtain⟨Hrl,Hlx⟩:=aQ hrl hlx;rw[his];have pT:=Ho1.out;rw[hlen]at pT⊢;obtain⟨g,cap,hv⟩:=CL pT;rw[hv];rw[hv]at pT;have hg:=pT.lt g rfl;have hcell:∀j,j<4→w1.cell? ⟨g,j,none⟩=some (.int .u64 (L1.getD j 0:Int)):=by
   intro j hj;rw[pT.cellAt (g:=g) j aY];unfold eB;have hjl:j<L1.length:=by omega
   rw[List.getElem?_map,ag hjl,aB,ag hjl];rfl
  obtain⟨mO,Hlen⟩:=aQ hcell hlen;clear hcell hrl hlx Zq his pT hv hlen;go_wp2_with fail
  go_loopw [30] (fun v30 wr=>∃k:Nat,k≤4∧v30=.int .i64 k∧af (aG wr (w.heap.size+1) 44 #[.bool false,.int .u64 0,.int .u64 (fP (L1.take k):Int)])∧af (aG wr w.heap.size 44 #[.bool false,.int .u64 0,.int .u64 0])∧af (∀j,j<4→wr.cell? ⟨g,j,none⟩=some (.int .u64 (L1.getD j 0:Int)))∧af (Below w.heap.size w wr)) (fun v30 _=>4-(intOf v30).toNat)
  case atStart=>exact⟨0,by omega,rfl,HD1,HB1,mO,Hb1⟩
  case round=>
   obtain⟨k,hk,rfl,hD,hB,hr,hb⟩:=hrel;by_cases hlt:k<4
   ·have hkl:k<L1.length:=by have:=Hlen.out;omega
    have cx:=hr.out k hlt;have hX:L1.getD k 0<256:=by
     rw[aB,ag hkl];exact Hlx.out _ (List.getElem_mem hkl)
    have hs:fP (L1.take (k+1))=fP (L1.take k)*256+L1.getD k 0:=by
     rw[List.take_succ_eq_append_getElem hkl,Gn,aB,ag hkl];rfl
    have hbd:fP (L1.take k)<4294967296:=sV (lZ Hlx.out) (by rw[List.length_take];omega);have a2:=hD.out.cell 2;have fr:=fun i=>hD.out.frozen i
    simp at a2;have hr':=fun(u:Value)j(hj:j<4)=>(cell_far (w:=wr) (a:=⟨w.heap.size+1,2,none⟩) (c:=⟨g,j,none⟩) (u:=u) (by show w.heap.size+1≠g;omega)).trans (hr.out j hj)
    obtain⟨Hr',Hs⟩:=aQ hr' hs;generalize L1.getD k 0=X at cx hX Hs;obtain⟨H0,hH0⟩:∃n,n=fP (L1.take k):=⟨_,rfl⟩;rw[←hH0]at a2 hbd;have HH0:=ae hH0;have ho:=aex (h:=H0) (x:=X) aY hX;have hw:IntKind.u64.wrap ((H0:Int)*256)=(H0:Int)*256:=by rw[IntKind.wrap_u64];omega
    clear hr' hs hH0;go_wp2_with fail
    go_roundw
    case rel=>
     have hset:=hD.out.aM 2 (.int .u64 ((H0*256+X:Nat):Int));exact⟨k+1,by omega,by go_num,ae (by rw[Hs.out,←HH0.out];exact hset),ae (hB.out.far (p:=⟨w.heap.size+1,2,none⟩) (by simp) _),ae (Hr'.out _),ae (hb.out.setCell (p:=⟨w.heap.size+1,2,none⟩) (by simp) _)⟩
    case measure=>simp[intOf];omega
   ·obtain rfl:k=4:=by omega
    have htk:L1.take 4=L1:=List.take_of_length_le (by have:=Hlen.out;omega);have hDD:=hD.out;rw[htk]at hDD;have hok:(Ad.mk false 0 (fP L1)).Ok:=⟨by show(0:Nat)<_;omega,by show fP L1<_;have:=sV Hlx.out (by have:=Hlen.out;omega);omega⟩;have HDD:=ae hDD;have htx:=qj (mU.out.below hb.out) ⟨false,0,fP L1⟩ hok;have hcmp:RL=if gn ⟨false,0,fP L1⟩=s then some ⟨false,0,fP L1⟩else none:=by
     rw[Hrl.out];by_cases h:gn ⟨false,0,fP L1⟩=s
     ·rw[if_pos h,if_pos (oe.1 h)]
     ·rw[if_neg h,if_neg (fun e=>h (oe.2 e))]
    generalize fP L1=LO at HDD htx hcmp;have hcells:Ad.cells ⟨false,0,LO⟩= #[.bool false,.int .u64 0,.int .u64 LO]:=rfl;generalize(Ad.mk false 0 LO)=AD at htx hcmp hcells;rw[hcells]at htx;have HTX:=ae htx;clear htx;obtain⟨TB,hTB⟩:∃t,t=gn AD:=⟨_,rfl⟩;rw[←hTB]at HTX hcmp;have pD:=ae hcells;clear hTB hcells;obtain⟨a0,a1,a2⟩:=oM HDD;by_cases hts:TB=s
    ·have hq:=gB hts;rw[if_pos hts]at hcmp;have Qd:=ae hcmp;clear hts hcmp;go_wp2_with(go_at_call 204;(with_reducible refine HTX.out.mono ?_);rintro r w7⟨rfl,g7⟩;have hb7:=bm hb g7;have jl:=hB.out.below g7 hB.out.lt;have hD7:=HDD.out.below g7 HDD.out.lt;clear a0 a1 a2;have a0:=hD7.cell 0;have a1:=hD7.cell 1;have a2:=hD7.cell 2;simp at a0 a1 a2;have c0:=jl.cell 0;have c1:=jl.cell 1;have c2:=jl.cell 2;simp at c0 c1 c2;have fr:=(fun i=>jl.frozen i);have xd:=ae jl;clear jl hD7 g7)
     rw[Qd.out];show bodyPost _ _ (Got (.tuple #[.agg AD.cells,.int .i64 0]) w) _ _ _;rw[pD.out];exact mf (g:=w.heap.size) (x:=2) (y:=3) rfl xd.out hb7.out (aw _) rfl rfl rfl
    ·have hq:=gC hts;rw[if_neg hts]at hcmp;have Qd:=ae hcmp;clear hts hcmp;go_wp2_with(go_at_call 204;(with_reducible refine HTX.out.mono ?_);rintro r w7⟨rfl,g7⟩;have hb7:=bm hb g7;have jl:=hB.out.below g7 hB.out.lt;have hD7:=HDD.out.below g7 HDD.out.lt;clear a0 a1 a2;have a0:=hD7.cell 0;have a1:=hD7.cell 1;have a2:=hD7.cell 2;simp at a0 a1 a2;have c0:=jl.cell 0;have c1:=jl.cell 1;have c2:=jl.cell 2;simp at c0 c1 c2;have fr:=(fun i=>jl.frozen i);have xd:=ae jl;clear jl hD7 g7)
     rw[Qd.out];exact mf (g:=w.heap.size) (x:=2) (y:=3) rfl xd.out hb7.out (aw _) rfl rfl rfl
 ·have hin:O1.isSome=false∨(O1.isSome=true∧((L1.length:Int)==4)=false):=by
   cases h:O1.isSome with
   |false=>exact Or.inl rfl
   |true=>exact Or.inr ⟨rfl,by rw[h]at h4;simp at h4;simp;omega⟩
  have hrl:=aey.out (by
   rcases EZ.out with h|⟨h,_⟩
   ·exact Or.inr ⟨L1,h,fun e=>h4 ⟨by rw[h];rfl,e⟩⟩
   ·exact Or.inl h)
  have hcl:=uh s.data.toList [58,58];obtain⟨m,hm⟩:=(mU.out.below Hb1.out).mx;have hcut:=Tryz.strings_Cut s ⟨#[58,58]⟩ m w1 aY hm;unfold rr at hrl;rw[show(⟨#[58,58]⟩:ByteArray).data.toList=[58,58]from rfl]at hcut;generalize Lib.cut s.data.toList [58,58]=C at hcl hcut hrl;obtain⟨c1,c2,gap⟩:=C;simp only at hcl hcut hrl;have hsl:s.data.toList.length=s.size:=(Lib.size_eq s).symm;rw[hsl]at hcl;obtain⟨Hcl,xB,Hrl⟩:=bO hcl hcut hrl;clear h4 hm hcut hrl hsl hcl;have hz1:(⟨c1.toArray⟩:ByteArray).size≤2000000:=by have:=Hcl.out.1;rw[show(⟨c1.toArray⟩:ByteArray).size=c1.length by simp[agj]];omega
  have hz2:(⟨c2.toArray⟩:ByteArray).size≤2000000:=by have:=Hcl.out.2;rw[show(⟨c2.toArray⟩:ByteArray).size=c2.length by simp[agj]];omega
  obtain⟨HNX,HNY⟩:=aQ (fun v hv=>Qb (v:=v) ((mU.out.below Hb1.out).below hv) ⟨c1.toArray⟩ hz1 58) (fun v hv=>Qb (v:=v) ((mU.out.below Hb1.out).below hv) ⟨c2.toArray⟩ hz2 58);rw[show(⟨c1.toArray⟩:ByteArray).data.toList=c1 by simp]at HNX;rw[show(⟨c2.toArray⟩:ByteArray).data.toList=c2 by simp]at HNY;have hx2:∀L,cV 58 16 65536 c1=some L→(∀x∈L,x<65536)∧L.length≤9:=fun L h=>ik h
  have hx3:∀L,cV 58 16 65536 c2=some L→(∀x∈L,x<65536)∧L.length≤9:=fun L h=>ik h
  generalize cV 58 16 65536 c1=O2 at HNX hx2 Hrl;generalize cV 58 16 65536 c2=O3 at HNY hx3 Hrl;obtain⟨T1,hT1⟩:∃t,t=(⟨c1.toArray⟩:ByteArray):=⟨_,rfl⟩;obtain⟨T2,hT2⟩:∃t,t=(⟨c2.toArray⟩:ByteArray):=⟨_,rfl⟩;rw[←hT1]at HNX;rw[←hT2]at HNY;rw[←hT1,←hT2]at xB;obtain⟨Hx2,Hx3⟩:=aQ hx2 hx3;clear hx2 hx3 hT1 hT2 hz1 hz2;obtain⟨I1,hI1⟩:∃b,b=O1.isSome:=⟨_,rfl⟩;rw[←hI1]at hin⊢;clear hI1;rcases hin with rfl|⟨rfl,hq4⟩
  all_goals
   go_wp2_with(go_at_call 312;(with_reducible refine xB.out.mono ?_);rintro r w2⟨rfl,n2,rfl⟩)
   go_at_call 338;refine(HNX.out _ (below_drewN _ _)).mono ?_;intro r w3 hg3;obtain⟨v2,L2,rfl,ho2,hL2,hb3⟩:=hg3.any;have hbn:Below w1.heap.size w1 w3:=after (below_drewN w1 n2) hb3;obtain⟨Hbn,Ho2,HL2⟩:=bO hbn ho2 hL2;clear hg3 ho2 hL2 hb3 hbn;go_wp2_with fail
   go_at_call 338;refine(HNY.out _ Hbn.out).mono ?_;intro r w4 hg4;obtain⟨v3,L3,rfl,ho3,hL3,hb4⟩:=hg4.any;obtain⟨VP,HL3,aez⟩:=bO ho3 hL3 (own_below Ho2.out hb4);have Hbm:=bm Hbn hb4;clear hg4 ho3 hL3 hb4;have h2:(∀x∈L2,x<65536)∧L2.length≤9:=by
    rcases HL2.out with h|⟨_,h⟩
    ·exact Hx2.out L2 h
    ·rw[h];simp
   have h3:(∀x∈L3,x<65536)∧L3.length≤9:=by
    rcases HL3.out with h|⟨_,h⟩
    ·exact Hx3.out L3 h
    ·rw[h];simp
   have hwh:=LI L2 L3 gap aez.out VP.out h2.2 h3.2 h2.1 h3.1;have V0:∀a,lY L2 L3 gap=some a→a.Ok∧a.v6=true:=fun a h=>yj h h2.1 h3.1
   have hrl:RL=if O2.isSome=true∧O3.isSome=true then(lY L2 L3 gap).bind (fun a=>if gm a=s.data.toList then some a else none)else none:=by
    rw[Hrl.out];rcases HL2.out with h|⟨h,_⟩
    ·rcases HL3.out with h'|⟨h',_⟩
     ·rw[h,h'];rfl
     ·rw[h,h'];rfl
    ·rw[h];rfl
   generalize lY L2 L3 gap=WO at hwh V0 hrl;have HB4:=HB1.out.below Hbm.out HB1.out.lt;have HD4:=HD1.out.below Hbm.out HD1.out.lt;have Hb4:=after Hb1.out Hbm.out;generalize O2.isSome=i2 at hrl⊢;generalize O3.isSome=i3 at hrl⊢;cases WO with
   |none=>
    have hrn:RL=none:=by rw[hrl];split<;>rfl
    obtain⟨HWH,V1,Qe,Qf,aaq⟩:=kp (show Calls _ _ _ w4 (Got (.tuple #[.agg #[.bool false,.int .u64 0,.int .u64 0],.bool false]) w4)from hwh) hrn HB4 HD4 Hb4;clear hrn hrl hwh V0 h2 h3 HB4 HD4 Hb4;go_upto_region 14 with(go_at_call 339;(with_reducible refine HWH.out.mono ?_);rintro r w5⟨rfl,g5⟩;have Qg:=Qe.out.below g5 Qe.out.lt;have hD5:=Qf.out.below g5 Qf.out.lt;have hb5:=after aaq.out g5;have d0:=hD5.cell 0;have d1:=hD5.cell 1;have d2:=hD5.cell 2;simp at d0 d1 d2;have fr:=(fun i=>hD5.frozen i))
    obtain⟨hD6,hb6⟩:=three (v0:=.bool false) (v1:=.int .u64 0) (v2:=.int .u64 0) hD5 hb5 aY;have fE:aG (((w5.setCell ⟨w.heap.size+1,0,none⟩ (.bool false)).setCell ⟨w.heap.size+1,1,none⟩ (.int .u64 0)).setCell ⟨w.heap.size+1,2,none⟩ (.int .u64 0)) w.heap.size 44 #[.bool false,.int .u64 0,.int .u64 0]:=((Qg.far (p:=⟨w.heap.size+1,0,none⟩) (by simp) _).far (p:=⟨w.heap.size+1,1,none⟩) (by simp) _).far (p:=⟨w.heap.size+1,2,none⟩) (by simp) _;generalize(((w5.setCell ⟨w.heap.size+1,0,none⟩ (.bool false)).setCell ⟨w.heap.size+1,1,none⟩ (.int .u64 0)).setCell ⟨w.heap.size+1,2,none⟩ (.int .u64 0))=w6 at hD6 hb6 fE⊢;clear d0 d1 d2 fr Qg hD5 hb5 g5;have c0:=fE.cell 0;have c1:=fE.cell 1;have c2:=fE.cell 2;simp at c0 c1 c2;have fr:=fun i=>fE.frozen i
    obtain⟨ku,HD6,zB⟩:=bO fE hD6 hb6;clear fE hD6 hb6;cases i2
    all_goals cases i3
    all_goals
     go_wp2_with fail
     rw[V1.out];exact mf (g:=w.heap.size) (x:=2) (y:=3) rfl ku.out zB.out (aw _) rfl rfl rfl
   |some a=>
    obtain⟨hok,h6⟩:=V0 a rfl;have htx:=fun v(hv:Below w.heap.size w v)=>qj (mU.out.below hv) a hok
    have hcells:a.cells= #[.bool a.v6,.int .u64 (a.hi:Int),.int .u64 (a.lo:Int)]:=rfl;have hcmp:i2=true→i3=true→RL=if gn a=s then some a else none:=fun e1 e2=>by
     rw[hrl,if_pos ⟨e1,e2⟩];show(if gm a=s.data.toList then some a else none)=_;by_cases h:gn a=s
     ·rw[if_pos h,if_pos (oe.1 h)]
     ·rw[if_neg h,if_neg (fun e=>h (oe.2 e))]
    have hrn:¬(i2=true∧i3=true)→RL=none:=fun h=>by rw[hrl,if_neg h]
    have LZ:Calls _ _ _ w4 (Got (.tuple #[.agg a.cells,.bool true]) w4):=hwh;rw[hcells]at LZ htx;obtain⟨TB,hTB⟩:∃t,t=gn a:=⟨_,rfl⟩;rw[←hTB]at htx hcmp;generalize a.v6=av at htx LZ hcells;generalize a.hi=E9 at htx LZ hcells;generalize a.lo=Fa at htx LZ hcells;obtain⟨HTX,HWH,pD,Qd,V1,Qe,Qf,aaq⟩:=af0 htx LZ hcells hcmp hrn HB4 HD4 Hb4;clear hrn hrl hwh V0 h2 h3 HB4 HD4 Hb4 htx LZ hcells hcmp hTB hok h6;go_upto_region 14 with(go_at_call 339;(with_reducible refine HWH.out.mono ?_);rintro r w5⟨rfl,g5⟩;have Qg:=Qe.out.below g5 Qe.out.lt;have hD5:=Qf.out.below g5 Qf.out.lt;have hb5:=after aaq.out g5;have d0:=hD5.cell 0;have d1:=hD5.cell 1;have d2:=hD5.cell 2;simp at d0 d1 d2;have fr:=(fun i=>hD5.frozen i))
    obtain⟨hD6,hb6⟩:=three (v0:=.bool av) (v1:=.int .u64 E9) (v2:=.int .u64 Fa) hD5 hb5 aY;have fE:aG (((w5.setCell ⟨w.heap.size+1,0,none⟩ (.bool av)).setCell ⟨w.heap.size+1,1,none⟩ (.int .u64 E9)).setCell ⟨w.heap.size+1,2,none⟩ (.int .u64 Fa)) w.heap.size 44 #[.bool false,.int .u64 0,.int .u64 0]:=((Qg.far (p:=⟨w.heap.size+1,0,none⟩) (by simp) _).far (p:=⟨w.heap.size+1,1,none⟩) (by simp) _).far (p:=⟨w.heap.size+1,2,none⟩) (by simp) _;generalize(((w5.setCell ⟨w.heap.size+1,0,none⟩ (.bool av)).setCell ⟨w.heap.size+1,1,none⟩ (.int .u64 E9)).setCell ⟨w.heap.size+1,2,none⟩ (.int .u64 Fa))=w6 at hD6 hb6 fE⊢;clear d0 d1 d2 fr Qg hD5 hb5 g5;have c0:=fE.cell 0;have c1:=fE.cell 1;have c2:=fE.cell 2;simp at c0 c1 c2;have fr:=fun i=>fE.frozen i
    obtain⟨ku,HD6,zB⟩:=bO fE hD6 hb6;clear fE hD6 hb6;cases i2
    all_goals cases i3
    case true.true=>
     have hcmp:=Qd.out rfl rfl;obtain⟨a0,a1,a2⟩:=oM HD6;have acx:=ae (HTX.out w6 zB.out);by_cases hts:TB=s
     ·have hq:=gB hts;rw[if_pos hts]at hcmp;have Qh:=ae hcmp;clear hts hcmp c0 c1 c2 fr;go_wp2_with(go_at_call 204;(with_reducible refine acx.out.mono ?_);rintro r w7⟨rfl,g7⟩;have hb7:=bm zB g7;have jl:=ku.out.below g7 ku.out.lt;have hD7:=HD6.out.below g7 HD6.out.lt;clear a0 a1 a2;have a0:=hD7.cell 0;have a1:=hD7.cell 1;have a2:=hD7.cell 2;simp at a0 a1 a2;have c0:=jl.cell 0;have c1:=jl.cell 1;have c2:=jl.cell 2;simp at c0 c1 c2;have fr:=(fun i=>jl.frozen i);have xd:=ae jl;clear jl hD7 g7)
      rw[Qh.out];show bodyPost _ _ (Got (.tuple #[.agg a.cells,.int .i64 0]) w) _ _ _;rw[pD.out];exact mf (g:=w.heap.size) (x:=2) (y:=3) rfl xd.out hb7.out (aw _) rfl rfl rfl
     ·have hq:=gC hts;rw[if_neg hts]at hcmp;have Qh:=ae hcmp;clear hts hcmp c0 c1 c2 fr;go_wp2_with(go_at_call 204;(with_reducible refine acx.out.mono ?_);rintro r w7⟨rfl,g7⟩;have hb7:=bm zB g7;have jl:=ku.out.below g7 ku.out.lt;have hD7:=HD6.out.below g7 HD6.out.lt;clear a0 a1 a2;have a0:=hD7.cell 0;have a1:=hD7.cell 1;have a2:=hD7.cell 2;simp at a0 a1 a2;have c0:=jl.cell 0;have c1:=jl.cell 1;have c2:=jl.cell 2;simp at c0 c1 c2;have fr:=(fun i=>jl.frozen i);have xd:=ae jl;clear jl hD7 g7)
      rw[Qh.out];exact mf (g:=w.heap.size) (x:=2) (y:=3) rfl xd.out hb7.out (aw _) rfl rfl rfl
    all_goals
     have hrn:=V1.out aI;have aeA:=ae hrn;clear hrn;go_wp2_with fail
     rw[aeA.out];exact mf (g:=w.heap.size) (x:=2) (y:=3) rfl ku.out zB.out (aw _) rfl rfl rfl
attribute [local go_sem↓] Go.wp_at_zero Go.wp_at_succ
def iK(p:Pf):ByteArray:=⟨(oU p).toArray⟩
theorem Gp{p:Pf}{s:ByteArray}:iK p=s↔oU p=s.data.toList:=by
 constructor
 ·intro h;rw[←h];unfold iK;simp
 ·intro h;unfold iK;rw[h]
theorem Gq(a:Ad):(gn a).size≤60:=by
 have:=Lh a;simpa[gn,agj]using this
theorem vk{w:World}(env:Env w)(p:Pf)(ok:p.Ok):Calls ai 315 #[.agg p.cells] w (Got (.string (iK p)) w):=by
 have hm:=xy p ok;have htx:=fun v(hv:Below w.heap.size w v)=>qj (env.below hv) p.a ok.a
 have hit:=fun v(hv:Below w.heap.size w v)=>CX (env.below hv) p.bits (by have:=ok.bits;omega)
 have htl:=Gq p.a;have hn:=ok.bits;have hdl:(⟨(dH p.bits).toArray⟩:ByteArray).size≤3:=by
  have:=uK p.bits aY;simpa[agj]using this
 have hp0:pX p=false→iK p=⟨#[]⟩:=fun h=>by unfold iK oU;rw[if_neg (by rw[h];decide)]
 have hp1:pX p=true→iK p=gn p.a++⟨#[47]⟩++⟨(dH p.bits).toArray⟩:=fun h=>by
  unfold iK oU gn;rw[if_pos h];apply ago;simp
 generalize iK p=PB at hp0 hp1⊢;generalize pX p=M at hm hp0 hp1;obtain⟨⟨v,x,l⟩,n⟩:=p;unfold Pf.cells at*;unfold Ad.cells at htx;simp only at hm htx hit hn hdl hp1⊢;generalize(⟨(dH n).toArray⟩:ByteArray)=D at hit hdl hp1;generalize gn ⟨v,x,l⟩=TB at htx hp1 htl;obtain⟨Hm,HTX,HIT,Hp0,Hp1⟩:=kp hm htx hit hp0 hp1;have hB0:=aG.new w 243 #[.bool v,.int .u64 x,.int .u64 l,.int .u8 n];have hb0:=boxed w (.cells #[.bool v,.int .u64 x,.int .u64 l,.int .u8 n] 243);clear hm htx hit hp0 hp1 env ok;cases M with
 |false=>
  rw[Hp0.out rfl];go_enter Tryz.func315,Tryz.ntmps315;go_wp2_with(go_at_call 342;(with_reducible refine(Hm.out _).mono ?_);rintro r w1⟨rfl,g1⟩;have hb1:=after hb0 g1)
  go_ret;exact⟨rfl,hb1⟩
 |true=>
  have z1:¬9223372036854775807<TB.size+1:=by omega
  have z2:¬9223372036854775807<TB.size+1+D.size:=by omega
  have hwr:IntKind.i64.wrap (n:Int)=(n:Int):=by rw[IntKind.wrap_i64];omega
  go_enter Tryz.func315,Tryz.ntmps315;go_wp2_with(go_at_call 342;(with_reducible refine(Hm.out _).mono ?_);rintro r w1⟨rfl,g1⟩;have hb1:=after hb0 g1;have hB1:=hB0.below g1 hB0.lt;clear g1)
  have ht:=hB1.drew;have hv:=hb1.drew;have b0:=ht.cell 0;have b1:=ht.cell 1;have b2:=ht.cell 2;have b3:=ht.cell 3;simp at b0 b1 b2 b3;go_region_held3 (fun w'=>w'.cell? ⟨w.heap.size,0,none⟩=some (.bool v)∧w'.cell? ⟨w.heap.size,1,none⟩=some (.int .u64 x)∧w'.cell? ⟨w.heap.size,2,none⟩=some (.int .u64 l)∧w'.cell? ⟨w.heap.size,3,none⟩=some (.int .u8 n))
   (exact⟨b0,b1,b2,b3⟩)
   (first
     |(go_at_call 204;(with_reducible refine(HTX.out _ hv).mono ?_);rintro r wq⟨rfl,gq⟩;have hv:=after hv gq;have ht:=ht.below gq ht.lt;clear gq;have b0:=ht.cell 0;have b1:=ht.cell 1;have b2:=ht.cell 2;have b3:=ht.cell 3;simp at b0 b1 b2 b3)
     |(go_at_call 236;(with_reducible refine(HIT.out _ hv).mono ?_);rintro r wq⟨rfl,gq⟩;have hv:=after hv gq;have ht:=ht.below gq ht.lt;clear gq;have b0:=ht.cell 0;have b1:=ht.cell 1;have b2:=ht.cell 2;have b3:=ht.cell 3;simp at b0 b1 b2 b3))
  all_goals go_wp2_with fail
  all_goals
   go_ret;exact⟨show Ending.returned (.string (TB++⟨#[47]⟩++D))=_ by rw[Hp1.out (by simp)],hv⟩
theorem V2{w:World}{g:Nat}{v0 v1 v2 v3:Value}(h:aG w g 243 #[v0,v1,v2,v3]):(loadVar 243 ⟨g,0,none⟩).run ai w=.ok (.agg #[v0,v1,v2,v3]) w:=by
 have c0:=h.cell 0;have c1:=h.cell 1;have c2:=h.cell 2;have c3:=h.cell 3;simp at c0 c1 c2 c3;simp[loadVar,go_sem,c0,c1,c2,c3]
theorem four{W w:World}{g:Nat}{z0 z1 z2 z3 v0 v1 v2 v3:Value}(hB:aG w g 243 #[z0,z1,z2,z3])(hb:Below W.heap.size W w)(hg:W.heap.size≤g):aG ((((w.setCell ⟨g,0,none⟩ v0).setCell ⟨g,1,none⟩ v1).setCell ⟨g,2,none⟩ v2).setCell ⟨g,3,none⟩ v3) g 243 #[v0,v1,v2,v3]∧Below W.heap.size W ((((w.setCell ⟨g,0,none⟩ v0).setCell ⟨g,1,none⟩ v1).setCell ⟨g,2,none⟩ v2).setCell ⟨g,3,none⟩ v3):=by
 have s0:aG (w.setCell ⟨g,0,none⟩ v0) g 243 #[v0,z1,z2,z3]:=hB.aM 0 v0;have s1:aG ((w.setCell ⟨g,0,none⟩ v0).setCell ⟨g,1,none⟩ v1) g 243 #[v0,v1,z2,z3]:=s0.aM 1 v1;have s2:aG (((w.setCell ⟨g,0,none⟩ v0).setCell ⟨g,1,none⟩ v1).setCell ⟨g,2,none⟩ v2) g 243 #[v0,v1,v2,z3]:=s1.aM 2 v2;have s3:aG ((((w.setCell ⟨g,0,none⟩ v0).setCell ⟨g,1,none⟩ v1).setCell ⟨g,2,none⟩ v2).setCell ⟨g,3,none⟩ v3) g 243 #[v0,v1,v2,v3]:=s2.aM 3 v3;exact⟨s3,(((hb.setCell (p:=⟨g,0,none⟩) hg v0).setCell (p:=⟨g,1,none⟩) hg v1).setCell (p:=⟨g,2,none⟩) hg v2).setCell (p:=⟨g,3,none⟩) hg v3⟩
theorem aar{fn:Func}{a:Act}{W w:World}{g x y:Nat}{v0 v1 v2 v3 u:Value}(hres:fn.results= #[.cell x 243,.tmp y])(hB:aG w g 243 #[v0,v1,v2,v3])(hb:Below W.heap.size W w)(h1:a.tmps.getD x undef=.pointer (some ⟨g,0,none⟩))(h2:a.tmps.getD y undef=u)(hd:a.defers=[]):bodyPost ai fn (Got (.tuple #[.agg #[v0,v1,v2,v3],u]) W) .ret a w:=bodyPost_ret (bq hres h1 h2 (V2 hB)) hd ⟨rfl,hb⟩
theorem qk{fn:Func}{a:Act}{W w:World}{g x y:Nat}{z0 z1 z2 z3 v0 v1 v2 v3 u:Value}(hres:fn.results= #[.cell x 243,.tmp y])(hB:aG w g 243 #[z0,z1,z2,z3])(hb:Below W.heap.size W w)(hg:W.heap.size≤g)(h1:a.tmps.getD x undef=.pointer (some ⟨g,0,none⟩))(h2:a.tmps.getD y undef=u)(hd:a.defers=[]):bodyPost ai fn (Got (.tuple #[.agg #[v0,v1,v2,v3],u]) W) .ret a ((((w.setCell ⟨g,0,none⟩ v0).setCell ⟨g,1,none⟩ v1).setCell ⟨g,2,none⟩ v2).setCell ⟨g,3,none⟩ v3):=aar hres (four hB hb hg).1 (four hB hb hg).2 h1 h2 hd
def aas(o:Option Pf):Value:=match o with
 |none=>.tuple #[.agg #[.bool false,.int .u64 0,.int .u64 0,.int .u8 0],.int .i64 8]
 |some p=>.tuple #[.agg p.cells,.int .i64 0]
theorem Gs(o:Option Ad)(ho:∀a,o=some a→a.Ok):∃(a:Ad)(e:Nat),a.Ok∧Zp o=.tuple #[.agg #[.bool a.v6,.int .u64 (a.hi:Int),.int .u64 (a.lo:Int)],.int .i64 e]∧((e=0∧o=some a)∨(e=8∧o=none)):=by
 cases o with
 |none=>exact⟨⟨false,0,0⟩,8,⟨by decide,by decide⟩,rfl,Or.inr ⟨rfl,rfl⟩⟩
 |some a=>exact⟨a,0,ho a rfl,rfl,Or.inl ⟨rfl,rfl⟩⟩
theorem np{w:World}(env:Env w)(s:ByteArray)(hs:s.size≤2000000):Calls ai 283 #[.string s] w (Got (aas (hZ s.data.toList)) w):=by
 obtain⟨RL,hRL⟩:∃r,r=hZ s.data.toList:=⟨_,rfl⟩;rw[←hRL];have hB0:=aG.new w 243 #[.bool false,.int .u64 0,.int .u64 0,.int .u8 0];have hb0:=boxed w (.cells #[.bool false,.int .u64 0,.int .u64 0,.int .u8 0] 243);obtain⟨m,hm⟩:=(env.below hb0).mx;have hcut:=Tryz.strings_Cut s ⟨#[47]⟩ m (w.alloc (.cells #[.bool false,.int .u64 0,.int .u64 0,.int .u8 0] 243)) aY hm;have hcl:=uh s.data.toList [47];rw[show(⟨#[47]⟩:ByteArray).data.toList=[47]from rfl]at hcut;unfold hZ at hRL;generalize Lib.cut s.data.toList [47]=C at hcl hcut hRL;obtain⟨c1,c2,gap⟩:=C;simp only at hcl hcut hRL;rw[show s.data.toList.length=s.size from(Lib.size_eq s).symm]at hcl;have hrd:=fun v(hv:Below w.heap.size w v)=>Qc (env.below hv) ⟨c1.toArray⟩ (by rw[show(⟨c1.toArray⟩:ByteArray).size=c1.length by simp[agj]];omega)
 have hpu:=fun v(hv:Below w.heap.size w v)=>aaf (env.below hv) ⟨c2.toArray⟩ (by rw[show(⟨c2.toArray⟩:ByteArray).size=c2.length by simp[agj]];omega)
 rw[show(⟨c1.toArray⟩:ByteArray).data.toList=c1 by simp]at hrd;rw[show(⟨c2.toArray⟩:ByteArray).data.toList=c2 by simp]at hpu;obtain⟨A,er,hA,hv,hro⟩:=Gs (sF c1) (fun a h=>(uP h).2.1);rw[hv]at hrd;generalize sF c1=RO at hRL hro;clear hv;have hnl:∀n,num1 10 256 c2=some n→n<256:=fun n h=>lX h
 unfold yp Zi at hpu;generalize num1 10 256 c2=NO at hRL hpu hnl;have Gt:=fun n(hn:n<256)v(hv:Below w.heap.size w v)=>vk (env.below hv) ⟨A,n⟩ ⟨hA,hn⟩
 have hiff:∀n,iK ⟨A,n⟩=s↔oU ⟨A,n⟩=s.data.toList:=fun n=>Gp
 have hcells:∀n,Pf.cells ⟨A,n⟩= #[.bool A.v6,.int .u64 (A.hi:Int),.int .u64 (A.lo:Int),.int .u8 n]:=fun _=>rfl
 simp only[hcells]at Gt;obtain⟨T1,hT1⟩:∃t,t=(⟨c1.toArray⟩:ByteArray):=⟨_,rfl⟩;obtain⟨T2,hT2⟩:∃t,t=(⟨c2.toArray⟩:ByteArray):=⟨_,rfl⟩;rw[←hT1]at hrd hcut;rw[←hT2]at hpu hcut;have hr0:gap=false→RL=none:=fun h=>by rw[hRL,h];rfl
 have hr1:er=8→RL=none:=fun h=>by
  rcases hro with⟨e,_⟩|⟨_,e⟩
  ·omega
  ·rw[hRL,e];split<;>rfl
 have hr2:NO=none→RL=none:=fun h=>by
  rw[hRL,h];split
  ·rfl
  ·cases RO<;>rfl
 have hr3:gap=true→er=0→∀n,NO=some n→RL=if iK ⟨A,n⟩=s then some ⟨A,n⟩else none:=fun h1 h2 n h3=>by
  rcases hro with⟨_,e⟩|⟨e,_⟩
  ·rw[hRL,h1,h3,e];simp only;rw[if_neg aI];by_cases h:iK ⟨A,n⟩=s
   ·rw[if_pos h,if_pos ((hiff n).1 h)]
   ·rw[if_neg h,if_neg (fun e=>h ((hiff n).2 e))]
  ·omega
 have her:er=0∨er=8:=by rcases hro with⟨e,_⟩|⟨e,_⟩<;>omega
 obtain⟨PB,hPB⟩:∃f:Nat→ByteArray,f=fun n=>iK ⟨A,n⟩:=⟨_,rfl⟩
 have acy:∀n,iK ⟨A,n⟩=PB n:=fun n=>by rw[hPB]
 simp only[acy]at hr3 Gt;generalize A.v6=av at hrd Gt hcells;generalize A.hi=E9 at hrd Gt hcells;generalize A.lo=Fa at hrd Gt hcells;obtain⟨xB,HRD,HPU,HPT,Hr0,Hr1,Hr2,Hr3,Hnl,pD,HB0,Hb0⟩:=uF hcut hrd hpu Gt hr0 hr1 hr2 hr3 hnl hcells hB0 hb0;clear hcut hrd hpu Gt hr0 hr1 hr2 hr3 hnl hcells hB0 hb0 hiff hro hRL hT1 hT2 hPB acy hA hm hcl env;go_enter Tryz.func283,Tryz.ntmps283;go_wp2_with(go_at_call 312;(with_reducible refine xB.out.mono ?_);rintro r w2⟨rfl,n2,rfl⟩)
 go_at_call 313;refine(HRD.out _ (after Hb0.out (below_drewN _ n2))).mono ?_;rintro r w3⟨rfl,g3⟩;have hB3:=(HB0.out.drewN n2).below g3 (HB0.out.drewN n2).lt;have hb3:=after (after Hb0.out (below_drewN _ n2)) g3;have hB4:=hB3.alloc (.cells #[.bool av,.int .u64 E9,.int .u64 Fa] 44);have hD4:=aG.new w3 44 #[.bool av,.int .u64 E9,.int .u64 Fa];have hb4:=after hb3 (boxed w3 (.cells #[.bool av,.int .u64 E9,.int .u64 Fa] 44));have hw3:w.heap.size<w3.heap.size:=hB3.lt;clear hB3 hb3 g3;go_upto_region 3 with fail
 generalize w3.alloc (.cells #[.bool av,.int .u64 E9,.int .u64 Fa] 44)=w4 at hB4 hD4 hb4⊢;generalize w3.heap.size=g1 at hD4 hw3⊢;obtain⟨HB4,HD4,Hb4,aeB⟩:=fH hB4 hD4 hb4 (HPU.out w4 hb4);clear hB4 hD4 hb4;go_wp2_with fail
 go_at_call 314;refine aeB.out.mono ?_;rintro e w5⟨hres,g5⟩;have Qg:=HB4.out.below g5 HB4.out.lt;have hD5:=HD4.out.below g5 HD4.out.lt;have hb5:=after Hb4.out g5;have a0:=hD5.cell 0;have a1:=hD5.cell 1;have a2:=hD5.cell 2;simp at a0 a1 a2;obtain⟨nt,Hb5⟩:=aQ Qg hb5;clear Qg hD5 hb5 g5;rcases hres with⟨n,hNO,rfl⟩|⟨hNO,n,tp,p,aaj,rfl⟩
 ·have hn:=Hnl.out n hNO;have hwr:IntKind.u8.wrap (n:Int)=(n:Int):=by rw[IntKind.wrap_u8];omega
  go_upto_region 5 with fail
  have fE:=nt.out.alloc (.cells #[.bool av,.int .u64 E9,.int .u64 Fa,.int .u8 n] 243);have hD6:=aG.new w5 243 #[.bool av,.int .u64 E9,.int .u64 Fa,.int .u8 n];have hb6:=after Hb5.out (boxed w5 (.cells #[.bool av,.int .u64 E9,.int .u64 Fa,.int .u8 n] 243));have hw5:w.heap.size<w5.heap.size:=nt.out.lt;generalize w5.alloc (.cells #[.bool av,.int .u64 E9,.int .u64 Fa,.int .u8 n] 243)=w6 at fE hD6 hb6⊢;generalize w5.heap.size=g2 at hD6 hw5⊢;clear a0 a1 a2;have b0:=hD6.cell 0;have b1:=hD6.cell 1;have b2:=hD6.cell 2;have b3:=hD6.cell 3;simp at b0 b1 b2 b3;have c0:=fE.cell 0;have c1:=fE.cell 1;have c2:=fE.cell 2;have c3:=fE.cell 3;simp at c0 c1 c2 c3;have fr:=fun i=>fE.frozen i
  obtain⟨ku,HD6,zB⟩:=bO fE hD6 hb6;clear fE hD6 hb6;have acz:=ae (HPT.out n hn w6 zB.out);cases gap with
  |false=>
   have V1:=ae (Hr0.out rfl);go_wp2_with fail
   rw[V1.out];show bodyPost _ _ (Got (.tuple #[.agg #[.bool false,.int .u64 0,.int .u64 0,.int .u8 0],.int .i64 8]) w) _ _ _;exact qk (g:=w.heap.size) (x:=2) (y:=3) rfl ku.out zB.out (aw _) rfl rfl rfl
  |true=>
   rcases her with rfl|rfl
   ·have hrl:=Hr3.out rfl rfl n hNO;by_cases hts:PB n=s
    ·have hq:=gB hts;rw[if_pos hts]at hrl;have Hrl:=ae hrl;clear hrl hts;go_wp2_with(go_at_call 315;(with_reducible refine acz.out.mono ?_);rintro r w7⟨rfl,g7⟩;have hb7:=bm zB g7;have jl:=ku.out.below g7 ku.out.lt;have hD7:=HD6.out.below g7 HD6.out.lt;clear b0 b1 b2 b3 c0 c1 c2 c3 fr;have b0:=hD7.cell 0;have b1:=hD7.cell 1;have b2:=hD7.cell 2;have b3:=hD7.cell 3;simp at b0 b1 b2 b3;have c0:=jl.cell 0;have c1:=jl.cell 1;have c2:=jl.cell 2;have c3:=jl.cell 3;simp at c0 c1 c2 c3;have fr:=(fun i=>jl.frozen i);have xd:=ae jl;clear jl hD7 g7)
     rw[Hrl.out];show bodyPost _ _ (Got (.tuple #[.agg (Pf.cells ⟨A,n⟩),.int .i64 0]) w) _ _ _;rw[pD.out];exact qk (g:=w.heap.size) (x:=2) (y:=3) rfl xd.out hb7.out (aw _) rfl rfl rfl
    ·have hq:=gC hts;rw[if_neg hts]at hrl;have Hrl:=ae hrl;clear hrl hts;go_wp2_with(go_at_call 315;(with_reducible refine acz.out.mono ?_);rintro r w7⟨rfl,g7⟩;have hb7:=bm zB g7;have jl:=ku.out.below g7 ku.out.lt;have hD7:=HD6.out.below g7 HD6.out.lt;clear b0 b1 b2 b3 c0 c1 c2 c3 fr;have b0:=hD7.cell 0;have b1:=hD7.cell 1;have b2:=hD7.cell 2;have b3:=hD7.cell 3;simp at b0 b1 b2 b3;have c0:=jl.cell 0;have c1:=jl.cell 1;have c2:=jl.cell 2;have c3:=jl.cell 3;simp at c0 c1 c2 c3;have fr:=(fun i=>jl.frozen i);have xd:=ae jl;clear jl hD7 g7)
     rw[Hrl.out];show bodyPost _ _ (Got (.tuple #[.agg #[.bool false,.int .u64 0,.int .u64 0,.int .u8 0],.int .i64 8]) w) _ _ _;exact qk (g:=w.heap.size) (x:=2) (y:=3) rfl xd.out hb7.out (aw _) rfl rfl rfl
   ·have V1:=ae (Hr1.out rfl);go_wp2_with fail
    rw[V1.out];show bodyPost _ _ (Got (.tuple #[.agg #[.bool false,.int .u64 0,.int .u64 0,.int .u8 0],.int .i64 8]) w) _ _ _;exact qk (g:=w.heap.size) (x:=2) (y:=3) rfl ku.out zB.out (aw _) rfl rfl rfl
 ·have V1:=ae (Hr2.out hNO);clear hNO;go_upto_region 5 with fail
  have fE:=nt.out.alloc (.cells #[.bool av,.int .u64 E9,.int .u64 Fa,.int .u8 ((n:Int)%256)] 243);have hD6:=aG.new w5 243 #[.bool av,.int .u64 E9,.int .u64 Fa,.int .u8 ((n:Int)%256)];have hb6:=after Hb5.out (boxed w5 (.cells #[.bool av,.int .u64 E9,.int .u64 Fa,.int .u8 ((n:Int)%256)] 243));have hw5:w.heap.size<w5.heap.size:=nt.out.lt;generalize w5.alloc (.cells #[.bool av,.int .u64 E9,.int .u64 Fa,.int .u8 ((n:Int)%256)] 243)=w6 at fE hD6 hb6⊢;generalize w5.heap.size=g2 at hD6 hw5⊢;clear a0 a1 a2;have b0:=hD6.cell 0;have b1:=hD6.cell 1;have b2:=hD6.cell 2;have b3:=hD6.cell 3;simp at b0 b1 b2 b3;have c0:=fE.cell 0;have c1:=fE.cell 1;have c2:=fE.cell 2;have c3:=fE.cell 3;simp at c0 c1 c2 c3;have fr:=fun i=>fE.frozen i
  obtain⟨ku,HD6,zB⟩:=bO fE hD6 hb6;clear fE hD6 hb6;rcases her with rfl|rfl
  all_goals cases gap
  all_goals
   go_wp2_with fail
   rw[V1.out];show bodyPost _ _ (Got (.tuple #[.agg #[.bool false,.int .u64 0,.int .u64 0,.int .u8 0],.int .i64 8]) w) _ _ _;exact qk (g:=w.heap.size) (x:=2) (y:=3) rfl ku.out zB.out (aw _) rfl rfl rfl
def jC.cells(s:jC):Array Value:= #[.int .u8 (s.kind:Int),.string s.name,.bool s.net.a.v6,.int .u64 (s.net.a.hi:Int),.int .u64 (s.net.a.lo:Int),.int .u8 (s.net.bits:Int)]
theorem fp{P:Program}{T K E:TypeId}{w:World}{m clock:Nat}{L:List SE}(hT:P.underlying T=some (.map K E))(hK:P.underlying K=some .string)(h:ek w m L clock)(s:ByteArray){j:Nat}{x:SE}(hj:at_ L s=some j)(hx:L[j]? =some x):(Instr.lookup T (.map (some m)) (.string s) false).run P w=.ok x.val w:=by
 simp[Instr.lookup,run_underlying hT,run_getObj_map h,dW _ _ hK,ents,fS s hK,hj,hx,aB]
theorem lw{P:Program}{T K E:TypeId}{w:World}{m clock:Nat}{L:List SE}(hT:P.underlying T=some (.map K E))(hK:P.underlying K=some .string)(h:ek w m L clock)(s:ByteArray)(hj:at_ L s=none){z:Value}(hz:(zeroValue E).run P w=.ok z w):(Instr.lookup T (.map (some m)) (.string s) false).run P w=.ok z w:=by
 simp[Instr.lookup,run_underlying hT,run_getObj_map h,dW _ _ hK,ents,fS s hK,hj,hz]
def pE:List SE:=[⟨rz,.int .u8 2,0⟩,⟨eU,.int .u8 3,1⟩,⟨jG,.int .u8 4,2⟩,⟨ib,.int .u8 5,3⟩,⟨yk,.int .u8 6,4⟩]
theorem cS{a b:ByteArray}(h:a≠b):(a==b)=false:=by
 cases e:a==b with
 |false=>rfl
 |true=>exact absurd ((bytes_beq a b).1 e) h
theorem zC{w:World}{m clock:Nat}(h:ek w m pE clock)(s:ByteArray):(Instr.lookup 371 (.map (some m)) (.string s) false).run ai w=.ok (.int .u8 (fR s.data.toList:Int)) w:=by
 have hT:=Tryz.underlying371;have hK:=bL;unfold fR;rw[pY];by_cases e1:s=rz
 ·subst e1;rw[if_pos rfl];exact fp hT hK h _ (j:=0) (x:=⟨rz,.int .u8 2,0⟩) (by decide+kernel) rfl
 rw[if_neg e1];by_cases e2:s=eU
 ·subst e2;rw[if_pos rfl];exact fp hT hK h _ (j:=1) (x:=⟨eU,.int .u8 3,1⟩) (by decide+kernel) rfl
 rw[if_neg e2];by_cases e3:s=jG
 ·subst e3;rw[if_pos rfl];exact fp hT hK h _ (j:=2) (x:=⟨jG,.int .u8 4,2⟩) (by decide+kernel) rfl
 rw[if_neg e3];by_cases e4:s=ib
 ·subst e4;rw[if_pos rfl];exact fp hT hK h _ (j:=3) (x:=⟨ib,.int .u8 5,3⟩) (by decide+kernel) rfl
 rw[if_neg e4];by_cases e5:s=yk
 ·subst e5;rw[if_pos rfl];exact fp hT hK h _ (j:=4) (x:=⟨yk,.int .u8 6,4⟩) (by decide+kernel) rfl
 rw[if_neg e5];refine lw hT hK h s ?_ (Tryz.zeroValue5 w);unfold at_ pE;simp only[List.findIdx?_cons,List.findIdx?_nil];rw[cS (Ne.symm e1),cS (Ne.symm e2),cS (Ne.symm e3),cS (Ne.symm e4),cS (Ne.symm e5)];rfl
theorem nu{w:World}{g:Nat}{v0 v1 v2 v3 v4 v5:Value}(h:aG w g 245 #[v0,v1,v2,v3,v4,v5]):(loadVar 245 ⟨g,0,none⟩).run ai w=.ok (.agg #[v0,v1,v2,v3,v4,v5]) w:=by
 have c0:=h.cell 0;have c1:=h.cell 1;have c2:=h.cell 2;have c3:=h.cell 3;have c4:=h.cell 4;have c5:=h.cell 5;simp at c0 c1 c2 c3 c4 c5;simp[loadVar,go_sem,c0,c1,c2,c3,c4,c5]
theorem uj{W w:World}{g:Nat}{z0 z1 z2 z3 z4 z5 v0 v1 v2 v3 v4 v5:Value}(hB:aG w g 245 #[z0,z1,z2,z3,z4,z5])(hb:Below W.heap.size W w)(hg:W.heap.size≤g):aG ((((((w.setCell ⟨g,0,none⟩ v0).setCell ⟨g,1,none⟩ v1).setCell ⟨g,2,none⟩ v2).setCell ⟨g,3,none⟩ v3).setCell ⟨g,4,none⟩ v4).setCell ⟨g,5,none⟩ v5) g 245 #[v0,v1,v2,v3,v4,v5]∧Below W.heap.size W ((((((w.setCell ⟨g,0,none⟩ v0).setCell ⟨g,1,none⟩ v1).setCell ⟨g,2,none⟩ v2).setCell ⟨g,3,none⟩ v3).setCell ⟨g,4,none⟩ v4).setCell ⟨g,5,none⟩ v5):=by
 have s0:aG (w.setCell ⟨g,0,none⟩ v0) g 245 #[v0,z1,z2,z3,z4,z5]:=hB.aM 0 v0;have s1:aG ((w.setCell ⟨g,0,none⟩ v0).setCell ⟨g,1,none⟩ v1) g 245 #[v0,v1,z2,z3,z4,z5]:=s0.aM 1 v1;have s2:aG (((w.setCell ⟨g,0,none⟩ v0).setCell ⟨g,1,none⟩ v1).setCell ⟨g,2,none⟩ v2) g 245 #[v0,v1,v2,z3,z4,z5]:=s1.aM 2 v2;have s3:aG ((((w.setCell ⟨g,0,none⟩ v0).setCell ⟨g,1,none⟩ v1).setCell ⟨g,2,none⟩ v2).setCell ⟨g,3,none⟩ v3) g 245 #[v0,v1,v2,v3,z4,z5]:=s2.aM 3 v3;have s4:aG (((((w.setCell ⟨g,0,none⟩ v0).setCell ⟨g,1,none⟩ v1).setCell ⟨g,2,none⟩ v2).setCell ⟨g,3,none⟩ v3).setCell ⟨g,4,none⟩ v4) g 245 #[v0,v1,v2,v3,v4,z5]:=s3.aM 4 v4;have s5:aG ((((((w.setCell ⟨g,0,none⟩ v0).setCell ⟨g,1,none⟩ v1).setCell ⟨g,2,none⟩ v2).setCell ⟨g,3,none⟩ v3).setCell ⟨g,4,none⟩ v4).setCell ⟨g,5,none⟩ v5) g 245 #[v0,v1,v2,v3,v4,v5]:=s4.aM 5 v5;exact⟨s5,((((((hb.setCell (p:=⟨g,0,none⟩) hg v0).setCell (p:=⟨g,1,none⟩) hg v1).setCell (p:=⟨g,2,none⟩) hg v2).setCell (p:=⟨g,3,none⟩) hg v3).setCell (p:=⟨g,4,none⟩) hg v4).setCell (p:=⟨g,5,none⟩) hg v5)⟩
theorem ek.acA{w:World}{m clock g:Nat}{L:List SE}{v0 v1 v2 v3 v4 v5:Value}(h:ek w m L clock)(hne:g≠m):ek ((((((w.setCell ⟨g,0,none⟩ v0).setCell ⟨g,1,none⟩ v1).setCell ⟨g,2,none⟩ v2).setCell ⟨g,3,none⟩ v3).setCell ⟨g,4,none⟩ v4).setCell ⟨g,5,none⟩ v5) m L clock:=by
 have k:=((((((Keeps.refl (fun x=>x=g) w).setCell (p:=⟨g,0,none⟩) (Or.inl rfl) v0).setCell (p:=⟨g,1,none⟩) (Or.inl rfl) v1).setCell (p:=⟨g,2,none⟩) (Or.inl rfl) v2).setCell (p:=⟨g,3,none⟩) (Or.inl rfl) v3).setCell (p:=⟨g,4,none⟩) (Or.inl rfl) v4).setCell (p:=⟨g,5,none⟩) (Or.inl rfl) v5;exact h.keep k fun e=>hne e.symm
theorem ek.drw{w:World}{m clock:Nat}{L:List SE}(h:ek w m L clock):ek w.drew m L clock:=h
theorem Gu(w0:World):∃w1 w2 w3 w4 w5:World,(Instr.mapUpdate 371 (.map (some w0.heap.size)) (.string ⟨#[117,115,101,114]⟩) (.int .u8 2)).run ai (w0.alloc (.map #[] 0))=.ok () w1∧(Instr.mapUpdate 371 (.map (some w0.heap.size)) (.string ⟨#[103,114,111,117,112]⟩) (.int .u8 3)).run ai w1=.ok () w2∧(Instr.mapUpdate 371 (.map (some w0.heap.size)) (.string ⟨#[116,97,103]⟩) (.int .u8 4)).run ai w2=.ok () w3∧(Instr.mapUpdate 371 (.map (some w0.heap.size)) (.string ⟨#[104,111,115,116]⟩) (.int .u8 5)).run ai w3=.ok () w4∧(Instr.mapUpdate 371 (.map (some w0.heap.size)) (.string ⟨#[110,101,116]⟩) (.int .u8 6)).run ai w4=.ok () w5∧ek w5 w0.heap.size pE 5∧Below w0.heap.size w0 w5:=by
 have hT:=Tryz.underlying371;have hK:=bL;have h0:ek (w0.alloc (.map #[] 0)) w0.heap.size [] 0:=heap_alloc_new w0 _;obtain⟨w1,e1,_,_,k1,m1⟩:=eD (P:=ai) hT hK h0 ⟨#[117,115,101,114]⟩ (by decide+kernel) (.int .u8 2);obtain⟨w2,e2,_,_,k2,m2⟩:=eD (P:=ai) hT hK m1 ⟨#[103,114,111,117,112]⟩ (by decide+kernel) (.int .u8 3);obtain⟨w3,e3,_,_,k3,m3⟩:=eD (P:=ai) hT hK m2 ⟨#[116,97,103]⟩ (by decide+kernel) (.int .u8 4);obtain⟨w4,e4,_,_,k4,m4⟩:=eD (P:=ai) hT hK m3 ⟨#[104,111,115,116]⟩ (by decide+kernel) (.int .u8 5);obtain⟨w5,e5,_,_,k5,m5⟩:=eD (P:=ai) hT hK m4 ⟨#[110,101,116]⟩ (by decide+kernel) (.int .u8 6);refine⟨w1,w2,w3,w4,w5,e1,e2,e3,e4,e5,m5,?_⟩;exact(boxed w0 _).trans (Keeps.below ((((k1.trans k2).trans k3).trans k4).trans k5) (fun k hk=>by rw[hk];exact aw _) (by simp))
def iL(m:Nat)(T:ByteArray)(K:Nat)(w:World):Prop:=(Instr.lookup 371 (.map (some m)) (.string T) false).run ai w=.ok (.int .u8 K) w
def Gv(o:Option jC)(w:World)(r:Ending)(w':World):Prop:=(∃s:jC,r=.returned (.tuple #[.agg s.cells,.bool o.isSome])∧∀x,o=some x→s=x)∧Below w.heap.size w w'
theorem V3{w:World}(env:Env w)(s:ByteArray)(hs:s.size≤2000000):Calls ai 316 #[.string s] w (Gv (lu s) w):=by
 have hB0:=aG.new w 245 #[.int .u8 0,.string ⟨#[]⟩,.bool false,.int .u64 0,.int .u64 0,.int .u8 0];have hb0:=boxed w (.cells #[.int .u8 0,.string ⟨#[]⟩,.bool false,.int .u64 0,.int .u64 0,.int .u8 0] 245);by_cases hst:s=uS
 ·subst hst;rw[show lu uS=some ⟨1,sA,Pf.zero⟩ by unfold lu;rw[if_pos rfl]];unfold uS;clear env hs;go_enter Tryz.func316,Tryz.ntmps316;go_wp2_with fail
  refine bodyPost_ret (bq rfl rfl rfl (nu (aG.new _ _ _))) rfl ⟨⟨⟨1,sA,Pf.zero⟩,rfl,fun x hx=>by injection hx⟩,boxed _ _⟩
 ·have hss:(s.toList==[42])=false:=by
   rw[beq_eq_false_iff_ne];intro h;rw[cM]at h;exact hst (ago (Array.ext' h))
  have hmm:= @run_makeMap ai;have hk:=Gu (w.alloc (.cells #[.int .u8 0,.string ⟨#[]⟩,.bool false,.int .u64 0,.int .u64 0,.int .u8 0] 245));rw[show(w.alloc (.cells #[.int .u8 0,.string ⟨#[]⟩,.bool false,.int .u64 0,.int .u64 0,.int .u8 0] 245)).heap.size=w.heap.size+1 by simp]at hk;obtain⟨w1,w2,w3,w4,w5,e1,e2,e3,e4,e5,hM,hbm⟩:=hk;have Qg:=hB0.below hbm aY;have hb5:Below w.heap.size w w5:=hb0.trans (hbm.mono aY);obtain⟨mx,hmx⟩:=(env.below hb5).mx;have hcut:=Tryz.strings_Cut s ⟨#[58]⟩ mx w5 aY hmx;have hcl:=uh s.data.toList [58];rw[show(⟨#[58]⟩:ByteArray).data.toList=[58]from rfl]at hcut;obtain⟨RES,dY⟩:∃r,r=lu s:=⟨_,rfl⟩;rw[←dY];unfold lu at dY;rw[if_neg hst]at dY;simp only at dY;generalize Lib.cut s.data.toList [58]=C at hcl hcut dY;obtain⟨c1,c2,gap⟩:=C;simp only at hcl hcut dY;rw[show s.data.toList.length=s.size from(Lib.size_eq s).symm]at hcl;have hrd:=fun v(hv:Below w.heap.size w v)=>np (env.below hv) ⟨c2.toArray⟩ (by rw[show(⟨c2.toArray⟩:ByteArray).size=c2.length by simp[agj]];omega)
  rw[show(⟨c2.toArray⟩:ByteArray).data.toList=c2 from rfl]at hrd;have hlab:=fun v=>nY ⟨c2.toArray⟩ (by rw[show(⟨c2.toArray⟩:ByteArray).size=c2.length by simp[agj]];omega) v
  rw[show cn (⟨c2.toArray⟩:ByteArray)=na c2 from rfl]at hlab;have hlk:∀W,ek W (w.heap.size+1) pE 5→iL (w.heap.size+1) ⟨c1.toArray⟩ (fR c1) W:=fun W h=>zC h ⟨c1.toArray⟩
  have hK6:fR c1≤6:=by
   by_cases h0:0<fR c1
   ·rcases nh h0 with h|h|h|h|h<;>omega
   ·omega
  generalize fR c1=K at dY hlk hK6;unfold iF at dY;generalize(⟨c1.toArray⟩:ByteArray)=T1 at hcut hlk;generalize hT2:(⟨c2.toArray⟩:ByteArray)=T2 at hcut hrd hlab dY;obtain⟨xB,iZ,kE,L6,Zk⟩:=kp hcut dY hrd hlab hlk;clear hcut dY hrd hlab hlk env hmx hcl hst hT2;go_enter Tryz.func316,Tryz.ntmps316;go_upto_region 5 with(go_at_call 312;(with_reducible refine xB.out.mono ?_);rintro r wq⟨rfl,nq,rfl⟩)
  have fE:aG (w5.drewN nq) w.heap.size 245 #[.int .u8 0,.string ⟨#[]⟩,.bool false,.int .u64 0,.int .u64 0,.int .u8 0]:=Qg;have hb6:Below w.heap.size w (w5.drewN nq):=⟨hb5.os,hb5.tape,hb5.output,hb5.size,hb5.block⟩;have BM:=ae (hM.drewN nq);clear e1 e2 e3 e4 e5 hmm hM hbm Qg hb5 xB hB0 hb0;generalize w5.drewN nq=w6 at fE hb6 BM⊢;have hlk:=Zk.out w6 BM.out;unfold iL at hlk;by_cases h6:K=6
  ·subst h6;have hR:=iZ.out;rw[if_pos rfl]at hR;have CZ:=ae hR;clear hR iZ L6 BM;obtain⟨zB,ku⟩:=aQ hb6 fE;clear hb6 fE;go_upto_region 6 with fail
   cases hp:hZ c2 with
   |none=>
    rw[hp]at kE CZ;have aat:af (∀(v:World),Below w.heap.size w v→Calls ai 283 #[.string T2] v (Got (.tuple #[.agg #[.bool false,.int .u64 0,.int .u64 0,.int .u8 0],.int .i64 8]) v)):=kE;go_upto_region 7 with(go_at_call 283;(with_reducible refine(aat.out _ zB.out).mono ?_);rintro r w7⟨rfl,d7⟩)
    have mV:=(ku.out.below d7 ku.out.lt).alloc (.cells #[.bool false,.int .u64 0,.int .u64 0,.int .u8 0] 243);have hb8:=after (after zB.out d7) (boxed w7 (.cells #[.bool false,.int .u64 0,.int .u64 0,.int .u8 0] 243));have hP:=aG.new w7 243 #[.bool false,.int .u64 0,.int .u64 0,.int .u8 0];clear d7;generalize w7.alloc (.cells #[.bool false,.int .u64 0,.int .u64 0,.int .u8 0] 243)=w8 at mV hb8 hP⊢;have b0:=mV.cell 0;have b1:=mV.cell 1;have b2:=mV.cell 2;have b3:=mV.cell 3;have b4:=mV.cell 4;have b5:=mV.cell 5;have z0:=mV.frozen 0;have z1:=mV.frozen 1;have z2:=mV.frozen 2;have z3:=mV.frozen 3;have z4:=mV.frozen 4;have z5:=mV.frozen 5;have p0:=hP.cell 0;have p1:=hP.cell 1;have p2:=hP.cell 2;have p3:=hP.cell 3;simp at b0 b1 b2 b3 b4 b5 p0 p1 p2 p3;obtain⟨q1,q2⟩:=uj (v0:=.int .u8 6) (v1:=.string ⟨#[]⟩) (v2:=.bool false) (v3:=.int .u64 0) (v4:=.int .u64 0) (v5:=.int .u8 0) mV hb8 (aw _);obtain⟨Q1,Q2⟩:=aQ q1 q2;clear q1 q2;go_wp2_with fail
    refine bodyPost_ret (bq rfl rfl rfl (nu Q1.out)) rfl ⟨⟨⟨6,sA,Pf.zero⟩,by rw[CZ.out];rfl,fun x hx=>by rw[CZ.out]at hx;cases hx⟩,Q2.out⟩
   |some n=>
    obtain⟨⟨a1,a2,a3⟩,a4⟩:=n;rw[hp]at kE CZ;have aat:af (∀(v:World),Below w.heap.size w v→Calls ai 283 #[.string T2] v (Got (.tuple #[.agg #[.bool a1,.int .u64 a2,.int .u64 a3,.int .u8 a4],.int .i64 0]) v)):=kE;go_upto_region 7 with(go_at_call 283;(with_reducible refine(aat.out _ zB.out).mono ?_);rintro r w7⟨rfl,d7⟩)
    have mV:=(ku.out.below d7 ku.out.lt).alloc (.cells #[.bool a1,.int .u64 a2,.int .u64 a3,.int .u8 a4] 243);have hb8:=after (after zB.out d7) (boxed w7 (.cells #[.bool a1,.int .u64 a2,.int .u64 a3,.int .u8 a4] 243));have hP:=aG.new w7 243 #[.bool a1,.int .u64 a2,.int .u64 a3,.int .u8 a4];clear d7;generalize w7.alloc (.cells #[.bool a1,.int .u64 a2,.int .u64 a3,.int .u8 a4] 243)=w8 at mV hb8 hP⊢;have b0:=mV.cell 0;have b1:=mV.cell 1;have b2:=mV.cell 2;have b3:=mV.cell 3;have b4:=mV.cell 4;have b5:=mV.cell 5;have z0:=mV.frozen 0;have z1:=mV.frozen 1;have z2:=mV.frozen 2;have z3:=mV.frozen 3;have z4:=mV.frozen 4;have z5:=mV.frozen 5;have p0:=hP.cell 0;have p1:=hP.cell 1;have p2:=hP.cell 2;have p3:=hP.cell 3;simp at b0 b1 b2 b3 b4 b5 p0 p1 p2 p3;obtain⟨q1,q2⟩:=uj (v0:=.int .u8 6) (v1:=.string ⟨#[]⟩) (v2:=.bool a1) (v3:=.int .u64 a2) (v4:=.int .u64 a3) (v5:=.int .u8 a4) mV hb8 (aw _);obtain⟨Q1,Q2⟩:=aQ q1 q2;clear q1 q2;go_wp2_with fail
    refine bodyPost_ret (bq rfl rfl rfl (nu Q1.out)) rfl ⟨⟨⟨6,sA,⟨⟨a1,a2,a3⟩,a4⟩⟩,by rw[CZ.out];rfl,fun x hx=>by rw[CZ.out]at hx;injection hx⟩,Q2.out⟩
  ·have q6:((K:Int)==6)=false:=by simp;omega
   have hR:=iZ.out;rw[if_neg h6]at hR;have CZ:=ae hR;clear hR iZ kE h6;have hM:=BM.out;have hgm:w.heap.size≠w.heap.size+1:=by omega
   generalize hLB:na c2=LB at CZ L6;clear hLB;by_cases h0:0<K
   ·have q0:(0:Int)<(K:Int):=by omega
    go_upto_region 8 with fail
    have b0:=fE.cell 0;have b1:=fE.cell 1;have b2:=fE.cell 2;have b3:=fE.cell 3;have b4:=fE.cell 4;have b5:=fE.cell 5;simp at b0 b1 b2 b3 b4 b5;refine wp_region_held_drew (S:=iL (w.heap.size+1) T1 K) bJ (Zk.out w6.drew (show ek w6.drew (w.heap.size+1) pE 5 from hM)) (fun hHeld=>?_);refine xa 0 ?_ (hy:=by(intro w hSw;unfold iL at hSw;go_simp;try with_reducible rfl));try simp only[dX]
    refine xa 1 ?_ (hy:=by(intro w hSw;unfold iL at hSw;go_simp;try with_reducible rfl));try simp only[dX]
    refine xa 2 ?_ (hy:=by(intro w hSw;unfold iL at hSw;go_simp;try with_reducible rfl));try simp only[dX]
    refine xa 3 ?_ (hy:=by(intro w hSw;unfold iL at hSw;go_simp;try with_reducible rfl));try simp only[dX]
    refine xa 4 ?_ (hy:=by(intro w hSw;unfold iL at hSw;go_simp;try with_reducible rfl));try simp only[dX]
    refine xa 5 ?_ (hy:=by(intro w hSw;unfold iL at hSw;go_simp;try with_reducible rfl));try simp only[dX]
    refine xa 6 ?_ (hy:=by(intro w hSw;unfold iL at hSw;go_simp;try with_reducible rfl));try simp only[dX]
    refine xa 7 ?_ (hy:=by(intro w hSw;unfold iL at hSw;go_simp;try with_reducible rfl));try simp only[dX]
    refine xa 8 ?_ (hy:=by(intro w hSw;unfold iL at hSw;go_simp;try with_reducible rfl));try simp only[dX]
    refine xa 9 ?_ (hy:=by(intro w hSw;unfold iL at hSw;go_simp;try with_reducible rfl));try simp only[dX]
    refine xa 10 ?_ (hy:=by(intro w hSw;unfold iL at hSw;go_simp;try with_reducible rfl));try simp only[dX]
    refine mM 11 fun K hK=>?_;go_simp;refine(L6.out _).mono ?_;rintro r w9⟨rfl,d9⟩;have hM:=ek.below (show ek w6.drew (w.heap.size+1) pE 5 from hM) d9 hM.lt;have fE:=aG.below (show aG w6.drew w.heap.size 245 _ from fE) d9 fE.lt;have hb6:=after (show Below w.heap.size w w6.drew from⟨hb6.os,hb6.tape,hb6.output,hb6.size,hb6.block⟩) d9;have b0:=fE.cell 0;have b1:=fE.cell 1;have b2:=fE.cell 2;have b3:=fE.cell 3;have b4:=fE.cell 4;have b5:=fE.cell 5;simp at b0 b1 b2 b3 b4 b5;have z0:=fE.frozen 0;have z1:=fE.frozen 1;have z2:=fE.frozen 2;have z3:=fE.frozen 3;have z4:=fE.frozen 4;have z5:=fE.frozen 5;refine hK.out _ _ (Zk.out w9 hM) (fun hHeld=>?_);clear hK K;try simp only[dX]
    refine xa 12 ?_ (hy:=by(intro w hSw;unfold iL at hSw;go_simp;try with_reducible rfl));try simp only[dX]
    refine mM 13 fun K hK=>?_;go_simp;refine hK.out _ _ (Zk.out _ (ek.acA hM hgm)) (fun hHeld=>?_);clear hK K;try simp only[dX]
    refine xa 14 ?_ (hy:=by(intro w hSw;unfold iL at hSw;go_simp;try with_reducible rfl));try simp only[dX]
    refine tX ?_;go_wp2_with fail
    obtain⟨q1,q2⟩:=uj (v0:=.int .u8 K) (v1:=.string T2) (v2:=.bool false) (v3:=.int .u64 0) (v4:=.int .u64 0) (v5:=.int .u8 0) fE hb6 (aw _);refine bodyPost_ret (bq rfl rfl rfl (nu q1)) rfl ⟨⟨⟨K,T2,Pf.zero⟩,?_,?_⟩,q2⟩
    ·rw[CZ.out];cases LB with
     |true=>rw[if_pos ⟨h0,rfl⟩];rfl
     |false=>rw[if_neg (by simp)];rfl
    ·intro x hx;rw[CZ.out]at hx;split at hx
     ·injection hx
     ·cases hx
   ·obtain rfl:K=0:=by omega
    go_upto_region 8 with fail
    have b0:=fE.cell 0;have b1:=fE.cell 1;have b2:=fE.cell 2;have b3:=fE.cell 3;have b4:=fE.cell 4;have b5:=fE.cell 5;simp at b0 b1 b2 b3 b4 b5;have z0:=fE.frozen 0;have z1:=fE.frozen 1;have z2:=fE.frozen 2;have z3:=fE.frozen 3;have z4:=fE.frozen 4;have z5:=fE.frozen 5;refine wp_region_held_drew (S:=iL (w.heap.size+1) T1 0) bJ (Zk.out w6.drew (show ek w6.drew (w.heap.size+1) pE 5 from hM)) (fun hHeld=>?_);refine xa 0 ?_ (hy:=by(intro w hSw;unfold iL at hSw;go_simp;try with_reducible rfl));try simp only[dX]
    refine xa 1 ?_ (hy:=by(intro w hSw;unfold iL at hSw;go_simp;try with_reducible rfl));try simp only[dX]
    refine xa 2 ?_ (hy:=by(intro w hSw;unfold iL at hSw;go_simp;try with_reducible rfl));try simp only[dX]
    refine xa 3 ?_ (hy:=by(intro w hSw;unfold iL at hSw;go_simp;try with_reducible rfl));try simp only[dX]
    refine xa 4 ?_ (hy:=by(intro w hSw;unfold iL at hSw;go_simp;try with_reducible rfl));try simp only[dX]
    refine xa 5 ?_ (hy:=by(intro w hSw;unfold iL at hSw;go_simp;try with_reducible rfl));try simp only[dX]
    refine xa 6 ?_ (hy:=by(intro w hSw;unfold iL at hSw;go_simp;try with_reducible rfl));try simp only[dX]
    refine xa 7 ?_ (hy:=by(intro w hSw;unfold iL at hSw;go_simp;try with_reducible rfl));try simp only[dX]
    refine xa 8 ?_ (hy:=by(intro w hSw;unfold iL at hSw;go_simp;try with_reducible rfl));try simp only[dX]
    refine xa 9 ?_ (hy:=by(intro w hSw;unfold iL at hSw;go_simp;try with_reducible rfl));try simp only[dX]
    refine xb 10 ?_
    refine xb 11 ?_
    refine xa 12 ?_ (hy:=by(intro w hSw;unfold iL at hSw;go_simp;try with_reducible rfl));try simp only[dX]
    refine mM 13 fun K hK=>?_;go_simp;refine hK.out _ _ (Zk.out _ (ek.acA hM hgm).drw) (fun hHeld=>?_);clear hK K;try simp only[dX]
    refine xa 14 ?_ (hy:=by(intro w hSw;unfold iL at hSw;go_simp;try with_reducible rfl));try simp only[dX]
    refine tX ?_;go_wp2_with fail
    obtain⟨q1,q2⟩:=uj (v0:=.int .u8 0) (v1:=.string T2) (v2:=.bool false) (v3:=.int .u64 0) (v4:=.int .u64 0) (v5:=.int .u8 0) fE hb6 (aw _);refine bodyPost_ret (bq rfl rfl rfl (nu q1.drew)) rfl ⟨⟨⟨0,T2,Pf.zero⟩,?_,?_⟩,q2.drew⟩
    ·rw[CZ.out,if_neg (by simp)];rfl
    ·intro x hx;rw[CZ.out,if_neg (by simp)]at hx;cases hx
open Go.Sort
theorem Qi{w:World}(env:Env w)(u:Nat)(hu:u<65536):Calls ai 275 #[.int .u64 u,.int .i64 10] w (Got (.string ⟨(dH u).toArray⟩) w):=by
 by_cases hs:u<100
 ·have q1:(u:Int)<100:=by omega
  have HS:=ae fun v=>Tryz.internal_strconv_small u hs v
  have hb0:=Below.refl w.heap.size w;clear hs env;go_enter Tryz.func275,Tryz.ntmps275;go_wp2_with(go_at_call 305;(with_reducible refine(HS.out _).mono ?_);rintro r w2⟨rfl,rfl⟩)
  go_ret;exact⟨rfl,hb0⟩
 ·have q1:¬(u:Int)<100:=by omega
  have hu1:1≤u:=by omega
  have hu64:u<18446744073709551616:=by omega
  have hnd20:Lib.nDigits u≤20:=by have:=Lib.numDigits_eq u hu1 hu64;split at this<;>omega
  have hal:ai.arrayLen 362=24:=by simp[Program.arrayLen,Tryz.underlying362]
  have hsl:∀W,(Instr.sliceAt 362 (.pointer (some ⟨w.heap.size,0,none⟩)) none (some (.int .i64 (Lib.nDigits u:Int))) none).run ai W=.ok (.slice (some ⟨w.heap.size,0,none⟩) (Lib.nDigits u) 24) W:=fun W=>by
   rw[run_sliceAt_array_h W 362 ⟨w.heap.size,0,none⟩ (by simp[Program.arrayLen,Program.elem,Tryz.underlying362]) .i64 (Lib.nDigits u:Int) aY (by rw[hal];omega)];go_simp;try omega
  have hH0:=Lib.holds_zero0 w 362 (Lib.nDigits u) aY;have hfmt:=Tryz.internal_strconv_formatBase10 w.heap.size 0 24 u (Array.replicate (Lib.nDigits u) 0) (w.alloc (.cells Lib.zeros24 362)) hH0 (by rw[Array.size_replicate];exact Lib.lt_pow_nDigits u) hu64 (by rw[Array.size_replicate];omega);rw[Array.size_replicate]at hfmt;rw[show Lib.zeros24= #[.int .u8 0,.int .u8 0,.int .u8 0,.int .u8 0,.int .u8 0,.int .u8 0,.int .u8 0,.int .u8 0,.int .u8 0,.int .u8 0,.int .u8 0,.int .u8 0,.int .u8 0,.int .u8 0,.int .u8 0,.int .u8 0,.int .u8 0,.int .u8 0,.int .u8 0,.int .u8 0,.int .u8 0,.int .u8 0,.int .u8 0,.int .u8 0]from rfl]at hfmt hH0;obtain⟨HH0,HF⟩:=aQ hH0 hfmt;have HN:=ae fun v(hv:Below w.heap.size w v)=>Tryz.internal_strconv_numDigits u hu1 hu64 v (env.below hv).pow
  have hba:=boxed w (.cells #[.int .u8 0,.int .u8 0,.int .u8 0,.int .u8 0,.int .u8 0,.int .u8 0,.int .u8 0,.int .u8 0,.int .u8 0,.int .u8 0,.int .u8 0,.int .u8 0,.int .u8 0,.int .u8 0,.int .u8 0,.int .u8 0,.int .u8 0,.int .u8 0,.int .u8 0,.int .u8 0,.int .u8 0,.int .u8 0,.int .u8 0,.int .u8 0] 362);clear hH0 hal hfmt env hs hu hu1 hu64;go_enter Tryz.func275,Tryz.ntmps275;go_wp2_with(go_at_call 306;(with_reducible refine(HN.out _ hba).mono ?_);rintro r w2⟨rfl,rfl⟩)
  go_at_call 307;refine HF.out.mono ?_;rintro e W⟨rfl,k,v',dk,hW,hF⟩;have hcv:(convert 89 9 (.slice (some ⟨w.heap.size,0,none⟩) (Lib.nDigits u) 24)).run ai W=.ok (.string ⟨(dH u).toArray⟩) W:=by
   have h:=run_convert_bytes_back (P:=ai) W 89 9 5 ⟨w.heap.size,0,none⟩ 24 (dH u) Tryz.underlying89 Tryz.underlying5 bL (fun j hj=>by
    rw[hW,Lib.row_is_numeral hF j hj,Lib.add_plain,World.cell?_drewN];exact cell?_putRow (fun(b:UInt8)=>Value.int .u8 (b.toNat:Int)) _ w.heap.size 0 _ dk HH0.out (by rw[hF.size,Array.size_replicate]) j (by rw[hF.size];rw[Lib.decDigits_length]at hj;exact hj))
   rw[Lib.decDigits_length]at h;exact h
  have hbW:Below w.heap.size w W:=by
   rw[hW];obtain⟨os,eo⟩:=Lib.fin_at w (.cells #[.int .u8 0,.int .u8 0,.int .u8 0,.int .u8 0,.int .u8 0,.int .u8 0,.int .u8 0,.int .u8 0,.int .u8 0,.int .u8 0,.int .u8 0,.int .u8 0,.int .u8 0,.int .u8 0,.int .u8 0,.int .u8 0,.int .u8 0,.int .u8 0,.int .u8 0,.int .u8 0,.int .u8 0,.int .u8 0,.int .u8 0,.int .u8 0] 362) dk k 0;rw[eo];exact Lib.below_grow _ _ (aw _) _ _
  clear hW hF;go_wp2_with fail
  go_ret;exact⟨rfl,hbW⟩
theorem fmt10{w:World}(env:Env w)(u:Nat)(hu:u<65536):Calls ai 240 #[.int .u64 u,.int .i64 10] w (Got (.string ⟨(dH u).toArray⟩) w):=by
 have H:=ae (Qi env u hu);clear env;go_enter Tryz.func240,Tryz.ntmps240;go_wp2_with(go_at_call 275;(with_reducible refine H.out.mono ?_);rintro r w2⟨rfl,d2⟩)
 go_ret;exact⟨rfl,d2⟩
theorem V4{w:World}(env:Env w)(t:ByteArray)(hs:t.size≤4000000):Calls ai 314 #[.string t,.int .i64 10,.int .i64 16] w (yp 10 65536 t.data.toList w):=by
 have hn:=FQ (B:=16) aI t.data.toList;rcases h:Lib.parseUintB 16 t.data.toList with u|_|_
 ·rw[h]at hn;refine(Tryz.strconv_ParseUint_10_at16_ok t aY u h w).mono ?_;rintro e w'⟨rfl,hw⟩;refine⟨Or.inl ⟨u,hn,rfl⟩,?_⟩;rcases hw with rfl|rfl
  ·exact Below.refl _ _
  ·exact Lib.bytesWorld_below _ _ _
 ·rw[h]at hn;obtain⟨tp,p,hv⟩:=env.es;refine(Any.strconv_ParseUint_10_at16_syntax Tryz.laysPu14 t aY h (.iface tp p) w hv (Or.inr ⟨tp,p,rfl⟩)).mono ?_;rintro e w'⟨N,rfl,_,_,hb⟩;exact⟨Or.inr ⟨hn,0,_,_,by decide,rfl⟩,hb⟩
 ·rw[h]at hn;obtain⟨tp,p,hv⟩:=env.er;refine(Tryz.strconv_ParseUint_10_at16_range t aY h (.iface tp p) w hv (Or.inr ⟨tp,p,rfl⟩)).mono ?_;rintro e w'⟨N,rfl,_,_,hb⟩;exact⟨Or.inr ⟨hn,65535,_,_,by decide,rfl⟩,hb⟩
def V5(o:Option Nat)(w:World)(r:Ending)(w':World):Prop:=(∃n:Nat,n<65536∧r=.returned (.tuple #[.int .u16 n,.bool o.isSome])∧∀x,o=some x→n=x)∧Below w.heap.size w w'
theorem C0{w:World}(env:Env w)(s:ByteArray)(hs:s.size≤4000000):Calls ai 317 #[.string s] w (V5 (sJ s.data.toList) w):=by
 have hpu:=V4 env s hs;have hfm:=fun v(hv:Below w.heap.size w v)u hu=>fmt10 (env.below hv) u hu
 obtain⟨HPU,HFM⟩:=aQ hpu hfm;obtain⟨R,hR⟩:∃r,r=sJ s.data.toList:=⟨_,rfl⟩;rw[←hR];have HR:=ae hR;clear hpu hfm env hR hs;go_enter Tryz.func317,Tryz.ntmps317;go_wp2_with fail
 go_at_call 314;refine HPU.out.mono ?_;rintro e w1⟨⟨n,hn,rfl⟩|⟨hn,n,tp,p,aaj,rfl⟩,hb⟩
 ·have hlt:=lX hn;have hres:R=if dH n=s.data.toList then some n else none:=by
   rw[HR.out];unfold sJ;rw[hn];rfl
  have hss:((⟨(dH n).toArray⟩:ByteArray).toList==s.toList)=decide (dH n=s.data.toList):=by
   rw[cM,cM];by_cases e:dH n=s.data.toList
   ·rw[decide_eq_true e];simp[e]
   ·rw[decide_eq_false e,beq_eq_false_iff_ne];exact e
  obtain⟨HF,C9⟩:=aQ (HFM.out w1 hb n hlt) hres;obtain⟨D,hD⟩:∃d,d=decide (dH n=s.data.toList):=⟨_,rfl⟩;rw[←hD]at hss;have HD:=ae hD;have i1:IntKind.u16.wrap (n:Int)=(n:Int):=by rw[IntKind.wrap_u16];omega
  generalize(⟨(dH n).toArray⟩:ByteArray)=TT at hss HF;have Hb:=ae hb;clear hn hres hD hb HR HPU HFM;go_wp2_with(go_at_call 240;(with_reducible refine HF.out.mono ?_);rintro r w2⟨rfl,d2⟩)
  go_ret2;refine⟨⟨n,hlt,?_,fun x hx=>?_⟩,after Hb.out d2⟩
  ·rw[C9.out,HD.out];by_cases e:dH n=s.data.toList
   ·rw[if_pos e,decide_eq_true e];rfl
   ·rw[if_neg e,decide_eq_false e];rfl
  ·rw[C9.out]at hx;split at hx
   ·injection hx
   ·cases hx
 ·have hres:R=none:=by
   rw[HR.out];unfold sJ;rw[hn];rfl
  obtain⟨C9,Hb⟩:=aQ hres hb;obtain⟨M,hM⟩:∃M:Nat,IntKind.u16.wrap (n:Int)=(M:Int)∧M<65536:=⟨n%65536,by rw[IntKind.wrap_u16];omega,by omega⟩;have i1:=hM.1;clear hn hres hb HR HPU HFM;go_wp2_with fail
  go_ret2;refine⟨⟨M,hM.2,?_,fun x hx=>?_⟩,Hb.out⟩
  ·rw[C9.out];rfl
  ·rw[C9.out]at hx;cases hx
end Go.Proofs.YtdfnhljccdoncaaGreatDoor
