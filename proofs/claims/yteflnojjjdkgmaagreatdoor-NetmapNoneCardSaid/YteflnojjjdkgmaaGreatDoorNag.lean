/- Joined out of: RdB PtA PtB PlH PlI. -/
import Derived.Test.YteflnojjjdkgmaaGreatDoorNaf
set_option linter.unusedVariables false
set_option linter.unusedSimpArgs false
set_option maxHeartbeats 16000000
set_option maxRecDepth 100000
open ByteArray renaming empty→iy,size→afe,ext→afl
open Go.ByteArray renaming toList_eq→bO
open Go.Lib renaming hid→ae,decDigits→b7
open Go.Proofs.Tryz renaming prog→ag,underlying9→aZ
open Go.RowKit renaming Hid→af
open List renaming getElem?_eq_getElem→ah,getD_eq_getElem?_getD→ay
open Nat renaming le_refl→aw
namespace Go.Proofs.YteflnojjjdkgmaaGreatDoor
open Go.RowKit
theorem kU{a b:ByteArray}(h:a=b):(a.toList==b.toList)=true:=by rw[h];simp
theorem kV{a b:ByteArray}(h:a≠b):(a.toList==b.toList)=false:=by
 rw[beq_eq_false_iff_ne];intro e;apply h;apply afl;rw[bO,bO]at e;exact Array.ext' e
theorem Pv{w:World}(env:Env w)(s:ByteArray)(hs:s.size≤2000000):Calls ag 292 #[.string s] w (Got (Yt (sf s.data.toList)) w):=by
 obtain⟨RL,hRL⟩:∃r,r=sf s.data.toList:=⟨_,rfl⟩;rw[←hRL];have hB0:=(aD.new w 54 #[.bool false,.int .u64 0,.int .u64 0]).alloc (.cells #[.bool false,.int .u64 0,.int .u64 0] 54);have hD0:aD ((w.alloc (.cells #[.bool false,.int .u64 0,.int .u64 0] 54)).alloc (.cells #[.bool false,.int .u64 0,.int .u64 0] 54)) (w.heap.size+1) 54 #[.bool false,.int .u64 0,.int .u64 0]:=by
  have h:=aD.new (w.alloc (.cells #[.bool false,.int .u64 0,.int .u64 0] 54)) 54 #[.bool false,.int .u64 0,.int .u64 0];simpa using h
 have hb0:=eA w (.cells #[.bool false,.int .u64 0,.int .u64 0] 54) (.cells #[.bool false,.int .u64 0,.int .u64 0] 54);have j8:=ae (abA (env.below hb0) s hs 46);unfold sf uu at hRL;have hrd:∀l,cV 46 10 256 s.data.toList=some l→l.length=4→(RL=if fS ⟨false,0,fC l⟩=s.data.toList then some ⟨false,0,fC l⟩else none):=fun l h1 h2=>by rw[hRL,h1];simp only;rw[if_pos h2];rfl
 have Zs:((cV 46 10 256 s.data.toList=none)∨(∃l,cV 46 10 256 s.data.toList=some l∧l.length≠4))→RL=(rh s.data.toList).bind fun a=>if fS a=s.data.toList then some a else none:=fun h=>by
  rcases h with h|⟨l,h,hl⟩
  ·rw[hRL,h]
  ·rw[hRL,h];simp only;rw[if_neg hl]
 have hnl:∀l,cV 46 10 256 s.data.toList=some l→(∀x∈l,x<256)∧l.length≤9:=fun l h=>gC h
 clear hRL;generalize Yu:cV 46 10 256 s.data.toList=O1 at j8 hrd Zs hnl;clear Yu;obtain⟨HB0,HD0,Hb0,mM,Hrd,adG,Hnl⟩:=mS hB0 hD0 hb0 env hrd Zs hnl;clear hB0 hD0 hb0 env hrd Zs hnl;generalize hW0:(w.alloc (.cells #[.bool false,.int .u64 0,.int .u64 0] 54)).alloc (.cells #[.bool false,.int .u64 0,.int .u64 0] 54)=W0 at j8 HB0 HD0 Hb0;have HW0:=ae hW0;clear hW0;go_enter Tryz.func292,Tryz.ntmps292;go_wp2_with fail
 rw[HW0.out];go_at_call 316;refine j8.out.mono ?_;intro r w1 hg1;obtain⟨v1,L1,rfl,ho1,hL1,hb1⟩:=hg1.any;obtain⟨Ho1,Et,HB1,HD1⟩:=cH ho1 hL1 (HB0.out.below hb1 HB0.out.lt) (HD0.out.below hb1 HD0.out.lt);have Hb1:=aU Hb0 hb1;have hsz0:w.heap.size+1<W0.heap.size:=HD0.out.lt;have hsz1:w.heap.size+1<w1.heap.size:=HD1.out.lt;clear hg1 ho1 hL1 hb1;obtain⟨A1,cap1,rfl⟩:=aQ Ho1.out;by_cases h4:O1.isSome=true∧L1.length=4
 ·obtain⟨his,hlen⟩:=h4;have Yu:O1=some L1:=by rcases Et.out with h|⟨h,_⟩;exact h;rw[h]at his;cases his
  have hrl:=Hrd.out L1 Yu hlen;have hlx:=(Hnl.out L1 Yu).1;obtain⟨Hrl,Hlx⟩:=aI hrl hlx;rw[his];have pO:=Ho1.out;rw[hlen]at pO⊢;obtain⟨g,cap,hv⟩:=BK pO;rw[hv];rw[hv]at pO;have hg:=pO.lt g rfl;have hcell:∀j,j<4→w1.cell? ⟨g,j,none⟩=some (.int .u64 (L1.getD j 0:Int)):=by
   intro j hj;rw[pO.cellAt (g:=g) j aM];unfold ew;have hjl:j<L1.length:=by omega
   rw[List.getElem?_map,ah hjl,ay,ah hjl];rfl
  obtain⟨mF,Hlen⟩:=aI hcell hlen;clear hcell hrl hlx Yu his pO hv hlen;go_wp2_with fail
  go_loopw [30] (fun v30 wr=>∃k:Nat,k≤4∧v30=.int .i64 k∧af (aD wr (w.heap.size+1) 54 #[.bool false,.int .u64 0,.int .u64 (fC (L1.take k):Int)])∧af (aD wr w.heap.size 54 #[.bool false,.int .u64 0,.int .u64 0])∧af (∀j,j<4→wr.cell? ⟨g,j,none⟩=some (.int .u64 (L1.getD j 0:Int)))∧af (Below w.heap.size w wr)) (fun v30 _=>4-(intOf v30).toNat)
  case atStart=>exact⟨0,by omega,rfl,HD1,HB1,mF,Hb1⟩
  case round=>
   obtain⟨k,hk,rfl,hD,hB,hr,hb⟩:=hrel;by_cases hlt:k<4
   ·have hkl:k<L1.length:=by have:=Hlen.out;omega
    have cx:=hr.out k hlt;have hX:L1.getD k 0<256:=by
     rw[ay,ah hkl];exact Hlx.out _ (List.getElem_mem hkl)
    have hs:fC (L1.take (k+1))=fC (L1.take k)*256+L1.getD k 0:=by
     rw[List.take_succ_eq_append_getElem hkl,FG,ay,ah hkl];rfl
    have hbd:fC (L1.take k)<4294967296:=sE (lM Hlx.out) (by rw[List.length_take];omega);have a2:=hD.out.cell 2;have fr:=fun i=>hD.out.frozen i
    simp at a2;have hr':=fun(u:Value)j(hj:j<4)=>(cell_far (w:=wr) (a:=⟨w.heap.size+1,2,none⟩) (c:=⟨g,j,none⟩) (u:=u) (by show w.heap.size+1≠g;omega)).trans (hr.out j hj)
    obtain⟨Hr',Hs⟩:=aI hr' hs;generalize L1.getD k 0=X at cx hX Hs;obtain⟨H0,hH0⟩:∃n,n=fC (L1.take k):=⟨_,rfl⟩;rw[←hH0]at a2 hbd;have HH0:=ae hH0;have ho:=adF (h:=H0) (x:=X) aM hX;have hw:IntKind.u64.wrap ((H0:Int)*256)=(H0:Int)*256:=by rw[IntKind.wrap_u64];omega
    clear hr' hs hH0;go_wp2_with fail
    go_roundw
    case rel=>
     have hset:=hD.out.aN 2 (.int .u64 ((H0*256+X:Nat):Int));exact⟨k+1,by omega,by go_num,ae (by rw[Hs.out,←HH0.out];exact hset),ae (hB.out.far (p:=⟨w.heap.size+1,2,none⟩) (by simp) _),ae (Hr'.out _),ae (hb.out.setCell (p:=⟨w.heap.size+1,2,none⟩) (by simp) _)⟩
    case measure=>simp[intOf];omega
   ·obtain rfl:k=4:=by omega
    have htk:L1.take 4=L1:=List.take_of_length_le (by have:=Hlen.out;omega);have hDD:=hD.out;rw[htk]at hDD;have hok:(Ad.mk false 0 (fC L1)).Ok:=⟨by show(0:Nat)<_;omega,by show fC L1<_;have:=sE Hlx.out (by have:=Hlen.out;omega);omega⟩;have HDD:=ae hDD;have htx:=qe (mM.out.below hb.out) ⟨false,0,fC L1⟩ hok;have hcmp:RL=if fU ⟨false,0,fC L1⟩=s then some ⟨false,0,fC L1⟩else none:=by
     rw[Hrl.out];by_cases h:fU ⟨false,0,fC L1⟩=s
     ·rw[if_pos h,if_pos (nW.1 h)]
     ·rw[if_neg h,if_neg (fun e=>h (nW.2 e))]
    generalize fC L1=LO at HDD htx hcmp;have hcells:Ad.cells ⟨false,0,LO⟩= #[.bool false,.int .u64 0,.int .u64 LO]:=rfl;generalize(Ad.mk false 0 LO)=AD at htx hcmp hcells;rw[hcells]at htx;have Zt:=ae htx;clear htx;obtain⟨TB,hTB⟩:∃t,t=fU AD:=⟨_,rfl⟩;rw[←hTB]at Zt hcmp;have pu:=ae hcells;clear hTB hcells;obtain⟨a0,a1,a2⟩:=iE HDD;by_cases hts:TB=s
    ·have hq:=kU hts;rw[if_pos hts]at hcmp;have Px:=ae hcmp;clear hts hcmp;go_wp2_with(go_at_call 171;(with_reducible refine Zt.out.mono ?_);rintro r w7⟨rfl,g7⟩;have hb7:=aU hb g7;have iV:=hB.out.below g7 hB.out.lt;have hD7:=HDD.out.below g7 HDD.out.lt;clear a0 a1 a2;have a0:=hD7.cell 0;have a1:=hD7.cell 1;have a2:=hD7.cell 2;simp at a0 a1 a2;have c0:=iV.cell 0;have c1:=iV.cell 1;have c2:=iV.cell 2;simp at c0 c1 c2;have fr:=(fun i=>iV.frozen i);have tK:=ae iV;clear iV hD7 g7)
     rw[Px.out];show bodyPost _ _ (Got (.tuple #[.agg AD.cells,.int .i64 0]) w) _ _ _;rw[pu.out];exact lQ (g:=w.heap.size) (x:=2) (y:=3) rfl tK.out hb7.out (aw _) rfl rfl rfl
    ·have hq:=kV hts;rw[if_neg hts]at hcmp;have Px:=ae hcmp;clear hts hcmp;go_wp2_with(go_at_call 171;(with_reducible refine Zt.out.mono ?_);rintro r w7⟨rfl,g7⟩;have hb7:=aU hb g7;have iV:=hB.out.below g7 hB.out.lt;have hD7:=HDD.out.below g7 HDD.out.lt;clear a0 a1 a2;have a0:=hD7.cell 0;have a1:=hD7.cell 1;have a2:=hD7.cell 2;simp at a0 a1 a2;have c0:=iV.cell 0;have c1:=iV.cell 1;have c2:=iV.cell 2;simp at c0 c1 c2;have fr:=(fun i=>iV.frozen i);have tK:=ae iV;clear iV hD7 g7)
     rw[Px.out];exact lQ (g:=w.heap.size) (x:=2) (y:=3) rfl tK.out hb7.out (aw _) rfl rfl rfl
 ·have hin:O1.isSome=false∨(O1.isSome=true∧((L1.length:Int)==4)=false):=by
   cases h:O1.isSome with
   |false=>exact Or.inl rfl
   |true=>exact Or.inr ⟨rfl,by rw[h]at h4;simp at h4;simp;omega⟩
  have hrl:=adG.out (by
   rcases Et.out with h|⟨h,_⟩
   ·exact Or.inr ⟨L1,h,fun e=>h4 ⟨by rw[h];rfl,e⟩⟩
   ·exact Or.inl h)
  have hcl:=tJ s.data.toList [58,58];obtain⟨m,hm⟩:=(mM.out.below Hb1.out).mx;have hcut:=Tryz.strings_Cut s ⟨#[58,58]⟩ m w1 aM hm;unfold rh at hrl;rw[show(⟨#[58,58]⟩:ByteArray).data.toList=[58,58]from rfl]at hcut;generalize Lib.cut s.data.toList [58,58]=C at hcl hcut hrl;obtain⟨c1,c2,gap⟩:=C;simp only at hcl hcut hrl;have hsl:s.data.toList.length=s.size:=(Lib.size_eq s).symm;rw[hsl]at hcl;obtain⟨Hcl,wX,Hrl⟩:=bj hcl hcut hrl;clear h4 hm hcut hrl hsl hcl;have hz1:(⟨c1.toArray⟩:ByteArray).size≤2000000:=by have:=Hcl.out.1;rw[show(⟨c1.toArray⟩:ByteArray).size=c1.length by simp[afe]];omega
  have hz2:(⟨c2.toArray⟩:ByteArray).size≤2000000:=by have:=Hcl.out.2;rw[show(⟨c2.toArray⟩:ByteArray).size=c2.length by simp[afe]];omega
  obtain⟨HNX,HNY⟩:=aI (fun v hv=>Pq (v:=v) ((mM.out.below Hb1.out).below hv) ⟨c1.toArray⟩ hz1 58) (fun v hv=>Pq (v:=v) ((mM.out.below Hb1.out).below hv) ⟨c2.toArray⟩ hz2 58);rw[show(⟨c1.toArray⟩:ByteArray).data.toList=c1 by simp]at HNX;rw[show(⟨c2.toArray⟩:ByteArray).data.toList=c2 by simp]at HNY;have hx2:∀L,cV 58 16 65536 c1=some L→(∀x∈L,x<65536)∧L.length≤9:=fun L h=>gC h
  have hx3:∀L,cV 58 16 65536 c2=some L→(∀x∈L,x<65536)∧L.length≤9:=fun L h=>gC h
  generalize cV 58 16 65536 c1=O2 at HNX hx2 Hrl;generalize cV 58 16 65536 c2=O3 at HNY hx3 Hrl;obtain⟨T1,hT1⟩:∃t,t=(⟨c1.toArray⟩:ByteArray):=⟨_,rfl⟩;obtain⟨T2,hT2⟩:∃t,t=(⟨c2.toArray⟩:ByteArray):=⟨_,rfl⟩;rw[←hT1]at HNX;rw[←hT2]at HNY;rw[←hT1,←hT2]at wX;obtain⟨Hx2,Hx3⟩:=aI hx2 hx3;clear hx2 hx3 hT1 hT2 hz1 hz2;obtain⟨I1,hI1⟩:∃b,b=O1.isSome:=⟨_,rfl⟩;rw[←hI1]at hin⊢;clear hI1;rcases hin with rfl|⟨rfl,hq4⟩
  all_goals
   go_wp2_with(go_at_call 291;(with_reducible refine wX.out.mono ?_);rintro r w2⟨rfl,n2,rfl⟩)
   go_at_call 316;refine(HNX.out _ (below_drewN _ _)).mono ?_;intro r w3 hg3;obtain⟨v2,L2,rfl,ho2,hL2,hb3⟩:=hg3.any;have hbn:Below w1.heap.size w1 w3:=after (below_drewN w1 n2) hb3;obtain⟨Hbn,Ho2,HL2⟩:=bj hbn ho2 hL2;clear hg3 ho2 hL2 hb3 hbn;go_wp2_with fail
   go_at_call 316;refine(HNY.out _ Hbn.out).mono ?_;intro r w4 hg4;obtain⟨v3,L3,rfl,ho3,hL3,hb4⟩:=hg4.any;obtain⟨Va,HL3,adH⟩:=bj ho3 hL3 (own_below Ho2.out hb4);have Hbm:=aU Hbn hb4;clear hg4 ho3 hL3 hb4;have h2:(∀x∈L2,x<65536)∧L2.length≤9:=by
    rcases HL2.out with h|⟨_,h⟩
    ·exact Hx2.out L2 h
    ·rw[h];simp
   have h3:(∀x∈L3,x<65536)∧L3.length≤9:=by
    rcases HL3.out with h|⟨_,h⟩
    ·exact Hx3.out L3 h
    ·rw[h];simp
   have hwh:=KW L2 L3 gap adH.out Va.out h2.2 h3.2 h2.1 h3.1;have Vm:∀a,lL L2 L3 gap=some a→a.Ok∧a.v6=true:=fun a h=>xK h h2.1 h3.1
   have hrl:RL=if O2.isSome=true∧O3.isSome=true then(lL L2 L3 gap).bind (fun a=>if fS a=s.data.toList then some a else none)else none:=by
    rw[Hrl.out];rcases HL2.out with h|⟨h,_⟩
    ·rcases HL3.out with h'|⟨h',_⟩
     ·rw[h,h'];rfl
     ·rw[h,h'];rfl
    ·rw[h];rfl
   generalize lL L2 L3 gap=WO at hwh Vm hrl;have HB4:=HB1.out.below Hbm.out HB1.out.lt;have HD4:=HD1.out.below Hbm.out HD1.out.lt;have Hb4:=after Hb1.out Hbm.out;generalize O2.isSome=i2 at hrl⊢;generalize O3.isSome=i3 at hrl⊢;cases WO with
   |none=>
    have hrn:RL=none:=by rw[hrl];split<;>rfl
    obtain⟨HWH,Vn,Py,Pz,Zu⟩:=dR (show Calls _ _ _ w4 (Got (.tuple #[.agg #[.bool false,.int .u64 0,.int .u64 0],.bool false]) w4)from hwh) hrn HB4 HD4 Hb4;clear hrn hrl hwh Vm h2 h3 HB4 HD4 Hb4;go_upto_region 14 with(go_at_call 317;(with_reducible refine HWH.out.mono ?_);rintro r w5⟨rfl,g5⟩;have PD:=Py.out.below g5 Py.out.lt;have hD5:=Pz.out.below g5 Pz.out.lt;have hb5:=after Zu.out g5;have d0:=hD5.cell 0;have d1:=hD5.cell 1;have d2:=hD5.cell 2;simp at d0 d1 d2;have fr:=(fun i=>hD5.frozen i))
    obtain⟨hD6,hb6⟩:=three (v0:=.bool false) (v1:=.int .u64 0) (v2:=.int .u64 0) hD5 hb5 aM;have fu:aD (((w5.setCell ⟨w.heap.size+1,0,none⟩ (.bool false)).setCell ⟨w.heap.size+1,1,none⟩ (.int .u64 0)).setCell ⟨w.heap.size+1,2,none⟩ (.int .u64 0)) w.heap.size 54 #[.bool false,.int .u64 0,.int .u64 0]:=((PD.far (p:=⟨w.heap.size+1,0,none⟩) (by simp) _).far (p:=⟨w.heap.size+1,1,none⟩) (by simp) _).far (p:=⟨w.heap.size+1,2,none⟩) (by simp) _;generalize(((w5.setCell ⟨w.heap.size+1,0,none⟩ (.bool false)).setCell ⟨w.heap.size+1,1,none⟩ (.int .u64 0)).setCell ⟨w.heap.size+1,2,none⟩ (.int .u64 0))=w6 at hD6 hb6 fu⊢;clear d0 d1 d2 fr PD hD5 hb5 g5;have c0:=fu.cell 0;have c1:=fu.cell 1;have c2:=fu.cell 2;simp at c0 c1 c2;have fr:=fun i=>fu.frozen i
    obtain⟨jH,HD6,za⟩:=bj fu hD6 hb6;clear fu hD6 hb6;cases i2
    all_goals cases i3
    all_goals
     go_wp2_with fail
     rw[Vn.out];exact lQ (g:=w.heap.size) (x:=2) (y:=3) rfl jH.out za.out (aw _) rfl rfl rfl
   |some a=>
    obtain⟨hok,h6⟩:=Vm a rfl;have htx:=fun v(hv:Below w.heap.size w v)=>qe (mM.out.below hv) a hok
    have hcells:a.cells= #[.bool a.v6,.int .u64 (a.hi:Int),.int .u64 (a.lo:Int)]:=rfl;have hcmp:i2=true→i3=true→RL=if fU a=s then some a else none:=fun e1 e2=>by
     rw[hrl,if_pos ⟨e1,e2⟩];show(if fS a=s.data.toList then some a else none)=_;by_cases h:fU a=s
     ·rw[if_pos h,if_pos (nW.1 h)]
     ·rw[if_neg h,if_neg (fun e=>h (nW.2 e))]
    have hrn:¬(i2=true∧i3=true)→RL=none:=fun h=>by rw[hrl,if_neg h]
    have Le:Calls _ _ _ w4 (Got (.tuple #[.agg a.cells,.bool true]) w4):=hwh;rw[hcells]at Le htx;obtain⟨TB,hTB⟩:∃t,t=fU a:=⟨_,rfl⟩;rw[←hTB]at htx hcmp;generalize a.v6=av at htx Le hcells;generalize a.hi=Eu at htx Le hcells;generalize a.lo=Ez at htx Le hcells;obtain⟨Zt,HWH,pu,Px,Vn,Py,Pz,Zu⟩:=Y7 htx Le hcells hcmp hrn HB4 HD4 Hb4;clear hrn hrl hwh Vm h2 h3 HB4 HD4 Hb4 htx Le hcells hcmp hTB hok h6;go_upto_region 14 with(go_at_call 317;(with_reducible refine HWH.out.mono ?_);rintro r w5⟨rfl,g5⟩;have PD:=Py.out.below g5 Py.out.lt;have hD5:=Pz.out.below g5 Pz.out.lt;have hb5:=after Zu.out g5;have d0:=hD5.cell 0;have d1:=hD5.cell 1;have d2:=hD5.cell 2;simp at d0 d1 d2;have fr:=(fun i=>hD5.frozen i))
    obtain⟨hD6,hb6⟩:=three (v0:=.bool av) (v1:=.int .u64 Eu) (v2:=.int .u64 Ez) hD5 hb5 aM;have fu:aD (((w5.setCell ⟨w.heap.size+1,0,none⟩ (.bool av)).setCell ⟨w.heap.size+1,1,none⟩ (.int .u64 Eu)).setCell ⟨w.heap.size+1,2,none⟩ (.int .u64 Ez)) w.heap.size 54 #[.bool false,.int .u64 0,.int .u64 0]:=((PD.far (p:=⟨w.heap.size+1,0,none⟩) (by simp) _).far (p:=⟨w.heap.size+1,1,none⟩) (by simp) _).far (p:=⟨w.heap.size+1,2,none⟩) (by simp) _;generalize(((w5.setCell ⟨w.heap.size+1,0,none⟩ (.bool av)).setCell ⟨w.heap.size+1,1,none⟩ (.int .u64 Eu)).setCell ⟨w.heap.size+1,2,none⟩ (.int .u64 Ez))=w6 at hD6 hb6 fu⊢;clear d0 d1 d2 fr PD hD5 hb5 g5;have c0:=fu.cell 0;have c1:=fu.cell 1;have c2:=fu.cell 2;simp at c0 c1 c2;have fr:=fun i=>fu.frozen i
    obtain⟨jH,HD6,za⟩:=bj fu hD6 hb6;clear fu hD6 hb6;cases i2
    all_goals cases i3
    case true.true=>
     have hcmp:=Px.out rfl rfl;obtain⟨a0,a1,a2⟩:=iE HD6;have abB:=ae (Zt.out w6 za.out);by_cases hts:TB=s
     ·have hq:=kU hts;rw[if_pos hts]at hcmp;have PG:=ae hcmp;clear hts hcmp c0 c1 c2 fr;go_wp2_with(go_at_call 171;(with_reducible refine abB.out.mono ?_);rintro r w7⟨rfl,g7⟩;have hb7:=aU za g7;have iV:=jH.out.below g7 jH.out.lt;have hD7:=HD6.out.below g7 HD6.out.lt;clear a0 a1 a2;have a0:=hD7.cell 0;have a1:=hD7.cell 1;have a2:=hD7.cell 2;simp at a0 a1 a2;have c0:=iV.cell 0;have c1:=iV.cell 1;have c2:=iV.cell 2;simp at c0 c1 c2;have fr:=(fun i=>iV.frozen i);have tK:=ae iV;clear iV hD7 g7)
      rw[PG.out];show bodyPost _ _ (Got (.tuple #[.agg a.cells,.int .i64 0]) w) _ _ _;rw[pu.out];exact lQ (g:=w.heap.size) (x:=2) (y:=3) rfl tK.out hb7.out (aw _) rfl rfl rfl
     ·have hq:=kV hts;rw[if_neg hts]at hcmp;have PG:=ae hcmp;clear hts hcmp c0 c1 c2 fr;go_wp2_with(go_at_call 171;(with_reducible refine abB.out.mono ?_);rintro r w7⟨rfl,g7⟩;have hb7:=aU za g7;have iV:=jH.out.below g7 jH.out.lt;have hD7:=HD6.out.below g7 HD6.out.lt;clear a0 a1 a2;have a0:=hD7.cell 0;have a1:=hD7.cell 1;have a2:=hD7.cell 2;simp at a0 a1 a2;have c0:=iV.cell 0;have c1:=iV.cell 1;have c2:=iV.cell 2;simp at c0 c1 c2;have fr:=(fun i=>iV.frozen i);have tK:=ae iV;clear iV hD7 g7)
      rw[PG.out];exact lQ (g:=w.heap.size) (x:=2) (y:=3) rfl tK.out hb7.out (aw _) rfl rfl rfl
    all_goals
     have hrn:=Vn.out aF;have adI:=ae hrn;clear hrn;go_wp2_with fail
     rw[adI.out];exact lQ (g:=w.heap.size) (x:=2) (y:=3) rfl jH.out za.out (aw _) rfl rfl rfl
attribute [local go_sem↓] Go.wp_at_zero Go.wp_at_succ
def ia(p:Pf):ByteArray:=⟨(oN p).toArray⟩
theorem FH{p:Pf}{s:ByteArray}:ia p=s↔oN p=s.data.toList:=by
 constructor
 ·intro h;rw[←h];unfold ia;simp
 ·intro h;unfold ia;rw[h]
theorem FI(a:Ad):(fU a).size≤60:=by
 have:=Kx a;simpa[fU,afe]using this
theorem uK{w:World}(env:Env w)(p:Pf)(ok:p.Ok):Calls ag 294 #[.agg p.cells] w (Got (.string (ia p)) w):=by
 have hm:=wV p ok;have htx:=fun v(hv:Below w.heap.size w v)=>qe (env.below hv) p.a ok.a
 have hit:=fun v(hv:Below w.heap.size w v)=>BZ (env.below hv) p.bits (by have:=ok.bits;omega)
 have htl:=FI p.a;have hn:=ok.bits;have hdl:(⟨(b7 p.bits).toArray⟩:ByteArray).size≤3:=by
  have:=uk p.bits aM;simpa[afe]using this
 have hp0:pS p=false→ia p=⟨#[]⟩:=fun h=>by unfold ia oN;rw[if_neg (by rw[h];decide)]
 have hp1:pS p=true→ia p=fU p.a++⟨#[47]⟩++⟨(b7 p.bits).toArray⟩:=fun h=>by
  unfold ia oN fU;rw[if_pos h];apply afl;simp
 generalize ia p=PB at hp0 hp1⊢;generalize pS p=M at hm hp0 hp1;obtain⟨⟨v,x,l⟩,n⟩:=p;unfold Pf.cells at*;unfold Ad.cells at htx;simp only at hm htx hit hn hdl hp1⊢;generalize(⟨(b7 n).toArray⟩:ByteArray)=D at hit hdl hp1;generalize fU ⟨v,x,l⟩=TB at htx hp1 htl;obtain⟨Hm,Zt,HIT,Hp0,Hp1⟩:=dR hm htx hit hp0 hp1;have hB0:=aD.new w 243 #[.bool v,.int .u64 x,.int .u64 l,.int .u8 n];have hb0:=boxed w (.cells #[.bool v,.int .u64 x,.int .u64 l,.int .u8 n] 243);clear hm htx hit hp0 hp1 env ok;cases M with
 |false=>
  rw[Hp0.out rfl];go_enter Tryz.func294,Tryz.ntmps294;go_wp2_with(go_at_call 320;(with_reducible refine(Hm.out _).mono ?_);rintro r w1⟨rfl,g1⟩;have hb1:=after hb0 g1)
  go_ret;exact⟨rfl,hb1⟩
 |true=>
  have z1:¬9223372036854775807<TB.size+1:=by omega
  have z2:¬9223372036854775807<TB.size+1+D.size:=by omega
  have hwr:IntKind.i64.wrap (n:Int)=(n:Int):=by rw[IntKind.wrap_i64];omega
  go_enter Tryz.func294,Tryz.ntmps294;go_wp2_with(go_at_call 320;(with_reducible refine(Hm.out _).mono ?_);rintro r w1⟨rfl,g1⟩;have hb1:=after hb0 g1;have hB1:=hB0.below g1 hB0.lt;clear g1)
  have ht:=hB1.drew;have hv:=hb1.drew;have b0:=ht.cell 0;have b1:=ht.cell 1;have b2:=ht.cell 2;have b3:=ht.cell 3;simp at b0 b1 b2 b3;go_region_held3 (fun w'=>w'.cell? ⟨w.heap.size,0,none⟩=some (.bool v)∧w'.cell? ⟨w.heap.size,1,none⟩=some (.int .u64 x)∧w'.cell? ⟨w.heap.size,2,none⟩=some (.int .u64 l)∧w'.cell? ⟨w.heap.size,3,none⟩=some (.int .u8 n))
   (exact⟨b0,b1,b2,b3⟩)
   (first
     |(go_at_call 171;(with_reducible refine(Zt.out _ hv).mono ?_);rintro r wq⟨rfl,gq⟩;have hv:=after hv gq;have ht:=ht.below gq ht.lt;clear gq;have b0:=ht.cell 0;have b1:=ht.cell 1;have b2:=ht.cell 2;have b3:=ht.cell 3;simp at b0 b1 b2 b3)
     |(go_at_call 213;(with_reducible refine(HIT.out _ hv).mono ?_);rintro r wq⟨rfl,gq⟩;have hv:=after hv gq;have ht:=ht.below gq ht.lt;clear gq;have b0:=ht.cell 0;have b1:=ht.cell 1;have b2:=ht.cell 2;have b3:=ht.cell 3;simp at b0 b1 b2 b3))
  all_goals go_wp2_with fail
  all_goals
   go_ret;exact⟨show Ending.returned (.string (TB++⟨#[47]⟩++D))=_ by rw[Hp1.out (by simp)],hv⟩
theorem Vo{w:World}{g:Nat}{v0 v1 v2 v3:Value}(h:aD w g 243 #[v0,v1,v2,v3]):(loadVar 243 ⟨g,0,none⟩).run ag w=.ok (.agg #[v0,v1,v2,v3]) w:=by
 have c0:=h.cell 0;have c1:=h.cell 1;have c2:=h.cell 2;have c3:=h.cell 3;simp at c0 c1 c2 c3;simp[loadVar,go_sem,c0,c1,c2,c3]
theorem four{W w:World}{g:Nat}{z0 z1 z2 z3 v0 v1 v2 v3:Value}(hB:aD w g 243 #[z0,z1,z2,z3])(hb:Below W.heap.size W w)(hg:W.heap.size≤g):aD ((((w.setCell ⟨g,0,none⟩ v0).setCell ⟨g,1,none⟩ v1).setCell ⟨g,2,none⟩ v2).setCell ⟨g,3,none⟩ v3) g 243 #[v0,v1,v2,v3]∧Below W.heap.size W ((((w.setCell ⟨g,0,none⟩ v0).setCell ⟨g,1,none⟩ v1).setCell ⟨g,2,none⟩ v2).setCell ⟨g,3,none⟩ v3):=by
 have s0:aD (w.setCell ⟨g,0,none⟩ v0) g 243 #[v0,z1,z2,z3]:=hB.aN 0 v0;have s1:aD ((w.setCell ⟨g,0,none⟩ v0).setCell ⟨g,1,none⟩ v1) g 243 #[v0,v1,z2,z3]:=s0.aN 1 v1;have s2:aD (((w.setCell ⟨g,0,none⟩ v0).setCell ⟨g,1,none⟩ v1).setCell ⟨g,2,none⟩ v2) g 243 #[v0,v1,v2,z3]:=s1.aN 2 v2;have s3:aD ((((w.setCell ⟨g,0,none⟩ v0).setCell ⟨g,1,none⟩ v1).setCell ⟨g,2,none⟩ v2).setCell ⟨g,3,none⟩ v3) g 243 #[v0,v1,v2,v3]:=s2.aN 3 v3;exact⟨s3,(((hb.setCell (p:=⟨g,0,none⟩) hg v0).setCell (p:=⟨g,1,none⟩) hg v1).setCell (p:=⟨g,2,none⟩) hg v2).setCell (p:=⟨g,3,none⟩) hg v3⟩
theorem Zv{fn:Func}{a:Act}{W w:World}{g x y:Nat}{v0 v1 v2 v3 u:Value}(hres:fn.results= #[.cell x 243,.tmp y])(hB:aD w g 243 #[v0,v1,v2,v3])(hb:Below W.heap.size W w)(h1:a.tmps.getD x undef=.pointer (some ⟨g,0,none⟩))(h2:a.tmps.getD y undef=u)(hd:a.defers=[]):bodyPost ag fn (Got (.tuple #[.agg #[v0,v1,v2,v3],u]) W) .ret a w:=bodyPost_ret (bn hres h1 h2 (Vo hB)) hd ⟨rfl,hb⟩
theorem qf{fn:Func}{a:Act}{W w:World}{g x y:Nat}{z0 z1 z2 z3 v0 v1 v2 v3 u:Value}(hres:fn.results= #[.cell x 243,.tmp y])(hB:aD w g 243 #[z0,z1,z2,z3])(hb:Below W.heap.size W w)(hg:W.heap.size≤g)(h1:a.tmps.getD x undef=.pointer (some ⟨g,0,none⟩))(h2:a.tmps.getD y undef=u)(hd:a.defers=[]):bodyPost ag fn (Got (.tuple #[.agg #[v0,v1,v2,v3],u]) W) .ret a ((((w.setCell ⟨g,0,none⟩ v0).setCell ⟨g,1,none⟩ v1).setCell ⟨g,2,none⟩ v2).setCell ⟨g,3,none⟩ v3):=Zv hres (four hB hb hg).1 (four hB hb hg).2 h1 h2 hd
def Zw(o:Option Pf):Value:=match o with
 |none=>.tuple #[.agg #[.bool false,.int .u64 0,.int .u64 0,.int .u8 0],.int .i64 8]
 |some p=>.tuple #[.agg p.cells,.int .i64 0]
theorem FK(o:Option Ad)(ho:∀a,o=some a→a.Ok):∃(a:Ad)(e:Nat),a.Ok∧Yt o=.tuple #[.agg #[.bool a.v6,.int .u64 (a.hi:Int),.int .u64 (a.lo:Int)],.int .i64 e]∧((e=0∧o=some a)∨(e=8∧o=none)):=by
 cases o with
 |none=>exact⟨⟨false,0,0⟩,8,⟨by decide,by decide⟩,rfl,Or.inr ⟨rfl,rfl⟩⟩
 |some a=>exact⟨a,0,ho a rfl,rfl,Or.inl ⟨rfl,rfl⟩⟩
theorem nj{w:World}(env:Env w)(s:ByteArray)(hs:s.size≤2000000):Calls ag 264 #[.string s] w (Got (Zw (gn s.data.toList)) w):=by
 obtain⟨RL,hRL⟩:∃r,r=gn s.data.toList:=⟨_,rfl⟩;rw[←hRL];have hB0:=aD.new w 243 #[.bool false,.int .u64 0,.int .u64 0,.int .u8 0];have hb0:=boxed w (.cells #[.bool false,.int .u64 0,.int .u64 0,.int .u8 0] 243);obtain⟨m,hm⟩:=(env.below hb0).mx;have hcut:=Tryz.strings_Cut s ⟨#[47]⟩ m (w.alloc (.cells #[.bool false,.int .u64 0,.int .u64 0,.int .u8 0] 243)) aM hm;have hcl:=tJ s.data.toList [47];rw[show(⟨#[47]⟩:ByteArray).data.toList=[47]from rfl]at hcut;unfold gn at hRL;generalize Lib.cut s.data.toList [47]=C at hcl hcut hRL;obtain⟨c1,c2,gap⟩:=C;simp only at hcl hcut hRL;rw[show s.data.toList.length=s.size from(Lib.size_eq s).symm]at hcl;have hrd:=fun v(hv:Below w.heap.size w v)=>Pv (env.below hv) ⟨c1.toArray⟩ (by rw[show(⟨c1.toArray⟩:ByteArray).size=c1.length by simp[afe]];omega)
 have hpu:=fun v(hv:Below w.heap.size w v)=>Zg (env.below hv) ⟨c2.toArray⟩ (by rw[show(⟨c2.toArray⟩:ByteArray).size=c2.length by simp[afe]];omega)
 rw[show(⟨c1.toArray⟩:ByteArray).data.toList=c1 by simp]at hrd;rw[show(⟨c2.toArray⟩:ByteArray).data.toList=c2 by simp]at hpu;obtain⟨A,er,hA,hv,hro⟩:=FK (sf c1) (fun a h=>(uw h).2.1);rw[hv]at hrd;generalize sf c1=RO at hRL hro;clear hv;have hnl:∀n,num1 10 256 c2=some n→n<256:=fun n h=>lK h
 unfold xQ Ym at hpu;generalize num1 10 256 c2=NO at hRL hpu hnl;have FM:=fun n(hn:n<256)v(hv:Below w.heap.size w v)=>uK (env.below hv) ⟨A,n⟩ ⟨hA,hn⟩
 have hiff:∀n,ia ⟨A,n⟩=s↔oN ⟨A,n⟩=s.data.toList:=fun n=>FH
 have hcells:∀n,Pf.cells ⟨A,n⟩= #[.bool A.v6,.int .u64 (A.hi:Int),.int .u64 (A.lo:Int),.int .u8 n]:=fun _=>rfl
 simp only[hcells]at FM;obtain⟨T1,hT1⟩:∃t,t=(⟨c1.toArray⟩:ByteArray):=⟨_,rfl⟩;obtain⟨T2,hT2⟩:∃t,t=(⟨c2.toArray⟩:ByteArray):=⟨_,rfl⟩;rw[←hT1]at hrd hcut;rw[←hT2]at hpu hcut;have hr0:gap=false→RL=none:=fun h=>by rw[hRL,h];rfl
 have hr1:er=8→RL=none:=fun h=>by
  rcases hro with⟨e,_⟩|⟨_,e⟩
  ·omega
  ·rw[hRL,e];split<;>rfl
 have hr2:NO=none→RL=none:=fun h=>by
  rw[hRL,h];split
  ·rfl
  ·cases RO<;>rfl
 have hr3:gap=true→er=0→∀n,NO=some n→RL=if ia ⟨A,n⟩=s then some ⟨A,n⟩else none:=fun h1 h2 n h3=>by
  rcases hro with⟨_,e⟩|⟨e,_⟩
  ·rw[hRL,h1,h3,e];simp only;rw[if_neg aF];by_cases h:ia ⟨A,n⟩=s
   ·rw[if_pos h,if_pos ((hiff n).1 h)]
   ·rw[if_neg h,if_neg (fun e=>h ((hiff n).2 e))]
  ·omega
 have her:er=0∨er=8:=by rcases hro with⟨e,_⟩|⟨e,_⟩<;>omega
 obtain⟨PB,hPB⟩:∃f:Nat→ByteArray,f=fun n=>ia ⟨A,n⟩:=⟨_,rfl⟩
 have abC:∀n,ia ⟨A,n⟩=PB n:=fun n=>by rw[hPB]
 simp only[abC]at hr3 FM;generalize A.v6=av at hrd FM hcells;generalize A.hi=Eu at hrd FM hcells;generalize A.lo=Ez at hrd FM hcells;obtain⟨wX,HRD,HPU,HPT,Hr0,Hr1,Hr2,Hr3,Hnl,pu,HB0,Hb0⟩:=pQ hcut hrd hpu FM hr0 hr1 hr2 hr3 hnl hcells hB0 hb0;clear hcut hrd hpu FM hr0 hr1 hr2 hr3 hnl hcells hB0 hb0 hiff hro hRL hT1 hT2 hPB abC hA hm hcl env;go_enter Tryz.func264,Tryz.ntmps264;go_wp2_with(go_at_call 291;(with_reducible refine wX.out.mono ?_);rintro r w2⟨rfl,n2,rfl⟩)
 go_at_call 292;refine(HRD.out _ (after Hb0.out (below_drewN _ n2))).mono ?_;rintro r w3⟨rfl,g3⟩;have hB3:=(HB0.out.drewN n2).below g3 (HB0.out.drewN n2).lt;have hb3:=after (after Hb0.out (below_drewN _ n2)) g3;have hB4:=hB3.alloc (.cells #[.bool av,.int .u64 Eu,.int .u64 Ez] 54);have hD4:=aD.new w3 54 #[.bool av,.int .u64 Eu,.int .u64 Ez];have hb4:=after hb3 (boxed w3 (.cells #[.bool av,.int .u64 Eu,.int .u64 Ez] 54));have hw3:w.heap.size<w3.heap.size:=hB3.lt;clear hB3 hb3 g3;go_upto_region 3 with fail
 generalize w3.alloc (.cells #[.bool av,.int .u64 Eu,.int .u64 Ez] 54)=w4 at hB4 hD4 hb4⊢;generalize w3.heap.size=g1 at hD4 hw3⊢;obtain⟨HB4,HD4,Hb4,adJ⟩:=cH hB4 hD4 hb4 (HPU.out w4 hb4);clear hB4 hD4 hb4;go_wp2_with fail
 go_at_call 293;refine adJ.out.mono ?_;rintro e w5⟨hres,g5⟩;have PD:=HB4.out.below g5 HB4.out.lt;have hD5:=HD4.out.below g5 HD4.out.lt;have hb5:=after Hb4.out g5;have a0:=hD5.cell 0;have a1:=hD5.cell 1;have a2:=hD5.cell 2;simp at a0 a1 a2;obtain⟨mO,Hb5⟩:=aI PD hb5;clear PD hD5 hb5 g5;rcases hres with⟨n,hNO,rfl⟩|⟨hNO,n,tp,p,Zk,rfl⟩
 ·have hn:=Hnl.out n hNO;have hwr:IntKind.u8.wrap (n:Int)=(n:Int):=by rw[IntKind.wrap_u8];omega
  go_upto_region 5 with fail
  have fu:=mO.out.alloc (.cells #[.bool av,.int .u64 Eu,.int .u64 Ez,.int .u8 n] 243);have hD6:=aD.new w5 243 #[.bool av,.int .u64 Eu,.int .u64 Ez,.int .u8 n];have hb6:=after Hb5.out (boxed w5 (.cells #[.bool av,.int .u64 Eu,.int .u64 Ez,.int .u8 n] 243));have hw5:w.heap.size<w5.heap.size:=mO.out.lt;generalize w5.alloc (.cells #[.bool av,.int .u64 Eu,.int .u64 Ez,.int .u8 n] 243)=w6 at fu hD6 hb6⊢;generalize w5.heap.size=g2 at hD6 hw5⊢;clear a0 a1 a2;have b0:=hD6.cell 0;have b1:=hD6.cell 1;have b2:=hD6.cell 2;have b3:=hD6.cell 3;simp at b0 b1 b2 b3;have c0:=fu.cell 0;have c1:=fu.cell 1;have c2:=fu.cell 2;have c3:=fu.cell 3;simp at c0 c1 c2 c3;have fr:=fun i=>fu.frozen i
  obtain⟨jH,HD6,za⟩:=bj fu hD6 hb6;clear fu hD6 hb6;have abD:=ae (HPT.out n hn w6 za.out);cases gap with
  |false=>
   have Vn:=ae (Hr0.out rfl);go_wp2_with fail
   rw[Vn.out];show bodyPost _ _ (Got (.tuple #[.agg #[.bool false,.int .u64 0,.int .u64 0,.int .u8 0],.int .i64 8]) w) _ _ _;exact qf (g:=w.heap.size) (x:=2) (y:=3) rfl jH.out za.out (aw _) rfl rfl rfl
  |true=>
   rcases her with rfl|rfl
   ·have hrl:=Hr3.out rfl rfl n hNO;by_cases hts:PB n=s
    ·have hq:=kU hts;rw[if_pos hts]at hrl;have Hrl:=ae hrl;clear hrl hts;go_wp2_with(go_at_call 294;(with_reducible refine abD.out.mono ?_);rintro r w7⟨rfl,g7⟩;have hb7:=aU za g7;have iV:=jH.out.below g7 jH.out.lt;have hD7:=HD6.out.below g7 HD6.out.lt;clear b0 b1 b2 b3 c0 c1 c2 c3 fr;have b0:=hD7.cell 0;have b1:=hD7.cell 1;have b2:=hD7.cell 2;have b3:=hD7.cell 3;simp at b0 b1 b2 b3;have c0:=iV.cell 0;have c1:=iV.cell 1;have c2:=iV.cell 2;have c3:=iV.cell 3;simp at c0 c1 c2 c3;have fr:=(fun i=>iV.frozen i);have tK:=ae iV;clear iV hD7 g7)
     rw[Hrl.out];show bodyPost _ _ (Got (.tuple #[.agg (Pf.cells ⟨A,n⟩),.int .i64 0]) w) _ _ _;rw[pu.out];exact qf (g:=w.heap.size) (x:=2) (y:=3) rfl tK.out hb7.out (aw _) rfl rfl rfl
    ·have hq:=kV hts;rw[if_neg hts]at hrl;have Hrl:=ae hrl;clear hrl hts;go_wp2_with(go_at_call 294;(with_reducible refine abD.out.mono ?_);rintro r w7⟨rfl,g7⟩;have hb7:=aU za g7;have iV:=jH.out.below g7 jH.out.lt;have hD7:=HD6.out.below g7 HD6.out.lt;clear b0 b1 b2 b3 c0 c1 c2 c3 fr;have b0:=hD7.cell 0;have b1:=hD7.cell 1;have b2:=hD7.cell 2;have b3:=hD7.cell 3;simp at b0 b1 b2 b3;have c0:=iV.cell 0;have c1:=iV.cell 1;have c2:=iV.cell 2;have c3:=iV.cell 3;simp at c0 c1 c2 c3;have fr:=(fun i=>iV.frozen i);have tK:=ae iV;clear iV hD7 g7)
     rw[Hrl.out];show bodyPost _ _ (Got (.tuple #[.agg #[.bool false,.int .u64 0,.int .u64 0,.int .u8 0],.int .i64 8]) w) _ _ _;exact qf (g:=w.heap.size) (x:=2) (y:=3) rfl tK.out hb7.out (aw _) rfl rfl rfl
   ·have Vn:=ae (Hr1.out rfl);go_wp2_with fail
    rw[Vn.out];show bodyPost _ _ (Got (.tuple #[.agg #[.bool false,.int .u64 0,.int .u64 0,.int .u8 0],.int .i64 8]) w) _ _ _;exact qf (g:=w.heap.size) (x:=2) (y:=3) rfl jH.out za.out (aw _) rfl rfl rfl
 ·have Vn:=ae (Hr2.out hNO);clear hNO;go_upto_region 5 with fail
  have fu:=mO.out.alloc (.cells #[.bool av,.int .u64 Eu,.int .u64 Ez,.int .u8 ((n:Int)%256)] 243);have hD6:=aD.new w5 243 #[.bool av,.int .u64 Eu,.int .u64 Ez,.int .u8 ((n:Int)%256)];have hb6:=after Hb5.out (boxed w5 (.cells #[.bool av,.int .u64 Eu,.int .u64 Ez,.int .u8 ((n:Int)%256)] 243));have hw5:w.heap.size<w5.heap.size:=mO.out.lt;generalize w5.alloc (.cells #[.bool av,.int .u64 Eu,.int .u64 Ez,.int .u8 ((n:Int)%256)] 243)=w6 at fu hD6 hb6⊢;generalize w5.heap.size=g2 at hD6 hw5⊢;clear a0 a1 a2;have b0:=hD6.cell 0;have b1:=hD6.cell 1;have b2:=hD6.cell 2;have b3:=hD6.cell 3;simp at b0 b1 b2 b3;have c0:=fu.cell 0;have c1:=fu.cell 1;have c2:=fu.cell 2;have c3:=fu.cell 3;simp at c0 c1 c2 c3;have fr:=fun i=>fu.frozen i
  obtain⟨jH,HD6,za⟩:=bj fu hD6 hb6;clear fu hD6 hb6;rcases her with rfl|rfl
  all_goals cases gap
  all_goals
   go_wp2_with fail
   rw[Vn.out];show bodyPost _ _ (Got (.tuple #[.agg #[.bool false,.int .u64 0,.int .u64 0,.int .u8 0],.int .i64 8]) w) _ _ _;exact qf (g:=w.heap.size) (x:=2) (y:=3) rfl jH.out za.out (aw _) rfl rfl rfl
def jm.cells(s:jm):Array Value:= #[.int .u8 (s.kind:Int),.string s.name,.bool s.net.a.v6,.int .u64 (s.net.a.hi:Int),.int .u64 (s.net.a.lo:Int),.int .u8 (s.net.bits:Int)]
theorem fe{P:Program}{T K E:TypeId}{w:World}{m clock:Nat}{L:List SE}(hT:P.underlying T=some (.map K E))(hK:P.underlying K=some .string)(h:ed w m L clock)(s:ByteArray){j:Nat}{x:SE}(hj:at_ L s=some j)(hx:L[j]? =some x):(Instr.lookup T (.map (some m)) (.string s) false).run P w=.ok x.val w:=by
 simp[Instr.lookup,run_underlying hT,run_getObj_map h,dS _ _ hK,ents,fF s hK,hj,hx,ay]
theorem kW{P:Program}{T K E:TypeId}{w:World}{m clock:Nat}{L:List SE}(hT:P.underlying T=some (.map K E))(hK:P.underlying K=some .string)(h:ed w m L clock)(s:ByteArray)(hj:at_ L s=none){z:Value}(hz:(zeroValue E).run P w=.ok z w):(Instr.lookup T (.map (some m)) (.string s) false).run P w=.ok z w:=by
 simp[Instr.lookup,run_underlying hT,run_getObj_map h,dS _ _ hK,ents,fF s hK,hj,hz]
def px:List SE:=[⟨rj,.int .u8 2,0⟩,⟨eG,.int .u8 3,1⟩,⟨ju,.int .u8 4,2⟩,⟨gx,.int .u8 5,3⟩,⟨xM,.int .u8 6,4⟩]
theorem cR{a b:ByteArray}(h:a≠b):(a==b)=false:=by
 cases e:a==b with
 |false=>rfl
 |true=>exact absurd ((bytes_beq a b).1 e) h
theorem zb{w:World}{m clock:Nat}(h:ed w m px clock)(s:ByteArray):(Instr.lookup 377 (.map (some m)) (.string s) false).run ag w=.ok (.int .u8 (fE s.data.toList:Int)) w:=by
 have hT:=Tryz.underlying377;have hK:=aZ;unfold fE;rw[pT];by_cases e1:s=rj
 ·subst e1;rw[if_pos rfl];exact fe hT hK h _ (j:=0) (x:=⟨rj,.int .u8 2,0⟩) (by decide+kernel) rfl
 rw[if_neg e1];by_cases e2:s=eG
 ·subst e2;rw[if_pos rfl];exact fe hT hK h _ (j:=1) (x:=⟨eG,.int .u8 3,1⟩) (by decide+kernel) rfl
 rw[if_neg e2];by_cases e3:s=ju
 ·subst e3;rw[if_pos rfl];exact fe hT hK h _ (j:=2) (x:=⟨ju,.int .u8 4,2⟩) (by decide+kernel) rfl
 rw[if_neg e3];by_cases e4:s=gx
 ·subst e4;rw[if_pos rfl];exact fe hT hK h _ (j:=3) (x:=⟨gx,.int .u8 5,3⟩) (by decide+kernel) rfl
 rw[if_neg e4];by_cases e5:s=xM
 ·subst e5;rw[if_pos rfl];exact fe hT hK h _ (j:=4) (x:=⟨xM,.int .u8 6,4⟩) (by decide+kernel) rfl
 rw[if_neg e5];refine kW hT hK h s ?_ (Tryz.zeroValue5 w);unfold at_ px;simp only[List.findIdx?_cons,List.findIdx?_nil];rw[cR (Ne.symm e1),cR (Ne.symm e2),cR (Ne.symm e3),cR (Ne.symm e4),cR (Ne.symm e5)];rfl
theorem nk{w:World}{g:Nat}{v0 v1 v2 v3 v4 v5:Value}(h:aD w g 245 #[v0,v1,v2,v3,v4,v5]):(loadVar 245 ⟨g,0,none⟩).run ag w=.ok (.agg #[v0,v1,v2,v3,v4,v5]) w:=by
 have c0:=h.cell 0;have c1:=h.cell 1;have c2:=h.cell 2;have c3:=h.cell 3;have c4:=h.cell 4;have c5:=h.cell 5;simp at c0 c1 c2 c3 c4 c5;simp[loadVar,go_sem,c0,c1,c2,c3,c4,c5]
theorem tL{W w:World}{g:Nat}{z0 z1 z2 z3 z4 z5 v0 v1 v2 v3 v4 v5:Value}(hB:aD w g 245 #[z0,z1,z2,z3,z4,z5])(hb:Below W.heap.size W w)(hg:W.heap.size≤g):aD ((((((w.setCell ⟨g,0,none⟩ v0).setCell ⟨g,1,none⟩ v1).setCell ⟨g,2,none⟩ v2).setCell ⟨g,3,none⟩ v3).setCell ⟨g,4,none⟩ v4).setCell ⟨g,5,none⟩ v5) g 245 #[v0,v1,v2,v3,v4,v5]∧Below W.heap.size W ((((((w.setCell ⟨g,0,none⟩ v0).setCell ⟨g,1,none⟩ v1).setCell ⟨g,2,none⟩ v2).setCell ⟨g,3,none⟩ v3).setCell ⟨g,4,none⟩ v4).setCell ⟨g,5,none⟩ v5):=by
 have s0:aD (w.setCell ⟨g,0,none⟩ v0) g 245 #[v0,z1,z2,z3,z4,z5]:=hB.aN 0 v0;have s1:aD ((w.setCell ⟨g,0,none⟩ v0).setCell ⟨g,1,none⟩ v1) g 245 #[v0,v1,z2,z3,z4,z5]:=s0.aN 1 v1;have s2:aD (((w.setCell ⟨g,0,none⟩ v0).setCell ⟨g,1,none⟩ v1).setCell ⟨g,2,none⟩ v2) g 245 #[v0,v1,v2,z3,z4,z5]:=s1.aN 2 v2;have s3:aD ((((w.setCell ⟨g,0,none⟩ v0).setCell ⟨g,1,none⟩ v1).setCell ⟨g,2,none⟩ v2).setCell ⟨g,3,none⟩ v3) g 245 #[v0,v1,v2,v3,z4,z5]:=s2.aN 3 v3;have s4:aD (((((w.setCell ⟨g,0,none⟩ v0).setCell ⟨g,1,none⟩ v1).setCell ⟨g,2,none⟩ v2).setCell ⟨g,3,none⟩ v3).setCell ⟨g,4,none⟩ v4) g 245 #[v0,v1,v2,v3,v4,z5]:=s3.aN 4 v4;have s5:aD ((((((w.setCell ⟨g,0,none⟩ v0).setCell ⟨g,1,none⟩ v1).setCell ⟨g,2,none⟩ v2).setCell ⟨g,3,none⟩ v3).setCell ⟨g,4,none⟩ v4).setCell ⟨g,5,none⟩ v5) g 245 #[v0,v1,v2,v3,v4,v5]:=s4.aN 5 v5;exact⟨s5,((((((hb.setCell (p:=⟨g,0,none⟩) hg v0).setCell (p:=⟨g,1,none⟩) hg v1).setCell (p:=⟨g,2,none⟩) hg v2).setCell (p:=⟨g,3,none⟩) hg v3).setCell (p:=⟨g,4,none⟩) hg v4).setCell (p:=⟨g,5,none⟩) hg v5)⟩
theorem ed.abE{w:World}{m clock g:Nat}{L:List SE}{v0 v1 v2 v3 v4 v5:Value}(h:ed w m L clock)(hne:g≠m):ed ((((((w.setCell ⟨g,0,none⟩ v0).setCell ⟨g,1,none⟩ v1).setCell ⟨g,2,none⟩ v2).setCell ⟨g,3,none⟩ v3).setCell ⟨g,4,none⟩ v4).setCell ⟨g,5,none⟩ v5) m L clock:=by
 have k:=((((((Keeps.refl (fun x=>x=g) w).setCell (p:=⟨g,0,none⟩) (Or.inl rfl) v0).setCell (p:=⟨g,1,none⟩) (Or.inl rfl) v1).setCell (p:=⟨g,2,none⟩) (Or.inl rfl) v2).setCell (p:=⟨g,3,none⟩) (Or.inl rfl) v3).setCell (p:=⟨g,4,none⟩) (Or.inl rfl) v4).setCell (p:=⟨g,5,none⟩) (Or.inl rfl) v5;exact h.keep k fun e=>hne e.symm
theorem ed.drw{w:World}{m clock:Nat}{L:List SE}(h:ed w m L clock):ed w.drew m L clock:=h
theorem FN(w0:World):∃w1 w2 w3 w4 w5:World,(Instr.mapUpdate 377 (.map (some w0.heap.size)) (.string ⟨#[117,115,101,114]⟩) (.int .u8 2)).run ag (w0.alloc (.map #[] 0))=.ok () w1∧(Instr.mapUpdate 377 (.map (some w0.heap.size)) (.string ⟨#[103,114,111,117,112]⟩) (.int .u8 3)).run ag w1=.ok () w2∧(Instr.mapUpdate 377 (.map (some w0.heap.size)) (.string ⟨#[116,97,103]⟩) (.int .u8 4)).run ag w2=.ok () w3∧(Instr.mapUpdate 377 (.map (some w0.heap.size)) (.string ⟨#[104,111,115,116]⟩) (.int .u8 5)).run ag w3=.ok () w4∧(Instr.mapUpdate 377 (.map (some w0.heap.size)) (.string ⟨#[110,101,116]⟩) (.int .u8 6)).run ag w4=.ok () w5∧ed w5 w0.heap.size px 5∧Below w0.heap.size w0 w5:=by
 have hT:=Tryz.underlying377;have hK:=aZ;have h0:ed (w0.alloc (.map #[] 0)) w0.heap.size [] 0:=heap_alloc_new w0 _;obtain⟨w1,e1,_,_,k1,m1⟩:=ez (P:=ag) hT hK h0 ⟨#[117,115,101,114]⟩ (by decide+kernel) (.int .u8 2);obtain⟨w2,e2,_,_,k2,m2⟩:=ez (P:=ag) hT hK m1 ⟨#[103,114,111,117,112]⟩ (by decide+kernel) (.int .u8 3);obtain⟨w3,e3,_,_,k3,m3⟩:=ez (P:=ag) hT hK m2 ⟨#[116,97,103]⟩ (by decide+kernel) (.int .u8 4);obtain⟨w4,e4,_,_,k4,m4⟩:=ez (P:=ag) hT hK m3 ⟨#[104,111,115,116]⟩ (by decide+kernel) (.int .u8 5);obtain⟨w5,e5,_,_,k5,m5⟩:=ez (P:=ag) hT hK m4 ⟨#[110,101,116]⟩ (by decide+kernel) (.int .u8 6);refine⟨w1,w2,w3,w4,w5,e1,e2,e3,e4,e5,m5,?_⟩;exact(boxed w0 _).trans (Keeps.below ((((k1.trans k2).trans k3).trans k4).trans k5) (fun k hk=>by rw[hk];exact aw _) (by simp))
def ib(m:Nat)(T:ByteArray)(K:Nat)(w:World):Prop:=(Instr.lookup 377 (.map (some m)) (.string T) false).run ag w=.ok (.int .u8 K) w
def FO(o:Option jm)(w:World)(r:Ending)(w':World):Prop:=(∃s:jm,r=.returned (.tuple #[.agg s.cells,.bool o.isSome])∧∀x,o=some x→s=x)∧Below w.heap.size w w'
theorem Vp{w:World}(env:Env w)(s:ByteArray)(hs:s.size≤2000000):Calls ag 295 #[.string s] w (FO (kT s) w):=by
 have hB0:=aD.new w 245 #[.int .u8 0,.string ⟨#[]⟩,.bool false,.int .u64 0,.int .u64 0,.int .u8 0];have hb0:=boxed w (.cells #[.int .u8 0,.string ⟨#[]⟩,.bool false,.int .u64 0,.int .u64 0,.int .u8 0] 245);by_cases hst:s=uz
 ·subst hst;rw[show kT uz=some ⟨1,iy,Pf.zero⟩ by unfold kT;rw[if_pos rfl]];unfold uz;clear env hs;go_enter Tryz.func295,Tryz.ntmps295;go_wp2_with fail
  refine bodyPost_ret (bn rfl rfl rfl (nk (aD.new _ _ _))) rfl ⟨⟨⟨1,iy,Pf.zero⟩,rfl,fun x hx=>by injection hx⟩,boxed _ _⟩
 ·have hss:(s.toList==[42])=false:=by
   rw[beq_eq_false_iff_ne];intro h;rw[bO]at h;exact hst (afl (Array.ext' h))
  have hmm:= @run_makeMap ag;have hk:=FN (w.alloc (.cells #[.int .u8 0,.string ⟨#[]⟩,.bool false,.int .u64 0,.int .u64 0,.int .u8 0] 245));rw[show(w.alloc (.cells #[.int .u8 0,.string ⟨#[]⟩,.bool false,.int .u64 0,.int .u64 0,.int .u8 0] 245)).heap.size=w.heap.size+1 by simp]at hk;obtain⟨w1,w2,w3,w4,w5,e1,e2,e3,e4,e5,hM,hbm⟩:=hk;have PD:=hB0.below hbm aM;have hb5:Below w.heap.size w w5:=hb0.trans (hbm.mono aM);obtain⟨mx,hmx⟩:=(env.below hb5).mx;have hcut:=Tryz.strings_Cut s ⟨#[58]⟩ mx w5 aM hmx;have hcl:=tJ s.data.toList [58];rw[show(⟨#[58]⟩:ByteArray).data.toList=[58]from rfl]at hcut;obtain⟨RES,dT⟩:∃r,r=kT s:=⟨_,rfl⟩;rw[←dT];unfold kT at dT;rw[if_neg hst]at dT;simp only at dT;generalize Lib.cut s.data.toList [58]=C at hcl hcut dT;obtain⟨c1,c2,gap⟩:=C;simp only at hcl hcut dT;rw[show s.data.toList.length=s.size from(Lib.size_eq s).symm]at hcl;have hrd:=fun v(hv:Below w.heap.size w v)=>nj (env.below hv) ⟨c2.toArray⟩ (by rw[show(⟨c2.toArray⟩:ByteArray).size=c2.length by simp[afe]];omega)
  rw[show(⟨c2.toArray⟩:ByteArray).data.toList=c2 from rfl]at hrd;have hlab:=fun v=>nT ⟨c2.toArray⟩ (by rw[show(⟨c2.toArray⟩:ByteArray).size=c2.length by simp[afe]];omega) v
  rw[show b8 (⟨c2.toArray⟩:ByteArray)=mY c2 from rfl]at hlab;have hlk:∀W,ed W (w.heap.size+1) px 5→ib (w.heap.size+1) ⟨c1.toArray⟩ (fE c1) W:=fun W h=>zb h ⟨c1.toArray⟩
  have hK6:fE c1≤6:=by
   by_cases h0:0<fE c1
   ·rcases na h0 with h|h|h|h|h<;>omega
   ·omega
  generalize fE c1=K at dT hlk hK6;unfold gW at dT;generalize(⟨c1.toArray⟩:ByteArray)=T1 at hcut hlk;generalize hT2:(⟨c2.toArray⟩:ByteArray)=T2 at hcut hrd hlab dT;obtain⟨wX,iH,kn,Lh,Yo⟩:=dR hcut dT hrd hlab hlk;clear hcut dT hrd hlab hlk env hmx hcl hst hT2;go_enter Tryz.func295,Tryz.ntmps295;go_upto_region 5 with(go_at_call 291;(with_reducible refine wX.out.mono ?_);rintro r wq⟨rfl,nq,rfl⟩)
  have fu:aD (w5.drewN nq) w.heap.size 245 #[.int .u8 0,.string ⟨#[]⟩,.bool false,.int .u64 0,.int .u64 0,.int .u8 0]:=PD;have hb6:Below w.heap.size w (w5.drewN nq):=⟨hb5.os,hb5.tape,hb5.output,hb5.size,hb5.block⟩;have Ba:=ae (hM.drewN nq);clear e1 e2 e3 e4 e5 hmm hM hbm PD hb5 wX hB0 hb0;generalize w5.drewN nq=w6 at fu hb6 Ba⊢;have hlk:=Yo.out w6 Ba.out;unfold ib at hlk;by_cases h6:K=6
  ·subst h6;have hR:=iH.out;rw[if_pos rfl]at hR;have B8:=ae hR;clear hR iH Lh Ba;obtain⟨za,jH⟩:=aI hb6 fu;clear hb6 fu;go_upto_region 6 with fail
   cases hp:gn c2 with
   |none=>
    rw[hp]at kn B8;have Zx:af (∀(v:World),Below w.heap.size w v→Calls ag 264 #[.string T2] v (Got (.tuple #[.agg #[.bool false,.int .u64 0,.int .u64 0,.int .u8 0],.int .i64 8]) v)):=kn;go_upto_region 7 with(go_at_call 264;(with_reducible refine(Zx.out _ za.out).mono ?_);rintro r w7⟨rfl,d7⟩)
    have mN:=(jH.out.below d7 jH.out.lt).alloc (.cells #[.bool false,.int .u64 0,.int .u64 0,.int .u8 0] 243);have hb8:=after (after za.out d7) (boxed w7 (.cells #[.bool false,.int .u64 0,.int .u64 0,.int .u8 0] 243));have hP:=aD.new w7 243 #[.bool false,.int .u64 0,.int .u64 0,.int .u8 0];clear d7;generalize w7.alloc (.cells #[.bool false,.int .u64 0,.int .u64 0,.int .u8 0] 243)=w8 at mN hb8 hP⊢;have b0:=mN.cell 0;have b1:=mN.cell 1;have b2:=mN.cell 2;have b3:=mN.cell 3;have b4:=mN.cell 4;have b5:=mN.cell 5;have z0:=mN.frozen 0;have z1:=mN.frozen 1;have z2:=mN.frozen 2;have z3:=mN.frozen 3;have z4:=mN.frozen 4;have z5:=mN.frozen 5;have p0:=hP.cell 0;have p1:=hP.cell 1;have p2:=hP.cell 2;have p3:=hP.cell 3;simp at b0 b1 b2 b3 b4 b5 p0 p1 p2 p3;obtain⟨q1,q2⟩:=tL (v0:=.int .u8 6) (v1:=.string ⟨#[]⟩) (v2:=.bool false) (v3:=.int .u64 0) (v4:=.int .u64 0) (v5:=.int .u8 0) mN hb8 (aw _);obtain⟨Q1,Q2⟩:=aI q1 q2;clear q1 q2;go_wp2_with fail
    refine bodyPost_ret (bn rfl rfl rfl (nk Q1.out)) rfl ⟨⟨⟨6,iy,Pf.zero⟩,by rw[B8.out];rfl,fun x hx=>by rw[B8.out]at hx;cases hx⟩,Q2.out⟩
   |some n=>
    obtain⟨⟨a1,a2,a3⟩,a4⟩:=n;rw[hp]at kn B8;have Zx:af (∀(v:World),Below w.heap.size w v→Calls ag 264 #[.string T2] v (Got (.tuple #[.agg #[.bool a1,.int .u64 a2,.int .u64 a3,.int .u8 a4],.int .i64 0]) v)):=kn;go_upto_region 7 with(go_at_call 264;(with_reducible refine(Zx.out _ za.out).mono ?_);rintro r w7⟨rfl,d7⟩)
    have mN:=(jH.out.below d7 jH.out.lt).alloc (.cells #[.bool a1,.int .u64 a2,.int .u64 a3,.int .u8 a4] 243);have hb8:=after (after za.out d7) (boxed w7 (.cells #[.bool a1,.int .u64 a2,.int .u64 a3,.int .u8 a4] 243));have hP:=aD.new w7 243 #[.bool a1,.int .u64 a2,.int .u64 a3,.int .u8 a4];clear d7;generalize w7.alloc (.cells #[.bool a1,.int .u64 a2,.int .u64 a3,.int .u8 a4] 243)=w8 at mN hb8 hP⊢;have b0:=mN.cell 0;have b1:=mN.cell 1;have b2:=mN.cell 2;have b3:=mN.cell 3;have b4:=mN.cell 4;have b5:=mN.cell 5;have z0:=mN.frozen 0;have z1:=mN.frozen 1;have z2:=mN.frozen 2;have z3:=mN.frozen 3;have z4:=mN.frozen 4;have z5:=mN.frozen 5;have p0:=hP.cell 0;have p1:=hP.cell 1;have p2:=hP.cell 2;have p3:=hP.cell 3;simp at b0 b1 b2 b3 b4 b5 p0 p1 p2 p3;obtain⟨q1,q2⟩:=tL (v0:=.int .u8 6) (v1:=.string ⟨#[]⟩) (v2:=.bool a1) (v3:=.int .u64 a2) (v4:=.int .u64 a3) (v5:=.int .u8 a4) mN hb8 (aw _);obtain⟨Q1,Q2⟩:=aI q1 q2;clear q1 q2;go_wp2_with fail
    refine bodyPost_ret (bn rfl rfl rfl (nk Q1.out)) rfl ⟨⟨⟨6,iy,⟨⟨a1,a2,a3⟩,a4⟩⟩,by rw[B8.out];rfl,fun x hx=>by rw[B8.out]at hx;injection hx⟩,Q2.out⟩
  ·have q6:((K:Int)==6)=false:=by simp;omega
   have hR:=iH.out;rw[if_neg h6]at hR;have B8:=ae hR;clear hR iH kn h6;have hM:=Ba.out;have hgm:w.heap.size≠w.heap.size+1:=by omega
   generalize hLB:mY c2=LB at B8 Lh;clear hLB;by_cases h0:0<K
   ·have q0:(0:Int)<(K:Int):=by omega
    go_upto_region 8 with fail
    have b0:=fu.cell 0;have b1:=fu.cell 1;have b2:=fu.cell 2;have b3:=fu.cell 3;have b4:=fu.cell 4;have b5:=fu.cell 5;simp at b0 b1 b2 b3 b4 b5;refine wp_region_held_drew (S:=ib (w.heap.size+1) T1 K) bg (Yo.out w6.drew (show ed w6.drew (w.heap.size+1) px 5 from hM)) (fun hHeld=>?_);refine nP 0 ?_ (hy:=by(intro w hSw;unfold ib at hSw;go_simp;try with_reducible rfl));try simp only[cq]
    refine nP 1 ?_ (hy:=by(intro w hSw;unfold ib at hSw;go_simp;try with_reducible rfl));try simp only[cq]
    refine nP 2 ?_ (hy:=by(intro w hSw;unfold ib at hSw;go_simp;try with_reducible rfl));try simp only[cq]
    refine nP 3 ?_ (hy:=by(intro w hSw;unfold ib at hSw;go_simp;try with_reducible rfl));try simp only[cq]
    refine nP 4 ?_ (hy:=by(intro w hSw;unfold ib at hSw;go_simp;try with_reducible rfl));try simp only[cq]
    refine nP 5 ?_ (hy:=by(intro w hSw;unfold ib at hSw;go_simp;try with_reducible rfl));try simp only[cq]
    refine nP 6 ?_ (hy:=by(intro w hSw;unfold ib at hSw;go_simp;try with_reducible rfl));try simp only[cq]
    refine nP 7 ?_ (hy:=by(intro w hSw;unfold ib at hSw;go_simp;try with_reducible rfl));try simp only[cq]
    refine nP 8 ?_ (hy:=by(intro w hSw;unfold ib at hSw;go_simp;try with_reducible rfl));try simp only[cq]
    refine nP 9 ?_ (hy:=by(intro w hSw;unfold ib at hSw;go_simp;try with_reducible rfl));try simp only[cq]
    refine nP 10 ?_ (hy:=by(intro w hSw;unfold ib at hSw;go_simp;try with_reducible rfl));try simp only[cq]
    refine jk 11 fun K hK=>?_;go_simp;refine(Lh.out _).mono ?_;rintro r w9⟨rfl,d9⟩;have hM:=ed.below (show ed w6.drew (w.heap.size+1) px 5 from hM) d9 hM.lt;have fu:=aD.below (show aD w6.drew w.heap.size 245 _ from fu) d9 fu.lt;have hb6:=after (show Below w.heap.size w w6.drew from⟨hb6.os,hb6.tape,hb6.output,hb6.size,hb6.block⟩) d9;have b0:=fu.cell 0;have b1:=fu.cell 1;have b2:=fu.cell 2;have b3:=fu.cell 3;have b4:=fu.cell 4;have b5:=fu.cell 5;simp at b0 b1 b2 b3 b4 b5;have z0:=fu.frozen 0;have z1:=fu.frozen 1;have z2:=fu.frozen 2;have z3:=fu.frozen 3;have z4:=fu.frozen 4;have z5:=fu.frozen 5;refine hK.out _ _ (Yo.out w9 hM) (fun hHeld=>?_);clear hK K;try simp only[cq]
    refine nP 12 ?_ (hy:=by(intro w hSw;unfold ib at hSw;go_simp;try with_reducible rfl));try simp only[cq]
    refine jk 13 fun K hK=>?_;go_simp;refine hK.out _ _ (Yo.out _ (ed.abE hM hgm)) (fun hHeld=>?_);clear hK K;try simp only[cq]
    refine nP 14 ?_ (hy:=by(intro w hSw;unfold ib at hSw;go_simp;try with_reducible rfl));try simp only[cq]
    refine qR ?_;go_wp2_with fail
    obtain⟨q1,q2⟩:=tL (v0:=.int .u8 K) (v1:=.string T2) (v2:=.bool false) (v3:=.int .u64 0) (v4:=.int .u64 0) (v5:=.int .u8 0) fu hb6 (aw _);refine bodyPost_ret (bn rfl rfl rfl (nk q1)) rfl ⟨⟨⟨K,T2,Pf.zero⟩,?_,?_⟩,q2⟩
    ·rw[B8.out];cases LB with
     |true=>rw[if_pos ⟨h0,rfl⟩];rfl
     |false=>rw[if_neg (by simp)];rfl
    ·intro x hx;rw[B8.out]at hx;split at hx
     ·injection hx
     ·cases hx
   ·obtain rfl:K=0:=by omega
    go_upto_region 8 with fail
    have b0:=fu.cell 0;have b1:=fu.cell 1;have b2:=fu.cell 2;have b3:=fu.cell 3;have b4:=fu.cell 4;have b5:=fu.cell 5;simp at b0 b1 b2 b3 b4 b5;have z0:=fu.frozen 0;have z1:=fu.frozen 1;have z2:=fu.frozen 2;have z3:=fu.frozen 3;have z4:=fu.frozen 4;have z5:=fu.frozen 5;refine wp_region_held_drew (S:=ib (w.heap.size+1) T1 0) bg (Yo.out w6.drew (show ed w6.drew (w.heap.size+1) px 5 from hM)) (fun hHeld=>?_);refine nP 0 ?_ (hy:=by(intro w hSw;unfold ib at hSw;go_simp;try with_reducible rfl));try simp only[cq]
    refine nP 1 ?_ (hy:=by(intro w hSw;unfold ib at hSw;go_simp;try with_reducible rfl));try simp only[cq]
    refine nP 2 ?_ (hy:=by(intro w hSw;unfold ib at hSw;go_simp;try with_reducible rfl));try simp only[cq]
    refine nP 3 ?_ (hy:=by(intro w hSw;unfold ib at hSw;go_simp;try with_reducible rfl));try simp only[cq]
    refine nP 4 ?_ (hy:=by(intro w hSw;unfold ib at hSw;go_simp;try with_reducible rfl));try simp only[cq]
    refine nP 5 ?_ (hy:=by(intro w hSw;unfold ib at hSw;go_simp;try with_reducible rfl));try simp only[cq]
    refine nP 6 ?_ (hy:=by(intro w hSw;unfold ib at hSw;go_simp;try with_reducible rfl));try simp only[cq]
    refine nP 7 ?_ (hy:=by(intro w hSw;unfold ib at hSw;go_simp;try with_reducible rfl));try simp only[cq]
    refine nP 8 ?_ (hy:=by(intro w hSw;unfold ib at hSw;go_simp;try with_reducible rfl));try simp only[cq]
    refine nP 9 ?_ (hy:=by(intro w hSw;unfold ib at hSw;go_simp;try with_reducible rfl));try simp only[cq]
    refine Ep 10 ?_
    refine Ep 11 ?_
    refine nP 12 ?_ (hy:=by(intro w hSw;unfold ib at hSw;go_simp;try with_reducible rfl));try simp only[cq]
    refine jk 13 fun K hK=>?_;go_simp;refine hK.out _ _ (Yo.out _ (ed.abE hM hgm).drw) (fun hHeld=>?_);clear hK K;try simp only[cq]
    refine nP 14 ?_ (hy:=by(intro w hSw;unfold ib at hSw;go_simp;try with_reducible rfl));try simp only[cq]
    refine qR ?_;go_wp2_with fail
    obtain⟨q1,q2⟩:=tL (v0:=.int .u8 0) (v1:=.string T2) (v2:=.bool false) (v3:=.int .u64 0) (v4:=.int .u64 0) (v5:=.int .u8 0) fu hb6 (aw _);refine bodyPost_ret (bn rfl rfl rfl (nk q1.drew)) rfl ⟨⟨⟨0,T2,Pf.zero⟩,?_,?_⟩,q2.drew⟩
    ·rw[B8.out,if_neg (by simp)];rfl
    ·intro x hx;rw[B8.out,if_neg (by simp)]at hx;cases hx
open Go.Sort
theorem PH{w:World}(env:Env w)(u:Nat)(hu:u<65536):Calls ag 256 #[.int .u64 u,.int .i64 10] w (Got (.string ⟨(b7 u).toArray⟩) w):=by
 by_cases hs:u<100
 ·have q1:(u:Int)<100:=by omega
  have HS:=ae fun v=>Tryz.internal_strconv_small u hs v
  have hb0:=Below.refl w.heap.size w;clear hs env;go_enter Tryz.func256,Tryz.ntmps256;go_wp2_with(go_at_call 284;(with_reducible refine(HS.out _).mono ?_);rintro r w2⟨rfl,rfl⟩)
  go_ret;exact⟨rfl,hb0⟩
 ·have q1:¬(u:Int)<100:=by omega
  have hu1:1≤u:=by omega
  have hu64:u<18446744073709551616:=by omega
  have hnd20:Lib.nDigits u≤20:=by have:=Lib.numDigits_eq u hu1 hu64;split at this<;>omega
  have hal:ag.arrayLen 364=24:=by simp[Program.arrayLen,Tryz.underlying364]
  have hsl:∀W,(Instr.sliceAt 364 (.pointer (some ⟨w.heap.size,0,none⟩)) none (some (.int .i64 (Lib.nDigits u:Int))) none).run ag W=.ok (.slice (some ⟨w.heap.size,0,none⟩) (Lib.nDigits u) 24) W:=fun W=>by
   rw[run_sliceAt_array_h W 364 ⟨w.heap.size,0,none⟩ (by simp[Program.arrayLen,Program.elem,Tryz.underlying364]) .i64 (Lib.nDigits u:Int) aM (by rw[hal];omega)];go_simp;try omega
  have hH0:=Lib.holds_zero0 w 364 (Lib.nDigits u) aM;have hfmt:=Tryz.internal_strconv_formatBase10 w.heap.size 0 24 u (Array.replicate (Lib.nDigits u) 0) (w.alloc (.cells Lib.zeros24 364)) hH0 (by rw[Array.size_replicate];exact Lib.lt_pow_nDigits u) hu64 (by rw[Array.size_replicate];omega);rw[Array.size_replicate]at hfmt;rw[show Lib.zeros24= #[.int .u8 0,.int .u8 0,.int .u8 0,.int .u8 0,.int .u8 0,.int .u8 0,.int .u8 0,.int .u8 0,.int .u8 0,.int .u8 0,.int .u8 0,.int .u8 0,.int .u8 0,.int .u8 0,.int .u8 0,.int .u8 0,.int .u8 0,.int .u8 0,.int .u8 0,.int .u8 0,.int .u8 0,.int .u8 0,.int .u8 0,.int .u8 0]from rfl]at hfmt hH0;obtain⟨HH0,HF⟩:=aI hH0 hfmt;have HN:=ae fun v(hv:Below w.heap.size w v)=>Tryz.internal_strconv_numDigits u hu1 hu64 v (env.below hv).pow
  have hba:=boxed w (.cells #[.int .u8 0,.int .u8 0,.int .u8 0,.int .u8 0,.int .u8 0,.int .u8 0,.int .u8 0,.int .u8 0,.int .u8 0,.int .u8 0,.int .u8 0,.int .u8 0,.int .u8 0,.int .u8 0,.int .u8 0,.int .u8 0,.int .u8 0,.int .u8 0,.int .u8 0,.int .u8 0,.int .u8 0,.int .u8 0,.int .u8 0,.int .u8 0] 364);clear hH0 hal hfmt env hs hu hu1 hu64;go_enter Tryz.func256,Tryz.ntmps256;go_wp2_with(go_at_call 285;(with_reducible refine(HN.out _ hba).mono ?_);rintro r w2⟨rfl,rfl⟩)
  go_at_call 286;refine HF.out.mono ?_;rintro e W⟨rfl,k,v',dk,hW,hF⟩;have hcv:(convert 67 9 (.slice (some ⟨w.heap.size,0,none⟩) (Lib.nDigits u) 24)).run ag W=.ok (.string ⟨(b7 u).toArray⟩) W:=by
   have h:=run_convert_bytes_back (P:=ag) W 67 9 5 ⟨w.heap.size,0,none⟩ 24 (b7 u) Tryz.underlying67 Tryz.underlying5 aZ (fun j hj=>by
    rw[hW,Lib.row_is_numeral hF j hj,Lib.add_plain,World.cell?_drewN];exact cell?_putRow (fun(b:UInt8)=>Value.int .u8 (b.toNat:Int)) _ w.heap.size 0 _ dk HH0.out (by rw[hF.size,Array.size_replicate]) j (by rw[hF.size];rw[Lib.decDigits_length]at hj;exact hj))
   rw[Lib.decDigits_length]at h;exact h
  have hbW:Below w.heap.size w W:=by
   rw[hW];obtain⟨os,eo⟩:=Lib.fin_at w (.cells #[.int .u8 0,.int .u8 0,.int .u8 0,.int .u8 0,.int .u8 0,.int .u8 0,.int .u8 0,.int .u8 0,.int .u8 0,.int .u8 0,.int .u8 0,.int .u8 0,.int .u8 0,.int .u8 0,.int .u8 0,.int .u8 0,.int .u8 0,.int .u8 0,.int .u8 0,.int .u8 0,.int .u8 0,.int .u8 0,.int .u8 0,.int .u8 0] 364) dk k 0;rw[eo];exact Lib.below_grow _ _ (aw _) _ _
  clear hW hF;go_wp2_with fail
  go_ret;exact⟨rfl,hbW⟩
theorem fmt10{w:World}(env:Env w)(u:Nat)(hu:u<65536):Calls ag 217 #[.int .u64 u,.int .i64 10] w (Got (.string ⟨(b7 u).toArray⟩) w):=by
 have H:=ae (PH env u hu);clear env;go_enter Tryz.func217,Tryz.ntmps217;go_wp2_with(go_at_call 256;(with_reducible refine H.out.mono ?_);rintro r w2⟨rfl,d2⟩)
 go_ret;exact⟨rfl,d2⟩
theorem Vq{w:World}(env:Env w)(t:ByteArray)(hs:t.size≤4000000):Calls ag 293 #[.string t,.int .i64 10,.int .i64 16] w (xQ 10 65536 t.data.toList w):=by
 have hn:=EZ (B:=16) aF t.data.toList;rcases h:Lib.parseUintB 16 t.data.toList with u|_|_
 ·rw[h]at hn;refine(Tryz.strconv_ParseUint_10_at16_ok t aM u h w).mono ?_;rintro e w'⟨rfl,hw⟩;refine⟨Or.inl ⟨u,hn,rfl⟩,?_⟩;rcases hw with rfl|rfl
  ·exact Below.refl _ _
  ·exact Lib.bytesWorld_below _ _ _
 ·rw[h]at hn;obtain⟨tp,p,hv⟩:=env.es;refine(Any.strconv_ParseUint_10_at16_syntax Tryz.laysPu14 t aM h (.iface tp p) w hv (Or.inr ⟨tp,p,rfl⟩)).mono ?_;rintro e w'⟨N,rfl,_,_,hb⟩;exact⟨Or.inr ⟨hn,0,_,_,by decide,rfl⟩,hb⟩
 ·rw[h]at hn;obtain⟨tp,p,hv⟩:=env.er;refine(Tryz.strconv_ParseUint_10_at16_range t aM h (.iface tp p) w hv (Or.inr ⟨tp,p,rfl⟩)).mono ?_;rintro e w'⟨N,rfl,_,_,hb⟩;exact⟨Or.inr ⟨hn,65535,_,_,by decide,rfl⟩,hb⟩
def Vr(o:Option Nat)(w:World)(r:Ending)(w':World):Prop:=(∃n:Nat,n<65536∧r=.returned (.tuple #[.int .u16 n,.bool o.isSome])∧∀x,o=some x→n=x)∧Below w.heap.size w w'
theorem B9{w:World}(env:Env w)(s:ByteArray)(hs:s.size≤4000000):Calls ag 296 #[.string s] w (Vr (si s.data.toList) w):=by
 have hpu:=Vq env s hs;have hfm:=fun v(hv:Below w.heap.size w v)u hu=>fmt10 (env.below hv) u hu
 obtain⟨HPU,HFM⟩:=aI hpu hfm;obtain⟨R,hR⟩:∃r,r=si s.data.toList:=⟨_,rfl⟩;rw[←hR];have HR:=ae hR;clear hpu hfm env hR hs;go_enter Tryz.func296,Tryz.ntmps296;go_wp2_with fail
 go_at_call 293;refine HPU.out.mono ?_;rintro e w1⟨⟨n,hn,rfl⟩|⟨hn,n,tp,p,Zk,rfl⟩,hb⟩
 ·have hlt:=lK hn;have hres:R=if b7 n=s.data.toList then some n else none:=by
   rw[HR.out];unfold si;rw[hn];rfl
  have hss:((⟨(b7 n).toArray⟩:ByteArray).toList==s.toList)=decide (b7 n=s.data.toList):=by
   rw[bO,bO];by_cases e:b7 n=s.data.toList
   ·rw[decide_eq_true e];simp[e]
   ·rw[decide_eq_false e,beq_eq_false_iff_ne];exact e
  obtain⟨HF,Cb⟩:=aI (HFM.out w1 hb n hlt) hres;obtain⟨D,hD⟩:∃d,d=decide (b7 n=s.data.toList):=⟨_,rfl⟩;rw[←hD]at hss;have HD:=ae hD;have i1:IntKind.u16.wrap (n:Int)=(n:Int):=by rw[IntKind.wrap_u16];omega
  generalize(⟨(b7 n).toArray⟩:ByteArray)=TT at hss HF;have Hb:=ae hb;clear hn hres hD hb HR HPU HFM;go_wp2_with(go_at_call 217;(with_reducible refine HF.out.mono ?_);rintro r w2⟨rfl,d2⟩)
  go_ret2;refine⟨⟨n,hlt,?_,fun x hx=>?_⟩,after Hb.out d2⟩
  ·rw[Cb.out,HD.out];by_cases e:b7 n=s.data.toList
   ·rw[if_pos e,decide_eq_true e];rfl
   ·rw[if_neg e,decide_eq_false e];rfl
  ·rw[Cb.out]at hx;split at hx
   ·injection hx
   ·cases hx
 ·have hres:R=none:=by
   rw[HR.out];unfold si;rw[hn];rfl
  obtain⟨Cb,Hb⟩:=aI hres hb;obtain⟨M,hM⟩:∃M:Nat,IntKind.u16.wrap (n:Int)=(M:Int)∧M<65536:=⟨n%65536,by rw[IntKind.wrap_u16];omega,by omega⟩;have i1:=hM.1;clear hn hres hb HR HPU HFM;go_wp2_with fail
  go_ret2;refine⟨⟨M,hM.2,?_,fun x hx=>?_⟩,Hb.out⟩
  ·rw[Cb.out];rfl
  ·rw[Cb.out]at hx;cases hx
end Go.Proofs.YteflnojjjdkgmaaGreatDoor
