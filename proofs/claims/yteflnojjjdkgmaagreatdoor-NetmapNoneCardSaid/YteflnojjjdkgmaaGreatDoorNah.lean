/- Joined out of: PlJ PlK PlL PlM. -/
import Derived.Test.YteflnojjjdkgmaaGreatDoorNag
import Derived.Deep.AppendLies
set_option linter.unusedVariables false
set_option linter.unusedSimpArgs false
set_option maxHeartbeats 16000000
set_option maxRecDepth 100000
open ByteArray renaming empty→iy,size→afe
open Go.Lib renaming hid→ae
open Go.Proofs.Tryz renaming prog→ag,underlying9→aZ,underlying67→cn,underlying41→afo
open Go.RowKit renaming Hid→af
open Go.Value renaming string→cC,slice→cJ
open Go.World renaming ownsRow_nil→a8
open List renaming getElem?_eq_getElem→ah,length_append→ai,length_map→ax,drop_eq_getElem_cons→bz,getElem?_map→bA,length_singleton→cI,drop_eq_nil_of_le→mC,getElem?_eq_none_iff→afy
open Nat renaming le_refl→aw
namespace Go.Proofs.YteflnojjjdkgmaaGreatDoor
open Go.RowKit
attribute [local go_sem↓] Go.wp_at_zero Go.wp_at_succ
def PI(o:Option (Nat×Nat))(w:World)(r:Ending)(w':World):Prop:=(∃a b:Nat,a<65536∧b<65536∧r=.returned (.tuple #[.agg #[.int .u16 a,.int .u16 b],.bool o.isSome])∧∀x,o=some x→x=(a,b))∧Below w.heap.size w w'
theorem I2{w:World}{g:Nat}{a b:Value}(h:aD w g 345 #[a,b]):(loadVar 345 ⟨g,0,none⟩).run ag w=.ok (.agg #[a,b]) w:=by
 have h0:=h.cell 0;have h1:=h.cell 1;simp at h0 h1;simp[loadVar,go_sem,h0,h1]
theorem xX(o1 o2:Option Nat)(n1 n2:Nat)(R:Option (Nat×Nat))(hR:R=match o1,o2 with
 |some a,some b=>if a≤b then some (a,b)else none
 |_,_=>none) (h1:∀x,o1=some x→n1=x) (h2:∀x,o2=some x→n2=x):R.isSome=(o1.isSome&&o2.isSome&&decide (n1≤n2))∧∀x,R=some x→x=(n1,n2):=by
 subst hR;cases o1 with
 |none=>exact⟨rfl,fun x hx=>by cases hx⟩
 |some a=>
  cases o2 with
  |none=>exact⟨rfl,fun x hx=>by cases hx⟩
  |some b=>
   obtain rfl:=h1 _ rfl;obtain rfl:=h2 _ rfl;by_cases h:n1≤n2
   ·simp[h]
   ·simp[h]
theorem xY{w:World}(env:Env w)(s:ByteArray)(hs:s.size≤2000000):Calls ag 267 #[.string s] w (PI (kA s) w):=by
 have hB0:=aD.new w 345 #[.int .u16 0,.int .u16 0];have hb0:=boxed w (.cells #[.int .u16 0,.int .u16 0] 345);obtain⟨mx,hmx⟩:=(env.below hb0).mx;have hcut:=Tryz.strings_Cut s ⟨#[45]⟩ mx _ aM hmx;have hcl:=tJ s.data.toList [45];rw[show(⟨#[45]⟩:ByteArray).data.toList=[45]from rfl]at hcut;obtain⟨RES,dT⟩:∃r,r=kA s:=⟨_,rfl⟩;rw[←dT];unfold kA at dT;simp only at dT;generalize Lib.cut s.data.toList [45]=C at hcl hcut dT;obtain⟨c1,c2,gap⟩:=C;simp only at hcl hcut dT;rw[show s.data.toList.length=s.size from(Lib.size_eq s).symm]at hcl;have hp1:=fun v(hv:Below w.heap.size w v)=>B9 (env.below hv) ⟨c1.toArray⟩ (by rw[show(⟨c1.toArray⟩:ByteArray).size=c1.length by simp[afe]];omega)
 have hp2:=fun v(hv:Below w.heap.size w v)=>B9 (env.below hv) ⟨(if gap=true then c2 else c1).toArray⟩ (by rw[show(⟨(if gap=true then c2 else c1).toArray⟩:ByteArray).size=(if gap=true then c2 else c1).length by simp[afe]];split<;>omega)
 rw[show(⟨c1.toArray⟩:ByteArray).data.toList=c1 from rfl]at hp1;rw[show(⟨(if gap=true then c2 else c1).toArray⟩:ByteArray).data.toList=(if gap=true then c2 else c1)from rfl]at hp2;obtain⟨lF,iH,Hb0,HB0,wX⟩:=dR hp1 dT hb0 hB0 hcut;clear hp1 dT hcut hcl hmx env hb0 hB0;obtain⟨X,hX⟩:∃X,X=(if gap=true then c2 else c1):=⟨_,rfl⟩;rw[←hX]at hp2 iH;have HP2:=ae hp2;clear hp2;go_enter Tryz.func267,Tryz.ntmps267;go_upto_region 2 with(go_at_call 291;(with_reducible refine wX.out.mono ?_);rintro r wq⟨rfl,nq,rfl⟩)
 obtain⟨w1,hw1⟩:∃w1,w1=((w.alloc (.cells #[.int .u16 0,.int .u16 0] 345)).drewN nq):=⟨_,rfl⟩;have Hb1:af (Below w.heap.size w w1):=by subst hw1;exact ae ⟨Hb0.out.os,Hb0.out.tape,Hb0.out.output,Hb0.out.size,Hb0.out.block⟩
 have HB1:af (aD w1 w.heap.size 345 #[.int .u16 0,.int .u16 0]):=by subst hw1;exact HB0
 rw[←hw1];clear hw1 Hb0 HB0 wX;cases gap with
 |true=>
  simp only[if_true]at hX;subst hX;go_upto_region 4 with fail
  go_upto_region 5 with(go_at_call 296;(with_reducible refine(lF.out _ Hb1.out).mono ?_);rintro r w2⟨⟨n1,hn1,rfl,hx1⟩,d2⟩)
  have Hb2:=aU Hb1 d2;have HB2:=ae (HB1.out.below d2 HB1.out.lt);clear d2 Hb1 HB1 lF;have Hx1:=ae hx1;clear hx1;go_upto_region 6 with(go_at_call 296;(with_reducible refine(HP2.out _ Hb2.out).mono ?_);rintro r w3⟨⟨n2,hn2,rfl,hx2⟩,d3⟩)
  have Hb3:=aU Hb2 d3;obtain⟨HB3,Hx2⟩:=aI (HB2.out.below d3 HB2.out.lt) hx2;clear d3 Hb2 HB2 HP2 hx2;have b0:=HB3.out.cell 0;have b1:=HB3.out.cell 1;have z0:=HB3.out.frozen 0;have z1:=HB3.out.frozen 1;simp at b0 b1 z0 z1;go_wp2_with fail
  all_goals
   obtain⟨e1,e2⟩:=xX _ _ n1 n2 RES iH.out Hx1.out Hx2.out;have s0:aD (w3.setCell ⟨w.heap.size,0,none⟩ (.int .u16 n1)) w.heap.size 345 #[.int .u16 n1,.int .u16 0]:=HB3.out.aN 0 _;have s1:aD ((w3.setCell ⟨w.heap.size,0,none⟩ (.int .u16 n1)).setCell ⟨w.heap.size,1,none⟩ (.int .u16 n2)) w.heap.size 345 #[.int .u16 n1,.int .u16 n2]:=s0.aN 1 _;have q:=(Hb3.out.setCell (p:=⟨w.heap.size,0,none⟩) (aw _) (.int .u16 n1)).setCell (p:=⟨w.heap.size,1,none⟩) (aw _) (.int .u16 n2);refine bodyPost_ret (bn rfl rfl rfl (I2 s1)) rfl ⟨⟨n1,n2,hn1,hn2,?_,e2⟩,q⟩;rw[e1];simp[*]
 |false=>
  simp only[Bool.false_eq_true,if_false]at hX;subst hX;go_upto_region 4 with fail
  go_upto_region 5 with(go_at_call 296;(with_reducible refine(lF.out _ Hb1.out).mono ?_);rintro r w2⟨⟨n1,hn1,rfl,hx1⟩,d2⟩)
  have Hb2:=aU Hb1 d2;have HB2:=ae (HB1.out.below d2 HB1.out.lt);clear d2 Hb1 HB1 lF;have Hx1:=ae hx1;clear hx1;go_upto_region 6 with(go_at_call 296;(with_reducible refine(HP2.out _ Hb2.out).mono ?_);rintro r w3⟨⟨n2,hn2,rfl,hx2⟩,d3⟩)
  have Hb3:=aU Hb2 d3;obtain⟨HB3,Hx2⟩:=aI (HB2.out.below d3 HB2.out.lt) hx2;clear d3 Hb2 HB2 HP2 hx2;have b0:=HB3.out.cell 0;have b1:=HB3.out.cell 1;have z0:=HB3.out.frozen 0;have z1:=HB3.out.frozen 1;simp at b0 b1 z0 z1;go_wp2_with fail
  all_goals
   obtain⟨e1,e2⟩:=xX _ _ n1 n2 RES iH.out Hx1.out Hx2.out;have s0:aD (w3.setCell ⟨w.heap.size,0,none⟩ (.int .u16 n1)) w.heap.size 345 #[.int .u16 n1,.int .u16 0]:=HB3.out.aN 0 _;have s1:aD ((w3.setCell ⟨w.heap.size,0,none⟩ (.int .u16 n1)).setCell ⟨w.heap.size,1,none⟩ (.int .u16 n2)) w.heap.size 345 #[.int .u16 n1,.int .u16 n2]:=s0.aN 1 _;have q:=(Hb3.out.setCell (p:=⟨w.heap.size,0,none⟩) (aw _) (.int .u16 n1)).setCell (p:=⟨w.heap.size,1,none⟩) (aw _) (.int .u16 n2);refine bodyPost_ret (bn rfl rfl rfl (I2 s1)) rfl ⟨⟨n1,n2,hn1,hn2,?_,e2⟩,q⟩;rw[e1];simp[*]
def iI(c:UInt8)(s:ByteArray):List ByteArray:=(cN c s.data.toList).map gW
theorem qg(c:UInt8)(s:ByteArray):(iI c s).map (·.data.toList)=cN c s.data.toList:=by
 unfold iI;rw[List.map_map];exact List.map_id _
theorem Cc{c:UInt8}{s:ByteArray}:∀t∈iI c s,t.size≤s.size:=by
 intro t ht;obtain⟨x,hx,rfl⟩:=List.mem_map.1 ht;have:=sy hx;rw[show s.data.toList.length=s.size from(Lib.size_eq s).symm]at this;show(x.toArray).size≤s.size;rw[List.size_toArray];exact this
theorem oQ(c:UInt8)(s:ByteArray):(iI c s).length≤s.size+1:=by
 unfold iI;rw[ax];have:=oL c s.data.toList;rw[show s.data.toList.length=s.size from(Lib.size_eq s).symm]at this;omega
theorem uL{w:World}(env:Env w)(s:ByteArray)(hs:s.size≤2000000)(c:UInt8):Calls ag 173 #[.string s,.string ⟨#[c]⟩] w fun r w'=>r=.returned (.slice (some ⟨w.heap.size,0,none⟩) (iI c s).length (iI c s).length)∧w'=w.alloc (.cells ((iI c s).map cC).toArray 9):=by
 obtain⟨m,hm⟩:=env.mx;have HS:=Tryz.strings_Split s ⟨#[c]⟩ m w aM hm (show 1≤1 from aw _);have hsp:=uj s ⟨#[c]⟩ c rfl;have hP:Lib.splitB ⟨#[c]⟩ 0 (Lib.countB s ⟨#[c]⟩) s=iI c s:=by
  unfold iI;rw[←hsp,List.map_map];exact(List.map_id _).symm
 have hcount:Lib.countB s ⟨#[c]⟩+1=(iI c s).length:=by
  have:=Lib.splitB_all (⟨#[c]⟩:ByteArray) (show 1≤1 from aw _) 0 (Lib.countB s ⟨#[c]⟩) s rfl;rw[hP]at this;omega
 rw[hcount,hP]at HS;exact HS.mono fun r w' h=>h
def zc:List SE:=[⟨yK,.int .u8 1,0⟩,⟨IW,.int .u8 6,1⟩,⟨IX,.int .u8 17,2⟩]
theorem wY{w:World}{m clock:Nat}(h:ed w m zc clock)(s:ByteArray):(Instr.lookup 377 (.map (some m)) (.string s) false).run ag w=.ok (.int .u8 (fD s.data.toList:Int)) w:=by
 have hT:=Tryz.underlying377;have hK:=aZ;unfold fD;rw[pT];by_cases e1:s=yK
 ·subst e1;rw[if_pos rfl];exact fe hT hK h _ (j:=0) (x:=⟨yK,.int .u8 1,0⟩) (by decide+kernel) rfl
 rw[if_neg e1];by_cases e2:s=IW
 ·subst e2;rw[if_pos rfl];exact fe hT hK h _ (j:=1) (x:=⟨IW,.int .u8 6,1⟩) (by decide+kernel) rfl
 rw[if_neg e2];by_cases e3:s=IX
 ·subst e3;rw[if_pos rfl];exact fe hT hK h _ (j:=2) (x:=⟨IX,.int .u8 17,2⟩) (by decide+kernel) rfl
 rw[if_neg e3];refine kW hT hK h s ?_ (Tryz.zeroValue5 w);unfold at_ zc;simp only[List.findIdx?_cons,List.findIdx?_nil];rw[cR (Ne.symm e1),cR (Ne.symm e2),cR (Ne.symm e3)];rfl
theorem Cd(w0:World):∃w1 w2 w3:World,(Instr.mapUpdate 377 (.map (some w0.heap.size)) (.string ⟨#[105,99,109,112]⟩) (.int .u8 1)).run ag (w0.alloc (.map #[] 0))=.ok () w1∧(Instr.mapUpdate 377 (.map (some w0.heap.size)) (.string ⟨#[116,99,112]⟩) (.int .u8 6)).run ag w1=.ok () w2∧(Instr.mapUpdate 377 (.map (some w0.heap.size)) (.string ⟨#[117,100,112]⟩) (.int .u8 17)).run ag w2=.ok () w3∧ed w3 w0.heap.size zc 3∧Below w0.heap.size w0 w3:=by
 have hT:=Tryz.underlying377;have hK:=aZ;have h0:ed (w0.alloc (.map #[] 0)) w0.heap.size [] 0:=heap_alloc_new w0 _;obtain⟨w1,e1,_,_,k1,m1⟩:=ez (P:=ag) hT hK h0 ⟨#[105,99,109,112]⟩ (by decide+kernel) (.int .u8 1);obtain⟨w2,e2,_,_,k2,m2⟩:=ez (P:=ag) hT hK m1 ⟨#[116,99,112]⟩ (by decide+kernel) (.int .u8 6);obtain⟨w3,e3,_,_,k3,m3⟩:=ez (P:=ag) hT hK m2 ⟨#[117,100,112]⟩ (by decide+kernel) (.int .u8 17);refine⟨w1,w2,w3,e1,e2,e3,m3,?_⟩;exact(boxed w0 _).trans (Keeps.below ((k1.trans k2).trans k3) (fun k hk=>by rw[hk];exact aw _) (by simp))
def dQ(l:List Nat):List Value:=l.map fun x:Nat=>Value.int .u8 (x:Int)
def fm(o:Option (List Nat))(w:World)(r:Ending)(w':World):Prop:=(match o with
 |none=>r=.returned (.tuple #[.slice none 0 0,.bool false])
 |some L=>∃v:Value,r=.returned (.tuple #[v,.bool true])∧w'.ownsRow w.heap.size 5 1 v L.length (dQ L))∧Below w.heap.size w w'
theorem fm.bad{W w':World}{o:Option (List Nat)}(h:o=none)(hb:Below W.heap.size W w'):fm o W (.returned (.tuple #[.slice none 0 0,.bool false])) w':=by rw[h];exact⟨rfl,hb⟩
theorem fm.good{W w':World}{o:Option (List Nat)}{L:List Nat}{v:Value}(h:o=some L)(ho:w'.ownsRow W.heap.size 5 1 v L.length (dQ L))(hb:Below W.heap.size W w'):fm o W (.returned (.tuple #[v,.bool true])) w':=by rw[h];exact⟨⟨v,rfl,ho⟩,hb⟩
theorem PK:(ag.info? 5).map (fun i=>(i.zero,i.size,i.bytes))=some (some (.int .u8 0),1,1):=by kernel_rfl
def nn(l:List Nat):Nat:=(l[l.length-1]?).getD 0
theorem FP{l:List Nat}(h:0<l.length):(dQ l)[l.length-1]? =some (.int .u8 (nn l:Int)):=by
 unfold dQ nn;rw[bA,ah aM];rfl
theorem uM(l:List Nat)(x:Nat):nn (l++[x])=x:=by simp[nn]
theorem mG(l:List Nat)(x:Nat):dQ (l++[x])=dQ l++[.int .u8 x]:=by simp[dQ]
theorem Lj(w:List UInt8):fD w≤17:=by unfold fD;split;omega;split;omega;split<;>omega
theorem wZ{last:Nat}{acc:List Nat}{t:List UInt8}{r:List (List UInt8)}:(eU last (t::r)).map (acc++·)=if fD t=0∨fD t≤last then none else(eU (fD t) r).map ((acc++[fD t])++·):=by
 rw[eU];split
 ·rfl
 ·rw[Option.map_map];congr 1;funext x;simp
theorem FQ{w:World}(env:Env w)(s:ByteArray)(hs:s.size≤2000000):Calls ag 265 #[.string s] w (fm (gj s) w):=by
 by_cases hst:s=IV
 ·subst hst;rw[show gj IV=some [] by unfold gj;rw[if_pos rfl]];unfold IV;have hb0:=Below.refl w.heap.size w;clear env hs;go_enter Tryz.func265,Tryz.ntmps265;go_wp2_with fail
  go_ret2;exact fm.good (v:=.slice none 0 0) rfl (a8 _ _ _ _) hb0
 ·have hss:(s.toList==[97,110,121])=false:=by
   rw[beq_eq_false_iff_ne];intro h;rw[ByteArray.toList_eq]at h;exact hst (ByteArray.ext (Array.ext' h))
  obtain⟨i0,hi,hz0,hz1,hz2⟩:=info_parts PK;have hmm:= @run_makeMap ag;obtain⟨w1,w2,w3,e1,e2,e3,hM,hbm⟩:=Cd w;have hsp:=uL (env.below hbm) s hs 44;obtain⟨RES,dT⟩:∃r,r=gj s:=⟨_,rfl⟩;rw[←dT];unfold gj at dT;rw[if_neg hst,←qg]at dT;have KI:=oQ 44 s;generalize iI 44 s=F at hsp dT KI;obtain⟨N,hN⟩:∃n,n=F.length:=⟨_,rfl⟩;rw[←hN]at hsp KI;have hN1:N≤2000001:=by omega
  have HSp:=ae hsp;have iH:af (RES=(eU (nn []) ((F.map (·.data.toList)).drop 0)).map (([]:List Nat)++·)):=ae (by rw[dT];simp[nn]);obtain⟨HN,HM,Hbm⟩:=bj hN hM hbm;have hsz3:w.heap.size<w3.heap.size:=hM.lt;clear hsp dT hM hbm hN hst env KI;go_enter Tryz.func265,Tryz.ntmps265;go_wp2_with(go_at_call 173;(with_reducible refine HSp.out.mono ?_);rintro r wq⟨rfl,rfl⟩)
  have hrow:aD (w3.alloc (.cells (F.map cC).toArray 9)) w3.heap.size 9 (F.map cC).toArray:=aD.new _ _ _;have hb1:=boxed w3 (.cells (F.map cC).toArray 9);have Hb0:=aU Hbm hb1;obtain⟨HM0,wS⟩:=aI (HM.out.below hb1 HM.out.lt) hrow;have hsz0:w3.heap.size<(w3.alloc (.cells (F.map cC).toArray 9)).heap.size:=by simp
  clear e1 e2 e3 hmm hb1 hrow HSp Hbm HM;generalize w3.alloc (.cells (F.map cC).toArray 9)=W0 at Hb0 HM0 wS hsz0⊢;generalize w3.heap.size=gR at wS hsz0 hsz3⊢;have hmW:w.heap.size<W0.heap.size:=by omega
  go_loopw [2,15] (fun v2 v15 wr=>∃(k:Nat)(acc:List Nat)(A:Option Addr)(cap:Nat),k≤N∧v15=.int .i64 k∧v2=.slice A acc.length cap∧acc.length≤k∧af (wr.ownsRow W0.heap.size 5 1 (.slice A acc.length cap) acc.length (dQ acc))∧af (Below W0.heap.size W0 wr)∧af (RES=(eU (nn acc) ((F.map (·.data.toList)).drop k)).map (acc++·))) (fun _ v15 _=>N-(intOf v15).toNat)
  case atStart=>exact⟨0,[],none,0,Nat.zero_le _,rfl,rfl,by simp,ae (a8 _ _ _ _),ae (Below.refl _ _),iH⟩
  case round=>
   obtain⟨k,acc,A,cap,hk,rfl,rfl,hak,hown,hb,hres⟩:=hrel;by_cases hlt:k<N
   ·have Fa:k<F.length:=by have:=HN.out;omega
    have cx:=(hb.out.cell (p:=⟨gR,k,none⟩) hsz0).trans (wS.out.cell k);rw[List.getElem?_toArray,bA,ah Fa]at cx;simp only[Option.map_some]at cx;have hres2:=hres.out;rw[←List.map_drop,bz Fa,List.map_cons,wZ,List.map_drop]at hres2;generalize F[k]'Fa=T at cx hres2;have hlk:=wY (HM0.out.below hb.out hmW) T;have adK:=Lj T.data.toList;generalize fD T.data.toList=x at hres2 hlk adK;have ek:=ae hres2;clear hres2 hres Fa;by_cases hx0:x=0
    ·subst hx0;have hR:=ek.out;rw[if_pos (Or.inl rfl)]at hR;have HR:=ae hR;clear hR ek;go_wp2_with fail
     go_ret2;exact fm.bad HR.out (after Hb0.out hb.out)
    have q0:((x:Int)==0)=false:=by simp;omega
    by_cases hac:acc.length=0
    ·obtain rfl:=List.eq_nil_of_length_eq_zero hac;have hR:=ek.out;rw[if_neg (by simp[nn];omega)]at hR;have HRn:af (RES=(eU (nn ([]++[x])) ((F.map (·.data.toList)).drop (k+1))).map (([]++[x])++·)):=ae (by rw[uM];exact hR);clear hR ek hx0;go_wp2_with(at_builtin;refine wpList_append_own _ rfl _ _ 67 rfl W0.heap.size 5 i0 (.int .u8 0) 1 1 cn hi hz0 hz1 hz2 rfl aF _ 0 _ rfl (hown.out.alloc _) ⟨wr.heap.size,0,none⟩ 1 1 [.int .u8 x] rfl rfl (cell_one_new _ _ _) (fun x hx=>by simp at hx;subst hx;rfl) (by unfold maxLen;omega) aM (by have:=hb.out.size;simp;omega) ?_;intro v' w3 hown' hgrow3 hnil3;have OT:=ae hown';have hbW:=ae ((hb.out.alloc (hb.out.size) _).grown hgrow3 (by have:=hb.out.size;simp;omega) (fun q hq=>(hown.out.lt q hq).1));clear hown' hgrow3 hnil3)
     obtain⟨A',cap',rfl⟩:=aQ OT.out;go_roundw
     case rel=>exact⟨k+1,[]++[x],A',cap',by omega,by go_num,by rw[ai];rfl,by rw[ai,cI];simp,ae (by rw[mG,ai];exact OT.out),hbW,HRn⟩
     case measure=>simp[intOf];omega
    ·have hpos:0<acc.length:=by omega
     have hl:=FP hpos;rcases hown.out.2 with⟨e,_⟩|⟨g,cap2,cur,e,hrest⟩
     ·injection e with e1 e2 e3
      exact absurd e2 hac
     injection e with e1 e2 e3
     subst e1;have c2:=(hown.out.cellAt (acc.length-1) aM).trans hl;generalize hM:acc.length=M at hac hpos c2 hown hak⊢;have j1:IntKind.i64.wrap ((M:Int)-1)=((M-1:Nat):Int):=by rw[IntKind.wrap_i64];omega
     have j2:(0:Int)<(M:Int):=by omega
     generalize hLN:nn acc=LN at c2 hl ek;have PL:=ae hM;clear hM hl hrest cur hx0;by_cases hge:x≤LN
     ·have hR:=ek.out;rw[if_pos (Or.inr hge)]at hR;have HR:=ae hR;have j3:(x:Int)≤(LN:Int):=by omega
      clear hR ek hge;go_wp2_with fail
      go_ret2;exact fm.bad HR.out (after Hb0.out hb.out)
     ·have hR:=ek.out;rw[if_neg aM]at hR;have HRn:af (RES=(eU (nn (acc++[x])) ((F.map (·.data.toList)).drop (k+1))).map ((acc++[x])++·)):=ae (by rw[uM];exact hR);have j3:¬(x:Int)≤(LN:Int):=by omega
      clear hR ek hge;go_wp2_with(at_builtin;refine wpList_append_own _ rfl _ _ 67 rfl W0.heap.size 5 i0 (.int .u8 0) 1 1 cn hi hz0 hz1 hz2 rfl aF _ M _ rfl (hown.out.alloc _) ⟨wr.heap.size,0,none⟩ 1 1 [.int .u8 x] rfl rfl (cell_one_new _ _ _) (fun x hx=>by simp at hx;subst hx;rfl) (by unfold maxLen;omega) aM (by have:=hb.out.size;simp;omega) ?_;intro v' w3 hown' hgrow3 hnil3;have OT:=ae hown';have hbW:=ae ((hb.out.alloc (hb.out.size) _).grown hgrow3 (by have:=hb.out.size;simp;omega) (fun q hq=>(hown.out.lt q hq).1));clear hown' hgrow3 hnil3)
      obtain⟨A',cap',rfl⟩:=aQ OT.out;go_roundw
      case rel=>exact⟨k+1,acc++[x],A',cap',by omega,by go_num,by rw[ai,PL.out];rfl,by rw[ai,cI,PL.out];omega,ae (by rw[mG,ai,PL.out];exact OT.out),hbW,HRn⟩
      case measure=>simp[intOf];omega
   ·obtain rfl:k=N:=by omega
    have hR:=hres.out;rw[mC (by rw[ax];have:=HN.out;omega),eU]at hR;have HR:=ae hR;clear hR hres;go_wp2_with fail
    go_ret2;exact fm.good (L:=acc) (by rw[HR.out];simp) (hown.out.mono Hb0.out.size) (after Hb0.out hb.out)
def Off(S:Nat→Prop)(w:World)(T:List TypeId):Prop:=∀k,S k→∃cur e fz,w.heap[k]? =some (.cells cur e fz)∧e∈T
theorem aX{S:Nat→Prop}{w w':World}{T:List TypeId}{base size n:Nat}{e:TypeId}{v:Value}{xs:List Value}(h:w.ownsRow base e size v n xs)(hk:Keeps S w w')(ho:Off S w T)(he:e∉T):w'.ownsRow base e size v n xs:=by
 refine jd h hk fun g hg hs=>?_
 rcases h.2 with⟨e1,_⟩|⟨g',cap,cur,e1,hb,hg',rest⟩
 ·subst e1;cases hg
 ·subst e1;injection hg with hg
  subst hg;obtain⟨Zy,e2,fz,hh,hT⟩:=ho _ hs;rw[hg']at hh;injection hh with hh
  injection hh with _ h2 _
  exact he (h2▸hT)
theorem aD.off{S:Nat→Prop}{w w':World}{T:List TypeId}{g:Nat}{e:TypeId}{cs:Array Value}(h:aD w g e cs)(hk:Keeps S w w')(ho:Off S w T)(he:e∉T):aD w' g e cs:=by
 refine h.keep hk fun hs=>?_
 obtain⟨Zy,e2,fz,hh,hT⟩:=ho _ hs;unfold aD at h;rw[h]at hh;injection hh with hh
 injection hh with _ h2 _
 exact he (h2▸hT)
theorem bS{w:World}{base size n:Nat}{e:TypeId}{v:Value}{xs:List Value}(h:w.ownsRow base e size v n xs):Off (fun k=>v.ownBlock=some k) w [e]:=by
 intro k hk;rcases h.2 with⟨e1,_⟩|⟨g',cap,cur,e1,hb,hg',rest⟩
 ·subst e1;cases hk
 ·subst e1;injection hk with hk
  subst hk;exact⟨cur,e,(0,0),hg',List.mem_singleton.2 rfl⟩
theorem Keeps.row{w w':World}{row:Option Nat}(h:w.grownBy w' row):Keeps (fun k=>row=some k) w w':=Keeps.Oz h fun k hk=>hk
theorem Rs.off{S:Nat→Prop}{w w':World}{T:List TypeId}{b P k n:Nat}{lv uv:Value}{ws:List ByteArray}(h:Rs w b P k n lv uv ws)(hk:Keeps S w w')(ho:Off S w T)(h1:235∉T)(h2:247∉T):Rs w' b P k n lv uv ws:=by
 refine⟨aD.off h.blk hk ho h1,?_,h.ne,h.len,h.sizes⟩;obtain⟨base,hb⟩:=h.row;exact⟨base,aX hb hk ho h2⟩
theorem Rs.alloc{w:World}{b P k n:Nat}{lv uv:Value}{ws:List ByteArray}(h:Rs w b P k n lv uv ws)(o:Obj):Rs (w.alloc o) b P k n lv uv ws:=h.below (boxed w o)
theorem Keeps.grown{S:Nat→Prop}{a w w':World}{row:Option Nat}(h:Keeps S a w)(hg:w.grownBy w' row)(hr:∀k,row=some k→S k∨a.heap.size≤k):Keeps S a w':=⟨hg.os.trans h.os,hg.tape.trans h.tape,hg.output.trans h.output,Nat.le_trans h.size hg.size,fun k hk hs=>(hg.block k (Nat.lt_of_lt_of_le hk h.size) (fun e=>by
 rcases hr k e.symm with h|h
 ·exact hs h
 ·omega)).trans (h.block k hk hs)⟩
def strCells(l:List ByteArray):List Value:=l.map cC
theorem kD(l:List ByteArray)(s:ByteArray):strCells (l++[s])=strCells l++[.string s]:=by simp[strCells]
def rq(x:Nm×Value):ByteArray×Value:=(x.1.name,x.2)
def eD(w:World)(base:Nat)(v:Value)(l:List Nm):Prop:=∃xs:List (Nm×Value),xs.map (·.1)=l∧w.ownsRow base 332 2 v l.length (fN (xs.map rq))∧∀x∈xs,w.ownsRow base 9 1 x.2 x.1.list.length (strCells x.1.list)
theorem eD.nil(w:World)(base:Nat):eD w base (.slice none 0 0) []:=⟨[],rfl,a8 _ _ _ _,fun x hx=>by cases hx⟩
theorem zd(l:List (ByteArray×Value))(x:ByteArray×Value):fN (l++[x])=fN l++[.string x.1,x.2]:=by simp[fN]
theorem eD.keep{S:Nat→Prop}{w w':World}{T:List TypeId}{base:Nat}{v:Value}{l:List Nm}(h:eD w base v l)(hk:Keeps S w w')(ho:Off S w T)(he:9∉T)(hv:∀g,v.ownBlock=some g→¬S g):eD w' base v l:=by
 obtain⟨xs,h1,h2,h3⟩:=h;exact⟨xs,h1,jd h2 hk hv,fun x hx=>aX (h3 x hx) hk ho he⟩
theorem eD.below{w w':World}{base:Nat}{v:Value}{l:List Nm}(h:eD w base v l)(hb:Below w.heap.size w w'):eD w' base v l:=by
 obtain⟨xs,h1,h2,h3⟩:=h;exact⟨xs,h1,own_below h2 hb,fun x hx=>own_below (h3 x hx) hb⟩
theorem eD.has{w:World}{base:Nat}{v:Value}{l:List Nm}(h:eD w base v l)(s:ByteArray):∃ys:List (ByteArray×Value),ys.length=l.length∧aW w v ys.length 2 (fN ys)∧(ys.any fun x=>decide (x.1=s))=pg l s:=by
 obtain⟨xs,rfl,h2,h3⟩:=h;refine⟨xs.map rq,by simp,?_,?_⟩
 ·have:=aW.dn h2;simpa using this
 ·unfold pg;rw[List.any_map,List.any_map];rfl
theorem eD.shape{w:World}{base:Nat}{v:Value}{l:List Nm}(h:eD w base v l):∃A cap,v=.slice A l.length cap:=by
 obtain⟨xs,rfl,h2,h3⟩:=h;exact aQ h2
theorem ze(l:List Hs)(x:Hs):eC (l++[x])=eC l++[.string x.name,.bool x.net.a.v6,.int .u64 (x.net.a.hi:Int),.int .u64 (x.net.a.lo:Int),.int .u8 (x.net.bits:Int)]:=by simp[eC]
def fG(l:List jm):List Value:=l.flatMap fun s=>s.cells.toList
theorem iW(l:List jm)(x:jm):fG (l++[x])=fG l++x.cells.toList:=by simp[fG]
def gG(l:List (Nat×Nat)):List Value:=l.flatMap fun x=>[Value.int .u16 (x.1:Int),.int .u16 (x.2:Int)]
theorem np(l:List (Nat×Nat))(x:Nat×Nat):gG (l++[x])=gG l++[.int .u16 (x.1:Int),.int .u16 (x.2:Int)]:=by simp[gG]
structure Uy where
 a:Ac
 p:Value
 s:Value
 d:Value
 o:Value
structure oR(w:World)(base:Nat)(x:Uy):Prop where
 p:w.ownsRow base 5 1 x.p x.a.gu.length (dQ x.a.gu)
 s:w.ownsRow base 245 6 x.s x.a.src.length (fG x.a.src)
 d:w.ownsRow base 245 6 x.d x.a.dst.length (fG x.a.dst)
 o:w.ownsRow base 345 2 x.o x.a.iz.length (gG x.a.iz)
def lR(l:List Uy):List Value:=l.flatMap fun x=>[x.p,x.s,x.d,x.o]
theorem qh(l:List Uy)(x:Uy):lR (l++[x])=lR l++[x.p,x.s,x.d,x.o]:=by simp[lR]
def fV(w:World)(base:Nat)(v:Value)(l:List Ac):Prop:=∃xs:List Uy,xs.map (·.a)=l∧w.ownsRow base 340 4 v l.length (lR xs)∧∀x∈xs,oR w base x
theorem fV.nil(w:World)(base:Nat):fV w base (.slice none 0 0) []:=⟨[],rfl,a8 _ _ _ _,fun x hx=>by cases hx⟩
theorem oR.keep{S:Nat→Prop}{w w':World}{T:List TypeId}{base:Nat}{x:Uy}(h:oR w base x)(hk:Keeps S w w')(ho:Off S w T)(h1:5∉T)(h2:245∉T)(h3:345∉T):oR w' base x:=⟨aX h.p hk ho h1,aX h.s hk ho h2,aX h.d hk ho h2,aX h.o hk ho h3⟩
theorem fV.keep{S:Nat→Prop}{w w':World}{T:List TypeId}{base:Nat}{v:Value}{l:List Ac}(h:fV w base v l)(hk:Keeps S w w')(ho:Off S w T)(h1:5∉T)(h2:245∉T)(h3:345∉T)(hv:∀g,v.ownBlock=some g→¬S g):fV w' base v l:=by
 obtain⟨xs,e,ha,hb⟩:=h;exact⟨xs,e,jd ha hk hv,fun x hx=>(hb x hx).keep hk ho h1 h2 h3⟩
theorem fV.shape{w:World}{base:Nat}{v:Value}{l:List Ac}(h:fV w base v l):∃A cap,v=.slice A l.length cap:=by
 obtain⟨xs,rfl,h2,h3⟩:=h;exact aQ h2
abbrev Us:=jm×Nat×Nat
def fj(l:List (Us×ByteArray)):List Value:=l.flatMap fun x=>x.1.1.cells.toList++[.string x.2,.int .i64 (x.1.2.1:Int),.int .i64 (x.1.2.2:Int)]
theorem qi(l:List (Us×ByteArray))(x:Us×ByteArray):fj (l++[x])=fj l++(x.1.1.cells.toList++[.string x.2,.int .i64 (x.1.2.1:Int),.int .i64 (x.1.2.2:Int)]):=by simp[fj]
def ep(w:World)(base:Nat)(v:Value)(l:List Us):Prop:=∃xs:List (Us×ByteArray),xs.map (·.1)=l∧w.ownsRow base 249 9 v l.length (fj xs)
theorem ep.nil(w:World)(base:Nat):ep w base (.slice none 0 0) []:=⟨[],rfl,a8 _ _ _ _⟩
theorem ep.keep{S:Nat→Prop}{w w':World}{base:Nat}{v:Value}{l:List Us}(h:ep w base v l)(hk:Keeps S w w')(hv:∀g,v.ownBlock=some g→¬S g):ep w' base v l:=by
 obtain⟨xs,e,ha⟩:=h;exact⟨xs,e,jd ha hk hv⟩
theorem ep.shape{w:World}{base:Nat}{v:Value}{l:List Us}(h:ep w base v l):∃A cap,v=.slice A l.length cap:=by
 obtain⟨xs,rfl,h2⟩:=h;exact aQ h2
theorem aW.Vs{w:World}{base size n m:Nat}{e:TypeId}{v:Value}{xs:List Value}(h:w.ownsRow base e size v n xs)(hm:m=n):aW w v m size xs:=by subst hm;exact aW.dn h
theorem Vt:(ag.info? 332).map (fun i=>(i.zero,i.size,i.bytes))=some (some (.agg #[.string ⟨#[]⟩,.slice none 0 0]),2,40):=by kernel_rfl
theorem Vu:(ag.info? 334).map (fun i=>(i.zero,i.size,i.bytes))=some (some (.agg #[.string ⟨#[]⟩,.bool false,.int .u64 0,.int .u64 0,.int .u8 0]),5,48):=by kernel_rfl
theorem PN:(ag.info? 245).map (fun i=>(i.zero,i.size,i.bytes))=some (some (.agg #[.int .u8 0,.string ⟨#[]⟩,.bool false,.int .u64 0,.int .u64 0,.int .u8 0]),6,56):=by kernel_rfl
theorem Vv:(ag.info? 345).map (fun i=>(i.zero,i.size,i.bytes))=some (some (.agg #[.int .u16 0,.int .u16 0]),2,4):=by kernel_rfl
theorem Vw:(ag.info? 340).map (fun i=>(i.zero,i.size,i.bytes))=some (some (.agg #[.slice none 0 0,.slice none 0 0,.slice none 0 0,.slice none 0 0]),4,96):=by kernel_rfl
theorem Vx:(ag.info? 249).map (fun i=>(i.zero,i.size,i.bytes))=some (some (.agg #[.int .u8 0,.string ⟨#[]⟩,.bool false,.int .u64 0,.int .u64 0,.int .u8 0,.string ⟨#[]⟩,.int .i64 0,.int .i64 0]),9,88):=by kernel_rfl
def eu{α:Type}(o:Except Bad α)(n:Nat)(ok:α→Ending→Prop)(r:Ending):Prop:=match o with
 | .error e=>r=aL e.1 n e.2
 | .ok x=>ok x r
theorem eu.bad{α:Type}{o:Except Bad α}{n e i:Nat}{ok:α→Ending→Prop}(h:o=.error (e,i)):eu o n ok (aL e n i):=by subst h;rfl
theorem eu.good{α:Type}{o:Except Bad α}{n:Nat}{ok:α→Ending→Prop}{r:Ending}{x:α}(h:o=.ok x)(hr:ok x r):eu o n ok r:=by subst h;exact hr
def dU{α:Type}(S0 S:Nat→Prop)(w w':World)(o:Except Bad α)(n:Nat)(ok:α→Ending→Prop)(r:Ending):Prop:=match o with
 | .error e=>Keeps S0 w w'∧r=aL e.1 n e.2
 | .ok x=>Keeps S w w'∧ok x r
theorem dU.bad{α:Type}{S0 S:Nat→Prop}{w w':World}{o:Except Bad α}{n e i:Nat}{ok:α→Ending→Prop}(hk:Keeps S0 w w')(h:o=.error (e,i)):dU S0 S w w' o n ok (aL e n i):=by subst h;exact⟨hk,rfl⟩
theorem dU.good{α:Type}{S0 S:Nat→Prop}{w w':World}{o:Except Bad α}{n:Nat}{ok:α→Ending→Prop}{r:Ending}{x:α}(h:o=.ok x)(hk:Keeps S w w')(hr:ok x r):dU S0 S w w' o n ok r:=by subst h;exact⟨hk,hr⟩
theorem dU.line{α:Type}{S0 S:Nat→Prop}{w w':World}{o:Except Bad α}{n:Nat}{ok:α→Ending→Prop}{r:Ending}(h:dU S0 S w w' o n ok r)(h0:∀k,S0 k→S k):Keeps S w w'∧eu o n ok r:=by
 cases o with
 |error e=>exact⟨h.1.mono fun k _=>h0 k,h.2⟩
 |ok x=>exact h
theorem dU.err{α:Type}{S0 S:Nat→Prop}{w w':World}{o:Except Bad α}{n:Nat}{ok:α→Ending→Prop}{r:Ending}(h:dU S0 S w w' o n ok r)(e:Bad)(he:o=.error e):Keeps S0 w w':=by
 subst he;exact h.1
def namesT(nm:ByteArray)(ws:List ByteArray)(k:Nat)(acc:List ByteArray)(first:Bool):Except Bad Nm:=if first=true∧ws.length≤k then .error (190,ws.length)else(iS (ws.drop k) k acc.length).map fun l=>⟨nm,acc++l⟩
theorem sF{nm s:ByteArray}{ws:List ByteArray}{k:Nat}{acc:List ByteArray}{first:Bool}(h:ws[k]? =some s):namesT nm ws k acc first=if b8 s=false then .error (191,k)else if 64≤acc.length then .error (198,k)else namesT nm ws (k+1) (acc++[s]) false:=by
 have hk:k<ws.length:=(List.getElem?_eq_some_iff.1 h).1;have hg:ws[k]=s:=(List.getElem?_eq_some_iff.1 h).2;unfold namesT;rw[if_neg (show¬(first=true∧ws.length≤k) by omega),if_neg (show¬(false=true∧ws.length≤k+1) by simp),bz hk,hg]
 conv=>lhs;unfold iS
 by_cases h1:b8 s=false
 ·rw[if_pos h1,if_pos h1];rfl
 rw[if_neg h1,if_neg h1];by_cases h2:64≤acc.length
 ·rw[if_pos h2,if_pos h2];rfl
 rw[if_neg h2,if_neg h2,ai,cI];cases iS (List.drop (k+1) ws) (k+1) (acc.length+1)with
 |error e=>rfl
 |ok l=>simp[Except.map]
theorem FR{nm:ByteArray}{ws:List ByteArray}{k:Nat}{acc:List ByteArray}(h:ws.length≤k):namesT nm ws k acc false=.ok ⟨nm,acc⟩:=by
 unfold namesT;rw[if_neg (by simp),mC h];simp[iS,Except.map]
theorem Ce{nm:ByteArray}{ws:List ByteArray}{k:Nat}{acc:List ByteArray}(h:ws.length≤k):namesT nm ws k acc true=.error (190,ws.length):=by
 unfold namesT;rw[if_pos ⟨rfl,h⟩]
theorem Ll{ws:List ByteArray}{told:List Nm}(hne:ws≠[]):kz ws told=if 64≤told.length then .error (198,0)else match ws[1]? with
 |none=>.error (190,ws.length)
 |some nm=>if b8 nm=false then .error (191,1)else if pg told nm=true then .error (197,1)else match ws[2]? with
  |none=>.error (190,ws.length)
  |some e=>if e≠BF then .error (190,2)else namesT nm ws 3 [] true:=by
 unfold kz;by_cases h:64≤told.length
 ·rw[if_pos h,if_pos h]
 rw[if_neg h,if_neg h]
 match ws with
 |[]=>exact absurd rfl hne
 |[a]=>rfl
 |[a,nm]=>rfl
 |a::nm::e::r=>
  simp only[List.getElem?_cons_succ,List.getElem?_cons_zero];unfold namesT;cases r with
  |nil=>simp
  |cons s r=>simp
def uN(w:World)(b:Nat):Nat:=match w.cell? ⟨b,1,none⟩with
 |some (.int _ i)=>i.toNat
 |_=>0
theorem Rs.next{w:World}{b P k n:Nat}{lv uv:Value}{ws:List ByteArray}(h:Rs w b P k n lv uv ws):uN w b=k:=by
 have r1:=h.blk.cell 1;simp at r1;unfold uN;rw[r1];rfl
def Vy(w:World)(b P n base q:Nat)(lv uv lst:Value)(ws:List ByteArray)(told:List Nm)(pc:Array Value)(w':World)(x:Nm)(r:Ending):Prop:=r=.returned (.tuple #[])∧∃k' lst',Rs w' b P k' n lv uv ws∧aD w' P 179 (pc.setIfInBounds q lst')∧eD w' base lst' (told++[x])∧∀g,lst'.ownBlock=some g→lst.ownBlock=some g∨w.heap.size≤g
theorem xZ{w:World}{b P n base q:Nat}{lv uv lst:Value}{ws:List ByteArray}{told:List Nm}{pc:Array Value}(h:Rs w b P 1 n lv uv ws)(hP:aD w P 179 pc)(hq:pc[q]? =some lst)(hN:eD w base lst told)(hbs:base≤w.heap.size):Calls ag 222 #[.pointer (some ⟨b,0,none⟩),.pointer (some ⟨P,q,none⟩)] w fun r w'=>dU (fun k=>k=b) (fun k=>k=b∨k=P∨lst.ownBlock=some k) w w' (kz ws told) n (Vy w b P n base q lv uv lst ws told pc w') r:=by
 obtain⟨A,cap,rfl⟩:=hN.shape;obtain⟨T,hT⟩:∃t,t=told.length:=⟨_,rfl⟩;rw[←hT]at hq hN⊢;have hPb:P≠b:=hP.wH h.blk aF;have c0:=(hP.cell q).trans hq;have hlen1:1≤ws.length:=by
  have:=h.ne;cases ws with
  |nil=>exact absurd rfl this
  |cons x r=>simp
 have hroom:=h.room aM aM T;rw[show Es 1 ws=0 by unfold Es;rw[if_pos hlen1]]at hroom;obtain⟨RES,dT⟩:∃r,r=kz ws told:=⟨_,rfl⟩;rw[←dT];rw[Ll h.ne,←hT]at dT;obtain⟨jw,H,HP,HN,iH,HT,Hb0⟩:=mS hroom h hP hN dT hT (Keeps.refl (fun k=>k=b∨k=P∨(cJ A T cap).ownBlock=some k) w);clear hroom h hP hN dT hT;go_enter Tryz.func222,Tryz.ntmps222;go_wp2_with fail
 go_at_call 260;refine jw.out.mono ?_;rintro r w1⟨h1,d1⟩;by_cases Cf:T<64
 case neg=>
  rw[decide_eq_false Cf]at h1;unfold eI at h1;subst h1;unfold aL;exact⟨rfl,dU.bad (Keeps.of_below d1 fun k hk _=>hk) (by rw[iH.out,if_pos aM])⟩
 rw[decide_eq_true Cf]at h1;unfold eI at h1;subst h1;obtain⟨H1,lF,j8,oS⟩:=cH (H.out.below d1) (HP.out.below d1 HP.out.lt) (HN.out.below d1) (Keeps.of_below (S:=fun x=>x=b) d1 fun k hk _=>hk);have hR1:=iH.out;rw[if_neg aM]at hR1;have HR1:=ae hR1;clear hR1 iH jw d1 H HP c0;have hname:=H1.out.name aM;unfold pY at hname;have nt:=ae hname;clear hname;go_wp2_with fail
 go_at_call 261;refine nt.out.mono ?_;rintro r w2⟨⟨d2,e2⟩,h2⟩;have kE:=ae (oS.out.trans d2);cases hs1:ws[1]? with
 |none=>
  rw[hs1]at h2;simp only at h2;subst h2;unfold aL;have hR:=HR1.out;rw[hs1]at hR;exact⟨rfl,dU.bad (kE.out) hR⟩
 |some nm=>
 rw[hs1]at h2;simp only at h2;have hR2:=HR1.out;rw[hs1]at hR2;simp only at hR2;by_cases hlab:b8 nm=true
 case neg=>
  have hlf:b8 nm=false:=by simpa using hlab
  rw[if_neg hlab]at h2;subst h2;unfold aL;rw[if_pos hlf]at hR2;exact⟨rfl,dU.bad (kE.out) hR2⟩
 rw[if_pos hlab]at h2;subst h2;rw[if_neg (by simp[hlab])]at hR2;obtain⟨HR2,H2,HP2⟩:=bj hR2 e2 (lF.out.keep d2 hPb);have hAb:∀g,(cJ A T cap).ownBlock=some g→¬g=b:=by
  intro g hg e;subst e;obtain⟨xs,_,ho,_⟩:=j8.out;rcases ho.2 with⟨e1,_⟩|⟨g',cap',cur,e1,hb,hg',_⟩
  ·rw[e1]at hg;cases hg
  ·rw[e1]at hg;injection hg with hg
   subst hg;exact(aD.wH (t:=332) (cs:=cur) (show aD w1 g' _ cur from hg') H1.out.blk aF) rfl
 have mP:=ae (j8.out.keep d2 (T:=[235]) (fun k hk=>⟨_,_,_,by subst hk;exact H1.out.blk,by simp⟩) aF hAb);clear hR2 HR1 nt j8 lF H1 oS e2 d2 hlab;go_wp2_with fail
 have hB3:=ae (aD.new w2 332 #[.string nm,.slice none 0 0]);have hb3:=boxed w2 (.cells #[.string nm,.slice none 0 0] 332);obtain⟨H3,fX,x9,iY⟩:=cH (H2.out.below hb3) (HP2.out.alloc (.cells #[.string nm,.slice none 0 0] 332)) (mP.out.below hb3) (kE.out.alloc (.cells #[.string nm,.slice none 0 0] 332));have hsz3:w2.heap.size<(w2.alloc (.cells #[.string nm,.slice none 0 0] 332)).heap.size:=by simp
 have Zz:w.heap.size≤w2.heap.size:=kE.out.size;clear H2 HP2 mP kE hb3;generalize w2.alloc (.cells #[.string nm,.slice none 0 0] 332)=w3 at hB3 H3 fX x9 iY hsz3⊢;generalize w2.heap.size=N at hB3 hsz3 Zz⊢;have hNb:N≠b:=hB3.out.wH H3.out.blk aF;have hNP:N≠P:=hB3.out.wH fX.out aF;have hAN:∀g,(cJ A T cap).ownBlock=some g→g<w.heap.size:=by
  obtain⟨xs,_,ho,_⟩:=HN.out;exact fun g hg=>(ho.lt g hg).2
 obtain⟨ys,hyl,hyr,hya⟩:=x9.out.has nm;have hhas:=fun W(hW:Below w3.heap.size w3 W)=>yX ys (by have:=HT.out;omega) _ (hyr.below hW) nm
 rw[hya]at hhas;have x0:=(fX.out.cell q).trans hq;have x1:=hB3.out.cell 0;simp at x1;have hun:=fun W(hW:Rs W b P (1+1) n lv uv ws)(is:Bool)=>hW.unless aM aM is 197
 rw[dH (by have:=(List.getElem?_eq_some_iff.1 hs1).1;omega)]at hun;obtain⟨rr,jf,HAN,HAb⟩:=cH (hhas w3.drew ⟨rfl,rfl,rfl,aw _,fun _ _=>rfl⟩) hun hAN hAb;clear hyl hyr hya hhas hun hAN hAb;by_cases hh:pg told nm=true
 ·rw[hh]at rr;have hR:=HR2.out;rw[if_pos hh]at hR;have HR:=ae hR;have zf:af (∀(W:World),Rs W b P (1+1) n lv uv ws→Calls ag 177 #[.pointer (some ⟨b,0,none⟩),.bool false,.int .i64 197] W fun r w'=>r=aL 197 n 1∧Below W.heap.size W w'):=ae fun W hW=>jf.out W hW false
  clear hR hh HR2 jf;refine wp_region_held_drew (S:=(fun w'=>w'.cell? ⟨P,q,none⟩=some (.slice A T cap)∧w'.cell? ⟨N,0,none⟩=some (.string nm))) bg (⟨x0,x1⟩) (fun hHeld=>?_);refine bm 0 ?_
  refine bm 1 ?_
  refine bm 2 ?_
  refine bm 3 ?_
  refine bm 4 ?_
  refine bm 5 ?_
  refine jk 6 fun K hK=>?_;go_simp;refine rr.out.mono ?_;rintro r w4⟨rfl,d4⟩;have e4:Below w3.heap.size w3 w4:=⟨d4.os,d4.tape,d4.output,d4.size,d4.block⟩;have y0:=((fX.out.below e4 fX.out.lt).cell q).trans hq;have y1:=(hB3.out.below e4 hB3.out.lt).cell 0;simp at y1;refine hK.out _ _ (⟨y0,y1⟩) (fun hHeld=>?_);clear hK K;try simp only[cq]
  refine bm 7 ?_
  refine jk 8 fun K hK=>?_;go_simp;refine(zf.out _ (H3.out.below e4)).mono ?_;rintro r w5⟨rfl,d5⟩;unfold aL;exact⟨rfl,dU.bad (((iY.out.trans (Keeps.of_below e4 fun k hk _=>hk)).trans (Keeps.of_below d5 fun k hk _=>hk))) HR.out⟩
 have hhf:pg told nm=false:=by simpa using hh
 rw[hhf]at rr;have hR:=HR2.out;rw[if_neg hh]at hR;have HR:=ae hR;have zf:af (∀(W:World),Rs W b P (1+1) n lv uv ws→Calls ag 177 #[.pointer (some ⟨b,0,none⟩),.bool true,.int .i64 197] W fun r w'=>r=.returned (.tuple #[])∧Below W.heap.size W w'):=ae fun W hW=>jf.out W hW true
 clear hR hh hhf HR2 jf;refine wp_region_held_drew (S:=(fun w'=>w'.cell? ⟨P,q,none⟩=some (.slice A T cap)∧w'.cell? ⟨N,0,none⟩=some (.string nm))) bg (⟨x0,x1⟩) (fun hHeld=>?_);refine bm 0 ?_
 refine bm 1 ?_
 refine bm 2 ?_
 refine bm 3 ?_
 refine bm 4 ?_
 refine bm 5 ?_
 refine jk 6 fun K hK=>?_;go_simp;refine rr.out.mono ?_;rintro r w4⟨rfl,d4⟩;have e4:Below w3.heap.size w3 w4:=⟨d4.os,d4.tape,d4.output,d4.size,d4.block⟩;have y0:=((fX.out.below e4 fX.out.lt).cell q).trans hq;have y1:=(hB3.out.below e4 hB3.out.lt).cell 0;simp at y1;refine hK.out _ _ (⟨y0,y1⟩) (fun hHeld=>?_);clear hK K;try simp only[cq]
 refine bm 7 ?_
 refine jk 8 fun K hK=>?_;go_simp;refine(zf.out _ (H3.out.below e4)).mono ?_;rintro r w5⟨rfl,d5⟩;have e5:=after e4 d5;have z0:=((fX.out.below e5 fX.out.lt).cell q).trans hq;have z1:=(hB3.out.below e5 hB3.out.lt).cell 0;simp at z1;refine hK.out _ _ (⟨z0,z1⟩) (fun hHeld=>?_);clear hK K;try simp only[cq]
 refine qR ?_;obtain⟨H5,EA,mO,ZA,Bc⟩:=dR (H3.out.below e5) (fX.out.below e5 fX.out.lt) (hB3.out.below e5 hB3.out.lt) (x9.out.below e5) (iY.out.trans (Keeps.of_below e5 fun k hk _=>hk));have hsz5:w3.heap.size≤w5.heap.size:=e5.size;clear H3 fX hB3 x9 iY e4 e5 d5 y0 y1 z0 z1 x0 x1 hHeld rr zf;have fZ:=H5.out.must (by have:=(List.getElem?_eq_some_iff.1 hs1).1;omega) BF;unfold oP at fZ;have ko:af (Calls ag 262 #[.pointer (some ⟨b,0,none⟩),.string ⟨#[61]⟩] w5 _):=ae fZ;clear fZ;go_wp2_with fail
 go_at_call 262;refine ko.out.mono ?_;rintro r w6⟨⟨d6,e6⟩,h6⟩;have ru:=ae (Bc.out.trans d6);have gk:=HR.out;cases hs2:ws[2]? with
 |none=>
  rw[show 1+1=2 from rfl,hs2]at h6;simp only at h6;subst h6;unfold aL;rw[hs2]at gk;exact⟨rfl,dU.bad (ru.out) gk⟩
 |some eq=>
 rw[show 1+1=2 from rfl,hs2]at h6;rw[hs2]at gk;simp only at h6 gk;by_cases heq:eq=BF
 case neg=>
  rw[if_neg heq]at h6;subst h6;unfold aL;rw[if_pos heq]at gk;exact⟨rfl,dU.bad (ru.out) gk⟩
 rw[if_pos heq]at h6;rw[if_neg (by simp[heq])]at gk;subst h6;have hlen3:3≤ws.length:=by have:=(List.getElem?_eq_some_iff.1 hs2).1;omega
 obtain⟨B8,H6,Vz,jH⟩:=cH gk e6 (EA.out.keep d6 hPb) (mO.out.keep d6 hNb);have HN6:=ae (ZA.out.keep d6 (T:=[235]) (fun k hk=>⟨_,_,_,by subst hk;exact H5.out.blk,by simp⟩) aF HAb.out);have aeP:w5.heap.size≤w6.heap.size:=d6.size;clear ko gk HR Bc EA mO ZA H5 d6 e6 hs1 hs2 heq;obtain⟨i0,hi,hz0,hz1,hz2⟩:=info_parts pW;have FIN:af (∀wx,Keeps (fun x=>x=b∨x=N) w6 wx→Keeps (fun k=>k=b) w wx):=ae fun wx h=>((ru.out.mono (T:=fun x=>x=b∨x=N) fun k _ hk=>Or.inl hk).trans h).mono fun k hk hs=>hs.elim id fun e=>absurd hk (by omega)
 go_wp2_with fail
 go_loopw [5] (fun v5 wr=>∃(k:Nat)(acc:List ByteArray)(first:Bool)(v:Value),v5=.bool first∧3≤k∧k≤ws.length∧af (first=true→acc=[])∧af (acc.length≤64)∧af (Rs wr b P k n lv uv ws)∧af (Keeps (fun x=>x=b∨x=N) w6 wr)∧af (aD wr N 332 #[.string nm,v])∧af (wr.ownsRow w6.heap.size 9 1 v acc.length (strCells acc))∧af (RES=namesT nm ws k acc first)) (fun _ wr=>ws.length+1-uN wr b)
 case atStart=>exact⟨3,[],true,_,rfl,by omega,hlen3,ae fun _=>rfl,ae (by simp),H6,ae (Keeps.refl _ _),jH,ae (a8 _ _ _ _),B8⟩
 case round=>
  obtain⟨k,acc,first,v,rfl,hk3,hk,hfa,hacc,hrs,hkp,hbn,hown,hres⟩:=hrel;have xJ:=ae hrs.out.next;cases first with
  |true=>
   have RS:=hrs;have KP:=hkp;have BN:=hbn;have OW:=hown;clear hrs hkp hbn hown hfa;have hname:=RS.out.name hk;unfold pY at hname;have nt:=ae hname;clear hname;go_wp2_with fail
   go_at_call 261;refine nt.out.mono ?_;rintro r w8⟨⟨d8,e8⟩,h8⟩;obtain⟨qT,xa⟩:=aI (KP.out.trans (d8.mono fun k _ hk=>Or.inl hk)) (BN.out.keep d8 hNb);have FT:=ae (aX OW.out d8 (T:=[235]) (fun k hk=>⟨_,_,_,by subst hk;exact RS.out.blk,by simp⟩) aF);clear KP BN OW RS nt d8;cases hsk:ws[k]? with
   |none=>
    have hge:ws.length≤k:=by rw[afy]at hsk;exact hsk
    rw[hsk]at h8;simp only at h8;subst h8;unfold aL;exact⟨rfl,dU.bad (FIN.out _ qT.out) (by rw[hres.out,Ce hge])⟩
   |some s=>
   have hlt:k<ws.length:=(List.getElem?_eq_some_iff.1 hsk).1;rw[hsk]at h8;simp only at h8;have hst:=hres.out;rw[sF hsk]at hst;by_cases hl:b8 s=true
   case neg=>
    rw[if_neg hl]at h8;subst h8;unfold aL;rw[if_pos (by simpa using hl)]at hst;exact⟨rfl,dU.bad (FIN.out _ qT.out) hst⟩
   rw[if_pos hl]at h8;subst h8;rw[if_neg (by simp[hl])]at hst;obtain⟨VA,wI⟩:=aI hst e8;clear hst hres hsk hl e8;obtain⟨A1,c1,rfl⟩:=aQ FT.out;obtain⟨-,x1⟩:=iD xa;have z1:=xa.out.frozen 1;have hroom:=wI.out.room aM aM acc.length;rw[dH hlt]at hroom;have jw:=ae hroom;have hacc:=hacc.out;obtain⟨L,hL⟩:∃l,l=acc.length:=⟨_,rfl⟩;rw[←hL]at x1 hacc jw xa FT VA;have HL:=ae hL;clear hroom hL;go_wp2_with fail
   go_at_call 260;refine jw.out.mono ?_;rintro r w9⟨h9,d9⟩;by_cases PQ:L<64
   case neg=>
    rw[decide_eq_false PQ]at h9;unfold eI at h9;subst h9;unfold aL;have hst:=VA.out;rw[if_pos aM]at hst;exact⟨rfl,dU.bad (FIN.out _ (qT.out.trans (Keeps.of_below d9 fun k hk _=>hk))) hst⟩
   rw[decide_eq_true PQ]at h9;unfold eI at h9;subst h9;have hst:=VA.out;rw[if_neg aM]at hst;obtain⟨uO,Uz,ZB,PR,VB⟩:=dR hst (qT.out.trans (Keeps.of_below d9 fun k hk _=>hk)) (wI.out.below d9) (xa.out.below d9 xa.out.lt) (own_below FT.out d9);clear hst VA qT wI xa FT jw d9 x1 z1;have PS:=Uz.out.size;obtain⟨-,x1⟩:=iD PR;have z1:=PR.out.frozen 1;have hNw:=PR.out.lt;clear PS;have PS:=Uz.out.size;clear x1 z1;obtain⟨-,x1⟩:=iD PR;go_wp2_with(at_builtin;refine wpList_append_lies _ rfl _ _ 41 rfl w6.heap.size 9 i0 (.string iy) 1 16 afo hi hz0 hz1 hz2 rfl aF _ L _ rfl (VB.out.alloc _) ⟨w9.heap.size,0,none⟩ 1 1 [.string s] rfl rfl (cell_one_new _ _ _) (fun x hx=>by simp at hx;subst hx;rfl) aF (by unfold maxLen;omega) aM (by simp;omega) (w9.heap.size+1) (by simp) ?_;intro g' cap' w10 hown' hgrow hat lS;have eZ:=ae ((PR.out.alloc (.cells #[.string s] 9)).off (Keeps.row hgrow) (bS (VB.out.alloc (.cells #[.string s] 9))) aF);obtain⟨-,x10⟩:=iD eZ;have z10:=eZ.out.frozen 1;obtain⟨kF,ff⟩:=aI hown' hgrow;clear hown' hgrow hat lS)
   have KS:Keeps (fun k=>(cJ A1 L c1).ownBlock=some k) (w9.alloc (.cells #[.string s] 9)) w10:=Keeps.row ff.out;have OS:=bS (VB.out.alloc (.cells #[.string s] 9));have lT:=(ZB.out.alloc (.cells #[.string s] 9)).off KS OS aF aF;have lU:=Keeps.grown (Uz.out.alloc (.cells #[.string s] 9)) ff.out fun g hg=>Or.inr (VB.out.lt g hg).1
   have qj:=lU.setCell (p:=⟨N,1,none⟩) (Or.inl (Or.inr rfl)) (.slice (some ⟨g',0,none⟩) (L+1) cap');have KN:=(Keeps.refl (fun x=>x=N) w10).setCell (p:=⟨N,1,none⟩) (Or.inl rfl) (.slice (some ⟨g',0,none⟩) (L+1) cap');have ON:Off (fun x=>x=N) w10 [332]:=fun k hk=>⟨_,_,_,by subst hk;exact eZ.out,by simp⟩
   have oC:=lT.off KN ON aF aF;have zg:=aX kF.out KN ON aF;have rz:aD (w10.setCell ⟨N,1,none⟩ (.slice (some ⟨g',0,none⟩) (L+1) cap')) N 332 #[.string nm,.slice (some ⟨g',0,none⟩) (L+1) cap']:=eZ.out.aN 1 _;refine⟨⟨k+1,acc++[s],false,_,rfl,by omega,by omega,ae (fun h=>(by cases h)),ae (by rw[ai,←HL.out];simp;omega),ae oC,ae qj,ae rz,ae (by rw[ai,←HL.out,kD];exact zg),uO⟩,?_⟩;rw[oC.next,xJ.out];omega
  |false=>
   have hmore:=ae hrs.out.more;by_cases hlt0:k<ws.length
   ·rw[decide_eq_true hlt0]at hmore;go_upto_region 7 with(go_at_call 263;(with_reducible refine hmore.out.mono ?_);rintro r w7⟨rfl,d7⟩)
    obtain⟨RS,KP,BN,OW⟩:=cH (hrs.out.below d7) (hkp.out.trans (Keeps.of_below d7 fun k hk _=>hk)) (hbn.out.below d7 hbn.out.lt) (own_below hown.out d7);clear hrs hkp hbn hown hfa hmore d7;have hname:=RS.out.name hk;unfold pY at hname;have nt:=ae hname;clear hname;go_wp2_with fail
    go_at_call 261;refine nt.out.mono ?_;rintro r w8⟨⟨d8,e8⟩,h8⟩;obtain⟨qT,xa⟩:=aI (KP.out.trans (d8.mono fun k _ hk=>Or.inl hk)) (BN.out.keep d8 hNb);have FT:=ae (aX OW.out d8 (T:=[235]) (fun k hk=>⟨_,_,_,by subst hk;exact RS.out.blk,by simp⟩) aF);clear KP BN OW RS nt d8;cases hsk:ws[k]? with
    |none=>
     have hge:ws.length≤k:=by rw[afy]at hsk;exact hsk
     rw[hsk]at h8;simp only at h8;subst h8;unfold aL;exact⟨rfl,dU.bad (FIN.out _ qT.out) (absurd hlt0 aM)⟩
    |some s=>
    have hlt:k<ws.length:=(List.getElem?_eq_some_iff.1 hsk).1;rw[hsk]at h8;simp only at h8;have hst:=hres.out;rw[sF hsk]at hst;by_cases hl:b8 s=true
    case neg=>
     rw[if_neg hl]at h8;subst h8;unfold aL;rw[if_pos (by simpa using hl)]at hst;exact⟨rfl,dU.bad (FIN.out _ qT.out) hst⟩
    rw[if_pos hl]at h8;subst h8;rw[if_neg (by simp[hl])]at hst;obtain⟨VA,wI⟩:=aI hst e8;clear hst hres hsk hl e8;obtain⟨A1,c1,rfl⟩:=aQ FT.out;obtain⟨-,x1⟩:=iD xa;have z1:=xa.out.frozen 1;have hroom:=wI.out.room aM aM acc.length;rw[dH hlt]at hroom;have jw:=ae hroom;have hacc:=hacc.out;obtain⟨L,hL⟩:∃l,l=acc.length:=⟨_,rfl⟩;rw[←hL]at x1 hacc jw xa FT VA;have HL:=ae hL;clear hroom hL;go_wp2_with fail
    go_at_call 260;refine jw.out.mono ?_;rintro r w9⟨h9,d9⟩;by_cases PQ:L<64
    case neg=>
     rw[decide_eq_false PQ]at h9;unfold eI at h9;subst h9;unfold aL;have hst:=VA.out;rw[if_pos aM]at hst;exact⟨rfl,dU.bad (FIN.out _ (qT.out.trans (Keeps.of_below d9 fun k hk _=>hk))) hst⟩
    rw[decide_eq_true PQ]at h9;unfold eI at h9;subst h9;have hst:=VA.out;rw[if_neg aM]at hst;obtain⟨uO,Uz,ZB,PR,VB⟩:=dR hst (qT.out.trans (Keeps.of_below d9 fun k hk _=>hk)) (wI.out.below d9) (xa.out.below d9 xa.out.lt) (own_below FT.out d9);clear hst VA qT wI xa FT jw d9 x1 z1;have PS:=Uz.out.size;obtain⟨-,x1⟩:=iD PR;have z1:=PR.out.frozen 1;have hNw:=PR.out.lt;clear PS;have PS:=Uz.out.size;clear x1 z1;obtain⟨-,x1⟩:=iD PR;go_wp2_with(at_builtin;refine wpList_append_lies _ rfl _ _ 41 rfl w6.heap.size 9 i0 (.string iy) 1 16 afo hi hz0 hz1 hz2 rfl aF _ L _ rfl (VB.out.alloc _) ⟨w9.heap.size,0,none⟩ 1 1 [.string s] rfl rfl (cell_one_new _ _ _) (fun x hx=>by simp at hx;subst hx;rfl) aF (by unfold maxLen;omega) aM (by simp;omega) (w9.heap.size+1) (by simp) ?_;intro g' cap' w10 hown' hgrow hat lS;have eZ:=ae ((PR.out.alloc (.cells #[.string s] 9)).off (Keeps.row hgrow) (bS (VB.out.alloc (.cells #[.string s] 9))) aF);obtain⟨-,x10⟩:=iD eZ;have z10:=eZ.out.frozen 1;obtain⟨kF,ff⟩:=aI hown' hgrow;clear hown' hgrow hat lS)
    have KS:Keeps (fun k=>(cJ A1 L c1).ownBlock=some k) (w9.alloc (.cells #[.string s] 9)) w10:=Keeps.row ff.out;have OS:=bS (VB.out.alloc (.cells #[.string s] 9));have lT:=(ZB.out.alloc (.cells #[.string s] 9)).off KS OS aF aF;have lU:=Keeps.grown (Uz.out.alloc (.cells #[.string s] 9)) ff.out fun g hg=>Or.inr (VB.out.lt g hg).1
    have qj:=lU.setCell (p:=⟨N,1,none⟩) (Or.inl (Or.inr rfl)) (.slice (some ⟨g',0,none⟩) (L+1) cap');have KN:=(Keeps.refl (fun x=>x=N) w10).setCell (p:=⟨N,1,none⟩) (Or.inl rfl) (.slice (some ⟨g',0,none⟩) (L+1) cap');have ON:Off (fun x=>x=N) w10 [332]:=fun k hk=>⟨_,_,_,by subst hk;exact eZ.out,by simp⟩
    have oC:=lT.off KN ON aF aF;have zg:=aX kF.out KN ON aF;have rz:aD (w10.setCell ⟨N,1,none⟩ (.slice (some ⟨g',0,none⟩) (L+1) cap')) N 332 #[.string nm,.slice (some ⟨g',0,none⟩) (L+1) cap']:=eZ.out.aN 1 _;refine⟨⟨k+1,acc++[s],false,_,rfl,by omega,by omega,ae (fun h=>(by cases h)),ae (by rw[ai,←HL.out];simp;omega),ae oC,ae qj,ae rz,ae (by rw[ai,←HL.out,kD];exact zg),uO⟩,?_⟩;rw[oC.next,xJ.out];omega
   ·rw[decide_eq_false hlt0]at hmore;go_upto_region 10 with(go_at_call 263;(with_reducible refine hmore.out.mono ?_);rintro r w7⟨rfl,d7⟩)
    have H7:=ae (hrs.out.below d7);have UA:=hkp.out.trans (Keeps.of_below d7 fun k hk _=>hk);obtain⟨Bd,B7,Yv⟩:=bj UA (hbn.out.below d7 hbn.out.lt) (own_below hown.out d7);have hO6:Off (fun x=>x=b∨x=N) w6 [235,332]:=fun k hk=>by
     rcases hk with rfl|rfl
     ·exact⟨_,_,_,H6.out.blk,by simp⟩
     ·exact⟨_,_,_,jH.out,by simp⟩
    have P7:=ae (Vz.out.off UA hO6 aF);have hAN:=HAN.out;have NM7:=ae (HN6.out.keep UA hO6 aF fun g hg hs=>by
     rcases hs with hs|hs
     ·exact HAb.out g hg hs
     ·have:=hAN g hg;omega)
    have hfin:=hres.out;rw[FR aM]at hfin;have HFin:=ae hfin;obtain⟨A1,c1,rfl⟩:=aQ Yv.out;have aeQ:w6.heap.size≤w7.heap.size:=UA.size;clear hrs hkp hbn hown hfa hmore d7 UA hfin hres hO6 hAN hlt0;have x0:=(P7.out.cell q).trans hq;obtain⟨x1,x2⟩:=iD B7;have z0:=P7.out.frozen q;obtain⟨xs,hxs,hox,hnx⟩:=NM7.out;obtain⟨j0,hj,hj0,hj1,hj2⟩:=info_parts Vt;rw[←HT.out]at hox;have abG:(w7.alloc (.cells #[.string nm,.slice A1 acc.length c1] 332)).drew.ownsRow base 332 2 (.slice A T cap) T (fN (xs.map rq)):=hox.alloc _;have Yw:∀j u,[cC nm,.slice A1 acc.length c1][j]? =some u→(w7.alloc (.cells #[.string nm,.slice A1 acc.length c1] 332)).drew.cell? ((⟨w7.heap.size,0,none⟩:Addr).add j)=some u:=cz w7 [.string nm,.slice A1 acc.length c1] 332;have hPd:aD (w7.alloc (.cells #[.string nm,.slice A1 acc.length c1] 332)).drew P 179 pc:=P7.out.alloc _;obtain⟨kG,ic⟩:=aI abG Yw;have hNd:aD (w7.alloc (.cells #[.string nm,.slice A1 acc.length c1] 332)).drew N 332 #[.string nm,.slice A1 acc.length c1]:=B7.out.alloc _;have y0:=(hPd.cell q).trans hq;have y1:=hNd.cell 0;have y2:=hNd.cell 1;simp at y1 y2;have hNA:some N≠(cJ A T cap).ownBlock:=fun e=>by have:=HAN.out N e.symm;omega
    obtain⟨UB,kP,uP⟩:=bj hNA hPd hNd;clear hox abG Yw hPd hNd hNA;refine dt 8 (fun w'=>w'.cell? ⟨P,q,none⟩=some (.slice A T cap)∧w'.cell? ⟨N,0,none⟩=some (.string nm)∧w'.cell? ⟨N,1,none⟩=some (.slice A1 acc.length c1)) bg (⟨x0,x1,x2⟩) (fun hHeld=>?_);refine dm 0 ?_
    refine dm 1 ?_
    refine dm 2 ?_
    refine dm 3 ?_
    refine dm 4 ?_
    refine lI 5 fun K hK=>?_;go_simp
    skip
    refine hK.out _ _ (fun _=>⟨y0,y1,y2⟩) (fun hHeld=>?_);have hHeld:=hHeld aF;clear hK K;try simp only[cq]
    refine lI 6 fun K hK=>?_;refine step_append_lies _ (by rfl) _ _ _ (by rfl) base 332 j0 (.agg #[.string ⟨#[]⟩,.slice none 0 0]) 2 40 Tryz.underlying175 hj hj0 hj1 hj2 rfl aF _ T _ (by rfl) kG.out ⟨w7.heap.size,0,none⟩ 1 1 [.string nm,.slice A1 acc.length c1] (by rfl) rfl ic.out (by intro u hu;simp at hu;rcases hu with rfl|rfl<;>rfl) aF (by unfold maxLen;omega) aM (by simp;omega) (w7.heap.size+1) (by simp) ?_;intro g' cap' w10 hown' hgrow hat lS;have BP:=ae (kP.out.off (Keeps.row hgrow) (bS kG.out) aF);have eZ:=uP.out.grown hgrow UB.out;have p10:=(BP.out.cell q).trans hq;have z10:=BP.out.frozen q;have n0:=eZ.cell 0;have n1:=eZ.cell 1;simp at n0 n1;obtain⟨kF,ff,Lm⟩:=bj hown' hgrow hat;clear hown' hgrow hat lS eZ;refine hK.out _ _ (fun _=>⟨p10,n0,n1⟩) (fun hHeld=>?_);have hHeld:=hHeld aF;clear hK K;try simp only[cq]
    refine dm 7 ?_
    refine lI 8 fun K hK=>?_;go_simp;refine hK.out _ _ (fun h=>absurd rfl h) (fun _=>?_);clear hK K hHeld;try simp only[cq]
    refine J9 ?_;go_wp2_with fail
    have K1:Keeps (fun k=>k=b∨k=P∨(cJ A T cap).ownBlock=some k) w (w7.alloc (.cells #[.string nm,.slice A1 acc.length c1] 332)).drew:=(((FIN.out _ Bd.out).mono fun k _ hk=>Or.inl hk).alloc _).drew;have K2:=(Keeps.grown K1 ff.out fun k hk=>Or.inl (Or.inr (Or.inr hk))).setCell (p:=⟨P,q,none⟩) (Or.inl (Or.inr (Or.inl rfl))) (.slice (some ⟨g',0,none⟩) (T+1) cap');have KS:=Keeps.row ff.out;have OS:=bS kG.out;have KQ:=(Keeps.refl (fun x=>x=P) w10).setCell (p:=⟨P,q,none⟩) (Or.inl rfl) (.slice (some ⟨g',0,none⟩) (T+1) cap');have OQ:Off (fun x=>x=P) w10 [179]:=fun k hk=>⟨_,_,_,by subst hk;exact BP.out,by simp⟩
    have R1:Rs (w7.alloc (.cells #[.string nm,.slice A1 acc.length c1] 332)).drew b P k n lv uv ws:=⟨(H7.out.alloc _).blk,(H7.out.alloc _).row,H7.out.ne,H7.out.len,H7.out.sizes⟩;have R2:=(R1.off KS OS aF aF).off KQ OQ aF aF;have B2:aD (w10.setCell ⟨P,q,none⟩ (.slice (some ⟨g',0,none⟩) (T+1) cap')) P 179 (pc.setIfInBounds q (.slice (some ⟨g',0,none⟩) (T+1) cap')):=BP.out.aN q _;have hstr:∀(u:Value)(m:Nat)(ys:List Value),w7.ownsRow base 9 1 u m ys→(w10.setCell ⟨P,q,none⟩ (.slice (some ⟨g',0,none⟩) (T+1) cap')).ownsRow base 9 1 u m ys:=fun u m ys hu=>
     aX (aX (show(w7.alloc (.cells #[.string nm,.slice A1 acc.length c1] 332)).drew.ownsRow base 9 1 u m ys from hu.alloc _) KS OS aF) KQ OQ (by decide)
    refine⟨rfl,_,results_none rfl _ _ _,dU.good HFin.out K2 ⟨rfl,k,_,R2,B2,⟨xs++[(⟨nm,acc⟩,.slice A1 acc.length c1)],by simp[hxs],?_,?_⟩,?_⟩⟩
    ·rw[ai,←HT.out,List.map_append,show List.map rq [((⟨nm,acc⟩:Nm),cJ A1 acc.length c1)]=[(nm,.slice A1 acc.length c1)]from rfl,zd];exact aX kF.out KQ OQ (by decide)
    ·intro x hx;rcases List.mem_append.1 hx with hx|hx
     ·exact hstr _ _ _ (hnx x hx)
     ·rw[List.mem_singleton.1 hx];exact hstr _ _ _ (Yv.out.mono aM)
    ·intro g hg;have hgg:some g'=some g:=hg;injection hgg with hgg
     rcases Lm.out with h|h
     ·exact Or.inl (hgg▸h)
     ·have hs:=(FIN.out _ Bd.out).size;exact Or.inr (by omega)
end Go.Proofs.YteflnojjjdkgmaaGreatDoor
