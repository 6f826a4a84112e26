/- Joined out of: PlJ PlK PlL PlM. -/
import Derived.Test.YtdfnhljccdoncaaGreatDoorNag
import Derived.Deep.AppendLies
set_option linter.unusedVariables false
set_option linter.unusedSimpArgs false
set_option maxHeartbeats 16000000
set_option maxRecDepth 100000
open ByteArray renaming empty→sA,size→agj
open Go.Lib renaming hid→ae
open Go.Proofs.Tryz renaming prog→ai,underlying9→bL,underlying89→ew,underlying27→agk
open Go.RowKit renaming Hid→af
open Go.Value renaming string→bU,slice→iC
open Go.World renaming ownsRow_nil→bK
open List renaming getElem?_eq_getElem→ag,length_append→aj,length_map→ay,drop_eq_getElem_cons→bP,getElem?_map→bR,length_singleton→fY,drop_eq_nil_of_le→sU,getElem?_eq_none_iff→agx
open Nat renaming le_refl→aw
namespace Go.Proofs.YtdfnhljccdoncaaGreatDoor
open Go.RowKit
attribute [local go_sem↓] Go.wp_at_zero Go.wp_at_succ
def Qj(o:Option (Nat×Nat))(w:World)(r:Ending)(w':World):Prop:=(∃a b:Nat,a<65536∧b<65536∧r=.returned (.tuple #[.agg #[.int .u16 a,.int .u16 b],.bool o.isSome])∧∀x,o=some x→x=(a,b))∧Below w.heap.size w w'
theorem Jw{w:World}{g:Nat}{a b:Value}(h:aG w g 342 #[a,b]):(loadVar 342 ⟨g,0,none⟩).run ai w=.ok (.agg #[a,b]) w:=by
 have h0:=h.cell 0;have h1:=h.cell 1;simp at h0 h1;simp[loadVar,go_sem,h0,h1]
theorem yw(o1 o2:Option Nat)(n1 n2:Nat)(R:Option (Nat×Nat))(hR:R=match o1,o2 with
 |some a,some b=>if a≤b then some (a,b)else none
 |_,_=>none) (h1:∀x,o1=some x→n1=x) (h2:∀x,o2=some x→n2=x):R.isSome=(o1.isSome&&o2.isSome&&decide (n1≤n2))∧∀x,R=some x→x=(n1,n2):=by
 subst hR;cases o1 with
 |none=>exact⟨rfl,fun x hx=>by cases hx⟩
 |some a=>
  cases o2 with
  |none=>exact⟨rfl,fun x hx=>by cases hx⟩
  |some b=>
   obtain rfl:=h1 _ rfl;obtain rfl:=h2 _ rfl;by_cases h:n1≤n2
   ·simp[h]
   ·simp[h]
theorem yx{w:World}(env:Env w)(s:ByteArray)(hs:s.size≤2000000):Calls ai 286 #[.string s] w (Qj (kU s) w):=by
 have hB0:=aG.new w 342 #[.int .u16 0,.int .u16 0];have hb0:=boxed w (.cells #[.int .u16 0,.int .u16 0] 342);obtain⟨mx,hmx⟩:=(env.below hb0).mx;have hcut:=Tryz.strings_Cut s ⟨#[45]⟩ mx _ aY hmx;have hcl:=uh s.data.toList [45];rw[show(⟨#[45]⟩:ByteArray).data.toList=[45]from rfl]at hcut;obtain⟨RES,dY⟩:∃r,r=kU s:=⟨_,rfl⟩;rw[←dY];unfold kU at dY;simp only at dY;generalize Lib.cut s.data.toList [45]=C at hcl hcut dY;obtain⟨c1,c2,gap⟩:=C;simp only at hcl hcut dY;rw[show s.data.toList.length=s.size from(Lib.size_eq s).symm]at hcl;have hp1:=fun v(hv:Below w.heap.size w v)=>C0 (env.below hv) ⟨c1.toArray⟩ (by rw[show(⟨c1.toArray⟩:ByteArray).size=c1.length by simp[agj]];omega)
 have hp2:=fun v(hv:Below w.heap.size w v)=>C0 (env.below hv) ⟨(if gap=true then c2 else c1).toArray⟩ (by rw[show(⟨(if gap=true then c2 else c1).toArray⟩:ByteArray).size=(if gap=true then c2 else c1).length by simp[agj]];split<;>omega)
 rw[show(⟨c1.toArray⟩:ByteArray).data.toList=c1 from rfl]at hp1;rw[show(⟨(if gap=true then c2 else c1).toArray⟩:ByteArray).data.toList=(if gap=true then c2 else c1)from rfl]at hp2;obtain⟨lT,iZ,Hb0,HB0,xB⟩:=kp hp1 dY hb0 hB0 hcut;clear hp1 dY hcut hcl hmx env hb0 hB0;obtain⟨X,hX⟩:∃X,X=(if gap=true then c2 else c1):=⟨_,rfl⟩;rw[←hX]at hp2 iZ;have HP2:=ae hp2;clear hp2;go_enter Tryz.func286,Tryz.ntmps286;go_upto_region 2 with(go_at_call 312;(with_reducible refine xB.out.mono ?_);rintro r wq⟨rfl,nq,rfl⟩)
 obtain⟨w1,hw1⟩:∃w1,w1=((w.alloc (.cells #[.int .u16 0,.int .u16 0] 342)).drewN nq):=⟨_,rfl⟩;have Hb1:af (Below w.heap.size w w1):=by subst hw1;exact ae ⟨Hb0.out.os,Hb0.out.tape,Hb0.out.output,Hb0.out.size,Hb0.out.block⟩
 have HB1:af (aG w1 w.heap.size 342 #[.int .u16 0,.int .u16 0]):=by subst hw1;exact HB0
 rw[←hw1];clear hw1 Hb0 HB0 xB;cases gap with
 |true=>
  simp only[if_true]at hX;subst hX;go_upto_region 4 with fail
  go_upto_region 5 with(go_at_call 317;(with_reducible refine(lT.out _ Hb1.out).mono ?_);rintro r w2⟨⟨n1,hn1,rfl,hx1⟩,d2⟩)
  have Hb2:=bm Hb1 d2;have HB2:=ae (HB1.out.below d2 HB1.out.lt);clear d2 Hb1 HB1 lT;have Hx1:=ae hx1;clear hx1;go_upto_region 6 with(go_at_call 317;(with_reducible refine(HP2.out _ Hb2.out).mono ?_);rintro r w3⟨⟨n2,hn2,rfl,hx2⟩,d3⟩)
  have Hb3:=bm Hb2 d3;obtain⟨HB3,Hx2⟩:=aQ (HB2.out.below d3 HB2.out.lt) hx2;clear d3 Hb2 HB2 HP2 hx2;have b0:=HB3.out.cell 0;have b1:=HB3.out.cell 1;have z0:=HB3.out.frozen 0;have z1:=HB3.out.frozen 1;simp at b0 b1 z0 z1;go_wp2_with fail
  all_goals
   obtain⟨e1,e2⟩:=yw _ _ n1 n2 RES iZ.out Hx1.out Hx2.out;have s0:aG (w3.setCell ⟨w.heap.size,0,none⟩ (.int .u16 n1)) w.heap.size 342 #[.int .u16 n1,.int .u16 0]:=HB3.out.aM 0 _;have s1:aG ((w3.setCell ⟨w.heap.size,0,none⟩ (.int .u16 n1)).setCell ⟨w.heap.size,1,none⟩ (.int .u16 n2)) w.heap.size 342 #[.int .u16 n1,.int .u16 n2]:=s0.aM 1 _;have q:=(Hb3.out.setCell (p:=⟨w.heap.size,0,none⟩) (aw _) (.int .u16 n1)).setCell (p:=⟨w.heap.size,1,none⟩) (aw _) (.int .u16 n2);refine bodyPost_ret (bq rfl rfl rfl (Jw s1)) rfl ⟨⟨n1,n2,hn1,hn2,?_,e2⟩,q⟩;rw[e1];simp[*]
 |false=>
  simp only[Bool.false_eq_true,if_false]at hX;subst hX;go_upto_region 4 with fail
  go_upto_region 5 with(go_at_call 317;(with_reducible refine(lT.out _ Hb1.out).mono ?_);rintro r w2⟨⟨n1,hn1,rfl,hx1⟩,d2⟩)
  have Hb2:=bm Hb1 d2;have HB2:=ae (HB1.out.below d2 HB1.out.lt);clear d2 Hb1 HB1 lT;have Hx1:=ae hx1;clear hx1;go_upto_region 6 with(go_at_call 317;(with_reducible refine(HP2.out _ Hb2.out).mono ?_);rintro r w3⟨⟨n2,hn2,rfl,hx2⟩,d3⟩)
  have Hb3:=bm Hb2 d3;obtain⟨HB3,Hx2⟩:=aQ (HB2.out.below d3 HB2.out.lt) hx2;clear d3 Hb2 HB2 HP2 hx2;have b0:=HB3.out.cell 0;have b1:=HB3.out.cell 1;have z0:=HB3.out.frozen 0;have z1:=HB3.out.frozen 1;simp at b0 b1 z0 z1;go_wp2_with fail
  all_goals
   obtain⟨e1,e2⟩:=yw _ _ n1 n2 RES iZ.out Hx1.out Hx2.out;have s0:aG (w3.setCell ⟨w.heap.size,0,none⟩ (.int .u16 n1)) w.heap.size 342 #[.int .u16 n1,.int .u16 0]:=HB3.out.aM 0 _;have s1:aG ((w3.setCell ⟨w.heap.size,0,none⟩ (.int .u16 n1)).setCell ⟨w.heap.size,1,none⟩ (.int .u16 n2)) w.heap.size 342 #[.int .u16 n1,.int .u16 n2]:=s0.aM 1 _;have q:=(Hb3.out.setCell (p:=⟨w.heap.size,0,none⟩) (aw _) (.int .u16 n1)).setCell (p:=⟨w.heap.size,1,none⟩) (aw _) (.int .u16 n2);refine bodyPost_ret (bq rfl rfl rfl (Jw s1)) rfl ⟨⟨n1,n2,hn1,hn2,?_,e2⟩,q⟩;rw[e1];simp[*]
def i6(c:UInt8)(s:ByteArray):List ByteArray:=(cQ c s.data.toList).map iF
theorem qm(c:UInt8)(s:ByteArray):(i6 c s).map (·.data.toList)=cQ c s.data.toList:=by
 unfold i6;rw[List.map_map];exact List.map_id _
theorem Da{c:UInt8}{s:ByteArray}:∀t∈i6 c s,t.size≤s.size:=by
 intro t ht;obtain⟨x,hx,rfl⟩:=List.mem_map.1 ht;have:=sQ hx;rw[show s.data.toList.length=s.size from(Lib.size_eq s).symm]at this;show(x.toArray).size≤s.size;rw[List.size_toArray];exact this
theorem oY(c:UInt8)(s:ByteArray):(i6 c s).length≤s.size+1:=by
 unfold i6;rw[ay];have:=oR c s.data.toList;rw[show s.data.toList.length=s.size from(Lib.size_eq s).symm]at this;omega
theorem vl{w:World}(env:Env w)(s:ByteArray)(hs:s.size≤2000000)(c:UInt8):Calls ai 206 #[.string s,.string ⟨#[c]⟩] w fun r w'=>r=.returned (.slice (some ⟨w.heap.size,0,none⟩) (i6 c s).length (i6 c s).length)∧w'=w.alloc (.cells ((i6 c s).map bU).toArray 9):=by
 obtain⟨m,hm⟩:=env.mx;have HS:=Tryz.strings_Split s ⟨#[c]⟩ m w aY hm (show 1≤1 from aw _);have hsp:=uJ s ⟨#[c]⟩ c rfl;have hP:Lib.splitB ⟨#[c]⟩ 0 (Lib.countB s ⟨#[c]⟩) s=i6 c s:=by
  unfold i6;rw[←hsp,List.map_map];exact(List.map_id _).symm
 have hcount:Lib.countB s ⟨#[c]⟩+1=(i6 c s).length:=by
  have:=Lib.splitB_all (⟨#[c]⟩:ByteArray) (show 1≤1 from aw _) 0 (Lib.countB s ⟨#[c]⟩) s rfl;rw[hP]at this;omega
 rw[hcount,hP]at HS;exact HS.mono fun r w' h=>h
def zD:List SE:=[⟨zh,.int .u8 1,0⟩,⟨Jr,.int .u8 6,1⟩,⟨Js,.int .u8 17,2⟩]
theorem xC{w:World}{m clock:Nat}(h:ek w m zD clock)(s:ByteArray):(Instr.lookup 371 (.map (some m)) (.string s) false).run ai w=.ok (.int .u8 (fQ s.data.toList:Int)) w:=by
 have hT:=Tryz.underlying371;have hK:=bL;unfold fQ;rw[pY];by_cases e1:s=zh
 ·subst e1;rw[if_pos rfl];exact fp hT hK h _ (j:=0) (x:=⟨zh,.int .u8 1,0⟩) (by decide+kernel) rfl
 rw[if_neg e1];by_cases e2:s=Jr
 ·subst e2;rw[if_pos rfl];exact fp hT hK h _ (j:=1) (x:=⟨Jr,.int .u8 6,1⟩) (by decide+kernel) rfl
 rw[if_neg e2];by_cases e3:s=Js
 ·subst e3;rw[if_pos rfl];exact fp hT hK h _ (j:=2) (x:=⟨Js,.int .u8 17,2⟩) (by decide+kernel) rfl
 rw[if_neg e3];refine lw hT hK h s ?_ (Tryz.zeroValue5 w);unfold at_ zD;simp only[List.findIdx?_cons,List.findIdx?_nil];rw[cS (Ne.symm e1),cS (Ne.symm e2),cS (Ne.symm e3)];rfl
theorem Db(w0:World):∃w1 w2 w3:World,(Instr.mapUpdate 371 (.map (some w0.heap.size)) (.string ⟨#[105,99,109,112]⟩) (.int .u8 1)).run ai (w0.alloc (.map #[] 0))=.ok () w1∧(Instr.mapUpdate 371 (.map (some w0.heap.size)) (.string ⟨#[116,99,112]⟩) (.int .u8 6)).run ai w1=.ok () w2∧(Instr.mapUpdate 371 (.map (some w0.heap.size)) (.string ⟨#[117,100,112]⟩) (.int .u8 17)).run ai w2=.ok () w3∧ek w3 w0.heap.size zD 3∧Below w0.heap.size w0 w3:=by
 have hT:=Tryz.underlying371;have hK:=bL;have h0:ek (w0.alloc (.map #[] 0)) w0.heap.size [] 0:=heap_alloc_new w0 _;obtain⟨w1,e1,_,_,k1,m1⟩:=eD (P:=ai) hT hK h0 ⟨#[105,99,109,112]⟩ (by decide+kernel) (.int .u8 1);obtain⟨w2,e2,_,_,k2,m2⟩:=eD (P:=ai) hT hK m1 ⟨#[116,99,112]⟩ (by decide+kernel) (.int .u8 6);obtain⟨w3,e3,_,_,k3,m3⟩:=eD (P:=ai) hT hK m2 ⟨#[117,100,112]⟩ (by decide+kernel) (.int .u8 17);refine⟨w1,w2,w3,e1,e2,e3,m3,?_⟩;exact(boxed w0 _).trans (Keeps.below ((k1.trans k2).trans k3) (fun k hk=>by rw[hk];exact aw _) (by simp))
def dV(l:List Nat):List Value:=l.map fun x:Nat=>Value.int .u8 (x:Int)
def fA(o:Option (List Nat))(w:World)(r:Ending)(w':World):Prop:=(match o with
 |none=>r=.returned (.tuple #[.slice none 0 0,.bool false])
 |some L=>∃v:Value,r=.returned (.tuple #[v,.bool true])∧w'.ownsRow w.heap.size 5 1 v L.length (dV L))∧Below w.heap.size w w'
theorem fA.bad{W w':World}{o:Option (List Nat)}(h:o=none)(hb:Below W.heap.size W w'):fA o W (.returned (.tuple #[.slice none 0 0,.bool false])) w':=by rw[h];exact⟨rfl,hb⟩
theorem fA.good{W w':World}{o:Option (List Nat)}{L:List Nat}{v:Value}(h:o=some L)(ho:w'.ownsRow W.heap.size 5 1 v L.length (dV L))(hb:Below W.heap.size W w'):fA o W (.returned (.tuple #[v,.bool true])) w':=by rw[h];exact⟨⟨v,rfl,ho⟩,hb⟩
theorem Qk:(ai.info? 5).map (fun i=>(i.zero,i.size,i.bytes))=some (some (.int .u8 0),1,1):=by kernel_rfl
def nw(l:List Nat):Nat:=(l[l.length-1]?).getD 0
theorem Gw{l:List Nat}(h:0<l.length):(dV l)[l.length-1]? =some (.int .u8 (nw l:Int)):=by
 unfold dV nw;rw[bR,ag aY];rfl
theorem vm(l:List Nat)(x:Nat):nw (l++[x])=x:=by simp[nw]
theorem mP(l:List Nat)(x:Nat):dV (l++[x])=dV l++[.int .u8 x]:=by simp[dV]
theorem L8(w:List UInt8):fQ w≤17:=by unfold fQ;split;omega;split;omega;split<;>omega
theorem xE{last:Nat}{acc:List Nat}{t:List UInt8}{r:List (List UInt8)}:(fc last (t::r)).map (acc++·)=if fQ t=0∨fQ t≤last then none else(fc (fQ t) r).map ((acc++[fQ t])++·):=by
 rw[fc];split
 ·rfl
 ·rw[Option.map_map];congr 1;funext x;simp
theorem Gx{w:World}(env:Env w)(s:ByteArray)(hs:s.size≤2000000):Calls ai 284 #[.string s] w (fA (gV s) w):=by
 by_cases hst:s=Jq
 ·subst hst;rw[show gV Jq=some [] by unfold gV;rw[if_pos rfl]];unfold Jq;have hb0:=Below.refl w.heap.size w;clear env hs;go_enter Tryz.func284,Tryz.ntmps284;go_wp2_with fail
  go_ret2;exact fA.good (v:=.slice none 0 0) rfl (bK _ _ _ _) hb0
 ·have hss:(s.toList==[97,110,121])=false:=by
   rw[beq_eq_false_iff_ne];intro h;rw[ByteArray.toList_eq]at h;exact hst (ByteArray.ext (Array.ext' h))
  obtain⟨i0,hi,hz0,hz1,hz2⟩:=info_parts Qk;have hmm:= @run_makeMap ai;obtain⟨w1,w2,w3,e1,e2,e3,hM,hbm⟩:=Db w;have hsp:=vl (env.below hbm) s hs 44;obtain⟨RES,dY⟩:∃r,r=gV s:=⟨_,rfl⟩;rw[←dY];unfold gV at dY;rw[if_neg hst,←qm]at dY;have Lt:=oY 44 s;generalize i6 44 s=F at hsp dY Lt;obtain⟨N,hN⟩:∃n,n=F.length:=⟨_,rfl⟩;rw[←hN]at hsp Lt;have hN1:N≤2000001:=by omega
  have HSp:=ae hsp;have iZ:af (RES=(fc (nw []) ((F.map (·.data.toList)).drop 0)).map (([]:List Nat)++·)):=ae (by rw[dY];simp[nw]);obtain⟨HN,HM,Hbm⟩:=bO hN hM hbm;have hsz3:w.heap.size<w3.heap.size:=hM.lt;clear hsp dY hM hbm hN hst env Lt;go_enter Tryz.func284,Tryz.ntmps284;go_wp2_with(go_at_call 206;(with_reducible refine HSp.out.mono ?_);rintro r wq⟨rfl,rfl⟩)
  have hrow:aG (w3.alloc (.cells (F.map bU).toArray 9)) w3.heap.size 9 (F.map bU).toArray:=aG.new _ _ _;have hb1:=boxed w3 (.cells (F.map bU).toArray 9);have Hb0:=bm Hbm hb1;obtain⟨HM0,xu⟩:=aQ (HM.out.below hb1 HM.out.lt) hrow;have hsz0:w3.heap.size<(w3.alloc (.cells (F.map bU).toArray 9)).heap.size:=by simp
  clear e1 e2 e3 hmm hb1 hrow HSp Hbm HM;generalize w3.alloc (.cells (F.map bU).toArray 9)=W0 at Hb0 HM0 xu hsz0⊢;generalize w3.heap.size=gR at xu hsz0 hsz3⊢;have hmW:w.heap.size<W0.heap.size:=by omega
  go_loopw [2,15] (fun v2 v15 wr=>∃(k:Nat)(acc:List Nat)(A:Option Addr)(cap:Nat),k≤N∧v15=.int .i64 k∧v2=.slice A acc.length cap∧acc.length≤k∧af (wr.ownsRow W0.heap.size 5 1 (.slice A acc.length cap) acc.length (dV acc))∧af (Below W0.heap.size W0 wr)∧af (RES=(fc (nw acc) ((F.map (·.data.toList)).drop k)).map (acc++·))) (fun _ v15 _=>N-(intOf v15).toNat)
  case atStart=>exact⟨0,[],none,0,Nat.zero_le _,rfl,rfl,by simp,ae (bK _ _ _ _),ae (Below.refl _ _),iZ⟩
  case round=>
   obtain⟨k,acc,A,cap,hk,rfl,rfl,hak,hown,hb,hres⟩:=hrel;by_cases hlt:k<N
   ·have FZ:k<F.length:=by have:=HN.out;omega
    have cx:=(hb.out.cell (p:=⟨gR,k,none⟩) hsz0).trans (xu.out.cell k);rw[List.getElem?_toArray,bR,ag FZ]at cx;simp only[Option.map_some]at cx;have hres2:=hres.out;rw[←List.map_drop,bP FZ,List.map_cons,xE,List.map_drop]at hres2;generalize F[k]'FZ=T at cx hres2;have hlk:=xC (HM0.out.below hb.out hmW) T;have aeC:=L8 T.data.toList;generalize fQ T.data.toList=x at hres2 hlk aeC;have ey:=ae hres2;clear hres2 hres FZ;by_cases hx0:x=0
    ·subst hx0;have hR:=ey.out;rw[if_pos (Or.inl rfl)]at hR;have HR:=ae hR;clear hR ey;go_wp2_with fail
     go_ret2;exact fA.bad HR.out (after Hb0.out hb.out)
    have q0:((x:Int)==0)=false:=by simp;omega
    by_cases hac:acc.length=0
    ·obtain rfl:=List.eq_nil_of_length_eq_zero hac;have hR:=ey.out;rw[if_neg (by simp[nw];omega)]at hR;have HRn:af (RES=(fc (nw ([]++[x])) ((F.map (·.data.toList)).drop (k+1))).map (([]++[x])++·)):=ae (by rw[vm];exact hR);clear hR ey hx0;go_wp2_with(at_builtin;refine wpList_append_own _ rfl _ _ 89 rfl W0.heap.size 5 i0 (.int .u8 0) 1 1 ew hi hz0 hz1 hz2 rfl aI _ 0 _ rfl (hown.out.alloc _) ⟨wr.heap.size,0,none⟩ 1 1 [.int .u8 x] rfl rfl (cell_one_new _ _ _) (fun x hx=>by simp at hx;subst hx;rfl) (by unfold maxLen;omega) aY (by have:=hb.out.size;simp;omega) ?_;intro v' w3 hown' hgrow3 hnil3;have PU:=ae hown';have hbW:=ae ((hb.out.alloc (hb.out.size) _).grown hgrow3 (by have:=hb.out.size;simp;omega) (fun q hq=>(hown.out.lt q hq).1));clear hown' hgrow3 hnil3)
     obtain⟨A',cap',rfl⟩:=aL PU.out;go_roundw
     case rel=>exact⟨k+1,[]++[x],A',cap',by omega,by go_num,by rw[aj];rfl,by rw[aj,fY];simp,ae (by rw[mP,aj];exact PU.out),hbW,HRn⟩
     case measure=>simp[intOf];omega
    ·have hpos:0<acc.length:=by omega
     have hl:=Gw hpos;rcases hown.out.2 with⟨e,_⟩|⟨g,cap2,cur,e,hrest⟩
     ·injection e with e1 e2 e3
      exact absurd e2 hac
     injection e with e1 e2 e3
     subst e1;have c2:=(hown.out.cellAt (acc.length-1) aY).trans hl;generalize hM:acc.length=M at hac hpos c2 hown hak⊢;have j1:IntKind.i64.wrap ((M:Int)-1)=((M-1:Nat):Int):=by rw[IntKind.wrap_i64];omega
     have j2:(0:Int)<(M:Int):=by omega
     generalize hLN:nw acc=LN at c2 hl ey;have Ql:=ae hM;clear hM hl hrest cur hx0;by_cases hge:x≤LN
     ·have hR:=ey.out;rw[if_pos (Or.inr hge)]at hR;have HR:=ae hR;have j3:(x:Int)≤(LN:Int):=by omega
      clear hR ey hge;go_wp2_with fail
      go_ret2;exact fA.bad HR.out (after Hb0.out hb.out)
     ·have hR:=ey.out;rw[if_neg aY]at hR;have HRn:af (RES=(fc (nw (acc++[x])) ((F.map (·.data.toList)).drop (k+1))).map ((acc++[x])++·)):=ae (by rw[vm];exact hR);have j3:¬(x:Int)≤(LN:Int):=by omega
      clear hR ey hge;go_wp2_with(at_builtin;refine wpList_append_own _ rfl _ _ 89 rfl W0.heap.size 5 i0 (.int .u8 0) 1 1 ew hi hz0 hz1 hz2 rfl aI _ M _ rfl (hown.out.alloc _) ⟨wr.heap.size,0,none⟩ 1 1 [.int .u8 x] rfl rfl (cell_one_new _ _ _) (fun x hx=>by simp at hx;subst hx;rfl) (by unfold maxLen;omega) aY (by have:=hb.out.size;simp;omega) ?_;intro v' w3 hown' hgrow3 hnil3;have PU:=ae hown';have hbW:=ae ((hb.out.alloc (hb.out.size) _).grown hgrow3 (by have:=hb.out.size;simp;omega) (fun q hq=>(hown.out.lt q hq).1));clear hown' hgrow3 hnil3)
      obtain⟨A',cap',rfl⟩:=aL PU.out;go_roundw
      case rel=>exact⟨k+1,acc++[x],A',cap',by omega,by go_num,by rw[aj,Ql.out];rfl,by rw[aj,fY,Ql.out];omega,ae (by rw[mP,aj,Ql.out];exact PU.out),hbW,HRn⟩
      case measure=>simp[intOf];omega
   ·obtain rfl:k=N:=by omega
    have hR:=hres.out;rw[sU (by rw[ay];have:=HN.out;omega),fc]at hR;have HR:=ae hR;clear hR hres;go_wp2_with fail
    go_ret2;exact fA.good (L:=acc) (by rw[HR.out];simp) (hown.out.mono Hb0.out.size) (after Hb0.out hb.out)
def Off(S:Nat→Prop)(w:World)(T:List TypeId):Prop:=∀k,S k→∃cur e fz,w.heap[k]? =some (.cells cur e fz)∧e∈T
theorem a8{S:Nat→Prop}{w w':World}{T:List TypeId}{base size n:Nat}{e:TypeId}{v:Value}{xs:List Value}(h:w.ownsRow base e size v n xs)(hk:Keeps S w w')(ho:Off S w T)(he:e∉T):w'.ownsRow base e size v n xs:=by
 refine jt h hk fun g hg hs=>?_
 rcases h.2 with⟨e1,_⟩|⟨g',cap,cur,e1,hb,hg',rest⟩
 ·subst e1;cases hg
 ·subst e1;injection hg with hg
  subst hg;obtain⟨aau,e2,fz,hh,hT⟩:=ho _ hs;rw[hg']at hh;injection hh with hh
  injection hh with _ h2 _
  exact he (h2▸hT)
theorem aG.off{S:Nat→Prop}{w w':World}{T:List TypeId}{g:Nat}{e:TypeId}{cs:Array Value}(h:aG w g e cs)(hk:Keeps S w w')(ho:Off S w T)(he:e∉T):aG w' g e cs:=by
 refine h.keep hk fun hs=>?_
 obtain⟨aau,e2,fz,hh,hT⟩:=ho _ hs;unfold aG at h;rw[h]at hh;injection hh with hh
 injection hh with _ h2 _
 exact he (h2▸hT)
theorem bY{w:World}{base size n:Nat}{e:TypeId}{v:Value}{xs:List Value}(h:w.ownsRow base e size v n xs):Off (fun k=>v.ownBlock=some k) w [e]:=by
 intro k hk;rcases h.2 with⟨e1,_⟩|⟨g',cap,cur,e1,hb,hg',rest⟩
 ·subst e1;cases hk
 ·subst e1;injection hk with hk
  subst hk;exact⟨cur,e,(0,0),hg',List.mem_singleton.2 rfl⟩
theorem Keeps.row{w w':World}{row:Option Nat}(h:w.grownBy w' row):Keeps (fun k=>row=some k) w w':=Keeps.Pz h fun k hk=>hk
theorem Rs.off{S:Nat→Prop}{w w':World}{T:List TypeId}{b P k n:Nat}{lv uv:Value}{ws:List ByteArray}(h:Rs w b P k n lv uv ws)(hk:Keeps S w w')(ho:Off S w T)(h1:235∉T)(h2:247∉T):Rs w' b P k n lv uv ws:=by
 refine⟨aG.off h.blk hk ho h1,?_,h.ne,h.len,h.sizes⟩;obtain⟨base,hb⟩:=h.row;exact⟨base,a8 hb hk ho h2⟩
theorem Rs.alloc{w:World}{b P k n:Nat}{lv uv:Value}{ws:List ByteArray}(h:Rs w b P k n lv uv ws)(o:Obj):Rs (w.alloc o) b P k n lv uv ws:=h.below (boxed w o)
theorem Keeps.grown{S:Nat→Prop}{a w w':World}{row:Option Nat}(h:Keeps S a w)(hg:w.grownBy w' row)(hr:∀k,row=some k→S k∨a.heap.size≤k):Keeps S a w':=⟨hg.os.trans h.os,hg.tape.trans h.tape,hg.output.trans h.output,Nat.le_trans h.size hg.size,fun k hk hs=>(hg.block k (Nat.lt_of_lt_of_le hk h.size) (fun e=>by
 rcases hr k e.symm with h|h
 ·exact hs h
 ·omega)).trans (h.block k hk hs)⟩
def strCells(l:List ByteArray):List Value:=l.map bU
theorem kX(l:List ByteArray)(s:ByteArray):strCells (l++[s])=strCells l++[.string s]:=by simp[strCells]
def rF(x:Nm×Value):ByteArray×Value:=(x.1.name,x.2)
def eG(w:World)(base:Nat)(v:Value)(l:List Nm):Prop:=∃xs:List (Nm×Value),xs.map (·.1)=l∧w.ownsRow base 296 2 v l.length (f8 (xs.map rF))∧∀x∈xs,w.ownsRow base 9 1 x.2 x.1.list.length (strCells x.1.list)
theorem eG.nil(w:World)(base:Nat):eG w base (.slice none 0 0) []:=⟨[],rfl,bK _ _ _ _,fun x hx=>by cases hx⟩
theorem zE(l:List (ByteArray×Value))(x:ByteArray×Value):f8 (l++[x])=f8 l++[.string x.1,x.2]:=by simp[f8]
theorem eG.keep{S:Nat→Prop}{w w':World}{T:List TypeId}{base:Nat}{v:Value}{l:List Nm}(h:eG w base v l)(hk:Keeps S w w')(ho:Off S w T)(he:9∉T)(hv:∀g,v.ownBlock=some g→¬S g):eG w' base v l:=by
 obtain⟨xs,h1,h2,h3⟩:=h;exact⟨xs,h1,jt h2 hk hv,fun x hx=>a8 (h3 x hx) hk ho he⟩
theorem eG.below{w w':World}{base:Nat}{v:Value}{l:List Nm}(h:eG w base v l)(hb:Below w.heap.size w w'):eG w' base v l:=by
 obtain⟨xs,h1,h2,h3⟩:=h;exact⟨xs,h1,own_below h2 hb,fun x hx=>own_below (h3 x hx) hb⟩
theorem eG.has{w:World}{base:Nat}{v:Value}{l:List Nm}(h:eG w base v l)(s:ByteArray):∃ys:List (ByteArray×Value),ys.length=l.length∧aV w v ys.length 2 (f8 ys)∧(ys.any fun x=>decide (x.1=s))=py l s:=by
 obtain⟨xs,rfl,h2,h3⟩:=h;refine⟨xs.map rF,by simp,?_,?_⟩
 ·have:=aV.dm h2;simpa using this
 ·unfold py;rw[List.any_map,List.any_map];rfl
theorem eG.shape{w:World}{base:Nat}{v:Value}{l:List Nm}(h:eG w base v l):∃A cap,v=.slice A l.length cap:=by
 obtain⟨xs,rfl,h2,h3⟩:=h;exact aL h2
theorem zF(l:List Hs)(x:Hs):eF (l++[x])=eF l++[.string x.name,.bool x.net.a.v6,.int .u64 (x.net.a.hi:Int),.int .u64 (x.net.a.lo:Int),.int .u8 (x.net.bits:Int)]:=by simp[eF]
def fU(l:List jC):List Value:=l.flatMap fun s=>s.cells.toList
theorem jm(l:List jC)(x:jC):fU (l++[x])=fU l++x.cells.toList:=by simp[fU]
def il(l:List (Nat×Nat)):List Value:=l.flatMap fun x=>[Value.int .u16 (x.1:Int),.int .u16 (x.2:Int)]
theorem ny(l:List (Nat×Nat))(x:Nat×Nat):il (l++[x])=il l++[.int .u16 (x.1:Int),.int .u16 (x.2:Int)]:=by simp[il]
structure Ve where
 a:Ac
 p:Value
 s:Value
 d:Value
 o:Value
structure oZ(w:World)(base:Nat)(x:Ve):Prop where
 p:w.ownsRow base 5 1 x.p x.a.ia.length (dV x.a.ia)
 s:w.ownsRow base 245 6 x.s x.a.src.length (fU x.a.src)
 d:w.ownsRow base 245 6 x.d x.a.dst.length (fU x.a.dst)
 o:w.ownsRow base 342 2 x.o x.a.iU.length (il x.a.iU)
def mg(l:List Ve):List Value:=l.flatMap fun x=>[x.p,x.s,x.d,x.o]
theorem qn(l:List Ve)(x:Ve):mg (l++[x])=mg l++[x.p,x.s,x.d,x.o]:=by simp[mg]
def gu(w:World)(base:Nat)(v:Value)(l:List Ac):Prop:=∃xs:List Ve,xs.map (·.a)=l∧w.ownsRow base 306 4 v l.length (mg xs)∧∀x∈xs,oZ w base x
theorem gu.nil(w:World)(base:Nat):gu w base (.slice none 0 0) []:=⟨[],rfl,bK _ _ _ _,fun x hx=>by cases hx⟩
theorem oZ.keep{S:Nat→Prop}{w w':World}{T:List TypeId}{base:Nat}{x:Ve}(h:oZ w base x)(hk:Keeps S w w')(ho:Off S w T)(h1:5∉T)(h2:245∉T)(h3:342∉T):oZ w' base x:=⟨a8 h.p hk ho h1,a8 h.s hk ho h2,a8 h.d hk ho h2,a8 h.o hk ho h3⟩
theorem gu.keep{S:Nat→Prop}{w w':World}{T:List TypeId}{base:Nat}{v:Value}{l:List Ac}(h:gu w base v l)(hk:Keeps S w w')(ho:Off S w T)(h1:5∉T)(h2:245∉T)(h3:342∉T)(hv:∀g,v.ownBlock=some g→¬S g):gu w' base v l:=by
 obtain⟨xs,e,ha,hb⟩:=h;exact⟨xs,e,jt ha hk hv,fun x hx=>(hb x hx).keep hk ho h1 h2 h3⟩
theorem gu.shape{w:World}{base:Nat}{v:Value}{l:List Ac}(h:gu w base v l):∃A cap,v=.slice A l.length cap:=by
 obtain⟨xs,rfl,h2,h3⟩:=h;exact aL h2
abbrev Us:=jC×Nat×Nat
def fu(l:List (Us×ByteArray)):List Value:=l.flatMap fun x=>x.1.1.cells.toList++[.string x.2,.int .i64 (x.1.2.1:Int),.int .i64 (x.1.2.2:Int)]
theorem qo(l:List (Us×ByteArray))(x:Us×ByteArray):fu (l++[x])=fu l++(x.1.1.cells.toList++[.string x.2,.int .i64 (x.1.2.1:Int),.int .i64 (x.1.2.2:Int)]):=by simp[fu]
def ez(w:World)(base:Nat)(v:Value)(l:List Us):Prop:=∃xs:List (Us×ByteArray),xs.map (·.1)=l∧w.ownsRow base 249 9 v l.length (fu xs)
theorem ez.nil(w:World)(base:Nat):ez w base (.slice none 0 0) []:=⟨[],rfl,bK _ _ _ _⟩
theorem ez.keep{S:Nat→Prop}{w w':World}{base:Nat}{v:Value}{l:List Us}(h:ez w base v l)(hk:Keeps S w w')(hv:∀g,v.ownBlock=some g→¬S g):ez w' base v l:=by
 obtain⟨xs,e,ha⟩:=h;exact⟨xs,e,jt ha hk hv⟩
theorem ez.shape{w:World}{base:Nat}{v:Value}{l:List Us}(h:ez w base v l):∃A cap,v=.slice A l.length cap:=by
 obtain⟨xs,rfl,h2⟩:=h;exact aL h2
theorem aV.V6{w:World}{base size n m:Nat}{e:TypeId}{v:Value}{xs:List Value}(h:w.ownsRow base e size v n xs)(hm:m=n):aV w v m size xs:=by subst hm;exact aV.dm h
theorem V7:(ai.info? 296).map (fun i=>(i.zero,i.size,i.bytes))=some (some (.agg #[.string ⟨#[]⟩,.slice none 0 0]),2,40):=by kernel_rfl
theorem V8:(ai.info? 300).map (fun i=>(i.zero,i.size,i.bytes))=some (some (.agg #[.string ⟨#[]⟩,.bool false,.int .u64 0,.int .u64 0,.int .u8 0]),5,48):=by kernel_rfl
theorem Qm:(ai.info? 245).map (fun i=>(i.zero,i.size,i.bytes))=some (some (.agg #[.int .u8 0,.string ⟨#[]⟩,.bool false,.int .u64 0,.int .u64 0,.int .u8 0]),6,56):=by kernel_rfl
theorem V9:(ai.info? 342).map (fun i=>(i.zero,i.size,i.bytes))=some (some (.agg #[.int .u16 0,.int .u16 0]),2,4):=by kernel_rfl
theorem Wa:(ai.info? 306).map (fun i=>(i.zero,i.size,i.bytes))=some (some (.agg #[.slice none 0 0,.slice none 0 0,.slice none 0 0,.slice none 0 0]),4,96):=by kernel_rfl
theorem Wb:(ai.info? 249).map (fun i=>(i.zero,i.size,i.bytes))=some (some (.agg #[.int .u8 0,.string ⟨#[]⟩,.bool false,.int .u64 0,.int .u64 0,.int .u8 0,.string ⟨#[]⟩,.int .i64 0,.int .i64 0]),9,88):=by kernel_rfl
def eA{α:Type}(o:Except Bad α)(n:Nat)(ok:α→Ending→Prop)(r:Ending):Prop:=match o with
 | .error e=>r=aP e.1 n e.2
 | .ok x=>ok x r
theorem eA.bad{α:Type}{o:Except Bad α}{n e i:Nat}{ok:α→Ending→Prop}(h:o=.error (e,i)):eA o n ok (aP e n i):=by subst h;rfl
theorem eA.good{α:Type}{o:Except Bad α}{n:Nat}{ok:α→Ending→Prop}{r:Ending}{x:α}(h:o=.ok x)(hr:ok x r):eA o n ok r:=by subst h;exact hr
def dZ{α:Type}(S0 S:Nat→Prop)(w w':World)(o:Except Bad α)(n:Nat)(ok:α→Ending→Prop)(r:Ending):Prop:=match o with
 | .error e=>Keeps S0 w w'∧r=aP e.1 n e.2
 | .ok x=>Keeps S w w'∧ok x r
theorem dZ.bad{α:Type}{S0 S:Nat→Prop}{w w':World}{o:Except Bad α}{n e i:Nat}{ok:α→Ending→Prop}(hk:Keeps S0 w w')(h:o=.error (e,i)):dZ S0 S w w' o n ok (aP e n i):=by subst h;exact⟨hk,rfl⟩
theorem dZ.good{α:Type}{S0 S:Nat→Prop}{w w':World}{o:Except Bad α}{n:Nat}{ok:α→Ending→Prop}{r:Ending}{x:α}(h:o=.ok x)(hk:Keeps S w w')(hr:ok x r):dZ S0 S w w' o n ok r:=by subst h;exact⟨hk,hr⟩
theorem dZ.line{α:Type}{S0 S:Nat→Prop}{w w':World}{o:Except Bad α}{n:Nat}{ok:α→Ending→Prop}{r:Ending}(h:dZ S0 S w w' o n ok r)(h0:∀k,S0 k→S k):Keeps S w w'∧eA o n ok r:=by
 cases o with
 |error e=>exact⟨h.1.mono fun k _=>h0 k,h.2⟩
 |ok x=>exact h
theorem dZ.err{α:Type}{S0 S:Nat→Prop}{w w':World}{o:Except Bad α}{n:Nat}{ok:α→Ending→Prop}{r:Ending}(h:dZ S0 S w w' o n ok r)(e:Bad)(he:o=.error e):Keeps S0 w w':=by
 subst he;exact h.1
def namesT(nm:ByteArray)(ws:List ByteArray)(k:Nat)(acc:List ByteArray)(first:Bool):Except Bad Nm:=if first=true∧ws.length≤k then .error (190,ws.length)else(ji (ws.drop k) k acc.length).map fun l=>⟨nm,acc++l⟩
theorem sW{nm s:ByteArray}{ws:List ByteArray}{k:Nat}{acc:List ByteArray}{first:Bool}(h:ws[k]? =some s):namesT nm ws k acc first=if cn s=false then .error (191,k)else if 64≤acc.length then .error (198,k)else namesT nm ws (k+1) (acc++[s]) false:=by
 have hk:k<ws.length:=(List.getElem?_eq_some_iff.1 h).1;have hg:ws[k]=s:=(List.getElem?_eq_some_iff.1 h).2;unfold namesT;rw[if_neg (show¬(first=true∧ws.length≤k) by omega),if_neg (show¬(false=true∧ws.length≤k+1) by simp),bP hk,hg]
 conv=>lhs;unfold ji
 by_cases h1:cn s=false
 ·rw[if_pos h1,if_pos h1];rfl
 rw[if_neg h1,if_neg h1];by_cases h2:64≤acc.length
 ·rw[if_pos h2,if_pos h2];rfl
 rw[if_neg h2,if_neg h2,aj,fY];cases ji (List.drop (k+1) ws) (k+1) (acc.length+1)with
 |error e=>rfl
 |ok l=>simp[Except.map]
theorem Gy{nm:ByteArray}{ws:List ByteArray}{k:Nat}{acc:List ByteArray}(h:ws.length≤k):namesT nm ws k acc false=.ok ⟨nm,acc⟩:=by
 unfold namesT;rw[if_neg (by simp),sU h];simp[ji,Except.map]
theorem Dc{nm:ByteArray}{ws:List ByteArray}{k:Nat}{acc:List ByteArray}(h:ws.length≤k):namesT nm ws k acc true=.error (190,ws.length):=by
 unfold namesT;rw[if_pos ⟨rfl,h⟩]
theorem L9{ws:List ByteArray}{told:List Nm}(hne:ws≠[]):kT ws told=if 64≤told.length then .error (198,0)else match ws[1]? with
 |none=>.error (190,ws.length)
 |some nm=>if cn nm=false then .error (191,1)else if py told nm=true then .error (197,1)else match ws[2]? with
  |none=>.error (190,ws.length)
  |some e=>if e≠Cm then .error (190,2)else namesT nm ws 3 [] true:=by
 unfold kT;by_cases h:64≤told.length
 ·rw[if_pos h,if_pos h]
 rw[if_neg h,if_neg h]
 match ws with
 |[]=>exact absurd rfl hne
 |[a]=>rfl
 |[a,nm]=>rfl
 |a::nm::e::r=>
  simp only[List.getElem?_cons_succ,List.getElem?_cons_zero];unfold namesT;cases r with
  |nil=>simp
  |cons s r=>simp
def vo(w:World)(b:Nat):Nat:=match w.cell? ⟨b,1,none⟩with
 |some (.int _ i)=>i.toNat
 |_=>0
theorem Rs.next{w:World}{b P k n:Nat}{lv uv:Value}{ws:List ByteArray}(h:Rs w b P k n lv uv ws):vo w b=k:=by
 have r1:=h.blk.cell 1;simp at r1;unfold vo;rw[r1];rfl
def Wc(w:World)(b P n base q:Nat)(lv uv lst:Value)(ws:List ByteArray)(told:List Nm)(pc:Array Value)(w':World)(x:Nm)(r:Ending):Prop:=r=.returned (.tuple #[])∧∃k' lst',Rs w' b P k' n lv uv ws∧aG w' P 190 (pc.setIfInBounds q lst')∧eG w' base lst' (told++[x])∧∀g,lst'.ownBlock=some g→lst.ownBlock=some g∨w.heap.size≤g
theorem yy{w:World}{b P n base q:Nat}{lv uv lst:Value}{ws:List ByteArray}{told:List Nm}{pc:Array Value}(h:Rs w b P 1 n lv uv ws)(hP:aG w P 190 pc)(hq:pc[q]? =some lst)(hN:eG w base lst told)(hbs:base≤w.heap.size):Calls ai 245 #[.pointer (some ⟨b,0,none⟩),.pointer (some ⟨P,q,none⟩)] w fun r w'=>dZ (fun k=>k=b) (fun k=>k=b∨k=P∨lst.ownBlock=some k) w w' (kT ws told) n (Wc w b P n base q lv uv lst ws told pc w') r:=by
 obtain⟨A,cap,rfl⟩:=hN.shape;obtain⟨T,hT⟩:∃t,t=told.length:=⟨_,rfl⟩;rw[←hT]at hq hN⊢;have hPb:P≠b:=hP.xc h.blk aI;have c0:=(hP.cell q).trans hq;have hlen1:1≤ws.length:=by
  have:=h.ne;cases ws with
  |nil=>exact absurd rfl this
  |cons x r=>simp
 have hroom:=h.room aY aY T;rw[show EY 1 ws=0 by unfold EY;rw[if_pos hlen1]]at hroom;obtain⟨RES,dY⟩:∃r,r=kT ws told:=⟨_,rfl⟩;rw[←dY];rw[L9 h.ne,←hT]at dY;obtain⟨jJ,H,HP,HN,iZ,HT,Hb0⟩:=uE hroom h hP hN dY hT (Keeps.refl (fun k=>k=b∨k=P∨(iC A T cap).ownBlock=some k) w);clear hroom h hP hN dY hT;go_enter Tryz.func245,Tryz.ntmps245;go_wp2_with fail
 go_at_call 279;refine jJ.out.mono ?_;rintro r w1⟨h1,d1⟩;by_cases Df:T<64
 case neg=>
  rw[decide_eq_false Df]at h1;unfold eV at h1;subst h1;unfold aP;exact⟨rfl,dZ.bad (Keeps.of_below d1 fun k hk _=>hk) (by rw[iZ.out,if_pos aY])⟩
 rw[decide_eq_true Df]at h1;unfold eV at h1;subst h1;obtain⟨H1,lT,jI,og⟩:=fH (H.out.below d1) (HP.out.below d1 HP.out.lt) (HN.out.below d1) (Keeps.of_below (S:=fun x=>x=b) d1 fun k hk _=>hk);have hR1:=iZ.out;rw[if_neg aY]at hR1;have HR1:=ae hR1;clear hR1 iZ jJ d1 H HP c0;have hname:=H1.out.name aY;unfold qf at hname;have nz:=ae hname;clear hname;go_wp2_with fail
 go_at_call 280;refine nz.out.mono ?_;rintro r w2⟨⟨d2,e2⟩,h2⟩;have kx:=ae (og.out.trans d2);cases hs1:ws[1]? with
 |none=>
  rw[hs1]at h2;simp only at h2;subst h2;unfold aP;have hR:=HR1.out;rw[hs1]at hR;exact⟨rfl,dZ.bad (kx.out) hR⟩
 |some nm=>
 rw[hs1]at h2;simp only at h2;have hR2:=HR1.out;rw[hs1]at hR2;simp only at hR2;by_cases hlab:cn nm=true
 case neg=>
  have hlf:cn nm=false:=by simpa using hlab
  rw[if_neg hlab]at h2;subst h2;unfold aP;rw[if_pos hlf]at hR2;exact⟨rfl,dZ.bad (kx.out) hR2⟩
 rw[if_pos hlab]at h2;subst h2;rw[if_neg (by simp[hlab])]at hR2;obtain⟨HR2,H2,HP2⟩:=bO hR2 e2 (lT.out.keep d2 hPb);have hAb:∀g,(iC A T cap).ownBlock=some g→¬g=b:=by
  intro g hg e;subst e;obtain⟨xs,_,ho,_⟩:=jI.out;rcases ho.2 with⟨e1,_⟩|⟨g',cap',cur,e1,hb,hg',_⟩
  ·rw[e1]at hg;cases hg
  ·rw[e1]at hg;injection hg with hg
   subst hg;exact(aG.xc (t:=296) (cs:=cur) (show aG w1 g' _ cur from hg') H1.out.blk aI) rfl
 have lU:=ae (jI.out.keep d2 (T:=[235]) (fun k hk=>⟨_,_,_,by subst hk;exact H1.out.blk,by simp⟩) aI hAb);clear hR2 HR1 nz jI lT H1 og e2 d2 hlab;go_wp2_with fail
 have hB3:=ae (aG.new w2 296 #[.string nm,.slice none 0 0]);have hb3:=boxed w2 (.cells #[.string nm,.slice none 0 0] 296);obtain⟨H3,fJ,yA,iD⟩:=fH (H2.out.below hb3) (HP2.out.alloc (.cells #[.string nm,.slice none 0 0] 296)) (lU.out.below hb3) (kx.out.alloc (.cells #[.string nm,.slice none 0 0] 296));have hsz3:w2.heap.size<(w2.alloc (.cells #[.string nm,.slice none 0 0] 296)).heap.size:=by simp
 have aav:w.heap.size≤w2.heap.size:=kx.out.size;clear H2 HP2 lU kx hb3;generalize w2.alloc (.cells #[.string nm,.slice none 0 0] 296)=w3 at hB3 H3 fJ yA iD hsz3⊢;generalize w2.heap.size=N at hB3 hsz3 aav⊢;have hNb:N≠b:=hB3.out.xc H3.out.blk aI;have hNP:N≠P:=hB3.out.xc fJ.out aI;have hAN:∀g,(iC A T cap).ownBlock=some g→g<w.heap.size:=by
  obtain⟨xs,_,ho,_⟩:=HN.out;exact fun g hg=>(ho.lt g hg).2
 obtain⟨ys,hyl,hyr,hya⟩:=yA.out.has nm;have hhas:=fun W(hW:Below w3.heap.size w3 W)=>zx ys (by have:=HT.out;omega) _ (hyr.below hW) nm
 rw[hya]at hhas;have x0:=(fJ.out.cell q).trans hq;have x1:=hB3.out.cell 0;simp at x1;have hun:=fun W(hW:Rs W b P (1+1) n lv uv ws)(is:Bool)=>hW.unless aY aY is 197
 rw[dM (by have:=(List.getElem?_eq_some_iff.1 hs1).1;omega)]at hun;obtain⟨rG,jv,HAN,HAb⟩:=fH (hhas w3.drew ⟨rfl,rfl,rfl,aw _,fun _ _=>rfl⟩) hun hAN hAb;clear hyl hyr hya hhas hun hAN hAb;by_cases hh:py told nm=true
 ·rw[hh]at rG;have hR:=HR2.out;rw[if_pos hh]at hR;have HR:=ae hR;have zG:af (∀(W:World),Rs W b P (1+1) n lv uv ws→Calls ai 210 #[.pointer (some ⟨b,0,none⟩),.bool false,.int .i64 197] W fun r w'=>r=aP 197 n 1∧Below W.heap.size W w'):=ae fun W hW=>jv.out W hW false
  clear hR hh HR2 jv;refine wp_region_held_drew (S:=(fun w'=>w'.cell? ⟨P,q,none⟩=some (.slice A T cap)∧w'.cell? ⟨N,0,none⟩=some (.string nm))) bJ (⟨x0,x1⟩) (fun hHeld=>?_);refine bB 0 ?_
  refine bB 1 ?_
  refine bB 2 ?_
  refine bB 3 ?_
  refine bB 4 ?_
  refine bB 5 ?_
  refine mM 6 fun K hK=>?_;go_simp;refine rG.out.mono ?_;rintro r w4⟨rfl,d4⟩;have e4:Below w3.heap.size w3 w4:=⟨d4.os,d4.tape,d4.output,d4.size,d4.block⟩;have y0:=((fJ.out.below e4 fJ.out.lt).cell q).trans hq;have y1:=(hB3.out.below e4 hB3.out.lt).cell 0;simp at y1;refine hK.out _ _ (⟨y0,y1⟩) (fun hHeld=>?_);clear hK K;try simp only[dX]
  refine bB 7 ?_
  refine mM 8 fun K hK=>?_;go_simp;refine(zG.out _ (H3.out.below e4)).mono ?_;rintro r w5⟨rfl,d5⟩;unfold aP;exact⟨rfl,dZ.bad (((iD.out.trans (Keeps.of_below e4 fun k hk _=>hk)).trans (Keeps.of_below d5 fun k hk _=>hk))) HR.out⟩
 have hhf:py told nm=false:=by simpa using hh
 rw[hhf]at rG;have hR:=HR2.out;rw[if_neg hh]at hR;have HR:=ae hR;have zG:af (∀(W:World),Rs W b P (1+1) n lv uv ws→Calls ai 210 #[.pointer (some ⟨b,0,none⟩),.bool true,.int .i64 197] W fun r w'=>r=.returned (.tuple #[])∧Below W.heap.size W w'):=ae fun W hW=>jv.out W hW true
 clear hR hh hhf HR2 jv;refine wp_region_held_drew (S:=(fun w'=>w'.cell? ⟨P,q,none⟩=some (.slice A T cap)∧w'.cell? ⟨N,0,none⟩=some (.string nm))) bJ (⟨x0,x1⟩) (fun hHeld=>?_);refine bB 0 ?_
 refine bB 1 ?_
 refine bB 2 ?_
 refine bB 3 ?_
 refine bB 4 ?_
 refine bB 5 ?_
 refine mM 6 fun K hK=>?_;go_simp;refine rG.out.mono ?_;rintro r w4⟨rfl,d4⟩;have e4:Below w3.heap.size w3 w4:=⟨d4.os,d4.tape,d4.output,d4.size,d4.block⟩;have y0:=((fJ.out.below e4 fJ.out.lt).cell q).trans hq;have y1:=(hB3.out.below e4 hB3.out.lt).cell 0;simp at y1;refine hK.out _ _ (⟨y0,y1⟩) (fun hHeld=>?_);clear hK K;try simp only[dX]
 refine bB 7 ?_
 refine mM 8 fun K hK=>?_;go_simp;refine(zG.out _ (H3.out.below e4)).mono ?_;rintro r w5⟨rfl,d5⟩;have e5:=after e4 d5;have z0:=((fJ.out.below e5 fJ.out.lt).cell q).trans hq;have z1:=(hB3.out.below e5 hB3.out.lt).cell 0;simp at z1;refine hK.out _ _ (⟨z0,z1⟩) (fun hHeld=>?_);clear hK K;try simp only[dX]
 refine tX ?_;obtain⟨H5,Fb,nt,HN5,BO⟩:=kp (H3.out.below e5) (fJ.out.below e5 fJ.out.lt) (hB3.out.below e5 hB3.out.lt) (yA.out.below e5) (iD.out.trans (Keeps.of_below e5 fun k hk _=>hk));have hsz5:w3.heap.size≤w5.heap.size:=e5.size;clear H3 fJ hB3 yA iD e4 e5 d5 y0 y1 z0 z1 x0 x1 hHeld rG zG;have gG:=H5.out.must (by have:=(List.getElem?_eq_some_iff.1 hs1).1;omega) Cm;unfold oW at gG;have kF:af (Calls ai 281 #[.pointer (some ⟨b,0,none⟩),.string ⟨#[61]⟩] w5 _):=ae gG;clear gG;go_wp2_with fail
 go_at_call 281;refine kF.out.mono ?_;rintro r w6⟨⟨d6,e6⟩,h6⟩;have rI:=ae (BO.out.trans d6);have gW:=HR.out;cases hs2:ws[2]? with
 |none=>
  rw[show 1+1=2 from rfl,hs2]at h6;simp only at h6;subst h6;unfold aP;rw[hs2]at gW;exact⟨rfl,dZ.bad (rI.out) gW⟩
 |some eq=>
 rw[show 1+1=2 from rfl,hs2]at h6;rw[hs2]at gW;simp only at h6 gW;by_cases heq:eq=Cm
 case neg=>
  rw[if_neg heq]at h6;subst h6;unfold aP;rw[if_pos heq]at gW;exact⟨rfl,dZ.bad (rI.out) gW⟩
 rw[if_pos heq]at h6;rw[if_neg (by simp[heq])]at gW;subst h6;have hlen3:3≤ws.length:=by have:=(List.getElem?_eq_some_iff.1 hs2).1;omega
 obtain⟨CZ,H6,Wg,ku⟩:=fH gW e6 (Fb.out.keep d6 hPb) (nt.out.keep d6 hNb);have HN6:=ae (HN5.out.keep d6 (T:=[235]) (fun k hk=>⟨_,_,_,by subst hk;exact H5.out.blk,by simp⟩) aI HAb.out);have afG:w5.heap.size≤w6.heap.size:=d6.size;clear kF gW HR BO Fb nt HN5 H5 d6 e6 hs1 hs2 heq;obtain⟨i0,hi,hz0,hz1,hz2⟩:=info_parts qc;have FIN:af (∀wx,Keeps (fun x=>x=b∨x=N) w6 wx→Keeps (fun k=>k=b) w wx):=ae fun wx h=>((rI.out.mono (T:=fun x=>x=b∨x=N) fun k _ hk=>Or.inl hk).trans h).mono fun k hk hs=>hs.elim id fun e=>absurd hk (by omega)
 go_wp2_with fail
 go_loopw [5] (fun v5 wr=>∃(k:Nat)(acc:List ByteArray)(first:Bool)(v:Value),v5=.bool first∧3≤k∧k≤ws.length∧af (first=true→acc=[])∧af (acc.length≤64)∧af (Rs wr b P k n lv uv ws)∧af (Keeps (fun x=>x=b∨x=N) w6 wr)∧af (aG wr N 296 #[.string nm,v])∧af (wr.ownsRow w6.heap.size 9 1 v acc.length (strCells acc))∧af (RES=namesT nm ws k acc first)) (fun _ wr=>ws.length+1-vo wr b)
 case atStart=>exact⟨3,[],true,_,rfl,by omega,hlen3,ae fun _=>rfl,ae (by simp),H6,ae (Keeps.refl _ _),ku,ae (bK _ _ _ _),CZ⟩
 case round=>
  obtain⟨k,acc,first,v,rfl,hk3,hk,hfa,hacc,hrs,hkp,hbn,hown,hres⟩:=hrel;have yi:=ae hrs.out.next;cases first with
  |true=>
   have RS:=hrs;have KP:=hkp;have BN:=hbn;have OW:=hown;clear hrs hkp hbn hown hfa;have hname:=RS.out.name hk;unfold qf at hname;have nz:=ae hname;clear hname;go_wp2_with fail
   go_at_call 280;refine nz.out.mono ?_;rintro r w8⟨⟨d8,e8⟩,h8⟩;obtain⟨rf,xF⟩:=aQ (KP.out.trans (d8.mono fun k _ hk=>Or.inl hk)) (BN.out.keep d8 hNb);have Gz:=ae (a8 OW.out d8 (T:=[235]) (fun k hk=>⟨_,_,_,by subst hk;exact RS.out.blk,by simp⟩) aI);clear KP BN OW RS nz d8;cases hsk:ws[k]? with
   |none=>
    have hge:ws.length≤k:=by rw[agx]at hsk;exact hsk
    rw[hsk]at h8;simp only at h8;subst h8;unfold aP;exact⟨rfl,dZ.bad (FIN.out _ rf.out) (by rw[hres.out,Dc hge])⟩
   |some s=>
   have hlt:k<ws.length:=(List.getElem?_eq_some_iff.1 hsk).1;rw[hsk]at h8;simp only at h8;have hst:=hres.out;rw[sW hsk]at hst;by_cases hl:cn s=true
   case neg=>
    rw[if_neg hl]at h8;subst h8;unfold aP;rw[if_pos (by simpa using hl)]at hst;exact⟨rfl,dZ.bad (FIN.out _ rf.out) hst⟩
   rw[if_pos hl]at h8;subst h8;rw[if_neg (by simp[hl])]at hst;obtain⟨Wh,xe⟩:=aQ hst e8;clear hst hres hsk hl e8;obtain⟨A1,c1,rfl⟩:=aL Gz.out;obtain⟨-,x1⟩:=pW xF;have z1:=xF.out.frozen 1;have hroom:=xe.out.room aY aY acc.length;rw[dM hlt]at hroom;have jJ:=ae hroom;have hacc:=hacc.out;obtain⟨L,hL⟩:∃l,l=acc.length:=⟨_,rfl⟩;rw[←hL]at x1 hacc jJ xF Gz Wh;have HL:=ae hL;clear hroom hL;go_wp2_with fail
   go_at_call 279;refine jJ.out.mono ?_;rintro r w9⟨h9,d9⟩;by_cases Qn:L<64
   case neg=>
    rw[decide_eq_false Qn]at h9;unfold eV at h9;subst h9;unfold aP;have hst:=Wh.out;rw[if_pos aY]at hst;exact⟨rfl,dZ.bad (FIN.out _ (rf.out.trans (Keeps.of_below d9 fun k hk _=>hk))) hst⟩
   rw[decide_eq_true Qn]at h9;unfold eV at h9;subst h9;have hst:=Wh.out;rw[if_neg aY]at hst;obtain⟨vq,Vf,RS9,Qo,Wi⟩:=kp hst (rf.out.trans (Keeps.of_below d9 fun k hk _=>hk)) (xe.out.below d9) (xF.out.below d9 xF.out.lt) (own_below Gz.out d9);clear hst Wh rf xe xF Gz jJ d9 x1 z1;have Qp:=Vf.out.size;obtain⟨-,x1⟩:=pW Qo;have z1:=Qo.out.frozen 1;have hNw:=Qo.out.lt;clear Qp;have Qp:=Vf.out.size;clear x1 z1;obtain⟨-,x1⟩:=pW Qo;go_wp2_with(at_builtin;refine wpList_append_lies _ rfl _ _ 27 rfl w6.heap.size 9 i0 (.string sA) 1 16 agk hi hz0 hz1 hz2 rfl aI _ L _ rfl (Wi.out.alloc _) ⟨w9.heap.size,0,none⟩ 1 1 [.string s] rfl rfl (cell_one_new _ _ _) (fun x hx=>by simp at hx;subst hx;rfl) aI (by unfold maxLen;omega) aY (by simp;omega) (w9.heap.size+1) (by simp) ?_;intro g' cap' w10 hown' hgrow hat mh;have fk:=ae ((Qo.out.alloc (.cells #[.string s] 9)).off (Keeps.row hgrow) (bY (Wi.out.alloc (.cells #[.string s] 9))) aI);obtain⟨-,x10⟩:=pW fk;have z10:=fk.out.frozen 1;obtain⟨kY,fq⟩:=aQ hown' hgrow;clear hown' hgrow hat mh)
   have KS:Keeps (fun k=>(iC A1 L c1).ownBlock=some k) (w9.alloc (.cells #[.string s] 9)) w10:=Keeps.row fq.out;have OS:=bY (Wi.out.alloc (.cells #[.string s] 9));have mj:=(RS9.out.alloc (.cells #[.string s] 9)).off KS OS aI aI;have mo:=Keeps.grown (Vf.out.alloc (.cells #[.string s] 9)) fq.out fun g hg=>Or.inr (Wi.out.lt g hg).1
   have qp:=mo.setCell (p:=⟨N,1,none⟩) (Or.inl (Or.inr rfl)) (.slice (some ⟨g',0,none⟩) (L+1) cap');have KN:=(Keeps.refl (fun x=>x=N) w10).setCell (p:=⟨N,1,none⟩) (Or.inl rfl) (.slice (some ⟨g',0,none⟩) (L+1) cap');have ON:Off (fun x=>x=N) w10 [296]:=fun k hk=>⟨_,_,_,by subst hk;exact fk.out,by simp⟩
   have oJ:=mj.off KN ON aI aI;have zH:=a8 kY.out KN ON aI;have rJ:aG (w10.setCell ⟨N,1,none⟩ (.slice (some ⟨g',0,none⟩) (L+1) cap')) N 296 #[.string nm,.slice (some ⟨g',0,none⟩) (L+1) cap']:=fk.out.aM 1 _;refine⟨⟨k+1,acc++[s],false,_,rfl,by omega,by omega,ae (fun h=>(by cases h)),ae (by rw[aj,←HL.out];simp;omega),ae oJ,ae qp,ae rJ,ae (by rw[aj,←HL.out,kX];exact zH),vq⟩,?_⟩;rw[oJ.next,yi.out];omega
  |false=>
   have hmore:=ae hrs.out.more;by_cases hlt0:k<ws.length
   ·rw[decide_eq_true hlt0]at hmore;go_upto_region 7 with(go_at_call 282;(with_reducible refine hmore.out.mono ?_);rintro r w7⟨rfl,d7⟩)
    obtain⟨RS,KP,BN,OW⟩:=fH (hrs.out.below d7) (hkp.out.trans (Keeps.of_below d7 fun k hk _=>hk)) (hbn.out.below d7 hbn.out.lt) (own_below hown.out d7);clear hrs hkp hbn hown hfa hmore d7;have hname:=RS.out.name hk;unfold qf at hname;have nz:=ae hname;clear hname;go_wp2_with fail
    go_at_call 280;refine nz.out.mono ?_;rintro r w8⟨⟨d8,e8⟩,h8⟩;obtain⟨rf,xF⟩:=aQ (KP.out.trans (d8.mono fun k _ hk=>Or.inl hk)) (BN.out.keep d8 hNb);have Gz:=ae (a8 OW.out d8 (T:=[235]) (fun k hk=>⟨_,_,_,by subst hk;exact RS.out.blk,by simp⟩) aI);clear KP BN OW RS nz d8;cases hsk:ws[k]? with
    |none=>
     have hge:ws.length≤k:=by rw[agx]at hsk;exact hsk
     rw[hsk]at h8;simp only at h8;subst h8;unfold aP;exact⟨rfl,dZ.bad (FIN.out _ rf.out) (absurd hlt0 aY)⟩
    |some s=>
    have hlt:k<ws.length:=(List.getElem?_eq_some_iff.1 hsk).1;rw[hsk]at h8;simp only at h8;have hst:=hres.out;rw[sW hsk]at hst;by_cases hl:cn s=true
    case neg=>
     rw[if_neg hl]at h8;subst h8;unfold aP;rw[if_pos (by simpa using hl)]at hst;exact⟨rfl,dZ.bad (FIN.out _ rf.out) hst⟩
    rw[if_pos hl]at h8;subst h8;rw[if_neg (by simp[hl])]at hst;obtain⟨Wh,xe⟩:=aQ hst e8;clear hst hres hsk hl e8;obtain⟨A1,c1,rfl⟩:=aL Gz.out;obtain⟨-,x1⟩:=pW xF;have z1:=xF.out.frozen 1;have hroom:=xe.out.room aY aY acc.length;rw[dM hlt]at hroom;have jJ:=ae hroom;have hacc:=hacc.out;obtain⟨L,hL⟩:∃l,l=acc.length:=⟨_,rfl⟩;rw[←hL]at x1 hacc jJ xF Gz Wh;have HL:=ae hL;clear hroom hL;go_wp2_with fail
    go_at_call 279;refine jJ.out.mono ?_;rintro r w9⟨h9,d9⟩;by_cases Qn:L<64
    case neg=>
     rw[decide_eq_false Qn]at h9;unfold eV at h9;subst h9;unfold aP;have hst:=Wh.out;rw[if_pos aY]at hst;exact⟨rfl,dZ.bad (FIN.out _ (rf.out.trans (Keeps.of_below d9 fun k hk _=>hk))) hst⟩
    rw[decide_eq_true Qn]at h9;unfold eV at h9;subst h9;have hst:=Wh.out;rw[if_neg aY]at hst;obtain⟨vq,Vf,RS9,Qo,Wi⟩:=kp hst (rf.out.trans (Keeps.of_below d9 fun k hk _=>hk)) (xe.out.below d9) (xF.out.below d9 xF.out.lt) (own_below Gz.out d9);clear hst Wh rf xe xF Gz jJ d9 x1 z1;have Qp:=Vf.out.size;obtain⟨-,x1⟩:=pW Qo;have z1:=Qo.out.frozen 1;have hNw:=Qo.out.lt;clear Qp;have Qp:=Vf.out.size;clear x1 z1;obtain⟨-,x1⟩:=pW Qo;go_wp2_with(at_builtin;refine wpList_append_lies _ rfl _ _ 27 rfl w6.heap.size 9 i0 (.string sA) 1 16 agk hi hz0 hz1 hz2 rfl aI _ L _ rfl (Wi.out.alloc _) ⟨w9.heap.size,0,none⟩ 1 1 [.string s] rfl rfl (cell_one_new _ _ _) (fun x hx=>by simp at hx;subst hx;rfl) aI (by unfold maxLen;omega) aY (by simp;omega) (w9.heap.size+1) (by simp) ?_;intro g' cap' w10 hown' hgrow hat mh;have fk:=ae ((Qo.out.alloc (.cells #[.string s] 9)).off (Keeps.row hgrow) (bY (Wi.out.alloc (.cells #[.string s] 9))) aI);obtain⟨-,x10⟩:=pW fk;have z10:=fk.out.frozen 1;obtain⟨kY,fq⟩:=aQ hown' hgrow;clear hown' hgrow hat mh)
    have KS:Keeps (fun k=>(iC A1 L c1).ownBlock=some k) (w9.alloc (.cells #[.string s] 9)) w10:=Keeps.row fq.out;have OS:=bY (Wi.out.alloc (.cells #[.string s] 9));have mj:=(RS9.out.alloc (.cells #[.string s] 9)).off KS OS aI aI;have mo:=Keeps.grown (Vf.out.alloc (.cells #[.string s] 9)) fq.out fun g hg=>Or.inr (Wi.out.lt g hg).1
    have qp:=mo.setCell (p:=⟨N,1,none⟩) (Or.inl (Or.inr rfl)) (.slice (some ⟨g',0,none⟩) (L+1) cap');have KN:=(Keeps.refl (fun x=>x=N) w10).setCell (p:=⟨N,1,none⟩) (Or.inl rfl) (.slice (some ⟨g',0,none⟩) (L+1) cap');have ON:Off (fun x=>x=N) w10 [296]:=fun k hk=>⟨_,_,_,by subst hk;exact fk.out,by simp⟩
    have oJ:=mj.off KN ON aI aI;have zH:=a8 kY.out KN ON aI;have rJ:aG (w10.setCell ⟨N,1,none⟩ (.slice (some ⟨g',0,none⟩) (L+1) cap')) N 296 #[.string nm,.slice (some ⟨g',0,none⟩) (L+1) cap']:=fk.out.aM 1 _;refine⟨⟨k+1,acc++[s],false,_,rfl,by omega,by omega,ae (fun h=>(by cases h)),ae (by rw[aj,←HL.out];simp;omega),ae oJ,ae qp,ae rJ,ae (by rw[aj,←HL.out,kX];exact zH),vq⟩,?_⟩;rw[oJ.next,yi.out];omega
   ·rw[decide_eq_false hlt0]at hmore;go_upto_region 10 with(go_at_call 282;(with_reducible refine hmore.out.mono ?_);rintro r w7⟨rfl,d7⟩)
    have H7:=ae (hrs.out.below d7);have Vg:=hkp.out.trans (Keeps.of_below d7 fun k hk _=>hk);obtain⟨BQ,B7,Zr⟩:=bO Vg (hbn.out.below d7 hbn.out.lt) (own_below hown.out d7);have hO6:Off (fun x=>x=b∨x=N) w6 [235,296]:=fun k hk=>by
     rcases hk with rfl|rfl
     ·exact⟨_,_,_,H6.out.blk,by simp⟩
     ·exact⟨_,_,_,ku.out,by simp⟩
    have P7:=ae (Wg.out.off Vg hO6 aI);have hAN:=HAN.out;have NM7:=ae (HN6.out.keep Vg hO6 aI fun g hg hs=>by
     rcases hs with hs|hs
     ·exact HAb.out g hg hs
     ·have:=hAN g hg;omega)
    have hfin:=hres.out;rw[Gy aY]at hfin;have HFin:=ae hfin;obtain⟨A1,c1,rfl⟩:=aL Zr.out;have afI:w6.heap.size≤w7.heap.size:=Vg.size;clear hrs hkp hbn hown hfa hmore d7 Vg hfin hres hO6 hAN hlt0;have x0:=(P7.out.cell q).trans hq;obtain⟨x1,x2⟩:=pW B7;have z0:=P7.out.frozen q;obtain⟨xs,hxs,hox,hnx⟩:=NM7.out;obtain⟨j0,hj,hj0,hj1,hj2⟩:=info_parts V7;rw[←HT.out]at hox;have acB:(w7.alloc (.cells #[.string nm,.slice A1 acc.length c1] 296)).drew.ownsRow base 296 2 (.slice A T cap) T (f8 (xs.map rF)):=hox.alloc _;have Zs:∀j u,[bU nm,.slice A1 acc.length c1][j]? =some u→(w7.alloc (.cells #[.string nm,.slice A1 acc.length c1] 296)).drew.cell? ((⟨w7.heap.size,0,none⟩:Addr).add j)=some u:=cD w7 [.string nm,.slice A1 acc.length c1] 296;have hPd:aG (w7.alloc (.cells #[.string nm,.slice A1 acc.length c1] 296)).drew P 190 pc:=P7.out.alloc _;obtain⟨kZ,iM⟩:=aQ acB Zs;have hNd:aG (w7.alloc (.cells #[.string nm,.slice A1 acc.length c1] 296)).drew N 296 #[.string nm,.slice A1 acc.length c1]:=B7.out.alloc _;have y0:=(hPd.cell q).trans hq;have y1:=hNd.cell 0;have y2:=hNd.cell 1;simp at y1 y2;have hNA:some N≠(iC A T cap).ownBlock:=fun e=>by have:=HAN.out N e.symm;omega
    obtain⟨Vh,ln,vv⟩:=bO hNA hPd hNd;clear hox acB Zs hPd hNd hNA;refine du 8 (fun w'=>w'.cell? ⟨P,q,none⟩=some (.slice A T cap)∧w'.cell? ⟨N,0,none⟩=some (.string nm)∧w'.cell? ⟨N,1,none⟩=some (.slice A1 acc.length c1)) bJ (⟨x0,x1,x2⟩) (fun hHeld=>?_);refine jF 0 ?_
    refine jF 1 ?_
    refine jF 2 ?_
    refine jF 3 ?_
    refine jF 4 ?_
    refine sH 5 fun K hK=>?_;go_simp
    skip
    refine hK.out _ _ (fun _=>⟨y0,y1,y2⟩) (fun hHeld=>?_);have hHeld:=hHeld aI;clear hK K;try simp only[dX]
    refine sH 6 fun K hK=>?_;refine step_append_lies _ (by rfl) _ _ _ (by rfl) base 296 j0 (.agg #[.string ⟨#[]⟩,.slice none 0 0]) 2 40 Tryz.underlying186 hj hj0 hj1 hj2 rfl aI _ T _ (by rfl) kZ.out ⟨w7.heap.size,0,none⟩ 1 1 [.string nm,.slice A1 acc.length c1] (by rfl) rfl iM.out (by intro u hu;simp at hu;rcases hu with rfl|rfl<;>rfl) aI (by unfold maxLen;omega) aY (by simp;omega) (w7.heap.size+1) (by simp) ?_;intro g' cap' w10 hown' hgrow hat mh;have BP:=ae (ln.out.off (Keeps.row hgrow) (bY kZ.out) aI);have fk:=vv.out.grown hgrow Vh.out;have p10:=(BP.out.cell q).trans hq;have z10:=BP.out.frozen q;have n0:=fk.cell 0;have n1:=fk.cell 1;simp at n0 n1;obtain⟨kY,fq,Mc⟩:=bO hown' hgrow hat;clear hown' hgrow hat mh fk;refine hK.out _ _ (fun _=>⟨p10,n0,n1⟩) (fun hHeld=>?_);have hHeld:=hHeld aI;clear hK K;try simp only[dX]
    refine jF 7 ?_
    refine sH 8 fun K hK=>?_;go_simp;refine hK.out _ _ (fun h=>absurd rfl h) (fun _=>?_);clear hK K hHeld;try simp only[dX]
    refine zdE ?_;go_wp2_with fail
    have K1:Keeps (fun k=>k=b∨k=P∨(iC A T cap).ownBlock=some k) w (w7.alloc (.cells #[.string nm,.slice A1 acc.length c1] 296)).drew:=(((FIN.out _ BQ.out).mono fun k _ hk=>Or.inl hk).alloc _).drew;have K2:=(Keeps.grown K1 fq.out fun k hk=>Or.inl (Or.inr (Or.inr hk))).setCell (p:=⟨P,q,none⟩) (Or.inl (Or.inr (Or.inl rfl))) (.slice (some ⟨g',0,none⟩) (T+1) cap');have KS:=Keeps.row fq.out;have OS:=bY kZ.out;have KQ:=(Keeps.refl (fun x=>x=P) w10).setCell (p:=⟨P,q,none⟩) (Or.inl rfl) (.slice (some ⟨g',0,none⟩) (T+1) cap');have OQ:Off (fun x=>x=P) w10 [190]:=fun k hk=>⟨_,_,_,by subst hk;exact BP.out,by simp⟩
    have R1:Rs (w7.alloc (.cells #[.string nm,.slice A1 acc.length c1] 296)).drew b P k n lv uv ws:=⟨(H7.out.alloc _).blk,(H7.out.alloc _).row,H7.out.ne,H7.out.len,H7.out.sizes⟩;have R2:=(R1.off KS OS aI aI).off KQ OQ aI aI;have B2:aG (w10.setCell ⟨P,q,none⟩ (.slice (some ⟨g',0,none⟩) (T+1) cap')) P 190 (pc.setIfInBounds q (.slice (some ⟨g',0,none⟩) (T+1) cap')):=BP.out.aM q _;have hstr:∀(u:Value)(m:Nat)(ys:List Value),w7.ownsRow base 9 1 u m ys→(w10.setCell ⟨P,q,none⟩ (.slice (some ⟨g',0,none⟩) (T+1) cap')).ownsRow base 9 1 u m ys:=fun u m ys hu=>
     a8 (a8 (show(w7.alloc (.cells #[.string nm,.slice A1 acc.length c1] 296)).drew.ownsRow base 9 1 u m ys from hu.alloc _) KS OS aI) KQ OQ (by decide)
    refine⟨rfl,_,results_none rfl _ _ _,dZ.good HFin.out K2 ⟨rfl,k,_,R2,B2,⟨xs++[(⟨nm,acc⟩,.slice A1 acc.length c1)],by simp[hxs],?_,?_⟩,?_⟩⟩
    ·rw[aj,←HT.out,List.map_append,show List.map rF [((⟨nm,acc⟩:Nm),iC A1 acc.length c1)]=[(nm,.slice A1 acc.length c1)]from rfl,zE];exact a8 kY.out KQ OQ (by decide)
    ·intro x hx;rcases List.mem_append.1 hx with hx|hx
     ·exact hstr _ _ _ (hnx x hx)
     ·rw[List.mem_singleton.1 hx];exact hstr _ _ _ (Zr.out.mono aY)
    ·intro g hg;have hgg:some g'=some g:=hg;injection hgg with hgg
     rcases Mc.out with h|h
     ·exact Or.inl (hgg▸h)
     ·have hs:=(FIN.out _ BQ.out).size;exact Or.inr (by omega)
end Go.Proofs.YtdfnhljccdoncaaGreatDoor
