/- Joined out of: NwS MkC NmB NmC NmD NmE PeC PeD PeE PeF PeH PeI PeJ PeK PeL PeM NfA. -/
import Derived.Test.YtkjaajcpbldjoaaGreatDoorKah
set_option linter.unusedVariables false
set_option linter.unusedSimpArgs false
set_option maxHeartbeats 16000000
set_option maxRecDepth 100000
open Bool renaming true_and→bV
open Go.Lib renaming hid→ae
open Go.Proofs.Tryz renaming prog→ah,underlying9→bn,underlying5→cB,underlying67→cR,zeroValue3→adS
open Go.Result renaming andThen_ok→j9
open Go.RowKit renaming Hid→ag
open Go.RowKit.Below renaming refl→aM
open Go.World renaming block_lt_of_cell?→aj
open List renaming getElem?_eq_getElem→af,length_append→ai,length_map→ay,getD_eq_getElem?_getD→aE,range→aF,take_of_length_le→aJ,append_assoc→aO,getElem_mem→a8,append_nil→dP,mem_map_of_mem→eC,map_cons→i6,getElem?_eq_none→uw,take_zero→ME,flatMap_cons→abe,take_add_one→ah1
open Nat renaming le_trans→aw,le_refl→aA,zero_le→bh,add_zero→b8
namespace Go.Proofs.YtkjaajcpbldjoaaGreatDoor
open Go.RowKit
attribute [local go_sem↓] Go.wp_at_zero Go.wp_at_succ
attribute [local go_sem] ep
def Turns(f:Nat)(lb:Array Value)(cs:Nat→List Value)(q:Nat→Bool)(N m:Nat)(I:Nat→World→Prop):Prop:=∀k,k<N→∀W,I k W→Calls ah f (#[.agg (cs k).toArray]++lb) W fun r W'=>r=.returned (.bool (q k))∧Keeps (fun x=>x=m) W W'∧(q k=false→I (k+1) W')
theorem bN{S:Nat→Prop}{w w':World}{a:Addr}{v:Value}(h:w.cell? a=some v)(k:Keeps S w w')(hs:¬S a.block):w'.cell? a=some v:=by
 have hl:=aj w _ h;unfold World.cell? at h⊢;rw[k.block _ hl hs];exact h
theorem Keeps.than{S:Nat→Prop}{a w w':World}(h:Keeps S a w)(k:aW w w'):Keeps S a w':=h.trans (Keeps.of_below k fun q hq _=>hq)
def ae4(I:Nat→World→Prop):Prop:=∀k W W',I k W→aW W W'→I k W'
theorem QH{w:World}{A:Option Addr}{N cap m:Nat}(hN:N≤4000000)(cs:Nat→List Value)(p:Nat→Bool)(I:Nat→World→Prop)(hc:dO w A N 8 cs)(hA:0<N→∀g o,A=some ⟨g,o,none⟩→g≠m)(f:Nat)(lb:Array Value)(eg:∀args w,(callFunc f args).run ah w=.ok (.enter f args) w)(hf:Turns f lb cs p N m I)(h0:I 0 w):Calls ah 105 #[.slice A N cap,.func (.func f) #[] lb] w fun r w'=>(∃z:Int,r=.returned (.int .i64 z)∧Yf p N z)∧Keeps (fun x=>x=m) w w':=by
 obtain⟨HC,HF,HA,H0⟩:=cY hc hf hA h0;clear hc hf hA h0;go_enter Tryz.func105,Tryz.ntmps105;go_wp2_with fail
 go_loopw [8] (fun v8 wr=>∃k:Nat,k≤N∧v8=.int .i64 k∧ag (Keeps (fun x=>x=m) w wr)∧ag (∀j,j<k→p j=false)∧ag (I k wr)) (fun v8 _=>N-(intOf v8).toNat)
 case atStart=>exact⟨0,bh _,rfl,ae (Keeps.refl _ _),ae (fun j hj=>absurd hj (Nat.not_lt_zero j)),H0⟩
 case round=>
  obtain⟨k,hk,rfl,hb,hno,hi⟩:=hrel;by_cases hlt:k<N
  ·obtain⟨hlen,q,o,rfl,hcell⟩:=HC.out k hlt;have hcall:=HF.out k hlt wr hi.out;generalize hcs:cs k=L at hlen hcell hcall;clear hcs;obtain⟨c0,c1,c2,c3,c4,c5,c6,c7,hL⟩:∃c0 c1 c2 c3 c4 c5 c6 c7,L=[c0,c1,c2,c3,c4,c5,c6,c7]:=by
    match L,hlen with
    |[c0,c1,c2,c3,c4,c5,c6,c7],_=>exact⟨c0,c1,c2,c3,c4,c5,c6,c7,rfl⟩
   subst hL;have d0:=bN (hcell 0 _ rfl) hb.out (HA.out aQ _ _ rfl);have d1:=bN (hcell 1 _ rfl) hb.out (HA.out aQ _ _ rfl);have d2:=bN (hcell 2 _ rfl) hb.out (HA.out aQ _ _ rfl);have d3:=bN (hcell 3 _ rfl) hb.out (HA.out aQ _ _ rfl);have d4:=bN (hcell 4 _ rfl) hb.out (HA.out aQ _ _ rfl);have d5:=bN (hcell 5 _ rfl) hb.out (HA.out aQ _ _ rfl);have d6:=bN (hcell 6 _ rfl) hb.out (HA.out aQ _ _ rfl);have d7:=bN (hcell 7 _ rfl) hb.out (HA.out aQ _ _ rfl);rw[b8]at d0;have bI:=ae hcall;clear hcall hcell hlen;cases hp:p k with
   |true=>
    rw[hp]at bI;have HP:=ae hp;clear hp;go_wp2_with(go_at_fn f;(with_reducible refine bI.out.mono ?_);rintro r w2⟨rfl,e2,_⟩)
    go_ret;exact⟨⟨_,rfl,.inl ⟨k,hlt,rfl,HP.out,hno.out⟩⟩,hb.out.trans e2⟩
   |false=>
    rw[hp]at bI;have HP:=ae hp;clear hp;go_wp2_with(go_at_fn f;(with_reducible refine bI.out.mono ?_);rintro r w2⟨rfl,e2,i2⟩;have Hi2:=ae (i2 rfl);clear i2)
    go_roundw
    case rel=>
     refine⟨k+1,by omega,by go_num,ae (hb.out.trans e2),ae (fun j hj=>?_),Hi2⟩;by_cases e:j=k
     ·rw[e];exact HP.out
     ·exact hno.out j (by omega)
    case measure=>simp[intOf];omega
  ·obtain rfl:k=N:=by omega
   go_wp2_with fail
   go_ret;exact⟨⟨_,rfl,.inr ⟨rfl,hno.out⟩⟩,hb.out⟩
theorem QI{w:World}{A:Option Addr}{N cap m:Nat}(hN:N≤4000000)(cs:Nat→List Value)(p:Nat→Bool)(I:Nat→World→Prop)(hc:dO w A N 8 cs)(hA:0<N→∀g o,A=some ⟨g,o,none⟩→g≠m)(f:Nat)(lb:Array Value)(eg:∀args w,(callFunc f args).run ah w=.ok (.enter f args) w)(hf:Turns f lb cs p N m I)(h0:I 0 w):Calls ah 129 #[.slice A N cap,.func (.func f) #[] lb] w fun r w'=>r=.returned (.bool ((aF N).any p))∧Keeps (fun x=>x=m) w w':=by
 have HI:=ae (QH (cap:=cap) hN cs p I hc hA f lb eg hf h0);clear hc hf hA h0;generalize hR:(aF N).any p=R;have HR:=ae hR;clear hR;go_enter Tryz.func129,Tryz.ntmps129;go_wp2_with(go_at_call 105;refine HI.out.mono ?_;rintro r w2⟨⟨z,rfl,hz⟩,e2⟩)
 go_ret;exact⟨by rw[←HR.out,←hz.any];rfl,e2⟩
theorem Kv{w:World}(L:List Value)(hl:L.length=8)(g:Nat)(f:Nat)(lb:Array Value)(eg:∀args w,(callFunc f args).run ah w=.ok (.enter f args) w)(hg:w.cell? ⟨g,0,none⟩=some (.func (.func f) #[] lb))(b:Bool)(m:Nat)(J:World→Prop)(hf:∀W,aW w W→Calls ah f (#[.agg L.toArray]++lb) W fun r W'=>r=.returned (.bool b)∧Keeps (fun x=>x=m) W W'∧J W'):Calls ah 130 #[.agg L.toArray,.pointer (some ⟨g,0,none⟩)] w fun r W'=>r=.returned (.bool (!b))∧Keeps (fun x=>x=m) w W'∧J W':=by
 obtain⟨c0,c1,c2,c3,c4,c5,c6,c7,hL⟩:∃c0 c1 c2 c3 c4 c5 c6 c7,L=[c0,c1,c2,c3,c4,c5,c6,c7]:=by
  match L,hl with
  |[c0,c1,c2,c3,c4,c5,c6,c7],_=>exact⟨c0,c1,c2,c3,c4,c5,c6,c7,rfl⟩
 subst hL;have HF:=ae hf;have hb:=boxed w (.cells #[c0,c1,c2,c3,c4,c5,c6,c7] 50);have HS:=ae (aG.new w 50 #[c0,c1,c2,c3,c4,c5,c6,c7]);have g0:=ak hg hb;obtain⟨HB,HK⟩:=aN hb ((Keeps.refl (fun x=>x=m) w).than hb);clear hf hg hb hl;go_enter Tryz.func130,Tryz.ntmps130;go_upto_region 1 with fail
 generalize w.alloc (.cells #[c0,c1,c2,c3,c4,c5,c6,c7] 50)=w1 at HB HK HS g0⊢;generalize w.heap.size=G at HS⊢;obtain⟨s0,s1,s2,s3,s4,s5,s6,s7⟩:=dA HS;go_wp2_with(go_at_fn f;(with_reducible refine(HF.out _ HB.out).mono ?_);rintro r w2⟨rfl,e2,j2⟩;have HJ:=ae j2;clear j2)
 go_ret;exact⟨rfl,(HK.out).trans e2,HJ.out⟩
theorem Kw{w:World}{A:Option Addr}{N cap m:Nat}(hN:N≤4000000)(cs:Nat→List Value)(p:Nat→Bool)(I:Nat→World→Prop)(hst:ae4 I)(hm:m<w.heap.size)(hc:dO w A N 8 cs)(hA:0<N→∀g o,A=some ⟨g,o,none⟩→g≠m)(f:Nat)(lb:Array Value)(eg:∀args w,(callFunc f args).run ah w=.ok (.enter f args) w)(hf:∀k,k<N→∀W,I k W→Calls ah f (#[.agg (cs k).toArray]++lb) W fun r W'=>r=.returned (.bool (p k))∧Keeps (fun x=>x=m) W W'∧(p k=true→I (k+1) W'))(h0:I 0 w):Calls ah 75 #[.slice A N cap,.func (.func f) #[] lb] w fun r w'=>r=.returned (.bool ((aF N).all p))∧Keeps (fun x=>x=m) w w':=by
 have hco:=fun u(hu:aW w u)g(hgm:g≠m)(hg:u.cell? ⟨g,0,none⟩=some (.func (.func f) #[] lb))=>QI (cap:=cap) (m:=m) hN cs (fun k=> !p k) (fun k W=>I k W∧W.cell? ⟨g,0,none⟩=some (.func (.func f) #[] lb)) (hc.below hu) hA 130 #[.pointer (some ⟨g,0,none⟩)] (enters_of Tryz.func130 bo rfl)
  (fun k hk W hW=>(Kv _ (hc k hk).1 g f lb eg hW.2 (p k) m (fun W'=>p k=true→I (k+1) W') fun W2 hW2=>hf k hk W2 (hst k W W2 hW.1 hW2)).mono fun r W' h=>⟨h.1,h.2.1,fun hn=>⟨h.2.2 (by simpa using hn),bN hW.2 h.2.1 hgm⟩⟩) ⟨hst 0 w u h0 hu,hg⟩
 rw[←si];generalize((aF N).any fun k=> !p k)=R at hco⊢;have UT:=ae hco;have hb:=boxed w (.cells #[.func (.func f) #[] lb] 107);obtain⟨HG,HB⟩:=aN (show(w.alloc (.cells #[.func (.func f) #[] lb] 107)).cell? ⟨w.heap.size,0,none⟩=some (.func (.func f) #[] lb)from(aG.new w 107 #[.func (.func f) #[] lb]).cell 0) hb;have HM:ag (w.heap.size≠m):=ae aQ;have HK:=ae ((Keeps.refl (fun x=>x=m) w).than hb);clear hco hc hf hb hst h0 hA hm;go_enter Tryz.func75,Tryz.ntmps75;go_upto_region 1 with fail
 generalize w.alloc (.cells #[.func (.func f) #[] lb] 107)=w1 at HB HG HK⊢;generalize w.heap.size=G at HG HM⊢;go_wp2_with(go_at_call 129;refine(UT.out _ HB.out _ HM.out HG.out).mono ?_;rintro r w2⟨rfl,e2⟩)
 go_ret;exact⟨rfl,HK.out.trans e2⟩
open Go.ChangeMaps (setBlock)
section
variable{α:Type}[DecidableEq α]{P:Program}{T K E:TypeId}{enc:α→Value}{w:World}{m:Nat}
def dK(l:List α):List (α×Nat):=l.map fun x=>(x,1)
theorem yd{l:List α}{a:α}(h:a∉l):mG (dK l) a=none:=by
 unfold mG dK;rw[List.findIdx?_eq_none_iff];intro x hx;rw[decide_eq_false_iff_not];rintro rfl;obtain⟨y,hy,rfl⟩:=List.mem_map.1 hx;exact h hy
theorem Vj{l:List α}{a:α}(h:a∉l)(n:Nat):mG (dK l++[(a,n)]) a=some l.length:=by
 have hn:=yd h;unfold mG at hn⊢;rw[List.findIdx?_append,hn];simp[dK]
theorem Vk{l:List α}{a:α}(h:a∈l):∃j,∃hj:j<l.length,l[j]'hj=a∧mG (dK l) a=some j:=by
 cases hi:mG (dK l) a with
 |none=>exact absurd rfl (QE hi (a,1) (List.mem_map.2 ⟨a,h,rfl⟩))
 |some j=>
  obtain⟨hj,e⟩:=tV hi;have hl:j<l.length:=by simpa[dK]using hj
  exact⟨j,hl,by simpa[dK]using e,rfl⟩
theorem Kx{L:List (α×Nat)}{a:α}{j n:Nat}(hi:mG L a=some j)(hx:(L.map (·.2))[j]? =some n):zD L a=n:=by
 unfold zD;rw[hi];simp only[aE,hx,Option.getD_some]
theorem Vl{l:List α}{a:α}(h:a∉l):zD (dK l) a=0:=by unfold zD;rw[yd h]
theorem Vm{l:List α}{a:α}(h:a∉l)(n:Nat):zD (dK l++[(a,n)]) a=n:=Kx (Vj h n) (by simp[dK])
theorem Dh{l:List α}{a:α}(h:a∈l):zD (dK l) a=1:=by
 obtain⟨j,hj,_,hi⟩:=Vk h;exact Kx hi (by simp[dK,hj])
omit [DecidableEq α]in
theorem Vn{l:List α}{a:α}(n:Nat):(dK l++[(a,n)]).set l.length (((dK l++[(a,n)])[l.length]'(by simp[dK])).1,1)=dK (l++[a]):=by
 have hl:(dK l).length=l.length:=by simp[dK]
 rw[List.set_append_right _ _ aQ];simp[dK]
omit [DecidableEq α]in
theorem KM.aL{L:List (α×Nat)}(h:KM enc w m L)(L':List (α×Nat)):KM enc (setBlock w m (.map (gZ enc L').toArray L'.length)) m L':=by
 have hl:=h.lt;unfold KM;simp[setBlock,hl]
theorem kX(w:World)(m:Nat)(o:Obj):Keeps (fun x=>x=m) w (setBlock w m o):=(Keeps.refl (fun x=>x=m) w).setBlock (Or.inl rfl) o
theorem AG(ok:sy P K enc)(hT:P.underlying T=some (.map K E))(hz:∀w,(zeroValue E).run P w=.ok (.int .i64 0) w){l:List α}(h:KM enc w m (dK l)){a:α}(ha:a∉l):∃w1 w2:World,(Instr.lookup T (.map (some m)) (enc a) false).run P w=.ok (.int .i64 0) w∧(Instr.mapEntry T (.map (some m)) (enc a)).run P w=.ok (.tuple #[.int .i64 0,.int .i64 (l.length:Int)]) w1∧(Instr.lookup T (.map (some m)) (enc a) false).run P w1=.ok (.int .i64 0) w1∧Keeps (fun x=>x=m) w w1∧(Instr.entryStore T (.map (some m)) (.int .i64 (l.length:Int)) (.int .i64 1)).run P w1=.ok () w2∧Keeps (fun x=>x=m) w w2∧KM enc w2 m (dK (l++[a]))∧(Instr.lookup T (.map (some m)) (enc a) false).run P w2=.ok (.int .i64 1) w2:=by
 have hl:(dK l).length=l.length:=by simp[dK]
 have l0:=iu ok hT (hz w) h a;rw[Vl ha]at l0;have en:=zE ok hT (hz w) h (yd ha);rw[hl]at en;have k1:=h.aL (dK l++[(a,0)]);have l1:=iu ok hT (hz _) k1 a;rw[Vm ha]at l1;have st:=uY (P:=P) (T:=T) k1 (j:=l.length) (by simp[dK]) 1;rw[Vn]at st;have k2:=k1.aL (dK (l++[a]));have l2:=iu ok hT (hz _) k2 a;rw[Dh (by simp)]at l2;exact⟨_,_,l0,en,l1,kX _ _ _,st,(kX _ _ _).trans (kX _ _ _),k2,l2⟩
theorem AH(ok:sy P K enc)(hT:P.underlying T=some (.map K E))(hz:∀w,(zeroValue E).run P w=.ok (.int .i64 0) w){l:List α}(h:KM enc w m (dK l)){a:α}(ha:a∈l):∃(j:Nat)(w1 w2:World),(Instr.lookup T (.map (some m)) (enc a) false).run P w=.ok (.int .i64 1) w∧(Instr.mapEntry T (.map (some m)) (enc a)).run P w=.ok (.tuple #[.int .i64 1,.int .i64 j]) w1∧(Instr.lookup T (.map (some m)) (enc a) false).run P w1=.ok (.int .i64 1) w1∧Keeps (fun x=>x=m) w w1∧(Instr.entryStore T (.map (some m)) (.int .i64 j) (.int .i64 2)).run P w1=.ok () w2∧Keeps (fun x=>x=m) w w2∧(Instr.lookup T (.map (some m)) (enc a) false).run P w2=.ok (.int .i64 2) w2:=by
 obtain⟨j,hj,hja,hi⟩:=Vk ha;have hl:(dK l).length=l.length:=by simp[dK]
 have l0:=iu ok hT (hz w) h a;rw[Dh ha]at l0;have en:=zF ok hT h hi;rw[Dh ha]at en;have k1:=h.aL (dK l);have l1:=iu ok hT (hz _) k1 a;rw[Dh ha]at l1;have st:=uY (P:=P) (T:=T) k1 (j:=j) (by rw[hl];exact hj) 2;have k2:=k1.aL ((dK l).set j ((((dK l)[j]'(by rw[hl];exact hj))).1,2));have l2:=iu ok hT (hz _) k2 a;rw[Kx (n:=2) (j:=j) ?_ (by rw[List.map_set,List.getElem?_set_self (by rw[ay,hl];exact hj)])]at l2
 ·exact⟨j,_,_,l0,en,l1,kX _ _ _,st,(kX _ _ _).trans (kX _ _ _),l2⟩
 ·unfold mG at hi⊢;rw[List.findIdx?_eq_some_iff_getElem]at hi⊢;obtain⟨h1,h2,h3⟩:=hi;refine⟨by rw[List.length_set];exact h1,?_,fun i hij=>?_⟩
  ·rw[List.getElem_set_self];exact h2
  ·rw[List.getElem_set_ne aQ];exact h3 i hij
end
theorem KM.below{α:Type}{enc:α→Value}{w w':World}{m:Nat}{L:List (α×Nat)}(h:KM enc w m L)(hb:aW w w'):KM enc w' m L:=(hb.block m h.lt).trans h
theorem KM.drew{α:Type}{enc:α→Value}{w:World}{m:Nat}{L:List (α×Nat)}(h:KM enc w m L):KM enc w.drew m L:=h
theorem KM.ne{α:Type}{enc:α→Value}{w:World}{m g:Nat}{L:List (α×Nat)}{t:TypeId}{cs:Array Value}(h:KM enc w m L)(hg:aG w g t cs):g≠m:=by
 rintro rfl;have:=h.symm.trans hg;cases this
theorem ye{α:Type}[DecidableEq α]{l:List α}{k:Nat}{x:α}(hx:l[k]? =some x)(h:(l.take k).Nodup):(l.take (k+1)).Nodup↔x∉l.take k:=by
 rw[ah1,hx,Option.toList_some,List.nodup_append];constructor
 ·rintro⟨_,_,h3⟩hm;exact h3 _ hm _ (List.mem_singleton.2 rfl) rfl
 ·intro hn;refine⟨h,by simp,fun a ha b hb=>?_⟩;rw[List.mem_singleton]at hb;subst hb;rintro rfl;exact hn ha
theorem yf{α:Type}{l:List α}(h:l.Nodup)(k:Nat):(l.take k).Nodup:=(List.take_sublist k l).nodup h
theorem Di{w:World}(env:Env w){X:bU}(hX:fC w X)(fit:mW X.p)(sz:gm X.p):Calls ah 120 #[.agg X.vals.toArray] w (Got (.bool (mQ X.p)) w):=by
 have hlab:=fun u=>pZ X.p.user (by have:=sz.user;omega) u
 have hma:=fun u(hu:aW w u)(a:Ad)(ok:a.Ok)=>nS (env.below hu) a ok
 have hts:=fun u(hu:aW w u)=>Dc (hX.tags.below hu) (by have:=sz.tl;omega) cO 153 #[] (enters_of Tryz.func153 bo rfl) fun W hW x hx=>pZ x (by have:=sz.tags x hx;omega) W
 have htr:=fun u(hu:aW w u)=>Nq (hX.tags.below hu) (by have:=sz.tl;omega) sg 103 #[] (enters_of Tryz.func103 bo rfl) fun W hW x y=>yc x y W
 have has:=fun u(hu:aW w u)=>Vd (hX.aR.below hu) (by have:=sz.al;omega) Ad.may 127 #[] (enters_of Tryz.func127 bo rfl) fun W hW x hx=>nS (env.below (after hu hW)) x (fit.aR x hx)
 have har:=fun u(hu:aW w u)=>Ve (hX.aR.below hu) (by have:=sz.al;omega) xj 156 #[] (enters_of Tryz.func156 bo rfl) fun W hW x y=>S4 x y W
 have ae5:∀e∈X.p.ends,e.1.Ok:=fun e he=>(fit.ends e he).1
 have hEl:=sz.el;have hE:=hX.ends;obtain⟨R,hR⟩:=bq (mQ X.p);rw[←hR];unfold mQ at hR;obtain⟨A1,c1,e1⟩:=hX.tags.shape;obtain⟨A2,c2,e2⟩:=hX.aR.shape;obtain⟨A3,c3,e3⟩:=hX.ends.shape;obtain⟨⟨key,bw,user,tags,aR,ex,bm,ends⟩,tv,av,ev⟩:=X;simp only at*;subst e1 e2 e3;unfold bU.vals;generalize cO user=LU at hlab hR;generalize tags.all cO=LT at hts hR;generalize cV sg tags=RT at htr hR;generalize aR.all Ad.may=AM at has hR;generalize cV xj aR=RA at har hR;generalize tags.length=NT at*;generalize aR.length=NA at*;obtain⟨NE,hNE⟩:=bq ends.length;rw[←hNE]at hR hE hEl⊢;obtain⟨PN,Sj,HTs,HTr,HAs,HAr,agr,HE,HNE,HR⟩:=adT hlab hma hts htr has har ae5 hE hNE hR;clear hlab hma hts htr has har ae5 hE hNE hR env hX fit sz;obtain⟨HB,HP⟩:=aN (boxed w (.cells #[.string key,.string bw,.string user,.slice A1 NT c1,.slice A2 NA c2,.int .u64 ex,.int .u8 bm,.slice A3 NE c3] 50)) (aG.new w 50 #[.string key,.string bw,.string user,.slice A1 NT c1,.slice A2 NA c2,.int .u64 ex,.int .u8 bm,.slice A3 NE c3]);go_enter Tryz.func120,Tryz.ntmps120;go_upto_region 1 with fail
 generalize w.alloc (.cells #[.string key,.string bw,.string user,.slice A1 NT c1,.slice A2 NA c2,.int .u64 ex,.int .u8 bm,.slice A3 NE c3] 50)=w1 at HB HP⊢;generalize hP:w.heap.size=P at HP⊢;obtain⟨p0,p1,p2,p3,p4,-,-,p7⟩:=dA HP;by_cases k1:key.size=32;rotate_left
 ·have q1:((key.size:Int) !=32)=true:=by simp;omega
  have dt:ag (R=false):=ae (by rw[HR.out,decide_eq_false k1];simp);clear k1;go_wp2_with fail
  go_ret;exact⟨by rw[dt.out];rfl,HB.out⟩
 have q1:((key.size:Int) !=32)=false:=by simp;omega
 by_cases k2:bw.size=32;rotate_left
 ·have q2:((bw.size:Int) !=32)=true:=by simp;omega
  have dt:ag (R=false):=ae (by rw[HR.out,decide_eq_false k2];simp);clear k1 k2;go_wp2_with fail
  go_ret;exact⟨by rw[dt.out];rfl,HB.out⟩
 have q2:((bw.size:Int) !=32)=false:=by simp;omega
 have HR1:=ae HR.out;rw[decide_eq_true k1,decide_eq_true k2,bV,bV]at HR1;clear HR k1 k2;cases LU with
 |false=>
  have dt:ag (R=false):=ae (by rw[HR1.out];simp);go_wp2_with(go_at_call 153;refine(PN.out _).mono ?_;rintro r w2⟨rfl,d2⟩)
  go_ret;exact⟨by rw[dt.out];rfl,after HB.out d2⟩
 |true=>
  have HR2:=ae (HR1.out.trans (by rw[bV]));clear HR1;go_upto_region 3 with(go_at_call 153;refine(PN.out _).mono ?_;rintro r w2⟨rfl,d2⟩)
  have HB2:=aZ HB d2;have HP2:=ae (bJ HP d2);clear p0 p1 p2 p3 p4 p7 d2 HB HP q1 q2;obtain⟨-,-,-,p3,p4,-,-,p7⟩:=dA HP2;by_cases k1:NT≤8;rotate_left
  ·have q1:(8:Int)<(NT:Int):=by omega
   have q1':8<NT:=by omega
   have dt:ag (R=false):=ae (by rw[HR2.out,decide_eq_false k1];simp);clear k1;go_wp2_with fail
   go_ret;exact⟨by rw[dt.out];rfl,HB2.out⟩
  have q1:¬(8:Int)<(NT:Int):=by omega
  have q1':¬8<NT:=by omega
  by_cases k2:1≤NA;rotate_left
  ·have q2:(NA:Int)<1:=by omega
   have dt:ag (R=false):=ae (by rw[HR2.out,decide_eq_false k2];simp);obtain rfl:NA=0:=by omega
   clear k1 k2;go_wp2_with fail
   go_ret;exact⟨by rw[dt.out];rfl,HB2.out⟩
  have q2:¬(NA:Int)<1:=by omega
  by_cases k3:NA≤4;rotate_left
  ·have q3:(4:Int)<(NA:Int):=by omega
   have q3':4<NA:=by omega
   have dt:ag (R=false):=ae (by rw[HR2.out,decide_eq_false k3];simp);clear k1 k2 k3;go_wp2_with fail
   go_ret;exact⟨by rw[dt.out];rfl,HB2.out⟩
  have q3:¬(4:Int)<(NA:Int):=by omega
  have q3':¬4<NA:=by omega
  by_cases k4:NE≤8;rotate_left
  ·have q4:(8:Int)<(NE:Int):=by omega
   have q4':8<NE:=by omega
   have dt:ag (R=false):=ae (by rw[HR2.out,decide_eq_false k4];simp);clear k1 k2 k3 k4;go_wp2_with fail
   go_ret;exact⟨by rw[dt.out];rfl,HB2.out⟩
  have q4:¬(8:Int)<(NE:Int):=by omega
  have q4':¬8<NE:=by omega
  have HR3:=ae HR2.out;rw[decide_eq_true k1,decide_eq_true k2,decide_eq_true k3,decide_eq_true k4,bV,bV,bV,bV]at HR3;clear HR2 k1 k2 k3 k4;have hmm:= @run_makeMap ah;go_upto_region 6 with fail
  clear hmm;obtain⟨m,hm⟩:=bq w2.heap.size;have hM:KM u9 (w2.alloc (.map #[] 0)) m (dK []):=by rw[hm];exact heap_alloc_new w2 _
  have hmw:w.heap.size≤m:=by rw[hm];exact HB2.out.size
  obtain⟨Hmw,HB3,fU⟩:=bu hmw (after HB2.out (boxed w2 (.map #[] 0))) (bJ HP2 (boxed w2 (.map #[] 0)));obtain⟨HPm,HM⟩:=aN (hM.ne fU.out) hM;rw[←hm];clear hM hmw p3 p4 p7 HB2 HP2 q1 q1' q2 q3 q3' q4 q4';generalize w2.alloc (.map #[] 0)=w3 at HB3 fU HM⊢;clear hm;obtain⟨-,-,-,p3,p4,-,-,p7⟩:=dA fU;go_upto_region 7 with fail
  go_loopw [48] (fun v48 wr=>∃k:Nat,k≤NE∧v48=.int .i64 k∧ag (KM u9 wr m (dK (ends.take k)))∧ag (Keeps (fun x=>x=m) w3 wr)∧ag ((ends.take k).Nodup∧∀e∈ends.take k,e.1.may=true)) (fun v48 _=>NE-(intOf v48).toNat)
  case atStart=>exact⟨0,bh _,rfl,HM,ae (Keeps.refl _ _),ae ⟨by simp,fun e he=>by simp at he⟩⟩
  case round=>
   obtain⟨k,hk,rfl,hkm,hkk,hno⟩:=hrel;have hbw:aW w wr:=HB3.out.trans (hkk.out.below (fun x hx=>by subst hx;exact Hmw.out) HB3.out.size);have AK:=ae hbw;clear hbw;by_cases hlt:k<NE
   ·have hkl:k<ends.length:=by rw[←HNE.out];exact hlt
    have hx:ends[k]? =some ends[k]:=af hkl;have hxo:=agr.out _ (a8 hkl);have hxm:ends[k]∈ends:=a8 hkl;obtain⟨_,q,o,hA,hcell⟩:=HE.out.iQ k hlt;rw[show lX ends=ends.flatMap cD from rfl]at hcell;simp only at hcell;rw[dS cD 4 fB ends k _ hx]at hcell;subst hA;generalize ends[k]=x at hx hxo hcell hxm;have hma:=fun u(hu:aW w u)=>Sj.out u hu x.1 hxo
    have d0:=ak (hcell 0 _ rfl) AK.out;have d1:=ak (hcell 1 _ rfl) AK.out;have d2:=ak (hcell 2 _ rfl) AK.out;have d3:=ak (hcell 3 _ rfl) AK.out;rw[b8]at d0;have hen:u9 x=.agg #[.bool x.1.v6,.int .u64 (x.1.hi:Int),.int .u64 (x.1.lo:Int),.int .u16 (x.2:Int)]:=rfl;obtain⟨Hx,Hxm⟩:=aN hx hxm;obtain⟨xm,Vo⟩:=bq x.1.may;rw[←Vo]at hma;obtain⟨Vp,Hma⟩:=aN Vo hma;clear hcell hx hxo hxm hma Vo hkl;go_upto_region 9 with fail
    obtain⟨⟨xv,xh,xl⟩,xp⟩:=x;simp only at hen Hma Vp;have hma:=Hma.out;unfold Ad.cells at hma;simp only at hma;have Hma:=ae hma;clear hma;have hb4:=boxed wr (.cells #[.bool xv,.int .u64 xh,.int .u64 xl,.int .u16 xp] 55);obtain⟨Ky,Es,AN⟩:=bu (aG.new wr 55 #[.bool xv,.int .u64 xh,.int .u64 xl,.int .u16 xp]) (hkm.out.below hb4) (hkk.out.than hb4);have HB4:=aZ AK hb4;have oO:=ae (Es.out.ne Ky.out);simp only;clear d0 d1 d2 d3 hb4 hkm hkk AK;generalize wr.alloc (.cells #[.bool xv,.int .u64 xh,.int .u64 xl,.int .u16 xp] 55)=w4 at Ky Es AN HB4⊢;generalize wr.heap.size=X at Ky oO⊢;obtain⟨x0,x1,x2,x3⟩:=dV Ky;by_cases hin:((⟨xv,xh,xl⟩,xp):En)∈ends.take k
    ·have dt:ag (R=false):=ae (by
      have hnd:¬ends.Nodup:=fun h=>((ye Hx.out (yf h k)).1 (yf h (k+1))) hin
      rw[HR3.out,decide_eq_false hnd];simp)
     obtain⟨j,w5,w6,l0,en,l1,hk5,st,hk6,l2⟩:=AH (P:=ah) abw Tryz.underlying197 adS Es.out.drew hin;rw[hen]at l0 en l1 l2;have kO:=ae ((Below.qQ HB4.out).trans (hk6.below (fun x hx=>by subst hx;exact Hmw.out) HB4.out.size));have y0:=bN (w:=w4.drew) x0 hk5 oO.out;have y1:=bN (w:=w4.drew) x1 hk5 oO.out;have y2:=bN (w:=w4.drew) x2 hk5 oO.out;have y3:=bN (w:=w4.drew) x3 hk5 oO.out;have z0:=bN (w:=w4.drew) x0 hk6 oO.out;have z1:=bN (w:=w4.drew) x1 hk6 oO.out;have z2:=bN (w:=w4.drew) x2 hk6 oO.out;have z3:=bN (w:=w4.drew) x3 hk6 oO.out;clear hin hk5 hk6;refine dW 6 (fun w'=>(Instr.lookup 197 (.map (some m)) (.agg #[.bool xv,.int .u64 xh,.int .u64 xl,.int .u16 xp]) false).run ah w'=.ok (.int .i64 1) w'∧w'.cell? ⟨X,0,none⟩=some (.bool xv)∧w'.cell? ⟨X,1,none⟩=some (.int .u64 xh)∧w'.cell? ⟨X,2,none⟩=some (.int .u64 xl)∧w'.cell? ⟨X,3,none⟩=some (.int .u16 xp)) bo (⟨l0,x0,x1,x2,x3⟩) (fun hHeld=>?_);refine dR 0 ?_
     refine dR 1 ?_
     refine dR 2 ?_
     refine dR 3 ?_
     refine nA 4 fun K hK=>?_;go_simp;refine hK.out _ _ (fun _=>⟨l1,y0,y1,y2,y3⟩) (fun hHeld=>?_);have hHeld:=hHeld aH;clear hK K;try simp only[cN]
     refine dR 5 ?_
     refine nA 6 fun K hK=>?_;go_simp;rw[show IntKind.i64.wrap 2=2 by decide,st,j9];refine hK.out _ _ (fun h=>absurd rfl h) (fun _=>?_);clear hK K hHeld;try simp only[cN]
     refine OC ?_;clear x0 x1 x2 x3 y0 y1 y2 y3 l0 l1 en st;go_wp2_with fail
     go_ret;exact⟨by rw[dt.out];rfl,kO.out⟩
    ·obtain⟨w5,w6,l0,en,l1,hk5,st,hk6,km6,l2⟩:=AG (P:=ah) abw Tryz.underlying197 adS Es.out.drew hin;rw[hen]at l0 en l1 l2;have htk:ends.take (k+1)=ends.take k++[((⟨xv,xh,xl⟩,xp):En)]:=by rw[ah1,Hx.out];rfl
     rw[←htk]at km6;have kO:=ae ((Below.qQ HB4.out).trans (hk6.below (fun x hx=>by subst hx;exact Hmw.out) HB4.out.size));obtain⟨tI,zd,Htk,Hin⟩:=cY (AN.out.drew.trans hk6) km6 htk hin;have y0:=bN (w:=w4.drew) x0 hk5 oO.out;have y1:=bN (w:=w4.drew) x1 hk5 oO.out;have y2:=bN (w:=w4.drew) x2 hk5 oO.out;have y3:=bN (w:=w4.drew) x3 hk5 oO.out;have z0:=bN (w:=w4.drew) x0 hk6 oO.out;have z1:=bN (w:=w4.drew) x1 hk6 oO.out;have z2:=bN (w:=w4.drew) x2 hk6 oO.out;have z3:=bN (w:=w4.drew) x3 hk6 oO.out;generalize(ends.take k).length=J at en st;clear hin hk5 hk6 km6 htk;refine dW 6 (fun w'=>(Instr.lookup 197 (.map (some m)) (.agg #[.bool xv,.int .u64 xh,.int .u64 xl,.int .u16 xp]) false).run ah w'=.ok (.int .i64 0) w'∧w'.cell? ⟨X,0,none⟩=some (.bool xv)∧w'.cell? ⟨X,1,none⟩=some (.int .u64 xh)∧w'.cell? ⟨X,2,none⟩=some (.int .u64 xl)∧w'.cell? ⟨X,3,none⟩=some (.int .u16 xp)) bo (⟨l0,x0,x1,x2,x3⟩) (fun hHeld=>?_);refine dR 0 ?_
     refine dR 1 ?_
     refine dR 2 ?_
     refine dR 3 ?_
     refine nA 4 fun K hK=>?_;go_simp;refine hK.out _ _ (fun _=>⟨l1,y0,y1,y2,y3⟩) (fun hHeld=>?_);have hHeld:=hHeld aH;clear hK K;try simp only[cN]
     refine dR 5 ?_
     refine nA 6 fun K hK=>?_;go_simp;rw[show IntKind.i64.wrap 1=1 by decide,st,j9];refine hK.out _ _ (fun h=>absurd rfl h) (fun _=>?_);clear hK K hHeld;try simp only[cN]
     refine OC ?_;clear x0 x1 x2 x3 y0 y1 y2 y3 l0 l1 en st;cases xm with
     |false=>
      have dt:ag (R=false):=ae (by
       have hnm:(ends.all fun e=>e.1.may)=false:=by
        rw[List.all_eq_false];exact⟨_,Hxm.out,by rw[←Vp.out];decide⟩
       rw[HR3.out,hnm];simp)
      go_wp2_with(go_at_call 127;refine(Hma.out _ kO.out).mono ?_;rintro r w7⟨rfl,d7⟩)
      go_ret;exact⟨by rw[dt.out];rfl,after kO.out d7⟩
     |true=>
      go_wp2_with(go_at_call 127;refine(Hma.out _ kO.out).mono ?_;rintro r w7⟨rfl,d7⟩)
      go_roundw
      case rel=>
       refine⟨k+1,by omega,by go_num,ae (zd.out.below d7),ae (tI.out.than d7),ae ⟨(ye Hx.out hno.out.1).2 Hin.out,fun e he=>?_⟩⟩;rw[Htk.out]at he;rcases List.mem_append.1 he with he|he
       ·exact hno.out.2 e he
       ·rw[List.mem_singleton]at he;subst he;exact Vp.out.symm
      case measure=>simp[intOf];omega
   ·obtain rfl:k=NE:=by omega
    have hall:ends.take k=ends:=aJ (by rw[←HNE.out];exact aA _);have HR4:ag (R=(LT&&RT&&AM&&RA)):=ae (by
     have h1:=hno.out.1;have h2:=hno.out.2;rw[hall]at h1 h2;have h3:(ends.all fun e=>e.1.may)=true:=List.all_eq_true.2 h2;rw[HR3.out,h3,decide_eq_true h1];simp)
    have z3:=bN p3 hkk.out HPm.out;have z4:=bN p4 hkk.out HPm.out;clear hall p3 p4 p7 hno hkm hkk;cases LT with
    |false=>
     have dt:ag (R=false):=ae (by rw[HR4.out];simp);go_wp2_with(go_at_call 58;refine(HTs.out _ AK.out).mono ?_;rintro r w7⟨rfl,d7⟩)
     go_ret;exact⟨by rw[dt.out];rfl,after AK.out d7⟩
    |true=>
     cases RT with
     |false=>
      have dt:ag (R=false):=ae (by rw[HR4.out];simp);go_wp2_with(first
       |(go_at_call 58;refine(HTs.out _ AK.out).mono ?_;rintro r w7⟨rfl,d7⟩;have y3:=ak z3 d7;have y4:=ak z4 d7)
       |(go_at_call 102;refine(HTr.out _ (after AK.out d7)).mono ?_;rintro r w8⟨rfl,d8⟩))
      go_ret;exact⟨by rw[dt.out];rfl,after (after AK.out d7) d8⟩
     |true=>
      cases AM with
      |false=>
       have dt:ag (R=false):=ae (by rw[HR4.out];simp);go_wp2_with(first
        |(go_at_call 58;refine(HTs.out _ AK.out).mono ?_;rintro r w7⟨rfl,d7⟩;have y3:=ak z3 d7;have y4:=ak z4 d7)
        |(go_at_call 102;refine(HTr.out _ (after AK.out d7)).mono ?_;rintro r w8⟨rfl,d8⟩;have v4:=ak y4 d8)
        |(go_at_call 154;refine(HAs.out _ (after (after AK.out d7) d8)).mono ?_;rintro r w9⟨rfl,d9⟩))
       go_ret;exact⟨by rw[dt.out];rfl,after (after (after AK.out d7) d8) d9⟩
      |true=>
       have HRr:ag (R=RA):=ae (by rw[HR4.out];simp);go_wp2_with(first
        |(go_at_call 58;refine(HTs.out _ AK.out).mono ?_;rintro r w7⟨rfl,d7⟩;have y3:=ak z3 d7;have y4:=ak z4 d7)
        |(go_at_call 102;refine(HTr.out _ (after AK.out d7)).mono ?_;rintro r w8⟨rfl,d8⟩;have v4:=ak y4 d8)
        |(go_at_call 154;refine(HAs.out _ (after (after AK.out d7) d8)).mono ?_;rintro r w9⟨rfl,d9⟩;have u4:=ak v4 d9)
        |(go_at_call 155;refine(HAr.out _ (after (after (after AK.out d7) d8) d9)).mono ?_;rintro r w10⟨rfl,d10⟩))
       go_ret;exact⟨by rw[HRr.out];rfl,after (after (after (after AK.out d7) d8) d9) d10⟩
theorem rising_map{α β:Type}(f:α→β)(lt:β→β→Bool):∀l:List α,cV lt (l.map f)=cV (fun x y=>lt (f x) (f y)) l
 |[]=>rfl
 |[_]=>rfl
 |x::y::r=>by
  have ih:=rising_map f lt (y::r);rw[i6]at ih;rw[i6,i6,cV,cV,ih]
theorem qS{w:World}(env:Env w){v:Value}{l:List Pr}(h:dJ w v l)(hl:l.length≤4000000)(fit:∀p∈l,mW p)(sz:∀p∈l,gm p):Calls ah 72 #[v] w (Got (.bool (jt l)) w):=by
 have ha:∀u,aW w u→Calls ah 75 #[v,.func (.func 120) #[] #[]] u (Got (.bool (l.all mQ)) u):=fun u hu=>by
  obtain⟨xs,rfl,hr,hx⟩:=h;rw[ay]at hl;rw[List.all_map];exact Vh (hr.below hu) hl (mQ∘fun X=>X.p) _ _ (enters_of Tryz.func120 bo rfl) fun W hW X hX=>Di (env.below (after hu hW)) ((hx X hX).below (after hu hW)) (fit _ (eC hX)) (sz _ (eC hX))
 have hs:∀u,aW w u→Calls ah 121 #[v,.func (.func 122) #[] #[]] u (Got (.bool (cV eY l)) u):=fun u hu=>by
  obtain⟨xs,rfl,hr,hx⟩:=h;rw[ay]at hl;rw[rising_map];exact Vi (hr.below hu) hl (fun X Y=>eY X.p Y.p) _ _ (enters_of Tryz.func122 bo rfl) fun W hW X Y=>Gn X.p.key Y.p.key _ _ _ _ _ _ _ _ _ _ _ _ _ _ W
 obtain⟨R,hR⟩:=bq (jt l);rw[←hR];unfold jt at hR;obtain⟨A,cap,rfl⟩:=h.shape;generalize l.all mQ=AM at ha hR;generalize cV eY l=RA at hs hR;generalize l.length=N at*;obtain⟨HA,HS,HR⟩:=bu ha hs hR;clear ha hs hR h fit sz env;go_enter Tryz.func72,Tryz.ntmps72;by_cases k1:N≤64;rotate_left
 ·have q1:¬(N:Int)≤64:=by omega
  have dt:ag (R=false):=ae (by rw[HR.out,decide_eq_false k1];simp);go_wp2_with fail
  go_ret;exact⟨by rw[dt.out];rfl,aM _ _⟩
 have q1:(N:Int)≤64:=by omega
 have HR1:=ae HR.out;rw[decide_eq_true k1,bV]at HR1;clear HR;cases AM with
 |false=>
  go_wp2_with(go_at_call 75;refine(HA.out _ (aM _ _)).mono ?_;rintro r w2⟨rfl,d2⟩)
  go_ret;exact⟨by rw[HR1.out];rfl,d2⟩
 |true=>
  go_wp2_with(first
   |(go_at_call 75;refine(HA.out _ (aM _ _)).mono ?_;rintro r w2⟨rfl,d2⟩)
   |(go_at_call 121;refine(HS.out _ d2).mono ?_;rintro r w3⟨rfl,d3⟩))
  go_ret;exact⟨by rw[HR1.out];rfl,after d2 d3⟩
theorem pH{w:World}(env:Env w){v:Value}{l:List Ry}(h:fy w v l)(hl:l.length≤4000000)(fit:∀r∈l,uX r):Calls ah 73 #[v] w (Got (.bool (ju l)) w):=by
 have ha:∀u,aW w u→Calls ah 125 #[v,.func (.func 126) #[] #[]] u (Got (.bool (l.all xW)) u):=fun u hu=>
  Vf (aY.below h hu) hl xW _ _ (enters_of Tryz.func126 bo rfl) fun W hW x hx=>Gp (env.below (after hu hW)) _ _ x.key x.fin.1 (fit x hx).2.1
 have hs:∀u,aW w u→Calls ah 123 #[v,.func (.func 124) #[] #[]] u (Got (.bool (cV (fun a b:Ry=>decide (a.id<b.id)) l)) u):=fun u hu=>
  Vg (aY.below h hu) hl _ _ _ (enters_of Tryz.func124 bo rfl) fun W hW x y=>Ku x.id y.id _ _ _ _ _ _ _ _ _ _ W
 obtain⟨R,hR⟩:=bq (ju l);rw[←hR];unfold ju at hR;obtain⟨A,cap,rfl⟩:=aY.shape h;generalize l.all xW=AM at ha hR;generalize cV (fun a b:Ry=>decide (a.id<b.id)) l=RA at hs hR;generalize l.length=N at*;obtain⟨HA,HS,HR⟩:=bu ha hs hR;clear ha hs hR h fit env;go_enter Tryz.func73,Tryz.ntmps73;by_cases k1:N≤8;rotate_left
 ·have q1:¬(N:Int)≤8:=by omega
  have dt:ag (R=false):=ae (by rw[HR.out,decide_eq_false k1];simp);go_wp2_with fail
  go_ret;exact⟨by rw[dt.out];rfl,aM _ _⟩
 have q1:(N:Int)≤8:=by omega
 have HR1:=ae HR.out;rw[decide_eq_true k1,bV]at HR1;clear HR;cases RA with
 |false=>
  go_wp2_with(go_at_call 123;refine(HS.out _ (aM _ _)).mono ?_;rintro r w2⟨rfl,d2⟩)
  go_ret;exact⟨by rw[HR1.out];rfl,d2⟩
 |true=>
  go_wp2_with(first
   |(go_at_call 123;refine(HS.out _ (aM _ _)).mono ?_;rintro r w2⟨rfl,d2⟩)
   |(go_at_call 125;refine(HA.out _ d2).mono ?_;rintro r w3⟨rfl,d3⟩))
  go_ret;exact⟨by rw[HR1.out];rfl,after d2 d3⟩
theorem Vq{w:World}{m:Nat}{es:Array MapEntry}{n o:Nat}(h:w.heap[m]? =some (.map es n)):w.cell? ⟨m,o,none⟩=none:=by
 unfold World.cell?;simp[h]
theorem KM.qj{α:Type}{enc:α→Value}{w:World}{m g o:Nat}{L:List (α×Nat)}{v:Value}(h:KM enc w m L)(hc:w.cell? ⟨g,o,none⟩=some v):g≠m:=by
 rintro rfl;rw[Vq h]at hc;cases hc
theorem Gq{w:World}(x:Ry)(g:Nat)(n:Nat)(hg:w.cell? ⟨g,6,none⟩=some (.int .u8 n)):Calls ah 78 #[.agg (bF x).toArray,.pointer (some ⟨g,0,none⟩)] w (Got (.bool (decide (x.id=n))) w):=by
 obtain⟨id,key,⟨⟨v,h,l⟩,p⟩⟩:=x;unfold bF;simp only;rw[show decide (id=n)=((id:Int)==(n:Int)) by rw[Bool.eq_iff_iff,decide_eq_true_eq,beq_iff_eq];omega];have hb:=boxed w (.cells #[.int .u8 id,.string key,.bool v,.int .u64 h,.int .u64 l,.int .u16 p] 57);have HS:=ae (aG.new w 57 #[.int .u8 id,.string key,.bool v,.int .u64 h,.int .u64 l,.int .u16 p]);have g0:=ak hg hb;have HB:=ae hb;clear hg hb;go_enter Tryz.func78,Tryz.ntmps78;go_upto_region 1 with fail
 generalize w.alloc (.cells #[.int .u8 id,.string key,.bool v,.int .u64 h,.int .u64 l,.int .u16 p] 57)=w1 at HB HS g0⊢;generalize w.heap.size=G at HS⊢;have s0:=HS.out.cell 0;simp at s0;go_wp2_with fail
 go_ret;exact⟨rfl,HB.out⟩
def lq(rl:List Ry)(p:Pr):Bool:=decide (p.bm=0)||rl.any fun r=>decide (r.id=p.bm)
theorem Vr{w:World}{X:bU}(hX:fC w X)(fit:mW X.p)(sz:gm X.p){m sb mb:Nat}{ver pv pol:Value}{rv:Value}{rl:List Ry}(hr:fy w rv rl)(hrl:rl.length≤4000000)(acc:List Ad)(hnd:acc.Nodup)(hm:KM uZ w m (dK acc))(hs:w.cell? ⟨sb,0,none⟩=some (.map (some m)))(hM:aG w mb 26 #[ver,pv,rv,pol]):Calls ah 76 #[.agg X.vals.toArray,.pointer (some ⟨sb,0,none⟩),.pointer (some ⟨mb,0,none⟩)] w fun r w'=>r=.returned (.bool (decide (acc++X.p.aR).Nodup&&lq rl X.p))∧Keeps (fun x=>x=m) w w'∧((decide (acc++X.p.aR).Nodup&&lq rl X.p)=true→KM uZ w' m (dK (acc++X.p.aR))):=by
 have hco:=fun u(hu:Keeps (fun x=>x=m) w u)g(hg:u.cell? ⟨g,6,none⟩=some (.int .u8 (X.p.bm:Int)))(hrr:aY u rv rl.length 6 (dQ rl))=>
  show Calls ah 77 #[rv,.func (.func 78) #[] #[.pointer (some ⟨g,0,none⟩)]] u (Got (.bool (rl.any fun r=>decide (r.id=X.p.bm))) u)from by
   rw[←Qg];obtain⟨A,cap,rfl⟩:=hrr.shape;refine Ge hrl _ _ hrr.iQ _ _ (enters_of Tryz.func78 bo rfl) fun k hk W hW=>?_
   have hxk:rl[k]? =some rl[k]:=af hk;rw[show dQ rl=rl.flatMap bF from rfl];simp only[hxk];rw[dS bF 6 bH rl k _ hxk];exact Gq _ g _ (ak hg hW)
 have hrk:∀u,Keeps (fun x=>x=m) w u→aY u rv rl.length 6 (dQ rl):=fun u hu=>by
  obtain⟨A,cap,e,hlen,hc⟩:=hr;refine⟨A,cap,e,hlen,fun hp=>?_⟩;obtain⟨g,o,ha,hcc⟩:=hc hp;exact⟨g,o,ha,fun j v hv=>bN (hcc j v hv) hu (hm.qj (hcc j v hv))⟩
 have ae6:=fit.aR;have hAl:=sz.al;have hA:=hX.aR;obtain⟨R,hR⟩:=bq ((decide (acc++X.p.aR).Nodup&&lq rl X.p));rw[←hR];unfold lq at hR;generalize(rl.any fun r=>decide (r.id=X.p.bm))=RO at hco hR;obtain⟨A1,c1,e1⟩:=hX.tags.shape;obtain⟨A2,c2,e2⟩:=hX.aR.shape;obtain⟨A3,c3,e3⟩:=hX.ends.shape;obtain⟨Ar,cr,er⟩:=aY.shape hr;obtain⟨⟨key,bw,user,tags,aR,ex,bm,ends⟩,tv,av,ev⟩:=X;simp only at*;subst e1 e2 e3 er;unfold bU.vals;simp only at*;generalize tags.length=NT at*;generalize ends.length=NE at*;generalize rl.length=NR at*;obtain⟨NA,hNA⟩:=bq aR.length;rw[←hNA]at hA hAl⊢;have hb1:=boxed w (.cells #[.string key,.string bw,.string user,.slice A1 NT c1,.slice A2 NA c2,.int .u64 ex,.int .u8 bm,.slice A3 NE c3] 50);obtain⟨HP,UT,HRk,ahr,HA,X8,HR,HM,HW⟩:=SC (aG.new w 50 #[.string key,.string bw,.string user,.slice A1 NT c1,.slice A2 NA c2,.int .u64 ex,.int .u8 bm,.slice A3 NE c3]) hco hrk ae6 hA hNA hR (hm.below hb1) hm;have s0:=ak hs hb1;obtain⟨It,HK,HND⟩:=bu (hM.below hb1 hM.lt) ((Keeps.refl (fun x=>x=m) w).than hb1) hnd;clear hco hrk ae6 hA hNA hR hm hs hM hb1 hnd hX fit sz hr;go_enter Tryz.func76,Tryz.ntmps76;go_upto_region 1 with fail
 generalize w.alloc (.cells #[.string key,.string bw,.string user,.slice A1 NT c1,.slice A2 NA c2,.int .u64 ex,.int .u8 bm,.slice A3 NE c3] 50)=w1 at HP HM s0 It HK⊢;generalize w.heap.size=P at HP⊢;obtain⟨HPm,ags,Z7⟩:=bu (HM.out.ne HP.out) (HM.out.ne It.out) (HM.out.qj s0);have p4:=HP.out.cell 4;have p6:=HP.out.cell 6;have m2:=It.out.cell 2;simp at p4 p6 m2;go_upto_region 2 with fail
 go_loopw [10] (fun v10 wr=>∃k:Nat,k≤NA∧v10=.int .i64 k∧ag (KM uZ wr m (dK (acc++aR.take k)))∧ag (Keeps (fun x=>x=m) w1 wr)∧ag ((acc++aR.take k).Nodup)) (fun v10 _=>NA-(intOf v10).toNat)
 case atStart=>exact⟨0,bh _,rfl,ae (by rw[ME,dP];exact HM.out),ae (Keeps.refl _ _),ae (by rw[ME,dP];exact HND.out)⟩
 case round=>
  obtain⟨k,hk,rfl,hkm,hkk,hno⟩:=hrel;by_cases hlt:k<NA
  ·have hkl:k<aR.length:=by rw[←X8.out];exact hlt
   have hx:aR[k]? =some aR[k]:=af hkl;obtain⟨_,q,o,hA,hcell⟩:=HA.out.iQ k hlt;rw[show du aR=aR.flatMap (fun a:Ad=>a.cells.toList)from rfl]at hcell;simp only at hcell;rw[dS (fun a:Ad=>a.cells.toList) 3 (fun a:Ad=>rfl) aR k _ hx]at hcell;subst hA;generalize aR[k]=x at hx hcell;have hKw:=HK.out.trans hkk.out;have d0:=bN (hcell 0 _ rfl) hKw (HW.out.qj (hcell 0 _ rfl));have d1:=bN (hcell 1 _ rfl) hKw (HW.out.qj (hcell 1 _ rfl));have d2:=bN (hcell 2 _ rfl) hKw (HW.out.qj (hcell 2 _ rfl));rw[b8]at d0;have hen:uZ x=.agg #[.bool x.v6,.int .u64 (x.hi:Int),.int .u64 (x.lo:Int)]:=rfl;obtain⟨Hx,HKw⟩:=aN hx hKw;clear hcell hx hkl hKw;go_upto_region 4 with fail
   obtain⟨xv,xh,xl⟩:=x;simp only at hen;have hb4:=boxed wr (.cells #[.bool xv,.int .u64 xh,.int .u64 xl] 52);obtain⟨Ky,Es,AN⟩:=bu (aG.new wr 52 #[.bool xv,.int .u64 xh,.int .u64 xl]) (hkm.out.below hb4) (hkk.out.than hb4);have oO:=ae (Es.out.ne Ky.out);simp only;clear d0 d1 d2 hb4 hkm hkk HKw;generalize wr.alloc (.cells #[.bool xv,.int .u64 xh,.int .u64 xl] 52)=w4 at Ky Es AN⊢;generalize wr.heap.size=X at Ky oO⊢;obtain⟨x0,x1,x2⟩:=jf Ky;have xs:=bN s0 AN.out Z7.out;have htk:acc++aR.take (k+1)=(acc++aR.take k)++[(⟨xv,xh,xl⟩:Ad)]:=by rw[ah1,Hx.out,aO];rfl
   by_cases hin:(⟨xv,xh,xl⟩:Ad)∈acc++aR.take k
   ·have dt:ag (R=false):=ae (by
     have hnd:¬(acc++aR).Nodup:=fun h=>by
      have h2:(acc++aR.take (k+1)).Nodup:=((List.Sublist.refl acc).append (List.take_sublist _ _)).nodup h;rw[htk,List.nodup_append]at h2;exact h2.2.2 _ hin _ (List.mem_singleton.2 rfl) rfl
     rw[HR.out,decide_eq_false hnd];simp)
    obtain⟨j,w5,w6,l0,en,l1,hk5,st,hk6,l2⟩:=AH (P:=ah) abv Tryz.underlying116 adS Es.out.drew hin;rw[hen]at l0 en l1 l2;have tI:=ae (AN.out.drew.trans hk6);have y0:=bN (w:=w4.drew) x0 hk5 oO.out;have y1:=bN (w:=w4.drew) x1 hk5 oO.out;have y2:=bN (w:=w4.drew) x2 hk5 oO.out;have ys:=bN (w:=w4.drew) xs hk5 Z7.out;have z0:=bN (w:=w4.drew) x0 hk6 oO.out;have z1:=bN (w:=w4.drew) x1 hk6 oO.out;have z2:=bN (w:=w4.drew) x2 hk6 oO.out;have zs:=bN (w:=w4.drew) xs hk6 Z7.out;clear hin hk5 hk6 htk;refine dW 6 (fun w'=>(Instr.lookup 116 (.map (some m)) (.agg #[.bool xv,.int .u64 xh,.int .u64 xl]) false).run ah w'=.ok (.int .i64 1) w'∧w'.cell? ⟨X,0,none⟩=some (.bool xv)∧w'.cell? ⟨X,1,none⟩=some (.int .u64 xh)∧w'.cell? ⟨X,2,none⟩=some (.int .u64 xl)∧w'.cell? ⟨sb,0,none⟩=some (.map (some m))) bo (⟨l0,x0,x1,x2,xs⟩) (fun hHeld=>?_);refine dR 0 ?_
    refine dR 1 ?_
    refine dR 2 ?_
    refine dR 3 ?_
    refine nA 4 fun K hK=>?_;go_simp;refine hK.out _ _ (fun _=>⟨l1,y0,y1,y2,ys⟩) (fun hHeld=>?_);have hHeld:=hHeld aH;clear hK K;try simp only[cN]
    refine dR 5 ?_
    refine nA 6 fun K hK=>?_;go_simp;rw[show IntKind.i64.wrap 2=2 by decide,st,j9];refine hK.out _ _ (fun h=>absurd rfl h) (fun _=>?_);clear hK K hHeld;try simp only[cN]
    refine OC ?_;clear x0 x1 x2 y0 y1 y2 xs ys l0 l1 en st;go_wp2_with fail
    go_ret;exact⟨by rw[dt.out];rfl,HK.out.trans tI.out,fun h=>by rw[dt.out]at h;cases h⟩
   ·obtain⟨w5,w6,l0,en,l1,hk5,st,hk6,km6,l2⟩:=AG (P:=ah) abv Tryz.underlying116 adS Es.out.drew hin;rw[hen]at l0 en l1 l2;rw[←htk]at km6;have ae7:(acc++aR.take (k+1)).Nodup:=by
     rw[htk,List.nodup_append];refine⟨hno.out,by simp,fun a ha b hb=>?_⟩;rw[List.mem_singleton]at hb;subst hb;rintro rfl;exact hin ha
    obtain⟨agt,tI,zd⟩:=bu ae7 (AN.out.drew.trans hk6) km6;have y0:=bN (w:=w4.drew) x0 hk5 oO.out;have y1:=bN (w:=w4.drew) x1 hk5 oO.out;have y2:=bN (w:=w4.drew) x2 hk5 oO.out;have ys:=bN (w:=w4.drew) xs hk5 Z7.out;have z0:=bN (w:=w4.drew) x0 hk6 oO.out;have z1:=bN (w:=w4.drew) x1 hk6 oO.out;have z2:=bN (w:=w4.drew) x2 hk6 oO.out;have zs:=bN (w:=w4.drew) xs hk6 Z7.out;generalize(acc++aR.take k).length=J at en st;clear hin hk5 hk6 km6 htk ae7;refine dW 6 (fun w'=>(Instr.lookup 116 (.map (some m)) (.agg #[.bool xv,.int .u64 xh,.int .u64 xl]) false).run ah w'=.ok (.int .i64 0) w'∧w'.cell? ⟨X,0,none⟩=some (.bool xv)∧w'.cell? ⟨X,1,none⟩=some (.int .u64 xh)∧w'.cell? ⟨X,2,none⟩=some (.int .u64 xl)∧w'.cell? ⟨sb,0,none⟩=some (.map (some m))) bo (⟨l0,x0,x1,x2,xs⟩) (fun hHeld=>?_);refine dR 0 ?_
    refine dR 1 ?_
    refine dR 2 ?_
    refine dR 3 ?_
    refine nA 4 fun K hK=>?_;go_simp;refine hK.out _ _ (fun _=>⟨l1,y0,y1,y2,ys⟩) (fun hHeld=>?_);have hHeld:=hHeld aH;clear hK K;try simp only[cN]
    refine dR 5 ?_
    refine nA 6 fun K hK=>?_;go_simp;rw[show IntKind.i64.wrap 1=1 by decide,st,j9];refine hK.out _ _ (fun h=>absurd rfl h) (fun _=>?_);clear hK K hHeld;try simp only[cN]
    refine OC ?_;clear x0 x1 x2 y0 y1 y2 xs ys l0 l1 en st;go_wp2_with fail
    go_roundw
    case rel=>exact⟨k+1,by omega,by go_num,zd,tI,agt⟩
    case measure=>simp[intOf];omega
  ·obtain rfl:k=NA:=by omega
   have hall:aR.take k=aR:=aJ (by rw[←X8.out];exact aA _);have acQ:=hkm.out;have BQ:=hno.out;rw[hall]at acQ BQ;have HR2:=ae HR.out;rw[decide_eq_true BQ,bV]at HR2;have HKe:=ae acQ;have z4:=bN p4 hkk.out HPm.out;have z6:=bN p6 hkk.out HPm.out;have zm:=bN m2 hkk.out ags.out;have HKw:=ae (HK.out.trans hkk.out);clear hall acQ BQ p4 p6 m2 hkm hno HR;by_cases k0:bm=0
   ·have q0:((bm:Int)==0)=true:=by simp;omega
    have ZV:ag (R=true):=ae (by rw[HR2.out,decide_eq_true k0,Bool.true_or]);clear k0 HR2;go_wp2_with fail
    go_ret;exact⟨by rw[ZV.out];rfl,HKw.out,fun _=>HKe.out⟩
   ·have q0:((bm:Int)==0)=false:=by simp;omega
    have HRr:ag (R=RO):=ae (by rw[HR2.out,decide_eq_false k0,Bool.false_or]);have HC:=ae (UT.out _ HKw.out _ z6 (HRk.out _ HKw.out));clear k0 HR2;go_wp2_with(go_at_call 77;refine HC.out.mono ?_;rintro r w7⟨rfl,d7⟩)
    go_ret;exact⟨by rw[HRr.out];rfl,HKw.out.than d7,fun _=>HKe.out.below d7⟩
def qD(l:List bU):List Ad:=l.flatMap fun X=>X.p.aR
def tW(rl:List Ry)(xs:List bU)(k:Nat):Bool:=match xs[k]? with
 |some X=>decide (qD (xs.take k)++X.p.aR).Nodup&&lq rl X.p
 |none=>false
theorem Gs(rl:List Ry)(xs:List bU):∀n,n≤xs.length→(aF n).all (tW rl xs)=(decide (qD (xs.take n)).Nodup&&(xs.take n).all fun X=>lq rl X.p)
 |0,_=>by simp[qD]
 |n+1,h=>by
  have ih:=Gs rl xs n aQ;have hx:xs[n]? =some xs[n]:=af aQ;have htk:qD (xs.take (n+1))=qD (xs.take n)++xs[n].p.aR:=by unfold qD;rw[ah1,hx,List.flatMap_append];simp only[Option.toList_some,abe,List.flatMap_nil,dP]
  have hta:((xs.take (n+1)).all fun X=>lq rl X.p)=(((xs.take n).all fun X=>lq rl X.p)&&lq rl xs[n].p):=by rw[ah1,hx,List.all_append];simp only[Option.toList_some,List.all_cons,List.all_nil,Bool.and_true]
  rw[eZ,ih,htk,hta];unfold tW;rw[hx];simp only;by_cases h1:(qD (xs.take n)).Nodup
  ·rw[decide_eq_true h1,bV];cases(decide (qD (xs.take n)++xs[n].p.aR).Nodup)<;>cases((xs.take n).all fun X=>lq rl X.p)<;>simp
  ·have h2:¬(qD (xs.take n)++xs[n].p.aR).Nodup:=fun h=>h1 ((List.sublist_append_left _ _).nodup h)
   rw[decide_eq_false h1,decide_eq_false h2];simp
theorem QJ(rl:List Ry)(xs:List bU):(aF xs.length).all (tW rl xs)=(decide ((xs.map (·.p)).flatMap fun p=>p.aR).Nodup&&(xs.map (·.p)).all (lq rl)):=by
 rw[Gs rl xs xs.length (aA _),List.take_length,List.flatMap_map,List.all_map];rfl
theorem Vs{w:World}(env:Env w){pv rv:Value}{m:Mp}(hp:dJ w pv m.aK)(hr:fy w rv m.ax)(fit:kM m)(sz:∀p∈m.aK,gm p)(hpl:m.aK.length≤4000000)(hrl:m.ax.length≤4000000)(hol:m.policy.size≤2000000):Calls ah 23 #[.agg #[.int .u64 (m.version:Int),pv,rv,.string m.policy]] w (Got (.bool (jv m)) w):=by
 have hps:=fun u(hu:aW w u)=>qS (env.below hu) (hp.below hu) hpl fit.aK sz
 have hrs:=fun u(hu:aW w u)=>pH (env.below hu) (aY.below hr hu) hrl fit.ax
 have hpo:=fun u(hu:aW w u)=>pG (env.below hu) m.policy hol
 have hal:∀u mm sb mb,aW w u→w.heap.size≤mm→KM uZ u mm (dK [])→u.cell? ⟨sb,0,none⟩=some (.map (some mm))→aG u mb 26 #[.int .u64 (m.version:Int),pv,rv,.string m.policy]→Calls ah 75 #[pv,.func (.func 76) #[] #[.pointer (some ⟨sb,0,none⟩),.pointer (some ⟨mb,0,none⟩)]] u fun r w'=>r=.returned (.bool (decide (m.aK.flatMap (·.aR)).Nodup&&m.aK.all (lq m.ax)))∧Keeps (fun x=>x=mm) u w':=fun u mm sb mb hu hmm hkm hs hM=>by
  obtain⟨xs,hxs,hrow,hx⟩:=hp;rw[←hxs,←QJ];obtain⟨A,cap,rfl⟩:=hrow.shape;have hlen:xs.length≤4000000:=by rw[←hxs,ay]at hpl;exact hpl
  refine Kw (m:=mm) hlen _ (tW m.ax xs) (fun k W=>KM uZ W mm (dK (qD (xs.take k)))∧(qD (xs.take k)).Nodup∧W.cell? ⟨sb,0,none⟩=some (.map (some mm))∧aG W mb 26 #[.int .u64 (m.version:Int),.slice A xs.length cap,rv,.string m.policy]∧Keeps (fun x=>x=mm) u W) (fun k W W' h hb=>⟨h.1.below hb,h.2.1,ak h.2.2.1 hb,h.2.2.2.1.below hb h.2.2.2.1.lt,h.2.2.2.2.than hb⟩) hkm.lt (hrow.below hu).iQ ?_ _ _ (enters_of Tryz.func76 bo rfl) ?_ ⟨hkm,by simp[qD],hs,hM,Keeps.refl _ _⟩
  ·rintro h0 g o rfl hg;obtain⟨A',cap',e,hl,hc⟩:=hrow;injection e with e1 _ _
   obtain⟨g',o',ha,hcc⟩:=hc h0;rw[←e1]at ha;injection ha with ha
   injection ha with ha _ _
   subst ha;have hz:0<(cZ xs).length:=by rw[hl];omega
   have hlt:=aj w _ (hcc 0 _ (af hz));simp only at hlt;omega
  ·rintro k hk W⟨hk1,hk2,hk3,hk4,hk5⟩;have hxk:xs[k]? =some xs[k]:=af hk;have hbW:aW w W:=hu.trans (hk5.below (fun x hx=>by subst hx;exact hmm) hu.size);have hmem:=a8 hk;have hin:xs[k].p∈m.aK:=by rw[←hxs];exact eC hmem
   have hc:=Vr ((hx _ hmem).below hbW) (fit.aK _ hin) (sz _ hin) (aY.below hr hbW) hrl _ hk2 hk1 hk3 hk4;rw[show cZ xs=xs.flatMap bU.vals from rfl];rw[dS bU.vals 8 aC xs k _ hxk];have hst:tW m.ax xs k=(decide (qD (xs.take k)++xs[k].p.aR).Nodup&&lq m.ax xs[k].p):=by unfold tW;rw[hxk]
   have htk:qD (xs.take (k+1))=qD (xs.take k)++xs[k].p.aR:=by unfold qD;rw[ah1,hxk,List.flatMap_append];simp only[Option.toList_some,abe,List.flatMap_nil,dP]
   rw[hst,htk];refine hc.mono fun r W' h=>⟨h.1,h.2.1,fun ht=>⟨h.2.2 ht,?_,bN hk3 h.2.1 (hk1.qj hk3),hk4.keep h.2.1 (hk1.ne hk4),hk5.trans h.2.1⟩⟩
   rw[Bool.and_eq_true,decide_eq_true_eq]at ht;exact ht.1
 obtain⟨R,hR⟩:=bq (jv m);rw[←hR];unfold jv at hR;rw[show(m.aK.all fun p=>decide (p.bm=0)||m.ax.any fun r=>decide (r.id=p.bm))=m.aK.all (lq m.ax)from rfl]at hR;generalize(decide (m.aK.flatMap (·.aR)).Nodup&&m.aK.all (lq m.ax))=RL at hal hR;obtain⟨Ap,cp,rfl⟩:=hp.shape;obtain⟨Ar,cr,rfl⟩:=aY.shape hr;have hv:=fit.version;obtain⟨version,aK,ax,policy⟩:=m;simp only at*;generalize jt aK=RP at hps hR;generalize ju ax=RY at hrs hR;generalize lW policy=RO at hpo hR;generalize aK.length=NP at*;generalize ax.length=NR at*;obtain⟨zG,HRs,PZ,HAl,HR,HB,HM⟩:=mM hps hrs hpo hal hR (boxed w (.cells #[.int .u64 version,.slice Ap NP cp,.slice Ar NR cr,.string policy] 26)) (aG.new w 26 #[.int .u64 version,.slice Ap NP cp,.slice Ar NR cr,.string policy]);clear hps hrs hpo hal hR env hp hr fit sz hol;go_enter Tryz.func23,Tryz.ntmps23;go_upto_region 1 with fail
 generalize w.alloc (.cells #[.int .u64 version,.slice Ap NP cp,.slice Ar NR cr,.string policy] 26)=w1 at HB HM⊢;generalize hP:w.heap.size=P at HM⊢;obtain⟨m0,m1,m2,m3⟩:=dV HM;by_cases k1:1≤version;rotate_left
 ·obtain rfl:version=0:=by omega
  have dt:ag (R=false):=ae (by rw[HR.out,decide_eq_false k1];simp);clear k1;go_wp2_with fail
  go_ret;exact⟨by rw[dt.out];rfl,HB.out⟩
 have q1:¬(version:Int)<1:=by omega
 have HR1:=ae HR.out;rw[decide_eq_true k1,bV]at HR1;clear HR k1;cases RP with
 |false=>
  have dt:ag (R=false):=ae (by rw[HR1.out];simp);go_wp2_with(go_at_call 72;refine(zG.out _ HB.out).mono ?_;rintro r w2⟨rfl,d2⟩)
  go_ret;exact⟨by rw[dt.out];rfl,after HB.out d2⟩
 |true=>
 cases RY with
 |false=>
  have dt:ag (R=false):=ae (by rw[HR1.out];simp);go_wp2_with(first
   |(go_at_call 72;refine(zG.out _ HB.out).mono ?_;rintro r w2⟨rfl,d2⟩;have n2:=ak m2 d2)
   |(go_at_call 73;refine(HRs.out _ (after HB.out d2)).mono ?_;rintro r w3⟨rfl,d3⟩))
  go_ret;exact⟨by rw[dt.out];rfl,after (after HB.out d2) d3⟩
 |true=>
 cases RO with
 |false=>
  have dt:ag (R=false):=ae (by rw[HR1.out];simp);go_wp2_with(first
   |(go_at_call 72;refine(zG.out _ HB.out).mono ?_;rintro r w2⟨rfl,d2⟩;have n2:=ak m2 d2;have n3:=ak m3 d2)
   |(go_at_call 73;refine(HRs.out _ (after HB.out d2)).mono ?_;rintro r w3⟨rfl,d3⟩;have v3:=ak n3 d3)
   |(go_at_call 74;refine(PZ.out _ (after (after HB.out d2) d3)).mono ?_;rintro r w4⟨rfl,d4⟩))
  go_ret;exact⟨by rw[dt.out];rfl,after (after (after HB.out d2) d3) d4⟩
 |true=>
  have HRl:ag (R=RL):=ae (by rw[HR1.out];simp);clear HR1;have hmm:= @run_makeMap ah;go_upto_region 3 with(first
   |(go_at_call 72;refine(zG.out _ HB.out).mono ?_;rintro r w2⟨rfl,d2⟩;have n2:=ak m2 d2;have n3:=ak m3 d2)
   |(go_at_call 73;refine(HRs.out _ (after HB.out d2)).mono ?_;rintro r w3⟨rfl,d3⟩;have v3:=ak n3 d3)
   |(go_at_call 74;refine(PZ.out _ (after (after HB.out d2) d3)).mono ?_;rintro r w4⟨rfl,d4⟩))
  have e4:=after d2 (after d3 d4);have HB4:=aZ HB e4;have Es:=ae (bJ HM e4);clear m0 m1 m2 m3 n2 n3 v3 d2 d3 d4 e4 HB HM;obtain⟨-,c1⟩:=jL Es;go_upto_region 4 with fail
  clear hmm c1;have hb5:=fQ w4 (.map #[] 0) (.cells #[.map (some w4.heap.size)] 116);have hKM:KM uZ (w4.alloc (.map #[] 0)) w4.heap.size (dK []):=heap_alloc_new w4 _;have HKM:=ae (hKM.below (boxed _ (.cells #[.map (some w4.heap.size)] 116)));have hS:((w4.alloc (.map #[] 0)).alloc (.cells #[.map (some w4.heap.size)] 116)).cell? ⟨w4.heap.size+1,0,none⟩=some (.map (some w4.heap.size)):=by
   have:=(aG.new (w4.alloc (.map #[] 0)) 116 #[.map (some w4.heap.size)]).cell 0;rw[show(w4.alloc (.map #[] 0)).heap.size=w4.heap.size+1 by simp]at this;exact this
  have HS:=ae hS;have nw:=aZ HB4 hb5;have tN:=ae (bJ Es hb5);have hmm:w.heap.size≤w4.heap.size:=HB4.out.size;have Hmm:=ae hmm;clear hS hKM hb5 HB4 Es hmm;generalize(w4.alloc (.map #[] 0)).alloc (.cells #[.map (some w4.heap.size)] 116)=w5 at HKM HS nw tN⊢;generalize w4.heap.size+1=SB at HS⊢;generalize w4.heap.size=MM at HKM HS Hmm⊢;obtain⟨-,c1⟩:=jL tN;go_wp2_with(go_at_call 75;refine(HAl.out _ _ _ _ nw.out Hmm.out HKM.out HS.out tN.out).mono ?_;rintro r w6⟨rfl,k6⟩)
  go_ret;exact⟨by rw[HRl.out];rfl,nw.out.trans (k6.below (fun x hx=>by subst hx;exact Hmm.out) nw.out.size)⟩
theorem yg{B b:Nat}{D:List UInt8}{w:World}(e:En)(ok:zC e.1)(op:e.2<65536)(h:gj B b D w)(hlen:D.length≤900000000)(hBw:B≤w.heap.size):Calls ah 85 #[.pointer (some ⟨b,0,none⟩),.agg (cD e).toArray] w (Put B b D (F7 e) w):=by
 have hal:=Nr e.1;have had:=fun u(hu:aW w u)=>ve e.1 ok (h.below hu) aQ (aw hBw hu.size)
 have hpo:=fun u=>lP e.2 op u
 have hput:=fun v u(hp:gj B b (D++zh e.1) v)(hv:B≤v.heap.size)(hu:aW v u)=>fK (w:=u) [be 2 e.2] (hp.below hu) (by simp) (by rw[df,bZ,aP,ai];omega) (aw hv hu.size) 1 rfl
 have fZ:ag (w.heap.size≠b):=ae (by have:=h.lt;omega);obtain⟨X,hX⟩:=bq (F7 e);rw[←hX];have hX2:D++zh e.1++fD [be 2 e.2]=D++X:=by rw[hX,df,bZ,aO];rfl
 have HX:=ae hX2;have hb1:=boxed w (.cells (cD e).toArray 55);obtain⟨HP,HB1,HB⟩:=bu (aG.new w 55 (cD e).toArray) hb1 hBw;unfold Put at had⊢;obtain⟨⟨v,hi,lo⟩,po⟩:=e;unfold cD at HP HB1⊢;simp only at*;unfold Ad.cells at had;simp only at had;obtain⟨HAd,PZ,jh⟩:=bu had hpo hput;clear had hpo hput hX hX2 hb1 h hBw hal ok op;go_enter Tryz.func85,Tryz.ntmps85;go_upto_region 1 with fail
 generalize w.alloc (.cells #[.bool v,.int .u64 hi,.int .u64 lo,.int .u16 po] 55)=w1 at HP HB1⊢;generalize w.heap.size=P at HP fZ⊢;obtain⟨a0,a1,a2⟩:=jf HP;go_upto_region 2 with(go_at_call 83;refine(HAd.out _ HB1.out).mono ?_;rintro r w2⟨rfl,p2,k2⟩)
 have HP2:=ae (k2.kept _ _ _ HP.out fZ.out aH);obtain⟨-,-,-,a3⟩:=dV HP2;have hB2:=aw HB.out (aw HB1.out.size k2.below.size);obtain⟨HB2,lN,agu⟩:=bu hB2 k2 p2;clear a0 a1 a2 hB2 k2 p2;go_wp2_with(first
  |(go_at_call 81;refine(PZ.out _).mono ?_;rintro r w3⟨rfl,d3⟩)
  |(go_at_call 24;(refine(jh.out w2 w3 agu.out HB2.out d3).mono ?_);rintro r w4⟨rfl,p4,k4⟩;rw[HX.out]at p4))
 go_end0
 exact⟨rfl,p4,(lN.out.low HB.out HB1.out).trans (k4.low HB2.out d3)⟩
theorem iZ{β:Type}(E:Nat→List β)(k:Nat):(aF (k+1)).flatMap E=(aF k).flatMap E++E k:=by
 rw[List.range_succ,List.flatMap_append];simp
theorem gy{β:Type}(E:Nat→List β){k n:Nat}(h:k≤n):((aF k).flatMap E).length≤((aF n).flatMap E).length:=by
 induction n with
 |zero=>rw[Nat.le_zero.1 h];exact aA _
 |succ n ih=>
  rcases Nat.lt_or_ge k (n+1)with h1|h1
  ·rw[iZ E n,ai];have:=ih aQ;omega
  ·rw[show k=n+1 by omega];exact aA _
theorem QK{B b:Nat}{D:List UInt8}{w:World}{A:Option Addr}{N cap:Nat}{M:Nat}(hM:M≤800000000)(hN:N<65536)(cs:Nat→ByteArray)(E:Nat→List UInt8)(hc:mF w A N cs)(hA:0<N→∀g o,A=some ⟨g,o,none⟩→g<B)(f:Nat)(eg:∀args w,(callFunc f args).run ah w=.ok (.enter f args) w)(h:gj B b D w)(hBw:B≤w.heap.size)(hlen:D.length+2+((aF N).flatMap E).length≤M)(hf:∀k,k<N→∀W D',Below B w W→gj B b D' W→D'.length≤M→B≤W.heap.size→Calls ah f #[.pointer (some ⟨b,0,none⟩),.string (cs k)] W (Put B b D' (E k) W)):Calls ah 44 #[.pointer (some ⟨b,0,none⟩),.slice A N cap,.func (.func f) #[.pointer (some ⟨b,0,none⟩)] #[]] w (Put B b D (fF 2 N++(aF N).flatMap E) w):=by
 have hu:=fun u=>lP N hN u
 have hw:IntKind.u16.wrap (N:Int)=(N:Int):=by
  show(N:Int)%65536=_;omega
 have hput:=fun u(hu:aW w u)=>fK (w:=u) [be 2 N] (h.below hu) (by simp) (by rw[df,bZ,aP];omega) (aw hBw hu.size) 1 rfl
 rw[show fD [be 2 N]=fF 2 N by rw[df,bZ]]at hput;obtain⟨HC,HF,HA,HB,HLen,HU,jh⟩:=mM hc hf hA hBw hlen hu hput;unfold Put at HF⊢;clear hc hf hA hBw hlen h hu hput;go_enter Tryz.func44,Tryz.ntmps44;go_wp2_with(first
  |(go_at_call 81;refine(HU.out _).mono ?_;rintro r w1⟨rfl,d1⟩)
  |(go_at_call 24;(refine(jh.out _ d1).mono ?_);rintro r w2⟨rfl,p2,k2⟩;obtain⟨HP2,lN⟩:=aN p2 (k2.low HB.out d1);clear p2 k2))
 go_loopw [17] (fun v17 wr=>∃k:Nat,k≤N∧v17=.int .i64 k∧ag (gj B b (D++fF 2 N++(aF k).flatMap E) wr)∧ag (Wrote B b w wr)) (fun v17 _=>N-(intOf v17).toNat)
 case atStart=>exact⟨0,bh _,rfl,ae (by rw[show(aF 0).flatMap E=[]from rfl,dP];exact HP2.out),lN⟩
 case round=>
  obtain⟨k,hk,rfl,hp,hb⟩:=hrel;have hBr:=aw HB.out hb.out.below.size;have QL:=ae hBr;by_cases hlt:k<N
  ·have hlr:(D++fF 2 N++(aF k).flatMap E).length≤M:=by
    have h1:=gy E hk;have h2:=HLen.out;simp only[ai,aP]at*;omega
   obtain⟨q,o,rfl,hcell⟩:=HC.out k hlt;have hcall:=fun u(hu:aW wr u)=>HF.out k hlt u (D++fF 2 N++(aF k).flatMap E) (hb.out.below.trans (hu.mono hBr)) (hp.out.below hu) hlr (aw hBr hu.size)
   have d0:=(hb.out.below.cell (p:=⟨q,o+k,none⟩) (HA.out aQ _ _ rfl)).trans hcell;generalize cs k=L at d0 hcall;have bI:=ae hcall;clear hcall hcell;clear hlr hBr;go_wp2_with(go_at_fn f;(with_reducible refine(bI.out _ (aM _ _)).mono ?_);rintro r w4⟨rfl,p4,k4⟩;have qT:=ae p4;clear p4)
   go_roundw
   case rel=>exact⟨k+1,by omega,by go_num,ae (by rw[iZ,←aO];exact qT.out),ae (hb.out.trans (k4))⟩
   case measure=>simp[intOf];omega
  ·obtain rfl:k=N:=by omega
   clear hBr;go_wp2_with fail
   go_end0
   exact⟨rfl,by rw[←aO];exact hp.out,hb.out⟩
theorem Kz{B b:Nat}{D:List UInt8}{w:World}{A:Option Addr}{N cap:Nat}{M:Nat}(hM:M≤800000000)(hN:N<65536)(cs:Nat→Ad)(E:Nat→List UInt8)(hc:dO w A N 3 fun k=>(fun a:Ad=>a.cells.toList) (cs k))(hA:0<N→∀g o,A=some ⟨g,o,none⟩→g<B)(f:Nat)(eg:∀args w,(callFunc f args).run ah w=.ok (.enter f args) w)(h:gj B b D w)(hBw:B≤w.heap.size)(hlen:D.length+2+((aF N).flatMap E).length≤M)(hf:∀k,k<N→∀W D',Below B w W→gj B b D' W→D'.length≤M→B≤W.heap.size→Calls ah f #[.pointer (some ⟨b,0,none⟩),.agg ((fun a:Ad=>a.cells.toList) (cs k)).toArray] W (Put B b D' (E k) W)):Calls ah 82 #[.pointer (some ⟨b,0,none⟩),.slice A N cap,.func (.func f) #[.pointer (some ⟨b,0,none⟩)] #[]] w (Put B b D (fF 2 N++(aF N).flatMap E) w):=by
 have hu:=fun u=>lP N hN u
 have hw:IntKind.u16.wrap (N:Int)=(N:Int):=by
  show(N:Int)%65536=_;omega
 have hput:=fun u(hu:aW w u)=>fK (w:=u) [be 2 N] (h.below hu) (by simp) (by rw[df,bZ,aP];omega) (aw hBw hu.size) 1 rfl
 rw[show fD [be 2 N]=fF 2 N by rw[df,bZ]]at hput;obtain⟨HC,HF,HA,HB,HLen,HU,jh⟩:=mM hc hf hA hBw hlen hu hput;unfold Put at HF⊢;clear hc hf hA hBw hlen h hu hput;go_enter Tryz.func82,Tryz.ntmps82;go_wp2_with(first
  |(go_at_call 81;refine(HU.out _).mono ?_;rintro r w1⟨rfl,d1⟩)
  |(go_at_call 24;(refine(jh.out _ d1).mono ?_);rintro r w2⟨rfl,p2,k2⟩;obtain⟨HP2,lN⟩:=aN p2 (k2.low HB.out d1);clear p2 k2))
 go_loopw [17] (fun v17 wr=>∃k:Nat,k≤N∧v17=.int .i64 k∧ag (gj B b (D++fF 2 N++(aF k).flatMap E) wr)∧ag (Wrote B b w wr)) (fun v17 _=>N-(intOf v17).toNat)
 case atStart=>exact⟨0,bh _,rfl,ae (by rw[show(aF 0).flatMap E=[]from rfl,dP];exact HP2.out),lN⟩
 case round=>
  obtain⟨k,hk,rfl,hp,hb⟩:=hrel;have hBr:=aw HB.out hb.out.below.size;have QL:=ae hBr;by_cases hlt:k<N
  ·have hlr:(D++fF 2 N++(aF k).flatMap E).length≤M:=by
    have h1:=gy E hk;have h2:=HLen.out;simp only[ai,aP]at*;omega
   obtain⟨_,q,o,rfl,hcell⟩:=HC.out k hlt;have hcall:=fun u(hu:aW wr u)=>HF.out k hlt u (D++fF 2 N++(aF k).flatMap E) (hb.out.below.trans (hu.mono hBr)) (hp.out.below hu) hlr (aw hBr hu.size)
   dsimp only at hcell;generalize cs k=x at hcell hcall;obtain⟨v,hi,lo⟩:=x;unfold Ad.cells at hcell hcall;simp only at hcell hcall;have d0:=(hb.out.below.cell (p:=⟨q,o+k*3+0,none⟩) (HA.out aQ _ _ rfl)).trans (hcell 0 _ rfl);have d1:=(hb.out.below.cell (p:=⟨q,o+k*3+1,none⟩) (HA.out aQ _ _ rfl)).trans (hcell 1 _ rfl);have d2:=(hb.out.below.cell (p:=⟨q,o+k*3+2,none⟩) (HA.out aQ _ _ rfl)).trans (hcell 2 _ rfl);rw[b8]at d0;have bI:=ae hcall;clear hcall hcell;clear hlr hBr;go_wp2_with(go_at_fn f;(with_reducible refine(bI.out _ (boxed _ _)).mono ?_);rintro r w4⟨rfl,p4,k4⟩;have qT:=ae p4;clear p4)
   go_roundw
   case rel=>exact⟨k+1,by omega,by go_num,ae (by rw[iZ,←aO];exact qT.out),ae (hb.out.trans (k4.low QL.out (boxed _ _)))⟩
   case measure=>simp[intOf];omega
  ·obtain rfl:k=N:=by omega
   clear hBr;go_wp2_with fail
   go_end0
   exact⟨rfl,by rw[←aO];exact hp.out,hb.out⟩
theorem KA{B b:Nat}{D:List UInt8}{w:World}{A:Option Addr}{N cap:Nat}{M:Nat}(hM:M≤800000000)(hN:N<65536)(cs:Nat→En)(E:Nat→List UInt8)(hc:dO w A N 4 fun k=>cD (cs k))(hA:0<N→∀g o,A=some ⟨g,o,none⟩→g<B)(f:Nat)(eg:∀args w,(callFunc f args).run ah w=.ok (.enter f args) w)(h:gj B b D w)(hBw:B≤w.heap.size)(hlen:D.length+2+((aF N).flatMap E).length≤M)(hf:∀k,k<N→∀W D',Below B w W→gj B b D' W→D'.length≤M→B≤W.heap.size→Calls ah f #[.pointer (some ⟨b,0,none⟩),.agg (cD (cs k)).toArray] W (Put B b D' (E k) W)):Calls ah 84 #[.pointer (some ⟨b,0,none⟩),.slice A N cap,.func (.func f) #[.pointer (some ⟨b,0,none⟩)] #[]] w (Put B b D (fF 2 N++(aF N).flatMap E) w):=by
 have hu:=fun u=>lP N hN u
 have hw:IntKind.u16.wrap (N:Int)=(N:Int):=by
  show(N:Int)%65536=_;omega
 have hput:=fun u(hu:aW w u)=>fK (w:=u) [be 2 N] (h.below hu) (by simp) (by rw[df,bZ,aP];omega) (aw hBw hu.size) 1 rfl
 rw[show fD [be 2 N]=fF 2 N by rw[df,bZ]]at hput;obtain⟨HC,HF,HA,HB,HLen,HU,jh⟩:=mM hc hf hA hBw hlen hu hput;unfold Put at HF⊢;clear hc hf hA hBw hlen h hu hput;go_enter Tryz.func84,Tryz.ntmps84;go_wp2_with(first
  |(go_at_call 81;refine(HU.out _).mono ?_;rintro r w1⟨rfl,d1⟩)
  |(go_at_call 24;(refine(jh.out _ d1).mono ?_);rintro r w2⟨rfl,p2,k2⟩;obtain⟨HP2,lN⟩:=aN p2 (k2.low HB.out d1);clear p2 k2))
 go_loopw [17] (fun v17 wr=>∃k:Nat,k≤N∧v17=.int .i64 k∧ag (gj B b (D++fF 2 N++(aF k).flatMap E) wr)∧ag (Wrote B b w wr)) (fun v17 _=>N-(intOf v17).toNat)
 case atStart=>exact⟨0,bh _,rfl,ae (by rw[show(aF 0).flatMap E=[]from rfl,dP];exact HP2.out),lN⟩
 case round=>
  obtain⟨k,hk,rfl,hp,hb⟩:=hrel;have hBr:=aw HB.out hb.out.below.size;have QL:=ae hBr;by_cases hlt:k<N
  ·have hlr:(D++fF 2 N++(aF k).flatMap E).length≤M:=by
    have h1:=gy E hk;have h2:=HLen.out;simp only[ai,aP]at*;omega
   obtain⟨_,q,o,rfl,hcell⟩:=HC.out k hlt;have hcall:=fun u(hu:aW wr u)=>HF.out k hlt u (D++fF 2 N++(aF k).flatMap E) (hb.out.below.trans (hu.mono hBr)) (hp.out.below hu) hlr (aw hBr hu.size)
   dsimp only at hcell;generalize cs k=x at hcell hcall;obtain⟨⟨v,hi,lo⟩,po⟩:=x;unfold cD at hcell hcall;simp only at hcell hcall;have d0:=(hb.out.below.cell (p:=⟨q,o+k*4+0,none⟩) (HA.out aQ _ _ rfl)).trans (hcell 0 _ rfl);have d1:=(hb.out.below.cell (p:=⟨q,o+k*4+1,none⟩) (HA.out aQ _ _ rfl)).trans (hcell 1 _ rfl);have d2:=(hb.out.below.cell (p:=⟨q,o+k*4+2,none⟩) (HA.out aQ _ _ rfl)).trans (hcell 2 _ rfl);have d3:=(hb.out.below.cell (p:=⟨q,o+k*4+3,none⟩) (HA.out aQ _ _ rfl)).trans (hcell 3 _ rfl);rw[b8]at d0;have bI:=ae hcall;clear hcall hcell;clear hlr hBr;go_wp2_with(go_at_fn f;(with_reducible refine(bI.out _ (boxed _ _)).mono ?_);rintro r w4⟨rfl,p4,k4⟩;have qT:=ae p4;clear p4)
   go_roundw
   case rel=>exact⟨k+1,by omega,by go_num,ae (by rw[iZ,←aO];exact qT.out),ae (hb.out.trans (k4.low QL.out (boxed _ _)))⟩
   case measure=>simp[intOf];omega
  ·obtain rfl:k=N:=by omega
   clear hBr;go_wp2_with fail
   go_end0
   exact⟨rfl,by rw[←aO];exact hp.out,hb.out⟩
theorem KB{B b:Nat}{D:List UInt8}{w:World}{A:Option Addr}{N cap:Nat}{M:Nat}(hM:M≤800000000)(hN:N<65536)(cs:Nat→Ry)(E:Nat→List UInt8)(hc:dO w A N 6 fun k=>bF (cs k))(hA:0<N→∀g o,A=some ⟨g,o,none⟩→g<B)(f:Nat)(eg:∀args w,(callFunc f args).run ah w=.ok (.enter f args) w)(h:gj B b D w)(hBw:B≤w.heap.size)(hlen:D.length+2+((aF N).flatMap E).length≤M)(hf:∀k,k<N→∀W D',Below B w W→gj B b D' W→D'.length≤M→B≤W.heap.size→Calls ah f #[.pointer (some ⟨b,0,none⟩),.agg (bF (cs k)).toArray] W (Put B b D' (E k) W)):Calls ah 28 #[.pointer (some ⟨b,0,none⟩),.slice A N cap,.func (.func f) #[.pointer (some ⟨b,0,none⟩)] #[]] w (Put B b D (fF 2 N++(aF N).flatMap E) w):=by
 have hu:=fun u=>lP N hN u
 have hw:IntKind.u16.wrap (N:Int)=(N:Int):=by
  show(N:Int)%65536=_;omega
 have hput:=fun u(hu:aW w u)=>fK (w:=u) [be 2 N] (h.below hu) (by simp) (by rw[df,bZ,aP];omega) (aw hBw hu.size) 1 rfl
 rw[show fD [be 2 N]=fF 2 N by rw[df,bZ]]at hput;obtain⟨HC,HF,HA,HB,HLen,HU,jh⟩:=mM hc hf hA hBw hlen hu hput;unfold Put at HF⊢;clear hc hf hA hBw hlen h hu hput;go_enter Tryz.func28,Tryz.ntmps28;go_wp2_with(first
  |(go_at_call 81;refine(HU.out _).mono ?_;rintro r w1⟨rfl,d1⟩)
  |(go_at_call 24;(refine(jh.out _ d1).mono ?_);rintro r w2⟨rfl,p2,k2⟩;obtain⟨HP2,lN⟩:=aN p2 (k2.low HB.out d1);clear p2 k2))
 go_loopw [17] (fun v17 wr=>∃k:Nat,k≤N∧v17=.int .i64 k∧ag (gj B b (D++fF 2 N++(aF k).flatMap E) wr)∧ag (Wrote B b w wr)) (fun v17 _=>N-(intOf v17).toNat)
 case atStart=>exact⟨0,bh _,rfl,ae (by rw[show(aF 0).flatMap E=[]from rfl,dP];exact HP2.out),lN⟩
 case round=>
  obtain⟨k,hk,rfl,hp,hb⟩:=hrel;have hBr:=aw HB.out hb.out.below.size;have QL:=ae hBr;by_cases hlt:k<N
  ·have hlr:(D++fF 2 N++(aF k).flatMap E).length≤M:=by
    have h1:=gy E hk;have h2:=HLen.out;simp only[ai,aP]at*;omega
   obtain⟨_,q,o,rfl,hcell⟩:=HC.out k hlt;have hcall:=fun u(hu:aW wr u)=>HF.out k hlt u (D++fF 2 N++(aF k).flatMap E) (hb.out.below.trans (hu.mono hBr)) (hp.out.below hu) hlr (aw hBr hu.size)
   dsimp only at hcell;generalize cs k=x at hcell hcall;obtain⟨id,key,⟨⟨v,hi,lo⟩,po⟩⟩:=x;unfold bF at hcell hcall;simp only at hcell hcall;have d0:=(hb.out.below.cell (p:=⟨q,o+k*6+0,none⟩) (HA.out aQ _ _ rfl)).trans (hcell 0 _ rfl);have d1:=(hb.out.below.cell (p:=⟨q,o+k*6+1,none⟩) (HA.out aQ _ _ rfl)).trans (hcell 1 _ rfl);have d2:=(hb.out.below.cell (p:=⟨q,o+k*6+2,none⟩) (HA.out aQ _ _ rfl)).trans (hcell 2 _ rfl);have d3:=(hb.out.below.cell (p:=⟨q,o+k*6+3,none⟩) (HA.out aQ _ _ rfl)).trans (hcell 3 _ rfl);have d4:=(hb.out.below.cell (p:=⟨q,o+k*6+4,none⟩) (HA.out aQ _ _ rfl)).trans (hcell 4 _ rfl);have d5:=(hb.out.below.cell (p:=⟨q,o+k*6+5,none⟩) (HA.out aQ _ _ rfl)).trans (hcell 5 _ rfl);rw[b8]at d0;have bI:=ae hcall;clear hcall hcell;clear hlr hBr;go_wp2_with(go_at_fn f;(with_reducible refine(bI.out _ (boxed _ _)).mono ?_);rintro r w4⟨rfl,p4,k4⟩;have qT:=ae p4;clear p4)
   go_roundw
   case rel=>exact⟨k+1,by omega,by go_num,ae (by rw[iZ,←aO];exact qT.out),ae (hb.out.trans (k4.low QL.out (boxed _ _)))⟩
   case measure=>simp[intOf];omega
  ·obtain rfl:k=N:=by omega
   clear hBr;go_wp2_with fail
   go_end0
   exact⟨rfl,by rw[←aO];exact hp.out,hb.out⟩
theorem KC{B b:Nat}{D:List UInt8}{w:World}{A:Option Addr}{N cap:Nat}{M:Nat}(hM:M≤800000000)(hN:N<65536)(cs:Nat→bU)(E:Nat→List UInt8)(hc:dO w A N 8 fun k=>bU.vals (cs k))(hA:0<N→∀g o,A=some ⟨g,o,none⟩→g<B)(f:Nat)(eg:∀args w,(callFunc f args).run ah w=.ok (.enter f args) w)(hsh:∀k,k<N→∃A1 n1 c1 A2 n2 c2 A3 n3 c3,(cs k).tv=.slice A1 n1 c1∧(cs k).av=.slice A2 n2 c2∧(cs k).ev=.slice A3 n3 c3)(h:gj B b D w)(hBw:B≤w.heap.size)(hlen:D.length+2+((aF N).flatMap E).length≤M)(hf:∀k,k<N→∀W D',Below B w W→gj B b D' W→D'.length≤M→B≤W.heap.size→Calls ah f #[.pointer (some ⟨b,0,none⟩),.agg (bU.vals (cs k)).toArray] W (Put B b D' (E k) W)):Calls ah 26 #[.pointer (some ⟨b,0,none⟩),.slice A N cap,.func (.func f) #[.pointer (some ⟨b,0,none⟩)] #[]] w (Put B b D (fF 2 N++(aF N).flatMap E) w):=by
 have hu:=fun u=>lP N hN u
 have hw:IntKind.u16.wrap (N:Int)=(N:Int):=by
  show(N:Int)%65536=_;omega
 have hput:=fun u(hu:aW w u)=>fK (w:=u) [be 2 N] (h.below hu) (by simp) (by rw[df,bZ,aP];omega) (aw hBw hu.size) 1 rfl
 rw[show fD [be 2 N]=fF 2 N by rw[df,bZ]]at hput;obtain⟨HC,HF,HA,HB,HLen,HU,jh,HSh⟩:=SA hc hf hA hBw hlen hu hput hsh;clear hsh;unfold Put at HF⊢;clear hc hf hA hBw hlen h hu hput;go_enter Tryz.func26,Tryz.ntmps26;go_wp2_with(first
  |(go_at_call 81;refine(HU.out _).mono ?_;rintro r w1⟨rfl,d1⟩)
  |(go_at_call 24;(refine(jh.out _ d1).mono ?_);rintro r w2⟨rfl,p2,k2⟩;obtain⟨HP2,lN⟩:=aN p2 (k2.low HB.out d1);clear p2 k2))
 go_loopw [17] (fun v17 wr=>∃k:Nat,k≤N∧v17=.int .i64 k∧ag (gj B b (D++fF 2 N++(aF k).flatMap E) wr)∧ag (Wrote B b w wr)) (fun v17 _=>N-(intOf v17).toNat)
 case atStart=>exact⟨0,bh _,rfl,ae (by rw[show(aF 0).flatMap E=[]from rfl,dP];exact HP2.out),lN⟩
 case round=>
  obtain⟨k,hk,rfl,hp,hb⟩:=hrel;have hBr:=aw HB.out hb.out.below.size;have QL:=ae hBr;by_cases hlt:k<N
  ·have hlr:(D++fF 2 N++(aF k).flatMap E).length≤M:=by
    have h1:=gy E hk;have h2:=HLen.out;simp only[ai,aP]at*;omega
   obtain⟨_,q,o,rfl,hcell⟩:=HC.out k hlt;have hcall:=fun u(hu:aW wr u)=>HF.out k hlt u (D++fF 2 N++(aF k).flatMap E) (hb.out.below.trans (hu.mono hBr)) (hp.out.below hu) hlr (aw hBr hu.size)
   dsimp only at hcell;obtain⟨A1,n1,c1,A2,n2,c2,A3,n3,c3,e1,e2,e3⟩:=HSh.out k hlt;generalize cs k=x at hcell hcall e1 e2 e3;obtain⟨⟨key,bw,user,tags,aR,ex,bm,ends⟩,tv,av,ev⟩:=x;unfold bU.vals at hcell hcall;simp only at hcell hcall e1 e2 e3;subst e1 e2 e3;have d0:=(hb.out.below.cell (p:=⟨q,o+k*8+0,none⟩) (HA.out aQ _ _ rfl)).trans (hcell 0 _ rfl);have d1:=(hb.out.below.cell (p:=⟨q,o+k*8+1,none⟩) (HA.out aQ _ _ rfl)).trans (hcell 1 _ rfl);have d2:=(hb.out.below.cell (p:=⟨q,o+k*8+2,none⟩) (HA.out aQ _ _ rfl)).trans (hcell 2 _ rfl);have d3:=(hb.out.below.cell (p:=⟨q,o+k*8+3,none⟩) (HA.out aQ _ _ rfl)).trans (hcell 3 _ rfl);have d4:=(hb.out.below.cell (p:=⟨q,o+k*8+4,none⟩) (HA.out aQ _ _ rfl)).trans (hcell 4 _ rfl);have d5:=(hb.out.below.cell (p:=⟨q,o+k*8+5,none⟩) (HA.out aQ _ _ rfl)).trans (hcell 5 _ rfl);have d6:=(hb.out.below.cell (p:=⟨q,o+k*8+6,none⟩) (HA.out aQ _ _ rfl)).trans (hcell 6 _ rfl);have d7:=(hb.out.below.cell (p:=⟨q,o+k*8+7,none⟩) (HA.out aQ _ _ rfl)).trans (hcell 7 _ rfl);rw[b8]at d0;have bI:=ae hcall;clear hcall hcell;clear hlr hBr;go_wp2_with(go_at_fn f;(with_reducible refine(bI.out _ (boxed _ _)).mono ?_);rintro r w4⟨rfl,p4,k4⟩;have qT:=ae p4;clear p4)
   go_roundw
   case rel=>exact⟨k+1,by omega,by go_num,ae (by rw[iZ,←aO];exact qT.out),ae (hb.out.trans (k4.low QL.out (boxed _ _)))⟩
   case measure=>simp[intOf];omega
  ·obtain rfl:k=N:=by omega
   clear hBr;go_wp2_with fail
   go_end0
   exact⟨rfl,by rw[←aO];exact hp.out,hb.out⟩
theorem sB{α:Type}(vals:α→List Value)(K:Nat)(hv:∀x,(vals x).length=K)(z:α){w:World}{A:Option Addr}{cap:Nat}{l:List α}(h:aY w (.slice A l.length cap) l.length K (l.flatMap vals)):dO w A l.length K fun k=>vals (l.getD k z):=by
 intro k hk;have:=h.iQ k hk;have hx:l[k]? =some l[k]:=af hk;dsimp only at this⊢;rw[dS vals K hv l k _ hx]at this;rw[aE,hx,Option.getD_some];exact this
theorem qk{w:World}{A:Option Addr}{n cap K:Nat}{xs:List Value}(hK:0<K)(h:aY w (.slice A n cap) n K xs):0<n→∀g o,A=some ⟨g,o,none⟩→g<w.heap.size:=by
 rintro h0 g o rfl;obtain⟨A',cap',e,hl,hc⟩:=h;injection e with e1 _ _
 obtain⟨g',o',ha,hcc⟩:=hc h0;rw[←e1]at ha;injection ha with ha
 injection ha with ha _ _
 subst ha;have hz:0<xs.length:=by rw[hl];exact Nat.mul_pos h0 hK
 exact aj w _ (hcc 0 _ (af hz))
theorem jS{α β:Type}(f:α→List β)(z:α)(l:List α):(aF l.length).flatMap (fun k=>f (l.getD k z))=l.flatMap f:=by
 rw[←List.flatMap_map (f:=fun k=>l.getD k z) (g:=f)];congr 1;apply List.ext_getElem?;intro i;rw[List.getElem?_map];rcases Nat.lt_or_ge i l.length with h|h
 ·rw[List.getElem?_range h,Option.map_some,aE,af h,Option.getD_some]
 ·rw[uw (by rw[List.length_range];exact h),uw h,Option.map_none]
theorem getD_mem{α:Type}(z:α){l:List α}{k:Nat}(h:k<l.length):l.getD k z∈l:=by
 rw[aE,af h,Option.getD_some];exact a8 h
def Ad.none_:Ad:=⟨false,0,0⟩
def En.none_:En:=(Ad.none_,0)
def Ry.none_:Ry:=⟨0,⟨#[]⟩,En.none_⟩
theorem Vt{b:Nat}{D:List UInt8}{w0 w:World}{v:Value}{l:List ByteArray}(fb:ByteArray→List UInt8)(hr:aY w0 v l.length 1 (strCells l))(hb:aW w0 w)(hl:l.length<65536)(f:Nat)(eg:∀args w,(callFunc f args).run ah w=.ok (.enter f args) w)(h:gj w0.heap.size b D w){M:Nat}(hM:M≤800000000)(hlen:D.length+2+(l.flatMap fb).length≤M)(hf:∀x∈l,∀W D',Below w0.heap.size w W→gj w0.heap.size b D' W→D'.length≤M→w0.heap.size≤W.heap.size→Calls ah f #[.pointer (some ⟨b,0,none⟩),.string x] W (Put w0.heap.size b D' (fb x) W)):Calls ah 44 #[.pointer (some ⟨b,0,none⟩),v,.func (.func f) #[.pointer (some ⟨b,0,none⟩)] #[]] w (Put w0.heap.size b D (bT fb l) w):=by
 obtain⟨A,cap,rfl⟩:=hr.shape;unfold bT;rw[←jS fb ⟨#[]⟩ l]at hlen⊢;exact QK hM hl (fun k=>l.getD k ⟨#[]⟩) (fun k=>fb (l.getD k ⟨#[]⟩)) (wH (hr.below hb)) (qk aH hr) f eg h hb.size hlen fun k hk W D' h1 h2 h3 h4=>hf _ (getD_mem _ hk) W D' h1 h2 h3 h4
theorem QM{b:Nat}{D:List UInt8}{w0 w:World}{v:Value}{l:List Ad}(fb:Ad→List UInt8)(hr:aY w0 v l.length 3 (du l))(hb:aW w0 w)(hl:l.length<65536)(f:Nat)(eg:∀args w,(callFunc f args).run ah w=.ok (.enter f args) w)(h:gj w0.heap.size b D w){M:Nat}(hM:M≤800000000)(hlen:D.length+2+(l.flatMap fb).length≤M)(hf:∀x∈l,∀W D',Below w0.heap.size w W→gj w0.heap.size b D' W→D'.length≤M→w0.heap.size≤W.heap.size→Calls ah f #[.pointer (some ⟨b,0,none⟩),.agg x.cells] W (Put w0.heap.size b D' (fb x) W)):Calls ah 82 #[.pointer (some ⟨b,0,none⟩),v,.func (.func f) #[.pointer (some ⟨b,0,none⟩)] #[]] w (Put w0.heap.size b D (bT fb l) w):=by
 obtain⟨A,cap,rfl⟩:=hr.shape;unfold bT;rw[←jS fb Ad.none_ l]at hlen⊢;exact Kz hM hl (fun k=>l.getD k Ad.none_) (fun k=>fb (l.getD k Ad.none_)) (sB (fun a:Ad=>a.cells.toList) 3 (fun _=>rfl) Ad.none_ (hr.below hb)) (qk aH hr) f eg h hb.size hlen fun k hk W D' h1 h2 h3 h4=>hf _ (getD_mem _ hk) W D' h1 h2 h3 h4
theorem QN{b:Nat}{D:List UInt8}{w0 w:World}{v:Value}{l:List En}(fb:En→List UInt8)(hr:aY w0 v l.length 4 (lX l))(hb:aW w0 w)(hl:l.length<65536)(f:Nat)(eg:∀args w,(callFunc f args).run ah w=.ok (.enter f args) w)(h:gj w0.heap.size b D w){M:Nat}(hM:M≤800000000)(hlen:D.length+2+(l.flatMap fb).length≤M)(hf:∀x∈l,∀W D',Below w0.heap.size w W→gj w0.heap.size b D' W→D'.length≤M→w0.heap.size≤W.heap.size→Calls ah f #[.pointer (some ⟨b,0,none⟩),.agg (cD x).toArray] W (Put w0.heap.size b D' (fb x) W)):Calls ah 84 #[.pointer (some ⟨b,0,none⟩),v,.func (.func f) #[.pointer (some ⟨b,0,none⟩)] #[]] w (Put w0.heap.size b D (bT fb l) w):=by
 obtain⟨A,cap,rfl⟩:=hr.shape;unfold bT;rw[←jS fb En.none_ l]at hlen⊢;exact KA hM hl (fun k=>l.getD k En.none_) (fun k=>fb (l.getD k En.none_)) (sB cD 4 fB En.none_ (hr.below hb)) (qk aH hr) f eg h hb.size hlen fun k hk W D' h1 h2 h3 h4=>hf _ (getD_mem _ hk) W D' h1 h2 h3 h4
theorem AO{b:Nat}{D:List UInt8}{w0 w:World}{v:Value}{l:List Ry}(fb:Ry→List UInt8)(hr:fy w0 v l)(hb:aW w0 w)(hl:l.length<65536)(f:Nat)(eg:∀args w,(callFunc f args).run ah w=.ok (.enter f args) w)(h:gj w0.heap.size b D w){M:Nat}(hM:M≤800000000)(hlen:D.length+2+(l.flatMap fb).length≤M)(hf:∀x∈l,∀W D',Below w0.heap.size w W→gj w0.heap.size b D' W→D'.length≤M→w0.heap.size≤W.heap.size→Calls ah f #[.pointer (some ⟨b,0,none⟩),.agg (bF x).toArray] W (Put w0.heap.size b D' (fb x) W)):Calls ah 28 #[.pointer (some ⟨b,0,none⟩),v,.func (.func f) #[.pointer (some ⟨b,0,none⟩)] #[]] w (Put w0.heap.size b D (bT fb l) w):=by
 obtain⟨A,cap,rfl⟩:=aY.shape hr;unfold bT;rw[←jS fb Ry.none_ l]at hlen⊢;exact KB hM hl (fun k=>l.getD k Ry.none_) (fun k=>fb (l.getD k Ry.none_)) (sB bF 6 bH Ry.none_ (aY.below hr hb)) (qk aH hr) f eg h hb.size hlen fun k hk W D' h1 h2 h3 h4=>hf _ (getD_mem _ hk) W D' h1 h2 h3 h4
theorem one_byte(u:World)(n:Nat)(hn:n<256):(convert 67 9 (.slice (some ⟨u.heap.size,0,none⟩) 1 1)).run ah (u.alloc (.cells #[.int .u8 n] 5))=.ok (.string (be 1 n)) (u.alloc (.cells #[.int .u8 n] 5)):=by
 have hback:=run_convert_bytes_back (P:=ah) (u.alloc (.cells #[.int .u8 n] 5)) 67 9 5 ⟨u.heap.size,0,none⟩ 1 (fF 1 n) cR cB bn (fun j hj=>by
  rw[aP]at hj;obtain rfl:j=0:=by omega
  have h0:=(aG.new u 5 #[.int .u8 n]).cell 0;have hv:((fF 1 n)[0]'(by rw[aP];omega)).toNat=n:=by
   simp[fF];omega
  simp only[hv];exact h0)
 rw[aP]at hback;exact hback
theorem sD{B b:Nat}{D:List UInt8}{w:World}(r:Ry)(oi:r.id<256)(ok:zC r.fin.1)(op:r.fin.2<65536)(hk:r.key.size≤1000000)(h:gj B b D w)(hlen:D.length≤800000000)(hBw:B≤w.heap.size):Calls ah 29 #[.pointer (some ⟨b,0,none⟩),.agg (bF r).toArray] w (Put B b D (qR r) w):=by
 have hone:=fun u=>one_byte u r.id oi
 have hkl:r.key.data.toList.length=r.key.size:=by rw[Array.length_toList,ByteArray.size_data]
 have hput:=fun u(hu:aW w u)=>fK (w:=u) [be 1 r.id,r.key] (h.below hu) (by simp) (by rw[ez,bZ,ai,aP,hkl];omega) (aw hBw hu.size) 2 rfl
 have hend:=fun u(hu:B≤u.heap.size)(hp:gj B b (D++fD [be 1 r.id,r.key]) u)=>yg r.fin ok op hp (by rw[ez,bZ,ai,ai,aP,hkl];omega) hu
 have fZ:ag (w.heap.size≠b):=ae (by have:=h.lt;omega);obtain⟨X,hX⟩:=bq (qR r);rw[←hX];have hX2:D++fD [be 1 r.id,r.key]++F7 r.fin=D++X:=by rw[hX,ez,bZ];unfold qR;simp only[aO]
 have HX:=ae hX2;have hb1:=boxed w (.cells (bF r).toArray 57);obtain⟨HP,HB1,HB⟩:=bu (aG.new w 57 (bF r).toArray) hb1 hBw;generalize fD [be 1 r.id,r.key]=Y at hput hend hX2 HX;unfold Put at hend⊢;obtain⟨id,key,⟨⟨v,hi,lo⟩,po⟩⟩:=r;unfold cD at hend;unfold bF at HP HB1⊢;simp only at*;obtain⟨Z8,jh,KE⟩:=bu hone hput hend;clear hput hend hX hX2 hb1 h hBw ok op hk hkl oi;go_enter Tryz.func29,Tryz.ntmps29;go_upto_region 1 with fail
 generalize w.alloc (.cells #[.int .u8 id,.string key,.bool v,.int .u64 hi,.int .u64 lo,.int .u16 po] 57)=w1 at HP HB1⊢;generalize w.heap.size=P at HP fZ⊢;obtain⟨a0,a1⟩:=jL HP;have ae8:=hone w1;have u1:=boxed w1 (.cells #[.int .u8 id] 5);have b1:=ak a1 u1;have hp1:=jh.out _ (after HB1.out u1);rw[show(w1.alloc (.cells #[.int .u8 id] 5)).heap.size=w1.heap.size+1 by simp]at hp1;simp only[i6,List.map_nil]at hp1;have mI:=ae hp1;clear hone hp1;go_upto_region 2 with(go_at_call 24;refine mI.out.mono ?_;rintro r w2⟨rfl,p2,k2⟩)
 have HP2:=ae (k2.kept _ _ _ (bJ HP u1) fZ.out aH);obtain⟨-,-,c2,c3,c4,c5⟩:=wZ HP2;have hw2:=aw HB.out (aw (after HB1.out u1).size k2.below.size);obtain⟨HE2,lN⟩:=aN (KE.out w2 hw2 p2) (k2.low HB.out (after HB1.out u1));clear a0 a1 b1 ae8 u1 hw2 k2 p2;go_wp2_with(go_at_call 85;refine HE2.out.mono ?_;rintro r w3⟨rfl,p3,k3⟩;rw[HX.out]at p3)
 go_end0
 exact⟨rfl,p3,lN.out.trans k3⟩
def bU.none_:bU:=⟨⟨⟨#[]⟩,⟨#[]⟩,⟨#[]⟩,[],[],0,0,[]⟩,au,au,au⟩
theorem AP{b:Nat}{D:List UInt8}{w0 w:World}{v:Value}{xs:List bU}(fb:Pr→List UInt8)(hr:aY w0 v xs.length 8 (cZ xs))(hx:∀X∈xs,fC w0 X)(hb:aW w0 w)(hl:xs.length<65536)(f:Nat)(eg:∀args w,(callFunc f args).run ah w=.ok (.enter f args) w)(h:gj w0.heap.size b D w){M:Nat}(hM:M≤800000000)(hlen:D.length+2+((xs.map (·.p)).flatMap fb).length≤M)(hf:∀X∈xs,∀W D',Below w0.heap.size w W→gj w0.heap.size b D' W→D'.length≤M→w0.heap.size≤W.heap.size→Calls ah f #[.pointer (some ⟨b,0,none⟩),.agg X.vals.toArray] W (Put w0.heap.size b D' (fb X.p) W)):Calls ah 26 #[.pointer (some ⟨b,0,none⟩),v,.func (.func f) #[.pointer (some ⟨b,0,none⟩)] #[]] w (Put w0.heap.size b D (bT fb (xs.map (·.p))) w):=by
 obtain⟨A,cap,rfl⟩:=hr.shape;unfold bT;rw[ay,List.flatMap_map]at*;rw[←jS (fun X:bU=>fb X.p) bU.none_ xs]at hlen⊢;exact KC hM hl (fun k=>xs.getD k bU.none_) (fun k=>fb (xs.getD k bU.none_).p) (sB bU.vals 8 aC bU.none_ (hr.below hb)) (qk aH hr) f eg
  (fun k hk=>by
    have hm:=hx _ (getD_mem bU.none_ hk);obtain⟨A1,c1,e1⟩:=hm.tags.shape;obtain⟨A2,c2,e2⟩:=hm.aR.shape;obtain⟨A3,c3,e3⟩:=hm.ends.shape;exact⟨A1,_,c1,A2,_,c2,A3,_,c3,e1,e2,e3⟩)
  h hb.size hlen fun k hk W D' h1 h2 h3 h4=>hf _ (getD_mem _ hk) W D' h1 h2 h3 h4
theorem KG{B b:Nat}{D:List UInt8}{w:World}(h:gj B b D w):Calls ah 87 #[.pointer (some ⟨b,0,none⟩)] w fun r w'=>r=.returned (.int .i64 (D.length:Int))∧w'=w:=by
 obtain⟨p,hB,v,hbk,hown,hne⟩:∃p,Lib.BuilderAt 71 5 B b p (Lib.byteCells D) w:=by
  rcases h with h|h
  ·exact⟨_,h⟩
  ·exact⟨_,h⟩
 rw[Lib.byteCells_length]at hown;obtain⟨A,cap,rfl⟩:∃A cap,v=.slice A D.length cap:=by
  rcases hown.2 with⟨rfl,hz⟩|⟨g,cap,cur,hv,r⟩
  ·exact⟨none,0,by rw[hz]⟩
  ·exact⟨_,_,hv⟩
 have c1:w.cell? ⟨b,1,none⟩=some (.slice A D.length cap):=by rw[Lib.cell_of_heap hbk];rfl
 generalize D.length=N at*;clear hbk hown hne;go_enter Tryz.func87,Tryz.ntmps87;go_wp2_with fail
 go_ret;exact⟨rfl,rfl⟩
theorem zH{B b:Nat}{l:List UInt8}{w:World}(h:gj B b l w)(h0:l≠[]):Calls ah 88 #[.pointer (some ⟨b,0,none⟩)] w fun r w'=>r=.returned (.string ⟨l.toArray⟩)∧Below B w w':=by
 obtain⟨p,hB,v,hbk,hown,hne⟩:∃p,Lib.BuilderAt 71 5 B b p (Lib.byteCells l) w:=by
  rcases h with h|h
  ·exact⟨_,h⟩
  ·exact⟨_,h⟩
 have hl0:l.length≠0:=by simpa using h0
 rw[Lib.byteCells_length]at hown;obtain⟨g,cap,cur,rfl,hbg,hg,hnc,hcm,hcs,htake⟩:∃g cap cur,v=.slice (some ⟨g,0,none⟩) l.length cap∧B≤g∧w.heap[g]? =some (.cells cur 5 (0,0))∧l.length≤cap∧cap≤maxLen∧cur.size=cap*1∧cur.toList.take (l.length*1)=Lib.byteCells l:=by
  rcases hown.2 with⟨_,hz⟩|⟨g,cap,cur,hv,r⟩
  ·exact absurd hz hl0
  ·exact⟨g,cap,cur,hv,r⟩
 have c1:w.drew.cell? ⟨b,1,none⟩=some (.slice (some ⟨g,0,none⟩) l.length cap):=by
  have:w.drew.heap[b]? =some (.cells #[p,.slice (some ⟨g,0,none⟩) l.length cap] 71 (0,0)):=hbk;rw[Lib.cell_of_heap this];rfl
 have hSD:(Builtin.unsafeSliceData_ #[67] 178 #[.slice (some ⟨g,0,none⟩) l.length cap]).run ah w.drew=.ok (.pointer (some ⟨g,0,none⟩)) w.drew:=Lib.run_unsafeSliceData_row _ _ _ _ _ _ aQ;have hUS:(Builtin.unsafeString_ #[178,3] 9 #[.pointer (some ⟨g,0,none⟩),.int .i64 l.length]).run ah w.drew=.ok (.string ⟨l.toArray⟩) (w.drew.freeze ⟨g,0,none⟩ l.length):=by
  refine Lib.run_unsafeString_row w.drew 178 3 9 5 Tryz.underlying178 bo g cur.size (by have hg':w.drew.heap[g]? =some (.cells cur 5 (0,0)):=hg;simp[World.shape?,hg']) l h0 aQ (by unfold maxLen at hcm;omega) ?_;intro j x hx;have:=hown.cells (g:=g) rfl j (.int .u8 x.toNat) (by simp[Lib.byteCells,hx]);exact this
 have mixed:ah.follows Departure.mixedOrders=true:=by kernel_rfl
 generalize l.length=N at*;generalize(⟨l.toArray⟩:ByteArray)=T at*;clear hbk hown hne hg htake hcs h0 hl0;go_enter Tryz.func88,Tryz.ntmps88;go_wp2_with fail
 go_region_o
 all_goals(go_wp2_with fail;go_ret;exact⟨rfl,Lib.below_freeze (Below.drew (aM B w)) (p:=⟨g,0,none⟩) hbg _⟩)
theorem sE{B b:Nat}{D:List UInt8}{w:World}(h:gj B b D w)(h0:D≠[]):Calls ah 31 #[.pointer (some ⟨b,0,none⟩)] w fun r w'=>(∃(t:ByteArray)(e:Nat),(t,e)=(if 32768<D.length then((⟨#[]⟩:ByteArray),4)else(gJ D,0))∧r=.returned (.tuple #[.string t,.int .i64 e]))∧Below B w w':=by
 have hl:=KG h;have hs:=zH h h0;rw[show(⟨D.toArray⟩:ByteArray)=gJ D from rfl]at hs;obtain⟨R,hR⟩:=bq ((if 32768<D.length then((⟨#[]⟩:ByteArray),4)else(gJ D,0)));rw[←hR];generalize gJ D=T at hs hR;generalize D.length=N at hl hR;obtain⟨HL,HS⟩:=aN hl hs;clear hl hs h h0;go_enter Tryz.func31,Tryz.ntmps31;by_cases k1:32768<N
 ·have q1:(32768:Int)<(N:Int):=by omega
  rw[if_pos k1]at hR;have HR:=ae hR;clear hR;go_wp2_with(go_at_call 87;refine HL.out.mono ?_;rintro r w1⟨rfl,rfl⟩)
  go_ret2;exact⟨⟨_,4,HR.out.symm,rfl⟩,aM _ _⟩
 ·have q1:¬(32768:Int)<(N:Int):=by omega
  rw[if_neg k1]at hR;have HR:=ae hR;clear hR;go_wp2_with(first
   |(go_at_call 87;refine HL.out.mono ?_;rintro r w1⟨rfl,rfl⟩)
   |(go_at_call 88;refine HS.out.mono ?_;rintro r w2⟨rfl,d2⟩))
  go_ret2;exact⟨⟨_,0,HR.out.symm,rfl⟩,d2⟩
theorem tX{B b:Nat}{w W:World}(_h:Wrote B b w W)(cs:Array Value)(t:TypeId):aG (W.alloc (.cells cs t)) W.heap.size t cs:=aG.new W t cs
theorem yi{W:World}{g n:Nat}(h:aG W g 5 #[.int .u8 n])(hn:n<256):(convert 67 9 (.slice (some ⟨g,0,none⟩) 1 1)).run ah W=.ok (.string (be 1 n)) W:=by
 have hback:=run_convert_bytes_back (P:=ah) W 67 9 5 ⟨g,0,none⟩ 1 (fF 1 n) cR cB bn (fun j hj=>by
  rw[aP]at hj;obtain rfl:j=0:=by omega
  have h0:=h.cell 0;have hv:((fF 1 n)[0]'(by rw[aP];omega)).toNat=n:=by
   simp[fF];omega
  simp only[hv];exact h0)
 rw[aP]at hback;exact hback
theorem vj{b:Nat}{D:List UInt8}{w0 w:World}{X:bU}(hX:fC w0 X)(ok:Ko X.p)(hb:aW w0 w)(h:gj w0.heap.size b D w)(hlen:D.length+(qB X.p).length≤700000000):Calls ah 27 #[.pointer (some ⟨b,0,none⟩),.agg X.vals.toArray] w (Put w0.heap.size b D (qB X.p) w):=by
 have hsum:(qB X.p).length=X.p.key.data.toList.length+(X.p.bw.data.toList.length+((oJ X.p.user).length+((bT oJ X.p.tags).length+((bT zh X.p.aR).length+(8+(1+(bT F7 X.p.ends).length)))))):=by
  unfold qB;simp only[ai,aP]
 have htl:(bT oJ X.p.tags).length=2+(X.p.tags.flatMap oJ).length:=by unfold bT;rw[ai,aP]
 have hal:(bT zh X.p.aR).length=2+(X.p.aR.flatMap zh).length:=by unfold bT;rw[ai,aP]
 have hel:(bT F7 X.p.ends).length=2+(X.p.ends.flatMap F7).length:=by unfold bT;rw[ai,aP]
 obtain⟨D1,hD1⟩:=bq (D++fD [X.p.key,X.p.bw]);obtain⟨D2,hD2⟩:=bq (D1++oJ X.p.user);obtain⟨D3,hD3⟩:=bq (D2++bT oJ X.p.tags);obtain⟨D4,hD4⟩:=bq (D3++bT zh X.p.aR);have l1:D1.length=D.length+(X.p.key.data.toList.length+X.p.bw.data.toList.length):=by rw[hD1,ez];simp only[ai]
 have l2:D2.length=D1.length+(oJ X.p.user).length:=by rw[hD2,ai]
 have l3:D3.length=D2.length+(bT oJ X.p.tags).length:=by rw[hD3,ai]
 have l4:D4.length=D3.length+(bT zh X.p.aR).length:=by rw[hD4,ai]
 have l5:D4.length+9≤700000000:=by omega
 have hput:=fun u(hu:aW w u)=>fK (w:=u) [X.p.key,X.p.bw] (h.below hu) (by simp) (by rw[ez,ai];omega) (aw hb.size hu.size) 2 rfl
 rw[←hD1]at hput;have htx:=fun u(hu:w0.heap.size≤u.heap.size)(hp:gj w0.heap.size b D1 u)=>lY X.p.user ok.user hp aQ hu
 have hts:=fun u(hu:aW w0 u)(hp:gj w0.heap.size b D2 u)=>Vt oJ hX.tags hu ok.tags.1 30 (enters_of Tryz.func30 bo rfl) hp (aA 800000000) aQ fun x hx W D' h1 h2 h3 h4=>lY x (ok.tags.2 x hx) h2 aQ h4
 have has:=fun u(hu:aW w0 u)(hp:gj w0.heap.size b D3 u)=>QM zh hX.aR hu ok.aR.1 83 (enters_of Tryz.func83 bo rfl) hp (aA 800000000) aQ fun x hx W D' h1 h2 h3 h4=>ve x (ok.aR.2 x hx) h2 aQ h4
 have hes:=fun u D5(hl:D5.length=D4.length+9)(hu:aW w0 u)(hp:gj w0.heap.size b D5 u)=>QN F7 hX.ends hu ok.ends.1 85 (enters_of Tryz.func85 bo rfl) hp (aA 800000000) aQ fun x hx W D' h1 h2 h3 h4=>yg x (ok.ends.2 x hx).1 (ok.ends.2 x hx).2 h2 aQ h4
 have fZ:ag (w.heap.size≠b):=ae (by have:=h.lt;omega);obtain⟨HW0,HD2,HD3,HD4⟩:=cY hb hD2 hD3 hD4;have hoe:=ok.exp;have hor:=ok.bm;obtain⟨R,hR⟩:=bq (D++qB X.p);have hR2:R=D4++fD [be 8 X.p.exp,be 1 X.p.bm]++bT F7 X.p.ends:=by
  rw[hR,hD4,hD3,hD2,hD1,ez,ez,bZ,bZ];unfold qB;simp only[aO]
 unfold Put at htx hts has hes⊢;rw[←hR];have HR:=ae hR2;obtain⟨A1,c1,e1⟩:=hX.tags.shape;obtain⟨A2,c2,e2⟩:=hX.aR.shape;obtain⟨A3,c3,e3⟩:=hX.ends.shape;clear hsum htl hal hel l1 l2 l3 hD1 hD2 hD3 hD4 hR hR2 hX ok h hlen hb;obtain⟨⟨key,bw,user,tags,aR,ex,bm,ends⟩,tv,av,ev⟩:=X;simp only at*;subst e1 e2 e3;unfold bU.vals;simp only;generalize bT oJ tags=LT at*;generalize bT zh aR=LA at*;generalize bT F7 ends=LE at*;generalize oJ user=TU at*;generalize tags.length=NT at*;generalize aR.length=NA at*;generalize ends.length=NE at*;obtain⟨jh,HTx,HTs,HAs,HEs⟩:=ej hput htx hts has hes;clear hput htx hts has hes;obtain⟨HB1,HP⟩:=aN (boxed w (.cells #[.string key,.string bw,.string user,.slice A1 NT c1,.slice A2 NA c2,.int .u64 ex,.int .u8 bm,.slice A3 NE c3] 50)) (aG.new w 50 #[.string key,.string bw,.string user,.slice A1 NT c1,.slice A2 NA c2,.int .u64 ex,.int .u8 bm,.slice A3 NE c3]);go_enter Tryz.func27,Tryz.ntmps27;go_upto_region 1 with fail
 generalize w.alloc (.cells #[.string key,.string bw,.string user,.slice A1 NT c1,.slice A2 NA c2,.int .u64 ex,.int .u8 bm,.slice A3 NE c3] 50)=w1 at HB1 HP⊢;generalize w.heap.size=P at HP fZ⊢;obtain⟨a0,a1⟩:=jL HP;have hp1:=jh.out w1 HB1.out;simp only[i6,List.map_nil]at hp1;have mI:=ae hp1;clear hp1;go_upto_region 2 with(go_at_call 24;refine mI.out.mono ?_;rintro r w2⟨rfl,p2,k2⟩)
 have HB0:=ae (HW0.out.trans (HB1.out.mono HW0.out.size));have Z9:=ae (k2.kept _ _ _ HP.out fZ.out aH);have HW2:=ae (HB0.out.trans k2.below);obtain⟨HT2,lN⟩:=aN (HTx.out w2 HW2.out.size p2) (k2.low HW0.out.size HB1.out);obtain⟨-,-,b2⟩:=jf Z9;clear a0 a1 k2 p2 HP HB1 mI;go_upto_region 3 with(go_at_call 30;refine HT2.out.mono ?_;rintro r w3⟨rfl,p3,k3⟩;rw[←HD2.out]at p3)
 have yj:=ae (k3.kept _ _ _ Z9.out fZ.out aH);have HW3:=ae (HW2.out.trans k3.below);obtain⟨HT3,j8⟩:=aN (HTs.out w3 HW3.out p3) (lN.out.trans k3);obtain⟨-,-,-,b3⟩:=dV yj;clear b2 k3 p3 Z9 HW2 HT2 lN;go_upto_region 4 with(go_at_call 44;refine HT3.out.mono ?_;rintro r w4⟨rfl,p4,k4⟩;rw[←HD3.out]at p4)
 have Ns:=ae (k4.kept _ _ _ yj.out fZ.out aH);have HW4:=ae (HW3.out.trans k4.below);obtain⟨HT4,AN⟩:=aN (HAs.out w4 HW4.out p4) (j8.out.trans k4);obtain⟨-,-,-,-,b4⟩:=ID Ns;clear b3 k4 p4 yj HW3 HT3 j8;go_upto_region 5 with(go_at_call 82;refine HT4.out.mono ?_;rintro r w5⟨rfl,p5,k5⟩;rw[←HD4.out]at p5)
 have Yg:=ae (k5.kept _ _ _ Ns.out fZ.out aH);obtain⟨FW,Ei,Cc⟩:=bu (HW4.out.trans k5.below) (AN.out.trans k5) p5;obtain⟨-,-,-,-,-,b5,b6⟩:=adU Yg;clear b4 k5 p5 Ns HW4 HT4 AN;have hu64:=fun u=>rE ex aQ u
 have HU:=ae hu64;have Hor:ag (bm<256):=ae aQ;have hpn:=Cc.out.below (Below.drew (aM _ w5));clear hu64;refine wp_region_held_drew (S:=(fun w'=>Wrote w0.heap.size b w5 w'∧w'.cell? ⟨P,5,none⟩=some (.int .u64 ex)∧w'.cell? ⟨P,6,none⟩=some (.int .u8 bm))) bo (⟨Wrote.of FW.out.size (Below.drew (aM _ _)),b5,b6⟩) (fun hHeld=>?_);refine bC 0 ?_
 refine bC 1 ?_
 refine bC 2 ?_
 refine bC 4 ?_
 refine bC 5 ?_
 refine wpAnyH_ready (rs:=[3,6]) bo (by simp) ?_;refine AllReadyH.cons rfl (fun K hK=>?_) (AllReadyH.cons rfl (fun K hK=>?_) AllReadyH.nil)
 ·go_simp;refine(HU.out _).mono ?_;rintro r wb⟨rfl,db⟩
  (try have hsb:=aG.below hsb db (aG.lt hsb))
  (try have hone:=yi hsb Hor.out)
  have hpn:=hpn.below db;refine hK.out _ _ (⟨hHeld.1.trans (Wrote.of (aw FW.out.size hHeld.1.below.size) db),ak hHeld.2.1 db,ak hHeld.2.2 db⟩) (fun hHeld=>?_);clear hK K;try simp only[cN]
  refine jg 6 fun K hK=>?_;go_simp;have hsb:=tX hHeld.1 #[.int .u8 bm] 5;have hone:=yi hsb Hor.out;have hpn:=hpn.below (boxed _ (.cells #[.int .u8 bm] 5));refine hK.out _ _ (⟨hHeld.1.trans (Wrote.of (aw FW.out.size hHeld.1.below.size) (boxed _ _)),ak hHeld.2.1 (boxed _ _),ak hHeld.2.2 (boxed _ _)⟩) (fun hHeld=>?_);clear hK K;try simp only[cN]
  refine jg 7 fun K hK=>?_;go_simp
  (try(first|rw[hone]|erw [hone]))
  (try simp only[Result.andThen])
  (try rw[Oper.upon_value])
  refine hK.out _ _ (hHeld) (fun hHeld=>?_);clear hK K;try simp only[cN]
  refine jg 8 fun K hK=>?_;go_simp;have hst:=tX hHeld.1 #[.string (be 8 ex),.string (be 1 bm)] 9;have hge:=hpn.lt;have hpn:=hpn.below (boxed _ (.cells #[.string (be 8 ex),.string (be 1 bm)] 9));refine hK.out _ _ (⟨hHeld.1.trans (Wrote.of (aw FW.out.size hHeld.1.below.size) (boxed _ _)),ak hHeld.2.1 (boxed _ _),ak hHeld.2.2 (boxed _ _)⟩) (fun hHeld=>?_);clear hK K;try simp only[cN]
  refine jg 9 fun K hK=>?_;go_simp;refine(put_any [be 8 ex,be 1 bm] hpn (by first|exact hst|simpa using hst) (by first|omega|(simp at hge⊢;omega)) (by simp) (by rw[ez,bZ,bZ,ai,aP,aP];omega) (aw FW.out.size hHeld.1.below.size) 2 rfl).mono ?_;rintro r w6⟨rfl,p6,k6⟩;have hQ6:=(hHeld.1.trans k6).kept _ _ _ Yg.out fZ.out aH;have Vu:=hHeld.1.trans k6;refine hK.out _ _ (⟨hHeld.1.trans k6,hQ6.cell 5,hQ6.cell 6⟩) (fun hHeld=>?_);clear hK K;try simp only[cN]
  refine qW ?_;have h7:=hQ6.cell 7;simp at h7;have Vv:=ae (HEs.out w6 _ (by rw[ai,ez,bZ,bZ,ai,aP,aP]) (FW.out.trans Vu.below) p6);have tI:=ae (Ei.out.trans Vu);clear hQ6 Vu k6 p6 hst hsb hone hpn hge hHeld;go_wp2_with(go_at_call 84;refine Vv.out.mono ?_;rintro r w7⟨rfl,p7,k7⟩;rw[←HR.out]at p7)
  go_end0
  exact⟨rfl,p7,tI.out.trans k7⟩
 ·go_simp;have hsb:=tX hHeld.1 #[.int .u8 bm] 5;have hone:=yi hsb Hor.out;have hpn:=hpn.below (boxed _ (.cells #[.int .u8 bm] 5));refine hK.out _ _ (⟨hHeld.1.trans (Wrote.of (aw FW.out.size hHeld.1.below.size) (boxed _ _)),ak hHeld.2.1 (boxed _ _),ak hHeld.2.2 (boxed _ _)⟩) (fun hHeld=>?_);clear hK K;try simp only[cN]
  refine wpAnyH_ready (rs:=[3,7]) bo (by simp) ?_;refine AllReadyH.cons rfl (fun K hK=>?_) (AllReadyH.cons rfl (fun K hK=>?_) AllReadyH.nil)
  ·go_simp;refine(HU.out _).mono ?_;rintro r wb⟨rfl,db⟩
   (try have hsb:=aG.below hsb db (aG.lt hsb))
   (try have hone:=yi hsb Hor.out)
   have hpn:=hpn.below db;refine hK.out _ _ (⟨hHeld.1.trans (Wrote.of (aw FW.out.size hHeld.1.below.size) db),ak hHeld.2.1 db,ak hHeld.2.2 db⟩) (fun hHeld=>?_);clear hK K;try simp only[cN]
   refine jg 7 fun K hK=>?_;go_simp
   (try(first|rw[hone]|erw [hone]))
   (try simp only[Result.andThen])
   (try rw[Oper.upon_value])
   refine hK.out _ _ (hHeld) (fun hHeld=>?_);clear hK K;try simp only[cN]
   refine jg 8 fun K hK=>?_;go_simp;have hst:=tX hHeld.1 #[.string (be 8 ex),.string (be 1 bm)] 9;have hge:=hpn.lt;have hpn:=hpn.below (boxed _ (.cells #[.string (be 8 ex),.string (be 1 bm)] 9));refine hK.out _ _ (⟨hHeld.1.trans (Wrote.of (aw FW.out.size hHeld.1.below.size) (boxed _ _)),ak hHeld.2.1 (boxed _ _),ak hHeld.2.2 (boxed _ _)⟩) (fun hHeld=>?_);clear hK K;try simp only[cN]
   refine jg 9 fun K hK=>?_;go_simp;refine(put_any [be 8 ex,be 1 bm] hpn (by first|exact hst|simpa using hst) (by first|omega|(simp at hge⊢;omega)) (by simp) (by rw[ez,bZ,bZ,ai,aP,aP];omega) (aw FW.out.size hHeld.1.below.size) 2 rfl).mono ?_;rintro r w6⟨rfl,p6,k6⟩;have hQ6:=(hHeld.1.trans k6).kept _ _ _ Yg.out fZ.out aH;have Vu:=hHeld.1.trans k6;refine hK.out _ _ (⟨hHeld.1.trans k6,hQ6.cell 5,hQ6.cell 6⟩) (fun hHeld=>?_);clear hK K;try simp only[cN]
   refine qW ?_;have h7:=hQ6.cell 7;simp at h7;have Vv:=ae (HEs.out w6 _ (by rw[ai,ez,bZ,bZ,ai,aP,aP]) (FW.out.trans Vu.below) p6);have tI:=ae (Ei.out.trans Vu);clear hQ6 Vu k6 p6 hst hsb hone hpn hge hHeld;go_wp2_with(go_at_call 84;refine Vv.out.mono ?_;rintro r w7⟨rfl,p7,k7⟩;rw[←HR.out]at p7)
   go_end0
   exact⟨rfl,p7,tI.out.trans k7⟩
  ·go_simp
   (try(first|rw[hone]|erw [hone]))
   (try simp only[Result.andThen])
   (try rw[Oper.upon_value])
   refine hK.out _ _ (hHeld) (fun hHeld=>?_);clear hK K;try simp only[cN]
   refine jg 3 fun K hK=>?_;go_simp;refine(HU.out _).mono ?_;rintro r wb⟨rfl,db⟩
   (try have hsb:=aG.below hsb db (aG.lt hsb))
   (try have hone:=yi hsb Hor.out)
   have hpn:=hpn.below db;refine hK.out _ _ (⟨hHeld.1.trans (Wrote.of (aw FW.out.size hHeld.1.below.size) db),ak hHeld.2.1 db,ak hHeld.2.2 db⟩) (fun hHeld=>?_);clear hK K;try simp only[cN]
   refine jg 8 fun K hK=>?_;go_simp;have hst:=tX hHeld.1 #[.string (be 8 ex),.string (be 1 bm)] 9;have hge:=hpn.lt;have hpn:=hpn.below (boxed _ (.cells #[.string (be 8 ex),.string (be 1 bm)] 9));refine hK.out _ _ (⟨hHeld.1.trans (Wrote.of (aw FW.out.size hHeld.1.below.size) (boxed _ _)),ak hHeld.2.1 (boxed _ _),ak hHeld.2.2 (boxed _ _)⟩) (fun hHeld=>?_);clear hK K;try simp only[cN]
   refine jg 9 fun K hK=>?_;go_simp;refine(put_any [be 8 ex,be 1 bm] hpn (by first|exact hst|simpa using hst) (by first|omega|(simp at hge⊢;omega)) (by simp) (by rw[ez,bZ,bZ,ai,aP,aP];omega) (aw FW.out.size hHeld.1.below.size) 2 rfl).mono ?_;rintro r w6⟨rfl,p6,k6⟩;have hQ6:=(hHeld.1.trans k6).kept _ _ _ Yg.out fZ.out aH;have Vu:=hHeld.1.trans k6;refine hK.out _ _ (⟨hHeld.1.trans k6,hQ6.cell 5,hQ6.cell 6⟩) (fun hHeld=>?_);clear hK K;try simp only[cN]
   refine qW ?_;have h7:=hQ6.cell 7;simp at h7;have Vv:=ae (HEs.out w6 _ (by rw[ai,ez,bZ,bZ,ai,aP,aP]) (FW.out.trans Vu.below) p6);have tI:=ae (Ei.out.trans Vu);clear hQ6 Vu k6 p6 hst hsb hone hpn hge hHeld;go_wp2_with(go_at_call 84;refine Vv.out.mono ?_;rintro r w7⟨rfl,p7,k7⟩;rw[←HR.out]at p7)
   go_end0
   exact⟨rfl,p7,tI.out.trans k7⟩
theorem Nu{B:Nat}{w:World}(hB:B≤w.heap.size):gj B w.heap.size [] (w.alloc (.cells #[.pointer none,au] 71)):=Or.inl ⟨hB,au,aG.new w _ _,⟨rfl,Or.inl ⟨rfl,rfl⟩⟩,by simp[Value.ownBlock]⟩
theorem lu{w:World}(env:Env w){pv rv:Value}{m:Mp}(hp:dJ w pv m.aK)(hr:fy w rv m.ax)(fit:kM m)(sz:∀p∈m.aK,gm p)(hpl:m.aK.length≤4000000)(hrl:m.ax.length≤4000000)(hol:m.policy.size≤2000000)(hml:jv m=true→(uU m).length≤80000000):Calls ah 7 #[.agg #[.int .u64 (m.version:Int),pv,rv,.string m.policy]] w fun r w'=>(∃(t:ByteArray)(e:Nat),(t,e)=cT m∧r=.returned (.tuple #[.string t,.int .i64 e]))∧aW w w':=by
 have hmay:=fun u(hu:aW w u)=>Vs (env.below hu) (hp.below hu) (aY.below hr hu) fit sz hpl hrl hol
 obtain⟨xs,hxs,hrow,hx⟩:=hp;cases hm:jv m with
 |false=>
  have hR:cT m=(⟨#[]⟩,220):=by unfold cT encR;rw[if_pos hm]
  rw[hm]at hmay;rw[hR];obtain⟨Ap,cp,rfl⟩:=hrow.shape;obtain⟨Ar,cr,rfl⟩:=aY.shape hr;obtain⟨version,aK,ax,policy⟩:=m;simp only at*;generalize ax.length=NR at*;generalize xs.length=NP at*;obtain⟨vK,HB,HM⟩:=bu hmay (boxed w (.cells #[.int .u64 version,.slice Ap NP cp,.slice Ar NR cr,.string policy] 26)) (aG.new w 26 #[.int .u64 version,.slice Ap NP cp,.slice Ar NR cr,.string policy]);clear hmay hrow hx hr fit sz hpl hrl hol hml env hm hR hxs;go_enter Tryz.func7,Tryz.ntmps7;go_upto_region 1 with fail
  generalize w.alloc (.cells #[.int .u64 version,.slice Ap NP cp,.slice Ar NR cr,.string policy] 26)=w1 at HB HM⊢;generalize w.heap.size=P at HM⊢;obtain⟨m0,m1,m2,m3⟩:=dV HM;go_wp2_with(go_at_call 23;refine(vK.out _ HB.out).mono ?_;rintro r w2⟨rfl,d2⟩)
  go_ret2;exact⟨⟨_,220,rfl,rfl⟩,after HB.out d2⟩
 |true=>
  have hml:=hml hm;have ok:=U8 fit hm;have hR:cT m=(if 32768<(uU m).length then((⟨#[]⟩:ByteArray),4)else(gJ (uU m),0)):=by unfold cT encR;rw[if_neg (by simp[hm])]
  rw[hm]at hmay;have hsum:(uU m).length=8+((bT qB m.aK).length+((bT qR m.ax).length+(oJ m.policy).length)):=by
   unfold uU;simp only[ai,aP]
  have hpl2:(bT qB m.aK).length=2+(m.aK.flatMap qB).length:=by unfold bT;rw[ai,aP]
  have hrl2:(bT qR m.ax).length=2+(m.ax.flatMap qR).length:=by unfold bT;rw[ai,aP]
  have hone:∀X∈xs,(qB X.p).length≤(m.aK.flatMap qB).length:=fun X hX=>by
   rw[←hxs,List.flatMap_map];exact List.Sublist.length_le (List.sublist_flatten_of_mem (eC hX))
  obtain⟨D1,hD1⟩:=bq (fF 8 m.version);obtain⟨D2,hD2⟩:=bq (D1++bT qB m.aK);obtain⟨D3,hD3⟩:=bq (D2++bT qR m.ax);obtain⟨D4,hD4⟩:=bq (D3++oJ m.policy);have hD:uU m=D4:=by rw[hD4,hD3,hD2,hD1];unfold uU;simp only[aO]
  have l1:D1.length=8:=by rw[hD1,aP]
  have l2:D2.length=D1.length+(bT qB m.aK).length:=by rw[hD2,ai]
  have l3:D3.length=D2.length+(bT qR m.ax).length:=by rw[hD3,ai]
  have h4:D4≠[]:=by
   intro h;have:=congrArg List.length h;rw[hD4,ai,List.length_nil]at this;omega
  have hput:=fun b u(hB:w.heap.size≤u.heap.size)(hp:gj w.heap.size b [] u)=>fK (w:=u) [be 8 m.version] hp (by simp) (by rw[df,bZ,aP];simp) hB 1 rfl
  rw[show([]:List UInt8)++fD [be 8 m.version]=D1 by rw[List.nil_append,df,bZ,hD1]]at hput;have hps:=fun b u(hu:aW w u)(hp:gj w.heap.size b D1 u)=>AP qB hrow hx hu (by have:=ok.aK.1;rw[←hxs,ay]at this;exact this) 27 (enters_of Tryz.func27 bo rfl) hp (show 90000000≤800000000 by decide) (by rw[hxs];omega) fun X hX W D' q1 q2 q3 q4=>vj (hx X hX) (ok.aK.2 _ (by rw[←hxs];exact eC hX)) (hu.trans q1) q2 (by have:=hone X hX;omega)
  rw[hxs]at hps;have hrs:=fun b u(hu:aW w u)(hp:gj w.heap.size b D2 u)=>AO qR hr hu ok.ax.1 29 (enters_of Tryz.func29 bo rfl) hp (show 90000000≤800000000 by decide) aQ fun r hr' W D' q1 q2 q3 q4=>sD r (by have:=(ok.ax.2 r hr').id;omega) (ok.ax.2 r hr').fin.1 (ok.ax.2 r hr').fin.2 (by rw[(ok.ax.2 r hr').key];decide) q2 aQ q4
  have htx:=fun b u(hB:w.heap.size≤u.heap.size)(hp:gj w.heap.size b D3 u)=>lY m.policy ok.policy hp aQ hB
  have hby:=fun b u(hp:gj w.heap.size b D4 u)=>sE hp h4
  rw[hR,hD];generalize(if 32768<D4.length then((⟨#[]⟩:ByteArray),4)else(gJ D4,0))=R at hby⊢;have hu64:=fun u=>rE m.version fit.version u
  unfold Put at hps hrs htx;obtain⟨HD2,HD3,HD4⟩:=bu hD2 hD3 hD4;obtain⟨Ap,cp,rfl⟩:=hrow.shape;obtain⟨Ar,cr,rfl⟩:=aY.shape hr;clear hsum hpl2 hrl2 hone hD1 hD2 hD3 hD4 hD l1 l2 l3 h4 hrow hx hr fit sz hpl hrl hol hml env hm hR ok;obtain⟨version,aK,ax,policy⟩:=m;simp only at*;clear hxs;generalize bT qB aK=LP at*;generalize bT qR ax=LR at*;generalize oJ policy=LT at*;generalize ax.length=NR at*;generalize xs.length=NP at*;obtain⟨vK,jh,zG,HRs,HTx,HBy,HU,HB,HM⟩:=SC hmay hput hps hrs htx hby hu64 (boxed w (.cells #[.int .u64 version,.slice Ap NP cp,.slice Ar NR cr,.string policy] 26)) (aG.new w 26 #[.int .u64 version,.slice Ap NP cp,.slice Ar NR cr,.string policy]);clear hmay hput hps hrs htx hby hu64;go_enter Tryz.func7,Tryz.ntmps7;go_upto_region 1 with fail
  generalize w.alloc (.cells #[.int .u64 version,.slice Ap NP cp,.slice Ar NR cr,.string policy] 26)=w1 at HB HM⊢;generalize hP:w.heap.size=P at HM⊢;obtain⟨m0,m1,m2,m3⟩:=dV HM;go_upto_region 3 with(go_at_call 23;refine(vK.out _ HB.out).mono ?_;rintro r w2⟨rfl,d2⟩)
  have HB2:=aZ HB d2;have pI:=ae (bJ HM d2);clear m0 m1 m2 m3 d2 HB HM;go_upto_region 4 with fail
  have hb3:=boxed w2 (.cells #[.pointer none,au] 71);obtain⟨HN,mJ⟩:=aN (Nu (B:=w.heap.size) HB2.out.size) (bJ pI hb3);have HB3:=aZ HB2 hb3;have fZ:ag (P≠w2.heap.size):=ae (by have:=pI.out.lt;omega);clear hb3 HB2 pI;generalize w2.alloc (.cells #[.pointer none,au] 71)=w3 at HN mJ HB3⊢;generalize w2.heap.size=b at HN fZ⊢;have m0:=mJ.out.cell 0;simp at m0;go_upto_region 5 with(first
   |(go_at_call 25;refine(HU.out _).mono ?_;rintro r w4⟨rfl,d4⟩)
   |(go_at_call 24;(refine(jh.out b w4 (HB3.out.trans (d4.mono HB3.out.size)).size (HN.out.below d4)).mono ?_);rintro r w5⟨rfl,p5,k5⟩))
  have tN:=ae (k5.kept _ _ _ (bJ mJ d4) fZ.out aH);have nw:=ae (HB3.out.trans ((d4.mono HB3.out.size).trans k5.below));have HT5:=ae (zG.out b w5 nw.out p5);obtain⟨-,m1⟩:=jL tN;clear m0 d4 k5 p5 mJ HB3 HN;go_upto_region 6 with(go_at_call 26;refine HT5.out.mono ?_;rintro r w6⟨rfl,p6,k6⟩;rw[←HD2.out]at p6)
  have zd:=ae (k6.kept _ _ _ tN.out fZ.out aH);have kO:=ae (nw.out.trans k6.below);have Vv:=ae (HRs.out b w6 kO.out p6);obtain⟨-,-,m2⟩:=jf zd;clear m1 k6 p6 tN nw HT5;go_upto_region 7 with(go_at_call 28;refine Vv.out.mono ?_;rintro r w7⟨rfl,p7,k7⟩;rw[←HD3.out]at p7)
  have Yh:=ae (k7.kept _ _ _ zd.out fZ.out aH);have uN:=ae (kO.out.trans k7.below);have HT7:=ae (HTx.out b w7 uN.out.size p7);obtain⟨-,-,-,m3⟩:=dV Yh;clear m2 k7 p7 zd kO Vv;go_upto_region 8 with(go_at_call 30;refine HT7.out.mono ?_;rintro r w8⟨rfl,p8,k8⟩;rw[←HD4.out]at p8)
  obtain⟨XY,HT8⟩:=aN (uN.out.trans k8.below) (HBy.out b w8 p8);clear m3 k8 p8 Yh uN HT7;go_wp2_with(go_at_call 31;refine HT8.out.mono ?_;rintro r w9⟨⟨t,e,hte,rfl⟩,b9⟩;have Hte:=ae hte;clear hte)
  go_ret2;exact⟨⟨t,e,Hte.out,rfl⟩,XY.out.trans b9⟩
theorem mX{w:World}(env:Env w){pv rv:Value}{m:Mp}(hp:dJ w pv m.aK)(hr:fy w rv m.ax)(fit:kM m)(sz:∀p∈m.aK,gm p)(hpl:m.aK.length≤4000000)(hrl:m.ax.length≤4000000)(hol:m.policy.size≤2000000)(hml:jv m=true→(uU m).length≤80000000):Calls ah 22 #[.agg #[.int .u64 (m.version:Int),pv,rv,.string m.policy]] w (Got (.int .i64 ((cT m).2:Int)) w):=by
 have he:=fun u(hu:aW w u)=>lu (env.below hu) (hp.below hu) (aY.below hr hu) fit sz hpl hrl hol hml
 obtain⟨Ap,cp,rfl⟩:=hp.shape;obtain⟨Ar,cr,rfl⟩:=aY.shape hr;generalize cT m=R at he⊢;obtain⟨version,aK,ax,policy⟩:=m;simp only at*;generalize ax.length=NR at*;generalize aK.length=NP at*;obtain⟨HE,HB,HM⟩:=bu he (boxed w (.cells #[.int .u64 version,.slice Ap NP cp,.slice Ar NR cr,.string policy] 26)) (aG.new w 26 #[.int .u64 version,.slice Ap NP cp,.slice Ar NR cr,.string policy]);clear he hp hr fit sz hpl hrl hol hml env;go_enter Tryz.func22,Tryz.ntmps22;go_upto_region 1 with fail
 generalize w.alloc (.cells #[.int .u64 version,.slice Ap NP cp,.slice Ar NR cr,.string policy] 26)=w1 at HB HM⊢;generalize w.heap.size=P at HM⊢;obtain⟨m0,m1,m2,m3⟩:=dV HM;go_wp2_with(go_at_call 7;refine(HE.out _ HB.out).mono ?_;rintro r w2⟨⟨t,e,hte,rfl⟩,d2⟩;have Hte:=ae hte;clear hte)
 go_ret;exact⟨by rw[←Hte.out];rfl,after HB.out d2⟩
def keyAt(xs:List bU)(key:ByteArray)(k:Nat):Bool:=match xs[k]? with|some X=>decide (X.p.key=key)|none=>false
theorem Dj{w:World}{v:Value}{xs:List bU}(hr:aY w v xs.length 8 (cZ xs))(hl:xs.length≤4000000)(q:bU→Bool)(f:Nat)(lb:Array Value)(eg:∀args w,(callFunc f args).run ah w=.ok (.enter f args) w)(hf:∀W,aW w W→∀X∈xs,Calls ah f (#[.agg X.vals.toArray]++lb) W (Got (.bool (q X)) W)):Calls ah 105 #[v,.func (.func f) #[] lb] w fun r w'=>(∃z:Int,r=.returned (.int .i64 z)∧Yf (fun k=>match xs[k]? with|some X=>q X|none=>false) xs.length z)∧aW w w':=by
 obtain⟨A,cap,rfl⟩:=hr.shape;refine F6 hl _ _ hr.iQ f lb eg fun k hk W hW=>?_
 have hxk:xs[k]? =some xs[k]:=af hk;rw[show cZ xs=xs.flatMap bU.vals from rfl];simp only[hxk];rw[dS bU.vals 8 aC xs k _ hxk];exact hf W hW _ (a8 hk)
theorem aac{w:World}{v:Value}{xs:List bU}(hr:aY w v xs.length 8 (cZ xs))(hl:xs.length≤4000000)(key:ByteArray):Calls ah 53 #[v,.string key] w fun r w'=>(∃z:Int,r=.returned (.int .i64 z)∧Yf (keyAt xs key) xs.length z)∧aW w w':=by
 have hi:=fun u(hu:aW w u)g(hg:u.cell? ⟨g,0,none⟩=some (.string key))=>Dj (hr.below hu) hl (fun X=>decide (X.p.key=key)) 106 #[.pointer (some ⟨g,0,none⟩)] (enters_of Tryz.func106 bo rfl)
  fun W hW X hX=>QG key X.p.key _ _ _ _ _ _ _ g (ak hg hW)
 rw[show(fun k=>match xs[k]? with|some X=>decide (X.p.key=key)|none=>false)=keyAt xs key from rfl]at hi;generalize keyAt xs key=K at hi⊢;obtain⟨A,cap,rfl⟩:=hr.shape;generalize xs.length=N at*;have HI:=ae hi;have hb:=boxed w (.cells #[.string key] 9);have hg:(w.alloc (.cells #[.string key] 9)).cell? ⟨w.heap.size,0,none⟩=some (.string key):=(aG.new w 9 #[.string key]).cell 0;obtain⟨HG,HB⟩:=aN hg hb;clear hi hr hb hg;go_enter Tryz.func53,Tryz.ntmps53;go_upto_region 1 with fail
 generalize w.alloc (.cells #[.string key] 9)=w1 at HB HG⊢;generalize w.heap.size=P at HG⊢;go_wp2_with(go_at_call 105;refine(HI.out _ HB.out _ HG.out).mono ?_;rintro r w2⟨⟨z,rfl,hz⟩,d2⟩;have HZ:=ae hz;clear hz)
 go_ret;exact⟨⟨z,rfl,HZ.out⟩,after HB.out d2⟩
end Go.Proofs.YtkjaajcpbldjoaaGreatDoor
