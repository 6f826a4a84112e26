/- Joined out of: NwS MkC NmB NmC NmD NmE PeC PeD PeE PeF PeH PeI PeJ PeK PeL PeM NfA. -/
import Derived.Test.YtkjaajcpbldjoabGreatDoorLah
set_option linter.unusedVariables false
set_option linter.unusedSimpArgs false
set_option maxHeartbeats 16000000
set_option maxRecDepth 100000
open Bool renaming true_and→bV
open Go.AllReadyH renaming cons→ahO
open Go.Lib renaming hid→ae
open Go.Proofs.Tryz renaming prog→ah,underlying9→bq,underlying5→cD,underlying71→cT,zeroValue3→ad1
open Go.Result renaming andThen_ok→kl
open Go.RowKit renaming Hid→ag
open Go.RowKit.Below renaming refl→aI
open Go.World renaming block_lt_of_cell?→ak
open List renaming getElem?_eq_getElem→af,length_append→aj,length_map→ay,getD_eq_getElem?_getD→aE,range→aF,take_of_length_le→aN,append_assoc→aO,getElem_mem→aZ,mem_map_of_mem→dQ,append_nil→ep,map_cons→jg,getElem?_eq_none→ux,take_zero→MJ,flatMap_cons→abj,take_add_one→aie
open Nat renaming le_trans→aw,le_refl→ax,zero_le→bj,add_zero→cq
namespace Go.Proofs.YtkjaajcpbldjoabGreatDoor
open Go.RowKit
attribute [local go_sem↓] Go.wp_at_zero Go.wp_at_succ
attribute [local go_sem] ez
def Turns(f:Nat)(lb:Array Value)(cs:Nat→List Value)(q:Nat→Bool)(N m:Nat)(I:Nat→World→Prop):Prop:=∀k,k<N→∀W,I k W→Calls ah f (#[.agg (cs k).toArray]++lb) W fun r W'=>r=.returned (.bool (q k))∧Keeps (fun x=>x=m) W W'∧(q k=false→I (k+1) W')
theorem bM{S:Nat→Prop}{w w':World}{a:Addr}{v:Value}(h:w.cell? a=some v)(k:Keeps S w w')(hs:¬S a.block):w'.cell? a=some v:=by
 have hl:=ak w _ h;unfold World.cell? at h⊢;rw[k.block _ hl hs];exact h
theorem Keeps.than{S:Nat→Prop}{a w w':World}(h:Keeps S a w)(k:aW w w'):Keeps S a w':=h.trans (Keeps.of_below k fun q hq _=>hq)
def afe(I:Nat→World→Prop):Prop:=∀k W W',I k W→aW W W'→I k W'
theorem QR{w:World}{A:Option Addr}{N cap m:Nat}(hN:N≤4000000)(cs:Nat→List Value)(p:Nat→Bool)(I:Nat→World→Prop)(hc:dO w A N 8 cs)(hA:0<N→∀g o,A=some ⟨g,o,none⟩→g≠m)(f:Nat)(lb:Array Value)(eg:∀args w,(callFunc f args).run ah w=.ok (.enter f args) w)(hf:Turns f lb cs p N m I)(h0:I 0 w):Calls ah 71 #[.slice A N cap,.func (.func f) #[] lb] w fun r w'=>(∃z:Int,r=.returned (.int .i64 z)∧Yn p N z)∧Keeps (fun x=>x=m) w w':=by
 obtain⟨HC,HF,HA,H0⟩:=cU hc hf hA h0;clear hc hf hA h0;go_enter Tryz.func71,Tryz.ntmps71;go_wp2_with fail
 go_loopw [8] (fun v8 wr=>∃k:Nat,k≤N∧v8=.int .i64 k∧ag (Keeps (fun x=>x=m) w wr)∧ag (∀j,j<k→p j=false)∧ag (I k wr)) (fun v8 _=>N-(intOf v8).toNat)
 case atStart=>exact⟨0,bj _,rfl,ae (Keeps.refl _ _),ae (fun j hj=>absurd hj (Nat.not_lt_zero j)),H0⟩
 case round=>
  obtain⟨k,hk,rfl,hb,hno,hi⟩:=hrel;by_cases hlt:k<N
  ·obtain⟨hlen,q,o,rfl,hcell⟩:=HC.out k hlt;have hcall:=HF.out k hlt wr hi.out;generalize hcs:cs k=L at hlen hcell hcall;clear hcs;obtain⟨c0,c1,c2,c3,c4,c5,c6,c7,hL⟩:∃c0 c1 c2 c3 c4 c5 c6 c7,L=[c0,c1,c2,c3,c4,c5,c6,c7]:=by
    match L,hlen with
    |[c0,c1,c2,c3,c4,c5,c6,c7],_=>exact⟨c0,c1,c2,c3,c4,c5,c6,c7,rfl⟩
   subst hL;have d0:=bM (hcell 0 _ rfl) hb.out (HA.out aR _ _ rfl);have d1:=bM (hcell 1 _ rfl) hb.out (HA.out aR _ _ rfl);have d2:=bM (hcell 2 _ rfl) hb.out (HA.out aR _ _ rfl);have d3:=bM (hcell 3 _ rfl) hb.out (HA.out aR _ _ rfl);have d4:=bM (hcell 4 _ rfl) hb.out (HA.out aR _ _ rfl);have d5:=bM (hcell 5 _ rfl) hb.out (HA.out aR _ _ rfl);have d6:=bM (hcell 6 _ rfl) hb.out (HA.out aR _ _ rfl);have d7:=bM (hcell 7 _ rfl) hb.out (HA.out aR _ _ rfl);rw[cq]at d0;have bG:=ae hcall;clear hcall hcell hlen;cases hp:p k with
   |true=>
    rw[hp]at bG;have HP:=ae hp;clear hp;go_wp2_with(go_at_fn f;(with_reducible refine bG.out.mono ?_);rintro r w2⟨rfl,e2,_⟩)
    go_ret;exact⟨⟨_,rfl,.inl ⟨k,hlt,rfl,HP.out,hno.out⟩⟩,hb.out.trans e2⟩
   |false=>
    rw[hp]at bG;have HP:=ae hp;clear hp;go_wp2_with(go_at_fn f;(with_reducible refine bG.out.mono ?_);rintro r w2⟨rfl,e2,i2⟩;have Hi2:=ae (i2 rfl);clear i2)
    go_roundw
    case rel=>
     refine⟨k+1,by omega,by go_num,ae (hb.out.trans e2),ae (fun j hj=>?_),Hi2⟩;by_cases e:j=k
     ·rw[e];exact HP.out
     ·exact hno.out j (by omega)
    case measure=>simp[intOf];omega
  ·obtain rfl:k=N:=by omega
   go_wp2_with fail
   go_ret;exact⟨⟨_,rfl,.inr ⟨rfl,hno.out⟩⟩,hb.out⟩
theorem QS{w:World}{A:Option Addr}{N cap m:Nat}(hN:N≤4000000)(cs:Nat→List Value)(p:Nat→Bool)(I:Nat→World→Prop)(hc:dO w A N 8 cs)(hA:0<N→∀g o,A=some ⟨g,o,none⟩→g≠m)(f:Nat)(lb:Array Value)(eg:∀args w,(callFunc f args).run ah w=.ok (.enter f args) w)(hf:Turns f lb cs p N m I)(h0:I 0 w):Calls ah 145 #[.slice A N cap,.func (.func f) #[] lb] w fun r w'=>r=.returned (.bool ((aF N).any p))∧Keeps (fun x=>x=m) w w':=by
 have HI:=ae (QR (cap:=cap) hN cs p I hc hA f lb eg hf h0);clear hc hf hA h0;generalize hR:(aF N).any p=R;have HR:=ae hR;clear hR;go_enter Tryz.func145,Tryz.ntmps145;go_wp2_with(go_at_call 71;refine HI.out.mono ?_;rintro r w2⟨⟨z,rfl,hz⟩,e2⟩)
 go_ret;exact⟨by rw[←HR.out,←hz.any];rfl,e2⟩
theorem KH{w:World}(L:List Value)(hl:L.length=8)(g:Nat)(f:Nat)(lb:Array Value)(eg:∀args w,(callFunc f args).run ah w=.ok (.enter f args) w)(hg:w.cell? ⟨g,0,none⟩=some (.func (.func f) #[] lb))(b:Bool)(m:Nat)(J:World→Prop)(hf:∀W,aW w W→Calls ah f (#[.agg L.toArray]++lb) W fun r W'=>r=.returned (.bool b)∧Keeps (fun x=>x=m) W W'∧J W'):Calls ah 146 #[.agg L.toArray,.pointer (some ⟨g,0,none⟩)] w fun r W'=>r=.returned (.bool (!b))∧Keeps (fun x=>x=m) w W'∧J W':=by
 obtain⟨c0,c1,c2,c3,c4,c5,c6,c7,hL⟩:∃c0 c1 c2 c3 c4 c5 c6 c7,L=[c0,c1,c2,c3,c4,c5,c6,c7]:=by
  match L,hl with
  |[c0,c1,c2,c3,c4,c5,c6,c7],_=>exact⟨c0,c1,c2,c3,c4,c5,c6,c7,rfl⟩
 subst hL;have HF:=ae hf;have hb:=boxed w (.cells #[c0,c1,c2,c3,c4,c5,c6,c7] 47);have HS:=ae (aH.new w 47 #[c0,c1,c2,c3,c4,c5,c6,c7]);have g0:=ai hg hb;obtain⟨HB,HK⟩:=aL hb ((Keeps.refl (fun x=>x=m) w).than hb);clear hf hg hb hl;go_enter Tryz.func146,Tryz.ntmps146;go_upto_region 1 with fail
 generalize w.alloc (.cells #[c0,c1,c2,c3,c4,c5,c6,c7] 47)=w1 at HB HK HS g0⊢;generalize w.heap.size=G at HS⊢;obtain⟨s0,s1,s2,s3,s4,s5,s6,s7⟩:=dB HS;go_wp2_with(go_at_fn f;(with_reducible refine(HF.out _ HB.out).mono ?_);rintro r w2⟨rfl,e2,j2⟩;have HJ:=ae j2;clear j2)
 go_ret;exact⟨rfl,(HK.out).trans e2,HJ.out⟩
theorem KI{w:World}{A:Option Addr}{N cap m:Nat}(hN:N≤4000000)(cs:Nat→List Value)(p:Nat→Bool)(I:Nat→World→Prop)(hst:afe I)(hm:m<w.heap.size)(hc:dO w A N 8 cs)(hA:0<N→∀g o,A=some ⟨g,o,none⟩→g≠m)(f:Nat)(lb:Array Value)(eg:∀args w,(callFunc f args).run ah w=.ok (.enter f args) w)(hf:∀k,k<N→∀W,I k W→Calls ah f (#[.agg (cs k).toArray]++lb) W fun r W'=>r=.returned (.bool (p k))∧Keeps (fun x=>x=m) W W'∧(p k=true→I (k+1) W'))(h0:I 0 w):Calls ah 112 #[.slice A N cap,.func (.func f) #[] lb] w fun r w'=>r=.returned (.bool ((aF N).all p))∧Keeps (fun x=>x=m) w w':=by
 have hco:=fun u(hu:aW w u)g(hgm:g≠m)(hg:u.cell? ⟨g,0,none⟩=some (.func (.func f) #[] lb))=>QS (cap:=cap) (m:=m) hN cs (fun k=> !p k) (fun k W=>I k W∧W.cell? ⟨g,0,none⟩=some (.func (.func f) #[] lb)) (hc.below hu) hA 146 #[.pointer (some ⟨g,0,none⟩)] (enters_of Tryz.func146 bo rfl)
  (fun k hk W hW=>(KH _ (hc k hk).1 g f lb eg hW.2 (p k) m (fun W'=>p k=true→I (k+1) W') fun W2 hW2=>hf k hk W2 (hst k W W2 hW.1 hW2)).mono fun r W' h=>⟨h.1,h.2.1,fun hn=>⟨h.2.2 (by simpa using hn),bM hW.2 h.2.1 hgm⟩⟩) ⟨hst 0 w u h0 hu,hg⟩
 rw[←sg];generalize((aF N).any fun k=> !p k)=R at hco⊢;have Vd:=ae hco;have hb:=boxed w (.cells #[.func (.func f) #[] lb] 103);obtain⟨HG,HB⟩:=aL (show(w.alloc (.cells #[.func (.func f) #[] lb] 103)).cell? ⟨w.heap.size,0,none⟩=some (.func (.func f) #[] lb)from(aH.new w 103 #[.func (.func f) #[] lb]).cell 0) hb;have HM:ag (w.heap.size≠m):=ae aR;have HK:=ae ((Keeps.refl (fun x=>x=m) w).than hb);clear hco hc hf hb hst h0 hA hm;go_enter Tryz.func112,Tryz.ntmps112;go_upto_region 1 with fail
 generalize w.alloc (.cells #[.func (.func f) #[] lb] 103)=w1 at HB HG HK⊢;generalize w.heap.size=G at HG HM⊢;go_wp2_with(go_at_call 145;refine(Vd.out _ HB.out _ HM.out HG.out).mono ?_;rintro r w2⟨rfl,e2⟩)
 go_ret;exact⟨rfl,HK.out.trans e2⟩
open Go.ChangeMaps (setBlock)
section
variable{α:Type}[DecidableEq α]{P:Program}{T K E:TypeId}{enc:α→Value}{w:World}{m:Nat}
def dK(l:List α):List (α×Nat):=l.map fun x=>(x,1)
theorem yc{l:List α}{a:α}(h:a∉l):mI (dK l) a=none:=by
 unfold mI dK;rw[List.findIdx?_eq_none_iff];intro x hx;rw[decide_eq_false_iff_not];rintro rfl;obtain⟨y,hy,rfl⟩:=List.mem_map.1 hx;exact h hy
theorem VB{l:List α}{a:α}(h:a∉l)(n:Nat):mI (dK l++[(a,n)]) a=some l.length:=by
 have hn:=yc h;unfold mI at hn⊢;rw[List.findIdx?_append,hn];simp[dK]
theorem VC{l:List α}{a:α}(h:a∈l):∃j,∃hj:j<l.length,l[j]'hj=a∧mI (dK l) a=some j:=by
 cases hi:mI (dK l) a with
 |none=>exact absurd rfl (QO hi (a,1) (List.mem_map.2 ⟨a,h,rfl⟩))
 |some j=>
  obtain⟨hj,e⟩:=tU hi;have hl:j<l.length:=by simpa[dK]using hj
  exact⟨j,hl,by simpa[dK]using e,rfl⟩
theorem KJ{L:List (α×Nat)}{a:α}{j n:Nat}(hi:mI L a=some j)(hx:(L.map (·.2))[j]? =some n):zI L a=n:=by
 unfold zI;rw[hi];simp only[aE,hx,Option.getD_some]
theorem VD{l:List α}{a:α}(h:a∉l):zI (dK l) a=0:=by unfold zI;rw[yc h]
theorem VE{l:List α}{a:α}(h:a∉l)(n:Nat):zI (dK l++[(a,n)]) a=n:=KJ (VB h n) (by simp[dK])
theorem Dy{l:List α}{a:α}(h:a∈l):zI (dK l) a=1:=by
 obtain⟨j,hj,_,hi⟩:=VC h;exact KJ hi (by simp[dK,hj])
omit [DecidableEq α]in
theorem VF{l:List α}{a:α}(n:Nat):(dK l++[(a,n)]).set l.length (((dK l++[(a,n)])[l.length]'(by simp[dK])).1,1)=dK (l++[a]):=by
 have hl:(dK l).length=l.length:=by simp[dK]
 rw[List.set_append_right _ _ aR];simp[dK]
omit [DecidableEq α]in
theorem KM.aM{L:List (α×Nat)}(h:KM enc w m L)(L':List (α×Nat)):KM enc (setBlock w m (.map (ik enc L').toArray L'.length)) m L':=by
 have hl:=h.lt;unfold KM;simp[setBlock,hl]
theorem kY(w:World)(m:Nat)(o:Obj):Keeps (fun x=>x=m) w (setBlock w m o):=(Keeps.refl (fun x=>x=m) w).setBlock (Or.inl rfl) o
theorem AW(ok:su P K enc)(hT:P.underlying T=some (.map K E))(hz:∀w,(zeroValue E).run P w=.ok (.int .i64 0) w){l:List α}(h:KM enc w m (dK l)){a:α}(ha:a∉l):∃w1 w2:World,(Instr.lookup T (.map (some m)) (enc a) false).run P w=.ok (.int .i64 0) w∧(Instr.mapEntry T (.map (some m)) (enc a)).run P w=.ok (.tuple #[.int .i64 0,.int .i64 (l.length:Int)]) w1∧(Instr.lookup T (.map (some m)) (enc a) false).run P w1=.ok (.int .i64 0) w1∧Keeps (fun x=>x=m) w w1∧(Instr.entryStore T (.map (some m)) (.int .i64 (l.length:Int)) (.int .i64 1)).run P w1=.ok () w2∧Keeps (fun x=>x=m) w w2∧KM enc w2 m (dK (l++[a]))∧(Instr.lookup T (.map (some m)) (enc a) false).run P w2=.ok (.int .i64 1) w2:=by
 have hl:(dK l).length=l.length:=by simp[dK]
 have l0:=iz ok hT (hz w) h a;rw[VD ha]at l0;have en:=zJ ok hT (hz w) h (yc ha);rw[hl]at en;have k1:=h.aM (dK l++[(a,0)]);have l1:=iz ok hT (hz _) k1 a;rw[VE ha]at l1;have st:=uX (P:=P) (T:=T) k1 (j:=l.length) (by simp[dK]) 1;rw[VF]at st;have k2:=k1.aM (dK (l++[a]));have l2:=iz ok hT (hz _) k2 a;rw[Dy (by simp)]at l2;exact⟨_,_,l0,en,l1,kY _ _ _,st,(kY _ _ _).trans (kY _ _ _),k2,l2⟩
theorem AX(ok:su P K enc)(hT:P.underlying T=some (.map K E))(hz:∀w,(zeroValue E).run P w=.ok (.int .i64 0) w){l:List α}(h:KM enc w m (dK l)){a:α}(ha:a∈l):∃(j:Nat)(w1 w2:World),(Instr.lookup T (.map (some m)) (enc a) false).run P w=.ok (.int .i64 1) w∧(Instr.mapEntry T (.map (some m)) (enc a)).run P w=.ok (.tuple #[.int .i64 1,.int .i64 j]) w1∧(Instr.lookup T (.map (some m)) (enc a) false).run P w1=.ok (.int .i64 1) w1∧Keeps (fun x=>x=m) w w1∧(Instr.entryStore T (.map (some m)) (.int .i64 j) (.int .i64 2)).run P w1=.ok () w2∧Keeps (fun x=>x=m) w w2∧(Instr.lookup T (.map (some m)) (enc a) false).run P w2=.ok (.int .i64 2) w2:=by
 obtain⟨j,hj,hja,hi⟩:=VC ha;have hl:(dK l).length=l.length:=by simp[dK]
 have l0:=iz ok hT (hz w) h a;rw[Dy ha]at l0;have en:=zK ok hT h hi;rw[Dy ha]at en;have k1:=h.aM (dK l);have l1:=iz ok hT (hz _) k1 a;rw[Dy ha]at l1;have st:=uX (P:=P) (T:=T) k1 (j:=j) (by rw[hl];exact hj) 2;have k2:=k1.aM ((dK l).set j ((((dK l)[j]'(by rw[hl];exact hj))).1,2));have l2:=iz ok hT (hz _) k2 a;rw[KJ (n:=2) (j:=j) ?_ (by rw[List.map_set,List.getElem?_set_self (by rw[ay,hl];exact hj)])]at l2
 ·exact⟨j,_,_,l0,en,l1,kY _ _ _,st,(kY _ _ _).trans (kY _ _ _),l2⟩
 ·unfold mI at hi⊢;rw[List.findIdx?_eq_some_iff_getElem]at hi⊢;obtain⟨h1,h2,h3⟩:=hi;refine⟨by rw[List.length_set];exact h1,?_,fun i hij=>?_⟩
  ·rw[List.getElem_set_self];exact h2
  ·rw[List.getElem_set_ne aR];exact h3 i hij
end
theorem KM.below{α:Type}{enc:α→Value}{w w':World}{m:Nat}{L:List (α×Nat)}(h:KM enc w m L)(hb:aW w w'):KM enc w' m L:=(hb.block m h.lt).trans h
theorem KM.drew{α:Type}{enc:α→Value}{w:World}{m:Nat}{L:List (α×Nat)}(h:KM enc w m L):KM enc w.drew m L:=h
theorem KM.ne{α:Type}{enc:α→Value}{w:World}{m g:Nat}{L:List (α×Nat)}{t:TypeId}{cs:Array Value}(h:KM enc w m L)(hg:aH w g t cs):g≠m:=by
 rintro rfl;have:=h.symm.trans hg;cases this
theorem yd{α:Type}[DecidableEq α]{l:List α}{k:Nat}{x:α}(hx:l[k]? =some x)(h:(l.take k).Nodup):(l.take (k+1)).Nodup↔x∉l.take k:=by
 rw[aie,hx,Option.toList_some,List.nodup_append];constructor
 ·rintro⟨_,_,h3⟩hm;exact h3 _ hm _ (List.mem_singleton.2 rfl) rfl
 ·intro hn;refine⟨h,by simp,fun a ha b hb=>?_⟩;rw[List.mem_singleton]at hb;subst hb;rintro rfl;exact hn ha
theorem ye{α:Type}{l:List α}(h:l.Nodup)(k:Nat):(l.take k).Nodup:=(List.take_sublist k l).nodup h
theorem Dz{w:World}(env:Env w){X:bS}(hX:fc w X)(fit:pC X.p)(sz:gQ X.p):Calls ah 118 #[.agg X.vals.toArray] w (Got (.bool (kt X.p)) w):=by
 have hlab:=fun u=>pT X.p.user (by have:=sz.user;omega) u
 have hma:=fun u(hu:aW w u)(a:Ad)(ok:a.Ok)=>nL (env.below hu) a ok
 have hts:=fun u(hu:aW w u)=>Dw (hX.tags.below hu) (by have:=sz.tl;omega) cQ 151 #[] (enters_of Tryz.func151 bo rfl) fun W hW x hx=>pT x (by have:=sz.tags x hx;omega) W
 have htr:=fun u(hu:aW w u)=>Nx (hX.tags.below hu) (by have:=sz.tl;omega) sf 81 #[] (enters_of Tryz.func81 bo rfl) fun W hW x y=>yb x y W
 have has:=fun u(hu:aW w u)=>Vv (hX.aQ.below hu) (by have:=sz.al;omega) Ad.may 125 #[] (enters_of Tryz.func125 bo rfl) fun W hW x hx=>nL (env.below (after hu hW)) x (fit.aQ x hx)
 have har:=fun u(hu:aW w u)=>Vw (hX.aQ.below hu) (by have:=sz.al;omega) xj 154 #[] (enters_of Tryz.func154 bo rfl) fun W hW x y=>TC x y W
 have aff:∀e∈X.p.ends,e.1.Ok:=fun e he=>(fit.ends e he).1
 have hEl:=sz.el;have hE:=hX.ends;obtain⟨R,hR⟩:=bw (kt X.p);rw[←hR];unfold kt at hR;obtain⟨A1,c1,e1⟩:=hX.tags.shape;obtain⟨A2,c2,e2⟩:=hX.aQ.shape;obtain⟨A3,c3,e3⟩:=hX.ends.shape;obtain⟨⟨key,bu,user,tags,aQ,ex,bm,ends⟩,tv,av,ev⟩:=X;simp only at*;subst e1 e2 e3;unfold bS.vals;generalize cQ user=LU at hlab hR;generalize tags.all cQ=LT at hts hR;generalize cX sf tags=RT at htr hR;generalize aQ.all Ad.may=AM at has hR;generalize cX xj aQ=RA at har hR;generalize tags.length=NT at*;generalize aQ.length=NA at*;obtain⟨NE,hNE⟩:=bw ends.length;rw[←hNE]at hR hE hEl⊢;obtain⟨P1,zL,HTs,HTr,HAs,HAr,agB,HE,HNE,HR⟩:=ad2 hlab hma hts htr has har aff hE hNE hR;clear hlab hma hts htr has har aff hE hNE hR env hX fit sz;obtain⟨HB,HP⟩:=aL (boxed w (.cells #[.string key,.string bu,.string user,.slice A1 NT c1,.slice A2 NA c2,.int .u64 ex,.int .u8 bm,.slice A3 NE c3] 47)) (aH.new w 47 #[.string key,.string bu,.string user,.slice A1 NT c1,.slice A2 NA c2,.int .u64 ex,.int .u8 bm,.slice A3 NE c3]);go_enter Tryz.func118,Tryz.ntmps118;go_upto_region 1 with fail
 generalize w.alloc (.cells #[.string key,.string bu,.string user,.slice A1 NT c1,.slice A2 NA c2,.int .u64 ex,.int .u8 bm,.slice A3 NE c3] 47)=w1 at HB HP⊢;generalize hP:w.heap.size=P at HP⊢;obtain⟨p0,p1,p2,p3,p4,-,-,p7⟩:=dB HP;by_cases k1:key.size=32;rotate_left
 ·have q1:((key.size:Int) !=32)=true:=by simp;omega
  have dS:ag (R=false):=ae (by rw[HR.out,decide_eq_false k1];simp);clear k1;go_wp2_with fail
  go_ret;exact⟨by rw[dS.out];rfl,HB.out⟩
 have q1:((key.size:Int) !=32)=false:=by simp;omega
 by_cases k2:bu.size=32;rotate_left
 ·have q2:((bu.size:Int) !=32)=true:=by simp;omega
  have dS:ag (R=false):=ae (by rw[HR.out,decide_eq_false k2];simp);clear k1 k2;go_wp2_with fail
  go_ret;exact⟨by rw[dS.out];rfl,HB.out⟩
 have q2:((bu.size:Int) !=32)=false:=by simp;omega
 have HR1:=ae HR.out;rw[decide_eq_true k1,decide_eq_true k2,bV,bV]at HR1;clear HR k1 k2;cases LU with
 |false=>
  have dS:ag (R=false):=ae (by rw[HR1.out];simp);go_wp2_with(go_at_call 151;refine(P1.out _).mono ?_;rintro r w2⟨rfl,d2⟩)
  go_ret;exact⟨by rw[dS.out];rfl,after HB.out d2⟩
 |true=>
  have HR2:=ae (HR1.out.trans (by rw[bV]));clear HR1;go_upto_region 3 with(go_at_call 151;refine(P1.out _).mono ?_;rintro r w2⟨rfl,d2⟩)
  have HB2:=bg HB d2;have HP2:=ae (bK HP d2);clear p0 p1 p2 p3 p4 p7 d2 HB HP q1 q2;obtain⟨-,-,-,p3,p4,-,-,p7⟩:=dB HP2;by_cases k1:NT≤8;rotate_left
  ·have q1:(8:Int)<(NT:Int):=by omega
   have q1':8<NT:=by omega
   have dS:ag (R=false):=ae (by rw[HR2.out,decide_eq_false k1];simp);clear k1;go_wp2_with fail
   go_ret;exact⟨by rw[dS.out];rfl,HB2.out⟩
  have q1:¬(8:Int)<(NT:Int):=by omega
  have q1':¬8<NT:=by omega
  by_cases k2:1≤NA;rotate_left
  ·have q2:(NA:Int)<1:=by omega
   have dS:ag (R=false):=ae (by rw[HR2.out,decide_eq_false k2];simp);obtain rfl:NA=0:=by omega
   clear k1 k2;go_wp2_with fail
   go_ret;exact⟨by rw[dS.out];rfl,HB2.out⟩
  have q2:¬(NA:Int)<1:=by omega
  by_cases k3:NA≤4;rotate_left
  ·have q3:(4:Int)<(NA:Int):=by omega
   have q3':4<NA:=by omega
   have dS:ag (R=false):=ae (by rw[HR2.out,decide_eq_false k3];simp);clear k1 k2 k3;go_wp2_with fail
   go_ret;exact⟨by rw[dS.out];rfl,HB2.out⟩
  have q3:¬(4:Int)<(NA:Int):=by omega
  have q3':¬4<NA:=by omega
  by_cases k4:NE≤8;rotate_left
  ·have q4:(8:Int)<(NE:Int):=by omega
   have q4':8<NE:=by omega
   have dS:ag (R=false):=ae (by rw[HR2.out,decide_eq_false k4];simp);clear k1 k2 k3 k4;go_wp2_with fail
   go_ret;exact⟨by rw[dS.out];rfl,HB2.out⟩
  have q4:¬(8:Int)<(NE:Int):=by omega
  have q4':¬8<NE:=by omega
  have HR3:=ae HR2.out;rw[decide_eq_true k1,decide_eq_true k2,decide_eq_true k3,decide_eq_true k4,bV,bV,bV,bV]at HR3;clear HR2 k1 k2 k3 k4;have hmm:= @run_makeMap ah;go_upto_region 6 with fail
  clear hmm;obtain⟨m,hm⟩:=bw w2.heap.size;have hM:KM uZ (w2.alloc (.map #[] 0)) m (dK []):=by rw[hm];exact heap_alloc_new w2 _
  have hmw:w.heap.size≤m:=by rw[hm];exact HB2.out.size
  obtain⟨Hmw,HB3,gy⟩:=bz hmw (after HB2.out (boxed w2 (.map #[] 0))) (bK HP2 (boxed w2 (.map #[] 0)));obtain⟨HPm,HM⟩:=aL (hM.ne gy.out) hM;rw[←hm];clear hM hmw p3 p4 p7 HB2 HP2 q1 q1' q2 q3 q3' q4 q4';generalize w2.alloc (.map #[] 0)=w3 at HB3 gy HM⊢;clear hm;obtain⟨-,-,-,p3,p4,-,-,p7⟩:=dB gy;go_upto_region 7 with fail
  go_loopw [48] (fun v48 wr=>∃k:Nat,k≤NE∧v48=.int .i64 k∧ag (KM uZ wr m (dK (ends.take k)))∧ag (Keeps (fun x=>x=m) w3 wr)∧ag ((ends.take k).Nodup∧∀e∈ends.take k,e.1.may=true)) (fun v48 _=>NE-(intOf v48).toNat)
  case atStart=>exact⟨0,bj _,rfl,HM,ae (Keeps.refl _ _),ae ⟨by simp,fun e he=>by simp at he⟩⟩
  case round=>
   obtain⟨k,hk,rfl,hkm,hkk,hno⟩:=hrel;have hbw:aW w wr:=HB3.out.trans (hkk.out.below (fun x hx=>by subst hx;exact Hmw.out) HB3.out.size);have AY:=ae hbw;clear hbw;by_cases hlt:k<NE
   ·have hkl:k<ends.length:=by rw[←HNE.out];exact hlt
    have hx:ends[k]? =some ends[k]:=af hkl;have hxo:=agB.out _ (aZ hkl);have hxm:ends[k]∈ends:=aZ hkl;obtain⟨_,q,o,hA,hcell⟩:=HE.out.iZ k hlt;rw[show l9 ends=ends.flatMap cF from rfl]at hcell;simp only at hcell;rw[dU cF 4 fF ends k _ hx]at hcell;subst hA;generalize ends[k]=x at hx hxo hcell hxm;have hma:=fun u(hu:aW w u)=>zL.out u hu x.1 hxo
    have d0:=ai (hcell 0 _ rfl) AY.out;have d1:=ai (hcell 1 _ rfl) AY.out;have d2:=ai (hcell 2 _ rfl) AY.out;have d3:=ai (hcell 3 _ rfl) AY.out;rw[cq]at d0;have hen:uZ x=.agg #[.bool x.1.v6,.int .u64 (x.1.hi:Int),.int .u64 (x.1.lo:Int),.int .u16 (x.2:Int)]:=rfl;obtain⟨Hx,Hxm⟩:=aL hx hxm;obtain⟨xm,VG⟩:=bw x.1.may;rw[←VG]at hma;obtain⟨VH,Hma⟩:=aL VG hma;clear hcell hx hxo hxm hma VG hkl;go_upto_region 9 with fail
    obtain⟨⟨xv,xh,xl⟩,xp⟩:=x;simp only at hen Hma VH;have hma:=Hma.out;unfold Ad.cells at hma;simp only at hma;have Hma:=ae hma;clear hma;have hb4:=boxed wr (.cells #[.bool xv,.int .u64 xh,.int .u64 xl,.int .u16 xp] 55);obtain⟨KL,EM,AZ⟩:=bz (aH.new wr 55 #[.bool xv,.int .u64 xh,.int .u64 xl,.int .u16 xp]) (hkm.out.below hb4) (hkk.out.than hb4);have HB4:=bg AY hb4;have oK:=ae (EM.out.ne KL.out);simp only;clear d0 d1 d2 d3 hb4 hkm hkk AY;generalize wr.alloc (.cells #[.bool xv,.int .u64 xh,.int .u64 xl,.int .u16 xp] 55)=w4 at KL EM AZ HB4⊢;generalize wr.heap.size=X at KL oK⊢;obtain⟨x0,x1,x2,x3⟩:=dY KL;by_cases hin:((⟨xv,xh,xl⟩,xp):En)∈ends.take k
    ·have dS:ag (R=false):=ae (by
      have hnd:¬ends.Nodup:=fun h=>((yd Hx.out (ye h k)).1 (ye h (k+1))) hin
      rw[HR3.out,decide_eq_false hnd];simp)
     obtain⟨j,w5,w6,l0,en,l1,hk5,st,hk6,l2⟩:=AX (P:=ah) abB Tryz.underlying194 ad1 EM.out.drew hin;rw[hen]at l0 en l1 l2;have kQ:=ae ((Below.qJ HB4.out).trans (hk6.below (fun x hx=>by subst hx;exact Hmw.out) HB4.out.size));have y0:=bM (w:=w4.drew) x0 hk5 oK.out;have y1:=bM (w:=w4.drew) x1 hk5 oK.out;have y2:=bM (w:=w4.drew) x2 hk5 oK.out;have y3:=bM (w:=w4.drew) x3 hk5 oK.out;have z0:=bM (w:=w4.drew) x0 hk6 oK.out;have z1:=bM (w:=w4.drew) x1 hk6 oK.out;have z2:=bM (w:=w4.drew) x2 hk6 oK.out;have z3:=bM (w:=w4.drew) x3 hk6 oK.out;clear hin hk5 hk6;refine dW 6 (fun w'=>(Instr.lookup 194 (.map (some m)) (.agg #[.bool xv,.int .u64 xh,.int .u64 xl,.int .u16 xp]) false).run ah w'=.ok (.int .i64 1) w'∧w'.cell? ⟨X,0,none⟩=some (.bool xv)∧w'.cell? ⟨X,1,none⟩=some (.int .u64 xh)∧w'.cell? ⟨X,2,none⟩=some (.int .u64 xl)∧w'.cell? ⟨X,3,none⟩=some (.int .u16 xp)) bo (⟨l0,x0,x1,x2,x3⟩) (fun hHeld=>?_);refine dT 0 ?_
     refine dT 1 ?_
     refine dT 2 ?_
     refine dT 3 ?_
     refine np 4 fun K hK=>?_;go_simp;refine hK.out _ _ (fun _=>⟨l1,y0,y1,y2,y3⟩) (fun hHeld=>?_);have hHeld:=hHeld aJ;clear hK K;try simp only[ck]
     refine dT 5 ?_
     refine np 6 fun K hK=>?_;go_simp;rw[show IntKind.i64.wrap 2=2 by decide,st,kl];refine hK.out _ _ (fun h=>absurd rfl h) (fun _=>?_);clear hK K hHeld;try simp only[ck]
     refine OU ?_;clear x0 x1 x2 x3 y0 y1 y2 y3 l0 l1 en st;go_wp2_with fail
     go_ret;exact⟨by rw[dS.out];rfl,kQ.out⟩
    ·obtain⟨w5,w6,l0,en,l1,hk5,st,hk6,km6,l2⟩:=AW (P:=ah) abB Tryz.underlying194 ad1 EM.out.drew hin;rw[hen]at l0 en l1 l2;have htk:ends.take (k+1)=ends.take k++[((⟨xv,xh,xl⟩,xp):En)]:=by rw[aie,Hx.out];rfl
     rw[←htk]at km6;have kQ:=ae ((Below.qJ HB4.out).trans (hk6.below (fun x hx=>by subst hx;exact Hmw.out) HB4.out.size));obtain⟨tG,zf,Htk,Hin⟩:=cU (AZ.out.drew.trans hk6) km6 htk hin;have y0:=bM (w:=w4.drew) x0 hk5 oK.out;have y1:=bM (w:=w4.drew) x1 hk5 oK.out;have y2:=bM (w:=w4.drew) x2 hk5 oK.out;have y3:=bM (w:=w4.drew) x3 hk5 oK.out;have z0:=bM (w:=w4.drew) x0 hk6 oK.out;have z1:=bM (w:=w4.drew) x1 hk6 oK.out;have z2:=bM (w:=w4.drew) x2 hk6 oK.out;have z3:=bM (w:=w4.drew) x3 hk6 oK.out;generalize(ends.take k).length=J at en st;clear hin hk5 hk6 km6 htk;refine dW 6 (fun w'=>(Instr.lookup 194 (.map (some m)) (.agg #[.bool xv,.int .u64 xh,.int .u64 xl,.int .u16 xp]) false).run ah w'=.ok (.int .i64 0) w'∧w'.cell? ⟨X,0,none⟩=some (.bool xv)∧w'.cell? ⟨X,1,none⟩=some (.int .u64 xh)∧w'.cell? ⟨X,2,none⟩=some (.int .u64 xl)∧w'.cell? ⟨X,3,none⟩=some (.int .u16 xp)) bo (⟨l0,x0,x1,x2,x3⟩) (fun hHeld=>?_);refine dT 0 ?_
     refine dT 1 ?_
     refine dT 2 ?_
     refine dT 3 ?_
     refine np 4 fun K hK=>?_;go_simp;refine hK.out _ _ (fun _=>⟨l1,y0,y1,y2,y3⟩) (fun hHeld=>?_);have hHeld:=hHeld aJ;clear hK K;try simp only[ck]
     refine dT 5 ?_
     refine np 6 fun K hK=>?_;go_simp;rw[show IntKind.i64.wrap 1=1 by decide,st,kl];refine hK.out _ _ (fun h=>absurd rfl h) (fun _=>?_);clear hK K hHeld;try simp only[ck]
     refine OU ?_;clear x0 x1 x2 x3 y0 y1 y2 y3 l0 l1 en st;cases xm with
     |false=>
      have dS:ag (R=false):=ae (by
       have hnm:(ends.all fun e=>e.1.may)=false:=by
        rw[List.all_eq_false];exact⟨_,Hxm.out,by rw[←VH.out];decide⟩
       rw[HR3.out,hnm];simp)
      go_wp2_with(go_at_call 125;refine(Hma.out _ kQ.out).mono ?_;rintro r w7⟨rfl,d7⟩)
      go_ret;exact⟨by rw[dS.out];rfl,after kQ.out d7⟩
     |true=>
      go_wp2_with(go_at_call 125;refine(Hma.out _ kQ.out).mono ?_;rintro r w7⟨rfl,d7⟩)
      go_roundw
      case rel=>
       refine⟨k+1,by omega,by go_num,ae (zf.out.below d7),ae (tG.out.than d7),ae ⟨(yd Hx.out hno.out.1).2 Hin.out,fun e he=>?_⟩⟩;rw[Htk.out]at he;rcases List.mem_append.1 he with he|he
       ·exact hno.out.2 e he
       ·rw[List.mem_singleton]at he;subst he;exact VH.out.symm
      case measure=>simp[intOf];omega
   ·obtain rfl:k=NE:=by omega
    have hall:ends.take k=ends:=aN (by rw[←HNE.out];exact ax _);have HR4:ag (R=(LT&&RT&&AM&&RA)):=ae (by
     have h1:=hno.out.1;have h2:=hno.out.2;rw[hall]at h1 h2;have h3:(ends.all fun e=>e.1.may)=true:=List.all_eq_true.2 h2;rw[HR3.out,h3,decide_eq_true h1];simp)
    have z3:=bM p3 hkk.out HPm.out;have z4:=bM p4 hkk.out HPm.out;clear hall p3 p4 p7 hno hkm hkk;cases LT with
    |false=>
     have dS:ag (R=false):=ae (by rw[HR4.out];simp);go_wp2_with(go_at_call 54;refine(HTs.out _ AY.out).mono ?_;rintro r w7⟨rfl,d7⟩)
     go_ret;exact⟨by rw[dS.out];rfl,after AY.out d7⟩
    |true=>
     cases RT with
     |false=>
      have dS:ag (R=false):=ae (by rw[HR4.out];simp);go_wp2_with(first
       |(go_at_call 54;refine(HTs.out _ AY.out).mono ?_;rintro r w7⟨rfl,d7⟩;have y3:=ai z3 d7;have y4:=ai z4 d7)
       |(go_at_call 80;refine(HTr.out _ (after AY.out d7)).mono ?_;rintro r w8⟨rfl,d8⟩))
      go_ret;exact⟨by rw[dS.out];rfl,after (after AY.out d7) d8⟩
     |true=>
      cases AM with
      |false=>
       have dS:ag (R=false):=ae (by rw[HR4.out];simp);go_wp2_with(first
        |(go_at_call 54;refine(HTs.out _ AY.out).mono ?_;rintro r w7⟨rfl,d7⟩;have y3:=ai z3 d7;have y4:=ai z4 d7)
        |(go_at_call 80;refine(HTr.out _ (after AY.out d7)).mono ?_;rintro r w8⟨rfl,d8⟩;have v4:=ai y4 d8)
        |(go_at_call 152;refine(HAs.out _ (after (after AY.out d7) d8)).mono ?_;rintro r w9⟨rfl,d9⟩))
       go_ret;exact⟨by rw[dS.out];rfl,after (after (after AY.out d7) d8) d9⟩
      |true=>
       have HRr:ag (R=RA):=ae (by rw[HR4.out];simp);go_wp2_with(first
        |(go_at_call 54;refine(HTs.out _ AY.out).mono ?_;rintro r w7⟨rfl,d7⟩;have y3:=ai z3 d7;have y4:=ai z4 d7)
        |(go_at_call 80;refine(HTr.out _ (after AY.out d7)).mono ?_;rintro r w8⟨rfl,d8⟩;have v4:=ai y4 d8)
        |(go_at_call 152;refine(HAs.out _ (after (after AY.out d7) d8)).mono ?_;rintro r w9⟨rfl,d9⟩;have u4:=ai v4 d9)
        |(go_at_call 153;refine(HAr.out _ (after (after (after AY.out d7) d8) d9)).mono ?_;rintro r w10⟨rfl,d10⟩))
       go_ret;exact⟨by rw[HRr.out];rfl,after (after (after (after AY.out d7) d8) d9) d10⟩
theorem rising_map{α β:Type}(f:α→β)(lt:β→β→Bool):∀l:List α,cX lt (l.map f)=cX (fun x y=>lt (f x) (f y)) l
 |[]=>rfl
 |[_]=>rfl
 |x::y::r=>by
  have ih:=rising_map f lt (y::r);rw[jg]at ih;rw[jg,jg,cX,cX,ih]
theorem qL{w:World}(env:Env w){v:Value}{l:List Pr}(h:df w v l)(hl:l.length≤4000000)(fit:∀p∈l,pC p)(sz:∀p∈l,gQ p):Calls ah 82 #[v] w (Got (.bool (jC l)) w):=by
 have ha:∀u,aW w u→Calls ah 112 #[v,.func (.func 118) #[] #[]] u (Got (.bool (l.all kt)) u):=fun u hu=>by
  obtain⟨xs,rfl,hr,hx⟩:=h;rw[ay]at hl;rw[List.all_map];exact Vz (hr.below hu) hl (kt∘fun X=>X.p) _ _ (enters_of Tryz.func118 bo rfl) fun W hW X hX=>Dz (env.below (after hu hW)) ((hx X hX).below (after hu hW)) (fit _ (dQ hX)) (sz _ (dQ hX))
 have hs:∀u,aW w u→Calls ah 119 #[v,.func (.func 120) #[] #[]] u (Got (.bool (cX fh l)) u):=fun u hu=>by
  obtain⟨xs,rfl,hr,hx⟩:=h;rw[ay]at hl;rw[rising_map];exact VA (hr.below hu) hl (fun X Y=>fh X.p Y.p) _ _ (enters_of Tryz.func120 bo rfl) fun W hW X Y=>GG X.p.key Y.p.key _ _ _ _ _ _ _ _ _ _ _ _ _ _ W
 obtain⟨R,hR⟩:=bw (jC l);rw[←hR];unfold jC at hR;obtain⟨A,cap,rfl⟩:=h.shape;generalize l.all kt=AM at ha hR;generalize cX fh l=RA at hs hR;generalize l.length=N at*;obtain⟨HA,HS,HR⟩:=bz ha hs hR;clear ha hs hR h fit sz env;go_enter Tryz.func82,Tryz.ntmps82;by_cases k1:N≤64;rotate_left
 ·have q1:¬(N:Int)≤64:=by omega
  have dS:ag (R=false):=ae (by rw[HR.out,decide_eq_false k1];simp);go_wp2_with fail
  go_ret;exact⟨by rw[dS.out];rfl,aI _ _⟩
 have q1:(N:Int)≤64:=by omega
 have HR1:=ae HR.out;rw[decide_eq_true k1,bV]at HR1;clear HR;cases AM with
 |false=>
  go_wp2_with(go_at_call 112;refine(HA.out _ (aI _ _)).mono ?_;rintro r w2⟨rfl,d2⟩)
  go_ret;exact⟨by rw[HR1.out];rfl,d2⟩
 |true=>
  go_wp2_with(first
   |(go_at_call 112;refine(HA.out _ (aI _ _)).mono ?_;rintro r w2⟨rfl,d2⟩)
   |(go_at_call 119;refine(HS.out _ d2).mono ?_;rintro r w3⟨rfl,d3⟩))
  go_ret;exact⟨by rw[HR1.out];rfl,after d2 d3⟩
theorem pE{w:World}(env:Env w){v:Value}{l:List Ry}(h:eG w v l)(hl:l.length≤4000000)(fit:∀r∈l,x9 r):Calls ah 83 #[v] w (Got (.bool (jD l)) w):=by
 have ha:∀u,aW w u→Calls ah 123 #[v,.func (.func 124) #[] #[]] u (Got (.bool (l.all xW)) u):=fun u hu=>
  Vx (a8.below h hu) hl xW _ _ (enters_of Tryz.func124 bo rfl) fun W hW x hx=>GH (env.below (after hu hW)) _ _ x.key x.fin.1 (fit x hx).2.1
 have hs:∀u,aW w u→Calls ah 121 #[v,.func (.func 122) #[] #[]] u (Got (.bool (cX (fun a b:Ry=>decide (a.id<b.id)) l)) u):=fun u hu=>
  Vy (a8.below h hu) hl _ _ _ (enters_of Tryz.func122 bo rfl) fun W hW x y=>KG x.id y.id _ _ _ _ _ _ _ _ _ _ W
 obtain⟨R,hR⟩:=bw (jD l);rw[←hR];unfold jD at hR;obtain⟨A,cap,rfl⟩:=a8.shape h;generalize l.all xW=AM at ha hR;generalize cX (fun a b:Ry=>decide (a.id<b.id)) l=RA at hs hR;generalize l.length=N at*;obtain⟨HA,HS,HR⟩:=bz ha hs hR;clear ha hs hR h fit env;go_enter Tryz.func83,Tryz.ntmps83;by_cases k1:N≤8;rotate_left
 ·have q1:¬(N:Int)≤8:=by omega
  have dS:ag (R=false):=ae (by rw[HR.out,decide_eq_false k1];simp);go_wp2_with fail
  go_ret;exact⟨by rw[dS.out];rfl,aI _ _⟩
 have q1:(N:Int)≤8:=by omega
 have HR1:=ae HR.out;rw[decide_eq_true k1,bV]at HR1;clear HR;cases RA with
 |false=>
  go_wp2_with(go_at_call 121;refine(HS.out _ (aI _ _)).mono ?_;rintro r w2⟨rfl,d2⟩)
  go_ret;exact⟨by rw[HR1.out];rfl,d2⟩
 |true=>
  go_wp2_with(first
   |(go_at_call 121;refine(HS.out _ (aI _ _)).mono ?_;rintro r w2⟨rfl,d2⟩)
   |(go_at_call 123;refine(HA.out _ d2).mono ?_;rintro r w3⟨rfl,d3⟩))
  go_ret;exact⟨by rw[HR1.out];rfl,after d2 d3⟩
theorem VI{w:World}{m:Nat}{es:Array MapEntry}{n o:Nat}(h:w.heap[m]? =some (.map es n)):w.cell? ⟨m,o,none⟩=none:=by
 unfold World.cell?;simp[h]
theorem KM.qf{α:Type}{enc:α→Value}{w:World}{m g o:Nat}{L:List (α×Nat)}{v:Value}(h:KM enc w m L)(hc:w.cell? ⟨g,o,none⟩=some v):g≠m:=by
 rintro rfl;rw[VI h]at hc;cases hc
theorem GI{w:World}(x:Ry)(g:Nat)(n:Nat)(hg:w.cell? ⟨g,6,none⟩=some (.int .u8 n)):Calls ah 115 #[.agg (bH x).toArray,.pointer (some ⟨g,0,none⟩)] w (Got (.bool (decide (x.id=n))) w):=by
 obtain⟨id,key,⟨⟨v,h,l⟩,p⟩⟩:=x;unfold bH;simp only;rw[show decide (id=n)=((id:Int)==(n:Int)) by rw[Bool.eq_iff_iff,decide_eq_true_eq,beq_iff_eq];omega];have hb:=boxed w (.cells #[.int .u8 id,.string key,.bool v,.int .u64 h,.int .u64 l,.int .u16 p] 57);have HS:=ae (aH.new w 57 #[.int .u8 id,.string key,.bool v,.int .u64 h,.int .u64 l,.int .u16 p]);have g0:=ai hg hb;have HB:=ae hb;clear hg hb;go_enter Tryz.func115,Tryz.ntmps115;go_upto_region 1 with fail
 generalize w.alloc (.cells #[.int .u8 id,.string key,.bool v,.int .u64 h,.int .u64 l,.int .u16 p] 57)=w1 at HB HS g0⊢;generalize w.heap.size=G at HS⊢;have s0:=HS.out.cell 0;simp at s0;go_wp2_with fail
 go_ret;exact⟨rfl,HB.out⟩
def lu(rl:List Ry)(p:Pr):Bool:=decide (p.bm=0)||rl.any fun r=>decide (r.id=p.bm)
theorem VJ{w:World}{X:bS}(hX:fc w X)(fit:pC X.p)(sz:gQ X.p){m sb mb:Nat}{ver pv pol:Value}{rv:Value}{rl:List Ry}(hr:eG w rv rl)(hrl:rl.length≤4000000)(acc:List Ad)(hnd:acc.Nodup)(hm:KM uY w m (dK acc))(hs:w.cell? ⟨sb,0,none⟩=some (.map (some m)))(hM:aH w mb 26 #[ver,pv,rv,pol]):Calls ah 113 #[.agg X.vals.toArray,.pointer (some ⟨sb,0,none⟩),.pointer (some ⟨mb,0,none⟩)] w fun r w'=>r=.returned (.bool (decide (acc++X.p.aQ).Nodup&&lu rl X.p))∧Keeps (fun x=>x=m) w w'∧((decide (acc++X.p.aQ).Nodup&&lu rl X.p)=true→KM uY w' m (dK (acc++X.p.aQ))):=by
 have hco:=fun u(hu:Keeps (fun x=>x=m) w u)g(hg:u.cell? ⟨g,6,none⟩=some (.int .u8 (X.p.bm:Int)))(hrr:a8 u rv rl.length 6 (dX rl))=>
  show Calls ah 114 #[rv,.func (.func 115) #[] #[.pointer (some ⟨g,0,none⟩)]] u (Got (.bool (rl.any fun r=>decide (r.id=X.p.bm))) u)from by
   rw[←Qs];obtain⟨A,cap,rfl⟩:=hrr.shape;refine Gq hrl _ _ hrr.iZ _ _ (enters_of Tryz.func115 bo rfl) fun k hk W hW=>?_
   have hxk:rl[k]? =some rl[k]:=af hk;rw[show dX rl=rl.flatMap bH from rfl];simp only[hxk];rw[dU bH 6 bI rl k _ hxk];exact GI _ g _ (ai hg hW)
 have hrk:∀u,Keeps (fun x=>x=m) w u→a8 u rv rl.length 6 (dX rl):=fun u hu=>by
  obtain⟨A,cap,e,hlen,hc⟩:=hr;refine⟨A,cap,e,hlen,fun hp=>?_⟩;obtain⟨g,o,ha,hcc⟩:=hc hp;exact⟨g,o,ha,fun j v hv=>bM (hcc j v hv) hu (hm.qf (hcc j v hv))⟩
 have afg:=fit.aQ;have hAl:=sz.al;have hA:=hX.aQ;obtain⟨R,hR⟩:=bw ((decide (acc++X.p.aQ).Nodup&&lu rl X.p));rw[←hR];unfold lu at hR;generalize(rl.any fun r=>decide (r.id=X.p.bm))=RO at hco hR;obtain⟨A1,c1,e1⟩:=hX.tags.shape;obtain⟨A2,c2,e2⟩:=hX.aQ.shape;obtain⟨A3,c3,e3⟩:=hX.ends.shape;obtain⟨Ar,cr,er⟩:=a8.shape hr;obtain⟨⟨key,bu,user,tags,aQ,ex,bm,ends⟩,tv,av,ev⟩:=X;simp only at*;subst e1 e2 e3 er;unfold bS.vals;simp only at*;generalize tags.length=NT at*;generalize ends.length=NE at*;generalize rl.length=NR at*;obtain⟨NA,hNA⟩:=bw aQ.length;rw[←hNA]at hA hAl⊢;have hb1:=boxed w (.cells #[.string key,.string bu,.string user,.slice A1 NT c1,.slice A2 NA c2,.int .u64 ex,.int .u8 bm,.slice A3 NE c3] 47);obtain⟨HP,Vd,HRk,ahA,HA,Yg,HR,HM,HW⟩:=SX (aH.new w 47 #[.string key,.string bu,.string user,.slice A1 NT c1,.slice A2 NA c2,.int .u64 ex,.int .u8 bm,.slice A3 NE c3]) hco hrk afg hA hNA hR (hm.below hb1) hm;have s0:=ai hs hb1;obtain⟨wJ,HK,HND⟩:=bz (hM.below hb1 hM.lt) ((Keeps.refl (fun x=>x=m) w).than hb1) hnd;clear hco hrk afg hA hNA hR hm hs hM hb1 hnd hX fit sz hr;go_enter Tryz.func113,Tryz.ntmps113;go_upto_region 1 with fail
 generalize w.alloc (.cells #[.string key,.string bu,.string user,.slice A1 NT c1,.slice A2 NA c2,.int .u64 ex,.int .u8 bm,.slice A3 NE c3] 47)=w1 at HP HM s0 wJ HK⊢;generalize w.heap.size=P at HP⊢;obtain⟨HPm,agC,HSb⟩:=bz (HM.out.ne HP.out) (HM.out.ne wJ.out) (HM.out.qf s0);have p4:=HP.out.cell 4;have p6:=HP.out.cell 6;have m2:=wJ.out.cell 2;simp at p4 p6 m2;go_upto_region 2 with fail
 go_loopw [10] (fun v10 wr=>∃k:Nat,k≤NA∧v10=.int .i64 k∧ag (KM uY wr m (dK (acc++aQ.take k)))∧ag (Keeps (fun x=>x=m) w1 wr)∧ag ((acc++aQ.take k).Nodup)) (fun v10 _=>NA-(intOf v10).toNat)
 case atStart=>exact⟨0,bj _,rfl,ae (by rw[MJ,ep];exact HM.out),ae (Keeps.refl _ _),ae (by rw[MJ,ep];exact HND.out)⟩
 case round=>
  obtain⟨k,hk,rfl,hkm,hkk,hno⟩:=hrel;by_cases hlt:k<NA
  ·have hkl:k<aQ.length:=by rw[←Yg.out];exact hlt
   have hx:aQ[k]? =some aQ[k]:=af hkl;obtain⟨_,q,o,hA,hcell⟩:=HA.out.iZ k hlt;rw[show dy aQ=aQ.flatMap (fun a:Ad=>a.cells.toList)from rfl]at hcell;simp only at hcell;rw[dU (fun a:Ad=>a.cells.toList) 3 (fun a:Ad=>rfl) aQ k _ hx]at hcell;subst hA;generalize aQ[k]=x at hx hcell;have hKw:=HK.out.trans hkk.out;have d0:=bM (hcell 0 _ rfl) hKw (HW.out.qf (hcell 0 _ rfl));have d1:=bM (hcell 1 _ rfl) hKw (HW.out.qf (hcell 1 _ rfl));have d2:=bM (hcell 2 _ rfl) hKw (HW.out.qf (hcell 2 _ rfl));rw[cq]at d0;have hen:uY x=.agg #[.bool x.v6,.int .u64 (x.hi:Int),.int .u64 (x.lo:Int)]:=rfl;obtain⟨Hx,HKw⟩:=aL hx hKw;clear hcell hx hkl hKw;go_upto_region 4 with fail
   obtain⟨xv,xh,xl⟩:=x;simp only at hen;have hb4:=boxed wr (.cells #[.bool xv,.int .u64 xh,.int .u64 xl] 52);obtain⟨KL,EM,AZ⟩:=bz (aH.new wr 52 #[.bool xv,.int .u64 xh,.int .u64 xl]) (hkm.out.below hb4) (hkk.out.than hb4);have oK:=ae (EM.out.ne KL.out);simp only;clear d0 d1 d2 hb4 hkm hkk HKw;generalize wr.alloc (.cells #[.bool xv,.int .u64 xh,.int .u64 xl] 52)=w4 at KL EM AZ⊢;generalize wr.heap.size=X at KL oK⊢;obtain⟨x0,x1,x2⟩:=jt KL;have xs:=bM s0 AZ.out HSb.out;have htk:acc++aQ.take (k+1)=(acc++aQ.take k)++[(⟨xv,xh,xl⟩:Ad)]:=by rw[aie,Hx.out,aO];rfl
   by_cases hin:(⟨xv,xh,xl⟩:Ad)∈acc++aQ.take k
   ·have dS:ag (R=false):=ae (by
     have hnd:¬(acc++aQ).Nodup:=fun h=>by
      have h2:(acc++aQ.take (k+1)).Nodup:=((List.Sublist.refl acc).append (List.take_sublist _ _)).nodup h;rw[htk,List.nodup_append]at h2;exact h2.2.2 _ hin _ (List.mem_singleton.2 rfl) rfl
     rw[HR.out,decide_eq_false hnd];simp)
    obtain⟨j,w5,w6,l0,en,l1,hk5,st,hk6,l2⟩:=AX (P:=ah) abA Tryz.underlying152 ad1 EM.out.drew hin;rw[hen]at l0 en l1 l2;have tG:=ae (AZ.out.drew.trans hk6);have y0:=bM (w:=w4.drew) x0 hk5 oK.out;have y1:=bM (w:=w4.drew) x1 hk5 oK.out;have y2:=bM (w:=w4.drew) x2 hk5 oK.out;have ys:=bM (w:=w4.drew) xs hk5 HSb.out;have z0:=bM (w:=w4.drew) x0 hk6 oK.out;have z1:=bM (w:=w4.drew) x1 hk6 oK.out;have z2:=bM (w:=w4.drew) x2 hk6 oK.out;have zs:=bM (w:=w4.drew) xs hk6 HSb.out;clear hin hk5 hk6 htk;refine dW 6 (fun w'=>(Instr.lookup 152 (.map (some m)) (.agg #[.bool xv,.int .u64 xh,.int .u64 xl]) false).run ah w'=.ok (.int .i64 1) w'∧w'.cell? ⟨X,0,none⟩=some (.bool xv)∧w'.cell? ⟨X,1,none⟩=some (.int .u64 xh)∧w'.cell? ⟨X,2,none⟩=some (.int .u64 xl)∧w'.cell? ⟨sb,0,none⟩=some (.map (some m))) bo (⟨l0,x0,x1,x2,xs⟩) (fun hHeld=>?_);refine dT 0 ?_
    refine dT 1 ?_
    refine dT 2 ?_
    refine dT 3 ?_
    refine np 4 fun K hK=>?_;go_simp;refine hK.out _ _ (fun _=>⟨l1,y0,y1,y2,ys⟩) (fun hHeld=>?_);have hHeld:=hHeld aJ;clear hK K;try simp only[ck]
    refine dT 5 ?_
    refine np 6 fun K hK=>?_;go_simp;rw[show IntKind.i64.wrap 2=2 by decide,st,kl];refine hK.out _ _ (fun h=>absurd rfl h) (fun _=>?_);clear hK K hHeld;try simp only[ck]
    refine OU ?_;clear x0 x1 x2 y0 y1 y2 xs ys l0 l1 en st;go_wp2_with fail
    go_ret;exact⟨by rw[dS.out];rfl,HK.out.trans tG.out,fun h=>by rw[dS.out]at h;cases h⟩
   ·obtain⟨w5,w6,l0,en,l1,hk5,st,hk6,km6,l2⟩:=AW (P:=ah) abA Tryz.underlying152 ad1 EM.out.drew hin;rw[hen]at l0 en l1 l2;rw[←htk]at km6;have afh:(acc++aQ.take (k+1)).Nodup:=by
     rw[htk,List.nodup_append];refine⟨hno.out,by simp,fun a ha b hb=>?_⟩;rw[List.mem_singleton]at hb;subst hb;rintro rfl;exact hin ha
    obtain⟨agD,tG,zf⟩:=bz afh (AZ.out.drew.trans hk6) km6;have y0:=bM (w:=w4.drew) x0 hk5 oK.out;have y1:=bM (w:=w4.drew) x1 hk5 oK.out;have y2:=bM (w:=w4.drew) x2 hk5 oK.out;have ys:=bM (w:=w4.drew) xs hk5 HSb.out;have z0:=bM (w:=w4.drew) x0 hk6 oK.out;have z1:=bM (w:=w4.drew) x1 hk6 oK.out;have z2:=bM (w:=w4.drew) x2 hk6 oK.out;have zs:=bM (w:=w4.drew) xs hk6 HSb.out;generalize(acc++aQ.take k).length=J at en st;clear hin hk5 hk6 km6 htk afh;refine dW 6 (fun w'=>(Instr.lookup 152 (.map (some m)) (.agg #[.bool xv,.int .u64 xh,.int .u64 xl]) false).run ah w'=.ok (.int .i64 0) w'∧w'.cell? ⟨X,0,none⟩=some (.bool xv)∧w'.cell? ⟨X,1,none⟩=some (.int .u64 xh)∧w'.cell? ⟨X,2,none⟩=some (.int .u64 xl)∧w'.cell? ⟨sb,0,none⟩=some (.map (some m))) bo (⟨l0,x0,x1,x2,xs⟩) (fun hHeld=>?_);refine dT 0 ?_
    refine dT 1 ?_
    refine dT 2 ?_
    refine dT 3 ?_
    refine np 4 fun K hK=>?_;go_simp;refine hK.out _ _ (fun _=>⟨l1,y0,y1,y2,ys⟩) (fun hHeld=>?_);have hHeld:=hHeld aJ;clear hK K;try simp only[ck]
    refine dT 5 ?_
    refine np 6 fun K hK=>?_;go_simp;rw[show IntKind.i64.wrap 1=1 by decide,st,kl];refine hK.out _ _ (fun h=>absurd rfl h) (fun _=>?_);clear hK K hHeld;try simp only[ck]
    refine OU ?_;clear x0 x1 x2 y0 y1 y2 xs ys l0 l1 en st;go_wp2_with fail
    go_roundw
    case rel=>exact⟨k+1,by omega,by go_num,zf,tG,agD⟩
    case measure=>simp[intOf];omega
  ·obtain rfl:k=NA:=by omega
   have hall:aQ.take k=aQ:=aN (by rw[←Yg.out];exact ax _);have acV:=hkm.out;have Cj:=hno.out;rw[hall]at acV Cj;have HR2:=ae HR.out;rw[decide_eq_true Cj,bV]at HR2;have HKe:=ae acV;have z4:=bM p4 hkk.out HPm.out;have z6:=bM p6 hkk.out HPm.out;have zm:=bM m2 hkk.out agC.out;have HKw:=ae (HK.out.trans hkk.out);clear hall acV Cj p4 p6 m2 hkm hno HR;by_cases k0:bm=0
   ·have q0:((bm:Int)==0)=true:=by simp;omega
    have Z6:ag (R=true):=ae (by rw[HR2.out,decide_eq_true k0,Bool.true_or]);clear k0 HR2;go_wp2_with fail
    go_ret;exact⟨by rw[Z6.out];rfl,HKw.out,fun _=>HKe.out⟩
   ·have q0:((bm:Int)==0)=false:=by simp;omega
    have HRr:ag (R=RO):=ae (by rw[HR2.out,decide_eq_false k0,Bool.false_or]);have HC:=ae (Vd.out _ HKw.out _ z6 (HRk.out _ HKw.out));clear k0 HR2;go_wp2_with(go_at_call 114;refine HC.out.mono ?_;rintro r w7⟨rfl,d7⟩)
    go_ret;exact⟨by rw[HRr.out];rfl,HKw.out.than d7,fun _=>HKe.out.below d7⟩
def qu(l:List bS):List Ad:=l.flatMap fun X=>X.p.aQ
def tV(rl:List Ry)(xs:List bS)(k:Nat):Bool:=match xs[k]? with
 |some X=>decide (qu (xs.take k)++X.p.aQ).Nodup&&lu rl X.p
 |none=>false
theorem GK(rl:List Ry)(xs:List bS):∀n,n≤xs.length→(aF n).all (tV rl xs)=(decide (qu (xs.take n)).Nodup&&(xs.take n).all fun X=>lu rl X.p)
 |0,_=>by simp[qu]
 |n+1,h=>by
  have ih:=GK rl xs n aR;have hx:xs[n]? =some xs[n]:=af aR;have htk:qu (xs.take (n+1))=qu (xs.take n)++xs[n].p.aQ:=by unfold qu;rw[aie,hx,List.flatMap_append];simp only[Option.toList_some,abj,List.flatMap_nil,ep]
  have hta:((xs.take (n+1)).all fun X=>lu rl X.p)=(((xs.take n).all fun X=>lu rl X.p)&&lu rl xs[n].p):=by rw[aie,hx,List.all_append];simp only[Option.toList_some,List.all_cons,List.all_nil,Bool.and_true]
  rw[fi,ih,htk,hta];unfold tV;rw[hx];simp only;by_cases h1:(qu (xs.take n)).Nodup
  ·rw[decide_eq_true h1,bV];cases(decide (qu (xs.take n)++xs[n].p.aQ).Nodup)<;>cases((xs.take n).all fun X=>lu rl X.p)<;>simp
  ·have h2:¬(qu (xs.take n)++xs[n].p.aQ).Nodup:=fun h=>h1 ((List.sublist_append_left _ _).nodup h)
   rw[decide_eq_false h1,decide_eq_false h2];simp
theorem QT(rl:List Ry)(xs:List bS):(aF xs.length).all (tV rl xs)=(decide ((xs.map (·.p)).flatMap fun p=>p.aQ).Nodup&&(xs.map (·.p)).all (lu rl)):=by
 rw[GK rl xs xs.length (ax _),List.take_length,List.flatMap_map,List.all_map];rfl
theorem VK{w:World}(env:Env w){pv rv:Value}{m:Mp}(hp:df w pv m.aK)(hr:eG w rv m.aA)(fit:jG m)(sz:∀p∈m.aK,gQ p)(hpl:m.aK.length≤4000000)(hrl:m.aA.length≤4000000)(hol:m.policy.size≤2000000):Calls ah 64 #[.agg #[.int .u64 (m.version:Int),pv,rv,.string m.policy]] w (Got (.bool (jE m)) w):=by
 have hps:=fun u(hu:aW w u)=>qL (env.below hu) (hp.below hu) hpl fit.aK sz
 have hrs:=fun u(hu:aW w u)=>pE (env.below hu) (a8.below hr hu) hrl fit.aA
 have hpo:=fun u(hu:aW w u)=>pD (env.below hu) m.policy hol
 have hal:∀u mm sb mb,aW w u→w.heap.size≤mm→KM uY u mm (dK [])→u.cell? ⟨sb,0,none⟩=some (.map (some mm))→aH u mb 26 #[.int .u64 (m.version:Int),pv,rv,.string m.policy]→Calls ah 112 #[pv,.func (.func 113) #[] #[.pointer (some ⟨sb,0,none⟩),.pointer (some ⟨mb,0,none⟩)]] u fun r w'=>r=.returned (.bool (decide (m.aK.flatMap (·.aQ)).Nodup&&m.aK.all (lu m.aA)))∧Keeps (fun x=>x=mm) u w':=fun u mm sb mb hu hmm hkm hs hM=>by
  obtain⟨xs,hxs,hrow,hx⟩:=hp;rw[←hxs,←QT];obtain⟨A,cap,rfl⟩:=hrow.shape;have hlen:xs.length≤4000000:=by rw[←hxs,ay]at hpl;exact hpl
  refine KI (m:=mm) hlen _ (tV m.aA xs) (fun k W=>KM uY W mm (dK (qu (xs.take k)))∧(qu (xs.take k)).Nodup∧W.cell? ⟨sb,0,none⟩=some (.map (some mm))∧aH W mb 26 #[.int .u64 (m.version:Int),.slice A xs.length cap,rv,.string m.policy]∧Keeps (fun x=>x=mm) u W) (fun k W W' h hb=>⟨h.1.below hb,h.2.1,ai h.2.2.1 hb,h.2.2.2.1.below hb h.2.2.2.1.lt,h.2.2.2.2.than hb⟩) hkm.lt (hrow.below hu).iZ ?_ _ _ (enters_of Tryz.func113 bo rfl) ?_ ⟨hkm,by simp[qu],hs,hM,Keeps.refl _ _⟩
  ·rintro h0 g o rfl hg;obtain⟨A',cap',e,hl,hc⟩:=hrow;injection e with e1 _ _
   obtain⟨g',o',ha,hcc⟩:=hc h0;rw[←e1]at ha;injection ha with ha
   injection ha with ha _ _
   subst ha;have hz:0<(cY xs).length:=by rw[hl];omega
   have hlt:=ak w _ (hcc 0 _ (af hz));simp only at hlt;omega
  ·rintro k hk W⟨hk1,hk2,hk3,hk4,hk5⟩;have hxk:xs[k]? =some xs[k]:=af hk;have hbW:aW w W:=hu.trans (hk5.below (fun x hx=>by subst hx;exact hmm) hu.size);have hmem:=aZ hk;have hin:xs[k].p∈m.aK:=by rw[←hxs];exact dQ hmem
   have hc:=VJ ((hx _ hmem).below hbW) (fit.aK _ hin) (sz _ hin) (a8.below hr hbW) hrl _ hk2 hk1 hk3 hk4;rw[show cY xs=xs.flatMap bS.vals from rfl];rw[dU bS.vals 8 aB xs k _ hxk];have hst:tV m.aA xs k=(decide (qu (xs.take k)++xs[k].p.aQ).Nodup&&lu m.aA xs[k].p):=by unfold tV;rw[hxk]
   have htk:qu (xs.take (k+1))=qu (xs.take k)++xs[k].p.aQ:=by unfold qu;rw[aie,hxk,List.flatMap_append];simp only[Option.toList_some,abj,List.flatMap_nil,ep]
   rw[hst,htk];refine hc.mono fun r W' h=>⟨h.1,h.2.1,fun ht=>⟨h.2.2 ht,?_,bM hk3 h.2.1 (hk1.qf hk3),hk4.keep h.2.1 (hk1.ne hk4),hk5.trans h.2.1⟩⟩
   rw[Bool.and_eq_true,decide_eq_true_eq]at ht;exact ht.1
 obtain⟨R,hR⟩:=bw (jE m);rw[←hR];unfold jE at hR;rw[show(m.aK.all fun p=>decide (p.bm=0)||m.aA.any fun r=>decide (r.id=p.bm))=m.aK.all (lu m.aA)from rfl]at hR;generalize(decide (m.aK.flatMap (·.aQ)).Nodup&&m.aK.all (lu m.aA))=RL at hal hR;obtain⟨Ap,cp,rfl⟩:=hp.shape;obtain⟨Ar,cr,rfl⟩:=a8.shape hr;have hv:=fit.version;obtain⟨version,aK,aA,policy⟩:=m;simp only at*;generalize jC aK=RP at hps hR;generalize jD aA=RY at hrs hR;generalize lZ policy=RO at hpo hR;generalize aK.length=NP at*;generalize aA.length=NR at*;obtain⟨zM,HRs,Qc,HAl,HR,HB,HM⟩:=nn hps hrs hpo hal hR (boxed w (.cells #[.int .u64 version,.slice Ap NP cp,.slice Ar NR cr,.string policy] 26)) (aH.new w 26 #[.int .u64 version,.slice Ap NP cp,.slice Ar NR cr,.string policy]);clear hps hrs hpo hal hR env hp hr fit sz hol;go_enter Tryz.func64,Tryz.ntmps64;go_upto_region 1 with fail
 generalize w.alloc (.cells #[.int .u64 version,.slice Ap NP cp,.slice Ar NR cr,.string policy] 26)=w1 at HB HM⊢;generalize hP:w.heap.size=P at HM⊢;obtain⟨m0,m1,m2,m3⟩:=dY HM;by_cases k1:1≤version;rotate_left
 ·obtain rfl:version=0:=by omega
  have dS:ag (R=false):=ae (by rw[HR.out,decide_eq_false k1];simp);clear k1;go_wp2_with fail
  go_ret;exact⟨by rw[dS.out];rfl,HB.out⟩
 have q1:¬(version:Int)<1:=by omega
 have HR1:=ae HR.out;rw[decide_eq_true k1,bV]at HR1;clear HR k1;cases RP with
 |false=>
  have dS:ag (R=false):=ae (by rw[HR1.out];simp);go_wp2_with(go_at_call 82;refine(zM.out _ HB.out).mono ?_;rintro r w2⟨rfl,d2⟩)
  go_ret;exact⟨by rw[dS.out];rfl,after HB.out d2⟩
 |true=>
 cases RY with
 |false=>
  have dS:ag (R=false):=ae (by rw[HR1.out];simp);go_wp2_with(first
   |(go_at_call 82;refine(zM.out _ HB.out).mono ?_;rintro r w2⟨rfl,d2⟩;have n2:=ai m2 d2)
   |(go_at_call 83;refine(HRs.out _ (after HB.out d2)).mono ?_;rintro r w3⟨rfl,d3⟩))
  go_ret;exact⟨by rw[dS.out];rfl,after (after HB.out d2) d3⟩
 |true=>
 cases RO with
 |false=>
  have dS:ag (R=false):=ae (by rw[HR1.out];simp);go_wp2_with(first
   |(go_at_call 82;refine(zM.out _ HB.out).mono ?_;rintro r w2⟨rfl,d2⟩;have n2:=ai m2 d2;have n3:=ai m3 d2)
   |(go_at_call 83;refine(HRs.out _ (after HB.out d2)).mono ?_;rintro r w3⟨rfl,d3⟩;have v3:=ai n3 d3)
   |(go_at_call 84;refine(Qc.out _ (after (after HB.out d2) d3)).mono ?_;rintro r w4⟨rfl,d4⟩))
  go_ret;exact⟨by rw[dS.out];rfl,after (after (after HB.out d2) d3) d4⟩
 |true=>
  have HRl:ag (R=RL):=ae (by rw[HR1.out];simp);clear HR1;have hmm:= @run_makeMap ah;go_upto_region 3 with(first
   |(go_at_call 82;refine(zM.out _ HB.out).mono ?_;rintro r w2⟨rfl,d2⟩;have n2:=ai m2 d2;have n3:=ai m3 d2)
   |(go_at_call 83;refine(HRs.out _ (after HB.out d2)).mono ?_;rintro r w3⟨rfl,d3⟩;have v3:=ai n3 d3)
   |(go_at_call 84;refine(Qc.out _ (after (after HB.out d2) d3)).mono ?_;rintro r w4⟨rfl,d4⟩))
  have e4:=after d2 (after d3 d4);have HB4:=bg HB e4;have EM:=ae (bK HM e4);clear m0 m1 m2 m3 n2 n3 v3 d2 d3 d4 e4 HB HM;obtain⟨-,c1⟩:=jQ EM;go_upto_region 4 with fail
  clear hmm c1;have hb5:=fR w4 (.map #[] 0) (.cells #[.map (some w4.heap.size)] 152);have hKM:KM uY (w4.alloc (.map #[] 0)) w4.heap.size (dK []):=heap_alloc_new w4 _;have HKM:=ae (hKM.below (boxed _ (.cells #[.map (some w4.heap.size)] 152)));have hS:((w4.alloc (.map #[] 0)).alloc (.cells #[.map (some w4.heap.size)] 152)).cell? ⟨w4.heap.size+1,0,none⟩=some (.map (some w4.heap.size)):=by
   have:=(aH.new (w4.alloc (.map #[] 0)) 152 #[.map (some w4.heap.size)]).cell 0;rw[show(w4.alloc (.map #[] 0)).heap.size=w4.heap.size+1 by simp]at this;exact this
  have HS:=ae hS;have nZ:=bg HB4 hb5;have tL:=ae (bK EM hb5);have hmm:w.heap.size≤w4.heap.size:=HB4.out.size;have Hmm:=ae hmm;clear hS hKM hb5 HB4 EM hmm;generalize(w4.alloc (.map #[] 0)).alloc (.cells #[.map (some w4.heap.size)] 152)=w5 at HKM HS nZ tL⊢;generalize w4.heap.size+1=SB at HS⊢;generalize w4.heap.size=MM at HKM HS Hmm⊢;obtain⟨-,c1⟩:=jQ tL;go_wp2_with(go_at_call 112;refine(HAl.out _ _ _ _ nZ.out Hmm.out HKM.out HS.out tL.out).mono ?_;rintro r w6⟨rfl,k6⟩)
  go_ret;exact⟨by rw[HRl.out];rfl,nZ.out.trans (k6.below (fun x hx=>by subst hx;exact Hmm.out) nZ.out.size)⟩
theorem yf{B b:Nat}{D:List UInt8}{w:World}(e:En)(ok:zH e.1)(op:e.2<65536)(h:gj B b D w)(hlen:D.length≤900000000)(hBw:B≤w.heap.size):Calls ah 91 #[.pointer (some ⟨b,0,none⟩),.agg (cF e).toArray] w (Put B b D (Gm e) w):=by
 have hal:=Ny e.1;have had:=fun u(hu:aW w u)=>u9 e.1 ok (h.below hu) aR (aw hBw hu.size)
 have hpo:=fun u=>lS e.2 op u
 have hput:=fun v u(hp:gj B b (D++zj e.1) v)(hv:B≤v.heap.size)(hu:aW v u)=>fM (w:=u) [be 2 e.2] (hp.below hu) (by simp) (by rw[cZ,bZ,aP,aj];omega) (aw hv hu.size) 1 rfl
 have fY:ag (w.heap.size≠b):=ae (by have:=h.lt;omega);obtain⟨X,hX⟩:=bw (Gm e);rw[←hX];have hX2:D++zj e.1++fG [be 2 e.2]=D++X:=by rw[hX,cZ,bZ,aO];rfl
 have HX:=ae hX2;have hb1:=boxed w (.cells (cF e).toArray 55);obtain⟨HP,HB1,HB⟩:=bz (aH.new w 55 (cF e).toArray) hb1 hBw;unfold Put at had⊢;obtain⟨⟨v,hi,lo⟩,po⟩:=e;unfold cF at HP HB1⊢;simp only at*;unfold Ad.cells at had;simp only at had;obtain⟨HAd,Qc,jo⟩:=bz had hpo hput;clear had hpo hput hX hX2 hb1 h hBw hal ok op;go_enter Tryz.func91,Tryz.ntmps91;go_upto_region 1 with fail
 generalize w.alloc (.cells #[.bool v,.int .u64 hi,.int .u64 lo,.int .u16 po] 55)=w1 at HP HB1⊢;generalize w.heap.size=P at HP fY⊢;obtain⟨a0,a1,a2⟩:=jt HP;go_upto_region 2 with(go_at_call 89;refine(HAd.out _ HB1.out).mono ?_;rintro r w2⟨rfl,p2,k2⟩)
 have HP2:=ae (k2.kept _ _ _ HP.out fY.out aJ);obtain⟨-,-,-,a3⟩:=dY HP2;have hB2:=aw HB.out (aw HB1.out.size k2.below.size);obtain⟨HB2,lQ,agE⟩:=bz hB2 k2 p2;clear a0 a1 a2 hB2 k2 p2;go_wp2_with(first
  |(go_at_call 87;refine(Qc.out _).mono ?_;rintro r w3⟨rfl,d3⟩)
  |(go_at_call 30;(refine(jo.out w2 w3 agE.out HB2.out d3).mono ?_);rintro r w4⟨rfl,p4,k4⟩;rw[HX.out]at p4))
 go_end0
 exact⟨rfl,p4,(lQ.out.low HB.out HB1.out).trans (k4.low HB2.out d3)⟩
theorem jf{β:Type}(E:Nat→List β)(k:Nat):(aF (k+1)).flatMap E=(aF k).flatMap E++E k:=by
 rw[List.range_succ,List.flatMap_append];simp
theorem gC{β:Type}(E:Nat→List β){k n:Nat}(h:k≤n):((aF k).flatMap E).length≤((aF n).flatMap E).length:=by
 induction n with
 |zero=>rw[Nat.le_zero.1 h];exact ax _
 |succ n ih=>
  rcases Nat.lt_or_ge k (n+1)with h1|h1
  ·rw[jf E n,aj];have:=ih aR;omega
  ·rw[show k=n+1 by omega];exact ax _
theorem QU{B b:Nat}{D:List UInt8}{w:World}{A:Option Addr}{N cap:Nat}{M:Nat}(hM:M≤800000000)(hN:N<65536)(cs:Nat→ByteArray)(E:Nat→List UInt8)(hc:mH w A N cs)(hA:0<N→∀g o,A=some ⟨g,o,none⟩→g<B)(f:Nat)(eg:∀args w,(callFunc f args).run ah w=.ok (.enter f args) w)(h:gj B b D w)(hBw:B≤w.heap.size)(hlen:D.length+2+((aF N).flatMap E).length≤M)(hf:∀k,k<N→∀W D',Below B w W→gj B b D' W→D'.length≤M→B≤W.heap.size→Calls ah f #[.pointer (some ⟨b,0,none⟩),.string (cs k)] W (Put B b D' (E k) W)):Calls ah 34 #[.pointer (some ⟨b,0,none⟩),.slice A N cap,.func (.func f) #[.pointer (some ⟨b,0,none⟩)] #[]] w (Put B b D (fH 2 N++(aF N).flatMap E) w):=by
 have hu:=fun u=>lS N hN u
 have hw:IntKind.u16.wrap (N:Int)=(N:Int):=by
  show(N:Int)%65536=_;omega
 have hput:=fun u(hu:aW w u)=>fM (w:=u) [be 2 N] (h.below hu) (by simp) (by rw[cZ,bZ,aP];omega) (aw hBw hu.size) 1 rfl
 rw[show fG [be 2 N]=fH 2 N by rw[cZ,bZ]]at hput;obtain⟨HC,HF,HA,HB,HLen,HU,jo⟩:=nn hc hf hA hBw hlen hu hput;unfold Put at HF⊢;clear hc hf hA hBw hlen h hu hput;go_enter Tryz.func34,Tryz.ntmps34;go_wp2_with(first
  |(go_at_call 87;refine(HU.out _).mono ?_;rintro r w1⟨rfl,d1⟩)
  |(go_at_call 30;(refine(jo.out _ d1).mono ?_);rintro r w2⟨rfl,p2,k2⟩;obtain⟨HP2,lQ⟩:=aL p2 (k2.low HB.out d1);clear p2 k2))
 go_loopw [17] (fun v17 wr=>∃k:Nat,k≤N∧v17=.int .i64 k∧ag (gj B b (D++fH 2 N++(aF k).flatMap E) wr)∧ag (Wrote B b w wr)) (fun v17 _=>N-(intOf v17).toNat)
 case atStart=>exact⟨0,bj _,rfl,ae (by rw[show(aF 0).flatMap E=[]from rfl,ep];exact HP2.out),lQ⟩
 case round=>
  obtain⟨k,hk,rfl,hp,hb⟩:=hrel;have hBr:=aw HB.out hb.out.below.size;have QV:=ae hBr;by_cases hlt:k<N
  ·have hlr:(D++fH 2 N++(aF k).flatMap E).length≤M:=by
    have h1:=gC E hk;have h2:=HLen.out;simp only[aj,aP]at*;omega
   obtain⟨q,o,rfl,hcell⟩:=HC.out k hlt;have hcall:=fun u(hu:aW wr u)=>HF.out k hlt u (D++fH 2 N++(aF k).flatMap E) (hb.out.below.trans (hu.mono hBr)) (hp.out.below hu) hlr (aw hBr hu.size)
   have d0:=(hb.out.below.cell (p:=⟨q,o+k,none⟩) (HA.out aR _ _ rfl)).trans hcell;generalize cs k=L at d0 hcall;have bG:=ae hcall;clear hcall hcell;clear hlr hBr;go_wp2_with(go_at_fn f;(with_reducible refine(bG.out _ (aI _ _)).mono ?_);rintro r w4⟨rfl,p4,k4⟩;have tW:=ae p4;clear p4)
   go_roundw
   case rel=>exact⟨k+1,by omega,by go_num,ae (by rw[jf,←aO];exact tW.out),ae (hb.out.trans (k4))⟩
   case measure=>simp[intOf];omega
  ·obtain rfl:k=N:=by omega
   clear hBr;go_wp2_with fail
   go_end0
   exact⟨rfl,by rw[←aO];exact hp.out,hb.out⟩
theorem KO{B b:Nat}{D:List UInt8}{w:World}{A:Option Addr}{N cap:Nat}{M:Nat}(hM:M≤800000000)(hN:N<65536)(cs:Nat→Ad)(E:Nat→List UInt8)(hc:dO w A N 3 fun k=>(fun a:Ad=>a.cells.toList) (cs k))(hA:0<N→∀g o,A=some ⟨g,o,none⟩→g<B)(f:Nat)(eg:∀args w,(callFunc f args).run ah w=.ok (.enter f args) w)(h:gj B b D w)(hBw:B≤w.heap.size)(hlen:D.length+2+((aF N).flatMap E).length≤M)(hf:∀k,k<N→∀W D',Below B w W→gj B b D' W→D'.length≤M→B≤W.heap.size→Calls ah f #[.pointer (some ⟨b,0,none⟩),.agg ((fun a:Ad=>a.cells.toList) (cs k)).toArray] W (Put B b D' (E k) W)):Calls ah 88 #[.pointer (some ⟨b,0,none⟩),.slice A N cap,.func (.func f) #[.pointer (some ⟨b,0,none⟩)] #[]] w (Put B b D (fH 2 N++(aF N).flatMap E) w):=by
 have hu:=fun u=>lS N hN u
 have hw:IntKind.u16.wrap (N:Int)=(N:Int):=by
  show(N:Int)%65536=_;omega
 have hput:=fun u(hu:aW w u)=>fM (w:=u) [be 2 N] (h.below hu) (by simp) (by rw[cZ,bZ,aP];omega) (aw hBw hu.size) 1 rfl
 rw[show fG [be 2 N]=fH 2 N by rw[cZ,bZ]]at hput;obtain⟨HC,HF,HA,HB,HLen,HU,jo⟩:=nn hc hf hA hBw hlen hu hput;unfold Put at HF⊢;clear hc hf hA hBw hlen h hu hput;go_enter Tryz.func88,Tryz.ntmps88;go_wp2_with(first
  |(go_at_call 87;refine(HU.out _).mono ?_;rintro r w1⟨rfl,d1⟩)
  |(go_at_call 30;(refine(jo.out _ d1).mono ?_);rintro r w2⟨rfl,p2,k2⟩;obtain⟨HP2,lQ⟩:=aL p2 (k2.low HB.out d1);clear p2 k2))
 go_loopw [17] (fun v17 wr=>∃k:Nat,k≤N∧v17=.int .i64 k∧ag (gj B b (D++fH 2 N++(aF k).flatMap E) wr)∧ag (Wrote B b w wr)) (fun v17 _=>N-(intOf v17).toNat)
 case atStart=>exact⟨0,bj _,rfl,ae (by rw[show(aF 0).flatMap E=[]from rfl,ep];exact HP2.out),lQ⟩
 case round=>
  obtain⟨k,hk,rfl,hp,hb⟩:=hrel;have hBr:=aw HB.out hb.out.below.size;have QV:=ae hBr;by_cases hlt:k<N
  ·have hlr:(D++fH 2 N++(aF k).flatMap E).length≤M:=by
    have h1:=gC E hk;have h2:=HLen.out;simp only[aj,aP]at*;omega
   obtain⟨_,q,o,rfl,hcell⟩:=HC.out k hlt;have hcall:=fun u(hu:aW wr u)=>HF.out k hlt u (D++fH 2 N++(aF k).flatMap E) (hb.out.below.trans (hu.mono hBr)) (hp.out.below hu) hlr (aw hBr hu.size)
   dsimp only at hcell;generalize cs k=x at hcell hcall;obtain⟨v,hi,lo⟩:=x;unfold Ad.cells at hcell hcall;simp only at hcell hcall;have d0:=(hb.out.below.cell (p:=⟨q,o+k*3+0,none⟩) (HA.out aR _ _ rfl)).trans (hcell 0 _ rfl);have d1:=(hb.out.below.cell (p:=⟨q,o+k*3+1,none⟩) (HA.out aR _ _ rfl)).trans (hcell 1 _ rfl);have d2:=(hb.out.below.cell (p:=⟨q,o+k*3+2,none⟩) (HA.out aR _ _ rfl)).trans (hcell 2 _ rfl);rw[cq]at d0;have bG:=ae hcall;clear hcall hcell;clear hlr hBr;go_wp2_with(go_at_fn f;(with_reducible refine(bG.out _ (boxed _ _)).mono ?_);rintro r w4⟨rfl,p4,k4⟩;have tW:=ae p4;clear p4)
   go_roundw
   case rel=>exact⟨k+1,by omega,by go_num,ae (by rw[jf,←aO];exact tW.out),ae (hb.out.trans (k4.low QV.out (boxed _ _)))⟩
   case measure=>simp[intOf];omega
  ·obtain rfl:k=N:=by omega
   clear hBr;go_wp2_with fail
   go_end0
   exact⟨rfl,by rw[←aO];exact hp.out,hb.out⟩
theorem KR{B b:Nat}{D:List UInt8}{w:World}{A:Option Addr}{N cap:Nat}{M:Nat}(hM:M≤800000000)(hN:N<65536)(cs:Nat→En)(E:Nat→List UInt8)(hc:dO w A N 4 fun k=>cF (cs k))(hA:0<N→∀g o,A=some ⟨g,o,none⟩→g<B)(f:Nat)(eg:∀args w,(callFunc f args).run ah w=.ok (.enter f args) w)(h:gj B b D w)(hBw:B≤w.heap.size)(hlen:D.length+2+((aF N).flatMap E).length≤M)(hf:∀k,k<N→∀W D',Below B w W→gj B b D' W→D'.length≤M→B≤W.heap.size→Calls ah f #[.pointer (some ⟨b,0,none⟩),.agg (cF (cs k)).toArray] W (Put B b D' (E k) W)):Calls ah 90 #[.pointer (some ⟨b,0,none⟩),.slice A N cap,.func (.func f) #[.pointer (some ⟨b,0,none⟩)] #[]] w (Put B b D (fH 2 N++(aF N).flatMap E) w):=by
 have hu:=fun u=>lS N hN u
 have hw:IntKind.u16.wrap (N:Int)=(N:Int):=by
  show(N:Int)%65536=_;omega
 have hput:=fun u(hu:aW w u)=>fM (w:=u) [be 2 N] (h.below hu) (by simp) (by rw[cZ,bZ,aP];omega) (aw hBw hu.size) 1 rfl
 rw[show fG [be 2 N]=fH 2 N by rw[cZ,bZ]]at hput;obtain⟨HC,HF,HA,HB,HLen,HU,jo⟩:=nn hc hf hA hBw hlen hu hput;unfold Put at HF⊢;clear hc hf hA hBw hlen h hu hput;go_enter Tryz.func90,Tryz.ntmps90;go_wp2_with(first
  |(go_at_call 87;refine(HU.out _).mono ?_;rintro r w1⟨rfl,d1⟩)
  |(go_at_call 30;(refine(jo.out _ d1).mono ?_);rintro r w2⟨rfl,p2,k2⟩;obtain⟨HP2,lQ⟩:=aL p2 (k2.low HB.out d1);clear p2 k2))
 go_loopw [17] (fun v17 wr=>∃k:Nat,k≤N∧v17=.int .i64 k∧ag (gj B b (D++fH 2 N++(aF k).flatMap E) wr)∧ag (Wrote B b w wr)) (fun v17 _=>N-(intOf v17).toNat)
 case atStart=>exact⟨0,bj _,rfl,ae (by rw[show(aF 0).flatMap E=[]from rfl,ep];exact HP2.out),lQ⟩
 case round=>
  obtain⟨k,hk,rfl,hp,hb⟩:=hrel;have hBr:=aw HB.out hb.out.below.size;have QV:=ae hBr;by_cases hlt:k<N
  ·have hlr:(D++fH 2 N++(aF k).flatMap E).length≤M:=by
    have h1:=gC E hk;have h2:=HLen.out;simp only[aj,aP]at*;omega
   obtain⟨_,q,o,rfl,hcell⟩:=HC.out k hlt;have hcall:=fun u(hu:aW wr u)=>HF.out k hlt u (D++fH 2 N++(aF k).flatMap E) (hb.out.below.trans (hu.mono hBr)) (hp.out.below hu) hlr (aw hBr hu.size)
   dsimp only at hcell;generalize cs k=x at hcell hcall;obtain⟨⟨v,hi,lo⟩,po⟩:=x;unfold cF at hcell hcall;simp only at hcell hcall;have d0:=(hb.out.below.cell (p:=⟨q,o+k*4+0,none⟩) (HA.out aR _ _ rfl)).trans (hcell 0 _ rfl);have d1:=(hb.out.below.cell (p:=⟨q,o+k*4+1,none⟩) (HA.out aR _ _ rfl)).trans (hcell 1 _ rfl);have d2:=(hb.out.below.cell (p:=⟨q,o+k*4+2,none⟩) (HA.out aR _ _ rfl)).trans (hcell 2 _ rfl);have d3:=(hb.out.below.cell (p:=⟨q,o+k*4+3,none⟩) (HA.out aR _ _ rfl)).trans (hcell 3 _ rfl);rw[cq]at d0;have bG:=ae hcall;clear hcall hcell;clear hlr hBr;go_wp2_with(go_at_fn f;(with_reducible refine(bG.out _ (boxed _ _)).mono ?_);rintro r w4⟨rfl,p4,k4⟩;have tW:=ae p4;clear p4)
   go_roundw
   case rel=>exact⟨k+1,by omega,by go_num,ae (by rw[jf,←aO];exact tW.out),ae (hb.out.trans (k4.low QV.out (boxed _ _)))⟩
   case measure=>simp[intOf];omega
  ·obtain rfl:k=N:=by omega
   clear hBr;go_wp2_with fail
   go_end0
   exact⟨rfl,by rw[←aO];exact hp.out,hb.out⟩
theorem KT{B b:Nat}{D:List UInt8}{w:World}{A:Option Addr}{N cap:Nat}{M:Nat}(hM:M≤800000000)(hN:N<65536)(cs:Nat→Ry)(E:Nat→List UInt8)(hc:dO w A N 6 fun k=>bH (cs k))(hA:0<N→∀g o,A=some ⟨g,o,none⟩→g<B)(f:Nat)(eg:∀args w,(callFunc f args).run ah w=.ok (.enter f args) w)(h:gj B b D w)(hBw:B≤w.heap.size)(hlen:D.length+2+((aF N).flatMap E).length≤M)(hf:∀k,k<N→∀W D',Below B w W→gj B b D' W→D'.length≤M→B≤W.heap.size→Calls ah f #[.pointer (some ⟨b,0,none⟩),.agg (bH (cs k)).toArray] W (Put B b D' (E k) W)):Calls ah 38 #[.pointer (some ⟨b,0,none⟩),.slice A N cap,.func (.func f) #[.pointer (some ⟨b,0,none⟩)] #[]] w (Put B b D (fH 2 N++(aF N).flatMap E) w):=by
 have hu:=fun u=>lS N hN u
 have hw:IntKind.u16.wrap (N:Int)=(N:Int):=by
  show(N:Int)%65536=_;omega
 have hput:=fun u(hu:aW w u)=>fM (w:=u) [be 2 N] (h.below hu) (by simp) (by rw[cZ,bZ,aP];omega) (aw hBw hu.size) 1 rfl
 rw[show fG [be 2 N]=fH 2 N by rw[cZ,bZ]]at hput;obtain⟨HC,HF,HA,HB,HLen,HU,jo⟩:=nn hc hf hA hBw hlen hu hput;unfold Put at HF⊢;clear hc hf hA hBw hlen h hu hput;go_enter Tryz.func38,Tryz.ntmps38;go_wp2_with(first
  |(go_at_call 87;refine(HU.out _).mono ?_;rintro r w1⟨rfl,d1⟩)
  |(go_at_call 30;(refine(jo.out _ d1).mono ?_);rintro r w2⟨rfl,p2,k2⟩;obtain⟨HP2,lQ⟩:=aL p2 (k2.low HB.out d1);clear p2 k2))
 go_loopw [17] (fun v17 wr=>∃k:Nat,k≤N∧v17=.int .i64 k∧ag (gj B b (D++fH 2 N++(aF k).flatMap E) wr)∧ag (Wrote B b w wr)) (fun v17 _=>N-(intOf v17).toNat)
 case atStart=>exact⟨0,bj _,rfl,ae (by rw[show(aF 0).flatMap E=[]from rfl,ep];exact HP2.out),lQ⟩
 case round=>
  obtain⟨k,hk,rfl,hp,hb⟩:=hrel;have hBr:=aw HB.out hb.out.below.size;have QV:=ae hBr;by_cases hlt:k<N
  ·have hlr:(D++fH 2 N++(aF k).flatMap E).length≤M:=by
    have h1:=gC E hk;have h2:=HLen.out;simp only[aj,aP]at*;omega
   obtain⟨_,q,o,rfl,hcell⟩:=HC.out k hlt;have hcall:=fun u(hu:aW wr u)=>HF.out k hlt u (D++fH 2 N++(aF k).flatMap E) (hb.out.below.trans (hu.mono hBr)) (hp.out.below hu) hlr (aw hBr hu.size)
   dsimp only at hcell;generalize cs k=x at hcell hcall;obtain⟨id,key,⟨⟨v,hi,lo⟩,po⟩⟩:=x;unfold bH at hcell hcall;simp only at hcell hcall;have d0:=(hb.out.below.cell (p:=⟨q,o+k*6+0,none⟩) (HA.out aR _ _ rfl)).trans (hcell 0 _ rfl);have d1:=(hb.out.below.cell (p:=⟨q,o+k*6+1,none⟩) (HA.out aR _ _ rfl)).trans (hcell 1 _ rfl);have d2:=(hb.out.below.cell (p:=⟨q,o+k*6+2,none⟩) (HA.out aR _ _ rfl)).trans (hcell 2 _ rfl);have d3:=(hb.out.below.cell (p:=⟨q,o+k*6+3,none⟩) (HA.out aR _ _ rfl)).trans (hcell 3 _ rfl);have d4:=(hb.out.below.cell (p:=⟨q,o+k*6+4,none⟩) (HA.out aR _ _ rfl)).trans (hcell 4 _ rfl);have d5:=(hb.out.below.cell (p:=⟨q,o+k*6+5,none⟩) (HA.out aR _ _ rfl)).trans (hcell 5 _ rfl);rw[cq]at d0;have bG:=ae hcall;clear hcall hcell;clear hlr hBr;go_wp2_with(go_at_fn f;(with_reducible refine(bG.out _ (boxed _ _)).mono ?_);rintro r w4⟨rfl,p4,k4⟩;have tW:=ae p4;clear p4)
   go_roundw
   case rel=>exact⟨k+1,by omega,by go_num,ae (by rw[jf,←aO];exact tW.out),ae (hb.out.trans (k4.low QV.out (boxed _ _)))⟩
   case measure=>simp[intOf];omega
  ·obtain rfl:k=N:=by omega
   clear hBr;go_wp2_with fail
   go_end0
   exact⟨rfl,by rw[←aO];exact hp.out,hb.out⟩
theorem KU{B b:Nat}{D:List UInt8}{w:World}{A:Option Addr}{N cap:Nat}{M:Nat}(hM:M≤800000000)(hN:N<65536)(cs:Nat→bS)(E:Nat→List UInt8)(hc:dO w A N 8 fun k=>bS.vals (cs k))(hA:0<N→∀g o,A=some ⟨g,o,none⟩→g<B)(f:Nat)(eg:∀args w,(callFunc f args).run ah w=.ok (.enter f args) w)(hsh:∀k,k<N→∃A1 n1 c1 A2 n2 c2 A3 n3 c3,(cs k).tv=.slice A1 n1 c1∧(cs k).av=.slice A2 n2 c2∧(cs k).ev=.slice A3 n3 c3)(h:gj B b D w)(hBw:B≤w.heap.size)(hlen:D.length+2+((aF N).flatMap E).length≤M)(hf:∀k,k<N→∀W D',Below B w W→gj B b D' W→D'.length≤M→B≤W.heap.size→Calls ah f #[.pointer (some ⟨b,0,none⟩),.agg (bS.vals (cs k)).toArray] W (Put B b D' (E k) W)):Calls ah 32 #[.pointer (some ⟨b,0,none⟩),.slice A N cap,.func (.func f) #[.pointer (some ⟨b,0,none⟩)] #[]] w (Put B b D (fH 2 N++(aF N).flatMap E) w):=by
 have hu:=fun u=>lS N hN u
 have hw:IntKind.u16.wrap (N:Int)=(N:Int):=by
  show(N:Int)%65536=_;omega
 have hput:=fun u(hu:aW w u)=>fM (w:=u) [be 2 N] (h.below hu) (by simp) (by rw[cZ,bZ,aP];omega) (aw hBw hu.size) 1 rfl
 rw[show fG [be 2 N]=fH 2 N by rw[cZ,bZ]]at hput;obtain⟨HC,HF,HA,HB,HLen,HU,jo,HSh⟩:=YF hc hf hA hBw hlen hu hput hsh;clear hsh;unfold Put at HF⊢;clear hc hf hA hBw hlen h hu hput;go_enter Tryz.func32,Tryz.ntmps32;go_wp2_with(first
  |(go_at_call 87;refine(HU.out _).mono ?_;rintro r w1⟨rfl,d1⟩)
  |(go_at_call 30;(refine(jo.out _ d1).mono ?_);rintro r w2⟨rfl,p2,k2⟩;obtain⟨HP2,lQ⟩:=aL p2 (k2.low HB.out d1);clear p2 k2))
 go_loopw [17] (fun v17 wr=>∃k:Nat,k≤N∧v17=.int .i64 k∧ag (gj B b (D++fH 2 N++(aF k).flatMap E) wr)∧ag (Wrote B b w wr)) (fun v17 _=>N-(intOf v17).toNat)
 case atStart=>exact⟨0,bj _,rfl,ae (by rw[show(aF 0).flatMap E=[]from rfl,ep];exact HP2.out),lQ⟩
 case round=>
  obtain⟨k,hk,rfl,hp,hb⟩:=hrel;have hBr:=aw HB.out hb.out.below.size;have QV:=ae hBr;by_cases hlt:k<N
  ·have hlr:(D++fH 2 N++(aF k).flatMap E).length≤M:=by
    have h1:=gC E hk;have h2:=HLen.out;simp only[aj,aP]at*;omega
   obtain⟨_,q,o,rfl,hcell⟩:=HC.out k hlt;have hcall:=fun u(hu:aW wr u)=>HF.out k hlt u (D++fH 2 N++(aF k).flatMap E) (hb.out.below.trans (hu.mono hBr)) (hp.out.below hu) hlr (aw hBr hu.size)
   dsimp only at hcell;obtain⟨A1,n1,c1,A2,n2,c2,A3,n3,c3,e1,e2,e3⟩:=HSh.out k hlt;generalize cs k=x at hcell hcall e1 e2 e3;obtain⟨⟨key,bu,user,tags,aQ,ex,bm,ends⟩,tv,av,ev⟩:=x;unfold bS.vals at hcell hcall;simp only at hcell hcall e1 e2 e3;subst e1 e2 e3;have d0:=(hb.out.below.cell (p:=⟨q,o+k*8+0,none⟩) (HA.out aR _ _ rfl)).trans (hcell 0 _ rfl);have d1:=(hb.out.below.cell (p:=⟨q,o+k*8+1,none⟩) (HA.out aR _ _ rfl)).trans (hcell 1 _ rfl);have d2:=(hb.out.below.cell (p:=⟨q,o+k*8+2,none⟩) (HA.out aR _ _ rfl)).trans (hcell 2 _ rfl);have d3:=(hb.out.below.cell (p:=⟨q,o+k*8+3,none⟩) (HA.out aR _ _ rfl)).trans (hcell 3 _ rfl);have d4:=(hb.out.below.cell (p:=⟨q,o+k*8+4,none⟩) (HA.out aR _ _ rfl)).trans (hcell 4 _ rfl);have d5:=(hb.out.below.cell (p:=⟨q,o+k*8+5,none⟩) (HA.out aR _ _ rfl)).trans (hcell 5 _ rfl);have d6:=(hb.out.below.cell (p:=⟨q,o+k*8+6,none⟩) (HA.out aR _ _ rfl)).trans (hcell 6 _ rfl);have d7:=(hb.out.below.cell (p:=⟨q,o+k*8+7,none⟩) (HA.out aR _ _ rfl)).trans (hcell 7 _ rfl);rw[cq]at d0;have bG:=ae hcall;clear hcall hcell;clear hlr hBr;go_wp2_with(go_at_fn f;(with_reducible refine(bG.out _ (boxed _ _)).mono ?_);rintro r w4⟨rfl,p4,k4⟩;have tW:=ae p4;clear p4)
   go_roundw
   case rel=>exact⟨k+1,by omega,by go_num,ae (by rw[jf,←aO];exact tW.out),ae (hb.out.trans (k4.low QV.out (boxed _ _)))⟩
   case measure=>simp[intOf];omega
  ·obtain rfl:k=N:=by omega
   clear hBr;go_wp2_with fail
   go_end0
   exact⟨rfl,by rw[←aO];exact hp.out,hb.out⟩
theorem sx{α:Type}(vals:α→List Value)(K:Nat)(hv:∀x,(vals x).length=K)(z:α){w:World}{A:Option Addr}{cap:Nat}{l:List α}(h:a8 w (.slice A l.length cap) l.length K (l.flatMap vals)):dO w A l.length K fun k=>vals (l.getD k z):=by
 intro k hk;have:=h.iZ k hk;have hx:l[k]? =some l[k]:=af hk;dsimp only at this⊢;rw[dU vals K hv l k _ hx]at this;rw[aE,hx,Option.getD_some];exact this
theorem qg{w:World}{A:Option Addr}{n cap K:Nat}{xs:List Value}(hK:0<K)(h:a8 w (.slice A n cap) n K xs):0<n→∀g o,A=some ⟨g,o,none⟩→g<w.heap.size:=by
 rintro h0 g o rfl;obtain⟨A',cap',e,hl,hc⟩:=h;injection e with e1 _ _
 obtain⟨g',o',ha,hcc⟩:=hc h0;rw[←e1]at ha;injection ha with ha
 injection ha with ha _ _
 subst ha;have hz:0<xs.length:=by rw[hl];exact Nat.mul_pos h0 hK
 exact ak w _ (hcc 0 _ (af hz))
theorem jY{α β:Type}(f:α→List β)(z:α)(l:List α):(aF l.length).flatMap (fun k=>f (l.getD k z))=l.flatMap f:=by
 rw[←List.flatMap_map (f:=fun k=>l.getD k z) (g:=f)];congr 1;apply List.ext_getElem?;intro i;rw[List.getElem?_map];rcases Nat.lt_or_ge i l.length with h|h
 ·rw[List.getElem?_range h,Option.map_some,aE,af h,Option.getD_some]
 ·rw[ux (by rw[List.length_range];exact h),ux h,Option.map_none]
theorem getD_mem{α:Type}(z:α){l:List α}{k:Nat}(h:k<l.length):l.getD k z∈l:=by
 rw[aE,af h,Option.getD_some];exact aZ h
def Ad.none_:Ad:=⟨false,0,0⟩
def En.none_:En:=(Ad.none_,0)
def Ry.none_:Ry:=⟨0,⟨#[]⟩,En.none_⟩
theorem VL{b:Nat}{D:List UInt8}{w0 w:World}{v:Value}{l:List ByteArray}(fb:ByteArray→List UInt8)(hr:a8 w0 v l.length 1 (strCells l))(hb:aW w0 w)(hl:l.length<65536)(f:Nat)(eg:∀args w,(callFunc f args).run ah w=.ok (.enter f args) w)(h:gj w0.heap.size b D w){M:Nat}(hM:M≤800000000)(hlen:D.length+2+(l.flatMap fb).length≤M)(hf:∀x∈l,∀W D',Below w0.heap.size w W→gj w0.heap.size b D' W→D'.length≤M→w0.heap.size≤W.heap.size→Calls ah f #[.pointer (some ⟨b,0,none⟩),.string x] W (Put w0.heap.size b D' (fb x) W)):Calls ah 34 #[.pointer (some ⟨b,0,none⟩),v,.func (.func f) #[.pointer (some ⟨b,0,none⟩)] #[]] w (Put w0.heap.size b D (bU fb l) w):=by
 obtain⟨A,cap,rfl⟩:=hr.shape;unfold bU;rw[←jY fb ⟨#[]⟩ l]at hlen⊢;exact QU hM hl (fun k=>l.getD k ⟨#[]⟩) (fun k=>fb (l.getD k ⟨#[]⟩)) (wI (hr.below hb)) (qg aJ hr) f eg h hb.size hlen fun k hk W D' h1 h2 h3 h4=>hf _ (getD_mem _ hk) W D' h1 h2 h3 h4
theorem QW{b:Nat}{D:List UInt8}{w0 w:World}{v:Value}{l:List Ad}(fb:Ad→List UInt8)(hr:a8 w0 v l.length 3 (dy l))(hb:aW w0 w)(hl:l.length<65536)(f:Nat)(eg:∀args w,(callFunc f args).run ah w=.ok (.enter f args) w)(h:gj w0.heap.size b D w){M:Nat}(hM:M≤800000000)(hlen:D.length+2+(l.flatMap fb).length≤M)(hf:∀x∈l,∀W D',Below w0.heap.size w W→gj w0.heap.size b D' W→D'.length≤M→w0.heap.size≤W.heap.size→Calls ah f #[.pointer (some ⟨b,0,none⟩),.agg x.cells] W (Put w0.heap.size b D' (fb x) W)):Calls ah 88 #[.pointer (some ⟨b,0,none⟩),v,.func (.func f) #[.pointer (some ⟨b,0,none⟩)] #[]] w (Put w0.heap.size b D (bU fb l) w):=by
 obtain⟨A,cap,rfl⟩:=hr.shape;unfold bU;rw[←jY fb Ad.none_ l]at hlen⊢;exact KO hM hl (fun k=>l.getD k Ad.none_) (fun k=>fb (l.getD k Ad.none_)) (sx (fun a:Ad=>a.cells.toList) 3 (fun _=>rfl) Ad.none_ (hr.below hb)) (qg aJ hr) f eg h hb.size hlen fun k hk W D' h1 h2 h3 h4=>hf _ (getD_mem _ hk) W D' h1 h2 h3 h4
theorem QX{b:Nat}{D:List UInt8}{w0 w:World}{v:Value}{l:List En}(fb:En→List UInt8)(hr:a8 w0 v l.length 4 (l9 l))(hb:aW w0 w)(hl:l.length<65536)(f:Nat)(eg:∀args w,(callFunc f args).run ah w=.ok (.enter f args) w)(h:gj w0.heap.size b D w){M:Nat}(hM:M≤800000000)(hlen:D.length+2+(l.flatMap fb).length≤M)(hf:∀x∈l,∀W D',Below w0.heap.size w W→gj w0.heap.size b D' W→D'.length≤M→w0.heap.size≤W.heap.size→Calls ah f #[.pointer (some ⟨b,0,none⟩),.agg (cF x).toArray] W (Put w0.heap.size b D' (fb x) W)):Calls ah 90 #[.pointer (some ⟨b,0,none⟩),v,.func (.func f) #[.pointer (some ⟨b,0,none⟩)] #[]] w (Put w0.heap.size b D (bU fb l) w):=by
 obtain⟨A,cap,rfl⟩:=hr.shape;unfold bU;rw[←jY fb En.none_ l]at hlen⊢;exact KR hM hl (fun k=>l.getD k En.none_) (fun k=>fb (l.getD k En.none_)) (sx cF 4 fF En.none_ (hr.below hb)) (qg aJ hr) f eg h hb.size hlen fun k hk W D' h1 h2 h3 h4=>hf _ (getD_mem _ hk) W D' h1 h2 h3 h4
theorem Ba{b:Nat}{D:List UInt8}{w0 w:World}{v:Value}{l:List Ry}(fb:Ry→List UInt8)(hr:eG w0 v l)(hb:aW w0 w)(hl:l.length<65536)(f:Nat)(eg:∀args w,(callFunc f args).run ah w=.ok (.enter f args) w)(h:gj w0.heap.size b D w){M:Nat}(hM:M≤800000000)(hlen:D.length+2+(l.flatMap fb).length≤M)(hf:∀x∈l,∀W D',Below w0.heap.size w W→gj w0.heap.size b D' W→D'.length≤M→w0.heap.size≤W.heap.size→Calls ah f #[.pointer (some ⟨b,0,none⟩),.agg (bH x).toArray] W (Put w0.heap.size b D' (fb x) W)):Calls ah 38 #[.pointer (some ⟨b,0,none⟩),v,.func (.func f) #[.pointer (some ⟨b,0,none⟩)] #[]] w (Put w0.heap.size b D (bU fb l) w):=by
 obtain⟨A,cap,rfl⟩:=a8.shape hr;unfold bU;rw[←jY fb Ry.none_ l]at hlen⊢;exact KT hM hl (fun k=>l.getD k Ry.none_) (fun k=>fb (l.getD k Ry.none_)) (sx bH 6 bI Ry.none_ (a8.below hr hb)) (qg aJ hr) f eg h hb.size hlen fun k hk W D' h1 h2 h3 h4=>hf _ (getD_mem _ hk) W D' h1 h2 h3 h4
theorem one_byte(u:World)(n:Nat)(hn:n<256):(convert 71 9 (.slice (some ⟨u.heap.size,0,none⟩) 1 1)).run ah (u.alloc (.cells #[.int .u8 n] 5))=.ok (.string (be 1 n)) (u.alloc (.cells #[.int .u8 n] 5)):=by
 have hback:=run_convert_bytes_back (P:=ah) (u.alloc (.cells #[.int .u8 n] 5)) 71 9 5 ⟨u.heap.size,0,none⟩ 1 (fH 1 n) cT cD bq (fun j hj=>by
  rw[aP]at hj;obtain rfl:j=0:=by omega
  have h0:=(aH.new u 5 #[.int .u8 n]).cell 0;have hv:((fH 1 n)[0]'(by rw[aP];omega)).toNat=n:=by
   simp[fH];omega
  simp only[hv];exact h0)
 rw[aP]at hback;exact hback
theorem sy{B b:Nat}{D:List UInt8}{w:World}(r:Ry)(oi:r.id<256)(ok:zH r.fin.1)(op:r.fin.2<65536)(hk:r.key.size≤1000000)(h:gj B b D w)(hlen:D.length≤800000000)(hBw:B≤w.heap.size):Calls ah 39 #[.pointer (some ⟨b,0,none⟩),.agg (bH r).toArray] w (Put B b D (qK r) w):=by
 have hone:=fun u=>one_byte u r.id oi
 have hkl:r.key.data.toList.length=r.key.size:=by rw[Array.length_toList,ByteArray.size_data]
 have hput:=fun u(hu:aW w u)=>fM (w:=u) [be 1 r.id,r.key] (h.below hu) (by simp) (by rw[eE,bZ,aj,aP,hkl];omega) (aw hBw hu.size) 2 rfl
 have hend:=fun u(hu:B≤u.heap.size)(hp:gj B b (D++fG [be 1 r.id,r.key]) u)=>yf r.fin ok op hp (by rw[eE,bZ,aj,aj,aP,hkl];omega) hu
 have fY:ag (w.heap.size≠b):=ae (by have:=h.lt;omega);obtain⟨X,hX⟩:=bw (qK r);rw[←hX];have hX2:D++fG [be 1 r.id,r.key]++Gm r.fin=D++X:=by rw[hX,eE,bZ];unfold qK;simp only[aO]
 have HX:=ae hX2;have hb1:=boxed w (.cells (bH r).toArray 57);obtain⟨HP,HB1,HB⟩:=bz (aH.new w 57 (bH r).toArray) hb1 hBw;generalize fG [be 1 r.id,r.key]=Y at hput hend hX2 HX;unfold Put at hend⊢;obtain⟨id,key,⟨⟨v,hi,lo⟩,po⟩⟩:=r;unfold cF at hend;unfold bH at HP HB1⊢;simp only at*;obtain⟨afi,jo,VM⟩:=bz hone hput hend;clear hput hend hX hX2 hb1 h hBw ok op hk hkl oi;go_enter Tryz.func39,Tryz.ntmps39;go_upto_region 1 with fail
 generalize w.alloc (.cells #[.int .u8 id,.string key,.bool v,.int .u64 hi,.int .u64 lo,.int .u16 po] 57)=w1 at HP HB1⊢;generalize w.heap.size=P at HP fY⊢;obtain⟨a0,a1⟩:=jQ HP;have afj:=hone w1;have u1:=boxed w1 (.cells #[.int .u8 id] 5);have b1:=ai a1 u1;have hp1:=jo.out _ (after HB1.out u1);rw[show(w1.alloc (.cells #[.int .u8 id] 5)).heap.size=w1.heap.size+1 by simp]at hp1;simp only[jg,List.map_nil]at hp1;have od:=ae hp1;clear hone hp1;go_upto_region 2 with(go_at_call 30;refine od.out.mono ?_;rintro r w2⟨rfl,p2,k2⟩)
 have HP2:=ae (k2.kept _ _ _ (bK HP u1) fY.out aJ);obtain⟨-,-,c2,c3,c4,c5⟩:=zl HP2;have hw2:=aw HB.out (aw (after HB1.out u1).size k2.below.size);obtain⟨HE2,lQ⟩:=aL (VM.out w2 hw2 p2) (k2.low HB.out (after HB1.out u1));clear a0 a1 b1 afj u1 hw2 k2 p2;go_wp2_with(go_at_call 91;refine HE2.out.mono ?_;rintro r w3⟨rfl,p3,k3⟩;rw[HX.out]at p3)
 go_end0
 exact⟨rfl,p3,lQ.out.trans k3⟩
def bS.none_:bS:=⟨⟨⟨#[]⟩,⟨#[]⟩,⟨#[]⟩,[],[],0,0,[]⟩,au,au,au⟩
theorem Bc{b:Nat}{D:List UInt8}{w0 w:World}{v:Value}{xs:List bS}(fb:Pr→List UInt8)(hr:a8 w0 v xs.length 8 (cY xs))(hx:∀X∈xs,fc w0 X)(hb:aW w0 w)(hl:xs.length<65536)(f:Nat)(eg:∀args w,(callFunc f args).run ah w=.ok (.enter f args) w)(h:gj w0.heap.size b D w){M:Nat}(hM:M≤800000000)(hlen:D.length+2+((xs.map (·.p)).flatMap fb).length≤M)(hf:∀X∈xs,∀W D',Below w0.heap.size w W→gj w0.heap.size b D' W→D'.length≤M→w0.heap.size≤W.heap.size→Calls ah f #[.pointer (some ⟨b,0,none⟩),.agg X.vals.toArray] W (Put w0.heap.size b D' (fb X.p) W)):Calls ah 32 #[.pointer (some ⟨b,0,none⟩),v,.func (.func f) #[.pointer (some ⟨b,0,none⟩)] #[]] w (Put w0.heap.size b D (bU fb (xs.map (·.p))) w):=by
 obtain⟨A,cap,rfl⟩:=hr.shape;unfold bU;rw[ay,List.flatMap_map]at*;rw[←jY (fun X:bS=>fb X.p) bS.none_ xs]at hlen⊢;exact KU hM hl (fun k=>xs.getD k bS.none_) (fun k=>fb (xs.getD k bS.none_).p) (sx bS.vals 8 aB bS.none_ (hr.below hb)) (qg aJ hr) f eg
  (fun k hk=>by
    have hm:=hx _ (getD_mem bS.none_ hk);obtain⟨A1,c1,e1⟩:=hm.tags.shape;obtain⟨A2,c2,e2⟩:=hm.aQ.shape;obtain⟨A3,c3,e3⟩:=hm.ends.shape;exact⟨A1,_,c1,A2,_,c2,A3,_,c3,e1,e2,e3⟩)
  h hb.size hlen fun k hk W D' h1 h2 h3 h4=>hf _ (getD_mem _ hk) W D' h1 h2 h3 h4
theorem KV{B b:Nat}{D:List UInt8}{w:World}(h:gj B b D w):Calls ah 93 #[.pointer (some ⟨b,0,none⟩)] w fun r w'=>r=.returned (.int .i64 (D.length:Int))∧w'=w:=by
 obtain⟨p,hB,v,hbk,hown,hne⟩:∃p,Lib.BuilderAt 75 5 B b p (Lib.byteCells D) w:=by
  rcases h with h|h
  ·exact⟨_,h⟩
  ·exact⟨_,h⟩
 rw[Lib.byteCells_length]at hown;obtain⟨A,cap,rfl⟩:∃A cap,v=.slice A D.length cap:=by
  rcases hown.2 with⟨rfl,hz⟩|⟨g,cap,cur,hv,r⟩
  ·exact⟨none,0,by rw[hz]⟩
  ·exact⟨_,_,hv⟩
 have c1:w.cell? ⟨b,1,none⟩=some (.slice A D.length cap):=by rw[Lib.cell_of_heap hbk];rfl
 generalize D.length=N at*;clear hbk hown hne;go_enter Tryz.func93,Tryz.ntmps93;go_wp2_with fail
 go_ret;exact⟨rfl,rfl⟩
theorem zN{B b:Nat}{l:List UInt8}{w:World}(h:gj B b l w)(h0:l≠[]):Calls ah 94 #[.pointer (some ⟨b,0,none⟩)] w fun r w'=>r=.returned (.string ⟨l.toArray⟩)∧Below B w w':=by
 obtain⟨p,hB,v,hbk,hown,hne⟩:∃p,Lib.BuilderAt 75 5 B b p (Lib.byteCells l) w:=by
  rcases h with h|h
  ·exact⟨_,h⟩
  ·exact⟨_,h⟩
 have hl0:l.length≠0:=by simpa using h0
 rw[Lib.byteCells_length]at hown;obtain⟨g,cap,cur,rfl,hbg,hg,hnc,hcm,hcs,htake⟩:∃g cap cur,v=.slice (some ⟨g,0,none⟩) l.length cap∧B≤g∧w.heap[g]? =some (.cells cur 5 (0,0))∧l.length≤cap∧cap≤maxLen∧cur.size=cap*1∧cur.toList.take (l.length*1)=Lib.byteCells l:=by
  rcases hown.2 with⟨_,hz⟩|⟨g,cap,cur,hv,r⟩
  ·exact absurd hz hl0
  ·exact⟨g,cap,cur,hv,r⟩
 have c1:w.drew.cell? ⟨b,1,none⟩=some (.slice (some ⟨g,0,none⟩) l.length cap):=by
  have:w.drew.heap[b]? =some (.cells #[p,.slice (some ⟨g,0,none⟩) l.length cap] 75 (0,0)):=hbk;rw[Lib.cell_of_heap this];rfl
 have hSD:(Builtin.unsafeSliceData_ #[71] 174 #[.slice (some ⟨g,0,none⟩) l.length cap]).run ah w.drew=.ok (.pointer (some ⟨g,0,none⟩)) w.drew:=Lib.run_unsafeSliceData_row _ _ _ _ _ _ aR;have hUS:(Builtin.unsafeString_ #[174,3] 9 #[.pointer (some ⟨g,0,none⟩),.int .i64 l.length]).run ah w.drew=.ok (.string ⟨l.toArray⟩) (w.drew.freeze ⟨g,0,none⟩ l.length):=by
  refine Lib.run_unsafeString_row w.drew 174 3 9 5 Tryz.underlying174 bo g cur.size (by have hg':w.drew.heap[g]? =some (.cells cur 5 (0,0)):=hg;simp[World.shape?,hg']) l h0 aR (by unfold maxLen at hcm;omega) ?_;intro j x hx;have:=hown.cells (g:=g) rfl j (.int .u8 x.toNat) (by simp[Lib.byteCells,hx]);exact this
 have mixed:ah.follows Departure.mixedOrders=true:=by kernel_rfl
 generalize l.length=N at*;generalize(⟨l.toArray⟩:ByteArray)=T at*;clear hbk hown hne hg htake hcs h0 hl0;go_enter Tryz.func94,Tryz.ntmps94;go_wp2_with fail
 go_region_o
 all_goals(go_wp2_with fail;go_ret;exact⟨rfl,Lib.below_freeze (Below.drew (aI B w)) (p:=⟨g,0,none⟩) hbg _⟩)
theorem sA{B b:Nat}{D:List UInt8}{w:World}(h:gj B b D w)(h0:D≠[]):Calls ah 42 #[.pointer (some ⟨b,0,none⟩)] w fun r w'=>(∃(t:ByteArray)(e:Nat),(t,e)=(if 32768<D.length then((⟨#[]⟩:ByteArray),4)else(iJ D,0))∧r=.returned (.tuple #[.string t,.int .i64 e]))∧Below B w w':=by
 have hl:=KV h;have hs:=zN h h0;rw[show(⟨D.toArray⟩:ByteArray)=iJ D from rfl]at hs;obtain⟨R,hR⟩:=bw ((if 32768<D.length then((⟨#[]⟩:ByteArray),4)else(iJ D,0)));rw[←hR];generalize iJ D=T at hs hR;generalize D.length=N at hl hR;obtain⟨HL,HS⟩:=aL hl hs;clear hl hs h h0;go_enter Tryz.func42,Tryz.ntmps42;by_cases k1:32768<N
 ·have q1:(32768:Int)<(N:Int):=by omega
  rw[if_pos k1]at hR;have HR:=ae hR;clear hR;go_wp2_with(go_at_call 93;refine HL.out.mono ?_;rintro r w1⟨rfl,rfl⟩)
  go_ret2;exact⟨⟨_,4,HR.out.symm,rfl⟩,aI _ _⟩
 ·have q1:¬(32768:Int)<(N:Int):=by omega
  rw[if_neg k1]at hR;have HR:=ae hR;clear hR;go_wp2_with(first
   |(go_at_call 93;refine HL.out.mono ?_;rintro r w1⟨rfl,rfl⟩)
   |(go_at_call 94;refine HS.out.mono ?_;rintro r w2⟨rfl,d2⟩))
  go_ret2;exact⟨⟨_,0,HR.out.symm,rfl⟩,d2⟩
theorem tX{B b:Nat}{w W:World}(_h:Wrote B b w W)(cs:Array Value)(t:TypeId):aH (W.alloc (.cells cs t)) W.heap.size t cs:=aH.new W t cs
theorem yg{W:World}{g n:Nat}(h:aH W g 5 #[.int .u8 n])(hn:n<256):(convert 71 9 (.slice (some ⟨g,0,none⟩) 1 1)).run ah W=.ok (.string (be 1 n)) W:=by
 have hback:=run_convert_bytes_back (P:=ah) W 71 9 5 ⟨g,0,none⟩ 1 (fH 1 n) cT cD bq (fun j hj=>by
  rw[aP]at hj;obtain rfl:j=0:=by omega
  have h0:=h.cell 0;have hv:((fH 1 n)[0]'(by rw[aP];omega)).toNat=n:=by
   simp[fH];omega
  simp only[hv];exact h0)
 rw[aP]at hback;exact hback
theorem ve{b:Nat}{D:List UInt8}{w0 w:World}{X:bS}(hX:fc w0 X)(ok:Ky X.p)(hb:aW w0 w)(h:gj w0.heap.size b D w)(hlen:D.length+(qs X.p).length≤700000000):Calls ah 33 #[.pointer (some ⟨b,0,none⟩),.agg X.vals.toArray] w (Put w0.heap.size b D (qs X.p) w):=by
 have hsum:(qs X.p).length=X.p.key.data.toList.length+(X.p.bu.data.toList.length+((oy X.p.user).length+((bU oy X.p.tags).length+((bU zj X.p.aQ).length+(8+(1+(bU Gm X.p.ends).length)))))):=by
  unfold qs;simp only[aj,aP]
 have htl:(bU oy X.p.tags).length=2+(X.p.tags.flatMap oy).length:=by unfold bU;rw[aj,aP]
 have hal:(bU zj X.p.aQ).length=2+(X.p.aQ.flatMap zj).length:=by unfold bU;rw[aj,aP]
 have hel:(bU Gm X.p.ends).length=2+(X.p.ends.flatMap Gm).length:=by unfold bU;rw[aj,aP]
 obtain⟨D1,hD1⟩:=bw (D++fG [X.p.key,X.p.bu]);obtain⟨D2,hD2⟩:=bw (D1++oy X.p.user);obtain⟨D3,hD3⟩:=bw (D2++bU oy X.p.tags);obtain⟨D4,hD4⟩:=bw (D3++bU zj X.p.aQ);have l1:D1.length=D.length+(X.p.key.data.toList.length+X.p.bu.data.toList.length):=by rw[hD1,eE];simp only[aj]
 have l2:D2.length=D1.length+(oy X.p.user).length:=by rw[hD2,aj]
 have l3:D3.length=D2.length+(bU oy X.p.tags).length:=by rw[hD3,aj]
 have l4:D4.length=D3.length+(bU zj X.p.aQ).length:=by rw[hD4,aj]
 have l5:D4.length+9≤700000000:=by omega
 have hput:=fun u(hu:aW w u)=>fM (w:=u) [X.p.key,X.p.bu] (h.below hu) (by simp) (by rw[eE,aj];omega) (aw hb.size hu.size) 2 rfl
 rw[←hD1]at hput;have htx:=fun u(hu:w0.heap.size≤u.heap.size)(hp:gj w0.heap.size b D1 u)=>mc X.p.user ok.user hp aR hu
 have hts:=fun u(hu:aW w0 u)(hp:gj w0.heap.size b D2 u)=>VL oy hX.tags hu ok.tags.1 41 (enters_of Tryz.func41 bo rfl) hp (ax 800000000) aR fun x hx W D' h1 h2 h3 h4=>mc x (ok.tags.2 x hx) h2 aR h4
 have has:=fun u(hu:aW w0 u)(hp:gj w0.heap.size b D3 u)=>QW zj hX.aQ hu ok.aQ.1 89 (enters_of Tryz.func89 bo rfl) hp (ax 800000000) aR fun x hx W D' h1 h2 h3 h4=>u9 x (ok.aQ.2 x hx) h2 aR h4
 have hes:=fun u D5(hl:D5.length=D4.length+9)(hu:aW w0 u)(hp:gj w0.heap.size b D5 u)=>QX Gm hX.ends hu ok.ends.1 91 (enters_of Tryz.func91 bo rfl) hp (ax 800000000) aR fun x hx W D' h1 h2 h3 h4=>yf x (ok.ends.2 x hx).1 (ok.ends.2 x hx).2 h2 aR h4
 have fY:ag (w.heap.size≠b):=ae (by have:=h.lt;omega);obtain⟨HW0,HD2,HD3,HD4⟩:=cU hb hD2 hD3 hD4;have hoe:=ok.exp;have hor:=ok.bm;obtain⟨R,hR⟩:=bw (D++qs X.p);have hR2:R=D4++fG [be 8 X.p.exp,be 1 X.p.bm]++bU Gm X.p.ends:=by
  rw[hR,hD4,hD3,hD2,hD1,eE,eE,bZ,bZ];unfold qs;simp only[aO]
 unfold Put at htx hts has hes⊢;rw[←hR];have HR:=ae hR2;obtain⟨A1,c1,e1⟩:=hX.tags.shape;obtain⟨A2,c2,e2⟩:=hX.aQ.shape;obtain⟨A3,c3,e3⟩:=hX.ends.shape;clear hsum htl hal hel l1 l2 l3 hD1 hD2 hD3 hD4 hR hR2 hX ok h hlen hb;obtain⟨⟨key,bu,user,tags,aQ,ex,bm,ends⟩,tv,av,ev⟩:=X;simp only at*;subst e1 e2 e3;unfold bS.vals;simp only;generalize bU oy tags=LT at*;generalize bU zj aQ=LA at*;generalize bU Gm ends=LE at*;generalize oy user=TU at*;generalize tags.length=NT at*;generalize aQ.length=NA at*;generalize ends.length=NE at*;obtain⟨jo,HTx,HTs,HAs,HEs⟩:=eB hput htx hts has hes;clear hput htx hts has hes;obtain⟨HB1,HP⟩:=aL (boxed w (.cells #[.string key,.string bu,.string user,.slice A1 NT c1,.slice A2 NA c2,.int .u64 ex,.int .u8 bm,.slice A3 NE c3] 47)) (aH.new w 47 #[.string key,.string bu,.string user,.slice A1 NT c1,.slice A2 NA c2,.int .u64 ex,.int .u8 bm,.slice A3 NE c3]);go_enter Tryz.func33,Tryz.ntmps33;go_upto_region 1 with fail
 generalize w.alloc (.cells #[.string key,.string bu,.string user,.slice A1 NT c1,.slice A2 NA c2,.int .u64 ex,.int .u8 bm,.slice A3 NE c3] 47)=w1 at HB1 HP⊢;generalize w.heap.size=P at HP fY⊢;obtain⟨a0,a1⟩:=jQ HP;have hp1:=jo.out w1 HB1.out;simp only[jg,List.map_nil]at hp1;have od:=ae hp1;clear hp1;go_upto_region 2 with(go_at_call 30;refine od.out.mono ?_;rintro r w2⟨rfl,p2,k2⟩)
 have HB0:=ae (HW0.out.trans (HB1.out.mono HW0.out.size));have HQ2:=ae (k2.kept _ _ _ HP.out fY.out aJ);have HW2:=ae (HB0.out.trans k2.below);obtain⟨HT2,lQ⟩:=aL (HTx.out w2 HW2.out.size p2) (k2.low HW0.out.size HB1.out);obtain⟨-,-,b2⟩:=jt HQ2;clear a0 a1 k2 p2 HP HB1 od;go_upto_region 3 with(go_at_call 41;refine HT2.out.mono ?_;rintro r w3⟨rfl,p3,k3⟩;rw[←HD2.out]at p3)
 have yi:=ae (k3.kept _ _ _ HQ2.out fY.out aJ);have HW3:=ae (HW2.out.trans k3.below);obtain⟨HT3,ki⟩:=aL (HTs.out w3 HW3.out p3) (lQ.out.trans k3);obtain⟨-,-,-,b3⟩:=dY yi;clear b2 k3 p3 HQ2 HW2 HT2 lQ;go_upto_region 4 with(go_at_call 34;refine HT3.out.mono ?_;rintro r w4⟨rfl,p4,k4⟩;rw[←HD3.out]at p4)
 have Nz:=ae (k4.kept _ _ _ yi.out fY.out aJ);have HW4:=ae (HW3.out.trans k4.below);obtain⟨HT4,AZ⟩:=aL (HAs.out w4 HW4.out p4) (ki.out.trans k4);obtain⟨-,-,-,-,b4⟩:=IZ Nz;clear b3 k4 p4 yi HW3 HT3 ki;go_upto_region 5 with(go_at_call 88;refine HT4.out.mono ?_;rintro r w5⟨rfl,p5,k5⟩;rw[←HD4.out]at p5)
 have Yo:=ae (k5.kept _ _ _ Nz.out fY.out aJ);obtain⟨Gh,EG,IB⟩:=bz (HW4.out.trans k5.below) (AZ.out.trans k5) p5;obtain⟨-,-,-,-,-,b5,b6⟩:=ad3 Yo;clear b4 k5 p5 Nz HW4 HT4 AZ;have hu64:=fun u=>rC ex aR u
 have HU:=ae hu64;have Hor:ag (bm<256):=ae aR;have hpn:=IB.out.below (Below.drew (aI _ w5));clear hu64;refine wp_region_held_drew (S:=(fun w'=>Wrote w0.heap.size b w5 w'∧w'.cell? ⟨P,5,none⟩=some (.int .u64 ex)∧w'.cell? ⟨P,6,none⟩=some (.int .u8 bm))) bo (⟨Wrote.of Gh.out.size (Below.drew (aI _ _)),b5,b6⟩) (fun hHeld=>?_);refine aY 0 ?_
 refine aY 1 ?_
 refine aY 2 ?_
 refine aY 4 ?_
 refine aY 5 ?_
 refine wpAnyH_ready (rs:=[3,6]) bo (by simp) ?_;refine ahO rfl (fun K hK=>?_) (ahO rfl (fun K hK=>?_) AllReadyH.nil)
 ·go_simp;refine(HU.out _).mono ?_;rintro r wb⟨rfl,db⟩
  (try have hsb:=aH.below hsb db (aH.lt hsb))
  (try have hone:=yg hsb Hor.out)
  have hpn:=hpn.below db;refine hK.out _ _ (⟨hHeld.1.trans (Wrote.of (aw Gh.out.size hHeld.1.below.size) db),ai hHeld.2.1 db,ai hHeld.2.2 db⟩) (fun hHeld=>?_);clear hK K;try simp only[ck]
  refine fA 6 fun K hK=>?_;go_simp;have hsb:=tX hHeld.1 #[.int .u8 bm] 5;have hone:=yg hsb Hor.out;have hpn:=hpn.below (boxed _ (.cells #[.int .u8 bm] 5));refine hK.out _ _ (⟨hHeld.1.trans (Wrote.of (aw Gh.out.size hHeld.1.below.size) (boxed _ _)),ai hHeld.2.1 (boxed _ _),ai hHeld.2.2 (boxed _ _)⟩) (fun hHeld=>?_);clear hK K;try simp only[ck]
  refine fA 7 fun K hK=>?_;go_simp
  (try(first|rw[hone]|erw [hone]))
  (try simp only[Result.andThen])
  (try rw[Oper.upon_value])
  refine hK.out _ _ (hHeld) (fun hHeld=>?_);clear hK K;try simp only[ck]
  refine fA 8 fun K hK=>?_;go_simp;have hst:=tX hHeld.1 #[.string (be 8 ex),.string (be 1 bm)] 9;have hge:=hpn.lt;have hpn:=hpn.below (boxed _ (.cells #[.string (be 8 ex),.string (be 1 bm)] 9));refine hK.out _ _ (⟨hHeld.1.trans (Wrote.of (aw Gh.out.size hHeld.1.below.size) (boxed _ _)),ai hHeld.2.1 (boxed _ _),ai hHeld.2.2 (boxed _ _)⟩) (fun hHeld=>?_);clear hK K;try simp only[ck]
  refine fA 9 fun K hK=>?_;go_simp;refine(put_any [be 8 ex,be 1 bm] hpn (by first|exact hst|simpa using hst) (by first|omega|(simp at hge⊢;omega)) (by simp) (by rw[eE,bZ,bZ,aj,aP,aP];omega) (aw Gh.out.size hHeld.1.below.size) 2 rfl).mono ?_;rintro r w6⟨rfl,p6,k6⟩;have hQ6:=(hHeld.1.trans k6).kept _ _ _ Yo.out fY.out aJ;have VN:=hHeld.1.trans k6;refine hK.out _ _ (⟨hHeld.1.trans k6,hQ6.cell 5,hQ6.cell 6⟩) (fun hHeld=>?_);clear hK K;try simp only[ck]
  refine lN ?_;have h7:=hQ6.cell 7;simp at h7;have VO:=ae (HEs.out w6 _ (by rw[aj,eE,bZ,bZ,aj,aP,aP]) (Gh.out.trans VN.below) p6);have tG:=ae (EG.out.trans VN);clear hQ6 VN k6 p6 hst hsb hone hpn hge hHeld;go_wp2_with(go_at_call 90;refine VO.out.mono ?_;rintro r w7⟨rfl,p7,k7⟩;rw[←HR.out]at p7)
  go_end0
  exact⟨rfl,p7,tG.out.trans k7⟩
 ·go_simp;have hsb:=tX hHeld.1 #[.int .u8 bm] 5;have hone:=yg hsb Hor.out;have hpn:=hpn.below (boxed _ (.cells #[.int .u8 bm] 5));refine hK.out _ _ (⟨hHeld.1.trans (Wrote.of (aw Gh.out.size hHeld.1.below.size) (boxed _ _)),ai hHeld.2.1 (boxed _ _),ai hHeld.2.2 (boxed _ _)⟩) (fun hHeld=>?_);clear hK K;try simp only[ck]
  refine wpAnyH_ready (rs:=[3,7]) bo (by simp) ?_;refine ahO rfl (fun K hK=>?_) (ahO rfl (fun K hK=>?_) AllReadyH.nil)
  ·go_simp;refine(HU.out _).mono ?_;rintro r wb⟨rfl,db⟩
   (try have hsb:=aH.below hsb db (aH.lt hsb))
   (try have hone:=yg hsb Hor.out)
   have hpn:=hpn.below db;refine hK.out _ _ (⟨hHeld.1.trans (Wrote.of (aw Gh.out.size hHeld.1.below.size) db),ai hHeld.2.1 db,ai hHeld.2.2 db⟩) (fun hHeld=>?_);clear hK K;try simp only[ck]
   refine fA 7 fun K hK=>?_;go_simp
   (try(first|rw[hone]|erw [hone]))
   (try simp only[Result.andThen])
   (try rw[Oper.upon_value])
   refine hK.out _ _ (hHeld) (fun hHeld=>?_);clear hK K;try simp only[ck]
   refine fA 8 fun K hK=>?_;go_simp;have hst:=tX hHeld.1 #[.string (be 8 ex),.string (be 1 bm)] 9;have hge:=hpn.lt;have hpn:=hpn.below (boxed _ (.cells #[.string (be 8 ex),.string (be 1 bm)] 9));refine hK.out _ _ (⟨hHeld.1.trans (Wrote.of (aw Gh.out.size hHeld.1.below.size) (boxed _ _)),ai hHeld.2.1 (boxed _ _),ai hHeld.2.2 (boxed _ _)⟩) (fun hHeld=>?_);clear hK K;try simp only[ck]
   refine fA 9 fun K hK=>?_;go_simp;refine(put_any [be 8 ex,be 1 bm] hpn (by first|exact hst|simpa using hst) (by first|omega|(simp at hge⊢;omega)) (by simp) (by rw[eE,bZ,bZ,aj,aP,aP];omega) (aw Gh.out.size hHeld.1.below.size) 2 rfl).mono ?_;rintro r w6⟨rfl,p6,k6⟩;have hQ6:=(hHeld.1.trans k6).kept _ _ _ Yo.out fY.out aJ;have VN:=hHeld.1.trans k6;refine hK.out _ _ (⟨hHeld.1.trans k6,hQ6.cell 5,hQ6.cell 6⟩) (fun hHeld=>?_);clear hK K;try simp only[ck]
   refine lN ?_;have h7:=hQ6.cell 7;simp at h7;have VO:=ae (HEs.out w6 _ (by rw[aj,eE,bZ,bZ,aj,aP,aP]) (Gh.out.trans VN.below) p6);have tG:=ae (EG.out.trans VN);clear hQ6 VN k6 p6 hst hsb hone hpn hge hHeld;go_wp2_with(go_at_call 90;refine VO.out.mono ?_;rintro r w7⟨rfl,p7,k7⟩;rw[←HR.out]at p7)
   go_end0
   exact⟨rfl,p7,tG.out.trans k7⟩
  ·go_simp
   (try(first|rw[hone]|erw [hone]))
   (try simp only[Result.andThen])
   (try rw[Oper.upon_value])
   refine hK.out _ _ (hHeld) (fun hHeld=>?_);clear hK K;try simp only[ck]
   refine fA 3 fun K hK=>?_;go_simp;refine(HU.out _).mono ?_;rintro r wb⟨rfl,db⟩
   (try have hsb:=aH.below hsb db (aH.lt hsb))
   (try have hone:=yg hsb Hor.out)
   have hpn:=hpn.below db;refine hK.out _ _ (⟨hHeld.1.trans (Wrote.of (aw Gh.out.size hHeld.1.below.size) db),ai hHeld.2.1 db,ai hHeld.2.2 db⟩) (fun hHeld=>?_);clear hK K;try simp only[ck]
   refine fA 8 fun K hK=>?_;go_simp;have hst:=tX hHeld.1 #[.string (be 8 ex),.string (be 1 bm)] 9;have hge:=hpn.lt;have hpn:=hpn.below (boxed _ (.cells #[.string (be 8 ex),.string (be 1 bm)] 9));refine hK.out _ _ (⟨hHeld.1.trans (Wrote.of (aw Gh.out.size hHeld.1.below.size) (boxed _ _)),ai hHeld.2.1 (boxed _ _),ai hHeld.2.2 (boxed _ _)⟩) (fun hHeld=>?_);clear hK K;try simp only[ck]
   refine fA 9 fun K hK=>?_;go_simp;refine(put_any [be 8 ex,be 1 bm] hpn (by first|exact hst|simpa using hst) (by first|omega|(simp at hge⊢;omega)) (by simp) (by rw[eE,bZ,bZ,aj,aP,aP];omega) (aw Gh.out.size hHeld.1.below.size) 2 rfl).mono ?_;rintro r w6⟨rfl,p6,k6⟩;have hQ6:=(hHeld.1.trans k6).kept _ _ _ Yo.out fY.out aJ;have VN:=hHeld.1.trans k6;refine hK.out _ _ (⟨hHeld.1.trans k6,hQ6.cell 5,hQ6.cell 6⟩) (fun hHeld=>?_);clear hK K;try simp only[ck]
   refine lN ?_;have h7:=hQ6.cell 7;simp at h7;have VO:=ae (HEs.out w6 _ (by rw[aj,eE,bZ,bZ,aj,aP,aP]) (Gh.out.trans VN.below) p6);have tG:=ae (EG.out.trans VN);clear hQ6 VN k6 p6 hst hsb hone hpn hge hHeld;go_wp2_with(go_at_call 90;refine VO.out.mono ?_;rintro r w7⟨rfl,p7,k7⟩;rw[←HR.out]at p7)
   go_end0
   exact⟨rfl,p7,tG.out.trans k7⟩
theorem NC{B:Nat}{w:World}(hB:B≤w.heap.size):gj B w.heap.size [] (w.alloc (.cells #[.pointer none,au] 75)):=Or.inl ⟨hB,au,aH.new w _ _,⟨rfl,Or.inl ⟨rfl,rfl⟩⟩,by simp[Value.ownBlock]⟩
theorem rm{w:World}(env:Env w){pv rv:Value}{m:Mp}(hp:df w pv m.aK)(hr:eG w rv m.aA)(fit:jG m)(sz:∀p∈m.aK,gQ p)(hpl:m.aK.length≤4000000)(hrl:m.aA.length≤4000000)(hol:m.policy.size≤2000000)(hml:jE m=true→(zE m).length≤80000000):Calls ah 18 #[.agg #[.int .u64 (m.version:Int),pv,rv,.string m.policy]] w fun r w'=>(∃(t:ByteArray)(e:Nat),(t,e)=cR m∧r=.returned (.tuple #[.string t,.int .i64 e]))∧aW w w':=by
 have hmay:=fun u(hu:aW w u)=>VK (env.below hu) (hp.below hu) (a8.below hr hu) fit sz hpl hrl hol
 obtain⟨xs,hxs,hrow,hx⟩:=hp;cases hm:jE m with
 |false=>
  have hR:cR m=(⟨#[]⟩,220):=by unfold cR encR;rw[if_pos hm]
  rw[hm]at hmay;rw[hR];obtain⟨Ap,cp,rfl⟩:=hrow.shape;obtain⟨Ar,cr,rfl⟩:=a8.shape hr;obtain⟨version,aK,aA,policy⟩:=m;simp only at*;generalize aA.length=NR at*;generalize xs.length=NP at*;obtain⟨vK,HB,HM⟩:=bz hmay (boxed w (.cells #[.int .u64 version,.slice Ap NP cp,.slice Ar NR cr,.string policy] 26)) (aH.new w 26 #[.int .u64 version,.slice Ap NP cp,.slice Ar NR cr,.string policy]);clear hmay hrow hx hr fit sz hpl hrl hol hml env hm hR hxs;go_enter Tryz.func18,Tryz.ntmps18;go_upto_region 1 with fail
  generalize w.alloc (.cells #[.int .u64 version,.slice Ap NP cp,.slice Ar NR cr,.string policy] 26)=w1 at HB HM⊢;generalize w.heap.size=P at HM⊢;obtain⟨m0,m1,m2,m3⟩:=dY HM;go_wp2_with(go_at_call 64;refine(vK.out _ HB.out).mono ?_;rintro r w2⟨rfl,d2⟩)
  go_ret2;exact⟨⟨_,220,rfl,rfl⟩,after HB.out d2⟩
 |true=>
  have hml:=hml hm;have ok:=abx fit hm;have hR:cR m=(if 32768<(zE m).length then((⟨#[]⟩:ByteArray),4)else(iJ (zE m),0)):=by unfold cR encR;rw[if_neg (by simp[hm])]
  rw[hm]at hmay;have hsum:(zE m).length=8+((bU qs m.aK).length+((bU qK m.aA).length+(oy m.policy).length)):=by
   unfold zE;simp only[aj,aP]
  have hpl2:(bU qs m.aK).length=2+(m.aK.flatMap qs).length:=by unfold bU;rw[aj,aP]
  have hrl2:(bU qK m.aA).length=2+(m.aA.flatMap qK).length:=by unfold bU;rw[aj,aP]
  have hone:∀X∈xs,(qs X.p).length≤(m.aK.flatMap qs).length:=fun X hX=>by
   rw[←hxs,List.flatMap_map];exact List.Sublist.length_le (List.sublist_flatten_of_mem (dQ hX))
  obtain⟨D1,hD1⟩:=bw (fH 8 m.version);obtain⟨D2,hD2⟩:=bw (D1++bU qs m.aK);obtain⟨D3,hD3⟩:=bw (D2++bU qK m.aA);obtain⟨D4,hD4⟩:=bw (D3++oy m.policy);have hD:zE m=D4:=by rw[hD4,hD3,hD2,hD1];unfold zE;simp only[aO]
  have l1:D1.length=8:=by rw[hD1,aP]
  have l2:D2.length=D1.length+(bU qs m.aK).length:=by rw[hD2,aj]
  have l3:D3.length=D2.length+(bU qK m.aA).length:=by rw[hD3,aj]
  have h4:D4≠[]:=by
   intro h;have:=congrArg List.length h;rw[hD4,aj,List.length_nil]at this;omega
  have hput:=fun b u(hB:w.heap.size≤u.heap.size)(hp:gj w.heap.size b [] u)=>fM (w:=u) [be 8 m.version] hp (by simp) (by rw[cZ,bZ,aP];simp) hB 1 rfl
  rw[show([]:List UInt8)++fG [be 8 m.version]=D1 by rw[List.nil_append,cZ,bZ,hD1]]at hput;have hps:=fun b u(hu:aW w u)(hp:gj w.heap.size b D1 u)=>Bc qs hrow hx hu (by have:=ok.aK.1;rw[←hxs,ay]at this;exact this) 33 (enters_of Tryz.func33 bo rfl) hp (show 90000000≤800000000 by decide) (by rw[hxs];omega) fun X hX W D' q1 q2 q3 q4=>ve (hx X hX) (ok.aK.2 _ (by rw[←hxs];exact dQ hX)) (hu.trans q1) q2 (by have:=hone X hX;omega)
  rw[hxs]at hps;have hrs:=fun b u(hu:aW w u)(hp:gj w.heap.size b D2 u)=>Ba qK hr hu ok.aA.1 39 (enters_of Tryz.func39 bo rfl) hp (show 90000000≤800000000 by decide) aR fun r hr' W D' q1 q2 q3 q4=>sy r (by have:=(ok.aA.2 r hr').id;omega) (ok.aA.2 r hr').fin.1 (ok.aA.2 r hr').fin.2 (by rw[(ok.aA.2 r hr').key];decide) q2 aR q4
  have htx:=fun b u(hB:w.heap.size≤u.heap.size)(hp:gj w.heap.size b D3 u)=>mc m.policy ok.policy hp aR hB
  have hby:=fun b u(hp:gj w.heap.size b D4 u)=>sA hp h4
  rw[hR,hD];generalize(if 32768<D4.length then((⟨#[]⟩:ByteArray),4)else(iJ D4,0))=R at hby⊢;have hu64:=fun u=>rC m.version fit.version u
  unfold Put at hps hrs htx;obtain⟨HD2,HD3,HD4⟩:=bz hD2 hD3 hD4;obtain⟨Ap,cp,rfl⟩:=hrow.shape;obtain⟨Ar,cr,rfl⟩:=a8.shape hr;clear hsum hpl2 hrl2 hone hD1 hD2 hD3 hD4 hD l1 l2 l3 h4 hrow hx hr fit sz hpl hrl hol hml env hm hR ok;obtain⟨version,aK,aA,policy⟩:=m;simp only at*;clear hxs;generalize bU qs aK=LP at*;generalize bU qK aA=LR at*;generalize oy policy=LT at*;generalize aA.length=NR at*;generalize xs.length=NP at*;obtain⟨vK,jo,zM,HRs,HTx,SN,HU,HB,HM⟩:=SX hmay hput hps hrs htx hby hu64 (boxed w (.cells #[.int .u64 version,.slice Ap NP cp,.slice Ar NR cr,.string policy] 26)) (aH.new w 26 #[.int .u64 version,.slice Ap NP cp,.slice Ar NR cr,.string policy]);clear hmay hput hps hrs htx hby hu64;go_enter Tryz.func18,Tryz.ntmps18;go_upto_region 1 with fail
  generalize w.alloc (.cells #[.int .u64 version,.slice Ap NP cp,.slice Ar NR cr,.string policy] 26)=w1 at HB HM⊢;generalize hP:w.heap.size=P at HM⊢;obtain⟨m0,m1,m2,m3⟩:=dY HM;go_upto_region 3 with(go_at_call 64;refine(vK.out _ HB.out).mono ?_;rintro r w2⟨rfl,d2⟩)
  have HB2:=bg HB d2;have pF:=ae (bK HM d2);clear m0 m1 m2 m3 d2 HB HM;go_upto_region 4 with fail
  have hb3:=boxed w2 (.cells #[.pointer none,au] 75);obtain⟨HN,mL⟩:=aL (NC (B:=w.heap.size) HB2.out.size) (bK pF hb3);have HB3:=bg HB2 hb3;have fY:ag (P≠w2.heap.size):=ae (by have:=pF.out.lt;omega);clear hb3 HB2 pF;generalize w2.alloc (.cells #[.pointer none,au] 75)=w3 at HN mL HB3⊢;generalize w2.heap.size=b at HN fY⊢;have m0:=mL.out.cell 0;simp at m0;go_upto_region 5 with(first
   |(go_at_call 31;refine(HU.out _).mono ?_;rintro r w4⟨rfl,d4⟩)
   |(go_at_call 30;(refine(jo.out b w4 (HB3.out.trans (d4.mono HB3.out.size)).size (HN.out.below d4)).mono ?_);rintro r w5⟨rfl,p5,k5⟩))
  have tL:=ae (k5.kept _ _ _ (bK mL d4) fY.out aJ);have nZ:=ae (HB3.out.trans ((d4.mono HB3.out.size).trans k5.below));have HT5:=ae (zM.out b w5 nZ.out p5);obtain⟨-,m1⟩:=jQ tL;clear m0 d4 k5 p5 mL HB3 HN;go_upto_region 6 with(go_at_call 32;refine HT5.out.mono ?_;rintro r w6⟨rfl,p6,k6⟩;rw[←HD2.out]at p6)
  have zf:=ae (k6.kept _ _ _ tL.out fY.out aJ);have kQ:=ae (nZ.out.trans k6.below);have VO:=ae (HRs.out b w6 kQ.out p6);obtain⟨-,-,m2⟩:=jt zf;clear m1 k6 p6 tL nZ HT5;go_upto_region 7 with(go_at_call 38;refine VO.out.mono ?_;rintro r w7⟨rfl,p7,k7⟩;rw[←HD3.out]at p7)
  have Yp:=ae (k7.kept _ _ _ zf.out fY.out aJ);have uO:=ae (kQ.out.trans k7.below);have HT7:=ae (HTx.out b w7 uO.out.size p7);obtain⟨-,-,-,m3⟩:=dY Yp;clear m2 k7 p7 zf kQ VO;go_upto_region 8 with(go_at_call 41;refine HT7.out.mono ?_;rintro r w8⟨rfl,p8,k8⟩;rw[←HD4.out]at p8)
  obtain⟨Yc,HT8⟩:=aL (uO.out.trans k8.below) (SN.out b w8 p8);clear m3 k8 p8 Yp uO HT7;go_wp2_with(go_at_call 42;refine HT8.out.mono ?_;rintro r w9⟨⟨t,e,hte,rfl⟩,b9⟩;have Hte:=ae hte;clear hte)
  go_ret2;exact⟨⟨t,e,Hte.out,rfl⟩,Yc.out.trans b9⟩
theorem ky{w:World}(env:Env w){pv rv:Value}{m:Mp}(hp:df w pv m.aK)(hr:eG w rv m.aA)(fit:jG m)(sz:∀p∈m.aK,gQ p)(hpl:m.aK.length≤4000000)(hrl:m.aA.length≤4000000)(hol:m.policy.size≤2000000)(hml:jE m=true→(zE m).length≤80000000):Calls ah 8 #[.agg #[.int .u64 (m.version:Int),pv,rv,.string m.policy]] w (Got (.int .i64 ((cR m).2:Int)) w):=by
 have he:=fun u(hu:aW w u)=>rm (env.below hu) (hp.below hu) (a8.below hr hu) fit sz hpl hrl hol hml
 obtain⟨Ap,cp,rfl⟩:=hp.shape;obtain⟨Ar,cr,rfl⟩:=a8.shape hr;generalize cR m=R at he⊢;obtain⟨version,aK,aA,policy⟩:=m;simp only at*;generalize aA.length=NR at*;generalize aK.length=NP at*;obtain⟨HE,HB,HM⟩:=bz he (boxed w (.cells #[.int .u64 version,.slice Ap NP cp,.slice Ar NR cr,.string policy] 26)) (aH.new w 26 #[.int .u64 version,.slice Ap NP cp,.slice Ar NR cr,.string policy]);clear he hp hr fit sz hpl hrl hol hml env;go_enter Tryz.func8,Tryz.ntmps8;go_upto_region 1 with fail
 generalize w.alloc (.cells #[.int .u64 version,.slice Ap NP cp,.slice Ar NR cr,.string policy] 26)=w1 at HB HM⊢;generalize w.heap.size=P at HM⊢;obtain⟨m0,m1,m2,m3⟩:=dY HM;go_wp2_with(go_at_call 18;refine(HE.out _ HB.out).mono ?_;rintro r w2⟨⟨t,e,hte,rfl⟩,d2⟩;have Hte:=ae hte;clear hte)
 go_ret;exact⟨by rw[←Hte.out];rfl,after HB.out d2⟩
def keyAt(xs:List bS)(key:ByteArray)(k:Nat):Bool:=match xs[k]? with|some X=>decide (X.p.key=key)|none=>false
theorem DC{w:World}{v:Value}{xs:List bS}(hr:a8 w v xs.length 8 (cY xs))(hl:xs.length≤4000000)(q:bS→Bool)(f:Nat)(lb:Array Value)(eg:∀args w,(callFunc f args).run ah w=.ok (.enter f args) w)(hf:∀W,aW w W→∀X∈xs,Calls ah f (#[.agg X.vals.toArray]++lb) W (Got (.bool (q X)) W)):Calls ah 71 #[v,.func (.func f) #[] lb] w fun r w'=>(∃z:Int,r=.returned (.int .i64 z)∧Yn (fun k=>match xs[k]? with|some X=>q X|none=>false) xs.length z)∧aW w w':=by
 obtain⟨A,cap,rfl⟩:=hr.shape;refine Gl hl _ _ hr.iZ f lb eg fun k hk W hW=>?_
 have hxk:xs[k]? =some xs[k]:=af hk;rw[show cY xs=xs.flatMap bS.vals from rfl];simp only[hxk];rw[dU bS.vals 8 aB xs k _ hxk];exact hf W hW _ (aZ hk)
theorem aai{w:World}{v:Value}{xs:List bS}(hr:a8 w v xs.length 8 (cY xs))(hl:xs.length≤4000000)(key:ByteArray):Calls ah 23 #[v,.string key] w fun r w'=>(∃z:Int,r=.returned (.int .i64 z)∧Yn (keyAt xs key) xs.length z)∧aW w w':=by
 have hi:=fun u(hu:aW w u)g(hg:u.cell? ⟨g,0,none⟩=some (.string key))=>DC (hr.below hu) hl (fun X=>decide (X.p.key=key)) 72 #[.pointer (some ⟨g,0,none⟩)] (enters_of Tryz.func72 bo rfl)
  fun W hW X hX=>QQ key X.p.key _ _ _ _ _ _ _ g (ai hg hW)
 rw[show(fun k=>match xs[k]? with|some X=>decide (X.p.key=key)|none=>false)=keyAt xs key from rfl]at hi;generalize keyAt xs key=K at hi⊢;obtain⟨A,cap,rfl⟩:=hr.shape;generalize xs.length=N at*;have HI:=ae hi;have hb:=boxed w (.cells #[.string key] 9);have hg:(w.alloc (.cells #[.string key] 9)).cell? ⟨w.heap.size,0,none⟩=some (.string key):=(aH.new w 9 #[.string key]).cell 0;obtain⟨HG,HB⟩:=aL hg hb;clear hi hr hb hg;go_enter Tryz.func23,Tryz.ntmps23;go_upto_region 1 with fail
 generalize w.alloc (.cells #[.string key] 9)=w1 at HB HG⊢;generalize w.heap.size=P at HG⊢;go_wp2_with(go_at_call 71;refine(HI.out _ HB.out _ HG.out).mono ?_;rintro r w2⟨⟨z,rfl,hz⟩,d2⟩;have HZ:=ae hz;clear hz)
 go_ret;exact⟨⟨z,rfl,HZ.out⟩,after HB.out d2⟩
end Go.Proofs.YtkjaajcpbldjoabGreatDoor
