/- Joined out of: NwA NtB NtC NtD MkA MkB NmA PeB NwB. -/
import Derived.Test.YtkjaajcpbldjoabGreatDoorLag
set_option linter.unusedVariables false
set_option linter.unusedSimpArgs false
set_option maxHeartbeats 16000000
set_option maxRecDepth 100000
open Array renaming length_toList→fE
open Bool renaming and_eq_true→aU,eq_iff_iff→gW
open Go.ByteArray renaming toList_eq→cE
open Go.Lib renaming hid→ae
open Go.Proofs.Tryz renaming prog→ah
open Go.Result renaming andThen_ok→kl
open Go.RowKit renaming Hid→ag
open Go.RowKit.Below renaming refl→aI
open Go.Sem renaming run_bind→ah0
open Go.World renaming block_lt_of_cell?→ak
open List renaming getElem?_eq_getElem→af,length_append→aj,length_map→ay,getD_eq_getElem?_getD→aE,range→aF,append_assoc→aO,getElem_mem→aZ,eq_nil_of_length_eq_zero→bC,getElem?_map→bO,length_cons→bP,mem_cons_of_mem→cB,mem_cons_self→cJ,flatMap_cons→abj
open Nat renaming le_trans→aw,zero_le→bj,add_zero→cq
namespace Go.Proofs.YtkjaajcpbldjoabGreatDoor
open Go.RowKit
attribute [local go_sem↓] Go.wp_at_zero Go.wp_at_succ
attribute [local go_sem] ez
def mH(w:World)(A:Option Addr)(n:Nat)(cs:Nat→ByteArray):Prop:=∀k,k<n→∃g o,A=some ⟨g,o,none⟩∧w.cell? ⟨g,o+k,none⟩=some (.string (cs k))
theorem mH.below{w w':World}{A:Option Addr}{n:Nat}{cs:Nat→ByteArray}(h:mH w A n cs)(e:aW w w'):mH w' A n cs:=by
 intro k hk;obtain⟨g,o,hA,hc⟩:=h k hk;exact⟨g,o,hA,ai hc e⟩
theorem dO.below{w w':World}{A:Option Addr}{n K:Nat}{cs:Nat→List Value}(h:dO w A n K cs)(e:aW w w'):dO w' A n K cs:=by
 intro k hk;obtain⟨hl,g,o,hA,hc⟩:=h k hk;exact⟨hl,g,o,hA,fun j u hu=>ai (hc j u hu) e⟩
theorem sg(n:Nat)(p:Nat→Bool):(!((aF n).any fun k=> !p k))=(aF n).all p:=by
 rw[List.not_any_eq_all_not];congr 1;funext k;exact Bool.not_not _
theorem fi(n:Nat)(p:Nat→Bool):(aF (n+1)).all p=((aF n).all p&&p n):=by
 rw[List.range_succ,List.all_append];simp
theorem fy{n k:Nat}{p:Nat→Bool}(hk:k<n)(h:p k=false):(aF n).all p=false:=by
 rw[List.all_eq_false];exact⟨k,List.mem_range.2 hk,by rw[h];decide⟩
theorem Z4{w:World}{A:Option Addr}{N cap:Nat}(hN:N≤4000000)(cs:Nat→ByteArray)(p:Nat→Bool)(hc:mH w A N cs)(f:Nat)(lb:Array Value)(eg:∀args w,(callFunc f args).run ah w=.ok (.enter f args) w)(hf:∀k,k<N→∀W,aW w W→Calls ah f (#[.string (cs k)]++lb) W (Got (.bool (p k)) W)):Calls ah 134 #[.slice A N cap,.func (.func f) #[] lb] w fun r w'=>(∃z:Int,r=.returned (.int .i64 z)∧Yn p N z)∧aW w w':=by
 obtain⟨HC,HF⟩:=aL hc hf;clear hc hf;go_enter Tryz.func134,Tryz.ntmps134;go_wp2_with fail
 go_loopw [8] (fun v8 wr=>∃k:Nat,k≤N∧v8=.int .i64 k∧ag (aW w wr)∧ag (∀j,j<k→p j=false)) (fun v8 _=>N-(intOf v8).toNat)
 case atStart=>exact⟨0,bj _,rfl,ae (aI _ _),ae (fun j hj=>absurd hj (Nat.not_lt_zero j))⟩
 case round=>
  obtain⟨k,hk,rfl,hb,hno⟩:=hrel;by_cases hlt:k<N
  ·skip
   obtain⟨q,o,rfl,hcell⟩:=HC.out k hlt;have hcall:=HF.out k hlt wr hb.out;have d0:=(hb.out.cell (ak w _ hcell)).trans hcell;generalize cs k=L at d0 hcall;have bG:=ae hcall;clear hcall hcell;cases hp:p k with
   |true=>
    rw[hp]at bG;have HP:=ae hp;clear hp;go_wp2_with(go_at_fn f;(with_reducible refine bG.out.mono ?_);rintro r w2⟨rfl,e2⟩)
    go_ret;exact⟨⟨_,rfl,.inl ⟨k,hlt,rfl,HP.out,hno.out⟩⟩,after hb.out e2⟩
   |false=>
    rw[hp]at bG;have HP:=ae hp;clear hp;go_wp2_with(go_at_fn f;(with_reducible refine bG.out.mono ?_);rintro r w2⟨rfl,e2⟩)
    go_roundw
    case rel=>
     refine⟨k+1,by omega,by go_num,(bg hb e2),ae (fun j hj=>?_)⟩;by_cases e:j=k
     ·rw[e];exact HP.out
     ·exact hno.out j (by omega)
    case measure=>simp[intOf];omega
  ·obtain rfl:k=N:=by omega
   go_wp2_with fail
   go_ret;exact⟨⟨_,rfl,.inr ⟨rfl,hno.out⟩⟩,hb.out⟩
theorem Z5{w:World}{A:Option Addr}{N cap:Nat}(hN:N≤4000000)(cs:Nat→ByteArray)(p:Nat→Bool)(hc:mH w A N cs)(f:Nat)(lb:Array Value)(eg:∀args w,(callFunc f args).run ah w=.ok (.enter f args) w)(hf:∀k,k<N→∀W,aW w W→Calls ah f (#[.string (cs k)]++lb) W (Got (.bool (p k)) W)):Calls ah 107 #[.slice A N cap,.func (.func f) #[] lb] w (Got (.bool ((aF N).any p)) w):=by
 have HI:=ae (Z4 (cap:=cap) hN cs p hc f lb eg hf);clear hc hf;generalize hR:(aF N).any p=R;have HR:=ae hR;clear hR;go_enter Tryz.func107,Tryz.ntmps107;go_wp2_with(go_at_call 134;refine HI.out.mono ?_;rintro r w2⟨⟨z,rfl,hz⟩,e2⟩)
 go_ret;exact⟨by rw[←HR.out,←hz.any];rfl,e2⟩
theorem Va{w:World}(x:ByteArray)(g:Nat)(f:Nat)(lb:Array Value)(eg:∀args w,(callFunc f args).run ah w=.ok (.enter f args) w)(hg:w.cell? ⟨g,0,none⟩=some (.func (.func f) #[] lb))(b:Bool)(hf:∀W,aW w W→Calls ah f (#[.string x]++lb) W (Got (.bool b) W)):Calls ah 108 #[.string x,.pointer (some ⟨g,0,none⟩)] w (Got (.bool (!b)) w):=by
 have HF:=ae hf;clear hf;go_enter Tryz.func108,Tryz.ntmps108;go_wp2_with(go_at_fn f;(with_reducible refine(HF.out _ (aI _ _)).mono ?_);rintro r w2⟨rfl,e2⟩)
 go_ret;exact⟨rfl,e2⟩
theorem Vb{w:World}{A:Option Addr}{N cap:Nat}(hN:N≤4000000)(cs:Nat→ByteArray)(p:Nat→Bool)(hc:mH w A N cs)(f:Nat)(lb:Array Value)(eg:∀args w,(callFunc f args).run ah w=.ok (.enter f args) w)(hf:∀k,k<N→∀W,aW w W→Calls ah f (#[.string (cs k)]++lb) W (Got (.bool (p k)) W)):Calls ah 54 #[.slice A N cap,.func (.func f) #[] lb] w (Got (.bool ((aF N).all p)) w):=by
 have hco:=fun u(hu:aW w u)g(hg:u.cell? ⟨g,0,none⟩=some (.func (.func f) #[] lb))=>Z5 (cap:=cap) hN cs (fun k=> !p k) (hc.below hu) 108 #[.pointer (some ⟨g,0,none⟩)] (enters_of Tryz.func108 bo rfl)
  fun k hk W hW=>Va _ g f lb eg (ai hg hW) (p k) fun W2 hW2=>hf k hk W2 (after hu (after hW hW2))
 rw[←sg];generalize((aF N).any fun k=> !p k)=R at hco⊢;have Vd:=ae hco;have hb:=boxed w (.cells #[.func (.func f) #[] lb] 100);obtain⟨HG,HB⟩:=aL (show(w.alloc (.cells #[.func (.func f) #[] lb] 100)).cell? ⟨w.heap.size,0,none⟩=some (.func (.func f) #[] lb)from(aH.new w 100 #[.func (.func f) #[] lb]).cell 0) hb;clear hco hc hf hb;go_enter Tryz.func54,Tryz.ntmps54;go_upto_region 1 with fail
 generalize w.alloc (.cells #[.func (.func f) #[] lb] 100)=w1 at HB HG⊢;generalize w.heap.size=G at HG⊢;go_wp2_with(go_at_call 107;refine(Vd.out _ HB.out _ HG.out).mono ?_;rintro r w2⟨rfl,e2⟩)
 go_ret;exact⟨rfl,after HB.out e2⟩
theorem Ve{w:World}{A:Option Addr}{N cap:Nat}(hN:N≤4000000)(cs:Nat→ByteArray)(p:Nat→Bool)(hc:mH w A N cs)(f:Nat)(lb:Array Value)(eg:∀args w,(callFunc f args).run ah w=.ok (.enter f args) w)(hf:∀k,k+1<N→∀W,aW w W→Calls ah f (#[.string (cs k),.string (cs (k+1))]++lb) W (Got (.bool (p k)) W)):Calls ah 80 #[.slice A N cap,.func (.func f) #[] lb] w (Got (.bool ((aF (N-1)).all p)) w):=by
 obtain⟨HC,HF⟩:=aL hc hf;clear hc hf;generalize hR:(aF (N-1)).all p=R;have HR:=ae hR;clear hR;go_enter Tryz.func80,Tryz.ntmps80;go_wp2_with fail
 go_loopw [5] (fun v5 wr=>∃k:Nat,k≤N∧v5=.int .i64 ((k:Int)+1)∧ag (aW w wr)∧ag ((aF k).all p=true∧(k=0∨k+1≤N))) (fun v5 _=>N-(intOf v5).toNat)
 case atStart=>exact⟨0,bj _,rfl,ae (aI _ _),ae ⟨rfl,.inl rfl⟩⟩
 case round=>
  obtain⟨k,hk,rfl,hb,hno⟩:=hrel;have hz:IntKind.i64.wrap (k:Int)=(k:Int):=IntWalk.i64_in _ aR;by_cases hlt:k+1<N
  ·have hlt':(k:Int)+1<(N:Int):=by omega
   have hlt0:(k:Int)<(N:Int):=by omega
   have acQ:(0:Int)≤(k:Int)+1:=by omega
   obtain⟨q,o,hA,hcell⟩:=HC.out k aR;obtain⟨q1,o1,hA1,hcell1⟩:=HC.out (k+1) hlt;subst hA;injection hA1 with hA1
   injection hA1 with eq eo _
   subst eq eo;have hcall:=fun u(hu:aW w u)=>HF.out k hlt u hu
   have d0:=(hb.out.cell (ak w _ hcell)).trans hcell;have f0:=(hb.out.cell (ak w _ hcell1)).trans hcell1;generalize cs k=L at d0 hcall;generalize cs (k+1)=M at f0 hcall;have bG:=ae hcall;clear hcall hcell hcell1;cases hp:p k with
   |true=>
    rw[hp]at bG;have HP:=ae hp;clear hp;go_upto_region 4 with fail
    refine wp_region_held_drew (S:=(fun w'=>w'.cell? ⟨q,o+k,none⟩=some (.string L)∧w'.cell? ⟨q,o+(k+1),none⟩=some (.string M))) bo (⟨d0,f0⟩) (fun hHeld=>?_);refine aY 0 ?_
    refine aY 1 ?_
    refine aY 2 ?_
    refine aY 3 ?_
    refine aY 4 ?_
    refine aY 5 ?_
    refine aY 6 ?_
    refine aY 7 ?_
    refine aY 8 ?_
    refine aY 9 ?_
    refine fA 10 fun K hK=>?_;go_simp;go_at_fn f;refine(bG.out _ (Below.qJ hb.out)).mono ?_;rintro r wb⟨rfl,db⟩;have eb:=Below.fL db;clear db;refine hK.out _ _ (⟨ai d0 eb,ai f0 eb⟩) (fun hHeld=>?_);clear hK K;try simp only[ck]
    refine aY 11 ?_
    refine lN ?_;go_wp2_with fail
    go_roundw
    case rel=>exact⟨k+1,by omega,by go_num,(bg hb eb),ae ⟨by rw[fi,hno.out.1,HP.out];rfl,.inr hlt⟩⟩
    case measure=>simp[intOf];omega
   |false=>
    rw[hp]at bG;have dS:ag (R=false):=ae (by rw[←HR.out];exact fy aR hp);clear hp;go_upto_region 4 with fail
    refine wp_region_held_drew (S:=(fun w'=>w'.cell? ⟨q,o+k,none⟩=some (.string L)∧w'.cell? ⟨q,o+(k+1),none⟩=some (.string M))) bo (⟨d0,f0⟩) (fun hHeld=>?_);refine aY 0 ?_
    refine aY 1 ?_
    refine aY 2 ?_
    refine aY 3 ?_
    refine aY 4 ?_
    refine aY 5 ?_
    refine aY 6 ?_
    refine aY 7 ?_
    refine aY 8 ?_
    refine aY 9 ?_
    refine fA 10 fun K hK=>?_;go_simp;go_at_fn f;refine(bG.out _ (Below.qJ hb.out)).mono ?_;rintro r wb⟨rfl,db⟩;have eb:=Below.fL db;clear db;refine hK.out _ _ (⟨ai d0 eb,ai f0 eb⟩) (fun hHeld=>?_);clear hK K;try simp only[ck]
    refine aY 11 ?_
    refine lN ?_;go_wp2_with fail
    go_ret;exact⟨by rw[dS.out];rfl,after hb.out eb⟩
  ·have hge:¬(k:Int)+1<(N:Int):=by omega
   have Z6:ag (R=true):=ae (by rw[←HR.out,show N-1=k by have:=hno.out.2;omega];exact hno.out.1);go_wp2_with fail
   go_ret;exact⟨by rw[Z6.out];rfl,hb.out⟩
theorem Vf{w:World}{A:Option Addr}{N cap:Nat}(hN:N≤4000000)(cs:Nat→List Value)(p:Nat→Bool)(hc:dO w A N 3 cs)(f:Nat)(lb:Array Value)(eg:∀args w,(callFunc f args).run ah w=.ok (.enter f args) w)(hf:∀k,k<N→∀W,aW w W→Calls ah f (#[.agg (cs k).toArray]++lb) W (Got (.bool (p k)) W)):Calls ah 204 #[.slice A N cap,.func (.func f) #[] lb] w fun r w'=>(∃z:Int,r=.returned (.int .i64 z)∧Yn p N z)∧aW w w':=by
 obtain⟨HC,HF⟩:=aL hc hf;clear hc hf;go_enter Tryz.func204,Tryz.ntmps204;go_wp2_with fail
 go_loopw [8] (fun v8 wr=>∃k:Nat,k≤N∧v8=.int .i64 k∧ag (aW w wr)∧ag (∀j,j<k→p j=false)) (fun v8 _=>N-(intOf v8).toNat)
 case atStart=>exact⟨0,bj _,rfl,ae (aI _ _),ae (fun j hj=>absurd hj (Nat.not_lt_zero j))⟩
 case round=>
  obtain⟨k,hk,rfl,hb,hno⟩:=hrel;by_cases hlt:k<N
  ·skip
   obtain⟨hlen,q,o,rfl,hcell⟩:=HC.out k hlt;have hcall:=HF.out k hlt wr hb.out;generalize hcs:cs k=L at hlen hcell hcall;clear hcs;obtain⟨c0,c1,c2,hL⟩:∃c0 c1 c2,L=[c0,c1,c2]:=by
    match L,hlen with
    |[c0,c1,c2],_=>exact⟨c0,c1,c2,rfl⟩
   subst hL;have d0:=(hb.out.cell (ak w _ (hcell 0 _ rfl))).trans (hcell 0 _ rfl);have d1:=(hb.out.cell (ak w _ (hcell 1 _ rfl))).trans (hcell 1 _ rfl);have d2:=(hb.out.cell (ak w _ (hcell 2 _ rfl))).trans (hcell 2 _ rfl);rw[cq]at d0;have bG:=ae hcall;clear hcall hcell hlen;cases hp:p k with
   |true=>
    rw[hp]at bG;have HP:=ae hp;clear hp;go_wp2_with(go_at_fn f;(with_reducible refine bG.out.mono ?_);rintro r w2⟨rfl,e2⟩)
    go_ret;exact⟨⟨_,rfl,.inl ⟨k,hlt,rfl,HP.out,hno.out⟩⟩,after hb.out e2⟩
   |false=>
    rw[hp]at bG;have HP:=ae hp;clear hp;go_wp2_with(go_at_fn f;(with_reducible refine bG.out.mono ?_);rintro r w2⟨rfl,e2⟩)
    go_roundw
    case rel=>
     refine⟨k+1,by omega,by go_num,(bg hb e2),ae (fun j hj=>?_)⟩;by_cases e:j=k
     ·rw[e];exact HP.out
     ·exact hno.out j (by omega)
    case measure=>simp[intOf];omega
  ·obtain rfl:k=N:=by omega
   go_wp2_with fail
   go_ret;exact⟨⟨_,rfl,.inr ⟨rfl,hno.out⟩⟩,hb.out⟩
theorem Vg{w:World}{A:Option Addr}{N cap:Nat}(hN:N≤4000000)(cs:Nat→List Value)(p:Nat→Bool)(hc:dO w A N 3 cs)(f:Nat)(lb:Array Value)(eg:∀args w,(callFunc f args).run ah w=.ok (.enter f args) w)(hf:∀k,k<N→∀W,aW w W→Calls ah f (#[.agg (cs k).toArray]++lb) W (Got (.bool (p k)) W)):Calls ah 175 #[.slice A N cap,.func (.func f) #[] lb] w (Got (.bool ((aF N).any p)) w):=by
 have HI:=ae (Vf (cap:=cap) hN cs p hc f lb eg hf);clear hc hf;generalize hR:(aF N).any p=R;have HR:=ae hR;clear hR;go_enter Tryz.func175,Tryz.ntmps175;go_wp2_with(go_at_call 204;refine HI.out.mono ?_;rintro r w2⟨⟨z,rfl,hz⟩,e2⟩)
 go_ret;exact⟨by rw[←HR.out,←hz.any];rfl,e2⟩
theorem Qx{w:World}(L:List Value)(hl:L.length=3)(g:Nat)(f:Nat)(lb:Array Value)(eg:∀args w,(callFunc f args).run ah w=.ok (.enter f args) w)(hg:w.cell? ⟨g,0,none⟩=some (.func (.func f) #[] lb))(b:Bool)(hf:∀W,aW w W→Calls ah f (#[.agg L.toArray]++lb) W (Got (.bool b) W)):Calls ah 176 #[.agg L.toArray,.pointer (some ⟨g,0,none⟩)] w (Got (.bool (!b)) w):=by
 obtain⟨c0,c1,c2,hL⟩:∃c0 c1 c2,L=[c0,c1,c2]:=by
  match L,hl with
  |[c0,c1,c2],_=>exact⟨c0,c1,c2,rfl⟩
 subst hL;have HF:=ae hf;have hb:=boxed w (.cells #[c0,c1,c2] 52);have HS:=ae (aH.new w 52 #[c0,c1,c2]);have g0:=ai hg hb;have HB:=ae hb;clear hf hg hb hl;go_enter Tryz.func176,Tryz.ntmps176;go_upto_region 1 with fail
 generalize w.alloc (.cells #[c0,c1,c2] 52)=w1 at HB HS g0⊢;generalize w.heap.size=G at HS⊢;obtain⟨s0,s1,s2⟩:=jt HS;go_wp2_with(go_at_fn f;(with_reducible refine(HF.out _ HB.out).mono ?_);rintro r w2⟨rfl,e2⟩)
 go_ret;exact⟨rfl,after HB.out e2⟩
theorem Qy{w:World}{A:Option Addr}{N cap:Nat}(hN:N≤4000000)(cs:Nat→List Value)(p:Nat→Bool)(hc:dO w A N 3 cs)(f:Nat)(lb:Array Value)(eg:∀args w,(callFunc f args).run ah w=.ok (.enter f args) w)(hf:∀k,k<N→∀W,aW w W→Calls ah f (#[.agg (cs k).toArray]++lb) W (Got (.bool (p k)) W)):Calls ah 152 #[.slice A N cap,.func (.func f) #[] lb] w (Got (.bool ((aF N).all p)) w):=by
 have hco:=fun u(hu:aW w u)g(hg:u.cell? ⟨g,0,none⟩=some (.func (.func f) #[] lb))=>Vg (cap:=cap) hN cs (fun k=> !p k) (hc.below hu) 176 #[.pointer (some ⟨g,0,none⟩)] (enters_of Tryz.func176 bo rfl)
  fun k hk W hW=>Qx _ (hc k hk).1 g f lb eg (ai hg hW) (p k) fun W2 hW2=>hf k hk W2 (after hu (after hW hW2))
 rw[←sg];generalize((aF N).any fun k=> !p k)=R at hco⊢;have Vd:=ae hco;have hb:=boxed w (.cells #[.func (.func f) #[] lb] 161);obtain⟨HG,HB⟩:=aL (show(w.alloc (.cells #[.func (.func f) #[] lb] 161)).cell? ⟨w.heap.size,0,none⟩=some (.func (.func f) #[] lb)from(aH.new w 161 #[.func (.func f) #[] lb]).cell 0) hb;clear hco hc hf hb;go_enter Tryz.func152,Tryz.ntmps152;go_upto_region 1 with fail
 generalize w.alloc (.cells #[.func (.func f) #[] lb] 161)=w1 at HB HG⊢;generalize w.heap.size=G at HG⊢;go_wp2_with(go_at_call 175;refine(Vd.out _ HB.out _ HG.out).mono ?_;rintro r w2⟨rfl,e2⟩)
 go_ret;exact⟨rfl,after HB.out e2⟩
theorem Qz{w:World}{A:Option Addr}{N cap:Nat}(hN:N≤4000000)(cs:Nat→List Value)(p:Nat→Bool)(hc:dO w A N 3 cs)(f:Nat)(lb:Array Value)(eg:∀args w,(callFunc f args).run ah w=.ok (.enter f args) w)(hf:∀k,k+1<N→∀W,aW w W→Calls ah f (#[.agg (cs k).toArray,.agg (cs (k+1)).toArray]++lb) W (Got (.bool (p k)) W)):Calls ah 153 #[.slice A N cap,.func (.func f) #[] lb] w (Got (.bool ((aF (N-1)).all p)) w):=by
 obtain⟨HC,HF⟩:=aL hc hf;clear hc hf;generalize hR:(aF (N-1)).all p=R;have HR:=ae hR;clear hR;go_enter Tryz.func153,Tryz.ntmps153;go_wp2_with fail
 go_loopw [5] (fun v5 wr=>∃k:Nat,k≤N∧v5=.int .i64 ((k:Int)+1)∧ag (aW w wr)∧ag ((aF k).all p=true∧(k=0∨k+1≤N))) (fun v5 _=>N-(intOf v5).toNat)
 case atStart=>exact⟨0,bj _,rfl,ae (aI _ _),ae ⟨rfl,.inl rfl⟩⟩
 case round=>
  obtain⟨k,hk,rfl,hb,hno⟩:=hrel;have hz:IntKind.i64.wrap (k:Int)=(k:Int):=IntWalk.i64_in _ aR;by_cases hlt:k+1<N
  ·have hlt':(k:Int)+1<(N:Int):=by omega
   have hlt0:(k:Int)<(N:Int):=by omega
   have acQ:(0:Int)≤(k:Int)+1:=by omega
   obtain⟨hlen,q,o,hA,hcell⟩:=HC.out k aR;obtain⟨hlen1,q1,o1,hA1,hcell1⟩:=HC.out (k+1) hlt;subst hA;injection hA1 with hA1
   injection hA1 with eq eo _
   subst eq eo;have hcall:=fun u(hu:aW w u)=>HF.out k hlt u hu
   generalize hcs:cs k=L at hlen hcell hcall;generalize hcs1:cs (k+1)=M at hlen1 hcell1 hcall;clear hcs hcs1;obtain⟨c0,c1,c2,hL⟩:∃c0 c1 c2,L=[c0,c1,c2]:=by
    match L,hlen with
    |[c0,c1,c2],_=>exact⟨c0,c1,c2,rfl⟩
   obtain⟨e0,e1,e2,hM⟩:∃e0 e1 e2,M=[e0,e1,e2]:=by
    match M,hlen1 with
    |[e0,e1,e2],_=>exact⟨e0,e1,e2,rfl⟩
   subst hL hM;have d0:=(hb.out.cell (ak w _ (hcell 0 _ rfl))).trans (hcell 0 _ rfl);have d1:=(hb.out.cell (ak w _ (hcell 1 _ rfl))).trans (hcell 1 _ rfl);have d2:=(hb.out.cell (ak w _ (hcell 2 _ rfl))).trans (hcell 2 _ rfl);have f0:=(hb.out.cell (ak w _ (hcell1 0 _ rfl))).trans (hcell1 0 _ rfl);have f1:=(hb.out.cell (ak w _ (hcell1 1 _ rfl))).trans (hcell1 1 _ rfl);have f2:=(hb.out.cell (ak w _ (hcell1 2 _ rfl))).trans (hcell1 2 _ rfl);rw[cq]at d0 f0;have bG:=ae hcall;clear hcall hcell hlen hcell1 hlen1;cases hp:p k with
   |true=>
    rw[hp]at bG;have HP:=ae hp;clear hp;go_upto_region 4 with fail
    refine wp_region_held_drew (S:=(fun w'=>w'.cell? ⟨q,o+k*3,none⟩=some c0∧w'.cell? ⟨q,o+k*3+1,none⟩=some c1∧w'.cell? ⟨q,o+k*3+2,none⟩=some c2∧w'.cell? ⟨q,o+(k+1)*3,none⟩=some e0∧w'.cell? ⟨q,o+(k+1)*3+1,none⟩=some e1∧w'.cell? ⟨q,o+(k+1)*3+2,none⟩=some e2)) bo (⟨d0,d1,d2,f0,f1,f2⟩) (fun hHeld=>?_);refine aY 0 ?_
    refine aY 1 ?_
    refine aY 2 ?_
    refine aY 3 ?_
    refine aY 4 ?_
    refine aY 5 ?_
    refine aY 6 ?_
    refine aY 7 ?_
    refine aY 8 ?_
    refine aY 9 ?_
    refine fA 10 fun K hK=>?_;go_simp;go_at_fn f;refine(bG.out _ (Below.qJ hb.out)).mono ?_;rintro r wb⟨rfl,db⟩;have eb:=Below.fL db;clear db;refine hK.out _ _ (⟨ai d0 eb,ai d1 eb,ai d2 eb,ai f0 eb,ai f1 eb,ai f2 eb⟩) (fun hHeld=>?_);clear hK K;try simp only[ck]
    refine aY 11 ?_
    refine lN ?_;go_wp2_with fail
    go_roundw
    case rel=>exact⟨k+1,by omega,by go_num,(bg hb eb),ae ⟨by rw[fi,hno.out.1,HP.out];rfl,.inr hlt⟩⟩
    case measure=>simp[intOf];omega
   |false=>
    rw[hp]at bG;have dS:ag (R=false):=ae (by rw[←HR.out];exact fy aR hp);clear hp;go_upto_region 4 with fail
    refine wp_region_held_drew (S:=(fun w'=>w'.cell? ⟨q,o+k*3,none⟩=some c0∧w'.cell? ⟨q,o+k*3+1,none⟩=some c1∧w'.cell? ⟨q,o+k*3+2,none⟩=some c2∧w'.cell? ⟨q,o+(k+1)*3,none⟩=some e0∧w'.cell? ⟨q,o+(k+1)*3+1,none⟩=some e1∧w'.cell? ⟨q,o+(k+1)*3+2,none⟩=some e2)) bo (⟨d0,d1,d2,f0,f1,f2⟩) (fun hHeld=>?_);refine aY 0 ?_
    refine aY 1 ?_
    refine aY 2 ?_
    refine aY 3 ?_
    refine aY 4 ?_
    refine aY 5 ?_
    refine aY 6 ?_
    refine aY 7 ?_
    refine aY 8 ?_
    refine aY 9 ?_
    refine fA 10 fun K hK=>?_;go_simp;go_at_fn f;refine(bG.out _ (Below.qJ hb.out)).mono ?_;rintro r wb⟨rfl,db⟩;have eb:=Below.fL db;clear db;refine hK.out _ _ (⟨ai d0 eb,ai d1 eb,ai d2 eb,ai f0 eb,ai f1 eb,ai f2 eb⟩) (fun hHeld=>?_);clear hK K;try simp only[ck]
    refine aY 11 ?_
    refine lN ?_;go_wp2_with fail
    go_ret;exact⟨by rw[dS.out];rfl,after hb.out eb⟩
  ·have hge:¬(k:Int)+1<(N:Int):=by omega
   have Z6:ag (R=true):=ae (by rw[←HR.out,show N-1=k by have:=hno.out.2;omega];exact hno.out.1);go_wp2_with fail
   go_ret;exact⟨by rw[Z6.out];rfl,hb.out⟩
theorem Vh{w:World}{A:Option Addr}{N cap:Nat}(hN:N≤4000000)(cs:Nat→List Value)(p:Nat→Bool)(hc:dO w A N 6 cs)(f:Nat)(lb:Array Value)(eg:∀args w,(callFunc f args).run ah w=.ok (.enter f args) w)(hf:∀k,k<N→∀W,aW w W→Calls ah f (#[.agg (cs k).toArray]++lb) W (Got (.bool (p k)) W)):Calls ah 147 #[.slice A N cap,.func (.func f) #[] lb] w fun r w'=>(∃z:Int,r=.returned (.int .i64 z)∧Yn p N z)∧aW w w':=by
 obtain⟨HC,HF⟩:=aL hc hf;clear hc hf;go_enter Tryz.func147,Tryz.ntmps147;go_wp2_with fail
 go_loopw [8] (fun v8 wr=>∃k:Nat,k≤N∧v8=.int .i64 k∧ag (aW w wr)∧ag (∀j,j<k→p j=false)) (fun v8 _=>N-(intOf v8).toNat)
 case atStart=>exact⟨0,bj _,rfl,ae (aI _ _),ae (fun j hj=>absurd hj (Nat.not_lt_zero j))⟩
 case round=>
  obtain⟨k,hk,rfl,hb,hno⟩:=hrel;by_cases hlt:k<N
  ·skip
   obtain⟨hlen,q,o,rfl,hcell⟩:=HC.out k hlt;have hcall:=HF.out k hlt wr hb.out;generalize hcs:cs k=L at hlen hcell hcall;clear hcs;obtain⟨c0,c1,c2,c3,c4,c5,hL⟩:∃c0 c1 c2 c3 c4 c5,L=[c0,c1,c2,c3,c4,c5]:=by
    match L,hlen with
    |[c0,c1,c2,c3,c4,c5],_=>exact⟨c0,c1,c2,c3,c4,c5,rfl⟩
   subst hL;have d0:=(hb.out.cell (ak w _ (hcell 0 _ rfl))).trans (hcell 0 _ rfl);have d1:=(hb.out.cell (ak w _ (hcell 1 _ rfl))).trans (hcell 1 _ rfl);have d2:=(hb.out.cell (ak w _ (hcell 2 _ rfl))).trans (hcell 2 _ rfl);have d3:=(hb.out.cell (ak w _ (hcell 3 _ rfl))).trans (hcell 3 _ rfl);have d4:=(hb.out.cell (ak w _ (hcell 4 _ rfl))).trans (hcell 4 _ rfl);have d5:=(hb.out.cell (ak w _ (hcell 5 _ rfl))).trans (hcell 5 _ rfl);rw[cq]at d0;have bG:=ae hcall;clear hcall hcell hlen;cases hp:p k with
   |true=>
    rw[hp]at bG;have HP:=ae hp;clear hp;go_wp2_with(go_at_fn f;(with_reducible refine bG.out.mono ?_);rintro r w2⟨rfl,e2⟩)
    go_ret;exact⟨⟨_,rfl,.inl ⟨k,hlt,rfl,HP.out,hno.out⟩⟩,after hb.out e2⟩
   |false=>
    rw[hp]at bG;have HP:=ae hp;clear hp;go_wp2_with(go_at_fn f;(with_reducible refine bG.out.mono ?_);rintro r w2⟨rfl,e2⟩)
    go_roundw
    case rel=>
     refine⟨k+1,by omega,by go_num,(bg hb e2),ae (fun j hj=>?_)⟩;by_cases e:j=k
     ·rw[e];exact HP.out
     ·exact hno.out j (by omega)
    case measure=>simp[intOf];omega
  ·obtain rfl:k=N:=by omega
   go_wp2_with fail
   go_ret;exact⟨⟨_,rfl,.inr ⟨rfl,hno.out⟩⟩,hb.out⟩
theorem Gq{w:World}{A:Option Addr}{N cap:Nat}(hN:N≤4000000)(cs:Nat→List Value)(p:Nat→Bool)(hc:dO w A N 6 cs)(f:Nat)(lb:Array Value)(eg:∀args w,(callFunc f args).run ah w=.ok (.enter f args) w)(hf:∀k,k<N→∀W,aW w W→Calls ah f (#[.agg (cs k).toArray]++lb) W (Got (.bool (p k)) W)):Calls ah 114 #[.slice A N cap,.func (.func f) #[] lb] w (Got (.bool ((aF N).any p)) w):=by
 have HI:=ae (Vh (cap:=cap) hN cs p hc f lb eg hf);clear hc hf;generalize hR:(aF N).any p=R;have HR:=ae hR;clear hR;go_enter Tryz.func114,Tryz.ntmps114;go_wp2_with(go_at_call 147;refine HI.out.mono ?_;rintro r w2⟨⟨z,rfl,hz⟩,e2⟩)
 go_ret;exact⟨by rw[←HR.out,←hz.any];rfl,e2⟩
theorem QA{w:World}(L:List Value)(hl:L.length=6)(g:Nat)(f:Nat)(lb:Array Value)(eg:∀args w,(callFunc f args).run ah w=.ok (.enter f args) w)(hg:w.cell? ⟨g,0,none⟩=some (.func (.func f) #[] lb))(b:Bool)(hf:∀W,aW w W→Calls ah f (#[.agg L.toArray]++lb) W (Got (.bool b) W)):Calls ah 155 #[.agg L.toArray,.pointer (some ⟨g,0,none⟩)] w (Got (.bool (!b)) w):=by
 obtain⟨c0,c1,c2,c3,c4,c5,hL⟩:∃c0 c1 c2 c3 c4 c5,L=[c0,c1,c2,c3,c4,c5]:=by
  match L,hl with
  |[c0,c1,c2,c3,c4,c5],_=>exact⟨c0,c1,c2,c3,c4,c5,rfl⟩
 subst hL;have HF:=ae hf;have hb:=boxed w (.cells #[c0,c1,c2,c3,c4,c5] 57);have HS:=ae (aH.new w 57 #[c0,c1,c2,c3,c4,c5]);have g0:=ai hg hb;have HB:=ae hb;clear hf hg hb hl;go_enter Tryz.func155,Tryz.ntmps155;go_upto_region 1 with fail
 generalize w.alloc (.cells #[c0,c1,c2,c3,c4,c5] 57)=w1 at HB HS g0⊢;generalize w.heap.size=G at HS⊢;obtain⟨s0,s1,s2,s3,s4,s5⟩:=zl HS;go_wp2_with(go_at_fn f;(with_reducible refine(HF.out _ HB.out).mono ?_);rintro r w2⟨rfl,e2⟩)
 go_ret;exact⟨rfl,after HB.out e2⟩
theorem QB{w:World}{A:Option Addr}{N cap:Nat}(hN:N≤4000000)(cs:Nat→List Value)(p:Nat→Bool)(hc:dO w A N 6 cs)(f:Nat)(lb:Array Value)(eg:∀args w,(callFunc f args).run ah w=.ok (.enter f args) w)(hf:∀k,k<N→∀W,aW w W→Calls ah f (#[.agg (cs k).toArray]++lb) W (Got (.bool (p k)) W)):Calls ah 123 #[.slice A N cap,.func (.func f) #[] lb] w (Got (.bool ((aF N).all p)) w):=by
 have hco:=fun u(hu:aW w u)g(hg:u.cell? ⟨g,0,none⟩=some (.func (.func f) #[] lb))=>Gq (cap:=cap) hN cs (fun k=> !p k) (hc.below hu) 155 #[.pointer (some ⟨g,0,none⟩)] (enters_of Tryz.func155 bo rfl)
  fun k hk W hW=>QA _ (hc k hk).1 g f lb eg (ai hg hW) (p k) fun W2 hW2=>hf k hk W2 (after hu (after hW hW2))
 rw[←sg];generalize((aF N).any fun k=> !p k)=R at hco⊢;have Vd:=ae hco;have hb:=boxed w (.cells #[.func (.func f) #[] lb] 155);obtain⟨HG,HB⟩:=aL (show(w.alloc (.cells #[.func (.func f) #[] lb] 155)).cell? ⟨w.heap.size,0,none⟩=some (.func (.func f) #[] lb)from(aH.new w 155 #[.func (.func f) #[] lb]).cell 0) hb;clear hco hc hf hb;go_enter Tryz.func123,Tryz.ntmps123;go_upto_region 1 with fail
 generalize w.alloc (.cells #[.func (.func f) #[] lb] 155)=w1 at HB HG⊢;generalize w.heap.size=G at HG⊢;go_wp2_with(go_at_call 114;refine(Vd.out _ HB.out _ HG.out).mono ?_;rintro r w2⟨rfl,e2⟩)
 go_ret;exact⟨rfl,after HB.out e2⟩
theorem QC{w:World}{A:Option Addr}{N cap:Nat}(hN:N≤4000000)(cs:Nat→List Value)(p:Nat→Bool)(hc:dO w A N 6 cs)(f:Nat)(lb:Array Value)(eg:∀args w,(callFunc f args).run ah w=.ok (.enter f args) w)(hf:∀k,k+1<N→∀W,aW w W→Calls ah f (#[.agg (cs k).toArray,.agg (cs (k+1)).toArray]++lb) W (Got (.bool (p k)) W)):Calls ah 121 #[.slice A N cap,.func (.func f) #[] lb] w (Got (.bool ((aF (N-1)).all p)) w):=by
 obtain⟨HC,HF⟩:=aL hc hf;clear hc hf;generalize hR:(aF (N-1)).all p=R;have HR:=ae hR;clear hR;go_enter Tryz.func121,Tryz.ntmps121;go_wp2_with fail
 go_loopw [5] (fun v5 wr=>∃k:Nat,k≤N∧v5=.int .i64 ((k:Int)+1)∧ag (aW w wr)∧ag ((aF k).all p=true∧(k=0∨k+1≤N))) (fun v5 _=>N-(intOf v5).toNat)
 case atStart=>exact⟨0,bj _,rfl,ae (aI _ _),ae ⟨rfl,.inl rfl⟩⟩
 case round=>
  obtain⟨k,hk,rfl,hb,hno⟩:=hrel;have hz:IntKind.i64.wrap (k:Int)=(k:Int):=IntWalk.i64_in _ aR;by_cases hlt:k+1<N
  ·have hlt':(k:Int)+1<(N:Int):=by omega
   have hlt0:(k:Int)<(N:Int):=by omega
   have acQ:(0:Int)≤(k:Int)+1:=by omega
   obtain⟨hlen,q,o,hA,hcell⟩:=HC.out k aR;obtain⟨hlen1,q1,o1,hA1,hcell1⟩:=HC.out (k+1) hlt;subst hA;injection hA1 with hA1
   injection hA1 with eq eo _
   subst eq eo;have hcall:=fun u(hu:aW w u)=>HF.out k hlt u hu
   generalize hcs:cs k=L at hlen hcell hcall;generalize hcs1:cs (k+1)=M at hlen1 hcell1 hcall;clear hcs hcs1;obtain⟨c0,c1,c2,c3,c4,c5,hL⟩:∃c0 c1 c2 c3 c4 c5,L=[c0,c1,c2,c3,c4,c5]:=by
    match L,hlen with
    |[c0,c1,c2,c3,c4,c5],_=>exact⟨c0,c1,c2,c3,c4,c5,rfl⟩
   obtain⟨e0,e1,e2,e3,e4,e5,hM⟩:∃e0 e1 e2 e3 e4 e5,M=[e0,e1,e2,e3,e4,e5]:=by
    match M,hlen1 with
    |[e0,e1,e2,e3,e4,e5],_=>exact⟨e0,e1,e2,e3,e4,e5,rfl⟩
   subst hL hM;have d0:=(hb.out.cell (ak w _ (hcell 0 _ rfl))).trans (hcell 0 _ rfl);have d1:=(hb.out.cell (ak w _ (hcell 1 _ rfl))).trans (hcell 1 _ rfl);have d2:=(hb.out.cell (ak w _ (hcell 2 _ rfl))).trans (hcell 2 _ rfl);have d3:=(hb.out.cell (ak w _ (hcell 3 _ rfl))).trans (hcell 3 _ rfl);have d4:=(hb.out.cell (ak w _ (hcell 4 _ rfl))).trans (hcell 4 _ rfl);have d5:=(hb.out.cell (ak w _ (hcell 5 _ rfl))).trans (hcell 5 _ rfl);have f0:=(hb.out.cell (ak w _ (hcell1 0 _ rfl))).trans (hcell1 0 _ rfl);have f1:=(hb.out.cell (ak w _ (hcell1 1 _ rfl))).trans (hcell1 1 _ rfl);have f2:=(hb.out.cell (ak w _ (hcell1 2 _ rfl))).trans (hcell1 2 _ rfl);have f3:=(hb.out.cell (ak w _ (hcell1 3 _ rfl))).trans (hcell1 3 _ rfl);have f4:=(hb.out.cell (ak w _ (hcell1 4 _ rfl))).trans (hcell1 4 _ rfl);have f5:=(hb.out.cell (ak w _ (hcell1 5 _ rfl))).trans (hcell1 5 _ rfl);rw[cq]at d0 f0;have bG:=ae hcall;clear hcall hcell hlen hcell1 hlen1;cases hp:p k with
   |true=>
    rw[hp]at bG;have HP:=ae hp;clear hp;go_upto_region 4 with fail
    refine wp_region_held_drew (S:=(fun w'=>w'.cell? ⟨q,o+k*6,none⟩=some c0∧w'.cell? ⟨q,o+k*6+1,none⟩=some c1∧w'.cell? ⟨q,o+k*6+2,none⟩=some c2∧w'.cell? ⟨q,o+k*6+3,none⟩=some c3∧w'.cell? ⟨q,o+k*6+4,none⟩=some c4∧w'.cell? ⟨q,o+k*6+5,none⟩=some c5∧w'.cell? ⟨q,o+(k+1)*6,none⟩=some e0∧w'.cell? ⟨q,o+(k+1)*6+1,none⟩=some e1∧w'.cell? ⟨q,o+(k+1)*6+2,none⟩=some e2∧w'.cell? ⟨q,o+(k+1)*6+3,none⟩=some e3∧w'.cell? ⟨q,o+(k+1)*6+4,none⟩=some e4∧w'.cell? ⟨q,o+(k+1)*6+5,none⟩=some e5)) bo (⟨d0,d1,d2,d3,d4,d5,f0,f1,f2,f3,f4,f5⟩) (fun hHeld=>?_);refine aY 0 ?_
    refine aY 1 ?_
    refine aY 2 ?_
    refine aY 3 ?_
    refine aY 4 ?_
    refine aY 5 ?_
    refine aY 6 ?_
    refine aY 7 ?_
    refine aY 8 ?_
    refine aY 9 ?_
    refine fA 10 fun K hK=>?_;go_simp;go_at_fn f;refine(bG.out _ (Below.qJ hb.out)).mono ?_;rintro r wb⟨rfl,db⟩;have eb:=Below.fL db;clear db;refine hK.out _ _ (⟨ai d0 eb,ai d1 eb,ai d2 eb,ai d3 eb,ai d4 eb,ai d5 eb,ai f0 eb,ai f1 eb,ai f2 eb,ai f3 eb,ai f4 eb,ai f5 eb⟩) (fun hHeld=>?_);clear hK K;try simp only[ck]
    refine aY 11 ?_
    refine lN ?_;go_wp2_with fail
    go_roundw
    case rel=>exact⟨k+1,by omega,by go_num,(bg hb eb),ae ⟨by rw[fi,hno.out.1,HP.out];rfl,.inr hlt⟩⟩
    case measure=>simp[intOf];omega
   |false=>
    rw[hp]at bG;have dS:ag (R=false):=ae (by rw[←HR.out];exact fy aR hp);clear hp;go_upto_region 4 with fail
    refine wp_region_held_drew (S:=(fun w'=>w'.cell? ⟨q,o+k*6,none⟩=some c0∧w'.cell? ⟨q,o+k*6+1,none⟩=some c1∧w'.cell? ⟨q,o+k*6+2,none⟩=some c2∧w'.cell? ⟨q,o+k*6+3,none⟩=some c3∧w'.cell? ⟨q,o+k*6+4,none⟩=some c4∧w'.cell? ⟨q,o+k*6+5,none⟩=some c5∧w'.cell? ⟨q,o+(k+1)*6,none⟩=some e0∧w'.cell? ⟨q,o+(k+1)*6+1,none⟩=some e1∧w'.cell? ⟨q,o+(k+1)*6+2,none⟩=some e2∧w'.cell? ⟨q,o+(k+1)*6+3,none⟩=some e3∧w'.cell? ⟨q,o+(k+1)*6+4,none⟩=some e4∧w'.cell? ⟨q,o+(k+1)*6+5,none⟩=some e5)) bo (⟨d0,d1,d2,d3,d4,d5,f0,f1,f2,f3,f4,f5⟩) (fun hHeld=>?_);refine aY 0 ?_
    refine aY 1 ?_
    refine aY 2 ?_
    refine aY 3 ?_
    refine aY 4 ?_
    refine aY 5 ?_
    refine aY 6 ?_
    refine aY 7 ?_
    refine aY 8 ?_
    refine aY 9 ?_
    refine fA 10 fun K hK=>?_;go_simp;go_at_fn f;refine(bG.out _ (Below.qJ hb.out)).mono ?_;rintro r wb⟨rfl,db⟩;have eb:=Below.fL db;clear db;refine hK.out _ _ (⟨ai d0 eb,ai d1 eb,ai d2 eb,ai d3 eb,ai d4 eb,ai d5 eb,ai f0 eb,ai f1 eb,ai f2 eb,ai f3 eb,ai f4 eb,ai f5 eb⟩) (fun hHeld=>?_);clear hK K;try simp only[ck]
    refine aY 11 ?_
    refine lN ?_;go_wp2_with fail
    go_ret;exact⟨by rw[dS.out];rfl,after hb.out eb⟩
  ·have hge:¬(k:Int)+1<(N:Int):=by omega
   have Z6:ag (R=true):=ae (by rw[←HR.out,show N-1=k by have:=hno.out.2;omega];exact hno.out.1);go_wp2_with fail
   go_ret;exact⟨by rw[Z6.out];rfl,hb.out⟩
theorem QD{w:World}(L:List Value)(hl:L.length=8)(g:Nat)(f:Nat)(lb:Array Value)(eg:∀args w,(callFunc f args).run ah w=.ok (.enter f args) w)(hg:w.cell? ⟨g,0,none⟩=some (.func (.func f) #[] lb))(b:Bool)(hf:∀W,aW w W→Calls ah f (#[.agg L.toArray]++lb) W (Got (.bool b) W)):Calls ah 146 #[.agg L.toArray,.pointer (some ⟨g,0,none⟩)] w (Got (.bool (!b)) w):=by
 obtain⟨c0,c1,c2,c3,c4,c5,c6,c7,hL⟩:∃c0 c1 c2 c3 c4 c5 c6 c7,L=[c0,c1,c2,c3,c4,c5,c6,c7]:=by
  match L,hl with
  |[c0,c1,c2,c3,c4,c5,c6,c7],_=>exact⟨c0,c1,c2,c3,c4,c5,c6,c7,rfl⟩
 subst hL;have HF:=ae hf;have hb:=boxed w (.cells #[c0,c1,c2,c3,c4,c5,c6,c7] 47);have HS:=ae (aH.new w 47 #[c0,c1,c2,c3,c4,c5,c6,c7]);have g0:=ai hg hb;have HB:=ae hb;clear hf hg hb hl;go_enter Tryz.func146,Tryz.ntmps146;go_upto_region 1 with fail
 generalize w.alloc (.cells #[c0,c1,c2,c3,c4,c5,c6,c7] 47)=w1 at HB HS g0⊢;generalize w.heap.size=G at HS⊢;obtain⟨s0,s1,s2,s3,s4,s5,s6,s7⟩:=dB HS;go_wp2_with(go_at_fn f;(with_reducible refine(HF.out _ HB.out).mono ?_);rintro r w2⟨rfl,e2⟩)
 go_ret;exact⟨rfl,after HB.out e2⟩
theorem QE{w:World}{A:Option Addr}{N cap:Nat}(hN:N≤4000000)(cs:Nat→List Value)(p:Nat→Bool)(hc:dO w A N 8 cs)(f:Nat)(lb:Array Value)(eg:∀args w,(callFunc f args).run ah w=.ok (.enter f args) w)(hf:∀k,k<N→∀W,aW w W→Calls ah f (#[.agg (cs k).toArray]++lb) W (Got (.bool (p k)) W)):Calls ah 112 #[.slice A N cap,.func (.func f) #[] lb] w (Got (.bool ((aF N).all p)) w):=by
 have hco:=fun u(hu:aW w u)g(hg:u.cell? ⟨g,0,none⟩=some (.func (.func f) #[] lb))=>U3 (cap:=cap) hN cs (fun k=> !p k) (hc.below hu) 146 #[.pointer (some ⟨g,0,none⟩)] (enters_of Tryz.func146 bo rfl)
  fun k hk W hW=>QD _ (hc k hk).1 g f lb eg (ai hg hW) (p k) fun W2 hW2=>hf k hk W2 (after hu (after hW hW2))
 rw[←sg];generalize((aF N).any fun k=> !p k)=R at hco⊢;have Vd:=ae hco;have hb:=boxed w (.cells #[.func (.func f) #[] lb] 103);obtain⟨HG,HB⟩:=aL (show(w.alloc (.cells #[.func (.func f) #[] lb] 103)).cell? ⟨w.heap.size,0,none⟩=some (.func (.func f) #[] lb)from(aH.new w 103 #[.func (.func f) #[] lb]).cell 0) hb;clear hco hc hf hb;go_enter Tryz.func112,Tryz.ntmps112;go_upto_region 1 with fail
 generalize w.alloc (.cells #[.func (.func f) #[] lb] 103)=w1 at HB HG⊢;generalize w.heap.size=G at HG⊢;go_wp2_with(go_at_call 145;refine(Vd.out _ HB.out _ HG.out).mono ?_;rintro r w2⟨rfl,e2⟩)
 go_ret;exact⟨rfl,after HB.out e2⟩
theorem QF{w:World}{A:Option Addr}{N cap:Nat}(hN:N≤4000000)(cs:Nat→List Value)(p:Nat→Bool)(hc:dO w A N 8 cs)(f:Nat)(lb:Array Value)(eg:∀args w,(callFunc f args).run ah w=.ok (.enter f args) w)(hf:∀k,k+1<N→∀W,aW w W→Calls ah f (#[.agg (cs k).toArray,.agg (cs (k+1)).toArray]++lb) W (Got (.bool (p k)) W)):Calls ah 119 #[.slice A N cap,.func (.func f) #[] lb] w (Got (.bool ((aF (N-1)).all p)) w):=by
 obtain⟨HC,HF⟩:=aL hc hf;clear hc hf;generalize hR:(aF (N-1)).all p=R;have HR:=ae hR;clear hR;go_enter Tryz.func119,Tryz.ntmps119;go_wp2_with fail
 go_loopw [5] (fun v5 wr=>∃k:Nat,k≤N∧v5=.int .i64 ((k:Int)+1)∧ag (aW w wr)∧ag ((aF k).all p=true∧(k=0∨k+1≤N))) (fun v5 _=>N-(intOf v5).toNat)
 case atStart=>exact⟨0,bj _,rfl,ae (aI _ _),ae ⟨rfl,.inl rfl⟩⟩
 case round=>
  obtain⟨k,hk,rfl,hb,hno⟩:=hrel;have hz:IntKind.i64.wrap (k:Int)=(k:Int):=IntWalk.i64_in _ aR;by_cases hlt:k+1<N
  ·have hlt':(k:Int)+1<(N:Int):=by omega
   have hlt0:(k:Int)<(N:Int):=by omega
   have acQ:(0:Int)≤(k:Int)+1:=by omega
   obtain⟨hlen,q,o,hA,hcell⟩:=HC.out k aR;obtain⟨hlen1,q1,o1,hA1,hcell1⟩:=HC.out (k+1) hlt;subst hA;injection hA1 with hA1
   injection hA1 with eq eo _
   subst eq eo;have hcall:=fun u(hu:aW w u)=>HF.out k hlt u hu
   generalize hcs:cs k=L at hlen hcell hcall;generalize hcs1:cs (k+1)=M at hlen1 hcell1 hcall;clear hcs hcs1;obtain⟨c0,c1,c2,c3,c4,c5,c6,c7,hL⟩:∃c0 c1 c2 c3 c4 c5 c6 c7,L=[c0,c1,c2,c3,c4,c5,c6,c7]:=by
    match L,hlen with
    |[c0,c1,c2,c3,c4,c5,c6,c7],_=>exact⟨c0,c1,c2,c3,c4,c5,c6,c7,rfl⟩
   obtain⟨e0,e1,e2,e3,e4,e5,e6,e7,hM⟩:∃e0 e1 e2 e3 e4 e5 e6 e7,M=[e0,e1,e2,e3,e4,e5,e6,e7]:=by
    match M,hlen1 with
    |[e0,e1,e2,e3,e4,e5,e6,e7],_=>exact⟨e0,e1,e2,e3,e4,e5,e6,e7,rfl⟩
   subst hL hM;have d0:=(hb.out.cell (ak w _ (hcell 0 _ rfl))).trans (hcell 0 _ rfl);have d1:=(hb.out.cell (ak w _ (hcell 1 _ rfl))).trans (hcell 1 _ rfl);have d2:=(hb.out.cell (ak w _ (hcell 2 _ rfl))).trans (hcell 2 _ rfl);have d3:=(hb.out.cell (ak w _ (hcell 3 _ rfl))).trans (hcell 3 _ rfl);have d4:=(hb.out.cell (ak w _ (hcell 4 _ rfl))).trans (hcell 4 _ rfl);have d5:=(hb.out.cell (ak w _ (hcell 5 _ rfl))).trans (hcell 5 _ rfl);have d6:=(hb.out.cell (ak w _ (hcell 6 _ rfl))).trans (hcell 6 _ rfl);have d7:=(hb.out.cell (ak w _ (hcell 7 _ rfl))).trans (hcell 7 _ rfl);have f0:=(hb.out.cell (ak w _ (hcell1 0 _ rfl))).trans (hcell1 0 _ rfl);have f1:=(hb.out.cell (ak w _ (hcell1 1 _ rfl))).trans (hcell1 1 _ rfl);have f2:=(hb.out.cell (ak w _ (hcell1 2 _ rfl))).trans (hcell1 2 _ rfl);have f3:=(hb.out.cell (ak w _ (hcell1 3 _ rfl))).trans (hcell1 3 _ rfl);have f4:=(hb.out.cell (ak w _ (hcell1 4 _ rfl))).trans (hcell1 4 _ rfl);have f5:=(hb.out.cell (ak w _ (hcell1 5 _ rfl))).trans (hcell1 5 _ rfl);have f6:=(hb.out.cell (ak w _ (hcell1 6 _ rfl))).trans (hcell1 6 _ rfl);have f7:=(hb.out.cell (ak w _ (hcell1 7 _ rfl))).trans (hcell1 7 _ rfl);rw[cq]at d0 f0;have bG:=ae hcall;clear hcall hcell hlen hcell1 hlen1;cases hp:p k with
   |true=>
    rw[hp]at bG;have HP:=ae hp;clear hp;go_upto_region 4 with fail
    refine wp_region_held_drew (S:=(fun w'=>w'.cell? ⟨q,o+k*8,none⟩=some c0∧w'.cell? ⟨q,o+k*8+1,none⟩=some c1∧w'.cell? ⟨q,o+k*8+2,none⟩=some c2∧w'.cell? ⟨q,o+k*8+3,none⟩=some c3∧w'.cell? ⟨q,o+k*8+4,none⟩=some c4∧w'.cell? ⟨q,o+k*8+5,none⟩=some c5∧w'.cell? ⟨q,o+k*8+6,none⟩=some c6∧w'.cell? ⟨q,o+k*8+7,none⟩=some c7∧w'.cell? ⟨q,o+(k+1)*8,none⟩=some e0∧w'.cell? ⟨q,o+(k+1)*8+1,none⟩=some e1∧w'.cell? ⟨q,o+(k+1)*8+2,none⟩=some e2∧w'.cell? ⟨q,o+(k+1)*8+3,none⟩=some e3∧w'.cell? ⟨q,o+(k+1)*8+4,none⟩=some e4∧w'.cell? ⟨q,o+(k+1)*8+5,none⟩=some e5∧w'.cell? ⟨q,o+(k+1)*8+6,none⟩=some e6∧w'.cell? ⟨q,o+(k+1)*8+7,none⟩=some e7)) bo (⟨d0,d1,d2,d3,d4,d5,d6,d7,f0,f1,f2,f3,f4,f5,f6,f7⟩) (fun hHeld=>?_);refine aY 0 ?_
    refine aY 1 ?_
    refine aY 2 ?_
    refine aY 3 ?_
    refine aY 4 ?_
    refine aY 5 ?_
    refine aY 6 ?_
    refine aY 7 ?_
    refine aY 8 ?_
    refine aY 9 ?_
    refine fA 10 fun K hK=>?_;go_simp;go_at_fn f;refine(bG.out _ (Below.qJ hb.out)).mono ?_;rintro r wb⟨rfl,db⟩;have eb:=Below.fL db;clear db;refine hK.out _ _ (⟨ai d0 eb,ai d1 eb,ai d2 eb,ai d3 eb,ai d4 eb,ai d5 eb,ai d6 eb,ai d7 eb,ai f0 eb,ai f1 eb,ai f2 eb,ai f3 eb,ai f4 eb,ai f5 eb,ai f6 eb,ai f7 eb⟩) (fun hHeld=>?_);clear hK K;try simp only[ck]
    refine aY 11 ?_
    refine lN ?_;go_wp2_with fail
    go_roundw
    case rel=>exact⟨k+1,by omega,by go_num,(bg hb eb),ae ⟨by rw[fi,hno.out.1,HP.out];rfl,.inr hlt⟩⟩
    case measure=>simp[intOf];omega
   |false=>
    rw[hp]at bG;have dS:ag (R=false):=ae (by rw[←HR.out];exact fy aR hp);clear hp;go_upto_region 4 with fail
    refine wp_region_held_drew (S:=(fun w'=>w'.cell? ⟨q,o+k*8,none⟩=some c0∧w'.cell? ⟨q,o+k*8+1,none⟩=some c1∧w'.cell? ⟨q,o+k*8+2,none⟩=some c2∧w'.cell? ⟨q,o+k*8+3,none⟩=some c3∧w'.cell? ⟨q,o+k*8+4,none⟩=some c4∧w'.cell? ⟨q,o+k*8+5,none⟩=some c5∧w'.cell? ⟨q,o+k*8+6,none⟩=some c6∧w'.cell? ⟨q,o+k*8+7,none⟩=some c7∧w'.cell? ⟨q,o+(k+1)*8,none⟩=some e0∧w'.cell? ⟨q,o+(k+1)*8+1,none⟩=some e1∧w'.cell? ⟨q,o+(k+1)*8+2,none⟩=some e2∧w'.cell? ⟨q,o+(k+1)*8+3,none⟩=some e3∧w'.cell? ⟨q,o+(k+1)*8+4,none⟩=some e4∧w'.cell? ⟨q,o+(k+1)*8+5,none⟩=some e5∧w'.cell? ⟨q,o+(k+1)*8+6,none⟩=some e6∧w'.cell? ⟨q,o+(k+1)*8+7,none⟩=some e7)) bo (⟨d0,d1,d2,d3,d4,d5,d6,d7,f0,f1,f2,f3,f4,f5,f6,f7⟩) (fun hHeld=>?_);refine aY 0 ?_
    refine aY 1 ?_
    refine aY 2 ?_
    refine aY 3 ?_
    refine aY 4 ?_
    refine aY 5 ?_
    refine aY 6 ?_
    refine aY 7 ?_
    refine aY 8 ?_
    refine aY 9 ?_
    refine fA 10 fun K hK=>?_;go_simp;go_at_fn f;refine(bG.out _ (Below.qJ hb.out)).mono ?_;rintro r wb⟨rfl,db⟩;have eb:=Below.fL db;clear db;refine hK.out _ _ (⟨ai d0 eb,ai d1 eb,ai d2 eb,ai d3 eb,ai d4 eb,ai d5 eb,ai d6 eb,ai d7 eb,ai f0 eb,ai f1 eb,ai f2 eb,ai f3 eb,ai f4 eb,ai f5 eb,ai f6 eb,ai f7 eb⟩) (fun hHeld=>?_);clear hK K;try simp only[ck]
    refine aY 11 ?_
    refine lN ?_;go_wp2_with fail
    go_ret;exact⟨by rw[dS.out];rfl,after hb.out eb⟩
  ·have hge:¬(k:Int)+1<(N:Int):=by omega
   have Z6:ag (R=true):=ae (by rw[←HR.out,show N-1=k by have:=hno.out.2;omega];exact hno.out.1);go_wp2_with fail
   go_ret;exact⟨by rw[Z6.out];rfl,hb.out⟩
structure Fits{α:Type}(p:Ps α)(f:α→List UInt8)(Q:α→Prop):Prop where
 back:∀x r,Q x→p (f x++r)=some (x,r)
 same:∀t x r,p t=some (x,r)→t=f x++r∧Q x
theorem tP(l:List UInt8)(c:UInt8):qt (l++[c])=qt l*256+c.toNat:=by simp[qt]
theorem Vi:∀(n:Nat)(l:List UInt8),l.length=n→qt l<256^n:=by
 intro n
 induction n with
 |zero=>
  intro l hl;rw[bC hl];decide
 |succ n ih=>
  intro l hl;rcases List.eq_nil_or_concat l with rfl|⟨m,c,rfl⟩
  ·cases hl
  ·rw[List.concat_eq_append]at hl⊢;rw[aj]at hl;have h1:=ih m (by simpa using hl);have:=c.toNat_lt;rw[tP,Nat.pow_succ];omega
theorem Z7(l:List UInt8):qt l<256^l.length:=Vi _ l rfl
theorem Gs(n x:Nat):fH (n+1) x=fH n (x/256)++[UInt8.ofNat (x%256)]:=by
 unfold fH;rw[List.range_succ,List.map_append];congr 1
 ·apply List.map_congr_left;intro j hj;have hj:=List.mem_range.1 hj;rw[show n+1-1-j=(n-1-j)+1 by omega,Nat.pow_succ,Nat.mul_comm (256^(n-1-j)) 256,Nat.div_div_eq_div_mul]
 ·simp
theorem acR:∀(n x:Nat),x<256^n→qt (fH n x)=x:=by
 intro n
 induction n with
 |zero=>
   intro x hx;rw[Nat.pow_zero]at hx;obtain rfl:x=0:=by omega
   rfl
 |succ n ih=>
  intro x hx;rw[Gs,tP,ih (x/256) (by rw[Nat.pow_succ]at hx;omega)];have:(UInt8.ofNat (x%256)).toNat=x%256:=by
   rw[UInt8.toNat_ofNat'];omega
  rw[this];omega
theorem Z8:∀(n:Nat)(l:List UInt8),l.length=n→fH n (qt l)=l:=by
 intro n
 induction n with
 |zero=>
  intro l hl;rw[bC hl];rfl
 |succ n ih=>
  intro l hl;rcases List.eq_nil_or_concat l with rfl|⟨m,c,rfl⟩
  ·cases hl
  ·rw[List.concat_eq_append]at hl⊢;rw[aj]at hl;have hc:=c.toNat_lt;rw[tP,Gs,show(qt m*256+c.toNat)/256=qt m by omega,show(qt m*256+c.toNat)%256=c.toNat by omega,ih m (by simpa using hl)];congr 1;simp
theorem acS(l:List UInt8):fH l.length (qt l)=l:=Z8 _ l rfl
theorem AP(x r:List UInt8):ku x.length (x++r)=some (x,r):=by
 unfold ku;rw[if_pos (by simp)];simp
theorem take_same{n:Nat}{t x r:List UInt8}(h:ku n t=some (x,r)):t=x++r∧x.length=n:=by
 unfold ku at h;split at h
 ·next hn=>
  injection h with h
  injection h with h1 h2
  subst h1 h2;exact⟨(List.take_append_drop n t).symm,by rw[List.length_take];omega⟩
 ·cases h
theorem cO(n:Nat):Fits (lr n) (fH n) (fun x=>x<256^n)where
 back:=fun x r hx=>by
  unfold lr;have:=AP (fH n x) r;rw[aP]at this;rw[this];show some (qt (fH n x),r)=_;rw[acR n x hx]
 same:=fun t x r h=>by
  unfold lr at h;cases ht:ku n t with
  |none=>rw[ht]at h;cases h
  |some y=>
   obtain⟨y1,y2⟩:=y;rw[ht]at h;injection h with h
   injection h with h1 h2
   obtain⟨e1,e2⟩:=take_same ht;simp only at h1 h2;subst h1 h2;have hb:=acS y1;rw[e2]at hb;refine⟨by rw[hb];exact e1,?_⟩;have:=Z7 y1;rw[e2]at this;exact this
theorem Vj(l:List UInt8):(iJ l).data.toList=l:=rfl
theorem acT(s:ByteArray):iJ s.data.toList=s:=rfl
theorem Vk(l:List UInt8):(iJ l).size=l.length:=rfl
theorem ek(s:ByteArray):s.data.toList.length=s.size:=by rw[fE];rfl
theorem gn(n:Nat):Fits (vJ n) (fun s:ByteArray=>s.data.toList) (fun s=>s.size=n)where
 back:=fun x r hx=>by
  unfold vJ;have:=AP x.data.toList r;rw[ek,hx]at this;rw[this];rfl
 same:=fun t x r h=>by
  unfold vJ at h;cases ht:ku n t with
  |none=>rw[ht]at h;cases h
  |some y=>
   obtain⟨y1,y2⟩:=y;rw[ht]at h;injection h with h
   injection h with h1 h2
   obtain⟨e1,e2⟩:=take_same ht;simp only at h1 h2;subst h1 h2;exact⟨e1,e2⟩
theorem bW{α β:Type}{p:Ps α}{f:α→List UInt8}{Q:α→Prop}(h:Fits p f Q){x:α}(hx:Q x)(g:α→Ps β)(r:List UInt8):cN p g (f x++r)=g x r:=by
 unfold cN;rw[h.back x r hx];rfl
theorem bX{α β:Type}{p:Ps α}{f:α→List UInt8}{Q:α→Prop}(h:Fits p f Q){g:α→Ps β}{t r:List UInt8}{y:β}(e:cN p g t=some (y,r)):∃x u,t=f x++u∧Q x∧g x u=some (y,r):=by
 unfold cN at e;cases hp:p t with
 |none=>rw[hp]at e;cases e
 |some z=>
  obtain⟨x,u⟩:=z;rw[hp]at e;obtain⟨e1,e2⟩:=h.same t x u hp;exact⟨x,u,e1,e2,e⟩
theorem gA{α:Type}{x y:α}{t r:List UInt8}(e:mP x t=some (y,r)):y=x∧t=r:=by
 injection e with e
 injection e with e1 e2
 exact⟨e1.symm,e2⟩
theorem kx:Fits Ku oy (fun s=>s.size≤32768)where
 back:=fun x r hx=>by
  unfold Ku oy;rw[aO,bW (cO 2) (by show x.size<256^2;omega),if_neg aR];exact(gn x.size).back x r rfl
 same:=fun t x r h=>by
  obtain⟨n,u,e1,hn,e2⟩:=bX (cO 2) h;split at e2
  ·cases e2
  ·next hl=>
   obtain⟨e3,e4⟩:=(gn n).same u x r e2;unfold oy;rw[e1,e3,e4,aO];exact⟨rfl,by omega⟩
def zH(a:Ad):Prop:=(a.v6=false∧a.hi=0∧a.lo<4294967296)∨(a.v6=true∧a.hi<18446744073709551616∧a.lo<18446744073709551616)
theorem Gt(b:UInt8)(r:List UInt8):lr 1 (b::r)=some (b.toNat,r):=by
 unfold lr ku;rw[if_pos (by simp)];simp[qt]
theorem wm:Fits adP zj zH where
 back:=fun a r ha=>by
  obtain⟨v,h,l⟩:=a;rcases ha with⟨h1,h2,h3⟩|⟨h1,h2,h3⟩
  ·simp only at h1 h2 h3;subst h1 h2;show adP (fH 1 4++(fH 4 l++r))=_;unfold adP;rw[bW (cO 1) aJ,if_pos rfl,bW (cO 4) (by show l<256^4;omega)];rfl
  ·simp only at h1 h2 h3;subst h1;unfold zj;simp only[if_true];rw[show(6::(fH 8 h++fH 8 l))++r=fH 1 6++(fH 8 h++(fH 8 l++r)) by rw[List.cons_append,aO];rfl];unfold adP;rw[bW (cO 1) aJ,if_neg aJ,if_pos rfl,bW (cO 8) (by show h<256^8;omega),bW (cO 8) (by show l<256^8;omega)];rfl
 same:=fun t a r h=>by
  obtain⟨k,u,e1,hk,e2⟩:=bX (cO 1) h;split at e2
  ·next h4=>
   obtain⟨l,u2,e3,hl,e4⟩:=bX (cO 4) e2;obtain⟨rfl,rfl⟩:=gA e4;subst h4;rw[e1,e3];exact⟨rfl,Or.inl ⟨rfl,rfl,by simpa using hl⟩⟩
  ·split at e2
   ·next h6=>
    obtain⟨hh,u2,e3,hl,e4⟩:=bX (cO 8) e2;obtain⟨l,u3,e5,hl2,e6⟩:=bX (cO 8) e4;obtain⟨rfl,rfl⟩:=gA e6;subst h6;rw[e1,e3,e5];refine⟨?_,Or.inr ⟨rfl,by simpa using hl,by simpa using hl2⟩⟩;show fH 1 6++(fH 8 hh++(fH 8 l++u3))=zj ⟨true,hh,l⟩++u3;unfold zj;simp only[if_true,List.cons_append,aO];rfl
   ·cases e2
theorem wn:Fits enP Gm (fun e=>zH e.1∧e.2<65536)where
 back:=fun e r he=>by
  unfold enP Gm;rw[aO,bW wm he.1,bW (cO 2) (by have:=he.2;show e.2<256^2;omega)];rfl
 same:=fun t e r h=>by
  obtain⟨a,u,e1,ha,e2⟩:=bX wm h;obtain⟨p,u2,e3,hp,e4⟩:=bX (cO 2) e2;obtain⟨rfl,rfl⟩:=gA e4;unfold Gm;rw[e1,e3,aO];exact⟨rfl,ha,by simpa using hp⟩
theorem QG{α:Type}{p:Ps α}{f:α→List UInt8}{Q:α→Prop}(h:Fits p f Q):∀(l:List α)(r:List UInt8),(∀x∈l,Q x)→xX p l.length (l.flatMap f++r)=some (l,r):=by
 intro l
 induction l with
 |nil=>intro r _;rfl
 |cons x m ih=>
  intro r hl;rw[abj,aO,bP,xX,bW h (hl x (cJ ..))];unfold cN;rw[ih r (fun y hy=>hl y (cB x hy))];rfl
theorem QH{α:Type}{p:Ps α}{f:α→List UInt8}{Q:α→Prop}(h:Fits p f Q):∀(n:Nat)(t r:List UInt8)(l:List α),xX p n t=some (l,r)→t=l.flatMap f++r∧l.length=n∧∀x∈l,Q x:=by
 intro n
 induction n with
 |zero=>
  intro t r l e;obtain⟨rfl,rfl⟩:=gA e;exact⟨rfl,rfl,fun x hx=>by cases hx⟩
 |succ n ih=>
  intro t r l e;obtain⟨x,u,e1,hx,e2⟩:=bX h e;unfold cN at e2;cases hm:xX p n u with
  |none=>rw[hm]at e2;cases e2
  |some z=>
   obtain⟨m,u2⟩:=z;rw[hm]at e2;obtain⟨rfl,rfl⟩:=gA e2;obtain⟨i1,i2,i3⟩:=ih u u2 m hm;refine⟨by rw[e1,i1,abj,aO],by rw[bP,i2],fun y hy=>?_⟩;rcases List.mem_cons.1 hy with rfl|hy
   ·exact hx
   ·exact i3 y hy
theorem dV{α:Type}{p:Ps α}{f:α→List UInt8}{Q:α→Prop}(h:Fits p f Q):Fits (pB p) (bU f) (fun l=>l.length<65536∧∀x∈l,Q x)where
 back:=fun l r hl=>by
  unfold pB bU;rw[aO,bW (cO 2) (by have:=hl.1;show l.length<256^2;omega)];exact QG h l r hl.2
 same:=fun t l r e=>by
  obtain⟨n,u,e1,hn,e2⟩:=bX (cO 2) e;obtain⟨i1,i2,i3⟩:=QH h n u r l e2;unfold bU;rw[e1,i1,aO,i2];exact⟨rfl,by simpa using hn,i3⟩
structure Ky(p:Pr):Prop where
 key:p.key.size=32
 bu:p.bu.size=32
 user:p.user.size≤32768
 tags:p.tags.length<65536∧∀x∈p.tags,x.size≤32768
 aQ:p.aQ.length<65536∧∀x∈p.aQ,zH x
 exp:p.exp<256^8
 bm:p.bm<256^1
 ends:p.ends.length<65536∧∀x∈p.ends,zH x.1∧x.2<65536
theorem wu:Fits prP qs Ky where
 back:=fun p r h=>by
  unfold prP qs;simp only[aO];rw[bW (gn 32) h.key,bW (gn 32) h.bu,bW kx h.user,bW (dV kx) h.tags,bW (dV wm) h.aQ,bW (cO 8) h.exp,bW (cO 1) h.bm,bW (dV wn) h.ends];rfl
 same:=fun t p r e=>by
  obtain⟨k,u1,t1,h1,e⟩:=bX (gn 32) e;obtain⟨d,u2,t2,h2,e⟩:=bX (gn 32) e;obtain⟨us,u3,t3,h3,e⟩:=bX kx e;obtain⟨ts,u4,t4,h4,e⟩:=bX (dV kx) e;obtain⟨ads,u5,t5,h5,e⟩:=bX (dV wm) e;obtain⟨ex,u6,t6,h6,e⟩:=bX (cO 8) e;obtain⟨rl,u7,t7,h7,e⟩:=bX (cO 1) e;obtain⟨es,u8,t8,h8,e⟩:=bX (dV wn) e;obtain⟨rfl,rfl⟩:=gA e;unfold qs;rw[t1,t2,t3,t4,t5,t6,t7,t8];simp only[aO];exact⟨trivial,h1,h2,h3,h4,h5,h6,h7,h8⟩
structure Kz(r:Ry):Prop where
 id:r.id<256^1
 key:r.key.size=32
 fin:zH r.fin.1∧r.fin.2<65536
theorem wy:Fits ryP qK Kz where
 back:=fun p r h=>by
  unfold ryP qK;simp only[aO];rw[bW (cO 1) h.id,bW (gn 32) h.key,bW wn h.fin];rfl
 same:=fun t p r e=>by
  obtain⟨k,u1,t1,h1,e⟩:=bX (cO 1) e;obtain⟨d,u2,t2,h2,e⟩:=bX (gn 32) e;obtain⟨us,u3,t3,h3,e⟩:=bX wn e;obtain⟨rfl,rfl⟩:=gA e;unfold qK;rw[t1,t2,t3];simp only[aO];exact⟨trivial,h1,h2,h3⟩
structure Vl(m:Mp):Prop where
 version:m.version<256^8
 aK:m.aK.length<65536∧∀x∈m.aK,Ky x
 aA:m.aA.length<65536∧∀x∈m.aA,Kz x
 policy:m.policy.size≤32768
theorem Ns:Fits mpP zE Vl where
 back:=fun p r h=>by
  unfold mpP zE;simp only[aO];rw[bW (cO 8) h.version,bW (dV wu) h.aK,bW (dV wy) h.aA,bW kx h.policy];rfl
 same:=fun t p r e=>by
  obtain⟨k,u1,t1,h1,e⟩:=bX (cO 8) e;obtain⟨d,u2,t2,h2,e⟩:=bX (dV wu) e;obtain⟨us,u3,t3,h3,e⟩:=bX (dV wy) e;obtain⟨ps,u4,t4,h4,e⟩:=bX kx e;obtain⟨rfl,rfl⟩:=gA e;unfold zE;rw[t1,t2,t3,t4];simp only[aO];exact⟨trivial,h1,h2,h3,h4⟩
theorem KA(r:List UInt8):mQ (0::r)=some (false,r):=by
 unfold mQ cN;rw[Gt];rfl
theorem QI(r:List UInt8):mQ (1::r)=some (true,r):=by
 unfold mQ cN;rw[Gt];rfl
theorem QJ{t r:List UInt8}{b:Bool}(h:mQ t=some (b,r)):t=(if b then 1 else 0)::r:=by
 obtain⟨k,u,e1,hk,e2⟩:=bX (cO 1) h;split at e2
 ·cases e2
 ·next hl=>
  obtain⟨rfl,rfl⟩:=gA e2;rw[e1];have:k=0∨k=1:=by omega
  rcases this with rfl|rfl<;>rfl
theorem Gu{α:Type}{p:Ps α}{f:α→List UInt8}{Q:α→Prop}(h:Fits p f Q){β:Type}{b:Bool}{x z:α}(hx:b=true→Q x)(hz:b=false→x=z)(g:Bool→α→Ps β)(r:List UInt8):cN mQ (fun c=>cN (Gn c z p) (g c)) (iR b (f x)++r)=g b x r:=by
 cases b with
 |false=>
  unfold iR cN;simp only[Bool.false_eq_true,if_false,List.cons_append,List.nil_append];rw[KA,hz rfl];rfl
 |true=>
  unfold iR;simp only[if_true,List.cons_append]
  conv=>lhs;unfold cN
  rw[QI];show cN p (g true) (f x++r)=_;rw[bW h (hx rfl)]
theorem Gv{α:Type}{p:Ps α}{f:α→List UInt8}{Q:α→Prop}(h:Fits p f Q){β:Type}{z:α}{g:Bool→α→Ps β}{t r:List UInt8}{y:β}(e:cN mQ (fun c=>cN (Gn c z p) (g c)) t=some (y,r)):∃b x u,t=iR b (f x)++u∧(b=true→Q x)∧(b=false→x=z)∧g b x u=some (y,r):=by
 unfold cN at e;cases hf:mQ t with
 |none=>rw[hf]at e;cases e
 |some w=>
  obtain⟨b,u⟩:=w;rw[hf]at e;have ht:=QJ hf;cases b with
  |false=>
   refine⟨false,z,u,by rw[ht];rfl,fun h=>(by cases h),fun _=>rfl,?_⟩;exact e
  |true=>
   have e':cN p (g true) u=some (y,r):=e;obtain⟨x,u2,e1,hx,e2⟩:=bX h e';exact⟨true,x,u2,by rw[ht,e1];rfl,fun _=>hx,fun h=>(by cases h),e2⟩
structure Vm(d:Dl):Prop where
 base:d.base<256^8
 version:d.version<256^8
 aM:d.aM.length<65536∧∀x∈d.aM,Ky x
 gone:d.gone.length<65536∧∀x∈d.gone,x.size=32
 aA:d.eX=true→d.aA.length<65536∧∀x∈d.aA,Kz x
 Gw:d.eX=false→d.aA=[]
 policy:d.fe=true→d.policy.size≤32768
 Gx:d.fe=false→d.policy=⟨#[]⟩
 hash:d.hash.size=32
theorem Nu:Fits dlP Dm Vm where
 back:=fun d r h=>by
  unfold dlP Dm;simp only[aO];rw[bW (cO 8) h.base,bW (cO 8) h.version,bW (dV wu) h.aM,bW (dV (gn 32)) h.gone];rw[Gu (dV wy) h.aA h.Gw];rw[Gu kx h.policy h.Gx];rw[bW (gn 32) h.hash];rfl
 same:=fun t d r e=>by
  obtain⟨b,u1,t1,h1,e⟩:=bX (cO 8) e;obtain⟨v,u2,t2,h2,e⟩:=bX (cO 8) e;obtain⟨st,u3,t3,h3,e⟩:=bX (dV wu) e;obtain⟨g,u4,t4,h4,e⟩:=bX (dV (gn 32)) e;obtain⟨b5,rs,u5,t5,h5,h5',e⟩:=Gv (dV wy) e;obtain⟨b6,ps,u6,t6,h6,h6',e⟩:=Gv kx e;obtain⟨hs,u7,t7,h7,e⟩:=bX (gn 32) e;obtain⟨rfl,rfl⟩:=gA e;unfold Dm;rw[t1,t2,t3,t4,t5,t6,t7];simp only[aO];exact⟨trivial,h1,h2,h3,h4,h5,h5',h6,h6',h7⟩
theorem xY{α:Type}{p:Ps α}{f:α→List UInt8}{Q:α→Prop}(h:Fits p f Q){x:α}(hx:Q x)(hl:(f x).length≤32768):fk p (f x)=some x:=by
 unfold fk;rw[if_neg aR];have:=h.back x [] hx;rw[List.append_nil]at this;rw[this]
theorem mR{may:Bool}{b:List UInt8}(h:(encR may b).2=0):may=true∧b.length≤32768∧encR may b=(iJ b,0):=by
 unfold encR at h⊢;cases may with
 |false=>simp at h
 |true=>
  simp only[Bool.true_eq_false,if_false]at h⊢;split at h
  ·simp at h
  ·next hl=>exact⟨trivial,by omega,by rw[if_neg hl]⟩
theorem Z9{m:Mp}(ok:Vl m)(h:(cR m).2=0):zF (cR m).1=(m,0):=by
 obtain⟨h1,h2,h3⟩:=mR h;have e:cR m=(iJ (zE m),0):=h3;unfold zF;rw[e];simp only[Vj];rw[xY Ns ok h2];simp only;rw[if_pos h]
theorem aac{m:Dl}(ok:Vm m)(h:(jW m).2=0):zG (jW m).1=(m,0):=by
 obtain⟨h1,h2,h3⟩:=mR h;have e:jW m=(iJ (Dm m),0):=h3;unfold zG;rw[e];simp only[Vj];rw[xY Nu ok h2];simp only;rw[if_pos h]
theorem QK:∀a:List UInt8,Op.bytesLess a a=false:=by
 intro a
 induction a with
 |nil=>rfl
 |cons x r ih=>
  unfold Op.bytesLess;rw[ih];simp
theorem Dq(x y:UInt8)(a b:List UInt8):Op.bytesLess (x::a) (y::b)=true↔x<y∨(x=y∧Op.bytesLess a b=true):=by
 conv=>lhs;unfold Op.bytesLess
 simp
theorem Vn:∀a b c:List UInt8,Op.bytesLess a b=true→Op.bytesLess b c=true→Op.bytesLess a c=true:=by
 intro a
 induction a with
 |nil=>
  intro b c h1 h2;cases c with
  |nil=>cases b<;>simp[Op.bytesLess]at h2
  |cons z c=>rfl
 |cons x a ih=>
  intro b c h1 h2;cases b with
  |nil=>simp[Op.bytesLess]at h1
  |cons y b=>
   cases c with
   |nil=>simp[Op.bytesLess]at h2
   |cons z c=>
    rw[Dq]at h1 h2⊢;rcases h1 with h1|⟨rfl,h1⟩
    ·rcases h2 with h2|⟨rfl,h2⟩
     ·exact Or.inl (UInt8.lt_trans h1 h2)
     ·exact Or.inl h1
    ·rcases h2 with h2|⟨rfl,h2⟩
     ·exact Or.inl h2
     ·exact Or.inr ⟨rfl,ih b c h1 h2⟩
theorem Vo:∀a b:List UInt8,a=b∨Op.bytesLess a b=true∨Op.bytesLess b a=true:=by
 intro a
 induction a with
 |nil=>intro b;cases b with
  |nil=>exact Or.inl rfl
  |cons y b=>exact Or.inr (Or.inl rfl)
 |cons x a ih=>
  intro b;cases b with
  |nil=>exact Or.inr (Or.inr rfl)
  |cons y b=>
   rw[Dq,Dq];by_cases hxy:x<y
   ·exact Or.inr (Or.inl (Or.inl hxy))
   ·by_cases hyx:y<x
    ·exact Or.inr (Or.inr (Or.inl hyx))
    ·have e:x=y:=UInt8.le_antisymm (UInt8.not_lt.1 hyx) (UInt8.not_lt.1 hxy);subst e;rcases ih b with rfl|h|h
     ·exact Or.inl rfl
     ·exact Or.inr (Or.inl (Or.inr ⟨rfl,h⟩))
     ·exact Or.inr (Or.inr (Or.inr ⟨rfl,h⟩))
theorem jX(a:ByteArray):sf a a=false:=QK _
theorem mS{a b c:ByteArray}(h1:sf a b=true)(h2:sf b c=true):sf a c=true:=Vn _ _ _ h1 h2
theorem toList_inj{a b:ByteArray}(h:a.toList=b.toList):a=b:=by
 rw[cE,cE]at h;obtain⟨⟨a⟩⟩:=a;obtain⟨⟨b⟩⟩:=b;simp only at h;rw[h]
theorem tQ(a b:ByteArray):a=b∨sf a b=true∨sf b a=true:=by
 rcases Vo a.toList b.toList with h|h|h
 ·exact Or.inl (toList_inj h)
 ·exact Or.inr (Or.inl h)
 ·exact Or.inr (Or.inr h)
theorem QL{a b:ByteArray}(h:sf a b=true):sf b a=false:=by
 cases h2:sf b a with
 |false=>rfl
 |true=>have:=mS h h2;rw[jX]at this;cases this
theorem xZ{α:Type}(lt:α→α→Bool)(htr:∀a b c,lt a b=true→lt b c=true→lt a c=true):∀l:List α,cX lt l=true↔l.Pairwise fun x y=>lt x y=true:=by
 intro l
 induction l with
 |nil=>exact⟨fun _=>List.Pairwise.nil,fun _=>rfl⟩
 |cons x r ih=>
  cases r with
  |nil=>exact⟨fun _=>List.pairwise_singleton _ _,fun _=>rfl⟩
  |cons y r=>
   constructor
   ·intro h;rw[cX,aU]at h;have h2:=ih.1 h.2;refine List.pairwise_cons.2 ⟨fun z hz=>?_,h2⟩;rcases List.mem_cons.1 hz with rfl|hz
    ·exact h.1
    ·exact htr _ _ _ h.1 ((List.pairwise_cons.1 h2).1 z hz)
   ·intro h;obtain⟨h1,h2⟩:=List.pairwise_cons.1 h;rw[cX,aU];exact⟨h1 y (cJ ..),ih.2 h2⟩
theorem Nv(a b c:Pr)(h1:fh a b=true)(h2:fh b c=true):fh a c=true:=mS h1 h2
theorem uV{l:List Pr}:cX fh l=true↔l.Pairwise fun x y=>fh x y=true:=xZ fh Nv l
theorem AQ:∀(l m:List Pr),l.Pairwise (fun x y=>fh x y=true)→m.Pairwise (fun x y=>fh x y=true)→(∀x,x∈l↔x∈m)→l=m:=by
 intro l
 induction l with
 |nil=>
  intro m _ _ h;cases m with
  |nil=>rfl
  |cons y m=>have:=(h y).2 (cJ ..);cases this
 |cons x l ih=>
  intro m hl hm h;cases m with
  |nil=>have:=(h x).1 (cJ ..);cases this
  |cons y m=>
   obtain⟨hx,hl'⟩:=List.pairwise_cons.1 hl;obtain⟨hy,hm'⟩:=List.pairwise_cons.1 hm;clear hl hm;have e:x=y:=by
    rcases List.mem_cons.1 ((h x).1 (cJ ..))with e|h1
    ·exact e
    ·rcases List.mem_cons.1 ((h y).2 (cJ ..))with e|h2
     ·exact e.symm
     ·have h3:=hy x h1;have h4:=hx y h2;have:=QL h3;have h5:fh x y=false:=this;rw[h4]at h5;cases h5
   subst e;rw[ih m hl' hm' fun z=>?_];constructor
   ·intro hz;rcases List.mem_cons.1 ((h z).1 (cB x hz))with e|h1
    ·subst e;have:=hx z hz;have e2:fh z z=false:=jX _;rw[e2]at this;cases this
    ·exact h1
   ·intro hz;rcases List.mem_cons.1 ((h z).2 (cB x hz))with e|h1
    ·subst e;have:=hy z hz;have e2:fh z z=false:=jX _;rw[e2]at this;cases this
    ·exact h1
theorem Dt{l:List Pr}(h:l.Pairwise fun x y=>fh x y=true):∀{x y:Pr},x∈l→y∈l→x.key=y.key→x=y:=by
 induction l with
 |nil=>intro x y hx;cases hx
 |cons z l ih=>
  intro x y hx hy e;obtain⟨hz,hl⟩:=List.pairwise_cons.1 h;have irr:∀u∈l,u.key≠z.key:=fun u hu e=>by
   have h1:sf z.key u.key=true:=hz u hu;rw[e,jX]at h1;cases h1
  rcases List.mem_cons.1 hx with e1|hx1
  ·rcases List.mem_cons.1 hy with e2|hy1
   ·rw[e1,e2]
   ·rw[e1]at e;exact absurd e.symm (irr y hy1)
  ·rcases List.mem_cons.1 hy with e2|hy1
   ·rw[e2]at e;exact absurd e (irr x hx1)
   ·exact ih hl hx1 hy1 e
theorem pY{l:List Pr}{k:ByteArray}{p:Pr}(h:nK l k=some p):p∈l∧p.key=k:=by
 unfold nK at h;exact⟨List.mem_of_find?_eq_some h,by simpa using List.find?_some h⟩
theorem wH{l:List Pr}{k:ByteArray}(h:nK l k=none):∀p∈l,p.key≠k:=by
 intro p hp e;unfold nK at h;have:=List.find?_eq_none.1 h p hp;simp[e]at this
theorem at_mem{l:List Pr}{p:Pr}(hp:p∈l):(nK l p.key).isSome=true:=by
 cases h:nK l p.key with
 |some q=>rfl
 |none=>exact absurd rfl (wH h p hp)
def jF(a:List Pr)(p:Pr):Bool:=match nK a p.key with
 |none=>true
 |some q=>decide (q≠p)
def dI(H:Mp→ByteArray)(a b:Mp):Dl:=⟨a.version,b.version,b.aK.filter (jF a.aK),(a.aK.filter fun p=>(nK b.aK p.key).isNone).map (·.key),decide (a.aA≠b.aA),if a.aA≠b.aA then b.aA else [],decide (a.policy≠b.policy),if a.policy≠b.policy then b.policy else⟨#[]⟩,H b⟩
def fj(H:Mp→ByteArray)(a b:Mp):Dl×Nat:=if(cR a).2≠0 then(Dl.zero,(cR a).2)else if(cR b).2≠0 then(Dl.zero,(cR b).2)else if b.version≤a.version then(Dl.zero,2)else(dI H a b,0)
def KB(p:Pr):List Pr→List Pr
 |[]=>[p]
 |q::r=>if fh p q then p::q::r else q::KB p r
def sortK(l:List Pr):List Pr:=l.foldr KB []
def stays(d:Dl)(p:Pr):Bool:= !(d.gone.any fun k=>decide (k=p.key))&&(nK d.aM p.key).isNone
def dA(m:Mp)(d:Dl):Mp:=⟨d.version,sortK (m.aK.filter (stays d)++d.aM),if d.eX then d.aA else m.aA,if d.fe then d.policy else m.policy⟩
def je(H:Mp→ByteArray)(m:Mp)(d:Dl):Mp×Nat:=if(cR m).2≠0 then(Mp.zero,(cR m).2)else if iH d=false then(Mp.zero,220)else if m.version≠d.base then(Mp.zero,223)else if(d.gone.all fun k=>(nK m.aK k).isSome)=false then(Mp.zero,220)
 else if(cR (dA m d)).2≠0 then(Mp.zero,(cR (dA m d)).2)else if H (dA m d)≠d.hash then(Mp.zero,224)else(dA m d,0)
theorem Gy(p:Pr):∀(l:List Pr)(x:Pr),x∈KB p l↔x=p∨x∈l:=by
 intro l
 induction l with
 |nil=>intro x;unfold KB;simp
 |cons q r ih=>
  intro x;unfold KB;split
  ·exact List.mem_cons
  ·rw[List.mem_cons,ih,List.mem_cons];constructor
   ·rintro(h|h|h)
    ·exact Or.inr (Or.inl h)
    ·exact Or.inl h
    ·exact Or.inr (Or.inr h)
   ·rintro(h|h|h)
    ·exact Or.inr (Or.inl h)
    ·exact Or.inl h
    ·exact Or.inr (Or.inr h)
theorem pZ(l:List Pr)(x:Pr):x∈sortK l↔x∈l:=by
 unfold sortK
 induction l with
 |nil=>exact Iff.rfl
 |cons p r ih=>rw[List.foldr_cons,Gy,ih,List.mem_cons]
theorem Gz(p:Pr):∀(l:List Pr),l.Pairwise (fun x y=>fh x y=true)→(∀q∈l,q.key≠p.key)→(KB p l).Pairwise (fun x y=>fh x y=true):=by
 intro l
 induction l with
 |nil=>intro _ _;exact List.pairwise_singleton _ _
 |cons q r ih=>
  intro h hne;obtain⟨hq,hr⟩:=List.pairwise_cons.1 h;unfold KB;split
  ·next hlt=>
   refine List.pairwise_cons.2 ⟨fun z hz=>?_,h⟩;rcases List.mem_cons.1 hz with rfl|hz
   ·exact hlt
   ·exact Nv _ _ _ hlt (hq z hz)
  ·next hlt=>
   refine List.pairwise_cons.2 ⟨fun z hz=>?_,ih hr fun u hu=>hne u (cB q hu)⟩;rcases(Gy p r z).1 hz with rfl|hz
   ·rcases tQ z.key q.key with e|h1|h1
    ·exact absurd e.symm (hne q (cJ ..))
    ·exact absurd h1 hlt
    ·exact h1
   ·exact hq z hz
theorem si{l:List Pr}(h:l.Pairwise fun x y=>x.key≠y.key):(sortK l).Pairwise (fun x y=>fh x y=true):=by
 unfold sortK
 induction l with
 |nil=>exact List.Pairwise.nil
 |cons p r ih=>
  obtain⟨hp,hr⟩:=List.pairwise_cons.1 h;rw[List.foldr_cons];refine Gz p _ (ih hr) fun q hq=>?_
  have:q∈r:=(pZ r q).1 hq;exact(hp q this).symm
theorem aad{l S:List Pr}(hd:l.Pairwise fun x y=>x.key≠y.key)(hp:S.Perm l)(hs:S.Pairwise fun x y=>fh y x=false):S=sortK l:=by
 refine AQ _ _ ?_ (si hd) fun x=>by rw[pZ,hp.mem_iff]
 have hS:S.Pairwise fun x y=>x.key≠y.key:=(hp.pairwise_iff (fun{x y}h=>Ne.symm h)).2 hd
 have:=List.Pairwise.and hS hs;refine this.imp fun{x y}h=>?_
 rcases tQ x.key y.key with e|h1|h1
 ·exact absurd e h.1
 ·exact h1
 ·have:fh y x=true:=h1;rw[h.2]at this;cases this
theorem kT{m:Mp}(h:(cR m).2=0):jE m=true:=(mR h).1
theorem gB{m:Mp}(h:jE m=true):1≤m.version∧jC m.aK=true∧jD m.aA=true∧lZ m.policy=true:=by
 unfold jE at h;simp only[aU,decide_eq_true_eq]at h;exact⟨h.1.1.1.1,h.1.1.1.2,h.1.1.2,h.1.2⟩
theorem gu{l:List Pr}(h:jC l=true):l.Pairwise (fun x y=>fh x y=true)∧l.length≤64∧∀p∈l,kt p=true:=by
 unfold jC at h;simp only[aU,decide_eq_true_eq]at h;exact⟨uV.1 h.2,h.1.1,fun p hp=>List.all_eq_true.1 h.1.2 p hp⟩
theorem QM:lZ ⟨#[]⟩=true:=by decide+kernel
theorem distinct_keys{a:Mp}{d:Dl}(h1:a.aK.Pairwise fun x y=>fh x y=true)(h2:d.aM.Pairwise fun x y=>fh x y=true):(a.aK.filter (stays d)++d.aM).Pairwise fun x y=>x.key≠y.key:=by
 have ne:∀{x y:Pr},fh x y=true→x.key≠y.key:=fun{x y}h e=>by
  have h':sf x.key y.key=true:=h;rw[e,jX]at h';cases h'
 refine List.pairwise_append.2 ⟨(h1.filter _).imp fun h=>ne h,h2.imp fun h=>ne h,fun x hx y hy e=>?_⟩;have hs:=(List.mem_filter.1 hx).2;unfold stays at hs;simp only[aU]at hs;have:=wH (by simpa using hs.2:nK d.aM x.key=none) y hy;exact this e.symm
theorem KC{H:Mp→ByteArray}{a b:Mp}(ha:a.aK.Pairwise fun x y=>fh x y=true)(hb:b.aK.Pairwise fun x y=>fh x y=true):sortK (a.aK.filter (stays (dI H a b))++(dI H a b).aM)=b.aK:=by
 have hset:(dI H a b).aM.Pairwise fun x y=>fh x y=true:=hb.filter _
 refine AQ _ _ (si (distinct_keys ha hset)) hb fun x=>?_
 rw[pZ,List.mem_append];constructor
 ·rintro(hx|hx)
  ·obtain⟨hxa,hst⟩:=List.mem_filter.1 hx;unfold stays at hst;simp only[aU]at hst;obtain⟨h1,h2⟩:=hst;have hin:(nK b.aK x.key).isSome=true:=by
    cases hn:nK b.aK x.key with
    |some q=>rfl
    |none=>
     have:x.key∈(dI H a b).gone:=List.mem_map.2 ⟨x,List.mem_filter.2 ⟨hxa,by rw[hn];rfl⟩,rfl⟩;have h3:((dI H a b).gone.any fun k=>decide (k=x.key))=true:=List.any_eq_true.2 ⟨x.key,this,by simp⟩;rw[h3]at h1;cases h1
   obtain⟨q,hq⟩:=Option.isSome_iff_exists.1 hin;obtain⟨hqb,hqk⟩:=pY hq;have hnew:jF a.aK q=false:=by
    cases hn:jF a.aK q with
    |false=>rfl
    |true=>
     have:q∈(dI H a b).aM:=List.mem_filter.2 ⟨hqb,hn⟩;exact absurd hqk (wH (by simpa using h2:nK (dI H a b).aM x.key=none) q this)
   unfold jF at hnew;split at hnew
   ·cases hnew
   ·next r hr=>
    obtain⟨hra,hrk⟩:=pY hr;have:r=q:=by simpa using hnew
    subst this;have:=Dt ha hra hxa (by rw[hrk,hqk]);rw[←this];exact hqb
  ·exact(List.mem_filter.1 hx).1
 ·intro hx;cases hn:jF a.aK x with
  |true=>exact Or.inr (List.mem_filter.2 ⟨hx,hn⟩)
  |false=>
   refine Or.inl ?_;have hxa:x∈a.aK:=by
    have hn':=hn;unfold jF at hn';split at hn'
    ·cases hn'
    ·next r hr=>
     have:r=x:=by simpa using hn'
     rw[←this];exact(pY hr).1
   refine List.mem_filter.2 ⟨hxa,?_⟩;unfold stays;rw[aU];refine⟨?_,?_⟩
   ·rw[Bool.not_eq_true',List.any_eq_false];intro k hk e;obtain⟨y,hy,rfl⟩:=List.mem_map.1 hk;have h1:=(List.mem_filter.1 hy).2;have h2:=at_mem hx;have e':y.key=x.key:=by simpa using e
    rw[←e']at h2;rw[Option.isNone_iff_eq_none]at h1;rw[h1]at h2;cases h2
   ·rw[Option.isNone_iff_eq_none];cases hs:nK (dI H a b).aM x.key with
    |none=>rfl
    |some q=>
     obtain⟨hq,hqk⟩:=pY hs;obtain⟨hqb,hqn⟩:=List.mem_filter.1 hq;have:=Dt hb hqb hx hqk;subst this;rw[hn]at hqn;cases hqn
theorem rk{H:Mp→ByteArray}{a b:Mp}(ha:jE a=true)(hb:jE b=true):dA a (dI H a b)=b:=by
 obtain⟨_,a2,_,_⟩:=gB ha;obtain⟨_,b2,_,_⟩:=gB hb;unfold dA;rw[KC (gu a2).1 (gu b2).1];obtain⟨av,ap,ar,at_⟩:=a;obtain⟨bv,bp,br,bt⟩:=b;unfold dI;simp only[decide_eq_true_eq];congr 1
 ·by_cases h:ar=br
  ·simp[h]
  ·simp[h]
 ·by_cases h:at_=bt
  ·simp[h]
  ·simp[h]
theorem GF{H:Mp→ByteArray}{a b:Mp}(ha:jE a=true)(hb:jE b=true)(hv:a.version<b.version)(hH:(H b).size=32):iH (dI H a b)=true:=by
 obtain⟨a1,a2,a3,a4⟩:=gB ha;obtain⟨b1,b2,b3,b4⟩:=gB hb;obtain⟨pa1,pa2,pa3⟩:=gu a2;obtain⟨pb1,pb2,pb3⟩:=gu b2;have hset:jC (dI H a b).aM=true:=by
  unfold jC;simp only[aU,decide_eq_true_eq];refine⟨⟨aw (List.length_filter_le _ _) pb2,List.all_eq_true.2 fun p hp=>pb3 p (List.mem_filter.1 hp).1⟩,uV.2 (pb1.filter _)⟩
 have hg:((dI H a b).gone.all fun k=>decide (k.size=32)&&(nK (dI H a b).aM k).isNone)=true:=by
  rw[List.all_eq_true];intro k hk;obtain⟨y,hy,rfl⟩:=List.mem_map.1 hk;obtain⟨hya,hyn⟩:=List.mem_filter.1 hy;rw[aU];refine⟨?_,?_⟩
  ·have:=pa3 y hya;unfold kt at this;simp only[aU]at this;exact this.1.1.1.1.1.1.1.1.1.1.1
  ·rw[Option.isNone_iff_eq_none]at hyn⊢;cases hs:nK (dI H a b).aM y.key with
   |none=>rfl
   |some q=>
    obtain⟨hq,hqk⟩:=pY hs;exact absurd hqk (wH hyn q (List.mem_filter.1 hq).1)
 have hr:cX sf (dI H a b).gone=true:=by
  rw[xZ sf fun x y z=>mS];exact List.pairwise_map.2 (pa1.filter _)
 have hrel:jD (dI H a b).aA=true:=by
  show jD (if a.aA≠b.aA then b.aA else [])=true;split
  ·exact b3
  ·rfl
 have tR:lZ (dI H a b).policy=true:=by
  show lZ (if a.policy≠b.policy then b.policy else⟨#[]⟩)=true;split
  ·exact b4
  ·exact QM
 have ae7:(dI H a b).gone.length≤64:=by
  show((a.aK.filter _).map _).length≤64;rw[ay];exact aw (List.length_filter_le _ _) pa2
 have h1:((dI H a b).eX||(dI H a b).aA.isEmpty)=true:=by
  show(decide (a.aA≠b.aA)||(if a.aA≠b.aA then b.aA else []).isEmpty)=true;by_cases h:a.aA=b.aA<;>simp[h]
 have h2:((dI H a b).fe||decide ((dI H a b).policy.size=0))=true:=by
  show(decide (a.policy≠b.policy)||decide ((if a.policy≠b.policy then b.policy else(⟨#[]⟩:ByteArray)).size=0))=true;by_cases h:a.policy=b.policy
  ·simp[h];rfl
  ·simp[h]
 unfold iH;rw[hset,hg,hr,hrel,tR,h1,h2];simp only[Bool.and_true,aU,decide_eq_true_eq];exact⟨⟨⟨a1,hv⟩,hH⟩,ae7⟩
theorem AU{H:Mp→ByteArray}{a b:Mp}(ha:(cR a).2=0)(hb:(cR b).2=0)(hv:a.version<b.version)(hH:(H b).size=32):je H a (dI H a b)=(b,0):=by
 have ma:=kT ha;have mb:=kT hb;have e:=rk (H:=H) ma mb;unfold je;rw[if_neg (by simpa using ha),GF ma mb hv hH,if_neg (by simp),if_neg (by show¬a.version≠a.version;simp),e];have hg:((dI H a b).gone.all fun k=>(nK a.aK k).isSome)=true:=by
  rw[List.all_eq_true];intro k hk;obtain⟨y,hy,rfl⟩:=List.mem_map.1 hk;exact at_mem (List.mem_filter.1 hy).1
 rw[hg,if_neg (by simp),if_neg (by simpa using hb),if_neg (by show¬H b≠H b;simp)]
theorem QN{H:Mp→ByteArray}{a b:Mp}:∀p∈(dI H a b).aM,∀q,nK a.aK p.key=some q→q≠p:=by
 intro p hp q hq;have:=(List.mem_filter.1 hp).2;unfold jF at this;rw[hq]at this;simpa using this
theorem sj{s:ByteArray}(h:cQ s=true):s.size≤32:=by
 unfold cQ oS at h;have e:s.data.toList.length=s.size:=ek s;split at h
 ·cases h
 ·next c r hc=>
  simp only[aU,decide_eq_true_eq]at h;rw[hc,bP]at e;omega
theorem sq{s:ByteArray}(h:lZ s=true):s.size≤8192:=by
 unfold lZ at h;rw[decide_eq_true_eq]at h;have e:s.data.toList.length=s.size:=ek s;by_cases hl:8192<s.data.toList.length
 ·unfold jb at h;rw[if_pos hl]at h;cases h
 ·omega
theorem empty_of{s:ByteArray}(h:s.size=0):s=⟨#[]⟩:=by
 obtain⟨a⟩:=s;have:a.size=0:=h;rw[Array.eq_empty_of_size_eq_zero this]
def Nw(e:En):Prop:=e.1.Ok∧e.2<65536
structure pC(p:Pr):Prop where
 exp:p.exp<18446744073709551616
 bm:p.bm<256
 aQ:∀a∈p.aQ,a.Ok
 ends:∀e∈p.ends,Nw e
def x9(r:Ry):Prop:=r.id<256∧Nw r.fin
structure jG(m:Mp):Prop where
 version:m.version<18446744073709551616
 aK:∀p∈m.aK,pC p
 aA:∀r∈m.aA,x9 r
structure uW(d:Dl):Prop where
 base:d.base<18446744073709551616
 version:d.version<18446744073709551616
 aK:∀p∈d.aM,pC p
 aA:∀r∈d.aA,x9 r
theorem Vp{a:Ad}(ok:a.Ok)(h:a.may=true):zH a:=by
 cases hv:a.v6 with
 |false=>
  obtain⟨e1,e2⟩:=may4 h hv;exact Or.inl ⟨hv,e1,by simpa using e2⟩
 |true=>exact Or.inr ⟨hv,by have:=ok.hi;omega,by have:=ok.lo;omega⟩
structure ae8(p:Pr):Prop where
 key:p.key.size=32
 bu:p.bu.size=32
 user:cQ p.user=true
 tl:p.tags.length≤8
 a1:1≤p.aQ.length
 al:p.aQ.length≤4
 el:p.ends.length≤8
 ends:∀e∈p.ends,e.1.may=true
 unlike:p.ends.Nodup
 tags:∀t∈p.tags,cQ t=true
 ae9:cX sf p.tags=true
 aQ:∀a∈p.aQ,a.may=true
 arise:cX xj p.aQ=true
theorem AV(p:Pr):kt p=true↔ae8 p:=by
 unfold kt;simp only[aU,decide_eq_true_eq];constructor
 ·rintro⟨⟨⟨⟨⟨⟨⟨⟨⟨⟨⟨h1,h2⟩,h3⟩,h4⟩,h5⟩,h6⟩,h7⟩,h8,h9⟩,h10⟩,h11⟩,h12⟩,h13⟩;exact⟨h1,h2,h3,h4,h5,h6,h7,fun e he=>List.all_eq_true.1 h8 e he,h9,fun t ht=>List.all_eq_true.1 h10 t ht,h11,fun a ha=>List.all_eq_true.1 h12 a ha,h13⟩
 ·intro h;exact⟨⟨⟨⟨⟨⟨⟨⟨⟨⟨⟨h.key,h.bu⟩,h.user⟩,h.tl⟩,h.a1⟩,h.al⟩,h.el⟩,List.all_eq_true.2 h.ends,h.unlike⟩,List.all_eq_true.2 h.tags⟩,h.ae9⟩,List.all_eq_true.2 h.aQ⟩,h.arise⟩
theorem afa{p:Pr}(fit:pC p)(h:kt p=true):Ky p:=by
 have m:=(AV p).1 h;refine⟨m.key,m.bu,?_,⟨?_,fun t ht=>?_⟩,⟨?_,fun a ha=>Vp (fit.aQ a ha) (m.aQ a ha)⟩,fit.exp,fit.bm,⟨?_,fun e he=>⟨Vp (fit.ends e he).1 (m.ends e he),(fit.ends e he).2⟩⟩⟩
 ·have:=sj m.user;omega
 ·have:=m.tl;omega
 ·have:=sj (m.tags t ht);omega
 ·have:=m.al;omega
 ·have:=m.el;omega
theorem Vq{l:List Pr}(fit:∀p∈l,pC p)(h:jC l=true):l.length<65536∧∀p∈l,Ky p:=by
 obtain⟨_,h2,h3⟩:=gu h;exact⟨by omega,fun p hp=>afa (fit p hp) (h3 p hp)⟩
theorem Vr{l:List Ry}(fit:∀r∈l,x9 r)(h:jD l=true):l.length<65536∧∀r∈l,Kz r:=by
 unfold jD at h;simp only[aU,decide_eq_true_eq]at h;refine⟨by omega,fun r hr=>?_⟩;have h1:=List.all_eq_true.1 h.2 r hr;unfold xW at h1;simp only[aU,decide_eq_true_eq]at h1;obtain⟨f1,f2,f3⟩:=fit r hr;exact⟨f1,h1.1,Vp f2 h1.2,f3⟩
theorem abx{m:Mp}(fit:jG m)(h:jE m=true):Vl m:=by
 obtain⟨_,h2,h3,h4⟩:=gB h;exact⟨fit.version,Vq fit.aK h2,Vr fit.aA h3,by have:=sq h4;omega⟩
theorem aby{d:Dl}(fit:uW d)(h:iH d=true):Vm d:=by
 unfold iH at h;simp only[aU,decide_eq_true_eq,Bool.or_eq_true]at h;obtain⟨⟨⟨⟨⟨⟨⟨⟨⟨⟨h1,h2⟩,h3⟩,h4⟩,h5⟩,h6⟩,h7⟩,h8⟩,h9⟩,h10⟩,h11⟩:=h;refine⟨fit.base,fit.version,Vq fit.aK h9,⟨by omega,fun k hk=>?_⟩,fun _=>Vr fit.aA h10,fun e=>?_,fun _=>by have:=sq h11;omega,fun e=>?_,h3⟩
 ·have:=List.all_eq_true.1 h7 k hk;simp only[aU,decide_eq_true_eq]at this;exact this.1
 ·rcases h5 with h5|h5
  ·rw[e]at h5;cases h5
  ·exact List.isEmpty_iff.1 h5
 ·rcases h6 with h6|h6
  ·rw[e]at h6;cases h6
  ·exact empty_of h6
open Go.ChangeMaps (setBlock)
section
variable{α:Type}[DecidableEq α]
structure su(P:Program)(K:TypeId)(enc:α→Value):Prop where
 kind:∃fs,P.underlying K=some (.struct fs)
 agg:∀a,∃cs,enc a=.agg cs
 eq:∀a b w,(Op.equal K (enc a) (enc b)).run P w=.ok (decide (a=b)) w
 key:∀e a w,(Instr.checkKey e 10000 K (enc a)).run P w=.ok () w
 bits:∀a,Instr.sameBits 10000 (enc a) (enc a)=true
def sw(enc:α→Value)(x:α×Nat)(i:Nat):MapEntry:={key:=enc x.1,val:=.int .i64 (x.2:Int),born:=i}
def ik(enc:α→Value)(L:List (α×Nat)):List MapEntry:=L.mapIdx fun i x=>sw enc x i
def KM(enc:α→Value)(w:World)(m:Nat)(L:List (α×Nat)):Prop:=w.heap[m]? =some (.map (ik enc L).toArray L.length)
def mI(L:List (α×Nat))(a:α):Option Nat:=L.findIdx? fun x=>decide (a=x.1)
variable{P:Program}{T K E:TypeId}{enc:α→Value}{w:World}{m:Nat}{L:List (α×Nat)}
theorem QO{L:List (α×Nat)}{a:α}(h:mI L a=none):∀x∈L,a≠x.1:=by
 intro x hx;unfold mI at h;have:=List.findIdx?_eq_none_iff.1 h x hx;simpa using this
theorem tU{L:List (α×Nat)}{a:α}{j:Nat}(h:mI L a=some j):∃hj:j<L.length,(L[j]'hj).1=a:=by
 unfold mI at h;obtain⟨hj,hp,_⟩:=List.findIdx?_eq_some_iff_getElem.1 h;exact⟨hj,(by simpa using hp:a=_).symm⟩
theorem Du(ok:su P K enc)(a:α):∀(L:List (α×Nat))(f:Nat→Nat)(i:Nat),(Instr.findAsking K (enc a) (L.mapIdx fun j x=>sw enc x (f j)) i).run P w=.ok ((mI L a).map fun j=>(i+j,(L.map fun x=>Value.int .i64 (x.2:Int)).getD j undef)) w:=by
 intro L
 induction L with
 |nil=>intro f i;rfl
 |cons x L ih=>
  intro f i;rw[List.mapIdx_cons];unfold Instr.findAsking;have hq:=ok.eq a x.1 w;by_cases h:a=x.1
  ·rw[decide_eq_true h]at hq;subst h;simp[sw,hq,mI,List.findIdx?_cons]
  ·rw[decide_eq_false h]at hq;have:=ih (fun j=>f (j+1)) (i+1);unfold sw at this;simp only[sw,ah0,hq,kl,Bool.false_eq_true,if_false];rw[this];unfold mI;rw[List.findIdx?_cons];simp only[h,decide_false];cases L.findIdx? (fun x=>decide (a=x.1))with
   |none=>rfl
   |some j=>simp;omega
theorem mJ(ok:su P K enc)(a:α)(L:List (α×Nat)):(Instr.findKey K (enc a) (ik enc L)).run P w=.ok ((mI L a).map fun j=>(j,(L.map fun x=>Value.int .i64 (x.2:Int)).getD j undef)) w:=by
 obtain⟨fs,hk⟩:=ok.kind;obtain⟨cs,hc⟩:=ok.agg a;have hf:=Du (w:=w) ok a L id 0;cases L with
 |nil=>simp[Instr.findKey,run_underlying hk,ik,Instr.findNow,mI]
 |cons x L=>
  unfold Instr.findKey ik;simp only[ah0,run_underlying hk,kl];rw[List.mapIdx_cons];have hn:Instr.findNow (.struct fs) (enc a) (sw enc x 0::L.mapIdx fun i x=>sw enc x (i+1)) 0=none:=by
   unfold Instr.findNow;rw[hc];rfl
  rw[hn];simp only;rw[List.mapIdx_cons]at hf;simpa using hf
omit [DecidableEq α]in
theorem KM.lt(h:KM enc w m L):m<w.heap.size:=by
 rcases Nat.lt_or_ge m w.heap.size with h1|h1
 ·exact h1
 ·unfold KM at h;rw[Array.getElem?_eq_none h1]at h;cases h
def zI(L:List (α×Nat))(a:α):Nat:=match mI L a with
 |some j=>(L.map (·.2)).getD j 0
 |none=>0
theorem iz(ok:su P K enc)(hT:P.underlying T=some (.map K E))(hz:(zeroValue E).run P w=.ok (.int .i64 0) w)(h:KM enc w m L)(a:α):(Instr.lookup T (.map (some m)) (enc a) false).run P w=.ok (.int .i64 (zI L a:Int)) w:=by
 have hf:=mJ (w:=w) ok a L;unfold KM at h;unfold zI;cases hi:mI L a with
 |none=>
  rw[hi]at hf;simp[Instr.lookup,run_underlying hT,run_getObj_map h,ok.key,hf,hz]
 |some j=>
  rw[hi]at hf;obtain⟨hj,_⟩:=tU hi;simp[Instr.lookup,run_underlying hT,run_getObj_map h,ok.key,hf,aE,bO,af hj]
theorem zJ(ok:su P K enc)(hT:P.underlying T=some (.map K E))(hz:(zeroValue E).run P w=.ok (.int .i64 0) w)(h:KM enc w m L){a:α}(hi:mI L a=none):(Instr.mapEntry T (.map (some m)) (enc a)).run P w=.ok (.tuple #[.int .i64 0,.int .i64 (L.length:Int)]) (setBlock w m (.map (ik enc (L++[(a,0)])).toArray (L++[(a,0)]).length)):=by
 have hf:=mJ (w:=w) ok a L;rw[hi]at hf;unfold KM at h;have he:(ik enc (L++[(a,0)])).toArray=(ik enc L).toArray.push {key:=enc a,val:=.int .i64 0,born:=L.length}:=by
  unfold ik;rw[List.mapIdx_append];simp[sw]
 rw[he];simp[Instr.mapEntry,run_underlying hT,run_getObj_map h,ok.key,hf,hz,run_setObj_map h,goInt]
theorem zK(ok:su P K enc)(hT:P.underlying T=some (.map K E))(h:KM enc w m L){a:α}{j:Nat}(hi:mI L a=some j):(Instr.mapEntry T (.map (some m)) (enc a)).run P w=.ok (.tuple #[.int .i64 (zI L a:Int),.int .i64 j]) (setBlock w m (.map (ik enc L).toArray L.length)):=by
 have hf:=mJ (w:=w) ok a L;rw[hi]at hf;unfold KM at h;obtain⟨hj,hk⟩:=tU hi;have hje:(ik enc L)[j]? =some (sw enc L[j] j):=by
  unfold ik;rw[List.getElem?_mapIdx,af hj];rfl
 have hm:(ik enc L).modify j (fun e=>{e with key:=enc a})=ik enc L:=by
  apply List.ext_getElem?;intro i;rw[List.getElem?_modify];by_cases e:j=i
  ·subst e;rw[hje];simp[sw,hk]
  ·simp[e]
 unfold zI;rw[hi];simp[Instr.mapEntry,run_underlying hT,run_getObj_map h,ok.key,hf,run_setObj_map h,goInt,hje,sw,hk,Instr.keyThatStays,ok.bits,hm,aE,bO,af hj]
omit [DecidableEq α]in
theorem uX(h:KM enc w m L){j:Nat}(hj:j<L.length)(n:Nat):(Instr.entryStore T (.map (some m)) (.int .i64 j) (.int .i64 n)).run P w=.ok () (setBlock w m (.map (ik enc (L.set j ((L[j]).1,n))).toArray (L.set j ((L[j]).1,n)).length)):=by
 unfold KM at h;have hfi:(ik enc L).findIdx? (fun e=>(e.born:Int)==(j:Int))=some j:=by
  rw[List.findIdx?_eq_some_iff_getElem];have hl:(ik enc L).length=L.length:=by simp[ik]
  refine⟨by omega,by simp[ik,sw],fun i hi=>?_⟩;simp[ik,sw];omega
 have hm:(ik enc L).modify j (fun e=>{e with val:=.int .i64 n})=ik enc (L.set j ((L[j]).1,n)):=by
  apply List.ext_getElem?;intro i;rw[List.getElem?_modify];unfold ik;rw[List.getElem?_mapIdx,List.getElem?_mapIdx];by_cases e:j=i
  ·subst e;rw[List.getElem?_set_self hj,af hj];simp[sw]
  ·rw[List.getElem?_set_ne e];simp[e]
 simp[Instr.entryStore,run_getObj_map h,asInt,asIntOf,hfi,run_setObj_map h,hm]
end
def uY(a:Ad):Value:=.agg a.cells
def ya(e:En):Array Value:= #[.bool e.1.v6,.int .u64 (e.1.hi:Int),.int .u64 (e.1.lo:Int),.int .u16 (e.2:Int)]
def uZ(e:En):Value:=.agg (ya e)
theorem Vs(x y:Ad):(x.v6==y.v6&&(x.hi==y.hi&&x.lo==y.lo))=decide (x=y):=by
 obtain⟨a,b,c⟩:=x;obtain⟨d,e,f⟩:=y;rw[gW];simp only[aU,beq_iff_eq,decide_eq_true_eq,Ad.mk.injEq]
theorem aae(e:Bool)(d:Nat)(b:Bool)(w:World):(Instr.checkKey e (d+1) 4 (.bool b)).run ah w=.ok () w:=by
 unfold Instr.checkKey;simp only[ah0,run_underlying Tryz.underlying4,kl];rfl
theorem Vt(e:Bool)(d:Nat)(n:Int)(w:World):(Instr.checkKey e (d+1) 22 (.int .u64 n)).run ah w=.ok () w:=by
 unfold Instr.checkKey;simp only[ah0,run_underlying Tryz.underlying22,kl];rfl
theorem acU(e:Bool)(d:Nat)(n:Int)(w:World):(Instr.checkKey e (d+1) 53 (.int .u16 n)).run ah w=.ok () w:=by
 unfold Instr.checkKey;simp only[ah0,run_underlying Tryz.underlying53,kl];rfl
theorem abz(e:Bool)(d:Nat)(r:Bool)(u v:Int)(w:World):(Instr.checkKey e (d+2) 52 (.agg #[.bool r,.int .u64 u,.int .u64 v])).run ah w=.ok () w:=by
 have h1:=fun w=>aae e d r w
 have h2:=fun w=>Vt e d u w
 have h3:=fun w=>Vt e d v w
 unfold Instr.checkKey;simp only[ah0,run_underlying Tryz.underlying52,kl];simp[go_sem,part,h1,h2,h3]
theorem afb(e:Bool)(d:Nat)(r:Bool)(u v p:Int)(w:World):(Instr.checkKey e (d+3) 55 (.agg #[.bool r,.int .u64 u,.int .u64 v,.int .u16 p])).run ah w=.ok () w:=by
 have h1:=fun w=>abz e d r u v w
 have h2:=fun w=>acU e (d+1) p w
 unfold Instr.checkKey;simp only[ah0,run_underlying Tryz.underlying55,kl];simp[go_sem,part,h1,h2]
theorem aaf(d:Nat)(r:Bool)(u v p:Int):Instr.sameBits (d+1) (.agg #[.bool r,.int .u64 u,.int .u64 v,.int .u16 p]) (.agg #[.bool r,.int .u64 u,.int .u64 v,.int .u16 p])=true:=by
 simp[Instr.sameBits]
theorem Vu(d:Nat)(r:Bool)(u v:Int):Instr.sameBits (d+1) (.agg #[.bool r,.int .u64 u,.int .u64 v]) (.agg #[.bool r,.int .u64 u,.int .u64 v])=true:=by
 simp[Instr.sameBits]
theorem abA:su ah 52 uY where
 kind:=⟨_,Tryz.underlying52⟩
 agg:=fun a=>⟨_,rfl⟩
 eq:=fun a b w=>by
  rw[←Vs];exact wk a.hi a.lo b.hi b.lo a.v6 b.v6 9997 w
 key:=fun e a w=>abz e 9998 _ _ _ w
 bits:=fun a=>Vu 9999 _ _ _
theorem Dv(x y:En)(d:Nat)(w:World):(Op.equalIn (d+4) 55 (uZ x) (uZ y)).run ah w=.ok (decide (x=y)) w:=by
 have h32:ah.stoodInHeld 55=false:=by kernel_rfl
 have ha:=fun w=>wk x.1.hi x.1.lo y.1.hi y.1.lo x.1.v6 y.1.v6 d w
 rw[Vs]at ha;have hp:∀w,(Op.equalIn (d+3) 53 (.int .u16 (x.2:Int)) (.int .u16 (y.2:Int))).run ah w=.ok (decide (x.2=y.2)) w:=by
  intro w;rw[show decide (x.2=y.2)=((x.2:Int)==(y.2:Int)) by rw[gW,decide_eq_true_eq,beq_iff_eq];omega];simp[go_sem,Tryz.underlying53,Op.equalIn]
 obtain⟨⟨a,b,c⟩,p⟩:=x;obtain⟨⟨a',b',c'⟩,p'⟩:=y;simp only at ha hp;unfold uZ ya;rw[run_equalIn_struct w (d+3) 55 _ _ bo h32];simp[go_sem,Tryz.underlying55,part,ha,hp];by_cases h1:a=a'<;>by_cases h2:b=b'<;>by_cases h3:c=c'<;>by_cases h4:p=p'<;>simp[h1,h2,h3,h4]
theorem abB:su ah 55 uZ where
 kind:=⟨_,Tryz.underlying55⟩
 agg:=fun a=>⟨_,rfl⟩
 eq:=fun a b w=>Dv a b 9996 w
 key:=fun e a w=>afb e 9997 _ _ _ _ w
 bits:=fun a=>aaf 9999 _ _ _ _
def cF(e:En):List Value:=[.bool e.1.v6,.int .u64 (e.1.hi:Int),.int .u64 (e.1.lo:Int),.int .u16 (e.2:Int)]
def l9(l:List En):List Value:=l.flatMap cF
def bH(r:Ry):List Value:=[.int .u8 (r.id:Int),.string r.key,.bool r.fin.1.v6,.int .u64 (r.fin.1.hi:Int),.int .u64 (r.fin.1.lo:Int),.int .u16 (r.fin.2:Int)]
def dX(l:List Ry):List Value:=l.flatMap bH
structure bS where
 p:Pr
 tv:Value
 av:Value
 ev:Value
def bS.vals(X:bS):List Value:=[.string X.p.key,.string X.p.bu,.string X.p.user,X.tv,X.av,.int .u64 (X.p.exp:Int),.int .u8 (X.p.bm:Int),X.ev]
def cY(l:List bS):List Value:=l.flatMap bS.vals
theorem fF(e:En):(cF e).length=4:=rfl
theorem bI(r:Ry):(bH r).length=6:=rfl
theorem aB(X:bS):X.vals.length=8:=rfl
structure fc(w:World)(X:bS):Prop where
 tags:a8 w X.tv X.p.tags.length 1 (strCells X.p.tags)
 aQ:a8 w X.av X.p.aQ.length 3 (dy X.p.aQ)
 ends:a8 w X.ev X.p.ends.length 4 (l9 X.p.ends)
theorem fc.below{w w':World}{X:bS}(h:fc w X)(hb:aW w w'):fc w' X:=⟨h.tags.below hb,h.aQ.below hb,h.ends.below hb⟩
def df(w:World)(v:Value)(l:List Pr):Prop:=∃xs:List bS,xs.map (·.p)=l∧a8 w v xs.length 8 (cY xs)∧∀X∈xs,fc w X
theorem df.below{w w':World}{v:Value}{l:List Pr}(h:df w v l)(hb:aW w w'):df w' v l:=by
 obtain⟨xs,h1,h2,h3⟩:=h;exact⟨xs,h1,h2.below hb,fun X hX=>(h3 X hX).below hb⟩
theorem df.shape{w:World}{v:Value}{l:List Pr}(h:df w v l):∃A cap,v=.slice A l.length cap:=by
 obtain⟨xs,h1,h2,_⟩:=h;have:=h2.shape;rw[←h1,ay];exact this
def eG(w:World)(v:Value)(l:List Ry):Prop:=a8 w v l.length 6 (dX l)
structure gQ(p:Pr):Prop where
 user:p.user.size≤2000000
 tl:p.tags.length≤2000000
 al:p.aQ.length≤2000000
 el:p.ends.length≤2000000
 tags:∀t∈p.tags,t.size≤2000000
theorem qc{α:Type}(l:List α)(q:α→Bool):((aF l.length).all fun k=>match l[k]? with|some x=>q x|none=>false)=l.all q:=by
 rw[gW,List.all_eq_true,List.all_eq_true];constructor
 ·intro h x hx;obtain⟨k,hk⟩:=List.getElem?_of_mem hx;have:=h k (List.mem_range.2 (List.getElem?_eq_some_iff.1 hk).1);simpa only[hk]using this
 ·intro h k hk;have hl:=List.mem_range.1 hk;rw[af hl];exact h _ (aZ hl)
theorem jH{α:Type}(lt:α→α→Bool):∀l:List α,((aF (l.length-1)).all fun k=>match l[k]?,l[k+1]? with|some x,some y=>lt x y|_,_=>false)=cX lt l
 |[]=>rfl
 |[_]=>rfl
 |x::y::r=>by
  have ih:=jH lt (y::r);rw[cX,←ih];simp only[bP,Nat.add_sub_cancel];rw[List.range_succ_eq_map,List.all_cons,List.all_map];rfl
theorem wI{w:World}{A:Option Addr}{cap:Nat}{l:List ByteArray}(h:a8 w (.slice A l.length cap) l.length 1 (strCells l)):mH w A l.length fun k=>l.getD k ⟨#[]⟩:=by
 intro k hk;obtain⟨A',cap',e,_,hc⟩:=h;injection e with e1 _ _
 subst e1;obtain⟨g,o,ha,hcc⟩:=hc aR;refine⟨g,o,ha,hcc k _ ?_⟩;unfold strCells;simp[af hk]
theorem Dw{w:World}{v:Value}{l:List ByteArray}(hr:a8 w v l.length 1 (strCells l))(hl:l.length≤4000000)(q:ByteArray→Bool)(f:Nat)(lb:Array Value)(eg:∀args w,(callFunc f args).run ah w=.ok (.enter f args) w)(hf:∀W,aW w W→∀x∈l,Calls ah f (#[.string x]++lb) W (Got (.bool (q x)) W)):Calls ah 54 #[v,.func (.func f) #[] lb] w (Got (.bool (l.all q)) w):=by
 rw[←qc];obtain⟨A,cap,rfl⟩:=hr.shape;refine Vb hl _ _ (wI hr) f lb eg fun k hk W hW=>?_
 have hxk:l[k]? =some l[k]:=af hk;simp only[aE,hxk,Option.getD_some];exact hf W hW _ (aZ hk)
theorem Nx{w:World}{v:Value}{l:List ByteArray}(hr:a8 w v l.length 1 (strCells l))(hl:l.length≤4000000)(q:ByteArray→ByteArray→Bool)(f:Nat)(lb:Array Value)(eg:∀args w,(callFunc f args).run ah w=.ok (.enter f args) w)(hf:∀W,aW w W→∀x y,Calls ah f (#[.string x,.string y]++lb) W (Got (.bool (q x y)) W)):Calls ah 80 #[v,.func (.func f) #[] lb] w (Got (.bool (cX q l)) w):=by
 rw[←jH];obtain⟨A,cap,rfl⟩:=hr.shape;refine Ve hl _ _ (wI hr) f lb eg fun k hk W hW=>?_
 have hxk:l[k]? =some l[k]:=af aR;have hyk:l[k+1]? =some l[k+1]:=af hk;simp only[aE,hxk,hyk,Option.getD_some];exact hf W hW _ _
theorem Vv{w:World}{v:Value}{l:List Ad}(hr:a8 w v l.length 3 (dy l))(hl:l.length≤4000000)(q:Ad→Bool)(f:Nat)(lb:Array Value)(eg:∀args w,(callFunc f args).run ah w=.ok (.enter f args) w)(hf:∀W,aW w W→∀x∈l,Calls ah f (#[.agg ((fun a:Ad=>a.cells.toList) x).toArray]++lb) W (Got (.bool (q x)) W)):Calls ah 152 #[v,.func (.func f) #[] lb] w (Got (.bool (l.all q)) w):=by
 rw[←qc];obtain⟨A,cap,rfl⟩:=hr.shape;refine Qy hl _ _ hr.iZ f lb eg fun k hk W hW=>?_
 have hxk:l[k]? =some l[k]:=af hk;rw[show dy l=l.flatMap (fun a:Ad=>a.cells.toList)from rfl];simp only[hxk];rw[dU (fun a:Ad=>a.cells.toList) 3 (fun a:Ad=>rfl) l k _ hxk];exact hf W hW _ (aZ hk)
theorem Vw{w:World}{v:Value}{l:List Ad}(hr:a8 w v l.length 3 (dy l))(hl:l.length≤4000000)(q:Ad→Ad→Bool)(f:Nat)(lb:Array Value)(eg:∀args w,(callFunc f args).run ah w=.ok (.enter f args) w)(hf:∀W,aW w W→∀x y,Calls ah f (#[.agg ((fun a:Ad=>a.cells.toList) x).toArray,.agg ((fun a:Ad=>a.cells.toList) y).toArray]++lb) W (Got (.bool (q x y)) W)):Calls ah 153 #[v,.func (.func f) #[] lb] w (Got (.bool (cX q l)) w):=by
 rw[←jH];obtain⟨A,cap,rfl⟩:=hr.shape;refine Qz hl _ _ hr.iZ f lb eg fun k hk W hW=>?_
 have hxk:l[k]? =some l[k]:=af aR;have hyk:l[k+1]? =some l[k+1]:=af hk;rw[show dy l=l.flatMap (fun a:Ad=>a.cells.toList)from rfl];simp only[hxk,hyk];rw[dU (fun a:Ad=>a.cells.toList) 3 (fun a:Ad=>rfl) l k _ hxk,dU (fun a:Ad=>a.cells.toList) 3 (fun a:Ad=>rfl) l (k+1) _ hyk];exact hf W hW _ _
theorem Vx{w:World}{v:Value}{l:List Ry}(hr:a8 w v l.length 6 (dX l))(hl:l.length≤4000000)(q:Ry→Bool)(f:Nat)(lb:Array Value)(eg:∀args w,(callFunc f args).run ah w=.ok (.enter f args) w)(hf:∀W,aW w W→∀x∈l,Calls ah f (#[.agg (bH x).toArray]++lb) W (Got (.bool (q x)) W)):Calls ah 123 #[v,.func (.func f) #[] lb] w (Got (.bool (l.all q)) w):=by
 rw[←qc];obtain⟨A,cap,rfl⟩:=hr.shape;refine QB hl _ _ hr.iZ f lb eg fun k hk W hW=>?_
 have hxk:l[k]? =some l[k]:=af hk;rw[show dX l=l.flatMap bH from rfl];simp only[hxk];rw[dU bH 6 bI l k _ hxk];exact hf W hW _ (aZ hk)
theorem Vy{w:World}{v:Value}{l:List Ry}(hr:a8 w v l.length 6 (dX l))(hl:l.length≤4000000)(q:Ry→Ry→Bool)(f:Nat)(lb:Array Value)(eg:∀args w,(callFunc f args).run ah w=.ok (.enter f args) w)(hf:∀W,aW w W→∀x y,Calls ah f (#[.agg (bH x).toArray,.agg (bH y).toArray]++lb) W (Got (.bool (q x y)) W)):Calls ah 121 #[v,.func (.func f) #[] lb] w (Got (.bool (cX q l)) w):=by
 rw[←jH];obtain⟨A,cap,rfl⟩:=hr.shape;refine QC hl _ _ hr.iZ f lb eg fun k hk W hW=>?_
 have hxk:l[k]? =some l[k]:=af aR;have hyk:l[k+1]? =some l[k+1]:=af hk;rw[show dX l=l.flatMap bH from rfl];simp only[hxk,hyk];rw[dU bH 6 bI l k _ hxk,dU bH 6 bI l (k+1) _ hyk];exact hf W hW _ _
theorem Vz{w:World}{v:Value}{l:List bS}(hr:a8 w v l.length 8 (cY l))(hl:l.length≤4000000)(q:bS→Bool)(f:Nat)(lb:Array Value)(eg:∀args w,(callFunc f args).run ah w=.ok (.enter f args) w)(hf:∀W,aW w W→∀x∈l,Calls ah f (#[.agg (bS.vals x).toArray]++lb) W (Got (.bool (q x)) W)):Calls ah 112 #[v,.func (.func f) #[] lb] w (Got (.bool (l.all q)) w):=by
 rw[←qc];obtain⟨A,cap,rfl⟩:=hr.shape;refine QE hl _ _ hr.iZ f lb eg fun k hk W hW=>?_
 have hxk:l[k]? =some l[k]:=af hk;rw[show cY l=l.flatMap bS.vals from rfl];simp only[hxk];rw[dU bS.vals 8 aB l k _ hxk];exact hf W hW _ (aZ hk)
theorem VA{w:World}{v:Value}{l:List bS}(hr:a8 w v l.length 8 (cY l))(hl:l.length≤4000000)(q:bS→bS→Bool)(f:Nat)(lb:Array Value)(eg:∀args w,(callFunc f args).run ah w=.ok (.enter f args) w)(hf:∀W,aW w W→∀x y,Calls ah f (#[.agg (bS.vals x).toArray,.agg (bS.vals y).toArray]++lb) W (Got (.bool (q x y)) W)):Calls ah 119 #[v,.func (.func f) #[] lb] w (Got (.bool (cX q l)) w):=by
 rw[←jH];obtain⟨A,cap,rfl⟩:=hr.shape;refine QF hl _ _ hr.iZ f lb eg fun k hk W hW=>?_
 have hxk:l[k]? =some l[k]:=af aR;have hyk:l[k+1]? =some l[k+1]:=af hk;rw[show cY l=l.flatMap bS.vals from rfl];simp only[hxk,hyk];rw[dU bS.vals 8 aB l k _ hxk,dU bS.vals 8 aB l (k+1) _ hyk];exact hf W hW _ _
def Put(B b:Nat)(D X:List UInt8)(w:World)(r:Ending)(w':World):Prop:=r=.returned (.tuple #[])∧gj B b (D++X) w'∧Wrote B b w w'
theorem Wrote.low{B b:Nat}{w w1 w2:World}(hB:B≤w.heap.size)(h:aW w w1)(k:Wrote B b w1 w2):Wrote B b w w2:=(Wrote.of hB h).trans k
theorem fM{B b:Nat}{D:List UInt8}{w:World}(L:List ByteArray)(h:gj B b D w)(hL:L.length≤4000000)(hlen:D.length+(fG L).length≤140737488355328)(hBw:B≤w.heap.size)(n:Nat)(hn:n=L.length):Calls ah 30 #[.pointer (some ⟨b,0,none⟩),.slice (some ⟨w.heap.size,0,none⟩) n n] (w.alloc (.cells (L.map Value.string).toArray 9)) fun r w'=>r=.returned (.tuple #[])∧gj B b (D++fG L) w'∧Wrote B b w w':=by
 have hb:=boxed w (.cells (L.map Value.string).toArray 9);refine(put_any L (h.below hb) (aH.new w 9 _) (by have:=h.lt;omega) hL hlen (aw hBw hb.size) n hn).mono ?_;rintro r w'⟨rfl,h1,h2⟩;exact⟨rfl,h1,h2.low hBw hb⟩
theorem cZ(s:ByteArray):fG [s]=s.data.toList:=by simp[fG]
theorem eE(s t:ByteArray):fG [s,t]=s.data.toList++t.data.toList:=by simp[fG]
theorem KE(s t u:ByteArray):fG [s,t,u]=s.data.toList++(t.data.toList++u.data.toList):=by simp[fG]
theorem bZ(n x:Nat):(be n x).data.toList=fH n x:=by simp[be]
theorem Dx(s:ByteArray)(hs:s.size≤32768)(w:World):Calls ah 92 #[.string s] w fun r w'=>(∃t:ByteArray,t.data.toList=oy s∧r=.returned (.tuple #[.string t,.int .i64 0]))∧aW w w':=by
 have hu:=lS s.size aR;have h1:¬(32768:Int)<(s.size:Int):=by omega
 have h1':¬32768<s.size:=by omega
 have h2:IntKind.u16.wrap (s.size:Int)=(s.size:Int):=by
  show(s.size:Int)%65536=_;omega
 have hx:(be 2 s.size++s).data.toList=oy s:=by
  unfold oy;rw[ByteArray.data_append,Array.toList_append,bZ]
 have HX:=ae hx;have h3:¬9223372036854775807<(be 2 s.size).size+s.size:=by rw[YH];omega
 generalize be 2 s.size=T at hu HX h3;have HU:=ae hu;clear hu hs hx;go_enter Tryz.func92,Tryz.ntmps92;go_wp2_with(go_at_call 87;refine(HU.out _).mono ?_;rintro r w2⟨rfl,d2⟩)
 go_ret2;exact⟨⟨_,HX.out,rfl⟩,d2⟩
theorem mc{B b:Nat}{D:List UInt8}{w:World}(s:ByteArray)(hs:s.size≤32768)(h:gj B b D w)(hlen:D.length≤1000000000)(hBw:B≤w.heap.size):Calls ah 41 #[.pointer (some ⟨b,0,none⟩),.string s] w (Put B b D (oy s) w):=by
 have hT:=Dx s hs w;have hlx:(oy s).length=2+s.size:=by
  unfold oy;rw[aj,aP,fE,ByteArray.size_data]
 have hput:=fun u t(hu:aW w u)(ht:t.data.toList=oy s)=>fM (w:=u) [t] (h.below hu) (by simp) (by rw[cZ,ht,hlx];omega) (aw hBw hu.size) 1 rfl
 obtain⟨HT,jo,HB⟩:=bz hT hput hBw;unfold Put;clear hT hput hlx h hBw;go_enter Tryz.func41,Tryz.ntmps41;go_wp2_with(first
  |(go_at_call 92;refine HT.out.mono ?_;rintro r w1⟨⟨t,ht,rfl⟩,d1⟩;have Ht:=ae ht;clear ht)
  |(go_at_call 30;(refine(jo.out _ t d1 Ht.out).mono ?_);rintro r w2⟨rfl,p2,k2⟩;rw[cZ,Ht.out]at p2))
 go_end0
 exact⟨rfl,p2,k2.low HB.out d1⟩
theorem Ny(a:Ad):(zj a).length≤17:=by
 unfold zj;split<;>simp[aP]
theorem aag(x:UInt8)(n y:Nat):fG [⟨#[x]⟩,be n y]=x::fH n y:=by rw[eE,bZ];rfl
theorem aah(x:UInt8)(n y k z:Nat):fG [⟨#[x]⟩,be n y,be k z]=x::(fH n y++fH k z):=by rw[KE,bZ,bZ];rfl
theorem u9{B b:Nat}{D:List UInt8}{w:World}(a:Ad)(ok:zH a)(h:gj B b D w)(hlen:D.length≤1000000000)(hBw:B≤w.heap.size):Calls ah 89 #[.pointer (some ⟨b,0,none⟩),.agg a.cells] w (Put B b D (zj a) w):=by
 have hb1:=boxed w (.cells a.cells 52);obtain⟨HA,HB1⟩:=aL (aH.new w 52 a.cells) hb1;have hal:=Ny a;obtain⟨X,hX⟩:=bw (zj a);rw[←hX]at hal⊢;have hput:=fun u(L:List ByteArray)(n:Nat)(hu:aW w u)(hL:fG L=X)(hl:L.length≤3)(hn:n=L.length)=>fM (w:=u) L (h.below hu) aR (by rw[hL];omega) (aw hBw hu.size) n hn
 obtain⟨jo,HB⟩:=aL hput hBw;have hu64:=fun(x:Nat)(hx:x<18446744073709551616)u=>rC x hx u
 have afc:=fun(x:Nat)(hx:x<4294967296)u=>YL x hx u
 obtain⟨v,hi,lo⟩:=a;have fY:ag (w.heap.size≠b):=ae (by have:=h.lt;omega);obtain⟨afd,agA⟩:=aL hu64 afc;unfold Put;unfold Ad.cells at HA HB1⊢;simp only at HA HB1⊢;clear hput hu64 afc hb1 h hBw;cases v with
 |true=>
  obtain⟨oh,ol⟩:hi<18446744073709551616∧lo<18446744073709551616:=by
   rcases ok with h|h
   ·cases h.1
   ·exact h.2
  have HX:=ae (show fG [⟨#[6]⟩,be 8 hi,be 8 lo]=X by rw[aah,hX];rfl);clear ok hX;go_enter Tryz.func89,Tryz.ntmps89;go_upto_region 1 with fail
  generalize w.alloc (.cells #[.bool true,.int .u64 hi,.int .u64 lo] 52)=w1 at HA HB1⊢;generalize w.heap.size=P at HA fY⊢;obtain⟨a0,a1,a2⟩:=jt HA;go_upto_region 2 with fail
  refine wp_region_held_drew (S:=(fun w'=>w'.cell? ⟨P,1,none⟩=some (.int .u64 hi)∧w'.cell? ⟨P,2,none⟩=some (.int .u64 lo))) bo (⟨a1,a2⟩) (fun hHeld=>?_);refine aY 0 ?_
  refine aY 1 ?_
  refine aY 2 ?_
  refine aY 4 ?_
  refine aY 5 ?_
  refine fA 3 fun K hK=>?_;go_simp;refine(afd.out hi oh _).mono ?_;rintro r wb⟨rfl,db⟩;have eb:=Below.fL db;clear db;refine hK.out _ _ (⟨ai a1 eb,ai a2 eb⟩) (fun hHeld=>?_);clear hK K;try simp only[ck]
  refine fA 6 fun K hK=>?_;go_simp;refine(afd.out lo ol _).mono ?_;rintro r wc⟨rfl,dc⟩;have ec:=after eb dc;clear dc;refine hK.out _ _ (⟨ai a1 ec,ai a2 ec⟩) (fun hHeld=>?_);clear hK K;try simp only[ck]
  refine fA 7 fun K hK=>?_;go_simp;refine hK.out _ _ (⟨ai a1 (after ec (boxed _ _)),ai a2 (after ec (boxed _ _))⟩) (fun hHeld=>?_);clear hK K;try simp only[ck]
  refine fA 8 fun K hK=>?_;go_simp;refine(jo.out wc [⟨#[6]⟩,be 8 hi,be 8 lo] 3 (after HB1.out ec) HX.out (by simp) rfl).mono ?_;rintro r wd⟨rfl,p2,k2⟩;rw[HX.out]at p2;have k3:=k2.low HB.out (after HB1.out ec);have hA8:=k2.kept _ _ _ (HA.out.below ec HA.out.lt) fY.out aJ;refine hK.out _ _ (⟨hA8.cell 1,hA8.cell 2⟩) (fun hHeld=>?_);clear hK K;try simp only[ck]
  refine lN ?_;go_wp2_with fail
  (try simp only[Exit.inBlock,Exit.then])
  refine bodyPost_ret (results_none rfl _ _ _) rfl ?_;exact⟨rfl,p2,k3⟩
 |false=>
  obtain⟨rfl,ol⟩:hi=0∧lo<4294967296:=by
   rcases ok with h|h
   ·exact h.2
   ·cases h.1
  have HX:=ae (show fG [⟨#[4]⟩,be 4 lo]=X by rw[aag,hX];rfl);have q1:IntKind.u32.wrap (lo:Int)=(lo:Int):=by
   show(lo:Int)%4294967296=_;omega
  clear ok hX;go_enter Tryz.func89,Tryz.ntmps89;go_upto_region 1 with fail
  generalize w.alloc (.cells #[.bool false,.int .u64 ((0:Nat):Int),.int .u64 lo] 52)=w1 at HA HB1⊢;generalize w.heap.size=P at HA fY⊢;obtain⟨a0,a1,a2⟩:=jt HA;go_wp2_with(first
   |(go_at_call 129;refine(agA.out lo ol _).mono ?_;rintro r wb⟨rfl,db⟩)
   |(go_at_call 30;(refine(jo.out wb [⟨#[4]⟩,be 4 lo] 2 (after HB1.out db) HX.out (by simp) rfl).mono ?_);rintro r wd⟨rfl,p2,k2⟩;rw[HX.out]at p2))
  go_end0
  exact⟨rfl,p2,k2.low HB.out (after HB1.out db)⟩
theorem QP(a:Ad):(!(iF a).toList.isEmpty)=a.may:=by
 have h:(iF a).toList=iE a:=by rw[cE];rfl
 rw[h];cases hm:a.may with
 |true=>
  have:=Td hm;cases ht:iE a with
  |nil=>exact absurd ht this
  |cons x l=>rfl
 |false=>
  have:iE a=[]:=by unfold iE;rw[if_pos hm]
  rw[this];rfl
theorem nL{w:World}(env:Env w)(a:Ad)(ok:a.Ok):Calls ah 125 #[.agg a.cells] w (Got (.bool a.may) w):=by
 have ht:=fun u(hu:aW w u)=>rN (env.below hu) a ok
 rw[←QP a];generalize iF a=T at ht⊢;obtain⟨v,h,l⟩:=a;unfold Ad.cells at ht⊢;simp only at ht⊢;have HT:=ae ht;have hb:=boxed w (.cells #[.bool v,.int .u64 h,.int .u64 l] 52);obtain⟨HS,HB⟩:=aL (aH.new w 52 #[.bool v,.int .u64 h,.int .u64 l]) hb;clear ht hb env ok;go_enter Tryz.func125,Tryz.ntmps125;go_upto_region 1 with fail
 generalize w.alloc (.cells #[.bool v,.int .u64 h,.int .u64 l] 52)=w1 at HB HS⊢;generalize w.heap.size=G at HS⊢;obtain⟨s0,s1,s2⟩:=jt HS;go_wp2_with(go_at_call 156;refine(HT.out _ HB.out).mono ?_;rintro r w2⟨rfl,e2⟩)
 go_ret;exact⟨rfl,after HB.out e2⟩
theorem yb(a b:ByteArray)(w:World):Calls ah 81 #[.string a,.string b] w (Got (.bool (sf a b)) w):=by
 go_enter Tryz.func81,Tryz.ntmps81;go_wp2_with fail
 go_ret;exact⟨rfl,aI _ _⟩
theorem pD{w:World}(env:Env w)(s:ByteArray)(hs:s.size≤2000000):Calls ah 84 #[.string s] w (Got (.bool (lZ s)) w):=by
 have hp:=parse_any env s hs;unfold ei at hp;have he:(((jb s.data.toList).2.1:Int)==0)=lZ s:=by
  unfold lZ;rw[gW,beq_iff_eq,decide_eq_true_eq];omega
 generalize lZ s=R at he⊢;generalize jb s.data.toList=P at hp he;obtain⟨q,c,n,x⟩:=P;simp only at hp he;have HP:=ae hp;clear hp env;go_enter Tryz.func84,Tryz.ntmps84;go_upto_region 2 with(go_at_call 126;refine HP.out.mono ?_;rintro r w1⟨⟨⟨vg,vt,vh,va⟩,rfl,hrd⟩,b1⟩;(obtain⟨Ag,At,Ah,Aa,cg,ct,ch,ca,hV⟩:=copied hrd);(obtain⟨rfl,rfl,rfl,rfl⟩:vg=_∧vt=_∧vh=_∧va=_:=by simpa using hV);clear hV hrd)
 go_wp2_with fail
 go_ret;exact⟨by rw[←he];rfl,after b1 (fR _ _ _)⟩
theorem GG(x y:ByteArray)(c1 c2 c3 c4 c5 c6 c7 e1 e2 e3 e4 e5 e6 e7:Value)(w:World):Calls ah 120 #[.agg #[.string x,c1,c2,c3,c4,c5,c6,c7],.agg #[.string y,e1,e2,e3,e4,e5,e6,e7]] w (Got (.bool (sf x y)) w):=by
 have HB:=ae (fR w (.cells #[.string x,c1,c2,c3,c4,c5,c6,c7] 47) (.cells #[.string y,e1,e2,e3,e4,e5,e6,e7] 47));have hp:=aH.new w 47 #[.string x,c1,c2,c3,c4,c5,c6,c7];have HP:=ae (hp.below (boxed _ (.cells #[.string y,e1,e2,e3,e4,e5,e6,e7] 47)) hp.lt);have hq:=aH.new (w.alloc (.cells #[.string x,c1,c2,c3,c4,c5,c6,c7] 47)) 47 #[.string y,e1,e2,e3,e4,e5,e6,e7];rw[show(w.alloc (.cells #[.string x,c1,c2,c3,c4,c5,c6,c7] 47)).heap.size=w.heap.size+1 by simp]at hq;have HQ:=ae hq;clear hp hq;go_enter Tryz.func120,Tryz.ntmps120;go_upto_region 1 with fail
 generalize(w.alloc (.cells #[.string x,c1,c2,c3,c4,c5,c6,c7] 47)).alloc (.cells #[.string y,e1,e2,e3,e4,e5,e6,e7] 47)=w1 at HB HP HQ⊢;generalize w.heap.size+1=Q at HQ⊢;generalize hP:w.heap.size=P at HP⊢;clear hP;have p0:=HP.out.cell 0;have q0:=HQ.out.cell 0;simp at p0 q0;go_wp2_with fail
 go_ret;exact⟨rfl,HB.out⟩
theorem KG(x y:Nat)(c1 c2 c3 c4 c5 e1 e2 e3 e4 e5:Value)(w:World):Calls ah 122 #[.agg #[.int .u8 x,c1,c2,c3,c4,c5],.agg #[.int .u8 y,e1,e2,e3,e4,e5]] w (Got (.bool (decide (x<y))) w):=by
 have HB:=ae (fR w (.cells #[.int .u8 x,c1,c2,c3,c4,c5] 57) (.cells #[.int .u8 y,e1,e2,e3,e4,e5] 57));have hp:=aH.new w 57 #[.int .u8 x,c1,c2,c3,c4,c5];have HP:=ae (hp.below (boxed _ (.cells #[.int .u8 y,e1,e2,e3,e4,e5] 57)) hp.lt);have hq:=aH.new (w.alloc (.cells #[.int .u8 x,c1,c2,c3,c4,c5] 57)) 57 #[.int .u8 y,e1,e2,e3,e4,e5];rw[show(w.alloc (.cells #[.int .u8 x,c1,c2,c3,c4,c5] 57)).heap.size=w.heap.size+1 by simp]at hq;have HQ:=ae hq;clear hp hq;go_enter Tryz.func122,Tryz.ntmps122;go_upto_region 1 with fail
 generalize(w.alloc (.cells #[.int .u8 x,c1,c2,c3,c4,c5] 57)).alloc (.cells #[.int .u8 y,e1,e2,e3,e4,e5] 57)=w1 at HB HP HQ⊢;generalize w.heap.size+1=Q at HQ⊢;generalize hP:w.heap.size=P at HP⊢;clear hP;have p0:=HP.out.cell 0;have q0:=HQ.out.cell 0;simp at p0 q0;go_wp2_with fail
 go_ret;exact⟨rfl,HB.out⟩
theorem QQ(k x:ByteArray)(c1 c2 c3 c4 c5 c6 c7:Value)(g:Nat){w:World}(hg:w.cell? ⟨g,0,none⟩=some (.string k)):Calls ah 72 #[.agg #[.string x,c1,c2,c3,c4,c5,c6,c7],.pointer (some ⟨g,0,none⟩)] w (Got (.bool (decide (x=k))) w):=by
 have hb:=boxed w (.cells #[.string x,c1,c2,c3,c4,c5,c6,c7] 47);have HS:=ae (aH.new w 47 #[.string x,c1,c2,c3,c4,c5,c6,c7]);have g0:=ai hg hb;have HB:=ae hb;rw[show decide (x=k)=(x.toList==k.toList) by rw[eqS,gW,decide_eq_true_eq,decide_eq_true_eq];exact⟨Eq.symm,Eq.symm⟩];clear hg hb;go_enter Tryz.func72,Tryz.ntmps72;go_upto_region 1 with fail
 generalize w.alloc (.cells #[.string x,c1,c2,c3,c4,c5,c6,c7] 47)=w1 at HB HS g0⊢;generalize w.heap.size=G at HS⊢;have s0:=HS.out.cell 0;simp at s0;go_wp2_with fail
 go_ret;exact⟨rfl,HB.out⟩
theorem GH{w:World}(env:Env w)(c0 c5:Value)(k:ByteArray)(a:Ad)(ok:a.Ok):Calls ah 124 #[.agg #[c0,.string k,.bool a.v6,.int .u64 (a.hi:Int),.int .u64 (a.lo:Int),c5]] w (Got (.bool (decide (k.size=32)&&a.may)) w):=by
 have hm:=fun u(hu:aW w u)=>nL (env.below hu) a ok
 generalize a.may=M at hm⊢;obtain⟨v,h,l⟩:=a;unfold Ad.cells at hm;simp only at hm⊢;have HM:=ae hm;have hb:=boxed w (.cells #[c0,.string k,.bool v,.int .u64 h,.int .u64 l,c5] 57);obtain⟨HS,HB⟩:=aL (aH.new w 57 #[c0,.string k,.bool v,.int .u64 h,.int .u64 l,c5]) hb;clear hm hb env ok;go_enter Tryz.func124,Tryz.ntmps124;go_upto_region 1 with fail
 generalize w.alloc (.cells #[c0,.string k,.bool v,.int .u64 h,.int .u64 l,c5] 57)=w1 at HB HS⊢;generalize w.heap.size=G at HS⊢;obtain⟨-,s1,s2,s3,s4⟩:=IZ HS;by_cases hk:k.size=32
 ·have e1:((k.size:Int)==32)=true:=by simp;omega
  have HK:=ae hk;clear hk;go_wp2_with(go_at_call 125;refine(HM.out _ HB.out).mono ?_;rintro r w2⟨rfl,e2⟩)
  go_ret;exact⟨by rw[decide_eq_true HK.out];rfl,after HB.out e2⟩
 ·have e1:((k.size:Int)==32)=false:=by simp;omega
  have HK:=ae hk;clear hk;go_wp2_with fail
  go_ret;exact⟨by rw[decide_eq_false HK.out];rfl,HB.out⟩
end Go.Proofs.YtkjaajcpbldjoabGreatDoor
