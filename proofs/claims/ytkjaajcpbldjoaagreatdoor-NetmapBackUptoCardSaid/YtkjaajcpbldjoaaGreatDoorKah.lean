/- Joined out of: NwA NtB NtC NtD MkA MkB NmA PeB NwB. -/
import Derived.Test.YtkjaajcpbldjoaaGreatDoorKag
set_option linter.unusedVariables false
set_option linter.unusedSimpArgs false
set_option maxHeartbeats 16000000
set_option maxRecDepth 100000
open Array renaming length_toList→eB
open Bool renaming and_eq_true→aX,eq_iff_iff→fE
open Go.ByteArray renaming toList_eq→cC
open Go.Lib renaming hid→ae
open Go.Proofs.Tryz renaming prog→ah
open Go.Result renaming andThen_ok→j9
open Go.RowKit renaming Hid→ag
open Go.RowKit.Below renaming refl→aM
open Go.Sem renaming run_bind→ahN
open Go.World renaming block_lt_of_cell?→aj
open List renaming getElem?_eq_getElem→af,length_append→ai,length_map→ay,getD_eq_getElem?_getD→aE,range→aF,append_assoc→aO,getElem_mem→a8,eq_nil_of_length_eq_zero→bz,length_cons→bO,getElem?_map→bS,mem_cons_of_mem→cz,mem_cons_self→cP,append_nil→dP,flatMap_cons→abe
open Nat renaming le_trans→aw,zero_le→bh,add_zero→b8
namespace Go.Proofs.YtkjaajcpbldjoaaGreatDoor
open Go.RowKit
attribute [local go_sem↓] Go.wp_at_zero Go.wp_at_succ
attribute [local go_sem] ep
def mF(w:World)(A:Option Addr)(n:Nat)(cs:Nat→ByteArray):Prop:=∀k,k<n→∃g o,A=some ⟨g,o,none⟩∧w.cell? ⟨g,o+k,none⟩=some (.string (cs k))
theorem mF.below{w w':World}{A:Option Addr}{n:Nat}{cs:Nat→ByteArray}(h:mF w A n cs)(e:aW w w'):mF w' A n cs:=by
 intro k hk;obtain⟨g,o,hA,hc⟩:=h k hk;exact⟨g,o,hA,ak hc e⟩
theorem dO.below{w w':World}{A:Option Addr}{n K:Nat}{cs:Nat→List Value}(h:dO w A n K cs)(e:aW w w'):dO w' A n K cs:=by
 intro k hk;obtain⟨hl,g,o,hA,hc⟩:=h k hk;exact⟨hl,g,o,hA,fun j u hu=>ak (hc j u hu) e⟩
theorem si(n:Nat)(p:Nat→Bool):(!((aF n).any fun k=> !p k))=(aF n).all p:=by
 rw[List.not_any_eq_all_not];congr 1;funext k;exact Bool.not_not _
theorem eZ(n:Nat)(p:Nat→Bool):(aF (n+1)).all p=((aF n).all p&&p n):=by
 rw[List.range_succ,List.all_append];simp
theorem fq{n k:Nat}{p:Nat→Bool}(hk:k<n)(h:p k=false):(aF n).all p=false:=by
 rw[List.all_eq_false];exact⟨k,List.mem_range.2 hk,by rw[h];decide⟩
theorem ZT{w:World}{A:Option Addr}{N cap:Nat}(hN:N≤4000000)(cs:Nat→ByteArray)(p:Nat→Bool)(hc:mF w A N cs)(f:Nat)(lb:Array Value)(eg:∀args w,(callFunc f args).run ah w=.ok (.enter f args) w)(hf:∀k,k<N→∀W,aW w W→Calls ah f (#[.string (cs k)]++lb) W (Got (.bool (p k)) W)):Calls ah 139 #[.slice A N cap,.func (.func f) #[] lb] w fun r w'=>(∃z:Int,r=.returned (.int .i64 z)∧Yf p N z)∧aW w w':=by
 obtain⟨HC,HF⟩:=aN hc hf;clear hc hf;go_enter Tryz.func139,Tryz.ntmps139;go_wp2_with fail
 go_loopw [8] (fun v8 wr=>∃k:Nat,k≤N∧v8=.int .i64 k∧ag (aW w wr)∧ag (∀j,j<k→p j=false)) (fun v8 _=>N-(intOf v8).toNat)
 case atStart=>exact⟨0,bh _,rfl,ae (aM _ _),ae (fun j hj=>absurd hj (Nat.not_lt_zero j))⟩
 case round=>
  obtain⟨k,hk,rfl,hb,hno⟩:=hrel;by_cases hlt:k<N
  ·skip
   obtain⟨q,o,rfl,hcell⟩:=HC.out k hlt;have hcall:=HF.out k hlt wr hb.out;have d0:=(hb.out.cell (aj w _ hcell)).trans hcell;generalize cs k=L at d0 hcall;have bI:=ae hcall;clear hcall hcell;cases hp:p k with
   |true=>
    rw[hp]at bI;have HP:=ae hp;clear hp;go_wp2_with(go_at_fn f;(with_reducible refine bI.out.mono ?_);rintro r w2⟨rfl,e2⟩)
    go_ret;exact⟨⟨_,rfl,.inl ⟨k,hlt,rfl,HP.out,hno.out⟩⟩,after hb.out e2⟩
   |false=>
    rw[hp]at bI;have HP:=ae hp;clear hp;go_wp2_with(go_at_fn f;(with_reducible refine bI.out.mono ?_);rintro r w2⟨rfl,e2⟩)
    go_roundw
    case rel=>
     refine⟨k+1,by omega,by go_num,(aZ hb e2),ae (fun j hj=>?_)⟩;by_cases e:j=k
     ·rw[e];exact HP.out
     ·exact hno.out j (by omega)
    case measure=>simp[intOf];omega
  ·obtain rfl:k=N:=by omega
   go_wp2_with fail
   go_ret;exact⟨⟨_,rfl,.inr ⟨rfl,hno.out⟩⟩,hb.out⟩
theorem ZU{w:World}{A:Option Addr}{N cap:Nat}(hN:N≤4000000)(cs:Nat→ByteArray)(p:Nat→Bool)(hc:mF w A N cs)(f:Nat)(lb:Array Value)(eg:∀args w,(callFunc f args).run ah w=.ok (.enter f args) w)(hf:∀k,k<N→∀W,aW w W→Calls ah f (#[.string (cs k)]++lb) W (Got (.bool (p k)) W)):Calls ah 113 #[.slice A N cap,.func (.func f) #[] lb] w (Got (.bool ((aF N).any p)) w):=by
 have HI:=ae (ZT (cap:=cap) hN cs p hc f lb eg hf);clear hc hf;generalize hR:(aF N).any p=R;have HR:=ae hR;clear hR;go_enter Tryz.func113,Tryz.ntmps113;go_wp2_with(go_at_call 139;refine HI.out.mono ?_;rintro r w2⟨⟨z,rfl,hz⟩,e2⟩)
 go_ret;exact⟨by rw[←HR.out,←hz.any];rfl,e2⟩
theorem UP{w:World}(x:ByteArray)(g:Nat)(f:Nat)(lb:Array Value)(eg:∀args w,(callFunc f args).run ah w=.ok (.enter f args) w)(hg:w.cell? ⟨g,0,none⟩=some (.func (.func f) #[] lb))(b:Bool)(hf:∀W,aW w W→Calls ah f (#[.string x]++lb) W (Got (.bool b) W)):Calls ah 114 #[.string x,.pointer (some ⟨g,0,none⟩)] w (Got (.bool (!b)) w):=by
 have HF:=ae hf;clear hf;go_enter Tryz.func114,Tryz.ntmps114;go_wp2_with(go_at_fn f;(with_reducible refine(HF.out _ (aM _ _)).mono ?_);rintro r w2⟨rfl,e2⟩)
 go_ret;exact⟨rfl,e2⟩
theorem UQ{w:World}{A:Option Addr}{N cap:Nat}(hN:N≤4000000)(cs:Nat→ByteArray)(p:Nat→Bool)(hc:mF w A N cs)(f:Nat)(lb:Array Value)(eg:∀args w,(callFunc f args).run ah w=.ok (.enter f args) w)(hf:∀k,k<N→∀W,aW w W→Calls ah f (#[.string (cs k)]++lb) W (Got (.bool (p k)) W)):Calls ah 58 #[.slice A N cap,.func (.func f) #[] lb] w (Got (.bool ((aF N).all p)) w):=by
 have hco:=fun u(hu:aW w u)g(hg:u.cell? ⟨g,0,none⟩=some (.func (.func f) #[] lb))=>ZU (cap:=cap) hN cs (fun k=> !p k) (hc.below hu) 114 #[.pointer (some ⟨g,0,none⟩)] (enters_of Tryz.func114 bo rfl)
  fun k hk W hW=>UP _ g f lb eg (ak hg hW) (p k) fun W2 hW2=>hf k hk W2 (after hu (after hW hW2))
 rw[←si];generalize((aF N).any fun k=> !p k)=R at hco⊢;have UT:=ae hco;have hb:=boxed w (.cells #[.func (.func f) #[] lb] 104);obtain⟨HG,HB⟩:=aN (show(w.alloc (.cells #[.func (.func f) #[] lb] 104)).cell? ⟨w.heap.size,0,none⟩=some (.func (.func f) #[] lb)from(aG.new w 104 #[.func (.func f) #[] lb]).cell 0) hb;clear hco hc hf hb;go_enter Tryz.func58,Tryz.ntmps58;go_upto_region 1 with fail
 generalize w.alloc (.cells #[.func (.func f) #[] lb] 104)=w1 at HB HG⊢;generalize w.heap.size=G at HG⊢;go_wp2_with(go_at_call 113;refine(UT.out _ HB.out _ HG.out).mono ?_;rintro r w2⟨rfl,e2⟩)
 go_ret;exact⟨rfl,after HB.out e2⟩
theorem UU{w:World}{A:Option Addr}{N cap:Nat}(hN:N≤4000000)(cs:Nat→ByteArray)(p:Nat→Bool)(hc:mF w A N cs)(f:Nat)(lb:Array Value)(eg:∀args w,(callFunc f args).run ah w=.ok (.enter f args) w)(hf:∀k,k+1<N→∀W,aW w W→Calls ah f (#[.string (cs k),.string (cs (k+1))]++lb) W (Got (.bool (p k)) W)):Calls ah 102 #[.slice A N cap,.func (.func f) #[] lb] w (Got (.bool ((aF (N-1)).all p)) w):=by
 obtain⟨HC,HF⟩:=aN hc hf;clear hc hf;generalize hR:(aF (N-1)).all p=R;have HR:=ae hR;clear hR;go_enter Tryz.func102,Tryz.ntmps102;go_wp2_with fail
 go_loopw [5] (fun v5 wr=>∃k:Nat,k≤N∧v5=.int .i64 ((k:Int)+1)∧ag (aW w wr)∧ag ((aF k).all p=true∧(k=0∨k+1≤N))) (fun v5 _=>N-(intOf v5).toNat)
 case atStart=>exact⟨0,bh _,rfl,ae (aM _ _),ae ⟨rfl,.inl rfl⟩⟩
 case round=>
  obtain⟨k,hk,rfl,hb,hno⟩:=hrel;have hz:IntKind.i64.wrap (k:Int)=(k:Int):=IntWalk.i64_in _ aQ;by_cases hlt:k+1<N
  ·have hlt':(k:Int)+1<(N:Int):=by omega
   have hlt0:(k:Int)<(N:Int):=by omega
   have acL:(0:Int)≤(k:Int)+1:=by omega
   obtain⟨q,o,hA,hcell⟩:=HC.out k aQ;obtain⟨q1,o1,hA1,hcell1⟩:=HC.out (k+1) hlt;subst hA;injection hA1 with hA1
   injection hA1 with eq eo _
   subst eq eo;have hcall:=fun u(hu:aW w u)=>HF.out k hlt u hu
   have d0:=(hb.out.cell (aj w _ hcell)).trans hcell;have f0:=(hb.out.cell (aj w _ hcell1)).trans hcell1;generalize cs k=L at d0 hcall;generalize cs (k+1)=M at f0 hcall;have bI:=ae hcall;clear hcall hcell hcell1;cases hp:p k with
   |true=>
    rw[hp]at bI;have HP:=ae hp;clear hp;go_upto_region 4 with fail
    refine wp_region_held_drew (S:=(fun w'=>w'.cell? ⟨q,o+k,none⟩=some (.string L)∧w'.cell? ⟨q,o+(k+1),none⟩=some (.string M))) bo (⟨d0,f0⟩) (fun hHeld=>?_);refine bC 0 ?_
    refine bC 1 ?_
    refine bC 2 ?_
    refine bC 3 ?_
    refine bC 4 ?_
    refine bC 5 ?_
    refine bC 6 ?_
    refine bC 7 ?_
    refine bC 8 ?_
    refine bC 9 ?_
    refine jg 10 fun K hK=>?_;go_simp;go_at_fn f;refine(bI.out _ (Below.qQ hb.out)).mono ?_;rintro r wb⟨rfl,db⟩;have eb:=Below.fJ db;clear db;refine hK.out _ _ (⟨ak d0 eb,ak f0 eb⟩) (fun hHeld=>?_);clear hK K;try simp only[cN]
    refine bC 11 ?_
    refine qW ?_;go_wp2_with fail
    go_roundw
    case rel=>exact⟨k+1,by omega,by go_num,(aZ hb eb),ae ⟨by rw[eZ,hno.out.1,HP.out];rfl,.inr hlt⟩⟩
    case measure=>simp[intOf];omega
   |false=>
    rw[hp]at bI;have dt:ag (R=false):=ae (by rw[←HR.out];exact fq aQ hp);clear hp;go_upto_region 4 with fail
    refine wp_region_held_drew (S:=(fun w'=>w'.cell? ⟨q,o+k,none⟩=some (.string L)∧w'.cell? ⟨q,o+(k+1),none⟩=some (.string M))) bo (⟨d0,f0⟩) (fun hHeld=>?_);refine bC 0 ?_
    refine bC 1 ?_
    refine bC 2 ?_
    refine bC 3 ?_
    refine bC 4 ?_
    refine bC 5 ?_
    refine bC 6 ?_
    refine bC 7 ?_
    refine bC 8 ?_
    refine bC 9 ?_
    refine jg 10 fun K hK=>?_;go_simp;go_at_fn f;refine(bI.out _ (Below.qQ hb.out)).mono ?_;rintro r wb⟨rfl,db⟩;have eb:=Below.fJ db;clear db;refine hK.out _ _ (⟨ak d0 eb,ak f0 eb⟩) (fun hHeld=>?_);clear hK K;try simp only[cN]
    refine bC 11 ?_
    refine qW ?_;go_wp2_with fail
    go_ret;exact⟨by rw[dt.out];rfl,after hb.out eb⟩
  ·have hge:¬(k:Int)+1<(N:Int):=by omega
   have ZV:ag (R=true):=ae (by rw[←HR.out,show N-1=k by have:=hno.out.2;omega];exact hno.out.1);go_wp2_with fail
   go_ret;exact⟨by rw[ZV.out];rfl,hb.out⟩
theorem UW{w:World}{A:Option Addr}{N cap:Nat}(hN:N≤4000000)(cs:Nat→List Value)(p:Nat→Bool)(hc:dO w A N 3 cs)(f:Nat)(lb:Array Value)(eg:∀args w,(callFunc f args).run ah w=.ok (.enter f args) w)(hf:∀k,k<N→∀W,aW w W→Calls ah f (#[.agg (cs k).toArray]++lb) W (Got (.bool (p k)) W)):Calls ah 206 #[.slice A N cap,.func (.func f) #[] lb] w fun r w'=>(∃z:Int,r=.returned (.int .i64 z)∧Yf p N z)∧aW w w':=by
 obtain⟨HC,HF⟩:=aN hc hf;clear hc hf;go_enter Tryz.func206,Tryz.ntmps206;go_wp2_with fail
 go_loopw [8] (fun v8 wr=>∃k:Nat,k≤N∧v8=.int .i64 k∧ag (aW w wr)∧ag (∀j,j<k→p j=false)) (fun v8 _=>N-(intOf v8).toNat)
 case atStart=>exact⟨0,bh _,rfl,ae (aM _ _),ae (fun j hj=>absurd hj (Nat.not_lt_zero j))⟩
 case round=>
  obtain⟨k,hk,rfl,hb,hno⟩:=hrel;by_cases hlt:k<N
  ·skip
   obtain⟨hlen,q,o,rfl,hcell⟩:=HC.out k hlt;have hcall:=HF.out k hlt wr hb.out;generalize hcs:cs k=L at hlen hcell hcall;clear hcs;obtain⟨c0,c1,c2,hL⟩:∃c0 c1 c2,L=[c0,c1,c2]:=by
    match L,hlen with
    |[c0,c1,c2],_=>exact⟨c0,c1,c2,rfl⟩
   subst hL;have d0:=(hb.out.cell (aj w _ (hcell 0 _ rfl))).trans (hcell 0 _ rfl);have d1:=(hb.out.cell (aj w _ (hcell 1 _ rfl))).trans (hcell 1 _ rfl);have d2:=(hb.out.cell (aj w _ (hcell 2 _ rfl))).trans (hcell 2 _ rfl);rw[b8]at d0;have bI:=ae hcall;clear hcall hcell hlen;cases hp:p k with
   |true=>
    rw[hp]at bI;have HP:=ae hp;clear hp;go_wp2_with(go_at_fn f;(with_reducible refine bI.out.mono ?_);rintro r w2⟨rfl,e2⟩)
    go_ret;exact⟨⟨_,rfl,.inl ⟨k,hlt,rfl,HP.out,hno.out⟩⟩,after hb.out e2⟩
   |false=>
    rw[hp]at bI;have HP:=ae hp;clear hp;go_wp2_with(go_at_fn f;(with_reducible refine bI.out.mono ?_);rintro r w2⟨rfl,e2⟩)
    go_roundw
    case rel=>
     refine⟨k+1,by omega,by go_num,(aZ hb e2),ae (fun j hj=>?_)⟩;by_cases e:j=k
     ·rw[e];exact HP.out
     ·exact hno.out j (by omega)
    case measure=>simp[intOf];omega
  ·obtain rfl:k=N:=by omega
   go_wp2_with fail
   go_ret;exact⟨⟨_,rfl,.inr ⟨rfl,hno.out⟩⟩,hb.out⟩
theorem UX{w:World}{A:Option Addr}{N cap:Nat}(hN:N≤4000000)(cs:Nat→List Value)(p:Nat→Bool)(hc:dO w A N 3 cs)(f:Nat)(lb:Array Value)(eg:∀args w,(callFunc f args).run ah w=.ok (.enter f args) w)(hf:∀k,k<N→∀W,aW w W→Calls ah f (#[.agg (cs k).toArray]++lb) W (Got (.bool (p k)) W)):Calls ah 177 #[.slice A N cap,.func (.func f) #[] lb] w (Got (.bool ((aF N).any p)) w):=by
 have HI:=ae (UW (cap:=cap) hN cs p hc f lb eg hf);clear hc hf;generalize hR:(aF N).any p=R;have HR:=ae hR;clear hR;go_enter Tryz.func177,Tryz.ntmps177;go_wp2_with(go_at_call 206;refine HI.out.mono ?_;rintro r w2⟨⟨z,rfl,hz⟩,e2⟩)
 go_ret;exact⟨by rw[←HR.out,←hz.any];rfl,e2⟩
theorem Qk{w:World}(L:List Value)(hl:L.length=3)(g:Nat)(f:Nat)(lb:Array Value)(eg:∀args w,(callFunc f args).run ah w=.ok (.enter f args) w)(hg:w.cell? ⟨g,0,none⟩=some (.func (.func f) #[] lb))(b:Bool)(hf:∀W,aW w W→Calls ah f (#[.agg L.toArray]++lb) W (Got (.bool b) W)):Calls ah 178 #[.agg L.toArray,.pointer (some ⟨g,0,none⟩)] w (Got (.bool (!b)) w):=by
 obtain⟨c0,c1,c2,hL⟩:∃c0 c1 c2,L=[c0,c1,c2]:=by
  match L,hl with
  |[c0,c1,c2],_=>exact⟨c0,c1,c2,rfl⟩
 subst hL;have HF:=ae hf;have hb:=boxed w (.cells #[c0,c1,c2] 52);have HS:=ae (aG.new w 52 #[c0,c1,c2]);have g0:=ak hg hb;have HB:=ae hb;clear hf hg hb hl;go_enter Tryz.func178,Tryz.ntmps178;go_upto_region 1 with fail
 generalize w.alloc (.cells #[c0,c1,c2] 52)=w1 at HB HS g0⊢;generalize w.heap.size=G at HS⊢;obtain⟨s0,s1,s2⟩:=jf HS;go_wp2_with(go_at_fn f;(with_reducible refine(HF.out _ HB.out).mono ?_);rintro r w2⟨rfl,e2⟩)
 go_ret;exact⟨rfl,after HB.out e2⟩
theorem Ql{w:World}{A:Option Addr}{N cap:Nat}(hN:N≤4000000)(cs:Nat→List Value)(p:Nat→Bool)(hc:dO w A N 3 cs)(f:Nat)(lb:Array Value)(eg:∀args w,(callFunc f args).run ah w=.ok (.enter f args) w)(hf:∀k,k<N→∀W,aW w W→Calls ah f (#[.agg (cs k).toArray]++lb) W (Got (.bool (p k)) W)):Calls ah 154 #[.slice A N cap,.func (.func f) #[] lb] w (Got (.bool ((aF N).all p)) w):=by
 have hco:=fun u(hu:aW w u)g(hg:u.cell? ⟨g,0,none⟩=some (.func (.func f) #[] lb))=>UX (cap:=cap) hN cs (fun k=> !p k) (hc.below hu) 178 #[.pointer (some ⟨g,0,none⟩)] (enters_of Tryz.func178 bo rfl)
  fun k hk W hW=>Qk _ (hc k hk).1 g f lb eg (ak hg hW) (p k) fun W2 hW2=>hf k hk W2 (after hu (after hW hW2))
 rw[←si];generalize((aF N).any fun k=> !p k)=R at hco⊢;have UT:=ae hco;have hb:=boxed w (.cells #[.func (.func f) #[] lb] 164);obtain⟨HG,HB⟩:=aN (show(w.alloc (.cells #[.func (.func f) #[] lb] 164)).cell? ⟨w.heap.size,0,none⟩=some (.func (.func f) #[] lb)from(aG.new w 164 #[.func (.func f) #[] lb]).cell 0) hb;clear hco hc hf hb;go_enter Tryz.func154,Tryz.ntmps154;go_upto_region 1 with fail
 generalize w.alloc (.cells #[.func (.func f) #[] lb] 164)=w1 at HB HG⊢;generalize w.heap.size=G at HG⊢;go_wp2_with(go_at_call 177;refine(UT.out _ HB.out _ HG.out).mono ?_;rintro r w2⟨rfl,e2⟩)
 go_ret;exact⟨rfl,after HB.out e2⟩
theorem Qm{w:World}{A:Option Addr}{N cap:Nat}(hN:N≤4000000)(cs:Nat→List Value)(p:Nat→Bool)(hc:dO w A N 3 cs)(f:Nat)(lb:Array Value)(eg:∀args w,(callFunc f args).run ah w=.ok (.enter f args) w)(hf:∀k,k+1<N→∀W,aW w W→Calls ah f (#[.agg (cs k).toArray,.agg (cs (k+1)).toArray]++lb) W (Got (.bool (p k)) W)):Calls ah 155 #[.slice A N cap,.func (.func f) #[] lb] w (Got (.bool ((aF (N-1)).all p)) w):=by
 obtain⟨HC,HF⟩:=aN hc hf;clear hc hf;generalize hR:(aF (N-1)).all p=R;have HR:=ae hR;clear hR;go_enter Tryz.func155,Tryz.ntmps155;go_wp2_with fail
 go_loopw [5] (fun v5 wr=>∃k:Nat,k≤N∧v5=.int .i64 ((k:Int)+1)∧ag (aW w wr)∧ag ((aF k).all p=true∧(k=0∨k+1≤N))) (fun v5 _=>N-(intOf v5).toNat)
 case atStart=>exact⟨0,bh _,rfl,ae (aM _ _),ae ⟨rfl,.inl rfl⟩⟩
 case round=>
  obtain⟨k,hk,rfl,hb,hno⟩:=hrel;have hz:IntKind.i64.wrap (k:Int)=(k:Int):=IntWalk.i64_in _ aQ;by_cases hlt:k+1<N
  ·have hlt':(k:Int)+1<(N:Int):=by omega
   have hlt0:(k:Int)<(N:Int):=by omega
   have acL:(0:Int)≤(k:Int)+1:=by omega
   obtain⟨hlen,q,o,hA,hcell⟩:=HC.out k aQ;obtain⟨hlen1,q1,o1,hA1,hcell1⟩:=HC.out (k+1) hlt;subst hA;injection hA1 with hA1
   injection hA1 with eq eo _
   subst eq eo;have hcall:=fun u(hu:aW w u)=>HF.out k hlt u hu
   generalize hcs:cs k=L at hlen hcell hcall;generalize hcs1:cs (k+1)=M at hlen1 hcell1 hcall;clear hcs hcs1;obtain⟨c0,c1,c2,hL⟩:∃c0 c1 c2,L=[c0,c1,c2]:=by
    match L,hlen with
    |[c0,c1,c2],_=>exact⟨c0,c1,c2,rfl⟩
   obtain⟨e0,e1,e2,hM⟩:∃e0 e1 e2,M=[e0,e1,e2]:=by
    match M,hlen1 with
    |[e0,e1,e2],_=>exact⟨e0,e1,e2,rfl⟩
   subst hL hM;have d0:=(hb.out.cell (aj w _ (hcell 0 _ rfl))).trans (hcell 0 _ rfl);have d1:=(hb.out.cell (aj w _ (hcell 1 _ rfl))).trans (hcell 1 _ rfl);have d2:=(hb.out.cell (aj w _ (hcell 2 _ rfl))).trans (hcell 2 _ rfl);have f0:=(hb.out.cell (aj w _ (hcell1 0 _ rfl))).trans (hcell1 0 _ rfl);have f1:=(hb.out.cell (aj w _ (hcell1 1 _ rfl))).trans (hcell1 1 _ rfl);have f2:=(hb.out.cell (aj w _ (hcell1 2 _ rfl))).trans (hcell1 2 _ rfl);rw[b8]at d0 f0;have bI:=ae hcall;clear hcall hcell hlen hcell1 hlen1;cases hp:p k with
   |true=>
    rw[hp]at bI;have HP:=ae hp;clear hp;go_upto_region 4 with fail
    refine wp_region_held_drew (S:=(fun w'=>w'.cell? ⟨q,o+k*3,none⟩=some c0∧w'.cell? ⟨q,o+k*3+1,none⟩=some c1∧w'.cell? ⟨q,o+k*3+2,none⟩=some c2∧w'.cell? ⟨q,o+(k+1)*3,none⟩=some e0∧w'.cell? ⟨q,o+(k+1)*3+1,none⟩=some e1∧w'.cell? ⟨q,o+(k+1)*3+2,none⟩=some e2)) bo (⟨d0,d1,d2,f0,f1,f2⟩) (fun hHeld=>?_);refine bC 0 ?_
    refine bC 1 ?_
    refine bC 2 ?_
    refine bC 3 ?_
    refine bC 4 ?_
    refine bC 5 ?_
    refine bC 6 ?_
    refine bC 7 ?_
    refine bC 8 ?_
    refine bC 9 ?_
    refine jg 10 fun K hK=>?_;go_simp;go_at_fn f;refine(bI.out _ (Below.qQ hb.out)).mono ?_;rintro r wb⟨rfl,db⟩;have eb:=Below.fJ db;clear db;refine hK.out _ _ (⟨ak d0 eb,ak d1 eb,ak d2 eb,ak f0 eb,ak f1 eb,ak f2 eb⟩) (fun hHeld=>?_);clear hK K;try simp only[cN]
    refine bC 11 ?_
    refine qW ?_;go_wp2_with fail
    go_roundw
    case rel=>exact⟨k+1,by omega,by go_num,(aZ hb eb),ae ⟨by rw[eZ,hno.out.1,HP.out];rfl,.inr hlt⟩⟩
    case measure=>simp[intOf];omega
   |false=>
    rw[hp]at bI;have dt:ag (R=false):=ae (by rw[←HR.out];exact fq aQ hp);clear hp;go_upto_region 4 with fail
    refine wp_region_held_drew (S:=(fun w'=>w'.cell? ⟨q,o+k*3,none⟩=some c0∧w'.cell? ⟨q,o+k*3+1,none⟩=some c1∧w'.cell? ⟨q,o+k*3+2,none⟩=some c2∧w'.cell? ⟨q,o+(k+1)*3,none⟩=some e0∧w'.cell? ⟨q,o+(k+1)*3+1,none⟩=some e1∧w'.cell? ⟨q,o+(k+1)*3+2,none⟩=some e2)) bo (⟨d0,d1,d2,f0,f1,f2⟩) (fun hHeld=>?_);refine bC 0 ?_
    refine bC 1 ?_
    refine bC 2 ?_
    refine bC 3 ?_
    refine bC 4 ?_
    refine bC 5 ?_
    refine bC 6 ?_
    refine bC 7 ?_
    refine bC 8 ?_
    refine bC 9 ?_
    refine jg 10 fun K hK=>?_;go_simp;go_at_fn f;refine(bI.out _ (Below.qQ hb.out)).mono ?_;rintro r wb⟨rfl,db⟩;have eb:=Below.fJ db;clear db;refine hK.out _ _ (⟨ak d0 eb,ak d1 eb,ak d2 eb,ak f0 eb,ak f1 eb,ak f2 eb⟩) (fun hHeld=>?_);clear hK K;try simp only[cN]
    refine bC 11 ?_
    refine qW ?_;go_wp2_with fail
    go_ret;exact⟨by rw[dt.out];rfl,after hb.out eb⟩
  ·have hge:¬(k:Int)+1<(N:Int):=by omega
   have ZV:ag (R=true):=ae (by rw[←HR.out,show N-1=k by have:=hno.out.2;omega];exact hno.out.1);go_wp2_with fail
   go_ret;exact⟨by rw[ZV.out];rfl,hb.out⟩
theorem UY{w:World}{A:Option Addr}{N cap:Nat}(hN:N≤4000000)(cs:Nat→List Value)(p:Nat→Bool)(hc:dO w A N 6 cs)(f:Nat)(lb:Array Value)(eg:∀args w,(callFunc f args).run ah w=.ok (.enter f args) w)(hf:∀k,k<N→∀W,aW w W→Calls ah f (#[.agg (cs k).toArray]++lb) W (Got (.bool (p k)) W)):Calls ah 131 #[.slice A N cap,.func (.func f) #[] lb] w fun r w'=>(∃z:Int,r=.returned (.int .i64 z)∧Yf p N z)∧aW w w':=by
 obtain⟨HC,HF⟩:=aN hc hf;clear hc hf;go_enter Tryz.func131,Tryz.ntmps131;go_wp2_with fail
 go_loopw [8] (fun v8 wr=>∃k:Nat,k≤N∧v8=.int .i64 k∧ag (aW w wr)∧ag (∀j,j<k→p j=false)) (fun v8 _=>N-(intOf v8).toNat)
 case atStart=>exact⟨0,bh _,rfl,ae (aM _ _),ae (fun j hj=>absurd hj (Nat.not_lt_zero j))⟩
 case round=>
  obtain⟨k,hk,rfl,hb,hno⟩:=hrel;by_cases hlt:k<N
  ·skip
   obtain⟨hlen,q,o,rfl,hcell⟩:=HC.out k hlt;have hcall:=HF.out k hlt wr hb.out;generalize hcs:cs k=L at hlen hcell hcall;clear hcs;obtain⟨c0,c1,c2,c3,c4,c5,hL⟩:∃c0 c1 c2 c3 c4 c5,L=[c0,c1,c2,c3,c4,c5]:=by
    match L,hlen with
    |[c0,c1,c2,c3,c4,c5],_=>exact⟨c0,c1,c2,c3,c4,c5,rfl⟩
   subst hL;have d0:=(hb.out.cell (aj w _ (hcell 0 _ rfl))).trans (hcell 0 _ rfl);have d1:=(hb.out.cell (aj w _ (hcell 1 _ rfl))).trans (hcell 1 _ rfl);have d2:=(hb.out.cell (aj w _ (hcell 2 _ rfl))).trans (hcell 2 _ rfl);have d3:=(hb.out.cell (aj w _ (hcell 3 _ rfl))).trans (hcell 3 _ rfl);have d4:=(hb.out.cell (aj w _ (hcell 4 _ rfl))).trans (hcell 4 _ rfl);have d5:=(hb.out.cell (aj w _ (hcell 5 _ rfl))).trans (hcell 5 _ rfl);rw[b8]at d0;have bI:=ae hcall;clear hcall hcell hlen;cases hp:p k with
   |true=>
    rw[hp]at bI;have HP:=ae hp;clear hp;go_wp2_with(go_at_fn f;(with_reducible refine bI.out.mono ?_);rintro r w2⟨rfl,e2⟩)
    go_ret;exact⟨⟨_,rfl,.inl ⟨k,hlt,rfl,HP.out,hno.out⟩⟩,after hb.out e2⟩
   |false=>
    rw[hp]at bI;have HP:=ae hp;clear hp;go_wp2_with(go_at_fn f;(with_reducible refine bI.out.mono ?_);rintro r w2⟨rfl,e2⟩)
    go_roundw
    case rel=>
     refine⟨k+1,by omega,by go_num,(aZ hb e2),ae (fun j hj=>?_)⟩;by_cases e:j=k
     ·rw[e];exact HP.out
     ·exact hno.out j (by omega)
    case measure=>simp[intOf];omega
  ·obtain rfl:k=N:=by omega
   go_wp2_with fail
   go_ret;exact⟨⟨_,rfl,.inr ⟨rfl,hno.out⟩⟩,hb.out⟩
theorem Ge{w:World}{A:Option Addr}{N cap:Nat}(hN:N≤4000000)(cs:Nat→List Value)(p:Nat→Bool)(hc:dO w A N 6 cs)(f:Nat)(lb:Array Value)(eg:∀args w,(callFunc f args).run ah w=.ok (.enter f args) w)(hf:∀k,k<N→∀W,aW w W→Calls ah f (#[.agg (cs k).toArray]++lb) W (Got (.bool (p k)) W)):Calls ah 77 #[.slice A N cap,.func (.func f) #[] lb] w (Got (.bool ((aF N).any p)) w):=by
 have HI:=ae (UY (cap:=cap) hN cs p hc f lb eg hf);clear hc hf;generalize hR:(aF N).any p=R;have HR:=ae hR;clear hR;go_enter Tryz.func77,Tryz.ntmps77;go_wp2_with(go_at_call 131;refine HI.out.mono ?_;rintro r w2⟨⟨z,rfl,hz⟩,e2⟩)
 go_ret;exact⟨by rw[←HR.out,←hz.any];rfl,e2⟩
theorem Qn{w:World}(L:List Value)(hl:L.length=6)(g:Nat)(f:Nat)(lb:Array Value)(eg:∀args w,(callFunc f args).run ah w=.ok (.enter f args) w)(hg:w.cell? ⟨g,0,none⟩=some (.func (.func f) #[] lb))(b:Bool)(hf:∀W,aW w W→Calls ah f (#[.agg L.toArray]++lb) W (Got (.bool b) W)):Calls ah 157 #[.agg L.toArray,.pointer (some ⟨g,0,none⟩)] w (Got (.bool (!b)) w):=by
 obtain⟨c0,c1,c2,c3,c4,c5,hL⟩:∃c0 c1 c2 c3 c4 c5,L=[c0,c1,c2,c3,c4,c5]:=by
  match L,hl with
  |[c0,c1,c2,c3,c4,c5],_=>exact⟨c0,c1,c2,c3,c4,c5,rfl⟩
 subst hL;have HF:=ae hf;have hb:=boxed w (.cells #[c0,c1,c2,c3,c4,c5] 57);have HS:=ae (aG.new w 57 #[c0,c1,c2,c3,c4,c5]);have g0:=ak hg hb;have HB:=ae hb;clear hf hg hb hl;go_enter Tryz.func157,Tryz.ntmps157;go_upto_region 1 with fail
 generalize w.alloc (.cells #[c0,c1,c2,c3,c4,c5] 57)=w1 at HB HS g0⊢;generalize w.heap.size=G at HS⊢;obtain⟨s0,s1,s2,s3,s4,s5⟩:=wZ HS;go_wp2_with(go_at_fn f;(with_reducible refine(HF.out _ HB.out).mono ?_);rintro r w2⟨rfl,e2⟩)
 go_ret;exact⟨rfl,after HB.out e2⟩
theorem Qo{w:World}{A:Option Addr}{N cap:Nat}(hN:N≤4000000)(cs:Nat→List Value)(p:Nat→Bool)(hc:dO w A N 6 cs)(f:Nat)(lb:Array Value)(eg:∀args w,(callFunc f args).run ah w=.ok (.enter f args) w)(hf:∀k,k<N→∀W,aW w W→Calls ah f (#[.agg (cs k).toArray]++lb) W (Got (.bool (p k)) W)):Calls ah 125 #[.slice A N cap,.func (.func f) #[] lb] w (Got (.bool ((aF N).all p)) w):=by
 have hco:=fun u(hu:aW w u)g(hg:u.cell? ⟨g,0,none⟩=some (.func (.func f) #[] lb))=>Ge (cap:=cap) hN cs (fun k=> !p k) (hc.below hu) 157 #[.pointer (some ⟨g,0,none⟩)] (enters_of Tryz.func157 bo rfl)
  fun k hk W hW=>Qn _ (hc k hk).1 g f lb eg (ak hg hW) (p k) fun W2 hW2=>hf k hk W2 (after hu (after hW hW2))
 rw[←si];generalize((aF N).any fun k=> !p k)=R at hco⊢;have UT:=ae hco;have hb:=boxed w (.cells #[.func (.func f) #[] lb] 119);obtain⟨HG,HB⟩:=aN (show(w.alloc (.cells #[.func (.func f) #[] lb] 119)).cell? ⟨w.heap.size,0,none⟩=some (.func (.func f) #[] lb)from(aG.new w 119 #[.func (.func f) #[] lb]).cell 0) hb;clear hco hc hf hb;go_enter Tryz.func125,Tryz.ntmps125;go_upto_region 1 with fail
 generalize w.alloc (.cells #[.func (.func f) #[] lb] 119)=w1 at HB HG⊢;generalize w.heap.size=G at HG⊢;go_wp2_with(go_at_call 77;refine(UT.out _ HB.out _ HG.out).mono ?_;rintro r w2⟨rfl,e2⟩)
 go_ret;exact⟨rfl,after HB.out e2⟩
theorem Qp{w:World}{A:Option Addr}{N cap:Nat}(hN:N≤4000000)(cs:Nat→List Value)(p:Nat→Bool)(hc:dO w A N 6 cs)(f:Nat)(lb:Array Value)(eg:∀args w,(callFunc f args).run ah w=.ok (.enter f args) w)(hf:∀k,k+1<N→∀W,aW w W→Calls ah f (#[.agg (cs k).toArray,.agg (cs (k+1)).toArray]++lb) W (Got (.bool (p k)) W)):Calls ah 123 #[.slice A N cap,.func (.func f) #[] lb] w (Got (.bool ((aF (N-1)).all p)) w):=by
 obtain⟨HC,HF⟩:=aN hc hf;clear hc hf;generalize hR:(aF (N-1)).all p=R;have HR:=ae hR;clear hR;go_enter Tryz.func123,Tryz.ntmps123;go_wp2_with fail
 go_loopw [5] (fun v5 wr=>∃k:Nat,k≤N∧v5=.int .i64 ((k:Int)+1)∧ag (aW w wr)∧ag ((aF k).all p=true∧(k=0∨k+1≤N))) (fun v5 _=>N-(intOf v5).toNat)
 case atStart=>exact⟨0,bh _,rfl,ae (aM _ _),ae ⟨rfl,.inl rfl⟩⟩
 case round=>
  obtain⟨k,hk,rfl,hb,hno⟩:=hrel;have hz:IntKind.i64.wrap (k:Int)=(k:Int):=IntWalk.i64_in _ aQ;by_cases hlt:k+1<N
  ·have hlt':(k:Int)+1<(N:Int):=by omega
   have hlt0:(k:Int)<(N:Int):=by omega
   have acL:(0:Int)≤(k:Int)+1:=by omega
   obtain⟨hlen,q,o,hA,hcell⟩:=HC.out k aQ;obtain⟨hlen1,q1,o1,hA1,hcell1⟩:=HC.out (k+1) hlt;subst hA;injection hA1 with hA1
   injection hA1 with eq eo _
   subst eq eo;have hcall:=fun u(hu:aW w u)=>HF.out k hlt u hu
   generalize hcs:cs k=L at hlen hcell hcall;generalize hcs1:cs (k+1)=M at hlen1 hcell1 hcall;clear hcs hcs1;obtain⟨c0,c1,c2,c3,c4,c5,hL⟩:∃c0 c1 c2 c3 c4 c5,L=[c0,c1,c2,c3,c4,c5]:=by
    match L,hlen with
    |[c0,c1,c2,c3,c4,c5],_=>exact⟨c0,c1,c2,c3,c4,c5,rfl⟩
   obtain⟨e0,e1,e2,e3,e4,e5,hM⟩:∃e0 e1 e2 e3 e4 e5,M=[e0,e1,e2,e3,e4,e5]:=by
    match M,hlen1 with
    |[e0,e1,e2,e3,e4,e5],_=>exact⟨e0,e1,e2,e3,e4,e5,rfl⟩
   subst hL hM;have d0:=(hb.out.cell (aj w _ (hcell 0 _ rfl))).trans (hcell 0 _ rfl);have d1:=(hb.out.cell (aj w _ (hcell 1 _ rfl))).trans (hcell 1 _ rfl);have d2:=(hb.out.cell (aj w _ (hcell 2 _ rfl))).trans (hcell 2 _ rfl);have d3:=(hb.out.cell (aj w _ (hcell 3 _ rfl))).trans (hcell 3 _ rfl);have d4:=(hb.out.cell (aj w _ (hcell 4 _ rfl))).trans (hcell 4 _ rfl);have d5:=(hb.out.cell (aj w _ (hcell 5 _ rfl))).trans (hcell 5 _ rfl);have f0:=(hb.out.cell (aj w _ (hcell1 0 _ rfl))).trans (hcell1 0 _ rfl);have f1:=(hb.out.cell (aj w _ (hcell1 1 _ rfl))).trans (hcell1 1 _ rfl);have f2:=(hb.out.cell (aj w _ (hcell1 2 _ rfl))).trans (hcell1 2 _ rfl);have f3:=(hb.out.cell (aj w _ (hcell1 3 _ rfl))).trans (hcell1 3 _ rfl);have f4:=(hb.out.cell (aj w _ (hcell1 4 _ rfl))).trans (hcell1 4 _ rfl);have f5:=(hb.out.cell (aj w _ (hcell1 5 _ rfl))).trans (hcell1 5 _ rfl);rw[b8]at d0 f0;have bI:=ae hcall;clear hcall hcell hlen hcell1 hlen1;cases hp:p k with
   |true=>
    rw[hp]at bI;have HP:=ae hp;clear hp;go_upto_region 4 with fail
    refine wp_region_held_drew (S:=(fun w'=>w'.cell? ⟨q,o+k*6,none⟩=some c0∧w'.cell? ⟨q,o+k*6+1,none⟩=some c1∧w'.cell? ⟨q,o+k*6+2,none⟩=some c2∧w'.cell? ⟨q,o+k*6+3,none⟩=some c3∧w'.cell? ⟨q,o+k*6+4,none⟩=some c4∧w'.cell? ⟨q,o+k*6+5,none⟩=some c5∧w'.cell? ⟨q,o+(k+1)*6,none⟩=some e0∧w'.cell? ⟨q,o+(k+1)*6+1,none⟩=some e1∧w'.cell? ⟨q,o+(k+1)*6+2,none⟩=some e2∧w'.cell? ⟨q,o+(k+1)*6+3,none⟩=some e3∧w'.cell? ⟨q,o+(k+1)*6+4,none⟩=some e4∧w'.cell? ⟨q,o+(k+1)*6+5,none⟩=some e5)) bo (⟨d0,d1,d2,d3,d4,d5,f0,f1,f2,f3,f4,f5⟩) (fun hHeld=>?_);refine bC 0 ?_
    refine bC 1 ?_
    refine bC 2 ?_
    refine bC 3 ?_
    refine bC 4 ?_
    refine bC 5 ?_
    refine bC 6 ?_
    refine bC 7 ?_
    refine bC 8 ?_
    refine bC 9 ?_
    refine jg 10 fun K hK=>?_;go_simp;go_at_fn f;refine(bI.out _ (Below.qQ hb.out)).mono ?_;rintro r wb⟨rfl,db⟩;have eb:=Below.fJ db;clear db;refine hK.out _ _ (⟨ak d0 eb,ak d1 eb,ak d2 eb,ak d3 eb,ak d4 eb,ak d5 eb,ak f0 eb,ak f1 eb,ak f2 eb,ak f3 eb,ak f4 eb,ak f5 eb⟩) (fun hHeld=>?_);clear hK K;try simp only[cN]
    refine bC 11 ?_
    refine qW ?_;go_wp2_with fail
    go_roundw
    case rel=>exact⟨k+1,by omega,by go_num,(aZ hb eb),ae ⟨by rw[eZ,hno.out.1,HP.out];rfl,.inr hlt⟩⟩
    case measure=>simp[intOf];omega
   |false=>
    rw[hp]at bI;have dt:ag (R=false):=ae (by rw[←HR.out];exact fq aQ hp);clear hp;go_upto_region 4 with fail
    refine wp_region_held_drew (S:=(fun w'=>w'.cell? ⟨q,o+k*6,none⟩=some c0∧w'.cell? ⟨q,o+k*6+1,none⟩=some c1∧w'.cell? ⟨q,o+k*6+2,none⟩=some c2∧w'.cell? ⟨q,o+k*6+3,none⟩=some c3∧w'.cell? ⟨q,o+k*6+4,none⟩=some c4∧w'.cell? ⟨q,o+k*6+5,none⟩=some c5∧w'.cell? ⟨q,o+(k+1)*6,none⟩=some e0∧w'.cell? ⟨q,o+(k+1)*6+1,none⟩=some e1∧w'.cell? ⟨q,o+(k+1)*6+2,none⟩=some e2∧w'.cell? ⟨q,o+(k+1)*6+3,none⟩=some e3∧w'.cell? ⟨q,o+(k+1)*6+4,none⟩=some e4∧w'.cell? ⟨q,o+(k+1)*6+5,none⟩=some e5)) bo (⟨d0,d1,d2,d3,d4,d5,f0,f1,f2,f3,f4,f5⟩) (fun hHeld=>?_);refine bC 0 ?_
    refine bC 1 ?_
    refine bC 2 ?_
    refine bC 3 ?_
    refine bC 4 ?_
    refine bC 5 ?_
    refine bC 6 ?_
    refine bC 7 ?_
    refine bC 8 ?_
    refine bC 9 ?_
    refine jg 10 fun K hK=>?_;go_simp;go_at_fn f;refine(bI.out _ (Below.qQ hb.out)).mono ?_;rintro r wb⟨rfl,db⟩;have eb:=Below.fJ db;clear db;refine hK.out _ _ (⟨ak d0 eb,ak d1 eb,ak d2 eb,ak d3 eb,ak d4 eb,ak d5 eb,ak f0 eb,ak f1 eb,ak f2 eb,ak f3 eb,ak f4 eb,ak f5 eb⟩) (fun hHeld=>?_);clear hK K;try simp only[cN]
    refine bC 11 ?_
    refine qW ?_;go_wp2_with fail
    go_ret;exact⟨by rw[dt.out];rfl,after hb.out eb⟩
  ·have hge:¬(k:Int)+1<(N:Int):=by omega
   have ZV:ag (R=true):=ae (by rw[←HR.out,show N-1=k by have:=hno.out.2;omega];exact hno.out.1);go_wp2_with fail
   go_ret;exact⟨by rw[ZV.out];rfl,hb.out⟩
theorem Qq{w:World}(L:List Value)(hl:L.length=8)(g:Nat)(f:Nat)(lb:Array Value)(eg:∀args w,(callFunc f args).run ah w=.ok (.enter f args) w)(hg:w.cell? ⟨g,0,none⟩=some (.func (.func f) #[] lb))(b:Bool)(hf:∀W,aW w W→Calls ah f (#[.agg L.toArray]++lb) W (Got (.bool b) W)):Calls ah 130 #[.agg L.toArray,.pointer (some ⟨g,0,none⟩)] w (Got (.bool (!b)) w):=by
 obtain⟨c0,c1,c2,c3,c4,c5,c6,c7,hL⟩:∃c0 c1 c2 c3 c4 c5 c6 c7,L=[c0,c1,c2,c3,c4,c5,c6,c7]:=by
  match L,hl with
  |[c0,c1,c2,c3,c4,c5,c6,c7],_=>exact⟨c0,c1,c2,c3,c4,c5,c6,c7,rfl⟩
 subst hL;have HF:=ae hf;have hb:=boxed w (.cells #[c0,c1,c2,c3,c4,c5,c6,c7] 50);have HS:=ae (aG.new w 50 #[c0,c1,c2,c3,c4,c5,c6,c7]);have g0:=ak hg hb;have HB:=ae hb;clear hf hg hb hl;go_enter Tryz.func130,Tryz.ntmps130;go_upto_region 1 with fail
 generalize w.alloc (.cells #[c0,c1,c2,c3,c4,c5,c6,c7] 50)=w1 at HB HS g0⊢;generalize w.heap.size=G at HS⊢;obtain⟨s0,s1,s2,s3,s4,s5,s6,s7⟩:=dA HS;go_wp2_with(go_at_fn f;(with_reducible refine(HF.out _ HB.out).mono ?_);rintro r w2⟨rfl,e2⟩)
 go_ret;exact⟨rfl,after HB.out e2⟩
theorem Qr{w:World}{A:Option Addr}{N cap:Nat}(hN:N≤4000000)(cs:Nat→List Value)(p:Nat→Bool)(hc:dO w A N 8 cs)(f:Nat)(lb:Array Value)(eg:∀args w,(callFunc f args).run ah w=.ok (.enter f args) w)(hf:∀k,k<N→∀W,aW w W→Calls ah f (#[.agg (cs k).toArray]++lb) W (Got (.bool (p k)) W)):Calls ah 75 #[.slice A N cap,.func (.func f) #[] lb] w (Got (.bool ((aF N).all p)) w):=by
 have hco:=fun u(hu:aW w u)g(hg:u.cell? ⟨g,0,none⟩=some (.func (.func f) #[] lb))=>UJ (cap:=cap) hN cs (fun k=> !p k) (hc.below hu) 130 #[.pointer (some ⟨g,0,none⟩)] (enters_of Tryz.func130 bo rfl)
  fun k hk W hW=>Qq _ (hc k hk).1 g f lb eg (ak hg hW) (p k) fun W2 hW2=>hf k hk W2 (after hu (after hW hW2))
 rw[←si];generalize((aF N).any fun k=> !p k)=R at hco⊢;have UT:=ae hco;have hb:=boxed w (.cells #[.func (.func f) #[] lb] 107);obtain⟨HG,HB⟩:=aN (show(w.alloc (.cells #[.func (.func f) #[] lb] 107)).cell? ⟨w.heap.size,0,none⟩=some (.func (.func f) #[] lb)from(aG.new w 107 #[.func (.func f) #[] lb]).cell 0) hb;clear hco hc hf hb;go_enter Tryz.func75,Tryz.ntmps75;go_upto_region 1 with fail
 generalize w.alloc (.cells #[.func (.func f) #[] lb] 107)=w1 at HB HG⊢;generalize w.heap.size=G at HG⊢;go_wp2_with(go_at_call 129;refine(UT.out _ HB.out _ HG.out).mono ?_;rintro r w2⟨rfl,e2⟩)
 go_ret;exact⟨rfl,after HB.out e2⟩
theorem Qs{w:World}{A:Option Addr}{N cap:Nat}(hN:N≤4000000)(cs:Nat→List Value)(p:Nat→Bool)(hc:dO w A N 8 cs)(f:Nat)(lb:Array Value)(eg:∀args w,(callFunc f args).run ah w=.ok (.enter f args) w)(hf:∀k,k+1<N→∀W,aW w W→Calls ah f (#[.agg (cs k).toArray,.agg (cs (k+1)).toArray]++lb) W (Got (.bool (p k)) W)):Calls ah 121 #[.slice A N cap,.func (.func f) #[] lb] w (Got (.bool ((aF (N-1)).all p)) w):=by
 obtain⟨HC,HF⟩:=aN hc hf;clear hc hf;generalize hR:(aF (N-1)).all p=R;have HR:=ae hR;clear hR;go_enter Tryz.func121,Tryz.ntmps121;go_wp2_with fail
 go_loopw [5] (fun v5 wr=>∃k:Nat,k≤N∧v5=.int .i64 ((k:Int)+1)∧ag (aW w wr)∧ag ((aF k).all p=true∧(k=0∨k+1≤N))) (fun v5 _=>N-(intOf v5).toNat)
 case atStart=>exact⟨0,bh _,rfl,ae (aM _ _),ae ⟨rfl,.inl rfl⟩⟩
 case round=>
  obtain⟨k,hk,rfl,hb,hno⟩:=hrel;have hz:IntKind.i64.wrap (k:Int)=(k:Int):=IntWalk.i64_in _ aQ;by_cases hlt:k+1<N
  ·have hlt':(k:Int)+1<(N:Int):=by omega
   have hlt0:(k:Int)<(N:Int):=by omega
   have acL:(0:Int)≤(k:Int)+1:=by omega
   obtain⟨hlen,q,o,hA,hcell⟩:=HC.out k aQ;obtain⟨hlen1,q1,o1,hA1,hcell1⟩:=HC.out (k+1) hlt;subst hA;injection hA1 with hA1
   injection hA1 with eq eo _
   subst eq eo;have hcall:=fun u(hu:aW w u)=>HF.out k hlt u hu
   generalize hcs:cs k=L at hlen hcell hcall;generalize hcs1:cs (k+1)=M at hlen1 hcell1 hcall;clear hcs hcs1;obtain⟨c0,c1,c2,c3,c4,c5,c6,c7,hL⟩:∃c0 c1 c2 c3 c4 c5 c6 c7,L=[c0,c1,c2,c3,c4,c5,c6,c7]:=by
    match L,hlen with
    |[c0,c1,c2,c3,c4,c5,c6,c7],_=>exact⟨c0,c1,c2,c3,c4,c5,c6,c7,rfl⟩
   obtain⟨e0,e1,e2,e3,e4,e5,e6,e7,hM⟩:∃e0 e1 e2 e3 e4 e5 e6 e7,M=[e0,e1,e2,e3,e4,e5,e6,e7]:=by
    match M,hlen1 with
    |[e0,e1,e2,e3,e4,e5,e6,e7],_=>exact⟨e0,e1,e2,e3,e4,e5,e6,e7,rfl⟩
   subst hL hM;have d0:=(hb.out.cell (aj w _ (hcell 0 _ rfl))).trans (hcell 0 _ rfl);have d1:=(hb.out.cell (aj w _ (hcell 1 _ rfl))).trans (hcell 1 _ rfl);have d2:=(hb.out.cell (aj w _ (hcell 2 _ rfl))).trans (hcell 2 _ rfl);have d3:=(hb.out.cell (aj w _ (hcell 3 _ rfl))).trans (hcell 3 _ rfl);have d4:=(hb.out.cell (aj w _ (hcell 4 _ rfl))).trans (hcell 4 _ rfl);have d5:=(hb.out.cell (aj w _ (hcell 5 _ rfl))).trans (hcell 5 _ rfl);have d6:=(hb.out.cell (aj w _ (hcell 6 _ rfl))).trans (hcell 6 _ rfl);have d7:=(hb.out.cell (aj w _ (hcell 7 _ rfl))).trans (hcell 7 _ rfl);have f0:=(hb.out.cell (aj w _ (hcell1 0 _ rfl))).trans (hcell1 0 _ rfl);have f1:=(hb.out.cell (aj w _ (hcell1 1 _ rfl))).trans (hcell1 1 _ rfl);have f2:=(hb.out.cell (aj w _ (hcell1 2 _ rfl))).trans (hcell1 2 _ rfl);have f3:=(hb.out.cell (aj w _ (hcell1 3 _ rfl))).trans (hcell1 3 _ rfl);have f4:=(hb.out.cell (aj w _ (hcell1 4 _ rfl))).trans (hcell1 4 _ rfl);have f5:=(hb.out.cell (aj w _ (hcell1 5 _ rfl))).trans (hcell1 5 _ rfl);have f6:=(hb.out.cell (aj w _ (hcell1 6 _ rfl))).trans (hcell1 6 _ rfl);have f7:=(hb.out.cell (aj w _ (hcell1 7 _ rfl))).trans (hcell1 7 _ rfl);rw[b8]at d0 f0;have bI:=ae hcall;clear hcall hcell hlen hcell1 hlen1;cases hp:p k with
   |true=>
    rw[hp]at bI;have HP:=ae hp;clear hp;go_upto_region 4 with fail
    refine wp_region_held_drew (S:=(fun w'=>w'.cell? ⟨q,o+k*8,none⟩=some c0∧w'.cell? ⟨q,o+k*8+1,none⟩=some c1∧w'.cell? ⟨q,o+k*8+2,none⟩=some c2∧w'.cell? ⟨q,o+k*8+3,none⟩=some c3∧w'.cell? ⟨q,o+k*8+4,none⟩=some c4∧w'.cell? ⟨q,o+k*8+5,none⟩=some c5∧w'.cell? ⟨q,o+k*8+6,none⟩=some c6∧w'.cell? ⟨q,o+k*8+7,none⟩=some c7∧w'.cell? ⟨q,o+(k+1)*8,none⟩=some e0∧w'.cell? ⟨q,o+(k+1)*8+1,none⟩=some e1∧w'.cell? ⟨q,o+(k+1)*8+2,none⟩=some e2∧w'.cell? ⟨q,o+(k+1)*8+3,none⟩=some e3∧w'.cell? ⟨q,o+(k+1)*8+4,none⟩=some e4∧w'.cell? ⟨q,o+(k+1)*8+5,none⟩=some e5∧w'.cell? ⟨q,o+(k+1)*8+6,none⟩=some e6∧w'.cell? ⟨q,o+(k+1)*8+7,none⟩=some e7)) bo (⟨d0,d1,d2,d3,d4,d5,d6,d7,f0,f1,f2,f3,f4,f5,f6,f7⟩) (fun hHeld=>?_);refine bC 0 ?_
    refine bC 1 ?_
    refine bC 2 ?_
    refine bC 3 ?_
    refine bC 4 ?_
    refine bC 5 ?_
    refine bC 6 ?_
    refine bC 7 ?_
    refine bC 8 ?_
    refine bC 9 ?_
    refine jg 10 fun K hK=>?_;go_simp;go_at_fn f;refine(bI.out _ (Below.qQ hb.out)).mono ?_;rintro r wb⟨rfl,db⟩;have eb:=Below.fJ db;clear db;refine hK.out _ _ (⟨ak d0 eb,ak d1 eb,ak d2 eb,ak d3 eb,ak d4 eb,ak d5 eb,ak d6 eb,ak d7 eb,ak f0 eb,ak f1 eb,ak f2 eb,ak f3 eb,ak f4 eb,ak f5 eb,ak f6 eb,ak f7 eb⟩) (fun hHeld=>?_);clear hK K;try simp only[cN]
    refine bC 11 ?_
    refine qW ?_;go_wp2_with fail
    go_roundw
    case rel=>exact⟨k+1,by omega,by go_num,(aZ hb eb),ae ⟨by rw[eZ,hno.out.1,HP.out];rfl,.inr hlt⟩⟩
    case measure=>simp[intOf];omega
   |false=>
    rw[hp]at bI;have dt:ag (R=false):=ae (by rw[←HR.out];exact fq aQ hp);clear hp;go_upto_region 4 with fail
    refine wp_region_held_drew (S:=(fun w'=>w'.cell? ⟨q,o+k*8,none⟩=some c0∧w'.cell? ⟨q,o+k*8+1,none⟩=some c1∧w'.cell? ⟨q,o+k*8+2,none⟩=some c2∧w'.cell? ⟨q,o+k*8+3,none⟩=some c3∧w'.cell? ⟨q,o+k*8+4,none⟩=some c4∧w'.cell? ⟨q,o+k*8+5,none⟩=some c5∧w'.cell? ⟨q,o+k*8+6,none⟩=some c6∧w'.cell? ⟨q,o+k*8+7,none⟩=some c7∧w'.cell? ⟨q,o+(k+1)*8,none⟩=some e0∧w'.cell? ⟨q,o+(k+1)*8+1,none⟩=some e1∧w'.cell? ⟨q,o+(k+1)*8+2,none⟩=some e2∧w'.cell? ⟨q,o+(k+1)*8+3,none⟩=some e3∧w'.cell? ⟨q,o+(k+1)*8+4,none⟩=some e4∧w'.cell? ⟨q,o+(k+1)*8+5,none⟩=some e5∧w'.cell? ⟨q,o+(k+1)*8+6,none⟩=some e6∧w'.cell? ⟨q,o+(k+1)*8+7,none⟩=some e7)) bo (⟨d0,d1,d2,d3,d4,d5,d6,d7,f0,f1,f2,f3,f4,f5,f6,f7⟩) (fun hHeld=>?_);refine bC 0 ?_
    refine bC 1 ?_
    refine bC 2 ?_
    refine bC 3 ?_
    refine bC 4 ?_
    refine bC 5 ?_
    refine bC 6 ?_
    refine bC 7 ?_
    refine bC 8 ?_
    refine bC 9 ?_
    refine jg 10 fun K hK=>?_;go_simp;go_at_fn f;refine(bI.out _ (Below.qQ hb.out)).mono ?_;rintro r wb⟨rfl,db⟩;have eb:=Below.fJ db;clear db;refine hK.out _ _ (⟨ak d0 eb,ak d1 eb,ak d2 eb,ak d3 eb,ak d4 eb,ak d5 eb,ak d6 eb,ak d7 eb,ak f0 eb,ak f1 eb,ak f2 eb,ak f3 eb,ak f4 eb,ak f5 eb,ak f6 eb,ak f7 eb⟩) (fun hHeld=>?_);clear hK K;try simp only[cN]
    refine bC 11 ?_
    refine qW ?_;go_wp2_with fail
    go_ret;exact⟨by rw[dt.out];rfl,after hb.out eb⟩
  ·have hge:¬(k:Int)+1<(N:Int):=by omega
   have ZV:ag (R=true):=ae (by rw[←HR.out,show N-1=k by have:=hno.out.2;omega];exact hno.out.1);go_wp2_with fail
   go_ret;exact⟨by rw[ZV.out];rfl,hb.out⟩
structure Fits{α:Type}(p:Ps α)(f:α→List UInt8)(Q:α→Prop):Prop where
 back:∀x r,Q x→p (f x++r)=some (x,r)
 same:∀t x r,p t=some (x,r)→t=f x++r∧Q x
theorem tQ(l:List UInt8)(c:UInt8):qC (l++[c])=qC l*256+c.toNat:=by simp[qC]
theorem UZ:∀(n:Nat)(l:List UInt8),l.length=n→qC l<256^n:=by
 intro n
 induction n with
 |zero=>
  intro l hl;rw[bz hl];decide
 |succ n ih=>
  intro l hl;rcases List.eq_nil_or_concat l with rfl|⟨m,c,rfl⟩
  ·cases hl
  ·rw[List.concat_eq_append]at hl⊢;rw[ai]at hl;have h1:=ih m (by simpa using hl);have:=c.toNat_lt;rw[tQ,Nat.pow_succ];omega
theorem ZW(l:List UInt8):qC l<256^l.length:=UZ _ l rfl
theorem Gf(n x:Nat):fF (n+1) x=fF n (x/256)++[UInt8.ofNat (x%256)]:=by
 unfold fF;rw[List.range_succ,List.map_append];congr 1
 ·apply List.map_congr_left;intro j hj;have hj:=List.mem_range.1 hj;rw[show n+1-1-j=(n-1-j)+1 by omega,Nat.pow_succ,Nat.mul_comm (256^(n-1-j)) 256,Nat.div_div_eq_div_mul]
 ·simp
theorem acM:∀(n x:Nat),x<256^n→qC (fF n x)=x:=by
 intro n
 induction n with
 |zero=>
   intro x hx;rw[Nat.pow_zero]at hx;obtain rfl:x=0:=by omega
   rfl
 |succ n ih=>
  intro x hx;rw[Gf,tQ,ih (x/256) (by rw[Nat.pow_succ]at hx;omega)];have:(UInt8.ofNat (x%256)).toNat=x%256:=by
   rw[UInt8.toNat_ofNat'];omega
  rw[this];omega
theorem ZX:∀(n:Nat)(l:List UInt8),l.length=n→fF n (qC l)=l:=by
 intro n
 induction n with
 |zero=>
  intro l hl;rw[bz hl];rfl
 |succ n ih=>
  intro l hl;rcases List.eq_nil_or_concat l with rfl|⟨m,c,rfl⟩
  ·cases hl
  ·rw[List.concat_eq_append]at hl⊢;rw[ai]at hl;have hc:=c.toNat_lt;rw[tQ,Gf,show(qC m*256+c.toNat)/256=qC m by omega,show(qC m*256+c.toNat)%256=c.toNat by omega,ih m (by simpa using hl)];congr 1;simp
theorem acN(l:List UInt8):fF l.length (qC l)=l:=ZX _ l rfl
theorem AA(x r:List UInt8):kl x.length (x++r)=some (x,r):=by
 unfold kl;rw[if_pos (by simp)];simp
theorem take_same{n:Nat}{t x r:List UInt8}(h:kl n t=some (x,r)):t=x++r∧x.length=n:=by
 unfold kl at h;split at h
 ·next hn=>
  injection h with h
  injection h with h1 h2
  subst h1 h2;exact⟨(List.take_append_drop n t).symm,by rw[List.length_take];omega⟩
 ·cases h
theorem cL(n:Nat):Fits (lp n) (fF n) (fun x=>x<256^n)where
 back:=fun x r hx=>by
  unfold lp;have:=AA (fF n x) r;rw[aP]at this;rw[this];show some (qC (fF n x),r)=_;rw[acM n x hx]
 same:=fun t x r h=>by
  unfold lp at h;cases ht:kl n t with
  |none=>rw[ht]at h;cases h
  |some y=>
   obtain⟨y1,y2⟩:=y;rw[ht]at h;injection h with h
   injection h with h1 h2
   obtain⟨e1,e2⟩:=take_same ht;simp only at h1 h2;subst h1 h2;have hb:=acN y1;rw[e2]at hb;refine⟨by rw[hb];exact e1,?_⟩;have:=ZW y1;rw[e2]at this;exact this
theorem U0(l:List UInt8):(gJ l).data.toList=l:=rfl
theorem acO(s:ByteArray):gJ s.data.toList=s:=rfl
theorem U1(l:List UInt8):(gJ l).size=l.length:=rfl
theorem dT(s:ByteArray):s.data.toList.length=s.size:=by rw[eB];rfl
theorem gk(n:Nat):Fits (vJ n) (fun s:ByteArray=>s.data.toList) (fun s=>s.size=n)where
 back:=fun x r hx=>by
  unfold vJ;have:=AA x.data.toList r;rw[dT,hx]at this;rw[this];rfl
 same:=fun t x r h=>by
  unfold vJ at h;cases ht:kl n t with
  |none=>rw[ht]at h;cases h
  |some y=>
   obtain⟨y1,y2⟩:=y;rw[ht]at h;injection h with h
   injection h with h1 h2
   obtain⟨e1,e2⟩:=take_same ht;simp only at h1 h2;subst h1 h2;exact⟨e1,e2⟩
theorem bW{α β:Type}{p:Ps α}{f:α→List UInt8}{Q:α→Prop}(h:Fits p f Q){x:α}(hx:Q x)(g:α→Ps β)(r:List UInt8):cK p g (f x++r)=g x r:=by
 unfold cK;rw[h.back x r hx];rfl
theorem bX{α β:Type}{p:Ps α}{f:α→List UInt8}{Q:α→Prop}(h:Fits p f Q){g:α→Ps β}{t r:List UInt8}{y:β}(e:cK p g t=some (y,r)):∃x u,t=f x++u∧Q x∧g x u=some (y,r):=by
 unfold cK at e;cases hp:p t with
 |none=>rw[hp]at e;cases e
 |some z=>
  obtain⟨x,u⟩:=z;rw[hp]at e;obtain⟨e1,e2⟩:=h.same t x u hp;exact⟨x,u,e1,e2,e⟩
theorem gx{α:Type}{x y:α}{t r:List UInt8}(e:mR x t=some (y,r)):y=x∧t=r:=by
 injection e with e
 injection e with e1 e2
 exact⟨e1.symm,e2⟩
theorem km:Fits J6 oJ (fun s=>s.size≤32768)where
 back:=fun x r hx=>by
  unfold J6 oJ;rw[aO,bW (cL 2) (by show x.size<256^2;omega),if_neg aQ];exact(gk x.size).back x r rfl
 same:=fun t x r h=>by
  obtain⟨n,u,e1,hn,e2⟩:=bX (cL 2) h;split at e2
  ·cases e2
  ·next hl=>
   obtain⟨e3,e4⟩:=(gk n).same u x r e2;unfold oJ;rw[e1,e3,e4,aO];exact⟨rfl,by omega⟩
def zC(a:Ad):Prop:=(a.v6=false∧a.hi=0∧a.lo<4294967296)∨(a.v6=true∧a.hi<18446744073709551616∧a.lo<18446744073709551616)
theorem Gg(b:UInt8)(r:List UInt8):lp 1 (b::r)=some (b.toNat,r):=by
 unfold lp kl;rw[if_pos (by simp)];simp[qC]
theorem wm:Fits adP zh zC where
 back:=fun a r ha=>by
  obtain⟨v,h,l⟩:=a;rcases ha with⟨h1,h2,h3⟩|⟨h1,h2,h3⟩
  ·simp only at h1 h2 h3;subst h1 h2;show adP (fF 1 4++(fF 4 l++r))=_;unfold adP;rw[bW (cL 1) aH,if_pos rfl,bW (cL 4) (by show l<256^4;omega)];rfl
  ·simp only at h1 h2 h3;subst h1;unfold zh;simp only[if_true];rw[show(6::(fF 8 h++fF 8 l))++r=fF 1 6++(fF 8 h++(fF 8 l++r)) by rw[List.cons_append,aO];rfl];unfold adP;rw[bW (cL 1) aH,if_neg aH,if_pos rfl,bW (cL 8) (by show h<256^8;omega),bW (cL 8) (by show l<256^8;omega)];rfl
 same:=fun t a r h=>by
  obtain⟨k,u,e1,hk,e2⟩:=bX (cL 1) h;split at e2
  ·next h4=>
   obtain⟨l,u2,e3,hl,e4⟩:=bX (cL 4) e2;obtain⟨rfl,rfl⟩:=gx e4;subst h4;rw[e1,e3];exact⟨rfl,Or.inl ⟨rfl,rfl,by simpa using hl⟩⟩
  ·split at e2
   ·next h6=>
    obtain⟨hh,u2,e3,hl,e4⟩:=bX (cL 8) e2;obtain⟨l,u3,e5,hl2,e6⟩:=bX (cL 8) e4;obtain⟨rfl,rfl⟩:=gx e6;subst h6;rw[e1,e3,e5];refine⟨?_,Or.inr ⟨rfl,by simpa using hl,by simpa using hl2⟩⟩;show fF 1 6++(fF 8 hh++(fF 8 l++u3))=zh ⟨true,hh,l⟩++u3;unfold zh;simp only[if_true,List.cons_append,aO];rfl
   ·cases e2
theorem wn:Fits enP F7 (fun e=>zC e.1∧e.2<65536)where
 back:=fun e r he=>by
  unfold enP F7;rw[aO,bW wm he.1,bW (cL 2) (by have:=he.2;show e.2<256^2;omega)];rfl
 same:=fun t e r h=>by
  obtain⟨a,u,e1,ha,e2⟩:=bX wm h;obtain⟨p,u2,e3,hp,e4⟩:=bX (cL 2) e2;obtain⟨rfl,rfl⟩:=gx e4;unfold F7;rw[e1,e3,aO];exact⟨rfl,ha,by simpa using hp⟩
theorem Qu{α:Type}{p:Ps α}{f:α→List UInt8}{Q:α→Prop}(h:Fits p f Q):∀(l:List α)(r:List UInt8),(∀x∈l,Q x)→xX p l.length (l.flatMap f++r)=some (l,r):=by
 intro l
 induction l with
 |nil=>intro r _;rfl
 |cons x m ih=>
  intro r hl;rw[abe,aO,bO,xX,bW h (hl x (cP ..))];unfold cK;rw[ih r (fun y hy=>hl y (cz x hy))];rfl
theorem Qv{α:Type}{p:Ps α}{f:α→List UInt8}{Q:α→Prop}(h:Fits p f Q):∀(n:Nat)(t r:List UInt8)(l:List α),xX p n t=some (l,r)→t=l.flatMap f++r∧l.length=n∧∀x∈l,Q x:=by
 intro n
 induction n with
 |zero=>
  intro t r l e;obtain⟨rfl,rfl⟩:=gx e;exact⟨rfl,rfl,fun x hx=>by cases hx⟩
 |succ n ih=>
  intro t r l e;obtain⟨x,u,e1,hx,e2⟩:=bX h e;unfold cK at e2;cases hm:xX p n u with
  |none=>rw[hm]at e2;cases e2
  |some z=>
   obtain⟨m,u2⟩:=z;rw[hm]at e2;obtain⟨rfl,rfl⟩:=gx e2;obtain⟨i1,i2,i3⟩:=ih u u2 m hm;refine⟨by rw[e1,i1,abe,aO],by rw[bO,i2],fun y hy=>?_⟩;rcases List.mem_cons.1 hy with rfl|hy
   ·exact hx
   ·exact i3 y hy
theorem dU{α:Type}{p:Ps α}{f:α→List UInt8}{Q:α→Prop}(h:Fits p f Q):Fits (pF p) (bT f) (fun l=>l.length<65536∧∀x∈l,Q x)where
 back:=fun l r hl=>by
  unfold pF bT;rw[aO,bW (cL 2) (by have:=hl.1;show l.length<256^2;omega)];exact Qu h l r hl.2
 same:=fun t l r e=>by
  obtain⟨n,u,e1,hn,e2⟩:=bX (cL 2) e;obtain⟨i1,i2,i3⟩:=Qv h n u r l e2;unfold bT;rw[e1,i1,aO,i2];exact⟨rfl,by simpa using hn,i3⟩
structure Ko(p:Pr):Prop where
 key:p.key.size=32
 bw:p.bw.size=32
 user:p.user.size≤32768
 tags:p.tags.length<65536∧∀x∈p.tags,x.size≤32768
 aR:p.aR.length<65536∧∀x∈p.aR,zC x
 exp:p.exp<256^8
 bm:p.bm<256^1
 ends:p.ends.length<65536∧∀x∈p.ends,zC x.1∧x.2<65536
theorem wt:Fits prP qB Ko where
 back:=fun p r h=>by
  unfold prP qB;simp only[aO];rw[bW (gk 32) h.key,bW (gk 32) h.bw,bW km h.user,bW (dU km) h.tags,bW (dU wm) h.aR,bW (cL 8) h.exp,bW (cL 1) h.bm,bW (dU wn) h.ends];rfl
 same:=fun t p r e=>by
  obtain⟨k,u1,t1,h1,e⟩:=bX (gk 32) e;obtain⟨d,u2,t2,h2,e⟩:=bX (gk 32) e;obtain⟨us,u3,t3,h3,e⟩:=bX km e;obtain⟨ts,u4,t4,h4,e⟩:=bX (dU km) e;obtain⟨ads,u5,t5,h5,e⟩:=bX (dU wm) e;obtain⟨ex,u6,t6,h6,e⟩:=bX (cL 8) e;obtain⟨rl,u7,t7,h7,e⟩:=bX (cL 1) e;obtain⟨es,u8,t8,h8,e⟩:=bX (dU wn) e;obtain⟨rfl,rfl⟩:=gx e;unfold qB;rw[t1,t2,t3,t4,t5,t6,t7,t8];simp only[aO];exact⟨trivial,h1,h2,h3,h4,h5,h6,h7,h8⟩
structure Kp(r:Ry):Prop where
 id:r.id<256^1
 key:r.key.size=32
 fin:zC r.fin.1∧r.fin.2<65536
theorem wu:Fits ryP qR Kp where
 back:=fun p r h=>by
  unfold ryP qR;simp only[aO];rw[bW (cL 1) h.id,bW (gk 32) h.key,bW wn h.fin];rfl
 same:=fun t p r e=>by
  obtain⟨k,u1,t1,h1,e⟩:=bX (cL 1) e;obtain⟨d,u2,t2,h2,e⟩:=bX (gk 32) e;obtain⟨us,u3,t3,h3,e⟩:=bX wn e;obtain⟨rfl,rfl⟩:=gx e;unfold qR;rw[t1,t2,t3];simp only[aO];exact⟨trivial,h1,h2,h3⟩
structure Qw(m:Mp):Prop where
 version:m.version<256^8
 aK:m.aK.length<65536∧∀x∈m.aK,Ko x
 ax:m.ax.length<65536∧∀x∈m.ax,Kp x
 policy:m.policy.size≤32768
theorem CY:Fits mpP uU Qw where
 back:=fun p r h=>by
  unfold mpP uU;simp only[aO];rw[bW (cL 8) h.version,bW (dU wt) h.aK,bW (dU wu) h.ax,bW km h.policy];rfl
 same:=fun t p r e=>by
  obtain⟨k,u1,t1,h1,e⟩:=bX (cL 8) e;obtain⟨d,u2,t2,h2,e⟩:=bX (dU wt) e;obtain⟨us,u3,t3,h3,e⟩:=bX (dU wu) e;obtain⟨ps,u4,t4,h4,e⟩:=bX km e;obtain⟨rfl,rfl⟩:=gx e;unfold uU;rw[t1,t2,t3,t4];simp only[aO];exact⟨trivial,h1,h2,h3,h4⟩
theorem Kq(r:List UInt8):mS (0::r)=some (false,r):=by
 unfold mS cK;rw[Gg];rfl
theorem Qx(r:List UInt8):mS (1::r)=some (true,r):=by
 unfold mS cK;rw[Gg];rfl
theorem Qy{t r:List UInt8}{b:Bool}(h:mS t=some (b,r)):t=(if b then 1 else 0)::r:=by
 obtain⟨k,u,e1,hk,e2⟩:=bX (cL 1) h;split at e2
 ·cases e2
 ·next hl=>
  obtain⟨rfl,rfl⟩:=gx e2;rw[e1];have:k=0∨k=1:=by omega
  rcases this with rfl|rfl<;>rfl
theorem Gh{α:Type}{p:Ps α}{f:α→List UInt8}{Q:α→Prop}(h:Fits p f Q){β:Type}{b:Bool}{x z:α}(hx:b=true→Q x)(hz:b=false→x=z)(g:Bool→α→Ps β)(r:List UInt8):cK mS (fun c=>cK (F8 c z p) (g c)) (iG b (f x)++r)=g b x r:=by
 cases b with
 |false=>
  unfold iG cK;simp only[Bool.false_eq_true,if_false,List.cons_append,List.nil_append];rw[Kq,hz rfl];rfl
 |true=>
  unfold iG;simp only[if_true,List.cons_append]
  conv=>lhs;unfold cK
  rw[Qx];show cK p (g true) (f x++r)=_;rw[bW h (hx rfl)]
theorem Gi{α:Type}{p:Ps α}{f:α→List UInt8}{Q:α→Prop}(h:Fits p f Q){β:Type}{z:α}{g:Bool→α→Ps β}{t r:List UInt8}{y:β}(e:cK mS (fun c=>cK (F8 c z p) (g c)) t=some (y,r)):∃b x u,t=iG b (f x)++u∧(b=true→Q x)∧(b=false→x=z)∧g b x u=some (y,r):=by
 unfold cK at e;cases hf:mS t with
 |none=>rw[hf]at e;cases e
 |some w=>
  obtain⟨b,u⟩:=w;rw[hf]at e;have ht:=Qy hf;cases b with
  |false=>
   refine⟨false,z,u,by rw[ht];rfl,fun h=>(by cases h),fun _=>rfl,?_⟩;exact e
  |true=>
   have e':cK p (g true) u=some (y,r):=e;obtain⟨x,u2,e1,hx,e2⟩:=bX h e';exact⟨true,x,u2,by rw[ht,e1];rfl,fun _=>hx,fun h=>(by cases h),e2⟩
structure Qz(d:Dl):Prop where
 base:d.base<256^8
 version:d.version<256^8
 aL:d.aL.length<65536∧∀x∈d.aL,Ko x
 gone:d.gone.length<65536∧∀x∈d.gone,x.size=32
 ax:d.cS=true→d.ax.length<65536∧∀x∈d.ax,Kp x
 Gj:d.cS=false→d.ax=[]
 policy:d.cX=true→d.policy.size≤32768
 Gk:d.cX=false→d.policy=⟨#[]⟩
 hash:d.hash.size=32
theorem CZ:Fits dlP Az Qz where
 back:=fun d r h=>by
  unfold dlP Az;simp only[aO];rw[bW (cL 8) h.base,bW (cL 8) h.version,bW (dU wt) h.aL,bW (dU (gk 32)) h.gone];rw[Gh (dU wu) h.ax h.Gj];rw[Gh km h.policy h.Gk];rw[bW (gk 32) h.hash];rfl
 same:=fun t d r e=>by
  obtain⟨b,u1,t1,h1,e⟩:=bX (cL 8) e;obtain⟨v,u2,t2,h2,e⟩:=bX (cL 8) e;obtain⟨st,u3,t3,h3,e⟩:=bX (dU wt) e;obtain⟨g,u4,t4,h4,e⟩:=bX (dU (gk 32)) e;obtain⟨b5,rs,u5,t5,h5,h5',e⟩:=Gi (dU wu) e;obtain⟨b6,ps,u6,t6,h6,h6',e⟩:=Gi km e;obtain⟨hs,u7,t7,h7,e⟩:=bX (gk 32) e;obtain⟨rfl,rfl⟩:=gx e;unfold Az;rw[t1,t2,t3,t4,t5,t6,t7];simp only[aO];exact⟨trivial,h1,h2,h3,h4,h5,h5',h6,h6',h7⟩
theorem xY{α:Type}{p:Ps α}{f:α→List UInt8}{Q:α→Prop}(h:Fits p f Q){x:α}(hx:Q x)(hl:(f x).length≤32768):eD p (f x)=some x:=by
 unfold eD;rw[if_neg aQ];have:=h.back x [] hx;rw[dP]at this;rw[this]
theorem xZ{α:Type}{p:Ps α}{f:α→List UInt8}{Q:α→Prop}(h:Fits p f Q){s:List UInt8}{x:α}(e:eD p s=some x):s=f x∧Q x∧s.length≤32768:=by
 unfold eD at e;split at e
 ·cases e
 ·next hl=>
  split at e
  ·next y hy=>
   injection e with e
   subst e;obtain⟨e1,e2⟩:=h.same s y [] hy;rw[dP]at e1;exact⟨e1,e2,by omega⟩
  ·cases e
theorem jw{may:Bool}{b:List UInt8}(h:(encR may b).2=0):may=true∧b.length≤32768∧encR may b=(gJ b,0):=by
 unfold encR at h⊢;cases may with
 |false=>simp at h
 |true=>
  simp only[Bool.true_eq_false,if_false]at h⊢;split at h
  ·simp at h
  ·next hl=>exact⟨trivial,by omega,by rw[if_neg hl]⟩
theorem Nk{m:Mp}(ok:Qw m)(h:(cT m).2=0):mT (cT m).1=(m,0):=by
 obtain⟨h1,h2,h3⟩:=jw h;have e:cT m=(gJ (uU m),0):=h3;unfold mT;rw[e];simp only[U0];rw[xY CY ok h2];simp only;rw[if_pos h]
theorem ZY{s:ByteArray}{m:Mp}(h:mT s=(m,0)):cT m=(s,0)∧Qw m:=by
 unfold mT at h;split at h
 ·injection h with _ h;cases h
 ·next x hx=>
  split at h
  ·next h0=>
   injection h with h
   subst h;obtain⟨e1,e2,e3⟩:=xZ CY hx;obtain⟨_,_,h3⟩:=jw h0;refine⟨?_,e2⟩;have:cT x=(gJ (uU x),0):=h3;rw[this,←e1];rfl
  ·next h0=>injection h with _ h;exact absurd h h0
theorem ZZ{m:Dl}(ok:Qz m)(h:(lO m).2=0):oK (lO m).1=(m,0):=by
 obtain⟨h1,h2,h3⟩:=jw h;have e:lO m=(gJ (Az m),0):=h3;unfold oK;rw[e];simp only[U0];rw[xY CZ ok h2];simp only;rw[if_pos h]
theorem Z1{s:ByteArray}{m:Dl}(h:oK s=(m,0)):lO m=(s,0)∧Qz m:=by
 unfold oK at h;split at h
 ·injection h with _ h;cases h
 ·next x hx=>
  split at h
  ·next h0=>
   injection h with h
   subst h;obtain⟨e1,e2,e3⟩:=xZ CZ hx;obtain⟨_,_,h3⟩:=jw h0;refine⟨?_,e2⟩;have:lO x=(gJ (Az x),0):=h3;rw[this,←e1];rfl
  ·next h0=>injection h with _ h;exact absurd h h0
theorem QA:∀a:List UInt8,Op.bytesLess a a=false:=by
 intro a
 induction a with
 |nil=>rfl
 |cons x r ih=>
  unfold Op.bytesLess;rw[ih];simp
theorem C0(x y:UInt8)(a b:List UInt8):Op.bytesLess (x::a) (y::b)=true↔x<y∨(x=y∧Op.bytesLess a b=true):=by
 conv=>lhs;unfold Op.bytesLess
 simp
theorem U2:∀a b c:List UInt8,Op.bytesLess a b=true→Op.bytesLess b c=true→Op.bytesLess a c=true:=by
 intro a
 induction a with
 |nil=>
  intro b c h1 h2;cases c with
  |nil=>cases b<;>simp[Op.bytesLess]at h2
  |cons z c=>rfl
 |cons x a ih=>
  intro b c h1 h2;cases b with
  |nil=>simp[Op.bytesLess]at h1
  |cons y b=>
   cases c with
   |nil=>simp[Op.bytesLess]at h2
   |cons z c=>
    rw[C0]at h1 h2⊢;rcases h1 with h1|⟨rfl,h1⟩
    ·rcases h2 with h2|⟨rfl,h2⟩
     ·exact Or.inl (UInt8.lt_trans h1 h2)
     ·exact Or.inl h1
    ·rcases h2 with h2|⟨rfl,h2⟩
     ·exact Or.inl h2
     ·exact Or.inr ⟨rfl,ih b c h1 h2⟩
theorem U3:∀a b:List UInt8,a=b∨Op.bytesLess a b=true∨Op.bytesLess b a=true:=by
 intro a
 induction a with
 |nil=>intro b;cases b with
  |nil=>exact Or.inl rfl
  |cons y b=>exact Or.inr (Or.inl rfl)
 |cons x a ih=>
  intro b;cases b with
  |nil=>exact Or.inr (Or.inr rfl)
  |cons y b=>
   rw[C0,C0];by_cases hxy:x<y
   ·exact Or.inr (Or.inl (Or.inl hxy))
   ·by_cases hyx:y<x
    ·exact Or.inr (Or.inr (Or.inl hyx))
    ·have e:x=y:=UInt8.le_antisymm (UInt8.not_lt.1 hyx) (UInt8.not_lt.1 hxy);subst e;rcases ih b with rfl|h|h
     ·exact Or.inl rfl
     ·exact Or.inr (Or.inl (Or.inr ⟨rfl,h⟩))
     ·exact Or.inr (Or.inr (Or.inr ⟨rfl,h⟩))
theorem jQ(a:ByteArray):sg a a=false:=QA _
theorem mU{a b c:ByteArray}(h1:sg a b=true)(h2:sg b c=true):sg a c=true:=U2 _ _ _ h1 h2
theorem toList_inj{a b:ByteArray}(h:a.toList=b.toList):a=b:=by
 rw[cC,cC]at h;obtain⟨⟨a⟩⟩:=a;obtain⟨⟨b⟩⟩:=b;simp only at h;rw[h]
theorem tR(a b:ByteArray):a=b∨sg a b=true∨sg b a=true:=by
 rcases U3 a.toList b.toList with h|h|h
 ·exact Or.inl (toList_inj h)
 ·exact Or.inr (Or.inl h)
 ·exact Or.inr (Or.inr h)
theorem QB{a b:ByteArray}(h:sg a b=true):sg b a=false:=by
 cases h2:sg b a with
 |false=>rfl
 |true=>have:=mU h h2;rw[jQ]at this;cases this
theorem x9{α:Type}(lt:α→α→Bool)(htr:∀a b c,lt a b=true→lt b c=true→lt a c=true):∀l:List α,cV lt l=true↔l.Pairwise fun x y=>lt x y=true:=by
 intro l
 induction l with
 |nil=>exact⟨fun _=>List.Pairwise.nil,fun _=>rfl⟩
 |cons x r ih=>
  cases r with
  |nil=>exact⟨fun _=>List.pairwise_singleton _ _,fun _=>rfl⟩
  |cons y r=>
   constructor
   ·intro h;rw[cV,aX]at h;have h2:=ih.1 h.2;refine List.pairwise_cons.2 ⟨fun z hz=>?_,h2⟩;rcases List.mem_cons.1 hz with rfl|hz
    ·exact h.1
    ·exact htr _ _ _ h.1 ((List.pairwise_cons.1 h2).1 z hz)
   ·intro h;obtain⟨h1,h2⟩:=List.pairwise_cons.1 h;rw[cV,aX];exact⟨h1 y (cP ..),ih.2 h2⟩
theorem Nl(a b c:Pr)(h1:eY a b=true)(h2:eY b c=true):eY a c=true:=mU h1 h2
theorem uW{l:List Pr}:cV eY l=true↔l.Pairwise fun x y=>eY x y=true:=x9 eY Nl l
theorem AB:∀(l m:List Pr),l.Pairwise (fun x y=>eY x y=true)→m.Pairwise (fun x y=>eY x y=true)→(∀x,x∈l↔x∈m)→l=m:=by
 intro l
 induction l with
 |nil=>
  intro m _ _ h;cases m with
  |nil=>rfl
  |cons y m=>have:=(h y).2 (cP ..);cases this
 |cons x l ih=>
  intro m hl hm h;cases m with
  |nil=>have:=(h x).1 (cP ..);cases this
  |cons y m=>
   obtain⟨hx,hl'⟩:=List.pairwise_cons.1 hl;obtain⟨hy,hm'⟩:=List.pairwise_cons.1 hm;clear hl hm;have e:x=y:=by
    rcases List.mem_cons.1 ((h x).1 (cP ..))with e|h1
    ·exact e
    ·rcases List.mem_cons.1 ((h y).2 (cP ..))with e|h2
     ·exact e.symm
     ·have h3:=hy x h1;have h4:=hx y h2;have:=QB h3;have h5:eY x y=false:=this;rw[h4]at h5;cases h5
   subst e;rw[ih m hl' hm' fun z=>?_];constructor
   ·intro hz;rcases List.mem_cons.1 ((h z).1 (cz x hz))with e|h1
    ·subst e;have:=hx z hz;have e2:eY z z=false:=jQ _;rw[e2]at this;cases this
    ·exact h1
   ·intro hz;rcases List.mem_cons.1 ((h z).2 (cz x hz))with e|h1
    ·subst e;have:=hy z hz;have e2:eY z z=false:=jQ _;rw[e2]at this;cases this
    ·exact h1
theorem Nn{l:List Pr}(h:l.Pairwise fun x y=>eY x y=true):∀{x y:Pr},x∈l→y∈l→x.key=y.key→x=y:=by
 induction l with
 |nil=>intro x y hx;cases hx
 |cons z l ih=>
  intro x y hx hy e;obtain⟨hz,hl⟩:=List.pairwise_cons.1 h;have irr:∀u∈l,u.key≠z.key:=fun u hu e=>by
   have h1:sg z.key u.key=true:=hz u hu;rw[e,jQ]at h1;cases h1
  rcases List.mem_cons.1 hx with e1|hx1
  ·rcases List.mem_cons.1 hy with e2|hy1
   ·rw[e1,e2]
   ·rw[e1]at e;exact absurd e.symm (irr y hy1)
  ·rcases List.mem_cons.1 hy with e2|hy1
   ·rw[e2]at e;exact absurd e (irr x hx1)
   ·exact ih hl hx1 hy1 e
theorem sj{l:List Pr}{k:ByteArray}{p:Pr}(h:ox l k=some p):p∈l∧p.key=k:=by
 unfold ox at h;exact⟨List.mem_of_find?_eq_some h,by simpa using List.find?_some h⟩
theorem wy{l:List Pr}{k:ByteArray}(h:ox l k=none):∀p∈l,p.key≠k:=by
 intro p hp e;unfold ox at h;have:=List.find?_eq_none.1 h p hp;simp[e]at this
theorem at_mem{l:List Pr}{p:Pr}(hp:p∈l):(ox l p.key).isSome=true:=by
 cases h:ox l p.key with
 |some q=>rfl
 |none=>exact absurd rfl (wy h p hp)
def jJ(a:List Pr)(p:Pr):Bool:=match ox a p.key with
 |none=>true
 |some q=>decide (q≠p)
def dX(H:Mp→ByteArray)(a b:Mp):Dl:=⟨a.version,b.version,b.aK.filter (jJ a.aK),(a.aK.filter fun p=>(ox b.aK p.key).isNone).map (·.key),decide (a.ax≠b.ax),if a.ax≠b.ax then b.ax else [],decide (a.policy≠b.policy),if a.policy≠b.policy then b.policy else⟨#[]⟩,H b⟩
def mV(H:Mp→ByteArray)(a b:Mp):Dl×Nat:=if(cT a).2≠0 then(Dl.zero,(cT a).2)else if(cT b).2≠0 then(Dl.zero,(cT b).2)else if b.version≤a.version then(Dl.zero,2)else(dX H a b,0)
def Kr(p:Pr):List Pr→List Pr
 |[]=>[p]
 |q::r=>if eY p q then p::q::r else q::Kr p r
def sortK(l:List Pr):List Pr:=l.foldr Kr []
def stays(d:Dl)(p:Pr):Bool:= !(d.gone.any fun k=>decide (k=p.key))&&(ox d.aL p.key).isNone
def dH(m:Mp)(d:Dl):Mp:=⟨d.version,sortK (m.aK.filter (stays d)++d.aL),if d.cS then d.ax else m.ax,if d.cX then d.policy else m.policy⟩
def jy(H:Mp→ByteArray)(m:Mp)(d:Dl):Mp×Nat:=if(cT m).2≠0 then(Mp.zero,(cT m).2)else if jc d=false then(Mp.zero,220)else if m.version≠d.base then(Mp.zero,223)else if(d.gone.all fun k=>(ox m.aK k).isSome)=false then(Mp.zero,220)
 else if(cT (dH m d)).2≠0 then(Mp.zero,(cT (dH m d)).2)else if H (dH m d)≠d.hash then(Mp.zero,224)else(dH m d,0)
theorem Gl(p:Pr):∀(l:List Pr)(x:Pr),x∈Kr p l↔x=p∨x∈l:=by
 intro l
 induction l with
 |nil=>intro x;unfold Kr;simp
 |cons q r ih=>
  intro x;unfold Kr;split
  ·exact List.mem_cons
  ·rw[List.mem_cons,ih,List.mem_cons];constructor
   ·rintro(h|h|h)
    ·exact Or.inr (Or.inl h)
    ·exact Or.inl h
    ·exact Or.inr (Or.inr h)
   ·rintro(h|h|h)
    ·exact Or.inr (Or.inl h)
    ·exact Or.inl h
    ·exact Or.inr (Or.inr h)
theorem qh(l:List Pr)(x:Pr):x∈sortK l↔x∈l:=by
 unfold sortK
 induction l with
 |nil=>exact Iff.rfl
 |cons p r ih=>rw[List.foldr_cons,Gl,ih,List.mem_cons]
theorem Gm(p:Pr):∀(l:List Pr),l.Pairwise (fun x y=>eY x y=true)→(∀q∈l,q.key≠p.key)→(Kr p l).Pairwise (fun x y=>eY x y=true):=by
 intro l
 induction l with
 |nil=>intro _ _;exact List.pairwise_singleton _ _
 |cons q r ih=>
  intro h hne;obtain⟨hq,hr⟩:=List.pairwise_cons.1 h;unfold Kr;split
  ·next hlt=>
   refine List.pairwise_cons.2 ⟨fun z hz=>?_,h⟩;rcases List.mem_cons.1 hz with rfl|hz
   ·exact hlt
   ·exact Nl _ _ _ hlt (hq z hz)
  ·next hlt=>
   refine List.pairwise_cons.2 ⟨fun z hz=>?_,ih hr fun u hu=>hne u (cz q hu)⟩;rcases(Gl p r z).1 hz with rfl|hz
   ·rcases tR z.key q.key with e|h1|h1
    ·exact absurd e.symm (hne q (cP ..))
    ·exact absurd h1 hlt
    ·exact h1
   ·exact hq z hz
theorem sq{l:List Pr}(h:l.Pairwise fun x y=>x.key≠y.key):(sortK l).Pairwise (fun x y=>eY x y=true):=by
 unfold sortK
 induction l with
 |nil=>exact List.Pairwise.nil
 |cons p r ih=>
  obtain⟨hp,hr⟩:=List.pairwise_cons.1 h;rw[List.foldr_cons];refine Gm p _ (ih hr) fun q hq=>?_
  have:q∈r:=(qh r q).1 hq;exact(hp q this).symm
theorem Z2{l S:List Pr}(hd:l.Pairwise fun x y=>x.key≠y.key)(hp:S.Perm l)(hs:S.Pairwise fun x y=>eY y x=false):S=sortK l:=by
 refine AB _ _ ?_ (sq hd) fun x=>by rw[qh,hp.mem_iff]
 have hS:S.Pairwise fun x y=>x.key≠y.key:=(hp.pairwise_iff (fun{x y}h=>Ne.symm h)).2 hd
 have:=List.Pairwise.and hS hs;refine this.imp fun{x y}h=>?_
 rcases tR x.key y.key with e|h1|h1
 ·exact absurd e h.1
 ·exact h1
 ·have:eY y x=true:=h1;rw[h.2]at this;cases this
theorem nR{m:Mp}(h:(cT m).2=0):jv m=true:=(jw h).1
theorem jR{m:Mp}(h:jv m=true):1≤m.version∧jt m.aK=true∧ju m.ax=true∧lW m.policy=true:=by
 unfold jv at h;simp only[aX,decide_eq_true_eq]at h;exact⟨h.1.1.1.1,h.1.1.1.2,h.1.1.2,h.1.2⟩
theorem jz{l:List Pr}(h:jt l=true):l.Pairwise (fun x y=>eY x y=true)∧l.length≤64∧∀p∈l,mQ p=true:=by
 unfold jt at h;simp only[aX,decide_eq_true_eq]at h;exact⟨uW.1 h.2,h.1.1,fun p hp=>List.all_eq_true.1 h.1.2 p hp⟩
theorem QC:lW ⟨#[]⟩=true:=by decide+kernel
theorem distinct_keys{a:Mp}{d:Dl}(h1:a.aK.Pairwise fun x y=>eY x y=true)(h2:d.aL.Pairwise fun x y=>eY x y=true):(a.aK.filter (stays d)++d.aL).Pairwise fun x y=>x.key≠y.key:=by
 have ne:∀{x y:Pr},eY x y=true→x.key≠y.key:=fun{x y}h e=>by
  have h':sg x.key y.key=true:=h;rw[e,jQ]at h';cases h'
 refine List.pairwise_append.2 ⟨(h1.filter _).imp fun h=>ne h,h2.imp fun h=>ne h,fun x hx y hy e=>?_⟩;have hs:=(List.mem_filter.1 hx).2;unfold stays at hs;simp only[aX]at hs;have:=wy (by simpa using hs.2:ox d.aL x.key=none) y hy;exact this e.symm
theorem Ks{H:Mp→ByteArray}{a b:Mp}(ha:a.aK.Pairwise fun x y=>eY x y=true)(hb:b.aK.Pairwise fun x y=>eY x y=true):sortK (a.aK.filter (stays (dX H a b))++(dX H a b).aL)=b.aK:=by
 have hset:(dX H a b).aL.Pairwise fun x y=>eY x y=true:=hb.filter _
 refine AB _ _ (sq (distinct_keys ha hset)) hb fun x=>?_
 rw[qh,List.mem_append];constructor
 ·rintro(hx|hx)
  ·obtain⟨hxa,hst⟩:=List.mem_filter.1 hx;unfold stays at hst;simp only[aX]at hst;obtain⟨h1,h2⟩:=hst;have hin:(ox b.aK x.key).isSome=true:=by
    cases hn:ox b.aK x.key with
    |some q=>rfl
    |none=>
     have:x.key∈(dX H a b).gone:=List.mem_map.2 ⟨x,List.mem_filter.2 ⟨hxa,by rw[hn];rfl⟩,rfl⟩;have h3:((dX H a b).gone.any fun k=>decide (k=x.key))=true:=List.any_eq_true.2 ⟨x.key,this,by simp⟩;rw[h3]at h1;cases h1
   obtain⟨q,hq⟩:=Option.isSome_iff_exists.1 hin;obtain⟨hqb,hqk⟩:=sj hq;have hnew:jJ a.aK q=false:=by
    cases hn:jJ a.aK q with
    |false=>rfl
    |true=>
     have:q∈(dX H a b).aL:=List.mem_filter.2 ⟨hqb,hn⟩;exact absurd hqk (wy (by simpa using h2:ox (dX H a b).aL x.key=none) q this)
   unfold jJ at hnew;split at hnew
   ·cases hnew
   ·next r hr=>
    obtain⟨hra,hrk⟩:=sj hr;have:r=q:=by simpa using hnew
    subst this;have:=Nn ha hra hxa (by rw[hrk,hqk]);rw[←this];exact hqb
  ·exact(List.mem_filter.1 hx).1
 ·intro hx;cases hn:jJ a.aK x with
  |true=>exact Or.inr (List.mem_filter.2 ⟨hx,hn⟩)
  |false=>
   refine Or.inl ?_;have hxa:x∈a.aK:=by
    have hn':=hn;unfold jJ at hn';split at hn'
    ·cases hn'
    ·next r hr=>
     have:r=x:=by simpa using hn'
     rw[←this];exact(sj hr).1
   refine List.mem_filter.2 ⟨hxa,?_⟩;unfold stays;rw[aX];refine⟨?_,?_⟩
   ·rw[Bool.not_eq_true',List.any_eq_false];intro k hk e;obtain⟨y,hy,rfl⟩:=List.mem_map.1 hk;have h1:=(List.mem_filter.1 hy).2;have h2:=at_mem hx;have e':y.key=x.key:=by simpa using e
    rw[←e']at h2;rw[Option.isNone_iff_eq_none]at h1;rw[h1]at h2;cases h2
   ·rw[Option.isNone_iff_eq_none];cases hs:ox (dX H a b).aL x.key with
    |none=>rfl
    |some q=>
     obtain⟨hq,hqk⟩:=sj hs;obtain⟨hqb,hqn⟩:=List.mem_filter.1 hq;have:=Nn hb hqb hx hqk;subst this;rw[hn]at hqn;cases hqn
theorem ya{H:Mp→ByteArray}{a b:Mp}(ha:jv a=true)(hb:jv b=true):dH a (dX H a b)=b:=by
 obtain⟨_,a2,_,_⟩:=jR ha;obtain⟨_,b2,_,_⟩:=jR hb;unfold dH;rw[Ks (jz a2).1 (jz b2).1];obtain⟨av,ap,ar,at_⟩:=a;obtain⟨bv,bp,br,bt⟩:=b;unfold dX;simp only[decide_eq_true_eq];congr 1
 ·by_cases h:ar=br
  ·simp[h]
  ·simp[h]
 ·by_cases h:at_=bt
  ·simp[h]
  ·simp[h]
theorem U4{H:Mp→ByteArray}{a b:Mp}(ha:jv a=true)(hb:jv b=true)(hv:a.version<b.version)(hH:(H b).size=32):jc (dX H a b)=true:=by
 obtain⟨a1,a2,a3,a4⟩:=jR ha;obtain⟨b1,b2,b3,b4⟩:=jR hb;obtain⟨pa1,pa2,pa3⟩:=jz a2;obtain⟨pb1,pb2,pb3⟩:=jz b2;have hset:jt (dX H a b).aL=true:=by
  unfold jt;simp only[aX,decide_eq_true_eq];refine⟨⟨aw (List.length_filter_le _ _) pb2,List.all_eq_true.2 fun p hp=>pb3 p (List.mem_filter.1 hp).1⟩,uW.2 (pb1.filter _)⟩
 have hg:((dX H a b).gone.all fun k=>decide (k.size=32)&&(ox (dX H a b).aL k).isNone)=true:=by
  rw[List.all_eq_true];intro k hk;obtain⟨y,hy,rfl⟩:=List.mem_map.1 hk;obtain⟨hya,hyn⟩:=List.mem_filter.1 hy;rw[aX];refine⟨?_,?_⟩
  ·have:=pa3 y hya;unfold mQ at this;simp only[aX]at this;exact this.1.1.1.1.1.1.1.1.1.1.1
  ·rw[Option.isNone_iff_eq_none]at hyn⊢;cases hs:ox (dX H a b).aL y.key with
   |none=>rfl
   |some q=>
    obtain⟨hq,hqk⟩:=sj hs;exact absurd hqk (wy hyn q (List.mem_filter.1 hq).1)
 have hr:cV sg (dX H a b).gone=true:=by
  rw[x9 sg fun x y z=>mU];exact List.pairwise_map.2 (pa1.filter _)
 have hrel:ju (dX H a b).ax=true:=by
  show ju (if a.ax≠b.ax then b.ax else [])=true;split
  ·exact b3
  ·rfl
 have tU:lW (dX H a b).policy=true:=by
  show lW (if a.policy≠b.policy then b.policy else⟨#[]⟩)=true;split
  ·exact b4
  ·exact QC
 have aeX:(dX H a b).gone.length≤64:=by
  show((a.aK.filter _).map _).length≤64;rw[ay];exact aw (List.length_filter_le _ _) pa2
 have h1:((dX H a b).cS||(dX H a b).ax.isEmpty)=true:=by
  show(decide (a.ax≠b.ax)||(if a.ax≠b.ax then b.ax else []).isEmpty)=true;by_cases h:a.ax=b.ax<;>simp[h]
 have h2:((dX H a b).cX||decide ((dX H a b).policy.size=0))=true:=by
  show(decide (a.policy≠b.policy)||decide ((if a.policy≠b.policy then b.policy else(⟨#[]⟩:ByteArray)).size=0))=true;by_cases h:a.policy=b.policy
  ·simp[h];rfl
  ·simp[h]
 unfold jc;rw[hset,hg,hr,hrel,tU,h1,h2];simp only[Bool.and_true,aX,decide_eq_true_eq];exact⟨⟨⟨a1,hv⟩,hH⟩,aeX⟩
theorem QD{H:Mp→ByteArray}{a b:Mp}(ha:(cT a).2=0)(hb:(cT b).2=0)(hv:a.version<b.version)(hH:(H b).size=32):jy H a (dX H a b)=(b,0):=by
 have ma:=nR ha;have mb:=nR hb;have e:=ya (H:=H) ma mb;unfold jy;rw[if_neg (by simpa using ha),U4 ma mb hv hH,if_neg (by simp),if_neg (by show¬a.version≠a.version;simp),e];have hg:((dX H a b).gone.all fun k=>(ox a.aK k).isSome)=true:=by
  rw[List.all_eq_true];intro k hk;obtain⟨y,hy,rfl⟩:=List.mem_map.1 hk;exact at_mem (List.mem_filter.1 hy).1
 rw[hg,if_neg (by simp),if_neg (by simpa using hb),if_neg (by show¬H b≠H b;simp)]
theorem su{s:ByteArray}(h:cO s=true):s.size≤32:=by
 unfold cO oY at h;have e:s.data.toList.length=s.size:=dT s;split at h
 ·cases h
 ·next c r hc=>
  simp only[aX,decide_eq_true_eq]at h;rw[hc,bO]at e;omega
theorem sw{s:ByteArray}(h:lW s=true):s.size≤8192:=by
 unfold lW at h;rw[decide_eq_true_eq]at h;have e:s.data.toList.length=s.size:=dT s;by_cases hl:8192<s.data.toList.length
 ·unfold iV at h;rw[if_pos hl]at h;cases h
 ·omega
theorem empty_of{s:ByteArray}(h:s.size=0):s=⟨#[]⟩:=by
 obtain⟨a⟩:=s;have:a.size=0:=h;rw[Array.eq_empty_of_size_eq_zero this]
def Np(e:En):Prop:=e.1.Ok∧e.2<65536
structure mW(p:Pr):Prop where
 exp:p.exp<18446744073709551616
 bm:p.bm<256
 aR:∀a∈p.aR,a.Ok
 ends:∀e∈p.ends,Np e
def uX(r:Ry):Prop:=r.id<256∧Np r.fin
structure kM(m:Mp):Prop where
 version:m.version<18446744073709551616
 aK:∀p∈m.aK,mW p
 ax:∀r∈m.ax,uX r
structure sx(d:Dl):Prop where
 base:d.base<18446744073709551616
 version:d.version<18446744073709551616
 aK:∀p∈d.aL,mW p
 ax:∀r∈d.ax,uX r
theorem U5{a:Ad}(ok:a.Ok)(h:a.may=true):zC a:=by
 cases hv:a.v6 with
 |false=>
  obtain⟨e1,e2⟩:=may4 h hv;exact Or.inl ⟨hv,e1,by simpa using e2⟩
 |true=>exact Or.inr ⟨hv,by have:=ok.hi;omega,by have:=ok.lo;omega⟩
structure aeY(p:Pr):Prop where
 key:p.key.size=32
 bw:p.bw.size=32
 user:cO p.user=true
 tl:p.tags.length≤8
 a1:1≤p.aR.length
 al:p.aR.length≤4
 el:p.ends.length≤8
 ends:∀e∈p.ends,e.1.may=true
 unlike:p.ends.Nodup
 tags:∀t∈p.tags,cO t=true
 aeZ:cV sg p.tags=true
 aR:∀a∈p.aR,a.may=true
 arise:cV xj p.aR=true
theorem AE(p:Pr):mQ p=true↔aeY p:=by
 unfold mQ;simp only[aX,decide_eq_true_eq];constructor
 ·rintro⟨⟨⟨⟨⟨⟨⟨⟨⟨⟨⟨h1,h2⟩,h3⟩,h4⟩,h5⟩,h6⟩,h7⟩,h8,h9⟩,h10⟩,h11⟩,h12⟩,h13⟩;exact⟨h1,h2,h3,h4,h5,h6,h7,fun e he=>List.all_eq_true.1 h8 e he,h9,fun t ht=>List.all_eq_true.1 h10 t ht,h11,fun a ha=>List.all_eq_true.1 h12 a ha,h13⟩
 ·intro h;exact⟨⟨⟨⟨⟨⟨⟨⟨⟨⟨⟨h.key,h.bw⟩,h.user⟩,h.tl⟩,h.a1⟩,h.al⟩,h.el⟩,List.all_eq_true.2 h.ends,h.unlike⟩,List.all_eq_true.2 h.tags⟩,h.aeZ⟩,List.all_eq_true.2 h.aR⟩,h.arise⟩
theorem ae0{p:Pr}(fit:mW p)(h:mQ p=true):Ko p:=by
 have m:=(AE p).1 h;refine⟨m.key,m.bw,?_,⟨?_,fun t ht=>?_⟩,⟨?_,fun a ha=>U5 (fit.aR a ha) (m.aR a ha)⟩,fit.exp,fit.bm,⟨?_,fun e he=>⟨U5 (fit.ends e he).1 (m.ends e he),(fit.ends e he).2⟩⟩⟩
 ·have:=su m.user;omega
 ·have:=m.tl;omega
 ·have:=su (m.tags t ht);omega
 ·have:=m.al;omega
 ·have:=m.el;omega
theorem U6{l:List Pr}(fit:∀p∈l,mW p)(h:jt l=true):l.length<65536∧∀p∈l,Ko p:=by
 obtain⟨_,h2,h3⟩:=jz h;exact⟨by omega,fun p hp=>ae0 (fit p hp) (h3 p hp)⟩
theorem U7{l:List Ry}(fit:∀r∈l,uX r)(h:ju l=true):l.length<65536∧∀r∈l,Kp r:=by
 unfold ju at h;simp only[aX,decide_eq_true_eq]at h;refine⟨by omega,fun r hr=>?_⟩;have h1:=List.all_eq_true.1 h.2 r hr;unfold xW at h1;simp only[aX,decide_eq_true_eq]at h1;obtain⟨f1,f2,f3⟩:=fit r hr;exact⟨f1,h1.1,U5 f2 h1.2,f3⟩
theorem U8{m:Mp}(fit:kM m)(h:jv m=true):Qw m:=by
 obtain⟨_,h2,h3,h4⟩:=jR h;exact⟨fit.version,U6 fit.aK h2,U7 fit.ax h3,by have:=sw h4;omega⟩
theorem abt{d:Dl}(fit:sx d)(h:jc d=true):Qz d:=by
 unfold jc at h;simp only[aX,decide_eq_true_eq,Bool.or_eq_true]at h;obtain⟨⟨⟨⟨⟨⟨⟨⟨⟨⟨h1,h2⟩,h3⟩,h4⟩,h5⟩,h6⟩,h7⟩,h8⟩,h9⟩,h10⟩,h11⟩:=h;refine⟨fit.base,fit.version,U6 fit.aK h9,⟨by omega,fun k hk=>?_⟩,fun _=>U7 fit.ax h10,fun e=>?_,fun _=>by have:=sw h11;omega,fun e=>?_,h3⟩
 ·have:=List.all_eq_true.1 h7 k hk;simp only[aX,decide_eq_true_eq]at this;exact this.1
 ·rcases h5 with h5|h5
  ·rw[e]at h5;cases h5
  ·exact List.isEmpty_iff.1 h5
 ·rcases h6 with h6|h6
  ·rw[e]at h6;cases h6
  ·exact empty_of h6
open Go.ChangeMaps (setBlock)
section
variable{α:Type}[DecidableEq α]
structure sy(P:Program)(K:TypeId)(enc:α→Value):Prop where
 kind:∃fs,P.underlying K=some (.struct fs)
 agg:∀a,∃cs,enc a=.agg cs
 eq:∀a b w,(Op.equal K (enc a) (enc b)).run P w=.ok (decide (a=b)) w
 key:∀e a w,(Instr.checkKey e 10000 K (enc a)).run P w=.ok () w
 bits:∀a,Instr.sameBits 10000 (enc a) (enc a)=true
def sA(enc:α→Value)(x:α×Nat)(i:Nat):MapEntry:={key:=enc x.1,val:=.int .i64 (x.2:Int),born:=i}
def gZ(enc:α→Value)(L:List (α×Nat)):List MapEntry:=L.mapIdx fun i x=>sA enc x i
def KM(enc:α→Value)(w:World)(m:Nat)(L:List (α×Nat)):Prop:=w.heap[m]? =some (.map (gZ enc L).toArray L.length)
def mG(L:List (α×Nat))(a:α):Option Nat:=L.findIdx? fun x=>decide (a=x.1)
variable{P:Program}{T K E:TypeId}{enc:α→Value}{w:World}{m:Nat}{L:List (α×Nat)}
theorem QE{L:List (α×Nat)}{a:α}(h:mG L a=none):∀x∈L,a≠x.1:=by
 intro x hx;unfold mG at h;have:=List.findIdx?_eq_none_iff.1 h x hx;simpa using this
theorem tV{L:List (α×Nat)}{a:α}{j:Nat}(h:mG L a=some j):∃hj:j<L.length,(L[j]'hj).1=a:=by
 unfold mG at h;obtain⟨hj,hp,_⟩:=List.findIdx?_eq_some_iff_getElem.1 h;exact⟨hj,(by simpa using hp:a=_).symm⟩
theorem Da(ok:sy P K enc)(a:α):∀(L:List (α×Nat))(f:Nat→Nat)(i:Nat),(Instr.findAsking K (enc a) (L.mapIdx fun j x=>sA enc x (f j)) i).run P w=.ok ((mG L a).map fun j=>(i+j,(L.map fun x=>Value.int .i64 (x.2:Int)).getD j undef)) w:=by
 intro L
 induction L with
 |nil=>intro f i;rfl
 |cons x L ih=>
  intro f i;rw[List.mapIdx_cons];unfold Instr.findAsking;have hq:=ok.eq a x.1 w;by_cases h:a=x.1
  ·rw[decide_eq_true h]at hq;subst h;simp[sA,hq,mG,List.findIdx?_cons]
  ·rw[decide_eq_false h]at hq;have:=ih (fun j=>f (j+1)) (i+1);unfold sA at this;simp only[sA,ahN,hq,j9,Bool.false_eq_true,if_false];rw[this];unfold mG;rw[List.findIdx?_cons];simp only[h,decide_false];cases L.findIdx? (fun x=>decide (a=x.1))with
   |none=>rfl
   |some j=>simp;omega
theorem mH(ok:sy P K enc)(a:α)(L:List (α×Nat)):(Instr.findKey K (enc a) (gZ enc L)).run P w=.ok ((mG L a).map fun j=>(j,(L.map fun x=>Value.int .i64 (x.2:Int)).getD j undef)) w:=by
 obtain⟨fs,hk⟩:=ok.kind;obtain⟨cs,hc⟩:=ok.agg a;have hf:=Da (w:=w) ok a L id 0;cases L with
 |nil=>simp[Instr.findKey,run_underlying hk,gZ,Instr.findNow,mG]
 |cons x L=>
  unfold Instr.findKey gZ;simp only[ahN,run_underlying hk,j9];rw[List.mapIdx_cons];have hn:Instr.findNow (.struct fs) (enc a) (sA enc x 0::L.mapIdx fun i x=>sA enc x (i+1)) 0=none:=by
   unfold Instr.findNow;rw[hc];rfl
  rw[hn];simp only;rw[List.mapIdx_cons]at hf;simpa using hf
omit [DecidableEq α]in
theorem KM.lt(h:KM enc w m L):m<w.heap.size:=by
 rcases Nat.lt_or_ge m w.heap.size with h1|h1
 ·exact h1
 ·unfold KM at h;rw[Array.getElem?_eq_none h1]at h;cases h
def zD(L:List (α×Nat))(a:α):Nat:=match mG L a with
 |some j=>(L.map (·.2)).getD j 0
 |none=>0
theorem iu(ok:sy P K enc)(hT:P.underlying T=some (.map K E))(hz:(zeroValue E).run P w=.ok (.int .i64 0) w)(h:KM enc w m L)(a:α):(Instr.lookup T (.map (some m)) (enc a) false).run P w=.ok (.int .i64 (zD L a:Int)) w:=by
 have hf:=mH (w:=w) ok a L;unfold KM at h;unfold zD;cases hi:mG L a with
 |none=>
  rw[hi]at hf;simp[Instr.lookup,run_underlying hT,run_getObj_map h,ok.key,hf,hz]
 |some j=>
  rw[hi]at hf;obtain⟨hj,_⟩:=tV hi;simp[Instr.lookup,run_underlying hT,run_getObj_map h,ok.key,hf,aE,bS,af hj]
theorem zE(ok:sy P K enc)(hT:P.underlying T=some (.map K E))(hz:(zeroValue E).run P w=.ok (.int .i64 0) w)(h:KM enc w m L){a:α}(hi:mG L a=none):(Instr.mapEntry T (.map (some m)) (enc a)).run P w=.ok (.tuple #[.int .i64 0,.int .i64 (L.length:Int)]) (setBlock w m (.map (gZ enc (L++[(a,0)])).toArray (L++[(a,0)]).length)):=by
 have hf:=mH (w:=w) ok a L;rw[hi]at hf;unfold KM at h;have he:(gZ enc (L++[(a,0)])).toArray=(gZ enc L).toArray.push {key:=enc a,val:=.int .i64 0,born:=L.length}:=by
  unfold gZ;rw[List.mapIdx_append];simp[sA]
 rw[he];simp[Instr.mapEntry,run_underlying hT,run_getObj_map h,ok.key,hf,hz,run_setObj_map h,goInt]
theorem zF(ok:sy P K enc)(hT:P.underlying T=some (.map K E))(h:KM enc w m L){a:α}{j:Nat}(hi:mG L a=some j):(Instr.mapEntry T (.map (some m)) (enc a)).run P w=.ok (.tuple #[.int .i64 (zD L a:Int),.int .i64 j]) (setBlock w m (.map (gZ enc L).toArray L.length)):=by
 have hf:=mH (w:=w) ok a L;rw[hi]at hf;unfold KM at h;obtain⟨hj,hk⟩:=tV hi;have hje:(gZ enc L)[j]? =some (sA enc L[j] j):=by
  unfold gZ;rw[List.getElem?_mapIdx,af hj];rfl
 have hm:(gZ enc L).modify j (fun e=>{e with key:=enc a})=gZ enc L:=by
  apply List.ext_getElem?;intro i;rw[List.getElem?_modify];by_cases e:j=i
  ·subst e;rw[hje];simp[sA,hk]
  ·simp[e]
 unfold zD;rw[hi];simp[Instr.mapEntry,run_underlying hT,run_getObj_map h,ok.key,hf,run_setObj_map h,goInt,hje,sA,hk,Instr.keyThatStays,ok.bits,hm,aE,bS,af hj]
omit [DecidableEq α]in
theorem uY(h:KM enc w m L){j:Nat}(hj:j<L.length)(n:Nat):(Instr.entryStore T (.map (some m)) (.int .i64 j) (.int .i64 n)).run P w=.ok () (setBlock w m (.map (gZ enc (L.set j ((L[j]).1,n))).toArray (L.set j ((L[j]).1,n)).length)):=by
 unfold KM at h;have hfi:(gZ enc L).findIdx? (fun e=>(e.born:Int)==(j:Int))=some j:=by
  rw[List.findIdx?_eq_some_iff_getElem];have hl:(gZ enc L).length=L.length:=by simp[gZ]
  refine⟨by omega,by simp[gZ,sA],fun i hi=>?_⟩;simp[gZ,sA];omega
 have hm:(gZ enc L).modify j (fun e=>{e with val:=.int .i64 n})=gZ enc (L.set j ((L[j]).1,n)):=by
  apply List.ext_getElem?;intro i;rw[List.getElem?_modify];unfold gZ;rw[List.getElem?_mapIdx,List.getElem?_mapIdx];by_cases e:j=i
  ·subst e;rw[List.getElem?_set_self hj,af hj];simp[sA]
  ·rw[List.getElem?_set_ne e];simp[e]
 simp[Instr.entryStore,run_getObj_map h,asInt,asIntOf,hfi,run_setObj_map h,hm]
end
def uZ(a:Ad):Value:=.agg a.cells
def yb(e:En):Array Value:= #[.bool e.1.v6,.int .u64 (e.1.hi:Int),.int .u64 (e.1.lo:Int),.int .u16 (e.2:Int)]
def u9(e:En):Value:=.agg (yb e)
theorem U9(x y:Ad):(x.v6==y.v6&&(x.hi==y.hi&&x.lo==y.lo))=decide (x=y):=by
 obtain⟨a,b,c⟩:=x;obtain⟨d,e,f⟩:=y;rw[fE];simp only[aX,beq_iff_eq,decide_eq_true_eq,Ad.mk.injEq]
theorem Z3(e:Bool)(d:Nat)(b:Bool)(w:World):(Instr.checkKey e (d+1) 4 (.bool b)).run ah w=.ok () w:=by
 unfold Instr.checkKey;simp only[ahN,run_underlying Tryz.underlying4,j9];rfl
theorem Va(e:Bool)(d:Nat)(n:Int)(w:World):(Instr.checkKey e (d+1) 22 (.int .u64 n)).run ah w=.ok () w:=by
 unfold Instr.checkKey;simp only[ahN,run_underlying Tryz.underlying22,j9];rfl
theorem acP(e:Bool)(d:Nat)(n:Int)(w:World):(Instr.checkKey e (d+1) 53 (.int .u16 n)).run ah w=.ok () w:=by
 unfold Instr.checkKey;simp only[ahN,run_underlying Tryz.underlying53,j9];rfl
theorem abu(e:Bool)(d:Nat)(r:Bool)(u v:Int)(w:World):(Instr.checkKey e (d+2) 52 (.agg #[.bool r,.int .u64 u,.int .u64 v])).run ah w=.ok () w:=by
 have h1:=fun w=>Z3 e d r w
 have h2:=fun w=>Va e d u w
 have h3:=fun w=>Va e d v w
 unfold Instr.checkKey;simp only[ahN,run_underlying Tryz.underlying52,j9];simp[go_sem,part,h1,h2,h3]
theorem ae1(e:Bool)(d:Nat)(r:Bool)(u v p:Int)(w:World):(Instr.checkKey e (d+3) 55 (.agg #[.bool r,.int .u64 u,.int .u64 v,.int .u16 p])).run ah w=.ok () w:=by
 have h1:=fun w=>abu e d r u v w
 have h2:=fun w=>acP e (d+1) p w
 unfold Instr.checkKey;simp only[ahN,run_underlying Tryz.underlying55,j9];simp[go_sem,part,h1,h2]
theorem Z4(d:Nat)(r:Bool)(u v p:Int):Instr.sameBits (d+1) (.agg #[.bool r,.int .u64 u,.int .u64 v,.int .u16 p]) (.agg #[.bool r,.int .u64 u,.int .u64 v,.int .u16 p])=true:=by
 simp[Instr.sameBits]
theorem Vb(d:Nat)(r:Bool)(u v:Int):Instr.sameBits (d+1) (.agg #[.bool r,.int .u64 u,.int .u64 v]) (.agg #[.bool r,.int .u64 u,.int .u64 v])=true:=by
 simp[Instr.sameBits]
theorem abv:sy ah 52 uZ where
 kind:=⟨_,Tryz.underlying52⟩
 agg:=fun a=>⟨_,rfl⟩
 eq:=fun a b w=>by
  rw[←U9];exact wk a.hi a.lo b.hi b.lo a.v6 b.v6 9997 w
 key:=fun e a w=>abu e 9998 _ _ _ w
 bits:=fun a=>Vb 9999 _ _ _
theorem Db(x y:En)(d:Nat)(w:World):(Op.equalIn (d+4) 55 (u9 x) (u9 y)).run ah w=.ok (decide (x=y)) w:=by
 have h32:ah.stoodInHeld 55=false:=by kernel_rfl
 have ha:=fun w=>wk x.1.hi x.1.lo y.1.hi y.1.lo x.1.v6 y.1.v6 d w
 rw[U9]at ha;have hp:∀w,(Op.equalIn (d+3) 53 (.int .u16 (x.2:Int)) (.int .u16 (y.2:Int))).run ah w=.ok (decide (x.2=y.2)) w:=by
  intro w;rw[show decide (x.2=y.2)=((x.2:Int)==(y.2:Int)) by rw[fE,decide_eq_true_eq,beq_iff_eq];omega];simp[go_sem,Tryz.underlying53,Op.equalIn]
 obtain⟨⟨a,b,c⟩,p⟩:=x;obtain⟨⟨a',b',c'⟩,p'⟩:=y;simp only at ha hp;unfold u9 yb;rw[run_equalIn_struct w (d+3) 55 _ _ bo h32];simp[go_sem,Tryz.underlying55,part,ha,hp];by_cases h1:a=a'<;>by_cases h2:b=b'<;>by_cases h3:c=c'<;>by_cases h4:p=p'<;>simp[h1,h2,h3,h4]
theorem abw:sy ah 55 u9 where
 kind:=⟨_,Tryz.underlying55⟩
 agg:=fun a=>⟨_,rfl⟩
 eq:=fun a b w=>Db a b 9996 w
 key:=fun e a w=>ae1 e 9997 _ _ _ _ w
 bits:=fun a=>Z4 9999 _ _ _ _
def cD(e:En):List Value:=[.bool e.1.v6,.int .u64 (e.1.hi:Int),.int .u64 (e.1.lo:Int),.int .u16 (e.2:Int)]
def lX(l:List En):List Value:=l.flatMap cD
def bF(r:Ry):List Value:=[.int .u8 (r.id:Int),.string r.key,.bool r.fin.1.v6,.int .u64 (r.fin.1.hi:Int),.int .u64 (r.fin.1.lo:Int),.int .u16 (r.fin.2:Int)]
def dQ(l:List Ry):List Value:=l.flatMap bF
structure bU where
 p:Pr
 tv:Value
 av:Value
 ev:Value
def bU.vals(X:bU):List Value:=[.string X.p.key,.string X.p.bw,.string X.p.user,X.tv,X.av,.int .u64 (X.p.exp:Int),.int .u8 (X.p.bm:Int),X.ev]
def cZ(l:List bU):List Value:=l.flatMap bU.vals
theorem fB(e:En):(cD e).length=4:=rfl
theorem bH(r:Ry):(bF r).length=6:=rfl
theorem aC(X:bU):X.vals.length=8:=rfl
structure fC(w:World)(X:bU):Prop where
 tags:aY w X.tv X.p.tags.length 1 (strCells X.p.tags)
 aR:aY w X.av X.p.aR.length 3 (du X.p.aR)
 ends:aY w X.ev X.p.ends.length 4 (lX X.p.ends)
theorem fC.below{w w':World}{X:bU}(h:fC w X)(hb:aW w w'):fC w' X:=⟨h.tags.below hb,h.aR.below hb,h.ends.below hb⟩
def dJ(w:World)(v:Value)(l:List Pr):Prop:=∃xs:List bU,xs.map (·.p)=l∧aY w v xs.length 8 (cZ xs)∧∀X∈xs,fC w X
theorem dJ.below{w w':World}{v:Value}{l:List Pr}(h:dJ w v l)(hb:aW w w'):dJ w' v l:=by
 obtain⟨xs,h1,h2,h3⟩:=h;exact⟨xs,h1,h2.below hb,fun X hX=>(h3 X hX).below hb⟩
theorem dJ.shape{w:World}{v:Value}{l:List Pr}(h:dJ w v l):∃A cap,v=.slice A l.length cap:=by
 obtain⟨xs,h1,h2,_⟩:=h;have:=h2.shape;rw[←h1,ay];exact this
def fy(w:World)(v:Value)(l:List Ry):Prop:=aY w v l.length 6 (dQ l)
structure gm(p:Pr):Prop where
 user:p.user.size≤2000000
 tl:p.tags.length≤2000000
 al:p.aR.length≤2000000
 el:p.ends.length≤2000000
 tags:∀t∈p.tags,t.size≤2000000
theorem qi{α:Type}(l:List α)(q:α→Bool):((aF l.length).all fun k=>match l[k]? with|some x=>q x|none=>false)=l.all q:=by
 rw[fE,List.all_eq_true,List.all_eq_true];constructor
 ·intro h x hx;obtain⟨k,hk⟩:=List.getElem?_of_mem hx;have:=h k (List.mem_range.2 (List.getElem?_eq_some_iff.1 hk).1);simpa only[hk]using this
 ·intro h k hk;have hl:=List.mem_range.1 hk;rw[af hl];exact h _ (a8 hl)
theorem jA{α:Type}(lt:α→α→Bool):∀l:List α,((aF (l.length-1)).all fun k=>match l[k]?,l[k+1]? with|some x,some y=>lt x y|_,_=>false)=cV lt l
 |[]=>rfl
 |[_]=>rfl
 |x::y::r=>by
  have ih:=jA lt (y::r);rw[cV,←ih];simp only[bO,Nat.add_sub_cancel];rw[List.range_succ_eq_map,List.all_cons,List.all_map];rfl
theorem wH{w:World}{A:Option Addr}{cap:Nat}{l:List ByteArray}(h:aY w (.slice A l.length cap) l.length 1 (strCells l)):mF w A l.length fun k=>l.getD k ⟨#[]⟩:=by
 intro k hk;obtain⟨A',cap',e,_,hc⟩:=h;injection e with e1 _ _
 subst e1;obtain⟨g,o,ha,hcc⟩:=hc aQ;refine⟨g,o,ha,hcc k _ ?_⟩;unfold strCells;simp[af hk]
theorem Dc{w:World}{v:Value}{l:List ByteArray}(hr:aY w v l.length 1 (strCells l))(hl:l.length≤4000000)(q:ByteArray→Bool)(f:Nat)(lb:Array Value)(eg:∀args w,(callFunc f args).run ah w=.ok (.enter f args) w)(hf:∀W,aW w W→∀x∈l,Calls ah f (#[.string x]++lb) W (Got (.bool (q x)) W)):Calls ah 58 #[v,.func (.func f) #[] lb] w (Got (.bool (l.all q)) w):=by
 rw[←qi];obtain⟨A,cap,rfl⟩:=hr.shape;refine UQ hl _ _ (wH hr) f lb eg fun k hk W hW=>?_
 have hxk:l[k]? =some l[k]:=af hk;simp only[aE,hxk,Option.getD_some];exact hf W hW _ (a8 hk)
theorem Nq{w:World}{v:Value}{l:List ByteArray}(hr:aY w v l.length 1 (strCells l))(hl:l.length≤4000000)(q:ByteArray→ByteArray→Bool)(f:Nat)(lb:Array Value)(eg:∀args w,(callFunc f args).run ah w=.ok (.enter f args) w)(hf:∀W,aW w W→∀x y,Calls ah f (#[.string x,.string y]++lb) W (Got (.bool (q x y)) W)):Calls ah 102 #[v,.func (.func f) #[] lb] w (Got (.bool (cV q l)) w):=by
 rw[←jA];obtain⟨A,cap,rfl⟩:=hr.shape;refine UU hl _ _ (wH hr) f lb eg fun k hk W hW=>?_
 have hxk:l[k]? =some l[k]:=af aQ;have hyk:l[k+1]? =some l[k+1]:=af hk;simp only[aE,hxk,hyk,Option.getD_some];exact hf W hW _ _
theorem Vd{w:World}{v:Value}{l:List Ad}(hr:aY w v l.length 3 (du l))(hl:l.length≤4000000)(q:Ad→Bool)(f:Nat)(lb:Array Value)(eg:∀args w,(callFunc f args).run ah w=.ok (.enter f args) w)(hf:∀W,aW w W→∀x∈l,Calls ah f (#[.agg ((fun a:Ad=>a.cells.toList) x).toArray]++lb) W (Got (.bool (q x)) W)):Calls ah 154 #[v,.func (.func f) #[] lb] w (Got (.bool (l.all q)) w):=by
 rw[←qi];obtain⟨A,cap,rfl⟩:=hr.shape;refine Ql hl _ _ hr.iQ f lb eg fun k hk W hW=>?_
 have hxk:l[k]? =some l[k]:=af hk;rw[show du l=l.flatMap (fun a:Ad=>a.cells.toList)from rfl];simp only[hxk];rw[dS (fun a:Ad=>a.cells.toList) 3 (fun a:Ad=>rfl) l k _ hxk];exact hf W hW _ (a8 hk)
theorem Ve{w:World}{v:Value}{l:List Ad}(hr:aY w v l.length 3 (du l))(hl:l.length≤4000000)(q:Ad→Ad→Bool)(f:Nat)(lb:Array Value)(eg:∀args w,(callFunc f args).run ah w=.ok (.enter f args) w)(hf:∀W,aW w W→∀x y,Calls ah f (#[.agg ((fun a:Ad=>a.cells.toList) x).toArray,.agg ((fun a:Ad=>a.cells.toList) y).toArray]++lb) W (Got (.bool (q x y)) W)):Calls ah 155 #[v,.func (.func f) #[] lb] w (Got (.bool (cV q l)) w):=by
 rw[←jA];obtain⟨A,cap,rfl⟩:=hr.shape;refine Qm hl _ _ hr.iQ f lb eg fun k hk W hW=>?_
 have hxk:l[k]? =some l[k]:=af aQ;have hyk:l[k+1]? =some l[k+1]:=af hk;rw[show du l=l.flatMap (fun a:Ad=>a.cells.toList)from rfl];simp only[hxk,hyk];rw[dS (fun a:Ad=>a.cells.toList) 3 (fun a:Ad=>rfl) l k _ hxk,dS (fun a:Ad=>a.cells.toList) 3 (fun a:Ad=>rfl) l (k+1) _ hyk];exact hf W hW _ _
theorem Vf{w:World}{v:Value}{l:List Ry}(hr:aY w v l.length 6 (dQ l))(hl:l.length≤4000000)(q:Ry→Bool)(f:Nat)(lb:Array Value)(eg:∀args w,(callFunc f args).run ah w=.ok (.enter f args) w)(hf:∀W,aW w W→∀x∈l,Calls ah f (#[.agg (bF x).toArray]++lb) W (Got (.bool (q x)) W)):Calls ah 125 #[v,.func (.func f) #[] lb] w (Got (.bool (l.all q)) w):=by
 rw[←qi];obtain⟨A,cap,rfl⟩:=hr.shape;refine Qo hl _ _ hr.iQ f lb eg fun k hk W hW=>?_
 have hxk:l[k]? =some l[k]:=af hk;rw[show dQ l=l.flatMap bF from rfl];simp only[hxk];rw[dS bF 6 bH l k _ hxk];exact hf W hW _ (a8 hk)
theorem Vg{w:World}{v:Value}{l:List Ry}(hr:aY w v l.length 6 (dQ l))(hl:l.length≤4000000)(q:Ry→Ry→Bool)(f:Nat)(lb:Array Value)(eg:∀args w,(callFunc f args).run ah w=.ok (.enter f args) w)(hf:∀W,aW w W→∀x y,Calls ah f (#[.agg (bF x).toArray,.agg (bF y).toArray]++lb) W (Got (.bool (q x y)) W)):Calls ah 123 #[v,.func (.func f) #[] lb] w (Got (.bool (cV q l)) w):=by
 rw[←jA];obtain⟨A,cap,rfl⟩:=hr.shape;refine Qp hl _ _ hr.iQ f lb eg fun k hk W hW=>?_
 have hxk:l[k]? =some l[k]:=af aQ;have hyk:l[k+1]? =some l[k+1]:=af hk;rw[show dQ l=l.flatMap bF from rfl];simp only[hxk,hyk];rw[dS bF 6 bH l k _ hxk,dS bF 6 bH l (k+1) _ hyk];exact hf W hW _ _
theorem Vh{w:World}{v:Value}{l:List bU}(hr:aY w v l.length 8 (cZ l))(hl:l.length≤4000000)(q:bU→Bool)(f:Nat)(lb:Array Value)(eg:∀args w,(callFunc f args).run ah w=.ok (.enter f args) w)(hf:∀W,aW w W→∀x∈l,Calls ah f (#[.agg (bU.vals x).toArray]++lb) W (Got (.bool (q x)) W)):Calls ah 75 #[v,.func (.func f) #[] lb] w (Got (.bool (l.all q)) w):=by
 rw[←qi];obtain⟨A,cap,rfl⟩:=hr.shape;refine Qr hl _ _ hr.iQ f lb eg fun k hk W hW=>?_
 have hxk:l[k]? =some l[k]:=af hk;rw[show cZ l=l.flatMap bU.vals from rfl];simp only[hxk];rw[dS bU.vals 8 aC l k _ hxk];exact hf W hW _ (a8 hk)
theorem Vi{w:World}{v:Value}{l:List bU}(hr:aY w v l.length 8 (cZ l))(hl:l.length≤4000000)(q:bU→bU→Bool)(f:Nat)(lb:Array Value)(eg:∀args w,(callFunc f args).run ah w=.ok (.enter f args) w)(hf:∀W,aW w W→∀x y,Calls ah f (#[.agg (bU.vals x).toArray,.agg (bU.vals y).toArray]++lb) W (Got (.bool (q x y)) W)):Calls ah 121 #[v,.func (.func f) #[] lb] w (Got (.bool (cV q l)) w):=by
 rw[←jA];obtain⟨A,cap,rfl⟩:=hr.shape;refine Qs hl _ _ hr.iQ f lb eg fun k hk W hW=>?_
 have hxk:l[k]? =some l[k]:=af aQ;have hyk:l[k+1]? =some l[k+1]:=af hk;rw[show cZ l=l.flatMap bU.vals from rfl];simp only[hxk,hyk];rw[dS bU.vals 8 aC l k _ hxk,dS bU.vals 8 aC l (k+1) _ hyk];exact hf W hW _ _
def Put(B b:Nat)(D X:List UInt8)(w:World)(r:Ending)(w':World):Prop:=r=.returned (.tuple #[])∧gj B b (D++X) w'∧Wrote B b w w'
theorem Wrote.low{B b:Nat}{w w1 w2:World}(hB:B≤w.heap.size)(h:aW w w1)(k:Wrote B b w1 w2):Wrote B b w w2:=(Wrote.of hB h).trans k
theorem fK{B b:Nat}{D:List UInt8}{w:World}(L:List ByteArray)(h:gj B b D w)(hL:L.length≤4000000)(hlen:D.length+(fD L).length≤140737488355328)(hBw:B≤w.heap.size)(n:Nat)(hn:n=L.length):Calls ah 24 #[.pointer (some ⟨b,0,none⟩),.slice (some ⟨w.heap.size,0,none⟩) n n] (w.alloc (.cells (L.map Value.string).toArray 9)) fun r w'=>r=.returned (.tuple #[])∧gj B b (D++fD L) w'∧Wrote B b w w':=by
 have hb:=boxed w (.cells (L.map Value.string).toArray 9);refine(put_any L (h.below hb) (aG.new w 9 _) (by have:=h.lt;omega) hL hlen (aw hBw hb.size) n hn).mono ?_;rintro r w'⟨rfl,h1,h2⟩;exact⟨rfl,h1,h2.low hBw hb⟩
theorem df(s:ByteArray):fD [s]=s.data.toList:=by simp[fD]
theorem ez(s t:ByteArray):fD [s,t]=s.data.toList++t.data.toList:=by simp[fD]
theorem Kt(s t u:ByteArray):fD [s,t,u]=s.data.toList++(t.data.toList++u.data.toList):=by simp[fD]
theorem bZ(n x:Nat):(be n x).data.toList=fF n x:=by simp[be]
theorem Df(s:ByteArray)(hs:s.size≤32768)(w:World):Calls ah 86 #[.string s] w fun r w'=>(∃t:ByteArray,t.data.toList=oJ s∧r=.returned (.tuple #[.string t,.int .i64 0]))∧aW w w':=by
 have hu:=lP s.size aQ;have h1:¬(32768:Int)<(s.size:Int):=by omega
 have h1':¬32768<s.size:=by omega
 have h2:IntKind.u16.wrap (s.size:Int)=(s.size:Int):=by
  show(s.size:Int)%65536=_;omega
 have hx:(be 2 s.size++s).data.toList=oJ s:=by
  unfold oJ;rw[ByteArray.data_append,Array.toList_append,bZ]
 have HX:=ae hx;have h3:¬9223372036854775807<(be 2 s.size).size+s.size:=by rw[Yw];omega
 generalize be 2 s.size=T at hu HX h3;have HU:=ae hu;clear hu hs hx;go_enter Tryz.func86,Tryz.ntmps86;go_wp2_with(go_at_call 81;refine(HU.out _).mono ?_;rintro r w2⟨rfl,d2⟩)
 go_ret2;exact⟨⟨_,HX.out,rfl⟩,d2⟩
theorem lY{B b:Nat}{D:List UInt8}{w:World}(s:ByteArray)(hs:s.size≤32768)(h:gj B b D w)(hlen:D.length≤1000000000)(hBw:B≤w.heap.size):Calls ah 30 #[.pointer (some ⟨b,0,none⟩),.string s] w (Put B b D (oJ s) w):=by
 have hT:=Df s hs w;have hlx:(oJ s).length=2+s.size:=by
  unfold oJ;rw[ai,aP,eB,ByteArray.size_data]
 have hput:=fun u t(hu:aW w u)(ht:t.data.toList=oJ s)=>fK (w:=u) [t] (h.below hu) (by simp) (by rw[df,ht,hlx];omega) (aw hBw hu.size) 1 rfl
 obtain⟨HT,jh,HB⟩:=bu hT hput hBw;unfold Put;clear hT hput hlx h hBw;go_enter Tryz.func30,Tryz.ntmps30;go_wp2_with(first
  |(go_at_call 86;refine HT.out.mono ?_;rintro r w1⟨⟨t,ht,rfl⟩,d1⟩;have Ht:=ae ht;clear ht)
  |(go_at_call 24;(refine(jh.out _ t d1 Ht.out).mono ?_);rintro r w2⟨rfl,p2,k2⟩;rw[df,Ht.out]at p2))
 go_end0
 exact⟨rfl,p2,k2.low HB.out d1⟩
theorem Nr(a:Ad):(zh a).length≤17:=by
 unfold zh;split<;>simp[aP]
theorem Z5(x:UInt8)(n y:Nat):fD [⟨#[x]⟩,be n y]=x::fF n y:=by rw[ez,bZ];rfl
theorem Z6(x:UInt8)(n y k z:Nat):fD [⟨#[x]⟩,be n y,be k z]=x::(fF n y++fF k z):=by rw[Kt,bZ,bZ];rfl
theorem ve{B b:Nat}{D:List UInt8}{w:World}(a:Ad)(ok:zC a)(h:gj B b D w)(hlen:D.length≤1000000000)(hBw:B≤w.heap.size):Calls ah 83 #[.pointer (some ⟨b,0,none⟩),.agg a.cells] w (Put B b D (zh a) w):=by
 have hb1:=boxed w (.cells a.cells 52);obtain⟨HA,HB1⟩:=aN (aG.new w 52 a.cells) hb1;have hal:=Nr a;obtain⟨X,hX⟩:=bq (zh a);rw[←hX]at hal⊢;have hput:=fun u(L:List ByteArray)(n:Nat)(hu:aW w u)(hL:fD L=X)(hl:L.length≤3)(hn:n=L.length)=>fK (w:=u) L (h.below hu) aQ (by rw[hL];omega) (aw hBw hu.size) n hn
 obtain⟨jh,HB⟩:=aN hput hBw;have hu64:=fun(x:Nat)(hx:x<18446744073709551616)u=>rE x hx u
 have ae2:=fun(x:Nat)(hx:x<4294967296)u=>YB x hx u
 obtain⟨v,hi,lo⟩:=a;have fZ:ag (w.heap.size≠b):=ae (by have:=h.lt;omega);obtain⟨ae3,agq⟩:=aN hu64 ae2;unfold Put;unfold Ad.cells at HA HB1⊢;simp only at HA HB1⊢;clear hput hu64 ae2 hb1 h hBw;cases v with
 |true=>
  obtain⟨oh,ol⟩:hi<18446744073709551616∧lo<18446744073709551616:=by
   rcases ok with h|h
   ·cases h.1
   ·exact h.2
  have HX:=ae (show fD [⟨#[6]⟩,be 8 hi,be 8 lo]=X by rw[Z6,hX];rfl);clear ok hX;go_enter Tryz.func83,Tryz.ntmps83;go_upto_region 1 with fail
  generalize w.alloc (.cells #[.bool true,.int .u64 hi,.int .u64 lo] 52)=w1 at HA HB1⊢;generalize w.heap.size=P at HA fZ⊢;obtain⟨a0,a1,a2⟩:=jf HA;go_upto_region 2 with fail
  refine wp_region_held_drew (S:=(fun w'=>w'.cell? ⟨P,1,none⟩=some (.int .u64 hi)∧w'.cell? ⟨P,2,none⟩=some (.int .u64 lo))) bo (⟨a1,a2⟩) (fun hHeld=>?_);refine bC 0 ?_
  refine bC 1 ?_
  refine bC 2 ?_
  refine bC 4 ?_
  refine bC 5 ?_
  refine jg 3 fun K hK=>?_;go_simp;refine(ae3.out hi oh _).mono ?_;rintro r wb⟨rfl,db⟩;have eb:=Below.fJ db;clear db;refine hK.out _ _ (⟨ak a1 eb,ak a2 eb⟩) (fun hHeld=>?_);clear hK K;try simp only[cN]
  refine jg 6 fun K hK=>?_;go_simp;refine(ae3.out lo ol _).mono ?_;rintro r wc⟨rfl,dc⟩;have ec:=after eb dc;clear dc;refine hK.out _ _ (⟨ak a1 ec,ak a2 ec⟩) (fun hHeld=>?_);clear hK K;try simp only[cN]
  refine jg 7 fun K hK=>?_;go_simp;refine hK.out _ _ (⟨ak a1 (after ec (boxed _ _)),ak a2 (after ec (boxed _ _))⟩) (fun hHeld=>?_);clear hK K;try simp only[cN]
  refine jg 8 fun K hK=>?_;go_simp;refine(jh.out wc [⟨#[6]⟩,be 8 hi,be 8 lo] 3 (after HB1.out ec) HX.out (by simp) rfl).mono ?_;rintro r wd⟨rfl,p2,k2⟩;rw[HX.out]at p2;have k3:=k2.low HB.out (after HB1.out ec);have hA8:=k2.kept _ _ _ (HA.out.below ec HA.out.lt) fZ.out aH;refine hK.out _ _ (⟨hA8.cell 1,hA8.cell 2⟩) (fun hHeld=>?_);clear hK K;try simp only[cN]
  refine qW ?_;go_wp2_with fail
  (try simp only[Exit.inBlock,Exit.then])
  refine bodyPost_ret (results_none rfl _ _ _) rfl ?_;exact⟨rfl,p2,k3⟩
 |false=>
  obtain⟨rfl,ol⟩:hi=0∧lo<4294967296:=by
   rcases ok with h|h
   ·exact h.2
   ·cases h.1
  have HX:=ae (show fD [⟨#[4]⟩,be 4 lo]=X by rw[Z5,hX];rfl);have q1:IntKind.u32.wrap (lo:Int)=(lo:Int):=by
   show(lo:Int)%4294967296=_;omega
  clear ok hX;go_enter Tryz.func83,Tryz.ntmps83;go_upto_region 1 with fail
  generalize w.alloc (.cells #[.bool false,.int .u64 ((0:Nat):Int),.int .u64 lo] 52)=w1 at HA HB1⊢;generalize w.heap.size=P at HA fZ⊢;obtain⟨a0,a1,a2⟩:=jf HA;go_wp2_with(first
   |(go_at_call 134;refine(agq.out lo ol _).mono ?_;rintro r wb⟨rfl,db⟩)
   |(go_at_call 24;(refine(jh.out wb [⟨#[4]⟩,be 4 lo] 2 (after HB1.out db) HX.out (by simp) rfl).mono ?_);rintro r wd⟨rfl,p2,k2⟩;rw[HX.out]at p2))
  go_end0
  exact⟨rfl,p2,k2.low HB.out (after HB1.out db)⟩
theorem QF(a:Ad):(!(iy a).toList.isEmpty)=a.may:=by
 have h:(iy a).toList=ix a:=by rw[cC];rfl
 rw[h];cases hm:a.may with
 |true=>
  have:=SK hm;cases ht:ix a with
  |nil=>exact absurd ht this
  |cons x l=>rfl
 |false=>
  have:ix a=[]:=by unfold ix;rw[if_pos hm]
  rw[this];rfl
theorem nS{w:World}(env:Env w)(a:Ad)(ok:a.Ok):Calls ah 127 #[.agg a.cells] w (Got (.bool a.may) w):=by
 have ht:=fun u(hu:aW w u)=>rP (env.below hu) a ok
 rw[←QF a];generalize iy a=T at ht⊢;obtain⟨v,h,l⟩:=a;unfold Ad.cells at ht⊢;simp only at ht⊢;have HT:=ae ht;have hb:=boxed w (.cells #[.bool v,.int .u64 h,.int .u64 l] 52);obtain⟨HS,HB⟩:=aN (aG.new w 52 #[.bool v,.int .u64 h,.int .u64 l]) hb;clear ht hb env ok;go_enter Tryz.func127,Tryz.ntmps127;go_upto_region 1 with fail
 generalize w.alloc (.cells #[.bool v,.int .u64 h,.int .u64 l] 52)=w1 at HB HS⊢;generalize w.heap.size=G at HS⊢;obtain⟨s0,s1,s2⟩:=jf HS;go_wp2_with(go_at_call 158;refine(HT.out _ HB.out).mono ?_;rintro r w2⟨rfl,e2⟩)
 go_ret;exact⟨rfl,after HB.out e2⟩
theorem yc(a b:ByteArray)(w:World):Calls ah 103 #[.string a,.string b] w (Got (.bool (sg a b)) w):=by
 go_enter Tryz.func103,Tryz.ntmps103;go_wp2_with fail
 go_ret;exact⟨rfl,aM _ _⟩
theorem pG{w:World}(env:Env w)(s:ByteArray)(hs:s.size≤2000000):Calls ah 74 #[.string s] w (Got (.bool (lW s)) w):=by
 have hp:=parse_any env s hs;unfold ei at hp;have he:(((iV s.data.toList).2.1:Int)==0)=lW s:=by
  unfold lW;rw[fE,beq_iff_eq,decide_eq_true_eq];omega
 generalize lW s=R at he⊢;generalize iV s.data.toList=P at hp he;obtain⟨q,c,n,x⟩:=P;simp only at hp he;have HP:=ae hp;clear hp env;go_enter Tryz.func74,Tryz.ntmps74;go_upto_region 2 with(go_at_call 128;refine HP.out.mono ?_;rintro r w1⟨⟨⟨vg,vt,vh,va⟩,rfl,hrd⟩,b1⟩;(obtain⟨Ag,At,Ah,Aa,cg,ct,ch,ca,hV⟩:=copied hrd);(obtain⟨rfl,rfl,rfl,rfl⟩:vg=_∧vt=_∧vh=_∧va=_:=by simpa using hV);clear hV hrd)
 go_wp2_with fail
 go_ret;exact⟨by rw[←he];rfl,after b1 (fQ _ _ _)⟩
theorem Gn(x y:ByteArray)(c1 c2 c3 c4 c5 c6 c7 e1 e2 e3 e4 e5 e6 e7:Value)(w:World):Calls ah 122 #[.agg #[.string x,c1,c2,c3,c4,c5,c6,c7],.agg #[.string y,e1,e2,e3,e4,e5,e6,e7]] w (Got (.bool (sg x y)) w):=by
 have HB:=ae (fQ w (.cells #[.string x,c1,c2,c3,c4,c5,c6,c7] 50) (.cells #[.string y,e1,e2,e3,e4,e5,e6,e7] 50));have hp:=aG.new w 50 #[.string x,c1,c2,c3,c4,c5,c6,c7];have HP:=ae (hp.below (boxed _ (.cells #[.string y,e1,e2,e3,e4,e5,e6,e7] 50)) hp.lt);have hq:=aG.new (w.alloc (.cells #[.string x,c1,c2,c3,c4,c5,c6,c7] 50)) 50 #[.string y,e1,e2,e3,e4,e5,e6,e7];rw[show(w.alloc (.cells #[.string x,c1,c2,c3,c4,c5,c6,c7] 50)).heap.size=w.heap.size+1 by simp]at hq;have HQ:=ae hq;clear hp hq;go_enter Tryz.func122,Tryz.ntmps122;go_upto_region 1 with fail
 generalize(w.alloc (.cells #[.string x,c1,c2,c3,c4,c5,c6,c7] 50)).alloc (.cells #[.string y,e1,e2,e3,e4,e5,e6,e7] 50)=w1 at HB HP HQ⊢;generalize w.heap.size+1=Q at HQ⊢;generalize hP:w.heap.size=P at HP⊢;clear hP;have p0:=HP.out.cell 0;have q0:=HQ.out.cell 0;simp at p0 q0;go_wp2_with fail
 go_ret;exact⟨rfl,HB.out⟩
theorem Ku(x y:Nat)(c1 c2 c3 c4 c5 e1 e2 e3 e4 e5:Value)(w:World):Calls ah 124 #[.agg #[.int .u8 x,c1,c2,c3,c4,c5],.agg #[.int .u8 y,e1,e2,e3,e4,e5]] w (Got (.bool (decide (x<y))) w):=by
 have HB:=ae (fQ w (.cells #[.int .u8 x,c1,c2,c3,c4,c5] 57) (.cells #[.int .u8 y,e1,e2,e3,e4,e5] 57));have hp:=aG.new w 57 #[.int .u8 x,c1,c2,c3,c4,c5];have HP:=ae (hp.below (boxed _ (.cells #[.int .u8 y,e1,e2,e3,e4,e5] 57)) hp.lt);have hq:=aG.new (w.alloc (.cells #[.int .u8 x,c1,c2,c3,c4,c5] 57)) 57 #[.int .u8 y,e1,e2,e3,e4,e5];rw[show(w.alloc (.cells #[.int .u8 x,c1,c2,c3,c4,c5] 57)).heap.size=w.heap.size+1 by simp]at hq;have HQ:=ae hq;clear hp hq;go_enter Tryz.func124,Tryz.ntmps124;go_upto_region 1 with fail
 generalize(w.alloc (.cells #[.int .u8 x,c1,c2,c3,c4,c5] 57)).alloc (.cells #[.int .u8 y,e1,e2,e3,e4,e5] 57)=w1 at HB HP HQ⊢;generalize w.heap.size+1=Q at HQ⊢;generalize hP:w.heap.size=P at HP⊢;clear hP;have p0:=HP.out.cell 0;have q0:=HQ.out.cell 0;simp at p0 q0;go_wp2_with fail
 go_ret;exact⟨rfl,HB.out⟩
theorem QG(k x:ByteArray)(c1 c2 c3 c4 c5 c6 c7:Value)(g:Nat){w:World}(hg:w.cell? ⟨g,0,none⟩=some (.string k)):Calls ah 106 #[.agg #[.string x,c1,c2,c3,c4,c5,c6,c7],.pointer (some ⟨g,0,none⟩)] w (Got (.bool (decide (x=k))) w):=by
 have hb:=boxed w (.cells #[.string x,c1,c2,c3,c4,c5,c6,c7] 50);have HS:=ae (aG.new w 50 #[.string x,c1,c2,c3,c4,c5,c6,c7]);have g0:=ak hg hb;have HB:=ae hb;rw[show decide (x=k)=(x.toList==k.toList) by rw[eqS,fE,decide_eq_true_eq,decide_eq_true_eq];exact⟨Eq.symm,Eq.symm⟩];clear hg hb;go_enter Tryz.func106,Tryz.ntmps106;go_upto_region 1 with fail
 generalize w.alloc (.cells #[.string x,c1,c2,c3,c4,c5,c6,c7] 50)=w1 at HB HS g0⊢;generalize w.heap.size=G at HS⊢;have s0:=HS.out.cell 0;simp at s0;go_wp2_with fail
 go_ret;exact⟨rfl,HB.out⟩
theorem Gp{w:World}(env:Env w)(c0 c5:Value)(k:ByteArray)(a:Ad)(ok:a.Ok):Calls ah 126 #[.agg #[c0,.string k,.bool a.v6,.int .u64 (a.hi:Int),.int .u64 (a.lo:Int),c5]] w (Got (.bool (decide (k.size=32)&&a.may)) w):=by
 have hm:=fun u(hu:aW w u)=>nS (env.below hu) a ok
 generalize a.may=M at hm⊢;obtain⟨v,h,l⟩:=a;unfold Ad.cells at hm;simp only at hm⊢;have HM:=ae hm;have hb:=boxed w (.cells #[c0,.string k,.bool v,.int .u64 h,.int .u64 l,c5] 57);obtain⟨HS,HB⟩:=aN (aG.new w 57 #[c0,.string k,.bool v,.int .u64 h,.int .u64 l,c5]) hb;clear hm hb env ok;go_enter Tryz.func126,Tryz.ntmps126;go_upto_region 1 with fail
 generalize w.alloc (.cells #[c0,.string k,.bool v,.int .u64 h,.int .u64 l,c5] 57)=w1 at HB HS⊢;generalize w.heap.size=G at HS⊢;obtain⟨-,s1,s2,s3,s4⟩:=ID HS;by_cases hk:k.size=32
 ·have e1:((k.size:Int)==32)=true:=by simp;omega
  have HK:=ae hk;clear hk;go_wp2_with(go_at_call 127;refine(HM.out _ HB.out).mono ?_;rintro r w2⟨rfl,e2⟩)
  go_ret;exact⟨by rw[decide_eq_true HK.out];rfl,after HB.out e2⟩
 ·have e1:((k.size:Int)==32)=false:=by simp;omega
  have HK:=ae hk;clear hk;go_wp2_with fail
  go_ret;exact⟨by rw[decide_eq_false HK.out];rfl,HB.out⟩
end Go.Proofs.YtkjaajcpbldjoaaGreatDoor
