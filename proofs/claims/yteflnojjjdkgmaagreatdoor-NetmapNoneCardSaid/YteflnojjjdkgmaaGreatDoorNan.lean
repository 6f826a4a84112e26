/- Joined out of: NwA NtB. -/
import Derived.Test.YteflnojjjdkgmaaGreatDoorNam
set_option linter.unusedVariables false
set_option linter.unusedSimpArgs false
set_option maxHeartbeats 16000000
set_option maxRecDepth 100000
open Go.Lib renaming hid→ae
open Go.Proofs.Tryz renaming prog→ag
open Go.RowKit renaming Hid→af
open Go.RowKit.Below renaming refl→aG
open Go.World renaming block_lt_of_cell?→aj
open List renaming length_append→ai,range→aA,append_assoc→aO,eq_nil_of_length_eq_zero→bF,length_cons→bW,flatMap_cons→afr
open Nat renaming zero_le→bD,add_zero→dq
namespace Go.Proofs.YteflnojjjdkgmaaGreatDoor
open Go.RowKit
attribute [local go_sem↓] Go.wp_at_zero Go.wp_at_succ
attribute [local go_sem] dB
def lZ(w:World)(A:Option Addr)(n:Nat)(cs:Nat→ByteArray):Prop:=∀k,k<n→∃g o,A=some ⟨g,o,none⟩∧w.cell? ⟨g,o+k,none⟩=some (.string (cs k))
theorem lZ.below{w w':World}{A:Option Addr}{n:Nat}{cs:Nat→ByteArray}(h:lZ w A n cs)(e:Below w.heap.size w w'):lZ w' A n cs:=by
 intro k hk;obtain⟨g,o,hA,hc⟩:=h k hk;exact⟨g,o,hA,ak hc e⟩
theorem dh.below{w w':World}{A:Option Addr}{n K:Nat}{cs:Nat→List Value}(h:dh w A n K cs)(e:Below w.heap.size w w'):dh w' A n K cs:=by
 intro k hk;obtain⟨hl,g,o,hA,hc⟩:=h k hk;exact⟨hl,g,o,hA,fun j u hu=>ak (hc j u hu) e⟩
theorem qt(n:Nat)(p:Nat→Bool):(!((aA n).any fun k=> !p k))=(aA n).all p:=by
 rw[List.not_any_eq_all_not];congr 1;funext k;exact Bool.not_not _
theorem eW(n:Nat)(p:Nat→Bool):(aA (n+1)).all p=((aA n).all p&&p n):=by
 rw[List.range_succ,List.all_append];simp
theorem fl{n k:Nat}{p:Nat→Bool}(hk:k<n)(h:p k=false):(aA n).all p=false:=by
 rw[List.all_eq_false];exact⟨k,List.mem_range.2 hk,by rw[h];decide⟩
theorem Wa{w:World}{A:Option Addr}{N cap:Nat}(hN:N≤4000000)(cs:Nat→ByteArray)(p:Nat→Bool)(hc:lZ w A N cs)(f:Nat)(lb:Array Value)(eg:∀args w,(callFunc f args).run ag w=.ok (.enter f args) w)(hf:∀k,k<N→∀W,Below w.heap.size w W→Calls ag f (#[.string (cs k)]++lb) W (Got (.bool (p k)) W)):Calls ag 143 #[.slice A N cap,.func (.func f) #[] lb] w fun r w'=>(∃z:Int,r=.returned (.int .i64 z)∧UJ p N z)∧Below w.heap.size w w':=by
 obtain⟨HC,HF⟩:=aI hc hf;clear hc hf;go_enter Tryz.func143,Tryz.ntmps143;go_wp2_with fail
 go_loopw [8] (fun v8 wr=>∃k:Nat,k≤N∧v8=.int .i64 k∧af (Below w.heap.size w wr)∧af (∀j,j<k→p j=false)) (fun v8 _=>N-(intOf v8).toNat)
 case atStart=>exact⟨0,bD _,rfl,ae (aG _ _),ae (fun j hj=>absurd hj (Nat.not_lt_zero j))⟩
 case round=>
  obtain⟨k,hk,rfl,hb,hno⟩:=hrel;by_cases hlt:k<N
  ·skip
   obtain⟨q,o,rfl,hcell⟩:=HC.out k hlt;have hcall:=HF.out k hlt wr hb.out;have d0:=(hb.out.cell (aj w _ hcell)).trans hcell;generalize cs k=L at d0 hcall;have bo:=ae hcall;clear hcall hcell;cases hp:p k with
   |true=>
    rw[hp]at bo;have HP:=ae hp;clear hp;go_wp2_with(go_at_fn f;(with_reducible refine bo.out.mono ?_);rintro r w2⟨rfl,e2⟩)
    go_ret;exact⟨⟨_,rfl,.inl ⟨k,hlt,rfl,HP.out,hno.out⟩⟩,after hb.out e2⟩
   |false=>
    rw[hp]at bo;have HP:=ae hp;clear hp;go_wp2_with(go_at_fn f;(with_reducible refine bo.out.mono ?_);rintro r w2⟨rfl,e2⟩)
    go_roundw
    case rel=>
     refine⟨k+1,by omega,by go_num,(aU hb e2),ae (fun j hj=>?_)⟩;by_cases e:j=k
     ·rw[e];exact HP.out
     ·exact hno.out j (by omega)
    case measure=>simp[intOf];omega
  ·obtain rfl:k=N:=by omega
   go_wp2_with fail
   go_ret;exact⟨⟨_,rfl,.inr ⟨rfl,hno.out⟩⟩,hb.out⟩
theorem Wb{w:World}{A:Option Addr}{N cap:Nat}(hN:N≤4000000)(cs:Nat→ByteArray)(p:Nat→Bool)(hc:lZ w A N cs)(f:Nat)(lb:Array Value)(eg:∀args w,(callFunc f args).run ag w=.ok (.enter f args) w)(hf:∀k,k<N→∀W,Below w.heap.size w W→Calls ag f (#[.string (cs k)]++lb) W (Got (.bool (p k)) W)):Calls ag 110 #[.slice A N cap,.func (.func f) #[] lb] w (Got (.bool ((aA N).any p)) w):=by
 have HI:=ae (Wa (cap:=cap) hN cs p hc f lb eg hf);clear hc hf;generalize hR:(aA N).any p=R;have HR:=ae hR;clear hR;go_enter Tryz.func110,Tryz.ntmps110;go_wp2_with(go_at_call 143;(with_reducible refine HI.out.mono ?_);rintro r w2⟨⟨z,rfl,hz⟩,e2⟩)
 go_ret;exact⟨by rw[←HR.out,←hz.any];rfl,e2⟩
theorem QJ{w:World}(x:ByteArray)(g:Nat)(f:Nat)(lb:Array Value)(eg:∀args w,(callFunc f args).run ag w=.ok (.enter f args) w)(hg:w.cell? ⟨g,0,none⟩=some (.func (.func f) #[] lb))(b:Bool)(hf:∀W,Below w.heap.size w W→Calls ag f (#[.string x]++lb) W (Got (.bool b) W)):Calls ag 111 #[.string x,.pointer (some ⟨g,0,none⟩)] w (Got (.bool (!b)) w):=by
 have HF:=ae hf;clear hf;go_enter Tryz.func111,Tryz.ntmps111;go_wp2_with(go_at_fn f;(with_reducible refine(HF.out _ (aG _ _)).mono ?_);rintro r w2⟨rfl,e2⟩)
 go_ret;exact⟨rfl,e2⟩
theorem QK{w:World}{A:Option Addr}{N cap:Nat}(hN:N≤4000000)(cs:Nat→ByteArray)(p:Nat→Bool)(hc:lZ w A N cs)(f:Nat)(lb:Array Value)(eg:∀args w,(callFunc f args).run ag w=.ok (.enter f args) w)(hf:∀k,k<N→∀W,Below w.heap.size w W→Calls ag f (#[.string (cs k)]++lb) W (Got (.bool (p k)) W)):Calls ag 50 #[.slice A N cap,.func (.func f) #[] lb] w (Got (.bool ((aA N).all p)) w):=by
 have hco:=fun u(hu:Below w.heap.size w u)g(hg:u.cell? ⟨g,0,none⟩=some (.func (.func f) #[] lb))=>Wb (cap:=cap) hN cs (fun k=> !p k) (hc.below hu) 111 #[.pointer (some ⟨g,0,none⟩)] (enters_of Tryz.func111 bg rfl)
  fun k hk W hW=>QJ _ g f lb eg (ak hg hW) (p k) fun W2 hW2=>hf k hk W2 (after hu (after hW hW2))
 rw[←qt];generalize((aA N).any fun k=> !p k)=R at hco⊢;have QL:=ae hco;have hb:=boxed w (.cells #[.func (.func f) #[] lb] 106);obtain⟨HG,HB⟩:=aI (show(w.alloc (.cells #[.func (.func f) #[] lb] 106)).cell? ⟨w.heap.size,0,none⟩=some (.func (.func f) #[] lb)from(aD.new w 106 #[.func (.func f) #[] lb]).cell 0) hb;clear hco hc hf hb;go_enter Tryz.func50,Tryz.ntmps50;go_upto_region 1 with fail
 generalize w.alloc (.cells #[.func (.func f) #[] lb] 106)=w1 at HB HG⊢;generalize w.heap.size=G at HG⊢;go_wp2_with(go_at_call 110;(with_reducible refine(QL.out _ HB.out _ HG.out).mono ?_);rintro r w2⟨rfl,e2⟩)
 go_ret;exact⟨rfl,after HB.out e2⟩
theorem QM{w:World}{A:Option Addr}{N cap:Nat}(hN:N≤4000000)(cs:Nat→ByteArray)(p:Nat→Bool)(hc:lZ w A N cs)(f:Nat)(lb:Array Value)(eg:∀args w,(callFunc f args).run ag w=.ok (.enter f args) w)(hf:∀k,k+1<N→∀W,Below w.heap.size w W→Calls ag f (#[.string (cs k),.string (cs (k+1))]++lb) W (Got (.bool (p k)) W)):Calls ag 108 #[.slice A N cap,.func (.func f) #[] lb] w (Got (.bool ((aA (N-1)).all p)) w):=by
 obtain⟨HC,HF⟩:=aI hc hf;clear hc hf;generalize hR:(aA (N-1)).all p=R;have HR:=ae hR;clear hR;go_enter Tryz.func108,Tryz.ntmps108;go_wp2_with fail
 go_loopw [5] (fun v5 wr=>∃k:Nat,k≤N∧v5=.int .i64 ((k:Int)+1)∧af (Below w.heap.size w wr)∧af ((aA k).all p=true∧(k=0∨k+1≤N))) (fun v5 _=>N-(intOf v5).toNat)
 case atStart=>exact⟨0,bD _,rfl,ae (aG _ _),ae ⟨rfl,.inl rfl⟩⟩
 case round=>
  obtain⟨k,hk,rfl,hb,hno⟩:=hrel;have hz:IntKind.i64.wrap (k:Int)=(k:Int):=IntWalk.i64_in _ aM;by_cases hlt:k+1<N
  ·have hlt':(k:Int)+1<(N:Int):=by omega
   have hlt0:(k:Int)<(N:Int):=by omega
   have aah:(0:Int)≤(k:Int)+1:=by omega
   obtain⟨q,o,hA,hcell⟩:=HC.out k aM;obtain⟨q1,o1,hA1,hcell1⟩:=HC.out (k+1) hlt;subst hA;injection hA1 with hA1
   injection hA1 with eq eo _
   subst eq eo;have hcall:=fun u(hu:Below w.heap.size w u)=>HF.out k hlt u hu
   have d0:=(hb.out.cell (aj w _ hcell)).trans hcell;have f0:=(hb.out.cell (aj w _ hcell1)).trans hcell1;generalize cs k=L at d0 hcall;generalize cs (k+1)=M at f0 hcall;have bo:=ae hcall;clear hcall hcell hcell1;cases hp:p k with
   |true=>
    rw[hp]at bo;have HP:=ae hp;clear hp;go_upto_region 4 with fail
    refine wp_region_held_drew (S:=(fun w'=>w'.cell? ⟨q,o+k,none⟩=some (.string L)∧w'.cell? ⟨q,o+(k+1),none⟩=some (.string M))) bg (⟨d0,f0⟩) (fun hHeld=>?_);refine bm 0 ?_
    refine bm 1 ?_
    refine bm 2 ?_
    refine bm 3 ?_
    refine bm 4 ?_
    refine bm 5 ?_
    refine bm 6 ?_
    refine bm 7 ?_
    refine bm 8 ?_
    refine bm 9 ?_
    refine jk 10 fun K hK=>?_;go_simp;go_at_fn f;refine(bo.out _ (Below.oU hb.out)).mono ?_;rintro r wb⟨rfl,db⟩;have eb:=Below.eJ db;clear db;refine hK.out _ _ (⟨ak d0 eb,ak f0 eb⟩) (fun hHeld=>?_);clear hK K;try simp only[cq]
    refine bm 11 ?_
    refine qR ?_;go_wp2_with fail
    go_roundw
    case rel=>exact⟨k+1,by omega,by go_num,(aU hb eb),ae ⟨by rw[eW,hno.out.1,HP.out];rfl,.inr hlt⟩⟩
    case measure=>simp[intOf];omega
   |false=>
    rw[hp]at bo;have dK:af (R=false):=ae (by rw[←HR.out];exact fl aM hp);clear hp;go_upto_region 4 with fail
    refine wp_region_held_drew (S:=(fun w'=>w'.cell? ⟨q,o+k,none⟩=some (.string L)∧w'.cell? ⟨q,o+(k+1),none⟩=some (.string M))) bg (⟨d0,f0⟩) (fun hHeld=>?_);refine bm 0 ?_
    refine bm 1 ?_
    refine bm 2 ?_
    refine bm 3 ?_
    refine bm 4 ?_
    refine bm 5 ?_
    refine bm 6 ?_
    refine bm 7 ?_
    refine bm 8 ?_
    refine bm 9 ?_
    refine jk 10 fun K hK=>?_;go_simp;go_at_fn f;refine(bo.out _ (Below.oU hb.out)).mono ?_;rintro r wb⟨rfl,db⟩;have eb:=Below.eJ db;clear db;refine hK.out _ _ (⟨ak d0 eb,ak f0 eb⟩) (fun hHeld=>?_);clear hK K;try simp only[cq]
    refine bm 11 ?_
    refine qR ?_;go_wp2_with fail
    go_ret;exact⟨by rw[dK.out];rfl,after hb.out eb⟩
  ·have hge:¬(k:Int)+1<(N:Int):=by omega
   have Wc:af (R=true):=ae (by rw[←HR.out,show N-1=k by have:=hno.out.2;omega];exact hno.out.1);go_wp2_with fail
   go_ret;exact⟨by rw[Wc.out];rfl,hb.out⟩
theorem QN{w:World}{A:Option Addr}{N cap:Nat}(hN:N≤4000000)(cs:Nat→List Value)(p:Nat→Bool)(hc:dh w A N 3 cs)(f:Nat)(lb:Array Value)(eg:∀args w,(callFunc f args).run ag w=.ok (.enter f args) w)(hf:∀k,k<N→∀W,Below w.heap.size w W→Calls ag f (#[.agg (cs k).toArray]++lb) W (Got (.bool (p k)) W)):Calls ag 254 #[.slice A N cap,.func (.func f) #[] lb] w fun r w'=>(∃z:Int,r=.returned (.int .i64 z)∧UJ p N z)∧Below w.heap.size w w':=by
 obtain⟨HC,HF⟩:=aI hc hf;clear hc hf;go_enter Tryz.func254,Tryz.ntmps254;go_wp2_with fail
 go_loopw [8] (fun v8 wr=>∃k:Nat,k≤N∧v8=.int .i64 k∧af (Below w.heap.size w wr)∧af (∀j,j<k→p j=false)) (fun v8 _=>N-(intOf v8).toNat)
 case atStart=>exact⟨0,bD _,rfl,ae (aG _ _),ae (fun j hj=>absurd hj (Nat.not_lt_zero j))⟩
 case round=>
  obtain⟨k,hk,rfl,hb,hno⟩:=hrel;by_cases hlt:k<N
  ·skip
   obtain⟨hlen,q,o,rfl,hcell⟩:=HC.out k hlt;have hcall:=HF.out k hlt wr hb.out;generalize hcs:cs k=L at hlen hcell hcall;clear hcs;obtain⟨c0,c1,c2,hL⟩:∃c0 c1 c2,L=[c0,c1,c2]:=by
    match L,hlen with
    |[c0,c1,c2],_=>exact⟨c0,c1,c2,rfl⟩
   subst hL;have d0:=(hb.out.cell (aj w _ (hcell 0 _ rfl))).trans (hcell 0 _ rfl);have d1:=(hb.out.cell (aj w _ (hcell 1 _ rfl))).trans (hcell 1 _ rfl);have d2:=(hb.out.cell (aj w _ (hcell 2 _ rfl))).trans (hcell 2 _ rfl);rw[dq]at d0;have bo:=ae hcall;clear hcall hcell hlen;cases hp:p k with
   |true=>
    rw[hp]at bo;have HP:=ae hp;clear hp;go_wp2_with(go_at_fn f;(with_reducible refine bo.out.mono ?_);rintro r w2⟨rfl,e2⟩)
    go_ret;exact⟨⟨_,rfl,.inl ⟨k,hlt,rfl,HP.out,hno.out⟩⟩,after hb.out e2⟩
   |false=>
    rw[hp]at bo;have HP:=ae hp;clear hp;go_wp2_with(go_at_fn f;(with_reducible refine bo.out.mono ?_);rintro r w2⟨rfl,e2⟩)
    go_roundw
    case rel=>
     refine⟨k+1,by omega,by go_num,(aU hb e2),ae (fun j hj=>?_)⟩;by_cases e:j=k
     ·rw[e];exact HP.out
     ·exact hno.out j (by omega)
    case measure=>simp[intOf];omega
  ·obtain rfl:k=N:=by omega
   go_wp2_with fail
   go_ret;exact⟨⟨_,rfl,.inr ⟨rfl,hno.out⟩⟩,hb.out⟩
theorem QO{w:World}{A:Option Addr}{N cap:Nat}(hN:N≤4000000)(cs:Nat→List Value)(p:Nat→Bool)(hc:dh w A N 3 cs)(f:Nat)(lb:Array Value)(eg:∀args w,(callFunc f args).run ag w=.ok (.enter f args) w)(hf:∀k,k<N→∀W,Below w.heap.size w W→Calls ag f (#[.agg (cs k).toArray]++lb) W (Got (.bool (p k)) W)):Calls ag 210 #[.slice A N cap,.func (.func f) #[] lb] w (Got (.bool ((aA N).any p)) w):=by
 have HI:=ae (QN (cap:=cap) hN cs p hc f lb eg hf);clear hc hf;generalize hR:(aA N).any p=R;have HR:=ae hR;clear hR;go_enter Tryz.func210,Tryz.ntmps210;go_wp2_with(go_at_call 254;(with_reducible refine HI.out.mono ?_);rintro r w2⟨⟨z,rfl,hz⟩,e2⟩)
 go_ret;exact⟨by rw[←HR.out,←hz.any];rfl,e2⟩
theorem Md{w:World}(L:List Value)(hl:L.length=3)(g:Nat)(f:Nat)(lb:Array Value)(eg:∀args w,(callFunc f args).run ag w=.ok (.enter f args) w)(hg:w.cell? ⟨g,0,none⟩=some (.func (.func f) #[] lb))(b:Bool)(hf:∀W,Below w.heap.size w W→Calls ag f (#[.agg L.toArray]++lb) W (Got (.bool b) W)):Calls ag 211 #[.agg L.toArray,.pointer (some ⟨g,0,none⟩)] w (Got (.bool (!b)) w):=by
 obtain⟨c0,c1,c2,hL⟩:∃c0 c1 c2,L=[c0,c1,c2]:=by
  match L,hl with
  |[c0,c1,c2],_=>exact⟨c0,c1,c2,rfl⟩
 subst hL;have HF:=ae hf;have hb:=boxed w (.cells #[c0,c1,c2] 54);have HS:=ae (aD.new w 54 #[c0,c1,c2]);have g0:=ak hg hb;have HB:=ae hb;clear hf hg hb hl;go_enter Tryz.func211,Tryz.ntmps211;go_upto_region 1 with fail
 generalize w.alloc (.cells #[c0,c1,c2] 54)=w1 at HB HS g0⊢;generalize w.heap.size=G at HS⊢;obtain⟨s0,s1,s2⟩:=iE HS;go_wp2_with(go_at_fn f;(with_reducible refine(HF.out _ HB.out).mono ?_);rintro r w2⟨rfl,e2⟩)
 go_ret;exact⟨rfl,after HB.out e2⟩
theorem Me{w:World}{A:Option Addr}{N cap:Nat}(hN:N≤4000000)(cs:Nat→List Value)(p:Nat→Bool)(hc:dh w A N 3 cs)(f:Nat)(lb:Array Value)(eg:∀args w,(callFunc f args).run ag w=.ok (.enter f args) w)(hf:∀k,k<N→∀W,Below w.heap.size w W→Calls ag f (#[.agg (cs k).toArray]++lb) W (Got (.bool (p k)) W)):Calls ag 167 #[.slice A N cap,.func (.func f) #[] lb] w (Got (.bool ((aA N).all p)) w):=by
 have hco:=fun u(hu:Below w.heap.size w u)g(hg:u.cell? ⟨g,0,none⟩=some (.func (.func f) #[] lb))=>QO (cap:=cap) hN cs (fun k=> !p k) (hc.below hu) 211 #[.pointer (some ⟨g,0,none⟩)] (enters_of Tryz.func211 bg rfl)
  fun k hk W hW=>Md _ (hc k hk).1 g f lb eg (ak hg hW) (p k) fun W2 hW2=>hf k hk W2 (after hu (after hW hW2))
 rw[←qt];generalize((aA N).any fun k=> !p k)=R at hco⊢;have QL:=ae hco;have hb:=boxed w (.cells #[.func (.func f) #[] lb] 174);obtain⟨HG,HB⟩:=aI (show(w.alloc (.cells #[.func (.func f) #[] lb] 174)).cell? ⟨w.heap.size,0,none⟩=some (.func (.func f) #[] lb)from(aD.new w 174 #[.func (.func f) #[] lb]).cell 0) hb;clear hco hc hf hb;go_enter Tryz.func167,Tryz.ntmps167;go_upto_region 1 with fail
 generalize w.alloc (.cells #[.func (.func f) #[] lb] 174)=w1 at HB HG⊢;generalize w.heap.size=G at HG⊢;go_wp2_with(go_at_call 210;(with_reducible refine(QL.out _ HB.out _ HG.out).mono ?_);rintro r w2⟨rfl,e2⟩)
 go_ret;exact⟨rfl,after HB.out e2⟩
theorem MA{w:World}{A:Option Addr}{N cap:Nat}(hN:N≤4000000)(cs:Nat→List Value)(p:Nat→Bool)(hc:dh w A N 3 cs)(f:Nat)(lb:Array Value)(eg:∀args w,(callFunc f args).run ag w=.ok (.enter f args) w)(hf:∀k,k+1<N→∀W,Below w.heap.size w W→Calls ag f (#[.agg (cs k).toArray,.agg (cs (k+1)).toArray]++lb) W (Got (.bool (p k)) W)):Calls ag 168 #[.slice A N cap,.func (.func f) #[] lb] w (Got (.bool ((aA (N-1)).all p)) w):=by
 obtain⟨HC,HF⟩:=aI hc hf;clear hc hf;generalize hR:(aA (N-1)).all p=R;have HR:=ae hR;clear hR;go_enter Tryz.func168,Tryz.ntmps168;go_wp2_with fail
 go_loopw [5] (fun v5 wr=>∃k:Nat,k≤N∧v5=.int .i64 ((k:Int)+1)∧af (Below w.heap.size w wr)∧af ((aA k).all p=true∧(k=0∨k+1≤N))) (fun v5 _=>N-(intOf v5).toNat)
 case atStart=>exact⟨0,bD _,rfl,ae (aG _ _),ae ⟨rfl,.inl rfl⟩⟩
 case round=>
  obtain⟨k,hk,rfl,hb,hno⟩:=hrel;have hz:IntKind.i64.wrap (k:Int)=(k:Int):=IntWalk.i64_in _ aM;by_cases hlt:k+1<N
  ·have hlt':(k:Int)+1<(N:Int):=by omega
   have hlt0:(k:Int)<(N:Int):=by omega
   have aah:(0:Int)≤(k:Int)+1:=by omega
   obtain⟨hlen,q,o,hA,hcell⟩:=HC.out k aM;obtain⟨hlen1,q1,o1,hA1,hcell1⟩:=HC.out (k+1) hlt;subst hA;injection hA1 with hA1
   injection hA1 with eq eo _
   subst eq eo;have hcall:=fun u(hu:Below w.heap.size w u)=>HF.out k hlt u hu
   generalize hcs:cs k=L at hlen hcell hcall;generalize hcs1:cs (k+1)=M at hlen1 hcell1 hcall;clear hcs hcs1;obtain⟨c0,c1,c2,hL⟩:∃c0 c1 c2,L=[c0,c1,c2]:=by
    match L,hlen with
    |[c0,c1,c2],_=>exact⟨c0,c1,c2,rfl⟩
   obtain⟨e0,e1,e2,hM⟩:∃e0 e1 e2,M=[e0,e1,e2]:=by
    match M,hlen1 with
    |[e0,e1,e2],_=>exact⟨e0,e1,e2,rfl⟩
   subst hL hM;have d0:=(hb.out.cell (aj w _ (hcell 0 _ rfl))).trans (hcell 0 _ rfl);have d1:=(hb.out.cell (aj w _ (hcell 1 _ rfl))).trans (hcell 1 _ rfl);have d2:=(hb.out.cell (aj w _ (hcell 2 _ rfl))).trans (hcell 2 _ rfl);have f0:=(hb.out.cell (aj w _ (hcell1 0 _ rfl))).trans (hcell1 0 _ rfl);have f1:=(hb.out.cell (aj w _ (hcell1 1 _ rfl))).trans (hcell1 1 _ rfl);have f2:=(hb.out.cell (aj w _ (hcell1 2 _ rfl))).trans (hcell1 2 _ rfl);rw[dq]at d0 f0;have bo:=ae hcall;clear hcall hcell hlen hcell1 hlen1;cases hp:p k with
   |true=>
    rw[hp]at bo;have HP:=ae hp;clear hp;go_upto_region 4 with fail
    refine wp_region_held_drew (S:=(fun w'=>w'.cell? ⟨q,o+k*3,none⟩=some c0∧w'.cell? ⟨q,o+k*3+1,none⟩=some c1∧w'.cell? ⟨q,o+k*3+2,none⟩=some c2∧w'.cell? ⟨q,o+(k+1)*3,none⟩=some e0∧w'.cell? ⟨q,o+(k+1)*3+1,none⟩=some e1∧w'.cell? ⟨q,o+(k+1)*3+2,none⟩=some e2)) bg (⟨d0,d1,d2,f0,f1,f2⟩) (fun hHeld=>?_);refine bm 0 ?_
    refine bm 1 ?_
    refine bm 2 ?_
    refine bm 3 ?_
    refine bm 4 ?_
    refine bm 5 ?_
    refine bm 6 ?_
    refine bm 7 ?_
    refine bm 8 ?_
    refine bm 9 ?_
    refine jk 10 fun K hK=>?_;go_simp;go_at_fn f;refine(bo.out _ (Below.oU hb.out)).mono ?_;rintro r wb⟨rfl,db⟩;have eb:=Below.eJ db;clear db;refine hK.out _ _ (⟨ak d0 eb,ak d1 eb,ak d2 eb,ak f0 eb,ak f1 eb,ak f2 eb⟩) (fun hHeld=>?_);clear hK K;try simp only[cq]
    refine bm 11 ?_
    refine qR ?_;go_wp2_with fail
    go_roundw
    case rel=>exact⟨k+1,by omega,by go_num,(aU hb eb),ae ⟨by rw[eW,hno.out.1,HP.out];rfl,.inr hlt⟩⟩
    case measure=>simp[intOf];omega
   |false=>
    rw[hp]at bo;have dK:af (R=false):=ae (by rw[←HR.out];exact fl aM hp);clear hp;go_upto_region 4 with fail
    refine wp_region_held_drew (S:=(fun w'=>w'.cell? ⟨q,o+k*3,none⟩=some c0∧w'.cell? ⟨q,o+k*3+1,none⟩=some c1∧w'.cell? ⟨q,o+k*3+2,none⟩=some c2∧w'.cell? ⟨q,o+(k+1)*3,none⟩=some e0∧w'.cell? ⟨q,o+(k+1)*3+1,none⟩=some e1∧w'.cell? ⟨q,o+(k+1)*3+2,none⟩=some e2)) bg (⟨d0,d1,d2,f0,f1,f2⟩) (fun hHeld=>?_);refine bm 0 ?_
    refine bm 1 ?_
    refine bm 2 ?_
    refine bm 3 ?_
    refine bm 4 ?_
    refine bm 5 ?_
    refine bm 6 ?_
    refine bm 7 ?_
    refine bm 8 ?_
    refine bm 9 ?_
    refine jk 10 fun K hK=>?_;go_simp;go_at_fn f;refine(bo.out _ (Below.oU hb.out)).mono ?_;rintro r wb⟨rfl,db⟩;have eb:=Below.eJ db;clear db;refine hK.out _ _ (⟨ak d0 eb,ak d1 eb,ak d2 eb,ak f0 eb,ak f1 eb,ak f2 eb⟩) (fun hHeld=>?_);clear hK K;try simp only[cq]
    refine bm 11 ?_
    refine qR ?_;go_wp2_with fail
    go_ret;exact⟨by rw[dK.out];rfl,after hb.out eb⟩
  ·have hge:¬(k:Int)+1<(N:Int):=by omega
   have Wc:af (R=true):=ae (by rw[←HR.out,show N-1=k by have:=hno.out.2;omega];exact hno.out.1);go_wp2_with fail
   go_ret;exact⟨by rw[Wc.out];rfl,hb.out⟩
theorem QP{w:World}{A:Option Addr}{N cap:Nat}(hN:N≤4000000)(cs:Nat→List Value)(p:Nat→Bool)(hc:dh w A N 6 cs)(f:Nat)(lb:Array Value)(eg:∀args w,(callFunc f args).run ag w=.ok (.enter f args) w)(hf:∀k,k<N→∀W,Below w.heap.size w W→Calls ag f (#[.agg (cs k).toArray]++lb) W (Got (.bool (p k)) W)):Calls ag 135 #[.slice A N cap,.func (.func f) #[] lb] w fun r w'=>(∃z:Int,r=.returned (.int .i64 z)∧UJ p N z)∧Below w.heap.size w w':=by
 obtain⟨HC,HF⟩:=aI hc hf;clear hc hf;go_enter Tryz.func135,Tryz.ntmps135;go_wp2_with fail
 go_loopw [8] (fun v8 wr=>∃k:Nat,k≤N∧v8=.int .i64 k∧af (Below w.heap.size w wr)∧af (∀j,j<k→p j=false)) (fun v8 _=>N-(intOf v8).toNat)
 case atStart=>exact⟨0,bD _,rfl,ae (aG _ _),ae (fun j hj=>absurd hj (Nat.not_lt_zero j))⟩
 case round=>
  obtain⟨k,hk,rfl,hb,hno⟩:=hrel;by_cases hlt:k<N
  ·skip
   obtain⟨hlen,q,o,rfl,hcell⟩:=HC.out k hlt;have hcall:=HF.out k hlt wr hb.out;generalize hcs:cs k=L at hlen hcell hcall;clear hcs;obtain⟨c0,c1,c2,c3,c4,c5,hL⟩:∃c0 c1 c2 c3 c4 c5,L=[c0,c1,c2,c3,c4,c5]:=by
    match L,hlen with
    |[c0,c1,c2,c3,c4,c5],_=>exact⟨c0,c1,c2,c3,c4,c5,rfl⟩
   subst hL;have d0:=(hb.out.cell (aj w _ (hcell 0 _ rfl))).trans (hcell 0 _ rfl);have d1:=(hb.out.cell (aj w _ (hcell 1 _ rfl))).trans (hcell 1 _ rfl);have d2:=(hb.out.cell (aj w _ (hcell 2 _ rfl))).trans (hcell 2 _ rfl);have d3:=(hb.out.cell (aj w _ (hcell 3 _ rfl))).trans (hcell 3 _ rfl);have d4:=(hb.out.cell (aj w _ (hcell 4 _ rfl))).trans (hcell 4 _ rfl);have d5:=(hb.out.cell (aj w _ (hcell 5 _ rfl))).trans (hcell 5 _ rfl);rw[dq]at d0;have bo:=ae hcall;clear hcall hcell hlen;cases hp:p k with
   |true=>
    rw[hp]at bo;have HP:=ae hp;clear hp;go_wp2_with(go_at_fn f;(with_reducible refine bo.out.mono ?_);rintro r w2⟨rfl,e2⟩)
    go_ret;exact⟨⟨_,rfl,.inl ⟨k,hlt,rfl,HP.out,hno.out⟩⟩,after hb.out e2⟩
   |false=>
    rw[hp]at bo;have HP:=ae hp;clear hp;go_wp2_with(go_at_fn f;(with_reducible refine bo.out.mono ?_);rintro r w2⟨rfl,e2⟩)
    go_roundw
    case rel=>
     refine⟨k+1,by omega,by go_num,(aU hb e2),ae (fun j hj=>?_)⟩;by_cases e:j=k
     ·rw[e];exact HP.out
     ·exact hno.out j (by omega)
    case measure=>simp[intOf];omega
  ·obtain rfl:k=N:=by omega
   go_wp2_with fail
   go_ret;exact⟨⟨_,rfl,.inr ⟨rfl,hno.out⟩⟩,hb.out⟩
theorem Db{w:World}{A:Option Addr}{N cap:Nat}(hN:N≤4000000)(cs:Nat→List Value)(p:Nat→Bool)(hc:dh w A N 6 cs)(f:Nat)(lb:Array Value)(eg:∀args w,(callFunc f args).run ag w=.ok (.enter f args) w)(hf:∀k,k<N→∀W,Below w.heap.size w W→Calls ag f (#[.agg (cs k).toArray]++lb) W (Got (.bool (p k)) W)):Calls ag 75 #[.slice A N cap,.func (.func f) #[] lb] w (Got (.bool ((aA N).any p)) w):=by
 have HI:=ae (QP (cap:=cap) hN cs p hc f lb eg hf);clear hc hf;generalize hR:(aA N).any p=R;have HR:=ae hR;clear hR;go_enter Tryz.func75,Tryz.ntmps75;go_wp2_with(go_at_call 135;(with_reducible refine HI.out.mono ?_);rintro r w2⟨⟨z,rfl,hz⟩,e2⟩)
 go_ret;exact⟨by rw[←HR.out,←hz.any];rfl,e2⟩
theorem MB{w:World}(L:List Value)(hl:L.length=6)(g:Nat)(f:Nat)(lb:Array Value)(eg:∀args w,(callFunc f args).run ag w=.ok (.enter f args) w)(hg:w.cell? ⟨g,0,none⟩=some (.func (.func f) #[] lb))(b:Bool)(hf:∀W,Below w.heap.size w W→Calls ag f (#[.agg L.toArray]++lb) W (Got (.bool b) W)):Calls ag 170 #[.agg L.toArray,.pointer (some ⟨g,0,none⟩)] w (Got (.bool (!b)) w):=by
 obtain⟨c0,c1,c2,c3,c4,c5,hL⟩:∃c0 c1 c2 c3 c4 c5,L=[c0,c1,c2,c3,c4,c5]:=by
  match L,hl with
  |[c0,c1,c2,c3,c4,c5],_=>exact⟨c0,c1,c2,c3,c4,c5,rfl⟩
 subst hL;have HF:=ae hf;have hb:=boxed w (.cells #[c0,c1,c2,c3,c4,c5] 84);have HS:=ae (aD.new w 84 #[c0,c1,c2,c3,c4,c5]);have g0:=ak hg hb;have HB:=ae hb;clear hf hg hb hl;go_enter Tryz.func170,Tryz.ntmps170;go_upto_region 1 with fail
 generalize w.alloc (.cells #[c0,c1,c2,c3,c4,c5] 84)=w1 at HB HS g0⊢;generalize w.heap.size=G at HS⊢;obtain⟨s0,s1,s2,s3,s4,s5⟩:=wN HS;go_wp2_with(go_at_fn f;(with_reducible refine(HF.out _ HB.out).mono ?_);rintro r w2⟨rfl,e2⟩)
 go_ret;exact⟨rfl,after HB.out e2⟩
theorem MC{w:World}{A:Option Addr}{N cap:Nat}(hN:N≤4000000)(cs:Nat→List Value)(p:Nat→Bool)(hc:dh w A N 6 cs)(f:Nat)(lb:Array Value)(eg:∀args w,(callFunc f args).run ag w=.ok (.enter f args) w)(hf:∀k,k<N→∀W,Below w.heap.size w W→Calls ag f (#[.agg (cs k).toArray]++lb) W (Got (.bool (p k)) W)):Calls ag 129 #[.slice A N cap,.func (.func f) #[] lb] w (Got (.bool ((aA N).all p)) w):=by
 have hco:=fun u(hu:Below w.heap.size w u)g(hg:u.cell? ⟨g,0,none⟩=some (.func (.func f) #[] lb))=>Db (cap:=cap) hN cs (fun k=> !p k) (hc.below hu) 170 #[.pointer (some ⟨g,0,none⟩)] (enters_of Tryz.func170 bg rfl)
  fun k hk W hW=>MB _ (hc k hk).1 g f lb eg (ak hg hW) (p k) fun W2 hW2=>hf k hk W2 (after hu (after hW hW2))
 rw[←qt];generalize((aA N).any fun k=> !p k)=R at hco⊢;have QL:=ae hco;have hb:=boxed w (.cells #[.func (.func f) #[] lb] 125);obtain⟨HG,HB⟩:=aI (show(w.alloc (.cells #[.func (.func f) #[] lb] 125)).cell? ⟨w.heap.size,0,none⟩=some (.func (.func f) #[] lb)from(aD.new w 125 #[.func (.func f) #[] lb]).cell 0) hb;clear hco hc hf hb;go_enter Tryz.func129,Tryz.ntmps129;go_upto_region 1 with fail
 generalize w.alloc (.cells #[.func (.func f) #[] lb] 125)=w1 at HB HG⊢;generalize w.heap.size=G at HG⊢;go_wp2_with(go_at_call 75;(with_reducible refine(QL.out _ HB.out _ HG.out).mono ?_);rintro r w2⟨rfl,e2⟩)
 go_ret;exact⟨rfl,after HB.out e2⟩
theorem ME{w:World}{A:Option Addr}{N cap:Nat}(hN:N≤4000000)(cs:Nat→List Value)(p:Nat→Bool)(hc:dh w A N 6 cs)(f:Nat)(lb:Array Value)(eg:∀args w,(callFunc f args).run ag w=.ok (.enter f args) w)(hf:∀k,k+1<N→∀W,Below w.heap.size w W→Calls ag f (#[.agg (cs k).toArray,.agg (cs (k+1)).toArray]++lb) W (Got (.bool (p k)) W)):Calls ag 127 #[.slice A N cap,.func (.func f) #[] lb] w (Got (.bool ((aA (N-1)).all p)) w):=by
 obtain⟨HC,HF⟩:=aI hc hf;clear hc hf;generalize hR:(aA (N-1)).all p=R;have HR:=ae hR;clear hR;go_enter Tryz.func127,Tryz.ntmps127;go_wp2_with fail
 go_loopw [5] (fun v5 wr=>∃k:Nat,k≤N∧v5=.int .i64 ((k:Int)+1)∧af (Below w.heap.size w wr)∧af ((aA k).all p=true∧(k=0∨k+1≤N))) (fun v5 _=>N-(intOf v5).toNat)
 case atStart=>exact⟨0,bD _,rfl,ae (aG _ _),ae ⟨rfl,.inl rfl⟩⟩
 case round=>
  obtain⟨k,hk,rfl,hb,hno⟩:=hrel;have hz:IntKind.i64.wrap (k:Int)=(k:Int):=IntWalk.i64_in _ aM;by_cases hlt:k+1<N
  ·have hlt':(k:Int)+1<(N:Int):=by omega
   have hlt0:(k:Int)<(N:Int):=by omega
   have aah:(0:Int)≤(k:Int)+1:=by omega
   obtain⟨hlen,q,o,hA,hcell⟩:=HC.out k aM;obtain⟨hlen1,q1,o1,hA1,hcell1⟩:=HC.out (k+1) hlt;subst hA;injection hA1 with hA1
   injection hA1 with eq eo _
   subst eq eo;have hcall:=fun u(hu:Below w.heap.size w u)=>HF.out k hlt u hu
   generalize hcs:cs k=L at hlen hcell hcall;generalize hcs1:cs (k+1)=M at hlen1 hcell1 hcall;clear hcs hcs1;obtain⟨c0,c1,c2,c3,c4,c5,hL⟩:∃c0 c1 c2 c3 c4 c5,L=[c0,c1,c2,c3,c4,c5]:=by
    match L,hlen with
    |[c0,c1,c2,c3,c4,c5],_=>exact⟨c0,c1,c2,c3,c4,c5,rfl⟩
   obtain⟨e0,e1,e2,e3,e4,e5,hM⟩:∃e0 e1 e2 e3 e4 e5,M=[e0,e1,e2,e3,e4,e5]:=by
    match M,hlen1 with
    |[e0,e1,e2,e3,e4,e5],_=>exact⟨e0,e1,e2,e3,e4,e5,rfl⟩
   subst hL hM;have d0:=(hb.out.cell (aj w _ (hcell 0 _ rfl))).trans (hcell 0 _ rfl);have d1:=(hb.out.cell (aj w _ (hcell 1 _ rfl))).trans (hcell 1 _ rfl);have d2:=(hb.out.cell (aj w _ (hcell 2 _ rfl))).trans (hcell 2 _ rfl);have d3:=(hb.out.cell (aj w _ (hcell 3 _ rfl))).trans (hcell 3 _ rfl);have d4:=(hb.out.cell (aj w _ (hcell 4 _ rfl))).trans (hcell 4 _ rfl);have d5:=(hb.out.cell (aj w _ (hcell 5 _ rfl))).trans (hcell 5 _ rfl);have f0:=(hb.out.cell (aj w _ (hcell1 0 _ rfl))).trans (hcell1 0 _ rfl);have f1:=(hb.out.cell (aj w _ (hcell1 1 _ rfl))).trans (hcell1 1 _ rfl);have f2:=(hb.out.cell (aj w _ (hcell1 2 _ rfl))).trans (hcell1 2 _ rfl);have f3:=(hb.out.cell (aj w _ (hcell1 3 _ rfl))).trans (hcell1 3 _ rfl);have f4:=(hb.out.cell (aj w _ (hcell1 4 _ rfl))).trans (hcell1 4 _ rfl);have f5:=(hb.out.cell (aj w _ (hcell1 5 _ rfl))).trans (hcell1 5 _ rfl);rw[dq]at d0 f0;have bo:=ae hcall;clear hcall hcell hlen hcell1 hlen1;cases hp:p k with
   |true=>
    rw[hp]at bo;have HP:=ae hp;clear hp;go_upto_region 4 with fail
    refine wp_region_held_drew (S:=(fun w'=>w'.cell? ⟨q,o+k*6,none⟩=some c0∧w'.cell? ⟨q,o+k*6+1,none⟩=some c1∧w'.cell? ⟨q,o+k*6+2,none⟩=some c2∧w'.cell? ⟨q,o+k*6+3,none⟩=some c3∧w'.cell? ⟨q,o+k*6+4,none⟩=some c4∧w'.cell? ⟨q,o+k*6+5,none⟩=some c5∧w'.cell? ⟨q,o+(k+1)*6,none⟩=some e0∧w'.cell? ⟨q,o+(k+1)*6+1,none⟩=some e1∧w'.cell? ⟨q,o+(k+1)*6+2,none⟩=some e2∧w'.cell? ⟨q,o+(k+1)*6+3,none⟩=some e3∧w'.cell? ⟨q,o+(k+1)*6+4,none⟩=some e4∧w'.cell? ⟨q,o+(k+1)*6+5,none⟩=some e5)) bg (⟨d0,d1,d2,d3,d4,d5,f0,f1,f2,f3,f4,f5⟩) (fun hHeld=>?_);refine bm 0 ?_
    refine bm 1 ?_
    refine bm 2 ?_
    refine bm 3 ?_
    refine bm 4 ?_
    refine bm 5 ?_
    refine bm 6 ?_
    refine bm 7 ?_
    refine bm 8 ?_
    refine bm 9 ?_
    refine jk 10 fun K hK=>?_;go_simp;go_at_fn f;refine(bo.out _ (Below.oU hb.out)).mono ?_;rintro r wb⟨rfl,db⟩;have eb:=Below.eJ db;clear db;refine hK.out _ _ (⟨ak d0 eb,ak d1 eb,ak d2 eb,ak d3 eb,ak d4 eb,ak d5 eb,ak f0 eb,ak f1 eb,ak f2 eb,ak f3 eb,ak f4 eb,ak f5 eb⟩) (fun hHeld=>?_);clear hK K;try simp only[cq]
    refine bm 11 ?_
    refine qR ?_;go_wp2_with fail
    go_roundw
    case rel=>exact⟨k+1,by omega,by go_num,(aU hb eb),ae ⟨by rw[eW,hno.out.1,HP.out];rfl,.inr hlt⟩⟩
    case measure=>simp[intOf];omega
   |false=>
    rw[hp]at bo;have dK:af (R=false):=ae (by rw[←HR.out];exact fl aM hp);clear hp;go_upto_region 4 with fail
    refine wp_region_held_drew (S:=(fun w'=>w'.cell? ⟨q,o+k*6,none⟩=some c0∧w'.cell? ⟨q,o+k*6+1,none⟩=some c1∧w'.cell? ⟨q,o+k*6+2,none⟩=some c2∧w'.cell? ⟨q,o+k*6+3,none⟩=some c3∧w'.cell? ⟨q,o+k*6+4,none⟩=some c4∧w'.cell? ⟨q,o+k*6+5,none⟩=some c5∧w'.cell? ⟨q,o+(k+1)*6,none⟩=some e0∧w'.cell? ⟨q,o+(k+1)*6+1,none⟩=some e1∧w'.cell? ⟨q,o+(k+1)*6+2,none⟩=some e2∧w'.cell? ⟨q,o+(k+1)*6+3,none⟩=some e3∧w'.cell? ⟨q,o+(k+1)*6+4,none⟩=some e4∧w'.cell? ⟨q,o+(k+1)*6+5,none⟩=some e5)) bg (⟨d0,d1,d2,d3,d4,d5,f0,f1,f2,f3,f4,f5⟩) (fun hHeld=>?_);refine bm 0 ?_
    refine bm 1 ?_
    refine bm 2 ?_
    refine bm 3 ?_
    refine bm 4 ?_
    refine bm 5 ?_
    refine bm 6 ?_
    refine bm 7 ?_
    refine bm 8 ?_
    refine bm 9 ?_
    refine jk 10 fun K hK=>?_;go_simp;go_at_fn f;refine(bo.out _ (Below.oU hb.out)).mono ?_;rintro r wb⟨rfl,db⟩;have eb:=Below.eJ db;clear db;refine hK.out _ _ (⟨ak d0 eb,ak d1 eb,ak d2 eb,ak d3 eb,ak d4 eb,ak d5 eb,ak f0 eb,ak f1 eb,ak f2 eb,ak f3 eb,ak f4 eb,ak f5 eb⟩) (fun hHeld=>?_);clear hK K;try simp only[cq]
    refine bm 11 ?_
    refine qR ?_;go_wp2_with fail
    go_ret;exact⟨by rw[dK.out];rfl,after hb.out eb⟩
  ·have hge:¬(k:Int)+1<(N:Int):=by omega
   have Wc:af (R=true):=ae (by rw[←HR.out,show N-1=k by have:=hno.out.2;omega];exact hno.out.1);go_wp2_with fail
   go_ret;exact⟨by rw[Wc.out];rfl,hb.out⟩
theorem MF{w:World}(L:List Value)(hl:L.length=8)(g:Nat)(f:Nat)(lb:Array Value)(eg:∀args w,(callFunc f args).run ag w=.ok (.enter f args) w)(hg:w.cell? ⟨g,0,none⟩=some (.func (.func f) #[] lb))(b:Bool)(hf:∀W,Below w.heap.size w W→Calls ag f (#[.agg L.toArray]++lb) W (Got (.bool b) W)):Calls ag 134 #[.agg L.toArray,.pointer (some ⟨g,0,none⟩)] w (Got (.bool (!b)) w):=by
 obtain⟨c0,c1,c2,c3,c4,c5,c6,c7,hL⟩:∃c0 c1 c2 c3 c4 c5 c6 c7,L=[c0,c1,c2,c3,c4,c5,c6,c7]:=by
  match L,hl with
  |[c0,c1,c2,c3,c4,c5,c6,c7],_=>exact⟨c0,c1,c2,c3,c4,c5,c6,c7,rfl⟩
 subst hL;have HF:=ae hf;have hb:=boxed w (.cells #[c0,c1,c2,c3,c4,c5,c6,c7] 50);have HS:=ae (aD.new w 50 #[c0,c1,c2,c3,c4,c5,c6,c7]);have g0:=ak hg hb;have HB:=ae hb;clear hf hg hb hl;go_enter Tryz.func134,Tryz.ntmps134;go_upto_region 1 with fail
 generalize w.alloc (.cells #[c0,c1,c2,c3,c4,c5,c6,c7] 50)=w1 at HB HS g0⊢;generalize w.heap.size=G at HS⊢;obtain⟨s0,s1,s2,s3,s4,s5,s6,s7⟩:=cU HS;go_wp2_with(go_at_fn f;(with_reducible refine(HF.out _ HB.out).mono ?_);rintro r w2⟨rfl,e2⟩)
 go_ret;exact⟨rfl,after HB.out e2⟩
theorem MG{w:World}{A:Option Addr}{N cap:Nat}(hN:N≤4000000)(cs:Nat→List Value)(p:Nat→Bool)(hc:dh w A N 8 cs)(f:Nat)(lb:Array Value)(eg:∀args w,(callFunc f args).run ag w=.ok (.enter f args) w)(hf:∀k,k<N→∀W,Below w.heap.size w W→Calls ag f (#[.agg (cs k).toArray]++lb) W (Got (.bool (p k)) W)):Calls ag 73 #[.slice A N cap,.func (.func f) #[] lb] w (Got (.bool ((aA N).all p)) w):=by
 have hco:=fun u(hu:Below w.heap.size w u)g(hg:u.cell? ⟨g,0,none⟩=some (.func (.func f) #[] lb))=>QD (cap:=cap) hN cs (fun k=> !p k) (hc.below hu) 134 #[.pointer (some ⟨g,0,none⟩)] (enters_of Tryz.func134 bg rfl)
  fun k hk W hW=>MF _ (hc k hk).1 g f lb eg (ak hg hW) (p k) fun W2 hW2=>hf k hk W2 (after hu (after hW hW2))
 rw[←qt];generalize((aA N).any fun k=> !p k)=R at hco⊢;have QL:=ae hco;have hb:=boxed w (.cells #[.func (.func f) #[] lb] 109);obtain⟨HG,HB⟩:=aI (show(w.alloc (.cells #[.func (.func f) #[] lb] 109)).cell? ⟨w.heap.size,0,none⟩=some (.func (.func f) #[] lb)from(aD.new w 109 #[.func (.func f) #[] lb]).cell 0) hb;clear hco hc hf hb;go_enter Tryz.func73,Tryz.ntmps73;go_upto_region 1 with fail
 generalize w.alloc (.cells #[.func (.func f) #[] lb] 109)=w1 at HB HG⊢;generalize w.heap.size=G at HG⊢;go_wp2_with(go_at_call 133;(with_reducible refine(QL.out _ HB.out _ HG.out).mono ?_);rintro r w2⟨rfl,e2⟩)
 go_ret;exact⟨rfl,after HB.out e2⟩
theorem MI{w:World}{A:Option Addr}{N cap:Nat}(hN:N≤4000000)(cs:Nat→List Value)(p:Nat→Bool)(hc:dh w A N 8 cs)(f:Nat)(lb:Array Value)(eg:∀args w,(callFunc f args).run ag w=.ok (.enter f args) w)(hf:∀k,k+1<N→∀W,Below w.heap.size w W→Calls ag f (#[.agg (cs k).toArray,.agg (cs (k+1)).toArray]++lb) W (Got (.bool (p k)) W)):Calls ag 125 #[.slice A N cap,.func (.func f) #[] lb] w (Got (.bool ((aA (N-1)).all p)) w):=by
 obtain⟨HC,HF⟩:=aI hc hf;clear hc hf;generalize hR:(aA (N-1)).all p=R;have HR:=ae hR;clear hR;go_enter Tryz.func125,Tryz.ntmps125;go_wp2_with fail
 go_loopw [5] (fun v5 wr=>∃k:Nat,k≤N∧v5=.int .i64 ((k:Int)+1)∧af (Below w.heap.size w wr)∧af ((aA k).all p=true∧(k=0∨k+1≤N))) (fun v5 _=>N-(intOf v5).toNat)
 case atStart=>exact⟨0,bD _,rfl,ae (aG _ _),ae ⟨rfl,.inl rfl⟩⟩
 case round=>
  obtain⟨k,hk,rfl,hb,hno⟩:=hrel;have hz:IntKind.i64.wrap (k:Int)=(k:Int):=IntWalk.i64_in _ aM;by_cases hlt:k+1<N
  ·have hlt':(k:Int)+1<(N:Int):=by omega
   have hlt0:(k:Int)<(N:Int):=by omega
   have aah:(0:Int)≤(k:Int)+1:=by omega
   obtain⟨hlen,q,o,hA,hcell⟩:=HC.out k aM;obtain⟨hlen1,q1,o1,hA1,hcell1⟩:=HC.out (k+1) hlt;subst hA;injection hA1 with hA1
   injection hA1 with eq eo _
   subst eq eo;have hcall:=fun u(hu:Below w.heap.size w u)=>HF.out k hlt u hu
   generalize hcs:cs k=L at hlen hcell hcall;generalize hcs1:cs (k+1)=M at hlen1 hcell1 hcall;clear hcs hcs1;obtain⟨c0,c1,c2,c3,c4,c5,c6,c7,hL⟩:∃c0 c1 c2 c3 c4 c5 c6 c7,L=[c0,c1,c2,c3,c4,c5,c6,c7]:=by
    match L,hlen with
    |[c0,c1,c2,c3,c4,c5,c6,c7],_=>exact⟨c0,c1,c2,c3,c4,c5,c6,c7,rfl⟩
   obtain⟨e0,e1,e2,e3,e4,e5,e6,e7,hM⟩:∃e0 e1 e2 e3 e4 e5 e6 e7,M=[e0,e1,e2,e3,e4,e5,e6,e7]:=by
    match M,hlen1 with
    |[e0,e1,e2,e3,e4,e5,e6,e7],_=>exact⟨e0,e1,e2,e3,e4,e5,e6,e7,rfl⟩
   subst hL hM;have d0:=(hb.out.cell (aj w _ (hcell 0 _ rfl))).trans (hcell 0 _ rfl);have d1:=(hb.out.cell (aj w _ (hcell 1 _ rfl))).trans (hcell 1 _ rfl);have d2:=(hb.out.cell (aj w _ (hcell 2 _ rfl))).trans (hcell 2 _ rfl);have d3:=(hb.out.cell (aj w _ (hcell 3 _ rfl))).trans (hcell 3 _ rfl);have d4:=(hb.out.cell (aj w _ (hcell 4 _ rfl))).trans (hcell 4 _ rfl);have d5:=(hb.out.cell (aj w _ (hcell 5 _ rfl))).trans (hcell 5 _ rfl);have d6:=(hb.out.cell (aj w _ (hcell 6 _ rfl))).trans (hcell 6 _ rfl);have d7:=(hb.out.cell (aj w _ (hcell 7 _ rfl))).trans (hcell 7 _ rfl);have f0:=(hb.out.cell (aj w _ (hcell1 0 _ rfl))).trans (hcell1 0 _ rfl);have f1:=(hb.out.cell (aj w _ (hcell1 1 _ rfl))).trans (hcell1 1 _ rfl);have f2:=(hb.out.cell (aj w _ (hcell1 2 _ rfl))).trans (hcell1 2 _ rfl);have f3:=(hb.out.cell (aj w _ (hcell1 3 _ rfl))).trans (hcell1 3 _ rfl);have f4:=(hb.out.cell (aj w _ (hcell1 4 _ rfl))).trans (hcell1 4 _ rfl);have f5:=(hb.out.cell (aj w _ (hcell1 5 _ rfl))).trans (hcell1 5 _ rfl);have f6:=(hb.out.cell (aj w _ (hcell1 6 _ rfl))).trans (hcell1 6 _ rfl);have f7:=(hb.out.cell (aj w _ (hcell1 7 _ rfl))).trans (hcell1 7 _ rfl);rw[dq]at d0 f0;have bo:=ae hcall;clear hcall hcell hlen hcell1 hlen1;cases hp:p k with
   |true=>
    rw[hp]at bo;have HP:=ae hp;clear hp;go_upto_region 4 with fail
    refine wp_region_held_drew (S:=(fun w'=>w'.cell? ⟨q,o+k*8,none⟩=some c0∧w'.cell? ⟨q,o+k*8+1,none⟩=some c1∧w'.cell? ⟨q,o+k*8+2,none⟩=some c2∧w'.cell? ⟨q,o+k*8+3,none⟩=some c3∧w'.cell? ⟨q,o+k*8+4,none⟩=some c4∧w'.cell? ⟨q,o+k*8+5,none⟩=some c5∧w'.cell? ⟨q,o+k*8+6,none⟩=some c6∧w'.cell? ⟨q,o+k*8+7,none⟩=some c7∧w'.cell? ⟨q,o+(k+1)*8,none⟩=some e0∧w'.cell? ⟨q,o+(k+1)*8+1,none⟩=some e1∧w'.cell? ⟨q,o+(k+1)*8+2,none⟩=some e2∧w'.cell? ⟨q,o+(k+1)*8+3,none⟩=some e3∧w'.cell? ⟨q,o+(k+1)*8+4,none⟩=some e4∧w'.cell? ⟨q,o+(k+1)*8+5,none⟩=some e5∧w'.cell? ⟨q,o+(k+1)*8+6,none⟩=some e6∧w'.cell? ⟨q,o+(k+1)*8+7,none⟩=some e7)) bg (⟨d0,d1,d2,d3,d4,d5,d6,d7,f0,f1,f2,f3,f4,f5,f6,f7⟩) (fun hHeld=>?_);refine bm 0 ?_
    refine bm 1 ?_
    refine bm 2 ?_
    refine bm 3 ?_
    refine bm 4 ?_
    refine bm 5 ?_
    refine bm 6 ?_
    refine bm 7 ?_
    refine bm 8 ?_
    refine bm 9 ?_
    refine jk 10 fun K hK=>?_;go_simp;go_at_fn f;refine(bo.out _ (Below.oU hb.out)).mono ?_;rintro r wb⟨rfl,db⟩;have eb:=Below.eJ db;clear db;refine hK.out _ _ (⟨ak d0 eb,ak d1 eb,ak d2 eb,ak d3 eb,ak d4 eb,ak d5 eb,ak d6 eb,ak d7 eb,ak f0 eb,ak f1 eb,ak f2 eb,ak f3 eb,ak f4 eb,ak f5 eb,ak f6 eb,ak f7 eb⟩) (fun hHeld=>?_);clear hK K;try simp only[cq]
    refine bm 11 ?_
    refine qR ?_;go_wp2_with fail
    go_roundw
    case rel=>exact⟨k+1,by omega,by go_num,(aU hb eb),ae ⟨by rw[eW,hno.out.1,HP.out];rfl,.inr hlt⟩⟩
    case measure=>simp[intOf];omega
   |false=>
    rw[hp]at bo;have dK:af (R=false):=ae (by rw[←HR.out];exact fl aM hp);clear hp;go_upto_region 4 with fail
    refine wp_region_held_drew (S:=(fun w'=>w'.cell? ⟨q,o+k*8,none⟩=some c0∧w'.cell? ⟨q,o+k*8+1,none⟩=some c1∧w'.cell? ⟨q,o+k*8+2,none⟩=some c2∧w'.cell? ⟨q,o+k*8+3,none⟩=some c3∧w'.cell? ⟨q,o+k*8+4,none⟩=some c4∧w'.cell? ⟨q,o+k*8+5,none⟩=some c5∧w'.cell? ⟨q,o+k*8+6,none⟩=some c6∧w'.cell? ⟨q,o+k*8+7,none⟩=some c7∧w'.cell? ⟨q,o+(k+1)*8,none⟩=some e0∧w'.cell? ⟨q,o+(k+1)*8+1,none⟩=some e1∧w'.cell? ⟨q,o+(k+1)*8+2,none⟩=some e2∧w'.cell? ⟨q,o+(k+1)*8+3,none⟩=some e3∧w'.cell? ⟨q,o+(k+1)*8+4,none⟩=some e4∧w'.cell? ⟨q,o+(k+1)*8+5,none⟩=some e5∧w'.cell? ⟨q,o+(k+1)*8+6,none⟩=some e6∧w'.cell? ⟨q,o+(k+1)*8+7,none⟩=some e7)) bg (⟨d0,d1,d2,d3,d4,d5,d6,d7,f0,f1,f2,f3,f4,f5,f6,f7⟩) (fun hHeld=>?_);refine bm 0 ?_
    refine bm 1 ?_
    refine bm 2 ?_
    refine bm 3 ?_
    refine bm 4 ?_
    refine bm 5 ?_
    refine bm 6 ?_
    refine bm 7 ?_
    refine bm 8 ?_
    refine bm 9 ?_
    refine jk 10 fun K hK=>?_;go_simp;go_at_fn f;refine(bo.out _ (Below.oU hb.out)).mono ?_;rintro r wb⟨rfl,db⟩;have eb:=Below.eJ db;clear db;refine hK.out _ _ (⟨ak d0 eb,ak d1 eb,ak d2 eb,ak d3 eb,ak d4 eb,ak d5 eb,ak d6 eb,ak d7 eb,ak f0 eb,ak f1 eb,ak f2 eb,ak f3 eb,ak f4 eb,ak f5 eb,ak f6 eb,ak f7 eb⟩) (fun hHeld=>?_);clear hK K;try simp only[cq]
    refine bm 11 ?_
    refine qR ?_;go_wp2_with fail
    go_ret;exact⟨by rw[dK.out];rfl,after hb.out eb⟩
  ·have hge:¬(k:Int)+1<(N:Int):=by omega
   have Wc:af (R=true):=ae (by rw[←HR.out,show N-1=k by have:=hno.out.2;omega];exact hno.out.1);go_wp2_with fail
   go_ret;exact⟨by rw[Wc.out];rfl,hb.out⟩
structure Fits{α:Type}(p:Ps α)(f:α→List UInt8)(Q:α→Prop):Prop where
 back:∀x r,Q x→p (f x++r)=some (x,r)
 same:∀t x r,p t=some (x,r)→t=f x++r∧Q x
theorem rF(l:List UInt8)(c:UInt8):pF (l++[c])=pF l*256+c.toNat:=by simp[pF]
theorem QQ:∀(n:Nat)(l:List UInt8),l.length=n→pF l<256^n:=by
 intro n
 induction n with
 |zero=>
  intro l hl;rw[bF hl];decide
 |succ n ih=>
  intro l hl;rcases List.eq_nil_or_concat l with rfl|⟨m,c,rfl⟩
  ·cases hl
  ·rw[List.concat_eq_append]at hl⊢;rw[ai]at hl;have h1:=ih m (by simpa using hl);have:=c.toNat_lt;rw[rF,Nat.pow_succ];omega
theorem Wg(l:List UInt8):pF l<256^l.length:=QQ _ l rfl
theorem Dc(n x:Nat):fk (n+1) x=fk n (x/256)++[UInt8.ofNat (x%256)]:=by
 unfold fk;rw[List.range_succ,List.map_append];congr 1
 ·apply List.map_congr_left;intro j hj;have hj:=List.mem_range.1 hj;rw[show n+1-1-j=(n-1-j)+1 by omega,Nat.pow_succ,Nat.mul_comm (256^(n-1-j)) 256,Nat.div_div_eq_div_mul]
 ·simp
theorem aai:∀(n x:Nat),x<256^n→pF (fk n x)=x:=by
 intro n
 induction n with
 |zero=>
   intro x hx;rw[Nat.pow_zero]at hx;obtain rfl:x=0:=by omega
   rfl
 |succ n ih=>
  intro x hx;rw[Dc,rF,ih (x/256) (by rw[Nat.pow_succ]at hx;omega)];have:(UInt8.ofNat (x%256)).toNat=x%256:=by
   rw[UInt8.toNat_ofNat'];omega
  rw[this];omega
theorem Wh:∀(n:Nat)(l:List UInt8),l.length=n→fk n (pF l)=l:=by
 intro n
 induction n with
 |zero=>
  intro l hl;rw[bF hl];rfl
 |succ n ih=>
  intro l hl;rcases List.eq_nil_or_concat l with rfl|⟨m,c,rfl⟩
  ·cases hl
  ·rw[List.concat_eq_append]at hl⊢;rw[ai]at hl;have hc:=c.toNat_lt;rw[rF,Dc,show(pF m*256+c.toNat)/256=pF m by omega,show(pF m*256+c.toNat)%256=c.toNat by omega,ih m (by simpa using hl)];congr 1;simp
theorem aaj(l:List UInt8):fk l.length (pF l)=l:=Wh _ l rfl
theorem yc(x r:List UInt8):jz x.length (x++r)=some (x,r):=by
 unfold jz;rw[if_pos (by simp)];simp
theorem take_same{n:Nat}{t x r:List UInt8}(h:jz n t=some (x,r)):t=x++r∧x.length=n:=by
 unfold jz at h;split at h
 ·next hn=>
  injection h with h
  injection h with h1 h2
  subst h1 h2;exact⟨(List.take_append_drop n t).symm,by rw[List.length_take];omega⟩
 ·cases h
theorem cE(n:Nat):Fits (oG n) (fk n) (fun x=>x<256^n)where
 back:=fun x r hx=>by
  unfold oG;have:=yc (fk n x) r;rw[aR]at this;rw[this];show some (pF (fk n x),r)=_;rw[aai n x hx]
 same:=fun t x r h=>by
  unfold oG at h;cases ht:jz n t with
  |none=>rw[ht]at h;cases h
  |some y=>
   obtain⟨y1,y2⟩:=y;rw[ht]at h;injection h with h
   injection h with h1 h2
   obtain⟨e1,e2⟩:=take_same ht;simp only at h1 h2;subst h1 h2;have hb:=aaj y1;rw[e2]at hb;refine⟨by rw[hb];exact e1,?_⟩;have:=Wg y1;rw[e2]at this;exact this
theorem aak(l:List UInt8):(gW l).data.toList=l:=rfl
theorem aal(s:ByteArray):gW s.data.toList=s:=rfl
theorem QR(l:List UInt8):(gW l).size=l.length:=rfl
theorem eX(s:ByteArray):s.data.toList.length=s.size:=by rw[Array.length_toList];rfl
theorem jg(n:Nat):Fits (xf n) (fun s:ByteArray=>s.data.toList) (fun s=>s.size=n)where
 back:=fun x r hx=>by
  unfold xf;have:=yc x.data.toList r;rw[eX,hx]at this;rw[this];rfl
 same:=fun t x r h=>by
  unfold xf at h;cases ht:jz n t with
  |none=>rw[ht]at h;cases h
  |some y=>
   obtain⟨y1,y2⟩:=y;rw[ht]at h;injection h with h
   injection h with h1 h2
   obtain⟨e1,e2⟩:=take_same ht;simp only at h1 h2;subst h1 h2;exact⟨e1,e2⟩
theorem bR{α β:Type}{p:Ps α}{f:α→List UInt8}{Q:α→Prop}(h:Fits p f Q){x:α}(hx:Q x)(g:α→Ps β)(r:List UInt8):dM p g (f x++r)=g x r:=by
 unfold dM;rw[h.back x r hx];rfl
theorem bY{α β:Type}{p:Ps α}{f:α→List UInt8}{Q:α→Prop}(h:Fits p f Q){g:α→Ps β}{t r:List UInt8}{y:β}(e:dM p g t=some (y,r)):∃x u,t=f x++u∧Q x∧g x u=some (y,r):=by
 unfold dM at e;cases hp:p t with
 |none=>rw[hp]at e;cases e
 |some z=>
  obtain⟨x,u⟩:=z;rw[hp]at e;obtain⟨e1,e2⟩:=h.same t x u hp;exact⟨x,u,e1,e2,e⟩
theorem gI{α:Type}{x y:α}{t r:List UInt8}(e:oV x t=some (y,r)):y=x∧t=r:=by
 injection e with e
 injection e with e1 e2
 exact⟨e1.symm,e2⟩
theorem li:Fits L9 pP (fun s=>s.size≤32768)where
 back:=fun x r hx=>by
  unfold L9 pP;rw[aO,bR (cE 2) (by show x.size<256^2;omega),if_neg aM];exact(jg x.size).back x r rfl
 same:=fun t x r h=>by
  obtain⟨n,u,e1,hn,e2⟩:=bY (cE 2) h;split at e2
  ·cases e2
  ·next hl=>
   obtain⟨e3,e4⟩:=(jg n).same u x r e2;unfold pP;rw[e1,e3,e4,aO];exact⟨rfl,by omega⟩
def xi(a:Ad):Prop:=(a.v6=false∧a.hi=0∧a.lo<4294967296)∨(a.v6=true∧a.hi<18446744073709551616∧a.lo<18446744073709551616)
theorem tR:Fits adP wK xi where
 back:=fun a r ha=>by
  obtain⟨v,h,l⟩:=a;rcases ha with⟨h1,h2,h3⟩|⟨h1,h2,h3⟩
  ·simp only at h1 h2 h3;subst h1 h2;show adP (fk 1 4++(fk 4 l++r))=_;unfold adP;rw[bR (cE 1) aF,if_pos rfl,bR (cE 4) (by show l<256^4;omega)];rfl
  ·simp only at h1 h2 h3;subst h1;unfold wK;simp only[if_true];rw[show(6::(fk 8 h++fk 8 l))++r=fk 1 6++(fk 8 h++(fk 8 l++r)) by rw[List.cons_append,aO];rfl];unfold adP;rw[bR (cE 1) aF,if_neg aF,if_pos rfl,bR (cE 8) (by show h<256^8;omega),bR (cE 8) (by show l<256^8;omega)];rfl
 same:=fun t a r h=>by
  obtain⟨k,u,e1,hk,e2⟩:=bY (cE 1) h;split at e2
  ·next h4=>
   obtain⟨l,u2,e3,hl,e4⟩:=bY (cE 4) e2;obtain⟨rfl,rfl⟩:=gI e4;subst h4;rw[e1,e3];exact⟨rfl,Or.inl ⟨rfl,rfl,by simpa using hl⟩⟩
  ·split at e2
   ·next h6=>
    obtain⟨hh,u2,e3,hl,e4⟩:=bY (cE 8) e2;obtain⟨l,u3,e5,hl2,e6⟩:=bY (cE 8) e4;obtain⟨rfl,rfl⟩:=gI e6;subst h6;rw[e1,e3,e5];refine⟨?_,Or.inr ⟨rfl,by simpa using hl,by simpa using hl2⟩⟩;show fk 1 6++(fk 8 hh++(fk 8 l++u3))=wK ⟨true,hh,l⟩++u3;unfold wK;simp only[if_true,List.cons_append,aO];rfl
   ·cases e2
theorem tU:Fits enP C0 (fun e=>xi e.1∧e.2<65536)where
 back:=fun e r he=>by
  unfold enP C0;rw[aO,bR tR he.1,bR (cE 2) (by have:=he.2;show e.2<256^2;omega)];rfl
 same:=fun t e r h=>by
  obtain⟨a,u,e1,ha,e2⟩:=bY tR h;obtain⟨p,u2,e3,hp,e4⟩:=bY (cE 2) e2;obtain⟨rfl,rfl⟩:=gI e4;unfold C0;rw[e1,e3,aO];exact⟨rfl,ha,by simpa using hp⟩
theorem MJ{α:Type}{p:Ps α}{f:α→List UInt8}{Q:α→Prop}(h:Fits p f Q):∀(l:List α)(r:List UInt8),(∀x∈l,Q x)→ve p l.length (l.flatMap f++r)=some (l,r):=by
 intro l
 induction l with
 |nil=>intro r _;rfl
 |cons x m ih=>
  intro r hl;rw[afr,aO,bW,ve,bR h (hl x (List.mem_cons_self ..))];unfold dM;rw[ih r (fun y hy=>hl y (List.mem_cons_of_mem x hy))];rfl
theorem MK{α:Type}{p:Ps α}{f:α→List UInt8}{Q:α→Prop}(h:Fits p f Q):∀(n:Nat)(t r:List UInt8)(l:List α),ve p n t=some (l,r)→t=l.flatMap f++r∧l.length=n∧∀x∈l,Q x:=by
 intro n
 induction n with
 |zero=>
  intro t r l e;obtain⟨rfl,rfl⟩:=gI e;exact⟨rfl,rfl,fun x hx=>by cases hx⟩
 |succ n ih=>
  intro t r l e;obtain⟨x,u,e1,hx,e2⟩:=bY h e;unfold dM at e2;cases hm:ve p n u with
  |none=>rw[hm]at e2;cases e2
  |some z=>
   obtain⟨m,u2⟩:=z;rw[hm]at e2;obtain⟨rfl,rfl⟩:=gI e2;obtain⟨i1,i2,i3⟩:=ih u u2 m hm;refine⟨by rw[e1,i1,afr,aO],by rw[bW,i2],fun y hy=>?_⟩;rcases List.mem_cons.1 hy with rfl|hy
   ·exact hx
   ·exact i3 y hy
theorem fp{α:Type}{p:Ps α}{f:α→List UInt8}{Q:α→Prop}(h:Fits p f Q):Fits (sM p) (cB f) (fun l=>l.length<65536∧∀x∈l,Q x)where
 back:=fun l r hl=>by
  unfold sM cB;rw[aO,bR (cE 2) (by have:=hl.1;show l.length<256^2;omega)];exact MJ h l r hl.2
 same:=fun t l r e=>by
  obtain⟨n,u,e1,hn,e2⟩:=bY (cE 2) e;obtain⟨i1,i2,i3⟩:=MK h n u r l e2;unfold cB;rw[e1,i1,aO,i2];exact⟨rfl,by simpa using hn,i3⟩
structure MN(p:Pr):Prop where
 key:p.key.size=32
 bh:p.bh.size=32
 user:p.user.size≤32768
 tags:p.tags.length<65536∧∀x∈p.tags,x.size≤32768
 aJ:p.aJ.length<65536∧∀x∈p.aJ,xi x
 exp:p.exp<256^8
 aY:p.aY<256^1
 ends:p.ends.length<65536∧∀x∈p.ends,xi x.1∧x.2<65536
theorem Jg:Fits prP wL MN where
 back:=fun p r h=>by
  unfold prP wL;simp only[aO];rw[bR (jg 32) h.key,bR (jg 32) h.bh,bR li h.user,bR (fp li) h.tags,bR (fp tR) h.aJ,bR (cE 8) h.exp,bR (cE 1) h.aY,bR (fp tU) h.ends];rfl
 same:=fun t p r e=>by
  obtain⟨k,u1,t1,h1,e⟩:=bY (jg 32) e;obtain⟨d,u2,t2,h2,e⟩:=bY (jg 32) e;obtain⟨us,u3,t3,h3,e⟩:=bY li e;obtain⟨ts,u4,t4,h4,e⟩:=bY (fp li) e;obtain⟨ads,u5,t5,h5,e⟩:=bY (fp tR) e;obtain⟨ex,u6,t6,h6,e⟩:=bY (cE 8) e;obtain⟨rl,u7,t7,h7,e⟩:=bY (cE 1) e;obtain⟨es,u8,t8,h8,e⟩:=bY (fp tU) e;obtain⟨rfl,rfl⟩:=gI e;unfold wL;rw[t1,t2,t3,t4,t5,t6,t7,t8];simp only[aO];exact⟨trivial,h1,h2,h3,h4,h5,h6,h7,h8⟩
structure Wi(r:Ry):Prop where
 id:r.id<256^1
 key:r.key.size=32
 fin:xi r.fin.1∧r.fin.2<65536
theorem Jh:Fits ryP C9 Wi where
 back:=fun p r h=>by
  unfold ryP C9;simp only[aO];rw[bR (cE 1) h.id,bR (jg 32) h.key,bR tU h.fin];rfl
 same:=fun t p r e=>by
  obtain⟨k,u1,t1,h1,e⟩:=bY (cE 1) e;obtain⟨d,u2,t2,h2,e⟩:=bY (jg 32) e;obtain⟨us,u3,t3,h3,e⟩:=bY tU e;obtain⟨rfl,rfl⟩:=gI e;unfold C9;rw[t1,t2,t3];simp only[aO];exact⟨trivial,h1,h2,h3⟩
structure QS(m:Mp):Prop where
 version:m.version<256^8
 aK:m.aK.length<65536∧∀x∈m.aK,MN x
 aB:m.aB.length<65536∧∀x∈m.aB,Wi x
 policy:m.policy.size≤32768
theorem Ji:Fits mpP xe QS where
 back:=fun p r h=>by
  unfold mpP xe;simp only[aO];rw[bR (cE 8) h.version,bR (fp Jg) h.aK,bR (fp Jh) h.aB,bR li h.policy];rfl
 same:=fun t p r e=>by
  obtain⟨k,u1,t1,h1,e⟩:=bY (cE 8) e;obtain⟨d,u2,t2,h2,e⟩:=bY (fp Jg) e;obtain⟨us,u3,t3,h3,e⟩:=bY (fp Jh) e;obtain⟨ps,u4,t4,h4,e⟩:=bY li e;obtain⟨rfl,rfl⟩:=gI e;unfold xe;rw[t1,t2,t3,t4];simp only[aO];exact⟨trivial,h1,h2,h3,h4⟩
theorem Gv{α:Type}{p:Ps α}{f:α→List UInt8}{Q:α→Prop}(h:Fits p f Q){x:α}(hx:Q x)(hl:(f x).length≤32768):fx p (f x)=some x:=by
 unfold fx;rw[if_neg aM];have:=h.back x [] hx;rw[List.append_nil]at this;rw[this]
theorem vj{may:Bool}{b:List UInt8}(h:(encR may b).2=0):may=true∧b.length≤32768∧encR may b=(gW b,0):=by
 unfold encR at h⊢;cases may with
 |false=>simp at h
 |true=>
  simp only[Bool.true_eq_false,if_false]at h⊢;split at h
  ·simp at h
  ·next hl=>exact⟨trivial,by omega,by rw[if_neg hl]⟩
theorem Wj{m:Mp}(ok:QS m)(h:(cK m).2=0):xg (cK m).1=(m,0):=by
 obtain⟨h1,h2,h3⟩:=vj h;have e:cK m=(gW (xe m),0):=h3;unfold xg;rw[e];simp only[aak];rw[Gv Ji ok h2];simp only;rw[if_pos h]
end Go.Proofs.YteflnojjjdkgmaaGreatDoor
