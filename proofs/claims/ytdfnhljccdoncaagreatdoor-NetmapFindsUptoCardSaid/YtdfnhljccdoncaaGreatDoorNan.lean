/- Joined out of: NwA NtB. -/
import Derived.Test.YtdfnhljccdoncaaGreatDoorNam
set_option linter.unusedVariables false
set_option linter.unusedSimpArgs false
set_option maxHeartbeats 16000000
set_option maxRecDepth 100000
open Go.Lib renaming hid→ae
open Go.Proofs.Tryz renaming prog→ai
open Go.RowKit renaming Hid→af
open Go.RowKit.Below renaming refl→aK
open Go.World renaming block_lt_of_cell?→au
open List renaming length_append→aj,range→aD,append_assoc→aZ,eq_nil_of_length_eq_zero→bS,length_cons→cm,flatMap_cons→Zg
open Nat renaming zero_le→bF,add_zero→cN
namespace Go.Proofs.YtdfnhljccdoncaaGreatDoor
open Go.RowKit
attribute [local go_sem↓] Go.wp_at_zero Go.wp_at_succ
attribute [local go_sem] dJ
def mB(w:World)(A:Option Addr)(n:Nat)(cs:Nat→ByteArray):Prop:=∀k,k<n→∃g o,A=some ⟨g,o,none⟩∧w.cell? ⟨g,o+k,none⟩=some (.string (cs k))
theorem mB.below{w w':World}{A:Option Addr}{n:Nat}{cs:Nat→ByteArray}(h:mB w A n cs)(e:Below w.heap.size w w'):mB w' A n cs:=by
 intro k hk;obtain⟨g,o,hA,hc⟩:=h k hk;exact⟨g,o,hA,ak hc e⟩
theorem dh.below{w w':World}{A:Option Addr}{n K:Nat}{cs:Nat→List Value}(h:dh w A n K cs)(e:Below w.heap.size w w'):dh w' A n K cs:=by
 intro k hk;obtain⟨hl,g,o,hA,hc⟩:=h k hk;exact⟨hl,g,o,hA,fun j u hu=>ak (hc j u hu) e⟩
theorem qC(n:Nat)(p:Nat→Bool):(!((aD n).any fun k=> !p k))=(aD n).all p:=by
 rw[List.not_any_eq_all_not];congr 1;funext k;exact Bool.not_not _
theorem ff(n:Nat)(p:Nat→Bool):(aD (n+1)).all p=((aD n).all p&&p n):=by
 rw[List.range_succ,List.all_append];simp
theorem fx{n k:Nat}{p:Nat→Bool}(hk:k<n)(h:p k=false):(aD n).all p=false:=by
 rw[List.all_eq_false];exact⟨k,List.mem_range.2 hk,by rw[h];decide⟩
theorem Xe{w:World}{A:Option Addr}{N cap:Nat}(hN:N≤4000000)(cs:Nat→ByteArray)(p:Nat→Bool)(hc:mB w A N cs)(f:Nat)(lb:Array Value)(eg:∀args w,(callFunc f args).run ai w=.ok (.enter f args) w)(hf:∀k,k<N→∀W,Below w.heap.size w W→Calls ai f (#[.string (cs k)]++lb) W (Got (.bool (p k)) W)):Calls ai 168 #[.slice A N cap,.func (.func f) #[] lb] w fun r w'=>(∃z:Int,r=.returned (.int .i64 z)∧Vp p N z)∧Below w.heap.size w w':=by
 obtain⟨HC,HF⟩:=aQ hc hf;clear hc hf;go_enter Tryz.func168,Tryz.ntmps168;go_wp2_with fail
 go_loopw [8] (fun v8 wr=>∃k:Nat,k≤N∧v8=.int .i64 k∧af (Below w.heap.size w wr)∧af (∀j,j<k→p j=false)) (fun v8 _=>N-(intOf v8).toNat)
 case atStart=>exact⟨0,bF _,rfl,ae (aK _ _),ae (fun j hj=>absurd hj (Nat.not_lt_zero j))⟩
 case round=>
  obtain⟨k,hk,rfl,hb,hno⟩:=hrel;by_cases hlt:k<N
  ·skip
   obtain⟨q,o,rfl,hcell⟩:=HC.out k hlt;have hcall:=HF.out k hlt wr hb.out;have d0:=(hb.out.cell (au w _ hcell)).trans hcell;generalize cs k=L at d0 hcall;have bu:=ae hcall;clear hcall hcell;cases hp:p k with
   |true=>
    rw[hp]at bu;have HP:=ae hp;clear hp;go_wp2_with(go_at_fn f;(with_reducible refine bu.out.mono ?_);rintro r w2⟨rfl,e2⟩)
    go_ret;exact⟨⟨_,rfl,.inl ⟨k,hlt,rfl,HP.out,hno.out⟩⟩,after hb.out e2⟩
   |false=>
    rw[hp]at bu;have HP:=ae hp;clear hp;go_wp2_with(go_at_fn f;(with_reducible refine bu.out.mono ?_);rintro r w2⟨rfl,e2⟩)
    go_roundw
    case rel=>
     refine⟨k+1,by omega,by go_num,(bm hb e2),ae (fun j hj=>?_)⟩;by_cases e:j=k
     ·rw[e];exact HP.out
     ·exact hno.out j (by omega)
    case measure=>simp[intOf];omega
  ·obtain rfl:k=N:=by omega
   go_wp2_with fail
   go_ret;exact⟨⟨_,rfl,.inr ⟨rfl,hno.out⟩⟩,hb.out⟩
theorem Xf{w:World}{A:Option Addr}{N cap:Nat}(hN:N≤4000000)(cs:Nat→ByteArray)(p:Nat→Bool)(hc:mB w A N cs)(f:Nat)(lb:Array Value)(eg:∀args w,(callFunc f args).run ai w=.ok (.enter f args) w)(hf:∀k,k<N→∀W,Below w.heap.size w W→Calls ai f (#[.string (cs k)]++lb) W (Got (.bool (p k)) W)):Calls ai 117 #[.slice A N cap,.func (.func f) #[] lb] w (Got (.bool ((aD N).any p)) w):=by
 have HI:=ae (Xe (cap:=cap) hN cs p hc f lb eg hf);clear hc hf;generalize hR:(aD N).any p=R;have HR:=ae hR;clear hR;go_enter Tryz.func117,Tryz.ntmps117;go_wp2_with(go_at_call 168;(with_reducible refine HI.out.mono ?_);rintro r w2⟨⟨z,rfl,hz⟩,e2⟩)
 go_ret;exact⟨by rw[←HR.out,←hz.any];rfl,e2⟩
theorem Rw{w:World}(x:ByteArray)(g:Nat)(f:Nat)(lb:Array Value)(eg:∀args w,(callFunc f args).run ai w=.ok (.enter f args) w)(hg:w.cell? ⟨g,0,none⟩=some (.func (.func f) #[] lb))(b:Bool)(hf:∀W,Below w.heap.size w W→Calls ai f (#[.string x]++lb) W (Got (.bool b) W)):Calls ai 118 #[.string x,.pointer (some ⟨g,0,none⟩)] w (Got (.bool (!b)) w):=by
 have HF:=ae hf;clear hf;go_enter Tryz.func118,Tryz.ntmps118;go_wp2_with(go_at_fn f;(with_reducible refine(HF.out _ (aK _ _)).mono ?_);rintro r w2⟨rfl,e2⟩)
 go_ret;exact⟨rfl,e2⟩
theorem Rz{w:World}{A:Option Addr}{N cap:Nat}(hN:N≤4000000)(cs:Nat→ByteArray)(p:Nat→Bool)(hc:mB w A N cs)(f:Nat)(lb:Array Value)(eg:∀args w,(callFunc f args).run ai w=.ok (.enter f args) w)(hf:∀k,k<N→∀W,Below w.heap.size w W→Calls ai f (#[.string (cs k)]++lb) W (Got (.bool (p k)) W)):Calls ai 47 #[.slice A N cap,.func (.func f) #[] lb] w (Got (.bool ((aD N).all p)) w):=by
 have hco:=fun u(hu:Below w.heap.size w u)g(hg:u.cell? ⟨g,0,none⟩=some (.func (.func f) #[] lb))=>Xf (cap:=cap) hN cs (fun k=> !p k) (hc.below hu) 118 #[.pointer (some ⟨g,0,none⟩)] (enters_of Tryz.func118 bJ rfl)
  fun k hk W hW=>Rw _ g f lb eg (ak hg hW) (p k) fun W2 hW2=>hf k hk W2 (after hu (after hW hW2))
 rw[←qC];generalize((aD N).any fun k=> !p k)=R at hco⊢;have RD:=ae hco;have hb:=boxed w (.cells #[.func (.func f) #[] lb] 78);obtain⟨HG,HB⟩:=aQ (show(w.alloc (.cells #[.func (.func f) #[] lb] 78)).cell? ⟨w.heap.size,0,none⟩=some (.func (.func f) #[] lb)from(aG.new w 78 #[.func (.func f) #[] lb]).cell 0) hb;clear hco hc hf hb;go_enter Tryz.func47,Tryz.ntmps47;go_upto_region 1 with fail
 generalize w.alloc (.cells #[.func (.func f) #[] lb] 78)=w1 at HB HG⊢;generalize w.heap.size=G at HG⊢;go_wp2_with(go_at_call 117;(with_reducible refine(RD.out _ HB.out _ HG.out).mono ?_);rintro r w2⟨rfl,e2⟩)
 go_ret;exact⟨rfl,after HB.out e2⟩
theorem RE{w:World}{A:Option Addr}{N cap:Nat}(hN:N≤4000000)(cs:Nat→ByteArray)(p:Nat→Bool)(hc:mB w A N cs)(f:Nat)(lb:Array Value)(eg:∀args w,(callFunc f args).run ai w=.ok (.enter f args) w)(hf:∀k,k+1<N→∀W,Below w.heap.size w W→Calls ai f (#[.string (cs k),.string (cs (k+1))]++lb) W (Got (.bool (p k)) W)):Calls ai 112 #[.slice A N cap,.func (.func f) #[] lb] w (Got (.bool ((aD (N-1)).all p)) w):=by
 obtain⟨HC,HF⟩:=aQ hc hf;clear hc hf;generalize hR:(aD (N-1)).all p=R;have HR:=ae hR;clear hR;go_enter Tryz.func112,Tryz.ntmps112;go_wp2_with fail
 go_loopw [5] (fun v5 wr=>∃k:Nat,k≤N∧v5=.int .i64 ((k:Int)+1)∧af (Below w.heap.size w wr)∧af ((aD k).all p=true∧(k=0∨k+1≤N))) (fun v5 _=>N-(intOf v5).toNat)
 case atStart=>exact⟨0,bF _,rfl,ae (aK _ _),ae ⟨rfl,.inl rfl⟩⟩
 case round=>
  obtain⟨k,hk,rfl,hb,hno⟩:=hrel;have hz:IntKind.i64.wrap (k:Int)=(k:Int):=IntWalk.i64_in _ aY;by_cases hlt:k+1<N
  ·have hlt':(k:Int)+1<(N:Int):=by omega
   have hlt0:(k:Int)<(N:Int):=by omega
   have aa0:(0:Int)≤(k:Int)+1:=by omega
   obtain⟨q,o,hA,hcell⟩:=HC.out k aY;obtain⟨q1,o1,hA1,hcell1⟩:=HC.out (k+1) hlt;subst hA;injection hA1 with hA1
   injection hA1 with eq eo _
   subst eq eo;have hcall:=fun u(hu:Below w.heap.size w u)=>HF.out k hlt u hu
   have d0:=(hb.out.cell (au w _ hcell)).trans hcell;have f0:=(hb.out.cell (au w _ hcell1)).trans hcell1;generalize cs k=L at d0 hcall;generalize cs (k+1)=M at f0 hcall;have bu:=ae hcall;clear hcall hcell hcell1;cases hp:p k with
   |true=>
    rw[hp]at bu;have HP:=ae hp;clear hp;go_upto_region 4 with fail
    refine wp_region_held_drew (S:=(fun w'=>w'.cell? ⟨q,o+k,none⟩=some (.string L)∧w'.cell? ⟨q,o+(k+1),none⟩=some (.string M))) bJ (⟨d0,f0⟩) (fun hHeld=>?_);refine bB 0 ?_
    refine bB 1 ?_
    refine bB 2 ?_
    refine bB 3 ?_
    refine bB 4 ?_
    refine bB 5 ?_
    refine bB 6 ?_
    refine bB 7 ?_
    refine bB 8 ?_
    refine bB 9 ?_
    refine mM 10 fun K hK=>?_;go_simp;go_at_fn f;refine(bu.out _ (Below.o5 hb.out)).mono ?_;rintro r wb⟨rfl,db⟩;have eb:=Below.eW db;clear db;refine hK.out _ _ (⟨ak d0 eb,ak f0 eb⟩) (fun hHeld=>?_);clear hK K;try simp only[dX]
    refine bB 11 ?_
    refine tX ?_;go_wp2_with fail
    go_roundw
    case rel=>exact⟨k+1,by omega,by go_num,(bm hb eb),ae ⟨by rw[ff,hno.out.1,HP.out];rfl,.inr hlt⟩⟩
    case measure=>simp[intOf];omega
   |false=>
    rw[hp]at bu;have di:af (R=false):=ae (by rw[←HR.out];exact fx aY hp);clear hp;go_upto_region 4 with fail
    refine wp_region_held_drew (S:=(fun w'=>w'.cell? ⟨q,o+k,none⟩=some (.string L)∧w'.cell? ⟨q,o+(k+1),none⟩=some (.string M))) bJ (⟨d0,f0⟩) (fun hHeld=>?_);refine bB 0 ?_
    refine bB 1 ?_
    refine bB 2 ?_
    refine bB 3 ?_
    refine bB 4 ?_
    refine bB 5 ?_
    refine bB 6 ?_
    refine bB 7 ?_
    refine bB 8 ?_
    refine bB 9 ?_
    refine mM 10 fun K hK=>?_;go_simp;go_at_fn f;refine(bu.out _ (Below.o5 hb.out)).mono ?_;rintro r wb⟨rfl,db⟩;have eb:=Below.eW db;clear db;refine hK.out _ _ (⟨ak d0 eb,ak f0 eb⟩) (fun hHeld=>?_);clear hK K;try simp only[dX]
    refine bB 11 ?_
    refine tX ?_;go_wp2_with fail
    go_ret;exact⟨by rw[di.out];rfl,after hb.out eb⟩
  ·have hge:¬(k:Int)+1<(N:Int):=by omega
   have Xg:af (R=true):=ae (by rw[←HR.out,show N-1=k by have:=hno.out.2;omega];exact hno.out.1);go_wp2_with fail
   go_ret;exact⟨by rw[Xg.out];rfl,hb.out⟩
theorem RF{w:World}{A:Option Addr}{N cap:Nat}(hN:N≤4000000)(cs:Nat→List Value)(p:Nat→Bool)(hc:dh w A N 3 cs)(f:Nat)(lb:Array Value)(eg:∀args w,(callFunc f args).run ai w=.ok (.enter f args) w)(hf:∀k,k<N→∀W,Below w.heap.size w W→Calls ai f (#[.agg (cs k).toArray]++lb) W (Got (.bool (p k)) W)):Calls ai 272 #[.slice A N cap,.func (.func f) #[] lb] w fun r w'=>(∃z:Int,r=.returned (.int .i64 z)∧Vp p N z)∧Below w.heap.size w w':=by
 obtain⟨HC,HF⟩:=aQ hc hf;clear hc hf;go_enter Tryz.func272,Tryz.ntmps272;go_wp2_with fail
 go_loopw [8] (fun v8 wr=>∃k:Nat,k≤N∧v8=.int .i64 k∧af (Below w.heap.size w wr)∧af (∀j,j<k→p j=false)) (fun v8 _=>N-(intOf v8).toNat)
 case atStart=>exact⟨0,bF _,rfl,ae (aK _ _),ae (fun j hj=>absurd hj (Nat.not_lt_zero j))⟩
 case round=>
  obtain⟨k,hk,rfl,hb,hno⟩:=hrel;by_cases hlt:k<N
  ·skip
   obtain⟨hlen,q,o,rfl,hcell⟩:=HC.out k hlt;have hcall:=HF.out k hlt wr hb.out;generalize hcs:cs k=L at hlen hcell hcall;clear hcs;obtain⟨c0,c1,c2,hL⟩:∃c0 c1 c2,L=[c0,c1,c2]:=by
    match L,hlen with
    |[c0,c1,c2],_=>exact⟨c0,c1,c2,rfl⟩
   subst hL;have d0:=(hb.out.cell (au w _ (hcell 0 _ rfl))).trans (hcell 0 _ rfl);have d1:=(hb.out.cell (au w _ (hcell 1 _ rfl))).trans (hcell 1 _ rfl);have d2:=(hb.out.cell (au w _ (hcell 2 _ rfl))).trans (hcell 2 _ rfl);rw[cN]at d0;have bu:=ae hcall;clear hcall hcell hlen;cases hp:p k with
   |true=>
    rw[hp]at bu;have HP:=ae hp;clear hp;go_wp2_with(go_at_fn f;(with_reducible refine bu.out.mono ?_);rintro r w2⟨rfl,e2⟩)
    go_ret;exact⟨⟨_,rfl,.inl ⟨k,hlt,rfl,HP.out,hno.out⟩⟩,after hb.out e2⟩
   |false=>
    rw[hp]at bu;have HP:=ae hp;clear hp;go_wp2_with(go_at_fn f;(with_reducible refine bu.out.mono ?_);rintro r w2⟨rfl,e2⟩)
    go_roundw
    case rel=>
     refine⟨k+1,by omega,by go_num,(bm hb e2),ae (fun j hj=>?_)⟩;by_cases e:j=k
     ·rw[e];exact HP.out
     ·exact hno.out j (by omega)
    case measure=>simp[intOf];omega
  ·obtain rfl:k=N:=by omega
   go_wp2_with fail
   go_ret;exact⟨⟨_,rfl,.inr ⟨rfl,hno.out⟩⟩,hb.out⟩
theorem RI{w:World}{A:Option Addr}{N cap:Nat}(hN:N≤4000000)(cs:Nat→List Value)(p:Nat→Bool)(hc:dh w A N 3 cs)(f:Nat)(lb:Array Value)(eg:∀args w,(callFunc f args).run ai w=.ok (.enter f args) w)(hf:∀k,k<N→∀W,Below w.heap.size w W→Calls ai f (#[.agg (cs k).toArray]++lb) W (Got (.bool (p k)) W)):Calls ai 233 #[.slice A N cap,.func (.func f) #[] lb] w (Got (.bool ((aD N).any p)) w):=by
 have HI:=ae (RF (cap:=cap) hN cs p hc f lb eg hf);clear hc hf;generalize hR:(aD N).any p=R;have HR:=ae hR;clear hR;go_enter Tryz.func233,Tryz.ntmps233;go_wp2_with(go_at_call 272;(with_reducible refine HI.out.mono ?_);rintro r w2⟨⟨z,rfl,hz⟩,e2⟩)
 go_ret;exact⟨by rw[←HR.out,←hz.any];rfl,e2⟩
theorem Nc{w:World}(L:List Value)(hl:L.length=3)(g:Nat)(f:Nat)(lb:Array Value)(eg:∀args w,(callFunc f args).run ai w=.ok (.enter f args) w)(hg:w.cell? ⟨g,0,none⟩=some (.func (.func f) #[] lb))(b:Bool)(hf:∀W,Below w.heap.size w W→Calls ai f (#[.agg L.toArray]++lb) W (Got (.bool b) W)):Calls ai 234 #[.agg L.toArray,.pointer (some ⟨g,0,none⟩)] w (Got (.bool (!b)) w):=by
 obtain⟨c0,c1,c2,hL⟩:∃c0 c1 c2,L=[c0,c1,c2]:=by
  match L,hl with
  |[c0,c1,c2],_=>exact⟨c0,c1,c2,rfl⟩
 subst hL;have HF:=ae hf;have hb:=boxed w (.cells #[c0,c1,c2] 44);have HS:=ae (aG.new w 44 #[c0,c1,c2]);have g0:=ak hg hb;have HB:=ae hb;clear hf hg hb hl;go_enter Tryz.func234,Tryz.ntmps234;go_upto_region 1 with fail
 generalize w.alloc (.cells #[c0,c1,c2] 44)=w1 at HB HS g0⊢;generalize w.heap.size=G at HS⊢;obtain⟨s0,s1,s2⟩:=oM HS;go_wp2_with(go_at_fn f;(with_reducible refine(HF.out _ HB.out).mono ?_);rintro r w2⟨rfl,e2⟩)
 go_ret;exact⟨rfl,after HB.out e2⟩
theorem Nh{w:World}{A:Option Addr}{N cap:Nat}(hN:N≤4000000)(cs:Nat→List Value)(p:Nat→Bool)(hc:dh w A N 3 cs)(f:Nat)(lb:Array Value)(eg:∀args w,(callFunc f args).run ai w=.ok (.enter f args) w)(hf:∀k,k<N→∀W,Below w.heap.size w W→Calls ai f (#[.agg (cs k).toArray]++lb) W (Got (.bool (p k)) W)):Calls ai 200 #[.slice A N cap,.func (.func f) #[] lb] w (Got (.bool ((aD N).all p)) w):=by
 have hco:=fun u(hu:Below w.heap.size w u)g(hg:u.cell? ⟨g,0,none⟩=some (.func (.func f) #[] lb))=>RI (cap:=cap) hN cs (fun k=> !p k) (hc.below hu) 234 #[.pointer (some ⟨g,0,none⟩)] (enters_of Tryz.func234 bJ rfl)
  fun k hk W hW=>Nc _ (hc k hk).1 g f lb eg (ak hg hW) (p k) fun W2 hW2=>hf k hk W2 (after hu (after hW hW2))
 rw[←qC];generalize((aD N).any fun k=> !p k)=R at hco⊢;have RD:=ae hco;have hb:=boxed w (.cells #[.func (.func f) #[] lb] 185);obtain⟨HG,HB⟩:=aQ (show(w.alloc (.cells #[.func (.func f) #[] lb] 185)).cell? ⟨w.heap.size,0,none⟩=some (.func (.func f) #[] lb)from(aG.new w 185 #[.func (.func f) #[] lb]).cell 0) hb;clear hco hc hf hb;go_enter Tryz.func200,Tryz.ntmps200;go_upto_region 1 with fail
 generalize w.alloc (.cells #[.func (.func f) #[] lb] 185)=w1 at HB HG⊢;generalize w.heap.size=G at HG⊢;go_wp2_with(go_at_call 233;(with_reducible refine(RD.out _ HB.out _ HG.out).mono ?_);rintro r w2⟨rfl,e2⟩)
 go_ret;exact⟨rfl,after HB.out e2⟩
theorem Ni{w:World}{A:Option Addr}{N cap:Nat}(hN:N≤4000000)(cs:Nat→List Value)(p:Nat→Bool)(hc:dh w A N 3 cs)(f:Nat)(lb:Array Value)(eg:∀args w,(callFunc f args).run ai w=.ok (.enter f args) w)(hf:∀k,k+1<N→∀W,Below w.heap.size w W→Calls ai f (#[.agg (cs k).toArray,.agg (cs (k+1)).toArray]++lb) W (Got (.bool (p k)) W)):Calls ai 201 #[.slice A N cap,.func (.func f) #[] lb] w (Got (.bool ((aD (N-1)).all p)) w):=by
 obtain⟨HC,HF⟩:=aQ hc hf;clear hc hf;generalize hR:(aD (N-1)).all p=R;have HR:=ae hR;clear hR;go_enter Tryz.func201,Tryz.ntmps201;go_wp2_with fail
 go_loopw [5] (fun v5 wr=>∃k:Nat,k≤N∧v5=.int .i64 ((k:Int)+1)∧af (Below w.heap.size w wr)∧af ((aD k).all p=true∧(k=0∨k+1≤N))) (fun v5 _=>N-(intOf v5).toNat)
 case atStart=>exact⟨0,bF _,rfl,ae (aK _ _),ae ⟨rfl,.inl rfl⟩⟩
 case round=>
  obtain⟨k,hk,rfl,hb,hno⟩:=hrel;have hz:IntKind.i64.wrap (k:Int)=(k:Int):=IntWalk.i64_in _ aY;by_cases hlt:k+1<N
  ·have hlt':(k:Int)+1<(N:Int):=by omega
   have hlt0:(k:Int)<(N:Int):=by omega
   have aa0:(0:Int)≤(k:Int)+1:=by omega
   obtain⟨hlen,q,o,hA,hcell⟩:=HC.out k aY;obtain⟨hlen1,q1,o1,hA1,hcell1⟩:=HC.out (k+1) hlt;subst hA;injection hA1 with hA1
   injection hA1 with eq eo _
   subst eq eo;have hcall:=fun u(hu:Below w.heap.size w u)=>HF.out k hlt u hu
   generalize hcs:cs k=L at hlen hcell hcall;generalize hcs1:cs (k+1)=M at hlen1 hcell1 hcall;clear hcs hcs1;obtain⟨c0,c1,c2,hL⟩:∃c0 c1 c2,L=[c0,c1,c2]:=by
    match L,hlen with
    |[c0,c1,c2],_=>exact⟨c0,c1,c2,rfl⟩
   obtain⟨e0,e1,e2,hM⟩:∃e0 e1 e2,M=[e0,e1,e2]:=by
    match M,hlen1 with
    |[e0,e1,e2],_=>exact⟨e0,e1,e2,rfl⟩
   subst hL hM;have d0:=(hb.out.cell (au w _ (hcell 0 _ rfl))).trans (hcell 0 _ rfl);have d1:=(hb.out.cell (au w _ (hcell 1 _ rfl))).trans (hcell 1 _ rfl);have d2:=(hb.out.cell (au w _ (hcell 2 _ rfl))).trans (hcell 2 _ rfl);have f0:=(hb.out.cell (au w _ (hcell1 0 _ rfl))).trans (hcell1 0 _ rfl);have f1:=(hb.out.cell (au w _ (hcell1 1 _ rfl))).trans (hcell1 1 _ rfl);have f2:=(hb.out.cell (au w _ (hcell1 2 _ rfl))).trans (hcell1 2 _ rfl);rw[cN]at d0 f0;have bu:=ae hcall;clear hcall hcell hlen hcell1 hlen1;cases hp:p k with
   |true=>
    rw[hp]at bu;have HP:=ae hp;clear hp;go_upto_region 4 with fail
    refine wp_region_held_drew (S:=(fun w'=>w'.cell? ⟨q,o+k*3,none⟩=some c0∧w'.cell? ⟨q,o+k*3+1,none⟩=some c1∧w'.cell? ⟨q,o+k*3+2,none⟩=some c2∧w'.cell? ⟨q,o+(k+1)*3,none⟩=some e0∧w'.cell? ⟨q,o+(k+1)*3+1,none⟩=some e1∧w'.cell? ⟨q,o+(k+1)*3+2,none⟩=some e2)) bJ (⟨d0,d1,d2,f0,f1,f2⟩) (fun hHeld=>?_);refine bB 0 ?_
    refine bB 1 ?_
    refine bB 2 ?_
    refine bB 3 ?_
    refine bB 4 ?_
    refine bB 5 ?_
    refine bB 6 ?_
    refine bB 7 ?_
    refine bB 8 ?_
    refine bB 9 ?_
    refine mM 10 fun K hK=>?_;go_simp;go_at_fn f;refine(bu.out _ (Below.o5 hb.out)).mono ?_;rintro r wb⟨rfl,db⟩;have eb:=Below.eW db;clear db;refine hK.out _ _ (⟨ak d0 eb,ak d1 eb,ak d2 eb,ak f0 eb,ak f1 eb,ak f2 eb⟩) (fun hHeld=>?_);clear hK K;try simp only[dX]
    refine bB 11 ?_
    refine tX ?_;go_wp2_with fail
    go_roundw
    case rel=>exact⟨k+1,by omega,by go_num,(bm hb eb),ae ⟨by rw[ff,hno.out.1,HP.out];rfl,.inr hlt⟩⟩
    case measure=>simp[intOf];omega
   |false=>
    rw[hp]at bu;have di:af (R=false):=ae (by rw[←HR.out];exact fx aY hp);clear hp;go_upto_region 4 with fail
    refine wp_region_held_drew (S:=(fun w'=>w'.cell? ⟨q,o+k*3,none⟩=some c0∧w'.cell? ⟨q,o+k*3+1,none⟩=some c1∧w'.cell? ⟨q,o+k*3+2,none⟩=some c2∧w'.cell? ⟨q,o+(k+1)*3,none⟩=some e0∧w'.cell? ⟨q,o+(k+1)*3+1,none⟩=some e1∧w'.cell? ⟨q,o+(k+1)*3+2,none⟩=some e2)) bJ (⟨d0,d1,d2,f0,f1,f2⟩) (fun hHeld=>?_);refine bB 0 ?_
    refine bB 1 ?_
    refine bB 2 ?_
    refine bB 3 ?_
    refine bB 4 ?_
    refine bB 5 ?_
    refine bB 6 ?_
    refine bB 7 ?_
    refine bB 8 ?_
    refine bB 9 ?_
    refine mM 10 fun K hK=>?_;go_simp;go_at_fn f;refine(bu.out _ (Below.o5 hb.out)).mono ?_;rintro r wb⟨rfl,db⟩;have eb:=Below.eW db;clear db;refine hK.out _ _ (⟨ak d0 eb,ak d1 eb,ak d2 eb,ak f0 eb,ak f1 eb,ak f2 eb⟩) (fun hHeld=>?_);clear hK K;try simp only[dX]
    refine bB 11 ?_
    refine tX ?_;go_wp2_with fail
    go_ret;exact⟨by rw[di.out];rfl,after hb.out eb⟩
  ·have hge:¬(k:Int)+1<(N:Int):=by omega
   have Xg:af (R=true):=ae (by rw[←HR.out,show N-1=k by have:=hno.out.2;omega];exact hno.out.1);go_wp2_with fail
   go_ret;exact⟨by rw[Xg.out];rfl,hb.out⟩
theorem RJ{w:World}{A:Option Addr}{N cap:Nat}(hN:N≤4000000)(cs:Nat→List Value)(p:Nat→Bool)(hc:dh w A N 6 cs)(f:Nat)(lb:Array Value)(eg:∀args w,(callFunc f args).run ai w=.ok (.enter f args) w)(hf:∀k,k<N→∀W,Below w.heap.size w W→Calls ai f (#[.agg (cs k).toArray]++lb) W (Got (.bool (p k)) W)):Calls ai 184 #[.slice A N cap,.func (.func f) #[] lb] w fun r w'=>(∃z:Int,r=.returned (.int .i64 z)∧Vp p N z)∧Below w.heap.size w w':=by
 obtain⟨HC,HF⟩:=aQ hc hf;clear hc hf;go_enter Tryz.func184,Tryz.ntmps184;go_wp2_with fail
 go_loopw [8] (fun v8 wr=>∃k:Nat,k≤N∧v8=.int .i64 k∧af (Below w.heap.size w wr)∧af (∀j,j<k→p j=false)) (fun v8 _=>N-(intOf v8).toNat)
 case atStart=>exact⟨0,bF _,rfl,ae (aK _ _),ae (fun j hj=>absurd hj (Nat.not_lt_zero j))⟩
 case round=>
  obtain⟨k,hk,rfl,hb,hno⟩:=hrel;by_cases hlt:k<N
  ·skip
   obtain⟨hlen,q,o,rfl,hcell⟩:=HC.out k hlt;have hcall:=HF.out k hlt wr hb.out;generalize hcs:cs k=L at hlen hcell hcall;clear hcs;obtain⟨c0,c1,c2,c3,c4,c5,hL⟩:∃c0 c1 c2 c3 c4 c5,L=[c0,c1,c2,c3,c4,c5]:=by
    match L,hlen with
    |[c0,c1,c2,c3,c4,c5],_=>exact⟨c0,c1,c2,c3,c4,c5,rfl⟩
   subst hL;have d0:=(hb.out.cell (au w _ (hcell 0 _ rfl))).trans (hcell 0 _ rfl);have d1:=(hb.out.cell (au w _ (hcell 1 _ rfl))).trans (hcell 1 _ rfl);have d2:=(hb.out.cell (au w _ (hcell 2 _ rfl))).trans (hcell 2 _ rfl);have d3:=(hb.out.cell (au w _ (hcell 3 _ rfl))).trans (hcell 3 _ rfl);have d4:=(hb.out.cell (au w _ (hcell 4 _ rfl))).trans (hcell 4 _ rfl);have d5:=(hb.out.cell (au w _ (hcell 5 _ rfl))).trans (hcell 5 _ rfl);rw[cN]at d0;have bu:=ae hcall;clear hcall hcell hlen;cases hp:p k with
   |true=>
    rw[hp]at bu;have HP:=ae hp;clear hp;go_wp2_with(go_at_fn f;(with_reducible refine bu.out.mono ?_);rintro r w2⟨rfl,e2⟩)
    go_ret;exact⟨⟨_,rfl,.inl ⟨k,hlt,rfl,HP.out,hno.out⟩⟩,after hb.out e2⟩
   |false=>
    rw[hp]at bu;have HP:=ae hp;clear hp;go_wp2_with(go_at_fn f;(with_reducible refine bu.out.mono ?_);rintro r w2⟨rfl,e2⟩)
    go_roundw
    case rel=>
     refine⟨k+1,by omega,by go_num,(bm hb e2),ae (fun j hj=>?_)⟩;by_cases e:j=k
     ·rw[e];exact HP.out
     ·exact hno.out j (by omega)
    case measure=>simp[intOf];omega
  ·obtain rfl:k=N:=by omega
   go_wp2_with fail
   go_ret;exact⟨⟨_,rfl,.inr ⟨rfl,hno.out⟩⟩,hb.out⟩
theorem DT{w:World}{A:Option Addr}{N cap:Nat}(hN:N≤4000000)(cs:Nat→List Value)(p:Nat→Bool)(hc:dh w A N 6 cs)(f:Nat)(lb:Array Value)(eg:∀args w,(callFunc f args).run ai w=.ok (.enter f args) w)(hf:∀k,k<N→∀W,Below w.heap.size w W→Calls ai f (#[.agg (cs k).toArray]++lb) W (Got (.bool (p k)) W)):Calls ai 129 #[.slice A N cap,.func (.func f) #[] lb] w (Got (.bool ((aD N).any p)) w):=by
 have HI:=ae (RJ (cap:=cap) hN cs p hc f lb eg hf);clear hc hf;generalize hR:(aD N).any p=R;have HR:=ae hR;clear hR;go_enter Tryz.func129,Tryz.ntmps129;go_wp2_with(go_at_call 184;(with_reducible refine HI.out.mono ?_);rintro r w2⟨⟨z,rfl,hz⟩,e2⟩)
 go_ret;exact⟨by rw[←HR.out,←hz.any];rfl,e2⟩
theorem Nj{w:World}(L:List Value)(hl:L.length=6)(g:Nat)(f:Nat)(lb:Array Value)(eg:∀args w,(callFunc f args).run ai w=.ok (.enter f args) w)(hg:w.cell? ⟨g,0,none⟩=some (.func (.func f) #[] lb))(b:Bool)(hf:∀W,Below w.heap.size w W→Calls ai f (#[.agg L.toArray]++lb) W (Got (.bool b) W)):Calls ai 203 #[.agg L.toArray,.pointer (some ⟨g,0,none⟩)] w (Got (.bool (!b)) w):=by
 obtain⟨c0,c1,c2,c3,c4,c5,hL⟩:∃c0 c1 c2 c3 c4 c5,L=[c0,c1,c2,c3,c4,c5]:=by
  match L,hl with
  |[c0,c1,c2,c3,c4,c5],_=>exact⟨c0,c1,c2,c3,c4,c5,rfl⟩
 subst hL;have HF:=ae hf;have hb:=boxed w (.cells #[c0,c1,c2,c3,c4,c5] 71);have HS:=ae (aG.new w 71 #[c0,c1,c2,c3,c4,c5]);have g0:=ak hg hb;have HB:=ae hb;clear hf hg hb hl;go_enter Tryz.func203,Tryz.ntmps203;go_upto_region 1 with fail
 generalize w.alloc (.cells #[c0,c1,c2,c3,c4,c5] 71)=w1 at HB HS g0⊢;generalize w.heap.size=G at HS⊢;obtain⟨s0,s1,s2,s3,s4,s5⟩:=aft HS;go_wp2_with(go_at_fn f;(with_reducible refine(HF.out _ HB.out).mono ?_);rintro r w2⟨rfl,e2⟩)
 go_ret;exact⟨rfl,after HB.out e2⟩
theorem Nk{w:World}{A:Option Addr}{N cap:Nat}(hN:N≤4000000)(cs:Nat→List Value)(p:Nat→Bool)(hc:dh w A N 6 cs)(f:Nat)(lb:Array Value)(eg:∀args w,(callFunc f args).run ai w=.ok (.enter f args) w)(hf:∀k,k<N→∀W,Below w.heap.size w W→Calls ai f (#[.agg (cs k).toArray]++lb) W (Got (.bool (p k)) W)):Calls ai 164 #[.slice A N cap,.func (.func f) #[] lb] w (Got (.bool ((aD N).all p)) w):=by
 have hco:=fun u(hu:Below w.heap.size w u)g(hg:u.cell? ⟨g,0,none⟩=some (.func (.func f) #[] lb))=>DT (cap:=cap) hN cs (fun k=> !p k) (hc.below hu) 203 #[.pointer (some ⟨g,0,none⟩)] (enters_of Tryz.func203 bJ rfl)
  fun k hk W hW=>Nj _ (hc k hk).1 g f lb eg (ak hg hW) (p k) fun W2 hW2=>hf k hk W2 (after hu (after hW hW2))
 rw[←qC];generalize((aD N).any fun k=> !p k)=R at hco⊢;have RD:=ae hco;have hb:=boxed w (.cells #[.func (.func f) #[] lb] 152);obtain⟨HG,HB⟩:=aQ (show(w.alloc (.cells #[.func (.func f) #[] lb] 152)).cell? ⟨w.heap.size,0,none⟩=some (.func (.func f) #[] lb)from(aG.new w 152 #[.func (.func f) #[] lb]).cell 0) hb;clear hco hc hf hb;go_enter Tryz.func164,Tryz.ntmps164;go_upto_region 1 with fail
 generalize w.alloc (.cells #[.func (.func f) #[] lb] 152)=w1 at HB HG⊢;generalize w.heap.size=G at HG⊢;go_wp2_with(go_at_call 129;(with_reducible refine(RD.out _ HB.out _ HG.out).mono ?_);rintro r w2⟨rfl,e2⟩)
 go_ret;exact⟨rfl,after HB.out e2⟩
theorem Nl{w:World}{A:Option Addr}{N cap:Nat}(hN:N≤4000000)(cs:Nat→List Value)(p:Nat→Bool)(hc:dh w A N 6 cs)(f:Nat)(lb:Array Value)(eg:∀args w,(callFunc f args).run ai w=.ok (.enter f args) w)(hf:∀k,k+1<N→∀W,Below w.heap.size w W→Calls ai f (#[.agg (cs k).toArray,.agg (cs (k+1)).toArray]++lb) W (Got (.bool (p k)) W)):Calls ai 162 #[.slice A N cap,.func (.func f) #[] lb] w (Got (.bool ((aD (N-1)).all p)) w):=by
 obtain⟨HC,HF⟩:=aQ hc hf;clear hc hf;generalize hR:(aD (N-1)).all p=R;have HR:=ae hR;clear hR;go_enter Tryz.func162,Tryz.ntmps162;go_wp2_with fail
 go_loopw [5] (fun v5 wr=>∃k:Nat,k≤N∧v5=.int .i64 ((k:Int)+1)∧af (Below w.heap.size w wr)∧af ((aD k).all p=true∧(k=0∨k+1≤N))) (fun v5 _=>N-(intOf v5).toNat)
 case atStart=>exact⟨0,bF _,rfl,ae (aK _ _),ae ⟨rfl,.inl rfl⟩⟩
 case round=>
  obtain⟨k,hk,rfl,hb,hno⟩:=hrel;have hz:IntKind.i64.wrap (k:Int)=(k:Int):=IntWalk.i64_in _ aY;by_cases hlt:k+1<N
  ·have hlt':(k:Int)+1<(N:Int):=by omega
   have hlt0:(k:Int)<(N:Int):=by omega
   have aa0:(0:Int)≤(k:Int)+1:=by omega
   obtain⟨hlen,q,o,hA,hcell⟩:=HC.out k aY;obtain⟨hlen1,q1,o1,hA1,hcell1⟩:=HC.out (k+1) hlt;subst hA;injection hA1 with hA1
   injection hA1 with eq eo _
   subst eq eo;have hcall:=fun u(hu:Below w.heap.size w u)=>HF.out k hlt u hu
   generalize hcs:cs k=L at hlen hcell hcall;generalize hcs1:cs (k+1)=M at hlen1 hcell1 hcall;clear hcs hcs1;obtain⟨c0,c1,c2,c3,c4,c5,hL⟩:∃c0 c1 c2 c3 c4 c5,L=[c0,c1,c2,c3,c4,c5]:=by
    match L,hlen with
    |[c0,c1,c2,c3,c4,c5],_=>exact⟨c0,c1,c2,c3,c4,c5,rfl⟩
   obtain⟨e0,e1,e2,e3,e4,e5,hM⟩:∃e0 e1 e2 e3 e4 e5,M=[e0,e1,e2,e3,e4,e5]:=by
    match M,hlen1 with
    |[e0,e1,e2,e3,e4,e5],_=>exact⟨e0,e1,e2,e3,e4,e5,rfl⟩
   subst hL hM;have d0:=(hb.out.cell (au w _ (hcell 0 _ rfl))).trans (hcell 0 _ rfl);have d1:=(hb.out.cell (au w _ (hcell 1 _ rfl))).trans (hcell 1 _ rfl);have d2:=(hb.out.cell (au w _ (hcell 2 _ rfl))).trans (hcell 2 _ rfl);have d3:=(hb.out.cell (au w _ (hcell 3 _ rfl))).trans (hcell 3 _ rfl);have d4:=(hb.out.cell (au w _ (hcell 4 _ rfl))).trans (hcell 4 _ rfl);have d5:=(hb.out.cell (au w _ (hcell 5 _ rfl))).trans (hcell 5 _ rfl);have f0:=(hb.out.cell (au w _ (hcell1 0 _ rfl))).trans (hcell1 0 _ rfl);have f1:=(hb.out.cell (au w _ (hcell1 1 _ rfl))).trans (hcell1 1 _ rfl);have f2:=(hb.out.cell (au w _ (hcell1 2 _ rfl))).trans (hcell1 2 _ rfl);have f3:=(hb.out.cell (au w _ (hcell1 3 _ rfl))).trans (hcell1 3 _ rfl);have f4:=(hb.out.cell (au w _ (hcell1 4 _ rfl))).trans (hcell1 4 _ rfl);have f5:=(hb.out.cell (au w _ (hcell1 5 _ rfl))).trans (hcell1 5 _ rfl);rw[cN]at d0 f0;have bu:=ae hcall;clear hcall hcell hlen hcell1 hlen1;cases hp:p k with
   |true=>
    rw[hp]at bu;have HP:=ae hp;clear hp;go_upto_region 4 with fail
    refine wp_region_held_drew (S:=(fun w'=>w'.cell? ⟨q,o+k*6,none⟩=some c0∧w'.cell? ⟨q,o+k*6+1,none⟩=some c1∧w'.cell? ⟨q,o+k*6+2,none⟩=some c2∧w'.cell? ⟨q,o+k*6+3,none⟩=some c3∧w'.cell? ⟨q,o+k*6+4,none⟩=some c4∧w'.cell? ⟨q,o+k*6+5,none⟩=some c5∧w'.cell? ⟨q,o+(k+1)*6,none⟩=some e0∧w'.cell? ⟨q,o+(k+1)*6+1,none⟩=some e1∧w'.cell? ⟨q,o+(k+1)*6+2,none⟩=some e2∧w'.cell? ⟨q,o+(k+1)*6+3,none⟩=some e3∧w'.cell? ⟨q,o+(k+1)*6+4,none⟩=some e4∧w'.cell? ⟨q,o+(k+1)*6+5,none⟩=some e5)) bJ (⟨d0,d1,d2,d3,d4,d5,f0,f1,f2,f3,f4,f5⟩) (fun hHeld=>?_);refine bB 0 ?_
    refine bB 1 ?_
    refine bB 2 ?_
    refine bB 3 ?_
    refine bB 4 ?_
    refine bB 5 ?_
    refine bB 6 ?_
    refine bB 7 ?_
    refine bB 8 ?_
    refine bB 9 ?_
    refine mM 10 fun K hK=>?_;go_simp;go_at_fn f;refine(bu.out _ (Below.o5 hb.out)).mono ?_;rintro r wb⟨rfl,db⟩;have eb:=Below.eW db;clear db;refine hK.out _ _ (⟨ak d0 eb,ak d1 eb,ak d2 eb,ak d3 eb,ak d4 eb,ak d5 eb,ak f0 eb,ak f1 eb,ak f2 eb,ak f3 eb,ak f4 eb,ak f5 eb⟩) (fun hHeld=>?_);clear hK K;try simp only[dX]
    refine bB 11 ?_
    refine tX ?_;go_wp2_with fail
    go_roundw
    case rel=>exact⟨k+1,by omega,by go_num,(bm hb eb),ae ⟨by rw[ff,hno.out.1,HP.out];rfl,.inr hlt⟩⟩
    case measure=>simp[intOf];omega
   |false=>
    rw[hp]at bu;have di:af (R=false):=ae (by rw[←HR.out];exact fx aY hp);clear hp;go_upto_region 4 with fail
    refine wp_region_held_drew (S:=(fun w'=>w'.cell? ⟨q,o+k*6,none⟩=some c0∧w'.cell? ⟨q,o+k*6+1,none⟩=some c1∧w'.cell? ⟨q,o+k*6+2,none⟩=some c2∧w'.cell? ⟨q,o+k*6+3,none⟩=some c3∧w'.cell? ⟨q,o+k*6+4,none⟩=some c4∧w'.cell? ⟨q,o+k*6+5,none⟩=some c5∧w'.cell? ⟨q,o+(k+1)*6,none⟩=some e0∧w'.cell? ⟨q,o+(k+1)*6+1,none⟩=some e1∧w'.cell? ⟨q,o+(k+1)*6+2,none⟩=some e2∧w'.cell? ⟨q,o+(k+1)*6+3,none⟩=some e3∧w'.cell? ⟨q,o+(k+1)*6+4,none⟩=some e4∧w'.cell? ⟨q,o+(k+1)*6+5,none⟩=some e5)) bJ (⟨d0,d1,d2,d3,d4,d5,f0,f1,f2,f3,f4,f5⟩) (fun hHeld=>?_);refine bB 0 ?_
    refine bB 1 ?_
    refine bB 2 ?_
    refine bB 3 ?_
    refine bB 4 ?_
    refine bB 5 ?_
    refine bB 6 ?_
    refine bB 7 ?_
    refine bB 8 ?_
    refine bB 9 ?_
    refine mM 10 fun K hK=>?_;go_simp;go_at_fn f;refine(bu.out _ (Below.o5 hb.out)).mono ?_;rintro r wb⟨rfl,db⟩;have eb:=Below.eW db;clear db;refine hK.out _ _ (⟨ak d0 eb,ak d1 eb,ak d2 eb,ak d3 eb,ak d4 eb,ak d5 eb,ak f0 eb,ak f1 eb,ak f2 eb,ak f3 eb,ak f4 eb,ak f5 eb⟩) (fun hHeld=>?_);clear hK K;try simp only[dX]
    refine bB 11 ?_
    refine tX ?_;go_wp2_with fail
    go_ret;exact⟨by rw[di.out];rfl,after hb.out eb⟩
  ·have hge:¬(k:Int)+1<(N:Int):=by omega
   have Xg:af (R=true):=ae (by rw[←HR.out,show N-1=k by have:=hno.out.2;omega];exact hno.out.1);go_wp2_with fail
   go_ret;exact⟨by rw[Xg.out];rfl,hb.out⟩
theorem Nn{w:World}(L:List Value)(hl:L.length=8)(g:Nat)(f:Nat)(lb:Array Value)(eg:∀args w,(callFunc f args).run ai w=.ok (.enter f args) w)(hg:w.cell? ⟨g,0,none⟩=some (.func (.func f) #[] lb))(b:Bool)(hf:∀W,Below w.heap.size w W→Calls ai f (#[.agg L.toArray]++lb) W (Got (.bool b) W)):Calls ai 183 #[.agg L.toArray,.pointer (some ⟨g,0,none⟩)] w (Got (.bool (!b)) w):=by
 obtain⟨c0,c1,c2,c3,c4,c5,c6,c7,hL⟩:∃c0 c1 c2 c3 c4 c5 c6 c7,L=[c0,c1,c2,c3,c4,c5,c6,c7]:=by
  match L,hl with
  |[c0,c1,c2,c3,c4,c5,c6,c7],_=>exact⟨c0,c1,c2,c3,c4,c5,c6,c7,rfl⟩
 subst hL;have HF:=ae hf;have hb:=boxed w (.cells #[c0,c1,c2,c3,c4,c5,c6,c7] 49);have HS:=ae (aG.new w 49 #[c0,c1,c2,c3,c4,c5,c6,c7]);have g0:=ak hg hb;have HB:=ae hb;clear hf hg hb hl;go_enter Tryz.func183,Tryz.ntmps183;go_upto_region 1 with fail
 generalize w.alloc (.cells #[c0,c1,c2,c3,c4,c5,c6,c7] 49)=w1 at HB HS g0⊢;generalize w.heap.size=G at HS⊢;obtain⟨s0,s1,s2,s3,s4,s5,s6,s7⟩:=jq HS;go_wp2_with(go_at_fn f;(with_reducible refine(HF.out _ HB.out).mono ?_);rintro r w2⟨rfl,e2⟩)
 go_ret;exact⟨rfl,after HB.out e2⟩
theorem Np{w:World}{A:Option Addr}{N cap:Nat}(hN:N≤4000000)(cs:Nat→List Value)(p:Nat→Bool)(hc:dh w A N 8 cs)(f:Nat)(lb:Array Value)(eg:∀args w,(callFunc f args).run ai w=.ok (.enter f args) w)(hf:∀k,k<N→∀W,Below w.heap.size w W→Calls ai f (#[.agg (cs k).toArray]++lb) W (Got (.bool (p k)) W)):Calls ai 127 #[.slice A N cap,.func (.func f) #[] lb] w (Got (.bool ((aD N).all p)) w):=by
 have hco:=fun u(hu:Below w.heap.size w u)g(hg:u.cell? ⟨g,0,none⟩=some (.func (.func f) #[] lb))=>Rm (cap:=cap) hN cs (fun k=> !p k) (hc.below hu) 183 #[.pointer (some ⟨g,0,none⟩)] (enters_of Tryz.func183 bJ rfl)
  fun k hk W hW=>Nn _ (hc k hk).1 g f lb eg (ak hg hW) (p k) fun W2 hW2=>hf k hk W2 (after hu (after hW hW2))
 rw[←qC];generalize((aD N).any fun k=> !p k)=R at hco⊢;have RD:=ae hco;have hb:=boxed w (.cells #[.func (.func f) #[] lb] 81);obtain⟨HG,HB⟩:=aQ (show(w.alloc (.cells #[.func (.func f) #[] lb] 81)).cell? ⟨w.heap.size,0,none⟩=some (.func (.func f) #[] lb)from(aG.new w 81 #[.func (.func f) #[] lb]).cell 0) hb;clear hco hc hf hb;go_enter Tryz.func127,Tryz.ntmps127;go_upto_region 1 with fail
 generalize w.alloc (.cells #[.func (.func f) #[] lb] 81)=w1 at HB HG⊢;generalize w.heap.size=G at HG⊢;go_wp2_with(go_at_call 182;(with_reducible refine(RD.out _ HB.out _ HG.out).mono ?_);rintro r w2⟨rfl,e2⟩)
 go_ret;exact⟨rfl,after HB.out e2⟩
theorem Nq{w:World}{A:Option Addr}{N cap:Nat}(hN:N≤4000000)(cs:Nat→List Value)(p:Nat→Bool)(hc:dh w A N 8 cs)(f:Nat)(lb:Array Value)(eg:∀args w,(callFunc f args).run ai w=.ok (.enter f args) w)(hf:∀k,k+1<N→∀W,Below w.heap.size w W→Calls ai f (#[.agg (cs k).toArray,.agg (cs (k+1)).toArray]++lb) W (Got (.bool (p k)) W)):Calls ai 160 #[.slice A N cap,.func (.func f) #[] lb] w (Got (.bool ((aD (N-1)).all p)) w):=by
 obtain⟨HC,HF⟩:=aQ hc hf;clear hc hf;generalize hR:(aD (N-1)).all p=R;have HR:=ae hR;clear hR;go_enter Tryz.func160,Tryz.ntmps160;go_wp2_with fail
 go_loopw [5] (fun v5 wr=>∃k:Nat,k≤N∧v5=.int .i64 ((k:Int)+1)∧af (Below w.heap.size w wr)∧af ((aD k).all p=true∧(k=0∨k+1≤N))) (fun v5 _=>N-(intOf v5).toNat)
 case atStart=>exact⟨0,bF _,rfl,ae (aK _ _),ae ⟨rfl,.inl rfl⟩⟩
 case round=>
  obtain⟨k,hk,rfl,hb,hno⟩:=hrel;have hz:IntKind.i64.wrap (k:Int)=(k:Int):=IntWalk.i64_in _ aY;by_cases hlt:k+1<N
  ·have hlt':(k:Int)+1<(N:Int):=by omega
   have hlt0:(k:Int)<(N:Int):=by omega
   have aa0:(0:Int)≤(k:Int)+1:=by omega
   obtain⟨hlen,q,o,hA,hcell⟩:=HC.out k aY;obtain⟨hlen1,q1,o1,hA1,hcell1⟩:=HC.out (k+1) hlt;subst hA;injection hA1 with hA1
   injection hA1 with eq eo _
   subst eq eo;have hcall:=fun u(hu:Below w.heap.size w u)=>HF.out k hlt u hu
   generalize hcs:cs k=L at hlen hcell hcall;generalize hcs1:cs (k+1)=M at hlen1 hcell1 hcall;clear hcs hcs1;obtain⟨c0,c1,c2,c3,c4,c5,c6,c7,hL⟩:∃c0 c1 c2 c3 c4 c5 c6 c7,L=[c0,c1,c2,c3,c4,c5,c6,c7]:=by
    match L,hlen with
    |[c0,c1,c2,c3,c4,c5,c6,c7],_=>exact⟨c0,c1,c2,c3,c4,c5,c6,c7,rfl⟩
   obtain⟨e0,e1,e2,e3,e4,e5,e6,e7,hM⟩:∃e0 e1 e2 e3 e4 e5 e6 e7,M=[e0,e1,e2,e3,e4,e5,e6,e7]:=by
    match M,hlen1 with
    |[e0,e1,e2,e3,e4,e5,e6,e7],_=>exact⟨e0,e1,e2,e3,e4,e5,e6,e7,rfl⟩
   subst hL hM;have d0:=(hb.out.cell (au w _ (hcell 0 _ rfl))).trans (hcell 0 _ rfl);have d1:=(hb.out.cell (au w _ (hcell 1 _ rfl))).trans (hcell 1 _ rfl);have d2:=(hb.out.cell (au w _ (hcell 2 _ rfl))).trans (hcell 2 _ rfl);have d3:=(hb.out.cell (au w _ (hcell 3 _ rfl))).trans (hcell 3 _ rfl);have d4:=(hb.out.cell (au w _ (hcell 4 _ rfl))).trans (hcell 4 _ rfl);have d5:=(hb.out.cell (au w _ (hcell 5 _ rfl))).trans (hcell 5 _ rfl);have d6:=(hb.out.cell (au w _ (hcell 6 _ rfl))).trans (hcell 6 _ rfl);have d7:=(hb.out.cell (au w _ (hcell 7 _ rfl))).trans (hcell 7 _ rfl);have f0:=(hb.out.cell (au w _ (hcell1 0 _ rfl))).trans (hcell1 0 _ rfl);have f1:=(hb.out.cell (au w _ (hcell1 1 _ rfl))).trans (hcell1 1 _ rfl);have f2:=(hb.out.cell (au w _ (hcell1 2 _ rfl))).trans (hcell1 2 _ rfl);have f3:=(hb.out.cell (au w _ (hcell1 3 _ rfl))).trans (hcell1 3 _ rfl);have f4:=(hb.out.cell (au w _ (hcell1 4 _ rfl))).trans (hcell1 4 _ rfl);have f5:=(hb.out.cell (au w _ (hcell1 5 _ rfl))).trans (hcell1 5 _ rfl);have f6:=(hb.out.cell (au w _ (hcell1 6 _ rfl))).trans (hcell1 6 _ rfl);have f7:=(hb.out.cell (au w _ (hcell1 7 _ rfl))).trans (hcell1 7 _ rfl);rw[cN]at d0 f0;have bu:=ae hcall;clear hcall hcell hlen hcell1 hlen1;cases hp:p k with
   |true=>
    rw[hp]at bu;have HP:=ae hp;clear hp;go_upto_region 4 with fail
    refine wp_region_held_drew (S:=(fun w'=>w'.cell? ⟨q,o+k*8,none⟩=some c0∧w'.cell? ⟨q,o+k*8+1,none⟩=some c1∧w'.cell? ⟨q,o+k*8+2,none⟩=some c2∧w'.cell? ⟨q,o+k*8+3,none⟩=some c3∧w'.cell? ⟨q,o+k*8+4,none⟩=some c4∧w'.cell? ⟨q,o+k*8+5,none⟩=some c5∧w'.cell? ⟨q,o+k*8+6,none⟩=some c6∧w'.cell? ⟨q,o+k*8+7,none⟩=some c7∧w'.cell? ⟨q,o+(k+1)*8,none⟩=some e0∧w'.cell? ⟨q,o+(k+1)*8+1,none⟩=some e1∧w'.cell? ⟨q,o+(k+1)*8+2,none⟩=some e2∧w'.cell? ⟨q,o+(k+1)*8+3,none⟩=some e3∧w'.cell? ⟨q,o+(k+1)*8+4,none⟩=some e4∧w'.cell? ⟨q,o+(k+1)*8+5,none⟩=some e5∧w'.cell? ⟨q,o+(k+1)*8+6,none⟩=some e6∧w'.cell? ⟨q,o+(k+1)*8+7,none⟩=some e7)) bJ (⟨d0,d1,d2,d3,d4,d5,d6,d7,f0,f1,f2,f3,f4,f5,f6,f7⟩) (fun hHeld=>?_);refine bB 0 ?_
    refine bB 1 ?_
    refine bB 2 ?_
    refine bB 3 ?_
    refine bB 4 ?_
    refine bB 5 ?_
    refine bB 6 ?_
    refine bB 7 ?_
    refine bB 8 ?_
    refine bB 9 ?_
    refine mM 10 fun K hK=>?_;go_simp;go_at_fn f;refine(bu.out _ (Below.o5 hb.out)).mono ?_;rintro r wb⟨rfl,db⟩;have eb:=Below.eW db;clear db;refine hK.out _ _ (⟨ak d0 eb,ak d1 eb,ak d2 eb,ak d3 eb,ak d4 eb,ak d5 eb,ak d6 eb,ak d7 eb,ak f0 eb,ak f1 eb,ak f2 eb,ak f3 eb,ak f4 eb,ak f5 eb,ak f6 eb,ak f7 eb⟩) (fun hHeld=>?_);clear hK K;try simp only[dX]
    refine bB 11 ?_
    refine tX ?_;go_wp2_with fail
    go_roundw
    case rel=>exact⟨k+1,by omega,by go_num,(bm hb eb),ae ⟨by rw[ff,hno.out.1,HP.out];rfl,.inr hlt⟩⟩
    case measure=>simp[intOf];omega
   |false=>
    rw[hp]at bu;have di:af (R=false):=ae (by rw[←HR.out];exact fx aY hp);clear hp;go_upto_region 4 with fail
    refine wp_region_held_drew (S:=(fun w'=>w'.cell? ⟨q,o+k*8,none⟩=some c0∧w'.cell? ⟨q,o+k*8+1,none⟩=some c1∧w'.cell? ⟨q,o+k*8+2,none⟩=some c2∧w'.cell? ⟨q,o+k*8+3,none⟩=some c3∧w'.cell? ⟨q,o+k*8+4,none⟩=some c4∧w'.cell? ⟨q,o+k*8+5,none⟩=some c5∧w'.cell? ⟨q,o+k*8+6,none⟩=some c6∧w'.cell? ⟨q,o+k*8+7,none⟩=some c7∧w'.cell? ⟨q,o+(k+1)*8,none⟩=some e0∧w'.cell? ⟨q,o+(k+1)*8+1,none⟩=some e1∧w'.cell? ⟨q,o+(k+1)*8+2,none⟩=some e2∧w'.cell? ⟨q,o+(k+1)*8+3,none⟩=some e3∧w'.cell? ⟨q,o+(k+1)*8+4,none⟩=some e4∧w'.cell? ⟨q,o+(k+1)*8+5,none⟩=some e5∧w'.cell? ⟨q,o+(k+1)*8+6,none⟩=some e6∧w'.cell? ⟨q,o+(k+1)*8+7,none⟩=some e7)) bJ (⟨d0,d1,d2,d3,d4,d5,d6,d7,f0,f1,f2,f3,f4,f5,f6,f7⟩) (fun hHeld=>?_);refine bB 0 ?_
    refine bB 1 ?_
    refine bB 2 ?_
    refine bB 3 ?_
    refine bB 4 ?_
    refine bB 5 ?_
    refine bB 6 ?_
    refine bB 7 ?_
    refine bB 8 ?_
    refine bB 9 ?_
    refine mM 10 fun K hK=>?_;go_simp;go_at_fn f;refine(bu.out _ (Below.o5 hb.out)).mono ?_;rintro r wb⟨rfl,db⟩;have eb:=Below.eW db;clear db;refine hK.out _ _ (⟨ak d0 eb,ak d1 eb,ak d2 eb,ak d3 eb,ak d4 eb,ak d5 eb,ak d6 eb,ak d7 eb,ak f0 eb,ak f1 eb,ak f2 eb,ak f3 eb,ak f4 eb,ak f5 eb,ak f6 eb,ak f7 eb⟩) (fun hHeld=>?_);clear hK K;try simp only[dX]
    refine bB 11 ?_
    refine tX ?_;go_wp2_with fail
    go_ret;exact⟨by rw[di.out];rfl,after hb.out eb⟩
  ·have hge:¬(k:Int)+1<(N:Int):=by omega
   have Xg:af (R=true):=ae (by rw[←HR.out,show N-1=k by have:=hno.out.2;omega];exact hno.out.1);go_wp2_with fail
   go_ret;exact⟨by rw[Xg.out];rfl,hb.out⟩
structure Fits{α:Type}(p:Ps α)(f:α→List UInt8)(Q:α→Prop):Prop where
 back:∀x r,Q x→p (f x++r)=some (x,r)
 same:∀t x r,p t=some (x,r)→t=f x++r∧Q x
theorem rQ(l:List UInt8)(c:UInt8):pL (l++[c])=pL l*256+c.toNat:=by simp[pL]
theorem RN:∀(n:Nat)(l:List UInt8),l.length=n→pL l<256^n:=by
 intro n
 induction n with
 |zero=>
  intro l hl;rw[bS hl];decide
 |succ n ih=>
  intro l hl;rcases List.eq_nil_or_concat l with rfl|⟨m,c,rfl⟩
  ·cases hl
  ·rw[List.concat_eq_append]at hl⊢;rw[aj]at hl;have h1:=ih m (by simpa using hl);have:=c.toNat_lt;rw[rQ,Nat.pow_succ];omega
theorem Xh(l:List UInt8):pL l<256^l.length:=RN _ l rfl
theorem DU(n x:Nat):fw (n+1) x=fw n (x/256)++[UInt8.ofNat (x%256)]:=by
 unfold fw;rw[List.range_succ,List.map_append];congr 1
 ·apply List.map_congr_left;intro j hj;have hj:=List.mem_range.1 hj;rw[show n+1-1-j=(n-1-j)+1 by omega,Nat.pow_succ,Nat.mul_comm (256^(n-1-j)) 256,Nat.div_div_eq_div_mul]
 ·simp
theorem aa1:∀(n x:Nat),x<256^n→pL (fw n x)=x:=by
 intro n
 induction n with
 |zero=>
   intro x hx;rw[Nat.pow_zero]at hx;obtain rfl:x=0:=by omega
   rfl
 |succ n ih=>
  intro x hx;rw[DU,rQ,ih (x/256) (by rw[Nat.pow_succ]at hx;omega)];have:(UInt8.ofNat (x%256)).toNat=x%256:=by
   rw[UInt8.toNat_ofNat'];omega
  rw[this];omega
theorem Xi:∀(n:Nat)(l:List UInt8),l.length=n→fw n (pL l)=l:=by
 intro n
 induction n with
 |zero=>
  intro l hl;rw[bS hl];rfl
 |succ n ih=>
  intro l hl;rcases List.eq_nil_or_concat l with rfl|⟨m,c,rfl⟩
  ·cases hl
  ·rw[List.concat_eq_append]at hl⊢;rw[aj]at hl;have hc:=c.toNat_lt;rw[rQ,DU,show(pL m*256+c.toNat)/256=pL m by omega,show(pL m*256+c.toNat)%256=c.toNat by omega,ih m (by simpa using hl)];congr 1;simp
theorem aa2(l:List UInt8):fw l.length (pL l)=l:=Xi _ l rfl
theorem yD(x r:List UInt8):jL x.length (x++r)=some (x,r):=by
 unfold jL;rw[if_pos (by simp)];simp
theorem take_same{n:Nat}{t x r:List UInt8}(h:jL n t=some (x,r)):t=x++r∧x.length=n:=by
 unfold jL at h;split at h
 ·next hn=>
  injection h with h
  injection h with h1 h2
  subst h1 h2;exact⟨(List.take_append_drop n t).symm,by rw[List.length_take];omega⟩
 ·cases h
theorem cK(n:Nat):Fits (oL n) (fw n) (fun x=>x<256^n)where
 back:=fun x r hx=>by
  unfold oL;have:=yD (fw n x) r;rw[aR]at this;rw[this];show some (pL (fw n x),r)=_;rw[aa1 n x hx]
 same:=fun t x r h=>by
  unfold oL at h;cases ht:jL n t with
  |none=>rw[ht]at h;cases h
  |some y=>
   obtain⟨y1,y2⟩:=y;rw[ht]at h;injection h with h
   injection h with h1 h2
   obtain⟨e1,e2⟩:=take_same ht;simp only at h1 h2;subst h1 h2;have hb:=aa2 y1;rw[e2]at hb;refine⟨by rw[hb];exact e1,?_⟩;have:=Xh y1;rw[e2]at this;exact this
theorem aa3(l:List UInt8):(iF l).data.toList=l:=rfl
theorem aa4(s:ByteArray):iF s.data.toList=s:=rfl
theorem RQ(l:List UInt8):(iF l).size=l.length:=rfl
theorem fh(s:ByteArray):s.data.toList.length=s.size:=by rw[Array.length_toList];rfl
theorem jw(n:Nat):Fits (xK n) (fun s:ByteArray=>s.data.toList) (fun s=>s.size=n)where
 back:=fun x r hx=>by
  unfold xK;have:=yD x.data.toList r;rw[fh,hx]at this;rw[this];rfl
 same:=fun t x r h=>by
  unfold xK at h;cases ht:jL n t with
  |none=>rw[ht]at h;cases h
  |some y=>
   obtain⟨y1,y2⟩:=y;rw[ht]at h;injection h with h
   injection h with h1 h2
   obtain⟨e1,e2⟩:=take_same ht;simp only at h1 h2;subst h1 h2;exact⟨e1,e2⟩
theorem bX{α β:Type}{p:Ps α}{f:α→List UInt8}{Q:α→Prop}(h:Fits p f Q){x:α}(hx:Q x)(g:α→Ps β)(r:List UInt8):dQ p g (f x++r)=g x r:=by
 unfold dQ;rw[h.back x r hx];rfl
theorem cj{α β:Type}{p:Ps α}{f:α→List UInt8}{Q:α→Prop}(h:Fits p f Q){g:α→Ps β}{t r:List UInt8}{y:β}(e:dQ p g t=some (y,r)):∃x u,t=f x++u∧Q x∧g x u=some (y,r):=by
 unfold dQ at e;cases hp:p t with
 |none=>rw[hp]at e;cases e
 |some z=>
  obtain⟨x,u⟩:=z;rw[hp]at e;obtain⟨e1,e2⟩:=h.same t x u hp;exact⟨x,u,e1,e2,e⟩
theorem iq{α:Type}{x y:α}{t r:List UInt8}(e:pd x t=some (y,r)):y=x∧t=r:=by
 injection e with e
 injection e with e1 e2
 exact⟨e1.symm,e2⟩
theorem lE:Fits Na pU (fun s=>s.size≤32768)where
 back:=fun x r hx=>by
  unfold Na pU;rw[aZ,bX (cK 2) (by show x.size<256^2;omega),if_neg aY];exact(jw x.size).back x r rfl
 same:=fun t x r h=>by
  obtain⟨n,u,e1,hn,e2⟩:=cj (cK 2) h;split at e2
  ·cases e2
  ·next hl=>
   obtain⟨e3,e4⟩:=(jw n).same u x r e2;unfold pU;rw[e1,e3,e4,aZ];exact⟨rfl,by omega⟩
def xN(a:Ad):Prop:=(a.v6=false∧a.hi=0∧a.lo<4294967296)∨(a.v6=true∧a.hi<18446744073709551616∧a.lo<18446744073709551616)
theorem uq:Fits adP xi xN where
 back:=fun a r ha=>by
  obtain⟨v,h,l⟩:=a;rcases ha with⟨h1,h2,h3⟩|⟨h1,h2,h3⟩
  ·simp only at h1 h2 h3;subst h1 h2;show adP (fw 1 4++(fw 4 l++r))=_;unfold adP;rw[bX (cK 1) aI,if_pos rfl,bX (cK 4) (by show l<256^4;omega)];rfl
  ·simp only at h1 h2 h3;subst h1;unfold xi;simp only[if_true];rw[show(6::(fw 8 h++fw 8 l))++r=fw 1 6++(fw 8 h++(fw 8 l++r)) by rw[List.cons_append,aZ];rfl];unfold adP;rw[bX (cK 1) aI,if_neg aI,if_pos rfl,bX (cK 8) (by show h<256^8;omega),bX (cK 8) (by show l<256^8;omega)];rfl
 same:=fun t a r h=>by
  obtain⟨k,u,e1,hk,e2⟩:=cj (cK 1) h;split at e2
  ·next h4=>
   obtain⟨l,u2,e3,hl,e4⟩:=cj (cK 4) e2;obtain⟨rfl,rfl⟩:=iq e4;subst h4;rw[e1,e3];exact⟨rfl,Or.inl ⟨rfl,rfl,by simpa using hl⟩⟩
  ·split at e2
   ·next h6=>
    obtain⟨hh,u2,e3,hl,e4⟩:=cj (cK 8) e2;obtain⟨l,u3,e5,hl2,e6⟩:=cj (cK 8) e4;obtain⟨rfl,rfl⟩:=iq e6;subst h6;rw[e1,e3,e5];refine⟨?_,Or.inr ⟨rfl,by simpa using hl,by simpa using hl2⟩⟩;show fw 1 6++(fw 8 hh++(fw 8 l++u3))=xi ⟨true,hh,l⟩++u3;unfold xi;simp only[if_true,List.cons_append,aZ];rfl
   ·cases e2
theorem uu:Fits enP DN (fun e=>xN e.1∧e.2<65536)where
 back:=fun e r he=>by
  unfold enP DN;rw[aZ,bX uq he.1,bX (cK 2) (by have:=he.2;show e.2<256^2;omega)];rfl
 same:=fun t e r h=>by
  obtain⟨a,u,e1,ha,e2⟩:=cj uq h;obtain⟨p,u2,e3,hp,e4⟩:=cj (cK 2) e2;obtain⟨rfl,rfl⟩:=iq e4;unfold DN;rw[e1,e3,aZ];exact⟨rfl,ha,by simpa using hp⟩
theorem Nr{α:Type}{p:Ps α}{f:α→List UInt8}{Q:α→Prop}(h:Fits p f Q):∀(l:List α)(r:List UInt8),(∀x∈l,Q x)→vJ p l.length (l.flatMap f++r)=some (l,r):=by
 intro l
 induction l with
 |nil=>intro r _;rfl
 |cons x m ih=>
  intro r hl;rw[Zg,aZ,cm,vJ,bX h (hl x (List.mem_cons_self ..))];unfold dQ;rw[ih r (fun y hy=>hl y (List.mem_cons_of_mem x hy))];rfl
theorem Ns{α:Type}{p:Ps α}{f:α→List UInt8}{Q:α→Prop}(h:Fits p f Q):∀(n:Nat)(t r:List UInt8)(l:List α),vJ p n t=some (l,r)→t=l.flatMap f++r∧l.length=n∧∀x∈l,Q x:=by
 intro n
 induction n with
 |zero=>
  intro t r l e;obtain⟨rfl,rfl⟩:=iq e;exact⟨rfl,rfl,fun x hx=>by cases hx⟩
 |succ n ih=>
  intro t r l e;obtain⟨x,u,e1,hx,e2⟩:=cj h e;unfold dQ at e2;cases hm:vJ p n u with
  |none=>rw[hm]at e2;cases e2
  |some z=>
   obtain⟨m,u2⟩:=z;rw[hm]at e2;obtain⟨rfl,rfl⟩:=iq e2;obtain⟨i1,i2,i3⟩:=ih u u2 m hm;refine⟨by rw[e1,i1,Zg,aZ],by rw[cm,i2],fun y hy=>?_⟩;rcases List.mem_cons.1 hy with rfl|hy
   ·exact hx
   ·exact i3 y hy
theorem fB{α:Type}{p:Ps α}{f:α→List UInt8}{Q:α→Prop}(h:Fits p f Q):Fits (tm p) (cF f) (fun l=>l.length<65536∧∀x∈l,Q x)where
 back:=fun l r hl=>by
  unfold tm cF;rw[aZ,bX (cK 2) (by have:=hl.1;show l.length<256^2;omega)];exact Nr h l r hl.2
 same:=fun t l r e=>by
  obtain⟨n,u,e1,hn,e2⟩:=cj (cK 2) e;obtain⟨i1,i2,i3⟩:=Ns h n u r l e2;unfold cF;rw[e1,i1,aZ,i2];exact⟨rfl,by simpa using hn,i3⟩
structure Nu(p:Pr):Prop where
 key:p.key.size=32
 bj:p.bj.size=32
 user:p.user.size≤32768
 tags:p.tags.length<65536∧∀x∈p.tags,x.size≤32768
 aH:p.aH.length<65536∧∀x∈p.aH,xN x
 exp:p.exp<256^8
 aW:p.aW<256^1
 ends:p.ends.length<65536∧∀x∈p.ends,xN x.1∧x.2<65536
theorem JK:Fits prP xj Nu where
 back:=fun p r h=>by
  unfold prP xj;simp only[aZ];rw[bX (jw 32) h.key,bX (jw 32) h.bj,bX lE h.user,bX (fB lE) h.tags,bX (fB uq) h.aH,bX (cK 8) h.exp,bX (cK 1) h.aW,bX (fB uu) h.ends];rfl
 same:=fun t p r e=>by
  obtain⟨k,u1,t1,h1,e⟩:=cj (jw 32) e;obtain⟨d,u2,t2,h2,e⟩:=cj (jw 32) e;obtain⟨us,u3,t3,h3,e⟩:=cj lE e;obtain⟨ts,u4,t4,h4,e⟩:=cj (fB lE) e;obtain⟨ads,u5,t5,h5,e⟩:=cj (fB uq) e;obtain⟨ex,u6,t6,h6,e⟩:=cj (cK 8) e;obtain⟨rl,u7,t7,h7,e⟩:=cj (cK 1) e;obtain⟨es,u8,t8,h8,e⟩:=cj (fB uu) e;obtain⟨rfl,rfl⟩:=iq e;unfold xj;rw[t1,t2,t3,t4,t5,t6,t7,t8];simp only[aZ];exact⟨trivial,h1,h2,h3,h4,h5,h6,h7,h8⟩
structure Xj(r:Ry):Prop where
 id:r.id<256^1
 key:r.key.size=32
 fin:xN r.fin.1∧r.fin.2<65536
theorem JL:Fits ryP DO Xj where
 back:=fun p r h=>by
  unfold ryP DO;simp only[aZ];rw[bX (cK 1) h.id,bX (jw 32) h.key,bX uu h.fin];rfl
 same:=fun t p r e=>by
  obtain⟨k,u1,t1,h1,e⟩:=cj (cK 1) e;obtain⟨d,u2,t2,h2,e⟩:=cj (jw 32) e;obtain⟨us,u3,t3,h3,e⟩:=cj uu e;obtain⟨rfl,rfl⟩:=iq e;unfold DO;rw[t1,t2,t3];simp only[aZ];exact⟨trivial,h1,h2,h3⟩
structure RU(m:Mp):Prop where
 version:m.version<256^8
 aJ:m.aJ.length<65536∧∀x∈m.aJ,Nu x
 aF:m.aF.length<65536∧∀x∈m.aF,Xj x
 policy:m.policy.size≤32768
theorem JM:Fits mpP xJ RU where
 back:=fun p r h=>by
  unfold mpP xJ;simp only[aZ];rw[bX (cK 8) h.version,bX (fB JK) h.aJ,bX (fB JL) h.aF,bX lE h.policy];rfl
 same:=fun t p r e=>by
  obtain⟨k,u1,t1,h1,e⟩:=cj (cK 8) e;obtain⟨d,u2,t2,h2,e⟩:=cj (fB JK) e;obtain⟨us,u3,t3,h3,e⟩:=cj (fB JL) e;obtain⟨ps,u4,t4,h4,e⟩:=cj lE e;obtain⟨rfl,rfl⟩:=iq e;unfold xJ;rw[t1,t2,t3,t4];simp only[aZ];exact⟨trivial,h1,h2,h3,h4⟩
theorem Hl{α:Type}{p:Ps α}{f:α→List UInt8}{Q:α→Prop}(h:Fits p f Q){x:α}(hx:Q x)(hl:(f x).length≤32768):fK p (f x)=some x:=by
 unfold fK;rw[if_neg aY];have:=h.back x [] hx;rw[List.append_nil]at this;rw[this]
theorem vK{may:Bool}{b:List UInt8}(h:(encR may b).2=0):may=true∧b.length≤32768∧encR may b=(iF b,0):=by
 unfold encR at h⊢;cases may with
 |false=>simp at h
 |true=>
  simp only[Bool.true_eq_false,if_false]at h⊢;split at h
  ·simp at h
  ·next hl=>exact⟨trivial,by omega,by rw[if_neg hl]⟩
theorem Xk{m:Mp}(ok:RU m)(h:(cJ m).2=0):xM (cJ m).1=(m,0):=by
 obtain⟨h1,h2,h3⟩:=vK h;have e:cJ m=(iF (xJ m),0):=h3;unfold xM;rw[e];simp only[aa3];rw[Hl JM ok h2];simp only;rw[if_pos h]
end Go.Proofs.YtdfnhljccdoncaaGreatDoor
