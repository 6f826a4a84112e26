/- Joined out of: Hb W RgE RgX Tk. -/
import Derived.WalkKit
import Derived.Lib.Hide
import Derived.Deep.RegionHeld
import Derived.WalkSpells
import Derived.WalkLawsBesides
import Derived.Deep.Draws
import Derived.Deep.RegionHeldLaw
set_option linter.unusedVariables false
set_option linter.unusedSimpArgs false
set_option maxHeartbeats 16000000
set_option maxRecDepth 100000
open Array renaming getElem?_eq_none→afh
open Bool renaming and_eq_true→aV
open Go.RowKit renaming Hid→af
open Nat renaming lt_of_lt_of_le→afb,lt_or_ge→afg
namespace Go.Proofs.YteflnojjjdkgmaaGreatDoor
open Go.RowKit
theorem aI{p0 p1:Prop}(h0:p0)(h1:p1):af p0∧af p1:=⟨h0,h1⟩
theorem bj{p0 p1 p2:Prop}(h0:p0)(h1:p1)(h2:p2):af p0∧af p1∧af p2:=⟨h0,h1,h2⟩
theorem cH{p0 p1 p2 p3:Prop}(h0:p0)(h1:p1)(h2:p2)(h3:p3):af p0∧af p1∧af p2∧af p3:=⟨h0,h1,h2,h3⟩
theorem dR{p0 p1 p2 p3 p4:Prop}(h0:p0)(h1:p1)(h2:p2)(h3:p3)(h4:p4):af p0∧af p1∧af p2∧af p3∧af p4:=⟨h0,h1,h2,h3,h4⟩
theorem ox{p0 p1 p2 p3 p4 p5:Prop}(h0:p0)(h1:p1)(h2:p2)(h3:p3)(h4:p4)(h5:p5):af p0∧af p1∧af p2∧af p3∧af p4∧af p5:=⟨h0,h1,h2,h3,h4,h5⟩
theorem mS{p0 p1 p2 p3 p4 p5 p6:Prop}(h0:p0)(h1:p1)(h2:p2)(h3:p3)(h4:p4)(h5:p5)(h6:p6):af p0∧af p1∧af p2∧af p3∧af p4∧af p5∧af p6:=⟨h0,h1,h2,h3,h4,h5,h6⟩
theorem Y7{p0 p1 p2 p3 p4 p5 p6 p7:Prop}(h0:p0)(h1:p1)(h2:p2)(h3:p3)(h4:p4)(h5:p5)(h6:p6)(h7:p7):af p0∧af p1∧af p2∧af p3∧af p4∧af p5∧af p6∧af p7:=⟨h0,h1,h2,h3,h4,h5,h6,h7⟩
theorem Ox{p0 p1 p2 p3 p4 p5 p6 p7 p8:Prop}(h0:p0)(h1:p1)(h2:p2)(h3:p3)(h4:p4)(h5:p5)(h6:p6)(h7:p7)(h8:p8):af p0∧af p1∧af p2∧af p3∧af p4∧af p5∧af p6∧af p7∧af p8:=⟨h0,h1,h2,h3,h4,h5,h6,h7,h8⟩
theorem aa9{p0 p1 p2 p3 p4 p5 p6 p7 p8 p9:Prop}(h0:p0)(h1:p1)(h2:p2)(h3:p3)(h4:p4)(h5:p5)(h6:p6)(h7:p7)(h8:p8)(h9:p9):af p0∧af p1∧af p2∧af p3∧af p4∧af p5∧af p6∧af p7∧af p8∧af p9:=⟨h0,h1,h2,h3,h4,h5,h6,h7,h8,h9⟩
theorem Oy{p0 p1 p2 p3 p4 p5 p6 p7 p8 p9 p10:Prop}(h0:p0)(h1:p1)(h2:p2)(h3:p3)(h4:p4)(h5:p5)(h6:p6)(h7:p7)(h8:p8)(h9:p9)(h10:p10):af p0∧af p1∧af p2∧af p3∧af p4∧af p5∧af p6∧af p7∧af p8∧af p9∧af p10:=⟨h0,h1,h2,h3,h4,h5,h6,h7,h8,h9,h10⟩
theorem pQ{p0 p1 p2 p3 p4 p5 p6 p7 p8 p9 p10 p11:Prop}(h0:p0)(h1:p1)(h2:p2)(h3:p3)(h4:p4)(h5:p5)(h6:p6)(h7:p7)(h8:p8)(h9:p9)(h10:p10)(h11:p11):af p0∧af p1∧af p2∧af p3∧af p4∧af p5∧af p6∧af p7∧af p8∧af p9∧af p10∧af p11:=⟨h0,h1,h2,h3,h4,h5,h6,h7,h8,h9,h10,h11⟩
theorem bg{p:Prop}(h:p:=by kernel_rfl):p:=h
theorem aM{p:Prop}(h:p:=by omega):p:=h
theorem aF{p:Prop}(h:p:=by decide):p:=h
def aD(w:World)(g:Nat)(t:TypeId)(cs:Array Value):Prop:=w.heap[g]? =some (.cells cs t (0,0))
section
variable{w w':World}{g:Nat}{t:TypeId}{cs:Array Value}
theorem aD.lt(h:aD w g t cs):g<w.heap.size:=by
 rcases afg g w.heap.size with hlt|hge
 ·exact hlt
 ·unfold aD at h;rw[afh hge]at h;cases h
theorem aD.cell(h:aD w g t cs)(i:Nat):w.cell? ⟨g,i,none⟩=cs[i]? :=cell_of_row w g i cs t (0,0) h
theorem aD.frozen(h:aD w g t cs)(i:Nat):w.frozen? ⟨g,i,none⟩=false:=by
 unfold aD at h;simp[World.frozen?,h]
theorem aD.new(w:World)(t:TypeId)(cs:Array Value):aD (w.alloc (.cells cs t)) w.heap.size t cs:=heap_alloc_new w _
theorem aD.drew(h:aD w g t cs):aD w.drew g t cs:=h
theorem aD.drewN(h:aD w g t cs)(n:Nat):aD (w.drewN n) g t cs:=h
theorem aD.alloc(h:aD w g t cs)(o:Obj):aD (w.alloc o) g t cs:=(Below.heap_alloc w o g h.lt).trans h
theorem aD.aN(h:aD w g t cs)(i:Nat)(u:Value):aD (w.setCell ⟨g,i,none⟩ u) g t (cs.setIfInBounds i u):=by
 unfold aD at h⊢;simp[World.setCell,Array.getElem?_modify,h]
theorem aD.far(h:aD w g t cs){p:Addr}(hp:g≠p.block)(u:Value):aD (w.setCell p u) g t cs:=(Below.heap_setCell w p u g hp).trans h
theorem aD.below{B:Nat}(h:aD w g t cs)(hb:Below B w w')(hg:g<B):aD w' g t cs:=(hb.block g hg).trans h
theorem aD.grown{row:Option Nat}(h:aD w g t cs)(hb:w.grownBy w' row)(hg:some g≠row):aD w' g t cs:=(hb.block g h.lt hg).trans h
theorem aD.wH{g':Nat}{t':TypeId}{cs':Array Value}(h:aD w g t cs)(h':aD w g' t' cs')(hne:t≠t'):g≠g':=by
 rintro rfl;unfold aD at h h';rw[h]at h';injection h' with h'
 injection h' with _ ht
 exact hne ht
end
structure Keeps(S:Nat→Prop)(w w':World):Prop where
 os:w'.os=w.os
 tape:w'.tape=w.tape
 output:w'.output=w.output
 size:w.heap.size≤w'.heap.size
 block:∀k,k<w.heap.size→¬S k→w'.heap[k]? =w.heap[k]?
section
variable{S T:Nat→Prop}{a b c w w':World}
theorem Keeps.refl(S:Nat→Prop)(w:World):Keeps S w w:=⟨rfl,rfl,rfl,Nat.le_refl _,fun _ _ _=>rfl⟩
theorem Keeps.trans(h:Keeps S a b)(k:Keeps S b c):Keeps S a c:=⟨k.os.trans h.os,k.tape.trans h.tape,k.output.trans h.output,Nat.le_trans h.size k.size,fun i hi hs=>(k.block i (afb hi h.size) hs).trans (h.block i hi hs)⟩
theorem Keeps.mono(h:Keeps S a b)(hst:∀k,k<a.heap.size→S k→T k):Keeps T a b:=⟨h.os,h.tape,h.output,h.size,fun k hk hT=>h.block k hk fun hs=>hT (hst k hk hs)⟩
theorem Keeps.drew(h:Keeps S a w):Keeps S a w.drew:=⟨h.os,h.tape,h.output,h.size,h.block⟩
theorem Keeps.drewN(h:Keeps S a w)(n:Nat):Keeps S a (w.drewN n):=⟨h.os,h.tape,h.output,h.size,h.block⟩
theorem Keeps.alloc(h:Keeps S a w)(o:Obj):Keeps S a (w.alloc o):=⟨h.os,h.tape,h.output,Nat.le_trans h.size (by simp),fun i hi hs=>(Below.heap_alloc w o i (afb hi h.size)).trans (h.block i hi hs)⟩
theorem Keeps.setCell(h:Keeps S a w){p:Addr}(hp:S p.block∨a.heap.size≤p.block)(u:Value):Keeps S a (w.setCell p u):=⟨h.os,h.tape,h.output,by simpa[World.setCell]using h.size,fun i hi hs=>(Below.heap_setCell w p u i (by
 rintro rfl;rcases hp with hp|hp
 ·exact hs hp
 ·omega)).trans (h.block i hi hs)⟩
theorem Keeps.of_below{B:Nat}(h:Below B a b)(hS:∀k,k<a.heap.size→¬S k→k<B):Keeps S a b:=⟨h.os,h.tape,h.output,h.size,fun i hi hs=>h.block i (hS i hi hs)⟩
theorem Keeps.below{B:Nat}(h:Keeps S a b)(hS:∀k,S k→B≤k)(hB:B≤a.heap.size):Below B a b:=⟨h.os,h.tape,h.output,h.size,fun k hk=>h.block k aM fun hs=>by have:=hS k hs;omega⟩
theorem Keeps.Oz{row:Option Nat}(h:a.grownBy b row)(hS:∀k,row=some k→S k):Keeps S a b:=⟨h.os,h.tape,h.output,h.size,fun k hk hs=>h.block k hk fun e=>hs (hS k e.symm)⟩
theorem aD.keep{g:Nat}{t:TypeId}{cs:Array Value}(h:aD w g t cs)(hk:Keeps S w w')(hg:¬S g):aD w' g t cs:=(hk.block g h.lt hg).trans h
theorem Keeps.below_drewN{B n:Nat}(h:Keeps S (a.drewN n) b)(hS:∀k,S k→B≤k)(hB:B≤a.heap.size):Below B a b:=have k:=h.below hS (show B≤(a.drewN n).heap.size from hB)
 ⟨k.os,k.tape,k.output,k.size,k.block⟩
end
theorem cell_far{w:World}{a c:Addr}{u:Value}(h:a.block≠c.block):(w.setCell a u).cell? c=w.cell? c:=World.cell?_setCell_other w a c u (fun e=>h (by rw[e]))
section
variable{P:Program}{ops:Array Oper}{Q:Exit→Act→World→Prop}{md:Region.Mode}{S:World→Prop}{E:Nat}
def fq(P:Program)(md:Region.Mode)(ops:Array Oper)(Q:Exit→Act→World→Prop)(S:World→Prop)(E:Nat):Nat→Array Bool→Act→World→Prop
 |0,l,a,w=>Region.ready md ops l=[]∧Q .normal a w
 |m+1,l,a,w=>(Region.ready md ops l=[]→Q .normal a w)∧∀i∈Region.ready md ops l,wpOp P ops Q i (fun a' w'=>(i≠E→S w')∧fq P md ops Q S E m (l.setIfInBounds i true) a' w') a w
theorem uf:∀(m:Nat)(l:Array Bool)(a:Act)(w:World),fq P md ops Q S E m l a w→wpAny P md ops Q m l a w
 |0,_,_,_,h=>h
 |m+1,_,_,_,h=>⟨h.1,fun i hi=>wpOp_mono (fun a' w' h'=>uf m _ a' w' h'.2) (h.2 i hi)⟩
theorem xI{l:Array Bool}{i j:Nat}{oj:Oper}(hu:l.getD i true=false)(hall:∀e∈oj.after,Region.binds md e=true→l.getD e.on false=true):∀e∈oj.after,Region.binds md e=true→e.on≠i:=by
 intro e he hb heq;have h1:=hall e he hb;rw[heq]at h1;rcases afg i l.size with h'|h'
 ·simp[h']at hu h1;rw[hu]at h1;cases h1
 ·simp[afh h']at h1
def waitsFor(md:Region.Mode)(ops:Array Oper)(E i:Nat):Bool:=((ops[E]?).map fun o=>o.after.any fun e=>Region.binds md e&&decide (e.on=i)).getD false
theorem yD{i:Nat}{oi:Oper}{v:Value}(hi:ops[i]? =some oi)(hsel:∀(j:Nat)(o:Oper)cs b,ops[j]? =some o→o.op≠.select cs b)(hQ:∀c a w,Q (.panic c) (a.put oi.dst v) w→Q (.panic c) a w)(hE:waitsFor md ops E i=true)(hiE:i≠E):∀(m:Nat)(l:Array Bool)(a:Act)(w:World),(∀j oj,ops[j]? =some oj→j≠i→l.getD j true=false→(∀e∈oj.after,Region.binds md e=true→e.on≠i)→oi.apart ops oj=true)→i∈Region.ready md ops l→YieldsIf P ops S oi v a→S w→fq P md ops Q S E m (l.setIfInBounds i true) (a.put oi.dst v) w→fq P md ops Q S E (m+1) l a w:=by
 intro m
 induction m with
 |zero=>
  intro l a w _ hr hy hS H;refine⟨fun h=>(by rw[h]at hr;cases hr),fun j hj=>?_⟩;by_cases hji:j=i
  ·subst hji;exact hy.wpOp hi hS ⟨fun _=>hS,H⟩
  ·have:=ready_mono hj hji;rw[H.1]at this;cases this
 |succ m ih=>
  intro l a w hfree hr hy hS H;refine⟨fun h=>(by rw[h]at hr;cases hr),fun j hj=>?_⟩;by_cases hji:j=i
  ·subst hji;exact hy.wpOp hi hS ⟨fun _=>hS,H⟩
  ·have h1:=H.2 j (ready_mono hj hji);obtain⟨hjun,oj,hoj,hall⟩:=mem_ready.1 hj;have hnot:=xI (j:=j) (mem_ready.1 hr).1 hall;have hjE:j≠E:=by
    rintro rfl;unfold waitsFor at hE;rw[hoj]at hE;simp only[Option.map_some,Option.getD_some]at hE;obtain⟨e,he,h2⟩:=Array.any_eq_true'.1 hE;simp only[aV,decide_eq_true_eq]at h2;exact hnot e he h2.1 h2.2
   have h2:=wpOp_putIf hoj (hfree j oj hoj hji hjun hnot) (fun cs b=>hsel i oi cs b hi) (fun cs b=>hsel j oj cs b hoj) hQ hy h1;have hfree':∀k ok,ops[k]? =some ok→k≠i→(l.setIfInBounds j true).getD k true=false→(∀e∈ok.after,Region.binds md e=true→e.on≠i)→oi.apart ops ok=true:=fun k ok hk hki hun hno=>by
    refine hfree k ok hk hki ?_ hno;by_cases hjk:j=k
    ·subst hjk;exact hjun
    ·rw[getD_set_ne true hjk]at hun;exact hun
   refine wpOp_mono (fun a' w' h3=>⟨h3.2.1,ih (l.setIfInBounds j true) a' w' hfree' (ready_mono hr (Ne.symm hji)) h3.1 (h3.2.1 hjE) ?_⟩) h2;rw[Array.setIfInBounds_comm _ _ hji];exact h3.2.2
theorem Bn{i:Nat}{oi:Oper}{v:Value}{m:Nat}{l:Array Bool}{a:Act}{w:World}(hi:ops[i]? =some oi)(hs:Region.noSelect ops=true)(hf:Region.free md ops l i=true)(hr:(Region.ready md ops l).contains i=true)(hQ:∀c a w,Q (.panic c) (a.put oi.dst v) w→Q (.panic c) a w)(hy:YieldsIf P ops S oi v a)(hS:S w)(hE:(waitsFor md ops E i&&decide (i≠E))=true)(h:fq P md ops Q S E m (l.setIfInBounds i true) (a.put oi.dst v) w):fq P md ops Q S E (m+1) l a w:=by
 simp only[aV,decide_eq_true_eq]at hE;exact yD hi (Region.noSelect_spec hs) hQ hE.1 hE.2 m l a w (Region.free_spec hi hf) (by simpa using hr) hy hS h
def eO(P:Program)(md:Region.Mode)(ops:Array Oper)(Q:Exit→Act→World→Prop)(S:World→Prop)(E:Nat)(m:Nat)(l:Array Bool)(a:Act)(w:World)(rs:List Nat):Prop:=∀i∈rs,wpOp P ops Q i (fun a' w'=>(i≠E→S w')∧fq P md ops Q S E m (l.setIfInBounds i true) a' w') a w
theorem eO.nil{m:Nat}{l:Array Bool}{a:Act}{w:World}:eO P md ops Q S E m l a w []:=fun _ h=>by cases h
theorem eO.cons{m:Nat}{l:Array Bool}{a:Act}{w:World}{i:Nat}{o:Oper}{rs:List Nat}(ho:ops[i]? =some o)(h:∀K':Act→World→Prop,Shut (∀a w,(i≠E→S w)→((i≠E→S w)→fq P md ops Q S E m (l.setIfInBounds i true) a w)→K' a w)→if Region.wanted o (yielded ops a.tmps)=true then Oper.wp P o a w K' Q else K' (a.put o.dst undef) w)(hs:eO P md ops Q S E m l a w rs):eO P md ops Q S E m l a w (i::rs):=fun j hj=>by
 rcases List.mem_cons.1 hj with rfl|hj
 ·exact wpOp_step ho (fun K' hK=>h K' (fun a w hS hW=>hK a w ⟨hS,hW hS⟩))
 ·exact hs j hj
theorem pR{rs:List Nat}{m:Nat}{l:Array Bool}{a:Act}{w:World}(hr:Region.ready md ops l=rs)(hne:rs≠[])(h:eO P md ops Q S E m l a w rs):fq P md ops Q S E (m+1) l a w:=⟨fun h0=>absurd (hr▸h0) hne,hr▸h⟩
theorem Bo{m:Nat}{l:Array Bool}{a:Act}{w:World}(hr:Region.ready md ops l=[])(h:Q .normal a w):fq P md ops Q S E m l a w:=by
 cases m with
 |zero=>exact⟨hr,h⟩
 |succ m=>exact⟨fun _=>h,fun i hi=>by rw[hr]at hi;cases hi⟩
theorem dt(E:Nat)(S:World→Prop){id:Nat}{a:Act}{w:World}(hm:P.follows .mixedOrders=true)(hS:S w.drew)(h:S w.drew→fq P .any ops Q S E ops.size (Array.replicate ops.size false) a w.drew):(Code.region id ops true).wp P Q a w:=wp_region_any hm (uf _ _ _ _ (h hS))
end
section
variable{P:Program}{ops:Array Oper}{Q:Exit→Act→World→Prop}{md:Region.Mode}{S:World→Prop}{E:Nat}
def ft(P:Program)(md:Region.Mode)(ops:Array Oper)(Q:Exit→Act→World→Prop)(S:World→Prop)(E:Nat):Nat→Array Bool→Act→World→Prop
 |0,l,a,w=>Region.ready md ops l=[]∧Q .normal a w
 |m+1,l,a,w=>(Region.ready md ops l=[]→Q .normal a w)∧∀i∈Region.ready md ops l,wpOp P ops Q i (fun a' w'=>(i<E→S w')∧ft P md ops Q S E m (l.setIfInBounds i true) a' w') a w
theorem ug:∀(m:Nat)(l:Array Bool)(a:Act)(w:World),ft P md ops Q S E m l a w→wpAny P md ops Q m l a w
 |0,_,_,_,h=>h
 |m+1,_,_,_,h=>⟨h.1,fun i hi=>wpOp_mono (fun a' w' h'=>ug m _ a' w' h'.2) (h.2 i hi)⟩
def mT(md:Region.Mode)(ops:Array Oper)(E i:Nat):Bool:=(List.range ops.size).all fun e=>decide (e<E)||waitsFor md ops e i
theorem Bq{E i e:Nat}(h:mT md ops E i=true)(he:E≤e)(hl:e<ops.size):waitsFor md ops e i=true:=by
 have:=List.all_eq_true.1 h e (List.mem_range.2 hl);rw[Bool.or_eq_true]at this;rcases this with h|h
 ·exact absurd (of_decide_eq_true h) (by omega)
 ·exact h
theorem yE{i:Nat}{oi:Oper}{v:Value}(hi:ops[i]? =some oi)(hsel:∀(j:Nat)(o:Oper)cs b,ops[j]? =some o→o.op≠.select cs b)(hQ:∀c a w,Q (.panic c) (a.put oi.dst v) w→Q (.panic c) a w)(hE:mT md ops E i=true)(hiE:i<E):∀(m:Nat)(l:Array Bool)(a:Act)(w:World),(∀j oj,ops[j]? =some oj→j≠i→l.getD j true=false→(∀e∈oj.after,Region.binds md e=true→e.on≠i)→oi.apart ops oj=true)→i∈Region.ready md ops l→YieldsIf P ops S oi v a→S w→ft P md ops Q S E m (l.setIfInBounds i true) (a.put oi.dst v) w→ft P md ops Q S E (m+1) l a w:=by
 intro m
 induction m with
 |zero=>
  intro l a w _ hr hy hS H;refine⟨fun h=>(by rw[h]at hr;cases hr),fun j hj=>?_⟩;by_cases hji:j=i
  ·subst hji;exact hy.wpOp hi hS ⟨fun _=>hS,H⟩
  ·have:=ready_mono hj hji;rw[H.1]at this;cases this
 |succ m ih=>
  intro l a w hfree hr hy hS H;refine⟨fun h=>(by rw[h]at hr;cases hr),fun j hj=>?_⟩;by_cases hji:j=i
  ·subst hji;exact hy.wpOp hi hS ⟨fun _=>hS,H⟩
  ·have h1:=H.2 j (ready_mono hj hji);obtain⟨hjun,oj,hoj,hall⟩:=mem_ready.1 hj;have hnot:=xI (j:=j) (mem_ready.1 hr).1 hall;have hjE:j<E:=by
    rcases afg j E with hlt|hge
    ·exact hlt
    have hE:=Bq hE hge (Array.getElem?_eq_some_iff.1 hoj).1;exfalso;unfold waitsFor at hE;rw[hoj]at hE;simp only[Option.map_some,Option.getD_some]at hE;obtain⟨e,he,h2⟩:=Array.any_eq_true'.1 hE;simp only[aV,decide_eq_true_eq]at h2;exact hnot e he h2.1 h2.2
   have h2:=wpOp_putIf hoj (hfree j oj hoj hji hjun hnot) (fun cs b=>hsel i oi cs b hi) (fun cs b=>hsel j oj cs b hoj) hQ hy h1;have hfree':∀k ok,ops[k]? =some ok→k≠i→(l.setIfInBounds j true).getD k true=false→(∀e∈ok.after,Region.binds md e=true→e.on≠i)→oi.apart ops ok=true:=fun k ok hk hki hun hno=>by
    refine hfree k ok hk hki ?_ hno;by_cases hjk:j=k
    ·subst hjk;exact hjun
    ·rw[getD_set_ne true hjk]at hun;exact hun
   refine wpOp_mono (fun a' w' h3=>⟨h3.2.1,ih (l.setIfInBounds j true) a' w' hfree' (ready_mono hr (Ne.symm hji)) h3.1 (h3.2.1 hjE) ?_⟩) h2;rw[Array.setIfInBounds_comm _ _ hji];exact h3.2.2
theorem Br{i:Nat}{oi:Oper}{v:Value}{m:Nat}{l:Array Bool}{a:Act}{w:World}(hi:ops[i]? =some oi)(hs:Region.noSelect ops=true)(hf:Region.free md ops l i=true)(hr:(Region.ready md ops l).contains i=true)(hQ:∀c a w,Q (.panic c) (a.put oi.dst v) w→Q (.panic c) a w)(hy:YieldsIf P ops S oi v a)(hS:S w)(hE:(mT md ops E i&&decide (i<E))=true)(h:ft P md ops Q S E m (l.setIfInBounds i true) (a.put oi.dst v) w):ft P md ops Q S E (m+1) l a w:=by
 simp only[aV,decide_eq_true_eq]at hE;exact yE hi (Region.noSelect_spec hs) hQ hE.1 hE.2 m l a w (Region.free_spec hi hf) (by simpa using hr) hy hS h
def gB(P:Program)(md:Region.Mode)(ops:Array Oper)(Q:Exit→Act→World→Prop)(S:World→Prop)(E:Nat)(m:Nat)(l:Array Bool)(a:Act)(w:World)(rs:List Nat):Prop:=∀i∈rs,wpOp P ops Q i (fun a' w'=>(i<E→S w')∧ft P md ops Q S E m (l.setIfInBounds i true) a' w') a w
theorem gB.nil{m:Nat}{l:Array Bool}{a:Act}{w:World}:gB P md ops Q S E m l a w []:=fun _ h=>by cases h
theorem gB.cons{m:Nat}{l:Array Bool}{a:Act}{w:World}{i:Nat}{o:Oper}{rs:List Nat}(ho:ops[i]? =some o)(h:∀K':Act→World→Prop,Shut (∀a w,(i<E→S w)→((i<E→S w)→ft P md ops Q S E m (l.setIfInBounds i true) a w)→K' a w)→if Region.wanted o (yielded ops a.tmps)=true then Oper.wp P o a w K' Q else K' (a.put o.dst undef) w)(hs:gB P md ops Q S E m l a w rs):gB P md ops Q S E m l a w (i::rs):=fun j hj=>by
 rcases List.mem_cons.1 hj with rfl|hj
 ·exact wpOp_step ho (fun K' hK=>h K' (fun a w hS hW=>hK a w ⟨hS,hW hS⟩))
 ·exact hs j hj
theorem yF{rs:List Nat}{m:Nat}{l:Array Bool}{a:Act}{w:World}(hr:Region.ready md ops l=rs)(hne:rs≠[])(h:gB P md ops Q S E m l a w rs):ft P md ops Q S E (m+1) l a w:=⟨fun h0=>absurd (hr▸h0) hne,hr▸h⟩
theorem Bt{m:Nat}{l:Array Bool}{a:Act}{w:World}(hr:Region.ready md ops l=[])(h:Q .normal a w):ft P md ops Q S E m l a w:=by
 cases m with
 |zero=>exact⟨hr,h⟩
 |succ m=>exact⟨fun _=>h,fun i hi=>by rw[hr]at hi;cases hi⟩
theorem jb(E:Nat)(S:World→Prop){id:Nat}{a:Act}{w:World}(hm:P.follows .mixedOrders=true)(hS:S w.drew)(h:S w.drew→ft P .any ops Q S E ops.size (Array.replicate ops.size false) a w.drew):(Code.region id ops true).wp P Q a w:=wp_region_any hm (ug _ _ _ _ (h hS))
end
section
variable{P:Program}{ops:Array Oper}{Q:Exit→Act→World→Prop}{md:Region.Mode}{S:World→Prop}{E:Nat}
theorem nP(i:Nat){o:Oper}{v:Value}{f:Nat}{l:Array Bool}{a:Act}{w:World}(h:wpAnyH P md ops Q S f (l.setIfInBounds i true) (a.put o.dst v) w)(hi:ops[i]? =some o:=by exact rfl)(hs:Region.noSelect ops=true:=by kernel_rfl)(hf:Region.free md ops l i=true:=by kernel_rfl)(hr:(Region.ready md ops l).contains i=true:=by kernel_rfl)(hw:Region.wanted o (yielded ops a.tmps)=true:=by rfl)(hy:∀w,S w→(execOp a.eval o).run P w=.ok (.value v) w:=by(intro w hSw;(try dsimp only at hSw);go_simp;try with_reducible rfl))(hQ:∀c a w,Q (.panic c) (a.put o.dst v) w→Q (.panic c) a w:=by exact fun _ _ _ h=>h)(hS:S w:=by assumption):wpAnyH P md ops Q S (f+1) l a w:=wpAnyH_take hi hs hf hr hQ (.inl ⟨hw,hy⟩) hS h
theorem ztU(i:Nat){o:Oper}{f:Nat}{l:Array Bool}{a:Act}{w:World}(h:wpAnyH P md ops Q S f (l.setIfInBounds i true) (a.put o.dst undef) w)(hi:ops[i]? =some o:=by exact rfl)(hs:Region.noSelect ops=true:=by kernel_rfl)(hf:Region.free md ops l i=true:=by kernel_rfl)(hr:(Region.ready md ops l).contains i=true:=by kernel_rfl)(hw:Region.wanted o (yielded ops a.tmps)=false:=by rfl)(hQ:∀c a w,Q (.panic c) (a.put o.dst undef) w→Q (.panic c) a w:=by exact fun _ _ _ h=>h)(hS:S w:=by assumption):wpAnyH P md ops Q S (f+1) l a w:=wpAnyH_take hi hs hf hr hQ (.inr ⟨hw,rfl⟩) hS h
theorem ztE(i:Nat){o:Oper}{v:Value}{f:Nat}{l:Array Bool}{a:Act}{w:World}(h:fq P md ops Q S E f (l.setIfInBounds i true) (a.put o.dst v) w)(hi:ops[i]? =some o:=by exact rfl)(hs:Region.noSelect ops=true:=by kernel_rfl)(hf:Region.free md ops l i=true:=by kernel_rfl)(hr:(Region.ready md ops l).contains i=true:=by kernel_rfl)(hw:Region.wanted o (yielded ops a.tmps)=true:=by rfl)(hy:∀w,S w→(execOp a.eval o).run P w=.ok (.value v) w:=by(intro w hSw;(try dsimp only at hSw);go_simp;try with_reducible rfl))(hQ:∀c a w,Q (.panic c) (a.put o.dst v) w→Q (.panic c) a w:=by exact fun _ _ _ h=>h)(hS:S w:=by assumption)(hE:(waitsFor md ops E i&&decide (i≠E))=true:=by kernel_rfl):fq P md ops Q S E (f+1) l a w:=Bn hi hs hf hr hQ (.inl ⟨hw,hy⟩) hS hE h
end
theorem cq:(∀(a:Act)(d:Tmp)(v:Value),a.put (some d) v={a with tmps:=a.tmps.setIfInBounds d v})∧(∀(a:Act)(v:Value),a.put none v=a)∧(∀{α:Type}(l:List α)(i:Nat)(x:α),l.toArray.setIfInBounds i x=(l.set i x).toArray)∧(∀{α:Type}(l:List α)(x y:α),(x::l).set 0 y=y::l)∧(∀{α:Type}(l:List α)(x y:α)(i:Nat),(x::l).set (i+1) y=x::l.set i y)∧(∀{α:Type}(l:List α)(i:Nat)(h:i<l.toArray.size),l.toArray[i]=l[i]'h)∧(∀{α:Type}(x:α)(l:List α)(h:0<(x::l).length),(x::l)[0]=x)∧(∀{α:Type}(x:α)(l:List α)(i:Nat)(h:i+1<(x::l).length),(x::l)[i+1]=l[i]'(Nat.lt_of_succ_lt_succ h)):=⟨fun _ _ _=>rfl,fun _ _=>rfl,fun _ _ _=>by simp,fun _ _ _=>rfl,fun _ _ _ _=>rfl,fun _ _ _=>rfl,fun _ _ _=>rfl,fun _ _ _ _=>rfl⟩
theorem iD{w:World}{g:Nat}{t:TypeId}{x0 x1:Value}{l:List Value}(h:af (aD w g t (x0::x1::l).toArray)):w.cell? ⟨g,0,none⟩=some x0∧w.cell? ⟨g,1,none⟩=some x1:=⟨h.out.cell 0,h.out.cell 1⟩
theorem iE{w:World}{g:Nat}{t:TypeId}{x0 x1 x2:Value}{l:List Value}(h:af (aD w g t (x0::x1::x2::l).toArray)):w.cell? ⟨g,0,none⟩=some x0∧w.cell? ⟨g,1,none⟩=some x1∧w.cell? ⟨g,2,none⟩=some x2:=⟨h.out.cell 0,h.out.cell 1,h.out.cell 2⟩
theorem dy{w:World}{g:Nat}{t:TypeId}{x0 x1 x2 x3:Value}{l:List Value}(h:af (aD w g t (x0::x1::x2::x3::l).toArray)):w.cell? ⟨g,0,none⟩=some x0∧w.cell? ⟨g,1,none⟩=some x1∧w.cell? ⟨g,2,none⟩=some x2∧w.cell? ⟨g,3,none⟩=some x3:=⟨h.out.cell 0,h.out.cell 1,h.out.cell 2,h.out.cell 3⟩
theorem J7{w:World}{g:Nat}{t:TypeId}{x0 x1 x2 x3 x4:Value}{l:List Value}(h:af (aD w g t (x0::x1::x2::x3::x4::l).toArray)):w.cell? ⟨g,0,none⟩=some x0∧w.cell? ⟨g,1,none⟩=some x1∧w.cell? ⟨g,2,none⟩=some x2∧w.cell? ⟨g,3,none⟩=some x3∧w.cell? ⟨g,4,none⟩=some x4:=⟨h.out.cell 0,h.out.cell 1,h.out.cell 2,h.out.cell 3,h.out.cell 4⟩
theorem wN{w:World}{g:Nat}{t:TypeId}{x0 x1 x2 x3 x4 x5:Value}{l:List Value}(h:af (aD w g t (x0::x1::x2::x3::x4::x5::l).toArray)):w.cell? ⟨g,0,none⟩=some x0∧w.cell? ⟨g,1,none⟩=some x1∧w.cell? ⟨g,2,none⟩=some x2∧w.cell? ⟨g,3,none⟩=some x3∧w.cell? ⟨g,4,none⟩=some x4∧w.cell? ⟨g,5,none⟩=some x5:=⟨h.out.cell 0,h.out.cell 1,h.out.cell 2,h.out.cell 3,h.out.cell 4,h.out.cell 5⟩
theorem abb{w:World}{g:Nat}{t:TypeId}{x0 x1 x2 x3 x4 x5 x6:Value}{l:List Value}(h:af (aD w g t (x0::x1::x2::x3::x4::x5::x6::l).toArray)):w.cell? ⟨g,0,none⟩=some x0∧w.cell? ⟨g,1,none⟩=some x1∧w.cell? ⟨g,2,none⟩=some x2∧w.cell? ⟨g,3,none⟩=some x3∧w.cell? ⟨g,4,none⟩=some x4∧w.cell? ⟨g,5,none⟩=some x5∧w.cell? ⟨g,6,none⟩=some x6:=⟨h.out.cell 0,h.out.cell 1,h.out.cell 2,h.out.cell 3,h.out.cell 4,h.out.cell 5,h.out.cell 6⟩
theorem cU{w:World}{g:Nat}{t:TypeId}{x0 x1 x2 x3 x4 x5 x6 x7:Value}{l:List Value}(h:af (aD w g t (x0::x1::x2::x3::x4::x5::x6::x7::l).toArray)):w.cell? ⟨g,0,none⟩=some x0∧w.cell? ⟨g,1,none⟩=some x1∧w.cell? ⟨g,2,none⟩=some x2∧w.cell? ⟨g,3,none⟩=some x3∧w.cell? ⟨g,4,none⟩=some x4∧w.cell? ⟨g,5,none⟩=some x5∧w.cell? ⟨g,6,none⟩=some x6∧w.cell? ⟨g,7,none⟩=some x7:=⟨h.out.cell 0,h.out.cell 1,h.out.cell 2,h.out.cell 3,h.out.cell 4,h.out.cell 5,h.out.cell 6,h.out.cell 7⟩
theorem J8{w:World}{g:Nat}{t:TypeId}{x0 x1 x2 x3 x4 x5 x6 x7 x8:Value}{l:List Value}(h:af (aD w g t (x0::x1::x2::x3::x4::x5::x6::x7::x8::l).toArray)):w.cell? ⟨g,0,none⟩=some x0∧w.cell? ⟨g,1,none⟩=some x1∧w.cell? ⟨g,2,none⟩=some x2∧w.cell? ⟨g,3,none⟩=some x3∧w.cell? ⟨g,4,none⟩=some x4∧w.cell? ⟨g,5,none⟩=some x5∧w.cell? ⟨g,6,none⟩=some x6∧w.cell? ⟨g,7,none⟩=some x7∧w.cell? ⟨g,8,none⟩=some x8:=⟨h.out.cell 0,h.out.cell 1,h.out.cell 2,h.out.cell 3,h.out.cell 4,h.out.cell 5,h.out.cell 6,h.out.cell 7,h.out.cell 8⟩
theorem aU{w w1 w2:World}(h:af (RowKit.Below w.heap.size w w1))(d:RowKit.Below w1.heap.size w1 w2):af (RowKit.Below w.heap.size w w2):=h.out.trans (d.mono h.out.size)
section
variable{P:Program}{ops:Array Oper}{Q:Exit→Act→World→Prop}{md:Region.Mode}{S:World→Prop}{E:Nat}
theorem bm(i:Nat){o:Oper}{v:Value}{f:Nat}{l l1:Array Bool}{a a1:Act}{w:World}(h:wpAnyH P md ops Q S f l1 a1 w)(hi:ops[i]? =some o:=by exact rfl)(hs:Region.noSelect ops=true:=by kernel_rfl)(hf:Region.free md ops l i=true:=by kernel_rfl)(hr:(Region.ready md ops l).contains i=true:=by kernel_rfl)(hw:Region.wanted o (yielded ops a.tmps)=true:=by rfl)(hy:∀w,S w→(execOp a.eval o).run P w=.ok (.value v) w:=by(intro w hSw;(try dsimp only at hSw);go_simp;try with_reducible rfl))(hQ:∀c a w,Q (.panic c) (a.put o.dst v) w→Q (.panic c) a w:=by exact fun _ _ _ h=>h)(hS:S w:=by assumption)(el:l.setIfInBounds i true=l1:=by((conv=>lhs;simp only[cq]);try exact rfl))(ea:a.put o.dst v=a1:=by((conv=>lhs;simp only[cq]);try exact rfl)):wpAnyH P md ops Q S (f+1) l a w:=by subst el ea;exact nP i h hi hs hf hr hw hy hQ hS
theorem Ep(i:Nat){o:Oper}{f:Nat}{l l1:Array Bool}{a a1:Act}{w:World}(h:wpAnyH P md ops Q S f l1 a1 w)(hi:ops[i]? =some o:=by exact rfl)(hs:Region.noSelect ops=true:=by kernel_rfl)(hf:Region.free md ops l i=true:=by kernel_rfl)(hr:(Region.ready md ops l).contains i=true:=by kernel_rfl)(hw:Region.wanted o (yielded ops a.tmps)=false:=by rfl)(hQ:∀c a w,Q (.panic c) (a.put o.dst undef) w→Q (.panic c) a w:=by exact fun _ _ _ h=>h)(hS:S w:=by assumption)(el:l.setIfInBounds i true=l1:=by((conv=>lhs;simp only[cq]);try exact rfl))(ea:a.put o.dst undef=a1:=by((conv=>lhs;simp only[cq]);try exact rfl)):wpAnyH P md ops Q S (f+1) l a w:=by subst el ea;exact ztU i h hi hs hf hr hw hQ hS
theorem jk(i:Nat){o:Oper}{f:Nat}{l:Array Bool}{a:Act}{w:World}(h:∀K:Act→World→Prop,Shut (∀a w,S w→(S w→wpAnyH P md ops Q S f (l.setIfInBounds i true) a w)→K a w)→if Region.wanted o (yielded ops a.tmps)=true then Oper.wp P o a w K Q else K (a.put o.dst undef) w)(hi:ops[i]? =some o:=by exact rfl)(hr:Region.ready md ops l=[i]:=by kernel_rfl):wpAnyH P md ops Q S (f+1) l a w:=wpAnyH_ready hr (by simp) (AllReadyH.cons hi h AllReadyH.nil)
theorem qR{f:Nat}{l:Array Bool}{a:Act}{w:World}(h:Q .normal a w)(hr:Region.ready md ops l=[]:=by kernel_rfl):wpAnyH P md ops Q S f l a w:=wpAnyH_done hr h _
theorem dm(i:Nat){o:Oper}{v:Value}{f:Nat}{l l1:Array Bool}{a a1:Act}{w:World}(h:fq P md ops Q S E f l1 a1 w)(hi:ops[i]? =some o:=by exact rfl)(hs:Region.noSelect ops=true:=by kernel_rfl)(hf:Region.free md ops l i=true:=by kernel_rfl)(hr:(Region.ready md ops l).contains i=true:=by kernel_rfl)(hw:Region.wanted o (yielded ops a.tmps)=true:=by rfl)(hy:∀w,S w→(execOp a.eval o).run P w=.ok (.value v) w:=by(intro w hSw;(try dsimp only at hSw);go_simp;try with_reducible rfl))(hQ:∀c a w,Q (.panic c) (a.put o.dst v) w→Q (.panic c) a w:=by exact fun _ _ _ h=>h)(hS:S w:=by assumption)(hE:(waitsFor md ops E i&&decide (i≠E))=true:=by kernel_rfl)(el:l.setIfInBounds i true=l1:=by((conv=>lhs;simp only[cq]);try exact rfl))(ea:a.put o.dst v=a1:=by((conv=>lhs;simp only[cq]);try exact rfl)):fq P md ops Q S E (f+1) l a w:=by subst el ea;exact ztE i h hi hs hf hr hw hy hQ hS hE
theorem lI(i:Nat){o:Oper}{f:Nat}{l:Array Bool}{a:Act}{w:World}(h:∀K:Act→World→Prop,Shut (∀a w,(i≠E→S w)→((i≠E→S w)→fq P md ops Q S E f (l.setIfInBounds i true) a w)→K a w)→if Region.wanted o (yielded ops a.tmps)=true then Oper.wp P o a w K Q else K (a.put o.dst undef) w)(hi:ops[i]? =some o:=by exact rfl)(hr:Region.ready md ops l=[i]:=by kernel_rfl):fq P md ops Q S E (f+1) l a w:=pR hr (by simp) (eO.cons hi h eO.nil)
theorem J9{f:Nat}{l:Array Bool}{a:Act}{w:World}(h:Q .normal a w)(hr:Region.ready md ops l=[]:=by kernel_rfl):fq P md ops Q S E f l a w:=Bo hr h
theorem ztX(i:Nat){o:Oper}{v:Value}{f:Nat}{l:Array Bool}{a:Act}{w:World}(h:ft P md ops Q S E f (l.setIfInBounds i true) (a.put o.dst v) w)(hi:ops[i]? =some o:=by exact rfl)(hs:Region.noSelect ops=true:=by kernel_rfl)(hf:Region.free md ops l i=true:=by kernel_rfl)(hr:(Region.ready md ops l).contains i=true:=by kernel_rfl)(hw:Region.wanted o (yielded ops a.tmps)=true:=by rfl)(hy:∀w,S w→(execOp a.eval o).run P w=.ok (.value v) w:=by(intro w hSw;(try dsimp only at hSw);go_simp;try with_reducible rfl))(hQ:∀c a w,Q (.panic c) (a.put o.dst v) w→Q (.panic c) a w:=by exact fun _ _ _ h=>h)(hS:S w:=by assumption)(hE:(mT md ops E i&&decide (i<E))=true:=by kernel_rfl):ft P md ops Q S E (f+1) l a w:=Br hi hs hf hr hQ (.inl ⟨hw,hy⟩) hS hE h
theorem tc(i:Nat){o:Oper}{v:Value}{f:Nat}{l l1:Array Bool}{a a1:Act}{w:World}(h:ft P md ops Q S E f l1 a1 w)(hi:ops[i]? =some o:=by exact rfl)(hs:Region.noSelect ops=true:=by kernel_rfl)(hf:Region.free md ops l i=true:=by kernel_rfl)(hr:(Region.ready md ops l).contains i=true:=by kernel_rfl)(hw:Region.wanted o (yielded ops a.tmps)=true:=by rfl)(hy:∀w,S w→(execOp a.eval o).run P w=.ok (.value v) w:=by(intro w hSw;(try dsimp only at hSw);go_simp;try with_reducible rfl))(hQ:∀c a w,Q (.panic c) (a.put o.dst v) w→Q (.panic c) a w:=by exact fun _ _ _ h=>h)(hS:S w:=by assumption)(hE:(mT md ops E i&&decide (i<E))=true:=by kernel_rfl)(el:l.setIfInBounds i true=l1:=by((conv=>lhs;simp only[cq]);try exact rfl))(ea:a.put o.dst v=a1:=by((conv=>lhs;simp only[cq]);try exact rfl)):ft P md ops Q S E (f+1) l a w:=by subst el ea;exact ztX i h hi hs hf hr hw hy hQ hS hE
theorem tC(i:Nat){o:Oper}{f:Nat}{l:Array Bool}{a:Act}{w:World}(h:∀K:Act→World→Prop,Shut (∀a w,(i<E→S w)→((i<E→S w)→ft P md ops Q S E f (l.setIfInBounds i true) a w)→K a w)→if Region.wanted o (yielded ops a.tmps)=true then Oper.wp P o a w K Q else K (a.put o.dst undef) w)(hi:ops[i]? =some o:=by exact rfl)(hr:Region.ready md ops l=[i]:=by kernel_rfl):ft P md ops Q S E (f+1) l a w:=yF hr (by simp) (gB.cons hi h gB.nil)
theorem zdX{f:Nat}{l:Array Bool}{a:Act}{w:World}(h:Q .normal a w)(hr:Region.ready md ops l=[]:=by kernel_rfl):ft P md ops Q S E f l a w:=Bt hr h
end
end Go.Proofs.YteflnojjjdkgmaaGreatDoor
