/- Joined out of: Hb W RgE RgX Tk. -/
import Derived.WalkKit
import Derived.Lib.Hide
import Derived.Deep.RegionHeld
import Derived.WalkSpells
import Derived.WalkLawsBesides
import Derived.Deep.Draws
import Derived.Deep.RegionHeldLaw
set_option linter.unusedVariables false
set_option linter.unusedSimpArgs false
set_option maxHeartbeats 16000000
set_option maxRecDepth 100000
open Array renaming getElem?_eq_none→agm
open Bool renaming and_eq_true→bg
open Go.RowKit renaming Hid→af
open Nat renaming lt_of_lt_of_le→agh,lt_or_ge→agl
namespace Go.Proofs.YtdfnhljccdoncaaGreatDoor
open Go.RowKit
theorem aQ{p0 p1:Prop}(h0:p0)(h1:p1):af p0∧af p1:=⟨h0,h1⟩
theorem bO{p0 p1 p2:Prop}(h0:p0)(h1:p1)(h2:p2):af p0∧af p1∧af p2:=⟨h0,h1,h2⟩
theorem fH{p0 p1 p2 p3:Prop}(h0:p0)(h1:p1)(h2:p2)(h3:p3):af p0∧af p1∧af p2∧af p3:=⟨h0,h1,h2,h3⟩
theorem kp{p0 p1 p2 p3 p4:Prop}(h0:p0)(h1:p1)(h2:p2)(h3:p3)(h4:p4):af p0∧af p1∧af p2∧af p3∧af p4:=⟨h0,h1,h2,h3,h4⟩
theorem tU{p0 p1 p2 p3 p4 p5:Prop}(h0:p0)(h1:p1)(h2:p2)(h3:p3)(h4:p4)(h5:p5):af p0∧af p1∧af p2∧af p3∧af p4∧af p5:=⟨h0,h1,h2,h3,h4,h5⟩
theorem uE{p0 p1 p2 p3 p4 p5 p6:Prop}(h0:p0)(h1:p1)(h2:p2)(h3:p3)(h4:p4)(h5:p5)(h6:p6):af p0∧af p1∧af p2∧af p3∧af p4∧af p5∧af p6:=⟨h0,h1,h2,h3,h4,h5,h6⟩
theorem af0{p0 p1 p2 p3 p4 p5 p6 p7:Prop}(h0:p0)(h1:p1)(h2:p2)(h3:p3)(h4:p4)(h5:p5)(h6:p6)(h7:p7):af p0∧af p1∧af p2∧af p3∧af p4∧af p5∧af p6∧af p7:=⟨h0,h1,h2,h3,h4,h5,h6,h7⟩
theorem af1{p0 p1 p2 p3 p4 p5 p6 p7 p8:Prop}(h0:p0)(h1:p1)(h2:p2)(h3:p3)(h4:p4)(h5:p5)(h6:p6)(h7:p7)(h8:p8):af p0∧af p1∧af p2∧af p3∧af p4∧af p5∧af p6∧af p7∧af p8:=⟨h0,h1,h2,h3,h4,h5,h6,h7,h8⟩
theorem af7{p0 p1 p2 p3 p4 p5 p6 p7 p8 p9:Prop}(h0:p0)(h1:p1)(h2:p2)(h3:p3)(h4:p4)(h5:p5)(h6:p6)(h7:p7)(h8:p8)(h9:p9):af p0∧af p1∧af p2∧af p3∧af p4∧af p5∧af p6∧af p7∧af p8∧af p9:=⟨h0,h1,h2,h3,h4,h5,h6,h7,h8,h9⟩
theorem af2{p0 p1 p2 p3 p4 p5 p6 p7 p8 p9 p10:Prop}(h0:p0)(h1:p1)(h2:p2)(h3:p3)(h4:p4)(h5:p5)(h6:p6)(h7:p7)(h8:p8)(h9:p9)(h10:p10):af p0∧af p1∧af p2∧af p3∧af p4∧af p5∧af p6∧af p7∧af p8∧af p9∧af p10:=⟨h0,h1,h2,h3,h4,h5,h6,h7,h8,h9,h10⟩
theorem uF{p0 p1 p2 p3 p4 p5 p6 p7 p8 p9 p10 p11:Prop}(h0:p0)(h1:p1)(h2:p2)(h3:p3)(h4:p4)(h5:p5)(h6:p6)(h7:p7)(h8:p8)(h9:p9)(h10:p10)(h11:p11):af p0∧af p1∧af p2∧af p3∧af p4∧af p5∧af p6∧af p7∧af p8∧af p9∧af p10∧af p11:=⟨h0,h1,h2,h3,h4,h5,h6,h7,h8,h9,h10,h11⟩
theorem bJ{p:Prop}(h:p:=by kernel_rfl):p:=h
theorem aY{p:Prop}(h:p:=by omega):p:=h
theorem aI{p:Prop}(h:p:=by decide):p:=h
def aG(w:World)(g:Nat)(t:TypeId)(cs:Array Value):Prop:=w.heap[g]? =some (.cells cs t (0,0))
section
variable{w w':World}{g:Nat}{t:TypeId}{cs:Array Value}
theorem aG.lt(h:aG w g t cs):g<w.heap.size:=by
 rcases agl g w.heap.size with hlt|hge
 ·exact hlt
 ·unfold aG at h;rw[agm hge]at h;cases h
theorem aG.cell(h:aG w g t cs)(i:Nat):w.cell? ⟨g,i,none⟩=cs[i]? :=cell_of_row w g i cs t (0,0) h
theorem aG.frozen(h:aG w g t cs)(i:Nat):w.frozen? ⟨g,i,none⟩=false:=by
 unfold aG at h;simp[World.frozen?,h]
theorem aG.new(w:World)(t:TypeId)(cs:Array Value):aG (w.alloc (.cells cs t)) w.heap.size t cs:=heap_alloc_new w _
theorem aG.drew(h:aG w g t cs):aG w.drew g t cs:=h
theorem aG.drewN(h:aG w g t cs)(n:Nat):aG (w.drewN n) g t cs:=h
theorem aG.alloc(h:aG w g t cs)(o:Obj):aG (w.alloc o) g t cs:=(Below.heap_alloc w o g h.lt).trans h
theorem aG.aM(h:aG w g t cs)(i:Nat)(u:Value):aG (w.setCell ⟨g,i,none⟩ u) g t (cs.setIfInBounds i u):=by
 unfold aG at h⊢;simp[World.setCell,Array.getElem?_modify,h]
theorem aG.far(h:aG w g t cs){p:Addr}(hp:g≠p.block)(u:Value):aG (w.setCell p u) g t cs:=(Below.heap_setCell w p u g hp).trans h
theorem aG.below{B:Nat}(h:aG w g t cs)(hb:Below B w w')(hg:g<B):aG w' g t cs:=(hb.block g hg).trans h
theorem aG.grown{row:Option Nat}(h:aG w g t cs)(hb:w.grownBy w' row)(hg:some g≠row):aG w' g t cs:=(hb.block g h.lt hg).trans h
theorem aG.xc{g':Nat}{t':TypeId}{cs':Array Value}(h:aG w g t cs)(h':aG w g' t' cs')(hne:t≠t'):g≠g':=by
 rintro rfl;unfold aG at h h';rw[h]at h';injection h' with h'
 injection h' with _ ht
 exact hne ht
end
structure Keeps(S:Nat→Prop)(w w':World):Prop where
 os:w'.os=w.os
 tape:w'.tape=w.tape
 output:w'.output=w.output
 size:w.heap.size≤w'.heap.size
 block:∀k,k<w.heap.size→¬S k→w'.heap[k]? =w.heap[k]?
section
variable{S T:Nat→Prop}{a b c w w':World}
theorem Keeps.refl(S:Nat→Prop)(w:World):Keeps S w w:=⟨rfl,rfl,rfl,Nat.le_refl _,fun _ _ _=>rfl⟩
theorem Keeps.trans(h:Keeps S a b)(k:Keeps S b c):Keeps S a c:=⟨k.os.trans h.os,k.tape.trans h.tape,k.output.trans h.output,Nat.le_trans h.size k.size,fun i hi hs=>(k.block i (agh hi h.size) hs).trans (h.block i hi hs)⟩
theorem Keeps.mono(h:Keeps S a b)(hst:∀k,k<a.heap.size→S k→T k):Keeps T a b:=⟨h.os,h.tape,h.output,h.size,fun k hk hT=>h.block k hk fun hs=>hT (hst k hk hs)⟩
theorem Keeps.drew(h:Keeps S a w):Keeps S a w.drew:=⟨h.os,h.tape,h.output,h.size,h.block⟩
theorem Keeps.drewN(h:Keeps S a w)(n:Nat):Keeps S a (w.drewN n):=⟨h.os,h.tape,h.output,h.size,h.block⟩
theorem Keeps.alloc(h:Keeps S a w)(o:Obj):Keeps S a (w.alloc o):=⟨h.os,h.tape,h.output,Nat.le_trans h.size (by simp),fun i hi hs=>(Below.heap_alloc w o i (agh hi h.size)).trans (h.block i hi hs)⟩
theorem Keeps.setCell(h:Keeps S a w){p:Addr}(hp:S p.block∨a.heap.size≤p.block)(u:Value):Keeps S a (w.setCell p u):=⟨h.os,h.tape,h.output,by simpa[World.setCell]using h.size,fun i hi hs=>(Below.heap_setCell w p u i (by
 rintro rfl;rcases hp with hp|hp
 ·exact hs hp
 ·omega)).trans (h.block i hi hs)⟩
theorem Keeps.of_below{B:Nat}(h:Below B a b)(hS:∀k,k<a.heap.size→¬S k→k<B):Keeps S a b:=⟨h.os,h.tape,h.output,h.size,fun i hi hs=>h.block i (hS i hi hs)⟩
theorem Keeps.below{B:Nat}(h:Keeps S a b)(hS:∀k,S k→B≤k)(hB:B≤a.heap.size):Below B a b:=⟨h.os,h.tape,h.output,h.size,fun k hk=>h.block k aY fun hs=>by have:=hS k hs;omega⟩
theorem Keeps.Pz{row:Option Nat}(h:a.grownBy b row)(hS:∀k,row=some k→S k):Keeps S a b:=⟨h.os,h.tape,h.output,h.size,fun k hk hs=>h.block k hk fun e=>hs (hS k e.symm)⟩
theorem aG.keep{g:Nat}{t:TypeId}{cs:Array Value}(h:aG w g t cs)(hk:Keeps S w w')(hg:¬S g):aG w' g t cs:=(hk.block g h.lt hg).trans h
theorem Keeps.below_drewN{B n:Nat}(h:Keeps S (a.drewN n) b)(hS:∀k,S k→B≤k)(hB:B≤a.heap.size):Below B a b:=have k:=h.below hS (show B≤(a.drewN n).heap.size from hB)
 ⟨k.os,k.tape,k.output,k.size,k.block⟩
end
theorem cell_far{w:World}{a c:Addr}{u:Value}(h:a.block≠c.block):(w.setCell a u).cell? c=w.cell? c:=World.cell?_setCell_other w a c u (fun e=>h (by rw[e]))
section
variable{P:Program}{ops:Array Oper}{Q:Exit→Act→World→Prop}{md:Region.Mode}{S:World→Prop}{E:Nat}
def fC(P:Program)(md:Region.Mode)(ops:Array Oper)(Q:Exit→Act→World→Prop)(S:World→Prop)(E:Nat):Nat→Array Bool→Act→World→Prop
 |0,l,a,w=>Region.ready md ops l=[]∧Q .normal a w
 |m+1,l,a,w=>(Region.ready md ops l=[]→Q .normal a w)∧∀i∈Region.ready md ops l,wpOp P ops Q i (fun a' w'=>(i≠E→S w')∧fC P md ops Q S E m (l.setIfInBounds i true) a' w') a w
theorem uG:∀(m:Nat)(l:Array Bool)(a:Act)(w:World),fC P md ops Q S E m l a w→wpAny P md ops Q m l a w
 |0,_,_,_,h=>h
 |m+1,_,_,_,h=>⟨h.1,fun i hi=>wpOp_mono (fun a' w' h'=>uG m _ a' w' h'.2) (h.2 i hi)⟩
theorem yg{l:Array Bool}{i j:Nat}{oj:Oper}(hu:l.getD i true=false)(hall:∀e∈oj.after,Region.binds md e=true→l.getD e.on false=true):∀e∈oj.after,Region.binds md e=true→e.on≠i:=by
 intro e he hb heq;have h1:=hall e he hb;rw[heq]at h1;rcases agl i l.size with h'|h'
 ·simp[h']at hu h1;rw[hu]at h1;cases h1
 ·simp[agm h']at h1
def waitsFor(md:Region.Mode)(ops:Array Oper)(E i:Nat):Bool:=((ops[E]?).map fun o=>o.after.any fun e=>Region.binds md e&&decide (e.on=i)).getD false
theorem za{i:Nat}{oi:Oper}{v:Value}(hi:ops[i]? =some oi)(hsel:∀(j:Nat)(o:Oper)cs b,ops[j]? =some o→o.op≠.select cs b)(hQ:∀c a w,Q (.panic c) (a.put oi.dst v) w→Q (.panic c) a w)(hE:waitsFor md ops E i=true)(hiE:i≠E):∀(m:Nat)(l:Array Bool)(a:Act)(w:World),(∀j oj,ops[j]? =some oj→j≠i→l.getD j true=false→(∀e∈oj.after,Region.binds md e=true→e.on≠i)→oi.apart ops oj=true)→i∈Region.ready md ops l→YieldsIf P ops S oi v a→S w→fC P md ops Q S E m (l.setIfInBounds i true) (a.put oi.dst v) w→fC P md ops Q S E (m+1) l a w:=by
 intro m
 induction m with
 |zero=>
  intro l a w _ hr hy hS H;refine⟨fun h=>(by rw[h]at hr;cases hr),fun j hj=>?_⟩;by_cases hji:j=i
  ·subst hji;exact hy.wpOp hi hS ⟨fun _=>hS,H⟩
  ·have:=ready_mono hj hji;rw[H.1]at this;cases this
 |succ m ih=>
  intro l a w hfree hr hy hS H;refine⟨fun h=>(by rw[h]at hr;cases hr),fun j hj=>?_⟩;by_cases hji:j=i
  ·subst hji;exact hy.wpOp hi hS ⟨fun _=>hS,H⟩
  ·have h1:=H.2 j (ready_mono hj hji);obtain⟨hjun,oj,hoj,hall⟩:=mem_ready.1 hj;have hnot:=yg (j:=j) (mem_ready.1 hr).1 hall;have hjE:j≠E:=by
    rintro rfl;unfold waitsFor at hE;rw[hoj]at hE;simp only[Option.map_some,Option.getD_some]at hE;obtain⟨e,he,h2⟩:=Array.any_eq_true'.1 hE;simp only[bg,decide_eq_true_eq]at h2;exact hnot e he h2.1 h2.2
   have h2:=wpOp_putIf hoj (hfree j oj hoj hji hjun hnot) (fun cs b=>hsel i oi cs b hi) (fun cs b=>hsel j oj cs b hoj) hQ hy h1;have hfree':∀k ok,ops[k]? =some ok→k≠i→(l.setIfInBounds j true).getD k true=false→(∀e∈ok.after,Region.binds md e=true→e.on≠i)→oi.apart ops ok=true:=fun k ok hk hki hun hno=>by
    refine hfree k ok hk hki ?_ hno;by_cases hjk:j=k
    ·subst hjk;exact hjun
    ·rw[getD_set_ne true hjk]at hun;exact hun
   refine wpOp_mono (fun a' w' h3=>⟨h3.2.1,ih (l.setIfInBounds j true) a' w' hfree' (ready_mono hr (Ne.symm hji)) h3.1 (h3.2.1 hjE) ?_⟩) h2;rw[Array.setIfInBounds_comm _ _ hji];exact h3.2.2
theorem B8{i:Nat}{oi:Oper}{v:Value}{m:Nat}{l:Array Bool}{a:Act}{w:World}(hi:ops[i]? =some oi)(hs:Region.noSelect ops=true)(hf:Region.free md ops l i=true)(hr:(Region.ready md ops l).contains i=true)(hQ:∀c a w,Q (.panic c) (a.put oi.dst v) w→Q (.panic c) a w)(hy:YieldsIf P ops S oi v a)(hS:S w)(hE:(waitsFor md ops E i&&decide (i≠E))=true)(h:fC P md ops Q S E m (l.setIfInBounds i true) (a.put oi.dst v) w):fC P md ops Q S E (m+1) l a w:=by
 simp only[bg,decide_eq_true_eq]at hE;exact za hi (Region.noSelect_spec hs) hQ hE.1 hE.2 m l a w (Region.free_spec hi hf) (by simpa using hr) hy hS h
def eY(P:Program)(md:Region.Mode)(ops:Array Oper)(Q:Exit→Act→World→Prop)(S:World→Prop)(E:Nat)(m:Nat)(l:Array Bool)(a:Act)(w:World)(rs:List Nat):Prop:=∀i∈rs,wpOp P ops Q i (fun a' w'=>(i≠E→S w')∧fC P md ops Q S E m (l.setIfInBounds i true) a' w') a w
theorem eY.nil{m:Nat}{l:Array Bool}{a:Act}{w:World}:eY P md ops Q S E m l a w []:=fun _ h=>by cases h
theorem eY.cons{m:Nat}{l:Array Bool}{a:Act}{w:World}{i:Nat}{o:Oper}{rs:List Nat}(ho:ops[i]? =some o)(h:∀K':Act→World→Prop,Shut (∀a w,(i≠E→S w)→((i≠E→S w)→fC P md ops Q S E m (l.setIfInBounds i true) a w)→K' a w)→if Region.wanted o (yielded ops a.tmps)=true then Oper.wp P o a w K' Q else K' (a.put o.dst undef) w)(hs:eY P md ops Q S E m l a w rs):eY P md ops Q S E m l a w (i::rs):=fun j hj=>by
 rcases List.mem_cons.1 hj with rfl|hj
 ·exact wpOp_step ho (fun K' hK=>h K' (fun a w hS hW=>hK a w ⟨hS,hW hS⟩))
 ·exact hs j hj
theorem pV{rs:List Nat}{m:Nat}{l:Array Bool}{a:Act}{w:World}(hr:Region.ready md ops l=rs)(hne:rs≠[])(h:eY P md ops Q S E m l a w rs):fC P md ops Q S E (m+1) l a w:=⟨fun h0=>absurd (hr▸h0) hne,hr▸h⟩
theorem B9{m:Nat}{l:Array Bool}{a:Act}{w:World}(hr:Region.ready md ops l=[])(h:Q .normal a w):fC P md ops Q S E m l a w:=by
 cases m with
 |zero=>exact⟨hr,h⟩
 |succ m=>exact⟨fun _=>h,fun i hi=>by rw[hr]at hi;cases hi⟩
theorem du(E:Nat)(S:World→Prop){id:Nat}{a:Act}{w:World}(hm:P.follows .mixedOrders=true)(hS:S w.drew)(h:S w.drew→fC P .any ops Q S E ops.size (Array.replicate ops.size false) a w.drew):(Code.region id ops true).wp P Q a w:=wp_region_any hm (uG _ _ _ _ (h hS))
end
section
variable{P:Program}{ops:Array Oper}{Q:Exit→Act→World→Prop}{md:Region.Mode}{S:World→Prop}{E:Nat}
def fD(P:Program)(md:Region.Mode)(ops:Array Oper)(Q:Exit→Act→World→Prop)(S:World→Prop)(E:Nat):Nat→Array Bool→Act→World→Prop
 |0,l,a,w=>Region.ready md ops l=[]∧Q .normal a w
 |m+1,l,a,w=>(Region.ready md ops l=[]→Q .normal a w)∧∀i∈Region.ready md ops l,wpOp P ops Q i (fun a' w'=>(i<E→S w')∧fD P md ops Q S E m (l.setIfInBounds i true) a' w') a w
theorem uH:∀(m:Nat)(l:Array Bool)(a:Act)(w:World),fD P md ops Q S E m l a w→wpAny P md ops Q m l a w
 |0,_,_,_,h=>h
 |m+1,_,_,_,h=>⟨h.1,fun i hi=>wpOp_mono (fun a' w' h'=>uH m _ a' w' h'.2) (h.2 i hi)⟩
def mW(md:Region.Mode)(ops:Array Oper)(E i:Nat):Bool:=(List.range ops.size).all fun e=>decide (e<E)||waitsFor md ops e i
theorem Cb{E i e:Nat}(h:mW md ops E i=true)(he:E≤e)(hl:e<ops.size):waitsFor md ops e i=true:=by
 have:=List.all_eq_true.1 h e (List.mem_range.2 hl);rw[Bool.or_eq_true]at this;rcases this with h|h
 ·exact absurd (of_decide_eq_true h) (by omega)
 ·exact h
theorem zb{i:Nat}{oi:Oper}{v:Value}(hi:ops[i]? =some oi)(hsel:∀(j:Nat)(o:Oper)cs b,ops[j]? =some o→o.op≠.select cs b)(hQ:∀c a w,Q (.panic c) (a.put oi.dst v) w→Q (.panic c) a w)(hE:mW md ops E i=true)(hiE:i<E):∀(m:Nat)(l:Array Bool)(a:Act)(w:World),(∀j oj,ops[j]? =some oj→j≠i→l.getD j true=false→(∀e∈oj.after,Region.binds md e=true→e.on≠i)→oi.apart ops oj=true)→i∈Region.ready md ops l→YieldsIf P ops S oi v a→S w→fD P md ops Q S E m (l.setIfInBounds i true) (a.put oi.dst v) w→fD P md ops Q S E (m+1) l a w:=by
 intro m
 induction m with
 |zero=>
  intro l a w _ hr hy hS H;refine⟨fun h=>(by rw[h]at hr;cases hr),fun j hj=>?_⟩;by_cases hji:j=i
  ·subst hji;exact hy.wpOp hi hS ⟨fun _=>hS,H⟩
  ·have:=ready_mono hj hji;rw[H.1]at this;cases this
 |succ m ih=>
  intro l a w hfree hr hy hS H;refine⟨fun h=>(by rw[h]at hr;cases hr),fun j hj=>?_⟩;by_cases hji:j=i
  ·subst hji;exact hy.wpOp hi hS ⟨fun _=>hS,H⟩
  ·have h1:=H.2 j (ready_mono hj hji);obtain⟨hjun,oj,hoj,hall⟩:=mem_ready.1 hj;have hnot:=yg (j:=j) (mem_ready.1 hr).1 hall;have hjE:j<E:=by
    rcases agl j E with hlt|hge
    ·exact hlt
    have hE:=Cb hE hge (Array.getElem?_eq_some_iff.1 hoj).1;exfalso;unfold waitsFor at hE;rw[hoj]at hE;simp only[Option.map_some,Option.getD_some]at hE;obtain⟨e,he,h2⟩:=Array.any_eq_true'.1 hE;simp only[bg,decide_eq_true_eq]at h2;exact hnot e he h2.1 h2.2
   have h2:=wpOp_putIf hoj (hfree j oj hoj hji hjun hnot) (fun cs b=>hsel i oi cs b hi) (fun cs b=>hsel j oj cs b hoj) hQ hy h1;have hfree':∀k ok,ops[k]? =some ok→k≠i→(l.setIfInBounds j true).getD k true=false→(∀e∈ok.after,Region.binds md e=true→e.on≠i)→oi.apart ops ok=true:=fun k ok hk hki hun hno=>by
    refine hfree k ok hk hki ?_ hno;by_cases hjk:j=k
    ·subst hjk;exact hjun
    ·rw[getD_set_ne true hjk]at hun;exact hun
   refine wpOp_mono (fun a' w' h3=>⟨h3.2.1,ih (l.setIfInBounds j true) a' w' hfree' (ready_mono hr (Ne.symm hji)) h3.1 (h3.2.1 hjE) ?_⟩) h2;rw[Array.setIfInBounds_comm _ _ hji];exact h3.2.2
theorem Cc{i:Nat}{oi:Oper}{v:Value}{m:Nat}{l:Array Bool}{a:Act}{w:World}(hi:ops[i]? =some oi)(hs:Region.noSelect ops=true)(hf:Region.free md ops l i=true)(hr:(Region.ready md ops l).contains i=true)(hQ:∀c a w,Q (.panic c) (a.put oi.dst v) w→Q (.panic c) a w)(hy:YieldsIf P ops S oi v a)(hS:S w)(hE:(mW md ops E i&&decide (i<E))=true)(h:fD P md ops Q S E m (l.setIfInBounds i true) (a.put oi.dst v) w):fD P md ops Q S E (m+1) l a w:=by
 simp only[bg,decide_eq_true_eq]at hE;exact zb hi (Region.noSelect_spec hs) hQ hE.1 hE.2 m l a w (Region.free_spec hi hf) (by simpa using hr) hy hS h
def ig(P:Program)(md:Region.Mode)(ops:Array Oper)(Q:Exit→Act→World→Prop)(S:World→Prop)(E:Nat)(m:Nat)(l:Array Bool)(a:Act)(w:World)(rs:List Nat):Prop:=∀i∈rs,wpOp P ops Q i (fun a' w'=>(i<E→S w')∧fD P md ops Q S E m (l.setIfInBounds i true) a' w') a w
theorem ig.nil{m:Nat}{l:Array Bool}{a:Act}{w:World}:ig P md ops Q S E m l a w []:=fun _ h=>by cases h
theorem ig.cons{m:Nat}{l:Array Bool}{a:Act}{w:World}{i:Nat}{o:Oper}{rs:List Nat}(ho:ops[i]? =some o)(h:∀K':Act→World→Prop,Shut (∀a w,(i<E→S w)→((i<E→S w)→fD P md ops Q S E m (l.setIfInBounds i true) a w)→K' a w)→if Region.wanted o (yielded ops a.tmps)=true then Oper.wp P o a w K' Q else K' (a.put o.dst undef) w)(hs:ig P md ops Q S E m l a w rs):ig P md ops Q S E m l a w (i::rs):=fun j hj=>by
 rcases List.mem_cons.1 hj with rfl|hj
 ·exact wpOp_step ho (fun K' hK=>h K' (fun a w hS hW=>hK a w ⟨hS,hW hS⟩))
 ·exact hs j hj
theorem zc{rs:List Nat}{m:Nat}{l:Array Bool}{a:Act}{w:World}(hr:Region.ready md ops l=rs)(hne:rs≠[])(h:ig P md ops Q S E m l a w rs):fD P md ops Q S E (m+1) l a w:=⟨fun h0=>absurd (hr▸h0) hne,hr▸h⟩
theorem Cd{m:Nat}{l:Array Bool}{a:Act}{w:World}(hr:Region.ready md ops l=[])(h:Q .normal a w):fD P md ops Q S E m l a w:=by
 cases m with
 |zero=>exact⟨hr,h⟩
 |succ m=>exact⟨fun _=>h,fun i hi=>by rw[hr]at hi;cases hi⟩
theorem jr(E:Nat)(S:World→Prop){id:Nat}{a:Act}{w:World}(hm:P.follows .mixedOrders=true)(hS:S w.drew)(h:S w.drew→fD P .any ops Q S E ops.size (Array.replicate ops.size false) a w.drew):(Code.region id ops true).wp P Q a w:=wp_region_any hm (uH _ _ _ _ (h hS))
end
section
variable{P:Program}{ops:Array Oper}{Q:Exit→Act→World→Prop}{md:Region.Mode}{S:World→Prop}{E:Nat}
theorem xa(i:Nat){o:Oper}{v:Value}{f:Nat}{l:Array Bool}{a:Act}{w:World}(h:wpAnyH P md ops Q S f (l.setIfInBounds i true) (a.put o.dst v) w)(hi:ops[i]? =some o:=by exact rfl)(hs:Region.noSelect ops=true:=by kernel_rfl)(hf:Region.free md ops l i=true:=by kernel_rfl)(hr:(Region.ready md ops l).contains i=true:=by kernel_rfl)(hw:Region.wanted o (yielded ops a.tmps)=true:=by rfl)(hy:∀w,S w→(execOp a.eval o).run P w=.ok (.value v) w:=by(intro w hSw;(try dsimp only at hSw);go_simp;try with_reducible rfl))(hQ:∀c a w,Q (.panic c) (a.put o.dst v) w→Q (.panic c) a w:=by exact fun _ _ _ h=>h)(hS:S w:=by assumption):wpAnyH P md ops Q S (f+1) l a w:=wpAnyH_take hi hs hf hr hQ (.inl ⟨hw,hy⟩) hS h
theorem ztU(i:Nat){o:Oper}{f:Nat}{l:Array Bool}{a:Act}{w:World}(h:wpAnyH P md ops Q S f (l.setIfInBounds i true) (a.put o.dst undef) w)(hi:ops[i]? =some o:=by exact rfl)(hs:Region.noSelect ops=true:=by kernel_rfl)(hf:Region.free md ops l i=true:=by kernel_rfl)(hr:(Region.ready md ops l).contains i=true:=by kernel_rfl)(hw:Region.wanted o (yielded ops a.tmps)=false:=by rfl)(hQ:∀c a w,Q (.panic c) (a.put o.dst undef) w→Q (.panic c) a w:=by exact fun _ _ _ h=>h)(hS:S w:=by assumption):wpAnyH P md ops Q S (f+1) l a w:=wpAnyH_take hi hs hf hr hQ (.inr ⟨hw,rfl⟩) hS h
theorem ztE(i:Nat){o:Oper}{v:Value}{f:Nat}{l:Array Bool}{a:Act}{w:World}(h:fC P md ops Q S E f (l.setIfInBounds i true) (a.put o.dst v) w)(hi:ops[i]? =some o:=by exact rfl)(hs:Region.noSelect ops=true:=by kernel_rfl)(hf:Region.free md ops l i=true:=by kernel_rfl)(hr:(Region.ready md ops l).contains i=true:=by kernel_rfl)(hw:Region.wanted o (yielded ops a.tmps)=true:=by rfl)(hy:∀w,S w→(execOp a.eval o).run P w=.ok (.value v) w:=by(intro w hSw;(try dsimp only at hSw);go_simp;try with_reducible rfl))(hQ:∀c a w,Q (.panic c) (a.put o.dst v) w→Q (.panic c) a w:=by exact fun _ _ _ h=>h)(hS:S w:=by assumption)(hE:(waitsFor md ops E i&&decide (i≠E))=true:=by kernel_rfl):fC P md ops Q S E (f+1) l a w:=B8 hi hs hf hr hQ (.inl ⟨hw,hy⟩) hS hE h
end
theorem dX:(∀(a:Act)(d:Tmp)(v:Value),a.put (some d) v={a with tmps:=a.tmps.setIfInBounds d v})∧(∀(a:Act)(v:Value),a.put none v=a)∧(∀{α:Type}(l:List α)(i:Nat)(x:α),l.toArray.setIfInBounds i x=(l.set i x).toArray)∧(∀{α:Type}(l:List α)(x y:α),(x::l).set 0 y=y::l)∧(∀{α:Type}(l:List α)(x y:α)(i:Nat),(x::l).set (i+1) y=x::l.set i y)∧(∀{α:Type}(l:List α)(i:Nat)(h:i<l.toArray.size),l.toArray[i]=l[i]'h)∧(∀{α:Type}(x:α)(l:List α)(h:0<(x::l).length),(x::l)[0]=x)∧(∀{α:Type}(x:α)(l:List α)(i:Nat)(h:i+1<(x::l).length),(x::l)[i+1]=l[i]'(Nat.lt_of_succ_lt_succ h)):=⟨fun _ _ _=>rfl,fun _ _=>rfl,fun _ _ _=>by simp,fun _ _ _=>rfl,fun _ _ _ _=>rfl,fun _ _ _=>rfl,fun _ _ _=>rfl,fun _ _ _ _=>rfl⟩
theorem pW{w:World}{g:Nat}{t:TypeId}{x0 x1:Value}{l:List Value}(h:af (aG w g t (x0::x1::l).toArray)):w.cell? ⟨g,0,none⟩=some x0∧w.cell? ⟨g,1,none⟩=some x1:=⟨h.out.cell 0,h.out.cell 1⟩
theorem oM{w:World}{g:Nat}{t:TypeId}{x0 x1 x2:Value}{l:List Value}(h:af (aG w g t (x0::x1::x2::l).toArray)):w.cell? ⟨g,0,none⟩=some x0∧w.cell? ⟨g,1,none⟩=some x1∧w.cell? ⟨g,2,none⟩=some x2:=⟨h.out.cell 0,h.out.cell 1,h.out.cell 2⟩
theorem jB{w:World}{g:Nat}{t:TypeId}{x0 x1 x2 x3:Value}{l:List Value}(h:af (aG w g t (x0::x1::x2::x3::l).toArray)):w.cell? ⟨g,0,none⟩=some x0∧w.cell? ⟨g,1,none⟩=some x1∧w.cell? ⟨g,2,none⟩=some x2∧w.cell? ⟨g,3,none⟩=some x3:=⟨h.out.cell 0,h.out.cell 1,h.out.cell 2,h.out.cell 3⟩
theorem afY{w:World}{g:Nat}{t:TypeId}{x0 x1 x2 x3 x4:Value}{l:List Value}(h:af (aG w g t (x0::x1::x2::x3::x4::l).toArray)):w.cell? ⟨g,0,none⟩=some x0∧w.cell? ⟨g,1,none⟩=some x1∧w.cell? ⟨g,2,none⟩=some x2∧w.cell? ⟨g,3,none⟩=some x3∧w.cell? ⟨g,4,none⟩=some x4:=⟨h.out.cell 0,h.out.cell 1,h.out.cell 2,h.out.cell 3,h.out.cell 4⟩
theorem aft{w:World}{g:Nat}{t:TypeId}{x0 x1 x2 x3 x4 x5:Value}{l:List Value}(h:af (aG w g t (x0::x1::x2::x3::x4::x5::l).toArray)):w.cell? ⟨g,0,none⟩=some x0∧w.cell? ⟨g,1,none⟩=some x1∧w.cell? ⟨g,2,none⟩=some x2∧w.cell? ⟨g,3,none⟩=some x3∧w.cell? ⟨g,4,none⟩=some x4∧w.cell? ⟨g,5,none⟩=some x5:=⟨h.out.cell 0,h.out.cell 1,h.out.cell 2,h.out.cell 3,h.out.cell 4,h.out.cell 5⟩
theorem af8{w:World}{g:Nat}{t:TypeId}{x0 x1 x2 x3 x4 x5 x6:Value}{l:List Value}(h:af (aG w g t (x0::x1::x2::x3::x4::x5::x6::l).toArray)):w.cell? ⟨g,0,none⟩=some x0∧w.cell? ⟨g,1,none⟩=some x1∧w.cell? ⟨g,2,none⟩=some x2∧w.cell? ⟨g,3,none⟩=some x3∧w.cell? ⟨g,4,none⟩=some x4∧w.cell? ⟨g,5,none⟩=some x5∧w.cell? ⟨g,6,none⟩=some x6:=⟨h.out.cell 0,h.out.cell 1,h.out.cell 2,h.out.cell 3,h.out.cell 4,h.out.cell 5,h.out.cell 6⟩
theorem jq{w:World}{g:Nat}{t:TypeId}{x0 x1 x2 x3 x4 x5 x6 x7:Value}{l:List Value}(h:af (aG w g t (x0::x1::x2::x3::x4::x5::x6::x7::l).toArray)):w.cell? ⟨g,0,none⟩=some x0∧w.cell? ⟨g,1,none⟩=some x1∧w.cell? ⟨g,2,none⟩=some x2∧w.cell? ⟨g,3,none⟩=some x3∧w.cell? ⟨g,4,none⟩=some x4∧w.cell? ⟨g,5,none⟩=some x5∧w.cell? ⟨g,6,none⟩=some x6∧w.cell? ⟨g,7,none⟩=some x7:=⟨h.out.cell 0,h.out.cell 1,h.out.cell 2,h.out.cell 3,h.out.cell 4,h.out.cell 5,h.out.cell 6,h.out.cell 7⟩
theorem afZ{w:World}{g:Nat}{t:TypeId}{x0 x1 x2 x3 x4 x5 x6 x7 x8:Value}{l:List Value}(h:af (aG w g t (x0::x1::x2::x3::x4::x5::x6::x7::x8::l).toArray)):w.cell? ⟨g,0,none⟩=some x0∧w.cell? ⟨g,1,none⟩=some x1∧w.cell? ⟨g,2,none⟩=some x2∧w.cell? ⟨g,3,none⟩=some x3∧w.cell? ⟨g,4,none⟩=some x4∧w.cell? ⟨g,5,none⟩=some x5∧w.cell? ⟨g,6,none⟩=some x6∧w.cell? ⟨g,7,none⟩=some x7∧w.cell? ⟨g,8,none⟩=some x8:=⟨h.out.cell 0,h.out.cell 1,h.out.cell 2,h.out.cell 3,h.out.cell 4,h.out.cell 5,h.out.cell 6,h.out.cell 7,h.out.cell 8⟩
theorem bm{w w1 w2:World}(h:af (RowKit.Below w.heap.size w w1))(d:RowKit.Below w1.heap.size w1 w2):af (RowKit.Below w.heap.size w w2):=h.out.trans (d.mono h.out.size)
section
variable{P:Program}{ops:Array Oper}{Q:Exit→Act→World→Prop}{md:Region.Mode}{S:World→Prop}{E:Nat}
theorem bB(i:Nat){o:Oper}{v:Value}{f:Nat}{l l1:Array Bool}{a a1:Act}{w:World}(h:wpAnyH P md ops Q S f l1 a1 w)(hi:ops[i]? =some o:=by exact rfl)(hs:Region.noSelect ops=true:=by kernel_rfl)(hf:Region.free md ops l i=true:=by kernel_rfl)(hr:(Region.ready md ops l).contains i=true:=by kernel_rfl)(hw:Region.wanted o (yielded ops a.tmps)=true:=by rfl)(hy:∀w,S w→(execOp a.eval o).run P w=.ok (.value v) w:=by(intro w hSw;(try dsimp only at hSw);go_simp;try with_reducible rfl))(hQ:∀c a w,Q (.panic c) (a.put o.dst v) w→Q (.panic c) a w:=by exact fun _ _ _ h=>h)(hS:S w:=by assumption)(el:l.setIfInBounds i true=l1:=by((conv=>lhs;simp only[dX]);try exact rfl))(ea:a.put o.dst v=a1:=by((conv=>lhs;simp only[dX]);try exact rfl)):wpAnyH P md ops Q S (f+1) l a w:=by subst el ea;exact xa i h hi hs hf hr hw hy hQ hS
theorem xb(i:Nat){o:Oper}{f:Nat}{l l1:Array Bool}{a a1:Act}{w:World}(h:wpAnyH P md ops Q S f l1 a1 w)(hi:ops[i]? =some o:=by exact rfl)(hs:Region.noSelect ops=true:=by kernel_rfl)(hf:Region.free md ops l i=true:=by kernel_rfl)(hr:(Region.ready md ops l).contains i=true:=by kernel_rfl)(hw:Region.wanted o (yielded ops a.tmps)=false:=by rfl)(hQ:∀c a w,Q (.panic c) (a.put o.dst undef) w→Q (.panic c) a w:=by exact fun _ _ _ h=>h)(hS:S w:=by assumption)(el:l.setIfInBounds i true=l1:=by((conv=>lhs;simp only[dX]);try exact rfl))(ea:a.put o.dst undef=a1:=by((conv=>lhs;simp only[dX]);try exact rfl)):wpAnyH P md ops Q S (f+1) l a w:=by subst el ea;exact ztU i h hi hs hf hr hw hQ hS
theorem mM(i:Nat){o:Oper}{f:Nat}{l:Array Bool}{a:Act}{w:World}(h:∀K:Act→World→Prop,Shut (∀a w,S w→(S w→wpAnyH P md ops Q S f (l.setIfInBounds i true) a w)→K a w)→if Region.wanted o (yielded ops a.tmps)=true then Oper.wp P o a w K Q else K (a.put o.dst undef) w)(hi:ops[i]? =some o:=by exact rfl)(hr:Region.ready md ops l=[i]:=by kernel_rfl):wpAnyH P md ops Q S (f+1) l a w:=wpAnyH_ready hr (by simp) (AllReadyH.cons hi h AllReadyH.nil)
theorem tX{f:Nat}{l:Array Bool}{a:Act}{w:World}(h:Q .normal a w)(hr:Region.ready md ops l=[]:=by kernel_rfl):wpAnyH P md ops Q S f l a w:=wpAnyH_done hr h _
theorem jF(i:Nat){o:Oper}{v:Value}{f:Nat}{l l1:Array Bool}{a a1:Act}{w:World}(h:fC P md ops Q S E f l1 a1 w)(hi:ops[i]? =some o:=by exact rfl)(hs:Region.noSelect ops=true:=by kernel_rfl)(hf:Region.free md ops l i=true:=by kernel_rfl)(hr:(Region.ready md ops l).contains i=true:=by kernel_rfl)(hw:Region.wanted o (yielded ops a.tmps)=true:=by rfl)(hy:∀w,S w→(execOp a.eval o).run P w=.ok (.value v) w:=by(intro w hSw;(try dsimp only at hSw);go_simp;try with_reducible rfl))(hQ:∀c a w,Q (.panic c) (a.put o.dst v) w→Q (.panic c) a w:=by exact fun _ _ _ h=>h)(hS:S w:=by assumption)(hE:(waitsFor md ops E i&&decide (i≠E))=true:=by kernel_rfl)(el:l.setIfInBounds i true=l1:=by((conv=>lhs;simp only[dX]);try exact rfl))(ea:a.put o.dst v=a1:=by((conv=>lhs;simp only[dX]);try exact rfl)):fC P md ops Q S E (f+1) l a w:=by subst el ea;exact ztE i h hi hs hf hr hw hy hQ hS hE
theorem sH(i:Nat){o:Oper}{f:Nat}{l:Array Bool}{a:Act}{w:World}(h:∀K:Act→World→Prop,Shut (∀a w,(i≠E→S w)→((i≠E→S w)→fC P md ops Q S E f (l.setIfInBounds i true) a w)→K a w)→if Region.wanted o (yielded ops a.tmps)=true then Oper.wp P o a w K Q else K (a.put o.dst undef) w)(hi:ops[i]? =some o:=by exact rfl)(hr:Region.ready md ops l=[i]:=by kernel_rfl):fC P md ops Q S E (f+1) l a w:=pV hr (by simp) (eY.cons hi h eY.nil)
theorem zdE{f:Nat}{l:Array Bool}{a:Act}{w:World}(h:Q .normal a w)(hr:Region.ready md ops l=[]:=by kernel_rfl):fC P md ops Q S E f l a w:=B9 hr h
theorem ztX(i:Nat){o:Oper}{v:Value}{f:Nat}{l:Array Bool}{a:Act}{w:World}(h:fD P md ops Q S E f (l.setIfInBounds i true) (a.put o.dst v) w)(hi:ops[i]? =some o:=by exact rfl)(hs:Region.noSelect ops=true:=by kernel_rfl)(hf:Region.free md ops l i=true:=by kernel_rfl)(hr:(Region.ready md ops l).contains i=true:=by kernel_rfl)(hw:Region.wanted o (yielded ops a.tmps)=true:=by rfl)(hy:∀w,S w→(execOp a.eval o).run P w=.ok (.value v) w:=by(intro w hSw;(try dsimp only at hSw);go_simp;try with_reducible rfl))(hQ:∀c a w,Q (.panic c) (a.put o.dst v) w→Q (.panic c) a w:=by exact fun _ _ _ h=>h)(hS:S w:=by assumption)(hE:(mW md ops E i&&decide (i<E))=true:=by kernel_rfl):fD P md ops Q S E (f+1) l a w:=Cc hi hs hf hr hQ (.inl ⟨hw,hy⟩) hS hE h
theorem Jm(i:Nat){o:Oper}{v:Value}{f:Nat}{l l1:Array Bool}{a a1:Act}{w:World}(h:fD P md ops Q S E f l1 a1 w)(hi:ops[i]? =some o:=by exact rfl)(hs:Region.noSelect ops=true:=by kernel_rfl)(hf:Region.free md ops l i=true:=by kernel_rfl)(hr:(Region.ready md ops l).contains i=true:=by kernel_rfl)(hw:Region.wanted o (yielded ops a.tmps)=true:=by rfl)(hy:∀w,S w→(execOp a.eval o).run P w=.ok (.value v) w:=by(intro w hSw;(try dsimp only at hSw);go_simp;try with_reducible rfl))(hQ:∀c a w,Q (.panic c) (a.put o.dst v) w→Q (.panic c) a w:=by exact fun _ _ _ h=>h)(hS:S w:=by assumption)(hE:(mW md ops E i&&decide (i<E))=true:=by kernel_rfl)(el:l.setIfInBounds i true=l1:=by((conv=>lhs;simp only[dX]);try exact rfl))(ea:a.put o.dst v=a1:=by((conv=>lhs;simp only[dX]);try exact rfl)):fD P md ops Q S E (f+1) l a w:=by subst el ea;exact ztX i h hi hs hf hr hw hy hQ hS hE
theorem Vd(i:Nat){o:Oper}{f:Nat}{l:Array Bool}{a:Act}{w:World}(h:∀K:Act→World→Prop,Shut (∀a w,(i<E→S w)→((i<E→S w)→fD P md ops Q S E f (l.setIfInBounds i true) a w)→K a w)→if Region.wanted o (yielded ops a.tmps)=true then Oper.wp P o a w K Q else K (a.put o.dst undef) w)(hi:ops[i]? =some o:=by exact rfl)(hr:Region.ready md ops l=[i]:=by kernel_rfl):fD P md ops Q S E (f+1) l a w:=zc hr (by simp) (ig.cons hi h ig.nil)
theorem zdX{f:Nat}{l:Array Bool}{a:Act}{w:World}(h:Q .normal a w)(hr:Region.ready md ops l=[]:=by kernel_rfl):fD P md ops Q S E f l a w:=Cd hr h
end
end Go.Proofs.YtdfnhljccdoncaaGreatDoor
