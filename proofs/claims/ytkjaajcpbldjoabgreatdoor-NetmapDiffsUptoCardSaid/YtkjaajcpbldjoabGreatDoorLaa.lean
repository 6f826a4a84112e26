/- Joined out of: Hb W RgE RgX Tk Shelf SuA IpA IpB IpC TxA Ad IpD TxB TxC TxD TxE PoA PoB PoC PoD PoE PoF. -/
import Derived.WalkKit
import Derived.Lib.Hide
import Derived.Deep.RegionHeld
import Derived.WalkSpells
import Derived.WalkLawsBesides
import Derived.Deep.Draws
import Derived.Deep.RegionHeldLaw
import Derived.Shelf.Strings.Builder1
import Derived.Shelf.Strings.Builder2
import Derived.Shelf.Strings.OnBuilder
import Derived.Shelf.Strings.Trim
import Derived.Shelf.Small.Utf8
import Derived.Shelf.Small.Bits
import Derived.Shelf.Small.Strs
import Derived.Shelf.Strings.BuilderF
import Derived.Shelf.Strings.BuilderK
import Derived.Shelf.Utf8.RuneCount
import Derived.Shelf.Strings.Builder2Cap
import Derived.Shelf.Strconv.Itoa0
import Derived.Shelf.Strconv.Itoa1
import Derived.Shelf.LaysM
import Derived.Shelf.Strconv.Itoa2
import Derived.Shelf.Strconv.Itoa3
import Derived.Shelf.Strconv.Clone
import Derived.Shelf.Strconv.SyntaxError
import Derived.Shelf.LaysC
import Derived.Shelf.Strconv.ToError
import Derived.Shelf.Strconv.Lower
import Derived.Shelf.Strconv.ParseUint10
import Derived.Shelf.Strconv.ParseUint10Empty
import Derived.Shelf.Strconv.ParseUint10Any
import Derived.Shelf.Strconv.RangeError
import Derived.Shelf.Strconv.ToErrorRange
import Derived.Shelf.Strconv.ParseUintEmpty
import Derived.Shelf.Strconv.ParseUint10b64
import Derived.Shelf.Strconv.ParseUint10b32
import Derived.Shelf.Strconv.ParseUint10b16
import Derived.Shelf.Strconv.ParseUint10b8
import Derived.Shelf.Strconv.ParseUint10At
import Derived.Ground.MpProg
import Derived.Shelf.Pu.ParseUintPublic10
import Derived.Shelf.Pu.ErrVarParseUint
import Derived.Shelf.Strings.Search1
import Derived.Shelf.Strings.Search2
import Derived.Shelf.Strings.Search3
import Derived.Shelf.Strings.Cut
import Derived.Shelf.Strings.Count
import Derived.Shelf.Strings.Shaped
import Derived.Shelf.Strings.Split
import Derived.Shelf.Strings.SplitShaped
import Derived.Shelf.Unicode.Decode
import Derived.Shelf.Strings.Runes
import Derived.Shelf.Strings.RuneCount
import Derived.Shelf.Strings.AsciiSet
import Derived.Shelf.Strings.Explode
import Derived.Shelf.Unicode.DecodeSlow
import Derived.Shelf.Unicode.DecodeAny
import Derived.Shelf.Unicode.DecodeLast
import Derived.Shelf.Strings.FieldsFuncAny
import Derived.Shelf.Strings.FieldsFuncGrows
import Derived.Shelf.Strings.BuilderCap
import Derived.Shelf.Slices.Turned
import Derived.Shelf.Slices.Equal
import Derived.Ground.Names2Prog
import Derived.Shelf.Slices.Clone
import Derived.Ground.SlgnProg
import Derived.Shelf.SlicesE.Clone
import Derived.Test.YtkjaajcpbldjoabGreatDoorProg
import Derived.Test.YtkjaajcpbldjoabGreatDoorRows
import Derived.BigQuiet
import Derived.Deep.QuietTactic
import Derived.Laws.IdiomStrings
import Derived.Laws.BitsAllLaws
import Derived.IntWalk
import Derived.Lib.Split
import Derived.Lib.Join
import Derived.Lib.ItoaNum
set_option linter.unusedVariables false
set_option linter.unusedSimpArgs false
set_option maxHeartbeats 16000000
set_option maxRecDepth 100000
open Array renaming getElem?_eq_getElem→kC,getElem?_eq_none→ahZ
open Bool renaming and_eq_true→aU
open ByteArray renaming empty→lL
open Go.Lib renaming decDigits→cP,parseUintB→aig
open Go.Proofs.Tryz renaming prog→ah,underlying9→bq,underlying5→cD,underlying71→cT,underlying4→zc,zeroValue3→ad1,underlying3→ahK,underlying29→ahP,zeroValue5→ahS,underlying22→ahW,zeroValue4→ah2,zeroValue9→ah3,underlying0→aib
open Go.RowKit renaming Hid→ag
open Go.RowKit.Below renaming refl→aI
open List renaming length_append→aj,length_map→ay,range→aF,replicate→aS,length_cons→bP,mem_cons_of_mem→cB,mem_cons_self→cJ,length_singleton→dn,mem_of_getElem?→iD,map_cons→jg,length_drop→zd,length_take→ze
open Nat renaming le_refl→ax,zero_le→bj,lt_of_lt_of_le→ahQ,lt_or_ge→ahY
open UInt8 renaming ofNat→ah5
namespace Go.Proofs.YtkjaajcpbldjoabGreatDoor
open Go.RowKit
theorem aL{p0 p1:Prop}(h0:p0)(h1:p1):ag p0∧ag p1:=⟨h0,h1⟩
theorem bz{p0 p1 p2:Prop}(h0:p0)(h1:p1)(h2:p2):ag p0∧ag p1∧ag p2:=⟨h0,h1,h2⟩
theorem cU{p0 p1 p2 p3:Prop}(h0:p0)(h1:p1)(h2:p2)(h3:p3):ag p0∧ag p1∧ag p2∧ag p3:=⟨h0,h1,h2,h3⟩
theorem eB{p0 p1 p2 p3 p4:Prop}(h0:p0)(h1:p1)(h2:p2)(h3:p3)(h4:p4):ag p0∧ag p1∧ag p2∧ag p3∧ag p4:=⟨h0,h1,h2,h3,h4⟩
theorem ot{p0 p1 p2 p3 p4 p5:Prop}(h0:p0)(h1:p1)(h2:p2)(h3:p3)(h4:p4)(h5:p5):ag p0∧ag p1∧ag p2∧ag p3∧ag p4∧ag p5:=⟨h0,h1,h2,h3,h4,h5⟩
theorem nn{p0 p1 p2 p3 p4 p5 p6:Prop}(h0:p0)(h1:p1)(h2:p2)(h3:p3)(h4:p4)(h5:p5)(h6:p6):ag p0∧ag p1∧ag p2∧ag p3∧ag p4∧ag p5∧ag p6:=⟨h0,h1,h2,h3,h4,h5,h6⟩
theorem YF{p0 p1 p2 p3 p4 p5 p6 p7:Prop}(h0:p0)(h1:p1)(h2:p2)(h3:p3)(h4:p4)(h5:p5)(h6:p6)(h7:p7):ag p0∧ag p1∧ag p2∧ag p3∧ag p4∧ag p5∧ag p6∧ag p7:=⟨h0,h1,h2,h3,h4,h5,h6,h7⟩
theorem SX{p0 p1 p2 p3 p4 p5 p6 p7 p8:Prop}(h0:p0)(h1:p1)(h2:p2)(h3:p3)(h4:p4)(h5:p5)(h6:p6)(h7:p7)(h8:p8):ag p0∧ag p1∧ag p2∧ag p3∧ag p4∧ag p5∧ag p6∧ag p7∧ag p8:=⟨h0,h1,h2,h3,h4,h5,h6,h7,h8⟩
theorem ad2{p0 p1 p2 p3 p4 p5 p6 p7 p8 p9:Prop}(h0:p0)(h1:p1)(h2:p2)(h3:p3)(h4:p4)(h5:p5)(h6:p6)(h7:p7)(h8:p8)(h9:p9):ag p0∧ag p1∧ag p2∧ag p3∧ag p4∧ag p5∧ag p6∧ag p7∧ag p8∧ag p9:=⟨h0,h1,h2,h3,h4,h5,h6,h7,h8,h9⟩
theorem zZ{p0 p1 p2 p3 p4 p5 p6 p7 p8 p9 p10:Prop}(h0:p0)(h1:p1)(h2:p2)(h3:p3)(h4:p4)(h5:p5)(h6:p6)(h7:p7)(h8:p8)(h9:p9)(h10:p10):ag p0∧ag p1∧ag p2∧ag p3∧ag p4∧ag p5∧ag p6∧ag p7∧ag p8∧ag p9∧ag p10:=⟨h0,h1,h2,h3,h4,h5,h6,h7,h8,h9,h10⟩
theorem oM{p0 p1 p2 p3 p4 p5 p6 p7 p8 p9 p10 p11:Prop}(h0:p0)(h1:p1)(h2:p2)(h3:p3)(h4:p4)(h5:p5)(h6:p6)(h7:p7)(h8:p8)(h9:p9)(h10:p10)(h11:p11):ag p0∧ag p1∧ag p2∧ag p3∧ag p4∧ag p5∧ag p6∧ag p7∧ag p8∧ag p9∧ag p10∧ag p11:=⟨h0,h1,h2,h3,h4,h5,h6,h7,h8,h9,h10,h11⟩
theorem bo{p:Prop}(h:p:=by kernel_rfl):p:=h
theorem aR{p:Prop}(h:p:=by omega):p:=h
theorem aJ{p:Prop}(h:p:=by decide):p:=h
theorem bw{α:Sort _}(a:α):∃x,x=a:=⟨_,rfl⟩
@[reducible]def aW(w:World):World→Prop:=RowKit.Below w.heap.size w
@[reducible]def au:Value:=.slice none 0 0
@[reducible]def aG:Value:=.string ⟨#[]⟩
def aH(w:World)(g:Nat)(t:TypeId)(cs:Array Value):Prop:=w.heap[g]? =some (.cells cs t (0,0))
section
variable{w w':World}{g:Nat}{t:TypeId}{cs:Array Value}
theorem aH.lt(h:aH w g t cs):g<w.heap.size:=by
 rcases ahY g w.heap.size with hlt|hge
 ·exact hlt
 ·unfold aH at h;rw[ahZ hge]at h;cases h
theorem aH.cell(h:aH w g t cs)(i:Nat):w.cell? ⟨g,i,none⟩=cs[i]? :=cell_of_row w g i cs t (0,0) h
theorem aH.frozen(h:aH w g t cs)(i:Nat):w.frozen? ⟨g,i,none⟩=false:=by
 unfold aH at h;simp[World.frozen?,h]
theorem aH.new(w:World)(t:TypeId)(cs:Array Value):aH (w.alloc (.cells cs t)) w.heap.size t cs:=heap_alloc_new w _
theorem aH.drew(h:aH w g t cs):aH w.drew g t cs:=h
theorem aH.drewN(h:aH w g t cs)(n:Nat):aH (w.drewN n) g t cs:=h
theorem aH.alloc(h:aH w g t cs)(o:Obj):aH (w.alloc o) g t cs:=(Below.heap_alloc w o g h.lt).trans h
theorem aH.aM(h:aH w g t cs)(i:Nat)(u:Value):aH (w.setCell ⟨g,i,none⟩ u) g t (cs.setIfInBounds i u):=by
 unfold aH at h⊢;simp[World.setCell,Array.getElem?_modify,h]
theorem aH.far(h:aH w g t cs){p:Addr}(hp:g≠p.block)(u:Value):aH (w.setCell p u) g t cs:=(Below.heap_setCell w p u g hp).trans h
theorem aH.below{B:Nat}(h:aH w g t cs)(hb:Below B w w')(hg:g<B):aH w' g t cs:=(hb.block g hg).trans h
theorem aH.grown{row:Option Nat}(h:aH w g t cs)(hb:w.grownBy w' row)(hg:some g≠row):aH w' g t cs:=(hb.block g h.lt hg).trans h
theorem aH.vO{g':Nat}{t':TypeId}{cs':Array Value}(h:aH w g t cs)(h':aH w g' t' cs')(hne:t≠t'):g≠g':=by
 rintro rfl;unfold aH at h h';rw[h]at h';injection h' with h'
 injection h' with _ ht
 exact hne ht
end
structure Keeps(S:Nat→Prop)(w w':World):Prop where
 os:w'.os=w.os
 tape:w'.tape=w.tape
 output:w'.output=w.output
 size:w.heap.size≤w'.heap.size
 block:∀k,k<w.heap.size→¬S k→w'.heap[k]? =w.heap[k]?
section
variable{S T:Nat→Prop}{a b c w w':World}
theorem Keeps.refl(S:Nat→Prop)(w:World):Keeps S w w:=⟨rfl,rfl,rfl,ax _,fun _ _ _=>rfl⟩
theorem Keeps.trans(h:Keeps S a b)(k:Keeps S b c):Keeps S a c:=⟨k.os.trans h.os,k.tape.trans h.tape,k.output.trans h.output,Nat.le_trans h.size k.size,fun i hi hs=>(k.block i (ahQ hi h.size) hs).trans (h.block i hi hs)⟩
theorem Keeps.mono(h:Keeps S a b)(hst:∀k,k<a.heap.size→S k→T k):Keeps T a b:=⟨h.os,h.tape,h.output,h.size,fun k hk hT=>h.block k hk fun hs=>hT (hst k hk hs)⟩
theorem Keeps.drew(h:Keeps S a w):Keeps S a w.drew:=⟨h.os,h.tape,h.output,h.size,h.block⟩
theorem Keeps.drewN(h:Keeps S a w)(n:Nat):Keeps S a (w.drewN n):=⟨h.os,h.tape,h.output,h.size,h.block⟩
theorem Keeps.alloc(h:Keeps S a w)(o:Obj):Keeps S a (w.alloc o):=⟨h.os,h.tape,h.output,Nat.le_trans h.size (by simp),fun i hi hs=>(Below.heap_alloc w o i (ahQ hi h.size)).trans (h.block i hi hs)⟩
theorem Keeps.setCell(h:Keeps S a w){p:Addr}(hp:S p.block∨a.heap.size≤p.block)(u:Value):Keeps S a (w.setCell p u):=⟨h.os,h.tape,h.output,by simpa[World.setCell]using h.size,fun i hi hs=>(Below.heap_setCell w p u i (by
 rintro rfl;rcases hp with hp|hp
 ·exact hs hp
 ·omega)).trans (h.block i hi hs)⟩
theorem Keeps.of_below{B:Nat}(h:Below B a b)(hS:∀k,k<a.heap.size→¬S k→k<B):Keeps S a b:=⟨h.os,h.tape,h.output,h.size,fun i hi hs=>h.block i (hS i hi hs)⟩
theorem Keeps.below{B:Nat}(h:Keeps S a b)(hS:∀k,S k→B≤k)(hB:B≤a.heap.size):Below B a b:=⟨h.os,h.tape,h.output,h.size,fun k hk=>h.block k aR fun hs=>by have:=hS k hs;omega⟩
theorem Keeps.SY{row:Option Nat}(h:a.grownBy b row)(hS:∀k,row=some k→S k):Keeps S a b:=⟨h.os,h.tape,h.output,h.size,fun k hk hs=>h.block k hk fun e=>hs (hS k e.symm)⟩
theorem aH.keep{g:Nat}{t:TypeId}{cs:Array Value}(h:aH w g t cs)(hk:Keeps S w w')(hg:¬S g):aH w' g t cs:=(hk.block g h.lt hg).trans h
theorem Keeps.below_drewN{B n:Nat}(h:Keeps S (a.drewN n) b)(hS:∀k,S k→B≤k)(hB:B≤a.heap.size):Below B a b:=have k:=h.below hS (show B≤(a.drewN n).heap.size from hB)
 ⟨k.os,k.tape,k.output,k.size,k.block⟩
end
theorem cell_far{w:World}{a c:Addr}{u:Value}(h:a.block≠c.block):(w.setCell a u).cell? c=w.cell? c:=World.cell?_setCell_other w a c u (fun e=>h (by rw[e]))
section
variable{P:Program}{ops:Array Oper}{Q:Exit→Act→World→Prop}{md:Region.Mode}{S:World→Prop}{E:Nat}
def gG(P:Program)(md:Region.Mode)(ops:Array Oper)(Q:Exit→Act→World→Prop)(S:World→Prop)(E:Nat):Nat→Array Bool→Act→World→Prop
 |0,l,a,w=>Region.ready md ops l=[]∧Q .normal a w
 |m+1,l,a,w=>(Region.ready md ops l=[]→Q .normal a w)∧∀i∈Region.ready md ops l,wpOp P ops Q i (fun a' w'=>(i≠E→S w')∧gG P md ops Q S E m (l.setIfInBounds i true) a' w') a w
theorem wY:∀(m:Nat)(l:Array Bool)(a:Act)(w:World),gG P md ops Q S E m l a w→wpAny P md ops Q m l a w
 |0,_,_,_,h=>h
 |m+1,_,_,_,h=>⟨h.1,fun i hi=>wpOp_mono (fun a' w' h'=>wY m _ a' w' h'.2) (h.2 i hi)⟩
theorem Ae{l:Array Bool}{i j:Nat}{oj:Oper}(hu:l.getD i true=false)(hall:∀e∈oj.after,Region.binds md e=true→l.getD e.on false=true):∀e∈oj.after,Region.binds md e=true→e.on≠i:=by
 intro e he hb heq;have h1:=hall e he hb;rw[heq]at h1;rcases ahY i l.size with h'|h'
 ·simp[h']at hu h1;rw[hu]at h1;cases h1
 ·simp[ahZ h']at h1
def waitsFor(md:Region.Mode)(ops:Array Oper)(E i:Nat):Bool:=((ops[E]?).map fun o=>o.after.any fun e=>Region.binds md e&&decide (e.on=i)).getD false
theorem BM{i:Nat}{oi:Oper}{v:Value}(hi:ops[i]? =some oi)(hsel:∀(j:Nat)(o:Oper)cs b,ops[j]? =some o→o.op≠.select cs b)(hQ:∀c a w,Q (.panic c) (a.put oi.dst v) w→Q (.panic c) a w)(hE:waitsFor md ops E i=true)(hiE:i≠E):∀(m:Nat)(l:Array Bool)(a:Act)(w:World),(∀j oj,ops[j]? =some oj→j≠i→l.getD j true=false→(∀e∈oj.after,Region.binds md e=true→e.on≠i)→oi.apart ops oj=true)→i∈Region.ready md ops l→YieldsIf P ops S oi v a→S w→gG P md ops Q S E m (l.setIfInBounds i true) (a.put oi.dst v) w→gG P md ops Q S E (m+1) l a w:=by
 intro m
 induction m with
 |zero=>
  intro l a w _ hr hy hS H;refine⟨fun h=>(by rw[h]at hr;cases hr),fun j hj=>?_⟩;by_cases hji:j=i
  ·subst hji;exact hy.wpOp hi hS ⟨fun _=>hS,H⟩
  ·have:=ready_mono hj hji;rw[H.1]at this;cases this
 |succ m ih=>
  intro l a w hfree hr hy hS H;refine⟨fun h=>(by rw[h]at hr;cases hr),fun j hj=>?_⟩;by_cases hji:j=i
  ·subst hji;exact hy.wpOp hi hS ⟨fun _=>hS,H⟩
  ·have h1:=H.2 j (ready_mono hj hji);obtain⟨hjun,oj,hoj,hall⟩:=mem_ready.1 hj;have hnot:=Ae (j:=j) (mem_ready.1 hr).1 hall;have hjE:j≠E:=by
    rintro rfl;unfold waitsFor at hE;rw[hoj]at hE;simp only[Option.map_some,Option.getD_some]at hE;obtain⟨e,he,h2⟩:=Array.any_eq_true'.1 hE;simp only[aU,decide_eq_true_eq]at h2;exact hnot e he h2.1 h2.2
   have h2:=wpOp_putIf hoj (hfree j oj hoj hji hjun hnot) (fun cs b=>hsel i oi cs b hi) (fun cs b=>hsel j oj cs b hoj) hQ hy h1;have hfree':∀k ok,ops[k]? =some ok→k≠i→(l.setIfInBounds j true).getD k true=false→(∀e∈ok.after,Region.binds md e=true→e.on≠i)→oi.apart ops ok=true:=fun k ok hk hki hun hno=>by
    refine hfree k ok hk hki ?_ hno;by_cases hjk:j=k
    ·subst hjk;exact hjun
    ·rw[getD_set_ne true hjk]at hun;exact hun
   refine wpOp_mono (fun a' w' h3=>⟨h3.2.1,ih (l.setIfInBounds j true) a' w' hfree' (ready_mono hr (Ne.symm hji)) h3.1 (h3.2.1 hjE) ?_⟩) h2;rw[Array.setIfInBounds_comm _ _ hji];exact h3.2.2
theorem ES{i:Nat}{oi:Oper}{v:Value}{m:Nat}{l:Array Bool}{a:Act}{w:World}(hi:ops[i]? =some oi)(hs:Region.noSelect ops=true)(hf:Region.free md ops l i=true)(hr:(Region.ready md ops l).contains i=true)(hQ:∀c a w,Q (.panic c) (a.put oi.dst v) w→Q (.panic c) a w)(hy:YieldsIf P ops S oi v a)(hS:S w)(hE:(waitsFor md ops E i&&decide (i≠E))=true)(h:gG P md ops Q S E m (l.setIfInBounds i true) (a.put oi.dst v) w):gG P md ops Q S E (m+1) l a w:=by
 simp only[aU,decide_eq_true_eq]at hE;exact BM hi (Region.noSelect_spec hs) hQ hE.1 hE.2 m l a w (Region.free_spec hi hf) (by simpa using hr) hy hS h
def fO(P:Program)(md:Region.Mode)(ops:Array Oper)(Q:Exit→Act→World→Prop)(S:World→Prop)(E:Nat)(m:Nat)(l:Array Bool)(a:Act)(w:World)(rs:List Nat):Prop:=∀i∈rs,wpOp P ops Q i (fun a' w'=>(i≠E→S w')∧gG P md ops Q S E m (l.setIfInBounds i true) a' w') a w
theorem fO.nil{m:Nat}{l:Array Bool}{a:Act}{w:World}:fO P md ops Q S E m l a w []:=fun _ h=>by cases h
theorem fO.cons{m:Nat}{l:Array Bool}{a:Act}{w:World}{i:Nat}{o:Oper}{rs:List Nat}(ho:ops[i]? =some o)(h:∀K':Act→World→Prop,Shut (∀a w,(i≠E→S w)→((i≠E→S w)→gG P md ops Q S E m (l.setIfInBounds i true) a w)→K' a w)→if Region.wanted o (yielded ops a.tmps)=true then Oper.wp P o a w K' Q else K' (a.put o.dst undef) w)(hs:fO P md ops Q S E m l a w rs):fO P md ops Q S E m l a w (i::rs):=fun j hj=>by
 rcases List.mem_cons.1 hj with rfl|hj
 ·exact wpOp_step ho (fun K' hK=>h K' (fun a w hS hW=>hK a w ⟨hS,hW hS⟩))
 ·exact hs j hj
theorem rB{rs:List Nat}{m:Nat}{l:Array Bool}{a:Act}{w:World}(hr:Region.ready md ops l=rs)(hne:rs≠[])(h:fO P md ops Q S E m l a w rs):gG P md ops Q S E (m+1) l a w:=⟨fun h0=>absurd (hr▸h0) hne,hr▸h⟩
theorem ET{m:Nat}{l:Array Bool}{a:Act}{w:World}(hr:Region.ready md ops l=[])(h:Q .normal a w):gG P md ops Q S E m l a w:=by
 cases m with
 |zero=>exact⟨hr,h⟩
 |succ m=>exact⟨fun _=>h,fun i hi=>by rw[hr]at hi;cases hi⟩
theorem dW(E:Nat)(S:World→Prop){id:Nat}{a:Act}{w:World}(hm:P.follows .mixedOrders=true)(hS:S w.drew)(h:S w.drew→gG P .any ops Q S E ops.size (Array.replicate ops.size false) a w.drew):(Code.region id ops true).wp P Q a w:=wp_region_any hm (wY _ _ _ _ (h hS))
end
section
variable{P:Program}{ops:Array Oper}{Q:Exit→Act→World→Prop}{md:Region.Mode}{S:World→Prop}{E:Nat}
def gI(P:Program)(md:Region.Mode)(ops:Array Oper)(Q:Exit→Act→World→Prop)(S:World→Prop)(E:Nat):Nat→Array Bool→Act→World→Prop
 |0,l,a,w=>Region.ready md ops l=[]∧Q .normal a w
 |m+1,l,a,w=>(Region.ready md ops l=[]→Q .normal a w)∧∀i∈Region.ready md ops l,wpOp P ops Q i (fun a' w'=>(i<E→S w')∧gI P md ops Q S E m (l.setIfInBounds i true) a' w') a w
theorem wZ:∀(m:Nat)(l:Array Bool)(a:Act)(w:World),gI P md ops Q S E m l a w→wpAny P md ops Q m l a w
 |0,_,_,_,h=>h
 |m+1,_,_,_,h=>⟨h.1,fun i hi=>wpOp_mono (fun a' w' h'=>wZ m _ a' w' h'.2) (h.2 i hi)⟩
def oN(md:Region.Mode)(ops:Array Oper)(E i:Nat):Bool:=(aF ops.size).all fun e=>decide (e<E)||waitsFor md ops e i
theorem EU{E i e:Nat}(h:oN md ops E i=true)(he:E≤e)(hl:e<ops.size):waitsFor md ops e i=true:=by
 have:=List.all_eq_true.1 h e (List.mem_range.2 hl);rw[Bool.or_eq_true]at this;rcases this with h|h
 ·exact absurd (of_decide_eq_true h) (by omega)
 ·exact h
theorem BO{i:Nat}{oi:Oper}{v:Value}(hi:ops[i]? =some oi)(hsel:∀(j:Nat)(o:Oper)cs b,ops[j]? =some o→o.op≠.select cs b)(hQ:∀c a w,Q (.panic c) (a.put oi.dst v) w→Q (.panic c) a w)(hE:oN md ops E i=true)(hiE:i<E):∀(m:Nat)(l:Array Bool)(a:Act)(w:World),(∀j oj,ops[j]? =some oj→j≠i→l.getD j true=false→(∀e∈oj.after,Region.binds md e=true→e.on≠i)→oi.apart ops oj=true)→i∈Region.ready md ops l→YieldsIf P ops S oi v a→S w→gI P md ops Q S E m (l.setIfInBounds i true) (a.put oi.dst v) w→gI P md ops Q S E (m+1) l a w:=by
 intro m
 induction m with
 |zero=>
  intro l a w _ hr hy hS H;refine⟨fun h=>(by rw[h]at hr;cases hr),fun j hj=>?_⟩;by_cases hji:j=i
  ·subst hji;exact hy.wpOp hi hS ⟨fun _=>hS,H⟩
  ·have:=ready_mono hj hji;rw[H.1]at this;cases this
 |succ m ih=>
  intro l a w hfree hr hy hS H;refine⟨fun h=>(by rw[h]at hr;cases hr),fun j hj=>?_⟩;by_cases hji:j=i
  ·subst hji;exact hy.wpOp hi hS ⟨fun _=>hS,H⟩
  ·have h1:=H.2 j (ready_mono hj hji);obtain⟨hjun,oj,hoj,hall⟩:=mem_ready.1 hj;have hnot:=Ae (j:=j) (mem_ready.1 hr).1 hall;have hjE:j<E:=by
    rcases ahY j E with hlt|hge
    ·exact hlt
    have hE:=EU hE hge (Array.getElem?_eq_some_iff.1 hoj).1;exfalso;unfold waitsFor at hE;rw[hoj]at hE;simp only[Option.map_some,Option.getD_some]at hE;obtain⟨e,he,h2⟩:=Array.any_eq_true'.1 hE;simp only[aU,decide_eq_true_eq]at h2;exact hnot e he h2.1 h2.2
   have h2:=wpOp_putIf hoj (hfree j oj hoj hji hjun hnot) (fun cs b=>hsel i oi cs b hi) (fun cs b=>hsel j oj cs b hoj) hQ hy h1;have hfree':∀k ok,ops[k]? =some ok→k≠i→(l.setIfInBounds j true).getD k true=false→(∀e∈ok.after,Region.binds md e=true→e.on≠i)→oi.apart ops ok=true:=fun k ok hk hki hun hno=>by
    refine hfree k ok hk hki ?_ hno;by_cases hjk:j=k
    ·subst hjk;exact hjun
    ·rw[getD_set_ne true hjk]at hun;exact hun
   refine wpOp_mono (fun a' w' h3=>⟨h3.2.1,ih (l.setIfInBounds j true) a' w' hfree' (ready_mono hr (Ne.symm hji)) h3.1 (h3.2.1 hjE) ?_⟩) h2;rw[Array.setIfInBounds_comm _ _ hji];exact h3.2.2
theorem EV{i:Nat}{oi:Oper}{v:Value}{m:Nat}{l:Array Bool}{a:Act}{w:World}(hi:ops[i]? =some oi)(hs:Region.noSelect ops=true)(hf:Region.free md ops l i=true)(hr:(Region.ready md ops l).contains i=true)(hQ:∀c a w,Q (.panic c) (a.put oi.dst v) w→Q (.panic c) a w)(hy:YieldsIf P ops S oi v a)(hS:S w)(hE:(oN md ops E i&&decide (i<E))=true)(h:gI P md ops Q S E m (l.setIfInBounds i true) (a.put oi.dst v) w):gI P md ops Q S E (m+1) l a w:=by
 simp only[aU,decide_eq_true_eq]at hE;exact BO hi (Region.noSelect_spec hs) hQ hE.1 hE.2 m l a w (Region.free_spec hi hf) (by simpa using hr) hy hS h
def ji(P:Program)(md:Region.Mode)(ops:Array Oper)(Q:Exit→Act→World→Prop)(S:World→Prop)(E:Nat)(m:Nat)(l:Array Bool)(a:Act)(w:World)(rs:List Nat):Prop:=∀i∈rs,wpOp P ops Q i (fun a' w'=>(i<E→S w')∧gI P md ops Q S E m (l.setIfInBounds i true) a' w') a w
theorem ji.nil{m:Nat}{l:Array Bool}{a:Act}{w:World}:ji P md ops Q S E m l a w []:=fun _ h=>by cases h
theorem ji.cons{m:Nat}{l:Array Bool}{a:Act}{w:World}{i:Nat}{o:Oper}{rs:List Nat}(ho:ops[i]? =some o)(h:∀K':Act→World→Prop,Shut (∀a w,(i<E→S w)→((i<E→S w)→gI P md ops Q S E m (l.setIfInBounds i true) a w)→K' a w)→if Region.wanted o (yielded ops a.tmps)=true then Oper.wp P o a w K' Q else K' (a.put o.dst undef) w)(hs:ji P md ops Q S E m l a w rs):ji P md ops Q S E m l a w (i::rs):=fun j hj=>by
 rcases List.mem_cons.1 hj with rfl|hj
 ·exact wpOp_step ho (fun K' hK=>h K' (fun a w hS hW=>hK a w ⟨hS,hW hS⟩))
 ·exact hs j hj
theorem BQ{rs:List Nat}{m:Nat}{l:Array Bool}{a:Act}{w:World}(hr:Region.ready md ops l=rs)(hne:rs≠[])(h:ji P md ops Q S E m l a w rs):gI P md ops Q S E (m+1) l a w:=⟨fun h0=>absurd (hr▸h0) hne,hr▸h⟩
theorem EW{m:Nat}{l:Array Bool}{a:Act}{w:World}(hr:Region.ready md ops l=[])(h:Q .normal a w):gI P md ops Q S E m l a w:=by
 cases m with
 |zero=>exact⟨hr,h⟩
 |succ m=>exact⟨fun _=>h,fun i hi=>by rw[hr]at hi;cases hi⟩
theorem km(E:Nat)(S:World→Prop){id:Nat}{a:Act}{w:World}(hm:P.follows .mixedOrders=true)(hS:S w.drew)(h:S w.drew→gI P .any ops Q S E ops.size (Array.replicate ops.size false) a w.drew):(Code.region id ops true).wp P Q a w:=wp_region_any hm (wZ _ _ _ _ (h hS))
end
section
variable{P:Program}{ops:Array Oper}{Q:Exit→Act→World→Prop}{md:Region.Mode}{S:World→Prop}{E:Nat}
theorem pP(i:Nat){o:Oper}{v:Value}{f:Nat}{l:Array Bool}{a:Act}{w:World}(h:wpAnyH P md ops Q S f (l.setIfInBounds i true) (a.put o.dst v) w)(hi:ops[i]? =some o:=by exact rfl)(hs:Region.noSelect ops=true:=by kernel_rfl)(hf:Region.free md ops l i=true:=by kernel_rfl)(hr:(Region.ready md ops l).contains i=true:=by kernel_rfl)(hw:Region.wanted o (yielded ops a.tmps)=true:=by rfl)(hy:∀w,S w→(execOp a.eval o).run P w=.ok (.value v) w:=by(intro w hSw;(try dsimp only at hSw);go_simp;try with_reducible rfl))(hQ:∀c a w,Q (.panic c) (a.put o.dst v) w→Q (.panic c) a w:=by exact fun _ _ _ h=>h)(hS:S w:=by assumption):wpAnyH P md ops Q S (f+1) l a w:=wpAnyH_take hi hs hf hr hQ (.inl ⟨hw,hy⟩) hS h
theorem ztU(i:Nat){o:Oper}{f:Nat}{l:Array Bool}{a:Act}{w:World}(h:wpAnyH P md ops Q S f (l.setIfInBounds i true) (a.put o.dst undef) w)(hi:ops[i]? =some o:=by exact rfl)(hs:Region.noSelect ops=true:=by kernel_rfl)(hf:Region.free md ops l i=true:=by kernel_rfl)(hr:(Region.ready md ops l).contains i=true:=by kernel_rfl)(hw:Region.wanted o (yielded ops a.tmps)=false:=by rfl)(hQ:∀c a w,Q (.panic c) (a.put o.dst undef) w→Q (.panic c) a w:=by exact fun _ _ _ h=>h)(hS:S w:=by assumption):wpAnyH P md ops Q S (f+1) l a w:=wpAnyH_take hi hs hf hr hQ (.inr ⟨hw,rfl⟩) hS h
theorem ztE(i:Nat){o:Oper}{v:Value}{f:Nat}{l:Array Bool}{a:Act}{w:World}(h:gG P md ops Q S E f (l.setIfInBounds i true) (a.put o.dst v) w)(hi:ops[i]? =some o:=by exact rfl)(hs:Region.noSelect ops=true:=by kernel_rfl)(hf:Region.free md ops l i=true:=by kernel_rfl)(hr:(Region.ready md ops l).contains i=true:=by kernel_rfl)(hw:Region.wanted o (yielded ops a.tmps)=true:=by rfl)(hy:∀w,S w→(execOp a.eval o).run P w=.ok (.value v) w:=by(intro w hSw;(try dsimp only at hSw);go_simp;try with_reducible rfl))(hQ:∀c a w,Q (.panic c) (a.put o.dst v) w→Q (.panic c) a w:=by exact fun _ _ _ h=>h)(hS:S w:=by assumption)(hE:(waitsFor md ops E i&&decide (i≠E))=true:=by kernel_rfl):gG P md ops Q S E (f+1) l a w:=ES hi hs hf hr hQ (.inl ⟨hw,hy⟩) hS hE h
end
theorem ck:(∀(a:Act)(d:Tmp)(v:Value),a.put (some d) v={a with tmps:=a.tmps.setIfInBounds d v})∧(∀(a:Act)(v:Value),a.put none v=a)∧(∀{α:Type}(l:List α)(i:Nat)(x:α),l.toArray.setIfInBounds i x=(l.set i x).toArray)∧(∀{α:Type}(l:List α)(x y:α),(x::l).set 0 y=y::l)∧(∀{α:Type}(l:List α)(x y:α)(i:Nat),(x::l).set (i+1) y=x::l.set i y)∧(∀{α:Type}(l:List α)(i:Nat)(h:i<l.toArray.size),l.toArray[i]=l[i]'h)∧(∀{α:Type}(x:α)(l:List α)(h:0<(x::l).length),(x::l)[0]=x)∧(∀{α:Type}(x:α)(l:List α)(i:Nat)(h:i+1<(x::l).length),(x::l)[i+1]=l[i]'(Nat.lt_of_succ_lt_succ h)):=⟨fun _ _ _=>rfl,fun _ _=>rfl,fun _ _ _=>by simp,fun _ _ _=>rfl,fun _ _ _ _=>rfl,fun _ _ _=>rfl,fun _ _ _=>rfl,fun _ _ _ _=>rfl⟩
theorem jQ{w:World}{g:Nat}{t:TypeId}{x0 x1:Value}{l:List Value}(h:ag (aH w g t (x0::x1::l).toArray)):w.cell? ⟨g,0,none⟩=some x0∧w.cell? ⟨g,1,none⟩=some x1:=⟨h.out.cell 0,h.out.cell 1⟩
theorem jt{w:World}{g:Nat}{t:TypeId}{x0 x1 x2:Value}{l:List Value}(h:ag (aH w g t (x0::x1::x2::l).toArray)):w.cell? ⟨g,0,none⟩=some x0∧w.cell? ⟨g,1,none⟩=some x1∧w.cell? ⟨g,2,none⟩=some x2:=⟨h.out.cell 0,h.out.cell 1,h.out.cell 2⟩
theorem dY{w:World}{g:Nat}{t:TypeId}{x0 x1 x2 x3:Value}{l:List Value}(h:ag (aH w g t (x0::x1::x2::x3::l).toArray)):w.cell? ⟨g,0,none⟩=some x0∧w.cell? ⟨g,1,none⟩=some x1∧w.cell? ⟨g,2,none⟩=some x2∧w.cell? ⟨g,3,none⟩=some x3:=⟨h.out.cell 0,h.out.cell 1,h.out.cell 2,h.out.cell 3⟩
theorem IZ{w:World}{g:Nat}{t:TypeId}{x0 x1 x2 x3 x4:Value}{l:List Value}(h:ag (aH w g t (x0::x1::x2::x3::x4::l).toArray)):w.cell? ⟨g,0,none⟩=some x0∧w.cell? ⟨g,1,none⟩=some x1∧w.cell? ⟨g,2,none⟩=some x2∧w.cell? ⟨g,3,none⟩=some x3∧w.cell? ⟨g,4,none⟩=some x4:=⟨h.out.cell 0,h.out.cell 1,h.out.cell 2,h.out.cell 3,h.out.cell 4⟩
theorem zl{w:World}{g:Nat}{t:TypeId}{x0 x1 x2 x3 x4 x5:Value}{l:List Value}(h:ag (aH w g t (x0::x1::x2::x3::x4::x5::l).toArray)):w.cell? ⟨g,0,none⟩=some x0∧w.cell? ⟨g,1,none⟩=some x1∧w.cell? ⟨g,2,none⟩=some x2∧w.cell? ⟨g,3,none⟩=some x3∧w.cell? ⟨g,4,none⟩=some x4∧w.cell? ⟨g,5,none⟩=some x5:=⟨h.out.cell 0,h.out.cell 1,h.out.cell 2,h.out.cell 3,h.out.cell 4,h.out.cell 5⟩
theorem ad3{w:World}{g:Nat}{t:TypeId}{x0 x1 x2 x3 x4 x5 x6:Value}{l:List Value}(h:ag (aH w g t (x0::x1::x2::x3::x4::x5::x6::l).toArray)):w.cell? ⟨g,0,none⟩=some x0∧w.cell? ⟨g,1,none⟩=some x1∧w.cell? ⟨g,2,none⟩=some x2∧w.cell? ⟨g,3,none⟩=some x3∧w.cell? ⟨g,4,none⟩=some x4∧w.cell? ⟨g,5,none⟩=some x5∧w.cell? ⟨g,6,none⟩=some x6:=⟨h.out.cell 0,h.out.cell 1,h.out.cell 2,h.out.cell 3,h.out.cell 4,h.out.cell 5,h.out.cell 6⟩
theorem dB{w:World}{g:Nat}{t:TypeId}{x0 x1 x2 x3 x4 x5 x6 x7:Value}{l:List Value}(h:ag (aH w g t (x0::x1::x2::x3::x4::x5::x6::x7::l).toArray)):w.cell? ⟨g,0,none⟩=some x0∧w.cell? ⟨g,1,none⟩=some x1∧w.cell? ⟨g,2,none⟩=some x2∧w.cell? ⟨g,3,none⟩=some x3∧w.cell? ⟨g,4,none⟩=some x4∧w.cell? ⟨g,5,none⟩=some x5∧w.cell? ⟨g,6,none⟩=some x6∧w.cell? ⟨g,7,none⟩=some x7:=⟨h.out.cell 0,h.out.cell 1,h.out.cell 2,h.out.cell 3,h.out.cell 4,h.out.cell 5,h.out.cell 6,h.out.cell 7⟩
theorem vw{w:World}{g:Nat}{t:TypeId}{x0 x1 x2 x3 x4 x5 x6 x7 x8:Value}{l:List Value}(h:ag (aH w g t (x0::x1::x2::x3::x4::x5::x6::x7::x8::l).toArray)):w.cell? ⟨g,0,none⟩=some x0∧w.cell? ⟨g,1,none⟩=some x1∧w.cell? ⟨g,2,none⟩=some x2∧w.cell? ⟨g,3,none⟩=some x3∧w.cell? ⟨g,4,none⟩=some x4∧w.cell? ⟨g,5,none⟩=some x5∧w.cell? ⟨g,6,none⟩=some x6∧w.cell? ⟨g,7,none⟩=some x7∧w.cell? ⟨g,8,none⟩=some x8:=⟨h.out.cell 0,h.out.cell 1,h.out.cell 2,h.out.cell 3,h.out.cell 4,h.out.cell 5,h.out.cell 6,h.out.cell 7,h.out.cell 8⟩
theorem bg{w w1 w2:World}(h:ag (RowKit.Below w.heap.size w w1))(d:RowKit.Below w1.heap.size w1 w2):ag (RowKit.Below w.heap.size w w2):=h.out.trans (d.mono h.out.size)
theorem bK{w w1:World}{g:Nat}{t:TypeId}{cs:Array Value}(h:ag (aH w g t cs))(d:RowKit.Below w.heap.size w w1):aH w1 g t cs:=h.out.below d h.out.lt
section
variable{P:Program}{ops:Array Oper}{Q:Exit→Act→World→Prop}{md:Region.Mode}{S:World→Prop}{E:Nat}
theorem aY(i:Nat){o:Oper}{v:Value}{f:Nat}{l l1:Array Bool}{a a1:Act}{w:World}(h:wpAnyH P md ops Q S f l1 a1 w)(hi:ops[i]? =some o:=by exact rfl)(hs:Region.noSelect ops=true:=by kernel_rfl)(hf:Region.free md ops l i=true:=by kernel_rfl)(hr:(Region.ready md ops l).contains i=true:=by kernel_rfl)(hw:Region.wanted o (yielded ops a.tmps)=true:=by rfl)(hy:∀w,S w→(execOp a.eval o).run P w=.ok (.value v) w:=by(intro w hSw;(try dsimp only at hSw);go_simp;try with_reducible rfl))(hQ:∀c a w,Q (.panic c) (a.put o.dst v) w→Q (.panic c) a w:=by exact fun _ _ _ h=>h)(hS:S w:=by assumption)(el:l.setIfInBounds i true=l1:=by((conv=>lhs;simp only[ck]);try exact rfl))(ea:a.put o.dst v=a1:=by((conv=>lhs;simp only[ck]);try exact rfl)):wpAnyH P md ops Q S (f+1) l a w:=by subst el ea;exact pP i h hi hs hf hr hw hy hQ hS
theorem tj(i:Nat){o:Oper}{f:Nat}{l l1:Array Bool}{a a1:Act}{w:World}(h:wpAnyH P md ops Q S f l1 a1 w)(hi:ops[i]? =some o:=by exact rfl)(hs:Region.noSelect ops=true:=by kernel_rfl)(hf:Region.free md ops l i=true:=by kernel_rfl)(hr:(Region.ready md ops l).contains i=true:=by kernel_rfl)(hw:Region.wanted o (yielded ops a.tmps)=false:=by rfl)(hQ:∀c a w,Q (.panic c) (a.put o.dst undef) w→Q (.panic c) a w:=by exact fun _ _ _ h=>h)(hS:S w:=by assumption)(el:l.setIfInBounds i true=l1:=by((conv=>lhs;simp only[ck]);try exact rfl))(ea:a.put o.dst undef=a1:=by((conv=>lhs;simp only[ck]);try exact rfl)):wpAnyH P md ops Q S (f+1) l a w:=by subst el ea;exact ztU i h hi hs hf hr hw hQ hS
theorem fA(i:Nat){o:Oper}{f:Nat}{l:Array Bool}{a:Act}{w:World}(h:∀K:Act→World→Prop,Shut (∀a w,S w→(S w→wpAnyH P md ops Q S f (l.setIfInBounds i true) a w)→K a w)→if Region.wanted o (yielded ops a.tmps)=true then Oper.wp P o a w K Q else K (a.put o.dst undef) w)(hi:ops[i]? =some o:=by exact rfl)(hr:Region.ready md ops l=[i]:=by kernel_rfl):wpAnyH P md ops Q S (f+1) l a w:=wpAnyH_ready hr (by simp) (AllReadyH.cons hi h AllReadyH.nil)
theorem lN{f:Nat}{l:Array Bool}{a:Act}{w:World}(h:Q .normal a w)(hr:Region.ready md ops l=[]:=by kernel_rfl):wpAnyH P md ops Q S f l a w:=wpAnyH_done hr h _
theorem dT(i:Nat){o:Oper}{v:Value}{f:Nat}{l l1:Array Bool}{a a1:Act}{w:World}(h:gG P md ops Q S E f l1 a1 w)(hi:ops[i]? =some o:=by exact rfl)(hs:Region.noSelect ops=true:=by kernel_rfl)(hf:Region.free md ops l i=true:=by kernel_rfl)(hr:(Region.ready md ops l).contains i=true:=by kernel_rfl)(hw:Region.wanted o (yielded ops a.tmps)=true:=by rfl)(hy:∀w,S w→(execOp a.eval o).run P w=.ok (.value v) w:=by(intro w hSw;(try dsimp only at hSw);go_simp;try with_reducible rfl))(hQ:∀c a w,Q (.panic c) (a.put o.dst v) w→Q (.panic c) a w:=by exact fun _ _ _ h=>h)(hS:S w:=by assumption)(hE:(waitsFor md ops E i&&decide (i≠E))=true:=by kernel_rfl)(el:l.setIfInBounds i true=l1:=by((conv=>lhs;simp only[ck]);try exact rfl))(ea:a.put o.dst v=a1:=by((conv=>lhs;simp only[ck]);try exact rfl)):gG P md ops Q S E (f+1) l a w:=by subst el ea;exact ztE i h hi hs hf hr hw hy hQ hS hE
theorem np(i:Nat){o:Oper}{f:Nat}{l:Array Bool}{a:Act}{w:World}(h:∀K:Act→World→Prop,Shut (∀a w,(i≠E→S w)→((i≠E→S w)→gG P md ops Q S E f (l.setIfInBounds i true) a w)→K a w)→if Region.wanted o (yielded ops a.tmps)=true then Oper.wp P o a w K Q else K (a.put o.dst undef) w)(hi:ops[i]? =some o:=by exact rfl)(hr:Region.ready md ops l=[i]:=by kernel_rfl):gG P md ops Q S E (f+1) l a w:=rB hr (by simp) (fO.cons hi h fO.nil)
theorem OU{f:Nat}{l:Array Bool}{a:Act}{w:World}(h:Q .normal a w)(hr:Region.ready md ops l=[]:=by kernel_rfl):gG P md ops Q S E f l a w:=ET hr h
theorem ztX(i:Nat){o:Oper}{v:Value}{f:Nat}{l:Array Bool}{a:Act}{w:World}(h:gI P md ops Q S E f (l.setIfInBounds i true) (a.put o.dst v) w)(hi:ops[i]? =some o:=by exact rfl)(hs:Region.noSelect ops=true:=by kernel_rfl)(hf:Region.free md ops l i=true:=by kernel_rfl)(hr:(Region.ready md ops l).contains i=true:=by kernel_rfl)(hw:Region.wanted o (yielded ops a.tmps)=true:=by rfl)(hy:∀w,S w→(execOp a.eval o).run P w=.ok (.value v) w:=by(intro w hSw;(try dsimp only at hSw);go_simp;try with_reducible rfl))(hQ:∀c a w,Q (.panic c) (a.put o.dst v) w→Q (.panic c) a w:=by exact fun _ _ _ h=>h)(hS:S w:=by assumption)(hE:(oN md ops E i&&decide (i<E))=true:=by kernel_rfl):gI P md ops Q S E (f+1) l a w:=EV hi hs hf hr hQ (.inl ⟨hw,hy⟩) hS hE h
theorem vy(i:Nat){o:Oper}{v:Value}{f:Nat}{l l1:Array Bool}{a a1:Act}{w:World}(h:gI P md ops Q S E f l1 a1 w)(hi:ops[i]? =some o:=by exact rfl)(hs:Region.noSelect ops=true:=by kernel_rfl)(hf:Region.free md ops l i=true:=by kernel_rfl)(hr:(Region.ready md ops l).contains i=true:=by kernel_rfl)(hw:Region.wanted o (yielded ops a.tmps)=true:=by rfl)(hy:∀w,S w→(execOp a.eval o).run P w=.ok (.value v) w:=by(intro w hSw;(try dsimp only at hSw);go_simp;try with_reducible rfl))(hQ:∀c a w,Q (.panic c) (a.put o.dst v) w→Q (.panic c) a w:=by exact fun _ _ _ h=>h)(hS:S w:=by assumption)(hE:(oN md ops E i&&decide (i<E))=true:=by kernel_rfl)(el:l.setIfInBounds i true=l1:=by((conv=>lhs;simp only[ck]);try exact rfl))(ea:a.put o.dst v=a1:=by((conv=>lhs;simp only[ck]);try exact rfl)):gI P md ops Q S E (f+1) l a w:=by subst el ea;exact ztX i h hi hs hf hr hw hy hQ hS hE
theorem vP(i:Nat){o:Oper}{f:Nat}{l:Array Bool}{a:Act}{w:World}(h:∀K:Act→World→Prop,Shut (∀a w,(i<E→S w)→((i<E→S w)→gI P md ops Q S E f (l.setIfInBounds i true) a w)→K a w)→if Region.wanted o (yielded ops a.tmps)=true then Oper.wp P o a w K Q else K (a.put o.dst undef) w)(hi:ops[i]? =some o:=by exact rfl)(hr:Region.ready md ops l=[i]:=by kernel_rfl):gI P md ops Q S E (f+1) l a w:=BQ hr (by simp) (ji.cons hi h ji.nil)
theorem zdX{f:Nat}{l:Array Bool}{a:Act}{w:World}(h:Q .normal a w)(hr:Region.ready md ops l=[]:=by kernel_rfl):gI P md ops Q S E f l a w:=EW hr h
end
end Go.Proofs.YtkjaajcpbldjoabGreatDoor
namespace Go.Proofs
open YtkjaajcpbldjoabGreatDoor
open Go.Shelf
def Tryz.lays169_ren:Go.Shelf.Ren:=⟨fun|169=>94|n=>n,fun|70=>70|9=>9|0=>0|72=>73|37=>71|127=>174|3=>3|5=>5|n=>n,fun|n=>n⟩
theorem Tryz.Builder_Extra_169:Builder.Extra ah Tryz.lays169_ren:={
 sizeBuilder:=by kernel_rfl
 liesBuilder:=by kernel_rfl
 t5:=cD
 a5:=Tryz.isAgg5
 z5:=Tryz.sizeOf5
 v5:=ahS
 infoByte:=by kernel_rfl
 cellsByte:=by kernel_rfl
 sizeByte:=by kernel_rfl
 neB5:=by decide}
def Tryz.lays156_ren:Go.Shelf.Ren:=⟨fun|156=>179|165=>206|166=>85|169=>94|240=>127|241=>228|276=>164|277=>247|n=>n,fun|31=>29|9=>9|3=>3|4=>4|0=>0|20=>20|72=>73|76=>124|70=>70|37=>71|75=>123|127=>174|164=>223|5=>5|80=>95|n=>n,fun|n=>n⟩
theorem Tryz.lays156:Go.Proofs.Lays.n156 ah Tryz.lays156_ren:={
 mixed:=by kernel_rfl
 f156:=Tryz.func179.trans (congrArg some bo)
 f165:=Tryz.func206.trans (congrArg some bo)
 f166:=Tryz.func85.trans (congrArg some bo)
 f169:=Tryz.func94.trans (congrArg some bo)
 f240:=Tryz.func127.trans (congrArg some bo)
 f241:=Tryz.func228.trans (congrArg some bo)
 f276:=Tryz.func164.trans (congrArg some bo)
 f277:=Tryz.func247.trans (congrArg some bo)
 t0:=aib
 a0:=Tryz.isAgg0
 z0:=Tryz.sizeOf0
 v0:=Tryz.zeroValue0
 t3:=ahK
 a3:=Tryz.isAgg3
 z3:=Tryz.sizeOf3
 v3:=ad1
 t4:=zc
 a4:=Tryz.isAgg4
 z4:=Tryz.sizeOf4
 v4:=ah2
 t9:=bq
 a9:=Tryz.isAgg9
 z9:=Tryz.sizeOf9
 v9:=ah3
 t20:=Tryz.underlying20
 a20:=Tryz.isAgg20
 z20:=Tryz.sizeOf20
 v20:=Tryz.zeroValue20
 t31:=ahP
 a31:=Tryz.isAgg29
 z31:=Tryz.sizeOf29
 v31:=Tryz.zeroValue29
 t37:=cT
 a37:=Tryz.isAgg71
 z37:=Tryz.sizeOf71
 v37:=Tryz.zeroValue71
 t70:=Tryz.underlying70
 a70:=Tryz.isAgg70
 z70:=Tryz.sizeOf70
 v70:=Tryz.zeroValue70
 t72:=Tryz.underlying73
 a72:=Tryz.isAgg73
 z72:=Tryz.sizeOf73
 v72:=Tryz.zeroValue73
 t75:=Tryz.underlying123
 a75:=Tryz.isAgg123
 z75:=Tryz.sizeOf123
 v75:=Tryz.zeroValue123
 t76:=Tryz.underlying124
 a76:=Tryz.isAgg124
 z76:=Tryz.sizeOf124
 v76:=Tryz.zeroValue124
 t127:=Tryz.underlying174
 a127:=Tryz.isAgg174
 z127:=Tryz.sizeOf174
 v127:=Tryz.zeroValue174
 t164:=Tryz.underlying223
 a164:=Tryz.isAgg223
 z164:=Tryz.sizeOf223
 v164:=Tryz.zeroValue223}
theorem Tryz.Builder_Extra_156:Builder.Extra ah Tryz.lays156_ren:={
 sizeBuilder:=by kernel_rfl
 liesBuilder:=by kernel_rfl
 t5:=cD
 a5:=Tryz.isAgg5
 z5:=Tryz.sizeOf5
 v5:=ahS
 infoByte:=by kernel_rfl
 cellsByte:=by kernel_rfl
 sizeByte:=by kernel_rfl
 neB5:=by decide}
open Go.RowKit
theorem Tryz.strings_Join_none(a:Option Addr)(c:Nat)(sep:ByteArray)(w:World):Calls ah 179 #[.slice a 0 c,.string sep] w fun e w'=>e=.returned aG∧w'=w:=Any.strings_Join_none Tryz.lays156 Tryz.Builder_Extra_156 a c sep w
theorem Tryz.strings_Join(bk o c:Nat)(xs:List ByteArray)(sep:ByteArray)(w:World)(hcells:∀(j:Nat)x,xs[j]? =some x→w.cell? ⟨bk,o+j,none⟩=some (.string x))(hbk:bk<w.heap.size)(hN:xs.length≤140737488355328)(hcap:xs.length≤c)(hlen:(Lib.join (xs.map (·.data.toList)) sep.data.toList).length≤140737488355328):Calls ah 179 #[.slice (some ⟨bk,o,none⟩) xs.length c,.string sep] w fun e w'=>e=.returned (.string ⟨(Lib.join (xs.map (·.data.toList)) sep.data.toList).toArray⟩)∧aW w w':=Any.strings_Join Tryz.lays156 Tryz.Builder_Extra_156 bk o c xs sep w hcells hbk hN hcap hlen
def Tryz.lays160_ren:Go.Shelf.Ren:=⟨fun|160=>174|232=>198|231=>197|227=>199|234=>201|233=>200|236=>203|235=>202|228=>223|271=>226|151=>225|197=>224|120=>246|152=>245|260=>244|137=>262|119=>263|224=>254|225=>253|217=>252|266=>266|n=>n,fun|9=>9|4=>4|3=>3|5=>5|117=>265|116=>264|0=>0|124=>268|21=>21|105=>298|46=>151|119=>336|139=>339|138=>338|n=>n,fun|3=>3|4=>4|n=>n⟩
theorem Tryz.lays160:Go.Proofs.Lays.n160 ah Tryz.lays160_ren:={
 mixed:=by kernel_rfl
 f119:=Tryz.func263.trans (congrArg some bo)
 f120:=Tryz.func246.trans (congrArg some bo)
 f137:=Tryz.func262.trans (congrArg some bo)
 f151:=Tryz.func225.trans (congrArg some bo)
 f152:=Tryz.func245.trans (congrArg some bo)
 f160:=Tryz.func174.trans (congrArg some bo)
 f197:=Tryz.func224.trans (congrArg some bo)
 f217:=Tryz.func252.trans (congrArg some bo)
 f224:=Tryz.func254.trans (congrArg some bo)
 f225:=Tryz.func253.trans (congrArg some bo)
 f227:=Tryz.func199.trans (congrArg some bo)
 f228:=Tryz.func223.trans (congrArg some bo)
 f231:=Tryz.func197.trans (congrArg some bo)
 f232:=Tryz.func198.trans (congrArg some bo)
 f233:=Tryz.func200.trans (congrArg some bo)
 f234:=Tryz.func201.trans (congrArg some bo)
 f235:=Tryz.func202.trans (congrArg some bo)
 f236:=Tryz.func203.trans (congrArg some bo)
 f260:=Tryz.func244.trans (congrArg some bo)
 f266:=Tryz.func266.trans (congrArg some bo)
 f271:=Tryz.func226.trans (congrArg some bo)
 t0:=aib
 a0:=Tryz.isAgg0
 z0:=Tryz.sizeOf0
 v0:=Tryz.zeroValue0
 t3:=ahK
 a3:=Tryz.isAgg3
 z3:=Tryz.sizeOf3
 v3:=ad1
 t4:=zc
 a4:=Tryz.isAgg4
 z4:=Tryz.sizeOf4
 v4:=ah2
 t5:=cD
 a5:=Tryz.isAgg5
 z5:=Tryz.sizeOf5
 v5:=ahS
 t9:=bq
 a9:=Tryz.isAgg9
 z9:=Tryz.sizeOf9
 v9:=ah3
 t21:=Tryz.underlying21
 a21:=Tryz.isAgg21
 z21:=Tryz.sizeOf21
 v21:=Tryz.zeroValue21
 t46:=Tryz.underlying151
 a46:=Tryz.isAgg151
 z46:=Tryz.sizeOf151
 v46:=Tryz.zeroValue151
 t105:=Tryz.underlying298
 a105:=Tryz.isAgg298
 z105:=Tryz.sizeOf298
 v105:=Tryz.zeroValue298
 t116:=Tryz.underlying264
 a116:=Tryz.isAgg264
 z116:=Tryz.sizeOf264
 t117:=Tryz.underlying265
 a117:=Tryz.isAgg265
 z117:=Tryz.sizeOf265
 v117:=Tryz.zeroValue265
 t119:=Tryz.underlying336
 a119:=Tryz.isAgg336
 z119:=Tryz.sizeOf336
 t124:=Tryz.underlying268
 a124:=Tryz.isAgg268
 z124:=Tryz.sizeOf268
 v124:=Tryz.zeroValue268
 t138:=Tryz.underlying338
 a138:=Tryz.isAgg338
 z138:=Tryz.sizeOf338
 v138:=Tryz.zeroValue338
 t139:=Tryz.underlying339
 a139:=Tryz.isAgg339
 z139:=Tryz.sizeOf339
 v139:=Tryz.zeroValue339
 g3:=by kernel_rfl
 g4:=by kernel_rfl}
def Tryz.lays283_ren:Go.Shelf.Ren:=⟨fun|283=>229|n=>n,fun|3=>3|9=>9|4=>4|n=>n,fun|n=>n⟩
theorem Tryz.lays283:Go.Proofs.Lays.n283 ah Tryz.lays283_ren:={
 mixed:=by kernel_rfl
 f283:=Tryz.func229.trans (congrArg some bo)
 t3:=ahK
 a3:=Tryz.isAgg3
 z3:=Tryz.sizeOf3
 v3:=ad1
 t4:=zc
 a4:=Tryz.isAgg4
 z4:=Tryz.sizeOf4
 v4:=ah2
 t9:=bq
 a9:=Tryz.isAgg9
 z9:=Tryz.sizeOf9
 v9:=ah3}
open Go.Lib in
theorem Tryz.internal_strconv_small(i:Nat)(h:i<100)(w:World):Calls ah 229 #[.int .i64 i] w fun e w'=>e=.returned (.string ⟨(cP i).toArray⟩)∧w'=w:=Any.internal_strconv_small Tryz.lays283 i h w
def Tryz.laysM284_ren:Go.Shelf.Ren:=⟨fun|284=>230|129=>144|317=>248|318=>249|n=>n,fun|53=>22|3=>3|212=>326|0=>0|4=>4|46=>151|5=>5|9=>9|n=>n,fun|17=>1|n=>n⟩
theorem Tryz.laysM284:Go.Proofs.LaysM.n284 ah Tryz.laysM284_ren:={
 mixed:=by kernel_rfl
 f129:=Tryz.func144.trans (congrArg some bo)
 f284:=Tryz.func230.trans (congrArg some bo)
 f317:=Tryz.func248.trans (congrArg some bo)
 f318:=Tryz.func249.trans (congrArg some bo)
 t0:=aib
 a0:=Tryz.isAgg0
 z0:=Tryz.sizeOf0
 v0:=Tryz.zeroValue0
 t3:=ahK
 a3:=Tryz.isAgg3
 z3:=Tryz.sizeOf3
 v3:=ad1
 t4:=zc
 a4:=Tryz.isAgg4
 z4:=Tryz.sizeOf4
 v4:=ah2
 t5:=cD
 a5:=Tryz.isAgg5
 z5:=Tryz.sizeOf5
 v5:=ahS
 t9:=bq
 a9:=Tryz.isAgg9
 z9:=Tryz.sizeOf9
 v9:=ah3
 t46:=Tryz.underlying151
 a46:=Tryz.isAgg151
 z46:=Tryz.sizeOf151
 v46:=Tryz.zeroValue151
 t53:=ahW
 a53:=Tryz.isAgg22
 z53:=Tryz.sizeOf22
 v53:=Tryz.zeroValue22
 t212:=Tryz.underlying326
 a212:=Tryz.isAgg326
 z212:=Tryz.sizeOf326
 v212:=Tryz.zeroValue326
 g17:=by kernel_rfl
 i0:=by kernel_rfl
 i3:=by kernel_rfl
 i4:=by kernel_rfl
 i5:=by kernel_rfl
 i9:=by kernel_rfl
 i46:=by kernel_rfl
 i53:=by kernel_rfl
 i212:=by kernel_rfl
 m17:=by kernel_rfl}
open Go.Lib in
theorem Tryz.internal_strconv_numDigits(u:Nat)(h1:1≤u)(h2:u<18446744073709551616)(w:World)(htab:Lib.TabIs ah w "internal/strconv.uint64pow10" .u64 Lib.pow10Tab):Calls ah 230 #[.int .u64 u] w fun e w'=>e=.returned (.int .i64 (Lib.nDigits u))∧w'=w:=Any.internal_strconv_numDigits Tryz.laysM284 u h1 h2 w htab
def Tryz.lays285_ren:Go.Shelf.Ren:=⟨fun|285=>231|n=>n,fun|37=>71|53=>22|3=>3|4=>4|51=>173|9=>9|5=>5|0=>0|n=>n,fun|n=>n⟩
theorem Tryz.lays285:Go.Proofs.Lays.n285 ah Tryz.lays285_ren:={
 mixed:=by kernel_rfl
 f285:=Tryz.func231.trans (congrArg some bo)
 t0:=aib
 a0:=Tryz.isAgg0
 z0:=Tryz.sizeOf0
 v0:=Tryz.zeroValue0
 t3:=ahK
 a3:=Tryz.isAgg3
 z3:=Tryz.sizeOf3
 v3:=ad1
 t4:=zc
 a4:=Tryz.isAgg4
 z4:=Tryz.sizeOf4
 v4:=ah2
 t5:=cD
 a5:=Tryz.isAgg5
 z5:=Tryz.sizeOf5
 v5:=ahS
 t9:=bq
 a9:=Tryz.isAgg9
 z9:=Tryz.sizeOf9
 v9:=ah3
 t37:=cT
 a37:=Tryz.isAgg71
 z37:=Tryz.sizeOf71
 v37:=Tryz.zeroValue71
 t51:=Tryz.underlying173
 a51:=Tryz.isAgg173
 z51:=Tryz.sizeOf173
 v51:=Tryz.zeroValue173
 t53:=ahW
 a53:=Tryz.isAgg22
 z53:=Tryz.sizeOf22
 v53:=Tryz.zeroValue22}
open Go.RowKit Go.Sort Go.Lib in
theorem Tryz.internal_strconv_formatBase10(blk off cap:Nat)(u:Nat)(d:Array UInt8)(w:World)(hH:Holds (fun(b:UInt8)=>Value.int .u8 (b.toNat:Int)) w blk off d)(hu:u<10^d.size)(hu64:u<18446744073709551616)(hsz:d.size<4611686018427387904):Calls ah 231 #[.slice (some ⟨blk,off,none⟩) d.size cap,.int .u64 u] w fun e w'=>e=.returned (.tuple #[])∧∃(n v':Nat)(dk:Array UInt8),w'=(putRow (fun(b:UInt8)=>Value.int .u8 (b.toNat:Int)) w blk off dk).drewN n∧FmtInv d.size u 0 v' dk:=Any.internal_strconv_formatBase10 Tryz.lays285 blk off cap u d w hH hu hu64 hsz
def Tryz.laysM171_ren:Go.Shelf.Ren:=⟨fun|171=>178|243=>205|246=>227|283=>229|284=>230|285=>231|286=>232|129=>144|317=>248|318=>249|319=>250|320=>251|337=>264|338=>265|n=>n,fun|3=>3|9=>9|2=>2|4=>4|171=>302|0=>0|53=>22|37=>71|5=>5|173=>304|212=>326|51=>173|20=>20|213=>327|46=>151|232=>238|233=>237|n=>n,fun|17=>1|18=>5|19=>6|n=>n⟩
theorem Tryz.laysM171:Go.Proofs.LaysM.n171 ah Tryz.laysM171_ren:={
 mixed:=by kernel_rfl
 f129:=Tryz.func144.trans (congrArg some bo)
 f171:=Tryz.func178.trans (congrArg some bo)
 f243:=Tryz.func205.trans (congrArg some bo)
 f246:=Tryz.func227.trans (congrArg some bo)
 f283:=Tryz.func229.trans (congrArg some bo)
 f284:=Tryz.func230.trans (congrArg some bo)
 f285:=Tryz.func231.trans (congrArg some bo)
 f286:=Tryz.func232.trans (congrArg some bo)
 f317:=Tryz.func248.trans (congrArg some bo)
 f318:=Tryz.func249.trans (congrArg some bo)
 f319:=Tryz.func250.trans (congrArg some bo)
 f320:=Tryz.func251.trans (congrArg some bo)
 f337:=Tryz.func264.trans (congrArg some bo)
 f338:=Tryz.func265.trans (congrArg some bo)
 t0:=aib
 a0:=Tryz.isAgg0
 z0:=Tryz.sizeOf0
 v0:=Tryz.zeroValue0
 t2:=Tryz.underlying2
 a2:=Tryz.isAgg2
 z2:=Tryz.sizeOf2
 v2:=Tryz.zeroValue2
 t3:=ahK
 a3:=Tryz.isAgg3
 z3:=Tryz.sizeOf3
 v3:=ad1
 t4:=zc
 a4:=Tryz.isAgg4
 z4:=Tryz.sizeOf4
 v4:=ah2
 t5:=cD
 a5:=Tryz.isAgg5
 z5:=Tryz.sizeOf5
 v5:=ahS
 t9:=bq
 a9:=Tryz.isAgg9
 z9:=Tryz.sizeOf9
 v9:=ah3
 t20:=Tryz.underlying20
 a20:=Tryz.isAgg20
 z20:=Tryz.sizeOf20
 v20:=Tryz.zeroValue20
 t37:=cT
 a37:=Tryz.isAgg71
 z37:=Tryz.sizeOf71
 v37:=Tryz.zeroValue71
 t46:=Tryz.underlying151
 a46:=Tryz.isAgg151
 z46:=Tryz.sizeOf151
 v46:=Tryz.zeroValue151
 t51:=Tryz.underlying173
 a51:=Tryz.isAgg173
 z51:=Tryz.sizeOf173
 v51:=Tryz.zeroValue173
 t53:=ahW
 a53:=Tryz.isAgg22
 z53:=Tryz.sizeOf22
 v53:=Tryz.zeroValue22
 t171:=Tryz.underlying302
 a171:=Tryz.isAgg302
 z171:=Tryz.sizeOf302
 v171:=Tryz.zeroValue302
 t173:=Tryz.underlying304
 a173:=Tryz.isAgg304
 z173:=Tryz.sizeOf304
 v173:=Tryz.zeroValue304
 t212:=Tryz.underlying326
 a212:=Tryz.isAgg326
 z212:=Tryz.sizeOf326
 v212:=Tryz.zeroValue326
 t213:=Tryz.underlying327
 a213:=Tryz.isAgg327
 z213:=Tryz.sizeOf327
 t232:=Tryz.underlying238
 a232:=Tryz.isAgg238
 z232:=Tryz.sizeOf238
 v232:=Tryz.zeroValue238
 t233:=Tryz.underlying237
 a233:=Tryz.isAgg237
 z233:=Tryz.sizeOf237
 v233:=Tryz.zeroValue237
 g17:=by kernel_rfl
 g18:=by kernel_rfl
 g19:=by kernel_rfl
 i0:=by kernel_rfl
 i2:=by kernel_rfl
 i3:=by kernel_rfl
 i4:=by kernel_rfl
 i5:=by kernel_rfl
 i9:=by kernel_rfl
 i20:=by kernel_rfl
 i37:=by kernel_rfl
 i46:=by kernel_rfl
 i51:=by kernel_rfl
 i53:=by kernel_rfl
 i171:=by kernel_rfl
 i173:=by kernel_rfl
 i212:=by kernel_rfl
 i232:=by kernel_rfl
 i233:=by kernel_rfl
 m17:=by kernel_rfl
 m18:=by kernel_rfl
 m19:=by kernel_rfl}
open Go.RowKit Go.Sort Go.Lib in
theorem Tryz.strconv_Itoa(n:Int)(h0: -9223372036854775808≤n)(h1:n≤9223372036854775807)(w:World)(htab:Lib.TabIs ah w "internal/strconv.uint64pow10" .u64 Lib.pow10Tab):Calls ah 178 #[.int .i64 n] w fun e w'=>e=.returned (.string ⟨(Lib.itoa n).toArray⟩)∧∃k os,w'=grow (w.drewN k) os:=Any.strconv_Itoa Tryz.laysM171 n h0 h1 w htab
def Tryz.laysC245_ren:Go.Shelf.Ren:=⟨fun|245=>260|279=>271|280=>272|281=>273|282=>274|316=>277|171=>178|205=>278|243=>205|246=>227|283=>229|284=>230|285=>231|286=>232|129=>144|317=>248|318=>249|319=>250|320=>251|337=>264|338=>265|n=>n,fun|9=>9|3=>3|75=>123|167=>343|4=>4|168=>345|210=>352|37=>71|0=>0|127=>174|145=>356|143=>354|2=>2|171=>302|53=>22|5=>5|173=>304|212=>326|51=>173|20=>20|213=>327|46=>151|232=>238|233=>237|80=>95|n=>n,fun|15=>7|16=>8|17=>1|18=>5|19=>6|n=>n⟩
theorem Tryz.laysC245:Go.Proofs.LaysC.n245 ah Tryz.laysC245_ren:={
 mixed:=by kernel_rfl
 f129:=Tryz.func144.trans (congrArg some bo)
 f171:=Tryz.func178.trans (congrArg some bo)
 f205:=Tryz.func278.trans (congrArg some bo)
 f243:=Tryz.func205.trans (congrArg some bo)
 f245:=Tryz.func260.trans (congrArg some bo)
 f246:=Tryz.func227.trans (congrArg some bo)
 f279:=Tryz.func271.trans (congrArg some bo)
 f280:=Tryz.func272.trans (congrArg some bo)
 f281:=Tryz.func273.trans (congrArg some bo)
 f282:=Tryz.func274.trans (congrArg some bo)
 f283:=Tryz.func229.trans (congrArg some bo)
 f284:=Tryz.func230.trans (congrArg some bo)
 f285:=Tryz.func231.trans (congrArg some bo)
 f286:=Tryz.func232.trans (congrArg some bo)
 f316:=Tryz.func277.trans (congrArg some bo)
 f317:=Tryz.func248.trans (congrArg some bo)
 f318:=Tryz.func249.trans (congrArg some bo)
 f319:=Tryz.func250.trans (congrArg some bo)
 f320:=Tryz.func251.trans (congrArg some bo)
 f337:=Tryz.func264.trans (congrArg some bo)
 f338:=Tryz.func265.trans (congrArg some bo)
 t0:=aib
 a0:=Tryz.isAgg0
 z0:=Tryz.sizeOf0
 v0:=Tryz.zeroValue0
 t2:=Tryz.underlying2
 a2:=Tryz.isAgg2
 z2:=Tryz.sizeOf2
 v2:=Tryz.zeroValue2
 t3:=ahK
 a3:=Tryz.isAgg3
 z3:=Tryz.sizeOf3
 v3:=ad1
 t4:=zc
 a4:=Tryz.isAgg4
 z4:=Tryz.sizeOf4
 v4:=ah2
 t5:=cD
 a5:=Tryz.isAgg5
 z5:=Tryz.sizeOf5
 v5:=ahS
 t9:=bq
 a9:=Tryz.isAgg9
 z9:=Tryz.sizeOf9
 v9:=ah3
 t20:=Tryz.underlying20
 a20:=Tryz.isAgg20
 z20:=Tryz.sizeOf20
 v20:=Tryz.zeroValue20
 t37:=cT
 a37:=Tryz.isAgg71
 z37:=Tryz.sizeOf71
 v37:=Tryz.zeroValue71
 t46:=Tryz.underlying151
 a46:=Tryz.isAgg151
 z46:=Tryz.sizeOf151
 v46:=Tryz.zeroValue151
 t51:=Tryz.underlying173
 a51:=Tryz.isAgg173
 z51:=Tryz.sizeOf173
 v51:=Tryz.zeroValue173
 t53:=ahW
 a53:=Tryz.isAgg22
 z53:=Tryz.sizeOf22
 v53:=Tryz.zeroValue22
 t75:=Tryz.underlying123
 a75:=Tryz.isAgg123
 z75:=Tryz.sizeOf123
 v75:=Tryz.zeroValue123
 t127:=Tryz.underlying174
 a127:=Tryz.isAgg174
 z127:=Tryz.sizeOf174
 v127:=Tryz.zeroValue174
 t143:=Tryz.underlying354
 a143:=Tryz.isAgg354
 z143:=Tryz.sizeOf354
 v143:=Tryz.zeroValue354
 t145:=Tryz.underlying356
 a145:=Tryz.isAgg356
 z145:=Tryz.sizeOf356
 v145:=Tryz.zeroValue356
 t167:=Tryz.underlying343
 a167:=Tryz.isAgg343
 z167:=Tryz.sizeOf343
 v167:=Tryz.zeroValue343
 t168:=Tryz.underlying345
 a168:=Tryz.isAgg345
 z168:=Tryz.sizeOf345
 v168:=Tryz.zeroValue345
 t171:=Tryz.underlying302
 a171:=Tryz.isAgg302
 z171:=Tryz.sizeOf302
 v171:=Tryz.zeroValue302
 t173:=Tryz.underlying304
 a173:=Tryz.isAgg304
 z173:=Tryz.sizeOf304
 v173:=Tryz.zeroValue304
 t210:=Tryz.underlying352
 a210:=Tryz.isAgg352
 z210:=Tryz.sizeOf352
 v210:=Tryz.zeroValue352
 t212:=Tryz.underlying326
 a212:=Tryz.isAgg326
 z212:=Tryz.sizeOf326
 v212:=Tryz.zeroValue326
 t213:=Tryz.underlying327
 a213:=Tryz.isAgg327
 z213:=Tryz.sizeOf327
 t232:=Tryz.underlying238
 a232:=Tryz.isAgg238
 z232:=Tryz.sizeOf238
 v232:=Tryz.zeroValue238
 t233:=Tryz.underlying237
 a233:=Tryz.isAgg237
 z233:=Tryz.sizeOf237
 v233:=Tryz.zeroValue237
 g15:=by kernel_rfl
 g16:=by kernel_rfl
 g17:=by kernel_rfl
 g18:=by kernel_rfl
 g19:=by kernel_rfl
 t80:=Tryz.underlying95
 a80:=Tryz.isAgg95
 z80:=Tryz.sizeOf95
 v80:=Tryz.zeroValue95
 i0:=by kernel_rfl
 i2:=by kernel_rfl
 i3:=by kernel_rfl
 i4:=by kernel_rfl
 i5:=by kernel_rfl
 i9:=by kernel_rfl
 i20:=by kernel_rfl
 i37:=by kernel_rfl
 i46:=by kernel_rfl
 i51:=by kernel_rfl
 i53:=by kernel_rfl
 i75:=by kernel_rfl
 i80:=by kernel_rfl
 i127:=by kernel_rfl
 i143:=by kernel_rfl
 i145:=by kernel_rfl
 i167:=by kernel_rfl
 i168:=by kernel_rfl
 i171:=by kernel_rfl
 i173:=by kernel_rfl
 i210:=by kernel_rfl
 i212:=by kernel_rfl
 i232:=by kernel_rfl
 i233:=by kernel_rfl
 m15:=by kernel_rfl
 m16:=by kernel_rfl
 m17:=by kernel_rfl
 m18:=by kernel_rfl
 m19:=by kernel_rfl
 c0:=by kernel_rfl
 c2:=by kernel_rfl
 c3:=by kernel_rfl
 c4:=by kernel_rfl
 c5:=by kernel_rfl
 c9:=by kernel_rfl
 c20:=by kernel_rfl
 c37:=by kernel_rfl
 c46:=by kernel_rfl
 c51:=by kernel_rfl
 c53:=by kernel_rfl
 c75:=by kernel_rfl
 c80:=by kernel_rfl
 c127:=by kernel_rfl
 c143:=by kernel_rfl
 c145:=by kernel_rfl
 c167:=by kernel_rfl
 c168:=by kernel_rfl
 c171:=by kernel_rfl
 c173:=by kernel_rfl
 c210:=by kernel_rfl
 c212:=by kernel_rfl
 c213:=by kernel_rfl
 c232:=by kernel_rfl
 c233:=by kernel_rfl}
theorem Tryz.strconv_toError_syntax(fn s:ByteArray)(base bits:Int)(ev:Value)(w:World)(hlim:s.size≤281474976710656)(hv:w.cell? ⟨7,0,none⟩=some ev)(hev:ev=.nilIface∨∃te pe,ev=.iface te pe):Calls ah 260 #[.string fn,.string s,.int .i64 base,.int .i64 bits,.iface 343 (.int .i64 2)] w fun e w'=>∃N,e=.returned (.iface 345 (.pointer (some ⟨N,0,none⟩)))∧w.heap.size≤N∧w'.heap[N]? =some (.cells #[.string fn,.string s,ev] 352 (0,0))∧aW w w':=Any.strconv_toError_syntax Tryz.laysC245 fn s base bits ev w hlim hv hev
theorem Tryz.strconv_toError_range(fn s:ByteArray)(base bits:Int)(ev:Value)(w:World)(hlim:s.size≤281474976710656)(hv:w.cell? ⟨8,0,none⟩=some ev)(hev:ev=.nilIface∨∃te pe,ev=.iface te pe):Calls ah 260 #[.string fn,.string s,.int .i64 base,.int .i64 bits,.iface 343 (.int .i64 1)] w fun e w'=>∃N,e=.returned (.iface 345 (.pointer (some ⟨N,0,none⟩)))∧w.heap.size≤N∧w'.heap[N]? =some (.cells #[.string fn,.string s,ev] 352 (0,0))∧aW w w':=Any.strconv_toError_range Tryz.laysC245 fn s base bits ev w hlim hv hev
def Tryz.laysPu14_ren:Go.Shelf.Ren:=⟨fun|14=>238|16=>259|17=>260|19=>269|20=>270|21=>271|22=>272|23=>273|24=>274|25=>277|27=>178|26=>278|28=>205|29=>227|30=>229|31=>230|32=>231|33=>232|35=>144|34=>248|36=>249|37=>250|38=>251|39=>264|40=>265|n=>n,fun|9=>9|3=>3|22=>22|24=>123|25=>312|4=>4|34=>343|5=>5|36=>151|37=>71|0=>0|39=>345|21=>21|44=>352|47=>174|50=>356|48=>354|2=>2|52=>302|55=>304|59=>326|60=>173|20=>20|61=>327|65=>238|66=>237|67=>95|n=>n,fun|0=>7|1=>8|2=>1|3=>5|4=>6|n=>n⟩
theorem Tryz.laysPu14:Go.Proofs.LaysPu.n14 ah Tryz.laysPu14_ren:={
 mixed:=by kernel_rfl
 f14:=Tryz.func238.trans (congrArg some bo)
 f16:=Tryz.func259.trans (congrArg some bo)
 f17:=Tryz.func260.trans (congrArg some bo)
 f19:=Tryz.func269.trans (congrArg some bo)
 f20:=Tryz.func270.trans (congrArg some bo)
 f21:=Tryz.func271.trans (congrArg some bo)
 f22:=Tryz.func272.trans (congrArg some bo)
 f23:=Tryz.func273.trans (congrArg some bo)
 f24:=Tryz.func274.trans (congrArg some bo)
 f25:=Tryz.func277.trans (congrArg some bo)
 f26:=Tryz.func278.trans (congrArg some bo)
 f27:=Tryz.func178.trans (congrArg some bo)
 f28:=Tryz.func205.trans (congrArg some bo)
 f29:=Tryz.func227.trans (congrArg some bo)
 f30:=Tryz.func229.trans (congrArg some bo)
 f31:=Tryz.func230.trans (congrArg some bo)
 f32:=Tryz.func231.trans (congrArg some bo)
 f33:=Tryz.func232.trans (congrArg some bo)
 f34:=Tryz.func248.trans (congrArg some bo)
 f35:=Tryz.func144.trans (congrArg some bo)
 f36:=Tryz.func249.trans (congrArg some bo)
 f37:=Tryz.func250.trans (congrArg some bo)
 f38:=Tryz.func251.trans (congrArg some bo)
 f39:=Tryz.func264.trans (congrArg some bo)
 f40:=Tryz.func265.trans (congrArg some bo)
 t0:=aib
 a0:=Tryz.isAgg0
 z0:=Tryz.sizeOf0
 v0:=Tryz.zeroValue0
 i0:=by kernel_rfl
 t2:=Tryz.underlying2
 a2:=Tryz.isAgg2
 z2:=Tryz.sizeOf2
 v2:=Tryz.zeroValue2
 i2:=by kernel_rfl
 t3:=ahK
 a3:=Tryz.isAgg3
 z3:=Tryz.sizeOf3
 v3:=ad1
 i3:=by kernel_rfl
 t4:=zc
 a4:=Tryz.isAgg4
 z4:=Tryz.sizeOf4
 v4:=ah2
 i4:=by kernel_rfl
 t5:=cD
 a5:=Tryz.isAgg5
 z5:=Tryz.sizeOf5
 v5:=ahS
 i5:=by kernel_rfl
 t9:=bq
 a9:=Tryz.isAgg9
 z9:=Tryz.sizeOf9
 v9:=ah3
 i9:=by kernel_rfl
 t20:=Tryz.underlying20
 a20:=Tryz.isAgg20
 z20:=Tryz.sizeOf20
 v20:=Tryz.zeroValue20
 i20:=by kernel_rfl
 t21:=Tryz.underlying21
 a21:=Tryz.isAgg21
 z21:=Tryz.sizeOf21
 v21:=Tryz.zeroValue21
 i21:=by kernel_rfl
 t22:=ahW
 a22:=Tryz.isAgg22
 z22:=Tryz.sizeOf22
 v22:=Tryz.zeroValue22
 i22:=by kernel_rfl
 t24:=Tryz.underlying123
 a24:=Tryz.isAgg123
 z24:=Tryz.sizeOf123
 v24:=Tryz.zeroValue123
 i24:=by kernel_rfl
 t25:=Tryz.underlying312
 a25:=Tryz.isAgg312
 z25:=Tryz.sizeOf312
 v25:=Tryz.zeroValue312
 i25:=by kernel_rfl
 t34:=Tryz.underlying343
 a34:=Tryz.isAgg343
 z34:=Tryz.sizeOf343
 v34:=Tryz.zeroValue343
 i34:=by kernel_rfl
 c34:=by kernel_rfl
 t36:=Tryz.underlying151
 a36:=Tryz.isAgg151
 z36:=Tryz.sizeOf151
 v36:=Tryz.zeroValue151
 i36:=by kernel_rfl
 t37:=cT
 a37:=Tryz.isAgg71
 z37:=Tryz.sizeOf71
 v37:=Tryz.zeroValue71
 i37:=by kernel_rfl
 t39:=Tryz.underlying345
 a39:=Tryz.isAgg345
 z39:=Tryz.sizeOf345
 v39:=Tryz.zeroValue345
 i39:=by kernel_rfl
 t44:=Tryz.underlying352
 a44:=Tryz.isAgg352
 z44:=Tryz.sizeOf352
 v44:=Tryz.zeroValue352
 i44:=by kernel_rfl
 t47:=Tryz.underlying174
 a47:=Tryz.isAgg174
 z47:=Tryz.sizeOf174
 v47:=Tryz.zeroValue174
 i47:=by kernel_rfl
 t48:=Tryz.underlying354
 a48:=Tryz.isAgg354
 z48:=Tryz.sizeOf354
 v48:=Tryz.zeroValue354
 i48:=by kernel_rfl
 t50:=Tryz.underlying356
 a50:=Tryz.isAgg356
 z50:=Tryz.sizeOf356
 v50:=Tryz.zeroValue356
 i50:=by kernel_rfl
 t52:=Tryz.underlying302
 a52:=Tryz.isAgg302
 z52:=Tryz.sizeOf302
 v52:=Tryz.zeroValue302
 i52:=by kernel_rfl
 t55:=Tryz.underlying304
 a55:=Tryz.isAgg304
 z55:=Tryz.sizeOf304
 v55:=Tryz.zeroValue304
 i55:=by kernel_rfl
 t59:=Tryz.underlying326
 a59:=Tryz.isAgg326
 z59:=Tryz.sizeOf326
 v59:=Tryz.zeroValue326
 i59:=by kernel_rfl
 t60:=Tryz.underlying173
 a60:=Tryz.isAgg173
 z60:=Tryz.sizeOf173
 v60:=Tryz.zeroValue173
 i60:=by kernel_rfl
 t61:=Tryz.underlying327
 a61:=Tryz.isAgg327
 z61:=Tryz.sizeOf327
 t65:=Tryz.underlying238
 a65:=Tryz.isAgg238
 z65:=Tryz.sizeOf238
 v65:=Tryz.zeroValue238
 i65:=by kernel_rfl
 t66:=Tryz.underlying237
 a66:=Tryz.isAgg237
 z66:=Tryz.sizeOf237
 v66:=Tryz.zeroValue237
 i66:=by kernel_rfl
 t67:=Tryz.underlying95
 a67:=Tryz.isAgg95
 z67:=Tryz.sizeOf95
 v67:=Tryz.zeroValue95
 i67:=by kernel_rfl
 g0:=by kernel_rfl
 m0:=by kernel_rfl
 g1:=by kernel_rfl
 m1:=by kernel_rfl
 g2:=by kernel_rfl
 m2:=by kernel_rfl
 g3:=by kernel_rfl
 m3:=by kernel_rfl
 g4:=by kernel_rfl
 m4:=by kernel_rfl}
theorem Tryz.strconv_ParseUint_10_at64_ok(s:ByteArray)(hmax:s.size≤9223372036854775806)(u:Nat)(h:aig 64 s.data.toList=.ok u)(w:World):Calls ah 238 #[.string s,.int .i64 10,.int .i64 64] w fun e w'=>e=.returned (.tuple #[.int .u64 u,.nilIface])∧(w'=w∨w'=Lib.bytesWorld w 5 s):=Any.strconv_ParseUint_10_at64_ok Tryz.laysPu14 s hmax u h w
theorem Tryz.strconv_ParseUint_10_at64_range(s:ByteArray)(hlim:s.size≤281474976710656)(h:aig 64 s.data.toList=.range)(ev:Value)(w:World)(hv:w.cell? ⟨8,0,none⟩=some ev)(hev:ev=.nilIface∨∃te pe,ev=.iface te pe):Calls ah 238 #[.string s,.int .i64 10,.int .i64 64] w fun e w'=>∃N,e=.returned (.tuple #[.int .u64 18446744073709551615,.iface 345 (.pointer (some ⟨N,0,none⟩))])∧w.heap.size≤N∧w'.heap[N]? =some (.cells #[.string ⟨#[80,97,114,115,101,85,105,110,116]⟩,.string s,ev] 352 (0,0))∧aW w w':=Any.strconv_ParseUint_10_at64_range Tryz.laysPu14 s hlim h ev w hv hev
theorem Tryz.strconv_ParseUint_10_at16_ok(s:ByteArray)(hmax:s.size≤9223372036854775806)(u:Nat)(h:aig 16 s.data.toList=.ok u)(w:World):Calls ah 238 #[.string s,.int .i64 10,.int .i64 16] w fun e w'=>e=.returned (.tuple #[.int .u64 u,.nilIface])∧(w'=w∨w'=Lib.bytesWorld w 5 s):=Any.strconv_ParseUint_10_at16_ok Tryz.laysPu14 s hmax u h w
theorem Tryz.strconv_ParseUint_10_at16_range(s:ByteArray)(hlim:s.size≤281474976710656)(h:aig 16 s.data.toList=.range)(ev:Value)(w:World)(hv:w.cell? ⟨8,0,none⟩=some ev)(hev:ev=.nilIface∨∃te pe,ev=.iface te pe):Calls ah 238 #[.string s,.int .i64 10,.int .i64 16] w fun e w'=>∃N,e=.returned (.tuple #[.int .u64 65535,.iface 345 (.pointer (some ⟨N,0,none⟩))])∧w.heap.size≤N∧w'.heap[N]? =some (.cells #[.string ⟨#[80,97,114,115,101,85,105,110,116]⟩,.string s,ev] 352 (0,0))∧aW w w':=Any.strconv_ParseUint_10_at16_range Tryz.laysPu14 s hlim h ev w hv hev
theorem Tryz.strconv_ParseUint_10_at8_ok(s:ByteArray)(hmax:s.size≤9223372036854775806)(u:Nat)(h:aig 8 s.data.toList=.ok u)(w:World):Calls ah 238 #[.string s,.int .i64 10,.int .i64 8] w fun e w'=>e=.returned (.tuple #[.int .u64 u,.nilIface])∧(w'=w∨w'=Lib.bytesWorld w 5 s):=Any.strconv_ParseUint_10_at8_ok Tryz.laysPu14 s hmax u h w
theorem Tryz.strconv_ParseUint_10_at8_range(s:ByteArray)(hlim:s.size≤281474976710656)(h:aig 8 s.data.toList=.range)(ev:Value)(w:World)(hv:w.cell? ⟨8,0,none⟩=some ev)(hev:ev=.nilIface∨∃te pe,ev=.iface te pe):Calls ah 238 #[.string s,.int .i64 10,.int .i64 8] w fun e w'=>∃N,e=.returned (.tuple #[.int .u64 255,.iface 345 (.pointer (some ⟨N,0,none⟩))])∧w.heap.size≤N∧w'.heap[N]? =some (.cells #[.string ⟨#[80,97,114,115,101,85,105,110,116]⟩,.string s,ev] 352 (0,0))∧aW w w':=Any.strconv_ParseUint_10_at8_range Tryz.laysPu14 s hlim h ev w hv hev
def Tryz.lays145_ren:Go.Shelf.Ren:=⟨fun|145=>236|220=>256|219=>235|217=>252|225=>253|224=>254|267=>255|266=>266|314=>267|n=>n,fun|9=>9|4=>4|59=>308|3=>3|5=>5|46=>151|146=>340|51=>173|n=>n,fun|1=>2|n=>n⟩
theorem Tryz.lays145:Go.Proofs.Lays.n145 ah Tryz.lays145_ren:={
 mixed:=by kernel_rfl
 f145:=Tryz.func236.trans (congrArg some bo)
 f217:=Tryz.func252.trans (congrArg some bo)
 f219:=Tryz.func235.trans (congrArg some bo)
 f220:=Tryz.func256.trans (congrArg some bo)
 f224:=Tryz.func254.trans (congrArg some bo)
 f225:=Tryz.func253.trans (congrArg some bo)
 f266:=Tryz.func266.trans (congrArg some bo)
 f267:=Tryz.func255.trans (congrArg some bo)
 f314:=Tryz.func267.trans (congrArg some bo)
 t3:=ahK
 a3:=Tryz.isAgg3
 z3:=Tryz.sizeOf3
 v3:=ad1
 t4:=zc
 a4:=Tryz.isAgg4
 z4:=Tryz.sizeOf4
 v4:=ah2
 t5:=cD
 a5:=Tryz.isAgg5
 z5:=Tryz.sizeOf5
 v5:=ahS
 t9:=bq
 a9:=Tryz.isAgg9
 z9:=Tryz.sizeOf9
 v9:=ah3
 t46:=Tryz.underlying151
 a46:=Tryz.isAgg151
 z46:=Tryz.sizeOf151
 v46:=Tryz.zeroValue151
 t51:=Tryz.underlying173
 a51:=Tryz.isAgg173
 z51:=Tryz.sizeOf173
 v51:=Tryz.zeroValue173
 t59:=Tryz.underlying308
 a59:=Tryz.isAgg308
 z59:=Tryz.sizeOf308
 v59:=Tryz.zeroValue308
 t146:=Tryz.underlying340
 a146:=Tryz.isAgg340
 z146:=Tryz.sizeOf340
 v146:=Tryz.zeroValue340
 g1:=by kernel_rfl}
open Go.RowKit Go.Lib in
theorem Tryz.strings_Cut(s sep:ByteArray)(m:Int)(w:World)(hs:s.size<4294967281)(hm:w.cell? ⟨2,0,none⟩=some (.int .i64 m)):Calls ah 236 #[.string s,.string sep] w fun e w'=>e=.returned (.tuple #[.string ⟨(Lib.cut s.data.toList sep.data.toList).1.toArray⟩,.string ⟨(Lib.cut s.data.toList sep.data.toList).2.1.toArray⟩,.bool (Lib.cut s.data.toList sep.data.toList).2.2])∧∃n,w'=w.drewN n:=Any.strings_Cut Tryz.lays145 s sep m w hs hm
def Tryz.lays146_ren:Go.Shelf.Ren:=⟨fun|146=>158|221=>183|268=>208|138=>209|143=>210|195=>233|197=>224|218=>234|219=>235|260=>244|217=>252|225=>253|224=>254|267=>255|266=>266|314=>267|n=>n,fun|9=>9|31=>29|3=>3|4=>4|0=>0|105=>298|21=>21|5=>5|46=>151|119=>336|139=>339|138=>338|146=>340|51=>173|n=>n,fun|1=>2|3=>3|4=>4|n=>n⟩
theorem Tryz.lays146:Go.Proofs.Lays.n146 ah Tryz.lays146_ren:={
 mixed:=by kernel_rfl
 f138:=Tryz.func209.trans (congrArg some bo)
 f143:=Tryz.func210.trans (congrArg some bo)
 f146:=Tryz.func158.trans (congrArg some bo)
 f195:=Tryz.func233.trans (congrArg some bo)
 f197:=Tryz.func224.trans (congrArg some bo)
 f217:=Tryz.func252.trans (congrArg some bo)
 f218:=Tryz.func234.trans (congrArg some bo)
 f219:=Tryz.func235.trans (congrArg some bo)
 f221:=Tryz.func183.trans (congrArg some bo)
 f224:=Tryz.func254.trans (congrArg some bo)
 f225:=Tryz.func253.trans (congrArg some bo)
 f260:=Tryz.func244.trans (congrArg some bo)
 f266:=Tryz.func266.trans (congrArg some bo)
 f267:=Tryz.func255.trans (congrArg some bo)
 f268:=Tryz.func208.trans (congrArg some bo)
 f314:=Tryz.func267.trans (congrArg some bo)
 t0:=aib
 a0:=Tryz.isAgg0
 z0:=Tryz.sizeOf0
 v0:=Tryz.zeroValue0
 t3:=ahK
 a3:=Tryz.isAgg3
 z3:=Tryz.sizeOf3
 v3:=ad1
 t4:=zc
 a4:=Tryz.isAgg4
 z4:=Tryz.sizeOf4
 v4:=ah2
 t5:=cD
 a5:=Tryz.isAgg5
 z5:=Tryz.sizeOf5
 v5:=ahS
 t9:=bq
 a9:=Tryz.isAgg9
 z9:=Tryz.sizeOf9
 v9:=ah3
 t21:=Tryz.underlying21
 a21:=Tryz.isAgg21
 z21:=Tryz.sizeOf21
 v21:=Tryz.zeroValue21
 t31:=ahP
 a31:=Tryz.isAgg29
 z31:=Tryz.sizeOf29
 v31:=Tryz.zeroValue29
 t46:=Tryz.underlying151
 a46:=Tryz.isAgg151
 z46:=Tryz.sizeOf151
 v46:=Tryz.zeroValue151
 t51:=Tryz.underlying173
 a51:=Tryz.isAgg173
 z51:=Tryz.sizeOf173
 v51:=Tryz.zeroValue173
 t105:=Tryz.underlying298
 a105:=Tryz.isAgg298
 z105:=Tryz.sizeOf298
 v105:=Tryz.zeroValue298
 t119:=Tryz.underlying336
 a119:=Tryz.isAgg336
 z119:=Tryz.sizeOf336
 t138:=Tryz.underlying338
 a138:=Tryz.isAgg338
 z138:=Tryz.sizeOf338
 v138:=Tryz.zeroValue338
 t139:=Tryz.underlying339
 a139:=Tryz.isAgg339
 z139:=Tryz.sizeOf339
 v139:=Tryz.zeroValue339
 t146:=Tryz.underlying340
 a146:=Tryz.isAgg340
 z146:=Tryz.sizeOf340
 v146:=Tryz.zeroValue340
 g1:=by kernel_rfl
 g3:=by kernel_rfl
 g4:=by kernel_rfl}
open Go.RowKit Go.Lib in
theorem Tryz.strings_Split(s sep:ByteArray)(m:Int)(w:World)(hs:s.size<4294967281)(hm:w.cell? ⟨2,0,none⟩=some (.int .i64 m))(h1:1≤sep.size):Calls ah 158 #[.string s,.string sep] w fun e w'=>e=.returned (.slice (some ⟨w.heap.size,0,none⟩) (Lib.countB s sep+1) (Lib.countB s sep+1))∧w'=w.alloc (.cells ((Lib.splitB sep 0 (Lib.countB s sep) s).map Value.string).toArray 9):=Any.strings_Split Tryz.lays146 bo s sep m w hs hm h1
def Tryz.lays229_ren:Go.Shelf.Ren:=⟨fun|229=>184|n=>n,fun|9=>9|40=>247|31=>29|152=>273|3=>3|0=>0|4=>4|21=>21|154=>275|n=>n,fun|n=>n⟩
theorem Tryz.lays229:Go.Proofs.Lays.n229 ah Tryz.lays229_ren:={
 mixed:=by kernel_rfl
 f229:=Tryz.func184.trans (congrArg some bo)
 t0:=aib
 a0:=Tryz.isAgg0
 z0:=Tryz.sizeOf0
 v0:=Tryz.zeroValue0
 t3:=ahK
 a3:=Tryz.isAgg3
 z3:=Tryz.sizeOf3
 v3:=ad1
 t4:=zc
 a4:=Tryz.isAgg4
 z4:=Tryz.sizeOf4
 v4:=ah2
 t9:=bq
 a9:=Tryz.isAgg9
 z9:=Tryz.sizeOf9
 v9:=ah3
 t21:=Tryz.underlying21
 a21:=Tryz.isAgg21
 z21:=Tryz.sizeOf21
 v21:=Tryz.zeroValue21
 t31:=ahP
 a31:=Tryz.isAgg29
 z31:=Tryz.sizeOf29
 v31:=Tryz.zeroValue29
 t40:=Tryz.underlying247
 a40:=Tryz.isAgg247
 z40:=Tryz.sizeOf247
 v40:=Tryz.zeroValue247
 t152:=Tryz.underlying273
 a152:=Tryz.isAgg273
 z152:=Tryz.sizeOf273
 v152:=Tryz.zeroValue273
 t154:=Tryz.underlying275
 a154:=Tryz.isAgg275
 z154:=Tryz.sizeOf275
 v154:=Tryz.zeroValue275}
open Go.RowKit Go.Lib in
theorem Tryz.strings_FieldsFunc_grows(g:Nat)(lb:Array Value)(eg:∀args w,(callFunc g args).run ah w=.ok (.enter g args) w)(p:Nat→Bool)(s:ByteArray)(w:World)(hs:s.size≤4294967296)(hp:PredGrows ah g lb p w):Calls ah 184 #[.string s,.func (.func g) #[] lb] w fun e w'=>∃A,e=.returned (.slice (some ⟨A,0,none⟩) (Lib.goFieldsP p s).length (Lib.goFieldsP p s).length)∧w.heap.size≤A∧w'.ownsRow w.heap.size 9 1 (.slice (some ⟨A,0,none⟩) (Lib.goFieldsP p s).length (Lib.goFieldsP p s).length) (Lib.goFieldsP p s).length ((Lib.goFieldsP p s).map Value.string)∧aW w w':=Any.strings_FieldsFunc_grows Tryz.lays229 g lb eg p s w hs hp bo (by kernel_rfl)
end Go.Proofs
namespace Go.Proofs.YtkjaajcpbldjoabGreatDoor
def ns:Bool→List Nat→Nat
 |_,[]=>0
 |odd,a::l=>(if odd then a else 256*a)+ns (!odd) l
open Go.RowKit
def kn(s:ByteArray):List Nat:=s.data.toList.map UInt8.toNat
theorem gX(s:ByteArray):(kn s).length=s.size:=by unfold kn;rw[ay,Array.length_toList];rfl
theorem YG(s:ByteArray):∀c∈kn s,c<256:=by
 intro c hc;obtain⟨b,_,rfl⟩:=List.mem_map.1 hc;exact b.toNat_lt
def fH(n x:Nat):List UInt8:=(aF n).map fun j=>ah5 (x/256^(n-1-j)%256)
def be(n x:Nat):ByteArray:=⟨(fH n x).toArray⟩
theorem aP(n x:Nat):(fH n x).length=n:=by simp[fH]
theorem YH(n x:Nat):(be n x).size=n:=by simp[be,ByteArray.size,fH]
def nX(n x k:Nat):Array Value:=((aF n).map fun j=>Value.int .u8 (if n-1-j<k then((x/256^(n-1-j)%256:Nat):Int)else 0)).toArray
theorem qQ(n x:Nat):nX n x 0=Array.replicate n (.int .u8 0):=by
 unfold nX;apply Array.ext
 ·simp
 ·intro i h1 h2;simp
theorem tm(n x k:Nat)(hk:k<n):(nX n x k).setIfInBounds (n-1-k) (.int .u8 ((x/256^k%256:Nat):Int))=nX n x (k+1):=by
 unfold nX;apply Array.ext
 ·simp
 ·intro i h1 h2;simp only[Array.size_setIfInBounds,List.size_toArray,ay,List.length_range]at h1;rw[Array.getElem_setIfInBounds (by simpa using h1)];simp only[List.getElem_toArray,List.getElem_map,List.getElem_range];by_cases h:n-1-k=i
  ·rw[if_pos h,if_pos aR,show n-1-i=k by omega]
  ·rw[if_neg h];by_cases h3:n-1-i<k
   ·rw[if_pos h3,if_pos aR]
   ·rw[if_neg h3,if_neg aR]
theorem xa(n x k j:Nat)(hj:j<n):∃v,(nX n x k)[j]? =some v:=by
 unfold nX;exact⟨_,kC (by simpa using hj)⟩
theorem abV(n x j:Nat)(hj:j<(fH n x).length):(fH n x)[j]=ah5 (x/256^(n-1-j)%256):=by simp[fH]
theorem qR(n x j:Nat)(hj:j<(fH n x).length):(nX n x n)[j]? =some (.int .u8 (((fH n x)[j]'hj).toNat:Int)):=by
 rw[abV];rw[aP]at hj;unfold nX;rw[kC (by simpa using hj)];simp only[List.getElem_toArray,List.getElem_map,List.getElem_range];rw[if_pos aR];have:x/256^(n-1-j)%256<256:=Nat.mod_lt _ aR;rw[UInt8.toNat_ofNat_of_lt' (by simpa using this)]
theorem mkN(n:Nat)(hn:n=2∨n=4∨n=8)(w:World):(Instr.makeSlice 71 (.int .i64 n) (.int .i64 n)).run ah w=.ok (.slice (some ⟨w.heap.size,0,none⟩) n n) (w.alloc (.cells (Array.replicate n (.int .u8 0)) 5)):=by
 rcases hn with rfl|rfl|rfl
 ·kernel_rfl
 ·kernel_rfl
 ·kernel_rfl
theorem abW(x k:Nat):(x:Int)/2^(8*k)%256=((x/256^k%256:Nat):Int):=by
 rw[show(2:Int)^(8*k)=((256^k:Nat):Int) by rw[Int.pow_mul];simp];simp
theorem YI(x n:Nat)(hx:x<65536)(hn:n=2∨n=4∨n=8)(w:World):Calls ah 128 #[.int .u16 x,.int .i64 n] w fun r w'=>r=.returned (.string (be n x))∧aW w w':=by
 have hmk:=mkN n hn;have hn0:1≤n:=by omega
 have hn8:n≤8:=by omega
 clear hn;go_enter Tryz.func128,Tryz.ntmps128;go_wp2_with fail
 go_loopw [11] (fun v11 wr=>∃k:Nat,k≤n∧v11=.int .i64 k∧aH wr w.heap.size 5 (nX n x k)∧aW w wr) (fun v11 _=>n-(intOf v11).toNat)
 case atStart=>exact⟨0,bj _,rfl,by rw[qQ];exact aH.new _ _ _,(aI _ _).alloc (ax _) _⟩
 case round=>
  obtain⟨k,hk,rfl,hb,hB⟩:=hrel;by_cases hlt:k<n
  ·obtain⟨u,hu⟩:=xa n x k (n-1-k) aR;have hc:=(hb.cell (n-1-k)).trans hu;have hf:=hb.frozen (n-1-k);have hnx:=hb.aM (n-1-k) (.int .u8 ((x/256^k%256:Nat):Int));rw[tm n x k hlt]at hnx;have e1:((n:Int)-1-(k:Int)).toNat=n-1-k:=by omega
   have h0:(0:Int)≤(n:Int)-1-(k:Int):=by omega
   obtain⟨HB,Ai⟩:=aL hB hnx;have hlt2:=hb.lt;clear hB hnx hu hb hmk;go_wp2_with fail
   go_roundw
   case rel=>
    rw[abW x k];exact⟨k+1,by omega,by go_num,Ai.out,HB.out.setCell (ax _) _⟩
   case measure=>simp[intOf];omega
  ·obtain rfl:k=n:=by omega
   have hback:=run_convert_bytes_back (P:=ah) wr 71 9 5 ⟨w.heap.size,0,none⟩ k (fH k x) cT cD bq (fun j hj=>by
    have e:(⟨w.heap.size,0,none⟩:Addr).add j=⟨w.heap.size,j,none⟩:=by unfold Addr.add;split<;>simp_all
    rw[e];exact(hb.cell j).trans (qR k x j hj))
   rw[aP]at hback;have HB:=Lib.hid hB;clear hB hb hmk;go_wp2_with fail
   go_ret;exact⟨rfl,HB.out⟩
theorem YJ(x n:Nat)(hx:x<18446744073709551616)(hn:n=2∨n=4∨n=8)(w:World):Calls ah 86 #[.int .u64 x,.int .i64 n] w fun r w'=>r=.returned (.string (be n x))∧aW w w':=by
 have hmk:=mkN n hn;have hn0:1≤n:=by omega
 have hn8:n≤8:=by omega
 clear hn;go_enter Tryz.func86,Tryz.ntmps86;go_wp2_with fail
 go_loopw [11] (fun v11 wr=>∃k:Nat,k≤n∧v11=.int .i64 k∧aH wr w.heap.size 5 (nX n x k)∧aW w wr) (fun v11 _=>n-(intOf v11).toNat)
 case atStart=>exact⟨0,bj _,rfl,by rw[qQ];exact aH.new _ _ _,(aI _ _).alloc (ax _) _⟩
 case round=>
  obtain⟨k,hk,rfl,hb,hB⟩:=hrel;by_cases hlt:k<n
  ·obtain⟨u,hu⟩:=xa n x k (n-1-k) aR;have hc:=(hb.cell (n-1-k)).trans hu;have hf:=hb.frozen (n-1-k);have hnx:=hb.aM (n-1-k) (.int .u8 ((x/256^k%256:Nat):Int));rw[tm n x k hlt]at hnx;have e1:((n:Int)-1-(k:Int)).toNat=n-1-k:=by omega
   have h0:(0:Int)≤(n:Int)-1-(k:Int):=by omega
   obtain⟨HB,Ai⟩:=aL hB hnx;have hlt2:=hb.lt;clear hB hnx hu hb hmk;go_wp2_with fail
   go_roundw
   case rel=>
    rw[abW x k];exact⟨k+1,by omega,by go_num,Ai.out,HB.out.setCell (ax _) _⟩
   case measure=>simp[intOf];omega
  ·obtain rfl:k=n:=by omega
   have hback:=run_convert_bytes_back (P:=ah) wr 71 9 5 ⟨w.heap.size,0,none⟩ k (fH k x) cT cD bq (fun j hj=>by
    have e:(⟨w.heap.size,0,none⟩:Addr).add j=⟨w.heap.size,j,none⟩:=by unfold Addr.add;split<;>simp_all
    rw[e];exact(hb.cell j).trans (qR k x j hj))
   rw[aP]at hback;have HB:=Lib.hid hB;clear hB hb hmk;go_wp2_with fail
   go_ret;exact⟨rfl,HB.out⟩
theorem YK(x n:Nat)(hx:x<4294967296)(hn:n=2∨n=4∨n=8)(w:World):Calls ah 165 #[.int .u32 x,.int .i64 n] w fun r w'=>r=.returned (.string (be n x))∧aW w w':=by
 have hmk:=mkN n hn;have hn0:1≤n:=by omega
 have hn8:n≤8:=by omega
 clear hn;go_enter Tryz.func165,Tryz.ntmps165;go_wp2_with fail
 go_loopw [11] (fun v11 wr=>∃k:Nat,k≤n∧v11=.int .i64 k∧aH wr w.heap.size 5 (nX n x k)∧aW w wr) (fun v11 _=>n-(intOf v11).toNat)
 case atStart=>exact⟨0,bj _,rfl,by rw[qQ];exact aH.new _ _ _,(aI _ _).alloc (ax _) _⟩
 case round=>
  obtain⟨k,hk,rfl,hb,hB⟩:=hrel;by_cases hlt:k<n
  ·obtain⟨u,hu⟩:=xa n x k (n-1-k) aR;have hc:=(hb.cell (n-1-k)).trans hu;have hf:=hb.frozen (n-1-k);have hnx:=hb.aM (n-1-k) (.int .u8 ((x/256^k%256:Nat):Int));rw[tm n x k hlt]at hnx;have e1:((n:Int)-1-(k:Int)).toNat=n-1-k:=by omega
   have h0:(0:Int)≤(n:Int)-1-(k:Int):=by omega
   obtain⟨HB,Ai⟩:=aL hB hnx;have hlt2:=hb.lt;clear hB hnx hu hb hmk;go_wp2_with fail
   go_roundw
   case rel=>
    rw[abW x k];exact⟨k+1,by omega,by go_num,Ai.out,HB.out.setCell (ax _) _⟩
   case measure=>simp[intOf];omega
  ·obtain rfl:k=n:=by omega
   have hback:=run_convert_bytes_back (P:=ah) wr 71 9 5 ⟨w.heap.size,0,none⟩ k (fH k x) cT cD bq (fun j hj=>by
    have e:(⟨w.heap.size,0,none⟩:Addr).add j=⟨w.heap.size,j,none⟩:=by unfold Addr.add;split<;>simp_all
    rw[e];exact(hb.cell j).trans (qR k x j hj))
   rw[aP]at hback;have HB:=Lib.hid hB;clear hB hb hmk;go_wp2_with fail
   go_ret;exact⟨rfl,HB.out⟩
theorem lS(x:Nat)(hx:x<65536)(w:World):Calls ah 87 #[.int .u16 x] w fun r w'=>r=.returned (.string (be 2 x))∧aW w w':=by
 go_enter Tryz.func87,Tryz.ntmps87;go_wp2_with(go_at_call 128;refine(YI x 2 hx aR _).mono ?_;rintro r w'⟨rfl,hb⟩)
 go_ret;exact⟨rfl,hb⟩
theorem rC(x:Nat)(hx:x<18446744073709551616)(w:World):Calls ah 31 #[.int .u64 x] w fun r w'=>r=.returned (.string (be 8 x))∧aW w w':=by
 go_enter Tryz.func31,Tryz.ntmps31;go_wp2_with(go_at_call 86;refine(YJ x 8 hx aR _).mono ?_;rintro r w'⟨rfl,hb⟩)
 go_ret;exact⟨rfl,hb⟩
theorem YL(x:Nat)(hx:x<4294967296)(w:World):Calls ah 129 #[.int .u32 x] w fun r w'=>r=.returned (.string (be 4 x))∧aW w w':=by
 go_enter Tryz.func129,Tryz.ntmps129;go_wp2_with(go_at_call 165;refine(YK x 4 hx aR _).mono ?_;rintro r w'⟨rfl,hb⟩)
 go_ret;exact⟨rfl,hb⟩
def dx(c:UInt8):List UInt8→List (List UInt8)
 |[]=>[[]]
 |b::l=>if b=c then []::dx c l else
  match dx c l with
  |[]=>[[b]]
  |h::t=>(b::h)::t
theorem OV(c:UInt8):∀l,dx c l≠[]:=by
 intro l;cases l with
 |nil=>simp[dx]
 |cons b l=>
  unfold dx;split
  ·simp
  ·split<;>simp
theorem EX{c:UInt8}:∀{x:List UInt8},c∉x→dx c x=[x]:=by
 intro x
 induction x with
 |nil=>intro _;rfl
 |cons b l ih=>
  intro h;have hb:b≠c:=fun e=>h (by rw[e];exact cJ ..)
  have hl:=ih fun e=>h (cB _ e)
  unfold dx;rw[if_neg hb,hl]
theorem I3{c:UInt8}(y:List UInt8):∀{x:List UInt8},c∉x→dx c (x++c::y)=x::dx c y:=by
 intro x
 induction x with
 |nil=>
   intro _;rw[List.nil_append];conv=>lhs;unfold dx
   rw[if_pos rfl]
 |cons b l ih=>
  intro h;have hb:b≠c:=fun e=>h (by rw[e];exact cJ ..)
  have hl:=ih fun e=>h (cB _ e)
  rw[List.cons_append]
  conv=>lhs;unfold dx
  rw[if_neg hb,hl]
theorem li(x y:List UInt8)(r:List (List UInt8))(sep:List UInt8):Lib.join (x::y::r) sep=x++(sep++Lib.join (y::r) sep):=by
 rw[Lib.join_cons,Lib.join_cons];simp[Lib.joinTail]
theorem qB(c:UInt8):∀l:List UInt8,(dx c l).length≤l.length+1:=by
 intro l
 induction l with
 |nil=>simp[dx]
 |cons b l ih=>
  unfold dx;split
  ·simp;exact ih
  ·split
   ·simp
   ·next h t e=>rw[e]at ih;simp at ih⊢;omega
theorem tn(s:List UInt8)(c:UInt8)(i:Nat):Lib.occAt s [c] i=decide (s[i]? =some c):=by
 unfold Lib.occAt;by_cases h:i<s.length
 ·rw[List.drop_eq_getElem_cons h,List.getElem?_eq_getElem h];simp only[List.isPrefixOf,Bool.and_true,Option.some.injEq];rw[Bool.eq_iff_iff,beq_iff_eq,decide_eq_true_iff];exact eq_comm
 ·rw[List.drop_eq_nil_of_le aR,List.getElem?_eq_none aR];rfl
theorem oO{s:List UInt8}{c:UInt8}(h:c∉s):Lib.index s [c]= -1:=by
 apply Lib.index_none;intro j _;rw[tn];exact decide_eq_false fun e=>h (iD e)
theorem qC{c:UInt8}{x:List UInt8}(y:List UInt8)(h:c∉x):Lib.index (x++c::y) [c]=(x.length:Nat):=by
 apply Lib.index_first
 ·simp
 ·rw[tn];simp
 ·intro j hj;rw[tn,List.getElem?_append_left hj];exact decide_eq_false fun e=>h (iD e)
theorem BS{c:UInt8}:∀{s:List UInt8},c∈s→∃x y,s=x++c::y∧c∉x:=by
 intro s
 induction s with
 |nil=>intro h;simp at h
 |cons b l ih=>
  intro h;by_cases hb:b=c
  ·exact⟨[],l,by rw[hb];rfl,by simp⟩
  ·obtain⟨x,y,e,hx⟩:=ih (by
    rcases List.mem_cons.1 h with h|h;·exact absurd h.symm hb
    ·exact h)
   exact⟨b::x,y,by rw[e];rfl,by simp[hx];exact fun e=>hb e.symm⟩
theorem OX(c:UInt8):∀(n:Nat)(s:List UInt8),s.length≤n→Lib.splitK [c] 0 (Lib.count s [c]) s=dx c s:=by
 intro n
 induction n with
 |zero=>
  intro s hs;have:s=[]:=by cases s;rfl;simp at hs
  subst this;rfl
 |succ n ih=>
  intro s hs;by_cases h:c∈s
  ·obtain⟨x,y,rfl,hx⟩:=BS h;have hi:=qC y hx;rw[Lib.count_hit (by simp) hi,Nat.add_comm 1];unfold Lib.splitK;rw[hi,if_neg (by simp),I3 _ hx];have e:(x++c::y).drop (x.length+[c].length)=y:=by
    rw[dn,List.drop_append];simp
   rw[show((x.length:Int)).toNat=x.length by omega,e,ih y (by simp at hs;omega)];simp
  ·have hi:=oO h;rw[Lib.count_miss hi,EX h];rfl
theorem xb(s sep:ByteArray)(c:UInt8)(hc:sep.data.toList=[c]):(Lib.splitB sep 0 (Lib.countB s sep) s).map (·.data.toList)=dx c s.data.toList:=by
 rw[Lib.splitB_data,hc];show Lib.splitK [c] 0 (Lib.count s.data.toList sep.data.toList) _=_;rw[hc];exact OX c _ _ (ax _)
theorem BU{s:List UInt8}{c:UInt8}(h:c∉s):Lib.cut s [c]=(s,[],false):=by
 unfold Lib.cut;rw[oO h,if_neg aJ]
theorem EY{c:UInt8}{x:List UInt8}(y:List UInt8)(h:c∉x):Lib.cut (x++c::y) [c]=(x,y,true):=by
 unfold Lib.cut;rw[qC y h,if_pos aR];simp[List.drop_append]
def vA(x:Nat):UInt8:=if x<10 then ah5 (48+x)else ah5 (87+x)
def hexL(x:Nat):List UInt8:=if h:x<16 then [vA x]else hexL (x/16)++[vA (x%16)]
termination_by x
decreasing_by omega
def dval(base:Nat)(c:UInt8):Option Nat:=if 48≤c.toNat∧c.toNat≤57 then(if c.toNat-48<base then some (c.toNat-48)else none)
 else if 97≤c.toNat∧c.toNat≤122 then(if c.toNat-87<base then some (c.toNat-87)else none)
 else if 65≤c.toNat∧c.toNat≤90 then(if c.toNat-55<base then some (c.toNat-55)else none)
 else none
def oP(dv:UInt8→Option Nat)(base:Nat):Nat→List UInt8→Option Nat
 |acc,[]=>some acc
 |acc,c::r=>match dv c with
  |none=>none
  |some d=>oP dv base (acc*base+d) r
def num1(base bound:Nat)(l:List UInt8):Option Nat:=if l=[]then none else(oP (dval base) base 0 l).bind fun n=>if n<bound then some n else none
theorem YM(dv:UInt8→Option Nat)(base:Nat)(hb:1≤base):∀(l:List UInt8)(acc n:Nat),oP dv base acc l=some n→acc≤n:=by
 intro l
 induction l with
 |nil=>intro acc n h;simp[oP]at h;omega
 |cons c r ih=>
  intro acc n h;unfold oP at h;split at h
  ·simp at h
  ·next d _=>
   have:=ih _ _ h;have:acc*1≤acc*base:=Nat.mul_le_mul_left _ hb;omega
def ad4(x:Nat):UInt8:=ah5 (48+x)
theorem dec_lt{x:Nat}(h:x<10):cP x=[ad4 x]:=by unfold cP;rw[dif_pos h];rfl
theorem S4{x:Nat}(h:¬x<10):cP x=cP (x/10)++[ad4 (x%10)]:=by
 conv=>lhs;unfold cP
 rw[dif_neg h];rfl
theorem YN(x:Nat):cP x≠[]:=by
 unfold cP;split<;>simp
theorem nt{base B n:Nat}{l:List UInt8}(h:num1 base B l=some n):n<B:=by
 unfold num1 at h;split at h
 ·cases h
 ·cases e:oP (dval base) base 0 l with
  |none=>rw[e]at h;cases h
  |some m=>
   rw[e]at h;simp at h;omega
theorem S7(x:Nat)(hx:x<65536):(hexL x).length≤4:=by
 unfold hexL;split
 ·simp
 ·rw[aj];unfold hexL;split
  ·simp
  ·rw[aj];unfold hexL;split
   ·simp
   ·rw[aj];unfold hexL;split
    ·simp
    ·omega
theorem xc(x:Nat)(hx:x<1000):(cP x).length≤3:=by
 by_cases h:x<10
 ·rw[dec_lt h];simp
 ·rw[S4 h,aj];by_cases h:x/10<10
  ·rw[dec_lt h];simp
  ·rw[S4 h,aj,dec_lt aR];simp
structure Ad where
 v6:Bool
 hi:Nat
 lo:Nat
structure Pk where
 a:Ad
 b:Ad
 proto:Nat
 ttl:Nat
 data:ByteArray
def Ad.cells(a:Ad):Array Value:= #[.bool a.v6,.int .u64 (a.hi:Int),.int .u64 (a.lo:Int)]
def Pk.cells(p:Pk):Array Value:= #[.bool p.a.v6,.int .u64 (p.a.hi:Int),.int .u64 (p.a.lo:Int),.bool p.b.v6,.int .u64 (p.b.hi:Int),.int .u64 (p.b.lo:Int),.int .u8 (p.proto:Int),.int .u8 (p.ttl:Int),.string p.data]
structure Ad.Ok(a:Ad):Prop where
 hi:a.hi<18446744073709551616
 lo:a.lo<18446744073709551616
structure Pk.Ok(p:Pk):Prop where
 a:p.a.Ok
 b:p.b.Ok
 proto:p.proto<256
 ttl:p.ttl<256
 data:p.data.size≤8192
def Ad.may(a:Ad):Bool:=a.v6||(decide (a.hi=0)&&decide (a.lo<4294967296))
def Pk.head(p:Pk):Nat:=if p.a.v6 then 40 else 20
structure Pf where
 a:Ad
 bits:Nat
def Pf.cells(p:Pf):Array Value:= #[.bool p.a.v6,.int .u64 (p.a.hi:Int),.int .u64 (p.a.lo:Int),.int .u8 (p.bits:Int)]
structure Pf.Ok(p:Pf):Prop where
 a:p.a.Ok
 bits:p.bits<256
theorem lT(a:Ad)(ok:a.Ok)(w:World):Calls ah 177 #[.agg a.cells] w fun r w'=>r=.returned (.bool a.may)∧Below w.heap.size w w':=by
 obtain⟨v,h,l⟩:=a;have h1:=ok.hi;have h2:=ok.lo;simp only at h1 h2;unfold Ad.cells;cases v with
 |true=>
  go_enter Tryz.func177,Tryz.ntmps177;go_wp2_with fail
  go_ret;exact⟨by simp[Ad.may],(aI _ _).alloc (ax _) _⟩
 |false=>
  by_cases hz:h=0
  ·subst hz;by_cases hl:l<4294967296
   ·have hq:(l:Int)/4294967296=0:=by omega
    go_enter Tryz.func177,Tryz.ntmps177;go_wp2_with fail
    go_ret;exact⟨by simp[Ad.may,hl],(aI _ _).alloc (ax _) _⟩
   ·have hq:¬(l:Int)/4294967296=0:=by omega
    go_enter Tryz.func177,Tryz.ntmps177;go_wp2_with fail
    go_ret;exact⟨by simp[Ad.may,hl];exact hq,(aI _ _).alloc (ax _) _⟩
  ·have hq:¬(h:Int)=0:=by omega
   go_enter Tryz.func177,Tryz.ntmps177;go_wp2_with fail
   go_ret;exact⟨by simp[Ad.may,hz],(aI _ _).alloc (ax _) _⟩
theorem ad5{W w1:World}(hb:Below W.heap.size W w1):(∀b o,b<W.heap.size→w1.cell? ⟨b,o,none⟩=W.cell? ⟨b,o,none⟩)∧(∀b o,b<W.heap.size→w1.frozen? ⟨b,o,none⟩=W.frozen? ⟨b,o,none⟩):=⟨fun b o h=>hb.cell (p:=⟨b,o,none⟩) h,fun b o h=>hb.frozen (p:=⟨b,o,none⟩) h⟩
theorem after{w w1 w2:World}(h:Below w.heap.size w w1)(h2:Below w1.heap.size w1 w2):Below w.heap.size w w2:=h.trans (h2.mono h.size)
theorem boxed(w:World)(o:Obj):Below w.heap.size w (w.alloc o):=(aI _ _).alloc (ax _) o
def Got(v:Value)(w:World)(r:Ending)(w':World):Prop:=r=.returned v∧Below w.heap.size w w'
def fP(a:Ad):List Nat:=[a.hi/2^48%65536,a.hi/2^32%65536,a.hi/2^16%65536,a.hi%65536,a.lo/2^48%65536,a.lo/2^32%65536,a.lo/2^16%65536,a.lo%65536]
def lO:List Nat→Nat
 |[]=>0
 |x::l=>if x=0 then lO l+1 else 0
def xd:Nat→List Nat→Int×Nat→Int×Nat
 |_,[],s=>s
 |i,x::l,s=>xd (i+1) l (if lO (x::l)>s.2 then((i:Int),lO (x::l))else s)
def best(L:List Nat):Int×Nat:=xd 0 L (-1,1)
def colon:List UInt8:=[58]
def dot:List UInt8:=[46]
def ju(L:List Nat):List UInt8:=Lib.join (L.map hexL) colon
def uA(L:List Nat):List UInt8:=if(best L).1<0 then ju L else ju (L.take (best L).1.toNat)++(58::58::ju (L.drop ((best L).1.toNat+(best L).2)))
def xe(lo:Nat):List Nat:=[lo/2^24%256,lo/2^16%256,lo/2^8%256,lo%256]
def oQ(lo:Nat):List UInt8:=Lib.join ((xe lo).map cP) dot
def iE(a:Ad):List UInt8:=if a.may=false then []else if a.v6=false then oQ a.lo else uA (fP a)
theorem MK(l:List Nat):lO l≤l.length:=by
 induction l with
 |nil=>simp[lO]
 |cons x l ih=>unfold lO;split<;>simp;omega
theorem OY:∀l:List Nat,l.take (lO l)=aS (lO l) 0:=by
 intro l
 induction l with
 |nil=>rfl
 |cons x l ih=>
  unfold lO;split
  ·next h=>rw[h,List.take_succ_cons,ih,List.replicate_succ]
  ·rfl
structure I4(L:List Nat)(s:Int×Nat):Prop where
 two:0≤s.1→2≤s.2
 le:0≤s.1→s.1.toNat+s.2≤L.length
 noughts:0≤s.1→(L.drop s.1.toNat).take s.2=aS s.2 0
 one:1≤s.2
theorem OZ(L:List Nat):∀(l:List Nat)(i:Nat)(s:Int×Nat),l=L.drop i→I4 L s→I4 L (xd i l s):=by
 intro l
 induction l with
 |nil=>intro i s _ h;exact h
 |cons x l ih=>
  intro i s hl h;have hl2:l=L.drop (i+1):=by rw[←List.drop_drop,←hl];rfl
  have hlen:(x::l).length=L.length-i:=by rw[hl,zd]
  have hr:=MK (x::l);refine ih (i+1) _ hl2 ?_;split
  ·next hgt=>
   refine⟨fun _=>?_,fun _=>?_,fun _=>?_,?_⟩
   ·show 2≤lO (x::l);have:=h.one;omega
   ·show(i:Int).toNat+lO (x::l)≤L.length;have:1≤(x::l).length:=by simp
    omega
   ·show(L.drop (i:Int).toNat).take (lO (x::l))=_;rw[show(i:Int).toNat=i by omega,←hl];exact OY _
   ·show 1≤lO (x::l);omega
  ·exact h
theorem YO(L:List Nat):I4 L (best L):=OZ L L 0 (-1,1) rfl ⟨fun h=>absurd h aJ,fun h=>absurd h aJ,fun h=>absurd h aJ,by decide⟩
theorem O0:ju []=[]:=rfl
theorem xf(x y:Nat)(r:List Nat):ju (x::y::r)=hexL x++58::ju (y::r):=by
 unfold ju;rw[jg,jg,li];rfl
theorem O5(x:Nat):ju [x]=hexL x:=by
 unfold ju;rw[jg,List.map_nil,Lib.join_one]
def gather(base B:Nat):List (List UInt8)→List Nat→Option (List Nat)
 |[],acc=>some acc
 |t::r,acc=>match num1 base B t with
  |none=>none
  |some n=>if 8<acc.length then none else gather base B r (acc++[n])
def dJ(c:UInt8)(base B:Nat)(s:List UInt8):Option (List Nat):=if s=[]then some []else gather base B (dx c s) []
def eN(l:List Nat):Nat:=l.foldl (fun h x=>h*65536+x) 0
def gY(l:List Nat):Nat:=l.foldl (fun h x=>h*256+x) 0
def nu(front back:List Nat)(gap:Bool):Option Ad:=if(gap=false∧front.length+back.length≠8)∨(gap=true∧7<front.length+back.length)then none
 else some ⟨true,eN ((front++aS (8-(front.length+back.length)) 0++back).take 4),eN ((front++aS (8-(front.length+back.length)) 0++back).drop 4)⟩
def tq(s:List UInt8):Option Ad:=match dJ 58 16 65536 (Lib.cut s [58,58]).1,dJ 58 16 65536 (Lib.cut s [58,58]).2.1 with
 |some f,some b=>nu f b (Lib.cut s [58,58]).2.2
 |_,_=>none
def xg(s:List UInt8):Option Ad:=match dJ 46 10 256 s with
 |some l=>if l.length=4 then some ⟨false,0,gY l⟩else tq s
 |none=>tq s
def uB(s:List UInt8):Option Ad:=(xg s).bind fun a=>if iE a=s then some a else none
theorem O6{base B:Nat}:∀(l:List (List UInt8))(acc L:List Nat),gather base B l acc=some L→(∀x∈acc,x<B)→acc.length≤9→(∀x∈L,x<B)∧L.length≤9:=by
 intro l
 induction l with
 |nil=>intro acc L h ha hl;simp[gather]at h;subst h;exact⟨ha,hl⟩
 |cons t r ih=>
  intro acc L h ha hl;unfold gather at h;split at h
  ·cases h
  ·next n hn=>
   split at h
   ·cases h
   ·refine ih _ _ h ?_ (by simp;omega);intro x hx;rcases List.mem_append.1 hx with hx|hx
    ·exact ha x hx
    ·rw[List.mem_singleton.1 hx];exact nt hn
theorem jj{c:UInt8}{base B:Nat}{s:List UInt8}{L:List Nat}(h:dJ c base B s=some L):(∀x∈L,x<B)∧L.length≤9:=by
 unfold dJ at h;split at h
 ·cases h;exact⟨by simp,by simp⟩
 ·exact O6 _ _ _ h (by simp) (by simp)
theorem abX(lo:Nat):∀x∈xe lo,x<256:=by
 intro x hx;simp only[xe,List.mem_cons,List.mem_nil_iff,or_false]at hx;omega
theorem Ta(lo:Nat):oQ lo≠[]:=by
 unfold oQ xe;rw[jg,jg,li];simp[YN]
theorem pQ(a:Ad):∀x∈fP a,x<65536:=by
 intro x hx;simp only[fP,List.mem_cons,List.mem_nil_iff,or_false]at hx;omega
theorem j7(a:Ad):(fP a).length=8:=rfl
theorem EZ(a:Ad):(58:UInt8)∈uA (fP a):=by
 unfold uA;split
 ·unfold fP;rw[xf];simp
 ·simp
theorem Tc(a:Ad):uA (fP a)≠[]:=fun e=>by have:=EZ a;rw[e]at this;cases this
theorem nw{L:List Nat}{B k:Nat}(h:∀x∈L,x<B):∀x∈L.take k,x<B:=fun x hx=>h x (List.mem_of_mem_take hx)
theorem vQ{L:List Nat}{B k:Nat}(h:∀x∈L,x<B):∀x∈L.drop k,x<B:=fun x hx=>h x (List.mem_of_mem_drop hx)
theorem MN{a:Ad}(hm:a.may=true)(h6:a.v6=false):iE a=oQ a.lo:=by
 unfold iE;rw[hm,h6];simp
theorem MO{a:Ad}(h6:a.v6=true):iE a=uA (fP a):=by
 unfold iE Ad.may;rw[h6];simp
theorem may4{a:Ad}(hm:a.may=true)(h6:a.v6=false):a.hi=0∧a.lo<4294967296:=by
 unfold Ad.may at hm;rw[h6]at hm;simpa using hm
theorem abY{a:Ad}(h6:a.v6=true):a.may=true:=by unfold Ad.may;rw[h6];rfl
theorem Td{a:Ad}(hm:a.may=true):iE a≠[]:=by
 cases h6:a.v6 with
 |true=>rw[MO h6];exact Tc a
 |false=>rw[MN hm h6];exact Ta _
theorem O7{a:Ad}(hm:a.may=false):iE a=[]:=by unfold iE;rw[if_pos hm]
theorem tr:∀(l:List Nat)(h0 B:Nat),(∀x∈l,x<65536)→h0<B→l.foldl (fun h x=>h*65536+x) h0<B*65536^l.length:=by
 intro l
 induction l with
 |nil=>intro h0 B _ h;simpa using h
 |cons x r ih=>
  intro h0 B hx h;have:=ih (h0*65536+x) (B*65536) (fun y hy=>hx y (cB _ hy)) (by have:=hx x (cJ ..);omega);rw[List.foldl_cons,bP,Nat.pow_succ,Nat.mul_comm (65536^r.length),←Nat.mul_assoc];exact this
theorem E9:∀(l:List Nat)(h0 B:Nat),(∀x∈l,x<256)→h0<B→l.foldl (fun h x=>h*256+x) h0<B*256^l.length:=by
 intro l
 induction l with
 |nil=>intro h0 B _ h;simpa using h
 |cons x r ih=>
  intro h0 B hx h;have:=ih (h0*256+x) (B*256) (fun y hy=>hx y (cB _ hy)) (by have:=hx x (cJ ..);omega);rw[List.foldl_cons,bP,Nat.pow_succ,Nat.mul_comm (256^r.length),←Nat.mul_assoc];exact this
theorem Aj{f b:List Nat}{g:Bool}{a:Ad}(h:nu f b g=some a)(hf:∀x∈f,x<65536)(hb:∀x∈b,x<65536):a.Ok∧a.v6=true:=by
 unfold nu at h;split at h
 ·cases h
 ·next hn=>
  have hl:f.length+b.length≤8:=by cases g<;>simp at hn<;>omega
  cases h;have hall:∀x∈f++aS (8-(f.length+b.length)) 0++b,x<65536:=by
   intro x hx;rcases List.mem_append.1 hx with hx|hx
   ·rcases List.mem_append.1 hx with hx|hx
    ·exact hf x hx
    ·rw[(List.mem_replicate.1 hx).2];decide
   ·exact hb x hx
  have hlen:(f++aS (8-(f.length+b.length)) 0++b).length=8:=by simp;omega
  generalize f++aS (8-(f.length+b.length)) 0++b=A at hall hlen⊢;have h1:=tr (A.take 4) 0 1 (nw hall) aJ;have h2:=tr (A.drop 4) 0 1 (vQ hall) aJ;rw[ze,hlen]at h1;rw[zd,hlen]at h2;exact⟨⟨by simpa[eN]using h1,by simpa[eN]using h2⟩,rfl⟩
theorem pR{s:List UInt8}{a:Ad}(h:tq s=some a):a.Ok∧a.v6=true:=by
 unfold tq at h;split at h
 ·next f b hf hb=>exact Aj h (jj hf).1 (jj hb).1
 ·cases h
theorem O9{s:List UInt8}{a:Ad}(h:xg s=some a):a.Ok∧a.may=true:=by
 unfold xg at h;split at h
 ·next l hl=>
  split at h
  ·next h4=>
   cases h;have:=E9 l 0 1 (jj hl).1 aJ;rw[h4]at this;have h2:gY l<4294967296:=by unfold gY;omega
   exact⟨⟨by show(0:Nat)<_;omega,by show gY l<_;omega⟩,by simp[Ad.may,h2]⟩
  ·exact⟨(pR h).1,abY (pR h).2⟩
 ·exact⟨(pR h).1,abY (pR h).2⟩
theorem xi{s:List UInt8}{a:Ad}(h:uB s=some a):iE a=s∧a.Ok∧a.may=true:=by
 unfold uB at h;cases e:xg s with
 |none=>rw[e]at h;cases h
 |some b=>
  rw[e]at h;simp only[Option.bind_some]at h;split at h
  ·next ht=>cases h;exact⟨ht,O9 e⟩
  ·cases h
theorem pS:∀L:List Nat,(∀x∈L,x<65536)→(ju L).length≤5*L.length:=by
 intro L
 induction L with
 |nil=>intro _;simp[O0]
 |cons x r ih=>
  intro h;have hx:=S7 x (h x (cJ ..));cases r with
  |nil=>rw[O5];simp;omega
  |cons y r=>
   have:=ih fun z hz=>h z (cB _ hz)
   rw[xf];simp only[aj,bP]at*;omega
theorem Pg(a:Ad):(iE a).length≤60:=by
 unfold iE;split
 ·simp
 ·split
  ·have h:=abX a.lo;have:∀x∈xe a.lo,(cP x).length≤3:=fun x hx=>xc x (by have:=h x hx;omega)
   unfold oQ;simp only[xe,jg,List.map_nil,li,Lib.join_one,aj]at*;have a1:=this _ (cJ ..);have a2:=this _ (cB _ (cJ ..));have a3:=this _ (cB _ (cB _ (cJ ..)));have a4:=this _ (cB _ (cB _ (cB _ (cJ ..))));simp only[dot,dn];omega
  ·unfold uA;split
   ·have:=pS _ (pQ a);rw[j7]at this;omega
   ·have h1:=pS _ (nw (k:=(best (fP a)).1.toNat) (pQ a));have h2:=pS _ (vQ (k:=(best (fP a)).1.toNat+(best (fP a)).2) (pQ a));rw[ze,j7]at h1;rw[zd,j7]at h2;simp only[aj,bP];omega
def Ad.size(a:Ad):Nat:=if a.v6 then 128 else 32
def Ad.val(a:Ad):Nat:=if a.v6 then a.hi*2^64+a.lo else a.lo
def rD(p:Pf):Bool:=p.a.may&&decide (p.bits≤p.a.size)&&decide (p.a.val%2^(p.a.size-p.bits)=0)
def qD(p:Pf):List UInt8:=if rD p=true then iE p.a++47::cP p.bits else []
def Tf(p:Pf)(a:Ad):Bool:=rD p&&a.may&&(p.a.v6==a.v6)&&decide (a.val/2^(p.a.size-p.bits)=p.a.val/2^(p.a.size-p.bits))
def xj(a b:Ad):Bool:=if a.v6 !=b.v6 then b.v6 else if a.hi≠b.hi then decide (a.hi<b.hi)else decide (a.lo<b.lo)
def i6(s:List UInt8):Option Pf:=if(Lib.cut s [47]).2.2=false then none
 else match uB (Lib.cut s [47]).1,num1 10 256 (Lib.cut s [47]).2.1 with
  |some a,some n=>if qD ⟨a,n⟩=s then some ⟨a,n⟩else none
  |_,_=>none
theorem size_le(a:Ad):a.size≤128:=by unfold Ad.size;split<;>omega
theorem Ti{p:Pf}(h:qD p≠[]):rD p=true:=by
 unfold qD at h;split at h
 ·assumption
 ·exact absurd rfl h
theorem oR{s:List UInt8}{p:Pf}(h:i6 s=some p):qD p=s∧p.Ok∧rD p=true:=by
 unfold i6 at h;split at h
 ·cases h
 ·next hn=>
  split at h
  ·next a n ha hb=>
   split at h
   ·next ht=>
    cases h;have hs:s≠[]:=by rintro rfl;exact hn rfl
    exact⟨ht,⟨(xi ha).2.1,nt hb⟩,Ti (by rw[ht];exact hs)⟩
   ·cases h
  ·cases h
structure kD where
 kind:Nat
 name:ByteArray
 net:Pf
structure Nm where
 name:ByteArray
 list:List ByteArray
structure Hs where
 name:ByteArray
 net:Pf
structure Ac where
 i7:List Nat
 src:List kD
 dst:List kD
 jO:List (Nat×Nat)
structure Po where
 groups:List Nm
 tags:List Nm
 hosts:List Hs
 lP:List Ac
deriving instance DecidableEq for Ad
deriving instance DecidableEq for Pf
deriving instance DecidableEq for kD
deriving instance DecidableEq for Nm
deriving instance DecidableEq for Hs
deriving instance DecidableEq for Ac
deriving instance DecidableEq for Po
def Ad.zero:Ad:=⟨false,0,0⟩
def Pf.zero:Pf:=⟨Ad.zero,0⟩
def Po.zero:Po:=⟨[],[],[],[]⟩
def az(c:UInt8):Bool:=decide (97≤c.toNat∧c.toNat≤122)
def BV(c:UInt8):Bool:=az c||decide (48≤c.toNat∧c.toNat≤57)||decide (c=46)||decide (c=95)||decide (c=45)
def oS(s:List UInt8):Bool:=match s with
 |[]=>false
 |c::r=>decide (r.length<32)&&az c&&r.all BV
def cQ(s:ByteArray):Bool:=oS s.data.toList
def blank(c:UInt8):Bool:=decide (c=32)||decide (c=9)
def fieldsGo(cur:List UInt8):List UInt8→List (List UInt8)
 |[]=>if cur=[]then []else [cur]
 |c::r=>if blank c=true then(if cur=[]then fieldsGo [] r else cur::fieldsGo [] r)else fieldsGo (cur++[c]) r
def fieldsB(s:List UInt8):List (List UInt8):=fieldsGo [] s
def iw(w:List UInt8):Bool:=match w with
 |[]=>true
 |c::_=>decide (c≠35)
def iJ(l:List UInt8):ByteArray:=⟨l.toArray⟩
def oU(s:List UInt8):List ByteArray:=((fieldsB s).takeWhile iw).map iJ
def fJ:ByteArray:=⟨#[103,114,111,117,112]⟩
def kG:ByteArray:=⟨#[116,97,103]⟩
def ja:ByteArray:=⟨#[104,111,115,116]⟩
def jv:ByteArray:=⟨#[97,99,99,101,112,116]⟩
def Fa:ByteArray:=⟨#[61]⟩
def MP:ByteArray:=⟨#[97,110,121]⟩
def xk:ByteArray:=⟨#[102,114,111,109]⟩
def Ph:ByteArray:=⟨#[116,111]⟩
def ny:ByteArray:=⟨#[112,111,114,116,115]⟩
def xn:ByteArray:=⟨#[42]⟩
def tt:ByteArray:=⟨#[117,115,101,114]⟩
def Ak:ByteArray:=⟨#[110,101,116]⟩
def BW:ByteArray:=⟨#[105,99,109,112]⟩
def MQ:ByteArray:=⟨#[116,99,112]⟩
def MR:ByteArray:=⟨#[117,100,112]⟩
def qS(l:List Nm)(s:ByteArray):Bool:=l.any fun n=>decide (n.name=s)
def zn(l:List Hs)(s:ByteArray):Bool:=l.any fun n=>decide (n.name=s)
def iK(p:Po)(s:kD):Bool:=if s.kind=3 then qS p.groups s.name else if s.kind=4 then qS p.tags s.name else if s.kind=5 then zn p.hosts s.name else true
abbrev Bad:=Nat×Nat
def j8:List ByteArray→Nat→Nat→Except Bad (List ByteArray)
 |[],_,_=>.ok []
 |s::r,i,c=>if cQ s=false then .error (191,i)else if 64≤c then .error (198,i)else(j8 r (i+1) (c+1)).map (s::·)
def my(ws:List ByteArray)(told:List Nm):Except Bad Nm:=if 64≤told.length then .error (198,0)else
 match ws with
 |_::nm::r=>
  if cQ nm=false then .error (191,1)else if qS told nm=true then .error (197,1)else
  match r with
  |e::r'=>if e≠Fa then .error (190,2)else if r'=[]then .error (190,3)else(j8 r' 3 0).map (⟨nm,·⟩)
  |[]=>.error (190,2)
 |_=>.error (190,ws.length)
def uC(ws:List ByteArray)(told:List Hs):Except Bad Hs:=if 64≤told.length then .error (198,0)else
 match ws with
 |_::nm::r=>
  if cQ nm=false then .error (191,1)else if zn told nm=true then .error (197,1)else
  match r with
  |e::r'=>if e≠Fa then .error (190,2)else
   match r' with
   |[]=>.error (190,3)
   |t::r''=>match i6 t.data.toList with
    |none=>.error (192,3)
    |some n=>if r''≠[]then .error (190,4)else .ok ⟨nm,n⟩
  |[]=>.error (190,2)
 |_=>.error (190,ws.length)
def gZ(w:List UInt8):Nat:=if iJ w=BW then 1 else if iJ w=MQ then 6 else if iJ w=MR then 17 else 0
def fQ(last:Nat):List (List UInt8)→Option (List Nat)
 |[]=>some []
 |w::r=>if gZ w=0∨gZ w≤last then none else(fQ (gZ w) r).map (gZ w::·)
def iW(w:ByteArray):Option (List Nat):=if w=MP then some []else fQ 0 (dx 44 w.data.toList)
def ia(w:List UInt8):Nat:=if iJ w=tt then 2 else if iJ w=fJ then 3 else if iJ w=kG then 4 else if iJ w=ja then 5 else if iJ w=Ak then 6 else 0
def mM(w:ByteArray):Option kD:=if w=xn then some ⟨1,lL,Pf.zero⟩else
 let c:=Lib.cut w.data.toList [58]
 if ia c.1=6 then(i6 c.2.1).map fun n=>⟨6,lL,n⟩
 else if 0<ia c.1∧oS c.2.1=true then some ⟨ia c.1,iJ c.2.1,Pf.zero⟩else none
def dZ(en:ByteArray):List ByteArray→Nat→Nat→Except Bad (List (kD×Nat)×List ByteArray)
 |[],i,c=>if c=0 then .error (190,i)else .ok ([],[])
 |w::r,i,c=>if w=en∧c≠0 then .ok ([],w::r)else match mM w with
  |none=>.error (195,i)
  |some s=>if 64≤c then .error (198,i)else(dZ en r (i+1) (c+1)).map fun x=>((s,i)::x.1,x.2)
def uD(s:List UInt8):Option Nat:=(num1 10 65536 s).bind fun n=>if cP n=s then some n else none
def mA(w:ByteArray):Option (Nat×Nat):=let c:=Lib.cut w.data.toList [45]
 match uD c.1,uD (if c.2.2=true then c.2.1 else c.1)with
 |some a,some b=>if a≤b then some (a,b)else none
 |_,_=>none
def jw:List ByteArray→Nat→Nat→Except Bad (List (Nat×Nat))
 |[],_,_=>.ok []
 |w::r,i,c=>match mA w with
  |none=>.error (193,i)
  |some x=>if 64≤c then .error (198,i)else(jw r (i+1) (c+1)).map (x::·)
def lU(ws:List ByteArray)(told:Nat):Except Bad (Ac×List (kD×Nat)):=if 64≤told then .error (198,0)else
 match ws with
 |_::pr::r=>match iW pr with
  |none=>.error (194,1)
  |some ps=>match r with
   |[]=>.error (190,2)
   |f::r'=>if f≠xk then .error (190,2)else
    match dZ Ph r' 3 0 with
    | .error e=>.error e
    | .ok (src,r2)=>match r2 with
      |[]=>.error (190,ws.length)
      |_::r3=>match dZ ny r3 (ws.length-r3.length) 0 with
       | .error e=>.error e
       | .ok (dst,r4)=>match r4 with
         |[]=>.ok (⟨ps,src.map (·.1),dst.map (·.1),[]⟩,src++dst)
         |_::r5=>if r5=[]then .error (190,ws.length)else
          (jw r5 (ws.length-r5.length) 0).map fun po=>(⟨ps,src.map (·.1),dst.map (·.1),po⟩,src++dst)
 |_=>.error (190,ws.length)
structure qE where
 p:Po
 used:List (kD×Nat×Nat)
def fB(b:qE)(n:Nat)(ws:List ByteArray):Except Bad qE:=match ws with
 |[]=>.ok b
 |w::_=>
  if w=fJ then(my ws b.p.groups).map fun x=>{b with p:={b.p with groups:=b.p.groups++[x]}}
  else if w=kG then(my ws b.p.tags).map fun x=>{b with p:={b.p with tags:=b.p.tags++[x]}}
  else if w=ja then(uC ws b.p.hosts).map fun x=>{b with p:={b.p with hosts:=b.p.hosts++[x]}}
  else if w=jv then(lU ws b.p.lP.length).map fun x=>{p:={b.p with lP:=b.p.lP++[x.1]},used:=b.used++x.2.map fun y=>(y.1,n,y.2)}
  else .error (190,0)
abbrev Flt:=Nat×Nat×Nat
def qT:List (List UInt8)→Nat→qE→Except Flt qE
 |[],_,b=>.ok b
 |l::r,n,b=>match fB b n (oU l)with
  | .error e=>.error (e.1,n,e.2)
  | .ok b'=>qT r (n+1) b'
def jb(s:List UInt8):Po×Flt:=if 8192<s.length then(Po.zero,(4,0,0))else
 match qT (dx 10 s) 1 ⟨Po.zero,[]⟩with
 | .error e=>(Po.zero,e)
 | .ok b=>match b.used.find? fun u=> !iK b.p u.1 with
   |some u=>(Po.zero,(196,u.2))
   |none=>(b.p,(0,0,0))
def BX(s:kD):List UInt8:=if s.kind=1 then [42]else if s.kind=2 then tt.data.toList++58::s.name.data.toList else if s.kind=3 then fJ.data.toList++58::s.name.data.toList
 else if s.kind=4 then kG.data.toList++58::s.name.data.toList else if s.kind=5 then ja.data.toList++58::s.name.data.toList else if s.kind=6 then Ak.data.toList++58::qD s.net else []
def abk(l:List (List UInt8)):List UInt8:=Lib.join l [32]++[10]
def distinct:List ByteArray→Bool
 |[]=>true
 |s::r=> !(r.any fun t=>decide (t=s))&&distinct r
def Am(l:List Nm):Bool:=(l.all fun n=>cQ n.name&&decide (1≤n.list.length)&&decide (n.list.length≤64)&&n.list.all cQ)&&decide (l.length≤64)&&distinct (l.map (·.name))
def vR(p:Po)(l:List kD):Bool:=(l.all fun s=>decide (mM (iJ (BX s))=some s)&&iK p s)&&decide (1≤l.length)&&decide (l.length≤64)
def rising:Nat→List Nat→Bool
 |_,[]=>true
 |last,x::r=>decide (last<x)&&rising x r
def Tj(p:Po)(a:Ac):Bool:=(a.jO.all fun x=>decide (x.1≤x.2))&&(a.i7.all fun x=>decide (x=1)||decide (x=6)||decide (x=17))&&rising 0 a.i7&&decide (a.jO.length≤64)&&vR p a.src&&vR p a.dst
def abZ(p:Po):Bool:=Am p.groups&&Am p.tags&&decide (p.hosts.length≤64)&&decide (p.lP.length≤64)&&(p.hosts.all fun h=>cQ h.name&&rD h.net)&&(p.lP.all (Tj p))&&distinct (p.hosts.map (·.name))
theorem oV:∀(w cur r:List UInt8),(∀c∈w,blank c=false)→fieldsGo cur (w++r)=fieldsGo (cur++w) r:=by
 intro w
 induction w with
 |nil=>intro cur r _;simp
 |cons c w ih=>
  intro cur r h;have hc:=h c (cJ ..);rw[List.cons_append,fieldsGo,hc,if_neg aJ,ih _ _ fun d hd=>h d (cB _ hd)];simp
theorem I5(x y:List UInt8)(r:List (List UInt8))(c:List UInt8):Lib.join (x::y::r) c=x++c++Lib.join (y::r) c:=by rw[li,List.append_assoc]
theorem zo{α:Type}(p:α→Bool):∀(l:List α),(∀x∈l,p x=true)→l.takeWhile p=l:=by
 intro l
 induction l with
 |nil=>intro _;rfl
 |cons x r ih=>intro h;rw[List.takeWhile_cons,h x (cJ ..),if_pos rfl,ih fun y hy=>h y (cB _ hy)]
theorem rE(b:ByteArray):iJ b.data.toList=b:=by
 unfold iJ;rw[Array.toArray_toList]
theorem YQ{c:UInt8}(h:az c=true):BV c=true:=by unfold BV;rw[h];rfl
structure af8(n:Nm):Prop where
 name:cQ n.name=true
 ge:1≤n.list.length
 le:n.list.length≤64
 all:∀s∈n.list,cQ s=true
def vS(x:Nat):Bool:=decide (x=1)||decide (x=6)||decide (x=17)
theorem YR(s:List UInt8)(c:UInt8):(c∉s∧Lib.cut s [c]=(s,[],false))∨(∃x y,s=x++c::y∧c∉x∧Lib.cut s [c]=(x,y,true)):=by
 by_cases h:c∈s
 ·right;obtain⟨x,y,e,hx⟩:=List.eq_append_cons_of_mem h;exact⟨x,y,e,hx,by rw[e];exact EY y hx⟩
 ·exact Or.inl ⟨h,BU h⟩
theorem Fb:i6 []=none:=by rfl
inductive ad6(w:ByteArray)(s:kD):Prop where
 |star (h1:w=xn) (h2:s=⟨1,lL,Pf.zero⟩)
 |named (k nm:List UInt8) (h0:w.data.toList=k++58::nm) (h1:ia k≠6) (h2:0<ia k) (h3:oS nm=true) (h4:s=⟨ia k,iJ nm,Pf.zero⟩)
 |net (k t:List UInt8) (n:Pf) (h0:w.data.toList=k++58::t) (h1:ia k=6) (h2:i6 t=some n) (h3:s=⟨6,lL,n⟩)
theorem MS{w:ByteArray}{s:kD}(h:mM w=some s):ad6 w s:=by
 unfold mM at h;split at h
 ·next e=>injection h with h;exact .star e h.symm
 ·simp only at h;rcases YR w.data.toList 58 with⟨_,e⟩|⟨x,y,e0,_,e⟩
  ·rw[e]at h;simp only[Fb]at h;split at h
   ·cases h
   ·split at h
    ·next hh=>exact absurd hh.2 (by decide)
    ·cases h
  ·rw[e]at h;simp only at h;split at h
   ·next h6=>
    cases hp:i6 y with
    |none=>rw[hp]at h;cases h
    |some n=>
     rw[hp]at h;injection h with h
     exact .net x y n e0 h6 hp h.symm
   ·next h6=>
    split at h
    ·next hh=>injection h with h;exact .named x y e0 h6 hh.1 hh.2 h.symm
    ·cases h
theorem oW{k:List UInt8}(h:0<ia k):(ia k=2∧k=tt.data.toList)∨(ia k=3∧k=fJ.data.toList)∨(ia k=4∧k=kG.data.toList)∨(ia k=5∧k=ja.data.toList)∨(ia k=6∧k=Ak.data.toList):=by
 have inj:∀b:ByteArray,iJ k=b→k=b.data.toList:=fun b e=>by rw[←e];rfl
 unfold ia at h⊢;split
 ·next e=>exact Or.inl ⟨rfl,inj _ e⟩
 ·split
  ·next e=>exact Or.inr (Or.inl ⟨rfl,inj _ e⟩)
  ·split
   ·next e=>exact Or.inr (Or.inr (Or.inl ⟨rfl,inj _ e⟩))
   ·split
    ·next e=>exact Or.inr (Or.inr (Or.inr (Or.inl ⟨rfl,inj _ e⟩)))
    ·split
     ·next e=>exact Or.inr (Or.inr (Or.inr (Or.inr ⟨rfl,inj _ e⟩)))
     ·next e1 e2 e3 e4 e5=>rw[if_neg e1,if_neg e2,if_neg e3,if_neg e4,if_neg e5]at h;cases h
theorem YS{w:ByteArray}{s:kD}(h:mM w=some s):iJ (BX s)=w:=by
 cases MS h with
 |star h1 h2=>subst h1 h2;rfl
 |named k nm h0 h1 h2 h3 h4=>
  subst h4;have e:w=iJ (k++58::nm):=by rw[←h0,rE]
  rw[e];unfold BX;rcases oW h2 with⟨e1,e2⟩|⟨e1,e2⟩|⟨e1,e2⟩|⟨e1,e2⟩|⟨e1,e2⟩
  ·simp only[e1];rw[e2];rfl
  ·simp only[e1];rw[e2];rfl
  ·simp only[e1];rw[e2];rfl
  ·simp only[e1];rw[e2];rfl
  ·exact absurd e1 h1
 |net k t n h0 h1 h2 h3=>
  subst h3;have e:w=iJ (k++58::t):=by rw[←h0,rE]
  rw[e];rcases oW (show 0<ia k by omega)with⟨e1,e2⟩|⟨e1,e2⟩|⟨e1,e2⟩|⟨e1,e2⟩|⟨e1,e2⟩
  ·omega
  ·omega
  ·omega
  ·omega
  ·unfold BX;rw[e2];simp only;rw[(oR h2).1];rfl
theorem I6{w:ByteArray}{s:kD}(h:mM w=some s):mM (iJ (BX s))=some s:=by rw[YS h];exact h
structure ad7(a:Ac):Prop where
 rise:rising 0 a.i7=true
 i7:∀x∈a.i7,vS x=true
 src:∀s∈a.src,mM (iJ (BX s))=some s
 dst:∀s∈a.dst,mM (iJ (BX s))=some s
 ahq:1≤a.src.length
 ahk:a.src.length≤64
 ahr:1≤a.dst.length
 ahl:a.dst.length≤64
 jO:∀x∈a.jO,x.1≤x.2∧x.2<65536
 af6:a.jO.length≤64
structure af9(x:Hs):Prop where
 name:cQ x.name=true
 may:rD x.net=true
 ok:x.net.Ok
structure ad8(p:Po):Prop where
 hosts:∀h∈p.hosts,h.net.Ok
 jO:∀a∈p.lP,∀x∈a.jO,x.1<65536∧x.2<65536
theorem xo{p:Po}{l:List kD}(h:vR p l=true):(∀s∈l,mM (iJ (BX s))=some s∧iK p s=true)∧1≤l.length∧l.length≤64:=by
 unfold vR at h;simp only[aU,decide_eq_true_eq]at h;obtain⟨⟨h1,h2⟩,h3⟩:=h;refine⟨fun s hs=>?_,h2,h3⟩;have:=List.all_eq_true.1 h1 s hs;simpa only[aU,decide_eq_true_eq]using this
theorem YT{p:Po}(h:abZ p=true):Am p.groups=true∧Am p.tags=true∧p.hosts.length≤64∧p.lP.length≤64∧(∀x∈p.hosts,cQ x.name=true∧rD x.net=true)∧(∀a∈p.lP,Tj p a=true)∧distinct (p.hosts.map (·.name))=true:=by
 unfold abZ at h;simp only[aU,decide_eq_true_eq]at h;obtain⟨⟨⟨⟨⟨⟨h1,h2⟩,h3⟩,h4⟩,h5⟩,h6⟩,h7⟩:=h;refine⟨h1,h2,h3,h4,fun x hx=>?_,fun a ha=>List.all_eq_true.1 h6 a ha,h7⟩;have:=List.all_eq_true.1 h5 x hx;simpa only[aU]using this
end Go.Proofs.YtkjaajcpbldjoabGreatDoor
