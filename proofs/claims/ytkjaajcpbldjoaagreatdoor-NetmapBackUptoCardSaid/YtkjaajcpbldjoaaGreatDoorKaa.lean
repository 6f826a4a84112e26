/- Joined out of: Hb W RgE RgX Tk Shelf SuA IpA IpB IpC TxA Ad IpD TxB TxC TxD TxE PoA PoB PoC PoD PoE PoF. -/
import Derived.WalkKit
import Derived.Lib.Hide
import Derived.Deep.RegionHeld
import Derived.WalkSpells
import Derived.WalkLawsBesides
import Derived.Deep.Draws
import Derived.Deep.RegionHeldLaw
import Derived.Shelf.Strings.Builder1
import Derived.Shelf.Strings.Builder2
import Derived.Shelf.Strings.OnBuilder
import Derived.Shelf.Strings.Trim
import Derived.Shelf.Small.Utf8
import Derived.Shelf.Small.Bits
import Derived.Shelf.Small.Strs
import Derived.Shelf.Strings.BuilderF
import Derived.Shelf.Strings.BuilderK
import Derived.Shelf.Utf8.RuneCount
import Derived.Shelf.Strings.Builder2Cap
import Derived.Shelf.Strconv.Itoa0
import Derived.Shelf.Strconv.Itoa1
import Derived.Shelf.LaysM
import Derived.Shelf.Strconv.Itoa2
import Derived.Shelf.Strconv.Itoa3
import Derived.Shelf.Strconv.Clone
import Derived.Shelf.Strconv.SyntaxError
import Derived.Shelf.LaysC
import Derived.Shelf.Strconv.ToError
import Derived.Shelf.Strconv.Lower
import Derived.Shelf.Strconv.ParseUint10
import Derived.Shelf.Strconv.ParseUint10Empty
import Derived.Shelf.Strconv.ParseUint10Any
import Derived.Shelf.Strconv.RangeError
import Derived.Shelf.Strconv.ToErrorRange
import Derived.Shelf.Strconv.ParseUintEmpty
import Derived.Shelf.Strconv.ParseUint10b64
import Derived.Shelf.Strconv.ParseUint10b32
import Derived.Shelf.Strconv.ParseUint10b16
import Derived.Shelf.Strconv.ParseUint10b8
import Derived.Shelf.Strconv.ParseUint10At
import Derived.Ground.MpProg
import Derived.Shelf.Pu.ParseUintPublic10
import Derived.Shelf.Pu.ErrVarParseUint
import Derived.Shelf.Strings.Search1
import Derived.Shelf.Strings.Search2
import Derived.Shelf.Strings.Search3
import Derived.Shelf.Strings.Cut
import Derived.Shelf.Strings.Count
import Derived.Shelf.Strings.Shaped
import Derived.Shelf.Strings.Split
import Derived.Shelf.Strings.SplitShaped
import Derived.Shelf.Unicode.Decode
import Derived.Shelf.Strings.Runes
import Derived.Shelf.Strings.RuneCount
import Derived.Shelf.Strings.AsciiSet
import Derived.Shelf.Strings.Explode
import Derived.Shelf.Unicode.DecodeSlow
import Derived.Shelf.Unicode.DecodeAny
import Derived.Shelf.Unicode.DecodeLast
import Derived.Shelf.Strings.FieldsFuncAny
import Derived.Shelf.Strings.FieldsFuncGrows
import Derived.Shelf.Strings.BuilderCap
import Derived.Shelf.Slices.Turned
import Derived.Shelf.Slices.Equal
import Derived.Ground.Names2Prog
import Derived.Shelf.Slices.Clone
import Derived.Ground.SlgnProg
import Derived.Shelf.SlicesE.Clone
import Derived.Test.YtkjaajcpbldjoaaGreatDoorProg
import Derived.Test.YtkjaajcpbldjoaaGreatDoorRows
import Derived.BigQuiet
import Derived.Deep.QuietTactic
import Derived.Laws.IdiomStrings
import Derived.Laws.BitsAllLaws
import Derived.IntWalk
import Derived.Lib.Split
import Derived.Lib.Join
import Derived.Lib.ItoaNum
set_option linter.unusedVariables false
set_option linter.unusedSimpArgs false
set_option maxHeartbeats 16000000
set_option maxRecDepth 100000
open Array renaming getElem?_eq_getElem→kt,getElem?_eq_none→ahM
open Bool renaming and_eq_true→aX
open ByteArray renaming empty→lJ
open Go.Lib renaming decDigits→cM,parseUintB→ah2
open Go.Proofs.Tryz renaming prog→ah,underlying9→bn,underlying5→cB,underlying67→cR,underlying4→kD,underlying27→abb,zeroValue3→adS,underlying3→ahB,zeroValue5→ahH,underlying22→ahK,zeroValue4→ahP,zeroValue9→ahQ,underlying0→ahZ
open Go.RowKit renaming Hid→ag
open Go.RowKit.Below renaming refl→aM
open List renaming length_append→ai,length_map→ay,range→aF,replicate→aS,length_cons→bO,mem_cons_of_mem→cz,mem_cons_self→cP,length_singleton→dn,map_cons→i6,mem_of_getElem?→kE,length_drop→zb,length_take→zc
open Nat renaming le_refl→aA,zero_le→bh,lt_of_lt_of_le→ahF,lt_or_ge→ahL
open UInt8 renaming ofNat→ahT
namespace Go.Proofs.YtkjaajcpbldjoaaGreatDoor
open Go.RowKit
theorem aN{p0 p1:Prop}(h0:p0)(h1:p1):ag p0∧ag p1:=⟨h0,h1⟩
theorem bu{p0 p1 p2:Prop}(h0:p0)(h1:p1)(h2:p2):ag p0∧ag p1∧ag p2:=⟨h0,h1,h2⟩
theorem cY{p0 p1 p2 p3:Prop}(h0:p0)(h1:p1)(h2:p2)(h3:p3):ag p0∧ag p1∧ag p2∧ag p3:=⟨h0,h1,h2,h3⟩
theorem ej{p0 p1 p2 p3 p4:Prop}(h0:p0)(h1:p1)(h2:p2)(h3:p3)(h4:p4):ag p0∧ag p1∧ag p2∧ag p3∧ag p4:=⟨h0,h1,h2,h3,h4⟩
theorem mL{p0 p1 p2 p3 p4 p5:Prop}(h0:p0)(h1:p1)(h2:p2)(h3:p3)(h4:p4)(h5:p5):ag p0∧ag p1∧ag p2∧ag p3∧ag p4∧ag p5:=⟨h0,h1,h2,h3,h4,h5⟩
theorem mM{p0 p1 p2 p3 p4 p5 p6:Prop}(h0:p0)(h1:p1)(h2:p2)(h3:p3)(h4:p4)(h5:p5)(h6:p6):ag p0∧ag p1∧ag p2∧ag p3∧ag p4∧ag p5∧ag p6:=⟨h0,h1,h2,h3,h4,h5,h6⟩
theorem SA{p0 p1 p2 p3 p4 p5 p6 p7:Prop}(h0:p0)(h1:p1)(h2:p2)(h3:p3)(h4:p4)(h5:p5)(h6:p6)(h7:p7):ag p0∧ag p1∧ag p2∧ag p3∧ag p4∧ag p5∧ag p6∧ag p7:=⟨h0,h1,h2,h3,h4,h5,h6,h7⟩
theorem SC{p0 p1 p2 p3 p4 p5 p6 p7 p8:Prop}(h0:p0)(h1:p1)(h2:p2)(h3:p3)(h4:p4)(h5:p5)(h6:p6)(h7:p7)(h8:p8):ag p0∧ag p1∧ag p2∧ag p3∧ag p4∧ag p5∧ag p6∧ag p7∧ag p8:=⟨h0,h1,h2,h3,h4,h5,h6,h7,h8⟩
theorem adT{p0 p1 p2 p3 p4 p5 p6 p7 p8 p9:Prop}(h0:p0)(h1:p1)(h2:p2)(h3:p3)(h4:p4)(h5:p5)(h6:p6)(h7:p7)(h8:p8)(h9:p9):ag p0∧ag p1∧ag p2∧ag p3∧ag p4∧ag p5∧ag p6∧ag p7∧ag p8∧ag p9:=⟨h0,h1,h2,h3,h4,h5,h6,h7,h8,h9⟩
theorem EB{p0 p1 p2 p3 p4 p5 p6 p7 p8 p9 p10:Prop}(h0:p0)(h1:p1)(h2:p2)(h3:p3)(h4:p4)(h5:p5)(h6:p6)(h7:p7)(h8:p8)(h9:p9)(h10:p10):ag p0∧ag p1∧ag p2∧ag p3∧ag p4∧ag p5∧ag p6∧ag p7∧ag p8∧ag p9∧ag p10:=⟨h0,h1,h2,h3,h4,h5,h6,h7,h8,h9,h10⟩
theorem oP{p0 p1 p2 p3 p4 p5 p6 p7 p8 p9 p10 p11:Prop}(h0:p0)(h1:p1)(h2:p2)(h3:p3)(h4:p4)(h5:p5)(h6:p6)(h7:p7)(h8:p8)(h9:p9)(h10:p10)(h11:p11):ag p0∧ag p1∧ag p2∧ag p3∧ag p4∧ag p5∧ag p6∧ag p7∧ag p8∧ag p9∧ag p10∧ag p11:=⟨h0,h1,h2,h3,h4,h5,h6,h7,h8,h9,h10,h11⟩
theorem bo{p:Prop}(h:p:=by kernel_rfl):p:=h
theorem aQ{p:Prop}(h:p:=by omega):p:=h
theorem aH{p:Prop}(h:p:=by decide):p:=h
theorem bq{α:Sort _}(a:α):∃x,x=a:=⟨_,rfl⟩
@[reducible]def aW(w:World):World→Prop:=RowKit.Below w.heap.size w
@[reducible]def au:Value:=.slice none 0 0
@[reducible]def aI:Value:=.string ⟨#[]⟩
def aG(w:World)(g:Nat)(t:TypeId)(cs:Array Value):Prop:=w.heap[g]? =some (.cells cs t (0,0))
section
variable{w w':World}{g:Nat}{t:TypeId}{cs:Array Value}
theorem aG.lt(h:aG w g t cs):g<w.heap.size:=by
 rcases ahL g w.heap.size with hlt|hge
 ·exact hlt
 ·unfold aG at h;rw[ahM hge]at h;cases h
theorem aG.cell(h:aG w g t cs)(i:Nat):w.cell? ⟨g,i,none⟩=cs[i]? :=cell_of_row w g i cs t (0,0) h
theorem aG.frozen(h:aG w g t cs)(i:Nat):w.frozen? ⟨g,i,none⟩=false:=by
 unfold aG at h;simp[World.frozen?,h]
theorem aG.new(w:World)(t:TypeId)(cs:Array Value):aG (w.alloc (.cells cs t)) w.heap.size t cs:=heap_alloc_new w _
theorem aG.drew(h:aG w g t cs):aG w.drew g t cs:=h
theorem aG.drewN(h:aG w g t cs)(n:Nat):aG (w.drewN n) g t cs:=h
theorem aG.alloc(h:aG w g t cs)(o:Obj):aG (w.alloc o) g t cs:=(Below.heap_alloc w o g h.lt).trans h
theorem aG.aL(h:aG w g t cs)(i:Nat)(u:Value):aG (w.setCell ⟨g,i,none⟩ u) g t (cs.setIfInBounds i u):=by
 unfold aG at h⊢;simp[World.setCell,Array.getElem?_modify,h]
theorem aG.far(h:aG w g t cs){p:Addr}(hp:g≠p.block)(u:Value):aG (w.setCell p u) g t cs:=(Below.heap_setCell w p u g hp).trans h
theorem aG.below{B:Nat}(h:aG w g t cs)(hb:Below B w w')(hg:g<B):aG w' g t cs:=(hb.block g hg).trans h
theorem aG.grown{row:Option Nat}(h:aG w g t cs)(hb:w.grownBy w' row)(hg:some g≠row):aG w' g t cs:=(hb.block g h.lt hg).trans h
theorem aG.vP{g':Nat}{t':TypeId}{cs':Array Value}(h:aG w g t cs)(h':aG w g' t' cs')(hne:t≠t'):g≠g':=by
 rintro rfl;unfold aG at h h';rw[h]at h';injection h' with h'
 injection h' with _ ht
 exact hne ht
end
structure Keeps(S:Nat→Prop)(w w':World):Prop where
 os:w'.os=w.os
 tape:w'.tape=w.tape
 output:w'.output=w.output
 size:w.heap.size≤w'.heap.size
 block:∀k,k<w.heap.size→¬S k→w'.heap[k]? =w.heap[k]?
section
variable{S T:Nat→Prop}{a b c w w':World}
theorem Keeps.refl(S:Nat→Prop)(w:World):Keeps S w w:=⟨rfl,rfl,rfl,aA _,fun _ _ _=>rfl⟩
theorem Keeps.trans(h:Keeps S a b)(k:Keeps S b c):Keeps S a c:=⟨k.os.trans h.os,k.tape.trans h.tape,k.output.trans h.output,Nat.le_trans h.size k.size,fun i hi hs=>(k.block i (ahF hi h.size) hs).trans (h.block i hi hs)⟩
theorem Keeps.mono(h:Keeps S a b)(hst:∀k,k<a.heap.size→S k→T k):Keeps T a b:=⟨h.os,h.tape,h.output,h.size,fun k hk hT=>h.block k hk fun hs=>hT (hst k hk hs)⟩
theorem Keeps.drew(h:Keeps S a w):Keeps S a w.drew:=⟨h.os,h.tape,h.output,h.size,h.block⟩
theorem Keeps.drewN(h:Keeps S a w)(n:Nat):Keeps S a (w.drewN n):=⟨h.os,h.tape,h.output,h.size,h.block⟩
theorem Keeps.alloc(h:Keeps S a w)(o:Obj):Keeps S a (w.alloc o):=⟨h.os,h.tape,h.output,Nat.le_trans h.size (by simp),fun i hi hs=>(Below.heap_alloc w o i (ahF hi h.size)).trans (h.block i hi hs)⟩
theorem Keeps.setCell(h:Keeps S a w){p:Addr}(hp:S p.block∨a.heap.size≤p.block)(u:Value):Keeps S a (w.setCell p u):=⟨h.os,h.tape,h.output,by simpa[World.setCell]using h.size,fun i hi hs=>(Below.heap_setCell w p u i (by
 rintro rfl;rcases hp with hp|hp
 ·exact hs hp
 ·omega)).trans (h.block i hi hs)⟩
theorem Keeps.of_below{B:Nat}(h:Below B a b)(hS:∀k,k<a.heap.size→¬S k→k<B):Keeps S a b:=⟨h.os,h.tape,h.output,h.size,fun i hi hs=>h.block i (hS i hi hs)⟩
theorem Keeps.below{B:Nat}(h:Keeps S a b)(hS:∀k,S k→B≤k)(hB:B≤a.heap.size):Below B a b:=⟨h.os,h.tape,h.output,h.size,fun k hk=>h.block k aQ fun hs=>by have:=hS k hs;omega⟩
theorem Keeps.SD{row:Option Nat}(h:a.grownBy b row)(hS:∀k,row=some k→S k):Keeps S a b:=⟨h.os,h.tape,h.output,h.size,fun k hk hs=>h.block k hk fun e=>hs (hS k e.symm)⟩
theorem aG.keep{g:Nat}{t:TypeId}{cs:Array Value}(h:aG w g t cs)(hk:Keeps S w w')(hg:¬S g):aG w' g t cs:=(hk.block g h.lt hg).trans h
theorem Keeps.below_drewN{B n:Nat}(h:Keeps S (a.drewN n) b)(hS:∀k,S k→B≤k)(hB:B≤a.heap.size):Below B a b:=have k:=h.below hS (show B≤(a.drewN n).heap.size from hB)
 ⟨k.os,k.tape,k.output,k.size,k.block⟩
end
theorem cell_far{w:World}{a c:Addr}{u:Value}(h:a.block≠c.block):(w.setCell a u).cell? c=w.cell? c:=World.cell?_setCell_other w a c u (fun e=>h (by rw[e]))
section
variable{P:Program}{ops:Array Oper}{Q:Exit→Act→World→Prop}{md:Region.Mode}{S:World→Prop}{E:Nat}
def gA(P:Program)(md:Region.Mode)(ops:Array Oper)(Q:Exit→Act→World→Prop)(S:World→Prop)(E:Nat):Nat→Array Bool→Act→World→Prop
 |0,l,a,w=>Region.ready md ops l=[]∧Q .normal a w
 |m+1,l,a,w=>(Region.ready md ops l=[]→Q .normal a w)∧∀i∈Region.ready md ops l,wpOp P ops Q i (fun a' w'=>(i≠E→S w')∧gA P md ops Q S E m (l.setIfInBounds i true) a' w') a w
theorem wX:∀(m:Nat)(l:Array Bool)(a:Act)(w:World),gA P md ops Q S E m l a w→wpAny P md ops Q m l a w
 |0,_,_,_,h=>h
 |m+1,_,_,_,h=>⟨h.1,fun i hi=>wpOp_mono (fun a' w' h'=>wX m _ a' w' h'.2) (h.2 i hi)⟩
theorem zR{l:Array Bool}{i j:Nat}{oj:Oper}(hu:l.getD i true=false)(hall:∀e∈oj.after,Region.binds md e=true→l.getD e.on false=true):∀e∈oj.after,Region.binds md e=true→e.on≠i:=by
 intro e he hb heq;have h1:=hall e he hb;rw[heq]at h1;rcases ahL i l.size with h'|h'
 ·simp[h']at hu h1;rw[hu]at h1;cases h1
 ·simp[ahM h']at h1
def waitsFor(md:Region.Mode)(ops:Array Oper)(E i:Nat):Bool:=((ops[E]?).map fun o=>o.after.any fun e=>Region.binds md e&&decide (e.on=i)).getD false
theorem Bn{i:Nat}{oi:Oper}{v:Value}(hi:ops[i]? =some oi)(hsel:∀(j:Nat)(o:Oper)cs b,ops[j]? =some o→o.op≠.select cs b)(hQ:∀c a w,Q (.panic c) (a.put oi.dst v) w→Q (.panic c) a w)(hE:waitsFor md ops E i=true)(hiE:i≠E):∀(m:Nat)(l:Array Bool)(a:Act)(w:World),(∀j oj,ops[j]? =some oj→j≠i→l.getD j true=false→(∀e∈oj.after,Region.binds md e=true→e.on≠i)→oi.apart ops oj=true)→i∈Region.ready md ops l→YieldsIf P ops S oi v a→S w→gA P md ops Q S E m (l.setIfInBounds i true) (a.put oi.dst v) w→gA P md ops Q S E (m+1) l a w:=by
 intro m
 induction m with
 |zero=>
  intro l a w _ hr hy hS H;refine⟨fun h=>(by rw[h]at hr;cases hr),fun j hj=>?_⟩;by_cases hji:j=i
  ·subst hji;exact hy.wpOp hi hS ⟨fun _=>hS,H⟩
  ·have:=ready_mono hj hji;rw[H.1]at this;cases this
 |succ m ih=>
  intro l a w hfree hr hy hS H;refine⟨fun h=>(by rw[h]at hr;cases hr),fun j hj=>?_⟩;by_cases hji:j=i
  ·subst hji;exact hy.wpOp hi hS ⟨fun _=>hS,H⟩
  ·have h1:=H.2 j (ready_mono hj hji);obtain⟨hjun,oj,hoj,hall⟩:=mem_ready.1 hj;have hnot:=zR (j:=j) (mem_ready.1 hr).1 hall;have hjE:j≠E:=by
    rintro rfl;unfold waitsFor at hE;rw[hoj]at hE;simp only[Option.map_some,Option.getD_some]at hE;obtain⟨e,he,h2⟩:=Array.any_eq_true'.1 hE;simp only[aX,decide_eq_true_eq]at h2;exact hnot e he h2.1 h2.2
   have h2:=wpOp_putIf hoj (hfree j oj hoj hji hjun hnot) (fun cs b=>hsel i oi cs b hi) (fun cs b=>hsel j oj cs b hoj) hQ hy h1;have hfree':∀k ok,ops[k]? =some ok→k≠i→(l.setIfInBounds j true).getD k true=false→(∀e∈ok.after,Region.binds md e=true→e.on≠i)→oi.apart ops ok=true:=fun k ok hk hki hun hno=>by
    refine hfree k ok hk hki ?_ hno;by_cases hjk:j=k
    ·subst hjk;exact hjun
    ·rw[getD_set_ne true hjk]at hun;exact hun
   refine wpOp_mono (fun a' w' h3=>⟨h3.2.1,ih (l.setIfInBounds j true) a' w' hfree' (ready_mono hr (Ne.symm hji)) h3.1 (h3.2.1 hjE) ?_⟩) h2;rw[Array.setIfInBounds_comm _ _ hji];exact h3.2.2
theorem EC{i:Nat}{oi:Oper}{v:Value}{m:Nat}{l:Array Bool}{a:Act}{w:World}(hi:ops[i]? =some oi)(hs:Region.noSelect ops=true)(hf:Region.free md ops l i=true)(hr:(Region.ready md ops l).contains i=true)(hQ:∀c a w,Q (.panic c) (a.put oi.dst v) w→Q (.panic c) a w)(hy:YieldsIf P ops S oi v a)(hS:S w)(hE:(waitsFor md ops E i&&decide (i≠E))=true)(h:gA P md ops Q S E m (l.setIfInBounds i true) (a.put oi.dst v) w):gA P md ops Q S E (m+1) l a w:=by
 simp only[aX,decide_eq_true_eq]at hE;exact Bn hi (Region.noSelect_spec hs) hQ hE.1 hE.2 m l a w (Region.free_spec hi hf) (by simpa using hr) hy hS h
def fN(P:Program)(md:Region.Mode)(ops:Array Oper)(Q:Exit→Act→World→Prop)(S:World→Prop)(E:Nat)(m:Nat)(l:Array Bool)(a:Act)(w:World)(rs:List Nat):Prop:=∀i∈rs,wpOp P ops Q i (fun a' w'=>(i≠E→S w')∧gA P md ops Q S E m (l.setIfInBounds i true) a' w') a w
theorem fN.nil{m:Nat}{l:Array Bool}{a:Act}{w:World}:fN P md ops Q S E m l a w []:=fun _ h=>by cases h
theorem fN.cons{m:Nat}{l:Array Bool}{a:Act}{w:World}{i:Nat}{o:Oper}{rs:List Nat}(ho:ops[i]? =some o)(h:∀K':Act→World→Prop,Shut (∀a w,(i≠E→S w)→((i≠E→S w)→gA P md ops Q S E m (l.setIfInBounds i true) a w)→K' a w)→if Region.wanted o (yielded ops a.tmps)=true then Oper.wp P o a w K' Q else K' (a.put o.dst undef) w)(hs:fN P md ops Q S E m l a w rs):fN P md ops Q S E m l a w (i::rs):=fun j hj=>by
 rcases List.mem_cons.1 hj with rfl|hj
 ·exact wpOp_step ho (fun K' hK=>h K' (fun a w hS hW=>hK a w ⟨hS,hW hS⟩))
 ·exact hs j hj
theorem rD{rs:List Nat}{m:Nat}{l:Array Bool}{a:Act}{w:World}(hr:Region.ready md ops l=rs)(hne:rs≠[])(h:fN P md ops Q S E m l a w rs):gA P md ops Q S E (m+1) l a w:=⟨fun h0=>absurd (hr▸h0) hne,hr▸h⟩
theorem EE{m:Nat}{l:Array Bool}{a:Act}{w:World}(hr:Region.ready md ops l=[])(h:Q .normal a w):gA P md ops Q S E m l a w:=by
 cases m with
 |zero=>exact⟨hr,h⟩
 |succ m=>exact⟨fun _=>h,fun i hi=>by rw[hr]at hi;cases hi⟩
theorem dW(E:Nat)(S:World→Prop){id:Nat}{a:Act}{w:World}(hm:P.follows .mixedOrders=true)(hS:S w.drew)(h:S w.drew→gA P .any ops Q S E ops.size (Array.replicate ops.size false) a w.drew):(Code.region id ops true).wp P Q a w:=wp_region_any hm (wX _ _ _ _ (h hS))
end
section
variable{P:Program}{ops:Array Oper}{Q:Exit→Act→World→Prop}{md:Region.Mode}{S:World→Prop}{E:Nat}
def gB(P:Program)(md:Region.Mode)(ops:Array Oper)(Q:Exit→Act→World→Prop)(S:World→Prop)(E:Nat):Nat→Array Bool→Act→World→Prop
 |0,l,a,w=>Region.ready md ops l=[]∧Q .normal a w
 |m+1,l,a,w=>(Region.ready md ops l=[]→Q .normal a w)∧∀i∈Region.ready md ops l,wpOp P ops Q i (fun a' w'=>(i<E→S w')∧gB P md ops Q S E m (l.setIfInBounds i true) a' w') a w
theorem wY:∀(m:Nat)(l:Array Bool)(a:Act)(w:World),gB P md ops Q S E m l a w→wpAny P md ops Q m l a w
 |0,_,_,_,h=>h
 |m+1,_,_,_,h=>⟨h.1,fun i hi=>wpOp_mono (fun a' w' h'=>wY m _ a' w' h'.2) (h.2 i hi)⟩
def oQ(md:Region.Mode)(ops:Array Oper)(E i:Nat):Bool:=(aF ops.size).all fun e=>decide (e<E)||waitsFor md ops e i
theorem EF{E i e:Nat}(h:oQ md ops E i=true)(he:E≤e)(hl:e<ops.size):waitsFor md ops e i=true:=by
 have:=List.all_eq_true.1 h e (List.mem_range.2 hl);rw[Bool.or_eq_true]at this;rcases this with h|h
 ·exact absurd (of_decide_eq_true h) (by omega)
 ·exact h
theorem Bo{i:Nat}{oi:Oper}{v:Value}(hi:ops[i]? =some oi)(hsel:∀(j:Nat)(o:Oper)cs b,ops[j]? =some o→o.op≠.select cs b)(hQ:∀c a w,Q (.panic c) (a.put oi.dst v) w→Q (.panic c) a w)(hE:oQ md ops E i=true)(hiE:i<E):∀(m:Nat)(l:Array Bool)(a:Act)(w:World),(∀j oj,ops[j]? =some oj→j≠i→l.getD j true=false→(∀e∈oj.after,Region.binds md e=true→e.on≠i)→oi.apart ops oj=true)→i∈Region.ready md ops l→YieldsIf P ops S oi v a→S w→gB P md ops Q S E m (l.setIfInBounds i true) (a.put oi.dst v) w→gB P md ops Q S E (m+1) l a w:=by
 intro m
 induction m with
 |zero=>
  intro l a w _ hr hy hS H;refine⟨fun h=>(by rw[h]at hr;cases hr),fun j hj=>?_⟩;by_cases hji:j=i
  ·subst hji;exact hy.wpOp hi hS ⟨fun _=>hS,H⟩
  ·have:=ready_mono hj hji;rw[H.1]at this;cases this
 |succ m ih=>
  intro l a w hfree hr hy hS H;refine⟨fun h=>(by rw[h]at hr;cases hr),fun j hj=>?_⟩;by_cases hji:j=i
  ·subst hji;exact hy.wpOp hi hS ⟨fun _=>hS,H⟩
  ·have h1:=H.2 j (ready_mono hj hji);obtain⟨hjun,oj,hoj,hall⟩:=mem_ready.1 hj;have hnot:=zR (j:=j) (mem_ready.1 hr).1 hall;have hjE:j<E:=by
    rcases ahL j E with hlt|hge
    ·exact hlt
    have hE:=EF hE hge (Array.getElem?_eq_some_iff.1 hoj).1;exfalso;unfold waitsFor at hE;rw[hoj]at hE;simp only[Option.map_some,Option.getD_some]at hE;obtain⟨e,he,h2⟩:=Array.any_eq_true'.1 hE;simp only[aX,decide_eq_true_eq]at h2;exact hnot e he h2.1 h2.2
   have h2:=wpOp_putIf hoj (hfree j oj hoj hji hjun hnot) (fun cs b=>hsel i oi cs b hi) (fun cs b=>hsel j oj cs b hoj) hQ hy h1;have hfree':∀k ok,ops[k]? =some ok→k≠i→(l.setIfInBounds j true).getD k true=false→(∀e∈ok.after,Region.binds md e=true→e.on≠i)→oi.apart ops ok=true:=fun k ok hk hki hun hno=>by
    refine hfree k ok hk hki ?_ hno;by_cases hjk:j=k
    ·subst hjk;exact hjun
    ·rw[getD_set_ne true hjk]at hun;exact hun
   refine wpOp_mono (fun a' w' h3=>⟨h3.2.1,ih (l.setIfInBounds j true) a' w' hfree' (ready_mono hr (Ne.symm hji)) h3.1 (h3.2.1 hjE) ?_⟩) h2;rw[Array.setIfInBounds_comm _ _ hji];exact h3.2.2
theorem EG{i:Nat}{oi:Oper}{v:Value}{m:Nat}{l:Array Bool}{a:Act}{w:World}(hi:ops[i]? =some oi)(hs:Region.noSelect ops=true)(hf:Region.free md ops l i=true)(hr:(Region.ready md ops l).contains i=true)(hQ:∀c a w,Q (.panic c) (a.put oi.dst v) w→Q (.panic c) a w)(hy:YieldsIf P ops S oi v a)(hS:S w)(hE:(oQ md ops E i&&decide (i<E))=true)(h:gB P md ops Q S E m (l.setIfInBounds i true) (a.put oi.dst v) w):gB P md ops Q S E (m+1) l a w:=by
 simp only[aX,decide_eq_true_eq]at hE;exact Bo hi (Region.noSelect_spec hs) hQ hE.1 hE.2 m l a w (Region.free_spec hi hf) (by simpa using hr) hy hS h
def i7(P:Program)(md:Region.Mode)(ops:Array Oper)(Q:Exit→Act→World→Prop)(S:World→Prop)(E:Nat)(m:Nat)(l:Array Bool)(a:Act)(w:World)(rs:List Nat):Prop:=∀i∈rs,wpOp P ops Q i (fun a' w'=>(i<E→S w')∧gB P md ops Q S E m (l.setIfInBounds i true) a' w') a w
theorem i7.nil{m:Nat}{l:Array Bool}{a:Act}{w:World}:i7 P md ops Q S E m l a w []:=fun _ h=>by cases h
theorem i7.cons{m:Nat}{l:Array Bool}{a:Act}{w:World}{i:Nat}{o:Oper}{rs:List Nat}(ho:ops[i]? =some o)(h:∀K':Act→World→Prop,Shut (∀a w,(i<E→S w)→((i<E→S w)→gB P md ops Q S E m (l.setIfInBounds i true) a w)→K' a w)→if Region.wanted o (yielded ops a.tmps)=true then Oper.wp P o a w K' Q else K' (a.put o.dst undef) w)(hs:i7 P md ops Q S E m l a w rs):i7 P md ops Q S E m l a w (i::rs):=fun j hj=>by
 rcases List.mem_cons.1 hj with rfl|hj
 ·exact wpOp_step ho (fun K' hK=>h K' (fun a w hS hW=>hK a w ⟨hS,hW hS⟩))
 ·exact hs j hj
theorem Bq{rs:List Nat}{m:Nat}{l:Array Bool}{a:Act}{w:World}(hr:Region.ready md ops l=rs)(hne:rs≠[])(h:i7 P md ops Q S E m l a w rs):gB P md ops Q S E (m+1) l a w:=⟨fun h0=>absurd (hr▸h0) hne,hr▸h⟩
theorem EI{m:Nat}{l:Array Bool}{a:Act}{w:World}(hr:Region.ready md ops l=[])(h:Q .normal a w):gB P md ops Q S E m l a w:=by
 cases m with
 |zero=>exact⟨hr,h⟩
 |succ m=>exact⟨fun _=>h,fun i hi=>by rw[hr]at hi;cases hi⟩
theorem kf(E:Nat)(S:World→Prop){id:Nat}{a:Act}{w:World}(hm:P.follows .mixedOrders=true)(hS:S w.drew)(h:S w.drew→gB P .any ops Q S E ops.size (Array.replicate ops.size false) a w.drew):(Code.region id ops true).wp P Q a w:=wp_region_any hm (wY _ _ _ _ (h hS))
end
section
variable{P:Program}{ops:Array Oper}{Q:Exit→Act→World→Prop}{md:Region.Mode}{S:World→Prop}{E:Nat}
theorem pV(i:Nat){o:Oper}{v:Value}{f:Nat}{l:Array Bool}{a:Act}{w:World}(h:wpAnyH P md ops Q S f (l.setIfInBounds i true) (a.put o.dst v) w)(hi:ops[i]? =some o:=by exact rfl)(hs:Region.noSelect ops=true:=by kernel_rfl)(hf:Region.free md ops l i=true:=by kernel_rfl)(hr:(Region.ready md ops l).contains i=true:=by kernel_rfl)(hw:Region.wanted o (yielded ops a.tmps)=true:=by rfl)(hy:∀w,S w→(execOp a.eval o).run P w=.ok (.value v) w:=by(intro w hSw;(try dsimp only at hSw);go_simp;try with_reducible rfl))(hQ:∀c a w,Q (.panic c) (a.put o.dst v) w→Q (.panic c) a w:=by exact fun _ _ _ h=>h)(hS:S w:=by assumption):wpAnyH P md ops Q S (f+1) l a w:=wpAnyH_take hi hs hf hr hQ (.inl ⟨hw,hy⟩) hS h
theorem ztU(i:Nat){o:Oper}{f:Nat}{l:Array Bool}{a:Act}{w:World}(h:wpAnyH P md ops Q S f (l.setIfInBounds i true) (a.put o.dst undef) w)(hi:ops[i]? =some o:=by exact rfl)(hs:Region.noSelect ops=true:=by kernel_rfl)(hf:Region.free md ops l i=true:=by kernel_rfl)(hr:(Region.ready md ops l).contains i=true:=by kernel_rfl)(hw:Region.wanted o (yielded ops a.tmps)=false:=by rfl)(hQ:∀c a w,Q (.panic c) (a.put o.dst undef) w→Q (.panic c) a w:=by exact fun _ _ _ h=>h)(hS:S w:=by assumption):wpAnyH P md ops Q S (f+1) l a w:=wpAnyH_take hi hs hf hr hQ (.inr ⟨hw,rfl⟩) hS h
theorem ztE(i:Nat){o:Oper}{v:Value}{f:Nat}{l:Array Bool}{a:Act}{w:World}(h:gA P md ops Q S E f (l.setIfInBounds i true) (a.put o.dst v) w)(hi:ops[i]? =some o:=by exact rfl)(hs:Region.noSelect ops=true:=by kernel_rfl)(hf:Region.free md ops l i=true:=by kernel_rfl)(hr:(Region.ready md ops l).contains i=true:=by kernel_rfl)(hw:Region.wanted o (yielded ops a.tmps)=true:=by rfl)(hy:∀w,S w→(execOp a.eval o).run P w=.ok (.value v) w:=by(intro w hSw;(try dsimp only at hSw);go_simp;try with_reducible rfl))(hQ:∀c a w,Q (.panic c) (a.put o.dst v) w→Q (.panic c) a w:=by exact fun _ _ _ h=>h)(hS:S w:=by assumption)(hE:(waitsFor md ops E i&&decide (i≠E))=true:=by kernel_rfl):gA P md ops Q S E (f+1) l a w:=EC hi hs hf hr hQ (.inl ⟨hw,hy⟩) hS hE h
end
theorem cN:(∀(a:Act)(d:Tmp)(v:Value),a.put (some d) v={a with tmps:=a.tmps.setIfInBounds d v})∧(∀(a:Act)(v:Value),a.put none v=a)∧(∀{α:Type}(l:List α)(i:Nat)(x:α),l.toArray.setIfInBounds i x=(l.set i x).toArray)∧(∀{α:Type}(l:List α)(x y:α),(x::l).set 0 y=y::l)∧(∀{α:Type}(l:List α)(x y:α)(i:Nat),(x::l).set (i+1) y=x::l.set i y)∧(∀{α:Type}(l:List α)(i:Nat)(h:i<l.toArray.size),l.toArray[i]=l[i]'h)∧(∀{α:Type}(x:α)(l:List α)(h:0<(x::l).length),(x::l)[0]=x)∧(∀{α:Type}(x:α)(l:List α)(i:Nat)(h:i+1<(x::l).length),(x::l)[i+1]=l[i]'(Nat.lt_of_succ_lt_succ h)):=⟨fun _ _ _=>rfl,fun _ _=>rfl,fun _ _ _=>by simp,fun _ _ _=>rfl,fun _ _ _ _=>rfl,fun _ _ _=>rfl,fun _ _ _=>rfl,fun _ _ _ _=>rfl⟩
theorem jL{w:World}{g:Nat}{t:TypeId}{x0 x1:Value}{l:List Value}(h:ag (aG w g t (x0::x1::l).toArray)):w.cell? ⟨g,0,none⟩=some x0∧w.cell? ⟨g,1,none⟩=some x1:=⟨h.out.cell 0,h.out.cell 1⟩
theorem jf{w:World}{g:Nat}{t:TypeId}{x0 x1 x2:Value}{l:List Value}(h:ag (aG w g t (x0::x1::x2::l).toArray)):w.cell? ⟨g,0,none⟩=some x0∧w.cell? ⟨g,1,none⟩=some x1∧w.cell? ⟨g,2,none⟩=some x2:=⟨h.out.cell 0,h.out.cell 1,h.out.cell 2⟩
theorem dV{w:World}{g:Nat}{t:TypeId}{x0 x1 x2 x3:Value}{l:List Value}(h:ag (aG w g t (x0::x1::x2::x3::l).toArray)):w.cell? ⟨g,0,none⟩=some x0∧w.cell? ⟨g,1,none⟩=some x1∧w.cell? ⟨g,2,none⟩=some x2∧w.cell? ⟨g,3,none⟩=some x3:=⟨h.out.cell 0,h.out.cell 1,h.out.cell 2,h.out.cell 3⟩
theorem ID{w:World}{g:Nat}{t:TypeId}{x0 x1 x2 x3 x4:Value}{l:List Value}(h:ag (aG w g t (x0::x1::x2::x3::x4::l).toArray)):w.cell? ⟨g,0,none⟩=some x0∧w.cell? ⟨g,1,none⟩=some x1∧w.cell? ⟨g,2,none⟩=some x2∧w.cell? ⟨g,3,none⟩=some x3∧w.cell? ⟨g,4,none⟩=some x4:=⟨h.out.cell 0,h.out.cell 1,h.out.cell 2,h.out.cell 3,h.out.cell 4⟩
theorem wZ{w:World}{g:Nat}{t:TypeId}{x0 x1 x2 x3 x4 x5:Value}{l:List Value}(h:ag (aG w g t (x0::x1::x2::x3::x4::x5::l).toArray)):w.cell? ⟨g,0,none⟩=some x0∧w.cell? ⟨g,1,none⟩=some x1∧w.cell? ⟨g,2,none⟩=some x2∧w.cell? ⟨g,3,none⟩=some x3∧w.cell? ⟨g,4,none⟩=some x4∧w.cell? ⟨g,5,none⟩=some x5:=⟨h.out.cell 0,h.out.cell 1,h.out.cell 2,h.out.cell 3,h.out.cell 4,h.out.cell 5⟩
theorem adU{w:World}{g:Nat}{t:TypeId}{x0 x1 x2 x3 x4 x5 x6:Value}{l:List Value}(h:ag (aG w g t (x0::x1::x2::x3::x4::x5::x6::l).toArray)):w.cell? ⟨g,0,none⟩=some x0∧w.cell? ⟨g,1,none⟩=some x1∧w.cell? ⟨g,2,none⟩=some x2∧w.cell? ⟨g,3,none⟩=some x3∧w.cell? ⟨g,4,none⟩=some x4∧w.cell? ⟨g,5,none⟩=some x5∧w.cell? ⟨g,6,none⟩=some x6:=⟨h.out.cell 0,h.out.cell 1,h.out.cell 2,h.out.cell 3,h.out.cell 4,h.out.cell 5,h.out.cell 6⟩
theorem dA{w:World}{g:Nat}{t:TypeId}{x0 x1 x2 x3 x4 x5 x6 x7:Value}{l:List Value}(h:ag (aG w g t (x0::x1::x2::x3::x4::x5::x6::x7::l).toArray)):w.cell? ⟨g,0,none⟩=some x0∧w.cell? ⟨g,1,none⟩=some x1∧w.cell? ⟨g,2,none⟩=some x2∧w.cell? ⟨g,3,none⟩=some x3∧w.cell? ⟨g,4,none⟩=some x4∧w.cell? ⟨g,5,none⟩=some x5∧w.cell? ⟨g,6,none⟩=some x6∧w.cell? ⟨g,7,none⟩=some x7:=⟨h.out.cell 0,h.out.cell 1,h.out.cell 2,h.out.cell 3,h.out.cell 4,h.out.cell 5,h.out.cell 6,h.out.cell 7⟩
theorem oR{w:World}{g:Nat}{t:TypeId}{x0 x1 x2 x3 x4 x5 x6 x7 x8:Value}{l:List Value}(h:ag (aG w g t (x0::x1::x2::x3::x4::x5::x6::x7::x8::l).toArray)):w.cell? ⟨g,0,none⟩=some x0∧w.cell? ⟨g,1,none⟩=some x1∧w.cell? ⟨g,2,none⟩=some x2∧w.cell? ⟨g,3,none⟩=some x3∧w.cell? ⟨g,4,none⟩=some x4∧w.cell? ⟨g,5,none⟩=some x5∧w.cell? ⟨g,6,none⟩=some x6∧w.cell? ⟨g,7,none⟩=some x7∧w.cell? ⟨g,8,none⟩=some x8:=⟨h.out.cell 0,h.out.cell 1,h.out.cell 2,h.out.cell 3,h.out.cell 4,h.out.cell 5,h.out.cell 6,h.out.cell 7,h.out.cell 8⟩
theorem aZ{w w1 w2:World}(h:ag (RowKit.Below w.heap.size w w1))(d:RowKit.Below w1.heap.size w1 w2):ag (RowKit.Below w.heap.size w w2):=h.out.trans (d.mono h.out.size)
theorem bJ{w w1:World}{g:Nat}{t:TypeId}{cs:Array Value}(h:ag (aG w g t cs))(d:RowKit.Below w.heap.size w w1):aG w1 g t cs:=h.out.below d h.out.lt
section
variable{P:Program}{ops:Array Oper}{Q:Exit→Act→World→Prop}{md:Region.Mode}{S:World→Prop}{E:Nat}
theorem bC(i:Nat){o:Oper}{v:Value}{f:Nat}{l l1:Array Bool}{a a1:Act}{w:World}(h:wpAnyH P md ops Q S f l1 a1 w)(hi:ops[i]? =some o:=by exact rfl)(hs:Region.noSelect ops=true:=by kernel_rfl)(hf:Region.free md ops l i=true:=by kernel_rfl)(hr:(Region.ready md ops l).contains i=true:=by kernel_rfl)(hw:Region.wanted o (yielded ops a.tmps)=true:=by rfl)(hy:∀w,S w→(execOp a.eval o).run P w=.ok (.value v) w:=by(intro w hSw;(try dsimp only at hSw);go_simp;try with_reducible rfl))(hQ:∀c a w,Q (.panic c) (a.put o.dst v) w→Q (.panic c) a w:=by exact fun _ _ _ h=>h)(hS:S w:=by assumption)(el:l.setIfInBounds i true=l1:=by((conv=>lhs;simp only[cN]);try exact rfl))(ea:a.put o.dst v=a1:=by((conv=>lhs;simp only[cN]);try exact rfl)):wpAnyH P md ops Q S (f+1) l a w:=by subst el ea;exact pV i h hi hs hf hr hw hy hQ hS
theorem Ie(i:Nat){o:Oper}{f:Nat}{l l1:Array Bool}{a a1:Act}{w:World}(h:wpAnyH P md ops Q S f l1 a1 w)(hi:ops[i]? =some o:=by exact rfl)(hs:Region.noSelect ops=true:=by kernel_rfl)(hf:Region.free md ops l i=true:=by kernel_rfl)(hr:(Region.ready md ops l).contains i=true:=by kernel_rfl)(hw:Region.wanted o (yielded ops a.tmps)=false:=by rfl)(hQ:∀c a w,Q (.panic c) (a.put o.dst undef) w→Q (.panic c) a w:=by exact fun _ _ _ h=>h)(hS:S w:=by assumption)(el:l.setIfInBounds i true=l1:=by((conv=>lhs;simp only[cN]);try exact rfl))(ea:a.put o.dst undef=a1:=by((conv=>lhs;simp only[cN]);try exact rfl)):wpAnyH P md ops Q S (f+1) l a w:=by subst el ea;exact ztU i h hi hs hf hr hw hQ hS
theorem jg(i:Nat){o:Oper}{f:Nat}{l:Array Bool}{a:Act}{w:World}(h:∀K:Act→World→Prop,Shut (∀a w,S w→(S w→wpAnyH P md ops Q S f (l.setIfInBounds i true) a w)→K a w)→if Region.wanted o (yielded ops a.tmps)=true then Oper.wp P o a w K Q else K (a.put o.dst undef) w)(hi:ops[i]? =some o:=by exact rfl)(hr:Region.ready md ops l=[i]:=by kernel_rfl):wpAnyH P md ops Q S (f+1) l a w:=wpAnyH_ready hr (by simp) (AllReadyH.cons hi h AllReadyH.nil)
theorem qW{f:Nat}{l:Array Bool}{a:Act}{w:World}(h:Q .normal a w)(hr:Region.ready md ops l=[]:=by kernel_rfl):wpAnyH P md ops Q S f l a w:=wpAnyH_done hr h _
theorem dR(i:Nat){o:Oper}{v:Value}{f:Nat}{l l1:Array Bool}{a a1:Act}{w:World}(h:gA P md ops Q S E f l1 a1 w)(hi:ops[i]? =some o:=by exact rfl)(hs:Region.noSelect ops=true:=by kernel_rfl)(hf:Region.free md ops l i=true:=by kernel_rfl)(hr:(Region.ready md ops l).contains i=true:=by kernel_rfl)(hw:Region.wanted o (yielded ops a.tmps)=true:=by rfl)(hy:∀w,S w→(execOp a.eval o).run P w=.ok (.value v) w:=by(intro w hSw;(try dsimp only at hSw);go_simp;try with_reducible rfl))(hQ:∀c a w,Q (.panic c) (a.put o.dst v) w→Q (.panic c) a w:=by exact fun _ _ _ h=>h)(hS:S w:=by assumption)(hE:(waitsFor md ops E i&&decide (i≠E))=true:=by kernel_rfl)(el:l.setIfInBounds i true=l1:=by((conv=>lhs;simp only[cN]);try exact rfl))(ea:a.put o.dst v=a1:=by((conv=>lhs;simp only[cN]);try exact rfl)):gA P md ops Q S E (f+1) l a w:=by subst el ea;exact ztE i h hi hs hf hr hw hy hQ hS hE
theorem nA(i:Nat){o:Oper}{f:Nat}{l:Array Bool}{a:Act}{w:World}(h:∀K:Act→World→Prop,Shut (∀a w,(i≠E→S w)→((i≠E→S w)→gA P md ops Q S E f (l.setIfInBounds i true) a w)→K a w)→if Region.wanted o (yielded ops a.tmps)=true then Oper.wp P o a w K Q else K (a.put o.dst undef) w)(hi:ops[i]? =some o:=by exact rfl)(hr:Region.ready md ops l=[i]:=by kernel_rfl):gA P md ops Q S E (f+1) l a w:=rD hr (by simp) (fN.cons hi h fN.nil)
theorem OC{f:Nat}{l:Array Bool}{a:Act}{w:World}(h:Q .normal a w)(hr:Region.ready md ops l=[]:=by kernel_rfl):gA P md ops Q S E f l a w:=EE hr h
theorem ztX(i:Nat){o:Oper}{v:Value}{f:Nat}{l:Array Bool}{a:Act}{w:World}(h:gB P md ops Q S E f (l.setIfInBounds i true) (a.put o.dst v) w)(hi:ops[i]? =some o:=by exact rfl)(hs:Region.noSelect ops=true:=by kernel_rfl)(hf:Region.free md ops l i=true:=by kernel_rfl)(hr:(Region.ready md ops l).contains i=true:=by kernel_rfl)(hw:Region.wanted o (yielded ops a.tmps)=true:=by rfl)(hy:∀w,S w→(execOp a.eval o).run P w=.ok (.value v) w:=by(intro w hSw;(try dsimp only at hSw);go_simp;try with_reducible rfl))(hQ:∀c a w,Q (.panic c) (a.put o.dst v) w→Q (.panic c) a w:=by exact fun _ _ _ h=>h)(hS:S w:=by assumption)(hE:(oQ md ops E i&&decide (i<E))=true:=by kernel_rfl):gB P md ops Q S E (f+1) l a w:=EG hi hs hf hr hQ (.inl ⟨hw,hy⟩) hS hE h
theorem vy(i:Nat){o:Oper}{v:Value}{f:Nat}{l l1:Array Bool}{a a1:Act}{w:World}(h:gB P md ops Q S E f l1 a1 w)(hi:ops[i]? =some o:=by exact rfl)(hs:Region.noSelect ops=true:=by kernel_rfl)(hf:Region.free md ops l i=true:=by kernel_rfl)(hr:(Region.ready md ops l).contains i=true:=by kernel_rfl)(hw:Region.wanted o (yielded ops a.tmps)=true:=by rfl)(hy:∀w,S w→(execOp a.eval o).run P w=.ok (.value v) w:=by(intro w hSw;(try dsimp only at hSw);go_simp;try with_reducible rfl))(hQ:∀c a w,Q (.panic c) (a.put o.dst v) w→Q (.panic c) a w:=by exact fun _ _ _ h=>h)(hS:S w:=by assumption)(hE:(oQ md ops E i&&decide (i<E))=true:=by kernel_rfl)(el:l.setIfInBounds i true=l1:=by((conv=>lhs;simp only[cN]);try exact rfl))(ea:a.put o.dst v=a1:=by((conv=>lhs;simp only[cN]);try exact rfl)):gB P md ops Q S E (f+1) l a w:=by subst el ea;exact ztX i h hi hs hf hr hw hy hQ hS hE
theorem vQ(i:Nat){o:Oper}{f:Nat}{l:Array Bool}{a:Act}{w:World}(h:∀K:Act→World→Prop,Shut (∀a w,(i<E→S w)→((i<E→S w)→gB P md ops Q S E f (l.setIfInBounds i true) a w)→K a w)→if Region.wanted o (yielded ops a.tmps)=true then Oper.wp P o a w K Q else K (a.put o.dst undef) w)(hi:ops[i]? =some o:=by exact rfl)(hr:Region.ready md ops l=[i]:=by kernel_rfl):gB P md ops Q S E (f+1) l a w:=Bq hr (by simp) (i7.cons hi h i7.nil)
theorem zdX{f:Nat}{l:Array Bool}{a:Act}{w:World}(h:Q .normal a w)(hr:Region.ready md ops l=[]:=by kernel_rfl):gB P md ops Q S E f l a w:=EI hr h
end
end Go.Proofs.YtkjaajcpbldjoaaGreatDoor
namespace Go.Proofs
open YtkjaajcpbldjoaaGreatDoor
open Go.Shelf
def Tryz.lays169_ren:Go.Shelf.Ren:=⟨fun|169=>88|n=>n,fun|70=>66|9=>9|0=>0|72=>69|37=>67|127=>178|3=>3|5=>5|n=>n,fun|n=>n⟩
theorem Tryz.Builder_Extra_169:Builder.Extra ah Tryz.lays169_ren:={
 sizeBuilder:=by kernel_rfl
 liesBuilder:=by kernel_rfl
 t5:=cB
 a5:=Tryz.isAgg5
 z5:=Tryz.sizeOf5
 v5:=ahH
 infoByte:=by kernel_rfl
 cellsByte:=by kernel_rfl
 sizeByte:=by kernel_rfl
 neB5:=by decide}
def Tryz.lays156_ren:Go.Shelf.Ren:=⟨fun|156=>181|165=>208|166=>79|169=>88|240=>132|241=>230|276=>166|277=>249|n=>n,fun|31=>27|9=>9|3=>3|4=>4|0=>0|20=>20|72=>69|76=>122|70=>66|37=>67|75=>121|127=>178|164=>226|5=>5|80=>91|n=>n,fun|n=>n⟩
theorem Tryz.lays156:Go.Proofs.Lays.n156 ah Tryz.lays156_ren:={
 mixed:=by kernel_rfl
 f156:=Tryz.func181.trans (congrArg some bo)
 f165:=Tryz.func208.trans (congrArg some bo)
 f166:=Tryz.func79.trans (congrArg some bo)
 f169:=Tryz.func88.trans (congrArg some bo)
 f240:=Tryz.func132.trans (congrArg some bo)
 f241:=Tryz.func230.trans (congrArg some bo)
 f276:=Tryz.func166.trans (congrArg some bo)
 f277:=Tryz.func249.trans (congrArg some bo)
 t0:=ahZ
 a0:=Tryz.isAgg0
 z0:=Tryz.sizeOf0
 v0:=Tryz.zeroValue0
 t3:=ahB
 a3:=Tryz.isAgg3
 z3:=Tryz.sizeOf3
 v3:=adS
 t4:=kD
 a4:=Tryz.isAgg4
 z4:=Tryz.sizeOf4
 v4:=ahP
 t9:=bn
 a9:=Tryz.isAgg9
 z9:=Tryz.sizeOf9
 v9:=ahQ
 t20:=Tryz.underlying20
 a20:=Tryz.isAgg20
 z20:=Tryz.sizeOf20
 v20:=Tryz.zeroValue20
 t31:=abb
 a31:=Tryz.isAgg27
 z31:=Tryz.sizeOf27
 v31:=Tryz.zeroValue27
 t37:=cR
 a37:=Tryz.isAgg67
 z37:=Tryz.sizeOf67
 v37:=Tryz.zeroValue67
 t70:=Tryz.underlying66
 a70:=Tryz.isAgg66
 z70:=Tryz.sizeOf66
 v70:=Tryz.zeroValue66
 t72:=Tryz.underlying69
 a72:=Tryz.isAgg69
 z72:=Tryz.sizeOf69
 v72:=Tryz.zeroValue69
 t75:=Tryz.underlying121
 a75:=Tryz.isAgg121
 z75:=Tryz.sizeOf121
 v75:=Tryz.zeroValue121
 t76:=Tryz.underlying122
 a76:=Tryz.isAgg122
 z76:=Tryz.sizeOf122
 v76:=Tryz.zeroValue122
 t127:=Tryz.underlying178
 a127:=Tryz.isAgg178
 z127:=Tryz.sizeOf178
 v127:=Tryz.zeroValue178
 t164:=Tryz.underlying226
 a164:=Tryz.isAgg226
 z164:=Tryz.sizeOf226
 v164:=Tryz.zeroValue226}
theorem Tryz.Builder_Extra_156:Builder.Extra ah Tryz.lays156_ren:={
 sizeBuilder:=by kernel_rfl
 liesBuilder:=by kernel_rfl
 t5:=cB
 a5:=Tryz.isAgg5
 z5:=Tryz.sizeOf5
 v5:=ahH
 infoByte:=by kernel_rfl
 cellsByte:=by kernel_rfl
 sizeByte:=by kernel_rfl
 neB5:=by decide}
open Go.RowKit
theorem Tryz.strings_Join_none(a:Option Addr)(c:Nat)(sep:ByteArray)(w:World):Calls ah 181 #[.slice a 0 c,.string sep] w fun e w'=>e=.returned aI∧w'=w:=Any.strings_Join_none Tryz.lays156 Tryz.Builder_Extra_156 a c sep w
theorem Tryz.strings_Join(bk o c:Nat)(xs:List ByteArray)(sep:ByteArray)(w:World)(hcells:∀(j:Nat)x,xs[j]? =some x→w.cell? ⟨bk,o+j,none⟩=some (.string x))(hbk:bk<w.heap.size)(hN:xs.length≤140737488355328)(hcap:xs.length≤c)(hlen:(Lib.join (xs.map (·.data.toList)) sep.data.toList).length≤140737488355328):Calls ah 181 #[.slice (some ⟨bk,o,none⟩) xs.length c,.string sep] w fun e w'=>e=.returned (.string ⟨(Lib.join (xs.map (·.data.toList)) sep.data.toList).toArray⟩)∧aW w w':=Any.strings_Join Tryz.lays156 Tryz.Builder_Extra_156 bk o c xs sep w hcells hbk hN hcap hlen
def Tryz.lays160_ren:Go.Shelf.Ren:=⟨fun|160=>176|232=>200|231=>199|227=>201|234=>203|233=>202|236=>205|235=>204|228=>225|271=>228|151=>227|197=>226|120=>248|152=>247|260=>246|137=>264|119=>265|224=>256|225=>255|217=>254|266=>268|n=>n,fun|9=>9|4=>4|3=>3|5=>5|117=>268|116=>267|0=>0|124=>271|21=>21|105=>301|46=>158|119=>339|139=>342|138=>341|n=>n,fun|3=>3|4=>4|n=>n⟩
theorem Tryz.lays160:Go.Proofs.Lays.n160 ah Tryz.lays160_ren:={
 mixed:=by kernel_rfl
 f119:=Tryz.func265.trans (congrArg some bo)
 f120:=Tryz.func248.trans (congrArg some bo)
 f137:=Tryz.func264.trans (congrArg some bo)
 f151:=Tryz.func227.trans (congrArg some bo)
 f152:=Tryz.func247.trans (congrArg some bo)
 f160:=Tryz.func176.trans (congrArg some bo)
 f197:=Tryz.func226.trans (congrArg some bo)
 f217:=Tryz.func254.trans (congrArg some bo)
 f224:=Tryz.func256.trans (congrArg some bo)
 f225:=Tryz.func255.trans (congrArg some bo)
 f227:=Tryz.func201.trans (congrArg some bo)
 f228:=Tryz.func225.trans (congrArg some bo)
 f231:=Tryz.func199.trans (congrArg some bo)
 f232:=Tryz.func200.trans (congrArg some bo)
 f233:=Tryz.func202.trans (congrArg some bo)
 f234:=Tryz.func203.trans (congrArg some bo)
 f235:=Tryz.func204.trans (congrArg some bo)
 f236:=Tryz.func205.trans (congrArg some bo)
 f260:=Tryz.func246.trans (congrArg some bo)
 f266:=Tryz.func268.trans (congrArg some bo)
 f271:=Tryz.func228.trans (congrArg some bo)
 t0:=ahZ
 a0:=Tryz.isAgg0
 z0:=Tryz.sizeOf0
 v0:=Tryz.zeroValue0
 t3:=ahB
 a3:=Tryz.isAgg3
 z3:=Tryz.sizeOf3
 v3:=adS
 t4:=kD
 a4:=Tryz.isAgg4
 z4:=Tryz.sizeOf4
 v4:=ahP
 t5:=cB
 a5:=Tryz.isAgg5
 z5:=Tryz.sizeOf5
 v5:=ahH
 t9:=bn
 a9:=Tryz.isAgg9
 z9:=Tryz.sizeOf9
 v9:=ahQ
 t21:=Tryz.underlying21
 a21:=Tryz.isAgg21
 z21:=Tryz.sizeOf21
 v21:=Tryz.zeroValue21
 t46:=Tryz.underlying158
 a46:=Tryz.isAgg158
 z46:=Tryz.sizeOf158
 v46:=Tryz.zeroValue158
 t105:=Tryz.underlying301
 a105:=Tryz.isAgg301
 z105:=Tryz.sizeOf301
 v105:=Tryz.zeroValue301
 t116:=Tryz.underlying267
 a116:=Tryz.isAgg267
 z116:=Tryz.sizeOf267
 t117:=Tryz.underlying268
 a117:=Tryz.isAgg268
 z117:=Tryz.sizeOf268
 v117:=Tryz.zeroValue268
 t119:=Tryz.underlying339
 a119:=Tryz.isAgg339
 z119:=Tryz.sizeOf339
 t124:=Tryz.underlying271
 a124:=Tryz.isAgg271
 z124:=Tryz.sizeOf271
 v124:=Tryz.zeroValue271
 t138:=Tryz.underlying341
 a138:=Tryz.isAgg341
 z138:=Tryz.sizeOf341
 v138:=Tryz.zeroValue341
 t139:=Tryz.underlying342
 a139:=Tryz.isAgg342
 z139:=Tryz.sizeOf342
 v139:=Tryz.zeroValue342
 g3:=by kernel_rfl
 g4:=by kernel_rfl}
def Tryz.lays283_ren:Go.Shelf.Ren:=⟨fun|283=>231|n=>n,fun|3=>3|9=>9|4=>4|n=>n,fun|n=>n⟩
theorem Tryz.lays283:Go.Proofs.Lays.n283 ah Tryz.lays283_ren:={
 mixed:=by kernel_rfl
 f283:=Tryz.func231.trans (congrArg some bo)
 t3:=ahB
 a3:=Tryz.isAgg3
 z3:=Tryz.sizeOf3
 v3:=adS
 t4:=kD
 a4:=Tryz.isAgg4
 z4:=Tryz.sizeOf4
 v4:=ahP
 t9:=bn
 a9:=Tryz.isAgg9
 z9:=Tryz.sizeOf9
 v9:=ahQ}
open Go.Lib in
theorem Tryz.internal_strconv_small(i:Nat)(h:i<100)(w:World):Calls ah 231 #[.int .i64 i] w fun e w'=>e=.returned (.string ⟨(cM i).toArray⟩)∧w'=w:=Any.internal_strconv_small Tryz.lays283 i h w
def Tryz.laysM284_ren:Go.Shelf.Ren:=⟨fun|284=>232|129=>149|317=>250|318=>251|n=>n,fun|53=>22|3=>3|212=>329|0=>0|4=>4|46=>158|5=>5|9=>9|n=>n,fun|17=>1|n=>n⟩
theorem Tryz.laysM284:Go.Proofs.LaysM.n284 ah Tryz.laysM284_ren:={
 mixed:=by kernel_rfl
 f129:=Tryz.func149.trans (congrArg some bo)
 f284:=Tryz.func232.trans (congrArg some bo)
 f317:=Tryz.func250.trans (congrArg some bo)
 f318:=Tryz.func251.trans (congrArg some bo)
 t0:=ahZ
 a0:=Tryz.isAgg0
 z0:=Tryz.sizeOf0
 v0:=Tryz.zeroValue0
 t3:=ahB
 a3:=Tryz.isAgg3
 z3:=Tryz.sizeOf3
 v3:=adS
 t4:=kD
 a4:=Tryz.isAgg4
 z4:=Tryz.sizeOf4
 v4:=ahP
 t5:=cB
 a5:=Tryz.isAgg5
 z5:=Tryz.sizeOf5
 v5:=ahH
 t9:=bn
 a9:=Tryz.isAgg9
 z9:=Tryz.sizeOf9
 v9:=ahQ
 t46:=Tryz.underlying158
 a46:=Tryz.isAgg158
 z46:=Tryz.sizeOf158
 v46:=Tryz.zeroValue158
 t53:=ahK
 a53:=Tryz.isAgg22
 z53:=Tryz.sizeOf22
 v53:=Tryz.zeroValue22
 t212:=Tryz.underlying329
 a212:=Tryz.isAgg329
 z212:=Tryz.sizeOf329
 v212:=Tryz.zeroValue329
 g17:=by kernel_rfl
 i0:=by kernel_rfl
 i3:=by kernel_rfl
 i4:=by kernel_rfl
 i5:=by kernel_rfl
 i9:=by kernel_rfl
 i46:=by kernel_rfl
 i53:=by kernel_rfl
 i212:=by kernel_rfl
 m17:=by kernel_rfl}
open Go.Lib in
theorem Tryz.internal_strconv_numDigits(u:Nat)(h1:1≤u)(h2:u<18446744073709551616)(w:World)(htab:Lib.TabIs ah w "internal/strconv.uint64pow10" .u64 Lib.pow10Tab):Calls ah 232 #[.int .u64 u] w fun e w'=>e=.returned (.int .i64 (Lib.nDigits u))∧w'=w:=Any.internal_strconv_numDigits Tryz.laysM284 u h1 h2 w htab
def Tryz.lays285_ren:Go.Shelf.Ren:=⟨fun|285=>233|n=>n,fun|37=>67|53=>22|3=>3|4=>4|51=>177|9=>9|5=>5|0=>0|n=>n,fun|n=>n⟩
theorem Tryz.lays285:Go.Proofs.Lays.n285 ah Tryz.lays285_ren:={
 mixed:=by kernel_rfl
 f285:=Tryz.func233.trans (congrArg some bo)
 t0:=ahZ
 a0:=Tryz.isAgg0
 z0:=Tryz.sizeOf0
 v0:=Tryz.zeroValue0
 t3:=ahB
 a3:=Tryz.isAgg3
 z3:=Tryz.sizeOf3
 v3:=adS
 t4:=kD
 a4:=Tryz.isAgg4
 z4:=Tryz.sizeOf4
 v4:=ahP
 t5:=cB
 a5:=Tryz.isAgg5
 z5:=Tryz.sizeOf5
 v5:=ahH
 t9:=bn
 a9:=Tryz.isAgg9
 z9:=Tryz.sizeOf9
 v9:=ahQ
 t37:=cR
 a37:=Tryz.isAgg67
 z37:=Tryz.sizeOf67
 v37:=Tryz.zeroValue67
 t51:=Tryz.underlying177
 a51:=Tryz.isAgg177
 z51:=Tryz.sizeOf177
 v51:=Tryz.zeroValue177
 t53:=ahK
 a53:=Tryz.isAgg22
 z53:=Tryz.sizeOf22
 v53:=Tryz.zeroValue22}
open Go.RowKit Go.Sort Go.Lib in
theorem Tryz.internal_strconv_formatBase10(blk off cap:Nat)(u:Nat)(d:Array UInt8)(w:World)(hH:Holds (fun(b:UInt8)=>Value.int .u8 (b.toNat:Int)) w blk off d)(hu:u<10^d.size)(hu64:u<18446744073709551616)(hsz:d.size<4611686018427387904):Calls ah 233 #[.slice (some ⟨blk,off,none⟩) d.size cap,.int .u64 u] w fun e w'=>e=.returned (.tuple #[])∧∃(n v':Nat)(dk:Array UInt8),w'=(putRow (fun(b:UInt8)=>Value.int .u8 (b.toNat:Int)) w blk off dk).drewN n∧FmtInv d.size u 0 v' dk:=Any.internal_strconv_formatBase10 Tryz.lays285 blk off cap u d w hH hu hu64 hsz
def Tryz.laysM171_ren:Go.Shelf.Ren:=⟨fun|171=>180|243=>207|246=>229|283=>231|284=>232|285=>233|286=>234|129=>149|317=>250|318=>251|319=>252|320=>253|337=>266|338=>267|n=>n,fun|3=>3|9=>9|2=>2|4=>4|171=>305|0=>0|53=>22|37=>67|5=>5|173=>307|212=>329|51=>177|20=>20|213=>330|46=>158|232=>241|233=>240|n=>n,fun|17=>1|18=>5|19=>6|n=>n⟩
theorem Tryz.laysM171:Go.Proofs.LaysM.n171 ah Tryz.laysM171_ren:={
 mixed:=by kernel_rfl
 f129:=Tryz.func149.trans (congrArg some bo)
 f171:=Tryz.func180.trans (congrArg some bo)
 f243:=Tryz.func207.trans (congrArg some bo)
 f246:=Tryz.func229.trans (congrArg some bo)
 f283:=Tryz.func231.trans (congrArg some bo)
 f284:=Tryz.func232.trans (congrArg some bo)
 f285:=Tryz.func233.trans (congrArg some bo)
 f286:=Tryz.func234.trans (congrArg some bo)
 f317:=Tryz.func250.trans (congrArg some bo)
 f318:=Tryz.func251.trans (congrArg some bo)
 f319:=Tryz.func252.trans (congrArg some bo)
 f320:=Tryz.func253.trans (congrArg some bo)
 f337:=Tryz.func266.trans (congrArg some bo)
 f338:=Tryz.func267.trans (congrArg some bo)
 t0:=ahZ
 a0:=Tryz.isAgg0
 z0:=Tryz.sizeOf0
 v0:=Tryz.zeroValue0
 t2:=Tryz.underlying2
 a2:=Tryz.isAgg2
 z2:=Tryz.sizeOf2
 v2:=Tryz.zeroValue2
 t3:=ahB
 a3:=Tryz.isAgg3
 z3:=Tryz.sizeOf3
 v3:=adS
 t4:=kD
 a4:=Tryz.isAgg4
 z4:=Tryz.sizeOf4
 v4:=ahP
 t5:=cB
 a5:=Tryz.isAgg5
 z5:=Tryz.sizeOf5
 v5:=ahH
 t9:=bn
 a9:=Tryz.isAgg9
 z9:=Tryz.sizeOf9
 v9:=ahQ
 t20:=Tryz.underlying20
 a20:=Tryz.isAgg20
 z20:=Tryz.sizeOf20
 v20:=Tryz.zeroValue20
 t37:=cR
 a37:=Tryz.isAgg67
 z37:=Tryz.sizeOf67
 v37:=Tryz.zeroValue67
 t46:=Tryz.underlying158
 a46:=Tryz.isAgg158
 z46:=Tryz.sizeOf158
 v46:=Tryz.zeroValue158
 t51:=Tryz.underlying177
 a51:=Tryz.isAgg177
 z51:=Tryz.sizeOf177
 v51:=Tryz.zeroValue177
 t53:=ahK
 a53:=Tryz.isAgg22
 z53:=Tryz.sizeOf22
 v53:=Tryz.zeroValue22
 t171:=Tryz.underlying305
 a171:=Tryz.isAgg305
 z171:=Tryz.sizeOf305
 v171:=Tryz.zeroValue305
 t173:=Tryz.underlying307
 a173:=Tryz.isAgg307
 z173:=Tryz.sizeOf307
 v173:=Tryz.zeroValue307
 t212:=Tryz.underlying329
 a212:=Tryz.isAgg329
 z212:=Tryz.sizeOf329
 v212:=Tryz.zeroValue329
 t213:=Tryz.underlying330
 a213:=Tryz.isAgg330
 z213:=Tryz.sizeOf330
 t232:=Tryz.underlying241
 a232:=Tryz.isAgg241
 z232:=Tryz.sizeOf241
 v232:=Tryz.zeroValue241
 t233:=Tryz.underlying240
 a233:=Tryz.isAgg240
 z233:=Tryz.sizeOf240
 v233:=Tryz.zeroValue240
 g17:=by kernel_rfl
 g18:=by kernel_rfl
 g19:=by kernel_rfl
 i0:=by kernel_rfl
 i2:=by kernel_rfl
 i3:=by kernel_rfl
 i4:=by kernel_rfl
 i5:=by kernel_rfl
 i9:=by kernel_rfl
 i20:=by kernel_rfl
 i37:=by kernel_rfl
 i46:=by kernel_rfl
 i51:=by kernel_rfl
 i53:=by kernel_rfl
 i171:=by kernel_rfl
 i173:=by kernel_rfl
 i212:=by kernel_rfl
 i232:=by kernel_rfl
 i233:=by kernel_rfl
 m17:=by kernel_rfl
 m18:=by kernel_rfl
 m19:=by kernel_rfl}
open Go.RowKit Go.Sort Go.Lib in
theorem Tryz.strconv_Itoa(n:Int)(h0: -9223372036854775808≤n)(h1:n≤9223372036854775807)(w:World)(htab:Lib.TabIs ah w "internal/strconv.uint64pow10" .u64 Lib.pow10Tab):Calls ah 180 #[.int .i64 n] w fun e w'=>e=.returned (.string ⟨(Lib.itoa n).toArray⟩)∧∃k os,w'=grow (w.drewN k) os:=Any.strconv_Itoa Tryz.laysM171 n h0 h1 w htab
def Tryz.laysC245_ren:Go.Shelf.Ren:=⟨fun|245=>262|279=>273|280=>274|281=>275|282=>276|316=>279|171=>180|205=>280|243=>207|246=>229|283=>231|284=>232|285=>233|286=>234|129=>149|317=>250|318=>251|319=>252|320=>253|337=>266|338=>267|n=>n,fun|9=>9|3=>3|75=>121|167=>346|4=>4|168=>348|210=>355|37=>67|0=>0|127=>178|145=>359|143=>357|2=>2|171=>305|53=>22|5=>5|173=>307|212=>329|51=>177|20=>20|213=>330|46=>158|232=>241|233=>240|80=>91|n=>n,fun|15=>7|16=>8|17=>1|18=>5|19=>6|n=>n⟩
theorem Tryz.laysC245:Go.Proofs.LaysC.n245 ah Tryz.laysC245_ren:={
 mixed:=by kernel_rfl
 f129:=Tryz.func149.trans (congrArg some bo)
 f171:=Tryz.func180.trans (congrArg some bo)
 f205:=Tryz.func280.trans (congrArg some bo)
 f243:=Tryz.func207.trans (congrArg some bo)
 f245:=Tryz.func262.trans (congrArg some bo)
 f246:=Tryz.func229.trans (congrArg some bo)
 f279:=Tryz.func273.trans (congrArg some bo)
 f280:=Tryz.func274.trans (congrArg some bo)
 f281:=Tryz.func275.trans (congrArg some bo)
 f282:=Tryz.func276.trans (congrArg some bo)
 f283:=Tryz.func231.trans (congrArg some bo)
 f284:=Tryz.func232.trans (congrArg some bo)
 f285:=Tryz.func233.trans (congrArg some bo)
 f286:=Tryz.func234.trans (congrArg some bo)
 f316:=Tryz.func279.trans (congrArg some bo)
 f317:=Tryz.func250.trans (congrArg some bo)
 f318:=Tryz.func251.trans (congrArg some bo)
 f319:=Tryz.func252.trans (congrArg some bo)
 f320:=Tryz.func253.trans (congrArg some bo)
 f337:=Tryz.func266.trans (congrArg some bo)
 f338:=Tryz.func267.trans (congrArg some bo)
 t0:=ahZ
 a0:=Tryz.isAgg0
 z0:=Tryz.sizeOf0
 v0:=Tryz.zeroValue0
 t2:=Tryz.underlying2
 a2:=Tryz.isAgg2
 z2:=Tryz.sizeOf2
 v2:=Tryz.zeroValue2
 t3:=ahB
 a3:=Tryz.isAgg3
 z3:=Tryz.sizeOf3
 v3:=adS
 t4:=kD
 a4:=Tryz.isAgg4
 z4:=Tryz.sizeOf4
 v4:=ahP
 t5:=cB
 a5:=Tryz.isAgg5
 z5:=Tryz.sizeOf5
 v5:=ahH
 t9:=bn
 a9:=Tryz.isAgg9
 z9:=Tryz.sizeOf9
 v9:=ahQ
 t20:=Tryz.underlying20
 a20:=Tryz.isAgg20
 z20:=Tryz.sizeOf20
 v20:=Tryz.zeroValue20
 t37:=cR
 a37:=Tryz.isAgg67
 z37:=Tryz.sizeOf67
 v37:=Tryz.zeroValue67
 t46:=Tryz.underlying158
 a46:=Tryz.isAgg158
 z46:=Tryz.sizeOf158
 v46:=Tryz.zeroValue158
 t51:=Tryz.underlying177
 a51:=Tryz.isAgg177
 z51:=Tryz.sizeOf177
 v51:=Tryz.zeroValue177
 t53:=ahK
 a53:=Tryz.isAgg22
 z53:=Tryz.sizeOf22
 v53:=Tryz.zeroValue22
 t75:=Tryz.underlying121
 a75:=Tryz.isAgg121
 z75:=Tryz.sizeOf121
 v75:=Tryz.zeroValue121
 t127:=Tryz.underlying178
 a127:=Tryz.isAgg178
 z127:=Tryz.sizeOf178
 v127:=Tryz.zeroValue178
 t143:=Tryz.underlying357
 a143:=Tryz.isAgg357
 z143:=Tryz.sizeOf357
 v143:=Tryz.zeroValue357
 t145:=Tryz.underlying359
 a145:=Tryz.isAgg359
 z145:=Tryz.sizeOf359
 v145:=Tryz.zeroValue359
 t167:=Tryz.underlying346
 a167:=Tryz.isAgg346
 z167:=Tryz.sizeOf346
 v167:=Tryz.zeroValue346
 t168:=Tryz.underlying348
 a168:=Tryz.isAgg348
 z168:=Tryz.sizeOf348
 v168:=Tryz.zeroValue348
 t171:=Tryz.underlying305
 a171:=Tryz.isAgg305
 z171:=Tryz.sizeOf305
 v171:=Tryz.zeroValue305
 t173:=Tryz.underlying307
 a173:=Tryz.isAgg307
 z173:=Tryz.sizeOf307
 v173:=Tryz.zeroValue307
 t210:=Tryz.underlying355
 a210:=Tryz.isAgg355
 z210:=Tryz.sizeOf355
 v210:=Tryz.zeroValue355
 t212:=Tryz.underlying329
 a212:=Tryz.isAgg329
 z212:=Tryz.sizeOf329
 v212:=Tryz.zeroValue329
 t213:=Tryz.underlying330
 a213:=Tryz.isAgg330
 z213:=Tryz.sizeOf330
 t232:=Tryz.underlying241
 a232:=Tryz.isAgg241
 z232:=Tryz.sizeOf241
 v232:=Tryz.zeroValue241
 t233:=Tryz.underlying240
 a233:=Tryz.isAgg240
 z233:=Tryz.sizeOf240
 v233:=Tryz.zeroValue240
 g15:=by kernel_rfl
 g16:=by kernel_rfl
 g17:=by kernel_rfl
 g18:=by kernel_rfl
 g19:=by kernel_rfl
 t80:=Tryz.underlying91
 a80:=Tryz.isAgg91
 z80:=Tryz.sizeOf91
 v80:=Tryz.zeroValue91
 i0:=by kernel_rfl
 i2:=by kernel_rfl
 i3:=by kernel_rfl
 i4:=by kernel_rfl
 i5:=by kernel_rfl
 i9:=by kernel_rfl
 i20:=by kernel_rfl
 i37:=by kernel_rfl
 i46:=by kernel_rfl
 i51:=by kernel_rfl
 i53:=by kernel_rfl
 i75:=by kernel_rfl
 i80:=by kernel_rfl
 i127:=by kernel_rfl
 i143:=by kernel_rfl
 i145:=by kernel_rfl
 i167:=by kernel_rfl
 i168:=by kernel_rfl
 i171:=by kernel_rfl
 i173:=by kernel_rfl
 i210:=by kernel_rfl
 i212:=by kernel_rfl
 i232:=by kernel_rfl
 i233:=by kernel_rfl
 m15:=by kernel_rfl
 m16:=by kernel_rfl
 m17:=by kernel_rfl
 m18:=by kernel_rfl
 m19:=by kernel_rfl
 c0:=by kernel_rfl
 c2:=by kernel_rfl
 c3:=by kernel_rfl
 c4:=by kernel_rfl
 c5:=by kernel_rfl
 c9:=by kernel_rfl
 c20:=by kernel_rfl
 c37:=by kernel_rfl
 c46:=by kernel_rfl
 c51:=by kernel_rfl
 c53:=by kernel_rfl
 c75:=by kernel_rfl
 c80:=by kernel_rfl
 c127:=by kernel_rfl
 c143:=by kernel_rfl
 c145:=by kernel_rfl
 c167:=by kernel_rfl
 c168:=by kernel_rfl
 c171:=by kernel_rfl
 c173:=by kernel_rfl
 c210:=by kernel_rfl
 c212:=by kernel_rfl
 c213:=by kernel_rfl
 c232:=by kernel_rfl
 c233:=by kernel_rfl}
theorem Tryz.strconv_toError_syntax(fn s:ByteArray)(base bits:Int)(ev:Value)(w:World)(hlim:s.size≤281474976710656)(hv:w.cell? ⟨7,0,none⟩=some ev)(hev:ev=.nilIface∨∃te pe,ev=.iface te pe):Calls ah 262 #[.string fn,.string s,.int .i64 base,.int .i64 bits,.iface 346 (.int .i64 2)] w fun e w'=>∃N,e=.returned (.iface 348 (.pointer (some ⟨N,0,none⟩)))∧w.heap.size≤N∧w'.heap[N]? =some (.cells #[.string fn,.string s,ev] 355 (0,0))∧aW w w':=Any.strconv_toError_syntax Tryz.laysC245 fn s base bits ev w hlim hv hev
theorem Tryz.strconv_toError_range(fn s:ByteArray)(base bits:Int)(ev:Value)(w:World)(hlim:s.size≤281474976710656)(hv:w.cell? ⟨8,0,none⟩=some ev)(hev:ev=.nilIface∨∃te pe,ev=.iface te pe):Calls ah 262 #[.string fn,.string s,.int .i64 base,.int .i64 bits,.iface 346 (.int .i64 1)] w fun e w'=>∃N,e=.returned (.iface 348 (.pointer (some ⟨N,0,none⟩)))∧w.heap.size≤N∧w'.heap[N]? =some (.cells #[.string fn,.string s,ev] 355 (0,0))∧aW w w':=Any.strconv_toError_range Tryz.laysC245 fn s base bits ev w hlim hv hev
def Tryz.laysPu14_ren:Go.Shelf.Ren:=⟨fun|14=>240|16=>261|17=>262|19=>271|20=>272|21=>273|22=>274|23=>275|24=>276|25=>279|27=>180|26=>280|28=>207|29=>229|30=>231|31=>232|32=>233|33=>234|35=>149|34=>250|36=>251|37=>252|38=>253|39=>266|40=>267|n=>n,fun|9=>9|3=>3|22=>22|24=>121|25=>315|4=>4|34=>346|5=>5|36=>158|37=>67|0=>0|39=>348|21=>21|44=>355|47=>178|50=>359|48=>357|2=>2|52=>305|55=>307|59=>329|60=>177|20=>20|61=>330|65=>241|66=>240|67=>91|n=>n,fun|0=>7|1=>8|2=>1|3=>5|4=>6|n=>n⟩
theorem Tryz.laysPu14:Go.Proofs.LaysPu.n14 ah Tryz.laysPu14_ren:={
 mixed:=by kernel_rfl
 f14:=Tryz.func240.trans (congrArg some bo)
 f16:=Tryz.func261.trans (congrArg some bo)
 f17:=Tryz.func262.trans (congrArg some bo)
 f19:=Tryz.func271.trans (congrArg some bo)
 f20:=Tryz.func272.trans (congrArg some bo)
 f21:=Tryz.func273.trans (congrArg some bo)
 f22:=Tryz.func274.trans (congrArg some bo)
 f23:=Tryz.func275.trans (congrArg some bo)
 f24:=Tryz.func276.trans (congrArg some bo)
 f25:=Tryz.func279.trans (congrArg some bo)
 f26:=Tryz.func280.trans (congrArg some bo)
 f27:=Tryz.func180.trans (congrArg some bo)
 f28:=Tryz.func207.trans (congrArg some bo)
 f29:=Tryz.func229.trans (congrArg some bo)
 f30:=Tryz.func231.trans (congrArg some bo)
 f31:=Tryz.func232.trans (congrArg some bo)
 f32:=Tryz.func233.trans (congrArg some bo)
 f33:=Tryz.func234.trans (congrArg some bo)
 f34:=Tryz.func250.trans (congrArg some bo)
 f35:=Tryz.func149.trans (congrArg some bo)
 f36:=Tryz.func251.trans (congrArg some bo)
 f37:=Tryz.func252.trans (congrArg some bo)
 f38:=Tryz.func253.trans (congrArg some bo)
 f39:=Tryz.func266.trans (congrArg some bo)
 f40:=Tryz.func267.trans (congrArg some bo)
 t0:=ahZ
 a0:=Tryz.isAgg0
 z0:=Tryz.sizeOf0
 v0:=Tryz.zeroValue0
 i0:=by kernel_rfl
 t2:=Tryz.underlying2
 a2:=Tryz.isAgg2
 z2:=Tryz.sizeOf2
 v2:=Tryz.zeroValue2
 i2:=by kernel_rfl
 t3:=ahB
 a3:=Tryz.isAgg3
 z3:=Tryz.sizeOf3
 v3:=adS
 i3:=by kernel_rfl
 t4:=kD
 a4:=Tryz.isAgg4
 z4:=Tryz.sizeOf4
 v4:=ahP
 i4:=by kernel_rfl
 t5:=cB
 a5:=Tryz.isAgg5
 z5:=Tryz.sizeOf5
 v5:=ahH
 i5:=by kernel_rfl
 t9:=bn
 a9:=Tryz.isAgg9
 z9:=Tryz.sizeOf9
 v9:=ahQ
 i9:=by kernel_rfl
 t20:=Tryz.underlying20
 a20:=Tryz.isAgg20
 z20:=Tryz.sizeOf20
 v20:=Tryz.zeroValue20
 i20:=by kernel_rfl
 t21:=Tryz.underlying21
 a21:=Tryz.isAgg21
 z21:=Tryz.sizeOf21
 v21:=Tryz.zeroValue21
 i21:=by kernel_rfl
 t22:=ahK
 a22:=Tryz.isAgg22
 z22:=Tryz.sizeOf22
 v22:=Tryz.zeroValue22
 i22:=by kernel_rfl
 t24:=Tryz.underlying121
 a24:=Tryz.isAgg121
 z24:=Tryz.sizeOf121
 v24:=Tryz.zeroValue121
 i24:=by kernel_rfl
 t25:=Tryz.underlying315
 a25:=Tryz.isAgg315
 z25:=Tryz.sizeOf315
 v25:=Tryz.zeroValue315
 i25:=by kernel_rfl
 t34:=Tryz.underlying346
 a34:=Tryz.isAgg346
 z34:=Tryz.sizeOf346
 v34:=Tryz.zeroValue346
 i34:=by kernel_rfl
 c34:=by kernel_rfl
 t36:=Tryz.underlying158
 a36:=Tryz.isAgg158
 z36:=Tryz.sizeOf158
 v36:=Tryz.zeroValue158
 i36:=by kernel_rfl
 t37:=cR
 a37:=Tryz.isAgg67
 z37:=Tryz.sizeOf67
 v37:=Tryz.zeroValue67
 i37:=by kernel_rfl
 t39:=Tryz.underlying348
 a39:=Tryz.isAgg348
 z39:=Tryz.sizeOf348
 v39:=Tryz.zeroValue348
 i39:=by kernel_rfl
 t44:=Tryz.underlying355
 a44:=Tryz.isAgg355
 z44:=Tryz.sizeOf355
 v44:=Tryz.zeroValue355
 i44:=by kernel_rfl
 t47:=Tryz.underlying178
 a47:=Tryz.isAgg178
 z47:=Tryz.sizeOf178
 v47:=Tryz.zeroValue178
 i47:=by kernel_rfl
 t48:=Tryz.underlying357
 a48:=Tryz.isAgg357
 z48:=Tryz.sizeOf357
 v48:=Tryz.zeroValue357
 i48:=by kernel_rfl
 t50:=Tryz.underlying359
 a50:=Tryz.isAgg359
 z50:=Tryz.sizeOf359
 v50:=Tryz.zeroValue359
 i50:=by kernel_rfl
 t52:=Tryz.underlying305
 a52:=Tryz.isAgg305
 z52:=Tryz.sizeOf305
 v52:=Tryz.zeroValue305
 i52:=by kernel_rfl
 t55:=Tryz.underlying307
 a55:=Tryz.isAgg307
 z55:=Tryz.sizeOf307
 v55:=Tryz.zeroValue307
 i55:=by kernel_rfl
 t59:=Tryz.underlying329
 a59:=Tryz.isAgg329
 z59:=Tryz.sizeOf329
 v59:=Tryz.zeroValue329
 i59:=by kernel_rfl
 t60:=Tryz.underlying177
 a60:=Tryz.isAgg177
 z60:=Tryz.sizeOf177
 v60:=Tryz.zeroValue177
 i60:=by kernel_rfl
 t61:=Tryz.underlying330
 a61:=Tryz.isAgg330
 z61:=Tryz.sizeOf330
 t65:=Tryz.underlying241
 a65:=Tryz.isAgg241
 z65:=Tryz.sizeOf241
 v65:=Tryz.zeroValue241
 i65:=by kernel_rfl
 t66:=Tryz.underlying240
 a66:=Tryz.isAgg240
 z66:=Tryz.sizeOf240
 v66:=Tryz.zeroValue240
 i66:=by kernel_rfl
 t67:=Tryz.underlying91
 a67:=Tryz.isAgg91
 z67:=Tryz.sizeOf91
 v67:=Tryz.zeroValue91
 i67:=by kernel_rfl
 g0:=by kernel_rfl
 m0:=by kernel_rfl
 g1:=by kernel_rfl
 m1:=by kernel_rfl
 g2:=by kernel_rfl
 m2:=by kernel_rfl
 g3:=by kernel_rfl
 m3:=by kernel_rfl
 g4:=by kernel_rfl
 m4:=by kernel_rfl}
theorem Tryz.strconv_ParseUint_10_at64_ok(s:ByteArray)(hmax:s.size≤9223372036854775806)(u:Nat)(h:ah2 64 s.data.toList=.ok u)(w:World):Calls ah 240 #[.string s,.int .i64 10,.int .i64 64] w fun e w'=>e=.returned (.tuple #[.int .u64 u,.nilIface])∧(w'=w∨w'=Lib.bytesWorld w 5 s):=Any.strconv_ParseUint_10_at64_ok Tryz.laysPu14 s hmax u h w
theorem Tryz.strconv_ParseUint_10_at64_range(s:ByteArray)(hlim:s.size≤281474976710656)(h:ah2 64 s.data.toList=.range)(ev:Value)(w:World)(hv:w.cell? ⟨8,0,none⟩=some ev)(hev:ev=.nilIface∨∃te pe,ev=.iface te pe):Calls ah 240 #[.string s,.int .i64 10,.int .i64 64] w fun e w'=>∃N,e=.returned (.tuple #[.int .u64 18446744073709551615,.iface 348 (.pointer (some ⟨N,0,none⟩))])∧w.heap.size≤N∧w'.heap[N]? =some (.cells #[.string ⟨#[80,97,114,115,101,85,105,110,116]⟩,.string s,ev] 355 (0,0))∧aW w w':=Any.strconv_ParseUint_10_at64_range Tryz.laysPu14 s hlim h ev w hv hev
theorem Tryz.strconv_ParseUint_10_at16_ok(s:ByteArray)(hmax:s.size≤9223372036854775806)(u:Nat)(h:ah2 16 s.data.toList=.ok u)(w:World):Calls ah 240 #[.string s,.int .i64 10,.int .i64 16] w fun e w'=>e=.returned (.tuple #[.int .u64 u,.nilIface])∧(w'=w∨w'=Lib.bytesWorld w 5 s):=Any.strconv_ParseUint_10_at16_ok Tryz.laysPu14 s hmax u h w
theorem Tryz.strconv_ParseUint_10_at16_range(s:ByteArray)(hlim:s.size≤281474976710656)(h:ah2 16 s.data.toList=.range)(ev:Value)(w:World)(hv:w.cell? ⟨8,0,none⟩=some ev)(hev:ev=.nilIface∨∃te pe,ev=.iface te pe):Calls ah 240 #[.string s,.int .i64 10,.int .i64 16] w fun e w'=>∃N,e=.returned (.tuple #[.int .u64 65535,.iface 348 (.pointer (some ⟨N,0,none⟩))])∧w.heap.size≤N∧w'.heap[N]? =some (.cells #[.string ⟨#[80,97,114,115,101,85,105,110,116]⟩,.string s,ev] 355 (0,0))∧aW w w':=Any.strconv_ParseUint_10_at16_range Tryz.laysPu14 s hlim h ev w hv hev
theorem Tryz.strconv_ParseUint_10_at8_ok(s:ByteArray)(hmax:s.size≤9223372036854775806)(u:Nat)(h:ah2 8 s.data.toList=.ok u)(w:World):Calls ah 240 #[.string s,.int .i64 10,.int .i64 8] w fun e w'=>e=.returned (.tuple #[.int .u64 u,.nilIface])∧(w'=w∨w'=Lib.bytesWorld w 5 s):=Any.strconv_ParseUint_10_at8_ok Tryz.laysPu14 s hmax u h w
theorem Tryz.strconv_ParseUint_10_at8_range(s:ByteArray)(hlim:s.size≤281474976710656)(h:ah2 8 s.data.toList=.range)(ev:Value)(w:World)(hv:w.cell? ⟨8,0,none⟩=some ev)(hev:ev=.nilIface∨∃te pe,ev=.iface te pe):Calls ah 240 #[.string s,.int .i64 10,.int .i64 8] w fun e w'=>∃N,e=.returned (.tuple #[.int .u64 255,.iface 348 (.pointer (some ⟨N,0,none⟩))])∧w.heap.size≤N∧w'.heap[N]? =some (.cells #[.string ⟨#[80,97,114,115,101,85,105,110,116]⟩,.string s,ev] 355 (0,0))∧aW w w':=Any.strconv_ParseUint_10_at8_range Tryz.laysPu14 s hlim h ev w hv hev
def Tryz.lays145_ren:Go.Shelf.Ren:=⟨fun|145=>238|220=>258|219=>237|217=>254|225=>255|224=>256|267=>257|266=>268|314=>269|n=>n,fun|9=>9|4=>4|59=>311|3=>3|5=>5|46=>158|146=>343|51=>177|n=>n,fun|1=>2|n=>n⟩
theorem Tryz.lays145:Go.Proofs.Lays.n145 ah Tryz.lays145_ren:={
 mixed:=by kernel_rfl
 f145:=Tryz.func238.trans (congrArg some bo)
 f217:=Tryz.func254.trans (congrArg some bo)
 f219:=Tryz.func237.trans (congrArg some bo)
 f220:=Tryz.func258.trans (congrArg some bo)
 f224:=Tryz.func256.trans (congrArg some bo)
 f225:=Tryz.func255.trans (congrArg some bo)
 f266:=Tryz.func268.trans (congrArg some bo)
 f267:=Tryz.func257.trans (congrArg some bo)
 f314:=Tryz.func269.trans (congrArg some bo)
 t3:=ahB
 a3:=Tryz.isAgg3
 z3:=Tryz.sizeOf3
 v3:=adS
 t4:=kD
 a4:=Tryz.isAgg4
 z4:=Tryz.sizeOf4
 v4:=ahP
 t5:=cB
 a5:=Tryz.isAgg5
 z5:=Tryz.sizeOf5
 v5:=ahH
 t9:=bn
 a9:=Tryz.isAgg9
 z9:=Tryz.sizeOf9
 v9:=ahQ
 t46:=Tryz.underlying158
 a46:=Tryz.isAgg158
 z46:=Tryz.sizeOf158
 v46:=Tryz.zeroValue158
 t51:=Tryz.underlying177
 a51:=Tryz.isAgg177
 z51:=Tryz.sizeOf177
 v51:=Tryz.zeroValue177
 t59:=Tryz.underlying311
 a59:=Tryz.isAgg311
 z59:=Tryz.sizeOf311
 v59:=Tryz.zeroValue311
 t146:=Tryz.underlying343
 a146:=Tryz.isAgg343
 z146:=Tryz.sizeOf343
 v146:=Tryz.zeroValue343
 g1:=by kernel_rfl}
open Go.RowKit Go.Lib in
theorem Tryz.strings_Cut(s sep:ByteArray)(m:Int)(w:World)(hs:s.size<4294967281)(hm:w.cell? ⟨2,0,none⟩=some (.int .i64 m)):Calls ah 238 #[.string s,.string sep] w fun e w'=>e=.returned (.tuple #[.string ⟨(Lib.cut s.data.toList sep.data.toList).1.toArray⟩,.string ⟨(Lib.cut s.data.toList sep.data.toList).2.1.toArray⟩,.bool (Lib.cut s.data.toList sep.data.toList).2.2])∧∃n,w'=w.drewN n:=Any.strings_Cut Tryz.lays145 s sep m w hs hm
def Tryz.lays146_ren:Go.Shelf.Ren:=⟨fun|146=>160|221=>185|268=>210|138=>211|143=>212|195=>235|197=>226|218=>236|219=>237|260=>246|217=>254|225=>255|224=>256|267=>257|266=>268|314=>269|n=>n,fun|9=>9|31=>27|3=>3|4=>4|0=>0|105=>301|21=>21|5=>5|46=>158|119=>339|139=>342|138=>341|146=>343|51=>177|n=>n,fun|1=>2|3=>3|4=>4|n=>n⟩
theorem Tryz.lays146:Go.Proofs.Lays.n146 ah Tryz.lays146_ren:={
 mixed:=by kernel_rfl
 f138:=Tryz.func211.trans (congrArg some bo)
 f143:=Tryz.func212.trans (congrArg some bo)
 f146:=Tryz.func160.trans (congrArg some bo)
 f195:=Tryz.func235.trans (congrArg some bo)
 f197:=Tryz.func226.trans (congrArg some bo)
 f217:=Tryz.func254.trans (congrArg some bo)
 f218:=Tryz.func236.trans (congrArg some bo)
 f219:=Tryz.func237.trans (congrArg some bo)
 f221:=Tryz.func185.trans (congrArg some bo)
 f224:=Tryz.func256.trans (congrArg some bo)
 f225:=Tryz.func255.trans (congrArg some bo)
 f260:=Tryz.func246.trans (congrArg some bo)
 f266:=Tryz.func268.trans (congrArg some bo)
 f267:=Tryz.func257.trans (congrArg some bo)
 f268:=Tryz.func210.trans (congrArg some bo)
 f314:=Tryz.func269.trans (congrArg some bo)
 t0:=ahZ
 a0:=Tryz.isAgg0
 z0:=Tryz.sizeOf0
 v0:=Tryz.zeroValue0
 t3:=ahB
 a3:=Tryz.isAgg3
 z3:=Tryz.sizeOf3
 v3:=adS
 t4:=kD
 a4:=Tryz.isAgg4
 z4:=Tryz.sizeOf4
 v4:=ahP
 t5:=cB
 a5:=Tryz.isAgg5
 z5:=Tryz.sizeOf5
 v5:=ahH
 t9:=bn
 a9:=Tryz.isAgg9
 z9:=Tryz.sizeOf9
 v9:=ahQ
 t21:=Tryz.underlying21
 a21:=Tryz.isAgg21
 z21:=Tryz.sizeOf21
 v21:=Tryz.zeroValue21
 t31:=abb
 a31:=Tryz.isAgg27
 z31:=Tryz.sizeOf27
 v31:=Tryz.zeroValue27
 t46:=Tryz.underlying158
 a46:=Tryz.isAgg158
 z46:=Tryz.sizeOf158
 v46:=Tryz.zeroValue158
 t51:=Tryz.underlying177
 a51:=Tryz.isAgg177
 z51:=Tryz.sizeOf177
 v51:=Tryz.zeroValue177
 t105:=Tryz.underlying301
 a105:=Tryz.isAgg301
 z105:=Tryz.sizeOf301
 v105:=Tryz.zeroValue301
 t119:=Tryz.underlying339
 a119:=Tryz.isAgg339
 z119:=Tryz.sizeOf339
 t138:=Tryz.underlying341
 a138:=Tryz.isAgg341
 z138:=Tryz.sizeOf341
 v138:=Tryz.zeroValue341
 t139:=Tryz.underlying342
 a139:=Tryz.isAgg342
 z139:=Tryz.sizeOf342
 v139:=Tryz.zeroValue342
 t146:=Tryz.underlying343
 a146:=Tryz.isAgg343
 z146:=Tryz.sizeOf343
 v146:=Tryz.zeroValue343
 g1:=by kernel_rfl
 g3:=by kernel_rfl
 g4:=by kernel_rfl}
open Go.RowKit Go.Lib in
theorem Tryz.strings_Split(s sep:ByteArray)(m:Int)(w:World)(hs:s.size<4294967281)(hm:w.cell? ⟨2,0,none⟩=some (.int .i64 m))(h1:1≤sep.size):Calls ah 160 #[.string s,.string sep] w fun e w'=>e=.returned (.slice (some ⟨w.heap.size,0,none⟩) (Lib.countB s sep+1) (Lib.countB s sep+1))∧w'=w.alloc (.cells ((Lib.splitB sep 0 (Lib.countB s sep) s).map Value.string).toArray 9):=Any.strings_Split Tryz.lays146 bo s sep m w hs hm h1
def Tryz.lays229_ren:Go.Shelf.Ren:=⟨fun|229=>186|n=>n,fun|9=>9|40=>250|31=>27|152=>276|3=>3|0=>0|4=>4|21=>21|154=>278|n=>n,fun|n=>n⟩
theorem Tryz.lays229:Go.Proofs.Lays.n229 ah Tryz.lays229_ren:={
 mixed:=by kernel_rfl
 f229:=Tryz.func186.trans (congrArg some bo)
 t0:=ahZ
 a0:=Tryz.isAgg0
 z0:=Tryz.sizeOf0
 v0:=Tryz.zeroValue0
 t3:=ahB
 a3:=Tryz.isAgg3
 z3:=Tryz.sizeOf3
 v3:=adS
 t4:=kD
 a4:=Tryz.isAgg4
 z4:=Tryz.sizeOf4
 v4:=ahP
 t9:=bn
 a9:=Tryz.isAgg9
 z9:=Tryz.sizeOf9
 v9:=ahQ
 t21:=Tryz.underlying21
 a21:=Tryz.isAgg21
 z21:=Tryz.sizeOf21
 v21:=Tryz.zeroValue21
 t31:=abb
 a31:=Tryz.isAgg27
 z31:=Tryz.sizeOf27
 v31:=Tryz.zeroValue27
 t40:=Tryz.underlying250
 a40:=Tryz.isAgg250
 z40:=Tryz.sizeOf250
 v40:=Tryz.zeroValue250
 t152:=Tryz.underlying276
 a152:=Tryz.isAgg276
 z152:=Tryz.sizeOf276
 v152:=Tryz.zeroValue276
 t154:=Tryz.underlying278
 a154:=Tryz.isAgg278
 z154:=Tryz.sizeOf278
 v154:=Tryz.zeroValue278}
open Go.RowKit Go.Lib in
theorem Tryz.strings_FieldsFunc_grows(g:Nat)(lb:Array Value)(eg:∀args w,(callFunc g args).run ah w=.ok (.enter g args) w)(p:Nat→Bool)(s:ByteArray)(w:World)(hs:s.size≤4294967296)(hp:PredGrows ah g lb p w):Calls ah 186 #[.string s,.func (.func g) #[] lb] w fun e w'=>∃A,e=.returned (.slice (some ⟨A,0,none⟩) (Lib.goFieldsP p s).length (Lib.goFieldsP p s).length)∧w.heap.size≤A∧w'.ownsRow w.heap.size 9 1 (.slice (some ⟨A,0,none⟩) (Lib.goFieldsP p s).length (Lib.goFieldsP p s).length) (Lib.goFieldsP p s).length ((Lib.goFieldsP p s).map Value.string)∧aW w w':=Any.strings_FieldsFunc_grows Tryz.lays229 g lb eg p s w hs hp bo (by kernel_rfl)
end Go.Proofs
namespace Go.Proofs.YtkjaajcpbldjoaaGreatDoor
def ns:Bool→List Nat→Nat
 |_,[]=>0
 |odd,a::l=>(if odd then a else 256*a)+ns (!odd) l
open Go.RowKit
def kg(s:ByteArray):List Nat:=s.data.toList.map UInt8.toNat
theorem gK(s:ByteArray):(kg s).length=s.size:=by unfold kg;rw[ay,Array.length_toList];rfl
theorem Yv(s:ByteArray):∀c∈kg s,c<256:=by
 intro c hc;obtain⟨b,_,rfl⟩:=List.mem_map.1 hc;exact b.toNat_lt
def fF(n x:Nat):List UInt8:=(aF n).map fun j=>ahT (x/256^(n-1-j)%256)
def be(n x:Nat):ByteArray:=⟨(fF n x).toArray⟩
theorem aP(n x:Nat):(fF n x).length=n:=by simp[fF]
theorem Yw(n x:Nat):(be n x).size=n:=by simp[be,ByteArray.size,fF]
def om(n x k:Nat):Array Value:=((aF n).map fun j=>Value.int .u8 (if n-1-j<k then((x/256^(n-1-j)%256:Nat):Int)else 0)).toArray
theorem qX(n x:Nat):om n x 0=Array.replicate n (.int .u8 0):=by
 unfold om;apply Array.ext
 ·simp
 ·intro i h1 h2;simp
theorem tq(n x k:Nat)(hk:k<n):(om n x k).setIfInBounds (n-1-k) (.int .u8 ((x/256^k%256:Nat):Int))=om n x (k+1):=by
 unfold om;apply Array.ext
 ·simp
 ·intro i h1 h2;simp only[Array.size_setIfInBounds,List.size_toArray,ay,List.length_range]at h1;rw[Array.getElem_setIfInBounds (by simpa using h1)];simp only[List.getElem_toArray,List.getElem_map,List.getElem_range];by_cases h:n-1-k=i
  ·rw[if_pos h,if_pos aQ,show n-1-i=k by omega]
  ·rw[if_neg h];by_cases h3:n-1-i<k
   ·rw[if_pos h3,if_pos aQ]
   ·rw[if_neg h3,if_neg aQ]
theorem xa(n x k j:Nat)(hj:j<n):∃v,(om n x k)[j]? =some v:=by
 unfold om;exact⟨_,kt (by simpa using hj)⟩
theorem abQ(n x j:Nat)(hj:j<(fF n x).length):(fF n x)[j]=ahT (x/256^(n-1-j)%256):=by simp[fF]
theorem qY(n x j:Nat)(hj:j<(fF n x).length):(om n x n)[j]? =some (.int .u8 (((fF n x)[j]'hj).toNat:Int)):=by
 rw[abQ];rw[aP]at hj;unfold om;rw[kt (by simpa using hj)];simp only[List.getElem_toArray,List.getElem_map,List.getElem_range];rw[if_pos aQ];have:x/256^(n-1-j)%256<256:=Nat.mod_lt _ aQ;rw[UInt8.toNat_ofNat_of_lt' (by simpa using this)]
theorem mkN(n:Nat)(hn:n=2∨n=4∨n=8)(w:World):(Instr.makeSlice 67 (.int .i64 n) (.int .i64 n)).run ah w=.ok (.slice (some ⟨w.heap.size,0,none⟩) n n) (w.alloc (.cells (Array.replicate n (.int .u8 0)) 5)):=by
 rcases hn with rfl|rfl|rfl
 ·kernel_rfl
 ·kernel_rfl
 ·kernel_rfl
theorem abR(x k:Nat):(x:Int)/2^(8*k)%256=((x/256^k%256:Nat):Int):=by
 rw[show(2:Int)^(8*k)=((256^k:Nat):Int) by rw[Int.pow_mul];simp];simp
theorem Yx(x n:Nat)(hx:x<65536)(hn:n=2∨n=4∨n=8)(w:World):Calls ah 133 #[.int .u16 x,.int .i64 n] w fun r w'=>r=.returned (.string (be n x))∧aW w w':=by
 have hmk:=mkN n hn;have hn0:1≤n:=by omega
 have hn8:n≤8:=by omega
 clear hn;go_enter Tryz.func133,Tryz.ntmps133;go_wp2_with fail
 go_loopw [11] (fun v11 wr=>∃k:Nat,k≤n∧v11=.int .i64 k∧aG wr w.heap.size 5 (om n x k)∧aW w wr) (fun v11 _=>n-(intOf v11).toNat)
 case atStart=>exact⟨0,bh _,rfl,by rw[qX];exact aG.new _ _ _,(aM _ _).alloc (aA _) _⟩
 case round=>
  obtain⟨k,hk,rfl,hb,hB⟩:=hrel;by_cases hlt:k<n
  ·obtain⟨u,hu⟩:=xa n x k (n-1-k) aQ;have hc:=(hb.cell (n-1-k)).trans hu;have hf:=hb.frozen (n-1-k);have hnx:=hb.aL (n-1-k) (.int .u8 ((x/256^k%256:Nat):Int));rw[tq n x k hlt]at hnx;have e1:((n:Int)-1-(k:Int)).toNat=n-1-k:=by omega
   have h0:(0:Int)≤(n:Int)-1-(k:Int):=by omega
   obtain⟨HB,zS⟩:=aN hB hnx;have hlt2:=hb.lt;clear hB hnx hu hb hmk;go_wp2_with fail
   go_roundw
   case rel=>
    rw[abR x k];exact⟨k+1,by omega,by go_num,zS.out,HB.out.setCell (aA _) _⟩
   case measure=>simp[intOf];omega
  ·obtain rfl:k=n:=by omega
   have hback:=run_convert_bytes_back (P:=ah) wr 67 9 5 ⟨w.heap.size,0,none⟩ k (fF k x) cR cB bn (fun j hj=>by
    have e:(⟨w.heap.size,0,none⟩:Addr).add j=⟨w.heap.size,j,none⟩:=by unfold Addr.add;split<;>simp_all
    rw[e];exact(hb.cell j).trans (qY k x j hj))
   rw[aP]at hback;have HB:=Lib.hid hB;clear hB hb hmk;go_wp2_with fail
   go_ret;exact⟨rfl,HB.out⟩
theorem Yy(x n:Nat)(hx:x<18446744073709551616)(hn:n=2∨n=4∨n=8)(w:World):Calls ah 80 #[.int .u64 x,.int .i64 n] w fun r w'=>r=.returned (.string (be n x))∧aW w w':=by
 have hmk:=mkN n hn;have hn0:1≤n:=by omega
 have hn8:n≤8:=by omega
 clear hn;go_enter Tryz.func80,Tryz.ntmps80;go_wp2_with fail
 go_loopw [11] (fun v11 wr=>∃k:Nat,k≤n∧v11=.int .i64 k∧aG wr w.heap.size 5 (om n x k)∧aW w wr) (fun v11 _=>n-(intOf v11).toNat)
 case atStart=>exact⟨0,bh _,rfl,by rw[qX];exact aG.new _ _ _,(aM _ _).alloc (aA _) _⟩
 case round=>
  obtain⟨k,hk,rfl,hb,hB⟩:=hrel;by_cases hlt:k<n
  ·obtain⟨u,hu⟩:=xa n x k (n-1-k) aQ;have hc:=(hb.cell (n-1-k)).trans hu;have hf:=hb.frozen (n-1-k);have hnx:=hb.aL (n-1-k) (.int .u8 ((x/256^k%256:Nat):Int));rw[tq n x k hlt]at hnx;have e1:((n:Int)-1-(k:Int)).toNat=n-1-k:=by omega
   have h0:(0:Int)≤(n:Int)-1-(k:Int):=by omega
   obtain⟨HB,zS⟩:=aN hB hnx;have hlt2:=hb.lt;clear hB hnx hu hb hmk;go_wp2_with fail
   go_roundw
   case rel=>
    rw[abR x k];exact⟨k+1,by omega,by go_num,zS.out,HB.out.setCell (aA _) _⟩
   case measure=>simp[intOf];omega
  ·obtain rfl:k=n:=by omega
   have hback:=run_convert_bytes_back (P:=ah) wr 67 9 5 ⟨w.heap.size,0,none⟩ k (fF k x) cR cB bn (fun j hj=>by
    have e:(⟨w.heap.size,0,none⟩:Addr).add j=⟨w.heap.size,j,none⟩:=by unfold Addr.add;split<;>simp_all
    rw[e];exact(hb.cell j).trans (qY k x j hj))
   rw[aP]at hback;have HB:=Lib.hid hB;clear hB hb hmk;go_wp2_with fail
   go_ret;exact⟨rfl,HB.out⟩
theorem Yz(x n:Nat)(hx:x<4294967296)(hn:n=2∨n=4∨n=8)(w:World):Calls ah 167 #[.int .u32 x,.int .i64 n] w fun r w'=>r=.returned (.string (be n x))∧aW w w':=by
 have hmk:=mkN n hn;have hn0:1≤n:=by omega
 have hn8:n≤8:=by omega
 clear hn;go_enter Tryz.func167,Tryz.ntmps167;go_wp2_with fail
 go_loopw [11] (fun v11 wr=>∃k:Nat,k≤n∧v11=.int .i64 k∧aG wr w.heap.size 5 (om n x k)∧aW w wr) (fun v11 _=>n-(intOf v11).toNat)
 case atStart=>exact⟨0,bh _,rfl,by rw[qX];exact aG.new _ _ _,(aM _ _).alloc (aA _) _⟩
 case round=>
  obtain⟨k,hk,rfl,hb,hB⟩:=hrel;by_cases hlt:k<n
  ·obtain⟨u,hu⟩:=xa n x k (n-1-k) aQ;have hc:=(hb.cell (n-1-k)).trans hu;have hf:=hb.frozen (n-1-k);have hnx:=hb.aL (n-1-k) (.int .u8 ((x/256^k%256:Nat):Int));rw[tq n x k hlt]at hnx;have e1:((n:Int)-1-(k:Int)).toNat=n-1-k:=by omega
   have h0:(0:Int)≤(n:Int)-1-(k:Int):=by omega
   obtain⟨HB,zS⟩:=aN hB hnx;have hlt2:=hb.lt;clear hB hnx hu hb hmk;go_wp2_with fail
   go_roundw
   case rel=>
    rw[abR x k];exact⟨k+1,by omega,by go_num,zS.out,HB.out.setCell (aA _) _⟩
   case measure=>simp[intOf];omega
  ·obtain rfl:k=n:=by omega
   have hback:=run_convert_bytes_back (P:=ah) wr 67 9 5 ⟨w.heap.size,0,none⟩ k (fF k x) cR cB bn (fun j hj=>by
    have e:(⟨w.heap.size,0,none⟩:Addr).add j=⟨w.heap.size,j,none⟩:=by unfold Addr.add;split<;>simp_all
    rw[e];exact(hb.cell j).trans (qY k x j hj))
   rw[aP]at hback;have HB:=Lib.hid hB;clear hB hb hmk;go_wp2_with fail
   go_ret;exact⟨rfl,HB.out⟩
theorem lP(x:Nat)(hx:x<65536)(w:World):Calls ah 81 #[.int .u16 x] w fun r w'=>r=.returned (.string (be 2 x))∧aW w w':=by
 go_enter Tryz.func81,Tryz.ntmps81;go_wp2_with(go_at_call 133;refine(Yx x 2 hx aQ _).mono ?_;rintro r w'⟨rfl,hb⟩)
 go_ret;exact⟨rfl,hb⟩
theorem rE(x:Nat)(hx:x<18446744073709551616)(w:World):Calls ah 25 #[.int .u64 x] w fun r w'=>r=.returned (.string (be 8 x))∧aW w w':=by
 go_enter Tryz.func25,Tryz.ntmps25;go_wp2_with(go_at_call 80;refine(Yy x 8 hx aQ _).mono ?_;rintro r w'⟨rfl,hb⟩)
 go_ret;exact⟨rfl,hb⟩
theorem YB(x:Nat)(hx:x<4294967296)(w:World):Calls ah 134 #[.int .u32 x] w fun r w'=>r=.returned (.string (be 4 x))∧aW w w':=by
 go_enter Tryz.func134,Tryz.ntmps134;go_wp2_with(go_at_call 167;refine(Yz x 4 hx aQ _).mono ?_;rintro r w'⟨rfl,hb⟩)
 go_ret;exact⟨rfl,hb⟩
def dr(c:UInt8):List UInt8→List (List UInt8)
 |[]=>[[]]
 |b::l=>if b=c then []::dr c l else
  match dr c l with
  |[]=>[[b]]
  |h::t=>(b::h)::t
theorem OD(c:UInt8):∀l,dr c l≠[]:=by
 intro l;cases l with
 |nil=>simp[dr]
 |cons b l=>
  unfold dr;split
  ·simp
  ·split<;>simp
theorem EJ{c:UInt8}:∀{x:List UInt8},c∉x→dr c x=[x]:=by
 intro x
 induction x with
 |nil=>intro _;rfl
 |cons b l ih=>
  intro h;have hb:b≠c:=fun e=>h (by rw[e];exact cP ..)
  have hl:=ih fun e=>h (cz _ e)
  unfold dr;rw[if_neg hb,hl]
theorem IE{c:UInt8}(y:List UInt8):∀{x:List UInt8},c∉x→dr c (x++c::y)=x::dr c y:=by
 intro x
 induction x with
 |nil=>
   intro _;rw[List.nil_append];conv=>lhs;unfold dr
   rw[if_pos rfl]
 |cons b l ih=>
  intro h;have hb:b≠c:=fun e=>h (by rw[e];exact cP ..)
  have hl:=ih fun e=>h (cz _ e)
  rw[List.cons_append]
  conv=>lhs;unfold dr
  rw[if_neg hb,hl]
theorem li(x y:List UInt8)(r:List (List UInt8))(sep:List UInt8):Lib.join (x::y::r) sep=x++(sep++Lib.join (y::r) sep):=by
 rw[Lib.join_cons,Lib.join_cons];simp[Lib.joinTail]
theorem qH(c:UInt8):∀l:List UInt8,(dr c l).length≤l.length+1:=by
 intro l
 induction l with
 |nil=>simp[dr]
 |cons b l ih=>
  unfold dr;split
  ·simp;exact ih
  ·split
   ·simp
   ·next h t e=>rw[e]at ih;simp at ih⊢;omega
theorem tr(s:List UInt8)(c:UInt8)(i:Nat):Lib.occAt s [c] i=decide (s[i]? =some c):=by
 unfold Lib.occAt;by_cases h:i<s.length
 ·rw[List.drop_eq_getElem_cons h,List.getElem?_eq_getElem h];simp only[List.isPrefixOf,Bool.and_true,Option.some.injEq];rw[Bool.eq_iff_iff,beq_iff_eq,decide_eq_true_iff];exact eq_comm
 ·rw[List.drop_eq_nil_of_le aQ,List.getElem?_eq_none aQ];rfl
theorem oS{s:List UInt8}{c:UInt8}(h:c∉s):Lib.index s [c]= -1:=by
 apply Lib.index_none;intro j _;rw[tr];exact decide_eq_false fun e=>h (kE e)
theorem qI{c:UInt8}{x:List UInt8}(y:List UInt8)(h:c∉x):Lib.index (x++c::y) [c]=(x.length:Nat):=by
 apply Lib.index_first
 ·simp
 ·rw[tr];simp
 ·intro j hj;rw[tr,List.getElem?_append_left hj];exact decide_eq_false fun e=>h (kE e)
theorem Br{c:UInt8}:∀{s:List UInt8},c∈s→∃x y,s=x++c::y∧c∉x:=by
 intro s
 induction s with
 |nil=>intro h;simp at h
 |cons b l ih=>
  intro h;by_cases hb:b=c
  ·exact⟨[],l,by rw[hb];rfl,by simp⟩
  ·obtain⟨x,y,e,hx⟩:=ih (by
    rcases List.mem_cons.1 h with h|h;·exact absurd h.symm hb
    ·exact h)
   exact⟨b::x,y,by rw[e];rfl,by simp[hx];exact fun e=>hb e.symm⟩
theorem OE(c:UInt8):∀(n:Nat)(s:List UInt8),s.length≤n→Lib.splitK [c] 0 (Lib.count s [c]) s=dr c s:=by
 intro n
 induction n with
 |zero=>
  intro s hs;have:s=[]:=by cases s;rfl;simp at hs
  subst this;rfl
 |succ n ih=>
  intro s hs;by_cases h:c∈s
  ·obtain⟨x,y,rfl,hx⟩:=Br h;have hi:=qI y hx;rw[Lib.count_hit (by simp) hi,Nat.add_comm 1];unfold Lib.splitK;rw[hi,if_neg (by simp),IE _ hx];have e:(x++c::y).drop (x.length+[c].length)=y:=by
    rw[dn,List.drop_append];simp
   rw[show((x.length:Int)).toNat=x.length by omega,e,ih y (by simp at hs;omega)];simp
  ·have hi:=oS h;rw[Lib.count_miss hi,EJ h];rfl
theorem xb(s sep:ByteArray)(c:UInt8)(hc:sep.data.toList=[c]):(Lib.splitB sep 0 (Lib.countB s sep) s).map (·.data.toList)=dr c s.data.toList:=by
 rw[Lib.splitB_data,hc];show Lib.splitK [c] 0 (Lib.count s.data.toList sep.data.toList) _=_;rw[hc];exact OE c _ _ (aA _)
theorem Bt{s:List UInt8}{c:UInt8}(h:c∉s):Lib.cut s [c]=(s,[],false):=by
 unfold Lib.cut;rw[oS h,if_neg aH]
theorem EK{c:UInt8}{x:List UInt8}(y:List UInt8)(h:c∉x):Lib.cut (x++c::y) [c]=(x,y,true):=by
 unfold Lib.cut;rw[qI y h,if_pos aQ];simp[List.drop_append]
def vA(x:Nat):UInt8:=if x<10 then ahT (48+x)else ahT (87+x)
def hexL(x:Nat):List UInt8:=if h:x<16 then [vA x]else hexL (x/16)++[vA (x%16)]
termination_by x
decreasing_by omega
def dval(base:Nat)(c:UInt8):Option Nat:=if 48≤c.toNat∧c.toNat≤57 then(if c.toNat-48<base then some (c.toNat-48)else none)
 else if 97≤c.toNat∧c.toNat≤122 then(if c.toNat-87<base then some (c.toNat-87)else none)
 else if 65≤c.toNat∧c.toNat≤90 then(if c.toNat-55<base then some (c.toNat-55)else none)
 else none
def oU(dv:UInt8→Option Nat)(base:Nat):Nat→List UInt8→Option Nat
 |acc,[]=>some acc
 |acc,c::r=>match dv c with
  |none=>none
  |some d=>oU dv base (acc*base+d) r
def num1(base bound:Nat)(l:List UInt8):Option Nat:=if l=[]then none else(oU (dval base) base 0 l).bind fun n=>if n<bound then some n else none
theorem YC(dv:UInt8→Option Nat)(base:Nat)(hb:1≤base):∀(l:List UInt8)(acc n:Nat),oU dv base acc l=some n→acc≤n:=by
 intro l
 induction l with
 |nil=>intro acc n h;simp[oU]at h;omega
 |cons c r ih=>
  intro acc n h;unfold oU at h;split at h
  ·simp at h
  ·next d _=>
   have:=ih _ _ h;have:acc*1≤acc*base:=Nat.mul_le_mul_left _ hb;omega
def adV(x:Nat):UInt8:=ahT (48+x)
theorem dec_lt{x:Nat}(h:x<10):cM x=[adV x]:=by unfold cM;rw[dif_pos h];rfl
theorem SG{x:Nat}(h:¬x<10):cM x=cM (x/10)++[adV (x%10)]:=by
 conv=>lhs;unfold cM
 rw[dif_neg h];rfl
theorem YD(x:Nat):cM x≠[]:=by
 unfold cM;split<;>simp
theorem nB{base B n:Nat}{l:List UInt8}(h:num1 base B l=some n):n<B:=by
 unfold num1 at h;split at h
 ·cases h
 ·cases e:oU (dval base) base 0 l with
  |none=>rw[e]at h;cases h
  |some m=>
   rw[e]at h;simp at h;omega
theorem SH(x:Nat)(hx:x<65536):(hexL x).length≤4:=by
 unfold hexL;split
 ·simp
 ·rw[ai];unfold hexL;split
  ·simp
  ·rw[ai];unfold hexL;split
   ·simp
   ·rw[ai];unfold hexL;split
    ·simp
    ·omega
theorem xc(x:Nat)(hx:x<1000):(cM x).length≤3:=by
 by_cases h:x<10
 ·rw[dec_lt h];simp
 ·rw[SG h,ai];by_cases h:x/10<10
  ·rw[dec_lt h];simp
  ·rw[SG h,ai,dec_lt aQ];simp
structure Ad where
 v6:Bool
 hi:Nat
 lo:Nat
structure Pk where
 a:Ad
 b:Ad
 proto:Nat
 ttl:Nat
 data:ByteArray
def Ad.cells(a:Ad):Array Value:= #[.bool a.v6,.int .u64 (a.hi:Int),.int .u64 (a.lo:Int)]
def Pk.cells(p:Pk):Array Value:= #[.bool p.a.v6,.int .u64 (p.a.hi:Int),.int .u64 (p.a.lo:Int),.bool p.b.v6,.int .u64 (p.b.hi:Int),.int .u64 (p.b.lo:Int),.int .u8 (p.proto:Int),.int .u8 (p.ttl:Int),.string p.data]
structure Ad.Ok(a:Ad):Prop where
 hi:a.hi<18446744073709551616
 lo:a.lo<18446744073709551616
structure Pk.Ok(p:Pk):Prop where
 a:p.a.Ok
 b:p.b.Ok
 proto:p.proto<256
 ttl:p.ttl<256
 data:p.data.size≤8192
def Ad.may(a:Ad):Bool:=a.v6||(decide (a.hi=0)&&decide (a.lo<4294967296))
def Pk.head(p:Pk):Nat:=if p.a.v6 then 40 else 20
structure Pf where
 a:Ad
 bits:Nat
def Pf.cells(p:Pf):Array Value:= #[.bool p.a.v6,.int .u64 (p.a.hi:Int),.int .u64 (p.a.lo:Int),.int .u8 (p.bits:Int)]
structure Pf.Ok(p:Pf):Prop where
 a:p.a.Ok
 bits:p.bits<256
theorem lQ(a:Ad)(ok:a.Ok)(w:World):Calls ah 179 #[.agg a.cells] w fun r w'=>r=.returned (.bool a.may)∧Below w.heap.size w w':=by
 obtain⟨v,h,l⟩:=a;have h1:=ok.hi;have h2:=ok.lo;simp only at h1 h2;unfold Ad.cells;cases v with
 |true=>
  go_enter Tryz.func179,Tryz.ntmps179;go_wp2_with fail
  go_ret;exact⟨by simp[Ad.may],(aM _ _).alloc (aA _) _⟩
 |false=>
  by_cases hz:h=0
  ·subst hz;by_cases hl:l<4294967296
   ·have hq:(l:Int)/4294967296=0:=by omega
    go_enter Tryz.func179,Tryz.ntmps179;go_wp2_with fail
    go_ret;exact⟨by simp[Ad.may,hl],(aM _ _).alloc (aA _) _⟩
   ·have hq:¬(l:Int)/4294967296=0:=by omega
    go_enter Tryz.func179,Tryz.ntmps179;go_wp2_with fail
    go_ret;exact⟨by simp[Ad.may,hl];exact hq,(aM _ _).alloc (aA _) _⟩
  ·have hq:¬(h:Int)=0:=by omega
   go_enter Tryz.func179,Tryz.ntmps179;go_wp2_with fail
   go_ret;exact⟨by simp[Ad.may,hz],(aM _ _).alloc (aA _) _⟩
theorem adW{W w1:World}(hb:Below W.heap.size W w1):(∀b o,b<W.heap.size→w1.cell? ⟨b,o,none⟩=W.cell? ⟨b,o,none⟩)∧(∀b o,b<W.heap.size→w1.frozen? ⟨b,o,none⟩=W.frozen? ⟨b,o,none⟩):=⟨fun b o h=>hb.cell (p:=⟨b,o,none⟩) h,fun b o h=>hb.frozen (p:=⟨b,o,none⟩) h⟩
theorem after{w w1 w2:World}(h:Below w.heap.size w w1)(h2:Below w1.heap.size w1 w2):Below w.heap.size w w2:=h.trans (h2.mono h.size)
theorem boxed(w:World)(o:Obj):Below w.heap.size w (w.alloc o):=(aM _ _).alloc (aA _) o
def Got(v:Value)(w:World)(r:Ending)(w':World):Prop:=r=.returned v∧Below w.heap.size w w'
def fO(a:Ad):List Nat:=[a.hi/2^48%65536,a.hi/2^32%65536,a.hi/2^16%65536,a.hi%65536,a.lo/2^48%65536,a.lo/2^32%65536,a.lo/2^16%65536,a.lo%65536]
def lL:List Nat→Nat
 |[]=>0
 |x::l=>if x=0 then lL l+1 else 0
def xd:Nat→List Nat→Int×Nat→Int×Nat
 |_,[],s=>s
 |i,x::l,s=>xd (i+1) l (if lL (x::l)>s.2 then((i:Int),lL (x::l))else s)
def best(L:List Nat):Int×Nat:=xd 0 L (-1,1)
def colon:List UInt8:=[58]
def dot:List UInt8:=[46]
def jj(L:List Nat):List UInt8:=Lib.join (L.map hexL) colon
def uz(L:List Nat):List UInt8:=if(best L).1<0 then jj L else jj (L.take (best L).1.toNat)++(58::58::jj (L.drop ((best L).1.toNat+(best L).2)))
def xe(lo:Nat):List Nat:=[lo/2^24%256,lo/2^16%256,lo/2^8%256,lo%256]
def oV(lo:Nat):List UInt8:=Lib.join ((xe lo).map cM) dot
def ix(a:Ad):List UInt8:=if a.may=false then []else if a.v6=false then oV a.lo else uz (fO a)
theorem MF(l:List Nat):lL l≤l.length:=by
 induction l with
 |nil=>simp[lL]
 |cons x l ih=>unfold lL;split<;>simp;omega
theorem OG:∀l:List Nat,l.take (lL l)=aS (lL l) 0:=by
 intro l
 induction l with
 |nil=>rfl
 |cons x l ih=>
  unfold lL;split
  ·next h=>rw[h,List.take_succ_cons,ih,List.replicate_succ]
  ·rfl
structure IG(L:List Nat)(s:Int×Nat):Prop where
 two:0≤s.1→2≤s.2
 le:0≤s.1→s.1.toNat+s.2≤L.length
 noughts:0≤s.1→(L.drop s.1.toNat).take s.2=aS s.2 0
 one:1≤s.2
theorem OH(L:List Nat):∀(l:List Nat)(i:Nat)(s:Int×Nat),l=L.drop i→IG L s→IG L (xd i l s):=by
 intro l
 induction l with
 |nil=>intro i s _ h;exact h
 |cons x l ih=>
  intro i s hl h;have hl2:l=L.drop (i+1):=by rw[←List.drop_drop,←hl];rfl
  have hlen:(x::l).length=L.length-i:=by rw[hl,zb]
  have hr:=MF (x::l);refine ih (i+1) _ hl2 ?_;split
  ·next hgt=>
   refine⟨fun _=>?_,fun _=>?_,fun _=>?_,?_⟩
   ·show 2≤lL (x::l);have:=h.one;omega
   ·show(i:Int).toNat+lL (x::l)≤L.length;have:1≤(x::l).length:=by simp
    omega
   ·show(L.drop (i:Int).toNat).take (lL (x::l))=_;rw[show(i:Int).toNat=i by omega,←hl];exact OG _
   ·show 1≤lL (x::l);omega
  ·exact h
theorem YE(L:List Nat):IG L (best L):=OH L L 0 (-1,1) rfl ⟨fun h=>absurd h aH,fun h=>absurd h aH,fun h=>absurd h aH,by decide⟩
theorem OI:jj []=[]:=rfl
theorem xf(x y:Nat)(r:List Nat):jj (x::y::r)=hexL x++58::jj (y::r):=by
 unfold jj;rw[i6,i6,li];rfl
theorem OJ(x:Nat):jj [x]=hexL x:=by
 unfold jj;rw[i6,List.map_nil,Lib.join_one]
def gather(base B:Nat):List (List UInt8)→List Nat→Option (List Nat)
 |[],acc=>some acc
 |t::r,acc=>match num1 base B t with
  |none=>none
  |some n=>if 8<acc.length then none else gather base B r (acc++[n])
def dI(c:UInt8)(base B:Nat)(s:List UInt8):Option (List Nat):=if s=[]then some []else gather base B (dr c s) []
def eI(l:List Nat):Nat:=l.foldl (fun h x=>h*65536+x) 0
def gP(l:List Nat):Nat:=l.foldl (fun h x=>h*256+x) 0
def nC(front back:List Nat)(gap:Bool):Option Ad:=if(gap=false∧front.length+back.length≠8)∨(gap=true∧7<front.length+back.length)then none
 else some ⟨true,eI ((front++aS (8-(front.length+back.length)) 0++back).take 4),eI ((front++aS (8-(front.length+back.length)) 0++back).drop 4)⟩
def tt(s:List UInt8):Option Ad:=match dI 58 16 65536 (Lib.cut s [58,58]).1,dI 58 16 65536 (Lib.cut s [58,58]).2.1 with
 |some f,some b=>nC f b (Lib.cut s [58,58]).2.2
 |_,_=>none
def xg(s:List UInt8):Option Ad:=match dI 46 10 256 s with
 |some l=>if l.length=4 then some ⟨false,0,gP l⟩else tt s
 |none=>tt s
def uA(s:List UInt8):Option Ad:=(xg s).bind fun a=>if ix a=s then some a else none
theorem OL{base B:Nat}:∀(l:List (List UInt8))(acc L:List Nat),gather base B l acc=some L→(∀x∈acc,x<B)→acc.length≤9→(∀x∈L,x<B)∧L.length≤9:=by
 intro l
 induction l with
 |nil=>intro acc L h ha hl;simp[gather]at h;subst h;exact⟨ha,hl⟩
 |cons t r ih=>
  intro acc L h ha hl;unfold gather at h;split at h
  ·cases h
  ·next n hn=>
   split at h
   ·cases h
   ·refine ih _ _ h ?_ (by simp;omega);intro x hx;rcases List.mem_append.1 hx with hx|hx
    ·exact ha x hx
    ·rw[List.mem_singleton.1 hx];exact nB hn
theorem ja{c:UInt8}{base B:Nat}{s:List UInt8}{L:List Nat}(h:dI c base B s=some L):(∀x∈L,x<B)∧L.length≤9:=by
 unfold dI at h;split at h
 ·cases h;exact⟨by simp,by simp⟩
 ·exact OL _ _ _ h (by simp) (by simp)
theorem abS(lo:Nat):∀x∈xe lo,x<256:=by
 intro x hx;simp only[xe,List.mem_cons,List.mem_nil_iff,or_false]at hx;omega
theorem SI(lo:Nat):oV lo≠[]:=by
 unfold oV xe;rw[i6,i6,li];simp[YD]
theorem pW(a:Ad):∀x∈fO a,x<65536:=by
 intro x hx;simp only[fO,List.mem_cons,List.mem_nil_iff,or_false]at hx;omega
theorem jX(a:Ad):(fO a).length=8:=rfl
theorem EN(a:Ad):(58:UInt8)∈uz (fO a):=by
 unfold uz;split
 ·unfold fO;rw[xf];simp
 ·simp
theorem SJ(a:Ad):uz (fO a)≠[]:=fun e=>by have:=EN a;rw[e]at this;cases this
theorem nD{L:List Nat}{B k:Nat}(h:∀x∈L,x<B):∀x∈L.take k,x<B:=fun x hx=>h x (List.mem_of_mem_take hx)
theorem vR{L:List Nat}{B k:Nat}(h:∀x∈L,x<B):∀x∈L.drop k,x<B:=fun x hx=>h x (List.mem_of_mem_drop hx)
theorem MG{a:Ad}(hm:a.may=true)(h6:a.v6=false):ix a=oV a.lo:=by
 unfold ix;rw[hm,h6];simp
theorem MI{a:Ad}(h6:a.v6=true):ix a=uz (fO a):=by
 unfold ix Ad.may;rw[h6];simp
theorem may4{a:Ad}(hm:a.may=true)(h6:a.v6=false):a.hi=0∧a.lo<4294967296:=by
 unfold Ad.may at hm;rw[h6]at hm;simpa using hm
theorem abT{a:Ad}(h6:a.v6=true):a.may=true:=by unfold Ad.may;rw[h6];rfl
theorem SK{a:Ad}(hm:a.may=true):ix a≠[]:=by
 cases h6:a.v6 with
 |true=>rw[MI h6];exact SJ a
 |false=>rw[MG hm h6];exact SI _
theorem OM{a:Ad}(hm:a.may=false):ix a=[]:=by unfold ix;rw[if_pos hm]
theorem tu:∀(l:List Nat)(h0 B:Nat),(∀x∈l,x<65536)→h0<B→l.foldl (fun h x=>h*65536+x) h0<B*65536^l.length:=by
 intro l
 induction l with
 |nil=>intro h0 B _ h;simpa using h
 |cons x r ih=>
  intro h0 B hx h;have:=ih (h0*65536+x) (B*65536) (fun y hy=>hx y (cz _ hy)) (by have:=hx x (cP ..);omega);rw[List.foldl_cons,bO,Nat.pow_succ,Nat.mul_comm (65536^r.length),←Nat.mul_assoc];exact this
theorem EO:∀(l:List Nat)(h0 B:Nat),(∀x∈l,x<256)→h0<B→l.foldl (fun h x=>h*256+x) h0<B*256^l.length:=by
 intro l
 induction l with
 |nil=>intro h0 B _ h;simpa using h
 |cons x r ih=>
  intro h0 B hx h;have:=ih (h0*256+x) (B*256) (fun y hy=>hx y (cz _ hy)) (by have:=hx x (cP ..);omega);rw[List.foldl_cons,bO,Nat.pow_succ,Nat.mul_comm (256^r.length),←Nat.mul_assoc];exact this
theorem zT{f b:List Nat}{g:Bool}{a:Ad}(h:nC f b g=some a)(hf:∀x∈f,x<65536)(hb:∀x∈b,x<65536):a.Ok∧a.v6=true:=by
 unfold nC at h;split at h
 ·cases h
 ·next hn=>
  have hl:f.length+b.length≤8:=by cases g<;>simp at hn<;>omega
  cases h;have hall:∀x∈f++aS (8-(f.length+b.length)) 0++b,x<65536:=by
   intro x hx;rcases List.mem_append.1 hx with hx|hx
   ·rcases List.mem_append.1 hx with hx|hx
    ·exact hf x hx
    ·rw[(List.mem_replicate.1 hx).2];decide
   ·exact hb x hx
  have hlen:(f++aS (8-(f.length+b.length)) 0++b).length=8:=by simp;omega
  generalize f++aS (8-(f.length+b.length)) 0++b=A at hall hlen⊢;have h1:=tu (A.take 4) 0 1 (nD hall) aH;have h2:=tu (A.drop 4) 0 1 (vR hall) aH;rw[zc,hlen]at h1;rw[zb,hlen]at h2;exact⟨⟨by simpa[eI]using h1,by simpa[eI]using h2⟩,rfl⟩
theorem pX{s:List UInt8}{a:Ad}(h:tt s=some a):a.Ok∧a.v6=true:=by
 unfold tt at h;split at h
 ·next f b hf hb=>exact zT h (ja hf).1 (ja hb).1
 ·cases h
theorem OO{s:List UInt8}{a:Ad}(h:xg s=some a):a.Ok∧a.may=true:=by
 unfold xg at h;split at h
 ·next l hl=>
  split at h
  ·next h4=>
   cases h;have:=EO l 0 1 (ja hl).1 aH;rw[h4]at this;have h2:gP l<4294967296:=by unfold gP;omega
   exact⟨⟨by show(0:Nat)<_;omega,by show gP l<_;omega⟩,by simp[Ad.may,h2]⟩
  ·exact⟨(pX h).1,abT (pX h).2⟩
 ·exact⟨(pX h).1,abT (pX h).2⟩
theorem xi{s:List UInt8}{a:Ad}(h:uA s=some a):ix a=s∧a.Ok∧a.may=true:=by
 unfold uA at h;cases e:xg s with
 |none=>rw[e]at h;cases h
 |some b=>
  rw[e]at h;simp only[Option.bind_some]at h;split at h
  ·next ht=>cases h;exact⟨ht,OO e⟩
  ·cases h
theorem pY:∀L:List Nat,(∀x∈L,x<65536)→(jj L).length≤5*L.length:=by
 intro L
 induction L with
 |nil=>intro _;simp[OI]
 |cons x r ih=>
  intro h;have hx:=SH x (h x (cP ..));cases r with
  |nil=>rw[OJ];simp;omega
  |cons y r=>
   have:=ih fun z hz=>h z (cz _ hz)
   rw[xf];simp only[ai,bO]at*;omega
theorem OR(a:Ad):(ix a).length≤60:=by
 unfold ix;split
 ·simp
 ·split
  ·have h:=abS a.lo;have:∀x∈xe a.lo,(cM x).length≤3:=fun x hx=>xc x (by have:=h x hx;omega)
   unfold oV;simp only[xe,i6,List.map_nil,li,Lib.join_one,ai]at*;have a1:=this _ (cP ..);have a2:=this _ (cz _ (cP ..));have a3:=this _ (cz _ (cz _ (cP ..)));have a4:=this _ (cz _ (cz _ (cz _ (cP ..))));simp only[dot,dn];omega
  ·unfold uz;split
   ·have:=pY _ (pW a);rw[jX]at this;omega
   ·have h1:=pY _ (nD (k:=(best (fO a)).1.toNat) (pW a));have h2:=pY _ (vR (k:=(best (fO a)).1.toNat+(best (fO a)).2) (pW a));rw[zc,jX]at h1;rw[zb,jX]at h2;simp only[ai,bO];omega
def Ad.size(a:Ad):Nat:=if a.v6 then 128 else 32
def Ad.val(a:Ad):Nat:=if a.v6 then a.hi*2^64+a.lo else a.lo
def rF(p:Pf):Bool:=p.a.may&&decide (p.bits≤p.a.size)&&decide (p.a.val%2^(p.a.size-p.bits)=0)
def qJ(p:Pf):List UInt8:=if rF p=true then ix p.a++47::cM p.bits else []
def SL(p:Pf)(a:Ad):Bool:=rF p&&a.may&&(p.a.v6==a.v6)&&decide (a.val/2^(p.a.size-p.bits)=p.a.val/2^(p.a.size-p.bits))
def xj(a b:Ad):Bool:=if a.v6 !=b.v6 then b.v6 else if a.hi≠b.hi then decide (a.hi<b.hi)else decide (a.lo<b.lo)
def iS(s:List UInt8):Option Pf:=if(Lib.cut s [47]).2.2=false then none
 else match uA (Lib.cut s [47]).1,num1 10 256 (Lib.cut s [47]).2.1 with
  |some a,some n=>if qJ ⟨a,n⟩=s then some ⟨a,n⟩else none
  |_,_=>none
theorem size_le(a:Ad):a.size≤128:=by unfold Ad.size;split<;>omega
theorem SN{p:Pf}(h:qJ p≠[]):rF p=true:=by
 unfold qJ at h;split at h
 ·assumption
 ·exact absurd rfl h
theorem oW{s:List UInt8}{p:Pf}(h:iS s=some p):qJ p=s∧p.Ok∧rF p=true:=by
 unfold iS at h;split at h
 ·cases h
 ·next hn=>
  split at h
  ·next a n ha hb=>
   split at h
   ·next ht=>
    cases h;have hs:s≠[]:=by rintro rfl;exact hn rfl
    exact⟨ht,⟨(xi ha).2.1,nB hb⟩,SN (by rw[ht];exact hs)⟩
   ·cases h
  ·cases h
structure kx where
 kind:Nat
 name:ByteArray
 net:Pf
structure Nm where
 name:ByteArray
 list:List ByteArray
structure Hs where
 name:ByteArray
 net:Pf
structure Ac where
 iT:List Nat
 src:List kx
 dst:List kx
 jI:List (Nat×Nat)
structure Po where
 groups:List Nm
 tags:List Nm
 hosts:List Hs
 lM:List Ac
deriving instance DecidableEq for Ad
deriving instance DecidableEq for Pf
deriving instance DecidableEq for kx
deriving instance DecidableEq for Nm
deriving instance DecidableEq for Hs
deriving instance DecidableEq for Ac
deriving instance DecidableEq for Po
def Ad.zero:Ad:=⟨false,0,0⟩
def Pf.zero:Pf:=⟨Ad.zero,0⟩
def Po.zero:Po:=⟨[],[],[],[]⟩
def az(c:UInt8):Bool:=decide (97≤c.toNat∧c.toNat≤122)
def Bv(c:UInt8):Bool:=az c||decide (48≤c.toNat∧c.toNat≤57)||decide (c=46)||decide (c=95)||decide (c=45)
def oY(s:List UInt8):Bool:=match s with
 |[]=>false
 |c::r=>decide (r.length<32)&&az c&&r.all Bv
def cO(s:ByteArray):Bool:=oY s.data.toList
def blank(c:UInt8):Bool:=decide (c=32)||decide (c=9)
def fieldsGo(cur:List UInt8):List UInt8→List (List UInt8)
 |[]=>if cur=[]then []else [cur]
 |c::r=>if blank c=true then(if cur=[]then fieldsGo [] r else cur::fieldsGo [] r)else fieldsGo (cur++[c]) r
def fieldsB(s:List UInt8):List (List UInt8):=fieldsGo [] s
def il(w:List UInt8):Bool:=match w with
 |[]=>true
 |c::_=>decide (c≠35)
def gJ(l:List UInt8):ByteArray:=⟨l.toArray⟩
def oZ(s:List UInt8):List ByteArray:=((fieldsB s).takeWhile il).map gJ
def fG:ByteArray:=⟨#[103,114,111,117,112]⟩
def kF:ByteArray:=⟨#[116,97,103]⟩
def iU:ByteArray:=⟨#[104,111,115,116]⟩
def jk:ByteArray:=⟨#[97,99,99,101,112,116]⟩
def EP:ByteArray:=⟨#[61]⟩
def MJ:ByteArray:=⟨#[97,110,121]⟩
def xk:ByteArray:=⟨#[102,114,111,109]⟩
def OT:ByteArray:=⟨#[116,111]⟩
def nE:ByteArray:=⟨#[112,111,114,116,115]⟩
def xn:ByteArray:=⟨#[42]⟩
def tz:ByteArray:=⟨#[117,115,101,114]⟩
def zU:ByteArray:=⟨#[110,101,116]⟩
def Bz:ByteArray:=⟨#[105,99,109,112]⟩
def MK:ByteArray:=⟨#[116,99,112]⟩
def MN:ByteArray:=⟨#[117,100,112]⟩
def qZ(l:List Nm)(s:ByteArray):Bool:=l.any fun n=>decide (n.name=s)
def zi(l:List Hs)(s:ByteArray):Bool:=l.any fun n=>decide (n.name=s)
def iC(p:Po)(s:kx):Bool:=if s.kind=3 then qZ p.groups s.name else if s.kind=4 then qZ p.tags s.name else if s.kind=5 then zi p.hosts s.name else true
abbrev Bad:=Nat×Nat
def jY:List ByteArray→Nat→Nat→Except Bad (List ByteArray)
 |[],_,_=>.ok []
 |s::r,i,c=>if cO s=false then .error (191,i)else if 64≤c then .error (198,i)else(jY r (i+1) (c+1)).map (s::·)
def mq(ws:List ByteArray)(told:List Nm):Except Bad Nm:=if 64≤told.length then .error (198,0)else
 match ws with
 |_::nm::r=>
  if cO nm=false then .error (191,1)else if qZ told nm=true then .error (197,1)else
  match r with
  |e::r'=>if e≠EP then .error (190,2)else if r'=[]then .error (190,3)else(jY r' 3 0).map (⟨nm,·⟩)
  |[]=>.error (190,2)
 |_=>.error (190,ws.length)
def uB(ws:List ByteArray)(told:List Hs):Except Bad Hs:=if 64≤told.length then .error (198,0)else
 match ws with
 |_::nm::r=>
  if cO nm=false then .error (191,1)else if zi told nm=true then .error (197,1)else
  match r with
  |e::r'=>if e≠EP then .error (190,2)else
   match r' with
   |[]=>.error (190,3)
   |t::r''=>match iS t.data.toList with
    |none=>.error (192,3)
    |some n=>if r''≠[]then .error (190,4)else .ok ⟨nm,n⟩
  |[]=>.error (190,2)
 |_=>.error (190,ws.length)
def gQ(w:List UInt8):Nat:=if gJ w=Bz then 1 else if gJ w=MK then 6 else if gJ w=MN then 17 else 0
def fP(last:Nat):List (List UInt8)→Option (List Nat)
 |[]=>some []
 |w::r=>if gQ w=0∨gQ w≤last then none else(fP (gQ w) r).map (gQ w::·)
def iO(w:ByteArray):Option (List Nat):=if w=MJ then some []else fP 0 (dr 44 w.data.toList)
def gU(w:List UInt8):Nat:=if gJ w=tz then 2 else if gJ w=fG then 3 else if gJ w=kF then 4 else if gJ w=iU then 5 else if gJ w=zU then 6 else 0
def mN(w:ByteArray):Option kx:=if w=xn then some ⟨1,lJ,Pf.zero⟩else
 let c:=Lib.cut w.data.toList [58]
 if gU c.1=6 then(iS c.2.1).map fun n=>⟨6,lJ,n⟩
 else if 0<gU c.1∧oY c.2.1=true then some ⟨gU c.1,gJ c.2.1,Pf.zero⟩else none
def dY(en:ByteArray):List ByteArray→Nat→Nat→Except Bad (List (kx×Nat)×List ByteArray)
 |[],i,c=>if c=0 then .error (190,i)else .ok ([],[])
 |w::r,i,c=>if w=en∧c≠0 then .ok ([],w::r)else match mN w with
  |none=>.error (195,i)
  |some s=>if 64≤c then .error (198,i)else(dY en r (i+1) (c+1)).map fun x=>((s,i)::x.1,x.2)
def uC(s:List UInt8):Option Nat:=(num1 10 65536 s).bind fun n=>if cM n=s then some n else none
def mr(w:ByteArray):Option (Nat×Nat):=let c:=Lib.cut w.data.toList [45]
 match uC c.1,uC (if c.2.2=true then c.2.1 else c.1)with
 |some a,some b=>if a≤b then some (a,b)else none
 |_,_=>none
def jl:List ByteArray→Nat→Nat→Except Bad (List (Nat×Nat))
 |[],_,_=>.ok []
 |w::r,i,c=>match mr w with
  |none=>.error (193,i)
  |some x=>if 64≤c then .error (198,i)else(jl r (i+1) (c+1)).map (x::·)
def lR(ws:List ByteArray)(told:Nat):Except Bad (Ac×List (kx×Nat)):=if 64≤told then .error (198,0)else
 match ws with
 |_::pr::r=>match iO pr with
  |none=>.error (194,1)
  |some ps=>match r with
   |[]=>.error (190,2)
   |f::r'=>if f≠xk then .error (190,2)else
    match dY OT r' 3 0 with
    | .error e=>.error e
    | .ok (src,r2)=>match r2 with
      |[]=>.error (190,ws.length)
      |_::r3=>match dY nE r3 (ws.length-r3.length) 0 with
       | .error e=>.error e
       | .ok (dst,r4)=>match r4 with
         |[]=>.ok (⟨ps,src.map (·.1),dst.map (·.1),[]⟩,src++dst)
         |_::r5=>if r5=[]then .error (190,ws.length)else
          (jl r5 (ws.length-r5.length) 0).map fun po=>(⟨ps,src.map (·.1),dst.map (·.1),po⟩,src++dst)
 |_=>.error (190,ws.length)
structure qK where
 p:Po
 used:List (kx×Nat×Nat)
def fu(b:qK)(n:Nat)(ws:List ByteArray):Except Bad qK:=match ws with
 |[]=>.ok b
 |w::_=>
  if w=fG then(mq ws b.p.groups).map fun x=>{b with p:={b.p with groups:=b.p.groups++[x]}}
  else if w=kF then(mq ws b.p.tags).map fun x=>{b with p:={b.p with tags:=b.p.tags++[x]}}
  else if w=iU then(uB ws b.p.hosts).map fun x=>{b with p:={b.p with hosts:=b.p.hosts++[x]}}
  else if w=jk then(lR ws b.p.lM.length).map fun x=>{p:={b.p with lM:=b.p.lM++[x.1]},used:=b.used++x.2.map fun y=>(y.1,n,y.2)}
  else .error (190,0)
abbrev Flt:=Nat×Nat×Nat
def rc:List (List UInt8)→Nat→qK→Except Flt qK
 |[],_,b=>.ok b
 |l::r,n,b=>match fu b n (oZ l)with
  | .error e=>.error (e.1,n,e.2)
  | .ok b'=>rc r (n+1) b'
def iV(s:List UInt8):Po×Flt:=if 8192<s.length then(Po.zero,(4,0,0))else
 match rc (dr 10 s) 1 ⟨Po.zero,[]⟩with
 | .error e=>(Po.zero,e)
 | .ok b=>match b.used.find? fun u=> !iC b.p u.1 with
   |some u=>(Po.zero,(196,u.2))
   |none=>(b.p,(0,0,0))
def BB(s:kx):List UInt8:=if s.kind=1 then [42]else if s.kind=2 then tz.data.toList++58::s.name.data.toList else if s.kind=3 then fG.data.toList++58::s.name.data.toList
 else if s.kind=4 then kF.data.toList++58::s.name.data.toList else if s.kind=5 then iU.data.toList++58::s.name.data.toList else if s.kind=6 then zU.data.toList++58::qJ s.net else []
def abf(l:List (List UInt8)):List UInt8:=Lib.join l [32]++[10]
def distinct:List ByteArray→Bool
 |[]=>true
 |s::r=> !(r.any fun t=>decide (t=s))&&distinct r
def zV(l:List Nm):Bool:=(l.all fun n=>cO n.name&&decide (1≤n.list.length)&&decide (n.list.length≤64)&&n.list.all cO)&&decide (l.length≤64)&&distinct (l.map (·.name))
def vS(p:Po)(l:List kx):Bool:=(l.all fun s=>decide (mN (gJ (BB s))=some s)&&iC p s)&&decide (1≤l.length)&&decide (l.length≤64)
def rising:Nat→List Nat→Bool
 |_,[]=>true
 |last,x::r=>decide (last<x)&&rising x r
def SO(p:Po)(a:Ac):Bool:=(a.jI.all fun x=>decide (x.1≤x.2))&&(a.iT.all fun x=>decide (x=1)||decide (x=6)||decide (x=17))&&rising 0 a.iT&&decide (a.jI.length≤64)&&vS p a.src&&vS p a.dst
def abU(p:Po):Bool:=zV p.groups&&zV p.tags&&decide (p.hosts.length≤64)&&decide (p.lM.length≤64)&&(p.hosts.all fun h=>cO h.name&&rF h.net)&&(p.lM.all (SO p))&&distinct (p.hosts.map (·.name))
theorem o5:∀(w cur r:List UInt8),(∀c∈w,blank c=false)→fieldsGo cur (w++r)=fieldsGo (cur++w) r:=by
 intro w
 induction w with
 |nil=>intro cur r _;simp
 |cons c w ih=>
  intro cur r h;have hc:=h c (cP ..);rw[List.cons_append,fieldsGo,hc,if_neg aH,ih _ _ fun d hd=>h d (cz _ hd)];simp
theorem IH(x y:List UInt8)(r:List (List UInt8))(c:List UInt8):Lib.join (x::y::r) c=x++c++Lib.join (y::r) c:=by rw[li,List.append_assoc]
theorem zj{α:Type}(p:α→Bool):∀(l:List α),(∀x∈l,p x=true)→l.takeWhile p=l:=by
 intro l
 induction l with
 |nil=>intro _;rfl
 |cons x r ih=>intro h;rw[List.takeWhile_cons,h x (cP ..),if_pos rfl,ih fun y hy=>h y (cz _ hy)]
theorem rG(b:ByteArray):gJ b.data.toList=b:=by
 unfold gJ;rw[Array.toArray_toList]
theorem YF{c:UInt8}(h:az c=true):Bv c=true:=by unfold Bv;rw[h];rfl
structure afX(n:Nm):Prop where
 name:cO n.name=true
 ge:1≤n.list.length
 le:n.list.length≤64
 all:∀s∈n.list,cO s=true
def vT(x:Nat):Bool:=decide (x=1)||decide (x=6)||decide (x=17)
theorem YG(s:List UInt8)(c:UInt8):(c∉s∧Lib.cut s [c]=(s,[],false))∨(∃x y,s=x++c::y∧c∉x∧Lib.cut s [c]=(x,y,true)):=by
 by_cases h:c∈s
 ·right;obtain⟨x,y,e,hx⟩:=List.eq_append_cons_of_mem h;exact⟨x,y,e,hx,by rw[e];exact EK y hx⟩
 ·exact Or.inl ⟨h,Bt h⟩
theorem ER:iS []=none:=by rfl
inductive adX(w:ByteArray)(s:kx):Prop where
 |star (h1:w=xn) (h2:s=⟨1,lJ,Pf.zero⟩)
 |named (k nm:List UInt8) (h0:w.data.toList=k++58::nm) (h1:gU k≠6) (h2:0<gU k) (h3:oY nm=true) (h4:s=⟨gU k,gJ nm,Pf.zero⟩)
 |net (k t:List UInt8) (n:Pf) (h0:w.data.toList=k++58::t) (h1:gU k=6) (h2:iS t=some n) (h3:s=⟨6,lJ,n⟩)
theorem MO{w:ByteArray}{s:kx}(h:mN w=some s):adX w s:=by
 unfold mN at h;split at h
 ·next e=>injection h with h;exact .star e h.symm
 ·simp only at h;rcases YG w.data.toList 58 with⟨_,e⟩|⟨x,y,e0,_,e⟩
  ·rw[e]at h;simp only[ER]at h;split at h
   ·cases h
   ·split at h
    ·next hh=>exact absurd hh.2 (by decide)
    ·cases h
  ·rw[e]at h;simp only at h;split at h
   ·next h6=>
    cases hp:iS y with
    |none=>rw[hp]at h;cases h
    |some n=>
     rw[hp]at h;injection h with h
     exact .net x y n e0 h6 hp h.symm
   ·next h6=>
    split at h
    ·next hh=>injection h with h;exact .named x y e0 h6 hh.1 hh.2 h.symm
    ·cases h
theorem pg{k:List UInt8}(h:0<gU k):(gU k=2∧k=tz.data.toList)∨(gU k=3∧k=fG.data.toList)∨(gU k=4∧k=kF.data.toList)∨(gU k=5∧k=iU.data.toList)∨(gU k=6∧k=zU.data.toList):=by
 have inj:∀b:ByteArray,gJ k=b→k=b.data.toList:=fun b e=>by rw[←e];rfl
 unfold gU at h⊢;split
 ·next e=>exact Or.inl ⟨rfl,inj _ e⟩
 ·split
  ·next e=>exact Or.inr (Or.inl ⟨rfl,inj _ e⟩)
  ·split
   ·next e=>exact Or.inr (Or.inr (Or.inl ⟨rfl,inj _ e⟩))
   ·split
    ·next e=>exact Or.inr (Or.inr (Or.inr (Or.inl ⟨rfl,inj _ e⟩)))
    ·split
     ·next e=>exact Or.inr (Or.inr (Or.inr (Or.inr ⟨rfl,inj _ e⟩)))
     ·next e1 e2 e3 e4 e5=>rw[if_neg e1,if_neg e2,if_neg e3,if_neg e4,if_neg e5]at h;cases h
theorem YH{w:ByteArray}{s:kx}(h:mN w=some s):gJ (BB s)=w:=by
 cases MO h with
 |star h1 h2=>subst h1 h2;rfl
 |named k nm h0 h1 h2 h3 h4=>
  subst h4;have e:w=gJ (k++58::nm):=by rw[←h0,rG]
  rw[e];unfold BB;rcases pg h2 with⟨e1,e2⟩|⟨e1,e2⟩|⟨e1,e2⟩|⟨e1,e2⟩|⟨e1,e2⟩
  ·simp only[e1];rw[e2];rfl
  ·simp only[e1];rw[e2];rfl
  ·simp only[e1];rw[e2];rfl
  ·simp only[e1];rw[e2];rfl
  ·exact absurd e1 h1
 |net k t n h0 h1 h2 h3=>
  subst h3;have e:w=gJ (k++58::t):=by rw[←h0,rG]
  rw[e];rcases pg (show 0<gU k by omega)with⟨e1,e2⟩|⟨e1,e2⟩|⟨e1,e2⟩|⟨e1,e2⟩|⟨e1,e2⟩
  ·omega
  ·omega
  ·omega
  ·omega
  ·unfold BB;rw[e2];simp only;rw[(oW h2).1];rfl
theorem II{w:ByteArray}{s:kx}(h:mN w=some s):mN (gJ (BB s))=some s:=by rw[YH h];exact h
structure adY(a:Ac):Prop where
 rise:rising 0 a.iT=true
 iT:∀x∈a.iT,vT x=true
 src:∀s∈a.src,mN (gJ (BB s))=some s
 dst:∀s∈a.dst,mN (gJ (BB s))=some s
 ahf:1≤a.src.length
 ag9:a.src.length≤64
 ahg:1≤a.dst.length
 aha:a.dst.length≤64
 jI:∀x∈a.jI,x.1≤x.2∧x.2<65536
 afV:a.jI.length≤64
structure afY(x:Hs):Prop where
 name:cO x.name=true
 may:rF x.net=true
 ok:x.net.Ok
structure adZ(p:Po):Prop where
 hosts:∀h∈p.hosts,h.net.Ok
 jI:∀a∈p.lM,∀x∈a.jI,x.1<65536∧x.2<65536
theorem xo{p:Po}{l:List kx}(h:vS p l=true):(∀s∈l,mN (gJ (BB s))=some s∧iC p s=true)∧1≤l.length∧l.length≤64:=by
 unfold vS at h;simp only[aX,decide_eq_true_eq]at h;obtain⟨⟨h1,h2⟩,h3⟩:=h;refine⟨fun s hs=>?_,h2,h3⟩;have:=List.all_eq_true.1 h1 s hs;simpa only[aX,decide_eq_true_eq]using this
theorem YI{p:Po}(h:abU p=true):zV p.groups=true∧zV p.tags=true∧p.hosts.length≤64∧p.lM.length≤64∧(∀x∈p.hosts,cO x.name=true∧rF x.net=true)∧(∀a∈p.lM,SO p a=true)∧distinct (p.hosts.map (·.name))=true:=by
 unfold abU at h;simp only[aX,decide_eq_true_eq]at h;obtain⟨⟨⟨⟨⟨⟨h1,h2⟩,h3⟩,h4⟩,h5⟩,h6⟩,h7⟩:=h;refine⟨h1,h2,h3,h4,fun x hx=>?_,fun a ha=>List.all_eq_true.1 h6 a ha,h7⟩;have:=List.all_eq_true.1 h5 x hx;simpa only[aX]using this
end Go.Proofs.YtkjaajcpbldjoaaGreatDoor
