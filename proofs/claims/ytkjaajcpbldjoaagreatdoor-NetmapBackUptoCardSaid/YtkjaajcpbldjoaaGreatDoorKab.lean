/- Joined out of: PoG PlA PlB PuA Env PuB PuC Fb TwA NuA PlC PlD PlE PlF PlG Sm TwB PfA PfB. -/
import Derived.Test.YtkjaajcpbldjoaaGreatDoorKaa
import Derived.Shelf.Strings.SlTrimAscii
import Derived.Lib.MapLaws
import Derived.Lib.ParseIntB
import Derived.Lib.LaidTab
import Derived.Lib.AppendIntMem
import Derived.Lib.ConvBytes
import Derived.Lib.AtoiErrMem
import Derived.Lib.Strings
import Derived.Maps.AppendAt
import Derived.Lib.SplitLaws
import Derived.Deep.Onto
import Derived.Deep.RegionHeld3
import Derived.Deep.DrawnRows
import Derived.BigRegion
import Derived.Maps.RangeRun
set_option linter.unusedVariables false
set_option linter.unusedSimpArgs false
set_option maxHeartbeats 16000000
set_option maxRecDepth 100000
open Array renaming length_toList→eB,getElem?_eq_none→ahM
open Bool renaming true_and→bV,false_and→ux
open ByteArray renaming empty→lJ,ext→ahR
open Go.ByteArray renaming toList_eq→cC
open Go.IntKind renaming wrap_u64→fe,wrap_i64→ahS
open Go.Lib renaming hid→ae,parseUintB→ah2
open Go.Proofs.Tryz renaming prog→ah,underlying9→bn,underlying5→cB,underlying67→cR
open Go.RowKit renaming Hid→ag
open Go.RowKit.Below renaming refl→aM
open Go.Value renaming string→bM
open Go.World renaming block_lt_of_cell?→aj,ownsRow_nil→bg
open List renaming getElem?_eq_getElem→af,length_append→ai,length_map→ay,take_succ_eq_append_getElem→aB,getD_eq_getElem?_getD→aE,take_of_length_le→aJ,append_assoc→aO,getElem_mem→a8,eq_nil_of_length_eq_zero→bz,length_cons→bO,drop_eq_getElem_cons→bR,getElem?_map→bS,map_append→cH,nil_append→lI,getElem?_toArray→uy,length_take→zc,drop_of_length_le→Eh,mem_of_mem_take→ahX
open Nat renaming le_trans→aw,le_refl→aA,zero_le→bh,pow_le_pow_right→ahA,lt_of_lt_of_le→ahF,lt_or_ge→ahL,zero_add→ahU
open Option renaming bind_some→ahJ
open UInt8 renaming ofNat→ahT
namespace Go.Proofs.YtkjaajcpbldjoaaGreatDoor
open Go.RowKit
theorem map_ok{α β ε:Type}{f:α→β}{x:Except ε α}{y:β}(h:x.map f=.ok y):∃v,x=.ok v∧f v=y:=by
 cases x with
 |error e=>cases h
 |ok v=>injection h with h;exact⟨v,rfl,h⟩
theorem BD:∀(l:List ByteArray)(i c:Nat)(r:List ByteArray),jY l i c=.ok r→r=l∧(∀s∈l,cO s=true)∧(l≠[]→c+l.length≤64):=by
 intro l
 induction l with
 |nil=>intro i c r h;injection h with h;exact⟨h.symm,fun s hs=>(by cases hs),fun h=>absurd rfl h⟩
 |cons s t ih=>
  intro i c r h;rw[jY]at h;split at h
  ·cases h
  next h1=>
  split at h
  ·cases h
  next h2=>
  cases hr:jY t (i+1) (c+1)with
  |error e=>rw[hr]at h;cases h
  |ok q=>
   rw[hr]at h;injection h with h
   obtain⟨e1,e2,e3⟩:=ih _ _ _ hr;subst e1;refine⟨h.symm,?_,fun _=>?_⟩
   ·intro x hx;rcases List.mem_cons.1 hx with rfl|hx
    ·simpa using h1
    ·exact e2 x hx
   ·rw[bO];by_cases e:q=[]
    ·subst e;simp;omega
    ·have:=e3 e;omega
theorem uD{ws:List ByteArray}{told:List Nm}{n:Nm}(h:mq ws told=.ok n):afX n∧told.length<64∧qZ told n.name=false:=by
 unfold mq at h;split at h
 ·cases h
 next h0=>
 split at h
 ·next w nm r=>
  split at h
  ·cases h
  next h1=>
  split at h
  ·cases h
  next h2=>
  split at h
  ·next e r'=>
   split at h
   ·cases h
   next h3=>
   split at h
   ·cases h
   next h4=>
   cases hr:jY r' 3 0 with
   |error e=>rw[hr]at h;cases h
   |ok q=>
    rw[hr]at h;injection h with h
    obtain⟨e1,e2,e3⟩:=BD _ _ _ _ hr;subst e1 h;have hl:=e3 h4;refine⟨⟨by simpa using h1,?_,by simpa using hl,e2⟩,by omega,by simpa using h2⟩;cases q with
    |nil=>exact absurd rfl h4
    |cons _ _=>simp
  ·cases h
 ·cases h
theorem IJ{ws:List ByteArray}{told:List Hs}{x:Hs}(h:uB ws told=.ok x):afY x∧told.length<64∧zi told x.name=false:=by
 unfold uB at h;split at h
 ·cases h
 next h0=>
 split at h
 ·next w nm r=>
  split at h
  ·cases h
  next h1=>
  split at h
  ·cases h
  next h2=>
  split at h
  ·split at h
   ·cases h
   ·split at h
    ·cases h
    ·next t r''=>
     split at h
     ·cases h
     ·next n hn=>
      split at h
      ·cases h
      ·injection h with h
       subst h;obtain⟨_,p2,p3⟩:=oW hn;exact⟨⟨by simpa using h1,p3,p2⟩,by omega,by simpa using h2⟩
  ·cases h
 ·cases h
theorem OU{w:List UInt8}(h:gQ w≠0):vT (gQ w)=true:=by
 unfold gQ at h⊢;split
 ·rfl
 ·split
  ·rfl
  ·split
   ·rfl
   ·next h1 h2 h3=>rw[if_neg h1,if_neg h2,if_neg h3]at h;exact absurd rfl h
theorem zl:∀(l:List (List UInt8))(k:Nat)(r:List Nat),fP k l=some r→rising k r=true∧∀x∈r,vT x=true:=by
 intro l
 induction l with
 |nil=>intro k r h;injection h with h;subst h;exact⟨rfl,fun x hx=>by cases hx⟩
 |cons w t ih=>
  intro k r h;rw[fP]at h;split at h
  ·cases h
  next h1=>
  cases hr:fP (gQ w) t with
  |none=>rw[hr]at h;cases h
  |some q=>
   rw[hr]at h;injection h with h
   subst h;obtain⟨e1,e2⟩:=ih _ _ hr;refine⟨?_,?_⟩
   ·unfold rising;rw[e1,decide_eq_true aQ];rfl
   ·intro x hx;rcases List.mem_cons.1 hx with rfl|hx
    ·exact OU (by omega)
    ·exact e2 x hx
theorem BF{w:ByteArray}{r:List Nat}(h:iO w=some r):rising 0 r=true∧∀x∈r,vT x=true:=by
 unfold iO at h;split at h
 ·injection h with h;subst h;exact⟨rfl,fun x hx=>by cases hx⟩
 ·exact zl _ _ _ h
theorem uE{en:ByteArray}:∀(l:List ByteArray)(i c:Nat)(L:List (kx×Nat))(t:List ByteArray),dY en l i c=.ok (L,t)→(∀y∈L,mN (gJ (BB y.1))=some y.1)∧(L≠[]→c+L.length≤64)∧(c=0→L≠[]):=by
 intro l
 induction l with
 |nil=>
  intro i c L t h;rw[dY]at h;split at h
  ·cases h
  next h1=>
  injection h with h
  injection h with h2 h3
  subst h2;exact⟨fun y hy=>(by cases hy),fun h=>absurd rfl h,fun h=>absurd h h1⟩
 |cons w r ih=>
  intro i c L t h;rw[dY]at h;split at h
  ·next h1=>
   injection h with h
   injection h with h2 h3
   subst h2;exact⟨fun y hy=>(by cases hy),fun h=>absurd rfl h,fun h=>absurd h h1.2⟩
  ·split at h
   ·cases h
   ·next s hs=>
    split at h
    ·cases h
    next h2=>
    cases hr:dY en r (i+1) (c+1)with
    |error e=>rw[hr]at h;cases h
    |ok q=>
     rw[hr]at h;injection h with h
     injection h with h3 h4
     subst h3;obtain⟨e1,e2,_⟩:=ih _ _ _ _ hr;refine⟨?_,fun _=>?_,fun _=>by simp⟩
     ·intro y hy;rcases List.mem_cons.1 hy with rfl|hy
      ·exact II hs
      ·exact e1 y hy
     ·rw[bO];by_cases e:q.1=[]
      ·rw[e];simp;omega
      ·have:=e2 e;omega
theorem SQ{s:List UInt8}{n:Nat}(h:uC s=some n):n<65536:=by
 unfold uC at h;cases hn:num1 10 65536 s with
 |none=>rw[hn]at h;cases h
 |some m=>
  rw[hn]at h;simp only[ahJ]at h;split at h
  ·injection h with h;subst h;exact nB hn
  ·cases h
theorem ES{w:ByteArray}{x:Nat×Nat}(h:mr w=some x):x.1≤x.2∧x.2<65536:=by
 unfold mr at h;simp only at h;split at h
 ·next a b ha hb=>
  split at h
  ·next hle=>injection h with h;subst h;exact⟨hle,SQ hb⟩
  ·cases h
 ·cases h
theorem BG:∀(l:List ByteArray)(i c:Nat)(r:List (Nat×Nat)),jl l i c=.ok r→(∀x∈r,x.1≤x.2∧x.2<65536)∧(r≠[]→c+r.length≤64):=by
 intro l
 induction l with
 |nil=>intro i c r h;injection h with h;subst h;exact⟨fun x hx=>(by cases hx),fun h=>absurd rfl h⟩
 |cons w t ih=>
  intro i c r h;rw[jl]at h;split at h
  ·cases h
  ·next x hx=>
   split at h
   ·cases h
   next h2=>
   cases hr:jl t (i+1) (c+1)with
   |error e=>rw[hr]at h;cases h
   |ok q=>
    rw[hr]at h;injection h with h
    subst h;obtain⟨e1,e2⟩:=ih _ _ _ hr;refine⟨?_,fun _=>?_⟩
    ·intro y hy;rcases List.mem_cons.1 hy with rfl|hy
     ·exact ES hx
     ·exact e1 y hy
    ·rw[bO];by_cases e:q=[]
     ·rw[e];simp;omega
     ·have:=e2 e;omega
theorem BH{ws:List ByteArray}{told:Nat}{a:Ac}{L:List (kx×Nat)}(h:lR ws told=.ok (a,L)):adY a∧told<64∧(∀s,s∈a.src∨s∈a.dst→∃y∈L,y.1=s):=by
 unfold lR at h;split at h
 ·cases h
 next h0=>
 split at h
 ·split at h
  ·cases h
  next ps hps=>
  split at h
  ·cases h
  ·split at h
   ·cases h
   ·split at h
    ·cases h
    next src r2 hsrc=>
    split at h
    ·cases h
    ·split at h
     ·cases h
     next dst r4 hdst=>
     obtain⟨p1,p2⟩:=BF hps;obtain⟨s1,s2,s3⟩:=uE _ _ _ _ _ hsrc;obtain⟨d1,d2,d3⟩:=uE _ _ _ _ _ hdst;have sl:=s2 (s3 rfl);have dl:=d2 (d3 rfl);have sp:1≤src.length:=by
      cases src with
      |nil=>exact absurd rfl (s3 rfl)
      |cons _ _=>simp
     have dp:1≤dst.length:=by
      cases dst with
      |nil=>exact absurd rfl (d3 rfl)
      |cons _ _=>simp
     have fin:∀po:List (Nat×Nat),(∀x∈po,x.1≤x.2∧x.2<65536)→po.length≤64→adY ⟨ps,src.map (·.1),dst.map (·.1),po⟩:=by
      intro po h1 h2;refine⟨p1,p2,?_,?_,by simpa using sp,by simp;omega,by simpa using dp,by simp;omega,h1,h2⟩
      ·intro s hs;obtain⟨y,hy,rfl⟩:=List.mem_map.1 hs;exact s1 y hy
      ·intro s hs;obtain⟨y,hy,rfl⟩:=List.mem_map.1 hs;exact d1 y hy
     have cov:∀s,s∈src.map (·.1)∨s∈dst.map (·.1)→∃y∈src++dst,y.1=s:=by
      rintro s(hs|hs)
      ·obtain⟨y,hy,rfl⟩:=List.mem_map.1 hs;exact⟨y,List.mem_append_left _ hy,rfl⟩
      ·obtain⟨y,hy,rfl⟩:=List.mem_map.1 hs;exact⟨y,List.mem_append_right _ hy,rfl⟩
     split at h
     ·injection h with h
      injection h with h1 h2
      subst h1 h2;exact⟨fin [] (fun x hx=>(by cases hx)) (by simp),by omega,cov⟩
     ·next w r5=>
      split at h
      ·cases h
      ·obtain⟨po,hg,hy⟩:=map_ok h;injection hy with h1 h2
       subst h1 h2;obtain⟨q1,q2⟩:=BG _ _ _ _ hg;refine⟨fin po q1 ?_,by omega,cov⟩;by_cases e:po=[]
       ·subst e;simp
       ·have:=q2 e;omega
 ·cases h
def nF:ByteArray:=⟨#[97,98,99,100,101,102,103,104,105,106,107,108,109,110,111,112,113,114,115,116,117,118,119,120,121,122,48,49,50,51,52,53,54,55,56,57,46,95,45]⟩
theorem SR(c:UInt8):nF.data.toList.contains c=Bv c:=by
 have h:∀n:Fin 256,nF.data.toList.contains (ahT n.val)=Bv (ahT n.val):=by decide+kernel
 have:=h ⟨c.toNat,c.toNat_lt⟩;simpa using this
theorem lS(p:UInt8→Bool):∀l:List UInt8,l.dropWhile p=[]↔l.all p=true:=by
 intro l
 induction l with
 |nil=>simp
 |cons c r ih=>
  rw[List.dropWhile_cons,List.all_cons];cases h:p c with
  |true=>simp[ih]
  |false=>simp
theorem zn{p:UInt8→Bool}{l:List UInt8}(h:(l.dropWhile p).all p=true):l.all p=true:=by
 induction l with
 |nil=>rfl
 |cons c r ih=>
  rw[List.dropWhile_cons]at h;cases hc:p c with
  |true=>
   rw[hc,if_pos rfl]at h;rw[List.all_cons,hc,ih h];rfl
  |false=>rw[hc,if_neg aH]at h;exact h
theorem OV(l cs:List UInt8):(Lib.trimS l cs).isEmpty=l.all (cs.contains ·):=by
 have e:Lib.trimS l cs=[]↔l.all (cs.contains ·)=true:=by
  unfold Lib.trimS Lib.trimLeftS Lib.trimRightS;rw[lS,List.all_reverse];constructor
  ·intro h;have:=zn h;rwa [List.all_reverse]at this
  ·intro h;have:(l.reverse.dropWhile fun x=>cs.contains x)=[]:=(lS _ _).2 (by rw[List.all_reverse];exact h);rw[this];rfl
 cases h:l.all (cs.contains ·)with
 |true=>rw[e.2 h];rfl
 |false=>
  cases ht:Lib.trimS l cs with
  |nil=>rw[e.1 ht]at h;cases h
  |cons _ _=>rfl
theorem IK{s:ByteArray}(h:0<s.size):cO s=(decide (s.size≤32)&&az (s[0]'h)&&s.data.toList.all Bv):=by
 have hl:s.data.toList.length=s.size:=by rw[eB];rfl
 unfold cO;have h0:s.data.toList[0]? =some (s[0]'h):=by
  rw[af aQ];simp;rfl
 cases hs:s.data.toList with
 |nil=>rw[hs]at hl;simp at hl;omega
 |cons c r=>
  rw[hs]at h0 hl;injection h0 with h0
  unfold oY;rw[←h0,List.all_cons,bO]at*;simp only;cases hc:az c with
  |false=>simp
  |true=>
   rw[YF hc,bV];congr 2;by_cases h32:s.size≤32
   ·rw[decide_eq_true h32,decide_eq_true aQ]
   ·rw[decide_eq_false h32,decide_eq_false aQ]
theorem pZ(s:ByteArray)(hs:s.size≤4000000)(w:World):Calls ah 153 #[.string s] w (Got (.bool (cO s)) w):=by
 have htr:∀v,Calls ah 176 #[.string s,.string nF] v (Got (.string ⟨(Lib.trimS s.data.toList nF.data.toList).toArray⟩) v):=fun v=>Any.strings_Trim_laid Tryz.lays160 bo s nF v aQ aH (ascii_of_all aH)
 have hb0:=aM w.heap.size w;have hset:=OV s.data.toList nF.data.toList;rw[show(fun x=>nF.data.toList.contains x)=Bv from funext SR]at hset;by_cases h0:s.size=0
 ·have he:s=lJ:=ahR (Array.eq_empty_of_size_eq_zero h0);subst he;go_enter Tryz.func153,Tryz.ntmps153;go_wp2_with fail
  go_ret;exact⟨rfl,hb0⟩
 ·have hp:0<s.size:=by omega
  have hemp:s.toList.isEmpty=false:=by
   rw[←decide_eq_emptyBytes];exact decide_eq_false (fun h=>h0 (by rw[h];rfl))
  rw[IK hp];generalize hx:(s[0]'hp).toNat=x0;have ad0:az (s[0]'hp)=decide (97≤x0∧x0≤122):=by unfold az;rw[hx]
  rw[ad0];generalize hT:(⟨(Lib.trimS s.data.toList nF.data.toList).toArray⟩:ByteArray)=TT at htr;have hTe:TT.toList.isEmpty=s.data.toList.all Bv:=by rw[←hset,←hT,cC]
  generalize s.data.toList.all Bv=LL at hTe⊢;unfold nF at htr;have HTR:=ae htr;clear htr hset hT h0 ad0;by_cases h32:s.size≤32
  ·have q1:¬(32:Int)<(s.size:Int):=by omega
   by_cases h97:x0<97
   ·have q2:(x0:Int)<97:=by omega
    rw[show decide (97≤x0∧x0≤122)=false from decide_eq_false aQ,Bool.and_false,ux];clear h97 h32;go_enter Tryz.func153,Tryz.ntmps153;go_wp2_with fail
    go_ret;exact⟨rfl,hb0⟩
   ·have q2:¬(x0:Int)<97:=by omega
    by_cases h122:122<x0
    ·have q3:(122:Int)<(x0:Int):=by omega
     rw[show decide (97≤x0∧x0≤122)=false from decide_eq_false aQ,Bool.and_false,ux];clear h97 h32 h122;go_enter Tryz.func153,Tryz.ntmps153;go_wp2_with fail
     go_ret;exact⟨rfl,hb0⟩
    ·have q3:¬(122:Int)<(x0:Int):=by omega
     rw[show decide (97≤x0∧x0≤122)=true from decide_eq_true aQ,decide_eq_true h32,bV,bV];clear h97 h32 h122;go_enter Tryz.func153,Tryz.ntmps153;go_wp2_with(go_at_call 176;refine(HTR.out _).mono ?_;rintro r w2⟨rfl,d2⟩)
     go_ret;exact⟨rfl,d2⟩
  ·have q1:(32:Int)<(s.size:Int):=by omega
   rw[decide_eq_false h32,ux,ux];clear h32;go_enter Tryz.func153,Tryz.ntmps153;go_wp2_with fail
   go_ret;exact⟨rfl,hb0⟩
def lj(r:Nat):Bool:=decide (r=32)||decide (r=9)
theorem tA{r:Nat}(h:128≤r):lj r=false:=by
 unfold lj;rw[decide_eq_false aQ,decide_eq_false aQ];rfl
theorem zW(c:UInt8):blank c=lj c.toNat:=by
 unfold blank lj;have e1:(c=32)↔c.toNat=32:=⟨fun h=>by rw[h];rfl,fun h=>UInt8.toNat_inj.1 h⟩;have e2:(c=9)↔c.toNat=9:=⟨fun h=>by rw[h];rfl,fun h=>UInt8.toNat_inj.1 h⟩;simp[e1,e2]
theorem rH(s:ByteArray)(i:Nat):s.get! i=s.data.toList.getD i 0:=by
 show s.data[i]! =_;rw[aE,Array.getElem?_toList,Array.getElem!_eq_getD,Array.getD_eq_getD_getElem?];rfl
theorem BI(s:ByteArray)(pos:Nat)(h:pos<s.size):((s.data.toList.getD pos 0).toNat<128→(Utf8.decode s pos)=((s.data.toList.getD pos 0).toNat,1))∧(128≤(s.data.toList.getD pos 0).toNat→128≤(Utf8.decode s pos).1)∧1≤(Utf8.decode s pos).2∧pos+(Utf8.decode s pos).2≤s.size∧∀j,0<j→j<(Utf8.decode s pos).2→128≤(s.data.toList.getD (pos+j) 0).toNat:=by
 rw[Lib.decode_at,rH,rH,rH,rH];generalize(s.data.toList.getD pos 0).toNat=b0;generalize h1:(s.data.toList.getD (pos+1) 0).toNat=b1;generalize h2:(s.data.toList.getD (pos+2) 0).toNat=b2;generalize h3:(s.data.toList.getD (pos+3) 0).toNat=b3;rcases Lib.decodeN_shape (s.size-pos) b0 b1 b2 b3 with⟨a,e⟩|⟨a,b,c,d,e⟩|⟨a,b,c,d,f,g,e⟩|⟨a,b,c,d,f,g,k,e⟩|e
 ·rw[e];exact⟨fun _=>rfl,fun _=>by simp only;omega,aA _,by simp only;omega,fun j h0 hj=>by simp only at hj;omega⟩
 ·rw[e];refine⟨fun _=>by omega,fun _=>d,by simp only;omega,by simp only;omega,fun j h0 hj=>?_⟩;simp only at hj;obtain rfl:j=1:=by omega
  rw[h1];omega
 ·rw[e];refine⟨fun _=>by omega,fun _=>by simp only;omega,by simp only;omega,by simp only;omega,fun j h0 hj=>?_⟩;simp only at hj;have:j=1∨j=2:=by omega
  rcases this with rfl|rfl
  ·rw[h1];omega
  ·rw[h2];omega
 ·rw[e];refine⟨fun _=>by omega,fun _=>by simp only;omega,by simp only;omega,by simp only;omega,fun j h0 hj=>?_⟩;simp only at hj;have:j=1∨j=2∨j=3:=by omega
  rcases this with rfl|rfl|rfl
  ·rw[h1];omega
  ·rw[h2];omega
  ·rw[h3];omega
 ·rw[e];refine⟨fun hb=>?_,fun _=>by decide,by simp only;omega,by simp only;omega,fun j h0 hj=>by simp only at hj;omega⟩;rw[←e];simp[Lib.decodeN,hb]
def IL(L:List UInt8)(x:Nat×Nat):List UInt8:=(L.take x.2).drop x.1
def rI(L:List UInt8)(pos:Nat):Option Nat→List UInt8
 |none=>[]
 |some a=>(L.take pos).drop a
theorem uF(p:Nat→Bool)(s:ByteArray)(f pos:Nat)(acc:List (Nat×Nat)):Lib.spansFromP p s (f+1) pos none acc=if pos<s.size then(if p (Utf8.decode s pos).1=true then Lib.spansFromP p s f (pos+(Utf8.decode s pos).2) none acc else Lib.spansFromP p s f (pos+(Utf8.decode s pos).2) (some pos) acc)else(acc,none):=rfl
theorem uG(p:Nat→Bool)(s:ByteArray)(f pos a:Nat)(acc:List (Nat×Nat)):Lib.spansFromP p s (f+1) pos (some a) acc=if pos<s.size then(if p (Utf8.decode s pos).1=true then Lib.spansFromP p s f (pos+(Utf8.decode s pos).2) none (acc++[(a,pos)])else Lib.spansFromP p s f (pos+(Utf8.decode s pos).2) (some a) acc)else(acc,some a):=rfl
theorem BJ(s:ByteArray):∀(f pos:Nat)(st:Option Nat)(acc:List (Nat×Nat)),s.size≤pos+f→pos≤s.size→(∀a,st=some a→a<pos)→(Lib.closeSpans s (Lib.spansFromP lj s f pos st acc)).map (IL s.data.toList)=acc.map (IL s.data.toList)++fieldsGo (rI s.data.toList pos st) (s.data.toList.drop pos):=by
 have hlen:s.data.toList.length=s.size:=by rw[eB];rfl
 have fin:∀(pos:Nat)(st:Option Nat)(acc:List (Nat×Nat)),pos=s.size→(∀a,st=some a→a<pos)→(Lib.closeSpans s (acc,st)).map (IL s.data.toList)=acc.map (IL s.data.toList)++fieldsGo (rI s.data.toList pos st) (s.data.toList.drop pos):=by
  intro pos st acc hp hst;rw[Eh aQ];cases st with
  |none=>simp[Lib.closeSpans,rI,fieldsGo]
  |some a=>
   have ha:=hst a rfl;have hne:rI s.data.toList pos (some a)≠[]:=by
    intro e;have:=congrArg List.length e;simp[rI]at this;omega
   rw[fieldsGo,if_neg hne];simp[Lib.closeSpans,IL,rI,hp]
 intro f
 induction f with
 |zero=>
  intro pos st acc hf hp hst;exact fin pos st acc aQ hst
 |succ f ih=>
  intro pos st acc hf hp hst;by_cases hlt:pos<s.size
  ·obtain⟨f1,f2,f3,f4,f5⟩:=BI s pos hlt;have hget:∀i(hi:i<s.data.toList.length),s.data.toList.getD i 0=s.data.toList[i]:=fun i hi=>by rw[aE,af hi];rfl
   by_cases hb:lj (Utf8.decode s pos).1=true
   ·have h128:(s.data.toList.getD pos 0).toNat<128:=by
     rcases ahL (s.data.toList.getD pos 0).toNat 128 with h|h
     ·exact h
     ·rw[tA (f2 h)]at hb;cases hb
    have e:=f1 h128;have hb0:=hb;rw[e]at hb;simp only at hb;have hd:s.data.toList.drop pos=s.data.toList[pos]::s.data.toList.drop (pos+1):=bR aQ;have hbl:blank s.data.toList[pos]=true:=by rw[zW,←hget pos aQ];exact hb
    cases st with
    |none=>
     rw[uF,if_pos hlt,if_pos hb0,e];simp only;rw[ih _ _ _ aQ aQ (fun a h=>by cases h),hd]
     conv=>rhs;rw[rI,fieldsGo,if_pos hbl,if_pos rfl]
     rfl
    |some a=>
     have ha:=hst a rfl;have hne:rI s.data.toList pos (some a)≠[]:=by
      intro e;have:=congrArg List.length e;simp[rI]at this;omega
     rw[uG,if_pos hlt,if_pos hb0,e];simp only;rw[ih _ _ _ aQ aQ (fun a h=>by cases h),hd]
     conv=>rhs;rw[fieldsGo,if_pos hbl,if_neg hne]
     rw[cH,aO];rfl
   ·have hb0:=hb;generalize hK:(Utf8.decode s pos).2=K at f3 f4 f5;have seg:∀c∈(s.data.toList.drop pos).take K,blank c=false:=by
     intro c hc;obtain⟨j,hj,rfl⟩:=List.getElem_of_mem hc;rw[zc,List.length_drop]at hj;rw[List.getElem_take,List.getElem_drop,zW,←hget (pos+j) aQ];by_cases h0:j=0
     ·subst h0;rw[Nat.add_zero];rcases ahL (s.data.toList.getD pos 0).toNat 128 with h|h
      ·have:=f1 h;rw[this]at hb;simpa using hb
      ·exact tA h
     ·exact tA (f5 j aQ aQ)
    have hd:s.data.toList.drop pos=(s.data.toList.drop pos).take K++s.data.toList.drop (pos+K):=by
     rw[←List.drop_drop];exact(List.take_append_drop K _).symm
    have cur:∀a,a≤pos→(s.data.toList.take (pos+K)).drop a=(s.data.toList.take pos).drop a++(s.data.toList.drop pos).take K:=by
     intro a ha;rw[List.take_add,List.drop_append_of_le_length (by rw[zc];omega)]
    cases st with
    |none=>
     rw[uF,if_pos hlt,if_neg hb0,hK];rw[ih _ _ _ aQ aQ (fun a h=>by injection h with h;omega)]
     conv=>rhs;rw[hd,o5 _ _ _ seg]
     congr 2;rw[rI,rI,cur pos (aA _),lI,Eh (by rw[zc];omega),lI]
    |some a=>
     have ha:=hst a rfl;rw[uG,if_pos hlt,if_neg hb0,hK];rw[ih _ _ _ aQ aQ (fun b h=>by injection h with h;omega)]
     conv=>rhs;rw[hd,o5 _ _ _ seg]
     congr 2;rw[rI,rI,cur a aQ]
  ·have hx:Lib.spansFromP lj s (f+1) pos st acc=(acc,st):=Lib.spansFromP_end _ _ _ _ _ _ hlt;rw[hx];exact fin pos st acc aQ hst
theorem IM(s:ByteArray):Lib.goFieldsP lj s=(fieldsB s.data.toList).map gJ:=by
 have h:=BJ s s.size 0 none [] aQ aQ (fun a h=>by cases h);rw[List.map_nil,lI,List.drop_zero]at h;unfold fieldsB;rw[show rI s.data.toList 0 none=[]from rfl]at h;rw[←h,List.map_map];unfold Lib.goFieldsP Lib.spansOfP;apply List.map_congr_left;intro x _;show s.extract x.1 x.2=gJ (IL s.data.toList x);unfold gJ IL;apply ahR;rw[ByteArray.data_extract];apply Array.ext';rw[Array.toList_extract];simp[List.drop_take]
def abg(base B:Nat)(l:List UInt8)(r:Ending):Prop:=(∃n:Nat,num1 base B l=some n∧r=.returned (.tuple #[.int .u64 n,.nilIface]))∨(num1 base B l=none∧∃(n:Nat)(tp:TypeId)(p:Value),n<18446744073709551616∧r=.returned (.tuple #[.int .u64 n,.iface tp p]))
theorem abV(c:UInt8):dval 10 c=if 48≤c.toNat∧c.toNat≤57 then some (c.toNat-48)else none:=by
 unfold dval;split
 ·rw[if_pos aQ]
 ·split
  ·rw[if_neg aQ]
  ·split
   ·rw[if_neg aQ]
   ·rfl
theorem nG{dv:UInt8→Option Nat}{base B acc:Nat}{l:List UInt8}(hb:1≤base)(h:B≤acc):(oU dv base acc l).bind (fun n=>if n<B then some n else none)=none:=by
 cases e:oU dv base acc l with
 |none=>rfl
 |some n=>
  have:=YC dv base hb l acc n e;simp only[ahJ];rw[if_neg aQ]
theorem abW{M:Nat}(hM:M<18446744073709551616):∀(l:List UInt8)(acc:Nat),acc≤M→(match Lib.parseUintM M acc l with
 | .ok u=>(oU (dval 10) 10 acc l).bind (fun n=>if n<M+1 then some n else none)=some u
 |_=>(oU (dval 10) 10 acc l).bind (fun n=>if n<M+1 then some n else none)=none):=by
 intro l
 induction l with
 |nil=>intro acc h;simp only[Lib.parseUintM,oU,ahJ];rw[if_pos aQ]
 |cons c r ih=>
  intro acc h;unfold Lib.parseUintM oU;rw[abV];by_cases hd:48≤c.toNat∧c.toNat≤57
  ·rw[if_pos hd,if_pos hd];simp only;by_cases hc:1844674407370955162≤acc
   ·rw[if_pos hc];exact nG aH (by omega)
   ·rw[if_neg hc];by_cases hm:M<acc*10+(c.toNat-48)
    ·rw[if_pos hm];exact nG aH (by omega)
    ·rw[if_neg hm];exact ih _ (by omega)
  ·rw[if_neg hd,if_neg hd];rfl
theorem IP{B:Nat}(hB:B≤64)(l:List UInt8):(match ah2 B l with
 | .ok u=>num1 10 (2^B) l=some u
 |_=>num1 10 (2^B) l=none):=by
 have hp:0<2^B:=Nat.pow_pos aH;have hl:2^B≤2^64:=ahA aH hB;unfold ah2 num1;by_cases h:l=[]
 ·rw[if_pos h,if_pos h]
 ·rw[if_neg h,if_neg h];have:=abW (M:=2^B-1) aQ l 0 aQ;rw[show 2^B-1+1=2^B by omega]at this;exact this
structure Env(w:World):Prop where
 mx:∃m:Int,w.cell? ⟨2,0,none⟩=some (.int .i64 m)
 pow:Lib.TabIs ah w "internal/strconv.uint64pow10" .u64 Lib.pow10Tab
 db:w.cell? ⟨6,15,none⟩=some (.int .u8 4)
 es:∃(tp:TypeId)(p:Value),w.cell? ⟨7,0,none⟩=some (.iface tp p)
 er:∃(tp:TypeId)(p:Value),w.cell? ⟨8,0,none⟩=some (.iface tp p)
theorem Env.below{w w':World}(h:Env w)(hb:aW w w'):Env w':=by
 have c:∀{i o:Nat}{v:Value},w.cell? ⟨i,o,none⟩=some v→w'.cell? ⟨i,o,none⟩=some v:=fun{i o v}hv=>(hb.cell (p:=⟨i,o,none⟩) (aj w _ hv)).trans hv
 obtain⟨m,hm⟩:=h.mx;obtain⟨t1,p1,h1⟩:=h.es;obtain⟨t2,p2,h2⟩:=h.er;exact⟨⟨m,c hm⟩,Lib.tabBelow_of_tabIs h.pow w' hb,c h.db,⟨t1,p1,c h1⟩,⟨t2,p2,c h2⟩⟩
def pj(c:Nat):Nat:=c|||32
theorem SS(c:Nat)(h:c<256):pj c<256:=Nat.or_lt_two_pow (n:=8) h (by decide)
theorem IQ:∀c:Fin 256,¬(48≤c.1∧c.1≤57)→dval 16 (ahT c.1)=if 97≤pj c.1∧pj c.1≤102 then some (pj c.1-97+10)else none:=by decide+kernel
theorem ET(c:UInt8)(h:¬(48≤c.toNat∧c.toNat≤57)):dval 16 c=if 97≤pj c.toNat∧pj c.toNat≤102 then some (pj c.toNat-97+10)else none:=by
 have:=IQ ⟨c.toNat,c.toNat_lt⟩ h;rwa [UInt8.ofNat_toNat]at this
theorem IU(c:UInt8)(h:48≤c.toNat∧c.toNat≤57):dval 16 c=some (c.toNat-48):=by
 unfold dval;rw[if_pos h,if_pos aQ]
theorem OX(c:Nat)(hc:c<256)(w:World):Calls ah 271 #[.int .u8 c] w fun e w'=>e=.returned (.int .u8 (pj c:Int))∧w=w':=by
 have e1:bits .or .u8 (c:Int) 32=(pj c:Int):=u8_or_nat c 32 hc aH;go_enter Tryz.func271,Tryz.ntmps271;go_wp2_with fail
 go_ret;exact⟨rfl,rfl⟩
def vB(l:List UInt8)(r:Ending):Prop:=(∃n:Nat,num1 16 18446744073709551616 l=some n∧r=.returned (.tuple #[.int .u64 n,.nilIface]))∨(num1 16 18446744073709551616 l=none∧((r=.returned (.tuple #[.int .u64 0,.iface 346 (.int .i64 2)]))∨(r=.returned (.tuple #[.int .u64 18446744073709551615,.iface 346 (.int .i64 1)]))))
theorem vB.bad{l:List UInt8}(h:num1 16 18446744073709551616 l=none):vB l (.returned (.tuple #[.int .u64 0,.iface 346 (.int .i64 2)])):=Or.inr ⟨h,Or.inl rfl⟩
theorem vB.big{l:List UInt8}(h:num1 16 18446744073709551616 l=none):vB l (.returned (.tuple #[.int .u64 18446744073709551615,.iface 346 (.int .i64 1)])):=Or.inr ⟨h,Or.inr rfl⟩
def kG(acc:Nat)(l:List UInt8):Option Nat:=(oU (dval 16) 16 acc l).bind fun n=>if n<18446744073709551616 then some n else none
theorem zX{acc:Nat}{l:List UInt8}(h:18446744073709551616≤acc):kG acc l=none:=nG aH h
theorem IV(acc:Nat)(c:UInt8)(r:List UInt8):kG acc (c::r)=match dval 16 c with
 |none=>none
 |some d=>kG (acc*16+d) r:=by
 unfold kG
 conv=>lhs;arg 1;unfold oU
 cases dval 16 c<;>rfl
theorem YJ(t:ByteArray)(hmax:t.size≤9223372036854775806)(w:World):Calls ah 261 #[.string t,.int .i64 16,.int .i64 64] w fun e w'=>vB t.data.toList e∧aW w w':=by
 by_cases hne:t.size=0
 ·have he:t=⟨#[]⟩:=by
   apply ahR;exact Array.eq_empty_of_size_eq_zero hne
  rw[he];have hb:=aM w.heap.size w;go_enter Tryz.func261,Tryz.ntmps261;go_wp2_with fail
  go_ret2;exact⟨vB.bad rfl,hb⟩
 have hemp:t.toList.isEmpty=false:=by
  rw[←decide_eq_emptyBytes];exact decide_eq_false (fun h=>hne (by rw[h];rfl))
 have hcv:=Lib.run_convert_string_bytes (P:=ah) w 9 67 5 t bn cR cB;have hB:∀j,j<t.size→(Lib.bytesWorld w 5 t).cell? ⟨w.heap.size,j,none⟩=some (.int .u8 (t.data.toList.getD j 0).toNat):=fun j hj=>Lib.bytesWorld_cell w 5 t j hj
 have hbl:=Lib.bytesWorld_below w 5 t;obtain⟨W1,hW1⟩:=bq (Lib.bytesWorld w 5 t);rw[←hW1]at hcv hB hbl;clear hW1;have Hbl:=ae hbl;clear hbl;obtain⟨bs,hL⟩:=bq t.data.toList;have hLn:bs.length=t.size:=by rw[hL,Lib.size_eq]
 rw[←hL]at hB⊢;have hbs:bs≠[]:=fun e=>hne (by rw[←hLn,e];rfl)
 clear hL;have hnum:num1 16 18446744073709551616 bs=kG 0 bs:=by
  unfold num1 kG;rw[if_neg hbs]
 obtain⟨IW,HBc,HLn⟩:=bu hnum hB hLn;clear hnum hB hLn hbs hne;have hmv:IntKind.u64.wrap (IntKind.u64.wrap 18446744073709551616-1)=18446744073709551615:=by
  rw[fe,fe];decide
 go_enter Tryz.func261,Tryz.ntmps261;go_wp2_with fail
 go_loop [12,13,101] (fun vu vn vi=>∃(k acc:Nat)(a:Int),vu=.bool false∧vn=.int .u64 a∧vi=.int .i64 k∧k≤t.size∧Hid (a=(acc:Int)∧acc<18446744073709551616∧kG 0 bs=kG acc (bs.drop k)))
  (fun _ _ vi=>t.size-(intOf vi).toNat)
 case atStart=>exact⟨0,0,0,rfl,rfl,rfl,by omega,rfl,by omega,rfl⟩
 case round=>
  obtain⟨k,acc,a,rfl,rfl,rfl,hk,hh⟩:=hrel;obtain⟨ha,hacc,hdec⟩:=hh.out;clear hh;have a0:0≤a:=by omega
  have a1:a<18446744073709551616:=by omega
  by_cases hkn:k<t.size
  ·have hkl:k<bs.length:=by have:=HLn.out;omega
   have hc:=HBc.out k hkn;have hdrop:bs.drop k=bs[k]'hkl::bs.drop (k+1):=bR hkl;have hget:bs.getD k 0=bs[k]'hkl:=by simp[List.getD,af hkl]
   rw[hdrop,IV]at hdec;rw[hget]at hc;generalize bs[k]'hkl=c at hc hdec;have hc256:c.toNat<256:=c.toNat_lt;have hdd:=IU c;have hdl:=ET c;have MP:=ae (OX c.toNat hc256 W1);have abh:=SS c.toNat hc256;have h95:c.toNat=95→pj c.toNat=127:=fun h=>by rw[h];rfl
   generalize pj c.toNat=m at hdl MP abh h95;generalize dval 16 c=D at hdec hdd hdl;generalize c.toNat=x at hc hc256 hdd hdl MP h95;clear hdrop hget;by_cases hdig:48≤x∧x≤57
   ·obtain⟨hd0,hd1⟩:=hdig;rw[hdd ⟨hd0,hd1⟩]at hdec;simp only at hdec;clear hdd hdl;by_cases hcut:1152921504606846976≤acc
    ·have hF:kG 0 bs=none:=by rw[hdec];exact zX (by omega)
     have icut:1152921504606846976≤a:=by omega
     have HF:=ae hF;clear hcut hacc hF ha hdec;go_wp2_with fail
     go_ret2;exact⟨vB.big (IW.out.trans HF.out),Hbl.out⟩
    ·have HN:Hid (a*16+((x:Int)-48)=((acc*16+(x-48):Nat):Int)∧acc*16+(x-48)<18446744073709551616∧kG 0 bs=kG (acc*16+(x-48)) (bs.drop (k+1))):=ae ⟨by omega,by omega,hdec⟩;have icut:a<1152921504606846976:=by omega
     have iov:a*16+((x:Int)-48)<18446744073709551616:=by omega
     clear hcut hacc hdec ha;go_wp2_with fail
     refine⟨⟨k+1,acc*16+(x-48),a*16+((x:Int)-48),rfl,(by first|rfl|(congr 1;omega)),(by first|rfl|(congr 1;omega)),by omega,HN⟩,by simp[intOf];omega⟩
   ·rw[hdl hdig]at hdec;clear hdd hdl;by_cases hx95:x=95
    ·have ad1:=h95 hx95;subst hx95;subst ad1;rw[if_neg aQ]at hdec;simp only at hdec;have HF:=ae hdec;have hl2:Calls ah 271 #[.int .u8 95] W1 fun e w'=>e=.returned (.int .u8 127)∧W1=w':=MP.out
     have Hl2:=ae hl2;have hc2:W1.cell? ⟨w.heap.size,k,none⟩=some (.int .u8 95):=hc;clear hc hdec hacc ha hdig abh hc256 h95 MP hl2;go_wp2_with(go_at_call 271;refine Hl2.out.mono ?_;rintro e w'⟨rfl,rfl⟩)
     all_goals(go_ret2;exact⟨vB.bad (IW.out.trans HF.out),Hbl.out⟩)
    ·have ahh:((x:Int)==95)=false:=by simp;omega
     clear h95 hx95;by_cases hlet:97≤m∧m≤102
     ·rw[if_pos hlet]at hdec;simp only at hdec;obtain⟨hm0,hm1⟩:=hlet;have hm2:m≤122:=by omega
      by_cases hcut:1152921504606846976≤acc
      ·have hF:kG 0 bs=none:=by rw[hdec];exact zX (by omega)
       have icut:1152921504606846976≤a:=by omega
       have HF:=ae hF;clear hcut hacc hF ha hdec;go_wp2_with(go_at_call 271;refine(MP.out).mono ?_;rintro e w'⟨rfl,rfl⟩)
       all_goals(go_ret2;exact⟨vB.big (IW.out.trans HF.out),Hbl.out⟩)
      ·have HN:Hid (a*16+((m:Int)-97+10)=((acc*16+(m-97+10):Nat):Int)∧acc*16+(m-97+10)<18446744073709551616∧kG 0 bs=kG (acc*16+(m-97+10)) (bs.drop (k+1))):=ae ⟨by omega,by omega,hdec⟩;have icut:a<1152921504606846976:=by omega
       have iov:a*16+((m:Int)-97+10)<18446744073709551616:=by omega
       clear hcut hacc hdec ha;go_wp2_with(go_at_call 271;refine(MP.out).mono ?_;rintro e w'⟨rfl,rfl⟩)
       all_goals exact⟨⟨k+1,acc*16+(m-97+10),a*16+((m:Int)-97+10),rfl,(by first|rfl|(congr 1;omega)),(by first|rfl|(congr 1;omega)),by omega,HN⟩,by simp[intOf];omega⟩
     ·rw[if_neg hlet]at hdec;simp only at hdec;have HF:=ae hdec;clear hdec hacc ha;by_cases hm0:97≤m
      ·by_cases hm1:m≤122
       ·have hm2:102<m:=by omega
        clear hlet;go_wp2_with(go_at_call 271;refine(MP.out).mono ?_;rintro e w'⟨rfl,rfl⟩)
        all_goals(go_ret2;exact⟨vB.bad (IW.out.trans HF.out),Hbl.out⟩)
       ·clear hlet;go_wp2_with(go_at_call 271;refine(MP.out).mono ?_;rintro e w'⟨rfl,rfl⟩)
        all_goals(go_ret2;exact⟨vB.bad (IW.out.trans HF.out),Hbl.out⟩)
      ·clear hlet;go_wp2_with(go_at_call 271;refine(MP.out).mono ?_;rintro e w'⟨rfl,rfl⟩)
       all_goals(go_ret2;exact⟨vB.bad (IW.out.trans HF.out),Hbl.out⟩)
  ·have hkk:k=t.size:=by omega
   subst hkk;have hF:kG 0 bs=some acc:=by
    rw[hdec,List.drop_eq_nil_of_le (by have:=HLn.out;omega)];unfold kG;simp only[oU,ahJ];rw[if_pos hacc]
   have HF:=ae hF;subst ha;clear hdec hacc a0 a1 hF;go_wp2_with fail
   go_ret2;exact⟨Or.inl ⟨acc,IW.out.trans HF.out,rfl⟩,Hbl.out⟩
def zY(base B:Nat)(l:List UInt8)(w:World)(r:Ending)(w':World):Prop:=abg base B l r∧aW w w'
theorem BK{w:World}(env:Env w)(fn s:ByteArray)(base bits:Int)(hs:s.size≤281474976710656):Calls ah 262 #[.string fn,.string s,.int .i64 base,.int .i64 bits,.iface 346 (.int .i64 2)] w fun e w'=>(∃(tp:TypeId)(p:Value),e=.returned (.iface tp p))∧aW w w':=by
 obtain⟨tp,p,hv⟩:=env.es;have:=AnyPu.strconv_toError_syntax (P:=ah) (ρ:=Tryz.laysPu14_ren) {Tryz.laysPu14 with} fn s base bits (.iface tp p) w hs hv (Or.inr ⟨tp,p,rfl⟩);exact this.mono fun e w'⟨N,he,_,_,hb⟩=>⟨⟨_,_,he⟩,hb⟩
theorem EU{w:World}(env:Env w)(fn s:ByteArray)(base bits:Int)(hs:s.size≤281474976710656):Calls ah 262 #[.string fn,.string s,.int .i64 base,.int .i64 bits,.iface 346 (.int .i64 1)] w fun e w'=>(∃(tp:TypeId)(p:Value),e=.returned (.iface tp p))∧aW w w':=by
 obtain⟨tp,p,hv⟩:=env.er;have:=AnyPu.strconv_toError_range (P:=ah) (ρ:=Tryz.laysPu14_ren) {Tryz.laysPu14 with} fn s base bits (.iface tp p) w hs hv (Or.inr ⟨tp,p,rfl⟩);exact this.mono fun e w'⟨N,he,_,_,hb⟩=>⟨⟨_,_,he⟩,hb⟩
theorem afZ{w:World}(env:Env w)(t:ByteArray)(hs:t.size≤4000000):Calls ah 240 #[.string t,.int .i64 16,.int .i64 64] w (zY 16 18446744073709551616 t.data.toList w):=by
 have H:=ae (YJ t aQ w);have oG:=ae env;clear env;obtain⟨bs,hL⟩:=bq t.data.toList;rw[←hL]at H⊢;clear hL;go_enter Tryz.func240,Tryz.ntmps240;go_wp2_with fail
 go_at_call 261;refine H.out.mono ?_;rintro e w1⟨⟨n,hn,rfl⟩|⟨hn,rfl|rfl⟩,hb⟩
 ·obtain⟨Hn,Hb⟩:=aN hn hb;clear hn hb;go_wp2_with fail
  go_ret2;exact⟨Or.inl ⟨n,Hn.out,rfl⟩,Hb.out⟩
 ·obtain⟨Hn,Hb⟩:=aN hn hb;clear hn hb;have HT:=ae (BK (oG.out.below Hb.out) ⟨#[80,97,114,115,101,85,105,110,116]⟩ t 16 64 aQ);go_wp2_with(go_at_call 262;refine HT.out.mono ?_;rintro e w2⟨⟨tp,p,rfl⟩,hb2⟩;have Hb2:=aZ Hb hb2;clear hb2)
  go_ret2;exact⟨Or.inr ⟨Hn.out,0,tp,p,by decide,rfl⟩,Hb2.out⟩
 ·obtain⟨Hn,Hb⟩:=aN hn hb;clear hn hb;have HT:=ae (EU (oG.out.below Hb.out) ⟨#[80,97,114,115,101,85,105,110,116]⟩ t 16 64 aQ);go_wp2_with(go_at_call 262;refine HT.out.mono ?_;rintro e w2⟨⟨tp,p,rfl⟩,hb2⟩;have Hb2:=aZ Hb hb2;clear hb2)
  go_ret2;exact⟨Or.inr ⟨Hn.out,18446744073709551615,tp,p,by decide,rfl⟩,Hb2.out⟩
theorem YK{w:World}(env:Env w)(t:ByteArray)(hs:t.size≤4000000):Calls ah 240 #[.string t,.int .i64 10,.int .i64 64] w (zY 10 18446744073709551616 t.data.toList w):=by
 have hn:=IP (B:=64) aH t.data.toList;rcases h:ah2 64 t.data.toList with u|_|_
 ·rw[h]at hn;refine(Tryz.strconv_ParseUint_10_at64_ok t aQ u h w).mono ?_;rintro e w'⟨rfl,hw⟩;refine⟨Or.inl ⟨u,hn,rfl⟩,?_⟩;rcases hw with rfl|rfl
  ·exact aM _ _
  ·exact Lib.bytesWorld_below _ _ _
 ·rw[h]at hn;obtain⟨tp,p,hv⟩:=env.es;refine(Any.strconv_ParseUint_10_at64_syntax Tryz.laysPu14 t aQ h (.iface tp p) w hv (Or.inr ⟨tp,p,rfl⟩)).mono ?_;rintro e w'⟨N,rfl,_,_,hb⟩;exact⟨Or.inr ⟨hn,0,_,_,by decide,rfl⟩,hb⟩
 ·rw[h]at hn;obtain⟨tp,p,hv⟩:=env.er;refine(Tryz.strconv_ParseUint_10_at64_range t aQ h (.iface tp p) w hv (Or.inr ⟨tp,p,rfl⟩)).mono ?_;rintro e w'⟨N,rfl,_,_,hb⟩;exact⟨Or.inr ⟨hn,18446744073709551615,_,_,by decide,rfl⟩,hb⟩
theorem abX{w:World}(env:Env w)(t:ByteArray)(hs:t.size≤4000000):Calls ah 240 #[.string t,.int .i64 10,.int .i64 8] w (zY 10 256 t.data.toList w):=by
 have hn:=IP (B:=8) aH t.data.toList;rcases h:ah2 8 t.data.toList with u|_|_
 ·rw[h]at hn;refine(Tryz.strconv_ParseUint_10_at8_ok t aQ u h w).mono ?_;rintro e w'⟨rfl,hw⟩;refine⟨Or.inl ⟨u,hn,rfl⟩,?_⟩;rcases hw with rfl|rfl
  ·exact aM _ _
  ·exact Lib.bytesWorld_below _ _ _
 ·rw[h]at hn;obtain⟨tp,p,hv⟩:=env.es;refine(Any.strconv_ParseUint_10_at8_syntax Tryz.laysPu14 t aQ h (.iface tp p) w hv (Or.inr ⟨tp,p,rfl⟩)).mono ?_;rintro e w'⟨N,rfl,_,_,hb⟩;exact⟨Or.inr ⟨hn,0,_,_,by decide,rfl⟩,hb⟩
 ·rw[h]at hn;obtain⟨tp,p,hv⟩:=env.er;refine(Tryz.strconv_ParseUint_10_at8_range t aQ h (.iface tp p) w hv (Or.inr ⟨tp,p,rfl⟩)).mono ?_;rintro e w'⟨N,rfl,_,_,hb⟩;exact⟨Or.inr ⟨hn,255,_,_,by decide,rfl⟩,hb⟩
theorem af0{w:World}(h:w.cell? ⟨6,15,none⟩=some (.int .u8 4)):Calls ah 267 #[.int .u64 16] w fun e w'=>e=.returned (.int .i64 4)∧w=w':=by
 have e1:IntKind.u64.wrap (bits BinOp.and IntKind.u64 16 (IntKind.u64.wrap (-16))*285870213051353865)/288230376151711744=15:=by kernel_rfl
 go_enter Tryz.func267,Tryz.ntmps267;go_wp2_with fail
 go_ret;exact⟨rfl,rfl⟩
theorem tz_{w:World}(h:w.cell? ⟨6,15,none⟩=some (.int .u8 4)):Calls ah 253 #[.int .u64 16] w fun e w'=>e=.returned (.int .i64 4)∧w=w':=by
 have H:=ae h;clear h;go_enter Tryz.func253,Tryz.ntmps253;go_wp2_with(go_at_call 267;refine(af0 H.out).mono ?_;rintro e wf⟨rfl,rfl⟩)
 go_ret;exact⟨rfl,rfl⟩
theorem ad2{w:World}:Calls ah 252 #[.int .i64 16] w fun e w'=>e=.returned (.bool true)∧w=w':=by
 go_enter Tryz.func252,Tryz.ntmps252;go_wp2_with fail
 go_ret;exact⟨rfl,rfl⟩
structure pn(w:World)(g:Nat)(t:List UInt8):Prop where
 row:∃cs:Array Value,aG w g 330 cs∧cs.size=65∧(∀i,i<65→∃v,cs[i]? =some v)∧∀j(hj:j<t.length),cs[65-t.length+j]? =some (.int .u8 ((t[j]'hj).toNat:Int))
theorem pn.cell{w:World}{g:Nat}{t:List UInt8}(h:pn w g t)(i:Nat)(hi:i<65):∃v,w.cell? ⟨g,i,none⟩=some v:=by
 obtain⟨cs,hb,_,ha,_⟩:=h.row;obtain⟨v,hv⟩:=ha i hi;exact⟨v,(hb.cell i).trans hv⟩
theorem pn.frozen{w:World}{g:Nat}{t:List UInt8}(h:pn w g t)(i:Nat):w.frozen? ⟨g,i,none⟩=false:=by
 obtain⟨cs,hb,_⟩:=h.row;exact hb.frozen i
theorem pn.put{w:World}{g:Nat}{t:List UInt8}(h:pn w g t)(ht:t.length<65)(c:UInt8):pn (w.setCell ⟨g,64-t.length,none⟩ (.int .u8 (c.toNat:Int))) g (c::t):=by
 obtain⟨cs,hb,hs,ha,hc⟩:=h.row;refine⟨_,hb.aL _ _,by simp[hs],fun i hi=>?_,fun j hj=>?_⟩
 ·rw[Array.getElem?_setIfInBounds];split
  ·exact⟨_,by rw[if_pos aQ]⟩
  ·exact ha i hi
 ·rw[bO]at hj⊢;rw[Array.getElem?_setIfInBounds];cases j with
  |zero=>rw[if_pos aQ,if_pos aQ];rfl
  |succ j=>
   rw[if_neg aQ,List.getElem_cons_succ];have:=hc j aQ;rw[←this];congr 1;omega
theorem OY{x y:Nat}{t:List UInt8}(h:hexL x=hexL y++t)(hy:16≤y):hexL x=hexL (y/16)++(vA (y%16)::t):=by
 rw[h]
 conv=>lhs;arg 1;unfold hexL
 rw[dif_neg aQ,aO];rfl
theorem OZ{x y:Nat}{t:List UInt8}(h:hexL x=hexL y++t)(hy:y<16):hexL x=vA y::t:=by
 rw[h]
 conv=>lhs;arg 1;unfold hexL
 rw[dif_pos hy];rfl
theorem uH(d:Nat)(h:d<16):((⟨#[48,49,50,51,52,53,54,55,56,57,97,98,99,100,101,102,103,104,105,106,107,108,109,110,111,112,113,114,115,116,117,118,119,120,121,122]⟩:ByteArray)[d]'(Nat.lt_trans h aH)).toNat=(vA d).toNat:=by
 have:∀d:Fin 16,((⟨#[48,49,50,51,52,53,54,55,56,57,97,98,99,100,101,102,103,104,105,106,107,108,109,110,111,112,113,114,115,116,117,118,119,120,121,122]⟩:ByteArray)[d.1]'(Nat.lt_trans d.2 aH)).toNat=(vA d.1).toNat:=by decide
 exact this ⟨d,h⟩
theorem YL(g n:Nat)(hn:n≤64)(W:World):(Instr.sliceAt 330 (.pointer (some ⟨g,0,none⟩)) (some (.int .i64 ((65:Int)-(n:Int)-1))) none none).run ah W=.ok (.slice (some ⟨g,64-n,none⟩) (n+1) (n+1)) W:=by
 have ha:ah.arrayLen 330=65:=by kernel_rfl
 have hu:ah.underlying 330=some (.array (ah.arrayLen 330) (ah.elem 330)):=by kernel_rfl
 have hs:(sizeOf (ah.elem 330)).run ah W=.ok 1 W:=by kernel_rfl
 rw[run_sliceAt_array_l W _ _ hu .i64 ((65:Int)-(n:Int)-1) aQ (by rw[ha];omega),hs,ha];have e:((65:Int)-(n:Int)-1).toNat=64-n:=by omega
 rw[e];show Result.ok (Value.slice (some (if 65=64-n then(⟨g,0,none⟩:Addr)else(⟨g,0,none⟩:Addr).add ((64-n)*1))) (65-(64-n)) (65-(64-n))) W=_;rw[if_neg aQ,show 65-(64-n)=n+1 by omega];have e2:(⟨g,0,none⟩:Addr).add ((64-n)*1)=⟨g,64-n,none⟩:=by unfold Addr.add;split<;>simp_all
 rw[e2]
theorem abY{w:World}(x:Nat)(hx:x<65536)(h:w.cell? ⟨6,15,none⟩=some (.int .u8 4)):Calls ah 234 #[au,.int .u64 x,.int .i64 16,.bool false,.bool false] w fun e w'=>e=.returned (.tuple #[au,.string ⟨(hexL x).toArray⟩])∧aW w w':=by
 have H:=ae (h:w.cell? ⟨6,15,none⟩=some (.int .u8 4));have h5:6<w.heap.size:=aj w _ h;have TZ:=fun o=>tz_ (w:=w.alloc o) ((((aM w.heap.size w).alloc (aA _) o).cell (p:=⟨6,15,none⟩) h5).trans h)
 clear h;go_enter Tryz.func234,Tryz.ntmps234;go_wp2_with(first
  |(go_at_call 252;refine ad2.mono ?_;rintro e wf⟨rfl,rfl⟩)
  |(go_at_call 253;refine(TZ _).mono ?_;rintro e wf⟨rfl,rfl⟩))
 go_loopw [1,13] (fun u i wr=>∃(y:Nat)(t:List UInt8),t.length≤15∧y<16^(16-t.length)∧u=.int .u64 y∧i=.int .i64 ((65:Int)-(t.length:Int))∧ag (hexL x=hexL y++t)∧pn wr w.heap.size t∧aW w wr) (fun u _ _=>(intOf u).toNat)
 case atStart=>
  have hz:(Tryz.zeroCells330:Array Value).size=65:=by kernel_rfl
  exact⟨x,[],by decide,by simp;omega,rfl,rfl,ae (by simp),⟨⟨Tryz.zeroCells330,aG.new _ _ _,hz,fun i hi=>⟨_,Array.getElem?_eq_getElem (by rw[hz];exact hi)⟩,fun j hj=>absurd hj (by simp)⟩⟩,(aM _ _).alloc (aA _) _⟩
 case round=>
  obtain⟨y,t,ht,hy,rfl,rfl,hx,hr,hB⟩:=hrel;have hyt:y<18446744073709551616:=ahF hy (aw (ahA aH (show 16-t.length≤16 by omega)) aH);have hput:=fun c=>hr.put (by omega:t.length<65) c
  obtain⟨v,hv⟩:=hr.cell (64-t.length) aQ;have hf:=hr.frozen (64-t.length);have e1:((65:Int)-(t.length:Int)-1).toNat=64-t.length:=by omega
  have h0:(0:Int)≤(65:Int)-(t.length:Int)-1:=by omega
  have hlt:=(show w.heap.size<wr.heap.size by obtain⟨cs,hb,_⟩:=hr.row;exact hb.lt);by_cases hc:16≤y
  ·have hstep:=OY hx.out hc;have ad3:=ae hstep;clear hstep;have ad4:y/16<16^(16-(t.length+1)):=by
    have:16^(16-t.length)=16^(16-(t.length+1))*16:=by
     rw[←Nat.pow_succ];congr 1;omega
    omega
   have hn:t.length+1≤15:=by
    rcases ahL t.length 15 with h|h
    ·omega
    ·have:t.length=15:=by omega
     rw[this]at hy;omega
   have ea:bits .and .u64 (y:Int) 15=((y%16:Nat):Int):=by
    have h:=u64_and_nat y 15 hyt aH;rw[show((15:Nat):Int)=15 from rfl]at h;rw[h,show(15:Nat)=2^4-1 from rfl,Nat.and_two_pow_sub_one_eq_mod]
   have hm:y%16<16:=Nat.mod_lt _ aH;have hd:=uH (y%16) hm;have hP:=hput (vA (y%16));rw[←hd]at hP;obtain⟨ad5,HB,af1,Hx⟩:=cY hP hB ad4 hx;clear hx hd hP hput hB hr hy ad4;go_wp2_with fail
   go_roundw
   case rel=>
    exact⟨y/16,vA (y%16)::t,by simpa using hn,af1.out,by go_num,by rw[bO];congr 1;omega,ad3,ad5.out,HB.out.setCell (aA _) _⟩
   case measure=>simp[intOf];omega
  ·have hlast:=OZ hx.out aQ;have ad6:=ae hlast;clear hlast;have hm:y<16:=by omega
   have hd:=uH y hm;have hP:=hput (vA y);have hback:=run_convert_bytes_back (P:=ah) (wr.setCell ⟨w.heap.size,64-t.length,none⟩ (.int .u8 ((vA y).toNat:Int))) 67 9 5 ⟨w.heap.size,64-t.length,none⟩ (t.length+1) (vA y::t) cR cB bn (fun j hj=>by
    obtain⟨cs,hb,hs,ha,hcc⟩:=hP.row;have e:(⟨w.heap.size,64-t.length,none⟩:Addr).add j=⟨w.heap.size,64-t.length+j,none⟩:=by unfold Addr.add;split<;>simp_all
    rw[e];refine(hb.cell _).trans ?_;have:=hcc j hj;rw[bO]at this;rw[←this];congr 1;omega)
   rw[←hd]at hP hback;obtain⟨ad5,HB⟩:=aN hP hB;clear hx hd hP hput hB hr hy;have hsl:=YL w.heap.size t.length aQ;rw[bO]at hback;go_wp2_with fail
   go_ret2;exact⟨show Ending.returned (.tuple #[au,.string ⟨(vA y::t).toArray⟩])=_ by rw[ad6.out],HB.out.setCell (aA _) _⟩
theorem abZ{w:World}(x:Nat)(hx:x<65536)(h:w.cell? ⟨6,15,none⟩=some (.int .u8 4)):Calls ah 209 #[.int .u64 x,.int .i64 16] w fun e w'=>e=.returned (.string ⟨(hexL x).toArray⟩)∧aW w w':=by
 have H:=ae (abY x hx h);clear h;go_enter Tryz.func209,Tryz.ntmps209;go_wp2_with(go_at_call 234;refine H.out.mono ?_;rintro e wf⟨rfl,hb⟩;have Hb:=ae hb;clear hb)
 go_ret;exact⟨rfl,Hb.out⟩
theorem fmt16{w:World}(x:Nat)(hx:x<65536)(h:w.cell? ⟨6,15,none⟩=some (.int .u8 4)):Calls ah 184 #[.int .u64 x,.int .i64 16] w fun e w'=>e=.returned (.string ⟨(hexL x).toArray⟩)∧aW w w':=by
 have H:=ae (abZ x hx h);clear h;go_enter Tryz.func184,Tryz.ntmps184;go_wp2_with(go_at_call 209;refine H.out.mono ?_;rintro e wf⟨rfl,hb⟩;have Hb:=ae hb;clear hb)
 go_ret;exact⟨rfl,Hb.out⟩
theorem rJ:(ah.info? 9).map (fun i=>(i.zero,i.size,i.bytes))=some (some (.string lJ),1,16):=by kernel_rfl
theorem own_below{w w':World}{base size n:Nat}{e:TypeId}{v:Value}{xs:List Value}(h:w.ownsRow base e size v n xs)(hb:aW w w'):w'.ownsRow base e size v n xs:=h.kept (row:=none) ⟨hb.os,hb.tape,hb.output,hb.size,fun k hk _=>hb.block k hk⟩ (by
 cases hv:v.ownBlock with
 |none=>exact Or.inl rfl
 |some k=>exact Or.inr (by simp))
def strs(L:List (List UInt8)):List ByteArray:=L.map fun l=>⟨l.toArray⟩
theorem xq(L:List (List UInt8)):(strs L).map (·.data.toList)=L:=by
 unfold strs;rw[List.map_map]
 conv=>rhs;rw[←List.map_id L]
 exact List.map_congr_left fun l _=>by simp
theorem EV{w:World}{base n:Nat}{e:TypeId}{v:Value}{xs:List Value}(h:w.ownsRow base e 1 v (n+1) xs):∃g cap,v=.slice (some ⟨g,0,none⟩) (n+1) cap:=by
 rcases h.2 with⟨_,h⟩|⟨g,cap,_,h,_⟩
 ·omega
 ·exact⟨g,cap,h⟩
theorem EW{w:World}{base:Nat}{v:Value}{L:List (List UInt8)}(c:UInt8)(h:w.ownsRow base 9 1 v L.length ((strs L).map bM))(hl:L.length≤1000)(hj:(Lib.join L [c]).length≤4000000):Calls ah 181 #[v,.string ⟨#[c]⟩] w fun r w'=>r=.returned (.string ⟨(Lib.join L [c]).toArray⟩)∧aW w w':=by
 have hl2:(strs L).length=L.length:=by simp[strs]
 rcases h.2 with⟨rfl,hn⟩|⟨g,cap,cur,rfl,hg,hh,hcap,_,hsz,htake⟩
 ·have:L=[]:=bz hn;subst this;exact(Tryz.strings_Join_none none 0 ⟨#[c]⟩ w).mono fun r w' hq=>⟨hq.1.trans rfl,by obtain⟨_,hb⟩:=hq;first|exact hb|(subst hb;exact aM _ _)⟩
 ·have hcell:=fun j hj=>h.cellAt (g:=g) (cap:=cap) j hj
  have:=Tryz.strings_Join g 0 cap (strs L) ⟨#[c]⟩ w (fun j x hx=>by
   have hj:j<(strs L).length:=(List.getElem?_eq_some_iff.1 hx).1;rw[ahU];refine(hcell j aQ).trans ?_;rw[bS,hx];rfl) (h.lt g rfl).2 aQ aQ (by rw[xq];simpa using(show(Lib.join L [c]).length≤140737488355328 by omega))
  rw[hl2,xq]at this;exact this
theorem xr:(ah.info? 22).map (fun i=>(i.zero,i.size,i.bytes))=some (some (.int .u64 0),1,8):=by kernel_rfl
def fj(L:List Nat):List Value:=L.map fun x:Nat=>Value.int .u64 (x:Int)
theorem EX(L:List Nat)(x:Nat):fj (L++[x])=fj L++[.int .u64 x]:=by simp[fj]
theorem aV{w:World}{base size n:Nat}{e:TypeId}{v:Value}{xs:List Value}(h:w.ownsRow base e size v n xs):∃A cap,v=.slice A n cap:=by
 rcases h.2 with⟨rfl,rfl⟩|⟨g,cap,cur,rfl,_⟩
 ·exact⟨none,0,rfl⟩
 ·exact⟨_,_,rfl⟩
theorem uI{c:UInt8}:∀{l x:List UInt8},x∈dr c l→x.length≤l.length:=by
 intro l
 induction l with
 |nil=>intro x hx;simp[dr]at hx;simp[hx]
 |cons a l ih=>
  intro x hx;unfold dr at hx;split at hx
  ·rcases List.mem_cons.1 hx with rfl|hx
   ·simp
   ·have:=ih hx;simp;omega
  ·split at hx
   ·next e=>exact absurd e (OD c l)
   ·next h t e=>
    rcases List.mem_cons.1 hx with rfl|hx
    ·have:=ih (x:=h) (by rw[e];exact List.mem_cons_self ..);simp;omega
    ·have:=ih (x:=x) (by rw[e];exact List.mem_cons_of_mem _ hx);simp;omega
theorem IX{base B B' n:Nat}{l:List UInt8}(h:num1 base B l=some n)(hB:B'≤B):num1 base B' l=if n<B' then some n else none:=by
 unfold num1 at h⊢;split at h
 ·cases h
 ·next hl=>
  rw[if_neg hl];cases e:oU (dval base) base 0 l with
  |none=>rw[e]at h;cases h
  |some m=>
   rw[e]at h;simp only[ahJ]at h⊢;split at h
   ·cases h;rfl
   ·cases h
theorem BL{base B B':Nat}{l:List UInt8}(h:num1 base B l=none)(hB:B'≤B):num1 base B' l=none:=by
 cases e:num1 base B' l with
 |none=>rfl
 |some n=>
  have hlt:=nB e;unfold num1 at h e;split at e
  ·cases e
  ·next hl=>
   rw[if_neg hl]at h;cases e2:oU (dval base) base 0 l with
   |none=>rw[e2]at e;cases e
   |some m=>
    rw[e2]at e h;simp only[ahJ]at e h;split at e
    ·cases e;rw[if_pos aQ]at h;cases h
    ·cases e
def iW(Lo:Option (List Nat))(W:World)(r:Ending)(w':World):Prop:=(match Lo with
 |none=>r=.returned (.tuple #[au,.bool false])
 |some L=>∃v:Value,r=.returned (.tuple #[v,.bool true])∧w'.ownsRow W.heap.size 22 1 v L.length (fj L))∧aW W w'
theorem iW.bad{W w':World}{Lo:Option (List Nat)}(h:Lo=none)(hb:aW W w'):iW Lo W (.returned (.tuple #[au,.bool false])) w':=by rw[h];exact⟨rfl,hb⟩
theorem iW.good{W w':World}{Lo:Option (List Nat)}{L:List Nat}{v:Value}(h:Lo=some L)(ho:w'.ownsRow W.heap.size 22 1 v L.length (fj L))(hb:aW W w'):iW Lo W (.returned (.tuple #[v,.bool true])) w':=by rw[h];exact⟨⟨v,rfl,ho⟩,hb⟩
theorem uJ{w:World}(env:Env w)(s:ByteArray)(hs:s.size≤2000000)(c:UInt8)(base most:Nat)(ad7:most<18446744073709551616)(hbase:base≤16)(hpu:∀v,Env v→∀t:ByteArray,t.size≤4000000→Calls ah 240 #[.string t,.int .i64 base,.int .i64 64] v (zY base 18446744073709551616 t.data.toList v)):Calls ah 259 #[.string s,.string ⟨#[c]⟩,.int .i64 base,.int .u64 most] w (iW (dI c base (most+1) s.data.toList) w):=by
 obtain⟨i0,hi,hz0,hz1,hz2⟩:=info_parts xr;obtain⟨oG,Hpu⟩:=aN env hpu;clear hpu;by_cases hne:s.size=0
 ·have he:s=⟨#[]⟩:=by
   apply ahR;exact Array.eq_empty_of_size_eq_zero hne
  rw[he];have hL:dI c base (most+1) (⟨#[]⟩:ByteArray).data.toList=some []:=rfl;rw[hL];clear env hne ad7;go_enter Tryz.func259,Tryz.ntmps259;go_wp2_with fail
  go_ret2;exact iW.good (v:=au) rfl (bg _ _ _ _) (aM _ _)
 have hemp:s.toList.isEmpty=false:=by
  rw[←decide_eq_emptyBytes];exact decide_eq_false (fun h=>hne (by rw[h];rfl))
 have hsl:s.data.toList.length=s.size:=(Lib.size_eq s).symm;have hnl:s.data.toList≠[]:=fun e=>hne (by rw[←hsl,e];rfl)
 have hnum:dI c base (most+1) s.data.toList=gather base (most+1) (dr c s.data.toList) []:=by unfold dI;rw[if_neg hnl]
 rw[hnum];have hsp:=xb s ⟨#[c]⟩ c rfl;have hpl:∀t∈dr c s.data.toList,t.length≤s.size:=fun t ht=>by have:=uI ht;omega
 obtain⟨m,hm⟩:=env.mx;have HS:=ae (Tryz.strings_Split s ⟨#[c]⟩ m w aQ hm (show 1≤1 from aA _));clear hm env hnum hnl hne;generalize hP:Lib.splitB ⟨#[c]⟩ 0 (Lib.countB s ⟨#[c]⟩) s=P at hsp HS;have hcount:Lib.countB s ⟨#[c]⟩+1=P.length:=by
  have:=Lib.splitB_all (⟨#[c]⟩:ByteArray) (show 1≤1 from aA _) 0 (Lib.countB s ⟨#[c]⟩) s rfl;rw[hP]at this;omega
 rw[hcount]at HS;have hPl:P.length≤s.size+1:=by
  have:=congrArg List.length hsp;rw[ay]at this;rw[this];have:=qH c s.data.toList;omega
 clear hP hcount hsl;have ab0:∀k(hk:k<P.length),(dr c s.data.toList).drop k=(P[k]'hk).data.toList::(dr c s.data.toList).drop (k+1)∧(P[k]'hk).size≤2000000:=by
  intro k hk;have hkQ:k<(dr c s.data.toList).length:=by rw[←hsp,ay];exact hk
  have e:(dr c s.data.toList)[k]'hkQ=(P[k]'hk).data.toList:=by
   have:(P.map (·.data.toList))[k]'(by rw[ay];exact hk)=(P[k]'hk).data.toList:=by simp
   rw[←this];congr 1;exact hsp.symm
  refine⟨by rw[bR hkQ,e],?_⟩;have h:=hpl _ (a8 hkQ);rw[e,←Lib.size_eq]at h;omega
 have hQl:(dr c s.data.toList).length=P.length:=by rw[←hsp,ay]
 generalize dr c s.data.toList=Q at ab0 hQl⊢;obtain⟨af2,HQl,HPl⟩:=bu ab0 hQl hPl;clear hsp hpl ab0 hQl hPl;obtain⟨N,hN⟩:=bq P.length;rw[←hN]at HS HPl HQl;have hNs:N≤2000001:=by have:=HPl.out;omega
 have HN:=ae hN;clear hN;obtain⟨GR,IY⟩:=bq (gather base (most+1) Q []);rw[←IY];have HGR:=ae IY;clear IY;go_enter Tryz.func259,Tryz.ntmps259;go_wp2_with(go_at_call 160;refine HS.out.mono ?_;rintro r w1⟨rfl,rfl⟩)
 have hrow:aG (w.alloc (.cells (P.map bM).toArray 9)) w.heap.size 9 (P.map bM).toArray:=aG.new _ _ _;have hb0:=boxed w (.cells (P.map bM).toArray 9);generalize w.alloc (.cells (P.map bM).toArray 9)=W0 at hrow hb0⊢;obtain⟨zo,Hb0⟩:=aN hrow hb0;clear hrow hb0;go_loopw [10,21] (fun v10 v21 wr=>∃(k:Nat)(acc:List Nat)(A:Option Addr)(cap:Nat),k≤N∧v21=.int .i64 k∧v10=.slice A acc.length cap∧acc.length≤9∧ag (wr.ownsRow W0.heap.size 22 1 (.slice A acc.length cap) acc.length (fj acc))∧ag (aW W0 wr)∧ag (GR=gather base (most+1) (Q.drop k) acc)) (fun _ v21 _=>N-(intOf v21).toNat)
 case atStart=>exact⟨0,[],none,0,bh _,rfl,rfl,by simp,ae (bg _ _ _ _),ae (aM _ _),HGR⟩
 case round=>
  obtain⟨k,acc,A,cap,hk,rfl,rfl,hal,hown,hb,hg⟩:=hrel;by_cases hlt:k<N
  ·have hkP:k<P.length:=by have:=HN.out;omega
   have hp:=af2.out k hkP;have cx:=(hb.out.cell (p:=⟨w.heap.size,k,none⟩) zo.out.lt).trans (zo.out.cell k);rw[uy,bS,af hkP]at cx;simp only[Option.map_some]at cx;generalize P[k]'hkP=T at hp cx;have hg2:=hg.out;rw[hp.1]at hg2;have HF:=ae (Hpu.out wr ((oG.out.below Hb0.out).below hb.out) T (by have:=hp.2;omega));generalize T.data.toList=t at hp hg2 HF;have Hg2:=ae hg2;clear hp hg2 hg;go_wp2_with fail
   go_at_call 240;refine HF.out.mono ?_;rintro e w2⟨⟨n,hn,rfl⟩|⟨hn,n,tp,p,ab1,rfl⟩,hb2⟩
   ·have hb3:=aZ hb hb2;have hsz3:w.heap.size≤w2.heap.size:=aw Hb0.out.size hb3.out.size;have ho3:=ae (own_below hown.out hb2);have hb1:=IX hn (B':=most+1) aQ;have ab1:=nB hn;clear hn hb2 cx;by_cases hnm:most<n
    ·have IY:GR=none:=by
      rw[Hg2.out];unfold gather;rw[hb1,if_neg aQ]
     have IZ:=ae IY;have hq:(most:Int)<(n:Int):=by omega
     clear IY hb1;go_wp2_with fail
     go_ret2;exact iW.bad IZ.out (after Hb0.out hb3.out)
    ·have hq:¬(most:Int)<(n:Int):=by omega
     rw[if_pos aQ]at hb1;by_cases h8:8<acc.length
     ·have IY:GR=none:=by
       rw[Hg2.out];unfold gather;rw[hb1];simp only;rw[if_pos h8]
      have IZ:=ae IY;clear IY hb1;go_wp2_with fail
      go_ret2;exact iW.bad IZ.out (after Hb0.out hb3.out)
     ·have IY:GR=gather base (most+1) (Q.drop (k+1)) (acc++[n]):=by
       rw[Hg2.out]
       conv=>lhs;unfold gather
       rw[hb1];simp only;rw[if_neg h8]
      have IZ:=ae IY;clear IY hb1;go_wp2_with(at_builtin;refine wpList_append_own _ rfl _ _ 332 rfl W0.heap.size 22 i0 (.int .u64 0) 1 8 Tryz.underlying332 hi hz0 hz1 hz2 rfl aH _ acc.length _ rfl (ho3.out.alloc _) ⟨w2.heap.size,0,none⟩ 1 1 [.int .u64 n] rfl rfl (cell_one_new _ _ _) (fun x hx=>by simp at hx;subst hx;rfl) (by unfold maxLen;omega) aQ (by have:=hb3.out.size;simp;omega) ?_;intro v' w3 hown' hgrow3 hnil3;have SU:=ae hown';have hbW:=ae ((hb3.out.alloc (hb3.out.size) _).grown hgrow3 (by have:=hb3.out.size;simp;omega) (fun q hq=>(ho3.out.lt q hq).1));clear hown' hgrow3 hnil3)
      obtain⟨A',cap',rfl⟩:=aV SU.out;go_roundw
      case rel=>exact⟨k+1,acc++[n],A',cap',by omega,by go_num,by rw[ai];rfl,by rw[ai,List.length_singleton];omega,ae (by rw[EX,ai];exact SU.out),hbW,IZ⟩
      case measure=>simp[intOf];omega
   ·have hb3:=aZ hb hb2;have hb1:=BL hn (B':=most+1) aQ;have IY:GR=none:=by
     rw[Hg2.out];unfold gather;rw[hb1]
    have IZ:=ae IY;clear IY hb1 hn hb2 cx;go_wp2_with fail
    go_ret2;exact iW.bad IZ.out (after Hb0.out hb3.out)
  ·obtain rfl:k=N:=by omega
   have hend:GR=some acc:=by
    rw[hg.out,Eh (by have:=HQl.out;omega)];rfl
   have af4:=ae hend;clear hend hg;go_wp2_with fail
   go_ret2;exact iW.good (v:=.slice A acc.length cap) af4.out (hown.out.mono Hb0.out.size) (after Hb0.out hb.out)
attribute [local go_sem↓] Go.wp_at_zero Go.wp_at_succ
def jM(n:Nat):Nat→List ByteArray→List Value
 |_,[]=>[]
 |i,s::r=>.string s:: .int .i64 n:: .int .i64 i::jM n (i+1) r
theorem EY(n:Nat)(s:ByteArray):∀(ws:List ByteArray)(i:Nat),jM n i (ws++[s])=jM n i ws++[.string s,.int .i64 n,.int .i64 ((i+ws.length:Nat):Int)]:=by
 intro ws
 induction ws with
 |nil=>intro i;rfl
 |cons x r ih=>
  intro i;rw[List.cons_append,jM,ih,jM,bO,show i+1+r.length=i+(r.length+1) by omega];rfl
theorem tB(n:Nat):∀(ws:List ByteArray)(i k:Nat)(s:ByteArray),ws[k]? =some s→(jM n i ws)[k*3]? =some (.string s)∧(jM n i ws)[k*3+1]? =some (.int .i64 n)∧(jM n i ws)[k*3+2]? =some (.int .i64 ((i+k:Nat):Int)):=by
 intro ws
 induction ws with
 |nil=>intro i k s h;cases h
 |cons x r ih=>
  intro i k s h;cases k with
  |zero=>
   injection h with h
   subst h;exact⟨rfl,rfl,rfl⟩
  |succ k=>
   obtain⟨h1,h2,h3⟩:=ih (i+1) k s h;rw[show(k+1)*3=k*3+1+1+1 by omega,jM];simp only[List.getElem?_cons_succ];rw[show i+(k+1)=i+1+k by omega];exact⟨h1,h2,h3⟩
theorem cQ(w:World)(xs:List Value)(t:TypeId):∀j u,xs[j]? =some u→(w.alloc (.cells xs.toArray t)).cell? ((⟨w.heap.size,0,none⟩:Addr).add j)=some u:=by
 intro j u h;have:=(aG.new w t xs.toArray).cell j;rw[uy,h]at this;rw[←this];congr 1;simp[Addr.add];exact fun h=>h.symm
theorem O0:(ah.info? 222).map (fun i=>(i.zero,i.size,i.bytes))=some (some (.agg #[aI,.int .i64 0,.int .i64 0]),3,32):=by kernel_rfl
theorem EZ(x:Nat)(hx:x≤1114111)(w:World):Calls ah 187 #[.int .i32 x] w (Got (.bool (lj x)) w):=by
 have hb0:=aM w.heap.size w;unfold lj;by_cases h1:x=32
 ·subst h1;go_enter Tryz.func187,Tryz.ntmps187;go_wp2_with fail
  go_ret;exact⟨rfl,hb0⟩
 ·have q1:((x:Int)==32)=false:=by simp;omega
  rw[decide_eq_false h1,Bool.false_or];by_cases h2:x=9
  ·subst h2;clear h1;go_enter Tryz.func187,Tryz.ntmps187;go_wp2_with fail
   go_ret;exact⟨rfl,hb0⟩
  ·have q2:((x:Int)==9)=false:=by simp;omega
   rw[decide_eq_false h2];clear h1 h2;go_enter Tryz.func187,Tryz.ntmps187;go_wp2_with fail
   go_ret;exact⟨rfl,hb0⟩
def Split(n:Nat)(ws:List ByteArray)(w:World)(r:Ending)(w':World):Prop:=∃v,r=.returned v∧w'.ownsRow w.heap.size 222 3 v ws.length (jM n 0 ws)∧aW w w'
theorem xt(F:List ByteArray)(k:Nat)(hk:k<F.length)(p:ByteArray→Bool)(h:(F.take k).all p=true):F.takeWhile p=if p F[k]=true then F.take (k+1)++(F.drop (k+1)).takeWhile p else F.take k:=by
 have e:F=F.take k++F[k]::F.drop (k+1):=by rw[←bR hk];exact(List.take_append_drop k F).symm
 conv=>lhs;rw[e]
 rw[List.takeWhile_append_of_pos (fun x hx=>List.all_eq_true.1 h x hx),List.takeWhile_cons,aB hk];split
 ·rw[aO];rfl
 ·rw[List.append_nil]
theorem E9:∀(l cur:List UInt8),∀x∈fieldsGo cur l,x≠[]:=by
 intro l
 induction l with
 |nil=>
  intro cur x hx;rw[fieldsGo]at hx;split at hx
  ·cases hx
  ·next h=>rw[List.mem_singleton.1 hx];exact h
 |cons c r ih=>
  intro cur x hx;rw[fieldsGo]at hx;split at hx
  ·split at hx
   ·exact ih [] x hx
   ·next h=>
    rcases List.mem_cons.1 hx with rfl|hx
    ·exact h
    ·exact ih [] x hx
  ·exact ih _ x hx
theorem rK:∀(l cur:List UInt8),(fieldsGo cur l).length≤l.length+1∧∀x∈fieldsGo cur l,x.length≤cur.length+l.length:=by
 intro l
 induction l with
 |nil=>
  intro cur;rw[fieldsGo];split
  ·exact⟨by simp,fun x hx=>(by cases hx)⟩
  ·exact⟨by simp,fun x hx=>by rw[List.mem_singleton.1 hx];simp⟩
 |cons c r ih=>
  intro cur;rw[fieldsGo];split
  ·obtain⟨h1,h2⟩:=ih [];split
   ·exact⟨by simp;omega,fun x hx=>by have:=h2 x hx;simp at this⊢;omega⟩
   ·refine⟨by simp;omega,fun x hx=>?_⟩;rcases List.mem_cons.1 hx with rfl|hx
    ·simp
    ·have:=h2 x hx;simp at this⊢;omega
  ·obtain⟨h1,h2⟩:=ih (cur++[c]);exact⟨by simp;omega,fun x hx=>by have:=h2 x hx;simp at this⊢;omega⟩
theorem O5(s:ByteArray)(hs:s.size≤2000000)(n:Nat)(hn:n≤4000000)(w:World):Calls ah 161 #[.string s,.int .i64 n] w (Split n (oZ s.data.toList) w):=by
 obtain⟨i0,hi,hz0,hz1,hz2⟩:=info_parts O0;have hff:=Tryz.strings_FieldsFunc_grows 187 #[] (fun args w=>rfl) lj s w aQ (fun W x hx _=>EZ x hx W);rw[IM]at hff;have hpl:=rK s.data.toList [];have hne:=E9 s.data.toList [];have hlen:s.data.toList.length=s.size:=by rw[eB];rfl
 have hwd:oZ s.data.toList=((fieldsB s.data.toList).map gJ).takeWhile (fun b=>il b.data.toList):=by
  unfold oZ;rw[List.takeWhile_map];rfl
 rw[hwd];have hF:∀b∈(fieldsB s.data.toList).map gJ,0<b.size∧b.size≤2000000:=by
  intro b hb;obtain⟨x,hx,rfl⟩:=List.mem_map.1 hb;have h1:=hne x hx;have h2:=hpl.2 x hx;have:(gJ x).size=x.length:=by unfold gJ;simp[ByteArray.size]
  rw[this];cases x with
  |nil=>exact absurd rfl h1
  |cons c r=>simp at h2⊢;omega
 have O6:((fieldsB s.data.toList).map gJ).length≤2000001:=by
  rw[ay];have:=hpl.1;unfold fieldsB;omega
 generalize(fieldsB s.data.toList).map gJ=F at hff hF O6⊢;clear hpl hne hlen hwd;obtain⟨N,hN⟩:=bq F.length;rw[←hN]at hff O6;obtain⟨HFF,HF,HN⟩:=bu hff hF hN;obtain⟨WS,hWS⟩:=bq (F.takeWhile (fun b=>il b.data.toList));rw[←hWS];have HWS:=ae hWS;clear hff hF hN hWS hs;go_enter Tryz.func161,Tryz.ntmps161;go_wp2_with(go_at_call 186;refine HFF.out.mono ?_;rintro r w1⟨g,rfl,hg,hown,hb1⟩)
 have hrow:∀k(hk:k<F.length),w1.cell? ⟨g,k,none⟩=some (.string F[k]):=by
  intro k hk;rw[hown.cellAt k (by have:=HN.out;omega),bS,af hk];rfl
 have hgl:=hown.lt g rfl;obtain⟨zo,Hb1⟩:=aN hrow hb1;clear hrow hown hb1;go_loopw [4,10] (fun v4 v10 wr=>∃(k:Nat)(A:Option Addr)(cap:Nat),k≤N∧v10=.int .i64 k∧v4=.slice A k cap∧ag (wr.ownsRow w1.heap.size 222 3 (.slice A k cap) k (jM n 0 (F.take k)))∧ag (aW w1 wr)∧ag ((F.take k).all (fun b=>il b.data.toList)=true)) (fun _ v10 _=>N-(intOf v10).toNat)
 case atStart=>exact⟨0,none,0,bh _,rfl,rfl,ae (bg _ _ _ _),ae (aM _ _),ae rfl⟩
 case round=>
  obtain⟨k,A,cap,hk,rfl,rfl,hown,hb,hall⟩:=hrel;by_cases hlt:k<N
  ·have I7:k<F.length:=by have:=HN.out;omega
   have cx:=(hb.out.cell (p:=⟨g,k,none⟩) hgl.2).trans (zo.out k I7);have hT:=HF.out _ (a8 I7);have hstep:=xt F k I7 _ hall.out;have htk:=aB I7;have hlk:(F.take k).length=k:=List.length_take_of_le aQ;have hw3:=EY n F[k] (F.take k) 0;rw[hlk,ahU]at hw3;generalize F[k]=TT at cx hT hstep htk hw3;have h0:0<TT.size:=hT.1;have hpw:il TT.data.toList=decide ((TT[0]'h0).toNat≠35):=by
    have hl:TT.data.toList.length=TT.size:=by rw[eB];rfl
    have e0:TT.data.toList[0]? =some (TT[0]'h0):=by
     rw[af aQ];simp;rfl
    cases hs:TT.data.toList with
    |nil=>rw[hs]at hl;simp at hl;omega
    |cons c r=>
     rw[hs]at e0;injection e0 with e0
     rw[←e0];unfold il;have:(c=35)↔c.toNat=35:=⟨fun h=>by rw[h];rfl,fun h=>UInt8.toNat_inj.1 h⟩;simp[this]
   generalize hx:(TT[0]'h0).toNat=x0 at hpw;by_cases h35:x0=35
   ·have hres:WS=F.take k:=by rw[HWS.out,hstep,hpw,if_neg (by simp[h35])]
    have dZ:=ae hres;rw[h35]at hx;clear hres hstep htk hw3 hpw hT;have Hlk:=ae hlk;clear hlk;go_wp2_with fail
    go_ret;refine⟨_,rfl,?_,after Hb1.out hb.out⟩;rw[dZ.out,Hlk.out];exact hown.out.mono Hb1.out.size
   ·have q1:((x0:Int)==35)=false:=by simp;omega
    have abj:(F.take (k+1)).all (fun b=>il b.data.toList)=true:=by
     rw[htk,List.all_append,hall.out];simp[hpw,h35]
    obtain⟨ad8,Htk,Hw3⟩:=bu abj htk hw3;clear abj hstep htk hw3 hpw hT h35 hlk;go_wp2_with(at_builtin;refine wpList_append_own _ rfl _ _ 207 rfl w1.heap.size 222 i0 (.agg #[aI,.int .i64 0,.int .i64 0]) 3 32 Tryz.underlying207 hi hz0 hz1 hz2 rfl aH _ k _ rfl (hown.out.alloc _) ⟨wr.heap.size,0,none⟩ 1 1 [.string TT,.int .i64 n,.int .i64 k] rfl rfl (cQ _ _ _) (by intro u hu;simp at hu;rcases hu with rfl|rfl|rfl<;>rfl) (by unfold maxLen;omega) aQ (by have:=hb.out.size;simp;omega) ?_;intro v' w3 hown' hgrow3 hnil3;have SU:=ae hown';have hbW:=ae ((hb.out.alloc (hb.out.size) _).grown hgrow3 (by have:=hb.out.size;simp;omega) (fun q hq=>(hown.out.lt q hq).1));clear hown' hgrow3 hnil3)
    obtain⟨A',cap',rfl⟩:=aV SU.out;go_roundw
    case rel=>exact⟨k+1,A',cap',by omega,by go_num,rfl,ae (by rw[Htk.out,Hw3.out];exact SU.out),hbW,ad8⟩
    case measure=>simp[intOf];omega
  ·obtain rfl:k=N:=by omega
   have hres:WS=F:=by
    have h2:=hall.out;rw[aJ (by have:=HN.out;omega)]at h2;rw[HWS.out];exact zj _ _ fun x hx=>List.all_eq_true.1 h2 x hx
   have dZ:=ae hres;clear hres;go_wp2_with fail
   go_ret;refine⟨_,rfl,?_,after Hb1.out hb.out⟩;have:=hown.out.mono Hb1.out.size;rw[aJ (by have:=HN.out;omega)]at this;rw[dZ.out,←HN.out];exact this
def BM(w:World)(lv:Value)(ws:List ByteArray)(n:Nat):Prop:=∃base,w.ownsRow base 222 3 lv ws.length (jM n 0 ws)
theorem BM.shape{w:World}{lv:Value}{ws:List ByteArray}{n:Nat}(h:BM w lv ws n)(hne:ws≠[]):∃g cap,lv=.slice (some ⟨g,0,none⟩) ws.length cap∧ws.length≤cap∧(∃cur,aG w g 222 cur)∧∀j,j<ws.length*3→w.cell? ⟨g,j,none⟩=(jM n 0 ws)[j]? :=by
 obtain⟨base,h⟩:=h;rcases h.2 with⟨_,e⟩|⟨g,cap,cur,e,hb,hg,hc,_⟩
 ·exact absurd (bz e) hne
 ·subst e;exact⟨g,cap,rfl,hc,⟨cur,hg⟩,fun j hj=>h.cellAt j hj⟩
theorem kh{w w':World}{base size n:Nat}{e:TypeId}{v:Value}{xs:List Value}{S:Nat→Prop}(h:w.ownsRow base e size v n xs)(hk:Keeps S w w')(hS:∀g,v.ownBlock=some g→¬S g):w'.ownsRow base e size v n xs:=by
 refine⟨h.1,?_⟩;rcases h.2 with h2|⟨g,cap,cur,e1,hb,hg,rest⟩
 ·exact .inl h2
 ·subst e1;exact .inr ⟨g,cap,cur,rfl,hb,(hk.block g (Array.getElem?_eq_some_iff.1 hg).1 (hS g rfl)).trans hg,rest⟩
theorem BM.keep{w w':World}{lv:Value}{ws:List ByteArray}{n:Nat}{S:Nat→Prop}(h:BM w lv ws n)(hk:Keeps S w w')(hS:∀g,lv.ownBlock=some g→¬S g):BM w' lv ws n:=by
 obtain⟨base,h⟩:=h;exact⟨base,kh h hk hS⟩
def RdB(w:World)(b:Nat)(lv:Value)(k P:Nat)(uv:Value):Prop:=aG w b 210 #[lv,.int .i64 k,.pointer (some ⟨P,0,none⟩),uv]
abbrev aT(e n i:Nat):Ending:=.panicked [{v:=.iface 203 (.agg #[.int .i64 e,.int .i64 n,.int .i64 i]),recovered:=false}]
theorem zZ{w:World}{b P k n:Nat}{lv uv:Value}{ws:List ByteArray}(h:RdB w b lv k P uv)(hr:BM w lv ws n)(hne:ws≠[])(hws:ws.length≤4000000)(hk1:1≤k)(hk:k≤4000001)(e:Nat):Calls ah 193 #[.pointer (some ⟨b,0,none⟩),.int .i64 e] w fun r w'=>r=aT e n (if k≤ws.length then k-1 else ws.length)∧aW w w':=by
 obtain⟨g,cap,rfl,hcap,hg,hc⟩:=hr.shape hne;obtain⟨s0,hs0⟩:∃s0,ws[0]? =some s0:=by
  cases ws with
  |nil=>exact absurd rfl hne
  |cons x r=>exact⟨x,rfl⟩
 have hl:0<ws.length:=by
  cases ws with
  |nil=>exact absurd rfl hne
  |cons x r=>simp
 obtain⟨_,w1,_⟩:=tB n ws 0 0 s0 hs0;have c1:=(hc 1 aQ).trans w1;have r0:=h.cell 0;have r1:=h.cell 1;simp at r0 r1;generalize ws.length=N at r0 hl hws hcap h⊢;have i1:(0:Int)<(N:Int):=by omega
 have hbx:=boxed w.drew (.cells #[.int .i64 e,.int .i64 n,.int .i64 N] 171);obtain⟨I,hI⟩:=bq (if k≤N then k-1 else N)
 rw[←hI];have HI:=ae hI;clear hc hs0 w1 hr hI;go_enter Tryz.func193,Tryz.ntmps193;go_upto_region 0 with fail
 go_region_held3 (fun w'=>w'.cell? ⟨b,0,none⟩=some (.slice (some ⟨g,0,none⟩) N cap)∧w'.cell? ⟨b,1,none⟩=some (.int .i64 k)∧w'.cell? ⟨g,1,none⟩=some (.int .i64 n)) (go_keep) (fail);have hF:=(aG.new w 171 #[.int .i64 e,.int .i64 n,.int .i64 N]).drew;have hb1:=(boxed w (.cells #[.int .i64 e,.int .i64 n,.int .i64 N] 171)).drew;have hR:=(h.alloc (.cells #[.int .i64 e,.int .i64 n,.int .i64 N] 171)).drew;clear r0 r1 c1 hbx h;generalize(w.alloc (.cells #[.int .i64 e,.int .i64 n,.int .i64 N] 171)).drew=W1 at hF hb1 hR⊢;generalize hgF:w.heap.size=gF at hF⊢;have r0:=hR.cell 0;have r1:=hR.cell 1;have f0:=hF.cell 0;have f1:=hF.cell 1;have f2:=hF.cell 2;have z2:=hF.frozen 2;simp at r0 r1 f0 f1 f2;by_cases hkN:k≤N
 ·have q1:(k:Int)≤(N:Int):=by omega
  have hI:=HI.out;rw[if_pos hkN]at hI;have Hi:=ae hI;clear hI HI;have i2:IntKind.i64.wrap ((k:Int)-1)=(k:Int)-1:=by rw[ahS];omega
  go_upto_region 1 with fail
  go_quiet (fail);go_wp2_with fail
  all_goals
   rw[Hi.out];refine⟨rfl,?_,(show aW w (W1.drewN nq)from⟨hb1.os,hb1.tape,hb1.output,hb1.size,hb1.block⟩).setCell (Nat.le_of_eq hgF) _⟩;unfold aT;rw[show((k-1:Nat):Int)=(k:Int)-1 by omega]
 ·have q1:¬(k:Int)≤(N:Int):=by omega
  have hI:=HI.out;rw[if_neg hkN]at hI;have Hi:=ae hI;clear hI HI;go_upto_region 1 with fail
  go_quiet (fail);go_wp2_with fail
  all_goals
   rw[Hi.out];refine⟨rfl,rfl,?_⟩;have hB:aW w (W1.drewN nq):=⟨hb1.os,hb1.tape,hb1.output,hb1.size,hb1.block⟩;first|exact hB|exact hgF▸hB
theorem jN{S:Nat→Prop}{a w w':World}(h:Keeps S a w)(k:aW w w'):Keeps S a w':=h.trans (Keeps.of_below k fun q hq _=>hq)
theorem BO{w:World}{b:Nat}(p:Nat)(v:Value):Keeps (fun x=>x=b) w (w.setCell ⟨b,p,none⟩ v):=by
 refine Keeps.setCell (Keeps.refl (fun x=>x=b) w) (p:=⟨b,p,none⟩) ?_ v;exact Or.inl rfl
def jm(ws:List ByteArray)(k n:Nat)(r:Ending):Prop:=match ws[k]? with
 |some s=>r=.returned (.string s)
 |none=>r=aT 190 n ws.length
theorem jm.some{ws:List ByteArray}{k n:Nat}{s:ByteArray}(h:ws[k]? =some s):jm ws k n (.returned (.string s)):=by unfold jm;rw[h]
theorem jm.none{ws:List ByteArray}{k n N:Nat}(h:ws[k]? =none)(hN:ws.length=N):jm ws k n (aT 190 n N):=by unfold jm;rw[h,hN]
theorem take_any{w:World}{b P k n:Nat}{lv uv:Value}{ws:List ByteArray}(h:RdB w b lv k P uv)(hr:BM w lv ws n)(hne:ws≠[])(hws:ws.length≤4000000)(hk:k≤ws.length):Calls ah 163 #[.pointer (some ⟨b,0,none⟩)] w fun r w'=>Keeps (fun x=>x=b) w w'∧RdB w' b lv (k+1) P uv∧jm ws k n r:=by
 obtain⟨g,cap,rfl,hcap,hg,hc⟩:=hr.shape hne;have hw:=fun(w':World)(h':RdB w' b (.slice (some ⟨g,0,none⟩) ws.length cap) (k+1) P uv)(hr':BM w' (.slice (some ⟨g,0,none⟩) ws.length cap) ws n)=>zZ h' hr' hne hws aQ aQ 190
 have i1:IntKind.i64.wrap ((k:Int)+1)=(k:Int)+1:=by rw[ahS];omega
 have r0:=h.cell 0;have r1:=h.cell 1;have z1:=h.frozen 1;simp at r0 r1;obtain⟨cur,hgB⟩:=hg;have hgb:g≠b:=hgB.vP h aH;have hK:= @BO w b 1 (.int .i64 ((k:Int)+1));have hS:=h.aL 1 (.int .i64 ((k:Int)+1));have hr2:=hr.keep hK (fun q hq=>by injection hq with hq;rw[←hq];exact hgb);have hS2:RdB (w.setCell ⟨b,1,none⟩ (.int .i64 ((k:Int)+1))) b (.slice (some ⟨g,0,none⟩) ws.length cap) (k+1) P uv:=hS;have hw2:k=ws.length→∀q,Calls ah 193 #[.pointer (some ⟨b,0,none⟩),.int .i64 190] ((w.setCell ⟨b,1,none⟩ (.int .i64 ((k:Int)+1))).drewN q) fun r w'=>r=aT 190 n ws.length∧Below ((w.setCell ⟨b,1,none⟩ (.int .i64 ((k:Int)+1))).drewN q).heap.size ((w.setCell ⟨b,1,none⟩ (.int .i64 ((k:Int)+1))).drewN q) w':=fun hkk q=>
  (hw ((w.setCell ⟨b,1,none⟩ (.int .i64 ((k:Int)+1))).drewN q) hS2 hr2).mono (by rintro r w'⟨h1,h2⟩;rw[if_neg aQ]at h1;exact⟨h1,h2⟩)
 clear hw;obtain⟨HS2,HK⟩:=aN hS2 hK;have Hgw:=ae (fun j hj=>(((hgB.far (p:=⟨b,1,none⟩) hgb (.int .i64 ((k:Int)+1))).cell j).trans (hgB.cell j).symm).trans (hc j hj));by_cases hkN:k<ws.length
 ·obtain⟨s,hs⟩:∃s,ws[k]? =some s:=⟨_,af hkN⟩;have c0:=(Hgw.out (k*3) aQ).trans (tB n ws 0 k s hs).1;have Hs:=ae hs;have s0:=hS.cell 0;have s1:=hS.cell 1;simp at s0 s1;clear hw2;generalize hN:ws.length=N at*;have q1:¬(N:Int)<(k:Int)+1:=by omega
  have q2:IntKind.i64.wrap ((k:Int)+1-1)=(k:Int):=by rw[ahS];omega
  clear hr2 hS hS2 hK hc hs h hr hgB;go_enter Tryz.func163,Tryz.ntmps163;go_upto_region 2 with fail
  generalize w.setCell ⟨b,1,none⟩ (.int .i64 ((k:Int)+1))=w1 at*;go_quiet (fail);go_upto_region 4 with fail
  go_quiet (fail);go_wp2_with fail
  refine bodyPost_ret (results_tmp rfl _ _ _) rfl ?_;exact⟨⟨HK.out.os,HK.out.tape,HK.out.output,HK.out.size,HK.out.block⟩,HS2.out,jm.some Hs.out⟩
 ·have ad9:k=ws.length:=by omega
  have hs:ws[k]? =none:=List.getElem?_eq_none aQ;have Hs:=ae hs;have s0:=hS.cell 0;have s1:=hS.cell 1;simp at s0 s1;have HW:=ae (hw2 ad9);clear hw2;generalize hN:ws.length=N at*;have q1:(N:Int)<(k:Int)+1:=by omega
  clear ad9 hkN hk hr2 hS hS2 hK hc hs h hr hgB;go_enter Tryz.func163,Tryz.ntmps163;go_upto_region 2 with fail
  generalize w.setCell ⟨b,1,none⟩ (.int .i64 ((k:Int)+1))=w1 at*;go_quiet (fail);go_wp2_with(go_at_call 193;refine(HW.out _).mono ?_;rintro r w2⟨rfl,d2⟩;unfold aT)
  refine⟨rfl,?_,?_,jm.none Hs.out hN⟩
  ·exact jN (HK.out.drewN nq) d2
  ·refine aG.below ?_ d2 ?_
   ·exact HS2.out
   ·exact HS2.out.lt
structure Rs(w:World)(b P k n:Nat)(lv uv:Value)(ws:List ByteArray):Prop where
 blk:RdB w b lv k P uv
 row:BM w lv ws n
 ne:ws≠[]
 len:ws.length≤2000000
 sizes:∀s∈ws,s.size≤2000000
theorem Rs.sep{w:World}{b P k n:Nat}{lv uv:Value}{ws:List ByteArray}(h:Rs w b P k n lv uv ws):∀g,lv.ownBlock=some g→g≠b:=by
 obtain⟨g,cap,e,_,⟨cur,hg⟩,_⟩:=h.row.shape h.ne;intro q hq;rw[e]at hq;injection hq with hq
 rw[←hq];exact hg.vP h.blk (by decide)
theorem Rs.step{w w':World}{b P k k' n:Nat}{lv uv uv':Value}{ws:List ByteArray}(h:Rs w b P k n lv uv ws)(hk:Keeps (fun x=>x=b) w w')(hb:RdB w' b lv k' P uv'):Rs w' b P k' n lv uv' ws:=⟨hb,h.row.keep hk fun g hg e=>h.sep g hg e,h.ne,h.len,h.sizes⟩
theorem Rs.below{w w':World}{b P k n:Nat}{lv uv:Value}{ws:List ByteArray}(h:Rs w b P k n lv uv ws)(hb:aW w w'):Rs w' b P k n lv uv ws:=h.step (Keeps.of_below hb fun q hq _=>hq) (h.blk.below hb h.blk.lt)
def Ig(k:Nat)(ws:List ByteArray):Nat:=if k≤ws.length then k-1 else ws.length
def fH(is:Bool)(e n i:Nat)(r:Ending):Prop:=match is with
 |true=>r=.returned (.tuple #[])
 |false=>r=aT e n i
theorem Rs.wrong{w:World}{b P k n:Nat}{lv uv:Value}{ws:List ByteArray}(h:Rs w b P k n lv uv ws)(hk1:1≤k)(hk:k≤ws.length+1)(e:Nat):Calls ah 193 #[.pointer (some ⟨b,0,none⟩),.int .i64 e] w fun r w'=>r=aT e n (Ig k ws)∧aW w w':=zZ h.blk h.row h.ne (by have:=h.len;omega) hk1 (by have:=h.len;omega) e
theorem Rs.unless{w:World}{b P k n:Nat}{lv uv:Value}{ws:List ByteArray}(h:Rs w b P k n lv uv ws)(hk1:1≤k)(hk:k≤ws.length+1)(is:Bool)(e:Nat):Calls ah 164 #[.pointer (some ⟨b,0,none⟩),.bool is,.int .i64 e] w fun r w'=>fH is e n (Ig k ws) r∧aW w w':=by
 have HW:=ae (h.wrong hk1 hk e);have hb0:=aM w.heap.size w;clear h hk1 hk;cases is with
 |true=>
  go_enter Tryz.func164,Tryz.ntmps164;go_wp2_with fail
  refine⟨rfl,_,results_none rfl _ _ _,rfl,hb0⟩
 |false=>
  go_enter Tryz.func164,Tryz.ntmps164;go_wp2_with(go_at_call 193;refine HW.out.mono ?_;rintro r w2⟨rfl,d2⟩;unfold aT)
  exact⟨rfl,rfl,d2⟩
theorem Rs.room{w:World}{b P k n:Nat}{lv uv:Value}{ws:List ByteArray}(h:Rs w b P k n lv uv ws)(hk1:1≤k)(hk:k≤ws.length+1)(m:Nat):Calls ah 213 #[.pointer (some ⟨b,0,none⟩),.int .i64 m] w fun r w'=>fH (decide (m<64)) 198 n (Ig k ws) r∧aW w w':=by
 have hu:=h.unless hk1 hk (decide (m<64)) 198;clear h hk1 hk;by_cases hm:m<64
 ·have q:(m:Int)<64:=by omega
  rw[decide_eq_true hm]at hu⊢;have HU:ag (Calls ah 164 #[.pointer (some ⟨b,0,none⟩),.bool true,.int .i64 198] w fun r w'=>fH true 198 n (Ig k ws) r∧aW w w'):=ae hu;clear hu hm;go_enter Tryz.func213,Tryz.ntmps213;go_wp2_with(go_at_call 164;refine HU.out.mono ?_;rintro r w2⟨h1,d2⟩;unfold fH at h1;subst h1)
  refine⟨rfl,_,results_none rfl _ _ _,rfl,d2⟩
 ·have q:¬(m:Int)<64:=by omega
  rw[decide_eq_false hm]at hu⊢;have HU:ag (Calls ah 164 #[.pointer (some ⟨b,0,none⟩),.bool false,.int .i64 198] w fun r w'=>fH false 198 n (Ig k ws) r∧aW w w'):=ae hu;clear hu hm;go_enter Tryz.func213,Tryz.ntmps213;go_wp2_with(go_at_call 164;refine HU.out.mono ?_;rintro r w2⟨h1,d2⟩;unfold fH at h1;subst h1;unfold aT)
  exact⟨rfl,rfl,d2⟩
theorem Rs.more{w:World}{b P k n:Nat}{lv uv:Value}{ws:List ByteArray}(h:Rs w b P k n lv uv ws):Calls ah 216 #[.pointer (some ⟨b,0,none⟩)] w (Got (.bool (decide (k<ws.length))) w):=by
 obtain⟨g,cap,e,hcap,_,_⟩:=h.row.shape h.ne;have hB:=h.blk;rw[e]at hB;have r0:=hB.cell 0;have r1:=hB.cell 1;simp at r0 r1;have hl:=h.len;have hb0:=aM w.heap.size w;generalize ws.length=N at*;have qd:decide ((k:Int)<(N:Int))=decide (k<N):=by simp
 obtain⟨D,hD⟩:=bq (decide (k<N));rw[←hD]at qd⊢;have HD:=ae hD;clear hB h e hD;go_enter Tryz.func216,Tryz.ntmps216;go_upto_region 1 with fail
 go_quiet (fail);go_wp2_with fail
 refine bodyPost_ret (results_tmp rfl _ _ _) rfl ⟨?_,⟨rfl,rfl,rfl,aA _,fun _ _=>rfl⟩⟩;rw[HD.out];rfl
def rL(ws:List ByteArray)(k n:Nat)(r:Ending):Prop:=match ws[k]? with
 |none=>r=aT 190 n ws.length
 |some s=>if cO s=true then r=.returned (.string s)else r=aT 191 n k
def qL(ws:List ByteArray)(t:ByteArray)(k n:Nat)(r:Ending):Prop:=match ws[k]? with
 |none=>r=aT 190 n ws.length
 |some s=>if s=t then r=.returned (.tuple #[])else r=aT 190 n k
theorem Rs.take{w:World}{b P k n:Nat}{lv uv:Value}{ws:List ByteArray}(h:Rs w b P k n lv uv ws)(hk:k≤ws.length):Calls ah 163 #[.pointer (some ⟨b,0,none⟩)] w fun r w'=>(Keeps (fun x=>x=b) w w'∧Rs w' b P (k+1) n lv uv ws)∧jm ws k n r:=(take_any h.blk h.row h.ne (by have:=h.len;omega) hk).mono fun r w'⟨h1,h2,h3⟩=>⟨⟨h1,h.step h1 h2⟩,h3⟩
theorem eu{k:Nat}{ws:List ByteArray}(h:k<ws.length):Ig (k+1) ws=k:=by unfold Ig;rw[if_pos aQ];omega
theorem Rs.name{w:World}{b P k n:Nat}{lv uv:Value}{ws:List ByteArray}(h:Rs w b P k n lv uv ws)(hk:k≤ws.length):Calls ah 214 #[.pointer (some ⟨b,0,none⟩)] w fun r w'=>(Keeps (fun x=>x=b) w w'∧Rs w' b P (k+1) n lv uv ws)∧rL ws k n r:=by
 have HT:=ae (h.take hk);unfold jm at HT;cases hs:ws[k]? with
 |none=>
  have hpost:∀r,rL ws k n r↔r=aT 190 n ws.length:=fun r=>by unfold rL;rw[hs]
  simp only[hpost];rw[hs]at HT;have YM:ag (Calls ah 163 #[.pointer (some ⟨b,0,none⟩)] w fun r w'=>(Keeps (fun x=>x=b) w w'∧Rs w' b P (k+1) n lv uv ws)∧r=aT 190 n ws.length):=HT;clear HT hs hpost h hk;go_enter Tryz.func214,Tryz.ntmps214;go_wp2_with(go_at_call 163;refine YM.out.mono ?_;rintro r w2⟨d2,rfl⟩;unfold aT)
  exact⟨rfl,d2,rfl⟩
 |some s=>
  have hlt:k<ws.length:=(List.getElem?_eq_some_iff.1 hs).1;have hsz:=h.sizes s (List.mem_of_getElem? hs);have hpost:∀r,rL ws k n r↔(if cO s=true then r=.returned (.string s)else r=aT 191 n k):=fun r=>by unfold rL;rw[hs]
  simp only[hpost];rw[hs]at HT;have YM:ag (Calls ah 163 #[.pointer (some ⟨b,0,none⟩)] w fun r w'=>(Keeps (fun x=>x=b) w w'∧Rs w' b P (k+1) n lv uv ws)∧r=.returned (.string s)):=HT;have HL:=ae fun u=>pZ s aQ u
  have hu:=fun(u:World)(hr:Rs u b P (k+1) n lv uv ws)=>hr.unless aQ aQ (cO s) 191
  rw[eu hlt]at hu;generalize cO s=LB at*;cases LB with
  |true=>
   simp only[if_true];have HU:ag (∀(u:World),Rs u b P (k+1) n lv uv ws→Calls ah 164 #[.pointer (some ⟨b,0,none⟩),.bool true,.int .i64 191] u fun r w'=>r=.returned (.tuple #[])∧aW u w'):=ae hu;clear HT hs hpost h hk hu hlt hsz;go_enter Tryz.func214,Tryz.ntmps214;go_wp2_with(first
    |(go_at_call 163;refine YM.out.mono ?_;rintro r w2⟨⟨d2,e2⟩,rfl⟩)
    |(go_at_call 153;refine(HL.out _).mono ?_;rintro r w3⟨rfl,d3⟩)
    |(go_at_call 164;refine(HU.out _ (e2.below d3)).mono ?_;rintro r w4⟨rfl,d4⟩))
   refine bodyPost_ret (results_tmp rfl _ _ _) rfl ⟨⟨jN (jN d2 d3) d4,(e2.below d3).below d4⟩,rfl⟩
  |false=>
   simp only[Bool.false_eq_true,if_false];have HU:ag (∀(u:World),Rs u b P (k+1) n lv uv ws→Calls ah 164 #[.pointer (some ⟨b,0,none⟩),.bool false,.int .i64 191] u fun r w'=>r=aT 191 n k∧aW u w'):=ae hu;clear HT hs hpost h hk hu hlt hsz;go_enter Tryz.func214,Tryz.ntmps214;go_wp2_with(first
    |(go_at_call 163;refine YM.out.mono ?_;rintro r w2⟨⟨d2,e2⟩,rfl⟩)
    |(go_at_call 153;refine(HL.out _).mono ?_;rintro r w3⟨rfl,d3⟩)
    |(go_at_call 164;refine(HU.out _ (e2.below d3)).mono ?_;rintro r w4⟨rfl,d4⟩;unfold aT))
   exact⟨rfl,⟨jN (jN d2 d3) d4,(e2.below d3).below d4⟩,rfl⟩
theorem Rs.must{w:World}{b P k n:Nat}{lv uv:Value}{ws:List ByteArray}(h:Rs w b P k n lv uv ws)(hk:k≤ws.length)(t:ByteArray):Calls ah 215 #[.pointer (some ⟨b,0,none⟩),.string t] w fun r w'=>(Keeps (fun x=>x=b) w w'∧Rs w' b P (k+1) n lv uv ws)∧qL ws t k n r:=by
 have HT:=ae (h.take hk);unfold jm at HT;cases hs:ws[k]? with
 |none=>
  have hpost:∀r,qL ws t k n r↔r=aT 190 n ws.length:=fun r=>by unfold qL;rw[hs]
  simp only[hpost];rw[hs]at HT;have YM:ag (Calls ah 163 #[.pointer (some ⟨b,0,none⟩)] w fun r w'=>(Keeps (fun x=>x=b) w w'∧Rs w' b P (k+1) n lv uv ws)∧r=aT 190 n ws.length):=HT;clear HT hs hpost h hk;go_enter Tryz.func215,Tryz.ntmps215;go_wp2_with(go_at_call 163;refine YM.out.mono ?_;rintro r w2⟨d2,rfl⟩;unfold aT)
  exact⟨rfl,d2,rfl⟩
 |some s=>
  have hlt:k<ws.length:=(List.getElem?_eq_some_iff.1 hs).1;have hpost:∀r,qL ws t k n r↔(if s=t then r=.returned (.tuple #[])else r=aT 190 n k):=fun r=>by unfold qL;rw[hs]
  simp only[hpost];rw[hs]at HT;have YM:ag (Calls ah 163 #[.pointer (some ⟨b,0,none⟩)] w fun r w'=>(Keeps (fun x=>x=b) w w'∧Rs w' b P (k+1) n lv uv ws)∧r=.returned (.string s)):=HT;have hu:=fun(u:World)(hr:Rs u b P (k+1) n lv uv ws)=>hr.wrong aQ aQ 190
  rw[eu hlt]at hu;by_cases e:s=t
  ·subst e;simp only[if_true];have hss:(s.toList==s.toList)=true:=by simp
   clear HT hs hpost h hk hu hlt;go_enter Tryz.func215,Tryz.ntmps215;go_wp2_with(go_at_call 163;refine YM.out.mono ?_;rintro r w2⟨⟨d2,e2⟩,rfl⟩)
   refine⟨rfl,_,results_none rfl _ _ _,⟨d2,e2⟩,rfl⟩
  ·simp only[if_neg e];have hss:(s.toList==t.toList)=false:=by
    rw[beq_eq_false_iff_ne];intro h;rw[cC,cC]at h;exact e (ahR (Array.ext' h))
   have HU:ag (∀(u:World),Rs u b P (k+1) n lv uv ws→Calls ah 193 #[.pointer (some ⟨b,0,none⟩),.int .i64 190] u fun r w'=>r=aT 190 n k∧aW u w'):=ae hu;clear HT hs hpost h hk hu hlt e;go_enter Tryz.func215,Tryz.ntmps215;go_wp2_with(first
    |(go_at_call 163;refine YM.out.mono ?_;rintro r w2⟨⟨d2,e2⟩,rfl⟩)
    |(go_at_call 193;refine(HU.out _ e2).mono ?_;rintro r w4⟨rfl,d4⟩;unfold aT))
   exact⟨rfl,⟨jN d2 d4,e2.below d4⟩,rfl⟩
def aY(w:World)(v:Value)(n size:Nat)(xs:List Value):Prop:=∃A cap,v=.slice A n cap∧xs.length=n*size∧(0<n→∃g o,A=some ⟨g,o,none⟩∧∀j u,xs[j]? =some u→w.cell? ⟨g,o+j,none⟩=some u)
theorem aY.dh{w:World}{base size n:Nat}{e:TypeId}{v:Value}{xs:List Value}(h:w.ownsRow base e size v n xs):aY w v n size xs:=by
 rcases h.2 with⟨e1,e2⟩|⟨g,cap,cur,e1,hb,hg,rest⟩
 ·subst e1 e2;exact⟨none,0,rfl,h.1,fun h=>absurd h aH⟩
 ·subst e1;refine⟨_,cap,rfl,h.1,fun _=>⟨g,0,rfl,fun j u hu=>?_⟩⟩;have hj:j<n*size:=by rw[←h.1];exact(List.getElem?_eq_some_iff.1 hu).1
  rw[ahU,h.cellAt j hj];exact hu
theorem aY.below{w w':World}{v:Value}{n size:Nat}{xs:List Value}(h:aY w v n size xs)(hb:aW w w'):aY w' v n size xs:=by
 obtain⟨A,cap,h1,h2,h3⟩:=h;refine⟨A,cap,h1,h2,fun hn=>?_⟩;obtain⟨g,o,ha,hc⟩:=h3 hn;exact⟨g,o,ha,fun j u hu=>(hb.cell (aj w _ (hc j u hu))).trans (hc j u hu)⟩
def ip(l:List (ByteArray×Value)):List Value:=l.flatMap fun x=>[bM x.1,x.2]
theorem I9:∀(l:List (ByteArray×Value))(k:Nat)(x:ByteArray×Value),l[k]? =some x→(ip l)[k*2]? =some (.string x.1)∧(ip l)[k*2+1]? =some x.2:=by
 intro l
 induction l with
 |nil=>intro k x h;cases h
 |cons y r ih=>
  intro k x h;cases k with
  |zero=>injection h with h;subst h;exact⟨rfl,rfl⟩
  |succ k=>
   obtain⟨h1,h2⟩:=ih k x h;rw[show(k+1)*2=k*2+1+1 by omega];exact⟨h1,h2⟩
theorem SV{w:World}(g:Nat)(s x:ByteArray)(v:Value)(hg:w.cell? ⟨g,0,none⟩=some (.string s)):Calls ah 222 #[.agg #[.string x,v],.pointer (some ⟨g,0,none⟩)] w (Got (.bool (decide (x=s))) w):=by
 have hx:=aG.new w 280 #[.string x,v];have hb:=boxed w (.cells #[.string x,v] 280);have hg2:=(hb.cell (p:=⟨g,0,none⟩) (aj w _ hg)).trans hg;have x0:=hx.cell 0;simp at x0;have hd:(x.toList==s.toList)=decide (x=s):=by
  by_cases e:x=s
  ·subst e;simp
  ·rw[decide_eq_false e,beq_eq_false_iff_ne];intro h;rw[cC,cC]at h;exact e (ahR (Array.ext' h))
 obtain⟨D,hD⟩:=bq (decide (x=s));rw[←hD]at hd⊢;clear hD hx;go_enter Tryz.func222,Tryz.ntmps222;go_wp2_with fail
 go_ret;exact⟨rfl,hb⟩
def abk(b:Bool)(w:World)(r:Ending)(w':World):Prop:=(∃i:Int,r=.returned (.int .i64 i)∧decide (0≤i)=b)∧aW w w'
theorem Ja{w:World}(l:List (ByteArray×Value))(hl:l.length≤4000000)(lv:Value)(hr:aY w lv l.length 2 (ip l))(g:Nat)(s:ByteArray)(hg:w.cell? ⟨g,0,none⟩=some (.string s)):Calls ah 244 #[lv,.func (.func 222) #[] #[.pointer (some ⟨g,0,none⟩)]] w (abk (l.any fun x=>decide (x.1=s)) w):=by
 obtain⟨A,cap,rfl,hlen,hA⟩:=hr;obtain⟨N,hN⟩:=bq l.length;obtain⟨R,hR⟩:=bq (l.any fun x=>decide (x.1=s))
 rw[←hN]at hA hl⊢;rw[←hR];obtain⟨HA,HN,HR,Hg⟩:=cY hA hN hR hg;clear hA hN hlen hR hg;go_enter Tryz.func244,Tryz.ntmps244;go_wp2_with fail
 go_loopw [8] (fun v8 wr=>∃k:Nat,k≤N∧v8=.int .i64 k∧ag (aW w wr)∧ag (((l.take k).any fun x=>decide (x.1=s))=false)) (fun v8 _=>N-(intOf v8).toNat)
 case atStart=>exact⟨0,bh _,rfl,ae (aM _ _),ae rfl⟩
 case round=>
  obtain⟨k,hk,rfl,hb,hno⟩:=hrel;by_cases hlt:k<N
  ·have hkl:k<l.length:=by have:=HN.out;omega
   obtain⟨q,o,rfl,hc⟩:=HA.out aQ;have htk:=aB hkl;have hx:l[k]? =some l[k]:=af hkl;have hcell:=I9 l k _ hx;have c0:=hc _ _ hcell.1;have c1:=hc _ _ hcell.2;generalize l[k]=X at htk c0 c1;have d0:=(hb.out.cell (aj w _ c0)).trans c0;have d1:=(hb.out.cell (aj w _ c1)).trans c1;rw[←Nat.add_assoc]at d1;have hgw:=(hb.out.cell (aj w _ Hg.out)).trans Hg.out;have HF:=ae (SV (w:=wr) g s X.1 X.2 hgw);obtain⟨X1,X2⟩:=X;simp only at d0 d1 HF;clear c0 c1 hx hcell hgw hc;by_cases he:X1=s
   ·have hres:R=true:=by
     rw[HR.out];have:(l.take (k+1)).any (fun x=>decide (x.1=s))=true:=by rw[htk,List.any_append];simp[he]
     obtain⟨y,hy,hys⟩:=List.any_eq_true.1 this;exact List.any_eq_true.2 ⟨y,ahX hy,hys⟩
    have dZ:=ae hres;rw[decide_eq_true he]at HF;clear hres htk he;go_wp2_with(go_at_call 222;refine HF.out.mono ?_;rintro r w2⟨rfl,e2⟩)
    go_ret;exact⟨⟨_,rfl,by rw[dZ.out];exact decide_eq_true aQ⟩,after hb.out e2⟩
   ·have BQ:((l.take (k+1)).any fun x=>decide (x.1=s))=false:=by rw[htk,List.any_append,hno.out];simp[he]
    have Jb:=ae BQ;rw[decide_eq_false he]at HF;clear BQ htk he;go_wp2_with(go_at_call 222;refine HF.out.mono ?_;rintro r w2⟨rfl,e2⟩)
    go_roundw
    case rel=>exact⟨k+1,by omega,by go_num,(aZ hb e2),Jb⟩
    case measure=>simp[intOf];omega
  ·obtain rfl:k=N:=by omega
   have hres:R=false:=by
    have:=hno.out;rw[aJ (by have:=HN.out;omega)]at this;rw[HR.out];exact this
   have dZ:=ae hres;clear hres;go_wp2_with fail
   go_ret;exact⟨⟨_,rfl,by rw[dZ.out];rfl⟩,hb.out⟩
theorem zp{w:World}(l:List (ByteArray×Value))(hl:l.length≤4000000)(lv:Value)(hr:aY w lv l.length 2 (ip l))(g:Nat)(s:ByteArray)(hg:w.cell? ⟨g,0,none⟩=some (.string s)):Calls ah 221 #[lv,.func (.func 222) #[] #[.pointer (some ⟨g,0,none⟩)]] w (Got (.bool (l.any fun x=>decide (x.1=s))) w):=by
 have HI:=ae (Ja l hl lv hr g s hg);generalize(l.any fun x=>decide (x.1=s))=R at HI⊢;clear hg hr;go_enter Tryz.func221,Tryz.ntmps221;go_wp2_with(go_at_call 244;refine HI.out.mono ?_;rintro r w2⟨⟨i,rfl,hi⟩,e2⟩)
 refine bodyPost_ret (results_tmp rfl _ _ _) rfl ⟨?_,e2⟩;rw[←hi];rfl
theorem BS{w:World}(l:List (ByteArray×Value))(hl:l.length≤4000000)(lv:Value)(hr:aY w lv l.length 2 (ip l))(s:ByteArray):Calls ah 194 #[lv,.string s] w (Got (.bool (l.any fun x=>decide (x.1=s))) w):=by
 have hb0:=boxed w (.cells #[.string s] 9);have hg:(w.alloc (.cells #[.string s] 9)).cell? ⟨w.heap.size,0,none⟩=some (.string s):=(aG.new w 9 #[.string s]).cell 0;have HI:=ae (zp l hl lv (hr.below hb0) w.heap.size s hg);generalize(l.any fun x=>decide (x.1=s))=R at HI⊢;have hmf:∀(fn:Fn)(first cap:Array Value)(w:World),(Instr.makeFunc fn first cap).run ah w=.ok (.func fn first cap) w:=fun _ _ _ _=>rfl
 clear hg hr;go_enter Tryz.func194,Tryz.ntmps194;go_wp2_with(go_at_call 221;refine HI.out.mono ?_;rintro r w2⟨rfl,e2⟩)
 go_ret;exact⟨rfl,after hb0 e2⟩
def fw(l:List Hs):List Value:=l.flatMap fun x=>[bM x.name,.bool x.net.a.v6,.int .u64 (x.net.a.hi:Int),.int .u64 (x.net.a.lo:Int),.int .u8 (x.net.bits:Int)]
theorem Jc:∀(l:List Hs)(k:Nat)(x:Hs),l[k]? =some x→(fw l)[k*5]? =some (.string x.name)∧(fw l)[k*5+1]? =some (.bool x.net.a.v6)∧(fw l)[k*5+2]? =some (.int .u64 (x.net.a.hi:Int))∧(fw l)[k*5+3]? =some (.int .u64 (x.net.a.lo:Int))∧(fw l)[k*5+4]? =some (.int .u8 (x.net.bits:Int)):=by
 intro l
 induction l with
 |nil=>intro k x h;cases h
 |cons y r ih=>
  intro k x h;cases k with
  |zero=>injection h with h;subst h;exact⟨rfl,rfl,rfl,rfl,rfl⟩
  |succ k=>
   rw[show(k+1)*5=k*5+1+1+1+1+1 by omega];exact ih k x h
theorem O7{w:World}(g:Nat)(s x:ByteArray)(v1:Bool)(v2 v3 v4:Int)(hg:w.cell? ⟨g,0,none⟩=some (.string s)):Calls ah 224 #[.agg #[.string x,.bool v1,.int .u64 v2,.int .u64 v3,.int .u8 v4],.pointer (some ⟨g,0,none⟩)] w (Got (.bool (decide (x=s))) w):=by
 have hx:=aG.new w 282 #[.string x,.bool v1,.int .u64 v2,.int .u64 v3,.int .u8 v4];have hb:=boxed w (.cells #[.string x,.bool v1,.int .u64 v2,.int .u64 v3,.int .u8 v4] 282);have hg2:=(hb.cell (p:=⟨g,0,none⟩) (aj w _ hg)).trans hg;have x0:=hx.cell 0;simp at x0;have hd:(x.toList==s.toList)=decide (x=s):=by
  by_cases e:x=s
  ·subst e;simp
  ·rw[decide_eq_false e,beq_eq_false_iff_ne];intro h;rw[cC,cC]at h;exact e (ahR (Array.ext' h))
 obtain⟨D,hD⟩:=bq (decide (x=s));rw[←hD]at hd⊢;clear hD hx;go_enter Tryz.func224,Tryz.ntmps224;go_wp2_with fail
 go_ret;exact⟨rfl,hb⟩
theorem Jd{w:World}(l:List Hs)(hl:l.length≤4000000)(lv:Value)(hr:aY w lv l.length 5 (fw l))(g:Nat)(s:ByteArray)(hg:w.cell? ⟨g,0,none⟩=some (.string s)):Calls ah 245 #[lv,.func (.func 224) #[] #[.pointer (some ⟨g,0,none⟩)]] w (abk (l.any fun x=>decide (x.name=s)) w):=by
 obtain⟨A,cap,rfl,hlen,hA⟩:=hr;obtain⟨N,hN⟩:=bq l.length;obtain⟨R,hR⟩:=bq (l.any fun x=>decide (x.name=s))
 rw[←hN]at hA hl⊢;rw[←hR];obtain⟨HA,HN,HR,Hg⟩:=cY hA hN hR hg;clear hA hN hlen hR hg;go_enter Tryz.func245,Tryz.ntmps245;go_wp2_with fail
 go_loopw [8] (fun v8 wr=>∃k:Nat,k≤N∧v8=.int .i64 k∧ag (aW w wr)∧ag (((l.take k).any fun x=>decide (x.name=s))=false)) (fun v8 _=>N-(intOf v8).toNat)
 case atStart=>exact⟨0,bh _,rfl,ae (aM _ _),ae rfl⟩
 case round=>
  obtain⟨k,hk,rfl,hb,hno⟩:=hrel;by_cases hlt:k<N
  ·have hkl:k<l.length:=by have:=HN.out;omega
   obtain⟨q,o,rfl,hc⟩:=HA.out aQ;have htk:=aB hkl;have hx:l[k]? =some l[k]:=af hkl;have hcell:=Jc l k _ hx;have c0:=hc _ _ hcell.1;have c1:=hc _ _ hcell.2.1;have c2:=hc _ _ hcell.2.2.1;have c3:=hc _ _ hcell.2.2.2.1;have c4:=hc _ _ hcell.2.2.2.2;generalize l[k]=X at htk c0 c1 c2 c3 c4;have d0:=(hb.out.cell (aj w _ c0)).trans c0;have d1:=(hb.out.cell (aj w _ c1)).trans c1;have d2:=(hb.out.cell (aj w _ c2)).trans c2;have d3:=(hb.out.cell (aj w _ c3)).trans c3;have d4:=(hb.out.cell (aj w _ c4)).trans c4;rw[←Nat.add_assoc]at d1 d2 d3 d4;have hgw:=(hb.out.cell (aj w _ Hg.out)).trans Hg.out;have HF:=ae (O7 (w:=wr) g s X.name X.net.a.v6 X.net.a.hi X.net.a.lo X.net.bits hgw);obtain⟨X1,⟨⟨X2,X3,X4⟩,X5⟩⟩:=X;simp only at d0 d1 d2 d3 d4 HF;clear c0 c1 c2 c3 c4 hx hcell hgw hc;by_cases he:X1=s
   ·have hres:R=true:=by
     rw[HR.out];have:(l.take (k+1)).any (fun x=>decide (x.name=s))=true:=by rw[htk,List.any_append];simp[he]
     obtain⟨y,hy,hys⟩:=List.any_eq_true.1 this;exact List.any_eq_true.2 ⟨y,ahX hy,hys⟩
    have dZ:=ae hres;rw[decide_eq_true he]at HF;clear hres htk he;go_wp2_with(go_at_call 224;refine HF.out.mono ?_;rintro r w2⟨rfl,e2⟩)
    go_ret;exact⟨⟨_,rfl,by rw[dZ.out];exact decide_eq_true aQ⟩,after hb.out e2⟩
   ·have BQ:((l.take (k+1)).any fun x=>decide (x.name=s))=false:=by rw[htk,List.any_append,hno.out];simp[he]
    have Jb:=ae BQ;rw[decide_eq_false he]at HF;clear BQ htk he;go_wp2_with(go_at_call 224;refine HF.out.mono ?_;rintro r w2⟨rfl,e2⟩)
    go_roundw
    case rel=>exact⟨k+1,by omega,by go_num,(aZ hb e2),Jb⟩
    case measure=>simp[intOf];omega
  ·obtain rfl:k=N:=by omega
   have hres:R=false:=by
    have:=hno.out;rw[aJ (by have:=HN.out;omega)]at this;rw[HR.out];exact this
   have dZ:=ae hres;clear hres;go_wp2_with fail
   go_ret;exact⟨⟨_,rfl,by rw[dZ.out];rfl⟩,hb.out⟩
theorem zq{w:World}(l:List Hs)(hl:l.length≤4000000)(lv:Value)(hr:aY w lv l.length 5 (fw l))(g:Nat)(s:ByteArray)(hg:w.cell? ⟨g,0,none⟩=some (.string s)):Calls ah 223 #[lv,.func (.func 224) #[] #[.pointer (some ⟨g,0,none⟩)]] w (Got (.bool (l.any fun x=>decide (x.name=s))) w):=by
 have HI:=ae (Jd l hl lv hr g s hg);generalize(l.any fun x=>decide (x.name=s))=R at HI⊢;clear hg hr;go_enter Tryz.func223,Tryz.ntmps223;go_wp2_with(go_at_call 245;refine HI.out.mono ?_;rintro r w2⟨⟨i,rfl,hi⟩,e2⟩)
 refine bodyPost_ret (results_tmp rfl _ _ _) rfl ⟨?_,e2⟩;rw[←hi];rfl
theorem uK{w:World}(l:List Hs)(hl:l.length≤4000000)(lv:Value)(hr:aY w lv l.length 5 (fw l))(s:ByteArray):Calls ah 195 #[lv,.string s] w (Got (.bool (l.any fun x=>decide (x.name=s))) w):=by
 have hb0:=boxed w (.cells #[.string s] 9);have hg:(w.alloc (.cells #[.string s] 9)).cell? ⟨w.heap.size,0,none⟩=some (.string s):=(aG.new w 9 #[.string s]).cell 0;have HI:=ae (zq l hl lv (hr.below hb0) w.heap.size s hg);generalize(l.any fun x=>decide (x.name=s))=R at HI⊢;have hmf:∀(fn:Fn)(first cap:Array Value)(w:World),(Instr.makeFunc fn first cap).run ah w=.ok (.func fn first cap) w:=fun _ _ _ _=>rfl
 clear hg hr;go_enter Tryz.func195,Tryz.ntmps195;go_wp2_with(go_at_call 223;refine HI.out.mono ?_;rintro r w2⟨rfl,e2⟩)
 go_ret;exact⟨rfl,after hb0 e2⟩
open Go.ChangeMaps (setBlock)
structure SE where
 tx:ByteArray
 val:Value
 born:Nat
def SE.entry(x:SE):MapEntry:={key:=.string x.tx,val:=x.val,born:=x.born}
def ents(L:List SE):Array MapEntry:=(L.map SE.entry).toArray
def eW(w:World)(m:Nat)(L:List SE)(clock:Nat):Prop:=w.heap[m]? =some (.map (ents L) clock)
theorem bytes_beq(a b:ByteArray):(a==b)=true↔a=b:=by
 rw[beq_toListBytes,beq_iff_eq,cC,cC];constructor
 ·intro h;obtain⟨⟨x⟩⟩:=a;obtain⟨⟨y⟩⟩:=b;simpa using h
 ·rintro rfl;rfl
theorem xu(a b:ByteArray):(a==b)=(b==a):=by
 rw[Bool.eq_iff_iff,bytes_beq,bytes_beq];exact⟨Eq.symm,Eq.symm⟩
def at_(L:List SE)(s:ByteArray):Option Nat:=L.findIdx? fun x=>x.tx==s
theorem BU(s:ByteArray)(L:List SE):∀i,Instr.findNow .string (.string s) (L.map SE.entry) i=some ((at_ L s).map fun j=>(i+j,(L.getD j ⟨s,undef,0⟩).val)):=by
 unfold at_
 induction L with
 |nil=>intro i;rfl
 |cons x L ih=>
  intro i;simp only[List.map_cons,Instr.findNow,SE.entry,Instr.sameNow,List.findIdx?_cons];rw[xu s x.tx];cases h:x.tx==s with
  |true=>simp[List.getD_cons_zero]
  |false=>
   have:=ih (i+1);simp only[this];cases L.findIdx? (fun x=>x.tx==s)with
   |none=>simp
   |some j=>simp;omega
section
variable{P:Program}{T K E:TypeId}{w:World}{m clock:Nat}{L:List SE}
theorem eW.lt(h:eW w m L clock):m<w.heap.size:=by
 rcases ahL m w.heap.size with h1|h1
 ·exact h1
 ·unfold eW at h;rw[ahM h1]at h;cases h
theorem run_getObj_map{es:Array MapEntry}{c:Nat}(h:w.heap[m]? =some (.map es c)):(getObj m).run P w=.ok (.map es c) w:=by simp[getObj,Sem.run,h]
theorem run_setObj_map{es:Array MapEntry}{c:Nat}(h:w.heap[m]? =some (.map es c))(o':Obj):(setObj m o').run P w=.ok () (setBlock w m o'):=by simp[setObj,Sem.run,h,setBlock]
theorem tC(n:Nat)(b:Bool)(s:Value)(hK:P.underlying K=some .string):(Instr.checkKey b (n+1) K s).run P w=.ok () w:=by
 simp[Instr.checkKey,run_underlying hK]
theorem eN(b:Bool)(s:Value)(hK:P.underlying K=some .string):(Instr.checkKey b 10000 K s).run P w=.ok () w:=tC 9999 b s hK
theorem gV(s:ByteArray)(hK:P.underlying K=some .string):(Instr.findKey K (.string s) (L.map SE.entry)).run P w=.ok ((at_ L s).map fun j=>(j,(L.getD j ⟨s,undef,0⟩).val)) w:=by
 simp[Instr.findKey,run_underlying hK,BU s L 0]
theorem jZ(hT:P.underlying T=some (.map K E))(hK:P.underlying K=some .string)(h:eW w m L clock)(s:ByteArray){j:Nat}{x:SE}(hj:at_ L s=some j)(hx:L[j]? =some x):(Instr.lookup T (.map (some m)) (.string s) true).run P w=.ok (.tuple #[x.val,.bool true]) w:=by
 simp[Instr.lookup,run_underlying hT,run_getObj_map h,eN _ _ hK,ents,gV s hK,hj,hx,aE]
theorem rf(hT:P.underlying T=some (.map K E))(hK:P.underlying K=some .string)(h:eW w m L clock)(s:ByteArray)(hj:at_ L s=none){z:Value}(hz:(zeroValue E).run P w=.ok z w):(Instr.lookup T (.map (some m)) (.string s) true).run P w=.ok (.tuple #[z,.bool false]) w:=by
 simp[Instr.lookup,run_underlying hT,run_getObj_map h,eN _ _ hK,ents,gV s hK,hj,hz]
theorem my(hT:P.underlying T=some (.map K E))(hK:P.underlying K=some .string)(h:eW w m L clock)(s:ByteArray)(hj:at_ L s=none)(v:Value):(Instr.mapUpdate T (.map (some m)) (.string s) v).run P w=.ok () (setBlock w m (.map (ents (L++[⟨s,v,clock⟩])) (clock+1))):=by
 simp[Instr.mapUpdate,run_underlying hT,run_getObj_map h,eN _ _ hK,ents,gV s hK,hj,run_setObj_map h,SE.entry]
theorem Keeps.setBlock{S:Nat→Prop}{a:World}{r:Nat}(h:Keeps S a w)(hr:S r∨a.heap.size≤r)(o:Obj):Keeps S a (setBlock w r o):=⟨h.os,h.tape,h.output,by simpa[Go.ChangeMaps.setBlock]using h.size,fun k hk hs=>by
 have:r≠k:=by rintro rfl;rcases hr with h1|h1;exact hs h1;omega
 rw[←h.block k hk hs];simp[Go.ChangeMaps.setBlock,Array.getElem?_setIfInBounds,this]⟩
theorem eW.keep{S:Nat→Prop}{w':World}(h:eW w m L clock)(hk:Keeps S w w')(hg:¬S m):eW w' m L clock:=(hk.block m h.lt hg).trans h
theorem eW.below{B:Nat}{w':World}(h:eW w m L clock)(hb:Below B w w')(hg:m<B):eW w' m L clock:=(hb.block m hg).trans h
theorem eW.drewN(h:eW w m L clock)(n:Nat):eW (w.drewN n) m L clock:=h
theorem eW.aL(h:eW w m L clock)(L':List SE)(c':Nat):eW (setBlock w m (.map (ents L') c')) m L' c':=by
 have:=h.lt;unfold eW Go.ChangeMaps.setBlock;simp[this]
theorem fl(hT:P.underlying T=some (.map K E))(hK:P.underlying K=some .string)(h:eW w m L clock)(s:ByteArray)(hj:at_ L s=none)(v:Value):∃W,(Instr.mapUpdate T (.map (some m)) (.string s) v).run P w=.ok () W∧(Instr.mapUpdate T (.map (some m)) (.string s) v).run P w.drew=.ok () W.drew∧(∀n,(Instr.mapUpdate T (.map (some m)) (.string s) v).run P (w.drewN n)=.ok () (W.drewN n))∧Keeps (fun g=>g=m) w W∧eW W m (L++[⟨s,v,clock⟩]) (clock+1):=⟨setBlock w m (.map (ents (L++[(⟨s,v,clock⟩:SE)])) (clock+1)),my hT hK h s hj v,my (w:=w.drew) hT hK h s hj v,fun n=>my hT hK (h.drewN n) s hj v,(Keeps.refl (fun g=>g=m) w).setBlock (.inl rfl) _,h.aL _ _⟩
def Iter(w:World)(r m since:Nat)(seen:Array Nat)(last:Nat):Prop:=w.heap[r]? =some (.mapIter (some m) since seen last)
theorem Iter.lt{r since last:Nat}{seen:Array Nat}(h:Iter w r m since seen last):r<w.heap.size:=by
 rcases ahL r w.heap.size with h1|h1
 ·exact h1
 ·unfold Iter at h;rw[ahM h1]at h;cases h
end
def Fa(L:List Nat):List (List UInt8):=L.map hexL
theorem O9{L:List Nat}{k:Nat}(hk:k<L.length):Fa (L.take (k+1))=Fa (L.take k)++[hexL (L.getD k 0)]:=by
 unfold Fa;rw[aB hk,cH,aE,af hk];rfl
theorem Ae(L:List (List UInt8))(x:List UInt8):(strs (L++[x])).map bM=(strs L).map bM++[.string ⟨x.toArray⟩]:=by
 unfold strs;simp
theorem rh{L:List Nat}(h:∀x∈L,x<65536)(hl:L.length≤8):(jj L).length≤40:=by
 have:=pY L h;omega
theorem Pg{w:World}(env:Env w)(g o c:Nat)(L:List Nat)(hL:∀x∈L,x<65536)(hl:L.length≤8)(hg:g<w.heap.size)(hc:∀j,j<L.length→w.cell? ⟨g,o+j,none⟩=some (.int .u16 (L.getD j 0:Int))):Calls ah 183 #[.slice (some ⟨g,o,none⟩) L.length c] w (Got (.string ⟨(jj L).toArray⟩) w):=by
 obtain⟨i0,hi,hz0,hz1,hz2⟩:=info_parts rJ;obtain⟨oG,Hc,HL⟩:=bu env hc hL;clear env hc hL;obtain⟨n,hn⟩:=bq L.length;rw[←hn]at hl⊢;have Hn:=ae hn;clear hn;go_enter Tryz.func183,Tryz.ntmps183;go_wp2_with fail
 go_loopw [3,8] (fun v i wr=>∃k:Nat,k≤n∧i=.int .i64 k∧ag (wr.ownsRow w.heap.size 9 1 v k ((strs (Fa (L.take k))).map bM))∧ag (aW w wr)) (fun _ i _=>n-(intOf i).toNat)
 case atStart=>exact⟨0,bh _,rfl,ae (bg _ _ _ _),ae (aM _ _)⟩
 case round=>
  obtain⟨k,hk,rfl,hown,hb⟩:=hrel;by_cases hlt:k<n
  ·have hkl:k<L.length:=by have:=Hn.out;omega
   have cx:=(hb.out.cell (p:=⟨g,o+k,none⟩) hg).trans (Hc.out k hkl);have hx:L.getD k 0<65536:=by
    rw[aE,af hkl];exact HL.out _ (a8 hkl)
   have hs:=O9 hkl;have hq:(strs (Fa (L.take (k+1)))).map bM=(strs (Fa (L.take k))).map bM++[.string ⟨(hexL (L.getD k 0)).toArray⟩]:=by rw[hs,Ae]
   have Hq:=ae hq;clear hs hq;generalize L.getD k 0=X at cx hx Hq;have HF:=ae (fmt16 (w:=wr) X hx (oG.out.below hb.out).db);go_wp2_with(first
    |(go_at_call 184;refine HF.out.mono ?_;rintro r w2⟨rfl,g2⟩;have ho2:=ae (own_below hown.out g2);have hb2:=aZ hb g2;clear g2)
    |(at_builtin;refine wpList_append_own _ rfl _ _ 27 rfl w.heap.size 9 i0 (.string lJ) 1 16 Tryz.underlying27 hi hz0 hz1 hz2 rfl aH _ k _ rfl (ho2.out.alloc _) ⟨w2.heap.size,0,none⟩ 1 1 [.string ⟨(hexL X).toArray⟩] rfl rfl (cell_one_new _ _ _) (fun x hx=>by simp at hx;subst hx;rfl) (by unfold maxLen;omega) aQ (by have:=hb2.out.size;simp;omega) ?_;intro v' w3 hown' hgrow3 hnil3;have YN:=ae hown';have hb3:=ae ((hb2.out.alloc (hb2.out.size) _).grown hgrow3 (by have:=hb2.out.size;simp;omega) (fun q hq=>(ho2.out.lt q hq).1));clear hown' hgrow3 hnil3))
   go_roundw
   case rel=>exact⟨k+1,by omega,by go_num,ae (by rw[Hq.out];exact YN.out),hb3⟩
   case measure=>simp[intOf];omega
  ·obtain rfl:k=n:=by omega
   have hown:=hown.out;rw[show L.take k=L by rw[Hn.out,List.take_length]]at hown;have hlen:(Fa L).length=k:=by rw[Hn.out];simp[Fa]
   rw[←hlen]at hown;have HJ:=ae (EW (w:=wr) 58 hown aQ (by have:=rh HL.out (by have:=Hn.out;omega);exact aw this aH));clear hown hlen;go_wp2_with(go_at_call 181;refine HJ.out.mono ?_;rintro r w2⟨rfl,g2⟩;have hb2:=aZ hb g2;clear g2)
   go_ret;exact⟨rfl,hb2.out⟩
def mk(k:Nat):Nat:=18446744073709551616-2^k
theorem xw{k:Nat}(h:k≤64):2^k≤18446744073709551616:=aw (ahA aH h) (by decide)
theorem abl(k:Nat):mk k<18446744073709551616:=by
 have:0<2^k:=Nat.pow_pos aH;unfold mk;omega
theorem ab2{k:Nat}(h:k≤64):18446744073709551615-mk k=2^k-1:=by
 have:=xw h;have:0<2^k:=Nat.pow_pos aH;unfold mk;omega
theorem Ai{x k:Nat}(hx:x<18446744073709551616)(h:k≤64):bits .andNot .u64 (x:Int) ((mk k:Nat):Int)=((x%2^k:Nat):Int):=by
 rw[u64_andNot_nat x _ hx (abl k),ab2 h,Nat.and_two_pow_sub_one_eq_mod]
theorem Je{k:Nat}(h:k≤64)(i:Nat):(mk k).testBit i=(decide (i<64)&& !decide (i<k)):=by
 have h0:0<2^k:=Nat.pow_pos aH;have h1:=xw h;have:=Nat.testBit_two_pow_sub_succ (show 2^k-1<2^64 by omega) i;rw[Nat.testBit_two_pow_sub_one,show 2^64-(2^k-1+1)=mk k by unfold mk;omega]at this;exact this
theorem YO{x k:Nat}(hx:x<18446744073709551616)(h:k≤64):x&&&mk k=x/2^k*2^k:=by
 rw[←Nat.shiftRight_eq_div_pow,←Nat.shiftLeft_eq];apply Nat.eq_of_testBit_eq;intro i;rw[Nat.testBit_and,Je h,Nat.testBit_shiftLeft,Nat.testBit_shiftRight];by_cases hi:i<64
 ·by_cases hk:i<k
  ·simp[hk,Nat.not_le.2 hk]
  ·rw[show k+(i-k)=i by omega];simp[hi,hk,Nat.not_lt.1 hk]
 ·have:x.testBit i=false:=Nat.testBit_lt_two_pow (ahF hx (aw (by decide:18446744073709551616≤2^64) (ahA aH aQ)));rw[show k+(i-k)=i by omega,this];simp
theorem SX{x k:Nat}(hx:x<18446744073709551616)(h:k≤64):bits .and .u64 (x:Int) ((mk k:Nat):Int)=((x/2^k*2^k:Nat):Int):=by
 rw[u64_and_nat x _ hx (abl k),YO hx h]
def kH(a:Ad)(n:Nat):Nat:=if a.v6 then 64-n else 0
def kL(a:Ad)(n:Nat):Nat:=if a.v6 then(if n≤64 then 64 else 128-n)else 32-n
theorem aea(a:Ad)(n:Nat):kH a n≤64:=by unfold kH;split<;>omega
theorem aeb{a:Ad}{n:Nat}:kL a n≤64:=by
 unfold kL;split
 ·split<;>omega
 ·omega
theorem SY(hi lo k:Nat)(hl:lo<18446744073709551616):(hi*2^64+lo)%2^(k+64)=hi%2^k*2^64+lo:=by
 rw[Nat.pow_add,Nat.mul_comm (2^k),Nat.mod_mul];have e1:(hi*2^64+lo)%2^64=lo:=by omega
 have e2:(hi*2^64+lo)/2^64=hi:=by omega
 rw[e1,e2,Nat.mul_comm (2^64)];omega
theorem YQ(hi lo k:Nat)(hk:k≤64):(hi*2^64+lo)%2^k=lo%2^k:=by
 have:hi*2^64=2^k*(hi*2^(64-k)):=by
  rw[Nat.mul_left_comm,←Nat.pow_add,show k+(64-k)=64 by omega]
 rw[this,Nat.mul_add_mod]
theorem val_mod{a:Ad}(ok:a.Ok){n:Nat}(hn:n≤a.size)(h4:a.v6=false→a.hi=0):a.val%2^(a.size-n)=0↔a.hi%2^kH a n=0∧a.lo%2^kL a n=0:=by
 have hl:=ok.lo;unfold Ad.val Ad.size kH kL at*;cases h6:a.v6 with
 |true=>
  rw[h6]at hn;simp only[if_true]at hn⊢;by_cases h:n≤64
  ·rw[show 128-n=(64-n)+64 by omega,SY _ _ _ hl,if_pos h,Nat.mod_eq_of_lt (a:=a.lo) aQ];omega
  ·rw[YQ _ _ _ aQ,if_neg h,show 64-n=0 by omega,Nat.pow_zero,Nat.mod_one];simp
 |false=>
  rw[h6]at hn;simp only[Bool.false_eq_true,if_false]at hn⊢;rw[h4 h6];simp
theorem ab3{a:Ad}(h:a.may=true):a.v6=false→a.hi=0:=fun h6=>(may4 h h6).1
theorem YR{p:Pf}(ok:p.a.Ok):rF p=(p.a.may&&decide (p.bits≤p.a.size)&&(decide (p.a.hi%2^kH p.a p.bits=0)&&decide (p.a.lo%2^kL p.a p.bits=0))):=by
 unfold rF;cases hm:p.a.may with
 |false=>rfl
 |true=>
  by_cases hn:p.bits≤p.a.size
  ·rw[decide_eq_true hn,bV,bV,bV,←Bool.decide_and];exact decide_eq_decide.2 (val_mod ok hn (ab3 hm))
  ·rw[decide_eq_false hn];rfl
theorem Jf{k:Nat}(h:k≤64):IntKind.u64.wrap (18446744073709551615*2^k)=((mk k:Nat):Int):=by
 have h1:=xw h;have h0:0<2^k:=Nat.pow_pos aH;rw[fe];unfold mk;rw[show(2:Int)^k=((2^k:Nat):Int) by simp];generalize 2^k=q at h1 h0;omega
theorem MQ(x k:Nat):(x:Int)/2^k=((x/2^k:Nat):Int):=by simp
theorem BV{i j i' j':Int}(h:i=i')(h':j=j'):Ending.returned (.tuple #[.int .u64 i,.int .u64 j])=.returned (.tuple #[.int .u64 i',.int .u64 j']):=by rw[h,h']
theorem size_any(a:Ad)(w:World):Calls ah 277 #[.agg a.cells] w fun r w'=>r=.returned (.int .u8 (a.size:Int))∧aW w w':=by
 obtain⟨v,h,l⟩:=a;unfold Ad.cells;cases v
 all_goals
  go_enter Tryz.func277,Tryz.ntmps277;go_wp2_with fail
  go_ret;exact⟨rfl,boxed _ _⟩
theorem Ph(a:Ad)(n:Nat)(hn:n≤a.size)(w:World):Calls ah 278 #[.agg a.cells,.int .u8 n] w fun r w'=>r=.returned (.tuple #[.int .u64 (mk (kH a n):Int),.int .u64 (mk (kL a n):Int)])∧aW w w':=by
 obtain⟨v,h,l⟩:=a;unfold Ad.cells Ad.size kH kL at*;cases v with
 |false=>
  simp only[Bool.false_eq_true,if_false]at hn⊢;have e1:((32:Int)-(n:Int)).toNat=32-n:=by omega
  go_enter Tryz.func278,Tryz.ntmps278;go_wp2_with fail
  go_ret2;exact⟨BV rfl (Jf aQ),boxed _ _⟩
 |true=>
  simp only[if_true]at hn⊢;have e1:((64:Int)-(n:Int)).toNat=64-n:=by omega
  have e2:((128:Int)-(n:Int)).toNat=128-n:=by omega
  by_cases hc:n≤64
  ·rw[if_pos hc];go_enter Tryz.func278,Tryz.ntmps278;go_wp2_with fail
   go_ret2;exact⟨BV (Jf aQ) rfl,boxed _ _⟩
  ·rw[if_neg hc];have e3:mk (64-n)=18446744073709551615:=by rw[show 64-n=0 by omega];rfl
   rw[e3];go_enter Tryz.func278,Tryz.ntmps278;go_wp2_with fail
   go_ret2;exact⟨BV rfl (Jf aQ),boxed _ _⟩
end Go.Proofs.YtkjaajcpbldjoaaGreatDoor
