/- Joined out of: TxD TxE PoA PoB PoC PoD PoE PoF PoG PlA PlB PuA Env PuB PuC. -/
import Derived.Test.YtdfnhljccdoncaaGreatDoorNab
import Derived.Shelf.Strings.SlTrimAscii
import Derived.Lib.MapLaws
import Derived.Lib.ParseIntB
import Derived.Lib.LaidTab
import Derived.Lib.AppendIntMem
import Derived.Lib.ConvBytes
import Derived.Lib.AtoiErrMem
import Derived.Lib.Strings
set_option linter.unusedVariables false
set_option linter.unusedSimpArgs false
set_option maxHeartbeats 16000000
set_option maxRecDepth 100000
open Array renaming length_toList→mL
open Bool renaming and_eq_true→bg,true_and→bT,false_and→afv
open ByteArray renaming empty→sA,ext→ago
open Go.IntKind renaming wrap_u64→kR
open Go.Lib renaming hid→ae,decDigits→dH
open Go.Proofs.Tryz renaming prog→ai
open Go.RowKit.Below renaming refl→aK
open List renaming getElem?_eq_getElem→ag,length_append→aj,getD_eq_getElem?_getD→aB,append_assoc→aZ,drop_eq_getElem_cons→bP,length_cons→cm,mem_cons_of_mem→cA,mem_cons_self→ei,length_drop→Z5,length_take→ab6,drop_of_length_le→afu,nil_append→af6
open Option renaming bind_some→agv
open UInt8 renaming ofNat→agq
namespace Go.Proofs.YtdfnhljccdoncaaGreatDoor
theorem nX:∀L:List Nat,(∀x∈L,x<65536)→(iE L).length≤5*L.length:=by
 intro L
 induction L with
 |nil=>intro _;simp[K5]
 |cons x r ih=>
  intro h;have hx:=PG x (h x (ei ..));cases r with
  |nil=>rw[La];simp;omega
  |cons y r=>
   have:=ih fun z hz=>h z (cA _ hz)
   rw[uN];simp only[aj,cm]at*;omega
theorem Lh(a:Ad):(gm a).length≤60:=by
 unfold gm;split
 ·simp
 ·split
  ·have h:=Z8 a.lo;have:∀x∈uM a.lo,(dH x).length≤3:=fun x hx=>uK x (by have:=h x hx;omega)
   unfold mZ;simp only[uM,List.map_cons,List.map_nil,jW,Lib.join_one,aj]at*;have a1:=this _ (ei ..);have a2:=this _ (cA _ (ei ..));have a3:=this _ (cA _ (cA _ (ei ..)));have a4:=this _ (cA _ (cA _ (cA _ (ei ..))));simp only[dot,List.length_singleton];omega
  ·unfold sD;split
   ·have:=nX _ (nV a);rw[jh]at this;omega
   ·have h1:=nX _ (lZ (k:=(best (eZ a)).1.toNat) (nV a));have h2:=nX _ (uc (k:=(best (eZ a)).1.toNat+(best (eZ a)).2) (nV a));rw[ab6,jh]at h1;rw[Z5,jh]at h2;simp only[aj,cm];omega
def Ad.size(a:Ad):Nat:=if a.v6 then 128 else 32
def Ad.val(a:Ad):Nat:=if a.v6 then a.hi*2^64+a.lo else a.lo
def pX(p:Pf):Bool:=p.a.may&&decide (p.bits≤p.a.size)&&decide (p.a.val%2^(p.a.size-p.bits)=0)
def oU(p:Pf):List UInt8:=if pX p=true then gm p.a++47::dH p.bits else []
def PL(p:Pf)(a:Ad):Bool:=pX p&&a.may&&(p.a.v6==a.v6)&&decide (a.val/2^(p.a.size-p.bits)=p.a.val/2^(p.a.size-p.bits))
def uQ(a b:Ad):Bool:=if a.v6 !=b.v6 then b.v6 else if a.hi≠b.hi then decide (a.hi<b.hi)else decide (a.lo<b.lo)
def hZ(s:List UInt8):Option Pf:=if(Lib.cut s [47]).2.2=false then none
 else match sF (Lib.cut s [47]).1,num1 10 256 (Lib.cut s [47]).2.1 with
  |some a,some n=>if oU ⟨a,n⟩=s then some ⟨a,n⟩else none
  |_,_=>none
theorem size_le(a:Ad):a.size≤128:=by unfold Ad.size;split<;>omega
theorem PN{p:Pf}(h:oU p≠[]):pX p=true:=by
 unfold oU at h;split at h
 ·assumption
 ·exact absurd rfl h
theorem m9{s:List UInt8}{p:Pf}(h:hZ s=some p):oU p=s∧p.Ok∧pX p=true:=by
 unfold hZ at h;split at h
 ·cases h
 ·next hn=>
  split at h
  ·next a n ha hb=>
   split at h
   ·next ht=>
    cases h;have hs:s≠[]:=by rintro rfl;exact hn rfl
    exact⟨ht,⟨(uP ha).2.1,lX hb⟩,PN (by rw[ht];exact hs)⟩
   ·cases h
  ·cases h
open Go.RowKit
structure jC where
 kind:Nat
 name:ByteArray
 net:Pf
structure Nm where
 name:ByteArray
 list:List ByteArray
structure Hs where
 name:ByteArray
 net:Pf
structure Ac where
 ia:List Nat
 src:List jC
 dst:List jC
 iU:List (Nat×Nat)
structure Po where
 groups:List Nm
 tags:List Nm
 hosts:List Hs
 kt:List Ac
deriving instance DecidableEq for Ad
deriving instance DecidableEq for Pf
deriving instance DecidableEq for jC
deriving instance DecidableEq for Nm
deriving instance DecidableEq for Hs
deriving instance DecidableEq for Ac
deriving instance DecidableEq for Po
def Ad.zero:Ad:=⟨false,0,0⟩
def Pf.zero:Pf:=⟨Ad.zero,0⟩
def Po.zero:Po:=⟨[],[],[],[]⟩
def az(c:UInt8):Bool:=decide (97≤c.toNat∧c.toNat≤122)
def zg(c:UInt8):Bool:=az c||decide (48≤c.toNat∧c.toNat≤57)||decide (c=46)||decide (c=95)||decide (c=45)
def na(s:List UInt8):Bool:=match s with
 |[]=>false
 |c::r=>decide (r.length<32)&&az c&&r.all zg
def cn(s:ByteArray):Bool:=na s.data.toList
def blank(c:UInt8):Bool:=decide (c=32)||decide (c=9)
def fieldsGo(cur:List UInt8):List UInt8→List (List UInt8)
 |[]=>if cur=[]then []else [cur]
 |c::r=>if blank c=true then(if cur=[]then fieldsGo [] r else cur::fieldsGo [] r)else fieldsGo (cur++[c]) r
def fieldsB(s:List UInt8):List (List UInt8):=fieldsGo [] s
def fZ(w:List UInt8):Bool:=match w with
 |[]=>true
 |c::_=>decide (c≠35)
def iF(l:List UInt8):ByteArray:=⟨l.toArray⟩
def nb(s:List UInt8):List ByteArray:=((fieldsB s).takeWhile fZ).map iF
def eU:ByteArray:=⟨#[103,114,111,117,112]⟩
def jG:ByteArray:=⟨#[116,97,103]⟩
def ib:ByteArray:=⟨#[104,111,115,116]⟩
def iG:ByteArray:=⟨#[97,99,99,101,112,116]⟩
def Cm:ByteArray:=⟨#[61]⟩
def Jq:ByteArray:=⟨#[97,110,121]⟩
def uR:ByteArray:=⟨#[102,114,111,109]⟩
def Lj:ByteArray:=⟨#[116,111]⟩
def l9:ByteArray:=⟨#[112,111,114,116,115]⟩
def uS:ByteArray:=⟨#[42]⟩
def rz:ByteArray:=⟨#[117,115,101,114]⟩
def yk:ByteArray:=⟨#[110,101,116]⟩
def zh:ByteArray:=⟨#[105,99,109,112]⟩
def Jr:ByteArray:=⟨#[116,99,112]⟩
def Js:ByteArray:=⟨#[117,100,112]⟩
def py(l:List Nm)(s:ByteArray):Bool:=l.any fun n=>decide (n.name=s)
def xo(l:List Hs)(s:ByteArray):Bool:=l.any fun n=>decide (n.name=s)
def gx(p:Po)(s:jC):Bool:=if s.kind=3 then py p.groups s.name else if s.kind=4 then py p.tags s.name else if s.kind=5 then xo p.hosts s.name else true
abbrev Bad:=Nat×Nat
def ji:List ByteArray→Nat→Nat→Except Bad (List ByteArray)
 |[],_,_=>.ok []
 |s::r,i,c=>if cn s=false then .error (191,i)else if 64≤c then .error (198,i)else(ji r (i+1) (c+1)).map (s::·)
def kT(ws:List ByteArray)(told:List Nm):Except Bad Nm:=if 64≤told.length then .error (198,0)else
 match ws with
 |_::nm::r=>
  if cn nm=false then .error (191,1)else if py told nm=true then .error (197,1)else
  match r with
  |e::r'=>if e≠Cm then .error (190,2)else if r'=[]then .error (190,3)else(ji r' 3 0).map (⟨nm,·⟩)
  |[]=>.error (190,2)
 |_=>.error (190,ws.length)
def sG(ws:List ByteArray)(told:List Hs):Except Bad Hs:=if 64≤told.length then .error (198,0)else
 match ws with
 |_::nm::r=>
  if cn nm=false then .error (191,1)else if xo told nm=true then .error (197,1)else
  match r with
  |e::r'=>if e≠Cm then .error (190,2)else
   match r' with
   |[]=>.error (190,3)
   |t::r''=>match hZ t.data.toList with
    |none=>.error (192,3)
    |some n=>if r''≠[]then .error (190,4)else .ok ⟨nm,n⟩
  |[]=>.error (190,2)
 |_=>.error (190,ws.length)
def fQ(w:List UInt8):Nat:=if iF w=zh then 1 else if iF w=Jr then 6 else if iF w=Js then 17 else 0
def fc(last:Nat):List (List UInt8)→Option (List Nat)
 |[]=>some []
 |w::r=>if fQ w=0∨fQ w≤last then none else(fc (fQ w) r).map (fQ w::·)
def gV(w:ByteArray):Option (List Nat):=if w=Jq then some []else fc 0 (cQ 44 w.data.toList)
def fR(w:List UInt8):Nat:=if iF w=rz then 2 else if iF w=eU then 3 else if iF w=jG then 4 else if iF w=ib then 5 else if iF w=yk then 6 else 0
def lu(w:ByteArray):Option jC:=if w=uS then some ⟨1,sA,Pf.zero⟩else
 let c:=Lib.cut w.data.toList [58]
 if fR c.1=6 then(hZ c.2.1).map fun n=>⟨6,sA,n⟩
 else if 0<fR c.1∧na c.2.1=true then some ⟨fR c.1,iF c.2.1,Pf.zero⟩else none
def dx(en:ByteArray):List ByteArray→Nat→Nat→Except Bad (List (jC×Nat)×List ByteArray)
 |[],i,c=>if c=0 then .error (190,i)else .ok ([],[])
 |w::r,i,c=>if w=en∧c≠0 then .ok ([],w::r)else match lu w with
  |none=>.error (195,i)
  |some s=>if 64≤c then .error (198,i)else(dx en r (i+1) (c+1)).map fun x=>((s,i)::x.1,x.2)
def sJ(s:List UInt8):Option Nat:=(num1 10 65536 s).bind fun n=>if dH n=s then some n else none
def kU(w:ByteArray):Option (Nat×Nat):=let c:=Lib.cut w.data.toList [45]
 match sJ c.1,sJ (if c.2.2=true then c.2.1 else c.1)with
 |some a,some b=>if a≤b then some (a,b)else none
 |_,_=>none
def iH:List ByteArray→Nat→Nat→Except Bad (List (Nat×Nat))
 |[],_,_=>.ok []
 |w::r,i,c=>match kU w with
  |none=>.error (193,i)
  |some x=>if 64≤c then .error (198,i)else(iH r (i+1) (c+1)).map (x::·)
def kA(ws:List ByteArray)(told:Nat):Except Bad (Ac×List (jC×Nat)):=if 64≤told then .error (198,0)else
 match ws with
 |_::pr::r=>match gV pr with
  |none=>.error (194,1)
  |some ps=>match r with
   |[]=>.error (190,2)
   |f::r'=>if f≠uR then .error (190,2)else
    match dx Lj r' 3 0 with
    | .error e=>.error e
    | .ok (src,r2)=>match r2 with
      |[]=>.error (190,ws.length)
      |_::r3=>match dx l9 r3 (ws.length-r3.length) 0 with
       | .error e=>.error e
       | .ok (dst,r4)=>match r4 with
         |[]=>.ok (⟨ps,src.map (·.1),dst.map (·.1),[]⟩,src++dst)
         |_::r5=>if r5=[]then .error (190,ws.length)else
          (iH r5 (ws.length-r5.length) 0).map fun po=>(⟨ps,src.map (·.1),dst.map (·.1),po⟩,src++dst)
 |_=>.error (190,ws.length)
structure oV where
 p:Po
 used:List (jC×Nat×Nat)
def eE(b:oV)(n:Nat)(ws:List ByteArray):Except Bad oV:=match ws with
 |[]=>.ok b
 |w::_=>
  if w=eU then(kT ws b.p.groups).map fun x=>{b with p:={b.p with groups:=b.p.groups++[x]}}
  else if w=jG then(kT ws b.p.tags).map fun x=>{b with p:={b.p with tags:=b.p.tags++[x]}}
  else if w=ib then(sG ws b.p.hosts).map fun x=>{b with p:={b.p with hosts:=b.p.hosts++[x]}}
  else if w=iG then(kA ws b.p.kt.length).map fun x=>{p:={b.p with kt:=b.p.kt++[x.1]},used:=b.used++x.2.map fun y=>(y.1,n,y.2)}
  else .error (190,0)
abbrev Flt:=Nat×Nat×Nat
def pA:List (List UInt8)→Nat→oV→Except Flt oV
 |[],_,b=>.ok b
 |l::r,n,b=>match eE b n (nb l)with
  | .error e=>.error (e.1,n,e.2)
  | .ok b'=>pA r (n+1) b'
def ic(s:List UInt8):Po×Flt:=if 8192<s.length then(Po.zero,(4,0,0))else
 match pA (cQ 10 s) 1 ⟨Po.zero,[]⟩with
 | .error e=>(Po.zero,e)
 | .ok b=>match b.used.find? fun u=> !gx b.p u.1 with
   |some u=>(Po.zero,(196,u.2))
   |none=>(b.p,(0,0,0))
def zi(s:jC):List UInt8:=if s.kind=1 then [42]else if s.kind=2 then rz.data.toList++58::s.name.data.toList else if s.kind=3 then eU.data.toList++58::s.name.data.toList
 else if s.kind=4 then jG.data.toList++58::s.name.data.toList else if s.kind=5 then ib.data.toList++58::s.name.data.toList else if s.kind=6 then yk.data.toList++58::oU s.net else []
def Zh(l:List (List UInt8)):List UInt8:=Lib.join l [32]++[10]
def distinct:List ByteArray→Bool
 |[]=>true
 |s::r=> !(r.any fun t=>decide (t=s))&&distinct r
def ym(l:List Nm):Bool:=(l.all fun n=>cn n.name&&decide (1≤n.list.length)&&decide (n.list.length≤64)&&n.list.all cn)&&decide (l.length≤64)&&distinct (l.map (·.name))
def ud(p:Po)(l:List jC):Bool:=(l.all fun s=>decide (lu (iF (zi s))=some s)&&gx p s)&&decide (1≤l.length)&&decide (l.length≤64)
def rising:Nat→List Nat→Bool
 |_,[]=>true
 |last,x::r=>decide (last<x)&&rising x r
def PQ(p:Po)(a:Ac):Bool:=(a.iU.all fun x=>decide (x.1≤x.2))&&(a.ia.all fun x=>decide (x=1)||decide (x=6)||decide (x=17))&&rising 0 a.ia&&decide (a.iU.length≤64)&&ud p a.src&&ud p a.dst
def aac(p:Po):Bool:=ym p.groups&&ym p.tags&&decide (p.hosts.length≤64)&&decide (p.kt.length≤64)&&(p.hosts.all fun h=>cn h.name&&pX h.net)&&(p.kt.all (PQ p))&&distinct (p.hosts.map (·.name))
theorem nc:∀(w cur r:List UInt8),(∀c∈w,blank c=false)→fieldsGo cur (w++r)=fieldsGo (cur++w) r:=by
 intro w
 induction w with
 |nil=>intro cur r _;simp
 |cons c w ih=>
  intro cur r h;have hc:=h c (ei ..);rw[List.cons_append,fieldsGo,hc,if_neg aI,ih _ _ fun d hd=>h d (cA _ hd)];simp
theorem FI(x y:List UInt8)(r:List (List UInt8))(c:List UInt8):Lib.join (x::y::r) c=x++c++Lib.join (y::r) c:=by rw[jW,aZ]
theorem xq{α:Type}(p:α→Bool):∀(l:List α),(∀x∈l,p x=true)→l.takeWhile p=l:=by
 intro l
 induction l with
 |nil=>intro _;rfl
 |cons x r ih=>intro h;rw[List.takeWhile_cons,h x (ei ..),if_pos rfl,ih fun y hy=>h y (cA _ hy)]
theorem pY(b:ByteArray):iF b.data.toList=b:=by
 unfold iF;rw[Array.toArray_toList]
theorem VH{c:UInt8}(h:az c=true):zg c=true:=by unfold zg;rw[h];rfl
structure aen(n:Nm):Prop where
 name:cn n.name=true
 ge:1≤n.list.length
 le:n.list.length≤64
 all:∀s∈n.list,cn s=true
def uf(x:Nat):Bool:=decide (x=1)||decide (x=6)||decide (x=17)
theorem VI(s:List UInt8)(c:UInt8):(c∉s∧Lib.cut s [c]=(s,[],false))∨(∃x y,s=x++c::y∧c∉x∧Lib.cut s [c]=(x,y,true)):=by
 by_cases h:c∈s
 ·right;obtain⟨x,y,e,hx⟩:=List.eq_append_cons_of_mem h;exact⟨x,y,e,hx,by rw[e];exact Cf y hx⟩
 ·exact Or.inl ⟨h,zf h⟩
theorem CB:hZ []=none:=by rfl
inductive ab9(w:ByteArray)(s:jC):Prop where
 |star (h1:w=uS) (h2:s=⟨1,sA,Pf.zero⟩)
 |named (k nm:List UInt8) (h0:w.data.toList=k++58::nm) (h1:fR k≠6) (h2:0<fR k) (h3:na nm=true) (h4:s=⟨fR k,iF nm,Pf.zero⟩)
 |net (k t:List UInt8) (n:Pf) (h0:w.data.toList=k++58::t) (h1:fR k=6) (h2:hZ t=some n) (h3:s=⟨6,sA,n⟩)
theorem Jt{w:ByteArray}{s:jC}(h:lu w=some s):ab9 w s:=by
 unfold lu at h;split at h
 ·next e=>injection h with h;exact .star e h.symm
 ·simp only at h;rcases VI w.data.toList 58 with⟨_,e⟩|⟨x,y,e0,_,e⟩
  ·rw[e]at h;simp only[CB]at h;split at h
   ·cases h
   ·split at h
    ·next hh=>exact absurd hh.2 (by decide)
    ·cases h
  ·rw[e]at h;simp only at h;split at h
   ·next h6=>
    cases hp:hZ y with
    |none=>rw[hp]at h;cases h
    |some n=>
     rw[hp]at h;injection h with h
     exact .net x y n e0 h6 hp h.symm
   ·next h6=>
    split at h
    ·next hh=>injection h with h;exact .named x y e0 h6 hh.1 hh.2 h.symm
    ·cases h
theorem nh{k:List UInt8}(h:0<fR k):(fR k=2∧k=rz.data.toList)∨(fR k=3∧k=eU.data.toList)∨(fR k=4∧k=jG.data.toList)∨(fR k=5∧k=ib.data.toList)∨(fR k=6∧k=yk.data.toList):=by
 have inj:∀b:ByteArray,iF k=b→k=b.data.toList:=fun b e=>by rw[←e];rfl
 unfold fR at h⊢;split
 ·next e=>exact Or.inl ⟨rfl,inj _ e⟩
 ·split
  ·next e=>exact Or.inr (Or.inl ⟨rfl,inj _ e⟩)
  ·split
   ·next e=>exact Or.inr (Or.inr (Or.inl ⟨rfl,inj _ e⟩))
   ·split
    ·next e=>exact Or.inr (Or.inr (Or.inr (Or.inl ⟨rfl,inj _ e⟩)))
    ·split
     ·next e=>exact Or.inr (Or.inr (Or.inr (Or.inr ⟨rfl,inj _ e⟩)))
     ·next e1 e2 e3 e4 e5=>rw[if_neg e1,if_neg e2,if_neg e3,if_neg e4,if_neg e5]at h;cases h
theorem VJ{w:ByteArray}{s:jC}(h:lu w=some s):iF (zi s)=w:=by
 cases Jt h with
 |star h1 h2=>subst h1 h2;rfl
 |named k nm h0 h1 h2 h3 h4=>
  subst h4;have e:w=iF (k++58::nm):=by rw[←h0,pY]
  rw[e];unfold zi;rcases nh h2 with⟨e1,e2⟩|⟨e1,e2⟩|⟨e1,e2⟩|⟨e1,e2⟩|⟨e1,e2⟩
  ·simp only[e1];rw[e2];rfl
  ·simp only[e1];rw[e2];rfl
  ·simp only[e1];rw[e2];rfl
  ·simp only[e1];rw[e2];rfl
  ·exact absurd e1 h1
 |net k t n h0 h1 h2 h3=>
  subst h3;have e:w=iF (k++58::t):=by rw[←h0,pY]
  rw[e];rcases nh (show 0<fR k by omega)with⟨e1,e2⟩|⟨e1,e2⟩|⟨e1,e2⟩|⟨e1,e2⟩|⟨e1,e2⟩
  ·omega
  ·omega
  ·omega
  ·omega
  ·unfold zi;rw[e2];simp only;rw[(m9 h2).1];rfl
theorem FK{w:ByteArray}{s:jC}(h:lu w=some s):lu (iF (zi s))=some s:=by rw[VJ h];exact h
structure aca(a:Ac):Prop where
 rise:rising 0 a.ia=true
 ia:∀x∈a.ia,uf x=true
 src:∀s∈a.src,lu (iF (zi s))=some s
 dst:∀s∈a.dst,lu (iF (zi s))=some s
 afC:1≤a.src.length
 afw:a.src.length≤64
 afD:1≤a.dst.length
 afx:a.dst.length≤64
 iU:∀x∈a.iU,x.1≤x.2∧x.2<65536
 ael:a.iU.length≤64
structure aeo(x:Hs):Prop where
 name:cn x.name=true
 may:pX x.net=true
 ok:x.net.Ok
structure acb(p:Po):Prop where
 hosts:∀h∈p.hosts,h.net.Ok
 iU:∀a∈p.kt,∀x∈a.iU,x.1<65536∧x.2<65536
theorem uT{p:Po}{l:List jC}(h:ud p l=true):(∀s∈l,lu (iF (zi s))=some s∧gx p s=true)∧1≤l.length∧l.length≤64:=by
 unfold ud at h;simp only[bg,decide_eq_true_eq]at h;obtain⟨⟨h1,h2⟩,h3⟩:=h;refine⟨fun s hs=>?_,h2,h3⟩;have:=List.all_eq_true.1 h1 s hs;simpa only[bg,decide_eq_true_eq]using this
theorem VK{p:Po}(h:aac p=true):ym p.groups=true∧ym p.tags=true∧p.hosts.length≤64∧p.kt.length≤64∧(∀x∈p.hosts,cn x.name=true∧pX x.net=true)∧(∀a∈p.kt,PQ p a=true)∧distinct (p.hosts.map (·.name))=true:=by
 unfold aac at h;simp only[bg,decide_eq_true_eq]at h;obtain⟨⟨⟨⟨⟨⟨h1,h2⟩,h3⟩,h4⟩,h5⟩,h6⟩,h7⟩:=h;refine⟨h1,h2,h3,h4,fun x hx=>?_,fun a ha=>List.all_eq_true.1 h6 a ha,h7⟩;have:=List.all_eq_true.1 h5 x hx;simpa only[bg]using this
theorem map_ok{α β ε:Type}{f:α→β}{x:Except ε α}{y:β}(h:x.map f=.ok y):∃v,x=.ok v∧f v=y:=by
 cases x with
 |error e=>cases h
 |ok v=>injection h with h;exact⟨v,rfl,h⟩
theorem zj:∀(l:List ByteArray)(i c:Nat)(r:List ByteArray),ji l i c=.ok r→r=l∧(∀s∈l,cn s=true)∧(l≠[]→c+l.length≤64):=by
 intro l
 induction l with
 |nil=>intro i c r h;injection h with h;exact⟨h.symm,fun s hs=>(by cases hs),fun h=>absurd rfl h⟩
 |cons s t ih=>
  intro i c r h;rw[ji]at h;split at h
  ·cases h
  next h1=>
  split at h
  ·cases h
  next h2=>
  cases hr:ji t (i+1) (c+1)with
  |error e=>rw[hr]at h;cases h
  |ok q=>
   rw[hr]at h;injection h with h
   obtain⟨e1,e2,e3⟩:=ih _ _ _ hr;subst e1;refine⟨h.symm,?_,fun _=>?_⟩
   ·intro x hx;rcases List.mem_cons.1 hx with rfl|hx
    ·simpa using h1
    ·exact e2 x hx
   ·rw[cm];by_cases e:q=[]
    ·subst e;simp;omega
    ·have:=e3 e;omega
theorem sK{ws:List ByteArray}{told:List Nm}{n:Nm}(h:kT ws told=.ok n):aen n∧told.length<64∧py told n.name=false:=by
 unfold kT at h;split at h
 ·cases h
 next h0=>
 split at h
 ·next w nm r=>
  split at h
  ·cases h
  next h1=>
  split at h
  ·cases h
  next h2=>
  split at h
  ·next e r'=>
   split at h
   ·cases h
   next h3=>
   split at h
   ·cases h
   next h4=>
   cases hr:ji r' 3 0 with
   |error e=>rw[hr]at h;cases h
   |ok q=>
    rw[hr]at h;injection h with h
    obtain⟨e1,e2,e3⟩:=zj _ _ _ _ hr;subst e1 h;have hl:=e3 h4;refine⟨⟨by simpa using h1,?_,by simpa using hl,e2⟩,by omega,by simpa using h2⟩;cases q with
    |nil=>exact absurd rfl h4
    |cons _ _=>simp
  ·cases h
 ·cases h
theorem FM{ws:List ByteArray}{told:List Hs}{x:Hs}(h:sG ws told=.ok x):aeo x∧told.length<64∧xo told x.name=false:=by
 unfold sG at h;split at h
 ·cases h
 next h0=>
 split at h
 ·next w nm r=>
  split at h
  ·cases h
  next h1=>
  split at h
  ·cases h
  next h2=>
  split at h
  ·split at h
   ·cases h
   ·split at h
    ·cases h
    ·next t r''=>
     split at h
     ·cases h
     ·next n hn=>
      split at h
      ·cases h
      ·injection h with h
       subst h;obtain⟨_,p2,p3⟩:=m9 hn;exact⟨⟨by simpa using h1,p3,p2⟩,by omega,by simpa using h2⟩
  ·cases h
 ·cases h
theorem Ll{w:List UInt8}(h:fQ w≠0):uf (fQ w)=true:=by
 unfold fQ at h⊢;split
 ·rfl
 ·split
  ·rfl
  ·split
   ·rfl
   ·next h1 h2 h3=>rw[if_neg h1,if_neg h2,if_neg h3]at h;exact absurd rfl h
theorem xr:∀(l:List (List UInt8))(k:Nat)(r:List Nat),fc k l=some r→rising k r=true∧∀x∈r,uf x=true:=by
 intro l
 induction l with
 |nil=>intro k r h;injection h with h;subst h;exact⟨rfl,fun x hx=>by cases hx⟩
 |cons w t ih=>
  intro k r h;rw[fc]at h;split at h
  ·cases h
  next h1=>
  cases hr:fc (fQ w) t with
  |none=>rw[hr]at h;cases h
  |some q=>
   rw[hr]at h;injection h with h
   subst h;obtain⟨e1,e2⟩:=ih _ _ hr;refine⟨?_,?_⟩
   ·unfold rising;rw[e1,decide_eq_true aY];rfl
   ·intro x hx;rcases List.mem_cons.1 hx with rfl|hx
    ·exact Ll (by omega)
    ·exact e2 x hx
theorem zl{w:ByteArray}{r:List Nat}(h:gV w=some r):rising 0 r=true∧∀x∈r,uf x=true:=by
 unfold gV at h;split at h
 ·injection h with h;subst h;exact⟨rfl,fun x hx=>by cases hx⟩
 ·exact xr _ _ _ h
theorem sM{en:ByteArray}:∀(l:List ByteArray)(i c:Nat)(L:List (jC×Nat))(t:List ByteArray),dx en l i c=.ok (L,t)→(∀y∈L,lu (iF (zi y.1))=some y.1)∧(L≠[]→c+L.length≤64)∧(c=0→L≠[]):=by
 intro l
 induction l with
 |nil=>
  intro i c L t h;rw[dx]at h;split at h
  ·cases h
  next h1=>
  injection h with h
  injection h with h2 h3
  subst h2;exact⟨fun y hy=>(by cases hy),fun h=>absurd rfl h,fun h=>absurd h h1⟩
 |cons w r ih=>
  intro i c L t h;rw[dx]at h;split at h
  ·next h1=>
   injection h with h
   injection h with h2 h3
   subst h2;exact⟨fun y hy=>(by cases hy),fun h=>absurd rfl h,fun h=>absurd h h1.2⟩
  ·split at h
   ·cases h
   ·next s hs=>
    split at h
    ·cases h
    next h2=>
    cases hr:dx en r (i+1) (c+1)with
    |error e=>rw[hr]at h;cases h
    |ok q=>
     rw[hr]at h;injection h with h
     injection h with h3 h4
     subst h3;obtain⟨e1,e2,_⟩:=ih _ _ _ _ hr;refine⟨?_,fun _=>?_,fun _=>by simp⟩
     ·intro y hy;rcases List.mem_cons.1 hy with rfl|hy
      ·exact FK hs
      ·exact e1 y hy
     ·rw[cm];by_cases e:q.1=[]
      ·rw[e];simp;omega
      ·have:=e2 e;omega
theorem PR{s:List UInt8}{n:Nat}(h:sJ s=some n):n<65536:=by
 unfold sJ at h;cases hn:num1 10 65536 s with
 |none=>rw[hn]at h;cases h
 |some m=>
  rw[hn]at h;simp only[agv]at h;split at h
  ·injection h with h;subst h;exact lX hn
  ·cases h
theorem CG{w:ByteArray}{x:Nat×Nat}(h:kU w=some x):x.1≤x.2∧x.2<65536:=by
 unfold kU at h;simp only at h;split at h
 ·next a b ha hb=>
  split at h
  ·next hle=>injection h with h;subst h;exact⟨hle,PR hb⟩
  ·cases h
 ·cases h
theorem zn:∀(l:List ByteArray)(i c:Nat)(r:List (Nat×Nat)),iH l i c=.ok r→(∀x∈r,x.1≤x.2∧x.2<65536)∧(r≠[]→c+r.length≤64):=by
 intro l
 induction l with
 |nil=>intro i c r h;injection h with h;subst h;exact⟨fun x hx=>(by cases hx),fun h=>absurd rfl h⟩
 |cons w t ih=>
  intro i c r h;rw[iH]at h;split at h
  ·cases h
  ·next x hx=>
   split at h
   ·cases h
   next h2=>
   cases hr:iH t (i+1) (c+1)with
   |error e=>rw[hr]at h;cases h
   |ok q=>
    rw[hr]at h;injection h with h
    subst h;obtain⟨e1,e2⟩:=ih _ _ _ hr;refine⟨?_,fun _=>?_⟩
    ·intro y hy;rcases List.mem_cons.1 hy with rfl|hy
     ·exact CG hx
     ·exact e1 y hy
    ·rw[cm];by_cases e:q=[]
     ·rw[e];simp;omega
     ·have:=e2 e;omega
theorem zo{ws:List ByteArray}{told:Nat}{a:Ac}{L:List (jC×Nat)}(h:kA ws told=.ok (a,L)):aca a∧told<64∧(∀s,s∈a.src∨s∈a.dst→∃y∈L,y.1=s):=by
 unfold kA at h;split at h
 ·cases h
 next h0=>
 split at h
 ·split at h
  ·cases h
  next ps hps=>
  split at h
  ·cases h
  ·split at h
   ·cases h
   ·split at h
    ·cases h
    next src r2 hsrc=>
    split at h
    ·cases h
    ·split at h
     ·cases h
     next dst r4 hdst=>
     obtain⟨p1,p2⟩:=zl hps;obtain⟨s1,s2,s3⟩:=sM _ _ _ _ _ hsrc;obtain⟨d1,d2,d3⟩:=sM _ _ _ _ _ hdst;have sl:=s2 (s3 rfl);have dl:=d2 (d3 rfl);have sp:1≤src.length:=by
      cases src with
      |nil=>exact absurd rfl (s3 rfl)
      |cons _ _=>simp
     have dp:1≤dst.length:=by
      cases dst with
      |nil=>exact absurd rfl (d3 rfl)
      |cons _ _=>simp
     have fin:∀po:List (Nat×Nat),(∀x∈po,x.1≤x.2∧x.2<65536)→po.length≤64→aca ⟨ps,src.map (·.1),dst.map (·.1),po⟩:=by
      intro po h1 h2;refine⟨p1,p2,?_,?_,by simpa using sp,by simp;omega,by simpa using dp,by simp;omega,h1,h2⟩
      ·intro s hs;obtain⟨y,hy,rfl⟩:=List.mem_map.1 hs;exact s1 y hy
      ·intro s hs;obtain⟨y,hy,rfl⟩:=List.mem_map.1 hs;exact d1 y hy
     have cov:∀s,s∈src.map (·.1)∨s∈dst.map (·.1)→∃y∈src++dst,y.1=s:=by
      rintro s(hs|hs)
      ·obtain⟨y,hy,rfl⟩:=List.mem_map.1 hs;exact⟨y,List.mem_append_left _ hy,rfl⟩
      ·obtain⟨y,hy,rfl⟩:=List.mem_map.1 hs;exact⟨y,List.mem_append_right _ hy,rfl⟩
     split at h
     ·injection h with h
      injection h with h1 h2
      subst h1 h2;exact⟨fin [] (fun x hx=>(by cases hx)) (by simp),by omega,cov⟩
     ·next w r5=>
      split at h
      ·cases h
      ·obtain⟨po,hg,hy⟩:=map_ok h;injection hy with h1 h2
       subst h1 h2;obtain⟨q1,q2⟩:=zn _ _ _ _ hg;refine⟨fin po q1 ?_,by omega,cov⟩;by_cases e:po=[]
       ·subst e;simp
       ·have:=q2 e;omega
 ·cases h
def mc:ByteArray:=⟨#[97,98,99,100,101,102,103,104,105,106,107,108,109,110,111,112,113,114,115,116,117,118,119,120,121,122,48,49,50,51,52,53,54,55,56,57,46,95,45]⟩
theorem PS(c:UInt8):mc.data.toList.contains c=zg c:=by
 have h:∀n:Fin 256,mc.data.toList.contains (agq n.val)=zg (agq n.val):=by decide+kernel
 have:=h ⟨c.toNat,c.toNat_lt⟩;simpa using this
theorem kB(p:UInt8→Bool):∀l:List UInt8,l.dropWhile p=[]↔l.all p=true:=by
 intro l
 induction l with
 |nil=>simp
 |cons c r ih=>
  rw[List.dropWhile_cons,List.all_cons];cases h:p c with
  |true=>simp[ih]
  |false=>simp
theorem xt{p:UInt8→Bool}{l:List UInt8}(h:(l.dropWhile p).all p=true):l.all p=true:=by
 induction l with
 |nil=>rfl
 |cons c r ih=>
  rw[List.dropWhile_cons]at h;cases hc:p c with
  |true=>
   rw[hc,if_pos rfl]at h;rw[List.all_cons,hc,ih h];rfl
  |false=>rw[hc,if_neg aI]at h;exact h
theorem Lm(l cs:List UInt8):(Lib.trimS l cs).isEmpty=l.all (cs.contains ·):=by
 have e:Lib.trimS l cs=[]↔l.all (cs.contains ·)=true:=by
  unfold Lib.trimS Lib.trimLeftS Lib.trimRightS;rw[kB,List.all_reverse];constructor
  ·intro h;have:=xt h;rwa [List.all_reverse]at this
  ·intro h;have:(l.reverse.dropWhile fun x=>cs.contains x)=[]:=(kB _ _).2 (by rw[List.all_reverse];exact h);rw[this];rfl
 cases h:l.all (cs.contains ·)with
 |true=>rw[e.2 h];rfl
 |false=>
  cases ht:Lib.trimS l cs with
  |nil=>rw[e.1 ht]at h;cases h
  |cons _ _=>rfl
theorem FN{s:ByteArray}(h:0<s.size):cn s=(decide (s.size≤32)&&az (s[0]'h)&&s.data.toList.all zg):=by
 have hl:s.data.toList.length=s.size:=by rw[mL];rfl
 unfold cn;have h0:s.data.toList[0]? =some (s[0]'h):=by
  rw[ag aY];simp;rfl
 cases hs:s.data.toList with
 |nil=>rw[hs]at hl;simp at hl;omega
 |cons c r=>
  rw[hs]at h0 hl;injection h0 with h0
  unfold na;rw[←h0,List.all_cons,cm]at*;simp only;cases hc:az c with
  |false=>simp
  |true=>
   rw[VH hc,bT];congr 2;by_cases h32:s.size≤32
   ·rw[decide_eq_true h32,decide_eq_true aY]
   ·rw[decide_eq_false h32,decide_eq_false aY]
theorem nY(s:ByteArray)(hs:s.size≤4000000)(w:World):Calls ai 199 #[.string s] w (Got (.bool (cn s)) w):=by
 have htr:∀v,Calls ai 232 #[.string s,.string mc] v (Got (.string ⟨(Lib.trimS s.data.toList mc.data.toList).toArray⟩) v):=fun v=>Any.strings_Trim_laid Tryz.lays160 bJ s mc v aY aI (ascii_of_all aI)
 have hb0:=aK w.heap.size w;have hset:=Lm s.data.toList mc.data.toList;rw[show(fun x=>mc.data.toList.contains x)=zg from funext PS]at hset;by_cases h0:s.size=0
 ·have he:s=sA:=ago (Array.eq_empty_of_size_eq_zero h0);subst he;go_enter Tryz.func199,Tryz.ntmps199;go_wp2_with fail
  go_ret;exact⟨rfl,hb0⟩
 ·have hp:0<s.size:=by omega
  have hemp:s.toList.isEmpty=false:=by
   rw[←decide_eq_emptyBytes];exact decide_eq_false (fun h=>h0 (by rw[h];rfl))
  rw[FN hp];generalize hx:(s[0]'hp).toNat=x0;have acd:az (s[0]'hp)=decide (97≤x0∧x0≤122):=by unfold az;rw[hx]
  rw[acd];generalize hT:(⟨(Lib.trimS s.data.toList mc.data.toList).toArray⟩:ByteArray)=TT at htr;have hTe:TT.toList.isEmpty=s.data.toList.all zg:=by rw[←hset,←hT,ByteArray.toList_eq]
  generalize s.data.toList.all zg=LL at hTe⊢;unfold mc at htr;have HTR:=ae htr;clear htr hset hT h0 acd;by_cases h32:s.size≤32
  ·have q1:¬(32:Int)<(s.size:Int):=by omega
   by_cases h97:x0<97
   ·have q2:(x0:Int)<97:=by omega
    rw[show decide (97≤x0∧x0≤122)=false from decide_eq_false aY,Bool.and_false,afv];clear h97 h32;go_enter Tryz.func199,Tryz.ntmps199;go_wp2_with fail
    go_ret;exact⟨rfl,hb0⟩
   ·have q2:¬(x0:Int)<97:=by omega
    by_cases h122:122<x0
    ·have q3:(122:Int)<(x0:Int):=by omega
     rw[show decide (97≤x0∧x0≤122)=false from decide_eq_false aY,Bool.and_false,afv];clear h97 h32 h122;go_enter Tryz.func199,Tryz.ntmps199;go_wp2_with fail
     go_ret;exact⟨rfl,hb0⟩
    ·have q3:¬(122:Int)<(x0:Int):=by omega
     rw[show decide (97≤x0∧x0≤122)=true from decide_eq_true aY,decide_eq_true h32,bT,bT];clear h97 h32 h122;go_enter Tryz.func199,Tryz.ntmps199;go_wp2_with(go_at_call 232;(with_reducible refine(HTR.out _).mono ?_);rintro r w2⟨rfl,d2⟩)
     go_ret;exact⟨rfl,d2⟩
  ·have q1:(32:Int)<(s.size:Int):=by omega
   rw[decide_eq_false h32,afv,afv];clear h32;go_enter Tryz.func199,Tryz.ntmps199;go_wp2_with fail
   go_ret;exact⟨rfl,hb0⟩
def jX(r:Nat):Bool:=decide (r=32)||decide (r=9)
theorem rA{r:Nat}(h:128≤r):jX r=false:=by
 unfold jX;rw[decide_eq_false aY,decide_eq_false aY];rfl
theorem yn(c:UInt8):blank c=jX c.toNat:=by
 unfold blank jX;have e1:(c=32)↔c.toNat=32:=⟨fun h=>by rw[h];rfl,fun h=>UInt8.toNat_inj.1 h⟩;have e2:(c=9)↔c.toNat=9:=⟨fun h=>by rw[h];rfl,fun h=>UInt8.toNat_inj.1 h⟩;simp[e1,e2]
theorem pZ(s:ByteArray)(i:Nat):s.get! i=s.data.toList.getD i 0:=by
 show s.data[i]! =_;rw[aB,Array.getElem?_toList,Array.getElem!_eq_getD,Array.getD_eq_getD_getElem?];rfl
theorem zp(s:ByteArray)(pos:Nat)(h:pos<s.size):((s.data.toList.getD pos 0).toNat<128→(Utf8.decode s pos)=((s.data.toList.getD pos 0).toNat,1))∧(128≤(s.data.toList.getD pos 0).toNat→128≤(Utf8.decode s pos).1)∧1≤(Utf8.decode s pos).2∧pos+(Utf8.decode s pos).2≤s.size∧∀j,0<j→j<(Utf8.decode s pos).2→128≤(s.data.toList.getD (pos+j) 0).toNat:=by
 rw[Lib.decode_at,pZ,pZ,pZ,pZ];generalize(s.data.toList.getD pos 0).toNat=b0;generalize h1:(s.data.toList.getD (pos+1) 0).toNat=b1;generalize h2:(s.data.toList.getD (pos+2) 0).toNat=b2;generalize h3:(s.data.toList.getD (pos+3) 0).toNat=b3;rcases Lib.decodeN_shape (s.size-pos) b0 b1 b2 b3 with⟨a,e⟩|⟨a,b,c,d,e⟩|⟨a,b,c,d,f,g,e⟩|⟨a,b,c,d,f,g,k,e⟩|e
 ·rw[e];exact⟨fun _=>rfl,fun _=>by simp only;omega,Nat.le_refl _,by simp only;omega,fun j h0 hj=>by simp only at hj;omega⟩
 ·rw[e];refine⟨fun _=>by omega,fun _=>d,by simp only;omega,by simp only;omega,fun j h0 hj=>?_⟩;simp only at hj;obtain rfl:j=1:=by omega
  rw[h1];omega
 ·rw[e];refine⟨fun _=>by omega,fun _=>by simp only;omega,by simp only;omega,by simp only;omega,fun j h0 hj=>?_⟩;simp only at hj;have:j=1∨j=2:=by omega
  rcases this with rfl|rfl
  ·rw[h1];omega
  ·rw[h2];omega
 ·rw[e];refine⟨fun _=>by omega,fun _=>by simp only;omega,by simp only;omega,by simp only;omega,fun j h0 hj=>?_⟩;simp only at hj;have:j=1∨j=2∨j=3:=by omega
  rcases this with rfl|rfl|rfl
  ·rw[h1];omega
  ·rw[h2];omega
  ·rw[h3];omega
 ·rw[e];refine⟨fun hb=>?_,fun _=>by decide,by simp only;omega,by simp only;omega,fun j h0 hj=>by simp only at hj;omega⟩;rw[←e];simp[Lib.decodeN,hb]
def FO(L:List UInt8)(x:Nat×Nat):List UInt8:=(L.take x.2).drop x.1
def qb(L:List UInt8)(pos:Nat):Option Nat→List UInt8
 |none=>[]
 |some a=>(L.take pos).drop a
theorem sN(p:Nat→Bool)(s:ByteArray)(f pos:Nat)(acc:List (Nat×Nat)):Lib.spansFromP p s (f+1) pos none acc=if pos<s.size then(if p (Utf8.decode s pos).1=true then Lib.spansFromP p s f (pos+(Utf8.decode s pos).2) none acc else Lib.spansFromP p s f (pos+(Utf8.decode s pos).2) (some pos) acc)else(acc,none):=rfl
theorem sO(p:Nat→Bool)(s:ByteArray)(f pos a:Nat)(acc:List (Nat×Nat)):Lib.spansFromP p s (f+1) pos (some a) acc=if pos<s.size then(if p (Utf8.decode s pos).1=true then Lib.spansFromP p s f (pos+(Utf8.decode s pos).2) none (acc++[(a,pos)])else Lib.spansFromP p s f (pos+(Utf8.decode s pos).2) (some a) acc)else(acc,some a):=rfl
theorem zq(s:ByteArray):∀(f pos:Nat)(st:Option Nat)(acc:List (Nat×Nat)),s.size≤pos+f→pos≤s.size→(∀a,st=some a→a<pos)→(Lib.closeSpans s (Lib.spansFromP jX s f pos st acc)).map (FO s.data.toList)=acc.map (FO s.data.toList)++fieldsGo (qb s.data.toList pos st) (s.data.toList.drop pos):=by
 have hlen:s.data.toList.length=s.size:=by rw[mL];rfl
 have fin:∀(pos:Nat)(st:Option Nat)(acc:List (Nat×Nat)),pos=s.size→(∀a,st=some a→a<pos)→(Lib.closeSpans s (acc,st)).map (FO s.data.toList)=acc.map (FO s.data.toList)++fieldsGo (qb s.data.toList pos st) (s.data.toList.drop pos):=by
  intro pos st acc hp hst;rw[afu aY];cases st with
  |none=>simp[Lib.closeSpans,qb,fieldsGo]
  |some a=>
   have ha:=hst a rfl;have hne:qb s.data.toList pos (some a)≠[]:=by
    intro e;have:=congrArg List.length e;simp[qb]at this;omega
   rw[fieldsGo,if_neg hne];simp[Lib.closeSpans,FO,qb,hp]
 intro f
 induction f with
 |zero=>
  intro pos st acc hf hp hst;exact fin pos st acc aY hst
 |succ f ih=>
  intro pos st acc hf hp hst;by_cases hlt:pos<s.size
  ·obtain⟨f1,f2,f3,f4,f5⟩:=zp s pos hlt;have hget:∀i(hi:i<s.data.toList.length),s.data.toList.getD i 0=s.data.toList[i]:=fun i hi=>by rw[aB,ag hi];rfl
   by_cases hb:jX (Utf8.decode s pos).1=true
   ·have h128:(s.data.toList.getD pos 0).toNat<128:=by
     rcases Nat.lt_or_ge (s.data.toList.getD pos 0).toNat 128 with h|h
     ·exact h
     ·rw[rA (f2 h)]at hb;cases hb
    have e:=f1 h128;have hb0:=hb;rw[e]at hb;simp only at hb;have hd:s.data.toList.drop pos=s.data.toList[pos]::s.data.toList.drop (pos+1):=bP aY;have hbl:blank s.data.toList[pos]=true:=by rw[yn,←hget pos aY];exact hb
    cases st with
    |none=>
     rw[sN,if_pos hlt,if_pos hb0,e];simp only;rw[ih _ _ _ aY aY (fun a h=>by cases h),hd]
     conv=>rhs;rw[qb,fieldsGo,if_pos hbl,if_pos rfl]
     rfl
    |some a=>
     have ha:=hst a rfl;have hne:qb s.data.toList pos (some a)≠[]:=by
      intro e;have:=congrArg List.length e;simp[qb]at this;omega
     rw[sO,if_pos hlt,if_pos hb0,e];simp only;rw[ih _ _ _ aY aY (fun a h=>by cases h),hd]
     conv=>rhs;rw[fieldsGo,if_pos hbl,if_neg hne]
     rw[List.map_append,aZ];rfl
   ·have hb0:=hb;generalize hK:(Utf8.decode s pos).2=K at f3 f4 f5;have seg:∀c∈(s.data.toList.drop pos).take K,blank c=false:=by
     intro c hc;obtain⟨j,hj,rfl⟩:=List.getElem_of_mem hc;rw[ab6,Z5]at hj;rw[List.getElem_take,List.getElem_drop,yn,←hget (pos+j) aY];by_cases h0:j=0
     ·subst h0;rw[Nat.add_zero];rcases Nat.lt_or_ge (s.data.toList.getD pos 0).toNat 128 with h|h
      ·have:=f1 h;rw[this]at hb;simpa using hb
      ·exact rA h
     ·exact rA (f5 j aY aY)
    have hd:s.data.toList.drop pos=(s.data.toList.drop pos).take K++s.data.toList.drop (pos+K):=by
     rw[←List.drop_drop];exact(List.take_append_drop K _).symm
    have cur:∀a,a≤pos→(s.data.toList.take (pos+K)).drop a=(s.data.toList.take pos).drop a++(s.data.toList.drop pos).take K:=by
     intro a ha;rw[List.take_add,List.drop_append_of_le_length (by rw[ab6];omega)]
    cases st with
    |none=>
     rw[sN,if_pos hlt,if_neg hb0,hK];rw[ih _ _ _ aY aY (fun a h=>by injection h with h;omega)]
     conv=>rhs;rw[hd,nc _ _ _ seg]
     congr 2;rw[qb,qb,cur pos (Nat.le_refl _),af6,afu (by rw[ab6];omega),af6]
    |some a=>
     have ha:=hst a rfl;rw[sO,if_pos hlt,if_neg hb0,hK];rw[ih _ _ _ aY aY (fun b h=>by injection h with h;omega)]
     conv=>rhs;rw[hd,nc _ _ _ seg]
     congr 2;rw[qb,qb,cur a aY]
  ·have hx:Lib.spansFromP jX s (f+1) pos st acc=(acc,st):=Lib.spansFromP_end _ _ _ _ _ _ hlt;rw[hx];exact fin pos st acc aY hst
theorem FP(s:ByteArray):Lib.goFieldsP jX s=(fieldsB s.data.toList).map iF:=by
 have h:=zq s s.size 0 none [] aY aY (fun a h=>by cases h);rw[List.map_nil,af6,List.drop_zero]at h;unfold fieldsB;rw[show qb s.data.toList 0 none=[]from rfl]at h;rw[←h,List.map_map];unfold Lib.goFieldsP Lib.spansOfP;apply List.map_congr_left;intro x _;show s.extract x.1 x.2=iF (FO s.data.toList x);unfold iF FO;apply ago;rw[ByteArray.data_extract];apply Array.ext';rw[Array.toList_extract];simp[List.drop_take]
def Zi(base B:Nat)(l:List UInt8)(r:Ending):Prop:=(∃n:Nat,num1 base B l=some n∧r=.returned (.tuple #[.int .u64 n,.nilIface]))∨(num1 base B l=none∧∃(n:Nat)(tp:TypeId)(p:Value),n<18446744073709551616∧r=.returned (.tuple #[.int .u64 n,.iface tp p]))
theorem aad(c:UInt8):dval 10 c=if 48≤c.toNat∧c.toNat≤57 then some (c.toNat-48)else none:=by
 unfold dval;split
 ·rw[if_pos aY]
 ·split
  ·rw[if_neg aY]
  ·split
   ·rw[if_neg aY]
   ·rfl
theorem me{dv:UInt8→Option Nat}{base B acc:Nat}{l:List UInt8}(hb:1≤base)(h:B≤acc):(mY dv base acc l).bind (fun n=>if n<B then some n else none)=none:=by
 cases e:mY dv base acc l with
 |none=>rfl
 |some n=>
  have:=VE dv base hb l acc n e;simp only[agv];rw[if_neg aY]
theorem aae{M:Nat}(hM:M<18446744073709551616):∀(l:List UInt8)(acc:Nat),acc≤M→(match Lib.parseUintM M acc l with
 | .ok u=>(mY (dval 10) 10 acc l).bind (fun n=>if n<M+1 then some n else none)=some u
 |_=>(mY (dval 10) 10 acc l).bind (fun n=>if n<M+1 then some n else none)=none):=by
 intro l
 induction l with
 |nil=>intro acc h;simp only[Lib.parseUintM,mY,agv];rw[if_pos aY]
 |cons c r ih=>
  intro acc h;unfold Lib.parseUintM mY;rw[aad];by_cases hd:48≤c.toNat∧c.toNat≤57
  ·rw[if_pos hd,if_pos hd];simp only;by_cases hc:1844674407370955162≤acc
   ·rw[if_pos hc];exact me aI (by omega)
   ·rw[if_neg hc];by_cases hm:M<acc*10+(c.toNat-48)
    ·rw[if_pos hm];exact me aI (by omega)
    ·rw[if_neg hm];exact ih _ (by omega)
  ·rw[if_neg hd,if_neg hd];rfl
theorem FQ{B:Nat}(hB:B≤64)(l:List UInt8):(match Lib.parseUintB B l with
 | .ok u=>num1 10 (2^B) l=some u
 |_=>num1 10 (2^B) l=none):=by
 have hp:0<2^B:=Nat.pow_pos aI;have hl:2^B≤2^64:=Nat.pow_le_pow_right aI hB;unfold Lib.parseUintB num1;by_cases h:l=[]
 ·rw[if_pos h,if_pos h]
 ·rw[if_neg h,if_neg h];have:=aae (M:=2^B-1) aY l 0 aY;rw[show 2^B-1+1=2^B by omega]at this;exact this
structure Env(w:World):Prop where
 mx:∃m:Int,w.cell? ⟨2,0,none⟩=some (.int .i64 m)
 pow:Lib.TabIs ai w "internal/strconv.uint64pow10" .u64 Lib.pow10Tab
 db:w.cell? ⟨6,15,none⟩=some (.int .u8 4)
 es:∃(tp:TypeId)(p:Value),w.cell? ⟨7,0,none⟩=some (.iface tp p)
 er:∃(tp:TypeId)(p:Value),w.cell? ⟨8,0,none⟩=some (.iface tp p)
theorem Env.below{w w':World}(h:Env w)(hb:Below w.heap.size w w'):Env w':=by
 have c:∀{i o:Nat}{v:Value},w.cell? ⟨i,o,none⟩=some v→w'.cell? ⟨i,o,none⟩=some v:=fun{i o v}hv=>(hb.cell (p:=⟨i,o,none⟩) (World.block_lt_of_cell? w _ hv)).trans hv
 obtain⟨m,hm⟩:=h.mx;obtain⟨t1,p1,h1⟩:=h.es;obtain⟨t2,p2,h2⟩:=h.er;exact⟨⟨m,c hm⟩,Lib.tabBelow_of_tabIs h.pow w' hb,c h.db,⟨t1,p1,c h1⟩,⟨t2,p2,c h2⟩⟩
def ni(c:Nat):Nat:=c|||32
theorem PT(c:Nat)(h:c<256):ni c<256:=Nat.or_lt_two_pow (n:=8) h (by decide)
theorem FR:∀c:Fin 256,¬(48≤c.1∧c.1≤57)→dval 16 (agq c.1)=if 97≤ni c.1∧ni c.1≤102 then some (ni c.1-97+10)else none:=by decide+kernel
theorem CH(c:UInt8)(h:¬(48≤c.toNat∧c.toNat≤57)):dval 16 c=if 97≤ni c.toNat∧ni c.toNat≤102 then some (ni c.toNat-97+10)else none:=by
 have:=FR ⟨c.toNat,c.toNat_lt⟩ h;rwa [UInt8.ofNat_toNat]at this
theorem FT(c:UInt8)(h:48≤c.toNat∧c.toNat≤57):dval 16 c=some (c.toNat-48):=by
 unfold dval;rw[if_pos h,if_pos aY]
theorem Ln(c:Nat)(hc:c<256)(w:World):Calls ai 350 #[.int .u8 c] w fun e w'=>e=.returned (.int .u8 (ni c:Int))∧w=w':=by
 have e1:bits .or .u8 (c:Int) 32=(ni c:Int):=u8_or_nat c 32 hc aI;go_enter Tryz.func350,Tryz.ntmps350;go_wp2_with fail
 go_ret;exact⟨rfl,rfl⟩
def tJ(l:List UInt8)(r:Ending):Prop:=(∃n:Nat,num1 16 18446744073709551616 l=some n∧r=.returned (.tuple #[.int .u64 n,.nilIface]))∨(num1 16 18446744073709551616 l=none∧((r=.returned (.tuple #[.int .u64 0,.iface 400 (.int .i64 2)]))∨(r=.returned (.tuple #[.int .u64 18446744073709551615,.iface 400 (.int .i64 1)]))))
theorem tJ.bad{l:List UInt8}(h:num1 16 18446744073709551616 l=none):tJ l (.returned (.tuple #[.int .u64 0,.iface 400 (.int .i64 2)])):=Or.inr ⟨h,Or.inl rfl⟩
theorem tJ.big{l:List UInt8}(h:num1 16 18446744073709551616 l=none):tJ l (.returned (.tuple #[.int .u64 18446744073709551615,.iface 400 (.int .i64 1)])):=Or.inr ⟨h,Or.inr rfl⟩
def jH(acc:Nat)(l:List UInt8):Option Nat:=(mY (dval 16) 16 acc l).bind fun n=>if n<18446744073709551616 then some n else none
theorem yo{acc:Nat}{l:List UInt8}(h:18446744073709551616≤acc):jH acc l=none:=me aI h
theorem FU(acc:Nat)(c:UInt8)(r:List UInt8):jH acc (c::r)=match dval 16 c with
 |none=>none
 |some d=>jH (acc*16+d) r:=by
 unfold jH
 conv=>lhs;arg 1;unfold mY
 cases dval 16 c<;>rfl
theorem VL(t:ByteArray)(hmax:t.size≤9223372036854775806)(w:World):Calls ai 340 #[.string t,.int .i64 16,.int .i64 64] w fun e w'=>tJ t.data.toList e∧Below w.heap.size w w':=by
 by_cases hne:t.size=0
 ·have he:t=⟨#[]⟩:=by
   apply ago;exact Array.eq_empty_of_size_eq_zero hne
  rw[he];have hb:=aK w.heap.size w;go_enter Tryz.func340,Tryz.ntmps340;go_wp2_with fail
  go_ret2;exact⟨tJ.bad rfl,hb⟩
 have hemp:t.toList.isEmpty=false:=by
  rw[←decide_eq_emptyBytes];exact decide_eq_false (fun h=>hne (by rw[h];rfl))
 have hcv:=Lib.run_convert_string_bytes (P:=ai) w 9 89 5 t Tryz.underlying9 Tryz.underlying89 Tryz.underlying5;have hB:∀j,j<t.size→(Lib.bytesWorld w 5 t).cell? ⟨w.heap.size,j,none⟩=some (.int .u8 (t.data.toList.getD j 0).toNat):=fun j hj=>Lib.bytesWorld_cell w 5 t j hj
 have hbl:=Lib.bytesWorld_below w 5 t;obtain⟨W1,hW1⟩:∃W1,W1=Lib.bytesWorld w 5 t:=⟨_,rfl⟩;rw[←hW1]at hcv hB hbl;clear hW1;have Hbl:=ae hbl;clear hbl;obtain⟨bs,hL⟩:∃bs,bs=t.data.toList:=⟨_,rfl⟩;have hLn:bs.length=t.size:=by rw[hL,Lib.size_eq]
 rw[←hL]at hB⊢;have hbs:bs≠[]:=fun e=>hne (by rw[←hLn,e];rfl)
 clear hL;have hnum:num1 16 18446744073709551616 bs=jH 0 bs:=by
  unfold num1 jH;rw[if_neg hbs]
 obtain⟨FV,HBc,HLn⟩:=bO hnum hB hLn;clear hnum hB hLn hbs hne;have hmv:IntKind.u64.wrap (IntKind.u64.wrap 18446744073709551616-1)=18446744073709551615:=by
  rw[kR,kR];decide
 go_enter Tryz.func340,Tryz.ntmps340;go_wp2_with fail
 go_loop [12,13,101] (fun vu vn vi=>∃(k acc:Nat)(a:Int),vu=.bool false∧vn=.int .u64 a∧vi=.int .i64 k∧k≤t.size∧Hid (a=(acc:Int)∧acc<18446744073709551616∧jH 0 bs=jH acc (bs.drop k)))
  (fun _ _ vi=>t.size-(intOf vi).toNat)
 case atStart=>exact⟨0,0,0,rfl,rfl,rfl,by omega,rfl,by omega,rfl⟩
 case round=>
  obtain⟨k,acc,a,rfl,rfl,rfl,hk,hh⟩:=hrel;obtain⟨ha,hacc,hdec⟩:=hh.out;clear hh;have a0:0≤a:=by omega
  have a1:a<18446744073709551616:=by omega
  by_cases hkn:k<t.size
  ·have hkl:k<bs.length:=by have:=HLn.out;omega
   have hc:=HBc.out k hkn;have hdrop:bs.drop k=bs[k]'hkl::bs.drop (k+1):=bP hkl;have hget:bs.getD k 0=bs[k]'hkl:=by simp[List.getD,ag hkl]
   rw[hdrop,FU]at hdec;rw[hget]at hc;generalize bs[k]'hkl=c at hc hdec;have hc256:c.toNat<256:=c.toNat_lt;have hdd:=FT c;have hdl:=CH c;have Ju:=ae (Ln c.toNat hc256 W1);have Zj:=PT c.toNat hc256;have h95:c.toNat=95→ni c.toNat=127:=fun h=>by rw[h];rfl
   generalize ni c.toNat=m at hdl Ju Zj h95;generalize dval 16 c=D at hdec hdd hdl;generalize c.toNat=x at hc hc256 hdd hdl Ju h95;clear hdrop hget;by_cases hdig:48≤x∧x≤57
   ·obtain⟨hd0,hd1⟩:=hdig;rw[hdd ⟨hd0,hd1⟩]at hdec;simp only at hdec;clear hdd hdl;by_cases hcut:1152921504606846976≤acc
    ·have hF:jH 0 bs=none:=by rw[hdec];exact yo (by omega)
     have icut:1152921504606846976≤a:=by omega
     have HF:=ae hF;clear hcut hacc hF ha hdec;go_wp2_with fail
     go_ret2;exact⟨tJ.big (FV.out.trans HF.out),Hbl.out⟩
    ·have HN:Hid (a*16+((x:Int)-48)=((acc*16+(x-48):Nat):Int)∧acc*16+(x-48)<18446744073709551616∧jH 0 bs=jH (acc*16+(x-48)) (bs.drop (k+1))):=ae ⟨by omega,by omega,hdec⟩;have icut:a<1152921504606846976:=by omega
     have iov:a*16+((x:Int)-48)<18446744073709551616:=by omega
     clear hcut hacc hdec ha;go_wp2_with fail
     refine⟨⟨k+1,acc*16+(x-48),a*16+((x:Int)-48),rfl,(by first|rfl|(congr 1;omega)),(by first|rfl|(congr 1;omega)),by omega,HN⟩,by simp[intOf];omega⟩
   ·rw[hdl hdig]at hdec;clear hdd hdl;by_cases hx95:x=95
    ·have ace:=h95 hx95;subst hx95;subst ace;rw[if_neg aY]at hdec;simp only at hdec;have HF:=ae hdec;have hl2:Calls ai 350 #[.int .u8 95] W1 fun e w'=>e=.returned (.int .u8 127)∧W1=w':=Ju.out
     have Hl2:=ae hl2;have hc2:W1.cell? ⟨w.heap.size,k,none⟩=some (.int .u8 95):=hc;clear hc hdec hacc ha hdig Zj hc256 h95 Ju hl2;go_wp2_with(go_at_call 350;(with_reducible refine Hl2.out.mono ?_);rintro e w'⟨rfl,rfl⟩)
     all_goals(go_ret2;exact⟨tJ.bad (FV.out.trans HF.out),Hbl.out⟩)
    ·have afE:((x:Int)==95)=false:=by simp;omega
     clear h95 hx95;by_cases hlet:97≤m∧m≤102
     ·rw[if_pos hlet]at hdec;simp only at hdec;obtain⟨hm0,hm1⟩:=hlet;have hm2:m≤122:=by omega
      by_cases hcut:1152921504606846976≤acc
      ·have hF:jH 0 bs=none:=by rw[hdec];exact yo (by omega)
       have icut:1152921504606846976≤a:=by omega
       have HF:=ae hF;clear hcut hacc hF ha hdec;go_wp2_with(go_at_call 350;(with_reducible refine(Ju.out).mono ?_);rintro e w'⟨rfl,rfl⟩)
       all_goals(go_ret2;exact⟨tJ.big (FV.out.trans HF.out),Hbl.out⟩)
      ·have HN:Hid (a*16+((m:Int)-97+10)=((acc*16+(m-97+10):Nat):Int)∧acc*16+(m-97+10)<18446744073709551616∧jH 0 bs=jH (acc*16+(m-97+10)) (bs.drop (k+1))):=ae ⟨by omega,by omega,hdec⟩;have icut:a<1152921504606846976:=by omega
       have iov:a*16+((m:Int)-97+10)<18446744073709551616:=by omega
       clear hcut hacc hdec ha;go_wp2_with(go_at_call 350;(with_reducible refine(Ju.out).mono ?_);rintro e w'⟨rfl,rfl⟩)
       all_goals exact⟨⟨k+1,acc*16+(m-97+10),a*16+((m:Int)-97+10),rfl,(by first|rfl|(congr 1;omega)),(by first|rfl|(congr 1;omega)),by omega,HN⟩,by simp[intOf];omega⟩
     ·rw[if_neg hlet]at hdec;simp only at hdec;have HF:=ae hdec;clear hdec hacc ha;by_cases hm0:97≤m
      ·by_cases hm1:m≤122
       ·have hm2:102<m:=by omega
        clear hlet;go_wp2_with(go_at_call 350;(with_reducible refine(Ju.out).mono ?_);rintro e w'⟨rfl,rfl⟩)
        all_goals(go_ret2;exact⟨tJ.bad (FV.out.trans HF.out),Hbl.out⟩)
       ·clear hlet;go_wp2_with(go_at_call 350;(with_reducible refine(Ju.out).mono ?_);rintro e w'⟨rfl,rfl⟩)
        all_goals(go_ret2;exact⟨tJ.bad (FV.out.trans HF.out),Hbl.out⟩)
      ·clear hlet;go_wp2_with(go_at_call 350;(with_reducible refine(Ju.out).mono ?_);rintro e w'⟨rfl,rfl⟩)
       all_goals(go_ret2;exact⟨tJ.bad (FV.out.trans HF.out),Hbl.out⟩)
  ·have hkk:k=t.size:=by omega
   subst hkk;have hF:jH 0 bs=some acc:=by
    rw[hdec,List.drop_eq_nil_of_le (by have:=HLn.out;omega)];unfold jH;simp only[mY,agv];rw[if_pos hacc]
   have HF:=ae hF;subst ha;clear hdec hacc a0 a1 hF;go_wp2_with fail
   go_ret2;exact⟨Or.inl ⟨acc,FV.out.trans HF.out,rfl⟩,Hbl.out⟩
def yp(base B:Nat)(l:List UInt8)(w:World)(r:Ending)(w':World):Prop:=Zi base B l r∧Below w.heap.size w w'
theorem zr{w:World}(env:Env w)(fn s:ByteArray)(base bits:Int)(hs:s.size≤281474976710656):Calls ai 341 #[.string fn,.string s,.int .i64 base,.int .i64 bits,.iface 400 (.int .i64 2)] w fun e w'=>(∃(tp:TypeId)(p:Value),e=.returned (.iface tp p))∧Below w.heap.size w w':=by
 obtain⟨tp,p,hv⟩:=env.es;have:=AnyPu.strconv_toError_syntax (P:=ai) (ρ:=Tryz.laysPu14_ren) {Tryz.laysPu14 with} fn s base bits (.iface tp p) w hs hv (Or.inr ⟨tp,p,rfl⟩);exact this.mono fun e w'⟨N,he,_,_,hb⟩=>⟨⟨_,_,he⟩,hb⟩
theorem CJ{w:World}(env:Env w)(fn s:ByteArray)(base bits:Int)(hs:s.size≤281474976710656):Calls ai 341 #[.string fn,.string s,.int .i64 base,.int .i64 bits,.iface 400 (.int .i64 1)] w fun e w'=>(∃(tp:TypeId)(p:Value),e=.returned (.iface tp p))∧Below w.heap.size w w':=by
 obtain⟨tp,p,hv⟩:=env.er;have:=AnyPu.strconv_toError_range (P:=ai) (ρ:=Tryz.laysPu14_ren) {Tryz.laysPu14 with} fn s base bits (.iface tp p) w hs hv (Or.inr ⟨tp,p,rfl⟩);exact this.mono fun e w'⟨N,he,_,_,hb⟩=>⟨⟨_,_,he⟩,hb⟩
theorem aep{w:World}(env:Env w)(t:ByteArray)(hs:t.size≤4000000):Calls ai 314 #[.string t,.int .i64 16,.int .i64 64] w (yp 16 18446744073709551616 t.data.toList w):=by
 have H:=ae (VL t aY w);have mU:=ae env;clear env;obtain⟨bs,hL⟩:∃bs,bs=t.data.toList:=⟨_,rfl⟩;rw[←hL]at H⊢;clear hL;go_enter Tryz.func314,Tryz.ntmps314;go_wp2_with fail
 go_at_call 340;refine H.out.mono ?_;rintro e w1⟨⟨n,hn,rfl⟩|⟨hn,rfl|rfl⟩,hb⟩
 ·obtain⟨Hn,Hb⟩:=aQ hn hb;clear hn hb;go_wp2_with fail
  go_ret2;exact⟨Or.inl ⟨n,Hn.out,rfl⟩,Hb.out⟩
 ·obtain⟨Hn,Hb⟩:=aQ hn hb;clear hn hb;have HT:=ae (zr (mU.out.below Hb.out) ⟨#[80,97,114,115,101,85,105,110,116]⟩ t 16 64 aY);go_wp2_with(go_at_call 341;(with_reducible refine HT.out.mono ?_);rintro e w2⟨⟨tp,p,rfl⟩,hb2⟩;have Hb2:=bm Hb hb2;clear hb2)
  go_ret2;exact⟨Or.inr ⟨Hn.out,0,tp,p,by decide,rfl⟩,Hb2.out⟩
 ·obtain⟨Hn,Hb⟩:=aQ hn hb;clear hn hb;have HT:=ae (CJ (mU.out.below Hb.out) ⟨#[80,97,114,115,101,85,105,110,116]⟩ t 16 64 aY);go_wp2_with(go_at_call 341;(with_reducible refine HT.out.mono ?_);rintro e w2⟨⟨tp,p,rfl⟩,hb2⟩;have Hb2:=bm Hb hb2;clear hb2)
  go_ret2;exact⟨Or.inr ⟨Hn.out,18446744073709551615,tp,p,by decide,rfl⟩,Hb2.out⟩
theorem VM{w:World}(env:Env w)(t:ByteArray)(hs:t.size≤4000000):Calls ai 314 #[.string t,.int .i64 10,.int .i64 64] w (yp 10 18446744073709551616 t.data.toList w):=by
 have hn:=FQ (B:=64) aI t.data.toList;rcases h:Lib.parseUintB 64 t.data.toList with u|_|_
 ·rw[h]at hn;refine(Tryz.strconv_ParseUint_10_at64_ok t aY u h w).mono ?_;rintro e w'⟨rfl,hw⟩;refine⟨Or.inl ⟨u,hn,rfl⟩,?_⟩;rcases hw with rfl|rfl
  ·exact aK _ _
  ·exact Lib.bytesWorld_below _ _ _
 ·rw[h]at hn;obtain⟨tp,p,hv⟩:=env.es;refine(Any.strconv_ParseUint_10_at64_syntax Tryz.laysPu14 t aY h (.iface tp p) w hv (Or.inr ⟨tp,p,rfl⟩)).mono ?_;rintro e w'⟨N,rfl,_,_,hb⟩;exact⟨Or.inr ⟨hn,0,_,_,by decide,rfl⟩,hb⟩
 ·rw[h]at hn;obtain⟨tp,p,hv⟩:=env.er;refine(Tryz.strconv_ParseUint_10_at64_range t aY h (.iface tp p) w hv (Or.inr ⟨tp,p,rfl⟩)).mono ?_;rintro e w'⟨N,rfl,_,_,hb⟩;exact⟨Or.inr ⟨hn,18446744073709551615,_,_,by decide,rfl⟩,hb⟩
theorem aaf{w:World}(env:Env w)(t:ByteArray)(hs:t.size≤4000000):Calls ai 314 #[.string t,.int .i64 10,.int .i64 8] w (yp 10 256 t.data.toList w):=by
 have hn:=FQ (B:=8) aI t.data.toList;rcases h:Lib.parseUintB 8 t.data.toList with u|_|_
 ·rw[h]at hn;refine(Tryz.strconv_ParseUint_10_at8_ok t aY u h w).mono ?_;rintro e w'⟨rfl,hw⟩;refine⟨Or.inl ⟨u,hn,rfl⟩,?_⟩;rcases hw with rfl|rfl
  ·exact aK _ _
  ·exact Lib.bytesWorld_below _ _ _
 ·rw[h]at hn;obtain⟨tp,p,hv⟩:=env.es;refine(Any.strconv_ParseUint_10_at8_syntax Tryz.laysPu14 t aY h (.iface tp p) w hv (Or.inr ⟨tp,p,rfl⟩)).mono ?_;rintro e w'⟨N,rfl,_,_,hb⟩;exact⟨Or.inr ⟨hn,0,_,_,by decide,rfl⟩,hb⟩
 ·rw[h]at hn;obtain⟨tp,p,hv⟩:=env.er;refine(Tryz.strconv_ParseUint_10_at8_range t aY h (.iface tp p) w hv (Or.inr ⟨tp,p,rfl⟩)).mono ?_;rintro e w'⟨N,rfl,_,_,hb⟩;exact⟨Or.inr ⟨hn,255,_,_,by decide,rfl⟩,hb⟩
end Go.Proofs.YtdfnhljccdoncaaGreatDoor
