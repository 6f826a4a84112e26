/- Joined out of: NtC NtD MkA MkB NmA PeB NwB NwS. -/
import Derived.Test.YtdfnhljccdoncaaGreatDoorNan
set_option linter.unusedVariables false
set_option linter.unusedSimpArgs false
set_option maxHeartbeats 16000000
set_option maxRecDepth 100000
open Bool renaming and_eq_true→bg,eq_iff_iff→kq
open Go.ByteArray renaming toList_eq→cM
open Go.Lib renaming hid→ae
open Go.Proofs.Tryz renaming prog→ai
open Go.Result renaming andThen_ok→tH
open Go.RowKit renaming Hid→af
open Go.Sem renaming run_bind→agr
open List renaming getElem?_eq_getElem→ag,length_map→ay,getD_eq_getElem?_getD→aB,range→aD,getElem_mem→bC,getElem?_map→bR,length_cons→cm,mem_cons_of_mem→cA,mem_cons_self→ei
open Nat renaming le_trans→ax
namespace Go.Proofs.YtdfnhljccdoncaaGreatDoor
theorem Nv:∀a:List UInt8,Op.bytesLess a a=false:=by
 intro a
 induction a with
 |nil=>rfl
 |cons x r ih=>
  unfold Op.bytesLess;rw[ih];simp
theorem zZ(x y:UInt8)(a b:List UInt8):Op.bytesLess (x::a) (y::b)=true↔x<y∨(x=y∧Op.bytesLess a b=true):=by
 conv=>lhs;unfold Op.bytesLess
 simp
theorem RX:∀a b c:List UInt8,Op.bytesLess a b=true→Op.bytesLess b c=true→Op.bytesLess a c=true:=by
 intro a
 induction a with
 |nil=>
  intro b c h1 h2;cases c with
  |nil=>cases b<;>simp[Op.bytesLess]at h2
  |cons z c=>rfl
 |cons x a ih=>
  intro b c h1 h2;cases b with
  |nil=>simp[Op.bytesLess]at h1
  |cons y b=>
   cases c with
   |nil=>simp[Op.bytesLess]at h2
   |cons z c=>
    rw[zZ]at h1 h2⊢;rcases h1 with h1|⟨rfl,h1⟩
    ·rcases h2 with h2|⟨rfl,h2⟩
     ·exact Or.inl (UInt8.lt_trans h1 h2)
     ·exact Or.inl h1
    ·rcases h2 with h2|⟨rfl,h2⟩
     ·exact Or.inl h2
     ·exact Or.inr ⟨rfl,ih b c h1 h2⟩
theorem RZ:∀a b:List UInt8,a=b∨Op.bytesLess a b=true∨Op.bytesLess b a=true:=by
 intro a
 induction a with
 |nil=>intro b;cases b with
  |nil=>exact Or.inl rfl
  |cons y b=>exact Or.inr (Or.inl rfl)
 |cons x a ih=>
  intro b;cases b with
  |nil=>exact Or.inr (Or.inr rfl)
  |cons y b=>
   rw[zZ,zZ];by_cases hxy:x<y
   ·exact Or.inr (Or.inl (Or.inl hxy))
   ·by_cases hyx:y<x
    ·exact Or.inr (Or.inr (Or.inl hyx))
    ·have e:x=y:=UInt8.le_antisymm (UInt8.not_lt.1 hyx) (UInt8.not_lt.1 hxy);subst e;rcases ih b with rfl|h|h
     ·exact Or.inl rfl
     ·exact Or.inr (Or.inl (Or.inr ⟨rfl,h⟩))
     ·exact Or.inr (Or.inr (Or.inr ⟨rfl,h⟩))
theorem jc(a:ByteArray):qB a a=false:=Nv _
theorem lF{a b c:ByteArray}(h1:qB a b=true)(h2:qB b c=true):qB a c=true:=RX _ _ _ h1 h2
theorem toList_inj{a b:ByteArray}(h:a.toList=b.toList):a=b:=by
 rw[cM,cM]at h;obtain⟨⟨a⟩⟩:=a;obtain⟨⟨b⟩⟩:=b;simp only at h;rw[h]
theorem rR(a b:ByteArray):a=b∨qB a b=true∨qB b a=true:=by
 rcases RZ a.toList b.toList with h|h|h
 ·exact Or.inl (toList_inj h)
 ·exact Or.inr (Or.inl h)
 ·exact Or.inr (Or.inr h)
theorem Nw{a b:ByteArray}(h:qB a b=true):qB b a=false:=by
 cases h2:qB b a with
 |false=>rfl
 |true=>have:=lF h h2;rw[jc]at this;cases this
theorem vL{α:Type}(lt:α→α→Bool)(htr:∀a b c,lt a b=true→lt b c=true→lt a c=true):∀l:List α,cC lt l=true↔l.Pairwise fun x y=>lt x y=true:=by
 intro l
 induction l with
 |nil=>exact⟨fun _=>List.Pairwise.nil,fun _=>rfl⟩
 |cons x r ih=>
  cases r with
  |nil=>exact⟨fun _=>List.pairwise_singleton _ _,fun _=>rfl⟩
  |cons y r=>
   constructor
   ·intro h;rw[cC,bg]at h;have h2:=ih.1 h.2;refine List.pairwise_cons.2 ⟨fun z hz=>?_,h2⟩;rcases List.mem_cons.1 hz with rfl|hz
    ·exact h.1
    ·exact htr _ _ _ h.1 ((List.pairwise_cons.1 h2).1 z hz)
   ·intro h;obtain⟨h1,h2⟩:=List.pairwise_cons.1 h;rw[cC,bg];exact⟨h1 y (ei ..),ih.2 h2⟩
theorem JO(a b c:Pr)(h1:ef a b=true)(h2:ef b c=true):ef a c=true:=lF h1 h2
theorem tq{l:List Pr}:cC ef l=true↔l.Pairwise fun x y=>ef x y=true:=vL ef JO l
theorem yE:∀(l m:List Pr),l.Pairwise (fun x y=>ef x y=true)→m.Pairwise (fun x y=>ef x y=true)→(∀x,x∈l↔x∈m)→l=m:=by
 intro l
 induction l with
 |nil=>
  intro m _ _ h;cases m with
  |nil=>rfl
  |cons y m=>have:=(h y).2 (ei ..);cases this
 |cons x l ih=>
  intro m hl hm h;cases m with
  |nil=>have:=(h x).1 (ei ..);cases this
  |cons y m=>
   obtain⟨hx,hl'⟩:=List.pairwise_cons.1 hl;obtain⟨hy,hm'⟩:=List.pairwise_cons.1 hm;clear hl hm;have e:x=y:=by
    rcases List.mem_cons.1 ((h x).1 (ei ..))with e|h1
    ·exact e
    ·rcases List.mem_cons.1 ((h y).2 (ei ..))with e|h2
     ·exact e.symm
     ·have h3:=hy x h1;have h4:=hx y h2;have:=Nw h3;have h5:ef x y=false:=this;rw[h4]at h5;cases h5
   subst e;rw[ih m hl' hm' fun z=>?_];constructor
   ·intro hz;rcases List.mem_cons.1 ((h z).1 (cA x hz))with e|h1
    ·subst e;have:=hx z hz;have e2:ef z z=false:=jc _;rw[e2]at this;cases this
    ·exact h1
   ·intro hz;rcases List.mem_cons.1 ((h z).2 (cA x hz))with e|h1
    ·subst e;have:=hy z hz;have e2:ef z z=false:=jc _;rw[e2]at this;cases this
    ·exact h1
theorem Ae{l:List Pr}(h:l.Pairwise fun x y=>ef x y=true):∀{x y:Pr},x∈l→y∈l→x.key=y.key→x=y:=by
 induction l with
 |nil=>intro x y hx;cases hx
 |cons z l ih=>
  intro x y hx hy e;obtain⟨hz,hl⟩:=List.pairwise_cons.1 h;have irr:∀u∈l,u.key≠z.key:=fun u hu e=>by
   have h1:qB z.key u.key=true:=hz u hu;rw[e,jc]at h1;cases h1
  rcases List.mem_cons.1 hx with e1|hx1
  ·rcases List.mem_cons.1 hy with e2|hy1
   ·rw[e1,e2]
   ·rw[e1]at e;exact absurd e.symm (irr y hy1)
  ·rcases List.mem_cons.1 hy with e2|hy1
   ·rw[e2]at e;exact absurd e (irr x hx1)
   ·exact ih hl hx1 hy1 e
theorem qD{l:List Pr}{k:ByteArray}{p:Pr}(h:mR l k=some p):p∈l∧p.key=k:=by
 unfold mR at h;exact⟨List.mem_of_find?_eq_some h,by simpa using List.find?_some h⟩
theorem uw{l:List Pr}{k:ByteArray}(h:mR l k=none):∀p∈l,p.key≠k:=by
 intro p hp e;unfold mR at h;have:=List.find?_eq_none.1 h p hp;simp[e]at this
theorem at_mem{l:List Pr}{p:Pr}(hp:p∈l):(mR l p.key).isSome=true:=by
 cases h:mR l p.key with
 |some q=>rfl
 |none=>exact absurd rfl (uw h p hp)
def iV(a:List Pr)(p:Pr):Bool:=match mR a p.key with
 |none=>true
 |some q=>decide (q≠p)
def dw(H:Mp→ByteArray)(a b:Mp):Dl:=⟨a.version,b.version,b.aJ.filter (iV a.aJ),(a.aJ.filter fun p=>(mR b.aJ p.key).isNone).map (·.key),decide (a.aF≠b.aF),if a.aF≠b.aF then b.aF else [],decide (a.policy≠b.policy),if a.policy≠b.policy then b.policy else⟨#[]⟩,H b⟩
def lG(H:Mp→ByteArray)(a b:Mp):Dl×Nat:=if(cJ a).2≠0 then(Dl.zero,(cJ a).2)else if(cJ b).2≠0 then(Dl.zero,(cJ b).2)else if b.version≤a.version then(Dl.zero,2)else(dw H a b,0)
def Hr(p:Pr):List Pr→List Pr
 |[]=>[p]
 |q::r=>if ef p q then p::q::r else q::Hr p r
def sortK(l:List Pr):List Pr:=l.foldr Hr []
def stays(d:Dl)(p:Pr):Bool:= !(d.gone.any fun k=>decide (k=p.key))&&(mR d.aM p.key).isNone
def cT(m:Mp)(d:Dl):Mp:=⟨d.version,sortK (m.aJ.filter (stays d)++d.aM),if d.ja then d.aF else m.aF,if d.i7 then d.policy else m.policy⟩
def iO(H:Mp→ByteArray)(m:Mp)(d:Dl):Mp×Nat:=if(cJ m).2≠0 then(Mp.zero,(cJ m).2)else if lD d=false then(Mp.zero,220)else if m.version≠d.base then(Mp.zero,223)else if(d.gone.all fun k=>(mR m.aJ k).isSome)=false then(Mp.zero,220)
 else if(cJ (cT m d)).2≠0 then(Mp.zero,(cJ (cT m d)).2)else if H (cT m d)≠d.hash then(Mp.zero,224)else(cT m d,0)
theorem DV(p:Pr):∀(l:List Pr)(x:Pr),x∈Hr p l↔x=p∨x∈l:=by
 intro l
 induction l with
 |nil=>intro x;unfold Hr;simp
 |cons q r ih=>
  intro x;unfold Hr;split
  ·exact List.mem_cons
  ·rw[List.mem_cons,ih,List.mem_cons];constructor
   ·rintro(h|h|h)
    ·exact Or.inr (Or.inl h)
    ·exact Or.inl h
    ·exact Or.inr (Or.inr h)
   ·rintro(h|h|h)
    ·exact Or.inr (Or.inl h)
    ·exact Or.inl h
    ·exact Or.inr (Or.inr h)
theorem oo(l:List Pr)(x:Pr):x∈sortK l↔x∈l:=by
 unfold sortK
 induction l with
 |nil=>exact Iff.rfl
 |cons p r ih=>rw[List.foldr_cons,DV,ih,List.mem_cons]
theorem DW(p:Pr):∀(l:List Pr),l.Pairwise (fun x y=>ef x y=true)→(∀q∈l,q.key≠p.key)→(Hr p l).Pairwise (fun x y=>ef x y=true):=by
 intro l
 induction l with
 |nil=>intro _ _;exact List.pairwise_singleton _ _
 |cons q r ih=>
  intro h hne;obtain⟨hq,hr⟩:=List.pairwise_cons.1 h;unfold Hr;split
  ·next hlt=>
   refine List.pairwise_cons.2 ⟨fun z hz=>?_,h⟩;rcases List.mem_cons.1 hz with rfl|hz
   ·exact hlt
   ·exact JO _ _ _ hlt (hq z hz)
  ·next hlt=>
   refine List.pairwise_cons.2 ⟨fun z hz=>?_,ih hr fun u hu=>hne u (cA q hu)⟩;rcases(DV p r z).1 hz with rfl|hz
   ·rcases rR z.key q.key with e|h1|h1
    ·exact absurd e.symm (hne q (ei ..))
    ·exact absurd h1 hlt
    ·exact h1
   ·exact hq z hz
theorem qE{l:List Pr}(h:l.Pairwise fun x y=>x.key≠y.key):(sortK l).Pairwise (fun x y=>ef x y=true):=by
 unfold sortK
 induction l with
 |nil=>exact List.Pairwise.nil
 |cons p r ih=>
  obtain⟨hp,hr⟩:=List.pairwise_cons.1 h;rw[List.foldr_cons];refine DW p _ (ih hr) fun q hq=>?_
  have:q∈r:=(oo r q).1 hq;exact(hp q this).symm
theorem Xl{l S:List Pr}(hd:l.Pairwise fun x y=>x.key≠y.key)(hp:S.Perm l)(hs:S.Pairwise fun x y=>ef y x=false):S=sortK l:=by
 refine yE _ _ ?_ (qE hd) fun x=>by rw[oo,hp.mem_iff]
 have hS:S.Pairwise fun x y=>x.key≠y.key:=(hp.pairwise_iff (fun{x y}h=>Ne.symm h)).2 hd
 have:=List.Pairwise.and hS hs;refine this.imp fun{x y}h=>?_
 rcases rR x.key y.key with e|h1|h1
 ·exact absurd e h.1
 ·exact h1
 ·have:ef y x=true:=h1;rw[h.2]at this;cases this
theorem kK{m:Mp}(h:(cJ m).2=0):ip m=true:=(vK h).1
theorem iu{m:Mp}(h:ip m=true):1≤m.version∧iN m.aJ=true∧jb m.aF=true∧kJ m.policy=true:=by
 unfold ip at h;simp only[bg,decide_eq_true_eq]at h;exact⟨h.1.1.1.1,h.1.1.1.2,h.1.1.2,h.1.2⟩
theorem iP{l:List Pr}(h:iN l=true):l.Pairwise (fun x y=>ef x y=true)∧l.length≤64∧∀p∈l,lC p=true:=by
 unfold iN at h;simp only[bg,decide_eq_true_eq]at h;exact⟨tq.1 h.2,h.1.1,fun p hp=>List.all_eq_true.1 h.1.2 p hp⟩
theorem Nx:kJ ⟨#[]⟩=true:=by decide+kernel
theorem distinct_keys{a:Mp}{d:Dl}(h1:a.aJ.Pairwise fun x y=>ef x y=true)(h2:d.aM.Pairwise fun x y=>ef x y=true):(a.aJ.filter (stays d)++d.aM).Pairwise fun x y=>x.key≠y.key:=by
 have ne:∀{x y:Pr},ef x y=true→x.key≠y.key:=fun{x y}h e=>by
  have h':qB x.key y.key=true:=h;rw[e,jc]at h';cases h'
 refine List.pairwise_append.2 ⟨(h1.filter _).imp fun h=>ne h,h2.imp fun h=>ne h,fun x hx y hy e=>?_⟩;have hs:=(List.mem_filter.1 hx).2;unfold stays at hs;simp only[bg]at hs;have:=uw (by simpa using hs.2:mR d.aM x.key=none) y hy;exact this e.symm
theorem Hu{H:Mp→ByteArray}{a b:Mp}(ha:a.aJ.Pairwise fun x y=>ef x y=true)(hb:b.aJ.Pairwise fun x y=>ef x y=true):sortK (a.aJ.filter (stays (dw H a b))++(dw H a b).aM)=b.aJ:=by
 have hset:(dw H a b).aM.Pairwise fun x y=>ef x y=true:=hb.filter _
 refine yE _ _ (qE (distinct_keys ha hset)) hb fun x=>?_
 rw[oo,List.mem_append];constructor
 ·rintro(hx|hx)
  ·obtain⟨hxa,hst⟩:=List.mem_filter.1 hx;unfold stays at hst;simp only[bg]at hst;obtain⟨h1,h2⟩:=hst;have hin:(mR b.aJ x.key).isSome=true:=by
    cases hn:mR b.aJ x.key with
    |some q=>rfl
    |none=>
     have:x.key∈(dw H a b).gone:=List.mem_map.2 ⟨x,List.mem_filter.2 ⟨hxa,by rw[hn];rfl⟩,rfl⟩;have h3:((dw H a b).gone.any fun k=>decide (k=x.key))=true:=List.any_eq_true.2 ⟨x.key,this,by simp⟩;rw[h3]at h1;cases h1
   obtain⟨q,hq⟩:=Option.isSome_iff_exists.1 hin;obtain⟨hqb,hqk⟩:=qD hq;have hnew:iV a.aJ q=false:=by
    cases hn:iV a.aJ q with
    |false=>rfl
    |true=>
     have:q∈(dw H a b).aM:=List.mem_filter.2 ⟨hqb,hn⟩;exact absurd hqk (uw (by simpa using h2:mR (dw H a b).aM x.key=none) q this)
   unfold iV at hnew;split at hnew
   ·cases hnew
   ·next r hr=>
    obtain⟨hra,hrk⟩:=qD hr;have:r=q:=by simpa using hnew
    subst this;have:=Ae ha hra hxa (by rw[hrk,hqk]);rw[←this];exact hqb
  ·exact(List.mem_filter.1 hx).1
 ·intro hx;cases hn:iV a.aJ x with
  |true=>exact Or.inr (List.mem_filter.2 ⟨hx,hn⟩)
  |false=>
   refine Or.inl ?_;have hxa:x∈a.aJ:=by
    have hn':=hn;unfold iV at hn';split at hn'
    ·cases hn'
    ·next r hr=>
     have:r=x:=by simpa using hn'
     rw[←this];exact(qD hr).1
   refine List.mem_filter.2 ⟨hxa,?_⟩;unfold stays;rw[bg];refine⟨?_,?_⟩
   ·rw[Bool.not_eq_true',List.any_eq_false];intro k hk e;obtain⟨y,hy,rfl⟩:=List.mem_map.1 hk;have h1:=(List.mem_filter.1 hy).2;have h2:=at_mem hx;have e':y.key=x.key:=by simpa using e
    rw[←e']at h2;rw[Option.isNone_iff_eq_none]at h1;rw[h1]at h2;cases h2
   ·rw[Option.isNone_iff_eq_none];cases hs:mR (dw H a b).aM x.key with
    |none=>rfl
    |some q=>
     obtain⟨hq,hqk⟩:=qD hs;obtain⟨hqb,hqn⟩:=List.mem_filter.1 hq;have:=Ae hb hqb hx hqk;subst this;rw[hn]at hqn;cases hqn
theorem vM{H:Mp→ByteArray}{a b:Mp}(ha:ip a=true)(hb:ip b=true):cT a (dw H a b)=b:=by
 obtain⟨_,a2,_,_⟩:=iu ha;obtain⟨_,b2,_,_⟩:=iu hb;unfold cT;rw[Hu (iP a2).1 (iP b2).1];obtain⟨av,ap,ar,at_⟩:=a;obtain⟨bv,bp,br,bt⟩:=b;unfold dw;simp only[decide_eq_true_eq];congr 1
 ·by_cases h:ar=br
  ·simp[h]
  ·simp[h]
 ·by_cases h:at_=bt
  ·simp[h]
  ·simp[h]
theorem R9{H:Mp→ByteArray}{a b:Mp}(ha:ip a=true)(hb:ip b=true)(hv:a.version<b.version)(hH:(H b).size=32):lD (dw H a b)=true:=by
 obtain⟨a1,a2,a3,a4⟩:=iu ha;obtain⟨b1,b2,b3,b4⟩:=iu hb;obtain⟨pa1,pa2,pa3⟩:=iP a2;obtain⟨pb1,pb2,pb3⟩:=iP b2;have hset:iN (dw H a b).aM=true:=by
  unfold iN;simp only[bg,decide_eq_true_eq];refine⟨⟨ax (List.length_filter_le _ _) pb2,List.all_eq_true.2 fun p hp=>pb3 p (List.mem_filter.1 hp).1⟩,tq.2 (pb1.filter _)⟩
 have hg:((dw H a b).gone.all fun k=>decide (k.size=32)&&(mR (dw H a b).aM k).isNone)=true:=by
  rw[List.all_eq_true];intro k hk;obtain⟨y,hy,rfl⟩:=List.mem_map.1 hk;obtain⟨hya,hyn⟩:=List.mem_filter.1 hy;rw[bg];refine⟨?_,?_⟩
  ·have:=pa3 y hya;unfold lC at this;simp only[bg]at this;exact this.1.1.1.1.1.1.1.1.1.1.1
  ·rw[Option.isNone_iff_eq_none]at hyn⊢;cases hs:mR (dw H a b).aM y.key with
   |none=>rfl
   |some q=>
    obtain⟨hq,hqk⟩:=qD hs;exact absurd hqk (uw hyn q (List.mem_filter.1 hq).1)
 have hr:cC qB (dw H a b).gone=true:=by
  rw[vL qB fun x y z=>lF];exact List.pairwise_map.2 (pa1.filter _)
 have hrel:jb (dw H a b).aF=true:=by
  show jb (if a.aF≠b.aF then b.aF else [])=true;split
  ·exact b3
  ·rfl
 have rS:kJ (dw H a b).policy=true:=by
  show kJ (if a.policy≠b.policy then b.policy else⟨#[]⟩)=true;split
  ·exact b4
  ·exact Nx
 have ade:(dw H a b).gone.length≤64:=by
  show((a.aJ.filter _).map _).length≤64;rw[ay];exact ax (List.length_filter_le _ _) pa2
 have h1:((dw H a b).ja||(dw H a b).aF.isEmpty)=true:=by
  show(decide (a.aF≠b.aF)||(if a.aF≠b.aF then b.aF else []).isEmpty)=true;by_cases h:a.aF=b.aF<;>simp[h]
 have h2:((dw H a b).i7||decide ((dw H a b).policy.size=0))=true:=by
  show(decide (a.policy≠b.policy)||decide ((if a.policy≠b.policy then b.policy else(⟨#[]⟩:ByteArray)).size=0))=true;by_cases h:a.policy=b.policy
  ·simp[h];rfl
  ·simp[h]
 unfold lD;rw[hset,hg,hr,hrel,rS,h1,h2];simp only[Bool.and_true,bg,decide_eq_true_eq];exact⟨⟨⟨a1,hv⟩,hH⟩,ade⟩
theorem Ny{H:Mp→ByteArray}{a b:Mp}(ha:(cJ a).2=0)(hb:(cJ b).2=0)(hv:a.version<b.version)(hH:(H b).size=32):iO H a (dw H a b)=(b,0):=by
 have ma:=kK ha;have mb:=kK hb;have e:=vM (H:=H) ma mb;unfold iO;rw[if_neg (by simpa using ha),R9 ma mb hv hH,if_neg (by simp),if_neg (by show¬a.version≠a.version;simp),e];have hg:((dw H a b).gone.all fun k=>(mR a.aJ k).isSome)=true:=by
  rw[List.all_eq_true];intro k hk;obtain⟨y,hy,rfl⟩:=List.mem_map.1 hk;exact at_mem (List.mem_filter.1 hy).1
 rw[hg,if_neg (by simp),if_neg (by simpa using hb),if_neg (by show¬H b≠H b;simp)]
theorem qF{s:ByteArray}(h:cn s=true):s.size≤32:=by
 unfold cn na at h;have e:s.data.toList.length=s.size:=fh s;split at h
 ·cases h
 ·next c r hc=>
  simp only[bg,decide_eq_true_eq]at h;rw[hc,cm]at e;omega
theorem DX{s:ByteArray}(h:kJ s=true):s.size≤8192:=by
 unfold kJ at h;rw[decide_eq_true_eq]at h;have e:s.data.toList.length=s.size:=fh s;by_cases hl:8192<s.data.toList.length
 ·unfold ic at h;rw[if_pos hl]at h;cases h
 ·omega
def JP(e:En):Prop:=e.1.Ok∧e.2<65536
structure nC(p:Pr):Prop where
 exp:p.exp<18446744073709551616
 aW:p.aW<256
 aH:∀a∈p.aH,a.Ok
 ends:∀e∈p.ends,JP e
def vN(r:Ry):Prop:=r.id<256∧JP r.fin
structure jM(m:Mp):Prop where
 version:m.version<18446744073709551616
 aJ:∀p∈m.aJ,nC p
 aF:∀r∈m.aF,vN r
structure JQ(d:Dl):Prop where
 base:d.base<18446744073709551616
 version:d.version<18446744073709551616
 aJ:∀p∈d.aM,nC p
 aF:∀r∈d.aF,vN r
theorem Si{a:Ad}(ok:a.Ok)(h:a.may=true):xN a:=by
 cases hv:a.v6 with
 |false=>
  obtain⟨e1,e2⟩:=may4 h hv;exact Or.inl ⟨hv,e1,by simpa using e2⟩
 |true=>exact Or.inr ⟨hv,by have:=ok.hi;omega,by have:=ok.lo;omega⟩
structure adf(p:Pr):Prop where
 key:p.key.size=32
 bj:p.bj.size=32
 user:cn p.user=true
 tl:p.tags.length≤8
 a1:1≤p.aH.length
 al:p.aH.length≤4
 el:p.ends.length≤8
 ends:∀e∈p.ends,e.1.may=true
 unlike:p.ends.Nodup
 tags:∀t∈p.tags,cn t=true
 adg:cC qB p.tags=true
 aH:∀a∈p.aH,a.may=true
 arise:cC uQ p.aH=true
theorem yF(p:Pr):lC p=true↔adf p:=by
 unfold lC;simp only[bg,decide_eq_true_eq];constructor
 ·rintro⟨⟨⟨⟨⟨⟨⟨⟨⟨⟨⟨h1,h2⟩,h3⟩,h4⟩,h5⟩,h6⟩,h7⟩,h8,h9⟩,h10⟩,h11⟩,h12⟩,h13⟩;exact⟨h1,h2,h3,h4,h5,h6,h7,fun e he=>List.all_eq_true.1 h8 e he,h9,fun t ht=>List.all_eq_true.1 h10 t ht,h11,fun a ha=>List.all_eq_true.1 h12 a ha,h13⟩
 ·intro h;exact⟨⟨⟨⟨⟨⟨⟨⟨⟨⟨⟨h.key,h.bj⟩,h.user⟩,h.tl⟩,h.a1⟩,h.al⟩,h.el⟩,List.all_eq_true.2 h.ends,h.unlike⟩,List.all_eq_true.2 h.tags⟩,h.adg⟩,List.all_eq_true.2 h.aH⟩,h.arise⟩
theorem adh{p:Pr}(fit:nC p)(h:lC p=true):Nu p:=by
 have m:=(yF p).1 h;refine⟨m.key,m.bj,?_,⟨?_,fun t ht=>?_⟩,⟨?_,fun a ha=>Si (fit.aH a ha) (m.aH a ha)⟩,fit.exp,fit.aW,⟨?_,fun e he=>⟨Si (fit.ends e he).1 (m.ends e he),(fit.ends e he).2⟩⟩⟩
 ·have:=qF m.user;omega
 ·have:=m.tl;omega
 ·have:=qF (m.tags t ht);omega
 ·have:=m.al;omega
 ·have:=m.el;omega
theorem aa5{l:List Pr}(fit:∀p∈l,nC p)(h:iN l=true):l.length<65536∧∀p∈l,Nu p:=by
 obtain⟨_,h2,h3⟩:=iP h;exact⟨by omega,fun p hp=>adh (fit p hp) (h3 p hp)⟩
theorem aa6{l:List Ry}(fit:∀r∈l,vN r)(h:jb l=true):l.length<65536∧∀r∈l,Xj r:=by
 unfold jb at h;simp only[bg,decide_eq_true_eq]at h;refine⟨by omega,fun r hr=>?_⟩;have h1:=List.all_eq_true.1 h.2 r hr;unfold vI at h1;simp only[bg,decide_eq_true_eq]at h1;obtain⟨f1,f2,f3⟩:=fit r hr;exact⟨f1,h1.1,Si f2 h1.2,f3⟩
theorem ZA{m:Mp}(fit:jM m)(h:ip m=true):RU m:=by
 obtain⟨_,h2,h3,h4⟩:=iu h;exact⟨fit.version,aa5 fit.aJ h2,aa6 fit.aF h3,by have:=DX h4;omega⟩
open Go.RowKit
open Go.ChangeMaps (setBlock)
section
variable{α:Type}[DecidableEq α]
structure qG(P:Program)(K:TypeId)(enc:α→Value):Prop where
 kind:∃fs,P.underlying K=some (.struct fs)
 agg:∀a,∃cs,enc a=.agg cs
 eq:∀a b w,(Op.equal K (enc a) (enc b)).run P w=.ok (decide (a=b)) w
 key:∀e a w,(Instr.checkKey e 10000 K (enc a)).run P w=.ok () w
 bits:∀a,Instr.sameBits 10000 (enc a) (enc a)=true
def qH(enc:α→Value)(x:α×Nat)(i:Nat):MapEntry:={key:=enc x.1,val:=.int .i64 (x.2:Int),born:=i}
def fW(enc:α→Value)(L:List (α×Nat)):List MapEntry:=L.mapIdx fun i x=>qH enc x i
def KM(enc:α→Value)(w:World)(m:Nat)(L:List (α×Nat)):Prop:=w.heap[m]? =some (.map (fW enc L).toArray L.length)
def k9(L:List (α×Nat))(a:α):Option Nat:=L.findIdx? fun x=>decide (a=x.1)
variable{P:Program}{T K E:TypeId}{enc:α→Value}{w:World}{m:Nat}{L:List (α×Nat)}
theorem Nz{L:List (α×Nat)}{a:α}(h:k9 L a=none):∀x∈L,a≠x.1:=by
 intro x hx;unfold k9 at h;have:=List.findIdx?_eq_none_iff.1 h x hx;simpa using this
theorem rT{L:List (α×Nat)}{a:α}{j:Nat}(h:k9 L a=some j):∃hj:j<L.length,(L[j]'hj).1=a:=by
 unfold k9 at h;obtain⟨hj,hp,_⟩:=List.findIdx?_eq_some_iff_getElem.1 h;exact⟨hj,(by simpa using hp:a=_).symm⟩
theorem Ai(ok:qG P K enc)(a:α):∀(L:List (α×Nat))(f:Nat→Nat)(i:Nat),(Instr.findAsking K (enc a) (L.mapIdx fun j x=>qH enc x (f j)) i).run P w=.ok ((k9 L a).map fun j=>(i+j,(L.map fun x=>Value.int .i64 (x.2:Int)).getD j undef)) w:=by
 intro L
 induction L with
 |nil=>intro f i;rfl
 |cons x L ih=>
  intro f i;rw[List.mapIdx_cons];unfold Instr.findAsking;have hq:=ok.eq a x.1 w;by_cases h:a=x.1
  ·rw[decide_eq_true h]at hq;subst h;simp[qH,hq,k9,List.findIdx?_cons]
  ·rw[decide_eq_false h]at hq;have:=ih (fun j=>f (j+1)) (i+1);unfold qH at this;simp only[qH,agr,hq,tH,Bool.false_eq_true,if_false];rw[this];unfold k9;rw[List.findIdx?_cons];simp only[h,decide_false];cases L.findIdx? (fun x=>decide (a=x.1))with
   |none=>rfl
   |some j=>simp;omega
theorem li(ok:qG P K enc)(a:α)(L:List (α×Nat)):(Instr.findKey K (enc a) (fW enc L)).run P w=.ok ((k9 L a).map fun j=>(j,(L.map fun x=>Value.int .i64 (x.2:Int)).getD j undef)) w:=by
 obtain⟨fs,hk⟩:=ok.kind;obtain⟨cs,hc⟩:=ok.agg a;have hf:=Ai (w:=w) ok a L id 0;cases L with
 |nil=>simp[Instr.findKey,run_underlying hk,fW,Instr.findNow,k9]
 |cons x L=>
  unfold Instr.findKey fW;simp only[agr,run_underlying hk,tH];rw[List.mapIdx_cons];have hn:Instr.findNow (.struct fs) (enc a) (qH enc x 0::L.mapIdx fun i x=>qH enc x (i+1)) 0=none:=by
   unfold Instr.findNow;rw[hc];rfl
  rw[hn];simp only;rw[List.mapIdx_cons]at hf;simpa using hf
omit [DecidableEq α]in
theorem KM.lt(h:KM enc w m L):m<w.heap.size:=by
 rcases Nat.lt_or_ge m w.heap.size with h1|h1
 ·exact h1
 ·unfold KM at h;rw[Array.getElem?_eq_none h1]at h;cases h
def xO(L:List (α×Nat))(a:α):Nat:=match k9 L a with
 |some j=>(L.map (·.2)).getD j 0
 |none=>0
theorem gg(ok:qG P K enc)(hT:P.underlying T=some (.map K E))(hz:(zeroValue E).run P w=.ok (.int .i64 0) w)(h:KM enc w m L)(a:α):(Instr.lookup T (.map (some m)) (enc a) false).run P w=.ok (.int .i64 (xO L a:Int)) w:=by
 have hf:=li (w:=w) ok a L;unfold KM at h;unfold xO;cases hi:k9 L a with
 |none=>
  rw[hi]at hf;simp[Instr.lookup,run_underlying hT,run_getObj_map h,ok.key,hf,hz]
 |some j=>
  rw[hi]at hf;obtain⟨hj,_⟩:=rT hi;simp[Instr.lookup,run_underlying hT,run_getObj_map h,ok.key,hf,aB,bR,ag hj]
theorem xP(ok:qG P K enc)(hT:P.underlying T=some (.map K E))(hz:(zeroValue E).run P w=.ok (.int .i64 0) w)(h:KM enc w m L){a:α}(hi:k9 L a=none):(Instr.mapEntry T (.map (some m)) (enc a)).run P w=.ok (.tuple #[.int .i64 0,.int .i64 (L.length:Int)]) (setBlock w m (.map (fW enc (L++[(a,0)])).toArray (L++[(a,0)]).length)):=by
 have hf:=li (w:=w) ok a L;rw[hi]at hf;unfold KM at h;have he:(fW enc (L++[(a,0)])).toArray=(fW enc L).toArray.push {key:=enc a,val:=.int .i64 0,born:=L.length}:=by
  unfold fW;rw[List.mapIdx_append];simp[qH]
 rw[he];simp[Instr.mapEntry,run_underlying hT,run_getObj_map h,ok.key,hf,hz,run_setObj_map h,goInt]
theorem xQ(ok:qG P K enc)(hT:P.underlying T=some (.map K E))(h:KM enc w m L){a:α}{j:Nat}(hi:k9 L a=some j):(Instr.mapEntry T (.map (some m)) (enc a)).run P w=.ok (.tuple #[.int .i64 (xO L a:Int),.int .i64 j]) (setBlock w m (.map (fW enc L).toArray L.length)):=by
 have hf:=li (w:=w) ok a L;rw[hi]at hf;unfold KM at h;obtain⟨hj,hk⟩:=rT hi;have hje:(fW enc L)[j]? =some (qH enc L[j] j):=by
  unfold fW;rw[List.getElem?_mapIdx,ag hj];rfl
 have hm:(fW enc L).modify j (fun e=>{e with key:=enc a})=fW enc L:=by
  apply List.ext_getElem?;intro i;rw[List.getElem?_modify];by_cases e:j=i
  ·subst e;rw[hje];simp[qH,hk]
  ·simp[e]
 unfold xO;rw[hi];simp[Instr.mapEntry,run_underlying hT,run_getObj_map h,ok.key,hf,run_setObj_map h,goInt,hje,qH,hk,Instr.keyThatStays,ok.bits,hm,aB,bR,ag hj]
omit [DecidableEq α]in
theorem tr(h:KM enc w m L){j:Nat}(hj:j<L.length)(n:Nat):(Instr.entryStore T (.map (some m)) (.int .i64 j) (.int .i64 n)).run P w=.ok () (setBlock w m (.map (fW enc (L.set j ((L[j]).1,n))).toArray (L.set j ((L[j]).1,n)).length)):=by
 unfold KM at h;have hfi:(fW enc L).findIdx? (fun e=>(e.born:Int)==(j:Int))=some j:=by
  rw[List.findIdx?_eq_some_iff_getElem];have hl:(fW enc L).length=L.length:=by simp[fW]
  refine⟨by omega,by simp[fW,qH],fun i hi=>?_⟩;simp[fW,qH];omega
 have hm:(fW enc L).modify j (fun e=>{e with val:=.int .i64 n})=fW enc (L.set j ((L[j]).1,n)):=by
  apply List.ext_getElem?;intro i;rw[List.getElem?_modify];unfold fW;rw[List.getElem?_mapIdx,List.getElem?_mapIdx];by_cases e:j=i
  ·subst e;rw[List.getElem?_set_self hj,ag hj];simp[qH]
  ·rw[List.getElem?_set_ne e];simp[e]
 simp[Instr.entryStore,run_getObj_map h,asInt,asIntOf,hfi,run_setObj_map h,hm]
end
def tt(a:Ad):Value:=.agg a.cells
def vO(e:En):Array Value:= #[.bool e.1.v6,.int .u64 (e.1.hi:Int),.int .u64 (e.1.lo:Int),.int .u16 (e.2:Int)]
def tu(e:En):Value:=.agg (vO e)
theorem Sj(x y:Ad):(x.v6==y.v6&&(x.hi==y.hi&&x.lo==y.lo))=decide (x=y):=by
 obtain⟨a,b,c⟩:=x;obtain⟨d,e,f⟩:=y;rw[kq];simp only[bg,beq_iff_eq,decide_eq_true_eq,Ad.mk.injEq]
theorem Xm(e:Bool)(d:Nat)(b:Bool)(w:World):(Instr.checkKey e (d+1) 4 (.bool b)).run ai w=.ok () w:=by
 unfold Instr.checkKey;simp only[agr,run_underlying Tryz.underlying4,tH];rfl
theorem Sl(e:Bool)(d:Nat)(n:Int)(w:World):(Instr.checkKey e (d+1) 22 (.int .u64 n)).run ai w=.ok () w:=by
 unfold Instr.checkKey;simp only[agr,run_underlying Tryz.underlying22,tH];rfl
theorem aa7(e:Bool)(d:Nat)(n:Int)(w:World):(Instr.checkKey e (d+1) 67 (.int .u16 n)).run ai w=.ok () w:=by
 unfold Instr.checkKey;simp only[agr,run_underlying Tryz.underlying67,tH];rfl
theorem ZB(e:Bool)(d:Nat)(r:Bool)(u v:Int)(w:World):(Instr.checkKey e (d+2) 44 (.agg #[.bool r,.int .u64 u,.int .u64 v])).run ai w=.ok () w:=by
 have h1:=fun w=>Xm e d r w
 have h2:=fun w=>Sl e d u w
 have h3:=fun w=>Sl e d v w
 unfold Instr.checkKey;simp only[agr,run_underlying Tryz.underlying44,tH];simp[go_sem,part,h1,h2,h3]
theorem adi(e:Bool)(d:Nat)(r:Bool)(u v p:Int)(w:World):(Instr.checkKey e (d+3) 69 (.agg #[.bool r,.int .u64 u,.int .u64 v,.int .u16 p])).run ai w=.ok () w:=by
 have h1:=fun w=>ZB e d r u v w
 have h2:=fun w=>aa7 e (d+1) p w
 unfold Instr.checkKey;simp only[agr,run_underlying Tryz.underlying69,tH];simp[go_sem,part,h1,h2]
theorem Xn(d:Nat)(r:Bool)(u v p:Int):Instr.sameBits (d+1) (.agg #[.bool r,.int .u64 u,.int .u64 v,.int .u16 p]) (.agg #[.bool r,.int .u64 u,.int .u64 v,.int .u16 p])=true:=by
 simp[Instr.sameBits]
theorem Sm(d:Nat)(r:Bool)(u v:Int):Instr.sameBits (d+1) (.agg #[.bool r,.int .u64 u,.int .u64 v]) (.agg #[.bool r,.int .u64 u,.int .u64 v])=true:=by
 simp[Instr.sameBits]
theorem ZC:qG ai 44 tt where
 kind:=⟨_,Tryz.underlying44⟩
 agg:=fun a=>⟨_,rfl⟩
 eq:=fun a b w=>by
  rw[←Sj];exact uo a.hi a.lo b.hi b.lo a.v6 b.v6 9997 w
 key:=fun e a w=>ZB e 9998 _ _ _ w
 bits:=fun a=>Sm 9999 _ _ _
theorem Aj(x y:En)(d:Nat)(w:World):(Op.equalIn (d+4) 69 (tu x) (tu y)).run ai w=.ok (decide (x=y)) w:=by
 have h32:ai.stoodInHeld 69=false:=by kernel_rfl
 have ha:=fun w=>uo x.1.hi x.1.lo y.1.hi y.1.lo x.1.v6 y.1.v6 d w
 rw[Sj]at ha;have hp:∀w,(Op.equalIn (d+3) 67 (.int .u16 (x.2:Int)) (.int .u16 (y.2:Int))).run ai w=.ok (decide (x.2=y.2)) w:=by
  intro w;rw[show decide (x.2=y.2)=((x.2:Int)==(y.2:Int)) by rw[kq,decide_eq_true_eq,beq_iff_eq];omega];simp[go_sem,Tryz.underlying67,Op.equalIn]
 obtain⟨⟨a,b,c⟩,p⟩:=x;obtain⟨⟨a',b',c'⟩,p'⟩:=y;simp only at ha hp;unfold tu vO;rw[run_equalIn_struct w (d+3) 69 _ _ bJ h32];simp[go_sem,Tryz.underlying69,part,ha,hp];by_cases h1:a=a'<;>by_cases h2:b=b'<;>by_cases h3:c=c'<;>by_cases h4:p=p'<;>simp[h1,h2,h3,h4]
theorem ZD:qG ai 69 tu where
 kind:=⟨_,Tryz.underlying69⟩
 agg:=fun a=>⟨_,rfl⟩
 eq:=fun a b w=>Aj a b 9996 w
 key:=fun e a w=>adi e 9997 _ _ _ _ w
 bits:=fun a=>Xn 9999 _ _ _ _
def bV(e:En):List Value:=[.bool e.1.v6,.int .u64 (e.1.hi:Int),.int .u64 (e.1.lo:Int),.int .u16 (e.2:Int)]
def kM(l:List En):List Value:=l.flatMap bV
def bI(r:Ry):List Value:=[.int .u8 (r.id:Int),.string r.key,.bool r.fin.1.v6,.int .u64 (r.fin.1.hi:Int),.int .u64 (r.fin.1.lo:Int),.int .u16 (r.fin.2:Int)]
def fL(l:List Ry):List Value:=l.flatMap bI
structure bG where
 p:Pr
 tv:Value
 av:Value
 ev:Value
def bG.vals(X:bG):List Value:=[.string X.p.key,.string X.p.bj,.string X.p.user,X.tv,X.av,.int .u64 (X.p.exp:Int),.int .u8 (X.p.aW:Int),X.ev]
def cI(l:List bG):List Value:=l.flatMap bG.vals
theorem eO(e:En):(bV e).length=4:=rfl
theorem cq(r:Ry):(bI r).length=6:=rfl
theorem aC(X:bG):X.vals.length=8:=rfl
structure eI(w:World)(X:bG):Prop where
 tags:aV w X.tv X.p.tags.length 1 (strCells X.p.tags)
 aH:aV w X.av X.p.aH.length 3 (cR X.p.aH)
 ends:aV w X.ev X.p.ends.length 4 (kM X.p.ends)
theorem eI.below{w w':World}{X:bG}(h:eI w X)(hb:Below w.heap.size w w'):eI w' X:=⟨h.tags.below hb,h.aH.below hb,h.ends.below hb⟩
def dP(w:World)(v:Value)(l:List Pr):Prop:=∃xs:List bG,xs.map (·.p)=l∧aV w v xs.length 8 (cI xs)∧∀X∈xs,eI w X
theorem dP.below{w w':World}{v:Value}{l:List Pr}(h:dP w v l)(hb:Below w.heap.size w w'):dP w' v l:=by
 obtain⟨xs,h1,h2,h3⟩:=h;exact⟨xs,h1,h2.below hb,fun X hX=>(h3 X hX).below hb⟩
theorem dP.shape{w:World}{v:Value}{l:List Pr}(h:dP w v l):∃A cap,v=.slice A l.length cap:=by
 obtain⟨xs,h1,h2,_⟩:=h;have:=h2.shape;rw[←h1,ay];exact this
def gi(w:World)(v:Value)(l:List Ry):Prop:=aV w v l.length 6 (fL l)
structure gI(p:Pr):Prop where
 user:p.user.size≤2000000
 tl:p.tags.length≤2000000
 al:p.aH.length≤2000000
 el:p.ends.length≤2000000
 tags:∀t∈p.tags,t.size≤2000000
theorem oq{α:Type}(l:List α)(q:α→Bool):((aD l.length).all fun k=>match l[k]? with|some x=>q x|none=>false)=l.all q:=by
 rw[kq,List.all_eq_true,List.all_eq_true];constructor
 ·intro h x hx;obtain⟨k,hk⟩:=List.getElem?_of_mem hx;have:=h k (List.mem_range.2 (List.getElem?_eq_some_iff.1 hk).1);simpa only[hk]using this
 ·intro h k hk;have hl:=List.mem_range.1 hk;rw[ag hl];exact h _ (bC hl)
theorem iQ{α:Type}(lt:α→α→Bool):∀l:List α,((aD (l.length-1)).all fun k=>match l[k]?,l[k+1]? with|some x,some y=>lt x y|_,_=>false)=cC lt l
 |[]=>rfl
 |[_]=>rfl
 |x::y::r=>by
  have ih:=iQ lt (y::r);rw[cC,←ih];simp only[cm,Nat.add_sub_cancel];rw[List.range_succ_eq_map,List.all_cons,List.all_map];rfl
theorem Ak{w:World}{A:Option Addr}{cap:Nat}{l:List ByteArray}(h:aV w (.slice A l.length cap) l.length 1 (strCells l)):mB w A l.length fun k=>l.getD k ⟨#[]⟩:=by
 intro k hk;obtain⟨A',cap',e,_,hc⟩:=h;injection e with e1 _ _
 subst e1;obtain⟨g,o,ha,hcc⟩:=hc aY;refine⟨g,o,ha,hcc k _ ?_⟩;unfold strCells;simp[ag hk]
theorem Am{w:World}{v:Value}{l:List ByteArray}(hr:aV w v l.length 1 (strCells l))(hl:l.length≤4000000)(q:ByteArray→Bool)(f:Nat)(lb:Array Value)(eg:∀args w,(callFunc f args).run ai w=.ok (.enter f args) w)(hf:∀W,Below w.heap.size w W→∀x∈l,Calls ai f (#[.string x]++lb) W (Got (.bool (q x)) W)):Calls ai 47 #[v,.func (.func f) #[] lb] w (Got (.bool (l.all q)) w):=by
 rw[←oq];obtain⟨A,cap,rfl⟩:=hr.shape;refine Rz hl _ _ (Ak hr) f lb eg fun k hk W hW=>?_
 have hxk:l[k]? =some l[k]:=ag hk;simp only[aB,hxk,Option.getD_some];exact hf W hW _ (bC hk)
theorem JR{w:World}{v:Value}{l:List ByteArray}(hr:aV w v l.length 1 (strCells l))(hl:l.length≤4000000)(q:ByteArray→ByteArray→Bool)(f:Nat)(lb:Array Value)(eg:∀args w,(callFunc f args).run ai w=.ok (.enter f args) w)(hf:∀W,Below w.heap.size w W→∀x y,Calls ai f (#[.string x,.string y]++lb) W (Got (.bool (q x y)) W)):Calls ai 112 #[v,.func (.func f) #[] lb] w (Got (.bool (cC q l)) w):=by
 rw[←iQ];obtain⟨A,cap,rfl⟩:=hr.shape;refine RE hl _ _ (Ak hr) f lb eg fun k hk W hW=>?_
 have hxk:l[k]? =some l[k]:=ag aY;have hyk:l[k+1]? =some l[k+1]:=ag hk;simp only[aB,hxk,hyk,Option.getD_some];exact hf W hW _ _
theorem Sr{w:World}{v:Value}{l:List Ad}(hr:aV w v l.length 3 (cR l))(hl:l.length≤4000000)(q:Ad→Bool)(f:Nat)(lb:Array Value)(eg:∀args w,(callFunc f args).run ai w=.ok (.enter f args) w)(hf:∀W,Below w.heap.size w W→∀x∈l,Calls ai f (#[.agg ((fun a:Ad=>a.cells.toList) x).toArray]++lb) W (Got (.bool (q x)) W)):Calls ai 200 #[v,.func (.func f) #[] lb] w (Got (.bool (l.all q)) w):=by
 rw[←oq];obtain⟨A,cap,rfl⟩:=hr.shape;refine Nh hl _ _ hr.gX f lb eg fun k hk W hW=>?_
 have hxk:l[k]? =some l[k]:=ag hk;rw[show cR l=l.flatMap (fun a:Ad=>a.cells.toList)from rfl];simp only[hxk];rw[dn (fun a:Ad=>a.cells.toList) 3 (fun a:Ad=>rfl) l k _ hxk];exact hf W hW _ (bC hk)
theorem Ss{w:World}{v:Value}{l:List Ad}(hr:aV w v l.length 3 (cR l))(hl:l.length≤4000000)(q:Ad→Ad→Bool)(f:Nat)(lb:Array Value)(eg:∀args w,(callFunc f args).run ai w=.ok (.enter f args) w)(hf:∀W,Below w.heap.size w W→∀x y,Calls ai f (#[.agg ((fun a:Ad=>a.cells.toList) x).toArray,.agg ((fun a:Ad=>a.cells.toList) y).toArray]++lb) W (Got (.bool (q x y)) W)):Calls ai 201 #[v,.func (.func f) #[] lb] w (Got (.bool (cC q l)) w):=by
 rw[←iQ];obtain⟨A,cap,rfl⟩:=hr.shape;refine Ni hl _ _ hr.gX f lb eg fun k hk W hW=>?_
 have hxk:l[k]? =some l[k]:=ag aY;have hyk:l[k+1]? =some l[k+1]:=ag hk;rw[show cR l=l.flatMap (fun a:Ad=>a.cells.toList)from rfl];simp only[hxk,hyk];rw[dn (fun a:Ad=>a.cells.toList) 3 (fun a:Ad=>rfl) l k _ hxk,dn (fun a:Ad=>a.cells.toList) 3 (fun a:Ad=>rfl) l (k+1) _ hyk];exact hf W hW _ _
theorem Sv{w:World}{v:Value}{l:List Ry}(hr:aV w v l.length 6 (fL l))(hl:l.length≤4000000)(q:Ry→Bool)(f:Nat)(lb:Array Value)(eg:∀args w,(callFunc f args).run ai w=.ok (.enter f args) w)(hf:∀W,Below w.heap.size w W→∀x∈l,Calls ai f (#[.agg (bI x).toArray]++lb) W (Got (.bool (q x)) W)):Calls ai 164 #[v,.func (.func f) #[] lb] w (Got (.bool (l.all q)) w):=by
 rw[←oq];obtain⟨A,cap,rfl⟩:=hr.shape;refine Nk hl _ _ hr.gX f lb eg fun k hk W hW=>?_
 have hxk:l[k]? =some l[k]:=ag hk;rw[show fL l=l.flatMap bI from rfl];simp only[hxk];rw[dn bI 6 cq l k _ hxk];exact hf W hW _ (bC hk)
theorem Sz{w:World}{v:Value}{l:List Ry}(hr:aV w v l.length 6 (fL l))(hl:l.length≤4000000)(q:Ry→Ry→Bool)(f:Nat)(lb:Array Value)(eg:∀args w,(callFunc f args).run ai w=.ok (.enter f args) w)(hf:∀W,Below w.heap.size w W→∀x y,Calls ai f (#[.agg (bI x).toArray,.agg (bI y).toArray]++lb) W (Got (.bool (q x y)) W)):Calls ai 162 #[v,.func (.func f) #[] lb] w (Got (.bool (cC q l)) w):=by
 rw[←iQ];obtain⟨A,cap,rfl⟩:=hr.shape;refine Nl hl _ _ hr.gX f lb eg fun k hk W hW=>?_
 have hxk:l[k]? =some l[k]:=ag aY;have hyk:l[k+1]? =some l[k+1]:=ag hk;rw[show fL l=l.flatMap bI from rfl];simp only[hxk,hyk];rw[dn bI 6 cq l k _ hxk,dn bI 6 cq l (k+1) _ hyk];exact hf W hW _ _
theorem SA{w:World}{v:Value}{l:List bG}(hr:aV w v l.length 8 (cI l))(hl:l.length≤4000000)(q:bG→Bool)(f:Nat)(lb:Array Value)(eg:∀args w,(callFunc f args).run ai w=.ok (.enter f args) w)(hf:∀W,Below w.heap.size w W→∀x∈l,Calls ai f (#[.agg (bG.vals x).toArray]++lb) W (Got (.bool (q x)) W)):Calls ai 127 #[v,.func (.func f) #[] lb] w (Got (.bool (l.all q)) w):=by
 rw[←oq];obtain⟨A,cap,rfl⟩:=hr.shape;refine Np hl _ _ hr.gX f lb eg fun k hk W hW=>?_
 have hxk:l[k]? =some l[k]:=ag hk;rw[show cI l=l.flatMap bG.vals from rfl];simp only[hxk];rw[dn bG.vals 8 aC l k _ hxk];exact hf W hW _ (bC hk)
theorem SC{w:World}{v:Value}{l:List bG}(hr:aV w v l.length 8 (cI l))(hl:l.length≤4000000)(q:bG→bG→Bool)(f:Nat)(lb:Array Value)(eg:∀args w,(callFunc f args).run ai w=.ok (.enter f args) w)(hf:∀W,Below w.heap.size w W→∀x y,Calls ai f (#[.agg (bG.vals x).toArray,.agg (bG.vals y).toArray]++lb) W (Got (.bool (q x y)) W)):Calls ai 160 #[v,.func (.func f) #[] lb] w (Got (.bool (cC q l)) w):=by
 rw[←iQ];obtain⟨A,cap,rfl⟩:=hr.shape;refine Nq hl _ _ hr.gX f lb eg fun k hk W hW=>?_
 have hxk:l[k]? =some l[k]:=ag aY;have hyk:l[k+1]? =some l[k+1]:=ag hk;rw[show cI l=l.flatMap bG.vals from rfl];simp only[hxk,hyk];rw[dn bG.vals 8 aC l k _ hxk,dn bG.vals 8 aC l (k+1) _ hyk];exact hf W hW _ _
attribute [local go_sem↓] Go.wp_at_zero Go.wp_at_succ
def Put(B b:Nat)(D X:List UInt8)(w:World)(r:Ending)(w':World):Prop:=r=.returned (.tuple #[])∧iy B b (D++X) w'∧Wrote B b w w'
theorem Wrote.low{B b:Nat}{w w1 w2:World}(hB:B≤w.heap.size)(h:Below w.heap.size w w1)(k:Wrote B b w1 w2):Wrote B b w w2:=(Wrote.of hB h).trans k
theorem iR{B b:Nat}{D:List UInt8}{w:World}(L:List ByteArray)(h:iy B b D w)(hL:L.length≤4000000)(hlen:D.length+(fF L).length≤140737488355328)(hBw:B≤w.heap.size)(n:Nat)(hn:n=L.length):Calls ai 62 #[.pointer (some ⟨b,0,none⟩),.slice (some ⟨w.heap.size,0,none⟩) n n] (w.alloc (.cells (L.map Value.string).toArray 9)) fun r w'=>r=.returned (.tuple #[])∧iy B b (D++fF L) w'∧Wrote B b w w':=by
 have hb:=boxed w (.cells (L.map Value.string).toArray 9);refine(put_any L (h.below hb) (aG.new w 9 _) (by have:=h.lt;omega) hL hlen (ax hBw hb.size) n hn).mono ?_;rintro r w'⟨rfl,h1,h2⟩;exact⟨rfl,h1,h2.low hBw hb⟩
theorem ed(s:ByteArray):fF [s]=s.data.toList:=by simp[fF]
theorem eJ(s t:ByteArray):fF [s,t]=s.data.toList++t.data.toList:=by simp[fF]
theorem Hw(s t u:ByteArray):fF [s,t,u]=s.data.toList++(t.data.toList++u.data.toList):=by simp[fF]
theorem b8(n x:Nat):(be n x).data.toList=fw n x:=by simp[be]
theorem An(s:ByteArray)(hs:s.size≤32768)(w:World):Calls ai 138 #[.string s] w fun r w'=>(∃t:ByteArray,t.data.toList=pU s∧r=.returned (.tuple #[.string t,.int .i64 0]))∧Below w.heap.size w w':=by
 have hu:=lW s.size aY;have h1:¬(32768:Int)<(s.size:Int):=by omega
 have h1':¬32768<s.size:=by omega
 have h2:IntKind.u16.wrap (s.size:Int)=(s.size:Int):=by
  show(s.size:Int)%65536=_;omega
 have hx:(be 2 s.size++s).data.toList=pU s:=by
  unfold pU;rw[ByteArray.data_append,Array.toList_append,b8]
 have HX:=ae hx;have h3:¬9223372036854775807<(be 2 s.size).size+s.size:=by rw[Vz];omega
 generalize be 2 s.size=T at hu HX h3;have HU:=ae hu;clear hu hs hx;go_enter Tryz.func138,Tryz.ntmps138;go_wp2_with(go_at_call 133;(with_reducible refine(HU.out _).mono ?_);rintro r w2⟨rfl,d2⟩)
 go_ret2;exact⟨⟨_,HX.out,rfl⟩,d2⟩
theorem nD{B b:Nat}{D:List UInt8}{w:World}(s:ByteArray)(hs:s.size≤32768)(h:iy B b D w)(hlen:D.length≤1000000000)(hBw:B≤w.heap.size):Calls ai 68 #[.pointer (some ⟨b,0,none⟩),.string s] w (Put B b D (pU s) w):=by
 have hT:=An s hs w;have hlx:(pU s).length=2+s.size:=by
  unfold pU;rw[List.length_append,aR,Array.length_toList,ByteArray.size_data]
 have hput:=fun u t(hu:Below w.heap.size w u)(ht:t.data.toList=pU s)=>iR (w:=u) [t] (h.below hu) (by simp) (by rw[ed,ht,hlx];omega) (ax hBw hu.size) 1 rfl
 obtain⟨HT,ky,HB⟩:=bO hT hput hBw;unfold Put;clear hT hput hlx h hBw;go_enter Tryz.func68,Tryz.ntmps68;go_wp2_with(first
  |(go_at_call 138;(with_reducible refine HT.out.mono ?_);rintro r w1⟨⟨t,ht,rfl⟩,d1⟩;have Ht:=ae ht;clear ht)
  |(go_at_call 62;(refine(ky.out _ t d1 Ht.out).mono ?_);rintro r w2⟨rfl,p2,k2⟩;rw[ed,Ht.out]at p2))
 go_end0
 exact⟨rfl,p2,k2.low HB.out d1⟩
theorem JS(a:Ad):(xi a).length≤17:=by
 unfold xi;split<;>simp[aR]
theorem Xo(x:UInt8)(n y:Nat):fF [⟨#[x]⟩,be n y]=x::fw n y:=by rw[eJ,b8];rfl
theorem Xp(x:UInt8)(n y k z:Nat):fF [⟨#[x]⟩,be n y,be k z]=x::(fw n y++fw k z):=by rw[Hw,b8,b8];rfl
theorem tz{B b:Nat}{D:List UInt8}{w:World}(a:Ad)(ok:xN a)(h:iy B b D w)(hlen:D.length≤1000000000)(hBw:B≤w.heap.size):Calls ai 135 #[.pointer (some ⟨b,0,none⟩),.agg a.cells] w (Put B b D (xi a) w):=by
 have hb1:=boxed w (.cells a.cells 44);obtain⟨HA,HB1⟩:=aQ (aG.new w 44 a.cells) hb1;have hal:=JS a;obtain⟨X,hX⟩:∃x,x=xi a:=⟨_,rfl⟩;rw[←hX]at hal⊢;have hput:=fun u(L:List ByteArray)(n:Nat)(hu:Below w.heap.size w u)(hL:fF L=X)(hl:L.length≤3)(hn:n=L.length)=>iR (w:=u) L (h.below hu) aY (by rw[hL];omega) (ax hBw hu.size) n hn
 obtain⟨ky,HB⟩:=aQ hput hBw;have hu64:=fun(x:Nat)(hx:x<18446744073709551616)u=>zd x hx u
 have adj:=fun(x:Nat)(hx:x<4294967296)u=>VD x hx u
 obtain⟨v,hi,lo⟩:=a;have ep:af (w.heap.size≠b):=ae (by have:=h.lt;omega);obtain⟨adk,aeO⟩:=aQ hu64 adj;unfold Put;unfold Ad.cells at HA HB1⊢;simp only at HA HB1⊢;clear hput hu64 adj hb1 h hBw;cases v with
 |true=>
  obtain⟨oh,ol⟩:hi<18446744073709551616∧lo<18446744073709551616:=by
   rcases ok with h|h
   ·cases h.1
   ·exact h.2
  have HX:=ae (show fF [⟨#[6]⟩,be 8 hi,be 8 lo]=X by rw[Xp,hX];rfl);clear ok hX;go_enter Tryz.func135,Tryz.ntmps135;go_upto_region 1 with fail
  generalize w.alloc (.cells #[.bool true,.int .u64 hi,.int .u64 lo] 44)=w1 at HA HB1⊢;generalize w.heap.size=P at HA ep⊢;obtain⟨a0,a1,a2⟩:=oM HA;go_upto_region 2 with fail
  refine wp_region_held_drew (S:=(fun w'=>w'.cell? ⟨P,1,none⟩=some (.int .u64 hi)∧w'.cell? ⟨P,2,none⟩=some (.int .u64 lo))) bJ (⟨a1,a2⟩) (fun hHeld=>?_);refine bB 0 ?_
  refine bB 1 ?_
  refine bB 2 ?_
  refine bB 4 ?_
  refine bB 5 ?_
  refine mM 3 fun K hK=>?_;go_simp;refine(adk.out hi oh _).mono ?_;rintro r wb⟨rfl,db⟩;have eb:=Below.eW db;clear db;refine hK.out _ _ (⟨ak a1 eb,ak a2 eb⟩) (fun hHeld=>?_);clear hK K;try simp only[dX]
  refine mM 6 fun K hK=>?_;go_simp;refine(adk.out lo ol _).mono ?_;rintro r wc⟨rfl,dc⟩;have ec:=after eb dc;clear dc;refine hK.out _ _ (⟨ak a1 ec,ak a2 ec⟩) (fun hHeld=>?_);clear hK K;try simp only[dX]
  refine mM 7 fun K hK=>?_;go_simp;refine hK.out _ _ (⟨ak a1 (after ec (boxed _ _)),ak a2 (after ec (boxed _ _))⟩) (fun hHeld=>?_);clear hK K;try simp only[dX]
  refine mM 8 fun K hK=>?_;go_simp;refine(ky.out wc [⟨#[6]⟩,be 8 hi,be 8 lo] 3 (after HB1.out ec) HX.out (by simp) rfl).mono ?_;rintro r wd⟨rfl,p2,k2⟩;rw[HX.out]at p2;have k3:=k2.low HB.out (after HB1.out ec);have hA8:=k2.kept _ _ _ (HA.out.below ec HA.out.lt) ep.out aI;refine hK.out _ _ (⟨hA8.cell 1,hA8.cell 2⟩) (fun hHeld=>?_);clear hK K;try simp only[dX]
  refine tX ?_;go_wp2_with fail
  (try simp only[Exit.inBlock,Exit.then])
  refine bodyPost_ret (results_none rfl _ _ _) rfl ?_;exact⟨rfl,p2,k3⟩
 |false=>
  obtain⟨rfl,ol⟩:hi=0∧lo<4294967296:=by
   rcases ok with h|h
   ·exact h.2
   ·cases h.1
  have HX:=ae (show fF [⟨#[4]⟩,be 4 lo]=X by rw[Xo,hX];rfl);have q1:IntKind.u32.wrap (lo:Int)=(lo:Int):=by
   show(lo:Int)%4294967296=_;omega
  clear ok hX;go_enter Tryz.func135,Tryz.ntmps135;go_upto_region 1 with fail
  generalize w.alloc (.cells #[.bool false,.int .u64 ((0:Nat):Int),.int .u64 lo] 44)=w1 at HA HB1⊢;generalize w.heap.size=P at HA ep⊢;obtain⟨a0,a1,a2⟩:=oM HA;go_wp2_with(first
   |(go_at_call 187;(with_reducible refine(aeO.out lo ol _).mono ?_);rintro r wb⟨rfl,db⟩)
   |(go_at_call 62;(refine(ky.out wb [⟨#[4]⟩,be 4 lo] 2 (after HB1.out db) HX.out (by simp) rfl).mono ?_);rintro r wd⟨rfl,p2,k2⟩;rw[HX.out]at p2))
  go_end0
  exact⟨rfl,p2,k2.low HB.out (after HB1.out db)⟩
theorem NC(a:Ad):(!(gn a).toList.isEmpty)=a.may:=by
 have h:(gn a).toList=gm a:=by rw[cM];rfl
 rw[h];cases hm:a.may with
 |true=>
  have:=PK hm;cases ht:gm a with
  |nil=>exact absurd ht this
  |cons x l=>rfl
 |false=>
  have:gm a=[]:=by unfold gm;rw[if_pos hm]
  rw[this];rfl
theorem mC{w:World}(env:Env w)(a:Ad)(ok:a.Ok):Calls ai 166 #[.agg a.cells] w (Got (.bool a.may) w):=by
 have ht:=fun u(hu:Below w.heap.size w u)=>qj (env.below hu) a ok
 rw[←NC a];generalize gn a=T at ht⊢;obtain⟨v,h,l⟩:=a;unfold Ad.cells at ht⊢;simp only at ht⊢;have HT:=ae ht;have hb:=boxed w (.cells #[.bool v,.int .u64 h,.int .u64 l] 44);obtain⟨HS,HB⟩:=aQ (aG.new w 44 #[.bool v,.int .u64 h,.int .u64 l]) hb;clear ht hb env ok;go_enter Tryz.func166,Tryz.ntmps166;go_upto_region 1 with fail
 generalize w.alloc (.cells #[.bool v,.int .u64 h,.int .u64 l] 44)=w1 at HB HS⊢;generalize w.heap.size=G at HS⊢;obtain⟨s0,s1,s2⟩:=oM HS;go_wp2_with(go_at_call 204;(with_reducible refine(HT.out _ HB.out).mono ?_);rintro r w2⟨rfl,e2⟩)
 go_ret;exact⟨rfl,after HB.out e2⟩
theorem vP(a b:ByteArray)(w:World):Calls ai 113 #[.string a,.string b] w (Got (.bool (qB a b)) w):=by
 go_enter Tryz.func113,Tryz.ntmps113;go_wp2_with fail
 go_ret;exact⟨rfl,Below.refl _ _⟩
theorem nE{w:World}(env:Env w)(s:ByteArray)(hs:s.size≤2000000):Calls ai 116 #[.string s] w (Got (.bool (kJ s)) w):=by
 have hp:=parse_any env s hs;unfold dB at hp;have he:(((ic s.data.toList).2.1:Int)==0)=kJ s:=by
  unfold kJ;rw[kq,beq_iff_eq,decide_eq_true_eq];omega
 generalize kJ s=R at he⊢;generalize ic s.data.toList=P at hp he;obtain⟨q,c,n,x⟩:=P;simp only at hp he;have HP:=ae hp;clear hp env;go_enter Tryz.func116,Tryz.ntmps116;go_upto_region 2 with(go_at_call 167;(with_reducible refine HP.out.mono ?_);rintro r w1⟨⟨⟨vg,vt,vh,va⟩,rfl,hrd⟩,b1⟩;(obtain⟨Ag,At,Ah,Aa,cg,ct,ch,ca,hV⟩:=copied hrd);(obtain⟨rfl,rfl,rfl,rfl⟩:vg=_∧vt=_∧vh=_∧va=_:=by simpa using hV);clear hV hrd)
 go_wp2_with fail
 go_ret;exact⟨by rw[←he];rfl,after b1 (fe _ _ _)⟩
theorem DY(x y:ByteArray)(c1 c2 c3 c4 c5 c6 c7 e1 e2 e3 e4 e5 e6 e7:Value)(w:World):Calls ai 161 #[.agg #[.string x,c1,c2,c3,c4,c5,c6,c7],.agg #[.string y,e1,e2,e3,e4,e5,e6,e7]] w (Got (.bool (qB x y)) w):=by
 have HB:=ae (fe w (.cells #[.string x,c1,c2,c3,c4,c5,c6,c7] 49) (.cells #[.string y,e1,e2,e3,e4,e5,e6,e7] 49));have hp:=aG.new w 49 #[.string x,c1,c2,c3,c4,c5,c6,c7];have HP:=ae (hp.below (boxed _ (.cells #[.string y,e1,e2,e3,e4,e5,e6,e7] 49)) hp.lt);have hq:=aG.new (w.alloc (.cells #[.string x,c1,c2,c3,c4,c5,c6,c7] 49)) 49 #[.string y,e1,e2,e3,e4,e5,e6,e7];rw[show(w.alloc (.cells #[.string x,c1,c2,c3,c4,c5,c6,c7] 49)).heap.size=w.heap.size+1 by simp]at hq;have HQ:=ae hq;clear hp hq;go_enter Tryz.func161,Tryz.ntmps161;go_upto_region 1 with fail
 generalize(w.alloc (.cells #[.string x,c1,c2,c3,c4,c5,c6,c7] 49)).alloc (.cells #[.string y,e1,e2,e3,e4,e5,e6,e7] 49)=w1 at HB HP HQ⊢;generalize w.heap.size+1=Q at HQ⊢;generalize hP:w.heap.size=P at HP⊢;clear hP;have p0:=HP.out.cell 0;have q0:=HQ.out.cell 0;simp at p0 q0;go_wp2_with fail
 go_ret;exact⟨rfl,HB.out⟩
theorem Ia(x y:Nat)(c1 c2 c3 c4 c5 e1 e2 e3 e4 e5:Value)(w:World):Calls ai 163 #[.agg #[.int .u8 x,c1,c2,c3,c4,c5],.agg #[.int .u8 y,e1,e2,e3,e4,e5]] w (Got (.bool (decide (x<y))) w):=by
 have HB:=ae (fe w (.cells #[.int .u8 x,c1,c2,c3,c4,c5] 71) (.cells #[.int .u8 y,e1,e2,e3,e4,e5] 71));have hp:=aG.new w 71 #[.int .u8 x,c1,c2,c3,c4,c5];have HP:=ae (hp.below (boxed _ (.cells #[.int .u8 y,e1,e2,e3,e4,e5] 71)) hp.lt);have hq:=aG.new (w.alloc (.cells #[.int .u8 x,c1,c2,c3,c4,c5] 71)) 71 #[.int .u8 y,e1,e2,e3,e4,e5];rw[show(w.alloc (.cells #[.int .u8 x,c1,c2,c3,c4,c5] 71)).heap.size=w.heap.size+1 by simp]at hq;have HQ:=ae hq;clear hp hq;go_enter Tryz.func163,Tryz.ntmps163;go_upto_region 1 with fail
 generalize(w.alloc (.cells #[.int .u8 x,c1,c2,c3,c4,c5] 71)).alloc (.cells #[.int .u8 y,e1,e2,e3,e4,e5] 71)=w1 at HB HP HQ⊢;generalize w.heap.size+1=Q at HQ⊢;generalize hP:w.heap.size=P at HP⊢;clear hP;have p0:=HP.out.cell 0;have q0:=HQ.out.cell 0;simp at p0 q0;go_wp2_with fail
 go_ret;exact⟨rfl,HB.out⟩
theorem ND(k x:ByteArray)(c1 c2 c3 c4 c5 c6 c7:Value)(g:Nat){w:World}(hg:w.cell? ⟨g,0,none⟩=some (.string k)):Calls ai 104 #[.agg #[.string x,c1,c2,c3,c4,c5,c6,c7],.pointer (some ⟨g,0,none⟩)] w (Got (.bool (decide (x=k))) w):=by
 have hb:=boxed w (.cells #[.string x,c1,c2,c3,c4,c5,c6,c7] 49);have HS:=ae (aG.new w 49 #[.string x,c1,c2,c3,c4,c5,c6,c7]);have g0:=ak hg hb;have HB:=ae hb;rw[show decide (x=k)=(x.toList==k.toList) by rw[eqS,kq,decide_eq_true_eq,decide_eq_true_eq];exact⟨Eq.symm,Eq.symm⟩];clear hg hb;go_enter Tryz.func104,Tryz.ntmps104;go_upto_region 1 with fail
 generalize w.alloc (.cells #[.string x,c1,c2,c3,c4,c5,c6,c7] 49)=w1 at HB HS g0⊢;generalize w.heap.size=G at HS⊢;have s0:=HS.out.cell 0;simp at s0;go_wp2_with fail
 go_ret;exact⟨rfl,HB.out⟩
theorem DZ{w:World}(env:Env w)(c0 c5:Value)(k:ByteArray)(a:Ad)(ok:a.Ok):Calls ai 165 #[.agg #[c0,.string k,.bool a.v6,.int .u64 (a.hi:Int),.int .u64 (a.lo:Int),c5]] w (Got (.bool (decide (k.size=32)&&a.may)) w):=by
 have hm:=fun u(hu:Below w.heap.size w u)=>mC (env.below hu) a ok
 generalize a.may=M at hm⊢;obtain⟨v,h,l⟩:=a;unfold Ad.cells at hm;simp only at hm⊢;have HM:=ae hm;have hb:=boxed w (.cells #[c0,.string k,.bool v,.int .u64 h,.int .u64 l,c5] 71);obtain⟨HS,HB⟩:=aQ (aG.new w 71 #[c0,.string k,.bool v,.int .u64 h,.int .u64 l,c5]) hb;clear hm hb env ok;go_enter Tryz.func165,Tryz.ntmps165;go_upto_region 1 with fail
 generalize w.alloc (.cells #[c0,.string k,.bool v,.int .u64 h,.int .u64 l,c5] 71)=w1 at HB HS⊢;generalize w.heap.size=G at HS⊢;obtain⟨-,s1,s2,s3,s4⟩:=afY HS;by_cases hk:k.size=32
 ·have e1:((k.size:Int)==32)=true:=by simp;omega
  have HK:=ae hk;clear hk;go_wp2_with(go_at_call 166;(with_reducible refine(HM.out _ HB.out).mono ?_);rintro r w2⟨rfl,e2⟩)
  go_ret;exact⟨by rw[decide_eq_true HK.out];rfl,after HB.out e2⟩
 ·have e1:((k.size:Int)==32)=false:=by simp;omega
  have HK:=ae hk;clear hk;go_wp2_with fail
  go_ret;exact⟨by rw[decide_eq_false HK.out];rfl,HB.out⟩
attribute [local go_sem] dJ
def Turns(f:Nat)(lb:Array Value)(cs:Nat→List Value)(q:Nat→Bool)(N m:Nat)(I:Nat→World→Prop):Prop:=∀k,k<N→∀W,I k W→Calls ai f (#[.agg (cs k).toArray]++lb) W fun r W'=>r=.returned (.bool (q k))∧Keeps (fun x=>x=m) W W'∧(q k=false→I (k+1) W')
theorem bw{S:Nat→Prop}{w w':World}{a:Addr}{v:Value}(h:w.cell? a=some v)(k:Keeps S w w')(hs:¬S a.block):w'.cell? a=some v:=by
 have hl:=World.block_lt_of_cell? w _ h;unfold World.cell? at h⊢;rw[k.block _ hl hs];exact h
theorem Keeps.than{S:Nat→Prop}{a w w':World}(h:Keeps S a w)(k:Below w.heap.size w w'):Keeps S a w':=h.trans (Keeps.of_below k fun q hq _=>hq)
def adl(I:Nat→World→Prop):Prop:=∀k W W',I k W→Below W.heap.size W W'→I k W'
theorem NF{w:World}{A:Option Addr}{N cap m:Nat}(hN:N≤4000000)(cs:Nat→List Value)(p:Nat→Bool)(I:Nat→World→Prop)(hc:dh w A N 8 cs)(hA:0<N→∀g o,A=some ⟨g,o,none⟩→g≠m)(f:Nat)(lb:Array Value)(eg:∀args w,(callFunc f args).run ai w=.ok (.enter f args) w)(hf:Turns f lb cs p N m I)(h0:I 0 w):Calls ai 103 #[.slice A N cap,.func (.func f) #[] lb] w fun r w'=>(∃z:Int,r=.returned (.int .i64 z)∧Vp p N z)∧Keeps (fun x=>x=m) w w':=by
 obtain⟨HC,HF,HA,H0⟩:=fH hc hf hA h0;clear hc hf hA h0;go_enter Tryz.func103,Tryz.ntmps103;go_wp2_with fail
 go_loopw [8] (fun v8 wr=>∃k:Nat,k≤N∧v8=.int .i64 k∧af (Keeps (fun x=>x=m) w wr)∧af (∀j,j<k→p j=false)∧af (I k wr)) (fun v8 _=>N-(intOf v8).toNat)
 case atStart=>exact⟨0,Nat.zero_le _,rfl,ae (Keeps.refl _ _),ae (fun j hj=>absurd hj (Nat.not_lt_zero j)),H0⟩
 case round=>
  obtain⟨k,hk,rfl,hb,hno,hi⟩:=hrel;by_cases hlt:k<N
  ·obtain⟨hlen,q,o,rfl,hcell⟩:=HC.out k hlt;have hcall:=HF.out k hlt wr hi.out;generalize hcs:cs k=L at hlen hcell hcall;clear hcs;obtain⟨c0,c1,c2,c3,c4,c5,c6,c7,hL⟩:∃c0 c1 c2 c3 c4 c5 c6 c7,L=[c0,c1,c2,c3,c4,c5,c6,c7]:=by
    match L,hlen with
    |[c0,c1,c2,c3,c4,c5,c6,c7],_=>exact⟨c0,c1,c2,c3,c4,c5,c6,c7,rfl⟩
   subst hL;have d0:=bw (hcell 0 _ rfl) hb.out (HA.out aY _ _ rfl);have d1:=bw (hcell 1 _ rfl) hb.out (HA.out aY _ _ rfl);have d2:=bw (hcell 2 _ rfl) hb.out (HA.out aY _ _ rfl);have d3:=bw (hcell 3 _ rfl) hb.out (HA.out aY _ _ rfl);have d4:=bw (hcell 4 _ rfl) hb.out (HA.out aY _ _ rfl);have d5:=bw (hcell 5 _ rfl) hb.out (HA.out aY _ _ rfl);have d6:=bw (hcell 6 _ rfl) hb.out (HA.out aY _ _ rfl);have d7:=bw (hcell 7 _ rfl) hb.out (HA.out aY _ _ rfl);rw[Nat.add_zero]at d0;have bu:=ae hcall;clear hcall hcell hlen;cases hp:p k with
   |true=>
    rw[hp]at bu;have HP:=ae hp;clear hp;go_wp2_with(go_at_fn f;(with_reducible refine bu.out.mono ?_);rintro r w2⟨rfl,e2,_⟩)
    go_ret;exact⟨⟨_,rfl,.inl ⟨k,hlt,rfl,HP.out,hno.out⟩⟩,hb.out.trans e2⟩
   |false=>
    rw[hp]at bu;have HP:=ae hp;clear hp;go_wp2_with(go_at_fn f;(with_reducible refine bu.out.mono ?_);rintro r w2⟨rfl,e2,i2⟩;have Hi2:=ae (i2 rfl);clear i2)
    go_roundw
    case rel=>
     refine⟨k+1,by omega,by go_num,ae (hb.out.trans e2),ae (fun j hj=>?_),Hi2⟩;by_cases e:j=k
     ·rw[e];exact HP.out
     ·exact hno.out j (by omega)
    case measure=>simp[intOf];omega
  ·obtain rfl:k=N:=by omega
   go_wp2_with fail
   go_ret;exact⟨⟨_,rfl,.inr ⟨rfl,hno.out⟩⟩,hb.out⟩
theorem NH{w:World}{A:Option Addr}{N cap m:Nat}(hN:N≤4000000)(cs:Nat→List Value)(p:Nat→Bool)(I:Nat→World→Prop)(hc:dh w A N 8 cs)(hA:0<N→∀g o,A=some ⟨g,o,none⟩→g≠m)(f:Nat)(lb:Array Value)(eg:∀args w,(callFunc f args).run ai w=.ok (.enter f args) w)(hf:Turns f lb cs p N m I)(h0:I 0 w):Calls ai 182 #[.slice A N cap,.func (.func f) #[] lb] w fun r w'=>r=.returned (.bool ((aD N).any p))∧Keeps (fun x=>x=m) w w':=by
 have HI:=ae (NF (cap:=cap) hN cs p I hc hA f lb eg hf h0);clear hc hf hA h0;generalize hR:(aD N).any p=R;have HR:=ae hR;clear hR;go_enter Tryz.func182,Tryz.ntmps182;go_wp2_with(go_at_call 103;(with_reducible refine HI.out.mono ?_);rintro r w2⟨⟨z,rfl,hz⟩,e2⟩)
 go_ret;exact⟨by rw[←HR.out,←hz.any];rfl,e2⟩
theorem Ib{w:World}(L:List Value)(hl:L.length=8)(g:Nat)(f:Nat)(lb:Array Value)(eg:∀args w,(callFunc f args).run ai w=.ok (.enter f args) w)(hg:w.cell? ⟨g,0,none⟩=some (.func (.func f) #[] lb))(b:Bool)(m:Nat)(J:World→Prop)(hf:∀W,Below w.heap.size w W→Calls ai f (#[.agg L.toArray]++lb) W fun r W'=>r=.returned (.bool b)∧Keeps (fun x=>x=m) W W'∧J W'):Calls ai 183 #[.agg L.toArray,.pointer (some ⟨g,0,none⟩)] w fun r W'=>r=.returned (.bool (!b))∧Keeps (fun x=>x=m) w W'∧J W':=by
 obtain⟨c0,c1,c2,c3,c4,c5,c6,c7,hL⟩:∃c0 c1 c2 c3 c4 c5 c6 c7,L=[c0,c1,c2,c3,c4,c5,c6,c7]:=by
  match L,hl with
  |[c0,c1,c2,c3,c4,c5,c6,c7],_=>exact⟨c0,c1,c2,c3,c4,c5,c6,c7,rfl⟩
 subst hL;have HF:=ae hf;have hb:=boxed w (.cells #[c0,c1,c2,c3,c4,c5,c6,c7] 49);have HS:=ae (aG.new w 49 #[c0,c1,c2,c3,c4,c5,c6,c7]);have g0:=ak hg hb;obtain⟨HB,HK⟩:=aQ hb ((Keeps.refl (fun x=>x=m) w).than hb);clear hf hg hb hl;go_enter Tryz.func183,Tryz.ntmps183;go_upto_region 1 with fail
 generalize w.alloc (.cells #[c0,c1,c2,c3,c4,c5,c6,c7] 49)=w1 at HB HK HS g0⊢;generalize w.heap.size=G at HS⊢;obtain⟨s0,s1,s2,s3,s4,s5,s6,s7⟩:=jq HS;go_wp2_with(go_at_fn f;(with_reducible refine(HF.out _ HB.out).mono ?_);rintro r w2⟨rfl,e2,j2⟩;have HJ:=ae j2;clear j2)
 go_ret;exact⟨rfl,(HK.out).trans e2,HJ.out⟩
theorem Ic{w:World}{A:Option Addr}{N cap m:Nat}(hN:N≤4000000)(cs:Nat→List Value)(p:Nat→Bool)(I:Nat→World→Prop)(hst:adl I)(hm:m<w.heap.size)(hc:dh w A N 8 cs)(hA:0<N→∀g o,A=some ⟨g,o,none⟩→g≠m)(f:Nat)(lb:Array Value)(eg:∀args w,(callFunc f args).run ai w=.ok (.enter f args) w)(hf:∀k,k<N→∀W,I k W→Calls ai f (#[.agg (cs k).toArray]++lb) W fun r W'=>r=.returned (.bool (p k))∧Keeps (fun x=>x=m) W W'∧(p k=true→I (k+1) W'))(h0:I 0 w):Calls ai 127 #[.slice A N cap,.func (.func f) #[] lb] w fun r w'=>r=.returned (.bool ((aD N).all p))∧Keeps (fun x=>x=m) w w':=by
 have hco:=fun u(hu:Below w.heap.size w u)g(hgm:g≠m)(hg:u.cell? ⟨g,0,none⟩=some (.func (.func f) #[] lb))=>NH (cap:=cap) (m:=m) hN cs (fun k=> !p k) (fun k W=>I k W∧W.cell? ⟨g,0,none⟩=some (.func (.func f) #[] lb)) (hc.below hu) hA 183 #[.pointer (some ⟨g,0,none⟩)] (enters_of Tryz.func183 bJ rfl)
  (fun k hk W hW=>(Ib _ (hc k hk).1 g f lb eg hW.2 (p k) m (fun W'=>p k=true→I (k+1) W') fun W2 hW2=>hf k hk W2 (hst k W W2 hW.1 hW2)).mono fun r W' h=>⟨h.1,h.2.1,fun hn=>⟨h.2.2 (by simpa using hn),bw hW.2 h.2.1 hgm⟩⟩) ⟨hst 0 w u h0 hu,hg⟩
 rw[←qC];generalize((aD N).any fun k=> !p k)=R at hco⊢;have RD:=ae hco;have hb:=boxed w (.cells #[.func (.func f) #[] lb] 81);obtain⟨HG,HB⟩:=aQ (show(w.alloc (.cells #[.func (.func f) #[] lb] 81)).cell? ⟨w.heap.size,0,none⟩=some (.func (.func f) #[] lb)from(aG.new w 81 #[.func (.func f) #[] lb]).cell 0) hb;have HM:af (w.heap.size≠m):=ae aY;have HK:=ae ((Keeps.refl (fun x=>x=m) w).than hb);clear hco hc hf hb hst h0 hA hm;go_enter Tryz.func127,Tryz.ntmps127;go_upto_region 1 with fail
 generalize w.alloc (.cells #[.func (.func f) #[] lb] 81)=w1 at HB HG HK⊢;generalize w.heap.size=G at HG HM⊢;go_wp2_with(go_at_call 182;(with_reducible refine(RD.out _ HB.out _ HM.out HG.out).mono ?_);rintro r w2⟨rfl,e2⟩)
 go_ret;exact⟨rfl,HK.out.trans e2⟩
end Go.Proofs.YtdfnhljccdoncaaGreatDoor
