/- Joined out of: NtC NtD MkA MkB NmA PeB NwB NwS. -/
import Derived.Test.YteflnojjjdkgmaaGreatDoorNan
set_option linter.unusedVariables false
set_option linter.unusedSimpArgs false
set_option maxHeartbeats 16000000
set_option maxRecDepth 100000
open Bool renaming and_eq_true→aV,eq_iff_iff→ix
open Go.ByteArray renaming toList_eq→bO
open Go.Lib renaming hid→ae
open Go.Proofs.Tryz renaming prog→ag
open Go.Result renaming andThen_ok→mD
open Go.RowKit renaming Hid→af
open Go.Sem renaming run_bind→afq
open List renaming getElem?_eq_getElem→ah,length_map→ax,getD_eq_getElem?_getD→ay,range→aA,getElem?_map→bA,getElem_mem→bB,mem_cons_of_mem→bL,length_cons→bW,mem_cons_self→cj
open Nat renaming le_trans→au
namespace Go.Proofs.YteflnojjjdkgmaaGreatDoor
theorem MO:∀a:List UInt8,Op.bytesLess a a=false:=by
 intro a
 induction a with
 |nil=>rfl
 |cons x r ih=>
  unfold Op.bytesLess;rw[ih];simp
theorem zB(x y:UInt8)(a b:List UInt8):Op.bytesLess (x::a) (y::b)=true↔x<y∨(x=y∧Op.bytesLess a b=true):=by
 conv=>lhs;unfold Op.bytesLess
 simp
theorem QT:∀a b c:List UInt8,Op.bytesLess a b=true→Op.bytesLess b c=true→Op.bytesLess a c=true:=by
 intro a
 induction a with
 |nil=>
  intro b c h1 h2;cases c with
  |nil=>cases b<;>simp[Op.bytesLess]at h2
  |cons z c=>rfl
 |cons x a ih=>
  intro b c h1 h2;cases b with
  |nil=>simp[Op.bytesLess]at h1
  |cons y b=>
   cases c with
   |nil=>simp[Op.bytesLess]at h2
   |cons z c=>
    rw[zB]at h1 h2⊢;rcases h1 with h1|⟨rfl,h1⟩
    ·rcases h2 with h2|⟨rfl,h2⟩
     ·exact Or.inl (UInt8.lt_trans h1 h2)
     ·exact Or.inl h1
    ·rcases h2 with h2|⟨rfl,h2⟩
     ·exact Or.inl h2
     ·exact Or.inr ⟨rfl,ih b c h1 h2⟩
theorem QU:∀a b:List UInt8,a=b∨Op.bytesLess a b=true∨Op.bytesLess b a=true:=by
 intro a
 induction a with
 |nil=>intro b;cases b with
  |nil=>exact Or.inl rfl
  |cons y b=>exact Or.inr (Or.inl rfl)
 |cons x a ih=>
  intro b;cases b with
  |nil=>exact Or.inr (Or.inr rfl)
  |cons y b=>
   rw[zB,zB];by_cases hxy:x<y
   ·exact Or.inr (Or.inl (Or.inl hxy))
   ·by_cases hyx:y<x
    ·exact Or.inr (Or.inr (Or.inl hyx))
    ·have e:x=y:=UInt8.le_antisymm (UInt8.not_lt.1 hyx) (UInt8.not_lt.1 hxy);subst e;rcases ih b with rfl|h|h
     ·exact Or.inl rfl
     ·exact Or.inr (Or.inl (Or.inr ⟨rfl,h⟩))
     ·exact Or.inr (Or.inr (Or.inr ⟨rfl,h⟩))
theorem iM(a:ByteArray):qs a a=false:=MO _
theorem lj{a b c:ByteArray}(h1:qs a b=true)(h2:qs b c=true):qs a c=true:=QT _ _ _ h1 h2
theorem toList_inj{a b:ByteArray}(h:a.toList=b.toList):a=b:=by
 rw[bO,bO]at h;obtain⟨⟨a⟩⟩:=a;obtain⟨⟨b⟩⟩:=b;simp only at h;rw[h]
theorem rG(a b:ByteArray):a=b∨qs a b=true∨qs b a=true:=by
 rcases QU a.toList b.toList with h|h|h
 ·exact Or.inl (toList_inj h)
 ·exact Or.inr (Or.inl h)
 ·exact Or.inr (Or.inr h)
theorem MP{a b:ByteArray}(h:qs a b=true):qs b a=false:=by
 cases h2:qs b a with
 |false=>rfl
 |true=>have:=lj h h2;rw[iM]at this;cases this
theorem vk{α:Type}(lt:α→α→Bool)(htr:∀a b c,lt a b=true→lt b c=true→lt a c=true):∀l:List α,cw lt l=true↔l.Pairwise fun x y=>lt x y=true:=by
 intro l
 induction l with
 |nil=>exact⟨fun _=>List.Pairwise.nil,fun _=>rfl⟩
 |cons x r ih=>
  cases r with
  |nil=>exact⟨fun _=>List.pairwise_singleton _ _,fun _=>rfl⟩
  |cons y r=>
   constructor
   ·intro h;rw[cw,aV]at h;have h2:=ih.1 h.2;refine List.pairwise_cons.2 ⟨fun z hz=>?_,h2⟩;rcases List.mem_cons.1 hz with rfl|hz
    ·exact h.1
    ·exact htr _ _ _ h.1 ((List.pairwise_cons.1 h2).1 z hz)
   ·intro h;obtain⟨h1,h2⟩:=List.pairwise_cons.1 h;rw[cw,aV];exact⟨h1 y (cj ..),ih.2 h2⟩
theorem Jj(a b c:Pr)(h1:ef a b=true)(h2:ef b c=true):ef a c=true:=lj h1 h2
theorem sO{l:List Pr}:cw ef l=true↔l.Pairwise fun x y=>ef x y=true:=vk ef Jj l
theorem yd:∀(l m:List Pr),l.Pairwise (fun x y=>ef x y=true)→m.Pairwise (fun x y=>ef x y=true)→(∀x,x∈l↔x∈m)→l=m:=by
 intro l
 induction l with
 |nil=>
  intro m _ _ h;cases m with
  |nil=>rfl
  |cons y m=>have:=(h y).2 (cj ..);cases this
 |cons x l ih=>
  intro m hl hm h;cases m with
  |nil=>have:=(h x).1 (cj ..);cases this
  |cons y m=>
   obtain⟨hx,hl'⟩:=List.pairwise_cons.1 hl;obtain⟨hy,hm'⟩:=List.pairwise_cons.1 hm;clear hl hm;have e:x=y:=by
    rcases List.mem_cons.1 ((h x).1 (cj ..))with e|h1
    ·exact e
    ·rcases List.mem_cons.1 ((h y).2 (cj ..))with e|h2
     ·exact e.symm
     ·have h3:=hy x h1;have h4:=hx y h2;have:=MP h3;have h5:ef x y=false:=this;rw[h4]at h5;cases h5
   subst e;rw[ih m hl' hm' fun z=>?_];constructor
   ·intro hz;rcases List.mem_cons.1 ((h z).1 (bL x hz))with e|h1
    ·subst e;have:=hx z hz;have e2:ef z z=false:=iM _;rw[e2]at this;cases this
    ·exact h1
   ·intro hz;rcases List.mem_cons.1 ((h z).2 (bL x hz))with e|h1
    ·subst e;have:=hy z hz;have e2:ef z z=false:=iM _;rw[e2]at this;cases this
    ·exact h1
theorem Jk{l:List Pr}(h:l.Pairwise fun x y=>ef x y=true):∀{x y:Pr},x∈l→y∈l→x.key=y.key→x=y:=by
 induction l with
 |nil=>intro x y hx;cases hx
 |cons z l ih=>
  intro x y hx hy e;obtain⟨hz,hl⟩:=List.pairwise_cons.1 h;have irr:∀u∈l,u.key≠z.key:=fun u hu e=>by
   have h1:qs z.key u.key=true:=hz u hu;rw[e,iM]at h1;cases h1
  rcases List.mem_cons.1 hx with e1|hx1
  ·rcases List.mem_cons.1 hy with e2|hy1
   ·rw[e1,e2]
   ·rw[e1]at e;exact absurd e.symm (irr y hy1)
  ·rcases List.mem_cons.1 hy with e2|hy1
   ·rw[e2]at e;exact absurd e (irr x hx1)
   ·exact ih hl hx1 hy1 e
theorem qu{l:List Pr}{k:ByteArray}{p:Pr}(h:mI l k=some p):p∈l∧p.key=k:=by
 unfold mI at h;exact⟨List.mem_of_find?_eq_some h,by simpa using List.find?_some h⟩
theorem tV{l:List Pr}{k:ByteArray}(h:mI l k=none):∀p∈l,p.key≠k:=by
 intro p hp e;unfold mI at h;have:=List.find?_eq_none.1 h p hp;simp[e]at this
theorem at_mem{l:List Pr}{p:Pr}(hp:p∈l):(mI l p.key).isSome=true:=by
 cases h:mI l p.key with
 |some q=>rfl
 |none=>exact absurd rfl (tV h p hp)
def iC(a:List Pr)(p:Pr):Bool:=match mI a p.key with
 |none=>true
 |some q=>decide (q≠p)
def du(H:Mp→ByteArray)(a b:Mp):Dl:=⟨a.version,b.version,b.aK.filter (iC a.aK),(a.aK.filter fun p=>(mI b.aK p.key).isNone).map (·.key),decide (a.aB≠b.aB),if a.aB≠b.aB then b.aB else [],decide (a.policy≠b.policy),if a.policy≠b.policy then b.policy else⟨#[]⟩,H b⟩
def lk(H:Mp→ByteArray)(a b:Mp):Dl×Nat:=if(cK a).2≠0 then(Dl.zero,(cK a).2)else if(cK b).2≠0 then(Dl.zero,(cK b).2)else if b.version≤a.version then(Dl.zero,2)else(du H a b,0)
def Gw(p:Pr):List Pr→List Pr
 |[]=>[p]
 |q::r=>if ef p q then p::q::r else q::Gw p r
def sortK(l:List Pr):List Pr:=l.foldr Gw []
def stays(d:Dl)(p:Pr):Bool:= !(d.gone.any fun k=>decide (k=p.key))&&(mI d.aN p.key).isNone
def cS(m:Mp)(d:Dl):Mp:=⟨d.version,sortK (m.aK.filter (stays d)++d.aN),if d.iK then d.aB else m.aB,if d.iJ then d.policy else m.policy⟩
def ik(H:Mp→ByteArray)(m:Mp)(d:Dl):Mp×Nat:=if(cK m).2≠0 then(Mp.zero,(cK m).2)else if k9 d=false then(Mp.zero,220)else if m.version≠d.base then(Mp.zero,223)else if(d.gone.all fun k=>(mI m.aK k).isSome)=false then(Mp.zero,220)
 else if(cK (cS m d)).2≠0 then(Mp.zero,(cK (cS m d)).2)else if H (cS m d)≠d.hash then(Mp.zero,224)else(cS m d,0)
theorem Df(p:Pr):∀(l:List Pr)(x:Pr),x∈Gw p l↔x=p∨x∈l:=by
 intro l
 induction l with
 |nil=>intro x;unfold Gw;simp
 |cons q r ih=>
  intro x;unfold Gw;split
  ·exact List.mem_cons
  ·rw[List.mem_cons,ih,List.mem_cons];constructor
   ·rintro(h|h|h)
    ·exact Or.inr (Or.inl h)
    ·exact Or.inl h
    ·exact Or.inr (Or.inr h)
   ·rintro(h|h|h)
    ·exact Or.inr (Or.inl h)
    ·exact Or.inl h
    ·exact Or.inr (Or.inr h)
theorem nY(l:List Pr)(x:Pr):x∈sortK l↔x∈l:=by
 unfold sortK
 induction l with
 |nil=>exact Iff.rfl
 |cons p r ih=>rw[List.foldr_cons,Df,ih,List.mem_cons]
theorem Dh(p:Pr):∀(l:List Pr),l.Pairwise (fun x y=>ef x y=true)→(∀q∈l,q.key≠p.key)→(Gw p l).Pairwise (fun x y=>ef x y=true):=by
 intro l
 induction l with
 |nil=>intro _ _;exact List.pairwise_singleton _ _
 |cons q r ih=>
  intro h hne;obtain⟨hq,hr⟩:=List.pairwise_cons.1 h;unfold Gw;split
  ·next hlt=>
   refine List.pairwise_cons.2 ⟨fun z hz=>?_,h⟩;rcases List.mem_cons.1 hz with rfl|hz
   ·exact hlt
   ·exact Jj _ _ _ hlt (hq z hz)
  ·next hlt=>
   refine List.pairwise_cons.2 ⟨fun z hz=>?_,ih hr fun u hu=>hne u (bL q hu)⟩;rcases(Df p r z).1 hz with rfl|hz
   ·rcases rG z.key q.key with e|h1|h1
    ·exact absurd e.symm (hne q (cj ..))
    ·exact absurd h1 hlt
    ·exact h1
   ·exact hq z hz
theorem qw{l:List Pr}(h:l.Pairwise fun x y=>x.key≠y.key):(sortK l).Pairwise (fun x y=>ef x y=true):=by
 unfold sortK
 induction l with
 |nil=>exact List.Pairwise.nil
 |cons p r ih=>
  obtain⟨hp,hr⟩:=List.pairwise_cons.1 h;rw[List.foldr_cons];refine Dh p _ (ih hr) fun q hq=>?_
  have:q∈r:=(nY r q).1 hq;exact(hp q this).symm
theorem Wl{l S:List Pr}(hd:l.Pairwise fun x y=>x.key≠y.key)(hp:S.Perm l)(hs:S.Pairwise fun x y=>ef y x=false):S=sortK l:=by
 refine yd _ _ ?_ (qw hd) fun x=>by rw[nY,hp.mem_iff]
 have hS:S.Pairwise fun x y=>x.key≠y.key:=(hp.pairwise_iff (fun{x y}h=>Ne.symm h)).2 hd
 have:=List.Pairwise.and hS hs;refine this.imp fun{x y}h=>?_
 rcases rG x.key y.key with e|h1|h1
 ·exact absurd e h.1
 ·exact h1
 ·have:ef y x=true:=h1;rw[h.2]at this;cases this
theorem nZ{m:Mp}(h:(cK m).2=0):ig m=true:=(vj h).1
theorem iN{m:Mp}(h:ig m=true):1≤m.version∧ie m.aK=true∧iL m.aB=true∧kq m.policy=true:=by
 unfold ig at h;simp only[aV,decide_eq_true_eq]at h;exact⟨h.1.1.1.1,h.1.1.1.2,h.1.1.2,h.1.2⟩
theorem jh{l:List Pr}(h:ie l=true):l.Pairwise (fun x y=>ef x y=true)∧l.length≤64∧∀p∈l,kZ p=true:=by
 unfold ie at h;simp only[aV,decide_eq_true_eq]at h;exact⟨sO.1 h.2,h.1.1,fun p hp=>List.all_eq_true.1 h.1.2 p hp⟩
theorem MQ:kq ⟨#[]⟩=true:=by decide+kernel
theorem distinct_keys{a:Mp}{d:Dl}(h1:a.aK.Pairwise fun x y=>ef x y=true)(h2:d.aN.Pairwise fun x y=>ef x y=true):(a.aK.filter (stays d)++d.aN).Pairwise fun x y=>x.key≠y.key:=by
 have ne:∀{x y:Pr},ef x y=true→x.key≠y.key:=fun{x y}h e=>by
  have h':qs x.key y.key=true:=h;rw[e,iM]at h';cases h'
 refine List.pairwise_append.2 ⟨(h1.filter _).imp fun h=>ne h,h2.imp fun h=>ne h,fun x hx y hy e=>?_⟩;have hs:=(List.mem_filter.1 hx).2;unfold stays at hs;simp only[aV]at hs;have:=tV (by simpa using hs.2:mI d.aN x.key=none) y hy;exact this e.symm
theorem Gx{H:Mp→ByteArray}{a b:Mp}(ha:a.aK.Pairwise fun x y=>ef x y=true)(hb:b.aK.Pairwise fun x y=>ef x y=true):sortK (a.aK.filter (stays (du H a b))++(du H a b).aN)=b.aK:=by
 have hset:(du H a b).aN.Pairwise fun x y=>ef x y=true:=hb.filter _
 refine yd _ _ (qw (distinct_keys ha hset)) hb fun x=>?_
 rw[nY,List.mem_append];constructor
 ·rintro(hx|hx)
  ·obtain⟨hxa,hst⟩:=List.mem_filter.1 hx;unfold stays at hst;simp only[aV]at hst;obtain⟨h1,h2⟩:=hst;have hin:(mI b.aK x.key).isSome=true:=by
    cases hn:mI b.aK x.key with
    |some q=>rfl
    |none=>
     have:x.key∈(du H a b).gone:=List.mem_map.2 ⟨x,List.mem_filter.2 ⟨hxa,by rw[hn];rfl⟩,rfl⟩;have h3:((du H a b).gone.any fun k=>decide (k=x.key))=true:=List.any_eq_true.2 ⟨x.key,this,by simp⟩;rw[h3]at h1;cases h1
   obtain⟨q,hq⟩:=Option.isSome_iff_exists.1 hin;obtain⟨hqb,hqk⟩:=qu hq;have hnew:iC a.aK q=false:=by
    cases hn:iC a.aK q with
    |false=>rfl
    |true=>
     have:q∈(du H a b).aN:=List.mem_filter.2 ⟨hqb,hn⟩;exact absurd hqk (tV (by simpa using h2:mI (du H a b).aN x.key=none) q this)
   unfold iC at hnew;split at hnew
   ·cases hnew
   ·next r hr=>
    obtain⟨hra,hrk⟩:=qu hr;have:r=q:=by simpa using hnew
    subst this;have:=Jk ha hra hxa (by rw[hrk,hqk]);rw[←this];exact hqb
  ·exact(List.mem_filter.1 hx).1
 ·intro hx;cases hn:iC a.aK x with
  |true=>exact Or.inr (List.mem_filter.2 ⟨hx,hn⟩)
  |false=>
   refine Or.inl ?_;have hxa:x∈a.aK:=by
    have hn':=hn;unfold iC at hn';split at hn'
    ·cases hn'
    ·next r hr=>
     have:r=x:=by simpa using hn'
     rw[←this];exact(qu hr).1
   refine List.mem_filter.2 ⟨hxa,?_⟩;unfold stays;rw[aV];refine⟨?_,?_⟩
   ·rw[Bool.not_eq_true',List.any_eq_false];intro k hk e;obtain⟨y,hy,rfl⟩:=List.mem_map.1 hk;have h1:=(List.mem_filter.1 hy).2;have h2:=at_mem hx;have e':y.key=x.key:=by simpa using e
    rw[←e']at h2;rw[Option.isNone_iff_eq_none]at h1;rw[h1]at h2;cases h2
   ·rw[Option.isNone_iff_eq_none];cases hs:mI (du H a b).aN x.key with
    |none=>rfl
    |some q=>
     obtain⟨hq,hqk⟩:=qu hs;obtain⟨hqb,hqn⟩:=List.mem_filter.1 hq;have:=Jk hb hqb hx hqk;subst this;rw[hn]at hqn;cases hqn
theorem vl{H:Mp→ByteArray}{a b:Mp}(ha:ig a=true)(hb:ig b=true):cS a (du H a b)=b:=by
 obtain⟨_,a2,_,_⟩:=iN ha;obtain⟨_,b2,_,_⟩:=iN hb;unfold cS;rw[Gx (jh a2).1 (jh b2).1];obtain⟨av,ap,ar,at_⟩:=a;obtain⟨bv,bp,br,bt⟩:=b;unfold du;simp only[decide_eq_true_eq];congr 1
 ·by_cases h:ar=br
  ·simp[h]
  ·simp[h]
 ·by_cases h:at_=bt
  ·simp[h]
  ·simp[h]
theorem QV{H:Mp→ByteArray}{a b:Mp}(ha:ig a=true)(hb:ig b=true)(hv:a.version<b.version)(hH:(H b).size=32):k9 (du H a b)=true:=by
 obtain⟨a1,a2,a3,a4⟩:=iN ha;obtain⟨b1,b2,b3,b4⟩:=iN hb;obtain⟨pa1,pa2,pa3⟩:=jh a2;obtain⟨pb1,pb2,pb3⟩:=jh b2;have hset:ie (du H a b).aN=true:=by
  unfold ie;simp only[aV,decide_eq_true_eq];refine⟨⟨au (List.length_filter_le _ _) pb2,List.all_eq_true.2 fun p hp=>pb3 p (List.mem_filter.1 hp).1⟩,sO.2 (pb1.filter _)⟩
 have hg:((du H a b).gone.all fun k=>decide (k.size=32)&&(mI (du H a b).aN k).isNone)=true:=by
  rw[List.all_eq_true];intro k hk;obtain⟨y,hy,rfl⟩:=List.mem_map.1 hk;obtain⟨hya,hyn⟩:=List.mem_filter.1 hy;rw[aV];refine⟨?_,?_⟩
  ·have:=pa3 y hya;unfold kZ at this;simp only[aV]at this;exact this.1.1.1.1.1.1.1.1.1.1.1
  ·rw[Option.isNone_iff_eq_none]at hyn⊢;cases hs:mI (du H a b).aN y.key with
   |none=>rfl
   |some q=>
    obtain⟨hq,hqk⟩:=qu hs;exact absurd hqk (tV hyn q (List.mem_filter.1 hq).1)
 have hr:cw qs (du H a b).gone=true:=by
  rw[vk qs fun x y z=>lj];exact List.pairwise_map.2 (pa1.filter _)
 have hrel:iL (du H a b).aB=true:=by
  show iL (if a.aB≠b.aB then b.aB else [])=true;split
  ·exact b3
  ·rfl
 have rH:kq (du H a b).policy=true:=by
  show kq (if a.policy≠b.policy then b.policy else⟨#[]⟩)=true;split
  ·exact b4
  ·exact MQ
 have acj:(du H a b).gone.length≤64:=by
  show((a.aK.filter _).map _).length≤64;rw[ax];exact au (List.length_filter_le _ _) pa2
 have h1:((du H a b).iK||(du H a b).aB.isEmpty)=true:=by
  show(decide (a.aB≠b.aB)||(if a.aB≠b.aB then b.aB else []).isEmpty)=true;by_cases h:a.aB=b.aB<;>simp[h]
 have h2:((du H a b).iJ||decide ((du H a b).policy.size=0))=true:=by
  show(decide (a.policy≠b.policy)||decide ((if a.policy≠b.policy then b.policy else(⟨#[]⟩:ByteArray)).size=0))=true;by_cases h:a.policy=b.policy
  ·simp[h];rfl
  ·simp[h]
 unfold k9;rw[hset,hg,hr,hrel,rH,h1,h2];simp only[Bool.and_true,aV,decide_eq_true_eq];exact⟨⟨⟨a1,hv⟩,hH⟩,acj⟩
theorem MR{H:Mp→ByteArray}{a b:Mp}(ha:(cK a).2=0)(hb:(cK b).2=0)(hv:a.version<b.version)(hH:(H b).size=32):ik H a (du H a b)=(b,0):=by
 have ma:=nZ ha;have mb:=nZ hb;have e:=vl (H:=H) ma mb;unfold ik;rw[if_neg (by simpa using ha),QV ma mb hv hH,if_neg (by simp),if_neg (by show¬a.version≠a.version;simp),e];have hg:((du H a b).gone.all fun k=>(mI a.aK k).isSome)=true:=by
  rw[List.all_eq_true];intro k hk;obtain⟨y,hy,rfl⟩:=List.mem_map.1 hk;exact at_mem (List.mem_filter.1 hy).1
 rw[hg,if_neg (by simp),if_neg (by simpa using hb),if_neg (by show¬H b≠H b;simp)]
theorem qx{s:ByteArray}(h:b8 s=true):s.size≤32:=by
 unfold b8 mY at h;have e:s.data.toList.length=s.size:=eX s;split at h
 ·cases h
 ·next c r hc=>
  simp only[aV,decide_eq_true_eq]at h;rw[hc,bW]at e;omega
theorem Di{s:ByteArray}(h:kq s=true):s.size≤8192:=by
 unfold kq at h;rw[decide_eq_true_eq]at h;have e:s.data.toList.length=s.size:=eX s;by_cases hl:8192<s.data.toList.length
 ·unfold gy at h;rw[if_pos hl]at h;cases h
 ·omega
def YE(e:En):Prop:=e.1.Ok∧e.2<65536
structure sP(p:Pr):Prop where
 exp:p.exp<18446744073709551616
 aY:p.aY<256
 aJ:∀a∈p.aJ,a.Ok
 ends:∀e∈p.ends,YE e
def Dj(r:Ry):Prop:=r.id<256∧YE r.fin
structure kr(m:Mp):Prop where
 version:m.version<18446744073709551616
 aK:∀p∈m.aK,sP p
 aB:∀r∈m.aB,Dj r
structure Jl(d:Dl):Prop where
 base:d.base<18446744073709551616
 version:d.version<18446744073709551616
 aK:∀p∈d.aN,sP p
 aB:∀r∈d.aB,Dj r
theorem QW{a:Ad}(ok:a.Ok)(h:a.may=true):xi a:=by
 cases hv:a.v6 with
 |false=>
  obtain⟨e1,e2⟩:=may4 h hv;exact Or.inl ⟨hv,e1,by simpa using e2⟩
 |true=>exact Or.inr ⟨hv,by have:=ok.hi;omega,by have:=ok.lo;omega⟩
structure ack(p:Pr):Prop where
 key:p.key.size=32
 bh:p.bh.size=32
 user:b8 p.user=true
 tl:p.tags.length≤8
 a1:1≤p.aJ.length
 al:p.aJ.length≤4
 el:p.ends.length≤8
 ends:∀e∈p.ends,e.1.may=true
 unlike:p.ends.Nodup
 tags:∀t∈p.tags,b8 t=true
 acm:cw qs p.tags=true
 aJ:∀a∈p.aJ,a.may=true
 arise:cw ux p.aJ=true
theorem ye(p:Pr):kZ p=true↔ack p:=by
 unfold kZ;simp only[aV,decide_eq_true_eq];constructor
 ·rintro⟨⟨⟨⟨⟨⟨⟨⟨⟨⟨⟨h1,h2⟩,h3⟩,h4⟩,h5⟩,h6⟩,h7⟩,h8,h9⟩,h10⟩,h11⟩,h12⟩,h13⟩;exact⟨h1,h2,h3,h4,h5,h6,h7,fun e he=>List.all_eq_true.1 h8 e he,h9,fun t ht=>List.all_eq_true.1 h10 t ht,h11,fun a ha=>List.all_eq_true.1 h12 a ha,h13⟩
 ·intro h;exact⟨⟨⟨⟨⟨⟨⟨⟨⟨⟨⟨h.key,h.bh⟩,h.user⟩,h.tl⟩,h.a1⟩,h.al⟩,h.el⟩,List.all_eq_true.2 h.ends,h.unlike⟩,List.all_eq_true.2 h.tags⟩,h.acm⟩,List.all_eq_true.2 h.aJ⟩,h.arise⟩
theorem acn{p:Pr}(fit:sP p)(h:kZ p=true):MN p:=by
 have m:=(ye p).1 h;refine⟨m.key,m.bh,?_,⟨?_,fun t ht=>?_⟩,⟨?_,fun a ha=>QW (fit.aJ a ha) (m.aJ a ha)⟩,fit.exp,fit.aY,⟨?_,fun e he=>⟨QW (fit.ends e he).1 (m.ends e he),(fit.ends e he).2⟩⟩⟩
 ·have:=qx m.user;omega
 ·have:=m.tl;omega
 ·have:=qx (m.tags t ht);omega
 ·have:=m.al;omega
 ·have:=m.el;omega
theorem aam{l:List Pr}(fit:∀p∈l,sP p)(h:ie l=true):l.length<65536∧∀p∈l,MN p:=by
 obtain⟨_,h2,h3⟩:=jh h;exact⟨by omega,fun p hp=>acn (fit p hp) (h3 p hp)⟩
theorem aan{l:List Ry}(fit:∀r∈l,Dj r)(h:iL l=true):l.length<65536∧∀r∈l,Wi r:=by
 unfold iL at h;simp only[aV,decide_eq_true_eq]at h;refine⟨by omega,fun r hr=>?_⟩;have h1:=List.all_eq_true.1 h.2 r hr;unfold u9 at h1;simp only[aV,decide_eq_true_eq]at h1;obtain⟨f1,f2,f3⟩:=fit r hr;exact⟨f1,h1.1,QW f2 h1.2,f3⟩
theorem YF{m:Mp}(fit:kr m)(h:ig m=true):QS m:=by
 obtain⟨_,h2,h3,h4⟩:=iN h;exact⟨fit.version,aam fit.aK h2,aan fit.aB h3,by have:=Di h4;omega⟩
open Go.RowKit
open Go.ChangeMaps (setBlock)
section
variable{α:Type}[DecidableEq α]
structure qy(P:Program)(K:TypeId)(enc:α→Value):Prop where
 kind:∃fs,P.underlying K=some (.struct fs)
 agg:∀a,∃cs,enc a=.agg cs
 eq:∀a b w,(Op.equal K (enc a) (enc b)).run P w=.ok (decide (a=b)) w
 key:∀e a w,(Instr.checkKey e 10000 K (enc a)).run P w=.ok () w
 bits:∀a,Instr.sameBits 10000 (enc a) (enc a)=true
def qA(enc:α→Value)(x:α×Nat)(i:Nat):MapEntry:={key:=enc x.1,val:=.int .i64 (x.2:Int),born:=i}
def fJ(enc:α→Value)(L:List (α×Nat)):List MapEntry:=L.mapIdx fun i x=>qA enc x i
def KM(enc:α→Value)(w:World)(m:Nat)(L:List (α×Nat)):Prop:=w.heap[m]? =some (.map (fJ enc L).toArray L.length)
def kK(L:List (α×Nat))(a:α):Option Nat:=L.findIdx? fun x=>decide (a=x.1)
variable{P:Program}{T K E:TypeId}{enc:α→Value}{w:World}{m:Nat}{L:List (α×Nat)}
theorem MS{L:List (α×Nat)}{a:α}(h:kK L a=none):∀x∈L,a≠x.1:=by
 intro x hx;unfold kK at h;have:=List.findIdx?_eq_none_iff.1 h x hx;simpa using this
theorem rI{L:List (α×Nat)}{a:α}{j:Nat}(h:kK L a=some j):∃hj:j<L.length,(L[j]'hj).1=a:=by
 unfold kK at h;obtain⟨hj,hp,_⟩:=List.findIdx?_eq_some_iff_getElem.1 h;exact⟨hj,(by simpa using hp:a=_).symm⟩
theorem zC(ok:qy P K enc)(a:α):∀(L:List (α×Nat))(f:Nat→Nat)(i:Nat),(Instr.findAsking K (enc a) (L.mapIdx fun j x=>qA enc x (f j)) i).run P w=.ok ((kK L a).map fun j=>(i+j,(L.map fun x=>Value.int .i64 (x.2:Int)).getD j undef)) w:=by
 intro L
 induction L with
 |nil=>intro f i;rfl
 |cons x L ih=>
  intro f i;rw[List.mapIdx_cons];unfold Instr.findAsking;have hq:=ok.eq a x.1 w;by_cases h:a=x.1
  ·rw[decide_eq_true h]at hq;subst h;simp[qA,hq,kK,List.findIdx?_cons]
  ·rw[decide_eq_false h]at hq;have:=ih (fun j=>f (j+1)) (i+1);unfold qA at this;simp only[qA,afq,hq,mD,Bool.false_eq_true,if_false];rw[this];unfold kK;rw[List.findIdx?_cons];simp only[h,decide_false];cases L.findIdx? (fun x=>decide (a=x.1))with
   |none=>rfl
   |some j=>simp;omega
theorem kM(ok:qy P K enc)(a:α)(L:List (α×Nat)):(Instr.findKey K (enc a) (fJ enc L)).run P w=.ok ((kK L a).map fun j=>(j,(L.map fun x=>Value.int .i64 (x.2:Int)).getD j undef)) w:=by
 obtain⟨fs,hk⟩:=ok.kind;obtain⟨cs,hc⟩:=ok.agg a;have hf:=zC (w:=w) ok a L id 0;cases L with
 |nil=>simp[Instr.findKey,run_underlying hk,fJ,Instr.findNow,kK]
 |cons x L=>
  unfold Instr.findKey fJ;simp only[afq,run_underlying hk,mD];rw[List.mapIdx_cons];have hn:Instr.findNow (.struct fs) (enc a) (qA enc x 0::L.mapIdx fun i x=>qA enc x (i+1)) 0=none:=by
   unfold Instr.findNow;rw[hc];rfl
  rw[hn];simp only;rw[List.mapIdx_cons]at hf;simpa using hf
omit [DecidableEq α]in
theorem KM.lt(h:KM enc w m L):m<w.heap.size:=by
 rcases Nat.lt_or_ge m w.heap.size with h1|h1
 ·exact h1
 ·unfold KM at h;rw[Array.getElem?_eq_none h1]at h;cases h
def xj(L:List (α×Nat))(a:α):Nat:=match kK L a with
 |some j=>(L.map (·.2)).getD j 0
 |none=>0
theorem fP(ok:qy P K enc)(hT:P.underlying T=some (.map K E))(hz:(zeroValue E).run P w=.ok (.int .i64 0) w)(h:KM enc w m L)(a:α):(Instr.lookup T (.map (some m)) (enc a) false).run P w=.ok (.int .i64 (xj L a:Int)) w:=by
 have hf:=kM (w:=w) ok a L;unfold KM at h;unfold xj;cases hi:kK L a with
 |none=>
  rw[hi]at hf;simp[Instr.lookup,run_underlying hT,run_getObj_map h,ok.key,hf,hz]
 |some j=>
  rw[hi]at hf;obtain⟨hj,_⟩:=rI hi;simp[Instr.lookup,run_underlying hT,run_getObj_map h,ok.key,hf,ay,bA,ah hj]
theorem xk(ok:qy P K enc)(hT:P.underlying T=some (.map K E))(hz:(zeroValue E).run P w=.ok (.int .i64 0) w)(h:KM enc w m L){a:α}(hi:kK L a=none):(Instr.mapEntry T (.map (some m)) (enc a)).run P w=.ok (.tuple #[.int .i64 0,.int .i64 (L.length:Int)]) (setBlock w m (.map (fJ enc (L++[(a,0)])).toArray (L++[(a,0)]).length)):=by
 have hf:=kM (w:=w) ok a L;rw[hi]at hf;unfold KM at h;have he:(fJ enc (L++[(a,0)])).toArray=(fJ enc L).toArray.push {key:=enc a,val:=.int .i64 0,born:=L.length}:=by
  unfold fJ;rw[List.mapIdx_append];simp[qA]
 rw[he];simp[Instr.mapEntry,run_underlying hT,run_getObj_map h,ok.key,hf,hz,run_setObj_map h,goInt]
theorem xn(ok:qy P K enc)(hT:P.underlying T=some (.map K E))(h:KM enc w m L){a:α}{j:Nat}(hi:kK L a=some j):(Instr.mapEntry T (.map (some m)) (enc a)).run P w=.ok (.tuple #[.int .i64 (xj L a:Int),.int .i64 j]) (setBlock w m (.map (fJ enc L).toArray L.length)):=by
 have hf:=kM (w:=w) ok a L;rw[hi]at hf;unfold KM at h;obtain⟨hj,hk⟩:=rI hi;have hje:(fJ enc L)[j]? =some (qA enc L[j] j):=by
  unfold fJ;rw[List.getElem?_mapIdx,ah hj];rfl
 have hm:(fJ enc L).modify j (fun e=>{e with key:=enc a})=fJ enc L:=by
  apply List.ext_getElem?;intro i;rw[List.getElem?_modify];by_cases e:j=i
  ·subst e;rw[hje];simp[qA,hk]
  ·simp[e]
 unfold xj;rw[hi];simp[Instr.mapEntry,run_underlying hT,run_getObj_map h,ok.key,hf,run_setObj_map h,goInt,hje,qA,hk,Instr.keyThatStays,ok.bits,hm,ay,bA,ah hj]
omit [DecidableEq α]in
theorem sQ(h:KM enc w m L){j:Nat}(hj:j<L.length)(n:Nat):(Instr.entryStore T (.map (some m)) (.int .i64 j) (.int .i64 n)).run P w=.ok () (setBlock w m (.map (fJ enc (L.set j ((L[j]).1,n))).toArray (L.set j ((L[j]).1,n)).length)):=by
 unfold KM at h;have hfi:(fJ enc L).findIdx? (fun e=>(e.born:Int)==(j:Int))=some j:=by
  rw[List.findIdx?_eq_some_iff_getElem];have hl:(fJ enc L).length=L.length:=by simp[fJ]
  refine⟨by omega,by simp[fJ,qA],fun i hi=>?_⟩;simp[fJ,qA];omega
 have hm:(fJ enc L).modify j (fun e=>{e with val:=.int .i64 n})=fJ enc (L.set j ((L[j]).1,n)):=by
  apply List.ext_getElem?;intro i;rw[List.getElem?_modify];unfold fJ;rw[List.getElem?_mapIdx,List.getElem?_mapIdx];by_cases e:j=i
  ·subst e;rw[List.getElem?_set_self hj,ah hj];simp[qA]
  ·rw[List.getElem?_set_ne e];simp[e]
 simp[Instr.entryStore,run_getObj_map h,asInt,asIntOf,hfi,run_setObj_map h,hm]
end
def sR(a:Ad):Value:=.agg a.cells
def vm(e:En):Array Value:= #[.bool e.1.v6,.int .u64 (e.1.hi:Int),.int .u64 (e.1.lo:Int),.int .u16 (e.2:Int)]
def sS(e:En):Value:=.agg (vm e)
theorem QX(x y:Ad):(x.v6==y.v6&&(x.hi==y.hi&&x.lo==y.lo))=decide (x=y):=by
 obtain⟨a,b,c⟩:=x;obtain⟨d,e,f⟩:=y;rw[ix];simp only[aV,beq_iff_eq,decide_eq_true_eq,Ad.mk.injEq]
theorem Wm(e:Bool)(d:Nat)(b:Bool)(w:World):(Instr.checkKey e (d+1) 4 (.bool b)).run ag w=.ok () w:=by
 unfold Instr.checkKey;simp only[afq,run_underlying Tryz.underlying4,mD];rfl
theorem QY(e:Bool)(d:Nat)(n:Int)(w:World):(Instr.checkKey e (d+1) 22 (.int .u64 n)).run ag w=.ok () w:=by
 unfold Instr.checkKey;simp only[afq,run_underlying Tryz.underlying22,mD];rfl
theorem aao(e:Bool)(d:Nat)(n:Int)(w:World):(Instr.checkKey e (d+1) 80 (.int .u16 n)).run ag w=.ok () w:=by
 unfold Instr.checkKey;simp only[afq,run_underlying Tryz.underlying80,mD];rfl
theorem YG(e:Bool)(d:Nat)(r:Bool)(u v:Int)(w:World):(Instr.checkKey e (d+2) 54 (.agg #[.bool r,.int .u64 u,.int .u64 v])).run ag w=.ok () w:=by
 have h1:=fun w=>Wm e d r w
 have h2:=fun w=>QY e d u w
 have h3:=fun w=>QY e d v w
 unfold Instr.checkKey;simp only[afq,run_underlying Tryz.underlying54,mD];simp[go_sem,part,h1,h2,h3]
theorem aco(e:Bool)(d:Nat)(r:Bool)(u v p:Int)(w:World):(Instr.checkKey e (d+3) 82 (.agg #[.bool r,.int .u64 u,.int .u64 v,.int .u16 p])).run ag w=.ok () w:=by
 have h1:=fun w=>YG e d r u v w
 have h2:=fun w=>aao e (d+1) p w
 unfold Instr.checkKey;simp only[afq,run_underlying Tryz.underlying82,mD];simp[go_sem,part,h1,h2]
theorem Wn(d:Nat)(r:Bool)(u v p:Int):Instr.sameBits (d+1) (.agg #[.bool r,.int .u64 u,.int .u64 v,.int .u16 p]) (.agg #[.bool r,.int .u64 u,.int .u64 v,.int .u16 p])=true:=by
 simp[Instr.sameBits]
theorem QZ(d:Nat)(r:Bool)(u v:Int):Instr.sameBits (d+1) (.agg #[.bool r,.int .u64 u,.int .u64 v]) (.agg #[.bool r,.int .u64 u,.int .u64 v])=true:=by
 simp[Instr.sameBits]
theorem YH:qy ag 54 sR where
 kind:=⟨_,Tryz.underlying54⟩
 agg:=fun a=>⟨_,rfl⟩
 eq:=fun a b w=>by
  rw[←QX];exact tQ a.hi a.lo b.hi b.lo a.v6 b.v6 9997 w
 key:=fun e a w=>YG e 9998 _ _ _ w
 bits:=fun a=>QZ 9999 _ _ _
theorem zD(x y:En)(d:Nat)(w:World):(Op.equalIn (d+4) 82 (sS x) (sS y)).run ag w=.ok (decide (x=y)) w:=by
 have h32:ag.stoodInHeld 82=false:=by kernel_rfl
 have ha:=fun w=>tQ x.1.hi x.1.lo y.1.hi y.1.lo x.1.v6 y.1.v6 d w
 rw[QX]at ha;have hp:∀w,(Op.equalIn (d+3) 80 (.int .u16 (x.2:Int)) (.int .u16 (y.2:Int))).run ag w=.ok (decide (x.2=y.2)) w:=by
  intro w;rw[show decide (x.2=y.2)=((x.2:Int)==(y.2:Int)) by rw[ix,decide_eq_true_eq,beq_iff_eq];omega];simp[go_sem,Tryz.underlying80,Op.equalIn]
 obtain⟨⟨a,b,c⟩,p⟩:=x;obtain⟨⟨a',b',c'⟩,p'⟩:=y;simp only at ha hp;unfold sS vm;rw[run_equalIn_struct w (d+3) 82 _ _ bg h32];simp[go_sem,Tryz.underlying82,part,ha,hp];by_cases h1:a=a'<;>by_cases h2:b=b'<;>by_cases h3:c=c'<;>by_cases h4:p=p'<;>simp[h1,h2,h3,h4]
theorem YI:qy ag 82 sS where
 kind:=⟨_,Tryz.underlying82⟩
 agg:=fun a=>⟨_,rfl⟩
 eq:=fun a b w=>zD a b 9996 w
 key:=fun e a w=>aco e 9997 _ _ _ _ w
 bits:=fun a=>Wn 9999 _ _ _ _
def cL(e:En):List Value:=[.bool e.1.v6,.int .u64 (e.1.hi:Int),.int .u64 (e.1.lo:Int),.int .u16 (e.2:Int)]
def kt(l:List En):List Value:=l.flatMap cL
def bJ(r:Ry):List Value:=[.int .u8 (r.id:Int),.string r.key,.bool r.fin.1.v6,.int .u64 (r.fin.1.hi:Int),.int .u64 (r.fin.1.lo:Int),.int .u16 (r.fin.2:Int)]
def fy(l:List Ry):List Value:=l.flatMap bJ
structure bN where
 p:Pr
 tv:Value
 av:Value
 ev:Value
def bN.vals(X:bN):List Value:=[.string X.p.key,.string X.p.bh,.string X.p.user,X.tv,X.av,.int .u64 (X.p.exp:Int),.int .u8 (X.p.aY:Int),X.ev]
def cD(l:List bN):List Value:=l.flatMap bN.vals
theorem eF(e:En):(cL e).length=4:=rfl
theorem cF(r:Ry):(bJ r).length=6:=rfl
theorem aE(X:bN):X.vals.length=8:=rfl
structure gJ(w:World)(X:bN):Prop where
 tags:aW w X.tv X.p.tags.length 1 (strCells X.p.tags)
 aJ:aW w X.av X.p.aJ.length 3 (cO X.p.aJ)
 ends:aW w X.ev X.p.ends.length 4 (kt X.p.ends)
theorem gJ.below{w w':World}{X:bN}(h:gJ w X)(hb:Below w.heap.size w w'):gJ w' X:=⟨h.tags.below hb,h.aJ.below hb,h.ends.below hb⟩
def dZ(w:World)(v:Value)(l:List Pr):Prop:=∃xs:List bN,xs.map (·.p)=l∧aW w v xs.length 8 (cD xs)∧∀X∈xs,gJ w X
theorem dZ.below{w w':World}{v:Value}{l:List Pr}(h:dZ w v l)(hb:Below w.heap.size w w'):dZ w' v l:=by
 obtain⟨xs,h1,h2,h3⟩:=h;exact⟨xs,h1,h2.below hb,fun X hX=>(h3 X hX).below hb⟩
theorem dZ.shape{w:World}{v:Value}{l:List Pr}(h:dZ w v l):∃A cap,v=.slice A l.length cap:=by
 obtain⟨xs,h1,h2,_⟩:=h;have:=h2.shape;rw[←h1,ax];exact this
def gQ(w:World)(v:Value)(l:List Ry):Prop:=aW w v l.length 6 (fy l)
structure j9(p:Pr):Prop where
 user:p.user.size≤2000000
 tl:p.tags.length≤2000000
 al:p.aJ.length≤2000000
 el:p.ends.length≤2000000
 tags:∀t∈p.tags,t.size≤2000000
theorem od{α:Type}(l:List α)(q:α→Bool):((aA l.length).all fun k=>match l[k]? with|some x=>q x|none=>false)=l.all q:=by
 rw[ix,List.all_eq_true,List.all_eq_true];constructor
 ·intro h x hx;obtain⟨k,hk⟩:=List.getElem?_of_mem hx;have:=h k (List.mem_range.2 (List.getElem?_eq_some_iff.1 hk).1);simpa only[hk]using this
 ·intro h k hk;have hl:=List.mem_range.1 hk;rw[ah hl];exact h _ (bB hl)
theorem il{α:Type}(lt:α→α→Bool):∀l:List α,((aA (l.length-1)).all fun k=>match l[k]?,l[k+1]? with|some x,some y=>lt x y|_,_=>false)=cw lt l
 |[]=>rfl
 |[_]=>rfl
 |x::y::r=>by
  have ih:=il lt (y::r);rw[cw,←ih];simp only[bW,Nat.add_sub_cancel];rw[List.range_succ_eq_map,List.all_cons,List.all_map];rfl
theorem zE{w:World}{A:Option Addr}{cap:Nat}{l:List ByteArray}(h:aW w (.slice A l.length cap) l.length 1 (strCells l)):lZ w A l.length fun k=>l.getD k ⟨#[]⟩:=by
 intro k hk;obtain⟨A',cap',e,_,hc⟩:=h;injection e with e1 _ _
 subst e1;obtain⟨g,o,ha,hcc⟩:=hc aM;refine⟨g,o,ha,hcc k _ ?_⟩;unfold strCells;simp[ah hk]
theorem zF{w:World}{v:Value}{l:List ByteArray}(hr:aW w v l.length 1 (strCells l))(hl:l.length≤4000000)(q:ByteArray→Bool)(f:Nat)(lb:Array Value)(eg:∀args w,(callFunc f args).run ag w=.ok (.enter f args) w)(hf:∀W,Below w.heap.size w W→∀x∈l,Calls ag f (#[.string x]++lb) W (Got (.bool (q x)) W)):Calls ag 50 #[v,.func (.func f) #[] lb] w (Got (.bool (l.all q)) w):=by
 rw[←od];obtain⟨A,cap,rfl⟩:=hr.shape;refine QK hl _ _ (zE hr) f lb eg fun k hk W hW=>?_
 have hxk:l[k]? =some l[k]:=ah hk;simp only[ay,hxk,Option.getD_some];exact hf W hW _ (bB hk)
theorem Jm{w:World}{v:Value}{l:List ByteArray}(hr:aW w v l.length 1 (strCells l))(hl:l.length≤4000000)(q:ByteArray→ByteArray→Bool)(f:Nat)(lb:Array Value)(eg:∀args w,(callFunc f args).run ag w=.ok (.enter f args) w)(hf:∀W,Below w.heap.size w W→∀x y,Calls ag f (#[.string x,.string y]++lb) W (Got (.bool (q x y)) W)):Calls ag 108 #[v,.func (.func f) #[] lb] w (Got (.bool (cw q l)) w):=by
 rw[←il];obtain⟨A,cap,rfl⟩:=hr.shape;refine QM hl _ _ (zE hr) f lb eg fun k hk W hW=>?_
 have hxk:l[k]? =some l[k]:=ah aM;have hyk:l[k+1]? =some l[k+1]:=ah hk;simp only[ay,hxk,hyk,Option.getD_some];exact hf W hW _ _
theorem Q0{w:World}{v:Value}{l:List Ad}(hr:aW w v l.length 3 (cO l))(hl:l.length≤4000000)(q:Ad→Bool)(f:Nat)(lb:Array Value)(eg:∀args w,(callFunc f args).run ag w=.ok (.enter f args) w)(hf:∀W,Below w.heap.size w W→∀x∈l,Calls ag f (#[.agg ((fun a:Ad=>a.cells.toList) x).toArray]++lb) W (Got (.bool (q x)) W)):Calls ag 167 #[v,.func (.func f) #[] lb] w (Got (.bool (l.all q)) w):=by
 rw[←od];obtain⟨A,cap,rfl⟩:=hr.shape;refine Me hl _ _ hr.gm f lb eg fun k hk W hW=>?_
 have hxk:l[k]? =some l[k]:=ah hk;rw[show cO l=l.flatMap (fun a:Ad=>a.cells.toList)from rfl];simp only[hxk];rw[dr (fun a:Ad=>a.cells.toList) 3 (fun a:Ad=>rfl) l k _ hxk];exact hf W hW _ (bB hk)
theorem Q5{w:World}{v:Value}{l:List Ad}(hr:aW w v l.length 3 (cO l))(hl:l.length≤4000000)(q:Ad→Ad→Bool)(f:Nat)(lb:Array Value)(eg:∀args w,(callFunc f args).run ag w=.ok (.enter f args) w)(hf:∀W,Below w.heap.size w W→∀x y,Calls ag f (#[.agg ((fun a:Ad=>a.cells.toList) x).toArray,.agg ((fun a:Ad=>a.cells.toList) y).toArray]++lb) W (Got (.bool (q x y)) W)):Calls ag 168 #[v,.func (.func f) #[] lb] w (Got (.bool (cw q l)) w):=by
 rw[←il];obtain⟨A,cap,rfl⟩:=hr.shape;refine MA hl _ _ hr.gm f lb eg fun k hk W hW=>?_
 have hxk:l[k]? =some l[k]:=ah aM;have hyk:l[k+1]? =some l[k+1]:=ah hk;rw[show cO l=l.flatMap (fun a:Ad=>a.cells.toList)from rfl];simp only[hxk,hyk];rw[dr (fun a:Ad=>a.cells.toList) 3 (fun a:Ad=>rfl) l k _ hxk,dr (fun a:Ad=>a.cells.toList) 3 (fun a:Ad=>rfl) l (k+1) _ hyk];exact hf W hW _ _
theorem Q6{w:World}{v:Value}{l:List Ry}(hr:aW w v l.length 6 (fy l))(hl:l.length≤4000000)(q:Ry→Bool)(f:Nat)(lb:Array Value)(eg:∀args w,(callFunc f args).run ag w=.ok (.enter f args) w)(hf:∀W,Below w.heap.size w W→∀x∈l,Calls ag f (#[.agg (bJ x).toArray]++lb) W (Got (.bool (q x)) W)):Calls ag 129 #[v,.func (.func f) #[] lb] w (Got (.bool (l.all q)) w):=by
 rw[←od];obtain⟨A,cap,rfl⟩:=hr.shape;refine MC hl _ _ hr.gm f lb eg fun k hk W hW=>?_
 have hxk:l[k]? =some l[k]:=ah hk;rw[show fy l=l.flatMap bJ from rfl];simp only[hxk];rw[dr bJ 6 cF l k _ hxk];exact hf W hW _ (bB hk)
theorem Q7{w:World}{v:Value}{l:List Ry}(hr:aW w v l.length 6 (fy l))(hl:l.length≤4000000)(q:Ry→Ry→Bool)(f:Nat)(lb:Array Value)(eg:∀args w,(callFunc f args).run ag w=.ok (.enter f args) w)(hf:∀W,Below w.heap.size w W→∀x y,Calls ag f (#[.agg (bJ x).toArray,.agg (bJ y).toArray]++lb) W (Got (.bool (q x y)) W)):Calls ag 127 #[v,.func (.func f) #[] lb] w (Got (.bool (cw q l)) w):=by
 rw[←il];obtain⟨A,cap,rfl⟩:=hr.shape;refine ME hl _ _ hr.gm f lb eg fun k hk W hW=>?_
 have hxk:l[k]? =some l[k]:=ah aM;have hyk:l[k+1]? =some l[k+1]:=ah hk;rw[show fy l=l.flatMap bJ from rfl];simp only[hxk,hyk];rw[dr bJ 6 cF l k _ hxk,dr bJ 6 cF l (k+1) _ hyk];exact hf W hW _ _
theorem Q8{w:World}{v:Value}{l:List bN}(hr:aW w v l.length 8 (cD l))(hl:l.length≤4000000)(q:bN→Bool)(f:Nat)(lb:Array Value)(eg:∀args w,(callFunc f args).run ag w=.ok (.enter f args) w)(hf:∀W,Below w.heap.size w W→∀x∈l,Calls ag f (#[.agg (bN.vals x).toArray]++lb) W (Got (.bool (q x)) W)):Calls ag 73 #[v,.func (.func f) #[] lb] w (Got (.bool (l.all q)) w):=by
 rw[←od];obtain⟨A,cap,rfl⟩:=hr.shape;refine MG hl _ _ hr.gm f lb eg fun k hk W hW=>?_
 have hxk:l[k]? =some l[k]:=ah hk;rw[show cD l=l.flatMap bN.vals from rfl];simp only[hxk];rw[dr bN.vals 8 aE l k _ hxk];exact hf W hW _ (bB hk)
theorem Q9{w:World}{v:Value}{l:List bN}(hr:aW w v l.length 8 (cD l))(hl:l.length≤4000000)(q:bN→bN→Bool)(f:Nat)(lb:Array Value)(eg:∀args w,(callFunc f args).run ag w=.ok (.enter f args) w)(hf:∀W,Below w.heap.size w W→∀x y,Calls ag f (#[.agg (bN.vals x).toArray,.agg (bN.vals y).toArray]++lb) W (Got (.bool (q x y)) W)):Calls ag 125 #[v,.func (.func f) #[] lb] w (Got (.bool (cw q l)) w):=by
 rw[←il];obtain⟨A,cap,rfl⟩:=hr.shape;refine MI hl _ _ hr.gm f lb eg fun k hk W hW=>?_
 have hxk:l[k]? =some l[k]:=ah aM;have hyk:l[k+1]? =some l[k+1]:=ah hk;rw[show cD l=l.flatMap bN.vals from rfl];simp only[hxk,hyk];rw[dr bN.vals 8 aE l k _ hxk,dr bN.vals 8 aE l (k+1) _ hyk];exact hf W hW _ _
attribute [local go_sem↓] Go.wp_at_zero Go.wp_at_succ
def Put(B b:Nat)(D X:List UInt8)(w:World)(r:Ending)(w':World):Prop:=r=.returned (.tuple #[])∧gP B b (D++X) w'∧Wrote B b w w'
theorem Wrote.low{B b:Nat}{w w1 w2:World}(hB:B≤w.heap.size)(h:Below w.heap.size w w1)(k:Wrote B b w1 w2):Wrote B b w w2:=(Wrote.of hB h).trans k
theorem ip{B b:Nat}{D:List UInt8}{w:World}(L:List ByteArray)(h:gP B b D w)(hL:L.length≤4000000)(hlen:D.length+(fw L).length≤140737488355328)(hBw:B≤w.heap.size)(n:Nat)(hn:n=L.length):Calls ag 28 #[.pointer (some ⟨b,0,none⟩),.slice (some ⟨w.heap.size,0,none⟩) n n] (w.alloc (.cells (L.map Value.string).toArray 9)) fun r w'=>r=.returned (.tuple #[])∧gP B b (D++fw L) w'∧Wrote B b w w':=by
 have hb:=boxed w (.cells (L.map Value.string).toArray 9);refine(put_any L (h.below hb) (aD.new w 9 _) (by have:=h.lt;omega) hL hlen (au hBw hb.size) n hn).mono ?_;rintro r w'⟨rfl,h1,h2⟩;exact⟨rfl,h1,h2.low hBw hb⟩
theorem dV(s:ByteArray):fw [s]=s.data.toList:=by simp[fw]
theorem eE(s t:ByteArray):fw [s,t]=s.data.toList++t.data.toList:=by simp[fw]
theorem Gy(s t u:ByteArray):fw [s,t,u]=s.data.toList++(t.data.toList++u.data.toList):=by simp[fw]
theorem bU(n x:Nat):(be n x).data.toList=fk n x:=by simp[be]
theorem zG(s:ByteArray)(hs:s.size≤32768)(w:World):Calls ag 85 #[.string s] w fun r w'=>(∃t:ByteArray,t.data.toList=pP s∧r=.returned (.tuple #[.string t,.int .i64 0]))∧Below w.heap.size w w':=by
 have hu:=lJ s.size aM;have h1:¬(32768:Int)<(s.size:Int):=by omega
 have h1':¬32768<s.size:=by omega
 have h2:IntKind.u16.wrap (s.size:Int)=(s.size:Int):=by
  show(s.size:Int)%65536=_;omega
 have hx:(be 2 s.size++s).data.toList=pP s:=by
  unfold pP;rw[ByteArray.data_append,Array.toList_append,bU]
 have HX:=ae hx;have h3:¬9223372036854775807<(be 2 s.size).size+s.size:=by rw[UT];omega
 generalize be 2 s.size=T at hu HX h3;have HU:=ae hu;clear hu hs hx;go_enter Tryz.func85,Tryz.ntmps85;go_wp2_with(go_at_call 79;(with_reducible refine(HU.out _).mono ?_);rintro r w2⟨rfl,d2⟩)
 go_ret2;exact⟨⟨_,HX.out,rfl⟩,d2⟩
theorem ny{B b:Nat}{D:List UInt8}{w:World}(s:ByteArray)(hs:s.size≤32768)(h:gP B b D w)(hlen:D.length≤1000000000)(hBw:B≤w.heap.size):Calls ag 34 #[.pointer (some ⟨b,0,none⟩),.string s] w (Put B b D (pP s) w):=by
 have hT:=zG s hs w;have hlx:(pP s).length=2+s.size:=by
  unfold pP;rw[List.length_append,aR,Array.length_toList,ByteArray.size_data]
 have hput:=fun u t(hu:Below w.heap.size w u)(ht:t.data.toList=pP s)=>ip (w:=u) [t] (h.below hu) (by simp) (by rw[dV,ht,hlx];omega) (au hBw hu.size) 1 rfl
 obtain⟨HT,kc,HB⟩:=bj hT hput hBw;unfold Put;clear hT hput hlx h hBw;go_enter Tryz.func34,Tryz.ntmps34;go_wp2_with(first
  |(go_at_call 85;(with_reducible refine HT.out.mono ?_);rintro r w1⟨⟨t,ht,rfl⟩,d1⟩;have Ht:=ae ht;clear ht)
  |(go_at_call 28;(refine(kc.out _ t d1 Ht.out).mono ?_);rintro r w2⟨rfl,p2,k2⟩;rw[dV,Ht.out]at p2))
 go_end0
 exact⟨rfl,p2,k2.low HB.out d1⟩
theorem Jn(a:Ad):(wK a).length≤17:=by
 unfold wK;split<;>simp[aR]
theorem Wp(x:UInt8)(n y:Nat):fw [⟨#[x]⟩,be n y]=x::fk n y:=by rw[eE,bU];rfl
theorem Wq(x:UInt8)(n y k z:Nat):fw [⟨#[x]⟩,be n y,be k z]=x::(fk n y++fk k z):=by rw[Gy,bU,bU];rfl
theorem sT{B b:Nat}{D:List UInt8}{w:World}(a:Ad)(ok:xi a)(h:gP B b D w)(hlen:D.length≤1000000000)(hBw:B≤w.heap.size):Calls ag 82 #[.pointer (some ⟨b,0,none⟩),.agg a.cells] w (Put B b D (wK a) w):=by
 have hb1:=boxed w (.cells a.cells 54);obtain⟨HA,HB1⟩:=aI (aD.new w 54 a.cells) hb1;have hal:=Jn a;obtain⟨X,hX⟩:∃x,x=wK a:=⟨_,rfl⟩;rw[←hX]at hal⊢;have hput:=fun u(L:List ByteArray)(n:Nat)(hu:Below w.heap.size w u)(hL:fw L=X)(hl:L.length≤3)(hn:n=L.length)=>ip (w:=u) L (h.below hu) aM (by rw[hL];omega) (au hBw hu.size) n hn
 obtain⟨kc,HB⟩:=aI hput hBw;have hu64:=fun(x:Nat)(hx:x<18446744073709551616)u=>yG x hx u
 have acp:=fun(x:Nat)(hx:x<4294967296)u=>UY x hx u
 obtain⟨v,hi,lo⟩:=a;have ei:af (w.heap.size≠b):=ae (by have:=h.lt;omega);obtain⟨acr,adY⟩:=aI hu64 acp;unfold Put;unfold Ad.cells at HA HB1⊢;simp only at HA HB1⊢;clear hput hu64 acp hb1 h hBw;cases v with
 |true=>
  obtain⟨oh,ol⟩:hi<18446744073709551616∧lo<18446744073709551616:=by
   rcases ok with h|h
   ·cases h.1
   ·exact h.2
  have HX:=ae (show fw [⟨#[6]⟩,be 8 hi,be 8 lo]=X by rw[Wq,hX];rfl);clear ok hX;go_enter Tryz.func82,Tryz.ntmps82;go_upto_region 1 with fail
  generalize w.alloc (.cells #[.bool true,.int .u64 hi,.int .u64 lo] 54)=w1 at HA HB1⊢;generalize w.heap.size=P at HA ei⊢;obtain⟨a0,a1,a2⟩:=iE HA;go_upto_region 2 with fail
  refine wp_region_held_drew (S:=(fun w'=>w'.cell? ⟨P,1,none⟩=some (.int .u64 hi)∧w'.cell? ⟨P,2,none⟩=some (.int .u64 lo))) bg (⟨a1,a2⟩) (fun hHeld=>?_);refine bm 0 ?_
  refine bm 1 ?_
  refine bm 2 ?_
  refine bm 4 ?_
  refine bm 5 ?_
  refine jk 3 fun K hK=>?_;go_simp;refine(acr.out hi oh _).mono ?_;rintro r wb⟨rfl,db⟩;have eb:=Below.eJ db;clear db;refine hK.out _ _ (⟨ak a1 eb,ak a2 eb⟩) (fun hHeld=>?_);clear hK K;try simp only[cq]
  refine jk 6 fun K hK=>?_;go_simp;refine(acr.out lo ol _).mono ?_;rintro r wc⟨rfl,dc⟩;have ec:=after eb dc;clear dc;refine hK.out _ _ (⟨ak a1 ec,ak a2 ec⟩) (fun hHeld=>?_);clear hK K;try simp only[cq]
  refine jk 7 fun K hK=>?_;go_simp;refine hK.out _ _ (⟨ak a1 (after ec (boxed _ _)),ak a2 (after ec (boxed _ _))⟩) (fun hHeld=>?_);clear hK K;try simp only[cq]
  refine jk 8 fun K hK=>?_;go_simp;refine(kc.out wc [⟨#[6]⟩,be 8 hi,be 8 lo] 3 (after HB1.out ec) HX.out (by simp) rfl).mono ?_;rintro r wd⟨rfl,p2,k2⟩;rw[HX.out]at p2;have k3:=k2.low HB.out (after HB1.out ec);have hA8:=k2.kept _ _ _ (HA.out.below ec HA.out.lt) ei.out aF;refine hK.out _ _ (⟨hA8.cell 1,hA8.cell 2⟩) (fun hHeld=>?_);clear hK K;try simp only[cq]
  refine qR ?_;go_wp2_with fail
  (try simp only[Exit.inBlock,Exit.then])
  refine bodyPost_ret (results_none rfl _ _ _) rfl ?_;exact⟨rfl,p2,k3⟩
 |false=>
  obtain⟨rfl,ol⟩:hi=0∧lo<4294967296:=by
   rcases ok with h|h
   ·exact h.2
   ·cases h.1
  have HX:=ae (show fw [⟨#[4]⟩,be 4 lo]=X by rw[Wp,hX];rfl);have q1:IntKind.u32.wrap (lo:Int)=(lo:Int):=by
   show(lo:Int)%4294967296=_;omega
  clear ok hX;go_enter Tryz.func82,Tryz.ntmps82;go_upto_region 1 with fail
  generalize w.alloc (.cells #[.bool false,.int .u64 ((0:Nat):Int),.int .u64 lo] 54)=w1 at HA HB1⊢;generalize w.heap.size=P at HA ei⊢;obtain⟨a0,a1,a2⟩:=iE HA;go_wp2_with(first
   |(go_at_call 138;(with_reducible refine(adY.out lo ol _).mono ?_);rintro r wb⟨rfl,db⟩)
   |(go_at_call 28;(refine(kc.out wb [⟨#[4]⟩,be 4 lo] 2 (after HB1.out db) HX.out (by simp) rfl).mono ?_);rintro r wd⟨rfl,p2,k2⟩;rw[HX.out]at p2))
  go_end0
  exact⟨rfl,p2,k2.low HB.out (after HB1.out db)⟩
theorem MU(a:Ad):(!(fU a).toList.isEmpty)=a.may:=by
 have h:(fU a).toList=fS a:=by rw[bO];rfl
 rw[h];cases hm:a.may with
 |true=>
  have:=OH hm;cases ht:fS a with
  |nil=>exact absurd ht this
  |cons x l=>rfl
 |false=>
  have:fS a=[]:=by unfold fS;rw[if_pos hm]
  rw[this];rfl
theorem l9{w:World}(env:Env w)(a:Ad)(ok:a.Ok):Calls ag 131 #[.agg a.cells] w (Got (.bool a.may) w):=by
 have ht:=fun u(hu:Below w.heap.size w u)=>qe (env.below hu) a ok
 rw[←MU a];generalize fU a=T at ht⊢;obtain⟨v,h,l⟩:=a;unfold Ad.cells at ht⊢;simp only at ht⊢;have HT:=ae ht;have hb:=boxed w (.cells #[.bool v,.int .u64 h,.int .u64 l] 54);obtain⟨HS,HB⟩:=aI (aD.new w 54 #[.bool v,.int .u64 h,.int .u64 l]) hb;clear ht hb env ok;go_enter Tryz.func131,Tryz.ntmps131;go_upto_region 1 with fail
 generalize w.alloc (.cells #[.bool v,.int .u64 h,.int .u64 l] 54)=w1 at HB HS⊢;generalize w.heap.size=G at HS⊢;obtain⟨s0,s1,s2⟩:=iE HS;go_wp2_with(go_at_call 171;(with_reducible refine(HT.out _ HB.out).mono ?_);rintro r w2⟨rfl,e2⟩)
 go_ret;exact⟨rfl,after HB.out e2⟩
theorem vo(a b:ByteArray)(w:World):Calls ag 109 #[.string a,.string b] w (Got (.bool (qs a b)) w):=by
 go_enter Tryz.func109,Tryz.ntmps109;go_wp2_with fail
 go_ret;exact⟨rfl,Below.refl _ _⟩
theorem nz{w:World}(env:Env w)(s:ByteArray)(hs:s.size≤2000000):Calls ag 72 #[.string s] w (Got (.bool (kq s)) w):=by
 have hp:=parse_any env s hs;unfold dz at hp;have he:(((gy s.data.toList).2.1:Int)==0)=kq s:=by
  unfold kq;rw[ix,beq_iff_eq,decide_eq_true_eq];omega
 generalize kq s=R at he⊢;generalize gy s.data.toList=P at hp he;obtain⟨q,c,n,x⟩:=P;simp only at hp he;have HP:=ae hp;clear hp env;go_enter Tryz.func72,Tryz.ntmps72;go_upto_region 2 with(go_at_call 132;(with_reducible refine HP.out.mono ?_);rintro r w1⟨⟨⟨vg,vt,vh,va⟩,rfl,hrd⟩,b1⟩;(obtain⟨Ag,At,Ah,Aa,cg,ct,ch,ca,hV⟩:=copied hrd);(obtain⟨rfl,rfl,rfl,rfl⟩:vg=_∧vt=_∧vh=_∧va=_:=by simpa using hV);clear hV hrd)
 go_wp2_with fail
 go_ret;exact⟨by rw[←he];rfl,after b1 (eA _ _ _)⟩
theorem Dk(x y:ByteArray)(c1 c2 c3 c4 c5 c6 c7 e1 e2 e3 e4 e5 e6 e7:Value)(w:World):Calls ag 126 #[.agg #[.string x,c1,c2,c3,c4,c5,c6,c7],.agg #[.string y,e1,e2,e3,e4,e5,e6,e7]] w (Got (.bool (qs x y)) w):=by
 have HB:=ae (eA w (.cells #[.string x,c1,c2,c3,c4,c5,c6,c7] 50) (.cells #[.string y,e1,e2,e3,e4,e5,e6,e7] 50));have hp:=aD.new w 50 #[.string x,c1,c2,c3,c4,c5,c6,c7];have HP:=ae (hp.below (boxed _ (.cells #[.string y,e1,e2,e3,e4,e5,e6,e7] 50)) hp.lt);have hq:=aD.new (w.alloc (.cells #[.string x,c1,c2,c3,c4,c5,c6,c7] 50)) 50 #[.string y,e1,e2,e3,e4,e5,e6,e7];rw[show(w.alloc (.cells #[.string x,c1,c2,c3,c4,c5,c6,c7] 50)).heap.size=w.heap.size+1 by simp]at hq;have HQ:=ae hq;clear hp hq;go_enter Tryz.func126,Tryz.ntmps126;go_upto_region 1 with fail
 generalize(w.alloc (.cells #[.string x,c1,c2,c3,c4,c5,c6,c7] 50)).alloc (.cells #[.string y,e1,e2,e3,e4,e5,e6,e7] 50)=w1 at HB HP HQ⊢;generalize w.heap.size+1=Q at HQ⊢;generalize hP:w.heap.size=P at HP⊢;clear hP;have p0:=HP.out.cell 0;have q0:=HQ.out.cell 0;simp at p0 q0;go_wp2_with fail
 go_ret;exact⟨rfl,HB.out⟩
theorem Gz(x y:Nat)(c1 c2 c3 c4 c5 e1 e2 e3 e4 e5:Value)(w:World):Calls ag 128 #[.agg #[.int .u8 x,c1,c2,c3,c4,c5],.agg #[.int .u8 y,e1,e2,e3,e4,e5]] w (Got (.bool (decide (x<y))) w):=by
 have HB:=ae (eA w (.cells #[.int .u8 x,c1,c2,c3,c4,c5] 84) (.cells #[.int .u8 y,e1,e2,e3,e4,e5] 84));have hp:=aD.new w 84 #[.int .u8 x,c1,c2,c3,c4,c5];have HP:=ae (hp.below (boxed _ (.cells #[.int .u8 y,e1,e2,e3,e4,e5] 84)) hp.lt);have hq:=aD.new (w.alloc (.cells #[.int .u8 x,c1,c2,c3,c4,c5] 84)) 84 #[.int .u8 y,e1,e2,e3,e4,e5];rw[show(w.alloc (.cells #[.int .u8 x,c1,c2,c3,c4,c5] 84)).heap.size=w.heap.size+1 by simp]at hq;have HQ:=ae hq;clear hp hq;go_enter Tryz.func128,Tryz.ntmps128;go_upto_region 1 with fail
 generalize(w.alloc (.cells #[.int .u8 x,c1,c2,c3,c4,c5] 84)).alloc (.cells #[.int .u8 y,e1,e2,e3,e4,e5] 84)=w1 at HB HP HQ⊢;generalize w.heap.size+1=Q at HQ⊢;generalize hP:w.heap.size=P at HP⊢;clear hP;have p0:=HP.out.cell 0;have q0:=HQ.out.cell 0;simp at p0 q0;go_wp2_with fail
 go_ret;exact⟨rfl,HB.out⟩
theorem MV(k x:ByteArray)(c1 c2 c3 c4 c5 c6 c7:Value)(g:Nat){w:World}(hg:w.cell? ⟨g,0,none⟩=some (.string k)):Calls ag 100 #[.agg #[.string x,c1,c2,c3,c4,c5,c6,c7],.pointer (some ⟨g,0,none⟩)] w (Got (.bool (decide (x=k))) w):=by
 have hb:=boxed w (.cells #[.string x,c1,c2,c3,c4,c5,c6,c7] 50);have HS:=ae (aD.new w 50 #[.string x,c1,c2,c3,c4,c5,c6,c7]);have g0:=ak hg hb;have HB:=ae hb;rw[show decide (x=k)=(x.toList==k.toList) by rw[eqS,ix,decide_eq_true_eq,decide_eq_true_eq];exact⟨Eq.symm,Eq.symm⟩];clear hg hb;go_enter Tryz.func100,Tryz.ntmps100;go_upto_region 1 with fail
 generalize w.alloc (.cells #[.string x,c1,c2,c3,c4,c5,c6,c7] 50)=w1 at HB HS g0⊢;generalize w.heap.size=G at HS⊢;have s0:=HS.out.cell 0;simp at s0;go_wp2_with fail
 go_ret;exact⟨rfl,HB.out⟩
theorem Dm{w:World}(env:Env w)(c0 c5:Value)(k:ByteArray)(a:Ad)(ok:a.Ok):Calls ag 130 #[.agg #[c0,.string k,.bool a.v6,.int .u64 (a.hi:Int),.int .u64 (a.lo:Int),c5]] w (Got (.bool (decide (k.size=32)&&a.may)) w):=by
 have hm:=fun u(hu:Below w.heap.size w u)=>l9 (env.below hu) a ok
 generalize a.may=M at hm⊢;obtain⟨v,h,l⟩:=a;unfold Ad.cells at hm;simp only at hm⊢;have HM:=ae hm;have hb:=boxed w (.cells #[c0,.string k,.bool v,.int .u64 h,.int .u64 l,c5] 84);obtain⟨HS,HB⟩:=aI (aD.new w 84 #[c0,.string k,.bool v,.int .u64 h,.int .u64 l,c5]) hb;clear hm hb env ok;go_enter Tryz.func130,Tryz.ntmps130;go_upto_region 1 with fail
 generalize w.alloc (.cells #[c0,.string k,.bool v,.int .u64 h,.int .u64 l,c5] 84)=w1 at HB HS⊢;generalize w.heap.size=G at HS⊢;obtain⟨-,s1,s2,s3,s4⟩:=J7 HS;by_cases hk:k.size=32
 ·have e1:((k.size:Int)==32)=true:=by simp;omega
  have HK:=ae hk;clear hk;go_wp2_with(go_at_call 131;(with_reducible refine(HM.out _ HB.out).mono ?_);rintro r w2⟨rfl,e2⟩)
  go_ret;exact⟨by rw[decide_eq_true HK.out];rfl,after HB.out e2⟩
 ·have e1:((k.size:Int)==32)=false:=by simp;omega
  have HK:=ae hk;clear hk;go_wp2_with fail
  go_ret;exact⟨by rw[decide_eq_false HK.out];rfl,HB.out⟩
attribute [local go_sem] dB
def Turns(f:Nat)(lb:Array Value)(cs:Nat→List Value)(q:Nat→Bool)(N m:Nat)(I:Nat→World→Prop):Prop:=∀k,k<N→∀W,I k W→Calls ag f (#[.agg (cs k).toArray]++lb) W fun r W'=>r=.returned (.bool (q k))∧Keeps (fun x=>x=m) W W'∧(q k=false→I (k+1) W')
theorem bu{S:Nat→Prop}{w w':World}{a:Addr}{v:Value}(h:w.cell? a=some v)(k:Keeps S w w')(hs:¬S a.block):w'.cell? a=some v:=by
 have hl:=World.block_lt_of_cell? w _ h;unfold World.cell? at h⊢;rw[k.block _ hl hs];exact h
theorem Keeps.than{S:Nat→Prop}{a w w':World}(h:Keeps S a w)(k:Below w.heap.size w w'):Keeps S a w':=h.trans (Keeps.of_below k fun q hq _=>hq)
def acs(I:Nat→World→Prop):Prop:=∀k W W',I k W→Below W.heap.size W W'→I k W'
theorem MW{w:World}{A:Option Addr}{N cap m:Nat}(hN:N≤4000000)(cs:Nat→List Value)(p:Nat→Bool)(I:Nat→World→Prop)(hc:dh w A N 8 cs)(hA:0<N→∀g o,A=some ⟨g,o,none⟩→g≠m)(f:Nat)(lb:Array Value)(eg:∀args w,(callFunc f args).run ag w=.ok (.enter f args) w)(hf:Turns f lb cs p N m I)(h0:I 0 w):Calls ag 99 #[.slice A N cap,.func (.func f) #[] lb] w fun r w'=>(∃z:Int,r=.returned (.int .i64 z)∧UJ p N z)∧Keeps (fun x=>x=m) w w':=by
 obtain⟨HC,HF,HA,H0⟩:=cH hc hf hA h0;clear hc hf hA h0;go_enter Tryz.func99,Tryz.ntmps99;go_wp2_with fail
 go_loopw [8] (fun v8 wr=>∃k:Nat,k≤N∧v8=.int .i64 k∧af (Keeps (fun x=>x=m) w wr)∧af (∀j,j<k→p j=false)∧af (I k wr)) (fun v8 _=>N-(intOf v8).toNat)
 case atStart=>exact⟨0,Nat.zero_le _,rfl,ae (Keeps.refl _ _),ae (fun j hj=>absurd hj (Nat.not_lt_zero j)),H0⟩
 case round=>
  obtain⟨k,hk,rfl,hb,hno,hi⟩:=hrel;by_cases hlt:k<N
  ·obtain⟨hlen,q,o,rfl,hcell⟩:=HC.out k hlt;have hcall:=HF.out k hlt wr hi.out;generalize hcs:cs k=L at hlen hcell hcall;clear hcs;obtain⟨c0,c1,c2,c3,c4,c5,c6,c7,hL⟩:∃c0 c1 c2 c3 c4 c5 c6 c7,L=[c0,c1,c2,c3,c4,c5,c6,c7]:=by
    match L,hlen with
    |[c0,c1,c2,c3,c4,c5,c6,c7],_=>exact⟨c0,c1,c2,c3,c4,c5,c6,c7,rfl⟩
   subst hL;have d0:=bu (hcell 0 _ rfl) hb.out (HA.out aM _ _ rfl);have d1:=bu (hcell 1 _ rfl) hb.out (HA.out aM _ _ rfl);have d2:=bu (hcell 2 _ rfl) hb.out (HA.out aM _ _ rfl);have d3:=bu (hcell 3 _ rfl) hb.out (HA.out aM _ _ rfl);have d4:=bu (hcell 4 _ rfl) hb.out (HA.out aM _ _ rfl);have d5:=bu (hcell 5 _ rfl) hb.out (HA.out aM _ _ rfl);have d6:=bu (hcell 6 _ rfl) hb.out (HA.out aM _ _ rfl);have d7:=bu (hcell 7 _ rfl) hb.out (HA.out aM _ _ rfl);rw[Nat.add_zero]at d0;have bo:=ae hcall;clear hcall hcell hlen;cases hp:p k with
   |true=>
    rw[hp]at bo;have HP:=ae hp;clear hp;go_wp2_with(go_at_fn f;(with_reducible refine bo.out.mono ?_);rintro r w2⟨rfl,e2,_⟩)
    go_ret;exact⟨⟨_,rfl,.inl ⟨k,hlt,rfl,HP.out,hno.out⟩⟩,hb.out.trans e2⟩
   |false=>
    rw[hp]at bo;have HP:=ae hp;clear hp;go_wp2_with(go_at_fn f;(with_reducible refine bo.out.mono ?_);rintro r w2⟨rfl,e2,i2⟩;have Hi2:=ae (i2 rfl);clear i2)
    go_roundw
    case rel=>
     refine⟨k+1,by omega,by go_num,ae (hb.out.trans e2),ae (fun j hj=>?_),Hi2⟩;by_cases e:j=k
     ·rw[e];exact HP.out
     ·exact hno.out j (by omega)
    case measure=>simp[intOf];omega
  ·obtain rfl:k=N:=by omega
   go_wp2_with fail
   go_ret;exact⟨⟨_,rfl,.inr ⟨rfl,hno.out⟩⟩,hb.out⟩
theorem MX{w:World}{A:Option Addr}{N cap m:Nat}(hN:N≤4000000)(cs:Nat→List Value)(p:Nat→Bool)(I:Nat→World→Prop)(hc:dh w A N 8 cs)(hA:0<N→∀g o,A=some ⟨g,o,none⟩→g≠m)(f:Nat)(lb:Array Value)(eg:∀args w,(callFunc f args).run ag w=.ok (.enter f args) w)(hf:Turns f lb cs p N m I)(h0:I 0 w):Calls ag 133 #[.slice A N cap,.func (.func f) #[] lb] w fun r w'=>r=.returned (.bool ((aA N).any p))∧Keeps (fun x=>x=m) w w':=by
 have HI:=ae (MW (cap:=cap) hN cs p I hc hA f lb eg hf h0);clear hc hf hA h0;generalize hR:(aA N).any p=R;have HR:=ae hR;clear hR;go_enter Tryz.func133,Tryz.ntmps133;go_wp2_with(go_at_call 99;(with_reducible refine HI.out.mono ?_);rintro r w2⟨⟨z,rfl,hz⟩,e2⟩)
 go_ret;exact⟨by rw[←HR.out,←hz.any];rfl,e2⟩
theorem GF{w:World}(L:List Value)(hl:L.length=8)(g:Nat)(f:Nat)(lb:Array Value)(eg:∀args w,(callFunc f args).run ag w=.ok (.enter f args) w)(hg:w.cell? ⟨g,0,none⟩=some (.func (.func f) #[] lb))(b:Bool)(m:Nat)(J:World→Prop)(hf:∀W,Below w.heap.size w W→Calls ag f (#[.agg L.toArray]++lb) W fun r W'=>r=.returned (.bool b)∧Keeps (fun x=>x=m) W W'∧J W'):Calls ag 134 #[.agg L.toArray,.pointer (some ⟨g,0,none⟩)] w fun r W'=>r=.returned (.bool (!b))∧Keeps (fun x=>x=m) w W'∧J W':=by
 obtain⟨c0,c1,c2,c3,c4,c5,c6,c7,hL⟩:∃c0 c1 c2 c3 c4 c5 c6 c7,L=[c0,c1,c2,c3,c4,c5,c6,c7]:=by
  match L,hl with
  |[c0,c1,c2,c3,c4,c5,c6,c7],_=>exact⟨c0,c1,c2,c3,c4,c5,c6,c7,rfl⟩
 subst hL;have HF:=ae hf;have hb:=boxed w (.cells #[c0,c1,c2,c3,c4,c5,c6,c7] 50);have HS:=ae (aD.new w 50 #[c0,c1,c2,c3,c4,c5,c6,c7]);have g0:=ak hg hb;obtain⟨HB,HK⟩:=aI hb ((Keeps.refl (fun x=>x=m) w).than hb);clear hf hg hb hl;go_enter Tryz.func134,Tryz.ntmps134;go_upto_region 1 with fail
 generalize w.alloc (.cells #[c0,c1,c2,c3,c4,c5,c6,c7] 50)=w1 at HB HK HS g0⊢;generalize w.heap.size=G at HS⊢;obtain⟨s0,s1,s2,s3,s4,s5,s6,s7⟩:=cU HS;go_wp2_with(go_at_fn f;(with_reducible refine(HF.out _ HB.out).mono ?_);rintro r w2⟨rfl,e2,j2⟩;have HJ:=ae j2;clear j2)
 go_ret;exact⟨rfl,(HK.out).trans e2,HJ.out⟩
theorem GG{w:World}{A:Option Addr}{N cap m:Nat}(hN:N≤4000000)(cs:Nat→List Value)(p:Nat→Bool)(I:Nat→World→Prop)(hst:acs I)(hm:m<w.heap.size)(hc:dh w A N 8 cs)(hA:0<N→∀g o,A=some ⟨g,o,none⟩→g≠m)(f:Nat)(lb:Array Value)(eg:∀args w,(callFunc f args).run ag w=.ok (.enter f args) w)(hf:∀k,k<N→∀W,I k W→Calls ag f (#[.agg (cs k).toArray]++lb) W fun r W'=>r=.returned (.bool (p k))∧Keeps (fun x=>x=m) W W'∧(p k=true→I (k+1) W'))(h0:I 0 w):Calls ag 73 #[.slice A N cap,.func (.func f) #[] lb] w fun r w'=>r=.returned (.bool ((aA N).all p))∧Keeps (fun x=>x=m) w w':=by
 have hco:=fun u(hu:Below w.heap.size w u)g(hgm:g≠m)(hg:u.cell? ⟨g,0,none⟩=some (.func (.func f) #[] lb))=>MX (cap:=cap) (m:=m) hN cs (fun k=> !p k) (fun k W=>I k W∧W.cell? ⟨g,0,none⟩=some (.func (.func f) #[] lb)) (hc.below hu) hA 134 #[.pointer (some ⟨g,0,none⟩)] (enters_of Tryz.func134 bg rfl)
  (fun k hk W hW=>(GF _ (hc k hk).1 g f lb eg hW.2 (p k) m (fun W'=>p k=true→I (k+1) W') fun W2 hW2=>hf k hk W2 (hst k W W2 hW.1 hW2)).mono fun r W' h=>⟨h.1,h.2.1,fun hn=>⟨h.2.2 (by simpa using hn),bu hW.2 h.2.1 hgm⟩⟩) ⟨hst 0 w u h0 hu,hg⟩
 rw[←qt];generalize((aA N).any fun k=> !p k)=R at hco⊢;have QL:=ae hco;have hb:=boxed w (.cells #[.func (.func f) #[] lb] 109);obtain⟨HG,HB⟩:=aI (show(w.alloc (.cells #[.func (.func f) #[] lb] 109)).cell? ⟨w.heap.size,0,none⟩=some (.func (.func f) #[] lb)from(aD.new w 109 #[.func (.func f) #[] lb]).cell 0) hb;have HM:af (w.heap.size≠m):=ae aM;have HK:=ae ((Keeps.refl (fun x=>x=m) w).than hb);clear hco hc hf hb hst h0 hA hm;go_enter Tryz.func73,Tryz.ntmps73;go_upto_region 1 with fail
 generalize w.alloc (.cells #[.func (.func f) #[] lb] 109)=w1 at HB HG HK⊢;generalize w.heap.size=G at HG HM⊢;go_wp2_with(go_at_call 133;(with_reducible refine(QL.out _ HB.out _ HM.out HG.out).mono ?_);rintro r w2⟨rfl,e2⟩)
 go_ret;exact⟨rfl,HK.out.trans e2⟩
end Go.Proofs.YteflnojjjdkgmaaGreatDoor
