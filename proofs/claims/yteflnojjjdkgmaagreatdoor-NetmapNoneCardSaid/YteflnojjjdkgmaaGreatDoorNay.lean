/- Joined out of: NlP PzF DfC SoA OwA Sort SoB DeA DfD DfE. -/
import Derived.Test.YteflnojjjdkgmaaGreatDoorNax
import Derived.Sort.Grow
import Derived.Laws.OwnMore
import Derived.Shelf.SlSortCmp.NoneTotal
import Derived.Laws.IdiomCopy
set_option linter.unusedVariables false
set_option linter.unusedSimpArgs false
set_option maxHeartbeats 16000000
set_option maxRecDepth 100000
open Array renaming length_toList→ja,getElem?_eq_getElem→jl,getElem?_toList→ae9
open Bool renaming and_eq_true→aV
open Go.Lib renaming hid→ae
open Go.Proofs.Tryz renaming prog→ag,underlying5→bV
open Go.RowKit renaming Hid→af
open Go.Value renaming slice→cJ
open List renaming getElem?_eq_getElem→ah,length_append→ai,range→aA,take_succ_eq_append_getElem→aC,take_of_length_le→aT,getElem?_map→bA,eq_nil_of_length_eq_zero→bF,mem_cons_of_mem→bL,length_cons→bW,mem_cons_self→cj,append_nil→dY,getElem?_eq_none→rZ,length_take→wy,size_toArray→Yk,filter_append→afc,getElem?_take→afi,flatMap_cons→afr,drop_drop→afs,filter_nil→afu
open Nat renaming le_refl→aw,add_zero→dq,lt_succ_self→wz
namespace Go.Proofs.YteflnojjjdkgmaaGreatDoor
theorem Xw{α:Type}(f:α→List UInt8)(k:Nat):∀l:List α,(∀x∈l,(f x).length≤k)→(l.flatMap f).length≤l.length*k:=by
 intro l
 induction l with
 |nil=>intro _;simp
 |cons x r ih=>
  intro h;have h1:=h x (cj ..);have h2:=ih fun y hy=>h y (bL x hy)
  rw[afr,ai,bW,Nat.add_mul];omega
theorem qK{α:Type}(f:α→List UInt8)(k n:Nat)(l:List α)(hn:l.length≤n)(h:∀x∈l,(f x).length≤k):(cB f l).length≤2+n*k:=by
 unfold cB;rw[ai,aR];have:=Xw f k l h;have:l.length*k≤n*k:=Nat.mul_le_mul_right k hn;omega
theorem TL(a:Ad):(wK a).length≤17:=by
 unfold wK;split
 ·rw[bW,ai,aR,aR];omega
 ·rw[bW,aR];omega
theorem TM(e:En):(C0 e).length≤19:=by
 unfold C0;have:=TL e.1;rw[ai,aR];omega
theorem Ip(s:ByteArray):(pP s).length=2+s.size:=by
 unfold pP;rw[ai,aR];rfl
theorem aaQ{p:Pr}(h:kZ p=true):(wL p).length≤1000:=by
 have m:=(ye p).1 h;unfold wL;have e1:=qK pP 34 8 p.tags m.tl (fun t ht=>by rw[Ip];have:=qx (m.tags t ht);omega);have e2:=qK wK 17 4 p.aJ m.al (fun a _=>TL a);have e3:=qK C0 19 8 p.ends m.el (fun e _=>TM e);have e4:=Ip p.user;have e5:=qx m.user;have k1:p.key.data.toList.length=32:=m.key;have k2:p.bh.data.toList.length=32:=m.bh;simp only[ai,aR,k1,k2,e4];omega
theorem aaR{r:Ry}(h:u9 r=true):(C9 r).length≤100:=by
 unfold u9 at h;simp only[aV,decide_eq_true_eq]at h;have k1:r.key.data.toList.length=32:=h.1;have:=TM r.fin;unfold C9;simp only[ai,aR,k1];omega
theorem tZ{m:Mp}(h:ig m=true):(xe m).length≤80000000:=by
 obtain⟨_,h2,h3,h4⟩:=iN h;obtain⟨_,p2,p3⟩:=jh h2;unfold iL at h3;simp only[aV,decide_eq_true_eq]at h3;have e1:=qK wL 1000 64 m.aK p2 (fun p hp=>aaQ (p3 p hp));have e2:=qK C9 100 8 m.aB h3.1.1 (fun r hr=>aaR (List.all_eq_true.1 h3.2 r hr));have e3:=Ip m.policy;have e4:=Di h4;unfold xe;simp only[ai,aR,e3];omega
open Go.ChangeShapes Go.WideShapes Go.ChangeAt Go.RowKit Go.Deep
theorem chunks{α:Type}(k:Nat):∀(n:Nat)(l:List α),l.length=n*k→l=(aA n).flatMap fun i=>(l.drop (i*k)).take k:=by
 intro n
 induction n with
 |zero=>
  intro l h;rw[Nat.zero_mul]at h;rw[bF h];rfl
 |succ n ih=>
  intro l h;rw[List.range_succ_eq_map,afr,List.flatMap_map];have h2:=ih (l.drop k) (by rw[List.length_drop,h,Nat.add_mul];omega);have e:((aA n).flatMap fun i=>(l.drop ((i+1)*k)).take k)=(aA n).flatMap fun i=>((l.drop k).drop (i*k)).take k:=by
   congr 1;funext i;rw[afs,Nat.add_mul,Nat.one_mul,Nat.add_comm]
  show l=(l.drop (0*k)).take k++(aA n).flatMap fun i=>(l.drop ((i+1)*k)).take k
  rw[e,←h2,Nat.zero_mul,List.drop_zero,List.take_append_drop]
theorem aaS{W:World}(h:Lib.VarReads ag W "isthmus/blake.orders" Rows.laid_isthmus_blake_orders):fh W:=by
 obtain⟨g',t',cs,fuel,p,hg',ht',hvar,hd⟩:=h;have hg:ag.globalNamed "isthmus/blake.orders" =some 0:=by kernel_rfl
 have hty:(ag.globals[0]?).map (·.type)=some 302:=by kernel_rfl
 obtain rfl:=Option.some.inj (hg.symm.trans hg');obtain rfl:=Option.some.inj (hty.symm.trans ht');have hu:ag.underlying 302=some (.array 10 301):=by kernel_rfl
 have hu2:ag.underlying 301=some (.array 16 5):=by kernel_rfl
 obtain⟨xs,m,_,hx,hl,hxl,hi⟩:=DataW.trod_array hu hd;have hc1:ag.cellsOf 302=160:=by kernel_rfl
 have hc2:ag.cellsOf 301=16:=by kernel_rfl
 rw[hc1]at hl;rw[hc2]at hi;have e1:(DataW.agg (xs.map (·.1)):DataW Unit)=Rows.laid_isthmus_blake_orders:=(congrArg Prod.fst hx).symm;have e2:(Rows.laid_isthmus_blake_orders:DataW Unit)=.agg (nJ.map fun r=>Lib.tabData .u8 (r.map fun n:Nat=>(n:Int))):=by rfl
 rw[e2]at e1;injection e1 with e1
 have hrow:∀i,i<10→(cs.toList.drop (i*16)).take 16=(nJ.getD i []).map fun n:Nat=>Value.int .u8 n:=fun i hlt=>by
  have h1:=hi i hlt;have hxi:i<xs.length:=by omega
  rw[ah hxi]at h1;have h2:(xs.map (·.1))[i]? =(nJ.map fun r=>Lib.tabData .u8 (r.map fun n:Nat=>(n:Int)))[i]? :=by rw[e1]
  rw[bA,bA,ah hxi,ah (show i<nJ.length from hlt)]at h2;simp only[Option.map_some,Option.some.injEq]at h2;rw[show xs[i]=(xs[i].1,xs[i].2)from rfl,h2]at h1;have h3:=Lib.cells_of_tab hu2 bV d5 hc2 h1;rw[h3,List.getD_eq_getElem?_getD,ah (show i<nJ.length from hlt),Option.getD_some,List.map_map];rfl
 unfold fh;rw[hvar];congr 1;have h5:=chunks 16 10 cs.toList hl;have h6:((aA 10).flatMap fun i=>(cs.toList.drop (i*16)).take 16)=(aA 10).flatMap fun i=>(nJ.getD i []).map fun n:Nat=>Value.int .u8 n:=by
  rw[List.flatMap_def,List.flatMap_def];congr 1;refine List.map_congr_left fun i hi=>hrow i (List.mem_range.1 hi)
 rw[h6]at h5;apply Array.toList_inj.1;rw[h5];rfl
theorem Xx{W:World}(hL:laidMetH ag kY W):fh W:=by
 rw[MakeChecks.laidMetH_plain _ _ _ bg]at hL;exact aaS (Lib.laidMet.reads hL (.tail _ (.tail _ (.tail _ (.tail _ (.tail _ (.tail _ (.head _))))))))
section
variable{H:Type}{enc:TypeId×Value→H}{w:World}{base:Nat}{sp:Nat→Bool}{held:Bool}
end
attribute [local go_sem↓] Go.wp_at_zero Go.wp_at_succ
theorem AtR.some_{l:List Pr}{key:ByteArray}{z:Int}(h:AtR l key z):(mI l key).isSome=decide (0≤z):=by
 rcases h with⟨rfl,h⟩|⟨k,hk,rfl,h⟩
 ·rw[h];rfl
 ·rw[h,decide_eq_true aM];rfl
theorem Iq{w:World}{pv:Value}{ps:List Pr}{g:Nat}(hp:dZ w pv ps)(hl:ps.length≤4000000)(hg:w.cell? ⟨g,1,none⟩=some pv)(k:ByteArray):Calls ag 51 #[.string k,.pointer (some ⟨g,0,none⟩)] w (Got (.bool (mI ps k).isSome) w):=by
 have ha:=nI hp hl k;obtain⟨A,c,e⟩:=hp.shape;subst e;generalize ps.length=NS at*;have HA:=ae ha;clear ha hp hl;go_enter Tryz.func51,Tryz.ntmps51;go_wp2_with(go_at_call 44;(with_reducible refine HA.out.mono ?_);rintro r w2⟨⟨z,rfl,hz⟩,d2⟩;have HZ:=ae hz;clear hz)
 go_ret;exact⟨by rw[HZ.out.some_];rfl,d2⟩
theorem Ir{w:World}{sv gv:Value}{d:Dl}{g:Nat}(hp:dZ w sv d.aN)(hgo:aW w gv d.gone.length 1 (strCells d.gone))(hl:d.aN.length≤4000000)(hl2:d.gone.length≤4000000)(hg2:w.cell? ⟨g,2,none⟩=some sv)(hg3:w.cell? ⟨g,3,none⟩=some gv)(key:ByteArray)(c1 c2 c3 c4 c5 c6 c7:Value){p:Pr}(hk:p.key=key):Calls ag 53 #[.agg #[.string key,c1,c2,c3,c4,c5,c6,c7],.pointer (some ⟨g,0,none⟩)] w (Got (.bool (!stays d p)) w):=by
 have ha:=fun u(hu:Below w.heap.size w u)=>nI (hp.below hu) hl key
 have hc:=fun u(hu:Below w.heap.size w u)=>V1 d.gone hl2 (hgo.below hu) key
 have hR:(!stays d p)=((d.gone.any fun y=>decide (y=key))||(mI d.aN key).isSome):=by
  unfold stays;rw[hk];cases(d.gone.any fun y=>decide (y=key))<;>cases mI d.aN key<;>rfl
 rw[hR];obtain⟨A,c,e⟩:=hp.shape;obtain⟨A2,cc2,e2⟩:=hgo.shape;subst e e2;generalize d.aN.length=NS at*;generalize d.gone.length=NG at*;generalize(d.gone.any fun y=>decide (y=key))=GA at hc⊢;have hb:=boxed w (.cells #[.string key,c1,c2,c3,c4,c5,c6,c7] 50);have HS:=ae (aD.new w 50 #[.string key,c1,c2,c3,c4,c5,c6,c7]);have g2:=ak hg2 hb;have g3:=ak hg3 hb;obtain⟨HB,HA,HC⟩:=bj hb ha hc;clear ha hc hp hgo hl hl2 hg2 hg3 hb hR hk;go_enter Tryz.func53,Tryz.ntmps53;go_upto_region 1 with fail
 generalize w.alloc (.cells #[.string key,c1,c2,c3,c4,c5,c6,c7] 50)=w1 at HB HS g2 g3⊢;generalize w.heap.size=G at HS⊢;have s0:=HS.out.cell 0;simp at s0;cases GA with
 |true=>
  go_wp2_with(go_at_call 54;(with_reducible refine(HC.out _ HB.out).mono ?_);rintro r w2⟨rfl,d2⟩)
  go_ret;exact⟨by simp,after HB.out d2⟩
 |false=>
  go_wp2_with(first
   |(go_at_call 54;(with_reducible refine(HC.out _ HB.out).mono ?_);rintro r w2⟨rfl,d2⟩;have HB2:=aU HB d2;have HS2:=ae (HS.out.below d2 HS.out.lt);have g2:=ak g2 d2;have s0:=HS2.out.cell 0;simp at s0;clear d2)
   |(go_at_call 44;(with_reducible refine(HA.out _ HB2.out).mono ?_);rintro r w3⟨⟨z,rfl,hz⟩,d3⟩;have HZ:=ae hz;clear hz))
  go_ret;exact⟨by rw[HZ.out.some_];simp,after HB2.out d3⟩
def Grew(w w':World):Prop:=∃(q:Nat)(os:Array Obj),w'=Sort.grow (w.drewN q) os
theorem Grew.below{w w':World}(h:Grew w w'):Below w.heap.size w w':=by
 obtain⟨q,os,rfl⟩:=h;exact⟨rfl,rfl,rfl,by simp[Sort.grow,World.drewN],fun k hk=>by simp[Sort.grow,World.drewN,Array.getElem?_append,hk]⟩
theorem Grew.alloc(w:World)(o:Obj):Grew w (w.alloc o):=⟨0,#[o],by rw[Sort.alloc_eq_grow];rfl⟩
theorem Grew.trans{a b c:World}(h:Grew a b)(k:Grew b c):Grew a c:=by
 obtain⟨q,os,rfl⟩:=h;obtain⟨q',os',rfl⟩:=k;exact⟨q+q',os++os',by simp[Sort.grow,World.drewN,Nat.add_assoc,Array.append_assoc]⟩
theorem TN(w:World)(o o':Obj):Grew w ((w.alloc o).alloc o'):=(Grew.alloc w o).trans (Grew.alloc _ o')
def aeo(v:Value)(w:World)(r:Ending)(w':World):Prop:=r=.returned v∧Grew w w'
section
variable{α:Type}(t:α→α→Bool)(j:α→α→α)
end
def yA(xs:List Value)(j:Nat):List Value→List Value
 |[]=>xs
 |v::r=>yA (xs.set j v) (j+1) r
theorem D6:∀(vs:List Value)(xs:List Value)(j t:Nat),(yA xs j vs)[t]? =if j≤t∧t<j+vs.length∧t<xs.length then vs[t-j]? else xs[t]? :=by
 intro vs
 induction vs with
 |nil=>
  intro xs j t;rw[if_neg (by simp;omega)];rfl
 |cons v r ih=>
  intro xs j t;rw[yA,ih,List.length_set,bW];by_cases h1:t=j
  ·subst h1;rw[if_neg aM];by_cases h2:t<xs.length
   ·rw[List.getElem?_set_self h2,if_pos ⟨aw _,by omega,h2⟩,Nat.sub_self];rfl
   ·rw[if_neg aM,rZ (by rw[List.length_set];omega),rZ aM]
  ·rw[List.getElem?_set_ne (Ne.symm h1)];by_cases h2:j+1≤t∧t<j+1+r.length∧t<xs.length
   ·rw[if_pos h2,if_pos ⟨by omega,by omega,h2.2.2⟩,show t-j=(t-(j+1))+1 by omega];rfl
   ·rw[if_neg h2,if_neg aM]
theorem N3{α:Type}(enc:α→List Value)(k:Nat)(hk:∀x,(enc x).length=k)(hk0:0<k)(l:List α){i:Nat}(hi:i<l.length)(x:α):yA (l.flatMap enc) (i*k) (enc x)=(l.set i x).flatMap enc:=by
 have hlen:∀l:List α,(l.flatMap enc).length=l.length*k:=by
  intro l
  induction l with
  |nil=>simp
  |cons y r ih=>rw[afr,ai,ih,hk,bW,Nat.succ_mul,Nat.add_comm]
 have hb:i*k+k≤l.length*k:=by
  have:=Nat.mul_le_mul_right k (show i+1≤l.length from hi);rw[Nat.succ_mul]at this;exact this
 apply List.ext_getElem?;intro t;rw[D6,hk,hlen];by_cases ht:t<l.length*k
 ·have hq:t/k<l.length:=(Nat.div_lt_iff_lt_mul hk0).2 ht;have hr:t%k<k:=Nat.mod_lt _ hk0;have hdm:t/k*k+t%k=t:=by rw[Nat.mul_comm];exact Nat.div_add_mod t k
  have key:∀(m:List α)(y:α),m[t/k]? =some y→(m.flatMap enc)[t]? =(enc y)[t%k]? :=by
   intro m y hy;have h1:=aP enc k hk hy (ah (show t%k<(enc y).length by rw[hk];exact hr));rw[hdm]at h1;rw[h1];exact(ah (show t%k<(enc y).length by rw[hk];exact hr)).symm
  by_cases hti:t/k=i
  ·have h2:i*k≤t∧t<i*k+k∧t<l.length*k:=by rw[←hti];exact⟨by omega,by omega,ht⟩
   rw[if_pos h2,key (l.set i x) x (by rw[hti];exact List.getElem?_set_self hi)];congr 1;rw[←hti];omega
  ·have h2:¬(i*k≤t∧t<i*k+k∧t<l.length*k):=by
    rintro⟨h3,h4,_⟩;apply hti;exact Nat.div_eq_of_lt_le (by rw[Nat.mul_comm]at h3⊢;exact(by rw[Nat.mul_comm];rw[Nat.mul_comm]at h3;exact h3)) (by rw[Nat.succ_mul];exact h4)
   rw[if_neg h2,key l _ (ah hq),key (l.set i x) l[t/k] (by rw[List.getElem?_set_ne (Ne.symm hti)];exact ah hq)]
 ·rw[if_neg aM,rZ (by rw[hlen];omega),rZ (by rw[hlen,List.length_set];omega)]
theorem D7{base g cap n size:Nat}{e:TypeId}:∀(vs:List Value)(w:World)(j:Nat)(xs:List Value),w.ownsRow base e size (.slice (some ⟨g,0,none⟩) n cap) n xs→(w.setCells g j vs).ownsRow base e size (.slice (some ⟨g,0,none⟩) n cap) n (yA xs j vs):=by
 intro vs
 induction vs with
 |nil=>intro w j xs h;exact h
 |cons v r ih=>intro w j xs h;exact ih _ _ _ (World.ownsRow.stored h j v).1
theorem rW{w:World}{base n cap size:Nat}{A:Option Addr}{e:TypeId}{xs:List Value}(h:w.ownsRow base e size (.slice A n cap) n xs)(hn:0<n):∃g,A=some ⟨g,0,none⟩∧base≤g∧g<w.heap.size∧∀j u,xs[j]? =some u→w.cell? ⟨g,j,none⟩=some u:=by
 have h0:=h;rcases h.2 with⟨e0,e1⟩|⟨g,cap',cur,e0,hb,hg,_⟩
 ·omega
 ·injection e0 with e0 e2 e3
  subst e0;refine⟨g,rfl,hb,(Array.getElem?_eq_some_iff.1 hg).1,fun j u hu=>?_⟩;have hj:=(List.getElem?_eq_some_iff.1 hu).1;rw[h0.1]at hj;rw[World.ownsRow.cellAt h0 j hj];exact hu
def JJ(l:List Sp):List Value:=l.flatMap fun s=>s.cells.toList
end Go.Proofs.YteflnojjjdkgmaaGreatDoor
namespace Go.Proofs
open YteflnojjjdkgmaaGreatDoor
open Go.Shelf
def Tryz.sortPe_ren:Go.Shelf.Ren:=⟨fun|6=>56|15=>114|14=>113|28=>152|29=>153|20=>144|21=>145|22=>146|23=>147|24=>148|25=>149|26=>150|27=>151|46=>182|47=>183|48=>184|49=>185|50=>186|57=>229|n=>n,fun|22=>30|24=>50|25=>112|3=>3|39=>164|0=>0|53=>187|55=>22|4=>4|46=>195|45=>194|50=>199|5=>5|9=>9|66=>255|70=>258|76=>294|77=>295|n=>n,fun|n=>n⟩
theorem Tryz.sortPe:Go.Proofs.SlLaysF0.n6 ag Tryz.sortPe_ren:={
 mixed:=by kernel_rfl
 f6:=⟨Tryz.f56.name,by decide,Tryz.func56.trans (congrArg some bg)⟩
 f14:=⟨Tryz.f113.name,by decide,Tryz.func113.trans (congrArg some bg)⟩
 f15:=Tryz.func114.trans (congrArg some bg)
 f20:=⟨Tryz.f144.name,by decide,Tryz.func144.trans (congrArg some bg)⟩
 f21:=⟨Tryz.f145.name,by decide,Tryz.func145.trans (congrArg some bg)⟩
 f22:=⟨Tryz.f146.name,by decide,Tryz.func146.trans (congrArg some bg)⟩
 f23:=⟨Tryz.f147.name,by decide,Tryz.func147.trans (congrArg some bg)⟩
 f24:=⟨Tryz.f148.name,by decide,Tryz.func148.trans (congrArg some bg)⟩
 f25:=⟨Tryz.f149.name,by decide,Tryz.func149.trans (congrArg some bg)⟩
 f26:=⟨Tryz.f150.name,by decide,Tryz.func150.trans (congrArg some bg)⟩
 f27:=⟨Tryz.f151.name,by decide,Tryz.func151.trans (congrArg some bg)⟩
 f28:=Tryz.func152.trans (congrArg some bg)
 f29:=Tryz.func153.trans (congrArg some bg)
 f46:=⟨Tryz.f182.name,by decide,Tryz.func182.trans (congrArg some bg)⟩
 f47:=Tryz.func183.trans (congrArg some bg)
 f48:=Tryz.func184.trans (congrArg some bg)
 f49:=⟨Tryz.f185.name,by decide,Tryz.func185.trans (congrArg some bg)⟩
 f50:=⟨Tryz.f186.name,by decide,Tryz.func186.trans (congrArg some bg)⟩
 f57:=⟨Tryz.f229.name,by decide,Tryz.func229.trans (congrArg some bg)⟩
 t0:=Tryz.underlying0
 a0:=Tryz.isAgg0
 z0:=Tryz.sizeOf0
 v0:=Tryz.zeroValue0
 t3:=Tryz.underlying3
 a3:=Tryz.isAgg3
 z3:=Tryz.sizeOf3
 v3:=Tryz.zeroValue3
 t4:=Tryz.underlying4
 a4:=Tryz.isAgg4
 z4:=Tryz.sizeOf4
 v4:=Tryz.zeroValue4
 t5:=bV
 a5:=Tryz.isAgg5
 z5:=Tryz.sizeOf5
 v5:=Tryz.zeroValue5
 t9:=Tryz.underlying9
 a9:=Tryz.isAgg9
 z9:=Tryz.sizeOf9
 v9:=Tryz.zeroValue9
 t22:=Tryz.underlying30
 a22:=Tryz.isAgg30
 z22:=Tryz.sizeOf30
 v22:=Tryz.zeroValue30
 t25:=Tryz.underlying112
 a25:=Tryz.isAgg112
 z25:=Tryz.sizeOf112
 v25:=Tryz.zeroValue112
 t39:=Tryz.underlying164
 a39:=Tryz.isAgg164
 z39:=Tryz.sizeOf164
 v39:=Tryz.zeroValue164
 t45:=Tryz.underlying194
 a45:=Tryz.isAgg194
 z45:=Tryz.sizeOf194
 v45:=Tryz.zeroValue194
 t46:=Tryz.underlying195
 a46:=Tryz.isAgg195
 z46:=Tryz.sizeOf195
 v46:=Tryz.zeroValue195
 t50:=Tryz.underlying199
 a50:=Tryz.isAgg199
 z50:=Tryz.sizeOf199
 v50:=Tryz.zeroValue199
 t53:=Tryz.underlying187
 a53:=Tryz.isAgg187
 z53:=Tryz.sizeOf187
 v53:=Tryz.zeroValue187
 t55:=Tryz.underlying22
 a55:=Tryz.isAgg22
 z55:=Tryz.sizeOf22
 v55:=Tryz.zeroValue22
 t66:=Tryz.underlying255
 a66:=Tryz.isAgg255
 z66:=Tryz.sizeOf255
 v66:=Tryz.zeroValue255
 t70:=Tryz.underlying258
 a70:=Tryz.isAgg258
 z70:=Tryz.sizeOf258
 v70:=Tryz.zeroValue258
 t76:=Tryz.underlying294
 a76:=Tryz.isAgg294
 z76:=Tryz.sizeOf294
 v76:=Tryz.zeroValue294
 t77:=Tryz.underlying295
 a77:=Tryz.isAgg295
 z77:=Tryz.sizeOf295
 v77:=Tryz.zeroValue295}
end Go.Proofs
namespace Go.Proofs.YteflnojjjdkgmaaGreatDoor
open Go.RowKit Go.Shelf Go.Sort
theorem rX{α:Type}(cells:α→List Value)(size:Nat)(hc:∀x,(cells x).length=size)(l:List α):(l.flatMap cells).length=l.length*size:=by
 induction l with
 |nil=>simp
 |cons x r ih=>rw[afr,ai,ih,hc,bW,Nat.succ_mul,Nat.add_comm]
section
variable{α:Type}[Inhabited α](enc:α→List Value)(k:Nat)(hk:∀x,(enc x).length=k)
include hk in
theorem vV(hk0:0<k)(d:Array α):(flatK enc k d).toList=d.toList.flatMap enc:=by
 apply List.ext_getElem?;intro j;by_cases hj:j<d.size*k
 ·have hq:j/k<d.size:=(Nat.div_lt_iff_lt_mul hk0).2 hj;have hr:j%k<k:=Nat.mod_lt _ hk0;have hx:d.toList[j/k]? =some d[j/k]! :=by
   rw[ae9,jl hq,getElem!_pos d _ hq]
  have hu:∀X:α,(enc X)[j%k]? =some (enc X)[j%k]! :=by
   intro X;have hX:j%k<(enc X).length:=by rw[hk];exact hr
   rw[ah hX,getElem!_pos (enc X) (j%k) hX]
  have h1:=aP enc k hk hx (hu _);rw[Nat.mul_comm,Nat.div_add_mod]at h1;rw[h1,ae9,jl (by rw[size_flatK];exact hj),←getElem!_pos (flatK enc k d) j (by rw[size_flatK];exact hj),get_flatK enc k d j hj]
 ·rw[rZ (by rw[ja,size_flatK];omega),rZ (by rw[rX enc k hk,ja];omega)]
include hk in
theorem N4(hk0:0<k){w:World}{base g n cap:Nat}{e:TypeId}{l:List α}(h:w.ownsRow base e k (.slice (some ⟨g,0,none⟩) n cap) n (l.flatMap enc))(hl:l.length=n):HoldsK enc k w g 0 l.toArray∧g<w.heap.size∧base≤g:=by
 rcases h.2 with⟨e0,_⟩|⟨g',cap',cur,e0,hb,hg,h1,h2,h3,h4⟩
 ·cases e0
 ·injection e0 with e0 _ _
  injection e0 with e0
  injection e0 with e0
  subst e0;refine⟨fun j hj=>?_,(Array.getElem?_eq_some_iff.1 hg).1,hb⟩;rw[size_flatK,Yk,hl]at hj;have hF:=vV enc k hk hk0 l.toArray;have hz:j<(flatK enc k l.toArray).size:=by rw[size_flatK,Yk,hl];exact hj
  have hc:cur[j]? =some (flatK enc k l.toArray)[j]! :=by
   have e:(flatK enc k l.toArray)[j]? =(l.flatMap enc)[j]? :=(ae9).symm.trans (by rw[hF]);rw[getElem!_pos (flatK enc k l.toArray) j hz,←jl hz,e,←h4,afi,if_pos hj,ae9]
  constructor
  ·unfold World.cell?;simp only[hg];rw[if_neg (by simp)];show cur[0+j]? =_;rw[Nat.zero_add,hc];rfl
  ·exact World.ownsRow.frozenAt h _
include hk in
theorem Is(hk0:0<k){w:World}{base g n cap:Nat}{e:TypeId}{l:List α}(h:w.ownsRow base e k (.slice (some ⟨g,0,none⟩) n cap) n (l.flatMap enc))(d:Array α)(hd:d.size=n)(m:Nat)(os:Array Obj):(sortWorldK enc k w g 0 m d os).ownsRow base e k (.slice (some ⟨g,0,none⟩) n cap) n (d.toList.flatMap enc)∧Below base w (sortWorldK enc k w g 0 m d os):=by
 rcases h.2 with⟨e0,_⟩|⟨g',cap',cur,e0,hb,hg,h1,h2,h3,h4⟩
 ·cases e0
 ·injection e0 with e0 _ e3
  injection e0 with e0
  injection e0 with e0
  subst e0 e3;have hgs:=(Array.getElem?_eq_some_iff.1 hg).1;have hF:=vV enc k hk hk0 d;have hFs:(flatK enc k d).size=n*k:=by rw[size_flatK,hd]
  have hnc:n*k≤cap*k:=Nat.mul_le_mul_right k h1;refine⟨⟨by rw[rX enc k hk,ja,hd],.inr ⟨g,cap,putCells id 0 (flatK enc k d) cur,rfl,hb,?_,h1,h2,?_,?_⟩⟩,?_⟩
  ·unfold sortWorldK putRowK putRow mapBlock Sort.grow Sort.ahead;simp only;rw[Array.getElem?_append_left (by rw[Array.size_modify];exact hgs),Array.getElem?_modify,if_pos rfl,hg];rfl
  ·unfold putCells;rw[Array.size_mapIdx];exact h3
  ·apply List.ext_getElem?;intro j;rw[afi];by_cases hj:j<n*k
   ·have hjc:j<cur.size:=by omega
    rw[if_pos hj,←hF,ae9,ae9];unfold putCells;rw[Array.getElem?_mapIdx,jl hjc,Option.map_some,if_pos ⟨Nat.zero_le _,by omega⟩,jl (by rw[hFs];exact hj),Nat.sub_zero,getElem!_pos _ _ (by rw[hFs];exact hj)];rfl
   ·rw[if_neg hj,rZ (by rw[rX enc k hk,ja,hd];omega)]
  ·refine⟨rfl,rfl,rfl,?_,fun q hq=>?_⟩
   ·unfold sortWorldK putRowK putRow mapBlock Sort.grow Sort.ahead;simp
   ·unfold sortWorldK putRowK putRow mapBlock Sort.grow Sort.ahead;simp only;rw[Array.getElem?_append_left (by rw[Array.size_modify];omega),Array.getElem?_modify,if_neg aM]
end
theorem D8{α:Type}[Inhabited α]{lt:α→α→Bool}{l:List α}{d:Array α}(hp:PermIn 0 l.toArray.size l.toArray d)(hs:SortedIn lt 0 l.toArray.size d):d.toList.Perm l∧d.toList.Pairwise fun x y=>lt y x=false:=by
 obtain⟨h1,_,h3⟩:=hp;constructor
 ·have e1:(d.extract 0 l.toArray.size).toList=d.toList:=by rw[←h1,Array.extract_size]
  have e2:(l.toArray.extract 0 l.toArray.size).toList=l:=by rw[Array.extract_size]
  rw[e1,e2]at h3;exact h3
 ·rw[List.pairwise_iff_getElem];intro i j hi hj hij;have hj':j<d.size:=by simpa using hj
  have hi':i<d.size:=by simpa using hi
  have:=hs i j (Nat.zero_le _) hij (by rw[←h1];exact hj');rw[getElem!_pos d _ hj',getElem!_pos d _ hi']at this;simpa using this
instance:Inhabited Ad:=⟨⟨false,0,0⟩⟩
attribute [local go_sem↓] Go.wp_at_zero Go.wp_at_succ
theorem TP{w:World}{base g n cap size:Nat}{e:TypeId}{xs:List Value}(h:w.ownsRow base e size (.slice (some ⟨g,0,none⟩) n cap) n xs){i:Nat}(hi:i≤n):w.ownsRow base e size (.slice (some ⟨g,0,none⟩) i cap) i (xs.take (i*size)):=by
 have hs:i*size≤n*size:=Nat.mul_le_mul_right _ hi;obtain⟨h1,h2⟩:=h;refine⟨by rw[wy,h1];omega,?_⟩;rcases h2 with⟨e0,_⟩|⟨g',cap',cur,e0,hb,hg,c1,c2,c3,c4⟩
 ·cases e0
 ·injection e0 with e0 _ e3
  subst e3;refine .inr ⟨g',cap,cur,by rw[e0],hb,hg,by omega,c2,c3,?_⟩;rw[←c4,List.take_take];congr 1;omega
theorem It:∀(vs:List Value)(xs:List Value)(j:Nat),(yA xs j vs).take j=xs.take j:=by
 intro vs xs j;apply List.ext_getElem?;intro t;rw[afi,afi];split
 ·rw[D6,if_neg aM]
 ·rfl
theorem Xy{w:World}{base g n cap size:Nat}{e:TypeId}{xs:List Value}(h:w.ownsRow base e size (.slice (some ⟨g,0,none⟩) n cap) n xs):n≤cap:=by
 rcases h.2 with⟨e0,_⟩|⟨g',cap',cur,e0,_,_,c1,_⟩
 ·cases e0
 ·injection e0 with _ _ e3
  omega
structure mL(l:List Sp)(i j:Nat)(L:List Sp):Prop where
 ij:i<j
 jn:j≤l.length
 len:L.length=l.length
 head:L.take i=(l.take j).filter uZ
 tail:L.drop j=l.drop j
theorem mL.start{l:List Sp}{k:Nat}{x:Sp}(hx:l[k]? =some x)(hd:uZ x=false)(hn:∀j y,j<k→l[j]? =some y→uZ y=true):mL l k (k+1) l:=by
 have hk:=(List.getElem?_eq_some_iff.1 hx).1;refine⟨wz k,hk,rfl,?_,rfl⟩;rw[aC hk,afc,(List.getElem?_eq_some_iff.1 hx).2];have h1:(l.take k).filter uZ=l.take k:=by
  rw[List.filter_eq_self];intro y hy;obtain⟨j,hj⟩:=List.getElem?_of_mem hy;rw[afi]at hj;split at hj
  ·next hjk=>exact hn j y hjk hj
  ·cases hj
 rw[h1,List.filter_cons_of_neg (by rw[hd];decide),afu,dY]
theorem mL.at_{l L:List Sp}{i j:Nat}(h:mL l i j L){x:Sp}(hx:l[j]? =some x):L[j]? =some x:=by
 have e:(L.drop j)[0]? =(l.drop j)[0]? :=by rw[h.tail]
 rw[List.getElem?_drop,List.getElem?_drop,dq]at e;rw[e,hx]
theorem mL.skip{l L:List Sp}{i j:Nat}(h:mL l i j L){x:Sp}(hx:l[j]? =some x)(hd:uZ x=false):mL l i (j+1) L:=by
 have hj:=(List.getElem?_eq_some_iff.1 hx).1;refine⟨by have:=h.ij;omega,hj,h.len,?_,?_⟩
 ·rw[h.head,aC hj,afc,(List.getElem?_eq_some_iff.1 hx).2,List.filter_cons_of_neg (by rw[hd];decide),afu,dY]
 ·rw[←afs,←afs,h.tail]
theorem mL.keep{l L:List Sp}{i j:Nat}(h:mL l i j L){x:Sp}(hx:l[j]? =some x)(hd:uZ x=true):mL l (i+1) (j+1) (L.set i x):=by
 have hj:=(List.getElem?_eq_some_iff.1 hx).1;have hij:=h.ij;have hil:i<L.length:=by rw[h.len];omega
 refine⟨by omega,hj,by rw[List.length_set,h.len],?_,?_⟩
 ·rw[aC hj,afc,(List.getElem?_eq_some_iff.1 hx).2,List.filter_cons_of_pos hd,afu,←h.head];rw[aC (by rw[List.length_set];exact hil),List.getElem_set_self];congr 1;rw[List.take_set_of_le (aw _)]
 ·rw[List.drop_set_of_lt aM,←afs,←afs,h.tail]
theorem mL.done{l L:List Sp}{i:Nat}(h:mL l i l.length L):L.take i=l.filter uZ:=by
 rw[h.head,aT (aw _)]
theorem Xz:∀(l:List bN)(k:Nat),cD (l.take k)=(cD l).take (k*8):=by
 intro l
 induction l with
 |nil=>intro k;simp[cD]
 |cons x r ih=>
  intro k;cases k with
  |zero=>simp[cD]
  |succ k=>
   have e1:cD (x::r)=x.vals++cD r:=rfl;have e2:cD ((x::r).take (k+1))=x.vals++cD (r.take k):=rfl;rw[e1,e2,ih,show(k+1)*8=x.vals.length+k*8 by rw[aE];omega,List.take_length_add_append]
def mB(n:Nat):List Value:=(Builtin.zeroCells #[.string ⟨#[]⟩,.string ⟨#[]⟩,.string ⟨#[]⟩,.slice none 0 0,.slice none 0 0,.int .u64 0,.int .u8 0,.slice none 0 0] n).toList
theorem TQ(w:World):(zeroValue 50).run ag w=.ok (.agg #[.string ⟨#[]⟩,.string ⟨#[]⟩,.string ⟨#[]⟩,.slice none 0 0,.slice none 0 0,.int .u64 0,.int .u8 0,.slice none 0 0]) w:=by kernel_rfl
theorem Iu(n:Nat):(mB n).length=n*8:=by simp[mB,Builtin.zeroCells]
theorem Iw(n:Nat):∀v∈mB n,v.oneCell'=true:=by
 intro v hv;unfold mB Builtin.zeroCells at hv;rw[Array.toList_map]at hv;obtain⟨i,_,rfl⟩:=List.mem_map.1 hv;have:i%8<8:=Nat.mod_lt _ aF;show((#[.string ⟨#[]⟩,.string ⟨#[]⟩,.string ⟨#[]⟩,.slice none 0 0,.slice none 0 0,.int .u64 0,.int .u8 0,.slice none 0 0]:Array Value)[i%8]!).oneCell'=true;generalize i%8=r at this
 match r,this with
 |0,_=>rfl
 |1,_=>rfl
 |2,_=>rfl
 |3,_=>rfl
 |4,_=>rfl
 |5,_=>rfl
 |6,_=>rfl
 |7,_=>rfl
theorem TR(ty:TypeId){w:World}{base g n cap:Nat}{xs:List Value}(h:w.ownsRow base 50 8 (.slice (some ⟨g,0,none⟩) n cap) n xs){i m c:Nat}(hn:n=i+(m+1)):(Builtin.clear_ #[30] ty #[.slice (some ⟨g,i*8,none⟩) (m+1) c]).run ag w=.ok (.tuple #[]) (w.setCells g (i*8) (mB (m+1))):=by
 have hst:=run_storeCells_cells (P:=ag) g (i*8) (mB (m+1)) 0 w (fun j hj=>?_) (fun j hj=>World.ownsRow.frozenAt h _) (Iw _)
 ·simp only[dq]at hst;have hv:=TQ;unfold mB at hst⊢;simp[Builtin.clear_,run_underlying Tryz.underlying30,hv,Value.cells,hst]
 ·rw[Iu]at hj;have hj2:i*8+0+j<n*8:=by rw[hn];omega
  rw[World.ownsRow.cellAt h _ hj2,ah (by rw[h.1];exact hj2)];rfl
structure qL{α:Type}(t:α→Bool)(l:List α)(i j:Nat)(L:List α):Prop where
 ij:i<j
 jn:j≤l.length
 len:L.length=l.length
 head:L.take i=(l.take j).filter t
 tail:L.drop j=l.drop j
section
variable{α:Type}{t:α→Bool}
theorem qL.start{l:List α}{k:Nat}{x:α}(hx:l[k]? =some x)(hd:t x=false)(hn:∀j y,j<k→l[j]? =some y→t y=true):qL t l k (k+1) l:=by
 have hk:=(List.getElem?_eq_some_iff.1 hx).1;refine⟨wz k,hk,rfl,?_,rfl⟩;rw[aC hk,afc,(List.getElem?_eq_some_iff.1 hx).2];have h1:(l.take k).filter t=l.take k:=by
  rw[List.filter_eq_self];intro y hy;obtain⟨j,hj⟩:=List.getElem?_of_mem hy;rw[afi]at hj;split at hj
  ·next hjk=>exact hn j y hjk hj
  ·cases hj
 rw[h1,List.filter_cons_of_neg (by rw[hd];decide),afu,dY]
theorem qL.at_{l L:List α}{i j:Nat}(h:qL t l i j L){x:α}(hx:l[j]? =some x):L[j]? =some x:=by
 have e:(L.drop j)[0]? =(l.drop j)[0]? :=by rw[h.tail]
 rw[List.getElem?_drop,List.getElem?_drop,dq]at e;rw[e,hx]
theorem qL.skip{l L:List α}{i j:Nat}(h:qL t l i j L){x:α}(hx:l[j]? =some x)(hd:t x=false):qL t l i (j+1) L:=by
 have hj:=(List.getElem?_eq_some_iff.1 hx).1;refine⟨by have:=h.ij;omega,hj,h.len,?_,?_⟩
 ·rw[h.head,aC hj,afc,(List.getElem?_eq_some_iff.1 hx).2,List.filter_cons_of_neg (by rw[hd];decide),afu,dY]
 ·rw[←afs,←afs,h.tail]
theorem qL.keep{l L:List α}{i j:Nat}(h:qL t l i j L){x:α}(hx:l[j]? =some x)(hd:t x=true):qL t l (i+1) (j+1) (L.set i x):=by
 have hj:=(List.getElem?_eq_some_iff.1 hx).1;have hij:=h.ij;have hil:i<L.length:=by rw[h.len];omega
 refine⟨by omega,hj,by rw[List.length_set,h.len],?_,?_⟩
 ·rw[aC hj,afc,(List.getElem?_eq_some_iff.1 hx).2,List.filter_cons_of_pos hd,afu,←h.head];rw[aC (by rw[List.length_set];exact hil),List.getElem_set_self];congr 1;rw[List.take_set_of_le (aw _)]
 ·rw[List.drop_set_of_lt aM,←afs,←afs,h.tail]
theorem qL.done{l L:List α}{i:Nat}(h:qL t l i l.length L):L.take i=l.filter t:=by
 rw[h.head,aT (aw _)]
end
theorem pN{K:Nat→Prop}{g:Nat}{a:World}(hg:K g):∀(vs:List Value)(w:World)(j:Nat),Keeps K a w→Keeps K a (w.setCells g j vs)
 |[],_,_,h=>h
 |v::vs,w,j,h=>pN hg vs _ _ (h.setCell (p:=⟨g,j,none⟩) (Or.inl hg) v)
theorem N5{w:World}{base:Nat}{v:Value}(xs:List bN)(hl:xs.length≤4000000)(how:w.ownsRow base 50 8 v xs.length (cD xs))(hm:∀X∈xs,gJ w X)(t:bN→Bool)(f:Nat)(lb:Array Value)(eg:∀args w,(callFunc f args).run ag w=.ok (.enter f args) w)(hf:∀W,Keeps (fun x=>v.ownBlock=some x) w W→∀X∈xs,Calls ag f (#[.agg X.vals.toArray]++lb) W (Got (.bool (!t X)) W)):Calls ag 52 #[v,.func (.func f) #[] lb] w fun r w'=>(∃A n c,r=.returned (.slice A n c)∧n=(xs.filter t).length∧w'.ownsRow base 50 8 (.slice A n c) n (cD (xs.filter t))∧(.slice A n c:Value).ownBlock=v.ownBlock)∧Keeps (fun x=>v.ownBlock=some x) w w':=by
 obtain⟨A,cap,rfl⟩:=aQ how;have hix:=zM (aW.dn how) hl (fun X=> !t X) f lb eg (fun W hW X hX=>hf W (Keeps.of_below hW fun _ h _=>h) X hX);obtain⟨N,hN⟩:∃n,n=xs.length:=⟨_,rfl⟩;rw[←hN]at hix hl how hf⊢;obtain⟨HIx,HF,UK,HN,HM⟩:=dR hix hf how hN hm;clear hix hf how hN hm;go_enter Tryz.func52,Tryz.ntmps52;go_upto_region 2 with(go_at_call 99;(with_reducible refine HIx.out.mono ?_);rintro r w1⟨⟨z,rfl,hz⟩,d1⟩)
 obtain⟨aaT,D1⟩:=aI (own_below UK.out d1) d1;clear HIx UK d1;rcases hz with⟨k,hk,rfl,hp,hno⟩|⟨rfl,hno⟩
 ·have hkl:k<xs.length:=by have:=HN.out;omega
  have hxk:xs[k]? =some xs[k]:=ah hkl;simp only[hxk]at hp;have hD:=qL.start (t:=t) hxk (by simpa using hp) (fun j y hj hy=>by have:=hno j hj;simp only[hy]at this;simpa using this);have HD:=ae hD;have q0:((k:Int)== -1)=false:=by rw[beq_eq_false_iff_ne];omega
  obtain⟨g,rfl,hbg,hgl,_⟩:=rW aaT.out aM;have K1:=ae (Keeps.of_below (S:=(fun x=>(cJ (some ⟨g,0,none⟩) N cap).ownBlock=some x)) D1.out fun _ h _=>h);clear hp hno hxk hD hgl D1;go_wp2_with fail
  clear q0;go_loopw [5,6] (fun v5 v6 wr=>∃(i j:Nat)(L:List bN),j≤N∧i<j∧v5=.int .i64 i∧v6=.int .i64 j∧af (qL t xs i j L)∧af (wr.ownsRow base 50 8 (.slice (some ⟨g,0,none⟩) N cap) N (cD L))∧af (Keeps (fun x=>(cJ (some ⟨g,0,none⟩) N cap).ownBlock=some x) w wr)) (fun _ v6 _=>N-(intOf v6).toNat)
  case atStart=>exact⟨k,k+1,xs,hk,wz k,rfl,by go_num,HD,aaT,K1⟩
  case round=>
   obtain⟨i,j,L,hj,hij,rfl,rfl,hd,how,hb⟩:=hrel;obtain⟨wo,rfl⟩:∃wo:World,wo=wr:=⟨_,rfl⟩;by_cases hlt:j<N
   ·have hjl:j<xs.length:=by have:=HN.out;omega
    have hXj:xs[j]? =some xs[j]:=ah hjl;have hXm:=List.getElem_mem hjl;have hmX:=HM.out _ hXm;generalize xs[j]=X at hXj hXm hmX;have hcall:=fun W hW=>HF.out W hW X hXm
    have XA:=hd.out.at_ hXj;have hLl:L.length=N:=by rw[hd.out.len,←HN.out]
    obtain⟨g',e',_,hgl,XC⟩:=rW how.out aM;injection e' with e'
    injection e' with e'
    subst e';have hse:=N3 bN.vals 8 aE aF L (i:=i) aM X;obtain⟨B,hB⟩:∃b,b=t X:=⟨_,rfl⟩;rw[←hB]at hcall;have hkeep:=fun h=>hd.out.keep hXj h
    have TS:=fun h=>hd.out.skip hXj h
    rw[←hB]at hkeep TS;obtain⟨XX,hXX⟩:∃x,x=X:=⟨_,rfl⟩;rw[←hXX]at hkeep hse;obtain⟨acX,acY,HXX⟩:=bj hkeep TS hXX;have d0:=XC _ _ (aP bN.vals 8 aE XA (r:=0) rfl);have d1:=XC _ _ (aP bN.vals 8 aE XA (r:=1) rfl);have d2:=XC _ _ (aP bN.vals 8 aE XA (r:=2) rfl);have d3:=XC _ _ (aP bN.vals 8 aE XA (r:=3) rfl);have d4:=XC _ _ (aP bN.vals 8 aE XA (r:=4) rfl);have d5:=XC _ _ (aP bN.vals 8 aE XA (r:=5) rfl);have d6:=XC _ _ (aP bN.vals 8 aE XA (r:=6) rfl);have d7:=XC _ _ (aP bN.vals 8 aE XA (r:=7) rfl);obtain⟨A1,c1,e1⟩:=hmX.tags.shape;obtain⟨A2,c2,e2⟩:=hmX.aJ.shape;obtain⟨A3,c3,e3⟩:=hmX.ends.shape;clear hmX XA;obtain⟨⟨key,bh,user,tags,aJ,ex,aY,ends⟩,tv,av,ev⟩:=X;simp only at e1 e2 e3 d0 d1 d2 d3 d4 d5 d6 d7;subst e1 e2 e3;unfold bN.vals at hcall;simp only at hcall;rw[dq]at d0;have hvl:XX.vals=[.string key,.string bh,.string user,.slice A1 tags.length c1,.slice A2 aJ.length c2,.int .u64 ex,.int .u8 aY,.slice A3 ends.length c3]:=by rw[hXX];rfl
    generalize tags.length=n1 at hcall d3 hvl;generalize aJ.length=n2 at hcall d4 hvl;generalize ends.length=n3 at hcall d7 hvl;obtain⟨bo,Qb,HVl⟩:=bj hcall hse hvl;have hLc:=hLl;clear XC hse hkeep TS hcall hB hXX hXj hXm hd hvl;go_upto_region 8 with fail
    have hbx:=boxed wo (.cells #[.string key,.string bh,.string user,.slice A1 n1 c1,.slice A2 n2 c2,.int .u64 ex,.int .u8 aY,.slice A3 n3 c3] 50);obtain⟨HX,XD,hb5⟩:=bj (aD.new wo 50 #[.string key,.string bh,.string user,.slice A1 n1 c1,.slice A2 n2 c2,.int .u64 ex,.int .u8 aY,.slice A3 n3 c3]) (own_below how.out hbx) (hb.out.than hbx);clear d0 d1 d2 d3 d4 d5 d6 d7 how hb hbx;generalize wo.alloc (.cells #[.string key,.string bh,.string user,.slice A1 n1 c1,.slice A2 n2 c2,.int .u64 ex,.int .u8 aY,.slice A3 n3 c3] 50)=w5 at HX XD hb5⊢;generalize wo.heap.size=XB at HX hgl⊢;obtain⟨a0,a1,a2,a3,a4,a5,a6,a7⟩:=cU HX;cases B with
    |false=>
     have HNx:=ae (acY.out rfl);go_wp2_with(go_at_fn f;(with_reducible refine(bo.out _ hb5.out).mono ?_);rintro r w6⟨rfl,d6⟩)
     go_roundw
     case rel=>exact⟨i,j+1,L,by omega,by omega,rfl,by go_num,HNx,ae (own_below XD.out d6),ae (hb5.out.than d6)⟩
     case measure=>simp[intOf];omega
    |true=>
     have HNx:=ae (acX.out rfl);go_upto_region 9 with(go_at_fn f;(with_reducible refine(bo.out _ hb5.out).mono ?_);rintro r w6⟨rfl,d6⟩)
     obtain⟨aaU,hb6⟩:=aI (own_below XD.out d6) (hb5.out.than d6)
     replace a0:=ak a0 d6
     replace a1:=ak a1 d6
     replace a2:=ak a2 d6
     replace a3:=ak a3 d6
     replace a4:=ak a4 d6
     replace a5:=ak a5 d6
     replace a6:=ak a6 d6
     replace a7:=ak a7 d6
     clear d6 XD hb5 HX;have hiN:i<N:=by omega
     have z:=fun t(ht:t<8)=>World.ownsRow.cellAt aaU.out (i*8+t) (by omega)
     have hv:∀r u,((L[i]' aM).vals)[r]? =some u→(cD L)[i*8+r]? =some u:=fun r u hu=>aP bN.vals 8 aE (ah (show i<L.length by omega)) hu
     generalize L[i]=Z at hv;have z0:w6.cell? ⟨g,i*8+0,none⟩=some (.string Z.p.key):=(z 0 aF).trans (hv 0 _ rfl);have z1:w6.cell? ⟨g,i*8+1,none⟩=some (.string Z.p.bh):=(z 1 aF).trans (hv 1 _ rfl);have z2:w6.cell? ⟨g,i*8+2,none⟩=some (.string Z.p.user):=(z 2 aF).trans (hv 2 _ rfl);have z3:w6.cell? ⟨g,i*8+3,none⟩=some (Z.tv):=(z 3 aF).trans (hv 3 _ rfl);have z4:w6.cell? ⟨g,i*8+4,none⟩=some (Z.av):=(z 4 aF).trans (hv 4 _ rfl);have z5:w6.cell? ⟨g,i*8+5,none⟩=some (.int .u64 (Z.p.exp:Int)):=(z 5 aF).trans (hv 5 _ rfl);have z6:w6.cell? ⟨g,i*8+6,none⟩=some (.int .u8 (Z.p.aY:Int)):=(z 6 aF).trans (hv 6 _ rfl);have z7:w6.cell? ⟨g,i*8+7,none⟩=some (Z.ev):=(z 7 aF).trans (hv 7 _ rfl);have f:=fun t=>World.ownsRow.frozenAt aaU.out (i*8+t)
     have f0:=f 0;have f1:=f 1;have f2:=f 2;have f3:=f 3;have f4:=f 4;have f5:=f 5;have f6:=f 6;have f7:=f 7;simp only[dq]at z0 f0;have TV:=ae (D7 [.string key,.string bh,.string user,.slice A1 n1 c1,.slice A2 n2 c2,.int .u64 ex,.int .u8 aY,.slice A3 n3 c3] w6 (i*8) _ aaU.out);have hb8:=ae (pN (K:=(fun x=>(cJ (some ⟨g,0,none⟩) N cap).ownBlock=some x)) (g:=g) rfl [.string key,.string bh,.string user,.slice A1 n1 c1,.slice A2 n2 c2,.int .u64 ex,.int .u8 aY,.slice A3 n3 c3] w6 (i*8) hb6.out);clear z f hv;go_wp2_with fail
     go_roundw
     case rel=>
      refine⟨i+1,j+1,L.set i XX,by omega,by omega,by go_num,by go_num,HNx,ae ?_,hb8⟩;have h8:=TV.out;have h9:=Qb.out;rw[HVl.out]at h9;rw[show cD L=L.flatMap bN.vals from rfl,h9]at h8;exact h8
     case measure=>simp[intOf];omega
   ·obtain rfl:j=N:=by omega
    have hdone:=hd.out;rw[HN.out]at hdone;have hD:=hdone.done;have hLl:L.length=j:=by rw[hd.out.len,←HN.out]
    obtain⟨m,hm⟩:∃m,j-i=m+1:=⟨j-i-1,by omega⟩;have ae0:=fun ty c=>TR ty how.out (i:=i) (m:=m) (c:=c) (by omega)
    have hcap:=Xy how.out;have TV:=TP (D7 (mB (m+1)) _ (i*8) _ how.out) (show i≤j by omega);rw[It,←Xz,hD]at TV;have hb8:=pN (K:=(fun x=>(cJ (some ⟨g,0,none⟩) j cap).ownBlock=some x)) (g:=g) rfl (mB (m+1)) _ (i*8) hb.out;have hil:(xs.filter t).length=i:=by rw[←hD,wy,hLl];omega
    obtain⟨aep,Hb8,HIL⟩:=bj TV hb8 hil;clear hdone hD hLl TV hb8 hil hd how hb;go_wp2_with fail
    go_ret;exact⟨⟨some ⟨g,0,none⟩,i,cap,rfl,HIL.out.symm,aep.out,rfl⟩,Hb8.out⟩
 ·have hall:xs.filter t=xs:=by
   rw[List.filter_eq_self];intro y hy;obtain⟨j,hj⟩:=List.getElem?_of_mem hy;have:=hno j (by have:=(List.getElem?_eq_some_iff.1 hj).1;have:=HN.out;omega);simp only[hj]at this;simpa using this
  obtain⟨acZ,K1⟩:=aI hall (Keeps.of_below (S:=fun x=>(cJ A N cap).ownBlock=some x) D1.out fun _ h _=>h);clear hno hall;go_wp2_with fail
  go_ret;exact⟨⟨A,N,cap,rfl,by rw[acZ.out];exact HN.out,by rw[acZ.out];exact aaT.out,rfl⟩,K1.out⟩
theorem D9(x y:ByteArray)(c1 c2 c3 c4 c5 c6 c7 e1 e2 e3 e4 e5 e6 e7:Value)(w:World):Calls ag 57 #[.agg #[.string x,c1,c2,c3,c4,c5,c6,c7],.agg #[.string y,e1,e2,e3,e4,e5,e6,e7]] w (aeo (.int .i64 (if qs x y then-1 else 1)) w):=by
 have HB:=ae (TN w (.cells #[.string x,c1,c2,c3,c4,c5,c6,c7] 50) (.cells #[.string y,e1,e2,e3,e4,e5,e6,e7] 50));have hp:=aD.new w 50 #[.string x,c1,c2,c3,c4,c5,c6,c7];have HP:=ae (hp.below (boxed _ (.cells #[.string y,e1,e2,e3,e4,e5,e6,e7] 50)) hp.lt);have hq:=aD.new (w.alloc (.cells #[.string x,c1,c2,c3,c4,c5,c6,c7] 50)) 50 #[.string y,e1,e2,e3,e4,e5,e6,e7];rw[show(w.alloc (.cells #[.string x,c1,c2,c3,c4,c5,c6,c7] 50)).heap.size=w.heap.size+1 by simp]at hq;have HQ:=ae hq;clear hp hq;obtain⟨L,hL⟩:∃L,L=qs x y:=⟨_,rfl⟩;rw[←hL];have q1:Op.bytesLess x.toList y.toList=L:=hL.symm;clear hL;go_enter Tryz.func57,Tryz.ntmps57;go_upto_region 1 with fail
 generalize(w.alloc (.cells #[.string x,c1,c2,c3,c4,c5,c6,c7] 50)).alloc (.cells #[.string y,e1,e2,e3,e4,e5,e6,e7] 50)=w1 at HB HP HQ⊢;generalize w.heap.size+1=Q at HQ⊢;generalize hP:w.heap.size=P at HP⊢;clear hP;have p0:=HP.out.cell 0;have q0:=HQ.out.cell 0;simp at p0 q0;cases L with
 |true=>
  go_wp2_with fail
  go_ret;exact⟨rfl,HB.out⟩
 |false=>
  go_wp2_with fail
  go_ret;exact⟨rfl,HB.out⟩
structure qZ where
 p:Pr
 t:Option Addr×Nat
 a:Option Addr×Nat
 e:Option Addr×Nat
def qZ.v(s:qZ):bN:=⟨s.p,.slice s.t.1 s.p.tags.length s.t.2,.slice s.a.1 s.p.aJ.length s.a.2,.slice s.e.1 s.p.ends.length s.e.2⟩
def qZ.enc(s:qZ):List Value:=s.v.vals
theorem qZ.len(s:qZ):s.enc.length=8:=rfl
theorem qZ.one(s:qZ):∀u∈s.enc,u.oneCell'=true:=by
 intro u hu;unfold qZ.enc bN.vals qZ.v at hu;simp at hu;rcases hu with rfl|rfl|rfl|rfl|rfl|rfl|rfl|rfl<;>rfl
instance:Inhabited qZ:=⟨⟨Pr.zero,(none,0),(none,0),(none,0)⟩⟩
theorem aaV{w:World}:∀xs:List bN,(∀X∈xs,gJ w X)→∃ss:List qZ,ss.map qZ.v=xs:=by
 intro xs
 induction xs with
 |nil=>intro _;exact⟨[],rfl⟩
 |cons X r ih=>
  intro h;obtain⟨ss,hs⟩:=ih fun Y hY=>h Y (bL X hY)
  have hX:=h X (cj ..);obtain⟨A1,c1,e1⟩:=hX.tags.shape;obtain⟨A2,c2,e2⟩:=hX.aJ.shape;obtain⟨A3,c3,e3⟩:=hX.ends.shape;obtain⟨p,tv,av,ev⟩:=X;simp only at e1 e2 e3;subst e1 e2 e3;exact⟨⟨p,(A1,c1),(A2,c2),(A3,c3)⟩::ss,by rw[List.map_cons,hs];rfl⟩
theorem JK(ss:List qZ):cD (ss.map qZ.v)=ss.flatMap qZ.enc:=by
 unfold cD;rw[List.flatMap_map];rfl
def Ec(a b:qZ):Int:=if qs a.p.key b.p.key then-1 else 1
theorem JL(x y:qZ):ltOf Ec x y=qs x.p.key y.p.key:=by
 unfold ltOf Ec;cases qs x.p.key y.p.key<;>rfl
theorem ac0:SWO (ltOf Ec)where
 irrefl x:=by rw[JL];exact iM _
 trans x y z h1 h2:=by rw[JL]at*;exact lj h1 h2
 ntrans x y z h1 h2:=by
  rw[JL]at*;cases h3:qs x.p.key z.p.key with
  |false=>rfl
  |true=>
   rcases rG x.p.key y.p.key with e|h|h
   ·rw[e,h2]at h3;cases h3
   ·rw[h1]at h;cases h
   ·have:=lj h h3;rw[h2]at this;cases this
theorem AA{α:Type}[Inhabited α](enc:α→List Value)(k:Nat)(w:World)(g m:Nat)(d:Array α)(os:Array Obj):Keeps (fun x=>x=g) w (sortWorldK enc k w g 0 m d os):=by
 refine⟨rfl,rfl,rfl,?_,fun q hq hne=>?_⟩
 ·unfold sortWorldK putRowK putRow mapBlock Sort.grow Sort.ahead;simp
 ·unfold sortWorldK putRowK putRow mapBlock Sort.grow Sort.ahead;simp only;rw[Array.getElem?_append_left (by rw[Array.size_modify];omega),Array.getElem?_modify,if_neg aM]
theorem Ix{w:World}{base:Nat}{v:Value}(xs:List bN)(hl:xs.length≤4000000)(how:w.ownsRow base 50 8 v xs.length (cD xs))(hm:∀X∈xs,gJ w X):Calls ag 56 #[v,.func (.func 57) #[] #[]] w fun r w'=>r=.returned (.tuple #[])∧(∃S:List bN,S.Perm xs∧(S.map (·.p)).Pairwise (fun x y=>ef y x=false)∧w'.ownsRow base 50 8 v xs.length (cD S))∧Keeps (fun x=>v.ownBlock=some x) w w':=by
 have eg:∀args w,(callFunc 57 args).run ag w=.ok (.enter 57 args) w:=enters_of Tryz.func57 bg rfl;obtain⟨A,cap,rfl⟩:=aQ how;by_cases h0:xs.length=0
 ·have hx:xs=[]:=bF h0;subst hx;refine(AnyF.slices_SortFunc_none Tryz.sortPe A cap _ w).mono ?_;rintro r w'⟨rfl,rfl⟩;exact⟨rfl,⟨[],List.Perm.refl _,List.Pairwise.nil,how⟩,Keeps.refl _ _⟩
 obtain⟨ss,rfl⟩:=aaV xs hm;rw[List.length_map]at hl how h0⊢;rw[JK]at how;obtain⟨g,rfl,hbg,hgl,_⟩:=rW how aM;obtain⟨hH,hg,hb⟩:=N4 qZ.enc 8 qZ.len aF how rfl;have hcmp:CmpLays ag 57 #[] qZ.enc 8 Ec g 0 ss.toArray.size w:=fun m os dk _ x y=>(D9 x.p.key y.p.key _ _ _ _ _ _ _ _ _ _ _ _ _ _ _).mono fun _ _⟨e,hq⟩=>⟨e,hq⟩
 have hcon:=AnyQ.slices_SortFunc Tryz.sortPe 8 Tryz.isAgg50 Tryz.sizeOf50 qZ.enc qZ.len qZ.one Ec ac0 57 #[] g 0 cap ss.toArray w eg hcmp hH hg (by rw[Yk];omega);refine hcon.mono ?_;rintro r w'⟨rfl,d,n,os,hp,hs,rfl⟩;obtain⟨p1,p2⟩:=D8 hp hs;obtain⟨o1,_⟩:=Is qZ.enc 8 qZ.len aF how d (by have:=hp.1;simpa using this) n os;have hk:=AA qZ.enc 8 w g n d os;refine⟨rfl,⟨d.toList.map qZ.v,p1.map _,?_,by rw[JK];exact o1⟩,⟨hk.os,hk.tape,hk.output,hk.size,fun q hq hne=>hk.block q hq fun e=>hne (by rw[e];rfl)⟩⟩;rw[List.map_map,List.pairwise_map];refine p2.imp fun{x y}hxy=>?_
 rw[JL]at hxy;exact hxy
end Go.Proofs.YteflnojjjdkgmaaGreatDoor
