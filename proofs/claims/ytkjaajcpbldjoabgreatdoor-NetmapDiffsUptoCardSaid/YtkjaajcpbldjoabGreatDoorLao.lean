/- Joined out of: Sort SoB DeA DfD DfE DfF NfG RuC MtA WoA NlA NlQ NlD NbA NdP. -/
import Derived.Shelf.SlSortCmp.NoneTotal
import Derived.Test.YtkjaajcpbldjoabGreatDoorLan
import Derived.Laws.IdiomCopy
set_option linter.unusedVariables false
set_option linter.unusedSimpArgs false
set_option maxHeartbeats 16000000
set_option maxRecDepth 100000
open Array renaming length_toList→fE,getElem?_eq_getElem→kC,getElem?_toList→ahN
open Bool renaming and_eq_true→aU
open Go.Lib renaming hid→ae
open Go.Proofs.Tryz renaming prog→ah,underlying9→bq,underlying5→cD,underlying23→aif
open Go.RowKit renaming Hid→ag
open Go.Value renaming slice→dq
open List renaming getElem?_eq_getElem→af,length_append→aj,length_map→ay,take_succ_eq_append_getElem→aC,take_of_length_le→aN,replicate→aS,eq_nil_of_length_eq_zero→bC,append_nil→ep,length_replicate→lM,getElem?_eq_none→ux,length_take→ze,size_toArray→abh,filter_append→ahR,getElem?_take→ah1,drop_drop→ah7,filter_nil→aia
open Nat renaming le_trans→aw,le_refl→ax,add_zero→cq,lt_succ_self→oG
namespace Go.Proofs
open YtkjaajcpbldjoabGreatDoor
open Go.Shelf
def Tryz.sortPe_ren:Go.Shelf.Ren:=⟨fun|6=>61|15=>111|14=>110|28=>143|29=>144|20=>135|21=>136|22=>137|23=>138|24=>139|25=>140|26=>141|27=>142|46=>167|47=>168|48=>169|49=>170|50=>171|57=>194|n=>n,fun|22=>23|24=>47|25=>105|3=>3|39=>151|0=>0|53=>173|55=>22|4=>4|46=>181|45=>180|50=>185|5=>5|9=>9|66=>227|70=>230|76=>253|77=>254|n=>n,fun|n=>n⟩
theorem Tryz.sortPe:Go.Proofs.SlLaysF0.n6 ah Tryz.sortPe_ren:={
 mixed:=by kernel_rfl
 f6:=⟨Tryz.f61.name,by decide,Tryz.func61.trans (congrArg some bo)⟩
 f14:=⟨Tryz.f110.name,by decide,Tryz.func110.trans (congrArg some bo)⟩
 f15:=Tryz.func111.trans (congrArg some bo)
 f20:=⟨Tryz.f135.name,by decide,Tryz.func135.trans (congrArg some bo)⟩
 f21:=⟨Tryz.f136.name,by decide,Tryz.func136.trans (congrArg some bo)⟩
 f22:=⟨Tryz.f137.name,by decide,Tryz.func137.trans (congrArg some bo)⟩
 f23:=⟨Tryz.f138.name,by decide,Tryz.func138.trans (congrArg some bo)⟩
 f24:=⟨Tryz.f139.name,by decide,Tryz.func139.trans (congrArg some bo)⟩
 f25:=⟨Tryz.f140.name,by decide,Tryz.func140.trans (congrArg some bo)⟩
 f26:=⟨Tryz.f141.name,by decide,Tryz.func141.trans (congrArg some bo)⟩
 f27:=⟨Tryz.f142.name,by decide,Tryz.func142.trans (congrArg some bo)⟩
 f28:=Tryz.func143.trans (congrArg some bo)
 f29:=Tryz.func144.trans (congrArg some bo)
 f46:=⟨Tryz.f167.name,by decide,Tryz.func167.trans (congrArg some bo)⟩
 f47:=Tryz.func168.trans (congrArg some bo)
 f48:=Tryz.func169.trans (congrArg some bo)
 f49:=⟨Tryz.f170.name,by decide,Tryz.func170.trans (congrArg some bo)⟩
 f50:=⟨Tryz.f171.name,by decide,Tryz.func171.trans (congrArg some bo)⟩
 f57:=⟨Tryz.f194.name,by decide,Tryz.func194.trans (congrArg some bo)⟩
 t0:=Tryz.underlying0
 a0:=Tryz.isAgg0
 z0:=Tryz.sizeOf0
 v0:=Tryz.zeroValue0
 t3:=Tryz.underlying3
 a3:=Tryz.isAgg3
 z3:=Tryz.sizeOf3
 v3:=Tryz.zeroValue3
 t4:=Tryz.underlying4
 a4:=Tryz.isAgg4
 z4:=Tryz.sizeOf4
 v4:=Tryz.zeroValue4
 t5:=cD
 a5:=Tryz.isAgg5
 z5:=Tryz.sizeOf5
 v5:=Tryz.zeroValue5
 t9:=bq
 a9:=Tryz.isAgg9
 z9:=Tryz.sizeOf9
 v9:=Tryz.zeroValue9
 t22:=aif
 a22:=Tryz.isAgg23
 z22:=Tryz.sizeOf23
 v22:=Tryz.zeroValue23
 t25:=Tryz.underlying105
 a25:=Tryz.isAgg105
 z25:=Tryz.sizeOf105
 v25:=Tryz.zeroValue105
 t39:=Tryz.underlying151
 a39:=Tryz.isAgg151
 z39:=Tryz.sizeOf151
 v39:=Tryz.zeroValue151
 t45:=Tryz.underlying180
 a45:=Tryz.isAgg180
 z45:=Tryz.sizeOf180
 v45:=Tryz.zeroValue180
 t46:=Tryz.underlying181
 a46:=Tryz.isAgg181
 z46:=Tryz.sizeOf181
 v46:=Tryz.zeroValue181
 t50:=Tryz.underlying185
 a50:=Tryz.isAgg185
 z50:=Tryz.sizeOf185
 v50:=Tryz.zeroValue185
 t53:=Tryz.underlying173
 a53:=Tryz.isAgg173
 z53:=Tryz.sizeOf173
 v53:=Tryz.zeroValue173
 t55:=Tryz.underlying22
 a55:=Tryz.isAgg22
 z55:=Tryz.sizeOf22
 v55:=Tryz.zeroValue22
 t66:=Tryz.underlying227
 a66:=Tryz.isAgg227
 z66:=Tryz.sizeOf227
 v66:=Tryz.zeroValue227
 t70:=Tryz.underlying230
 a70:=Tryz.isAgg230
 z70:=Tryz.sizeOf230
 v70:=Tryz.zeroValue230
 t76:=Tryz.underlying253
 a76:=Tryz.isAgg253
 z76:=Tryz.sizeOf253
 v76:=Tryz.zeroValue253
 t77:=Tryz.underlying254
 a77:=Tryz.isAgg254
 z77:=Tryz.sizeOf254
 v77:=Tryz.zeroValue254}
end Go.Proofs
namespace Go.Proofs.YtkjaajcpbldjoabGreatDoor
open Go.RowKit Go.Shelf Go.Sort
theorem uu{α:Type}(cells:α→List Value)(size:Nat)(hc:∀x,(cells x).length=size)(l:List α):(l.flatMap cells).length=l.length*size:=by
 induction l with
 |nil=>simp
 |cons x r ih=>rw[List.flatMap_cons,aj,ih,hc,List.length_cons,Nat.succ_mul,Nat.add_comm]
section
variable{α:Type}[Inhabited α](enc:α→List Value)(k:Nat)(hk:∀x,(enc x).length=k)
include hk in
theorem yT(hk0:0<k)(d:Array α):(flatK enc k d).toList=d.toList.flatMap enc:=by
 apply List.ext_getElem?;intro j;by_cases hj:j<d.size*k
 ·have hq:j/k<d.size:=(Nat.div_lt_iff_lt_mul hk0).2 hj;have hr:j%k<k:=Nat.mod_lt _ hk0;have hx:d.toList[j/k]? =some d[j/k]! :=by
   rw[ahN,kC hq,getElem!_pos d _ hq]
  have hu:∀X:α,(enc X)[j%k]? =some (enc X)[j%k]! :=by
   intro X;have hX:j%k<(enc X).length:=by rw[hk];exact hr
   rw[af hX,getElem!_pos (enc X) (j%k) hX]
  have h1:=aD enc k hk hx (hu _);rw[Nat.mul_comm,Nat.div_add_mod]at h1;rw[h1,ahN,kC (by rw[size_flatK];exact hj),←getElem!_pos (flatK enc k d) j (by rw[size_flatK];exact hj),get_flatK enc k d j hj]
 ·rw[ux (by rw[fE,size_flatK];omega),ux (by rw[uu enc k hk,fE];omega)]
include hk in
theorem Ss(hk0:0<k){w:World}{base g n cap:Nat}{e:TypeId}{l:List α}(h:w.ownsRow base e k (.slice (some ⟨g,0,none⟩) n cap) n (l.flatMap enc))(hl:l.length=n):HoldsK enc k w g 0 l.toArray∧g<w.heap.size∧base≤g:=by
 rcases h.2 with⟨e0,_⟩|⟨g',cap',cur,e0,hb,hg,h1,h2,h3,h4⟩
 ·cases e0
 ·injection e0 with e0 _ _
  injection e0 with e0
  injection e0 with e0
  subst e0;refine⟨fun j hj=>?_,(Array.getElem?_eq_some_iff.1 hg).1,hb⟩;rw[size_flatK,abh,hl]at hj;have hF:=yT enc k hk hk0 l.toArray;have hz:j<(flatK enc k l.toArray).size:=by rw[size_flatK,abh,hl];exact hj
  have hc:cur[j]? =some (flatK enc k l.toArray)[j]! :=by
   have e:(flatK enc k l.toArray)[j]? =(l.flatMap enc)[j]? :=(ahN).symm.trans (by rw[hF]);rw[getElem!_pos (flatK enc k l.toArray) j hz,←kC hz,e,←h4,ah1,if_pos hj,ahN]
  constructor
  ·unfold World.cell?;simp only[hg];rw[if_neg (by simp)];show cur[0+j]? =_;rw[Nat.zero_add,hc];rfl
  ·exact World.ownsRow.frozenAt h _
include hk in
theorem LX(hk0:0<k){w:World}{base g n cap:Nat}{e:TypeId}{l:List α}(h:w.ownsRow base e k (.slice (some ⟨g,0,none⟩) n cap) n (l.flatMap enc))(d:Array α)(hd:d.size=n)(m:Nat)(os:Array Obj):(sortWorldK enc k w g 0 m d os).ownsRow base e k (.slice (some ⟨g,0,none⟩) n cap) n (d.toList.flatMap enc)∧Below base w (sortWorldK enc k w g 0 m d os):=by
 rcases h.2 with⟨e0,_⟩|⟨g',cap',cur,e0,hb,hg,h1,h2,h3,h4⟩
 ·cases e0
 ·injection e0 with e0 _ e3
  injection e0 with e0
  injection e0 with e0
  subst e0 e3;have hgs:=(Array.getElem?_eq_some_iff.1 hg).1;have hF:=yT enc k hk hk0 d;have hFs:(flatK enc k d).size=n*k:=by rw[size_flatK,hd]
  have hnc:n*k≤cap*k:=Nat.mul_le_mul_right k h1;refine⟨⟨by rw[uu enc k hk,fE,hd],.inr ⟨g,cap,putCells id 0 (flatK enc k d) cur,rfl,hb,?_,h1,h2,?_,?_⟩⟩,?_⟩
  ·unfold sortWorldK putRowK putRow mapBlock Sort.grow Sort.ahead;simp only;rw[Array.getElem?_append_left (by rw[Array.size_modify];exact hgs),Array.getElem?_modify,if_pos rfl,hg];rfl
  ·unfold putCells;rw[Array.size_mapIdx];exact h3
  ·apply List.ext_getElem?;intro j;rw[ah1];by_cases hj:j<n*k
   ·have hjc:j<cur.size:=by omega
    rw[if_pos hj,←hF,ahN,ahN];unfold putCells;rw[Array.getElem?_mapIdx,kC hjc,Option.map_some,if_pos ⟨Nat.zero_le _,by omega⟩,kC (by rw[hFs];exact hj),Nat.sub_zero,getElem!_pos _ _ (by rw[hFs];exact hj)];rfl
   ·rw[if_neg hj,ux (by rw[uu enc k hk,fE,hd];omega)]
  ·refine⟨rfl,rfl,rfl,?_,fun q hq=>?_⟩
   ·unfold sortWorldK putRowK putRow mapBlock Sort.grow Sort.ahead;simp
   ·unfold sortWorldK putRowK putRow mapBlock Sort.grow Sort.ahead;simp only;rw[Array.getElem?_append_left (by rw[Array.size_modify];omega),Array.getElem?_modify,if_neg aR]
end
theorem Ij{α:Type}[Inhabited α]{lt:α→α→Bool}{l:List α}{d:Array α}(hp:PermIn 0 l.toArray.size l.toArray d)(hs:SortedIn lt 0 l.toArray.size d):d.toList.Perm l∧d.toList.Pairwise fun x y=>lt y x=false:=by
 obtain⟨h1,_,h3⟩:=hp;constructor
 ·have e1:(d.extract 0 l.toArray.size).toList=d.toList:=by rw[←h1,Array.extract_size]
  have e2:(l.toArray.extract 0 l.toArray.size).toList=l:=by rw[Array.extract_size]
  rw[e1,e2]at h3;exact h3
 ·rw[List.pairwise_iff_getElem];intro i j hi hj hij;have hj':j<d.size:=by simpa using hj
  have hi':i<d.size:=by simpa using hi
  have:=hs i j (Nat.zero_le _) hij (by rw[←h1];exact hj');rw[getElem!_pos d _ hj',getElem!_pos d _ hi']at this;simpa using this
instance:Inhabited Ad:=⟨⟨false,0,0⟩⟩
attribute [local go_sem↓] Go.wp_at_zero Go.wp_at_succ
theorem Xt{w:World}{base g n cap size:Nat}{e:TypeId}{xs:List Value}(h:w.ownsRow base e size (.slice (some ⟨g,0,none⟩) n cap) n xs){i:Nat}(hi:i≤n):w.ownsRow base e size (.slice (some ⟨g,0,none⟩) i cap) i (xs.take (i*size)):=by
 have hs:i*size≤n*size:=Nat.mul_le_mul_right _ hi;obtain⟨h1,h2⟩:=h;refine⟨by rw[ze,h1];omega,?_⟩;rcases h2 with⟨e0,_⟩|⟨g',cap',cur,e0,hb,hg,c1,c2,c3,c4⟩
 ·cases e0
 ·injection e0 with e0 _ e3
  subst e3;refine .inr ⟨g',cap,cur,by rw[e0],hb,hg,by omega,c2,c3,?_⟩;rw[←c4,List.take_take];congr 1;omega
theorem LY:∀(vs:List Value)(xs:List Value)(j:Nat),(BJ xs j vs).take j=xs.take j:=by
 intro vs xs j;apply List.ext_getElem?;intro t;rw[ah1,ah1];split
 ·rw[Ih,if_neg aR]
 ·rfl
theorem aaP{w:World}{base g n cap size:Nat}{e:TypeId}{xs:List Value}(h:w.ownsRow base e size (.slice (some ⟨g,0,none⟩) n cap) n xs):n≤cap:=by
 rcases h.2 with⟨e0,_⟩|⟨g',cap',cur,e0,_,_,c1,_⟩
 ·cases e0
 ·injection e0 with _ _ e3
  omega
structure oq(l:List Sp)(i j:Nat)(L:List Sp):Prop where
 ij:i<j
 jn:j≤l.length
 len:L.length=l.length
 head:L.take i=(l.take j).filter xU
 tail:L.drop j=l.drop j
theorem oq.start{l:List Sp}{k:Nat}{x:Sp}(hx:l[k]? =some x)(hd:xU x=false)(hn:∀j y,j<k→l[j]? =some y→xU y=true):oq l k (k+1) l:=by
 have hk:=(List.getElem?_eq_some_iff.1 hx).1;refine⟨oG k,hk,rfl,?_,rfl⟩;rw[aC hk,ahR,(List.getElem?_eq_some_iff.1 hx).2];have h1:(l.take k).filter xU=l.take k:=by
  rw[List.filter_eq_self];intro y hy;obtain⟨j,hj⟩:=List.getElem?_of_mem hy;rw[ah1]at hj;split at hj
  ·next hjk=>exact hn j y hjk hj
  ·cases hj
 rw[h1,List.filter_cons_of_neg (by rw[hd];decide),aia,ep]
theorem oq.at_{l L:List Sp}{i j:Nat}(h:oq l i j L){x:Sp}(hx:l[j]? =some x):L[j]? =some x:=by
 have e:(L.drop j)[0]? =(l.drop j)[0]? :=by rw[h.tail]
 rw[List.getElem?_drop,List.getElem?_drop,cq]at e;rw[e,hx]
theorem oq.skip{l L:List Sp}{i j:Nat}(h:oq l i j L){x:Sp}(hx:l[j]? =some x)(hd:xU x=false):oq l i (j+1) L:=by
 have hj:=(List.getElem?_eq_some_iff.1 hx).1;refine⟨by have:=h.ij;omega,hj,h.len,?_,?_⟩
 ·rw[h.head,aC hj,ahR,(List.getElem?_eq_some_iff.1 hx).2,List.filter_cons_of_neg (by rw[hd];decide),aia,ep]
 ·rw[←ah7,←ah7,h.tail]
theorem oq.keep{l L:List Sp}{i j:Nat}(h:oq l i j L){x:Sp}(hx:l[j]? =some x)(hd:xU x=true):oq l (i+1) (j+1) (L.set i x):=by
 have hj:=(List.getElem?_eq_some_iff.1 hx).1;have hij:=h.ij;have hil:i<L.length:=by rw[h.len];omega
 refine⟨by omega,hj,by rw[List.length_set,h.len],?_,?_⟩
 ·rw[aC hj,ahR,(List.getElem?_eq_some_iff.1 hx).2,List.filter_cons_of_pos hd,aia,←h.head];rw[aC (by rw[List.length_set];exact hil),List.getElem_set_self];congr 1;rw[List.take_set_of_le (ax _)]
 ·rw[List.drop_set_of_lt aR,←ah7,←ah7,h.tail]
theorem oq.done{l L:List Sp}{i:Nat}(h:oq l i l.length L):L.take i=l.filter xU:=by
 rw[h.head,aN (ax _)]
theorem aaQ:∀(l:List bS)(k:Nat),cY (l.take k)=(cY l).take (k*8):=by
 intro l
 induction l with
 |nil=>intro k;simp[cY]
 |cons x r ih=>
  intro k;cases k with
  |zero=>simp[cY]
  |succ k=>
   have e1:cY (x::r)=x.vals++cY r:=rfl;have e2:cY ((x::r).take (k+1))=x.vals++cY (r.take k):=rfl;rw[e1,e2,ih,show(k+1)*8=x.vals.length+k*8 by rw[aB];omega,List.take_length_add_append]
def nV(n:Nat):List Value:=(Builtin.zeroCells #[aG,aG,aG,au,au,.int .u64 0,.int .u8 0,au] n).toList
theorem Xu(w:World):(zeroValue 47).run ah w=.ok (.agg #[aG,aG,aG,au,au,.int .u64 0,.int .u8 0,au]) w:=by kernel_rfl
theorem LZ(n:Nat):(nV n).length=n*8:=by simp[nV,Builtin.zeroCells]
theorem L6(n:Nat):∀v∈nV n,v.oneCell'=true:=by
 intro v hv;unfold nV Builtin.zeroCells at hv;rw[Array.toList_map]at hv;obtain⟨i,_,rfl⟩:=List.mem_map.1 hv;have:i%8<8:=Nat.mod_lt _ aJ;show((#[aG,aG,aG,au,au,.int .u64 0,.int .u8 0,au]:Array Value)[i%8]!).oneCell'=true;generalize i%8=r at this
 match r,this with
 |0,_=>rfl
 |1,_=>rfl
 |2,_=>rfl
 |3,_=>rfl
 |4,_=>rfl
 |5,_=>rfl
 |6,_=>rfl
 |7,_=>rfl
theorem Xv(ty:TypeId){w:World}{base g n cap:Nat}{xs:List Value}(h:w.ownsRow base 47 8 (.slice (some ⟨g,0,none⟩) n cap) n xs){i m c:Nat}(hn:n=i+(m+1)):(Builtin.clear_ #[23] ty #[.slice (some ⟨g,i*8,none⟩) (m+1) c]).run ah w=.ok (.tuple #[]) (w.setCells g (i*8) (nV (m+1))):=by
 have hst:=run_storeCells_cells (P:=ah) g (i*8) (nV (m+1)) 0 w (fun j hj=>?_) (fun j hj=>World.ownsRow.frozenAt h _) (L6 _)
 ·simp only[cq]at hst;have hv:=Xu;unfold nV at hst⊢;simp[Builtin.clear_,run_underlying aif,hv,Value.cells,hst]
 ·rw[LZ]at hj;have hj2:i*8+0+j<n*8:=by rw[hn];omega
  rw[World.ownsRow.cellAt h _ hj2,af (by rw[h.1];exact hj2)];rfl
structure sP{α:Type}(t:α→Bool)(l:List α)(i j:Nat)(L:List α):Prop where
 ij:i<j
 jn:j≤l.length
 len:L.length=l.length
 head:L.take i=(l.take j).filter t
 tail:L.drop j=l.drop j
section
variable{α:Type}{t:α→Bool}
theorem sP.start{l:List α}{k:Nat}{x:α}(hx:l[k]? =some x)(hd:t x=false)(hn:∀j y,j<k→l[j]? =some y→t y=true):sP t l k (k+1) l:=by
 have hk:=(List.getElem?_eq_some_iff.1 hx).1;refine⟨oG k,hk,rfl,?_,rfl⟩;rw[aC hk,ahR,(List.getElem?_eq_some_iff.1 hx).2];have h1:(l.take k).filter t=l.take k:=by
  rw[List.filter_eq_self];intro y hy;obtain⟨j,hj⟩:=List.getElem?_of_mem hy;rw[ah1]at hj;split at hj
  ·next hjk=>exact hn j y hjk hj
  ·cases hj
 rw[h1,List.filter_cons_of_neg (by rw[hd];decide),aia,ep]
theorem sP.at_{l L:List α}{i j:Nat}(h:sP t l i j L){x:α}(hx:l[j]? =some x):L[j]? =some x:=by
 have e:(L.drop j)[0]? =(l.drop j)[0]? :=by rw[h.tail]
 rw[List.getElem?_drop,List.getElem?_drop,cq]at e;rw[e,hx]
theorem sP.skip{l L:List α}{i j:Nat}(h:sP t l i j L){x:α}(hx:l[j]? =some x)(hd:t x=false):sP t l i (j+1) L:=by
 have hj:=(List.getElem?_eq_some_iff.1 hx).1;refine⟨by have:=h.ij;omega,hj,h.len,?_,?_⟩
 ·rw[h.head,aC hj,ahR,(List.getElem?_eq_some_iff.1 hx).2,List.filter_cons_of_neg (by rw[hd];decide),aia,ep]
 ·rw[←ah7,←ah7,h.tail]
theorem sP.keep{l L:List α}{i j:Nat}(h:sP t l i j L){x:α}(hx:l[j]? =some x)(hd:t x=true):sP t l (i+1) (j+1) (L.set i x):=by
 have hj:=(List.getElem?_eq_some_iff.1 hx).1;have hij:=h.ij;have hil:i<L.length:=by rw[h.len];omega
 refine⟨by omega,hj,by rw[List.length_set,h.len],?_,?_⟩
 ·rw[aC hj,ahR,(List.getElem?_eq_some_iff.1 hx).2,List.filter_cons_of_pos hd,aia,←h.head];rw[aC (by rw[List.length_set];exact hil),List.getElem_set_self];congr 1;rw[List.take_set_of_le (ax _)]
 ·rw[List.drop_set_of_lt aR,←ah7,←ah7,h.tail]
theorem sP.done{l L:List α}{i:Nat}(h:sP t l i l.length L):L.take i=l.filter t:=by
 rw[h.head,aN (ax _)]
end
theorem rA{K:Nat→Prop}{g:Nat}{a:World}(hg:K g):∀(vs:List Value)(w:World)(j:Nat),Keeps K a w→Keeps K a (w.setCells g j vs)
 |[],_,_,h=>h
 |v::vs,w,j,h=>rA hg vs _ _ (h.setCell (p:=⟨g,j,none⟩) (Or.inl hg) v)
theorem Sv{w:World}{base:Nat}{v:Value}(xs:List bS)(hl:xs.length≤4000000)(how:w.ownsRow base 47 8 v xs.length (cY xs))(hm:∀X∈xs,fc w X)(t:bS→Bool)(f:Nat)(lb:Array Value)(eg:∀args w,(callFunc f args).run ah w=.ok (.enter f args) w)(hf:∀W,Keeps (fun x=>v.ownBlock=some x) w W→∀X∈xs,Calls ah f (#[.agg X.vals.toArray]++lb) W (Got (.bool (!t X)) W)):Calls ah 57 #[v,.func (.func f) #[] lb] w fun r w'=>(∃A n c,r=.returned (.slice A n c)∧n=(xs.filter t).length∧w'.ownsRow base 47 8 (.slice A n c) n (cY (xs.filter t))∧(.slice A n c:Value).ownBlock=v.ownBlock)∧Keeps (fun x=>v.ownBlock=some x) w w':=by
 obtain⟨A,cap,rfl⟩:=aX how;have hix:=DC (a8.di how) hl (fun X=> !t X) f lb eg (fun W hW X hX=>hf W (Keeps.of_below hW fun _ h _=>h) X hX);obtain⟨N,hN⟩:=bw xs.length;rw[←hN]at hix hl how hf⊢;obtain⟨HIx,HF,IK,HN,HM⟩:=eB hix hf how hN hm;clear hix hf how hN hm;go_enter Tryz.func57,Tryz.ntmps57;go_upto_region 2 with(go_at_call 71;refine HIx.out.mono ?_;rintro r w1⟨⟨z,rfl,hz⟩,d1⟩)
 obtain⟨adF,D1⟩:=aL (own_below IK.out d1) d1;clear HIx IK d1;rcases hz with⟨k,hk,rfl,hp,hno⟩|⟨rfl,hno⟩
 ·have hkl:k<xs.length:=by have:=HN.out;omega
  have hxk:xs[k]? =some xs[k]:=af hkl;simp only[hxk]at hp;have hD:=sP.start (t:=t) hxk (by simpa using hp) (fun j y hj hy=>by have:=hno j hj;simp only[hy]at this;simpa using this);have HD:=ae hD;have q0:((k:Int)== -1)=false:=by rw[beq_eq_false_iff_ne];omega
  obtain⟨g,rfl,hbg,hgl,_⟩:=uq adF.out aR;have K1:=ae (Keeps.of_below (S:=(fun x=>(dq (some ⟨g,0,none⟩) N cap).ownBlock=some x)) D1.out fun _ h _=>h);clear hp hno hxk hD hgl D1;go_wp2_with fail
  clear q0;go_loopw [5,6] (fun v5 v6 wr=>∃(i j:Nat)(L:List bS),j≤N∧i<j∧v5=.int .i64 i∧v6=.int .i64 j∧ag (sP t xs i j L)∧ag (wr.ownsRow base 47 8 (.slice (some ⟨g,0,none⟩) N cap) N (cY L))∧ag (Keeps (fun x=>(dq (some ⟨g,0,none⟩) N cap).ownBlock=some x) w wr)) (fun _ v6 _=>N-(intOf v6).toNat)
  case atStart=>exact⟨k,k+1,xs,hk,oG k,rfl,by go_num,HD,adF,K1⟩
  case round=>
   obtain⟨i,j,L,hj,hij,rfl,rfl,hd,how,hb⟩:=hrel;obtain⟨wo,rfl⟩:=bw (wr:World);by_cases hlt:j<N
   ·have hjl:j<xs.length:=by have:=HN.out;omega
    have hXj:xs[j]? =some xs[j]:=af hjl;have hXm:=List.getElem_mem hjl;have hmX:=HM.out _ hXm;generalize xs[j]=X at hXj hXm hmX;have hcall:=fun W hW=>HF.out W hW X hXm
    have hLj:=hd.out.at_ hXj;have hLl:L.length=N:=by rw[hd.out.len,←HN.out]
    obtain⟨g',e',_,hgl,hyc⟩:=uq how.out aR;injection e' with e'
    injection e' with e'
    subst e';have hse:=Sr bS.vals 8 aB aJ L (i:=i) aR X;obtain⟨B,hB⟩:=bw (t X);rw[←hB]at hcall;have hkeep:=fun h=>hd.out.keep hXj h
    have Xw:=fun h=>hd.out.skip hXj h
    rw[←hB]at hkeep Xw;obtain⟨XX,hXX⟩:=bw X;rw[←hXX]at hkeep hse;obtain⟨afF,afG,HXX⟩:=bz hkeep Xw hXX;have d0:=hyc _ _ (aD bS.vals 8 aB hLj (r:=0) rfl);have d1:=hyc _ _ (aD bS.vals 8 aB hLj (r:=1) rfl);have d2:=hyc _ _ (aD bS.vals 8 aB hLj (r:=2) rfl);have d3:=hyc _ _ (aD bS.vals 8 aB hLj (r:=3) rfl);have d4:=hyc _ _ (aD bS.vals 8 aB hLj (r:=4) rfl);have d5:=hyc _ _ (aD bS.vals 8 aB hLj (r:=5) rfl);have d6:=hyc _ _ (aD bS.vals 8 aB hLj (r:=6) rfl);have d7:=hyc _ _ (aD bS.vals 8 aB hLj (r:=7) rfl);obtain⟨A1,c1,e1⟩:=hmX.tags.shape;obtain⟨A2,c2,e2⟩:=hmX.aQ.shape;obtain⟨A3,c3,e3⟩:=hmX.ends.shape;clear hmX hLj;obtain⟨⟨key,bu,user,tags,aQ,ex,bm,ends⟩,tv,av,ev⟩:=X;simp only at e1 e2 e3 d0 d1 d2 d3 d4 d5 d6 d7;subst e1 e2 e3;unfold bS.vals at hcall;simp only at hcall;rw[cq]at d0;have hvl:XX.vals=[.string key,.string bu,.string user,.slice A1 tags.length c1,.slice A2 aQ.length c2,.int .u64 ex,.int .u8 bm,.slice A3 ends.length c3]:=by rw[hXX];rfl
    generalize tags.length=n1 at hcall d3 hvl;generalize aQ.length=n2 at hcall d4 hvl;generalize ends.length=n3 at hcall d7 hvl;obtain⟨bG,Ux,HVl⟩:=bz hcall hse hvl;have hLc:=hLl;clear hyc hse hkeep Xw hcall hB hXX hXj hXm hd hvl;go_upto_region 8 with fail
    have hbx:=boxed wo (.cells #[.string key,.string bu,.string user,.slice A1 n1 c1,.slice A2 n2 c2,.int .u64 ex,.int .u8 bm,.slice A3 n3 c3] 47);obtain⟨HX,aaR,hb5⟩:=bz (aH.new wo 47 #[.string key,.string bu,.string user,.slice A1 n1 c1,.slice A2 n2 c2,.int .u64 ex,.int .u8 bm,.slice A3 n3 c3]) (own_below how.out hbx) (hb.out.than hbx);clear d0 d1 d2 d3 d4 d5 d6 d7 how hb hbx;generalize wo.alloc (.cells #[.string key,.string bu,.string user,.slice A1 n1 c1,.slice A2 n2 c2,.int .u64 ex,.int .u8 bm,.slice A3 n3 c3] 47)=w5 at HX aaR hb5⊢;generalize wo.heap.size=XB at HX hgl⊢;obtain⟨a0,a1,a2,a3,a4,a5,a6,a7⟩:=dB HX;cases B with
    |false=>
     have HNx:=ae (afG.out rfl);go_wp2_with(go_at_fn f;(with_reducible refine(bG.out _ hb5.out).mono ?_);rintro r w6⟨rfl,d6⟩)
     go_roundw
     case rel=>exact⟨i,j+1,L,by omega,by omega,rfl,by go_num,HNx,ae (own_below aaR.out d6),ae (hb5.out.than d6)⟩
     case measure=>simp[intOf];omega
    |true=>
     have HNx:=ae (afF.out rfl);go_upto_region 9 with(go_at_fn f;(with_reducible refine(bG.out _ hb5.out).mono ?_);rintro r w6⟨rfl,d6⟩)
     obtain⟨adG,hb6⟩:=aL (own_below aaR.out d6) (hb5.out.than d6)
     replace a0:=ai a0 d6
     replace a1:=ai a1 d6
     replace a2:=ai a2 d6
     replace a3:=ai a3 d6
     replace a4:=ai a4 d6
     replace a5:=ai a5 d6
     replace a6:=ai a6 d6
     replace a7:=ai a7 d6
     clear d6 aaR hb5 HX;have hiN:i<N:=by omega
     have z:=fun t(ht:t<8)=>World.ownsRow.cellAt adG.out (i*8+t) (by omega)
     have hv:∀r u,((L[i]' aR).vals)[r]? =some u→(cY L)[i*8+r]? =some u:=fun r u hu=>aD bS.vals 8 aB (af (show i<L.length by omega)) hu
     generalize L[i]=Z at hv;have z0:w6.cell? ⟨g,i*8+0,none⟩=some (.string Z.p.key):=(z 0 aJ).trans (hv 0 _ rfl);have z1:w6.cell? ⟨g,i*8+1,none⟩=some (.string Z.p.bu):=(z 1 aJ).trans (hv 1 _ rfl);have z2:w6.cell? ⟨g,i*8+2,none⟩=some (.string Z.p.user):=(z 2 aJ).trans (hv 2 _ rfl);have z3:w6.cell? ⟨g,i*8+3,none⟩=some (Z.tv):=(z 3 aJ).trans (hv 3 _ rfl);have z4:w6.cell? ⟨g,i*8+4,none⟩=some (Z.av):=(z 4 aJ).trans (hv 4 _ rfl);have z5:w6.cell? ⟨g,i*8+5,none⟩=some (.int .u64 (Z.p.exp:Int)):=(z 5 aJ).trans (hv 5 _ rfl);have z6:w6.cell? ⟨g,i*8+6,none⟩=some (.int .u8 (Z.p.bm:Int)):=(z 6 aJ).trans (hv 6 _ rfl);have z7:w6.cell? ⟨g,i*8+7,none⟩=some (Z.ev):=(z 7 aJ).trans (hv 7 _ rfl);have f:=fun t=>World.ownsRow.frozenAt adG.out (i*8+t)
     have f0:=f 0;have f1:=f 1;have f2:=f 2;have f3:=f 3;have f4:=f 4;have f5:=f 5;have f6:=f 6;have f7:=f 7;simp only[cq]at z0 f0;have Xx:=ae (Ii [.string key,.string bu,.string user,.slice A1 n1 c1,.slice A2 n2 c2,.int .u64 ex,.int .u8 bm,.slice A3 n3 c3] w6 (i*8) _ adG.out);have hb8:=ae (rA (K:=(fun x=>(dq (some ⟨g,0,none⟩) N cap).ownBlock=some x)) (g:=g) rfl [.string key,.string bu,.string user,.slice A1 n1 c1,.slice A2 n2 c2,.int .u64 ex,.int .u8 bm,.slice A3 n3 c3] w6 (i*8) hb6.out);clear z f hv;go_wp2_with fail
     go_roundw
     case rel=>
      refine⟨i+1,j+1,L.set i XX,by omega,by omega,by go_num,by go_num,HNx,ae ?_,hb8⟩;have h8:=Xx.out;have h9:=Ux.out;rw[HVl.out]at h9;rw[show cY L=L.flatMap bS.vals from rfl,h9]at h8;exact h8
     case measure=>simp[intOf];omega
   ·obtain rfl:j=N:=by omega
    have hdone:=hd.out;rw[HN.out]at hdone;have hD:=hdone.done;have hLl:L.length=j:=by rw[hd.out.len,←HN.out]
    obtain⟨m,hm⟩:∃m,j-i=m+1:=⟨j-i-1,by omega⟩;have ahE:=fun ty c=>Xv ty how.out (i:=i) (m:=m) (c:=c) (by omega)
    have hcap:=aaP how.out;have Xx:=Xt (Ii (nV (m+1)) _ (i*8) _ how.out) (show i≤j by omega);rw[LY,←aaQ,hD]at Xx;have hb8:=rA (K:=(fun x=>(dq (some ⟨g,0,none⟩) j cap).ownBlock=some x)) (g:=g) rfl (nV (m+1)) _ (i*8) hb.out;have hil:(xs.filter t).length=i:=by rw[←hD,ze,hLl];omega
    obtain⟨ag6,Hb8,HIL⟩:=bz Xx hb8 hil;clear hdone hD hLl Xx hb8 hil hd how hb;go_wp2_with fail
    go_ret;exact⟨⟨some ⟨g,0,none⟩,i,cap,rfl,HIL.out.symm,ag6.out,rfl⟩,Hb8.out⟩
 ·have hall:xs.filter t=xs:=by
   rw[List.filter_eq_self];intro y hy;obtain⟨j,hj⟩:=List.getElem?_of_mem hy;have:=hno j (by have:=(List.getElem?_eq_some_iff.1 hj).1;have:=HN.out;omega);simp only[hj]at this;simpa using this
  obtain⟨afH,K1⟩:=aL hall (Keeps.of_below (S:=fun x=>(dq A N cap).ownBlock=some x) D1.out fun _ h _=>h);clear hno hall;go_wp2_with fail
  go_ret;exact⟨⟨A,N,cap,rfl,by rw[afH.out];exact HN.out,by rw[afH.out];exact adF.out,rfl⟩,K1.out⟩
theorem Ik(x y:ByteArray)(c1 c2 c3 c4 c5 c6 c7 e1 e2 e3 e4 e5 e6 e7:Value)(w:World):Calls ah 62 #[.agg #[.string x,c1,c2,c3,c4,c5,c6,c7],.agg #[.string y,e1,e2,e3,e4,e5,e6,e7]] w (ag5 (.int .i64 (if sf x y then-1 else 1)) w):=by
 have HB:=ae (Xr w (.cells #[.string x,c1,c2,c3,c4,c5,c6,c7] 47) (.cells #[.string y,e1,e2,e3,e4,e5,e6,e7] 47));have hp:=aH.new w 47 #[.string x,c1,c2,c3,c4,c5,c6,c7];have HP:=ae (hp.below (boxed _ (.cells #[.string y,e1,e2,e3,e4,e5,e6,e7] 47)) hp.lt);have hq:=aH.new (w.alloc (.cells #[.string x,c1,c2,c3,c4,c5,c6,c7] 47)) 47 #[.string y,e1,e2,e3,e4,e5,e6,e7];rw[show(w.alloc (.cells #[.string x,c1,c2,c3,c4,c5,c6,c7] 47)).heap.size=w.heap.size+1 by simp]at hq;have HQ:=ae hq;clear hp hq;obtain⟨L,hL⟩:=bw (sf x y);rw[←hL];have q1:Op.bytesLess x.toList y.toList=L:=hL.symm;clear hL;go_enter Tryz.func62,Tryz.ntmps62;go_upto_region 1 with fail
 generalize(w.alloc (.cells #[.string x,c1,c2,c3,c4,c5,c6,c7] 47)).alloc (.cells #[.string y,e1,e2,e3,e4,e5,e6,e7] 47)=w1 at HB HP HQ⊢;generalize w.heap.size+1=Q at HQ⊢;generalize hP:w.heap.size=P at HP⊢;clear hP;have p0:=HP.out.cell 0;have q0:=HQ.out.cell 0;simp at p0 q0;cases L with
 |true=>
  go_wp2_with fail
  go_ret;exact⟨rfl,HB.out⟩
 |false=>
  go_wp2_with fail
  go_ret;exact⟨rfl,HB.out⟩
structure ti where
 p:Pr
 t:Option Addr×Nat
 a:Option Addr×Nat
 e:Option Addr×Nat
def ti.v(s:ti):bS:=⟨s.p,.slice s.t.1 s.p.tags.length s.t.2,.slice s.a.1 s.p.aQ.length s.a.2,.slice s.e.1 s.p.ends.length s.e.2⟩
def ti.enc(s:ti):List Value:=s.v.vals
theorem ti.len(s:ti):s.enc.length=8:=rfl
theorem ti.one(s:ti):∀u∈s.enc,u.oneCell'=true:=by
 intro u hu;unfold ti.enc bS.vals ti.v at hu;simp at hu;rcases hu with rfl|rfl|rfl|rfl|rfl|rfl|rfl|rfl<;>rfl
instance:Inhabited ti:=⟨⟨Pr.zero,(none,0),(none,0),(none,0)⟩⟩
theorem adH{w:World}:∀xs:List bS,(∀X∈xs,fc w X)→∃ss:List ti,ss.map ti.v=xs:=by
 intro xs
 induction xs with
 |nil=>intro _;exact⟨[],rfl⟩
 |cons X r ih=>
  intro h;obtain⟨ss,hs⟩:=ih fun Y hY=>h Y (List.mem_cons_of_mem X hY)
  have hX:=h X (List.mem_cons_self ..);obtain⟨A1,c1,e1⟩:=hX.tags.shape;obtain⟨A2,c2,e2⟩:=hX.aQ.shape;obtain⟨A3,c3,e3⟩:=hX.ends.shape;obtain⟨p,tv,av,ev⟩:=X;simp only at e1 e2 e3;subst e1 e2 e3;exact⟨⟨p,(A1,c1),(A2,c2),(A3,c3)⟩::ss,by rw[List.map_cons,hs];rfl⟩
theorem Og(ss:List ti):cY (ss.map ti.v)=ss.flatMap ti.enc:=by
 unfold cY;rw[List.flatMap_map];rfl
def Il(a b:ti):Int:=if sf a.p.key b.p.key then-1 else 1
theorem Oh(x y:ti):ltOf Il x y=sf x.p.key y.p.key:=by
 unfold ltOf Il;cases sf x.p.key y.p.key<;>rfl
theorem afI:SWO (ltOf Il)where
 irrefl x:=by rw[Oh];exact jX _
 trans x y z h1 h2:=by rw[Oh]at*;exact mS h1 h2
 ntrans x y z h1 h2:=by
  rw[Oh]at*;cases h3:sf x.p.key z.p.key with
  |false=>rfl
  |true=>
   rcases tQ x.p.key y.p.key with e|h|h
   ·rw[e,h2]at h3;cases h3
   ·rw[h1]at h;cases h
   ·have:=mS h h3;rw[h2]at this;cases this
theorem Eh{α:Type}[Inhabited α](enc:α→List Value)(k:Nat)(w:World)(g m:Nat)(d:Array α)(os:Array Obj):Keeps (fun x=>x=g) w (sortWorldK enc k w g 0 m d os):=by
 refine⟨rfl,rfl,rfl,?_,fun q hq hne=>?_⟩
 ·unfold sortWorldK putRowK putRow mapBlock Sort.grow Sort.ahead;simp
 ·unfold sortWorldK putRowK putRow mapBlock Sort.grow Sort.ahead;simp only;rw[Array.getElem?_append_left (by rw[Array.size_modify];omega),Array.getElem?_modify,if_neg aR]
theorem L8{w:World}{base:Nat}{v:Value}(xs:List bS)(hl:xs.length≤4000000)(how:w.ownsRow base 47 8 v xs.length (cY xs))(hm:∀X∈xs,fc w X):Calls ah 61 #[v,.func (.func 62) #[] #[]] w fun r w'=>r=.returned (.tuple #[])∧(∃S:List bS,S.Perm xs∧(S.map (·.p)).Pairwise (fun x y=>fh y x=false)∧w'.ownsRow base 47 8 v xs.length (cY S))∧Keeps (fun x=>v.ownBlock=some x) w w':=by
 have eg:∀args w,(callFunc 62 args).run ah w=.ok (.enter 62 args) w:=enters_of Tryz.func62 bo rfl;obtain⟨A,cap,rfl⟩:=aX how;by_cases h0:xs.length=0
 ·have hx:xs=[]:=bC h0;subst hx;refine(AnyF.slices_SortFunc_none Tryz.sortPe A cap _ w).mono ?_;rintro r w'⟨rfl,rfl⟩;exact⟨rfl,⟨[],List.Perm.refl _,List.Pairwise.nil,how⟩,Keeps.refl _ _⟩
 obtain⟨ss,rfl⟩:=adH xs hm;rw[ay]at hl how h0⊢;rw[Og]at how;obtain⟨g,rfl,hbg,hgl,_⟩:=uq how aR;obtain⟨hH,hg,hb⟩:=Ss ti.enc 8 ti.len aJ how rfl;have hcmp:CmpLays ah 62 #[] ti.enc 8 Il g 0 ss.toArray.size w:=fun m os dk _ x y=>(Ik x.p.key y.p.key _ _ _ _ _ _ _ _ _ _ _ _ _ _ _).mono fun _ _⟨e,hq⟩=>⟨e,hq⟩
 have hcon:=AnyQ.slices_SortFunc Tryz.sortPe 8 Tryz.isAgg47 Tryz.sizeOf47 ti.enc ti.len ti.one Il afI 62 #[] g 0 cap ss.toArray w eg hcmp hH hg (by rw[abh];omega);refine hcon.mono ?_;rintro r w'⟨rfl,d,n,os,hp,hs,rfl⟩;obtain⟨p1,p2⟩:=Ij hp hs;obtain⟨o1,_⟩:=LX ti.enc 8 ti.len aJ how d (by have:=hp.1;simpa using this) n os;have hk:=Eh ti.enc 8 w g n d os;refine⟨rfl,⟨d.toList.map ti.v,p1.map _,?_,by rw[Og];exact o1⟩,⟨hk.os,hk.tape,hk.output,hk.size,fun q hq hne=>hk.block q hq fun e=>hne (by rw[e];rfl)⟩⟩;rw[List.map_map,List.pairwise_map];refine p2.imp fun{x y}hxy=>?_
 rw[Oh]at hxy;exact hxy
theorem Ei{P:Program}{w:World}(base:Nat)(t ty e:TypeId)(i:TypeInfo){size:Nat}(ht:P.underlying t=some (.slice e))(hi:P.info? e=some i)(hsize:i.size=size)(v:Value)(n:Nat)(xs:List Value)(hown:w.ownsRow base e size v n xs):(Builtin.append_ #[t,t] ty #[v,au]).run P w=.ok v w:=by
 rcases hown.2 with⟨rfl,rfl⟩|⟨g,cap,cur,rfl,hbg,hg,hnc,hcm,hcs,htake⟩
 ·simp[Builtin.append_,run_underlying ht,sizeOf,typeInfo,hi,Builtin.lenOf,Builtin.firstCells]
 ·simp[Builtin.append_,run_underlying ht,sizeOf,typeInfo,hi,hsize,Builtin.lenOf,Builtin.firstCells,storeCells,hnc]
theorem Im{P:Program}{w:World}(base TD:Nat)(t ty e:TypeId)(i:TypeInfo)(z:Value)(size bytes:Nat)(ht:P.underlying t=some (.slice e))(hi:P.info? e=some i)(hz:i.zero=some z)(hsize:i.size=size)(hby:i.bytes=bytes)(hzs:z.cells.size=size)(hsz:0<size)(v:Value)(n:Nat)(xs:List Value)(hown:w.ownsRow base e size v n xs)(u:Value)(m:Nat)(ys:List Value)(hown2:w.ownsRow TD e size u m ys)(h1:∀y∈ys,y.oneCell'=true)(h63:n+m≤maxLen)(hb:(n+m)*bytes≤140737488355328)(hbase:base≤w.heap.size):∃v' w',(Builtin.append_ #[t,t] ty #[v,u]).run P w=.ok v' w'∧w'.ownsRow base e size v' (n+m) (xs++ys)∧w.grownBy w' v.ownBlock:=by
 rcases hown2.2 with⟨rfl,rfl⟩|⟨g,cap,cur,rfl,hbg,hg,hnc,hcm,hcs,htake⟩
 ·have hy:ys=[]:=bC (by simpa using hown2.1);subst hy;exact⟨v,w,Ei base t ty e i ht hi hsize v n xs hown,by rw[ep];exact hown,⟨rfl,rfl,rfl,ax _,fun _ _ _=>rfl⟩⟩
 ·obtain⟨v',w',hr,ho,hgr,_⟩:=run_append_own (P:=P) w base t ty e i z size bytes ht hi hz hsize hby hzs hsz v n xs hown ⟨g,0,none⟩ m cap ys hown2.1 (fun j u hu=>hown2.cells (g:=g) rfl j u hu) h1 h63 hb hbase;exact⟨v',w',hr,ho,hgr⟩
theorem adI{w:World}{base:Nat}{xs:List bS}(h:∀X∈xs,dm w base X):∀u∈cY xs,u.oneCell'=true:=by
 intro u hu;obtain⟨X,hX,hu⟩:=List.mem_flatMap.1 hu;have hx:=h X hX;obtain⟨A1,c1,e1⟩:=aX hx.tags;obtain⟨A2,c2,e2⟩:=aX hx.aQ;obtain⟨A3,c3,e3⟩:=aX hx.ends;unfold bS.vals at hu;rw[e1,e2,e3]at hu;simp at hu;rcases hu with rfl|rfl|rfl|rfl|rfl|rfl|rfl|rfl<;>rfl
theorem Sz{a:Mp}{d:Dl}(fa:jG a)(fd:uW d):jG (dA a d):=by
 refine⟨fd.version,fun p hp=>?_,fun r hr=>?_⟩
 ·have h:=(pZ _ p).1 hp;rcases List.mem_append.1 h with h|h
  ·exact fa.aK p (List.mem_filter.1 h).1
  ·exact fd.aK p h
 ·have hr':r∈(if d.eX then d.aA else a.aA):=hr;split at hr'
  ·exact fd.aA r hr'
  ·exact fa.aA r hr'
theorem Io{Q:World→Prop}{P:Nat}(hq:∀u i x,Q u→Q (u.setCell ⟨P,i,none⟩ x)){W:World}(h:Q W)(v0 v1 v2 v3:Value):Q ((((W.setCell ⟨P,0,none⟩ v0).setCell ⟨P,1,none⟩ v1).setCell ⟨P,2,none⟩ v2).setCell ⟨P,3,none⟩ v3):=hq _ _ _ (hq _ _ _ (hq _ _ _ (hq _ _ _ h)))
theorem SA(xs ys:List bS):cY (xs++ys)=cY xs++cY ys:=by unfold cY;rw[List.flatMap_append]
theorem yU{w:World}(env:Env w)(ord:fZ w){pa ra:Value}{a:Mp}(ha:df w pa a.aK)(ra':eG w ra a.aA)(fa:jG a)(sa:zT a){d:Dl}{sv gv rv:Value}(hd:mK w d sv gv rv)(fd:uW d)(sd:Rj d)(sr:zT (dA a d)):Calls ah 11 #[.agg #[.int .u64 (a.version:Int),pa,ra,.string a.policy],.agg (eT d sv gv rv)] w (G5 (je cz a d).1 (je cz a d).2 w):=by
 have fr:=Sz fa fd;have hma:=fun u(hu:aW w u)=>ky (env.below hu) (ha.below hu) (a8.below ra' hu) fa sa.sz (by have:=sa.pl;omega) (by have:=sa.rl;omega) sa.ol sa.ml
 have hmd:=fun u(hu:aW w u)=>qN (env.below hu) (hd.below hu) fd sd
 have hal:=fun u(hu:aW w u)g(hg:u.cell? ⟨g,1,none⟩=some pa)=>Dw (hd.gone.below hu) (by have:=sd.gl;omega) (fun k=>(nK a.aK k).isSome) 55 #[.pointer (some ⟨g,0,none⟩)] (enters_of Tryz.func55 bo rfl) fun W hW x hx=>LV (ha.below (after hu hW)) (by have:=sa.pl;omega) (ai hg hW) x
 have hcp:=fun u(hu:aW w u)=>Rh (ha.below hu) (a8.below ra' hu) sa.sz sa.pl sa.rl
 have hca:=fun u(hu:aW w u)=>qM (hd.aM.below hu) sd.aM sd.sl
 have hcr:=fun u(hu:aW w u)=>yj (a8.below hd.aA hu) sd.rl (wO _)
 have hst:=fun u(hu:aW w u)g(h2:u.cell? ⟨g,2,none⟩=some sv)(h3:u.cell? ⟨g,3,none⟩=some gv)(X:bS)=>LW (hd.aM.below hu) (hd.gone.below hu) (by have:=sd.sl;omega) (by have:=sd.gl;omega) h2 h3 X.p.key (.string X.p.bu) (.string X.p.user) X.tv X.av (.int .u64 (X.p.exp:Int)) (.int .u8 (X.p.bm:Int)) X.ev (p:=X.p) rfl
 have hmr:∀u,aW w u→∀pv rv,df u pv (dA a d).aK→eG u rv (dA a d).aA→Calls ah 8 #[.agg #[.int .u64 (d.version:Int),pv,rv,.string (dA a d).policy]] u (Got (.int .i64 ((cR (dA a d)).2:Int)) u):=fun u hu pv rv h1 h2=>ky (env.below hu) h1 h2 fr sr.sz (by have:=sr.pl;omega) (by have:=sr.rl;omega) sr.ol sr.ml
 have hhr:∀u,aW w u→∀pv rv,df u pv (dA a d).aK→eG u rv (dA a d).aA→Calls ah 22 #[.agg #[.int .u64 (d.version:Int),pv,rv,.string (dA a d).policy]] u (Got (.string (cz (dA a d))) u):=fun u hu pv rv h1 h2=>uj (env.below hu) (ord.below hu ord.lt) h1 h2 fr sr.sz (by have:=sr.pl;omega) (by have:=sr.rl;omega) sr.ol sr.ml
 have hSo:(cR a).2=0→iH d=true→∀S:List Pr,S.Perm (a.aK.filter (stays d)++d.aM)→S.Pairwise (fun x y=>fh y x=false)→S=(dA a d).aK:=fun h1 h2 S p1 p2=>by
  obtain⟨_,m2,_,_⟩:=gB (kT h1);have h3:jC d.aM=true:=by
   unfold iH at h2;simp only[aU]at h2;exact h2.1.1.2
  exact aad (distinct_keys (gu m2).1 (gu h3).1) p1 p2
 have hRe:((cR a).2≠0→je cz a d=(Mp.zero,(cR a).2))∧((cR a).2=0→iH d=false→je cz a d=(Mp.zero,220))∧((cR a).2=0→iH d=true→a.version≠d.base→je cz a d=(Mp.zero,223))∧((cR a).2=0→iH d=true→a.version=d.base→(d.gone.all fun k=>(nK a.aK k).isSome)=false→je cz a d=(Mp.zero,220))∧((cR a).2=0→iH d=true→a.version=d.base→(d.gone.all fun k=>(nK a.aK k).isSome)=true→((cR (dA a d)).2≠0→je cz a d=(Mp.zero,(cR (dA a d)).2))∧((cR (dA a d)).2=0→cz (dA a d)≠d.hash→je cz a d=(Mp.zero,224))∧((cR (dA a d)).2=0→cz (dA a d)=d.hash→je cz a d=(dA a d,0))):=by
  refine⟨fun h=>?_,fun h1 h=>?_,fun h1 h2 h=>?_,fun h1 h2 h3 h=>?_,fun h1 h2 h3 h4=>⟨fun h=>?_,fun h5 h=>?_,fun h5 h=>?_⟩⟩<;>unfold je
  ·rw[if_pos h]
  ·rw[if_neg (by rw[h1];decide),if_pos h]
  ·rw[if_neg (by rw[h1];decide),if_neg (by rw[h2];decide),if_pos h]
  ·rw[if_neg (by rw[h1];decide),if_neg (by rw[h2];decide),if_neg (by rw[h3];exact fun h=>h rfl),if_pos h]
  ·rw[if_neg (by rw[h1];decide),if_neg (by rw[h2];decide),if_neg (by rw[h3];exact fun h=>h rfl),if_neg (by rw[h4];decide),if_pos h]
  ·rw[if_neg (by rw[h1];decide),if_neg (by rw[h2];decide),if_neg (by rw[h3];exact fun h=>h rfl),if_neg (by rw[h4];decide),if_neg (by rw[h5];decide),if_pos h]
  ·rw[if_neg (by rw[h1];decide),if_neg (by rw[h2];decide),if_neg (by rw[h3];exact fun h=>h rfl),if_neg (by rw[h4];decide),if_neg (by rw[h5];decide),if_neg (by rw[h];exact fun h=>h rfl)]
 have hRM:(dA a d).version=d.version∧(dA a d).aA=(if d.eX then d.aA else a.aA)∧(dA a d).policy=(if d.fe then d.policy else a.policy):=⟨rfl,rfl,rfl⟩;have bv1:=fa.version;have bv2:=fd.base;have bv3:=fd.version;have lx:=sa.pl;have ls:=sd.sl;obtain⟨kP,ca1,rfl⟩:=ha.shape;obtain⟨kB,ca2,rfl⟩:=a8.shape ra';obtain⟨As,cs,rfl⟩:=hd.aM.shape;obtain⟨Ag,cg,rfl⟩:=hd.gone.shape;obtain⟨Ar,cr,rfl⟩:=a8.shape hd.aA;generalize cz (dA a d)=HR at hhr hRe;generalize(cR (dA a d)).2=er at hmr hRe;generalize(cR a).2=ea at hma hRe hSo;generalize iH d=MD at hmd hRe hSo;generalize(d.gone.all fun k=>(nK a.aK k).isSome)=AL at hal hRe;generalize je cz a d=RR at hRe⊢;generalize stays d=ST at hst hSo;generalize dA a d=RM at hmr hhr hRe hRM hSo;clear env ord ha ra' fa sa hd fd sd sr fr;obtain⟨va,fu,eZ,ta⟩:=a;obtain⟨db,dv,zY,BK,eX,L9,fe,nh,mq⟩:=d;unfold eT Wp at*;unfold yw uT at*;simp only at*;obtain⟨gV,yN⟩:=bw fu.length;obtain⟨iq,zU⟩:=bw eZ.length;obtain⟨ns,hns⟩:=bw zY.length;obtain⟨ng,hng⟩:=bw BK.length;obtain⟨nr,hnr⟩:=bw L9.length;rw[←yN,←zU]at hma hcp;rw[←hns,←hng,←hnr]at hmd;rw[←hng]at hal;rw[←yN]at hal lx;rw[←hns]at hca hst ls;rw[←hng]at hst;rw[←hnr]at hcr;rw[←yN,←zU,←hns,←hng,←hnr];obtain⟨zL,Um,HAl,HCp,IY,HCr,IG,HMr,HHr,HSo,Rw,Qf⟩:=oM hma hmd hal hcp hca hcr hst hmr hhr hSo hRe hRM;obtain⟨jL,kX,vX,Zq⟩:=cU yN zU hns hnr;clear hma hmd hal hcp hca hcr hst hmr hhr hSo hRe hRM yN zU hns hng hnr;obtain⟨HB1,od⟩:=aL (boxed w (.cells #[.int .u64 va,.slice kP gV ca1,.slice kB iq ca2,.string ta] 26)) (aH.new w 26 #[.int .u64 va,.slice kP gV ca1,.slice kB iq ca2,.string ta]);have hb2:=boxed (w.alloc (.cells #[.int .u64 va,.slice kP gV ca1,.slice kB iq ca2,.string ta] 26)) (.cells #[.int .u64 db,.int .u64 dv,.slice As ns cs,.slice Ag ng cg,.bool eX,.slice Ar nr cr,.bool fe,.string nh,.string mq] 31);have HB2:=bg HB1 hb2;have HP2:=ae (bK od hb2);have hQ2:=aH.new (w.alloc (.cells #[.int .u64 va,.slice kP gV ca1,.slice kB iq ca2,.string ta] 26)) 31 #[.int .u64 db,.int .u64 dv,.slice As ns cs,.slice Ag ng cg,.bool eX,.slice Ar nr cr,.bool fe,.string nh,.string mq];rw[show(w.alloc (.cells #[.int .u64 va,.slice kP gV ca1,.slice kB iq ca2,.string ta] 26)).heap.size=w.heap.size+1 by simp]at hQ2;have hb3:=boxed ((w.alloc (.cells #[.int .u64 va,.slice kP gV ca1,.slice kB iq ca2,.string ta] 26)).alloc (.cells #[.int .u64 db,.int .u64 dv,.slice As ns cs,.slice Ag ng cg,.bool eX,.slice Ar nr cr,.bool fe,.string nh,.string mq] 31)) (.cells #[.int .u64 0,au,au,aG] 26);have TB0:=bg HB2 hb3;obtain⟨TP0,TQ0⟩:=aL (bK HP2 hb3) (hQ2.below hb3 hQ2.lt);have iY:=aH.new ((w.alloc (.cells #[.int .u64 va,.slice kP gV ca1,.slice kB iq ca2,.string ta] 26)).alloc (.cells #[.int .u64 db,.int .u64 dv,.slice As ns cs,.slice Ag ng cg,.bool eX,.slice Ar nr cr,.bool fe,.string nh,.string mq] 31)) 26 #[.int .u64 0,au,au,aG];rw[show((w.alloc (.cells #[.int .u64 va,.slice kP gV ca1,.slice kB iq ca2,.string ta] 26)).alloc (.cells #[.int .u64 db,.int .u64 dv,.slice As ns cs,.slice Ag ng cg,.bool eX,.slice Ar nr cr,.bool fe,.string nh,.string mq] 31)).heap.size=w.heap.size+2 by simp]at iY;have TR0:=ae iY;clear hb2 hQ2 hb3 iY HB1 od HB2 HP2;go_enter Tryz.func11,Tryz.ntmps11;go_upto_region 1 with fail
 generalize(((w.alloc (.cells #[.int .u64 va,.slice kP gV ca1,.slice kB iq ca2,.string ta] 26)).alloc (.cells #[.int .u64 db,.int .u64 dv,.slice As ns cs,.slice Ag ng cg,.bool eX,.slice Ar nr cr,.bool fe,.string nh,.string mq] 31)).alloc (.cells #[.int .u64 0,au,au,aG] 26))=w0 at TB0 TP0 TQ0 TR0⊢;obtain⟨P,Q,R,eP,eQ,eR⟩:∃P Q R,P=w.heap.size∧Q=w.heap.size+1∧R=w.heap.size+2:=⟨_,_,_,rfl,rfl,rfl⟩;rw[←eP]at TP0;rw[←eQ]at TQ0;rw[←eR]at TR0;rw[←eR,←eQ,←eP];have HPQ:ag ((P≠Q∧P≠R∧Q≠R∧w.heap.size≤P)∧w.heap.size≤Q∧w.heap.size≤R):=ae aR;clear eP eQ eR;obtain⟨p0,p1,p2,p3⟩:=dY TP0;go_upto_region 2 with(go_at_call 8;refine(zL.out _ TB0.out).mono ?_;rintro r w1⟨rfl,d1⟩)
 have N9:=bg TB0 d1;obtain⟨TP1,TQ1,Yw⟩:=bz (bK TP0 d1) (bK TQ0 d1) (bK TR0 d1);clear TB0 TP0 TQ0 TR0;clear d1 p0 p1 p2 p3;by_cases hz:ea=0;rotate_left
 ·have q0:((ea:Int) !=0)=true:=by simp;omega
  have HF:=ae (Rw.out.1 hz);clear hz;obtain⟨r0,r1,r2,r3⟩:=dY Yw;have fr:=fun i=>Yw.out.frozen i
  go_wp2_with fail
  obtain⟨s9,q9⟩:=jK Yw.out N9.out HPQ.out.2.2 (.int .u64 0) au au aG;refine bodyPost_ret (bF rfl rfl rfl (iC s9)) rfl ⟨⟨none,0,none,0,?_,?_,?_⟩,q9⟩
  ·rw[HF.out];rfl
  ·rw[HF.out];exact iV _
  ·rw[HF.out];exact dN _
 have q0:((ea:Int) !=0)=false:=by simp[hz]
 have He:=ae hz;clear hz;go_upto_region 4 with fail
 clear q0;obtain⟨y0,y1,y2,y3,y4,y5,y6,y7,y8⟩:=vw TQ1;cases MD with
 |false=>
  have HF:=ae (Rw.out.2.1 He.out (by simp));go_upto_region 5 with(go_at_call 29;refine(Um.out _ N9.out).mono ?_;rintro r w2⟨rfl,d2⟩)
  have Ob:=bg N9 d2;obtain⟨Yx,Yy,Oa⟩:=bz (bK TP1 d2) (bK TQ1 d2) (bK Yw d2);clear N9 TP1 TQ1 Yw;clear d2;clear y0 y1 y2 y3 y4 y5 y6 y7 y8;obtain⟨r0,r1,r2,r3⟩:=dY Oa;have fr:=fun i=>Oa.out.frozen i
  go_wp2_with fail
  obtain⟨s9,q9⟩:=jK Oa.out Ob.out HPQ.out.2.2 (.int .u64 0) au au aG;refine bodyPost_ret (bF rfl rfl rfl (iC s9)) rfl ⟨⟨none,0,none,0,?_,?_,?_⟩,q9⟩
  ·rw[HF.out];rfl
  ·rw[HF.out];exact iV _
  ·rw[HF.out];exact dN _
 |true=>
  go_upto_region 6 with(go_at_call 29;refine(Um.out _ N9.out).mono ?_;rintro r w2⟨rfl,d2⟩)
  have Ob:=bg N9 d2;obtain⟨Yx,Yy,Oa⟩:=bz (bK TP1 d2) (bK TQ1 d2) (bK Yw d2);clear N9 TP1 TQ1 Yw;clear d2;clear y0 y1 y2 y3 y4 y5 y6 y7 y8;have p0:=Yx.out.cell 0;simp at p0;have q0:=Yy.out.cell 0;simp at q0;by_cases hv:va=db;rotate_left
  ·have q1:((va:Int) !=(db:Int))=true:=by simp;omega
   have HF:=ae (Rw.out.2.2.1 He.out (by simp) hv);clear hv;obtain⟨r0,r1,r2,r3⟩:=dY Oa;have fr:=fun i=>Oa.out.frozen i
   go_wp2_with fail
   obtain⟨s9,q9⟩:=jK Oa.out Ob.out HPQ.out.2.2 (.int .u64 0) au au aG;refine bodyPost_ret (bF rfl rfl rfl (iC s9)) rfl ⟨⟨none,0,none,0,?_,?_,?_⟩,q9⟩
   ·rw[HF.out];rfl
   ·rw[HF.out];exact iV _
   ·rw[HF.out];exact dN _
  have q1:((va:Int) !=(db:Int))=false:=by simp[hv]
  have Hv:=ae hv;clear hv;go_upto_region 8 with fail
  clear q1 p0 q0;obtain⟨-,p1⟩:=jQ Yx;obtain⟨-,-,-,q3⟩:=dY Yy;have aaS:=ae (HAl.out _ Ob.out P p1);cases AL with
  |false=>
   have HF:=ae (Rw.out.2.2.2.1 He.out (by simp) Hv.out (by simp));go_upto_region 9 with(go_at_call 54;refine aaS.out.mono ?_;rintro r w3⟨rfl,d3⟩)
   have Ec:=bg Ob d3;obtain⟨D9,ER,LC⟩:=bz (bK Yx d3) (bK Yy d3) (bK Oa d3);clear Ob Yx Yy Oa;clear d3 p1 q3 aaS;obtain⟨r0,r1,r2,r3⟩:=dY LC;have fr:=fun i=>LC.out.frozen i
   go_wp2_with fail
   obtain⟨s9,q9⟩:=jK LC.out Ec.out HPQ.out.2.2 (.int .u64 0) au au aG;refine bodyPost_ret (bF rfl rfl rfl (iC s9)) rfl ⟨⟨none,0,none,0,?_,?_,?_⟩,q9⟩
   ·rw[HF.out];rfl
   ·rw[HF.out];exact iV _
   ·rw[HF.out];exact dN _
  |true=>
   have HF0:=ae (Rw.out.2.2.2.2 He.out (by simp) Hv.out (by simp));have afJ:=ae (HSo.out He.out (by simp));clear Rw HSo He Hv zL Um HAl;go_upto_region 10 with(go_at_call 54;refine aaS.out.mono ?_;rintro r w3⟨rfl,d3⟩)
   have Ec:=bg Ob d3;obtain⟨D9,ER,LC⟩:=bz (bK Yx d3) (bK Yy d3) (bK Oa d3);clear Ob Yx Yy Oa;clear d3 p1 q3 aaS;obtain⟨B0,hB0⟩:=bw w3.heap.size;have HB0:ag ((P<B0∧Q<B0∧R<B0)∧w.heap.size≤B0):=ae (by have:=D9.out.lt;have:=ER.out.lt;have:=LC.out.lt;have:=Ec.out.size;omega);have afK:=ae hB0;clear hB0;obtain⟨p0,p1,p2,p3⟩:=dY D9;go_upto_region 11 with(go_at_call 56;refine(HCp.out _ Ec.out).mono ?_;rintro r w4⟨⟨B1,m1,B2,m2,rfl,oa,ob⟩,d4⟩;rw[←afK.out]at oa ob;obtain⟨TS4,TO4⟩:=aL oa ob;have TB4:=bg Ec d4;obtain⟨Yz,TQ4,TR4⟩:=bz (bK D9 d4) (bK ER d4) (bK LC d4);have hb4:ag (B0≤w4.heap.size):=ae (by rw[afK.out];exact d4.size);clear d4 oa ob;obtain⟨y0,y1,y2,y3⟩:=dY Yz;have fr:=fun i=>Yz.out.frozen i)
   clear p0 p1 p2 p3;obtain⟨s5,q5⟩:=jK Yz.out TB4.out HPQ.out.1.2.2.2 (.int .u64 va) (.slice B1 gV m1) (.slice B2 iq m2) (.string ta);have z5:=Io (P:=P) (Q:=fun u=>cA u B0 (.slice B1 gV m1) fu∧u.ownsRow B0 57 6 (.slice B2 iq m2) iq (dX eZ)∧aH u Q 31 #[.int .u64 db,.int .u64 dv,.slice As ns cs,.slice Ag ng cg,.bool eX,.slice Ar nr cr,.bool fe,.string nh,.string mq]∧aH u R 26 #[.int .u64 0,au,au,aG]∧B0≤u.heap.size) (fun u i x hq=>⟨hq.1.far HB0.out.1.1,aV hq.2.1 HB0.out.1.1,hq.2.2.1.far (p:=⟨P,i,none⟩) (Ne.symm HPQ.out.1.1) x,hq.2.2.2.1.far (p:=⟨P,i,none⟩) (Ne.symm HPQ.out.1.2.1) x,by rw[show(u.setCell ⟨P,i,none⟩ x).heap.size=u.heap.size by simp];exact hq.2.2.2.2⟩) ⟨TS4.out,TO4.out,TQ4.out,TR4.out,hb4.out⟩ (.int .u64 va) (.slice B1 gV m1) (.slice B2 iq m2) (.string ta);obtain⟨IX,SU,TS5,TO5,LH,TR5,hb5⟩:=nn s5 q5 z5.1 z5.2.1 z5.2.2.1 z5.2.2.2.1 z5.2.2.2.2;clear s5 q5 z5 Yz TB4 TS4 TO4 TQ4 TR4 hb4 y0 y1 y2 y3 fr;generalize(((w4.setCell ⟨P,0,none⟩ (.int .u64 va)).setCell ⟨P,1,none⟩ (.slice B1 gV m1)).setCell ⟨P,2,none⟩ (.slice B2 iq m2)).setCell ⟨P,3,none⟩ (.string ta)=w5 at IX SU TS5 TO5 LH TR5 hb5⊢;obtain⟨-,q1⟩:=jQ LH;have p0:=IX.out.cell 0;simp at p0;have fr:=fun i=>IX.out.frozen i
   go_upto_region 12 with fail
   clear q1 p0 fr;have TP6:ag (aH (w5.setCell ⟨P,0,none⟩ (.int .u64 dv)) P 26 #[.int .u64 dv,.slice B1 gV m1,.slice B2 iq m2,.string ta]):=ae (IX.out.aM 0 _);obtain⟨TS6,TO6,TQ6,TR6,YC⟩:=eB (TS5.out.far (k:=0) (u:=.int .u64 dv) HB0.out.1.1) (aV (k:=0) (u:=.int .u64 dv) TO5.out HB0.out.1.1) (LH.out.far (p:=⟨P,0,none⟩) (Ne.symm HPQ.out.1.1) (.int .u64 dv)) (TR5.out.far (p:=⟨P,0,none⟩) (Ne.symm HPQ.out.1.2.1) (.int .u64 dv)) (SU.out.setCell (p:=⟨P,0,none⟩) HPQ.out.1.2.2.2 (.int .u64 dv));have hb6:ag (B0≤(w5.setCell ⟨P,0,none⟩ (.int .u64 dv)).heap.size):=ae (by rw[show(w5.setCell ⟨P,0,none⟩ (.int .u64 dv)).heap.size=w5.heap.size by simp];exact hb5.out);clear SU IX LH TR5 TS5 TO5;clear hb5;generalize w5.setCell ⟨P,0,none⟩ (.int .u64 dv)=w6 at TP6 TS6 TO6 TQ6 TR6 YC hb6⊢;obtain⟨xs,hxs,hro,hxo⟩:=TS6.out;have hown:∀q,(dq B1 gV m1).ownBlock=some q→B0≤q:=fun q hq=>(hro.lt q hq).1
   have hxl:xs.length=gV:=by rw[jL.out,←hxs,ay]
   have hdel:=Sv xs aR hro (fun X hX=>(hxo X hX).rd) (fun X=>ST X.p) 58 #[.pointer (some ⟨Q,0,none⟩)] (enters_of Tryz.func58 bo rfl) (fun W hW X hX=>by
    have hQW:=TQ6.out.keep hW (fun hq=>by have:=hown _ hq;have:=HB0.out.1;omega);exact IG.out W (YC.out.trans (hW.below (B:=w.heap.size) (fun q hq=>aw HB0.out.2 (hown _ hq)) YC.out.size)) Q (by have:=hQW.cell 2;simpa using this) (by have:=hQW.cell 3;simpa using this) X)
   obtain⟨afL,rh,NJ,JR,yV⟩:=eB hdel hro hxo hxs hown;clear hdel hro hxo hxs hown;obtain⟨-,p1⟩:=jQ TP6;go_upto_region 13 with(go_at_call 57;refine afL.out.mono ?_;rintro r w7⟨⟨A5,n5,c5,rfl,hn5,ho5,_⟩,k7⟩;have TP7:=ae (TP6.out.keep k7 (fun hq=>by have:=yV.out _ hq;have:=HB0.out.1;omega));have TQ7:=ae (TQ6.out.keep k7 (fun hq=>by have:=yV.out _ hq;have:=HB0.out.1;omega));have TR7:=ae (TR6.out.keep k7 (fun hq=>by have:=yV.out _ hq;have:=HB0.out.1;omega));have TO7:=ae (bn TO6.out k7 (cG rh.out) aJ);have TB7:=ae (YC.out.trans (k7.below (B:=w.heap.size) (fun q hq=>aw HB0.out.2 (yV.out _ hq)) YC.out.size));have hb7:ag (B0≤w7.heap.size):=ae (aw hb6.out k7.size);have TS7:ag (cA w7 B0 (.slice A5 n5 c5) (fu.filter ST)):=ae ⟨xs.filter fun X=>ST X.p,by rw[←JR.out,List.filter_map];rfl,by rw[←hn5];exact ho5,fun X hX=>(NJ.out X (List.mem_filter.1 hX).1).keep k7 (cG rh.out) aJ aJ aJ⟩;have ahF:n5≤gV:=(by rw[hn5,←hxl];exact List.length_filter_le _ _);clear hn5 ho5 k7;obtain⟨-,y1⟩:=jQ TP7;have fr:=fun i=>TP7.out.frozen i)
   clear p1 afL rh NJ JR yV hxl IG y1 fr;clear TP6 YC TS6 TO6 TQ6 TR6 hb6;have TP8:ag (aH (w7.setCell ⟨P,1,none⟩ (.slice A5 n5 c5)) P 26 #[.int .u64 dv,.slice A5 n5 c5,.slice B2 iq m2,.string ta]):=ae (TP7.out.aM 1 _);obtain⟨TS8,TO8,TQ8,TR8,TB8⟩:=eB (TS7.out.far (k:=1) (u:=.slice A5 n5 c5) HB0.out.1.1) (aV (k:=1) (u:=.slice A5 n5 c5) TO7.out HB0.out.1.1) (TQ7.out.far (p:=⟨P,1,none⟩) (Ne.symm HPQ.out.1.1) (.slice A5 n5 c5)) (TR7.out.far (p:=⟨P,1,none⟩) (Ne.symm HPQ.out.1.2.1) (.slice A5 n5 c5)) (TB7.out.setCell (p:=⟨P,1,none⟩) HPQ.out.1.2.2.2 (.slice A5 n5 c5));have hb8:ag (B0≤(w7.setCell ⟨P,1,none⟩ (.slice A5 n5 c5)).heap.size):=ae (by rw[show(w7.setCell ⟨P,1,none⟩ (.slice A5 n5 c5)).heap.size=w7.heap.size by simp];exact hb7.out);clear TB7 TP7 TQ7 TR7 TS7 TO7;clear hb7;generalize w7.setCell ⟨P,1,none⟩ (.slice A5 n5 c5)=w8 at TP8 TS8 TO8 TQ8 TR8 TB8 hb8⊢;obtain⟨-,p1⟩:=jQ TP8;obtain⟨-,-,q2⟩:=jt TQ8;obtain⟨j0,lD,hz0,hz1,hz2⟩:=info_parts mY;have hdr:=(Below.refl w8.heap.size w8).drew;have TB9:=bg TB8 hdr;obtain⟨TP9,TQ9,TR9,TS9,TO9⟩:=eB (bK TP8 hdr) (bK TQ8 hdr) (bK TR8 hdr) (TS8.out.low hdr) (own_below TO8.out hdr);have hb9:ag (B0≤w8.drew.heap.size):=ae hb8.out;clear hdr TP8 TB8 TS8 TO8 TQ8 TR8 hb8;refine km 7 (fun u=>u.cell? ⟨P,1,none⟩=some (.slice A5 n5 c5)∧u.cell? ⟨Q,2,none⟩=some (.slice As ns cs)) bo (⟨p1,q2⟩) (fun hHeld=>?_);refine vy 0 ?_
   refine vy 1 ?_
   refine vy 2 ?_
   refine vy 3 ?_
   refine vP 4 fun K hK=>?_;go_simp;refine(IY.out _ TB9.out).mono ?_;rintro r wa⟨⟨A6,c6,rfl,ho6⟩,da⟩;have TBa:=bg TB9 da;obtain⟨TPa,TQa,TRa,TSa,TOa⟩:=eB (bK TP9 da) (bK TQ9 da) (bK TR9 da) (TS9.out.low da) (own_below TO9.out da);have hba:ag (B0≤wa.heap.size):=ae (aw hb9.out da.size);obtain⟨zs,hzs,hzo,hzx⟩:=TSa.out;obtain⟨ss,hss,hso,hsx⟩:=ho6.mono hb9.out;have lz:zs.length≤2000000:=by have e:zs.length=(fu.filter ST).length:=(by rw[←hzs,ay]);have:=List.length_filter_le ST fu;have:=jL.out;omega
   have ls':ss.length≤2000000:=by have e:ss.length=zY.length:=(by rw[←hss,ay]);have:=vX.out;omega
   obtain⟨v',wb,hr',hob,grb⟩:=Im (P:=ah) B0 B0 23 23 47 j0 (.agg #[aG,aG,aG,au,au,.int .u64 0,.int .u8 0,au]) 8 136 aif lD hz0 hz1 hz2 rfl aJ (.slice A5 n5 c5) zs.length (cY zs) hzo (.slice A6 ns c6) ss.length (cY ss) hso (adI hsx) (by unfold maxLen;omega) aR hba.out;obtain⟨A7,c7,e7⟩:=aX hob;subst e7;have Ip:∀q,(dq A5 n5 c5).ownBlock=some q→B0≤q:=fun q hq=>(hzo.lt q hq).1
   have kb:=Keeps.row grb;have TPb:=ae (TPa.out.keep kb (fun hq=>by have:=Ip _ hq;have:=HB0.out.1;omega));have TQb:=ae (TQa.out.keep kb (fun hq=>by have:=Ip _ hq;have:=HB0.out.1;omega));have TRb:=ae (TRa.out.keep kb (fun hq=>by have:=Ip _ hq;have:=HB0.out.1;omega));have TOb:=ae (bn TOa.out kb (cG hzo) aJ);have TBb:=ae (TBa.out.trans (kb.below (B:=w.heap.size) (fun q hq=>aw HB0.out.2 (Ip _ hq)) TBa.out.size));have hbb:ag (B0≤wb.heap.size):=ae (aw hba.out kb.size);have TSb:ag (cA wb B0 (.slice A7 (zs.length+ss.length) c7) (fu.filter ST++zY)):=ae ⟨zs++ss,by rw[List.map_append,hzs,hss],by rw[SA,aj];exact hob,fun X hX=>by rcases List.mem_append.1 hX with h|h;exact(hzx X h).keep kb (cG hzo) aJ aJ aJ;exact(hsx X h).keep kb (cG hzo) aJ aJ aJ⟩;have EO:=ae hr';obtain⟨n7,hn7⟩:=bw (zs.length+ss.length);rw[←hn7]at TSb EO;have ahG:n7≤4000000:=by omega
   clear hn7 hr' hob grb kb Ip hzo hzs hzx hss hso hsx lz ls' ho6;obtain⟨-,t1⟩:=jQ TPb;obtain⟨-,-,u2⟩:=jt TQb;have fr:=fun i=>TPb.out.frozen i
   refine hK.out _ _ (fun _=>⟨ai hHeld.1 da,ai hHeld.2 da⟩) (fun hHeld=>?_);have hHeld:=hHeld aJ;clear hK K;try simp only[ck]
   refine vP 5 fun K hK=>?_;refine kW rfl _ _ 23 23 rfl rfl rfl EO.out ?_;refine hK.out _ _ (fun _=>⟨t1,u2⟩) (fun hHeld=>?_);have hHeld:=hHeld aJ;clear hK K;try simp only[ck]
   refine vy 6 ?_
   refine vP 7 fun K hK=>?_;go_simp;refine hK.out _ _ (fun h=>absurd h aJ) (fun _=>?_);clear hK K;try clear hHeld
   try simp only[ck]
   refine zdX ?_;clear da EO TPa TBa TSa TOa TQa TRa hba TP9 TB9 TS9 TO9 TQ9 TR9 hb9 p1 q2 t1 u2 fr IY;have TPc:ag (aH (wb.setCell ⟨P,1,none⟩ (.slice A7 n7 c7)) P 26 #[.int .u64 dv,.slice A7 n7 c7,.slice B2 iq m2,.string ta]):=ae (TPb.out.aM 1 _);obtain⟨TSc,TOc,TQc,TRc,TBc⟩:=eB (TSb.out.far (k:=1) (u:=.slice A7 n7 c7) HB0.out.1.1) (aV (k:=1) (u:=.slice A7 n7 c7) TOb.out HB0.out.1.1) (TQb.out.far (p:=⟨P,1,none⟩) (Ne.symm HPQ.out.1.1) (.slice A7 n7 c7)) (TRb.out.far (p:=⟨P,1,none⟩) (Ne.symm HPQ.out.1.2.1) (.slice A7 n7 c7)) (TBb.out.setCell (p:=⟨P,1,none⟩) HPQ.out.1.2.2.2 (.slice A7 n7 c7));have hbc:ag (B0≤(wb.setCell ⟨P,1,none⟩ (.slice A7 n7 c7)).heap.size):=ae (by rw[show(wb.setCell ⟨P,1,none⟩ (.slice A7 n7 c7)).heap.size=wb.heap.size by simp];exact hbb.out);clear TBb TPb TQb TRb TSb TOb;clear hbb;generalize wb.setCell ⟨P,1,none⟩ (.slice A7 n7 c7)=wc at TPc TSc TOc TQc TRc TBc hbc⊢;obtain⟨ys,hys,hyo,hyx⟩:=TSc.out;have hyl:ys.length≤4000000:=by
    obtain⟨_,_,e⟩:=(a8.di hyo).shape;injection e with _ e _
    omega
   have hsort:=L8 ys hyl hyo (fun X hX=>(hyx X hX).rd);obtain⟨abL,HYo,HYx,HYs,yV⟩:=eB hsort hyo hyx hys (show∀q,(dq A7 n7 c7).ownBlock=some q→B0≤q from fun q hq=>(hyo.lt q hq).1);clear hsort hyo hyx hys hyl;obtain⟨-,p1⟩:=jQ TPc;go_upto_region 15 with(go_at_call 61;refine abL.out.mono ?_;rintro r wd⟨rfl,⟨S,hp,hs,hod⟩,kd⟩;have TPd:=ae (TPc.out.keep kd (fun hq=>by have:=yV.out _ hq;have:=HB0.out.1;omega));have TQd:=ae (TQc.out.keep kd (fun hq=>by have:=yV.out _ hq;have:=HB0.out.1;omega));have TRd:=ae (TRc.out.keep kd (fun hq=>by have:=yV.out _ hq;have:=HB0.out.1;omega));have TOd:=ae (bn TOc.out kd (cG HYo.out) aJ);have TBd:=ae (TBc.out.trans (kd.below (B:=w.heap.size) (fun q hq=>aw HB0.out.2 (yV.out _ hq)) TBc.out.size));have hbd:ag (B0≤wd.heap.size):=ae (aw hbc.out kd.size);have TSd:ag (cA wd B0 (.slice A7 n7 c7) RM.aK):=ae ⟨S,afJ.out _ (by have:=hp.map (fun X:bS=>X.p);rw[HYs.out]at this;exact this) hs,by rw[hp.length_eq];exact hod,fun X hX=>(HYx.out X (hp.mem_iff.1 hX)).keep kd (cG HYo.out) aJ aJ aJ⟩;clear hp hs hod kd)
   clear p1 abL HYo HYx HYs yV afJ TPc TBc TSc TOc TQc TRc hbc;obtain⟨-,-,-,-,q4⟩:=IZ TQd;go_upto_if 55 with fail
   clear q4;go_cut []from 56 (fun wx=>∃(A2:Option Addr)(n2 c2:Nat),ag (n2=RM.aA.length)∧ag (aH wx P 26 #[.int .u64 dv,.slice A7 n7 c7,.slice A2 n2 c2,.string ta])∧ag (wx.ownsRow B0 57 6 (.slice A2 n2 c2) n2 (dX RM.aA))∧ag (cA wx B0 (.slice A7 n7 c7) RM.aK)∧ag (aH wx Q 31 #[.int .u64 db,.int .u64 dv,.slice As ns cs,.slice Ag ng cg,.bool eX,.slice Ar nr cr,.bool fe,.string nh,.string mq])∧ag (aH wx R 26 #[.int .u64 0,au,au,aG])∧ag (aW w wx)∧ag (B0≤wx.heap.size))
   case first=>
    obtain⟨-,-,-,-,-,q5⟩:=zl TQd;cases eX with
    |false=>
     have e:RM.aA=eZ:=by simpa using Qf.out.2.1
     have He:=ae e;clear e;go_wp2_with fail
     go_meet;exact⟨B2,iq,m2,ae (by rw[He.out];exact kX.out),TPd,ae (by rw[He.out];exact TOd.out),TSd,TQd,TRd,TBd,hbd⟩
    |true=>
     have e:RM.aA=L9:=by simpa using Qf.out.2.1
     have He:=ae e;clear e;go_wp2_with(go_at_call 27;refine(HCr.out _ TBd.out).mono ?_;rintro r we⟨⟨A9,c9,rfl,ho9⟩,d9⟩;have TBe:=bg TBd d9;obtain⟨TPe,TQe,TRe,TSe,TOe⟩:=eB (bK TPd d9) (bK TQd d9) (bK TRd d9) (TSd.out.low d9) (ho9.mono hbd.out);have hbe:ag (B0≤we.heap.size):=ae (aw hbd.out d9.size);clear d9 ho9;obtain⟨-,-,y2⟩:=jt TPe;have fr:=fun i=>TPe.out.frozen i)
     have TPf:ag (aH (we.setCell ⟨P,2,none⟩ (.slice A9 nr c9)) P 26 #[.int .u64 dv,.slice A7 n7 c7,.slice A9 nr c9,.string ta]):=ae (TPe.out.aM 2 _);obtain⟨TSf,TOf,TQf,TRf,TBf⟩:=eB (TSe.out.far (k:=2) (u:=.slice A9 nr c9) HB0.out.1.1) (aV (k:=2) (u:=.slice A9 nr c9) TOe.out HB0.out.1.1) (TQe.out.far (p:=⟨P,2,none⟩) (Ne.symm HPQ.out.1.1) (.slice A9 nr c9)) (TRe.out.far (p:=⟨P,2,none⟩) (Ne.symm HPQ.out.1.2.1) (.slice A9 nr c9)) (TBe.out.setCell (p:=⟨P,2,none⟩) HPQ.out.1.2.2.2 (.slice A9 nr c9));have hbf:ag (B0≤(we.setCell ⟨P,2,none⟩ (.slice A9 nr c9)).heap.size):=ae (by rw[show(we.setCell ⟨P,2,none⟩ (.slice A9 nr c9)).heap.size=we.heap.size by simp];exact hbe.out);clear TBe TPe TQe TRe TSe TOe;clear hbe;generalize we.setCell ⟨P,2,none⟩ (.slice A9 nr c9)=wf at TPf TSf TOf TQf TRf TBf hbf⊢;go_meet;exact⟨A9,nr,c9,ae (by rw[He.out];exact Zq.out),TPf,ae (by rw[He.out];exact TOf.out),TSf,TQf,TRf,TBf,hbf⟩
   case rest=>
   obtain⟨A2,n2,c2,hn2,TPg,TOg,TSg,TQg,TRg,TBg,hbg⟩:=hcut;obtain⟨wg,rfl⟩:=bw (wc:World);clear TPd TOd TSd TQd TRd TBd hbd HCr;obtain⟨-,-,-,-,-,-,q6⟩:=ad3 TQg;go_upto_if 61 with fail
   clear q6;go_cut []from 62 (fun wx=>ag (aH wx P 26 #[.int .u64 dv,.slice A7 n7 c7,.slice A2 n2 c2,.string RM.policy])∧ag (wx.ownsRow B0 57 6 (.slice A2 n2 c2) n2 (dX RM.aA))∧ag (cA wx B0 (.slice A7 n7 c7) RM.aK)∧ag (aH wx Q 31 #[.int .u64 db,.int .u64 dv,.slice As ns cs,.slice Ag ng cg,.bool eX,.slice Ar nr cr,.bool fe,.string nh,.string mq])∧ag (aH wx R 26 #[.int .u64 0,au,au,aG])∧ag (aW w wx)∧ag (B0≤wx.heap.size))
   case first=>
    have q7:=TQg.out.cell 7;simp at q7;cases fe with
    |false=>
     have e:RM.policy=ta:=by simpa using Qf.out.2.2
     have He:=ae e;clear e;go_wp2_with fail
     go_meet;exact⟨ae (by rw[He.out];exact TPg.out),TOg,TSg,TQg,TRg,TBg,hbg⟩
    |true=>
     have e:RM.policy=nh:=by simpa using Qf.out.2.2
     have He:=ae e;clear e;obtain⟨-,-,-,y3⟩:=dY TPg;have fr:=fun i=>TPg.out.frozen i
     go_wp2_with fail
     have TPh:ag (aH (wg.setCell ⟨P,3,none⟩ (.string nh)) P 26 #[.int .u64 dv,.slice A7 n7 c7,.slice A2 n2 c2,.string nh]):=ae (TPg.out.aM 3 _);obtain⟨TSh,TOh,TQh,TRh,TBh⟩:=eB (TSg.out.far (k:=3) (u:=.string nh) HB0.out.1.1) (aV (k:=3) (u:=.string nh) TOg.out HB0.out.1.1) (TQg.out.far (p:=⟨P,3,none⟩) (Ne.symm HPQ.out.1.1) (.string nh)) (TRg.out.far (p:=⟨P,3,none⟩) (Ne.symm HPQ.out.1.2.1) (.string nh)) (TBg.out.setCell (p:=⟨P,3,none⟩) HPQ.out.1.2.2.2 (.string nh));have hbh:ag (B0≤(wg.setCell ⟨P,3,none⟩ (.string nh)).heap.size):=ae (by rw[show(wg.setCell ⟨P,3,none⟩ (.string nh)).heap.size=wg.heap.size by simp];exact hbg.out);clear TBg TPg TQg TRg TSg TOg;clear hbg;generalize wg.setCell ⟨P,3,none⟩ (.string nh)=wh at TPh TSh TOh TQh TRh TBh hbh⊢;go_meet;exact⟨ae (by rw[He.out];exact TPh.out),TOh,TSh,TQh,TRh,TBh,hbh⟩
   case rest=>
   obtain⟨TPi,TOi,TSi,TQi,TRi,TBi,hbi⟩:=hcut;obtain⟨wi,rfl⟩:=bw (wc:World);clear TPg TOg TSg TQg TRg TBg hbg;have afM:n7=RM.aK.length:=by
    obtain⟨_,_,e⟩:=TSi.out.rd.shape;injection e with _ e _
   obtain⟨Hn7,ag7⟩:=aL afM Qf.out.1;have IW:=HMr.out wi TBi.out (.slice A7 n7 c7) (.slice A2 n2 c2) TSi.out.rd (by unfold eG;rw[←hn2.out];exact a8.di TOi.out);have Rf:=ae IW;clear afM IW HMr Qf;obtain⟨p0,p1,p2,p3⟩:=dY TPi;go_upto_region 20 with(go_at_call 8;refine Rf.out.mono ?_;rintro r wj⟨rfl,dj⟩)
   have TBj:=bg TBi dj;obtain⟨TPj,TQj,TRj,TSj,TOj⟩:=eB (bK TPi dj) (bK TQi dj) (bK TRi dj) (TSi.out.low dj) (own_below TOi.out dj);have hbj:ag (B0≤wj.heap.size):=ae (aw hbi.out dj.size);clear dj p0 p1 p2 p3 Rf hbi;clear TBi TPi TQi TRi TSi TOi;by_cases hz:er=0;rotate_left
   ·have q0:((er:Int) !=0)=true:=by simp;omega
    have HF:=ae (HF0.out.1 hz);clear hz;obtain⟨r0,r1,r2,r3⟩:=dY TRj;have fr:=fun i=>TRj.out.frozen i
    go_wp2_with fail
    obtain⟨s9,q9⟩:=jK TRj.out TBj.out HPQ.out.2.2 (.int .u64 0) au au aG;refine bodyPost_ret (bF rfl rfl rfl (iC s9)) rfl ⟨⟨none,0,none,0,?_,?_,?_⟩,q9⟩
    ·rw[HF.out];rfl
    ·rw[HF.out];exact iV _
    ·rw[HF.out];exact dN _
   have q0:((er:Int) !=0)=false:=by simp[hz]
   have He:=ae hz;clear hz;go_upto_region 22 with fail
   clear q0;have hdr:=(Below.refl wj.heap.size wj).drew;have TBk:=bg TBj hdr;obtain⟨TPk,TQk,TRk,TSk,TOk⟩:=eB (bK TPj hdr) (bK TQj hdr) (bK TRj hdr) (TSj.out.low hdr) (own_below TOj.out hdr);have hhy:=HHr.out wj.drew TBk.out (.slice A7 n7 c7) (.slice A2 n2 c2) TSk.out.rd (by unfold eG;rw[←hn2.out];exact a8.di TOk.out);have HHy:=ae hhy;clear hhy HHr hdr;obtain⟨E,q1⟩:∃e,(HR.toList==mq.toList)=e:=⟨_,rfl⟩;have HE:=ae q1;obtain⟨p0,p1,p2,p3⟩:=dY TPj;have q8:=TQj.out.cell 8;simp at q8;refine wp_region_held_drew (S:=(fun u=>u.cell? ⟨P,0,none⟩=some (.int .u64 dv)∧u.cell? ⟨P,1,none⟩=some (.slice A7 n7 c7)∧u.cell? ⟨P,2,none⟩=some (.slice A2 n2 c2)∧u.cell? ⟨P,3,none⟩=some (.string RM.policy)∧u.cell? ⟨Q,8,none⟩=some (.string mq))) bo (⟨p0,p1,p2,p3,q8⟩) (fun hHeld=>?_);refine aY 0 ?_
   refine aY 2 ?_
   refine aY 3 ?_
   refine fA 1 fun K hK=>?_;go_simp;refine HHy.out.mono ?_;rintro r wl⟨rfl,dl⟩;have TBl:=bg TBk dl;obtain⟨TPl,TQl,TRl,TSl,TOl⟩:=eB (bK TPk dl) (bK TQk dl) (bK TRk dl) (TSk.out.low dl) (own_below TOk.out dl);refine hK.out _ _ (⟨ai hHeld.1 dl,ai hHeld.2.1 dl,ai hHeld.2.2.1 dl,ai hHeld.2.2.2.1 dl,ai hHeld.2.2.2.2 dl⟩) (fun hHeld=>?_);clear hK K;try simp only[ck]
   refine aY 4 ?_
   refine lN ?_;have hbl:ag (B0≤wl.heap.size):=ae (aw hbj.out (show wj.heap.size≤wl.heap.size from dl.size));clear dl HHy p0 p1 p2 p3 q8 hbj;clear TBj TPj TQj TRj TSj TOj;clear TBk TPk TQk TRk TSk TOk;clear q1;cases E with
   |false=>
    have hh:HR≠mq:=fun h=>by have:=ic h;rw[HE.out]at this;cases this
    have HF:=ae (HF0.out.2.1 He.out hh);clear hh;obtain⟨r0,r1,r2,r3⟩:=dY TRl;have fr:=fun i=>TRl.out.frozen i
    go_wp2_with fail
    obtain⟨s9,q9⟩:=jK TRl.out TBl.out HPQ.out.2.2 (.int .u64 0) au au aG;refine bodyPost_ret (bF rfl rfl rfl (iC s9)) rfl ⟨⟨none,0,none,0,?_,?_,?_⟩,q9⟩
    ·rw[HF.out];rfl
    ·rw[HF.out];exact iV _
    ·rw[HF.out];exact dN _
   |true=>
    have hh:HR=mq:=by
     rcases Classical.em (HR=mq)with h|h
     ·exact h
     ·have:=gm h;rw[HE.out]at this;cases this
    have HF:=ae (HF0.out.2.2 He.out hh);clear hh HF0;go_upto_region 24 with fail
    obtain⟨p0,p1,p2,p3⟩:=dY TPl;obtain⟨r0,r1,r2,r3⟩:=dY TRl;have fr:=fun i=>TRl.out.frozen i
    go_wp2_with fail
    obtain⟨s9,q9⟩:=jK TRl.out TBl.out HPQ.out.2.2 (.int .u64 dv) (.slice A7 n7 c7) (.slice A2 n2 c2) (.string RM.policy);have z9:=Io (P:=R) (Q:=fun u=>cA u B0 (.slice A7 n7 c7) RM.aK∧u.ownsRow B0 57 6 (.slice A2 n2 c2) n2 (dX RM.aA)) (fun u i x hq=>⟨hq.1.far HB0.out.1.2.2,aV hq.2 HB0.out.1.2.2⟩) ⟨TSl.out,TOl.out⟩ (.int .u64 dv) (.slice A7 n7 c7) (.slice A2 n2 c2) (.string RM.policy);refine bodyPost_ret (bF rfl rfl rfl (iC s9)) rfl ⟨⟨A7,c7,A2,c2,?_,?_,?_⟩,q9⟩
    ·rw[HF.out];simp only;rw[←Hn7.out,←hn2.out,ag7.out];rfl
    ·rw[HF.out];simp only;rw[←Hn7.out];exact z9.1.rd
    ·rw[HF.out];simp only;unfold eG;rw[←hn2.out];exact a8.di z9.2
theorem SC(a:Ad){X:bS}(g:Nat){w:World}(hX:fc w X)(hl:X.p.aQ.length≤4000000)(hg:∀j,j<3→w.cell? ⟨g,j,none⟩=a.cells[j]?):Calls ah 67 #[.agg X.vals.toArray,.pointer (some ⟨g,0,none⟩)] w (Got (.bool (X.p.aQ.any fun y=>decide (y=a))) w):=by
 have hc:=fun u(hu:aW w u)=>ZX X.p.aQ hl (hX.aQ.below hu) a
 obtain⟨A1,c1,e1⟩:=hX.aQ.shape;obtain⟨⟨key,bu,user,tags,aQ,ex,bm,ends⟩,tv,av,ev⟩:=X;simp only at*;subst e1;generalize(aQ.any fun y=>decide (y=a))=R at*;generalize aQ.length=n1 at*;obtain⟨v,hi,lo⟩:=a;unfold bS.vals Ad.cells at*;simp only at*;have g0:=hg 0 aJ;have g1:=hg 1 aJ;have g2:=hg 2 aJ;simp at g0 g1 g2;have HC:=ae hc;have hb:=boxed w (.cells #[.string key,.string bu,.string user,tv,.slice A1 n1 c1,.int .u64 ex,.int .u8 bm,ev] 47);have HS:=ae (aH.new w 47 #[.string key,.string bu,.string user,tv,.slice A1 n1 c1,.int .u64 ex,.int .u8 bm,ev]);have y0:=ai g0 hb;have y1:=ai g1 hb;have y2:=ai g2 hb;have HB:=ae hb;clear hc hX hg g0 g1 g2 hb;go_enter Tryz.func67,Tryz.ntmps67;go_upto_region 1 with fail
 generalize w.alloc (.cells #[.string key,.string bu,.string user,tv,.slice A1 n1 c1,.int .u64 ex,.int .u8 bm,ev] 47)=w1 at HB HS y0 y1 y2⊢;generalize w.heap.size=G at HS⊢;obtain⟨-,-,-,-,s0⟩:=IZ HS;go_wp2_with(go_at_call 68;refine(HC.out _ HB.out).mono ?_;rintro r w2⟨rfl,d2⟩)
 go_ret;exact⟨rfl,after HB.out d2⟩
theorem SD{w:World}{pv rv:Value}{m:Mp}(hp:df w pv m.aK)(hr:eG w rv m.aA)(sz:∀p∈m.aK,gQ p)(hl:m.aK.length≤2000000)(a:Ad):Calls ah 20 #[.agg #[.int .u64 (m.version:Int),pv,rv,.string m.policy],.agg a.cells] w (WhR (m.aK.find? fun p=>p.aQ.any fun y=>decide (y=a)) w):=by
 have hw:=fun u(hu:aW w u)g(hg:∀j,j<3→u.cell? ⟨g,j,none⟩=a.cells[j]?)=>Ri (hp.below hu) (a8.below hr hu) sz hl (fun p=>p.aQ.any fun y=>decide (y=a)) 67 #[.pointer (some ⟨g,0,none⟩)] (enters_of Tryz.func67 bo rfl) (fun W hW X hX hXm=>SC a g hX (by have:=(sz _ hXm).al;omega) fun j hj=>by have:=hg j hj;have hh:∃v,u.cell? ⟨g,j,none⟩=some v:=⟨_,this.trans (kC (show j<a.cells.size from hj))⟩;obtain⟨v,hv⟩:=hh;rw[ai hv hW,←hv,this])
 obtain⟨A1,c1,e1⟩:=hp.shape;obtain⟨A2,c2,e2⟩:=a8.shape hr;clear hp hr sz hl;obtain⟨ver,aK,aA,pol⟩:=m;simp only at*;subst e1 e2;generalize aK.find? (fun p=>p.aQ.any fun y=>decide (y=a))=O at*;generalize aK.length=n1 at*;generalize aA.length=n2 at*;obtain⟨v,hi,lo⟩:=a;unfold Ad.cells at*;simp only at*;unfold WhR at*;have HW:=ae hw;clear hw;obtain⟨HP,HB⟩:=aL (aH.new w 26 #[.int .u64 ver,.slice A1 n1 c1,.slice A2 n2 c2,.string pol]) (boxed w (.cells #[.int .u64 ver,.slice A1 n1 c1,.slice A2 n2 c2,.string pol] 26));have hb2:=boxed (w.alloc (.cells #[.int .u64 ver,.slice A1 n1 c1,.slice A2 n2 c2,.string pol] 26)) (.cells #[.bool v,.int .u64 hi,.int .u64 lo] 52);have hK:=aH.new (w.alloc (.cells #[.int .u64 ver,.slice A1 n1 c1,.slice A2 n2 c2,.string pol] 26)) 52 #[.bool v,.int .u64 hi,.int .u64 lo];rw[show(w.alloc (.cells #[.int .u64 ver,.slice A1 n1 c1,.slice A2 n2 c2,.string pol] 26)).heap.size=w.heap.size+1 by simp]at hK;have HP2:=ae (bK HP hb2);have HB2:=bg HB hb2;have hbz:=boxed ((w.alloc (.cells #[.int .u64 ver,.slice A1 n1 c1,.slice A2 n2 c2,.string pol] 26)).alloc (.cells #[.bool v,.int .u64 hi,.int .u64 lo] 52)) (.cells #[aG,aG,aG,au,au,.int .u64 0,.int .u8 0,au] 47);obtain⟨ki,gy⟩:=aL (hK.below hbz hK.lt) (bK HP2 hbz);have HB3:=bg HB2 hbz;have hR:=aH.new ((w.alloc (.cells #[.int .u64 ver,.slice A1 n1 c1,.slice A2 n2 c2,.string pol] 26)).alloc (.cells #[.bool v,.int .u64 hi,.int .u64 lo] 52)) 47 #[aG,aG,aG,au,au,.int .u64 0,.int .u8 0,au];rw[show((w.alloc (.cells #[.int .u64 ver,.slice A1 n1 c1,.slice A2 n2 c2,.string pol] 26)).alloc (.cells #[.bool v,.int .u64 hi,.int .u64 lo] 52)).heap.size=w.heap.size+2 by simp]at hR;have HR3:=ae hR;have NQ:ag (w.heap.size+3≤(((w.alloc (.cells #[.int .u64 ver,.slice A1 n1 c1,.slice A2 n2 c2,.string pol] 26)).alloc (.cells #[.bool v,.int .u64 hi,.int .u64 lo] 52)).alloc (.cells #[aG,aG,aG,au,au,.int .u64 0,.int .u8 0,au] 47)).heap.size):=ae (by simp);clear hb2 hbz hK hR HP HB HP2 HB2;go_enter Tryz.func20,Tryz.ntmps20;go_upto_region 1 with fail
 generalize((w.alloc (.cells #[.int .u64 ver,.slice A1 n1 c1,.slice A2 n2 c2,.string pol] 26)).alloc (.cells #[.bool v,.int .u64 hi,.int .u64 lo] 52)).alloc (.cells #[aG,aG,aG,au,au,.int .u64 0,.int .u8 0,au] 47)=w3 at ki gy HB3 HR3 NQ⊢;have hQ:∃P K R Q,P=w.heap.size∧K=w.heap.size+1∧R=w.heap.size+2∧Q=w.heap.size+3:=⟨_,_,_,_,rfl,rfl,rfl,rfl⟩;obtain⟨P,K,R,Q,eP,eK,eR,eQ⟩:=hQ;rw[←eP]at gy;rw[←eK]at ki;rw[←eR]at HR3;rw[←eQ]at NQ;rw[←eR,←eK,←eP];have HPQ:ag (R<Q∧w.heap.size≤R∧w.heap.size≤Q):=ae aR;clear eP eK eR eQ;obtain⟨a0,a1,a2,a3⟩:=dY gy;have HW3:=ae (HW.out w3 HB3.out K fun j hj=>ki.out.cell j);go_wp2_with(go_at_call 66;refine HW3.out.mono ?_;rintro r w4⟨⟨⟨⟨key2,bB,cf,du,cH,iP,bJ,dw⟩,tv2,av2,ev2⟩,rfl,G4,pJ⟩,d4⟩;obtain⟨B1,m1,e21⟩:=aX pJ.tags;obtain⟨B2,m2,e22⟩:=aX pJ.aQ;obtain⟨B3,m3,e23⟩:=aX pJ.ends;simp only at e21 e22 e23;subst e21 e22 e23;obtain⟨NJ,V5⟩:=aL (pJ.mono NQ.out) G4;obtain⟨n21,nN⟩:=bw du.length;obtain⟨n22,nO⟩:=bw cH.length;obtain⟨n23,nP⟩:=bw dw.length;unfold bS.vals;simp only;rw[←nN,←nO,←nP];obtain⟨Bg,HE2,IU⟩:=bz nN nO nP;have HB4:=bg HB3 d4;have yC:=bK HR3 d4;have z0:=yC.cell 0;have z1:=yC.cell 1;have z2:=yC.cell 2;have z3:=yC.cell 3;have z4:=yC.cell 4;have z5:=yC.cell 5;have z6:=yC.cell 6;have z7:=yC.cell 7;simp at z0 z1 z2 z3 z4 z5 z6 z7;have fr:=fun i=>yC.frozen i;have HR4:=ae yC;clear nN nO nP pJ G4 d4 yC)
 have s1:aH _ R 47 #[.string key2,aG,aG,au,au,.int .u64 0,.int .u8 0,au]:=HR4.out.aM 0 (.string key2);have s2:aH _ R 47 #[.string key2,.string bB,aG,au,au,.int .u64 0,.int .u8 0,au]:=s1.aM 1 (.string bB);have s3:aH _ R 47 #[.string key2,.string bB,.string cf,au,au,.int .u64 0,.int .u8 0,au]:=s2.aM 2 (.string cf);have s4:aH _ R 47 #[.string key2,.string bB,.string cf,.slice B1 n21 m1,au,.int .u64 0,.int .u8 0,au]:=s3.aM 3 (.slice B1 n21 m1);have s5:aH _ R 47 #[.string key2,.string bB,.string cf,.slice B1 n21 m1,.slice B2 n22 m2,.int .u64 0,.int .u8 0,au]:=s4.aM 4 (.slice B2 n22 m2);have s6:aH _ R 47 #[.string key2,.string bB,.string cf,.slice B1 n21 m1,.slice B2 n22 m2,.int .u64 iP,.int .u8 0,au]:=s5.aM 5 (.int .u64 iP);have s7:aH _ R 47 #[.string key2,.string bB,.string cf,.slice B1 n21 m1,.slice B2 n22 m2,.int .u64 iP,.int .u8 bJ,au]:=s6.aM 6 (.int .u8 bJ);have s8:aH _ R 47 #[.string key2,.string bB,.string cf,.slice B1 n21 m1,.slice B2 n22 m2,.int .u64 iP,.int .u8 bJ,.slice B3 n23 m3]:=s7.aM 7 (.slice B3 n23 m3);obtain⟨oz0,oz1⟩:=V6 (P:=R) (Q:=fun u=>aW w u∧dm u Q ⟨⟨key2,bB,cf,du,cH,iP,bJ,dw⟩,.slice B1 du.length m1,.slice B2 cH.length m2,.slice B3 dw.length m3⟩) (fun u i x hq=>⟨hq.1.setCell (p:=⟨R,i,none⟩) HPQ.out.2.1 x,⟨aV hq.2.tags HPQ.out.1,aV hq.2.aQ HPQ.out.1,aV hq.2.ends HPQ.out.1⟩⟩) ⟨HB4.out,NJ.out⟩ (.string key2) (.string bB) (.string cf) (.slice B1 n21 m1) (.slice B2 n22 m2) (.int .u64 iP) (.int .u8 bJ) (.slice B3 n23 m3);refine bodyPost_ret (bF rfl rfl rfl (sD s8)) rfl ⟨⟨⟨⟨key2,bB,cf,du,cH,iP,bJ,dw⟩,.slice B1 du.length m1,.slice B2 cH.length m2,.slice B3 dw.length m3⟩,?_,V5.out,oz1.mono HPQ.out.2.2⟩,oz0⟩;unfold bS.vals;simp only;rw[←Bg.out,←HE2.out,←IU.out];rfl
structure Rl where
 i7:List Nat
 src:List Sp
 dst:List Sp
 jO:List (Nat×Nat)
structure RlV where
 r:Rl
 p:Value
 s:Value
 d:Value
 o:Value
def adJ(x:RlV):List Value:=[x.p,x.s,x.d,x.o]
def aaT(l:List RlV):List Value:=l.flatMap adJ
structure afN(r:Rl):Prop where
 p:r.i7.length≤4000000
 s:r.src.length≤4000000
 d:r.dst.length≤4000000
 o:r.jO.length≤4000000
 src:∀x∈r.src,x.Ok
 dst:∀x∈r.dst,x.Ok
structure Oi(w:World)(x:RlV):Prop where
 p:a8 w x.p x.r.i7.length 1 (eO x.r.i7)
 s:a8 w x.s x.r.src.length 6 (Oe x.r.src)
 d:a8 w x.d x.r.dst.length 6 (Oe x.r.dst)
 o:a8 w x.o x.r.jO.length 2 (jk x.r.jO)
theorem Oi.below{w w':World}{x:RlV}(h:Oi w x)(hb:aW w w'):Oi w' x:=⟨h.p.below hb,h.s.below hb,h.d.below hb,h.o.below hb⟩
def Xy(w:World)(v:Value)(rs:List Rl):Prop:=∃xs:List RlV,xs.map (·.r)=rs∧a8 w v xs.length 4 (aaT xs)∧(∀x∈xs,Oi w x)∧∀r∈rs,afN r
theorem Xy.below{w w':World}{v:Value}{rs:List Rl}(h:Xy w v rs)(hb:aW w w'):Xy w' v rs:=by
 obtain⟨xs,h1,h2,h3,h4⟩:=h;exact⟨xs,h1,h2.below hb,fun x hx=>(h3 x hx).below hb,h4⟩
theorem Xy.shape{w:World}{v:Value}{rs:List Rl}(h:Xy w v rs):∃A c,v=.slice A rs.length c:=by
 obtain⟨xs,h1,h2,_⟩:=h;have:=h2.shape;rw[←h1,ay];exact this
attribute [local go_sem] ez
theorem yW{w:World}{g:Nat}{t:TypeId}{cs:Array Value}{n size c:Nat}(h:aH w g t cs)(hl:cs.toList.length=n*size):a8 w (.slice (some ⟨g,0,none⟩) n c) n size cs.toList:=by
 refine⟨some ⟨g,0,none⟩,c,rfl,hl,fun _=>⟨g,0,rfl,fun j u hu=>?_⟩⟩;rw[Nat.zero_add];have:=h.cell j;rw[this,←ahN];exact hu
def Xz:ByteArray:=⟨#[97,110,110]⟩
def XA:ByteArray:=⟨#[119,101,98]⟩
def afO:ByteArray:=⟨#[98,111,98]⟩
def wkA:Ad:=⟨false,0,167772161⟩
def wkB:Ad:=⟨false,0,167772162⟩
def ag8:Ac:=⟨[6],[⟨2,Xz,Pf.zero⟩],[⟨4,XA,Pf.zero⟩],[(80,80)]⟩
def wkP:Po:=⟨[],[⟨XA,[Xz]⟩],[],[ag8]⟩
def wkL:List Pe:=[⟨Xz,[],[wkA]⟩,⟨afO,[XA],[wkB]⟩]
def XC(w:World)(g3 g8 g13:Nat):Prop:=vH w ⟨au,.slice (some ⟨g3,0,none⟩) 1 1,au,.slice (some ⟨g8,0,none⟩) 1 1⟩ wkP∧Qu w (.slice (some ⟨g13,0,none⟩) 2 2) wkL
theorem XC.below{w u:World}{g3 g8 g13:Nat}(h:XC w g3 g8 g13)(hb:aW w u):XC u g3 g8 g13:=⟨h.1.below hb,h.2.below hb⟩
def Mc:ByteArray:=⟨(aS 32 (0:UInt8)).toArray⟩
def yX:ByteArray:=⟨#[97,99,99,101,112,116,32,97,110,121,32,102,114,111,109,32,42,32,116,111,32,42]⟩
def ni(u:ByteArray):Pr:=⟨Mc,Mc,u,[],[⟨false,0,167772161⟩],9,0,[]⟩
def fw(v:Nat)(u:ByteArray):Mp:=⟨v,[ni u],[],yX⟩
def nj:Array Value:=(aS 32 (Value.int .u8 0)).toArray
theorem XD{W:World}{g:Nat}{t:TypeId}(h:aH W g t nj):(convert 71 9 (.slice (some ⟨g,0,none⟩) 32 32)).run ah W=.ok (.string Mc) W:=by
 have hback:=run_convert_bytes_back (P:=ah) W 71 9 5 ⟨g,0,none⟩ 32 (aS 32 (0:UInt8)) Tryz.underlying71 cD bq (fun j hj=>by
  rw[lM]at hj;rw[N4,h.cell j];unfold nj;rw[List.getElem?_toArray,List.getElem?_replicate,if_pos hj];have e:(aS 32 (0:UInt8))[j]'(by rw[lM];exact hj)=0:=List.getElem_replicate ..;rw[e];rfl)
 rw[lM]at hback;exact hback
theorem one_any(w:World)(v:Nat)(u:ByteArray):Calls ah 17 #[.int .u64 v,.string u] w fun r w'=>(∃A c,r=.returned (.agg #[.int .u64 v,.slice A 1 c,au,.string yX])∧df w' (.slice A 1 c) (fw v u).aK)∧aW w w':=by
 have hb0:=boxed w (.cells #[.int .u64 0,au,au,aG] 26);have hR0:=aH.new w 26 #[.int .u64 0,au,au,aG];obtain⟨HB0,HR0⟩:=aL hb0 hR0;clear hb0 hR0;rw[show yX=⟨#[97,99,99,101,112,116,32,97,110,121,32,102,114,111,109,32,42,32,116,111,32,42]⟩from rfl];go_enter Tryz.func17,Tryz.ntmps17;go_upto_region 1 with fail
 have HRl:=ae HR0.out.lt;generalize w.alloc (.cells #[.int .u64 0,au,au,aG] 26)=w1 at HB0 HR0 HRl⊢;have hRw:ag (w.heap.size≤w.heap.size):=ae (ax _);have hmk:∀W:World,(Instr.makeSlice 71 (.int .i64 32) (.int .i64 32)).run ah W=.ok (.slice (some ⟨W.heap.size,0,none⟩) 32 32) (W.alloc (.cells nj 5)):=fun W=>by kernel_rfl
 have hz0:=XD (aH.new w1 5 nj);have hbz:=boxed w1 (.cells nj 5);have HB1:=bg HB0 hbz;have HR1:=ae (bK HR0 hbz);clear hbz;generalize nj=Z at hmk hz0 HB1 HR1;go_upto_region 2 with fail
 clear hmk hz0 HB0 HR0 HRl;generalize w1.alloc (.cells Z 5)=w2 at HB1 HR1⊢;generalize hzk:Mc=zk;have HZk:=ae hzk.symm;clear hzk;have k1:=boxed w2 (.cells #[.bool false,.int .u64 0,.int .u64 167772161] 52);have k2:=boxed (w2.alloc (.cells #[.bool false,.int .u64 0,.int .u64 167772161] 52)) (.cells #[.string zk,.string zk,.string u,au,.slice (some ⟨w2.heap.size,0,none⟩) 1 1,.int .u64 9,.int .u8 0,au] 47);have hA:=(aH.new w2 52 #[.bool false,.int .u64 0,.int .u64 167772161]).below k2 (aH.new w2 52 #[.bool false,.int .u64 0,.int .u64 167772161]).lt;have hP:=aH.new (w2.alloc (.cells #[.bool false,.int .u64 0,.int .u64 167772161] 52)) 47 #[.string zk,.string zk,.string u,au,.slice (some ⟨w2.heap.size,0,none⟩) 1 1,.int .u64 9,.int .u8 0,au];rw[show(w2.alloc (.cells #[.bool false,.int .u64 0,.int .u64 167772161] 52)).heap.size=w2.heap.size+1 by simp]at hP;have iY:=(bK HR1 k1).below k2 (bK HR1 k1).lt;have HB3:=ae (after (after HB1.out k1) k2);have hne1:w2.heap.size≠w.heap.size:=by have:=HR1.out.lt;omega
 have hne2:w2.heap.size+1≠w.heap.size:=by have:=HR1.out.lt;omega
 have r0:=iY.cell 0;have r1:=iY.cell 1;have r2:=iY.cell 2;have r3:=iY.cell 3;simp at r0 r1 r2 r3;have fr:=fun i=>iY.frozen i
 obtain⟨HA,HP,HR3,HNe⟩:=cU hA hP iY (And.intro hne1 hne2);clear k1 k2 hA hP iY hne1 hne2 HB1 HR1;go_wp2_with fail
 obtain⟨s9,q9⟩:=jK HR3.out HB3.out (ax _) (.int .u64 v) (.slice (some ⟨w2.heap.size+1,0,none⟩) 1 1) au (.string ⟨#[97,99,99,101,112,116,32,97,110,121,32,102,114,111,109,32,42,32,116,111,32,42]⟩);have z9:=Io (P:=w.heap.size) (Q:=fun W=>aH W w2.heap.size 52 #[.bool false,.int .u64 0,.int .u64 167772161]∧aH W (w2.heap.size+1) 47 #[.string zk,.string zk,.string u,au,.slice (some ⟨w2.heap.size,0,none⟩) 1 1,.int .u64 9,.int .u8 0,au]) (fun W i x hq=>⟨hq.1.far (p:=⟨w.heap.size,i,none⟩) HNe.out.1 x,hq.2.far (p:=⟨w.heap.size,i,none⟩) HNe.out.2 x⟩) ⟨HA.out,HP.out⟩ (.int .u64 v) (.slice (some ⟨w2.heap.size+1,0,none⟩) 1 1) au (.string ⟨#[97,99,99,101,112,116,32,97,110,121,32,102,114,111,109,32,42,32,116,111,32,42]⟩);have hrd:df ((((((w2.alloc (.cells #[.bool false,.int .u64 0,.int .u64 167772161] 52)).alloc (.cells #[.string zk,.string zk,.string u,au,.slice (some ⟨w2.heap.size,0,none⟩) 1 1,.int .u64 9,.int .u8 0,au] 47)).setCell ⟨w.heap.size,0,none⟩ (.int .u64 v)).setCell ⟨w.heap.size,1,none⟩ (.slice (some ⟨w2.heap.size+1,0,none⟩) 1 1)).setCell ⟨w.heap.size,2,none⟩ au).setCell ⟨w.heap.size,3,none⟩ (.string ⟨#[97,99,99,101,112,116,32,97,110,121,32,102,114,111,109,32,42,32,116,111,32,42]⟩)) (.slice (some ⟨w2.heap.size+1,0,none⟩) 1 1) [ni u]:=by
  generalize((((((w2.alloc (.cells #[.bool false,.int .u64 0,.int .u64 167772161] 52)).alloc (.cells #[.string zk,.string zk,.string u,au,.slice (some ⟨w2.heap.size,0,none⟩) 1 1,.int .u64 9,.int .u8 0,au] 47)).setCell ⟨w.heap.size,0,none⟩ (.int .u64 v)).setCell ⟨w.heap.size,1,none⟩ (.slice (some ⟨w2.heap.size+1,0,none⟩) 1 1)).setCell ⟨w.heap.size,2,none⟩ au).setCell ⟨w.heap.size,3,none⟩ (.string ⟨#[97,99,99,101,112,116,32,97,110,121,32,102,114,111,109,32,42,32,116,111,32,42]⟩))=W at z9⊢;rw[HZk.out]at z9;have e:cY [⟨ni u,au,.slice (some ⟨w2.heap.size,0,none⟩) 1 1,au⟩]=(#[.string Mc,.string Mc,.string u,au,.slice (some ⟨w2.heap.size,0,none⟩) 1 1,.int .u64 9,.int .u8 0,au]:Array Value).toList:=rfl;have e2:dy (ni u).aQ=(#[.bool false,.int .u64 0,.int .u64 167772161]:Array Value).toList:=rfl;refine⟨[⟨ni u,au,.slice (some ⟨w2.heap.size,0,none⟩) 1 1,au⟩],rfl,?_,fun X hX=>?_⟩
  ·rw[e];exact yW (n:=1) (size:=8) (c:=1) z9.2 rfl
  ·rw[List.mem_singleton.1 hX];refine⟨sE _ 1,?_,sE _ 4⟩;show a8 W _ 1 3 (dy (ni u).aQ);rw[e2];exact yW (n:=1) (size:=3) (c:=1) z9.1 rfl
 exact bodyPost_ret (fS (x:=4) rfl rfl (iC s9)) rfl ⟨⟨some ⟨w2.heap.size+1,0,none⟩,1,rfl,hrd⟩,q9⟩
theorem XE{H:Mp→ByteArray}{a b:Mp}(fa:jG a)(fb:jG b):uW (dI H a b):=by
 refine⟨fa.version,fb.version,fun p hp=>fb.aK p (List.mem_filter.1 hp).1,fun r hr=>?_⟩;have hr':r∈(if a.aA≠b.aA then b.aA else []):=hr;split at hr'
 ·exact fb.aA r hr'
 ·cases hr'
def ann:ByteArray:=⟨#[97,110,110]⟩
def sQ:ByteArray:=⟨#[98,111,98]⟩
theorem mr(v:Nat)(u:ByteArray)(hv:v<18446744073709551616):jG (fw v u):=by
 refine⟨hv,fun p hp=>?_,fun r hr=>by cases hr⟩;rw[List.mem_singleton.1 (show p∈[ni u]from hp)];exact⟨by show(9:Nat)<_;decide,by show(0:Nat)<_;decide,fun a ha=>by rw[List.mem_singleton.1 (show a∈[(⟨false,0,167772161⟩:Ad)]from ha)];exact⟨by decide,by decide⟩,fun e he=>by cases he⟩
theorem lJ(v:Nat)(u:ByteArray)(hu:u.size≤2000000):zT (fw v u):=by
 refine⟨fun p hp=>?_,by show 1≤_;decide,by show 0≤_;decide,by show yX.size≤_;decide,sJ⟩;rw[List.mem_singleton.1 (show p∈[ni u]from hp)];exact⟨hu,by show 0≤_;decide,by show 1≤_;decide,by show 0≤_;decide,fun t ht=>by cases ht⟩
theorem vv:(cR (fw 1 ann)).2=0:=by decide+kernel
theorem Oj:(cR (fw 2 sQ)).2=0:=by decide+kernel
theorem adK:zF (cR (fw 1 ann)).1=(fw 1 ann,0):=Z9 (abx (mr 1 ann aJ) (kT vv)) vv
theorem aaU:fj cz (fw 1 ann) (fw 2 sQ)=(dI cz (fw 1 ann) (fw 2 sQ),0):=by
 unfold fj;rw[if_neg (by rw[vv];decide),if_neg (by rw[Oj];decide),if_neg aJ]
theorem Ol(m:Mp)(h:(cR m).2=0):(cz m).size=32:=by
 unfold cz;rw[if_pos h,vl]
theorem XF:je cz (fw 1 ann) (dI cz (fw 1 ann) (fw 2 sQ))=(fw 2 sQ,0):=AU vv Oj aJ (Ol _ Oj)
theorem SG:dA (fw 1 ann) (dI cz (fw 1 ann) (fw 2 sQ))=fw 2 sQ:=rk (kT vv) (kT Oj)
theorem adM:(fw 2 sQ).aK.filter (jF (fw 1 ann).aK)=[ni sQ]:=by decide+kernel
theorem aaV:((fw 1 ann).aK.filter fun p=>(nK (fw 2 sQ).aK p.key).isNone).map (·.key)=[]:=by decide+kernel
theorem aaW:dI cz (fw 1 ann) (fw 2 sQ)=⟨1,2,[ni sQ],[],false,[],false,⟨#[]⟩,cz (fw 2 sQ)⟩:=by
 unfold dI;rw[adM,aaV];rfl
theorem adN:Rj (dI cz (fw 1 ann) (fw 2 sQ)):=by
 rw[aaW];refine⟨fun p hp=>?_,by show 1≤_;decide,by show 0≤_;decide,by show 0≤_;decide,by show 0≤_;decide,fun k hk=>by cases hk⟩;rw[List.mem_singleton.1 (show p∈[ni sQ]from hp)];exact⟨by show 3≤_;decide,by show 0≤_;decide,by show 1≤_;decide,by show 0≤_;decide,fun t ht=>by cases ht⟩
theorem aaX:((fw 1 ann).aK.find? fun p=>p.aQ.any fun y=>decide (y=(⟨false,0,167772161⟩:Ad)))=some (ni ann):=by decide+kernel
theorem aaY:(cR Mp.zero).2=220:=by decide+kernel
theorem fN{w w':World}{v:Value}{l:List Ry}(h:eG w v l)(hb:aW w w'):eG w' v l:=a8.below h hb
theorem Md{w:World}(env:Env w)(ord:fZ w):Calls ah 5 #[] w (Got (.bool true) w):=by
 obtain⟨pol,tR⟩:=bw yX;obtain⟨zk,hzk⟩:=bw Mc;obtain⟨Ma,hMa⟩:=bw (fw 1 ann);obtain⟨Mb,hMb⟩:=bw (fw 2 sQ);obtain⟨S,hS⟩:=bw ((cR (fw 1 ann)).1);obtain⟨D,hDe⟩:=bw (dI cz (fw 1 ann) (fw 2 sQ));obtain⟨HH,hHH⟩:=bw (cz (fw 2 sQ));obtain⟨G,hG⟩:=bw (cz (fw 1 ann));have afP:∀u,aW w u→∀Aa ca,df u (.slice Aa 1 ca) Ma.aK→Calls ah 18 #[.agg #[.int .u64 1,.slice Aa 1 ca,au,.string pol]] u fun r w'=>r=.returned (.tuple #[.string S,.int .i64 0])∧aW u w':=by
  subst tR hMa hS;intro u hu Aa ca h;refine(rm (env.below hu) h (dN u) (mr 1 ann aJ) (lJ 1 ann aJ).sz aJ aJ aJ sJ).mono ?_;rintro r w'⟨⟨t,e,hte,rfl⟩,d⟩;have h2:=vv;rw[←hte]at h2⊢;simp only at h2;subst h2;exact⟨rfl,d⟩
 have afQ:∀u,aW w u→Calls ah 19 #[.string S] u fun r w'=>(∃Ax cx Rx rx,r=.returned (.tuple #[.agg #[.int .u64 1,.slice Ax 1 cx,.slice Rx 0 rx,.string pol],.int .i64 0])∧df w' (.slice Ax 1 cx) Ma.aK∧eG w' (.slice Rx 0 rx) [])∧aW u w':=by
  subst tR hMa hS;intro u hu;have h:=decode_any (env.below hu) (cR (fw 1 ann)).1 (by have:=(yL vv).1;omega);rw[adK]at h;exact h
 have afR:∀u,aW w u→∀Aa ca Ab cb,df u (.slice Aa 1 ca) Ma.aK→df u (.slice Ab 1 cb) Mb.aK→Calls ah 6 #[.agg #[.int .u64 1,.slice Aa 1 ca,au,.string pol],.agg #[.int .u64 2,.slice Ab 1 cb,au,.string pol]] u fun r w'=>(∃As cs Ag cg Ar cr,r=.returned (.tuple #[.agg #[.int .u64 1,.int .u64 2,.slice As 1 cs,.slice Ag 0 cg,.bool false,.slice Ar 0 cr,.bool false,aG,.string HH],.int .i64 0])∧mK w' D (.slice As 1 cs) (.slice Ag 0 cg) (.slice Ar 0 cr))∧aW u w':=by
  subst tR hMa hMb hDe hHH;intro u hu Aa ca Ab cb h1 h2;have h:=BD (env.below hu) (ord.below hu ord.lt) h1 (dN u) h2 (dN u) (mr 1 ann aJ) (mr 2 sQ aJ) (lJ 1 ann aJ) (lJ 2 sQ aJ);rw[aaU]at h;refine h.mono ?_;rintro r w'⟨⟨sv,gv,rv,rfl,hd⟩,d⟩;have hd':=hd;rw[aaW]at hd';obtain⟨As,cs,e1⟩:=hd'.aM.shape;obtain⟨Ag,cg,e2⟩:=hd'.gone.shape;obtain⟨Ar,cr,e3⟩:=a8.shape hd'.aA;subst e1 e2 e3;refine⟨⟨As,cs,Ag,cg,Ar,cr,?_,hd⟩,d⟩;rw[aaW];rfl
 have afS:∀u,aW w u→∀Aa ca As cs Ag cg Ar cr,df u (.slice Aa 1 ca) Ma.aK→mK u D (.slice As 1 cs) (.slice Ag 0 cg) (.slice Ar 0 cr)→Calls ah 11 #[.agg #[.int .u64 1,.slice Aa 1 ca,au,.string pol],.agg #[.int .u64 1,.int .u64 2,.slice As 1 cs,.slice Ag 0 cg,.bool false,.slice Ar 0 cr,.bool false,aG,.string HH]] u fun r w'=>(∃Ay cy YD ry,r=.returned (.tuple #[.agg #[.int .u64 2,.slice Ay 1 cy,.slice YD 0 ry,.string pol],.int .i64 0])∧df w' (.slice Ay 1 cy) Mb.aK∧eG w' (.slice YD 0 ry) [])∧aW u w':=by
  subst tR hMa hMb hDe hHH;intro u hu Aa ca As cs Ag cg Ar cr h1 h2;have h:=yU (env.below hu) (ord.below hu ord.lt) h1 (dN u) (mr 1 ann aJ) (lJ 1 ann aJ) h2 (XE (mr 1 ann aJ) (mr 2 sQ aJ)) adN (by rw[SG];exact lJ 2 sQ aJ);rw[XF]at h;have e:eT (dI cz (fw 1 ann) (fw 2 sQ)) (.slice As 1 cs) (.slice Ag 0 cg) (.slice Ar 0 cr)= #[.int .u64 1,.int .u64 2,.slice As 1 cs,.slice Ag 0 cg,.bool false,.slice Ar 0 cr,.bool false,aG,.string (cz (fw 2 sQ))]:=by rw[aaW];rfl
  rw[e]at h;exact h
 have afT:∀u,aW w u→∀Aa ca,df u (.slice Aa 1 ca) Ma.aK→Calls ah 20 #[.agg #[.int .u64 1,.slice Aa 1 ca,au,.string pol],.agg #[.bool false,.int .u64 0,.int .u64 167772161]] u fun r w'=>(∃A1 c1 A2 c2 A3 c3,r=.returned (.tuple #[.agg #[.string zk,.string zk,.string ⟨#[97,110,110]⟩,.slice A1 0 c1,.slice A2 1 c2,.int .u64 9,.int .u8 0,.slice A3 0 c3],.bool true]))∧aW u w':=by
  subst tR hMa hzk;intro u hu Aa ca h1;have h:=SD (m:=fw 1 ann) h1 (dN u) (lJ 1 ann aJ).sz aJ ⟨false,0,167772161⟩;rw[aaX]at h;refine h.mono ?_;rintro r w'⟨⟨X,rfl,hp,ho⟩,d⟩;obtain⟨p,tv,av,ev⟩:=X;have hp:p=ni ann:=hp;subst hp;obtain⟨A1,c1,e1⟩:=aX ho.tags;obtain⟨A2,c2,e2⟩:=aX ho.aQ;obtain⟨A3,c3,e3⟩:=aX ho.ends;simp only at e1 e2 e3;subst e1 e2 e3;exact⟨⟨A1,c1,A2,c2,A3,c3,rfl⟩,d⟩
 have hSa:∀u,∀Aa ca Ax cx Rx rx,df u (.slice Aa 1 ca) Ma.aK→df u (.slice Ax 1 cx) Ma.aK→eG u (.slice Rx 0 rx) []→Calls ah 21 #[.agg #[.int .u64 1,.slice Aa 1 ca,au,.string pol],.agg #[.int .u64 1,.slice Ax 1 cx,.slice Rx 0 rx,.string pol]] u (Got (.bool true) u):=by
  subst tR hMa;intro u Aa ca Ax cx Rx rx h1 h2 h3;have h:=BF (x:=fw 1 ann) (y:=fw 1 ann) h1 (dN u) h2 h3 (lJ 1 ann aJ).sz (lJ 1 ann aJ).sz aJ aJ aJ aJ;rw[decide_eq_true rfl]at h;exact h
 have hSb:∀u,∀Ab cb Ay cy YD ry,df u (.slice Ab 1 cb) Mb.aK→df u (.slice Ay 1 cy) Mb.aK→eG u (.slice YD 0 ry) []→Calls ah 21 #[.agg #[.int .u64 2,.slice Ab 1 cb,au,.string pol],.agg #[.int .u64 2,.slice Ay 1 cy,.slice YD 0 ry,.string pol]] u (Got (.bool true) u):=by
  subst tR hMb;intro u Ab cb Ay cy YD ry h1 h2 h3;have h:=BF (x:=fw 2 sQ) (y:=fw 2 sQ) h1 (dN u) h2 h3 (lJ 2 sQ aJ).sz (lJ 2 sQ aJ).sz aJ aJ aJ aJ;rw[decide_eq_true rfl]at h;exact h
 have afU:∀u,aW w u→∀Aa ca,df u (.slice Aa 1 ca) Ma.aK→Calls ah 22 #[.agg #[.int .u64 1,.slice Aa 1 ca,au,.string pol]] u (Got (.string G) u):=by
  subst tR hMa hG;intro u hu Aa ca h;exact uj (env.below hu) (ord.below hu ord.lt) h (dN u) (mr 1 ann aJ) (lJ 1 ann aJ).sz aJ aJ aJ sJ
 have afV:∀u,aW w u→Calls ah 8 #[.agg #[.int .u64 0,au,au,aG]] u (Got (.int .i64 220) u):=by
  intro u hu;have h:=ky (m:=Mp.zero) (env.below hu) (iV u) (dN u) ⟨by decide,(fun p hp=>by cases hp),(fun p hp=>by cases hp)⟩ (fun p hp=>by cases hp) aJ aJ aJ sJ;rw[aaY]at h;exact h
 have hO1:∀u,Calls ah 17 #[.int .u64 1,.string ⟨#[97,110,110]⟩] u fun r w'=>(∃Aa ca,r=.returned (.agg #[.int .u64 1,.slice Aa 1 ca,au,.string pol])∧df w' (.slice Aa 1 ca) Ma.aK)∧aW u w':=by
  subst tR hMa;exact fun u=>one_any u 1 ann
 have hO2:∀u,Calls ah 17 #[.int .u64 2,.string ⟨#[98,111,98]⟩] u fun r w'=>(∃Ab cb,r=.returned (.agg #[.int .u64 2,.slice Ab 1 cb,au,.string pol])∧df w' (.slice Ab 1 cb) Mb.aK)∧aW u w':=by
  subst tR hMb;exact fun u=>one_any u 2 sQ
 have hGs:((G.size:Int)==32)=true:=by rw[hG,Ol _ vv];rfl
 obtain⟨aaO,ag9,aha,ahb,HFin,HSa,HSb,tD,vK,HO1,HO2⟩:=zZ afP afQ afR afS afT hSa hSb afU afV hO1 hO2;clear afP afQ afR afS afT hSa hSb afU afV hO1 hO2 tR hzk hMa hMb hS hDe hHH hG env ord;go_enter Tryz.func5,Tryz.ntmps5;go_upto_region 2 with(first
  |(go_at_call 17;(with_reducible refine(HO1.out _).mono ?_);rintro r w1⟨⟨Aa,ca,rfl,ha⟩,d1⟩;obtain⟨TA1,N9⟩:=aL ha d1;clear ha d1)
  |(go_at_call 17;(with_reducible refine(HO2.out _).mono ?_);rintro r w2⟨⟨Ab,cb,rfl,hb⟩,d2⟩;obtain⟨TA2,TC2⟩:=aL (TA1.out.below d2) hb;have Ob:=bg N9 d2;clear hb d2 TA1 N9))
 have k1:=boxed w2 (.cells #[.int .u64 1,.slice Aa 1 ca,au,.string pol] 26);have k2:=boxed (w2.alloc (.cells #[.int .u64 1,.slice Aa 1 ca,au,.string pol] 26)) (.cells #[.int .u64 2,.slice Ab 1 cb,au,.string pol] 26);have hP:=aH.new w2 26 #[.int .u64 1,.slice Aa 1 ca,au,.string pol];have D9:=ae (hP.below k2 hP.lt);have hQ:=aH.new (w2.alloc (.cells #[.int .u64 1,.slice Aa 1 ca,au,.string pol] 26)) 26 #[.int .u64 2,.slice Ab 1 cb,au,.string pol];rw[show(w2.alloc (.cells #[.int .u64 1,.slice Aa 1 ca,au,.string pol] 26)).heap.size=w2.heap.size+1 by simp]at hQ;obtain⟨ER,Ec,TA3,TC3⟩:=cU hQ (after (after Ob.out k1) k2) ((TA2.out.below k1).below k2) ((TC2.out.below k1).below k2);clear k1 k2 hP hQ Ob TA2 TC2;generalize(w2.alloc (.cells #[.int .u64 1,.slice Aa 1 ca,au,.string pol] 26)).alloc (.cells #[.int .u64 2,.slice Ab 1 cb,au,.string pol] 26)=w3 at D9 ER Ec TA3 TC3⊢;generalize w2.heap.size+1=Q at ER⊢;generalize w2.heap.size=P at D9⊢;obtain⟨p0,p1,p2,p3⟩:=dY D9;go_upto_region 3 with(go_at_call 18;refine(aaO.out _ Ec.out _ _ TA3.out).mono ?_;rintro r w4⟨rfl,d4⟩;have TB4:=bg Ec d4;obtain⟨Yz,TQ4,TA4,TC4⟩:=cU (bK D9 d4) (bK ER d4) (TA3.out.below d4) (TC3.out.below d4);clear Ec D9 ER TA3 TC3;clear d4)
 clear p0 p1 p2 p3;go_upto_region 4 with(go_at_call 19;refine(ag9.out _ TB4.out).mono ?_;rintro r w5⟨⟨Ax,cx,Rx,rx,rfl,hx,hrx⟩,d⟩;have afW:=bg TB4 d;obtain⟨afX,afY,afZ,af0⟩:=cU (bK Yz d) (bK TQ4 d) (TA4.out.below d) (TC4.out.below d);clear TB4 Yz TQ4 TA4 TC4;obtain⟨af1,abM⟩:=aL hx hrx;clear hx hrx;clear d)
 have kk:=boxed w5 (.cells #[.int .u64 1,.slice Ax 1 cx,.slice Rx 0 rx,.string pol] 26);have aaZ:=bg afW kk;obtain⟨aa0,aa1,aa2,aa3,adO,XG,Om⟩:=nn (bK afX kk) (bK afY kk) (afZ.out.below kk) (af0.out.below kk) (af1.out.below kk) (fN abM.out kk) (aH.new w5 26 #[.int .u64 1,.slice Ax 1 cx,.slice Rx 0 rx,.string pol]);clear afW afX afY afZ af0 af1 abM;clear kk;generalize w5.alloc (.cells #[.int .u64 1,.slice Ax 1 cx,.slice Rx 0 rx,.string pol] 26)=w6 at aaZ aa0 aa1 aa2 aa3 adO XG Om⊢;generalize w5.heap.size=X at Om⊢;obtain⟨p0,p1,p2,p3⟩:=dY aa0;obtain⟨q0,q1,q2,q3⟩:=dY aa1;go_upto_region 5 with(go_at_call 6;refine(aha.out _ aaZ.out _ _ _ _ aa2.out aa3.out).mono ?_;rintro r w7⟨⟨As,cs,Ag,cg,Ar,cr,rfl,hd⟩,d⟩;have abN:=bg aaZ d;obtain⟨abO,abP,abQ,abR,abS,XI,XJ⟩:=nn (bK aa0 d) (bK aa1 d) (aa2.out.below d) (aa3.out.below d) (adO.out.below d) (fN XG.out d) (bK Om d);clear aaZ aa0 aa1 aa2 aa3 adO XG Om;have abT:=ae hd;clear hd;clear d)
 have kk:=boxed w7 (.cells #[.int .u64 1,.int .u64 2,.slice As 1 cs,.slice Ag 0 cg,.bool false,.slice Ar 0 cr,.bool false,aG,.string HH] 31);have On:=bg abN kk;obtain⟨Oo,XK,Oq,XM,XN,Me,MA,Ot,yY⟩:=SX (bK abO kk) (bK abP kk) (abQ.out.below kk) (abR.out.below kk) (abS.out.below kk) (fN XI.out kk) (bK XJ kk) (abT.out.below kk) (aH.new w7 31 #[.int .u64 1,.int .u64 2,.slice As 1 cs,.slice Ag 0 cg,.bool false,.slice Ar 0 cr,.bool false,aG,.string HH]);clear abN abO abP abQ abR abS XI XJ abT;clear kk;generalize w7.alloc (.cells #[.int .u64 1,.int .u64 2,.slice As 1 cs,.slice Ag 0 cg,.bool false,.slice Ar 0 cr,.bool false,aG,.string HH] 31)=w8 at On Oo XK Oq XM XN Me MA Ot yY⊢;generalize w7.heap.size=DP at yY⊢;clear p0 p1 p2 p3 q0 q1 q2 q3;obtain⟨p0,p1,p2,p3⟩:=dY Oo;obtain⟨q0,q1,q2,q3,q4,q5,q6,q7,q8⟩:=vw yY;go_upto_region 6 with(go_at_call 11;refine(ahb.out _ On.out _ _ _ _ _ _ _ _ Oq.out Ot.out).mono ?_;rintro r w9⟨⟨Ay,cy,YD,ry,rfl,hy,hry⟩,d⟩;have XO:=bg On d;obtain⟨XP,XQ,XR,XS,XT,Ou,Ov,XU,Ox⟩:=SX (bK Oo d) (bK XK d) (Oq.out.below d) (XM.out.below d) (XN.out.below d) (fN Me.out d) (bK MA d) (Ot.out.below d) (bK yY d);clear On Oo XK Oq XM XN Me MA Ot yY;obtain⟨XW,Oy⟩:=aL hy hry;clear hy hry;clear d)
 have kk:=boxed w9 (.cells #[.int .u64 2,.slice Ay 1 cy,.slice YD 0 ry,.string pol] 26);have Ej:=bg XO kk;obtain⟨Ek,MB,Em,MC,ME,Ep,Es,MF,Et,MG,Eu,wT⟩:=oM (bK XP kk) (bK XQ kk) (XR.out.below kk) (XS.out.below kk) (XT.out.below kk) (fN Ou.out kk) (bK Ov kk) (XU.out.below kk) (bK Ox kk) (XW.out.below kk) (fN Oy.out kk) (aH.new w9 26 #[.int .u64 2,.slice Ay 1 cy,.slice YD 0 ry,.string pol]);clear XO XP XQ XR XS XT Ou Ov XU Ox XW Oy;clear kk;generalize w9.alloc (.cells #[.int .u64 2,.slice Ay 1 cy,.slice YD 0 ry,.string pol] 26)=wA at Ej Ek MB Em MC ME Ep Es MF Et MG Eu wT⊢;generalize w9.heap.size=YP at wT⊢;clear p0 p1 p2 p3 q0 q1 q2 q3 q4 q5 q6 q7 q8;obtain⟨p0,p1,p2,p3⟩:=dY Ek;go_upto_region 7 with(go_at_call 20;refine(HFin.out _ Ej.out _ _ Em.out).mono ?_;rintro r wB⟨⟨A1,c1,A2,c2,A3,c3,rfl⟩,d⟩;have Oz:=bg Ej d;obtain⟨OC,OD,OE,OG,OH,Iq,Ir,OI,Is,OJ,It,Iu⟩:=oM (bK Ek d) (bK MB d) (Em.out.below d) (MC.out.below d) (ME.out.below d) (fN Ep.out d) (bK Es d) (MF.out.below d) (bK Et d) (MG.out.below d) (fN Eu.out d) (bK wT d);clear Ej Ek MB Em MC ME Ep Es MF Et MG Eu wT;skip;clear d)
 have kk:=boxed wB (.cells #[.string zk,.string zk,.string ⟨#[97,110,110]⟩,.slice A1 0 c1,.slice A2 1 c2,.int .u64 9,.int .u8 0,.slice A3 0 c3] 47);have Ez:=bg Oz kk;obtain⟨wU,wV,wW,EA,wX,sR,sS,EB,sT,EC,yZ,sU⟩:=oM (bK OC kk) (bK OD kk) (OE.out.below kk) (OG.out.below kk) (OH.out.below kk) (fN Iq.out kk) (bK Ir kk) (OI.out.below kk) (bK Is kk) (OJ.out.below kk) (fN It.out kk) (bK Iu kk);have pN:=ae (aH.new wB 47 #[.string zk,.string zk,.string ⟨#[97,110,110]⟩,.slice A1 0 c1,.slice A2 1 c2,.int .u64 9,.int .u8 0,.slice A3 0 c3]);clear Oz OC OD OE OG OH Iq Ir OI Is OJ It Iu;clear kk;generalize wB.alloc (.cells #[.string zk,.string zk,.string ⟨#[97,110,110]⟩,.slice A1 0 c1,.slice A2 1 c2,.int .u64 9,.int .u8 0,.slice A3 0 c3] 47)=wC at Ez wU wV wW EA wX sR sS EB sT EC yZ sU pN⊢;generalize wB.heap.size=ZP at pN⊢;clear p0 p1 p2 p3;obtain⟨p0,p1,p2,p3⟩:=dY wU;obtain⟨x0,x1,x2,x3⟩:=dY sS;obtain⟨-,-,d2⟩:=jt sT;obtain⟨q0,q1,q2,q3⟩:=dY wV;obtain⟨y0,y1,y2,y3⟩:=dY sU;obtain⟨-,-,z2⟩:=jt pN;go_wp2_with(first
  |(go_at_call 21;(with_reducible refine(HSa.out _ _ _ _ _ _ _ wW.out wX.out sR.out).mono ?_);rintro r wD⟨rfl,dD⟩;clear p0 p1 p2 p3 x0 x1 x2 x3 d2 q0 q1 q2 q3 y0 y1 y2 y3 z2;have SU:=bg Ez dD;obtain⟨IX,LH,TA5,TC5,TX5,af2,adQ,YB,adR,TY5,adS,adT⟩:=oM (bK wU dD) (bK wV dD) (wW.out.below dD) (EA.out.below dD) (wX.out.below dD) (fN sR.out dD) (bK sS dD) (EB.out.below dD) (bK sT dD) (EC.out.below dD) (fN yZ.out dD) (bK sU dD);have adU:=ae (bK pN dD);clear Ez wU wV wW EA wX sR sS EB sT EC yZ sU pN;clear dD;obtain⟨p0,p1,p2,p3⟩:=dY IX;obtain⟨x0,x1,x2,x3⟩:=dY adQ;obtain⟨-,-,d2⟩:=jt adR;obtain⟨q0,q1,q2,q3⟩:=dY LH;obtain⟨y0,y1,y2,y3⟩:=dY adT;obtain⟨-,-,z2⟩:=jt adU)
  |(go_at_call 21;(with_reducible refine(HSb.out _ _ _ _ _ _ _ TC5.out TY5.out adS.out).mono ?_);rintro r wE⟨rfl,dE⟩;clear p0 p1 p2 p3 x0 x1 x2 x3 d2 q0 q1 q2 q3 y0 y1 y2 y3 z2;have YC:=bg SU dE;obtain⟨TP6,TQ6,TA6,TC6,TX6,af4,adV,TD6,adW,TY6,af5,adX⟩:=oM (bK IX dE) (bK LH dE) (TA5.out.below dE) (TC5.out.below dE) (TX5.out.below dE) (fN af2.out dE) (bK adQ dE) (YB.out.below dE) (bK adR dE) (TY5.out.below dE) (fN adS.out dE) (bK adT dE);have adY:=ae (bK adU dE);clear SU IX LH TA5 TC5 TX5 af2 adQ YB adR TY5 adS adT adU;clear dE;obtain⟨p0,p1,p2,p3⟩:=dY TP6;obtain⟨x0,x1,x2,x3⟩:=dY adV;obtain⟨-,-,d2⟩:=jt adW;obtain⟨q0,q1,q2,q3⟩:=dY TQ6;obtain⟨y0,y1,y2,y3⟩:=dY adX;obtain⟨-,-,z2⟩:=jt adY)
  |(go_at_call 22;refine(tD.out _ YC.out _ _ TA6.out).mono ?_;rintro r wF⟨rfl,dF⟩;clear p0 p1 p2 p3 x0 x1 x2 x3 d2 q0 q1 q2 q3 y0 y1 y2 y3 z2;have TB7:=bg YC dF;obtain⟨TP7,TQ7,TA7,TC7,TX7,ahH,ahc,TD7,ahd,TY7,ahI,ahe⟩:=oM (bK TP6 dF) (bK TQ6 dF) (TA6.out.below dF) (TC6.out.below dF) (TX6.out.below dF) (fN af4.out dF) (bK adV dF) (TD6.out.below dF) (bK adW dF) (TY6.out.below dF) (fN af5.out dF) (bK adX dF);have ahf:=ae (bK adY dF);clear YC TP6 TQ6 TA6 TC6 TX6 af4 adV TD6 adW TY6 af5 adX adY;clear dF;obtain⟨p0,p1,p2,p3⟩:=dY TP7;obtain⟨x0,x1,x2,x3⟩:=dY ahc;obtain⟨-,-,d2⟩:=jt ahd;obtain⟨q0,q1,q2,q3⟩:=dY TQ7;obtain⟨y0,y1,y2,y3⟩:=dY ahe;obtain⟨-,-,z2⟩:=jt ahf)
  |(go_at_call 8;refine(vK.out _ TB7.out).mono ?_;rintro r wG⟨rfl,dG⟩))
 go_ret;exact⟨by simp,after TB7.out dG⟩
structure BkI(w:World)(P Q:Nat)(cm cd:Array Value)(W:World):Prop where
 low:aW w W
 pm:aH W P 26 cm
 pd:aH W Q 31 cd
theorem BkI.below{w W U:World}{P Q:Nat}{cm cd:Array Value}(h:BkI w P Q cm cd W)(d:aW W U):BkI w P Q cm cd U:=⟨after h.low d,h.pm.below d h.pm.lt,h.pd.below d h.pd.lt⟩
theorem XY{m:Dl}(h:(jW m).2=0):(jW m).1.size≤32768:=by
 obtain⟨_,h2,h3⟩:=mR h;have e:jW m=(iJ (Dm m),0):=h3;rw[e];show(iJ (Dm m)).size≤_;rw[←ek,show(iJ (Dm m)).data.toList=Dm m from rfl];exact h2
def XZ(m:Mp)(w:World)(r:Ending)(w':World):Prop:=(∃A1 c1 A2 c2,r=.returned (.agg #[.int .u64 (m.version:Int),.slice A1 m.aK.length c1,.slice A2 m.aA.length c2,.string m.policy])∧df w' (.slice A1 m.aK.length c1) m.aK∧eG w' (.slice A2 m.aA.length c2) m.aA)∧aW w w'
def X6(m:Mp)(w:World)(r:Ending)(w':World):Prop:=(∃A1 c1 A2 c2,r=.returned (.tuple #[.agg #[.int .u64 (m.version:Int),.slice A1 m.aK.length c1,.slice A2 m.aA.length c2,.string m.policy],.int .i64 0])∧df w' (.slice A1 m.aK.length c1) m.aK∧eG w' (.slice A2 m.aA.length c2) m.aA)∧aW w w'
def X7(d:Dl)(e:Nat)(w:World)(r:Ending)(w':World):Prop:=(∃A1 c1 A2 c2 A3 c3,r=.returned (.tuple #[.agg (eT d (.slice A1 d.aM.length c1) (.slice A2 d.gone.length c2) (.slice A3 d.aA.length c3)),.int .i64 e])∧mK w' d (.slice A1 d.aM.length c1) (.slice A2 d.gone.length c2) (.slice A3 d.aA.length c3))∧aW w w'
theorem X8{w:World}{D:Dl}{e:Nat}{r:Ending}{w':World}(h:W3 D e w r w'):X7 D e w r w':=by
 obtain⟨⟨sv,gv,rv,rfl,hd⟩,b⟩:=h;obtain⟨C1,k1,f1⟩:=hd.aM.shape;obtain⟨C2,k2,f2⟩:=hd.gone.shape;obtain⟨C3,k3,f3⟩:=a8.shape hd.aA;subst f1 f2 f3;exact⟨⟨_,_,_,_,_,_,rfl,hd⟩,b⟩
theorem aa4{u:World}{m:Mp}{f:Nat}{args:Array Value}{X:ByteArray×Nat}(h:Calls ah f args u fun r w'=>(∃(t:ByteArray)(e:Nat),(t,e)=X∧r=.returned (.tuple #[.string t,.int .i64 e]))∧aW u w'):Calls ah f args u (Got (.tuple #[.string X.1,.int .i64 (X.2:Int)]) u):=by
 refine h.mono ?_;rintro r w'⟨⟨t,e,rfl,rfl⟩,b⟩;exact⟨rfl,b⟩
theorem SH{a b:Mp}(h:(fj cz a b).2≠0):(cR a).2≠0∨(cR b).2≠0∨b.version≤a.version:=by
 by_cases h1:(cR a).2=0
 ·by_cases h2:(cR b).2=0
  ·by_cases h3:b.version≤a.version
   ·exact Or.inr (Or.inr h3)
   ·exact absurd (by unfold fj;rw[if_neg (by rw[h1];decide),if_neg (by rw[h2];decide),if_neg h3]) h
  ·exact Or.inr (Or.inl h2)
 ·exact Or.inl h1
theorem OL{p:Pr}(h:kt p=true):∀s∈p.tags,s.size≠0:=by
 intro s hs h0;unfold kt at h;simp only[aU,List.all_eq_true]at h;have:=h.1.1.1.2 s hs;have e:s=⟨#[]⟩:=by
  apply ByteArray.ext;exact Array.eq_empty_of_size_eq_zero h0
 subst e;exact absurd this (by decide)
theorem adZ{p:Pr}(h:kt p=true):p.key.size=32:=by
 unfold kt at h;simp only[aU,decide_eq_true_eq]at h;exact h.1.1.1.1.1.1.1.1.1.1.1
structure OM(a b:Mp)(d:Dl):Prop where
 va:(cR a).2=0
 vb:(cR b).2=0
 is:d=dI cz a b
 fit:uW d
 sz:Rj d
 may:iH d=true
 app:je cz a d=(b,0)
 to_:dA a d=b
 tags:∀p∈d.aM,∀s∈p.tags,s.size≠0
 keys:∀s∈d.gone,s.size≠0
 only:∀p∈d.aM,∀q∈a.aK,q.key=p.key→q≠p
theorem y9{a b:Mp}(fa:jG a)(fb:jG b)(sa:zT a)(sb:zT b)(h:(fj cz a b).2=0):OM a b (fj cz a b).1:=by
 by_cases h1:(cR a).2=0
 ·by_cases h2:(cR b).2=0
  ·by_cases h3:b.version≤a.version
   ·unfold fj at h;rw[if_neg (by rw[h1];decide),if_neg (by rw[h2];decide),if_pos h3]at h;cases h
   ·have e:fj cz a b=(dI cz a b,0):=by unfold fj;rw[if_neg (by rw[h1];decide),if_neg (by rw[h2];decide),if_neg h3]
    rw[e];have ma:=kT h1;have mb:=kT h2;obtain⟨_,pa,_,_⟩:=gB ma;obtain⟨_,pb,_,_⟩:=gB mb;have hH:(cz b).size=32:=by unfold cz;rw[if_pos h2,vl]
    have ra:=gu pa;have rb:=gu pb;have ka:∀s∈(dI cz a b).gone,s.size=32:=fun s hs=>by
     obtain⟨y,hy,rfl⟩:=List.mem_map.1 hs;exact adZ (ra.2.2 y (List.mem_filter.1 hy).1)
    refine⟨h1,h2,rfl,⟨fa.version,fb.version,fun p hp=>fb.aK p (List.mem_filter.1 hp).1,fun x hx=>?_⟩,⟨fun p hp=>sb.sz p (List.mem_filter.1 hp).1,aw (List.length_filter_le _ _) sb.pl,?_,?_,?_,fun k hk=>by have:=ka k hk;omega⟩,GF ma mb aR hH,AU h1 h2 aR hH,rk ma mb,fun p hp=>OL (rb.2.2 p (List.mem_filter.1 hp).1),fun s hs=>by have:=ka s hs;omega,fun p hp q hq hk=>?_⟩
    ·have hx':x∈(if a.aA≠b.aA then b.aA else []):=hx;split at hx'
     ·exact fb.aA x hx'
     ·cases hx'
    ·show((a.aK.filter _).map _).length≤_;rw[ay];exact aw (List.length_filter_le _ _) sa.pl
    ·show(if a.aA≠b.aA then b.aA else []).length≤_;split
     ·exact sb.rl
     ·simp
    ·show(if a.policy≠b.policy then b.policy else(⟨#[]⟩:ByteArray)).size≤_;split
     ·exact sb.ol
     ·show 0≤_;omega
    ·have hs:=at_mem hq;rw[hk]at hs;obtain⟨q2,e2⟩:=Option.isSome_iff_exists.1 hs;have h4:=pY e2;have h5:=QN p hp q2 e2;rw[Dt ra.1 hq h4.1 (by rw[hk,h4.2])];exact h5
  ·unfold fj at h;rw[if_neg (by rw[h1];decide),if_pos h2]at h;exact absurd h h2
 ·unfold fj at h;rw[if_pos h1]at h;exact absurd h h1
theorem X9{d:Dl}(h:iH d=true):(jW d).2=0∨(jW d).2=4:=by
 unfold jW encR;rw[h,if_neg aJ];split
 ·exact Or.inr rfl
 ·exact Or.inl rfl
structure abU(n:Nat)(l:List Pr):Prop where
 is:n=l.length
structure MmI(w:World)(P Q:Nat)(cm cd:Array Value)(W:World):Prop where
 low:aW w W
 pm:aH W P 26 cm
 pd:aH W Q 26 cd
theorem MmI.below{w W U:World}{P Q:Nat}{cm cd:Array Value}(h:MmI w P Q cm cd W)(d:aW W U):MmI w P Q cm cd U:=⟨after h.low d,h.pm.below d h.pm.lt,h.pd.below d h.pd.lt⟩
structure Iw(w:World)(d:Dl)(D:Nat)(sv gv rv:Value)(W:World):Prop where
 blk:aH W D 31 (eT d sv gv rv)
 rd:mK W d sv gv rv
 low:aW w W
theorem Iw.below{w:World}{d:Dl}{D:Nat}{sv gv rv:Value}{W U:World}(h:Iw w d D sv gv rv W)(b:aW W U):Iw w d D sv gv rv U:=⟨h.blk.below b h.blk.lt,h.rd.below b,after h.low b⟩
theorem pO{w u:World}{d:Dl}{sv gv rv:Value}(E:aW w u)(h:mK u d sv gv rv):Iw w d u.heap.size sv gv rv (u.alloc (.cells (eT d sv gv rv) 31)):=⟨aH.new u 31 _,h.below (boxed u _),after E (boxed u _)⟩
theorem sV{w u:World}{d:Dl}{D:Nat}{sv gv rv:Value}(E:aW w u)(hD:aH u D 31 #[.int .u64 0,.int .u64 0,au,au,.bool false,au,.bool false,aG,aG])(hw:w.heap.size≤D)(h:mK u d sv gv rv)(ht:∀p∈d.aM,∀s∈p.tags,s.size≠0)(hg:∀s∈d.gone,s.size≠0):Iw w d D sv gv rv (D7 u D (.int .u64 (d.base:Int)) (.int .u64 (d.version:Int)) sv gv (.bool d.eX) rv (.bool d.fe) (.string d.policy) (.string d.hash)):=⟨j5 hD _ _ _ _ _ _ _ _ _,Xj hD adx (ru (P:=D) (Q:=fun v=>Keeps (fun x=>x=D) u v) (fun u i x hq=>hq.setCell (p:=⟨D,i,none⟩) (Or.inl rfl) x) (Keeps.refl _ _) _ _ _ _ _ _ _ _ _) h ht hg,ru (P:=D) (Q:=fun v=>aW w v) (fun u i x hq=>hq.setCell (p:=⟨D,i,none⟩) hw x) E _ _ _ _ _ _ _ _ _⟩
structure ad0(w:World)(m:Mp)(M:Nat)(pv rv:Value)(W:World):Prop where
 blk:aH W M 26 #[.int .u64 (m.version:Int),pv,rv,.string m.policy]
 pr:df W pv m.aK
 ry:eG W rv m.aA
 low:aW w W
theorem za{w u:World}{m:Mp}{pv rv:Value}(E:aW w u)(h:df u pv m.aK)(k:eG u rv m.aA):ad0 w m u.heap.size pv rv (u.alloc (.cells #[.int .u64 (m.version:Int),pv,rv,.string m.policy] 26)):=⟨aH.new u 26 _,h.below (boxed u _),a8.below k (boxed u _),after E (boxed u _)⟩
theorem zb{w u:World}{m:Mp}{M:Nat}{pv rv:Value}(E:aW w u)(hM:aH u M 26 #[.int .u64 0,au,au,aG])(hw:w.heap.size≤M)(h:df u pv m.aK)(k:eG u rv m.aA)(ht:∀p∈m.aK,∀s∈p.tags,s.size≠0):ad0 w m M pv rv ((((u.setCell ⟨M,0,none⟩ (.int .u64 (m.version:Int))).setCell ⟨M,1,none⟩ pv).setCell ⟨M,2,none⟩ rv).setCell ⟨M,3,none⟩ (.string m.policy)):=by
 have s1:aH _ M 26 #[.int .u64 (m.version:Int),au,au,aG]:=hM.aM 0 _;have s2:aH _ M 26 #[.int .u64 (m.version:Int),pv,au,aG]:=s1.aM 1 pv;have s3:aH _ M 26 #[.int .u64 (m.version:Int),pv,rv,aG]:=s2.aM 2 rv;have s4:aH _ M 26 #[.int .u64 (m.version:Int),pv,rv,.string m.policy]:=s3.aM 3 _;have kp:=Io (P:=M) (Q:=fun v=>Keeps (fun x=>x=M) u v) (fun u i x hq=>hq.setCell (p:=⟨M,i,none⟩) (Or.inl rfl) x) (Keeps.refl _ _) (.int .u64 (m.version:Int)) pv rv (.string m.policy);exact⟨s4,Ib hM Xi kp h ht,Ic hM Xi kp k,Io (P:=M) (Q:=fun v=>aW w v) (fun u i x hq=>hq.setCell (p:=⟨M,i,none⟩) hw x) E _ _ _ _⟩
end Go.Proofs.YtkjaajcpbldjoabGreatDoor
