/- Joined out of: DfD DfE DfF. -/
import Derived.Test.YtdfnhljccdoncaaGreatDoorNay
set_option linter.unusedVariables false
set_option linter.unusedSimpArgs false
set_option maxHeartbeats 16000000
set_option maxRecDepth 100000
open Go.Lib renaming hid→ae
open Go.Proofs.Tryz renaming prog→ai
open Go.RowKit renaming Hid→af
open Go.Value renaming slice→iC
open List renaming getElem?_eq_getElem→ag,length_map→ay,take_succ_eq_append_getElem→aA,eq_nil_of_length_eq_zero→bS,append_nil→lS,filter_append→agi,drop_drop→ags,filter_nil→agu
open Nat renaming le_refl→aw,le_trans→ax,lt_succ_self→cE,add_zero→cN
namespace Go.Proofs.YtdfnhljccdoncaaGreatDoor
open Go.RowKit
attribute [local go_sem↓] Go.wp_at_zero Go.wp_at_succ
theorem YC:∀(l:List bG)(k:Nat),cI (l.take k)=(cI l).take (k*8):=by
 intro l
 induction l with
 |nil=>intro k;simp[cI]
 |cons x r ih=>
  intro k;cases k with
  |zero=>simp[cI]
  |succ k=>
   have e1:cI (x::r)=x.vals++cI r:=rfl;have e2:cI ((x::r).take (k+1))=x.vals++cI (r.take k):=rfl;rw[e1,e2,ih,show(k+1)*8=x.vals.length+k*8 by rw[aC];omega,List.take_length_add_append]
def mK(n:Nat):List Value:=(Builtin.zeroCells #[.string ⟨#[]⟩,.string ⟨#[]⟩,.string ⟨#[]⟩,.slice none 0 0,.slice none 0 0,.int .u64 0,.int .u8 0,.slice none 0 0] n).toList
theorem UD(w:World):(zeroValue 49).run ai w=.ok (.agg #[.string ⟨#[]⟩,.string ⟨#[]⟩,.string ⟨#[]⟩,.slice none 0 0,.slice none 0 0,.int .u64 0,.int .u8 0,.slice none 0 0]) w:=by kernel_rfl
theorem I6(n:Nat):(mK n).length=n*8:=by simp[mK,Builtin.zeroCells]
theorem I7(n:Nat):∀v∈mK n,v.oneCell'=true:=by
 intro v hv;unfold mK Builtin.zeroCells at hv;rw[Array.toList_map]at hv;obtain⟨i,_,rfl⟩:=List.mem_map.1 hv;have:i%8<8:=Nat.mod_lt _ aI;show((#[.string ⟨#[]⟩,.string ⟨#[]⟩,.string ⟨#[]⟩,.slice none 0 0,.slice none 0 0,.int .u64 0,.int .u8 0,.slice none 0 0]:Array Value)[i%8]!).oneCell'=true;generalize i%8=r at this
 match r,this with
 |0,_=>rfl
 |1,_=>rfl
 |2,_=>rfl
 |3,_=>rfl
 |4,_=>rfl
 |5,_=>rfl
 |6,_=>rfl
 |7,_=>rfl
theorem UE(ty:TypeId){w:World}{base g n cap:Nat}{xs:List Value}(h:w.ownsRow base 49 8 (.slice (some ⟨g,0,none⟩) n cap) n xs){i m c:Nat}(hn:n=i+(m+1)):(Builtin.clear_ #[23] ty #[.slice (some ⟨g,i*8,none⟩) (m+1) c]).run ai w=.ok (.tuple #[]) (w.setCells g (i*8) (mK (m+1))):=by
 have hst:=run_storeCells_cells (P:=ai) g (i*8) (mK (m+1)) 0 w (fun j hj=>?_) (fun j hj=>World.ownsRow.frozenAt h _) (I7 _)
 ·simp only[cN]at hst;have hv:=UD;unfold mK at hst⊢;simp[Builtin.clear_,run_underlying Tryz.underlying23,hv,Value.cells,hst]
 ·rw[I6]at hj;have hj2:i*8+0+j<n*8:=by rw[hn];omega
  rw[World.ownsRow.cellAt h _ hj2,ag (by rw[h.1];exact hj2)];rfl
structure qU{α:Type}(t:α→Bool)(l:List α)(i j:Nat)(L:List α):Prop where
 ij:i<j
 jn:j≤l.length
 len:L.length=l.length
 head:L.take i=(l.take j).filter t
 tail:L.drop j=l.drop j
section
variable{α:Type}{t:α→Bool}
theorem qU.start{l:List α}{k:Nat}{x:α}(hx:l[k]? =some x)(hd:t x=false)(hn:∀j y,j<k→l[j]? =some y→t y=true):qU t l k (k+1) l:=by
 have hk:=(List.getElem?_eq_some_iff.1 hx).1;refine⟨cE k,hk,rfl,?_,rfl⟩;rw[aA hk,agi,(List.getElem?_eq_some_iff.1 hx).2];have h1:(l.take k).filter t=l.take k:=by
  rw[List.filter_eq_self];intro y hy;obtain⟨j,hj⟩:=List.getElem?_of_mem hy;rw[List.getElem?_take]at hj;split at hj
  ·next hjk=>exact hn j y hjk hj
  ·cases hj
 rw[h1,List.filter_cons_of_neg (by rw[hd];decide),agu,lS]
theorem qU.at_{l L:List α}{i j:Nat}(h:qU t l i j L){x:α}(hx:l[j]? =some x):L[j]? =some x:=by
 have e:(L.drop j)[0]? =(l.drop j)[0]? :=by rw[h.tail]
 rw[List.getElem?_drop,List.getElem?_drop,cN]at e;rw[e,hx]
theorem qU.skip{l L:List α}{i j:Nat}(h:qU t l i j L){x:α}(hx:l[j]? =some x)(hd:t x=false):qU t l i (j+1) L:=by
 have hj:=(List.getElem?_eq_some_iff.1 hx).1;refine⟨by have:=h.ij;omega,hj,h.len,?_,?_⟩
 ·rw[h.head,aA hj,agi,(List.getElem?_eq_some_iff.1 hx).2,List.filter_cons_of_neg (by rw[hd];decide),agu,lS]
 ·rw[←ags,←ags,h.tail]
theorem qU.keep{l L:List α}{i j:Nat}(h:qU t l i j L){x:α}(hx:l[j]? =some x)(hd:t x=true):qU t l (i+1) (j+1) (L.set i x):=by
 have hj:=(List.getElem?_eq_some_iff.1 hx).1;have hij:=h.ij;have hil:i<L.length:=by rw[h.len];omega
 refine⟨by omega,hj,by rw[List.length_set,h.len],?_,?_⟩
 ·rw[aA hj,agi,(List.getElem?_eq_some_iff.1 hx).2,List.filter_cons_of_pos hd,agu,←h.head];rw[aA (by rw[List.length_set];exact hil),List.getElem_set_self];congr 1;rw[List.take_set_of_le (aw _)]
 ·rw[List.drop_set_of_lt aY,←ags,←ags,h.tail]
theorem qU.done{l L:List α}{i:Nat}(h:qU t l i l.length L):L.take i=l.filter t:=by
 rw[h.head,List.take_of_length_le (aw _)]
end
theorem pS{K:Nat→Prop}{g:Nat}{a:World}(hg:K g):∀(vs:List Value)(w:World)(j:Nat),Keeps K a w→Keeps K a (w.setCells g j vs)
 |[],_,_,h=>h
 |v::vs,w,j,h=>pS hg vs _ _ (h.setCell (p:=⟨g,j,none⟩) (Or.inl hg) v)
theorem OL{w:World}{base:Nat}{v:Value}(xs:List bG)(hl:xs.length≤4000000)(how:w.ownsRow base 49 8 v xs.length (cI xs))(hm:∀X∈xs,eI w X)(t:bG→Bool)(f:Nat)(lb:Array Value)(eg:∀args w,(callFunc f args).run ai w=.ok (.enter f args) w)(hf:∀W,Keeps (fun x=>v.ownBlock=some x) w W→∀X∈xs,Calls ai f (#[.agg X.vals.toArray]++lb) W (Got (.bool (!t X)) W)):Calls ai 49 #[v,.func (.func f) #[] lb] w fun r w'=>(∃A n c,r=.returned (.slice A n c)∧n=(xs.filter t).length∧w'.ownsRow base 49 8 (.slice A n c) n (cI (xs.filter t))∧(.slice A n c:Value).ownBlock=v.ownBlock)∧Keeps (fun x=>v.ownBlock=some x) w w':=by
 obtain⟨A,cap,rfl⟩:=aL how;have hix:=AB (aV.dm how) hl (fun X=> !t X) f lb eg (fun W hW X hX=>hf W (Keeps.of_below hW fun _ h _=>h) X hX);obtain⟨N,hN⟩:∃n,n=xs.length:=⟨_,rfl⟩;rw[←hN]at hix hl how hf⊢;obtain⟨HIx,HF,Vq,HN,HM⟩:=kp hix hf how hN hm;clear hix hf how hN hm;go_enter Tryz.func49,Tryz.ntmps49;go_upto_region 2 with(go_at_call 103;(with_reducible refine HIx.out.mono ?_);rintro r w1⟨⟨z,rfl,hz⟩,d1⟩)
 obtain⟨abP,D1⟩:=aQ (own_below Vq.out d1) d1;clear HIx Vq d1;rcases hz with⟨k,hk,rfl,hp,hno⟩|⟨rfl,hno⟩
 ·have hkl:k<xs.length:=by have:=HN.out;omega
  have hxk:xs[k]? =some xs[k]:=ag hkl;simp only[hxk]at hp;have hD:=qU.start (t:=t) hxk (by simpa using hp) (fun j y hj hy=>by have:=hno j hj;simp only[hy]at this;simpa using this);have HD:=ae hD;have q0:((k:Int)== -1)=false:=by rw[beq_eq_false_iff_ne];omega
  obtain⟨g,rfl,hbg,hgl,_⟩:=sw abP.out aY;have K1:=ae (Keeps.of_below (S:=(fun x=>(iC (some ⟨g,0,none⟩) N cap).ownBlock=some x)) D1.out fun _ h _=>h);clear hp hno hxk hD hgl D1;go_wp2_with fail
  clear q0;go_loopw [5,6] (fun v5 v6 wr=>∃(i j:Nat)(L:List bG),j≤N∧i<j∧v5=.int .i64 i∧v6=.int .i64 j∧af (qU t xs i j L)∧af (wr.ownsRow base 49 8 (.slice (some ⟨g,0,none⟩) N cap) N (cI L))∧af (Keeps (fun x=>(iC (some ⟨g,0,none⟩) N cap).ownBlock=some x) w wr)) (fun _ v6 _=>N-(intOf v6).toNat)
  case atStart=>exact⟨k,k+1,xs,hk,cE k,rfl,by go_num,HD,abP,K1⟩
  case round=>
   obtain⟨i,j,L,hj,hij,rfl,rfl,hd,how,hb⟩:=hrel;obtain⟨wo,rfl⟩:∃wo:World,wo=wr:=⟨_,rfl⟩;by_cases hlt:j<N
   ·have hjl:j<xs.length:=by have:=HN.out;omega
    have hXj:xs[j]? =some xs[j]:=ag hjl;have hXm:=List.getElem_mem hjl;have hmX:=HM.out _ hXm;generalize xs[j]=X at hXj hXm hmX;have hcall:=fun W hW=>HF.out W hW X hXm
    have YD:=hd.out.at_ hXj;have hLl:L.length=N:=by rw[hd.out.len,←HN.out]
    obtain⟨g',e',_,hgl,YE⟩:=sw how.out aY;injection e' with e'
    injection e' with e'
    subst e';have hse:=OI bG.vals 8 aC aI L (i:=i) aY X;obtain⟨B,hB⟩:∃b,b=t X:=⟨_,rfl⟩;rw[←hB]at hcall;have hkeep:=fun h=>hd.out.keep hXj h
    have UF:=fun h=>hd.out.skip hXj h
    rw[←hB]at hkeep UF;obtain⟨XX,hXX⟩:∃x,x=X:=⟨_,rfl⟩;rw[←hXX]at hkeep hse;obtain⟨adS,adT,HXX⟩:=bO hkeep UF hXX;have d0:=YE _ _ (aE bG.vals 8 aC YD (r:=0) rfl);have d1:=YE _ _ (aE bG.vals 8 aC YD (r:=1) rfl);have d2:=YE _ _ (aE bG.vals 8 aC YD (r:=2) rfl);have d3:=YE _ _ (aE bG.vals 8 aC YD (r:=3) rfl);have d4:=YE _ _ (aE bG.vals 8 aC YD (r:=4) rfl);have d5:=YE _ _ (aE bG.vals 8 aC YD (r:=5) rfl);have d6:=YE _ _ (aE bG.vals 8 aC YD (r:=6) rfl);have d7:=YE _ _ (aE bG.vals 8 aC YD (r:=7) rfl);obtain⟨A1,c1,e1⟩:=hmX.tags.shape;obtain⟨A2,c2,e2⟩:=hmX.aH.shape;obtain⟨A3,c3,e3⟩:=hmX.ends.shape;clear hmX YD;obtain⟨⟨key,bj,user,tags,aH,ex,aW,ends⟩,tv,av,ev⟩:=X;simp only at e1 e2 e3 d0 d1 d2 d3 d4 d5 d6 d7;subst e1 e2 e3;unfold bG.vals at hcall;simp only at hcall;rw[cN]at d0;have hvl:XX.vals=[.string key,.string bj,.string user,.slice A1 tags.length c1,.slice A2 aH.length c2,.int .u64 ex,.int .u8 aW,.slice A3 ends.length c3]:=by rw[hXX];rfl
    generalize tags.length=n1 at hcall d3 hvl;generalize aH.length=n2 at hcall d4 hvl;generalize ends.length=n3 at hcall d7 hvl;obtain⟨bu,QI,HVl⟩:=bO hcall hse hvl;have hLc:=hLl;clear YE hse hkeep UF hcall hB hXX hXj hXm hd hvl;go_upto_region 8 with fail
    have hbx:=boxed wo (.cells #[.string key,.string bj,.string user,.slice A1 n1 c1,.slice A2 n2 c2,.int .u64 ex,.int .u8 aW,.slice A3 n3 c3] 49);obtain⟨HX,YF,hb5⟩:=bO (aG.new wo 49 #[.string key,.string bj,.string user,.slice A1 n1 c1,.slice A2 n2 c2,.int .u64 ex,.int .u8 aW,.slice A3 n3 c3]) (own_below how.out hbx) (hb.out.than hbx);clear d0 d1 d2 d3 d4 d5 d6 d7 how hb hbx;generalize wo.alloc (.cells #[.string key,.string bj,.string user,.slice A1 n1 c1,.slice A2 n2 c2,.int .u64 ex,.int .u8 aW,.slice A3 n3 c3] 49)=w5 at HX YF hb5⊢;generalize wo.heap.size=XB at HX hgl⊢;obtain⟨a0,a1,a2,a3,a4,a5,a6,a7⟩:=jq HX;cases B with
    |false=>
     have HNx:=ae (adT.out rfl);go_wp2_with(go_at_fn f;(with_reducible refine(bu.out _ hb5.out).mono ?_);rintro r w6⟨rfl,d6⟩)
     go_roundw
     case rel=>exact⟨i,j+1,L,by omega,by omega,rfl,by go_num,HNx,ae (own_below YF.out d6),ae (hb5.out.than d6)⟩
     case measure=>simp[intOf];omega
    |true=>
     have HNx:=ae (adS.out rfl);go_upto_region 9 with(go_at_fn f;(with_reducible refine(bu.out _ hb5.out).mono ?_);rintro r w6⟨rfl,d6⟩)
     obtain⟨abQ,hb6⟩:=aQ (own_below YF.out d6) (hb5.out.than d6)
     replace a0:=ak a0 d6
     replace a1:=ak a1 d6
     replace a2:=ak a2 d6
     replace a3:=ak a3 d6
     replace a4:=ak a4 d6
     replace a5:=ak a5 d6
     replace a6:=ak a6 d6
     replace a7:=ak a7 d6
     clear d6 YF hb5 HX;have hiN:i<N:=by omega
     have z:=fun t(ht:t<8)=>World.ownsRow.cellAt abQ.out (i*8+t) (by omega)
     have hv:∀r u,((L[i]' aY).vals)[r]? =some u→(cI L)[i*8+r]? =some u:=fun r u hu=>aE bG.vals 8 aC (ag (show i<L.length by omega)) hu
     generalize L[i]=Z at hv;have z0:w6.cell? ⟨g,i*8+0,none⟩=some (.string Z.p.key):=(z 0 aI).trans (hv 0 _ rfl);have z1:w6.cell? ⟨g,i*8+1,none⟩=some (.string Z.p.bj):=(z 1 aI).trans (hv 1 _ rfl);have z2:w6.cell? ⟨g,i*8+2,none⟩=some (.string Z.p.user):=(z 2 aI).trans (hv 2 _ rfl);have z3:w6.cell? ⟨g,i*8+3,none⟩=some (Z.tv):=(z 3 aI).trans (hv 3 _ rfl);have z4:w6.cell? ⟨g,i*8+4,none⟩=some (Z.av):=(z 4 aI).trans (hv 4 _ rfl);have z5:w6.cell? ⟨g,i*8+5,none⟩=some (.int .u64 (Z.p.exp:Int)):=(z 5 aI).trans (hv 5 _ rfl);have z6:w6.cell? ⟨g,i*8+6,none⟩=some (.int .u8 (Z.p.aW:Int)):=(z 6 aI).trans (hv 6 _ rfl);have z7:w6.cell? ⟨g,i*8+7,none⟩=some (Z.ev):=(z 7 aI).trans (hv 7 _ rfl);have f:=fun t=>World.ownsRow.frozenAt abQ.out (i*8+t)
     have f0:=f 0;have f1:=f 1;have f2:=f 2;have f3:=f 3;have f4:=f 4;have f5:=f 5;have f6:=f 6;have f7:=f 7;simp only[cN]at z0 f0;have UG:=ae (EK [.string key,.string bj,.string user,.slice A1 n1 c1,.slice A2 n2 c2,.int .u64 ex,.int .u8 aW,.slice A3 n3 c3] w6 (i*8) _ abQ.out);have hb8:=ae (pS (K:=(fun x=>(iC (some ⟨g,0,none⟩) N cap).ownBlock=some x)) (g:=g) rfl [.string key,.string bj,.string user,.slice A1 n1 c1,.slice A2 n2 c2,.int .u64 ex,.int .u8 aW,.slice A3 n3 c3] w6 (i*8) hb6.out);clear z f hv;go_wp2_with fail
     go_roundw
     case rel=>
      refine⟨i+1,j+1,L.set i XX,by omega,by omega,by go_num,by go_num,HNx,ae ?_,hb8⟩;have h8:=UG.out;have h9:=QI.out;rw[HVl.out]at h9;rw[show cI L=L.flatMap bG.vals from rfl,h9]at h8;exact h8
     case measure=>simp[intOf];omega
   ·obtain rfl:j=N:=by omega
    have hdone:=hd.out;rw[HN.out]at hdone;have hD:=hdone.done;have hLl:L.length=j:=by rw[hd.out.len,←HN.out]
    obtain⟨m,hm⟩:∃m,j-i=m+1:=⟨j-i-1,by omega⟩;have afT:=fun ty c=>UE ty how.out (i:=i) (m:=m) (c:=c) (by omega)
    have hcap:=YB how.out;have UG:=UC (EK (mK (m+1)) _ (i*8) _ how.out) (show i≤j by omega);rw[I5,←YC,hD]at UG;have hb8:=pS (K:=(fun x=>(iC (some ⟨g,0,none⟩) j cap).ownBlock=some x)) (g:=g) rfl (mK (m+1)) _ (i*8) hb.out;have hil:(xs.filter t).length=i:=by rw[←hD,List.length_take,hLl];omega
    obtain⟨afh,Hb8,HIL⟩:=bO UG hb8 hil;clear hdone hD hLl UG hb8 hil hd how hb;go_wp2_with fail
    go_ret;exact⟨⟨some ⟨g,0,none⟩,i,cap,rfl,HIL.out.symm,afh.out,rfl⟩,Hb8.out⟩
 ·have hall:xs.filter t=xs:=by
   rw[List.filter_eq_self];intro y hy;obtain⟨j,hj⟩:=List.getElem?_of_mem hy;have:=hno j (by have:=(List.getElem?_eq_some_iff.1 hj).1;have:=HN.out;omega);simp only[hj]at this;simpa using this
  obtain⟨adU,K1⟩:=aQ hall (Keeps.of_below (S:=fun x=>(iC A N cap).ownBlock=some x) D1.out fun _ h _=>h);clear hno hall;go_wp2_with fail
  go_ret;exact⟨⟨A,N,cap,rfl,by rw[adU.out];exact HN.out,by rw[adU.out];exact abP.out,rfl⟩,K1.out⟩
open Go.Shelf Go.Sort
theorem EN(x y:ByteArray)(c1 c2 c3 c4 c5 c6 c7 e1 e2 e3 e4 e5 e6 e7:Value)(w:World):Calls ai 54 #[.agg #[.string x,c1,c2,c3,c4,c5,c6,c7],.agg #[.string y,e1,e2,e3,e4,e5,e6,e7]] w (afg (.int .i64 (if qB x y then-1 else 1)) w):=by
 have HB:=ae (UB w (.cells #[.string x,c1,c2,c3,c4,c5,c6,c7] 49) (.cells #[.string y,e1,e2,e3,e4,e5,e6,e7] 49));have hp:=aG.new w 49 #[.string x,c1,c2,c3,c4,c5,c6,c7];have HP:=ae (hp.below (boxed _ (.cells #[.string y,e1,e2,e3,e4,e5,e6,e7] 49)) hp.lt);have hq:=aG.new (w.alloc (.cells #[.string x,c1,c2,c3,c4,c5,c6,c7] 49)) 49 #[.string y,e1,e2,e3,e4,e5,e6,e7];rw[show(w.alloc (.cells #[.string x,c1,c2,c3,c4,c5,c6,c7] 49)).heap.size=w.heap.size+1 by simp]at hq;have HQ:=ae hq;clear hp hq;obtain⟨L,hL⟩:∃L,L=qB x y:=⟨_,rfl⟩;rw[←hL];have q1:Op.bytesLess x.toList y.toList=L:=hL.symm;clear hL;go_enter Tryz.func54,Tryz.ntmps54;go_upto_region 1 with fail
 generalize(w.alloc (.cells #[.string x,c1,c2,c3,c4,c5,c6,c7] 49)).alloc (.cells #[.string y,e1,e2,e3,e4,e5,e6,e7] 49)=w1 at HB HP HQ⊢;generalize w.heap.size+1=Q at HQ⊢;generalize hP:w.heap.size=P at HP⊢;clear hP;have p0:=HP.out.cell 0;have q0:=HQ.out.cell 0;simp at p0 q0;cases L with
 |true=>
  go_wp2_with fail
  go_ret;exact⟨rfl,HB.out⟩
 |false=>
  go_wp2_with fail
  go_ret;exact⟨rfl,HB.out⟩
structure rn where
 p:Pr
 t:Option Addr×Nat
 a:Option Addr×Nat
 e:Option Addr×Nat
def rn.v(s:rn):bG:=⟨s.p,.slice s.t.1 s.p.tags.length s.t.2,.slice s.a.1 s.p.aH.length s.a.2,.slice s.e.1 s.p.ends.length s.e.2⟩
def rn.enc(s:rn):List Value:=s.v.vals
theorem rn.len(s:rn):s.enc.length=8:=rfl
theorem rn.one(s:rn):∀u∈s.enc,u.oneCell'=true:=by
 intro u hu;unfold rn.enc bG.vals rn.v at hu;simp at hu;rcases hu with rfl|rfl|rfl|rfl|rfl|rfl|rfl|rfl<;>rfl
instance:Inhabited rn:=⟨⟨Pr.zero,(none,0),(none,0),(none,0)⟩⟩
theorem abR{w:World}:∀xs:List bG,(∀X∈xs,eI w X)→∃ss:List rn,ss.map rn.v=xs:=by
 intro xs
 induction xs with
 |nil=>intro _;exact⟨[],rfl⟩
 |cons X r ih=>
  intro h;obtain⟨ss,hs⟩:=ih fun Y hY=>h Y (List.mem_cons_of_mem X hY)
  have hX:=h X (List.mem_cons_self ..);obtain⟨A1,c1,e1⟩:=hX.tags.shape;obtain⟨A2,c2,e2⟩:=hX.aH.shape;obtain⟨A3,c3,e3⟩:=hX.ends.shape;obtain⟨p,tv,av,ev⟩:=X;simp only at e1 e2 e3;subst e1 e2 e3;exact⟨⟨p,(A1,c1),(A2,c2),(A3,c3)⟩::ss,by rw[List.map_cons,hs];rfl⟩
theorem Kv(ss:List rn):cI (ss.map rn.v)=ss.flatMap rn.enc:=by
 unfold cI;rw[List.flatMap_map];rfl
def EO(a b:rn):Int:=if qB a.p.key b.p.key then-1 else 1
theorem Kw(x y:rn):ltOf EO x y=qB x.p.key y.p.key:=by
 unfold ltOf EO;cases qB x.p.key y.p.key<;>rfl
theorem adV:SWO (ltOf EO)where
 irrefl x:=by rw[Kw];exact jc _
 trans x y z h1 h2:=by rw[Kw]at*;exact lF h1 h2
 ntrans x y z h1 h2:=by
  rw[Kw]at*;cases h3:qB x.p.key z.p.key with
  |false=>rfl
  |true=>
   rcases rR x.p.key y.p.key with e|h|h
   ·rw[e,h2]at h3;cases h3
   ·rw[h1]at h;cases h
   ·have:=lF h h3;rw[h2]at this;cases this
theorem Bj{α:Type}[Inhabited α](enc:α→List Value)(k:Nat)(w:World)(g m:Nat)(d:Array α)(os:Array Obj):Keeps (fun x=>x=g) w (sortWorldK enc k w g 0 m d os):=by
 refine⟨rfl,rfl,rfl,?_,fun q hq hne=>?_⟩
 ·unfold sortWorldK putRowK putRow mapBlock Sort.grow Sort.ahead;simp
 ·unfold sortWorldK putRowK putRow mapBlock Sort.grow Sort.ahead;simp only;rw[Array.getElem?_append_left (by rw[Array.size_modify];omega),Array.getElem?_modify,if_neg aY]
theorem I8{w:World}{base:Nat}{v:Value}(xs:List bG)(hl:xs.length≤4000000)(how:w.ownsRow base 49 8 v xs.length (cI xs))(hm:∀X∈xs,eI w X):Calls ai 53 #[v,.func (.func 54) #[] #[]] w fun r w'=>r=.returned (.tuple #[])∧(∃S:List bG,S.Perm xs∧(S.map (·.p)).Pairwise (fun x y=>ef y x=false)∧w'.ownsRow base 49 8 v xs.length (cI S))∧Keeps (fun x=>v.ownBlock=some x) w w':=by
 have eg:∀args w,(callFunc 54 args).run ai w=.ok (.enter 54 args) w:=enters_of Tryz.func54 bJ rfl;obtain⟨A,cap,rfl⟩:=aL how;by_cases h0:xs.length=0
 ·have hx:xs=[]:=bS h0;subst hx;refine(AnyF.slices_SortFunc_none Tryz.sortPe A cap _ w).mono ?_;rintro r w'⟨rfl,rfl⟩;exact⟨rfl,⟨[],List.Perm.refl _,List.Pairwise.nil,how⟩,Keeps.refl _ _⟩
 obtain⟨ss,rfl⟩:=abR xs hm;rw[ay]at hl how h0⊢;rw[Kv]at how;obtain⟨g,rfl,hbg,hgl,_⟩:=sw how aY;obtain⟨hH,hg,hb⟩:=OJ rn.enc 8 rn.len aI how rfl;have hcmp:CmpLays ai 54 #[] rn.enc 8 EO g 0 ss.toArray.size w:=fun m os dk _ x y=>(EN x.p.key y.p.key _ _ _ _ _ _ _ _ _ _ _ _ _ _ _).mono fun _ _⟨e,hq⟩=>⟨e,hq⟩
 have hcon:=AnyQ.slices_SortFunc Tryz.sortPe 8 Tryz.isAgg49 Tryz.sizeOf49 rn.enc rn.len rn.one EO adV 54 #[] g 0 cap ss.toArray w eg hcmp hH hg (by rw[List.size_toArray];omega);refine hcon.mono ?_;rintro r w'⟨rfl,d,n,os,hp,hs,rfl⟩;obtain⟨p1,p2⟩:=EM hp hs;obtain⟨o1,_⟩:=I4 rn.enc 8 rn.len aI how d (by have:=hp.1;simpa using this) n os;have hk:=Bj rn.enc 8 w g n d os;refine⟨rfl,⟨d.toList.map rn.v,p1.map _,?_,by rw[Kv];exact o1⟩,⟨hk.os,hk.tape,hk.output,hk.size,fun q hq hne=>hk.block q hq fun e=>hne (by rw[e];rfl)⟩⟩;rw[List.map_map,List.pairwise_map];refine p2.imp fun{x y}hxy=>?_
 rw[Kw]at hxy;exact hxy
theorem Bm{P:Program}{w:World}(base:Nat)(t ty e:TypeId)(i:TypeInfo){size:Nat}(ht:P.underlying t=some (.slice e))(hi:P.info? e=some i)(hsize:i.size=size)(v:Value)(n:Nat)(xs:List Value)(hown:w.ownsRow base e size v n xs):(Builtin.append_ #[t,t] ty #[v,.slice none 0 0]).run P w=.ok v w:=by
 rcases hown.2 with⟨rfl,rfl⟩|⟨g,cap,cur,rfl,hbg,hg,hnc,hcm,hcs,htake⟩
 ·simp[Builtin.append_,run_underlying ht,sizeOf,typeInfo,hi,Builtin.lenOf,Builtin.firstCells]
 ·simp[Builtin.append_,run_underlying ht,sizeOf,typeInfo,hi,hsize,Builtin.lenOf,Builtin.firstCells,storeCells,hnc]
theorem EP{P:Program}{w:World}(base PZ:Nat)(t ty e:TypeId)(i:TypeInfo)(z:Value)(size bytes:Nat)(ht:P.underlying t=some (.slice e))(hi:P.info? e=some i)(hz:i.zero=some z)(hsize:i.size=size)(hby:i.bytes=bytes)(hzs:z.cells.size=size)(hsz:0<size)(v:Value)(n:Nat)(xs:List Value)(hown:w.ownsRow base e size v n xs)(u:Value)(m:Nat)(ys:List Value)(hown2:w.ownsRow PZ e size u m ys)(h1:∀y∈ys,y.oneCell'=true)(h63:n+m≤maxLen)(hb:(n+m)*bytes≤140737488355328)(hbase:base≤w.heap.size):∃v' w',(Builtin.append_ #[t,t] ty #[v,u]).run P w=.ok v' w'∧w'.ownsRow base e size v' (n+m) (xs++ys)∧w.grownBy w' v.ownBlock:=by
 rcases hown2.2 with⟨rfl,rfl⟩|⟨g,cap,cur,rfl,hbg,hg,hnc,hcm,hcs,htake⟩
 ·have hy:ys=[]:=bS (by simpa using hown2.1);subst hy;exact⟨v,w,Bm base t ty e i ht hi hsize v n xs hown,by rw[lS];exact hown,⟨rfl,rfl,rfl,aw _,fun _ _ _=>rfl⟩⟩
 ·obtain⟨v',w',hr,ho,hgr,_⟩:=run_append_own (P:=P) w base t ty e i z size bytes ht hi hz hsize hby hzs hsz v n xs hown ⟨g,0,none⟩ m cap ys hown2.1 (fun j u hu=>hown2.cells (g:=g) rfl j u hu) h1 h63 hb hbase;exact⟨v',w',hr,ho,hgr⟩
theorem abS{w:World}{base:Nat}{xs:List bG}(h:∀X∈xs,cz w base X):∀u∈cI xs,u.oneCell'=true:=by
 intro u hu;obtain⟨X,hX,hu⟩:=List.mem_flatMap.1 hu;have hx:=h X hX;obtain⟨A1,c1,e1⟩:=aL hx.tags;obtain⟨A2,c2,e2⟩:=aL hx.aH;obtain⟨A3,c3,e3⟩:=aL hx.ends;unfold bG.vals at hu;rw[e1,e2,e3]at hu;simp at hu;rcases hu with rfl|rfl|rfl|rfl|rfl|rfl|rfl|rfl<;>rfl
theorem OM{a:Mp}{d:Dl}(fa:jM a)(fd:JQ d):jM (cT a d):=by
 refine⟨fd.version,fun p hp=>?_,fun r hr=>?_⟩
 ·have h:=(oo _ p).1 hp;rcases List.mem_append.1 h with h|h
  ·exact fa.aJ p (List.mem_filter.1 h).1
  ·exact fd.aJ p h
 ·have hr':r∈(if d.ja then d.aF else a.aF):=hr;split at hr'
  ·exact fd.aF r hr'
  ·exact fa.aF r hr'
theorem UH{Q:World→Prop}{P:Nat}(hq:∀u i x,Q u→Q (u.setCell ⟨P,i,none⟩ x)){W:World}(h:Q W)(v0 v1 v2 v3:Value):Q ((((W.setCell ⟨P,0,none⟩ v0).setCell ⟨P,1,none⟩ v1).setCell ⟨P,2,none⟩ v2).setCell ⟨P,3,none⟩ v3):=hq _ _ _ (hq _ _ _ (hq _ _ _ (hq _ _ _ h)))
theorem OO(xs ys:List bG):cI (xs++ys)=cI xs++cI ys:=by unfold cI;rw[List.flatMap_append]
theorem I9{w:World}(env:Env w)(ord:ft w){pa ra:Value}{a:Mp}(ha:dP w pa a.aJ)(Yb:gi w ra a.aF)(fa:jM a)(sa:IV a){d:Dl}{sv gv rv:Value}(hd:AU w d sv gv rv)(fd:JQ d)(sd:abo d)(sr:IV (cT a d)):Calls ai 15 #[.agg #[.int .u64 (a.version:Int),pa,ra,.string a.policy],.agg (rY d sv gv rv)] w (Ej (iO cL a d).1 (iO cL a d).2 w):=by
 have fr:=OM fa fd;have hma:=fun u(hu:Below w.heap.size w u)=>j8 (env.below hu) (ha.below hu) (aV.below Yb hu) fa sa.sz (by have:=sa.pl;omega) (by have:=sa.rl;omega) sa.ol sa.ml
 have hmd:=fun u(hu:Below w.heap.size w u)=>xW (env.below hu) (hd.below hu) fd sd
 have hal:=fun u(hu:Below w.heap.size w u)g(hg:u.cell? ⟨g,1,none⟩=some pa)=>Am (hd.gone.below hu) (by have:=sd.gl;omega) (fun k=>(mR a.aJ k).isSome) 48 #[.pointer (some ⟨g,0,none⟩)] (enters_of Tryz.func48 bJ rfl) fun W hW x hx=>I2 (ha.below (after hu hW)) (by have:=sa.pl;omega) (ak hg hW) x
 have hcp:=fun u(hu:Below w.heap.size w u)=>Ob (ha.below hu) (aV.below Yb hu) sa.sz sa.pl sa.rl
 have hca:=fun u(hu:Below w.heap.size w u)=>pn (hd.aM.below hu) sd.aM sd.sl
 have hcr:=fun u(hu:Below w.heap.size w u)=>vW (aV.below hd.aF hu) sd.rl (AP _)
 have hst:=fun u(hu:Below w.heap.size w u)g(h2:u.cell? ⟨g,2,none⟩=some sv)(h3:u.cell? ⟨g,3,none⟩=some gv)(X:bG)=>I3 (hd.aM.below hu) (hd.gone.below hu) (by have:=sd.sl;omega) (by have:=sd.gl;omega) h2 h3 X.p.key (.string X.p.bj) (.string X.p.user) X.tv X.av (.int .u64 (X.p.exp:Int)) (.int .u8 (X.p.aW:Int)) X.ev (p:=X.p) rfl
 have hmr:∀u,Below w.heap.size w u→∀pv rv,dP u pv (cT a d).aJ→gi u rv (cT a d).aF→Calls ai 19 #[.agg #[.int .u64 (d.version:Int),pv,rv,.string (cT a d).policy]] u (Got (.int .i64 ((cJ (cT a d)).2:Int)) u):=fun u hu pv rv h1 h2=>j8 (env.below hu) h1 h2 fr sr.sz (by have:=sr.pl;omega) (by have:=sr.rl;omega) sr.ol sr.ml
 have hhr:∀u,Below w.heap.size w u→∀pv rv,dP u pv (cT a d).aJ→gi u rv (cT a d).aF→Calls ai 31 #[.agg #[.int .u64 (d.version:Int),pv,rv,.string (cT a d).policy]] u (Got (.string (cL (cT a d))) u):=fun u hu pv rv h1 h2=>sj (env.below hu) (ord.below hu ord.lt) h1 h2 fr sr.sz (by have:=sr.pl;omega) (by have:=sr.rl;omega) sr.ol sr.ml
 have hSo:(cJ a).2=0→lD d=true→∀S:List Pr,S.Perm (a.aJ.filter (stays d)++d.aM)→S.Pairwise (fun x y=>ef y x=false)→S=(cT a d).aJ:=fun h1 h2 S p1 p2=>by
  obtain⟨_,m2,_,_⟩:=iu (kK h1);have h3:iN d.aM=true:=by
   unfold lD at h2;simp only[Bool.and_eq_true]at h2;exact h2.1.1.2
  exact Xl (distinct_keys (iP m2).1 (iP h3).1) p1 p2
 have hRe:((cJ a).2≠0→iO cL a d=(Mp.zero,(cJ a).2))∧((cJ a).2=0→lD d=false→iO cL a d=(Mp.zero,220))∧((cJ a).2=0→lD d=true→a.version≠d.base→iO cL a d=(Mp.zero,223))∧((cJ a).2=0→lD d=true→a.version=d.base→(d.gone.all fun k=>(mR a.aJ k).isSome)=false→iO cL a d=(Mp.zero,220))∧((cJ a).2=0→lD d=true→a.version=d.base→(d.gone.all fun k=>(mR a.aJ k).isSome)=true→((cJ (cT a d)).2≠0→iO cL a d=(Mp.zero,(cJ (cT a d)).2))∧((cJ (cT a d)).2=0→cL (cT a d)≠d.hash→iO cL a d=(Mp.zero,224))∧((cJ (cT a d)).2=0→cL (cT a d)=d.hash→iO cL a d=(cT a d,0))):=by
  refine⟨fun h=>?_,fun h1 h=>?_,fun h1 h2 h=>?_,fun h1 h2 h3 h=>?_,fun h1 h2 h3 h4=>⟨fun h=>?_,fun h5 h=>?_,fun h5 h=>?_⟩⟩<;>unfold iO
  ·rw[if_pos h]
  ·rw[if_neg (by rw[h1];decide),if_pos h]
  ·rw[if_neg (by rw[h1];decide),if_neg (by rw[h2];decide),if_pos h]
  ·rw[if_neg (by rw[h1];decide),if_neg (by rw[h2];decide),if_neg (by rw[h3];exact fun h=>h rfl),if_pos h]
  ·rw[if_neg (by rw[h1];decide),if_neg (by rw[h2];decide),if_neg (by rw[h3];exact fun h=>h rfl),if_neg (by rw[h4];decide),if_pos h]
  ·rw[if_neg (by rw[h1];decide),if_neg (by rw[h2];decide),if_neg (by rw[h3];exact fun h=>h rfl),if_neg (by rw[h4];decide),if_neg (by rw[h5];decide),if_pos h]
  ·rw[if_neg (by rw[h1];decide),if_neg (by rw[h2];decide),if_neg (by rw[h3];exact fun h=>h rfl),if_neg (by rw[h4];decide),if_neg (by rw[h5];decide),if_neg (by rw[h];exact fun h=>h rfl)]
 have hRM:(cT a d).version=d.version∧(cT a d).aF=(if d.ja then d.aF else a.aF)∧(cT a d).policy=(if d.i7 then d.policy else a.policy):=⟨rfl,rfl,rfl⟩;have bv1:=fa.version;have bv2:=fd.base;have bv3:=fd.version;have lx:=sa.pl;have ls:=sd.sl;obtain⟨lL,ca1,rfl⟩:=ha.shape;obtain⟨ll,ca2,rfl⟩:=aV.shape Yb;obtain⟨As,cs,rfl⟩:=hd.aM.shape;obtain⟨Ag,cg,rfl⟩:=hd.gone.shape;obtain⟨Ar,cr,rfl⟩:=aV.shape hd.aF;generalize cL (cT a d)=HR at hhr hRe;generalize(cJ (cT a d)).2=er at hmr hRe;generalize(cJ a).2=ea at hma hRe hSo;generalize lD d=MD at hmd hRe hSo;generalize(d.gone.all fun k=>(mR a.aJ k).isSome)=AL at hal hRe;generalize iO cL a d=RR at hRe⊢;generalize stays d=ST at hst hSo;generalize cT a d=RM at hmr hhr hRe hRM hSo;clear env ord ha Yb fa sa hd fd sd sr fr;obtain⟨va,fG,eX,ta⟩:=a;obtain⟨db,dv,abT,adW,ja,adX,i7,lO,kP⟩:=d;unfold rY abn at*;unfold JY tj at*;simp only at*;obtain⟨gk,nR⟩:∃n,n=fG.length:=⟨_,rfl⟩;obtain⟨ix,pR⟩:∃n,n=eX.length:=⟨_,rfl⟩;obtain⟨ns,hns⟩:∃n,n=abT.length:=⟨_,rfl⟩;obtain⟨ng,hng⟩:∃n,n=adW.length:=⟨_,rfl⟩;obtain⟨nr,hnr⟩:∃n,n=adX.length:=⟨_,rfl⟩;rw[←nR,←pR]at hma hcp;rw[←hns,←hng,←hnr]at hmd;rw[←hng]at hal;rw[←nR]at hal lx;rw[←hns]at hca hst ls;rw[←hng]at hst;rw[←hnr]at hcr;rw[←nR,←pR,←hns,←hng,←hnr];obtain⟨O0,Qz,HAl,HCp,HCa,HCr,Fh,HMr,HHr,HSo,Oo,MJ⟩:=uF hma hmd hal hcp hca hcr hst hmr hhr hSo hRe hRM;obtain⟨jI,lU,yA,HN5⟩:=fH nR pR hns hnr;clear hma hmd hal hcp hca hcr hst hmr hhr hSo hRe hRM nR pR hns hng hnr;obtain⟨HB1,lT⟩:=aQ (boxed w (.cells #[.int .u64 va,.slice lL gk ca1,.slice ll ix ca2,.string ta] 26)) (aG.new w 26 #[.int .u64 va,.slice lL gk ca1,.slice ll ix ca2,.string ta]);have hb2:=boxed (w.alloc (.cells #[.int .u64 va,.slice lL gk ca1,.slice ll ix ca2,.string ta] 26)) (.cells #[.int .u64 db,.int .u64 dv,.slice As ns cs,.slice Ag ng cg,.bool ja,.slice Ar nr cr,.bool i7,.string lO,.string kP] 29);have HB2:=bm HB1 hb2;have HP2:=ae (lT.out.below hb2 lT.out.lt);have hQ2:=aG.new (w.alloc (.cells #[.int .u64 va,.slice lL gk ca1,.slice ll ix ca2,.string ta] 26)) 29 #[.int .u64 db,.int .u64 dv,.slice As ns cs,.slice Ag ng cg,.bool ja,.slice Ar nr cr,.bool i7,.string lO,.string kP];rw[show(w.alloc (.cells #[.int .u64 va,.slice lL gk ca1,.slice ll ix ca2,.string ta] 26)).heap.size=w.heap.size+1 by simp]at hQ2;have hb3:=boxed ((w.alloc (.cells #[.int .u64 va,.slice lL gk ca1,.slice ll ix ca2,.string ta] 26)).alloc (.cells #[.int .u64 db,.int .u64 dv,.slice As ns cs,.slice Ag ng cg,.bool ja,.slice Ar nr cr,.bool i7,.string lO,.string kP] 29)) (.cells #[.int .u64 0,.slice none 0 0,.slice none 0 0,.string ⟨#[]⟩] 26);have TB0:=bm HB2 hb3;obtain⟨TP0,TQ0⟩:=aQ (HP2.out.below hb3 HP2.out.lt) (hQ2.below hb3 hQ2.lt);have gW:=aG.new ((w.alloc (.cells #[.int .u64 va,.slice lL gk ca1,.slice ll ix ca2,.string ta] 26)).alloc (.cells #[.int .u64 db,.int .u64 dv,.slice As ns cs,.slice Ag ng cg,.bool ja,.slice Ar nr cr,.bool i7,.string lO,.string kP] 29)) 26 #[.int .u64 0,.slice none 0 0,.slice none 0 0,.string ⟨#[]⟩];rw[show((w.alloc (.cells #[.int .u64 va,.slice lL gk ca1,.slice ll ix ca2,.string ta] 26)).alloc (.cells #[.int .u64 db,.int .u64 dv,.slice As ns cs,.slice Ag ng cg,.bool ja,.slice Ar nr cr,.bool i7,.string lO,.string kP] 29)).heap.size=w.heap.size+2 by simp]at gW;have TR0:=ae gW;clear hb2 hQ2 hb3 gW HB1 lT HB2 HP2;go_enter Tryz.func15,Tryz.ntmps15;go_upto_region 1 with fail
 generalize(((w.alloc (.cells #[.int .u64 va,.slice lL gk ca1,.slice ll ix ca2,.string ta] 26)).alloc (.cells #[.int .u64 db,.int .u64 dv,.slice As ns cs,.slice Ag ng cg,.bool ja,.slice Ar nr cr,.bool i7,.string lO,.string kP] 29)).alloc (.cells #[.int .u64 0,.slice none 0 0,.slice none 0 0,.string ⟨#[]⟩] 26))=w0 at TB0 TP0 TQ0 TR0⊢;obtain⟨P,Q,R,eP,eQ,eR⟩:∃P Q R,P=w.heap.size∧Q=w.heap.size+1∧R=w.heap.size+2:=⟨_,_,_,rfl,rfl,rfl⟩;rw[←eP]at TP0;rw[←eQ]at TQ0;rw[←eR]at TR0;rw[←eR,←eQ,←eP];have HPQ:af ((P≠Q∧P≠R∧Q≠R∧w.heap.size≤P)∧w.heap.size≤Q∧w.heap.size≤R):=ae aY;clear eP eQ eR;obtain⟨p0,p1,p2,p3⟩:=jB TP0;go_upto_region 2 with(go_at_call 19;(with_reducible refine(O0.out _ TB0.out).mono ?_);rintro r w1⟨rfl,d1⟩)
 have Kr:=bm TB0 d1;obtain⟨Up,Ph,Ot⟩:=bO (TP0.out.below d1 TP0.out.lt) (TQ0.out.below d1 TQ0.out.lt) (TR0.out.below d1 TR0.out.lt);clear TB0 TP0 TQ0 TR0;clear d1 p0 p1 p2 p3;by_cases hz:ea=0;rotate_left
 ·have q0:((ea:Int) !=0)=true:=by simp;omega
  have HF:=ae (Oo.out.1 hz);clear hz;obtain⟨r0,r1,r2,r3⟩:=jB Ot;have fr:=fun i=>Ot.out.frozen i
  go_wp2_with fail
  obtain⟨s9,q9⟩:=jf Ot.out Kr.out HPQ.out.2.2 (.int .u64 0) (.slice none 0 0) (.slice none 0 0) (.string ⟨#[]⟩);refine bodyPost_ret (bq rfl rfl rfl (gZ s9)) rfl ⟨⟨none,0,none,0,?_,?_,?_⟩,q9⟩
  ·rw[HF.out];rfl
  ·rw[HF.out];exact gU _
  ·rw[HF.out];exact df _
 have q0:((ea:Int) !=0)=false:=by simp[hz]
 have He:=ae hz;clear hz;go_upto_region 4 with fail
 clear q0;obtain⟨y0,y1,y2,y3,y4,y5,y6,y7,y8⟩:=afZ Ph;cases MD with
 |false=>
  have HF:=ae (Oo.out.2.1 He.out (by simp));go_upto_region 5 with(go_at_call 46;(with_reducible refine(Qz.out _ Kr.out).mono ?_);rintro r w2⟨rfl,d2⟩)
  have Ks:=bm Kr d2;obtain⟨Pn,Pq,FA⟩:=bO (Up.out.below d2 Up.out.lt) (Ph.out.below d2 Ph.out.lt) (Ot.out.below d2 Ot.out.lt);clear Kr Up Ph Ot;clear d2;clear y0 y1 y2 y3 y4 y5 y6 y7 y8;obtain⟨r0,r1,r2,r3⟩:=jB FA;have fr:=fun i=>FA.out.frozen i
  go_wp2_with fail
  obtain⟨s9,q9⟩:=jf FA.out Ks.out HPQ.out.2.2 (.int .u64 0) (.slice none 0 0) (.slice none 0 0) (.string ⟨#[]⟩);refine bodyPost_ret (bq rfl rfl rfl (gZ s9)) rfl ⟨⟨none,0,none,0,?_,?_,?_⟩,q9⟩
  ·rw[HF.out];rfl
  ·rw[HF.out];exact gU _
  ·rw[HF.out];exact df _
 |true=>
  go_upto_region 6 with(go_at_call 46;(with_reducible refine(Qz.out _ Kr.out).mono ?_);rintro r w2⟨rfl,d2⟩)
  have Ks:=bm Kr d2;obtain⟨Pn,Pq,FA⟩:=bO (Up.out.below d2 Up.out.lt) (Ph.out.below d2 Ph.out.lt) (Ot.out.below d2 Ot.out.lt);clear Kr Up Ph Ot;clear d2;clear y0 y1 y2 y3 y4 y5 y6 y7 y8;have p0:=Pn.out.cell 0;simp at p0;have q0:=Pq.out.cell 0;simp at q0;by_cases hv:va=db;rotate_left
  ·have q1:((va:Int) !=(db:Int))=true:=by simp;omega
   have HF:=ae (Oo.out.2.2.1 He.out (by simp) hv);clear hv;obtain⟨r0,r1,r2,r3⟩:=jB FA;have fr:=fun i=>FA.out.frozen i
   go_wp2_with fail
   obtain⟨s9,q9⟩:=jf FA.out Ks.out HPQ.out.2.2 (.int .u64 0) (.slice none 0 0) (.slice none 0 0) (.string ⟨#[]⟩);refine bodyPost_ret (bq rfl rfl rfl (gZ s9)) rfl ⟨⟨none,0,none,0,?_,?_,?_⟩,q9⟩
   ·rw[HF.out];rfl
   ·rw[HF.out];exact gU _
   ·rw[HF.out];exact df _
  have q1:((va:Int) !=(db:Int))=false:=by simp[hv]
  have Hv:=ae hv;clear hv;go_upto_region 8 with fail
  clear q1 p0 q0;obtain⟨-,p1⟩:=pW Pn;obtain⟨-,-,-,q3⟩:=jB Pq;have YG:=ae (HAl.out _ Ks.out P p1);cases AL with
  |false=>
   have HF:=ae (Oo.out.2.2.2.1 He.out (by simp) Hv.out (by simp));go_upto_region 9 with(go_at_call 47;(with_reducible refine YG.out.mono ?_);rintro r w3⟨rfl,d3⟩)
   have Bh:=bm Ks d3;obtain⟨xn,ya,EG⟩:=bO (Pn.out.below d3 Pn.out.lt) (Pq.out.below d3 Pq.out.lt) (FA.out.below d3 FA.out.lt);clear Ks Pn Pq FA;clear d3 p1 q3 YG;obtain⟨r0,r1,r2,r3⟩:=jB EG;have fr:=fun i=>EG.out.frozen i
   go_wp2_with fail
   obtain⟨s9,q9⟩:=jf EG.out Bh.out HPQ.out.2.2 (.int .u64 0) (.slice none 0 0) (.slice none 0 0) (.string ⟨#[]⟩);refine bodyPost_ret (bq rfl rfl rfl (gZ s9)) rfl ⟨⟨none,0,none,0,?_,?_,?_⟩,q9⟩
   ·rw[HF.out];rfl
   ·rw[HF.out];exact gU _
   ·rw[HF.out];exact df _
  |true=>
   have HF0:=ae (Oo.out.2.2.2.2 He.out (by simp) Hv.out (by simp));have adY:=ae (HSo.out He.out (by simp));clear Oo HSo He Hv O0 Qz HAl;go_upto_region 10 with(go_at_call 47;(with_reducible refine YG.out.mono ?_);rintro r w3⟨rfl,d3⟩)
   have Bh:=bm Ks d3;obtain⟨xn,ya,EG⟩:=bO (Pn.out.below d3 Pn.out.lt) (Pq.out.below d3 Pq.out.lt) (FA.out.below d3 FA.out.lt);clear Ks Pn Pq FA;clear d3 p1 q3 YG;obtain⟨B0,hB0⟩:∃b,b=w3.heap.size:=⟨_,rfl⟩;have HB0:af ((P<B0∧Q<B0∧R<B0)∧w.heap.size≤B0):=ae (by have:=xn.out.lt;have:=ya.out.lt;have:=EG.out.lt;have:=Bh.out.size;omega);have adZ:=ae hB0;clear hB0;obtain⟨p0,p1,p2,p3⟩:=jB xn;go_upto_region 11 with(go_at_call 33;(with_reducible refine(HCp.out _ Bh.out).mono ?_);rintro r w4⟨⟨B1,m1,B2,m2,rfl,oa,ob⟩,d4⟩;rw[←adZ.out]at oa ob;obtain⟨TS4,TO4⟩:=aQ oa ob;have Yj:=bm Bh d4;obtain⟨Uu,Yi,TR4⟩:=bO (xn.out.below d4 xn.out.lt) (ya.out.below d4 ya.out.lt) (EG.out.below d4 EG.out.lt);have hb4:af (B0≤w4.heap.size):=ae (by rw[adZ.out];exact d4.size);clear d4 oa ob;obtain⟨y0,y1,y2,y3⟩:=jB Uu;have fr:=fun i=>Uu.out.frozen i)
   clear p0 p1 p2 p3;obtain⟨s5,q5⟩:=jf Uu.out Yj.out HPQ.out.1.2.2.2 (.int .u64 va) (.slice B1 gk m1) (.slice B2 ix m2) (.string ta);have z5:=UH (P:=P) (Q:=fun u=>cU u B0 (.slice B1 gk m1) fG∧u.ownsRow B0 71 6 (.slice B2 ix m2) ix (fL eX)∧aG u Q 29 #[.int .u64 db,.int .u64 dv,.slice As ns cs,.slice Ag ng cg,.bool ja,.slice Ar nr cr,.bool i7,.string lO,.string kP]∧aG u R 26 #[.int .u64 0,.slice none 0 0,.slice none 0 0,.string ⟨#[]⟩]∧B0≤u.heap.size) (fun u i x hq=>⟨hq.1.far HB0.out.1.1,aN hq.2.1 HB0.out.1.1,hq.2.2.1.far (p:=⟨P,i,none⟩) (Ne.symm HPQ.out.1.1) x,hq.2.2.2.1.far (p:=⟨P,i,none⟩) (Ne.symm HPQ.out.1.2.1) x,by rw[show(u.setCell ⟨P,i,none⟩ x).heap.size=u.heap.size by simp];exact hq.2.2.2.2⟩) ⟨TS4.out,TO4.out,Yi.out,TR4.out,hb4.out⟩ (.int .u64 va) (.slice B1 gk m1) (.slice B2 ix m2) (.string ta);obtain⟨EI,Pv,Yk,Yl,FC,Ym,hb5⟩:=uE s5 q5 z5.1 z5.2.1 z5.2.2.1 z5.2.2.2.1 z5.2.2.2.2;clear s5 q5 z5 Uu Yj TS4 TO4 Yi TR4 hb4 y0 y1 y2 y3 fr;generalize(((w4.setCell ⟨P,0,none⟩ (.int .u64 va)).setCell ⟨P,1,none⟩ (.slice B1 gk m1)).setCell ⟨P,2,none⟩ (.slice B2 ix m2)).setCell ⟨P,3,none⟩ (.string ta)=w5 at EI Pv Yk Yl FC Ym hb5⊢;obtain⟨-,q1⟩:=pW FC;have p0:=EI.out.cell 0;simp at p0;have fr:=fun i=>EI.out.frozen i
   go_upto_region 12 with fail
   clear q1 p0 fr;have YH:af (aG (w5.setCell ⟨P,0,none⟩ (.int .u64 dv)) P 26 #[.int .u64 dv,.slice B1 gk m1,.slice B2 ix m2,.string ta]):=ae (EI.out.aM 0 _);obtain⟨TS6,TO6,YI,TR6,Vw⟩:=kp (Yk.out.far (k:=0) (u:=.int .u64 dv) HB0.out.1.1) (aN (k:=0) (u:=.int .u64 dv) Yl.out HB0.out.1.1) (FC.out.far (p:=⟨P,0,none⟩) (Ne.symm HPQ.out.1.1) (.int .u64 dv)) (Ym.out.far (p:=⟨P,0,none⟩) (Ne.symm HPQ.out.1.2.1) (.int .u64 dv)) (Pv.out.setCell (p:=⟨P,0,none⟩) HPQ.out.1.2.2.2 (.int .u64 dv));have hb6:af (B0≤(w5.setCell ⟨P,0,none⟩ (.int .u64 dv)).heap.size):=ae (by rw[show(w5.setCell ⟨P,0,none⟩ (.int .u64 dv)).heap.size=w5.heap.size by simp];exact hb5.out);clear Pv EI FC Ym Yk Yl;clear hb5;generalize w5.setCell ⟨P,0,none⟩ (.int .u64 dv)=w6 at YH TS6 TO6 YI TR6 Vw hb6⊢;obtain⟨xs,hxs,hro,hxo⟩:=TS6.out;have hown:∀q,(iC B1 gk m1).ownBlock=some q→B0≤q:=fun q hq=>(hro.lt q hq).1
   have hxl:xs.length=gk:=by rw[jI.out,←hxs,ay]
   have hdel:=OL xs aY hro (fun X hX=>(hxo X hX).rd) (fun X=>ST X.p) 50 #[.pointer (some ⟨Q,0,none⟩)] (enters_of Tryz.func50 bJ rfl) (fun W hW X hX=>by
    have hQW:=YI.out.keep hW (fun hq=>by have:=hown _ hq;have:=HB0.out.1;omega);exact Fh.out W (Vw.out.trans (hW.below (B:=w.heap.size) (fun q hq=>ax HB0.out.2 (hown _ hq)) Vw.out.size)) Q (by have:=hQW.cell 2;simpa using this) (by have:=hQW.cell 3;simpa using this) X)
   obtain⟨ad0,pI,Fz,GM,wS⟩:=kp hdel hro hxo hxs hown;clear hdel hro hxo hxs hown;obtain⟨-,p1⟩:=pW YH;go_upto_region 13 with(go_at_call 49;(with_reducible refine ad0.out.mono ?_);rintro r w7⟨⟨A5,n5,c5,rfl,hn5,ho5,_⟩,k7⟩;have TP7:=ae (YH.out.keep k7 (fun hq=>by have:=wS.out _ hq;have:=HB0.out.1;omega));have TQ7:=ae (YI.out.keep k7 (fun hq=>by have:=wS.out _ hq;have:=HB0.out.1;omega));have TR7:=ae (TR6.out.keep k7 (fun hq=>by have:=wS.out _ hq;have:=HB0.out.1;omega));have TO7:=ae (a8 TO6.out k7 (bY pI.out) aI);have TB7:=ae (Vw.out.trans (k7.below (B:=w.heap.size) (fun q hq=>ax HB0.out.2 (wS.out _ hq)) Vw.out.size));have hb7:af (B0≤w7.heap.size):=ae (ax hb6.out k7.size);have TS7:af (cU w7 B0 (.slice A5 n5 c5) (fG.filter ST)):=ae ⟨xs.filter fun X=>ST X.p,by rw[←GM.out,List.filter_map];rfl,by rw[←hn5];exact ho5,fun X hX=>(Fz.out X (List.mem_filter.1 hX).1).keep k7 (bY pI.out) aI aI aI⟩;have afU:n5≤gk:=(by rw[hn5,←hxl];exact List.length_filter_le _ _);clear hn5 ho5 k7;obtain⟨-,y1⟩:=pW TP7;have fr:=fun i=>TP7.out.frozen i)
   clear p1 ad0 pI Fz GM wS hxl Fh y1 fr;clear YH Vw TS6 TO6 YI TR6 hb6;have TP8:af (aG (w7.setCell ⟨P,1,none⟩ (.slice A5 n5 c5)) P 26 #[.int .u64 dv,.slice A5 n5 c5,.slice B2 ix m2,.string ta]):=ae (TP7.out.aM 1 _);obtain⟨TS8,TO8,TQ8,TR8,TB8⟩:=kp (TS7.out.far (k:=1) (u:=.slice A5 n5 c5) HB0.out.1.1) (aN (k:=1) (u:=.slice A5 n5 c5) TO7.out HB0.out.1.1) (TQ7.out.far (p:=⟨P,1,none⟩) (Ne.symm HPQ.out.1.1) (.slice A5 n5 c5)) (TR7.out.far (p:=⟨P,1,none⟩) (Ne.symm HPQ.out.1.2.1) (.slice A5 n5 c5)) (TB7.out.setCell (p:=⟨P,1,none⟩) HPQ.out.1.2.2.2 (.slice A5 n5 c5));have hb8:af (B0≤(w7.setCell ⟨P,1,none⟩ (.slice A5 n5 c5)).heap.size):=ae (by rw[show(w7.setCell ⟨P,1,none⟩ (.slice A5 n5 c5)).heap.size=w7.heap.size by simp];exact hb7.out);clear TB7 TP7 TQ7 TR7 TS7 TO7;clear hb7;generalize w7.setCell ⟨P,1,none⟩ (.slice A5 n5 c5)=w8 at TP8 TS8 TO8 TQ8 TR8 TB8 hb8⊢;obtain⟨-,p1⟩:=pW TP8;obtain⟨-,-,q2⟩:=oM TQ8;obtain⟨j0,lk,hz0,hz1,hz2⟩:=info_parts nL;have hdr:=(Below.refl w8.heap.size w8).drew;have TB9:=bm TB8 hdr;obtain⟨TP9,TQ9,TR9,TS9,TO9⟩:=kp (TP8.out.below hdr TP8.out.lt) (TQ8.out.below hdr TQ8.out.lt) (TR8.out.below hdr TR8.out.lt) (TS8.out.low hdr) (own_below TO8.out hdr);have hb9:af (B0≤w8.drew.heap.size):=ae hb8.out;clear hdr TP8 TB8 TS8 TO8 TQ8 TR8 hb8;refine jr 7 (fun u=>u.cell? ⟨P,1,none⟩=some (.slice A5 n5 c5)∧u.cell? ⟨Q,2,none⟩=some (.slice As ns cs)) bJ (⟨p1,q2⟩) (fun hHeld=>?_);refine Jm 0 ?_
   refine Jm 1 ?_
   refine Jm 2 ?_
   refine Jm 3 ?_
   refine Vd 4 fun K hK=>?_;go_simp;refine(HCa.out _ TB9.out).mono ?_;rintro r wa⟨⟨A6,c6,rfl,ho6⟩,da⟩;have TBa:=bm TB9 da;obtain⟨TPa,TQa,TRa,TSa,TOa⟩:=kp (TP9.out.below da TP9.out.lt) (TQ9.out.below da TQ9.out.lt) (TR9.out.below da TR9.out.lt) (TS9.out.low da) (own_below TO9.out da);have hba:af (B0≤wa.heap.size):=ae (ax hb9.out da.size);obtain⟨zs,hzs,hzo,hzx⟩:=TSa.out;obtain⟨ss,hss,hso,hsx⟩:=ho6.mono hb9.out;have lz:zs.length≤2000000:=by have e:zs.length=(fG.filter ST).length:=(by rw[←hzs,ay]);have:=List.length_filter_le ST fG;have:=jI.out;omega
   have ls':ss.length≤2000000:=by have e:ss.length=abT.length:=(by rw[←hss,ay]);have:=yA.out;omega
   obtain⟨v',wb,hr',hob,grb⟩:=EP (P:=ai) B0 B0 23 23 49 j0 (.agg #[.string ⟨#[]⟩,.string ⟨#[]⟩,.string ⟨#[]⟩,.slice none 0 0,.slice none 0 0,.int .u64 0,.int .u8 0,.slice none 0 0]) 8 136 Tryz.underlying23 lk hz0 hz1 hz2 rfl aI (.slice A5 n5 c5) zs.length (cI zs) hzo (.slice A6 ns c6) ss.length (cI ss) hso (abS hsx) (by unfold maxLen;omega) aY hba.out;obtain⟨A7,c7,e7⟩:=aL hob;subst e7;have ER:∀q,(iC A5 n5 c5).ownBlock=some q→B0≤q:=fun q hq=>(hzo.lt q hq).1
   have kb:=Keeps.row grb;have TPb:=ae (TPa.out.keep kb (fun hq=>by have:=ER _ hq;have:=HB0.out.1;omega));have TQb:=ae (TQa.out.keep kb (fun hq=>by have:=ER _ hq;have:=HB0.out.1;omega));have TRb:=ae (TRa.out.keep kb (fun hq=>by have:=ER _ hq;have:=HB0.out.1;omega));have TOb:=ae (a8 TOa.out kb (bY hzo) aI);have TBb:=ae (TBa.out.trans (kb.below (B:=w.heap.size) (fun q hq=>ax HB0.out.2 (ER _ hq)) TBa.out.size));have hbb:af (B0≤wb.heap.size):=ae (ax hba.out kb.size);have TSb:af (cU wb B0 (.slice A7 (zs.length+ss.length) c7) (fG.filter ST++abT)):=ae ⟨zs++ss,by rw[List.map_append,hzs,hss],by rw[OO,List.length_append];exact hob,fun X hX=>by rcases List.mem_append.1 hX with h|h;exact(hzx X h).keep kb (bY hzo) aI aI aI;exact(hsx X h).keep kb (bY hzo) aI aI aI⟩;have AQ:=ae hr';obtain⟨n7,hn7⟩:∃n,n=zs.length+ss.length:=⟨_,rfl⟩;rw[←hn7]at TSb AQ;have afV:n7≤4000000:=by omega
   clear hn7 hr' hob grb kb ER hzo hzs hzx hss hso hsx lz ls' ho6;obtain⟨-,t1⟩:=pW TPb;obtain⟨-,-,u2⟩:=oM TQb;have fr:=fun i=>TPb.out.frozen i
   refine hK.out _ _ (fun _=>⟨ak hHeld.1 da,ak hHeld.2 da⟩) (fun hHeld=>?_);have hHeld:=hHeld aI;clear hK K;try simp only[dX]
   refine Vd 5 fun K hK=>?_;refine jT rfl _ _ 23 23 rfl rfl rfl AQ.out ?_;refine hK.out _ _ (fun _=>⟨t1,u2⟩) (fun hHeld=>?_);have hHeld:=hHeld aI;clear hK K;try simp only[dX]
   refine Jm 6 ?_
   refine Vd 7 fun K hK=>?_;go_simp;refine hK.out _ _ (fun h=>absurd h aI) (fun _=>?_);clear hK K;try clear hHeld
   try simp only[dX]
   refine zdX ?_;clear da AQ TPa TBa TSa TOa TQa TRa hba TP9 TB9 TS9 TO9 TQ9 TR9 hb9 p1 q2 t1 u2 fr HCa;have TPc:af (aG (wb.setCell ⟨P,1,none⟩ (.slice A7 n7 c7)) P 26 #[.int .u64 dv,.slice A7 n7 c7,.slice B2 ix m2,.string ta]):=ae (TPb.out.aM 1 _);obtain⟨TSc,TOc,TQc,TRc,TBc⟩:=kp (TSb.out.far (k:=1) (u:=.slice A7 n7 c7) HB0.out.1.1) (aN (k:=1) (u:=.slice A7 n7 c7) TOb.out HB0.out.1.1) (TQb.out.far (p:=⟨P,1,none⟩) (Ne.symm HPQ.out.1.1) (.slice A7 n7 c7)) (TRb.out.far (p:=⟨P,1,none⟩) (Ne.symm HPQ.out.1.2.1) (.slice A7 n7 c7)) (TBb.out.setCell (p:=⟨P,1,none⟩) HPQ.out.1.2.2.2 (.slice A7 n7 c7));have hbc:af (B0≤(wb.setCell ⟨P,1,none⟩ (.slice A7 n7 c7)).heap.size):=ae (by rw[show(wb.setCell ⟨P,1,none⟩ (.slice A7 n7 c7)).heap.size=wb.heap.size by simp];exact hbb.out);clear TBb TPb TQb TRb TSb TOb;clear hbb;generalize wb.setCell ⟨P,1,none⟩ (.slice A7 n7 c7)=wc at TPc TSc TOc TQc TRc TBc hbc⊢;obtain⟨ys,hys,hyo,hyx⟩:=TSc.out;have hyl:ys.length≤4000000:=by
    obtain⟨_,_,e⟩:=(aV.dm hyo).shape;injection e with _ e _
    omega
   have hsort:=I8 ys hyl hyo (fun X hX=>(hyx X hX).rd);obtain⟨ZW,HYo,HYx,HYs,wS⟩:=kp hsort hyo hyx hys (show∀q,(iC A7 n7 c7).ownBlock=some q→B0≤q from fun q hq=>(hyo.lt q hq).1);clear hsort hyo hyx hys hyl;obtain⟨-,p1⟩:=pW TPc;go_upto_region 15 with(go_at_call 53;(with_reducible refine ZW.out.mono ?_);rintro r wd⟨rfl,⟨S,hp,hs,hod⟩,kd⟩;have TPd:=ae (TPc.out.keep kd (fun hq=>by have:=wS.out _ hq;have:=HB0.out.1;omega));have TQd:=ae (TQc.out.keep kd (fun hq=>by have:=wS.out _ hq;have:=HB0.out.1;omega));have TRd:=ae (TRc.out.keep kd (fun hq=>by have:=wS.out _ hq;have:=HB0.out.1;omega));have TOd:=ae (a8 TOc.out kd (bY HYo.out) aI);have TBd:=ae (TBc.out.trans (kd.below (B:=w.heap.size) (fun q hq=>ax HB0.out.2 (wS.out _ hq)) TBc.out.size));have hbd:af (B0≤wd.heap.size):=ae (ax hbc.out kd.size);have TSd:af (cU wd B0 (.slice A7 n7 c7) RM.aJ):=ae ⟨S,adY.out _ (by have:=hp.map (fun X:bG=>X.p);rw[HYs.out]at this;exact this) hs,by rw[hp.length_eq];exact hod,fun X hX=>(HYx.out X (hp.mem_iff.1 hX)).keep kd (bY HYo.out) aI aI aI⟩;clear hp hs hod kd)
   clear p1 ZW HYo HYx HYs wS adY TPc TBc TSc TOc TQc TRc hbc;obtain⟨-,-,-,-,q4⟩:=afY TQd;go_upto_if 55 with fail
   clear q4;go_cut []from 56 (fun wx=>∃(A2:Option Addr)(n2 c2:Nat),af (n2=RM.aF.length)∧af (aG wx P 26 #[.int .u64 dv,.slice A7 n7 c7,.slice A2 n2 c2,.string ta])∧af (wx.ownsRow B0 71 6 (.slice A2 n2 c2) n2 (fL RM.aF))∧af (cU wx B0 (.slice A7 n7 c7) RM.aJ)∧af (aG wx Q 29 #[.int .u64 db,.int .u64 dv,.slice As ns cs,.slice Ag ng cg,.bool ja,.slice Ar nr cr,.bool i7,.string lO,.string kP])∧af (aG wx R 26 #[.int .u64 0,.slice none 0 0,.slice none 0 0,.string ⟨#[]⟩])∧af (Below w.heap.size w wx)∧af (B0≤wx.heap.size))
   case first=>
    obtain⟨-,-,-,-,-,q5⟩:=aft TQd;cases ja with
    |false=>
     have e:RM.aF=eX:=by simpa using MJ.out.2.1
     have He:=ae e;clear e;go_wp2_with fail
     go_meet;exact⟨B2,ix,m2,ae (by rw[He.out];exact lU.out),TPd,ae (by rw[He.out];exact TOd.out),TSd,TQd,TRd,TBd,hbd⟩
    |true=>
     have e:RM.aF=adX:=by simpa using MJ.out.2.1
     have He:=ae e;clear e;go_wp2_with(go_at_call 45;(with_reducible refine(HCr.out _ TBd.out).mono ?_);rintro r we⟨⟨A9,c9,rfl,ho9⟩,d9⟩;have TBe:=bm TBd d9;obtain⟨TPe,TQe,TRe,TSe,TOe⟩:=kp (TPd.out.below d9 TPd.out.lt) (TQd.out.below d9 TQd.out.lt) (TRd.out.below d9 TRd.out.lt) (TSd.out.low d9) (ho9.mono hbd.out);have hbe:af (B0≤we.heap.size):=ae (ax hbd.out d9.size);clear d9 ho9;obtain⟨-,-,y2⟩:=oM TPe;have fr:=fun i=>TPe.out.frozen i)
     have TPf:af (aG (we.setCell ⟨P,2,none⟩ (.slice A9 nr c9)) P 26 #[.int .u64 dv,.slice A7 n7 c7,.slice A9 nr c9,.string ta]):=ae (TPe.out.aM 2 _);obtain⟨TSf,TOf,TQf,TRf,TBf⟩:=kp (TSe.out.far (k:=2) (u:=.slice A9 nr c9) HB0.out.1.1) (aN (k:=2) (u:=.slice A9 nr c9) TOe.out HB0.out.1.1) (TQe.out.far (p:=⟨P,2,none⟩) (Ne.symm HPQ.out.1.1) (.slice A9 nr c9)) (TRe.out.far (p:=⟨P,2,none⟩) (Ne.symm HPQ.out.1.2.1) (.slice A9 nr c9)) (TBe.out.setCell (p:=⟨P,2,none⟩) HPQ.out.1.2.2.2 (.slice A9 nr c9));have hbf:af (B0≤(we.setCell ⟨P,2,none⟩ (.slice A9 nr c9)).heap.size):=ae (by rw[show(we.setCell ⟨P,2,none⟩ (.slice A9 nr c9)).heap.size=we.heap.size by simp];exact hbe.out);clear TBe TPe TQe TRe TSe TOe;clear hbe;generalize we.setCell ⟨P,2,none⟩ (.slice A9 nr c9)=wf at TPf TSf TOf TQf TRf TBf hbf⊢;go_meet;exact⟨A9,nr,c9,ae (by rw[He.out];exact HN5.out),TPf,ae (by rw[He.out];exact TOf.out),TSf,TQf,TRf,TBf,hbf⟩
   case rest=>
   obtain⟨A2,n2,c2,hn2,TPg,TOg,TSg,TQg,TRg,TBg,hbg⟩:=hcut;obtain⟨wg,rfl⟩:∃wg:World,wg=wc:=⟨_,rfl⟩;clear TPd TOd TSd TQd TRd TBd hbd HCr;obtain⟨-,-,-,-,-,-,q6⟩:=af8 TQg;go_upto_if 61 with fail
   clear q6;go_cut []from 62 (fun wx=>af (aG wx P 26 #[.int .u64 dv,.slice A7 n7 c7,.slice A2 n2 c2,.string RM.policy])∧af (wx.ownsRow B0 71 6 (.slice A2 n2 c2) n2 (fL RM.aF))∧af (cU wx B0 (.slice A7 n7 c7) RM.aJ)∧af (aG wx Q 29 #[.int .u64 db,.int .u64 dv,.slice As ns cs,.slice Ag ng cg,.bool ja,.slice Ar nr cr,.bool i7,.string lO,.string kP])∧af (aG wx R 26 #[.int .u64 0,.slice none 0 0,.slice none 0 0,.string ⟨#[]⟩])∧af (Below w.heap.size w wx)∧af (B0≤wx.heap.size))
   case first=>
    have q7:=TQg.out.cell 7;simp at q7;cases i7 with
    |false=>
     have e:RM.policy=ta:=by simpa using MJ.out.2.2
     have He:=ae e;clear e;go_wp2_with fail
     go_meet;exact⟨ae (by rw[He.out];exact TPg.out),TOg,TSg,TQg,TRg,TBg,hbg⟩
    |true=>
     have e:RM.policy=lO:=by simpa using MJ.out.2.2
     have He:=ae e;clear e;obtain⟨-,-,-,y3⟩:=jB TPg;have fr:=fun i=>TPg.out.frozen i
     go_wp2_with fail
     have TPh:af (aG (wg.setCell ⟨P,3,none⟩ (.string lO)) P 26 #[.int .u64 dv,.slice A7 n7 c7,.slice A2 n2 c2,.string lO]):=ae (TPg.out.aM 3 _);obtain⟨TSh,TOh,TQh,TRh,TBh⟩:=kp (TSg.out.far (k:=3) (u:=.string lO) HB0.out.1.1) (aN (k:=3) (u:=.string lO) TOg.out HB0.out.1.1) (TQg.out.far (p:=⟨P,3,none⟩) (Ne.symm HPQ.out.1.1) (.string lO)) (TRg.out.far (p:=⟨P,3,none⟩) (Ne.symm HPQ.out.1.2.1) (.string lO)) (TBg.out.setCell (p:=⟨P,3,none⟩) HPQ.out.1.2.2.2 (.string lO));have hbh:af (B0≤(wg.setCell ⟨P,3,none⟩ (.string lO)).heap.size):=ae (by rw[show(wg.setCell ⟨P,3,none⟩ (.string lO)).heap.size=wg.heap.size by simp];exact hbg.out);clear TBg TPg TQg TRg TSg TOg;clear hbg;generalize wg.setCell ⟨P,3,none⟩ (.string lO)=wh at TPh TSh TOh TQh TRh TBh hbh⊢;go_meet;exact⟨ae (by rw[He.out];exact TPh.out),TOh,TSh,TQh,TRh,TBh,hbh⟩
   case rest=>
   obtain⟨TPi,TOi,TSi,TQi,TRi,TBi,hbi⟩:=hcut;obtain⟨wi,rfl⟩:∃wi:World,wi=wc:=⟨_,rfl⟩;clear TPg TOg TSg TQg TRg TBg hbg;have ad1:n7=RM.aJ.length:=by
    obtain⟨_,_,e⟩:=TSi.out.rd.shape;injection e with _ e _
   obtain⟨Hn7,afi⟩:=aQ ad1 MJ.out.1;have TP:=HMr.out wi TBi.out (.slice A7 n7 c7) (.slice A2 n2 c2) TSi.out.rd (by unfold gi;rw[←hn2.out];exact aV.dm TOi.out);have Vt:=ae TP;clear ad1 TP HMr MJ;obtain⟨p0,p1,p2,p3⟩:=jB TPi;go_upto_region 20 with(go_at_call 19;(with_reducible refine Vt.out.mono ?_);rintro r wj⟨rfl,dj⟩)
   have TBj:=bm TBi dj;obtain⟨TPj,TQj,TRj,TSj,TOj⟩:=kp (TPi.out.below dj TPi.out.lt) (TQi.out.below dj TQi.out.lt) (TRi.out.below dj TRi.out.lt) (TSi.out.low dj) (own_below TOi.out dj);have hbj:af (B0≤wj.heap.size):=ae (ax hbi.out dj.size);clear dj p0 p1 p2 p3 Vt hbi;clear TBi TPi TQi TRi TSi TOi;by_cases hz:er=0;rotate_left
   ·have q0:((er:Int) !=0)=true:=by simp;omega
    have HF:=ae (HF0.out.1 hz);clear hz;obtain⟨r0,r1,r2,r3⟩:=jB TRj;have fr:=fun i=>TRj.out.frozen i
    go_wp2_with fail
    obtain⟨s9,q9⟩:=jf TRj.out TBj.out HPQ.out.2.2 (.int .u64 0) (.slice none 0 0) (.slice none 0 0) (.string ⟨#[]⟩);refine bodyPost_ret (bq rfl rfl rfl (gZ s9)) rfl ⟨⟨none,0,none,0,?_,?_,?_⟩,q9⟩
    ·rw[HF.out];rfl
    ·rw[HF.out];exact gU _
    ·rw[HF.out];exact df _
   have q0:((er:Int) !=0)=false:=by simp[hz]
   have He:=ae hz;clear hz;go_upto_region 22 with fail
   clear q0;have hdr:=(Below.refl wj.heap.size wj).drew;have TBk:=bm TBj hdr;obtain⟨TPk,TQk,TRk,TSk,TOk⟩:=kp (TPj.out.below hdr TPj.out.lt) (TQj.out.below hdr TQj.out.lt) (TRj.out.below hdr TRj.out.lt) (TSj.out.low hdr) (own_below TOj.out hdr);have hhy:=HHr.out wj.drew TBk.out (.slice A7 n7 c7) (.slice A2 n2 c2) TSk.out.rd (by unfold gi;rw[←hn2.out];exact aV.dm TOk.out);have HHy:=ae hhy;clear hhy HHr hdr;obtain⟨E,q1⟩:∃e,(HR.toList==kP.toList)=e:=⟨_,rfl⟩;have HE:=ae q1;obtain⟨p0,p1,p2,p3⟩:=jB TPj;have q8:=TQj.out.cell 8;simp at q8;refine wp_region_held_drew (S:=(fun u=>u.cell? ⟨P,0,none⟩=some (.int .u64 dv)∧u.cell? ⟨P,1,none⟩=some (.slice A7 n7 c7)∧u.cell? ⟨P,2,none⟩=some (.slice A2 n2 c2)∧u.cell? ⟨P,3,none⟩=some (.string RM.policy)∧u.cell? ⟨Q,8,none⟩=some (.string kP))) bJ (⟨p0,p1,p2,p3,q8⟩) (fun hHeld=>?_);refine bB 0 ?_
   refine bB 2 ?_
   refine bB 3 ?_
   refine mM 1 fun K hK=>?_;go_simp;refine HHy.out.mono ?_;rintro r wl⟨rfl,dl⟩;have TBl:=bm TBk dl;obtain⟨TPl,TQl,TRl,TSl,TOl⟩:=kp (TPk.out.below dl TPk.out.lt) (TQk.out.below dl TQk.out.lt) (TRk.out.below dl TRk.out.lt) (TSk.out.low dl) (own_below TOk.out dl);refine hK.out _ _ (⟨ak hHeld.1 dl,ak hHeld.2.1 dl,ak hHeld.2.2.1 dl,ak hHeld.2.2.2.1 dl,ak hHeld.2.2.2.2 dl⟩) (fun hHeld=>?_);clear hK K;try simp only[dX]
   refine bB 4 ?_
   refine tX ?_;have hbl:af (B0≤wl.heap.size):=ae (ax hbj.out (show wj.heap.size≤wl.heap.size from dl.size));clear dl HHy p0 p1 p2 p3 q8 hbj;clear TBj TPj TQj TRj TSj TOj;clear TBk TPk TQk TRk TSk TOk;clear q1;cases E with
   |false=>
    have hh:HR≠kP:=fun h=>by have:=gB h;rw[HE.out]at this;cases this
    have HF:=ae (HF0.out.2.1 He.out hh);clear hh;obtain⟨r0,r1,r2,r3⟩:=jB TRl;have fr:=fun i=>TRl.out.frozen i
    go_wp2_with fail
    obtain⟨s9,q9⟩:=jf TRl.out TBl.out HPQ.out.2.2 (.int .u64 0) (.slice none 0 0) (.slice none 0 0) (.string ⟨#[]⟩);refine bodyPost_ret (bq rfl rfl rfl (gZ s9)) rfl ⟨⟨none,0,none,0,?_,?_,?_⟩,q9⟩
    ·rw[HF.out];rfl
    ·rw[HF.out];exact gU _
    ·rw[HF.out];exact df _
   |true=>
    have hh:HR=kP:=by
     rcases Classical.em (HR=kP)with h|h
     ·exact h
     ·have:=gC h;rw[HE.out]at this;cases this
    have HF:=ae (HF0.out.2.2 He.out hh);clear hh HF0;go_upto_region 24 with fail
    obtain⟨p0,p1,p2,p3⟩:=jB TPl;obtain⟨r0,r1,r2,r3⟩:=jB TRl;have fr:=fun i=>TRl.out.frozen i
    go_wp2_with fail
    obtain⟨s9,q9⟩:=jf TRl.out TBl.out HPQ.out.2.2 (.int .u64 dv) (.slice A7 n7 c7) (.slice A2 n2 c2) (.string RM.policy);have z9:=UH (P:=R) (Q:=fun u=>cU u B0 (.slice A7 n7 c7) RM.aJ∧u.ownsRow B0 71 6 (.slice A2 n2 c2) n2 (fL RM.aF)) (fun u i x hq=>⟨hq.1.far HB0.out.1.2.2,aN hq.2 HB0.out.1.2.2⟩) ⟨TSl.out,TOl.out⟩ (.int .u64 dv) (.slice A7 n7 c7) (.slice A2 n2 c2) (.string RM.policy);refine bodyPost_ret (bq rfl rfl rfl (gZ s9)) rfl ⟨⟨A7,c7,A2,c2,?_,?_,?_⟩,q9⟩
    ·rw[HF.out];simp only;rw[←Hn7.out,←hn2.out,afi.out];rfl
    ·rw[HF.out];simp only;rw[←Hn7.out];exact z9.1.rd
    ·rw[HF.out];simp only;unfold gi;rw[←hn2.out];exact aV.dm z9.2
end Go.Proofs.YtdfnhljccdoncaaGreatDoor
