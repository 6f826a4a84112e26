/- Joined out of: PfC PfD WhA IpJ IpK IpL IpLb IpQ IpS IpT WhB TwC TxF TwD TwE RdA GsC RdB PtA. -/
import Derived.Test.YtkjaajcpbldjoabGreatDoorLab
import Derived.Deep.CutBlock
import Derived.Laws.CopyOwn
set_option linter.unusedVariables false
set_option linter.unusedSimpArgs false
set_option maxHeartbeats 16000000
set_option maxRecDepth 100000
open Bool renaming eq_iff_iff→gW
open ByteArray renaming empty→lL,size→ahT,ext→ahX
open Go.ByteArray renaming toList_eq→cE
open Go.IntKind renaming wrap_u64→fl,wrap_i64→ah4
open Go.Lib renaming hid→ae,decDigits→cP
open Go.Proofs.Tryz renaming prog→ah,underlying9→bq,underlying5→cD,underlying71→cT
open Go.RowKit renaming Hid→ag
open Go.RowKit.Below renaming refl→aI
open Go.Value renaming string→bN
open Go.World renaming ownsRow_nil→bh
open List renaming getElem?_eq_getElem→af,length_append→aj,take_succ_eq_append_getElem→aC,getD_eq_getElem?_getD→aE,take_of_length_le→aN,append_assoc→aO,replicate→aS,getElem_mem→aZ,eq_nil_of_length_eq_zero→bC,getElem?_map→bO,drop_eq_getElem_cons→bT,nil_append→lK,length_replicate→lM,length_drop→zd,length_take→ze,drop_of_length_le→EE,size_toArray→abh,mem_of_mem_take→ah8
open Nat renaming le_trans→aw,le_refl→ax,zero_le→bj,add_zero→cq,pow_le_pow_right→ahJ,lt_of_lt_of_le→ahQ,lt_or_ge→ahY
namespace Go.Proofs.YtkjaajcpbldjoabGreatDoor
open Go.RowKit
attribute [local go_sem↓] Go.wp_at_zero Go.wp_at_succ
theorem zv(p:Pf)(ok:p.Ok)(w:World):Calls ah 261 #[.agg p.cells] w (Got (.bool (rD p)) w):=by
 obtain⟨HE,Hm,Hs⟩:=bz (Y4 (p:=p) ok.a) (lT p.a ok.a) (size_any p.a);have hn:=ok.bits;have hh:=ok.a.hi;have hl:=ok.a.lo;have HX:p.bits≤p.a.size→∀w,Calls ah 276 #[.agg p.a.cells,.int .u8 (p.bits:Int)] w fun r w'=>r=.returned (.tuple #[.int .u64 (mk (kH p.a p.bits):Int),.int .u64 (mk (kL p.a p.bits):Int)])∧aW w w':=fun h w=>PK p.a p.bits h w
 have eH:=AA hh (aej p.a p.bits);have eL:=AA hl (aek (a:=p.a) (n:=p.bits));generalize mk (kH p.a p.bits)=MH at HX eH;generalize mk (kL p.a p.bits)=ML at HX eL;generalize p.a.hi%2^kH p.a p.bits=XH at HE eH;generalize p.a.lo%2^kL p.a p.bits=XL at HE eL;generalize hR:rD p=RR at HE⊢;clear hR;generalize hM:p.a.may=M at Hm HE HX;generalize hS:p.a.size=SZ at Hs HE HX;have hS2:SZ≤128:=by rw[←hS];exact size_le _
 clear hM hS;obtain⟨⟨v,h,l⟩,n⟩:=p;unfold Pf.cells;unfold Ad.cells at*;simp only at hn hh hl HE Hm Hs HX eH eL⊢;have hB0:=aH.new w 215 #[.bool v,.int .u64 h,.int .u64 l,.int .u8 n];have hb0:=(boxed w (.cells #[.bool v,.int .u64 h,.int .u64 l,.int .u8 n] 215)).drew;obtain⟨EH,EL⟩:=aL eH eL;clear eH eL;cases M with
 |false=>
  have e:RR=false:=by rw[HE.out];rfl
  rw[e];go_enter Tryz.func261,Tryz.ntmps261;go_wp2_with fail
  generalize w.alloc (.cells #[.bool v,.int .u64 h,.int .u64 l,.int .u8 n] 215)=v0 at hB0 hb0⊢;generalize hg:w.heap.size=g at hB0⊢;have hB0:=hB0.drew;refine wp_region_held_drew (S:=(fun w'=>w'.cell? ⟨g,0,none⟩=some (.bool v)∧w'.cell? ⟨g,1,none⟩=some (.int .u64 h)∧w'.cell? ⟨g,2,none⟩=some (.int .u64 l)∧w'.cell? ⟨g,3,none⟩=some (.int .u8 n))) bo ⟨hB0.cell 0,hB0.cell 1,hB0.cell 2,hB0.cell 3⟩ (fun hHeld=>?_);refine aY 0 ?_
  refine aY 1 ?_
  refine fA 2 fun K hK=>?_;go_simp;refine(Hm.out _).mono ?_;rintro r v1⟨rfl,d1⟩;have hb1:=after hb0 d1;have hB1:=hB0.below d1 hB0.lt;refine hK.out _ _ ⟨hB1.cell 0,hB1.cell 1,hB1.cell 2,hB1.cell 3⟩ (fun hHeld=>?_);clear hK K;try simp only[ck]
  refine aY 3 ?_
  refine aY 4 ?_
  refine tj 5 ?_
  refine tj 6 ?_
  refine tj 7 ?_
  refine tj 8 ?_
  refine tj 9 ?_
  refine tj 10 ?_
  refine aY 11 ?_
  refine lN ?_;go_wp2_with fail
  go_ret;exact⟨rfl,hb1⟩
 |true=>
  by_cases hle:n≤SZ
  ·have HX2:=ae (HX hle);clear HX;have hle':¬(SZ:Int)<(n:Int):=by omega
   have hle2:decide ((SZ:Int)<(n:Int))=false:=decide_eq_false hle';have hle3:decide (SZ<n)=false:=decide_eq_false aR;have e:RR=(decide (XH=0)&&decide (XL=0)):=by rw[HE.out,decide_eq_true hle];rfl
   have He:=ae e;clear e;go_enter Tryz.func261,Tryz.ntmps261;go_wp2_with fail
   generalize w.alloc (.cells #[.bool v,.int .u64 h,.int .u64 l,.int .u8 n] 215)=v0 at hB0 hb0⊢;generalize hg:w.heap.size=g at hB0⊢;have hB0:=hB0.drew;refine wp_region_held_drew (S:=(fun w'=>w'.cell? ⟨g,0,none⟩=some (.bool v)∧w'.cell? ⟨g,1,none⟩=some (.int .u64 h)∧w'.cell? ⟨g,2,none⟩=some (.int .u64 l)∧w'.cell? ⟨g,3,none⟩=some (.int .u8 n))) bo ⟨hB0.cell 0,hB0.cell 1,hB0.cell 2,hB0.cell 3⟩ (fun hHeld=>?_);refine aY 0 ?_
   refine aY 1 ?_
   refine fA 2 fun K hK=>?_;go_simp;refine(Hm.out _).mono ?_;rintro r v1⟨rfl,d1⟩;have hb1:=after hb0 d1;have hB1:=hB0.below d1 hB0.lt;refine hK.out _ _ ⟨hB1.cell 0,hB1.cell 1,hB1.cell 2,hB1.cell 3⟩ (fun hHeld=>?_);clear hK K;try simp only[ck]
   refine aY 3 ?_
   refine aY 4 ?_
   refine aY 5 ?_
   refine aY 6 ?_
   refine aY 7 ?_
   refine aY 8 ?_
   refine fA 9 fun K hK=>?_;go_simp;refine(Hs.out _).mono ?_;rintro r v2⟨rfl,d2⟩;have hb2:=after hb1 d2;have hB2:=hB1.below d2 hB1.lt;refine hK.out _ _ ⟨hB2.cell 0,hB2.cell 1,hB2.cell 2,hB2.cell 3⟩ (fun hHeld=>?_);clear hK K;try simp only[ck]
   refine aY 10 ?_
   refine aY 11 ?_
   refine lN ?_;have c0:=hB2.cell 0;have c1:=hB2.cell 1;have c2:=hB2.cell 2;have c3:=hB2.cell 3;simp at c0 c1 c2 c3;obtain⟨HB2,Hb2⟩:=aL hB2 hb2;have eH:=EH.out;have eL:=EL.out;have hg2:g<v2.heap.size:=hB2.lt;clear hB0 hb0 hB1 hb1 hB2 hb2;by_cases h1:XH=0
   all_goals by_cases h2:XL=0
   all_goals
    have q1:((XH:Int)==0)=decide (XH=0):=by rw[gW,beq_iff_eq,decide_eq_true_iff];omega
    have q2:((XL:Int)==0)=decide (XL=0):=by rw[gW,beq_iff_eq,decide_eq_true_iff];omega
    first|rw[decide_eq_true h1]at q1 He|rw[decide_eq_false h1]at q1 He
    first|rw[decide_eq_true h2]at q2 He|rw[decide_eq_false h2]at q2 He
    clear h1 h2;go_wp2_with(go_at_call 276;refine(HX2.out _).mono ?_;rintro r v3⟨rfl,d3⟩;have hc3:=(ad5 d3).1)
    go_ret;exact⟨show Ending.returned (.bool _)=_ by rw[He.out];rfl,after Hb2.out d3⟩
  ·have hle':(SZ:Int)<(n:Int):=by omega
   have hle2:decide ((SZ:Int)<(n:Int))=true:=decide_eq_true hle';have hle3:decide (SZ<n)=true:=decide_eq_true aR;have e:RR=false:=by rw[HE.out,decide_eq_false hle];rfl
   rw[e];clear HX e;go_enter Tryz.func261,Tryz.ntmps261;go_wp2_with fail
   generalize w.alloc (.cells #[.bool v,.int .u64 h,.int .u64 l,.int .u8 n] 215)=v0 at hB0 hb0⊢;generalize hg:w.heap.size=g at hB0⊢;have hB0:=hB0.drew;refine wp_region_held_drew (S:=(fun w'=>w'.cell? ⟨g,0,none⟩=some (.bool v)∧w'.cell? ⟨g,1,none⟩=some (.int .u64 h)∧w'.cell? ⟨g,2,none⟩=some (.int .u64 l)∧w'.cell? ⟨g,3,none⟩=some (.int .u8 n))) bo ⟨hB0.cell 0,hB0.cell 1,hB0.cell 2,hB0.cell 3⟩ (fun hHeld=>?_);refine aY 0 ?_
   refine aY 1 ?_
   refine fA 2 fun K hK=>?_;go_simp;refine(Hm.out _).mono ?_;rintro r v1⟨rfl,d1⟩;have hb1:=after hb0 d1;have hB1:=hB0.below d1 hB0.lt;refine hK.out _ _ ⟨hB1.cell 0,hB1.cell 1,hB1.cell 2,hB1.cell 3⟩ (fun hHeld=>?_);clear hK K;try simp only[ck]
   refine aY 3 ?_
   refine aY 4 ?_
   refine aY 5 ?_
   refine aY 6 ?_
   refine aY 7 ?_
   refine aY 8 ?_
   refine fA 9 fun K hK=>?_;go_simp;refine(Hs.out _).mono ?_;rintro r v2⟨rfl,d2⟩;have hb2:=after hb1 d2;have hB2:=hB1.below d2 hB1.lt;refine hK.out _ _ ⟨hB2.cell 0,hB2.cell 1,hB2.cell 2,hB2.cell 3⟩ (fun hHeld=>?_);clear hK K;try simp only[ck]
   refine aY 10 ?_
   refine aY 11 ?_
   refine lN ?_;go_wp2_with fail
   go_ret;exact⟨rfl,hb2⟩
theorem fR(w:World)(o o':Obj):Below w.heap.size w ((w.alloc o).alloc o'):=after (boxed _ _) (boxed _ _)
theorem TC(a b:Ad)(w:World):Calls ah 154 #[.agg a.cells,.agg b.cells] w (Got (.bool (xj a b)) w):=by
 obtain⟨v,x,l⟩:=a;obtain⟨v',x',l'⟩:=b;unfold Ad.cells xj;simp only;cases v
 all_goals cases v'
 case false.true|true.false=>
  go_enter Tryz.func154,Tryz.ntmps154;go_wp2_with fail
  go_ret;exact⟨rfl,fR _ _ _⟩
 all_goals
  by_cases e:x=x'
  ·subst e;rw[if_neg aJ,if_neg (by simp)];go_enter Tryz.func154,Tryz.ntmps154;go_wp2_with fail
   go_ret;exact⟨rfl,fR _ _ _⟩
  ·have e1:((x:Int) !=(x':Int))=true:=by simp;omega
   rw[if_neg aJ,if_pos e];have He:=ae e;clear e;go_enter Tryz.func154,Tryz.ntmps154;go_wp2_with fail
   go_ret;exact⟨rfl,fR _ _ _⟩
theorem mC(z:Value)(hz:z.cells= #[z])(k:Nat):Builtin.zeroCells z.cells k=(aS k z).toArray:=by
 unfold Builtin.zeroCells;rw[hz];apply Array.ext
 ·simp
 ·intro i h1 h2;simp;have:i%1=0:=Nat.mod_one i;simp[this]
section
variable{P:Program}(w:World)
theorem vC(base:Nat)(t tx ty e:TypeId)(i:TypeInfo)(z:Value)(ht:P.underlying t=some (.slice e))(hx:P.underlying tx=some (.int .i64))(hi:P.info? e=some i)(hz:i.zero=some z)(hsize:i.size=1)(hby:i.bytes=8)(hzc:z.cells= #[z])(hz1:z.oneCell'=true)(v:Value)(n:Nat)(xs:List Value)(hown:w.ownsRow base e 1 v n xs)(k:Nat)(hk:k≤1000)(hn:n≤1000)(hbase:base≤w.heap.size):∃v' w',(Builtin.append_ #[t,tx] ty #[v,.int .i64 k]).run P w=.ok v' w'∧w'.ownsRow base e 1 v' (n+k) (xs++aS k z)∧w.grownBy w' v.ownBlock:=by
 have hwr:IntKind.i64.wrap (k:Int)=(k:Int):=by rw[ah4];omega
 have hw0:IntKind.i64.wrap 0=0:=by rw[ah4];decide
 have hneg:¬((k:Int)<0):=by omega
 have hbig:¬(281474976710656<(k:Int)*8):=by omega
 have hlen:(xs++aS k z).length=(n+k)*1:=by rw[aj,hown.1,lM];omega
 have grown:∀(old:Nat),old<n+k→∀(row:Option Nat),(w.drew.alloc (.cells (xs.toArray++(aS k z).toArray++Builtin.zeroCells z.cells (grownCap w (n+k) old e-(n+k))) e)).ownsRow base e 1
  (.slice (some ⟨w.heap.size,0,none⟩) (n+k) (grownCap w (n+k) old e)) (n+k) (xs++aS k z)∧w.grownBy (w.drew.alloc (.cells (xs.toArray++(aS k z).toArray++Builtin.zeroCells z.cells (grownCap w (n+k) old e-(n+k))) e)) row:=by
  intro old ho row;have hge:=grownCap_ge w (n+k) old e;have hcm:grownCap w (n+k) old e≤maxLen:=grownCap_le_maxLen w (n+k) old e (by simp only[maxLen];omega);refine⟨⟨hlen,.inr ⟨w.heap.size,_,_,rfl,hbase,heap_alloc_new w.drew _,hge,hcm,?_,?_⟩⟩,⟨rfl,rfl,rfl,by simp,fun q hq _=>(Below.heap_alloc w.drew _ q hq)⟩⟩
  ·simp only[Array.size_append,abh,size_zeroCells,hzc,hown.1,lM];simp;omega
  ·simp only[Array.toList_append,aO];rw[←aO,←hlen];exact List.take_left
 have h63:¬(9223372036854775807<((n:Int)+(k:Int))):=by omega
 rcases hown.2 with⟨rfl,rfl⟩|⟨g,cap,cur,rfl,hbg,hg,hnc,hcm,hcs,htake⟩
 ·have hx0:xs=[]:=bC (by simpa using hown.1);subst hx0;by_cases hm:k=0
  ·subst hm;refine⟨au,w,?_,bh w base e 1,⟨rfl,rfl,rfl,ax _,fun _ _ _=>rfl⟩⟩;simp[Builtin.append_,run_underlying ht,run_underlying hx,sizeOf,typeInfo,hi,asInt,asIntOf,hwr,hw0]
  ·have hm0:¬k≤0:=by omega
   have h48':¬(281474976710656<Builtin.nextslicecap k 0*8):=by rw[nextslicecap_zero aR];omega
   have h63':¬(9223372036854775807<(k:Int)):=by omega
   have hgr:=grown 0 aR (Value.ownBlock au);simp only[Nat.zero_add,lK,Array.empty_append]at hgr⊢;refine⟨_,_,?_,hgr.1,hgr.2⟩;simp[Builtin.append_,run_underlying ht,run_underlying hx,sizeOf,typeInfo,zeroValue,hi,hz,hsize,hby,asInt,asIntOf,hwr,hneg,hbig,hm,h63',h48',Question.forced,run_firstCells_none,newRow,grownCap,mC z hzc]
 ·by_cases hroom:n+k≤cap
  ·have hst:=run_storeCells_at P g n e (aS k z) 0 cur w hg (by simp only[lM];omega) (fun u hu=>by rw[(List.mem_replicate.1 hu).2];exact hz1);simp only[cq]at hst;have hadd:(⟨g,0,none⟩:Addr).add n=⟨g,n,none⟩:=by unfold Addr.add;split<;>simp_all
   refine⟨.slice (some ⟨g,0,none⟩) (n+k) cap,_,?_,⟨hlen,.inr ⟨g,cap,_,rfl,hbg,setRow_heap w g cur (cur.toList.take n++aS k z++cur.toList.drop (n+(aS k z).length)).toArray e _ hg,hroom,hcm,?_,?_⟩⟩,⟨rfl,rfl,rfl,by simp,fun q _ hq=>setRow_other w g q _ (fun e=>hq (by simp[Value.ownBlock,e]))⟩⟩
   ·by_cases hm:k=0
    ·subst hm;simp at hst;simp[Builtin.append_,run_underlying ht,run_underlying hx,sizeOf,typeInfo,zeroValue,hi,hz,hsize,hby,asInt,asIntOf,hw0,hroom,hadd,hst];intro h;omega
    ·simp[Builtin.append_,run_underlying ht,run_underlying hx,sizeOf,typeInfo,zeroValue,hi,hz,hsize,hby,asInt,asIntOf,hwr,hneg,hbig,hm,hroom,hadd,mC z hzc,hst]
   ·simp only[abh,aj,ze,zd,Array.length_toList,lM];omega
   ·have e:cur.toList.take n=xs:=by rw[←htake,Nat.mul_one]
    rw[e,←hlen];exact List.take_left
  ·have holds:∀j u,xs[j]? =some u→w.cell? ((⟨g,0,none⟩:Addr).add j)=some u:=hown.cells (g:=g) rfl;have hm:k≠0:=by omega
   have hfit:=growslice_fits (old:=cap) (need:=n+k) (bytes:=8) aR aR;have h48':¬(281474976710656<Builtin.nextslicecap (n+k) cap*8):=by omega
   have hfo:=run_firstCells_some (P:=P) w.drew 1 n ⟨g,0,none⟩ n cap xs hown.1 (by simpa using holds);have hgr:=grown cap aR (Value.ownBlock (.slice (some ⟨g,0,none⟩) n cap));refine⟨_,_,?_,hgr.1,hgr.2⟩;simp[Builtin.append_,run_underlying ht,run_underlying hx,sizeOf,typeInfo,zeroValue,hi,hz,hsize,hby,asInt,asIntOf,hwr,hneg,hbig,hm,hroom,h63,h48',Question.forced,hfo,newRow,grownCap,mC z hzc]
theorem vD(base:Nat)(t ty e:TypeId)(i:TypeInfo)(ht:P.underlying t=some (.slice e))(hi:P.info? e=some i)(hsize:i.size=1)(v:Value)(n:Nat)(xs:List Value)(hown:w.ownsRow base e 1 v n xs):(Builtin.append_ #[t,t] ty #[v,au]).run P w=.ok v w:=by
 rcases hown.2 with⟨rfl,rfl⟩|⟨g,cap,cur,rfl,hbg,hg,hnc,hcm,hcs,htake⟩
 ·simp[Builtin.append_,run_underlying ht,sizeOf,typeInfo,hi,Builtin.lenOf,Builtin.firstCells]
 ·simp[Builtin.append_,run_underlying ht,sizeOf,typeInfo,hi,hsize,Builtin.lenOf,Builtin.firstCells,storeCells,hnc]
theorem xx(base TD:Nat)(t ty e:TypeId)(i:TypeInfo)(z:Value)(ht:P.underlying t=some (.slice e))(hi:P.info? e=some i)(hz:i.zero=some z)(hsize:i.size=1)(hby:i.bytes=8)(hzs:z.cells.size=1)(v:Value)(n:Nat)(xs:List Value)(hown:w.ownsRow base e 1 v n xs)(u:Value)(m:Nat)(ys:List Value)(hown2:w.ownsRow TD e 1 u m ys)(h1:∀y∈ys,y.oneCell'=true)(hn:n≤1000)(hm:m≤1000)(hbase:base≤w.heap.size):∃v' w',(Builtin.append_ #[t,t] ty #[v,u]).run P w=.ok v' w'∧w'.ownsRow base e 1 v' (n+m) (xs++ys)∧w.grownBy w' v.ownBlock:=by
 rcases hown2.2 with⟨rfl,rfl⟩|⟨g,cap,cur,rfl,hbg,hg,hnc,hcm,hcs,htake⟩
 ·have hy:ys=[]:=bC (by simpa using hown2.1);subst hy;exact⟨v,w,vD w base t ty e i ht hi hsize v n xs hown,by rw[List.append_nil];exact hown,⟨rfl,rfl,rfl,ax _,fun _ _ _=>rfl⟩⟩
 ·obtain⟨v',w',hr,ho,hgr,_⟩:=run_append_own (P:=P) w base t ty e i z 1 8 ht hi hz hsize hby hzs aJ v n xs hown ⟨g,0,none⟩ m cap ys hown2.1 (fun j u hu=>hown2.cells (g:=g) rfl j u hu) h1 (by unfold maxLen;omega) aR hbase;exact⟨v',w',hr,ho,hgr⟩
end
theorem step_append{P:Program}{w:World}{ops:Array Oper}{rest:List Oper}{o:Oper}{a:Act}{Q:Exit→Act→World→Prop}(hgd:o.guard=none)(s x:Operand)(t u:TypeId)(ho:o.op=.call {callee:=.builtin .append,args:= #[s,x],argTypes:= #[t,u]}){v y v':Value}{w':World}(hs:a.eval s=v)(hx:a.eval x=y)(hr:(Builtin.append_ #[t,u] o.type #[v,y]).run P w=.ok v' w')(h:wpList P ops Q rest (a.put o.dst v') w'):wpList P ops Q (o::rest) a w:=wpList_plain hgd fun _ hK=>by
 unfold Oper.wp execOp;simp only[ho,resolve,invoke,builtin,Sem.run_bind,Sem.run_pure,Result.andThen_ok,List.map_toArray,List.map_cons,List.map_nil,hs,hx,hr];exact hK _ _ h
theorem TE{w:World}{base n:Nat}{e:TypeId}{g cap:Nat}{xs:List Value}(h:w.ownsRow base e 1 (.slice (some ⟨g,0,none⟩) n cap) n xs):∀j u,xs[j]? =some u→w.cell? ((⟨g,0,none⟩:Addr).add j)=some u:=fun j u hu=>h.cells (g:=g) rfl j u hu
theorem clone_any{w:World}{base:Nat}{v:Value}(L:List Nat)(h:w.ownsRow base 22 1 v L.length (ft L))(hl:L.length≤1000):Calls ah 268 #[v] w fun r w'=>(∃v',r=.returned v'∧w'.ownsRow w.heap.size 22 1 v' L.length (ft L))∧aW w w':=by
 obtain⟨i0,hi,hz0,hz1,hz2⟩:=info_parts xr;rcases aX h with⟨A,cap,rfl⟩;cases A with
 |none=>
  have hn:L=[]:=by
   rcases h.2 with⟨_,h⟩|⟨g,cap,cur,h,_⟩
   ·exact bC h
   ·cases h
  subst hn;have hc:cap=0:=by
   rcases h.2 with⟨h,_⟩|⟨g,cap,cur,h,_⟩
   ·cases h;rfl
   ·cases h
  subst hc;clear h;have hb:=aI w.heap.size w;have e1:∀W,(binOp .eql 329 au au).run ah W=.ok (.bool true) W:=fun _=>by kernel_rfl
  go_enter Tryz.func268,Tryz.ntmps268;go_wp2_with fail
  go_ret;exact⟨⟨au,rfl,bh _ _ _ _⟩,hb⟩
 |some ad=>
  obtain⟨g,rfl⟩:∃g,ad=⟨g,0,none⟩:=by
   rcases h.2 with⟨h,_⟩|⟨g,cap,cur,h,_⟩
   ·cases h
   ·cases h;exact⟨g,rfl⟩
  have qW:=ae (TE h);have hg:=(h.lt g rfl).2;clear h;have hE:(w.alloc (.cells #[] 22)).ownsRow w.heap.size 22 1 (.slice (some ⟨w.heap.size,0,none⟩) 0 0) 0 []:=⟨rfl,.inr ⟨w.heap.size,0,#[],rfl,ax _,heap_alloc_new w _,ax _,by decide,rfl,rfl⟩⟩;have HE:=ae hE;obtain⟨n,hn⟩:=bw L.length;rw[←hn]at hl⊢;have Hn:=ae hn;have hb:=boxed w (.cells #[] 22);have Hb:=ae hb;clear hE hn hb;have e1:∀W,(binOp .eql 329 (.slice (some ⟨g,0,none⟩) n cap) au).run ah W=.ok (.bool false) W:=fun _=>by kernel_rfl
  go_enter Tryz.func268,Tryz.ntmps268;go_wp2_with(at_builtin;refine wpList_append_own _ rfl _ _ 329 rfl w.heap.size 22 i0 (.int .u64 0) 1 8 Tryz.underlying329 hi hz0 hz1 hz2 rfl aJ _ 0 [] rfl HE.out ⟨g,0,none⟩ n cap (ft L) rfl (by rw[Hn.out];simp[ft]) (fun j u hu=>(World.cell?_alloc_lt w _ _ (by unfold Addr.add;split<;>simpa using hg)).trans (qW.out j u hu)) (fun x hx=>by obtain⟨y,_,rfl⟩:=List.mem_map.1 hx;rfl) (by unfold maxLen;omega) aR (by simp) ?_;intro v' w3 hown' hgrow3 hnil3;have YY:=ae hown';have hb3:=ae (Hb.out.grown hgrow3 (by simp) (fun q hq=>(HE.out.lt q hq).1));clear hown' hgrow3 hnil3)
  go_ret;refine⟨⟨v',rfl,?_⟩,hb3.out⟩;have:=YY.out;rwa [Nat.zero_add,lK]at this
def Rd(w:World)(b:Nat)(s:ByteArray)(f:Nat):Prop:=aH w b 145 #[.string s,.int .i64 f]
theorem Rd.lt{w:World}{b:Nat}{s:ByteArray}{f:Nat}(h:Rd w b s f):b<w.heap.size:=aH.lt h
theorem Rd.cells{w:World}{b:Nat}{s:ByteArray}{f:Nat}(h:Rd w b s f):w.cell? ⟨b,0,none⟩=some (.string s)∧w.cell? ⟨b,1,none⟩=some (.int .i64 f):=⟨h.cell 0,h.cell 1⟩
theorem Rd.free{w:World}{b:Nat}{s:ByteArray}{f:Nat}(h:Rd w b s f):w.frozen? ⟨b,0,none⟩=false∧w.frozen? ⟨b,1,none⟩=false:=⟨h.frozen 0,h.frozen 1⟩
theorem new_any(s:ByteArray)(w:World):Calls ah 95 #[.string s] w fun r w'=>r=.returned (.pointer (some ⟨w.heap.size,0,none⟩))∧Rd w' w.heap.size s 0∧aW w w':=by
 go_enter Tryz.func95,Tryz.ntmps95;go_wp2_with fail
 go_ret;exact⟨rfl,aH.new _ _ _,boxed _ _⟩
def sW(s:ByteArray)(f n:Nat):ByteArray:=if f=0∧n≤s.size then s.extract 0 n else lL
def oH(s:ByteArray)(f n:Nat):ByteArray:=if f=0∧n≤s.size then s.extract n s.size else s
def ov(s:ByteArray)(f n:Nat):Nat:=if f=0 then(if n≤s.size then 0 else 7)else f
theorem iy{w:World}{b:Nat}{s:ByteArray}{f:Nat}(h:Rd w b s f)(n:Nat)(hs:s.size≤4000000)(hn:n≤4000000):Calls ah 106 #[.pointer (some ⟨b,0,none⟩),.int .i64 n] w fun r w'=>r=.returned (.tuple #[.string (sW s f n),.bool (decide (f=0∧n≤s.size))])∧Rd w' b (oH s f n) (ov s f n)∧Keeps (fun k=>k=b) w w':=by
 obtain⟨c0,c1⟩:=h.cells;obtain⟨f0,f1⟩:=h.free;by_cases hf:f=0
 ·subst hf;by_cases hl:n≤s.size
  ·have e1:sW s 0 n=s.extract 0 n:=by unfold sW;rw[if_pos ⟨rfl,hl⟩]
   have e2:oH s 0 n=s.extract n s.size:=by unfold oH;rw[if_pos ⟨rfl,hl⟩]
   have e3:ov s 0 n=0:=by unfold ov;rw[if_pos rfl,if_pos hl]
   have e4:decide ((0:Nat)=0∧n≤s.size)=true:=by simp[hl]
   rw[e1,e2,e3,e4];have hset:=h.aM 0 (.string (s.extract n s.size));have hk:=(Keeps.refl (fun k=>k=b) w).setCell (p:=⟨b,0,none⟩) (.inl rfl) (.string (s.extract n s.size));have hl':¬s.size<n:=by omega
   clear e1 e2 e3 e4;obtain⟨TF,Hk⟩:=aL hset hk;clear hset hk h;go_enter Tryz.func106,Tryz.ntmps106;go_wp2_with fail
   go_ret2;exact⟨rfl,TF.out,Hk.out⟩
  ·have e1:sW s 0 n=lL:=by unfold sW;rw[if_neg aR]
   have e2:oH s 0 n=s:=by unfold oH;rw[if_neg aR]
   have e3:ov s 0 n=7:=by unfold ov;rw[if_pos rfl,if_neg hl]
   have e4:decide ((0:Nat)=0∧n≤s.size)=false:=by simp;omega
   rw[e1,e2,e3,e4];have hset:=h.aM 1 (.int .i64 7);have hk:=(Keeps.refl (fun k=>k=b) w).setCell (p:=⟨b,1,none⟩) (.inl rfl) (.int .i64 7);have hl':s.size<n:=by omega
   clear e1 e2 e3 e4;obtain⟨TF,Hk⟩:=aL hset hk;clear hset hk h;go_enter Tryz.func106,Tryz.ntmps106;go_wp2_with fail
   go_ret2;exact⟨rfl,TF.out,Hk.out⟩
 ·have e1:sW s f n=lL:=by unfold sW;rw[if_neg aR]
  have e2:oH s f n=s:=by unfold oH;rw[if_neg aR]
  have e3:ov s f n=f:=by unfold ov;rw[if_neg hf]
  have e4:decide (f=0∧n≤s.size)=false:=by simp;omega
  rw[e1,e2,e3,e4];have hf':¬(f:Int)=0:=by omega
  clear e1 e2 e3 e4;have H:=ae h;clear h;go_enter Tryz.func106,Tryz.ntmps106;go_wp2_with fail
  go_ret2;exact⟨rfl,H.out,Keeps.refl _ _⟩
theorem vT{k:IntKind}{a b:Int}(h:a=b):Ending.returned (.int k a)=Ending.returned (.int k b):=by rw[h]
def rK(l:List Nat):Nat:=l.foldl (fun x c=>x*256+c) 0
def TG(t:ByteArray):Nat:=rK (kn t)
theorem PL(l:List Nat)(c:Nat):rK (l++[c])=rK l*256+c:=by simp[rK]
theorem Y5:∀(l:List Nat),(∀c∈l,c<256)→rK l<256^l.length:=by
 intro l h;have:∀(l:List Nat)(x B:Nat),(∀c∈l,c<256)→x<B→l.foldl (fun x c=>x*256+c) x<B*256^l.length:=by
  intro l
  induction l with
  |nil=>intro x B _ h;simpa using h
  |cons c r ih=>
   intro x B hc h;have:=ih (x*256+c) (B*256) (fun y hy=>hc y (List.mem_cons_of_mem _ hy)) (by have:=hc c (List.mem_cons_self ..);omega);rw[List.foldl_cons,List.length_cons,Nat.pow_succ,Nat.mul_comm (256^r.length),←Nat.mul_assoc];exact this
 simpa[rK]using this l 0 1 h (by decide)
theorem rL(t:ByteArray)(k:Nat)(hk:k<t.size):rK ((kn t).take (k+1))=rK ((kn t).take k)*256+t.data[k].toNat:=by
 have h1:k<(kn t).length:=by rw[gX];exact hk
 rw[aC h1,PL];simp[kn]
theorem kq(t:ByteArray)(k:Nat)(hk:k≤t.size):rK ((kn t).take k)<256^k:=by
 have:=Y5 ((kn t).take k) (fun c hc=>YG t c (ah8 hc));rwa [List.length_take_of_le (by rw[gX];exact hk)]at this
theorem Y6(t:ByteArray):TG t<256^t.size:=by
 have:=kq t t.size (ax _);rwa [show(kn t).take t.size=kn t by rw[←gX,List.take_length]]at this
theorem or8(x c:Nat)(hx:x<2^56)(hc:c<256):bits .or .u64 ((x*256:Nat):Int) (c:Int)=((x*256+c:Nat):Int):=by
 show IntKind.u64.wrap ((BitVec.ofInt 64 ((x*256:Nat):Int)|||BitVec.ofInt 64 (c:Int)).toNat:Int)=_;rw[BitVec.toNat_or,ofInt_u64 _ aR,ofInt_u64 _ aR];have:x*256|||c=x*256+c:=by
  have:=Nat.shiftLeft_add_eq_or_of_lt (b:=c) (i:=8) aR x;rw[Nat.shiftLeft_eq]at this;exact this.symm
 rw[this,fl];omega
theorem o5(s:ByteArray)(f n:Nat):(sW s f n).size≤n:=by
 unfold sW;split
 ·rw[ByteArray.size_extract];omega
 ·show 0≤n;omega
def jN(s:ByteArray)(f n:Nat):Nat:=TG (sW s f n)
theorem lW(s:ByteArray)(f n:Nat):jN s f n<256^n:=ahQ (Y6 _) (ahJ aJ (o5 s f n))
theorem Rd.keep{w w':World}{b:Nat}{s:ByteArray}{f:Nat}{S:Nat→Prop}(h:Rd w b s f)(k:Keeps S w w')(hS:¬S b):Rd w' b s f:=aH.keep h k hS
theorem Rd.below{w w':World}{b:Nat}{s:ByteArray}{f:Nat}(h:Rd w b s f)(k:aW w w'):Rd w' b s f:=aH.below h k h.lt
theorem jz{S:Nat→Prop}{a w w':World}(h:Keeps S a w)(k:aW w w'):Keeps S a w':=h.trans (Keeps.of_below k fun _ h _=>h)
theorem PN{w:World}{b:Nat}{s:ByteArray}{f:Nat}(h:Rd w b s f)(hs:s.size≤4000000):Calls ah 133 #[.pointer (some ⟨b,0,none⟩),.int .i64 1] w fun r w'=>r=.returned (.int .u8 (jN s f 1:Int))∧Rd w' b (oH s f 1) (ov s f 1)∧Keeps (fun k=>k=b) w w':=by
 unfold jN;have ht:=o5 s f 1;have Ht:=ae (iy h 1 hs aR);have hconv:=fun w=>run_bytes_of_string (P:=ah) w 9 71 5 (sW s f 1) bq cT cD
 clear h;generalize sW s f 1=t at*;go_enter Tryz.func133,Tryz.ntmps133;go_wp2_with(go_at_call 106;refine Ht.out.mono ?_;rintro r w1⟨rfl,hR1,hK1⟩)
 have hcell:∀j(hj:j<t.size),((w1.alloc (Obj.cells (bytesRow t (grownCap w1 t.size 0 5)) 5 ((bytesRow t (grownCap w1 t.size 0 5)).size,(bytesRow t (grownCap w1 t.size 0 5)).size+1))).drew).cell? ⟨w1.heap.size,j,none⟩=some (.int .u8 ((t.data[j]'hj).toNat:Int)):=by
  intro j hj;rw[World.cell?_drew,World.cell?_alloc_mark];exact bytesRow_at t _ j hj
 have hB:aW w1 ((w1.alloc (Obj.cells (bytesRow t (grownCap w1 t.size 0 5)) 5 ((bytesRow t (grownCap w1 t.size 0 5)).size,(bytesRow t (grownCap w1 t.size 0 5)).size+1))).drew):=((aI _ _).alloc (ax _) _).drew;generalize hW:((w1.alloc (Obj.cells (bytesRow t (grownCap w1 t.size 0 5)) 5 ((bytesRow t (grownCap w1 t.size 0 5)).size,(bytesRow t (grownCap w1 t.size 0 5)).size+1))).drew)=W at hcell hB⊢;generalize grownCap w1 t.size 0 5=cap;have hR2:=hR1.below hB;have hK2:=jz hK1 hB;clear hW hconv Ht;obtain⟨nY,HR,HK⟩:=bz hcell hR2 hK2;clear hcell hB hR1 hK1 hR2 hK2;go_loopw [4,18] (fun v4 v18 wr=>∃k x:Nat,k≤t.size∧v4=.int .u8 x∧v18=.int .i64 k∧x=rK ((kn t).take k)∧wr=W) (fun _ v18 _=>t.size-(intOf v18).toNat)
 case atStart=>exact⟨0,0,bj _,rfl,rfl,rfl,rfl⟩
 case round=>
  obtain⟨k,x,hk,rfl,rfl,hx,rfl⟩:=hrel;by_cases hlt:k<t.size
  ·have hx0:=kq t k hk;have hp:256^k≤256^(1-1):=ahJ aJ aR;have hx1:x<256^(1-1):=by rw[hx];omega
   have hc:=nY.out k hlt;have hsucc:=rL t k hlt;rw[←hx]at hsucc;have hb:=(t.data[k]'hlt).toNat_lt;generalize(t.data[k]'hlt).toNat=c at hc hsucc hb;have hx2:x<2^56:=by simp at hx1;omega
   have hor:bits .or .u64 ((x:Int)*256) (c:Int)=((x*256+c:Nat):Int):=by
    have:=or8 x c hx2 hb;rwa [Int.natCast_mul]at this
   have hw1:IntKind.u64.wrap (x:Int)=(x:Int):=by rw[fl];omega
   have hw2:IntKind.u64.wrap ((x:Int)*256)=(x:Int)*256:=by rw[fl];omega
   have hx3:x*256+c<256:=by simp at hx1;omega
   obtain⟨Hx,Hs,Hx0,Hp⟩:=cU hx hsucc hx0 hp;have hx4:x*256+c<18446744073709551616:=by omega
   have hwk:IntKind.u8.wrap ((x*256+c:Nat):Int)=((x*256+c:Nat):Int):=by rw[IntKind.wrap_u8];omega
   generalize hy:x*256+c=y at*;have Hy:=ae hy;clear hx hsucc hx0 hp hx1 hx2 hx4 hy;have Hx3:=ae hx3;clear hx3;go_wp2_with fail
   go_roundw
   case rel=>exact⟨k+1,y,by omega,by first|rfl|go_num,by go_num,Hs.out.symm,(by first|rfl|trivial)⟩
   case measure=>simp[intOf];omega
  ·have hks:k=t.size:=by omega
   subst hks;have e:(kn t).take t.size=kn t:=by rw[←gX,List.take_length]
   rw[e]at hx;have Hx:=ae hx;clear hx e;go_wp2_with fail
   go_ret;exact⟨vT (by rw[Hx.out];rfl),HR.out,HK.out⟩
theorem Y7{w:World}{b:Nat}{s:ByteArray}{f:Nat}(h:Rd w b s f)(hs:s.size≤4000000):Calls ah 102 #[.pointer (some ⟨b,0,none⟩)] w fun r w'=>r=.returned (.int .u8 (jN s f 1:Int))∧Rd w' b (oH s f 1) (ov s f 1)∧Keeps (fun k=>k=b) w w':=by
 have Hn:=ae (PN h hs);clear h;go_enter Tryz.func102,Tryz.ntmps102;go_wp2_with(go_at_call 133;refine Hn.out.mono ?_;rintro r w1⟨rfl,hR,hK⟩)
 go_ret;exact⟨rfl,hR,hK⟩
theorem Jr{w:World}{b:Nat}{s:ByteArray}{f:Nat}(h:Rd w b s f)(hs:s.size≤4000000):Calls ah 131 #[.pointer (some ⟨b,0,none⟩),.int .i64 2] w fun r w'=>r=.returned (.int .u16 (jN s f 2:Int))∧Rd w' b (oH s f 2) (ov s f 2)∧Keeps (fun k=>k=b) w w':=by
 unfold jN;have ht:=o5 s f 2;have Ht:=ae (iy h 2 hs aR);have hconv:=fun w=>run_bytes_of_string (P:=ah) w 9 71 5 (sW s f 2) bq cT cD
 clear h;generalize sW s f 2=t at*;go_enter Tryz.func131,Tryz.ntmps131;go_wp2_with(go_at_call 106;refine Ht.out.mono ?_;rintro r w1⟨rfl,hR1,hK1⟩)
 have hcell:∀j(hj:j<t.size),((w1.alloc (Obj.cells (bytesRow t (grownCap w1 t.size 0 5)) 5 ((bytesRow t (grownCap w1 t.size 0 5)).size,(bytesRow t (grownCap w1 t.size 0 5)).size+1))).drew).cell? ⟨w1.heap.size,j,none⟩=some (.int .u8 ((t.data[j]'hj).toNat:Int)):=by
  intro j hj;rw[World.cell?_drew,World.cell?_alloc_mark];exact bytesRow_at t _ j hj
 have hB:aW w1 ((w1.alloc (Obj.cells (bytesRow t (grownCap w1 t.size 0 5)) 5 ((bytesRow t (grownCap w1 t.size 0 5)).size,(bytesRow t (grownCap w1 t.size 0 5)).size+1))).drew):=((aI _ _).alloc (ax _) _).drew;generalize hW:((w1.alloc (Obj.cells (bytesRow t (grownCap w1 t.size 0 5)) 5 ((bytesRow t (grownCap w1 t.size 0 5)).size,(bytesRow t (grownCap w1 t.size 0 5)).size+1))).drew)=W at hcell hB⊢;generalize grownCap w1 t.size 0 5=cap;have hR2:=hR1.below hB;have hK2:=jz hK1 hB;clear hW hconv Ht;obtain⟨nY,HR,HK⟩:=bz hcell hR2 hK2;clear hcell hB hR1 hK1 hR2 hK2;go_loopw [4,18] (fun v4 v18 wr=>∃k x:Nat,k≤t.size∧v4=.int .u16 x∧v18=.int .i64 k∧x=rK ((kn t).take k)∧wr=W) (fun _ v18 _=>t.size-(intOf v18).toNat)
 case atStart=>exact⟨0,0,bj _,rfl,rfl,rfl,rfl⟩
 case round=>
  obtain⟨k,x,hk,rfl,rfl,hx,rfl⟩:=hrel;by_cases hlt:k<t.size
  ·have hx0:=kq t k hk;have hp:256^k≤256^(2-1):=ahJ aJ aR;have hx1:x<256^(2-1):=by rw[hx];omega
   have hc:=nY.out k hlt;have hsucc:=rL t k hlt;rw[←hx]at hsucc;have hb:=(t.data[k]'hlt).toNat_lt;generalize(t.data[k]'hlt).toNat=c at hc hsucc hb;have hx2:x<2^56:=by simp at hx1;omega
   have hor:bits .or .u64 ((x:Int)*256) (c:Int)=((x*256+c:Nat):Int):=by
    have:=or8 x c hx2 hb;rwa [Int.natCast_mul]at this
   have hw1:IntKind.u64.wrap (x:Int)=(x:Int):=by rw[fl];omega
   have hw2:IntKind.u64.wrap ((x:Int)*256)=(x:Int)*256:=by rw[fl];omega
   have hx3:x*256+c<65536:=by simp at hx1;omega
   obtain⟨Hx,Hs,Hx0,Hp⟩:=cU hx hsucc hx0 hp;have hx4:x*256+c<18446744073709551616:=by omega
   have hwk:IntKind.u16.wrap ((x*256+c:Nat):Int)=((x*256+c:Nat):Int):=by rw[IntKind.wrap_u16];omega
   generalize hy:x*256+c=y at*;have Hy:=ae hy;clear hx hsucc hx0 hp hx1 hx2 hx4 hy;have Hx3:=ae hx3;clear hx3;go_wp2_with fail
   go_roundw
   case rel=>exact⟨k+1,y,by omega,by first|rfl|go_num,by go_num,Hs.out.symm,(by first|rfl|trivial)⟩
   case measure=>simp[intOf];omega
  ·have hks:k=t.size:=by omega
   subst hks;have e:(kn t).take t.size=kn t:=by rw[←gX,List.take_length]
   rw[e]at hx;have Hx:=ae hx;clear hx e;go_wp2_with fail
   go_ret;exact⟨vT (by rw[Hx.out];rfl),HR.out,HK.out⟩
theorem Fz{w:World}{b:Nat}{s:ByteArray}{f:Nat}(h:Rd w b s f)(hs:s.size≤4000000):Calls ah 99 #[.pointer (some ⟨b,0,none⟩)] w fun r w'=>r=.returned (.int .u16 (jN s f 2:Int))∧Rd w' b (oH s f 2) (ov s f 2)∧Keeps (fun k=>k=b) w w':=by
 have Hn:=ae (Jr h hs);clear h;go_enter Tryz.func99,Tryz.ntmps99;go_wp2_with(go_at_call 131;refine Hn.out.mono ?_;rintro r w1⟨rfl,hR,hK⟩)
 go_ret;exact⟨rfl,hR,hK⟩
theorem Js{w:World}{b:Nat}{s:ByteArray}{f:Nat}(h:Rd w b s f)(hs:s.size≤4000000):Calls ah 166 #[.pointer (some ⟨b,0,none⟩),.int .i64 4] w fun r w'=>r=.returned (.int .u32 (jN s f 4:Int))∧Rd w' b (oH s f 4) (ov s f 4)∧Keeps (fun k=>k=b) w w':=by
 unfold jN;have ht:=o5 s f 4;have Ht:=ae (iy h 4 hs aR);have hconv:=fun w=>run_bytes_of_string (P:=ah) w 9 71 5 (sW s f 4) bq cT cD
 clear h;generalize sW s f 4=t at*;go_enter Tryz.func166,Tryz.ntmps166;go_wp2_with(go_at_call 106;refine Ht.out.mono ?_;rintro r w1⟨rfl,hR1,hK1⟩)
 have hcell:∀j(hj:j<t.size),((w1.alloc (Obj.cells (bytesRow t (grownCap w1 t.size 0 5)) 5 ((bytesRow t (grownCap w1 t.size 0 5)).size,(bytesRow t (grownCap w1 t.size 0 5)).size+1))).drew).cell? ⟨w1.heap.size,j,none⟩=some (.int .u8 ((t.data[j]'hj).toNat:Int)):=by
  intro j hj;rw[World.cell?_drew,World.cell?_alloc_mark];exact bytesRow_at t _ j hj
 have hB:aW w1 ((w1.alloc (Obj.cells (bytesRow t (grownCap w1 t.size 0 5)) 5 ((bytesRow t (grownCap w1 t.size 0 5)).size,(bytesRow t (grownCap w1 t.size 0 5)).size+1))).drew):=((aI _ _).alloc (ax _) _).drew;generalize hW:((w1.alloc (Obj.cells (bytesRow t (grownCap w1 t.size 0 5)) 5 ((bytesRow t (grownCap w1 t.size 0 5)).size,(bytesRow t (grownCap w1 t.size 0 5)).size+1))).drew)=W at hcell hB⊢;generalize grownCap w1 t.size 0 5=cap;have hR2:=hR1.below hB;have hK2:=jz hK1 hB;clear hW hconv Ht;obtain⟨nY,HR,HK⟩:=bz hcell hR2 hK2;clear hcell hB hR1 hK1 hR2 hK2;go_loopw [4,18] (fun v4 v18 wr=>∃k x:Nat,k≤t.size∧v4=.int .u32 x∧v18=.int .i64 k∧x=rK ((kn t).take k)∧wr=W) (fun _ v18 _=>t.size-(intOf v18).toNat)
 case atStart=>exact⟨0,0,bj _,rfl,rfl,rfl,rfl⟩
 case round=>
  obtain⟨k,x,hk,rfl,rfl,hx,rfl⟩:=hrel;by_cases hlt:k<t.size
  ·have hx0:=kq t k hk;have hp:256^k≤256^(4-1):=ahJ aJ aR;have hx1:x<256^(4-1):=by rw[hx];omega
   have hc:=nY.out k hlt;have hsucc:=rL t k hlt;rw[←hx]at hsucc;have hb:=(t.data[k]'hlt).toNat_lt;generalize(t.data[k]'hlt).toNat=c at hc hsucc hb;have hx2:x<2^56:=by simp at hx1;omega
   have hor:bits .or .u64 ((x:Int)*256) (c:Int)=((x*256+c:Nat):Int):=by
    have:=or8 x c hx2 hb;rwa [Int.natCast_mul]at this
   have hw1:IntKind.u64.wrap (x:Int)=(x:Int):=by rw[fl];omega
   have hw2:IntKind.u64.wrap ((x:Int)*256)=(x:Int)*256:=by rw[fl];omega
   have hx3:x*256+c<4294967296:=by simp at hx1;omega
   obtain⟨Hx,Hs,Hx0,Hp⟩:=cU hx hsucc hx0 hp;have hx4:x*256+c<18446744073709551616:=by omega
   have hwk:IntKind.u32.wrap ((x*256+c:Nat):Int)=((x*256+c:Nat):Int):=by rw[IntKind.wrap_u32];omega
   generalize hy:x*256+c=y at*;have Hy:=ae hy;clear hx hsucc hx0 hp hx1 hx2 hx4 hy;have Hx3:=ae hx3;clear hx3;go_wp2_with fail
   go_roundw
   case rel=>exact⟨k+1,y,by omega,by first|rfl|go_num,by go_num,Hs.out.symm,(by first|rfl|trivial)⟩
   case measure=>simp[intOf];omega
  ·have hks:k=t.size:=by omega
   subst hks;have e:(kn t).take t.size=kn t:=by rw[←gX,List.take_length]
   rw[e]at hx;have Hx:=ae hx;clear hx e;go_wp2_with fail
   go_ret;exact⟨vT (by rw[Hx.out];rfl),HR.out,HK.out⟩
theorem TI{w:World}{b:Nat}{s:ByteArray}{f:Nat}(h:Rd w b s f)(hs:s.size≤4000000):Calls ah 132 #[.pointer (some ⟨b,0,none⟩)] w fun r w'=>r=.returned (.int .u32 (jN s f 4:Int))∧Rd w' b (oH s f 4) (ov s f 4)∧Keeps (fun k=>k=b) w w':=by
 have Hn:=ae (Js h hs);clear h;go_enter Tryz.func132,Tryz.ntmps132;go_wp2_with(go_at_call 166;refine Hn.out.mono ?_;rintro r w1⟨rfl,hR,hK⟩)
 go_ret;exact⟨rfl,hR,hK⟩
theorem Jt{w:World}{b:Nat}{s:ByteArray}{f:Nat}(h:Rd w b s f)(hs:s.size≤4000000):Calls ah 98 #[.pointer (some ⟨b,0,none⟩),.int .i64 8] w fun r w'=>r=.returned (.int .u64 (jN s f 8:Int))∧Rd w' b (oH s f 8) (ov s f 8)∧Keeps (fun k=>k=b) w w':=by
 unfold jN;have ht:=o5 s f 8;have Ht:=ae (iy h 8 hs aR);have hconv:=fun w=>run_bytes_of_string (P:=ah) w 9 71 5 (sW s f 8) bq cT cD
 clear h;generalize sW s f 8=t at*;go_enter Tryz.func98,Tryz.ntmps98;go_wp2_with(go_at_call 106;refine Ht.out.mono ?_;rintro r w1⟨rfl,hR1,hK1⟩)
 have hcell:∀j(hj:j<t.size),((w1.alloc (Obj.cells (bytesRow t (grownCap w1 t.size 0 5)) 5 ((bytesRow t (grownCap w1 t.size 0 5)).size,(bytesRow t (grownCap w1 t.size 0 5)).size+1))).drew).cell? ⟨w1.heap.size,j,none⟩=some (.int .u8 ((t.data[j]'hj).toNat:Int)):=by
  intro j hj;rw[World.cell?_drew,World.cell?_alloc_mark];exact bytesRow_at t _ j hj
 have hB:aW w1 ((w1.alloc (Obj.cells (bytesRow t (grownCap w1 t.size 0 5)) 5 ((bytesRow t (grownCap w1 t.size 0 5)).size,(bytesRow t (grownCap w1 t.size 0 5)).size+1))).drew):=((aI _ _).alloc (ax _) _).drew;generalize hW:((w1.alloc (Obj.cells (bytesRow t (grownCap w1 t.size 0 5)) 5 ((bytesRow t (grownCap w1 t.size 0 5)).size,(bytesRow t (grownCap w1 t.size 0 5)).size+1))).drew)=W at hcell hB⊢;generalize grownCap w1 t.size 0 5=cap;have hR2:=hR1.below hB;have hK2:=jz hK1 hB;clear hW hconv Ht;obtain⟨nY,HR,HK⟩:=bz hcell hR2 hK2;clear hcell hB hR1 hK1 hR2 hK2;go_loopw [4,18] (fun v4 v18 wr=>∃k x:Nat,k≤t.size∧v4=.int .u64 x∧v18=.int .i64 k∧x=rK ((kn t).take k)∧wr=W) (fun _ v18 _=>t.size-(intOf v18).toNat)
 case atStart=>exact⟨0,0,bj _,rfl,rfl,rfl,rfl⟩
 case round=>
  obtain⟨k,x,hk,rfl,rfl,hx,rfl⟩:=hrel;by_cases hlt:k<t.size
  ·have hx0:=kq t k hk;have hp:256^k≤256^(8-1):=ahJ aJ aR;have hx1:x<256^(8-1):=by rw[hx];omega
   have hc:=nY.out k hlt;have hsucc:=rL t k hlt;rw[←hx]at hsucc;have hb:=(t.data[k]'hlt).toNat_lt;generalize(t.data[k]'hlt).toNat=c at hc hsucc hb;have hx2:x<2^56:=by simp at hx1;omega
   have hor:bits .or .u64 ((x:Int)*256) (c:Int)=((x*256+c:Nat):Int):=by
    have:=or8 x c hx2 hb;rwa [Int.natCast_mul]at this
   have hw1:IntKind.u64.wrap (x:Int)=(x:Int):=by rw[fl];omega
   have hw2:IntKind.u64.wrap ((x:Int)*256)=(x:Int)*256:=by rw[fl];omega
   have hx3:x*256+c<18446744073709551616:=by simp at hx1;omega
   obtain⟨Hx,Hs,Hx0,Hp⟩:=cU hx hsucc hx0 hp;have hx4:x*256+c<18446744073709551616:=by omega
   have hwk:IntKind.u64.wrap ((x*256+c:Nat):Int)=((x*256+c:Nat):Int):=by rw[fl];omega
   generalize hy:x*256+c=y at*;have Hy:=ae hy;clear hx hsucc hx0 hp hx1 hx2 hx4 hy;have Hx3:=ae hx3;clear hx3;go_wp2_with fail
   go_roundw
   case rel=>exact⟨k+1,y,by omega,by first|rfl|go_num,by go_num,Hs.out.symm,(by first|rfl|trivial)⟩
   case measure=>simp[intOf];omega
  ·have hks:k=t.size:=by omega
   subst hks;have e:(kn t).take t.size=kn t:=by rw[←gX,List.take_length]
   rw[e]at hx;have Hx:=ae hx;clear hx e;go_wp2_with fail
   go_ret;exact⟨vT (by rw[Hx.out];rfl),HR.out,HK.out⟩
theorem TJ{w:World}{b:Nat}{s:ByteArray}{f:Nat}(h:Rd w b s f)(hs:s.size≤4000000):Calls ah 45 #[.pointer (some ⟨b,0,none⟩)] w fun r w'=>r=.returned (.int .u64 (jN s f 8:Int))∧Rd w' b (oH s f 8) (ov s f 8)∧Keeps (fun k=>k=b) w w':=by
 have Hn:=ae (Jt h hs);clear h;go_enter Tryz.func45,Tryz.ntmps45;go_wp2_with(go_at_call 98;refine Hn.out.mono ?_;rintro r w1⟨rfl,hR,hK⟩)
 go_ret;exact⟨rfl,hR,hK⟩
theorem PQ{w:World}{b:Nat}{s:ByteArray}{f:Nat}(h:Rd w b s f)(n:Nat)(hs:s.size≤4000000)(hn:n≤4000000):Calls ah 105 #[.pointer (some ⟨b,0,none⟩),.int .i64 n] w fun r w'=>r=.returned (.string (sW s f n))∧Rd w' b (oH s f n) (ov s f n)∧Keeps (fun k=>k=b) w w':=by
 have Hn:=ae (iy h n hs hn);clear h;go_enter Tryz.func105,Tryz.ntmps105;go_wp2_with(go_at_call 106;refine Hn.out.mono ?_;rintro r w1⟨rfl,hR,hK⟩)
 go_ret;exact⟨rfl,hR,hK⟩
theorem xy{w:World}{b:Nat}{s:ByteArray}{f:Nat}(h:Rd w b s f):Calls ah 130 #[.pointer (some ⟨b,0,none⟩)] w fun r w'=>r=.returned (.int .i64 f)∧w=w':=by
 obtain⟨c0,c1⟩:=h.cells;clear h;go_enter Tryz.func130,Tryz.ntmps130;go_wp2_with fail
 go_ret;exact⟨rfl,rfl⟩
theorem kf(s:ByteArray)(i j:Nat):(s.extract i j).size=min j s.size-i:=by rw[ByteArray.size_extract]
theorem ael{s:ByteArray}{k n:Nat}(h:k+n≤s.size):sW (s.extract k s.size) 0 n=s.extract k (k+n)∧oH (s.extract k s.size) 0 n=s.extract (k+n) s.size∧ov (s.extract k s.size) 0 n=0:=by
 have hs:n≤(s.extract k s.size).size:=by rw[kf];omega
 refine⟨?_,?_,?_⟩
 ·unfold sW;rw[if_pos ⟨rfl,hs⟩,ByteArray.extract_extract];congr 1;omega
 ·unfold oH;rw[if_pos ⟨rfl,hs⟩,ByteArray.extract_extract,kf];congr 1;omega
 ·unfold ov;rw[if_pos rfl,if_pos hs]
structure St(W:World)(r b:Nat)(s:ByteArray)(k:Nat)(Z:Array Value)(T:TypeId)(w:World):Prop where
 rd:Rd w b (s.extract k s.size) 0
 blk:aH w r T Z
 bel:aW W w
structure Sh(W:World)(r b:Nat)(s:ByteArray)(k:Nat)(Z:Array Value)(T:TypeId)(w:World):Prop where
 rd:∃s' f,Rd w b s' f∧s'.size≤4000000∧(f=7∨(f=0∧s'.size+k=s.size))
 blk:aH w r T Z
 bel:aW W w
section
variable{W w w':World}{r b k:Nat}{s:ByteArray}{Z:Array Value}{T:TypeId}
theorem St.step(h:St W r b s k Z T w)(hr:r≠b)(hB:W.heap.size≤b){n:Nat}(hk:k+n≤s.size)(h1:Rd w' b (oH (s.extract k s.size) 0 n) (ov (s.extract k s.size) 0 n))(hK:Keeps (fun k=>k=b) w w'):St W r b s (k+n) Z T w':=by
 obtain⟨_,e2,e3⟩:=ael hk;rw[e2,e3]at h1;exact⟨h1,h.blk.keep hK hr,h.bel.trans (hK.below (fun k hk=>by rw[hk];exact hB) h.bel.size)⟩
theorem Sh.step(h:Sh W r b s k Z T w)(hr:r≠b)(hB:W.heap.size≤b){n:Nat}{s':ByteArray}{f:Nat}(hs:s'.size≤4000000)(hf:f=7∨(f=0∧s'.size+k=s.size))(h1:Rd w' b (oH s' f n) (ov s' f n))(hK:Keeps (fun k=>k=b) w w'):Sh W r b s (k+n) Z T w':=by
 refine⟨⟨_,_,h1,?_,?_⟩,h.blk.keep hK hr,h.bel.trans (hK.below (fun k hk=>by rw[hk];exact hB) h.bel.size)⟩
 ·unfold oH;split
  ·rw[kf];omega
  ·exact hs
 ·rcases hf with rfl|⟨rfl,hf⟩
  ·exact Or.inl (by unfold ov;rw[if_neg aJ])
  ·by_cases hn:n≤s'.size
   ·refine Or.inr ⟨by unfold ov;rw[if_pos rfl,if_pos hn],?_⟩;unfold oH;rw[if_pos ⟨rfl,hn⟩,kf];omega
   ·exact Or.inl (by unfold ov;rw[if_pos rfl,if_neg hn])
end
def Pk.zero:Pk:=⟨⟨false,0,0⟩,⟨false,0,0⟩,0,0,lL⟩
def bt(s:ByteArray)(j:Nat):Nat:=(kn s).getD j 0
theorem bF{P:Program}{fn:Func}{tmps:Array Value}{w:World}{x y:Nat}{T:TypeId}{g:Nat}{V v2:Value}(hres:fn.results= #[.cell x T,.tmp y])(h1:tmps.getD x undef=.pointer (some ⟨g,0,none⟩))(h2:tmps.getD y undef=v2)(hl:(loadVar T ⟨g,0,none⟩).run P w=.ok V w):(results fn tmps).run P w=.ok (.tuple #[V,v2]) w:=by
 have h1':tmps[x]?.getD undef=.pointer (some ⟨g,0,none⟩):=by simpa using h1
 have h2':tmps[y]?.getD undef=v2:=by simpa using h2
 simp[results,hres,h1',h2',asAddr,hl]
def At(i:Int)(P:Prop):Prop:=0≤i↔P
structure S6(W:World)(r b pc:Nat)(s:ByteArray)(k:Nat)(Z:Array Value)(T:TypeId)(w:World):Prop where
 st:St W r b s k Z T w
 ptr:aH w pc 89 #[.pointer (some ⟨b,0,none⟩)]
structure H6(W:World)(r b pc:Nat)(s:ByteArray)(k:Nat)(Z:Array Value)(T:TypeId)(w:World):Prop where
 sh:Sh W r b s k Z T w
 ptr:aH w pc 89 #[.pointer (some ⟨b,0,none⟩)]
section
variable{W w w':World}{r b pc k:Nat}{s:ByteArray}{Z:Array Value}{T:TypeId}
theorem S6.below(h:S6 W r b pc s k Z T w)(hb:aW w w'):S6 W r b pc s k Z T w':=⟨⟨h.st.rd.below hb,aH.below h.st.blk hb h.st.blk.lt,after h.st.bel hb⟩,aH.below h.ptr hb h.ptr.lt⟩
theorem H6.below(h:H6 W r b pc s k Z T w)(hb:aW w w'):H6 W r b pc s k Z T w':=by
 obtain⟨⟨⟨s',f,h0,hs,hf⟩,hB,hW⟩,hp⟩:=h;exact⟨⟨⟨s',f,h0.below hb,hs,hf⟩,aH.below hB hb hB.lt,after hW hb⟩,aH.below hp hb hp.lt⟩
theorem S6.drew(h:S6 W r b pc s k Z T w):S6 W r b pc s k Z T w.drew:=⟨⟨h.st.rd,h.st.blk,h.st.bel.drew⟩,h.ptr⟩
theorem H6.drew(h:H6 W r b pc s k Z T w):H6 W r b pc s k Z T w.drew:=⟨⟨h.sh.rd,h.sh.blk,h.sh.bel.drew⟩,h.ptr⟩
theorem S6.cell(h:S6 W r b pc s k Z T w):w.cell? ⟨pc,0,none⟩=some (.pointer (some ⟨b,0,none⟩)):=h.ptr.cell 0
theorem H6.cell(h:H6 W r b pc s k Z T w):w.cell? ⟨pc,0,none⟩=some (.pointer (some ⟨b,0,none⟩)):=h.ptr.cell 0
end
theorem pU{w:World}{g:Nat}{v0 v1 v2:Value}(h:aH w g 52 #[v0,v1,v2]):(loadVar 52 ⟨g,0,none⟩).run ah w=.ok (.agg #[v0,v1,v2]) w:=by
 have c0:=h.cell 0;have c1:=h.cell 1;have c2:=h.cell 2;simp at c0 c1 c2;simp[loadVar,go_sem,c0,c1,c2]
theorem fS{P:Program}{fn:Func}{tmps:Array Value}{w:World}{x:Nat}{T:TypeId}{g:Nat}{V:Value}(hres:fn.results= #[.cell x T])(h1:tmps.getD x undef=.pointer (some ⟨g,0,none⟩))(hl:(loadVar T ⟨g,0,none⟩).run P w=.ok V w):(results fn tmps).run P w=.ok V w:=by
 have h1':tmps[x]?.getD undef=.pointer (some ⟨g,0,none⟩):=by simpa using h1
 simp[results,hres,h1',asAddr,hl]
theorem S6.far{W w:World}{r b pc k:Nat}{s:ByteArray}{Z:Array Value}{T:TypeId}(h:S6 W r b pc s k Z T w){g:Nat}(h1:b≠g)(h2:r≠g)(h3:pc≠g)(h4:W.heap.size≤g)(i:Nat)(u:Value):S6 W r b pc s k Z T (w.setCell ⟨g,i,none⟩ u):=⟨⟨aH.far h.st.rd (p:=⟨g,i,none⟩) h1 u,h.st.blk.far (p:=⟨g,i,none⟩) h2 u,h.st.bel.setCell (p:=⟨g,i,none⟩) h4 u⟩,h.ptr.far (p:=⟨g,i,none⟩) h3 u⟩
theorem H6.far{W w:World}{r b pc k:Nat}{s:ByteArray}{Z:Array Value}{T:TypeId}(h:H6 W r b pc s k Z T w){g:Nat}(h1:b≠g)(h2:r≠g)(h3:pc≠g)(h4:W.heap.size≤g)(i:Nat)(u:Value):H6 W r b pc s k Z T (w.setCell ⟨g,i,none⟩ u):=by
 obtain⟨⟨⟨s',f,h0,hs,hf⟩,hB,hW⟩,hp⟩:=h;exact⟨⟨⟨s',f,aH.far h0 (p:=⟨g,i,none⟩) h1 u,hs,hf⟩,hB.far (p:=⟨g,i,none⟩) h2 u,hW.setCell (p:=⟨g,i,none⟩) h4 u⟩,hp.far (p:=⟨g,i,none⟩) h3 u⟩
theorem ab9{fn:Func}{a:Act}{W w:World}{g x y:Nat}{v0 v1 v2 u:Value}(hres:fn.results= #[.cell x 52,.tmp y])(hB:aH w g 52 #[v0,v1,v2])(hb:aW W w)(h1:a.tmps.getD x undef=.pointer (some ⟨g,0,none⟩))(h2:a.tmps.getD y undef=u)(hd:a.defers=[]):bodyPost ah fn (Got (.tuple #[.agg #[v0,v1,v2],u]) W) .ret a w:=bodyPost_ret (bF hres h1 h2 (pU hB)) hd ⟨rfl,hb⟩
theorem three{W w:World}{g:Nat}{z0 z1 z2 v0 v1 v2:Value}(hB:aH w g 52 #[z0,z1,z2])(hb:aW W w)(hg:W.heap.size≤g):aH (((w.setCell ⟨g,0,none⟩ v0).setCell ⟨g,1,none⟩ v1).setCell ⟨g,2,none⟩ v2) g 52 #[v0,v1,v2]∧aW W (((w.setCell ⟨g,0,none⟩ v0).setCell ⟨g,1,none⟩ v1).setCell ⟨g,2,none⟩ v2):=by
 have s0:aH (w.setCell ⟨g,0,none⟩ v0) g 52 #[v0,z1,z2]:=hB.aM 0 v0;have s1:aH ((w.setCell ⟨g,0,none⟩ v0).setCell ⟨g,1,none⟩ v1) g 52 #[v0,v1,z2]:=s0.aM 1 v1;have s2:aH (((w.setCell ⟨g,0,none⟩ v0).setCell ⟨g,1,none⟩ v1).setCell ⟨g,2,none⟩ v2) g 52 #[v0,v1,v2]:=s1.aM 2 v2;exact⟨s2,((hb.setCell (p:=⟨g,0,none⟩) hg v0).setCell (p:=⟨g,1,none⟩) hg v1).setCell (p:=⟨g,2,none⟩) hg v2⟩
theorem nB{fn:Func}{a:Act}{W w:World}{g x y:Nat}{z0 z1 z2 v0 v1 v2 u:Value}(hres:fn.results= #[.cell x 52,.tmp y])(hB:aH w g 52 #[z0,z1,z2])(hb:aW W w)(hg:W.heap.size≤g)(h1:a.tmps.getD x undef=.pointer (some ⟨g,0,none⟩))(h2:a.tmps.getD y undef=u)(hd:a.defers=[]):bodyPost ah fn (Got (.tuple #[.agg #[v0,v1,v2],u]) W) .ret a (((w.setCell ⟨g,0,none⟩ v0).setCell ⟨g,1,none⟩ v1).setCell ⟨g,2,none⟩ v2):=ab9 hres (three hB hb hg).1 (three hB hb hg).2 h1 h2 hd
theorem aem{h x:Nat}(hh:h<281474976710656)(hx:x<65536):bits .or .u64 ((h:Int)*65536) (x:Int)=((h*65536+x:Nat):Int):=by
 have e:=u64_or_nat (h*65536) x aR aR;rw[show(h:Int)*65536=((h*65536:Nat):Int) by omega,e];have:=Nat.shiftLeft_add_eq_or_of_lt (i:=16) (b:=x) aR h;rw[Nat.shiftLeft_eq]at this;rw[show(65536:Nat)=2^16 from rfl,←this]
theorem uM(l:List Nat)(x:Nat):eN (l++[x])=eN l*65536+x:=by unfold eN;rw[List.foldl_append];rfl
theorem rM{l:List Nat}(h:∀x∈l,x<65536)(hl:l.length≤3):eN l<281474976710656:=by
 have:=tr l 0 1 h aJ;have h2:65536^l.length≤65536^3:=ahJ aJ hl;unfold eN;omega
theorem FA{A:List Nat}{k:Nat}(hk:k<A.length)(hA:∀x∈A,x<65536):(if k<4 then eN ((A.take (k+1)).take 4)=eN ((A.take k).take 4)*65536+A.getD k 0∧eN ((A.take (k+1)).drop 4)=eN ((A.take k).drop 4)else eN ((A.take (k+1)).take 4)=eN ((A.take k).take 4)∧(k<8→eN ((A.take (k+1)).drop 4)=eN ((A.take k).drop 4)*65536+A.getD k 0))∧(k<4→eN ((A.take k).take 4)<281474976710656)∧(k<8→eN ((A.take k).drop 4)<281474976710656):=by
 have hs:A.take (k+1)=A.take k++[A.getD k 0]:=by
  rw[aC hk,aE,af hk];rfl
 have hkl:(A.take k).length=k:=by rw[ze];omega
 refine⟨?_,fun h=>rM (nw (nw hA)) (by rw[ze,hkl];omega),fun h=>rM (vQ (nw hA)) (by rw[zd,hkl];omega)⟩;split
 ·next h=>
  rw[hs,aN (l:=A.take k) aR,aN (by rw[aj,hkl];simp;omega),uM];refine⟨rfl,?_⟩;rw[EE (by rw[aj,hkl];simp;omega),EE aR]
 ·next h=>
  rw[hs,List.take_append_of_le_length aR,List.drop_append_of_le_length aR,uM];exact⟨rfl,fun _=>rfl⟩
def aca(o:Option Ad):Value:=match o with
 |none=>.tuple #[.agg #[.bool false,.int .u64 0,.int .u64 0],.bool false]
 |some a=>.tuple #[.agg a.cells,.bool true]
theorem PR{w:World}{bf bb:Nat}{vf vb:Value}(f b:List Nat)(gap:Bool)(hof:w.ownsRow bf 22 1 vf f.length (ft f))(hob:w.ownsRow bb 22 1 vb b.length (ft b))(hf:f.length≤9)(hb9:b.length≤9)(hfx:∀x∈f,x<65536)(hbx:∀x∈b,x<65536):Calls ah 258 #[vf,vb,.bool gap] w (Got (aca (nu f b gap)) w):=by
 obtain⟨i0,hi,hz0,hz1,hz2⟩:=info_parts xr;obtain⟨Af,aht,rfl⟩:=aX hof;obtain⟨Ab,agf,rfl⟩:=aX hob;have hB0:=aH.new w 52 #[.bool false,.int .u64 0,.int .u64 0];have hb0:=boxed w (.cells #[.bool false,.int .u64 0,.int .u64 0] 52);obtain⟨WL,hWL⟩:=bw (nu f b gap);have zw:=hWL;unfold nu at zw;rw[←hWL];have HFL:Hid (f.length=f.length):=ae rfl;obtain⟨F,hF⟩:=bw f.length;obtain⟨G,hG⟩:=bw b.length;rw[←hF,←hG]at zw;rw[←hF]at hof hf;rw[←hG]at hob hb9;rw[←hF,←hG];obtain⟨Hof,Hob,HF,HG⟩:=cU hof hob hF hG;clear hof hob hWL hF hG HFL;by_cases hbad:(gap=false∧F+G≠8)∨(gap=true∧7<F+G)
 ·rw[if_pos hbad]at zw;rw[zw];clear zw;show Calls _ _ _ w (Got (.tuple #[.agg #[.bool false,.int .u64 0,.int .u64 0],.bool false]) w);cases gap with
  |false=>
   have hne:¬F+G=8:=by rcases hbad with⟨_,h⟩|⟨h,_⟩<;>simp_all
   have h1:((F:Int)+(G:Int) !=8)=true:=by simp;omega
   have h2:((F:Int)+(G:Int)==8)=false:=by simp;omega
   clear hbad hne;go_enter Tryz.func258,Tryz.ntmps258;go_wp2_with fail
   exact bodyPost_ret (bF rfl rfl rfl (pU (aH.new _ _ _))) rfl ⟨rfl,boxed _ _⟩
  |true=>
   have hne:7<F+G:=by rcases hbad with⟨h,_⟩|⟨_,h⟩<;>simp_all
   have h1:(7:Int)<(F:Int)+(G:Int):=by omega
   clear hbad hne;go_enter Tryz.func258,Tryz.ntmps258;go_wp2_with fail
   exact bodyPost_ret (bF rfl rfl rfl (pU (aH.new _ _ _))) rfl ⟨rfl,boxed _ _⟩
 ·rw[if_neg hbad]at zw;have hFG:F+G≤8:=by cases gap<;>simp at hbad<;>omega
  have h1:gap=false→((F:Int)+(G:Int) !=8)=false:=fun h=>by subst h;simp at hbad;simp;omega
  have h2:gap=true→¬(7:Int)<(F:Int)+(G:Int):=fun h=>by subst h;simp at hbad;omega
  obtain⟨K,hK⟩:=bw (8-(F+G));have hall:∃A:List Nat,A=f++aS K 0++b∧A.length=8∧(∀x∈A,x<65536)∧ft A=ft f++aS K (.int .u64 0)++ft b:=by
   refine⟨_,rfl,?_,?_,?_⟩
   ·rw[aj,aj,lM,←HF.out,←HG.out];omega
   ·intro x hx;rcases List.mem_append.1 hx with hx|hx
    ·rcases List.mem_append.1 hx with hx|hx
     ·exact hfx x hx
     ·rw[(List.mem_replicate.1 hx).2];decide
    ·exact hbx x hx
   ·simp[ft]
  rw[←hK]at zw;obtain⟨ALL,hA,hA8,hAx,hAc⟩:=hall;rw[←hA]at zw;rw[zw];show Calls _ _ _ w (Got (.tuple #[.agg #[.bool true,.int .u64 (eN (ALL.take 4):Int),.int .u64 (eN (ALL.drop 4):Int)],.bool true]) w);have eK:(8:Int)-((F:Int)+(G:Int))=(K:Int):=by omega
  obtain⟨HAc,HA8,HAx,HK⟩:=cU hAc hA8 hAx hK;have hz3:(Value.int IntKind.u64 0).cells= #[.int .u64 0]:=rfl;have HZ3:=ae hz3;clear zw hA hA8 hAx hAc hK hbad hz3;have hclone:=fun o=>clone_any (w:=w.alloc o) f (by rw[←HF.out];exact Hof.out.alloc o) (by rw[←HF.out];omega)
  rw[←HF.out]at hclone;have HCl:=ae hclone;clear hclone;obtain⟨v0,hv0⟩:=bw (w.alloc (.cells #[.bool false,.int .u64 0,.int .u64 0] 52));rw[←hv0]at hB0 hb0;have hsz0:v0.heap.size=w.heap.size+1:=by rw[hv0];simp
  have HCl:=ae (HCl.out (.cells #[.bool false,.int .u64 0,.int .u64 0] 52));rw[←hv0]at HCl;obtain⟨HB0,Hb0,Hv0⟩:=bz hB0 hb0 hv0;clear hB0 hb0 hv0;cases gap
  all_goals
   first
    |(have h3:=h1 rfl)
    |(have h3:=h2 rfl)
   clear h1 h2;go_enter Tryz.func258,Tryz.ntmps258;go_wp2_with(go_at_call 268;fail)
   rw[←Hv0.out];refine HCl.out.mono ?_;rintro r w1⟨⟨v1,rfl,ho1⟩,hb1⟩;obtain⟨Ho1,HB1⟩:=aL ho1 (HB0.out.below hb1 HB0.out.lt);have Hb1:=bg Hb0 hb1;have hsz1:w.heap.size+1≤w1.heap.size:=by have:=hb1.size;omega
   clear ho1 hb1;go_upto_region 5 with(first
    |(at_builtin;obtain⟨v2,w2,hr2,ho2,hg2⟩:=vC (P:=ah) w1 v0.heap.size 329 3 329 22 i0 (.int .u64 0) Tryz.underlying329 Tryz.underlying3 hi hz0 hz1 hz2 HZ3.out rfl v1 F (ft f) Ho1.out K aR aR aR;refine step_append rfl _ _ _ _ rfl rfl rfl hr2 ?_;have HB2:=ae (HB1.out.grown hg2 (fun e=>by have:=(Ho1.out.lt _ e.symm).1;omega));have Hb2:=ae (Hb1.out.grown hg2 aR (fun q hq=>by have:=(Ho1.out.lt q hq).1;omega));have hsz2:w.heap.size+1≤w2.heap.size:=aw hsz1 hg2.size;have Ho2:=ae ho2;clear hr2 ho2 hg2)
    |(at_builtin;obtain⟨v3,w3,hr3,ho3,hg3⟩:=xx (P:=ah) w2 v0.heap.size bb 329 329 22 i0 (.int .u64 0) Tryz.underlying329 hi hz0 hz1 hz2 rfl v2 (F+K) _ Ho2.out (.slice Ab G agf) G (ft b) (own_below Hob.out Hb2.out) (fun x hx=>by obtain⟨y,_,rfl⟩:=List.mem_map.1 hx;rfl) aR aR aR;refine step_append rfl _ _ _ _ rfl rfl rfl hr3 ?_;have HB3:=ae (HB2.out.grown hg3 (fun e=>by have:=(Ho2.out.lt _ e.symm).1;omega));have Hb3:=ae (Hb2.out.grown hg3 aR (fun q hq=>by have:=(Ho2.out.lt q hq).1;omega));have hsz3:w.heap.size+1≤w3.heap.size:=aw hsz2 hg3.size;have YY:=ae ho3;clear hr3 ho3 hg3))
   have hrow:w3.ownsRow v0.heap.size 22 1 v3 (7+1) (ft ALL):=by
    have h:=YY.out;rw[show F+K+G=7+1 by omega]at h;rw[HAc.out];exact h
   obtain⟨ga,cap,rfl⟩:=Fh hrow;have hga:=hrow.lt ga rfl;have c0:=HB3.out.cell 0;have f0:=HB3.out.frozen 0;simp at c0;have zr:=ae hrow;clear hrow;go_wp2_with fail
   have hB4:aH (w3.setCell ⟨w.heap.size,0,none⟩ (.bool true)) w.heap.size 52 #[.bool true,.int .u64 0,.int .u64 0]:=HB3.out.aM 0 _;have hb4:=Hb3.out.setCell (p:=⟨w.heap.size,0,none⟩) (ax _) (.bool true);have hr4:∀j(hj:j<8),(w3.setCell ⟨w.heap.size,0,none⟩ (.bool true)).cell? ⟨ga,j,none⟩=some (.int .u64 (ALL.getD j 0:Int)):=by
    intro j hj;rw[cell_far (by show w.heap.size≠ga;omega),zr.out.cellAt (g:=ga) (cap:=cap) j aR];unfold ft;have hjl:j<ALL.length:=by have:=HA8.out;omega
    rw[bO,af hjl,aE,af hjl];rfl
   generalize w3.setCell ⟨w.heap.size,0,none⟩ (.bool true)=w4 at hB4 hb4 hr4⊢;obtain⟨HB4,Hb4,Hr4⟩:=bz hB4 hb4 hr4;clear hB4 hb4 hr4 c0 f0;go_loopw [41] (fun v41 wr=>∃k:Nat,k≤8∧v41=.int .i64 k∧ag (aH wr w.heap.size 52 #[.bool true,.int .u64 (eN ((ALL.take k).take 4):Int),.int .u64 (eN ((ALL.take k).drop 4):Int)])∧ag (∀j(hj:j<8),wr.cell? ⟨ga,j,none⟩=some (.int .u64 (ALL.getD j 0:Int)))∧ag (aW w wr)) (fun v41 _=>8-(intOf v41).toNat)
   case atStart=>exact⟨0,by omega,rfl,HB4,Hr4,Hb4⟩
   case round=>
    obtain⟨k,hk,rfl,hB,hr,hb⟩:=hrel;by_cases hlt:k<8
    ·have hkl:k<ALL.length:=by have:=HA8.out;omega
     have cx:=hr.out k hlt;have hX:ALL.getD k 0<65536:=by
      rw[aE,af hkl];exact HAx.out _ (aZ hkl)
     have a1:=hB.out.cell 1;have a2:=hB.out.cell 2;have fr:=fun i=>hB.out.frozen i
     simp at a1 a2;have hfold:=FA (A:=ALL) hkl HAx.out;generalize ALL.getD k 0=X at cx hX hfold;obtain⟨hnx,hh,hl⟩:=hfold;obtain⟨Ai,Hc⟩:=aL hnx hr.out;have hr':=fun(u:Value)(i:Nat)j(hj:j<8)=>(cell_far (w:=wr) (a:=⟨w.heap.size,i,none⟩) (c:=⟨ga,j,none⟩) (u:=u) (by show w.heap.size≠ga;omega)).trans (hr.out j hj)
     have Hr':=ae hr';clear hnx hr';obtain⟨H0,hH0⟩:=bw (eN ((ALL.take k).take 4));obtain⟨L0,hL0⟩:=bw (eN ((ALL.take k).drop 4));rw[←hH0]at hh a1;rw[←hL0]at hl a2;obtain⟨HH0,HL0⟩:=aL hH0 hL0;clear hH0 hL0;by_cases h4:k<4
     ·have hb48:=hh h4;have ho:=aem hb48 hX;have hw:IntKind.u64.wrap ((H0:Int)*65536)=(H0:Int)*65536:=by rw[fl];omega
      have h4':(k:Int)<4:=by omega
      clear hh hl;go_wp2_with fail
      go_roundw
      case rel=>
       have hs:=hB.out.aM 1 (.int .u64 ((H0*65536+X:Nat):Int));have hn:=Ai.out;rw[if_pos h4,←HH0.out]at hn;exact⟨k+1,by omega,by go_num,ae (by rw[hn.1,hn.2];exact hs),ae (Hr'.out _ 1),ae (hb.out.setCell (p:=⟨w.heap.size,1,none⟩) (ax _) _)⟩
      case measure=>simp[intOf];omega
     ·have hb48:=hl hlt;have ho:=aem hb48 hX;have hw:IntKind.u64.wrap ((L0:Int)*65536)=(L0:Int)*65536:=by rw[fl];omega
      have h4':¬(k:Int)<4:=by omega
      clear hh hl;go_wp2_with fail
      go_roundw
      case rel=>
       have hs:=hB.out.aM 2 (.int .u64 ((L0*65536+X:Nat):Int));have hn:=Ai.out;rw[if_neg h4,←HL0.out]at hn;exact⟨k+1,by omega,by go_num,ae (by rw[hn.1,hn.2 hlt];exact hs),ae (Hr'.out _ 2),ae (hb.out.setCell (p:=⟨w.heap.size,2,none⟩) (ax _) _)⟩
      case measure=>simp[intOf];omega
    ·obtain rfl:k=8:=by omega
     have ox:=hB.out;rw[show ALL.take 8=ALL from aN (by have:=HA8.out;omega)]at ox;have c0:=ox.cell 0;have c1:=ox.cell 1;have c2:=ox.cell 2;simp at c0 c1 c2;have fr:=fun i=>ox.frozen i
     have Yc:=ae ox;clear ox;go_wp2_with fail
     exact nB (g:=w.heap.size) (x:=6) (y:=7) rfl Yc.out hb.out (ax _) rfl rfl rfl
def Ju(a:Ad)(k:Nat):Nat:=if k<4 then a.hi else a.lo
theorem piece_at(a:Ad)(k:Nat)(hk:k<8):(fP a).getD k 0=Ju a k/2^(48-16*(k%4))%65536:=by
 unfold Ju fP;rcases(show k=0∨k=1∨k=2∨k=3∨k=4∨k=5∨k=6∨k=7 by omega)with rfl|rfl|rfl|rfl|rfl|rfl|rfl|rfl<;>simp
theorem agh(k:Nat)(hk:k<8):bits .and .i64 (k:Int) 3=((k%4:Nat):Int):=by
 rcases(show k=0∨k=1∨k=2∨k=3∨k=4∨k=5∨k=6∨k=7 by omega)with rfl|rfl|rfl|rfl|rfl|rfl|rfl|rfl<;>kernel_rfl
def qp(K:IntKind)(L:List Nat)(k:Nat):Array Value:=((List.range 8).map fun j=>Value.int K (if j<k then(L.getD j 0:Int)else 0)).toArray
theorem PS(K:IntKind)(L:List Nat):qp K L 0=Array.replicate 8 (.int K 0):=by
 unfold qp;apply Array.ext
 ·simp
 ·intro i h1 h2;simp
theorem TK(K:IntKind)(L:List Nat)(k:Nat)(hk:k<8):(qp K L k).setIfInBounds k (.int K (L.getD k 0:Int))=qp K L (k+1):=by
 unfold qp;apply Array.ext
 ·simp
 ·intro i h1 h2;simp only[Array.size_setIfInBounds,abh,List.length_map,List.length_range]at h1;rw[Array.getElem_setIfInBounds (by simpa using h1)];simp only[List.getElem_toArray,List.getElem_map,List.getElem_range];by_cases h:k=i
  ·subst h;rw[if_pos rfl,if_pos aR]
  ·rw[if_neg h];by_cases h3:i<k
   ·rw[if_pos h3,if_pos aR]
   ·rw[if_neg h3,if_neg aR]
theorem CH(K:IntKind)(L:List Nat)(k j:Nat)(hj:j<8):(qp K L k)[j]? =some (.int K (if j<k then(L.getD j 0:Int)else 0)):=by
 unfold qp;rw[Array.getElem?_eq_getElem (by simpa using hj)];simp
theorem xA(K:IntKind)(L:List Nat):qp K L 8= #[.int K (L.getD 0 0:Int),.int K (L.getD 1 0:Int),.int K (L.getD 2 0:Int),.int K (L.getD 3 0:Int),.int K (L.getD 4 0:Int),.int K (L.getD 5 0:Int),.int K (L.getD 6 0:Int),.int K (L.getD 7 0:Int)]:=rfl
theorem Jv{w:World}{g:Nat}{v0 v1 v2 v3 v4 v5 v6 v7:Value}(h:aH w g 241 #[v0,v1,v2,v3,v4,v5,v6,v7]):(loadVar 241 ⟨g,0,none⟩).run ah w=.ok (.agg #[v0,v1,v2,v3,v4,v5,v6,v7]) w:=by
 have c0:=h.cell 0;have c1:=h.cell 1;have c2:=h.cell 2;have c3:=h.cell 3;have c4:=h.cell 4;have c5:=h.cell 5;have c6:=h.cell 6;have c7:=h.cell 7;simp at c0 c1 c2 c3 c4 c5 c6 c7;simp[loadVar,go_sem,c0,c1,c2,c3,c4,c5,c6,c7]
theorem PT{fn:Func}{a:Act}{W w:World}{g x:Nat}{z0 z1 z2 z3 z4 z5 z6 z7 v0 v1 v2 v3 v4 v5 v6 v7:Value}(hres:fn.results= #[.cell x 241])(hB:aH w g 241 #[z0,z1,z2,z3,z4,z5,z6,z7])(hb:aW W w)(hg:W.heap.size≤g)(h1:a.tmps.getD x undef=.pointer (some ⟨g,0,none⟩))(hd:a.defers=[]):bodyPost ah fn (Got (.agg #[v0,v1,v2,v3,v4,v5,v6,v7]) W) .ret a ((((((((w.setCell ⟨g,0,none⟩ v0).setCell ⟨g,1,none⟩ v1).setCell ⟨g,2,none⟩ v2).setCell ⟨g,3,none⟩ v3).setCell ⟨g,4,none⟩ v4).setCell ⟨g,5,none⟩ v5).setCell ⟨g,6,none⟩ v6).setCell ⟨g,7,none⟩ v7):=by
 have s0:aH (w.setCell ⟨g,0,none⟩ v0) g 241 #[v0,z1,z2,z3,z4,z5,z6,z7]:=hB.aM 0 v0;have s1:aH ((w.setCell ⟨g,0,none⟩ v0).setCell ⟨g,1,none⟩ v1) g 241 #[v0,v1,z2,z3,z4,z5,z6,z7]:=s0.aM 1 v1;have s2:aH (((w.setCell ⟨g,0,none⟩ v0).setCell ⟨g,1,none⟩ v1).setCell ⟨g,2,none⟩ v2) g 241 #[v0,v1,v2,z3,z4,z5,z6,z7]:=s1.aM 2 v2;have s3:aH ((((w.setCell ⟨g,0,none⟩ v0).setCell ⟨g,1,none⟩ v1).setCell ⟨g,2,none⟩ v2).setCell ⟨g,3,none⟩ v3) g 241 #[v0,v1,v2,v3,z4,z5,z6,z7]:=s2.aM 3 v3;have s4:aH (((((w.setCell ⟨g,0,none⟩ v0).setCell ⟨g,1,none⟩ v1).setCell ⟨g,2,none⟩ v2).setCell ⟨g,3,none⟩ v3).setCell ⟨g,4,none⟩ v4) g 241 #[v0,v1,v2,v3,v4,z5,z6,z7]:=s3.aM 4 v4;have s5:aH ((((((w.setCell ⟨g,0,none⟩ v0).setCell ⟨g,1,none⟩ v1).setCell ⟨g,2,none⟩ v2).setCell ⟨g,3,none⟩ v3).setCell ⟨g,4,none⟩ v4).setCell ⟨g,5,none⟩ v5) g 241 #[v0,v1,v2,v3,v4,v5,z6,z7]:=s4.aM 5 v5;have s6:aH (((((((w.setCell ⟨g,0,none⟩ v0).setCell ⟨g,1,none⟩ v1).setCell ⟨g,2,none⟩ v2).setCell ⟨g,3,none⟩ v3).setCell ⟨g,4,none⟩ v4).setCell ⟨g,5,none⟩ v5).setCell ⟨g,6,none⟩ v6) g 241 #[v0,v1,v2,v3,v4,v5,v6,z7]:=s5.aM 6 v6;have s7:aH ((((((((w.setCell ⟨g,0,none⟩ v0).setCell ⟨g,1,none⟩ v1).setCell ⟨g,2,none⟩ v2).setCell ⟨g,3,none⟩ v3).setCell ⟨g,4,none⟩ v4).setCell ⟨g,5,none⟩ v5).setCell ⟨g,6,none⟩ v6).setCell ⟨g,7,none⟩ v7) g 241 #[v0,v1,v2,v3,v4,v5,v6,v7]:=s6.aM 7 v7;exact bodyPost_ret (fS hres h1 (Jv s7)) hd ⟨rfl,((((((((hb.setCell (p:=⟨g,0,none⟩) hg v0).setCell (p:=⟨g,1,none⟩) hg v1).setCell (p:=⟨g,2,none⟩) hg v2).setCell (p:=⟨g,3,none⟩) hg v3).setCell (p:=⟨g,4,none⟩) hg v4).setCell (p:=⟨g,5,none⟩) hg v5).setCell (p:=⟨g,6,none⟩) hg v6).setCell (p:=⟨g,7,none⟩) hg v7)⟩
theorem Jw(a:Ad)(ok:a.Ok)(w:World):Calls ah 180 #[.agg a.cells] w (Got (.agg (qp .u16 (fP a) 8)) w):=by
 have HP:=fun k hk=>piece_at a k hk
 have hh:=ok.hi;have hl:=ok.lo;have HS:∀k,qp .u16 (fP a) k=qp .u16 (fP a) k:=fun _=>rfl
 have hset:=fun k hk=>TK .u16 (fP a) k hk
 generalize fP a=L at HP hset⊢;obtain⟨RV,xB⟩:=bw (qp .u16 L 8);rw[←xB];have HRV:=ae xB;clear xB;clear HS ok;obtain⟨HP,TF⟩:=aL HP hset;clear hset;unfold Ju at HP;obtain⟨v,x,l⟩:=a;unfold Ad.cells;simp only at hh hl HP⊢;go_enter Tryz.func180,Tryz.ntmps180;go_wp2_with fail
 go_loopw [5] (fun i wr=>∃k:Nat,k≤8∧i=.int .i64 k∧ag (aH wr w.heap.size 52 #[.bool v,.int .u64 x,.int .u64 l])∧ag (aH wr (w.heap.size+1) 241 (qp .u16 L k))∧ag (aW w wr)) (fun i _=>8-(intOf i).toNat)
 case atStart=>
  have hz:(#[.int .u16 0,.int .u16 0,.int .u16 0,.int .u16 0,.int .u16 0,.int .u16 0,.int .u16 0,.int .u16 0]:Array Value)=Array.replicate 8 (.int .u16 0):=rfl;have hz0:aH ((w.alloc (.cells #[.bool v,.int .u64 x,.int .u64 l] 52)).alloc (.cells #[.int .u16 0,.int .u16 0,.int .u16 0,.int .u16 0,.int .u16 0,.int .u16 0,.int .u16 0,.int .u16 0] 241)) (w.heap.size+1) 241 (qp .u16 L 0):=by
   rw[PS,←hz];have h:=aH.new (w.alloc (.cells #[.bool v,.int .u64 x,.int .u64 l] 52)) 241 #[.int .u16 0,.int .u16 0,.int .u16 0,.int .u16 0,.int .u16 0,.int .u16 0,.int .u16 0,.int .u16 0];simpa using h
  exact⟨0,by omega,rfl,ae ((aH.new _ _ _).alloc _),ae hz0,ae (fR _ _ _)⟩
 case round=>
  obtain⟨k,hk,rfl,hA,hR,hb⟩:=hrel;by_cases hlt:k<8
  ·have e1:=agh k hlt;obtain⟨q,hq,hq3⟩:∃q,q=k%4∧q<4:=⟨_,rfl,Nat.mod_lt _ aJ⟩;rw[←hq]at e1;have e2:((48:Int)-16*(q:Int)).toNat=48-16*q:=by omega
   have hp:=HP.out k hlt;rw[←hq]at hp;have a1:=hA.out.cell 1;have a2:=hA.out.cell 2;have hcell:=(hR.out.cell k).trans (CH .u16 L k k hlt);have hfr:=hR.out.frozen k;simp at a1 a2;have hset:=TF.out k hlt;have wv:∀y:Nat,IntKind.u16.wrap ((y:Int)/2^(48-16*q))=((y/2^(48-16*q)%65536:Nat):Int):=by
    intro y;rw[MV];generalize y/2^(48-16*q)=Y;simp[IntKind.wrap_u16]
   by_cases h4:k<4
   all_goals
    first|rw[if_pos h4]at hp|rw[if_neg h4]at hp
    first
     |(have h4':¬(3:Int)<(k:Int):=by omega)
     |(have h4':(3:Int)<(k:Int):=by omega)
    obtain⟨Hp,aen,Wv⟩:=bz hp hset wv;clear hp hq hset wv;go_wp2_with fail
    go_roundw
    case rel=>
     rw[Wv.out,←Hp.out];exact⟨k+1,by omega,by go_num,ae (hA.out.far (p:=⟨w.heap.size+1,k,none⟩) (by simp) _),ae (by rw[←aen.out];exact hR.out.aM k _),ae (hb.out.setCell (p:=⟨w.heap.size+1,k,none⟩) (by simp) _)⟩
    case measure=>simp[intOf];omega
  ·obtain rfl:k=8:=by omega
   have vU:=hR.out;have xB:=HRV.out;rw[xA]at vU xB;generalize L.getD 0 0=p0 at vU xB;generalize L.getD 1 0=p1 at vU xB;generalize L.getD 2 0=p2 at vU xB;generalize L.getD 3 0=p3 at vU xB;generalize L.getD 4 0=p4 at vU xB;generalize L.getD 5 0=p5 at vU xB;generalize L.getD 6 0=p6 at vU xB;generalize L.getD 7 0=p7 at vU xB;have c0:=vU.cell 0;have c1:=vU.cell 1;have c2:=vU.cell 2;have c3:=vU.cell 3;have c4:=vU.cell 4;have c5:=vU.cell 5;have c6:=vU.cell 6;have c7:=vU.cell 7;simp at c0 c1 c2 c3 c4 c5 c6 c7;have fr:=fun i=>vU.frozen i
   obtain⟨Y8,agi⟩:=aL vU xB;clear vU xB;go_wp2_with fail
   rw[agi.out];exact PT (g:=w.heap.size+1) (x:=2) rfl Y8.out hb.out (by simp) rfl rfl
theorem TL(x:Nat):Lib.itoa (x:Int)=cP x:=by
 unfold Lib.itoa;rw[if_neg aR,show((x:Int)).toNat=x by omega]
def lX(L:List Nat):Nat→Int×Nat
 |0=>(-1,1)
 |k+1=>if(lX L k).2<lO (L.drop k)then((k:Int),lO (L.drop k))else lX L k
theorem TM(L:List Nat):∀k,k≤L.length→xd k (L.drop k) (lX L k)=best L:=by
 intro k
 induction k with
 |zero=>intro _;rfl
 |succ k ih=>
  intro h;have e:=ih aR;rw[bT (show k<L.length by omega)]at e;unfold xd at e;unfold lX;rw[bT (show k<L.length by omega)];exact e
theorem PU(L:List Nat):lX L L.length=best L:=by
 have:=TM L L.length (ax _);rwa [EE (ax _)]at this
theorem FC(L:List Nat)(k:Nat)(h:k≤L.length): -1≤(lX L k).1∧(lX L k).1<(L.length:Int)∧(lX L k).2≤L.length+1:=by
 induction k with
 |zero=>exact⟨show(-1:Int)≤-1 by decide,by show(-1:Int)<_;omega,by show 1≤_;omega⟩
 |succ k ih=>
  have hr:=MK (L.drop k);rw[zd]at hr;unfold lX;split
  ·exact⟨by show(-1:Int)≤(k:Int);omega,by show(k:Int)<_;omega,by show lO _≤_;omega⟩
  ·exact ih (by omega)
theorem Y9(L:List Nat)(i n:Nat)(hn:i+n≤L.length)(hz:∀j,j<n→L.getD (i+j) 0=0)(he:i+n=L.length∨L.getD (i+n) 0≠0):lO (L.drop i)=n:=by
 induction n generalizing i with
 |zero=>
  rcases he with he|he
  ·rw[cq]at he;rw[EE aR];rfl
  ·rcases ahY i L.length with h|h
   ·rw[bT h];unfold lO;rw[cq,aE,af h]at he;exact if_neg he
   ·rw[EE h];rfl
 |succ n ih=>
  have h:i<L.length:=by omega
  have h0:=hz 0 aR;rw[cq,aE,af h]at h0;rw[bT h];unfold lO;rw[if_pos (show L[i]=0 from h0),ih (i+1) aR (fun j hj=>by rw[show i+1+j=i+(j+1) by omega];exact hz (j+1) aR) (by rw[show i+1+n=i+(n+1) by omega];exact he)]
def PV(lo:Nat):Nat→List UInt8
 |0=>[]
 |k+1=>PV lo k++cP ((xe lo).getD k 0)++(if k<3 then [46]else [])
theorem PW(lo:Nat):PV lo 4=oQ lo:=by
 unfold oQ xe;simp only[PV,xe,List.map_cons,List.map_nil];rw[li,li,li,Lib.join_one];simp[dot]
theorem TN(lo k:Nat)(hk:k<4):(xe lo).getD k 0=lo/2^(24-8*k)%256:=by
 unfold xe;rcases(show k=0∨k=1∨k=2∨k=3 by omega)with rfl|rfl|rfl|rfl<;>simp
theorem TP(lo:Nat):∀k,(PV lo k).length≤4*k:=by
 intro k
 induction k with
 |zero=>simp[PV]
 |succ k ih=>
  have h:(xe lo).getD k 0<1000:=by
   rcases ahY k 4 with hk|hk
   ·rw[TN lo k hk];omega
   ·rw[aE,List.getElem?_eq_none (by simp[xe];omega)];decide
  have:=xc _ h;unfold PV;generalize(xe lo).getD k 0=X at this;clear h;rw[aj,aj];split<;>simp<;>omega
theorem FG{w:World}(env:Env w)(x:Nat)(hx:x<1000):Calls ah 178 #[.int .i64 x] w fun r w'=>r=.returned (.string ⟨(cP x).toArray⟩)∧aW w w':=by
 refine(Tryz.strconv_Itoa (x:Int) aR aR w env.pow).mono ?_;rintro r w'⟨rfl,k,os,rfl⟩;rw[TL];exact⟨rfl,Lib.below_grow _ _ (ax _) _ _⟩
def decs(L:List Nat):List (List UInt8):=L.map cP
theorem PX{L:List Nat}{k:Nat}(hk:k<L.length):decs (L.take (k+1))=decs (L.take k)++[cP (L.getD k 0)]:=by
 unfold decs;rw[aC hk,List.map_append,aE,af hk];rfl
theorem acb(y:Nat)(hy:y<18446744073709551616):bits .and .u64 (y:Int) 255=((y%256:Nat):Int):=by
 have h:=u64_and_nat y 255 hy aJ;rw[show((255:Nat):Int)=255 from rfl]at h;rw[h,show(255:Nat)=2^8-1 from rfl,Nat.and_two_pow_sub_one_eq_mod]
theorem PY(lo:Nat):(oQ lo).length≤16:=by
 have:=TP lo 4;rwa [PW]at this
theorem Za{w:World}(env:Env w)(a:Ad)(ok:a.Ok)(hm:a.may=true)(h6:a.v6=false):Calls ah 156 #[.agg a.cells] w (Got (.string ⟨(oQ a.lo).toArray⟩) w):=by
 obtain⟨i0,hi,hz0,hz1,hz2⟩:=info_parts rH;have Hm:=ae (lT a ok);rw[hm]at Hm;have hl:=ok.lo;obtain⟨v,x,l⟩:=a;simp only at h6 hl;subst h6;unfold Ad.cells at*;simp only at Hm⊢;clear hm ok;obtain⟨RV,xB⟩:=bw (oQ l);rw[←xB];obtain⟨HRV,ou⟩:=aL xB env;clear xB env;have hB0:=aH.new w 52 #[.bool false,.int .u64 x,.int .u64 l];have hb0:=boxed w (.cells #[.bool false,.int .u64 x,.int .u64 l] 52);go_enter Tryz.func156,Tryz.ntmps156;go_wp2_with(go_at_call 177;refine(Hm.out _).mono ?_;rintro r w1⟨rfl,g1⟩;have hb1:=after hb0 g1;have hB1:=hB0.below g1 hB0.lt;have a0:=hB1.cell 0;simp at a0)
 clear a0;obtain⟨HB1,Hb1⟩:=aL hB1 hb1;clear hB0 hb0 hB1 hb1;go_loopw [3,19] (fun v i wr=>∃k:Nat,k≤4∧i=.int .i64 k∧ag (wr.ownsRow (w.heap.size+1) 9 1 v k ((strs (decs ((xe l).take k))).map bN))∧ag (aH wr w.heap.size 52 #[.bool false,.int .u64 x,.int .u64 l])∧ag (aW w wr)) (fun _ i _=>4-(intOf i).toNat)
 case atStart=>exact⟨0,by omega,rfl,ae (bh _ _ _ _),HB1,Hb1⟩
 case round=>
  obtain⟨k,hk,rfl,hown,hB,hb⟩:=hrel;have hsz:=hB.out.lt;by_cases hlt:k<4
  ·have hp:=TN l k hlt;have hs:=PX (L:=xe l) (k:=k) hlt;have hq:(strs (decs ((xe l).take (k+1)))).map bN=(strs (decs ((xe l).take k))).map bN++[.string ⟨(cP ((xe l).getD k 0)).toArray⟩]:=by rw[hs,Az]
   rw[hp]at hq;have Hq:=ae hq;clear hs hq hp;have e1:((24:Int)-8*(k:Int)).toNat=24-8*k:=by omega
   have e2:=MV l (24-8*k);have hy:l/2^(24-8*k)<18446744073709551616:=Nat.lt_of_le_of_lt (Nat.div_le_self _ _) hl;have e3:=acb _ hy;generalize l/2^(24-8*k)=Y at Hq e2 hy e3;have hX:Y%256<1000:=by omega
   have hX2:Y%256<256:=by omega
   generalize Y%256=X at Hq e3 hX hX2;clear hy;have HF:=ae (FG (w:=wr) (ou.out.below hb.out) X hX);obtain⟨-,-,a2⟩:=jt hB;go_wp2_with(first
    |(go_at_call 178;refine HF.out.mono ?_;rintro r w2⟨rfl,g2⟩;obtain⟨ho2,hB2⟩:=aL (own_below hown.out g2) (hB.out.below g2 hsz);have hb2:=bg hb g2;clear g2 a2)
    |(at_builtin;refine wpList_append_own _ rfl _ _ 29 rfl (w.heap.size+1) 9 i0 (.string lL) 1 16 Tryz.underlying29 hi hz0 hz1 hz2 rfl aJ _ k _ rfl (ho2.out.alloc _) ⟨w2.heap.size,0,none⟩ 1 1 [.string ⟨(cP X).toArray⟩] rfl rfl (cell_one_new _ _ _) (fun x hx=>by simp at hx;subst hx;rfl) (by unfold maxLen;omega) aR (by have:=hB2.out.lt;simp;omega) ?_;intro v' w3 hown' hgrow3 hnil3;have YY:=ae hown';have hB3:=ae ((hB2.out.alloc _).grown hgrow3 (fun e=>by have:=(ho2.out.lt _ e.symm).1;omega));have hb3:=ae ((hb2.out.alloc (hb2.out.size) _).grown hgrow3 (by have:=hb2.out.size;simp;omega) (fun q hq=>by have:=(ho2.out.lt q hq).1;omega));clear hown' hgrow3 hnil3))
   go_roundw
   case rel=>exact⟨k+1,by omega,by go_num,ae (by rw[Hq.out];exact YY.out),hB3,hb3⟩
   case measure=>simp[intOf];omega
  ·obtain rfl:k=4:=by omega
   have hown:=hown.out;rw[show(xe l).take 4=xe l from rfl]at hown;have HJ:=ae (Fj (w:=wr) (L:=decs (xe l)) 46 hown (by simp[decs,xe]) (by have:=PY l;unfold oQ at this;exact aw this aJ));clear hown;go_wp2_with(go_at_call 179;refine HJ.out.mono ?_;rintro r w2⟨rfl,g2⟩;have hb2:=bg hb g2;clear g2)
   go_ret;exact⟨by rw[HRV.out];rfl,hb2.out⟩
theorem Jx(g:Nat)(W:World):(Instr.sliceAt 241 (.pointer (some ⟨g,0,none⟩)) none none none).run ah W=.ok (.slice (some ⟨g,0,none⟩) 8 8) W:=by
 have ha:ah.arrayLen 241=8:=by kernel_rfl
 have hu:ah.underlying 241=some (.array (ah.arrayLen 241) (ah.elem 241)):=by kernel_rfl
 have hs:(sizeOf (ah.elem 241)).run ah W=.ok 1 W:=by kernel_rfl
 rw[run_sliceAt_array_all W _ _ hu,hs,ha];rfl
theorem PZ(g n:Nat)(hn:n≤8)(W:World):(Instr.sliceAt 241 (.pointer (some ⟨g,0,none⟩)) none (some (.int .i64 n)) none).run ah W=.ok (.slice (some ⟨g,0,none⟩) n 8) W:=by
 have ha:ah.arrayLen 241=8:=by kernel_rfl
 have hu:ah.underlying 241=some (.array (ah.arrayLen 241) (ah.elem 241)):=by kernel_rfl
 have hs:(sizeOf (ah.elem 241)).run ah W=.ok 1 W:=by kernel_rfl
 rw[run_sliceAt_array_h W _ _ hu .i64 (n:Int) aR (by rw[ha];omega),hs,ha];rfl
theorem FH(g n:Nat)(hn:n≤8)(W:World):(Instr.sliceAt 241 (.pointer (some ⟨g,0,none⟩)) (some (.int .i64 n)) none none).run ah W=.ok (.slice (some ⟨g,if n=8 then 0 else n,none⟩) (8-n) (8-n)) W:=by
 have ha:ah.arrayLen 241=8:=by kernel_rfl
 have hu:ah.underlying 241=some (.array (ah.arrayLen 241) (ah.elem 241)):=by kernel_rfl
 have hs:(sizeOf (ah.elem 241)).run ah W=.ok 1 W:=by kernel_rfl
 rw[run_sliceAt_array_l W _ _ hu .i64 (n:Int) aR (by rw[ha];omega),hs,ha];show Result.ok (Value.slice (some (if 8=n then(⟨g,0,none⟩:Addr)else(⟨g,0,none⟩:Addr).add (n*1))) (8-n) (8-n)) W=_;by_cases e:n=8
 ·subst e;rfl
 ·rw[if_neg (fun h=>e h.symm),if_neg e];have e2:(⟨g,0,none⟩:Addr).add (n*1)=⟨g,n,none⟩:=by unfold Addr.add;split<;>simp_all
  rw[e2]
theorem tB{W v:World}{g:Nat}{L:List Nat}(hL8:L.length=8)(hL:∀x∈L,x<65536)(env:Env W)(hB:aH W g 241 (qp .u16 L 8))(hv:aW W v)(o n c:Nat)(hn:o+n≤8)(M:List Nat)(hM:M=(L.drop o).take n):Calls ah 181 #[.slice (some ⟨g,o,none⟩) n c] v (Got (.string ⟨(ju M).toArray⟩) v):=by
 have hlen:M.length=n:=by rw[hM,ze,zd];omega
 have:=PI (w:=v) (env.below hv) g o c M (fun x hx=>hL x (by rw[hM]at hx;exact List.mem_of_mem_drop (ah8 hx))) aR (ahQ hB.lt hv.size) (fun j hj=>by
  have h:=(aH.below hB hv hB.lt).cell (o+j);rw[h,CH _ _ _ _ aR,if_pos aR,hM,aE,aE,List.getElem?_take,if_pos aR,List.getElem?_drop])
 rw[hlen]at this;exact this
theorem Zb{w:World}(env:Env w)(a:Ad)(ok:a.Ok)(h6:a.v6=true):Calls ah 156 #[.agg a.cells] w (Got (.string ⟨(uA (fP a)).toArray⟩) w):=by
 have Hm:=ae (lT a ok);rw[abY h6]at Hm;have HP:=ae (Jw a ok);have hL8:=j7 a;have hL:=pQ a;generalize fP a=L at HP hL8 hL⊢;obtain⟨SK,HL⟩:=aL hL8 hL;clear hL8 hL ok;obtain⟨v,x,l⟩:=a;simp only at h6;subst h6;unfold Ad.cells at*;simp only at Hm HP⊢;obtain⟨RV,xB⟩:=bw ((⟨(uA L).toArray⟩:ByteArray));rw[←xB];obtain⟨HRV,ou⟩:=aL xB env;clear xB env;have hB0:=aH.new w 52 #[.bool true,.int .u64 x,.int .u64 l];have hb0:=boxed w (.cells #[.bool true,.int .u64 x,.int .u64 l] 52);have e8:=xA .u16 L;generalize L.getD 0 0=p0 at e8;generalize L.getD 1 0=p1 at e8;generalize L.getD 2 0=p2 at e8;generalize L.getD 3 0=p3 at e8;generalize L.getD 4 0=p4 at e8;generalize L.getD 5 0=p5 at e8;generalize L.getD 6 0=p6 at e8;generalize L.getD 7 0=p7 at e8;rw[e8]at HP;have E8:=ae e8;clear e8;go_enter Tryz.func156,Tryz.ntmps156;go_wp2_with(first
  |(go_at_call 177;refine(Hm.out _).mono ?_;rintro r w1⟨rfl,g1⟩;have hb1:=after hb0 g1;have hB1:=hB0.below g1 hB0.lt;have a0:=hB1.cell 0;have a1:=hB1.cell 1;have a2:=hB1.cell 2;simp at a0 a1 a2)
  |(go_at_call 180;refine(HP.out _).mono ?_;rintro r w2⟨rfl,g2⟩;have hb2:=after hb1 g2;clear a0 a1 a2))
 have hR0:aH (w2.alloc (.cells #[.int .u16 p0,.int .u16 p1,.int .u16 p2,.int .u16 p3,.int .u16 p4,.int .u16 p5,.int .u16 p6,.int .u16 p7] 241)) w2.heap.size 241 (qp .u16 L 8):=by
  rw[E8.out];exact aH.new _ _ _
 have hb3:=after hb2 (boxed w2 (.cells #[.int .u16 p0,.int .u16 p1,.int .u16 p2,.int .u16 p3,.int .u16 p4,.int .u16 p5,.int .u16 p6,.int .u16 p7] 241));generalize w2.alloc (.cells #[.int .u16 p0,.int .u16 p1,.int .u16 p2,.int .u16 p3,.int .u16 p4,.int .u16 p5,.int .u16 p6,.int .u16 p7] 241)=W0 at hR0 hb3⊢;generalize w2.heap.size=g at hR0⊢;obtain⟨HR0,Hb3⟩:=aL hR0 hb3;clear hB0 hb0 hB1 hb1 hb2 hR0 hb3;have hcell:=fun i(hi:i<8)=>(HR0.out.cell i).trans (CH .u16 L 8 i hi)
 have nY:=ae hcell;clear hcell
 go_loop [6,7,39] (fun v6 v7 v39=>∃k:Nat,k≤8∧v39=.int .i64 k∧v6=.int .i64 (lX L k).1∧v7=.int .i64 ((lX L k).2:Int)) (fun _ _ v39=>8-(intOf v39).toNat)
 case atStart=>exact⟨0,by omega,rfl,rfl,rfl⟩
 case round=>
  obtain⟨k,hk,rfl,rfl,rfl⟩:=hrel;by_cases hlt:k<8
  ·obtain⟨B,hB⟩:=bw (lX L k);have hnext:lX L (k+1)=if B.2<lO (L.drop k)then((k:Int),lO (L.drop k))else B:=by rw[hB];rfl
   rw[←hB];obtain⟨aeo,HB⟩:=aL hnext hB;clear hB hnext;obtain⟨b1,b2⟩:=B;go_wp2_with fail
   go_loop [9] (fun v9=>∃n:Nat,k+n≤8∧v9=.int .i64 n∧ag (∀j,j<n→L.getD (k+j) 0=0)) (fun v9=>8-(intOf v9).toNat)
   case atStart=>exact⟨0,by omega,rfl,ae (fun j h=>by omega)⟩
   case round=>
    obtain⟨n,hn,rfl,hz⟩:=hrel;have e1:((k:Int)+(n:Int)).toNat=k+n:=by omega
    by_cases hgo:k+n<8∧L.getD (k+n) 0=0
    ·obtain⟨hs,h0⟩:=hgo;have cx:=nY.out (k+n) hs;rw[if_pos hs,h0]at cx;have H0:=ae h0;have hs':(k:Int)+(n:Int)<8:=by omega
     clear h0;go_wp2_with fail
     go_round
     case rel=>exact⟨n+1,by omega,by go_num,ae (fun j hj=>by
      by_cases e:j=n
      ·rw[e];exact H0.out
      ·exact hz.out j aR)⟩
     case measure=>simp[intOf];omega
    ·have hrun:lO (L.drop k)=n:=Y9 L k n (by have:=SK.out;omega) hz.out (by
      have:=SK.out;rcases ahY (k+n) 8 with h|h
      ·exact Or.inr (fun h0=>hgo ⟨h,h0⟩)
      ·exact Or.inl aR)
     have hnx:=aeo.out;rw[hrun]at hnx;have Ai:=ae hnx;clear hrun hnx;by_cases hs:k+n<8
     ·have cx:=nY.out (k+n) hs;rw[if_pos hs]at cx;have h0:L.getD (k+n) 0≠0:=fun h0=>hgo ⟨hs,h0⟩
      have hs':(k:Int)+(n:Int)<8:=by omega
      clear hgo;generalize L.getD (k+n) 0=X at cx h0;have hq:((X:Int)==0)=false:=by simp;omega
      clear h0;by_cases hgt:b2<n
      all_goals
       have Hg:=ae hgt;go_wp2_with fail
       go_round
       case rel=>
        refine⟨k+1,by omega,by go_num,?_,?_⟩
        all_goals(rw[Ai.out];first|rw[if_pos Hg.out]|rw[if_neg Hg.out])
       case measure=>simp[intOf];omega
     ·have hs':¬(k:Int)+(n:Int)<8:=by omega
      clear hgo;by_cases hgt:b2<n
      all_goals
       have Hg:=ae hgt;go_wp2_with fail
       go_round
       case rel=>
        refine⟨k+1,by omega,by go_num,?_,?_⟩
        all_goals(rw[Ai.out];first|rw[if_pos Hg.out]|rw[if_neg Hg.out])
       case measure=>simp[intOf];omega
  ·obtain rfl:k=8:=by omega
   have hall:lX L 8=best L:=by have:=PU L;rwa [SK.out]at this
   have hrg:=FC L 8 (by have:=SK.out;omega);have hok:=YO L;have htx:RV=⟨(if(best L).1<0 then ju L else ju (L.take (best L).1.toNat)++(58::58::ju (L.drop ((best L).1.toNat+(best L).2)))).toArray⟩:=HRV.out;have h1:=hok.le;have h2:=hok.one;rw[hall]at hrg;rw[hall];rw[SK.out]at hrg h1;clear hall hok;generalize best L=B at hrg htx h1 h2⊢;obtain⟨b1,b2⟩:=B;simp only at hrg htx h1 h2⊢;by_cases hneg:b1<0
   ·rw[if_pos hneg]at htx;have Htx:=ae htx;clear htx h1 hrg;have HJ:=ae (tB SK.out HL.out (ou.out.below Hb3.out) HR0.out (aI _ _) 0 8 8 aR L (by rw[List.drop_zero];exact(aN (by have:=SK.out;omega)).symm));have hsl:=Jx g;go_wp2_with(go_at_call 181;refine HJ.out.mono ?_;rintro r w9⟨rfl,g9⟩;have hb9:=bg Hb3 g9;clear g9)
    go_ret;exact⟨show Ending.returned (.string ⟨(ju L).toArray⟩)=_ by rw[Htx.out],hb9.out⟩
   ·rw[if_neg hneg]at htx;obtain⟨A,rfl⟩:∃A:Nat,b1=(A:Int):=⟨b1.toNat,by omega⟩;have h3:=h1 aR;rw[show((A:Int)).toNat=A by omega]at h3 htx;have HJ1:=fun v hv=>tB (v:=v) SK.out HL.out (ou.out.below Hb3.out) HR0.out hv 0 A 8 aR (L.take A) (by rw[List.drop_zero])
    have HJ2:=fun v hv=>tB (v:=v) SK.out HL.out (ou.out.below Hb3.out) HR0.out hv (if A+b2=8 then 0 else A+b2) (8-(A+b2)) (8-(A+b2)) (by split<;>omega) (L.drop (A+b2)) (by
     have h8:=SK.out;split
     ·next e=>rw[e,List.take_zero,EE aR]
     ·exact(aN (by rw[zd];omega)).symm)
    have l1:=qV (L:=L.take A) (nw HL.out) (by rw[ze];have:=SK.out;omega);have l2:=qV (L:=L.drop (A+b2)) (vQ HL.out) (by rw[zd];have:=SK.out;omega);have hsl1:=PZ g A aR;have hsl2:=FH g (A+b2) aR;rw[show((A+b2:Nat):Int)=(A:Int)+(b2:Int) by omega]at hsl2;have hwr:IntKind.i64.wrap ((A:Int)+(b2:Int))=(A:Int)+(b2:Int):=IntWalk.i64_in _ aR;generalize(if A+b2=8 then 0 else A+b2)=O at HJ2 hsl2;generalize 8-(A+b2)=N at HJ2 hsl2;generalize ju (L.take A)=J1 at HJ1 l1 htx;generalize ju (L.drop (A+b2))=J2 at HJ2 l2 htx;obtain⟨S1,hS1⟩:=bw ((⟨J1.toArray⟩:ByteArray));obtain⟨S2,hS2⟩:=bw ((⟨J2.toArray⟩:ByteArray));have s1:S1.size≤40:=by rw[hS1];simpa[ahT]using l1
    have s2:S2.size≤40:=by rw[hS2];simpa[ahT]using l2
    have hrv:RV=S1++⟨#[58,58]⟩++S2:=by
     rw[htx,hS1,hS2];apply ahX;simp
    rw[←hS1]at HJ1;rw[←hS2]at HJ2;obtain⟨Hrv,HJA,HJB⟩:=bz hrv HJ1 HJ2;clear htx hS1 hS2 hrv HJ1 HJ2 l1 l2 h1 hrg hneg;go_wp2_with fail
    have hv:=(aI W0.heap.size W0).drew;have z1:¬9223372036854775807<S1.size+2:=by omega
    have z2:¬9223372036854775807<S1.size+2+S2.size:=by omega
    go_region_held3 (fun _=>True) (trivial)
     (first
       |(go_at_call 181;(with_reducible refine(HJA.out _ hv).mono ?_);rintro r w8⟨rfl,g8⟩;have hv8:=after hv g8;have hv:=hv8)
       |(go_at_call 181;(with_reducible refine(HJB.out _ hv).mono ?_);rintro r w9⟨rfl,g9⟩;have hv9:=after hv g9;have hv:=hv9))
    all_goals go_wp2_with fail
    go_ret;exact⟨show Ending.returned (.string (S1++⟨#[58,58]⟩++S2))=_ by rw[Hrv.out],after Hb3.out hv⟩
def iF(a:Ad):ByteArray:=⟨(iE a).toArray⟩
theorem rN{w:World}(env:Env w)(a:Ad)(ok:a.Ok):Calls ah 156 #[.agg a.cells] w (Got (.string (iF a)) w):=by
 cases hm:a.may with
 |false=>
  have Hm:=ae (lT a ok);rw[hm]at Hm;have e:iF a=⟨#[]⟩:=by unfold iF;rw[O7 hm]
  rw[e];obtain⟨v,x,l⟩:=a;unfold Ad.cells at*;simp only at Hm⊢;clear e hm ok env;have hb0:=boxed w (.cells #[.bool v,.int .u64 x,.int .u64 l] 52);go_enter Tryz.func156,Tryz.ntmps156;go_wp2_with(go_at_call 177;refine(Hm.out _).mono ?_;rintro r w1⟨rfl,g1⟩;have hb1:=after hb0 g1)
  go_ret;exact⟨rfl,hb1⟩
 |true=>
  cases h6:a.v6 with
  |false=>
   have:=Za env a ok hm h6;unfold iF;rwa [MN hm h6]
  |true=>
   have:=Zb env a ok h6;unfold iF;rwa [MO h6]
theorem jc.any{Lo:Option (List Nat)}{W w':World}{r:Ending}(h:jc Lo W r w'):∃(v:Value)(L:List Nat),r=.returned (.tuple #[v,.bool Lo.isSome])∧w'.ownsRow W.heap.size 22 1 v L.length (ft L)∧(Lo=some L∨(Lo=none∧L=[]))∧aW W w':=by
 unfold jc at h;cases Lo with
 |none=>exact⟨au,[],h.1,bh _ _ _ _,Or.inr ⟨rfl,rfl⟩,h.2⟩
 |some L=>
  obtain⟨⟨v,hr,ho⟩,hb⟩:=h;exact⟨v,L,hr,ho,Or.inl rfl,hb⟩
theorem below_drewN(w:World)(n:Nat):aW w (w.drewN n):=⟨rfl,rfl,rfl,ax _,fun _ _=>rfl⟩
theorem vV(s sep:List UInt8):(Lib.cut s sep).1.length≤s.length∧(Lib.cut s sep).2.1.length≤s.length:=by
 unfold Lib.cut;split
 ·simp;omega
 ·simp
theorem agj{h x:Nat}(hh:h<72057594037927936)(hx:x<256):bits .or .u64 ((h:Int)*256) (x:Int)=((h*256+x:Nat):Int):=by
 have e:=u64_or_nat (h*256) x aR aR;rw[show(h:Int)*256=((h*256:Nat):Int) by omega,e];have:=Nat.shiftLeft_add_eq_or_of_lt (i:=8) (b:=x) aR h;rw[Nat.shiftLeft_eq]at this;rw[show(256:Nat)=2^8 from rfl,←this]
theorem Jy(l:List Nat)(x:Nat):gY (l++[x])=gY l*256+x:=by unfold gY;rw[List.foldl_append];rfl
theorem uN{l:List Nat}(h:∀x∈l,x<256)(hl:l.length≤4):gY l<4294967296:=by
 have:=E9 l 0 1 h aJ;have h2:256^l.length≤256^4:=ahJ aJ hl;unfold gY;omega
def abq(o:Option Ad):Value:=match o with
 |none=>.tuple #[.agg #[.bool false,.int .u64 0,.int .u64 0],.int .i64 8]
 |some a=>.tuple #[.agg a.cells,.int .i64 0]
theorem pV{a:Ad}{s:ByteArray}:iF a=s↔iE a=s.data.toList:=by
 constructor
 ·intro h;rw[←h];unfold iF;simp
 ·intro h;unfold iF;rw[h]
theorem aep{v:World}(env:Env v)(s:ByteArray)(hs:s.size≤2000000)(c:UInt8):Calls ah 257 #[.string s,.string ⟨#[c]⟩,.int .i64 10,.int .u64 255] v (jc (dJ c 10 256 s.data.toList) v):=uK env s hs c 10 255 aJ aJ (fun v e t ht=>YV e t ht)
theorem TQ{v:World}(env:Env v)(s:ByteArray)(hs:s.size≤2000000)(c:UInt8):Calls ah 257 #[.string s,.string ⟨#[c]⟩,.int .i64 16,.int .u64 65535] v (jc (dJ c 16 65536 s.data.toList) v):=uK env s hs c 16 65535 aJ aJ (fun v e t ht=>aga e t ht)
theorem Zc(t:List UInt8):(⟨t.toArray⟩:ByteArray).toList.isEmpty=t.isEmpty:=by
 rw[cE]
theorem ic{a b:ByteArray}(h:a=b):(a.toList==b.toList)=true:=by rw[h];simp
theorem gm{a b:ByteArray}(h:a≠b):(a.toList==b.toList)=false:=by
 rw[beq_eq_false_iff_ne];intro e;apply h;apply ahX;rw[cE,cE]at e;exact Array.ext' e
theorem TR{w:World}(env:Env w)(s:ByteArray)(hs:s.size≤2000000):Calls ah 237 #[.string s] w (Got (abq (uB s.data.toList)) w):=by
 obtain⟨RL,hRL⟩:=bw (uB s.data.toList);rw[←hRL];have hB0:=(aH.new w 52 #[.bool false,.int .u64 0,.int .u64 0]).alloc (.cells #[.bool false,.int .u64 0,.int .u64 0] 52);have hD0:aH ((w.alloc (.cells #[.bool false,.int .u64 0,.int .u64 0] 52)).alloc (.cells #[.bool false,.int .u64 0,.int .u64 0] 52)) (w.heap.size+1) 52 #[.bool false,.int .u64 0,.int .u64 0]:=by
  have h:=aH.new (w.alloc (.cells #[.bool false,.int .u64 0,.int .u64 0] 52)) 52 #[.bool false,.int .u64 0,.int .u64 0];simpa using h
 have hb0:=fR w (.cells #[.bool false,.int .u64 0,.int .u64 0] 52) (.cells #[.bool false,.int .u64 0,.int .u64 0] 52);have jL:=ae (aep (env.below hb0) s hs 46);unfold uB xg at hRL;have hrd:∀l,dJ 46 10 256 s.data.toList=some l→l.length=4→(RL=if iE ⟨false,0,gY l⟩=s.data.toList then some ⟨false,0,gY l⟩else none):=fun l h1 h2=>by rw[hRL,h1];simp only;rw[if_pos h2];rfl
 have acd:((dJ 46 10 256 s.data.toList=none)∨(∃l,dJ 46 10 256 s.data.toList=some l∧l.length≠4))→RL=(tq s.data.toList).bind fun a=>if iE a=s.data.toList then some a else none:=fun h=>by
  rcases h with h|⟨l,h,hl⟩
  ·rw[hRL,h]
  ·rw[hRL,h];simp only;rw[if_neg hl]
 have hnl:∀l,dJ 46 10 256 s.data.toList=some l→(∀x∈l,x<256)∧l.length≤9:=fun l h=>jj h
 clear hRL;generalize hO1:dJ 46 10 256 s.data.toList=O1 at jL hrd acd hnl;clear hO1;obtain⟨HB0,HD0,Hb0,ou,Hrd,agk,Hnl⟩:=nn hB0 hD0 hb0 env hrd acd hnl;clear hB0 hD0 hb0 env hrd acd hnl;generalize hW0:(w.alloc (.cells #[.bool false,.int .u64 0,.int .u64 0] 52)).alloc (.cells #[.bool false,.int .u64 0,.int .u64 0] 52)=W0 at jL HB0 HD0 Hb0;have HW0:=ae hW0;clear hW0;go_enter Tryz.func237,Tryz.ntmps237;go_wp2_with fail
 rw[HW0.out];go_at_call 257;refine jL.out.mono ?_;intro r w1 hg1;obtain⟨v1,L1,rfl,ho1,hL1,hb1⟩:=hg1.any;obtain⟨Ho1,Iy,HB1,HD1⟩:=cU ho1 hL1 (HB0.out.below hb1 HB0.out.lt) (HD0.out.below hb1 HD0.out.lt);have Hb1:=bg Hb0 hb1;have hsz0:w.heap.size+1<W0.heap.size:=HD0.out.lt;have hsz1:w.heap.size+1<w1.heap.size:=HD1.out.lt;clear hg1 ho1 hL1 hb1;obtain⟨A1,cap1,rfl⟩:=aX Ho1.out;by_cases h4:O1.isSome=true∧L1.length=4
 ·obtain⟨his,hlen⟩:=h4;have hO1:O1=some L1:=by rcases Iy.out with h|⟨h,_⟩;exact h;rw[h]at his;cases his
  have hrl:=Hrd.out L1 hO1 hlen;have hlx:=(Hnl.out L1 hO1).1;obtain⟨Hrl,Hlx⟩:=aL hrl hlx;rw[his];have pW:=Ho1.out;rw[hlen]at pW⊢;obtain⟨g,cap,hv⟩:=Fh pW;rw[hv];rw[hv]at pW;have hg:=pW.lt g rfl;have hcell:∀j,j<4→w1.cell? ⟨g,j,none⟩=some (.int .u64 (L1.getD j 0:Int)):=by
   intro j hj;rw[pW.cellAt (g:=g) j aR];unfold ft;have hjl:j<L1.length:=by omega
   rw[bO,af hjl,aE,af hjl];rfl
  obtain⟨nY,Hlen⟩:=aL hcell hlen;clear hcell hrl hlx hO1 his pW hv hlen;go_wp2_with fail
  go_loopw [30] (fun v30 wr=>∃k:Nat,k≤4∧v30=.int .i64 k∧ag (aH wr (w.heap.size+1) 52 #[.bool false,.int .u64 0,.int .u64 (gY (L1.take k):Int)])∧ag (aH wr w.heap.size 52 #[.bool false,.int .u64 0,.int .u64 0])∧ag (∀j,j<4→wr.cell? ⟨g,j,none⟩=some (.int .u64 (L1.getD j 0:Int)))∧ag (aW w wr)) (fun v30 _=>4-(intOf v30).toNat)
  case atStart=>exact⟨0,by omega,rfl,HD1,HB1,nY,Hb1⟩
  case round=>
   obtain⟨k,hk,rfl,hD,hB,hr,hb⟩:=hrel;by_cases hlt:k<4
   ·have hkl:k<L1.length:=by have:=Hlen.out;omega
    have cx:=hr.out k hlt;have hX:L1.getD k 0<256:=by
     rw[aE,af hkl];exact Hlx.out _ (aZ hkl)
    have hs:gY (L1.take (k+1))=gY (L1.take k)*256+L1.getD k 0:=by
     rw[aC hkl,Jy,aE,af hkl];rfl
    have hbd:gY (L1.take k)<4294967296:=uN (nw Hlx.out) (by rw[ze];omega);have a2:=hD.out.cell 2;have fr:=fun i=>hD.out.frozen i
    simp at a2;have hr':=fun(u:Value)j(hj:j<4)=>(cell_far (w:=wr) (a:=⟨w.heap.size+1,2,none⟩) (c:=⟨g,j,none⟩) (u:=u) (by show w.heap.size+1≠g;omega)).trans (hr.out j hj)
    obtain⟨Hr',Hs⟩:=aL hr' hs;generalize L1.getD k 0=X at cx hX Hs;obtain⟨H0,hH0⟩:=bw (gY (L1.take k));rw[←hH0]at a2 hbd;have HH0:=ae hH0;have ho:=agj (h:=H0) (x:=X) aR hX;have hw:IntKind.u64.wrap ((H0:Int)*256)=(H0:Int)*256:=by rw[fl];omega
    clear hr' hs hH0;go_wp2_with fail
    go_roundw
    case rel=>
     have hset:=hD.out.aM 2 (.int .u64 ((H0*256+X:Nat):Int));exact⟨k+1,by omega,by go_num,ae (by rw[Hs.out,←HH0.out];exact hset),ae (hB.out.far (p:=⟨w.heap.size+1,2,none⟩) (by simp) _),ae (Hr'.out _),ae (hb.out.setCell (p:=⟨w.heap.size+1,2,none⟩) (by simp) _)⟩
    case measure=>simp[intOf];omega
   ·obtain rfl:k=4:=by omega
    have htk:L1.take 4=L1:=aN (by have:=Hlen.out;omega);have hDD:=hD.out;rw[htk]at hDD;have hok:(Ad.mk false 0 (gY L1)).Ok:=⟨by show(0:Nat)<_;omega,by show gY L1<_;have:=uN Hlx.out (by have:=Hlen.out;omega);omega⟩;have HDD:=ae hDD;have htx:=rN (ou.out.below hb.out) ⟨false,0,gY L1⟩ hok;have hcmp:RL=if iF ⟨false,0,gY L1⟩=s then some ⟨false,0,gY L1⟩else none:=by
     rw[Hrl.out];by_cases h:iF ⟨false,0,gY L1⟩=s
     ·rw[if_pos h,if_pos (pV.1 h)]
     ·rw[if_neg h,if_neg (fun e=>h (pV.2 e))]
    generalize gY L1=LO at HDD htx hcmp;have hcells:Ad.cells ⟨false,0,LO⟩= #[.bool false,.int .u64 0,.int .u64 LO]:=rfl;generalize(Ad.mk false 0 LO)=AD at htx hcmp hcells;rw[hcells]at htx;have HTX:=ae htx;clear htx;obtain⟨TB,hTB⟩:=bw (iF AD);rw[←hTB]at HTX hcmp;have qW:=ae hcells;clear hTB hcells;obtain⟨a0,a1,a2⟩:=jt HDD;by_cases hts:TB=s
    ·have hq:=ic hts;rw[if_pos hts]at hcmp;have TS:=ae hcmp;clear hts hcmp;go_wp2_with(go_at_call 156;refine HTX.out.mono ?_;rintro r w7⟨rfl,g7⟩;have hb7:=bg hb g7;have kg:=hB.out.below g7 hB.out.lt;have hD7:=HDD.out.below g7 HDD.out.lt;clear a0 a1 a2;have a0:=hD7.cell 0;have a1:=hD7.cell 1;have a2:=hD7.cell 2;simp at a0 a1 a2;have c0:=kg.cell 0;have c1:=kg.cell 1;have c2:=kg.cell 2;simp at c0 c1 c2;have fr:=(fun i=>kg.frozen i);have uO:=ae kg;clear kg hD7 g7)
     rw[TS.out];show bodyPost _ _ (Got (.tuple #[.agg AD.cells,.int .i64 0]) w) _ _ _;rw[qW.out];exact nB (g:=w.heap.size) (x:=2) (y:=3) rfl uO.out hb7.out (ax _) rfl rfl rfl
    ·have hq:=gm hts;rw[if_neg hts]at hcmp;have TS:=ae hcmp;clear hts hcmp;go_wp2_with(go_at_call 156;refine HTX.out.mono ?_;rintro r w7⟨rfl,g7⟩;have hb7:=bg hb g7;have kg:=hB.out.below g7 hB.out.lt;have hD7:=HDD.out.below g7 HDD.out.lt;clear a0 a1 a2;have a0:=hD7.cell 0;have a1:=hD7.cell 1;have a2:=hD7.cell 2;simp at a0 a1 a2;have c0:=kg.cell 0;have c1:=kg.cell 1;have c2:=kg.cell 2;simp at c0 c1 c2;have fr:=(fun i=>kg.frozen i);have uO:=ae kg;clear kg hD7 g7)
     rw[TS.out];exact nB (g:=w.heap.size) (x:=2) (y:=3) rfl uO.out hb7.out (ax _) rfl rfl rfl
 ·have hin:O1.isSome=false∨(O1.isSome=true∧((L1.length:Int)==4)=false):=by
   cases h:O1.isSome with
   |false=>exact Or.inl rfl
   |true=>exact Or.inr ⟨rfl,by rw[h]at h4;simp at h4;simp;omega⟩
  have hrl:=agk.out (by
   rcases Iy.out with h|⟨h,_⟩
   ·exact Or.inr ⟨L1,h,fun e=>h4 ⟨by rw[h];rfl,e⟩⟩
   ·exact Or.inl h)
  have hcl:=vV s.data.toList [58,58];obtain⟨m,hm⟩:=(ou.out.below Hb1.out).mx;have hcut:=Tryz.strings_Cut s ⟨#[58,58]⟩ m w1 aR hm;unfold tq at hrl;rw[show(⟨#[58,58]⟩:ByteArray).data.toList=[58,58]from rfl]at hcut;generalize Lib.cut s.data.toList [58,58]=C at hcl hcut hrl;obtain⟨c1,c2,gap⟩:=C;simp only at hcl hcut hrl;have hsl:s.data.toList.length=s.size:=(Lib.size_eq s).symm;rw[hsl]at hcl;obtain⟨Hcl,zx,Hrl⟩:=bz hcl hcut hrl;clear h4 hm hcut hrl hsl hcl;have hz1:(⟨c1.toArray⟩:ByteArray).size≤2000000:=by have:=Hcl.out.1;rw[show(⟨c1.toArray⟩:ByteArray).size=c1.length by simp[ahT]];omega
  have hz2:(⟨c2.toArray⟩:ByteArray).size≤2000000:=by have:=Hcl.out.2;rw[show(⟨c2.toArray⟩:ByteArray).size=c2.length by simp[ahT]];omega
  obtain⟨HNX,HNY⟩:=aL (fun v hv=>TQ (v:=v) ((ou.out.below Hb1.out).below hv) ⟨c1.toArray⟩ hz1 58) (fun v hv=>TQ (v:=v) ((ou.out.below Hb1.out).below hv) ⟨c2.toArray⟩ hz2 58);rw[show(⟨c1.toArray⟩:ByteArray).data.toList=c1 by simp]at HNX;rw[show(⟨c2.toArray⟩:ByteArray).data.toList=c2 by simp]at HNY;have hx2:∀L,dJ 58 16 65536 c1=some L→(∀x∈L,x<65536)∧L.length≤9:=fun L h=>jj h
  have hx3:∀L,dJ 58 16 65536 c2=some L→(∀x∈L,x<65536)∧L.length≤9:=fun L h=>jj h
  generalize dJ 58 16 65536 c1=O2 at HNX hx2 Hrl;generalize dJ 58 16 65536 c2=O3 at HNY hx3 Hrl;obtain⟨T1,hT1⟩:=bw ((⟨c1.toArray⟩:ByteArray));obtain⟨T2,hT2⟩:=bw ((⟨c2.toArray⟩:ByteArray));rw[←hT1]at HNX;rw[←hT2]at HNY;rw[←hT1,←hT2]at zx;obtain⟨Hx2,Hx3⟩:=aL hx2 hx3;clear hx2 hx3 hT1 hT2 hz1 hz2;obtain⟨I1,hI1⟩:=bw O1.isSome;rw[←hI1]at hin⊢;clear hI1;rcases hin with rfl|⟨rfl,hq4⟩
  all_goals
   go_wp2_with(go_at_call 236;refine zx.out.mono ?_;rintro r w2⟨rfl,n2,rfl⟩)
   go_at_call 257;refine(HNX.out _ (below_drewN _ _)).mono ?_;intro r w3 hg3;obtain⟨v2,L2,rfl,ho2,hL2,hb3⟩:=hg3.any;have hbn:aW w1 w3:=after (below_drewN w1 n2) hb3;obtain⟨Hbn,Ho2,HL2⟩:=bz hbn ho2 hL2;clear hg3 ho2 hL2 hb3 hbn;go_wp2_with fail
   go_at_call 257;refine(HNY.out _ Hbn.out).mono ?_;intro r w4 hg4;obtain⟨v3,L3,rfl,ho3,hL3,hb4⟩:=hg4.any;obtain⟨YY,HL3,agl⟩:=bz ho3 hL3 (own_below Ho2.out hb4);have Hbm:=bg Hbn hb4;clear hg4 ho3 hL3 hb4;have h2:(∀x∈L2,x<65536)∧L2.length≤9:=by
    rcases HL2.out with h|⟨_,h⟩
    ·exact Hx2.out L2 h
    ·rw[h];simp
   have h3:(∀x∈L3,x<65536)∧L3.length≤9:=by
    rcases HL3.out with h|⟨_,h⟩
    ·exact Hx3.out L3 h
    ·rw[h];simp
   have hwh:=PR L2 L3 gap agl.out YY.out h2.2 h3.2 h2.1 h3.1;have Zd:∀a,nu L2 L3 gap=some a→a.Ok∧a.v6=true:=fun a h=>Aj h h2.1 h3.1
   have hrl:RL=if O2.isSome=true∧O3.isSome=true then(nu L2 L3 gap).bind (fun a=>if iE a=s.data.toList then some a else none)else none:=by
    rw[Hrl.out];rcases HL2.out with h|⟨h,_⟩
    ·rcases HL3.out with h'|⟨h',_⟩
     ·rw[h,h'];rfl
     ·rw[h,h'];rfl
    ·rw[h];rfl
   generalize nu L2 L3 gap=WO at hwh Zd hrl;have HB4:=HB1.out.below Hbm.out HB1.out.lt;have HD4:=HD1.out.below Hbm.out HD1.out.lt;have Hb4:=after Hb1.out Hbm.out;generalize O2.isSome=i2 at hrl⊢;generalize O3.isSome=i3 at hrl⊢;cases WO with
   |none=>
    have hrn:RL=none:=by rw[hrl];split<;>rfl
    obtain⟨HWH,Ze,TV,TW,ace⟩:=eB (show Calls _ _ _ w4 (Got (.tuple #[.agg #[.bool false,.int .u64 0,.int .u64 0],.bool false]) w4)from hwh) hrn HB4 HD4 Hb4;clear hrn hrl hwh Zd h2 h3 HB4 HD4 Hb4;go_upto_region 14 with(go_at_call 258;refine HWH.out.mono ?_;rintro r w5⟨rfl,g5⟩;have TX:=TV.out.below g5 TV.out.lt;have hD5:=TW.out.below g5 TW.out.lt;have hb5:=after ace.out g5;have d0:=hD5.cell 0;have d1:=hD5.cell 1;have d2:=hD5.cell 2;simp at d0 d1 d2;have fr:=(fun i=>hD5.frozen i))
    obtain⟨hD6,hb6⟩:=three (v0:=.bool false) (v1:=.int .u64 0) (v2:=.int .u64 0) hD5 hb5 aR;have gJ:aH (((w5.setCell ⟨w.heap.size+1,0,none⟩ (.bool false)).setCell ⟨w.heap.size+1,1,none⟩ (.int .u64 0)).setCell ⟨w.heap.size+1,2,none⟩ (.int .u64 0)) w.heap.size 52 #[.bool false,.int .u64 0,.int .u64 0]:=((TX.far (p:=⟨w.heap.size+1,0,none⟩) (by simp) _).far (p:=⟨w.heap.size+1,1,none⟩) (by simp) _).far (p:=⟨w.heap.size+1,2,none⟩) (by simp) _;generalize(((w5.setCell ⟨w.heap.size+1,0,none⟩ (.bool false)).setCell ⟨w.heap.size+1,1,none⟩ (.int .u64 0)).setCell ⟨w.heap.size+1,2,none⟩ (.int .u64 0))=w6 at hD6 hb6 gJ⊢;clear d0 d1 d2 fr TX hD5 hb5 g5;have c0:=gJ.cell 0;have c1:=gJ.cell 1;have c2:=gJ.cell 2;simp at c0 c1 c2;have fr:=fun i=>gJ.frozen i
    obtain⟨kQ,HD6,CJ⟩:=bz gJ hD6 hb6;clear gJ hD6 hb6;cases i2
    all_goals cases i3
    all_goals
     go_wp2_with fail
     rw[Ze.out];exact nB (g:=w.heap.size) (x:=2) (y:=3) rfl kQ.out CJ.out (ax _) rfl rfl rfl
   |some a=>
    obtain⟨hok,h6⟩:=Zd a rfl;have htx:=fun v(hv:aW w v)=>rN (ou.out.below hv) a hok
    have hcells:a.cells= #[.bool a.v6,.int .u64 (a.hi:Int),.int .u64 (a.lo:Int)]:=rfl;have hcmp:i2=true→i3=true→RL=if iF a=s then some a else none:=fun e1 e2=>by
     rw[hrl,if_pos ⟨e1,e2⟩];show(if iE a=s.data.toList then some a else none)=_;by_cases h:iF a=s
     ·rw[if_pos h,if_pos (pV.1 h)]
     ·rw[if_neg h,if_neg (fun e=>h (pV.2 e))]
    have hrn:¬(i2=true∧i3=true)→RL=none:=fun h=>by rw[hrl,if_neg h]
    have P0:Calls _ _ _ w4 (Got (.tuple #[.agg a.cells,.bool true]) w4):=hwh;rw[hcells]at P0 htx;obtain⟨TB,hTB⟩:=bw (iF a);rw[←hTB]at htx hcmp;generalize a.v6=av at htx P0 hcells;generalize a.hi=Iz at htx P0 hcells;generalize a.lo=IA at htx P0 hcells;obtain⟨HTX,HWH,qW,TS,Ze,TV,TW,ace⟩:=YF htx P0 hcells hcmp hrn HB4 HD4 Hb4;clear hrn hrl hwh Zd h2 h3 HB4 HD4 Hb4 htx P0 hcells hcmp hTB hok h6;go_upto_region 14 with(go_at_call 258;refine HWH.out.mono ?_;rintro r w5⟨rfl,g5⟩;have TX:=TV.out.below g5 TV.out.lt;have hD5:=TW.out.below g5 TW.out.lt;have hb5:=after ace.out g5;have d0:=hD5.cell 0;have d1:=hD5.cell 1;have d2:=hD5.cell 2;simp at d0 d1 d2;have fr:=(fun i=>hD5.frozen i))
    obtain⟨hD6,hb6⟩:=three (v0:=.bool av) (v1:=.int .u64 Iz) (v2:=.int .u64 IA) hD5 hb5 aR;have gJ:aH (((w5.setCell ⟨w.heap.size+1,0,none⟩ (.bool av)).setCell ⟨w.heap.size+1,1,none⟩ (.int .u64 Iz)).setCell ⟨w.heap.size+1,2,none⟩ (.int .u64 IA)) w.heap.size 52 #[.bool false,.int .u64 0,.int .u64 0]:=((TX.far (p:=⟨w.heap.size+1,0,none⟩) (by simp) _).far (p:=⟨w.heap.size+1,1,none⟩) (by simp) _).far (p:=⟨w.heap.size+1,2,none⟩) (by simp) _;generalize(((w5.setCell ⟨w.heap.size+1,0,none⟩ (.bool av)).setCell ⟨w.heap.size+1,1,none⟩ (.int .u64 Iz)).setCell ⟨w.heap.size+1,2,none⟩ (.int .u64 IA))=w6 at hD6 hb6 gJ⊢;clear d0 d1 d2 fr TX hD5 hb5 g5;have c0:=gJ.cell 0;have c1:=gJ.cell 1;have c2:=gJ.cell 2;simp at c0 c1 c2;have fr:=fun i=>gJ.frozen i
    obtain⟨kQ,HD6,CJ⟩:=bz gJ hD6 hb6;clear gJ hD6 hb6;cases i2
    all_goals cases i3
    case true.true=>
     have hcmp:=TS.out rfl rfl;obtain⟨a0,a1,a2⟩:=jt HD6;have aeq:=ae (HTX.out w6 CJ.out);by_cases hts:TB=s
     ·have hq:=ic hts;rw[if_pos hts]at hcmp;have TY:=ae hcmp;clear hts hcmp c0 c1 c2 fr;go_wp2_with(go_at_call 156;refine aeq.out.mono ?_;rintro r w7⟨rfl,g7⟩;have hb7:=bg CJ g7;have kg:=kQ.out.below g7 kQ.out.lt;have hD7:=HD6.out.below g7 HD6.out.lt;clear a0 a1 a2;have a0:=hD7.cell 0;have a1:=hD7.cell 1;have a2:=hD7.cell 2;simp at a0 a1 a2;have c0:=kg.cell 0;have c1:=kg.cell 1;have c2:=kg.cell 2;simp at c0 c1 c2;have fr:=(fun i=>kg.frozen i);have uO:=ae kg;clear kg hD7 g7)
      rw[TY.out];show bodyPost _ _ (Got (.tuple #[.agg a.cells,.int .i64 0]) w) _ _ _;rw[qW.out];exact nB (g:=w.heap.size) (x:=2) (y:=3) rfl uO.out hb7.out (ax _) rfl rfl rfl
     ·have hq:=gm hts;rw[if_neg hts]at hcmp;have TY:=ae hcmp;clear hts hcmp c0 c1 c2 fr;go_wp2_with(go_at_call 156;refine aeq.out.mono ?_;rintro r w7⟨rfl,g7⟩;have hb7:=bg CJ g7;have kg:=kQ.out.below g7 kQ.out.lt;have hD7:=HD6.out.below g7 HD6.out.lt;clear a0 a1 a2;have a0:=hD7.cell 0;have a1:=hD7.cell 1;have a2:=hD7.cell 2;simp at a0 a1 a2;have c0:=kg.cell 0;have c1:=kg.cell 1;have c2:=kg.cell 2;simp at c0 c1 c2;have fr:=(fun i=>kg.frozen i);have uO:=ae kg;clear kg hD7 g7)
      rw[TY.out];exact nB (g:=w.heap.size) (x:=2) (y:=3) rfl uO.out hb7.out (ax _) rfl rfl rfl
    all_goals
     have hrn:=Ze.out aJ;have agm:=ae hrn;clear hrn;go_wp2_with fail
     rw[agm.out];exact nB (g:=w.heap.size) (x:=2) (y:=3) rfl kQ.out CJ.out (ax _) rfl rfl rfl
def jA(p:Pf):ByteArray:=⟨(qD p).toArray⟩
theorem Jz{p:Pf}{s:ByteArray}:jA p=s↔qD p=s.data.toList:=by
 constructor
 ·intro h;rw[←h];unfold jA;simp
 ·intro h;unfold jA;rw[h]
theorem JA(a:Ad):(iF a).size≤60:=by
 have:=Pg a;simpa[iF,ahT]using this
theorem xC{w:World}(env:Env w)(p:Pf)(ok:p.Ok):Calls ah 239 #[.agg p.cells] w (Got (.string (jA p)) w):=by
 have hm:=zv p ok;have htx:=fun v(hv:aW w v)=>rN (env.below hv) p.a ok.a
 have hit:=fun v(hv:aW w v)=>FG (env.below hv) p.bits (by have:=ok.bits;omega)
 have htl:=JA p.a;have hn:=ok.bits;have hdl:(⟨(cP p.bits).toArray⟩:ByteArray).size≤3:=by
  have:=xc p.bits aR;simpa[ahT]using this
 have hp0:rD p=false→jA p=⟨#[]⟩:=fun h=>by unfold jA qD;rw[if_neg (by rw[h];decide)]
 have hp1:rD p=true→jA p=iF p.a++⟨#[47]⟩++⟨(cP p.bits).toArray⟩:=fun h=>by
  unfold jA qD iF;rw[if_pos h];apply ahX;simp
 generalize jA p=PB at hp0 hp1⊢;generalize rD p=M at hm hp0 hp1;obtain⟨⟨v,x,l⟩,n⟩:=p;unfold Pf.cells at*;unfold Ad.cells at htx;simp only at hm htx hit hn hdl hp1⊢;generalize(⟨(cP n).toArray⟩:ByteArray)=D at hit hdl hp1;generalize iF ⟨v,x,l⟩=TB at htx hp1 htl;obtain⟨Hm,HTX,HIT,Hp0,Hp1⟩:=eB hm htx hit hp0 hp1;have hB0:=aH.new w 215 #[.bool v,.int .u64 x,.int .u64 l,.int .u8 n];have hb0:=boxed w (.cells #[.bool v,.int .u64 x,.int .u64 l,.int .u8 n] 215);clear hm htx hit hp0 hp1 env ok;cases M with
 |false=>
  rw[Hp0.out rfl];go_enter Tryz.func239,Tryz.ntmps239;go_wp2_with(go_at_call 261;refine(Hm.out _).mono ?_;rintro r w1⟨rfl,g1⟩;have hb1:=after hb0 g1)
  go_ret;exact⟨rfl,hb1⟩
 |true=>
  have z1:¬9223372036854775807<TB.size+1:=by omega
  have z2:¬9223372036854775807<TB.size+1+D.size:=by omega
  have hwr:IntKind.i64.wrap (n:Int)=(n:Int):=by rw[ah4];omega
  go_enter Tryz.func239,Tryz.ntmps239;go_wp2_with(go_at_call 261;refine(Hm.out _).mono ?_;rintro r w1⟨rfl,g1⟩;have hb1:=after hb0 g1;have hB1:=hB0.below g1 hB0.lt;clear g1)
  have ht:=hB1.drew;have hv:=hb1.drew;have b0:=ht.cell 0;have b1:=ht.cell 1;have b2:=ht.cell 2;have b3:=ht.cell 3;simp at b0 b1 b2 b3;go_region_held3 (fun w'=>w'.cell? ⟨w.heap.size,0,none⟩=some (.bool v)∧w'.cell? ⟨w.heap.size,1,none⟩=some (.int .u64 x)∧w'.cell? ⟨w.heap.size,2,none⟩=some (.int .u64 l)∧w'.cell? ⟨w.heap.size,3,none⟩=some (.int .u8 n))
   (exact⟨b0,b1,b2,b3⟩)
   (first
     |(go_at_call 156;refine(HTX.out _ hv).mono ?_;rintro r wq⟨rfl,gq⟩;have hv:=after hv gq;have ht:=ht.below gq ht.lt;clear gq;have b0:=ht.cell 0;have b1:=ht.cell 1;have b2:=ht.cell 2;have b3:=ht.cell 3;simp at b0 b1 b2 b3)
     |(go_at_call 178;refine(HIT.out _ hv).mono ?_;rintro r wq⟨rfl,gq⟩;have hv:=after hv gq;have ht:=ht.below gq ht.lt;clear gq;have b0:=ht.cell 0;have b1:=ht.cell 1;have b2:=ht.cell 2;have b3:=ht.cell 3;simp at b0 b1 b2 b3))
  all_goals go_wp2_with fail
  all_goals
   go_ret;exact⟨show Ending.returned (.string (TB++⟨#[47]⟩++D))=_ by rw[Hp1.out (by simp)],hv⟩
end Go.Proofs.YtkjaajcpbldjoabGreatDoor
