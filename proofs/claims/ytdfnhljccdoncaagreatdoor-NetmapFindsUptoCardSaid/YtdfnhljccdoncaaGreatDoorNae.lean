/- Joined out of: PlG Sm TwB PfA PfB PfC PfD WhA IpJ IpK. -/
import Derived.Test.YtdfnhljccdoncaaGreatDoorNad
import Derived.Maps.RangeRun
import Derived.Deep.CutBlock
import Derived.Laws.CopyOwn
set_option linter.unusedVariables false
set_option linter.unusedSimpArgs false
set_option maxHeartbeats 16000000
set_option maxRecDepth 100000
open Array renaming getElem?_eq_none→agm
open Bool renaming true_and→bT,eq_iff_iff→kq
open ByteArray renaming empty→sA
open Go.ByteArray renaming toList_eq→cM
open Go.IntKind renaming wrap_u64→kR,wrap_i64→agp
open Go.Lib renaming hid→ae
open Go.Proofs.Tryz renaming prog→ai,underlying9→bL,underlying5→cB,underlying89→ew
open Go.RowKit renaming Hid→af
open Go.RowKit.Below renaming refl→aK
open Go.Value renaming string→bU
open Go.World renaming block_lt_of_cell?→au,ownsRow_nil→bK
open List renaming getElem?_eq_getElem→ag,length_append→aj,take_succ_eq_append_getElem→aA,getD_eq_getElem?_getD→aB,replicate→aS,append_assoc→aZ,eq_nil_of_length_eq_zero→bS,length_replicate→sB,size_toArray→af4,mem_of_mem_take→agt
open Nat renaming le_refl→aw,le_trans→ax,zero_le→bF,pow_le_pow_right→agc,lt_of_lt_of_le→agh
namespace Go.Proofs.YtdfnhljccdoncaaGreatDoor
open Go.RowKit
attribute [local go_sem↓] Go.wp_at_zero Go.wp_at_succ
def eF(l:List Hs):List Value:=l.flatMap fun x=>[bU x.name,.bool x.net.a.v6,.int .u64 (x.net.a.hi:Int),.int .u64 (x.net.a.lo:Int),.int .u8 (x.net.bits:Int)]
theorem F8:∀(l:List Hs)(k:Nat)(x:Hs),l[k]? =some x→(eF l)[k*5]? =some (.string x.name)∧(eF l)[k*5+1]? =some (.bool x.net.a.v6)∧(eF l)[k*5+2]? =some (.int .u64 (x.net.a.hi:Int))∧(eF l)[k*5+3]? =some (.int .u64 (x.net.a.lo:Int))∧(eF l)[k*5+4]? =some (.int .u8 (x.net.bits:Int)):=by
 intro l
 induction l with
 |nil=>intro k x h;cases h
 |cons y r ih=>
  intro k x h;cases k with
  |zero=>injection h with h;subst h;exact⟨rfl,rfl,rfl,rfl,rfl⟩
  |succ k=>
   rw[show(k+1)*5=k*5+1+1+1+1+1 by omega];exact ih k x h
theorem Lu{w:World}(g:Nat)(s x:ByteArray)(v1:Bool)(v2 v3 v4:Int)(hg:w.cell? ⟨g,0,none⟩=some (.string s)):Calls ai 290 #[.agg #[.string x,.bool v1,.int .u64 v2,.int .u64 v3,.int .u8 v4],.pointer (some ⟨g,0,none⟩)] w (Got (.bool (decide (x=s))) w):=by
 have hx:=aG.new w 300 #[.string x,.bool v1,.int .u64 v2,.int .u64 v3,.int .u8 v4];have hb:=boxed w (.cells #[.string x,.bool v1,.int .u64 v2,.int .u64 v3,.int .u8 v4] 300);have hg2:=(hb.cell (p:=⟨g,0,none⟩) (au w _ hg)).trans hg;have x0:=hx.cell 0;simp at x0;have hd:(x.toList==s.toList)=decide (x=s):=by
  by_cases e:x=s
  ·subst e;simp
  ·rw[decide_eq_false e,beq_eq_false_iff_ne];intro h;rw[cM,cM]at h;exact e (ByteArray.ext (Array.ext' h))
 obtain⟨D,hD⟩:∃D,D=decide (x=s):=⟨_,rfl⟩;rw[←hD]at hd⊢;clear hD hx;go_enter Tryz.func290,Tryz.ntmps290;go_wp2_with fail
 go_ret;exact⟨rfl,hb⟩
theorem F9{w:World}(l:List Hs)(hl:l.length≤4000000)(lv:Value)(hr:aV w lv l.length 5 (eF l))(g:Nat)(s:ByteArray)(hg:w.cell? ⟨g,0,none⟩=some (.string s)):Calls ai 319 #[lv,.func (.func 290) #[] #[.pointer (some ⟨g,0,none⟩)]] w (Zm (l.any fun x=>decide (x.name=s)) w):=by
 obtain⟨A,cap,rfl,hlen,hA⟩:=hr;obtain⟨N,hN⟩:∃n,n=l.length:=⟨_,rfl⟩;obtain⟨R,hR⟩:∃r,r=l.any fun x=>decide (x.name=s):=⟨_,rfl⟩
 rw[←hN]at hA hl⊢;rw[←hR];obtain⟨HA,HN,HR,Hg⟩:=fH hA hN hR hg;clear hA hN hlen hR hg;go_enter Tryz.func319,Tryz.ntmps319;go_wp2_with fail
 go_loopw [8] (fun v8 wr=>∃k:Nat,k≤N∧v8=.int .i64 k∧af (Below w.heap.size w wr)∧af (((l.take k).any fun x=>decide (x.name=s))=false)) (fun v8 _=>N-(intOf v8).toNat)
 case atStart=>exact⟨0,bF _,rfl,ae (aK _ _),ae rfl⟩
 case round=>
  obtain⟨k,hk,rfl,hb,hno⟩:=hrel;by_cases hlt:k<N
  ·have hkl:k<l.length:=by have:=HN.out;omega
   obtain⟨q,o,rfl,hc⟩:=HA.out aY;have htk:=aA hkl;have hx:l[k]? =some l[k]:=ag hkl;have hcell:=F8 l k _ hx;have c0:=hc _ _ hcell.1;have c1:=hc _ _ hcell.2.1;have c2:=hc _ _ hcell.2.2.1;have c3:=hc _ _ hcell.2.2.2.1;have c4:=hc _ _ hcell.2.2.2.2;generalize l[k]=X at htk c0 c1 c2 c3 c4;have d0:=(hb.out.cell (au w _ c0)).trans c0;have d1:=(hb.out.cell (au w _ c1)).trans c1;have d2:=(hb.out.cell (au w _ c2)).trans c2;have d3:=(hb.out.cell (au w _ c3)).trans c3;have d4:=(hb.out.cell (au w _ c4)).trans c4;rw[←Nat.add_assoc]at d1 d2 d3 d4;have hgw:=(hb.out.cell (au w _ Hg.out)).trans Hg.out;have HF:=ae (Lu (w:=wr) g s X.name X.net.a.v6 X.net.a.hi X.net.a.lo X.net.bits hgw);obtain⟨X1,⟨⟨X2,X3,X4⟩,X5⟩⟩:=X;simp only at d0 d1 d2 d3 d4 HF;clear c0 c1 c2 c3 c4 hx hcell hgw hc;by_cases he:X1=s
   ·have hres:R=true:=by
     rw[HR.out];have:(l.take (k+1)).any (fun x=>decide (x.name=s))=true:=by rw[htk,List.any_append];simp[he]
     obtain⟨y,hy,hys⟩:=List.any_eq_true.1 this;exact List.any_eq_true.2 ⟨y,agt hy,hys⟩
    have ej:=ae hres;rw[decide_eq_true he]at HF;clear hres htk he;go_wp2_with(go_at_call 290;(with_reducible refine HF.out.mono ?_);rintro r w2⟨rfl,e2⟩)
    go_ret;exact⟨⟨_,rfl,by rw[ej.out];exact decide_eq_true aY⟩,after hb.out e2⟩
   ·have zw:((l.take (k+1)).any fun x=>decide (x.name=s))=false:=by rw[htk,List.any_append,hno.out];simp[he]
    have F7:=ae zw;rw[decide_eq_false he]at HF;clear zw htk he;go_wp2_with(go_at_call 290;(with_reducible refine HF.out.mono ?_);rintro r w2⟨rfl,e2⟩)
    go_roundw
    case rel=>exact⟨k+1,by omega,by go_num,(bm hb e2),F7⟩
    case measure=>simp[intOf];omega
  ·obtain rfl:k=N:=by omega
   have hres:R=false:=by
    have:=hno.out;rw[List.take_of_length_le (by have:=HN.out;omega)]at this;rw[HR.out];exact this
   have ej:=ae hres;clear hres;go_wp2_with fail
   go_ret;exact⟨⟨_,rfl,by rw[ej.out];rfl⟩,hb.out⟩
theorem xx{w:World}(l:List Hs)(hl:l.length≤4000000)(lv:Value)(hr:aV w lv l.length 5 (eF l))(g:Nat)(s:ByteArray)(hg:w.cell? ⟨g,0,none⟩=some (.string s)):Calls ai 289 #[lv,.func (.func 290) #[] #[.pointer (some ⟨g,0,none⟩)]] w (Got (.bool (l.any fun x=>decide (x.name=s))) w):=by
 have HI:=ae (F9 l hl lv hr g s hg);generalize(l.any fun x=>decide (x.name=s))=R at HI⊢;clear hg hr;go_enter Tryz.func289,Tryz.ntmps289;go_wp2_with(go_at_call 319;(with_reducible refine HI.out.mono ?_);rintro r w2⟨⟨i,rfl,hi⟩,e2⟩)
 refine bodyPost_ret (results_tmp rfl _ _ _) rfl ⟨?_,e2⟩;rw[←hi];rfl
theorem sS{w:World}(l:List Hs)(hl:l.length≤4000000)(lv:Value)(hr:aV w lv l.length 5 (eF l))(s:ByteArray):Calls ai 251 #[lv,.string s] w (Got (.bool (l.any fun x=>decide (x.name=s))) w):=by
 have hb0:=boxed w (.cells #[.string s] 9);have hg:(w.alloc (.cells #[.string s] 9)).cell? ⟨w.heap.size,0,none⟩=some (.string s):=(aG.new w 9 #[.string s]).cell 0;have HI:=ae (xx l hl lv (hr.below hb0) w.heap.size s hg);generalize(l.any fun x=>decide (x.name=s))=R at HI⊢;have hmf:∀(fn:Fn)(first cap:Array Value)(w:World),(Instr.makeFunc fn first cap).run ai w=.ok (.func fn first cap) w:=fun _ _ _ _=>rfl
 clear hg hr;go_enter Tryz.func251,Tryz.ntmps251;go_wp2_with(go_at_call 289;(with_reducible refine HI.out.mono ?_);rintro r w2⟨rfl,e2⟩)
 go_ret;exact⟨rfl,after hb0 e2⟩
open Go.ChangeMaps (setBlock)
structure SE where
 tx:ByteArray
 val:Value
 born:Nat
def SE.entry(x:SE):MapEntry:={key:=.string x.tx,val:=x.val,born:=x.born}
def ents(L:List SE):Array MapEntry:=(L.map SE.entry).toArray
def ek(w:World)(m:Nat)(L:List SE)(clock:Nat):Prop:=w.heap[m]? =some (.map (ents L) clock)
theorem bytes_beq(a b:ByteArray):(a==b)=true↔a=b:=by
 rw[beq_toListBytes,beq_iff_eq,cM,cM];constructor
 ·intro h;obtain⟨⟨x⟩⟩:=a;obtain⟨⟨y⟩⟩:=b;simpa using h
 ·rintro rfl;rfl
theorem uX(a b:ByteArray):(a==b)=(b==a):=by
 rw[kq,bytes_beq,bytes_beq];exact⟨Eq.symm,Eq.symm⟩
def at_(L:List SE)(s:ByteArray):Option Nat:=L.findIdx? fun x=>x.tx==s
theorem zy(s:ByteArray)(L:List SE):∀i,Instr.findNow .string (.string s) (L.map SE.entry) i=some ((at_ L s).map fun j=>(i+j,(L.getD j ⟨s,undef,0⟩).val)):=by
 unfold at_
 induction L with
 |nil=>intro i;rfl
 |cons x L ih=>
  intro i;simp only[List.map_cons,Instr.findNow,SE.entry,Instr.sameNow,List.findIdx?_cons];rw[uX s x.tx];cases h:x.tx==s with
  |true=>simp[List.getD_cons_zero]
  |false=>
   have:=ih (i+1);simp only[this];cases L.findIdx? (fun x=>x.tx==s)with
   |none=>simp
   |some j=>simp;omega
section
variable{P:Program}{T K E:TypeId}{w:World}{m clock:Nat}{L:List SE}
theorem ek.lt(h:ek w m L clock):m<w.heap.size:=by
 rcases Nat.lt_or_ge m w.heap.size with h1|h1
 ·exact h1
 ·unfold ek at h;rw[agm h1]at h;cases h
theorem run_getObj_map{es:Array MapEntry}{c:Nat}(h:w.heap[m]? =some (.map es c)):(getObj m).run P w=.ok (.map es c) w:=by simp[getObj,Sem.run,h]
theorem run_setObj_map{es:Array MapEntry}{c:Nat}(h:w.heap[m]? =some (.map es c))(o':Obj):(setObj m o').run P w=.ok () (setBlock w m o'):=by simp[setObj,Sem.run,h,setBlock]
theorem rC(n:Nat)(b:Bool)(s:Value)(hK:P.underlying K=some .string):(Instr.checkKey b (n+1) K s).run P w=.ok () w:=by
 simp[Instr.checkKey,run_underlying hK]
theorem dW(b:Bool)(s:Value)(hK:P.underlying K=some .string):(Instr.checkKey b 10000 K s).run P w=.ok () w:=rC 9999 b s hK
theorem fS(s:ByteArray)(hK:P.underlying K=some .string):(Instr.findKey K (.string s) (L.map SE.entry)).run P w=.ok ((at_ L s).map fun j=>(j,(L.getD j ⟨s,undef,0⟩).val)) w:=by
 simp[Instr.findKey,run_underlying hK,zy s L 0]
theorem jj(hT:P.underlying T=some (.map K E))(hK:P.underlying K=some .string)(h:ek w m L clock)(s:ByteArray){j:Nat}{x:SE}(hj:at_ L s=some j)(hx:L[j]? =some x):(Instr.lookup T (.map (some m)) (.string s) true).run P w=.ok (.tuple #[x.val,.bool true]) w:=by
 simp[Instr.lookup,run_underlying hT,run_getObj_map h,dW _ _ hK,ents,fS s hK,hj,hx,aB]
theorem pB(hT:P.underlying T=some (.map K E))(hK:P.underlying K=some .string)(h:ek w m L clock)(s:ByteArray)(hj:at_ L s=none){z:Value}(hz:(zeroValue E).run P w=.ok z w):(Instr.lookup T (.map (some m)) (.string s) true).run P w=.ok (.tuple #[z,.bool false]) w:=by
 simp[Instr.lookup,run_underlying hT,run_getObj_map h,dW _ _ hK,ents,fS s hK,hj,hz]
theorem kV(hT:P.underlying T=some (.map K E))(hK:P.underlying K=some .string)(h:ek w m L clock)(s:ByteArray)(hj:at_ L s=none)(v:Value):(Instr.mapUpdate T (.map (some m)) (.string s) v).run P w=.ok () (setBlock w m (.map (ents (L++[⟨s,v,clock⟩])) (clock+1))):=by
 simp[Instr.mapUpdate,run_underlying hT,run_getObj_map h,dW _ _ hK,ents,fS s hK,hj,run_setObj_map h,SE.entry]
theorem Keeps.setBlock{S:Nat→Prop}{a:World}{r:Nat}(h:Keeps S a w)(hr:S r∨a.heap.size≤r)(o:Obj):Keeps S a (setBlock w r o):=⟨h.os,h.tape,h.output,by simpa[Go.ChangeMaps.setBlock]using h.size,fun k hk hs=>by
 have:r≠k:=by rintro rfl;rcases hr with h1|h1;exact hs h1;omega
 rw[←h.block k hk hs];simp[Go.ChangeMaps.setBlock,Array.getElem?_setIfInBounds,this]⟩
theorem ek.keep{S:Nat→Prop}{w':World}(h:ek w m L clock)(hk:Keeps S w w')(hg:¬S m):ek w' m L clock:=(hk.block m h.lt hg).trans h
theorem ek.below{B:Nat}{w':World}(h:ek w m L clock)(hb:Below B w w')(hg:m<B):ek w' m L clock:=(hb.block m hg).trans h
theorem ek.drewN(h:ek w m L clock)(n:Nat):ek (w.drewN n) m L clock:=h
theorem ek.aM(h:ek w m L clock)(L':List SE)(c':Nat):ek (setBlock w m (.map (ents L') c')) m L' c':=by
 have:=h.lt;unfold ek Go.ChangeMaps.setBlock;simp[this]
theorem eD(hT:P.underlying T=some (.map K E))(hK:P.underlying K=some .string)(h:ek w m L clock)(s:ByteArray)(hj:at_ L s=none)(v:Value):∃W,(Instr.mapUpdate T (.map (some m)) (.string s) v).run P w=.ok () W∧(Instr.mapUpdate T (.map (some m)) (.string s) v).run P w.drew=.ok () W.drew∧(∀n,(Instr.mapUpdate T (.map (some m)) (.string s) v).run P (w.drewN n)=.ok () (W.drewN n))∧Keeps (fun g=>g=m) w W∧ek W m (L++[⟨s,v,clock⟩]) (clock+1):=⟨setBlock w m (.map (ents (L++[(⟨s,v,clock⟩:SE)])) (clock+1)),kV hT hK h s hj v,kV (w:=w.drew) hT hK h s hj v,fun n=>kV hT hK (h.drewN n) s hj v,(Keeps.refl (fun g=>g=m) w).setBlock (.inl rfl) _,h.aM _ _⟩
def Iter(w:World)(r m since:Nat)(seen:Array Nat)(last:Nat):Prop:=w.heap[r]? =some (.mapIter (some m) since seen last)
theorem Iter.lt{r since last:Nat}{seen:Array Nat}(h:Iter w r m since seen last):r<w.heap.size:=by
 rcases Nat.lt_or_ge r w.heap.size with h1|h1
 ·exact h1
 ·unfold Iter at h;rw[agm h1]at h;cases h
end
def CS(L:List Nat):List (List UInt8):=L.map hexL
theorem Lx{L:List Nat}{k:Nat}(hk:k<L.length):CS (L.take (k+1))=CS (L.take k)++[hexL (L.getD k 0)]:=by
 unfold CS;rw[aA hk,List.map_append,aB,ag hk];rfl
theorem yr(L:List (List UInt8))(x:List UInt8):(strs (L++[x])).map bU=(strs L).map bU++[.string ⟨x.toArray⟩]:=by
 unfold strs;simp
theorem pC{L:List Nat}(h:∀x∈L,x<65536)(hl:L.length≤8):(iE L).length≤40:=by
 have:=nX L h;omega
theorem Ly{w:World}(env:Env w)(g o c:Nat)(L:List Nat)(hL:∀x∈L,x<65536)(hl:L.length≤8)(hg:g<w.heap.size)(hc:∀j,j<L.length→w.cell? ⟨g,o+j,none⟩=some (.int .u16 (L.getD j 0:Int))):Calls ai 239 #[.slice (some ⟨g,o,none⟩) L.length c] w (Got (.string ⟨(iE L).toArray⟩) w):=by
 obtain⟨i0,hi,hz0,hz1,hz2⟩:=info_parts qc;obtain⟨mU,Hc,HL⟩:=bO env hc hL;clear env hc hL;obtain⟨n,hn⟩:∃n,n=L.length:=⟨_,rfl⟩;rw[←hn]at hl⊢;have Hn:=ae hn;clear hn;go_enter Tryz.func239,Tryz.ntmps239;go_wp2_with fail
 go_loopw [3,8] (fun v i wr=>∃k:Nat,k≤n∧i=.int .i64 k∧af (wr.ownsRow w.heap.size 9 1 v k ((strs (CS (L.take k))).map bU))∧af (Below w.heap.size w wr)) (fun _ i _=>n-(intOf i).toNat)
 case atStart=>exact⟨0,bF _,rfl,ae (bK _ _ _ _),ae (aK _ _)⟩
 case round=>
  obtain⟨k,hk,rfl,hown,hb⟩:=hrel;by_cases hlt:k<n
  ·have hkl:k<L.length:=by have:=Hn.out;omega
   have cx:=(hb.out.cell (p:=⟨g,o+k,none⟩) hg).trans (Hc.out k hkl);have hx:L.getD k 0<65536:=by
    rw[aB,ag hkl];exact HL.out _ (List.getElem_mem hkl)
   have hs:=Lx hkl;have hq:(strs (CS (L.take (k+1)))).map bU=(strs (CS (L.take k))).map bU++[.string ⟨(hexL (L.getD k 0)).toArray⟩]:=by rw[hs,yr]
   have Hq:=ae hq;clear hs hq;generalize L.getD k 0=X at cx hx Hq;have HF:=ae (fmt16 (w:=wr) X hx (mU.out.below hb.out).db);go_wp2_with(first
    |(go_at_call 240;(with_reducible refine HF.out.mono ?_);rintro r w2⟨rfl,g2⟩;have ho2:=ae (own_below hown.out g2);have hb2:=bm hb g2;clear g2)
    |(at_builtin;refine wpList_append_own _ rfl _ _ 27 rfl w.heap.size 9 i0 (.string sA) 1 16 Tryz.underlying27 hi hz0 hz1 hz2 rfl aI _ k _ rfl (ho2.out.alloc _) ⟨w2.heap.size,0,none⟩ 1 1 [.string ⟨(hexL X).toArray⟩] rfl rfl (cell_one_new _ _ _) (fun x hx=>by simp at hx;subst hx;rfl) (by unfold maxLen;omega) aY (by have:=hb2.out.size;simp;omega) ?_;intro v' w3 hown' hgrow3 hnil3;have VP:=ae hown';have hb3:=ae ((hb2.out.alloc (hb2.out.size) _).grown hgrow3 (by have:=hb2.out.size;simp;omega) (fun q hq=>(ho2.out.lt q hq).1));clear hown' hgrow3 hnil3))
   go_roundw
   case rel=>exact⟨k+1,by omega,by go_num,ae (by rw[Hq.out];exact VP.out),hb3⟩
   case measure=>simp[intOf];omega
  ·obtain rfl:k=n:=by omega
   have hown:=hown.out;rw[show L.take k=L by rw[Hn.out,List.take_length]]at hown;have hlen:(CS L).length=k:=by rw[Hn.out];simp[CS]
   rw[←hlen]at hown;have HJ:=ae (CM (w:=wr) 58 hown aY (by have:=pC HL.out (by have:=Hn.out;omega);exact ax this aI));clear hown hlen;go_wp2_with(go_at_call 237;(with_reducible refine HJ.out.mono ?_);rintro r w2⟨rfl,g2⟩;have hb2:=bm hb g2;clear g2)
   go_ret;exact⟨rfl,hb2.out⟩
def mk(k:Nat):Nat:=18446744073709551616-2^k
theorem uY{k:Nat}(h:k≤64):2^k≤18446744073709551616:=ax (agc aI h) (by decide)
theorem Zn(k:Nat):mk k<18446744073709551616:=by
 have:0<2^k:=Nat.pow_pos aI;unfold mk;omega
theorem aak{k:Nat}(h:k≤64):18446744073709551615-mk k=2^k-1:=by
 have:=uY h;have:0<2^k:=Nat.pow_pos aI;unfold mk;omega
theorem yt{x k:Nat}(hx:x<18446744073709551616)(h:k≤64):bits .andNot .u64 (x:Int) ((mk k:Nat):Int)=((x%2^k:Nat):Int):=by
 rw[u64_andNot_nat x _ hx (Zn k),aak h,Nat.and_two_pow_sub_one_eq_mod]
theorem Ge{k:Nat}(h:k≤64)(i:Nat):(mk k).testBit i=(decide (i<64)&& !decide (i<k)):=by
 have h0:0<2^k:=Nat.pow_pos aI;have h1:=uY h;have:=Nat.testBit_two_pow_sub_succ (show 2^k-1<2^64 by omega) i;rw[Nat.testBit_two_pow_sub_one,show 2^64-(2^k-1+1)=mk k by unfold mk;omega]at this;exact this
theorem VQ{x k:Nat}(hx:x<18446744073709551616)(h:k≤64):x&&&mk k=x/2^k*2^k:=by
 rw[←Nat.shiftRight_eq_div_pow,←Nat.shiftLeft_eq];apply Nat.eq_of_testBit_eq;intro i;rw[Nat.testBit_and,Ge h,Nat.testBit_shiftLeft,Nat.testBit_shiftRight];by_cases hi:i<64
 ·by_cases hk:i<k
  ·simp[hk,Nat.not_le.2 hk]
  ·rw[show k+(i-k)=i by omega];simp[hi,hk,Nat.not_lt.1 hk]
 ·have:x.testBit i=false:=Nat.testBit_lt_two_pow (agh hx (ax (by decide:18446744073709551616≤2^64) (agc aI aY)));rw[show k+(i-k)=i by omega,this];simp
theorem PW{x k:Nat}(hx:x<18446744073709551616)(h:k≤64):bits .and .u64 (x:Int) ((mk k:Nat):Int)=((x/2^k*2^k:Nat):Int):=by
 rw[u64_and_nat x _ hx (Zn k),VQ hx h]
def kH(a:Ad)(n:Nat):Nat:=if a.v6 then 64-n else 0
def kL(a:Ad)(n:Nat):Nat:=if a.v6 then(if n≤64 then 64 else 128-n)else 32-n
theorem aco(a:Ad)(n:Nat):kH a n≤64:=by unfold kH;split<;>omega
theorem acp{a:Ad}{n:Nat}:kL a n≤64:=by
 unfold kL;split
 ·split<;>omega
 ·omega
theorem PX(hi lo k:Nat)(hl:lo<18446744073709551616):(hi*2^64+lo)%2^(k+64)=hi%2^k*2^64+lo:=by
 rw[Nat.pow_add,Nat.mul_comm (2^k),Nat.mod_mul];have e1:(hi*2^64+lo)%2^64=lo:=by omega
 have e2:(hi*2^64+lo)/2^64=hi:=by omega
 rw[e1,e2,Nat.mul_comm (2^64)];omega
theorem VR(hi lo k:Nat)(hk:k≤64):(hi*2^64+lo)%2^k=lo%2^k:=by
 have:hi*2^64=2^k*(hi*2^(64-k)):=by
  rw[Nat.mul_left_comm,←Nat.pow_add,show k+(64-k)=64 by omega]
 rw[this,Nat.mul_add_mod]
theorem val_mod{a:Ad}(ok:a.Ok){n:Nat}(hn:n≤a.size)(h4:a.v6=false→a.hi=0):a.val%2^(a.size-n)=0↔a.hi%2^kH a n=0∧a.lo%2^kL a n=0:=by
 have hl:=ok.lo;unfold Ad.val Ad.size kH kL at*;cases h6:a.v6 with
 |true=>
  rw[h6]at hn;simp only[if_true]at hn⊢;by_cases h:n≤64
  ·rw[show 128-n=(64-n)+64 by omega,PX _ _ _ hl,if_pos h,Nat.mod_eq_of_lt (a:=a.lo) aY];omega
  ·rw[VR _ _ _ aY,if_neg h,show 64-n=0 by omega,Nat.pow_zero,Nat.mod_one];simp
 |false=>
  rw[h6]at hn;simp only[Bool.false_eq_true,if_false]at hn⊢;rw[h4 h6];simp
theorem aal{a:Ad}(h:a.may=true):a.v6=false→a.hi=0:=fun h6=>(may4 h h6).1
theorem VS{p:Pf}(ok:p.a.Ok):pX p=(p.a.may&&decide (p.bits≤p.a.size)&&(decide (p.a.hi%2^kH p.a p.bits=0)&&decide (p.a.lo%2^kL p.a p.bits=0))):=by
 unfold pX;cases hm:p.a.may with
 |false=>rfl
 |true=>
  by_cases hn:p.bits≤p.a.size
  ·rw[decide_eq_true hn,bT,bT,bT,←Bool.decide_and];exact decide_eq_decide.2 (val_mod ok hn (aal hm))
  ·rw[decide_eq_false hn];rfl
theorem Gf{k:Nat}(h:k≤64):IntKind.u64.wrap (18446744073709551615*2^k)=((mk k:Nat):Int):=by
 have h1:=uY h;have h0:0<2^k:=Nat.pow_pos aI;rw[kR];unfold mk;rw[show(2:Int)^k=((2^k:Nat):Int) by simp];generalize 2^k=q at h1 h0;omega
theorem Jv(x k:Nat):(x:Int)/2^k=((x/2^k:Nat):Int):=by simp
theorem zz{i j i' j':Int}(h:i=i')(h':j=j'):Ending.returned (.tuple #[.int .u64 i,.int .u64 j])=.returned (.tuple #[.int .u64 i',.int .u64 j']):=by rw[h,h']
theorem size_any(a:Ad)(w:World):Calls ai 356 #[.agg a.cells] w fun r w'=>r=.returned (.int .u8 (a.size:Int))∧Below w.heap.size w w':=by
 obtain⟨v,h,l⟩:=a;unfold Ad.cells;cases v
 all_goals
  go_enter Tryz.func356,Tryz.ntmps356;go_wp2_with fail
  go_ret;exact⟨rfl,boxed _ _⟩
theorem LC(a:Ad)(n:Nat)(hn:n≤a.size)(w:World):Calls ai 357 #[.agg a.cells,.int .u8 n] w fun r w'=>r=.returned (.tuple #[.int .u64 (mk (kH a n):Int),.int .u64 (mk (kL a n):Int)])∧Below w.heap.size w w':=by
 obtain⟨v,h,l⟩:=a;unfold Ad.cells Ad.size kH kL at*;cases v with
 |false=>
  simp only[Bool.false_eq_true,if_false]at hn⊢;have e1:((32:Int)-(n:Int)).toNat=32-n:=by omega
  go_enter Tryz.func357,Tryz.ntmps357;go_wp2_with fail
  go_ret2;exact⟨zz rfl (Gf aY),boxed _ _⟩
 |true=>
  simp only[if_true]at hn⊢;have e1:((64:Int)-(n:Int)).toNat=64-n:=by omega
  have e2:((128:Int)-(n:Int)).toNat=128-n:=by omega
  by_cases hc:n≤64
  ·rw[if_pos hc];go_enter Tryz.func357,Tryz.ntmps357;go_wp2_with fail
   go_ret2;exact⟨zz (Gf aY) rfl,boxed _ _⟩
  ·rw[if_neg hc];have e3:mk (64-n)=18446744073709551615:=by rw[show 64-n=0 by omega];rfl
   rw[e3];go_enter Tryz.func357,Tryz.ntmps357;go_wp2_with fail
   go_ret2;exact⟨zz rfl (Gf aY),boxed _ _⟩
theorem xy(p:Pf)(ok:p.Ok)(w:World):Calls ai 342 #[.agg p.cells] w (Got (.bool (pX p)) w):=by
 obtain⟨HE,Hm,Hs⟩:=bO (VS (p:=p) ok.a) (kz p.a ok.a) (size_any p.a);have hn:=ok.bits;have hh:=ok.a.hi;have hl:=ok.a.lo;have HX:p.bits≤p.a.size→∀w,Calls ai 357 #[.agg p.a.cells,.int .u8 (p.bits:Int)] w fun r w'=>r=.returned (.tuple #[.int .u64 (mk (kH p.a p.bits):Int),.int .u64 (mk (kL p.a p.bits):Int)])∧Below w.heap.size w w':=fun h w=>LC p.a p.bits h w
 have eH:=yt hh (aco p.a p.bits);have eL:=yt hl (acp (a:=p.a) (n:=p.bits));generalize mk (kH p.a p.bits)=MH at HX eH;generalize mk (kL p.a p.bits)=ML at HX eL;generalize p.a.hi%2^kH p.a p.bits=XH at HE eH;generalize p.a.lo%2^kL p.a p.bits=XL at HE eL;generalize hR:pX p=RR at HE⊢;clear hR;generalize hM:p.a.may=M at Hm HE HX;generalize hS:p.a.size=SZ at Hs HE HX;have hS2:SZ≤128:=by rw[←hS];exact size_le _
 clear hM hS;obtain⟨⟨v,h,l⟩,n⟩:=p;unfold Pf.cells;unfold Ad.cells at*;simp only at hn hh hl HE Hm Hs HX eH eL⊢;have hB0:=aG.new w 243 #[.bool v,.int .u64 h,.int .u64 l,.int .u8 n];have hb0:=(boxed w (.cells #[.bool v,.int .u64 h,.int .u64 l,.int .u8 n] 243)).drew;obtain⟨EH,EL⟩:=aQ eH eL;clear eH eL;cases M with
 |false=>
  have e:RR=false:=by rw[HE.out];rfl
  rw[e];go_enter Tryz.func342,Tryz.ntmps342;go_wp2_with fail
  generalize w.alloc (.cells #[.bool v,.int .u64 h,.int .u64 l,.int .u8 n] 243)=v0 at hB0 hb0⊢;generalize hg:w.heap.size=g at hB0⊢;have hB0:=hB0.drew;refine wp_region_held_drew (S:=(fun w'=>w'.cell? ⟨g,0,none⟩=some (.bool v)∧w'.cell? ⟨g,1,none⟩=some (.int .u64 h)∧w'.cell? ⟨g,2,none⟩=some (.int .u64 l)∧w'.cell? ⟨g,3,none⟩=some (.int .u8 n))) bJ ⟨hB0.cell 0,hB0.cell 1,hB0.cell 2,hB0.cell 3⟩ (fun hHeld=>?_);refine bB 0 ?_
  refine bB 1 ?_
  refine mM 2 fun K hK=>?_;go_simp;refine(Hm.out _).mono ?_;rintro r v1⟨rfl,d1⟩;have hb1:=after hb0 d1;have hB1:=hB0.below d1 hB0.lt;refine hK.out _ _ ⟨hB1.cell 0,hB1.cell 1,hB1.cell 2,hB1.cell 3⟩ (fun hHeld=>?_);clear hK K;try simp only[dX]
  refine bB 3 ?_
  refine bB 4 ?_
  refine xb 5 ?_
  refine xb 6 ?_
  refine xb 7 ?_
  refine xb 8 ?_
  refine xb 9 ?_
  refine xb 10 ?_
  refine bB 11 ?_
  refine tX ?_;go_wp2_with fail
  go_ret;exact⟨rfl,hb1⟩
 |true=>
  by_cases hle:n≤SZ
  ·have HX2:=ae (HX hle);clear HX;have hle':¬(SZ:Int)<(n:Int):=by omega
   have hle2:decide ((SZ:Int)<(n:Int))=false:=decide_eq_false hle';have hle3:decide (SZ<n)=false:=decide_eq_false aY;have e:RR=(decide (XH=0)&&decide (XL=0)):=by rw[HE.out,decide_eq_true hle];rfl
   have He:=ae e;clear e;go_enter Tryz.func342,Tryz.ntmps342;go_wp2_with fail
   generalize w.alloc (.cells #[.bool v,.int .u64 h,.int .u64 l,.int .u8 n] 243)=v0 at hB0 hb0⊢;generalize hg:w.heap.size=g at hB0⊢;have hB0:=hB0.drew;refine wp_region_held_drew (S:=(fun w'=>w'.cell? ⟨g,0,none⟩=some (.bool v)∧w'.cell? ⟨g,1,none⟩=some (.int .u64 h)∧w'.cell? ⟨g,2,none⟩=some (.int .u64 l)∧w'.cell? ⟨g,3,none⟩=some (.int .u8 n))) bJ ⟨hB0.cell 0,hB0.cell 1,hB0.cell 2,hB0.cell 3⟩ (fun hHeld=>?_);refine bB 0 ?_
   refine bB 1 ?_
   refine mM 2 fun K hK=>?_;go_simp;refine(Hm.out _).mono ?_;rintro r v1⟨rfl,d1⟩;have hb1:=after hb0 d1;have hB1:=hB0.below d1 hB0.lt;refine hK.out _ _ ⟨hB1.cell 0,hB1.cell 1,hB1.cell 2,hB1.cell 3⟩ (fun hHeld=>?_);clear hK K;try simp only[dX]
   refine bB 3 ?_
   refine bB 4 ?_
   refine bB 5 ?_
   refine bB 6 ?_
   refine bB 7 ?_
   refine bB 8 ?_
   refine mM 9 fun K hK=>?_;go_simp;refine(Hs.out _).mono ?_;rintro r v2⟨rfl,d2⟩;have hb2:=after hb1 d2;have hB2:=hB1.below d2 hB1.lt;refine hK.out _ _ ⟨hB2.cell 0,hB2.cell 1,hB2.cell 2,hB2.cell 3⟩ (fun hHeld=>?_);clear hK K;try simp only[dX]
   refine bB 10 ?_
   refine bB 11 ?_
   refine tX ?_;have c0:=hB2.cell 0;have c1:=hB2.cell 1;have c2:=hB2.cell 2;have c3:=hB2.cell 3;simp at c0 c1 c2 c3;obtain⟨HB2,Hb2⟩:=aQ hB2 hb2;have eH:=EH.out;have eL:=EL.out;have hg2:g<v2.heap.size:=hB2.lt;clear hB0 hb0 hB1 hb1 hB2 hb2;by_cases h1:XH=0
   all_goals by_cases h2:XL=0
   all_goals
    have q1:((XH:Int)==0)=decide (XH=0):=by rw[kq,beq_iff_eq,decide_eq_true_iff];omega
    have q2:((XL:Int)==0)=decide (XL=0):=by rw[kq,beq_iff_eq,decide_eq_true_iff];omega
    first|rw[decide_eq_true h1]at q1 He|rw[decide_eq_false h1]at q1 He
    first|rw[decide_eq_true h2]at q2 He|rw[decide_eq_false h2]at q2 He
    clear h1 h2;go_wp2_with(go_at_call 357;(with_reducible refine(HX2.out _).mono ?_);rintro r v3⟨rfl,d3⟩;have hc3:=(ab8 d3).1)
    go_ret;exact⟨show Ending.returned (.bool _)=_ by rw[He.out];rfl,after Hb2.out d3⟩
  ·have hle':(SZ:Int)<(n:Int):=by omega
   have hle2:decide ((SZ:Int)<(n:Int))=true:=decide_eq_true hle';have hle3:decide (SZ<n)=true:=decide_eq_true aY;have e:RR=false:=by rw[HE.out,decide_eq_false hle];rfl
   rw[e];clear HX e;go_enter Tryz.func342,Tryz.ntmps342;go_wp2_with fail
   generalize w.alloc (.cells #[.bool v,.int .u64 h,.int .u64 l,.int .u8 n] 243)=v0 at hB0 hb0⊢;generalize hg:w.heap.size=g at hB0⊢;have hB0:=hB0.drew;refine wp_region_held_drew (S:=(fun w'=>w'.cell? ⟨g,0,none⟩=some (.bool v)∧w'.cell? ⟨g,1,none⟩=some (.int .u64 h)∧w'.cell? ⟨g,2,none⟩=some (.int .u64 l)∧w'.cell? ⟨g,3,none⟩=some (.int .u8 n))) bJ ⟨hB0.cell 0,hB0.cell 1,hB0.cell 2,hB0.cell 3⟩ (fun hHeld=>?_);refine bB 0 ?_
   refine bB 1 ?_
   refine mM 2 fun K hK=>?_;go_simp;refine(Hm.out _).mono ?_;rintro r v1⟨rfl,d1⟩;have hb1:=after hb0 d1;have hB1:=hB0.below d1 hB0.lt;refine hK.out _ _ ⟨hB1.cell 0,hB1.cell 1,hB1.cell 2,hB1.cell 3⟩ (fun hHeld=>?_);clear hK K;try simp only[dX]
   refine bB 3 ?_
   refine bB 4 ?_
   refine bB 5 ?_
   refine bB 6 ?_
   refine bB 7 ?_
   refine bB 8 ?_
   refine mM 9 fun K hK=>?_;go_simp;refine(Hs.out _).mono ?_;rintro r v2⟨rfl,d2⟩;have hb2:=after hb1 d2;have hB2:=hB1.below d2 hB1.lt;refine hK.out _ _ ⟨hB2.cell 0,hB2.cell 1,hB2.cell 2,hB2.cell 3⟩ (fun hHeld=>?_);clear hK K;try simp only[dX]
   refine bB 10 ?_
   refine bB 11 ?_
   refine tX ?_;go_wp2_with fail
   go_ret;exact⟨rfl,hb2⟩
theorem fe(w:World)(o o':Obj):Below w.heap.size w ((w.alloc o).alloc o'):=after (boxed _ _) (boxed _ _)
theorem PY(a b:Ad)(w:World):Calls ai 202 #[.agg a.cells,.agg b.cells] w (Got (.bool (uQ a b)) w):=by
 obtain⟨v,x,l⟩:=a;obtain⟨v',x',l'⟩:=b;unfold Ad.cells uQ;simp only;cases v
 all_goals cases v'
 case false.true|true.false=>
  go_enter Tryz.func202,Tryz.ntmps202;go_wp2_with fail
  go_ret;exact⟨rfl,fe _ _ _⟩
 all_goals
  by_cases e:x=x'
  ·subst e;rw[if_neg aI,if_neg (by simp)];go_enter Tryz.func202,Tryz.ntmps202;go_wp2_with fail
   go_ret;exact⟨rfl,fe _ _ _⟩
  ·have e1:((x:Int) !=(x':Int))=true:=by simp;omega
   rw[if_neg aI,if_pos e];have He:=ae e;clear e;go_enter Tryz.func202,Tryz.ntmps202;go_wp2_with fail
   go_ret;exact⟨rfl,fe _ _ _⟩
theorem kW(z:Value)(hz:z.cells= #[z])(k:Nat):Builtin.zeroCells z.cells k=(aS k z).toArray:=by
 unfold Builtin.zeroCells;rw[hz];apply Array.ext
 ·simp
 ·intro i h1 h2;simp;have:i%1=0:=Nat.mod_one i;simp[this]
section
variable{P:Program}(w:World)
theorem tK(base:Nat)(t tx ty e:TypeId)(i:TypeInfo)(z:Value)(ht:P.underlying t=some (.slice e))(hx:P.underlying tx=some (.int .i64))(hi:P.info? e=some i)(hz:i.zero=some z)(hsize:i.size=1)(hby:i.bytes=8)(hzc:z.cells= #[z])(hz1:z.oneCell'=true)(v:Value)(n:Nat)(xs:List Value)(hown:w.ownsRow base e 1 v n xs)(k:Nat)(hk:k≤1000)(hn:n≤1000)(hbase:base≤w.heap.size):∃v' w',(Builtin.append_ #[t,tx] ty #[v,.int .i64 k]).run P w=.ok v' w'∧w'.ownsRow base e 1 v' (n+k) (xs++aS k z)∧w.grownBy w' v.ownBlock:=by
 have hwr:IntKind.i64.wrap (k:Int)=(k:Int):=by rw[agp];omega
 have hw0:IntKind.i64.wrap 0=0:=by rw[agp];decide
 have hneg:¬((k:Int)<0):=by omega
 have hbig:¬(281474976710656<(k:Int)*8):=by omega
 have hlen:(xs++aS k z).length=(n+k)*1:=by rw[aj,hown.1,sB];omega
 have grown:∀(old:Nat),old<n+k→∀(row:Option Nat),(w.drew.alloc (.cells (xs.toArray++(aS k z).toArray++Builtin.zeroCells z.cells (grownCap w (n+k) old e-(n+k))) e)).ownsRow base e 1
  (.slice (some ⟨w.heap.size,0,none⟩) (n+k) (grownCap w (n+k) old e)) (n+k) (xs++aS k z)∧w.grownBy (w.drew.alloc (.cells (xs.toArray++(aS k z).toArray++Builtin.zeroCells z.cells (grownCap w (n+k) old e-(n+k))) e)) row:=by
  intro old ho row;have hge:=grownCap_ge w (n+k) old e;have hcm:grownCap w (n+k) old e≤maxLen:=grownCap_le_maxLen w (n+k) old e (by simp only[maxLen];omega);refine⟨⟨hlen,.inr ⟨w.heap.size,_,_,rfl,hbase,heap_alloc_new w.drew _,hge,hcm,?_,?_⟩⟩,⟨rfl,rfl,rfl,by simp,fun q hq _=>(Below.heap_alloc w.drew _ q hq)⟩⟩
  ·simp only[Array.size_append,af4,size_zeroCells,hzc,hown.1,sB];simp;omega
  ·simp only[Array.toList_append,aZ];rw[←aZ,←hlen];exact List.take_left
 have h63:¬(9223372036854775807<((n:Int)+(k:Int))):=by omega
 rcases hown.2 with⟨rfl,rfl⟩|⟨g,cap,cur,rfl,hbg,hg,hnc,hcm,hcs,htake⟩
 ·have hx0:xs=[]:=bS (by simpa using hown.1);subst hx0;by_cases hm:k=0
  ·subst hm;refine⟨.slice none 0 0,w,?_,bK w base e 1,⟨rfl,rfl,rfl,aw _,fun _ _ _=>rfl⟩⟩;simp[Builtin.append_,run_underlying ht,run_underlying hx,sizeOf,typeInfo,hi,asInt,asIntOf,hwr,hw0]
  ·have hm0:¬k≤0:=by omega
   have h48':¬(281474976710656<Builtin.nextslicecap k 0*8):=by rw[nextslicecap_zero aY];omega
   have h63':¬(9223372036854775807<(k:Int)):=by omega
   have hgr:=grown 0 aY (Value.ownBlock (.slice none 0 0));simp only[Nat.zero_add,List.nil_append,Array.empty_append]at hgr⊢;refine⟨_,_,?_,hgr.1,hgr.2⟩;simp[Builtin.append_,run_underlying ht,run_underlying hx,sizeOf,typeInfo,zeroValue,hi,hz,hsize,hby,asInt,asIntOf,hwr,hneg,hbig,hm,h63',h48',Question.forced,run_firstCells_none,newRow,grownCap,kW z hzc]
 ·by_cases hroom:n+k≤cap
  ·have hst:=run_storeCells_at P g n e (aS k z) 0 cur w hg (by simp only[sB];omega) (fun u hu=>by rw[(List.mem_replicate.1 hu).2];exact hz1);simp only[Nat.add_zero]at hst;have hadd:(⟨g,0,none⟩:Addr).add n=⟨g,n,none⟩:=by unfold Addr.add;split<;>simp_all
   refine⟨.slice (some ⟨g,0,none⟩) (n+k) cap,_,?_,⟨hlen,.inr ⟨g,cap,_,rfl,hbg,setRow_heap w g cur (cur.toList.take n++aS k z++cur.toList.drop (n+(aS k z).length)).toArray e _ hg,hroom,hcm,?_,?_⟩⟩,⟨rfl,rfl,rfl,by simp,fun q _ hq=>setRow_other w g q _ (fun e=>hq (by simp[Value.ownBlock,e]))⟩⟩
   ·by_cases hm:k=0
    ·subst hm;simp at hst;simp[Builtin.append_,run_underlying ht,run_underlying hx,sizeOf,typeInfo,zeroValue,hi,hz,hsize,hby,asInt,asIntOf,hw0,hroom,hadd,hst];intro h;omega
    ·simp[Builtin.append_,run_underlying ht,run_underlying hx,sizeOf,typeInfo,zeroValue,hi,hz,hsize,hby,asInt,asIntOf,hwr,hneg,hbig,hm,hroom,hadd,kW z hzc,hst]
   ·simp only[af4,aj,List.length_take,List.length_drop,Array.length_toList,sB];omega
   ·have e:cur.toList.take n=xs:=by rw[←htake,Nat.mul_one]
    rw[e,←hlen];exact List.take_left
  ·have holds:∀j u,xs[j]? =some u→w.cell? ((⟨g,0,none⟩:Addr).add j)=some u:=hown.cells (g:=g) rfl;have hm:k≠0:=by omega
   have hfit:=growslice_fits (old:=cap) (need:=n+k) (bytes:=8) aY aY;have h48':¬(281474976710656<Builtin.nextslicecap (n+k) cap*8):=by omega
   have hfo:=run_firstCells_some (P:=P) w.drew 1 n ⟨g,0,none⟩ n cap xs hown.1 (by simpa using holds);have hgr:=grown cap aY (Value.ownBlock (.slice (some ⟨g,0,none⟩) n cap));refine⟨_,_,?_,hgr.1,hgr.2⟩;simp[Builtin.append_,run_underlying ht,run_underlying hx,sizeOf,typeInfo,zeroValue,hi,hz,hsize,hby,asInt,asIntOf,hwr,hneg,hbig,hm,hroom,h63,h48',Question.forced,hfo,newRow,grownCap,kW z hzc]
theorem tL(base:Nat)(t ty e:TypeId)(i:TypeInfo)(ht:P.underlying t=some (.slice e))(hi:P.info? e=some i)(hsize:i.size=1)(v:Value)(n:Nat)(xs:List Value)(hown:w.ownsRow base e 1 v n xs):(Builtin.append_ #[t,t] ty #[v,.slice none 0 0]).run P w=.ok v w:=by
 rcases hown.2 with⟨rfl,rfl⟩|⟨g,cap,cur,rfl,hbg,hg,hnc,hcm,hcs,htake⟩
 ·simp[Builtin.append_,run_underlying ht,sizeOf,typeInfo,hi,Builtin.lenOf,Builtin.firstCells]
 ·simp[Builtin.append_,run_underlying ht,sizeOf,typeInfo,hi,hsize,Builtin.lenOf,Builtin.firstCells,storeCells,hnc]
theorem uZ(base PZ:Nat)(t ty e:TypeId)(i:TypeInfo)(z:Value)(ht:P.underlying t=some (.slice e))(hi:P.info? e=some i)(hz:i.zero=some z)(hsize:i.size=1)(hby:i.bytes=8)(hzs:z.cells.size=1)(v:Value)(n:Nat)(xs:List Value)(hown:w.ownsRow base e 1 v n xs)(u:Value)(m:Nat)(ys:List Value)(hown2:w.ownsRow PZ e 1 u m ys)(h1:∀y∈ys,y.oneCell'=true)(hn:n≤1000)(hm:m≤1000)(hbase:base≤w.heap.size):∃v' w',(Builtin.append_ #[t,t] ty #[v,u]).run P w=.ok v' w'∧w'.ownsRow base e 1 v' (n+m) (xs++ys)∧w.grownBy w' v.ownBlock:=by
 rcases hown2.2 with⟨rfl,rfl⟩|⟨g,cap,cur,rfl,hbg,hg,hnc,hcm,hcs,htake⟩
 ·have hy:ys=[]:=bS (by simpa using hown2.1);subst hy;exact⟨v,w,tL w base t ty e i ht hi hsize v n xs hown,by rw[List.append_nil];exact hown,⟨rfl,rfl,rfl,aw _,fun _ _ _=>rfl⟩⟩
 ·obtain⟨v',w',hr,ho,hgr,_⟩:=run_append_own (P:=P) w base t ty e i z 1 8 ht hi hz hsize hby hzs aI v n xs hown ⟨g,0,none⟩ m cap ys hown2.1 (fun j u hu=>hown2.cells (g:=g) rfl j u hu) h1 (by unfold maxLen;omega) aY hbase;exact⟨v',w',hr,ho,hgr⟩
end
theorem step_append{P:Program}{w:World}{ops:Array Oper}{rest:List Oper}{o:Oper}{a:Act}{Q:Exit→Act→World→Prop}(hgd:o.guard=none)(s x:Operand)(t u:TypeId)(ho:o.op=.call {callee:=.builtin .append,args:= #[s,x],argTypes:= #[t,u]}){v y v':Value}{w':World}(hs:a.eval s=v)(hx:a.eval x=y)(hr:(Builtin.append_ #[t,u] o.type #[v,y]).run P w=.ok v' w')(h:wpList P ops Q rest (a.put o.dst v') w'):wpList P ops Q (o::rest) a w:=wpList_plain hgd fun _ hK=>by
 unfold Oper.wp execOp;simp only[ho,resolve,invoke,builtin,Sem.run_bind,Sem.run_pure,Result.andThen_ok,List.map_toArray,List.map_cons,List.map_nil,hs,hx,hr];exact hK _ _ h
theorem P0{w:World}{base n:Nat}{e:TypeId}{g cap:Nat}{xs:List Value}(h:w.ownsRow base e 1 (.slice (some ⟨g,0,none⟩) n cap) n xs):∀j u,xs[j]? =some u→w.cell? ((⟨g,0,none⟩:Addr).add j)=some u:=fun j u hu=>h.cells (g:=g) rfl j u hu
theorem clone_any{w:World}{base:Nat}{v:Value}(L:List Nat)(h:w.ownsRow base 22 1 v L.length (eB L))(hl:L.length≤1000):Calls ai 349 #[v] w fun r w'=>(∃v',r=.returned v'∧w'.ownsRow w.heap.size 22 1 v' L.length (eB L))∧Below w.heap.size w w':=by
 obtain⟨i0,hi,hz0,hz1,hz2⟩:=info_parts uV;rcases aL h with⟨A,cap,rfl⟩;cases A with
 |none=>
  have hn:L=[]:=by
   rcases h.2 with⟨_,h⟩|⟨g,cap,cur,h,_⟩
   ·exact bS h
   ·cases h
  subst hn;have hc:cap=0:=by
   rcases h.2 with⟨h,_⟩|⟨g,cap,cur,h,_⟩
   ·cases h;rfl
   ·cases h
  subst hc;clear h;have hb:=aK w.heap.size w;have e1:∀W,(binOp .eql 386 (.slice none 0 0) (.slice none 0 0)).run ai W=.ok (.bool true) W:=fun _=>by kernel_rfl
  go_enter Tryz.func349,Tryz.ntmps349;go_wp2_with fail
  go_ret;exact⟨⟨.slice none 0 0,rfl,bK _ _ _ _⟩,hb⟩
 |some ad=>
  obtain⟨g,rfl⟩:∃g,ad=⟨g,0,none⟩:=by
   rcases h.2 with⟨h,_⟩|⟨g,cap,cur,h,_⟩
   ·cases h
   ·cases h;exact⟨g,rfl⟩
  have pD:=ae (P0 h);have hg:=(h.lt g rfl).2;clear h;have hE:(w.alloc (.cells #[] 22)).ownsRow w.heap.size 22 1 (.slice (some ⟨w.heap.size,0,none⟩) 0 0) 0 []:=⟨rfl,.inr ⟨w.heap.size,0,#[],rfl,aw _,heap_alloc_new w _,aw _,by decide,rfl,rfl⟩⟩;have HE:=ae hE;obtain⟨n,hn⟩:∃n,n=L.length:=⟨_,rfl⟩;rw[←hn]at hl⊢;have Hn:=ae hn;have hb:=boxed w (.cells #[] 22);have Hb:=ae hb;clear hE hn hb;have e1:∀W,(binOp .eql 386 (.slice (some ⟨g,0,none⟩) n cap) (.slice none 0 0)).run ai W=.ok (.bool false) W:=fun _=>by kernel_rfl
  go_enter Tryz.func349,Tryz.ntmps349;go_wp2_with(at_builtin;refine wpList_append_own _ rfl _ _ 386 rfl w.heap.size 22 i0 (.int .u64 0) 1 8 Tryz.underlying386 hi hz0 hz1 hz2 rfl aI _ 0 [] rfl HE.out ⟨g,0,none⟩ n cap (eB L) rfl (by rw[Hn.out];simp[eB]) (fun j u hu=>(World.cell?_alloc_lt w _ _ (by unfold Addr.add;split<;>simpa using hg)).trans (pD.out j u hu)) (fun x hx=>by obtain⟨y,_,rfl⟩:=List.mem_map.1 hx;rfl) (by unfold maxLen;omega) aY (by simp) ?_;intro v' w3 hown' hgrow3 hnil3;have VP:=ae hown';have hb3:=ae (Hb.out.grown hgrow3 (by simp) (fun q hq=>(HE.out.lt q hq).1));clear hown' hgrow3 hnil3)
  go_ret;refine⟨⟨v',rfl,?_⟩,hb3.out⟩;have:=VP.out;rwa [Nat.zero_add,List.nil_append]at this
def Rd(w:World)(b:Nat)(s:ByteArray)(f:Nat):Prop:=aG w b 173 #[.string s,.int .i64 f]
theorem Rd.lt{w:World}{b:Nat}{s:ByteArray}{f:Nat}(h:Rd w b s f):b<w.heap.size:=aG.lt h
theorem Rd.cells{w:World}{b:Nat}{s:ByteArray}{f:Nat}(h:Rd w b s f):w.cell? ⟨b,0,none⟩=some (.string s)∧w.cell? ⟨b,1,none⟩=some (.int .i64 f):=⟨h.cell 0,h.cell 1⟩
theorem Rd.free{w:World}{b:Nat}{s:ByteArray}{f:Nat}(h:Rd w b s f):w.frozen? ⟨b,0,none⟩=false∧w.frozen? ⟨b,1,none⟩=false:=⟨h.frozen 0,h.frozen 1⟩
theorem new_any(s:ByteArray)(w:World):Calls ai 141 #[.string s] w fun r w'=>r=.returned (.pointer (some ⟨w.heap.size,0,none⟩))∧Rd w' w.heap.size s 0∧Below w.heap.size w w':=by
 go_enter Tryz.func141,Tryz.ntmps141;go_wp2_with fail
 go_ret;exact⟨rfl,aG.new _ _ _,boxed _ _⟩
def rc(s:ByteArray)(f n:Nat):ByteArray:=if f=0∧n≤s.size then s.extract 0 n else sA
def nZ(s:ByteArray)(f n:Nat):ByteArray:=if f=0∧n≤s.size then s.extract n s.size else s
def nk(s:ByteArray)(f n:Nat):Nat:=if f=0 then(if n≤s.size then 0 else 7)else f
theorem gd{w:World}{b:Nat}{s:ByteArray}{f:Nat}(h:Rd w b s f)(n:Nat)(hs:s.size≤4000000)(hn:n≤4000000):Calls ai 151 #[.pointer (some ⟨b,0,none⟩),.int .i64 n] w fun r w'=>r=.returned (.tuple #[.string (rc s f n),.bool (decide (f=0∧n≤s.size))])∧Rd w' b (nZ s f n) (nk s f n)∧Keeps (fun k=>k=b) w w':=by
 obtain⟨c0,c1⟩:=h.cells;obtain⟨f0,f1⟩:=h.free;by_cases hf:f=0
 ·subst hf;by_cases hl:n≤s.size
  ·have e1:rc s 0 n=s.extract 0 n:=by unfold rc;rw[if_pos ⟨rfl,hl⟩]
   have e2:nZ s 0 n=s.extract n s.size:=by unfold nZ;rw[if_pos ⟨rfl,hl⟩]
   have e3:nk s 0 n=0:=by unfold nk;rw[if_pos rfl,if_pos hl]
   have e4:decide ((0:Nat)=0∧n≤s.size)=true:=by simp[hl]
   rw[e1,e2,e3,e4];have hset:=h.aM 0 (.string (s.extract n s.size));have hk:=(Keeps.refl (fun k=>k=b) w).setCell (p:=⟨b,0,none⟩) (.inl rfl) (.string (s.extract n s.size));have hl':¬s.size<n:=by omega
   clear e1 e2 e3 e4;obtain⟨P1,Hk⟩:=aQ hset hk;clear hset hk h;go_enter Tryz.func151,Tryz.ntmps151;go_wp2_with fail
   go_ret2;exact⟨rfl,P1.out,Hk.out⟩
  ·have e1:rc s 0 n=sA:=by unfold rc;rw[if_neg aY]
   have e2:nZ s 0 n=s:=by unfold nZ;rw[if_neg aY]
   have e3:nk s 0 n=7:=by unfold nk;rw[if_pos rfl,if_neg hl]
   have e4:decide ((0:Nat)=0∧n≤s.size)=false:=by simp;omega
   rw[e1,e2,e3,e4];have hset:=h.aM 1 (.int .i64 7);have hk:=(Keeps.refl (fun k=>k=b) w).setCell (p:=⟨b,1,none⟩) (.inl rfl) (.int .i64 7);have hl':s.size<n:=by omega
   clear e1 e2 e3 e4;obtain⟨P1,Hk⟩:=aQ hset hk;clear hset hk h;go_enter Tryz.func151,Tryz.ntmps151;go_wp2_with fail
   go_ret2;exact⟨rfl,P1.out,Hk.out⟩
 ·have e1:rc s f n=sA:=by unfold rc;rw[if_neg aY]
  have e2:nZ s f n=s:=by unfold nZ;rw[if_neg aY]
  have e3:nk s f n=f:=by unfold nk;rw[if_neg hf]
  have e4:decide (f=0∧n≤s.size)=false:=by simp;omega
  rw[e1,e2,e3,e4];have hf':¬(f:Int)=0:=by omega
  clear e1 e2 e3 e4;have H:=ae h;clear h;go_enter Tryz.func151,Tryz.ntmps151;go_wp2_with fail
  go_ret2;exact⟨rfl,H.out,Keeps.refl _ _⟩
theorem ug{k:IntKind}{a b:Int}(h:a=b):Ending.returned (.int k a)=Ending.returned (.int k b):=by rw[h]
def qg(l:List Nat):Nat:=l.foldl (fun x c=>x*256+c) 0
def P2(t:ByteArray):Nat:=qg (js t)
theorem LD(l:List Nat)(c:Nat):qg (l++[c])=qg l*256+c:=by simp[qg]
theorem VT:∀(l:List Nat),(∀c∈l,c<256)→qg l<256^l.length:=by
 intro l h;have:∀(l:List Nat)(x B:Nat),(∀c∈l,c<256)→x<B→l.foldl (fun x c=>x*256+c) x<B*256^l.length:=by
  intro l
  induction l with
  |nil=>intro x B _ h;simpa using h
  |cons c r ih=>
   intro x B hc h;have:=ih (x*256+c) (B*256) (fun y hy=>hc y (List.mem_cons_of_mem _ hy)) (by have:=hc c (List.mem_cons_self ..);omega);rw[List.foldl_cons,List.length_cons,Nat.pow_succ,Nat.mul_comm (256^r.length),←Nat.mul_assoc];exact this
 simpa[qg]using this l 0 1 h (by decide)
theorem qh(t:ByteArray)(k:Nat)(hk:k<t.size):qg ((js t).take (k+1))=qg ((js t).take k)*256+t.data[k].toNat:=by
 have h1:k<(js t).length:=by rw[fO];exact hk
 rw[aA h1,LD];simp[js]
theorem ju(t:ByteArray)(k:Nat)(hk:k≤t.size):qg ((js t).take k)<256^k:=by
 have:=VT ((js t).take k) (fun c hc=>Vy t c (agt hc));rwa [List.length_take_of_le (by rw[fO];exact hk)]at this
theorem VU(t:ByteArray):P2 t<256^t.size:=by
 have:=ju t t.size (aw _);rwa [show(js t).take t.size=js t by rw[←fO,List.take_length]]at this
theorem or8(x c:Nat)(hx:x<2^56)(hc:c<256):bits .or .u64 ((x*256:Nat):Int) (c:Int)=((x*256+c:Nat):Int):=by
 show IntKind.u64.wrap ((BitVec.ofInt 64 ((x*256:Nat):Int)|||BitVec.ofInt 64 (c:Int)).toNat:Int)=_;rw[BitVec.toNat_or,ofInt_u64 _ aY,ofInt_u64 _ aY];have:x*256|||c=x*256+c:=by
  have:=Nat.shiftLeft_add_eq_or_of_lt (b:=c) (i:=8) aY x;rw[Nat.shiftLeft_eq]at this;exact this.symm
 rw[this,kR];omega
theorem nn(s:ByteArray)(f n:Nat):(rc s f n).size≤n:=by
 unfold rc;split
 ·rw[ByteArray.size_extract];omega
 ·show 0≤n;omega
def jO(s:ByteArray)(f n:Nat):Nat:=P2 (rc s f n)
theorem kC(s:ByteArray)(f n:Nat):jO s f n<256^n:=agh (VU _) (agc aI (nn s f n))
theorem Rd.keep{w w':World}{b:Nat}{s:ByteArray}{f:Nat}{S:Nat→Prop}(h:Rd w b s f)(k:Keeps S w w')(hS:¬S b):Rd w' b s f:=aG.keep h k hS
theorem Rd.below{w w':World}{b:Nat}{s:ByteArray}{f:Nat}(h:Rd w b s f)(k:Below w.heap.size w w'):Rd w' b s f:=aG.below h k h.lt
theorem iJ{S:Nat→Prop}{a w w':World}(h:Keeps S a w)(k:Below w.heap.size w w'):Keeps S a w':=h.trans (Keeps.of_below k fun _ h _=>h)
theorem LG{w:World}{b:Nat}{s:ByteArray}{f:Nat}(h:Rd w b s f)(hs:s.size≤4000000):Calls ai 191 #[.pointer (some ⟨b,0,none⟩),.int .i64 1] w fun r w'=>r=.returned (.int .u8 (jO s f 1:Int))∧Rd w' b (nZ s f 1) (nk s f 1)∧Keeps (fun k=>k=b) w w':=by
 unfold jO;have ht:=nn s f 1;have Ht:=ae (gd h 1 hs aY);have hconv:=fun w=>run_bytes_of_string (P:=ai) w 9 89 5 (rc s f 1) bL ew cB
 clear h;generalize rc s f 1=t at*;go_enter Tryz.func191,Tryz.ntmps191;go_wp2_with(go_at_call 151;refine Ht.out.mono ?_;rintro r w1⟨rfl,hR1,hK1⟩)
 have hcell:∀j(hj:j<t.size),((w1.alloc (Obj.cells (bytesRow t (grownCap w1 t.size 0 5)) 5 ((bytesRow t (grownCap w1 t.size 0 5)).size,(bytesRow t (grownCap w1 t.size 0 5)).size+1))).drew).cell? ⟨w1.heap.size,j,none⟩=some (.int .u8 ((t.data[j]'hj).toNat:Int)):=by
  intro j hj;rw[World.cell?_drew,World.cell?_alloc_mark];exact bytesRow_at t _ j hj
 have hB:Below w1.heap.size w1 ((w1.alloc (Obj.cells (bytesRow t (grownCap w1 t.size 0 5)) 5 ((bytesRow t (grownCap w1 t.size 0 5)).size,(bytesRow t (grownCap w1 t.size 0 5)).size+1))).drew):=((aK _ _).alloc (aw _) _).drew;generalize hW:((w1.alloc (Obj.cells (bytesRow t (grownCap w1 t.size 0 5)) 5 ((bytesRow t (grownCap w1 t.size 0 5)).size,(bytesRow t (grownCap w1 t.size 0 5)).size+1))).drew)=W at hcell hB⊢;generalize grownCap w1 t.size 0 5=cap;have hR2:=hR1.below hB;have hK2:=iJ hK1 hB;clear hW hconv Ht;obtain⟨mO,HR,HK⟩:=bO hcell hR2 hK2;clear hcell hB hR1 hK1 hR2 hK2;go_loopw [4,18] (fun v4 v18 wr=>∃k x:Nat,k≤t.size∧v4=.int .u8 x∧v18=.int .i64 k∧x=qg ((js t).take k)∧wr=W) (fun _ v18 _=>t.size-(intOf v18).toNat)
 case atStart=>exact⟨0,0,bF _,rfl,rfl,rfl,rfl⟩
 case round=>
  obtain⟨k,x,hk,rfl,rfl,hx,rfl⟩:=hrel;by_cases hlt:k<t.size
  ·have hx0:=ju t k hk;have hp:256^k≤256^(1-1):=agc aI aY;have hx1:x<256^(1-1):=by rw[hx];omega
   have hc:=mO.out k hlt;have hsucc:=qh t k hlt;rw[←hx]at hsucc;have hb:=(t.data[k]'hlt).toNat_lt;generalize(t.data[k]'hlt).toNat=c at hc hsucc hb;have hx2:x<2^56:=by simp at hx1;omega
   have hor:bits .or .u64 ((x:Int)*256) (c:Int)=((x*256+c:Nat):Int):=by
    have:=or8 x c hx2 hb;rwa [Int.natCast_mul]at this
   have hw1:IntKind.u64.wrap (x:Int)=(x:Int):=by rw[kR];omega
   have hw2:IntKind.u64.wrap ((x:Int)*256)=(x:Int)*256:=by rw[kR];omega
   have hx3:x*256+c<256:=by simp at hx1;omega
   obtain⟨Hx,Hs,Hx0,Hp⟩:=fH hx hsucc hx0 hp;have hx4:x*256+c<18446744073709551616:=by omega
   have hwk:IntKind.u8.wrap ((x*256+c:Nat):Int)=((x*256+c:Nat):Int):=by rw[IntKind.wrap_u8];omega
   generalize hy:x*256+c=y at*;have Hy:=ae hy;clear hx hsucc hx0 hp hx1 hx2 hx4 hy;have Hx3:=ae hx3;clear hx3;go_wp2_with fail
   go_roundw
   case rel=>exact⟨k+1,y,by omega,by first|rfl|go_num,by go_num,Hs.out.symm,(by first|rfl|trivial)⟩
   case measure=>simp[intOf];omega
  ·have hks:k=t.size:=by omega
   subst hks;have e:(js t).take t.size=js t:=by rw[←fO,List.take_length]
   rw[e]at hx;have Hx:=ae hx;clear hx e;go_wp2_with fail
   go_ret;exact⟨ug (by rw[Hx.out];rfl),HR.out,HK.out⟩
theorem VV{w:World}{b:Nat}{s:ByteArray}{f:Nat}(h:Rd w b s f)(hs:s.size≤4000000):Calls ai 148 #[.pointer (some ⟨b,0,none⟩)] w fun r w'=>r=.returned (.int .u8 (jO s f 1:Int))∧Rd w' b (nZ s f 1) (nk s f 1)∧Keeps (fun k=>k=b) w w':=by
 have Hn:=ae (LG h hs);clear h;go_enter Tryz.func148,Tryz.ntmps148;go_wp2_with(go_at_call 191;refine Hn.out.mono ?_;rintro r w1⟨rfl,hR,hK⟩)
 go_ret;exact⟨rfl,hR,hK⟩
theorem Gg{w:World}{b:Nat}{s:ByteArray}{f:Nat}(h:Rd w b s f)(hs:s.size≤4000000):Calls ai 189 #[.pointer (some ⟨b,0,none⟩),.int .i64 2] w fun r w'=>r=.returned (.int .u16 (jO s f 2:Int))∧Rd w' b (nZ s f 2) (nk s f 2)∧Keeps (fun k=>k=b) w w':=by
 unfold jO;have ht:=nn s f 2;have Ht:=ae (gd h 2 hs aY);have hconv:=fun w=>run_bytes_of_string (P:=ai) w 9 89 5 (rc s f 2) bL ew cB
 clear h;generalize rc s f 2=t at*;go_enter Tryz.func189,Tryz.ntmps189;go_wp2_with(go_at_call 151;refine Ht.out.mono ?_;rintro r w1⟨rfl,hR1,hK1⟩)
 have hcell:∀j(hj:j<t.size),((w1.alloc (Obj.cells (bytesRow t (grownCap w1 t.size 0 5)) 5 ((bytesRow t (grownCap w1 t.size 0 5)).size,(bytesRow t (grownCap w1 t.size 0 5)).size+1))).drew).cell? ⟨w1.heap.size,j,none⟩=some (.int .u8 ((t.data[j]'hj).toNat:Int)):=by
  intro j hj;rw[World.cell?_drew,World.cell?_alloc_mark];exact bytesRow_at t _ j hj
 have hB:Below w1.heap.size w1 ((w1.alloc (Obj.cells (bytesRow t (grownCap w1 t.size 0 5)) 5 ((bytesRow t (grownCap w1 t.size 0 5)).size,(bytesRow t (grownCap w1 t.size 0 5)).size+1))).drew):=((aK _ _).alloc (aw _) _).drew;generalize hW:((w1.alloc (Obj.cells (bytesRow t (grownCap w1 t.size 0 5)) 5 ((bytesRow t (grownCap w1 t.size 0 5)).size,(bytesRow t (grownCap w1 t.size 0 5)).size+1))).drew)=W at hcell hB⊢;generalize grownCap w1 t.size 0 5=cap;have hR2:=hR1.below hB;have hK2:=iJ hK1 hB;clear hW hconv Ht;obtain⟨mO,HR,HK⟩:=bO hcell hR2 hK2;clear hcell hB hR1 hK1 hR2 hK2;go_loopw [4,18] (fun v4 v18 wr=>∃k x:Nat,k≤t.size∧v4=.int .u16 x∧v18=.int .i64 k∧x=qg ((js t).take k)∧wr=W) (fun _ v18 _=>t.size-(intOf v18).toNat)
 case atStart=>exact⟨0,0,bF _,rfl,rfl,rfl,rfl⟩
 case round=>
  obtain⟨k,x,hk,rfl,rfl,hx,rfl⟩:=hrel;by_cases hlt:k<t.size
  ·have hx0:=ju t k hk;have hp:256^k≤256^(2-1):=agc aI aY;have hx1:x<256^(2-1):=by rw[hx];omega
   have hc:=mO.out k hlt;have hsucc:=qh t k hlt;rw[←hx]at hsucc;have hb:=(t.data[k]'hlt).toNat_lt;generalize(t.data[k]'hlt).toNat=c at hc hsucc hb;have hx2:x<2^56:=by simp at hx1;omega
   have hor:bits .or .u64 ((x:Int)*256) (c:Int)=((x*256+c:Nat):Int):=by
    have:=or8 x c hx2 hb;rwa [Int.natCast_mul]at this
   have hw1:IntKind.u64.wrap (x:Int)=(x:Int):=by rw[kR];omega
   have hw2:IntKind.u64.wrap ((x:Int)*256)=(x:Int)*256:=by rw[kR];omega
   have hx3:x*256+c<65536:=by simp at hx1;omega
   obtain⟨Hx,Hs,Hx0,Hp⟩:=fH hx hsucc hx0 hp;have hx4:x*256+c<18446744073709551616:=by omega
   have hwk:IntKind.u16.wrap ((x*256+c:Nat):Int)=((x*256+c:Nat):Int):=by rw[IntKind.wrap_u16];omega
   generalize hy:x*256+c=y at*;have Hy:=ae hy;clear hx hsucc hx0 hp hx1 hx2 hx4 hy;have Hx3:=ae hx3;clear hx3;go_wp2_with fail
   go_roundw
   case rel=>exact⟨k+1,y,by omega,by first|rfl|go_num,by go_num,Hs.out.symm,(by first|rfl|trivial)⟩
   case measure=>simp[intOf];omega
  ·have hks:k=t.size:=by omega
   subst hks;have e:(js t).take t.size=js t:=by rw[←fO,List.take_length]
   rw[e]at hx;have Hx:=ae hx;clear hx e;go_wp2_with fail
   go_ret;exact⟨ug (by rw[Hx.out];rfl),HR.out,HK.out⟩
theorem CU{w:World}{b:Nat}{s:ByteArray}{f:Nat}(h:Rd w b s f)(hs:s.size≤4000000):Calls ai 145 #[.pointer (some ⟨b,0,none⟩)] w fun r w'=>r=.returned (.int .u16 (jO s f 2:Int))∧Rd w' b (nZ s f 2) (nk s f 2)∧Keeps (fun k=>k=b) w w':=by
 have Hn:=ae (Gg h hs);clear h;go_enter Tryz.func145,Tryz.ntmps145;go_wp2_with(go_at_call 189;refine Hn.out.mono ?_;rintro r w1⟨rfl,hR,hK⟩)
 go_ret;exact⟨rfl,hR,hK⟩
theorem Gh{w:World}{b:Nat}{s:ByteArray}{f:Nat}(h:Rd w b s f)(hs:s.size≤4000000):Calls ai 226 #[.pointer (some ⟨b,0,none⟩),.int .i64 4] w fun r w'=>r=.returned (.int .u32 (jO s f 4:Int))∧Rd w' b (nZ s f 4) (nk s f 4)∧Keeps (fun k=>k=b) w w':=by
 unfold jO;have ht:=nn s f 4;have Ht:=ae (gd h 4 hs aY);have hconv:=fun w=>run_bytes_of_string (P:=ai) w 9 89 5 (rc s f 4) bL ew cB
 clear h;generalize rc s f 4=t at*;go_enter Tryz.func226,Tryz.ntmps226;go_wp2_with(go_at_call 151;refine Ht.out.mono ?_;rintro r w1⟨rfl,hR1,hK1⟩)
 have hcell:∀j(hj:j<t.size),((w1.alloc (Obj.cells (bytesRow t (grownCap w1 t.size 0 5)) 5 ((bytesRow t (grownCap w1 t.size 0 5)).size,(bytesRow t (grownCap w1 t.size 0 5)).size+1))).drew).cell? ⟨w1.heap.size,j,none⟩=some (.int .u8 ((t.data[j]'hj).toNat:Int)):=by
  intro j hj;rw[World.cell?_drew,World.cell?_alloc_mark];exact bytesRow_at t _ j hj
 have hB:Below w1.heap.size w1 ((w1.alloc (Obj.cells (bytesRow t (grownCap w1 t.size 0 5)) 5 ((bytesRow t (grownCap w1 t.size 0 5)).size,(bytesRow t (grownCap w1 t.size 0 5)).size+1))).drew):=((aK _ _).alloc (aw _) _).drew;generalize hW:((w1.alloc (Obj.cells (bytesRow t (grownCap w1 t.size 0 5)) 5 ((bytesRow t (grownCap w1 t.size 0 5)).size,(bytesRow t (grownCap w1 t.size 0 5)).size+1))).drew)=W at hcell hB⊢;generalize grownCap w1 t.size 0 5=cap;have hR2:=hR1.below hB;have hK2:=iJ hK1 hB;clear hW hconv Ht;obtain⟨mO,HR,HK⟩:=bO hcell hR2 hK2;clear hcell hB hR1 hK1 hR2 hK2;go_loopw [4,18] (fun v4 v18 wr=>∃k x:Nat,k≤t.size∧v4=.int .u32 x∧v18=.int .i64 k∧x=qg ((js t).take k)∧wr=W) (fun _ v18 _=>t.size-(intOf v18).toNat)
 case atStart=>exact⟨0,0,bF _,rfl,rfl,rfl,rfl⟩
 case round=>
  obtain⟨k,x,hk,rfl,rfl,hx,rfl⟩:=hrel;by_cases hlt:k<t.size
  ·have hx0:=ju t k hk;have hp:256^k≤256^(4-1):=agc aI aY;have hx1:x<256^(4-1):=by rw[hx];omega
   have hc:=mO.out k hlt;have hsucc:=qh t k hlt;rw[←hx]at hsucc;have hb:=(t.data[k]'hlt).toNat_lt;generalize(t.data[k]'hlt).toNat=c at hc hsucc hb;have hx2:x<2^56:=by simp at hx1;omega
   have hor:bits .or .u64 ((x:Int)*256) (c:Int)=((x*256+c:Nat):Int):=by
    have:=or8 x c hx2 hb;rwa [Int.natCast_mul]at this
   have hw1:IntKind.u64.wrap (x:Int)=(x:Int):=by rw[kR];omega
   have hw2:IntKind.u64.wrap ((x:Int)*256)=(x:Int)*256:=by rw[kR];omega
   have hx3:x*256+c<4294967296:=by simp at hx1;omega
   obtain⟨Hx,Hs,Hx0,Hp⟩:=fH hx hsucc hx0 hp;have hx4:x*256+c<18446744073709551616:=by omega
   have hwk:IntKind.u32.wrap ((x*256+c:Nat):Int)=((x*256+c:Nat):Int):=by rw[IntKind.wrap_u32];omega
   generalize hy:x*256+c=y at*;have Hy:=ae hy;clear hx hsucc hx0 hp hx1 hx2 hx4 hy;have Hx3:=ae hx3;clear hx3;go_wp2_with fail
   go_roundw
   case rel=>exact⟨k+1,y,by omega,by first|rfl|go_num,by go_num,Hs.out.symm,(by first|rfl|trivial)⟩
   case measure=>simp[intOf];omega
  ·have hks:k=t.size:=by omega
   subst hks;have e:(js t).take t.size=js t:=by rw[←fO,List.take_length]
   rw[e]at hx;have Hx:=ae hx;clear hx e;go_wp2_with fail
   go_ret;exact⟨ug (by rw[Hx.out];rfl),HR.out,HK.out⟩
theorem P3{w:World}{b:Nat}{s:ByteArray}{f:Nat}(h:Rd w b s f)(hs:s.size≤4000000):Calls ai 190 #[.pointer (some ⟨b,0,none⟩)] w fun r w'=>r=.returned (.int .u32 (jO s f 4:Int))∧Rd w' b (nZ s f 4) (nk s f 4)∧Keeps (fun k=>k=b) w w':=by
 have Hn:=ae (Gh h hs);clear h;go_enter Tryz.func190,Tryz.ntmps190;go_wp2_with(go_at_call 226;refine Hn.out.mono ?_;rintro r w1⟨rfl,hR,hK⟩)
 go_ret;exact⟨rfl,hR,hK⟩
theorem Gi{w:World}{b:Nat}{s:ByteArray}{f:Nat}(h:Rd w b s f)(hs:s.size≤4000000):Calls ai 144 #[.pointer (some ⟨b,0,none⟩),.int .i64 8] w fun r w'=>r=.returned (.int .u64 (jO s f 8:Int))∧Rd w' b (nZ s f 8) (nk s f 8)∧Keeps (fun k=>k=b) w w':=by
 unfold jO;have ht:=nn s f 8;have Ht:=ae (gd h 8 hs aY);have hconv:=fun w=>run_bytes_of_string (P:=ai) w 9 89 5 (rc s f 8) bL ew cB
 clear h;generalize rc s f 8=t at*;go_enter Tryz.func144,Tryz.ntmps144;go_wp2_with(go_at_call 151;refine Ht.out.mono ?_;rintro r w1⟨rfl,hR1,hK1⟩)
 have hcell:∀j(hj:j<t.size),((w1.alloc (Obj.cells (bytesRow t (grownCap w1 t.size 0 5)) 5 ((bytesRow t (grownCap w1 t.size 0 5)).size,(bytesRow t (grownCap w1 t.size 0 5)).size+1))).drew).cell? ⟨w1.heap.size,j,none⟩=some (.int .u8 ((t.data[j]'hj).toNat:Int)):=by
  intro j hj;rw[World.cell?_drew,World.cell?_alloc_mark];exact bytesRow_at t _ j hj
 have hB:Below w1.heap.size w1 ((w1.alloc (Obj.cells (bytesRow t (grownCap w1 t.size 0 5)) 5 ((bytesRow t (grownCap w1 t.size 0 5)).size,(bytesRow t (grownCap w1 t.size 0 5)).size+1))).drew):=((aK _ _).alloc (aw _) _).drew;generalize hW:((w1.alloc (Obj.cells (bytesRow t (grownCap w1 t.size 0 5)) 5 ((bytesRow t (grownCap w1 t.size 0 5)).size,(bytesRow t (grownCap w1 t.size 0 5)).size+1))).drew)=W at hcell hB⊢;generalize grownCap w1 t.size 0 5=cap;have hR2:=hR1.below hB;have hK2:=iJ hK1 hB;clear hW hconv Ht;obtain⟨mO,HR,HK⟩:=bO hcell hR2 hK2;clear hcell hB hR1 hK1 hR2 hK2;go_loopw [4,18] (fun v4 v18 wr=>∃k x:Nat,k≤t.size∧v4=.int .u64 x∧v18=.int .i64 k∧x=qg ((js t).take k)∧wr=W) (fun _ v18 _=>t.size-(intOf v18).toNat)
 case atStart=>exact⟨0,0,bF _,rfl,rfl,rfl,rfl⟩
 case round=>
  obtain⟨k,x,hk,rfl,rfl,hx,rfl⟩:=hrel;by_cases hlt:k<t.size
  ·have hx0:=ju t k hk;have hp:256^k≤256^(8-1):=agc aI aY;have hx1:x<256^(8-1):=by rw[hx];omega
   have hc:=mO.out k hlt;have hsucc:=qh t k hlt;rw[←hx]at hsucc;have hb:=(t.data[k]'hlt).toNat_lt;generalize(t.data[k]'hlt).toNat=c at hc hsucc hb;have hx2:x<2^56:=by simp at hx1;omega
   have hor:bits .or .u64 ((x:Int)*256) (c:Int)=((x*256+c:Nat):Int):=by
    have:=or8 x c hx2 hb;rwa [Int.natCast_mul]at this
   have hw1:IntKind.u64.wrap (x:Int)=(x:Int):=by rw[kR];omega
   have hw2:IntKind.u64.wrap ((x:Int)*256)=(x:Int)*256:=by rw[kR];omega
   have hx3:x*256+c<18446744073709551616:=by simp at hx1;omega
   obtain⟨Hx,Hs,Hx0,Hp⟩:=fH hx hsucc hx0 hp;have hx4:x*256+c<18446744073709551616:=by omega
   have hwk:IntKind.u64.wrap ((x*256+c:Nat):Int)=((x*256+c:Nat):Int):=by rw[kR];omega
   generalize hy:x*256+c=y at*;have Hy:=ae hy;clear hx hsucc hx0 hp hx1 hx2 hx4 hy;have Hx3:=ae hx3;clear hx3;go_wp2_with fail
   go_roundw
   case rel=>exact⟨k+1,y,by omega,by first|rfl|go_num,by go_num,Hs.out.symm,(by first|rfl|trivial)⟩
   case measure=>simp[intOf];omega
  ·have hks:k=t.size:=by omega
   subst hks;have e:(js t).take t.size=js t:=by rw[←fO,List.take_length]
   rw[e]at hx;have Hx:=ae hx;clear hx e;go_wp2_with fail
   go_ret;exact⟨ug (by rw[Hx.out];rfl),HR.out,HK.out⟩
theorem P4{w:World}{b:Nat}{s:ByteArray}{f:Nat}(h:Rd w b s f)(hs:s.size≤4000000):Calls ai 72 #[.pointer (some ⟨b,0,none⟩)] w fun r w'=>r=.returned (.int .u64 (jO s f 8:Int))∧Rd w' b (nZ s f 8) (nk s f 8)∧Keeps (fun k=>k=b) w w':=by
 have Hn:=ae (Gi h hs);clear h;go_enter Tryz.func72,Tryz.ntmps72;go_wp2_with(go_at_call 144;refine Hn.out.mono ?_;rintro r w1⟨rfl,hR,hK⟩)
 go_ret;exact⟨rfl,hR,hK⟩
theorem LH{w:World}{b:Nat}{s:ByteArray}{f:Nat}(h:Rd w b s f)(n:Nat)(hs:s.size≤4000000)(hn:n≤4000000):Calls ai 152 #[.pointer (some ⟨b,0,none⟩),.int .i64 n] w fun r w'=>r=.returned (.string (rc s f n))∧Rd w' b (nZ s f n) (nk s f n)∧Keeps (fun k=>k=b) w w':=by
 have Hn:=ae (gd h n hs hn);clear h;go_enter Tryz.func152,Tryz.ntmps152;go_wp2_with(go_at_call 151;refine Hn.out.mono ?_;rintro r w1⟨rfl,hR,hK⟩)
 go_ret;exact⟨rfl,hR,hK⟩
theorem u9{w:World}{b:Nat}{s:ByteArray}{f:Nat}(h:Rd w b s f):Calls ai 188 #[.pointer (some ⟨b,0,none⟩)] w fun r w'=>r=.returned (.int .i64 f)∧w=w':=by
 obtain⟨c0,c1⟩:=h.cells;clear h;go_enter Tryz.func188,Tryz.ntmps188;go_wp2_with fail
 go_ret;exact⟨rfl,rfl⟩
end Go.Proofs.YtdfnhljccdoncaaGreatDoor
