/- Joined out of: PlG Sm TwB PfA PfB PfC PfD WhA IpJ IpK. -/
import Derived.Test.YteflnojjjdkgmaaGreatDoorNad
import Derived.Maps.RangeRun
import Derived.Deep.CutBlock
import Derived.Laws.CopyOwn
set_option linter.unusedVariables false
set_option linter.unusedSimpArgs false
set_option maxHeartbeats 16000000
set_option maxRecDepth 100000
open Array renaming getElem?_eq_none→afh
open Bool renaming true_and→bH,eq_iff_iff→ix
open ByteArray renaming empty→iy
open Go.ByteArray renaming toList_eq→bO
open Go.IntKind renaming wrap_u64→ej,wrap_i64→afm
open Go.Lib renaming hid→ae
open Go.Proofs.Tryz renaming prog→ag,underlying9→aZ,underlying5→bV,underlying67→cn
open Go.RowKit renaming Hid→af
open Go.RowKit.Below renaming refl→aG
open Go.Value renaming string→cC
open Go.World renaming block_lt_of_cell?→aj,ownsRow_nil→a8
open List renaming getElem?_eq_getElem→ah,length_append→ai,getD_eq_getElem?_getD→ay,take_succ_eq_append_getElem→aC,replicate→aH,append_assoc→aO,eq_nil_of_length_eq_zero→bF,length_replicate→j5,size_toArray→Yk,mem_of_mem_take→aft
open Nat renaming le_trans→au,le_refl→aw,zero_le→bD,pow_le_pow_right→ae6,lt_of_lt_of_le→afb
namespace Go.Proofs.YteflnojjjdkgmaaGreatDoor
open Go.RowKit
attribute [local go_sem↓] Go.wp_at_zero Go.wp_at_succ
def eC(l:List Hs):List Value:=l.flatMap fun x=>[cC x.name,.bool x.net.a.v6,.int .u64 (x.net.a.hi:Int),.int .u64 (x.net.a.lo:Int),.int .u8 (x.net.bits:Int)]
theorem Fg:∀(l:List Hs)(k:Nat)(x:Hs),l[k]? =some x→(eC l)[k*5]? =some (.string x.name)∧(eC l)[k*5+1]? =some (.bool x.net.a.v6)∧(eC l)[k*5+2]? =some (.int .u64 (x.net.a.hi:Int))∧(eC l)[k*5+3]? =some (.int .u64 (x.net.a.lo:Int))∧(eC l)[k*5+4]? =some (.int .u8 (x.net.bits:Int)):=by
 intro l
 induction l with
 |nil=>intro k x h;cases h
 |cons y r ih=>
  intro k x h;cases k with
  |zero=>injection h with h;subst h;exact⟨rfl,rfl,rfl,rfl,rfl⟩
  |succ k=>
   rw[show(k+1)*5=k*5+1+1+1+1+1 by omega];exact ih k x h
theorem KJ{w:World}(g:Nat)(s x:ByteArray)(v1:Bool)(v2 v3 v4:Int)(hg:w.cell? ⟨g,0,none⟩=some (.string s)):Calls ag 271 #[.agg #[.string x,.bool v1,.int .u64 v2,.int .u64 v3,.int .u8 v4],.pointer (some ⟨g,0,none⟩)] w (Got (.bool (decide (x=s))) w):=by
 have hx:=aD.new w 334 #[.string x,.bool v1,.int .u64 v2,.int .u64 v3,.int .u8 v4];have hb:=boxed w (.cells #[.string x,.bool v1,.int .u64 v2,.int .u64 v3,.int .u8 v4] 334);have hg2:=(hb.cell (p:=⟨g,0,none⟩) (aj w _ hg)).trans hg;have x0:=hx.cell 0;simp at x0;have hd:(x.toList==s.toList)=decide (x=s):=by
  by_cases e:x=s
  ·subst e;simp
  ·rw[decide_eq_false e,beq_eq_false_iff_ne];intro h;rw[bO,bO]at h;exact e (ByteArray.ext (Array.ext' h))
 obtain⟨D,hD⟩:∃D,D=decide (x=s):=⟨_,rfl⟩;rw[←hD]at hd⊢;clear hD hx;go_enter Tryz.func271,Tryz.ntmps271;go_wp2_with fail
 go_ret;exact⟨rfl,hb⟩
theorem Fh{w:World}(l:List Hs)(hl:l.length≤4000000)(lv:Value)(hr:aW w lv l.length 5 (eC l))(g:Nat)(s:ByteArray)(hg:w.cell? ⟨g,0,none⟩=some (.string s)):Calls ag 298 #[lv,.func (.func 271) #[] #[.pointer (some ⟨g,0,none⟩)]] w (Yq (l.any fun x=>decide (x.name=s)) w):=by
 obtain⟨A,cap,rfl,hlen,hA⟩:=hr;obtain⟨N,hN⟩:∃n,n=l.length:=⟨_,rfl⟩;obtain⟨R,hR⟩:∃r,r=l.any fun x=>decide (x.name=s):=⟨_,rfl⟩
 rw[←hN]at hA hl⊢;rw[←hR];obtain⟨HA,HN,HR,Hg⟩:=cH hA hN hR hg;clear hA hN hlen hR hg;go_enter Tryz.func298,Tryz.ntmps298;go_wp2_with fail
 go_loopw [8] (fun v8 wr=>∃k:Nat,k≤N∧v8=.int .i64 k∧af (Below w.heap.size w wr)∧af (((l.take k).any fun x=>decide (x.name=s))=false)) (fun v8 _=>N-(intOf v8).toNat)
 case atStart=>exact⟨0,bD _,rfl,ae (aG _ _),ae rfl⟩
 case round=>
  obtain⟨k,hk,rfl,hb,hno⟩:=hrel;by_cases hlt:k<N
  ·have hkl:k<l.length:=by have:=HN.out;omega
   obtain⟨q,o,rfl,hc⟩:=HA.out aM;have htk:=aC hkl;have hx:l[k]? =some l[k]:=ah hkl;have hcell:=Fg l k _ hx;have c0:=hc _ _ hcell.1;have c1:=hc _ _ hcell.2.1;have c2:=hc _ _ hcell.2.2.1;have c3:=hc _ _ hcell.2.2.2.1;have c4:=hc _ _ hcell.2.2.2.2;generalize l[k]=X at htk c0 c1 c2 c3 c4;have d0:=(hb.out.cell (aj w _ c0)).trans c0;have d1:=(hb.out.cell (aj w _ c1)).trans c1;have d2:=(hb.out.cell (aj w _ c2)).trans c2;have d3:=(hb.out.cell (aj w _ c3)).trans c3;have d4:=(hb.out.cell (aj w _ c4)).trans c4;rw[←Nat.add_assoc]at d1 d2 d3 d4;have hgw:=(hb.out.cell (aj w _ Hg.out)).trans Hg.out;have HF:=ae (KJ (w:=wr) g s X.name X.net.a.v6 X.net.a.hi X.net.a.lo X.net.bits hgw);obtain⟨X1,⟨⟨X2,X3,X4⟩,X5⟩⟩:=X;simp only at d0 d1 d2 d3 d4 HF;clear c0 c1 c2 c3 c4 hx hcell hgw hc;by_cases he:X1=s
   ·have hres:R=true:=by
     rw[HR.out];have:(l.take (k+1)).any (fun x=>decide (x.name=s))=true:=by rw[htk,List.any_append];simp[he]
     obtain⟨y,hy,hys⟩:=List.any_eq_true.1 this;exact List.any_eq_true.2 ⟨y,aft hy,hys⟩
    have fi:=ae hres;rw[decide_eq_true he]at HF;clear hres htk he;go_wp2_with(go_at_call 271;(with_reducible refine HF.out.mono ?_);rintro r w2⟨rfl,e2⟩)
    go_ret;exact⟨⟨_,rfl,by rw[fi.out];exact decide_eq_true aM⟩,after hb.out e2⟩
   ·have yW:((l.take (k+1)).any fun x=>decide (x.name=s))=false:=by rw[htk,List.any_append,hno.out];simp[he]
    have Ff:=ae yW;rw[decide_eq_false he]at HF;clear yW htk he;go_wp2_with(go_at_call 271;(with_reducible refine HF.out.mono ?_);rintro r w2⟨rfl,e2⟩)
    go_roundw
    case rel=>exact⟨k+1,by omega,by go_num,(aU hb e2),Ff⟩
    case measure=>simp[intOf];omega
  ·obtain rfl:k=N:=by omega
   have hres:R=false:=by
    have:=hno.out;rw[List.take_of_length_le (by have:=HN.out;omega)]at this;rw[HR.out];exact this
   have fi:=ae hres;clear hres;go_wp2_with fail
   go_ret;exact⟨⟨_,rfl,by rw[fi.out];rfl⟩,hb.out⟩
theorem wU{w:World}(l:List Hs)(hl:l.length≤4000000)(lv:Value)(hr:aW w lv l.length 5 (eC l))(g:Nat)(s:ByteArray)(hg:w.cell? ⟨g,0,none⟩=some (.string s)):Calls ag 270 #[lv,.func (.func 271) #[] #[.pointer (some ⟨g,0,none⟩)]] w (Got (.bool (l.any fun x=>decide (x.name=s))) w):=by
 have HI:=ae (Fh l hl lv hr g s hg);generalize(l.any fun x=>decide (x.name=s))=R at HI⊢;clear hg hr;go_enter Tryz.func270,Tryz.ntmps270;go_wp2_with(go_at_call 298;(with_reducible refine HI.out.mono ?_);rintro r w2⟨⟨i,rfl,hi⟩,e2⟩)
 refine bodyPost_ret (results_tmp rfl _ _ _) rfl ⟨?_,e2⟩;rw[←hi];rfl
theorem sB{w:World}(l:List Hs)(hl:l.length≤4000000)(lv:Value)(hr:aW w lv l.length 5 (eC l))(s:ByteArray):Calls ag 228 #[lv,.string s] w (Got (.bool (l.any fun x=>decide (x.name=s))) w):=by
 have hb0:=boxed w (.cells #[.string s] 9);have hg:(w.alloc (.cells #[.string s] 9)).cell? ⟨w.heap.size,0,none⟩=some (.string s):=(aD.new w 9 #[.string s]).cell 0;have HI:=ae (wU l hl lv (hr.below hb0) w.heap.size s hg);generalize(l.any fun x=>decide (x.name=s))=R at HI⊢;have hmf:∀(fn:Fn)(first cap:Array Value)(w:World),(Instr.makeFunc fn first cap).run ag w=.ok (.func fn first cap) w:=fun _ _ _ _=>rfl
 clear hg hr;go_enter Tryz.func228,Tryz.ntmps228;go_wp2_with(go_at_call 270;(with_reducible refine HI.out.mono ?_);rintro r w2⟨rfl,e2⟩)
 go_ret;exact⟨rfl,after hb0 e2⟩
open Go.ChangeMaps (setBlock)
structure SE where
 tx:ByteArray
 val:Value
 born:Nat
def SE.entry(x:SE):MapEntry:={key:=.string x.tx,val:=x.val,born:=x.born}
def ents(L:List SE):Array MapEntry:=(L.map SE.entry).toArray
def ed(w:World)(m:Nat)(L:List SE)(clock:Nat):Prop:=w.heap[m]? =some (.map (ents L) clock)
theorem bytes_beq(a b:ByteArray):(a==b)=true↔a=b:=by
 rw[beq_toListBytes,beq_iff_eq,bO,bO];constructor
 ·intro h;obtain⟨⟨x⟩⟩:=a;obtain⟨⟨y⟩⟩:=b;simpa using h
 ·rintro rfl;rfl
theorem uE(a b:ByteArray):(a==b)=(b==a):=by
 rw[ix,bytes_beq,bytes_beq];exact⟨Eq.symm,Eq.symm⟩
def at_(L:List SE)(s:ByteArray):Option Nat:=L.findIdx? fun x=>x.tx==s
theorem yY(s:ByteArray)(L:List SE):∀i,Instr.findNow .string (.string s) (L.map SE.entry) i=some ((at_ L s).map fun j=>(i+j,(L.getD j ⟨s,undef,0⟩).val)):=by
 unfold at_
 induction L with
 |nil=>intro i;rfl
 |cons x L ih=>
  intro i;simp only[List.map_cons,Instr.findNow,SE.entry,Instr.sameNow,List.findIdx?_cons];rw[uE s x.tx];cases h:x.tx==s with
  |true=>simp[List.getD_cons_zero]
  |false=>
   have:=ih (i+1);simp only[this];cases L.findIdx? (fun x=>x.tx==s)with
   |none=>simp
   |some j=>simp;omega
section
variable{P:Program}{T K E:TypeId}{w:World}{m clock:Nat}{L:List SE}
theorem ed.lt(h:ed w m L clock):m<w.heap.size:=by
 rcases Nat.lt_or_ge m w.heap.size with h1|h1
 ·exact h1
 ·unfold ed at h;rw[afh h1]at h;cases h
theorem run_getObj_map{es:Array MapEntry}{c:Nat}(h:w.heap[m]? =some (.map es c)):(getObj m).run P w=.ok (.map es c) w:=by simp[getObj,Sem.run,h]
theorem run_setObj_map{es:Array MapEntry}{c:Nat}(h:w.heap[m]? =some (.map es c))(o':Obj):(setObj m o').run P w=.ok () (setBlock w m o'):=by simp[setObj,Sem.run,h,setBlock]
theorem rn(n:Nat)(b:Bool)(s:Value)(hK:P.underlying K=some .string):(Instr.checkKey b (n+1) K s).run P w=.ok () w:=by
 simp[Instr.checkKey,run_underlying hK]
theorem dS(b:Bool)(s:Value)(hK:P.underlying K=some .string):(Instr.checkKey b 10000 K s).run P w=.ok () w:=rn 9999 b s hK
theorem fF(s:ByteArray)(hK:P.underlying K=some .string):(Instr.findKey K (.string s) (L.map SE.entry)).run P w=.ok ((at_ L s).map fun j=>(j,(L.getD j ⟨s,undef,0⟩).val)) w:=by
 simp[Instr.findKey,run_underlying hK,yY s L 0]
theorem iT(hT:P.underlying T=some (.map K E))(hK:P.underlying K=some .string)(h:ed w m L clock)(s:ByteArray){j:Nat}{x:SE}(hj:at_ L s=some j)(hx:L[j]? =some x):(Instr.lookup T (.map (some m)) (.string s) true).run P w=.ok (.tuple #[x.val,.bool true]) w:=by
 simp[Instr.lookup,run_underlying hT,run_getObj_map h,dS _ _ hK,ents,fF s hK,hj,hx,ay]
theorem pn(hT:P.underlying T=some (.map K E))(hK:P.underlying K=some .string)(h:ed w m L clock)(s:ByteArray)(hj:at_ L s=none){z:Value}(hz:(zeroValue E).run P w=.ok z w):(Instr.lookup T (.map (some m)) (.string s) true).run P w=.ok (.tuple #[z,.bool false]) w:=by
 simp[Instr.lookup,run_underlying hT,run_getObj_map h,dS _ _ hK,ents,fF s hK,hj,hz]
theorem kB(hT:P.underlying T=some (.map K E))(hK:P.underlying K=some .string)(h:ed w m L clock)(s:ByteArray)(hj:at_ L s=none)(v:Value):(Instr.mapUpdate T (.map (some m)) (.string s) v).run P w=.ok () (setBlock w m (.map (ents (L++[⟨s,v,clock⟩])) (clock+1))):=by
 simp[Instr.mapUpdate,run_underlying hT,run_getObj_map h,dS _ _ hK,ents,fF s hK,hj,run_setObj_map h,SE.entry]
theorem Keeps.setBlock{S:Nat→Prop}{a:World}{r:Nat}(h:Keeps S a w)(hr:S r∨a.heap.size≤r)(o:Obj):Keeps S a (setBlock w r o):=⟨h.os,h.tape,h.output,by simpa[Go.ChangeMaps.setBlock]using h.size,fun k hk hs=>by
 have:r≠k:=by rintro rfl;rcases hr with h1|h1;exact hs h1;omega
 rw[←h.block k hk hs];simp[Go.ChangeMaps.setBlock,Array.getElem?_setIfInBounds,this]⟩
theorem ed.keep{S:Nat→Prop}{w':World}(h:ed w m L clock)(hk:Keeps S w w')(hg:¬S m):ed w' m L clock:=(hk.block m h.lt hg).trans h
theorem ed.below{B:Nat}{w':World}(h:ed w m L clock)(hb:Below B w w')(hg:m<B):ed w' m L clock:=(hb.block m hg).trans h
theorem ed.drewN(h:ed w m L clock)(n:Nat):ed (w.drewN n) m L clock:=h
theorem ed.aN(h:ed w m L clock)(L':List SE)(c':Nat):ed (setBlock w m (.map (ents L') c')) m L' c':=by
 have:=h.lt;unfold ed Go.ChangeMaps.setBlock;simp[this]
theorem ez(hT:P.underlying T=some (.map K E))(hK:P.underlying K=some .string)(h:ed w m L clock)(s:ByteArray)(hj:at_ L s=none)(v:Value):∃W,(Instr.mapUpdate T (.map (some m)) (.string s) v).run P w=.ok () W∧(Instr.mapUpdate T (.map (some m)) (.string s) v).run P w.drew=.ok () W.drew∧(∀n,(Instr.mapUpdate T (.map (some m)) (.string s) v).run P (w.drewN n)=.ok () (W.drewN n))∧Keeps (fun g=>g=m) w W∧ed W m (L++[⟨s,v,clock⟩]) (clock+1):=⟨setBlock w m (.map (ents (L++[(⟨s,v,clock⟩:SE)])) (clock+1)),kB hT hK h s hj v,kB (w:=w.drew) hT hK h s hj v,fun n=>kB hT hK (h.drewN n) s hj v,(Keeps.refl (fun g=>g=m) w).setBlock (.inl rfl) _,h.aN _ _⟩
def Iter(w:World)(r m since:Nat)(seen:Array Nat)(last:Nat):Prop:=w.heap[r]? =some (.mapIter (some m) since seen last)
theorem Iter.lt{r since last:Nat}{seen:Array Nat}(h:Iter w r m since seen last):r<w.heap.size:=by
 rcases Nat.lt_or_ge r w.heap.size with h1|h1
 ·exact h1
 ·unfold Iter at h;rw[afh h1]at h;cases h
end
def BU(L:List Nat):List (List UInt8):=L.map hexL
theorem KL{L:List Nat}{k:Nat}(hk:k<L.length):BU (L.take (k+1))=BU (L.take k)++[hexL (L.getD k 0)]:=by
 unfold BU;rw[aC hk,List.map_append,ay,ah hk];rfl
theorem xT(L:List (List UInt8))(x:List UInt8):(strs (L++[x])).map cC=(strs L).map cC++[.string ⟨x.toArray⟩]:=by
 unfold strs;simp
theorem pq{L:List Nat}(h:∀x∈L,x<65536)(hl:L.length≤8):(gV L).length≤40:=by
 have:=nS L h;omega
theorem KO{w:World}(env:Env w)(g o c:Nat)(L:List Nat)(hL:∀x∈L,x<65536)(hl:L.length≤8)(hg:g<w.heap.size)(hc:∀j,j<L.length→w.cell? ⟨g,o+j,none⟩=some (.int .u16 (L.getD j 0:Int))):Calls ag 216 #[.slice (some ⟨g,o,none⟩) L.length c] w (Got (.string ⟨(gV L).toArray⟩) w):=by
 obtain⟨i0,hi,hz0,hz1,hz2⟩:=info_parts pW;obtain⟨mM,Hc,HL⟩:=bj env hc hL;clear env hc hL;obtain⟨n,hn⟩:∃n,n=L.length:=⟨_,rfl⟩;rw[←hn]at hl⊢;have Hn:=ae hn;clear hn;go_enter Tryz.func216,Tryz.ntmps216;go_wp2_with fail
 go_loopw [3,8] (fun v i wr=>∃k:Nat,k≤n∧i=.int .i64 k∧af (wr.ownsRow w.heap.size 9 1 v k ((strs (BU (L.take k))).map cC))∧af (Below w.heap.size w wr)) (fun _ i _=>n-(intOf i).toNat)
 case atStart=>exact⟨0,bD _,rfl,ae (a8 _ _ _ _),ae (aG _ _)⟩
 case round=>
  obtain⟨k,hk,rfl,hown,hb⟩:=hrel;by_cases hlt:k<n
  ·have hkl:k<L.length:=by have:=Hn.out;omega
   have cx:=(hb.out.cell (p:=⟨g,o+k,none⟩) hg).trans (Hc.out k hkl);have hx:L.getD k 0<65536:=by
    rw[ay,ah hkl];exact HL.out _ (List.getElem_mem hkl)
   have hs:=KL hkl;have hq:(strs (BU (L.take (k+1)))).map cC=(strs (BU (L.take k))).map cC++[.string ⟨(hexL (L.getD k 0)).toArray⟩]:=by rw[hs,xT]
   have Hq:=ae hq;clear hs hq;generalize L.getD k 0=X at cx hx Hq;have HF:=ae (fmt16 (w:=wr) X hx (mM.out.below hb.out).db);go_wp2_with(first
    |(go_at_call 217;(with_reducible refine HF.out.mono ?_);rintro r w2⟨rfl,g2⟩;have ho2:=ae (own_below hown.out g2);have hb2:=aU hb g2;clear g2)
    |(at_builtin;refine wpList_append_own _ rfl _ _ 41 rfl w.heap.size 9 i0 (.string iy) 1 16 Tryz.underlying41 hi hz0 hz1 hz2 rfl aF _ k _ rfl (ho2.out.alloc _) ⟨w2.heap.size,0,none⟩ 1 1 [.string ⟨(hexL X).toArray⟩] rfl rfl (cell_one_new _ _ _) (fun x hx=>by simp at hx;subst hx;rfl) (by unfold maxLen;omega) aM (by have:=hb2.out.size;simp;omega) ?_;intro v' w3 hown' hgrow3 hnil3;have Va:=ae hown';have hb3:=ae ((hb2.out.alloc (hb2.out.size) _).grown hgrow3 (by have:=hb2.out.size;simp;omega) (fun q hq=>(ho2.out.lt q hq).1));clear hown' hgrow3 hnil3))
   go_roundw
   case rel=>exact⟨k+1,by omega,by go_num,ae (by rw[Hq.out];exact Va.out),hb3⟩
   case measure=>simp[intOf];omega
  ·obtain rfl:k=n:=by omega
   have hown:=hown.out;rw[show L.take k=L by rw[Hn.out,List.take_length]]at hown;have hlen:(BU L).length=k:=by rw[Hn.out];simp[BU]
   rw[←hlen]at hown;have HJ:=ae (BL (w:=wr) 58 hown aM (by have:=pq HL.out (by have:=Hn.out;omega);exact au this aF));clear hown hlen;go_wp2_with(go_at_call 214;(with_reducible refine HJ.out.mono ?_);rintro r w2⟨rfl,g2⟩;have hb2:=aU hb g2;clear g2)
   go_ret;exact⟨rfl,hb2.out⟩
def mk(k:Nat):Nat:=18446744073709551616-2^k
theorem uF{k:Nat}(h:k≤64):2^k≤18446744073709551616:=au (ae6 aF h) (by decide)
theorem Yr(k:Nat):mk k<18446744073709551616:=by
 have:0<2^k:=Nat.pow_pos aF;unfold mk;omega
theorem Zl{k:Nat}(h:k≤64):18446744073709551615-mk k=2^k-1:=by
 have:=uF h;have:0<2^k:=Nat.pow_pos aF;unfold mk;omega
theorem xU{x k:Nat}(hx:x<18446744073709551616)(h:k≤64):bits .andNot .u64 (x:Int) ((mk k:Nat):Int)=((x%2^k:Nat):Int):=by
 rw[u64_andNot_nat x _ hx (Yr k),Zl h,Nat.and_two_pow_sub_one_eq_mod]
theorem Fj{k:Nat}(h:k≤64)(i:Nat):(mk k).testBit i=(decide (i<64)&& !decide (i<k)):=by
 have h0:0<2^k:=Nat.pow_pos aF;have h1:=uF h;have:=Nat.testBit_two_pow_sub_succ (show 2^k-1<2^64 by omega) i;rw[Nat.testBit_two_pow_sub_one,show 2^64-(2^k-1+1)=mk k by unfold mk;omega]at this;exact this
theorem Vb{x k:Nat}(hx:x<18446744073709551616)(h:k≤64):x&&&mk k=x/2^k*2^k:=by
 rw[←Nat.shiftRight_eq_div_pow,←Nat.shiftLeft_eq];apply Nat.eq_of_testBit_eq;intro i;rw[Nat.testBit_and,Fj h,Nat.testBit_shiftLeft,Nat.testBit_shiftRight];by_cases hi:i<64
 ·by_cases hk:i<k
  ·simp[hk,Nat.not_le.2 hk]
  ·rw[show k+(i-k)=i by omega];simp[hi,hk,Nat.not_lt.1 hk]
 ·have:x.testBit i=false:=Nat.testBit_lt_two_pow (afb hx (au (by decide:18446744073709551616≤2^64) (ae6 aF aM)));rw[show k+(i-k)=i by omega,this];simp
theorem OV{x k:Nat}(hx:x<18446744073709551616)(h:k≤64):bits .and .u64 (x:Int) ((mk k:Nat):Int)=((x/2^k*2^k:Nat):Int):=by
 rw[u64_and_nat x _ hx (Yr k),Vb hx h]
def kH(a:Ad)(n:Nat):Nat:=if a.v6 then 64-n else 0
def kL(a:Ad)(n:Nat):Nat:=if a.v6 then(if n≤64 then 64 else 128-n)else 32-n
theorem abu(a:Ad)(n:Nat):kH a n≤64:=by unfold kH;split<;>omega
theorem abv{a:Ad}{n:Nat}:kL a n≤64:=by
 unfold kL;split
 ·split<;>omega
 ·omega
theorem OX(hi lo k:Nat)(hl:lo<18446744073709551616):(hi*2^64+lo)%2^(k+64)=hi%2^k*2^64+lo:=by
 rw[Nat.pow_add,Nat.mul_comm (2^k),Nat.mod_mul];have e1:(hi*2^64+lo)%2^64=lo:=by omega
 have e2:(hi*2^64+lo)/2^64=hi:=by omega
 rw[e1,e2,Nat.mul_comm (2^64)];omega
theorem Vd(hi lo k:Nat)(hk:k≤64):(hi*2^64+lo)%2^k=lo%2^k:=by
 have:hi*2^64=2^k*(hi*2^(64-k)):=by
  rw[Nat.mul_left_comm,←Nat.pow_add,show k+(64-k)=64 by omega]
 rw[this,Nat.mul_add_mod]
theorem val_mod{a:Ad}(ok:a.Ok){n:Nat}(hn:n≤a.size)(h4:a.v6=false→a.hi=0):a.val%2^(a.size-n)=0↔a.hi%2^kH a n=0∧a.lo%2^kL a n=0:=by
 have hl:=ok.lo;unfold Ad.val Ad.size kH kL at*;cases h6:a.v6 with
 |true=>
  rw[h6]at hn;simp only[if_true]at hn⊢;by_cases h:n≤64
  ·rw[show 128-n=(64-n)+64 by omega,OX _ _ _ hl,if_pos h,Nat.mod_eq_of_lt (a:=a.lo) aM];omega
  ·rw[Vd _ _ _ aM,if_neg h,show 64-n=0 by omega,Nat.pow_zero,Nat.mod_one];simp
 |false=>
  rw[h6]at hn;simp only[Bool.false_eq_true,if_false]at hn⊢;rw[h4 h6];simp
theorem Zm{a:Ad}(h:a.may=true):a.v6=false→a.hi=0:=fun h6=>(may4 h h6).1
theorem Ve{p:Pf}(ok:p.a.Ok):pS p=(p.a.may&&decide (p.bits≤p.a.size)&&(decide (p.a.hi%2^kH p.a p.bits=0)&&decide (p.a.lo%2^kL p.a p.bits=0))):=by
 unfold pS;cases hm:p.a.may with
 |false=>rfl
 |true=>
  by_cases hn:p.bits≤p.a.size
  ·rw[decide_eq_true hn,bH,bH,bH,←Bool.decide_and];exact decide_eq_decide.2 (val_mod ok hn (Zm hm))
  ·rw[decide_eq_false hn];rfl
theorem Fo{k:Nat}(h:k≤64):IntKind.u64.wrap (18446744073709551615*2^k)=((mk k:Nat):Int):=by
 have h1:=uF h;have h0:0<2^k:=Nat.pow_pos aF;rw[ej];unfold mk;rw[show(2:Int)^k=((2^k:Nat):Int) by simp];generalize 2^k=q at h1 h0;omega
theorem I0(x k:Nat):(x:Int)/2^k=((x/2^k:Nat):Int):=by simp
theorem yZ{i j i' j':Int}(h:i=i')(h':j=j'):Ending.returned (.tuple #[.int .u64 i,.int .u64 j])=.returned (.tuple #[.int .u64 i',.int .u64 j']):=by rw[h,h']
theorem size_any(a:Ad)(w:World):Calls ag 335 #[.agg a.cells] w fun r w'=>r=.returned (.int .u8 (a.size:Int))∧Below w.heap.size w w':=by
 obtain⟨v,h,l⟩:=a;unfold Ad.cells;cases v
 all_goals
  go_enter Tryz.func335,Tryz.ntmps335;go_wp2_with fail
  go_ret;exact⟨rfl,boxed _ _⟩
theorem KR(a:Ad)(n:Nat)(hn:n≤a.size)(w:World):Calls ag 336 #[.agg a.cells,.int .u8 n] w fun r w'=>r=.returned (.tuple #[.int .u64 (mk (kH a n):Int),.int .u64 (mk (kL a n):Int)])∧Below w.heap.size w w':=by
 obtain⟨v,h,l⟩:=a;unfold Ad.cells Ad.size kH kL at*;cases v with
 |false=>
  simp only[Bool.false_eq_true,if_false]at hn⊢;have e1:((32:Int)-(n:Int)).toNat=32-n:=by omega
  go_enter Tryz.func336,Tryz.ntmps336;go_wp2_with fail
  go_ret2;exact⟨yZ rfl (Fo aM),boxed _ _⟩
 |true=>
  simp only[if_true]at hn⊢;have e1:((64:Int)-(n:Int)).toNat=64-n:=by omega
  have e2:((128:Int)-(n:Int)).toNat=128-n:=by omega
  by_cases hc:n≤64
  ·rw[if_pos hc];go_enter Tryz.func336,Tryz.ntmps336;go_wp2_with fail
   go_ret2;exact⟨yZ (Fo aM) rfl,boxed _ _⟩
  ·rw[if_neg hc];have e3:mk (64-n)=18446744073709551615:=by rw[show 64-n=0 by omega];rfl
   rw[e3];go_enter Tryz.func336,Tryz.ntmps336;go_wp2_with fail
   go_ret2;exact⟨yZ rfl (Fo aM),boxed _ _⟩
theorem wV(p:Pf)(ok:p.Ok)(w:World):Calls ag 320 #[.agg p.cells] w (Got (.bool (pS p)) w):=by
 obtain⟨HE,Hm,Hs⟩:=bj (Ve (p:=p) ok.a) (kh p.a ok.a) (size_any p.a);have hn:=ok.bits;have hh:=ok.a.hi;have hl:=ok.a.lo;have HX:p.bits≤p.a.size→∀w,Calls ag 336 #[.agg p.a.cells,.int .u8 (p.bits:Int)] w fun r w'=>r=.returned (.tuple #[.int .u64 (mk (kH p.a p.bits):Int),.int .u64 (mk (kL p.a p.bits):Int)])∧Below w.heap.size w w':=fun h w=>KR p.a p.bits h w
 have eH:=xU hh (abu p.a p.bits);have eL:=xU hl (abv (a:=p.a) (n:=p.bits));generalize mk (kH p.a p.bits)=MH at HX eH;generalize mk (kL p.a p.bits)=ML at HX eL;generalize p.a.hi%2^kH p.a p.bits=XH at HE eH;generalize p.a.lo%2^kL p.a p.bits=XL at HE eL;generalize hR:pS p=RR at HE⊢;clear hR;generalize hM:p.a.may=M at Hm HE HX;generalize hS:p.a.size=SZ at Hs HE HX;have hS2:SZ≤128:=by rw[←hS];exact size_le _
 clear hM hS;obtain⟨⟨v,h,l⟩,n⟩:=p;unfold Pf.cells;unfold Ad.cells at*;simp only at hn hh hl HE Hm Hs HX eH eL⊢;have hB0:=aD.new w 243 #[.bool v,.int .u64 h,.int .u64 l,.int .u8 n];have hb0:=(boxed w (.cells #[.bool v,.int .u64 h,.int .u64 l,.int .u8 n] 243)).drew;obtain⟨EH,EL⟩:=aI eH eL;clear eH eL;cases M with
 |false=>
  have e:RR=false:=by rw[HE.out];rfl
  rw[e];go_enter Tryz.func320,Tryz.ntmps320;go_wp2_with fail
  generalize w.alloc (.cells #[.bool v,.int .u64 h,.int .u64 l,.int .u8 n] 243)=v0 at hB0 hb0⊢;generalize hg:w.heap.size=g at hB0⊢;have hB0:=hB0.drew;refine wp_region_held_drew (S:=(fun w'=>w'.cell? ⟨g,0,none⟩=some (.bool v)∧w'.cell? ⟨g,1,none⟩=some (.int .u64 h)∧w'.cell? ⟨g,2,none⟩=some (.int .u64 l)∧w'.cell? ⟨g,3,none⟩=some (.int .u8 n))) bg ⟨hB0.cell 0,hB0.cell 1,hB0.cell 2,hB0.cell 3⟩ (fun hHeld=>?_);refine bm 0 ?_
  refine bm 1 ?_
  refine jk 2 fun K hK=>?_;go_simp;refine(Hm.out _).mono ?_;rintro r v1⟨rfl,d1⟩;have hb1:=after hb0 d1;have hB1:=hB0.below d1 hB0.lt;refine hK.out _ _ ⟨hB1.cell 0,hB1.cell 1,hB1.cell 2,hB1.cell 3⟩ (fun hHeld=>?_);clear hK K;try simp only[cq]
  refine bm 3 ?_
  refine bm 4 ?_
  refine Ep 5 ?_
  refine Ep 6 ?_
  refine Ep 7 ?_
  refine Ep 8 ?_
  refine Ep 9 ?_
  refine Ep 10 ?_
  refine bm 11 ?_
  refine qR ?_;go_wp2_with fail
  go_ret;exact⟨rfl,hb1⟩
 |true=>
  by_cases hle:n≤SZ
  ·have Zn:=ae (HX hle);clear HX;have hle':¬(SZ:Int)<(n:Int):=by omega
   have hle2:decide ((SZ:Int)<(n:Int))=false:=decide_eq_false hle';have hle3:decide (SZ<n)=false:=decide_eq_false aM;have e:RR=(decide (XH=0)&&decide (XL=0)):=by rw[HE.out,decide_eq_true hle];rfl
   have He:=ae e;clear e;go_enter Tryz.func320,Tryz.ntmps320;go_wp2_with fail
   generalize w.alloc (.cells #[.bool v,.int .u64 h,.int .u64 l,.int .u8 n] 243)=v0 at hB0 hb0⊢;generalize hg:w.heap.size=g at hB0⊢;have hB0:=hB0.drew;refine wp_region_held_drew (S:=(fun w'=>w'.cell? ⟨g,0,none⟩=some (.bool v)∧w'.cell? ⟨g,1,none⟩=some (.int .u64 h)∧w'.cell? ⟨g,2,none⟩=some (.int .u64 l)∧w'.cell? ⟨g,3,none⟩=some (.int .u8 n))) bg ⟨hB0.cell 0,hB0.cell 1,hB0.cell 2,hB0.cell 3⟩ (fun hHeld=>?_);refine bm 0 ?_
   refine bm 1 ?_
   refine jk 2 fun K hK=>?_;go_simp;refine(Hm.out _).mono ?_;rintro r v1⟨rfl,d1⟩;have hb1:=after hb0 d1;have hB1:=hB0.below d1 hB0.lt;refine hK.out _ _ ⟨hB1.cell 0,hB1.cell 1,hB1.cell 2,hB1.cell 3⟩ (fun hHeld=>?_);clear hK K;try simp only[cq]
   refine bm 3 ?_
   refine bm 4 ?_
   refine bm 5 ?_
   refine bm 6 ?_
   refine bm 7 ?_
   refine bm 8 ?_
   refine jk 9 fun K hK=>?_;go_simp;refine(Hs.out _).mono ?_;rintro r v2⟨rfl,d2⟩;have hb2:=after hb1 d2;have hB2:=hB1.below d2 hB1.lt;refine hK.out _ _ ⟨hB2.cell 0,hB2.cell 1,hB2.cell 2,hB2.cell 3⟩ (fun hHeld=>?_);clear hK K;try simp only[cq]
   refine bm 10 ?_
   refine bm 11 ?_
   refine qR ?_;have c0:=hB2.cell 0;have c1:=hB2.cell 1;have c2:=hB2.cell 2;have c3:=hB2.cell 3;simp at c0 c1 c2 c3;obtain⟨HB2,Hb2⟩:=aI hB2 hb2;have eH:=EH.out;have eL:=EL.out;have hg2:g<v2.heap.size:=hB2.lt;clear hB0 hb0 hB1 hb1 hB2 hb2;by_cases h1:XH=0
   all_goals by_cases h2:XL=0
   all_goals
    have q1:((XH:Int)==0)=decide (XH=0):=by rw[ix,beq_iff_eq,decide_eq_true_iff];omega
    have q2:((XL:Int)==0)=decide (XL=0):=by rw[ix,beq_iff_eq,decide_eq_true_iff];omega
    first|rw[decide_eq_true h1]at q1 He|rw[decide_eq_false h1]at q1 He
    first|rw[decide_eq_true h2]at q2 He|rw[decide_eq_false h2]at q2 He
    clear h1 h2;go_wp2_with(go_at_call 336;(with_reducible refine(Zn.out _).mono ?_);rintro r v3⟨rfl,d3⟩;have hc3:=(abe d3).1)
    go_ret;exact⟨show Ending.returned (.bool _)=_ by rw[He.out];rfl,after Hb2.out d3⟩
  ·have hle':(SZ:Int)<(n:Int):=by omega
   have hle2:decide ((SZ:Int)<(n:Int))=true:=decide_eq_true hle';have hle3:decide (SZ<n)=true:=decide_eq_true aM;have e:RR=false:=by rw[HE.out,decide_eq_false hle];rfl
   rw[e];clear HX e;go_enter Tryz.func320,Tryz.ntmps320;go_wp2_with fail
   generalize w.alloc (.cells #[.bool v,.int .u64 h,.int .u64 l,.int .u8 n] 243)=v0 at hB0 hb0⊢;generalize hg:w.heap.size=g at hB0⊢;have hB0:=hB0.drew;refine wp_region_held_drew (S:=(fun w'=>w'.cell? ⟨g,0,none⟩=some (.bool v)∧w'.cell? ⟨g,1,none⟩=some (.int .u64 h)∧w'.cell? ⟨g,2,none⟩=some (.int .u64 l)∧w'.cell? ⟨g,3,none⟩=some (.int .u8 n))) bg ⟨hB0.cell 0,hB0.cell 1,hB0.cell 2,hB0.cell 3⟩ (fun hHeld=>?_);refine bm 0 ?_
   refine bm 1 ?_
   refine jk 2 fun K hK=>?_;go_simp;refine(Hm.out _).mono ?_;rintro r v1⟨rfl,d1⟩;have hb1:=after hb0 d1;have hB1:=hB0.below d1 hB0.lt;refine hK.out _ _ ⟨hB1.cell 0,hB1.cell 1,hB1.cell 2,hB1.cell 3⟩ (fun hHeld=>?_);clear hK K;try simp only[cq]
   refine bm 3 ?_
   refine bm 4 ?_
   refine bm 5 ?_
   refine bm 6 ?_
   refine bm 7 ?_
   refine bm 8 ?_
   refine jk 9 fun K hK=>?_;go_simp;refine(Hs.out _).mono ?_;rintro r v2⟨rfl,d2⟩;have hb2:=after hb1 d2;have hB2:=hB1.below d2 hB1.lt;refine hK.out _ _ ⟨hB2.cell 0,hB2.cell 1,hB2.cell 2,hB2.cell 3⟩ (fun hHeld=>?_);clear hK K;try simp only[cq]
   refine bm 10 ?_
   refine bm 11 ?_
   refine qR ?_;go_wp2_with fail
   go_ret;exact⟨rfl,hb2⟩
theorem eA(w:World)(o o':Obj):Below w.heap.size w ((w.alloc o).alloc o'):=after (boxed _ _) (boxed _ _)
theorem OY(a b:Ad)(w:World):Calls ag 169 #[.agg a.cells,.agg b.cells] w (Got (.bool (ux a b)) w):=by
 obtain⟨v,x,l⟩:=a;obtain⟨v',x',l'⟩:=b;unfold Ad.cells ux;simp only;cases v
 all_goals cases v'
 case false.true|true.false=>
  go_enter Tryz.func169,Tryz.ntmps169;go_wp2_with fail
  go_ret;exact⟨rfl,eA _ _ _⟩
 all_goals
  by_cases e:x=x'
  ·subst e;rw[if_neg aF,if_neg (by simp)];go_enter Tryz.func169,Tryz.ntmps169;go_wp2_with fail
   go_ret;exact⟨rfl,eA _ _ _⟩
  ·have e1:((x:Int) !=(x':Int))=true:=by simp;omega
   rw[if_neg aF,if_pos e];have He:=ae e;clear e;go_enter Tryz.func169,Tryz.ntmps169;go_wp2_with fail
   go_ret;exact⟨rfl,eA _ _ _⟩
theorem kC(z:Value)(hz:z.cells= #[z])(k:Nat):Builtin.zeroCells z.cells k=(aH k z).toArray:=by
 unfold Builtin.zeroCells;rw[hz];apply Array.ext
 ·simp
 ·intro i h1 h2;simp;have:i%1=0:=Nat.mod_one i;simp[this]
section
variable{P:Program}(w:World)
theorem ti(base:Nat)(t tx ty e:TypeId)(i:TypeInfo)(z:Value)(ht:P.underlying t=some (.slice e))(hx:P.underlying tx=some (.int .i64))(hi:P.info? e=some i)(hz:i.zero=some z)(hsize:i.size=1)(hby:i.bytes=8)(hzc:z.cells= #[z])(hz1:z.oneCell'=true)(v:Value)(n:Nat)(xs:List Value)(hown:w.ownsRow base e 1 v n xs)(k:Nat)(hk:k≤1000)(hn:n≤1000)(hbase:base≤w.heap.size):∃v' w',(Builtin.append_ #[t,tx] ty #[v,.int .i64 k]).run P w=.ok v' w'∧w'.ownsRow base e 1 v' (n+k) (xs++aH k z)∧w.grownBy w' v.ownBlock:=by
 have hwr:IntKind.i64.wrap (k:Int)=(k:Int):=by rw[afm];omega
 have hw0:IntKind.i64.wrap 0=0:=by rw[afm];decide
 have hneg:¬((k:Int)<0):=by omega
 have hbig:¬(281474976710656<(k:Int)*8):=by omega
 have hlen:(xs++aH k z).length=(n+k)*1:=by rw[ai,hown.1,j5];omega
 have grown:∀(old:Nat),old<n+k→∀(row:Option Nat),(w.drew.alloc (.cells (xs.toArray++(aH k z).toArray++Builtin.zeroCells z.cells (grownCap w (n+k) old e-(n+k))) e)).ownsRow base e 1
  (.slice (some ⟨w.heap.size,0,none⟩) (n+k) (grownCap w (n+k) old e)) (n+k) (xs++aH k z)∧w.grownBy (w.drew.alloc (.cells (xs.toArray++(aH k z).toArray++Builtin.zeroCells z.cells (grownCap w (n+k) old e-(n+k))) e)) row:=by
  intro old ho row;have hge:=grownCap_ge w (n+k) old e;have hcm:grownCap w (n+k) old e≤maxLen:=grownCap_le_maxLen w (n+k) old e (by simp only[maxLen];omega);refine⟨⟨hlen,.inr ⟨w.heap.size,_,_,rfl,hbase,heap_alloc_new w.drew _,hge,hcm,?_,?_⟩⟩,⟨rfl,rfl,rfl,by simp,fun q hq _=>(Below.heap_alloc w.drew _ q hq)⟩⟩
  ·simp only[Array.size_append,Yk,size_zeroCells,hzc,hown.1,j5];simp;omega
  ·simp only[Array.toList_append,aO];rw[←aO,←hlen];exact List.take_left
 have h63:¬(9223372036854775807<((n:Int)+(k:Int))):=by omega
 rcases hown.2 with⟨rfl,rfl⟩|⟨g,cap,cur,rfl,hbg,hg,hnc,hcm,hcs,htake⟩
 ·have hx0:xs=[]:=bF (by simpa using hown.1);subst hx0;by_cases hm:k=0
  ·subst hm;refine⟨.slice none 0 0,w,?_,a8 w base e 1,⟨rfl,rfl,rfl,aw _,fun _ _ _=>rfl⟩⟩;simp[Builtin.append_,run_underlying ht,run_underlying hx,sizeOf,typeInfo,hi,asInt,asIntOf,hwr,hw0]
  ·have hm0:¬k≤0:=by omega
   have h48':¬(281474976710656<Builtin.nextslicecap k 0*8):=by rw[nextslicecap_zero aM];omega
   have h63':¬(9223372036854775807<(k:Int)):=by omega
   have hgr:=grown 0 aM (Value.ownBlock (.slice none 0 0));simp only[Nat.zero_add,List.nil_append,Array.empty_append]at hgr⊢;refine⟨_,_,?_,hgr.1,hgr.2⟩;simp[Builtin.append_,run_underlying ht,run_underlying hx,sizeOf,typeInfo,zeroValue,hi,hz,hsize,hby,asInt,asIntOf,hwr,hneg,hbig,hm,h63',h48',Question.forced,run_firstCells_none,newRow,grownCap,kC z hzc]
 ·by_cases hroom:n+k≤cap
  ·have hst:=run_storeCells_at P g n e (aH k z) 0 cur w hg (by simp only[j5];omega) (fun u hu=>by rw[(List.mem_replicate.1 hu).2];exact hz1);simp only[Nat.add_zero]at hst;have hadd:(⟨g,0,none⟩:Addr).add n=⟨g,n,none⟩:=by unfold Addr.add;split<;>simp_all
   refine⟨.slice (some ⟨g,0,none⟩) (n+k) cap,_,?_,⟨hlen,.inr ⟨g,cap,_,rfl,hbg,setRow_heap w g cur (cur.toList.take n++aH k z++cur.toList.drop (n+(aH k z).length)).toArray e _ hg,hroom,hcm,?_,?_⟩⟩,⟨rfl,rfl,rfl,by simp,fun q _ hq=>setRow_other w g q _ (fun e=>hq (by simp[Value.ownBlock,e]))⟩⟩
   ·by_cases hm:k=0
    ·subst hm;simp at hst;simp[Builtin.append_,run_underlying ht,run_underlying hx,sizeOf,typeInfo,zeroValue,hi,hz,hsize,hby,asInt,asIntOf,hw0,hroom,hadd,hst];intro h;omega
    ·simp[Builtin.append_,run_underlying ht,run_underlying hx,sizeOf,typeInfo,zeroValue,hi,hz,hsize,hby,asInt,asIntOf,hwr,hneg,hbig,hm,hroom,hadd,kC z hzc,hst]
   ·simp only[Yk,ai,List.length_take,List.length_drop,Array.length_toList,j5];omega
   ·have e:cur.toList.take n=xs:=by rw[←htake,Nat.mul_one]
    rw[e,←hlen];exact List.take_left
  ·have holds:∀j u,xs[j]? =some u→w.cell? ((⟨g,0,none⟩:Addr).add j)=some u:=hown.cells (g:=g) rfl;have hm:k≠0:=by omega
   have hfit:=growslice_fits (old:=cap) (need:=n+k) (bytes:=8) aM aM;have h48':¬(281474976710656<Builtin.nextslicecap (n+k) cap*8):=by omega
   have hfo:=run_firstCells_some (P:=P) w.drew 1 n ⟨g,0,none⟩ n cap xs hown.1 (by simpa using holds);have hgr:=grown cap aM (Value.ownBlock (.slice (some ⟨g,0,none⟩) n cap));refine⟨_,_,?_,hgr.1,hgr.2⟩;simp[Builtin.append_,run_underlying ht,run_underlying hx,sizeOf,typeInfo,zeroValue,hi,hz,hsize,hby,asInt,asIntOf,hwr,hneg,hbig,hm,hroom,h63,h48',Question.forced,hfo,newRow,grownCap,kC z hzc]
theorem tj(base:Nat)(t ty e:TypeId)(i:TypeInfo)(ht:P.underlying t=some (.slice e))(hi:P.info? e=some i)(hsize:i.size=1)(v:Value)(n:Nat)(xs:List Value)(hown:w.ownsRow base e 1 v n xs):(Builtin.append_ #[t,t] ty #[v,.slice none 0 0]).run P w=.ok v w:=by
 rcases hown.2 with⟨rfl,rfl⟩|⟨g,cap,cur,rfl,hbg,hg,hnc,hcm,hcs,htake⟩
 ·simp[Builtin.append_,run_underlying ht,sizeOf,typeInfo,hi,Builtin.lenOf,Builtin.firstCells]
 ·simp[Builtin.append_,run_underlying ht,sizeOf,typeInfo,hi,hsize,Builtin.lenOf,Builtin.firstCells,storeCells,hnc]
theorem uG(base OZ:Nat)(t ty e:TypeId)(i:TypeInfo)(z:Value)(ht:P.underlying t=some (.slice e))(hi:P.info? e=some i)(hz:i.zero=some z)(hsize:i.size=1)(hby:i.bytes=8)(hzs:z.cells.size=1)(v:Value)(n:Nat)(xs:List Value)(hown:w.ownsRow base e 1 v n xs)(u:Value)(m:Nat)(ys:List Value)(hown2:w.ownsRow OZ e 1 u m ys)(h1:∀y∈ys,y.oneCell'=true)(hn:n≤1000)(hm:m≤1000)(hbase:base≤w.heap.size):∃v' w',(Builtin.append_ #[t,t] ty #[v,u]).run P w=.ok v' w'∧w'.ownsRow base e 1 v' (n+m) (xs++ys)∧w.grownBy w' v.ownBlock:=by
 rcases hown2.2 with⟨rfl,rfl⟩|⟨g,cap,cur,rfl,hbg,hg,hnc,hcm,hcs,htake⟩
 ·have hy:ys=[]:=bF (by simpa using hown2.1);subst hy;exact⟨v,w,tj w base t ty e i ht hi hsize v n xs hown,by rw[List.append_nil];exact hown,⟨rfl,rfl,rfl,aw _,fun _ _ _=>rfl⟩⟩
 ·obtain⟨v',w',hr,ho,hgr,_⟩:=run_append_own (P:=P) w base t ty e i z 1 8 ht hi hz hsize hby hzs aF v n xs hown ⟨g,0,none⟩ m cap ys hown2.1 (fun j u hu=>hown2.cells (g:=g) rfl j u hu) h1 (by unfold maxLen;omega) aM hbase;exact⟨v',w',hr,ho,hgr⟩
end
theorem step_append{P:Program}{w:World}{ops:Array Oper}{rest:List Oper}{o:Oper}{a:Act}{Q:Exit→Act→World→Prop}(hgd:o.guard=none)(s x:Operand)(t u:TypeId)(ho:o.op=.call {callee:=.builtin .append,args:= #[s,x],argTypes:= #[t,u]}){v y v':Value}{w':World}(hs:a.eval s=v)(hx:a.eval x=y)(hr:(Builtin.append_ #[t,u] o.type #[v,y]).run P w=.ok v' w')(h:wpList P ops Q rest (a.put o.dst v') w'):wpList P ops Q (o::rest) a w:=wpList_plain hgd fun _ hK=>by
 unfold Oper.wp execOp;simp only[ho,resolve,invoke,builtin,Sem.run_bind,Sem.run_pure,Result.andThen_ok,List.map_toArray,List.map_cons,List.map_nil,hs,hx,hr];exact hK _ _ h
theorem O0{w:World}{base n:Nat}{e:TypeId}{g cap:Nat}{xs:List Value}(h:w.ownsRow base e 1 (.slice (some ⟨g,0,none⟩) n cap) n xs):∀j u,xs[j]? =some u→w.cell? ((⟨g,0,none⟩:Addr).add j)=some u:=fun j u hu=>h.cells (g:=g) rfl j u hu
theorem clone_any{w:World}{base:Nat}{v:Value}(L:List Nat)(h:w.ownsRow base 22 1 v L.length (ew L))(hl:L.length≤1000):Calls ag 328 #[v] w fun r w'=>(∃v',r=.returned v'∧w'.ownsRow w.heap.size 22 1 v' L.length (ew L))∧Below w.heap.size w w':=by
 obtain⟨i0,hi,hz0,hz1,hz2⟩:=info_parts uC;rcases aQ h with⟨A,cap,rfl⟩;cases A with
 |none=>
  have hn:L=[]:=by
   rcases h.2 with⟨_,h⟩|⟨g,cap,cur,h,_⟩
   ·exact bF h
   ·cases h
  subst hn;have hc:cap=0:=by
   rcases h.2 with⟨h,_⟩|⟨g,cap,cur,h,_⟩
   ·cases h;rfl
   ·cases h
  subst hc;clear h;have hb:=aG w.heap.size w;have e1:∀W,(binOp .eql 355 (.slice none 0 0) (.slice none 0 0)).run ag W=.ok (.bool true) W:=fun _=>by kernel_rfl
  go_enter Tryz.func328,Tryz.ntmps328;go_wp2_with fail
  go_ret;exact⟨⟨.slice none 0 0,rfl,a8 _ _ _ _⟩,hb⟩
 |some ad=>
  obtain⟨g,rfl⟩:∃g,ad=⟨g,0,none⟩:=by
   rcases h.2 with⟨h,_⟩|⟨g,cap,cur,h,_⟩
   ·cases h
   ·cases h;exact⟨g,rfl⟩
  have pu:=ae (O0 h);have hg:=(h.lt g rfl).2;clear h;have hE:(w.alloc (.cells #[] 22)).ownsRow w.heap.size 22 1 (.slice (some ⟨w.heap.size,0,none⟩) 0 0) 0 []:=⟨rfl,.inr ⟨w.heap.size,0,#[],rfl,aw _,heap_alloc_new w _,aw _,by decide,rfl,rfl⟩⟩;have HE:=ae hE;obtain⟨n,hn⟩:∃n,n=L.length:=⟨_,rfl⟩;rw[←hn]at hl⊢;have Hn:=ae hn;have hb:=boxed w (.cells #[] 22);have Hb:=ae hb;clear hE hn hb;have e1:∀W,(binOp .eql 355 (.slice (some ⟨g,0,none⟩) n cap) (.slice none 0 0)).run ag W=.ok (.bool false) W:=fun _=>by kernel_rfl
  go_enter Tryz.func328,Tryz.ntmps328;go_wp2_with(at_builtin;refine wpList_append_own _ rfl _ _ 355 rfl w.heap.size 22 i0 (.int .u64 0) 1 8 Tryz.underlying355 hi hz0 hz1 hz2 rfl aF _ 0 [] rfl HE.out ⟨g,0,none⟩ n cap (ew L) rfl (by rw[Hn.out];simp[ew]) (fun j u hu=>(World.cell?_alloc_lt w _ _ (by unfold Addr.add;split<;>simpa using hg)).trans (pu.out j u hu)) (fun x hx=>by obtain⟨y,_,rfl⟩:=List.mem_map.1 hx;rfl) (by unfold maxLen;omega) aM (by simp) ?_;intro v' w3 hown' hgrow3 hnil3;have Va:=ae hown';have hb3:=ae (Hb.out.grown hgrow3 (by simp) (fun q hq=>(HE.out.lt q hq).1));clear hown' hgrow3 hnil3)
  go_ret;refine⟨⟨v',rfl,?_⟩,hb3.out⟩;have:=Va.out;rwa [Nat.zero_add,List.nil_append]at this
def Rd(w:World)(b:Nat)(s:ByteArray)(f:Nat):Prop:=aD w b 149 #[.string s,.int .i64 f]
theorem Rd.lt{w:World}{b:Nat}{s:ByteArray}{f:Nat}(h:Rd w b s f):b<w.heap.size:=aD.lt h
theorem Rd.cells{w:World}{b:Nat}{s:ByteArray}{f:Nat}(h:Rd w b s f):w.cell? ⟨b,0,none⟩=some (.string s)∧w.cell? ⟨b,1,none⟩=some (.int .i64 f):=⟨h.cell 0,h.cell 1⟩
theorem Rd.free{w:World}{b:Nat}{s:ByteArray}{f:Nat}(h:Rd w b s f):w.frozen? ⟨b,0,none⟩=false∧w.frozen? ⟨b,1,none⟩=false:=⟨h.frozen 0,h.frozen 1⟩
theorem new_any(s:ByteArray)(w:World):Calls ag 88 #[.string s] w fun r w'=>r=.returned (.pointer (some ⟨w.heap.size,0,none⟩))∧Rd w' w.heap.size s 0∧Below w.heap.size w w':=by
 go_enter Tryz.func88,Tryz.ntmps88;go_wp2_with fail
 go_ret;exact⟨rfl,aD.new _ _ _,boxed _ _⟩
def qS(s:ByteArray)(f n:Nat):ByteArray:=if f=0∧n≤s.size then s.extract 0 n else iy
def nU(s:ByteArray)(f n:Nat):ByteArray:=if f=0∧n≤s.size then s.extract n s.size else s
def nh(s:ByteArray)(f n:Nat):Nat:=if f=0 then(if n≤s.size then 0 else 7)else f
theorem fO{w:World}{b:Nat}{s:ByteArray}{f:Nat}(h:Rd w b s f)(n:Nat)(hs:s.size≤4000000)(hn:n≤4000000):Calls ag 98 #[.pointer (some ⟨b,0,none⟩),.int .i64 n] w fun r w'=>r=.returned (.tuple #[.string (qS s f n),.bool (decide (f=0∧n≤s.size))])∧Rd w' b (nU s f n) (nh s f n)∧Keeps (fun k=>k=b) w w':=by
 obtain⟨c0,c1⟩:=h.cells;obtain⟨f0,f1⟩:=h.free;by_cases hf:f=0
 ·subst hf;by_cases hl:n≤s.size
  ·have e1:qS s 0 n=s.extract 0 n:=by unfold qS;rw[if_pos ⟨rfl,hl⟩]
   have e2:nU s 0 n=s.extract n s.size:=by unfold nU;rw[if_pos ⟨rfl,hl⟩]
   have e3:nh s 0 n=0:=by unfold nh;rw[if_pos rfl,if_pos hl]
   have e4:decide ((0:Nat)=0∧n≤s.size)=true:=by simp[hl]
   rw[e1,e2,e3,e4];have hset:=h.aN 0 (.string (s.extract n s.size));have hk:=(Keeps.refl (fun k=>k=b) w).setCell (p:=⟨b,0,none⟩) (.inl rfl) (.string (s.extract n s.size));have hl':¬s.size<n:=by omega
   clear e1 e2 e3 e4;obtain⟨O5,Hk⟩:=aI hset hk;clear hset hk h;go_enter Tryz.func98,Tryz.ntmps98;go_wp2_with fail
   go_ret2;exact⟨rfl,O5.out,Hk.out⟩
  ·have e1:qS s 0 n=iy:=by unfold qS;rw[if_neg aM]
   have e2:nU s 0 n=s:=by unfold nU;rw[if_neg aM]
   have e3:nh s 0 n=7:=by unfold nh;rw[if_pos rfl,if_neg hl]
   have e4:decide ((0:Nat)=0∧n≤s.size)=false:=by simp;omega
   rw[e1,e2,e3,e4];have hset:=h.aN 1 (.int .i64 7);have hk:=(Keeps.refl (fun k=>k=b) w).setCell (p:=⟨b,1,none⟩) (.inl rfl) (.int .i64 7);have hl':s.size<n:=by omega
   clear e1 e2 e3 e4;obtain⟨O5,Hk⟩:=aI hset hk;clear hset hk h;go_enter Tryz.func98,Tryz.ntmps98;go_wp2_with fail
   go_ret2;exact⟨rfl,O5.out,Hk.out⟩
 ·have e1:qS s f n=iy:=by unfold qS;rw[if_neg aM]
  have e2:nU s f n=s:=by unfold nU;rw[if_neg aM]
  have e3:nh s f n=f:=by unfold nh;rw[if_neg hf]
  have e4:decide (f=0∧n≤s.size)=false:=by simp;omega
  rw[e1,e2,e3,e4];have hf':¬(f:Int)=0:=by omega
  clear e1 e2 e3 e4;have H:=ae h;clear h;go_enter Tryz.func98,Tryz.ntmps98;go_wp2_with fail
  go_ret2;exact⟨rfl,H.out,Keeps.refl _ _⟩
theorem tI{k:IntKind}{a b:Int}(h:a=b):Ending.returned (.int k a)=Ending.returned (.int k b):=by rw[h]
def pZ(l:List Nat):Nat:=l.foldl (fun x c=>x*256+c) 0
def O6(t:ByteArray):Nat:=pZ (jc t)
theorem KT(l:List Nat)(c:Nat):pZ (l++[c])=pZ l*256+c:=by simp[pZ]
theorem Vf:∀(l:List Nat),(∀c∈l,c<256)→pZ l<256^l.length:=by
 intro l h;have:∀(l:List Nat)(x B:Nat),(∀c∈l,c<256)→x<B→l.foldl (fun x c=>x*256+c) x<B*256^l.length:=by
  intro l
  induction l with
  |nil=>intro x B _ h;simpa using h
  |cons c r ih=>
   intro x B hc h;have:=ih (x*256+c) (B*256) (fun y hy=>hc y (List.mem_cons_of_mem _ hy)) (by have:=hc c (List.mem_cons_self ..);omega);rw[List.foldl_cons,List.length_cons,Nat.pow_succ,Nat.mul_comm (256^r.length),←Nat.mul_assoc];exact this
 simpa[pZ]using this l 0 1 h (by decide)
theorem qb(t:ByteArray)(k:Nat)(hk:k<t.size):pZ ((jc t).take (k+1))=pZ ((jc t).take k)*256+t.data[k].toNat:=by
 have h1:k<(jc t).length:=by rw[fB];exact hk
 rw[aC h1,KT];simp[jc]
theorem je(t:ByteArray)(k:Nat)(hk:k≤t.size):pZ ((jc t).take k)<256^k:=by
 have:=Vf ((jc t).take k) (fun c hc=>UQ t c (aft hc));rwa [List.length_take_of_le (by rw[fB];exact hk)]at this
theorem Vg(t:ByteArray):O6 t<256^t.size:=by
 have:=je t t.size (aw _);rwa [show(jc t).take t.size=jc t by rw[←fB,List.take_length]]at this
theorem or8(x c:Nat)(hx:x<2^56)(hc:c<256):bits .or .u64 ((x*256:Nat):Int) (c:Int)=((x*256+c:Nat):Int):=by
 show IntKind.u64.wrap ((BitVec.ofInt 64 ((x*256:Nat):Int)|||BitVec.ofInt 64 (c:Int)).toNat:Int)=_;rw[BitVec.toNat_or,ofInt_u64 _ aM,ofInt_u64 _ aM];have:x*256|||c=x*256+c:=by
  have:=Nat.shiftLeft_add_eq_or_of_lt (b:=c) (i:=8) aM x;rw[Nat.shiftLeft_eq]at this;exact this.symm
 rw[this,ej];omega
theorem ni(s:ByteArray)(f n:Nat):(qS s f n).size≤n:=by
 unfold qS;split
 ·rw[ByteArray.size_extract];omega
 ·show 0≤n;omega
def jB(s:ByteArray)(f n:Nat):Nat:=O6 (qS s f n)
theorem kl(s:ByteArray)(f n:Nat):jB s f n<256^n:=afb (Vg _) (ae6 aF (ni s f n))
theorem Rd.keep{w w':World}{b:Nat}{s:ByteArray}{f:Nat}{S:Nat→Prop}(h:Rd w b s f)(k:Keeps S w w')(hS:¬S b):Rd w' b s f:=aD.keep h k hS
theorem Rd.below{w w':World}{b:Nat}{s:ByteArray}{f:Nat}(h:Rd w b s f)(k:Below w.heap.size w w'):Rd w' b s f:=aD.below h k h.lt
theorem hZ{S:Nat→Prop}{a w w':World}(h:Keeps S a w)(k:Below w.heap.size w w'):Keeps S a w':=h.trans (Keeps.of_below k fun _ h _=>h)
theorem KU{w:World}{b:Nat}{s:ByteArray}{f:Nat}(h:Rd w b s f)(hs:s.size≤4000000):Calls ag 142 #[.pointer (some ⟨b,0,none⟩),.int .i64 1] w fun r w'=>r=.returned (.int .u8 (jB s f 1:Int))∧Rd w' b (nU s f 1) (nh s f 1)∧Keeps (fun k=>k=b) w w':=by
 unfold jB;have ht:=ni s f 1;have Ht:=ae (fO h 1 hs aM);have hconv:=fun w=>run_bytes_of_string (P:=ag) w 9 67 5 (qS s f 1) aZ cn bV
 clear h;generalize qS s f 1=t at*;go_enter Tryz.func142,Tryz.ntmps142;go_wp2_with(go_at_call 98;refine Ht.out.mono ?_;rintro r w1⟨rfl,hR1,hK1⟩)
 have hcell:∀j(hj:j<t.size),((w1.alloc (Obj.cells (bytesRow t (grownCap w1 t.size 0 5)) 5 ((bytesRow t (grownCap w1 t.size 0 5)).size,(bytesRow t (grownCap w1 t.size 0 5)).size+1))).drew).cell? ⟨w1.heap.size,j,none⟩=some (.int .u8 ((t.data[j]'hj).toNat:Int)):=by
  intro j hj;rw[World.cell?_drew,World.cell?_alloc_mark];exact bytesRow_at t _ j hj
 have hB:Below w1.heap.size w1 ((w1.alloc (Obj.cells (bytesRow t (grownCap w1 t.size 0 5)) 5 ((bytesRow t (grownCap w1 t.size 0 5)).size,(bytesRow t (grownCap w1 t.size 0 5)).size+1))).drew):=((aG _ _).alloc (aw _) _).drew;generalize hW:((w1.alloc (Obj.cells (bytesRow t (grownCap w1 t.size 0 5)) 5 ((bytesRow t (grownCap w1 t.size 0 5)).size,(bytesRow t (grownCap w1 t.size 0 5)).size+1))).drew)=W at hcell hB⊢;generalize grownCap w1 t.size 0 5=cap;have hR2:=hR1.below hB;have hK2:=hZ hK1 hB;clear hW hconv Ht;obtain⟨mF,HR,HK⟩:=bj hcell hR2 hK2;clear hcell hB hR1 hK1 hR2 hK2;go_loopw [4,18] (fun v4 v18 wr=>∃k x:Nat,k≤t.size∧v4=.int .u8 x∧v18=.int .i64 k∧x=pZ ((jc t).take k)∧wr=W) (fun _ v18 _=>t.size-(intOf v18).toNat)
 case atStart=>exact⟨0,0,bD _,rfl,rfl,rfl,rfl⟩
 case round=>
  obtain⟨k,x,hk,rfl,rfl,hx,rfl⟩:=hrel;by_cases hlt:k<t.size
  ·have hx0:=je t k hk;have hp:256^k≤256^(1-1):=ae6 aF aM;have hx1:x<256^(1-1):=by rw[hx];omega
   have hc:=mF.out k hlt;have hsucc:=qb t k hlt;rw[←hx]at hsucc;have hb:=(t.data[k]'hlt).toNat_lt;generalize(t.data[k]'hlt).toNat=c at hc hsucc hb;have hx2:x<2^56:=by simp at hx1;omega
   have hor:bits .or .u64 ((x:Int)*256) (c:Int)=((x*256+c:Nat):Int):=by
    have:=or8 x c hx2 hb;rwa [Int.natCast_mul]at this
   have hw1:IntKind.u64.wrap (x:Int)=(x:Int):=by rw[ej];omega
   have hw2:IntKind.u64.wrap ((x:Int)*256)=(x:Int)*256:=by rw[ej];omega
   have hx3:x*256+c<256:=by simp at hx1;omega
   obtain⟨Hx,Hs,Hx0,Hp⟩:=cH hx hsucc hx0 hp;have hx4:x*256+c<18446744073709551616:=by omega
   have hwk:IntKind.u8.wrap ((x*256+c:Nat):Int)=((x*256+c:Nat):Int):=by rw[IntKind.wrap_u8];omega
   generalize hy:x*256+c=y at*;have Hy:=ae hy;clear hx hsucc hx0 hp hx1 hx2 hx4 hy;have Hx3:=ae hx3;clear hx3;go_wp2_with fail
   go_roundw
   case rel=>exact⟨k+1,y,by omega,by first|rfl|go_num,by go_num,Hs.out.symm,(by first|rfl|trivial)⟩
   case measure=>simp[intOf];omega
  ·have hks:k=t.size:=by omega
   subst hks;have e:(jc t).take t.size=jc t:=by rw[←fB,List.take_length]
   rw[e]at hx;have Hx:=ae hx;clear hx e;go_wp2_with fail
   go_ret;exact⟨tI (by rw[Hx.out];rfl),HR.out,HK.out⟩
theorem Vh{w:World}{b:Nat}{s:ByteArray}{f:Nat}(h:Rd w b s f)(hs:s.size≤4000000):Calls ag 95 #[.pointer (some ⟨b,0,none⟩)] w fun r w'=>r=.returned (.int .u8 (jB s f 1:Int))∧Rd w' b (nU s f 1) (nh s f 1)∧Keeps (fun k=>k=b) w w':=by
 have Hn:=ae (KU h hs);clear h;go_enter Tryz.func95,Tryz.ntmps95;go_wp2_with(go_at_call 142;refine Hn.out.mono ?_;rintro r w1⟨rfl,hR,hK⟩)
 go_ret;exact⟨rfl,hR,hK⟩
theorem Fp{w:World}{b:Nat}{s:ByteArray}{f:Nat}(h:Rd w b s f)(hs:s.size≤4000000):Calls ag 140 #[.pointer (some ⟨b,0,none⟩),.int .i64 2] w fun r w'=>r=.returned (.int .u16 (jB s f 2:Int))∧Rd w' b (nU s f 2) (nh s f 2)∧Keeps (fun k=>k=b) w w':=by
 unfold jB;have ht:=ni s f 2;have Ht:=ae (fO h 2 hs aM);have hconv:=fun w=>run_bytes_of_string (P:=ag) w 9 67 5 (qS s f 2) aZ cn bV
 clear h;generalize qS s f 2=t at*;go_enter Tryz.func140,Tryz.ntmps140;go_wp2_with(go_at_call 98;refine Ht.out.mono ?_;rintro r w1⟨rfl,hR1,hK1⟩)
 have hcell:∀j(hj:j<t.size),((w1.alloc (Obj.cells (bytesRow t (grownCap w1 t.size 0 5)) 5 ((bytesRow t (grownCap w1 t.size 0 5)).size,(bytesRow t (grownCap w1 t.size 0 5)).size+1))).drew).cell? ⟨w1.heap.size,j,none⟩=some (.int .u8 ((t.data[j]'hj).toNat:Int)):=by
  intro j hj;rw[World.cell?_drew,World.cell?_alloc_mark];exact bytesRow_at t _ j hj
 have hB:Below w1.heap.size w1 ((w1.alloc (Obj.cells (bytesRow t (grownCap w1 t.size 0 5)) 5 ((bytesRow t (grownCap w1 t.size 0 5)).size,(bytesRow t (grownCap w1 t.size 0 5)).size+1))).drew):=((aG _ _).alloc (aw _) _).drew;generalize hW:((w1.alloc (Obj.cells (bytesRow t (grownCap w1 t.size 0 5)) 5 ((bytesRow t (grownCap w1 t.size 0 5)).size,(bytesRow t (grownCap w1 t.size 0 5)).size+1))).drew)=W at hcell hB⊢;generalize grownCap w1 t.size 0 5=cap;have hR2:=hR1.below hB;have hK2:=hZ hK1 hB;clear hW hconv Ht;obtain⟨mF,HR,HK⟩:=bj hcell hR2 hK2;clear hcell hB hR1 hK1 hR2 hK2;go_loopw [4,18] (fun v4 v18 wr=>∃k x:Nat,k≤t.size∧v4=.int .u16 x∧v18=.int .i64 k∧x=pZ ((jc t).take k)∧wr=W) (fun _ v18 _=>t.size-(intOf v18).toNat)
 case atStart=>exact⟨0,0,bD _,rfl,rfl,rfl,rfl⟩
 case round=>
  obtain⟨k,x,hk,rfl,rfl,hx,rfl⟩:=hrel;by_cases hlt:k<t.size
  ·have hx0:=je t k hk;have hp:256^k≤256^(2-1):=ae6 aF aM;have hx1:x<256^(2-1):=by rw[hx];omega
   have hc:=mF.out k hlt;have hsucc:=qb t k hlt;rw[←hx]at hsucc;have hb:=(t.data[k]'hlt).toNat_lt;generalize(t.data[k]'hlt).toNat=c at hc hsucc hb;have hx2:x<2^56:=by simp at hx1;omega
   have hor:bits .or .u64 ((x:Int)*256) (c:Int)=((x*256+c:Nat):Int):=by
    have:=or8 x c hx2 hb;rwa [Int.natCast_mul]at this
   have hw1:IntKind.u64.wrap (x:Int)=(x:Int):=by rw[ej];omega
   have hw2:IntKind.u64.wrap ((x:Int)*256)=(x:Int)*256:=by rw[ej];omega
   have hx3:x*256+c<65536:=by simp at hx1;omega
   obtain⟨Hx,Hs,Hx0,Hp⟩:=cH hx hsucc hx0 hp;have hx4:x*256+c<18446744073709551616:=by omega
   have hwk:IntKind.u16.wrap ((x*256+c:Nat):Int)=((x*256+c:Nat):Int):=by rw[IntKind.wrap_u16];omega
   generalize hy:x*256+c=y at*;have Hy:=ae hy;clear hx hsucc hx0 hp hx1 hx2 hx4 hy;have Hx3:=ae hx3;clear hx3;go_wp2_with fail
   go_roundw
   case rel=>exact⟨k+1,y,by omega,by first|rfl|go_num,by go_num,Hs.out.symm,(by first|rfl|trivial)⟩
   case measure=>simp[intOf];omega
  ·have hks:k=t.size:=by omega
   subst hks;have e:(jc t).take t.size=jc t:=by rw[←fB,List.take_length]
   rw[e]at hx;have Hx:=ae hx;clear hx e;go_wp2_with fail
   go_ret;exact⟨tI (by rw[Hx.out];rfl),HR.out,HK.out⟩
theorem BV{w:World}{b:Nat}{s:ByteArray}{f:Nat}(h:Rd w b s f)(hs:s.size≤4000000):Calls ag 92 #[.pointer (some ⟨b,0,none⟩)] w fun r w'=>r=.returned (.int .u16 (jB s f 2:Int))∧Rd w' b (nU s f 2) (nh s f 2)∧Keeps (fun k=>k=b) w w':=by
 have Hn:=ae (Fp h hs);clear h;go_enter Tryz.func92,Tryz.ntmps92;go_wp2_with(go_at_call 140;refine Hn.out.mono ?_;rintro r w1⟨rfl,hR,hK⟩)
 go_ret;exact⟨rfl,hR,hK⟩
theorem Fq{w:World}{b:Nat}{s:ByteArray}{f:Nat}(h:Rd w b s f)(hs:s.size≤4000000):Calls ag 181 #[.pointer (some ⟨b,0,none⟩),.int .i64 4] w fun r w'=>r=.returned (.int .u32 (jB s f 4:Int))∧Rd w' b (nU s f 4) (nh s f 4)∧Keeps (fun k=>k=b) w w':=by
 unfold jB;have ht:=ni s f 4;have Ht:=ae (fO h 4 hs aM);have hconv:=fun w=>run_bytes_of_string (P:=ag) w 9 67 5 (qS s f 4) aZ cn bV
 clear h;generalize qS s f 4=t at*;go_enter Tryz.func181,Tryz.ntmps181;go_wp2_with(go_at_call 98;refine Ht.out.mono ?_;rintro r w1⟨rfl,hR1,hK1⟩)
 have hcell:∀j(hj:j<t.size),((w1.alloc (Obj.cells (bytesRow t (grownCap w1 t.size 0 5)) 5 ((bytesRow t (grownCap w1 t.size 0 5)).size,(bytesRow t (grownCap w1 t.size 0 5)).size+1))).drew).cell? ⟨w1.heap.size,j,none⟩=some (.int .u8 ((t.data[j]'hj).toNat:Int)):=by
  intro j hj;rw[World.cell?_drew,World.cell?_alloc_mark];exact bytesRow_at t _ j hj
 have hB:Below w1.heap.size w1 ((w1.alloc (Obj.cells (bytesRow t (grownCap w1 t.size 0 5)) 5 ((bytesRow t (grownCap w1 t.size 0 5)).size,(bytesRow t (grownCap w1 t.size 0 5)).size+1))).drew):=((aG _ _).alloc (aw _) _).drew;generalize hW:((w1.alloc (Obj.cells (bytesRow t (grownCap w1 t.size 0 5)) 5 ((bytesRow t (grownCap w1 t.size 0 5)).size,(bytesRow t (grownCap w1 t.size 0 5)).size+1))).drew)=W at hcell hB⊢;generalize grownCap w1 t.size 0 5=cap;have hR2:=hR1.below hB;have hK2:=hZ hK1 hB;clear hW hconv Ht;obtain⟨mF,HR,HK⟩:=bj hcell hR2 hK2;clear hcell hB hR1 hK1 hR2 hK2;go_loopw [4,18] (fun v4 v18 wr=>∃k x:Nat,k≤t.size∧v4=.int .u32 x∧v18=.int .i64 k∧x=pZ ((jc t).take k)∧wr=W) (fun _ v18 _=>t.size-(intOf v18).toNat)
 case atStart=>exact⟨0,0,bD _,rfl,rfl,rfl,rfl⟩
 case round=>
  obtain⟨k,x,hk,rfl,rfl,hx,rfl⟩:=hrel;by_cases hlt:k<t.size
  ·have hx0:=je t k hk;have hp:256^k≤256^(4-1):=ae6 aF aM;have hx1:x<256^(4-1):=by rw[hx];omega
   have hc:=mF.out k hlt;have hsucc:=qb t k hlt;rw[←hx]at hsucc;have hb:=(t.data[k]'hlt).toNat_lt;generalize(t.data[k]'hlt).toNat=c at hc hsucc hb;have hx2:x<2^56:=by simp at hx1;omega
   have hor:bits .or .u64 ((x:Int)*256) (c:Int)=((x*256+c:Nat):Int):=by
    have:=or8 x c hx2 hb;rwa [Int.natCast_mul]at this
   have hw1:IntKind.u64.wrap (x:Int)=(x:Int):=by rw[ej];omega
   have hw2:IntKind.u64.wrap ((x:Int)*256)=(x:Int)*256:=by rw[ej];omega
   have hx3:x*256+c<4294967296:=by simp at hx1;omega
   obtain⟨Hx,Hs,Hx0,Hp⟩:=cH hx hsucc hx0 hp;have hx4:x*256+c<18446744073709551616:=by omega
   have hwk:IntKind.u32.wrap ((x*256+c:Nat):Int)=((x*256+c:Nat):Int):=by rw[IntKind.wrap_u32];omega
   generalize hy:x*256+c=y at*;have Hy:=ae hy;clear hx hsucc hx0 hp hx1 hx2 hx4 hy;have Hx3:=ae hx3;clear hx3;go_wp2_with fail
   go_roundw
   case rel=>exact⟨k+1,y,by omega,by first|rfl|go_num,by go_num,Hs.out.symm,(by first|rfl|trivial)⟩
   case measure=>simp[intOf];omega
  ·have hks:k=t.size:=by omega
   subst hks;have e:(jc t).take t.size=jc t:=by rw[←fB,List.take_length]
   rw[e]at hx;have Hx:=ae hx;clear hx e;go_wp2_with fail
   go_ret;exact⟨tI (by rw[Hx.out];rfl),HR.out,HK.out⟩
theorem O7{w:World}{b:Nat}{s:ByteArray}{f:Nat}(h:Rd w b s f)(hs:s.size≤4000000):Calls ag 141 #[.pointer (some ⟨b,0,none⟩)] w fun r w'=>r=.returned (.int .u32 (jB s f 4:Int))∧Rd w' b (nU s f 4) (nh s f 4)∧Keeps (fun k=>k=b) w w':=by
 have Hn:=ae (Fq h hs);clear h;go_enter Tryz.func141,Tryz.ntmps141;go_wp2_with(go_at_call 181;refine Hn.out.mono ?_;rintro r w1⟨rfl,hR,hK⟩)
 go_ret;exact⟨rfl,hR,hK⟩
theorem Ft{w:World}{b:Nat}{s:ByteArray}{f:Nat}(h:Rd w b s f)(hs:s.size≤4000000):Calls ag 91 #[.pointer (some ⟨b,0,none⟩),.int .i64 8] w fun r w'=>r=.returned (.int .u64 (jB s f 8:Int))∧Rd w' b (nU s f 8) (nh s f 8)∧Keeps (fun k=>k=b) w w':=by
 unfold jB;have ht:=ni s f 8;have Ht:=ae (fO h 8 hs aM);have hconv:=fun w=>run_bytes_of_string (P:=ag) w 9 67 5 (qS s f 8) aZ cn bV
 clear h;generalize qS s f 8=t at*;go_enter Tryz.func91,Tryz.ntmps91;go_wp2_with(go_at_call 98;refine Ht.out.mono ?_;rintro r w1⟨rfl,hR1,hK1⟩)
 have hcell:∀j(hj:j<t.size),((w1.alloc (Obj.cells (bytesRow t (grownCap w1 t.size 0 5)) 5 ((bytesRow t (grownCap w1 t.size 0 5)).size,(bytesRow t (grownCap w1 t.size 0 5)).size+1))).drew).cell? ⟨w1.heap.size,j,none⟩=some (.int .u8 ((t.data[j]'hj).toNat:Int)):=by
  intro j hj;rw[World.cell?_drew,World.cell?_alloc_mark];exact bytesRow_at t _ j hj
 have hB:Below w1.heap.size w1 ((w1.alloc (Obj.cells (bytesRow t (grownCap w1 t.size 0 5)) 5 ((bytesRow t (grownCap w1 t.size 0 5)).size,(bytesRow t (grownCap w1 t.size 0 5)).size+1))).drew):=((aG _ _).alloc (aw _) _).drew;generalize hW:((w1.alloc (Obj.cells (bytesRow t (grownCap w1 t.size 0 5)) 5 ((bytesRow t (grownCap w1 t.size 0 5)).size,(bytesRow t (grownCap w1 t.size 0 5)).size+1))).drew)=W at hcell hB⊢;generalize grownCap w1 t.size 0 5=cap;have hR2:=hR1.below hB;have hK2:=hZ hK1 hB;clear hW hconv Ht;obtain⟨mF,HR,HK⟩:=bj hcell hR2 hK2;clear hcell hB hR1 hK1 hR2 hK2;go_loopw [4,18] (fun v4 v18 wr=>∃k x:Nat,k≤t.size∧v4=.int .u64 x∧v18=.int .i64 k∧x=pZ ((jc t).take k)∧wr=W) (fun _ v18 _=>t.size-(intOf v18).toNat)
 case atStart=>exact⟨0,0,bD _,rfl,rfl,rfl,rfl⟩
 case round=>
  obtain⟨k,x,hk,rfl,rfl,hx,rfl⟩:=hrel;by_cases hlt:k<t.size
  ·have hx0:=je t k hk;have hp:256^k≤256^(8-1):=ae6 aF aM;have hx1:x<256^(8-1):=by rw[hx];omega
   have hc:=mF.out k hlt;have hsucc:=qb t k hlt;rw[←hx]at hsucc;have hb:=(t.data[k]'hlt).toNat_lt;generalize(t.data[k]'hlt).toNat=c at hc hsucc hb;have hx2:x<2^56:=by simp at hx1;omega
   have hor:bits .or .u64 ((x:Int)*256) (c:Int)=((x*256+c:Nat):Int):=by
    have:=or8 x c hx2 hb;rwa [Int.natCast_mul]at this
   have hw1:IntKind.u64.wrap (x:Int)=(x:Int):=by rw[ej];omega
   have hw2:IntKind.u64.wrap ((x:Int)*256)=(x:Int)*256:=by rw[ej];omega
   have hx3:x*256+c<18446744073709551616:=by simp at hx1;omega
   obtain⟨Hx,Hs,Hx0,Hp⟩:=cH hx hsucc hx0 hp;have hx4:x*256+c<18446744073709551616:=by omega
   have hwk:IntKind.u64.wrap ((x*256+c:Nat):Int)=((x*256+c:Nat):Int):=by rw[ej];omega
   generalize hy:x*256+c=y at*;have Hy:=ae hy;clear hx hsucc hx0 hp hx1 hx2 hx4 hy;have Hx3:=ae hx3;clear hx3;go_wp2_with fail
   go_roundw
   case rel=>exact⟨k+1,y,by omega,by first|rfl|go_num,by go_num,Hs.out.symm,(by first|rfl|trivial)⟩
   case measure=>simp[intOf];omega
  ·have hks:k=t.size:=by omega
   subst hks;have e:(jc t).take t.size=jc t:=by rw[←fB,List.take_length]
   rw[e]at hx;have Hx:=ae hx;clear hx e;go_wp2_with fail
   go_ret;exact⟨tI (by rw[Hx.out];rfl),HR.out,HK.out⟩
theorem O9{w:World}{b:Nat}{s:ByteArray}{f:Nat}(h:Rd w b s f)(hs:s.size≤4000000):Calls ag 38 #[.pointer (some ⟨b,0,none⟩)] w fun r w'=>r=.returned (.int .u64 (jB s f 8:Int))∧Rd w' b (nU s f 8) (nh s f 8)∧Keeps (fun k=>k=b) w w':=by
 have Hn:=ae (Ft h hs);clear h;go_enter Tryz.func38,Tryz.ntmps38;go_wp2_with(go_at_call 91;refine Hn.out.mono ?_;rintro r w1⟨rfl,hR,hK⟩)
 go_ret;exact⟨rfl,hR,hK⟩
theorem KV{w:World}{b:Nat}{s:ByteArray}{f:Nat}(h:Rd w b s f)(n:Nat)(hs:s.size≤4000000)(hn:n≤4000000):Calls ag 119 #[.pointer (some ⟨b,0,none⟩),.int .i64 n] w fun r w'=>r=.returned (.string (qS s f n))∧Rd w' b (nU s f n) (nh s f n)∧Keeps (fun k=>k=b) w w':=by
 have Hn:=ae (fO h n hs hn);clear h;go_enter Tryz.func119,Tryz.ntmps119;go_wp2_with(go_at_call 98;refine Hn.out.mono ?_;rintro r w1⟨rfl,hR,hK⟩)
 go_ret;exact⟨rfl,hR,hK⟩
theorem uH{w:World}{b:Nat}{s:ByteArray}{f:Nat}(h:Rd w b s f):Calls ag 139 #[.pointer (some ⟨b,0,none⟩)] w fun r w'=>r=.returned (.int .i64 f)∧w=w':=by
 obtain⟨c0,c1⟩:=h.cells;clear h;go_enter Tryz.func139,Tryz.ntmps139;go_wp2_with fail
 go_ret;exact⟨rfl,rfl⟩
end Go.Proofs.YteflnojjjdkgmaaGreatDoor
