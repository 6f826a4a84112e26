/- Joined out of: PlQ PxB PxD PxE PxF PxJ PxK PlR PlS PlT PlU. -/
import Derived.Test.YtdfnhljccdoncaaGreatDoorNaj
import Derived.Recover
set_option linter.unusedVariables false
set_option linter.unusedSimpArgs false
set_option maxHeartbeats 16000000
set_option maxRecDepth 100000
open Go.ByteArray renaming toList_eq→cM
open Go.Lib renaming hid→ae
open Go.Proofs.Tryz renaming prog→ai,underlying9→bL
open Go.RowKit renaming Hid→af
open List renaming length_append→aj,length_map→ay
open Nat renaming le_refl→aw
namespace Go.Proofs.YtdfnhljccdoncaaGreatDoor
open Go.RowKit
attribute [local go_sem↓] Go.wp_at_zero Go.wp_at_succ
theorem aV.empty(w:World)(size:Nat):aV w (.slice none 0 0) 0 size []:=⟨none,0,rfl,by simp,fun h=>absurd h aI⟩
theorem aV.shape{w:World}{v:Value}{n size:Nat}{xs:List Value}(h:aV w v n size xs):∃A cap,v=.slice A n cap:=by
 obtain⟨A,cap,e,_⟩:=h;exact⟨A,cap,e⟩
def qt(w:World)(v:Value)(l:List Nm):Prop:=∃xs:List (Nm×Value),xs.map (·.1)=l∧aV w v l.length 2 (f8 (xs.map rF))∧∀x∈xs,aV w x.2 x.1.list.length 1 (strCells x.1.list)
theorem eG.rd{w:World}{base:Nat}{v:Value}{l:List Nm}(h:eG w base v l):qt w v l:=by
 obtain⟨xs,h1,h2,h3⟩:=h;exact⟨xs,h1,aV.dm h2,fun x hx=>aV.dm (h3 x hx)⟩
theorem qt.below{w w':World}{v:Value}{l:List Nm}(h:qt w v l)(hb:Below w.heap.size w w'):qt w' v l:=by
 obtain⟨xs,h1,h2,h3⟩:=h;exact⟨xs,h1,h2.below hb,fun x hx=>(h3 x hx).below hb⟩
theorem qt.has{w:World}{v:Value}{l:List Nm}(h:qt w v l)(s:ByteArray):∃ys:List (ByteArray×Value),ys.length=l.length∧aV w v ys.length 2 (f8 ys)∧(ys.any fun x=>decide (x.1=s))=py l s:=by
 obtain⟨xs,rfl,h2,h3⟩:=h;refine⟨xs.map rF,by simp,?_,?_⟩
 ·simpa using h2
 ·unfold py;rw[List.any_map,List.any_map];rfl
structure Dv(w:World)(x:Ve):Prop where
 p:aV w x.p x.a.ia.length 1 (dV x.a.ia)
 s:aV w x.s x.a.src.length 6 (fU x.a.src)
 d:aV w x.d x.a.dst.length 6 (fU x.a.dst)
 o:aV w x.o x.a.iU.length 2 (il x.a.iU)
def xI(w:World)(v:Value)(l:List Ac):Prop:=∃xs:List Ve,xs.map (·.a)=l∧aV w v l.length 4 (mg xs)∧∀x∈xs,Dv w x
theorem oZ.rd{w:World}{base:Nat}{x:Ve}(h:oZ w base x):Dv w x:=⟨aV.dm h.p,aV.dm h.s,aV.dm h.d,aV.dm h.o⟩
theorem gu.rd{w:World}{base:Nat}{v:Value}{l:List Ac}(h:gu w base v l):xI w v l:=by
 obtain⟨xs,h1,h2,h3⟩:=h;exact⟨xs,h1,aV.dm h2,fun x hx=>(h3 x hx).rd⟩
theorem Dv.below{w w':World}{x:Ve}(h:Dv w x)(hb:Below w.heap.size w w'):Dv w' x:=⟨h.p.below hb,h.s.below hb,h.d.below hb,h.o.below hb⟩
theorem xI.below{w w':World}{v:Value}{l:List Ac}(h:xI w v l)(hb:Below w.heap.size w w'):xI w' v l:=by
 obtain⟨xs,h1,h2,h3⟩:=h;exact⟨xs,h1,h2.below hb,fun x hx=>(h3 x hx).below hb⟩
structure uk where
 g:Value
 t:Value
 h:Value
 a:Value
def uk.cells(V:uk):Array Value:= #[V.g,V.t,V.h,V.a]
structure tP(w:World)(V:uk)(p:Po):Prop where
 g:qt w V.g p.groups
 t:qt w V.t p.tags
 h:aV w V.h p.hosts.length 5 (eF p.hosts)
 a:xI w V.a p.kt
theorem tP.below{w w':World}{V:uk}{p:Po}(h:tP w V p)(hb:Below w.heap.size w w'):tP w' V p:=⟨h.g.below hb,h.t.below hb,h.h.below hb,h.a.below hb⟩
theorem qt.shape{w:World}{v:Value}{l:List Nm}(h:qt w v l):∃A cap,v=.slice A l.length cap:=by
 obtain⟨xs,_,h2,_⟩:=h;exact h2.shape
theorem xI.shape{w:World}{v:Value}{l:List Ac}(h:xI w v l):∃A cap,v=.slice A l.length cap:=by
 obtain⟨xs,_,h2,_⟩:=h;exact h2.shape
theorem MO{w:World}{V:uk}{p:Po}(h:tP w V p)(hg:p.groups.length≤4000000)(ht:p.tags.length≤4000000)(hh:p.hosts.length≤4000000)(s:jC):Calls ai 211 #[.agg #[V.g,V.t,V.h,V.a],.agg #[.int .u8 (s.kind:Int),.string s.name,.bool s.net.a.v6,.int .u64 (s.net.a.hi:Int),.int .u64 (s.net.a.lo:Int),.int .u8 (s.net.bits:Int)]] w (Got (.bool (gx p s)) w):=by
 obtain⟨k,nm,⟨⟨v6,hi,lo⟩,bits⟩⟩:=s;obtain⟨gv,tv,hv,av⟩:=V;simp only;have b1:=boxed w (.cells #[gv,tv,hv,av] 190);have b2:=boxed (w.alloc (.cells #[gv,tv,hv,av] 190)) (.cells #[.int .u8 k,.string nm,.bool v6,.int .u64 hi,.int .u64 lo,.int .u8 bits] 245);have B1:=aG.new w 190 #[gv,tv,hv,av];have B2:=aG.new (w.alloc (.cells #[gv,tv,hv,av] 190)) 245 #[.int .u8 k,.string nm,.bool v6,.int .u64 hi,.int .u64 lo,.int .u8 bits];have B3:=B1.below b2 B1.lt;have H2:=h.below (after b1 b2);have HD:=ae (after b1 b2);obtain⟨G,hG,rg,hga⟩:=H2.g.has nm;obtain⟨T,hT,rt,hta⟩:=H2.t.has nm;have cg:=zx G aY gv rg nm;have ct:=zx T aY tv rt nm;have ch:=sS p.hosts hh hv H2.h nm;obtain⟨Ag,cg1,eg⟩:=rg.shape;obtain⟨At,ct1,et⟩:=rt.shape;obtain⟨Ah,ch1,eh⟩:=H2.h.shape;obtain⟨Aa,ca1,ea⟩:=H2.a.shape;simp only at eg et eh ea;subst eg et eh ea;rw[hga]at cg;rw[hta]at ct;rw[show(p.hosts.any fun x=>decide (x.name=nm))=xo p.hosts nm from rfl]at ch;have hkn:gx p ⟨k,nm,⟨⟨v6,hi,lo⟩,bits⟩⟩=if k=3 then py p.groups nm else if k=4 then py p.tags nm else if k=5 then xo p.hosts nm else true:=rfl
 rw[hkn];generalize py p.groups nm=RG at cg⊢;generalize py p.tags nm=RT at ct⊢;generalize xo p.hosts nm=RH at ch⊢;generalize G.length=lg at*;generalize T.length=lt at*;have x0:=B3.cell 0;have x1:=B3.cell 1;have x2:=B3.cell 2;have y0:=B2.cell 0;have y1:=B2.cell 1;simp at x0 x1 x2 y0 y1;obtain⟨HG,HT,HH⟩:=bO cg ct ch;clear hkn h b1 b2 B1 B2 B3 H2 hga hta rg rt cg ct ch hG hT hg ht hh;by_cases k3:k=3
 ·rw[if_pos k3];have e3:((k:Int)==3)=true:=by simp;omega
  clear k3;go_enter Tryz.func211,Tryz.ntmps211;go_wp2_with(go_at_call 250;(with_reducible refine HG.out.mono ?_);rintro r w2⟨rfl,d2⟩)
  go_ret;exact⟨rfl,after HD.out d2⟩
 rw[if_neg k3];have q3:((k:Int)==3)=false:=by simp;omega
 by_cases k4:k=4
 ·rw[if_pos k4];have e4:((k:Int)==4)=true:=by simp;omega
  clear k4;clear k3;go_enter Tryz.func211,Tryz.ntmps211;go_wp2_with(go_at_call 250;(with_reducible refine HT.out.mono ?_);rintro r w2⟨rfl,d2⟩)
  go_ret;exact⟨rfl,after HD.out d2⟩
 rw[if_neg k4];have q4:((k:Int)==4)=false:=by simp;omega
 by_cases k5:k=5
 ·rw[if_pos k5];have e5:((k:Int)==5)=true:=by simp;omega
  clear k5;clear k3 k4;go_enter Tryz.func211,Tryz.ntmps211;go_wp2_with(go_at_call 251;(with_reducible refine HH.out.mono ?_);rintro r w2⟨rfl,d2⟩)
  go_ret;exact⟨rfl,after HD.out d2⟩
 rw[if_neg k5];have q5:((k:Int)==5)=false:=by simp;omega
 clear k3 k4 k5;go_enter Tryz.func211,Tryz.ntmps211;go_wp2_with fail
 go_ret;exact⟨rfl,HD.out⟩
structure QU(n:Nm):Prop where
 name:n.name.size≤2000000
 len:n.list.length≤2000000
 all:∀s∈n.list,s.size≤2000000
theorem Dw{l:List ByteArray}{k:Nat}{s:ByteArray}(h:l[k]? =some s):(strCells l)[k]? =some (.string s):=by
 unfold strCells;rw[List.getElem?_map,h];rfl
theorem aV.cell{w w':World}{A:Option Addr}{n cap size:Nat}{xs:List Value}(h:aV w (.slice A n cap) n size xs)(hb:Below w.heap.size w w')(hn:0<n):∃g o,A=some ⟨g,o,none⟩∧∀j u,xs[j]? =some u→w'.cell? ⟨g,o+j,none⟩=some u:=by
 obtain⟨A',cap',e,_,hA⟩:=h;injection e with e1 _ e2
 subst e1;obtain⟨g,o,ha,hc⟩:=hA hn;exact⟨g,o,ha,fun j u hu=>(hb.cell (World.block_lt_of_cell? w _ (hc j u hu))).trans (hc j u hu)⟩
structure G1(s:jC):Prop where
 ok:s.net.Ok
 kind:s.kind<256
 name:s.name.size≤1900000
theorem aaK{a b:ByteArray}(h:a.toList=b.toList):a=b:=by
 rw[cM,cM]at h;exact ByteArray.ext (Array.ext' h)
structure ac3(a:Ac):Prop where
 src:∀s∈a.src,G1 s
 dst:∀s∈a.dst,G1 s
 pl:a.ia.length≤2000000
 sl:a.src.length≤2000000
 dl:a.dst.length≤2000000
 ol:a.iU.length≤2000000
 pb:∀x∈a.ia,x<256
 ob:∀x∈a.iU,x.1<65536∧x.2<65536
structure ac4(p:Po):Prop where
 g:∀n∈p.groups,QU n
 t:∀n∈p.tags,QU n
 h:∀x∈p.hosts,x.name.size≤2000000∧x.net.Ok
 a:∀x∈p.kt,ac3 x
 gl:p.groups.length≤2000000
 tl:p.tags.length≤2000000
 hl:p.hosts.length≤2000000
 al:p.kt.length≤2000000
structure zR(l:List (List UInt8)):Prop where
 len:l.length≤300
 all:∀w∈l,w.length≤2000010
theorem join_le:∀(l:List (List UInt8))(m:Nat),(∀w∈l,w.length≤m)→(Lib.join l [32]).length≤l.length*(m+1):=by
 intro l m
 induction l with
 |nil=>intro _;exact Nat.zero_le _
 |cons a r ih=>
  intro h;have ha:=h a (by simp);cases r with
  |nil=>rw[Lib.join_one];simp;omega
  |cons b r=>
   have:=ih (fun w hw=>h w (by simp[hw]));rw[FI];simp only[aj,List.length_cons,List.length_nil]at this⊢;rw[Nat.succ_mul (r.length+1)];omega
theorem zR.join{l:List (List UInt8)}(h:zR l):(Lib.join l [32]).length≤700000000:=by
 have h1:=join_le l 2000010 h.all;have h2:=Nat.mul_le_mul_right (2000010+1) h.len;omega
theorem zR.line{l:List (List UInt8)}(h:zR l):(Zh l).length≤700000001:=by
 have:=h.join;unfold Zh;simp;exact this
theorem zS(l:List Nat)(h1:l.all (fun x=>decide (x=1)||decide (x=6)||decide (x=17))=true)(h2:rising 0 l=true):l.length≤3:=by
 match l,h1,h2 with
 |[],_,_=>decide
 |[_],_,_=>simp
 |[_,_],_,_=>simp
 |[_,_,_],_,_=>simp
 |a::b::c::d::r,h1,h2=>
  exfalso;simp only[List.all_cons,rising,Bool.and_eq_true,Bool.or_eq_true,decide_eq_true_eq]at h1 h2;omega
theorem addr_add(g o j:Nat):(⟨g,o,none⟩:Addr).add j=⟨g,o+j,none⟩:=by
 unfold Addr.add;split
 ·rename_i h;subst h;rfl
 ·rfl
abbrev pAt(b:Nat):Value:=.pointer (some ⟨b,0,none⟩)
def Dx(c b:Nat):List SE:=[⟨eU,.func (.func 244) #[] #[pAt c],0⟩,⟨jG,.func (.func 246) #[] #[pAt c],1⟩,⟨ib,.func (.func 247) #[pAt b] #[],2⟩,⟨iG,.func (.func 248) #[pAt b] #[],3⟩]
theorem MP(w0:World)(c b:Nat):∃w1 w2 w3 w4:World,(Instr.mapUpdate 239 (.map (some w0.heap.size)) (.string ⟨#[103,114,111,117,112]⟩) (.func (.func 244) #[] #[.pointer (some ⟨c,0,none⟩)])).run ai (w0.alloc (.map #[] 0))=.ok () w1∧(Instr.mapUpdate 239 (.map (some w0.heap.size)) (.string ⟨#[116,97,103]⟩) (.func (.func 246) #[] #[.pointer (some ⟨c,0,none⟩)])).run ai w1=.ok () w2∧(Instr.mapUpdate 239 (.map (some w0.heap.size)) (.string ⟨#[104,111,115,116]⟩) (.func (.func 247) #[.pointer (some ⟨b,0,none⟩)] #[])).run ai w2=.ok () w3∧(Instr.mapUpdate 239 (.map (some w0.heap.size)) (.string ⟨#[97,99,99,101,112,116]⟩) (.func (.func 248) #[.pointer (some ⟨b,0,none⟩)] #[])).run ai w3=.ok () w4∧ek w4 w0.heap.size (Dx c b) 4∧Below w0.heap.size w0 w2∧Below w0.heap.size w0 w3∧Below w0.heap.size w0 w4:=by
 have hT:=Tryz.underlying239;have hK:=bL;have h0:ek (w0.alloc (.map #[] 0)) w0.heap.size [] 0:=heap_alloc_new w0 _;obtain⟨w1,e1,_,_,k1,m1⟩:=eD (P:=ai) hT hK h0 ⟨#[103,114,111,117,112]⟩ (by decide+kernel) (.func (.func 244) #[] #[.pointer (some ⟨c,0,none⟩)]);obtain⟨w2,e2,_,_,k2,m2⟩:=eD (P:=ai) hT hK m1 ⟨#[116,97,103]⟩ (by rfl) (.func (.func 246) #[] #[.pointer (some ⟨c,0,none⟩)]);obtain⟨w3,e3,_,_,k3,m3⟩:=eD (P:=ai) hT hK m2 ⟨#[104,111,115,116]⟩ (by rfl) (.func (.func 247) #[.pointer (some ⟨b,0,none⟩)] #[]);obtain⟨w4,e4,_,_,k4,m4⟩:=eD (P:=ai) hT hK m3 ⟨#[97,99,99,101,112,116]⟩ (by rfl) (.func (.func 248) #[.pointer (some ⟨b,0,none⟩)] #[]);refine⟨w1,w2,w3,w4,e1,e2,e3,e4,m4,?_,?_,?_⟩
 ·exact(boxed w0 _).trans (Keeps.below (k1.trans k2) (fun k hk=>by rw[hk];exact aw _) (by simp))
 ·exact(boxed w0 _).trans (Keeps.below ((k1.trans k2).trans k3) (fun k hk=>by rw[hk];exact aw _) (by simp))
 ·exact(boxed w0 _).trans (Keeps.below (((k1.trans k2).trans k3).trans k4) (fun k hk=>by rw[hk];exact aw _) (by simp))
theorem nB(w:World)(b:Nat):Calls ai 208 #[.pointer (some ⟨b,0,none⟩)] w fun r w'=>(∃m c,r=.returned (.map (some m))∧ek w' m (Dx c b) 4∧aG w' c 230 #[.pointer (some ⟨b,0,none⟩)]∧w.heap.size≤m∧w.heap.size≤c)∧Below w.heap.size w w':=by
 have hB:=aG.new w 230 #[.pointer (some ⟨b,0,none⟩)];have hb0:=boxed w (.cells #[.pointer (some ⟨b,0,none⟩)] 230);obtain⟨w1,w2,w3,w4,e1,e2,e3,e4,hM,g2,g3,g4⟩:=MP (w.alloc (.cells #[.pointer (some ⟨b,0,none⟩)] 230)) w.heap.size b;have hmm:= @run_makeMap ai;have hmf:∀(fn:Fn)(first cap:Array Value)(w:World),(Instr.makeFunc fn first cap).run ai w=.ok (.func fn first cap) w:=fun _ _ _ _=>rfl
 have c2:=(hB.below g2 hB.lt).cell 0;have c3:=(hB.below g3 hB.lt).cell 0;simp at c2 c3;obtain⟨HB4,Hb4,HM⟩:=bO (hB.below g4 hB.lt) (after hb0 g4) hM;rw[show(w.alloc (.cells #[.pointer (some ⟨b,0,none⟩)] 230)).heap.size=w.heap.size+1 by simp]at e1 e2 e3 e4 HM;clear hM g2 g3 g4 hb0 hB;go_enter Tryz.func208,Tryz.ntmps208;go_wp2_with fail
 go_ret;exact⟨⟨_,_,rfl,HM.out,HB4.out,by omega,aw _⟩,Hb4.out⟩
def TyS(w:World)(T:List TypeId)(k:Nat):Prop:=∃cur e fz,w.heap[k]? =some (.cells cur e fz)∧e∈T
def LT:List TypeId:=[235,190,296,300,306,249]
def bZ(base:Nat)(w w':World):Prop:=Keeps (fun k=>base≤k∧TyS w LT k) w w'
theorem bZ.of{S:Nat→Prop}{base:Nat}{w w':World}{T:List TypeId}(hk:Keeps S w w')(hS:∀k,S k→base≤k)(ho:Off S w T)(hT:∀e∈T,e∈LT):bZ base w w':=hk.mono fun k _ hs=>⟨hS k hs,by obtain⟨cur,e,fz,h1,h2⟩:=ho k hs;exact⟨cur,e,fz,h1,hT e h2⟩⟩
theorem bZ.off{base:Nat}{w:World}:Off (fun k=>base≤k∧TyS w LT k) w LT:=fun _ hk=>hk.2
theorem bZ.below{base:Nat}{w w':World}(h:bZ base w w')(hb:base≤w.heap.size):Below base w w':=Keeps.below h (fun _ hk=>hk.1) hb
structure Pm(base:Nat)(w:World)(P:Nat)(uv:Value)(V:uk)(dA:oV):Prop where
 blk:aG w P 190 #[V.g,V.t,V.h,V.a]
 g:eG w base V.g dA.p.groups
 t:eG w base V.t dA.p.tags
 h:w.ownsRow base 300 5 V.h dA.p.hosts.length (eF dA.p.hosts)
 a:gu w base V.a dA.p.kt
 u:ez w base uv dA.used
 sep:∀x,V.g.ownBlock=some x→V.t.ownBlock=some x→False
 gl:dA.p.groups.length≤64
 tl:dA.p.tags.length≤64
 hl:dA.p.hosts.length≤64
 al:dA.p.kt.length≤64
 ul:dA.used.length≤128*dA.p.kt.length
theorem vF(w:World):Below w.heap.size w w.drew:=⟨rfl,rfl,rfl,aw _,fun _ _=>rfl⟩
theorem Pm.drew{base P:Nat}{w:World}{uv:Value}{V:uk}{dA:oV}(h:Pm base w P uv V dA):Pm base w.drew P uv V dA:=⟨h.blk,h.g,h.t,h.h,h.a.below (vF w),h.u,h.sep,h.gl,h.tl,h.hl,h.al,h.ul⟩
theorem Rs.drew{w:World}{b P k n:Nat}{lv uv:Value}{ws:List ByteArray}(h:Rs w b P k n lv uv ws):Rs w.drew b P k n lv uv ws:=⟨h.blk,h.row,h.ne,h.len,h.sizes⟩
theorem Env.drew{w:World}(h:Env w):Env w.drew:=h.below (vF w)
theorem bZ.eW{base:Nat}{w w':World}(h:bZ base w.drew w'):bZ base w w':=⟨h.os,h.tape,h.output,h.size,h.block⟩
def rK(base:Nat)(b P n:Nat)(lv:Value)(ws:List ByteArray)(w':World)(rL:oV)(r:Ending):Prop:=r=.returned (.tuple #[])∧∃k' uv' V',Rs w' b P k' n lv uv' ws∧Pm base w' P uv' V' rL
theorem eA.map{α β:Type}{o:Except Bad α}{f:α→β}{n:Nat}{ok:β→Ending→Prop}{r:Ending}(h:eA o n (fun x r=>ok (f x) r) r):eA (o.map f) n ok r:=by
 cases o with
 |error e=>exact h
 |ok x=>exact h
def mr{α:Type}(w':World)(P:Nat)(o:Except Bad α):Prop:=∀e,o=.error e→∃p0 p1 p2 p3,aG w' P 190 #[p0,p1,p2,p3]
theorem mr.map{α β:Type}{o:Except Bad α}{f:α→β}{w':World}{P:Nat}(h:mr w' P o):mr w' P (o.map f):=by
 intro e he;cases o with
 |error e'=>exact h e' rfl
 |ok x=>cases he
theorem eA.mono{α:Type}{o:Except Bad α}{n:Nat}{ok ok':α→Ending→Prop}{r:Ending}(h:eA o n ok r)(hm:∀x,o=.ok x→ok x r→ok' x r):eA o n ok' r:=by
 cases o with
 |error e=>exact h
 |ok x=>exact hm x rfl h
theorem jZ{ws:List ByteArray}{x:ByteArray}(h:ws[0]? =some x):∃r,ws=x::r:=by
 cases ws with
 |nil=>cases h
 |cons y r=>injection h with h;exact⟨r,by rw[h]⟩
theorem G4{ws:List ByteArray}(dA:oV)(n:Nat)(h:ws[0]? =some eU):eE dA n ws=(kT ws dA.p.groups).map fun x=>{dA with p:={dA.p with groups:=dA.p.groups++[x]}}:=by
 obtain⟨r,rfl⟩:=jZ h;unfold eE;dsimp only;rw[if_pos rfl]
theorem QV{ws:List ByteArray}(dA:oV)(n:Nat)(h:ws[0]? =some jG):eE dA n ws=(kT ws dA.p.tags).map fun x=>{dA with p:={dA.p with tags:=dA.p.tags++[x]}}:=by
 obtain⟨r,rfl⟩:=jZ h;unfold eE;dsimp only;rw[if_neg (by decide+kernel),if_pos rfl]
theorem MQ{ws:List ByteArray}(dA:oV)(n:Nat)(h:ws[0]? =some ib):eE dA n ws=(sG ws dA.p.hosts).map fun x=>{dA with p:={dA.p with hosts:=dA.p.hosts++[x]}}:=by
 obtain⟨r,rfl⟩:=jZ h;unfold eE;dsimp only;rw[if_neg (by decide+kernel),if_neg (by decide+kernel),if_pos rfl]
theorem Dy{ws:List ByteArray}(dA:oV)(n:Nat)(h:ws[0]? =some iG):eE dA n ws=(kA ws dA.p.kt.length).map fun x=>{p:={dA.p with kt:=dA.p.kt++[x.1]},used:=dA.used++x.2.map fun y=>(y.1,n,y.2)}:=by
 obtain⟨r,rfl⟩:=jZ h;unfold eE;dsimp only;rw[if_neg (by decide+kernel),if_neg (by decide+kernel),if_neg (by decide+kernel),if_pos rfl]
theorem MR{ws:List ByteArray}{x:ByteArray}(dA:oV)(n:Nat)(h:ws[0]? =some x)(h1:x≠eU)(h2:x≠jG)(h3:x≠ib)(h4:x≠iG):eE dA n ws=.error (190,0):=by
 obtain⟨r,rfl⟩:=jZ h;unfold eE;dsimp only;rw[if_neg h1,if_neg h2,if_neg h3,if_neg h4]
theorem rM{w:World}{base size n:Nat}{e:TypeId}{v:Value}{xs:List Value}{g:Nat}(h:w.ownsRow base e size v n xs)(hg:v.ownBlock=some g):base≤g∧g<w.heap.size∧∃cur fz,w.heap[g]? =some (.cells cur e fz):=by
 obtain⟨cur,e2,fz,h1,h2⟩:=bY h g hg;rw[List.mem_singleton.1 h2]at h1;exact⟨(h.lt g hg).1,(h.lt g hg).2,cur,fz,h1⟩
theorem eG.own{w:World}{base:Nat}{v:Value}{l:List Nm}(h:eG w base v l){g:Nat}(hg:v.ownBlock=some g):base≤g∧g<w.heap.size∧∃cur fz,w.heap[g]? =some (.cells cur 296 fz):=by
 obtain⟨xs,_,ho,_⟩:=h;exact rM ho hg
theorem gu.own{w:World}{base:Nat}{v:Value}{l:List Ac}(h:gu w base v l){g:Nat}(hg:v.ownBlock=some g):base≤g∧g<w.heap.size∧∃cur fz,w.heap[g]? =some (.cells cur 306 fz):=by
 obtain⟨xs,_,ho,_⟩:=h;exact rM ho hg
theorem ez.own{w:World}{base:Nat}{v:Value}{l:List Us}(h:ez w base v l){g:Nat}(hg:v.ownBlock=some g):base≤g∧g<w.heap.size∧∃cur fz,w.heap[g]? =some (.cells cur 249 fz):=by
 obtain⟨xs,_,ho⟩:=h;exact rM ho hg
theorem my{w:World}{g b:Nat}{cur cs:Array Value}{e t:TypeId}{fz:Nat×Nat}(h:w.heap[g]? =some (.cells cur e fz))(hb:aG w b t cs)(hne:e≠t):g≠b:=by
 rintro rfl;unfold aG at hb;rw[h]at hb;injection hb with hb
 injection hb with _ h2 _
 exact hne h2
theorem Dz{w0 w:World}{b P n:Nat}{lv uv:Value}{ws:List ByteArray}{V:uk}{dA:oV}(hE:Below w0.heap.size w0 w)(hbb:w0.heap.size≤b)(zT:w0.heap.size≤P)(h:Rs w b P 1 n lv uv ws)(m:Pm w0.heap.size w P uv V dA)(hw:ws[0]? =some eU):Calls ai 245 #[.pointer (some ⟨b,0,none⟩),.pointer (some ⟨P,0,none⟩)] w fun r w'=>bZ w0.heap.size w w'∧eA (eE dA n ws) n (rK w0.heap.size b P n lv ws w') r∧mr w' P (eE dA n ws):=by
 rw[G4 dA n hw];have of:Off (fun k=>k=b∨k=P∨V.g.ownBlock=some k) w [235,190,296]:=by
  rintro k(e|e|e)
  ·exact⟨_,_,_,by subst e;exact h.blk,by simp⟩
  ·exact⟨_,_,_,by subst e;exact m.blk,by simp⟩
  ·obtain⟨_,_,cur,fz,h1⟩:=m.g.own e;exact⟨cur,_,fz,h1,by simp⟩
 have hPb:P≠b:=m.blk.xc h.blk aI;refine(yy (q:=0) h m.blk rfl m.g hE.size).mono fun r w' hh=>have hk:=(hh.line (fun k hk=>Or.inl hk)).1;have hl:=(hh.line (fun k hk=>Or.inl hk)).2;⟨bZ.of hk ?_ of aI,eA.map (hl.mono fun x hx⟨h1,k',lst',R,B,NR,fr⟩=>⟨h1,k',uv,⟨lst',V.t,V.h,V.a⟩,R,⟨B,NR,?_,a8 m.h hk of aI,m.a.off hk of aI aI aI aI,m.u.off hk of aI,?_,?_,m.tl,m.hl,m.al,m.ul⟩⟩),mr.map fun e he=>⟨_,_,_,_,m.blk.keep (hh.err e he) (hPb)⟩⟩
 ·rintro k(e|e|e)
  ·omega
  ·omega
  ·exact(m.g.own e).1
 ·refine m.t.keep hk of aI ?_;rintro g hg(e|e|e)
  ·obtain⟨_,_,cur,fz,h1⟩:=m.t.own hg;exact my h1 h.blk aI e
  ·obtain⟨_,_,cur,fz,h1⟩:=m.t.own hg;exact my h1 m.blk aI e
  ·exact m.sep g e hg
 ·intro g hg ht;rcases fr g hg with e|e
  ·exact m.sep g e ht
  ·have:=(m.t.own ht).2.1;omega
 ·have:=(sK hx).2.1;show(dA.p.groups++[x]).length≤64;rw[aj];simp;omega
theorem MS{w0 w:World}{b P n:Nat}{lv uv:Value}{ws:List ByteArray}{V:uk}{dA:oV}(hE:Below w0.heap.size w0 w)(hbb:w0.heap.size≤b)(zT:w0.heap.size≤P)(h:Rs w b P 1 n lv uv ws)(m:Pm w0.heap.size w P uv V dA)(hw:ws[0]? =some jG):Calls ai 245 #[.pointer (some ⟨b,0,none⟩),.pointer (some ⟨P,1,none⟩)] w fun r w'=>bZ w0.heap.size w w'∧eA (eE dA n ws) n (rK w0.heap.size b P n lv ws w') r∧mr w' P (eE dA n ws):=by
 rw[QV dA n hw];have of:Off (fun k=>k=b∨k=P∨V.t.ownBlock=some k) w [235,190,296]:=by
  rintro k(e|e|e)
  ·exact⟨_,_,_,by subst e;exact h.blk,by simp⟩
  ·exact⟨_,_,_,by subst e;exact m.blk,by simp⟩
  ·obtain⟨_,_,cur,fz,h1⟩:=m.t.own e;exact⟨cur,_,fz,h1,by simp⟩
 have hPb:P≠b:=m.blk.xc h.blk aI;refine(yy (q:=1) h m.blk rfl m.t hE.size).mono fun r w' hh=>have hk:=(hh.line (fun k hk=>Or.inl hk)).1;have hl:=(hh.line (fun k hk=>Or.inl hk)).2;⟨bZ.of hk ?_ of aI,eA.map (hl.mono fun x hx⟨h1,k',lst',R,B,NR,fr⟩=>⟨h1,k',uv,⟨V.g,lst',V.h,V.a⟩,R,⟨B,?_,NR,a8 m.h hk of aI,m.a.off hk of aI aI aI aI,m.u.off hk of aI,?_,m.gl,?_,m.hl,m.al,m.ul⟩⟩),mr.map fun e he=>⟨_,_,_,_,m.blk.keep (hh.err e he) (hPb)⟩⟩
 ·rintro k(e|e|e)
  ·omega
  ·omega
  ·exact(m.t.own e).1
 ·refine m.g.keep hk of aI ?_;rintro g hg(e|e|e)
  ·obtain⟨_,_,cur,fz,h1⟩:=m.g.own hg;exact my h1 h.blk aI e
  ·obtain⟨_,_,cur,fz,h1⟩:=m.g.own hg;exact my h1 m.blk aI e
  ·exact m.sep g hg e
 ·intro g hg ht;rcases fr g ht with e|e
  ·exact m.sep g hg e
  ·have:=(m.g.own hg).2.1;omega
 ·have:=(sK hx).2.1;show(dA.p.tags++[x]).length≤64;rw[aj];simp;omega
theorem G5{w0 w:World}(env:Env w0){b P n:Nat}{lv uv:Value}{ws:List ByteArray}{V:uk}{dA:oV}(hE:Below w0.heap.size w0 w)(hbb:w0.heap.size≤b)(zT:w0.heap.size≤P)(h:Rs w b P 1 n lv uv ws)(m:Pm w0.heap.size w P uv V dA)(hw:ws[0]? =some ib):Calls ai 247 #[.pointer (some ⟨b,0,none⟩)] w fun r w'=>bZ w0.heap.size w w'∧eA (eE dA n ws) n (rK w0.heap.size b P n lv ws w') r∧mr w' P (eE dA n ws):=by
 rw[MQ dA n hw];have of:Off (fun k=>k=b∨k=P∨V.h.ownBlock=some k) w [235,190,300]:=by
  rintro k(e|e|e)
  ·exact⟨_,_,_,by subst e;exact h.blk,by simp⟩
  ·exact⟨_,_,_,by subst e;exact m.blk,by simp⟩
  ·obtain⟨_,_,cur,fz,h1⟩:=rM m.h e;exact⟨cur,_,fz,h1,by simp⟩
 have ng:∀(v:Value)(l:List Nm),eG w w0.heap.size v l→∀g,v.ownBlock=some g→¬(g=b∨g=P∨V.h.ownBlock=some g):=by
  intro v l hv g hg e;obtain⟨_,_,cur,fz,h1⟩:=hv.own hg;rcases e with e|e|e
  ·exact my h1 h.blk aI e
  ·exact my h1 m.blk aI e
  ·obtain⟨_,_,aau,fz2,h2⟩:=rM m.h e;rw[h1]at h2;injection h2 with h2
   injection h2 with _ h2 _
   exact absurd h2 (by decide)
 have hPb:P≠b:=m.blk.xc h.blk aI;refine(Qr env hE h m.blk rfl m.h hbb).mono fun r w' hh=>have hk:=(hh.line (fun k hk=>Or.inl hk)).1;have hl:=(hh.line (fun k hk=>Or.inl hk)).2;⟨bZ.of hk ?_ of aI,eA.map (hl.mono fun x hx⟨h1,k',lst',R,B,NR,fr⟩=>⟨h1,k',uv,⟨V.g,V.t,lst',V.a⟩,R,⟨B,m.g.keep hk of aI (ng _ _ m.g),m.t.keep hk of aI (ng _ _ m.t),NR,m.a.off hk of aI aI aI aI,m.u.off hk of aI,m.sep,m.gl,m.tl,?_,m.al,m.ul⟩⟩),mr.map fun e he=>⟨_,_,_,_,m.blk.keep (hh.err e he) (hPb)⟩⟩
 ·rintro k(e|e|e)
  ·omega
  ·omega
  ·exact(rM m.h e).1
 ·have:=(FM hx).2.1;show(dA.p.hosts++[x]).length≤64;rw[aj];simp;omega
theorem zU{w0 w:World}(env:Env w0){b P n:Nat}{lv uv:Value}{ws:List ByteArray}{V:uk}{dA:oV}(hE:Below w0.heap.size w0 w)(hbb:w0.heap.size≤b)(zT:w0.heap.size≤P)(h:Rs w b P 1 n lv uv ws)(m:Pm w0.heap.size w P uv V dA)(hw:ws[0]? =some iG):Calls ai 248 #[.pointer (some ⟨b,0,none⟩)] w fun r w'=>bZ w0.heap.size w w'∧eA (eE dA n ws) n (rK w0.heap.size b P n lv ws w') r∧mr w' P (eE dA n ws):=by
 rw[Dy dA n hw];have of:Off (fun k=>k=b∨k=P∨V.a.ownBlock=some k∨uv.ownBlock=some k) w [235,190,306,249]:=by
  rintro k(e|e|e|e)
  ·exact⟨_,_,_,by subst e;exact h.blk,by simp⟩
  ·exact⟨_,_,_,by subst e;exact m.blk,by simp⟩
  ·obtain⟨_,_,cur,fz,h1⟩:=m.a.own e;exact⟨cur,_,fz,h1,by simp⟩
  ·obtain⟨_,_,cur,fz,h1⟩:=m.u.own e;exact⟨cur,_,fz,h1,by simp⟩
 have ng:∀(v:Value)(l:List Nm),eG w w0.heap.size v l→∀g,v.ownBlock=some g→¬(g=b∨g=P∨V.a.ownBlock=some g∨uv.ownBlock=some g):=by
  intro v l hv g hg e;obtain⟨_,_,cur,fz,h1⟩:=hv.own hg;obtain⟨aau,e2,fz2,h2,h3⟩:=of g e;rw[h1]at h2;injection h2 with h2
  injection h2 with _ h2 _
  rw[←h2]at h3;exact absurd h3 (by decide)
 have hPb:P≠b:=m.blk.xc h.blk aI;have hPu:uv.ownBlock=some P→False:=fun e=>by
  obtain⟨_,_,cur,fz,h1⟩:=m.u.own e;exact my h1 m.blk aI rfl
 refine(GV env hE h m.blk rfl m.a m.u (by have:=m.ul;have:=m.al;omega) hbb).mono fun r w' hh=>have hk:=(hh.line (fun k hk=>hk.elim Or.inl fun e=>Or.inr (Or.inr (Or.inr e)))).1;have hl:=(hh.line (fun k hk=>hk.elim Or.inl fun e=>Or.inr (Or.inr (Or.inr e)))).2;⟨bZ.of hk ?_ of aI,eA.map (hl.mono fun x hx⟨h1,k',lst',uv',R,B,AR,UR,fr,fr2,xl⟩=>⟨h1,k',uv',⟨V.g,V.t,V.h,lst'⟩,R,⟨B,m.g.keep hk of aI (ng _ _ m.g),m.t.keep hk of aI (ng _ _ m.t),a8 m.h hk of aI,AR,UR,m.sep,m.gl,m.tl,m.hl,?_,?_⟩⟩),mr.map fun e he=>⟨_,_,_,_,m.blk.keep (hh.err e he) (fun e=>e.elim hPb hPu)⟩⟩
 ·rintro k(e|e|e|e)
  ·omega
  ·omega
  ·exact(m.a.own e).1
  ·exact(m.u.own e).1
 ·have:=(zo hx).2.1;show(dA.p.kt++[x.1]).length≤64;rw[aj];simp;omega
 ·show(dA.used++x.2.map fun y=>(y.1,n,y.2)).length≤128*(dA.p.kt++[x.1]).length;rw[aj,aj,ay];have:=m.ul;simp;omega
theorem MU{w0 w:World}{b P n c:Nat}{lv uv:Value}{ws:List ByteArray}{V:uk}{dA:oV}(hE:Below w0.heap.size w0 w)(hbb:w0.heap.size≤b)(zT:w0.heap.size≤P)(h:Rs w b P 1 n lv uv ws)(m:Pm w0.heap.size w P uv V dA)(hw:ws[0]? =some eU)(hc:aG w c 230 #[.pointer (some ⟨b,0,none⟩)]):Calls ai 244 #[.pointer (some ⟨c,0,none⟩)] w fun r w'=>bZ w0.heap.size w w'∧eA (eE dA n ws) n (rK w0.heap.size b P n lv ws w') r∧mr w' P (eE dA n ws):=by
 have HN:=Dz (w:=w.drew) (n:=n) (lv:=lv) ⟨hE.os,hE.tape,hE.output,hE.size,hE.block⟩ hbb zT h.drew m.drew hw;have x0:=hc.cell 0;have x2:=h.blk.cell 2;simp at x0 x2;have HC:=ae hc;clear h m hc;cases ho:eE dA n ws with
 |error e=>
  rw[ho]at HN;have HE:af (Calls ai 245 #[.pointer (some ⟨b,0,none⟩),.pointer (some ⟨P,0,none⟩)] w.drew fun r w'=>bZ w0.heap.size w.drew w'∧r=aP e.1 n e.2∧mr (α:=oV) w' P (.error e)):=ae HN;clear HN ho;go_enter Tryz.func244,Tryz.ntmps244;refine wp_region_held_drew (S:=(fun w'=>w'.cell? ⟨c,0,none⟩=some (.pointer (some ⟨b,0,none⟩))∧w'.cell? ⟨b,2,none⟩=some (.pointer (some ⟨P,0,none⟩)))) bJ (⟨x0,x2⟩) (fun hHeld=>?_);refine bB 0 ?_
  refine bB 1 ?_
  refine bB 2 ?_
  refine bB 3 ?_
  refine bB 4 ?_
  refine bB 5 ?_
  refine bB 6 ?_
  refine mM 7 fun K hK=>?_;go_simp;refine HE.out.mono ?_;rintro r w5⟨d5,rfl,p5⟩;unfold aP;exact⟨rfl,d5.eW,rfl,p5⟩
 |ok x=>
  rw[ho]at HN;have HE:af (Calls ai 245 #[.pointer (some ⟨b,0,none⟩),.pointer (some ⟨P,0,none⟩)] w.drew fun r w'=>bZ w0.heap.size w.drew w'∧(r=.returned (.tuple #[])∧∃k' uv' V',Rs w' b P k' n lv uv' ws∧Pm w0.heap.size w' P uv' V' x)):=ae (HN.mono fun r w'⟨h1,h2,_⟩=>⟨h1,h2⟩);clear HN ho;go_enter Tryz.func244,Tryz.ntmps244;refine wp_region_held_drew (S:=(fun w'=>w'.cell? ⟨c,0,none⟩=some (.pointer (some ⟨b,0,none⟩))∧w'.cell? ⟨b,2,none⟩=some (.pointer (some ⟨P,0,none⟩)))) bJ (⟨x0,x2⟩) (fun hHeld=>?_);refine bB 0 ?_
  refine bB 1 ?_
  refine bB 2 ?_
  refine bB 3 ?_
  refine bB 4 ?_
  refine bB 5 ?_
  refine bB 6 ?_
  refine mM 7 fun K hK=>?_;go_simp;refine HE.out.mono ?_;rintro r w5⟨d5,rfl,k',uv',V',R5,M5⟩;have y0:=(HC.out.off d5.eW bZ.off aI).cell 0;have y2:=R5.blk.cell 2;simp at y0 y2;refine hK.out _ _ (⟨y0,y2⟩) (fun hHeld=>?_);clear hK K;try simp only[dX]
  refine tX ?_;refine⟨rfl,_,results_none rfl _ _ _,d5.eW,⟨rfl,_,_,_,R5,M5⟩,fun e he=>(by cases he)⟩
theorem MV{w0 w:World}{b P n c:Nat}{lv uv:Value}{ws:List ByteArray}{V:uk}{dA:oV}(hE:Below w0.heap.size w0 w)(hbb:w0.heap.size≤b)(zT:w0.heap.size≤P)(h:Rs w b P 1 n lv uv ws)(m:Pm w0.heap.size w P uv V dA)(hw:ws[0]? =some jG)(hc:aG w c 230 #[.pointer (some ⟨b,0,none⟩)]):Calls ai 246 #[.pointer (some ⟨c,0,none⟩)] w fun r w'=>bZ w0.heap.size w w'∧eA (eE dA n ws) n (rK w0.heap.size b P n lv ws w') r∧mr w' P (eE dA n ws):=by
 have HN:=MS (w:=w.drew) (n:=n) (lv:=lv) ⟨hE.os,hE.tape,hE.output,hE.size,hE.block⟩ hbb zT h.drew m.drew hw;have x0:=hc.cell 0;have x2:=h.blk.cell 2;simp at x0 x2;have HC:=ae hc;clear h m hc;cases ho:eE dA n ws with
 |error e=>
  rw[ho]at HN;have HE:af (Calls ai 245 #[.pointer (some ⟨b,0,none⟩),.pointer (some ⟨P,1,none⟩)] w.drew fun r w'=>bZ w0.heap.size w.drew w'∧r=aP e.1 n e.2∧mr (α:=oV) w' P (.error e)):=ae HN;clear HN ho;go_enter Tryz.func246,Tryz.ntmps246;refine wp_region_held_drew (S:=(fun w'=>w'.cell? ⟨c,0,none⟩=some (.pointer (some ⟨b,0,none⟩))∧w'.cell? ⟨b,2,none⟩=some (.pointer (some ⟨P,0,none⟩)))) bJ (⟨x0,x2⟩) (fun hHeld=>?_);refine bB 0 ?_
  refine bB 1 ?_
  refine bB 2 ?_
  refine bB 3 ?_
  refine bB 4 ?_
  refine bB 5 ?_
  refine bB 6 ?_
  refine mM 7 fun K hK=>?_;go_simp;refine HE.out.mono ?_;rintro r w5⟨d5,rfl,p5⟩;unfold aP;exact⟨rfl,d5.eW,rfl,p5⟩
 |ok x=>
  rw[ho]at HN;have HE:af (Calls ai 245 #[.pointer (some ⟨b,0,none⟩),.pointer (some ⟨P,1,none⟩)] w.drew fun r w'=>bZ w0.heap.size w.drew w'∧(r=.returned (.tuple #[])∧∃k' uv' V',Rs w' b P k' n lv uv' ws∧Pm w0.heap.size w' P uv' V' x)):=ae (HN.mono fun r w'⟨h1,h2,_⟩=>⟨h1,h2⟩);clear HN ho;go_enter Tryz.func246,Tryz.ntmps246;refine wp_region_held_drew (S:=(fun w'=>w'.cell? ⟨c,0,none⟩=some (.pointer (some ⟨b,0,none⟩))∧w'.cell? ⟨b,2,none⟩=some (.pointer (some ⟨P,0,none⟩)))) bJ (⟨x0,x2⟩) (fun hHeld=>?_);refine bB 0 ?_
  refine bB 1 ?_
  refine bB 2 ?_
  refine bB 3 ?_
  refine bB 4 ?_
  refine bB 5 ?_
  refine bB 6 ?_
  refine mM 7 fun K hK=>?_;go_simp;refine HE.out.mono ?_;rintro r w5⟨d5,rfl,k',uv',V',R5,M5⟩;have y0:=(HC.out.off d5.eW bZ.off aI).cell 0;have y2:=R5.blk.cell 2;simp at y0 y2;refine hK.out _ _ (⟨y0,y2⟩) (fun hHeld=>?_);clear hK K;try simp only[dX]
  refine tX ?_;refine⟨rfl,_,results_none rfl _ _ _,d5.eW,⟨rfl,_,_,_,R5,M5⟩,fun e he=>(by cases he)⟩
theorem catch_idle(P F:Nat)(w:World):CallsD ai 205 #[.pointer (some ⟨P,0,none⟩),.pointer (some ⟨F,0,none⟩)] .returning w fun e u' w'=>e=.returned (.tuple #[])∧u'=.returning∧w'=w:=by
 refine callsD_of_wpS Tryz.func205 rfl fun c₀ cs hu=>?_
 apply wpS_seq;apply wpS_region;simp[wpOpsS,go_sem,recoverD,hu,Tryz.ntmps205,Exit.thenS];apply wpS_seq;apply wpS_region;simp[wpOpsS,go_sem,Exit.thenS];refine wpS_cond (t:=false) (by simp[Act.eval,Array.replicate]) ?_;simp only[Bool.false_eq_true,if_false];refine wpS_of_wp (wp_skip ?_);cases c₀;simp_all [bodyPostS,results,Tryz.results205]
theorem aaL{w:World}{g:Nat}{t:TypeId}{z0 z1 z2 z3:Value}(v0 v1 v2 v3:Value)(h:aG w g t #[z0,z1,z2,z3]):aG ((((w.setCell ⟨g,0,none⟩ v0).setCell ⟨g,1,none⟩ v1).setCell ⟨g,2,none⟩ v2).setCell ⟨g,3,none⟩ v3) g t #[v0,v1,v2,v3]∧Keeps (fun x=>x=g) w ((((w.setCell ⟨g,0,none⟩ v0).setCell ⟨g,1,none⟩ v1).setCell ⟨g,2,none⟩ v2).setCell ⟨g,3,none⟩ v3):=⟨(((h.aM 0 v0).aM 1 v1).aM 2 v2).aM 3 v3,((((Keeps.refl (fun x=>x=g) w).setCell (p:=⟨g,0,none⟩) (Or.inl rfl) v0).setCell (p:=⟨g,1,none⟩) (Or.inl rfl) v1).setCell (p:=⟨g,2,none⟩) (Or.inl rfl) v2).setCell (p:=⟨g,3,none⟩) (Or.inl rfl) v3⟩
theorem aaM{w:World}{g:Nat}{t:TypeId}{z0 z1 z2:Value}(v0 v1 v2:Value)(h:aG w g t #[z0,z1,z2]):aG (((w.setCell ⟨g,0,none⟩ v0).setCell ⟨g,1,none⟩ v1).setCell ⟨g,2,none⟩ v2) g t #[v0,v1,v2]∧Keeps (fun x=>x=g) w (((w.setCell ⟨g,0,none⟩ v0).setCell ⟨g,1,none⟩ v1).setCell ⟨g,2,none⟩ v2):=⟨((h.aM 0 v0).aM 1 v1).aM 2 v2,(((Keeps.refl (fun x=>x=g) w).setCell (p:=⟨g,0,none⟩) (Or.inl rfl) v0).setCell (p:=⟨g,1,none⟩) (Or.inl rfl) v1).setCell (p:=⟨g,2,none⟩) (Or.inl rfl) v2⟩
theorem catch_panicking(P F e n i:Nat)(w:World)(older:List PanicEntry){p0 p1 p2 p3 f0 f1 f2:Value}(hP:aG w P 190 #[p0,p1,p2,p3])(hF:aG w F 192 #[f0,f1,f2])(hPF:P≠F):CallsD ai 205 #[.pointer (some ⟨P,0,none⟩),.pointer (some ⟨F,0,none⟩)] (.panicking ({v:=.iface 228 (.agg #[.int .i64 e,.int .i64 n,.int .i64 i]),recovered:=false}::older)) w fun r u' w'=>r=.returned (.tuple #[])∧u'=.panicking ({v:=.iface 228 (.agg #[.int .i64 e,.int .i64 n,.int .i64 i]),recovered:=true}::older)∧Keeps (fun k=>k=P∨k=F) w w'∧aG w' P 190 #[.slice none 0 0,.slice none 0 0,.slice none 0 0,.slice none 0 0]∧aG w' F 192 #[.int .i64 e,.int .i64 n,.int .i64 i]:=by
 refine callsD_of_wpS Tryz.func205 rfl fun c₀ cs hu=>?_
 apply wpS_seq;apply wpS_region;simp[wpOpsS,go_sem,recoverD,hu,Tryz.ntmps205,Exit.thenS];refine wpS_of_wp ?_;change Code.wp _ _ _ {tmps:= #[.pointer (some ⟨P,0,none⟩),.pointer (some ⟨F,0,none⟩),.iface 228 (.agg #[.int .i64 e,.int .i64 n,.int .i64 i]),undef,undef,.iface 228 (.agg #[.int .i64 e,.int .i64 n,.int .i64 i]),undef,undef,undef,undef,undef,undef,undef,undef,undef,undef,undef,undef,undef],defers:=[]} w;have hta:∀w:World,(Instr.typeAssert (.iface 228 (.agg #[.int .i64 e,.int .i64 n,.int .i64 i])) 20 228 true).run ai w=.ok (.tuple #[.agg #[.int .i64 e,.int .i64 n,.int .i64 i],.bool true]) w:=fun _=>by kernel_rfl
 clear hu;go_upto_region 5 with fail
 have NB:=aG.new w 228 #[.int .i64 e,.int .i64 n,.int .i64 i];have d1:=boxed w (.cells #[.int .i64 e,.int .i64 n,.int .i64 i] 228);have hP1:=hP.below d1 hP.lt;have hF1:=hF.below d1 hF.lt;have KD:Keeps (fun k=>k=P∨k=F) w (w.alloc (.cells #[.int .i64 e,.int .i64 n,.int .i64 i] 228)):=Keeps.of_below d1 fun k hk _=>hk
 have hPl:=hP.lt;have Lt:=hF.lt;generalize w.alloc (.cells #[.int .i64 e,.int .i64 n,.int .i64 i] 228)=w1 at NB hP1 hF1 KD⊢;generalize w.heap.size=N at NB hPl Lt⊢;clear d1 hP hF;have n0:=NB.cell 0;have n1:=NB.cell 1;have n2:=NB.cell 2;have x0:w1.cell? ⟨P,0,none⟩=_:=hP1.cell 0;have x1:w1.cell? ⟨P,1,none⟩=_:=hP1.cell 1;have x2:w1.cell? ⟨P,2,none⟩=_:=hP1.cell 2;have x3:w1.cell? ⟨P,3,none⟩=_:=hP1.cell 3;have z0:w1.frozen? ⟨P,0,none⟩=false:=hP1.frozen 0;have z1:w1.frozen? ⟨P,1,none⟩=false:=hP1.frozen 1;have z2:w1.frozen? ⟨P,2,none⟩=false:=hP1.frozen 2;have z3:w1.frozen? ⟨P,3,none⟩=false:=hP1.frozen 3;obtain⟨PB,KP⟩:=aaL (w:=w1) (.slice none 0 0) (.slice none 0 0) (.slice none 0 0) (.slice none 0 0) hP1;obtain⟨W4,QW⟩:∃W,W=(((w1.setCell ⟨P,0,none⟩ (.slice none 0 0)).setCell ⟨P,1,none⟩ (.slice none 0 0)).setCell ⟨P,2,none⟩ (.slice none 0 0)).setCell ⟨P,3,none⟩ (.slice none 0 0):=⟨_,rfl⟩;rw[←QW]at PB KP;have WM:=ae QW;clear QW;have FB:=aG.keep (show aG w1 F _ _ from hF1) KP (fun e=>hPF e.symm);have Vk:=aG.keep (show aG w1 N _ _ from NB) KP aY;simp at n0 n1 n2 x0 x1 x2 x3;have m0:=Vk.cell 0;have m1:=Vk.cell 1;have m2:=Vk.cell 2;have y0:=FB.cell 0;have y1:=FB.cell 1;have y2:=FB.cell 2;have u0:=FB.frozen 0;have u1:=FB.frozen 1;have u2:=FB.frozen 2;simp at m0 m1 m2 y0 y1 y2;obtain⟨um,KF⟩:=aaM (.int .i64 e) (.int .i64 n) (.int .i64 i) FB;obtain⟨W7,hW7⟩:∃W,W=((W4.setCell ⟨F,0,none⟩ (.int .i64 e)).setCell ⟨F,1,none⟩ (.int .i64 n)).setCell ⟨F,2,none⟩ (.int .i64 i):=⟨_,rfl⟩;rw[←hW7]at um KF;have HW7:=ae hW7;clear hW7;obtain⟨HFB,HPB⟩:=aQ um (PB.keep KF hPF);have HK:=ae (((KD.trans (KP.mono (T:=fun k=>k=P∨k=F) fun k _ hk=>Or.inl hk)).trans (KF.mono fun k _ hk=>Or.inr hk)).drew);have ME:=Vk.keep KF aY;have o0:=ME.cell 0;have o1:=ME.cell 1;have o2:=ME.cell 2;simp at o0 o1 o2;clear um PB KF KP KD NB Vk ME FB hP1 hF1;refine wp_region_held_drew (S:=(fun w'=>w'.cell? ⟨N,0,none⟩=some (.int .i64 e)∧w'.cell? ⟨N,1,none⟩=some (.int .i64 n)∧w'.cell? ⟨N,2,none⟩=some (.int .i64 i))) bJ (⟨n0,n1,n2⟩) (fun hHeld=>?_);refine bB 0 ?_
 refine bB 1 ?_
 refine bB 2 ?_
 refine mM 3 fun K hK=>?_;go_simp;rw[←WM.out];refine hK.out _ _ (⟨m0,m1,m2⟩) (fun hHeld=>?_);clear hK K;try simp only[dX]
 refine mM 4 fun K hK=>?_;go_simp;rw[←HW7.out];refine hK.out _ _ (⟨o0,o1,o2⟩) (fun hHeld=>?_);clear hK K;try simp only[dX]
 refine tX ?_;exact⟨rfl,_,rfl,_,results_none rfl _ _ _,rfl,rfl,HK.out,HPB.out,HFB.out⟩
theorem MW(l:List UInt8):(nb l).length≤l.length+1∧∀s∈nb l,s.size≤l.length:=by
 have h:=qe l [];unfold nb fieldsB;constructor
 ·rw[ay];have:=(List.takeWhile_prefix fZ (l:=fieldsGo [] l)).length_le;omega
 ·intro s hs;obtain⟨x,hx,rfl⟩:=List.mem_map.1 hs;have:=h.2 x ((List.takeWhile_prefix fZ).subset hx);show(x.toArray).size≤l.length;rw[List.size_toArray];simpa using this
theorem JC{w:World}{g:Nat}{v0 v1 v2 v3:Value}(h:aG w g 190 #[v0,v1,v2,v3]):(loadVar 190 ⟨g,0,none⟩).run ai w=.ok (.agg #[v0,v1,v2,v3]) w:=by
 have c0:=h.cell 0;have c1:=h.cell 1;have c2:=h.cell 2;have c3:=h.cell 3;simp at c0 c1 c2 c3;simp[loadVar,go_sem,c0,c1,c2,c3]
theorem JD{w:World}{g:Nat}{v0 v1 v2:Value}(h:aG w g 192 #[v0,v1,v2]):(loadVar 192 ⟨g,0,none⟩).run ai w=.ok (.agg #[v0,v1,v2]) w:=by
 have c0:=h.cell 0;have c1:=h.cell 1;have c2:=h.cell 2;simp at c0 c1 c2;simp[loadVar,go_sem,c0,c1,c2]
def dB(s:List UInt8)(w:World)(r:Ending)(w':World):Prop:=(∃V:uk,r=.returned (.tuple #[.agg #[V.g,V.t,V.h,V.a],.agg #[.int .i64 ((ic s).2.1:Int),.int .i64 ((ic s).2.2.1:Int),.int .i64 ((ic s).2.2.2:Int)]])∧tP w' V (ic s).1)∧Below w.heap.size w w'
theorem qt.nil(w:World):qt w (.slice none 0 0) []:=⟨[],rfl,aV.empty _ _,fun x hx=>by cases hx⟩
theorem xI.nil(w:World):xI w (.slice none 0 0) []:=⟨[],rfl,aV.empty _ _,fun x hx=>by cases hx⟩
theorem tP.zero(w:World):tP w ⟨.slice none 0 0,.slice none 0 0,.slice none 0 0,.slice none 0 0⟩ Po.zero:=⟨qt.nil w,qt.nil w,aV.empty w 5,xI.nil w⟩
theorem dB.bad{s:List UInt8}{w w':World}{e n i:Nat}(h:ic s=(Po.zero,(e,n,i)))(hb:Below w.heap.size w w'):dB s w (.returned (.tuple #[.agg #[.slice none 0 0,.slice none 0 0,.slice none 0 0,.slice none 0 0],.agg #[.int .i64 e,.int .i64 n,.int .i64 i]])) w':=by
 unfold dB;rw[h];exact⟨⟨⟨.slice none 0 0,.slice none 0 0,.slice none 0 0,.slice none 0 0⟩,rfl,tP.zero w'⟩,hb⟩
theorem dB.good{s:List UInt8}{w w':World}{p:Po}{V:uk}(h:ic s=(p,(0,0,0)))(hr:tP w' V p)(hb:Below w.heap.size w w'):dB s w (.returned (.tuple #[.agg #[V.g,V.t,V.h,V.a],.agg #[.int .i64 0,.int .i64 0,.int .i64 0]])) w':=by
 unfold dB;rw[h];exact⟨⟨V,rfl,hr⟩,hb⟩
def endP(r:Except Flt oV):Po×Flt:=match r with
 | .error e=>(Po.zero,e)
 | .ok b=>match b.used.find? fun u=> !gx b.p u.1 with
   |some u=>(Po.zero,(196,u.2))
   |none=>(b.p,(0,0,0))
def QX(b:oV)(o:Option Us):Po×Flt:=match o with
 |some u=>(Po.zero,(196,u.2))
 |none=>(b.p,(0,0,0))
theorem WN(b:oV):endP (.ok b)=QX b (b.used.find? fun u=> !gx b.p u.1):=by
 unfold endP QX;rfl
theorem QY{b:oV}{k:Nat}{u:Us}(h:b.used[k]? =some u):(b.used.drop k).find? (fun u=> !gx b.p u.1)=if gx b.p u.1=true then(b.used.drop (k+1)).find? (fun u=> !gx b.p u.1)else some u:=by
 have hk:k<b.used.length:=(List.getElem?_eq_some_iff.1 h).1;rw[List.drop_eq_getElem_cons hk,(List.getElem?_eq_some_iff.1 h).2,List.find?_cons];cases gx b.p u.1<;>rfl
theorem MX{s:List UInt8}(h:¬8192<s.length):ic s=endP (pA (cQ 10 s) 1 ⟨Po.zero,[]⟩):=by
 unfold ic;rw[if_neg h];rfl
theorem pK{tmps:Array Value}{w:World}{P F:Nat}{V v2:Value}(h1:tmps.getD 2 undef=.pointer (some ⟨P,0,none⟩))(h2:tmps.getD 3 undef=.pointer (some ⟨F,0,none⟩))(hl:(loadVar 190 ⟨P,0,none⟩).run ai w=.ok V w)(hl2:(loadVar 192 ⟨F,0,none⟩).run ai w=.ok v2 w):(results Tryz.f167 tmps).run ai w=.ok (.tuple #[V,v2]) w:=by
 have h1':tmps[2]?.getD undef=.pointer (some ⟨P,0,none⟩):=by simpa using h1
 have h2':tmps[3]?.getD undef=.pointer (some ⟨F,0,none⟩):=by simpa using h2
 have hres:Tryz.f167.results= #[.cell 2 190,.cell 3 192]:=rfl;simp[results,hres,h1',h2',asAddr,hl,hl2]
theorem j4{w:World}{tmps:Array Value}{P F e n i:Nat}{R:Ending→World→Prop}{p0 p1 p2 p3 f0 f1 f2:Value}(h2:tmps.getD 2 undef=.pointer (some ⟨P,0,none⟩))(h3:tmps.getD 3 undef=.pointer (some ⟨F,0,none⟩))(hP:aG w P 190 #[p0,p1,p2,p3])(hF:aG w F 192 #[f0,f1,f2])(hPF:P≠F)(hR:∀w',Keeps (fun k=>k=P∨k=F) w w'→R (.returned (.tuple #[.agg #[.slice none 0 0,.slice none 0 0,.slice none 0 0,.slice none 0 0],.agg #[.int .i64 e,.int .i64 n,.int .i64 i]])) w'):Leaves ai Tryz.f167 tmps R [{target:=.fn (.func 205) #[.pointer (some ⟨P,0,none⟩),.pointer (some ⟨F,0,none⟩)],args:= #[]}] (.panicking [{v:=.iface 228 (.agg #[.int .i64 e,.int .i64 n,.int .i64 i]),recovered:=false}]) w:=by
 refine leaves_cons (f:=205) (args:= #[.pointer (some ⟨P,0,none⟩),.pointer (some ⟨F,0,none⟩)]) (by simp) (by simp[go_sem]) ?_;refine(catch_panicking P F e n i w [] hP hF hPF).mono ?_;rintro r u' w'⟨rfl,rfl,hk,hp,hf⟩;show Leaves _ _ _ _ [] .returning w';exact⟨_,pK h2 h3 (JC hp) (JD hf),hR w' hk⟩
theorem td{w:World}{tmps:Array Value}{P F:Nat}{R:Ending→World→Prop}{V v2:Value}(h2:tmps.getD 2 undef=.pointer (some ⟨P,0,none⟩))(h3:tmps.getD 3 undef=.pointer (some ⟨F,0,none⟩))(hl:(loadVar 190 ⟨P,0,none⟩).run ai w=.ok V w)(hl2:(loadVar 192 ⟨F,0,none⟩).run ai w=.ok v2 w)(hR:R (.returned (.tuple #[V,v2])) w):Leaves ai Tryz.f167 tmps R [{target:=.fn (.func 205) #[.pointer (some ⟨P,0,none⟩),.pointer (some ⟨F,0,none⟩)],args:= #[]}] .returning w:=by
 refine leaves_cons (f:=205) (args:= #[.pointer (some ⟨P,0,none⟩),.pointer (some ⟨F,0,none⟩)]) (by simp) (by simp[go_sem]) ?_;refine(catch_idle P F w).mono ?_;rintro r u' w'⟨rfl,rfl,rfl⟩;show Leaves _ _ _ _ [] .returning w';exact⟨_,pK h2 h3 hl hl2,hR⟩
theorem DC{P:Program}{fn:Func}{t1 t2:Array Value}{R:Ending→World→Prop}(hr:results fn t1=results fn t2):∀(ds:List Deferred)(u:FrameMode)(w:World),Leaves P fn t1 R ds u w→Leaves P fn t2 R ds u w:=by
 intro ds
 induction ds with
 |nil=>
  intro u w h;cases u with
  |run=>exact h
  |returning=>obtain⟨v,h1,h2⟩:=h;exact⟨v,hr▸h1,h2⟩
  |panicking c=>exact h
 |cons d ds ih=>
  intro u w h;obtain⟨h1,fv,cap,f,args,h2,h3,h4⟩:=h;refine⟨h1,fv,cap,f,args,h2,h3,h4.mono fun e u' w' he=>?_⟩;cases e with
  |returned v=>exact ih _ _ he
  |panicked c=>exact ih _ _ he
  |outgrown=>exact he
theorem fV{d:Nat}(h2:d≠2)(h3:d≠3){a:Act}{v:Value}{R:Ending→World→Prop}{u:FrameMode}{w:World}(h:Leaves ai Tryz.f167 (a.tmps.setIfInBounds d v) R a.defers u w):Leaves ai Tryz.f167 a.tmps R a.defers u w:=by
 refine DC ?_ _ _ _ h;have hres:Tryz.f167.results= #[.cell 2 190,.cell 3 192]:=rfl;unfold results;rw[hres];simp[Array.getElem?_setIfInBounds,h2,h3]
theorem eG.off{S:Nat→Prop}{w w':World}{T:List TypeId}{base:Nat}{v:Value}{l:List Nm}(h:eG w base v l)(hk:Keeps S w w')(ho:Off S w T)(h0:296∉T)(h1:9∉T):eG w' base v l:=by
 obtain⟨xs,e,ha,hb⟩:=h;exact⟨xs,e,a8 ha hk ho h0,fun x hx=>a8 (hb x hx) hk ho h1⟩
structure WQ(base:Nat)(w:World)(V:uk)(p:Po):Prop where
 g:eG w base V.g p.groups
 t:eG w base V.t p.tags
 h:w.ownsRow base 300 5 V.h p.hosts.length (eF p.hosts)
 a:gu w base V.a p.kt
theorem Pm.rows{base P:Nat}{w:World}{uv:Value}{V:uk}{dA:oV}(m:Pm base w P uv V dA):WQ base w V dA.p:=⟨m.g,m.t,m.h,m.a⟩
theorem WQ.below{base:Nat}{w w':World}{V:uk}{p:Po}(m:WQ base w V p)(hb:Below w.heap.size w w'):WQ base w' V p:=⟨m.g.below hb,m.t.below hb,own_below m.h hb,m.a.below hb⟩
theorem WQ.off{S:Nat→Prop}{T:List TypeId}{base:Nat}{w w':World}{V:uk}{p:Po}(m:WQ base w V p)(hk:Keeps S w w')(ho:Off S w T)(h0:296∉T)(h1:9∉T)(h2:300∉T)(h3:306∉T)(h4:5∉T)(h5:245∉T)(h6:342∉T):WQ base w' V p:=⟨m.g.off hk ho h0 h1,m.t.off hk ho h0 h1,a8 m.h hk ho h2,m.a.off hk ho h3 h4 h5 h6⟩
theorem WQ.rd{base:Nat}{w:World}{V:uk}{p:Po}(m:WQ base w V p):tP w V p:=⟨m.g.rd,m.t.rd,aV.dm m.h,m.a.rd⟩
theorem Pm.below{base P:Nat}{w w':World}{uv:Value}{V:uk}{dA:oV}(m:Pm base w P uv V dA)(hb:Below w.heap.size w w'):Pm base w' P uv V dA:=⟨m.blk.below hb m.blk.lt,m.g.below hb,m.t.below hb,own_below m.h hb,m.a.below hb,m.u.below hb,m.sep,m.gl,m.tl,m.hl,m.al,m.ul⟩
theorem Pm.reader{S:Nat→Prop}{base P:Nat}{w w':World}{uv:Value}{V:uk}{dA:oV}(m:Pm base w P uv V dA)(hk:Keeps S w w')(ho:Off S w [235]):Pm base w' P uv V dA:=⟨m.blk.off hk ho aI,m.g.off hk ho aI aI,m.t.off hk ho aI aI,a8 m.h hk ho aI,m.a.off hk ho aI aI aI aI,m.u.off hk ho aI,m.sep,m.gl,m.tl,m.hl,m.al,m.ul⟩
theorem Pm.nil{base P:Nat}{w:World}(h:aG w P 190 #[.slice none 0 0,.slice none 0 0,.slice none 0 0,.slice none 0 0]):Pm base w P (.slice none 0 0) ⟨.slice none 0 0,.slice none 0 0,.slice none 0 0,.slice none 0 0⟩ ⟨Po.zero,[]⟩:=⟨h,eG.nil _ _,eG.nil _ _,World.ownsRow_nil _ _ _ _,gu.nil _ _,ez.nil _ _,fun x hx=>(by cases hx),by decide,by decide,by decide,by decide,by decide⟩
theorem G6:∀(l:List (Us×ByteArray))(k:Nat)(x:Us×ByteArray),l[k]? =some x→(fu l)[k*9]? =some (.int .u8 (x.1.1.kind:Int))∧(fu l)[k*9+1]? =some (.string x.1.1.name)∧(fu l)[k*9+2]? =some (.bool x.1.1.net.a.v6)∧(fu l)[k*9+3]? =some (.int .u64 (x.1.1.net.a.hi:Int))∧(fu l)[k*9+4]? =some (.int .u64 (x.1.1.net.a.lo:Int))∧(fu l)[k*9+5]? =some (.int .u8 (x.1.1.net.bits:Int))∧(fu l)[k*9+6]? =some (.string x.2)∧(fu l)[k*9+7]? =some (.int .i64 (x.1.2.1:Int))∧(fu l)[k*9+8]? =some (.int .i64 (x.1.2.2:Int)):=by
 intro l
 induction l with
 |nil=>intro k x h;cases h
 |cons y r ih=>
  intro k x h;cases k with
  |zero=>injection h with h;subst h;exact⟨rfl,rfl,rfl,rfl,rfl,rfl,rfl,rfl,rfl⟩
  |succ k=>
   rw[show(k+1)*9=k*9+1+1+1+1+1+1+1+1+1 by omega];exact ih k x h
theorem qu{w:World}{m clock c b:Nat}(h:ek w m (Dx c b) clock):(Instr.lookup 239 (.map (some m)) (.string eU) true).run ai w=.ok (.tuple #[.func (.func 244) #[] #[.pointer (some ⟨c,0,none⟩)],.bool true]) w∧(Instr.lookup 239 (.map (some m)) (.string jG) true).run ai w=.ok (.tuple #[.func (.func 246) #[] #[.pointer (some ⟨c,0,none⟩)],.bool true]) w∧(Instr.lookup 239 (.map (some m)) (.string ib) true).run ai w=.ok (.tuple #[.func (.func 247) #[.pointer (some ⟨b,0,none⟩)] #[],.bool true]) w∧(Instr.lookup 239 (.map (some m)) (.string iG) true).run ai w=.ok (.tuple #[.func (.func 248) #[.pointer (some ⟨b,0,none⟩)] #[],.bool true]) w:=by
 have hT:=Tryz.underlying239;have hK:=bL;exact⟨jj hT hK h eU (j:=0) (by rfl) rfl,jj hT hK h jG (j:=1) (by rfl) rfl,jj hT hK h ib (j:=2) (by rfl) rfl,jj hT hK h iG (j:=3) (by rfl) rfl⟩
theorem QZ{w:World}{m clock c b:Nat}(h:ek w m (Dx c b) clock){x:ByteArray}(h1:x≠eU)(h2:x≠jG)(h3:x≠ib)(h4:x≠iG):(Instr.lookup 239 (.map (some m)) (.string x) true).run ai w=.ok (.tuple #[.nilFunc,.bool false]) w:=by
 refine pB Tryz.underlying239 bL h x ?_ bJ;unfold at_ Dx;simp only[List.findIdx?_cons,List.findIdx?_nil];rw[cS (Ne.symm h1),cS (Ne.symm h2),cS (Ne.symm h3),cS (Ne.symm h4)];rfl
end Go.Proofs.YtdfnhljccdoncaaGreatDoor
