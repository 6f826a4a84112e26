/- Joined out of: PlQ PxB PxD PxE PxF PxJ PxK PlR PlS PlT PlU. -/
import Derived.Test.YteflnojjjdkgmaaGreatDoorNaj
import Derived.Recover
set_option linter.unusedVariables false
set_option linter.unusedSimpArgs false
set_option maxHeartbeats 16000000
set_option maxRecDepth 100000
open Go.ByteArray renaming toList_eq→bO
open Go.Lib renaming hid→ae
open Go.Proofs.Tryz renaming prog→ag,underlying9→aZ
open Go.RowKit renaming Hid→af
open List renaming length_append→ai,length_map→ax
open Nat renaming le_refl→aw
namespace Go.Proofs.YteflnojjjdkgmaaGreatDoor
open Go.RowKit
attribute [local go_sem↓] Go.wp_at_zero Go.wp_at_succ
theorem aW.empty(w:World)(size:Nat):aW w (.slice none 0 0) 0 size []:=⟨none,0,rfl,by simp,fun h=>absurd h aF⟩
theorem aW.shape{w:World}{v:Value}{n size:Nat}{xs:List Value}(h:aW w v n size xs):∃A cap,v=.slice A n cap:=by
 obtain⟨A,cap,e,_⟩:=h;exact⟨A,cap,e⟩
def qn(w:World)(v:Value)(l:List Nm):Prop:=∃xs:List (Nm×Value),xs.map (·.1)=l∧aW w v l.length 2 (fN (xs.map rq))∧∀x∈xs,aW w x.2 x.1.list.length 1 (strCells x.1.list)
theorem eD.rd{w:World}{base:Nat}{v:Value}{l:List Nm}(h:eD w base v l):qn w v l:=by
 obtain⟨xs,h1,h2,h3⟩:=h;exact⟨xs,h1,aW.dn h2,fun x hx=>aW.dn (h3 x hx)⟩
theorem qn.below{w w':World}{v:Value}{l:List Nm}(h:qn w v l)(hb:Below w.heap.size w w'):qn w' v l:=by
 obtain⟨xs,h1,h2,h3⟩:=h;exact⟨xs,h1,h2.below hb,fun x hx=>(h3 x hx).below hb⟩
theorem qn.has{w:World}{v:Value}{l:List Nm}(h:qn w v l)(s:ByteArray):∃ys:List (ByteArray×Value),ys.length=l.length∧aW w v ys.length 2 (fN ys)∧(ys.any fun x=>decide (x.1=s))=pg l s:=by
 obtain⟨xs,rfl,h2,h3⟩:=h;refine⟨xs.map rq,by simp,?_,?_⟩
 ·simpa using h2
 ·unfold pg;rw[List.any_map,List.any_map];rfl
structure CO(w:World)(x:Uy):Prop where
 p:aW w x.p x.a.gu.length 1 (dQ x.a.gu)
 s:aW w x.s x.a.src.length 6 (fG x.a.src)
 d:aW w x.d x.a.dst.length 6 (fG x.a.dst)
 o:aW w x.o x.a.iz.length 2 (gG x.a.iz)
def xd(w:World)(v:Value)(l:List Ac):Prop:=∃xs:List Uy,xs.map (·.a)=l∧aW w v l.length 4 (lR xs)∧∀x∈xs,CO w x
theorem oR.rd{w:World}{base:Nat}{x:Uy}(h:oR w base x):CO w x:=⟨aW.dn h.p,aW.dn h.s,aW.dn h.d,aW.dn h.o⟩
theorem fV.rd{w:World}{base:Nat}{v:Value}{l:List Ac}(h:fV w base v l):xd w v l:=by
 obtain⟨xs,h1,h2,h3⟩:=h;exact⟨xs,h1,aW.dn h2,fun x hx=>(h3 x hx).rd⟩
theorem CO.below{w w':World}{x:Uy}(h:CO w x)(hb:Below w.heap.size w w'):CO w' x:=⟨h.p.below hb,h.s.below hb,h.d.below hb,h.o.below hb⟩
theorem xd.below{w w':World}{v:Value}{l:List Ac}(h:xd w v l)(hb:Below w.heap.size w w'):xd w' v l:=by
 obtain⟨xs,h1,h2,h3⟩:=h;exact⟨xs,h1,h2.below hb,fun x hx=>(h3 x hx).below hb⟩
structure tN where
 g:Value
 t:Value
 h:Value
 a:Value
def tN.cells(V:tN):Array Value:= #[V.g,V.t,V.h,V.a]
structure tq(w:World)(V:tN)(p:Po):Prop where
 g:qn w V.g p.groups
 t:qn w V.t p.tags
 h:aW w V.h p.hosts.length 5 (eC p.hosts)
 a:xd w V.a p.j7
theorem tq.below{w w':World}{V:tN}{p:Po}(h:tq w V p)(hb:Below w.heap.size w w'):tq w' V p:=⟨h.g.below hb,h.t.below hb,h.h.below hb,h.a.below hb⟩
theorem qn.shape{w:World}{v:Value}{l:List Nm}(h:qn w v l):∃A cap,v=.slice A l.length cap:=by
 obtain⟨xs,_,h2,_⟩:=h;exact h2.shape
theorem xd.shape{w:World}{v:Value}{l:List Ac}(h:xd w v l):∃A cap,v=.slice A l.length cap:=by
 obtain⟨xs,_,h2,_⟩:=h;exact h2.shape
theorem LH{w:World}{V:tN}{p:Po}(h:tq w V p)(hg:p.groups.length≤4000000)(ht:p.tags.length≤4000000)(hh:p.hosts.length≤4000000)(s:jm):Calls ag 178 #[.agg #[V.g,V.t,V.h,V.a],.agg #[.int .u8 (s.kind:Int),.string s.name,.bool s.net.a.v6,.int .u64 (s.net.a.hi:Int),.int .u64 (s.net.a.lo:Int),.int .u8 (s.net.bits:Int)]] w (Got (.bool (fW p s)) w):=by
 obtain⟨k,nm,⟨⟨v6,hi,lo⟩,bits⟩⟩:=s;obtain⟨gv,tv,hv,av⟩:=V;simp only;have b1:=boxed w (.cells #[gv,tv,hv,av] 179);have b2:=boxed (w.alloc (.cells #[gv,tv,hv,av] 179)) (.cells #[.int .u8 k,.string nm,.bool v6,.int .u64 hi,.int .u64 lo,.int .u8 bits] 245);have B1:=aD.new w 179 #[gv,tv,hv,av];have B2:=aD.new (w.alloc (.cells #[gv,tv,hv,av] 179)) 245 #[.int .u8 k,.string nm,.bool v6,.int .u64 hi,.int .u64 lo,.int .u8 bits];have B3:=B1.below b2 B1.lt;have H2:=h.below (after b1 b2);have HD:=ae (after b1 b2);obtain⟨G,hG,rg,hga⟩:=H2.g.has nm;obtain⟨T,hT,rt,hta⟩:=H2.t.has nm;have cg:=yX G aM gv rg nm;have ct:=yX T aM tv rt nm;have ch:=sB p.hosts hh hv H2.h nm;obtain⟨Ag,cg1,eg⟩:=rg.shape;obtain⟨At,ct1,et⟩:=rt.shape;obtain⟨Ah,ch1,eh⟩:=H2.h.shape;obtain⟨Aa,ca1,ea⟩:=H2.a.shape;simp only at eg et eh ea;subst eg et eh ea;rw[hga]at cg;rw[hta]at ct;rw[show(p.hosts.any fun x=>decide (x.name=nm))=wO p.hosts nm from rfl]at ch;have hkn:fW p ⟨k,nm,⟨⟨v6,hi,lo⟩,bits⟩⟩=if k=3 then pg p.groups nm else if k=4 then pg p.tags nm else if k=5 then wO p.hosts nm else true:=rfl
 rw[hkn];generalize pg p.groups nm=RG at cg⊢;generalize pg p.tags nm=RT at ct⊢;generalize wO p.hosts nm=RH at ch⊢;generalize G.length=lg at*;generalize T.length=lt at*;have x0:=B3.cell 0;have x1:=B3.cell 1;have x2:=B3.cell 2;have y0:=B2.cell 0;have y1:=B2.cell 1;simp at x0 x1 x2 y0 y1;obtain⟨HG,HT,HH⟩:=bj cg ct ch;clear hkn h b1 b2 B1 B2 B3 H2 hga hta rg rt cg ct ch hG hT hg ht hh;by_cases k3:k=3
 ·rw[if_pos k3];have e3:((k:Int)==3)=true:=by simp;omega
  clear k3;go_enter Tryz.func178,Tryz.ntmps178;go_wp2_with(go_at_call 227;(with_reducible refine HG.out.mono ?_);rintro r w2⟨rfl,d2⟩)
  go_ret;exact⟨rfl,after HD.out d2⟩
 rw[if_neg k3];have q3:((k:Int)==3)=false:=by simp;omega
 by_cases k4:k=4
 ·rw[if_pos k4];have e4:((k:Int)==4)=true:=by simp;omega
  clear k4;clear k3;go_enter Tryz.func178,Tryz.ntmps178;go_wp2_with(go_at_call 227;(with_reducible refine HT.out.mono ?_);rintro r w2⟨rfl,d2⟩)
  go_ret;exact⟨rfl,after HD.out d2⟩
 rw[if_neg k4];have q4:((k:Int)==4)=false:=by simp;omega
 by_cases k5:k=5
 ·rw[if_pos k5];have e5:((k:Int)==5)=true:=by simp;omega
  clear k5;clear k3 k4;go_enter Tryz.func178,Tryz.ntmps178;go_wp2_with(go_at_call 228;(with_reducible refine HH.out.mono ?_);rintro r w2⟨rfl,d2⟩)
  go_ret;exact⟨rfl,after HD.out d2⟩
 rw[if_neg k5];have q5:((k:Int)==5)=false:=by simp;omega
 clear k3 k4 k5;go_enter Tryz.func178,Tryz.ntmps178;go_wp2_with fail
 go_ret;exact⟨rfl,HD.out⟩
structure Qn(n:Nm):Prop where
 name:n.name.size≤2000000
 len:n.list.length≤2000000
 all:∀s∈n.list,s.size≤2000000
theorem CP{l:List ByteArray}{k:Nat}{s:ByteArray}(h:l[k]? =some s):(strCells l)[k]? =some (.string s):=by
 unfold strCells;rw[List.getElem?_map,h];rfl
theorem aW.cell{w w':World}{A:Option Addr}{n cap size:Nat}{xs:List Value}(h:aW w (.slice A n cap) n size xs)(hb:Below w.heap.size w w')(hn:0<n):∃g o,A=some ⟨g,o,none⟩∧∀j u,xs[j]? =some u→w'.cell? ⟨g,o+j,none⟩=some u:=by
 obtain⟨A',cap',e,_,hA⟩:=h;injection e with e1 _ e2
 subst e1;obtain⟨g,o,ha,hc⟩:=hA hn;exact⟨g,o,ha,fun j u hu=>(hb.cell (World.block_lt_of_cell? w _ (hc j u hu))).trans (hc j u hu)⟩
structure Gi(s:jm):Prop where
 ok:s.net.Ok
 kind:s.kind<256
 name:s.name.size≤1900000
theorem ZY{a b:ByteArray}(h:a.toList=b.toList):a=b:=by
 rw[bO,bO]at h;exact ByteArray.ext (Array.ext' h)
structure ab8(a:Ac):Prop where
 src:∀s∈a.src,Gi s
 dst:∀s∈a.dst,Gi s
 pl:a.gu.length≤2000000
 sl:a.src.length≤2000000
 dl:a.dst.length≤2000000
 ol:a.iz.length≤2000000
 pb:∀x∈a.gu,x<256
 ob:∀x∈a.iz,x.1<65536∧x.2<65536
structure ab9(p:Po):Prop where
 g:∀n∈p.groups,Qn n
 t:∀n∈p.tags,Qn n
 h:∀x∈p.hosts,x.name.size≤2000000∧x.net.Ok
 a:∀x∈p.j7,ab8 x
 gl:p.groups.length≤2000000
 tl:p.tags.length≤2000000
 hl:p.hosts.length≤2000000
 al:p.j7.length≤2000000
structure zt(l:List (List UInt8)):Prop where
 len:l.length≤300
 all:∀w∈l,w.length≤2000010
theorem join_le:∀(l:List (List UInt8))(m:Nat),(∀w∈l,w.length≤m)→(Lib.join l [32]).length≤l.length*(m+1):=by
 intro l m
 induction l with
 |nil=>intro _;exact Nat.zero_le _
 |cons a r ih=>
  intro h;have ha:=h a (by simp);cases r with
  |nil=>rw[Lib.join_one];simp;omega
  |cons b r=>
   have:=ih (fun w hw=>h w (by simp[hw]));rw[ET];simp only[ai,List.length_cons,List.length_nil]at this⊢;rw[Nat.succ_mul (r.length+1)];omega
theorem zt.join{l:List (List UInt8)}(h:zt l):(Lib.join l [32]).length≤700000000:=by
 have h1:=join_le l 2000010 h.all;have h2:=Nat.mul_le_mul_right (2000010+1) h.len;omega
theorem zt.line{l:List (List UInt8)}(h:zt l):(Yl l).length≤700000001:=by
 have:=h.join;unfold Yl;simp;exact this
theorem zu(l:List Nat)(h1:l.all (fun x=>decide (x=1)||decide (x=6)||decide (x=17))=true)(h2:rising 0 l=true):l.length≤3:=by
 match l,h1,h2 with
 |[],_,_=>decide
 |[_],_,_=>simp
 |[_,_],_,_=>simp
 |[_,_,_],_,_=>simp
 |a::b::c::d::r,h1,h2=>
  exfalso;simp only[List.all_cons,rising,Bool.and_eq_true,Bool.or_eq_true,decide_eq_true_eq]at h1 h2;omega
theorem addr_add(g o j:Nat):(⟨g,o,none⟩:Addr).add j=⟨g,o+j,none⟩:=by
 unfold Addr.add;split
 ·rename_i h;subst h;rfl
 ·rfl
abbrev pAt(b:Nat):Value:=.pointer (some ⟨b,0,none⟩)
def CQ(c b:Nat):List SE:=[⟨eG,.func (.func 221) #[] #[pAt c],0⟩,⟨ju,.func (.func 223) #[] #[pAt c],1⟩,⟨gx,.func (.func 224) #[pAt b] #[],2⟩,⟨gX,.func (.func 225) #[pAt b] #[],3⟩]
theorem LI(w0:World)(c b:Nat):∃w1 w2 w3 w4:World,(Instr.mapUpdate 239 (.map (some w0.heap.size)) (.string ⟨#[103,114,111,117,112]⟩) (.func (.func 221) #[] #[.pointer (some ⟨c,0,none⟩)])).run ag (w0.alloc (.map #[] 0))=.ok () w1∧(Instr.mapUpdate 239 (.map (some w0.heap.size)) (.string ⟨#[116,97,103]⟩) (.func (.func 223) #[] #[.pointer (some ⟨c,0,none⟩)])).run ag w1=.ok () w2∧(Instr.mapUpdate 239 (.map (some w0.heap.size)) (.string ⟨#[104,111,115,116]⟩) (.func (.func 224) #[.pointer (some ⟨b,0,none⟩)] #[])).run ag w2=.ok () w3∧(Instr.mapUpdate 239 (.map (some w0.heap.size)) (.string ⟨#[97,99,99,101,112,116]⟩) (.func (.func 225) #[.pointer (some ⟨b,0,none⟩)] #[])).run ag w3=.ok () w4∧ed w4 w0.heap.size (CQ c b) 4∧Below w0.heap.size w0 w2∧Below w0.heap.size w0 w3∧Below w0.heap.size w0 w4:=by
 have hT:=Tryz.underlying239;have hK:=aZ;have h0:ed (w0.alloc (.map #[] 0)) w0.heap.size [] 0:=heap_alloc_new w0 _;obtain⟨w1,e1,_,_,k1,m1⟩:=ez (P:=ag) hT hK h0 ⟨#[103,114,111,117,112]⟩ (by decide+kernel) (.func (.func 221) #[] #[.pointer (some ⟨c,0,none⟩)]);obtain⟨w2,e2,_,_,k2,m2⟩:=ez (P:=ag) hT hK m1 ⟨#[116,97,103]⟩ (by rfl) (.func (.func 223) #[] #[.pointer (some ⟨c,0,none⟩)]);obtain⟨w3,e3,_,_,k3,m3⟩:=ez (P:=ag) hT hK m2 ⟨#[104,111,115,116]⟩ (by rfl) (.func (.func 224) #[.pointer (some ⟨b,0,none⟩)] #[]);obtain⟨w4,e4,_,_,k4,m4⟩:=ez (P:=ag) hT hK m3 ⟨#[97,99,99,101,112,116]⟩ (by rfl) (.func (.func 225) #[.pointer (some ⟨b,0,none⟩)] #[]);refine⟨w1,w2,w3,w4,e1,e2,e3,e4,m4,?_,?_,?_⟩
 ·exact(boxed w0 _).trans (Keeps.below (k1.trans k2) (fun k hk=>by rw[hk];exact aw _) (by simp))
 ·exact(boxed w0 _).trans (Keeps.below ((k1.trans k2).trans k3) (fun k hk=>by rw[hk];exact aw _) (by simp))
 ·exact(boxed w0 _).trans (Keeps.below (((k1.trans k2).trans k3).trans k4) (fun k hk=>by rw[hk];exact aw _) (by simp))
theorem nu(w:World)(b:Nat):Calls ag 175 #[.pointer (some ⟨b,0,none⟩)] w fun r w'=>(∃m c,r=.returned (.map (some m))∧ed w' m (CQ c b) 4∧aD w' c 230 #[.pointer (some ⟨b,0,none⟩)]∧w.heap.size≤m∧w.heap.size≤c)∧Below w.heap.size w w':=by
 have hB:=aD.new w 230 #[.pointer (some ⟨b,0,none⟩)];have hb0:=boxed w (.cells #[.pointer (some ⟨b,0,none⟩)] 230);obtain⟨w1,w2,w3,w4,e1,e2,e3,e4,hM,g2,g3,g4⟩:=LI (w.alloc (.cells #[.pointer (some ⟨b,0,none⟩)] 230)) w.heap.size b;have hmm:= @run_makeMap ag;have hmf:∀(fn:Fn)(first cap:Array Value)(w:World),(Instr.makeFunc fn first cap).run ag w=.ok (.func fn first cap) w:=fun _ _ _ _=>rfl
 have c2:=(hB.below g2 hB.lt).cell 0;have c3:=(hB.below g3 hB.lt).cell 0;simp at c2 c3;obtain⟨HB4,Hb4,HM⟩:=bj (hB.below g4 hB.lt) (after hb0 g4) hM;rw[show(w.alloc (.cells #[.pointer (some ⟨b,0,none⟩)] 230)).heap.size=w.heap.size+1 by simp]at e1 e2 e3 e4 HM;clear hM g2 g3 g4 hb0 hB;go_enter Tryz.func175,Tryz.ntmps175;go_wp2_with fail
 go_ret;exact⟨⟨_,_,rfl,HM.out,HB4.out,by omega,aw _⟩,Hb4.out⟩
def TyS(w:World)(T:List TypeId)(k:Nat):Prop:=∃cur e fz,w.heap[k]? =some (.cells cur e fz)∧e∈T
def LT:List TypeId:=[235,179,332,334,340,249]
def bT(base:Nat)(w w':World):Prop:=Keeps (fun k=>base≤k∧TyS w LT k) w w'
theorem bT.of{S:Nat→Prop}{base:Nat}{w w':World}{T:List TypeId}(hk:Keeps S w w')(hS:∀k,S k→base≤k)(ho:Off S w T)(hT:∀e∈T,e∈LT):bT base w w':=hk.mono fun k _ hs=>⟨hS k hs,by obtain⟨cur,e,fz,h1,h2⟩:=ho k hs;exact⟨cur,e,fz,h1,hT e h2⟩⟩
theorem bT.off{base:Nat}{w:World}:Off (fun k=>base≤k∧TyS w LT k) w LT:=fun _ hk=>hk.2
theorem bT.below{base:Nat}{w w':World}(h:bT base w w')(hb:base≤w.heap.size):Below base w w':=Keeps.below h (fun _ hk=>hk.1) hb
structure Pm(base:Nat)(w:World)(P:Nat)(uv:Value)(V:tN)(dx:oO):Prop where
 blk:aD w P 179 #[V.g,V.t,V.h,V.a]
 g:eD w base V.g dx.p.groups
 t:eD w base V.t dx.p.tags
 h:w.ownsRow base 334 5 V.h dx.p.hosts.length (eC dx.p.hosts)
 a:fV w base V.a dx.p.j7
 u:ep w base uv dx.used
 sep:∀x,V.g.ownBlock=some x→V.t.ownBlock=some x→False
 gl:dx.p.groups.length≤64
 tl:dx.p.tags.length≤64
 hl:dx.p.hosts.length≤64
 al:dx.p.j7.length≤64
 ul:dx.used.length≤128*dx.p.j7.length
theorem uX(w:World):Below w.heap.size w w.drew:=⟨rfl,rfl,rfl,aw _,fun _ _=>rfl⟩
theorem Pm.drew{base P:Nat}{w:World}{uv:Value}{V:tN}{dx:oO}(h:Pm base w P uv V dx):Pm base w.drew P uv V dx:=⟨h.blk,h.g,h.t,h.h,h.a.below (uX w),h.u,h.sep,h.gl,h.tl,h.hl,h.al,h.ul⟩
theorem Rs.drew{w:World}{b P k n:Nat}{lv uv:Value}{ws:List ByteArray}(h:Rs w b P k n lv uv ws):Rs w.drew b P k n lv uv ws:=⟨h.blk,h.row,h.ne,h.len,h.sizes⟩
theorem Env.drew{w:World}(h:Env w):Env w.drew:=h.below (uX w)
theorem bT.eJ{base:Nat}{w w':World}(h:bT base w.drew w'):bT base w w':=⟨h.os,h.tape,h.output,h.size,h.block⟩
def rA(base:Nat)(b P n:Nat)(lv:Value)(ws:List ByteArray)(w':World)(rB:oO)(r:Ending):Prop:=r=.returned (.tuple #[])∧∃k' uv' V',Rs w' b P k' n lv uv' ws∧Pm base w' P uv' V' rB
theorem eu.map{α β:Type}{o:Except Bad α}{f:α→β}{n:Nat}{ok:β→Ending→Prop}{r:Ending}(h:eu o n (fun x r=>ok (f x) r) r):eu (o.map f) n ok r:=by
 cases o with
 |error e=>exact h
 |ok x=>exact h
def lW{α:Type}(w':World)(P:Nat)(o:Except Bad α):Prop:=∀e,o=.error e→∃p0 p1 p2 p3,aD w' P 179 #[p0,p1,p2,p3]
theorem lW.map{α β:Type}{o:Except Bad α}{f:α→β}{w':World}{P:Nat}(h:lW w' P o):lW w' P (o.map f):=by
 intro e he;cases o with
 |error e'=>exact h e' rfl
 |ok x=>cases he
theorem eu.mono{α:Type}{o:Except Bad α}{n:Nat}{ok ok':α→Ending→Prop}{r:Ending}(h:eu o n ok r)(hm:∀x,o=.ok x→ok x r→ok' x r):eu o n ok' r:=by
 cases o with
 |error e=>exact h
 |ok x=>exact hm x rfl h
theorem jN{ws:List ByteArray}{x:ByteArray}(h:ws[0]? =some x):∃r,ws=x::r:=by
 cases ws with
 |nil=>cases h
 |cons y r=>injection h with h;exact⟨r,by rw[h]⟩
theorem Gj{ws:List ByteArray}(dx:oO)(n:Nat)(h:ws[0]? =some eG):eB dx n ws=(kz ws dx.p.groups).map fun x=>{dx with p:={dx.p with groups:=dx.p.groups++[x]}}:=by
 obtain⟨r,rfl⟩:=jN h;unfold eB;dsimp only;rw[if_pos rfl]
theorem Qo{ws:List ByteArray}(dx:oO)(n:Nat)(h:ws[0]? =some ju):eB dx n ws=(kz ws dx.p.tags).map fun x=>{dx with p:={dx.p with tags:=dx.p.tags++[x]}}:=by
 obtain⟨r,rfl⟩:=jN h;unfold eB;dsimp only;rw[if_neg (by decide+kernel),if_pos rfl]
theorem LJ{ws:List ByteArray}(dx:oO)(n:Nat)(h:ws[0]? =some gx):eB dx n ws=(sg ws dx.p.hosts).map fun x=>{dx with p:={dx.p with hosts:=dx.p.hosts++[x]}}:=by
 obtain⟨r,rfl⟩:=jN h;unfold eB;dsimp only;rw[if_neg (by decide+kernel),if_neg (by decide+kernel),if_pos rfl]
theorem CS{ws:List ByteArray}(dx:oO)(n:Nat)(h:ws[0]? =some gX):eB dx n ws=(ki ws dx.p.j7.length).map fun x=>{p:={dx.p with j7:=dx.p.j7++[x.1]},used:=dx.used++x.2.map fun y=>(y.1,n,y.2)}:=by
 obtain⟨r,rfl⟩:=jN h;unfold eB;dsimp only;rw[if_neg (by decide+kernel),if_neg (by decide+kernel),if_neg (by decide+kernel),if_pos rfl]
theorem LK{ws:List ByteArray}{x:ByteArray}(dx:oO)(n:Nat)(h:ws[0]? =some x)(h1:x≠eG)(h2:x≠ju)(h3:x≠gx)(h4:x≠gX):eB dx n ws=.error (190,0):=by
 obtain⟨r,rfl⟩:=jN h;unfold eB;dsimp only;rw[if_neg h1,if_neg h2,if_neg h3,if_neg h4]
theorem rC{w:World}{base size n:Nat}{e:TypeId}{v:Value}{xs:List Value}{g:Nat}(h:w.ownsRow base e size v n xs)(hg:v.ownBlock=some g):base≤g∧g<w.heap.size∧∃cur fz,w.heap[g]? =some (.cells cur e fz):=by
 obtain⟨cur,e2,fz,h1,h2⟩:=bS h g hg;rw[List.mem_singleton.1 h2]at h1;exact⟨(h.lt g hg).1,(h.lt g hg).2,cur,fz,h1⟩
theorem eD.own{w:World}{base:Nat}{v:Value}{l:List Nm}(h:eD w base v l){g:Nat}(hg:v.ownBlock=some g):base≤g∧g<w.heap.size∧∃cur fz,w.heap[g]? =some (.cells cur 332 fz):=by
 obtain⟨xs,_,ho,_⟩:=h;exact rC ho hg
theorem fV.own{w:World}{base:Nat}{v:Value}{l:List Ac}(h:fV w base v l){g:Nat}(hg:v.ownBlock=some g):base≤g∧g<w.heap.size∧∃cur fz,w.heap[g]? =some (.cells cur 340 fz):=by
 obtain⟨xs,_,ho,_⟩:=h;exact rC ho hg
theorem ep.own{w:World}{base:Nat}{v:Value}{l:List Us}(h:ep w base v l){g:Nat}(hg:v.ownBlock=some g):base≤g∧g<w.heap.size∧∃cur fz,w.heap[g]? =some (.cells cur 249 fz):=by
 obtain⟨xs,_,ho⟩:=h;exact rC ho hg
theorem lX{w:World}{g b:Nat}{cur cs:Array Value}{e t:TypeId}{fz:Nat×Nat}(h:w.heap[g]? =some (.cells cur e fz))(hb:aD w b t cs)(hne:e≠t):g≠b:=by
 rintro rfl;unfold aD at hb;rw[h]at hb;injection hb with hb
 injection hb with _ h2 _
 exact hne h2
theorem CU{w0 w:World}{b P n:Nat}{lv uv:Value}{ws:List ByteArray}{V:tN}{dx:oO}(hE:Below w0.heap.size w0 w)(hbb:w0.heap.size≤b)(zv:w0.heap.size≤P)(h:Rs w b P 1 n lv uv ws)(m:Pm w0.heap.size w P uv V dx)(hw:ws[0]? =some eG):Calls ag 222 #[.pointer (some ⟨b,0,none⟩),.pointer (some ⟨P,0,none⟩)] w fun r w'=>bT w0.heap.size w w'∧eu (eB dx n ws) n (rA w0.heap.size b P n lv ws w') r∧lW w' P (eB dx n ws):=by
 rw[Gj dx n hw];have of:Off (fun k=>k=b∨k=P∨V.g.ownBlock=some k) w [235,179,332]:=by
  rintro k(e|e|e)
  ·exact⟨_,_,_,by subst e;exact h.blk,by simp⟩
  ·exact⟨_,_,_,by subst e;exact m.blk,by simp⟩
  ·obtain⟨_,_,cur,fz,h1⟩:=m.g.own e;exact⟨cur,_,fz,h1,by simp⟩
 have hPb:P≠b:=m.blk.wH h.blk aF;refine(xZ (q:=0) h m.blk rfl m.g hE.size).mono fun r w' hh=>have hk:=(hh.line (fun k hk=>Or.inl hk)).1;have hl:=(hh.line (fun k hk=>Or.inl hk)).2;⟨bT.of hk ?_ of aF,eu.map (hl.mono fun x hx⟨h1,k',lst',R,B,NR,fr⟩=>⟨h1,k',uv,⟨lst',V.t,V.h,V.a⟩,R,⟨B,NR,?_,aX m.h hk of aF,m.a.off hk of aF aF aF aF,m.u.off hk of aF,?_,?_,m.tl,m.hl,m.al,m.ul⟩⟩),lW.map fun e he=>⟨_,_,_,_,m.blk.keep (hh.err e he) (hPb)⟩⟩
 ·rintro k(e|e|e)
  ·omega
  ·omega
  ·exact(m.g.own e).1
 ·refine m.t.keep hk of aF ?_;rintro g hg(e|e|e)
  ·obtain⟨_,_,cur,fz,h1⟩:=m.t.own hg;exact lX h1 h.blk aF e
  ·obtain⟨_,_,cur,fz,h1⟩:=m.t.own hg;exact lX h1 m.blk aF e
  ·exact m.sep g e hg
 ·intro g hg ht;rcases fr g hg with e|e
  ·exact m.sep g e ht
  ·have:=(m.t.own ht).2.1;omega
 ·have:=(sj hx).2.1;show(dx.p.groups++[x]).length≤64;rw[ai];simp;omega
theorem LM{w0 w:World}{b P n:Nat}{lv uv:Value}{ws:List ByteArray}{V:tN}{dx:oO}(hE:Below w0.heap.size w0 w)(hbb:w0.heap.size≤b)(zv:w0.heap.size≤P)(h:Rs w b P 1 n lv uv ws)(m:Pm w0.heap.size w P uv V dx)(hw:ws[0]? =some ju):Calls ag 222 #[.pointer (some ⟨b,0,none⟩),.pointer (some ⟨P,1,none⟩)] w fun r w'=>bT w0.heap.size w w'∧eu (eB dx n ws) n (rA w0.heap.size b P n lv ws w') r∧lW w' P (eB dx n ws):=by
 rw[Qo dx n hw];have of:Off (fun k=>k=b∨k=P∨V.t.ownBlock=some k) w [235,179,332]:=by
  rintro k(e|e|e)
  ·exact⟨_,_,_,by subst e;exact h.blk,by simp⟩
  ·exact⟨_,_,_,by subst e;exact m.blk,by simp⟩
  ·obtain⟨_,_,cur,fz,h1⟩:=m.t.own e;exact⟨cur,_,fz,h1,by simp⟩
 have hPb:P≠b:=m.blk.wH h.blk aF;refine(xZ (q:=1) h m.blk rfl m.t hE.size).mono fun r w' hh=>have hk:=(hh.line (fun k hk=>Or.inl hk)).1;have hl:=(hh.line (fun k hk=>Or.inl hk)).2;⟨bT.of hk ?_ of aF,eu.map (hl.mono fun x hx⟨h1,k',lst',R,B,NR,fr⟩=>⟨h1,k',uv,⟨V.g,lst',V.h,V.a⟩,R,⟨B,?_,NR,aX m.h hk of aF,m.a.off hk of aF aF aF aF,m.u.off hk of aF,?_,m.gl,?_,m.hl,m.al,m.ul⟩⟩),lW.map fun e he=>⟨_,_,_,_,m.blk.keep (hh.err e he) (hPb)⟩⟩
 ·rintro k(e|e|e)
  ·omega
  ·omega
  ·exact(m.t.own e).1
 ·refine m.g.keep hk of aF ?_;rintro g hg(e|e|e)
  ·obtain⟨_,_,cur,fz,h1⟩:=m.g.own hg;exact lX h1 h.blk aF e
  ·obtain⟨_,_,cur,fz,h1⟩:=m.g.own hg;exact lX h1 m.blk aF e
  ·exact m.sep g hg e
 ·intro g hg ht;rcases fr g ht with e|e
  ·exact m.sep g hg e
  ·have:=(m.g.own hg).2.1;omega
 ·have:=(sj hx).2.1;show(dx.p.tags++[x]).length≤64;rw[ai];simp;omega
theorem Gk{w0 w:World}(env:Env w0){b P n:Nat}{lv uv:Value}{ws:List ByteArray}{V:tN}{dx:oO}(hE:Below w0.heap.size w0 w)(hbb:w0.heap.size≤b)(zv:w0.heap.size≤P)(h:Rs w b P 1 n lv uv ws)(m:Pm w0.heap.size w P uv V dx)(hw:ws[0]? =some gx):Calls ag 224 #[.pointer (some ⟨b,0,none⟩)] w fun r w'=>bT w0.heap.size w w'∧eu (eB dx n ws) n (rA w0.heap.size b P n lv ws w') r∧lW w' P (eB dx n ws):=by
 rw[LJ dx n hw];have of:Off (fun k=>k=b∨k=P∨V.h.ownBlock=some k) w [235,179,334]:=by
  rintro k(e|e|e)
  ·exact⟨_,_,_,by subst e;exact h.blk,by simp⟩
  ·exact⟨_,_,_,by subst e;exact m.blk,by simp⟩
  ·obtain⟨_,_,cur,fz,h1⟩:=rC m.h e;exact⟨cur,_,fz,h1,by simp⟩
 have ng:∀(v:Value)(l:List Nm),eD w w0.heap.size v l→∀g,v.ownBlock=some g→¬(g=b∨g=P∨V.h.ownBlock=some g):=by
  intro v l hv g hg e;obtain⟨_,_,cur,fz,h1⟩:=hv.own hg;rcases e with e|e|e
  ·exact lX h1 h.blk aF e
  ·exact lX h1 m.blk aF e
  ·obtain⟨_,_,Zy,fz2,h2⟩:=rC m.h e;rw[h1]at h2;injection h2 with h2
   injection h2 with _ h2 _
   exact absurd h2 (by decide)
 have hPb:P≠b:=m.blk.wH h.blk aF;refine(PU env hE h m.blk rfl m.h hbb).mono fun r w' hh=>have hk:=(hh.line (fun k hk=>Or.inl hk)).1;have hl:=(hh.line (fun k hk=>Or.inl hk)).2;⟨bT.of hk ?_ of aF,eu.map (hl.mono fun x hx⟨h1,k',lst',R,B,NR,fr⟩=>⟨h1,k',uv,⟨V.g,V.t,lst',V.a⟩,R,⟨B,m.g.keep hk of aF (ng _ _ m.g),m.t.keep hk of aF (ng _ _ m.t),NR,m.a.off hk of aF aF aF aF,m.u.off hk of aF,m.sep,m.gl,m.tl,?_,m.al,m.ul⟩⟩),lW.map fun e he=>⟨_,_,_,_,m.blk.keep (hh.err e he) (hPb)⟩⟩
 ·rintro k(e|e|e)
  ·omega
  ·omega
  ·exact(rC m.h e).1
 ·have:=(EV hx).2.1;show(dx.p.hosts++[x]).length≤64;rw[ai];simp;omega
theorem zw{w0 w:World}(env:Env w0){b P n:Nat}{lv uv:Value}{ws:List ByteArray}{V:tN}{dx:oO}(hE:Below w0.heap.size w0 w)(hbb:w0.heap.size≤b)(zv:w0.heap.size≤P)(h:Rs w b P 1 n lv uv ws)(m:Pm w0.heap.size w P uv V dx)(hw:ws[0]? =some gX):Calls ag 225 #[.pointer (some ⟨b,0,none⟩)] w fun r w'=>bT w0.heap.size w w'∧eu (eB dx n ws) n (rA w0.heap.size b P n lv ws w') r∧lW w' P (eB dx n ws):=by
 rw[CS dx n hw];have of:Off (fun k=>k=b∨k=P∨V.a.ownBlock=some k∨uv.ownBlock=some k) w [235,179,340,249]:=by
  rintro k(e|e|e|e)
  ·exact⟨_,_,_,by subst e;exact h.blk,by simp⟩
  ·exact⟨_,_,_,by subst e;exact m.blk,by simp⟩
  ·obtain⟨_,_,cur,fz,h1⟩:=m.a.own e;exact⟨cur,_,fz,h1,by simp⟩
  ·obtain⟨_,_,cur,fz,h1⟩:=m.u.own e;exact⟨cur,_,fz,h1,by simp⟩
 have ng:∀(v:Value)(l:List Nm),eD w w0.heap.size v l→∀g,v.ownBlock=some g→¬(g=b∨g=P∨V.a.ownBlock=some g∨uv.ownBlock=some g):=by
  intro v l hv g hg e;obtain⟨_,_,cur,fz,h1⟩:=hv.own hg;obtain⟨Zy,e2,fz2,h2,h3⟩:=of g e;rw[h1]at h2;injection h2 with h2
  injection h2 with _ h2 _
  rw[←h2]at h3;exact absurd h3 (by decide)
 have hPb:P≠b:=m.blk.wH h.blk aF;have hPu:uv.ownBlock=some P→False:=fun e=>by
  obtain⟨_,_,cur,fz,h1⟩:=m.u.own e;exact lX h1 m.blk aF rfl
 refine(F9 env hE h m.blk rfl m.a m.u (by have:=m.ul;have:=m.al;omega) hbb).mono fun r w' hh=>have hk:=(hh.line (fun k hk=>hk.elim Or.inl fun e=>Or.inr (Or.inr (Or.inr e)))).1;have hl:=(hh.line (fun k hk=>hk.elim Or.inl fun e=>Or.inr (Or.inr (Or.inr e)))).2;⟨bT.of hk ?_ of aF,eu.map (hl.mono fun x hx⟨h1,k',lst',uv',R,B,AR,UR,fr,fr2,xl⟩=>⟨h1,k',uv',⟨V.g,V.t,V.h,lst'⟩,R,⟨B,m.g.keep hk of aF (ng _ _ m.g),m.t.keep hk of aF (ng _ _ m.t),aX m.h hk of aF,AR,UR,m.sep,m.gl,m.tl,m.hl,?_,?_⟩⟩),lW.map fun e he=>⟨_,_,_,_,m.blk.keep (hh.err e he) (fun e=>e.elim hPb hPu)⟩⟩
 ·rintro k(e|e|e|e)
  ·omega
  ·omega
  ·exact(m.a.own e).1
  ·exact(m.u.own e).1
 ·have:=(yP hx).2.1;show(dx.p.j7++[x.1]).length≤64;rw[ai];simp;omega
 ·show(dx.used++x.2.map fun y=>(y.1,n,y.2)).length≤128*(dx.p.j7++[x.1]).length;rw[ai,ai,ax];have:=m.ul;simp;omega
theorem LQ{w0 w:World}{b P n c:Nat}{lv uv:Value}{ws:List ByteArray}{V:tN}{dx:oO}(hE:Below w0.heap.size w0 w)(hbb:w0.heap.size≤b)(zv:w0.heap.size≤P)(h:Rs w b P 1 n lv uv ws)(m:Pm w0.heap.size w P uv V dx)(hw:ws[0]? =some eG)(hc:aD w c 230 #[.pointer (some ⟨b,0,none⟩)]):Calls ag 221 #[.pointer (some ⟨c,0,none⟩)] w fun r w'=>bT w0.heap.size w w'∧eu (eB dx n ws) n (rA w0.heap.size b P n lv ws w') r∧lW w' P (eB dx n ws):=by
 have HN:=CU (w:=w.drew) (n:=n) (lv:=lv) ⟨hE.os,hE.tape,hE.output,hE.size,hE.block⟩ hbb zv h.drew m.drew hw;have x0:=hc.cell 0;have x2:=h.blk.cell 2;simp at x0 x2;have HC:=ae hc;clear h m hc;cases ho:eB dx n ws with
 |error e=>
  rw[ho]at HN;have HE:af (Calls ag 222 #[.pointer (some ⟨b,0,none⟩),.pointer (some ⟨P,0,none⟩)] w.drew fun r w'=>bT w0.heap.size w.drew w'∧r=aL e.1 n e.2∧lW (α:=oO) w' P (.error e)):=ae HN;clear HN ho;go_enter Tryz.func221,Tryz.ntmps221;refine wp_region_held_drew (S:=(fun w'=>w'.cell? ⟨c,0,none⟩=some (.pointer (some ⟨b,0,none⟩))∧w'.cell? ⟨b,2,none⟩=some (.pointer (some ⟨P,0,none⟩)))) bg (⟨x0,x2⟩) (fun hHeld=>?_);refine bm 0 ?_
  refine bm 1 ?_
  refine bm 2 ?_
  refine bm 3 ?_
  refine bm 4 ?_
  refine bm 5 ?_
  refine bm 6 ?_
  refine jk 7 fun K hK=>?_;go_simp;refine HE.out.mono ?_;rintro r w5⟨d5,rfl,p5⟩;unfold aL;exact⟨rfl,d5.eJ,rfl,p5⟩
 |ok x=>
  rw[ho]at HN;have HE:af (Calls ag 222 #[.pointer (some ⟨b,0,none⟩),.pointer (some ⟨P,0,none⟩)] w.drew fun r w'=>bT w0.heap.size w.drew w'∧(r=.returned (.tuple #[])∧∃k' uv' V',Rs w' b P k' n lv uv' ws∧Pm w0.heap.size w' P uv' V' x)):=ae (HN.mono fun r w'⟨h1,h2,_⟩=>⟨h1,h2⟩);clear HN ho;go_enter Tryz.func221,Tryz.ntmps221;refine wp_region_held_drew (S:=(fun w'=>w'.cell? ⟨c,0,none⟩=some (.pointer (some ⟨b,0,none⟩))∧w'.cell? ⟨b,2,none⟩=some (.pointer (some ⟨P,0,none⟩)))) bg (⟨x0,x2⟩) (fun hHeld=>?_);refine bm 0 ?_
  refine bm 1 ?_
  refine bm 2 ?_
  refine bm 3 ?_
  refine bm 4 ?_
  refine bm 5 ?_
  refine bm 6 ?_
  refine jk 7 fun K hK=>?_;go_simp;refine HE.out.mono ?_;rintro r w5⟨d5,rfl,k',uv',V',R5,M5⟩;have y0:=(HC.out.off d5.eJ bT.off aF).cell 0;have y2:=R5.blk.cell 2;simp at y0 y2;refine hK.out _ _ (⟨y0,y2⟩) (fun hHeld=>?_);clear hK K;try simp only[cq]
  refine qR ?_;refine⟨rfl,_,results_none rfl _ _ _,d5.eJ,⟨rfl,_,_,_,R5,M5⟩,fun e he=>(by cases he)⟩
theorem LV{w0 w:World}{b P n c:Nat}{lv uv:Value}{ws:List ByteArray}{V:tN}{dx:oO}(hE:Below w0.heap.size w0 w)(hbb:w0.heap.size≤b)(zv:w0.heap.size≤P)(h:Rs w b P 1 n lv uv ws)(m:Pm w0.heap.size w P uv V dx)(hw:ws[0]? =some ju)(hc:aD w c 230 #[.pointer (some ⟨b,0,none⟩)]):Calls ag 223 #[.pointer (some ⟨c,0,none⟩)] w fun r w'=>bT w0.heap.size w w'∧eu (eB dx n ws) n (rA w0.heap.size b P n lv ws w') r∧lW w' P (eB dx n ws):=by
 have HN:=LM (w:=w.drew) (n:=n) (lv:=lv) ⟨hE.os,hE.tape,hE.output,hE.size,hE.block⟩ hbb zv h.drew m.drew hw;have x0:=hc.cell 0;have x2:=h.blk.cell 2;simp at x0 x2;have HC:=ae hc;clear h m hc;cases ho:eB dx n ws with
 |error e=>
  rw[ho]at HN;have HE:af (Calls ag 222 #[.pointer (some ⟨b,0,none⟩),.pointer (some ⟨P,1,none⟩)] w.drew fun r w'=>bT w0.heap.size w.drew w'∧r=aL e.1 n e.2∧lW (α:=oO) w' P (.error e)):=ae HN;clear HN ho;go_enter Tryz.func223,Tryz.ntmps223;refine wp_region_held_drew (S:=(fun w'=>w'.cell? ⟨c,0,none⟩=some (.pointer (some ⟨b,0,none⟩))∧w'.cell? ⟨b,2,none⟩=some (.pointer (some ⟨P,0,none⟩)))) bg (⟨x0,x2⟩) (fun hHeld=>?_);refine bm 0 ?_
  refine bm 1 ?_
  refine bm 2 ?_
  refine bm 3 ?_
  refine bm 4 ?_
  refine bm 5 ?_
  refine bm 6 ?_
  refine jk 7 fun K hK=>?_;go_simp;refine HE.out.mono ?_;rintro r w5⟨d5,rfl,p5⟩;unfold aL;exact⟨rfl,d5.eJ,rfl,p5⟩
 |ok x=>
  rw[ho]at HN;have HE:af (Calls ag 222 #[.pointer (some ⟨b,0,none⟩),.pointer (some ⟨P,1,none⟩)] w.drew fun r w'=>bT w0.heap.size w.drew w'∧(r=.returned (.tuple #[])∧∃k' uv' V',Rs w' b P k' n lv uv' ws∧Pm w0.heap.size w' P uv' V' x)):=ae (HN.mono fun r w'⟨h1,h2,_⟩=>⟨h1,h2⟩);clear HN ho;go_enter Tryz.func223,Tryz.ntmps223;refine wp_region_held_drew (S:=(fun w'=>w'.cell? ⟨c,0,none⟩=some (.pointer (some ⟨b,0,none⟩))∧w'.cell? ⟨b,2,none⟩=some (.pointer (some ⟨P,0,none⟩)))) bg (⟨x0,x2⟩) (fun hHeld=>?_);refine bm 0 ?_
  refine bm 1 ?_
  refine bm 2 ?_
  refine bm 3 ?_
  refine bm 4 ?_
  refine bm 5 ?_
  refine bm 6 ?_
  refine jk 7 fun K hK=>?_;go_simp;refine HE.out.mono ?_;rintro r w5⟨d5,rfl,k',uv',V',R5,M5⟩;have y0:=(HC.out.off d5.eJ bT.off aF).cell 0;have y2:=R5.blk.cell 2;simp at y0 y2;refine hK.out _ _ (⟨y0,y2⟩) (fun hHeld=>?_);clear hK K;try simp only[cq]
  refine qR ?_;refine⟨rfl,_,results_none rfl _ _ _,d5.eJ,⟨rfl,_,_,_,R5,M5⟩,fun e he=>(by cases he)⟩
theorem catch_idle(P F:Nat)(w:World):CallsD ag 172 #[.pointer (some ⟨P,0,none⟩),.pointer (some ⟨F,0,none⟩)] .returning w fun e u' w'=>e=.returned (.tuple #[])∧u'=.returning∧w'=w:=by
 refine callsD_of_wpS Tryz.func172 rfl fun c₀ cs hu=>?_
 apply wpS_seq;apply wpS_region;simp[wpOpsS,go_sem,recoverD,hu,Tryz.ntmps172,Exit.thenS];apply wpS_seq;apply wpS_region;simp[wpOpsS,go_sem,Exit.thenS];refine wpS_cond (t:=false) (by simp[Act.eval,Array.replicate]) ?_;simp only[Bool.false_eq_true,if_false];refine wpS_of_wp (wp_skip ?_);cases c₀;simp_all [bodyPostS,results,Tryz.results172]
theorem ZZ{w:World}{g:Nat}{t:TypeId}{z0 z1 z2 z3:Value}(v0 v1 v2 v3:Value)(h:aD w g t #[z0,z1,z2,z3]):aD ((((w.setCell ⟨g,0,none⟩ v0).setCell ⟨g,1,none⟩ v1).setCell ⟨g,2,none⟩ v2).setCell ⟨g,3,none⟩ v3) g t #[v0,v1,v2,v3]∧Keeps (fun x=>x=g) w ((((w.setCell ⟨g,0,none⟩ v0).setCell ⟨g,1,none⟩ v1).setCell ⟨g,2,none⟩ v2).setCell ⟨g,3,none⟩ v3):=⟨(((h.aN 0 v0).aN 1 v1).aN 2 v2).aN 3 v3,((((Keeps.refl (fun x=>x=g) w).setCell (p:=⟨g,0,none⟩) (Or.inl rfl) v0).setCell (p:=⟨g,1,none⟩) (Or.inl rfl) v1).setCell (p:=⟨g,2,none⟩) (Or.inl rfl) v2).setCell (p:=⟨g,3,none⟩) (Or.inl rfl) v3⟩
theorem Z1{w:World}{g:Nat}{t:TypeId}{z0 z1 z2:Value}(v0 v1 v2:Value)(h:aD w g t #[z0,z1,z2]):aD (((w.setCell ⟨g,0,none⟩ v0).setCell ⟨g,1,none⟩ v1).setCell ⟨g,2,none⟩ v2) g t #[v0,v1,v2]∧Keeps (fun x=>x=g) w (((w.setCell ⟨g,0,none⟩ v0).setCell ⟨g,1,none⟩ v1).setCell ⟨g,2,none⟩ v2):=⟨((h.aN 0 v0).aN 1 v1).aN 2 v2,(((Keeps.refl (fun x=>x=g) w).setCell (p:=⟨g,0,none⟩) (Or.inl rfl) v0).setCell (p:=⟨g,1,none⟩) (Or.inl rfl) v1).setCell (p:=⟨g,2,none⟩) (Or.inl rfl) v2⟩
theorem catch_panicking(P F e n i:Nat)(w:World)(older:List PanicEntry){p0 p1 p2 p3 f0 f1 f2:Value}(hP:aD w P 179 #[p0,p1,p2,p3])(hF:aD w F 181 #[f0,f1,f2])(Z2:P≠F):CallsD ag 172 #[.pointer (some ⟨P,0,none⟩),.pointer (some ⟨F,0,none⟩)] (.panicking ({v:=.iface 228 (.agg #[.int .i64 e,.int .i64 n,.int .i64 i]),recovered:=false}::older)) w fun r u' w'=>r=.returned (.tuple #[])∧u'=.panicking ({v:=.iface 228 (.agg #[.int .i64 e,.int .i64 n,.int .i64 i]),recovered:=true}::older)∧Keeps (fun k=>k=P∨k=F) w w'∧aD w' P 179 #[.slice none 0 0,.slice none 0 0,.slice none 0 0,.slice none 0 0]∧aD w' F 181 #[.int .i64 e,.int .i64 n,.int .i64 i]:=by
 refine callsD_of_wpS Tryz.func172 rfl fun c₀ cs hu=>?_
 apply wpS_seq;apply wpS_region;simp[wpOpsS,go_sem,recoverD,hu,Tryz.ntmps172,Exit.thenS];refine wpS_of_wp ?_;change Code.wp _ _ _ {tmps:= #[.pointer (some ⟨P,0,none⟩),.pointer (some ⟨F,0,none⟩),.iface 228 (.agg #[.int .i64 e,.int .i64 n,.int .i64 i]),undef,undef,.iface 228 (.agg #[.int .i64 e,.int .i64 n,.int .i64 i]),undef,undef,undef,undef,undef,undef,undef,undef,undef,undef,undef,undef,undef],defers:=[]} w;have hta:∀w:World,(Instr.typeAssert (.iface 228 (.agg #[.int .i64 e,.int .i64 n,.int .i64 i])) 20 228 true).run ag w=.ok (.tuple #[.agg #[.int .i64 e,.int .i64 n,.int .i64 i],.bool true]) w:=fun _=>by kernel_rfl
 clear hu;go_upto_region 5 with fail
 have NB:=aD.new w 228 #[.int .i64 e,.int .i64 n,.int .i64 i];have d1:=boxed w (.cells #[.int .i64 e,.int .i64 n,.int .i64 i] 228);have hP1:=hP.below d1 hP.lt;have hF1:=hF.below d1 hF.lt;have KD:Keeps (fun k=>k=P∨k=F) w (w.alloc (.cells #[.int .i64 e,.int .i64 n,.int .i64 i] 228)):=Keeps.of_below d1 fun k hk _=>hk
 have hPl:=hP.lt;have KI:=hF.lt;generalize w.alloc (.cells #[.int .i64 e,.int .i64 n,.int .i64 i] 228)=w1 at NB hP1 hF1 KD⊢;generalize w.heap.size=N at NB hPl KI⊢;clear d1 hP hF;have n0:=NB.cell 0;have n1:=NB.cell 1;have n2:=NB.cell 2;have x0:w1.cell? ⟨P,0,none⟩=_:=hP1.cell 0;have x1:w1.cell? ⟨P,1,none⟩=_:=hP1.cell 1;have x2:w1.cell? ⟨P,2,none⟩=_:=hP1.cell 2;have x3:w1.cell? ⟨P,3,none⟩=_:=hP1.cell 3;have z0:w1.frozen? ⟨P,0,none⟩=false:=hP1.frozen 0;have z1:w1.frozen? ⟨P,1,none⟩=false:=hP1.frozen 1;have z2:w1.frozen? ⟨P,2,none⟩=false:=hP1.frozen 2;have z3:w1.frozen? ⟨P,3,none⟩=false:=hP1.frozen 3;obtain⟨PB,KP⟩:=ZZ (w:=w1) (.slice none 0 0) (.slice none 0 0) (.slice none 0 0) (.slice none 0 0) hP1;obtain⟨W4,Qp⟩:∃W,W=(((w1.setCell ⟨P,0,none⟩ (.slice none 0 0)).setCell ⟨P,1,none⟩ (.slice none 0 0)).setCell ⟨P,2,none⟩ (.slice none 0 0)).setCell ⟨P,3,none⟩ (.slice none 0 0):=⟨_,rfl⟩;rw[←Qp]at PB KP;have Z3:=ae Qp;clear Qp;have FB:=aD.keep (show aD w1 F _ _ from hF1) KP (fun e=>Z2 e.symm);have UE:=aD.keep (show aD w1 N _ _ from NB) KP aM;simp at n0 n1 n2 x0 x1 x2 x3;have m0:=UE.cell 0;have m1:=UE.cell 1;have m2:=UE.cell 2;have y0:=FB.cell 0;have y1:=FB.cell 1;have y2:=FB.cell 2;have u0:=FB.frozen 0;have u1:=FB.frozen 1;have u2:=FB.frozen 2;simp at m0 m1 m2 y0 y1 y2;obtain⟨tP,KF⟩:=Z1 (.int .i64 e) (.int .i64 n) (.int .i64 i) FB;obtain⟨W7,hW7⟩:∃W,W=((W4.setCell ⟨F,0,none⟩ (.int .i64 e)).setCell ⟨F,1,none⟩ (.int .i64 n)).setCell ⟨F,2,none⟩ (.int .i64 i):=⟨_,rfl⟩;rw[←hW7]at tP KF;have HW7:=ae hW7;clear hW7;obtain⟨HFB,HPB⟩:=aI tP (PB.keep KF Z2);have HK:=ae (((KD.trans (KP.mono (T:=fun k=>k=P∨k=F) fun k _ hk=>Or.inl hk)).trans (KF.mono fun k _ hk=>Or.inr hk)).drew);have Lt:=UE.keep KF aM;have o0:=Lt.cell 0;have o1:=Lt.cell 1;have o2:=Lt.cell 2;simp at o0 o1 o2;clear tP PB KF KP KD NB UE Lt FB hP1 hF1;refine wp_region_held_drew (S:=(fun w'=>w'.cell? ⟨N,0,none⟩=some (.int .i64 e)∧w'.cell? ⟨N,1,none⟩=some (.int .i64 n)∧w'.cell? ⟨N,2,none⟩=some (.int .i64 i))) bg (⟨n0,n1,n2⟩) (fun hHeld=>?_);refine bm 0 ?_
 refine bm 1 ?_
 refine bm 2 ?_
 refine jk 3 fun K hK=>?_;go_simp;rw[←Z3.out];refine hK.out _ _ (⟨m0,m1,m2⟩) (fun hHeld=>?_);clear hK K;try simp only[cq]
 refine jk 4 fun K hK=>?_;go_simp;rw[←HW7.out];refine hK.out _ _ (⟨o0,o1,o2⟩) (fun hHeld=>?_);clear hK K;try simp only[cq]
 refine qR ?_;exact⟨rfl,_,rfl,_,results_none rfl _ _ _,rfl,rfl,HK.out,HPB.out,HFB.out⟩
theorem LW(l:List UInt8):(mZ l).length≤l.length+1∧∀s∈mZ l,s.size≤l.length:=by
 have h:=pX l [];unfold mZ fieldsB;constructor
 ·rw[ax];have:=(List.takeWhile_prefix fM (l:=fieldsGo [] l)).length_le;omega
 ·intro s hs;obtain⟨x,hx,rfl⟩:=List.mem_map.1 hs;have:=h.2 x ((List.takeWhile_prefix fM).subset hx);show(x.toArray).size≤l.length;rw[List.size_toArray];simpa using this
theorem I8{w:World}{g:Nat}{v0 v1 v2 v3:Value}(h:aD w g 179 #[v0,v1,v2,v3]):(loadVar 179 ⟨g,0,none⟩).run ag w=.ok (.agg #[v0,v1,v2,v3]) w:=by
 have c0:=h.cell 0;have c1:=h.cell 1;have c2:=h.cell 2;have c3:=h.cell 3;simp at c0 c1 c2 c3;simp[loadVar,go_sem,c0,c1,c2,c3]
theorem I9{w:World}{g:Nat}{v0 v1 v2:Value}(h:aD w g 181 #[v0,v1,v2]):(loadVar 181 ⟨g,0,none⟩).run ag w=.ok (.agg #[v0,v1,v2]) w:=by
 have c0:=h.cell 0;have c1:=h.cell 1;have c2:=h.cell 2;simp at c0 c1 c2;simp[loadVar,go_sem,c0,c1,c2]
def dz(s:List UInt8)(w:World)(r:Ending)(w':World):Prop:=(∃V:tN,r=.returned (.tuple #[.agg #[V.g,V.t,V.h,V.a],.agg #[.int .i64 ((gy s).2.1:Int),.int .i64 ((gy s).2.2.1:Int),.int .i64 ((gy s).2.2.2:Int)]])∧tq w' V (gy s).1)∧Below w.heap.size w w'
theorem qn.nil(w:World):qn w (.slice none 0 0) []:=⟨[],rfl,aW.empty _ _,fun x hx=>by cases hx⟩
theorem xd.nil(w:World):xd w (.slice none 0 0) []:=⟨[],rfl,aW.empty _ _,fun x hx=>by cases hx⟩
theorem tq.zero(w:World):tq w ⟨.slice none 0 0,.slice none 0 0,.slice none 0 0,.slice none 0 0⟩ Po.zero:=⟨qn.nil w,qn.nil w,aW.empty w 5,xd.nil w⟩
theorem dz.bad{s:List UInt8}{w w':World}{e n i:Nat}(h:gy s=(Po.zero,(e,n,i)))(hb:Below w.heap.size w w'):dz s w (.returned (.tuple #[.agg #[.slice none 0 0,.slice none 0 0,.slice none 0 0,.slice none 0 0],.agg #[.int .i64 e,.int .i64 n,.int .i64 i]])) w':=by
 unfold dz;rw[h];exact⟨⟨⟨.slice none 0 0,.slice none 0 0,.slice none 0 0,.slice none 0 0⟩,rfl,tq.zero w'⟩,hb⟩
theorem dz.good{s:List UInt8}{w w':World}{p:Po}{V:tN}(h:gy s=(p,(0,0,0)))(hr:tq w' V p)(hb:Below w.heap.size w w'):dz s w (.returned (.tuple #[.agg #[V.g,V.t,V.h,V.a],.agg #[.int .i64 0,.int .i64 0,.int .i64 0]])) w':=by
 unfold dz;rw[h];exact⟨⟨V,rfl,hr⟩,hb⟩
def endP(r:Except Flt oO):Po×Flt:=match r with
 | .error e=>(Po.zero,e)
 | .ok b=>match b.used.find? fun u=> !fW b.p u.1 with
   |some u=>(Po.zero,(196,u.2))
   |none=>(b.p,(0,0,0))
def Qq(b:oO)(o:Option Us):Po×Flt:=match o with
 |some u=>(Po.zero,(196,u.2))
 |none=>(b.p,(0,0,0))
theorem VU(b:oO):endP (.ok b)=Qq b (b.used.find? fun u=> !fW b.p u.1):=by
 unfold endP Qq;rfl
theorem Qr{b:oO}{k:Nat}{u:Us}(h:b.used[k]? =some u):(b.used.drop k).find? (fun u=> !fW b.p u.1)=if fW b.p u.1=true then(b.used.drop (k+1)).find? (fun u=> !fW b.p u.1)else some u:=by
 have hk:k<b.used.length:=(List.getElem?_eq_some_iff.1 h).1;rw[List.drop_eq_getElem_cons hk,(List.getElem?_eq_some_iff.1 h).2,List.find?_cons];cases fW b.p u.1<;>rfl
theorem LX{s:List UInt8}(h:¬8192<s.length):gy s=endP (pj (cN 10 s) 1 ⟨Po.zero,[]⟩):=by
 unfold gy;rw[if_neg h];rfl
theorem pE{tmps:Array Value}{w:World}{P F:Nat}{V v2:Value}(h1:tmps.getD 2 undef=.pointer (some ⟨P,0,none⟩))(h2:tmps.getD 3 undef=.pointer (some ⟨F,0,none⟩))(hl:(loadVar 179 ⟨P,0,none⟩).run ag w=.ok V w)(hl2:(loadVar 181 ⟨F,0,none⟩).run ag w=.ok v2 w):(results Tryz.f132 tmps).run ag w=.ok (.tuple #[V,v2]) w:=by
 have h1':tmps[2]?.getD undef=.pointer (some ⟨P,0,none⟩):=by simpa using h1
 have h2':tmps[3]?.getD undef=.pointer (some ⟨F,0,none⟩):=by simpa using h2
 have hres:Tryz.f132.results= #[.cell 2 179,.cell 3 181]:=rfl;simp[results,hres,h1',h2',asAddr,hl,hl2]
theorem jO{w:World}{tmps:Array Value}{P F e n i:Nat}{R:Ending→World→Prop}{p0 p1 p2 p3 f0 f1 f2:Value}(h2:tmps.getD 2 undef=.pointer (some ⟨P,0,none⟩))(h3:tmps.getD 3 undef=.pointer (some ⟨F,0,none⟩))(hP:aD w P 179 #[p0,p1,p2,p3])(hF:aD w F 181 #[f0,f1,f2])(Z2:P≠F)(hR:∀w',Keeps (fun k=>k=P∨k=F) w w'→R (.returned (.tuple #[.agg #[.slice none 0 0,.slice none 0 0,.slice none 0 0,.slice none 0 0],.agg #[.int .i64 e,.int .i64 n,.int .i64 i]])) w'):Leaves ag Tryz.f132 tmps R [{target:=.fn (.func 172) #[.pointer (some ⟨P,0,none⟩),.pointer (some ⟨F,0,none⟩)],args:= #[]}] (.panicking [{v:=.iface 228 (.agg #[.int .i64 e,.int .i64 n,.int .i64 i]),recovered:=false}]) w:=by
 refine leaves_cons (f:=172) (args:= #[.pointer (some ⟨P,0,none⟩),.pointer (some ⟨F,0,none⟩)]) (by simp) (by simp[go_sem]) ?_;refine(catch_panicking P F e n i w [] hP hF Z2).mono ?_;rintro r u' w'⟨rfl,rfl,hk,hp,hf⟩;show Leaves _ _ _ _ [] .returning w';exact⟨_,pE h2 h3 (I8 hp) (I9 hf),hR w' hk⟩
theorem sJ{w:World}{tmps:Array Value}{P F:Nat}{R:Ending→World→Prop}{V v2:Value}(h2:tmps.getD 2 undef=.pointer (some ⟨P,0,none⟩))(h3:tmps.getD 3 undef=.pointer (some ⟨F,0,none⟩))(hl:(loadVar 179 ⟨P,0,none⟩).run ag w=.ok V w)(hl2:(loadVar 181 ⟨F,0,none⟩).run ag w=.ok v2 w)(hR:R (.returned (.tuple #[V,v2])) w):Leaves ag Tryz.f132 tmps R [{target:=.fn (.func 172) #[.pointer (some ⟨P,0,none⟩),.pointer (some ⟨F,0,none⟩)],args:= #[]}] .returning w:=by
 refine leaves_cons (f:=172) (args:= #[.pointer (some ⟨P,0,none⟩),.pointer (some ⟨F,0,none⟩)]) (by simp) (by simp[go_sem]) ?_;refine(catch_idle P F w).mono ?_;rintro r u' w'⟨rfl,rfl,rfl⟩;show Leaves _ _ _ _ [] .returning w';exact⟨_,pE h2 h3 hl hl2,hR⟩
theorem CV{P:Program}{fn:Func}{t1 t2:Array Value}{R:Ending→World→Prop}(hr:results fn t1=results fn t2):∀(ds:List Deferred)(u:FrameMode)(w:World),Leaves P fn t1 R ds u w→Leaves P fn t2 R ds u w:=by
 intro ds
 induction ds with
 |nil=>
  intro u w h;cases u with
  |run=>exact h
  |returning=>obtain⟨v,h1,h2⟩:=h;exact⟨v,hr▸h1,h2⟩
  |panicking c=>exact h
 |cons d ds ih=>
  intro u w h;obtain⟨h1,fv,cap,f,args,h2,h3,h4⟩:=h;refine⟨h1,fv,cap,f,args,h2,h3,h4.mono fun e u' w' he=>?_⟩;cases e with
  |returned v=>exact ih _ _ he
  |panicked c=>exact ih _ _ he
  |outgrown=>exact he
theorem fH{d:Nat}(h2:d≠2)(h3:d≠3){a:Act}{v:Value}{R:Ending→World→Prop}{u:FrameMode}{w:World}(h:Leaves ag Tryz.f132 (a.tmps.setIfInBounds d v) R a.defers u w):Leaves ag Tryz.f132 a.tmps R a.defers u w:=by
 refine CV ?_ _ _ _ h;have hres:Tryz.f132.results= #[.cell 2 179,.cell 3 181]:=rfl;unfold results;rw[hres];simp[Array.getElem?_setIfInBounds,h2,h3]
theorem eD.off{S:Nat→Prop}{w w':World}{T:List TypeId}{base:Nat}{v:Value}{l:List Nm}(h:eD w base v l)(hk:Keeps S w w')(ho:Off S w T)(h0:332∉T)(h1:9∉T):eD w' base v l:=by
 obtain⟨xs,e,ha,hb⟩:=h;exact⟨xs,e,aX ha hk ho h0,fun x hx=>aX (hb x hx) hk ho h1⟩
structure VV(base:Nat)(w:World)(V:tN)(p:Po):Prop where
 g:eD w base V.g p.groups
 t:eD w base V.t p.tags
 h:w.ownsRow base 334 5 V.h p.hosts.length (eC p.hosts)
 a:fV w base V.a p.j7
theorem Pm.rows{base P:Nat}{w:World}{uv:Value}{V:tN}{dx:oO}(m:Pm base w P uv V dx):VV base w V dx.p:=⟨m.g,m.t,m.h,m.a⟩
theorem VV.below{base:Nat}{w w':World}{V:tN}{p:Po}(m:VV base w V p)(hb:Below w.heap.size w w'):VV base w' V p:=⟨m.g.below hb,m.t.below hb,own_below m.h hb,m.a.below hb⟩
theorem VV.off{S:Nat→Prop}{T:List TypeId}{base:Nat}{w w':World}{V:tN}{p:Po}(m:VV base w V p)(hk:Keeps S w w')(ho:Off S w T)(h0:332∉T)(h1:9∉T)(h2:334∉T)(h3:340∉T)(h4:5∉T)(h5:245∉T)(h6:345∉T):VV base w' V p:=⟨m.g.off hk ho h0 h1,m.t.off hk ho h0 h1,aX m.h hk ho h2,m.a.off hk ho h3 h4 h5 h6⟩
theorem VV.rd{base:Nat}{w:World}{V:tN}{p:Po}(m:VV base w V p):tq w V p:=⟨m.g.rd,m.t.rd,aW.dn m.h,m.a.rd⟩
theorem Pm.below{base P:Nat}{w w':World}{uv:Value}{V:tN}{dx:oO}(m:Pm base w P uv V dx)(hb:Below w.heap.size w w'):Pm base w' P uv V dx:=⟨m.blk.below hb m.blk.lt,m.g.below hb,m.t.below hb,own_below m.h hb,m.a.below hb,m.u.below hb,m.sep,m.gl,m.tl,m.hl,m.al,m.ul⟩
theorem Pm.reader{S:Nat→Prop}{base P:Nat}{w w':World}{uv:Value}{V:tN}{dx:oO}(m:Pm base w P uv V dx)(hk:Keeps S w w')(ho:Off S w [235]):Pm base w' P uv V dx:=⟨m.blk.off hk ho aF,m.g.off hk ho aF aF,m.t.off hk ho aF aF,aX m.h hk ho aF,m.a.off hk ho aF aF aF aF,m.u.off hk ho aF,m.sep,m.gl,m.tl,m.hl,m.al,m.ul⟩
theorem Pm.nil{base P:Nat}{w:World}(h:aD w P 179 #[.slice none 0 0,.slice none 0 0,.slice none 0 0,.slice none 0 0]):Pm base w P (.slice none 0 0) ⟨.slice none 0 0,.slice none 0 0,.slice none 0 0,.slice none 0 0⟩ ⟨Po.zero,[]⟩:=⟨h,eD.nil _ _,eD.nil _ _,World.ownsRow_nil _ _ _ _,fV.nil _ _,ep.nil _ _,fun x hx=>(by cases hx),by decide,by decide,by decide,by decide,by decide⟩
theorem Gl:∀(l:List (Us×ByteArray))(k:Nat)(x:Us×ByteArray),l[k]? =some x→(fj l)[k*9]? =some (.int .u8 (x.1.1.kind:Int))∧(fj l)[k*9+1]? =some (.string x.1.1.name)∧(fj l)[k*9+2]? =some (.bool x.1.1.net.a.v6)∧(fj l)[k*9+3]? =some (.int .u64 (x.1.1.net.a.hi:Int))∧(fj l)[k*9+4]? =some (.int .u64 (x.1.1.net.a.lo:Int))∧(fj l)[k*9+5]? =some (.int .u8 (x.1.1.net.bits:Int))∧(fj l)[k*9+6]? =some (.string x.2)∧(fj l)[k*9+7]? =some (.int .i64 (x.1.2.1:Int))∧(fj l)[k*9+8]? =some (.int .i64 (x.1.2.2:Int)):=by
 intro l
 induction l with
 |nil=>intro k x h;cases h
 |cons y r ih=>
  intro k x h;cases k with
  |zero=>injection h with h;subst h;exact⟨rfl,rfl,rfl,rfl,rfl,rfl,rfl,rfl,rfl⟩
  |succ k=>
   rw[show(k+1)*9=k*9+1+1+1+1+1+1+1+1+1 by omega];exact ih k x h
theorem qo{w:World}{m clock c b:Nat}(h:ed w m (CQ c b) clock):(Instr.lookup 239 (.map (some m)) (.string eG) true).run ag w=.ok (.tuple #[.func (.func 221) #[] #[.pointer (some ⟨c,0,none⟩)],.bool true]) w∧(Instr.lookup 239 (.map (some m)) (.string ju) true).run ag w=.ok (.tuple #[.func (.func 223) #[] #[.pointer (some ⟨c,0,none⟩)],.bool true]) w∧(Instr.lookup 239 (.map (some m)) (.string gx) true).run ag w=.ok (.tuple #[.func (.func 224) #[.pointer (some ⟨b,0,none⟩)] #[],.bool true]) w∧(Instr.lookup 239 (.map (some m)) (.string gX) true).run ag w=.ok (.tuple #[.func (.func 225) #[.pointer (some ⟨b,0,none⟩)] #[],.bool true]) w:=by
 have hT:=Tryz.underlying239;have hK:=aZ;exact⟨iT hT hK h eG (j:=0) (by rfl) rfl,iT hT hK h ju (j:=1) (by rfl) rfl,iT hT hK h gx (j:=2) (by rfl) rfl,iT hT hK h gX (j:=3) (by rfl) rfl⟩
theorem Qs{w:World}{m clock c b:Nat}(h:ed w m (CQ c b) clock){x:ByteArray}(h1:x≠eG)(h2:x≠ju)(h3:x≠gx)(h4:x≠gX):(Instr.lookup 239 (.map (some m)) (.string x) true).run ag w=.ok (.tuple #[.nilFunc,.bool false]) w:=by
 refine pn Tryz.underlying239 aZ h x ?_ bg;unfold at_ CQ;simp only[List.findIdx?_cons,List.findIdx?_nil];rw[cR (Ne.symm h1),cR (Ne.symm h2),cR (Ne.symm h3),cR (Ne.symm h4)];rfl
end Go.Proofs.YteflnojjjdkgmaaGreatDoor
