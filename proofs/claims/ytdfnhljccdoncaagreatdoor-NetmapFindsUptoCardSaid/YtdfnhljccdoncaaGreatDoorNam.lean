/- Joined out of: CnB RxL RxM CpA RwL RxO PzD NtA PeA. -/
import Derived.Test.YtdfnhljccdoncaaGreatDoorNal
set_option linter.unusedVariables false
set_option linter.unusedSimpArgs false
set_option maxHeartbeats 16000000
set_option maxRecDepth 100000
open Bool renaming eq_iff_iff→kq
open Go.Lib renaming hid→ae
open Go.Proofs.Tryz renaming prog→ai
open Go.RowKit renaming Hid→af
open Go.RowKit.Below renaming refl→aK
open List renaming getElem?_eq_getElem→ag,length_append→aj,take_of_length_le→aO,eq_nil_of_length_eq_zero→bS,flatMap_cons→Zg
open Nat renaming le_refl→aw
namespace Go.Proofs.YtdfnhljccdoncaaGreatDoor
open Go.RowKit
attribute [local go_sem↓] Go.wp_at_zero Go.wp_at_succ
theorem _root_.Go.RowKit.Below.gy{n:Nat}{w u:World}(h:Below n w u)(k:Nat):Below n w (u.drewN k):=⟨h.os,h.tape,h.output,h.size,h.block⟩
theorem dn{α:Type}(cells:α→List Value)(size:Nat)(hc:∀x,(cells x).length=size):∀(l:List α)(k:Nat)(x:α),l[k]? =some x→((l.flatMap cells).drop (k*size)).take size=cells x:=by
 intro l
 induction l with
 |nil=>intro k x h;cases h
 |cons y r ih=>
  intro k x h;cases k with
  |zero=>
   injection h with h
   subst h;rw[Nat.zero_mul,List.drop_zero,Zg,List.take_append_of_le_length (by rw[hc];exact aw _),aO (by rw[hc];exact aw _)]
  |succ k=>
   rw[Nat.succ_mul,Nat.add_comm,←List.drop_drop,Zg]
   conv=>lhs;arg 2;arg 2;rw[List.drop_append_of_le_length (by rw[hc];exact aw _),List.drop_of_length_le (by rw[hc];exact aw _),List.nil_append]
   exact ih k x h
theorem aE{α:Type}(cells:α→List Value)(size:Nat)(hc:∀x,(cells x).length=size){l:List α}{k:Nat}{x:α}(h:l[k]? =some x){r:Nat}{u:Value}(hu:(cells x)[r]? =some u):(l.flatMap cells)[k*size+r]? =some u:=by
 have hr:r<size:=by rw[←hc x];exact(List.getElem?_eq_some_iff.1 hu).1
 rw[←dn cells size hc l k x h,List.getElem?_take,if_pos hr,List.getElem?_drop]at hu;exact hu
theorem M1{α:Type}(l:List α)(q:α→Bool):((List.range l.length).any fun k=>match l[k]? with|some x=>q x|none=>false)=l.any q:=by
 rw[kq,List.any_eq_true,List.any_eq_true];constructor
 ·rintro⟨k,_,h⟩;cases hx:l[k]? with
  |none=>simp[hx]at h
  |some x=>simp only[hx]at h;exact⟨x,List.mem_of_getElem? hx,h⟩
 ·rintro⟨x,hx,h⟩;obtain⟨k,hk⟩:=List.getElem?_of_mem hx;exact⟨k,List.mem_range.2 (List.getElem?_eq_some_iff.1 hk).1,by simp only[hk];exact h⟩
theorem uo(u v p q:Nat)(r s:Bool)(d:Nat)(w:World):(Op.equalIn (d+3) 44 (.agg #[.bool r,.int .u64 u,.int .u64 v]) (.agg #[.bool s,.int .u64 p,.int .u64 q])).run ai w=.ok (r==s&&(u==p&&v==q)) w:=by
 have h32:ai.stoodInHeld 44=false:=by kernel_rfl
 rw[run_equalIn_struct w (d+2) 44 _ _ bJ h32];simp[go_sem,Tryz.underlying44,Tryz.underlying4,Tryz.underlying22,part,Op.equalIn];by_cases h1:r=s
 ·by_cases h2:u=p
  ·by_cases h3:v=q
   ·subst h1 h2 h3;simp
   ·have h4:¬(v:Int)=(q:Int):=by omega
    subst h1 h2;simp[h3,h4]
  ·have h4:¬(u:Int)=(p:Int):=by omega
   subst h1;simp[h2,h4]
 ·simp[h1]
theorem aaW(x y:Ad)(w:World):(binOp .eql 44 (.agg #[.bool x.v6,.int .u64 (x.hi:Int),.int .u64 (x.lo:Int)]) (.agg #[.bool y.v6,.int .u64 (y.hi:Int),.int .u64 (y.lo:Int)])).run ai w=.ok (.bool (decide (y=x))) w:=by
 have e:(x.v6==y.v6&&(x.hi==y.hi&&x.lo==y.lo))=decide (y=x):=by
  obtain⟨a,b,c⟩:=x;obtain⟨d,e,f⟩:=y;rw[kq];simp only[Bool.and_eq_true,beq_iff_eq,decide_eq_true_eq,Ad.mk.injEq];constructor
  ·rintro⟨rfl,rfl,rfl⟩;exact⟨rfl,rfl,rfl⟩
  ·rintro⟨rfl,rfl,rfl⟩;exact⟨rfl,rfl,rfl⟩
 simp only[binOp];simp[Op.equal,Op.maxDepth,uo x.hi x.lo y.hi y.lo x.v6 y.v6 9997,e]
theorem G8(a:Ad):a.cells.toList.length=3:=rfl
theorem G9{l:List Ad}{k:Nat}{x:Ad}(h:l[k]? =some x):(cR l)[k*3]? =some (.bool x.v6)∧(cR l)[k*3+1]? =some (.int .u64 (x.hi:Int))∧(cR l)[k*3+2]? =some (.int .u64 (x.lo:Int)):=⟨aE _ 3 G8 h (r:=0) rfl,aE _ 3 G8 h (r:=1) rfl,aE _ 3 G8 h (r:=2) rfl⟩
theorem Rq{w:World}(l:List Ad){v:Value}(hl:l.length≤4000000)(hr:aV w v l.length 3 (cR l))(x:Ad):Calls ai 126 #[v,.agg x.cells] w fun r w'=>(∃z:Int,r=.returned (.int .i64 z)∧decide (0≤z)=l.any fun y=>decide (y=x))∧Below w.heap.size w w':=by
 obtain⟨A,cap,rfl,hlen,hA⟩:=hr;obtain⟨N,hN⟩:∃n,n=l.length:=⟨_,rfl⟩;obtain⟨R,hR⟩:∃r,r=l.any fun y=>decide (y=x):=⟨_,rfl⟩
 rw[←hN]at hA hl⊢;rw[←hR];obtain⟨v6,hi,lo⟩:=x;obtain⟨HA,HN,HR⟩:=bO hA hN hR;clear hA hN hlen hR;unfold Ad.cells;simp only;obtain⟨HP,HB⟩:=aQ (aG.new w 44 #[.bool v6,.int .u64 hi,.int .u64 lo]) (boxed w (.cells #[.bool v6,.int .u64 hi,.int .u64 lo] 44));go_enter Tryz.func126,Tryz.ntmps126;go_upto_region 1 with fail
 generalize w.alloc (.cells #[.bool v6,.int .u64 hi,.int .u64 lo] 44)=w1 at HP HB⊢;generalize hP:w.heap.size=P at HP⊢;have HPe:=ae hP;clear hP;go_wp2_with fail
 go_loopw [8] (fun v8 wr=>∃k:Nat,k≤N∧v8=.int .i64 k∧af (Below w1.heap.size w1 wr)∧af (((l.take k).any fun y=>decide (y=(⟨v6,hi,lo⟩:Ad)))=false)) (fun v8 _=>N-(intOf v8).toNat)
 case atStart=>exact⟨0,Nat.zero_le _,rfl,ae (aK _ _),ae rfl⟩
 case round=>
  obtain⟨k,hk,rfl,hb,hno⟩:=hrel;have HW:=ae (after HB.out hb.out);by_cases hlt:k<N
  ·have hkl:k<l.length:=by have:=HN.out;omega
   obtain⟨q,o,rfl,hc⟩:=HA.out aY;have htk:=List.take_succ_eq_append_getElem hkl;obtain⟨c0,c1,c2⟩:=G9 (ag hkl);generalize l[k]=X at htk c0 c1 c2;have d0:=ak (hc _ _ c0) HW.out;have d1:=ak (hc _ _ c1) HW.out;have d2:=ak (hc _ _ c2) HW.out;rw[←Nat.add_assoc]at d1 d2;have x0:=ak (HP.out.cell 0) hb.out;have x1:=ak (HP.out.cell 1) hb.out;have x2:=ak (HP.out.cell 2) hb.out;simp at x0 x1 x2;obtain⟨yv,yh,yl⟩:=X;simp only at d0 d1 d2;clear c0 c1 c2 hc;by_cases hX:(⟨yv,yh,yl⟩:Ad)=⟨v6,hi,lo⟩
   ·have hres:R=true:=by
     rw[HR.out];have:(l.take (k+1)).any (fun y=>decide (y=(⟨v6,hi,lo⟩:Ad)))=true:=by rw[htk,List.any_append];simp[hX]
     obtain⟨y,hy,hys⟩:=List.any_eq_true.1 this;exact List.any_eq_true.2 ⟨y,List.mem_of_mem_take hy,hys⟩
    have ej:=ae hres;have hq:=fun W=>aaW ⟨v6,hi,lo⟩ ⟨yv,yh,yl⟩ W
    rw[decide_eq_true hX]at hq;simp only at hq;clear hres htk hX;go_upto_region 4 with fail
    go_quiet (fail);go_wp2_with fail
    go_ret;exact⟨⟨_,rfl,by rw[ej.out];exact decide_eq_true aY⟩,HW.out.gy _⟩
   ·have F7:af (((l.take (k+1)).any fun y=>decide (y=(⟨v6,hi,lo⟩:Ad)))=false):=ae (by rw[htk,List.any_append,hno.out];simp[hX]);have hq:=fun W=>aaW ⟨v6,hi,lo⟩ ⟨yv,yh,yl⟩ W
    rw[decide_eq_false hX]at hq;simp only at hq;clear htk hX;go_upto_region 4 with fail
    go_quiet (fail);go_wp2_with fail
    go_roundw
    case rel=>exact⟨k+1,by omega,by go_num,ae (hb.out.gy _),F7⟩
    case measure=>simp[intOf];omega
  ·obtain rfl:k=N:=by omega
   have hres:R=false:=by
    have:=hno.out;rw[aO (by have:=HN.out;omega)]at this;rw[HR.out];exact this
   have ej:=ae hres;clear hres;go_wp2_with fail
   go_ret;exact⟨⟨_,rfl,by rw[ej.out];rfl⟩,HW.out⟩
theorem WZ{w:World}(l:List Ad){v:Value}(hl:l.length≤4000000)(hr:aV w v l.length 3 (cR l))(x:Ad):Calls ai 60 #[v,.agg x.cells] w (Got (.bool (l.any fun y=>decide (y=x))) w):=by
 have HI:=ae (fun u(hu:Below w.heap.size w u)=>Rq l hl (hr.below hu) x);obtain⟨A,cap,rfl,_,_⟩:=hr;generalize(l.any fun y=>decide (y=x))=R at HI⊢;generalize l.length=N at HI⊢;obtain⟨v6,hi,lo⟩:=x;unfold Ad.cells at HI⊢;simp only at HI⊢;obtain⟨HP,HB⟩:=aQ (aG.new w 44 #[.bool v6,.int .u64 hi,.int .u64 lo]) (boxed w (.cells #[.bool v6,.int .u64 hi,.int .u64 lo] 44));go_enter Tryz.func60,Tryz.ntmps60;go_upto_region 1 with fail
 generalize w.alloc (.cells #[.bool v6,.int .u64 hi,.int .u64 lo] 44)=w1 at HP HB⊢;generalize w.heap.size=P at HP⊢;obtain⟨x0,x1,x2⟩:=oM HP;go_wp2_with(go_at_call 126;(with_reducible refine(HI.out _ HB.out).mono ?_);rintro r w2⟨⟨z,rfl,hz⟩,e2⟩)
 go_ret;exact⟨by rw[←hz];rfl,after HB.out e2⟩
def W3(l:List WY):List Value:=l.flatMap fun X=>X.cells.toList
def M3(w:World)(v:Value)(l:List Pe):Prop:=∃xs:List WY,xs.map (·.x)=l∧aV w v xs.length 8 (W3 xs)∧∀X∈xs,yC w X
theorem M3.below{w w':World}{v:Value}{l:List Pe}(h:M3 w v l)(hb:Below w.heap.size w w'):M3 w' v l:=by
 obtain⟨xs,h1,h2,h3⟩:=h;exact⟨xs,h1,h2.below hb,fun X hX=>(h3 X hX).below hb⟩
theorem M3.shape{w:World}{v:Value}{l:List Pe}(h:M3 w v l):∃A cap,v=.slice A l.length cap:=by
 obtain⟨xs,h1,h2,_⟩:=h;have:=h2.shape;rw[←h1,List.length_map];exact this
theorem dJ{P:Program}{w:World}{a:Addr}{m:Mode}(f:Fn)(bs lb:Array Value):(store a (.func f bs lb) m).run P w=stored P w a (.func f bs lb) m:=run_store P w a _ m rfl
attribute [local go_sem] dJ
theorem W8(l:List ByteArray):∀u∈strCells l,u.oneCell'=true:=fun u hu=>by
 unfold strCells at hu;obtain⟨s,_,rfl⟩:=List.mem_map.1 hu;rfl
theorem Keeps.low{S:Nat→Prop}{B:Nat}{a b:World}(h:Keeps S a b)(hS:∀k,S k→B≤k)(hB:B≤a.heap.size):Below B a b:=h.below hS hB
def tj(e:TypeId)(size n:Nat)(xs:List Value)(w:World)(r:Ending)(w':World):Prop:=(∃A c,r=.returned (.slice A n c)∧w'.ownsRow w.heap.size e size (.slice A n c) n xs)∧Below w.heap.size w w'
theorem qy{w:World}{a:Addr}{n cap size:Nat}{xs:List Value}(h:aV w (.slice (some a) n cap) n size xs):xs.length=n*size∧∀j u,xs[j]? =some u→w.cell? (a.add j)=some u:=by
 obtain⟨A',cap',e,hl,hc⟩:=h;injection e with e1 _ e2
 subst e1;refine⟨hl,fun j u hu=>?_⟩;rcases Nat.eq_zero_or_pos n with h|h
 ·subst h;have hx:xs=[]:=bS (by simpa using hl);rw[hx]at hu;cases hu
 ·obtain⟨g,o,e1,hcc⟩:=hc h;injection e1 with e1
  subst e1;rw[addr_add];exact hcc j u hu
theorem qA{w:World}{n cap size:Nat}{xs:List Value}(h:aV w (.slice none n cap) n size xs):n=0∧xs=[]:=by
 obtain⟨A',cap',e,hl,hc⟩:=h;injection e with e1 _ e2
 subst e1;rcases Nat.eq_zero_or_pos n with h|h
 ·subst h;exact⟨rfl,bS (by simpa using hl)⟩
 ·obtain⟨g,o,e1,_⟩:=hc h;cases e1
theorem jQ{w u:World}{a:Addr}{v:Value}(h:w.cell? a=some v)(hb:Below w.heap.size w u):u.cell? a=some v:=(hb.cell (World.block_lt_of_cell? w _ h)).trans h
theorem M9{w:World}{v:Value}{n:Nat}{xs:List Value}(h:aV w v n 1 xs)(hn:n≤2000000)(h1:∀u∈xs,u.oneCell'=true):Calls ai 108 #[v] w (tj 9 1 n xs w):=by
 obtain⟨A,cap,rfl⟩:=h.shape;cases A with
 |none=>
  obtain⟨rfl,rfl⟩:=qA h;clear h;have e1:∀W,(binOp .eql 27 (.slice none 0 cap) (.slice none 0 0)).run ai W=.ok (.bool true) W:=fun _=>by kernel_rfl
  go_enter Tryz.func108,Tryz.ntmps108;go_wp2_with fail
  go_ret;exact⟨⟨none,0,rfl,World.ownsRow_nil _ _ _ _⟩,aK _ _⟩
 |some a=>
  obtain⟨hl,hnews⟩:=qy h;obtain⟨i0,hi,hz0,hz1,hz2⟩:=info_parts qc;have HB:=ae (boxed w (.cells #[] 9));have HO:=ae (World.ownsRow_lit (e:=9) (size:=1) (base:=w.heap.size) w #[] 0 (aw _) (by unfold maxLen;omega) rfl);have Rr:=ae fun j u hu=>jQ (hnews j u hu) HB.out
  obtain⟨HL,H1⟩:=aQ hl h1;clear h hl hnews h1;have e1:∀W,(binOp .eql 27 (.slice (some a) n cap) (.slice none 0 0)).run ai W=.ok (.bool false) W:=fun _=>by kernel_rfl
  go_enter Tryz.func108,Tryz.ntmps108;go_wp2_with(at_builtin;refine wpList_append_own _ rfl _ _ 27 rfl w.heap.size 9 i0 (.string ByteArray.empty) 1 16 Tryz.underlying27 hi hz0 hz1 hz2 rfl aI _ 0 [] rfl HO.out a n cap xs rfl HL.out Rr.out H1.out (by unfold maxLen;omega) aY (by simp) ?_;intro v' w' ho hg hnil;obtain⟨A5,c5,rfl⟩:=aL ho;rw[Nat.zero_add]at ho;obtain⟨Vq,W9⟩:=aQ ho (HB.out.grown hg HB.out.size (fun q hq=>(HO.out.lt q hq).1));clear ho hg hnil)
  go_ret;exact⟨⟨A5,c5,rfl,by have:=Vq.out;rw[List.nil_append]at this;exact this⟩,W9.out⟩
def Fw.cells(f:Fw):Array Value:= #[.int .u8 (f.proto:Int),.bool f.src.v6,.int .u64 (f.src.hi:Int),.int .u64 (f.src.lo:Int),.bool f.dst.v6,.int .u64 (f.dst.hi:Int),.int .u64 (f.dst.lo:Int),.int .u16 (f.sent:Int),.int .u16 (f.ac9:Int)]
open Go.ChangeShapes Go.WideShapes Go.ChangeAt Go.Deep
theorem d30:ai.cellsOf 69=4:=by kernel_rfl
theorem d31:ai.cellsOf 49=8:=by kernel_rfl
theorem d32:ai.cellsOf 46=1:=by kernel_rfl
theorem d33:ai.cellsOf 47=1:=by kernel_rfl
theorem d34:ai.cellsOf 23=1:=by kernel_rfl
def aaX(x:Ad×Nat):List Value:=[.bool x.1.v6,.int .u64 (x.1.hi:Int),.int .u64 (x.1.lo:Int),.int .u16 (x.2:Int)]
def Xa(l:List (Ad×Nat)):List Value:=l.flatMap aaX
structure aaY(w:World)(X:WY):Prop where
 mem:yC w X
 ends:∃es:List (Ad×Nat),aV w X.en es.length 4 (Xa es)∧es.length≤1048576
 ok:∀b∈X.x.aH,b.Ok
 tl:X.x.tags.length≤1048576
 al:X.x.aH.length≤1048576
theorem aaY.below{w w':World}{X:WY}(h:aaY w X)(hb:Below w.heap.size w w'):aaY w' X:=by
 obtain⟨es,h1,h2⟩:=h.ends;exact⟨h.mem.below hb,⟨es,h1.below hb,h2⟩,h.ok,h.tl,h.al⟩
section
variable{H:Type}{enc:TypeId×Value→H}{w:World}{base:Nat}{sp:Nat→Bool}{held:Bool}
theorem Xb:∀n cs y,DataW.trod enc ai w base sp held n 44 cs=some y→∃x:Ad,cs=x.cells.toList∧x.Ok:=by
 intro n cs y h;obtain⟨a,ha,rfl⟩:=Rj h;exact⟨a,rfl,ha⟩
theorem aaZ:∀n cs y,DataW.trod enc ai w base sp held n 67 cs=some y→∃x:Nat,cs=[.int .u16 x]∧x<65536:=by
 intro n cs y h;obtain⟨z,rfl,_,hw⟩:=DataW.trod_int Tryz.underlying67 h;obtain⟨m,rfl,hm⟩:=DK (b:=65535) hw ⟨by decide,by decide⟩;exact⟨m,rfl,by omega⟩
theorem Rt:∀n cs y,DataW.trod enc ai w base sp held n 22 cs=some y→∃x:Nat,cs=[.int .u64 x]∧x<18446744073709551616:=by
 intro n cs y h;obtain⟨z,rfl,_,hw⟩:=DataW.trod_int Tryz.underlying22 h;obtain⟨m,rfl,hm⟩:=DK (b:=18446744073709551615) hw ⟨by decide,by decide⟩;exact⟨m,rfl,by omega⟩
end
abbrev En:=Ad×Nat
structure Pr where
 key:ByteArray
 bj:ByteArray
 user:ByteArray
 tags:List ByteArray
 aH:List Ad
 exp:Nat
 aW:Nat
 ends:List En
structure Ry where
 id:Nat
 key:ByteArray
 fin:En
structure Mp where
 version:Nat
 aJ:List Pr
 aF:List Ry
 policy:ByteArray
structure Dl where
 base:Nat
 version:Nat
 aM:List Pr
 gone:List ByteArray
 ja:Bool
 aF:List Ry
 i7:Bool
 policy:ByteArray
 hash:ByteArray
deriving instance DecidableEq for Pr
deriving instance DecidableEq for Ry
deriving instance DecidableEq for Mp
deriving instance DecidableEq for Dl
def qB(a b:ByteArray):Bool:=Op.bytesLess a.toList b.toList
def cC{α:Type}(lt:α→α→Bool):List α→Bool
 |x::y::r=>lt x y&&cC lt (y::r)
 |_=>true
def lC(p:Pr):Bool:=decide (p.key.size=32)&&decide (p.bj.size=32)&&cn p.user&&decide (p.tags.length≤8)&&decide (1≤p.aH.length)&&decide (p.aH.length≤4)&&decide (p.ends.length≤8)&&((p.ends.all fun e=>e.1.may)&&decide p.ends.Nodup)&&p.tags.all cn&&cC qB p.tags&&p.aH.all Ad.may&&cC uQ p.aH
def ef(a b:Pr):Bool:=qB a.key b.key
def iN(l:List Pr):Bool:=decide (l.length≤64)&&l.all lC&&cC ef l
def vI(r:Ry):Bool:=decide (r.key.size=32)&&r.fin.1.may
def jb(l:List Ry):Bool:=decide (l.length≤8)&&cC (fun a b:Ry=>decide (a.id<b.id)) l&&l.all vI
def kJ(s:ByteArray):Bool:=decide ((ic s.data.toList).2.1=0)
def ip(m:Mp):Bool:=decide (1≤m.version)&&iN m.aJ&&jb m.aF&&kJ m.policy&&(decide (m.aJ.flatMap (·.aH)).Nodup&&m.aJ.all fun p=>decide (p.aW=0)||m.aF.any fun r=>decide (r.id=p.aW))
def mR(l:List Pr)(k:ByteArray):Option Pr:=l.find? fun p=>decide (p.key=k)
def lD(d:Dl):Bool:=decide (1≤d.base)&&decide (d.base<d.version)&&decide (d.hash.size=32)&&decide (d.gone.length≤64)&&(d.ja||d.aF.isEmpty)&&(d.i7||decide (d.policy.size=0))&&(d.gone.all fun k=>decide (k.size=32)&&(mR d.aM k).isNone)&&cC qB d.gone&&iN d.aM&&jb d.aF&&kJ d.policy
def pU(s:ByteArray):List UInt8:=fw 2 s.size++s.data.toList
def xi(a:Ad):List UInt8:=if a.v6 then 6::(fw 8 a.hi++fw 8 a.lo)else 4::fw 4 a.lo
def DN(e:En):List UInt8:=xi e.1++fw 2 e.2
def cF{α:Type}(f:α→List UInt8)(l:List α):List UInt8:=fw 2 l.length++l.flatMap f
def xj(p:Pr):List UInt8:=p.key.data.toList++(p.bj.data.toList++(pU p.user++(cF pU p.tags++(cF xi p.aH++(fw 8 p.exp++(fw 1 p.aW++cF DN p.ends))))))
def DO(r:Ry):List UInt8:=fw 1 r.id++(r.key.data.toList++DN r.fin)
def xJ(m:Mp):List UInt8:=fw 8 m.version++(cF xj m.aJ++(cF DO m.aF++pU m.policy))
def encR(may:Bool)(b:List UInt8):ByteArray×Nat:=if may=false then(⟨#[]⟩,220)else if 32768<b.length then(⟨#[]⟩,4)else(iF b,0)
def cJ(m:Mp):ByteArray×Nat:=encR (ip m) (xJ m)
abbrev Ps(α:Type):=List UInt8→Option (α×List UInt8)
def pL(l:List UInt8):Nat:=l.foldl (fun x c=>x*256+c.toNat) 0
def jL(n:Nat):Ps (List UInt8):=fun t=>if n≤t.length then some (t.take n,t.drop n)else none
def oL(n:Nat):Ps Nat:=fun t=>(jL n t).map fun x=>(pL x.1,x.2)
def xK(n:Nat):Ps ByteArray:=fun t=>(jL n t).map fun x=>(iF x.1,x.2)
def dQ{α β:Type}(p:Ps α)(f:α→Ps β):Ps β:=fun t=>(p t).bind fun x=>f x.1 x.2
def pd{α:Type}(x:α):Ps α:=fun t=>some (x,t)
def Na:Ps ByteArray:=dQ (oL 2) fun n=>if 32768<n then fun _=>none else xK n
def adP:Ps Ad:=dQ (oL 1) fun k=>if k=4 then dQ (oL 4) fun l=>pd ⟨false,0,l⟩else if k=6 then dQ (oL 8) fun h=>dQ (oL 8) fun l=>pd ⟨true,h,l⟩else fun _=>none
def enP:Ps En:=dQ adP fun a=>dQ (oL 2) fun p=>pd (a,p)
def vJ{α:Type}(p:Ps α):Nat→Ps (List α)
 |0=>pd []
 |n+1=>dQ p fun x=>dQ (vJ p n) fun l=>pd (x::l)
def tm{α:Type}(p:Ps α):Ps (List α):=dQ (oL 2) (vJ p)
def prP:Ps Pr:=dQ (xK 32) fun k=>dQ (xK 32) fun d=>dQ Na fun u=>dQ (tm Na) fun ts=>dQ (tm adP) fun as_=>dQ (oL 8) fun ex=>dQ (oL 1) fun rl=>dQ (tm enP) fun es=>pd ⟨k,d,u,ts,as_,ex,rl,es⟩
def ryP:Ps Ry:=dQ (oL 1) fun i=>dQ (xK 32) fun k=>dQ enP fun e=>pd ⟨i,k,e⟩
def mpP:Ps Mp:=dQ (oL 8) fun v=>dQ (tm prP) fun ps=>dQ (tm ryP) fun rs=>dQ Na fun t=>pd ⟨v,ps,rs,t⟩
def Mp.zero:Mp:=⟨0,[],[],⟨#[]⟩⟩
def Dl.zero:Dl:=⟨0,0,[],[],false,[],false,⟨#[]⟩,⟨#[]⟩⟩
def fK{α:Type}(p:Ps α)(s:List UInt8):Option α:=if 32768<s.length then none else match p s with
 |some (x,[])=>some x
 |_=>none
def xM(s:ByteArray):Mp×Nat:=match fK mpP s.data.toList with
 |none=>(Mp.zero,8)
 |some m=>if(cJ m).2=0 then(m,0)else(Mp.zero,(cJ m).2)
def iy(B b:Nat)(D:List UInt8)(w:World):Prop:=Lib.IsBuilder 93 5 B b (Lib.byteCells D) w
structure Wrote(B b:Nat)(w w':World):Prop where
 below:Below B w w'
 kept:∀g t cs,aG w g t cs→g≠b→t≠5→aG w' g t cs
theorem Wrote.refl(B b:Nat)(w:World):Wrote B b w w:=⟨aK _ _,fun _ _ _ h _ _=>h⟩
theorem Wrote.trans{B b:Nat}{w1 w2 w3:World}(h:Wrote B b w1 w2)(h2:Wrote B b w2 w3):Wrote B b w1 w3:=⟨h.below.trans h2.below,fun g t cs hg hne ht=>h2.kept g t cs (h.kept g t cs hg hne ht) hne ht⟩
theorem Wrote.of{B b:Nat}{w1 w2:World}(hB:B≤w1.heap.size)(h:Below w1.heap.size w1 w2):Wrote B b w1 w2:=⟨h.mono hB,fun _ _ _ hg _ _=>hg.below h hg.lt⟩
theorem iy.lt{B b:Nat}{D:List UInt8}{w:World}(h:iy B b D w):b<w.heap.size:=h.elim (fun h=>h.lt) (fun h=>h.lt)
theorem iy.ge{B b:Nat}{D:List UInt8}{w:World}(h:iy B b D w):B≤b:=h.elim (fun h=>h.1) (fun h=>h.1)
theorem tn{B b:Nat}{p:Value}{bs:List Value}{w w':World}(h:Lib.BuilderAt 93 5 B b p bs w)(hb:Below w.heap.size w w'):Lib.BuilderAt 93 5 B b p bs w':=by
 obtain⟨hB,v,hbk,hown,hne⟩:=h;exact⟨hB,v,(aG.below (g:=b) hbk hb (aG.lt hbk)),own_below hown hb,hne⟩
theorem iy.below{B b:Nat}{D:List UInt8}{w w':World}(h:iy B b D w)(hb:Below w.heap.size w w'):iy B b D w':=Or.imp (fun h=>tn h hb) (fun h=>tn h hb) h
theorem Xc:liesAt ai ai.depth 93 (2/ai.cellsOf 93) 0 91 1=true:=by kernel_rfl
theorem DR(b:Nat)(w:World)(h0:w.cell? ⟨b,0,none⟩=some (.pointer (some ⟨b,0,none⟩))):Calls ai 185 #[.pointer (some ⟨b,0,none⟩)] w fun r w'=>r=.returned (.tuple #[])∧w'=w:=by
 obtain⟨j,hj,_⟩:=Option.map_eq_some_iff.1 Tryz.Builder_Extra_169.sizeBuilder;go_enter Tryz.func185,Tryz.ntmps185;go_wp2_with fail
 rw[Lib.run_neq_ptr_same w _ Tryz.underlying88 hj];go_wp2_with fail
 go_end0
 exact⟨rfl,rfl⟩
theorem zX(b:Nat)(w:World)(h0:w.cell? ⟨b,0,none⟩=some (.pointer none))(hsh:w.shape? b=some (93,2))(hfz:w.frozen? ⟨b,0,none⟩=false):Calls ai 185 #[.pointer (some ⟨b,0,none⟩)] w fun r w'=>r=.returned (.tuple #[])∧w'=w.setCell ⟨b,0,none⟩ (.pointer (some ⟨b,0,none⟩)):=by
 obtain⟨j,hj,hjs⟩:=Option.map_eq_some_iff.1 Tryz.Builder_Extra_169.sizeBuilder;go_enter Tryz.func185,Tryz.ntmps185;go_wp2_with fail
 rw[Lib.run_to_unsafe w ⟨b,0,none⟩ Tryz.underlying88 Tryz.underlying265 hj (by rw[hjs];decide) hsh (Nat.zero_lt_succ 1)];simp only[Result.andThen];rw[Oper.upon_value];go_wp2_with fail
 rw[run_callFunc_extern Tryz.func224 bJ bJ bJ (e:=Extern.AbiNoEscape.same) bJ];rw[Lib.run_noEscape];simp only[Result.andThen];rw[Oper.upon_value];go_wp2_with fail
 rw[Lib.run_from_unsafe w ⟨b,0,none⟩ Tryz.underlying265 Tryz.underlying88 hj hsh Xc];simp only[Result.andThen];rw[Oper.upon_value];go_wp2_with fail
 go_end0
 exact⟨rfl,rfl⟩
theorem Hf{B b:Nat}{bs:List Value}{w:World}(h:Lib.IsBuilder 93 5 B b bs w):Calls ai 185 #[.pointer (some ⟨b,0,none⟩)] w fun r w'=>r=.returned (.tuple #[])∧Lib.BuilderAt 93 5 B b (.pointer (some ⟨b,0,none⟩)) bs w'∧Below B w w'∧∀g t cs,aG w g t cs→g≠b→aG w' g t cs:=by
 rcases h with h|h
 ·refine(zX b w h.cell0 h.shape h.frozen0).mono ?_;rintro r w'⟨rfl,rfl⟩;exact⟨rfl,h.used _,(aK B w).setCell (p:=⟨b,0,none⟩) h.1 _,fun g t cs hg hne=>hg.far hne _⟩
 ·refine(DR b w h.cell0).mono ?_;rintro r w'⟨rfl,rfl⟩;exact⟨rfl,h,aK B _,fun g t cs hg _=>hg⟩
theorem Hh{B b:Nat}{bs:List Value}(s:ByteArray){w:World}(h:Lib.IsBuilder 93 5 B b bs w)(hlen:bs.length+s.size≤140737488355328)(hBw:B≤w.heap.size):Calls ai 131 #[.pointer (some ⟨b,0,none⟩),.string s] w fun r w'=>r=.returned (.tuple #[.int .i64 (s.size:Int),.nilIface])∧Lib.BuilderAt 93 5 B b (.pointer (some ⟨b,0,none⟩)) (bs++Lib.strCells s) w'∧Below B w w'∧∀g t cs,aG w g t cs→g≠b→t≠5→aG w' g t cs:=by
 obtain⟨i0,hi,hz0,hz1,hz2⟩:=info_parts Tryz.Builder_Extra_169.infoByte;have hcc:=ae (Hf h);go_enter Tryz.func131,Tryz.ntmps131;go_wp2_with fail
 go_at_call 185;refine hcc.out.mono ?_;rintro r w1⟨rfl,h1,hb1,hk1⟩;have Hk1:=ae hk1;clear hk1;obtain⟨hB,v,hbk,hown,hne⟩:=h1;have c1:w1.cell? ⟨b,1,none⟩=some v:=by rw[Lib.cell_of_heap hbk];rfl
 go_wp2_with(at_builtin;refine Lib.wpList_append_own_string _ rfl _ _ 89 9 rfl B 5 i0 Tryz.underlying89 Tryz.underlying9 hi hz0 hz1 hz2 _ _ _ rfl hown s rfl ?c3 ?c4 ?c5 ?_)
 case c3=>unfold maxLen;omega
 case c4=>omega
 case c5=>have:=hb1.size;omega
 intro v' w2 hown' hgrow _;have hlt:b<w1.heap.size:=by
  rcases Nat.lt_or_ge b w1.heap.size with h'|h'
  ·exact h'
  ·simp[Array.getElem?_eq_none h']at hbk
 have hb2:w2.heap[b]? =some (.cells #[.pointer (some ⟨b,0,none⟩),v] 93 (0,0)):=by
  rw[hgrow.block b hlt (fun e=>hne e.symm)];exact hbk
 have d1:w2.cell? ⟨b,1,none⟩=some v:=by rw[Lib.cell_of_heap hb2];rfl
 have f1:w2.frozen? ⟨b,1,none⟩=false:=Lib.frozen_of_heap hb2 1;obtain⟨ao,n',cap,rfl⟩:∃ao n' cap,v'=.slice ao n' cap:=by
  rcases hown'.2 with⟨hv,_⟩|⟨g,cap,cur,hv,_⟩
  ·exact⟨_,_,_,hv⟩
  ·exact⟨_,_,_,hv⟩
 go_wp2_with fail
 go_ret2;refine⟨rfl,?_,?_,?_⟩
 ·exact Lib.BuilderAt.put (T:=93) (e:=5) hB hb2 (bs':=bs++Lib.strCells s) (by simpa[Lib.strCells_length]using hown') (by decide)
 ·exact(hb1.grown hgrow (by have:=hb1.size;omega) (fun k hk=>(hown.lt k hk).1)).setCell (p:=⟨b,1,none⟩) hB _
 ·intro g t cs hg hne ht;have h1:=Hk1.out g t cs hg hne;exact(h1.grown hgrow (fun e=>Lib.ownBlock_ne hown h1 ht e.symm)).far (p:=⟨b,1,none⟩) hne _
theorem Ru(D:List UInt8)(s:ByteArray):Lib.byteCells D++Lib.strCells s=Lib.byteCells (D++s.data.toList):=by
 simp[Lib.byteCells,Lib.strCells]
theorem Hj{B b:Nat}{D:List UInt8}(s:ByteArray){w:World}(h:iy B b D w)(hlen:D.length+s.size≤140737488355328)(hBw:B≤w.heap.size):Calls ai 131 #[.pointer (some ⟨b,0,none⟩),.string s] w fun r w'=>r=.returned (.tuple #[.int .i64 (s.size:Int),.nilIface])∧iy B b (D++s.data.toList) w'∧Wrote B b w w':=by
 refine(Hh s h (by rw[Lib.byteCells_length];exact hlen) hBw).mono ?_;rintro r w'⟨rfl,h1,h2,h3⟩;rw[Ru]at h1;exact⟨rfl,.inr h1,h2,h3⟩
def fF(L:List ByteArray):List UInt8:=L.flatMap fun s=>s.data.toList
theorem Nb{L:List ByteArray}{k:Nat}{s:ByteArray}(h:L[k]? =some s):fF (L.take (k+1))=fF (L.take k)++s.data.toList:=by
 rw[List.take_add_one,h];simp[fF]
theorem zY(L:List ByteArray)(k:Nat):(fF (L.take k)).length≤(fF L).length:=by
 have:=congrArg (fun l=>(fF l).length) (List.take_append_drop k L);simp only[fF,List.flatMap_append,aj]at this⊢;omega
theorem put_any{B b g:Nat}{D:List UInt8}{w:World}(L:List ByteArray)(h:iy B b D w)(hg:aG w g 9 (L.map Value.string).toArray)(hgb:g≠b)(hL:L.length≤4000000)(hlen:D.length+(fF L).length≤140737488355328)(hBw:B≤w.heap.size)(n:Nat)(hn:n=L.length):Calls ai 62 #[.pointer (some ⟨b,0,none⟩),.slice (some ⟨g,0,none⟩) n n] w fun r w'=>r=.returned (.tuple #[])∧iy B b (D++fF L) w'∧Wrote B b w w':=by
 obtain⟨HG,HP,HN,HLen⟩:=fH hg h hn hlen;rw[←hn]at hL;clear h hg hn hlen;obtain⟨R,hR⟩:∃r,r=D++fF L:=⟨_,rfl⟩;rw[←hR];have HR:=ae hR;clear hR;go_enter Tryz.func62,Tryz.ntmps62;go_wp2_with fail
 go_loopw [8] (fun v8 wr=>∃k:Nat,k≤n∧v8=.int .i64 k∧af (iy B b (D++fF (L.take k)) wr)∧af (Wrote B b w wr)) (fun v8 _=>n-(intOf v8).toNat)
 case atStart=>exact⟨0,Nat.zero_le _,rfl,ae (by rw[List.take_zero,show fF []=[]from rfl,List.append_nil];exact HP.out),ae (Wrote.refl _ _ _)⟩
 case round=>
  obtain⟨k,hk,rfl,hp,hw⟩:=hrel;by_cases hlt:k<n
  ·have hkl:k<L.length:=by rw[←HN.out];exact hlt
   have hx:L[k]? =some L[k]:=ag hkl;have Xd:=Nb hx;have hle:=zY L (k+1);have c0:=(hw.out.kept _ _ _ HG.out hgb aI).cell k;rw[List.getElem?_toArray,List.getElem?_map,hx,Option.map_some]at c0;have hcall:=fun u(hu:wr=u)=>Hj L[k] hp.out (by rw[Xd]at hle;simp only[aj]at hle⊢;have:=HLen.out;rw[←ByteArray.size_data,←Array.length_toList];omega) (Nat.le_trans hBw hw.out.below.size)
   generalize L[k]=X at Xd c0 hcall;rw[List.append_assoc,←Xd]at hcall;have HC:=ae hcall;clear hcall hx Xd hle;go_wp2_with(go_at_call 131;(with_reducible refine(HC.out _ rfl).mono ?_);rintro r w2⟨rfl,hp2,hw2⟩)
   go_roundw
   case rel=>exact⟨k+1,by omega,by go_num,ae hp2,ae (hw.out.trans hw2)⟩
   case measure=>simp[intOf];omega
  ·obtain rfl:k=n:=by omega
   have hall:af (iy B b R wr):=ae (by have:=hp.out;rw[aO (by rw[HN.out];exact aw _)]at this;rw[HR.out];exact this);go_wp2_with fail
   go_end0
   exact⟨rfl,hall.out,hw.out⟩
end Go.Proofs.YtdfnhljccdoncaaGreatDoor
