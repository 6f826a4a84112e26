/- Joined out of: CnB RxL RxM CpA RwL RxO PzD NtA PeA. -/
import Derived.Test.YteflnojjjdkgmaaGreatDoorNal
set_option linter.unusedVariables false
set_option linter.unusedSimpArgs false
set_option maxHeartbeats 16000000
set_option maxRecDepth 100000
open Bool renaming eq_iff_iff→ix
open Go.Lib renaming hid→ae
open Go.Proofs.Tryz renaming prog→ag
open Go.RowKit renaming Hid→af
open Go.RowKit.Below renaming refl→aG
open List renaming getElem?_eq_getElem→ah,length_append→ai,take_of_length_le→aT,eq_nil_of_length_eq_zero→bF,flatMap_cons→afr
open Nat renaming le_refl→aw
namespace Go.Proofs.YteflnojjjdkgmaaGreatDoor
open Go.RowKit
attribute [local go_sem↓] Go.wp_at_zero Go.wp_at_succ
theorem _root_.Go.RowKit.Below.kJ{n:Nat}{w u:World}(h:Below n w u)(k:Nat):Below n w (u.drewN k):=⟨h.os,h.tape,h.output,h.size,h.block⟩
theorem dr{α:Type}(cells:α→List Value)(size:Nat)(hc:∀x,(cells x).length=size):∀(l:List α)(k:Nat)(x:α),l[k]? =some x→((l.flatMap cells).drop (k*size)).take size=cells x:=by
 intro l
 induction l with
 |nil=>intro k x h;cases h
 |cons y r ih=>
  intro k x h;cases k with
  |zero=>
   injection h with h
   subst h;rw[Nat.zero_mul,List.drop_zero,afr,List.take_append_of_le_length (by rw[hc];exact aw _),aT (by rw[hc];exact aw _)]
  |succ k=>
   rw[Nat.succ_mul,Nat.add_comm,←List.drop_drop,afr]
   conv=>lhs;arg 2;arg 2;rw[List.drop_append_of_le_length (by rw[hc];exact aw _),List.drop_of_length_le (by rw[hc];exact aw _),List.nil_append]
   exact ih k x h
theorem aP{α:Type}(cells:α→List Value)(size:Nat)(hc:∀x,(cells x).length=size){l:List α}{k:Nat}{x:α}(h:l[k]? =some x){r:Nat}{u:Value}(hu:(cells x)[r]? =some u):(l.flatMap cells)[k*size+r]? =some u:=by
 have hr:r<size:=by rw[←hc x];exact(List.getElem?_eq_some_iff.1 hu).1
 rw[←dr cells size hc l k x h,List.getElem?_take,if_pos hr,List.getElem?_drop]at hu;exact hu
theorem LZ{α:Type}(l:List α)(q:α→Bool):((List.range l.length).any fun k=>match l[k]? with|some x=>q x|none=>false)=l.any q:=by
 rw[ix,List.any_eq_true,List.any_eq_true];constructor
 ·rintro⟨k,_,h⟩;cases hx:l[k]? with
  |none=>simp[hx]at h
  |some x=>simp only[hx]at h;exact⟨x,List.mem_of_getElem? hx,h⟩
 ·rintro⟨x,hx,h⟩;obtain⟨k,hk⟩:=List.getElem?_of_mem hx;exact⟨k,List.mem_range.2 (List.getElem?_eq_some_iff.1 hk).1,by simp only[hk];exact h⟩
theorem tQ(u v p q:Nat)(r s:Bool)(d:Nat)(w:World):(Op.equalIn (d+3) 54 (.agg #[.bool r,.int .u64 u,.int .u64 v]) (.agg #[.bool s,.int .u64 p,.int .u64 q])).run ag w=.ok (r==s&&(u==p&&v==q)) w:=by
 have h32:ag.stoodInHeld 54=false:=by kernel_rfl
 rw[run_equalIn_struct w (d+2) 54 _ _ bg h32];simp[go_sem,Tryz.underlying54,Tryz.underlying4,Tryz.underlying22,part,Op.equalIn];by_cases h1:r=s
 ·by_cases h2:u=p
  ·by_cases h3:v=q
   ·subst h1 h2 h3;simp
   ·have h4:¬(v:Int)=(q:Int):=by omega
    subst h1 h2;simp[h3,h4]
  ·have h4:¬(u:Int)=(p:Int):=by omega
   subst h1;simp[h2,h4]
 ·simp[h1]
theorem aci(x y:Ad)(w:World):(binOp .eql 54 (.agg #[.bool x.v6,.int .u64 (x.hi:Int),.int .u64 (x.lo:Int)]) (.agg #[.bool y.v6,.int .u64 (y.hi:Int),.int .u64 (y.lo:Int)])).run ag w=.ok (.bool (decide (y=x))) w:=by
 have e:(x.v6==y.v6&&(x.hi==y.hi&&x.lo==y.lo))=decide (y=x):=by
  obtain⟨a,b,c⟩:=x;obtain⟨d,e,f⟩:=y;rw[ix];simp only[Bool.and_eq_true,beq_iff_eq,decide_eq_true_eq,Ad.mk.injEq];constructor
  ·rintro⟨rfl,rfl,rfl⟩;exact⟨rfl,rfl,rfl⟩
  ·rintro⟨rfl,rfl,rfl⟩;exact⟨rfl,rfl,rfl⟩
 simp only[binOp];simp[Op.equal,Op.maxDepth,tQ x.hi x.lo y.hi y.lo x.v6 y.v6 9997,e]
theorem Gp(a:Ad):a.cells.toList.length=3:=rfl
theorem Gq{l:List Ad}{k:Nat}{x:Ad}(h:l[k]? =some x):(cO l)[k*3]? =some (.bool x.v6)∧(cO l)[k*3+1]? =some (.int .u64 (x.hi:Int))∧(cO l)[k*3+2]? =some (.int .u64 (x.lo:Int)):=⟨aP _ 3 Gp h (r:=0) rfl,aP _ 3 Gp h (r:=1) rfl,aP _ 3 Gp h (r:=2) rfl⟩
theorem QG{w:World}(l:List Ad){v:Value}(hl:l.length≤4000000)(hr:aW w v l.length 3 (cO l))(x:Ad):Calls ag 115 #[v,.agg x.cells] w fun r w'=>(∃z:Int,r=.returned (.int .i64 z)∧decide (0≤z)=l.any fun y=>decide (y=x))∧Below w.heap.size w w':=by
 obtain⟨A,cap,rfl,hlen,hA⟩:=hr;obtain⟨N,hN⟩:∃n,n=l.length:=⟨_,rfl⟩;obtain⟨R,hR⟩:∃r,r=l.any fun y=>decide (y=x):=⟨_,rfl⟩
 rw[←hN]at hA hl⊢;rw[←hR];obtain⟨v6,hi,lo⟩:=x;obtain⟨HA,HN,HR⟩:=bj hA hN hR;clear hA hN hlen hR;unfold Ad.cells;simp only;obtain⟨HP,HB⟩:=aI (aD.new w 54 #[.bool v6,.int .u64 hi,.int .u64 lo]) (boxed w (.cells #[.bool v6,.int .u64 hi,.int .u64 lo] 54));go_enter Tryz.func115,Tryz.ntmps115;go_upto_region 1 with fail
 generalize w.alloc (.cells #[.bool v6,.int .u64 hi,.int .u64 lo] 54)=w1 at HP HB⊢;generalize hP:w.heap.size=P at HP⊢;have HPe:=ae hP;clear hP;go_wp2_with fail
 go_loopw [8] (fun v8 wr=>∃k:Nat,k≤N∧v8=.int .i64 k∧af (Below w1.heap.size w1 wr)∧af (((l.take k).any fun y=>decide (y=(⟨v6,hi,lo⟩:Ad)))=false)) (fun v8 _=>N-(intOf v8).toNat)
 case atStart=>exact⟨0,Nat.zero_le _,rfl,ae (aG _ _),ae rfl⟩
 case round=>
  obtain⟨k,hk,rfl,hb,hno⟩:=hrel;have HW:=ae (after HB.out hb.out);by_cases hlt:k<N
  ·have hkl:k<l.length:=by have:=HN.out;omega
   obtain⟨q,o,rfl,hc⟩:=HA.out aM;have htk:=List.take_succ_eq_append_getElem hkl;obtain⟨c0,c1,c2⟩:=Gq (ah hkl);generalize l[k]=X at htk c0 c1 c2;have d0:=ak (hc _ _ c0) HW.out;have d1:=ak (hc _ _ c1) HW.out;have d2:=ak (hc _ _ c2) HW.out;rw[←Nat.add_assoc]at d1 d2;have x0:=ak (HP.out.cell 0) hb.out;have x1:=ak (HP.out.cell 1) hb.out;have x2:=ak (HP.out.cell 2) hb.out;simp at x0 x1 x2;obtain⟨yv,yh,yl⟩:=X;simp only at d0 d1 d2;clear c0 c1 c2 hc;by_cases hX:(⟨yv,yh,yl⟩:Ad)=⟨v6,hi,lo⟩
   ·have hres:R=true:=by
     rw[HR.out];have:(l.take (k+1)).any (fun y=>decide (y=(⟨v6,hi,lo⟩:Ad)))=true:=by rw[htk,List.any_append];simp[hX]
     obtain⟨y,hy,hys⟩:=List.any_eq_true.1 this;exact List.any_eq_true.2 ⟨y,List.mem_of_mem_take hy,hys⟩
    have fi:=ae hres;have hq:=fun W=>aci ⟨v6,hi,lo⟩ ⟨yv,yh,yl⟩ W
    rw[decide_eq_true hX]at hq;simp only at hq;clear hres htk hX;go_upto_region 4 with fail
    go_quiet (fail);go_wp2_with fail
    go_ret;exact⟨⟨_,rfl,by rw[fi.out];exact decide_eq_true aM⟩,HW.out.kJ _⟩
   ·have Ff:af (((l.take (k+1)).any fun y=>decide (y=(⟨v6,hi,lo⟩:Ad)))=false):=ae (by rw[htk,List.any_append,hno.out];simp[hX]);have hq:=fun W=>aci ⟨v6,hi,lo⟩ ⟨yv,yh,yl⟩ W
    rw[decide_eq_false hX]at hq;simp only at hq;clear htk hX;go_upto_region 4 with fail
    go_quiet (fail);go_wp2_with fail
    go_roundw
    case rel=>exact⟨k+1,by omega,by go_num,ae (hb.out.kJ _),Ff⟩
    case measure=>simp[intOf];omega
  ·obtain rfl:k=N:=by omega
   have hres:R=false:=by
    have:=hno.out;rw[aT (by have:=HN.out;omega)]at this;rw[HR.out];exact this
   have fi:=ae hres;clear hres;go_wp2_with fail
   go_ret;exact⟨⟨_,rfl,by rw[fi.out];rfl⟩,HW.out⟩
theorem V3{w:World}(l:List Ad){v:Value}(hl:l.length≤4000000)(hr:aW w v l.length 3 (cO l))(x:Ad):Calls ag 60 #[v,.agg x.cells] w (Got (.bool (l.any fun y=>decide (y=x))) w):=by
 have HI:=ae (fun u(hu:Below w.heap.size w u)=>QG l hl (hr.below hu) x);obtain⟨A,cap,rfl,_,_⟩:=hr;generalize(l.any fun y=>decide (y=x))=R at HI⊢;generalize l.length=N at HI⊢;obtain⟨v6,hi,lo⟩:=x;unfold Ad.cells at HI⊢;simp only at HI⊢;obtain⟨HP,HB⟩:=aI (aD.new w 54 #[.bool v6,.int .u64 hi,.int .u64 lo]) (boxed w (.cells #[.bool v6,.int .u64 hi,.int .u64 lo] 54));go_enter Tryz.func60,Tryz.ntmps60;go_upto_region 1 with fail
 generalize w.alloc (.cells #[.bool v6,.int .u64 hi,.int .u64 lo] 54)=w1 at HP HB⊢;generalize w.heap.size=P at HP⊢;obtain⟨x0,x1,x2⟩:=iE HP;go_wp2_with(go_at_call 115;(with_reducible refine(HI.out _ HB.out).mono ?_);rintro r w2⟨⟨z,rfl,hz⟩,e2⟩)
 go_ret;exact⟨by rw[←hz];rfl,after HB.out e2⟩
def V4(l:List V2):List Value:=l.flatMap fun X=>X.cells.toList
def L6(w:World)(v:Value)(l:List Pe):Prop:=∃xs:List V2,xs.map (·.x)=l∧aW w v xs.length 8 (V4 xs)∧∀X∈xs,yb w X
theorem L6.below{w w':World}{v:Value}{l:List Pe}(h:L6 w v l)(hb:Below w.heap.size w w'):L6 w' v l:=by
 obtain⟨xs,h1,h2,h3⟩:=h;exact⟨xs,h1,h2.below hb,fun X hX=>(h3 X hX).below hb⟩
theorem L6.shape{w:World}{v:Value}{l:List Pe}(h:L6 w v l):∃A cap,v=.slice A l.length cap:=by
 obtain⟨xs,h1,h2,_⟩:=h;have:=h2.shape;rw[←h1,List.length_map];exact this
theorem dB{P:Program}{w:World}{a:Addr}{m:Mode}(f:Fn)(bs lb:Array Value):(store a (.func f bs lb) m).run P w=stored P w a (.func f bs lb) m:=run_store P w a _ m rfl
attribute [local go_sem] dB
theorem V5(l:List ByteArray):∀u∈strCells l,u.oneCell'=true:=fun u hu=>by
 unfold strCells at hu;obtain⟨s,_,rfl⟩:=List.mem_map.1 hu;rfl
theorem Keeps.low{S:Nat→Prop}{B:Nat}{a b:World}(h:Keeps S a b)(hS:∀k,S k→B≤k)(hB:B≤a.heap.size):Below B a b:=h.below hS hB
def sK(e:TypeId)(size n:Nat)(xs:List Value)(w:World)(r:Ending)(w':World):Prop:=(∃A c,r=.returned (.slice A n c)∧w'.ownsRow w.heap.size e size (.slice A n c) n xs)∧Below w.heap.size w w'
theorem qp{w:World}{a:Addr}{n cap size:Nat}{xs:List Value}(h:aW w (.slice (some a) n cap) n size xs):xs.length=n*size∧∀j u,xs[j]? =some u→w.cell? (a.add j)=some u:=by
 obtain⟨A',cap',e,hl,hc⟩:=h;injection e with e1 _ e2
 subst e1;refine⟨hl,fun j u hu=>?_⟩;rcases Nat.eq_zero_or_pos n with h|h
 ·subst h;have hx:xs=[]:=bF (by simpa using hl);rw[hx]at hu;cases hu
 ·obtain⟨g,o,e1,hcc⟩:=hc h;injection e1 with e1
  subst e1;rw[addr_add];exact hcc j u hu
theorem qq{w:World}{n cap size:Nat}{xs:List Value}(h:aW w (.slice none n cap) n size xs):n=0∧xs=[]:=by
 obtain⟨A',cap',e,hl,hc⟩:=h;injection e with e1 _ e2
 subst e1;rcases Nat.eq_zero_or_pos n with h|h
 ·subst h;exact⟨rfl,bF (by simpa using hl)⟩
 ·obtain⟨g,o,e1,_⟩:=hc h;cases e1
theorem jD{w u:World}{a:Addr}{v:Value}(h:w.cell? a=some v)(hb:Below w.heap.size w u):u.cell? a=some v:=(hb.cell (World.block_lt_of_cell? w _ h)).trans h
theorem L8{w:World}{v:Value}{n:Nat}{xs:List Value}(h:aW w v n 1 xs)(hn:n≤2000000)(h1:∀u∈xs,u.oneCell'=true):Calls ag 104 #[v] w (sK 9 1 n xs w):=by
 obtain⟨A,cap,rfl⟩:=h.shape;cases A with
 |none=>
  obtain⟨rfl,rfl⟩:=qq h;clear h;have e1:∀W,(binOp .eql 41 (.slice none 0 cap) (.slice none 0 0)).run ag W=.ok (.bool true) W:=fun _=>by kernel_rfl
  go_enter Tryz.func104,Tryz.ntmps104;go_wp2_with fail
  go_ret;exact⟨⟨none,0,rfl,World.ownsRow_nil _ _ _ _⟩,aG _ _⟩
 |some a=>
  obtain⟨hl,hnews⟩:=qp h;obtain⟨i0,hi,hz0,hz1,hz2⟩:=info_parts pW;have HB:=ae (boxed w (.cells #[] 9));have HO:=ae (World.ownsRow_lit (e:=9) (size:=1) (base:=w.heap.size) w #[] 0 (aw _) (by unfold maxLen;omega) rfl);have QH:=ae fun j u hu=>jD (hnews j u hu) HB.out
  obtain⟨HL,H1⟩:=aI hl h1;clear h hl hnews h1;have e1:∀W,(binOp .eql 41 (.slice (some a) n cap) (.slice none 0 0)).run ag W=.ok (.bool false) W:=fun _=>by kernel_rfl
  go_enter Tryz.func104,Tryz.ntmps104;go_wp2_with(at_builtin;refine wpList_append_own _ rfl _ _ 41 rfl w.heap.size 9 i0 (.string ByteArray.empty) 1 16 Tryz.underlying41 hi hz0 hz1 hz2 rfl aF _ 0 [] rfl HO.out a n cap xs rfl HL.out QH.out H1.out (by unfold maxLen;omega) aM (by simp) ?_;intro v' w' ho hg hnil;obtain⟨A5,c5,rfl⟩:=aQ ho;rw[Nat.zero_add]at ho;obtain⟨UK,V6⟩:=aI ho (HB.out.grown hg HB.out.size (fun q hq=>(HO.out.lt q hq).1));clear ho hg hnil)
  go_ret;exact⟨⟨A5,c5,rfl,by have:=UK.out;rw[List.nil_append]at this;exact this⟩,V6.out⟩
def Fw.cells(f:Fw):Array Value:= #[.int .u8 (f.proto:Int),.bool f.src.v6,.int .u64 (f.src.hi:Int),.int .u64 (f.src.lo:Int),.bool f.dst.v6,.int .u64 (f.dst.hi:Int),.int .u64 (f.dst.lo:Int),.int .u16 (f.sent:Int),.int .u16 (f.acf:Int)]
open Go.ChangeShapes Go.WideShapes Go.ChangeAt Go.Deep
def aaf(x:Ad×Nat):List Value:=[.bool x.1.v6,.int .u64 (x.1.hi:Int),.int .u64 (x.1.lo:Int),.int .u16 (x.2:Int)]
def V7(l:List (Ad×Nat)):List Value:=l.flatMap aaf
structure aag(w:World)(X:V2):Prop where
 mem:yb w X
 ends:∃es:List (Ad×Nat),aW w X.en es.length 4 (V7 es)∧es.length≤1048576
 ok:∀b∈X.x.aJ,b.Ok
 tl:X.x.tags.length≤1048576
 al:X.x.aJ.length≤1048576
theorem aag.below{w w':World}{X:V2}(h:aag w X)(hb:Below w.heap.size w w'):aag w' X:=by
 obtain⟨es,h1,h2⟩:=h.ends;exact⟨h.mem.below hb,⟨es,h1.below hb,h2⟩,h.ok,h.tl,h.al⟩
section
variable{H:Type}{enc:TypeId×Value→H}{w:World}{base:Nat}{sp:Nat→Bool}{held:Bool}
end
abbrev En:=Ad×Nat
structure Pr where
 key:ByteArray
 bh:ByteArray
 user:ByteArray
 tags:List ByteArray
 aJ:List Ad
 exp:Nat
 aY:Nat
 ends:List En
structure Ry where
 id:Nat
 key:ByteArray
 fin:En
structure Mp where
 version:Nat
 aK:List Pr
 aB:List Ry
 policy:ByteArray
structure Dl where
 base:Nat
 version:Nat
 aN:List Pr
 gone:List ByteArray
 iK:Bool
 aB:List Ry
 iJ:Bool
 policy:ByteArray
 hash:ByteArray
deriving instance DecidableEq for Pr
deriving instance DecidableEq for Ry
deriving instance DecidableEq for Mp
deriving instance DecidableEq for Dl
def qs(a b:ByteArray):Bool:=Op.bytesLess a.toList b.toList
def cw{α:Type}(lt:α→α→Bool):List α→Bool
 |x::y::r=>lt x y&&cw lt (y::r)
 |_=>true
def kZ(p:Pr):Bool:=decide (p.key.size=32)&&decide (p.bh.size=32)&&b8 p.user&&decide (p.tags.length≤8)&&decide (1≤p.aJ.length)&&decide (p.aJ.length≤4)&&decide (p.ends.length≤8)&&((p.ends.all fun e=>e.1.may)&&decide p.ends.Nodup)&&p.tags.all b8&&cw qs p.tags&&p.aJ.all Ad.may&&cw ux p.aJ
def ef(a b:Pr):Bool:=qs a.key b.key
def ie(l:List Pr):Bool:=decide (l.length≤64)&&l.all kZ&&cw ef l
def u9(r:Ry):Bool:=decide (r.key.size=32)&&r.fin.1.may
def iL(l:List Ry):Bool:=decide (l.length≤8)&&cw (fun a b:Ry=>decide (a.id<b.id)) l&&l.all u9
def kq(s:ByteArray):Bool:=decide ((gy s.data.toList).2.1=0)
def ig(m:Mp):Bool:=decide (1≤m.version)&&ie m.aK&&iL m.aB&&kq m.policy&&(decide (m.aK.flatMap (·.aJ)).Nodup&&m.aK.all fun p=>decide (p.aY=0)||m.aB.any fun r=>decide (r.id=p.aY))
def mI(l:List Pr)(k:ByteArray):Option Pr:=l.find? fun p=>decide (p.key=k)
def k9(d:Dl):Bool:=decide (1≤d.base)&&decide (d.base<d.version)&&decide (d.hash.size=32)&&decide (d.gone.length≤64)&&(d.iK||d.aB.isEmpty)&&(d.iJ||decide (d.policy.size=0))&&(d.gone.all fun k=>decide (k.size=32)&&(mI d.aN k).isNone)&&cw qs d.gone&&ie d.aN&&iL d.aB&&kq d.policy
def pP(s:ByteArray):List UInt8:=fk 2 s.size++s.data.toList
def wK(a:Ad):List UInt8:=if a.v6 then 6::(fk 8 a.hi++fk 8 a.lo)else 4::fk 4 a.lo
def C0(e:En):List UInt8:=wK e.1++fk 2 e.2
def cB{α:Type}(f:α→List UInt8)(l:List α):List UInt8:=fk 2 l.length++l.flatMap f
def wL(p:Pr):List UInt8:=p.key.data.toList++(p.bh.data.toList++(pP p.user++(cB pP p.tags++(cB wK p.aJ++(fk 8 p.exp++(fk 1 p.aY++cB C0 p.ends))))))
def C9(r:Ry):List UInt8:=fk 1 r.id++(r.key.data.toList++C0 r.fin)
def xe(m:Mp):List UInt8:=fk 8 m.version++(cB wL m.aK++(cB C9 m.aB++pP m.policy))
def encR(may:Bool)(b:List UInt8):ByteArray×Nat:=if may=false then(⟨#[]⟩,220)else if 32768<b.length then(⟨#[]⟩,4)else(gW b,0)
def cK(m:Mp):ByteArray×Nat:=encR (ig m) (xe m)
abbrev Ps(α:Type):=List UInt8→Option (α×List UInt8)
def pF(l:List UInt8):Nat:=l.foldl (fun x c=>x*256+c.toNat) 0
def jz(n:Nat):Ps (List UInt8):=fun t=>if n≤t.length then some (t.take n,t.drop n)else none
def oG(n:Nat):Ps Nat:=fun t=>(jz n t).map fun x=>(pF x.1,x.2)
def xf(n:Nat):Ps ByteArray:=fun t=>(jz n t).map fun x=>(gW x.1,x.2)
def dM{α β:Type}(p:Ps α)(f:α→Ps β):Ps β:=fun t=>(p t).bind fun x=>f x.1 x.2
def oV{α:Type}(x:α):Ps α:=fun t=>some (x,t)
def L9:Ps ByteArray:=dM (oG 2) fun n=>if 32768<n then fun _=>none else xf n
def adP:Ps Ad:=dM (oG 1) fun k=>if k=4 then dM (oG 4) fun l=>oV ⟨false,0,l⟩else if k=6 then dM (oG 8) fun h=>dM (oG 8) fun l=>oV ⟨true,h,l⟩else fun _=>none
def enP:Ps En:=dM adP fun a=>dM (oG 2) fun p=>oV (a,p)
def ve{α:Type}(p:Ps α):Nat→Ps (List α)
 |0=>oV []
 |n+1=>dM p fun x=>dM (ve p n) fun l=>oV (x::l)
def sM{α:Type}(p:Ps α):Ps (List α):=dM (oG 2) (ve p)
def prP:Ps Pr:=dM (xf 32) fun k=>dM (xf 32) fun d=>dM L9 fun u=>dM (sM L9) fun ts=>dM (sM adP) fun as_=>dM (oG 8) fun ex=>dM (oG 1) fun rl=>dM (sM enP) fun es=>oV ⟨k,d,u,ts,as_,ex,rl,es⟩
def ryP:Ps Ry:=dM (oG 1) fun i=>dM (xf 32) fun k=>dM enP fun e=>oV ⟨i,k,e⟩
def mpP:Ps Mp:=dM (oG 8) fun v=>dM (sM prP) fun ps=>dM (sM ryP) fun rs=>dM L9 fun t=>oV ⟨v,ps,rs,t⟩
def Mp.zero:Mp:=⟨0,[],[],⟨#[]⟩⟩
def Dl.zero:Dl:=⟨0,0,[],[],false,[],false,⟨#[]⟩,⟨#[]⟩⟩
def fx{α:Type}(p:Ps α)(s:List UInt8):Option α:=if 32768<s.length then none else match p s with
 |some (x,[])=>some x
 |_=>none
def xg(s:ByteArray):Mp×Nat:=match fx mpP s.data.toList with
 |none=>(Mp.zero,8)
 |some m=>if(cK m).2=0 then(m,0)else(Mp.zero,(cK m).2)
def gP(B b:Nat)(D:List UInt8)(w:World):Prop:=Lib.IsBuilder 74 5 B b (Lib.byteCells D) w
structure Wrote(B b:Nat)(w w':World):Prop where
 below:Below B w w'
 kept:∀g t cs,aD w g t cs→g≠b→t≠5→aD w' g t cs
theorem Wrote.refl(B b:Nat)(w:World):Wrote B b w w:=⟨aG _ _,fun _ _ _ h _ _=>h⟩
theorem Wrote.trans{B b:Nat}{w1 w2 w3:World}(h:Wrote B b w1 w2)(h2:Wrote B b w2 w3):Wrote B b w1 w3:=⟨h.below.trans h2.below,fun g t cs hg hne ht=>h2.kept g t cs (h.kept g t cs hg hne ht) hne ht⟩
theorem Wrote.of{B b:Nat}{w1 w2:World}(hB:B≤w1.heap.size)(h:Below w1.heap.size w1 w2):Wrote B b w1 w2:=⟨h.mono hB,fun _ _ _ hg _ _=>hg.below h hg.lt⟩
theorem gP.lt{B b:Nat}{D:List UInt8}{w:World}(h:gP B b D w):b<w.heap.size:=h.elim (fun h=>h.lt) (fun h=>h.lt)
theorem gP.ge{B b:Nat}{D:List UInt8}{w:World}(h:gP B b D w):B≤b:=h.elim (fun h=>h.1) (fun h=>h.1)
theorem sN{B b:Nat}{p:Value}{bs:List Value}{w w':World}(h:Lib.BuilderAt 74 5 B b p bs w)(hb:Below w.heap.size w w'):Lib.BuilderAt 74 5 B b p bs w':=by
 obtain⟨hB,v,hbk,hown,hne⟩:=h;exact⟨hB,v,(aD.below (g:=b) hbk hb (aD.lt hbk)),own_below hown hb,hne⟩
theorem gP.below{B b:Nat}{D:List UInt8}{w w':World}(h:gP B b D w)(hb:Below w.heap.size w w'):gP B b D w':=Or.imp (fun h=>sN h hb) (fun h=>sN h hb) h
theorem V8:liesAt ag ag.depth 74 (2/ag.cellsOf 74) 0 72 1=true:=by kernel_rfl
theorem Da(b:Nat)(w:World)(h0:w.cell? ⟨b,0,none⟩=some (.pointer (some ⟨b,0,none⟩))):Calls ag 136 #[.pointer (some ⟨b,0,none⟩)] w fun r w'=>r=.returned (.tuple #[])∧w'=w:=by
 obtain⟨j,hj,_⟩:=Option.map_eq_some_iff.1 Tryz.Builder_Extra_169.sizeBuilder;go_enter Tryz.func136,Tryz.ntmps136;go_wp2_with fail
 rw[Lib.run_neq_ptr_same w _ Tryz.underlying70 hj];go_wp2_with fail
 go_end0
 exact⟨rfl,rfl⟩
theorem zz(b:Nat)(w:World)(h0:w.cell? ⟨b,0,none⟩=some (.pointer none))(hsh:w.shape? b=some (74,2))(hfz:w.frozen? ⟨b,0,none⟩=false):Calls ag 136 #[.pointer (some ⟨b,0,none⟩)] w fun r w'=>r=.returned (.tuple #[])∧w'=w.setCell ⟨b,0,none⟩ (.pointer (some ⟨b,0,none⟩)):=by
 obtain⟨j,hj,hjs⟩:=Option.map_eq_some_iff.1 Tryz.Builder_Extra_169.sizeBuilder;go_enter Tryz.func136,Tryz.ntmps136;go_wp2_with fail
 rw[Lib.run_to_unsafe w ⟨b,0,none⟩ Tryz.underlying70 Tryz.underlying251 hj (by rw[hjs];decide) hsh (Nat.zero_lt_succ 1)];simp only[Result.andThen];rw[Oper.upon_value];go_wp2_with fail
 rw[run_callFunc_extern Tryz.func179 bg bg bg (e:=Extern.AbiNoEscape.same) bg];rw[Lib.run_noEscape];simp only[Result.andThen];rw[Oper.upon_value];go_wp2_with fail
 rw[Lib.run_from_unsafe w ⟨b,0,none⟩ Tryz.underlying251 Tryz.underlying70 hj hsh V8];simp only[Result.andThen];rw[Oper.upon_value];go_wp2_with fail
 go_end0
 exact⟨rfl,rfl⟩
theorem Gs{B b:Nat}{bs:List Value}{w:World}(h:Lib.IsBuilder 74 5 B b bs w):Calls ag 136 #[.pointer (some ⟨b,0,none⟩)] w fun r w'=>r=.returned (.tuple #[])∧Lib.BuilderAt 74 5 B b (.pointer (some ⟨b,0,none⟩)) bs w'∧Below B w w'∧∀g t cs,aD w g t cs→g≠b→aD w' g t cs:=by
 rcases h with h|h
 ·refine(zz b w h.cell0 h.shape h.frozen0).mono ?_;rintro r w'⟨rfl,rfl⟩;exact⟨rfl,h.used _,(aG B w).setCell (p:=⟨b,0,none⟩) h.1 _,fun g t cs hg hne=>hg.far hne _⟩
 ·refine(Da b w h.cell0).mono ?_;rintro r w'⟨rfl,rfl⟩;exact⟨rfl,h,aG B _,fun g t cs hg _=>hg⟩
theorem Gt{B b:Nat}{bs:List Value}(s:ByteArray){w:World}(h:Lib.IsBuilder 74 5 B b bs w)(hlen:bs.length+s.size≤140737488355328)(hBw:B≤w.heap.size):Calls ag 77 #[.pointer (some ⟨b,0,none⟩),.string s] w fun r w'=>r=.returned (.tuple #[.int .i64 (s.size:Int),.nilIface])∧Lib.BuilderAt 74 5 B b (.pointer (some ⟨b,0,none⟩)) (bs++Lib.strCells s) w'∧Below B w w'∧∀g t cs,aD w g t cs→g≠b→t≠5→aD w' g t cs:=by
 obtain⟨i0,hi,hz0,hz1,hz2⟩:=info_parts Tryz.Builder_Extra_169.infoByte;have hcc:=ae (Gs h);go_enter Tryz.func77,Tryz.ntmps77;go_wp2_with fail
 go_at_call 136;refine hcc.out.mono ?_;rintro r w1⟨rfl,h1,hb1,hk1⟩;have Hk1:=ae hk1;clear hk1;obtain⟨hB,v,hbk,hown,hne⟩:=h1;have c1:w1.cell? ⟨b,1,none⟩=some v:=by rw[Lib.cell_of_heap hbk];rfl
 go_wp2_with(at_builtin;refine Lib.wpList_append_own_string _ rfl _ _ 67 9 rfl B 5 i0 Tryz.underlying67 Tryz.underlying9 hi hz0 hz1 hz2 _ _ _ rfl hown s rfl ?c3 ?c4 ?c5 ?_)
 case c3=>unfold maxLen;omega
 case c4=>omega
 case c5=>have:=hb1.size;omega
 intro v' w2 hown' hgrow _;have hlt:b<w1.heap.size:=by
  rcases Nat.lt_or_ge b w1.heap.size with h'|h'
  ·exact h'
  ·simp[Array.getElem?_eq_none h']at hbk
 have hb2:w2.heap[b]? =some (.cells #[.pointer (some ⟨b,0,none⟩),v] 74 (0,0)):=by
  rw[hgrow.block b hlt (fun e=>hne e.symm)];exact hbk
 have d1:w2.cell? ⟨b,1,none⟩=some v:=by rw[Lib.cell_of_heap hb2];rfl
 have f1:w2.frozen? ⟨b,1,none⟩=false:=Lib.frozen_of_heap hb2 1;obtain⟨ao,n',cap,rfl⟩:∃ao n' cap,v'=.slice ao n' cap:=by
  rcases hown'.2 with⟨hv,_⟩|⟨g,cap,cur,hv,_⟩
  ·exact⟨_,_,_,hv⟩
  ·exact⟨_,_,_,hv⟩
 go_wp2_with fail
 go_ret2;refine⟨rfl,?_,?_,?_⟩
 ·exact Lib.BuilderAt.put (T:=74) (e:=5) hB hb2 (bs':=bs++Lib.strCells s) (by simpa[Lib.strCells_length]using hown') (by decide)
 ·exact(hb1.grown hgrow (by have:=hb1.size;omega) (fun k hk=>(hown.lt k hk).1)).setCell (p:=⟨b,1,none⟩) hB _
 ·intro g t cs hg hne ht;have h1:=Hk1.out g t cs hg hne;exact(h1.grown hgrow (fun e=>Lib.ownBlock_ne hown h1 ht e.symm)).far (p:=⟨b,1,none⟩) hne _
theorem QI(D:List UInt8)(s:ByteArray):Lib.byteCells D++Lib.strCells s=Lib.byteCells (D++s.data.toList):=by
 simp[Lib.byteCells,Lib.strCells]
theorem Gu{B b:Nat}{D:List UInt8}(s:ByteArray){w:World}(h:gP B b D w)(hlen:D.length+s.size≤140737488355328)(hBw:B≤w.heap.size):Calls ag 77 #[.pointer (some ⟨b,0,none⟩),.string s] w fun r w'=>r=.returned (.tuple #[.int .i64 (s.size:Int),.nilIface])∧gP B b (D++s.data.toList) w'∧Wrote B b w w':=by
 refine(Gt s h (by rw[Lib.byteCells_length];exact hlen) hBw).mono ?_;rintro r w'⟨rfl,h1,h2,h3⟩;rw[QI]at h1;exact⟨rfl,.inr h1,h2,h3⟩
def fw(L:List ByteArray):List UInt8:=L.flatMap fun s=>s.data.toList
theorem Mc{L:List ByteArray}{k:Nat}{s:ByteArray}(h:L[k]? =some s):fw (L.take (k+1))=fw (L.take k)++s.data.toList:=by
 rw[List.take_add_one,h];simp[fw]
theorem zA(L:List ByteArray)(k:Nat):(fw (L.take k)).length≤(fw L).length:=by
 have:=congrArg (fun l=>(fw l).length) (List.take_append_drop k L);simp only[fw,List.flatMap_append,ai]at this⊢;omega
theorem put_any{B b g:Nat}{D:List UInt8}{w:World}(L:List ByteArray)(h:gP B b D w)(hg:aD w g 9 (L.map Value.string).toArray)(hgb:g≠b)(hL:L.length≤4000000)(hlen:D.length+(fw L).length≤140737488355328)(hBw:B≤w.heap.size)(n:Nat)(hn:n=L.length):Calls ag 28 #[.pointer (some ⟨b,0,none⟩),.slice (some ⟨g,0,none⟩) n n] w fun r w'=>r=.returned (.tuple #[])∧gP B b (D++fw L) w'∧Wrote B b w w':=by
 obtain⟨HG,HP,HN,HLen⟩:=cH hg h hn hlen;rw[←hn]at hL;clear h hg hn hlen;obtain⟨R,hR⟩:∃r,r=D++fw L:=⟨_,rfl⟩;rw[←hR];have HR:=ae hR;clear hR;go_enter Tryz.func28,Tryz.ntmps28;go_wp2_with fail
 go_loopw [8] (fun v8 wr=>∃k:Nat,k≤n∧v8=.int .i64 k∧af (gP B b (D++fw (L.take k)) wr)∧af (Wrote B b w wr)) (fun v8 _=>n-(intOf v8).toNat)
 case atStart=>exact⟨0,Nat.zero_le _,rfl,ae (by rw[List.take_zero,show fw []=[]from rfl,List.append_nil];exact HP.out),ae (Wrote.refl _ _ _)⟩
 case round=>
  obtain⟨k,hk,rfl,hp,hw⟩:=hrel;by_cases hlt:k<n
  ·have hkl:k<L.length:=by rw[←HN.out];exact hlt
   have hx:L[k]? =some L[k]:=ah hkl;have V9:=Mc hx;have hle:=zA L (k+1);have c0:=(hw.out.kept _ _ _ HG.out hgb aF).cell k;rw[List.getElem?_toArray,List.getElem?_map,hx,Option.map_some]at c0;have hcall:=fun u(hu:wr=u)=>Gu L[k] hp.out (by rw[V9]at hle;simp only[ai]at hle⊢;have:=HLen.out;rw[←ByteArray.size_data,←Array.length_toList];omega) (Nat.le_trans hBw hw.out.below.size)
   generalize L[k]=X at V9 c0 hcall;rw[List.append_assoc,←V9]at hcall;have HC:=ae hcall;clear hcall hx V9 hle;go_wp2_with(go_at_call 77;(with_reducible refine(HC.out _ rfl).mono ?_);rintro r w2⟨rfl,hp2,hw2⟩)
   go_roundw
   case rel=>exact⟨k+1,by omega,by go_num,ae hp2,ae (hw.out.trans hw2)⟩
   case measure=>simp[intOf];omega
  ·obtain rfl:k=n:=by omega
   have hall:af (gP B b R wr):=ae (by have:=hp.out;rw[aT (by rw[HN.out];exact aw _)]at this;rw[HR.out];exact this);go_wp2_with fail
   go_end0
   exact⟨rfl,hall.out,hw.out⟩
end Go.Proofs.YteflnojjjdkgmaaGreatDoor
