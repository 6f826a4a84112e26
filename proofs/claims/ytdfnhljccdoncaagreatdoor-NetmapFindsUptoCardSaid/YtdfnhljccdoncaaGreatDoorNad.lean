/- Joined out of: Fb TwA NuA PlC PlD PlE PlF. -/
import Derived.Test.YtdfnhljccdoncaaGreatDoorNac
import Derived.Maps.AppendAt
import Derived.Lib.SplitLaws
import Derived.Deep.Onto
import Derived.Deep.RegionHeld3
import Derived.Deep.DrawnRows
import Derived.BigRegion
set_option linter.unusedVariables false
set_option linter.unusedSimpArgs false
set_option maxHeartbeats 16000000
set_option maxRecDepth 100000
open Array renaming length_toList→mL
open ByteArray renaming ext→ago
open Go.ByteArray renaming toList_eq→cM
open Go.IntKind renaming wrap_i64→agp
open Go.Lib renaming hid→ae
open Go.Proofs.Tryz renaming prog→ai
open Go.RowKit renaming Hid→af
open Go.RowKit.Below renaming refl→aK
open Go.Value renaming string→bU
open Go.World renaming block_lt_of_cell?→au,ownsRow_nil→bK
open List renaming getElem?_eq_getElem→ag,length_append→aj,length_map→ay,take_succ_eq_append_getElem→aA,take_of_length_le→aO,append_assoc→aZ,getElem_mem→bC,drop_eq_getElem_cons→bP,getElem?_map→bR,eq_nil_of_length_eq_zero→bS,length_cons→cm,getElem?_toArray→Jl
open Nat renaming le_refl→aw,zero_le→bF,zero_add→agw
open Option renaming bind_some→agv
namespace Go.Proofs.YtdfnhljccdoncaaGreatDoor
open Go.RowKit
theorem aeq{w:World}(h:w.cell? ⟨6,15,none⟩=some (.int .u8 4)):Calls ai 346 #[.int .u64 16] w fun e w'=>e=.returned (.int .i64 4)∧w=w':=by
 have e1:IntKind.u64.wrap (bits BinOp.and IntKind.u64 16 (IntKind.u64.wrap (-16))*285870213051353865)/288230376151711744=15:=by kernel_rfl
 go_enter Tryz.func346,Tryz.ntmps346;go_wp2_with fail
 go_ret;exact⟨rfl,rfl⟩
theorem tz_{w:World}(h:w.cell? ⟨6,15,none⟩=some (.int .u8 4)):Calls ai 332 #[.int .u64 16] w fun e w'=>e=.returned (.int .i64 4)∧w=w':=by
 have H:=ae h;clear h;go_enter Tryz.func332,Tryz.ntmps332;go_wp2_with(go_at_call 346;refine(aeq H.out).mono ?_;rintro e wf⟨rfl,rfl⟩)
 go_ret;exact⟨rfl,rfl⟩
theorem acf{w:World}:Calls ai 331 #[.int .i64 16] w fun e w'=>e=.returned (.bool true)∧w=w':=by
 go_enter Tryz.func331,Tryz.ntmps331;go_wp2_with fail
 go_ret;exact⟨rfl,rfl⟩
structure nj(w:World)(g:Nat)(t:List UInt8):Prop where
 row:∃cs:Array Value,aG w g 384 cs∧cs.size=65∧(∀i,i<65→∃v,cs[i]? =some v)∧∀j(hj:j<t.length),cs[65-t.length+j]? =some (.int .u8 ((t[j]'hj).toNat:Int))
theorem nj.cell{w:World}{g:Nat}{t:List UInt8}(h:nj w g t)(i:Nat)(hi:i<65):∃v,w.cell? ⟨g,i,none⟩=some v:=by
 obtain⟨cs,hb,_,ha,_⟩:=h.row;obtain⟨v,hv⟩:=ha i hi;exact⟨v,(hb.cell i).trans hv⟩
theorem nj.frozen{w:World}{g:Nat}{t:List UInt8}(h:nj w g t)(i:Nat):w.frozen? ⟨g,i,none⟩=false:=by
 obtain⟨cs,hb,_⟩:=h.row;exact hb.frozen i
theorem nj.put{w:World}{g:Nat}{t:List UInt8}(h:nj w g t)(ht:t.length<65)(c:UInt8):nj (w.setCell ⟨g,64-t.length,none⟩ (.int .u8 (c.toNat:Int))) g (c::t):=by
 obtain⟨cs,hb,hs,ha,hc⟩:=h.row;refine⟨_,hb.aM _ _,by simp[hs],fun i hi=>?_,fun j hj=>?_⟩
 ·rw[Array.getElem?_setIfInBounds];split
  ·exact⟨_,by rw[if_pos aY]⟩
  ·exact ha i hi
 ·rw[cm]at hj⊢;rw[Array.getElem?_setIfInBounds];cases j with
  |zero=>rw[if_pos aY,if_pos aY];rfl
  |succ j=>
   rw[if_neg aY,List.getElem_cons_succ];have:=hc j aY;rw[←this];congr 1;omega
theorem Lp{x y:Nat}{t:List UInt8}(h:hexL x=hexL y++t)(hy:16≤y):hexL x=hexL (y/16)++(tI (y%16)::t):=by
 rw[h]
 conv=>lhs;arg 1;unfold hexL
 rw[dif_neg aY,aZ];rfl
theorem Lq{x y:Nat}{t:List UInt8}(h:hexL x=hexL y++t)(hy:y<16):hexL x=tI y::t:=by
 rw[h]
 conv=>lhs;arg 1;unfold hexL
 rw[dif_pos hy];rfl
theorem sP(d:Nat)(h:d<16):((⟨#[48,49,50,51,52,53,54,55,56,57,97,98,99,100,101,102,103,104,105,106,107,108,109,110,111,112,113,114,115,116,117,118,119,120,121,122]⟩:ByteArray)[d]'(Nat.lt_trans h aI)).toNat=(tI d).toNat:=by
 have:∀d:Fin 16,((⟨#[48,49,50,51,52,53,54,55,56,57,97,98,99,100,101,102,103,104,105,106,107,108,109,110,111,112,113,114,115,116,117,118,119,120,121,122]⟩:ByteArray)[d.1]'(Nat.lt_trans d.2 aI)).toNat=(tI d.1).toNat:=by decide
 exact this ⟨d,h⟩
theorem VN(g n:Nat)(hn:n≤64)(W:World):(Instr.sliceAt 384 (.pointer (some ⟨g,0,none⟩)) (some (.int .i64 ((65:Int)-(n:Int)-1))) none none).run ai W=.ok (.slice (some ⟨g,64-n,none⟩) (n+1) (n+1)) W:=by
 have ha:ai.arrayLen 384=65:=by kernel_rfl
 have hu:ai.underlying 384=some (.array (ai.arrayLen 384) (ai.elem 384)):=by kernel_rfl
 have hs:(sizeOf (ai.elem 384)).run ai W=.ok 1 W:=by kernel_rfl
 rw[run_sliceAt_array_l W _ _ hu .i64 ((65:Int)-(n:Int)-1) aY (by rw[ha];omega),hs,ha];have e:((65:Int)-(n:Int)-1).toNat=64-n:=by omega
 rw[e];show Result.ok (Value.slice (some (if 65=64-n then(⟨g,0,none⟩:Addr)else(⟨g,0,none⟩:Addr).add ((64-n)*1))) (65-(64-n)) (65-(64-n))) W=_;rw[if_neg aY,show 65-(64-n)=n+1 by omega];have e2:(⟨g,0,none⟩:Addr).add ((64-n)*1)=⟨g,64-n,none⟩:=by unfold Addr.add;split<;>simp_all
 rw[e2]
theorem aag{w:World}(x:Nat)(hx:x<65536)(h:w.cell? ⟨6,15,none⟩=some (.int .u8 4)):Calls ai 308 #[.slice none 0 0,.int .u64 x,.int .i64 16,.bool false,.bool false] w fun e w'=>e=.returned (.tuple #[.slice none 0 0,.string ⟨(hexL x).toArray⟩])∧Below w.heap.size w w':=by
 have H:=ae (h:w.cell? ⟨6,15,none⟩=some (.int .u8 4));have h5:6<w.heap.size:=au w _ h;have TZ:=fun o=>tz_ (w:=w.alloc o) ((((aK w.heap.size w).alloc (aw _) o).cell (p:=⟨6,15,none⟩) h5).trans h)
 clear h;go_enter Tryz.func308,Tryz.ntmps308;go_wp2_with(first
  |(go_at_call 331;refine acf.mono ?_;rintro e wf⟨rfl,rfl⟩)
  |(go_at_call 332;refine(TZ _).mono ?_;rintro e wf⟨rfl,rfl⟩))
 go_loopw [1,13] (fun u i wr=>∃(y:Nat)(t:List UInt8),t.length≤15∧y<16^(16-t.length)∧u=.int .u64 y∧i=.int .i64 ((65:Int)-(t.length:Int))∧af (hexL x=hexL y++t)∧nj wr w.heap.size t∧Below w.heap.size w wr) (fun u _ _=>(intOf u).toNat)
 case atStart=>
  have hz:(Tryz.zeroCells384:Array Value).size=65:=by kernel_rfl
  exact⟨x,[],by decide,by simp;omega,rfl,rfl,ae (by simp),⟨⟨Tryz.zeroCells384,aG.new _ _ _,hz,fun i hi=>⟨_,Array.getElem?_eq_getElem (by rw[hz];exact hi)⟩,fun j hj=>absurd hj (by simp)⟩⟩,(aK _ _).alloc (aw _) _⟩
 case round=>
  obtain⟨y,t,ht,hy,rfl,rfl,hx,hr,hB⟩:=hrel;have hyt:y<18446744073709551616:=Nat.lt_of_lt_of_le hy (Nat.le_trans (Nat.pow_le_pow_right aI (show 16-t.length≤16 by omega)) aI);have hput:=fun c=>hr.put (by omega:t.length<65) c
  obtain⟨v,hv⟩:=hr.cell (64-t.length) aY;have hf:=hr.frozen (64-t.length);have e1:((65:Int)-(t.length:Int)-1).toNat=64-t.length:=by omega
  have h0:(0:Int)≤(65:Int)-(t.length:Int)-1:=by omega
  have hlt:=(show w.heap.size<wr.heap.size by obtain⟨cs,hb,_⟩:=hr.row;exact hb.lt);by_cases hc:16≤y
  ·have hstep:=Lp hx.out hc;have acg:=ae hstep;clear hstep;have ach:y/16<16^(16-(t.length+1)):=by
    have:16^(16-t.length)=16^(16-(t.length+1))*16:=by
     rw[←Nat.pow_succ];congr 1;omega
    omega
   have hn:t.length+1≤15:=by
    rcases Nat.lt_or_ge t.length 15 with h|h
    ·omega
    ·have:t.length=15:=by omega
     rw[this]at hy;omega
   have ea:bits .and .u64 (y:Int) 15=((y%16:Nat):Int):=by
    have h:=u64_and_nat y 15 hyt aI;rw[show((15:Nat):Int)=15 from rfl]at h;rw[h,show(15:Nat)=2^4-1 from rfl,Nat.and_two_pow_sub_one_eq_mod]
   have hm:y%16<16:=Nat.mod_lt _ aI;have hd:=sP (y%16) hm;have hP:=hput (tI (y%16));rw[←hd]at hP;obtain⟨aci,HB,aer,Hx⟩:=fH hP hB ach hx;clear hx hd hP hput hB hr hy ach;go_wp2_with fail
   go_roundw
   case rel=>
    exact⟨y/16,tI (y%16)::t,by simpa using hn,aer.out,by go_num,by rw[cm];congr 1;omega,acg,aci.out,HB.out.setCell (aw _) _⟩
   case measure=>simp[intOf];omega
  ·have hlast:=Lq hx.out aY;have acj:=ae hlast;clear hlast;have hm:y<16:=by omega
   have hd:=sP y hm;have hP:=hput (tI y);have hback:=run_convert_bytes_back (P:=ai) (wr.setCell ⟨w.heap.size,64-t.length,none⟩ (.int .u8 ((tI y).toNat:Int))) 89 9 5 ⟨w.heap.size,64-t.length,none⟩ (t.length+1) (tI y::t) Tryz.underlying89 Tryz.underlying5 Tryz.underlying9 (fun j hj=>by
    obtain⟨cs,hb,hs,ha,hcc⟩:=hP.row;have e:(⟨w.heap.size,64-t.length,none⟩:Addr).add j=⟨w.heap.size,64-t.length+j,none⟩:=by unfold Addr.add;split<;>simp_all
    rw[e];refine(hb.cell _).trans ?_;have:=hcc j hj;rw[cm]at this;rw[←this];congr 1;omega)
   rw[←hd]at hP hback;obtain⟨aci,HB⟩:=aQ hP hB;clear hx hd hP hput hB hr hy;have hsl:=VN w.heap.size t.length aY;rw[cm]at hback;go_wp2_with fail
   go_ret2;exact⟨show Ending.returned (.tuple #[.slice none 0 0,.string ⟨(tI y::t).toArray⟩])=_ by rw[acj.out],HB.out.setCell (aw _) _⟩
theorem aah{w:World}(x:Nat)(hx:x<65536)(h:w.cell? ⟨6,15,none⟩=some (.int .u8 4)):Calls ai 275 #[.int .u64 x,.int .i64 16] w fun e w'=>e=.returned (.string ⟨(hexL x).toArray⟩)∧Below w.heap.size w w':=by
 have H:=ae (aag x hx h);clear h;go_enter Tryz.func275,Tryz.ntmps275;go_wp2_with(go_at_call 308;refine H.out.mono ?_;rintro e wf⟨rfl,hb⟩;have Hb:=ae hb;clear hb)
 go_ret;exact⟨rfl,Hb.out⟩
theorem fmt16{w:World}(x:Nat)(hx:x<65536)(h:w.cell? ⟨6,15,none⟩=some (.int .u8 4)):Calls ai 240 #[.int .u64 x,.int .i64 16] w fun e w'=>e=.returned (.string ⟨(hexL x).toArray⟩)∧Below w.heap.size w w':=by
 have H:=ae (aah x hx h);clear h;go_enter Tryz.func240,Tryz.ntmps240;go_wp2_with(go_at_call 275;refine H.out.mono ?_;rintro e wf⟨rfl,hb⟩;have Hb:=ae hb;clear hb)
 go_ret;exact⟨rfl,Hb.out⟩
theorem qc:(ai.info? 9).map (fun i=>(i.zero,i.size,i.bytes))=some (some (.string ByteArray.empty),1,16):=by kernel_rfl
theorem own_below{w w':World}{base size n:Nat}{e:TypeId}{v:Value}{xs:List Value}(h:w.ownsRow base e size v n xs)(hb:Below w.heap.size w w'):w'.ownsRow base e size v n xs:=h.kept (row:=none) ⟨hb.os,hb.tape,hb.output,hb.size,fun k hk _=>hb.block k hk⟩ (by
 cases hv:v.ownBlock with
 |none=>exact Or.inl rfl
 |some k=>exact Or.inr (by simp))
def strs(L:List (List UInt8)):List ByteArray:=L.map fun l=>⟨l.toArray⟩
theorem uU(L:List (List UInt8)):(strs L).map (·.data.toList)=L:=by
 unfold strs;rw[List.map_map]
 conv=>rhs;rw[←List.map_id L]
 exact List.map_congr_left fun l _=>by simp
theorem CL{w:World}{base n:Nat}{e:TypeId}{v:Value}{xs:List Value}(h:w.ownsRow base e 1 v (n+1) xs):∃g cap,v=.slice (some ⟨g,0,none⟩) (n+1) cap:=by
 rcases h.2 with⟨_,h⟩|⟨g,cap,_,h,_⟩
 ·omega
 ·exact⟨g,cap,h⟩
theorem CM{w:World}{base:Nat}{v:Value}{L:List (List UInt8)}(c:UInt8)(h:w.ownsRow base 9 1 v L.length ((strs L).map bU))(hl:L.length≤1000)(hj:(Lib.join L [c]).length≤4000000):Calls ai 237 #[v,.string ⟨#[c]⟩] w fun r w'=>r=.returned (.string ⟨(Lib.join L [c]).toArray⟩)∧Below w.heap.size w w':=by
 have hl2:(strs L).length=L.length:=by simp[strs]
 rcases h.2 with⟨rfl,hn⟩|⟨g,cap,cur,rfl,hg,hh,hcap,_,hsz,htake⟩
 ·have:L=[]:=bS hn;subst this;exact(Tryz.strings_Join_none none 0 ⟨#[c]⟩ w).mono fun r w' hq=>⟨hq.1.trans rfl,by obtain⟨_,hb⟩:=hq;first|exact hb|(subst hb;exact aK _ _)⟩
 ·have hcell:=fun j hj=>h.cellAt (g:=g) (cap:=cap) j hj
  have:=Tryz.strings_Join g 0 cap (strs L) ⟨#[c]⟩ w (fun j x hx=>by
   have hj:j<(strs L).length:=(List.getElem?_eq_some_iff.1 hx).1;rw[agw];refine(hcell j aY).trans ?_;rw[bR,hx];rfl) (h.lt g rfl).2 aY aY (by rw[uU];simpa using(show(Lib.join L [c]).length≤140737488355328 by omega))
  rw[hl2,uU]at this;exact this
theorem uV:(ai.info? 22).map (fun i=>(i.zero,i.size,i.bytes))=some (some (.int .u64 0),1,8):=by kernel_rfl
def eB(L:List Nat):List Value:=L.map fun x:Nat=>Value.int .u64 (x:Int)
theorem CN(L:List Nat)(x:Nat):eB (L++[x])=eB L++[.int .u64 x]:=by simp[eB]
theorem aL{w:World}{base size n:Nat}{e:TypeId}{v:Value}{xs:List Value}(h:w.ownsRow base e size v n xs):∃A cap,v=.slice A n cap:=by
 rcases h.2 with⟨rfl,rfl⟩|⟨g,cap,cur,rfl,_⟩
 ·exact⟨none,0,rfl⟩
 ·exact⟨_,_,rfl⟩
theorem sQ{c:UInt8}:∀{l x:List UInt8},x∈cQ c l→x.length≤l.length:=by
 intro l
 induction l with
 |nil=>intro x hx;simp[cQ]at hx;simp[hx]
 |cons a l ih=>
  intro x hx;unfold cQ at hx;split at hx
  ·rcases List.mem_cons.1 hx with rfl|hx
   ·simp
   ·have:=ih hx;simp;omega
  ·split at hx
   ·next e=>exact absurd e (KX c l)
   ·next h t e=>
    rcases List.mem_cons.1 hx with rfl|hx
    ·have:=ih (x:=h) (by rw[e];exact List.mem_cons_self ..);simp;omega
    ·have:=ih (x:=x) (by rw[e];exact List.mem_cons_of_mem _ hx);simp;omega
theorem FW{base B B' n:Nat}{l:List UInt8}(h:num1 base B l=some n)(hB:B'≤B):num1 base B' l=if n<B' then some n else none:=by
 unfold num1 at h⊢;split at h
 ·cases h
 ·next hl=>
  rw[if_neg hl];cases e:mY (dval base) base 0 l with
  |none=>rw[e]at h;cases h
  |some m=>
   rw[e]at h;simp only[agv]at h⊢;split at h
   ·cases h;rfl
   ·cases h
theorem zt{base B B':Nat}{l:List UInt8}(h:num1 base B l=none)(hB:B'≤B):num1 base B' l=none:=by
 cases e:num1 base B' l with
 |none=>rfl
 |some n=>
  have hlt:=lX e;unfold num1 at h e;split at e
  ·cases e
  ·next hl=>
   rw[if_neg hl]at h;cases e2:mY (dval base) base 0 l with
   |none=>rw[e2]at e;cases e
   |some m=>
    rw[e2]at e h;simp only[agv]at e h;split at e
    ·cases e;rw[if_pos aY]at h;cases h
    ·cases e
def ie(Lo:Option (List Nat))(W:World)(r:Ending)(w':World):Prop:=(match Lo with
 |none=>r=.returned (.tuple #[.slice none 0 0,.bool false])
 |some L=>∃v:Value,r=.returned (.tuple #[v,.bool true])∧w'.ownsRow W.heap.size 22 1 v L.length (eB L))∧Below W.heap.size W w'
theorem ie.bad{W w':World}{Lo:Option (List Nat)}(h:Lo=none)(hb:Below W.heap.size W w'):ie Lo W (.returned (.tuple #[.slice none 0 0,.bool false])) w':=by rw[h];exact⟨rfl,hb⟩
theorem ie.good{W w':World}{Lo:Option (List Nat)}{L:List Nat}{v:Value}(h:Lo=some L)(ho:w'.ownsRow W.heap.size 22 1 v L.length (eB L))(hb:Below W.heap.size W w'):ie Lo W (.returned (.tuple #[v,.bool true])) w':=by rw[h];exact⟨⟨v,rfl,ho⟩,hb⟩
theorem sR{w:World}(env:Env w)(s:ByteArray)(hs:s.size≤2000000)(c:UInt8)(base most:Nat)(ack:most<18446744073709551616)(hbase:base≤16)(hpu:∀v,Env v→∀t:ByteArray,t.size≤4000000→Calls ai 314 #[.string t,.int .i64 base,.int .i64 64] v (yp base 18446744073709551616 t.data.toList v)):Calls ai 338 #[.string s,.string ⟨#[c]⟩,.int .i64 base,.int .u64 most] w (ie (cV c base (most+1) s.data.toList) w):=by
 obtain⟨i0,hi,hz0,hz1,hz2⟩:=info_parts uV;obtain⟨mU,Hpu⟩:=aQ env hpu;clear hpu;by_cases hne:s.size=0
 ·have he:s=⟨#[]⟩:=by
   apply ago;exact Array.eq_empty_of_size_eq_zero hne
  rw[he];have hL:cV c base (most+1) (⟨#[]⟩:ByteArray).data.toList=some []:=rfl;rw[hL];clear env hne ack;go_enter Tryz.func338,Tryz.ntmps338;go_wp2_with fail
  go_ret2;exact ie.good (v:=.slice none 0 0) rfl (bK _ _ _ _) (aK _ _)
 have hemp:s.toList.isEmpty=false:=by
  rw[←decide_eq_emptyBytes];exact decide_eq_false (fun h=>hne (by rw[h];rfl))
 have hsl:s.data.toList.length=s.size:=(Lib.size_eq s).symm;have hnl:s.data.toList≠[]:=fun e=>hne (by rw[←hsl,e];rfl)
 have hnum:cV c base (most+1) s.data.toList=gather base (most+1) (cQ c s.data.toList) []:=by unfold cV;rw[if_neg hnl]
 rw[hnum];have hsp:=uJ s ⟨#[c]⟩ c rfl;have hpl:∀t∈cQ c s.data.toList,t.length≤s.size:=fun t ht=>by have:=sQ ht;omega
 obtain⟨m,hm⟩:=env.mx;have HS:=ae (Tryz.strings_Split s ⟨#[c]⟩ m w aY hm (show 1≤1 from aw _));clear hm env hnum hnl hne;generalize hP:Lib.splitB ⟨#[c]⟩ 0 (Lib.countB s ⟨#[c]⟩) s=P at hsp HS;have hcount:Lib.countB s ⟨#[c]⟩+1=P.length:=by
  have:=Lib.splitB_all (⟨#[c]⟩:ByteArray) (show 1≤1 from aw _) 0 (Lib.countB s ⟨#[c]⟩) s rfl;rw[hP]at this;omega
 rw[hcount]at HS;have hPl:P.length≤s.size+1:=by
  have:=congrArg List.length hsp;rw[ay]at this;rw[this];have:=oR c s.data.toList;omega
 clear hP hcount hsl;have aai:∀k(hk:k<P.length),(cQ c s.data.toList).drop k=(P[k]'hk).data.toList::(cQ c s.data.toList).drop (k+1)∧(P[k]'hk).size≤2000000:=by
  intro k hk;have hkQ:k<(cQ c s.data.toList).length:=by rw[←hsp,ay];exact hk
  have e:(cQ c s.data.toList)[k]'hkQ=(P[k]'hk).data.toList:=by
   have:(P.map (·.data.toList))[k]'(by rw[ay];exact hk)=(P[k]'hk).data.toList:=by simp
   rw[←this];congr 1;exact hsp.symm
  refine⟨by rw[bP hkQ,e],?_⟩;have h:=hpl _ (bC hkQ);rw[e,←Lib.size_eq]at h;omega
 have hQl:(cQ c s.data.toList).length=P.length:=by rw[←hsp,ay]
 generalize cQ c s.data.toList=Q at aai hQl⊢;obtain⟨aes,HQl,HPl⟩:=bO aai hQl hPl;clear hsp hpl aai hQl hPl;obtain⟨N,hN⟩:∃n,n=P.length:=⟨_,rfl⟩;rw[←hN]at HS HPl HQl;have hNs:N≤2000001:=by have:=HPl.out;omega
 have HN:=ae hN;clear hN;obtain⟨GR,FX⟩:∃g,g=gather base (most+1) Q []:=⟨_,rfl⟩;rw[←FX];have HGR:=ae FX;clear FX;go_enter Tryz.func338,Tryz.ntmps338;go_wp2_with(go_at_call 206;(with_reducible refine HS.out.mono ?_);rintro r w1⟨rfl,rfl⟩)
 have hrow:aG (w.alloc (.cells (P.map bU).toArray 9)) w.heap.size 9 (P.map bU).toArray:=aG.new _ _ _;have hb0:=boxed w (.cells (P.map bU).toArray 9);generalize w.alloc (.cells (P.map bU).toArray 9)=W0 at hrow hb0⊢;obtain⟨xu,Hb0⟩:=aQ hrow hb0;clear hrow hb0;go_loopw [10,21] (fun v10 v21 wr=>∃(k:Nat)(acc:List Nat)(A:Option Addr)(cap:Nat),k≤N∧v21=.int .i64 k∧v10=.slice A acc.length cap∧acc.length≤9∧af (wr.ownsRow W0.heap.size 22 1 (.slice A acc.length cap) acc.length (eB acc))∧af (Below W0.heap.size W0 wr)∧af (GR=gather base (most+1) (Q.drop k) acc)) (fun _ v21 _=>N-(intOf v21).toNat)
 case atStart=>exact⟨0,[],none,0,bF _,rfl,rfl,by simp,ae (bK _ _ _ _),ae (aK _ _),HGR⟩
 case round=>
  obtain⟨k,acc,A,cap,hk,rfl,rfl,hal,hown,hb,hg⟩:=hrel;by_cases hlt:k<N
  ·have hkP:k<P.length:=by have:=HN.out;omega
   have hp:=aes.out k hkP;have cx:=(hb.out.cell (p:=⟨w.heap.size,k,none⟩) xu.out.lt).trans (xu.out.cell k);rw[Jl,bR,ag hkP]at cx;simp only[Option.map_some]at cx;generalize P[k]'hkP=T at hp cx;have hg2:=hg.out;rw[hp.1]at hg2;have HF:=ae (Hpu.out wr ((mU.out.below Hb0.out).below hb.out) T (by have:=hp.2;omega));generalize T.data.toList=t at hp hg2 HF;have Hg2:=ae hg2;clear hp hg2 hg;go_wp2_with fail
   go_at_call 314;refine HF.out.mono ?_;rintro e w2⟨⟨n,hn,rfl⟩|⟨hn,n,tp,p,aaj,rfl⟩,hb2⟩
   ·have hb3:=bm hb hb2;have hsz3:w.heap.size≤w2.heap.size:=Nat.le_trans Hb0.out.size hb3.out.size;have ho3:=ae (own_below hown.out hb2);have hb1:=FW hn (B':=most+1) aY;have aaj:=lX hn;clear hn hb2 cx;by_cases hnm:most<n
    ·have FX:GR=none:=by
      rw[Hg2.out];unfold gather;rw[hb1,if_neg aY]
     have FY:=ae FX;have hq:(most:Int)<(n:Int):=by omega
     clear FX hb1;go_wp2_with fail
     go_ret2;exact ie.bad FY.out (after Hb0.out hb3.out)
    ·have hq:¬(most:Int)<(n:Int):=by omega
     rw[if_pos aY]at hb1;by_cases h8:8<acc.length
     ·have FX:GR=none:=by
       rw[Hg2.out];unfold gather;rw[hb1];simp only;rw[if_pos h8]
      have FY:=ae FX;clear FX hb1;go_wp2_with fail
      go_ret2;exact ie.bad FY.out (after Hb0.out hb3.out)
     ·have FX:GR=gather base (most+1) (Q.drop (k+1)) (acc++[n]):=by
       rw[Hg2.out]
       conv=>lhs;unfold gather
       rw[hb1];simp only;rw[if_neg h8]
      have FY:=ae FX;clear FX hb1;go_wp2_with(at_builtin;refine wpList_append_own _ rfl _ _ 386 rfl W0.heap.size 22 i0 (.int .u64 0) 1 8 Tryz.underlying386 hi hz0 hz1 hz2 rfl aI _ acc.length _ rfl (ho3.out.alloc _) ⟨w2.heap.size,0,none⟩ 1 1 [.int .u64 n] rfl rfl (cell_one_new _ _ _) (fun x hx=>by simp at hx;subst hx;rfl) (by unfold maxLen;omega) aY (by have:=hb3.out.size;simp;omega) ?_;intro v' w3 hown' hgrow3 hnil3;have PU:=ae hown';have hbW:=ae ((hb3.out.alloc (hb3.out.size) _).grown hgrow3 (by have:=hb3.out.size;simp;omega) (fun q hq=>(ho3.out.lt q hq).1));clear hown' hgrow3 hnil3)
      obtain⟨A',cap',rfl⟩:=aL PU.out;go_roundw
      case rel=>exact⟨k+1,acc++[n],A',cap',by omega,by go_num,by rw[aj];rfl,by rw[aj,List.length_singleton];omega,ae (by rw[CN,aj];exact PU.out),hbW,FY⟩
      case measure=>simp[intOf];omega
   ·have hb3:=bm hb hb2;have hb1:=zt hn (B':=most+1) aY;have FX:GR=none:=by
     rw[Hg2.out];unfold gather;rw[hb1]
    have FY:=ae FX;clear FX hb1 hn hb2 cx;go_wp2_with fail
    go_ret2;exact ie.bad FY.out (after Hb0.out hb3.out)
  ·obtain rfl:k=N:=by omega
   have hend:GR=some acc:=by
    rw[hg.out,List.drop_of_length_le (by have:=HQl.out;omega)];rfl
   have aet:=ae hend;clear hend hg;go_wp2_with fail
   go_ret2;exact ie.good (v:=.slice A acc.length cap) aet.out (hown.out.mono Hb0.out.size) (after Hb0.out hb.out)
attribute [local go_sem↓] Go.wp_at_zero Go.wp_at_succ
def iW(n:Nat):Nat→List ByteArray→List Value
 |_,[]=>[]
 |i,s::r=>.string s:: .int .i64 n:: .int .i64 i::iW n (i+1) r
theorem CO(n:Nat)(s:ByteArray):∀(ws:List ByteArray)(i:Nat),iW n i (ws++[s])=iW n i ws++[.string s,.int .i64 n,.int .i64 ((i+ws.length:Nat):Int)]:=by
 intro ws
 induction ws with
 |nil=>intro i;rfl
 |cons x r ih=>
  intro i;rw[List.cons_append,iW,ih,iW,cm,show i+1+r.length=i+(r.length+1) by omega];rfl
theorem rB(n:Nat):∀(ws:List ByteArray)(i k:Nat)(s:ByteArray),ws[k]? =some s→(iW n i ws)[k*3]? =some (.string s)∧(iW n i ws)[k*3+1]? =some (.int .i64 n)∧(iW n i ws)[k*3+2]? =some (.int .i64 ((i+k:Nat):Int)):=by
 intro ws
 induction ws with
 |nil=>intro i k s h;cases h
 |cons x r ih=>
  intro i k s h;cases k with
  |zero=>
   injection h with h
   subst h;exact⟨rfl,rfl,rfl⟩
  |succ k=>
   obtain⟨h1,h2,h3⟩:=ih (i+1) k s h;rw[show(k+1)*3=k*3+1+1+1 by omega,iW];simp only[List.getElem?_cons_succ];rw[show i+(k+1)=i+1+k by omega];exact⟨h1,h2,h3⟩
theorem cD(w:World)(xs:List Value)(t:TypeId):∀j u,xs[j]? =some u→(w.alloc (.cells xs.toArray t)).cell? ((⟨w.heap.size,0,none⟩:Addr).add j)=some u:=by
 intro j u h;have:=(aG.new w t xs.toArray).cell j;rw[Jl,h]at this;rw[←this];congr 1;simp[Addr.add];exact fun h=>h.symm
theorem Lr:(ai.info? 247).map (fun i=>(i.zero,i.size,i.bytes))=some (some (.agg #[.string ⟨#[]⟩,.int .i64 0,.int .i64 0]),3,32):=by kernel_rfl
theorem CP(x:Nat)(hx:x≤1114111)(w:World):Calls ai 243 #[.int .i32 x] w (Got (.bool (jX x)) w):=by
 have hb0:=aK w.heap.size w;unfold jX;by_cases h1:x=32
 ·subst h1;go_enter Tryz.func243,Tryz.ntmps243;go_wp2_with fail
  go_ret;exact⟨rfl,hb0⟩
 ·have q1:((x:Int)==32)=false:=by simp;omega
  rw[decide_eq_false h1,Bool.false_or];by_cases h2:x=9
  ·subst h2;clear h1;go_enter Tryz.func243,Tryz.ntmps243;go_wp2_with fail
   go_ret;exact⟨rfl,hb0⟩
  ·have q2:((x:Int)==9)=false:=by simp;omega
   rw[decide_eq_false h2];clear h1 h2;go_enter Tryz.func243,Tryz.ntmps243;go_wp2_with fail
   go_ret;exact⟨rfl,hb0⟩
def Split(n:Nat)(ws:List ByteArray)(w:World)(r:Ending)(w':World):Prop:=∃v,r=.returned v∧w'.ownsRow w.heap.size 247 3 v ws.length (iW n 0 ws)∧Below w.heap.size w w'
theorem uW(F:List ByteArray)(k:Nat)(hk:k<F.length)(p:ByteArray→Bool)(h:(F.take k).all p=true):F.takeWhile p=if p F[k]=true then F.take (k+1)++(F.drop (k+1)).takeWhile p else F.take k:=by
 have e:F=F.take k++F[k]::F.drop (k+1):=by rw[←bP hk];exact(List.take_append_drop k F).symm
 conv=>lhs;rw[e]
 rw[List.takeWhile_append_of_pos (fun x hx=>List.all_eq_true.1 h x hx),List.takeWhile_cons,aA hk];split
 ·rw[aZ];rfl
 ·rw[List.append_nil]
theorem CQ:∀(l cur:List UInt8),∀x∈fieldsGo cur l,x≠[]:=by
 intro l
 induction l with
 |nil=>
  intro cur x hx;rw[fieldsGo]at hx;split at hx
  ·cases hx
  ·next h=>rw[List.mem_singleton.1 hx];exact h
 |cons c r ih=>
  intro cur x hx;rw[fieldsGo]at hx;split at hx
  ·split at hx
   ·exact ih [] x hx
   ·next h=>
    rcases List.mem_cons.1 hx with rfl|hx
    ·exact h
    ·exact ih [] x hx
  ·exact ih _ x hx
theorem qe:∀(l cur:List UInt8),(fieldsGo cur l).length≤l.length+1∧∀x∈fieldsGo cur l,x.length≤cur.length+l.length:=by
 intro l
 induction l with
 |nil=>
  intro cur;rw[fieldsGo];split
  ·exact⟨by simp,fun x hx=>(by cases hx)⟩
  ·exact⟨by simp,fun x hx=>by rw[List.mem_singleton.1 hx];simp⟩
 |cons c r ih=>
  intro cur;rw[fieldsGo];split
  ·obtain⟨h1,h2⟩:=ih [];split
   ·exact⟨by simp;omega,fun x hx=>by have:=h2 x hx;simp at this⊢;omega⟩
   ·refine⟨by simp;omega,fun x hx=>?_⟩;rcases List.mem_cons.1 hx with rfl|hx
    ·simp
    ·have:=h2 x hx;simp at this⊢;omega
  ·obtain⟨h1,h2⟩:=ih (cur++[c]);exact⟨by simp;omega,fun x hx=>by have:=h2 x hx;simp at this⊢;omega⟩
theorem Ls(s:ByteArray)(hs:s.size≤2000000)(n:Nat)(hn:n≤4000000)(w:World):Calls ai 207 #[.string s,.int .i64 n] w (Split n (nb s.data.toList) w):=by
 obtain⟨i0,hi,hz0,hz1,hz2⟩:=info_parts Lr;have hff:=Tryz.strings_FieldsFunc_grows 243 #[] (fun args w=>rfl) jX s w aY (fun W x hx _=>CP x hx W);rw[FP]at hff;have hpl:=qe s.data.toList [];have hne:=CQ s.data.toList [];have hlen:s.data.toList.length=s.size:=by rw[mL];rfl
 have hwd:nb s.data.toList=((fieldsB s.data.toList).map iF).takeWhile (fun b=>fZ b.data.toList):=by
  unfold nb;rw[List.takeWhile_map];rfl
 rw[hwd];have hF:∀b∈(fieldsB s.data.toList).map iF,0<b.size∧b.size≤2000000:=by
  intro b hb;obtain⟨x,hx,rfl⟩:=List.mem_map.1 hb;have h1:=hne x hx;have h2:=hpl.2 x hx;have:(iF x).size=x.length:=by unfold iF;simp[ByteArray.size]
  rw[this];cases x with
  |nil=>exact absurd rfl h1
  |cons c r=>simp at h2⊢;omega
 have Lt:((fieldsB s.data.toList).map iF).length≤2000001:=by
  rw[ay];have:=hpl.1;unfold fieldsB;omega
 generalize(fieldsB s.data.toList).map iF=F at hff hF Lt⊢;clear hpl hne hlen hwd;obtain⟨N,hN⟩:∃n,n=F.length:=⟨_,rfl⟩;rw[←hN]at hff Lt;obtain⟨HFF,HF,HN⟩:=bO hff hF hN;obtain⟨WS,hWS⟩:∃x,x=F.takeWhile (fun b=>fZ b.data.toList):=⟨_,rfl⟩;rw[←hWS];have HWS:=ae hWS;clear hff hF hN hWS hs;go_enter Tryz.func207,Tryz.ntmps207;go_wp2_with(go_at_call 242;(with_reducible refine HFF.out.mono ?_);rintro r w1⟨g,rfl,hg,hown,hb1⟩)
 have hrow:∀k(hk:k<F.length),w1.cell? ⟨g,k,none⟩=some (.string F[k]):=by
  intro k hk;rw[hown.cellAt k (by have:=HN.out;omega),bR,ag hk];rfl
 have hgl:=hown.lt g rfl;obtain⟨xu,Hb1⟩:=aQ hrow hb1;clear hrow hown hb1;go_loopw [4,10] (fun v4 v10 wr=>∃(k:Nat)(A:Option Addr)(cap:Nat),k≤N∧v10=.int .i64 k∧v4=.slice A k cap∧af (wr.ownsRow w1.heap.size 247 3 (.slice A k cap) k (iW n 0 (F.take k)))∧af (Below w1.heap.size w1 wr)∧af ((F.take k).all (fun b=>fZ b.data.toList)=true)) (fun _ v10 _=>N-(intOf v10).toNat)
 case atStart=>exact⟨0,none,0,bF _,rfl,rfl,ae (bK _ _ _ _),ae (aK _ _),ae rfl⟩
 case round=>
  obtain⟨k,A,cap,hk,rfl,rfl,hown,hb,hall⟩:=hrel;by_cases hlt:k<N
  ·have FZ:k<F.length:=by have:=HN.out;omega
   have cx:=(hb.out.cell (p:=⟨g,k,none⟩) hgl.2).trans (xu.out k FZ);have hT:=HF.out _ (bC FZ);have hstep:=uW F k FZ _ hall.out;have htk:=aA FZ;have hlk:(F.take k).length=k:=List.length_take_of_le aY;have hw3:=CO n F[k] (F.take k) 0;rw[hlk,agw]at hw3;generalize F[k]=TT at cx hT hstep htk hw3;have h0:0<TT.size:=hT.1;have hpw:fZ TT.data.toList=decide ((TT[0]'h0).toNat≠35):=by
    have hl:TT.data.toList.length=TT.size:=by rw[mL];rfl
    have e0:TT.data.toList[0]? =some (TT[0]'h0):=by
     rw[ag aY];simp;rfl
    cases hs:TT.data.toList with
    |nil=>rw[hs]at hl;simp at hl;omega
    |cons c r=>
     rw[hs]at e0;injection e0 with e0
     rw[←e0];unfold fZ;have:(c=35)↔c.toNat=35:=⟨fun h=>by rw[h];rfl,fun h=>UInt8.toNat_inj.1 h⟩;simp[this]
   generalize hx:(TT[0]'h0).toNat=x0 at hpw;by_cases h35:x0=35
   ·have hres:WS=F.take k:=by rw[HWS.out,hstep,hpw,if_neg (by simp[h35])]
    have ej:=ae hres;rw[h35]at hx;clear hres hstep htk hw3 hpw hT;have Zk:=ae hlk;clear hlk;go_wp2_with fail
    go_ret;refine⟨_,rfl,?_,after Hb1.out hb.out⟩;rw[ej.out,Zk.out];exact hown.out.mono Hb1.out.size
   ·have q1:((x0:Int)==35)=false:=by simp;omega
    have Zl:(F.take (k+1)).all (fun b=>fZ b.data.toList)=true:=by
     rw[htk,List.all_append,hall.out];simp[hpw,h35]
    obtain⟨acm,Htk,Hw3⟩:=bO Zl htk hw3;clear Zl hstep htk hw3 hpw hT h35 hlk;go_wp2_with(at_builtin;refine wpList_append_own _ rfl _ _ 232 rfl w1.heap.size 247 i0 (.agg #[.string ⟨#[]⟩,.int .i64 0,.int .i64 0]) 3 32 Tryz.underlying232 hi hz0 hz1 hz2 rfl aI _ k _ rfl (hown.out.alloc _) ⟨wr.heap.size,0,none⟩ 1 1 [.string TT,.int .i64 n,.int .i64 k] rfl rfl (cD _ _ _) (by intro u hu;simp at hu;rcases hu with rfl|rfl|rfl<;>rfl) (by unfold maxLen;omega) aY (by have:=hb.out.size;simp;omega) ?_;intro v' w3 hown' hgrow3 hnil3;have PU:=ae hown';have hbW:=ae ((hb.out.alloc (hb.out.size) _).grown hgrow3 (by have:=hb.out.size;simp;omega) (fun q hq=>(hown.out.lt q hq).1));clear hown' hgrow3 hnil3)
    obtain⟨A',cap',rfl⟩:=aL PU.out;go_roundw
    case rel=>exact⟨k+1,A',cap',by omega,by go_num,rfl,ae (by rw[Htk.out,Hw3.out];exact PU.out),hbW,acm⟩
    case measure=>simp[intOf];omega
  ·obtain rfl:k=N:=by omega
   have hres:WS=F:=by
    have h2:=hall.out;rw[aO (by have:=HN.out;omega)]at h2;rw[HWS.out];exact xq _ _ fun x hx=>List.all_eq_true.1 h2 x hx
   have ej:=ae hres;clear hres;go_wp2_with fail
   go_ret;refine⟨_,rfl,?_,after Hb1.out hb.out⟩;have:=hown.out.mono Hb1.out.size;rw[aO (by have:=HN.out;omega)]at this;rw[ej.out,←HN.out];exact this
def zu(w:World)(lv:Value)(ws:List ByteArray)(n:Nat):Prop:=∃base,w.ownsRow base 247 3 lv ws.length (iW n 0 ws)
theorem zu.shape{w:World}{lv:Value}{ws:List ByteArray}{n:Nat}(h:zu w lv ws n)(hne:ws≠[]):∃g cap,lv=.slice (some ⟨g,0,none⟩) ws.length cap∧ws.length≤cap∧(∃cur,aG w g 247 cur)∧∀j,j<ws.length*3→w.cell? ⟨g,j,none⟩=(iW n 0 ws)[j]? :=by
 obtain⟨base,h⟩:=h;rcases h.2 with⟨_,e⟩|⟨g,cap,cur,e,hb,hg,hc,_⟩
 ·exact absurd (bS e) hne
 ·subst e;exact⟨g,cap,rfl,hc,⟨cur,hg⟩,fun j hj=>h.cellAt j hj⟩
theorem jt{w w':World}{base size n:Nat}{e:TypeId}{v:Value}{xs:List Value}{S:Nat→Prop}(h:w.ownsRow base e size v n xs)(hk:Keeps S w w')(hS:∀g,v.ownBlock=some g→¬S g):w'.ownsRow base e size v n xs:=by
 refine⟨h.1,?_⟩;rcases h.2 with h2|⟨g,cap,cur,e1,hb,hg,rest⟩
 ·exact .inl h2
 ·subst e1;exact .inr ⟨g,cap,cur,rfl,hb,(hk.block g (Array.getElem?_eq_some_iff.1 hg).1 (hS g rfl)).trans hg,rest⟩
theorem zu.keep{w w':World}{lv:Value}{ws:List ByteArray}{n:Nat}{S:Nat→Prop}(h:zu w lv ws n)(hk:Keeps S w w')(hS:∀g,lv.ownBlock=some g→¬S g):zu w' lv ws n:=by
 obtain⟨base,h⟩:=h;exact⟨base,jt h hk hS⟩
def RdB(w:World)(b:Nat)(lv:Value)(k P:Nat)(uv:Value):Prop:=aG w b 235 #[lv,.int .i64 k,.pointer (some ⟨P,0,none⟩),uv]
abbrev aP(e n i:Nat):Ending:=.panicked [{v:=.iface 228 (.agg #[.int .i64 e,.int .i64 n,.int .i64 i]),recovered:=false}]
theorem yq{w:World}{b P k n:Nat}{lv uv:Value}{ws:List ByteArray}(h:RdB w b lv k P uv)(hr:zu w lv ws n)(hne:ws≠[])(hws:ws.length≤4000000)(hk1:1≤k)(hk:k≤4000001)(e:Nat):Calls ai 249 #[.pointer (some ⟨b,0,none⟩),.int .i64 e] w fun r w'=>r=aP e n (if k≤ws.length then k-1 else ws.length)∧Below w.heap.size w w':=by
 obtain⟨g,cap,rfl,hcap,hg,hc⟩:=hr.shape hne;obtain⟨s0,hs0⟩:∃s0,ws[0]? =some s0:=by
  cases ws with
  |nil=>exact absurd rfl hne
  |cons x r=>exact⟨x,rfl⟩
 have hl:0<ws.length:=by
  cases ws with
  |nil=>exact absurd rfl hne
  |cons x r=>simp
 obtain⟨_,w1,_⟩:=rB n ws 0 0 s0 hs0;have c1:=(hc 1 aY).trans w1;have r0:=h.cell 0;have r1:=h.cell 1;simp at r0 r1;generalize ws.length=N at r0 hl hws hcap h⊢;have i1:(0:Int)<(N:Int):=by omega
 have hbx:=boxed w.drew (.cells #[.int .i64 e,.int .i64 n,.int .i64 N] 192);obtain⟨I,hI⟩:∃I,I=if k≤N then k-1 else N:=⟨_,rfl⟩
 rw[←hI];have HI:=ae hI;clear hc hs0 w1 hr hI;go_enter Tryz.func249,Tryz.ntmps249;go_upto_region 0 with fail
 go_region_held3 (fun w'=>w'.cell? ⟨b,0,none⟩=some (.slice (some ⟨g,0,none⟩) N cap)∧w'.cell? ⟨b,1,none⟩=some (.int .i64 k)∧w'.cell? ⟨g,1,none⟩=some (.int .i64 n)) (go_keep) (fail);have hF:=(aG.new w 192 #[.int .i64 e,.int .i64 n,.int .i64 N]).drew;have hb1:=(boxed w (.cells #[.int .i64 e,.int .i64 n,.int .i64 N] 192)).drew;have hR:=(h.alloc (.cells #[.int .i64 e,.int .i64 n,.int .i64 N] 192)).drew;clear r0 r1 c1 hbx h;generalize(w.alloc (.cells #[.int .i64 e,.int .i64 n,.int .i64 N] 192)).drew=W1 at hF hb1 hR⊢;generalize hgF:w.heap.size=gF at hF⊢;have r0:=hR.cell 0;have r1:=hR.cell 1;have f0:=hF.cell 0;have f1:=hF.cell 1;have f2:=hF.cell 2;have z2:=hF.frozen 2;simp at r0 r1 f0 f1 f2;by_cases hkN:k≤N
 ·have q1:(k:Int)≤(N:Int):=by omega
  have hI:=HI.out;rw[if_pos hkN]at hI;have Hi:=ae hI;clear hI HI;have i2:IntKind.i64.wrap ((k:Int)-1)=(k:Int)-1:=by rw[agp];omega
  go_upto_region 1 with fail
  go_quiet (fail);go_wp2_with fail
  all_goals
   rw[Hi.out];refine⟨rfl,?_,(show Below w.heap.size w (W1.drewN nq)from⟨hb1.os,hb1.tape,hb1.output,hb1.size,hb1.block⟩).setCell (Nat.le_of_eq hgF) _⟩;unfold aP;rw[show((k-1:Nat):Int)=(k:Int)-1 by omega]
 ·have q1:¬(k:Int)≤(N:Int):=by omega
  have hI:=HI.out;rw[if_neg hkN]at hI;have Hi:=ae hI;clear hI HI;go_upto_region 1 with fail
  go_quiet (fail);go_wp2_with fail
  all_goals
   rw[Hi.out];refine⟨rfl,rfl,?_⟩;have hB:Below w.heap.size w (W1.drewN nq):=⟨hb1.os,hb1.tape,hb1.output,hb1.size,hb1.block⟩;first|exact hB|exact hgF▸hB
theorem iY{S:Nat→Prop}{a w w':World}(h:Keeps S a w)(k:Below w.heap.size w w'):Keeps S a w':=h.trans (Keeps.of_below k fun q hq _=>hq)
theorem zv{w:World}{b:Nat}(p:Nat)(v:Value):Keeps (fun x=>x=b) w (w.setCell ⟨b,p,none⟩ v):=by
 refine Keeps.setCell (Keeps.refl (fun x=>x=b) w) (p:=⟨b,p,none⟩) ?_ v;exact Or.inl rfl
def iI(ws:List ByteArray)(k n:Nat)(r:Ending):Prop:=match ws[k]? with
 |some s=>r=.returned (.string s)
 |none=>r=aP 190 n ws.length
theorem iI.some{ws:List ByteArray}{k n:Nat}{s:ByteArray}(h:ws[k]? =some s):iI ws k n (.returned (.string s)):=by unfold iI;rw[h]
theorem iI.none{ws:List ByteArray}{k n N:Nat}(h:ws[k]? =none)(hN:ws.length=N):iI ws k n (aP 190 n N):=by unfold iI;rw[h,hN]
theorem take_any{w:World}{b P k n:Nat}{lv uv:Value}{ws:List ByteArray}(h:RdB w b lv k P uv)(hr:zu w lv ws n)(hne:ws≠[])(hws:ws.length≤4000000)(hk:k≤ws.length):Calls ai 209 #[.pointer (some ⟨b,0,none⟩)] w fun r w'=>Keeps (fun x=>x=b) w w'∧RdB w' b lv (k+1) P uv∧iI ws k n r:=by
 obtain⟨g,cap,rfl,hcap,hg,hc⟩:=hr.shape hne;have hw:=fun(w':World)(h':RdB w' b (.slice (some ⟨g,0,none⟩) ws.length cap) (k+1) P uv)(hr':zu w' (.slice (some ⟨g,0,none⟩) ws.length cap) ws n)=>yq h' hr' hne hws aY aY 190
 have i1:IntKind.i64.wrap ((k:Int)+1)=(k:Int)+1:=by rw[agp];omega
 have r0:=h.cell 0;have r1:=h.cell 1;have z1:=h.frozen 1;simp at r0 r1;obtain⟨cur,hgB⟩:=hg;have hgb:g≠b:=hgB.xc h aI;have hK:= @zv w b 1 (.int .i64 ((k:Int)+1));have hS:=h.aM 1 (.int .i64 ((k:Int)+1));have hr2:=hr.keep hK (fun q hq=>by injection hq with hq;rw[←hq];exact hgb);have hS2:RdB (w.setCell ⟨b,1,none⟩ (.int .i64 ((k:Int)+1))) b (.slice (some ⟨g,0,none⟩) ws.length cap) (k+1) P uv:=hS;have hw2:k=ws.length→∀q,Calls ai 249 #[.pointer (some ⟨b,0,none⟩),.int .i64 190] ((w.setCell ⟨b,1,none⟩ (.int .i64 ((k:Int)+1))).drewN q) fun r w'=>r=aP 190 n ws.length∧Below ((w.setCell ⟨b,1,none⟩ (.int .i64 ((k:Int)+1))).drewN q).heap.size ((w.setCell ⟨b,1,none⟩ (.int .i64 ((k:Int)+1))).drewN q) w':=fun hkk q=>
  (hw ((w.setCell ⟨b,1,none⟩ (.int .i64 ((k:Int)+1))).drewN q) hS2 hr2).mono (by rintro r w'⟨h1,h2⟩;rw[if_neg aY]at h1;exact⟨h1,h2⟩)
 clear hw;obtain⟨HS2,HK⟩:=aQ hS2 hK;have Hgw:=ae (fun j hj=>(((hgB.far (p:=⟨b,1,none⟩) hgb (.int .i64 ((k:Int)+1))).cell j).trans (hgB.cell j).symm).trans (hc j hj));by_cases hkN:k<ws.length
 ·obtain⟨s,hs⟩:∃s,ws[k]? =some s:=⟨_,ag hkN⟩;have c0:=(Hgw.out (k*3) aY).trans (rB n ws 0 k s hs).1;have Hs:=ae hs;have s0:=hS.cell 0;have s1:=hS.cell 1;simp at s0 s1;clear hw2;generalize hN:ws.length=N at*;have q1:¬(N:Int)<(k:Int)+1:=by omega
  have q2:IntKind.i64.wrap ((k:Int)+1-1)=(k:Int):=by rw[agp];omega
  clear hr2 hS hS2 hK hc hs h hr hgB;go_enter Tryz.func209,Tryz.ntmps209;go_upto_region 2 with fail
  generalize w.setCell ⟨b,1,none⟩ (.int .i64 ((k:Int)+1))=w1 at*;go_quiet (fail);go_upto_region 4 with fail
  go_quiet (fail);go_wp2_with fail
  refine bodyPost_ret (results_tmp rfl _ _ _) rfl ?_;exact⟨⟨HK.out.os,HK.out.tape,HK.out.output,HK.out.size,HK.out.block⟩,HS2.out,iI.some Hs.out⟩
 ·have acn:k=ws.length:=by omega
  have hs:ws[k]? =none:=List.getElem?_eq_none aY;have Hs:=ae hs;have s0:=hS.cell 0;have s1:=hS.cell 1;simp at s0 s1;have HW:=ae (hw2 acn);clear hw2;generalize hN:ws.length=N at*;have q1:(N:Int)<(k:Int)+1:=by omega
  clear acn hkN hk hr2 hS hS2 hK hc hs h hr hgB;go_enter Tryz.func209,Tryz.ntmps209;go_upto_region 2 with fail
  generalize w.setCell ⟨b,1,none⟩ (.int .i64 ((k:Int)+1))=w1 at*;go_quiet (fail);go_wp2_with(go_at_call 249;(with_reducible refine(HW.out _).mono ?_);rintro r w2⟨rfl,d2⟩;unfold aP)
  refine⟨rfl,?_,?_,iI.none Hs.out hN⟩
  ·exact iY (HK.out.drewN nq) d2
  ·refine aG.below ?_ d2 ?_
   ·exact HS2.out
   ·exact HS2.out.lt
structure Rs(w:World)(b P k n:Nat)(lv uv:Value)(ws:List ByteArray):Prop where
 blk:RdB w b lv k P uv
 row:zu w lv ws n
 ne:ws≠[]
 len:ws.length≤2000000
 sizes:∀s∈ws,s.size≤2000000
theorem Rs.sep{w:World}{b P k n:Nat}{lv uv:Value}{ws:List ByteArray}(h:Rs w b P k n lv uv ws):∀g,lv.ownBlock=some g→g≠b:=by
 obtain⟨g,cap,e,_,⟨cur,hg⟩,_⟩:=h.row.shape h.ne;intro q hq;rw[e]at hq;injection hq with hq
 rw[←hq];exact hg.xc h.blk (by decide)
theorem Rs.step{w w':World}{b P k k' n:Nat}{lv uv uv':Value}{ws:List ByteArray}(h:Rs w b P k n lv uv ws)(hk:Keeps (fun x=>x=b) w w')(hb:RdB w' b lv k' P uv'):Rs w' b P k' n lv uv' ws:=⟨hb,h.row.keep hk fun g hg e=>h.sep g hg e,h.ne,h.len,h.sizes⟩
theorem Rs.below{w w':World}{b P k n:Nat}{lv uv:Value}{ws:List ByteArray}(h:Rs w b P k n lv uv ws)(hb:Below w.heap.size w w'):Rs w' b P k n lv uv ws:=h.step (Keeps.of_below hb fun q hq _=>hq) (h.blk.below hb h.blk.lt)
def EY(k:Nat)(ws:List ByteArray):Nat:=if k≤ws.length then k-1 else ws.length
def eV(is:Bool)(e n i:Nat)(r:Ending):Prop:=match is with
 |true=>r=.returned (.tuple #[])
 |false=>r=aP e n i
theorem Rs.wrong{w:World}{b P k n:Nat}{lv uv:Value}{ws:List ByteArray}(h:Rs w b P k n lv uv ws)(hk1:1≤k)(hk:k≤ws.length+1)(e:Nat):Calls ai 249 #[.pointer (some ⟨b,0,none⟩),.int .i64 e] w fun r w'=>r=aP e n (EY k ws)∧Below w.heap.size w w':=yq h.blk h.row h.ne (by have:=h.len;omega) hk1 (by have:=h.len;omega) e
theorem Rs.unless{w:World}{b P k n:Nat}{lv uv:Value}{ws:List ByteArray}(h:Rs w b P k n lv uv ws)(hk1:1≤k)(hk:k≤ws.length+1)(is:Bool)(e:Nat):Calls ai 210 #[.pointer (some ⟨b,0,none⟩),.bool is,.int .i64 e] w fun r w'=>eV is e n (EY k ws) r∧Below w.heap.size w w':=by
 have HW:=ae (h.wrong hk1 hk e);have hb0:=aK w.heap.size w;clear h hk1 hk;cases is with
 |true=>
  go_enter Tryz.func210,Tryz.ntmps210;go_wp2_with fail
  refine⟨rfl,_,results_none rfl _ _ _,rfl,hb0⟩
 |false=>
  go_enter Tryz.func210,Tryz.ntmps210;go_wp2_with(go_at_call 249;(with_reducible refine HW.out.mono ?_);rintro r w2⟨rfl,d2⟩;unfold aP)
  exact⟨rfl,rfl,d2⟩
theorem Rs.room{w:World}{b P k n:Nat}{lv uv:Value}{ws:List ByteArray}(h:Rs w b P k n lv uv ws)(hk1:1≤k)(hk:k≤ws.length+1)(m:Nat):Calls ai 279 #[.pointer (some ⟨b,0,none⟩),.int .i64 m] w fun r w'=>eV (decide (m<64)) 198 n (EY k ws) r∧Below w.heap.size w w':=by
 have hu:=h.unless hk1 hk (decide (m<64)) 198;clear h hk1 hk;by_cases hm:m<64
 ·have q:(m:Int)<64:=by omega
  rw[decide_eq_true hm]at hu⊢;have HU:af (Calls ai 210 #[.pointer (some ⟨b,0,none⟩),.bool true,.int .i64 198] w fun r w'=>eV true 198 n (EY k ws) r∧Below w.heap.size w w'):=ae hu;clear hu hm;go_enter Tryz.func279,Tryz.ntmps279;go_wp2_with(go_at_call 210;(with_reducible refine HU.out.mono ?_);rintro r w2⟨h1,d2⟩;unfold eV at h1;subst h1)
  refine⟨rfl,_,results_none rfl _ _ _,rfl,d2⟩
 ·have q:¬(m:Int)<64:=by omega
  rw[decide_eq_false hm]at hu⊢;have HU:af (Calls ai 210 #[.pointer (some ⟨b,0,none⟩),.bool false,.int .i64 198] w fun r w'=>eV false 198 n (EY k ws) r∧Below w.heap.size w w'):=ae hu;clear hu hm;go_enter Tryz.func279,Tryz.ntmps279;go_wp2_with(go_at_call 210;(with_reducible refine HU.out.mono ?_);rintro r w2⟨h1,d2⟩;unfold eV at h1;subst h1;unfold aP)
  exact⟨rfl,rfl,d2⟩
theorem Rs.more{w:World}{b P k n:Nat}{lv uv:Value}{ws:List ByteArray}(h:Rs w b P k n lv uv ws):Calls ai 282 #[.pointer (some ⟨b,0,none⟩)] w (Got (.bool (decide (k<ws.length))) w):=by
 obtain⟨g,cap,e,hcap,_,_⟩:=h.row.shape h.ne;have hB:=h.blk;rw[e]at hB;have r0:=hB.cell 0;have r1:=hB.cell 1;simp at r0 r1;have hl:=h.len;have hb0:=aK w.heap.size w;generalize ws.length=N at*;have qd:decide ((k:Int)<(N:Int))=decide (k<N):=by simp
 obtain⟨D,hD⟩:∃d,d=decide (k<N):=⟨_,rfl⟩;rw[←hD]at qd⊢;have HD:=ae hD;clear hB h e hD;go_enter Tryz.func282,Tryz.ntmps282;go_upto_region 1 with fail
 go_quiet (fail);go_wp2_with fail
 refine bodyPost_ret (results_tmp rfl _ _ _) rfl ⟨?_,⟨rfl,rfl,rfl,aw _,fun _ _=>rfl⟩⟩;rw[HD.out];rfl
def qf(ws:List ByteArray)(k n:Nat)(r:Ending):Prop:=match ws[k]? with
 |none=>r=aP 190 n ws.length
 |some s=>if cn s=true then r=.returned (.string s)else r=aP 191 n k
def oW(ws:List ByteArray)(t:ByteArray)(k n:Nat)(r:Ending):Prop:=match ws[k]? with
 |none=>r=aP 190 n ws.length
 |some s=>if s=t then r=.returned (.tuple #[])else r=aP 190 n k
theorem Rs.take{w:World}{b P k n:Nat}{lv uv:Value}{ws:List ByteArray}(h:Rs w b P k n lv uv ws)(hk:k≤ws.length):Calls ai 209 #[.pointer (some ⟨b,0,none⟩)] w fun r w'=>(Keeps (fun x=>x=b) w w'∧Rs w' b P (k+1) n lv uv ws)∧iI ws k n r:=(take_any h.blk h.row h.ne (by have:=h.len;omega) hk).mono fun r w'⟨h1,h2,h3⟩=>⟨⟨h1,h.step h1 h2⟩,h3⟩
theorem dM{k:Nat}{ws:List ByteArray}(h:k<ws.length):EY (k+1) ws=k:=by unfold EY;rw[if_pos aY];omega
theorem Rs.name{w:World}{b P k n:Nat}{lv uv:Value}{ws:List ByteArray}(h:Rs w b P k n lv uv ws)(hk:k≤ws.length):Calls ai 280 #[.pointer (some ⟨b,0,none⟩)] w fun r w'=>(Keeps (fun x=>x=b) w w'∧Rs w' b P (k+1) n lv uv ws)∧qf ws k n r:=by
 have HT:=ae (h.take hk);unfold iI at HT;cases hs:ws[k]? with
 |none=>
  have hpost:∀r,qf ws k n r↔r=aP 190 n ws.length:=fun r=>by unfold qf;rw[hs]
  simp only[hpost];rw[hs]at HT;have VO:af (Calls ai 209 #[.pointer (some ⟨b,0,none⟩)] w fun r w'=>(Keeps (fun x=>x=b) w w'∧Rs w' b P (k+1) n lv uv ws)∧r=aP 190 n ws.length):=HT;clear HT hs hpost h hk;go_enter Tryz.func280,Tryz.ntmps280;go_wp2_with(go_at_call 209;(with_reducible refine VO.out.mono ?_);rintro r w2⟨d2,rfl⟩;unfold aP)
  exact⟨rfl,d2,rfl⟩
 |some s=>
  have hlt:k<ws.length:=(List.getElem?_eq_some_iff.1 hs).1;have hsz:=h.sizes s (List.mem_of_getElem? hs);have hpost:∀r,qf ws k n r↔(if cn s=true then r=.returned (.string s)else r=aP 191 n k):=fun r=>by unfold qf;rw[hs]
  simp only[hpost];rw[hs]at HT;have VO:af (Calls ai 209 #[.pointer (some ⟨b,0,none⟩)] w fun r w'=>(Keeps (fun x=>x=b) w w'∧Rs w' b P (k+1) n lv uv ws)∧r=.returned (.string s)):=HT;have HL:=ae fun u=>nY s aY u
  have hu:=fun(u:World)(hr:Rs u b P (k+1) n lv uv ws)=>hr.unless aY aY (cn s) 191
  rw[dM hlt]at hu;generalize cn s=LB at*;cases LB with
  |true=>
   simp only[if_true];have HU:af (∀(u:World),Rs u b P (k+1) n lv uv ws→Calls ai 210 #[.pointer (some ⟨b,0,none⟩),.bool true,.int .i64 191] u fun r w'=>r=.returned (.tuple #[])∧Below u.heap.size u w'):=ae hu;clear HT hs hpost h hk hu hlt hsz;go_enter Tryz.func280,Tryz.ntmps280;go_wp2_with(first
    |(go_at_call 209;(with_reducible refine VO.out.mono ?_);rintro r w2⟨⟨d2,e2⟩,rfl⟩)
    |(go_at_call 199;(with_reducible refine(HL.out _).mono ?_);rintro r w3⟨rfl,d3⟩)
    |(go_at_call 210;(with_reducible refine(HU.out _ (e2.below d3)).mono ?_);rintro r w4⟨rfl,d4⟩))
   refine bodyPost_ret (results_tmp rfl _ _ _) rfl ⟨⟨iY (iY d2 d3) d4,(e2.below d3).below d4⟩,rfl⟩
  |false=>
   simp only[Bool.false_eq_true,if_false];have HU:af (∀(u:World),Rs u b P (k+1) n lv uv ws→Calls ai 210 #[.pointer (some ⟨b,0,none⟩),.bool false,.int .i64 191] u fun r w'=>r=aP 191 n k∧Below u.heap.size u w'):=ae hu;clear HT hs hpost h hk hu hlt hsz;go_enter Tryz.func280,Tryz.ntmps280;go_wp2_with(first
    |(go_at_call 209;(with_reducible refine VO.out.mono ?_);rintro r w2⟨⟨d2,e2⟩,rfl⟩)
    |(go_at_call 199;(with_reducible refine(HL.out _).mono ?_);rintro r w3⟨rfl,d3⟩)
    |(go_at_call 210;(with_reducible refine(HU.out _ (e2.below d3)).mono ?_);rintro r w4⟨rfl,d4⟩;unfold aP))
   exact⟨rfl,⟨iY (iY d2 d3) d4,(e2.below d3).below d4⟩,rfl⟩
theorem Rs.must{w:World}{b P k n:Nat}{lv uv:Value}{ws:List ByteArray}(h:Rs w b P k n lv uv ws)(hk:k≤ws.length)(t:ByteArray):Calls ai 281 #[.pointer (some ⟨b,0,none⟩),.string t] w fun r w'=>(Keeps (fun x=>x=b) w w'∧Rs w' b P (k+1) n lv uv ws)∧oW ws t k n r:=by
 have HT:=ae (h.take hk);unfold iI at HT;cases hs:ws[k]? with
 |none=>
  have hpost:∀r,oW ws t k n r↔r=aP 190 n ws.length:=fun r=>by unfold oW;rw[hs]
  simp only[hpost];rw[hs]at HT;have VO:af (Calls ai 209 #[.pointer (some ⟨b,0,none⟩)] w fun r w'=>(Keeps (fun x=>x=b) w w'∧Rs w' b P (k+1) n lv uv ws)∧r=aP 190 n ws.length):=HT;clear HT hs hpost h hk;go_enter Tryz.func281,Tryz.ntmps281;go_wp2_with(go_at_call 209;(with_reducible refine VO.out.mono ?_);rintro r w2⟨d2,rfl⟩;unfold aP)
  exact⟨rfl,d2,rfl⟩
 |some s=>
  have hlt:k<ws.length:=(List.getElem?_eq_some_iff.1 hs).1;have hpost:∀r,oW ws t k n r↔(if s=t then r=.returned (.tuple #[])else r=aP 190 n k):=fun r=>by unfold oW;rw[hs]
  simp only[hpost];rw[hs]at HT;have VO:af (Calls ai 209 #[.pointer (some ⟨b,0,none⟩)] w fun r w'=>(Keeps (fun x=>x=b) w w'∧Rs w' b P (k+1) n lv uv ws)∧r=.returned (.string s)):=HT;have hu:=fun(u:World)(hr:Rs u b P (k+1) n lv uv ws)=>hr.wrong aY aY 190
  rw[dM hlt]at hu;by_cases e:s=t
  ·subst e;simp only[if_true];have hss:(s.toList==s.toList)=true:=by simp
   clear HT hs hpost h hk hu hlt;go_enter Tryz.func281,Tryz.ntmps281;go_wp2_with(go_at_call 209;(with_reducible refine VO.out.mono ?_);rintro r w2⟨⟨d2,e2⟩,rfl⟩)
   refine⟨rfl,_,results_none rfl _ _ _,⟨d2,e2⟩,rfl⟩
  ·simp only[if_neg e];have hss:(s.toList==t.toList)=false:=by
    rw[beq_eq_false_iff_ne];intro h;rw[cM,cM]at h;exact e (ago (Array.ext' h))
   have HU:af (∀(u:World),Rs u b P (k+1) n lv uv ws→Calls ai 249 #[.pointer (some ⟨b,0,none⟩),.int .i64 190] u fun r w'=>r=aP 190 n k∧Below u.heap.size u w'):=ae hu;clear HT hs hpost h hk hu hlt e;go_enter Tryz.func281,Tryz.ntmps281;go_wp2_with(first
    |(go_at_call 209;(with_reducible refine VO.out.mono ?_);rintro r w2⟨⟨d2,e2⟩,rfl⟩)
    |(go_at_call 249;(with_reducible refine(HU.out _ e2).mono ?_);rintro r w4⟨rfl,d4⟩;unfold aP))
   exact⟨rfl,⟨iY d2 d4,e2.below d4⟩,rfl⟩
def aV(w:World)(v:Value)(n size:Nat)(xs:List Value):Prop:=∃A cap,v=.slice A n cap∧xs.length=n*size∧(0<n→∃g o,A=some ⟨g,o,none⟩∧∀j u,xs[j]? =some u→w.cell? ⟨g,o+j,none⟩=some u)
theorem aV.dm{w:World}{base size n:Nat}{e:TypeId}{v:Value}{xs:List Value}(h:w.ownsRow base e size v n xs):aV w v n size xs:=by
 rcases h.2 with⟨e1,e2⟩|⟨g,cap,cur,e1,hb,hg,rest⟩
 ·subst e1 e2;exact⟨none,0,rfl,h.1,fun h=>absurd h aI⟩
 ·subst e1;refine⟨_,cap,rfl,h.1,fun _=>⟨g,0,rfl,fun j u hu=>?_⟩⟩;have hj:j<n*size:=by rw[←h.1];exact(List.getElem?_eq_some_iff.1 hu).1
  rw[agw,h.cellAt j hj];exact hu
theorem aV.below{w w':World}{v:Value}{n size:Nat}{xs:List Value}(h:aV w v n size xs)(hb:Below w.heap.size w w'):aV w' v n size xs:=by
 obtain⟨A,cap,h1,h2,h3⟩:=h;refine⟨A,cap,h1,h2,fun hn=>?_⟩;obtain⟨g,o,ha,hc⟩:=h3 hn;exact⟨g,o,ha,fun j u hu=>(hb.cell (au w _ (hc j u hu))).trans (hc j u hu)⟩
def f8(l:List (ByteArray×Value)):List Value:=l.flatMap fun x=>[bU x.1,x.2]
theorem F5:∀(l:List (ByteArray×Value))(k:Nat)(x:ByteArray×Value),l[k]? =some x→(f8 l)[k*2]? =some (.string x.1)∧(f8 l)[k*2+1]? =some x.2:=by
 intro l
 induction l with
 |nil=>intro k x h;cases h
 |cons y r ih=>
  intro k x h;cases k with
  |zero=>injection h with h;subst h;exact⟨rfl,rfl⟩
  |succ k=>
   obtain⟨h1,h2⟩:=ih k x h;rw[show(k+1)*2=k*2+1+1 by omega];exact⟨h1,h2⟩
theorem PV{w:World}(g:Nat)(s x:ByteArray)(v:Value)(hg:w.cell? ⟨g,0,none⟩=some (.string s)):Calls ai 288 #[.agg #[.string x,v],.pointer (some ⟨g,0,none⟩)] w (Got (.bool (decide (x=s))) w):=by
 have hx:=aG.new w 296 #[.string x,v];have hb:=boxed w (.cells #[.string x,v] 296);have hg2:=(hb.cell (p:=⟨g,0,none⟩) (au w _ hg)).trans hg;have x0:=hx.cell 0;simp at x0;have hd:(x.toList==s.toList)=decide (x=s):=by
  by_cases e:x=s
  ·subst e;simp
  ·rw[decide_eq_false e,beq_eq_false_iff_ne];intro h;rw[cM,cM]at h;exact e (ago (Array.ext' h))
 obtain⟨D,hD⟩:∃D,D=decide (x=s):=⟨_,rfl⟩;rw[←hD]at hd⊢;clear hD hx;go_enter Tryz.func288,Tryz.ntmps288;go_wp2_with fail
 go_ret;exact⟨rfl,hb⟩
def Zm(b:Bool)(w:World)(r:Ending)(w':World):Prop:=(∃i:Int,r=.returned (.int .i64 i)∧decide (0≤i)=b)∧Below w.heap.size w w'
theorem F6{w:World}(l:List (ByteArray×Value))(hl:l.length≤4000000)(lv:Value)(hr:aV w lv l.length 2 (f8 l))(g:Nat)(s:ByteArray)(hg:w.cell? ⟨g,0,none⟩=some (.string s)):Calls ai 318 #[lv,.func (.func 288) #[] #[.pointer (some ⟨g,0,none⟩)]] w (Zm (l.any fun x=>decide (x.1=s)) w):=by
 obtain⟨A,cap,rfl,hlen,hA⟩:=hr;obtain⟨N,hN⟩:∃n,n=l.length:=⟨_,rfl⟩;obtain⟨R,hR⟩:∃r,r=l.any fun x=>decide (x.1=s):=⟨_,rfl⟩
 rw[←hN]at hA hl⊢;rw[←hR];obtain⟨HA,HN,HR,Hg⟩:=fH hA hN hR hg;clear hA hN hlen hR hg;go_enter Tryz.func318,Tryz.ntmps318;go_wp2_with fail
 go_loopw [8] (fun v8 wr=>∃k:Nat,k≤N∧v8=.int .i64 k∧af (Below w.heap.size w wr)∧af (((l.take k).any fun x=>decide (x.1=s))=false)) (fun v8 _=>N-(intOf v8).toNat)
 case atStart=>exact⟨0,bF _,rfl,ae (aK _ _),ae rfl⟩
 case round=>
  obtain⟨k,hk,rfl,hb,hno⟩:=hrel;by_cases hlt:k<N
  ·have hkl:k<l.length:=by have:=HN.out;omega
   obtain⟨q,o,rfl,hc⟩:=HA.out aY;have htk:=aA hkl;have hx:l[k]? =some l[k]:=ag hkl;have hcell:=F5 l k _ hx;have c0:=hc _ _ hcell.1;have c1:=hc _ _ hcell.2;generalize l[k]=X at htk c0 c1;have d0:=(hb.out.cell (au w _ c0)).trans c0;have d1:=(hb.out.cell (au w _ c1)).trans c1;rw[←Nat.add_assoc]at d1;have hgw:=(hb.out.cell (au w _ Hg.out)).trans Hg.out;have HF:=ae (PV (w:=wr) g s X.1 X.2 hgw);obtain⟨X1,X2⟩:=X;simp only at d0 d1 HF;clear c0 c1 hx hcell hgw hc;by_cases he:X1=s
   ·have hres:R=true:=by
     rw[HR.out];have:(l.take (k+1)).any (fun x=>decide (x.1=s))=true:=by rw[htk,List.any_append];simp[he]
     obtain⟨y,hy,hys⟩:=List.any_eq_true.1 this;exact List.any_eq_true.2 ⟨y,List.mem_of_mem_take hy,hys⟩
    have ej:=ae hres;rw[decide_eq_true he]at HF;clear hres htk he;go_wp2_with(go_at_call 288;(with_reducible refine HF.out.mono ?_);rintro r w2⟨rfl,e2⟩)
    go_ret;exact⟨⟨_,rfl,by rw[ej.out];exact decide_eq_true aY⟩,after hb.out e2⟩
   ·have zw:((l.take (k+1)).any fun x=>decide (x.1=s))=false:=by rw[htk,List.any_append,hno.out];simp[he]
    have F7:=ae zw;rw[decide_eq_false he]at HF;clear zw htk he;go_wp2_with(go_at_call 288;(with_reducible refine HF.out.mono ?_);rintro r w2⟨rfl,e2⟩)
    go_roundw
    case rel=>exact⟨k+1,by omega,by go_num,(bm hb e2),F7⟩
    case measure=>simp[intOf];omega
  ·obtain rfl:k=N:=by omega
   have hres:R=false:=by
    have:=hno.out;rw[aO (by have:=HN.out;omega)]at this;rw[HR.out];exact this
   have ej:=ae hres;clear hres;go_wp2_with fail
   go_ret;exact⟨⟨_,rfl,by rw[ej.out];rfl⟩,hb.out⟩
theorem xw{w:World}(l:List (ByteArray×Value))(hl:l.length≤4000000)(lv:Value)(hr:aV w lv l.length 2 (f8 l))(g:Nat)(s:ByteArray)(hg:w.cell? ⟨g,0,none⟩=some (.string s)):Calls ai 287 #[lv,.func (.func 288) #[] #[.pointer (some ⟨g,0,none⟩)]] w (Got (.bool (l.any fun x=>decide (x.1=s))) w):=by
 have HI:=ae (F6 l hl lv hr g s hg);generalize(l.any fun x=>decide (x.1=s))=R at HI⊢;clear hg hr;go_enter Tryz.func287,Tryz.ntmps287;go_wp2_with(go_at_call 318;(with_reducible refine HI.out.mono ?_);rintro r w2⟨⟨i,rfl,hi⟩,e2⟩)
 refine bodyPost_ret (results_tmp rfl _ _ _) rfl ⟨?_,e2⟩;rw[←hi];rfl
theorem zx{w:World}(l:List (ByteArray×Value))(hl:l.length≤4000000)(lv:Value)(hr:aV w lv l.length 2 (f8 l))(s:ByteArray):Calls ai 250 #[lv,.string s] w (Got (.bool (l.any fun x=>decide (x.1=s))) w):=by
 have hb0:=boxed w (.cells #[.string s] 9);have hg:(w.alloc (.cells #[.string s] 9)).cell? ⟨w.heap.size,0,none⟩=some (.string s):=(aG.new w 9 #[.string s]).cell 0;have HI:=ae (xw l hl lv (hr.below hb0) w.heap.size s hg);generalize(l.any fun x=>decide (x.1=s))=R at HI⊢;have hmf:∀(fn:Fn)(first cap:Array Value)(w:World),(Instr.makeFunc fn first cap).run ai w=.ok (.func fn first cap) w:=fun _ _ _ _=>rfl
 clear hg hr;go_enter Tryz.func250,Tryz.ntmps250;go_wp2_with(go_at_call 287;(with_reducible refine HI.out.mono ?_);rintro r w2⟨rfl,e2⟩)
 go_ret;exact⟨rfl,after hb0 e2⟩
end Go.Proofs.YtdfnhljccdoncaaGreatDoor
