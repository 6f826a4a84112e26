/- Joined out of: Fb TwA NuA PlC PlD PlE PlF. -/
import Derived.Test.YteflnojjjdkgmaaGreatDoorNac
import Derived.Maps.AppendAt
import Derived.Lib.SplitLaws
import Derived.Deep.Onto
import Derived.Deep.RegionHeld3
import Derived.Deep.DrawnRows
import Derived.BigRegion
set_option linter.unusedVariables false
set_option linter.unusedSimpArgs false
set_option maxHeartbeats 16000000
set_option maxRecDepth 100000
open Array renaming length_toList→ja
open ByteArray renaming ext→afl
open Go.ByteArray renaming toList_eq→bO
open Go.IntKind renaming wrap_i64→afm
open Go.Lib renaming hid→ae
open Go.Proofs.Tryz renaming prog→ag
open Go.RowKit renaming Hid→af
open Go.RowKit.Below renaming refl→aG
open Go.Value renaming string→cC
open Go.World renaming block_lt_of_cell?→aj,ownsRow_nil→a8
open List renaming getElem?_eq_getElem→ah,length_append→ai,length_map→ax,take_succ_eq_append_getElem→aC,append_assoc→aO,take_of_length_le→aT,drop_eq_getElem_cons→bz,getElem?_map→bA,getElem_mem→bB,eq_nil_of_length_eq_zero→bF,length_cons→bW,getElem?_toArray→sc
open Nat renaming le_refl→aw,zero_le→bD,zero_add→afx
open Option renaming bind_some→afw
namespace Go.Proofs.YteflnojjjdkgmaaGreatDoor
open Go.RowKit
theorem adx{w:World}(h:w.cell? ⟨7,15,none⟩=some (.int .u8 4)):Calls ag 325 #[.int .u64 16] w fun e w'=>e=.returned (.int .i64 4)∧w=w':=by
 have e1:IntKind.u64.wrap (bits BinOp.and IntKind.u64 16 (IntKind.u64.wrap (-16))*285870213051353865)/288230376151711744=15:=by kernel_rfl
 go_enter Tryz.func325,Tryz.ntmps325;go_wp2_with fail
 go_ret;exact⟨rfl,rfl⟩
theorem tz_{w:World}(h:w.cell? ⟨7,15,none⟩=some (.int .u8 4)):Calls ag 310 #[.int .u64 16] w fun e w'=>e=.returned (.int .i64 4)∧w=w':=by
 have H:=ae h;clear h;go_enter Tryz.func310,Tryz.ntmps310;go_wp2_with(go_at_call 325;refine(adx H.out).mono ?_;rintro e wf⟨rfl,rfl⟩)
 go_ret;exact⟨rfl,rfl⟩
theorem abl{w:World}:Calls ag 309 #[.int .i64 16] w fun e w'=>e=.returned (.bool true)∧w=w':=by
 go_enter Tryz.func309,Tryz.ntmps309;go_wp2_with fail
 go_ret;exact⟨rfl,rfl⟩
structure nc(w:World)(g:Nat)(t:List UInt8):Prop where
 row:∃cs:Array Value,aD w g 393 cs∧cs.size=65∧(∀i,i<65→∃v,cs[i]? =some v)∧∀j(hj:j<t.length),cs[65-t.length+j]? =some (.int .u8 ((t[j]'hj).toNat:Int))
theorem nc.cell{w:World}{g:Nat}{t:List UInt8}(h:nc w g t)(i:Nat)(hi:i<65):∃v,w.cell? ⟨g,i,none⟩=some v:=by
 obtain⟨cs,hb,_,ha,_⟩:=h.row;obtain⟨v,hv⟩:=ha i hi;exact⟨v,(hb.cell i).trans hv⟩
theorem nc.frozen{w:World}{g:Nat}{t:List UInt8}(h:nc w g t)(i:Nat):w.frozen? ⟨g,i,none⟩=false:=by
 obtain⟨cs,hb,_⟩:=h.row;exact hb.frozen i
theorem nc.put{w:World}{g:Nat}{t:List UInt8}(h:nc w g t)(ht:t.length<65)(c:UInt8):nc (w.setCell ⟨g,64-t.length,none⟩ (.int .u8 (c.toNat:Int))) g (c::t):=by
 obtain⟨cs,hb,hs,ha,hc⟩:=h.row;refine⟨_,hb.aN _ _,by simp[hs],fun i hi=>?_,fun j hj=>?_⟩
 ·rw[Array.getElem?_setIfInBounds];split
  ·exact⟨_,by rw[if_pos aM]⟩
  ·exact ha i hi
 ·rw[bW]at hj⊢;rw[Array.getElem?_setIfInBounds];cases j with
  |zero=>rw[if_pos aM,if_pos aM];rfl
  |succ j=>
   rw[if_neg aM,List.getElem_cons_succ];have:=hc j aM;rw[←this];congr 1;omega
theorem KC{x y:Nat}{t:List UInt8}(h:hexL x=hexL y++t)(hy:16≤y):hexL x=hexL (y/16)++(td (y%16)::t):=by
 rw[h]
 conv=>lhs;arg 1;unfold hexL
 rw[dif_neg aM,aO];rfl
theorem KE{x y:Nat}{t:List UInt8}(h:hexL x=hexL y++t)(hy:y<16):hexL x=td y::t:=by
 rw[h]
 conv=>lhs;arg 1;unfold hexL
 rw[dif_pos hy];rfl
theorem sx(d:Nat)(h:d<16):((⟨#[48,49,50,51,52,53,54,55,56,57,97,98,99,100,101,102,103,104,105,106,107,108,109,110,111,112,113,114,115,116,117,118,119,120,121,122]⟩:ByteArray)[d]'(Nat.lt_trans h aF)).toNat=(td d).toNat:=by
 have:∀d:Fin 16,((⟨#[48,49,50,51,52,53,54,55,56,57,97,98,99,100,101,102,103,104,105,106,107,108,109,110,111,112,113,114,115,116,117,118,119,120,121,122]⟩:ByteArray)[d.1]'(Nat.lt_trans d.2 aF)).toNat=(td d.1).toNat:=by decide
 exact this ⟨d,h⟩
theorem U8(g n:Nat)(hn:n≤64)(W:World):(Instr.sliceAt 393 (.pointer (some ⟨g,0,none⟩)) (some (.int .i64 ((65:Int)-(n:Int)-1))) none none).run ag W=.ok (.slice (some ⟨g,64-n,none⟩) (n+1) (n+1)) W:=by
 have ha:ag.arrayLen 393=65:=by kernel_rfl
 have hu:ag.underlying 393=some (.array (ag.arrayLen 393) (ag.elem 393)):=by kernel_rfl
 have hs:(sizeOf (ag.elem 393)).run ag W=.ok 1 W:=by kernel_rfl
 rw[run_sliceAt_array_l W _ _ hu .i64 ((65:Int)-(n:Int)-1) aM (by rw[ha];omega),hs,ha];have e:((65:Int)-(n:Int)-1).toNat=64-n:=by omega
 rw[e];show Result.ok (Value.slice (some (if 65=64-n then(⟨g,0,none⟩:Addr)else(⟨g,0,none⟩:Addr).add ((64-n)*1))) (65-(64-n)) (65-(64-n))) W=_;rw[if_neg aM,show 65-(64-n)=n+1 by omega];have e2:(⟨g,0,none⟩:Addr).add ((64-n)*1)=⟨g,64-n,none⟩:=by unfold Addr.add;split<;>simp_all
 rw[e2]
theorem Zh{w:World}(x:Nat)(hx:x<65536)(h:w.cell? ⟨7,15,none⟩=some (.int .u8 4)):Calls ag 287 #[.slice none 0 0,.int .u64 x,.int .i64 16,.bool false,.bool false] w fun e w'=>e=.returned (.tuple #[.slice none 0 0,.string ⟨(hexL x).toArray⟩])∧Below w.heap.size w w':=by
 have H:=ae (h:w.cell? ⟨7,15,none⟩=some (.int .u8 4));have h5:7<w.heap.size:=aj w _ h;have TZ:=fun o=>tz_ (w:=w.alloc o) ((((aG w.heap.size w).alloc (aw _) o).cell (p:=⟨7,15,none⟩) h5).trans h)
 clear h;go_enter Tryz.func287,Tryz.ntmps287;go_wp2_with(first
  |(go_at_call 309;refine abl.mono ?_;rintro e wf⟨rfl,rfl⟩)
  |(go_at_call 310;refine(TZ _).mono ?_;rintro e wf⟨rfl,rfl⟩))
 go_loopw [1,13] (fun u i wr=>∃(y:Nat)(t:List UInt8),t.length≤15∧y<16^(16-t.length)∧u=.int .u64 y∧i=.int .i64 ((65:Int)-(t.length:Int))∧af (hexL x=hexL y++t)∧nc wr w.heap.size t∧Below w.heap.size w wr) (fun u _ _=>(intOf u).toNat)
 case atStart=>
  have hz:(Tryz.zeroCells393:Array Value).size=65:=by kernel_rfl
  exact⟨x,[],by decide,by simp;omega,rfl,rfl,ae (by simp),⟨⟨Tryz.zeroCells393,aD.new _ _ _,hz,fun i hi=>⟨_,Array.getElem?_eq_getElem (by rw[hz];exact hi)⟩,fun j hj=>absurd hj (by simp)⟩⟩,(aG _ _).alloc (aw _) _⟩
 case round=>
  obtain⟨y,t,ht,hy,rfl,rfl,hx,hr,hB⟩:=hrel;have hyt:y<18446744073709551616:=Nat.lt_of_lt_of_le hy (Nat.le_trans (Nat.pow_le_pow_right aF (show 16-t.length≤16 by omega)) aF);have hput:=fun c=>hr.put (by omega:t.length<65) c
  obtain⟨v,hv⟩:=hr.cell (64-t.length) aM;have hf:=hr.frozen (64-t.length);have e1:((65:Int)-(t.length:Int)-1).toNat=64-t.length:=by omega
  have h0:(0:Int)≤(65:Int)-(t.length:Int)-1:=by omega
  have hlt:=(show w.heap.size<wr.heap.size by obtain⟨cs,hb,_⟩:=hr.row;exact hb.lt);by_cases hc:16≤y
  ·have hstep:=KC hx.out hc;have abm:=ae hstep;clear hstep;have abn:y/16<16^(16-(t.length+1)):=by
    have:16^(16-t.length)=16^(16-(t.length+1))*16:=by
     rw[←Nat.pow_succ];congr 1;omega
    omega
   have hn:t.length+1≤15:=by
    rcases Nat.lt_or_ge t.length 15 with h|h
    ·omega
    ·have:t.length=15:=by omega
     rw[this]at hy;omega
   have ea:bits .and .u64 (y:Int) 15=((y%16:Nat):Int):=by
    have h:=u64_and_nat y 15 hyt aF;rw[show((15:Nat):Int)=15 from rfl]at h;rw[h,show(15:Nat)=2^4-1 from rfl,Nat.and_two_pow_sub_one_eq_mod]
   have hm:y%16<16:=Nat.mod_lt _ aF;have hd:=sx (y%16) hm;have hP:=hput (td (y%16));rw[←hd]at hP;obtain⟨abo,HB,ady,Hx⟩:=cH hP hB abn hx;clear hx hd hP hput hB hr hy abn;go_wp2_with fail
   go_roundw
   case rel=>
    exact⟨y/16,td (y%16)::t,by simpa using hn,ady.out,by go_num,by rw[bW];congr 1;omega,abm,abo.out,HB.out.setCell (aw _) _⟩
   case measure=>simp[intOf];omega
  ·have hlast:=KE hx.out aM;have abp:=ae hlast;clear hlast;have hm:y<16:=by omega
   have hd:=sx y hm;have hP:=hput (td y);have hback:=run_convert_bytes_back (P:=ag) (wr.setCell ⟨w.heap.size,64-t.length,none⟩ (.int .u8 ((td y).toNat:Int))) 67 9 5 ⟨w.heap.size,64-t.length,none⟩ (t.length+1) (td y::t) Tryz.underlying67 Tryz.underlying5 Tryz.underlying9 (fun j hj=>by
    obtain⟨cs,hb,hs,ha,hcc⟩:=hP.row;have e:(⟨w.heap.size,64-t.length,none⟩:Addr).add j=⟨w.heap.size,64-t.length+j,none⟩:=by unfold Addr.add;split<;>simp_all
    rw[e];refine(hb.cell _).trans ?_;have:=hcc j hj;rw[bW]at this;rw[←this];congr 1;omega)
   rw[←hd]at hP hback;obtain⟨abo,HB⟩:=aI hP hB;clear hx hd hP hput hB hr hy;have hsl:=U8 w.heap.size t.length aM;rw[bW]at hback;go_wp2_with fail
   go_ret2;exact⟨show Ending.returned (.tuple #[.slice none 0 0,.string ⟨(td y::t).toArray⟩])=_ by rw[abp.out],HB.out.setCell (aw _) _⟩
theorem Zi{w:World}(x:Nat)(hx:x<65536)(h:w.cell? ⟨7,15,none⟩=some (.int .u8 4)):Calls ag 256 #[.int .u64 x,.int .i64 16] w fun e w'=>e=.returned (.string ⟨(hexL x).toArray⟩)∧Below w.heap.size w w':=by
 have H:=ae (Zh x hx h);clear h;go_enter Tryz.func256,Tryz.ntmps256;go_wp2_with(go_at_call 287;refine H.out.mono ?_;rintro e wf⟨rfl,hb⟩;have Hb:=ae hb;clear hb)
 go_ret;exact⟨rfl,Hb.out⟩
theorem fmt16{w:World}(x:Nat)(hx:x<65536)(h:w.cell? ⟨7,15,none⟩=some (.int .u8 4)):Calls ag 217 #[.int .u64 x,.int .i64 16] w fun e w'=>e=.returned (.string ⟨(hexL x).toArray⟩)∧Below w.heap.size w w':=by
 have H:=ae (Zi x hx h);clear h;go_enter Tryz.func217,Tryz.ntmps217;go_wp2_with(go_at_call 256;refine H.out.mono ?_;rintro e wf⟨rfl,hb⟩;have Hb:=ae hb;clear hb)
 go_ret;exact⟨rfl,Hb.out⟩
theorem pW:(ag.info? 9).map (fun i=>(i.zero,i.size,i.bytes))=some (some (.string ByteArray.empty),1,16):=by kernel_rfl
theorem own_below{w w':World}{base size n:Nat}{e:TypeId}{v:Value}{xs:List Value}(h:w.ownsRow base e size v n xs)(hb:Below w.heap.size w w'):w'.ownsRow base e size v n xs:=h.kept (row:=none) ⟨hb.os,hb.tape,hb.output,hb.size,fun k hk _=>hb.block k hk⟩ (by
 cases hv:v.ownBlock with
 |none=>exact Or.inl rfl
 |some k=>exact Or.inr (by simp))
def strs(L:List (List UInt8)):List ByteArray:=L.map fun l=>⟨l.toArray⟩
theorem uB(L:List (List UInt8)):(strs L).map (·.data.toList)=L:=by
 unfold strs;rw[List.map_map]
 conv=>rhs;rw[←List.map_id L]
 exact List.map_congr_left fun l _=>by simp
theorem BK{w:World}{base n:Nat}{e:TypeId}{v:Value}{xs:List Value}(h:w.ownsRow base e 1 v (n+1) xs):∃g cap,v=.slice (some ⟨g,0,none⟩) (n+1) cap:=by
 rcases h.2 with⟨_,h⟩|⟨g,cap,_,h,_⟩
 ·omega
 ·exact⟨g,cap,h⟩
theorem BL{w:World}{base:Nat}{v:Value}{L:List (List UInt8)}(c:UInt8)(h:w.ownsRow base 9 1 v L.length ((strs L).map cC))(hl:L.length≤1000)(hj:(Lib.join L [c]).length≤4000000):Calls ag 214 #[v,.string ⟨#[c]⟩] w fun r w'=>r=.returned (.string ⟨(Lib.join L [c]).toArray⟩)∧Below w.heap.size w w':=by
 have hl2:(strs L).length=L.length:=by simp[strs]
 rcases h.2 with⟨rfl,hn⟩|⟨g,cap,cur,rfl,hg,hh,hcap,_,hsz,htake⟩
 ·have:L=[]:=bF hn;subst this;exact(Tryz.strings_Join_none none 0 ⟨#[c]⟩ w).mono fun r w' hq=>⟨hq.1.trans rfl,by obtain⟨_,hb⟩:=hq;first|exact hb|(subst hb;exact aG _ _)⟩
 ·have hcell:=fun j hj=>h.cellAt (g:=g) (cap:=cap) j hj
  have:=Tryz.strings_Join g 0 cap (strs L) ⟨#[c]⟩ w (fun j x hx=>by
   have hj:j<(strs L).length:=(List.getElem?_eq_some_iff.1 hx).1;rw[afx];refine(hcell j aM).trans ?_;rw[bA,hx];rfl) (h.lt g rfl).2 aM aM (by rw[uB];simpa using(show(Lib.join L [c]).length≤140737488355328 by omega))
  rw[hl2,uB]at this;exact this
theorem uC:(ag.info? 22).map (fun i=>(i.zero,i.size,i.bytes))=some (some (.int .u64 0),1,8):=by kernel_rfl
def ew(L:List Nat):List Value:=L.map fun x:Nat=>Value.int .u64 (x:Int)
theorem BM(L:List Nat)(x:Nat):ew (L++[x])=ew L++[.int .u64 x]:=by simp[ew]
theorem aQ{w:World}{base size n:Nat}{e:TypeId}{v:Value}{xs:List Value}(h:w.ownsRow base e size v n xs):∃A cap,v=.slice A n cap:=by
 rcases h.2 with⟨rfl,rfl⟩|⟨g,cap,cur,rfl,_⟩
 ·exact⟨none,0,rfl⟩
 ·exact⟨_,_,rfl⟩
theorem sy{c:UInt8}:∀{l x:List UInt8},x∈cN c l→x.length≤l.length:=by
 intro l
 induction l with
 |nil=>intro x hx;simp[cN]at hx;simp[hx]
 |cons a l ih=>
  intro x hx;unfold cN at hx;split at hx
  ·rcases List.mem_cons.1 hx with rfl|hx
   ·simp
   ·have:=ih hx;simp;omega
  ·split at hx
   ·next e=>exact absurd e (Ko c l)
   ·next h t e=>
    rcases List.mem_cons.1 hx with rfl|hx
    ·have:=ih (x:=h) (by rw[e];exact List.mem_cons_self ..);simp;omega
    ·have:=ih (x:=x) (by rw[e];exact List.mem_cons_of_mem _ hx);simp;omega
theorem E6{base B B' n:Nat}{l:List UInt8}(h:num1 base B l=some n)(hB:B'≤B):num1 base B' l=if n<B' then some n else none:=by
 unfold num1 at h⊢;split at h
 ·cases h
 ·next hl=>
  rw[if_neg hl];cases e:mV (dval base) base 0 l with
  |none=>rw[e]at h;cases h
  |some m=>
   rw[e]at h;simp only[afw]at h⊢;split at h
   ·cases h;rfl
   ·cases h
theorem yT{base B B':Nat}{l:List UInt8}(h:num1 base B l=none)(hB:B'≤B):num1 base B' l=none:=by
 cases e:num1 base B' l with
 |none=>rfl
 |some n=>
  have hlt:=lK e;unfold num1 at h e;split at e
  ·cases e
  ·next hl=>
   rw[if_neg hl]at h;cases e2:mV (dval base) base 0 l with
   |none=>rw[e2]at e;cases e
   |some m=>
    rw[e2]at e h;simp only[afw]at e h;split at e
    ·cases e;rw[if_pos aM]at h;cases h
    ·cases e
def gA(Lo:Option (List Nat))(W:World)(r:Ending)(w':World):Prop:=(match Lo with
 |none=>r=.returned (.tuple #[.slice none 0 0,.bool false])
 |some L=>∃v:Value,r=.returned (.tuple #[v,.bool true])∧w'.ownsRow W.heap.size 22 1 v L.length (ew L))∧Below W.heap.size W w'
theorem gA.bad{W w':World}{Lo:Option (List Nat)}(h:Lo=none)(hb:Below W.heap.size W w'):gA Lo W (.returned (.tuple #[.slice none 0 0,.bool false])) w':=by rw[h];exact⟨rfl,hb⟩
theorem gA.good{W w':World}{Lo:Option (List Nat)}{L:List Nat}{v:Value}(h:Lo=some L)(ho:w'.ownsRow W.heap.size 22 1 v L.length (ew L))(hb:Below W.heap.size W w'):gA Lo W (.returned (.tuple #[v,.bool true])) w':=by rw[h];exact⟨⟨v,rfl,ho⟩,hb⟩
theorem sA{w:World}(env:Env w)(s:ByteArray)(hs:s.size≤2000000)(c:UInt8)(base most:Nat)(abq:most<18446744073709551616)(hbase:base≤16)(hpu:∀v,Env v→∀t:ByteArray,t.size≤4000000→Calls ag 293 #[.string t,.int .i64 base,.int .i64 64] v (xQ base 18446744073709551616 t.data.toList v)):Calls ag 316 #[.string s,.string ⟨#[c]⟩,.int .i64 base,.int .u64 most] w (gA (cV c base (most+1) s.data.toList) w):=by
 obtain⟨i0,hi,hz0,hz1,hz2⟩:=info_parts uC;obtain⟨mM,Hpu⟩:=aI env hpu;clear hpu;by_cases hne:s.size=0
 ·have he:s=⟨#[]⟩:=by
   apply afl;exact Array.eq_empty_of_size_eq_zero hne
  rw[he];have hL:cV c base (most+1) (⟨#[]⟩:ByteArray).data.toList=some []:=rfl;rw[hL];clear env hne abq;go_enter Tryz.func316,Tryz.ntmps316;go_wp2_with fail
  go_ret2;exact gA.good (v:=.slice none 0 0) rfl (a8 _ _ _ _) (aG _ _)
 have hemp:s.toList.isEmpty=false:=by
  rw[←decide_eq_emptyBytes];exact decide_eq_false (fun h=>hne (by rw[h];rfl))
 have hsl:s.data.toList.length=s.size:=(Lib.size_eq s).symm;have hnl:s.data.toList≠[]:=fun e=>hne (by rw[←hsl,e];rfl)
 have hnum:cV c base (most+1) s.data.toList=gather base (most+1) (cN c s.data.toList) []:=by unfold cV;rw[if_neg hnl]
 rw[hnum];have hsp:=uj s ⟨#[c]⟩ c rfl;have hpl:∀t∈cN c s.data.toList,t.length≤s.size:=fun t ht=>by have:=sy ht;omega
 obtain⟨m,hm⟩:=env.mx;have HS:=ae (Tryz.strings_Split s ⟨#[c]⟩ m w aM hm (show 1≤1 from aw _));clear hm env hnum hnl hne;generalize hP:Lib.splitB ⟨#[c]⟩ 0 (Lib.countB s ⟨#[c]⟩) s=P at hsp HS;have hcount:Lib.countB s ⟨#[c]⟩+1=P.length:=by
  have:=Lib.splitB_all (⟨#[c]⟩:ByteArray) (show 1≤1 from aw _) 0 (Lib.countB s ⟨#[c]⟩) s rfl;rw[hP]at this;omega
 rw[hcount]at HS;have hPl:P.length≤s.size+1:=by
  have:=congrArg List.length hsp;rw[ax]at this;rw[this];have:=oL c s.data.toList;omega
 clear hP hcount hsl;have Zj:∀k(hk:k<P.length),(cN c s.data.toList).drop k=(P[k]'hk).data.toList::(cN c s.data.toList).drop (k+1)∧(P[k]'hk).size≤2000000:=by
  intro k hk;have hkQ:k<(cN c s.data.toList).length:=by rw[←hsp,ax];exact hk
  have e:(cN c s.data.toList)[k]'hkQ=(P[k]'hk).data.toList:=by
   have:(P.map (·.data.toList))[k]'(by rw[ax];exact hk)=(P[k]'hk).data.toList:=by simp
   rw[←this];congr 1;exact hsp.symm
  refine⟨by rw[bz hkQ,e],?_⟩;have h:=hpl _ (bB hkQ);rw[e,←Lib.size_eq]at h;omega
 have hQl:(cN c s.data.toList).length=P.length:=by rw[←hsp,ax]
 generalize cN c s.data.toList=Q at Zj hQl⊢;obtain⟨adz,HQl,HPl⟩:=bj Zj hQl hPl;clear hsp hpl Zj hQl hPl;obtain⟨N,hN⟩:∃n,n=P.length:=⟨_,rfl⟩;rw[←hN]at HS HPl HQl;have hNs:N≤2000001:=by have:=HPl.out;omega
 have HN:=ae hN;clear hN;obtain⟨GR,E7⟩:∃g,g=gather base (most+1) Q []:=⟨_,rfl⟩;rw[←E7];have HGR:=ae E7;clear E7;go_enter Tryz.func316,Tryz.ntmps316;go_wp2_with(go_at_call 173;(with_reducible refine HS.out.mono ?_);rintro r w1⟨rfl,rfl⟩)
 have hrow:aD (w.alloc (.cells (P.map cC).toArray 9)) w.heap.size 9 (P.map cC).toArray:=aD.new _ _ _;have hb0:=boxed w (.cells (P.map cC).toArray 9);generalize w.alloc (.cells (P.map cC).toArray 9)=W0 at hrow hb0⊢;obtain⟨wS,Hb0⟩:=aI hrow hb0;clear hrow hb0;go_loopw [10,21] (fun v10 v21 wr=>∃(k:Nat)(acc:List Nat)(A:Option Addr)(cap:Nat),k≤N∧v21=.int .i64 k∧v10=.slice A acc.length cap∧acc.length≤9∧af (wr.ownsRow W0.heap.size 22 1 (.slice A acc.length cap) acc.length (ew acc))∧af (Below W0.heap.size W0 wr)∧af (GR=gather base (most+1) (Q.drop k) acc)) (fun _ v21 _=>N-(intOf v21).toNat)
 case atStart=>exact⟨0,[],none,0,bD _,rfl,rfl,by simp,ae (a8 _ _ _ _),ae (aG _ _),HGR⟩
 case round=>
  obtain⟨k,acc,A,cap,hk,rfl,rfl,hal,hown,hb,hg⟩:=hrel;by_cases hlt:k<N
  ·have hkP:k<P.length:=by have:=HN.out;omega
   have hp:=adz.out k hkP;have cx:=(hb.out.cell (p:=⟨w.heap.size,k,none⟩) wS.out.lt).trans (wS.out.cell k);rw[sc,bA,ah hkP]at cx;simp only[Option.map_some]at cx;generalize P[k]'hkP=T at hp cx;have hg2:=hg.out;rw[hp.1]at hg2;have HF:=ae (Hpu.out wr ((mM.out.below Hb0.out).below hb.out) T (by have:=hp.2;omega));generalize T.data.toList=t at hp hg2 HF;have Hg2:=ae hg2;clear hp hg2 hg;go_wp2_with fail
   go_at_call 293;refine HF.out.mono ?_;rintro e w2⟨⟨n,hn,rfl⟩|⟨hn,n,tp,p,Zk,rfl⟩,hb2⟩
   ·have hb3:=aU hb hb2;have hsz3:w.heap.size≤w2.heap.size:=Nat.le_trans Hb0.out.size hb3.out.size;have ho3:=ae (own_below hown.out hb2);have hb1:=E6 hn (B':=most+1) aM;have Zk:=lK hn;clear hn hb2 cx;by_cases hnm:most<n
    ·have E7:GR=none:=by
      rw[Hg2.out];unfold gather;rw[hb1,if_neg aM]
     have E9:=ae E7;have hq:(most:Int)<(n:Int):=by omega
     clear E7 hb1;go_wp2_with fail
     go_ret2;exact gA.bad E9.out (after Hb0.out hb3.out)
    ·have hq:¬(most:Int)<(n:Int):=by omega
     rw[if_pos aM]at hb1;by_cases h8:8<acc.length
     ·have E7:GR=none:=by
       rw[Hg2.out];unfold gather;rw[hb1];simp only;rw[if_pos h8]
      have E9:=ae E7;clear E7 hb1;go_wp2_with fail
      go_ret2;exact gA.bad E9.out (after Hb0.out hb3.out)
     ·have E7:GR=gather base (most+1) (Q.drop (k+1)) (acc++[n]):=by
       rw[Hg2.out]
       conv=>lhs;unfold gather
       rw[hb1];simp only;rw[if_neg h8]
      have E9:=ae E7;clear E7 hb1;go_wp2_with(at_builtin;refine wpList_append_own _ rfl _ _ 355 rfl W0.heap.size 22 i0 (.int .u64 0) 1 8 Tryz.underlying355 hi hz0 hz1 hz2 rfl aF _ acc.length _ rfl (ho3.out.alloc _) ⟨w2.heap.size,0,none⟩ 1 1 [.int .u64 n] rfl rfl (cell_one_new _ _ _) (fun x hx=>by simp at hx;subst hx;rfl) (by unfold maxLen;omega) aM (by have:=hb3.out.size;simp;omega) ?_;intro v' w3 hown' hgrow3 hnil3;have OT:=ae hown';have hbW:=ae ((hb3.out.alloc (hb3.out.size) _).grown hgrow3 (by have:=hb3.out.size;simp;omega) (fun q hq=>(ho3.out.lt q hq).1));clear hown' hgrow3 hnil3)
      obtain⟨A',cap',rfl⟩:=aQ OT.out;go_roundw
      case rel=>exact⟨k+1,acc++[n],A',cap',by omega,by go_num,by rw[ai];rfl,by rw[ai,List.length_singleton];omega,ae (by rw[BM,ai];exact OT.out),hbW,E9⟩
      case measure=>simp[intOf];omega
   ·have hb3:=aU hb hb2;have hb1:=yT hn (B':=most+1) aM;have E7:GR=none:=by
     rw[Hg2.out];unfold gather;rw[hb1]
    have E9:=ae E7;clear E7 hb1 hn hb2 cx;go_wp2_with fail
    go_ret2;exact gA.bad E9.out (after Hb0.out hb3.out)
  ·obtain rfl:k=N:=by omega
   have hend:GR=some acc:=by
    rw[hg.out,List.drop_of_length_le (by have:=HQl.out;omega)];rfl
   have adA:=ae hend;clear hend hg;go_wp2_with fail
   go_ret2;exact gA.good (v:=.slice A acc.length cap) adA.out (hown.out.mono Hb0.out.size) (after Hb0.out hb.out)
attribute [local go_sem↓] Go.wp_at_zero Go.wp_at_succ
def iF(n:Nat):Nat→List ByteArray→List Value
 |_,[]=>[]
 |i,s::r=>.string s:: .int .i64 n:: .int .i64 i::iF n (i+1) r
theorem BO(n:Nat)(s:ByteArray):∀(ws:List ByteArray)(i:Nat),iF n i (ws++[s])=iF n i ws++[.string s,.int .i64 n,.int .i64 ((i+ws.length:Nat):Int)]:=by
 intro ws
 induction ws with
 |nil=>intro i;rfl
 |cons x r ih=>
  intro i;rw[List.cons_append,iF,ih,iF,bW,show i+1+r.length=i+(r.length+1) by omega];rfl
theorem rm(n:Nat):∀(ws:List ByteArray)(i k:Nat)(s:ByteArray),ws[k]? =some s→(iF n i ws)[k*3]? =some (.string s)∧(iF n i ws)[k*3+1]? =some (.int .i64 n)∧(iF n i ws)[k*3+2]? =some (.int .i64 ((i+k:Nat):Int)):=by
 intro ws
 induction ws with
 |nil=>intro i k s h;cases h
 |cons x r ih=>
  intro i k s h;cases k with
  |zero=>
   injection h with h
   subst h;exact⟨rfl,rfl,rfl⟩
  |succ k=>
   obtain⟨h1,h2,h3⟩:=ih (i+1) k s h;rw[show(k+1)*3=k*3+1+1+1 by omega,iF];simp only[List.getElem?_cons_succ];rw[show i+(k+1)=i+1+k by omega];exact⟨h1,h2,h3⟩
theorem cz(w:World)(xs:List Value)(t:TypeId):∀j u,xs[j]? =some u→(w.alloc (.cells xs.toArray t)).cell? ((⟨w.heap.size,0,none⟩:Addr).add j)=some u:=by
 intro j u h;have:=(aD.new w t xs.toArray).cell j;rw[sc,h]at this;rw[←this];congr 1;simp[Addr.add];exact fun h=>h.symm
theorem KG:(ag.info? 247).map (fun i=>(i.zero,i.size,i.bytes))=some (some (.agg #[.string ⟨#[]⟩,.int .i64 0,.int .i64 0]),3,32):=by kernel_rfl
theorem BQ(x:Nat)(hx:x≤1114111)(w:World):Calls ag 220 #[.int .i32 x] w (Got (.bool (jL x)) w):=by
 have hb0:=aG w.heap.size w;unfold jL;by_cases h1:x=32
 ·subst h1;go_enter Tryz.func220,Tryz.ntmps220;go_wp2_with fail
  go_ret;exact⟨rfl,hb0⟩
 ·have q1:((x:Int)==32)=false:=by simp;omega
  rw[decide_eq_false h1,Bool.false_or];by_cases h2:x=9
  ·subst h2;clear h1;go_enter Tryz.func220,Tryz.ntmps220;go_wp2_with fail
   go_ret;exact⟨rfl,hb0⟩
  ·have q2:((x:Int)==9)=false:=by simp;omega
   rw[decide_eq_false h2];clear h1 h2;go_enter Tryz.func220,Tryz.ntmps220;go_wp2_with fail
   go_ret;exact⟨rfl,hb0⟩
def Split(n:Nat)(ws:List ByteArray)(w:World)(r:Ending)(w':World):Prop:=∃v,r=.returned v∧w'.ownsRow w.heap.size 247 3 v ws.length (iF n 0 ws)∧Below w.heap.size w w'
theorem uD(F:List ByteArray)(k:Nat)(hk:k<F.length)(p:ByteArray→Bool)(h:(F.take k).all p=true):F.takeWhile p=if p F[k]=true then F.take (k+1)++(F.drop (k+1)).takeWhile p else F.take k:=by
 have e:F=F.take k++F[k]::F.drop (k+1):=by rw[←bz hk];exact(List.take_append_drop k F).symm
 conv=>lhs;rw[e]
 rw[List.takeWhile_append_of_pos (fun x hx=>List.all_eq_true.1 h x hx),List.takeWhile_cons,aC hk];split
 ·rw[aO];rfl
 ·rw[List.append_nil]
theorem BS:∀(l cur:List UInt8),∀x∈fieldsGo cur l,x≠[]:=by
 intro l
 induction l with
 |nil=>
  intro cur x hx;rw[fieldsGo]at hx;split at hx
  ·cases hx
  ·next h=>rw[List.mem_singleton.1 hx];exact h
 |cons c r ih=>
  intro cur x hx;rw[fieldsGo]at hx;split at hx
  ·split at hx
   ·exact ih [] x hx
   ·next h=>
    rcases List.mem_cons.1 hx with rfl|hx
    ·exact h
    ·exact ih [] x hx
  ·exact ih _ x hx
theorem pX:∀(l cur:List UInt8),(fieldsGo cur l).length≤l.length+1∧∀x∈fieldsGo cur l,x.length≤cur.length+l.length:=by
 intro l
 induction l with
 |nil=>
  intro cur;rw[fieldsGo];split
  ·exact⟨by simp,fun x hx=>(by cases hx)⟩
  ·exact⟨by simp,fun x hx=>by rw[List.mem_singleton.1 hx];simp⟩
 |cons c r ih=>
  intro cur;rw[fieldsGo];split
  ·obtain⟨h1,h2⟩:=ih [];split
   ·exact⟨by simp;omega,fun x hx=>by have:=h2 x hx;simp at this⊢;omega⟩
   ·refine⟨by simp;omega,fun x hx=>?_⟩;rcases List.mem_cons.1 hx with rfl|hx
    ·simp
    ·have:=h2 x hx;simp at this⊢;omega
  ·obtain⟨h1,h2⟩:=ih (cur++[c]);exact⟨by simp;omega,fun x hx=>by have:=h2 x hx;simp at this⊢;omega⟩
theorem KH(s:ByteArray)(hs:s.size≤2000000)(n:Nat)(hn:n≤4000000)(w:World):Calls ag 174 #[.string s,.int .i64 n] w (Split n (mZ s.data.toList) w):=by
 obtain⟨i0,hi,hz0,hz1,hz2⟩:=info_parts KG;have hff:=Tryz.strings_FieldsFunc_grows 220 #[] (fun args w=>rfl) jL s w aM (fun W x hx _=>BQ x hx W);rw[EY]at hff;have hpl:=pX s.data.toList [];have hne:=BS s.data.toList [];have hlen:s.data.toList.length=s.size:=by rw[ja];rfl
 have hwd:mZ s.data.toList=((fieldsB s.data.toList).map gW).takeWhile (fun b=>fM b.data.toList):=by
  unfold mZ;rw[List.takeWhile_map];rfl
 rw[hwd];have hF:∀b∈(fieldsB s.data.toList).map gW,0<b.size∧b.size≤2000000:=by
  intro b hb;obtain⟨x,hx,rfl⟩:=List.mem_map.1 hb;have h1:=hne x hx;have h2:=hpl.2 x hx;have:(gW x).size=x.length:=by unfold gW;simp[ByteArray.size]
  rw[this];cases x with
  |nil=>exact absurd rfl h1
  |cons c r=>simp at h2⊢;omega
 have KI:((fieldsB s.data.toList).map gW).length≤2000001:=by
  rw[ax];have:=hpl.1;unfold fieldsB;omega
 generalize(fieldsB s.data.toList).map gW=F at hff hF KI⊢;clear hpl hne hlen hwd;obtain⟨N,hN⟩:∃n,n=F.length:=⟨_,rfl⟩;rw[←hN]at hff KI;obtain⟨HFF,HF,HN⟩:=bj hff hF hN;obtain⟨WS,hWS⟩:∃x,x=F.takeWhile (fun b=>fM b.data.toList):=⟨_,rfl⟩;rw[←hWS];have HWS:=ae hWS;clear hff hF hN hWS hs;go_enter Tryz.func174,Tryz.ntmps174;go_wp2_with(go_at_call 219;(with_reducible refine HFF.out.mono ?_);rintro r w1⟨g,rfl,hg,hown,hb1⟩)
 have hrow:∀k(hk:k<F.length),w1.cell? ⟨g,k,none⟩=some (.string F[k]):=by
  intro k hk;rw[hown.cellAt k (by have:=HN.out;omega),bA,ah hk];rfl
 have hgl:=hown.lt g rfl;obtain⟨wS,Hb1⟩:=aI hrow hb1;clear hrow hown hb1;go_loopw [4,10] (fun v4 v10 wr=>∃(k:Nat)(A:Option Addr)(cap:Nat),k≤N∧v10=.int .i64 k∧v4=.slice A k cap∧af (wr.ownsRow w1.heap.size 247 3 (.slice A k cap) k (iF n 0 (F.take k)))∧af (Below w1.heap.size w1 wr)∧af ((F.take k).all (fun b=>fM b.data.toList)=true)) (fun _ v10 _=>N-(intOf v10).toNat)
 case atStart=>exact⟨0,none,0,bD _,rfl,rfl,ae (a8 _ _ _ _),ae (aG _ _),ae rfl⟩
 case round=>
  obtain⟨k,A,cap,hk,rfl,rfl,hown,hb,hall⟩:=hrel;by_cases hlt:k<N
  ·have Fa:k<F.length:=by have:=HN.out;omega
   have cx:=(hb.out.cell (p:=⟨g,k,none⟩) hgl.2).trans (wS.out k Fa);have hT:=HF.out _ (bB Fa);have hstep:=uD F k Fa _ hall.out;have htk:=aC Fa;have hlk:(F.take k).length=k:=List.length_take_of_le aM;have hw3:=BO n F[k] (F.take k) 0;rw[hlk,afx]at hw3;generalize F[k]=TT at cx hT hstep htk hw3;have h0:0<TT.size:=hT.1;have hpw:fM TT.data.toList=decide ((TT[0]'h0).toNat≠35):=by
    have hl:TT.data.toList.length=TT.size:=by rw[ja];rfl
    have e0:TT.data.toList[0]? =some (TT[0]'h0):=by
     rw[ah aM];simp;rfl
    cases hs:TT.data.toList with
    |nil=>rw[hs]at hl;simp at hl;omega
    |cons c r=>
     rw[hs]at e0;injection e0 with e0
     rw[←e0];unfold fM;have:(c=35)↔c.toNat=35:=⟨fun h=>by rw[h];rfl,fun h=>UInt8.toNat_inj.1 h⟩;simp[this]
   generalize hx:(TT[0]'h0).toNat=x0 at hpw;by_cases h35:x0=35
   ·have hres:WS=F.take k:=by rw[HWS.out,hstep,hpw,if_neg (by simp[h35])]
    have fi:=ae hres;rw[h35]at hx;clear hres hstep htk hw3 hpw hT;have Yo:=ae hlk;clear hlk;go_wp2_with fail
    go_ret;refine⟨_,rfl,?_,after Hb1.out hb.out⟩;rw[fi.out,Yo.out];exact hown.out.mono Hb1.out.size
   ·have q1:((x0:Int)==35)=false:=by simp;omega
    have Yp:(F.take (k+1)).all (fun b=>fM b.data.toList)=true:=by
     rw[htk,List.all_append,hall.out];simp[hpw,h35]
    obtain⟨abr,Htk,Hw3⟩:=bj Yp htk hw3;clear Yp hstep htk hw3 hpw hT h35 hlk;go_wp2_with(at_builtin;refine wpList_append_own _ rfl _ _ 232 rfl w1.heap.size 247 i0 (.agg #[.string ⟨#[]⟩,.int .i64 0,.int .i64 0]) 3 32 Tryz.underlying232 hi hz0 hz1 hz2 rfl aF _ k _ rfl (hown.out.alloc _) ⟨wr.heap.size,0,none⟩ 1 1 [.string TT,.int .i64 n,.int .i64 k] rfl rfl (cz _ _ _) (by intro u hu;simp at hu;rcases hu with rfl|rfl|rfl<;>rfl) (by unfold maxLen;omega) aM (by have:=hb.out.size;simp;omega) ?_;intro v' w3 hown' hgrow3 hnil3;have OT:=ae hown';have hbW:=ae ((hb.out.alloc (hb.out.size) _).grown hgrow3 (by have:=hb.out.size;simp;omega) (fun q hq=>(hown.out.lt q hq).1));clear hown' hgrow3 hnil3)
    obtain⟨A',cap',rfl⟩:=aQ OT.out;go_roundw
    case rel=>exact⟨k+1,A',cap',by omega,by go_num,rfl,ae (by rw[Htk.out,Hw3.out];exact OT.out),hbW,abr⟩
    case measure=>simp[intOf];omega
  ·obtain rfl:k=N:=by omega
   have hres:WS=F:=by
    have h2:=hall.out;rw[aT (by have:=HN.out;omega)]at h2;rw[HWS.out];exact wP _ _ fun x hx=>List.all_eq_true.1 h2 x hx
   have fi:=ae hres;clear hres;go_wp2_with fail
   go_ret;refine⟨_,rfl,?_,after Hb1.out hb.out⟩;have:=hown.out.mono Hb1.out.size;rw[aT (by have:=HN.out;omega)]at this;rw[fi.out,←HN.out];exact this
def yU(w:World)(lv:Value)(ws:List ByteArray)(n:Nat):Prop:=∃base,w.ownsRow base 247 3 lv ws.length (iF n 0 ws)
theorem yU.shape{w:World}{lv:Value}{ws:List ByteArray}{n:Nat}(h:yU w lv ws n)(hne:ws≠[]):∃g cap,lv=.slice (some ⟨g,0,none⟩) ws.length cap∧ws.length≤cap∧(∃cur,aD w g 247 cur)∧∀j,j<ws.length*3→w.cell? ⟨g,j,none⟩=(iF n 0 ws)[j]? :=by
 obtain⟨base,h⟩:=h;rcases h.2 with⟨_,e⟩|⟨g,cap,cur,e,hb,hg,hc,_⟩
 ·exact absurd (bF e) hne
 ·subst e;exact⟨g,cap,rfl,hc,⟨cur,hg⟩,fun j hj=>h.cellAt j hj⟩
theorem jd{w w':World}{base size n:Nat}{e:TypeId}{v:Value}{xs:List Value}{S:Nat→Prop}(h:w.ownsRow base e size v n xs)(hk:Keeps S w w')(hS:∀g,v.ownBlock=some g→¬S g):w'.ownsRow base e size v n xs:=by
 refine⟨h.1,?_⟩;rcases h.2 with h2|⟨g,cap,cur,e1,hb,hg,rest⟩
 ·exact .inl h2
 ·subst e1;exact .inr ⟨g,cap,cur,rfl,hb,(hk.block g (Array.getElem?_eq_some_iff.1 hg).1 (hS g rfl)).trans hg,rest⟩
theorem yU.keep{w w':World}{lv:Value}{ws:List ByteArray}{n:Nat}{S:Nat→Prop}(h:yU w lv ws n)(hk:Keeps S w w')(hS:∀g,lv.ownBlock=some g→¬S g):yU w' lv ws n:=by
 obtain⟨base,h⟩:=h;exact⟨base,jd h hk hS⟩
def RdB(w:World)(b:Nat)(lv:Value)(k P:Nat)(uv:Value):Prop:=aD w b 235 #[lv,.int .i64 k,.pointer (some ⟨P,0,none⟩),uv]
abbrev aL(e n i:Nat):Ending:=.panicked [{v:=.iface 228 (.agg #[.int .i64 e,.int .i64 n,.int .i64 i]),recovered:=false}]
theorem xR{w:World}{b P k n:Nat}{lv uv:Value}{ws:List ByteArray}(h:RdB w b lv k P uv)(hr:yU w lv ws n)(hne:ws≠[])(hws:ws.length≤4000000)(hk1:1≤k)(hk:k≤4000001)(e:Nat):Calls ag 226 #[.pointer (some ⟨b,0,none⟩),.int .i64 e] w fun r w'=>r=aL e n (if k≤ws.length then k-1 else ws.length)∧Below w.heap.size w w':=by
 obtain⟨g,cap,rfl,hcap,hg,hc⟩:=hr.shape hne;obtain⟨s0,hs0⟩:∃s0,ws[0]? =some s0:=by
  cases ws with
  |nil=>exact absurd rfl hne
  |cons x r=>exact⟨x,rfl⟩
 have hl:0<ws.length:=by
  cases ws with
  |nil=>exact absurd rfl hne
  |cons x r=>simp
 obtain⟨_,w1,_⟩:=rm n ws 0 0 s0 hs0;have c1:=(hc 1 aM).trans w1;have r0:=h.cell 0;have r1:=h.cell 1;simp at r0 r1;generalize ws.length=N at r0 hl hws hcap h⊢;have i1:(0:Int)<(N:Int):=by omega
 have hbx:=boxed w.drew (.cells #[.int .i64 e,.int .i64 n,.int .i64 N] 181);obtain⟨I,hI⟩:∃I,I=if k≤N then k-1 else N:=⟨_,rfl⟩
 rw[←hI];have HI:=ae hI;clear hc hs0 w1 hr hI;go_enter Tryz.func226,Tryz.ntmps226;go_upto_region 0 with fail
 go_region_held3 (fun w'=>w'.cell? ⟨b,0,none⟩=some (.slice (some ⟨g,0,none⟩) N cap)∧w'.cell? ⟨b,1,none⟩=some (.int .i64 k)∧w'.cell? ⟨g,1,none⟩=some (.int .i64 n)) (go_keep) (fail);have hF:=(aD.new w 181 #[.int .i64 e,.int .i64 n,.int .i64 N]).drew;have hb1:=(boxed w (.cells #[.int .i64 e,.int .i64 n,.int .i64 N] 181)).drew;have hR:=(h.alloc (.cells #[.int .i64 e,.int .i64 n,.int .i64 N] 181)).drew;clear r0 r1 c1 hbx h;generalize(w.alloc (.cells #[.int .i64 e,.int .i64 n,.int .i64 N] 181)).drew=W1 at hF hb1 hR⊢;generalize hgF:w.heap.size=gF at hF⊢;have r0:=hR.cell 0;have r1:=hR.cell 1;have f0:=hF.cell 0;have f1:=hF.cell 1;have f2:=hF.cell 2;have z2:=hF.frozen 2;simp at r0 r1 f0 f1 f2;by_cases hkN:k≤N
 ·have q1:(k:Int)≤(N:Int):=by omega
  have hI:=HI.out;rw[if_pos hkN]at hI;have Hi:=ae hI;clear hI HI;have i2:IntKind.i64.wrap ((k:Int)-1)=(k:Int)-1:=by rw[afm];omega
  go_upto_region 1 with fail
  go_quiet (fail);go_wp2_with fail
  all_goals
   rw[Hi.out];refine⟨rfl,?_,(show Below w.heap.size w (W1.drewN nq)from⟨hb1.os,hb1.tape,hb1.output,hb1.size,hb1.block⟩).setCell (Nat.le_of_eq hgF) _⟩;unfold aL;rw[show((k-1:Nat):Int)=(k:Int)-1 by omega]
 ·have q1:¬(k:Int)≤(N:Int):=by omega
  have hI:=HI.out;rw[if_neg hkN]at hI;have Hi:=ae hI;clear hI HI;go_upto_region 1 with fail
  go_quiet (fail);go_wp2_with fail
  all_goals
   rw[Hi.out];refine⟨rfl,rfl,?_⟩;have hB:Below w.heap.size w (W1.drewN nq):=⟨hb1.os,hb1.tape,hb1.output,hb1.size,hb1.block⟩;first|exact hB|exact hgF▸hB
theorem iG{S:Nat→Prop}{a w w':World}(h:Keeps S a w)(k:Below w.heap.size w w'):Keeps S a w':=h.trans (Keeps.of_below k fun q hq _=>hq)
theorem yV{w:World}{b:Nat}(p:Nat)(v:Value):Keeps (fun x=>x=b) w (w.setCell ⟨b,p,none⟩ v):=by
 refine Keeps.setCell (Keeps.refl (fun x=>x=b) w) (p:=⟨b,p,none⟩) ?_ v;exact Or.inl rfl
def gZ(ws:List ByteArray)(k n:Nat)(r:Ending):Prop:=match ws[k]? with
 |some s=>r=.returned (.string s)
 |none=>r=aL 190 n ws.length
theorem gZ.some{ws:List ByteArray}{k n:Nat}{s:ByteArray}(h:ws[k]? =some s):gZ ws k n (.returned (.string s)):=by unfold gZ;rw[h]
theorem gZ.none{ws:List ByteArray}{k n N:Nat}(h:ws[k]? =none)(hN:ws.length=N):gZ ws k n (aL 190 n N):=by unfold gZ;rw[h,hN]
theorem take_any{w:World}{b P k n:Nat}{lv uv:Value}{ws:List ByteArray}(h:RdB w b lv k P uv)(hr:yU w lv ws n)(hne:ws≠[])(hws:ws.length≤4000000)(hk:k≤ws.length):Calls ag 176 #[.pointer (some ⟨b,0,none⟩)] w fun r w'=>Keeps (fun x=>x=b) w w'∧RdB w' b lv (k+1) P uv∧gZ ws k n r:=by
 obtain⟨g,cap,rfl,hcap,hg,hc⟩:=hr.shape hne;have hw:=fun(w':World)(h':RdB w' b (.slice (some ⟨g,0,none⟩) ws.length cap) (k+1) P uv)(hr':yU w' (.slice (some ⟨g,0,none⟩) ws.length cap) ws n)=>xR h' hr' hne hws aM aM 190
 have i1:IntKind.i64.wrap ((k:Int)+1)=(k:Int)+1:=by rw[afm];omega
 have r0:=h.cell 0;have r1:=h.cell 1;have z1:=h.frozen 1;simp at r0 r1;obtain⟨cur,hgB⟩:=hg;have hgb:g≠b:=hgB.wH h aF;have hK:= @yV w b 1 (.int .i64 ((k:Int)+1));have hS:=h.aN 1 (.int .i64 ((k:Int)+1));have hr2:=hr.keep hK (fun q hq=>by injection hq with hq;rw[←hq];exact hgb);have hS2:RdB (w.setCell ⟨b,1,none⟩ (.int .i64 ((k:Int)+1))) b (.slice (some ⟨g,0,none⟩) ws.length cap) (k+1) P uv:=hS;have hw2:k=ws.length→∀q,Calls ag 226 #[.pointer (some ⟨b,0,none⟩),.int .i64 190] ((w.setCell ⟨b,1,none⟩ (.int .i64 ((k:Int)+1))).drewN q) fun r w'=>r=aL 190 n ws.length∧Below ((w.setCell ⟨b,1,none⟩ (.int .i64 ((k:Int)+1))).drewN q).heap.size ((w.setCell ⟨b,1,none⟩ (.int .i64 ((k:Int)+1))).drewN q) w':=fun hkk q=>
  (hw ((w.setCell ⟨b,1,none⟩ (.int .i64 ((k:Int)+1))).drewN q) hS2 hr2).mono (by rintro r w'⟨h1,h2⟩;rw[if_neg aM]at h1;exact⟨h1,h2⟩)
 clear hw;obtain⟨HS2,HK⟩:=aI hS2 hK;have Hgw:=ae (fun j hj=>(((hgB.far (p:=⟨b,1,none⟩) hgb (.int .i64 ((k:Int)+1))).cell j).trans (hgB.cell j).symm).trans (hc j hj));by_cases hkN:k<ws.length
 ·obtain⟨s,hs⟩:∃s,ws[k]? =some s:=⟨_,ah hkN⟩;have c0:=(Hgw.out (k*3) aM).trans (rm n ws 0 k s hs).1;have Hs:=ae hs;have s0:=hS.cell 0;have s1:=hS.cell 1;simp at s0 s1;clear hw2;generalize hN:ws.length=N at*;have q1:¬(N:Int)<(k:Int)+1:=by omega
  have q2:IntKind.i64.wrap ((k:Int)+1-1)=(k:Int):=by rw[afm];omega
  clear hr2 hS hS2 hK hc hs h hr hgB;go_enter Tryz.func176,Tryz.ntmps176;go_upto_region 2 with fail
  generalize w.setCell ⟨b,1,none⟩ (.int .i64 ((k:Int)+1))=w1 at*;go_quiet (fail);go_upto_region 4 with fail
  go_quiet (fail);go_wp2_with fail
  refine bodyPost_ret (results_tmp rfl _ _ _) rfl ?_;exact⟨⟨HK.out.os,HK.out.tape,HK.out.output,HK.out.size,HK.out.block⟩,HS2.out,gZ.some Hs.out⟩
 ·have abt:k=ws.length:=by omega
  have hs:ws[k]? =none:=List.getElem?_eq_none aM;have Hs:=ae hs;have s0:=hS.cell 0;have s1:=hS.cell 1;simp at s0 s1;have HW:=ae (hw2 abt);clear hw2;generalize hN:ws.length=N at*;have q1:(N:Int)<(k:Int)+1:=by omega
  clear abt hkN hk hr2 hS hS2 hK hc hs h hr hgB;go_enter Tryz.func176,Tryz.ntmps176;go_upto_region 2 with fail
  generalize w.setCell ⟨b,1,none⟩ (.int .i64 ((k:Int)+1))=w1 at*;go_quiet (fail);go_wp2_with(go_at_call 226;(with_reducible refine(HW.out _).mono ?_);rintro r w2⟨rfl,d2⟩;unfold aL)
  refine⟨rfl,?_,?_,gZ.none Hs.out hN⟩
  ·exact iG (HK.out.drewN nq) d2
  ·refine aD.below ?_ d2 ?_
   ·exact HS2.out
   ·exact HS2.out.lt
structure Rs(w:World)(b P k n:Nat)(lv uv:Value)(ws:List ByteArray):Prop where
 blk:RdB w b lv k P uv
 row:yU w lv ws n
 ne:ws≠[]
 len:ws.length≤2000000
 sizes:∀s∈ws,s.size≤2000000
theorem Rs.sep{w:World}{b P k n:Nat}{lv uv:Value}{ws:List ByteArray}(h:Rs w b P k n lv uv ws):∀g,lv.ownBlock=some g→g≠b:=by
 obtain⟨g,cap,e,_,⟨cur,hg⟩,_⟩:=h.row.shape h.ne;intro q hq;rw[e]at hq;injection hq with hq
 rw[←hq];exact hg.wH h.blk (by decide)
theorem Rs.step{w w':World}{b P k k' n:Nat}{lv uv uv':Value}{ws:List ByteArray}(h:Rs w b P k n lv uv ws)(hk:Keeps (fun x=>x=b) w w')(hb:RdB w' b lv k' P uv'):Rs w' b P k' n lv uv' ws:=⟨hb,h.row.keep hk fun g hg e=>h.sep g hg e,h.ne,h.len,h.sizes⟩
theorem Rs.below{w w':World}{b P k n:Nat}{lv uv:Value}{ws:List ByteArray}(h:Rs w b P k n lv uv ws)(hb:Below w.heap.size w w'):Rs w' b P k n lv uv ws:=h.step (Keeps.of_below hb fun q hq _=>hq) (h.blk.below hb h.blk.lt)
def Es(k:Nat)(ws:List ByteArray):Nat:=if k≤ws.length then k-1 else ws.length
def eI(is:Bool)(e n i:Nat)(r:Ending):Prop:=match is with
 |true=>r=.returned (.tuple #[])
 |false=>r=aL e n i
theorem Rs.wrong{w:World}{b P k n:Nat}{lv uv:Value}{ws:List ByteArray}(h:Rs w b P k n lv uv ws)(hk1:1≤k)(hk:k≤ws.length+1)(e:Nat):Calls ag 226 #[.pointer (some ⟨b,0,none⟩),.int .i64 e] w fun r w'=>r=aL e n (Es k ws)∧Below w.heap.size w w':=xR h.blk h.row h.ne (by have:=h.len;omega) hk1 (by have:=h.len;omega) e
theorem Rs.unless{w:World}{b P k n:Nat}{lv uv:Value}{ws:List ByteArray}(h:Rs w b P k n lv uv ws)(hk1:1≤k)(hk:k≤ws.length+1)(is:Bool)(e:Nat):Calls ag 177 #[.pointer (some ⟨b,0,none⟩),.bool is,.int .i64 e] w fun r w'=>eI is e n (Es k ws) r∧Below w.heap.size w w':=by
 have HW:=ae (h.wrong hk1 hk e);have hb0:=aG w.heap.size w;clear h hk1 hk;cases is with
 |true=>
  go_enter Tryz.func177,Tryz.ntmps177;go_wp2_with fail
  refine⟨rfl,_,results_none rfl _ _ _,rfl,hb0⟩
 |false=>
  go_enter Tryz.func177,Tryz.ntmps177;go_wp2_with(go_at_call 226;(with_reducible refine HW.out.mono ?_);rintro r w2⟨rfl,d2⟩;unfold aL)
  exact⟨rfl,rfl,d2⟩
theorem Rs.room{w:World}{b P k n:Nat}{lv uv:Value}{ws:List ByteArray}(h:Rs w b P k n lv uv ws)(hk1:1≤k)(hk:k≤ws.length+1)(m:Nat):Calls ag 260 #[.pointer (some ⟨b,0,none⟩),.int .i64 m] w fun r w'=>eI (decide (m<64)) 198 n (Es k ws) r∧Below w.heap.size w w':=by
 have hu:=h.unless hk1 hk (decide (m<64)) 198;clear h hk1 hk;by_cases hm:m<64
 ·have q:(m:Int)<64:=by omega
  rw[decide_eq_true hm]at hu⊢;have HU:af (Calls ag 177 #[.pointer (some ⟨b,0,none⟩),.bool true,.int .i64 198] w fun r w'=>eI true 198 n (Es k ws) r∧Below w.heap.size w w'):=ae hu;clear hu hm;go_enter Tryz.func260,Tryz.ntmps260;go_wp2_with(go_at_call 177;(with_reducible refine HU.out.mono ?_);rintro r w2⟨h1,d2⟩;unfold eI at h1;subst h1)
  refine⟨rfl,_,results_none rfl _ _ _,rfl,d2⟩
 ·have q:¬(m:Int)<64:=by omega
  rw[decide_eq_false hm]at hu⊢;have HU:af (Calls ag 177 #[.pointer (some ⟨b,0,none⟩),.bool false,.int .i64 198] w fun r w'=>eI false 198 n (Es k ws) r∧Below w.heap.size w w'):=ae hu;clear hu hm;go_enter Tryz.func260,Tryz.ntmps260;go_wp2_with(go_at_call 177;(with_reducible refine HU.out.mono ?_);rintro r w2⟨h1,d2⟩;unfold eI at h1;subst h1;unfold aL)
  exact⟨rfl,rfl,d2⟩
theorem Rs.more{w:World}{b P k n:Nat}{lv uv:Value}{ws:List ByteArray}(h:Rs w b P k n lv uv ws):Calls ag 263 #[.pointer (some ⟨b,0,none⟩)] w (Got (.bool (decide (k<ws.length))) w):=by
 obtain⟨g,cap,e,hcap,_,_⟩:=h.row.shape h.ne;have hB:=h.blk;rw[e]at hB;have r0:=hB.cell 0;have r1:=hB.cell 1;simp at r0 r1;have hl:=h.len;have hb0:=aG w.heap.size w;generalize ws.length=N at*;have qd:decide ((k:Int)<(N:Int))=decide (k<N):=by simp
 obtain⟨D,hD⟩:∃d,d=decide (k<N):=⟨_,rfl⟩;rw[←hD]at qd⊢;have HD:=ae hD;clear hB h e hD;go_enter Tryz.func263,Tryz.ntmps263;go_upto_region 1 with fail
 go_quiet (fail);go_wp2_with fail
 refine bodyPost_ret (results_tmp rfl _ _ _) rfl ⟨?_,⟨rfl,rfl,rfl,aw _,fun _ _=>rfl⟩⟩;rw[HD.out];rfl
def pY(ws:List ByteArray)(k n:Nat)(r:Ending):Prop:=match ws[k]? with
 |none=>r=aL 190 n ws.length
 |some s=>if b8 s=true then r=.returned (.string s)else r=aL 191 n k
def oP(ws:List ByteArray)(t:ByteArray)(k n:Nat)(r:Ending):Prop:=match ws[k]? with
 |none=>r=aL 190 n ws.length
 |some s=>if s=t then r=.returned (.tuple #[])else r=aL 190 n k
theorem Rs.take{w:World}{b P k n:Nat}{lv uv:Value}{ws:List ByteArray}(h:Rs w b P k n lv uv ws)(hk:k≤ws.length):Calls ag 176 #[.pointer (some ⟨b,0,none⟩)] w fun r w'=>(Keeps (fun x=>x=b) w w'∧Rs w' b P (k+1) n lv uv ws)∧gZ ws k n r:=(take_any h.blk h.row h.ne (by have:=h.len;omega) hk).mono fun r w'⟨h1,h2,h3⟩=>⟨⟨h1,h.step h1 h2⟩,h3⟩
theorem dH{k:Nat}{ws:List ByteArray}(h:k<ws.length):Es (k+1) ws=k:=by unfold Es;rw[if_pos aM];omega
theorem Rs.name{w:World}{b P k n:Nat}{lv uv:Value}{ws:List ByteArray}(h:Rs w b P k n lv uv ws)(hk:k≤ws.length):Calls ag 261 #[.pointer (some ⟨b,0,none⟩)] w fun r w'=>(Keeps (fun x=>x=b) w w'∧Rs w' b P (k+1) n lv uv ws)∧pY ws k n r:=by
 have HT:=ae (h.take hk);unfold gZ at HT;cases hs:ws[k]? with
 |none=>
  have hpost:∀r,pY ws k n r↔r=aL 190 n ws.length:=fun r=>by unfold pY;rw[hs]
  simp only[hpost];rw[hs]at HT;have U9:af (Calls ag 176 #[.pointer (some ⟨b,0,none⟩)] w fun r w'=>(Keeps (fun x=>x=b) w w'∧Rs w' b P (k+1) n lv uv ws)∧r=aL 190 n ws.length):=HT;clear HT hs hpost h hk;go_enter Tryz.func261,Tryz.ntmps261;go_wp2_with(go_at_call 176;(with_reducible refine U9.out.mono ?_);rintro r w2⟨d2,rfl⟩;unfold aL)
  exact⟨rfl,d2,rfl⟩
 |some s=>
  have hlt:k<ws.length:=(List.getElem?_eq_some_iff.1 hs).1;have hsz:=h.sizes s (List.mem_of_getElem? hs);have hpost:∀r,pY ws k n r↔(if b8 s=true then r=.returned (.string s)else r=aL 191 n k):=fun r=>by unfold pY;rw[hs]
  simp only[hpost];rw[hs]at HT;have U9:af (Calls ag 176 #[.pointer (some ⟨b,0,none⟩)] w fun r w'=>(Keeps (fun x=>x=b) w w'∧Rs w' b P (k+1) n lv uv ws)∧r=.returned (.string s)):=HT;have HL:=ae fun u=>nT s aM u
  have hu:=fun(u:World)(hr:Rs u b P (k+1) n lv uv ws)=>hr.unless aM aM (b8 s) 191
  rw[dH hlt]at hu;generalize b8 s=LB at*;cases LB with
  |true=>
   simp only[if_true];have HU:af (∀(u:World),Rs u b P (k+1) n lv uv ws→Calls ag 177 #[.pointer (some ⟨b,0,none⟩),.bool true,.int .i64 191] u fun r w'=>r=.returned (.tuple #[])∧Below u.heap.size u w'):=ae hu;clear HT hs hpost h hk hu hlt hsz;go_enter Tryz.func261,Tryz.ntmps261;go_wp2_with(first
    |(go_at_call 176;(with_reducible refine U9.out.mono ?_);rintro r w2⟨⟨d2,e2⟩,rfl⟩)
    |(go_at_call 166;(with_reducible refine(HL.out _).mono ?_);rintro r w3⟨rfl,d3⟩)
    |(go_at_call 177;(with_reducible refine(HU.out _ (e2.below d3)).mono ?_);rintro r w4⟨rfl,d4⟩))
   refine bodyPost_ret (results_tmp rfl _ _ _) rfl ⟨⟨iG (iG d2 d3) d4,(e2.below d3).below d4⟩,rfl⟩
  |false=>
   simp only[Bool.false_eq_true,if_false];have HU:af (∀(u:World),Rs u b P (k+1) n lv uv ws→Calls ag 177 #[.pointer (some ⟨b,0,none⟩),.bool false,.int .i64 191] u fun r w'=>r=aL 191 n k∧Below u.heap.size u w'):=ae hu;clear HT hs hpost h hk hu hlt hsz;go_enter Tryz.func261,Tryz.ntmps261;go_wp2_with(first
    |(go_at_call 176;(with_reducible refine U9.out.mono ?_);rintro r w2⟨⟨d2,e2⟩,rfl⟩)
    |(go_at_call 166;(with_reducible refine(HL.out _).mono ?_);rintro r w3⟨rfl,d3⟩)
    |(go_at_call 177;(with_reducible refine(HU.out _ (e2.below d3)).mono ?_);rintro r w4⟨rfl,d4⟩;unfold aL))
   exact⟨rfl,⟨iG (iG d2 d3) d4,(e2.below d3).below d4⟩,rfl⟩
theorem Rs.must{w:World}{b P k n:Nat}{lv uv:Value}{ws:List ByteArray}(h:Rs w b P k n lv uv ws)(hk:k≤ws.length)(t:ByteArray):Calls ag 262 #[.pointer (some ⟨b,0,none⟩),.string t] w fun r w'=>(Keeps (fun x=>x=b) w w'∧Rs w' b P (k+1) n lv uv ws)∧oP ws t k n r:=by
 have HT:=ae (h.take hk);unfold gZ at HT;cases hs:ws[k]? with
 |none=>
  have hpost:∀r,oP ws t k n r↔r=aL 190 n ws.length:=fun r=>by unfold oP;rw[hs]
  simp only[hpost];rw[hs]at HT;have U9:af (Calls ag 176 #[.pointer (some ⟨b,0,none⟩)] w fun r w'=>(Keeps (fun x=>x=b) w w'∧Rs w' b P (k+1) n lv uv ws)∧r=aL 190 n ws.length):=HT;clear HT hs hpost h hk;go_enter Tryz.func262,Tryz.ntmps262;go_wp2_with(go_at_call 176;(with_reducible refine U9.out.mono ?_);rintro r w2⟨d2,rfl⟩;unfold aL)
  exact⟨rfl,d2,rfl⟩
 |some s=>
  have hlt:k<ws.length:=(List.getElem?_eq_some_iff.1 hs).1;have hpost:∀r,oP ws t k n r↔(if s=t then r=.returned (.tuple #[])else r=aL 190 n k):=fun r=>by unfold oP;rw[hs]
  simp only[hpost];rw[hs]at HT;have U9:af (Calls ag 176 #[.pointer (some ⟨b,0,none⟩)] w fun r w'=>(Keeps (fun x=>x=b) w w'∧Rs w' b P (k+1) n lv uv ws)∧r=.returned (.string s)):=HT;have hu:=fun(u:World)(hr:Rs u b P (k+1) n lv uv ws)=>hr.wrong aM aM 190
  rw[dH hlt]at hu;by_cases e:s=t
  ·subst e;simp only[if_true];have hss:(s.toList==s.toList)=true:=by simp
   clear HT hs hpost h hk hu hlt;go_enter Tryz.func262,Tryz.ntmps262;go_wp2_with(go_at_call 176;(with_reducible refine U9.out.mono ?_);rintro r w2⟨⟨d2,e2⟩,rfl⟩)
   refine⟨rfl,_,results_none rfl _ _ _,⟨d2,e2⟩,rfl⟩
  ·simp only[if_neg e];have hss:(s.toList==t.toList)=false:=by
    rw[beq_eq_false_iff_ne];intro h;rw[bO,bO]at h;exact e (afl (Array.ext' h))
   have HU:af (∀(u:World),Rs u b P (k+1) n lv uv ws→Calls ag 226 #[.pointer (some ⟨b,0,none⟩),.int .i64 190] u fun r w'=>r=aL 190 n k∧Below u.heap.size u w'):=ae hu;clear HT hs hpost h hk hu hlt e;go_enter Tryz.func262,Tryz.ntmps262;go_wp2_with(first
    |(go_at_call 176;(with_reducible refine U9.out.mono ?_);rintro r w2⟨⟨d2,e2⟩,rfl⟩)
    |(go_at_call 226;(with_reducible refine(HU.out _ e2).mono ?_);rintro r w4⟨rfl,d4⟩;unfold aL))
   exact⟨rfl,⟨iG d2 d4,e2.below d4⟩,rfl⟩
def aW(w:World)(v:Value)(n size:Nat)(xs:List Value):Prop:=∃A cap,v=.slice A n cap∧xs.length=n*size∧(0<n→∃g o,A=some ⟨g,o,none⟩∧∀j u,xs[j]? =some u→w.cell? ⟨g,o+j,none⟩=some u)
theorem aW.dn{w:World}{base size n:Nat}{e:TypeId}{v:Value}{xs:List Value}(h:w.ownsRow base e size v n xs):aW w v n size xs:=by
 rcases h.2 with⟨e1,e2⟩|⟨g,cap,cur,e1,hb,hg,rest⟩
 ·subst e1 e2;exact⟨none,0,rfl,h.1,fun h=>absurd h aF⟩
 ·subst e1;refine⟨_,cap,rfl,h.1,fun _=>⟨g,0,rfl,fun j u hu=>?_⟩⟩;have hj:j<n*size:=by rw[←h.1];exact(List.getElem?_eq_some_iff.1 hu).1
  rw[afx,h.cellAt j hj];exact hu
theorem aW.below{w w':World}{v:Value}{n size:Nat}{xs:List Value}(h:aW w v n size xs)(hb:Below w.heap.size w w'):aW w' v n size xs:=by
 obtain⟨A,cap,h1,h2,h3⟩:=h;refine⟨A,cap,h1,h2,fun hn=>?_⟩;obtain⟨g,o,ha,hc⟩:=h3 hn;exact⟨g,o,ha,fun j u hu=>(hb.cell (aj w _ (hc j u hu))).trans (hc j u hu)⟩
def fN(l:List (ByteArray×Value)):List Value:=l.flatMap fun x=>[cC x.1,x.2]
theorem Fb:∀(l:List (ByteArray×Value))(k:Nat)(x:ByteArray×Value),l[k]? =some x→(fN l)[k*2]? =some (.string x.1)∧(fN l)[k*2+1]? =some x.2:=by
 intro l
 induction l with
 |nil=>intro k x h;cases h
 |cons y r ih=>
  intro k x h;cases k with
  |zero=>injection h with h;subst h;exact⟨rfl,rfl⟩
  |succ k=>
   obtain⟨h1,h2⟩:=ih k x h;rw[show(k+1)*2=k*2+1+1 by omega];exact⟨h1,h2⟩
theorem OU{w:World}(g:Nat)(s x:ByteArray)(v:Value)(hg:w.cell? ⟨g,0,none⟩=some (.string s)):Calls ag 269 #[.agg #[.string x,v],.pointer (some ⟨g,0,none⟩)] w (Got (.bool (decide (x=s))) w):=by
 have hx:=aD.new w 332 #[.string x,v];have hb:=boxed w (.cells #[.string x,v] 332);have hg2:=(hb.cell (p:=⟨g,0,none⟩) (aj w _ hg)).trans hg;have x0:=hx.cell 0;simp at x0;have hd:(x.toList==s.toList)=decide (x=s):=by
  by_cases e:x=s
  ·subst e;simp
  ·rw[decide_eq_false e,beq_eq_false_iff_ne];intro h;rw[bO,bO]at h;exact e (afl (Array.ext' h))
 obtain⟨D,hD⟩:∃D,D=decide (x=s):=⟨_,rfl⟩;rw[←hD]at hd⊢;clear hD hx;go_enter Tryz.func269,Tryz.ntmps269;go_wp2_with fail
 go_ret;exact⟨rfl,hb⟩
def Yq(b:Bool)(w:World)(r:Ending)(w':World):Prop:=(∃i:Int,r=.returned (.int .i64 i)∧decide (0≤i)=b)∧Below w.heap.size w w'
theorem Fe{w:World}(l:List (ByteArray×Value))(hl:l.length≤4000000)(lv:Value)(hr:aW w lv l.length 2 (fN l))(g:Nat)(s:ByteArray)(hg:w.cell? ⟨g,0,none⟩=some (.string s)):Calls ag 297 #[lv,.func (.func 269) #[] #[.pointer (some ⟨g,0,none⟩)]] w (Yq (l.any fun x=>decide (x.1=s)) w):=by
 obtain⟨A,cap,rfl,hlen,hA⟩:=hr;obtain⟨N,hN⟩:∃n,n=l.length:=⟨_,rfl⟩;obtain⟨R,hR⟩:∃r,r=l.any fun x=>decide (x.1=s):=⟨_,rfl⟩
 rw[←hN]at hA hl⊢;rw[←hR];obtain⟨HA,HN,HR,Hg⟩:=cH hA hN hR hg;clear hA hN hlen hR hg;go_enter Tryz.func297,Tryz.ntmps297;go_wp2_with fail
 go_loopw [8] (fun v8 wr=>∃k:Nat,k≤N∧v8=.int .i64 k∧af (Below w.heap.size w wr)∧af (((l.take k).any fun x=>decide (x.1=s))=false)) (fun v8 _=>N-(intOf v8).toNat)
 case atStart=>exact⟨0,bD _,rfl,ae (aG _ _),ae rfl⟩
 case round=>
  obtain⟨k,hk,rfl,hb,hno⟩:=hrel;by_cases hlt:k<N
  ·have hkl:k<l.length:=by have:=HN.out;omega
   obtain⟨q,o,rfl,hc⟩:=HA.out aM;have htk:=aC hkl;have hx:l[k]? =some l[k]:=ah hkl;have hcell:=Fb l k _ hx;have c0:=hc _ _ hcell.1;have c1:=hc _ _ hcell.2;generalize l[k]=X at htk c0 c1;have d0:=(hb.out.cell (aj w _ c0)).trans c0;have d1:=(hb.out.cell (aj w _ c1)).trans c1;rw[←Nat.add_assoc]at d1;have hgw:=(hb.out.cell (aj w _ Hg.out)).trans Hg.out;have HF:=ae (OU (w:=wr) g s X.1 X.2 hgw);obtain⟨X1,X2⟩:=X;simp only at d0 d1 HF;clear c0 c1 hx hcell hgw hc;by_cases he:X1=s
   ·have hres:R=true:=by
     rw[HR.out];have:(l.take (k+1)).any (fun x=>decide (x.1=s))=true:=by rw[htk,List.any_append];simp[he]
     obtain⟨y,hy,hys⟩:=List.any_eq_true.1 this;exact List.any_eq_true.2 ⟨y,List.mem_of_mem_take hy,hys⟩
    have fi:=ae hres;rw[decide_eq_true he]at HF;clear hres htk he;go_wp2_with(go_at_call 269;(with_reducible refine HF.out.mono ?_);rintro r w2⟨rfl,e2⟩)
    go_ret;exact⟨⟨_,rfl,by rw[fi.out];exact decide_eq_true aM⟩,after hb.out e2⟩
   ·have yW:((l.take (k+1)).any fun x=>decide (x.1=s))=false:=by rw[htk,List.any_append,hno.out];simp[he]
    have Ff:=ae yW;rw[decide_eq_false he]at HF;clear yW htk he;go_wp2_with(go_at_call 269;(with_reducible refine HF.out.mono ?_);rintro r w2⟨rfl,e2⟩)
    go_roundw
    case rel=>exact⟨k+1,by omega,by go_num,(aU hb e2),Ff⟩
    case measure=>simp[intOf];omega
  ·obtain rfl:k=N:=by omega
   have hres:R=false:=by
    have:=hno.out;rw[aT (by have:=HN.out;omega)]at this;rw[HR.out];exact this
   have fi:=ae hres;clear hres;go_wp2_with fail
   go_ret;exact⟨⟨_,rfl,by rw[fi.out];rfl⟩,hb.out⟩
theorem wT{w:World}(l:List (ByteArray×Value))(hl:l.length≤4000000)(lv:Value)(hr:aW w lv l.length 2 (fN l))(g:Nat)(s:ByteArray)(hg:w.cell? ⟨g,0,none⟩=some (.string s)):Calls ag 268 #[lv,.func (.func 269) #[] #[.pointer (some ⟨g,0,none⟩)]] w (Got (.bool (l.any fun x=>decide (x.1=s))) w):=by
 have HI:=ae (Fe l hl lv hr g s hg);generalize(l.any fun x=>decide (x.1=s))=R at HI⊢;clear hg hr;go_enter Tryz.func268,Tryz.ntmps268;go_wp2_with(go_at_call 297;(with_reducible refine HI.out.mono ?_);rintro r w2⟨⟨i,rfl,hi⟩,e2⟩)
 refine bodyPost_ret (results_tmp rfl _ _ _) rfl ⟨?_,e2⟩;rw[←hi];rfl
theorem yX{w:World}(l:List (ByteArray×Value))(hl:l.length≤4000000)(lv:Value)(hr:aW w lv l.length 2 (fN l))(s:ByteArray):Calls ag 227 #[lv,.string s] w (Got (.bool (l.any fun x=>decide (x.1=s))) w):=by
 have hb0:=boxed w (.cells #[.string s] 9);have hg:(w.alloc (.cells #[.string s] 9)).cell? ⟨w.heap.size,0,none⟩=some (.string s):=(aD.new w 9 #[.string s]).cell 0;have HI:=ae (wT l hl lv (hr.below hb0) w.heap.size s hg);generalize(l.any fun x=>decide (x.1=s))=R at HI⊢;have hmf:∀(fn:Fn)(first cap:Array Value)(w:World),(Instr.makeFunc fn first cap).run ag w=.ok (.func fn first cap) w:=fun _ _ _ _=>rfl
 clear hg hr;go_enter Tryz.func227,Tryz.ntmps227;go_wp2_with(go_at_call 268;(with_reducible refine HI.out.mono ?_);rintro r w2⟨rfl,e2⟩)
 go_ret;exact⟨rfl,after hb0 e2⟩
end Go.Proofs.YteflnojjjdkgmaaGreatDoor
