/- Joined out of: PtB PlH PlI PlJ PlK PlL PlM. -/
import Derived.Test.YtkjaajcpbldjoaaGreatDoorKac
import Derived.Deep.AppendLies
set_option linter.unusedVariables false
set_option linter.unusedSimpArgs false
set_option maxHeartbeats 16000000
set_option maxRecDepth 100000
open ByteArray renaming empty→lJ,size→ahI,ext→ahR
open Go.ByteArray renaming toList_eq→cC
open Go.Lib renaming hid→ae,decDigits→cM
open Go.Proofs.Tryz renaming prog→ah,underlying9→bn,underlying67→cR,underlying27→abb
open Go.RowKit renaming Hid→ag
open Go.RowKit.Below renaming refl→aM
open Go.Value renaming string→bM,slice→dq
open Go.World renaming ownsRow_nil→bg
open List renaming getElem?_eq_getElem→af,length_append→ai,length_map→ay,drop_eq_getElem_cons→bR,getElem?_map→bS,length_singleton→dn,drop_eq_nil_of_le→og,getElem?_eq_none_iff→ah0
open Nat renaming le_refl→aA
namespace Go.Proofs.YtkjaajcpbldjoaaGreatDoor
open Go.RowKit
theorem Y5{w:World}{g:Nat}{v0 v1 v2 v3:Value}(h:aG w g 218 #[v0,v1,v2,v3]):(loadVar 218 ⟨g,0,none⟩).run ah w=.ok (.agg #[v0,v1,v2,v3]) w:=by
 have c0:=h.cell 0;have c1:=h.cell 1;have c2:=h.cell 2;have c3:=h.cell 3;simp at c0 c1 c2 c3;simp[loadVar,go_sem,c0,c1,c2,c3]
theorem four{W w:World}{g:Nat}{z0 z1 z2 z3 v0 v1 v2 v3:Value}(hB:aG w g 218 #[z0,z1,z2,z3])(hb:aW W w)(hg:W.heap.size≤g):aG ((((w.setCell ⟨g,0,none⟩ v0).setCell ⟨g,1,none⟩ v1).setCell ⟨g,2,none⟩ v2).setCell ⟨g,3,none⟩ v3) g 218 #[v0,v1,v2,v3]∧aW W ((((w.setCell ⟨g,0,none⟩ v0).setCell ⟨g,1,none⟩ v1).setCell ⟨g,2,none⟩ v2).setCell ⟨g,3,none⟩ v3):=by
 have s0:aG (w.setCell ⟨g,0,none⟩ v0) g 218 #[v0,z1,z2,z3]:=hB.aL 0 v0;have s1:aG ((w.setCell ⟨g,0,none⟩ v0).setCell ⟨g,1,none⟩ v1) g 218 #[v0,v1,z2,z3]:=s0.aL 1 v1;have s2:aG (((w.setCell ⟨g,0,none⟩ v0).setCell ⟨g,1,none⟩ v1).setCell ⟨g,2,none⟩ v2) g 218 #[v0,v1,v2,z3]:=s1.aL 2 v2;have s3:aG ((((w.setCell ⟨g,0,none⟩ v0).setCell ⟨g,1,none⟩ v1).setCell ⟨g,2,none⟩ v2).setCell ⟨g,3,none⟩ v3) g 218 #[v0,v1,v2,v3]:=s2.aL 3 v3;exact⟨s3,(((hb.setCell (p:=⟨g,0,none⟩) hg v0).setCell (p:=⟨g,1,none⟩) hg v1).setCell (p:=⟨g,2,none⟩) hg v2).setCell (p:=⟨g,3,none⟩) hg v3⟩
theorem ab9{fn:Func}{a:Act}{W w:World}{g x y:Nat}{v0 v1 v2 v3 u:Value}(hres:fn.results= #[.cell x 218,.tmp y])(hB:aG w g 218 #[v0,v1,v2,v3])(hb:aW W w)(h1:a.tmps.getD x undef=.pointer (some ⟨g,0,none⟩))(h2:a.tmps.getD y undef=u)(hd:a.defers=[]):bodyPost ah fn (Got (.tuple #[.agg #[v0,v1,v2,v3],u]) W) .ret a w:=bodyPost_ret (bD hres h1 h2 (Y5 hB)) hd ⟨rfl,hb⟩
theorem rQ{fn:Func}{a:Act}{W w:World}{g x y:Nat}{z0 z1 z2 z3 v0 v1 v2 v3 u:Value}(hres:fn.results= #[.cell x 218,.tmp y])(hB:aG w g 218 #[z0,z1,z2,z3])(hb:aW W w)(hg:W.heap.size≤g)(h1:a.tmps.getD x undef=.pointer (some ⟨g,0,none⟩))(h2:a.tmps.getD y undef=u)(hd:a.defers=[]):bodyPost ah fn (Got (.tuple #[.agg #[v0,v1,v2,v3],u]) W) .ret a ((((w.setCell ⟨g,0,none⟩ v0).setCell ⟨g,1,none⟩ v1).setCell ⟨g,2,none⟩ v2).setCell ⟨g,3,none⟩ v3):=ab9 hres (four hB hb hg).1 (four hB hb hg).2 h1 h2 hd
def aca(o:Option Pf):Value:=match o with
 |none=>.tuple #[.agg #[.bool false,.int .u64 0,.int .u64 0,.int .u8 0],.int .i64 8]
 |some p=>.tuple #[.agg p.cells,.int .i64 0]
theorem Jq(o:Option Ad)(ho:∀a,o=some a→a.Ok):∃(a:Ad)(e:Nat),a.Ok∧abm o=.tuple #[.agg #[.bool a.v6,.int .u64 (a.hi:Int),.int .u64 (a.lo:Int)],.int .i64 e]∧((e=0∧o=some a)∨(e=8∧o=none)):=by
 cases o with
 |none=>exact⟨⟨false,0,0⟩,8,⟨by decide,by decide⟩,rfl,Or.inr ⟨rfl,rfl⟩⟩
 |some a=>exact⟨a,0,ho a rfl,rfl,Or.inl ⟨rfl,rfl⟩⟩
theorem py{w:World}(env:Env w)(s:ByteArray)(hs:s.size≤2000000):Calls ah 217 #[.string s] w (Got (aca (iS s.data.toList)) w):=by
 obtain⟨RL,hRL⟩:=bq (iS s.data.toList);rw[←hRL];have hB0:=aG.new w 218 #[.bool false,.int .u64 0,.int .u64 0,.int .u8 0];have hb0:=boxed w (.cells #[.bool false,.int .u64 0,.int .u64 0,.int .u8 0] 218);obtain⟨m,hm⟩:=(env.below hb0).mx;have hcut:=Tryz.strings_Cut s ⟨#[47]⟩ m (w.alloc (.cells #[.bool false,.int .u64 0,.int .u64 0,.int .u8 0] 218)) aQ hm;have hcl:=vW s.data.toList [47];rw[show(⟨#[47]⟩:ByteArray).data.toList=[47]from rfl]at hcut;unfold iS at hRL;generalize Lib.cut s.data.toList [47]=C at hcl hcut hRL;obtain⟨c1,c2,gap⟩:=C;simp only at hcl hcut hRL;rw[show s.data.toList.length=s.size from(Lib.size_eq s).symm]at hcl;have hrd:=fun v(hv:aW w v)=>Tv (env.below hv) ⟨c1.toArray⟩ (by rw[show(⟨c1.toArray⟩:ByteArray).size=c1.length by simp[ahI]];omega)
 have hpu:=fun v(hv:aW w v)=>abX (env.below hv) ⟨c2.toArray⟩ (by rw[show(⟨c2.toArray⟩:ByteArray).size=c2.length by simp[ahI]];omega)
 rw[show(⟨c1.toArray⟩:ByteArray).data.toList=c1 by simp]at hrd;rw[show(⟨c2.toArray⟩:ByteArray).data.toList=c2 by simp]at hpu;obtain⟨A,er,hA,hv,hro⟩:=Jq (uA c1) (fun a h=>(xi h).2.1);rw[hv]at hrd;generalize uA c1=RO at hRL hro;clear hv;have hnl:∀n,num1 10 256 c2=some n→n<256:=fun n h=>nB h
 unfold zY abg at hpu;generalize num1 10 256 c2=NO at hRL hpu hnl;have Jr:=fun n(hn:n<256)v(hv:aW w v)=>xC (env.below hv) ⟨A,n⟩ ⟨hA,hn⟩
 have hiff:∀n,jr ⟨A,n⟩=s↔qJ ⟨A,n⟩=s.data.toList:=fun n=>Jo
 have hcells:∀n,Pf.cells ⟨A,n⟩= #[.bool A.v6,.int .u64 (A.hi:Int),.int .u64 (A.lo:Int),.int .u8 n]:=fun _=>rfl
 simp only[hcells]at Jr;obtain⟨T1,hT1⟩:=bq ((⟨c1.toArray⟩:ByteArray));obtain⟨T2,hT2⟩:=bq ((⟨c2.toArray⟩:ByteArray));rw[←hT1]at hrd hcut;rw[←hT2]at hpu hcut;have hr0:gap=false→RL=none:=fun h=>by rw[hRL,h];rfl
 have hr1:er=8→RL=none:=fun h=>by
  rcases hro with⟨e,_⟩|⟨_,e⟩
  ·omega
  ·rw[hRL,e];split<;>rfl
 have hr2:NO=none→RL=none:=fun h=>by
  rw[hRL,h];split
  ·rfl
  ·cases RO<;>rfl
 have hr3:gap=true→er=0→∀n,NO=some n→RL=if jr ⟨A,n⟩=s then some ⟨A,n⟩else none:=fun h1 h2 n h3=>by
  rcases hro with⟨_,e⟩|⟨e,_⟩
  ·rw[hRL,h1,h3,e];simp only;rw[if_neg aH];by_cases h:jr ⟨A,n⟩=s
   ·rw[if_pos h,if_pos ((hiff n).1 h)]
   ·rw[if_neg h,if_neg (fun e=>h ((hiff n).2 e))]
  ·omega
 have her:er=0∨er=8:=by rcases hro with⟨e,_⟩|⟨e,_⟩<;>omega
 obtain⟨PB,hPB⟩:∃f:Nat→ByteArray,f=fun n=>jr ⟨A,n⟩:=⟨_,rfl⟩
 have aei:∀n,jr ⟨A,n⟩=PB n:=fun n=>by rw[hPB]
 simp only[aei]at hr3 Jr;generalize A.v6=av at hrd Jr hcells;generalize A.hi=Ii at hrd Jr hcells;generalize A.lo=Ij at hrd Jr hcells;obtain⟨zu,HRD,HPU,HPT,Hr0,Hr1,Hr2,Hr3,Hnl,ri,HB0,Hb0⟩:=oP hcut hrd hpu Jr hr0 hr1 hr2 hr3 hnl hcells hB0 hb0;clear hcut hrd hpu Jr hr0 hr1 hr2 hr3 hnl hcells hB0 hb0 hiff hro hRL hT1 hT2 hPB aei hA hm hcl env;go_enter Tryz.func217,Tryz.ntmps217;go_wp2_with(go_at_call 238;refine zu.out.mono ?_;rintro r w2⟨rfl,n2,rfl⟩)
 go_at_call 239;refine(HRD.out _ (after Hb0.out (below_drewN _ n2))).mono ?_;rintro r w3⟨rfl,g3⟩;have hB3:=(HB0.out.drewN n2).below g3 (HB0.out.drewN n2).lt;have hb3:=after (after Hb0.out (below_drewN _ n2)) g3;have hB4:=hB3.alloc (.cells #[.bool av,.int .u64 Ii,.int .u64 Ij] 52);have hD4:=aG.new w3 52 #[.bool av,.int .u64 Ii,.int .u64 Ij];have hb4:=after hb3 (boxed w3 (.cells #[.bool av,.int .u64 Ii,.int .u64 Ij] 52));have hw3:w.heap.size<w3.heap.size:=hB3.lt;clear hB3 hb3 g3;go_upto_region 3 with fail
 generalize w3.alloc (.cells #[.bool av,.int .u64 Ii,.int .u64 Ij] 52)=w4 at hB4 hD4 hb4⊢;generalize w3.heap.size=g1 at hD4 hw3⊢;obtain⟨HB4,HD4,Hb4,agc⟩:=cY hB4 hD4 hb4 (HPU.out w4 hb4);clear hB4 hD4 hb4;go_wp2_with fail
 go_at_call 240;refine agc.out.mono ?_;rintro e w5⟨hres,g5⟩;have TD:=HB4.out.below g5 HB4.out.lt;have hD5:=HD4.out.below g5 HD4.out.lt;have hb5:=after Hb4.out g5;have a0:=hD5.cell 0;have a1:=hD5.cell 1;have a2:=hD5.cell 2;simp at a0 a1 a2;obtain⟨nw,Hb5⟩:=aN TD hb5;clear TD hD5 hb5 g5;rcases hres with⟨n,hNO,rfl⟩|⟨hNO,n,tp,p,ab1,rfl⟩
 ·have hn:=Hnl.out n hNO;have hwr:IntKind.u8.wrap (n:Int)=(n:Int):=by rw[IntKind.wrap_u8];omega
  go_upto_region 5 with fail
  have gC:=nw.out.alloc (.cells #[.bool av,.int .u64 Ii,.int .u64 Ij,.int .u8 n] 218);have hD6:=aG.new w5 218 #[.bool av,.int .u64 Ii,.int .u64 Ij,.int .u8 n];have hb6:=after Hb5.out (boxed w5 (.cells #[.bool av,.int .u64 Ii,.int .u64 Ij,.int .u8 n] 218));have hw5:w.heap.size<w5.heap.size:=nw.out.lt;generalize w5.alloc (.cells #[.bool av,.int .u64 Ii,.int .u64 Ij,.int .u8 n] 218)=w6 at gC hD6 hb6⊢;generalize w5.heap.size=g2 at hD6 hw5⊢;clear a0 a1 a2;have b0:=hD6.cell 0;have b1:=hD6.cell 1;have b2:=hD6.cell 2;have b3:=hD6.cell 3;simp at b0 b1 b2 b3;have c0:=gC.cell 0;have c1:=gC.cell 1;have c2:=gC.cell 2;have c3:=gC.cell 3;simp at c0 c1 c2 c3;have fr:=fun i=>gC.frozen i
  obtain⟨kO,HD6,BX⟩:=bu gC hD6 hb6;clear gC hD6 hb6;have aej:=ae (HPT.out n hn w6 BX.out);cases gap with
  |false=>
   have Y4:=ae (Hr0.out rfl);go_wp2_with fail
   rw[Y4.out];show bodyPost _ _ (Got (.tuple #[.agg #[.bool false,.int .u64 0,.int .u64 0,.int .u8 0],.int .i64 8]) w) _ _ _;exact rQ (g:=w.heap.size) (x:=2) (y:=3) rfl kO.out BX.out (aA _) rfl rfl rfl
  |true=>
   rcases her with rfl|rfl
   ·have hrl:=Hr3.out rfl rfl n hNO;by_cases hts:PB n=s
    ·have hq:=eX hts;rw[if_pos hts]at hrl;have Hrl:=ae hrl;clear hrl hts;go_wp2_with(go_at_call 241;refine aej.out.mono ?_;rintro r w7⟨rfl,g7⟩;have hb7:=aZ BX g7;have j5:=kO.out.below g7 kO.out.lt;have hD7:=HD6.out.below g7 HD6.out.lt;clear b0 b1 b2 b3 c0 c1 c2 c3 fr;have b0:=hD7.cell 0;have b1:=hD7.cell 1;have b2:=hD7.cell 2;have b3:=hD7.cell 3;simp at b0 b1 b2 b3;have c0:=j5.cell 0;have c1:=j5.cell 1;have c2:=j5.cell 2;have c3:=j5.cell 3;simp at c0 c1 c2 c3;have fr:=(fun i=>j5.frozen i);have uN:=ae j5;clear j5 hD7 g7)
     rw[Hrl.out];show bodyPost _ _ (Got (.tuple #[.agg (Pf.cells ⟨A,n⟩),.int .i64 0]) w) _ _ _;rw[ri.out];exact rQ (g:=w.heap.size) (x:=2) (y:=3) rfl uN.out hb7.out (aA _) rfl rfl rfl
    ·have hq:=fR hts;rw[if_neg hts]at hrl;have Hrl:=ae hrl;clear hrl hts;go_wp2_with(go_at_call 241;refine aej.out.mono ?_;rintro r w7⟨rfl,g7⟩;have hb7:=aZ BX g7;have j5:=kO.out.below g7 kO.out.lt;have hD7:=HD6.out.below g7 HD6.out.lt;clear b0 b1 b2 b3 c0 c1 c2 c3 fr;have b0:=hD7.cell 0;have b1:=hD7.cell 1;have b2:=hD7.cell 2;have b3:=hD7.cell 3;simp at b0 b1 b2 b3;have c0:=j5.cell 0;have c1:=j5.cell 1;have c2:=j5.cell 2;have c3:=j5.cell 3;simp at c0 c1 c2 c3;have fr:=(fun i=>j5.frozen i);have uN:=ae j5;clear j5 hD7 g7)
     rw[Hrl.out];show bodyPost _ _ (Got (.tuple #[.agg #[.bool false,.int .u64 0,.int .u64 0,.int .u8 0],.int .i64 8]) w) _ _ _;exact rQ (g:=w.heap.size) (x:=2) (y:=3) rfl uN.out hb7.out (aA _) rfl rfl rfl
   ·have Y4:=ae (Hr1.out rfl);go_wp2_with fail
    rw[Y4.out];show bodyPost _ _ (Got (.tuple #[.agg #[.bool false,.int .u64 0,.int .u64 0,.int .u8 0],.int .i64 8]) w) _ _ _;exact rQ (g:=w.heap.size) (x:=2) (y:=3) rfl kO.out BX.out (aA _) rfl rfl rfl
 ·have Y4:=ae (Hr2.out hNO);clear hNO;go_upto_region 5 with fail
  have gC:=nw.out.alloc (.cells #[.bool av,.int .u64 Ii,.int .u64 Ij,.int .u8 ((n:Int)%256)] 218);have hD6:=aG.new w5 218 #[.bool av,.int .u64 Ii,.int .u64 Ij,.int .u8 ((n:Int)%256)];have hb6:=after Hb5.out (boxed w5 (.cells #[.bool av,.int .u64 Ii,.int .u64 Ij,.int .u8 ((n:Int)%256)] 218));have hw5:w.heap.size<w5.heap.size:=nw.out.lt;generalize w5.alloc (.cells #[.bool av,.int .u64 Ii,.int .u64 Ij,.int .u8 ((n:Int)%256)] 218)=w6 at gC hD6 hb6⊢;generalize w5.heap.size=g2 at hD6 hw5⊢;clear a0 a1 a2;have b0:=hD6.cell 0;have b1:=hD6.cell 1;have b2:=hD6.cell 2;have b3:=hD6.cell 3;simp at b0 b1 b2 b3;have c0:=gC.cell 0;have c1:=gC.cell 1;have c2:=gC.cell 2;have c3:=gC.cell 3;simp at c0 c1 c2 c3;have fr:=fun i=>gC.frozen i
  obtain⟨kO,HD6,BX⟩:=bu gC hD6 hb6;clear gC hD6 hb6;rcases her with rfl|rfl
  all_goals cases gap
  all_goals
   go_wp2_with fail
   rw[Y4.out];show bodyPost _ _ (Got (.tuple #[.agg #[.bool false,.int .u64 0,.int .u64 0,.int .u8 0],.int .i64 8]) w) _ _ _;exact rQ (g:=w.heap.size) (x:=2) (y:=3) rfl kO.out BX.out (aA _) rfl rfl rfl
attribute [local go_sem↓] Go.wp_at_zero Go.wp_at_succ
def kx.cells(s:kx):Array Value:= #[.int .u8 (s.kind:Int),.string s.name,.bool s.net.a.v6,.int .u64 (s.net.a.hi:Int),.int .u64 (s.net.a.lo:Int),.int .u8 (s.net.bits:Int)]
theorem fX{P:Program}{T K E:TypeId}{w:World}{m clock:Nat}{L:List SE}(hT:P.underlying T=some (.map K E))(hK:P.underlying K=some .string)(h:eW w m L clock)(s:ByteArray){j:Nat}{x:SE}(hj:at_ L s=some j)(hx:L[j]? =some x):(Instr.lookup T (.map (some m)) (.string s) false).run P w=.ok x.val w:=by
 simp[Instr.lookup,run_underlying hT,run_getObj_map h,eN _ _ hK,ents,gV s hK,hj,hx,List.getD_eq_getElem?_getD]
theorem mO{P:Program}{T K E:TypeId}{w:World}{m clock:Nat}{L:List SE}(hT:P.underlying T=some (.map K E))(hK:P.underlying K=some .string)(h:eW w m L clock)(s:ByteArray)(hj:at_ L s=none){z:Value}(hz:(zeroValue E).run P w=.ok z w):(Instr.lookup T (.map (some m)) (.string s) false).run P w=.ok z w:=by
 simp[Instr.lookup,run_underlying hT,run_getObj_map h,eN _ _ hK,ents,gV s hK,hj,hz]
def rj:List SE:=[⟨tz,.int .u8 2,0⟩,⟨fG,.int .u8 3,1⟩,⟨kF,.int .u8 4,2⟩,⟨iU,.int .u8 5,3⟩,⟨zU,.int .u8 6,4⟩]
theorem dB{a b:ByteArray}(h:a≠b):(a==b)=false:=by
 cases e:a==b with
 |false=>rfl
 |true=>exact absurd ((bytes_beq a b).1 e) h
theorem BZ{w:World}{m clock:Nat}(h:eW w m rj clock)(s:ByteArray):(Instr.lookup 318 (.map (some m)) (.string s) false).run ah w=.ok (.int .u8 (gU s.data.toList:Int)) w:=by
 have hT:=Tryz.underlying318;have hK:=bn;unfold gU;rw[rG];by_cases e1:s=tz
 ·subst e1;rw[if_pos rfl];exact fX hT hK h _ (j:=0) (x:=⟨tz,.int .u8 2,0⟩) (by decide+kernel) rfl
 rw[if_neg e1];by_cases e2:s=fG
 ·subst e2;rw[if_pos rfl];exact fX hT hK h _ (j:=1) (x:=⟨fG,.int .u8 3,1⟩) (by decide+kernel) rfl
 rw[if_neg e2];by_cases e3:s=kF
 ·subst e3;rw[if_pos rfl];exact fX hT hK h _ (j:=2) (x:=⟨kF,.int .u8 4,2⟩) (by decide+kernel) rfl
 rw[if_neg e3];by_cases e4:s=iU
 ·subst e4;rw[if_pos rfl];exact fX hT hK h _ (j:=3) (x:=⟨iU,.int .u8 5,3⟩) (by decide+kernel) rfl
 rw[if_neg e4];by_cases e5:s=zU
 ·subst e5;rw[if_pos rfl];exact fX hT hK h _ (j:=4) (x:=⟨zU,.int .u8 6,4⟩) (by decide+kernel) rfl
 rw[if_neg e5];refine mO hT hK h s ?_ (Tryz.zeroValue5 w);unfold at_ rj;simp only[List.findIdx?_cons,List.findIdx?_nil];rw[dB (Ne.symm e1),dB (Ne.symm e2),dB (Ne.symm e3),dB (Ne.symm e4),dB (Ne.symm e5)];rfl
theorem pA{w:World}{g:Nat}{v0 v1 v2 v3 v4 v5:Value}(h:aG w g 220 #[v0,v1,v2,v3,v4,v5]):(loadVar 220 ⟨g,0,none⟩).run ah w=.ok (.agg #[v0,v1,v2,v3,v4,v5]) w:=by
 have c0:=h.cell 0;have c1:=h.cell 1;have c2:=h.cell 2;have c3:=h.cell 3;have c4:=h.cell 4;have c5:=h.cell 5;simp at c0 c1 c2 c3 c4 c5;simp[loadVar,go_sem,c0,c1,c2,c3,c4,c5]
theorem vX{W w:World}{g:Nat}{z0 z1 z2 z3 z4 z5 v0 v1 v2 v3 v4 v5:Value}(hB:aG w g 220 #[z0,z1,z2,z3,z4,z5])(hb:Below W.heap.size W w)(hg:W.heap.size≤g):aG ((((((w.setCell ⟨g,0,none⟩ v0).setCell ⟨g,1,none⟩ v1).setCell ⟨g,2,none⟩ v2).setCell ⟨g,3,none⟩ v3).setCell ⟨g,4,none⟩ v4).setCell ⟨g,5,none⟩ v5) g 220 #[v0,v1,v2,v3,v4,v5]∧Below W.heap.size W ((((((w.setCell ⟨g,0,none⟩ v0).setCell ⟨g,1,none⟩ v1).setCell ⟨g,2,none⟩ v2).setCell ⟨g,3,none⟩ v3).setCell ⟨g,4,none⟩ v4).setCell ⟨g,5,none⟩ v5):=by
 have s0:aG (w.setCell ⟨g,0,none⟩ v0) g 220 #[v0,z1,z2,z3,z4,z5]:=hB.aL 0 v0;have s1:aG ((w.setCell ⟨g,0,none⟩ v0).setCell ⟨g,1,none⟩ v1) g 220 #[v0,v1,z2,z3,z4,z5]:=s0.aL 1 v1;have s2:aG (((w.setCell ⟨g,0,none⟩ v0).setCell ⟨g,1,none⟩ v1).setCell ⟨g,2,none⟩ v2) g 220 #[v0,v1,v2,z3,z4,z5]:=s1.aL 2 v2;have s3:aG ((((w.setCell ⟨g,0,none⟩ v0).setCell ⟨g,1,none⟩ v1).setCell ⟨g,2,none⟩ v2).setCell ⟨g,3,none⟩ v3) g 220 #[v0,v1,v2,v3,z4,z5]:=s2.aL 3 v3;have s4:aG (((((w.setCell ⟨g,0,none⟩ v0).setCell ⟨g,1,none⟩ v1).setCell ⟨g,2,none⟩ v2).setCell ⟨g,3,none⟩ v3).setCell ⟨g,4,none⟩ v4) g 220 #[v0,v1,v2,v3,v4,z5]:=s3.aL 4 v4;have s5:aG ((((((w.setCell ⟨g,0,none⟩ v0).setCell ⟨g,1,none⟩ v1).setCell ⟨g,2,none⟩ v2).setCell ⟨g,3,none⟩ v3).setCell ⟨g,4,none⟩ v4).setCell ⟨g,5,none⟩ v5) g 220 #[v0,v1,v2,v3,v4,v5]:=s4.aL 5 v5;exact⟨s5,((((((hb.setCell (p:=⟨g,0,none⟩) hg v0).setCell (p:=⟨g,1,none⟩) hg v1).setCell (p:=⟨g,2,none⟩) hg v2).setCell (p:=⟨g,3,none⟩) hg v3).setCell (p:=⟨g,4,none⟩) hg v4).setCell (p:=⟨g,5,none⟩) hg v5)⟩
theorem eW.aek{w:World}{m clock g:Nat}{L:List SE}{v0 v1 v2 v3 v4 v5:Value}(h:eW w m L clock)(hne:g≠m):eW ((((((w.setCell ⟨g,0,none⟩ v0).setCell ⟨g,1,none⟩ v1).setCell ⟨g,2,none⟩ v2).setCell ⟨g,3,none⟩ v3).setCell ⟨g,4,none⟩ v4).setCell ⟨g,5,none⟩ v5) m L clock:=by
 have k:=((((((Keeps.refl (fun x=>x=g) w).setCell (p:=⟨g,0,none⟩) (Or.inl rfl) v0).setCell (p:=⟨g,1,none⟩) (Or.inl rfl) v1).setCell (p:=⟨g,2,none⟩) (Or.inl rfl) v2).setCell (p:=⟨g,3,none⟩) (Or.inl rfl) v3).setCell (p:=⟨g,4,none⟩) (Or.inl rfl) v4).setCell (p:=⟨g,5,none⟩) (Or.inl rfl) v5;exact h.keep k fun e=>hne e.symm
theorem eW.drw{w:World}{m clock:Nat}{L:List SE}(h:eW w m L clock):eW w.drew m L clock:=h
theorem Js(w0:World):∃w1 w2 w3 w4 w5:World,(Instr.mapUpdate 318 (.map (some w0.heap.size)) (.string ⟨#[117,115,101,114]⟩) (.int .u8 2)).run ah (w0.alloc (.map #[] 0))=.ok () w1∧(Instr.mapUpdate 318 (.map (some w0.heap.size)) (.string ⟨#[103,114,111,117,112]⟩) (.int .u8 3)).run ah w1=.ok () w2∧(Instr.mapUpdate 318 (.map (some w0.heap.size)) (.string ⟨#[116,97,103]⟩) (.int .u8 4)).run ah w2=.ok () w3∧(Instr.mapUpdate 318 (.map (some w0.heap.size)) (.string ⟨#[104,111,115,116]⟩) (.int .u8 5)).run ah w3=.ok () w4∧(Instr.mapUpdate 318 (.map (some w0.heap.size)) (.string ⟨#[110,101,116]⟩) (.int .u8 6)).run ah w4=.ok () w5∧eW w5 w0.heap.size rj 5∧Below w0.heap.size w0 w5:=by
 have hT:=Tryz.underlying318;have hK:=bn;have h0:eW (w0.alloc (.map #[] 0)) w0.heap.size [] 0:=heap_alloc_new w0 _;obtain⟨w1,e1,_,_,k1,m1⟩:=fl (P:=ah) hT hK h0 ⟨#[117,115,101,114]⟩ (by decide+kernel) (.int .u8 2);obtain⟨w2,e2,_,_,k2,m2⟩:=fl (P:=ah) hT hK m1 ⟨#[103,114,111,117,112]⟩ (by decide+kernel) (.int .u8 3);obtain⟨w3,e3,_,_,k3,m3⟩:=fl (P:=ah) hT hK m2 ⟨#[116,97,103]⟩ (by decide+kernel) (.int .u8 4);obtain⟨w4,e4,_,_,k4,m4⟩:=fl (P:=ah) hT hK m3 ⟨#[104,111,115,116]⟩ (by decide+kernel) (.int .u8 5);obtain⟨w5,e5,_,_,k5,m5⟩:=fl (P:=ah) hT hK m4 ⟨#[110,101,116]⟩ (by decide+kernel) (.int .u8 6);refine⟨w1,w2,w3,w4,w5,e1,e2,e3,e4,e5,m5,?_⟩;exact(boxed w0 _).trans (Keeps.below ((((k1.trans k2).trans k3).trans k4).trans k5) (fun k hk=>by rw[hk];exact aA _) (by simp))
def js(m:Nat)(T:ByteArray)(K:Nat)(w:World):Prop:=(Instr.lookup 318 (.map (some m)) (.string T) false).run ah w=.ok (.int .u8 K) w
def Jt(o:Option kx)(w:World)(r:Ending)(w':World):Prop:=(∃s:kx,r=.returned (.tuple #[.agg s.cells,.bool o.isSome])∧∀x,o=some x→s=x)∧Below w.heap.size w w'
theorem Y6{w:World}(env:Env w)(s:ByteArray)(hs:s.size≤2000000):Calls ah 242 #[.string s] w (Jt (mN s) w):=by
 have hB0:=aG.new w 220 #[.int .u8 0,aI,.bool false,.int .u64 0,.int .u64 0,.int .u8 0];have hb0:=boxed w (.cells #[.int .u8 0,aI,.bool false,.int .u64 0,.int .u64 0,.int .u8 0] 220);by_cases hst:s=xn
 ·subst hst;rw[show mN xn=some ⟨1,lJ,Pf.zero⟩ by unfold mN;rw[if_pos rfl]];unfold xn;clear env hs;go_enter Tryz.func242,Tryz.ntmps242;go_wp2_with fail
  refine bodyPost_ret (bD rfl rfl rfl (pA (aG.new _ _ _))) rfl ⟨⟨⟨1,lJ,Pf.zero⟩,rfl,fun x hx=>by injection hx⟩,boxed _ _⟩
 ·have hss:(s.toList==[42])=false:=by
   rw[beq_eq_false_iff_ne];intro h;rw[cC]at h;exact hst (ahR (Array.ext' h))
  have hmm:= @run_makeMap ah;have hk:=Js (w.alloc (.cells #[.int .u8 0,aI,.bool false,.int .u64 0,.int .u64 0,.int .u8 0] 220));rw[show(w.alloc (.cells #[.int .u8 0,aI,.bool false,.int .u64 0,.int .u64 0,.int .u8 0] 220)).heap.size=w.heap.size+1 by simp]at hk;obtain⟨w1,w2,w3,w4,w5,e1,e2,e3,e4,e5,hM,hbm⟩:=hk;have TD:=hB0.below hbm aQ;have hb5:Below w.heap.size w w5:=hb0.trans (hbm.mono aQ);obtain⟨mx,hmx⟩:=(env.below hb5).mx;have hcut:=Tryz.strings_Cut s ⟨#[58]⟩ mx w5 aQ hmx;have hcl:=vW s.data.toList [58];rw[show(⟨#[58]⟩:ByteArray).data.toList=[58]from rfl]at hcut;obtain⟨RES,eO⟩:=bq (mN s);rw[←eO];unfold mN at eO;rw[if_neg hst]at eO;simp only at eO;generalize Lib.cut s.data.toList [58]=C at hcl hcut eO;obtain⟨c1,c2,gap⟩:=C;simp only at hcl hcut eO;rw[show s.data.toList.length=s.size from(Lib.size_eq s).symm]at hcl;have hrd:=fun v(hv:Below w.heap.size w v)=>py (env.below hv) ⟨c2.toArray⟩ (by rw[show(⟨c2.toArray⟩:ByteArray).size=c2.length by simp[ahI]];omega)
  rw[show(⟨c2.toArray⟩:ByteArray).data.toList=c2 from rfl]at hrd;have hlab:=fun v=>pZ ⟨c2.toArray⟩ (by rw[show(⟨c2.toArray⟩:ByteArray).size=c2.length by simp[ahI]];omega) v
  rw[show cO (⟨c2.toArray⟩:ByteArray)=oY c2 from rfl]at hlab;have hlk:∀W,eW W (w.heap.size+1) rj 5→js (w.heap.size+1) ⟨c1.toArray⟩ (gU c1) W:=fun W h=>BZ h ⟨c1.toArray⟩
  have hK6:gU c1≤6:=by
   by_cases h0:0<gU c1
   ·rcases pg h0 with h|h|h|h|h<;>omega
   ·omega
  generalize gU c1=K at eO hlk hK6;unfold gJ at eO;generalize(⟨c1.toArray⟩:ByteArray)=T1 at hcut hlk;generalize hT2:(⟨c2.toArray⟩:ByteArray)=T2 at hcut hrd hlab eO;obtain⟨zu,jO,j6,PN,Hlk⟩:=ej hcut eO hrd hlab hlk;clear hcut eO hrd hlab hlk env hmx hcl hst hT2;go_enter Tryz.func242,Tryz.ntmps242;go_upto_region 5 with(go_at_call 238;refine zu.out.mono ?_;rintro r wq⟨rfl,nq,rfl⟩)
  have gC:aG (w5.drewN nq) w.heap.size 220 #[.int .u8 0,aI,.bool false,.int .u64 0,.int .u64 0,.int .u8 0]:=TD;have hb6:Below w.heap.size w (w5.drewN nq):=⟨hb5.os,hb5.tape,hb5.output,hb5.size,hb5.block⟩;have zd:=ae (hM.drewN nq);clear e1 e2 e3 e4 e5 hmm hM hbm TD hb5 zu hB0 hb0;generalize w5.drewN nq=w6 at gC hb6 zd⊢;have hlk:=Hlk.out w6 zd.out;unfold js at hlk;by_cases h6:K=6
  ·subst h6;have hR:=jO.out;rw[if_pos rfl]at hR;have zv:=ae hR;clear hR jO PN zd;obtain⟨BX,kO⟩:=aN hb6 gC;clear hb6 gC;go_upto_region 6 with fail
   cases hp:iS c2 with
   |none=>
    rw[hp]at j6 zv;have acb:ag (∀(v:World),Below w.heap.size w v→Calls ah 217 #[.string T2] v (Got (.tuple #[.agg #[.bool false,.int .u64 0,.int .u64 0,.int .u8 0],.int .i64 8]) v)):=j6;go_upto_region 7 with(go_at_call 217;refine(acb.out _ BX.out).mono ?_;rintro r w7⟨rfl,d7⟩)
    have oI:=(kO.out.below d7 kO.out.lt).alloc (.cells #[.bool false,.int .u64 0,.int .u64 0,.int .u8 0] 218);have hb8:=after (after BX.out d7) (boxed w7 (.cells #[.bool false,.int .u64 0,.int .u64 0,.int .u8 0] 218));have hP:=aG.new w7 218 #[.bool false,.int .u64 0,.int .u64 0,.int .u8 0];clear d7;generalize w7.alloc (.cells #[.bool false,.int .u64 0,.int .u64 0,.int .u8 0] 218)=w8 at oI hb8 hP⊢;have b0:=oI.cell 0;have b1:=oI.cell 1;have b2:=oI.cell 2;have b3:=oI.cell 3;have b4:=oI.cell 4;have b5:=oI.cell 5;have z0:=oI.frozen 0;have z1:=oI.frozen 1;have z2:=oI.frozen 2;have z3:=oI.frozen 3;have z4:=oI.frozen 4;have z5:=oI.frozen 5;have p0:=hP.cell 0;have p1:=hP.cell 1;have p2:=hP.cell 2;have p3:=hP.cell 3;simp at b0 b1 b2 b3 b4 b5 p0 p1 p2 p3;obtain⟨q1,q2⟩:=vX (v0:=.int .u8 6) (v1:=aI) (v2:=.bool false) (v3:=.int .u64 0) (v4:=.int .u64 0) (v5:=.int .u8 0) oI hb8 (aA _);obtain⟨Q1,Q2⟩:=aN q1 q2;clear q1 q2;go_wp2_with fail
    refine bodyPost_ret (bD rfl rfl rfl (pA Q1.out)) rfl ⟨⟨⟨6,lJ,Pf.zero⟩,by rw[zv.out];rfl,fun x hx=>by rw[zv.out]at hx;cases hx⟩,Q2.out⟩
   |some n=>
    obtain⟨⟨a1,a2,a3⟩,a4⟩:=n;rw[hp]at j6 zv;have acb:ag (∀(v:World),Below w.heap.size w v→Calls ah 217 #[.string T2] v (Got (.tuple #[.agg #[.bool a1,.int .u64 a2,.int .u64 a3,.int .u8 a4],.int .i64 0]) v)):=j6;go_upto_region 7 with(go_at_call 217;refine(acb.out _ BX.out).mono ?_;rintro r w7⟨rfl,d7⟩)
    have oI:=(kO.out.below d7 kO.out.lt).alloc (.cells #[.bool a1,.int .u64 a2,.int .u64 a3,.int .u8 a4] 218);have hb8:=after (after BX.out d7) (boxed w7 (.cells #[.bool a1,.int .u64 a2,.int .u64 a3,.int .u8 a4] 218));have hP:=aG.new w7 218 #[.bool a1,.int .u64 a2,.int .u64 a3,.int .u8 a4];clear d7;generalize w7.alloc (.cells #[.bool a1,.int .u64 a2,.int .u64 a3,.int .u8 a4] 218)=w8 at oI hb8 hP⊢;have b0:=oI.cell 0;have b1:=oI.cell 1;have b2:=oI.cell 2;have b3:=oI.cell 3;have b4:=oI.cell 4;have b5:=oI.cell 5;have z0:=oI.frozen 0;have z1:=oI.frozen 1;have z2:=oI.frozen 2;have z3:=oI.frozen 3;have z4:=oI.frozen 4;have z5:=oI.frozen 5;have p0:=hP.cell 0;have p1:=hP.cell 1;have p2:=hP.cell 2;have p3:=hP.cell 3;simp at b0 b1 b2 b3 b4 b5 p0 p1 p2 p3;obtain⟨q1,q2⟩:=vX (v0:=.int .u8 6) (v1:=aI) (v2:=.bool a1) (v3:=.int .u64 a2) (v4:=.int .u64 a3) (v5:=.int .u8 a4) oI hb8 (aA _);obtain⟨Q1,Q2⟩:=aN q1 q2;clear q1 q2;go_wp2_with fail
    refine bodyPost_ret (bD rfl rfl rfl (pA Q1.out)) rfl ⟨⟨⟨6,lJ,⟨⟨a1,a2,a3⟩,a4⟩⟩,by rw[zv.out];rfl,fun x hx=>by rw[zv.out]at hx;injection hx⟩,Q2.out⟩
  ·have q6:((K:Int)==6)=false:=by simp;omega
   have hR:=jO.out;rw[if_neg h6]at hR;have zv:=ae hR;clear hR jO j6 h6;have hM:=zd.out;have hgm:w.heap.size≠w.heap.size+1:=by omega
   generalize hLB:oY c2=LB at zv PN;clear hLB;by_cases h0:0<K
   ·have q0:(0:Int)<(K:Int):=by omega
    go_upto_region 8 with fail
    have b0:=gC.cell 0;have b1:=gC.cell 1;have b2:=gC.cell 2;have b3:=gC.cell 3;have b4:=gC.cell 4;have b5:=gC.cell 5;simp at b0 b1 b2 b3 b4 b5;refine wp_region_held_drew (S:=js (w.heap.size+1) T1 K) bo (Hlk.out w6.drew (show eW w6.drew (w.heap.size+1) rj 5 from hM)) (fun hHeld=>?_);refine pV 0 ?_ (hy:=by(intro w hSw;unfold js at hSw;go_simp;try with_reducible rfl));try simp only[cN]
    refine pV 1 ?_ (hy:=by(intro w hSw;unfold js at hSw;go_simp;try with_reducible rfl));try simp only[cN]
    refine pV 2 ?_ (hy:=by(intro w hSw;unfold js at hSw;go_simp;try with_reducible rfl));try simp only[cN]
    refine pV 3 ?_ (hy:=by(intro w hSw;unfold js at hSw;go_simp;try with_reducible rfl));try simp only[cN]
    refine pV 4 ?_ (hy:=by(intro w hSw;unfold js at hSw;go_simp;try with_reducible rfl));try simp only[cN]
    refine pV 5 ?_ (hy:=by(intro w hSw;unfold js at hSw;go_simp;try with_reducible rfl));try simp only[cN]
    refine pV 6 ?_ (hy:=by(intro w hSw;unfold js at hSw;go_simp;try with_reducible rfl));try simp only[cN]
    refine pV 7 ?_ (hy:=by(intro w hSw;unfold js at hSw;go_simp;try with_reducible rfl));try simp only[cN]
    refine pV 8 ?_ (hy:=by(intro w hSw;unfold js at hSw;go_simp;try with_reducible rfl));try simp only[cN]
    refine pV 9 ?_ (hy:=by(intro w hSw;unfold js at hSw;go_simp;try with_reducible rfl));try simp only[cN]
    refine pV 10 ?_ (hy:=by(intro w hSw;unfold js at hSw;go_simp;try with_reducible rfl));try simp only[cN]
    refine jg 11 fun K hK=>?_;go_simp;refine(PN.out _).mono ?_;rintro r w9⟨rfl,d9⟩;have hM:=eW.below (show eW w6.drew (w.heap.size+1) rj 5 from hM) d9 hM.lt;have gC:=aG.below (show aG w6.drew w.heap.size 220 _ from gC) d9 gC.lt;have hb6:=after (show Below w.heap.size w w6.drew from⟨hb6.os,hb6.tape,hb6.output,hb6.size,hb6.block⟩) d9;have b0:=gC.cell 0;have b1:=gC.cell 1;have b2:=gC.cell 2;have b3:=gC.cell 3;have b4:=gC.cell 4;have b5:=gC.cell 5;simp at b0 b1 b2 b3 b4 b5;have z0:=gC.frozen 0;have z1:=gC.frozen 1;have z2:=gC.frozen 2;have z3:=gC.frozen 3;have z4:=gC.frozen 4;have z5:=gC.frozen 5;refine hK.out _ _ (Hlk.out w9 hM) (fun hHeld=>?_);clear hK K;try simp only[cN]
    refine pV 12 ?_ (hy:=by(intro w hSw;unfold js at hSw;go_simp;try with_reducible rfl));try simp only[cN]
    refine jg 13 fun K hK=>?_;go_simp;refine hK.out _ _ (Hlk.out _ (eW.aek hM hgm)) (fun hHeld=>?_);clear hK K;try simp only[cN]
    refine pV 14 ?_ (hy:=by(intro w hSw;unfold js at hSw;go_simp;try with_reducible rfl));try simp only[cN]
    refine qW ?_;go_wp2_with fail
    obtain⟨q1,q2⟩:=vX (v0:=.int .u8 K) (v1:=.string T2) (v2:=.bool false) (v3:=.int .u64 0) (v4:=.int .u64 0) (v5:=.int .u8 0) gC hb6 (aA _);refine bodyPost_ret (bD rfl rfl rfl (pA q1)) rfl ⟨⟨⟨K,T2,Pf.zero⟩,?_,?_⟩,q2⟩
    ·rw[zv.out];cases LB with
     |true=>rw[if_pos ⟨h0,rfl⟩];rfl
     |false=>rw[if_neg (by simp)];rfl
    ·intro x hx;rw[zv.out]at hx;split at hx
     ·injection hx
     ·cases hx
   ·obtain rfl:K=0:=by omega
    go_upto_region 8 with fail
    have b0:=gC.cell 0;have b1:=gC.cell 1;have b2:=gC.cell 2;have b3:=gC.cell 3;have b4:=gC.cell 4;have b5:=gC.cell 5;simp at b0 b1 b2 b3 b4 b5;have z0:=gC.frozen 0;have z1:=gC.frozen 1;have z2:=gC.frozen 2;have z3:=gC.frozen 3;have z4:=gC.frozen 4;have z5:=gC.frozen 5;refine wp_region_held_drew (S:=js (w.heap.size+1) T1 0) bo (Hlk.out w6.drew (show eW w6.drew (w.heap.size+1) rj 5 from hM)) (fun hHeld=>?_);refine pV 0 ?_ (hy:=by(intro w hSw;unfold js at hSw;go_simp;try with_reducible rfl));try simp only[cN]
    refine pV 1 ?_ (hy:=by(intro w hSw;unfold js at hSw;go_simp;try with_reducible rfl));try simp only[cN]
    refine pV 2 ?_ (hy:=by(intro w hSw;unfold js at hSw;go_simp;try with_reducible rfl));try simp only[cN]
    refine pV 3 ?_ (hy:=by(intro w hSw;unfold js at hSw;go_simp;try with_reducible rfl));try simp only[cN]
    refine pV 4 ?_ (hy:=by(intro w hSw;unfold js at hSw;go_simp;try with_reducible rfl));try simp only[cN]
    refine pV 5 ?_ (hy:=by(intro w hSw;unfold js at hSw;go_simp;try with_reducible rfl));try simp only[cN]
    refine pV 6 ?_ (hy:=by(intro w hSw;unfold js at hSw;go_simp;try with_reducible rfl));try simp only[cN]
    refine pV 7 ?_ (hy:=by(intro w hSw;unfold js at hSw;go_simp;try with_reducible rfl));try simp only[cN]
    refine pV 8 ?_ (hy:=by(intro w hSw;unfold js at hSw;go_simp;try with_reducible rfl));try simp only[cN]
    refine pV 9 ?_ (hy:=by(intro w hSw;unfold js at hSw;go_simp;try with_reducible rfl));try simp only[cN]
    refine Ie 10 ?_
    refine Ie 11 ?_
    refine pV 12 ?_ (hy:=by(intro w hSw;unfold js at hSw;go_simp;try with_reducible rfl));try simp only[cN]
    refine jg 13 fun K hK=>?_;go_simp;refine hK.out _ _ (Hlk.out _ (eW.aek hM hgm).drw) (fun hHeld=>?_);clear hK K;try simp only[cN]
    refine pV 14 ?_ (hy:=by(intro w hSw;unfold js at hSw;go_simp;try with_reducible rfl));try simp only[cN]
    refine qW ?_;go_wp2_with fail
    obtain⟨q1,q2⟩:=vX (v0:=.int .u8 0) (v1:=.string T2) (v2:=.bool false) (v3:=.int .u64 0) (v4:=.int .u64 0) (v5:=.int .u8 0) gC hb6 (aA _);refine bodyPost_ret (bD rfl rfl rfl (pA q1.drew)) rfl ⟨⟨⟨0,T2,Pf.zero⟩,?_,?_⟩,q2.drew⟩
    ·rw[zv.out,if_neg (by simp)];rfl
    ·intro x hx;rw[zv.out,if_neg (by simp)]at hx;cases hx
open Go.Sort
theorem TF{w:World}(env:Env w)(u:Nat)(hu:u<65536):Calls ah 209 #[.int .u64 u,.int .i64 10] w (Got (.string ⟨(cM u).toArray⟩) w):=by
 by_cases hs:u<100
 ·have q1:(u:Int)<100:=by omega
  have HS:=ae fun v=>Tryz.internal_strconv_small u hs v
  have hb0:=aM w.heap.size w;clear hs env;go_enter Tryz.func209,Tryz.ntmps209;go_wp2_with(go_at_call 231;refine(HS.out _).mono ?_;rintro r w2⟨rfl,rfl⟩)
  go_ret;exact⟨rfl,hb0⟩
 ·have q1:¬(u:Int)<100:=by omega
  have hu1:1≤u:=by omega
  have hu64:u<18446744073709551616:=by omega
  have hnd20:Lib.nDigits u≤20:=by have:=Lib.numDigits_eq u hu1 hu64;split at this<;>omega
  have hal:ah.arrayLen 305=24:=by simp[Program.arrayLen,Tryz.underlying305]
  have hsl:∀W,(Instr.sliceAt 305 (.pointer (some ⟨w.heap.size,0,none⟩)) none (some (.int .i64 (Lib.nDigits u:Int))) none).run ah W=.ok (.slice (some ⟨w.heap.size,0,none⟩) (Lib.nDigits u) 24) W:=fun W=>by
   rw[run_sliceAt_array_h W 305 ⟨w.heap.size,0,none⟩ (by simp[Program.arrayLen,Program.elem,Tryz.underlying305]) .i64 (Lib.nDigits u:Int) aQ (by rw[hal];omega)];go_simp;try omega
  have hH0:=Lib.holds_zero0 w 305 (Lib.nDigits u) aQ;have hfmt:=Tryz.internal_strconv_formatBase10 w.heap.size 0 24 u (Array.replicate (Lib.nDigits u) 0) (w.alloc (.cells Lib.zeros24 305)) hH0 (by rw[Array.size_replicate];exact Lib.lt_pow_nDigits u) hu64 (by rw[Array.size_replicate];omega);rw[Array.size_replicate]at hfmt;rw[show Lib.zeros24= #[.int .u8 0,.int .u8 0,.int .u8 0,.int .u8 0,.int .u8 0,.int .u8 0,.int .u8 0,.int .u8 0,.int .u8 0,.int .u8 0,.int .u8 0,.int .u8 0,.int .u8 0,.int .u8 0,.int .u8 0,.int .u8 0,.int .u8 0,.int .u8 0,.int .u8 0,.int .u8 0,.int .u8 0,.int .u8 0,.int .u8 0,.int .u8 0]from rfl]at hfmt hH0;obtain⟨HH0,HF⟩:=aN hH0 hfmt;have HN:=ae fun v(hv:aW w v)=>Tryz.internal_strconv_numDigits u hu1 hu64 v (env.below hv).pow
  have hba:=boxed w (.cells #[.int .u8 0,.int .u8 0,.int .u8 0,.int .u8 0,.int .u8 0,.int .u8 0,.int .u8 0,.int .u8 0,.int .u8 0,.int .u8 0,.int .u8 0,.int .u8 0,.int .u8 0,.int .u8 0,.int .u8 0,.int .u8 0,.int .u8 0,.int .u8 0,.int .u8 0,.int .u8 0,.int .u8 0,.int .u8 0,.int .u8 0,.int .u8 0] 305);clear hH0 hal hfmt env hs hu hu1 hu64;go_enter Tryz.func209,Tryz.ntmps209;go_wp2_with(go_at_call 232;refine(HN.out _ hba).mono ?_;rintro r w2⟨rfl,rfl⟩)
  go_at_call 233;refine HF.out.mono ?_;rintro e W⟨rfl,k,v',dk,hW,hF⟩;have hcv:(convert 67 9 (.slice (some ⟨w.heap.size,0,none⟩) (Lib.nDigits u) 24)).run ah W=.ok (.string ⟨(cM u).toArray⟩) W:=by
   have h:=run_convert_bytes_back (P:=ah) W 67 9 5 ⟨w.heap.size,0,none⟩ 24 (cM u) cR Tryz.underlying5 bn (fun j hj=>by
    rw[hW,Lib.row_is_numeral hF j hj,Lib.add_plain,World.cell?_drewN];exact cell?_putRow (fun(b:UInt8)=>Value.int .u8 (b.toNat:Int)) _ w.heap.size 0 _ dk HH0.out (by rw[hF.size,Array.size_replicate]) j (by rw[hF.size];rw[Lib.decDigits_length]at hj;exact hj))
   rw[Lib.decDigits_length]at h;exact h
  have hbW:aW w W:=by
   rw[hW];obtain⟨os,eo⟩:=Lib.fin_at w (.cells #[.int .u8 0,.int .u8 0,.int .u8 0,.int .u8 0,.int .u8 0,.int .u8 0,.int .u8 0,.int .u8 0,.int .u8 0,.int .u8 0,.int .u8 0,.int .u8 0,.int .u8 0,.int .u8 0,.int .u8 0,.int .u8 0,.int .u8 0,.int .u8 0,.int .u8 0,.int .u8 0,.int .u8 0,.int .u8 0,.int .u8 0,.int .u8 0] 305) dk k 0;rw[eo];exact Lib.below_grow _ _ (aA _) _ _
  clear hW hF;go_wp2_with fail
  go_ret;exact⟨rfl,hbW⟩
theorem fmt10{w:World}(env:Env w)(u:Nat)(hu:u<65536):Calls ah 184 #[.int .u64 u,.int .i64 10] w (Got (.string ⟨(cM u).toArray⟩) w):=by
 have H:=ae (TF env u hu);clear env;go_enter Tryz.func184,Tryz.ntmps184;go_wp2_with(go_at_call 209;refine H.out.mono ?_;rintro r w2⟨rfl,d2⟩)
 go_ret;exact⟨rfl,d2⟩
theorem Y7{w:World}(env:Env w)(t:ByteArray)(hs:t.size≤4000000):Calls ah 240 #[.string t,.int .i64 10,.int .i64 16] w (zY 10 65536 t.data.toList w):=by
 have hn:=IP (B:=16) aH t.data.toList;rcases h:Lib.parseUintB 16 t.data.toList with u|_|_
 ·rw[h]at hn;refine(Tryz.strconv_ParseUint_10_at16_ok t aQ u h w).mono ?_;rintro e w'⟨rfl,hw⟩;refine⟨Or.inl ⟨u,hn,rfl⟩,?_⟩;rcases hw with rfl|rfl
  ·exact aM _ _
  ·exact Lib.bytesWorld_below _ _ _
 ·rw[h]at hn;obtain⟨tp,p,hv⟩:=env.es;refine(Any.strconv_ParseUint_10_at16_syntax Tryz.laysPu14 t aQ h (.iface tp p) w hv (Or.inr ⟨tp,p,rfl⟩)).mono ?_;rintro e w'⟨N,rfl,_,_,hb⟩;exact⟨Or.inr ⟨hn,0,_,_,by decide,rfl⟩,hb⟩
 ·rw[h]at hn;obtain⟨tp,p,hv⟩:=env.er;refine(Tryz.strconv_ParseUint_10_at16_range t aQ h (.iface tp p) w hv (Or.inr ⟨tp,p,rfl⟩)).mono ?_;rintro e w'⟨N,rfl,_,_,hb⟩;exact⟨Or.inr ⟨hn,65535,_,_,by decide,rfl⟩,hb⟩
def Y8(o:Option Nat)(w:World)(r:Ending)(w':World):Prop:=(∃n:Nat,n<65536∧r=.returned (.tuple #[.int .u16 n,.bool o.isSome])∧∀x,o=some x→n=x)∧aW w w'
theorem Fj{w:World}(env:Env w)(s:ByteArray)(hs:s.size≤4000000):Calls ah 243 #[.string s] w (Y8 (uC s.data.toList) w):=by
 have hpu:=Y7 env s hs;have hfm:=fun v(hv:aW w v)u hu=>fmt10 (env.below hv) u hu
 obtain⟨HPU,HFM⟩:=aN hpu hfm;obtain⟨R,hR⟩:=bq (uC s.data.toList);rw[←hR];have HR:=ae hR;clear hpu hfm env hR hs;go_enter Tryz.func243,Tryz.ntmps243;go_wp2_with fail
 go_at_call 240;refine HPU.out.mono ?_;rintro e w1⟨⟨n,hn,rfl⟩|⟨hn,n,tp,p,ab1,rfl⟩,hb⟩
 ·have hlt:=nB hn;have hres:R=if cM n=s.data.toList then some n else none:=by
   rw[HR.out];unfold uC;rw[hn];rfl
  have hss:((⟨(cM n).toArray⟩:ByteArray).toList==s.toList)=decide (cM n=s.data.toList):=by
   rw[cC,cC];by_cases e:cM n=s.data.toList
   ·rw[decide_eq_true e];simp[e]
   ·rw[decide_eq_false e,beq_eq_false_iff_ne];exact e
  obtain⟨HF,vE⟩:=aN (HFM.out w1 hb n hlt) hres;obtain⟨D,hD⟩:=bq (decide (cM n=s.data.toList));rw[←hD]at hss;have HD:=ae hD;have i1:IntKind.u16.wrap (n:Int)=(n:Int):=by rw[IntKind.wrap_u16];omega
  generalize(⟨(cM n).toArray⟩:ByteArray)=TT at hss HF;have Hb:=ae hb;clear hn hres hD hb HR HPU HFM;go_wp2_with(go_at_call 184;refine HF.out.mono ?_;rintro r w2⟨rfl,d2⟩)
  go_ret2;refine⟨⟨n,hlt,?_,fun x hx=>?_⟩,after Hb.out d2⟩
  ·rw[vE.out,HD.out];by_cases e:cM n=s.data.toList
   ·rw[if_pos e,decide_eq_true e];rfl
   ·rw[if_neg e,decide_eq_false e];rfl
  ·rw[vE.out]at hx;split at hx
   ·injection hx
   ·cases hx
 ·have hres:R=none:=by
   rw[HR.out];unfold uC;rw[hn];rfl
  obtain⟨vE,Hb⟩:=aN hres hb;obtain⟨M,hM⟩:∃M:Nat,IntKind.u16.wrap (n:Int)=(M:Int)∧M<65536:=⟨n%65536,by rw[IntKind.wrap_u16];omega,by omega⟩;have i1:=hM.1;clear hn hres hb HR HPU HFM;go_wp2_with fail
  go_ret2;refine⟨⟨M,hM.2,?_,fun x hx=>?_⟩,Hb.out⟩
  ·rw[vE.out];rfl
  ·rw[vE.out]at hx;cases hx
def TG(o:Option (Nat×Nat))(w:World)(r:Ending)(w':World):Prop:=(∃a b:Nat,a<65536∧b<65536∧r=.returned (.tuple #[.agg #[.int .u16 a,.int .u16 b],.bool o.isSome])∧∀x,o=some x→x=(a,b))∧aW w w'
theorem MR{w:World}{g:Nat}{a b:Value}(h:aG w g 293 #[a,b]):(loadVar 293 ⟨g,0,none⟩).run ah w=.ok (.agg #[a,b]) w:=by
 have h0:=h.cell 0;have h1:=h.cell 1;simp at h0 h1;simp[loadVar,go_sem,h0,h1]
theorem Aj(o1 o2:Option Nat)(n1 n2:Nat)(R:Option (Nat×Nat))(hR:R=match o1,o2 with
 |some a,some b=>if a≤b then some (a,b)else none
 |_,_=>none) (h1:∀x,o1=some x→n1=x) (h2:∀x,o2=some x→n2=x):R.isSome=(o1.isSome&&o2.isSome&&decide (n1≤n2))∧∀x,R=some x→x=(n1,n2):=by
 subst hR;cases o1 with
 |none=>exact⟨rfl,fun x hx=>by cases hx⟩
 |some a=>
  cases o2 with
  |none=>exact⟨rfl,fun x hx=>by cases hx⟩
  |some b=>
   obtain rfl:=h1 _ rfl;obtain rfl:=h2 _ rfl;by_cases h:n1≤n2
   ·simp[h]
   ·simp[h]
theorem Ak{w:World}(env:Env w)(s:ByteArray)(hs:s.size≤2000000):Calls ah 220 #[.string s] w (TG (mr s) w):=by
 have hB0:=aG.new w 293 #[.int .u16 0,.int .u16 0];have hb0:=boxed w (.cells #[.int .u16 0,.int .u16 0] 293);obtain⟨mx,hmx⟩:=(env.below hb0).mx;have hcut:=Tryz.strings_Cut s ⟨#[45]⟩ mx _ aQ hmx;have hcl:=vW s.data.toList [45];rw[show(⟨#[45]⟩:ByteArray).data.toList=[45]from rfl]at hcut;obtain⟨RES,eO⟩:=bq (mr s);rw[←eO];unfold mr at eO;simp only at eO;generalize Lib.cut s.data.toList [45]=C at hcl hcut eO;obtain⟨c1,c2,gap⟩:=C;simp only at hcl hcut eO;rw[show s.data.toList.length=s.size from(Lib.size_eq s).symm]at hcl;have hp1:=fun v(hv:aW w v)=>Fj (env.below hv) ⟨c1.toArray⟩ (by rw[show(⟨c1.toArray⟩:ByteArray).size=c1.length by simp[ahI]];omega)
 have hp2:=fun v(hv:aW w v)=>Fj (env.below hv) ⟨(if gap=true then c2 else c1).toArray⟩ (by rw[show(⟨(if gap=true then c2 else c1).toArray⟩:ByteArray).size=(if gap=true then c2 else c1).length by simp[ahI]];split<;>omega)
 rw[show(⟨c1.toArray⟩:ByteArray).data.toList=c1 from rfl]at hp1;rw[show(⟨(if gap=true then c2 else c1).toArray⟩:ByteArray).data.toList=(if gap=true then c2 else c1)from rfl]at hp2;obtain⟨mI,jO,Hb0,HB0,zu⟩:=ej hp1 eO hb0 hB0 hcut;clear hp1 eO hcut hcl hmx env hb0 hB0;obtain⟨X,hX⟩:=bq ((if gap=true then c2 else c1));rw[←hX]at hp2 jO;have HP2:=ae hp2;clear hp2;go_enter Tryz.func220,Tryz.ntmps220;go_upto_region 2 with(go_at_call 238;refine zu.out.mono ?_;rintro r wq⟨rfl,nq,rfl⟩)
 obtain⟨w1,hw1⟩:=bq (((w.alloc (.cells #[.int .u16 0,.int .u16 0] 293)).drewN nq));have Hb1:ag (aW w w1):=by subst hw1;exact ae ⟨Hb0.out.os,Hb0.out.tape,Hb0.out.output,Hb0.out.size,Hb0.out.block⟩
 have HB1:ag (aG w1 w.heap.size 293 #[.int .u16 0,.int .u16 0]):=by subst hw1;exact HB0
 rw[←hw1];clear hw1 Hb0 HB0 zu;cases gap with
 |true=>
  simp only[if_true]at hX;subst hX;go_upto_region 4 with fail
  go_upto_region 5 with(go_at_call 243;refine(mI.out _ Hb1.out).mono ?_;rintro r w2⟨⟨n1,hn1,rfl,hx1⟩,d2⟩)
  have Hb2:=aZ Hb1 d2;have HB2:=ae (HB1.out.below d2 HB1.out.lt);clear d2 Hb1 HB1 mI;have Hx1:=ae hx1;clear hx1;go_upto_region 6 with(go_at_call 243;refine(HP2.out _ Hb2.out).mono ?_;rintro r w3⟨⟨n2,hn2,rfl,hx2⟩,d3⟩)
  have Hb3:=aZ Hb2 d3;obtain⟨HB3,Hx2⟩:=aN (HB2.out.below d3 HB2.out.lt) hx2;clear d3 Hb2 HB2 HP2 hx2;have b0:=HB3.out.cell 0;have b1:=HB3.out.cell 1;have z0:=HB3.out.frozen 0;have z1:=HB3.out.frozen 1;simp at b0 b1 z0 z1;go_wp2_with fail
  all_goals
   obtain⟨e1,e2⟩:=Aj _ _ n1 n2 RES jO.out Hx1.out Hx2.out;have s0:aG (w3.setCell ⟨w.heap.size,0,none⟩ (.int .u16 n1)) w.heap.size 293 #[.int .u16 n1,.int .u16 0]:=HB3.out.aL 0 _;have s1:aG ((w3.setCell ⟨w.heap.size,0,none⟩ (.int .u16 n1)).setCell ⟨w.heap.size,1,none⟩ (.int .u16 n2)) w.heap.size 293 #[.int .u16 n1,.int .u16 n2]:=s0.aL 1 _;have q:=(Hb3.out.setCell (p:=⟨w.heap.size,0,none⟩) (aA _) (.int .u16 n1)).setCell (p:=⟨w.heap.size,1,none⟩) (aA _) (.int .u16 n2);refine bodyPost_ret (bD rfl rfl rfl (MR s1)) rfl ⟨⟨n1,n2,hn1,hn2,?_,e2⟩,q⟩;rw[e1];simp[*]
 |false=>
  simp only[Bool.false_eq_true,if_false]at hX;subst hX;go_upto_region 4 with fail
  go_upto_region 5 with(go_at_call 243;refine(mI.out _ Hb1.out).mono ?_;rintro r w2⟨⟨n1,hn1,rfl,hx1⟩,d2⟩)
  have Hb2:=aZ Hb1 d2;have HB2:=ae (HB1.out.below d2 HB1.out.lt);clear d2 Hb1 HB1 mI;have Hx1:=ae hx1;clear hx1;go_upto_region 6 with(go_at_call 243;refine(HP2.out _ Hb2.out).mono ?_;rintro r w3⟨⟨n2,hn2,rfl,hx2⟩,d3⟩)
  have Hb3:=aZ Hb2 d3;obtain⟨HB3,Hx2⟩:=aN (HB2.out.below d3 HB2.out.lt) hx2;clear d3 Hb2 HB2 HP2 hx2;have b0:=HB3.out.cell 0;have b1:=HB3.out.cell 1;have z0:=HB3.out.frozen 0;have z1:=HB3.out.frozen 1;simp at b0 b1 z0 z1;go_wp2_with fail
  all_goals
   obtain⟨e1,e2⟩:=Aj _ _ n1 n2 RES jO.out Hx1.out Hx2.out;have s0:aG (w3.setCell ⟨w.heap.size,0,none⟩ (.int .u16 n1)) w.heap.size 293 #[.int .u16 n1,.int .u16 0]:=HB3.out.aL 0 _;have s1:aG ((w3.setCell ⟨w.heap.size,0,none⟩ (.int .u16 n1)).setCell ⟨w.heap.size,1,none⟩ (.int .u16 n2)) w.heap.size 293 #[.int .u16 n1,.int .u16 n2]:=s0.aL 1 _;have q:=(Hb3.out.setCell (p:=⟨w.heap.size,0,none⟩) (aA _) (.int .u16 n1)).setCell (p:=⟨w.heap.size,1,none⟩) (aA _) (.int .u16 n2);refine bodyPost_ret (bD rfl rfl rfl (MR s1)) rfl ⟨⟨n1,n2,hn1,hn2,?_,e2⟩,q⟩;rw[e1];simp[*]
def jP(c:UInt8)(s:ByteArray):List ByteArray:=(dr c s.data.toList).map gJ
theorem rR(c:UInt8)(s:ByteArray):(jP c s).map (·.data.toList)=dr c s.data.toList:=by
 unfold jP;rw[List.map_map];exact List.map_id _
theorem Fo{c:UInt8}{s:ByteArray}:∀t∈jP c s,t.size≤s.size:=by
 intro t ht;obtain⟨x,hx,rfl⟩:=List.mem_map.1 ht;have:=uI hx;rw[show s.data.toList.length=s.size from(Lib.size_eq s).symm]at this;show(x.toArray).size≤s.size;rw[List.size_toArray];exact this
theorem qM(c:UInt8)(s:ByteArray):(jP c s).length≤s.size+1:=by
 unfold jP;rw[ay];have:=qH c s.data.toList;rw[show s.data.toList.length=s.size from(Lib.size_eq s).symm]at this;omega
theorem xE{w:World}(env:Env w)(s:ByteArray)(hs:s.size≤2000000)(c:UInt8):Calls ah 160 #[.string s,.string ⟨#[c]⟩] w fun r w'=>r=.returned (.slice (some ⟨w.heap.size,0,none⟩) (jP c s).length (jP c s).length)∧w'=w.alloc (.cells ((jP c s).map bM).toArray 9):=by
 obtain⟨m,hm⟩:=env.mx;have HS:=Tryz.strings_Split s ⟨#[c]⟩ m w aQ hm (show 1≤1 from aA _);have hsp:=xb s ⟨#[c]⟩ c rfl;have hP:Lib.splitB ⟨#[c]⟩ 0 (Lib.countB s ⟨#[c]⟩) s=jP c s:=by
  unfold jP;rw[←hsp,List.map_map];exact(List.map_id _).symm
 have hcount:Lib.countB s ⟨#[c]⟩+1=(jP c s).length:=by
  have:=Lib.splitB_all (⟨#[c]⟩:ByteArray) (show 1≤1 from aA _) 0 (Lib.countB s ⟨#[c]⟩) s rfl;rw[hP]at this;omega
 rw[hcount,hP]at HS;exact HS.mono fun r w' h=>h
def B5:List SE:=[⟨Bz,.int .u8 1,0⟩,⟨MK,.int .u8 6,1⟩,⟨MN,.int .u8 17,2⟩]
theorem zw{w:World}{m clock:Nat}(h:eW w m B5 clock)(s:ByteArray):(Instr.lookup 318 (.map (some m)) (.string s) false).run ah w=.ok (.int .u8 (gQ s.data.toList:Int)) w:=by
 have hT:=Tryz.underlying318;have hK:=bn;unfold gQ;rw[rG];by_cases e1:s=Bz
 ·subst e1;rw[if_pos rfl];exact fX hT hK h _ (j:=0) (x:=⟨Bz,.int .u8 1,0⟩) (by decide+kernel) rfl
 rw[if_neg e1];by_cases e2:s=MK
 ·subst e2;rw[if_pos rfl];exact fX hT hK h _ (j:=1) (x:=⟨MK,.int .u8 6,1⟩) (by decide+kernel) rfl
 rw[if_neg e2];by_cases e3:s=MN
 ·subst e3;rw[if_pos rfl];exact fX hT hK h _ (j:=2) (x:=⟨MN,.int .u8 17,2⟩) (by decide+kernel) rfl
 rw[if_neg e3];refine mO hT hK h s ?_ (Tryz.zeroValue5 w);unfold at_ B5;simp only[List.findIdx?_cons,List.findIdx?_nil];rw[dB (Ne.symm e1),dB (Ne.symm e2),dB (Ne.symm e3)];rfl
theorem Fp(w0:World):∃w1 w2 w3:World,(Instr.mapUpdate 318 (.map (some w0.heap.size)) (.string ⟨#[105,99,109,112]⟩) (.int .u8 1)).run ah (w0.alloc (.map #[] 0))=.ok () w1∧(Instr.mapUpdate 318 (.map (some w0.heap.size)) (.string ⟨#[116,99,112]⟩) (.int .u8 6)).run ah w1=.ok () w2∧(Instr.mapUpdate 318 (.map (some w0.heap.size)) (.string ⟨#[117,100,112]⟩) (.int .u8 17)).run ah w2=.ok () w3∧eW w3 w0.heap.size B5 3∧aW w0 w3:=by
 have hT:=Tryz.underlying318;have hK:=bn;have h0:eW (w0.alloc (.map #[] 0)) w0.heap.size [] 0:=heap_alloc_new w0 _;obtain⟨w1,e1,_,_,k1,m1⟩:=fl (P:=ah) hT hK h0 ⟨#[105,99,109,112]⟩ (by decide+kernel) (.int .u8 1);obtain⟨w2,e2,_,_,k2,m2⟩:=fl (P:=ah) hT hK m1 ⟨#[116,99,112]⟩ (by decide+kernel) (.int .u8 6);obtain⟨w3,e3,_,_,k3,m3⟩:=fl (P:=ah) hT hK m2 ⟨#[117,100,112]⟩ (by decide+kernel) (.int .u8 17);refine⟨w1,w2,w3,e1,e2,e3,m3,?_⟩;exact(boxed w0 _).trans (Keeps.below ((k1.trans k2).trans k3) (fun k hk=>by rw[hk];exact aA _) (by simp))
def eJ(l:List Nat):List Value:=l.map fun x:Nat=>Value.int .u8 (x:Int)
def gu(o:Option (List Nat))(w:World)(r:Ending)(w':World):Prop:=(match o with
 |none=>r=.returned (.tuple #[au,.bool false])
 |some L=>∃v:Value,r=.returned (.tuple #[v,.bool true])∧w'.ownsRow w.heap.size 5 1 v L.length (eJ L))∧aW w w'
theorem gu.bad{W w':World}{o:Option (List Nat)}(h:o=none)(hb:aW W w'):gu o W (.returned (.tuple #[au,.bool false])) w':=by rw[h];exact⟨rfl,hb⟩
theorem gu.good{W w':World}{o:Option (List Nat)}{L:List Nat}{v:Value}(h:o=some L)(ho:w'.ownsRow W.heap.size 5 1 v L.length (eJ L))(hb:aW W w'):gu o W (.returned (.tuple #[v,.bool true])) w':=by rw[h];exact⟨⟨v,rfl,ho⟩,hb⟩
theorem TI:(ah.info? 5).map (fun i=>(i.zero,i.size,i.bytes))=some (some (.int .u8 0),1,1):=by kernel_rfl
def pB(l:List Nat):Nat:=(l[l.length-1]?).getD 0
theorem Ju{l:List Nat}(h:0<l.length):(eJ l)[l.length-1]? =some (.int .u8 (pB l:Int)):=by
 unfold eJ pB;rw[bS,af aQ];rfl
theorem xF(l:List Nat)(x:Nat):pB (l++[x])=x:=by simp[pB]
theorem oq(l:List Nat)(x:Nat):eJ (l++[x])=eJ l++[.int .u8 x]:=by simp[eJ]
theorem PQ(w:List UInt8):gQ w≤17:=by unfold gQ;split;omega;split;omega;split<;>omega
theorem zx{last:Nat}{acc:List Nat}{t:List UInt8}{r:List (List UInt8)}:(fP last (t::r)).map (acc++·)=if gQ t=0∨gQ t≤last then none else(fP (gQ t) r).map ((acc++[gQ t])++·):=by
 rw[fP];split
 ·rfl
 ·rw[Option.map_map];congr 1;funext x;simp
theorem Jv{w:World}(env:Env w)(s:ByteArray)(hs:s.size≤2000000):Calls ah 218 #[.string s] w (gu (iO s) w):=by
 by_cases hst:s=MJ
 ·subst hst;rw[show iO MJ=some [] by unfold iO;rw[if_pos rfl]];unfold MJ;have hb0:=aM w.heap.size w;clear env hs;go_enter Tryz.func218,Tryz.ntmps218;go_wp2_with fail
  go_ret2;exact gu.good (v:=au) rfl (bg _ _ _ _) hb0
 ·have hss:(s.toList==[97,110,121])=false:=by
   rw[beq_eq_false_iff_ne];intro h;rw[cC]at h;exact hst (ahR (Array.ext' h))
  obtain⟨i0,hi,hz0,hz1,hz2⟩:=info_parts TI;have hmm:= @run_makeMap ah;obtain⟨w1,w2,w3,e1,e2,e3,hM,hbm⟩:=Fp w;have hsp:=xE (env.below hbm) s hs 44;obtain⟨RES,eO⟩:=bq (iO s);rw[←eO];unfold iO at eO;rw[if_neg hst,←rR]at eO;have O6:=qM 44 s;generalize jP 44 s=F at hsp eO O6;obtain⟨N,hN⟩:=bq F.length;rw[←hN]at hsp O6;have hN1:N≤2000001:=by omega
  have HSp:=ae hsp;have jO:ag (RES=(fP (pB []) ((F.map (·.data.toList)).drop 0)).map (([]:List Nat)++·)):=ae (by rw[eO];simp[pB]);obtain⟨HN,HM,Hbm⟩:=bu hN hM hbm;have hsz3:w.heap.size<w3.heap.size:=hM.lt;clear hsp eO hM hbm hN hst env O6;go_enter Tryz.func218,Tryz.ntmps218;go_wp2_with(go_at_call 160;refine HSp.out.mono ?_;rintro r wq⟨rfl,rfl⟩)
  have hrow:aG (w3.alloc (.cells (F.map bM).toArray 9)) w3.heap.size 9 (F.map bM).toArray:=aG.new _ _ _;have hb1:=boxed w3 (.cells (F.map bM).toArray 9);have Hb0:=aZ Hbm hb1;obtain⟨HM0,zo⟩:=aN (HM.out.below hb1 HM.out.lt) hrow;have hsz0:w3.heap.size<(w3.alloc (.cells (F.map bM).toArray 9)).heap.size:=by simp
  clear e1 e2 e3 hmm hb1 hrow HSp Hbm HM;generalize w3.alloc (.cells (F.map bM).toArray 9)=W0 at Hb0 HM0 zo hsz0⊢;generalize w3.heap.size=gR at zo hsz0 hsz3⊢;have hmW:w.heap.size<W0.heap.size:=by omega
  go_loopw [2,15] (fun v2 v15 wr=>∃(k:Nat)(acc:List Nat)(A:Option Addr)(cap:Nat),k≤N∧v15=.int .i64 k∧v2=.slice A acc.length cap∧acc.length≤k∧ag (wr.ownsRow W0.heap.size 5 1 (.slice A acc.length cap) acc.length (eJ acc))∧ag (aW W0 wr)∧ag (RES=(fP (pB acc) ((F.map (·.data.toList)).drop k)).map (acc++·))) (fun _ v15 _=>N-(intOf v15).toNat)
  case atStart=>exact⟨0,[],none,0,Nat.zero_le _,rfl,rfl,by simp,ae (bg _ _ _ _),ae (aM _ _),jO⟩
  case round=>
   obtain⟨k,acc,A,cap,hk,rfl,rfl,hak,hown,hb,hres⟩:=hrel;by_cases hlt:k<N
   ·have I7:k<F.length:=by have:=HN.out;omega
    have cx:=(hb.out.cell (p:=⟨gR,k,none⟩) hsz0).trans (zo.out.cell k);rw[List.getElem?_toArray,bS,af I7]at cx;simp only[Option.map_some]at cx;have hres2:=hres.out;rw[←List.map_drop,bR I7,List.map_cons,zx,List.map_drop]at hres2;generalize F[k]'I7=T at cx hres2;have hlk:=zw (HM0.out.below hb.out hmW) T;have agd:=PQ T.data.toList;generalize gQ T.data.toList=x at hres2 hlk agd;have ff:=ae hres2;clear hres2 hres I7;by_cases hx0:x=0
    ·subst hx0;have hR:=ff.out;rw[if_pos (Or.inl rfl)]at hR;have HR:=ae hR;clear hR ff;go_wp2_with fail
     go_ret2;exact gu.bad HR.out (after Hb0.out hb.out)
    have q0:((x:Int)==0)=false:=by simp;omega
    by_cases hac:acc.length=0
    ·obtain rfl:=List.eq_nil_of_length_eq_zero hac;have hR:=ff.out;rw[if_neg (by simp[pB];omega)]at hR;have HRn:ag (RES=(fP (pB ([]++[x])) ((F.map (·.data.toList)).drop (k+1))).map (([]++[x])++·)):=ae (by rw[xF];exact hR);clear hR ff hx0;go_wp2_with(at_builtin;refine wpList_append_own _ rfl _ _ 67 rfl W0.heap.size 5 i0 (.int .u8 0) 1 1 cR hi hz0 hz1 hz2 rfl aH _ 0 _ rfl (hown.out.alloc _) ⟨wr.heap.size,0,none⟩ 1 1 [.int .u8 x] rfl rfl (cell_one_new _ _ _) (fun x hx=>by simp at hx;subst hx;rfl) (by unfold maxLen;omega) aQ (by have:=hb.out.size;simp;omega) ?_;intro v' w3 hown' hgrow3 hnil3;have SU:=ae hown';have hbW:=ae ((hb.out.alloc (hb.out.size) _).grown hgrow3 (by have:=hb.out.size;simp;omega) (fun q hq=>(hown.out.lt q hq).1));clear hown' hgrow3 hnil3)
     obtain⟨A',cap',rfl⟩:=aV SU.out;go_roundw
     case rel=>exact⟨k+1,[]++[x],A',cap',by omega,by go_num,by rw[ai];rfl,by rw[ai,dn];simp,ae (by rw[oq,ai];exact SU.out),hbW,HRn⟩
     case measure=>simp[intOf];omega
    ·have hpos:0<acc.length:=by omega
     have hl:=Ju hpos;rcases hown.out.2 with⟨e,_⟩|⟨g,cap2,cur,e,hrest⟩
     ·injection e with e1 e2 e3
      exact absurd e2 hac
     injection e with e1 e2 e3
     subst e1;have c2:=(hown.out.cellAt (acc.length-1) aQ).trans hl;generalize hM:acc.length=M at hac hpos c2 hown hak⊢;have j1:IntKind.i64.wrap ((M:Int)-1)=((M-1:Nat):Int):=by rw[IntKind.wrap_i64];omega
     have j2:(0:Int)<(M:Int):=by omega
     generalize hLN:pB acc=LN at c2 hl ff;have TJ:=ae hM;clear hM hl hrest cur hx0;by_cases hge:x≤LN
     ·have hR:=ff.out;rw[if_pos (Or.inr hge)]at hR;have HR:=ae hR;have j3:(x:Int)≤(LN:Int):=by omega
      clear hR ff hge;go_wp2_with fail
      go_ret2;exact gu.bad HR.out (after Hb0.out hb.out)
     ·have hR:=ff.out;rw[if_neg aQ]at hR;have HRn:ag (RES=(fP (pB (acc++[x])) ((F.map (·.data.toList)).drop (k+1))).map ((acc++[x])++·)):=ae (by rw[xF];exact hR);have j3:¬(x:Int)≤(LN:Int):=by omega
      clear hR ff hge;go_wp2_with(at_builtin;refine wpList_append_own _ rfl _ _ 67 rfl W0.heap.size 5 i0 (.int .u8 0) 1 1 cR hi hz0 hz1 hz2 rfl aH _ M _ rfl (hown.out.alloc _) ⟨wr.heap.size,0,none⟩ 1 1 [.int .u8 x] rfl rfl (cell_one_new _ _ _) (fun x hx=>by simp at hx;subst hx;rfl) (by unfold maxLen;omega) aQ (by have:=hb.out.size;simp;omega) ?_;intro v' w3 hown' hgrow3 hnil3;have SU:=ae hown';have hbW:=ae ((hb.out.alloc (hb.out.size) _).grown hgrow3 (by have:=hb.out.size;simp;omega) (fun q hq=>(hown.out.lt q hq).1));clear hown' hgrow3 hnil3)
      obtain⟨A',cap',rfl⟩:=aV SU.out;go_roundw
      case rel=>exact⟨k+1,acc++[x],A',cap',by omega,by go_num,by rw[ai,TJ.out];rfl,by rw[ai,dn,TJ.out];omega,ae (by rw[oq,ai,TJ.out];exact SU.out),hbW,HRn⟩
      case measure=>simp[intOf];omega
   ·obtain rfl:k=N:=by omega
    have hR:=hres.out;rw[og (by rw[ay];have:=HN.out;omega),fP]at hR;have HR:=ae hR;clear hR hres;go_wp2_with fail
    go_ret2;exact gu.good (L:=acc) (by rw[HR.out];simp) (hown.out.mono Hb0.out.size) (after Hb0.out hb.out)
def Off(S:Nat→Prop)(w:World)(T:List TypeId):Prop:=∀k,S k→∃cur e fz,w.heap[k]? =some (.cells cur e fz)∧e∈T
theorem bj{S:Nat→Prop}{w w':World}{T:List TypeId}{base size n:Nat}{e:TypeId}{v:Value}{xs:List Value}(h:w.ownsRow base e size v n xs)(hk:Keeps S w w')(ho:Off S w T)(he:e∉T):w'.ownsRow base e size v n xs:=by
 refine kh h hk fun g hg hs=>?_
 rcases h.2 with⟨e1,_⟩|⟨g',cap,cur,e1,hb,hg',rest⟩
 ·subst e1;cases hg
 ·subst e1;injection hg with hg
  subst hg;obtain⟨acd,e2,fz,hh,hT⟩:=ho _ hs;rw[hg']at hh;injection hh with hh
  injection hh with _ h2 _
  exact he (h2▸hT)
theorem aG.off{S:Nat→Prop}{w w':World}{T:List TypeId}{g:Nat}{e:TypeId}{cs:Array Value}(h:aG w g e cs)(hk:Keeps S w w')(ho:Off S w T)(he:e∉T):aG w' g e cs:=by
 refine h.keep hk fun hs=>?_
 obtain⟨acd,e2,fz,hh,hT⟩:=ho _ hs;unfold aG at h;rw[h]at hh;injection hh with hh
 injection hh with _ h2 _
 exact he (h2▸hT)
theorem cE{w:World}{base size n:Nat}{e:TypeId}{v:Value}{xs:List Value}(h:w.ownsRow base e size v n xs):Off (fun k=>v.ownBlock=some k) w [e]:=by
 intro k hk;rcases h.2 with⟨e1,_⟩|⟨g',cap,cur,e1,hb,hg',rest⟩
 ·subst e1;cases hk
 ·subst e1;injection hk with hk
  subst hk;exact⟨cur,e,(0,0),hg',List.mem_singleton.2 rfl⟩
theorem Keeps.row{w w':World}{row:Option Nat}(h:w.grownBy w' row):Keeps (fun k=>row=some k) w w':=Keeps.SD h fun k hk=>hk
theorem Rs.off{S:Nat→Prop}{w w':World}{T:List TypeId}{b P k n:Nat}{lv uv:Value}{ws:List ByteArray}(h:Rs w b P k n lv uv ws)(hk:Keeps S w w')(ho:Off S w T)(h1:210∉T)(h2:222∉T):Rs w' b P k n lv uv ws:=by
 refine⟨aG.off h.blk hk ho h1,?_,h.ne,h.len,h.sizes⟩;obtain⟨base,hb⟩:=h.row;exact⟨base,bj hb hk ho h2⟩
theorem Rs.alloc{w:World}{b P k n:Nat}{lv uv:Value}{ws:List ByteArray}(h:Rs w b P k n lv uv ws)(o:Obj):Rs (w.alloc o) b P k n lv uv ws:=h.below (boxed w o)
theorem Keeps.grown{S:Nat→Prop}{a w w':World}{row:Option Nat}(h:Keeps S a w)(hg:w.grownBy w' row)(hr:∀k,row=some k→S k∨a.heap.size≤k):Keeps S a w':=⟨hg.os.trans h.os,hg.tape.trans h.tape,hg.output.trans h.output,Nat.le_trans h.size hg.size,fun k hk hs=>(hg.block k (Nat.lt_of_lt_of_le hk h.size) (fun e=>by
 rcases hr k e.symm with h|h
 ·exact hs h
 ·omega)).trans (h.block k hk hs)⟩
def strCells(l:List ByteArray):List Value:=l.map bM
theorem mB(l:List ByteArray)(s:ByteArray):strCells (l++[s])=strCells l++[.string s]:=by simp[strCells]
def tG(x:Nm×Value):ByteArray×Value:=(x.1.name,x.2)
def fx(w:World)(base:Nat)(v:Value)(l:List Nm):Prop:=∃xs:List (Nm×Value),xs.map (·.1)=l∧w.ownsRow base 280 2 v l.length (ip (xs.map tG))∧∀x∈xs,w.ownsRow base 9 1 x.2 x.1.list.length (strCells x.1.list)
theorem fx.nil(w:World)(base:Nat):fx w base au []:=⟨[],rfl,bg _ _ _ _,fun x hx=>by cases hx⟩
theorem B8(l:List (ByteArray×Value))(x:ByteArray×Value):ip (l++[x])=ip l++[.string x.1,x.2]:=by simp[ip]
theorem fx.keep{S:Nat→Prop}{w w':World}{T:List TypeId}{base:Nat}{v:Value}{l:List Nm}(h:fx w base v l)(hk:Keeps S w w')(ho:Off S w T)(he:9∉T)(hv:∀g,v.ownBlock=some g→¬S g):fx w' base v l:=by
 obtain⟨xs,h1,h2,h3⟩:=h;exact⟨xs,h1,kh h2 hk hv,fun x hx=>bj (h3 x hx) hk ho he⟩
theorem fx.below{w w':World}{base:Nat}{v:Value}{l:List Nm}(h:fx w base v l)(hb:aW w w'):fx w' base v l:=by
 obtain⟨xs,h1,h2,h3⟩:=h;exact⟨xs,h1,own_below h2 hb,fun x hx=>own_below (h3 x hx) hb⟩
theorem fx.has{w:World}{base:Nat}{v:Value}{l:List Nm}(h:fx w base v l)(s:ByteArray):∃ys:List (ByteArray×Value),ys.length=l.length∧aY w v ys.length 2 (ip ys)∧(ys.any fun x=>decide (x.1=s))=qZ l s:=by
 obtain⟨xs,rfl,h2,h3⟩:=h;refine⟨xs.map tG,by simp,?_,?_⟩
 ·have:=aY.dh h2;simpa using this
 ·unfold qZ;rw[List.any_map,List.any_map];rfl
theorem fx.shape{w:World}{base:Nat}{v:Value}{l:List Nm}(h:fx w base v l):∃A cap,v=.slice A l.length cap:=by
 obtain⟨xs,rfl,h2,h3⟩:=h;exact aV h2
theorem B9(l:List Hs)(x:Hs):fw (l++[x])=fw l++[.string x.name,.bool x.net.a.v6,.int .u64 (x.net.a.hi:Int),.int .u64 (x.net.a.lo:Int),.int .u8 (x.net.bits:Int)]:=by simp[fw]
def gW(l:List kx):List Value:=l.flatMap fun s=>s.cells.toList
theorem j7(l:List kx)(x:kx):gW (l++[x])=gW l++x.cells.toList:=by simp[gW]
def jb(l:List (Nat×Nat)):List Value:=l.flatMap fun x=>[Value.int .u16 (x.1:Int),.int .u16 (x.2:Int)]
theorem pC(l:List (Nat×Nat))(x:Nat×Nat):jb (l++[x])=jb l++[.int .u16 (x.1:Int),.int .u16 (x.2:Int)]:=by simp[jb]
structure XZ where
 a:Ac
 p:Value
 s:Value
 d:Value
 o:Value
structure qN(w:World)(base:Nat)(x:XZ):Prop where
 p:w.ownsRow base 5 1 x.p x.a.iT.length (eJ x.a.iT)
 s:w.ownsRow base 220 6 x.s x.a.src.length (gW x.a.src)
 d:w.ownsRow base 220 6 x.d x.a.dst.length (gW x.a.dst)
 o:w.ownsRow base 293 2 x.o x.a.jI.length (jb x.a.jI)
def nI(l:List XZ):List Value:=l.flatMap fun x=>[x.p,x.s,x.d,x.o]
theorem rS(l:List XZ)(x:XZ):nI (l++[x])=nI l++[x.p,x.s,x.d,x.o]:=by simp[nI]
def iz(w:World)(base:Nat)(v:Value)(l:List Ac):Prop:=∃xs:List XZ,xs.map (·.a)=l∧w.ownsRow base 288 4 v l.length (nI xs)∧∀x∈xs,qN w base x
theorem iz.nil(w:World)(base:Nat):iz w base au []:=⟨[],rfl,bg _ _ _ _,fun x hx=>by cases hx⟩
theorem qN.keep{S:Nat→Prop}{w w':World}{T:List TypeId}{base:Nat}{x:XZ}(h:qN w base x)(hk:Keeps S w w')(ho:Off S w T)(h1:5∉T)(h2:220∉T)(h3:293∉T):qN w' base x:=⟨bj h.p hk ho h1,bj h.s hk ho h2,bj h.d hk ho h2,bj h.o hk ho h3⟩
theorem iz.keep{S:Nat→Prop}{w w':World}{T:List TypeId}{base:Nat}{v:Value}{l:List Ac}(h:iz w base v l)(hk:Keeps S w w')(ho:Off S w T)(h1:5∉T)(h2:220∉T)(h3:293∉T)(hv:∀g,v.ownBlock=some g→¬S g):iz w' base v l:=by
 obtain⟨xs,e,ha,hb⟩:=h;exact⟨xs,e,kh ha hk hv,fun x hx=>(hb x hx).keep hk ho h1 h2 h3⟩
theorem iz.shape{w:World}{base:Nat}{v:Value}{l:List Ac}(h:iz w base v l):∃A cap,v=.slice A l.length cap:=by
 obtain⟨xs,rfl,h2,h3⟩:=h;exact aV h2
abbrev Us:=kx×Nat×Nat
def gg(l:List (Us×ByteArray)):List Value:=l.flatMap fun x=>x.1.1.cells.toList++[.string x.2,.int .i64 (x.1.2.1:Int),.int .i64 (x.1.2.2:Int)]
theorem rT(l:List (Us×ByteArray))(x:Us×ByteArray):gg (l++[x])=gg l++(x.1.1.cells.toList++[.string x.2,.int .i64 (x.1.2.1:Int),.int .i64 (x.1.2.2:Int)]):=by simp[gg]
def fh(w:World)(base:Nat)(v:Value)(l:List Us):Prop:=∃xs:List (Us×ByteArray),xs.map (·.1)=l∧w.ownsRow base 224 9 v l.length (gg xs)
theorem fh.nil(w:World)(base:Nat):fh w base au []:=⟨[],rfl,bg _ _ _ _⟩
theorem fh.keep{S:Nat→Prop}{w w':World}{base:Nat}{v:Value}{l:List Us}(h:fh w base v l)(hk:Keeps S w w')(hv:∀g,v.ownBlock=some g→¬S g):fh w' base v l:=by
 obtain⟨xs,e,ha⟩:=h;exact⟨xs,e,kh ha hk hv⟩
theorem fh.shape{w:World}{base:Nat}{v:Value}{l:List Us}(h:fh w base v l):∃A cap,v=.slice A l.length cap:=by
 obtain⟨xs,rfl,h2⟩:=h;exact aV h2
theorem aY.Y9{w:World}{base size n m:Nat}{e:TypeId}{v:Value}{xs:List Value}(h:w.ownsRow base e size v n xs)(hm:m=n):aY w v m size xs:=by subst hm;exact aY.dh h
theorem Za:(ah.info? 280).map (fun i=>(i.zero,i.size,i.bytes))=some (some (.agg #[aI,au]),2,40):=by kernel_rfl
theorem Zb:(ah.info? 282).map (fun i=>(i.zero,i.size,i.bytes))=some (some (.agg #[aI,.bool false,.int .u64 0,.int .u64 0,.int .u8 0]),5,48):=by kernel_rfl
theorem TK:(ah.info? 220).map (fun i=>(i.zero,i.size,i.bytes))=some (some (.agg #[.int .u8 0,aI,.bool false,.int .u64 0,.int .u64 0,.int .u8 0]),6,56):=by kernel_rfl
theorem Zc:(ah.info? 293).map (fun i=>(i.zero,i.size,i.bytes))=some (some (.agg #[.int .u16 0,.int .u16 0]),2,4):=by kernel_rfl
theorem Zd:(ah.info? 288).map (fun i=>(i.zero,i.size,i.bytes))=some (some (.agg #[au,au,au,au]),4,96):=by kernel_rfl
theorem Ze:(ah.info? 224).map (fun i=>(i.zero,i.size,i.bytes))=some (some (.agg #[.int .u8 0,aI,.bool false,.int .u64 0,.int .u64 0,.int .u8 0,aI,.int .i64 0,.int .i64 0]),9,88):=by kernel_rfl
def fi{α:Type}(o:Except Bad α)(n:Nat)(ok:α→Ending→Prop)(r:Ending):Prop:=match o with
 | .error e=>r=aT e.1 n e.2
 | .ok x=>ok x r
theorem fi.bad{α:Type}{o:Except Bad α}{n e i:Nat}{ok:α→Ending→Prop}(h:o=.error (e,i)):fi o n ok (aT e n i):=by subst h;rfl
theorem fi.good{α:Type}{o:Except Bad α}{n:Nat}{ok:α→Ending→Prop}{r:Ending}{x:α}(h:o=.ok x)(hr:ok x r):fi o n ok r:=by subst h;exact hr
def eT{α:Type}(S0 S:Nat→Prop)(w w':World)(o:Except Bad α)(n:Nat)(ok:α→Ending→Prop)(r:Ending):Prop:=match o with
 | .error e=>Keeps S0 w w'∧r=aT e.1 n e.2
 | .ok x=>Keeps S w w'∧ok x r
theorem eT.bad{α:Type}{S0 S:Nat→Prop}{w w':World}{o:Except Bad α}{n e i:Nat}{ok:α→Ending→Prop}(hk:Keeps S0 w w')(h:o=.error (e,i)):eT S0 S w w' o n ok (aT e n i):=by subst h;exact⟨hk,rfl⟩
theorem eT.good{α:Type}{S0 S:Nat→Prop}{w w':World}{o:Except Bad α}{n:Nat}{ok:α→Ending→Prop}{r:Ending}{x:α}(h:o=.ok x)(hk:Keeps S w w')(hr:ok x r):eT S0 S w w' o n ok r:=by subst h;exact⟨hk,hr⟩
theorem eT.line{α:Type}{S0 S:Nat→Prop}{w w':World}{o:Except Bad α}{n:Nat}{ok:α→Ending→Prop}{r:Ending}(h:eT S0 S w w' o n ok r)(h0:∀k,S0 k→S k):Keeps S w w'∧fi o n ok r:=by
 cases o with
 |error e=>exact⟨h.1.mono fun k _=>h0 k,h.2⟩
 |ok x=>exact h
theorem eT.err{α:Type}{S0 S:Nat→Prop}{w w':World}{o:Except Bad α}{n:Nat}{ok:α→Ending→Prop}{r:Ending}(h:eT S0 S w w' o n ok r)(e:Bad)(he:o=.error e):Keeps S0 w w':=by
 subst he;exact h.1
def namesT(nm:ByteArray)(ws:List ByteArray)(k:Nat)(acc:List ByteArray)(first:Bool):Except Bad Nm:=if first=true∧ws.length≤k then .error (190,ws.length)else(jY (ws.drop k) k acc.length).map fun l=>⟨nm,acc++l⟩
theorem uO{nm s:ByteArray}{ws:List ByteArray}{k:Nat}{acc:List ByteArray}{first:Bool}(h:ws[k]? =some s):namesT nm ws k acc first=if cO s=false then .error (191,k)else if 64≤acc.length then .error (198,k)else namesT nm ws (k+1) (acc++[s]) false:=by
 have hk:k<ws.length:=(List.getElem?_eq_some_iff.1 h).1;have hg:ws[k]=s:=(List.getElem?_eq_some_iff.1 h).2;unfold namesT;rw[if_neg (show¬(first=true∧ws.length≤k) by omega),if_neg (show¬(false=true∧ws.length≤k+1) by simp),bR hk,hg]
 conv=>lhs;unfold jY
 by_cases h1:cO s=false
 ·rw[if_pos h1,if_pos h1];rfl
 rw[if_neg h1,if_neg h1];by_cases h2:64≤acc.length
 ·rw[if_pos h2,if_pos h2];rfl
 rw[if_neg h2,if_neg h2,ai,dn];cases jY (List.drop (k+1) ws) (k+1) (acc.length+1)with
 |error e=>rfl
 |ok l=>simp[Except.map]
theorem Jw{nm:ByteArray}{ws:List ByteArray}{k:Nat}{acc:List ByteArray}(h:ws.length≤k):namesT nm ws k acc false=.ok ⟨nm,acc⟩:=by
 unfold namesT;rw[if_neg (by simp),og h];simp[jY,Except.map]
theorem Fq{nm:ByteArray}{ws:List ByteArray}{k:Nat}{acc:List ByteArray}(h:ws.length≤k):namesT nm ws k acc true=.error (190,ws.length):=by
 unfold namesT;rw[if_pos ⟨rfl,h⟩]
theorem PR{ws:List ByteArray}{told:List Nm}(hne:ws≠[]):mq ws told=if 64≤told.length then .error (198,0)else match ws[1]? with
 |none=>.error (190,ws.length)
 |some nm=>if cO nm=false then .error (191,1)else if qZ told nm=true then .error (197,1)else match ws[2]? with
  |none=>.error (190,ws.length)
  |some e=>if e≠EP then .error (190,2)else namesT nm ws 3 [] true:=by
 unfold mq;by_cases h:64≤told.length
 ·rw[if_pos h,if_pos h]
 rw[if_neg h,if_neg h]
 match ws with
 |[]=>exact absurd rfl hne
 |[a]=>rfl
 |[a,nm]=>rfl
 |a::nm::e::r=>
  simp only[List.getElem?_cons_succ,List.getElem?_cons_zero];unfold namesT;cases r with
  |nil=>simp
  |cons s r=>simp
def xG(w:World)(b:Nat):Nat:=match w.cell? ⟨b,1,none⟩with
 |some (.int _ i)=>i.toNat
 |_=>0
theorem Rs.next{w:World}{b P k n:Nat}{lv uv:Value}{ws:List ByteArray}(h:Rs w b P k n lv uv ws):xG w b=k:=by
 have r1:=h.blk.cell 1;simp at r1;unfold xG;rw[r1];rfl
def Zf(w:World)(b P n base q:Nat)(lv uv lst:Value)(ws:List ByteArray)(told:List Nm)(pc:Array Value)(w':World)(x:Nm)(r:Ending):Prop:=r=.returned (.tuple #[])∧∃k' lst',Rs w' b P k' n lv uv ws∧aG w' P 169 (pc.setIfInBounds q lst')∧fx w' base lst' (told++[x])∧∀g,lst'.ownBlock=some g→lst.ownBlock=some g∨w.heap.size≤g
theorem Am{w:World}{b P n base q:Nat}{lv uv lst:Value}{ws:List ByteArray}{told:List Nm}{pc:Array Value}(h:Rs w b P 1 n lv uv ws)(hP:aG w P 169 pc)(hq:pc[q]? =some lst)(hN:fx w base lst told)(hbs:base≤w.heap.size):Calls ah 189 #[.pointer (some ⟨b,0,none⟩),.pointer (some ⟨P,q,none⟩)] w fun r w'=>eT (fun k=>k=b) (fun k=>k=b∨k=P∨lst.ownBlock=some k) w w' (mq ws told) n (Zf w b P n base q lv uv lst ws told pc w') r:=by
 obtain⟨A,cap,rfl⟩:=hN.shape;obtain⟨T,hT⟩:=bq told.length;rw[←hT]at hq hN⊢;have hPb:P≠b:=hP.vP h.blk aH;have c0:=(hP.cell q).trans hq;have hlen1:1≤ws.length:=by
  have:=h.ne;cases ws with
  |nil=>exact absurd rfl this
  |cons x r=>simp
 have hroom:=h.room aQ aQ T;rw[show Ig 1 ws=0 by unfold Ig;rw[if_pos hlen1]]at hroom;obtain⟨RES,eO⟩:=bq (mq ws told);rw[←eO];rw[PR h.ne,←hT]at eO;obtain⟨kJ,H,HP,HN,jO,HT,Hb0⟩:=mM hroom h hP hN eO hT (Keeps.refl (fun k=>k=b∨k=P∨(dq A T cap).ownBlock=some k) w);clear hroom h hP hN eO hT;go_enter Tryz.func189,Tryz.ntmps189;go_wp2_with fail
 go_at_call 213;refine kJ.out.mono ?_;rintro r w1⟨h1,d1⟩;by_cases Ft:T<64
 case neg=>
  rw[decide_eq_false Ft]at h1;unfold fH at h1;subst h1;unfold aT;exact⟨rfl,eT.bad (Keeps.of_below d1 fun k hk _=>hk) (by rw[jO.out,if_pos aQ])⟩
 rw[decide_eq_true Ft]at h1;unfold fH at h1;subst h1;obtain⟨H1,mI,jq,qO⟩:=cY (H.out.below d1) (HP.out.below d1 HP.out.lt) (HN.out.below d1) (Keeps.of_below (S:=fun x=>x=b) d1 fun k hk _=>hk);have hR1:=jO.out;rw[if_neg aQ]at hR1;have HR1:=ae hR1;clear hR1 jO kJ d1 H HP c0;have hname:=H1.out.name aQ;unfold rL at hname;have pD:=ae hname;clear hname;go_wp2_with fail
 go_at_call 214;refine pD.out.mono ?_;rintro r w2⟨⟨d2,e2⟩,h2⟩;have lN:=ae (qO.out.trans d2);cases hs1:ws[1]? with
 |none=>
  rw[hs1]at h2;simp only at h2;subst h2;unfold aT;have hR:=HR1.out;rw[hs1]at hR;exact⟨rfl,eT.bad (lN.out) hR⟩
 |some nm=>
 rw[hs1]at h2;simp only at h2;have hR2:=HR1.out;rw[hs1]at hR2;simp only at hR2;by_cases hlab:cO nm=true
 case neg=>
  have hlf:cO nm=false:=by simpa using hlab
  rw[if_neg hlab]at h2;subst h2;unfold aT;rw[if_pos hlf]at hR2;exact⟨rfl,eT.bad (lN.out) hR2⟩
 rw[if_pos hlab]at h2;subst h2;rw[if_neg (by simp[hlab])]at hR2;obtain⟨HR2,H2,HP2⟩:=bu hR2 e2 (mI.out.keep d2 hPb);have hAb:∀g,(dq A T cap).ownBlock=some g→¬g=b:=by
  intro g hg e;subst e;obtain⟨xs,_,ho,_⟩:=jq.out;rcases ho.2 with⟨e1,_⟩|⟨g',cap',cur,e1,hb,hg',_⟩
  ·rw[e1]at hg;cases hg
  ·rw[e1]at hg;injection hg with hg
   subst hg;exact(aG.vP (t:=280) (cs:=cur) (show aG w1 g' _ cur from hg') H1.out.blk aH) rfl
 have kq:=ae (jq.out.keep d2 (T:=[210]) (fun k hk=>⟨_,_,_,by subst hk;exact H1.out.blk,by simp⟩) aH hAb);clear hR2 HR1 pD jq mI H1 qO e2 d2 hlab;go_wp2_with fail
 have hB3:=ae (aG.new w2 280 #[.string nm,au]);have hb3:=boxed w2 (.cells #[.string nm,au] 280);obtain⟨H3,fU,vF,j8⟩:=cY (H2.out.below hb3) (HP2.out.alloc (.cells #[.string nm,au] 280)) (kq.out.below hb3) (lN.out.alloc (.cells #[.string nm,au] 280));have hsz3:w2.heap.size<(w2.alloc (.cells #[.string nm,au] 280)).heap.size:=by simp
 have ace:w.heap.size≤w2.heap.size:=lN.out.size;clear H2 HP2 kq lN hb3;generalize w2.alloc (.cells #[.string nm,au] 280)=w3 at hB3 H3 fU vF j8 hsz3⊢;generalize w2.heap.size=N at hB3 hsz3 ace⊢;have hNb:N≠b:=hB3.out.vP H3.out.blk aH;have hNP:N≠P:=hB3.out.vP fU.out aH;have hAN:∀g,(dq A T cap).ownBlock=some g→g<w.heap.size:=by
  obtain⟨xs,_,ho,_⟩:=HN.out;exact fun g hg=>(ho.lt g hg).2
 obtain⟨ys,hyl,hyr,hya⟩:=vF.out.has nm;have hhas:=fun W(hW:aW w3 W)=>BS ys (by have:=HT.out;omega) _ (hyr.below hW) nm
 rw[hya]at hhas;have x0:=(fU.out.cell q).trans hq;have x1:=hB3.out.cell 0;simp at x1;have hun:=fun W(hW:Rs W b P (1+1) n lv uv ws)(is:Bool)=>hW.unless aQ aQ is 197
 rw[eu (by have:=(List.getElem?_eq_some_iff.1 hs1).1;omega)]at hun;obtain⟨tH,kj,HAN,HAb⟩:=cY (hhas w3.drew ⟨rfl,rfl,rfl,aA _,fun _ _=>rfl⟩) hun hAN hAb;clear hyl hyr hya hhas hun hAN hAb;by_cases hh:qZ told nm=true
 ·rw[hh]at tH;have hR:=HR2.out;rw[if_pos hh]at hR;have HR:=ae hR;have Cb:ag (∀(W:World),Rs W b P (1+1) n lv uv ws→Calls ah 164 #[.pointer (some ⟨b,0,none⟩),.bool false,.int .i64 197] W fun r w'=>r=aT 197 n 1∧aW W w'):=ae fun W hW=>kj.out W hW false
  clear hR hh HR2 kj;refine wp_region_held_drew (S:=(fun w'=>w'.cell? ⟨P,q,none⟩=some (.slice A T cap)∧w'.cell? ⟨N,0,none⟩=some (.string nm))) bo (⟨x0,x1⟩) (fun hHeld=>?_);refine bC 0 ?_
  refine bC 1 ?_
  refine bC 2 ?_
  refine bC 3 ?_
  refine bC 4 ?_
  refine bC 5 ?_
  refine jg 6 fun K hK=>?_;go_simp;refine tH.out.mono ?_;rintro r w4⟨rfl,d4⟩;have e4:aW w3 w4:=⟨d4.os,d4.tape,d4.output,d4.size,d4.block⟩;have y0:=((fU.out.below e4 fU.out.lt).cell q).trans hq;have y1:=(hB3.out.below e4 hB3.out.lt).cell 0;simp at y1;refine hK.out _ _ (⟨y0,y1⟩) (fun hHeld=>?_);clear hK K;try simp only[cN]
  refine bC 7 ?_
  refine jg 8 fun K hK=>?_;go_simp;refine(Cb.out _ (H3.out.below e4)).mono ?_;rintro r w5⟨rfl,d5⟩;unfold aT;exact⟨rfl,eT.bad (((j8.out.trans (Keeps.of_below e4 fun k hk _=>hk)).trans (Keeps.of_below d5 fun k hk _=>hk))) HR.out⟩
 have hhf:qZ told nm=false:=by simpa using hh
 rw[hhf]at tH;have hR:=HR2.out;rw[if_neg hh]at hR;have HR:=ae hR;have Cb:ag (∀(W:World),Rs W b P (1+1) n lv uv ws→Calls ah 164 #[.pointer (some ⟨b,0,none⟩),.bool true,.int .i64 197] W fun r w'=>r=.returned (.tuple #[])∧aW W w'):=ae fun W hW=>kj.out W hW true
 clear hR hh hhf HR2 kj;refine wp_region_held_drew (S:=(fun w'=>w'.cell? ⟨P,q,none⟩=some (.slice A T cap)∧w'.cell? ⟨N,0,none⟩=some (.string nm))) bo (⟨x0,x1⟩) (fun hHeld=>?_);refine bC 0 ?_
 refine bC 1 ?_
 refine bC 2 ?_
 refine bC 3 ?_
 refine bC 4 ?_
 refine bC 5 ?_
 refine jg 6 fun K hK=>?_;go_simp;refine tH.out.mono ?_;rintro r w4⟨rfl,d4⟩;have e4:aW w3 w4:=⟨d4.os,d4.tape,d4.output,d4.size,d4.block⟩;have y0:=((fU.out.below e4 fU.out.lt).cell q).trans hq;have y1:=(hB3.out.below e4 hB3.out.lt).cell 0;simp at y1;refine hK.out _ _ (⟨y0,y1⟩) (fun hHeld=>?_);clear hK K;try simp only[cN]
 refine bC 7 ?_
 refine jg 8 fun K hK=>?_;go_simp;refine(Cb.out _ (H3.out.below e4)).mono ?_;rintro r w5⟨rfl,d5⟩;have e5:=after e4 d5;have z0:=((fU.out.below e5 fU.out.lt).cell q).trans hq;have z1:=(hB3.out.below e5 hB3.out.lt).cell 0;simp at z1;refine hK.out _ _ (⟨z0,z1⟩) (fun hHeld=>?_);clear hK K;try simp only[cN]
 refine qW ?_;obtain⟨H5,Cc,nw,HN5,Ei⟩:=ej (H3.out.below e5) (fU.out.below e5 fU.out.lt) (hB3.out.below e5 hB3.out.lt) (vF.out.below e5) (j8.out.trans (Keeps.of_below e5 fun k hk _=>hk));have hsz5:w3.heap.size≤w5.heap.size:=e5.size;clear H3 fU hB3 vF j8 e4 e5 d5 y0 y1 z0 z1 x0 x1 hHeld tH Cb;have iF:=H5.out.must (by have:=(List.getElem?_eq_some_iff.1 hs1).1;omega) EP;unfold qL at iF;have lV:ag (Calls ah 215 #[.pointer (some ⟨b,0,none⟩),.string ⟨#[61]⟩] w5 _):=ae iF;clear iF;go_wp2_with fail
 go_at_call 215;refine lV.out.mono ?_;rintro r w6⟨⟨d6,e6⟩,h6⟩;have tI:=ae (Ei.out.trans d6);have iP:=HR.out;cases hs2:ws[2]? with
 |none=>
  rw[show 1+1=2 from rfl,hs2]at h6;simp only at h6;subst h6;unfold aT;rw[hs2]at iP;exact⟨rfl,eT.bad (tI.out) iP⟩
 |some eq=>
 rw[show 1+1=2 from rfl,hs2]at h6;rw[hs2]at iP;simp only at h6 iP;by_cases heq:eq=EP
 case neg=>
  rw[if_neg heq]at h6;subst h6;unfold aT;rw[if_pos heq]at iP;exact⟨rfl,eT.bad (tI.out) iP⟩
 rw[if_pos heq]at h6;rw[if_neg (by simp[heq])]at iP;subst h6;have hlen3:3≤ws.length:=by have:=(List.getElem?_eq_some_iff.1 hs2).1;omega
 obtain⟨zv,H6,Zg,kO⟩:=cY iP e6 (Cc.out.keep d6 hPb) (nw.out.keep d6 hNb);have HN6:=ae (HN5.out.keep d6 (T:=[210]) (fun k hk=>⟨_,_,_,by subst hk;exact H5.out.blk,by simp⟩) aH HAb.out);have ahk:w5.heap.size≤w6.heap.size:=d6.size;clear lV iP HR Ei Cc nw HN5 H5 d6 e6 hs1 hs2 heq;obtain⟨i0,hi,hz0,hz1,hz2⟩:=info_parts rJ;have FIN:ag (∀wx,Keeps (fun x=>x=b∨x=N) w6 wx→Keeps (fun k=>k=b) w wx):=ae fun wx h=>((tI.out.mono (T:=fun x=>x=b∨x=N) fun k _ hk=>Or.inl hk).trans h).mono fun k hk hs=>hs.elim id fun e=>absurd hk (by omega)
 go_wp2_with fail
 go_loopw [5] (fun v5 wr=>∃(k:Nat)(acc:List ByteArray)(first:Bool)(v:Value),v5=.bool first∧3≤k∧k≤ws.length∧ag (first=true→acc=[])∧ag (acc.length≤64)∧ag (Rs wr b P k n lv uv ws)∧ag (Keeps (fun x=>x=b∨x=N) w6 wr)∧ag (aG wr N 280 #[.string nm,v])∧ag (wr.ownsRow w6.heap.size 9 1 v acc.length (strCells acc))∧ag (RES=namesT nm ws k acc first)) (fun _ wr=>ws.length+1-xG wr b)
 case atStart=>exact⟨3,[],true,_,rfl,by omega,hlen3,ae fun _=>rfl,ae (by simp),H6,ae (Keeps.refl _ _),kO,ae (bg _ _ _ _),zv⟩
 case round=>
  obtain⟨k,acc,first,v,rfl,hk3,hk,hfa,hacc,hrs,hkp,hbn,hown,hres⟩:=hrel;have zS:=ae hrs.out.next;cases first with
  |true=>
   have RS:=hrs;have KP:=hkp;have BN:=hbn;have OW:=hown;clear hrs hkp hbn hown hfa;have hname:=RS.out.name hk;unfold rL at hname;have pD:=ae hname;clear hname;go_wp2_with fail
   go_at_call 214;refine pD.out.mono ?_;rintro r w8⟨⟨d8,e8⟩,h8⟩;obtain⟨tf,zy⟩:=aN (KP.out.trans (d8.mono fun k _ hk=>Or.inl hk)) (BN.out.keep d8 hNb);have Jx:=ae (bj OW.out d8 (T:=[210]) (fun k hk=>⟨_,_,_,by subst hk;exact RS.out.blk,by simp⟩) aH);clear KP BN OW RS pD d8;cases hsk:ws[k]? with
   |none=>
    have hge:ws.length≤k:=by rw[ah0]at hsk;exact hsk
    rw[hsk]at h8;simp only at h8;subst h8;unfold aT;exact⟨rfl,eT.bad (FIN.out _ tf.out) (by rw[hres.out,Fq hge])⟩
   |some s=>
   have hlt:k<ws.length:=(List.getElem?_eq_some_iff.1 hsk).1;rw[hsk]at h8;simp only at h8;have hst:=hres.out;rw[uO hsk]at hst;by_cases hl:cO s=true
   case neg=>
    rw[if_neg hl]at h8;subst h8;unfold aT;rw[if_pos (by simpa using hl)]at hst;exact⟨rfl,eT.bad (FIN.out _ tf.out) hst⟩
   rw[if_pos hl]at h8;subst h8;rw[if_neg (by simp[hl])]at hst;obtain⟨Zh,ze⟩:=aN hst e8;clear hst hres hsk hl e8;obtain⟨A1,c1,rfl⟩:=aV Jx.out;obtain⟨-,x1⟩:=jL zy;have z1:=zy.out.frozen 1;have hroom:=ze.out.room aQ aQ acc.length;rw[eu hlt]at hroom;have kJ:=ae hroom;have hacc:=hacc.out;obtain⟨L,hL⟩:=bq acc.length;rw[←hL]at x1 hacc kJ zy Jx Zh;have HL:=ae hL;clear hroom hL;go_wp2_with fail
   go_at_call 213;refine kJ.out.mono ?_;rintro r w9⟨h9,d9⟩;by_cases TL:L<64
   case neg=>
    rw[decide_eq_false TL]at h9;unfold fH at h9;subst h9;unfold aT;have hst:=Zh.out;rw[if_pos aQ]at hst;exact⟨rfl,eT.bad (FIN.out _ (tf.out.trans (Keeps.of_below d9 fun k hk _=>hk))) hst⟩
   rw[decide_eq_true TL]at h9;unfold fH at h9;subst h9;have hst:=Zh.out;rw[if_neg aQ]at hst;obtain⟨xH,X6,RS9,TM,Zi⟩:=ej hst (tf.out.trans (Keeps.of_below d9 fun k hk _=>hk)) (ze.out.below d9) (zy.out.below d9 zy.out.lt) (own_below Jx.out d9);clear hst Zh tf ze zy Jx kJ d9 x1 z1;have TN:=X6.out.size;obtain⟨-,x1⟩:=jL TM;have z1:=TM.out.frozen 1;have hNw:=TM.out.lt;clear TN;have TN:=X6.out.size;clear x1 z1;obtain⟨-,x1⟩:=jL TM;go_wp2_with(at_builtin;refine wpList_append_lies _ rfl _ _ 27 rfl w6.heap.size 9 i0 (.string lJ) 1 16 abb hi hz0 hz1 hz2 rfl aH _ L _ rfl (Zi.out.alloc _) ⟨w9.heap.size,0,none⟩ 1 1 [.string s] rfl rfl (cell_one_new _ _ _) (fun x hx=>by simp at hx;subst hx;rfl) aH (by unfold maxLen;omega) aQ (by simp;omega) (w9.heap.size+1) (by simp) ?_;intro g' cap' w10 hown' hgrow hat nJ;have fV:=ae ((TM.out.alloc (.cells #[.string s] 9)).off (Keeps.row hgrow) (cE (Zi.out.alloc (.cells #[.string s] 9))) aH);obtain⟨-,x10⟩:=jL fV;have z10:=fV.out.frozen 1;obtain⟨mC,fY⟩:=aN hown' hgrow;clear hown' hgrow hat nJ)
   have KS:Keeps (fun k=>(dq A1 L c1).ownBlock=some k) (w9.alloc (.cells #[.string s] 9)) w10:=Keeps.row fY.out;have OS:=cE (Zi.out.alloc (.cells #[.string s] 9));have nK:=(RS9.out.alloc (.cells #[.string s] 9)).off KS OS aH aH;have nL:=Keeps.grown (X6.out.alloc (.cells #[.string s] 9)) fY.out fun g hg=>Or.inr (Zi.out.lt g hg).1
   have rU:=nL.setCell (p:=⟨N,1,none⟩) (Or.inl (Or.inr rfl)) (.slice (some ⟨g',0,none⟩) (L+1) cap');have KN:=(Keeps.refl (fun x=>x=N) w10).setCell (p:=⟨N,1,none⟩) (Or.inl rfl) (.slice (some ⟨g',0,none⟩) (L+1) cap');have ON:Off (fun x=>x=N) w10 [280]:=fun k hk=>⟨_,_,_,by subst hk;exact fV.out,by simp⟩
   have qA:=nK.off KN ON aH aH;have Cd:=bj mC.out KN ON aH;have tJ:aG (w10.setCell ⟨N,1,none⟩ (.slice (some ⟨g',0,none⟩) (L+1) cap')) N 280 #[.string nm,.slice (some ⟨g',0,none⟩) (L+1) cap']:=fV.out.aL 1 _;refine⟨⟨k+1,acc++[s],false,_,rfl,by omega,by omega,ae (fun h=>(by cases h)),ae (by rw[ai,←HL.out];simp;omega),ae qA,ae rU,ae tJ,ae (by rw[ai,←HL.out,mB];exact Cd),xH⟩,?_⟩;rw[qA.next,zS.out];omega
  |false=>
   have hmore:=ae hrs.out.more;by_cases hlt0:k<ws.length
   ·rw[decide_eq_true hlt0]at hmore;go_upto_region 7 with(go_at_call 216;refine hmore.out.mono ?_;rintro r w7⟨rfl,d7⟩)
    obtain⟨RS,KP,BN,OW⟩:=cY (hrs.out.below d7) (hkp.out.trans (Keeps.of_below d7 fun k hk _=>hk)) (hbn.out.below d7 hbn.out.lt) (own_below hown.out d7);clear hrs hkp hbn hown hfa hmore d7;have hname:=RS.out.name hk;unfold rL at hname;have pD:=ae hname;clear hname;go_wp2_with fail
    go_at_call 214;refine pD.out.mono ?_;rintro r w8⟨⟨d8,e8⟩,h8⟩;obtain⟨tf,zy⟩:=aN (KP.out.trans (d8.mono fun k _ hk=>Or.inl hk)) (BN.out.keep d8 hNb);have Jx:=ae (bj OW.out d8 (T:=[210]) (fun k hk=>⟨_,_,_,by subst hk;exact RS.out.blk,by simp⟩) aH);clear KP BN OW RS pD d8;cases hsk:ws[k]? with
    |none=>
     have hge:ws.length≤k:=by rw[ah0]at hsk;exact hsk
     rw[hsk]at h8;simp only at h8;subst h8;unfold aT;exact⟨rfl,eT.bad (FIN.out _ tf.out) (absurd hlt0 aQ)⟩
    |some s=>
    have hlt:k<ws.length:=(List.getElem?_eq_some_iff.1 hsk).1;rw[hsk]at h8;simp only at h8;have hst:=hres.out;rw[uO hsk]at hst;by_cases hl:cO s=true
    case neg=>
     rw[if_neg hl]at h8;subst h8;unfold aT;rw[if_pos (by simpa using hl)]at hst;exact⟨rfl,eT.bad (FIN.out _ tf.out) hst⟩
    rw[if_pos hl]at h8;subst h8;rw[if_neg (by simp[hl])]at hst;obtain⟨Zh,ze⟩:=aN hst e8;clear hst hres hsk hl e8;obtain⟨A1,c1,rfl⟩:=aV Jx.out;obtain⟨-,x1⟩:=jL zy;have z1:=zy.out.frozen 1;have hroom:=ze.out.room aQ aQ acc.length;rw[eu hlt]at hroom;have kJ:=ae hroom;have hacc:=hacc.out;obtain⟨L,hL⟩:=bq acc.length;rw[←hL]at x1 hacc kJ zy Jx Zh;have HL:=ae hL;clear hroom hL;go_wp2_with fail
    go_at_call 213;refine kJ.out.mono ?_;rintro r w9⟨h9,d9⟩;by_cases TL:L<64
    case neg=>
     rw[decide_eq_false TL]at h9;unfold fH at h9;subst h9;unfold aT;have hst:=Zh.out;rw[if_pos aQ]at hst;exact⟨rfl,eT.bad (FIN.out _ (tf.out.trans (Keeps.of_below d9 fun k hk _=>hk))) hst⟩
    rw[decide_eq_true TL]at h9;unfold fH at h9;subst h9;have hst:=Zh.out;rw[if_neg aQ]at hst;obtain⟨xH,X6,RS9,TM,Zi⟩:=ej hst (tf.out.trans (Keeps.of_below d9 fun k hk _=>hk)) (ze.out.below d9) (zy.out.below d9 zy.out.lt) (own_below Jx.out d9);clear hst Zh tf ze zy Jx kJ d9 x1 z1;have TN:=X6.out.size;obtain⟨-,x1⟩:=jL TM;have z1:=TM.out.frozen 1;have hNw:=TM.out.lt;clear TN;have TN:=X6.out.size;clear x1 z1;obtain⟨-,x1⟩:=jL TM;go_wp2_with(at_builtin;refine wpList_append_lies _ rfl _ _ 27 rfl w6.heap.size 9 i0 (.string lJ) 1 16 abb hi hz0 hz1 hz2 rfl aH _ L _ rfl (Zi.out.alloc _) ⟨w9.heap.size,0,none⟩ 1 1 [.string s] rfl rfl (cell_one_new _ _ _) (fun x hx=>by simp at hx;subst hx;rfl) aH (by unfold maxLen;omega) aQ (by simp;omega) (w9.heap.size+1) (by simp) ?_;intro g' cap' w10 hown' hgrow hat nJ;have fV:=ae ((TM.out.alloc (.cells #[.string s] 9)).off (Keeps.row hgrow) (cE (Zi.out.alloc (.cells #[.string s] 9))) aH);obtain⟨-,x10⟩:=jL fV;have z10:=fV.out.frozen 1;obtain⟨mC,fY⟩:=aN hown' hgrow;clear hown' hgrow hat nJ)
    have KS:Keeps (fun k=>(dq A1 L c1).ownBlock=some k) (w9.alloc (.cells #[.string s] 9)) w10:=Keeps.row fY.out;have OS:=cE (Zi.out.alloc (.cells #[.string s] 9));have nK:=(RS9.out.alloc (.cells #[.string s] 9)).off KS OS aH aH;have nL:=Keeps.grown (X6.out.alloc (.cells #[.string s] 9)) fY.out fun g hg=>Or.inr (Zi.out.lt g hg).1
    have rU:=nL.setCell (p:=⟨N,1,none⟩) (Or.inl (Or.inr rfl)) (.slice (some ⟨g',0,none⟩) (L+1) cap');have KN:=(Keeps.refl (fun x=>x=N) w10).setCell (p:=⟨N,1,none⟩) (Or.inl rfl) (.slice (some ⟨g',0,none⟩) (L+1) cap');have ON:Off (fun x=>x=N) w10 [280]:=fun k hk=>⟨_,_,_,by subst hk;exact fV.out,by simp⟩
    have qA:=nK.off KN ON aH aH;have Cd:=bj mC.out KN ON aH;have tJ:aG (w10.setCell ⟨N,1,none⟩ (.slice (some ⟨g',0,none⟩) (L+1) cap')) N 280 #[.string nm,.slice (some ⟨g',0,none⟩) (L+1) cap']:=fV.out.aL 1 _;refine⟨⟨k+1,acc++[s],false,_,rfl,by omega,by omega,ae (fun h=>(by cases h)),ae (by rw[ai,←HL.out];simp;omega),ae qA,ae rU,ae tJ,ae (by rw[ai,←HL.out,mB];exact Cd),xH⟩,?_⟩;rw[qA.next,zS.out];omega
   ·rw[decide_eq_false hlt0]at hmore;go_upto_region 10 with(go_at_call 216;refine hmore.out.mono ?_;rintro r w7⟨rfl,d7⟩)
    have H7:=ae (hrs.out.below d7);have X7:=hkp.out.trans (Keeps.of_below d7 fun k hk _=>hk);obtain⟨Ej,B7,OW7⟩:=bu X7 (hbn.out.below d7 hbn.out.lt) (own_below hown.out d7);have hO6:Off (fun x=>x=b∨x=N) w6 [210,280]:=fun k hk=>by
     rcases hk with rfl|rfl
     ·exact⟨_,_,_,H6.out.blk,by simp⟩
     ·exact⟨_,_,_,kO.out,by simp⟩
    have P7:=ae (Zg.out.off X7 hO6 aH);have hAN:=HAN.out;have NM7:=ae (HN6.out.keep X7 hO6 aH fun g hg hs=>by
     rcases hs with hs|hs
     ·exact HAb.out g hg hs
     ·have:=hAN g hg;omega)
    have hfin:=hres.out;rw[Jw aQ]at hfin;have HFin:=ae hfin;obtain⟨A1,c1,rfl⟩:=aV OW7.out;have ahl:w6.heap.size≤w7.heap.size:=X7.size;clear hrs hkp hbn hown hfa hmore d7 X7 hfin hres hO6 hAN hlt0;have x0:=(P7.out.cell q).trans hq;obtain⟨x1,x2⟩:=jL B7;have z0:=P7.out.frozen q;obtain⟨xs,hxs,hox,hnx⟩:=NM7.out;obtain⟨j0,hj,hj0,hj1,hj2⟩:=info_parts Za;rw[←HT.out]at hox;have ael:(w7.alloc (.cells #[.string nm,.slice A1 acc.length c1] 280)).drew.ownsRow base 280 2 (.slice A T cap) T (ip (xs.map tG)):=hox.alloc _;have abn:∀j u,[bM nm,.slice A1 acc.length c1][j]? =some u→(w7.alloc (.cells #[.string nm,.slice A1 acc.length c1] 280)).drew.cell? ((⟨w7.heap.size,0,none⟩:Addr).add j)=some u:=cQ w7 [.string nm,.slice A1 acc.length c1] 280;have hPd:aG (w7.alloc (.cells #[.string nm,.slice A1 acc.length c1] 280)).drew P 169 pc:=P7.out.alloc _;obtain⟨mD,iY⟩:=aN ael abn;have hNd:aG (w7.alloc (.cells #[.string nm,.slice A1 acc.length c1] 280)).drew N 280 #[.string nm,.slice A1 acc.length c1]:=B7.out.alloc _;have y0:=(hPd.cell q).trans hq;have y1:=hNd.cell 0;have y2:=hNd.cell 1;simp at y1 y2;have hNA:some N≠(dq A T cap).ownBlock:=fun e=>by have:=HAN.out N e.symm;omega
    obtain⟨X8,ot,xI⟩:=bu hNA hPd hNd;clear hox ael abn hPd hNd hNA;refine dW 8 (fun w'=>w'.cell? ⟨P,q,none⟩=some (.slice A T cap)∧w'.cell? ⟨N,0,none⟩=some (.string nm)∧w'.cell? ⟨N,1,none⟩=some (.slice A1 acc.length c1)) bo (⟨x0,x1,x2⟩) (fun hHeld=>?_);refine dR 0 ?_
    refine dR 1 ?_
    refine dR 2 ?_
    refine dR 3 ?_
    refine dR 4 ?_
    refine nA 5 fun K hK=>?_;go_simp
    skip
    refine hK.out _ _ (fun _=>⟨y0,y1,y2⟩) (fun hHeld=>?_);have hHeld:=hHeld aH;clear hK K;try simp only[cN]
    refine nA 6 fun K hK=>?_;refine step_append_lies _ (by rfl) _ _ _ (by rfl) base 280 j0 (.agg #[aI,au]) 2 40 Tryz.underlying165 hj hj0 hj1 hj2 rfl aH _ T _ (by rfl) mD.out ⟨w7.heap.size,0,none⟩ 1 1 [.string nm,.slice A1 acc.length c1] (by rfl) rfl iY.out (by intro u hu;simp at hu;rcases hu with rfl|rfl<;>rfl) aH (by unfold maxLen;omega) aQ (by simp;omega) (w7.heap.size+1) (by simp) ?_;intro g' cap' w10 hown' hgrow hat nJ;have BP:=ae (ot.out.off (Keeps.row hgrow) (cE mD.out) aH);have fV:=xI.out.grown hgrow X8.out;have p10:=(BP.out.cell q).trans hq;have z10:=BP.out.frozen q;have n0:=fV.cell 0;have n1:=fV.cell 1;simp at n0 n1;obtain⟨mC,fY,PS⟩:=bu hown' hgrow hat;clear hown' hgrow hat nJ fV;refine hK.out _ _ (fun _=>⟨p10,n0,n1⟩) (fun hHeld=>?_);have hHeld:=hHeld aH;clear hK K;try simp only[cN]
    refine dR 7 ?_
    refine nA 8 fun K hK=>?_;go_simp;refine hK.out _ _ (fun h=>absurd rfl h) (fun _=>?_);clear hK K hHeld;try simp only[cN]
    refine OC ?_;go_wp2_with fail
    have K1:Keeps (fun k=>k=b∨k=P∨(dq A T cap).ownBlock=some k) w (w7.alloc (.cells #[.string nm,.slice A1 acc.length c1] 280)).drew:=(((FIN.out _ Ej.out).mono fun k _ hk=>Or.inl hk).alloc _).drew;have K2:=(Keeps.grown K1 fY.out fun k hk=>Or.inl (Or.inr (Or.inr hk))).setCell (p:=⟨P,q,none⟩) (Or.inl (Or.inr (Or.inl rfl))) (.slice (some ⟨g',0,none⟩) (T+1) cap');have KS:=Keeps.row fY.out;have OS:=cE mD.out;have KQ:=(Keeps.refl (fun x=>x=P) w10).setCell (p:=⟨P,q,none⟩) (Or.inl rfl) (.slice (some ⟨g',0,none⟩) (T+1) cap');have OQ:Off (fun x=>x=P) w10 [169]:=fun k hk=>⟨_,_,_,by subst hk;exact BP.out,by simp⟩
    have R1:Rs (w7.alloc (.cells #[.string nm,.slice A1 acc.length c1] 280)).drew b P k n lv uv ws:=⟨(H7.out.alloc _).blk,(H7.out.alloc _).row,H7.out.ne,H7.out.len,H7.out.sizes⟩;have R2:=(R1.off KS OS aH aH).off KQ OQ aH aH;have B2:aG (w10.setCell ⟨P,q,none⟩ (.slice (some ⟨g',0,none⟩) (T+1) cap')) P 169 (pc.setIfInBounds q (.slice (some ⟨g',0,none⟩) (T+1) cap')):=BP.out.aL q _;have hstr:∀(u:Value)(m:Nat)(ys:List Value),w7.ownsRow base 9 1 u m ys→(w10.setCell ⟨P,q,none⟩ (.slice (some ⟨g',0,none⟩) (T+1) cap')).ownsRow base 9 1 u m ys:=fun u m ys hu=>
     bj (bj (show(w7.alloc (.cells #[.string nm,.slice A1 acc.length c1] 280)).drew.ownsRow base 9 1 u m ys from hu.alloc _) KS OS aH) KQ OQ (by decide)
    refine⟨rfl,_,results_none rfl _ _ _,eT.good HFin.out K2 ⟨rfl,k,_,R2,B2,⟨xs++[(⟨nm,acc⟩,.slice A1 acc.length c1)],by simp[hxs],?_,?_⟩,?_⟩⟩
    ·rw[ai,←HT.out,List.map_append,show List.map tG [((⟨nm,acc⟩:Nm),dq A1 acc.length c1)]=[(nm,.slice A1 acc.length c1)]from rfl,B8];exact bj mC.out KQ OQ (by decide)
    ·intro x hx;rcases List.mem_append.1 hx with hx|hx
     ·exact hstr _ _ _ (hnx x hx)
     ·rw[List.mem_singleton.1 hx];exact hstr _ _ _ (OW7.out.mono aQ)
    ·intro g hg;have hgg:some g'=some g:=hg;injection hgg with hgg
     rcases PS.out with h|h
     ·exact Or.inl (hgg▸h)
     ·have hs:=(FIN.out _ Ej.out).size;exact Or.inr (by omega)
end Go.Proofs.YtkjaajcpbldjoaaGreatDoor
