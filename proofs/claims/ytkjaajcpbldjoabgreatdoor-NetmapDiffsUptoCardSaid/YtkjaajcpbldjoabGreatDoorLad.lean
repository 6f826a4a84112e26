/- Joined out of: PtB PlH PlI PlJ PlK PlL PlM. -/
import Derived.Test.YtkjaajcpbldjoabGreatDoorLac
import Derived.Deep.AppendLies
set_option linter.unusedVariables false
set_option linter.unusedSimpArgs false
set_option maxHeartbeats 16000000
set_option maxRecDepth 100000
open ByteArray renaming empty→lL,size→ahT,ext→ahX
open Go.ByteArray renaming toList_eq→cE
open Go.Lib renaming hid→ae,decDigits→cP
open Go.Proofs.Tryz renaming prog→ah,underlying9→bq,underlying71→cT,underlying29→ahP
open Go.RowKit renaming Hid→ag
open Go.RowKit.Below renaming refl→aI
open Go.Value renaming string→bN,slice→dq
open Go.World renaming ownsRow_nil→bh
open List renaming getElem?_eq_getElem→af,length_append→aj,length_map→ay,getElem?_map→bO,drop_eq_getElem_cons→bT,length_singleton→dn,drop_eq_nil_of_le→nW,getElem?_eq_none_iff→aid
open Nat renaming le_refl→ax
namespace Go.Proofs.YtkjaajcpbldjoabGreatDoor
open Go.RowKit
theorem Zf{w:World}{g:Nat}{v0 v1 v2 v3:Value}(h:aH w g 215 #[v0,v1,v2,v3]):(loadVar 215 ⟨g,0,none⟩).run ah w=.ok (.agg #[v0,v1,v2,v3]) w:=by
 have c0:=h.cell 0;have c1:=h.cell 1;have c2:=h.cell 2;have c3:=h.cell 3;simp at c0 c1 c2 c3;simp[loadVar,go_sem,c0,c1,c2,c3]
theorem four{W w:World}{g:Nat}{z0 z1 z2 z3 v0 v1 v2 v3:Value}(hB:aH w g 215 #[z0,z1,z2,z3])(hb:aW W w)(hg:W.heap.size≤g):aH ((((w.setCell ⟨g,0,none⟩ v0).setCell ⟨g,1,none⟩ v1).setCell ⟨g,2,none⟩ v2).setCell ⟨g,3,none⟩ v3) g 215 #[v0,v1,v2,v3]∧aW W ((((w.setCell ⟨g,0,none⟩ v0).setCell ⟨g,1,none⟩ v1).setCell ⟨g,2,none⟩ v2).setCell ⟨g,3,none⟩ v3):=by
 have s0:aH (w.setCell ⟨g,0,none⟩ v0) g 215 #[v0,z1,z2,z3]:=hB.aM 0 v0;have s1:aH ((w.setCell ⟨g,0,none⟩ v0).setCell ⟨g,1,none⟩ v1) g 215 #[v0,v1,z2,z3]:=s0.aM 1 v1;have s2:aH (((w.setCell ⟨g,0,none⟩ v0).setCell ⟨g,1,none⟩ v1).setCell ⟨g,2,none⟩ v2) g 215 #[v0,v1,v2,z3]:=s1.aM 2 v2;have s3:aH ((((w.setCell ⟨g,0,none⟩ v0).setCell ⟨g,1,none⟩ v1).setCell ⟨g,2,none⟩ v2).setCell ⟨g,3,none⟩ v3) g 215 #[v0,v1,v2,v3]:=s2.aM 3 v3;exact⟨s3,(((hb.setCell (p:=⟨g,0,none⟩) hg v0).setCell (p:=⟨g,1,none⟩) hg v1).setCell (p:=⟨g,2,none⟩) hg v2).setCell (p:=⟨g,3,none⟩) hg v3⟩
theorem acf{fn:Func}{a:Act}{W w:World}{g x y:Nat}{v0 v1 v2 v3 u:Value}(hres:fn.results= #[.cell x 215,.tmp y])(hB:aH w g 215 #[v0,v1,v2,v3])(hb:aW W w)(h1:a.tmps.getD x undef=.pointer (some ⟨g,0,none⟩))(h2:a.tmps.getD y undef=u)(hd:a.defers=[]):bodyPost ah fn (Got (.tuple #[.agg #[v0,v1,v2,v3],u]) W) .ret a w:=bodyPost_ret (bF hres h1 h2 (Zf hB)) hd ⟨rfl,hb⟩
theorem rO{fn:Func}{a:Act}{W w:World}{g x y:Nat}{z0 z1 z2 z3 v0 v1 v2 v3 u:Value}(hres:fn.results= #[.cell x 215,.tmp y])(hB:aH w g 215 #[z0,z1,z2,z3])(hb:aW W w)(hg:W.heap.size≤g)(h1:a.tmps.getD x undef=.pointer (some ⟨g,0,none⟩))(h2:a.tmps.getD y undef=u)(hd:a.defers=[]):bodyPost ah fn (Got (.tuple #[.agg #[v0,v1,v2,v3],u]) W) .ret a ((((w.setCell ⟨g,0,none⟩ v0).setCell ⟨g,1,none⟩ v1).setCell ⟨g,2,none⟩ v2).setCell ⟨g,3,none⟩ v3):=acf hres (four hB hb hg).1 (four hB hb hg).2 h1 h2 hd
def acg(o:Option Pf):Value:=match o with
 |none=>.tuple #[.agg #[.bool false,.int .u64 0,.int .u64 0,.int .u8 0],.int .i64 8]
 |some p=>.tuple #[.agg p.cells,.int .i64 0]
theorem JB(o:Option Ad)(ho:∀a,o=some a→a.Ok):∃(a:Ad)(e:Nat),a.Ok∧abq o=.tuple #[.agg #[.bool a.v6,.int .u64 (a.hi:Int),.int .u64 (a.lo:Int)],.int .i64 e]∧((e=0∧o=some a)∨(e=8∧o=none)):=by
 cases o with
 |none=>exact⟨⟨false,0,0⟩,8,⟨by decide,by decide⟩,rfl,Or.inr ⟨rfl,rfl⟩⟩
 |some a=>exact⟨a,0,ho a rfl,rfl,Or.inl ⟨rfl,rfl⟩⟩
theorem pg{w:World}(env:Env w)(s:ByteArray)(hs:s.size≤2000000):Calls ah 215 #[.string s] w (Got (acg (i6 s.data.toList)) w):=by
 obtain⟨RL,hRL⟩:=bw (i6 s.data.toList);rw[←hRL];have hB0:=aH.new w 215 #[.bool false,.int .u64 0,.int .u64 0,.int .u8 0];have hb0:=boxed w (.cells #[.bool false,.int .u64 0,.int .u64 0,.int .u8 0] 215);obtain⟨m,hm⟩:=(env.below hb0).mx;have hcut:=Tryz.strings_Cut s ⟨#[47]⟩ m (w.alloc (.cells #[.bool false,.int .u64 0,.int .u64 0,.int .u8 0] 215)) aR hm;have hcl:=vV s.data.toList [47];rw[show(⟨#[47]⟩:ByteArray).data.toList=[47]from rfl]at hcut;unfold i6 at hRL;generalize Lib.cut s.data.toList [47]=C at hcl hcut hRL;obtain⟨c1,c2,gap⟩:=C;simp only at hcl hcut hRL;rw[show s.data.toList.length=s.size from(Lib.size_eq s).symm]at hcl;have hrd:=fun v(hv:aW w v)=>TR (env.below hv) ⟨c1.toArray⟩ (by rw[show(⟨c1.toArray⟩:ByteArray).size=c1.length by simp[ahT]];omega)
 have hpu:=fun v(hv:aW w v)=>ab2 (env.below hv) ⟨c2.toArray⟩ (by rw[show(⟨c2.toArray⟩:ByteArray).size=c2.length by simp[ahT]];omega)
 rw[show(⟨c1.toArray⟩:ByteArray).data.toList=c1 by simp]at hrd;rw[show(⟨c2.toArray⟩:ByteArray).data.toList=c2 by simp]at hpu;obtain⟨A,er,hA,hv,hro⟩:=JB (uB c1) (fun a h=>(xi h).2.1);rw[hv]at hrd;generalize uB c1=RO at hRL hro;clear hv;have hnl:∀n,num1 10 256 c2=some n→n<256:=fun n h=>nt h
 unfold Aq abl at hpu;generalize num1 10 256 c2=NO at hRL hpu hnl;have JC:=fun n(hn:n<256)v(hv:aW w v)=>xC (env.below hv) ⟨A,n⟩ ⟨hA,hn⟩
 have hiff:∀n,jA ⟨A,n⟩=s↔qD ⟨A,n⟩=s.data.toList:=fun n=>Jz
 have hcells:∀n,Pf.cells ⟨A,n⟩= #[.bool A.v6,.int .u64 (A.hi:Int),.int .u64 (A.lo:Int),.int .u8 n]:=fun _=>rfl
 simp only[hcells]at JC;obtain⟨T1,hT1⟩:=bw ((⟨c1.toArray⟩:ByteArray));obtain⟨T2,hT2⟩:=bw ((⟨c2.toArray⟩:ByteArray));rw[←hT1]at hrd hcut;rw[←hT2]at hpu hcut;have hr0:gap=false→RL=none:=fun h=>by rw[hRL,h];rfl
 have hr1:er=8→RL=none:=fun h=>by
  rcases hro with⟨e,_⟩|⟨_,e⟩
  ·omega
  ·rw[hRL,e];split<;>rfl
 have hr2:NO=none→RL=none:=fun h=>by
  rw[hRL,h];split
  ·rfl
  ·cases RO<;>rfl
 have hr3:gap=true→er=0→∀n,NO=some n→RL=if jA ⟨A,n⟩=s then some ⟨A,n⟩else none:=fun h1 h2 n h3=>by
  rcases hro with⟨_,e⟩|⟨e,_⟩
  ·rw[hRL,h1,h3,e];simp only;rw[if_neg aJ];by_cases h:jA ⟨A,n⟩=s
   ·rw[if_pos h,if_pos ((hiff n).1 h)]
   ·rw[if_neg h,if_neg (fun e=>h ((hiff n).2 e))]
  ·omega
 have her:er=0∨er=8:=by rcases hro with⟨e,_⟩|⟨e,_⟩<;>omega
 obtain⟨PB,hPB⟩:∃f:Nat→ByteArray,f=fun n=>jA ⟨A,n⟩:=⟨_,rfl⟩
 have aer:∀n,jA ⟨A,n⟩=PB n:=fun n=>by rw[hPB]
 simp only[aer]at hr3 JC;generalize A.v6=av at hrd JC hcells;generalize A.hi=Iz at hrd JC hcells;generalize A.lo=IA at hrd JC hcells;obtain⟨zx,HRD,HPU,HPT,Hr0,Hr1,Hr2,Hr3,Hnl,qW,HB0,Hb0⟩:=oM hcut hrd hpu JC hr0 hr1 hr2 hr3 hnl hcells hB0 hb0;clear hcut hrd hpu JC hr0 hr1 hr2 hr3 hnl hcells hB0 hb0 hiff hro hRL hT1 hT2 hPB aer hA hm hcl env;go_enter Tryz.func215,Tryz.ntmps215;go_wp2_with(go_at_call 236;refine zx.out.mono ?_;rintro r w2⟨rfl,n2,rfl⟩)
 go_at_call 237;refine(HRD.out _ (after Hb0.out (below_drewN _ n2))).mono ?_;rintro r w3⟨rfl,g3⟩;have hB3:=(HB0.out.drewN n2).below g3 (HB0.out.drewN n2).lt;have hb3:=after (after Hb0.out (below_drewN _ n2)) g3;have hB4:=hB3.alloc (.cells #[.bool av,.int .u64 Iz,.int .u64 IA] 52);have hD4:=aH.new w3 52 #[.bool av,.int .u64 Iz,.int .u64 IA];have hb4:=after hb3 (boxed w3 (.cells #[.bool av,.int .u64 Iz,.int .u64 IA] 52));have hw3:w.heap.size<w3.heap.size:=hB3.lt;clear hB3 hb3 g3;go_upto_region 3 with fail
 generalize w3.alloc (.cells #[.bool av,.int .u64 Iz,.int .u64 IA] 52)=w4 at hB4 hD4 hb4⊢;generalize w3.heap.size=g1 at hD4 hw3⊢;obtain⟨HB4,HD4,Hb4,agn⟩:=cU hB4 hD4 hb4 (HPU.out w4 hb4);clear hB4 hD4 hb4;go_wp2_with fail
 go_at_call 238;refine agn.out.mono ?_;rintro e w5⟨hres,g5⟩;have TX:=HB4.out.below g5 HB4.out.lt;have hD5:=HD4.out.below g5 HD4.out.lt;have hb5:=after Hb4.out g5;have a0:=hD5.cell 0;have a1:=hD5.cell 1;have a2:=hD5.cell 2;simp at a0 a1 a2;obtain⟨nZ,Hb5⟩:=aL TX hb5;clear TX hD5 hb5 g5;rcases hres with⟨n,hNO,rfl⟩|⟨hNO,n,tp,p,ab6,rfl⟩
 ·have hn:=Hnl.out n hNO;have hwr:IntKind.u8.wrap (n:Int)=(n:Int):=by rw[IntKind.wrap_u8];omega
  go_upto_region 5 with fail
  have gJ:=nZ.out.alloc (.cells #[.bool av,.int .u64 Iz,.int .u64 IA,.int .u8 n] 215);have hD6:=aH.new w5 215 #[.bool av,.int .u64 Iz,.int .u64 IA,.int .u8 n];have hb6:=after Hb5.out (boxed w5 (.cells #[.bool av,.int .u64 Iz,.int .u64 IA,.int .u8 n] 215));have hw5:w.heap.size<w5.heap.size:=nZ.out.lt;generalize w5.alloc (.cells #[.bool av,.int .u64 Iz,.int .u64 IA,.int .u8 n] 215)=w6 at gJ hD6 hb6⊢;generalize w5.heap.size=g2 at hD6 hw5⊢;clear a0 a1 a2;have b0:=hD6.cell 0;have b1:=hD6.cell 1;have b2:=hD6.cell 2;have b3:=hD6.cell 3;simp at b0 b1 b2 b3;have c0:=gJ.cell 0;have c1:=gJ.cell 1;have c2:=gJ.cell 2;have c3:=gJ.cell 3;simp at c0 c1 c2 c3;have fr:=fun i=>gJ.frozen i
  obtain⟨kQ,HD6,CJ⟩:=bz gJ hD6 hb6;clear gJ hD6 hb6;have aes:=ae (HPT.out n hn w6 CJ.out);cases gap with
  |false=>
   have Ze:=ae (Hr0.out rfl);go_wp2_with fail
   rw[Ze.out];show bodyPost _ _ (Got (.tuple #[.agg #[.bool false,.int .u64 0,.int .u64 0,.int .u8 0],.int .i64 8]) w) _ _ _;exact rO (g:=w.heap.size) (x:=2) (y:=3) rfl kQ.out CJ.out (ax _) rfl rfl rfl
  |true=>
   rcases her with rfl|rfl
   ·have hrl:=Hr3.out rfl rfl n hNO;by_cases hts:PB n=s
    ·have hq:=ic hts;rw[if_pos hts]at hrl;have Hrl:=ae hrl;clear hrl hts;go_wp2_with(go_at_call 239;refine aes.out.mono ?_;rintro r w7⟨rfl,g7⟩;have hb7:=bg CJ g7;have kg:=kQ.out.below g7 kQ.out.lt;have hD7:=HD6.out.below g7 HD6.out.lt;clear b0 b1 b2 b3 c0 c1 c2 c3 fr;have b0:=hD7.cell 0;have b1:=hD7.cell 1;have b2:=hD7.cell 2;have b3:=hD7.cell 3;simp at b0 b1 b2 b3;have c0:=kg.cell 0;have c1:=kg.cell 1;have c2:=kg.cell 2;have c3:=kg.cell 3;simp at c0 c1 c2 c3;have fr:=(fun i=>kg.frozen i);have uO:=ae kg;clear kg hD7 g7)
     rw[Hrl.out];show bodyPost _ _ (Got (.tuple #[.agg (Pf.cells ⟨A,n⟩),.int .i64 0]) w) _ _ _;rw[qW.out];exact rO (g:=w.heap.size) (x:=2) (y:=3) rfl uO.out hb7.out (ax _) rfl rfl rfl
    ·have hq:=gm hts;rw[if_neg hts]at hrl;have Hrl:=ae hrl;clear hrl hts;go_wp2_with(go_at_call 239;refine aes.out.mono ?_;rintro r w7⟨rfl,g7⟩;have hb7:=bg CJ g7;have kg:=kQ.out.below g7 kQ.out.lt;have hD7:=HD6.out.below g7 HD6.out.lt;clear b0 b1 b2 b3 c0 c1 c2 c3 fr;have b0:=hD7.cell 0;have b1:=hD7.cell 1;have b2:=hD7.cell 2;have b3:=hD7.cell 3;simp at b0 b1 b2 b3;have c0:=kg.cell 0;have c1:=kg.cell 1;have c2:=kg.cell 2;have c3:=kg.cell 3;simp at c0 c1 c2 c3;have fr:=(fun i=>kg.frozen i);have uO:=ae kg;clear kg hD7 g7)
     rw[Hrl.out];show bodyPost _ _ (Got (.tuple #[.agg #[.bool false,.int .u64 0,.int .u64 0,.int .u8 0],.int .i64 8]) w) _ _ _;exact rO (g:=w.heap.size) (x:=2) (y:=3) rfl uO.out hb7.out (ax _) rfl rfl rfl
   ·have Ze:=ae (Hr1.out rfl);go_wp2_with fail
    rw[Ze.out];show bodyPost _ _ (Got (.tuple #[.agg #[.bool false,.int .u64 0,.int .u64 0,.int .u8 0],.int .i64 8]) w) _ _ _;exact rO (g:=w.heap.size) (x:=2) (y:=3) rfl kQ.out CJ.out (ax _) rfl rfl rfl
 ·have Ze:=ae (Hr2.out hNO);clear hNO;go_upto_region 5 with fail
  have gJ:=nZ.out.alloc (.cells #[.bool av,.int .u64 Iz,.int .u64 IA,.int .u8 ((n:Int)%256)] 215);have hD6:=aH.new w5 215 #[.bool av,.int .u64 Iz,.int .u64 IA,.int .u8 ((n:Int)%256)];have hb6:=after Hb5.out (boxed w5 (.cells #[.bool av,.int .u64 Iz,.int .u64 IA,.int .u8 ((n:Int)%256)] 215));have hw5:w.heap.size<w5.heap.size:=nZ.out.lt;generalize w5.alloc (.cells #[.bool av,.int .u64 Iz,.int .u64 IA,.int .u8 ((n:Int)%256)] 215)=w6 at gJ hD6 hb6⊢;generalize w5.heap.size=g2 at hD6 hw5⊢;clear a0 a1 a2;have b0:=hD6.cell 0;have b1:=hD6.cell 1;have b2:=hD6.cell 2;have b3:=hD6.cell 3;simp at b0 b1 b2 b3;have c0:=gJ.cell 0;have c1:=gJ.cell 1;have c2:=gJ.cell 2;have c3:=gJ.cell 3;simp at c0 c1 c2 c3;have fr:=fun i=>gJ.frozen i
  obtain⟨kQ,HD6,CJ⟩:=bz gJ hD6 hb6;clear gJ hD6 hb6;rcases her with rfl|rfl
  all_goals cases gap
  all_goals
   go_wp2_with fail
   rw[Ze.out];show bodyPost _ _ (Got (.tuple #[.agg #[.bool false,.int .u64 0,.int .u64 0,.int .u8 0],.int .i64 8]) w) _ _ _;exact rO (g:=w.heap.size) (x:=2) (y:=3) rfl kQ.out CJ.out (ax _) rfl rfl rfl
attribute [local go_sem↓] Go.wp_at_zero Go.wp_at_succ
def kD.cells(s:kD):Array Value:= #[.int .u8 (s.kind:Int),.string s.name,.bool s.net.a.v6,.int .u64 (s.net.a.hi:Int),.int .u64 (s.net.a.lo:Int),.int .u8 (s.net.bits:Int)]
theorem fW{P:Program}{T K E:TypeId}{w:World}{m clock:Nat}{L:List SE}(hT:P.underlying T=some (.map K E))(hK:P.underlying K=some .string)(h:ff w m L clock)(s:ByteArray){j:Nat}{x:SE}(hj:at_ L s=some j)(hx:L[j]? =some x):(Instr.lookup T (.map (some m)) (.string s) false).run P w=.ok x.val w:=by
 simp[Instr.lookup,run_underlying hT,run_getObj_map h,eU _ _ hK,ents,ib s hK,hj,hx,List.getD_eq_getElem?_getD]
theorem mN{P:Program}{T K E:TypeId}{w:World}{m clock:Nat}{L:List SE}(hT:P.underlying T=some (.map K E))(hK:P.underlying K=some .string)(h:ff w m L clock)(s:ByteArray)(hj:at_ L s=none){z:Value}(hz:(zeroValue E).run P w=.ok z w):(Instr.lookup T (.map (some m)) (.string s) false).run P w=.ok z w:=by
 simp[Instr.lookup,run_underlying hT,run_getObj_map h,eU _ _ hK,ents,ib s hK,hj,hz]
def qX:List SE:=[⟨tt,.int .u8 2,0⟩,⟨fJ,.int .u8 3,1⟩,⟨kG,.int .u8 4,2⟩,⟨ja,.int .u8 5,3⟩,⟨Ak,.int .u8 6,4⟩]
theorem dH{a b:ByteArray}(h:a≠b):(a==b)=false:=by
 cases e:a==b with
 |false=>rfl
 |true=>exact absurd ((bytes_beq a b).1 e) h
theorem CL{w:World}{m clock:Nat}(h:ff w m qX clock)(s:ByteArray):(Instr.lookup 315 (.map (some m)) (.string s) false).run ah w=.ok (.int .u8 (ia s.data.toList:Int)) w:=by
 have hT:=Tryz.underlying315;have hK:=bq;unfold ia;rw[rE];by_cases e1:s=tt
 ·subst e1;rw[if_pos rfl];exact fW hT hK h _ (j:=0) (x:=⟨tt,.int .u8 2,0⟩) (by decide+kernel) rfl
 rw[if_neg e1];by_cases e2:s=fJ
 ·subst e2;rw[if_pos rfl];exact fW hT hK h _ (j:=1) (x:=⟨fJ,.int .u8 3,1⟩) (by decide+kernel) rfl
 rw[if_neg e2];by_cases e3:s=kG
 ·subst e3;rw[if_pos rfl];exact fW hT hK h _ (j:=2) (x:=⟨kG,.int .u8 4,2⟩) (by decide+kernel) rfl
 rw[if_neg e3];by_cases e4:s=ja
 ·subst e4;rw[if_pos rfl];exact fW hT hK h _ (j:=3) (x:=⟨ja,.int .u8 5,3⟩) (by decide+kernel) rfl
 rw[if_neg e4];by_cases e5:s=Ak
 ·subst e5;rw[if_pos rfl];exact fW hT hK h _ (j:=4) (x:=⟨Ak,.int .u8 6,4⟩) (by decide+kernel) rfl
 rw[if_neg e5];refine mN hT hK h s ?_ (Tryz.zeroValue5 w);unfold at_ qX;simp only[List.findIdx?_cons,List.findIdx?_nil];rw[dH (Ne.symm e1),dH (Ne.symm e2),dH (Ne.symm e3),dH (Ne.symm e4),dH (Ne.symm e5)];rfl
theorem pj{w:World}{g:Nat}{v0 v1 v2 v3 v4 v5:Value}(h:aH w g 217 #[v0,v1,v2,v3,v4,v5]):(loadVar 217 ⟨g,0,none⟩).run ah w=.ok (.agg #[v0,v1,v2,v3,v4,v5]) w:=by
 have c0:=h.cell 0;have c1:=h.cell 1;have c2:=h.cell 2;have c3:=h.cell 3;have c4:=h.cell 4;have c5:=h.cell 5;simp at c0 c1 c2 c3 c4 c5;simp[loadVar,go_sem,c0,c1,c2,c3,c4,c5]
theorem vW{W w:World}{g:Nat}{z0 z1 z2 z3 z4 z5 v0 v1 v2 v3 v4 v5:Value}(hB:aH w g 217 #[z0,z1,z2,z3,z4,z5])(hb:Below W.heap.size W w)(hg:W.heap.size≤g):aH ((((((w.setCell ⟨g,0,none⟩ v0).setCell ⟨g,1,none⟩ v1).setCell ⟨g,2,none⟩ v2).setCell ⟨g,3,none⟩ v3).setCell ⟨g,4,none⟩ v4).setCell ⟨g,5,none⟩ v5) g 217 #[v0,v1,v2,v3,v4,v5]∧Below W.heap.size W ((((((w.setCell ⟨g,0,none⟩ v0).setCell ⟨g,1,none⟩ v1).setCell ⟨g,2,none⟩ v2).setCell ⟨g,3,none⟩ v3).setCell ⟨g,4,none⟩ v4).setCell ⟨g,5,none⟩ v5):=by
 have s0:aH (w.setCell ⟨g,0,none⟩ v0) g 217 #[v0,z1,z2,z3,z4,z5]:=hB.aM 0 v0;have s1:aH ((w.setCell ⟨g,0,none⟩ v0).setCell ⟨g,1,none⟩ v1) g 217 #[v0,v1,z2,z3,z4,z5]:=s0.aM 1 v1;have s2:aH (((w.setCell ⟨g,0,none⟩ v0).setCell ⟨g,1,none⟩ v1).setCell ⟨g,2,none⟩ v2) g 217 #[v0,v1,v2,z3,z4,z5]:=s1.aM 2 v2;have s3:aH ((((w.setCell ⟨g,0,none⟩ v0).setCell ⟨g,1,none⟩ v1).setCell ⟨g,2,none⟩ v2).setCell ⟨g,3,none⟩ v3) g 217 #[v0,v1,v2,v3,z4,z5]:=s2.aM 3 v3;have s4:aH (((((w.setCell ⟨g,0,none⟩ v0).setCell ⟨g,1,none⟩ v1).setCell ⟨g,2,none⟩ v2).setCell ⟨g,3,none⟩ v3).setCell ⟨g,4,none⟩ v4) g 217 #[v0,v1,v2,v3,v4,z5]:=s3.aM 4 v4;have s5:aH ((((((w.setCell ⟨g,0,none⟩ v0).setCell ⟨g,1,none⟩ v1).setCell ⟨g,2,none⟩ v2).setCell ⟨g,3,none⟩ v3).setCell ⟨g,4,none⟩ v4).setCell ⟨g,5,none⟩ v5) g 217 #[v0,v1,v2,v3,v4,v5]:=s4.aM 5 v5;exact⟨s5,((((((hb.setCell (p:=⟨g,0,none⟩) hg v0).setCell (p:=⟨g,1,none⟩) hg v1).setCell (p:=⟨g,2,none⟩) hg v2).setCell (p:=⟨g,3,none⟩) hg v3).setCell (p:=⟨g,4,none⟩) hg v4).setCell (p:=⟨g,5,none⟩) hg v5)⟩
theorem ff.aet{w:World}{m clock g:Nat}{L:List SE}{v0 v1 v2 v3 v4 v5:Value}(h:ff w m L clock)(hne:g≠m):ff ((((((w.setCell ⟨g,0,none⟩ v0).setCell ⟨g,1,none⟩ v1).setCell ⟨g,2,none⟩ v2).setCell ⟨g,3,none⟩ v3).setCell ⟨g,4,none⟩ v4).setCell ⟨g,5,none⟩ v5) m L clock:=by
 have k:=((((((Keeps.refl (fun x=>x=g) w).setCell (p:=⟨g,0,none⟩) (Or.inl rfl) v0).setCell (p:=⟨g,1,none⟩) (Or.inl rfl) v1).setCell (p:=⟨g,2,none⟩) (Or.inl rfl) v2).setCell (p:=⟨g,3,none⟩) (Or.inl rfl) v3).setCell (p:=⟨g,4,none⟩) (Or.inl rfl) v4).setCell (p:=⟨g,5,none⟩) (Or.inl rfl) v5;exact h.keep k fun e=>hne e.symm
theorem ff.drw{w:World}{m clock:Nat}{L:List SE}(h:ff w m L clock):ff w.drew m L clock:=h
theorem JD(w0:World):∃w1 w2 w3 w4 w5:World,(Instr.mapUpdate 315 (.map (some w0.heap.size)) (.string ⟨#[117,115,101,114]⟩) (.int .u8 2)).run ah (w0.alloc (.map #[] 0))=.ok () w1∧(Instr.mapUpdate 315 (.map (some w0.heap.size)) (.string ⟨#[103,114,111,117,112]⟩) (.int .u8 3)).run ah w1=.ok () w2∧(Instr.mapUpdate 315 (.map (some w0.heap.size)) (.string ⟨#[116,97,103]⟩) (.int .u8 4)).run ah w2=.ok () w3∧(Instr.mapUpdate 315 (.map (some w0.heap.size)) (.string ⟨#[104,111,115,116]⟩) (.int .u8 5)).run ah w3=.ok () w4∧(Instr.mapUpdate 315 (.map (some w0.heap.size)) (.string ⟨#[110,101,116]⟩) (.int .u8 6)).run ah w4=.ok () w5∧ff w5 w0.heap.size qX 5∧Below w0.heap.size w0 w5:=by
 have hT:=Tryz.underlying315;have hK:=bq;have h0:ff (w0.alloc (.map #[] 0)) w0.heap.size [] 0:=heap_alloc_new w0 _;obtain⟨w1,e1,_,_,k1,m1⟩:=fx (P:=ah) hT hK h0 ⟨#[117,115,101,114]⟩ (by decide+kernel) (.int .u8 2);obtain⟨w2,e2,_,_,k2,m2⟩:=fx (P:=ah) hT hK m1 ⟨#[103,114,111,117,112]⟩ (by decide+kernel) (.int .u8 3);obtain⟨w3,e3,_,_,k3,m3⟩:=fx (P:=ah) hT hK m2 ⟨#[116,97,103]⟩ (by decide+kernel) (.int .u8 4);obtain⟨w4,e4,_,_,k4,m4⟩:=fx (P:=ah) hT hK m3 ⟨#[104,111,115,116]⟩ (by decide+kernel) (.int .u8 5);obtain⟨w5,e5,_,_,k5,m5⟩:=fx (P:=ah) hT hK m4 ⟨#[110,101,116]⟩ (by decide+kernel) (.int .u8 6);refine⟨w1,w2,w3,w4,w5,e1,e2,e3,e4,e5,m5,?_⟩;exact(boxed w0 _).trans (Keeps.below ((((k1.trans k2).trans k3).trans k4).trans k5) (fun k hk=>by rw[hk];exact ax _) (by simp))
def jB(m:Nat)(T:ByteArray)(K:Nat)(w:World):Prop:=(Instr.lookup 315 (.map (some m)) (.string T) false).run ah w=.ok (.int .u8 K) w
def JE(o:Option kD)(w:World)(r:Ending)(w':World):Prop:=(∃s:kD,r=.returned (.tuple #[.agg s.cells,.bool o.isSome])∧∀x,o=some x→s=x)∧Below w.heap.size w w'
theorem Zg{w:World}(env:Env w)(s:ByteArray)(hs:s.size≤2000000):Calls ah 240 #[.string s] w (JE (mM s) w):=by
 have hB0:=aH.new w 217 #[.int .u8 0,aG,.bool false,.int .u64 0,.int .u64 0,.int .u8 0];have hb0:=boxed w (.cells #[.int .u8 0,aG,.bool false,.int .u64 0,.int .u64 0,.int .u8 0] 217);by_cases hst:s=xn
 ·subst hst;rw[show mM xn=some ⟨1,lL,Pf.zero⟩ by unfold mM;rw[if_pos rfl]];unfold xn;clear env hs;go_enter Tryz.func240,Tryz.ntmps240;go_wp2_with fail
  refine bodyPost_ret (bF rfl rfl rfl (pj (aH.new _ _ _))) rfl ⟨⟨⟨1,lL,Pf.zero⟩,rfl,fun x hx=>by injection hx⟩,boxed _ _⟩
 ·have hss:(s.toList==[42])=false:=by
   rw[beq_eq_false_iff_ne];intro h;rw[cE]at h;exact hst (ahX (Array.ext' h))
  have hmm:= @run_makeMap ah;have hk:=JD (w.alloc (.cells #[.int .u8 0,aG,.bool false,.int .u64 0,.int .u64 0,.int .u8 0] 217));rw[show(w.alloc (.cells #[.int .u8 0,aG,.bool false,.int .u64 0,.int .u64 0,.int .u8 0] 217)).heap.size=w.heap.size+1 by simp]at hk;obtain⟨w1,w2,w3,w4,w5,e1,e2,e3,e4,e5,hM,hbm⟩:=hk;have TX:=hB0.below hbm aR;have hb5:Below w.heap.size w w5:=hb0.trans (hbm.mono aR);obtain⟨mx,hmx⟩:=(env.below hb5).mx;have hcut:=Tryz.strings_Cut s ⟨#[58]⟩ mx w5 aR hmx;have hcl:=vV s.data.toList [58];rw[show(⟨#[58]⟩:ByteArray).data.toList=[58]from rfl]at hcut;obtain⟨RES,eV⟩:=bw (mM s);rw[←eV];unfold mM at eV;rw[if_neg hst]at eV;simp only at eV;generalize Lib.cut s.data.toList [58]=C at hcl hcut eV;obtain⟨c1,c2,gap⟩:=C;simp only at hcl hcut eV;rw[show s.data.toList.length=s.size from(Lib.size_eq s).symm]at hcl;have hrd:=fun v(hv:Below w.heap.size w v)=>pg (env.below hv) ⟨c2.toArray⟩ (by rw[show(⟨c2.toArray⟩:ByteArray).size=c2.length by simp[ahT]];omega)
  rw[show(⟨c2.toArray⟩:ByteArray).data.toList=c2 from rfl]at hrd;have hlab:=fun v=>pT ⟨c2.toArray⟩ (by rw[show(⟨c2.toArray⟩:ByteArray).size=c2.length by simp[ahT]];omega) v
  rw[show cQ (⟨c2.toArray⟩:ByteArray)=oS c2 from rfl]at hlab;have hlk:∀W,ff W (w.heap.size+1) qX 5→jB (w.heap.size+1) ⟨c1.toArray⟩ (ia c1) W:=fun W h=>CL h ⟨c1.toArray⟩
  have hK6:ia c1≤6:=by
   by_cases h0:0<ia c1
   ·rcases oW h0 with h|h|h|h|h<;>omega
   ·omega
  generalize ia c1=K at eV hlk hK6;unfold iJ at eV;generalize(⟨c1.toArray⟩:ByteArray)=T1 at hcut hlk;generalize hT2:(⟨c2.toArray⟩:ByteArray)=T2 at hcut hrd hlab eV;obtain⟨zx,jT,lk,P1,Hlk⟩:=eB hcut eV hrd hlab hlk;clear hcut eV hrd hlab hlk env hmx hcl hst hT2;go_enter Tryz.func240,Tryz.ntmps240;go_upto_region 5 with(go_at_call 236;refine zx.out.mono ?_;rintro r wq⟨rfl,nq,rfl⟩)
  have gJ:aH (w5.drewN nq) w.heap.size 217 #[.int .u8 0,aG,.bool false,.int .u64 0,.int .u64 0,.int .u8 0]:=TX;have hb6:Below w.heap.size w (w5.drewN nq):=⟨hb5.os,hb5.tape,hb5.output,hb5.size,hb5.block⟩;have zf:=ae (hM.drewN nq);clear e1 e2 e3 e4 e5 hmm hM hbm TX hb5 zx hB0 hb0;generalize w5.drewN nq=w6 at gJ hb6 zf⊢;have hlk:=Hlk.out w6 zf.out;unfold jB at hlk;by_cases h6:K=6
  ·subst h6;have hR:=jT.out;rw[if_pos rfl]at hR;have zy:=ae hR;clear hR jT P1 zf;obtain⟨CJ,kQ⟩:=aL hb6 gJ;clear hb6 gJ;go_upto_region 6 with fail
   cases hp:i6 c2 with
   |none=>
    rw[hp]at lk zy;have ach:ag (∀(v:World),Below w.heap.size w v→Calls ah 215 #[.string T2] v (Got (.tuple #[.agg #[.bool false,.int .u64 0,.int .u64 0,.int .u8 0],.int .i64 8]) v)):=lk;go_upto_region 7 with(go_at_call 215;refine(ach.out _ CJ.out).mono ?_;rintro r w7⟨rfl,d7⟩)
    have ox:=(kQ.out.below d7 kQ.out.lt).alloc (.cells #[.bool false,.int .u64 0,.int .u64 0,.int .u8 0] 215);have hb8:=after (after CJ.out d7) (boxed w7 (.cells #[.bool false,.int .u64 0,.int .u64 0,.int .u8 0] 215));have hP:=aH.new w7 215 #[.bool false,.int .u64 0,.int .u64 0,.int .u8 0];clear d7;generalize w7.alloc (.cells #[.bool false,.int .u64 0,.int .u64 0,.int .u8 0] 215)=w8 at ox hb8 hP⊢;have b0:=ox.cell 0;have b1:=ox.cell 1;have b2:=ox.cell 2;have b3:=ox.cell 3;have b4:=ox.cell 4;have b5:=ox.cell 5;have z0:=ox.frozen 0;have z1:=ox.frozen 1;have z2:=ox.frozen 2;have z3:=ox.frozen 3;have z4:=ox.frozen 4;have z5:=ox.frozen 5;have p0:=hP.cell 0;have p1:=hP.cell 1;have p2:=hP.cell 2;have p3:=hP.cell 3;simp at b0 b1 b2 b3 b4 b5 p0 p1 p2 p3;obtain⟨q1,q2⟩:=vW (v0:=.int .u8 6) (v1:=aG) (v2:=.bool false) (v3:=.int .u64 0) (v4:=.int .u64 0) (v5:=.int .u8 0) ox hb8 (ax _);obtain⟨Q1,Q2⟩:=aL q1 q2;clear q1 q2;go_wp2_with fail
    refine bodyPost_ret (bF rfl rfl rfl (pj Q1.out)) rfl ⟨⟨⟨6,lL,Pf.zero⟩,by rw[zy.out];rfl,fun x hx=>by rw[zy.out]at hx;cases hx⟩,Q2.out⟩
   |some n=>
    obtain⟨⟨a1,a2,a3⟩,a4⟩:=n;rw[hp]at lk zy;have ach:ag (∀(v:World),Below w.heap.size w v→Calls ah 215 #[.string T2] v (Got (.tuple #[.agg #[.bool a1,.int .u64 a2,.int .u64 a3,.int .u8 a4],.int .i64 0]) v)):=lk;go_upto_region 7 with(go_at_call 215;refine(ach.out _ CJ.out).mono ?_;rintro r w7⟨rfl,d7⟩)
    have ox:=(kQ.out.below d7 kQ.out.lt).alloc (.cells #[.bool a1,.int .u64 a2,.int .u64 a3,.int .u8 a4] 215);have hb8:=after (after CJ.out d7) (boxed w7 (.cells #[.bool a1,.int .u64 a2,.int .u64 a3,.int .u8 a4] 215));have hP:=aH.new w7 215 #[.bool a1,.int .u64 a2,.int .u64 a3,.int .u8 a4];clear d7;generalize w7.alloc (.cells #[.bool a1,.int .u64 a2,.int .u64 a3,.int .u8 a4] 215)=w8 at ox hb8 hP⊢;have b0:=ox.cell 0;have b1:=ox.cell 1;have b2:=ox.cell 2;have b3:=ox.cell 3;have b4:=ox.cell 4;have b5:=ox.cell 5;have z0:=ox.frozen 0;have z1:=ox.frozen 1;have z2:=ox.frozen 2;have z3:=ox.frozen 3;have z4:=ox.frozen 4;have z5:=ox.frozen 5;have p0:=hP.cell 0;have p1:=hP.cell 1;have p2:=hP.cell 2;have p3:=hP.cell 3;simp at b0 b1 b2 b3 b4 b5 p0 p1 p2 p3;obtain⟨q1,q2⟩:=vW (v0:=.int .u8 6) (v1:=aG) (v2:=.bool a1) (v3:=.int .u64 a2) (v4:=.int .u64 a3) (v5:=.int .u8 a4) ox hb8 (ax _);obtain⟨Q1,Q2⟩:=aL q1 q2;clear q1 q2;go_wp2_with fail
    refine bodyPost_ret (bF rfl rfl rfl (pj Q1.out)) rfl ⟨⟨⟨6,lL,⟨⟨a1,a2,a3⟩,a4⟩⟩,by rw[zy.out];rfl,fun x hx=>by rw[zy.out]at hx;injection hx⟩,Q2.out⟩
  ·have q6:((K:Int)==6)=false:=by simp;omega
   have hR:=jT.out;rw[if_neg h6]at hR;have zy:=ae hR;clear hR jT lk h6;have hM:=zf.out;have hgm:w.heap.size≠w.heap.size+1:=by omega
   generalize hLB:oS c2=LB at zy P1;clear hLB;by_cases h0:0<K
   ·have q0:(0:Int)<(K:Int):=by omega
    go_upto_region 8 with fail
    have b0:=gJ.cell 0;have b1:=gJ.cell 1;have b2:=gJ.cell 2;have b3:=gJ.cell 3;have b4:=gJ.cell 4;have b5:=gJ.cell 5;simp at b0 b1 b2 b3 b4 b5;refine wp_region_held_drew (S:=jB (w.heap.size+1) T1 K) bo (Hlk.out w6.drew (show ff w6.drew (w.heap.size+1) qX 5 from hM)) (fun hHeld=>?_);refine pP 0 ?_ (hy:=by(intro w hSw;unfold jB at hSw;go_simp;try with_reducible rfl));try simp only[ck]
    refine pP 1 ?_ (hy:=by(intro w hSw;unfold jB at hSw;go_simp;try with_reducible rfl));try simp only[ck]
    refine pP 2 ?_ (hy:=by(intro w hSw;unfold jB at hSw;go_simp;try with_reducible rfl));try simp only[ck]
    refine pP 3 ?_ (hy:=by(intro w hSw;unfold jB at hSw;go_simp;try with_reducible rfl));try simp only[ck]
    refine pP 4 ?_ (hy:=by(intro w hSw;unfold jB at hSw;go_simp;try with_reducible rfl));try simp only[ck]
    refine pP 5 ?_ (hy:=by(intro w hSw;unfold jB at hSw;go_simp;try with_reducible rfl));try simp only[ck]
    refine pP 6 ?_ (hy:=by(intro w hSw;unfold jB at hSw;go_simp;try with_reducible rfl));try simp only[ck]
    refine pP 7 ?_ (hy:=by(intro w hSw;unfold jB at hSw;go_simp;try with_reducible rfl));try simp only[ck]
    refine pP 8 ?_ (hy:=by(intro w hSw;unfold jB at hSw;go_simp;try with_reducible rfl));try simp only[ck]
    refine pP 9 ?_ (hy:=by(intro w hSw;unfold jB at hSw;go_simp;try with_reducible rfl));try simp only[ck]
    refine pP 10 ?_ (hy:=by(intro w hSw;unfold jB at hSw;go_simp;try with_reducible rfl));try simp only[ck]
    refine fA 11 fun K hK=>?_;go_simp;refine(P1.out _).mono ?_;rintro r w9⟨rfl,d9⟩;have hM:=ff.below (show ff w6.drew (w.heap.size+1) qX 5 from hM) d9 hM.lt;have gJ:=aH.below (show aH w6.drew w.heap.size 217 _ from gJ) d9 gJ.lt;have hb6:=after (show Below w.heap.size w w6.drew from⟨hb6.os,hb6.tape,hb6.output,hb6.size,hb6.block⟩) d9;have b0:=gJ.cell 0;have b1:=gJ.cell 1;have b2:=gJ.cell 2;have b3:=gJ.cell 3;have b4:=gJ.cell 4;have b5:=gJ.cell 5;simp at b0 b1 b2 b3 b4 b5;have z0:=gJ.frozen 0;have z1:=gJ.frozen 1;have z2:=gJ.frozen 2;have z3:=gJ.frozen 3;have z4:=gJ.frozen 4;have z5:=gJ.frozen 5;refine hK.out _ _ (Hlk.out w9 hM) (fun hHeld=>?_);clear hK K;try simp only[ck]
    refine pP 12 ?_ (hy:=by(intro w hSw;unfold jB at hSw;go_simp;try with_reducible rfl));try simp only[ck]
    refine fA 13 fun K hK=>?_;go_simp;refine hK.out _ _ (Hlk.out _ (ff.aet hM hgm)) (fun hHeld=>?_);clear hK K;try simp only[ck]
    refine pP 14 ?_ (hy:=by(intro w hSw;unfold jB at hSw;go_simp;try with_reducible rfl));try simp only[ck]
    refine lN ?_;go_wp2_with fail
    obtain⟨q1,q2⟩:=vW (v0:=.int .u8 K) (v1:=.string T2) (v2:=.bool false) (v3:=.int .u64 0) (v4:=.int .u64 0) (v5:=.int .u8 0) gJ hb6 (ax _);refine bodyPost_ret (bF rfl rfl rfl (pj q1)) rfl ⟨⟨⟨K,T2,Pf.zero⟩,?_,?_⟩,q2⟩
    ·rw[zy.out];cases LB with
     |true=>rw[if_pos ⟨h0,rfl⟩];rfl
     |false=>rw[if_neg (by simp)];rfl
    ·intro x hx;rw[zy.out]at hx;split at hx
     ·injection hx
     ·cases hx
   ·obtain rfl:K=0:=by omega
    go_upto_region 8 with fail
    have b0:=gJ.cell 0;have b1:=gJ.cell 1;have b2:=gJ.cell 2;have b3:=gJ.cell 3;have b4:=gJ.cell 4;have b5:=gJ.cell 5;simp at b0 b1 b2 b3 b4 b5;have z0:=gJ.frozen 0;have z1:=gJ.frozen 1;have z2:=gJ.frozen 2;have z3:=gJ.frozen 3;have z4:=gJ.frozen 4;have z5:=gJ.frozen 5;refine wp_region_held_drew (S:=jB (w.heap.size+1) T1 0) bo (Hlk.out w6.drew (show ff w6.drew (w.heap.size+1) qX 5 from hM)) (fun hHeld=>?_);refine pP 0 ?_ (hy:=by(intro w hSw;unfold jB at hSw;go_simp;try with_reducible rfl));try simp only[ck]
    refine pP 1 ?_ (hy:=by(intro w hSw;unfold jB at hSw;go_simp;try with_reducible rfl));try simp only[ck]
    refine pP 2 ?_ (hy:=by(intro w hSw;unfold jB at hSw;go_simp;try with_reducible rfl));try simp only[ck]
    refine pP 3 ?_ (hy:=by(intro w hSw;unfold jB at hSw;go_simp;try with_reducible rfl));try simp only[ck]
    refine pP 4 ?_ (hy:=by(intro w hSw;unfold jB at hSw;go_simp;try with_reducible rfl));try simp only[ck]
    refine pP 5 ?_ (hy:=by(intro w hSw;unfold jB at hSw;go_simp;try with_reducible rfl));try simp only[ck]
    refine pP 6 ?_ (hy:=by(intro w hSw;unfold jB at hSw;go_simp;try with_reducible rfl));try simp only[ck]
    refine pP 7 ?_ (hy:=by(intro w hSw;unfold jB at hSw;go_simp;try with_reducible rfl));try simp only[ck]
    refine pP 8 ?_ (hy:=by(intro w hSw;unfold jB at hSw;go_simp;try with_reducible rfl));try simp only[ck]
    refine pP 9 ?_ (hy:=by(intro w hSw;unfold jB at hSw;go_simp;try with_reducible rfl));try simp only[ck]
    refine tj 10 ?_
    refine tj 11 ?_
    refine pP 12 ?_ (hy:=by(intro w hSw;unfold jB at hSw;go_simp;try with_reducible rfl));try simp only[ck]
    refine fA 13 fun K hK=>?_;go_simp;refine hK.out _ _ (Hlk.out _ (ff.aet hM hgm).drw) (fun hHeld=>?_);clear hK K;try simp only[ck]
    refine pP 14 ?_ (hy:=by(intro w hSw;unfold jB at hSw;go_simp;try with_reducible rfl));try simp only[ck]
    refine lN ?_;go_wp2_with fail
    obtain⟨q1,q2⟩:=vW (v0:=.int .u8 0) (v1:=.string T2) (v2:=.bool false) (v3:=.int .u64 0) (v4:=.int .u64 0) (v5:=.int .u8 0) gJ hb6 (ax _);refine bodyPost_ret (bF rfl rfl rfl (pj q1.drew)) rfl ⟨⟨⟨0,T2,Pf.zero⟩,?_,?_⟩,q2.drew⟩
    ·rw[zy.out,if_neg (by simp)];rfl
    ·intro x hx;rw[zy.out,if_neg (by simp)]at hx;cases hx
open Go.Sort
theorem T0{w:World}(env:Env w)(u:Nat)(hu:u<65536):Calls ah 207 #[.int .u64 u,.int .i64 10] w (Got (.string ⟨(cP u).toArray⟩) w):=by
 by_cases hs:u<100
 ·have q1:(u:Int)<100:=by omega
  have HS:=ae fun v=>Tryz.internal_strconv_small u hs v
  have hb0:=aI w.heap.size w;clear hs env;go_enter Tryz.func207,Tryz.ntmps207;go_wp2_with(go_at_call 229;refine(HS.out _).mono ?_;rintro r w2⟨rfl,rfl⟩)
  go_ret;exact⟨rfl,hb0⟩
 ·have q1:¬(u:Int)<100:=by omega
  have hu1:1≤u:=by omega
  have hu64:u<18446744073709551616:=by omega
  have hnd20:Lib.nDigits u≤20:=by have:=Lib.numDigits_eq u hu1 hu64;split at this<;>omega
  have hal:ah.arrayLen 302=24:=by simp[Program.arrayLen,Tryz.underlying302]
  have hsl:∀W,(Instr.sliceAt 302 (.pointer (some ⟨w.heap.size,0,none⟩)) none (some (.int .i64 (Lib.nDigits u:Int))) none).run ah W=.ok (.slice (some ⟨w.heap.size,0,none⟩) (Lib.nDigits u) 24) W:=fun W=>by
   rw[run_sliceAt_array_h W 302 ⟨w.heap.size,0,none⟩ (by simp[Program.arrayLen,Program.elem,Tryz.underlying302]) .i64 (Lib.nDigits u:Int) aR (by rw[hal];omega)];go_simp;try omega
  have hH0:=Lib.holds_zero0 w 302 (Lib.nDigits u) aR;have hfmt:=Tryz.internal_strconv_formatBase10 w.heap.size 0 24 u (Array.replicate (Lib.nDigits u) 0) (w.alloc (.cells Lib.zeros24 302)) hH0 (by rw[Array.size_replicate];exact Lib.lt_pow_nDigits u) hu64 (by rw[Array.size_replicate];omega);rw[Array.size_replicate]at hfmt;rw[show Lib.zeros24= #[.int .u8 0,.int .u8 0,.int .u8 0,.int .u8 0,.int .u8 0,.int .u8 0,.int .u8 0,.int .u8 0,.int .u8 0,.int .u8 0,.int .u8 0,.int .u8 0,.int .u8 0,.int .u8 0,.int .u8 0,.int .u8 0,.int .u8 0,.int .u8 0,.int .u8 0,.int .u8 0,.int .u8 0,.int .u8 0,.int .u8 0,.int .u8 0]from rfl]at hfmt hH0;obtain⟨HH0,HF⟩:=aL hH0 hfmt;have HN:=ae fun v(hv:aW w v)=>Tryz.internal_strconv_numDigits u hu1 hu64 v (env.below hv).pow
  have hba:=boxed w (.cells #[.int .u8 0,.int .u8 0,.int .u8 0,.int .u8 0,.int .u8 0,.int .u8 0,.int .u8 0,.int .u8 0,.int .u8 0,.int .u8 0,.int .u8 0,.int .u8 0,.int .u8 0,.int .u8 0,.int .u8 0,.int .u8 0,.int .u8 0,.int .u8 0,.int .u8 0,.int .u8 0,.int .u8 0,.int .u8 0,.int .u8 0,.int .u8 0] 302);clear hH0 hal hfmt env hs hu hu1 hu64;go_enter Tryz.func207,Tryz.ntmps207;go_wp2_with(go_at_call 230;refine(HN.out _ hba).mono ?_;rintro r w2⟨rfl,rfl⟩)
  go_at_call 231;refine HF.out.mono ?_;rintro e W⟨rfl,k,v',dk,hW,hF⟩;have hcv:(convert 71 9 (.slice (some ⟨w.heap.size,0,none⟩) (Lib.nDigits u) 24)).run ah W=.ok (.string ⟨(cP u).toArray⟩) W:=by
   have h:=run_convert_bytes_back (P:=ah) W 71 9 5 ⟨w.heap.size,0,none⟩ 24 (cP u) cT Tryz.underlying5 bq (fun j hj=>by
    rw[hW,Lib.row_is_numeral hF j hj,Lib.add_plain,World.cell?_drewN];exact cell?_putRow (fun(b:UInt8)=>Value.int .u8 (b.toNat:Int)) _ w.heap.size 0 _ dk HH0.out (by rw[hF.size,Array.size_replicate]) j (by rw[hF.size];rw[Lib.decDigits_length]at hj;exact hj))
   rw[Lib.decDigits_length]at h;exact h
  have hbW:aW w W:=by
   rw[hW];obtain⟨os,eo⟩:=Lib.fin_at w (.cells #[.int .u8 0,.int .u8 0,.int .u8 0,.int .u8 0,.int .u8 0,.int .u8 0,.int .u8 0,.int .u8 0,.int .u8 0,.int .u8 0,.int .u8 0,.int .u8 0,.int .u8 0,.int .u8 0,.int .u8 0,.int .u8 0,.int .u8 0,.int .u8 0,.int .u8 0,.int .u8 0,.int .u8 0,.int .u8 0,.int .u8 0,.int .u8 0] 302) dk k 0;rw[eo];exact Lib.below_grow _ _ (ax _) _ _
  clear hW hF;go_wp2_with fail
  go_ret;exact⟨rfl,hbW⟩
theorem fmt10{w:World}(env:Env w)(u:Nat)(hu:u<65536):Calls ah 182 #[.int .u64 u,.int .i64 10] w (Got (.string ⟨(cP u).toArray⟩) w):=by
 have H:=ae (T0 env u hu);clear env;go_enter Tryz.func182,Tryz.ntmps182;go_wp2_with(go_at_call 207;refine H.out.mono ?_;rintro r w2⟨rfl,d2⟩)
 go_ret;exact⟨rfl,d2⟩
theorem Zh{w:World}(env:Env w)(t:ByteArray)(hs:t.size≤4000000):Calls ah 238 #[.string t,.int .i64 10,.int .i64 16] w (Aq 10 65536 t.data.toList w):=by
 have hn:=Jb (B:=16) aJ t.data.toList;rcases h:Lib.parseUintB 16 t.data.toList with u|_|_
 ·rw[h]at hn;refine(Tryz.strconv_ParseUint_10_at16_ok t aR u h w).mono ?_;rintro e w'⟨rfl,hw⟩;refine⟨Or.inl ⟨u,hn,rfl⟩,?_⟩;rcases hw with rfl|rfl
  ·exact aI _ _
  ·exact Lib.bytesWorld_below _ _ _
 ·rw[h]at hn;obtain⟨tp,p,hv⟩:=env.es;refine(Any.strconv_ParseUint_10_at16_syntax Tryz.laysPu14 t aR h (.iface tp p) w hv (Or.inr ⟨tp,p,rfl⟩)).mono ?_;rintro e w'⟨N,rfl,_,_,hb⟩;exact⟨Or.inr ⟨hn,0,_,_,by decide,rfl⟩,hb⟩
 ·rw[h]at hn;obtain⟨tp,p,hv⟩:=env.er;refine(Tryz.strconv_ParseUint_10_at16_range t aR h (.iface tp p) w hv (Or.inr ⟨tp,p,rfl⟩)).mono ?_;rintro e w'⟨N,rfl,_,_,hb⟩;exact⟨Or.inr ⟨hn,65535,_,_,by decide,rfl⟩,hb⟩
def Zi(o:Option Nat)(w:World)(r:Ending)(w':World):Prop:=(∃n:Nat,n<65536∧r=.returned (.tuple #[.int .u16 n,.bool o.isSome])∧∀x,o=some x→n=x)∧aW w w'
theorem FI{w:World}(env:Env w)(s:ByteArray)(hs:s.size≤4000000):Calls ah 241 #[.string s] w (Zi (uD s.data.toList) w):=by
 have hpu:=Zh env s hs;have hfm:=fun v(hv:aW w v)u hu=>fmt10 (env.below hv) u hu
 obtain⟨HPU,HFM⟩:=aL hpu hfm;obtain⟨R,hR⟩:=bw (uD s.data.toList);rw[←hR];have HR:=ae hR;clear hpu hfm env hR hs;go_enter Tryz.func241,Tryz.ntmps241;go_wp2_with fail
 go_at_call 238;refine HPU.out.mono ?_;rintro e w1⟨⟨n,hn,rfl⟩|⟨hn,n,tp,p,ab6,rfl⟩,hb⟩
 ·have hlt:=nt hn;have hres:R=if cP n=s.data.toList then some n else none:=by
   rw[HR.out];unfold uD;rw[hn];rfl
  have hss:((⟨(cP n).toArray⟩:ByteArray).toList==s.toList)=decide (cP n=s.data.toList):=by
   rw[cE,cE];by_cases e:cP n=s.data.toList
   ·rw[decide_eq_true e];simp[e]
   ·rw[decide_eq_false e,beq_eq_false_iff_ne];exact e
  obtain⟨HF,vE⟩:=aL (HFM.out w1 hb n hlt) hres;obtain⟨D,hD⟩:=bw (decide (cP n=s.data.toList));rw[←hD]at hss;have HD:=ae hD;have i1:IntKind.u16.wrap (n:Int)=(n:Int):=by rw[IntKind.wrap_u16];omega
  generalize(⟨(cP n).toArray⟩:ByteArray)=TT at hss HF;have Hb:=ae hb;clear hn hres hD hb HR HPU HFM;go_wp2_with(go_at_call 182;refine HF.out.mono ?_;rintro r w2⟨rfl,d2⟩)
  go_ret2;refine⟨⟨n,hlt,?_,fun x hx=>?_⟩,after Hb.out d2⟩
  ·rw[vE.out,HD.out];by_cases e:cP n=s.data.toList
   ·rw[if_pos e,decide_eq_true e];rfl
   ·rw[if_neg e,decide_eq_false e];rfl
  ·rw[vE.out]at hx;split at hx
   ·injection hx
   ·cases hx
 ·have hres:R=none:=by
   rw[HR.out];unfold uD;rw[hn];rfl
  obtain⟨vE,Hb⟩:=aL hres hb;obtain⟨M,hM⟩:∃M:Nat,IntKind.u16.wrap (n:Int)=(M:Int)∧M<65536:=⟨n%65536,by rw[IntKind.wrap_u16];omega,by omega⟩;have i1:=hM.1;clear hn hres hb HR HPU HFM;go_wp2_with fail
  go_ret2;refine⟨⟨M,hM.2,?_,fun x hx=>?_⟩,Hb.out⟩
  ·rw[vE.out];rfl
  ·rw[vE.out]at hx;cases hx
def T8(o:Option (Nat×Nat))(w:World)(r:Ending)(w':World):Prop:=(∃a b:Nat,a<65536∧b<65536∧r=.returned (.tuple #[.agg #[.int .u16 a,.int .u16 b],.bool o.isSome])∧∀x,o=some x→x=(a,b))∧aW w w'
theorem MW{w:World}{g:Nat}{a b:Value}(h:aH w g 290 #[a,b]):(loadVar 290 ⟨g,0,none⟩).run ah w=.ok (.agg #[a,b]) w:=by
 have h0:=h.cell 0;have h1:=h.cell 1;simp at h0 h1;simp[loadVar,go_sem,h0,h1]
theorem AB(o1 o2:Option Nat)(n1 n2:Nat)(R:Option (Nat×Nat))(hR:R=match o1,o2 with
 |some a,some b=>if a≤b then some (a,b)else none
 |_,_=>none) (h1:∀x,o1=some x→n1=x) (h2:∀x,o2=some x→n2=x):R.isSome=(o1.isSome&&o2.isSome&&decide (n1≤n2))∧∀x,R=some x→x=(n1,n2):=by
 subst hR;cases o1 with
 |none=>exact⟨rfl,fun x hx=>by cases hx⟩
 |some a=>
  cases o2 with
  |none=>exact⟨rfl,fun x hx=>by cases hx⟩
  |some b=>
   obtain rfl:=h1 _ rfl;obtain rfl:=h2 _ rfl;by_cases h:n1≤n2
   ·simp[h]
   ·simp[h]
theorem AE{w:World}(env:Env w)(s:ByteArray)(hs:s.size≤2000000):Calls ah 218 #[.string s] w (T8 (mA s) w):=by
 have hB0:=aH.new w 290 #[.int .u16 0,.int .u16 0];have hb0:=boxed w (.cells #[.int .u16 0,.int .u16 0] 290);obtain⟨mx,hmx⟩:=(env.below hb0).mx;have hcut:=Tryz.strings_Cut s ⟨#[45]⟩ mx _ aR hmx;have hcl:=vV s.data.toList [45];rw[show(⟨#[45]⟩:ByteArray).data.toList=[45]from rfl]at hcut;obtain⟨RES,eV⟩:=bw (mA s);rw[←eV];unfold mA at eV;simp only at eV;generalize Lib.cut s.data.toList [45]=C at hcl hcut eV;obtain⟨c1,c2,gap⟩:=C;simp only at hcl hcut eV;rw[show s.data.toList.length=s.size from(Lib.size_eq s).symm]at hcl;have hp1:=fun v(hv:aW w v)=>FI (env.below hv) ⟨c1.toArray⟩ (by rw[show(⟨c1.toArray⟩:ByteArray).size=c1.length by simp[ahT]];omega)
 have hp2:=fun v(hv:aW w v)=>FI (env.below hv) ⟨(if gap=true then c2 else c1).toArray⟩ (by rw[show(⟨(if gap=true then c2 else c1).toArray⟩:ByteArray).size=(if gap=true then c2 else c1).length by simp[ahT]];split<;>omega)
 rw[show(⟨c1.toArray⟩:ByteArray).data.toList=c1 from rfl]at hp1;rw[show(⟨(if gap=true then c2 else c1).toArray⟩:ByteArray).data.toList=(if gap=true then c2 else c1)from rfl]at hp2;obtain⟨od,jT,Hb0,HB0,zx⟩:=eB hp1 eV hb0 hB0 hcut;clear hp1 eV hcut hcl hmx env hb0 hB0;obtain⟨X,hX⟩:=bw ((if gap=true then c2 else c1));rw[←hX]at hp2 jT;have HP2:=ae hp2;clear hp2;go_enter Tryz.func218,Tryz.ntmps218;go_upto_region 2 with(go_at_call 236;refine zx.out.mono ?_;rintro r wq⟨rfl,nq,rfl⟩)
 obtain⟨w1,hw1⟩:=bw (((w.alloc (.cells #[.int .u16 0,.int .u16 0] 290)).drewN nq));have Hb1:ag (aW w w1):=by subst hw1;exact ae ⟨Hb0.out.os,Hb0.out.tape,Hb0.out.output,Hb0.out.size,Hb0.out.block⟩
 have HB1:ag (aH w1 w.heap.size 290 #[.int .u16 0,.int .u16 0]):=by subst hw1;exact HB0
 rw[←hw1];clear hw1 Hb0 HB0 zx;cases gap with
 |true=>
  simp only[if_true]at hX;subst hX;go_upto_region 4 with fail
  go_upto_region 5 with(go_at_call 241;refine(od.out _ Hb1.out).mono ?_;rintro r w2⟨⟨n1,hn1,rfl,hx1⟩,d2⟩)
  have Hb2:=bg Hb1 d2;have HB2:=ae (HB1.out.below d2 HB1.out.lt);clear d2 Hb1 HB1 od;have Hx1:=ae hx1;clear hx1;go_upto_region 6 with(go_at_call 241;refine(HP2.out _ Hb2.out).mono ?_;rintro r w3⟨⟨n2,hn2,rfl,hx2⟩,d3⟩)
  have Hb3:=bg Hb2 d3;obtain⟨HB3,Hx2⟩:=aL (HB2.out.below d3 HB2.out.lt) hx2;clear d3 Hb2 HB2 HP2 hx2;have b0:=HB3.out.cell 0;have b1:=HB3.out.cell 1;have z0:=HB3.out.frozen 0;have z1:=HB3.out.frozen 1;simp at b0 b1 z0 z1;go_wp2_with fail
  all_goals
   obtain⟨e1,e2⟩:=AB _ _ n1 n2 RES jT.out Hx1.out Hx2.out;have s0:aH (w3.setCell ⟨w.heap.size,0,none⟩ (.int .u16 n1)) w.heap.size 290 #[.int .u16 n1,.int .u16 0]:=HB3.out.aM 0 _;have s1:aH ((w3.setCell ⟨w.heap.size,0,none⟩ (.int .u16 n1)).setCell ⟨w.heap.size,1,none⟩ (.int .u16 n2)) w.heap.size 290 #[.int .u16 n1,.int .u16 n2]:=s0.aM 1 _;have q:=(Hb3.out.setCell (p:=⟨w.heap.size,0,none⟩) (ax _) (.int .u16 n1)).setCell (p:=⟨w.heap.size,1,none⟩) (ax _) (.int .u16 n2);refine bodyPost_ret (bF rfl rfl rfl (MW s1)) rfl ⟨⟨n1,n2,hn1,hn2,?_,e2⟩,q⟩;rw[e1];simp[*]
 |false=>
  simp only[Bool.false_eq_true,if_false]at hX;subst hX;go_upto_region 4 with fail
  go_upto_region 5 with(go_at_call 241;refine(od.out _ Hb1.out).mono ?_;rintro r w2⟨⟨n1,hn1,rfl,hx1⟩,d2⟩)
  have Hb2:=bg Hb1 d2;have HB2:=ae (HB1.out.below d2 HB1.out.lt);clear d2 Hb1 HB1 od;have Hx1:=ae hx1;clear hx1;go_upto_region 6 with(go_at_call 241;refine(HP2.out _ Hb2.out).mono ?_;rintro r w3⟨⟨n2,hn2,rfl,hx2⟩,d3⟩)
  have Hb3:=bg Hb2 d3;obtain⟨HB3,Hx2⟩:=aL (HB2.out.below d3 HB2.out.lt) hx2;clear d3 Hb2 HB2 HP2 hx2;have b0:=HB3.out.cell 0;have b1:=HB3.out.cell 1;have z0:=HB3.out.frozen 0;have z1:=HB3.out.frozen 1;simp at b0 b1 z0 z1;go_wp2_with fail
  all_goals
   obtain⟨e1,e2⟩:=AB _ _ n1 n2 RES jT.out Hx1.out Hx2.out;have s0:aH (w3.setCell ⟨w.heap.size,0,none⟩ (.int .u16 n1)) w.heap.size 290 #[.int .u16 n1,.int .u16 0]:=HB3.out.aM 0 _;have s1:aH ((w3.setCell ⟨w.heap.size,0,none⟩ (.int .u16 n1)).setCell ⟨w.heap.size,1,none⟩ (.int .u16 n2)) w.heap.size 290 #[.int .u16 n1,.int .u16 n2]:=s0.aM 1 _;have q:=(Hb3.out.setCell (p:=⟨w.heap.size,0,none⟩) (ax _) (.int .u16 n1)).setCell (p:=⟨w.heap.size,1,none⟩) (ax _) (.int .u16 n2);refine bodyPost_ret (bF rfl rfl rfl (MW s1)) rfl ⟨⟨n1,n2,hn1,hn2,?_,e2⟩,q⟩;rw[e1];simp[*]
def jU(c:UInt8)(s:ByteArray):List ByteArray:=(dx c s.data.toList).map iJ
theorem rP(c:UInt8)(s:ByteArray):(jU c s).map (·.data.toList)=dx c s.data.toList:=by
 unfold jU;rw[List.map_map];exact List.map_id _
theorem FK{c:UInt8}{s:ByteArray}:∀t∈jU c s,t.size≤s.size:=by
 intro t ht;obtain⟨x,hx,rfl⟩:=List.mem_map.1 ht;have:=uJ hx;rw[show s.data.toList.length=s.size from(Lib.size_eq s).symm]at this;show(x.toArray).size≤s.size;rw[List.size_toArray];exact this
theorem qG(c:UInt8)(s:ByteArray):(jU c s).length≤s.size+1:=by
 unfold jU;rw[ay];have:=qB c s.data.toList;rw[show s.data.toList.length=s.size from(Lib.size_eq s).symm]at this;omega
theorem xE{w:World}(env:Env w)(s:ByteArray)(hs:s.size≤2000000)(c:UInt8):Calls ah 158 #[.string s,.string ⟨#[c]⟩] w fun r w'=>r=.returned (.slice (some ⟨w.heap.size,0,none⟩) (jU c s).length (jU c s).length)∧w'=w.alloc (.cells ((jU c s).map bN).toArray 9):=by
 obtain⟨m,hm⟩:=env.mx;have HS:=Tryz.strings_Split s ⟨#[c]⟩ m w aR hm (show 1≤1 from ax _);have hsp:=xb s ⟨#[c]⟩ c rfl;have hP:Lib.splitB ⟨#[c]⟩ 0 (Lib.countB s ⟨#[c]⟩) s=jU c s:=by
  unfold jU;rw[←hsp,List.map_map];exact(List.map_id _).symm
 have hcount:Lib.countB s ⟨#[c]⟩+1=(jU c s).length:=by
  have:=Lib.splitB_all (⟨#[c]⟩:ByteArray) (show 1≤1 from ax _) 0 (Lib.countB s ⟨#[c]⟩) s rfl;rw[hP]at this;omega
 rw[hcount,hP]at HS;exact HS.mono fun r w' h=>h
def CM:List SE:=[⟨BW,.int .u8 1,0⟩,⟨MQ,.int .u8 6,1⟩,⟨MR,.int .u8 17,2⟩]
theorem zz{w:World}{m clock:Nat}(h:ff w m CM clock)(s:ByteArray):(Instr.lookup 315 (.map (some m)) (.string s) false).run ah w=.ok (.int .u8 (gZ s.data.toList:Int)) w:=by
 have hT:=Tryz.underlying315;have hK:=bq;unfold gZ;rw[rE];by_cases e1:s=BW
 ·subst e1;rw[if_pos rfl];exact fW hT hK h _ (j:=0) (x:=⟨BW,.int .u8 1,0⟩) (by decide+kernel) rfl
 rw[if_neg e1];by_cases e2:s=MQ
 ·subst e2;rw[if_pos rfl];exact fW hT hK h _ (j:=1) (x:=⟨MQ,.int .u8 6,1⟩) (by decide+kernel) rfl
 rw[if_neg e2];by_cases e3:s=MR
 ·subst e3;rw[if_pos rfl];exact fW hT hK h _ (j:=2) (x:=⟨MR,.int .u8 17,2⟩) (by decide+kernel) rfl
 rw[if_neg e3];refine mN hT hK h s ?_ (Tryz.zeroValue5 w);unfold at_ CM;simp only[List.findIdx?_cons,List.findIdx?_nil];rw[dH (Ne.symm e1),dH (Ne.symm e2),dH (Ne.symm e3)];rfl
theorem FM(w0:World):∃w1 w2 w3:World,(Instr.mapUpdate 315 (.map (some w0.heap.size)) (.string ⟨#[105,99,109,112]⟩) (.int .u8 1)).run ah (w0.alloc (.map #[] 0))=.ok () w1∧(Instr.mapUpdate 315 (.map (some w0.heap.size)) (.string ⟨#[116,99,112]⟩) (.int .u8 6)).run ah w1=.ok () w2∧(Instr.mapUpdate 315 (.map (some w0.heap.size)) (.string ⟨#[117,100,112]⟩) (.int .u8 17)).run ah w2=.ok () w3∧ff w3 w0.heap.size CM 3∧aW w0 w3:=by
 have hT:=Tryz.underlying315;have hK:=bq;have h0:ff (w0.alloc (.map #[] 0)) w0.heap.size [] 0:=heap_alloc_new w0 _;obtain⟨w1,e1,_,_,k1,m1⟩:=fx (P:=ah) hT hK h0 ⟨#[105,99,109,112]⟩ (by decide+kernel) (.int .u8 1);obtain⟨w2,e2,_,_,k2,m2⟩:=fx (P:=ah) hT hK m1 ⟨#[116,99,112]⟩ (by decide+kernel) (.int .u8 6);obtain⟨w3,e3,_,_,k3,m3⟩:=fx (P:=ah) hT hK m2 ⟨#[117,100,112]⟩ (by decide+kernel) (.int .u8 17);refine⟨w1,w2,w3,e1,e2,e3,m3,?_⟩;exact(boxed w0 _).trans (Keeps.below ((k1.trans k2).trans k3) (fun k hk=>by rw[hk];exact ax _) (by simp))
def eO(l:List Nat):List Value:=l.map fun x:Nat=>Value.int .u8 (x:Int)
def gx(o:Option (List Nat))(w:World)(r:Ending)(w':World):Prop:=(match o with
 |none=>r=.returned (.tuple #[au,.bool false])
 |some L=>∃v:Value,r=.returned (.tuple #[v,.bool true])∧w'.ownsRow w.heap.size 5 1 v L.length (eO L))∧aW w w'
theorem gx.bad{W w':World}{o:Option (List Nat)}(h:o=none)(hb:aW W w'):gx o W (.returned (.tuple #[au,.bool false])) w':=by rw[h];exact⟨rfl,hb⟩
theorem gx.good{W w':World}{o:Option (List Nat)}{L:List Nat}{v:Value}(h:o=some L)(ho:w'.ownsRow W.heap.size 5 1 v L.length (eO L))(hb:aW W w'):gx o W (.returned (.tuple #[v,.bool true])) w':=by rw[h];exact⟨⟨v,rfl,ho⟩,hb⟩
theorem T9:(ah.info? 5).map (fun i=>(i.zero,i.size,i.bytes))=some (some (.int .u8 0),1,1):=by kernel_rfl
def pn(l:List Nat):Nat:=(l[l.length-1]?).getD 0
theorem JF{l:List Nat}(h:0<l.length):(eO l)[l.length-1]? =some (.int .u8 (pn l:Int)):=by
 unfold eO pn;rw[bO,af aR];rfl
theorem xF(l:List Nat)(x:Nat):pn (l++[x])=x:=by simp[pn]
theorem oe(l:List Nat)(x:Nat):eO (l++[x])=eO l++[.int .u8 x]:=by simp[eO]
theorem P2(w:List UInt8):gZ w≤17:=by unfold gZ;split;omega;split;omega;split<;>omega
theorem zA{last:Nat}{acc:List Nat}{t:List UInt8}{r:List (List UInt8)}:(fQ last (t::r)).map (acc++·)=if gZ t=0∨gZ t≤last then none else(fQ (gZ t) r).map ((acc++[gZ t])++·):=by
 rw[fQ];split
 ·rfl
 ·rw[Option.map_map];congr 1;funext x;simp
theorem JG{w:World}(env:Env w)(s:ByteArray)(hs:s.size≤2000000):Calls ah 216 #[.string s] w (gx (iW s) w):=by
 by_cases hst:s=MP
 ·subst hst;rw[show iW MP=some [] by unfold iW;rw[if_pos rfl]];unfold MP;have hb0:=aI w.heap.size w;clear env hs;go_enter Tryz.func216,Tryz.ntmps216;go_wp2_with fail
  go_ret2;exact gx.good (v:=au) rfl (bh _ _ _ _) hb0
 ·have hss:(s.toList==[97,110,121])=false:=by
   rw[beq_eq_false_iff_ne];intro h;rw[cE]at h;exact hst (ahX (Array.ext' h))
  obtain⟨i0,hi,hz0,hz1,hz2⟩:=info_parts T9;have hmm:= @run_makeMap ah;obtain⟨w1,w2,w3,e1,e2,e3,hM,hbm⟩:=FM w;have hsp:=xE (env.below hbm) s hs 44;obtain⟨RES,eV⟩:=bw (iW s);rw[←eV];unfold iW at eV;rw[if_neg hst,←rP]at eV;have PD:=qG 44 s;generalize jU 44 s=F at hsp eV PD;obtain⟨N,hN⟩:=bw F.length;rw[←hN]at hsp PD;have hN1:N≤2000001:=by omega
  have EF:=ae hsp;have jT:ag (RES=(fQ (pn []) ((F.map (·.data.toList)).drop 0)).map (([]:List Nat)++·)):=ae (by rw[eV];simp[pn]);obtain⟨HN,HM,Hbm⟩:=bz hN hM hbm;have hsz3:w.heap.size<w3.heap.size:=hM.lt;clear hsp eV hM hbm hN hst env PD;go_enter Tryz.func216,Tryz.ntmps216;go_wp2_with(go_at_call 158;refine EF.out.mono ?_;rintro r wq⟨rfl,rfl⟩)
  have hrow:aH (w3.alloc (.cells (F.map bN).toArray 9)) w3.heap.size 9 (F.map bN).toArray:=aH.new _ _ _;have hb1:=boxed w3 (.cells (F.map bN).toArray 9);have Hb0:=bg Hbm hb1;obtain⟨HM0,zr⟩:=aL (HM.out.below hb1 HM.out.lt) hrow;have hsz0:w3.heap.size<(w3.alloc (.cells (F.map bN).toArray 9)).heap.size:=by simp
  clear e1 e2 e3 hmm hb1 hrow EF Hbm HM;generalize w3.alloc (.cells (F.map bN).toArray 9)=W0 at Hb0 HM0 zr hsz0⊢;generalize w3.heap.size=gR at zr hsz0 hsz3⊢;have hmW:w.heap.size<W0.heap.size:=by omega
  go_loopw [2,15] (fun v2 v15 wr=>∃(k:Nat)(acc:List Nat)(A:Option Addr)(cap:Nat),k≤N∧v15=.int .i64 k∧v2=.slice A acc.length cap∧acc.length≤k∧ag (wr.ownsRow W0.heap.size 5 1 (.slice A acc.length cap) acc.length (eO acc))∧ag (aW W0 wr)∧ag (RES=(fQ (pn acc) ((F.map (·.data.toList)).drop k)).map (acc++·))) (fun _ v15 _=>N-(intOf v15).toNat)
  case atStart=>exact⟨0,[],none,0,Nat.zero_le _,rfl,rfl,by simp,ae (bh _ _ _ _),ae (aI _ _),jT⟩
  case round=>
   obtain⟨k,acc,A,cap,hk,rfl,rfl,hak,hown,hb,hres⟩:=hrel;by_cases hlt:k<N
   ·have Jj:k<F.length:=by have:=HN.out;omega
    have cx:=(hb.out.cell (p:=⟨gR,k,none⟩) hsz0).trans (zr.out.cell k);rw[List.getElem?_toArray,bO,af Jj]at cx;simp only[Option.map_some]at cx;have hres2:=hres.out;rw[←List.map_drop,bT Jj,List.map_cons,zA,List.map_drop]at hres2;generalize F[k]'Jj=T at cx hres2;have hlk:=zz (HM0.out.below hb.out hmW) T;have ago:=P2 T.data.toList;generalize gZ T.data.toList=x at hres2 hlk ago;have fm:=ae hres2;clear hres2 hres Jj;by_cases hx0:x=0
    ·subst hx0;have hR:=fm.out;rw[if_pos (Or.inl rfl)]at hR;have HR:=ae hR;clear hR fm;go_wp2_with fail
     go_ret2;exact gx.bad HR.out (after Hb0.out hb.out)
    have q0:((x:Int)==0)=false:=by simp;omega
    by_cases hac:acc.length=0
    ·obtain rfl:=List.eq_nil_of_length_eq_zero hac;have hR:=fm.out;rw[if_neg (by simp[pn];omega)]at hR;have HRn:ag (RES=(fQ (pn ([]++[x])) ((F.map (·.data.toList)).drop (k+1))).map (([]++[x])++·)):=ae (by rw[xF];exact hR);clear hR fm hx0;go_wp2_with(at_builtin;refine wpList_append_own _ rfl _ _ 71 rfl W0.heap.size 5 i0 (.int .u8 0) 1 1 cT hi hz0 hz1 hz2 rfl aJ _ 0 _ rfl (hown.out.alloc _) ⟨wr.heap.size,0,none⟩ 1 1 [.int .u8 x] rfl rfl (cell_one_new _ _ _) (fun x hx=>by simp at hx;subst hx;rfl) (by unfold maxLen;omega) aR (by have:=hb.out.size;simp;omega) ?_;intro v' w3 hown' hgrow3 hnil3;have Tt:=ae hown';have hbW:=ae ((hb.out.alloc (hb.out.size) _).grown hgrow3 (by have:=hb.out.size;simp;omega) (fun q hq=>(hown.out.lt q hq).1));clear hown' hgrow3 hnil3)
     obtain⟨A',cap',rfl⟩:=aX Tt.out;go_roundw
     case rel=>exact⟨k+1,[]++[x],A',cap',by omega,by go_num,by rw[aj];rfl,by rw[aj,dn];simp,ae (by rw[oe,aj];exact Tt.out),hbW,HRn⟩
     case measure=>simp[intOf];omega
    ·have hpos:0<acc.length:=by omega
     have hl:=JF hpos;rcases hown.out.2 with⟨e,_⟩|⟨g,cap2,cur,e,hrest⟩
     ·injection e with e1 e2 e3
      exact absurd e2 hac
     injection e with e1 e2 e3
     subst e1;have c2:=(hown.out.cellAt (acc.length-1) aR).trans hl;generalize hM:acc.length=M at hac hpos c2 hown hak⊢;have j1:IntKind.i64.wrap ((M:Int)-1)=((M-1:Nat):Int):=by rw[IntKind.wrap_i64];omega
     have j2:(0:Int)<(M:Int):=by omega
     generalize hLN:pn acc=LN at c2 hl fm;have Ua:=ae hM;clear hM hl hrest cur hx0;by_cases hge:x≤LN
     ·have hR:=fm.out;rw[if_pos (Or.inr hge)]at hR;have HR:=ae hR;have j3:(x:Int)≤(LN:Int):=by omega
      clear hR fm hge;go_wp2_with fail
      go_ret2;exact gx.bad HR.out (after Hb0.out hb.out)
     ·have hR:=fm.out;rw[if_neg aR]at hR;have HRn:ag (RES=(fQ (pn (acc++[x])) ((F.map (·.data.toList)).drop (k+1))).map ((acc++[x])++·)):=ae (by rw[xF];exact hR);have j3:¬(x:Int)≤(LN:Int):=by omega
      clear hR fm hge;go_wp2_with(at_builtin;refine wpList_append_own _ rfl _ _ 71 rfl W0.heap.size 5 i0 (.int .u8 0) 1 1 cT hi hz0 hz1 hz2 rfl aJ _ M _ rfl (hown.out.alloc _) ⟨wr.heap.size,0,none⟩ 1 1 [.int .u8 x] rfl rfl (cell_one_new _ _ _) (fun x hx=>by simp at hx;subst hx;rfl) (by unfold maxLen;omega) aR (by have:=hb.out.size;simp;omega) ?_;intro v' w3 hown' hgrow3 hnil3;have Tt:=ae hown';have hbW:=ae ((hb.out.alloc (hb.out.size) _).grown hgrow3 (by have:=hb.out.size;simp;omega) (fun q hq=>(hown.out.lt q hq).1));clear hown' hgrow3 hnil3)
      obtain⟨A',cap',rfl⟩:=aX Tt.out;go_roundw
      case rel=>exact⟨k+1,acc++[x],A',cap',by omega,by go_num,by rw[aj,Ua.out];rfl,by rw[aj,dn,Ua.out];omega,ae (by rw[oe,aj,Ua.out];exact Tt.out),hbW,HRn⟩
      case measure=>simp[intOf];omega
   ·obtain rfl:k=N:=by omega
    have hR:=hres.out;rw[nW (by rw[ay];have:=HN.out;omega),fQ]at hR;have HR:=ae hR;clear hR hres;go_wp2_with fail
    go_ret2;exact gx.good (L:=acc) (by rw[HR.out];simp) (hown.out.mono Hb0.out.size) (after Hb0.out hb.out)
def Off(S:Nat→Prop)(w:World)(T:List TypeId):Prop:=∀k,S k→∃cur e fz,w.heap[k]? =some (.cells cur e fz)∧e∈T
theorem bn{S:Nat→Prop}{w w':World}{T:List TypeId}{base size n:Nat}{e:TypeId}{v:Value}{xs:List Value}(h:w.ownsRow base e size v n xs)(hk:Keeps S w w')(ho:Off S w T)(he:e∉T):w'.ownsRow base e size v n xs:=by
 refine ko h hk fun g hg hs=>?_
 rcases h.2 with⟨e1,_⟩|⟨g',cap,cur,e1,hb,hg',rest⟩
 ·subst e1;cases hg
 ·subst e1;injection hg with hg
  subst hg;obtain⟨aci,e2,fz,hh,hT⟩:=ho _ hs;rw[hg']at hh;injection hh with hh
  injection hh with _ h2 _
  exact he (h2▸hT)
theorem aH.off{S:Nat→Prop}{w w':World}{T:List TypeId}{g:Nat}{e:TypeId}{cs:Array Value}(h:aH w g e cs)(hk:Keeps S w w')(ho:Off S w T)(he:e∉T):aH w' g e cs:=by
 refine h.keep hk fun hs=>?_
 obtain⟨aci,e2,fz,hh,hT⟩:=ho _ hs;unfold aH at h;rw[h]at hh;injection hh with hh
 injection hh with _ h2 _
 exact he (h2▸hT)
theorem cG{w:World}{base size n:Nat}{e:TypeId}{v:Value}{xs:List Value}(h:w.ownsRow base e size v n xs):Off (fun k=>v.ownBlock=some k) w [e]:=by
 intro k hk;rcases h.2 with⟨e1,_⟩|⟨g',cap,cur,e1,hb,hg',rest⟩
 ·subst e1;cases hk
 ·subst e1;injection hk with hk
  subst hk;exact⟨cur,e,(0,0),hg',List.mem_singleton.2 rfl⟩
theorem Keeps.row{w w':World}{row:Option Nat}(h:w.grownBy w' row):Keeps (fun k=>row=some k) w w':=Keeps.SY h fun k hk=>hk
theorem Rs.off{S:Nat→Prop}{w w':World}{T:List TypeId}{b P k n:Nat}{lv uv:Value}{ws:List ByteArray}(h:Rs w b P k n lv uv ws)(hk:Keeps S w w')(ho:Off S w T)(h1:207∉T)(h2:219∉T):Rs w' b P k n lv uv ws:=by
 refine⟨aH.off h.blk hk ho h1,?_,h.ne,h.len,h.sizes⟩;obtain⟨base,hb⟩:=h.row;exact⟨base,bn hb hk ho h2⟩
theorem Rs.alloc{w:World}{b P k n:Nat}{lv uv:Value}{ws:List ByteArray}(h:Rs w b P k n lv uv ws)(o:Obj):Rs (w.alloc o) b P k n lv uv ws:=h.below (boxed w o)
theorem Keeps.grown{S:Nat→Prop}{a w w':World}{row:Option Nat}(h:Keeps S a w)(hg:w.grownBy w' row)(hr:∀k,row=some k→S k∨a.heap.size≤k):Keeps S a w':=⟨hg.os.trans h.os,hg.tape.trans h.tape,hg.output.trans h.output,Nat.le_trans h.size hg.size,fun k hk hs=>(hg.block k (Nat.lt_of_lt_of_le hk h.size) (fun e=>by
 rcases hr k e.symm with h|h
 ·exact hs h
 ·omega)).trans (h.block k hk hs)⟩
def strCells(l:List ByteArray):List Value:=l.map bN
theorem mD(l:List ByteArray)(s:ByteArray):strCells (l++[s])=strCells l++[.string s]:=by simp[strCells]
def tC(x:Nm×Value):ByteArray×Value:=(x.1.name,x.2)
def fD(w:World)(base:Nat)(v:Value)(l:List Nm):Prop:=∃xs:List (Nm×Value),xs.map (·.1)=l∧w.ownsRow base 277 2 v l.length (ix (xs.map tC))∧∀x∈xs,w.ownsRow base 9 1 x.2 x.1.list.length (strCells x.1.list)
theorem fD.nil(w:World)(base:Nat):fD w base au []:=⟨[],rfl,bh _ _ _ _,fun x hx=>by cases hx⟩
theorem CN(l:List (ByteArray×Value))(x:ByteArray×Value):ix (l++[x])=ix l++[.string x.1,x.2]:=by simp[ix]
theorem fD.keep{S:Nat→Prop}{w w':World}{T:List TypeId}{base:Nat}{v:Value}{l:List Nm}(h:fD w base v l)(hk:Keeps S w w')(ho:Off S w T)(he:9∉T)(hv:∀g,v.ownBlock=some g→¬S g):fD w' base v l:=by
 obtain⟨xs,h1,h2,h3⟩:=h;exact⟨xs,h1,ko h2 hk hv,fun x hx=>bn (h3 x hx) hk ho he⟩
theorem fD.below{w w':World}{base:Nat}{v:Value}{l:List Nm}(h:fD w base v l)(hb:aW w w'):fD w' base v l:=by
 obtain⟨xs,h1,h2,h3⟩:=h;exact⟨xs,h1,own_below h2 hb,fun x hx=>own_below (h3 x hx) hb⟩
theorem fD.has{w:World}{base:Nat}{v:Value}{l:List Nm}(h:fD w base v l)(s:ByteArray):∃ys:List (ByteArray×Value),ys.length=l.length∧a8 w v ys.length 2 (ix ys)∧(ys.any fun x=>decide (x.1=s))=qS l s:=by
 obtain⟨xs,rfl,h2,h3⟩:=h;refine⟨xs.map tC,by simp,?_,?_⟩
 ·have:=a8.di h2;simpa using this
 ·unfold qS;rw[List.any_map,List.any_map];rfl
theorem fD.shape{w:World}{base:Nat}{v:Value}{l:List Nm}(h:fD w base v l):∃A cap,v=.slice A l.length cap:=by
 obtain⟨xs,rfl,h2,h3⟩:=h;exact aX h2
theorem CO(l:List Hs)(x:Hs):fC (l++[x])=fC l++[.string x.name,.bool x.net.a.v6,.int .u64 (x.net.a.hi:Int),.int .u64 (x.net.a.lo:Int),.int .u8 (x.net.bits:Int)]:=by simp[fC]
def ie(l:List kD):List Value:=l.flatMap fun s=>s.cells.toList
theorem kh(l:List kD)(x:kD):ie (l++[x])=ie l++x.cells.toList:=by simp[ie]
def jk(l:List (Nat×Nat)):List Value:=l.flatMap fun x=>[Value.int .u16 (x.1:Int),.int .u16 (x.2:Int)]
theorem pq(l:List (Nat×Nat))(x:Nat×Nat):jk (l++[x])=jk l++[.int .u16 (x.1:Int),.int .u16 (x.2:Int)]:=by simp[jk]
structure Yd where
 a:Ac
 p:Value
 s:Value
 d:Value
 o:Value
structure qH(w:World)(base:Nat)(x:Yd):Prop where
 p:w.ownsRow base 5 1 x.p x.a.i7.length (eO x.a.i7)
 s:w.ownsRow base 217 6 x.s x.a.src.length (ie x.a.src)
 d:w.ownsRow base 217 6 x.d x.a.dst.length (ie x.a.dst)
 o:w.ownsRow base 290 2 x.o x.a.jO.length (jk x.a.jO)
def nC(l:List Yd):List Value:=l.flatMap fun x=>[x.p,x.s,x.d,x.o]
theorem rQ(l:List Yd)(x:Yd):nC (l++[x])=nC l++[x.p,x.s,x.d,x.o]:=by simp[nC]
def iG(w:World)(base:Nat)(v:Value)(l:List Ac):Prop:=∃xs:List Yd,xs.map (·.a)=l∧w.ownsRow base 285 4 v l.length (nC xs)∧∀x∈xs,qH w base x
theorem iG.nil(w:World)(base:Nat):iG w base au []:=⟨[],rfl,bh _ _ _ _,fun x hx=>by cases hx⟩
theorem qH.keep{S:Nat→Prop}{w w':World}{T:List TypeId}{base:Nat}{x:Yd}(h:qH w base x)(hk:Keeps S w w')(ho:Off S w T)(h1:5∉T)(h2:217∉T)(h3:290∉T):qH w' base x:=⟨bn h.p hk ho h1,bn h.s hk ho h2,bn h.d hk ho h2,bn h.o hk ho h3⟩
theorem iG.keep{S:Nat→Prop}{w w':World}{T:List TypeId}{base:Nat}{v:Value}{l:List Ac}(h:iG w base v l)(hk:Keeps S w w')(ho:Off S w T)(h1:5∉T)(h2:217∉T)(h3:290∉T)(hv:∀g,v.ownBlock=some g→¬S g):iG w' base v l:=by
 obtain⟨xs,e,ha,hb⟩:=h;exact⟨xs,e,ko ha hk hv,fun x hx=>(hb x hx).keep hk ho h1 h2 h3⟩
theorem iG.shape{w:World}{base:Nat}{v:Value}{l:List Ac}(h:iG w base v l):∃A cap,v=.slice A l.length cap:=by
 obtain⟨xs,rfl,h2,h3⟩:=h;exact aX h2
abbrev Us:=kD×Nat×Nat
def gd(l:List (Us×ByteArray)):List Value:=l.flatMap fun x=>x.1.1.cells.toList++[.string x.2,.int .i64 (x.1.2.1:Int),.int .i64 (x.1.2.2:Int)]
theorem rR(l:List (Us×ByteArray))(x:Us×ByteArray):gd (l++[x])=gd l++(x.1.1.cells.toList++[.string x.2,.int .i64 (x.1.2.1:Int),.int .i64 (x.1.2.2:Int)]):=by simp[gd]
def fp(w:World)(base:Nat)(v:Value)(l:List Us):Prop:=∃xs:List (Us×ByteArray),xs.map (·.1)=l∧w.ownsRow base 221 9 v l.length (gd xs)
theorem fp.nil(w:World)(base:Nat):fp w base au []:=⟨[],rfl,bh _ _ _ _⟩
theorem fp.keep{S:Nat→Prop}{w w':World}{base:Nat}{v:Value}{l:List Us}(h:fp w base v l)(hk:Keeps S w w')(hv:∀g,v.ownBlock=some g→¬S g):fp w' base v l:=by
 obtain⟨xs,e,ha⟩:=h;exact⟨xs,e,ko ha hk hv⟩
theorem fp.shape{w:World}{base:Nat}{v:Value}{l:List Us}(h:fp w base v l):∃A cap,v=.slice A l.length cap:=by
 obtain⟨xs,rfl,h2⟩:=h;exact aX h2
theorem a8.Zj{w:World}{base size n m:Nat}{e:TypeId}{v:Value}{xs:List Value}(h:w.ownsRow base e size v n xs)(hm:m=n):a8 w v m size xs:=by subst hm;exact a8.di h
theorem Zk:(ah.info? 277).map (fun i=>(i.zero,i.size,i.bytes))=some (some (.agg #[aG,au]),2,40):=by kernel_rfl
theorem Zl:(ah.info? 279).map (fun i=>(i.zero,i.size,i.bytes))=some (some (.agg #[aG,.bool false,.int .u64 0,.int .u64 0,.int .u8 0]),5,48):=by kernel_rfl
theorem Ub:(ah.info? 217).map (fun i=>(i.zero,i.size,i.bytes))=some (some (.agg #[.int .u8 0,aG,.bool false,.int .u64 0,.int .u64 0,.int .u8 0]),6,56):=by kernel_rfl
theorem Zm:(ah.info? 290).map (fun i=>(i.zero,i.size,i.bytes))=some (some (.agg #[.int .u16 0,.int .u16 0]),2,4):=by kernel_rfl
theorem Zn:(ah.info? 285).map (fun i=>(i.zero,i.size,i.bytes))=some (some (.agg #[au,au,au,au]),4,96):=by kernel_rfl
theorem Zo:(ah.info? 221).map (fun i=>(i.zero,i.size,i.bytes))=some (some (.agg #[.int .u8 0,aG,.bool false,.int .u64 0,.int .u64 0,.int .u8 0,aG,.int .i64 0,.int .i64 0]),9,88):=by kernel_rfl
def fq{α:Type}(o:Except Bad α)(n:Nat)(ok:α→Ending→Prop)(r:Ending):Prop:=match o with
 | .error e=>r=aT e.1 n e.2
 | .ok x=>ok x r
theorem fq.bad{α:Type}{o:Except Bad α}{n e i:Nat}{ok:α→Ending→Prop}(h:o=.error (e,i)):fq o n ok (aT e n i):=by subst h;rfl
theorem fq.good{α:Type}{o:Except Bad α}{n:Nat}{ok:α→Ending→Prop}{r:Ending}{x:α}(h:o=.ok x)(hr:ok x r):fq o n ok r:=by subst h;exact hr
def eW{α:Type}(S0 S:Nat→Prop)(w w':World)(o:Except Bad α)(n:Nat)(ok:α→Ending→Prop)(r:Ending):Prop:=match o with
 | .error e=>Keeps S0 w w'∧r=aT e.1 n e.2
 | .ok x=>Keeps S w w'∧ok x r
theorem eW.bad{α:Type}{S0 S:Nat→Prop}{w w':World}{o:Except Bad α}{n e i:Nat}{ok:α→Ending→Prop}(hk:Keeps S0 w w')(h:o=.error (e,i)):eW S0 S w w' o n ok (aT e n i):=by subst h;exact⟨hk,rfl⟩
theorem eW.good{α:Type}{S0 S:Nat→Prop}{w w':World}{o:Except Bad α}{n:Nat}{ok:α→Ending→Prop}{r:Ending}{x:α}(h:o=.ok x)(hk:Keeps S w w')(hr:ok x r):eW S0 S w w' o n ok r:=by subst h;exact⟨hk,hr⟩
theorem eW.line{α:Type}{S0 S:Nat→Prop}{w w':World}{o:Except Bad α}{n:Nat}{ok:α→Ending→Prop}{r:Ending}(h:eW S0 S w w' o n ok r)(h0:∀k,S0 k→S k):Keeps S w w'∧fq o n ok r:=by
 cases o with
 |error e=>exact⟨h.1.mono fun k _=>h0 k,h.2⟩
 |ok x=>exact h
theorem eW.err{α:Type}{S0 S:Nat→Prop}{w w':World}{o:Except Bad α}{n:Nat}{ok:α→Ending→Prop}{r:Ending}(h:eW S0 S w w' o n ok r)(e:Bad)(he:o=.error e):Keeps S0 w w':=by
 subst he;exact h.1
def namesT(nm:ByteArray)(ws:List ByteArray)(k:Nat)(acc:List ByteArray)(first:Bool):Except Bad Nm:=if first=true∧ws.length≤k then .error (190,ws.length)else(j8 (ws.drop k) k acc.length).map fun l=>⟨nm,acc++l⟩
theorem uP{nm s:ByteArray}{ws:List ByteArray}{k:Nat}{acc:List ByteArray}{first:Bool}(h:ws[k]? =some s):namesT nm ws k acc first=if cQ s=false then .error (191,k)else if 64≤acc.length then .error (198,k)else namesT nm ws (k+1) (acc++[s]) false:=by
 have hk:k<ws.length:=(List.getElem?_eq_some_iff.1 h).1;have hg:ws[k]=s:=(List.getElem?_eq_some_iff.1 h).2;unfold namesT;rw[if_neg (show¬(first=true∧ws.length≤k) by omega),if_neg (show¬(false=true∧ws.length≤k+1) by simp),bT hk,hg]
 conv=>lhs;unfold j8
 by_cases h1:cQ s=false
 ·rw[if_pos h1,if_pos h1];rfl
 rw[if_neg h1,if_neg h1];by_cases h2:64≤acc.length
 ·rw[if_pos h2,if_pos h2];rfl
 rw[if_neg h2,if_neg h2,aj,dn];cases j8 (List.drop (k+1) ws) (k+1) (acc.length+1)with
 |error e=>rfl
 |ok l=>simp[Except.map]
theorem JH{nm:ByteArray}{ws:List ByteArray}{k:Nat}{acc:List ByteArray}(h:ws.length≤k):namesT nm ws k acc false=.ok ⟨nm,acc⟩:=by
 unfold namesT;rw[if_neg (by simp),nW h];simp[j8,Except.map]
theorem FN{nm:ByteArray}{ws:List ByteArray}{k:Nat}{acc:List ByteArray}(h:ws.length≤k):namesT nm ws k acc true=.error (190,ws.length):=by
 unfold namesT;rw[if_pos ⟨rfl,h⟩]
theorem P3{ws:List ByteArray}{told:List Nm}(hne:ws≠[]):my ws told=if 64≤told.length then .error (198,0)else match ws[1]? with
 |none=>.error (190,ws.length)
 |some nm=>if cQ nm=false then .error (191,1)else if qS told nm=true then .error (197,1)else match ws[2]? with
  |none=>.error (190,ws.length)
  |some e=>if e≠Fa then .error (190,2)else namesT nm ws 3 [] true:=by
 unfold my;by_cases h:64≤told.length
 ·rw[if_pos h,if_pos h]
 rw[if_neg h,if_neg h]
 match ws with
 |[]=>exact absurd rfl hne
 |[a]=>rfl
 |[a,nm]=>rfl
 |a::nm::e::r=>
  simp only[List.getElem?_cons_succ,List.getElem?_cons_zero];unfold namesT;cases r with
  |nil=>simp
  |cons s r=>simp
def xG(w:World)(b:Nat):Nat:=match w.cell? ⟨b,1,none⟩with
 |some (.int _ i)=>i.toNat
 |_=>0
theorem Rs.next{w:World}{b P k n:Nat}{lv uv:Value}{ws:List ByteArray}(h:Rs w b P k n lv uv ws):xG w b=k:=by
 have r1:=h.blk.cell 1;simp at r1;unfold xG;rw[r1];rfl
def Zp(w:World)(b P n base q:Nat)(lv uv lst:Value)(ws:List ByteArray)(told:List Nm)(pc:Array Value)(w':World)(x:Nm)(r:Ending):Prop:=r=.returned (.tuple #[])∧∃k' lst',Rs w' b P k' n lv uv ws∧aH w' P 166 (pc.setIfInBounds q lst')∧fD w' base lst' (told++[x])∧∀g,lst'.ownBlock=some g→lst.ownBlock=some g∨w.heap.size≤g
theorem AG{w:World}{b P n base q:Nat}{lv uv lst:Value}{ws:List ByteArray}{told:List Nm}{pc:Array Value}(h:Rs w b P 1 n lv uv ws)(hP:aH w P 166 pc)(hq:pc[q]? =some lst)(hN:fD w base lst told)(hbs:base≤w.heap.size):Calls ah 187 #[.pointer (some ⟨b,0,none⟩),.pointer (some ⟨P,q,none⟩)] w fun r w'=>eW (fun k=>k=b) (fun k=>k=b∨k=P∨lst.ownBlock=some k) w w' (my ws told) n (Zp w b P n base q lv uv lst ws told pc w') r:=by
 obtain⟨A,cap,rfl⟩:=hN.shape;obtain⟨T,hT⟩:=bw told.length;rw[←hT]at hq hN⊢;have hPb:P≠b:=hP.vO h.blk aJ;have c0:=(hP.cell q).trans hq;have hlen1:1≤ws.length:=by
  have:=h.ne;cases ws with
  |nil=>exact absurd rfl this
  |cons x r=>simp
 have hroom:=h.room aR aR T;rw[show Ix 1 ws=0 by unfold Ix;rw[if_pos hlen1]]at hroom;obtain⟨RES,eV⟩:=bw (my ws told);rw[←eV];rw[P3 h.ne,←hT]at eV;obtain⟨kK,H,HP,HN,jT,HT,Hb0⟩:=nn hroom h hP hN eV hT (Keeps.refl (fun k=>k=b∨k=P∨(dq A T cap).ownBlock=some k) w);clear hroom h hP hN eV hT;go_enter Tryz.func187,Tryz.ntmps187;go_wp2_with fail
 go_at_call 211;refine kK.out.mono ?_;rintro r w1⟨h1,d1⟩;by_cases FO:T<64
 case neg=>
  rw[decide_eq_false FO]at h1;unfold fK at h1;subst h1;unfold aT;exact⟨rfl,eW.bad (Keeps.of_below d1 fun k hk _=>hk) (by rw[jT.out,if_pos aR])⟩
 rw[decide_eq_true FO]at h1;unfold fK at h1;subst h1;obtain⟨H1,od,jL,qI⟩:=cU (H.out.below d1) (HP.out.below d1 HP.out.lt) (HN.out.below d1) (Keeps.of_below (S:=fun x=>x=b) d1 fun k hk _=>hk);have hR1:=jT.out;rw[if_neg aR]at hR1;have HR1:=ae hR1;clear hR1 jT kK d1 H HP c0;have hname:=H1.out.name aR;unfold rJ at hname;have pu:=ae hname;clear hname;go_wp2_with fail
 go_at_call 212;refine pu.out.mono ?_;rintro r w2⟨⟨d2,e2⟩,h2⟩;have lQ:=ae (qI.out.trans d2);cases hs1:ws[1]? with
 |none=>
  rw[hs1]at h2;simp only at h2;subst h2;unfold aT;have hR:=HR1.out;rw[hs1]at hR;exact⟨rfl,eW.bad (lQ.out) hR⟩
 |some nm=>
 rw[hs1]at h2;simp only at h2;have hR2:=HR1.out;rw[hs1]at hR2;simp only at hR2;by_cases hlab:cQ nm=true
 case neg=>
  have hlf:cQ nm=false:=by simpa using hlab
  rw[if_neg hlab]at h2;subst h2;unfold aT;rw[if_pos hlf]at hR2;exact⟨rfl,eW.bad (lQ.out) hR2⟩
 rw[if_pos hlab]at h2;subst h2;rw[if_neg (by simp[hlab])]at hR2;obtain⟨HR2,H2,HP2⟩:=bz hR2 e2 (od.out.keep d2 hPb);have hAb:∀g,(dq A T cap).ownBlock=some g→¬g=b:=by
  intro g hg e;subst e;obtain⟨xs,_,ho,_⟩:=jL.out;rcases ho.2 with⟨e1,_⟩|⟨g',cap',cur,e1,hb,hg',_⟩
  ·rw[e1]at hg;cases hg
  ·rw[e1]at hg;injection hg with hg
   subst hg;exact(aH.vO (t:=277) (cs:=cur) (show aH w1 g' _ cur from hg') H1.out.blk aJ) rfl
 have kX:=ae (jL.out.keep d2 (T:=[207]) (fun k hk=>⟨_,_,_,by subst hk;exact H1.out.blk,by simp⟩) aJ hAb);clear hR2 HR1 pu jL od H1 qI e2 d2 hlab;go_wp2_with fail
 have hB3:=ae (aH.new w2 277 #[.string nm,au]);have hb3:=boxed w2 (.cells #[.string nm,au] 277);obtain⟨H3,gy,vX,ki⟩:=cU (H2.out.below hb3) (HP2.out.alloc (.cells #[.string nm,au] 277)) (kX.out.below hb3) (lQ.out.alloc (.cells #[.string nm,au] 277));have hsz3:w2.heap.size<(w2.alloc (.cells #[.string nm,au] 277)).heap.size:=by simp
 have acj:w.heap.size≤w2.heap.size:=lQ.out.size;clear H2 HP2 kX lQ hb3;generalize w2.alloc (.cells #[.string nm,au] 277)=w3 at hB3 H3 gy vX ki hsz3⊢;generalize w2.heap.size=N at hB3 hsz3 acj⊢;have hNb:N≠b:=hB3.out.vO H3.out.blk aJ;have hNP:N≠P:=hB3.out.vO gy.out aJ;have hAN:∀g,(dq A T cap).ownBlock=some g→g<w.heap.size:=by
  obtain⟨xs,_,ho,_⟩:=HN.out;exact fun g hg=>(ho.lt g hg).2
 obtain⟨ys,hyl,hyr,hya⟩:=vX.out.has nm;have hhas:=fun W(hW:aW w3 W)=>Cm ys (by have:=HT.out;omega) _ (hyr.below hW) nm
 rw[hya]at hhas;have x0:=(gy.out.cell q).trans hq;have x1:=hB3.out.cell 0;simp at x1;have hun:=fun W(hW:Rs W b P (1+1) n lv uv ws)(is:Bool)=>hW.unless aR aR is 197
 rw[eC (by have:=(List.getElem?_eq_some_iff.1 hs1).1;omega)]at hun;obtain⟨tD,kr,HAN,HAb⟩:=cU (hhas w3.drew ⟨rfl,rfl,rfl,ax _,fun _ _=>rfl⟩) hun hAN hAb;clear hyl hyr hya hhas hun hAN hAb;by_cases hh:qS told nm=true
 ·rw[hh]at tD;have hR:=HR2.out;rw[if_pos hh]at hR;have HR:=ae hR;have CP:ag (∀(W:World),Rs W b P (1+1) n lv uv ws→Calls ah 162 #[.pointer (some ⟨b,0,none⟩),.bool false,.int .i64 197] W fun r w'=>r=aT 197 n 1∧aW W w'):=ae fun W hW=>kr.out W hW false
  clear hR hh HR2 kr;refine wp_region_held_drew (S:=(fun w'=>w'.cell? ⟨P,q,none⟩=some (.slice A T cap)∧w'.cell? ⟨N,0,none⟩=some (.string nm))) bo (⟨x0,x1⟩) (fun hHeld=>?_);refine aY 0 ?_
  refine aY 1 ?_
  refine aY 2 ?_
  refine aY 3 ?_
  refine aY 4 ?_
  refine aY 5 ?_
  refine fA 6 fun K hK=>?_;go_simp;refine tD.out.mono ?_;rintro r w4⟨rfl,d4⟩;have e4:aW w3 w4:=⟨d4.os,d4.tape,d4.output,d4.size,d4.block⟩;have y0:=((gy.out.below e4 gy.out.lt).cell q).trans hq;have y1:=(hB3.out.below e4 hB3.out.lt).cell 0;simp at y1;refine hK.out _ _ (⟨y0,y1⟩) (fun hHeld=>?_);clear hK K;try simp only[ck]
  refine aY 7 ?_
  refine fA 8 fun K hK=>?_;go_simp;refine(CP.out _ (H3.out.below e4)).mono ?_;rintro r w5⟨rfl,d5⟩;unfold aT;exact⟨rfl,eW.bad (((ki.out.trans (Keeps.of_below e4 fun k hk _=>hk)).trans (Keeps.of_below d5 fun k hk _=>hk))) HR.out⟩
 have hhf:qS told nm=false:=by simpa using hh
 rw[hhf]at tD;have hR:=HR2.out;rw[if_neg hh]at hR;have HR:=ae hR;have CP:ag (∀(W:World),Rs W b P (1+1) n lv uv ws→Calls ah 162 #[.pointer (some ⟨b,0,none⟩),.bool true,.int .i64 197] W fun r w'=>r=.returned (.tuple #[])∧aW W w'):=ae fun W hW=>kr.out W hW true
 clear hR hh hhf HR2 kr;refine wp_region_held_drew (S:=(fun w'=>w'.cell? ⟨P,q,none⟩=some (.slice A T cap)∧w'.cell? ⟨N,0,none⟩=some (.string nm))) bo (⟨x0,x1⟩) (fun hHeld=>?_);refine aY 0 ?_
 refine aY 1 ?_
 refine aY 2 ?_
 refine aY 3 ?_
 refine aY 4 ?_
 refine aY 5 ?_
 refine fA 6 fun K hK=>?_;go_simp;refine tD.out.mono ?_;rintro r w4⟨rfl,d4⟩;have e4:aW w3 w4:=⟨d4.os,d4.tape,d4.output,d4.size,d4.block⟩;have y0:=((gy.out.below e4 gy.out.lt).cell q).trans hq;have y1:=(hB3.out.below e4 hB3.out.lt).cell 0;simp at y1;refine hK.out _ _ (⟨y0,y1⟩) (fun hHeld=>?_);clear hK K;try simp only[ck]
 refine aY 7 ?_
 refine fA 8 fun K hK=>?_;go_simp;refine(CP.out _ (H3.out.below e4)).mono ?_;rintro r w5⟨rfl,d5⟩;have e5:=after e4 d5;have z0:=((gy.out.below e5 gy.out.lt).cell q).trans hq;have z1:=(hB3.out.below e5 hB3.out.lt).cell 0;simp at z1;refine hK.out _ _ (⟨z0,z1⟩) (fun hHeld=>?_);clear hK K;try simp only[ck]
 refine lN ?_;obtain⟨H5,IB,nZ,Zq,EG⟩:=eB (H3.out.below e5) (gy.out.below e5 gy.out.lt) (hB3.out.below e5 hB3.out.lt) (vX.out.below e5) (ki.out.trans (Keeps.of_below e5 fun k hk _=>hk));have hsz5:w3.heap.size≤w5.heap.size:=e5.size;clear H3 gy hB3 vX ki e4 e5 d5 y0 y1 z0 z1 x0 x1 hHeld tD CP;have iQ:=H5.out.must (by have:=(List.getElem?_eq_some_iff.1 hs1).1;omega) Fa;unfold qF at iQ;have lY:ag (Calls ah 213 #[.pointer (some ⟨b,0,none⟩),.string ⟨#[61]⟩] w5 _):=ae iQ;clear iQ;go_wp2_with fail
 go_at_call 213;refine lY.out.mono ?_;rintro r w6⟨⟨d6,e6⟩,h6⟩;have tG:=ae (EG.out.trans d6);have iY:=HR.out;cases hs2:ws[2]? with
 |none=>
  rw[show 1+1=2 from rfl,hs2]at h6;simp only at h6;subst h6;unfold aT;rw[hs2]at iY;exact⟨rfl,eW.bad (tG.out) iY⟩
 |some eq=>
 rw[show 1+1=2 from rfl,hs2]at h6;rw[hs2]at iY;simp only at h6 iY;by_cases heq:eq=Fa
 case neg=>
  rw[if_neg heq]at h6;subst h6;unfold aT;rw[if_pos heq]at iY;exact⟨rfl,eW.bad (tG.out) iY⟩
 rw[if_pos heq]at h6;rw[if_neg (by simp[heq])]at iY;subst h6;have hlen3:3≤ws.length:=by have:=(List.getElem?_eq_some_iff.1 hs2).1;omega
 obtain⟨zy,H6,Zr,kQ⟩:=cU iY e6 (IB.out.keep d6 hPb) (nZ.out.keep d6 hNb);have HN6:=ae (Zq.out.keep d6 (T:=[207]) (fun k hk=>⟨_,_,_,by subst hk;exact H5.out.blk,by simp⟩) aJ HAb.out);have ahu:w5.heap.size≤w6.heap.size:=d6.size;clear lY iY HR EG IB nZ Zq H5 d6 e6 hs1 hs2 heq;obtain⟨i0,hi,hz0,hz1,hz2⟩:=info_parts rH;have FIN:ag (∀wx,Keeps (fun x=>x=b∨x=N) w6 wx→Keeps (fun k=>k=b) w wx):=ae fun wx h=>((tG.out.mono (T:=fun x=>x=b∨x=N) fun k _ hk=>Or.inl hk).trans h).mono fun k hk hs=>hs.elim id fun e=>absurd hk (by omega)
 go_wp2_with fail
 go_loopw [5] (fun v5 wr=>∃(k:Nat)(acc:List ByteArray)(first:Bool)(v:Value),v5=.bool first∧3≤k∧k≤ws.length∧ag (first=true→acc=[])∧ag (acc.length≤64)∧ag (Rs wr b P k n lv uv ws)∧ag (Keeps (fun x=>x=b∨x=N) w6 wr)∧ag (aH wr N 277 #[.string nm,v])∧ag (wr.ownsRow w6.heap.size 9 1 v acc.length (strCells acc))∧ag (RES=namesT nm ws k acc first)) (fun _ wr=>ws.length+1-xG wr b)
 case atStart=>exact⟨3,[],true,_,rfl,by omega,hlen3,ae fun _=>rfl,ae (by simp),H6,ae (Keeps.refl _ _),kQ,ae (bh _ _ _ _),zy⟩
 case round=>
  obtain⟨k,acc,first,v,rfl,hk3,hk,hfa,hacc,hrs,hkp,hbn,hown,hres⟩:=hrel;have Ai:=ae hrs.out.next;cases first with
  |true=>
   have RS:=hrs;have KP:=hkp;have BN:=hbn;have OW:=hown;clear hrs hkp hbn hown hfa;have hname:=RS.out.name hk;unfold rJ at hname;have pu:=ae hname;clear hname;go_wp2_with fail
   go_at_call 212;refine pu.out.mono ?_;rintro r w8⟨⟨d8,e8⟩,h8⟩;obtain⟨sZ,zB⟩:=aL (KP.out.trans (d8.mono fun k _ hk=>Or.inl hk)) (BN.out.keep d8 hNb);have JI:=ae (bn OW.out d8 (T:=[207]) (fun k hk=>⟨_,_,_,by subst hk;exact RS.out.blk,by simp⟩) aJ);clear KP BN OW RS pu d8;cases hsk:ws[k]? with
   |none=>
    have hge:ws.length≤k:=by rw[aid]at hsk;exact hsk
    rw[hsk]at h8;simp only at h8;subst h8;unfold aT;exact⟨rfl,eW.bad (FIN.out _ sZ.out) (by rw[hres.out,FN hge])⟩
   |some s=>
   have hlt:k<ws.length:=(List.getElem?_eq_some_iff.1 hsk).1;rw[hsk]at h8;simp only at h8;have hst:=hres.out;rw[uP hsk]at hst;by_cases hl:cQ s=true
   case neg=>
    rw[if_neg hl]at h8;subst h8;unfold aT;rw[if_pos (by simpa using hl)]at hst;exact⟨rfl,eW.bad (FIN.out _ sZ.out) hst⟩
   rw[if_pos hl]at h8;subst h8;rw[if_neg (by simp[hl])]at hst;obtain⟨Zs,zg⟩:=aL hst e8;clear hst hres hsk hl e8;obtain⟨A1,c1,rfl⟩:=aX JI.out;obtain⟨-,x1⟩:=jQ zB;have z1:=zB.out.frozen 1;have hroom:=zg.out.room aR aR acc.length;rw[eC hlt]at hroom;have kK:=ae hroom;have hacc:=hacc.out;obtain⟨L,hL⟩:=bw acc.length;rw[←hL]at x1 hacc kK zB JI Zs;have HL:=ae hL;clear hroom hL;go_wp2_with fail
   go_at_call 211;refine kK.out.mono ?_;rintro r w9⟨h9,d9⟩;by_cases Uc:L<64
   case neg=>
    rw[decide_eq_false Uc]at h9;unfold fK at h9;subst h9;unfold aT;have hst:=Zs.out;rw[if_pos aR]at hst;exact⟨rfl,eW.bad (FIN.out _ (sZ.out.trans (Keeps.of_below d9 fun k hk _=>hk))) hst⟩
   rw[decide_eq_true Uc]at h9;unfold fK at h9;subst h9;have hst:=Zs.out;rw[if_neg aR]at hst;obtain⟨xH,Ye,RS9,Ud,Zt⟩:=eB hst (sZ.out.trans (Keeps.of_below d9 fun k hk _=>hk)) (zg.out.below d9) (zB.out.below d9 zB.out.lt) (own_below JI.out d9);clear hst Zs sZ zg zB JI kK d9 x1 z1;have Ue:=Ye.out.size;obtain⟨-,x1⟩:=jQ Ud;have z1:=Ud.out.frozen 1;have hNw:=Ud.out.lt;clear Ue;have Ue:=Ye.out.size;clear x1 z1;obtain⟨-,x1⟩:=jQ Ud;go_wp2_with(at_builtin;refine wpList_append_lies _ rfl _ _ 29 rfl w6.heap.size 9 i0 (.string lL) 1 16 ahP hi hz0 hz1 hz2 rfl aJ _ L _ rfl (Zt.out.alloc _) ⟨w9.heap.size,0,none⟩ 1 1 [.string s] rfl rfl (cell_one_new _ _ _) (fun x hx=>by simp at hx;subst hx;rfl) aJ (by unfold maxLen;omega) aR (by simp;omega) (w9.heap.size+1) (by simp) ?_;intro g' cap' w10 hown' hgrow hat nD;have fU:=ae ((Ud.out.alloc (.cells #[.string s] 9)).off (Keeps.row hgrow) (cG (Zt.out.alloc (.cells #[.string s] 9))) aJ);obtain⟨-,x10⟩:=jQ fU;have z10:=fU.out.frozen 1;obtain⟨mE,fX⟩:=aL hown' hgrow;clear hown' hgrow hat nD)
   have KS:Keeps (fun k=>(dq A1 L c1).ownBlock=some k) (w9.alloc (.cells #[.string s] 9)) w10:=Keeps.row fX.out;have OS:=cG (Zt.out.alloc (.cells #[.string s] 9));have nE:=(RS9.out.alloc (.cells #[.string s] 9)).off KS OS aJ aJ;have nF:=Keeps.grown (Ye.out.alloc (.cells #[.string s] 9)) fX.out fun g hg=>Or.inr (Zt.out.lt g hg).1
   have rS:=nF.setCell (p:=⟨N,1,none⟩) (Or.inl (Or.inr rfl)) (.slice (some ⟨g',0,none⟩) (L+1) cap');have KN:=(Keeps.refl (fun x=>x=N) w10).setCell (p:=⟨N,1,none⟩) (Or.inl rfl) (.slice (some ⟨g',0,none⟩) (L+1) cap');have ON:Off (fun x=>x=N) w10 [277]:=fun k hk=>⟨_,_,_,by subst hk;exact fU.out,by simp⟩
   have qq:=nE.off KN ON aJ aJ;have CQ:=bn mE.out KN ON aJ;have tH:aH (w10.setCell ⟨N,1,none⟩ (.slice (some ⟨g',0,none⟩) (L+1) cap')) N 277 #[.string nm,.slice (some ⟨g',0,none⟩) (L+1) cap']:=fU.out.aM 1 _;refine⟨⟨k+1,acc++[s],false,_,rfl,by omega,by omega,ae (fun h=>(by cases h)),ae (by rw[aj,←HL.out];simp;omega),ae qq,ae rS,ae tH,ae (by rw[aj,←HL.out,mD];exact CQ),xH⟩,?_⟩;rw[qq.next,Ai.out];omega
  |false=>
   have hmore:=ae hrs.out.more;by_cases hlt0:k<ws.length
   ·rw[decide_eq_true hlt0]at hmore;go_upto_region 7 with(go_at_call 214;refine hmore.out.mono ?_;rintro r w7⟨rfl,d7⟩)
    obtain⟨RS,KP,BN,OW⟩:=cU (hrs.out.below d7) (hkp.out.trans (Keeps.of_below d7 fun k hk _=>hk)) (hbn.out.below d7 hbn.out.lt) (own_below hown.out d7);clear hrs hkp hbn hown hfa hmore d7;have hname:=RS.out.name hk;unfold rJ at hname;have pu:=ae hname;clear hname;go_wp2_with fail
    go_at_call 212;refine pu.out.mono ?_;rintro r w8⟨⟨d8,e8⟩,h8⟩;obtain⟨sZ,zB⟩:=aL (KP.out.trans (d8.mono fun k _ hk=>Or.inl hk)) (BN.out.keep d8 hNb);have JI:=ae (bn OW.out d8 (T:=[207]) (fun k hk=>⟨_,_,_,by subst hk;exact RS.out.blk,by simp⟩) aJ);clear KP BN OW RS pu d8;cases hsk:ws[k]? with
    |none=>
     have hge:ws.length≤k:=by rw[aid]at hsk;exact hsk
     rw[hsk]at h8;simp only at h8;subst h8;unfold aT;exact⟨rfl,eW.bad (FIN.out _ sZ.out) (absurd hlt0 aR)⟩
    |some s=>
    have hlt:k<ws.length:=(List.getElem?_eq_some_iff.1 hsk).1;rw[hsk]at h8;simp only at h8;have hst:=hres.out;rw[uP hsk]at hst;by_cases hl:cQ s=true
    case neg=>
     rw[if_neg hl]at h8;subst h8;unfold aT;rw[if_pos (by simpa using hl)]at hst;exact⟨rfl,eW.bad (FIN.out _ sZ.out) hst⟩
    rw[if_pos hl]at h8;subst h8;rw[if_neg (by simp[hl])]at hst;obtain⟨Zs,zg⟩:=aL hst e8;clear hst hres hsk hl e8;obtain⟨A1,c1,rfl⟩:=aX JI.out;obtain⟨-,x1⟩:=jQ zB;have z1:=zB.out.frozen 1;have hroom:=zg.out.room aR aR acc.length;rw[eC hlt]at hroom;have kK:=ae hroom;have hacc:=hacc.out;obtain⟨L,hL⟩:=bw acc.length;rw[←hL]at x1 hacc kK zB JI Zs;have HL:=ae hL;clear hroom hL;go_wp2_with fail
    go_at_call 211;refine kK.out.mono ?_;rintro r w9⟨h9,d9⟩;by_cases Uc:L<64
    case neg=>
     rw[decide_eq_false Uc]at h9;unfold fK at h9;subst h9;unfold aT;have hst:=Zs.out;rw[if_pos aR]at hst;exact⟨rfl,eW.bad (FIN.out _ (sZ.out.trans (Keeps.of_below d9 fun k hk _=>hk))) hst⟩
    rw[decide_eq_true Uc]at h9;unfold fK at h9;subst h9;have hst:=Zs.out;rw[if_neg aR]at hst;obtain⟨xH,Ye,RS9,Ud,Zt⟩:=eB hst (sZ.out.trans (Keeps.of_below d9 fun k hk _=>hk)) (zg.out.below d9) (zB.out.below d9 zB.out.lt) (own_below JI.out d9);clear hst Zs sZ zg zB JI kK d9 x1 z1;have Ue:=Ye.out.size;obtain⟨-,x1⟩:=jQ Ud;have z1:=Ud.out.frozen 1;have hNw:=Ud.out.lt;clear Ue;have Ue:=Ye.out.size;clear x1 z1;obtain⟨-,x1⟩:=jQ Ud;go_wp2_with(at_builtin;refine wpList_append_lies _ rfl _ _ 29 rfl w6.heap.size 9 i0 (.string lL) 1 16 ahP hi hz0 hz1 hz2 rfl aJ _ L _ rfl (Zt.out.alloc _) ⟨w9.heap.size,0,none⟩ 1 1 [.string s] rfl rfl (cell_one_new _ _ _) (fun x hx=>by simp at hx;subst hx;rfl) aJ (by unfold maxLen;omega) aR (by simp;omega) (w9.heap.size+1) (by simp) ?_;intro g' cap' w10 hown' hgrow hat nD;have fU:=ae ((Ud.out.alloc (.cells #[.string s] 9)).off (Keeps.row hgrow) (cG (Zt.out.alloc (.cells #[.string s] 9))) aJ);obtain⟨-,x10⟩:=jQ fU;have z10:=fU.out.frozen 1;obtain⟨mE,fX⟩:=aL hown' hgrow;clear hown' hgrow hat nD)
    have KS:Keeps (fun k=>(dq A1 L c1).ownBlock=some k) (w9.alloc (.cells #[.string s] 9)) w10:=Keeps.row fX.out;have OS:=cG (Zt.out.alloc (.cells #[.string s] 9));have nE:=(RS9.out.alloc (.cells #[.string s] 9)).off KS OS aJ aJ;have nF:=Keeps.grown (Ye.out.alloc (.cells #[.string s] 9)) fX.out fun g hg=>Or.inr (Zt.out.lt g hg).1
    have rS:=nF.setCell (p:=⟨N,1,none⟩) (Or.inl (Or.inr rfl)) (.slice (some ⟨g',0,none⟩) (L+1) cap');have KN:=(Keeps.refl (fun x=>x=N) w10).setCell (p:=⟨N,1,none⟩) (Or.inl rfl) (.slice (some ⟨g',0,none⟩) (L+1) cap');have ON:Off (fun x=>x=N) w10 [277]:=fun k hk=>⟨_,_,_,by subst hk;exact fU.out,by simp⟩
    have qq:=nE.off KN ON aJ aJ;have CQ:=bn mE.out KN ON aJ;have tH:aH (w10.setCell ⟨N,1,none⟩ (.slice (some ⟨g',0,none⟩) (L+1) cap')) N 277 #[.string nm,.slice (some ⟨g',0,none⟩) (L+1) cap']:=fU.out.aM 1 _;refine⟨⟨k+1,acc++[s],false,_,rfl,by omega,by omega,ae (fun h=>(by cases h)),ae (by rw[aj,←HL.out];simp;omega),ae qq,ae rS,ae tH,ae (by rw[aj,←HL.out,mD];exact CQ),xH⟩,?_⟩;rw[qq.next,Ai.out];omega
   ·rw[decide_eq_false hlt0]at hmore;go_upto_region 10 with(go_at_call 214;refine hmore.out.mono ?_;rintro r w7⟨rfl,d7⟩)
    have H7:=ae (hrs.out.below d7);have Yf:=hkp.out.trans (Keeps.of_below d7 fun k hk _=>hk);obtain⟨EI,B7,OW7⟩:=bz Yf (hbn.out.below d7 hbn.out.lt) (own_below hown.out d7);have hO6:Off (fun x=>x=b∨x=N) w6 [207,277]:=fun k hk=>by
     rcases hk with rfl|rfl
     ·exact⟨_,_,_,H6.out.blk,by simp⟩
     ·exact⟨_,_,_,kQ.out,by simp⟩
    have P7:=ae (Zr.out.off Yf hO6 aJ);have hAN:=HAN.out;have NM7:=ae (HN6.out.keep Yf hO6 aJ fun g hg hs=>by
     rcases hs with hs|hs
     ·exact HAb.out g hg hs
     ·have:=hAN g hg;omega)
    have hfin:=hres.out;rw[JH aR]at hfin;have HFin:=ae hfin;obtain⟨A1,c1,rfl⟩:=aX OW7.out;have ahv:w6.heap.size≤w7.heap.size:=Yf.size;clear hrs hkp hbn hown hfa hmore d7 Yf hfin hres hO6 hAN hlt0;have x0:=(P7.out.cell q).trans hq;obtain⟨x1,x2⟩:=jQ B7;have z0:=P7.out.frozen q;obtain⟨xs,hxs,hox,hnx⟩:=NM7.out;obtain⟨j0,hj,hj0,hj1,hj2⟩:=info_parts Zk;rw[←HT.out]at hox;have aeu:(w7.alloc (.cells #[.string nm,.slice A1 acc.length c1] 277)).drew.ownsRow base 277 2 (.slice A T cap) T (ix (xs.map tC)):=hox.alloc _;have abr:∀j u,[bN nm,.slice A1 acc.length c1][j]? =some u→(w7.alloc (.cells #[.string nm,.slice A1 acc.length c1] 277)).drew.cell? ((⟨w7.heap.size,0,none⟩:Addr).add j)=some u:=cS w7 [.string nm,.slice A1 acc.length c1] 277;have hPd:aH (w7.alloc (.cells #[.string nm,.slice A1 acc.length c1] 277)).drew P 166 pc:=P7.out.alloc _;obtain⟨mF,jd⟩:=aL aeu abr;have hNd:aH (w7.alloc (.cells #[.string nm,.slice A1 acc.length c1] 277)).drew N 277 #[.string nm,.slice A1 acc.length c1]:=B7.out.alloc _;have y0:=(hPd.cell q).trans hq;have y1:=hNd.cell 0;have y2:=hNd.cell 1;simp at y1 y2;have hNA:some N≠(dq A T cap).ownBlock:=fun e=>by have:=HAN.out N e.symm;omega
    obtain⟨Yg,og,xI⟩:=bz hNA hPd hNd;clear hox aeu abr hPd hNd hNA;refine dW 8 (fun w'=>w'.cell? ⟨P,q,none⟩=some (.slice A T cap)∧w'.cell? ⟨N,0,none⟩=some (.string nm)∧w'.cell? ⟨N,1,none⟩=some (.slice A1 acc.length c1)) bo (⟨x0,x1,x2⟩) (fun hHeld=>?_);refine dT 0 ?_
    refine dT 1 ?_
    refine dT 2 ?_
    refine dT 3 ?_
    refine dT 4 ?_
    refine np 5 fun K hK=>?_;go_simp
    skip
    refine hK.out _ _ (fun _=>⟨y0,y1,y2⟩) (fun hHeld=>?_);have hHeld:=hHeld aJ;clear hK K;try simp only[ck]
    refine np 6 fun K hK=>?_;refine step_append_lies _ (by rfl) _ _ _ (by rfl) base 277 j0 (.agg #[aG,au]) 2 40 Tryz.underlying162 hj hj0 hj1 hj2 rfl aJ _ T _ (by rfl) mF.out ⟨w7.heap.size,0,none⟩ 1 1 [.string nm,.slice A1 acc.length c1] (by rfl) rfl jd.out (by intro u hu;simp at hu;rcases hu with rfl|rfl<;>rfl) aJ (by unfold maxLen;omega) aR (by simp;omega) (w7.heap.size+1) (by simp) ?_;intro g' cap' w10 hown' hgrow hat nD;have BP:=ae (og.out.off (Keeps.row hgrow) (cG mF.out) aJ);have fU:=xI.out.grown hgrow Yg.out;have p10:=(BP.out.cell q).trans hq;have z10:=BP.out.frozen q;have n0:=fU.cell 0;have n1:=fU.cell 1;simp at n0 n1;obtain⟨mE,fX,P4⟩:=bz hown' hgrow hat;clear hown' hgrow hat nD fU;refine hK.out _ _ (fun _=>⟨p10,n0,n1⟩) (fun hHeld=>?_);have hHeld:=hHeld aJ;clear hK K;try simp only[ck]
    refine dT 7 ?_
    refine np 8 fun K hK=>?_;go_simp;refine hK.out _ _ (fun h=>absurd rfl h) (fun _=>?_);clear hK K hHeld;try simp only[ck]
    refine OU ?_;go_wp2_with fail
    have K1:Keeps (fun k=>k=b∨k=P∨(dq A T cap).ownBlock=some k) w (w7.alloc (.cells #[.string nm,.slice A1 acc.length c1] 277)).drew:=(((FIN.out _ EI.out).mono fun k _ hk=>Or.inl hk).alloc _).drew;have K2:=(Keeps.grown K1 fX.out fun k hk=>Or.inl (Or.inr (Or.inr hk))).setCell (p:=⟨P,q,none⟩) (Or.inl (Or.inr (Or.inl rfl))) (.slice (some ⟨g',0,none⟩) (T+1) cap');have KS:=Keeps.row fX.out;have OS:=cG mF.out;have KQ:=(Keeps.refl (fun x=>x=P) w10).setCell (p:=⟨P,q,none⟩) (Or.inl rfl) (.slice (some ⟨g',0,none⟩) (T+1) cap');have OQ:Off (fun x=>x=P) w10 [166]:=fun k hk=>⟨_,_,_,by subst hk;exact BP.out,by simp⟩
    have R1:Rs (w7.alloc (.cells #[.string nm,.slice A1 acc.length c1] 277)).drew b P k n lv uv ws:=⟨(H7.out.alloc _).blk,(H7.out.alloc _).row,H7.out.ne,H7.out.len,H7.out.sizes⟩;have R2:=(R1.off KS OS aJ aJ).off KQ OQ aJ aJ;have B2:aH (w10.setCell ⟨P,q,none⟩ (.slice (some ⟨g',0,none⟩) (T+1) cap')) P 166 (pc.setIfInBounds q (.slice (some ⟨g',0,none⟩) (T+1) cap')):=BP.out.aM q _;have hstr:∀(u:Value)(m:Nat)(ys:List Value),w7.ownsRow base 9 1 u m ys→(w10.setCell ⟨P,q,none⟩ (.slice (some ⟨g',0,none⟩) (T+1) cap')).ownsRow base 9 1 u m ys:=fun u m ys hu=>
     bn (bn (show(w7.alloc (.cells #[.string nm,.slice A1 acc.length c1] 277)).drew.ownsRow base 9 1 u m ys from hu.alloc _) KS OS aJ) KQ OQ (by decide)
    refine⟨rfl,_,results_none rfl _ _ _,eW.good HFin.out K2 ⟨rfl,k,_,R2,B2,⟨xs++[(⟨nm,acc⟩,.slice A1 acc.length c1)],by simp[hxs],?_,?_⟩,?_⟩⟩
    ·rw[aj,←HT.out,List.map_append,show List.map tC [((⟨nm,acc⟩:Nm),dq A1 acc.length c1)]=[(nm,.slice A1 acc.length c1)]from rfl,CN];exact bn mE.out KQ OQ (by decide)
    ·intro x hx;rcases List.mem_append.1 hx with hx|hx
     ·exact hstr _ _ _ (hnx x hx)
     ·rw[List.mem_singleton.1 hx];exact hstr _ _ _ (OW7.out.mono aR)
    ·intro g hg;have hgg:some g'=some g:=hg;injection hgg with hgg
     rcases P4.out with h|h
     ·exact Or.inl (hgg▸h)
     ·have hs:=(FIN.out _ EI.out).size;exact Or.inr (by omega)
end Go.Proofs.YtkjaajcpbldjoabGreatDoor
