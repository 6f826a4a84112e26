/- Joined out of: DfB NlP PzF NlB RtA RtB. -/
import Derived.Test.YtkjaajcpbldjoabGreatDoorLal
set_option linter.unusedVariables false
set_option linter.unusedSimpArgs false
set_option maxHeartbeats 16000000
set_option maxRecDepth 100000
open Bool renaming and_eq_true→aU,not_false→ahV,not_true→ah9
open Go.Lib renaming hid→ae
open Go.Proofs.Tryz renaming prog→ah,underlying29→ahP,underlying23→aif
open Go.RowKit renaming Hid→ag
open Go.RowKit.Below renaming refl→aI
open Go.Value renaming string→bN,slice→dq,int→ahL
open Go.World renaming ownsRow_nil→bh
open List renaming getElem?_eq_getElem→af,length_append→aj,length_map→ay,take_succ_eq_append_getElem→aC,range→aF,take_of_length_le→aN,getElem_mem→aZ,getElem?_map→bO,length_cons→bP,mem_cons_self→cJ,map_append→cL,mem_map_of_mem→dQ,append_nil→ep,flatMap_cons→abj,map_singleton→ahM,filter_append→ahR,filter_nil→aia
open Nat renaming le_trans→aw,le_refl→ax,zero_le→bj,add_zero→cq,add_assoc→jh
namespace Go.Proofs.YtkjaajcpbldjoabGreatDoor
open Go.RowKit
attribute [local go_sem↓] Go.wp_at_zero Go.wp_at_succ
theorem kj{w:World}{g:Nat}{v0 v1 v2 v3 v4 v5 v6 v7 v8:Value}(h:aH w g 31 #[v0,v1,v2,v3,v4,v5,v6,v7,v8]):(loadVar 31 ⟨g,0,none⟩).run ah w=.ok (.agg #[v0,v1,v2,v3,v4,v5,v6,v7,v8]) w:=by
 have c0:=h.cell 0;have c1:=h.cell 1;have c2:=h.cell 2;have c3:=h.cell 3;have c4:=h.cell 4;have c5:=h.cell 5;have c6:=h.cell 6;have c7:=h.cell 7;have c8:=h.cell 8;simp at c0 c1 c2 c3 c4 c5 c6 c7 c8;simp[loadVar,go_sem,c0,c1,c2,c3,c4,c5,c6,c7,c8]
def D7(w:World)(P:Nat)(v0 v1 v2 v3 v4 v5 v6 v7 v8:Value):World:=((((((((w.setCell ⟨P,0,none⟩ v0).setCell ⟨P,1,none⟩ v1).setCell ⟨P,2,none⟩ v2).setCell ⟨P,3,none⟩ v3).setCell ⟨P,4,none⟩ v4).setCell ⟨P,5,none⟩ v5).setCell ⟨P,6,none⟩ v6).setCell ⟨P,7,none⟩ v7).setCell ⟨P,8,none⟩ v8
theorem j5{w:World}{P:Nat}{z0 z1 z2 z3 z4 z5 z6 z7 z8:Value}(hP:aH w P 31 #[z0,z1,z2,z3,z4,z5,z6,z7,z8])(v0 v1 v2 v3 v4 v5 v6 v7 v8:Value):aH (D7 w P v0 v1 v2 v3 v4 v5 v6 v7 v8) P 31 #[v0,v1,v2,v3,v4,v5,v6,v7,v8]:=by
 have s1:aH _ P 31 #[v0,z1,z2,z3,z4,z5,z6,z7,z8]:=hP.aM 0 v0;have s2:aH _ P 31 #[v0,v1,z2,z3,z4,z5,z6,z7,z8]:=s1.aM 1 v1;have s3:aH _ P 31 #[v0,v1,v2,z3,z4,z5,z6,z7,z8]:=s2.aM 2 v2;have s4:aH _ P 31 #[v0,v1,v2,v3,z4,z5,z6,z7,z8]:=s3.aM 3 v3;have s5:aH _ P 31 #[v0,v1,v2,v3,v4,z5,z6,z7,z8]:=s4.aM 4 v4;have s6:aH _ P 31 #[v0,v1,v2,v3,v4,v5,z6,z7,z8]:=s5.aM 5 v5;have s7:aH _ P 31 #[v0,v1,v2,v3,v4,v5,v6,z7,z8]:=s6.aM 6 v6;have s8:aH _ P 31 #[v0,v1,v2,v3,v4,v5,v6,v7,z8]:=s7.aM 7 v7;have s9:aH _ P 31 #[v0,v1,v2,v3,v4,v5,v6,v7,v8]:=s8.aM 8 v8;exact s9
theorem ru{Q:World→Prop}{P:Nat}(hq:∀u i x,Q u→Q (u.setCell ⟨P,i,none⟩ x)){W:World}(h:Q W)(v0 v1 v2 v3 v4 v5 v6 v7 v8:Value):Q (D7 W P v0 v1 v2 v3 v4 v5 v6 v7 v8):=hq _ _ _ (hq _ _ _ (hq _ _ _ (hq _ _ _ (hq _ _ _ (hq _ _ _ (hq _ _ _ (hq _ _ _ (hq _ _ _ h))))))))
theorem na(w:World):mK w Dl.zero au au au:=⟨iV w,sE w 1,dN w⟩
def W3(D:Dl)(e:Nat)(w:World)(r:Ending)(w':World):Prop:=(∃sv gv rv,r=.returned (.tuple #[.agg (eT D sv gv rv),.int .i64 e])∧mK w' D sv gv rv)∧aW w w'
structure zT(m:Mp):Prop where
 sz:∀p∈m.aK,gQ p
 pl:m.aK.length≤2000000
 rl:m.aA.length≤2000000
 ol:m.policy.size≤2000000
 ml:jE m=true→(zE m).length≤80000000
theorem yM{B:Nat}{a u:World}(_:Below B a u)(t:TypeId)(cs:Array Value):aH (u.alloc (.cells cs t)) u.heap.size t cs:=aH.new u t cs
theorem iO{B:Nat}{a u:World}(_:Below B a u)(o:Obj):aW u (u.alloc o):=boxed u o
theorem BD{w:World}(env:Env w)(ord:fZ w){pa ra pb rb:Value}{a b:Mp}(ha:df w pa a.aK)(ra':eG w ra a.aA)(hb:df w pb b.aK)(rb':eG w rb b.aA)(fa:jG a)(fb:jG b)(sa:zT a)(sb:zT b):Calls ah 6 #[.agg #[.int .u64 (a.version:Int),pa,ra,.string a.policy],.agg #[.int .u64 (b.version:Int),pb,rb,.string b.policy]] w (W3 (fj cz a b).1 (fj cz a b).2 w):=by
 have hma:=fun u(hu:aW w u)=>ky (env.below hu) (ha.below hu) (a8.below ra' hu) fa sa.sz (by have:=sa.pl;omega) (by have:=sa.rl;omega) sa.ol sa.ml
 have hmb:=fun u(hu:aW w u)=>ky (env.below hu) (hb.below hu) (a8.below rb' hu) fb sb.sz (by have:=sb.pl;omega) (by have:=sb.rl;omega) sb.ol sb.ml
 have hhb:=fun u(hu:aW w u)=>uj (env.below hu) (ord.below hu ord.lt) (hb.below hu) (a8.below rb' hu) fb sb.sz (by have:=sb.pl;omega) (by have:=sb.rl;omega) sb.ol sb.ml
 have heq:=fun u(hu:aW w u)=>Hw a.aA b.aA (by have:=sa.rl;omega) (by have:=sb.rl;omega) (a8.below ra' hu) (a8.below rb' hu)
 have hcl:=fun u(hu:aW w u)=>yj (a8.below rb' hu) sb.rl (wO _)
 have ade:=fun u(hu:aW w u)key=>pK (ha.below hu) (by have:=sa.pl;omega) key
 have adf:=fun u(hu:aW w u)key=>pK (hb.below hu) (by have:=sb.pl;omega) key
 have hRe:((cR a).2≠0→fj cz a b=(Dl.zero,(cR a).2))∧((cR a).2=0→(cR b).2≠0→fj cz a b=(Dl.zero,(cR b).2))∧((cR a).2=0→(cR b).2=0→b.version≤a.version→fj cz a b=(Dl.zero,2))∧((cR a).2=0→(cR b).2=0→¬b.version≤a.version→fj cz a b=(dI cz a b,0)):=by
  refine⟨fun h=>?_,fun h1 h=>?_,fun h1 h2 h=>?_,fun h1 h2 h=>?_⟩
  ·unfold fj;rw[if_pos h]
  ·unfold fj;rw[if_neg (by rw[h1];decide),if_pos h]
  ·unfold fj;rw[if_neg (by rw[h1];decide),if_neg (by rw[h2];decide),if_pos h]
  ·unfold fj;rw[if_neg (by rw[h1];decide),if_neg (by rw[h2];decide),if_neg h]
 have hRd:dI cz a b=⟨a.version,b.version,b.aK.filter (jF a.aK),(a.aK.filter fun p=>(nK b.aK p.key).isNone).map (·.key),decide (a.aA≠b.aA),if a.aA≠b.aA then b.aA else [],decide (a.policy≠b.policy),if a.policy≠b.policy then b.policy else⟨#[]⟩,cz b⟩:=rfl;obtain⟨xs,hxl,hro,hxm⟩:=ha;obtain⟨ys,hyl,hqo,hym⟩:=hb;have szx:∀X∈xs,gQ X.p:=fun X hX=>sa.sz _ (by rw[←hxl];exact dQ hX)
 have szy:∀X∈ys,gQ X.p:=fun X hX=>sb.sz _ (by rw[←hyl];exact dQ hX)
 have lxa:xs.length=a.aK.length:=by rw[←hxl,ay]
 have lyb:ys.length=b.aK.length:=by rw[←hyl,ay]
 have lx:=sa.pl;have ly:=sb.pl;rw[←lxa]at lx;rw[←lyb]at ly;obtain⟨kP,ca1,rfl,_,hA⟩:=hro;obtain⟨uk,cb1,rfl,_,hBr⟩:=hqo;obtain⟨kB,ca2,rfl⟩:=a8.shape ra';obtain⟨rz,cb2,rfl⟩:=a8.shape rb';generalize fj cz a b=RR at hRe⊢;generalize dI cz a b=DD at hRe hRd;generalize cz b=HH at hhb hRd;generalize(cR a).2=ea at hma hRe;generalize(cR b).2=eb at hmb hRe;obtain⟨va,fu,eZ,ta⟩:=a;obtain⟨vb,ip,eA,tb⟩:=b;simp only at*;obtain⟨gV,yN⟩:=bw xs.length;obtain⟨qO,W8⟩:=bw ys.length;obtain⟨iq,zU⟩:=bw eZ.length;obtain⟨j6,Ru⟩:=bw eA.length;rw[←yN,←zU]at hma;rw[←W8,←Ru]at hmb hhb;rw[←zU,←Ru]at heq;rw[←Ru]at hcl;rw[←yN]at ade;rw[←W8]at adf;rw[←yN]at hA lx⊢;rw[←W8]at hBr ly⊢;rw[←zU,←Ru];have bv1:=fa.version;have bv2:=fb.version;simp only at bv1 bv2;clear lxa lyb;obtain⟨zL,wJ,HHb,HEq,HCl,adg,adh,Rw,lk,HA,QV,oK⟩:=oM hma hmb hhb heq hcl ade adf hRe hRd hA hBr hxm;obtain⟨HYm,Wl,HYl,SzX,SzY,jL,kX,vX,HN4⟩:=SX hym hxl hyl szx szy yN W8 zU Ru;clear hma hmb hhb heq hcl ade adf hRe hRd hA hBr hxm hym hxl hyl szx szy yN W8 zU Ru env ord ra' rb' fa fb sa sb;obtain⟨HB1,od⟩:=aL (boxed w (.cells #[.int .u64 va,.slice kP gV ca1,.slice kB iq ca2,.string ta] 26)) (aH.new w 26 #[.int .u64 va,.slice kP gV ca1,.slice kB iq ca2,.string ta]);have hb2:=boxed (w.alloc (.cells #[.int .u64 va,.slice kP gV ca1,.slice kB iq ca2,.string ta] 26)) (.cells #[.int .u64 vb,.slice uk qO cb1,.slice rz j6 cb2,.string tb] 26);have HB2:=bg HB1 hb2;have HP2:=ae (bK od hb2);have hQ2:=aH.new (w.alloc (.cells #[.int .u64 va,.slice kP gV ca1,.slice kB iq ca2,.string ta] 26)) 26 #[.int .u64 vb,.slice uk qO cb1,.slice rz j6 cb2,.string tb];rw[show(w.alloc (.cells #[.int .u64 va,.slice kP gV ca1,.slice kB iq ca2,.string ta] 26)).heap.size=w.heap.size+1 by simp]at hQ2;have hb3:=boxed ((w.alloc (.cells #[.int .u64 va,.slice kP gV ca1,.slice kB iq ca2,.string ta] 26)).alloc (.cells #[.int .u64 vb,.slice uk qO cb1,.slice rz j6 cb2,.string tb] 26)) (.cells #[.int .u64 0,.int .u64 0,au,au,.bool false,au,.bool false,aG,aG] 31);have HB3:=bg HB2 hb3;obtain⟨gy,yi⟩:=aL (bK HP2 hb3) (hQ2.below hb3 hQ2.lt);have iY:=aH.new ((w.alloc (.cells #[.int .u64 va,.slice kP gV ca1,.slice kB iq ca2,.string ta] 26)).alloc (.cells #[.int .u64 vb,.slice uk qO cb1,.slice rz j6 cb2,.string tb] 26)) 31 #[.int .u64 0,.int .u64 0,au,au,.bool false,au,.bool false,aG,aG];rw[show((w.alloc (.cells #[.int .u64 va,.slice kP gV ca1,.slice kB iq ca2,.string ta] 26)).alloc (.cells #[.int .u64 vb,.slice uk qO cb1,.slice rz j6 cb2,.string tb] 26)).heap.size=w.heap.size+2 by simp]at iY;have HR3:=ae iY;have NQ:ag (w.heap.size+3≤(((w.alloc (.cells #[.int .u64 va,.slice kP gV ca1,.slice kB iq ca2,.string ta] 26)).alloc (.cells #[.int .u64 vb,.slice uk qO cb1,.slice rz j6 cb2,.string tb] 26)).alloc (.cells #[.int .u64 0,.int .u64 0,au,au,.bool false,au,.bool false,aG,aG] 31)).heap.size):=ae (by simp);clear hb2 hQ2 hb3 iY HB1 od HB2 HP2;go_enter Tryz.func6,Tryz.ntmps6;go_upto_region 1 with fail
 generalize(((w.alloc (.cells #[.int .u64 va,.slice kP gV ca1,.slice kB iq ca2,.string ta] 26)).alloc (.cells #[.int .u64 vb,.slice uk qO cb1,.slice rz j6 cb2,.string tb] 26)).alloc (.cells #[.int .u64 0,.int .u64 0,au,au,.bool false,au,.bool false,aG,aG] 31))=w3 at HB3 gy yi HR3 NQ⊢;obtain⟨P,Q,R,M,eP,eQ,eR,eM⟩:∃P Q R M,P=w.heap.size∧Q=w.heap.size+1∧R=w.heap.size+2∧M=w.heap.size+3:=⟨_,_,_,_,rfl,rfl,rfl,rfl⟩;rw[←eP]at gy;rw[←eQ]at yi;rw[←eR]at HR3;rw[←eM]at NQ;rw[←eR,←eQ,←eP];have HPQ:ag (P<M∧Q<M∧R<M∧P≠R∧Q≠R∧w.heap.size≤R):=ae aR;clear eP eQ eR eM;have a0:=gy.out.cell 0;have a1:=gy.out.cell 1;have a2:=gy.out.cell 2;have a3:=gy.out.cell 3;have b0:=yi.out.cell 0;have b4:=yi.out.cell 1;have b5:=yi.out.cell 2;have b6:=yi.out.cell 3;simp at a0 a1 a2 a3 b0 b4 b5 b6;go_upto_region 2 with fail
 go_loopw [18] (fun v18 wr=>∃k:Nat,k≤2∧v18=.int .i64 k∧ag (1≤k→ea=0)∧ag (2≤k→eb=0)∧ag (aW w wr)∧ag (aH wr P 26 #[.int .u64 va,.slice kP gV ca1,.slice kB iq ca2,.string ta])∧ag (aH wr Q 26 #[.int .u64 vb,.slice uk qO cb1,.slice rz j6 cb2,.string tb])∧ag (aH wr R 31 #[.int .u64 0,.int .u64 0,au,au,.bool false,au,.bool false,aG,aG])∧ag (M≤wr.heap.size)) (fun v18 _=>2-(intOf v18).toNat)
 case atStart=>exact⟨0,by omega,rfl,ae (fun h=>absurd h aJ),ae (fun h=>absurd h aJ),HB3,gy,yi,HR3,NQ⟩
 case round=>
  obtain⟨k,hk,rfl,hEa,hEb,SR,kN,W9,Yu,HSw⟩:=hrel;clear HB3 gy yi HR3 NQ a0 a1 a2 a3 b0 b4 b5 b6;obtain⟨wo,rfl⟩:=bw (wr:World);have ix0:∀u:World,(Instr.index 64 (.agg #[.int .u64 va,.slice kP gV ca1,.slice kB iq ca2,.string ta,.int .u64 vb,.slice uk qO cb1,.slice rz j6 cb2,.string tb]) (.int .i64 0)).run ah u=.ok (.agg #[.int .u64 va,.slice kP gV ca1,.slice kB iq ca2,.string ta]) u:=fun u=>by kernel_rfl
  have ix1:∀u:World,(Instr.index 64 (.agg #[.int .u64 va,.slice kP gV ca1,.slice kB iq ca2,.string ta,.int .u64 vb,.slice uk qO cb1,.slice rz j6 cb2,.string tb]) (.int .i64 1)).run ah u=.ok (.agg #[.int .u64 vb,.slice uk qO cb1,.slice rz j6 cb2,.string tb]) u:=fun u=>by kernel_rfl
  match k,hk with
  |0,_=>
   obtain⟨D8,HXx,HPx,HQx,HRx,HSx⟩:=ot (after SR.out (boxed wo (.cells #[.int .u64 va,.slice kP gV ca1,.slice kB iq ca2,.string ta] 26))) (aH.new wo 26 #[.int .u64 va,.slice kP gV ca1,.slice kB iq ca2,.string ta]) (bK kN (boxed wo (.cells #[.int .u64 va,.slice kP gV ca1,.slice kB iq ca2,.string ta] 26))) (bK W9 (boxed wo (.cells #[.int .u64 va,.slice kP gV ca1,.slice kB iq ca2,.string ta] 26))) (bK Yu (boxed wo (.cells #[.int .u64 va,.slice kP gV ca1,.slice kB iq ca2,.string ta] 26))) (aw HSw.out (boxed wo (.cells #[.int .u64 va,.slice kP gV ca1,.slice kB iq ca2,.string ta] 26)).size);clear SR kN W9 Yu HSw;go_upto_region 4 with fail
   generalize wo.alloc (.cells #[.int .u64 va,.slice kP gV ca1,.slice kB iq ca2,.string ta] 26)=w4 at D8 HXx HPx HQx HRx HSx⊢;generalize wo.heap.size=X at HXx⊢;obtain⟨x0,x1,x2,x3⟩:=dY HXx;go_upto_region 5 with(go_at_call 8;refine(zL.out _ D8.out).mono ?_;rintro r w5⟨rfl,d5⟩)
   have SN:=bg D8 d5;obtain⟨HPy,HQy,HRy,HSy⟩:=cU (bK HPx d5) (bK HQx d5) (bK HRx d5) (aw HSx.out d5.size);clear D8 HXx HPx HQx HRx HSx x0 x1 x2 x3 d5;by_cases hz:ea=0
   ·have q0:((ea:Int) !=0)=false:=by simp[hz]
    have hzH:=ae hz;clear hz;go_wp2_with fail
    go_roundw
    case rel=>exact⟨1,by omega,rfl,ae (fun _=>hzH.out),ae (fun h=>absurd h aJ),SN,HPy,HQy,HRy,HSy⟩
    case measure=>simp[intOf]
   ·have q0:((ea:Int) !=0)=true:=by simp;omega
    have HF:=ae (Rw.out.1 hz);clear hz;obtain⟨r0,r1,r2,r3,r4,r5,r6,r7,r8⟩:=vw HRy;have fr:=fun i=>HRy.out.frozen i
    go_wp2_with fail
    have s9:=j5 HRy.out (.int .u64 0) (.int .u64 0) au au (.bool false) au (.bool false) aG aG;have q9:=ru (P:=R) (Q:=fun u=>aW w u) (fun u i x hq=>hq.setCell (p:=⟨R,i,none⟩) HPQ.out.2.2.2.2.2 x) SN.out (.int .u64 0) (.int .u64 0) au au (.bool false) au (.bool false) aG aG;refine bodyPost_ret (bF rfl rfl rfl (kj s9)) rfl ⟨⟨au,au,au,?_,?_⟩,q9⟩
    ·rw[HF.out];rfl
    ·rw[HF.out];exact na _
  |1,_=>
   obtain⟨D8,HXx,HPx,HQx,HRx,HSx⟩:=ot (after SR.out (boxed wo (.cells #[.int .u64 vb,.slice uk qO cb1,.slice rz j6 cb2,.string tb] 26))) (aH.new wo 26 #[.int .u64 vb,.slice uk qO cb1,.slice rz j6 cb2,.string tb]) (bK kN (boxed wo (.cells #[.int .u64 vb,.slice uk qO cb1,.slice rz j6 cb2,.string tb] 26))) (bK W9 (boxed wo (.cells #[.int .u64 vb,.slice uk qO cb1,.slice rz j6 cb2,.string tb] 26))) (bK Yu (boxed wo (.cells #[.int .u64 vb,.slice uk qO cb1,.slice rz j6 cb2,.string tb] 26))) (aw HSw.out (boxed wo (.cells #[.int .u64 vb,.slice uk qO cb1,.slice rz j6 cb2,.string tb] 26)).size);clear SR kN W9 Yu HSw;go_upto_region 4 with fail
   generalize wo.alloc (.cells #[.int .u64 vb,.slice uk qO cb1,.slice rz j6 cb2,.string tb] 26)=w4 at D8 HXx HPx HQx HRx HSx⊢;generalize wo.heap.size=X at HXx⊢;obtain⟨x0,x1,x2,x3⟩:=dY HXx;go_upto_region 5 with(go_at_call 8;refine(wJ.out _ D8.out).mono ?_;rintro r w5⟨rfl,d5⟩)
   have SN:=bg D8 d5;obtain⟨HPy,HQy,HRy,HSy⟩:=cU (bK HPx d5) (bK HQx d5) (bK HRx d5) (aw HSx.out d5.size);clear D8 HXx HPx HQx HRx HSx x0 x1 x2 x3 d5;by_cases hz:eb=0
   ·have q0:((eb:Int) !=0)=false:=by simp[hz]
    have hzH:=ae hz;clear hz;go_wp2_with fail
    go_roundw
    case rel=>exact⟨2,by omega,rfl,ae (fun _=>hEa.out aJ),ae (fun _=>hzH.out),SN,HPy,HQy,HRy,HSy⟩
    case measure=>simp[intOf]
   ·have q0:((eb:Int) !=0)=true:=by simp;omega
    have HF:=ae (Rw.out.2.1 (hEa.out aJ) hz);clear hz;obtain⟨r0,r1,r2,r3,r4,r5,r6,r7,r8⟩:=vw HRy;have fr:=fun i=>HRy.out.frozen i
    go_wp2_with fail
    have s9:=j5 HRy.out (.int .u64 0) (.int .u64 0) au au (.bool false) au (.bool false) aG aG;have q9:=ru (P:=R) (Q:=fun u=>aW w u) (fun u i x hq=>hq.setCell (p:=⟨R,i,none⟩) HPQ.out.2.2.2.2.2 x) SN.out (.int .u64 0) (.int .u64 0) au au (.bool false) au (.bool false) aG aG;refine bodyPost_ret (bF rfl rfl rfl (kj s9)) rfl ⟨⟨au,au,au,?_,?_⟩,q9⟩
    ·rw[HF.out];rfl
    ·rw[HF.out];exact na _
  |2,_=>
   have Ea:=ae (hEa.out aJ);have Eb:=ae (hEb.out aJ);clear hEa hEb ix0 ix1;have a0:=kN.out.cell 0;have b0:=W9.out.cell 0;have b4:=W9.out.cell 1;have b5:=W9.out.cell 2;have b6:=W9.out.cell 3;simp at a0 b0 b4 b5 b6;by_cases hv:vb≤va
   ·have q1:(vb:Int)≤(va:Int):=by omega
    have HF:=ae (Rw.out.2.2.1 Ea.out Eb.out hv);clear hv;obtain⟨r0,r1,r2,r3,r4,r5,r6,r7,r8⟩:=vw Yu;have fr:=fun i=>Yu.out.frozen i
    go_wp2_with fail
    have s9:=j5 Yu.out (.int .u64 0) (.int .u64 0) au au (.bool false) au (.bool false) aG aG;have q9:=ru (P:=R) (Q:=fun u=>aW w u) (fun u i x hq=>hq.setCell (p:=⟨R,i,none⟩) HPQ.out.2.2.2.2.2 x) SR.out (.int .u64 0) (.int .u64 0) au au (.bool false) au (.bool false) aG aG;refine bodyPost_ret (bF rfl rfl rfl (kj s9)) rfl ⟨⟨au,au,au,?_,?_⟩,q9⟩
    ·rw[HF.out];rfl
    ·rw[HF.out];exact na _
   have q1:¬(vb:Int)≤(va:Int):=by omega
   have HF:=ae (Rw.out.2.2.2 Ea.out Eb.out hv);clear hv;go_upto_region 10 with fail
   clear q1;go_cut [9]from 11 (fun v9 wx=>∃D:Nat,v9=.pointer (some ⟨D,0,none⟩)∧ag (wo.heap.size≤D)∧ag (aH wx D 31 #[.int .u64 va,.int .u64 vb,au,au,.bool false,au,.bool false,aG,.string HH])∧ag (aW wo wx))
   case first=>
    have E:=(aI wo.heap.size wo).drew;refine dW 8 (fun u=>u.cell? ⟨P,0,none⟩=some (.int .u64 va)∧u.cell? ⟨Q,0,none⟩=some (.int .u64 vb)∧u.cell? ⟨Q,1,none⟩=some (.slice uk qO cb1)∧u.cell? ⟨Q,2,none⟩=some (.slice rz j6 cb2)∧u.cell? ⟨Q,3,none⟩=some (.string tb)) bo (⟨a0,b0,b4,b5,b6⟩) (fun hHeld=>?_);refine dT 0 ?_
    refine dT 1 ?_
    refine dT 2 ?_
    refine dT 3 ?_
    refine dT 4 ?_
    refine rB (rs:=[5,7]) bo (by simp) ?_;refine fO.cons rfl (fun K hK=>?_) (fO.cons rfl (fun K hK=>?_) fO.nil)
    ·go_simp;refine(HHb.out _ (after SR.out E)).mono ?_;rintro r w5⟨rfl,d⟩;try have HD:=ae (bK HD d)
     have Ew:=E;have E:=after E d;clear d;try have z:=fun i=>HD.out.frozen i
     try have x0:=HD.out.cell 0
     try have x1:=HD.out.cell 1
     try have x2:=HD.out.cell 2
     try have x3:=HD.out.cell 3
     try have x4:=HD.out.cell 4
     try have x5:=HD.out.cell 5
     try have x6:=HD.out.cell 6
     try have x7:=HD.out.cell 7
     try have x8:=HD.out.cell 8
     try simp at x0 x1 x2 x3 x4 x5 x6 x7 x8
     refine hK.out _ _ (fun _=>⟨ai a0 E,ai b0 E,ai b4 E,ai b5 E,ai b6 E⟩) (fun hHeld=>?_);have hHeld:=hHeld aJ;clear hK K;try simp only[ck]
     refine dT 6 ?_
     refine np 7 fun K hK=>?_;go_simp;obtain⟨Hz,HD⟩:=aL E.size (yM E 31 #[.int .u64 0,.int .u64 0,au,au,.bool false,au,.bool false,aG,aG]);try(have HD:ag (aH _ wo.heap.size _ _):=HD)
     have Eo:=E;try have H1:=ae (ax w5.heap.size)
     have E:=after E (iO E (.cells #[.int .u64 0,.int .u64 0,au,au,.bool false,au,.bool false,aG,aG] 31));refine hK.out _ _ (fun _=>⟨ai a0 E,ai b0 E,ai b4 E,ai b5 E,ai b6 E⟩) (fun hHeld=>?_);have hHeld:=hHeld aJ;clear hK K;try simp only[ck]
     refine np 8 fun K hK=>?_;go_simp;refine hK.out _ _ (fun h=>absurd rfl h) (fun _=>?_);clear hK K hHeld;try simp only[ck]
     refine OU ?_;first
      |(have:=H1;obtain⟨f1,f2⟩:=aL (yM Eo 31 #[.int .u64 va,.int .u64 vb,au,au,.bool false,au,.bool false,aG,.string HH]) (after Eo (iO Eo (.cells #[.int .u64 va,.int .u64 vb,au,au,.bool false,au,.bool false,aG,.string HH] 31)));generalize w5.alloc (.cells #[.int .u64 va,.int .u64 vb,au,au,.bool false,au,.bool false,aG,.string HH] 31)=wf at f1 f2⊢)
      |(obtain⟨f1,f2⟩:=aL (j5 HD.out (.int .u64 va) (.int .u64 vb) au au (.bool false) au (.bool false) aG (.string HH)) (ru (P:=wo.heap.size) (Q:=fun u=>aW wo u) (fun u i x hq=>hq.setCell (p:=⟨_,i,none⟩) (ax _) x) E (.int .u64 va) (.int .u64 vb) au au (.bool false) au (.bool false) aG (.string HH));unfold D7 at f1 f2;generalize(((((((((w5.setCell ⟨wo.heap.size,0,none⟩ (.int .u64 va)).setCell ⟨wo.heap.size,1,none⟩ (.int .u64 vb)).setCell ⟨wo.heap.size,2,none⟩ au).setCell ⟨wo.heap.size,3,none⟩ au).setCell ⟨wo.heap.size,4,none⟩ (.bool false)).setCell ⟨wo.heap.size,5,none⟩ au).setCell ⟨wo.heap.size,6,none⟩ (.bool false)).setCell ⟨wo.heap.size,7,none⟩ aG).setCell ⟨wo.heap.size,8,none⟩ (.string HH))=wf at f1 f2⊢)
     clear zL wJ HHb HEq HCl adg adh Rw lk HA QV oK HYm Wl HYl SzX SzY E Eo;go_wp2_with fail
     go_meet;exact⟨_,rfl,Hz,f1,f2⟩
    ·go_simp;obtain⟨Hz,HD⟩:=aL E.size (yM E 31 #[.int .u64 0,.int .u64 0,au,au,.bool false,au,.bool false,aG,aG]);try(have HD:ag (aH _ wo.heap.size _ _):=HD)
     have Eo:=E;try have H1:=ae (ax w5.heap.size)
     have E:=after E (iO E (.cells #[.int .u64 0,.int .u64 0,au,au,.bool false,au,.bool false,aG,aG] 31));refine hK.out _ _ (fun _=>⟨ai a0 E,ai b0 E,ai b4 E,ai b5 E,ai b6 E⟩) (fun hHeld=>?_);have hHeld:=hHeld aJ;clear hK K;try simp only[ck]
     refine np 5 fun K hK=>?_;go_simp;refine(HHb.out _ (after SR.out E)).mono ?_;rintro r w5⟨rfl,d⟩;try have HD:=ae (bK HD d)
     have Ew:=E;have E:=after E d;clear d;try have z:=fun i=>HD.out.frozen i
     try have x0:=HD.out.cell 0
     try have x1:=HD.out.cell 1
     try have x2:=HD.out.cell 2
     try have x3:=HD.out.cell 3
     try have x4:=HD.out.cell 4
     try have x5:=HD.out.cell 5
     try have x6:=HD.out.cell 6
     try have x7:=HD.out.cell 7
     try have x8:=HD.out.cell 8
     try simp at x0 x1 x2 x3 x4 x5 x6 x7 x8
     refine hK.out _ _ (fun _=>⟨ai a0 E,ai b0 E,ai b4 E,ai b5 E,ai b6 E⟩) (fun hHeld=>?_);have hHeld:=hHeld aJ;clear hK K;try simp only[ck]
     refine dT 6 ?_
     refine np 8 fun K hK=>?_;go_simp;refine hK.out _ _ (fun h=>absurd rfl h) (fun _=>?_);clear hK K hHeld;try simp only[ck]
     refine OU ?_;first
      |(have:=H1;obtain⟨f1,f2⟩:=aL (yM Eo 31 #[.int .u64 va,.int .u64 vb,au,au,.bool false,au,.bool false,aG,.string HH]) (after Eo (iO Eo (.cells #[.int .u64 va,.int .u64 vb,au,au,.bool false,au,.bool false,aG,.string HH] 31)));generalize w5.alloc (.cells #[.int .u64 va,.int .u64 vb,au,au,.bool false,au,.bool false,aG,.string HH] 31)=wf at f1 f2⊢)
      |(obtain⟨f1,f2⟩:=aL (j5 HD.out (.int .u64 va) (.int .u64 vb) au au (.bool false) au (.bool false) aG (.string HH)) (ru (P:=wo.heap.size) (Q:=fun u=>aW wo u) (fun u i x hq=>hq.setCell (p:=⟨_,i,none⟩) (ax _) x) E (.int .u64 va) (.int .u64 vb) au au (.bool false) au (.bool false) aG (.string HH));unfold D7 at f1 f2;generalize(((((((((w5.setCell ⟨wo.heap.size,0,none⟩ (.int .u64 va)).setCell ⟨wo.heap.size,1,none⟩ (.int .u64 vb)).setCell ⟨wo.heap.size,2,none⟩ au).setCell ⟨wo.heap.size,3,none⟩ au).setCell ⟨wo.heap.size,4,none⟩ (.bool false)).setCell ⟨wo.heap.size,5,none⟩ au).setCell ⟨wo.heap.size,6,none⟩ (.bool false)).setCell ⟨wo.heap.size,7,none⟩ aG).setCell ⟨wo.heap.size,8,none⟩ (.string HH))=wf at f1 f2⊢)
     clear zL wJ HHb HEq HCl adg adh Rw lk HA QV oK HYm Wl HYl SzX SzY E Eo;go_wp2_with fail
     go_meet;exact⟨_,rfl,Hz,f1,f2⟩
   case rest=>
   obtain⟨D,rfl,hDs,hD0,hBc⟩:=hcut;obtain⟨wi,rfl⟩:=bw (wc:World);obtain⟨HPi,HQi,HRi,HBi⟩:=cU (bK kN hBc.out) (bK W9 hBc.out) (bK Yu hBc.out) (after SR.out hBc.out);have HDn:ag (w.heap.size≤D∧P≠D∧Q≠D∧R≠D∧D<wi.heap.size):=ae ⟨aw SR.out.size hDs.out,by have:=kN.out.lt;have:=hDs.out;omega,by have:=W9.out.lt;have:=hDs.out;omega,by have:=Yu.out.lt;have:=hDs.out;omega,hD0.out.lt⟩;clear kN W9 Yu SR HSw hDs hBc a0 b0 b4 b5 b6;obtain⟨-,b4⟩:=jQ HQi;go_upto_region 12 with fail
   clear b4;go_loopw [44] (fun v44 wr=>∃(k:Nat)(A:Option Addr)(n c:Nat)(zs:List bS),k≤qO∧v44=.int .i64 k∧n≤k∧ag (aH wr D 31 #[.int .u64 va,.int .u64 vb,.slice A n c,au,.bool false,au,.bool false,aG,.string HH])∧ag (wr.ownsRow wi.heap.size 47 8 (.slice A n c) n (cY zs))∧ag (∀Y∈zs,dm wr wi.heap.size Y)∧ag (zs.map (·.p)=((ys.take k).map (·.p)).filter (jF fu))∧ag (zs.length=n)∧ag (Keeps (fun x=>x=D) wi wr)) (fun v44 _=>qO-(intOf v44).toNat)
   case atStart=>exact⟨0,none,0,0,[],bj _,rfl,ax _,hD0,ae (bh _ _ _ _),ae (fun Y hY=>by cases hY),ae rfl,ae rfl,ae (Keeps.refl _ _)⟩
   case round=>
    obtain⟨k,A,n,c,zs,hk,rfl,hnk,hD,how,hzs,hmap,hzl,hK⟩:=hrel;obtain⟨Yv,rfl⟩:=bw (wr:World);clear hD0;have um:=ae (HBi.out.trans (hK.out.below (fun x hx=>by rw[hx];exact HDn.out.1) HBi.out.size));by_cases hlt:k<qO;rotate_left
    ·obtain rfl:qO=k:=by omega
     have hset:cA Yv wi.heap.size (.slice A n c) (ip.filter (jF fu)):=by
      have e:=hmap.out;rw[aN (by rw[kX.out];exact ax _),HYl.out]at e;exact⟨zs,e,by rw[hzl.out];exact how.out,hzs.out⟩
     obtain⟨adi,HPj,HQj,HRj⟩:=cU hset (HPi.out.keep hK.out HDn.out.2.1) (HQi.out.keep hK.out HDn.out.2.2.1) (HRi.out.keep hK.out HDn.out.2.2.2.1);have HWj:ag (wi.heap.size≤Yv.heap.size∧R<wi.heap.size):=ae ⟨hK.out.size,HRi.out.lt⟩;clear hset hmap how hzs hzl hK HPi HQi HRi;obtain⟨-,a1⟩:=jQ HPj;go_upto_region 19 with fail
     clear a1;obtain⟨wj,ewj⟩:=bw (Yv:World);rw[←ewj]at adi HPj HQj HRj HWj hD um;rw[←ewj];clear ewj;go_loopw [76] (fun v76 wr=>∃(k:Nat)(A2:Option Addr)(n2 c2:Nat)(gl:List ByteArray),k≤gV∧v76=.int .i64 k∧n2≤k∧ag (aH wr D 31 #[.int .u64 va,.int .u64 vb,.slice A n c,.slice A2 n2 c2,.bool false,au,.bool false,aG,.string HH])∧ag (wr.ownsRow wj.heap.size 9 1 (.slice A2 n2 c2) n2 (strCells gl))∧ag (gl=(((xs.take k).map (·.p)).filter fun p=>(nK ip p.key).isNone).map (·.key))∧ag (gl.length=n2)∧ag (Keeps (fun x=>x=D) wj wr)) (fun v76 _=>gV-(intOf v76).toNat)
     case atStart=>exact⟨0,none,0,0,[],bj _,rfl,ax _,hD,ae (bh _ _ _ _),ae rfl,ae rfl,ae (Keeps.refl _ _)⟩
     case round=>
      obtain⟨k,A2,n2,c2,gl,hk2,rfl,ahC,hD2,how,hgl,hgn,hK⟩:=hrel;obtain⟨wo3,rfl⟩:=bw (wr:World);clear hD;have vL:=ae (um.out.trans (hK.out.below (fun x hx=>by rw[hx];exact HDn.out.1) um.out.size));by_cases hlt:k<gV;rotate_left
      ·obtain rfl:gV=k:=by omega
       have hge:gl=(fu.filter fun p=>(nK ip p.key).isNone).map (·.key):=by
        have e:=hgl.out;rw[aN (by rw[jL.out];exact ax _),Wl.out]at e;exact e
       have HGe:=ae hge;have TS1:=ae (adi.out.above hK.out (fun x hx=>by rw[hx];exact HDn.out.2.2.2.2));obtain⟨TP1,TQ1,Yw⟩:=bz (HPj.out.keep hK.out HDn.out.2.1) (HQj.out.keep hK.out HDn.out.2.2.1) (HRj.out.keep hK.out HDn.out.2.2.2.1);have N9:=vL;have TD1:=hD2;have TO1:=how;have SS:ag (D<wj.heap.size∧R<wj.heap.size):=ae (by have:=HDn.out.2.2.2.2;have:=HWj.out;omega);clear hge hgl adi HPj HQj HRj vL hD2 how hK;have a2:=TP1.out.cell 2;have b2:=TQ1.out.cell 2;simp at a2 b2;obtain⟨E,hE⟩:=bw (decide (eZ=eA));have adj:=ae HEq.out;rw[←hE]at adj;have HE:=ae hE;clear hE HEq;go_upto_region 25 with(go_at_call 26;refine(adj.out _ N9.out).mono ?_;rintro r w5⟨rfl,d5⟩;obtain⟨TD2,TS2,TO2,Yx,Yy,Oa⟩:=ot (bK TD1 d5) (TS1.out.low d5) (own_below TO1.out d5) (bK TP1 d5) (bK TQ1 d5) (bK Yw d5);have Ob:=bg N9 d5;obtain⟨-,-,-,-,t4⟩:=IZ TD2;have fr:=fun i=>TD2.out.frozen i;clear d5)
       have Rz:ag (aH (w5.setCell ⟨D,4,none⟩ (.bool (!E))) D 31 #[.int .u64 va,.int .u64 vb,.slice A n c,.slice A2 n2 c2,.bool (!E),au,.bool false,aG,.string HH]):=ae (TD2.out.aM 4 _);obtain⟨TS3,TO3,D9,ER,LC,Ec⟩:=ot (TS2.out.far (k:=4) (u:=.bool (!E)) HDn.out.2.2.2.2) (aV (k:=4) (u:=.bool (!E)) TO2.out SS.out.1) (Yx.out.far (p:=⟨D,4,none⟩) (HDn.out.2.1) (.bool (!E))) (Yy.out.far (p:=⟨D,4,none⟩) (HDn.out.2.2.1) (.bool (!E))) (Oa.out.far (p:=⟨D,4,none⟩) (HDn.out.2.2.2.1) (.bool (!E))) (Ob.out.setCell (p:=⟨D,4,none⟩) HDn.out.1 (.bool (!E)));clear TD2 TS2 TO2 Yx Yy Oa Ob;generalize w5.setCell ⟨D,4,none⟩ (.bool (!E))=w6 at Rz TS3 TO3 D9 ER LC Ec⊢;clear t4 fr a2 b2 TD1 TS1 TO1 TP1 TQ1 Yw N9 adj;obtain⟨-,-,-,-,t4⟩:=IZ Rz;obtain⟨-,-,b2⟩:=jt ER;cases E with
       |true=>
        have IV:ag (decide (eZ≠eA)=false):=ae (by have:=HE.out;simp at this;simp[this]);have EO:ag ((if eZ≠eA then eA else [])=[]):=ae (by have:=HE.out;simp at this;simp[this]);simp only[ah9]at Rz t4⊢;go_upto_region 27 with fail
        clear t4 b2;have a3:=D9.out.cell 3;have b3:=ER.out.cell 3;have t6:=Rz.out.cell 6;simp at a3 b3 t6;have fr:=fun i=>Rz.out.frozen i
        by_cases ht:ta=tb
        ·have q1:=ic ht;have HTa:ag (decide (ta≠tb)=false):=ae (by simp[ht]);have HTb:ag ((if ta≠tb then tb else⟨#[]⟩)=⟨#[]⟩):=ae (by simp[ht]);clear ht;go_upto_region 28 with fail
         have nb:ag (aH (w6.setCell ⟨D,6,none⟩ (.bool false)) D 31 #[.int .u64 va,.int .u64 vb,.slice A n c,.slice A2 n2 c2,.bool false,au,.bool false,aG,.string HH]):=ae (Rz.out.aM 6 _);obtain⟨RD,RF,Xa,LD,qy,RI⟩:=ot (TS3.out.far (k:=6) (u:=.bool false) HDn.out.2.2.2.2) (aV (k:=6) (u:=.bool false) TO3.out SS.out.1) (D9.out.far (p:=⟨D,6,none⟩) (HDn.out.2.1) (.bool false)) (ER.out.far (p:=⟨D,6,none⟩) (HDn.out.2.2.1) (.bool false)) (LC.out.far (p:=⟨D,6,none⟩) (HDn.out.2.2.2.1) (.bool false)) (Ec.out.setCell (p:=⟨D,6,none⟩) HDn.out.1 (.bool false));clear Rz TS3 TO3 D9 ER LC Ec;generalize w6.setCell ⟨D,6,none⟩ (.bool false)=wp at nb RD RF Xa LD qy RI⊢;clear a3 b3 t6 fr q1;have t6:=nb.out.cell 6;have b3:=LD.out.cell 3;have t7:=nb.out.cell 7;simp at t6 b3 t7;have fr:=fun i=>nb.out.frozen i
         go_upto_region 30 with fail
         clear t6 b3 t7 fr;have r0:=qy.out.cell 0;have t0:=nb.out.cell 0;have r1:=qy.out.cell 1;have t1:=nb.out.cell 1;have r2:=qy.out.cell 2;have t2:=nb.out.cell 2;have r3:=qy.out.cell 3;have t3:=nb.out.cell 3;have r4:=qy.out.cell 4;have t4:=nb.out.cell 4;have r5:=qy.out.cell 5;have t5:=nb.out.cell 5;have r6:=qy.out.cell 6;have t6:=nb.out.cell 6;have r7:=qy.out.cell 7;have t7:=nb.out.cell 7;have r8:=qy.out.cell 8;have t8:=nb.out.cell 8;simp at r0 t0 r1 t1 r2 t2 r3 t3 r4 t4 r5 t5 r6 t6 r7 t7 r8 t8;have fr:=fun i=>qy.out.frozen i
         go_wp2_with fail
         have s9:=j5 qy.out (.int .u64 va) (.int .u64 vb) (.slice A n c) (.slice A2 n2 c2) (.bool false) au (.bool false) aG (.string HH);have oz:=ru (P:=R) (Q:=fun u=>aW w u∧cA u wi.heap.size (.slice A n c) (ip.filter (jF fu))∧u.ownsRow wj.heap.size 9 1 (.slice A2 n2 c2) n2 (strCells gl)) (fun u i x hq=>⟨hq.1.setCell (p:=⟨R,i,none⟩) HPQ.out.2.2.2.2.2 x,hq.2.1.far HWj.out.2,aV hq.2.2 SS.out.2⟩) ⟨RI.out,RD.out,RF.out⟩ (.int .u64 va) (.int .u64 vb) (.slice A n c) (.slice A2 n2 c2) (.bool false) au (.bool false) aG (.string HH);refine bodyPost_ret (bF rfl rfl rfl (kj s9)) rfl ⟨⟨.slice A n c,.slice A2 n2 c2,au,?_,?_⟩,oz.1⟩
         ·rw[HF.out,lk.out,IV.out,EO.out,HTa.out,HTb.out];rfl
         ·rw[HF.out,lk.out,EO.out];refine⟨oz.2.1.rd,?_,?_⟩
          ·show a8 _ _ (List.length _) 1 (strCells _);rw[←HGe.out,hgn.out];exact a8.di oz.2.2
          ·exact dN _
        ·have q1:=gm ht;have HTa:ag (decide (ta≠tb)=true):=ae (by simp[ht]);have HTb:ag ((if ta≠tb then tb else⟨#[]⟩)=tb):=ae (by simp[ht]);clear ht;go_upto_region 28 with fail
         have nb:ag (aH (w6.setCell ⟨D,6,none⟩ (.bool true)) D 31 #[.int .u64 va,.int .u64 vb,.slice A n c,.slice A2 n2 c2,.bool false,au,.bool true,aG,.string HH]):=ae (Rz.out.aM 6 _);obtain⟨RD,RF,Xa,LD,qy,RI⟩:=ot (TS3.out.far (k:=6) (u:=.bool true) HDn.out.2.2.2.2) (aV (k:=6) (u:=.bool true) TO3.out SS.out.1) (D9.out.far (p:=⟨D,6,none⟩) (HDn.out.2.1) (.bool true)) (ER.out.far (p:=⟨D,6,none⟩) (HDn.out.2.2.1) (.bool true)) (LC.out.far (p:=⟨D,6,none⟩) (HDn.out.2.2.2.1) (.bool true)) (Ec.out.setCell (p:=⟨D,6,none⟩) HDn.out.1 (.bool true));clear Rz TS3 TO3 D9 ER LC Ec;generalize w6.setCell ⟨D,6,none⟩ (.bool true)=wp at nb RD RF Xa LD qy RI⊢;clear a3 b3 t6 fr q1;have t6:=nb.out.cell 6;have b3:=LD.out.cell 3;have t7:=nb.out.cell 7;simp at t6 b3 t7;have fr:=fun i=>nb.out.frozen i
         go_upto_region 30 with fail
         have zV:ag (aH (wp.setCell ⟨D,7,none⟩ (.string tb)) D 31 #[.int .u64 va,.int .u64 vb,.slice A n c,.slice A2 n2 c2,.bool false,au,.bool true,.string tb,.string HH]):=ae (nb.out.aM 7 _);obtain⟨afw,afx,agU,agV,vM,afy⟩:=ot (RD.out.far (k:=7) (u:=.string tb) HDn.out.2.2.2.2) (aV (k:=7) (u:=.string tb) RF.out SS.out.1) (Xa.out.far (p:=⟨D,7,none⟩) (HDn.out.2.1) (.string tb)) (LD.out.far (p:=⟨D,7,none⟩) (HDn.out.2.2.1) (.string tb)) (qy.out.far (p:=⟨D,7,none⟩) (HDn.out.2.2.2.1) (.string tb)) (RI.out.setCell (p:=⟨D,7,none⟩) HDn.out.1 (.string tb));clear nb RD RF Xa LD qy RI;generalize wp.setCell ⟨D,7,none⟩ (.string tb)=wq at zV afw afx agU agV vM afy⊢;clear t6 b3 t7 fr;have r0:=vM.out.cell 0;have t0:=zV.out.cell 0;have r1:=vM.out.cell 1;have t1:=zV.out.cell 1;have r2:=vM.out.cell 2;have t2:=zV.out.cell 2;have r3:=vM.out.cell 3;have t3:=zV.out.cell 3;have r4:=vM.out.cell 4;have t4:=zV.out.cell 4;have r5:=vM.out.cell 5;have t5:=zV.out.cell 5;have r6:=vM.out.cell 6;have t6:=zV.out.cell 6;have r7:=vM.out.cell 7;have t7:=zV.out.cell 7;have r8:=vM.out.cell 8;have t8:=zV.out.cell 8;simp at r0 t0 r1 t1 r2 t2 r3 t3 r4 t4 r5 t5 r6 t6 r7 t7 r8 t8;have fr:=fun i=>vM.out.frozen i
         go_wp2_with fail
         have s9:=j5 vM.out (.int .u64 va) (.int .u64 vb) (.slice A n c) (.slice A2 n2 c2) (.bool false) au (.bool true) (.string tb) (.string HH);have oz:=ru (P:=R) (Q:=fun u=>aW w u∧cA u wi.heap.size (.slice A n c) (ip.filter (jF fu))∧u.ownsRow wj.heap.size 9 1 (.slice A2 n2 c2) n2 (strCells gl)) (fun u i x hq=>⟨hq.1.setCell (p:=⟨R,i,none⟩) HPQ.out.2.2.2.2.2 x,hq.2.1.far HWj.out.2,aV hq.2.2 SS.out.2⟩) ⟨afy.out,afw.out,afx.out⟩ (.int .u64 va) (.int .u64 vb) (.slice A n c) (.slice A2 n2 c2) (.bool false) au (.bool true) (.string tb) (.string HH);refine bodyPost_ret (bF rfl rfl rfl (kj s9)) rfl ⟨⟨.slice A n c,.slice A2 n2 c2,au,?_,?_⟩,oz.1⟩
         ·rw[HF.out,lk.out,IV.out,EO.out,HTa.out,HTb.out];rfl
         ·rw[HF.out,lk.out,EO.out];refine⟨oz.2.1.rd,?_,?_⟩
          ·show a8 _ _ (List.length _) 1 (strCells _);rw[←HGe.out,hgn.out];exact a8.di oz.2.2
          ·exact dN _
       |false=>
        have IV:ag (decide (eZ≠eA)=true):=ae (by have:=HE.out;simp at this;simp[this]);have EO:ag ((if eZ≠eA then eA else [])=eA):=ae (by have:=HE.out;simp at this;simp[this]);simp only[ahV]at Rz t4⊢;have Xb:=HCl.out w6 Ec.out;unfold uT at Xb;have Xb:=ae Xb;go_upto_region 27 with(go_at_call 27;refine Xb.out.mono ?_;rintro r w7⟨⟨A9,c9,rfl,ho9⟩,d7⟩;obtain⟨TD4,TS4,TO4,Yz,TQ4,TR4⟩:=ot (bK Rz d7) (TS3.out.low d7) (own_below TO3.out d7) (bK D9 d7) (bK ER d7) (bK LC d7);have TB4:=bg Ec d7;have TL4:=ae ho9;have HD6:ag (D<w6.heap.size∧R<w6.heap.size):=ae ⟨Rz.out.lt,LC.out.lt⟩;obtain⟨-,-,-,-,-,t5⟩:=zl TD4;have fr:=fun i=>TD4.out.frozen i;clear d7 ho9)
        have YB:ag (aH (w7.setCell ⟨D,5,none⟩ (.slice A9 j6 c9)) D 31 #[.int .u64 va,.int .u64 vb,.slice A n c,.slice A2 n2 c2,.bool true,.slice A9 j6 c9,.bool false,aG,.string HH]):=ae (TD4.out.aM 5 _);obtain⟨TS5,TO5,IX,LH,TR5,SU,TL5⟩:=nn (TS4.out.far (k:=5) (u:=.slice A9 j6 c9) HDn.out.2.2.2.2) (aV (k:=5) (u:=.slice A9 j6 c9) TO4.out SS.out.1) (Yz.out.far (p:=⟨D,5,none⟩) (HDn.out.2.1) (.slice A9 j6 c9)) (TQ4.out.far (p:=⟨D,5,none⟩) (HDn.out.2.2.1) (.slice A9 j6 c9)) (TR4.out.far (p:=⟨D,5,none⟩) (HDn.out.2.2.2.1) (.slice A9 j6 c9)) (TB4.out.setCell (p:=⟨D,5,none⟩) HDn.out.1 (.slice A9 j6 c9)) (aV (k:=5) (u:=.slice A9 j6 c9) TL4.out HD6.out.1);clear TD4 TS4 TO4 Yz TQ4 TR4 TB4 TL4;generalize w7.setCell ⟨D,5,none⟩ (.slice A9 j6 c9)=w8 at YB TS5 TO5 IX LH TR5 SU TL5⊢;clear t5 fr t4 b2 Rz TS3 TO3 D9 ER LC Ec Xb;have a3:=IX.out.cell 3;have b3:=LH.out.cell 3;have t6:=YB.out.cell 6;simp at a3 b3 t6;have fr:=fun i=>YB.out.frozen i
        by_cases ht:ta=tb
        ·have q1:=ic ht;have HTa:ag (decide (ta≠tb)=false):=ae (by simp[ht]);have HTb:ag ((if ta≠tb then tb else⟨#[]⟩)=⟨#[]⟩):=ae (by simp[ht]);clear ht;go_upto_region 28 with fail
         have nc:ag (aH (w8.setCell ⟨D,6,none⟩ (.bool false)) D 31 #[.int .u64 va,.int .u64 vb,.slice A n c,.slice A2 n2 c2,.bool true,.slice A9 j6 c9,.bool false,aG,.string HH]):=ae (YB.out.aM 6 _);obtain⟨RJ,RN,Xc,LI,qA,RQ,RU⟩:=nn (TS5.out.far (k:=6) (u:=.bool false) HDn.out.2.2.2.2) (aV (k:=6) (u:=.bool false) TO5.out SS.out.1) (IX.out.far (p:=⟨D,6,none⟩) (HDn.out.2.1) (.bool false)) (LH.out.far (p:=⟨D,6,none⟩) (HDn.out.2.2.1) (.bool false)) (TR5.out.far (p:=⟨D,6,none⟩) (HDn.out.2.2.2.1) (.bool false)) (SU.out.setCell (p:=⟨D,6,none⟩) HDn.out.1 (.bool false)) (aV (k:=6) (u:=.bool false) TL5.out HD6.out.1);clear YB TS5 TO5 IX LH TR5 SU TL5;generalize w8.setCell ⟨D,6,none⟩ (.bool false)=wp at nc RJ RN Xc LI qA RQ RU⊢;clear a3 b3 t6 fr q1;have t6:=nc.out.cell 6;have b3:=LI.out.cell 3;have t7:=nc.out.cell 7;simp at t6 b3 t7;have fr:=fun i=>nc.out.frozen i
         go_upto_region 30 with fail
         clear t6 b3 t7 fr;have r0:=qA.out.cell 0;have t0:=nc.out.cell 0;have r1:=qA.out.cell 1;have t1:=nc.out.cell 1;have r2:=qA.out.cell 2;have t2:=nc.out.cell 2;have r3:=qA.out.cell 3;have t3:=nc.out.cell 3;have r4:=qA.out.cell 4;have t4:=nc.out.cell 4;have r5:=qA.out.cell 5;have t5:=nc.out.cell 5;have r6:=qA.out.cell 6;have t6:=nc.out.cell 6;have r7:=qA.out.cell 7;have t7:=nc.out.cell 7;have r8:=qA.out.cell 8;have t8:=nc.out.cell 8;simp at r0 t0 r1 t1 r2 t2 r3 t3 r4 t4 r5 t5 r6 t6 r7 t7 r8 t8;have fr:=fun i=>qA.out.frozen i
         go_wp2_with fail
         have s9:=j5 qA.out (.int .u64 va) (.int .u64 vb) (.slice A n c) (.slice A2 n2 c2) (.bool true) (.slice A9 j6 c9) (.bool false) aG (.string HH);have oz:=ru (P:=R) (Q:=fun u=>aW w u∧cA u wi.heap.size (.slice A n c) (ip.filter (jF fu))∧u.ownsRow wj.heap.size 9 1 (.slice A2 n2 c2) n2 (strCells gl)∧u.ownsRow w6.heap.size 57 6 (.slice A9 j6 c9) j6 (dX eA)) (fun u i x hq=>⟨hq.1.setCell (p:=⟨R,i,none⟩) HPQ.out.2.2.2.2.2 x,hq.2.1.far HWj.out.2,aV hq.2.2.1 SS.out.2,aV hq.2.2.2 HD6.out.2⟩) ⟨RQ.out,RJ.out,RN.out,RU.out⟩ (.int .u64 va) (.int .u64 vb) (.slice A n c) (.slice A2 n2 c2) (.bool true) (.slice A9 j6 c9) (.bool false) aG (.string HH);refine bodyPost_ret (bF rfl rfl rfl (kj s9)) rfl ⟨⟨.slice A n c,.slice A2 n2 c2,.slice A9 j6 c9,?_,?_⟩,oz.1⟩
         ·rw[HF.out,lk.out,IV.out,EO.out,HTa.out,HTb.out];rfl
         ·rw[HF.out,lk.out,EO.out];refine⟨oz.2.1.rd,?_,?_⟩
          ·show a8 _ _ (List.length _) 1 (strCells _);rw[←HGe.out,hgn.out];exact a8.di oz.2.2.1
          ·show a8 _ _ (List.length _) 6 _;rw[←HN4.out];exact a8.di oz.2.2.2
        ·have q1:=gm ht;have HTa:ag (decide (ta≠tb)=true):=ae (by simp[ht]);have HTb:ag ((if ta≠tb then tb else⟨#[]⟩)=tb):=ae (by simp[ht]);clear ht;go_upto_region 28 with fail
         have nc:ag (aH (w8.setCell ⟨D,6,none⟩ (.bool true)) D 31 #[.int .u64 va,.int .u64 vb,.slice A n c,.slice A2 n2 c2,.bool true,.slice A9 j6 c9,.bool true,aG,.string HH]):=ae (YB.out.aM 6 _);obtain⟨RJ,RN,Xc,LI,qA,RQ,RU⟩:=nn (TS5.out.far (k:=6) (u:=.bool true) HDn.out.2.2.2.2) (aV (k:=6) (u:=.bool true) TO5.out SS.out.1) (IX.out.far (p:=⟨D,6,none⟩) (HDn.out.2.1) (.bool true)) (LH.out.far (p:=⟨D,6,none⟩) (HDn.out.2.2.1) (.bool true)) (TR5.out.far (p:=⟨D,6,none⟩) (HDn.out.2.2.2.1) (.bool true)) (SU.out.setCell (p:=⟨D,6,none⟩) HDn.out.1 (.bool true)) (aV (k:=6) (u:=.bool true) TL5.out HD6.out.1);clear YB TS5 TO5 IX LH TR5 SU TL5;generalize w8.setCell ⟨D,6,none⟩ (.bool true)=wp at nc RJ RN Xc LI qA RQ RU⊢;clear a3 b3 t6 fr q1;have t6:=nc.out.cell 6;have b3:=LI.out.cell 3;have t7:=nc.out.cell 7;simp at t6 b3 t7;have fr:=fun i=>nc.out.frozen i
         go_upto_region 30 with fail
         have zW:ag (aH (wp.setCell ⟨D,7,none⟩ (.string tb)) D 31 #[.int .u64 va,.int .u64 vb,.slice A n c,.slice A2 n2 c2,.bool true,.slice A9 j6 c9,.bool true,.string tb,.string HH]):=ae (nc.out.aM 7 _);obtain⟨afz,afA,agW,agX,vN,afB,afC⟩:=nn (RJ.out.far (k:=7) (u:=.string tb) HDn.out.2.2.2.2) (aV (k:=7) (u:=.string tb) RN.out SS.out.1) (Xc.out.far (p:=⟨D,7,none⟩) (HDn.out.2.1) (.string tb)) (LI.out.far (p:=⟨D,7,none⟩) (HDn.out.2.2.1) (.string tb)) (qA.out.far (p:=⟨D,7,none⟩) (HDn.out.2.2.2.1) (.string tb)) (RQ.out.setCell (p:=⟨D,7,none⟩) HDn.out.1 (.string tb)) (aV (k:=7) (u:=.string tb) RU.out HD6.out.1);clear nc RJ RN Xc LI qA RQ RU;generalize wp.setCell ⟨D,7,none⟩ (.string tb)=wq at zW afz afA agW agX vN afB afC⊢;clear t6 b3 t7 fr;have r0:=vN.out.cell 0;have t0:=zW.out.cell 0;have r1:=vN.out.cell 1;have t1:=zW.out.cell 1;have r2:=vN.out.cell 2;have t2:=zW.out.cell 2;have r3:=vN.out.cell 3;have t3:=zW.out.cell 3;have r4:=vN.out.cell 4;have t4:=zW.out.cell 4;have r5:=vN.out.cell 5;have t5:=zW.out.cell 5;have r6:=vN.out.cell 6;have t6:=zW.out.cell 6;have r7:=vN.out.cell 7;have t7:=zW.out.cell 7;have r8:=vN.out.cell 8;have t8:=zW.out.cell 8;simp at r0 t0 r1 t1 r2 t2 r3 t3 r4 t4 r5 t5 r6 t6 r7 t7 r8 t8;have fr:=fun i=>vN.out.frozen i
         go_wp2_with fail
         have s9:=j5 vN.out (.int .u64 va) (.int .u64 vb) (.slice A n c) (.slice A2 n2 c2) (.bool true) (.slice A9 j6 c9) (.bool true) (.string tb) (.string HH);have oz:=ru (P:=R) (Q:=fun u=>aW w u∧cA u wi.heap.size (.slice A n c) (ip.filter (jF fu))∧u.ownsRow wj.heap.size 9 1 (.slice A2 n2 c2) n2 (strCells gl)∧u.ownsRow w6.heap.size 57 6 (.slice A9 j6 c9) j6 (dX eA)) (fun u i x hq=>⟨hq.1.setCell (p:=⟨R,i,none⟩) HPQ.out.2.2.2.2.2 x,hq.2.1.far HWj.out.2,aV hq.2.2.1 SS.out.2,aV hq.2.2.2 HD6.out.2⟩) ⟨afB.out,afz.out,afA.out,afC.out⟩ (.int .u64 va) (.int .u64 vb) (.slice A n c) (.slice A2 n2 c2) (.bool true) (.slice A9 j6 c9) (.bool true) (.string tb) (.string HH);refine bodyPost_ret (bF rfl rfl rfl (kj s9)) rfl ⟨⟨.slice A n c,.slice A2 n2 c2,.slice A9 j6 c9,?_,?_⟩,oz.1⟩
         ·rw[HF.out,lk.out,IV.out,EO.out,HTa.out,HTb.out];rfl
         ·rw[HF.out,lk.out,EO.out];refine⟨oz.2.1.rd,?_,?_⟩
          ·show a8 _ _ (List.length _) 1 (strCells _);rw[←HGe.out,hgn.out];exact a8.di oz.2.2.1
          ·show a8 _ _ (List.length _) 6 _;rw[←HN4.out];exact a8.di oz.2.2.2
      have hkl:k<xs.length:=by have:=jL.out;omega
      have htn:=wP (af hkl);obtain⟨q2,o2,rfl,hc1⟩:=HA.out aR;have g10:=aD bS.vals 8 aB (af hkl) (r:=0) rfl;have g11:=aD bS.vals 8 aB (af hkl) (r:=1) rfl;have g12:=aD bS.vals 8 aB (af hkl) (r:=2) rfl;have g13:=aD bS.vals 8 aB (af hkl) (r:=3) rfl;have g14:=aD bS.vals 8 aB (af hkl) (r:=4) rfl;have g15:=aD bS.vals 8 aB (af hkl) (r:=5) rfl;have g16:=aD bS.vals 8 aB (af hkl) (r:=6) rfl;have g17:=aD bS.vals 8 aB (af hkl) (r:=7) rfl;have d10:=ai (hc1 _ _ g10) vL.out;have d11:=ai (hc1 _ _ g11) vL.out;have d12:=ai (hc1 _ _ g12) vL.out;have d13:=ai (hc1 _ _ g13) vL.out;have jM:=ai (hc1 _ _ g14) vL.out;have mG:=ai (hc1 _ _ g15) vL.out;have jV:=ai (hc1 _ _ g16) vL.out;have nk:=ai (hc1 _ _ g17) vL.out;clear hc1 g10 g11 g12 g13 g14 g15 g16 g17;have htm:(xs.take (k+1)).map (·.p)=(xs.take k).map (·.p)++[xs[k].p]:=by rw[htn,cL,ahM]
      clear htn;have hm1:=oK.out _ (aZ hkl);generalize xs[k]=X at htm hm1 d10 d11 d12 d13 jM mG jV nk;obtain⟨gk,c11,e11⟩:=hm1.tags.shape;obtain⟨gi,c12,e12⟩:=hm1.aQ.shape;obtain⟨jJ,c13,e13⟩:=hm1.ends.shape;clear hm1;obtain⟨p1,hp1⟩:=bw X.p;rw[←hp1]at htm;have hkey:p1.key=X.p.key:=by rw[hp1]
      clear hp1;obtain⟨⟨key1,bD,b8,ew,dr,gU,bA,eJ⟩,Yq,Yr,ev1⟩:=X;simp only at e11 e12 e13 hkey d10 d11 d12 d13 jM mG jV nk;subst e11 e12 e13;generalize ew.length=n11 at d13;generalize dr.length=n12 at jM;generalize eJ.length=n13 at nk;rw[cq]at d10;rw[←jh]at d11 d12 d13 jM mG jV nk;obtain⟨HTm,zX⟩:=aL htm hkey;clear htm hkey hkl;have hbx:=boxed wo3 (.cells #[.string key1,.string bD,.string b8,.slice gk n11 c11,.slice gi n12 c12,.int .u64 gU,.int .u8 bA,.slice jJ n13 c13] 47);have LB1:=bg vL hbx;obtain⟨LP1,LO1,LD1,LK1⟩:=cU (aH.new wo3 47 #[.string key1,.string bD,.string b8,.slice gk n11 c11,.slice gi n12 c12,.int .u64 gU,.int .u8 bA,.slice jJ n13 c13]) (own_below how.out hbx) (bK hD2 hbx) (hK.out.than hbx);have hM:=HQj.out.keep hK.out HDn.out.2.2.1;have LQ1:=ae (hM.below hbx hM.lt);clear hbx hM;go_upto_region 21 with fail
      generalize wo3.alloc (.cells #[.string key1,.string bD,.string b8,.slice gk n11 c11,.slice gi n12 c12,.int .u64 gU,.int .u8 bA,.slice jJ n13 c13] 47)=w1 at LB1 LP1 LO1 LD1 LK1 LQ1⊢;generalize wo3.heap.size=G at LP1⊢;clear d10 d11 d12 d13 jM mG jV nk how hD2 hK vL;have x0:=LP1.out.cell 0;have m1:=LQ1.out.cell 1;simp at x0 m1;go_upto_if 85 with(go_at_call 23;refine(adh.out _ LB1.out key1).mono ?_;rintro r w2⟨⟨z,rfl,hz⟩,d2⟩)
      have LB2:=bg LB1 d2;obtain⟨LP2,LO2,LD2,LQ2,LK2⟩:=eB (bK LP1 d2) (own_below LO1.out d2) (bK LD1 d2) (bK LQ1 d2) (LK1.out.than d2);clear LB1 LP1 LO1 LD1 LQ1 LK1;clear d2 x0 m1;rcases hz with⟨rfl,hn⟩|⟨j,hj,rfl,hs⟩
      ·have HNo:=ae hn;clear hn;obtain⟨j0,lD,hz0,hz1,hz2⟩:=info_parts DL;have x0:=LP2.out.cell 0;have m3:=LD2.out.cell 3;simp at x0 m3;go_wp2_with(at_builtin;refine wpList_append_own _ rfl _ _ 29 rfl wj.heap.size 9 j0 aG 1 16 ahP lD hz0 hz1 hz2 rfl aJ _ n2 _ rfl (LO2.out.alloc _) ⟨w2.heap.size,0,none⟩ 1 1 [.string key1] rfl rfl (cS w2 [.string key1] 9) (by intro u hu;rw[List.mem_singleton.1 hu];rfl) (by unfold maxLen;omega) aR (by have:=LK2.out.size;simp;omega) ?_;intro v' w6 ho6 hg6 hn6;obtain⟨A6,c6,rfl⟩:=aX ho6;have hbz:=boxed w2 (.cells ([.string key1]:List Value).toArray 9);have hown:∀q,(dq A2 n2 c2).ownBlock=some q→wj.heap.size≤q:=fun q hq=>(LO2.out.lt q hq).1;have hD6:=(bK LD2 hbz).keep (Keeps.row hg6) (fun hq=>by have:=hown _ hq;have:=HDn.out.2.2.2.2;have:=HWj.out.1;omega);have tG:=ae (qj (LK2.out.than hbz) (Keeps.row hg6) (fun i hi hq=>by have:=hown _ hq;omega));obtain⟨HO6,HD6⟩:=aL ho6 hD6;have t3:=hD6.cell 3;simp at t3;have fr:=fun i=>hD6.frozen i;clear hbz hown hD6 ho6 hg6 hn6)
       have f1:aH (w6.setCell ⟨D,3,none⟩ (.slice A6 (n2+1) c6)) D 31 #[.int .u64 va,.int .u64 vb,.slice A n c,.slice A6 (n2+1) c6,.bool false,au,.bool false,aG,.string HH]:=HD6.out.aM 3 _;have f2:=aV (k:=3) (u:=.slice A6 (n2+1) c6) HO6.out (show D<wj.heap.size by have:=HDn.out.2.2.2.2;have:=HWj.out.1;omega);have f4:=tG.out.setCell (p:=⟨D,3,none⟩) (Or.inl rfl) (.slice A6 (n2+1) c6);go_roundw
       case rel=>exact⟨k+1,A6,n2+1,c6,gl++[key1],by omega,by go_num,by omega,ae f1,ae (by rw[show strCells (gl++[key1])=strCells gl++[.string key1] by simp[strCells]];exact f2),ae (by rw[HTm.out,ahR,List.filter_cons_of_pos (by rw[zX.out,HNo.out];rfl),aia,cL,←hgl.out,ahM,zX.out]),ae (by rw[aj,hgn.out];rfl),ae f4⟩
       case measure=>simp[intOf];omega
      ·have HNo:=ae (show(nK ip key1).isNone=false by rw[hs];rfl);have q0:decide ((j:Int)<0)=false:=decide_eq_false aR;have q0':¬(j:Int)<0:=by omega
       clear hs hj;go_wp2_with fail
       go_roundw
       case rel=>exact⟨k+1,A2,n2,c2,gl,by omega,by go_num,by omega,LD2,LO2,ae (by rw[HTm.out,ahR,List.filter_cons_of_neg (by rw[zX.out,HNo.out];decide),aia,ep];exact hgl.out),hgn,LK2⟩
       case measure=>simp[intOf];omega
    have hkl:k<ys.length:=by have:=kX.out;omega
    have htn:=wP (af hkl);obtain⟨q1,o1,rfl,hc1⟩:=QV.out aR;have hm1:=HYm.out _ (aZ hkl);have hs1:=SzY.out _ (aZ hkl);have g10:=aD bS.vals 8 aB (af hkl) (r:=0) rfl;have g11:=aD bS.vals 8 aB (af hkl) (r:=1) rfl;have g12:=aD bS.vals 8 aB (af hkl) (r:=2) rfl;have g13:=aD bS.vals 8 aB (af hkl) (r:=3) rfl;have g14:=aD bS.vals 8 aB (af hkl) (r:=4) rfl;have g15:=aD bS.vals 8 aB (af hkl) (r:=5) rfl;have g16:=aD bS.vals 8 aB (af hkl) (r:=6) rfl;have g17:=aD bS.vals 8 aB (af hkl) (r:=7) rfl;have d10:=ai (hc1 _ _ g10) um.out;have d11:=ai (hc1 _ _ g11) um.out;have d12:=ai (hc1 _ _ g12) um.out;have d13:=ai (hc1 _ _ g13) um.out;have jM:=ai (hc1 _ _ g14) um.out;have mG:=ai (hc1 _ _ g15) um.out;have jV:=ai (hc1 _ _ g16) um.out;have nk:=ai (hc1 _ _ g17) um.out;clear hc1 g10 g11 g12 g13 g14 g15 g16 g17;generalize ys[k]=X at htn hm1 hs1 d10 d11 d12 d13 jM mG jV nk;have hcall:=fun u(hu:aW w u)=>rn (hm1.below hu) hs1
    have hsame:=fun j(hj:j<xs.length)u(hu:aW w u)=>sH ((oK.out _ (aZ hj)).below hu) (hm1.below hu) (SzX.out _ (aZ hj)) hs1
    have htm:(ys.take (k+1)).map (·.p)=(ys.take k).map (·.p)++[X.p]:=by rw[htn,cL,ahM]
    obtain⟨gk,c11,e11⟩:=hm1.tags.shape;obtain⟨gi,c12,e12⟩:=hm1.aQ.shape;obtain⟨jJ,c13,e13⟩:=hm1.ends.shape;clear hm1 hs1 htn;obtain⟨p1,hp1⟩:=bw X.p;obtain⟨XV,hXV⟩:=bw X.vals.toArray;unfold Wh at hcall;rw[←hXV,←hp1]at hcall;simp only[←hXV,←hp1]at hsame;rw[←hp1]at htm;have hkey:p1.key=X.p.key:=by rw[hp1]
    clear hp1;obtain⟨⟨key1,bD,b8,ew,dr,gU,bA,eJ⟩,Yq,Yr,ev1⟩:=X;simp only at e11 e12 e13 hkey d10 d11 d12 d13 jM mG jV nk;subst e11 e12 e13;unfold bS.vals at hXV;simp only at hXV;obtain⟨n11,yx⟩:=bw ew.length;obtain⟨n12,yy⟩:=bw dr.length;obtain⟨n13,yA⟩:=bw eJ.length;rw[←yx,←yy,←yA]at hXV;subst hXV;rw[←yx]at d13;rw[←yy]at jM;rw[←yA]at nk;rw[cq]at d10;rw[←jh]at d11 d12 d13 jM mG jV nk;obtain⟨bG,HSame,HTm,zX⟩:=cU hcall hsame htm hkey;have hq0:∀q,(dq A n c).ownBlock=some q→q<Yv.heap.size:=fun q hq=>(how.out.lt q hq).2
    have HQ0:=ae hq0;clear hcall hsame htm hkey hq0 hkl yx yy yA;have hbx:=boxed Yv (.cells #[.string key1,.string bD,.string b8,.slice gk n11 c11,.slice gi n12 c12,.int .u64 gU,.int .u8 bA,.slice jJ n13 c13] 47);have KB1:=bg um hbx;obtain⟨Yj,KO1⟩:=aL (aH.new Yv 47 #[.string key1,.string bD,.string b8,.slice gk n11 c11,.slice gi n12 c12,.int .u64 gU,.int .u8 bA,.slice jJ n13 c13]) (own_below how.out hbx);have KY1:ag (∀Y∈zs,dm (Yv.alloc (.cells #[.string key1,.string bD,.string b8,.slice gk n11 c11,.slice gi n12 c12,.int .u64 gU,.int .u8 bA,.slice jJ n13 c13] 47)) wi.heap.size Y):=ae (fun Y hY=>(hzs.out Y hY).low hbx);obtain⟨KD1,KK1⟩:=aL (bK hD hbx) (hK.out.than hbx);have hM:=HPi.out.keep hK.out HDn.out.2.1;have KM1:=ae (hM.below hbx hM.lt);clear hbx hM;go_upto_region 14 with fail
    generalize Yv.alloc (.cells #[.string key1,.string bD,.string b8,.slice gk n11 c11,.slice gi n12 c12,.int .u64 gU,.int .u8 bA,.slice jJ n13 c13] 47)=w1 at KB1 Yj KO1 KY1 KD1 KK1 KM1⊢;generalize Yv.heap.size=G at Yj HQ0⊢;clear d10 d11 d12 d13 jM mG jV nk how hzs hD hK um;obtain⟨x0,x1,x2,x3,x4,x5,x6,x7⟩:=dB Yj;obtain⟨-,m1⟩:=jQ KM1;go_upto_region 15 with(go_at_call 23;refine(adg.out _ KB1.out key1).mono ?_;rintro r w2⟨⟨z,rfl,hz⟩,d2⟩)
    have SV:=bg KB1 d2;obtain⟨CU,KO2⟩:=aL (bK Yj d2) (own_below KO1.out d2);have KY2:ag (∀Y∈zs,dm w2 wi.heap.size Y):=ae (fun Y hY=>(KY1.out Y hY).low d2);obtain⟨KD2,KM2,KK2⟩:=bz (bK KD1 d2) (bK KM1 d2) (KK1.out.than d2);clear KB1 Yj KO1 KY1 KD1 KM1 KK1;clear d2 x0 x1 x2 x3 x4 x5 x6 x7 m1;rcases hz with⟨rfl,hn⟩|⟨j,hj,rfl,hs⟩
    ·have jd:=ae (show jF fu p1=true by unfold jF;rw[zX.out,hn]);clear hn;refine wp_region_held_drew (S:=(fun _=>True)) bo (trivial) (fun hHeld=>?_);refine aY 0 ?_
     refine aY 1 ?_
     refine aY 2 ?_
     refine tj 3 ?_
     refine tj 4 ?_
     refine tj 5 ?_
     refine tj 6 ?_
     refine tj 7 ?_
     refine tj 8 ?_
     refine tj 9 ?_
     refine tj 10 ?_
     refine aY 11 ?_
     refine lN ?_;go_upto_region 16 with fail
     have hdr:=(aI w2.heap.size w2).drew;have KB3:=bg SV hdr;obtain⟨Na,KO3⟩:=aL (bK CU hdr) (own_below KO2.out hdr);have KY3:ag (∀Y∈zs,dm _ wi.heap.size Y):=ae (fun Y hY=>(KY2.out Y hY).low hdr);obtain⟨KD3,KM3,KK3⟩:=bz (bK KD2 hdr) (bK KM2 hdr) (KK2.out.than hdr);clear SV CU KO2 KY2 KD2 KM2 KK2;clear hdr;generalize w2.drew=w3 at KB3 Na KO3 KY3 KD3 KM3 KK3⊢;obtain⟨x0,x1,x2,x3,x4,x5,x6,x7⟩:=dB Na;obtain⟨-,-,s2⟩:=jt KD3;have hdr:=(aI w3.heap.size w3).drew;have KB4:=bg KB3 hdr;obtain⟨zi,KO4⟩:=aL (bK Na hdr) (own_below KO3.out hdr);have KY4:ag (∀Y∈zs,dm _ wi.heap.size Y):=ae (fun Y hY=>(KY3.out Y hY).low hdr);obtain⟨KD4,KM4,KK4⟩:=bz (bK KD3 hdr) (bK KM3 hdr) (KK3.out.than hdr);clear hdr;obtain⟨j0,lD,hz0,hz1,hz2⟩:=info_parts mY;refine km 7 (fun u=>u.cell? ⟨D,2,none⟩=some (.slice A n c)∧u.cell? ⟨G,0,none⟩=some (.string key1)∧u.cell? ⟨G,1,none⟩=some (.string bD)∧u.cell? ⟨G,2,none⟩=some (.string b8)∧u.cell? ⟨G,3,none⟩=some (.slice gk n11 c11)∧u.cell? ⟨G,4,none⟩=some (.slice gi n12 c12)∧u.cell? ⟨G,5,none⟩=some (.int .u64 gU)∧u.cell? ⟨G,6,none⟩=some (.int .u8 bA)∧u.cell? ⟨G,7,none⟩=some (.slice jJ n13 c13)) bo (⟨s2,x0,x1,x2,x3,x4,x5,x6,x7⟩) (fun hHeld=>?_);refine vy 0 ?_
     refine vy 1 ?_
     refine vy 2 ?_
     refine vP 3 fun K hK=>?_;go_simp;refine(bG.out _ KB4.out).mono ?_;rintro r w5⟨⟨⟨⟨key2,bB,cf,du,cH,iP,bJ,dw⟩,tv2,av2,ev2⟩,rfl,G4,pJ⟩,d5⟩;obtain⟨jq,c21,e21⟩:=aX pJ.tags;obtain⟨jr,js,e22⟩:=aX pJ.aQ;obtain⟨mh,c23,e23⟩:=aX pJ.ends;simp only at e21 e22 e23;subst e21 e22 e23;obtain⟨NJ,V5⟩:=aL (pJ.mono KK4.out.size) G4;obtain⟨n21,nN⟩:=bw du.length;obtain⟨n22,nO⟩:=bw cH.length;obtain⟨n23,nP⟩:=bw dw.length;unfold bS.vals;simp only;rw[←nN,←nO,←nP];obtain⟨Iy,HL2,HL3⟩:=bz nN nO nP;have KB5:=bg KB4 d5;obtain⟨ID,KO5⟩:=aL (bK zi d5) (own_below KO4.out d5);have KY5:ag (∀Y∈zs,dm w5 wi.heap.size Y):=ae (fun Y hY=>(KY4.out Y hY).low d5);obtain⟨KD5,KM5,KK5⟩:=bz (bK KD4 d5) (bK KM4 d5) (KK4.out.than d5);clear nN nO nP pJ G4;have hbz:=boxed w5 (.cells ([.string key2,.string bB,.string cf,.slice jq n21 c21,.slice jr n22 js,.int .u64 iP,.int .u8 bJ,.slice mh n23 c23]:List Value).toArray 47);have KB6:=bg KB5 hbz;obtain⟨MY,KO6⟩:=aL (bK ID hbz) (own_below KO5.out hbz);have KY6:ag (∀Y∈zs,dm _ wi.heap.size Y):=ae (fun Y hY=>(KY5.out Y hY).low hbz);obtain⟨KD6,KM6,KK6⟩:=bz (bK KD5 hbz) (bK KM5 hbz) (KK5.out.than hbz);obtain⟨v',w7,hr',ho7,LJ,_⟩:=run_append_own (P:=ah) (w:=w5.alloc (.cells ([.string key2,.string bB,.string cf,.slice jq n21 c21,.slice jr n22 js,.int .u64 iP,.int .u8 bJ,.slice mh n23 c23]:List Value).toArray 47)) wi.heap.size 23 23 47 j0 (.agg #[aG,aG,aG,au,au,.int .u64 0,.int .u8 0,au]) 8 136 aif lD hz0 hz1 hz2 rfl aJ (.slice A n c) n (cY zs) KO6.out ⟨w5.heap.size,0,none⟩ 1 1 [.string key2,.string bB,.string cf,.slice jq n21 c21,.slice jr n22 js,.int .u64 iP,.int .u8 bJ,.slice mh n23 c23] rfl (cS w5 [.string key2,.string bB,.string cf,.slice jq n21 c21,.slice jr n22 js,.int .u64 iP,.int .u8 bJ,.slice mh n23 c23] 47) (by intro u hu;simp at hu;rcases hu with rfl|rfl|rfl|rfl|rfl|rfl|rfl|rfl<;>rfl) (by unfold maxLen;omega) aR KK6.out.size;obtain⟨A7,c7,e7⟩:=aX ho7;subst e7;obtain⟨FP,Qa,SO⟩:=bz hr' ho7 LJ;have hown:∀q,(dq A n c).ownBlock=some q→wi.heap.size≤q:=fun q hq=>(KO6.out.lt q hq).1
     have hown2:=HQ0.out;have hD7:=KD6.out.keep (Keeps.row LJ) (fun hq=>by have:=hown _ hq;have:=HDn.out.2.2.2.2;omega);have HD7:=ae hD7;have zh:=ae (qj KK6.out (Keeps.row LJ) (fun i hi hq=>by have:=hown _ hq;omega));have hoff:=cG KO6.out;have HY7:ag (∀Y∈zs,dm w7 wi.heap.size Y):=ae (fun Y hY=>(KY6.out Y hY).keep (Keeps.row LJ) hoff aJ aJ aJ);have HX7:=ae ((NJ.out.low hbz).keep (Keeps.row LJ) hoff aJ aJ aJ);have tM:=MY.out.keep (Keeps.row LJ) (fun hq=>by have:=hown2 _ hq;omega);have y0:=tM.cell 0;have y1:=tM.cell 1;have y2:=tM.cell 2;have y3:=tM.cell 3;have y4:=tM.cell 4;have y5:=tM.cell 5;have y6:=tM.cell 6;have y7:=tM.cell 7;simp at y0 y1 y2 y3 y4 y5 y6 y7;have t2:=hD7.cell 2;simp at t2;have fr:=fun i=>hD7.frozen i
     clear hr' ho7 LJ hown hown2 hoff hD7 tM;refine hK.out _ _ (fun _=>⟨ai hHeld.1 d5,ai hHeld.2.1 d5,ai hHeld.2.2.1 d5,ai hHeld.2.2.2.1 d5,ai hHeld.2.2.2.2.1 d5,ai hHeld.2.2.2.2.2.1 d5,ai hHeld.2.2.2.2.2.2.1 d5,ai hHeld.2.2.2.2.2.2.2.1 d5,ai hHeld.2.2.2.2.2.2.2.2 d5⟩) (fun hHeld=>?_);have hHeld:=hHeld aJ;clear hK K;try simp only[ck]
     refine vP 4 fun K hK=>?_;go_simp;refine hK.out _ _ (fun _=>⟨ai hHeld.1 hbz,ai hHeld.2.1 hbz,ai hHeld.2.2.1 hbz,ai hHeld.2.2.2.1 hbz,ai hHeld.2.2.2.2.1 hbz,ai hHeld.2.2.2.2.2.1 hbz,ai hHeld.2.2.2.2.2.2.1 hbz,ai hHeld.2.2.2.2.2.2.2.1 hbz,ai hHeld.2.2.2.2.2.2.2.2 hbz⟩) (fun hHeld=>?_);have hHeld:=hHeld aJ;clear hK K;try simp only[ck]
     refine vP 5 fun K hK=>?_;refine kW rfl _ _ 23 23 rfl rfl rfl FP.out ?_;refine hK.out _ _ (fun _=>⟨t2,y0,y1,y2,y3,y4,y5,y6,y7⟩) (fun hHeld=>?_);have hHeld:=hHeld aJ;clear hK K;try simp only[ck]
     refine vy 6 ?_
     refine vP 7 fun K hK=>?_;go_simp;refine hK.out _ _ (fun h=>absurd h aJ) (fun _=>?_);clear hK K;try clear hHeld
     try simp only[ck]
     refine zdX ?_;have f1:aH (w7.setCell ⟨D,2,none⟩ (.slice A7 (n+1) c7)) D 31 #[.int .u64 va,.int .u64 vb,.slice A7 (n+1) c7,au,.bool false,au,.bool false,aG,.string HH]:=HD7.out.aM 2 _;have f2:=aV (k:=2) (u:=.slice A7 (n+1) c7) Qa.out HDn.out.2.2.2.2;have f3:∀Y∈zs++[⟨⟨key2,bB,cf,du,cH,iP,bJ,dw⟩,.slice jq du.length c21,.slice jr cH.length js,.slice mh dw.length c23⟩],dm (w7.setCell ⟨D,2,none⟩ (.slice A7 (n+1) c7)) wi.heap.size Y:=fun Y hY=>by
      rcases List.mem_append.1 hY with hY|hY
      ·have:=HY7.out Y hY;exact⟨aV this.tags HDn.out.2.2.2.2,aV this.aQ HDn.out.2.2.2.2,aV this.ends HDn.out.2.2.2.2⟩
      ·rw[List.mem_singleton.1 hY];have:=HX7.out;exact⟨aV this.tags HDn.out.2.2.2.2,aV this.aQ HDn.out.2.2.2.2,aV this.ends HDn.out.2.2.2.2⟩
     have f4:=zh.out.setCell (p:=⟨D,2,none⟩) (Or.inl rfl) (.slice A7 (n+1) c7);obtain⟨F1,F2,F3,F4⟩:=cU f1 f2 f3 f4;clear f1 f2 f3 f4 HD7 Qa HY7 HX7 zh SO FP t2 fr y0 y1 y2 y3 y4 y5 y6 y7 x0 x1 x2 x3 x4 x5 x6 x7 s2;generalize w7.setCell ⟨D,2,none⟩ (.slice A7 (n+1) c7)=w8 at F1 F2 F3 F4⊢;go_wp2_with fail
     go_roundw
     case rel=>
      refine⟨k+1,A7,n+1,c7,zs++[⟨⟨key2,bB,cf,du,cH,iP,bJ,dw⟩,.slice jq du.length c21,.slice jr cH.length js,.slice mh dw.length c23⟩],by omega,by go_num,by omega,F1,ae ?_,F3,ae ?_,ae (by rw[aj,hzl.out];rfl),F4⟩
      ·rw[lB];unfold bS.vals;simp only;rw[←Iy.out,←HL2.out,←HL3.out];exact F2.out
      ·rw[HTm.out,cL,hmap.out,ahR,List.filter_cons_of_pos jd.out,aia,ahM];rw[V5.out]
     case measure=>simp[intOf];omega
    ·have hj':j<xs.length:=by rw[←Wl.out,ay]at hj;exact hj
     have hjn:j<gV:=by have:=jL.out;omega
     have hxp:xs[j].p=fu[j]:=by
      have:=Wl.out;subst this;rw[List.getElem_map]
     obtain⟨B,hB⟩:=bw (decide (xs[j].p=p1));have U7:=ae (show jF fu p1= !B by unfold jF;rw[zX.out,hs,hB,hxp];simp);obtain⟨qa,oa,rfl,hcA⟩:=HA.out aR;have g20:=aD bS.vals 8 aB (af hj') (r:=0) rfl;have g21:=aD bS.vals 8 aB (af hj') (r:=1) rfl;have g22:=aD bS.vals 8 aB (af hj') (r:=2) rfl;have g23:=aD bS.vals 8 aB (af hj') (r:=3) rfl;have g24:=aD bS.vals 8 aB (af hj') (r:=4) rfl;have N8:=aD bS.vals 8 aB (af hj') (r:=5) rfl;have g26:=aD bS.vals 8 aB (af hj') (r:=6) rfl;have g27:=aD bS.vals 8 aB (af hj') (r:=7) rfl;have e20:=ai (hcA _ _ g20) SV.out;have e21:=ai (hcA _ _ g21) SV.out;have e22:=ai (hcA _ _ g22) SV.out;have e23:=ai (hcA _ _ g23) SV.out;have e24:=ai (hcA _ _ g24) SV.out;have e25:=ai (hcA _ _ N8) SV.out;have e26:=ai (hcA _ _ g26) SV.out;have e27:=ai (hcA _ _ g27) SV.out;clear hcA g20 g21 g22 g23 g24 N8 g26 g27 hxp hs hj;have hsm:=HSame.out j hj';rw[←hB]at hsm;clear hB;generalize xs[j]=Y at hsm e20 e21 e22 e23 e24 e25 e26 e27;obtain⟨⟨agY,adk,afD,aho,agZ,ex3,adl,ahp⟩,tv3,av3,ev3⟩:=Y;unfold bS.vals at hsm;simp only at hsm e20 e21 e22 e23 e24 e25 e26 e27;rw[cq]at e20;rw[←jh]at e21 e22 e23 e24 e25 e26 e27;have N7:=ae hsm;have q0:decide ((j:Int)<0)=false:=decide_eq_false aR;have q0':¬(j:Int)<0:=by omega
     clear hsm hj';obtain⟨x0,x1,x2,x3,x4,x5,x6,x7⟩:=dB CU;obtain⟨-,m1⟩:=jQ KM2;have hdr:=(aI w2.heap.size w2).drew;have KB4:=bg SV hdr;obtain⟨zi,KO4⟩:=aL (bK CU hdr) (own_below KO2.out hdr);have KY4:ag (∀Y∈zs,dm _ wi.heap.size Y):=ae (fun Y hY=>(KY2.out Y hY).low hdr);obtain⟨KD4,KM4,KK4⟩:=bz (bK KD2 hdr) (bK KM2 hdr) (KK2.out.than hdr);clear hdr;refine wp_region_held_drew (S:=(fun u=>u.cell? ⟨P,1,none⟩=some (.slice (some ⟨qa,oa,none⟩) gV ca1)∧u.cell? ⟨qa,oa+j*8,none⟩=some (.string agY)∧u.cell? ⟨qa,oa+j*8+1,none⟩=some (.string adk)∧u.cell? ⟨qa,oa+j*8+2,none⟩=some (.string afD)∧u.cell? ⟨qa,oa+j*8+3,none⟩=some (tv3)∧u.cell? ⟨qa,oa+j*8+4,none⟩=some (av3)∧u.cell? ⟨qa,oa+j*8+5,none⟩=some (.int .u64 ex3)∧u.cell? ⟨qa,oa+j*8+6,none⟩=some (.int .u8 adl)∧u.cell? ⟨qa,oa+j*8+7,none⟩=some (ev3)∧u.cell? ⟨G,0,none⟩=some (.string key1)∧u.cell? ⟨G,1,none⟩=some (.string bD)∧u.cell? ⟨G,2,none⟩=some (.string b8)∧u.cell? ⟨G,3,none⟩=some (.slice gk n11 c11)∧u.cell? ⟨G,4,none⟩=some (.slice gi n12 c12)∧u.cell? ⟨G,5,none⟩=some (.int .u64 gU)∧u.cell? ⟨G,6,none⟩=some (.int .u8 bA)∧u.cell? ⟨G,7,none⟩=some (.slice jJ n13 c13))) bo (⟨m1,e20,e21,e22,e23,e24,e25,e26,e27,x0,x1,x2,x3,x4,x5,x6,x7⟩) (fun hHeld=>?_);refine aY 0 ?_
     refine aY 1 ?_
     refine aY 2 ?_
     refine aY 3 ?_
     refine aY 4 ?_
     refine aY 5 ?_
     refine aY 6 ?_
     refine aY 7 ?_
     refine aY 8 ?_
     refine fA 9 fun K hK=>?_;go_simp;refine(N7.out _ KB4.out).mono ?_;rintro r w3⟨rfl,d3⟩;have KB3:=bg KB4 d3;obtain⟨Na,KO3⟩:=aL (bK zi d3) (own_below KO4.out d3);have KY3:ag (∀Y∈zs,dm w3 wi.heap.size Y):=ae (fun Y hY=>(KY4.out Y hY).low d3);obtain⟨KD3,KM3,KK3⟩:=bz (bK KD4 d3) (bK KM4 d3) (KK4.out.than d3);clear KB4 zi KO4 KY4 KD4 KM4 KK4;clear SV CU KO2 KY2 KD2 KM2 KK2;refine hK.out _ _ (⟨ai hHeld.1 d3,ai hHeld.2.1 d3,ai hHeld.2.2.1 d3,ai hHeld.2.2.2.1 d3,ai hHeld.2.2.2.2.1 d3,ai hHeld.2.2.2.2.2.1 d3,ai hHeld.2.2.2.2.2.2.1 d3,ai hHeld.2.2.2.2.2.2.2.1 d3,ai hHeld.2.2.2.2.2.2.2.2.1 d3,ai hHeld.2.2.2.2.2.2.2.2.2.1 d3,ai hHeld.2.2.2.2.2.2.2.2.2.2.1 d3,ai hHeld.2.2.2.2.2.2.2.2.2.2.2.1 d3,ai hHeld.2.2.2.2.2.2.2.2.2.2.2.2.1 d3,ai hHeld.2.2.2.2.2.2.2.2.2.2.2.2.2.1 d3,ai hHeld.2.2.2.2.2.2.2.2.2.2.2.2.2.2.1 d3,ai hHeld.2.2.2.2.2.2.2.2.2.2.2.2.2.2.2.1 d3,ai hHeld.2.2.2.2.2.2.2.2.2.2.2.2.2.2.2.2 d3⟩) (fun hHeld=>?_);clear hK K;try simp only[ck]
     refine aY 10 ?_
     refine aY 11 ?_
     refine lN ?_;clear d3 q0 q0' m1 x0 x1 x2 x3 x4 x5 x6 x7 e20 e21 e22 e23 e24 e25 e26 e27;cases B with
     |true=>
      have jd:=ae U7.out;go_wp2_with fail
      go_roundw
      case rel=>exact⟨k+1,A,n,c,zs,by omega,by go_num,by omega,KD3,KO3,KY3,ae (by rw[HTm.out,ahR,List.filter_cons_of_neg (by rw[jd.out];decide),aia,ep];exact hmap.out),hzl,KK3⟩
      case measure=>simp[intOf];omega
     |false=>
      have jd:=ae U7.out;simp only[ahV]at jd;clear U7;go_upto_region 16 with fail
      obtain⟨x0,x1,x2,x3,x4,x5,x6,x7⟩:=dB Na;obtain⟨-,-,s2⟩:=jt KD3;have hdr:=(aI w3.heap.size w3).drew;have KB4:=bg KB3 hdr;obtain⟨zi,KO4⟩:=aL (bK Na hdr) (own_below KO3.out hdr);have KY4:ag (∀Y∈zs,dm _ wi.heap.size Y):=ae (fun Y hY=>(KY3.out Y hY).low hdr);obtain⟨KD4,KM4,KK4⟩:=bz (bK KD3 hdr) (bK KM3 hdr) (KK3.out.than hdr);clear hdr;obtain⟨j0,lD,hz0,hz1,hz2⟩:=info_parts mY;refine km 7 (fun u=>u.cell? ⟨D,2,none⟩=some (.slice A n c)∧u.cell? ⟨G,0,none⟩=some (.string key1)∧u.cell? ⟨G,1,none⟩=some (.string bD)∧u.cell? ⟨G,2,none⟩=some (.string b8)∧u.cell? ⟨G,3,none⟩=some (.slice gk n11 c11)∧u.cell? ⟨G,4,none⟩=some (.slice gi n12 c12)∧u.cell? ⟨G,5,none⟩=some (.int .u64 gU)∧u.cell? ⟨G,6,none⟩=some (.int .u8 bA)∧u.cell? ⟨G,7,none⟩=some (.slice jJ n13 c13)) bo (⟨s2,x0,x1,x2,x3,x4,x5,x6,x7⟩) (fun hHeld=>?_);refine vy 0 ?_
      refine vy 1 ?_
      refine vy 2 ?_
      refine vP 3 fun K hK=>?_;go_simp;refine(bG.out _ KB4.out).mono ?_;rintro r w5⟨⟨⟨⟨key2,bB,cf,du,cH,iP,bJ,dw⟩,tv2,av2,ev2⟩,rfl,G4,pJ⟩,d5⟩;obtain⟨jq,c21,e21⟩:=aX pJ.tags;obtain⟨jr,js,e22⟩:=aX pJ.aQ;obtain⟨mh,c23,e23⟩:=aX pJ.ends;simp only at e21 e22 e23;subst e21 e22 e23;obtain⟨NJ,V5⟩:=aL (pJ.mono KK4.out.size) G4;obtain⟨n21,nN⟩:=bw du.length;obtain⟨n22,nO⟩:=bw cH.length;obtain⟨n23,nP⟩:=bw dw.length;unfold bS.vals;simp only;rw[←nN,←nO,←nP];obtain⟨Iy,HL2,HL3⟩:=bz nN nO nP;have KB5:=bg KB4 d5;obtain⟨ID,KO5⟩:=aL (bK zi d5) (own_below KO4.out d5);have KY5:ag (∀Y∈zs,dm w5 wi.heap.size Y):=ae (fun Y hY=>(KY4.out Y hY).low d5);obtain⟨KD5,KM5,KK5⟩:=bz (bK KD4 d5) (bK KM4 d5) (KK4.out.than d5);clear nN nO nP pJ G4;have hbz:=boxed w5 (.cells ([.string key2,.string bB,.string cf,.slice jq n21 c21,.slice jr n22 js,.int .u64 iP,.int .u8 bJ,.slice mh n23 c23]:List Value).toArray 47);have KB6:=bg KB5 hbz;obtain⟨MY,KO6⟩:=aL (bK ID hbz) (own_below KO5.out hbz);have KY6:ag (∀Y∈zs,dm _ wi.heap.size Y):=ae (fun Y hY=>(KY5.out Y hY).low hbz);obtain⟨KD6,KM6,KK6⟩:=bz (bK KD5 hbz) (bK KM5 hbz) (KK5.out.than hbz);obtain⟨v',w7,hr',ho7,LJ,_⟩:=run_append_own (P:=ah) (w:=w5.alloc (.cells ([.string key2,.string bB,.string cf,.slice jq n21 c21,.slice jr n22 js,.int .u64 iP,.int .u8 bJ,.slice mh n23 c23]:List Value).toArray 47)) wi.heap.size 23 23 47 j0 (.agg #[aG,aG,aG,au,au,.int .u64 0,.int .u8 0,au]) 8 136 aif lD hz0 hz1 hz2 rfl aJ (.slice A n c) n (cY zs) KO6.out ⟨w5.heap.size,0,none⟩ 1 1 [.string key2,.string bB,.string cf,.slice jq n21 c21,.slice jr n22 js,.int .u64 iP,.int .u8 bJ,.slice mh n23 c23] rfl (cS w5 [.string key2,.string bB,.string cf,.slice jq n21 c21,.slice jr n22 js,.int .u64 iP,.int .u8 bJ,.slice mh n23 c23] 47) (by intro u hu;simp at hu;rcases hu with rfl|rfl|rfl|rfl|rfl|rfl|rfl|rfl<;>rfl) (by unfold maxLen;omega) aR KK6.out.size;obtain⟨A7,c7,e7⟩:=aX ho7;subst e7;obtain⟨FP,Qa,SO⟩:=bz hr' ho7 LJ;have hown:∀q,(dq A n c).ownBlock=some q→wi.heap.size≤q:=fun q hq=>(KO6.out.lt q hq).1
      have hown2:=HQ0.out;have hD7:=KD6.out.keep (Keeps.row LJ) (fun hq=>by have:=hown _ hq;have:=HDn.out.2.2.2.2;omega);have HD7:=ae hD7;have zh:=ae (qj KK6.out (Keeps.row LJ) (fun i hi hq=>by have:=hown _ hq;omega));have hoff:=cG KO6.out;have HY7:ag (∀Y∈zs,dm w7 wi.heap.size Y):=ae (fun Y hY=>(KY6.out Y hY).keep (Keeps.row LJ) hoff aJ aJ aJ);have HX7:=ae ((NJ.out.low hbz).keep (Keeps.row LJ) hoff aJ aJ aJ);have tM:=MY.out.keep (Keeps.row LJ) (fun hq=>by have:=hown2 _ hq;omega);have y0:=tM.cell 0;have y1:=tM.cell 1;have y2:=tM.cell 2;have y3:=tM.cell 3;have y4:=tM.cell 4;have y5:=tM.cell 5;have y6:=tM.cell 6;have y7:=tM.cell 7;simp at y0 y1 y2 y3 y4 y5 y6 y7;have t2:=hD7.cell 2;simp at t2;have fr:=fun i=>hD7.frozen i
      clear hr' ho7 LJ hown hown2 hoff hD7 tM;refine hK.out _ _ (fun _=>⟨ai hHeld.1 d5,ai hHeld.2.1 d5,ai hHeld.2.2.1 d5,ai hHeld.2.2.2.1 d5,ai hHeld.2.2.2.2.1 d5,ai hHeld.2.2.2.2.2.1 d5,ai hHeld.2.2.2.2.2.2.1 d5,ai hHeld.2.2.2.2.2.2.2.1 d5,ai hHeld.2.2.2.2.2.2.2.2 d5⟩) (fun hHeld=>?_);have hHeld:=hHeld aJ;clear hK K;try simp only[ck]
      refine vP 4 fun K hK=>?_;go_simp;refine hK.out _ _ (fun _=>⟨ai hHeld.1 hbz,ai hHeld.2.1 hbz,ai hHeld.2.2.1 hbz,ai hHeld.2.2.2.1 hbz,ai hHeld.2.2.2.2.1 hbz,ai hHeld.2.2.2.2.2.1 hbz,ai hHeld.2.2.2.2.2.2.1 hbz,ai hHeld.2.2.2.2.2.2.2.1 hbz,ai hHeld.2.2.2.2.2.2.2.2 hbz⟩) (fun hHeld=>?_);have hHeld:=hHeld aJ;clear hK K;try simp only[ck]
      refine vP 5 fun K hK=>?_;refine kW rfl _ _ 23 23 rfl rfl rfl FP.out ?_;refine hK.out _ _ (fun _=>⟨t2,y0,y1,y2,y3,y4,y5,y6,y7⟩) (fun hHeld=>?_);have hHeld:=hHeld aJ;clear hK K;try simp only[ck]
      refine vy 6 ?_
      refine vP 7 fun K hK=>?_;go_simp;refine hK.out _ _ (fun h=>absurd h aJ) (fun _=>?_);clear hK K;try clear hHeld
      try simp only[ck]
      refine zdX ?_;have f1:aH (w7.setCell ⟨D,2,none⟩ (.slice A7 (n+1) c7)) D 31 #[.int .u64 va,.int .u64 vb,.slice A7 (n+1) c7,au,.bool false,au,.bool false,aG,.string HH]:=HD7.out.aM 2 _;have f2:=aV (k:=2) (u:=.slice A7 (n+1) c7) Qa.out HDn.out.2.2.2.2;have f3:∀Y∈zs++[⟨⟨key2,bB,cf,du,cH,iP,bJ,dw⟩,.slice jq du.length c21,.slice jr cH.length js,.slice mh dw.length c23⟩],dm (w7.setCell ⟨D,2,none⟩ (.slice A7 (n+1) c7)) wi.heap.size Y:=fun Y hY=>by
       rcases List.mem_append.1 hY with hY|hY
       ·have:=HY7.out Y hY;exact⟨aV this.tags HDn.out.2.2.2.2,aV this.aQ HDn.out.2.2.2.2,aV this.ends HDn.out.2.2.2.2⟩
       ·rw[List.mem_singleton.1 hY];have:=HX7.out;exact⟨aV this.tags HDn.out.2.2.2.2,aV this.aQ HDn.out.2.2.2.2,aV this.ends HDn.out.2.2.2.2⟩
      have f4:=zh.out.setCell (p:=⟨D,2,none⟩) (Or.inl rfl) (.slice A7 (n+1) c7);obtain⟨F1,F2,F3,F4⟩:=cU f1 f2 f3 f4;clear f1 f2 f3 f4 HD7 Qa HY7 HX7 zh SO FP t2 fr y0 y1 y2 y3 y4 y5 y6 y7 x0 x1 x2 x3 x4 x5 x6 x7 s2;generalize w7.setCell ⟨D,2,none⟩ (.slice A7 (n+1) c7)=w8 at F1 F2 F3 F4⊢;go_wp2_with fail
      go_roundw
      case rel=>
       refine⟨k+1,A7,n+1,c7,zs++[⟨⟨key2,bB,cf,du,cH,iP,bJ,dw⟩,.slice jq du.length c21,.slice jr cH.length js,.slice mh dw.length c23⟩],by omega,by go_num,by omega,F1,ae ?_,F3,ae ?_,ae (by rw[aj,hzl.out];rfl),F4⟩
       ·rw[lB];unfold bS.vals;simp only;rw[←Iy.out,←HL2.out,←HL3.out];exact F2.out
       ·rw[HTm.out,cL,hmap.out,ahR,List.filter_cons_of_pos jd.out,aia,ahM];rw[V5.out]
      case measure=>simp[intOf];omega
theorem aaC{α:Type}(f:α→List UInt8)(k:Nat):∀l:List α,(∀x∈l,(f x).length≤k)→(l.flatMap f).length≤l.length*k:=by
 intro l
 induction l with
 |nil=>intro _;simp
 |cons x r ih=>
  intro h;have h1:=h x (cJ ..);have h2:=ih fun y hy=>h y (List.mem_cons_of_mem x hy)
  rw[abj,aj,bP,Nat.add_mul];omega
theorem mo{α:Type}(f:α→List UInt8)(k n:Nat)(l:List α)(hn:l.length≤n)(h:∀x∈l,(f x).length≤k):(bU f l).length≤2+n*k:=by
 unfold bU;rw[aj,aP];have:=aaC f k l h;have:l.length*k≤n*k:=Nat.mul_le_mul_right k hn;omega
theorem Xd(a:Ad):(zj a).length≤17:=by
 unfold zj;split
 ·rw[bP,aj,aP,aP];omega
 ·rw[bP,aP];omega
theorem Xe(e:En):(Gm e).length≤19:=by
 unfold Gm;have:=Xd e.1;rw[aj,aP];omega
theorem Ed(s:ByteArray):(oy s).length=2+s.size:=by
 unfold oy;rw[aj,aP];rfl
theorem Xf{p:Pr}(h:kt p=true):(qs p).length≤1000:=by
 have m:=(AV p).1 h;unfold qs;have e1:=mo oy 34 8 p.tags m.tl (fun t ht=>by rw[Ed];have:=sj (m.tags t ht);omega);have e2:=mo zj 17 4 p.aQ m.al (fun a _=>Xd a);have e3:=mo Gm 19 8 p.ends m.el (fun e _=>Xe e);have e4:=Ed p.user;have e5:=sj m.user;have k1:p.key.data.toList.length=32:=m.key;have k2:p.bu.data.toList.length=32:=m.bu;simp only[aj,aP,k1,k2,e4];omega
theorem Xg{r:Ry}(h:xW r=true):(qK r).length≤100:=by
 unfold xW at h;simp only[aU,decide_eq_true_eq]at h;have k1:r.key.data.toList.length=32:=h.1;have:=Xe r.fin;unfold qK;simp only[aj,aP,k1];omega
theorem sJ{m:Mp}(h:jE m=true):(zE m).length≤80000000:=by
 obtain⟨_,h2,h3,h4⟩:=gB h;obtain⟨_,p2,p3⟩:=gu h2;unfold jD at h3;simp only[aU,decide_eq_true_eq]at h3;have e1:=mo qs 1000 64 m.aK p2 (fun p hp=>Xf (p3 p hp));have e2:=mo qK 100 8 m.aA h3.1.1 (fun r hr=>Xg (List.all_eq_true.1 h3.2 r hr));have e3:=Ed m.policy;have e4:=sq h4;unfold zE;simp only[aj,aP,e3];omega
open Go.ChangeShapes Go.WideShapes Go.ChangeAt Go.Deep
theorem d40:ah.cellsOf 57=6:=by kernel_rfl
theorem d41:ah.cellsOf 24=1:=by kernel_rfl
theorem d42:ah.cellsOf 26=4:=by kernel_rfl
theorem chunks{α:Type}(k:Nat):∀(n:Nat)(l:List α),l.length=n*k→l=(aF n).flatMap fun i=>(l.drop (i*k)).take k:=by
 intro n
 induction n with
 |zero=>
  intro l h;rw[Nat.zero_mul]at h;rw[List.eq_nil_of_length_eq_zero h];rfl
 |succ n ih=>
  intro l h;rw[List.range_succ_eq_map,abj,List.flatMap_map];have h2:=ih (l.drop k) (by rw[List.length_drop,h,Nat.add_mul];omega);have e:((aF n).flatMap fun i=>(l.drop ((i+1)*k)).take k)=(aF n).flatMap fun i=>((l.drop k).drop (i*k)).take k:=by
   congr 1;funext i;rw[List.drop_drop,Nat.add_mul,Nat.one_mul,Nat.add_comm]
  show l=(l.drop (0*k)).take k++(aF n).flatMap fun i=>(l.drop ((i+1)*k)).take k
  rw[e,←h2,Nat.zero_mul,List.drop_zero,List.take_append_drop]
theorem adn{W:World}(h:Lib.VarReads ah W "isthmus/blake.orders" Rows.laid_isthmus_blake_orders):fZ W:=by
 obtain⟨g',t',cs,fuel,p,hg',ht',hvar,hd⟩:=h;have hg:ah.globalNamed "isthmus/blake.orders" =some 0:=by kernel_rfl
 have hty:(ah.globals[0]?).map (·.type)=some 261:=by kernel_rfl
 obtain rfl:=Option.some.inj (hg.symm.trans hg');obtain rfl:=Option.some.inj (hty.symm.trans ht');have hu:ah.underlying 261=some (.array 10 260):=by kernel_rfl
 have hu2:ah.underlying 260=some (.array 16 5):=by kernel_rfl
 obtain⟨xs,m,_,hx,hl,hxl,hi⟩:=DataW.trod_array hu hd;have hc1:ah.cellsOf 261=160:=by kernel_rfl
 have hc2:ah.cellsOf 260=16:=by kernel_rfl
 rw[hc1]at hl;rw[hc2]at hi;have e1:(DataW.agg (xs.map (·.1)):DataW Unit)=Rows.laid_isthmus_blake_orders:=(congrArg Prod.fst hx).symm;have e2:(Rows.laid_isthmus_blake_orders:DataW Unit)=.agg (pL.map fun r=>Lib.tabData .u8 (r.map fun n:Nat=>(n:Int))):=by rfl
 rw[e2]at e1;injection e1 with e1
 have hrow:∀i,i<10→(cs.toList.drop (i*16)).take 16=(pL.getD i []).map fun n:Nat=>ahL .u8 n:=fun i hlt=>by
  have h1:=hi i hlt;have hxi:i<xs.length:=by omega
  rw[af hxi]at h1;have h2:(xs.map (·.1))[i]? =(pL.map fun r=>Lib.tabData .u8 (r.map fun n:Nat=>(n:Int)))[i]? :=by rw[e1]
  rw[bO,bO,af hxi,af (show i<pL.length from hlt)]at h2;simp only[Option.map_some,Option.some.injEq]at h2;rw[show xs[i]=(xs[i].1,xs[i].2)from rfl,h2]at h1;have h3:=Lib.cells_of_tab hu2 Tryz.underlying5 d5 hc2 h1;rw[h3,List.getD_eq_getElem?_getD,af (show i<pL.length from hlt),Option.getD_some,List.map_map];rfl
 unfold fZ;rw[hvar];congr 1;have h5:=chunks 16 10 cs.toList hl;have h6:((aF 10).flatMap fun i=>(cs.toList.drop (i*16)).take 16)=(aF 10).flatMap fun i=>(pL.getD i []).map fun n:Nat=>ahL .u8 n:=by
  rw[List.flatMap_def,List.flatMap_def];congr 1;refine List.map_congr_left fun i hi=>hrow i (List.mem_range.1 hi)
 rw[h6]at h5;apply Array.toList_inj.1;rw[h5];rfl
theorem aaD{W:World}(hL:laidMetH ah rY W):fZ W:=by
 rw[MakeChecks.laidMetH_plain _ _ _ bo]at hL;exact adn (Lib.laidMet.reads hL (.tail _ (.tail _ (.tail _ (.tail _ (.tail _ (.tail _ (.head _))))))))
section
variable{H:Type}{enc:TypeId×Value→H}{w:World}{base:Nat}{sp:Nat→Bool}{held:Bool}
theorem Xh:∀n cs y,DataW.trod enc ah w base sp held n 55 cs=some y→∃x:En,cs=cF x∧Nw x:=by
 intro n cs y h;obtain⟨xs,n,_,rfl,hl,hlen,hf⟩:=DataW.trod_struct Tryz.underlying55 h;rw[d30]at hl
 match cs,hl with
 |[v0,v1,v2,v3],_=>
  have h0:=hf 0 _ rfl;have h1:=hf 1 _ rfl;rw[af (show 0<xs.length by rw[hlen];decide)]at h0;rw[af (show 1<xs.length by rw[hlen];decide)]at h1;obtain⟨a,ha,e0⟩:=abw h0;obtain⟨m,e1,k1⟩:=acP _ _ _ h1;simp[d11,d6,Ad.cells]at e0 e1;obtain⟨rfl,rfl,rfl⟩:=e0;subst e1;exact⟨(a,m),rfl,ha,k1⟩
theorem ado:∀n cs y,DataW.trod enc ah w base sp held n 57 cs=some y→∃x:Ry,cs=bH x∧x9 x:=by
 intro n cs y h;obtain⟨xs,n,_,rfl,hl,hlen,hf⟩:=DataW.trod_struct Tryz.underlying57 h;rw[d40]at hl
 match cs,hl with
 |[v0,v1,v2,v3,v4,v5],_=>
  have h0:=hf 0 _ rfl;have h1:=hf 1 _ rfl;have h2:=hf 2 _ rfl;rw[af (show 0<xs.length by rw[hlen];decide)]at h0;rw[af (show 1<xs.length by rw[hlen];decide)]at h1;rw[af (show 2<xs.length by rw[hlen];decide)]at h2;obtain⟨n0,e0,k0⟩:=abv _ _ _ h0;obtain⟨s1,e1,_⟩:=tN _ _ _ h1;obtain⟨x,e2,k2⟩:=Xh _ _ _ h2;simp[d5,d9,d30,cF]at e0 e1 e2;obtain⟨rfl,rfl,rfl,rfl⟩:=e2;subst e0 e1;exact⟨⟨n0,s1,x⟩,rfl,k0,k2⟩
theorem adp:∀n cs y,DataW.trod enc ah w base sp held n 47 cs=some y→∃X:bS,cs=X.vals∧(Rows.uptoBulk y.1≤1048576→fc w X∧pC X.p∧gQ X.p):=by
 intro n cs y h;obtain⟨xs,n,_,rfl,hl,hlen,hf⟩:=DataW.trod_struct Tryz.underlying47 h;rw[d31]at hl
 match cs,hl with
 |[v0,v1,v2,v3,v4,v5,v6,v7],_=>
  have h0:=hf 0 _ rfl;have h1:=hf 1 _ rfl;have h2:=hf 2 _ rfl;have h3:=hf 3 _ rfl;have h4:=hf 4 _ rfl;have h5:=hf 5 _ rfl;have h6:=hf 6 _ rfl;have h7:=hf 7 _ rfl;obtain⟨y2,g2⟩:∃z,xs[2]? =some z:=⟨_,af (show 2<xs.length by rw[hlen];decide)⟩;obtain⟨y3,g3⟩:∃z,xs[3]? =some z:=⟨_,af (show 3<xs.length by rw[hlen];decide)⟩;obtain⟨y4,g4⟩:∃z,xs[4]? =some z:=⟨_,af (show 4<xs.length by rw[hlen];decide)⟩;obtain⟨y7,g7⟩:∃z,xs[7]? =some z:=⟨_,af (show 7<xs.length by rw[hlen];decide)⟩;rw[af (show 0<xs.length by rw[hlen];decide)]at h0;rw[af (show 1<xs.length by rw[hlen];decide)]at h1;rw[af (show 5<xs.length by rw[hlen];decide)]at h5;rw[af (show 6<xs.length by rw[hlen];decide)]at h6;rw[g2]at h2;rw[g3]at h3;rw[g4]at h4;rw[g7]at h7;obtain⟨s0,e0,_⟩:=tN _ _ _ h0;obtain⟨s1,e1,_⟩:=tN _ _ _ h1;obtain⟨s2,e2,z2⟩:=tN _ _ _ h2;obtain⟨l3,u3,e3,r3,q3,b3,c3⟩:=open_row ahP 1 aJ d9 (fun x=>[bN x]) (fun _=>rfl) (fun D x=>x.size<Rows.uptoBulk D) tN h3;obtain⟨l4,u4,e4,r4,q4,b4,c4⟩:=open_row Tryz.underlying44 3 aJ d11 (fun x:Ad=>x.cells.toList) (fun _=>rfl) (fun _ x=>x.Ok) Z1 h4;obtain⟨n5,e5,k5⟩:=U8 _ _ _ h5;obtain⟨n6,e6,k6⟩:=abv _ _ _ h6;obtain⟨l7,u7,e7,r7,q7,b7,c7⟩:=open_row Tryz.underlying45 4 aJ d30 cF (fun _=>rfl) (fun _ x=>Nw x) Xh h7;rw[U2]at r3;simp[d9,d19,d32,d10,d5,d33]at e0 e1 e2 e3 e4 e5 e6 e7;subst e0 e1 e2 e3 e4 e5 e6 e7;refine⟨⟨⟨s0,s1,s2,l3,l4,n5,n6,l7⟩,v3,v4,v7⟩,rfl,fun hk'=>?_⟩;have hk:Rows.uptoBulk (DataW.agg (xs.map (·.1)))≤1048576:=hk';have k2:=lq g2;have k3:=lq g3;have k4:=lq g4;have k7:=lq g7;refine⟨⟨r3,r4,r7⟩,⟨k5,k6,fun b hb=>?_,fun b hb=>?_⟩,⟨by show s2.size≤_;omega,by show l3.length≤_;omega,by show l4.length≤_;omega,by show l7.length≤_;omega,fun t ht=>?_⟩⟩
  ·obtain⟨D,h5,_⟩:=q4 b hb;exact h5
  ·obtain⟨D,h5,_⟩:=q7 b hb;exact h5
  ·obtain⟨D,h5,h6⟩:=q3 t ht;omega
theorem open_map{b0:Nat}{v:Value}{d:DataW H}{p:List MemPlace}(hv:Value.okWide ah w .any b0 26 v)(h:DataW.Trod enc ah w base sp held 26 v d p)(hk:Rows.uptoBulk d≤1048576):∃(m:Mp)(pv rv:Value),v=.agg #[.int .u64 (m.version:Int),pv,rv,.string m.policy]∧df w pv m.aK∧eG w rv m.aA∧jG m∧zT m:=by
 obtain⟨cs,rfl,_⟩:=okWide_struct Tryz.underlying26 hv;obtain⟨fuel,hfu⟩:=h;obtain⟨xs,n,_,he,hl,hlen,hf⟩:=DataW.trod_struct Tryz.underlying26 hfu;injection he with he _
 subst he;obtain⟨cs⟩:=cs;rw[d42]at hl
 match cs,hl with
 |[v0,v1,v2,v3],_=>
  have h0:=hf 0 _ rfl;have h1:=hf 1 _ rfl;have h2:=hf 2 _ rfl;have h3:=hf 3 _ rfl;obtain⟨y1,g1⟩:∃z,xs[1]? =some z:=⟨_,af (show 1<xs.length by rw[hlen];decide)⟩;obtain⟨y2,g2⟩:∃z,xs[2]? =some z:=⟨_,af (show 2<xs.length by rw[hlen];decide)⟩;obtain⟨y3,g3⟩:∃z,xs[3]? =some z:=⟨_,af (show 3<xs.length by rw[hlen];decide)⟩;rw[af (show 0<xs.length by rw[hlen];decide)]at h0;rw[g1]at h1;rw[g2]at h2;rw[g3]at h3;obtain⟨n0,e0,k0⟩:=U8 _ _ _ h0;obtain⟨l1,u1,e1,r1,q1,b1,c1⟩:=open_row aif 8 aJ d31 bS.vals aB (fun D X=>Rows.uptoBulk D≤1048576→fc w X∧pC X.p∧gQ X.p) adp h1;obtain⟨l2,u2,e2,r2,q2,b2,c2⟩:=open_row Tryz.underlying24 6 aJ d40 bH bI (fun _ x=>x9 x) ado h2;obtain⟨s3,e3,z3⟩:=tN _ _ _ h3;simp[d10,d34,d41,d9,Value.cells]at e0 e1 e2 e3;subst e0 e1 e2 e3;have k1:=lq g1;have k2:=lq g2;have k3:=lq g3;have hq:∀X∈l1,fc w X∧pC X.p∧gQ X.p:=fun X hX=>by
   obtain⟨D,h5,h6⟩:=q1 X hX;exact h5 (by omega)
  refine⟨⟨n0,l1.map (·.p),l2,s3⟩,v1,v2,rfl,⟨l1,rfl,r1,fun X hX=>(hq X hX).1⟩,r2,⟨k0,fun p hp=>?_,fun r hr=>?_⟩,⟨fun p hp=>?_,by show(l1.map (·.p)).length≤_;rw[ay];omega,by show l2.length≤_;omega,by show s3.size≤_;omega,sJ⟩⟩
  ·obtain⟨X,hX,rfl⟩:=List.mem_map.1 hp;exact(hq X hX).2.1
  ·obtain⟨D,h5,_⟩:=q2 r hr;exact h5
  ·obtain⟨X,hX,rfl⟩:=List.mem_map.1 hp;exact(hq X hX).2.2
end
theorem Ee(l:List ByteArray):strCells l=l.flatMap fun x:ByteArray=>[bN x]:=by
 unfold strCells
 induction l with
 |nil=>rfl
 |cons x r ih=>rw[List.map_cons,abj,ih];rfl
theorem qP{w:World}{X Y:bS}(hX:fc w X)(hY:fc w Y)(sX:gQ X.p)(sY:gQ Y.p):Calls ah 14 #[.agg X.vals.toArray,.agg Y.vals.toArray] w (Got (.bool (decide (X.p=Y.p))) w):=by
 obtain⟨R,hR⟩:=bw (decide (X.p=Y.p));rw[←hR];have l11:=sX.tl;have l12:=sX.al;have l13:=sX.el;obtain⟨⟨key1,bD,b8,ew,dr,gU,bA,eJ⟩,Yq,Yr,ev1⟩:=X;obtain⟨ht1,ha1,he1⟩:=hX;simp only at ht1 ha1 he1 l11 l12 l13;obtain⟨gk,c11,rfl,_,ht1⟩:=ht1;obtain⟨gi,c12,rfl,_,ha1⟩:=ha1;obtain⟨jJ,c13,rfl,_,he1⟩:=he1;rw[Ee]at ht1;obtain⟨n11,aaE⟩:=bw ew.length;rw[←aaE]at ht1 l11;obtain⟨n12,aaF⟩:=bw dr.length;rw[←aaF]at ha1 l12;obtain⟨n13,aaG⟩:=bw eJ.length;rw[←aaG]at he1 l13;have l21:=sY.tl;have l22:=sY.al;have l23:=sY.el;obtain⟨⟨key2,bB,cf,du,cH,iP,bJ,dw⟩,tv2,av2,ev2⟩:=Y;obtain⟨ht2,ha2,he2⟩:=hY;simp only at ht2 ha2 he2 l21 l22 l23;obtain⟨jq,c21,rfl,_,ht2⟩:=ht2;obtain⟨jr,js,rfl,_,ha2⟩:=ha2;obtain⟨mh,c23,rfl,_,he2⟩:=he2;rw[Ee]at ht2;obtain⟨n21,aaH⟩:=bw du.length;rw[←aaH]at ht2 l21;obtain⟨n22,aaI⟩:=bw cH.length;rw[←aaI]at ha2 l22;obtain⟨n23,aaJ⟩:=bw dw.length;rw[←aaJ]at he2 l23;unfold bS.vals;simp only at hR⊢;rw[←aaE,←aaF,←aaG,←aaH,←aaI,←aaJ];obtain⟨Ht1,Ha1,He1,Ht2,Ha2,He2,HR,adq,adr,adt,adu,adv⟩:=oM ht1 ha1 he1 ht2 ha2 he2 hR aaE aaF aaG aaH aaI;have adw:=ae aaJ;clear ht1 ha1 he1 ht2 ha2 he2 hR aaE aaF aaG aaH aaI aaJ sX sY;have HB0:=ae (fR w (.cells #[.string key1,.string bD,.string b8,.slice gk n11 c11,.slice gi n12 c12,.int .u64 gU,.int .u8 bA,.slice jJ n13 c13] 47) (.cells #[.string key2,.string bB,.string cf,.slice jq n21 c21,.slice jr n22 js,.int .u64 iP,.int .u8 bJ,.slice mh n23 c23] 47));have hp:=aH.new w 47 #[.string key1,.string bD,.string b8,.slice gk n11 c11,.slice gi n12 c12,.int .u64 gU,.int .u8 bA,.slice jJ n13 c13];have HP:=ae (hp.below (boxed _ (.cells #[.string key2,.string bB,.string cf,.slice jq n21 c21,.slice jr n22 js,.int .u64 iP,.int .u8 bJ,.slice mh n23 c23] 47)) hp.lt);have hq:=aH.new (w.alloc (.cells #[.string key1,.string bD,.string b8,.slice gk n11 c11,.slice gi n12 c12,.int .u64 gU,.int .u8 bA,.slice jJ n13 c13] 47)) 47 #[.string key2,.string bB,.string cf,.slice jq n21 c21,.slice jr n22 js,.int .u64 iP,.int .u8 bJ,.slice mh n23 c23];rw[show(w.alloc (.cells #[.string key1,.string bD,.string b8,.slice gk n11 c11,.slice gi n12 c12,.int .u64 gU,.int .u8 bA,.slice jJ n13 c13] 47)).heap.size=w.heap.size+1 by simp]at hq;have HQ:=ae hq;clear hp hq;go_enter Tryz.func14,Tryz.ntmps14;go_upto_region 1 with fail
 generalize(w.alloc (.cells #[.string key1,.string bD,.string b8,.slice gk n11 c11,.slice gi n12 c12,.int .u64 gU,.int .u8 bA,.slice jJ n13 c13] 47)).alloc (.cells #[.string key2,.string bB,.string cf,.slice jq n21 c21,.slice jr n22 js,.int .u64 iP,.int .u8 bJ,.slice mh n23 c23] 47)=w1 at HB0 HP HQ⊢;generalize w.heap.size+1=Q at HQ⊢;generalize hP:w.heap.size=P at HP⊢;clear hP;have p0:=HP.out.cell 0;have q0:=HQ.out.cell 0;have p1:=HP.out.cell 1;have q1:=HQ.out.cell 1;have p2:=HP.out.cell 2;have q2:=HQ.out.cell 2;have p3:=HP.out.cell 3;have q3:=HQ.out.cell 3;have p4:=HP.out.cell 4;have q4:=HQ.out.cell 4;have p5:=HP.out.cell 5;have q5:=HQ.out.cell 5;have p6:=HP.out.cell 6;have q6:=HQ.out.cell 6;have p7:=HP.out.cell 7;have q7:=HQ.out.cell 7;simp at p0 q0 p1 q1 p2 q2 p3 q3 p4 q4 p5 q5 p6 q6 p7 q7;by_cases k0:key1=key2;rotate_left
 ·have z0:=gm k0;have dS:ag (R=false):=ae (by rw[HR.out];exact decide_eq_false (fun e=>k0 (congrArg Pr.key e)));clear k0;go_wp2_with fail
  go_ret;exact⟨by rw[dS.out];rfl,HB0.out⟩
 have z0:=ic k0;by_cases k1:bD=bB;rotate_left
 ·have z1:=gm k1;have dS:ag (R=false):=ae (by rw[HR.out];exact decide_eq_false (fun e=>k1 (congrArg Pr.bu e)));clear k0 k1;go_wp2_with fail
  go_ret;exact⟨by rw[dS.out];rfl,HB0.out⟩
 have z1:=ic k1;by_cases k2:b8=cf;rotate_left
 ·have z2:=gm k2;have dS:ag (R=false):=ae (by rw[HR.out];exact decide_eq_false (fun e=>k2 (congrArg Pr.user e)));clear k0 k1 k2;go_wp2_with fail
  go_ret;exact⟨by rw[dS.out];rfl,HB0.out⟩
 have z2:=ic k2;by_cases k3:gU=iP;rotate_left
 ·have z3:((gU:Int) !=(iP:Int))=true:=by simp;omega
  have dS:ag (R=false):=ae (by rw[HR.out];exact decide_eq_false (fun e=>k3 (congrArg Pr.exp e)));clear k0 k1 k2 k3;go_wp2_with fail
  go_ret;exact⟨by rw[dS.out];rfl,HB0.out⟩
 have z3:((gU:Int) !=(iP:Int))=false:=by simp[k3]
 by_cases k4:bA=bJ;rotate_left
 ·have z4:((bA:Int) !=(bJ:Int))=true:=by simp;omega
  have dS:ag (R=false):=ae (by rw[HR.out];exact decide_eq_false (fun e=>k4 (congrArg Pr.bm e)));clear k0 k1 k2 k3 k4;go_wp2_with fail
  go_ret;exact⟨by rw[dS.out];rfl,HB0.out⟩
 have z4:((bA:Int) !=(bJ:Int))=false:=by simp[k4]
 by_cases k5:n11=n21;rotate_left
 ·have z5:((n11:Int) !=(n21:Int))=true:=by simp;omega
  have dS:ag (R=false):=ae (by rw[HR.out];exact decide_eq_false (fun e=>k5 (by rw[adq.out,adu.out];exact congrArg (fun p:Pr=>p.tags.length) e)));clear k0 k1 k2 k3 k4 k5;go_wp2_with fail
  go_ret;exact⟨by rw[dS.out];rfl,HB0.out⟩
 have z5:((n11:Int) !=(n21:Int))=false:=by simp[k5]
 by_cases k6:n12=n22;rotate_left
 ·have z6:((n12:Int) !=(n22:Int))=true:=by simp;omega
  have dS:ag (R=false):=ae (by rw[HR.out];exact decide_eq_false (fun e=>k6 (by rw[adr.out,adv.out];exact congrArg (fun p:Pr=>p.aQ.length) e)));clear k0 k1 k2 k3 k4 k5 k6;go_wp2_with fail
  go_ret;exact⟨by rw[dS.out];rfl,HB0.out⟩
 have z6:((n12:Int) !=(n22:Int))=false:=by simp[k6]
 by_cases k7:n13=n23;rotate_left
 ·have z7:((n13:Int) !=(n23:Int))=true:=by simp;omega
  have dS:ag (R=false):=ae (by rw[HR.out];exact decide_eq_false (fun e=>k7 (by rw[adt.out,adw.out];exact congrArg (fun p:Pr=>p.ends.length) e)));clear k0 k1 k2 k3 k4 k5 k6 k7;go_wp2_with fail
  go_ret;exact⟨by rw[dS.out];rfl,HB0.out⟩
 have z7:((n13:Int) !=(n23:Int))=false:=by simp[k7]
 obtain⟨E0,E1,E2,E3,E4,E5,E6,E7⟩:=YF k0 k1 k2 k3 k4 k5 k6 k7;clear k0 k1 k2 k3 k4 k5 k6 k7;go_upto_region 3 with fail
 clear z0 z1 z2 z3 z4 z5 z6 z7;go_upto_region 4 with fail
 go_loopw [5] (fun v wr=>∃k:Nat,k≤n11∧v=.int .i64 k∧ag (aW w1 wr)∧ag (ew.take k=du.take k)) (fun v _=>n11-(intOf v).toNat)
 case atStart=>exact⟨0,bj _,rfl,ae (aI _ _),ae rfl⟩
 case round=>
  obtain⟨k,hk,rfl,HW,hsame⟩:=hrel;obtain⟨wo0,rfl⟩:=bw (wr:World);have px:=ai p3 HW.out;have qx:=ai q3 HW.out;by_cases hlt:k<n11
  ·have hkl:k<ew.length:=by have:=adq.out;omega
   have hkm:k<du.length:=by have:=adu.out;have:=E5.out;omega
   obtain⟨q1,o1,rfl,hc1⟩:=Ht1.out aR;obtain⟨q2,o2,rfl,hc2⟩:=Ht2.out (by have:=E5.out;omega);have ht1:=aC hkl;have ht2:=aC hkm;have hne:ew[k]≠du[k]→ew≠du:=fun h e=>h (by simp only[e])
   have d10:=ai (ai (hc1 _ _ (aD (fun x:ByteArray=>[bN x]) 1 (fun _=>rfl) (af hkl) (r:=0) rfl)) HB0.out) HW.out;have lR:=ai (ai (hc2 _ _ (aD (fun x:ByteArray=>[bN x]) 1 (fun _=>rfl) (af hkm) (r:=0) rfl)) HB0.out) HW.out;have z0:(k:Int)<(n11:Int):=by omega
   have z1:(k:Int)<(n21:Int):=by have:=E5.out;omega
   have z2:(0:Int)≤(k:Int):=by omega
   generalize ew[k]=U at ht1 hne d10;generalize du[k]=V at ht2 hne lR;clear hc1 hc2 hkl hkm;simp only[Nat.mul_one,cq]at d10 lR;by_cases hX:U=V
   ·have Ly:ag (ew.take (k+1)=du.take (k+1)):=ae (by rw[ht1,ht2,hsame.out,hX]);have hq:=ic hX;clear ht1 ht2 hne hX;go_upto_region 6 with fail
    go_quiet (fail);go_wp2_with fail
    go_roundw
    case rel=>exact⟨k+1,by omega,by go_num,ae (HW.out.gK _),Ly⟩
    case measure=>simp[intOf];omega
   ·have ej:ag (R=false):=ae (by rw[HR.out];exact decide_eq_false (fun e=>hne hX (congrArg Pr.tags e)));have hq:=gm hX;clear ht1 ht2 hne hX;go_upto_region 6 with fail
    go_quiet (fail);go_wp2_with fail
    go_ret;exact⟨by rw[ej.out];rfl,after HB0.out (HW.out.gK _)⟩
  ·obtain rfl:k=n11:=by omega
   have he0:ew=du:=by
    have e:=hsame.out;rw[aN (by have:=adq.out;omega),aN (by have:=adu.out;have:=E5.out;omega)]at e;exact e
   have HE0:=ae he0;have ag0:=HW;clear he0 hsame;go_upto_region 9 with fail
   clear px qx;go_loopw [6] (fun v wr=>∃k:Nat,k≤n12∧v=.int .i64 k∧ag (aW w1 wr)∧ag (dr.take k=cH.take k)) (fun v _=>n12-(intOf v).toNat)
   case atStart=>exact⟨0,bj _,rfl,ag0,ae rfl⟩
   case round=>
    obtain⟨k,hk,rfl,HW,hsame⟩:=hrel;obtain⟨wo1,rfl⟩:=bw (wr:World);have px:=ai p4 HW.out;have qx:=ai q4 HW.out;by_cases hlt:k<n12
    ·have hkl:k<dr.length:=by have:=adr.out;omega
     have hkm:k<cH.length:=by have:=adv.out;have:=E6.out;omega
     obtain⟨q1,o1,rfl,hc1⟩:=Ha1.out aR;obtain⟨q2,o2,rfl,hc2⟩:=Ha2.out (by have:=E6.out;omega);have ht1:=aC hkl;have ht2:=aC hkm;have hne:dr[k]≠cH[k]→dr≠cH:=fun h e=>h (by simp only[e])
     have d10:=ai (ai (hc1 _ _ (aD (fun a:Ad=>a.cells.toList) 3 (fun _=>rfl) (af hkl) (r:=0) rfl)) HB0.out) HW.out;have d11:=ai (ai (hc1 _ _ (aD (fun a:Ad=>a.cells.toList) 3 (fun _=>rfl) (af hkl) (r:=1) rfl)) HB0.out) HW.out;have d12:=ai (ai (hc1 _ _ (aD (fun a:Ad=>a.cells.toList) 3 (fun _=>rfl) (af hkl) (r:=2) rfl)) HB0.out) HW.out;have lR:=ai (ai (hc2 _ _ (aD (fun a:Ad=>a.cells.toList) 3 (fun _=>rfl) (af hkm) (r:=0) rfl)) HB0.out) HW.out;have oI:=ai (ai (hc2 _ _ (aD (fun a:Ad=>a.cells.toList) 3 (fun _=>rfl) (af hkm) (r:=1) rfl)) HB0.out) HW.out;have oJ:=ai (ai (hc2 _ _ (aD (fun a:Ad=>a.cells.toList) 3 (fun _=>rfl) (af hkm) (r:=2) rfl)) HB0.out) HW.out;have z0:(k:Int)<(n12:Int):=by omega
     have z1:(k:Int)<(n22:Int):=by have:=E6.out;omega
     have z2:(0:Int)≤(k:Int):=by omega
     generalize dr[k]=U at ht1 hne d10 d11 d12;generalize cH[k]=V at ht2 hne lR oI oJ;clear hc1 hc2 hkl hkm;have hqq:=fun W=>abG U V W
     obtain⟨v1,hi1,lo1⟩:=U;obtain⟨v2,hi2,lo2⟩:=V;unfold Ad.cells at hqq;simp only at hqq d10 d11 d12 lR oI oJ;rw[cq]at d10 lR;rw[←jh]at d11 d12 oI oJ;by_cases hX:(⟨v1,hi1,lo1⟩:Ad)=⟨v2,hi2,lo2⟩
     ·have Ly:ag (dr.take (k+1)=cH.take (k+1)):=ae (by rw[ht1,ht2,hsame.out,hX]);have hq:=hqq;rw[decide_eq_true hX]at hq;simp only[ah9]at hq;clear hqq;clear ht1 ht2 hne hX;go_upto_region 11 with fail
      go_quiet (fail);go_wp2_with fail
      go_roundw
      case rel=>exact⟨k+1,by omega,by go_num,ae (HW.out.gK _),Ly⟩
      case measure=>simp[intOf];omega
     ·have ej:ag (R=false):=ae (by rw[HR.out];exact decide_eq_false (fun e=>hne hX (congrArg Pr.aQ e)));have hq:=hqq;rw[decide_eq_false hX]at hq;simp only[ahV]at hq;clear hqq;clear ht1 ht2 hne hX;go_upto_region 11 with fail
      go_quiet (fail);go_wp2_with fail
      go_ret;exact⟨by rw[ej.out];rfl,after HB0.out (HW.out.gK _)⟩
    ·obtain rfl:k=n12:=by omega
     have he1:dr=cH:=by
      have e:=hsame.out;rw[aN (by have:=adr.out;omega),aN (by have:=adv.out;have:=E6.out;omega)]at e;exact e
     have Bg:=ae he1;have ag1:=HW;clear he1 hsame;go_upto_region 14 with fail
     clear px qx;go_loopw [7] (fun v wr=>∃k:Nat,k≤n13∧v=.int .i64 k∧ag (aW w1 wr)∧ag (eJ.take k=dw.take k)) (fun v _=>n13-(intOf v).toNat)
     case atStart=>exact⟨0,bj _,rfl,ag1,ae rfl⟩
     case round=>
      obtain⟨k,hk,rfl,HW,hsame⟩:=hrel;obtain⟨Yv,rfl⟩:=bw (wr:World);have px:=ai p7 HW.out;have qx:=ai q7 HW.out;by_cases hlt:k<n13
      ·have hkl:k<eJ.length:=by have:=adt.out;omega
       have hkm:k<dw.length:=by have:=adw.out;have:=E7.out;omega
       obtain⟨q1,o1,rfl,hc1⟩:=He1.out aR;obtain⟨q2,o2,rfl,hc2⟩:=He2.out (by have:=E7.out;omega);have ht1:=aC hkl;have ht2:=aC hkm;have hne:eJ[k]≠dw[k]→eJ≠dw:=fun h e=>h (by simp only[e])
       have d10:=ai (ai (hc1 _ _ (aD (cF) 4 (fun _=>rfl) (af hkl) (r:=0) rfl)) HB0.out) HW.out;have d11:=ai (ai (hc1 _ _ (aD (cF) 4 (fun _=>rfl) (af hkl) (r:=1) rfl)) HB0.out) HW.out;have d12:=ai (ai (hc1 _ _ (aD (cF) 4 (fun _=>rfl) (af hkl) (r:=2) rfl)) HB0.out) HW.out;have d13:=ai (ai (hc1 _ _ (aD (cF) 4 (fun _=>rfl) (af hkl) (r:=3) rfl)) HB0.out) HW.out;have lR:=ai (ai (hc2 _ _ (aD (cF) 4 (fun _=>rfl) (af hkm) (r:=0) rfl)) HB0.out) HW.out;have oI:=ai (ai (hc2 _ _ (aD (cF) 4 (fun _=>rfl) (af hkm) (r:=1) rfl)) HB0.out) HW.out;have oJ:=ai (ai (hc2 _ _ (aD (cF) 4 (fun _=>rfl) (af hkm) (r:=2) rfl)) HB0.out) HW.out;have tc:=ai (ai (hc2 _ _ (aD (cF) 4 (fun _=>rfl) (af hkm) (r:=3) rfl)) HB0.out) HW.out;have z0:(k:Int)<(n13:Int):=by omega
       have z1:(k:Int)<(n23:Int):=by have:=E7.out;omega
       have z2:(0:Int)≤(k:Int):=by omega
       generalize eJ[k]=U at ht1 hne d10 d11 d12 d13;generalize dw[k]=V at ht2 hne lR oI oJ tc;clear hc1 hc2 hkl hkm;have hqq:=fun W=>abH U V W
       obtain⟨⟨v1,hi1,lo1⟩,po1⟩:=U;obtain⟨⟨v2,hi2,lo2⟩,po2⟩:=V;unfold cF at hqq;simp only at hqq d10 d11 d12 d13 lR oI oJ tc;rw[cq]at d10 lR;rw[←jh]at d11 d12 d13 oI oJ tc;by_cases hX:((⟨v1,hi1,lo1⟩,po1):En)=(⟨v2,hi2,lo2⟩,po2)
       ·have Ly:ag (eJ.take (k+1)=dw.take (k+1)):=ae (by rw[ht1,ht2,hsame.out,hX]);have hq:=hqq;rw[decide_eq_true hX]at hq;simp only[ah9]at hq;clear hqq;clear ht1 ht2 hne hX;go_upto_region 16 with fail
        go_quiet (fail);go_wp2_with fail
        go_roundw
        case rel=>exact⟨k+1,by omega,by go_num,ae (HW.out.gK _),Ly⟩
        case measure=>simp[intOf];omega
       ·have ej:ag (R=false):=ae (by rw[HR.out];exact decide_eq_false (fun e=>hne hX (congrArg Pr.ends e)));have hq:=hqq;rw[decide_eq_false hX]at hq;simp only[ahV]at hq;clear hqq;clear ht1 ht2 hne hX;go_upto_region 16 with fail
        go_quiet (fail);go_wp2_with fail
        go_ret;exact⟨by rw[ej.out];rfl,after HB0.out (HW.out.gK _)⟩
      ·obtain rfl:k=n13:=by omega
       have he2:eJ=dw:=by
        have e:=hsame.out;rw[aN (by have:=adt.out;omega),aN (by have:=adw.out;have:=E7.out;omega)]at e;exact e
       have HE2:=ae he2;have ahD:=HW;clear he2 hsame;have ej:ag (R=true):=ae (by
        rw[HR.out];refine decide_eq_true ?_;rw[E0.out,E1.out,E2.out,HE0.out,Bg.out,E3.out,E4.out,HE2.out])
       go_wp2_with fail
       go_ret;exact⟨by rw[ej.out];rfl,after HB0.out HW.out⟩
def AtI(l:List Pr)(key:ByteArray)(z:Int):Prop:=(z= -1∧∀p∈l,p.key≠key)∨∃k:Nat,∃h:k<l.length,z=(k:Int)∧l[k].key=key
structure sK(w:World)(q o:Nat)(p:Pr)(A1:Option Addr)(c1:Nat)(A2:Option Addr)(c2:Nat)(A3:Option Addr)(c3:Nat):Prop where
 z0:w.cell? ⟨q,o,none⟩=some (.string p.key)
 z1:w.cell? ⟨q,o+1,none⟩=some (.string p.bu)
 z2:w.cell? ⟨q,o+2,none⟩=some (.string p.user)
 z3:w.cell? ⟨q,o+3,none⟩=some (.slice A1 p.tags.length c1)
 z4:w.cell? ⟨q,o+4,none⟩=some (.slice A2 p.aQ.length c2)
 z5:w.cell? ⟨q,o+5,none⟩=some (.int .u64 (p.exp:Int))
 z6:w.cell? ⟨q,o+6,none⟩=some (.int .u8 (p.bm:Int))
 z7:w.cell? ⟨q,o+7,none⟩=some (.slice A3 p.ends.length c3)
theorem sK.below{w w':World}{q o:Nat}{p:Pr}{A1:Option Addr}{c1:Nat}{A2:Option Addr}{c2:Nat}{A3:Option Addr}{c3:Nat}(h:sK w q o p A1 c1 A2 c2 A3 c3)(d:aW w w'):sK w' q o p A1 c1 A2 c2 A3 c3:=⟨ai h.z0 d,ai h.z1 d,ai h.z2 d,ai h.z3 d,ai h.z4 d,ai h.z5 d,ai h.z6 d,ai h.z7 d⟩
theorem LK{w:World}{v:Value}{l:List Pr}(h:df w v l):∃A cap,v=.slice A l.length cap∧(0<l.length→∃q o,A=some ⟨q,o,none⟩∧∀k p,l[k]? =some p→∃A1 c1 A2 c2 A3 c3,fc w ⟨p,.slice A1 p.tags.length c1,.slice A2 p.aQ.length c2,.slice A3 p.ends.length c3⟩∧sK w q (o+k*8) p A1 c1 A2 c2 A3 c3):=by
 obtain⟨xs,hx1,⟨A,cap,rfl,_,hA⟩,hx⟩:=h;subst hx1;refine⟨A,cap,by rw[ay],fun h0=>?_⟩;rw[ay]at h0;obtain⟨q,o,rfl,hc⟩:=hA h0;refine⟨q,o,rfl,fun k p hp=>?_⟩;rw[bO]at hp;obtain⟨X,hX,rfl⟩:=Option.map_eq_some_iff.1 hp;obtain⟨hk,rfl⟩:=List.getElem?_eq_some_iff.1 hX;clear hX hp;have hm:=hx _ (aZ hk);have g:∀(r:Nat)(u:Value),(bS.vals xs[k])[r]? =some u→w.cell? ⟨q,o+k*8+r,none⟩=some u:=fun r u hu=>by
  rw[jh];exact hc _ _ (aD bS.vals 8 aB (af hk) hu)
 generalize xs[k]=X at hm g;obtain⟨A1,c1,e1⟩:=hm.tags.shape;obtain⟨A2,c2,e2⟩:=hm.aQ.shape;obtain⟨A3,c3,e3⟩:=hm.ends.shape;obtain⟨p,tv,av,ev⟩:=X;simp only at e1 e2 e3;subst e1 e2 e3;exact⟨A1,c1,A2,c2,A3,c3,hm,g 0 _ rfl,g 1 _ rfl,g 2 _ rfl,g 3 _ rfl,g 4 _ rfl,g 5 _ rfl,g 6 _ rfl,g 7 _ rfl⟩
theorem aaK{w:World}{A:Option Addr}{n cap:Nat}{l:List Pr}(h:df w (.slice A n cap) l)(hn:0<n):∃q o,A=some ⟨q,o,none⟩∧∀k p,l[k]? =some p→∃A1 c1 A2 c2 A3 c3,fc w ⟨p,.slice A1 p.tags.length c1,.slice A2 p.aQ.length c2,.slice A3 p.ends.length c3⟩∧sK w q (o+k*8) p A1 c1 A2 c2 A3 c3:=by
 obtain⟨A9,ae0,e,h9⟩:=LK h;injection e with e1 e2 e3
 subst e1;exact h9 (by omega)
theorem aaL{w:World}{v:Value}{l:List Pr}(h:df w v l)(hl:l.length≤4000000)(key:ByteArray):Calls ah 13 #[v,.string key] w (fun r w'=>(∃z:Int,r=.returned (.int .i64 z)∧AtI l key z)∧aW w w'):=by
 obtain⟨A,cap,rfl,hA⟩:=LK h;obtain⟨N,hN⟩:=bw l.length;rw[←hN]at hl⊢;obtain⟨HA,HN⟩:=aL hA hN;clear hA hN h;go_enter Tryz.func13,Tryz.ntmps13;go_wp2_with fail
 go_loopw [5] (fun v5 wr=>∃k:Nat,k≤N∧v5=.int .i64 k∧ag (aW w wr)∧ag (∀j(hj:j<l.length),j<k→l[j].key≠key)) (fun v5 _=>N-(intOf v5).toNat)
 case atStart=>exact⟨0,bj _,rfl,ae (aI _ _),ae (fun j _ h=>absurd h (Nat.not_lt_zero j))⟩
 case round=>
  obtain⟨k,hk,rfl,HW,hall⟩:=hrel;obtain⟨wo,rfl⟩:=bw (wr:World);by_cases hlt:k<N
  case neg=>
   obtain rfl:k=N:=by omega
   go_wp2_with fail
   go_ret;refine⟨⟨_,rfl,Or.inl ⟨rfl,fun p hp=>?_⟩⟩,HW.out⟩;obtain⟨j,hj,rfl⟩:=List.mem_iff_getElem.1 hp;exact hall.out j hj (by rw[HN.out];exact hj)
  obtain⟨q,o,rfl,hc⟩:=HA.out (by have:=HN.out;omega);have hkl:k<l.length:=by have:=HN.out;omega
  obtain⟨A1,c1,A2,c2,A3,c3,hm,cs⟩:=hc k _ (af hkl);have d0:=ai cs.z0 HW.out;have HKl:=ae hkl;clear hc hm cs;by_cases hkey:l[k].key=key
  ·have q0:=ic hkey;have zX:=ae hkey;clear hkey;generalize l[k].key=K at d0 q0;clear hkl;go_wp2_with fail
   go_ret;exact⟨⟨_,rfl,Or.inr ⟨k,HKl.out,rfl,zX.out⟩⟩,HW.out⟩
  ·have q0:=gm hkey;have zX:ag (∀j(hj:j<l.length),j<k+1→l[j].key≠key):=ae (fun j hj h=>by
    rcases Nat.lt_succ_iff_lt_or_eq.1 h with h|rfl
    ·exact hall.out j hj h
    ·exact hkey)
   clear hkey;generalize l[k].key=K at d0 q0;clear hkl;go_wp2_with fail
   go_roundw
   case rel=>exact⟨k+1,by omega,by go_num,HW,zX⟩
   case measure=>simp[intOf];omega
theorem sM{w w':World}{v:Value}{n size D:Nat}{C:List Value}(k:Keeps (fun x=>x=D) w w')(h:a8 w v n size C)(hne:0<n→∀o,(∀i u,C[i]? =some u→w.cell? ⟨D,o+i,none⟩=some u)→False):a8 w' v n size C:=by
 obtain⟨A,cap,rfl,hl,hc⟩:=h;refine⟨A,cap,rfl,hl,fun hn=>?_⟩;obtain⟨g,o,rfl,hcc⟩:=hc hn;refine⟨g,o,rfl,fun j u hj=>bM (hcc j u hj) k ?_⟩;rintro rfl;exact hne hn o hcc
structure ZOk(Z:Array Value):Prop where
 s3:∀(o:Nat)(s0 s1 s2:ByteArray),Z[o]? =some (bN s0)→Z[o+1]? =some (bN s1)→Z[o+2]? =some (bN s2)→False
 s1:∀(o:Nat)(s:ByteArray),Z[o]? =some (bN s)→s.size=0
 b2:∀(o:Nat)(b:Bool)(n:Int),Z[o]? =some (Value.bool b)→Z[o+1]? =some (ahL .u64 n)→False
 u8:∀(o:Nat)(n:Int),Z[o]? =some (ahL .u8 n)→False
theorem adx:ZOk #[.int .u64 0,.int .u64 0,au,au,.bool false,au,.bool false,aG,aG]:=by
 refine⟨fun o=>?_,fun o=>?_,fun o=>?_,fun o=>?_⟩<;>(match o with|0=>(simp;try rfl)|1=>(simp;try rfl)|2=>(simp;try rfl)|3=>(simp;try rfl)|4=>(simp;try rfl)|5=>(simp;try rfl)|6=>(simp;try rfl)|7=>(simp;try rfl)|8=>(simp;try rfl)|o+9=>(simp;try rfl))
theorem Xi:ZOk #[.int .u64 0,au,au,aG]:=by
 refine⟨fun o=>?_,fun o=>?_,fun o=>?_,fun o=>?_⟩<;>(match o with|0=>(simp;try rfl)|1=>(simp;try rfl)|2=>(simp;try rfl)|3=>(simp;try rfl)|o+4=>(simp;try rfl))
section
variable{w w':World}{D:Nat}{Z:Array Value}{t:TypeId}
theorem Ia(hZ:aH w D t Z)(z:ZOk Z)(k:Keeps (fun x=>x=D) w w'){v:Value}{l:List ByteArray}(h:a8 w v l.length 1 (strCells l))(ht:∀s∈l,s.size≠0):a8 w' v l.length 1 (strCells l):=sM k h fun hn o hc=>by
 match l,hn,ht,hc with
 |s::r,_,ht,hc=>exact ht s (cJ ..) (z.s1 (o+0) s (by rw[←hZ.cell];exact hc 0 _ rfl))
theorem RX(hZ:aH w D t Z)(z:ZOk Z)(k:Keeps (fun x=>x=D) w w'){X:bS}(h:fc w X)(ht:∀s∈X.p.tags,s.size≠0):fc w' X:=by
 refine⟨Ia hZ z k h.tags ht,sM k h.aQ fun hn o hc=>?_,sM k h.ends fun hn o hc=>?_⟩
 ·match X.p.aQ,hn,hc with
  |a::r,_,hc=>exact z.b2 (o+0) a.v6 a.hi (by rw[←hZ.cell];exact hc 0 _ rfl) (by rw[←hZ.cell];exact hc 1 _ rfl)
 ·match X.p.ends,hn,hc with
  |a::r,_,hc=>exact z.b2 (o+0) a.1.v6 a.1.hi (by rw[←hZ.cell];exact hc 0 _ rfl) (by rw[←hZ.cell];exact hc 1 _ rfl)
theorem Ib(hZ:aH w D t Z)(z:ZOk Z)(k:Keeps (fun x=>x=D) w w'){v:Value}{l:List Pr}(h:df w v l)(ht:∀p∈l,∀s∈p.tags,s.size≠0):df w' v l:=by
 obtain⟨xs,rfl,h2,h3⟩:=h;refine⟨xs,rfl,sM k h2 fun hn o hc=>?_,fun X hX=>RX hZ z k (h3 X hX) (ht _ (dQ hX))⟩
 match xs,hn,hc with
 |X::r,_,hc=>exact z.s3 (o+0) X.p.key X.p.bu X.p.user (by rw[←hZ.cell];exact hc 0 _ rfl) (by rw[←hZ.cell];exact hc 1 _ rfl) (by rw[←hZ.cell];exact hc 2 _ rfl)
theorem Ic(hZ:aH w D t Z)(z:ZOk Z)(k:Keeps (fun x=>x=D) w w'){v:Value}{l:List Ry}(h:eG w v l):eG w' v l:=sM k h fun hn o hc=>by
 match l,hn,hc with
 |x::r,_,hc=>exact z.u8 (o+0) x.id (by rw[←hZ.cell];exact hc 0 _ rfl)
theorem Xj(hZ:aH w D t Z)(z:ZOk Z)(k:Keeps (fun x=>x=D) w w'){d:Dl}{sv gv rv:Value}(h:mK w d sv gv rv)(ht:∀p∈d.aM,∀s∈p.tags,s.size≠0)(hg:∀s∈d.gone,s.size≠0):mK w' d sv gv rv:=⟨Ib hZ z k h.aM ht,Ia hZ z k h.gone hg,Ic hZ z k h.aA⟩
end
end Go.Proofs.YtkjaajcpbldjoabGreatDoor
