/- Joined out of: DfB NlP PzF PzG NlB EqC. -/
import Derived.Test.YtkjaajcpbldjoaaGreatDoorKal
set_option linter.unusedVariables false
set_option linter.unusedSimpArgs false
set_option maxHeartbeats 16000000
set_option maxRecDepth 100000
open Bool renaming and_eq_true→aX
open Go.Lib renaming hid→ae
open Go.Proofs.Tryz renaming prog→ah,underlying4→kD,underlying27→abb,underlying23→ahV
open Go.RowKit renaming Hid→ag
open Go.RowKit.Below renaming refl→aM
open Go.Value renaming string→bM,slice→dq
open Go.World renaming ownsRow_nil→bg
open List renaming getElem?_eq_getElem→af,length_append→ai,length_map→ay,take_succ_eq_append_getElem→aB,range→aF,take_of_length_le→aJ,getElem_mem→a8,length_cons→bO,getElem?_map→bS,map_append→cH,append_nil→dP,mem_map_of_mem→eC,flatMap_cons→abe,map_singleton→ahC,filter_append→ahG,filter_nil→ahY
open Nat renaming le_trans→aw,le_refl→aA,zero_le→bh,add_zero→b8,add_assoc→ku
namespace Go.Proofs.YtkjaajcpbldjoaaGreatDoor
open Go.RowKit
attribute [local go_sem↓] Go.wp_at_zero Go.wp_at_succ
theorem jD{w:World}{g:Nat}{v0 v1 v2 v3 v4 v5 v6 v7 v8:Value}(h:aG w g 29 #[v0,v1,v2,v3,v4,v5,v6,v7,v8]):(loadVar 29 ⟨g,0,none⟩).run ah w=.ok (.agg #[v0,v1,v2,v3,v4,v5,v6,v7,v8]) w:=by
 have c0:=h.cell 0;have c1:=h.cell 1;have c2:=h.cell 2;have c3:=h.cell 3;have c4:=h.cell 4;have c5:=h.cell 5;have c6:=h.cell 6;have c7:=h.cell 7;have c8:=h.cell 8;simp at c0 c1 c2 c3 c4 c5 c6 c7 c8;simp[loadVar,go_sem,c0,c1,c2,c3,c4,c5,c6,c7,c8]
def aaw(w:World)(P:Nat)(v0 v1 v2 v3 v4 v5 v6 v7 v8:Value):World:=((((((((w.setCell ⟨P,0,none⟩ v0).setCell ⟨P,1,none⟩ v1).setCell ⟨P,2,none⟩ v2).setCell ⟨P,3,none⟩ v3).setCell ⟨P,4,none⟩ v4).setCell ⟨P,5,none⟩ v5).setCell ⟨P,6,none⟩ v6).setCell ⟨P,7,none⟩ v7).setCell ⟨P,8,none⟩ v8
theorem jV{w:World}{P:Nat}{z0 z1 z2 z3 z4 z5 z6 z7 z8:Value}(hP:aG w P 29 #[z0,z1,z2,z3,z4,z5,z6,z7,z8])(v0 v1 v2 v3 v4 v5 v6 v7 v8:Value):aG (aaw w P v0 v1 v2 v3 v4 v5 v6 v7 v8) P 29 #[v0,v1,v2,v3,v4,v5,v6,v7,v8]:=by
 have s1:aG _ P 29 #[v0,z1,z2,z3,z4,z5,z6,z7,z8]:=hP.aL 0 v0;have s2:aG _ P 29 #[v0,v1,z2,z3,z4,z5,z6,z7,z8]:=s1.aL 1 v1;have s3:aG _ P 29 #[v0,v1,v2,z3,z4,z5,z6,z7,z8]:=s2.aL 2 v2;have s4:aG _ P 29 #[v0,v1,v2,v3,z4,z5,z6,z7,z8]:=s3.aL 3 v3;have s5:aG _ P 29 #[v0,v1,v2,v3,v4,z5,z6,z7,z8]:=s4.aL 4 v4;have s6:aG _ P 29 #[v0,v1,v2,v3,v4,v5,z6,z7,z8]:=s5.aL 5 v5;have s7:aG _ P 29 #[v0,v1,v2,v3,v4,v5,v6,z7,z8]:=s6.aL 6 v6;have s8:aG _ P 29 #[v0,v1,v2,v3,v4,v5,v6,v7,z8]:=s7.aL 7 v7;have s9:aG _ P 29 #[v0,v1,v2,v3,v4,v5,v6,v7,v8]:=s8.aL 8 v8;exact s9
theorem pQ{Q:World→Prop}{P:Nat}(hq:∀u i x,Q u→Q (u.setCell ⟨P,i,none⟩ x)){W:World}(h:Q W)(v0 v1 v2 v3 v4 v5 v6 v7 v8:Value):Q (aaw W P v0 v1 v2 v3 v4 v5 v6 v7 v8):=hq _ _ _ (hq _ _ _ (hq _ _ _ (hq _ _ _ (hq _ _ _ (hq _ _ _ (hq _ _ _ (hq _ _ _ (hq _ _ _ h))))))))
theorem nj(w:World):kz w Dl.zero au au au:=⟨iN w,sJ w 1,dN w⟩
def WB(D:Dl)(e:Nat)(w:World)(r:Ending)(w':World):Prop:=(∃sv gv rv,r=.returned (.tuple #[.agg (fc D sv gv rv),.int .i64 e])∧kz w' D sv gv rv)∧aW w w'
structure Lp(m:Mp):Prop where
 sz:∀p∈m.aK,gm p
 pl:m.aK.length≤2000000
 rl:m.ax.length≤2000000
 ol:m.policy.size≤2000000
 ml:jv m=true→(uU m).length≤80000000
theorem aax{B:Nat}{a u:World}(_:Below B a u)(t:TypeId)(cs:Array Value):aG (u.alloc (.cells cs t)) u.heap.size t cs:=aG.new u t cs
theorem aay{B:Nat}{a u:World}(_:Below B a u)(o:Obj):aW u (u.alloc o):=boxed u o
theorem Re{w:World}(env:Env w)(ord:gd w){pa ra pb rb:Value}{a b:Mp}(ha:dJ w pa a.aK)(ra':fy w ra a.ax)(hb:dJ w pb b.aK)(rb':fy w rb b.ax)(fa:kM a)(fb:kM b)(sa:Lp a)(sb:Lp b):Calls ah 17 #[.agg #[.int .u64 (a.version:Int),pa,ra,.string a.policy],.agg #[.int .u64 (b.version:Int),pb,rb,.string b.policy]] w (WB (mV dm a b).1 (mV dm a b).2 w):=by
 have hma:=fun u(hu:aW w u)=>mX (env.below hu) (ha.below hu) (aY.below ra' hu) fa sa.sz (by have:=sa.pl;omega) (by have:=sa.rl;omega) sa.ol sa.ml
 have hmb:=fun u(hu:aW w u)=>mX (env.below hu) (hb.below hu) (aY.below rb' hu) fb sb.sz (by have:=sb.pl;omega) (by have:=sb.rl;omega) sb.ol sb.ml
 have hhb:=fun u(hu:aW w u)=>uj (env.below hu) (ord.below hu ord.lt) (hb.below hu) (aY.below rb' hu) fb sb.sz (by have:=sb.pl;omega) (by have:=sb.rl;omega) sb.ol sb.ml
 have heq:=fun u(hu:aW w u)=>G4 a.ax b.ax (by have:=sa.rl;omega) (by have:=sb.rl;omega) (aY.below ra' hu) (aY.below rb' hu)
 have hcl:=fun u(hu:aW w u)=>yk (aY.below rb' hu) sb.rl (sH _)
 have ac6:=fun u(hu:aW w u)key=>pN (ha.below hu) (by have:=sa.pl;omega) key
 have ac7:=fun u(hu:aW w u)key=>pN (hb.below hu) (by have:=sb.pl;omega) key
 have hRe:((cT a).2≠0→mV dm a b=(Dl.zero,(cT a).2))∧((cT a).2=0→(cT b).2≠0→mV dm a b=(Dl.zero,(cT b).2))∧((cT a).2=0→(cT b).2=0→b.version≤a.version→mV dm a b=(Dl.zero,2))∧((cT a).2=0→(cT b).2=0→¬b.version≤a.version→mV dm a b=(dX dm a b,0)):=by
  refine⟨fun h=>?_,fun h1 h=>?_,fun h1 h2 h=>?_,fun h1 h2 h=>?_⟩
  ·unfold mV;rw[if_pos h]
  ·unfold mV;rw[if_neg (by rw[h1];decide),if_pos h]
  ·unfold mV;rw[if_neg (by rw[h1];decide),if_neg (by rw[h2];decide),if_pos h]
  ·unfold mV;rw[if_neg (by rw[h1];decide),if_neg (by rw[h2];decide),if_neg h]
 have hRd:dX dm a b=⟨a.version,b.version,b.aK.filter (jJ a.aK),(a.aK.filter fun p=>(ox b.aK p.key).isNone).map (·.key),decide (a.ax≠b.ax),if a.ax≠b.ax then b.ax else [],decide (a.policy≠b.policy),if a.policy≠b.policy then b.policy else⟨#[]⟩,dm b⟩:=rfl;obtain⟨xs,hxl,hro,hxm⟩:=ha;obtain⟨ys,hyl,hqo,hym⟩:=hb;have szx:∀X∈xs,gm X.p:=fun X hX=>sa.sz _ (by rw[←hxl];exact eC hX)
 have szy:∀X∈ys,gm X.p:=fun X hX=>sb.sz _ (by rw[←hyl];exact eC hX)
 have lxa:xs.length=a.aK.length:=by rw[←hxl,ay]
 have lyb:ys.length=b.aK.length:=by rw[←hyl,ay]
 have lx:=sa.pl;have ly:=sb.pl;rw[←lxa]at lx;rw[←lyb]at ly;obtain⟨kU,ca1,rfl,_,hA⟩:=hro;obtain⟨DK,cb1,rfl,_,hBr⟩:=hqo;obtain⟨kV,ca2,rfl⟩:=aY.shape ra';obtain⟨DL,cb2,rfl⟩:=aY.shape rb';generalize mV dm a b=RR at hRe⊢;generalize dX dm a b=DD at hRe hRd;generalize dm b=HH at hhb hRd;generalize(cT a).2=ea at hma hRe;generalize(cT b).2=eb at hmb hRe;obtain⟨va,gG,fL,ta⟩:=a;obtain⟨vb,pR,jE,tb⟩:=b;simp only at*;obtain⟨ib,yP⟩:=bq xs.length;obtain⟨yQ,WC⟩:=bq ys.length;obtain⟨ic,zN⟩:=bq fL.length;obtain⟨mK,Rf⟩:=bq jE.length;rw[←yP,←zN]at hma;rw[←WC,←Rf]at hmb hhb;rw[←zN,←Rf]at heq;rw[←Rf]at hcl;rw[←yP]at ac6;rw[←WC]at ac7;rw[←yP]at hA lx⊢;rw[←WC]at hBr ly⊢;rw[←zN,←Rf];have bv1:=fa.version;have bv2:=fb.version;simp only at bv1 bv2;clear lxa lyb;obtain⟨Sj,It,HHb,HEq,HCl,ac8,ac9,Lq,j6,HA,QL,oO⟩:=oP hma hmb hhb heq hcl ac6 ac7 hRe hRd hA hBr hxm;obtain⟨HYm,VY,HYl,SzX,SzY,jq,kq,vF,HN4⟩:=SC hym hxl hyl szx szy yP WC zN Rf;clear hma hmb hhb heq hcl ac6 ac7 hRe hRd hA hBr hxm hym hxl hyl szx szy yP WC zN Rf env ord ra' rb' fa fb sa sb;obtain⟨HB1,mI⟩:=aN (boxed w (.cells #[.int .u64 va,.slice kU ib ca1,.slice kV ic ca2,.string ta] 26)) (aG.new w 26 #[.int .u64 va,.slice kU ib ca1,.slice kV ic ca2,.string ta]);have hb2:=boxed (w.alloc (.cells #[.int .u64 va,.slice kU ib ca1,.slice kV ic ca2,.string ta] 26)) (.cells #[.int .u64 vb,.slice DK yQ cb1,.slice DL mK cb2,.string tb] 26);have HB2:=aZ HB1 hb2;have HP2:=ae (bJ mI hb2);have hQ2:=aG.new (w.alloc (.cells #[.int .u64 va,.slice kU ib ca1,.slice kV ic ca2,.string ta] 26)) 26 #[.int .u64 vb,.slice DK yQ cb1,.slice DL mK cb2,.string tb];rw[show(w.alloc (.cells #[.int .u64 va,.slice kU ib ca1,.slice kV ic ca2,.string ta] 26)).heap.size=w.heap.size+1 by simp]at hQ2;have hb3:=boxed ((w.alloc (.cells #[.int .u64 va,.slice kU ib ca1,.slice kV ic ca2,.string ta] 26)).alloc (.cells #[.int .u64 vb,.slice DK yQ cb1,.slice DL mK cb2,.string tb] 26)) (.cells #[.int .u64 0,.int .u64 0,au,au,.bool false,au,.bool false,aI,aI] 29);have HB3:=aZ HB2 hb3;obtain⟨fU,yj⟩:=aN (bJ HP2 hb3) (hQ2.below hb3 hQ2.lt);have iP:=aG.new ((w.alloc (.cells #[.int .u64 va,.slice kU ib ca1,.slice kV ic ca2,.string ta] 26)).alloc (.cells #[.int .u64 vb,.slice DK yQ cb1,.slice DL mK cb2,.string tb] 26)) 29 #[.int .u64 0,.int .u64 0,au,au,.bool false,au,.bool false,aI,aI];rw[show((w.alloc (.cells #[.int .u64 va,.slice kU ib ca1,.slice kV ic ca2,.string ta] 26)).alloc (.cells #[.int .u64 vb,.slice DK yQ cb1,.slice DL mK cb2,.string tb] 26)).heap.size=w.heap.size+2 by simp]at iP;have HR3:=ae iP;have Dv:ag (w.heap.size+3≤(((w.alloc (.cells #[.int .u64 va,.slice kU ib ca1,.slice kV ic ca2,.string ta] 26)).alloc (.cells #[.int .u64 vb,.slice DK yQ cb1,.slice DL mK cb2,.string tb] 26)).alloc (.cells #[.int .u64 0,.int .u64 0,au,au,.bool false,au,.bool false,aI,aI] 29)).heap.size):=ae (by simp);clear hb2 hQ2 hb3 iP HB1 mI HB2 HP2;go_enter Tryz.func17,Tryz.ntmps17;go_upto_region 1 with fail
 generalize(((w.alloc (.cells #[.int .u64 va,.slice kU ib ca1,.slice kV ic ca2,.string ta] 26)).alloc (.cells #[.int .u64 vb,.slice DK yQ cb1,.slice DL mK cb2,.string tb] 26)).alloc (.cells #[.int .u64 0,.int .u64 0,au,au,.bool false,au,.bool false,aI,aI] 29))=w3 at HB3 fU yj HR3 Dv⊢;obtain⟨P,Q,R,M,eP,eQ,eR,eM⟩:∃P Q R M,P=w.heap.size∧Q=w.heap.size+1∧R=w.heap.size+2∧M=w.heap.size+3:=⟨_,_,_,_,rfl,rfl,rfl,rfl⟩;rw[←eP]at fU;rw[←eQ]at yj;rw[←eR]at HR3;rw[←eM]at Dv;rw[←eR,←eQ,←eP];have HPQ:ag (P<M∧Q<M∧R<M∧P≠R∧Q≠R∧w.heap.size≤R):=ae aQ;clear eP eQ eR eM;have a0:=fU.out.cell 0;have a1:=fU.out.cell 1;have a2:=fU.out.cell 2;have a3:=fU.out.cell 3;have b0:=yj.out.cell 0;have b4:=yj.out.cell 1;have b5:=yj.out.cell 2;have b6:=yj.out.cell 3;simp at a0 a1 a2 a3 b0 b4 b5 b6;go_upto_region 2 with fail
 go_loopw [18] (fun v18 wr=>∃k:Nat,k≤2∧v18=.int .i64 k∧ag (1≤k→ea=0)∧ag (2≤k→eb=0)∧ag (aW w wr)∧ag (aG wr P 26 #[.int .u64 va,.slice kU ib ca1,.slice kV ic ca2,.string ta])∧ag (aG wr Q 26 #[.int .u64 vb,.slice DK yQ cb1,.slice DL mK cb2,.string tb])∧ag (aG wr R 29 #[.int .u64 0,.int .u64 0,au,au,.bool false,au,.bool false,aI,aI])∧ag (M≤wr.heap.size)) (fun v18 _=>2-(intOf v18).toNat)
 case atStart=>exact⟨0,by omega,rfl,ae (fun h=>absurd h aH),ae (fun h=>absurd h aH),HB3,fU,yj,HR3,Dv⟩
 case round=>
  obtain⟨k,hk,rfl,hEa,hEb,Sm,kr,WE,Ym,HSw⟩:=hrel;clear HB3 fU yj HR3 Dv a0 a1 a2 a3 b0 b4 b5 b6;obtain⟨wo,rfl⟩:=bq (wr:World);have ix0:∀u:World,(Instr.index 98 (.agg #[.int .u64 va,.slice kU ib ca1,.slice kV ic ca2,.string ta,.int .u64 vb,.slice DK yQ cb1,.slice DL mK cb2,.string tb]) (.int .i64 0)).run ah u=.ok (.agg #[.int .u64 va,.slice kU ib ca1,.slice kV ic ca2,.string ta]) u:=fun u=>by kernel_rfl
  have ix1:∀u:World,(Instr.index 98 (.agg #[.int .u64 va,.slice kU ib ca1,.slice kV ic ca2,.string ta,.int .u64 vb,.slice DK yQ cb1,.slice DL mK cb2,.string tb]) (.int .i64 1)).run ah u=.ok (.agg #[.int .u64 vb,.slice DK yQ cb1,.slice DL mK cb2,.string tb]) u:=fun u=>by kernel_rfl
  match k,hk with
  |0,_=>
   obtain⟨NY,HXx,WG,HQx,Lr,HSx⟩:=mL (after Sm.out (boxed wo (.cells #[.int .u64 va,.slice kU ib ca1,.slice kV ic ca2,.string ta] 26))) (aG.new wo 26 #[.int .u64 va,.slice kU ib ca1,.slice kV ic ca2,.string ta]) (bJ kr (boxed wo (.cells #[.int .u64 va,.slice kU ib ca1,.slice kV ic ca2,.string ta] 26))) (bJ WE (boxed wo (.cells #[.int .u64 va,.slice kU ib ca1,.slice kV ic ca2,.string ta] 26))) (bJ Ym (boxed wo (.cells #[.int .u64 va,.slice kU ib ca1,.slice kV ic ca2,.string ta] 26))) (aw HSw.out (boxed wo (.cells #[.int .u64 va,.slice kU ib ca1,.slice kV ic ca2,.string ta] 26)).size);clear Sm kr WE Ym HSw;go_upto_region 4 with fail
   generalize wo.alloc (.cells #[.int .u64 va,.slice kU ib ca1,.slice kV ic ca2,.string ta] 26)=w4 at NY HXx WG HQx Lr HSx⊢;generalize wo.heap.size=X at HXx⊢;obtain⟨x0,x1,x2,x3⟩:=dV HXx;go_upto_region 5 with(go_at_call 22;refine(Sj.out _ NY.out).mono ?_;rintro r w5⟨rfl,d5⟩)
   have HBy:=aZ NY d5;obtain⟨HPy,HQy,IB,HSy⟩:=cY (bJ WG d5) (bJ HQx d5) (bJ Lr d5) (aw HSx.out d5.size);clear NY HXx WG HQx Lr HSx x0 x1 x2 x3 d5;by_cases hz:ea=0
   ·have q0:((ea:Int) !=0)=false:=by simp[hz]
    have hzH:=ae hz;clear hz;go_wp2_with fail
    go_roundw
    case rel=>exact⟨1,by omega,rfl,ae (fun _=>hzH.out),ae (fun h=>absurd h aH),HBy,HPy,HQy,IB,HSy⟩
    case measure=>simp[intOf]
   ·have q0:((ea:Int) !=0)=true:=by simp;omega
    have HF:=ae (Lq.out.1 hz);clear hz;obtain⟨r0,r1,r2,r3,r4,r5,r6,r7,r8⟩:=oR IB;have fr:=fun i=>IB.out.frozen i
    go_wp2_with fail
    have s9:=jV IB.out (.int .u64 0) (.int .u64 0) au au (.bool false) au (.bool false) aI aI;have q9:=pQ (P:=R) (Q:=fun u=>aW w u) (fun u i x hq=>hq.setCell (p:=⟨R,i,none⟩) HPQ.out.2.2.2.2.2 x) HBy.out (.int .u64 0) (.int .u64 0) au au (.bool false) au (.bool false) aI aI;refine bodyPost_ret (bD rfl rfl rfl (jD s9)) rfl ⟨⟨au,au,au,?_,?_⟩,q9⟩
    ·rw[HF.out];rfl
    ·rw[HF.out];exact nj _
  |1,_=>
   obtain⟨NY,HXx,WG,HQx,Lr,HSx⟩:=mL (after Sm.out (boxed wo (.cells #[.int .u64 vb,.slice DK yQ cb1,.slice DL mK cb2,.string tb] 26))) (aG.new wo 26 #[.int .u64 vb,.slice DK yQ cb1,.slice DL mK cb2,.string tb]) (bJ kr (boxed wo (.cells #[.int .u64 vb,.slice DK yQ cb1,.slice DL mK cb2,.string tb] 26))) (bJ WE (boxed wo (.cells #[.int .u64 vb,.slice DK yQ cb1,.slice DL mK cb2,.string tb] 26))) (bJ Ym (boxed wo (.cells #[.int .u64 vb,.slice DK yQ cb1,.slice DL mK cb2,.string tb] 26))) (aw HSw.out (boxed wo (.cells #[.int .u64 vb,.slice DK yQ cb1,.slice DL mK cb2,.string tb] 26)).size);clear Sm kr WE Ym HSw;go_upto_region 4 with fail
   generalize wo.alloc (.cells #[.int .u64 vb,.slice DK yQ cb1,.slice DL mK cb2,.string tb] 26)=w4 at NY HXx WG HQx Lr HSx⊢;generalize wo.heap.size=X at HXx⊢;obtain⟨x0,x1,x2,x3⟩:=dV HXx;go_upto_region 5 with(go_at_call 22;refine(It.out _ NY.out).mono ?_;rintro r w5⟨rfl,d5⟩)
   have HBy:=aZ NY d5;obtain⟨HPy,HQy,IB,HSy⟩:=cY (bJ WG d5) (bJ HQx d5) (bJ Lr d5) (aw HSx.out d5.size);clear NY HXx WG HQx Lr HSx x0 x1 x2 x3 d5;by_cases hz:eb=0
   ·have q0:((eb:Int) !=0)=false:=by simp[hz]
    have hzH:=ae hz;clear hz;go_wp2_with fail
    go_roundw
    case rel=>exact⟨2,by omega,rfl,ae (fun _=>hEa.out aH),ae (fun _=>hzH.out),HBy,HPy,HQy,IB,HSy⟩
    case measure=>simp[intOf]
   ·have q0:((eb:Int) !=0)=true:=by simp;omega
    have HF:=ae (Lq.out.2.1 (hEa.out aH) hz);clear hz;obtain⟨r0,r1,r2,r3,r4,r5,r6,r7,r8⟩:=oR IB;have fr:=fun i=>IB.out.frozen i
    go_wp2_with fail
    have s9:=jV IB.out (.int .u64 0) (.int .u64 0) au au (.bool false) au (.bool false) aI aI;have q9:=pQ (P:=R) (Q:=fun u=>aW w u) (fun u i x hq=>hq.setCell (p:=⟨R,i,none⟩) HPQ.out.2.2.2.2.2 x) HBy.out (.int .u64 0) (.int .u64 0) au au (.bool false) au (.bool false) aI aI;refine bodyPost_ret (bD rfl rfl rfl (jD s9)) rfl ⟨⟨au,au,au,?_,?_⟩,q9⟩
    ·rw[HF.out];rfl
    ·rw[HF.out];exact nj _
  |2,_=>
   have Ea:=ae (hEa.out aH);have Eb:=ae (hEb.out aH);clear hEa hEb ix0 ix1;have a0:=kr.out.cell 0;have b0:=WE.out.cell 0;have b4:=WE.out.cell 1;have b5:=WE.out.cell 2;have b6:=WE.out.cell 3;simp at a0 b0 b4 b5 b6;by_cases hv:vb≤va
   ·have q1:(vb:Int)≤(va:Int):=by omega
    have HF:=ae (Lq.out.2.2.1 Ea.out Eb.out hv);clear hv;obtain⟨r0,r1,r2,r3,r4,r5,r6,r7,r8⟩:=oR Ym;have fr:=fun i=>Ym.out.frozen i
    go_wp2_with fail
    have s9:=jV Ym.out (.int .u64 0) (.int .u64 0) au au (.bool false) au (.bool false) aI aI;have q9:=pQ (P:=R) (Q:=fun u=>aW w u) (fun u i x hq=>hq.setCell (p:=⟨R,i,none⟩) HPQ.out.2.2.2.2.2 x) Sm.out (.int .u64 0) (.int .u64 0) au au (.bool false) au (.bool false) aI aI;refine bodyPost_ret (bD rfl rfl rfl (jD s9)) rfl ⟨⟨au,au,au,?_,?_⟩,q9⟩
    ·rw[HF.out];rfl
    ·rw[HF.out];exact nj _
   have q1:¬(vb:Int)≤(va:Int):=by omega
   have HF:=ae (Lq.out.2.2.2 Ea.out Eb.out hv);clear hv;go_upto_region 10 with fail
   clear q1;go_cut [9]from 11 (fun v9 wx=>∃D:Nat,v9=.pointer (some ⟨D,0,none⟩)∧ag (wo.heap.size≤D)∧ag (aG wx D 29 #[.int .u64 va,.int .u64 vb,au,au,.bool false,au,.bool false,aI,.string HH])∧ag (aW wo wx))
   case first=>
    have E:=(aM wo.heap.size wo).drew;refine dW 8 (fun u=>u.cell? ⟨P,0,none⟩=some (.int .u64 va)∧u.cell? ⟨Q,0,none⟩=some (.int .u64 vb)∧u.cell? ⟨Q,1,none⟩=some (.slice DK yQ cb1)∧u.cell? ⟨Q,2,none⟩=some (.slice DL mK cb2)∧u.cell? ⟨Q,3,none⟩=some (.string tb)) bo (⟨a0,b0,b4,b5,b6⟩) (fun hHeld=>?_);refine dR 0 ?_
    refine dR 1 ?_
    refine dR 2 ?_
    refine dR 3 ?_
    refine dR 4 ?_
    refine rD (rs:=[5,7]) bo (by simp) ?_;refine fN.cons rfl (fun K hK=>?_) (fN.cons rfl (fun K hK=>?_) fN.nil)
    ·go_simp;refine(HHb.out _ (after Sm.out E)).mono ?_;rintro r w5⟨rfl,d⟩;try have HD:=ae (bJ HD d)
     have Ew:=E;have E:=after E d;clear d;try have z:=fun i=>HD.out.frozen i
     try have x0:=HD.out.cell 0
     try have x1:=HD.out.cell 1
     try have x2:=HD.out.cell 2
     try have x3:=HD.out.cell 3
     try have x4:=HD.out.cell 4
     try have x5:=HD.out.cell 5
     try have x6:=HD.out.cell 6
     try have x7:=HD.out.cell 7
     try have x8:=HD.out.cell 8
     try simp at x0 x1 x2 x3 x4 x5 x6 x7 x8
     refine hK.out _ _ (fun _=>⟨ak a0 E,ak b0 E,ak b4 E,ak b5 E,ak b6 E⟩) (fun hHeld=>?_);have hHeld:=hHeld aH;clear hK K;try simp only[cN]
     refine dR 6 ?_
     refine nA 7 fun K hK=>?_;go_simp;obtain⟨HDs,HD⟩:=aN E.size (aax E 29 #[.int .u64 0,.int .u64 0,au,au,.bool false,au,.bool false,aI,aI]);try(have HD:ag (aG _ wo.heap.size _ _):=HD)
     have Eo:=E;try have H1:=ae (aA w5.heap.size)
     have E:=after E (aay E (.cells #[.int .u64 0,.int .u64 0,au,au,.bool false,au,.bool false,aI,aI] 29));refine hK.out _ _ (fun _=>⟨ak a0 E,ak b0 E,ak b4 E,ak b5 E,ak b6 E⟩) (fun hHeld=>?_);have hHeld:=hHeld aH;clear hK K;try simp only[cN]
     refine nA 8 fun K hK=>?_;go_simp;refine hK.out _ _ (fun h=>absurd rfl h) (fun _=>?_);clear hK K hHeld;try simp only[cN]
     refine OC ?_;first
      |(have:=H1;obtain⟨f1,f2⟩:=aN (aax Eo 29 #[.int .u64 va,.int .u64 vb,au,au,.bool false,au,.bool false,aI,.string HH]) (after Eo (aay Eo (.cells #[.int .u64 va,.int .u64 vb,au,au,.bool false,au,.bool false,aI,.string HH] 29)));generalize w5.alloc (.cells #[.int .u64 va,.int .u64 vb,au,au,.bool false,au,.bool false,aI,.string HH] 29)=wf at f1 f2⊢)
      |(obtain⟨f1,f2⟩:=aN (jV HD.out (.int .u64 va) (.int .u64 vb) au au (.bool false) au (.bool false) aI (.string HH)) (pQ (P:=wo.heap.size) (Q:=fun u=>aW wo u) (fun u i x hq=>hq.setCell (p:=⟨_,i,none⟩) (aA _) x) E (.int .u64 va) (.int .u64 vb) au au (.bool false) au (.bool false) aI (.string HH));unfold aaw at f1 f2;generalize(((((((((w5.setCell ⟨wo.heap.size,0,none⟩ (.int .u64 va)).setCell ⟨wo.heap.size,1,none⟩ (.int .u64 vb)).setCell ⟨wo.heap.size,2,none⟩ au).setCell ⟨wo.heap.size,3,none⟩ au).setCell ⟨wo.heap.size,4,none⟩ (.bool false)).setCell ⟨wo.heap.size,5,none⟩ au).setCell ⟨wo.heap.size,6,none⟩ (.bool false)).setCell ⟨wo.heap.size,7,none⟩ aI).setCell ⟨wo.heap.size,8,none⟩ (.string HH))=wf at f1 f2⊢)
     clear Sj It HHb HEq HCl ac8 ac9 Lq j6 HA QL oO HYm VY HYl SzX SzY E Eo;go_wp2_with fail
     go_meet;exact⟨_,rfl,HDs,f1,f2⟩
    ·go_simp;obtain⟨HDs,HD⟩:=aN E.size (aax E 29 #[.int .u64 0,.int .u64 0,au,au,.bool false,au,.bool false,aI,aI]);try(have HD:ag (aG _ wo.heap.size _ _):=HD)
     have Eo:=E;try have H1:=ae (aA w5.heap.size)
     have E:=after E (aay E (.cells #[.int .u64 0,.int .u64 0,au,au,.bool false,au,.bool false,aI,aI] 29));refine hK.out _ _ (fun _=>⟨ak a0 E,ak b0 E,ak b4 E,ak b5 E,ak b6 E⟩) (fun hHeld=>?_);have hHeld:=hHeld aH;clear hK K;try simp only[cN]
     refine nA 5 fun K hK=>?_;go_simp;refine(HHb.out _ (after Sm.out E)).mono ?_;rintro r w5⟨rfl,d⟩;try have HD:=ae (bJ HD d)
     have Ew:=E;have E:=after E d;clear d;try have z:=fun i=>HD.out.frozen i
     try have x0:=HD.out.cell 0
     try have x1:=HD.out.cell 1
     try have x2:=HD.out.cell 2
     try have x3:=HD.out.cell 3
     try have x4:=HD.out.cell 4
     try have x5:=HD.out.cell 5
     try have x6:=HD.out.cell 6
     try have x7:=HD.out.cell 7
     try have x8:=HD.out.cell 8
     try simp at x0 x1 x2 x3 x4 x5 x6 x7 x8
     refine hK.out _ _ (fun _=>⟨ak a0 E,ak b0 E,ak b4 E,ak b5 E,ak b6 E⟩) (fun hHeld=>?_);have hHeld:=hHeld aH;clear hK K;try simp only[cN]
     refine dR 6 ?_
     refine nA 8 fun K hK=>?_;go_simp;refine hK.out _ _ (fun h=>absurd rfl h) (fun _=>?_);clear hK K hHeld;try simp only[cN]
     refine OC ?_;first
      |(have:=H1;obtain⟨f1,f2⟩:=aN (aax Eo 29 #[.int .u64 va,.int .u64 vb,au,au,.bool false,au,.bool false,aI,.string HH]) (after Eo (aay Eo (.cells #[.int .u64 va,.int .u64 vb,au,au,.bool false,au,.bool false,aI,.string HH] 29)));generalize w5.alloc (.cells #[.int .u64 va,.int .u64 vb,au,au,.bool false,au,.bool false,aI,.string HH] 29)=wf at f1 f2⊢)
      |(obtain⟨f1,f2⟩:=aN (jV HD.out (.int .u64 va) (.int .u64 vb) au au (.bool false) au (.bool false) aI (.string HH)) (pQ (P:=wo.heap.size) (Q:=fun u=>aW wo u) (fun u i x hq=>hq.setCell (p:=⟨_,i,none⟩) (aA _) x) E (.int .u64 va) (.int .u64 vb) au au (.bool false) au (.bool false) aI (.string HH));unfold aaw at f1 f2;generalize(((((((((w5.setCell ⟨wo.heap.size,0,none⟩ (.int .u64 va)).setCell ⟨wo.heap.size,1,none⟩ (.int .u64 vb)).setCell ⟨wo.heap.size,2,none⟩ au).setCell ⟨wo.heap.size,3,none⟩ au).setCell ⟨wo.heap.size,4,none⟩ (.bool false)).setCell ⟨wo.heap.size,5,none⟩ au).setCell ⟨wo.heap.size,6,none⟩ (.bool false)).setCell ⟨wo.heap.size,7,none⟩ aI).setCell ⟨wo.heap.size,8,none⟩ (.string HH))=wf at f1 f2⊢)
     clear Sj It HHb HEq HCl ac8 ac9 Lq j6 HA QL oO HYm VY HYl SzX SzY E Eo;go_wp2_with fail
     go_meet;exact⟨_,rfl,HDs,f1,f2⟩
   case rest=>
   obtain⟨D,rfl,hDs,hD0,hBc⟩:=hcut;obtain⟨wi,rfl⟩:=bq (wc:World);obtain⟨HPi,HQi,HRi,HBi⟩:=cY (bJ kr hBc.out) (bJ WE hBc.out) (bJ Ym hBc.out) (after Sm.out hBc.out);have HDn:ag (w.heap.size≤D∧P≠D∧Q≠D∧R≠D∧D<wi.heap.size):=ae ⟨aw Sm.out.size hDs.out,by have:=kr.out.lt;have:=hDs.out;omega,by have:=WE.out.lt;have:=hDs.out;omega,by have:=Ym.out.lt;have:=hDs.out;omega,hD0.out.lt⟩;clear kr WE Ym Sm HSw hDs hBc a0 b0 b4 b5 b6;obtain⟨-,b4⟩:=jL HQi;go_upto_region 12 with fail
   clear b4;go_loopw [44] (fun v44 wr=>∃(k:Nat)(A:Option Addr)(n c:Nat)(zs:List bU),k≤yQ∧v44=.int .i64 k∧n≤k∧ag (aG wr D 29 #[.int .u64 va,.int .u64 vb,.slice A n c,au,.bool false,au,.bool false,aI,.string HH])∧ag (wr.ownsRow wi.heap.size 50 8 (.slice A n c) n (cZ zs))∧ag (∀Y∈zs,di wr wi.heap.size Y)∧ag (zs.map (·.p)=((ys.take k).map (·.p)).filter (jJ gG))∧ag (zs.length=n)∧ag (Keeps (fun x=>x=D) wi wr)) (fun v44 _=>yQ-(intOf v44).toNat)
   case atStart=>exact⟨0,none,0,0,[],bh _,rfl,aA _,hD0,ae (bg _ _ _ _),ae (fun Y hY=>by cases hY),ae rfl,ae rfl,ae (Keeps.refl _ _)⟩
   case round=>
    obtain⟨k,A,n,c,zs,hk,rfl,hnk,hD,how,hzs,hmap,hzl,hK⟩:=hrel;obtain⟨Yn,rfl⟩:=bq (wr:World);clear hD0;have uk:=ae (HBi.out.trans (hK.out.below (fun x hx=>by rw[hx];exact HDn.out.1) HBi.out.size));by_cases hlt:k<yQ;rotate_left
    ·obtain rfl:yQ=k:=by omega
     have hset:cn Yn wi.heap.size (.slice A n c) (pR.filter (jJ gG)):=by
      have e:=hmap.out;rw[aJ (by rw[kq.out];exact aA _),HYl.out]at e;exact⟨zs,e,by rw[hzl.out];exact how.out,hzs.out⟩
     obtain⟨ada,HPj,HQj,HRj⟩:=cY hset (HPi.out.keep hK.out HDn.out.2.1) (HQi.out.keep hK.out HDn.out.2.2.1) (HRi.out.keep hK.out HDn.out.2.2.2.1);have HWj:ag (wi.heap.size≤Yn.heap.size∧R<wi.heap.size):=ae ⟨hK.out.size,HRi.out.lt⟩;clear hset hmap how hzs hzl hK HPi HQi HRi;obtain⟨-,a1⟩:=jL HPj;go_upto_region 19 with fail
     clear a1;obtain⟨wj,ewj⟩:=bq (Yn:World);rw[←ewj]at ada HPj HQj HRj HWj hD uk;rw[←ewj];clear ewj;go_loopw [76] (fun v76 wr=>∃(k:Nat)(A2:Option Addr)(n2 c2:Nat)(gl:List ByteArray),k≤ib∧v76=.int .i64 k∧n2≤k∧ag (aG wr D 29 #[.int .u64 va,.int .u64 vb,.slice A n c,.slice A2 n2 c2,.bool false,au,.bool false,aI,.string HH])∧ag (wr.ownsRow wj.heap.size 9 1 (.slice A2 n2 c2) n2 (strCells gl))∧ag (gl=(((xs.take k).map (·.p)).filter fun p=>(ox pR p.key).isNone).map (·.key))∧ag (gl.length=n2)∧ag (Keeps (fun x=>x=D) wj wr)) (fun v76 _=>ib-(intOf v76).toNat)
     case atStart=>exact⟨0,none,0,0,[],bh _,rfl,aA _,hD,ae (bg _ _ _ _),ae rfl,ae rfl,ae (Keeps.refl _ _)⟩
     case round=>
      obtain⟨k,A2,n2,c2,gl,hk2,rfl,aht,hD2,how,hgl,hgn,hK⟩:=hrel;obtain⟨wo3,rfl⟩:=bq (wr:World);clear hD;have vL:=ae (uk.out.trans (hK.out.below (fun x hx=>by rw[hx];exact HDn.out.1) uk.out.size));by_cases hlt:k<ib;rotate_left
      ·obtain rfl:ib=k:=by omega
       have hge:gl=(gG.filter fun p=>(ox pR p.key).isNone).map (·.key):=by
        have e:=hgl.out;rw[aJ (by rw[jq.out];exact aA _),VY.out]at e;exact e
       have HGe:=ae hge;have TS1:=ae (ada.out.above hK.out (fun x hx=>by rw[hx];exact HDn.out.2.2.2.2));obtain⟨TP1,TQ1,Yo⟩:=bu (HPj.out.keep hK.out HDn.out.2.1) (HQj.out.keep hK.out HDn.out.2.2.1) (HRj.out.keep hK.out HDn.out.2.2.2.1);have NZ:=vL;have TD1:=hD2;have TO1:=how;have Sr:ag (D<wj.heap.size∧R<wj.heap.size):=ae (by have:=HDn.out.2.2.2.2;have:=HWj.out;omega);clear hge hgl ada HPj HQj HRj vL hD2 how hK;have a2:=TP1.out.cell 2;have b2:=TQ1.out.cell 2;simp at a2 b2;obtain⟨E,hE⟩:=bq (decide (fL=jE));have adb:=ae HEq.out;rw[←hE]at adb;have HE:=ae hE;clear hE HEq;go_upto_region 25 with(go_at_call 56;refine(adb.out _ NZ.out).mono ?_;rintro r w5⟨rfl,d5⟩;obtain⟨TD2,TS2,TO2,Yp,Yq,N3⟩:=mL (bJ TD1 d5) (TS1.out.low d5) (own_below TO1.out d5) (bJ TP1 d5) (bJ TQ1 d5) (bJ Yo d5);have N4:=aZ NZ d5;obtain⟨-,-,-,-,t4⟩:=ID TD2;have fr:=fun i=>TD2.out.frozen i;clear d5)
       have Rh:ag (aG (w5.setCell ⟨D,4,none⟩ (.bool (!E))) D 29 #[.int .u64 va,.int .u64 vb,.slice A n c,.slice A2 n2 c2,.bool (!E),au,.bool false,aI,.string HH]):=ae (TD2.out.aL 4 _);obtain⟨TS3,TO3,DN,EA,Ls,DO⟩:=mL (TS2.out.far (k:=4) (u:=.bool (!E)) HDn.out.2.2.2.2) (aU (k:=4) (u:=.bool (!E)) TO2.out Sr.out.1) (Yp.out.far (p:=⟨D,4,none⟩) (HDn.out.2.1) (.bool (!E))) (Yq.out.far (p:=⟨D,4,none⟩) (HDn.out.2.2.1) (.bool (!E))) (N3.out.far (p:=⟨D,4,none⟩) (HDn.out.2.2.2.1) (.bool (!E))) (N4.out.setCell (p:=⟨D,4,none⟩) HDn.out.1 (.bool (!E)));clear TD2 TS2 TO2 Yp Yq N3 N4;generalize w5.setCell ⟨D,4,none⟩ (.bool (!E))=w6 at Rh TS3 TO3 DN EA Ls DO⊢;clear t4 fr a2 b2 TD1 TS1 TO1 TP1 TQ1 Yo NZ adb;obtain⟨-,-,-,-,t4⟩:=ID Rh;obtain⟨-,-,b2⟩:=jf EA;cases E with
       |true=>
        have Dt:ag (decide (fL≠jE)=false):=ae (by have:=HE.out;simp at this;simp[this]);have Eu:ag ((if fL≠jE then jE else [])=[]):=ae (by have:=HE.out;simp at this;simp[this]);simp only[Bool.not_true]at Rh t4⊢;go_upto_region 27 with fail
        clear t4 b2;have a3:=DN.out.cell 3;have b3:=EA.out.cell 3;have t6:=Rh.out.cell 6;simp at a3 b3 t6;have fr:=fun i=>Rh.out.frozen i
        by_cases ht:ta=tb
        ·have q1:=eX ht;have HTa:ag (decide (ta≠tb)=false):=ae (by simp[ht]);have HTb:ag ((if ta≠tb then tb else⟨#[]⟩)=⟨#[]⟩):=ae (by simp[ht]);clear ht;go_upto_region 28 with fail
         have nk:ag (aG (w6.setCell ⟨D,6,none⟩ (.bool false)) D 29 #[.int .u64 va,.int .u64 vb,.slice A n c,.slice A2 n2 c2,.bool false,au,.bool false,aI,.string HH]):=ae (Rh.out.aL 6 _);obtain⟨Ri,Rj,WH,Lt,qF,Rk⟩:=mL (TS3.out.far (k:=6) (u:=.bool false) HDn.out.2.2.2.2) (aU (k:=6) (u:=.bool false) TO3.out Sr.out.1) (DN.out.far (p:=⟨D,6,none⟩) (HDn.out.2.1) (.bool false)) (EA.out.far (p:=⟨D,6,none⟩) (HDn.out.2.2.1) (.bool false)) (Ls.out.far (p:=⟨D,6,none⟩) (HDn.out.2.2.2.1) (.bool false)) (DO.out.setCell (p:=⟨D,6,none⟩) HDn.out.1 (.bool false));clear Rh TS3 TO3 DN EA Ls DO;generalize w6.setCell ⟨D,6,none⟩ (.bool false)=wp at nk Ri Rj WH Lt qF Rk⊢;clear a3 b3 t6 fr q1;have t6:=nk.out.cell 6;have b3:=Lt.out.cell 3;have t7:=nk.out.cell 7;simp at t6 b3 t7;have fr:=fun i=>nk.out.frozen i
         go_upto_region 30 with fail
         clear t6 b3 t7 fr;have r0:=qF.out.cell 0;have t0:=nk.out.cell 0;have r1:=qF.out.cell 1;have t1:=nk.out.cell 1;have r2:=qF.out.cell 2;have t2:=nk.out.cell 2;have r3:=qF.out.cell 3;have t3:=nk.out.cell 3;have r4:=qF.out.cell 4;have t4:=nk.out.cell 4;have r5:=qF.out.cell 5;have t5:=nk.out.cell 5;have r6:=qF.out.cell 6;have t6:=nk.out.cell 6;have r7:=qF.out.cell 7;have t7:=nk.out.cell 7;have r8:=qF.out.cell 8;have t8:=nk.out.cell 8;simp at r0 t0 r1 t1 r2 t2 r3 t3 r4 t4 r5 t5 r6 t6 r7 t7 r8 t8;have fr:=fun i=>qF.out.frozen i
         go_wp2_with fail
         have s9:=jV qF.out (.int .u64 va) (.int .u64 vb) (.slice A n c) (.slice A2 n2 c2) (.bool false) au (.bool false) aI (.string HH);have oz:=pQ (P:=R) (Q:=fun u=>aW w u∧cn u wi.heap.size (.slice A n c) (pR.filter (jJ gG))∧u.ownsRow wj.heap.size 9 1 (.slice A2 n2 c2) n2 (strCells gl)) (fun u i x hq=>⟨hq.1.setCell (p:=⟨R,i,none⟩) HPQ.out.2.2.2.2.2 x,hq.2.1.far HWj.out.2,aU hq.2.2 Sr.out.2⟩) ⟨Rk.out,Ri.out,Rj.out⟩ (.int .u64 va) (.int .u64 vb) (.slice A n c) (.slice A2 n2 c2) (.bool false) au (.bool false) aI (.string HH);refine bodyPost_ret (bD rfl rfl rfl (jD s9)) rfl ⟨⟨.slice A n c,.slice A2 n2 c2,au,?_,?_⟩,oz.1⟩
         ·rw[HF.out,j6.out,Dt.out,Eu.out,HTa.out,HTb.out];rfl
         ·rw[HF.out,j6.out,Eu.out];refine⟨oz.2.1.rd,?_,?_⟩
          ·show aY _ _ (List.length _) 1 (strCells _);rw[←HGe.out,hgn.out];exact aY.dh oz.2.2
          ·exact dN _
        ·have q1:=fR ht;have HTa:ag (decide (ta≠tb)=true):=ae (by simp[ht]);have HTb:ag ((if ta≠tb then tb else⟨#[]⟩)=tb):=ae (by simp[ht]);clear ht;go_upto_region 28 with fail
         have nk:ag (aG (w6.setCell ⟨D,6,none⟩ (.bool true)) D 29 #[.int .u64 va,.int .u64 vb,.slice A n c,.slice A2 n2 c2,.bool false,au,.bool true,aI,.string HH]):=ae (Rh.out.aL 6 _);obtain⟨Ri,Rj,WH,Lt,qF,Rk⟩:=mL (TS3.out.far (k:=6) (u:=.bool true) HDn.out.2.2.2.2) (aU (k:=6) (u:=.bool true) TO3.out Sr.out.1) (DN.out.far (p:=⟨D,6,none⟩) (HDn.out.2.1) (.bool true)) (EA.out.far (p:=⟨D,6,none⟩) (HDn.out.2.2.1) (.bool true)) (Ls.out.far (p:=⟨D,6,none⟩) (HDn.out.2.2.2.1) (.bool true)) (DO.out.setCell (p:=⟨D,6,none⟩) HDn.out.1 (.bool true));clear Rh TS3 TO3 DN EA Ls DO;generalize w6.setCell ⟨D,6,none⟩ (.bool true)=wp at nk Ri Rj WH Lt qF Rk⊢;clear a3 b3 t6 fr q1;have t6:=nk.out.cell 6;have b3:=Lt.out.cell 3;have t7:=nk.out.cell 7;simp at t6 b3 t7;have fr:=fun i=>nk.out.frozen i
         go_upto_region 30 with fail
         have zO:ag (aG (wp.setCell ⟨D,7,none⟩ (.string tb)) D 29 #[.int .u64 va,.int .u64 vb,.slice A n c,.slice A2 n2 c2,.bool false,au,.bool true,.string tb,.string HH]):=ae (nk.out.aL 7 _);obtain⟨afl,afm,agK,agL,vM,afn⟩:=mL (Ri.out.far (k:=7) (u:=.string tb) HDn.out.2.2.2.2) (aU (k:=7) (u:=.string tb) Rj.out Sr.out.1) (WH.out.far (p:=⟨D,7,none⟩) (HDn.out.2.1) (.string tb)) (Lt.out.far (p:=⟨D,7,none⟩) (HDn.out.2.2.1) (.string tb)) (qF.out.far (p:=⟨D,7,none⟩) (HDn.out.2.2.2.1) (.string tb)) (Rk.out.setCell (p:=⟨D,7,none⟩) HDn.out.1 (.string tb));clear nk Ri Rj WH Lt qF Rk;generalize wp.setCell ⟨D,7,none⟩ (.string tb)=wq at zO afl afm agK agL vM afn⊢;clear t6 b3 t7 fr;have r0:=vM.out.cell 0;have t0:=zO.out.cell 0;have r1:=vM.out.cell 1;have t1:=zO.out.cell 1;have r2:=vM.out.cell 2;have t2:=zO.out.cell 2;have r3:=vM.out.cell 3;have t3:=zO.out.cell 3;have r4:=vM.out.cell 4;have t4:=zO.out.cell 4;have r5:=vM.out.cell 5;have t5:=zO.out.cell 5;have r6:=vM.out.cell 6;have t6:=zO.out.cell 6;have r7:=vM.out.cell 7;have t7:=zO.out.cell 7;have r8:=vM.out.cell 8;have t8:=zO.out.cell 8;simp at r0 t0 r1 t1 r2 t2 r3 t3 r4 t4 r5 t5 r6 t6 r7 t7 r8 t8;have fr:=fun i=>vM.out.frozen i
         go_wp2_with fail
         have s9:=jV vM.out (.int .u64 va) (.int .u64 vb) (.slice A n c) (.slice A2 n2 c2) (.bool false) au (.bool true) (.string tb) (.string HH);have oz:=pQ (P:=R) (Q:=fun u=>aW w u∧cn u wi.heap.size (.slice A n c) (pR.filter (jJ gG))∧u.ownsRow wj.heap.size 9 1 (.slice A2 n2 c2) n2 (strCells gl)) (fun u i x hq=>⟨hq.1.setCell (p:=⟨R,i,none⟩) HPQ.out.2.2.2.2.2 x,hq.2.1.far HWj.out.2,aU hq.2.2 Sr.out.2⟩) ⟨afn.out,afl.out,afm.out⟩ (.int .u64 va) (.int .u64 vb) (.slice A n c) (.slice A2 n2 c2) (.bool false) au (.bool true) (.string tb) (.string HH);refine bodyPost_ret (bD rfl rfl rfl (jD s9)) rfl ⟨⟨.slice A n c,.slice A2 n2 c2,au,?_,?_⟩,oz.1⟩
         ·rw[HF.out,j6.out,Dt.out,Eu.out,HTa.out,HTb.out];rfl
         ·rw[HF.out,j6.out,Eu.out];refine⟨oz.2.1.rd,?_,?_⟩
          ·show aY _ _ (List.length _) 1 (strCells _);rw[←HGe.out,hgn.out];exact aY.dh oz.2.2
          ·exact dN _
       |false=>
        have Dt:ag (decide (fL≠jE)=true):=ae (by have:=HE.out;simp at this;simp[this]);have Eu:ag ((if fL≠jE then jE else [])=jE):=ae (by have:=HE.out;simp at this;simp[this]);simp only[Bool.not_false]at Rh t4⊢;have WI:=HCl.out w6 DO.out;unfold uT at WI;have WI:=ae WI;go_upto_region 27 with(go_at_call 57;refine WI.out.mono ?_;rintro r w7⟨⟨A9,c9,rfl,ho9⟩,d7⟩;obtain⟨TD4,TS4,TO4,Yr,TQ4,TR4⟩:=mL (bJ Rh d7) (TS3.out.low d7) (own_below TO3.out d7) (bJ DN d7) (bJ EA d7) (bJ Ls d7);have TB4:=aZ DO d7;have TL4:=ae ho9;have HD6:ag (D<w6.heap.size∧R<w6.heap.size):=ae ⟨Rh.out.lt,Ls.out.lt⟩;obtain⟨-,-,-,-,-,t5⟩:=wZ TD4;have fr:=fun i=>TD4.out.frozen i;clear d7 ho9)
        have Ys:ag (aG (w7.setCell ⟨D,5,none⟩ (.slice A9 mK c9)) D 29 #[.int .u64 va,.int .u64 vb,.slice A n c,.slice A2 n2 c2,.bool true,.slice A9 mK c9,.bool false,aI,.string HH]):=ae (TD4.out.aL 5 _);obtain⟨TS5,TO5,IC,Lu,TR5,Ss,TL5⟩:=mM (TS4.out.far (k:=5) (u:=.slice A9 mK c9) HDn.out.2.2.2.2) (aU (k:=5) (u:=.slice A9 mK c9) TO4.out Sr.out.1) (Yr.out.far (p:=⟨D,5,none⟩) (HDn.out.2.1) (.slice A9 mK c9)) (TQ4.out.far (p:=⟨D,5,none⟩) (HDn.out.2.2.1) (.slice A9 mK c9)) (TR4.out.far (p:=⟨D,5,none⟩) (HDn.out.2.2.2.1) (.slice A9 mK c9)) (TB4.out.setCell (p:=⟨D,5,none⟩) HDn.out.1 (.slice A9 mK c9)) (aU (k:=5) (u:=.slice A9 mK c9) TL4.out HD6.out.1);clear TD4 TS4 TO4 Yr TQ4 TR4 TB4 TL4;generalize w7.setCell ⟨D,5,none⟩ (.slice A9 mK c9)=w8 at Ys TS5 TO5 IC Lu TR5 Ss TL5⊢;clear t5 fr t4 b2 Rh TS3 TO3 DN EA Ls DO WI;have a3:=IC.out.cell 3;have b3:=Lu.out.cell 3;have t6:=Ys.out.cell 6;simp at a3 b3 t6;have fr:=fun i=>Ys.out.frozen i
        by_cases ht:ta=tb
        ·have q1:=eX ht;have HTa:ag (decide (ta≠tb)=false):=ae (by simp[ht]);have HTb:ag ((if ta≠tb then tb else⟨#[]⟩)=⟨#[]⟩):=ae (by simp[ht]);clear ht;go_upto_region 28 with fail
         have nn:ag (aG (w8.setCell ⟨D,6,none⟩ (.bool false)) D 29 #[.int .u64 va,.int .u64 vb,.slice A n c,.slice A2 n2 c2,.bool true,.slice A9 mK c9,.bool false,aI,.string HH]):=ae (Ys.out.aL 6 _);obtain⟨Rm,Rn,WJ,Lx,qG,Ro,Rq⟩:=mM (TS5.out.far (k:=6) (u:=.bool false) HDn.out.2.2.2.2) (aU (k:=6) (u:=.bool false) TO5.out Sr.out.1) (IC.out.far (p:=⟨D,6,none⟩) (HDn.out.2.1) (.bool false)) (Lu.out.far (p:=⟨D,6,none⟩) (HDn.out.2.2.1) (.bool false)) (TR5.out.far (p:=⟨D,6,none⟩) (HDn.out.2.2.2.1) (.bool false)) (Ss.out.setCell (p:=⟨D,6,none⟩) HDn.out.1 (.bool false)) (aU (k:=6) (u:=.bool false) TL5.out HD6.out.1);clear Ys TS5 TO5 IC Lu TR5 Ss TL5;generalize w8.setCell ⟨D,6,none⟩ (.bool false)=wp at nn Rm Rn WJ Lx qG Ro Rq⊢;clear a3 b3 t6 fr q1;have t6:=nn.out.cell 6;have b3:=Lx.out.cell 3;have t7:=nn.out.cell 7;simp at t6 b3 t7;have fr:=fun i=>nn.out.frozen i
         go_upto_region 30 with fail
         clear t6 b3 t7 fr;have r0:=qG.out.cell 0;have t0:=nn.out.cell 0;have r1:=qG.out.cell 1;have t1:=nn.out.cell 1;have r2:=qG.out.cell 2;have t2:=nn.out.cell 2;have r3:=qG.out.cell 3;have t3:=nn.out.cell 3;have r4:=qG.out.cell 4;have t4:=nn.out.cell 4;have r5:=qG.out.cell 5;have t5:=nn.out.cell 5;have r6:=qG.out.cell 6;have t6:=nn.out.cell 6;have r7:=qG.out.cell 7;have t7:=nn.out.cell 7;have r8:=qG.out.cell 8;have t8:=nn.out.cell 8;simp at r0 t0 r1 t1 r2 t2 r3 t3 r4 t4 r5 t5 r6 t6 r7 t7 r8 t8;have fr:=fun i=>qG.out.frozen i
         go_wp2_with fail
         have s9:=jV qG.out (.int .u64 va) (.int .u64 vb) (.slice A n c) (.slice A2 n2 c2) (.bool true) (.slice A9 mK c9) (.bool false) aI (.string HH);have oz:=pQ (P:=R) (Q:=fun u=>aW w u∧cn u wi.heap.size (.slice A n c) (pR.filter (jJ gG))∧u.ownsRow wj.heap.size 9 1 (.slice A2 n2 c2) n2 (strCells gl)∧u.ownsRow w6.heap.size 57 6 (.slice A9 mK c9) mK (dQ jE)) (fun u i x hq=>⟨hq.1.setCell (p:=⟨R,i,none⟩) HPQ.out.2.2.2.2.2 x,hq.2.1.far HWj.out.2,aU hq.2.2.1 Sr.out.2,aU hq.2.2.2 HD6.out.2⟩) ⟨Ro.out,Rm.out,Rn.out,Rq.out⟩ (.int .u64 va) (.int .u64 vb) (.slice A n c) (.slice A2 n2 c2) (.bool true) (.slice A9 mK c9) (.bool false) aI (.string HH);refine bodyPost_ret (bD rfl rfl rfl (jD s9)) rfl ⟨⟨.slice A n c,.slice A2 n2 c2,.slice A9 mK c9,?_,?_⟩,oz.1⟩
         ·rw[HF.out,j6.out,Dt.out,Eu.out,HTa.out,HTb.out];rfl
         ·rw[HF.out,j6.out,Eu.out];refine⟨oz.2.1.rd,?_,?_⟩
          ·show aY _ _ (List.length _) 1 (strCells _);rw[←HGe.out,hgn.out];exact aY.dh oz.2.2.1
          ·show aY _ _ (List.length _) 6 _;rw[←HN4.out];exact aY.dh oz.2.2.2
        ·have q1:=fR ht;have HTa:ag (decide (ta≠tb)=true):=ae (by simp[ht]);have HTb:ag ((if ta≠tb then tb else⟨#[]⟩)=tb):=ae (by simp[ht]);clear ht;go_upto_region 28 with fail
         have nn:ag (aG (w8.setCell ⟨D,6,none⟩ (.bool true)) D 29 #[.int .u64 va,.int .u64 vb,.slice A n c,.slice A2 n2 c2,.bool true,.slice A9 mK c9,.bool true,aI,.string HH]):=ae (Ys.out.aL 6 _);obtain⟨Rm,Rn,WJ,Lx,qG,Ro,Rq⟩:=mM (TS5.out.far (k:=6) (u:=.bool true) HDn.out.2.2.2.2) (aU (k:=6) (u:=.bool true) TO5.out Sr.out.1) (IC.out.far (p:=⟨D,6,none⟩) (HDn.out.2.1) (.bool true)) (Lu.out.far (p:=⟨D,6,none⟩) (HDn.out.2.2.1) (.bool true)) (TR5.out.far (p:=⟨D,6,none⟩) (HDn.out.2.2.2.1) (.bool true)) (Ss.out.setCell (p:=⟨D,6,none⟩) HDn.out.1 (.bool true)) (aU (k:=6) (u:=.bool true) TL5.out HD6.out.1);clear Ys TS5 TO5 IC Lu TR5 Ss TL5;generalize w8.setCell ⟨D,6,none⟩ (.bool true)=wp at nn Rm Rn WJ Lx qG Ro Rq⊢;clear a3 b3 t6 fr q1;have t6:=nn.out.cell 6;have b3:=Lx.out.cell 3;have t7:=nn.out.cell 7;simp at t6 b3 t7;have fr:=fun i=>nn.out.frozen i
         go_upto_region 30 with fail
         have zP:ag (aG (wp.setCell ⟨D,7,none⟩ (.string tb)) D 29 #[.int .u64 va,.int .u64 vb,.slice A n c,.slice A2 n2 c2,.bool true,.slice A9 mK c9,.bool true,.string tb,.string HH]):=ae (nn.out.aL 7 _);obtain⟨afo,afp,agM,agN,vN,afq,afr⟩:=mM (Rm.out.far (k:=7) (u:=.string tb) HDn.out.2.2.2.2) (aU (k:=7) (u:=.string tb) Rn.out Sr.out.1) (WJ.out.far (p:=⟨D,7,none⟩) (HDn.out.2.1) (.string tb)) (Lx.out.far (p:=⟨D,7,none⟩) (HDn.out.2.2.1) (.string tb)) (qG.out.far (p:=⟨D,7,none⟩) (HDn.out.2.2.2.1) (.string tb)) (Ro.out.setCell (p:=⟨D,7,none⟩) HDn.out.1 (.string tb)) (aU (k:=7) (u:=.string tb) Rq.out HD6.out.1);clear nn Rm Rn WJ Lx qG Ro Rq;generalize wp.setCell ⟨D,7,none⟩ (.string tb)=wq at zP afo afp agM agN vN afq afr⊢;clear t6 b3 t7 fr;have r0:=vN.out.cell 0;have t0:=zP.out.cell 0;have r1:=vN.out.cell 1;have t1:=zP.out.cell 1;have r2:=vN.out.cell 2;have t2:=zP.out.cell 2;have r3:=vN.out.cell 3;have t3:=zP.out.cell 3;have r4:=vN.out.cell 4;have t4:=zP.out.cell 4;have r5:=vN.out.cell 5;have t5:=zP.out.cell 5;have r6:=vN.out.cell 6;have t6:=zP.out.cell 6;have r7:=vN.out.cell 7;have t7:=zP.out.cell 7;have r8:=vN.out.cell 8;have t8:=zP.out.cell 8;simp at r0 t0 r1 t1 r2 t2 r3 t3 r4 t4 r5 t5 r6 t6 r7 t7 r8 t8;have fr:=fun i=>vN.out.frozen i
         go_wp2_with fail
         have s9:=jV vN.out (.int .u64 va) (.int .u64 vb) (.slice A n c) (.slice A2 n2 c2) (.bool true) (.slice A9 mK c9) (.bool true) (.string tb) (.string HH);have oz:=pQ (P:=R) (Q:=fun u=>aW w u∧cn u wi.heap.size (.slice A n c) (pR.filter (jJ gG))∧u.ownsRow wj.heap.size 9 1 (.slice A2 n2 c2) n2 (strCells gl)∧u.ownsRow w6.heap.size 57 6 (.slice A9 mK c9) mK (dQ jE)) (fun u i x hq=>⟨hq.1.setCell (p:=⟨R,i,none⟩) HPQ.out.2.2.2.2.2 x,hq.2.1.far HWj.out.2,aU hq.2.2.1 Sr.out.2,aU hq.2.2.2 HD6.out.2⟩) ⟨afq.out,afo.out,afp.out,afr.out⟩ (.int .u64 va) (.int .u64 vb) (.slice A n c) (.slice A2 n2 c2) (.bool true) (.slice A9 mK c9) (.bool true) (.string tb) (.string HH);refine bodyPost_ret (bD rfl rfl rfl (jD s9)) rfl ⟨⟨.slice A n c,.slice A2 n2 c2,.slice A9 mK c9,?_,?_⟩,oz.1⟩
         ·rw[HF.out,j6.out,Dt.out,Eu.out,HTa.out,HTb.out];rfl
         ·rw[HF.out,j6.out,Eu.out];refine⟨oz.2.1.rd,?_,?_⟩
          ·show aY _ _ (List.length _) 1 (strCells _);rw[←HGe.out,hgn.out];exact aY.dh oz.2.2.1
          ·show aY _ _ (List.length _) 6 _;rw[←HN4.out];exact aY.dh oz.2.2.2
      have hkl:k<xs.length:=by have:=jq.out;omega
      have htn:=wP (af hkl);obtain⟨q2,o2,rfl,hc1⟩:=HA.out aQ;have g10:=aD bU.vals 8 aC (af hkl) (r:=0) rfl;have g11:=aD bU.vals 8 aC (af hkl) (r:=1) rfl;have g12:=aD bU.vals 8 aC (af hkl) (r:=2) rfl;have g13:=aD bU.vals 8 aC (af hkl) (r:=3) rfl;have g14:=aD bU.vals 8 aC (af hkl) (r:=4) rfl;have g15:=aD bU.vals 8 aC (af hkl) (r:=5) rfl;have g16:=aD bU.vals 8 aC (af hkl) (r:=6) rfl;have g17:=aD bU.vals 8 aC (af hkl) (r:=7) rfl;have d10:=ak (hc1 _ _ g10) vL.out;have d11:=ak (hc1 _ _ g11) vL.out;have d12:=ak (hc1 _ _ g12) vL.out;have d13:=ak (hc1 _ _ g13) vL.out;have ji:=ak (hc1 _ _ g14) vL.out;have mE:=ak (hc1 _ _ g15) vL.out;have jF:=ak (hc1 _ _ g16) vL.out;have ny:=ak (hc1 _ _ g17) vL.out;clear hc1 g10 g11 g12 g13 g14 g15 g16 g17;have htm:(xs.take (k+1)).map (·.p)=(xs.take k).map (·.p)++[xs[k].p]:=by rw[htn,cH,ahC]
      clear htn;have hm1:=oO.out _ (a8 hkl);generalize xs[k]=X at htm hm1 d10 d11 d12 d13 ji mE jF ny;obtain⟨fA,c11,e11⟩:=hm1.tags.shape;obtain⟨ft,c12,e12⟩:=hm1.aR.shape;obtain⟨ig,c13,e13⟩:=hm1.ends.shape;clear hm1;obtain⟨p1,hp1⟩:=bq X.p;rw[←hp1]at htm;have hkey:p1.key=X.p.key:=by rw[hp1]
      clear hp1;obtain⟨⟨key1,bG,cj,eF,dw,ik,bA,eV⟩,Yi,Yj,ev1⟩:=X;simp only at e11 e12 e13 hkey d10 d11 d12 d13 ji mE jF ny;subst e11 e12 e13;generalize eF.length=n11 at d13;generalize dw.length=n12 at ji;generalize eV.length=n13 at ny;rw[b8]at d10;rw[←ku]at d11 d12 d13 ji mE jF ny;obtain⟨HTm,Rr⟩:=aN htm hkey;clear htm hkey hkl;have hbx:=boxed wo3 (.cells #[.string key1,.string bG,.string cj,.slice fA n11 c11,.slice ft n12 c12,.int .u64 ik,.int .u8 bA,.slice ig n13 c13] 50);have LB1:=aZ vL hbx;obtain⟨LP1,LO1,LD1,LK1⟩:=cY (aG.new wo3 50 #[.string key1,.string bG,.string cj,.slice fA n11 c11,.slice ft n12 c12,.int .u64 ik,.int .u8 bA,.slice ig n13 c13]) (own_below how.out hbx) (bJ hD2 hbx) (hK.out.than hbx);have hM:=HQj.out.keep hK.out HDn.out.2.2.1;have LQ1:=ae (hM.below hbx hM.lt);clear hbx hM;go_upto_region 21 with fail
      generalize wo3.alloc (.cells #[.string key1,.string bG,.string cj,.slice fA n11 c11,.slice ft n12 c12,.int .u64 ik,.int .u8 bA,.slice ig n13 c13] 50)=w1 at LB1 LP1 LO1 LD1 LK1 LQ1⊢;generalize wo3.heap.size=G at LP1⊢;clear d10 d11 d12 d13 ji mE jF ny how hD2 hK vL;have x0:=LP1.out.cell 0;have m1:=LQ1.out.cell 1;simp at x0 m1;go_upto_if 85 with(go_at_call 53;refine(ac9.out _ LB1.out key1).mono ?_;rintro r w2⟨⟨z,rfl,hz⟩,d2⟩)
      have LB2:=aZ LB1 d2;obtain⟨LP2,LO2,LD2,LQ2,LK2⟩:=ej (bJ LP1 d2) (own_below LO1.out d2) (bJ LD1 d2) (bJ LQ1 d2) (LK1.out.than d2);clear LB1 LP1 LO1 LD1 LQ1 LK1;clear d2 x0 m1;rcases hz with⟨rfl,hn⟩|⟨j,hj,rfl,hs⟩
      ·have HNo:=ae hn;clear hn;obtain⟨j0,lD,hz0,hz1,hz2⟩:=info_parts wL;have x0:=LP2.out.cell 0;have m3:=LD2.out.cell 3;simp at x0 m3;go_wp2_with(at_builtin;refine wpList_append_own _ rfl _ _ 27 rfl wj.heap.size 9 j0 aI 1 16 abb lD hz0 hz1 hz2 rfl aH _ n2 _ rfl (LO2.out.alloc _) ⟨w2.heap.size,0,none⟩ 1 1 [.string key1] rfl rfl (cQ w2 [.string key1] 9) (by intro u hu;rw[List.mem_singleton.1 hu];rfl) (by unfold maxLen;omega) aQ (by have:=LK2.out.size;simp;omega) ?_;intro v' w6 ho6 hg6 hn6;obtain⟨A6,c6,rfl⟩:=aV ho6;have hbz:=boxed w2 (.cells ([.string key1]:List Value).toArray 9);have hown:∀q,(dq A2 n2 c2).ownBlock=some q→wj.heap.size≤q:=fun q hq=>(LO2.out.lt q hq).1;have hD6:=(bJ LD2 hbz).keep (Keeps.row hg6) (fun hq=>by have:=hown _ hq;have:=HDn.out.2.2.2.2;have:=HWj.out.1;omega);have tI:=ae (qo (LK2.out.than hbz) (Keeps.row hg6) (fun i hi hq=>by have:=hown _ hq;omega));obtain⟨HO6,HD6⟩:=aN ho6 hD6;have t3:=hD6.cell 3;simp at t3;have fr:=fun i=>hD6.frozen i;clear hbz hown hD6 ho6 hg6 hn6)
       have f1:aG (w6.setCell ⟨D,3,none⟩ (.slice A6 (n2+1) c6)) D 29 #[.int .u64 va,.int .u64 vb,.slice A n c,.slice A6 (n2+1) c6,.bool false,au,.bool false,aI,.string HH]:=HD6.out.aL 3 _;have f2:=aU (k:=3) (u:=.slice A6 (n2+1) c6) HO6.out (show D<wj.heap.size by have:=HDn.out.2.2.2.2;have:=HWj.out.1;omega);have f4:=tI.out.setCell (p:=⟨D,3,none⟩) (Or.inl rfl) (.slice A6 (n2+1) c6);go_roundw
       case rel=>exact⟨k+1,A6,n2+1,c6,gl++[key1],by omega,by go_num,by omega,ae f1,ae (by rw[show strCells (gl++[key1])=strCells gl++[.string key1] by simp[strCells]];exact f2),ae (by rw[HTm.out,ahG,List.filter_cons_of_pos (by rw[Rr.out,HNo.out];rfl),ahY,cH,←hgl.out,ahC,Rr.out]),ae (by rw[ai,hgn.out];rfl),ae f4⟩
       case measure=>simp[intOf];omega
      ·have HNo:=ae (show(ox pR key1).isNone=false by rw[hs];rfl);have q0:decide ((j:Int)<0)=false:=decide_eq_false aQ;have q0':¬(j:Int)<0:=by omega
       clear hs hj;go_wp2_with fail
       go_roundw
       case rel=>exact⟨k+1,A2,n2,c2,gl,by omega,by go_num,by omega,LD2,LO2,ae (by rw[HTm.out,ahG,List.filter_cons_of_neg (by rw[Rr.out,HNo.out];decide),ahY,dP];exact hgl.out),hgn,LK2⟩
       case measure=>simp[intOf];omega
    have hkl:k<ys.length:=by have:=kq.out;omega
    have htn:=wP (af hkl);obtain⟨q1,o1,rfl,hc1⟩:=QL.out aQ;have hm1:=HYm.out _ (a8 hkl);have hs1:=SzY.out _ (a8 hkl);have g10:=aD bU.vals 8 aC (af hkl) (r:=0) rfl;have g11:=aD bU.vals 8 aC (af hkl) (r:=1) rfl;have g12:=aD bU.vals 8 aC (af hkl) (r:=2) rfl;have g13:=aD bU.vals 8 aC (af hkl) (r:=3) rfl;have g14:=aD bU.vals 8 aC (af hkl) (r:=4) rfl;have g15:=aD bU.vals 8 aC (af hkl) (r:=5) rfl;have g16:=aD bU.vals 8 aC (af hkl) (r:=6) rfl;have g17:=aD bU.vals 8 aC (af hkl) (r:=7) rfl;have d10:=ak (hc1 _ _ g10) uk.out;have d11:=ak (hc1 _ _ g11) uk.out;have d12:=ak (hc1 _ _ g12) uk.out;have d13:=ak (hc1 _ _ g13) uk.out;have ji:=ak (hc1 _ _ g14) uk.out;have mE:=ak (hc1 _ _ g15) uk.out;have jF:=ak (hc1 _ _ g16) uk.out;have ny:=ak (hc1 _ _ g17) uk.out;clear hc1 g10 g11 g12 g13 g14 g15 g16 g17;generalize ys[k]=X at htn hm1 hs1 d10 d11 d12 d13 ji mE jF ny;have hcall:=fun u(hu:aW w u)=>ru (hm1.below hu) hs1
    have hsame:=fun j(hj:j<xs.length)u(hu:aW w u)=>sN ((oO.out _ (a8 hj)).below hu) (hm1.below hu) (SzX.out _ (a8 hj)) hs1
    have htm:(ys.take (k+1)).map (·.p)=(ys.take k).map (·.p)++[X.p]:=by rw[htn,cH,ahC]
    obtain⟨fA,c11,e11⟩:=hm1.tags.shape;obtain⟨ft,c12,e12⟩:=hm1.aR.shape;obtain⟨ig,c13,e13⟩:=hm1.ends.shape;clear hm1 hs1 htn;obtain⟨p1,hp1⟩:=bq X.p;obtain⟨XV,hXV⟩:=bq X.vals.toArray;unfold VV at hcall;rw[←hXV,←hp1]at hcall;simp only[←hXV,←hp1]at hsame;rw[←hp1]at htm;have hkey:p1.key=X.p.key:=by rw[hp1]
    clear hp1;obtain⟨⟨key1,bG,cj,eF,dw,ik,bA,eV⟩,Yi,Yj,ev1⟩:=X;simp only at e11 e12 e13 hkey d10 d11 d12 d13 ji mE jF ny;subst e11 e12 e13;unfold bU.vals at hXV;simp only at hXV;obtain⟨n11,yA⟩:=bq eF.length;obtain⟨n12,yB⟩:=bq dw.length;obtain⟨n13,yC⟩:=bq eV.length;rw[←yA,←yB,←yC]at hXV;subst hXV;rw[←yA]at d13;rw[←yB]at ji;rw[←yC]at ny;rw[b8]at d10;rw[←ku]at d11 d12 d13 ji mE jF ny;obtain⟨bI,HSame,HTm,Rr⟩:=cY hcall hsame htm hkey;have hq0:∀q,(dq A n c).ownBlock=some q→q<Yn.heap.size:=fun q hq=>(how.out.lt q hq).2
    have HQ0:=ae hq0;clear hcall hsame htm hkey hq0 hkl yA yB yC;have hbx:=boxed Yn (.cells #[.string key1,.string bG,.string cj,.slice fA n11 c11,.slice ft n12 c12,.int .u64 ik,.int .u8 bA,.slice ig n13 c13] 50);have KB1:=aZ uk hbx;obtain⟨Yb,KO1⟩:=aN (aG.new Yn 50 #[.string key1,.string bG,.string cj,.slice fA n11 c11,.slice ft n12 c12,.int .u64 ik,.int .u8 bA,.slice ig n13 c13]) (own_below how.out hbx);have KY1:ag (∀Y∈zs,di (Yn.alloc (.cells #[.string key1,.string bG,.string cj,.slice fA n11 c11,.slice ft n12 c12,.int .u64 ik,.int .u8 bA,.slice ig n13 c13] 50)) wi.heap.size Y):=ae (fun Y hY=>(hzs.out Y hY).low hbx);obtain⟨KD1,KK1⟩:=aN (bJ hD hbx) (hK.out.than hbx);have hM:=HPi.out.keep hK.out HDn.out.2.1;have KM1:=ae (hM.below hbx hM.lt);clear hbx hM;go_upto_region 14 with fail
    generalize Yn.alloc (.cells #[.string key1,.string bG,.string cj,.slice fA n11 c11,.slice ft n12 c12,.int .u64 ik,.int .u8 bA,.slice ig n13 c13] 50)=w1 at KB1 Yb KO1 KY1 KD1 KK1 KM1⊢;generalize Yn.heap.size=G at Yb HQ0⊢;clear d10 d11 d12 d13 ji mE jF ny how hzs hD hK uk;obtain⟨x0,x1,x2,x3,x4,x5,x6,x7⟩:=dA Yb;obtain⟨-,m1⟩:=jL KM1;go_upto_region 15 with(go_at_call 53;refine(ac8.out _ KB1.out key1).mono ?_;rintro r w2⟨⟨z,rfl,hz⟩,d2⟩)
    have Sv:=aZ KB1 d2;obtain⟨Cf,KO2⟩:=aN (bJ Yb d2) (own_below KO1.out d2);have KY2:ag (∀Y∈zs,di w2 wi.heap.size Y):=ae (fun Y hY=>(KY1.out Y hY).low d2);obtain⟨KD2,KM2,KK2⟩:=bu (bJ KD1 d2) (bJ KM1 d2) (KK1.out.than d2);clear KB1 Yb KO1 KY1 KD1 KM1 KK1;clear d2 x0 x1 x2 x3 x4 x5 x6 x7 m1;rcases hz with⟨rfl,hn⟩|⟨j,hj,rfl,hs⟩
    ·have iY:=ae (show jJ gG p1=true by unfold jJ;rw[Rr.out,hn]);clear hn;refine wp_region_held_drew (S:=(fun _=>True)) bo (trivial) (fun hHeld=>?_);refine bC 0 ?_
     refine bC 1 ?_
     refine bC 2 ?_
     refine Ie 3 ?_
     refine Ie 4 ?_
     refine Ie 5 ?_
     refine Ie 6 ?_
     refine Ie 7 ?_
     refine Ie 8 ?_
     refine Ie 9 ?_
     refine Ie 10 ?_
     refine bC 11 ?_
     refine qW ?_;go_upto_region 16 with fail
     have hdr:=(aM w2.heap.size w2).drew;have KB3:=aZ Sv hdr;obtain⟨MX,KO3⟩:=aN (bJ Cf hdr) (own_below KO2.out hdr);have KY3:ag (∀Y∈zs,di _ wi.heap.size Y):=ae (fun Y hY=>(KY2.out Y hY).low hdr);obtain⟨KD3,KM3,KK3⟩:=bu (bJ KD2 hdr) (bJ KM2 hdr) (KK2.out.than hdr);clear Sv Cf KO2 KY2 KD2 KM2 KK2;clear hdr;generalize w2.drew=w3 at KB3 MX KO3 KY3 KD3 KM3 KK3⊢;obtain⟨x0,x1,x2,x3,x4,x5,x6,x7⟩:=dA MX;obtain⟨-,-,s2⟩:=jf KD3;have hdr:=(aM w3.heap.size w3).drew;have KB4:=aZ KB3 hdr;obtain⟨zg,KO4⟩:=aN (bJ MX hdr) (own_below KO3.out hdr);have KY4:ag (∀Y∈zs,di _ wi.heap.size Y):=ae (fun Y hY=>(KY3.out Y hY).low hdr);obtain⟨KD4,KM4,KK4⟩:=bu (bJ KD3 hdr) (bJ KM3 hdr) (KK3.out.than hdr);clear hdr;obtain⟨j0,lD,hz0,hz1,hz2⟩:=info_parts nh;refine kf 7 (fun u=>u.cell? ⟨D,2,none⟩=some (.slice A n c)∧u.cell? ⟨G,0,none⟩=some (.string key1)∧u.cell? ⟨G,1,none⟩=some (.string bG)∧u.cell? ⟨G,2,none⟩=some (.string cj)∧u.cell? ⟨G,3,none⟩=some (.slice fA n11 c11)∧u.cell? ⟨G,4,none⟩=some (.slice ft n12 c12)∧u.cell? ⟨G,5,none⟩=some (.int .u64 ik)∧u.cell? ⟨G,6,none⟩=some (.int .u8 bA)∧u.cell? ⟨G,7,none⟩=some (.slice ig n13 c13)) bo (⟨s2,x0,x1,x2,x3,x4,x5,x6,x7⟩) (fun hHeld=>?_);refine vy 0 ?_
     refine vy 1 ?_
     refine vy 2 ?_
     refine vQ 3 fun K hK=>?_;go_simp;refine(bI.out _ KB4.out).mono ?_;rintro r w5⟨⟨⟨⟨key2,bB,ck,dx,cI,iR,bL,dy⟩,tv2,av2,ev2⟩,rfl,GI,pM⟩,d5⟩;obtain⟨iK,c21,e21⟩:=aV pM.tags;obtain⟨iL,iM,e22⟩:=aV pM.aR;obtain⟨kY,c23,e23⟩:=aV pM.ends;simp only at e21 e22 e23;subst e21 e22 e23;obtain⟨Nz,VM⟩:=aN (pM.mono KK4.out.size) GI;obtain⟨n21,nU⟩:=bq dx.length;obtain⟨n22,nV⟩:=bq cI.length;obtain⟨n23,nW⟩:=bq dy.length;unfold bU.vals;simp only;rw[←nU,←nV,←nW];obtain⟨Ih,HL2,HL3⟩:=bu nU nV nW;have KB5:=aZ KB4 d5;obtain⟨Il,KO5⟩:=aN (bJ zg d5) (own_below KO4.out d5);have KY5:ag (∀Y∈zs,di w5 wi.heap.size Y):=ae (fun Y hY=>(KY4.out Y hY).low d5);obtain⟨KD5,KM5,KK5⟩:=bu (bJ KD4 d5) (bJ KM4 d5) (KK4.out.than d5);clear nU nV nW pM GI;have hbz:=boxed w5 (.cells ([.string key2,.string bB,.string ck,.slice iK n21 c21,.slice iL n22 iM,.int .u64 iR,.int .u8 bL,.slice kY n23 c23]:List Value).toArray 50);have KB6:=aZ KB5 hbz;obtain⟨MU,KO6⟩:=aN (bJ Il hbz) (own_below KO5.out hbz);have KY6:ag (∀Y∈zs,di _ wi.heap.size Y):=ae (fun Y hY=>(KY5.out Y hY).low hbz);obtain⟨KD6,KM6,KK6⟩:=bu (bJ KD5 hbz) (bJ KM5 hbz) (KK5.out.than hbz);obtain⟨v',w7,hr',ho7,Ly,_⟩:=run_append_own (P:=ah) (w:=w5.alloc (.cells ([.string key2,.string bB,.string ck,.slice iK n21 c21,.slice iL n22 iM,.int .u64 iR,.int .u8 bL,.slice kY n23 c23]:List Value).toArray 50)) wi.heap.size 23 23 50 j0 (.agg #[aI,aI,aI,au,au,.int .u64 0,.int .u8 0,au]) 8 136 ahV lD hz0 hz1 hz2 rfl aH (.slice A n c) n (cZ zs) KO6.out ⟨w5.heap.size,0,none⟩ 1 1 [.string key2,.string bB,.string ck,.slice iK n21 c21,.slice iL n22 iM,.int .u64 iR,.int .u8 bL,.slice kY n23 c23] rfl (cQ w5 [.string key2,.string bB,.string ck,.slice iK n21 c21,.slice iL n22 iM,.int .u64 iR,.int .u8 bL,.slice kY n23 c23] 50) (by intro u hu;simp at hu;rcases hu with rfl|rfl|rfl|rfl|rfl|rfl|rfl|rfl<;>rfl) (by unfold maxLen;omega) aQ KK6.out.size;obtain⟨A7,c7,e7⟩:=aV ho7;subst e7;obtain⟨Fv,PX,Sl⟩:=bu hr' ho7 Ly;have hown:∀q,(dq A n c).ownBlock=some q→wi.heap.size≤q:=fun q hq=>(KO6.out.lt q hq).1
     have hown2:=HQ0.out;have hD7:=KD6.out.keep (Keeps.row Ly) (fun hq=>by have:=hown _ hq;have:=HDn.out.2.2.2.2;omega);have HD7:=ae hD7;have zf:=ae (qo KK6.out (Keeps.row Ly) (fun i hi hq=>by have:=hown _ hq;omega));have hoff:=cE KO6.out;have HY7:ag (∀Y∈zs,di w7 wi.heap.size Y):=ae (fun Y hY=>(KY6.out Y hY).keep (Keeps.row Ly) hoff aH aH aH);have HX7:=ae ((Nz.out.low hbz).keep (Keeps.row Ly) hoff aH aH aH);have tP:=MU.out.keep (Keeps.row Ly) (fun hq=>by have:=hown2 _ hq;omega);have y0:=tP.cell 0;have y1:=tP.cell 1;have y2:=tP.cell 2;have y3:=tP.cell 3;have y4:=tP.cell 4;have y5:=tP.cell 5;have y6:=tP.cell 6;have y7:=tP.cell 7;simp at y0 y1 y2 y3 y4 y5 y6 y7;have t2:=hD7.cell 2;simp at t2;have fr:=fun i=>hD7.frozen i
     clear hr' ho7 Ly hown hown2 hoff hD7 tP;refine hK.out _ _ (fun _=>⟨ak hHeld.1 d5,ak hHeld.2.1 d5,ak hHeld.2.2.1 d5,ak hHeld.2.2.2.1 d5,ak hHeld.2.2.2.2.1 d5,ak hHeld.2.2.2.2.2.1 d5,ak hHeld.2.2.2.2.2.2.1 d5,ak hHeld.2.2.2.2.2.2.2.1 d5,ak hHeld.2.2.2.2.2.2.2.2 d5⟩) (fun hHeld=>?_);have hHeld:=hHeld aH;clear hK K;try simp only[cN]
     refine vQ 4 fun K hK=>?_;go_simp;refine hK.out _ _ (fun _=>⟨ak hHeld.1 hbz,ak hHeld.2.1 hbz,ak hHeld.2.2.1 hbz,ak hHeld.2.2.2.1 hbz,ak hHeld.2.2.2.2.1 hbz,ak hHeld.2.2.2.2.2.1 hbz,ak hHeld.2.2.2.2.2.2.1 hbz,ak hHeld.2.2.2.2.2.2.2.1 hbz,ak hHeld.2.2.2.2.2.2.2.2 hbz⟩) (fun hHeld=>?_);have hHeld:=hHeld aH;clear hK K;try simp only[cN]
     refine vQ 5 fun K hK=>?_;refine kT rfl _ _ 23 23 rfl rfl rfl Fv.out ?_;refine hK.out _ _ (fun _=>⟨t2,y0,y1,y2,y3,y4,y5,y6,y7⟩) (fun hHeld=>?_);have hHeld:=hHeld aH;clear hK K;try simp only[cN]
     refine vy 6 ?_
     refine vQ 7 fun K hK=>?_;go_simp;refine hK.out _ _ (fun h=>absurd h aH) (fun _=>?_);clear hK K;try clear hHeld
     try simp only[cN]
     refine zdX ?_;have f1:aG (w7.setCell ⟨D,2,none⟩ (.slice A7 (n+1) c7)) D 29 #[.int .u64 va,.int .u64 vb,.slice A7 (n+1) c7,au,.bool false,au,.bool false,aI,.string HH]:=HD7.out.aL 2 _;have f2:=aU (k:=2) (u:=.slice A7 (n+1) c7) PX.out HDn.out.2.2.2.2;have f3:∀Y∈zs++[⟨⟨key2,bB,ck,dx,cI,iR,bL,dy⟩,.slice iK dx.length c21,.slice iL cI.length iM,.slice kY dy.length c23⟩],di (w7.setCell ⟨D,2,none⟩ (.slice A7 (n+1) c7)) wi.heap.size Y:=fun Y hY=>by
      rcases List.mem_append.1 hY with hY|hY
      ·have:=HY7.out Y hY;exact⟨aU this.tags HDn.out.2.2.2.2,aU this.aR HDn.out.2.2.2.2,aU this.ends HDn.out.2.2.2.2⟩
      ·rw[List.mem_singleton.1 hY];have:=HX7.out;exact⟨aU this.tags HDn.out.2.2.2.2,aU this.aR HDn.out.2.2.2.2,aU this.ends HDn.out.2.2.2.2⟩
     have f4:=zf.out.setCell (p:=⟨D,2,none⟩) (Or.inl rfl) (.slice A7 (n+1) c7);obtain⟨F1,F2,F3,F4⟩:=cY f1 f2 f3 f4;clear f1 f2 f3 f4 HD7 PX HY7 HX7 zf Sl Fv t2 fr y0 y1 y2 y3 y4 y5 y6 y7 x0 x1 x2 x3 x4 x5 x6 x7 s2;generalize w7.setCell ⟨D,2,none⟩ (.slice A7 (n+1) c7)=w8 at F1 F2 F3 F4⊢;go_wp2_with fail
     go_roundw
     case rel=>
      refine⟨k+1,A7,n+1,c7,zs++[⟨⟨key2,bB,ck,dx,cI,iR,bL,dy⟩,.slice iK dx.length c21,.slice iL cI.length iM,.slice kY dy.length c23⟩],by omega,by go_num,by omega,F1,ae ?_,F3,ae ?_,ae (by rw[ai,hzl.out];rfl),F4⟩
      ·rw[lB];unfold bU.vals;simp only;rw[←Ih.out,←HL2.out,←HL3.out];exact F2.out
      ·rw[HTm.out,cH,hmap.out,ahG,List.filter_cons_of_pos iY.out,ahY,ahC];rw[VM.out]
     case measure=>simp[intOf];omega
    ·have hj':j<xs.length:=by rw[←VY.out,ay]at hj;exact hj
     have hjn:j<ib:=by have:=jq.out;omega
     have hxp:xs[j].p=gG[j]:=by
      have:=VY.out;subst this;rw[List.getElem_map]
     obtain⟨B,hB⟩:=bq (decide (xs[j].p=p1));have UN:=ae (show jJ gG p1= !B by unfold jJ;rw[Rr.out,hs,hB,hxp];simp);obtain⟨qa,oa,rfl,hcA⟩:=HA.out aQ;have g20:=aD bU.vals 8 aC (af hj') (r:=0) rfl;have g21:=aD bU.vals 8 aC (af hj') (r:=1) rfl;have g22:=aD bU.vals 8 aC (af hj') (r:=2) rfl;have g23:=aD bU.vals 8 aC (af hj') (r:=3) rfl;have g24:=aD bU.vals 8 aC (af hj') (r:=4) rfl;have NW:=aD bU.vals 8 aC (af hj') (r:=5) rfl;have g26:=aD bU.vals 8 aC (af hj') (r:=6) rfl;have g27:=aD bU.vals 8 aC (af hj') (r:=7) rfl;have e20:=ak (hcA _ _ g20) Sv.out;have e21:=ak (hcA _ _ g21) Sv.out;have e22:=ak (hcA _ _ g22) Sv.out;have e23:=ak (hcA _ _ g23) Sv.out;have e24:=ak (hcA _ _ g24) Sv.out;have e25:=ak (hcA _ _ NW) Sv.out;have e26:=ak (hcA _ _ g26) Sv.out;have e27:=ak (hcA _ _ g27) Sv.out;clear hcA g20 g21 g22 g23 g24 NW g26 g27 hxp hs hj;have hsm:=HSame.out j hj';rw[←hB]at hsm;clear hB;generalize xs[j]=Y at hsm e20 e21 e22 e23 e24 e25 e26 e27;obtain⟨⟨agO,ade,afs,ahd,agP,ex3,adf,ahe⟩,tv3,av3,ev3⟩:=Y;unfold bU.vals at hsm;simp only at hsm e20 e21 e22 e23 e24 e25 e26 e27;rw[b8]at e20;rw[←ku]at e21 e22 e23 e24 e25 e26 e27;have HSm:=ae hsm;have q0:decide ((j:Int)<0)=false:=decide_eq_false aQ;have q0':¬(j:Int)<0:=by omega
     clear hsm hj';obtain⟨x0,x1,x2,x3,x4,x5,x6,x7⟩:=dA Cf;obtain⟨-,m1⟩:=jL KM2;have hdr:=(aM w2.heap.size w2).drew;have KB4:=aZ Sv hdr;obtain⟨zg,KO4⟩:=aN (bJ Cf hdr) (own_below KO2.out hdr);have KY4:ag (∀Y∈zs,di _ wi.heap.size Y):=ae (fun Y hY=>(KY2.out Y hY).low hdr);obtain⟨KD4,KM4,KK4⟩:=bu (bJ KD2 hdr) (bJ KM2 hdr) (KK2.out.than hdr);clear hdr;refine wp_region_held_drew (S:=(fun u=>u.cell? ⟨P,1,none⟩=some (.slice (some ⟨qa,oa,none⟩) ib ca1)∧u.cell? ⟨qa,oa+j*8,none⟩=some (.string agO)∧u.cell? ⟨qa,oa+j*8+1,none⟩=some (.string ade)∧u.cell? ⟨qa,oa+j*8+2,none⟩=some (.string afs)∧u.cell? ⟨qa,oa+j*8+3,none⟩=some (tv3)∧u.cell? ⟨qa,oa+j*8+4,none⟩=some (av3)∧u.cell? ⟨qa,oa+j*8+5,none⟩=some (.int .u64 ex3)∧u.cell? ⟨qa,oa+j*8+6,none⟩=some (.int .u8 adf)∧u.cell? ⟨qa,oa+j*8+7,none⟩=some (ev3)∧u.cell? ⟨G,0,none⟩=some (.string key1)∧u.cell? ⟨G,1,none⟩=some (.string bG)∧u.cell? ⟨G,2,none⟩=some (.string cj)∧u.cell? ⟨G,3,none⟩=some (.slice fA n11 c11)∧u.cell? ⟨G,4,none⟩=some (.slice ft n12 c12)∧u.cell? ⟨G,5,none⟩=some (.int .u64 ik)∧u.cell? ⟨G,6,none⟩=some (.int .u8 bA)∧u.cell? ⟨G,7,none⟩=some (.slice ig n13 c13))) bo (⟨m1,e20,e21,e22,e23,e24,e25,e26,e27,x0,x1,x2,x3,x4,x5,x6,x7⟩) (fun hHeld=>?_);refine bC 0 ?_
     refine bC 1 ?_
     refine bC 2 ?_
     refine bC 3 ?_
     refine bC 4 ?_
     refine bC 5 ?_
     refine bC 6 ?_
     refine bC 7 ?_
     refine bC 8 ?_
     refine jg 9 fun K hK=>?_;go_simp;refine(HSm.out _ KB4.out).mono ?_;rintro r w3⟨rfl,d3⟩;have KB3:=aZ KB4 d3;obtain⟨MX,KO3⟩:=aN (bJ zg d3) (own_below KO4.out d3);have KY3:ag (∀Y∈zs,di w3 wi.heap.size Y):=ae (fun Y hY=>(KY4.out Y hY).low d3);obtain⟨KD3,KM3,KK3⟩:=bu (bJ KD4 d3) (bJ KM4 d3) (KK4.out.than d3);clear KB4 zg KO4 KY4 KD4 KM4 KK4;clear Sv Cf KO2 KY2 KD2 KM2 KK2;refine hK.out _ _ (⟨ak hHeld.1 d3,ak hHeld.2.1 d3,ak hHeld.2.2.1 d3,ak hHeld.2.2.2.1 d3,ak hHeld.2.2.2.2.1 d3,ak hHeld.2.2.2.2.2.1 d3,ak hHeld.2.2.2.2.2.2.1 d3,ak hHeld.2.2.2.2.2.2.2.1 d3,ak hHeld.2.2.2.2.2.2.2.2.1 d3,ak hHeld.2.2.2.2.2.2.2.2.2.1 d3,ak hHeld.2.2.2.2.2.2.2.2.2.2.1 d3,ak hHeld.2.2.2.2.2.2.2.2.2.2.2.1 d3,ak hHeld.2.2.2.2.2.2.2.2.2.2.2.2.1 d3,ak hHeld.2.2.2.2.2.2.2.2.2.2.2.2.2.1 d3,ak hHeld.2.2.2.2.2.2.2.2.2.2.2.2.2.2.1 d3,ak hHeld.2.2.2.2.2.2.2.2.2.2.2.2.2.2.2.1 d3,ak hHeld.2.2.2.2.2.2.2.2.2.2.2.2.2.2.2.2 d3⟩) (fun hHeld=>?_);clear hK K;try simp only[cN]
     refine bC 10 ?_
     refine bC 11 ?_
     refine qW ?_;clear d3 q0 q0' m1 x0 x1 x2 x3 x4 x5 x6 x7 e20 e21 e22 e23 e24 e25 e26 e27;cases B with
     |true=>
      have iY:=ae UN.out;go_wp2_with fail
      go_roundw
      case rel=>exact⟨k+1,A,n,c,zs,by omega,by go_num,by omega,KD3,KO3,KY3,ae (by rw[HTm.out,ahG,List.filter_cons_of_neg (by rw[iY.out];decide),ahY,dP];exact hmap.out),hzl,KK3⟩
      case measure=>simp[intOf];omega
     |false=>
      have iY:=ae UN.out;simp only[Bool.not_false]at iY;clear UN;go_upto_region 16 with fail
      obtain⟨x0,x1,x2,x3,x4,x5,x6,x7⟩:=dA MX;obtain⟨-,-,s2⟩:=jf KD3;have hdr:=(aM w3.heap.size w3).drew;have KB4:=aZ KB3 hdr;obtain⟨zg,KO4⟩:=aN (bJ MX hdr) (own_below KO3.out hdr);have KY4:ag (∀Y∈zs,di _ wi.heap.size Y):=ae (fun Y hY=>(KY3.out Y hY).low hdr);obtain⟨KD4,KM4,KK4⟩:=bu (bJ KD3 hdr) (bJ KM3 hdr) (KK3.out.than hdr);clear hdr;obtain⟨j0,lD,hz0,hz1,hz2⟩:=info_parts nh;refine kf 7 (fun u=>u.cell? ⟨D,2,none⟩=some (.slice A n c)∧u.cell? ⟨G,0,none⟩=some (.string key1)∧u.cell? ⟨G,1,none⟩=some (.string bG)∧u.cell? ⟨G,2,none⟩=some (.string cj)∧u.cell? ⟨G,3,none⟩=some (.slice fA n11 c11)∧u.cell? ⟨G,4,none⟩=some (.slice ft n12 c12)∧u.cell? ⟨G,5,none⟩=some (.int .u64 ik)∧u.cell? ⟨G,6,none⟩=some (.int .u8 bA)∧u.cell? ⟨G,7,none⟩=some (.slice ig n13 c13)) bo (⟨s2,x0,x1,x2,x3,x4,x5,x6,x7⟩) (fun hHeld=>?_);refine vy 0 ?_
      refine vy 1 ?_
      refine vy 2 ?_
      refine vQ 3 fun K hK=>?_;go_simp;refine(bI.out _ KB4.out).mono ?_;rintro r w5⟨⟨⟨⟨key2,bB,ck,dx,cI,iR,bL,dy⟩,tv2,av2,ev2⟩,rfl,GI,pM⟩,d5⟩;obtain⟨iK,c21,e21⟩:=aV pM.tags;obtain⟨iL,iM,e22⟩:=aV pM.aR;obtain⟨kY,c23,e23⟩:=aV pM.ends;simp only at e21 e22 e23;subst e21 e22 e23;obtain⟨Nz,VM⟩:=aN (pM.mono KK4.out.size) GI;obtain⟨n21,nU⟩:=bq dx.length;obtain⟨n22,nV⟩:=bq cI.length;obtain⟨n23,nW⟩:=bq dy.length;unfold bU.vals;simp only;rw[←nU,←nV,←nW];obtain⟨Ih,HL2,HL3⟩:=bu nU nV nW;have KB5:=aZ KB4 d5;obtain⟨Il,KO5⟩:=aN (bJ zg d5) (own_below KO4.out d5);have KY5:ag (∀Y∈zs,di w5 wi.heap.size Y):=ae (fun Y hY=>(KY4.out Y hY).low d5);obtain⟨KD5,KM5,KK5⟩:=bu (bJ KD4 d5) (bJ KM4 d5) (KK4.out.than d5);clear nU nV nW pM GI;have hbz:=boxed w5 (.cells ([.string key2,.string bB,.string ck,.slice iK n21 c21,.slice iL n22 iM,.int .u64 iR,.int .u8 bL,.slice kY n23 c23]:List Value).toArray 50);have KB6:=aZ KB5 hbz;obtain⟨MU,KO6⟩:=aN (bJ Il hbz) (own_below KO5.out hbz);have KY6:ag (∀Y∈zs,di _ wi.heap.size Y):=ae (fun Y hY=>(KY5.out Y hY).low hbz);obtain⟨KD6,KM6,KK6⟩:=bu (bJ KD5 hbz) (bJ KM5 hbz) (KK5.out.than hbz);obtain⟨v',w7,hr',ho7,Ly,_⟩:=run_append_own (P:=ah) (w:=w5.alloc (.cells ([.string key2,.string bB,.string ck,.slice iK n21 c21,.slice iL n22 iM,.int .u64 iR,.int .u8 bL,.slice kY n23 c23]:List Value).toArray 50)) wi.heap.size 23 23 50 j0 (.agg #[aI,aI,aI,au,au,.int .u64 0,.int .u8 0,au]) 8 136 ahV lD hz0 hz1 hz2 rfl aH (.slice A n c) n (cZ zs) KO6.out ⟨w5.heap.size,0,none⟩ 1 1 [.string key2,.string bB,.string ck,.slice iK n21 c21,.slice iL n22 iM,.int .u64 iR,.int .u8 bL,.slice kY n23 c23] rfl (cQ w5 [.string key2,.string bB,.string ck,.slice iK n21 c21,.slice iL n22 iM,.int .u64 iR,.int .u8 bL,.slice kY n23 c23] 50) (by intro u hu;simp at hu;rcases hu with rfl|rfl|rfl|rfl|rfl|rfl|rfl|rfl<;>rfl) (by unfold maxLen;omega) aQ KK6.out.size;obtain⟨A7,c7,e7⟩:=aV ho7;subst e7;obtain⟨Fv,PX,Sl⟩:=bu hr' ho7 Ly;have hown:∀q,(dq A n c).ownBlock=some q→wi.heap.size≤q:=fun q hq=>(KO6.out.lt q hq).1
      have hown2:=HQ0.out;have hD7:=KD6.out.keep (Keeps.row Ly) (fun hq=>by have:=hown _ hq;have:=HDn.out.2.2.2.2;omega);have HD7:=ae hD7;have zf:=ae (qo KK6.out (Keeps.row Ly) (fun i hi hq=>by have:=hown _ hq;omega));have hoff:=cE KO6.out;have HY7:ag (∀Y∈zs,di w7 wi.heap.size Y):=ae (fun Y hY=>(KY6.out Y hY).keep (Keeps.row Ly) hoff aH aH aH);have HX7:=ae ((Nz.out.low hbz).keep (Keeps.row Ly) hoff aH aH aH);have tP:=MU.out.keep (Keeps.row Ly) (fun hq=>by have:=hown2 _ hq;omega);have y0:=tP.cell 0;have y1:=tP.cell 1;have y2:=tP.cell 2;have y3:=tP.cell 3;have y4:=tP.cell 4;have y5:=tP.cell 5;have y6:=tP.cell 6;have y7:=tP.cell 7;simp at y0 y1 y2 y3 y4 y5 y6 y7;have t2:=hD7.cell 2;simp at t2;have fr:=fun i=>hD7.frozen i
      clear hr' ho7 Ly hown hown2 hoff hD7 tP;refine hK.out _ _ (fun _=>⟨ak hHeld.1 d5,ak hHeld.2.1 d5,ak hHeld.2.2.1 d5,ak hHeld.2.2.2.1 d5,ak hHeld.2.2.2.2.1 d5,ak hHeld.2.2.2.2.2.1 d5,ak hHeld.2.2.2.2.2.2.1 d5,ak hHeld.2.2.2.2.2.2.2.1 d5,ak hHeld.2.2.2.2.2.2.2.2 d5⟩) (fun hHeld=>?_);have hHeld:=hHeld aH;clear hK K;try simp only[cN]
      refine vQ 4 fun K hK=>?_;go_simp;refine hK.out _ _ (fun _=>⟨ak hHeld.1 hbz,ak hHeld.2.1 hbz,ak hHeld.2.2.1 hbz,ak hHeld.2.2.2.1 hbz,ak hHeld.2.2.2.2.1 hbz,ak hHeld.2.2.2.2.2.1 hbz,ak hHeld.2.2.2.2.2.2.1 hbz,ak hHeld.2.2.2.2.2.2.2.1 hbz,ak hHeld.2.2.2.2.2.2.2.2 hbz⟩) (fun hHeld=>?_);have hHeld:=hHeld aH;clear hK K;try simp only[cN]
      refine vQ 5 fun K hK=>?_;refine kT rfl _ _ 23 23 rfl rfl rfl Fv.out ?_;refine hK.out _ _ (fun _=>⟨t2,y0,y1,y2,y3,y4,y5,y6,y7⟩) (fun hHeld=>?_);have hHeld:=hHeld aH;clear hK K;try simp only[cN]
      refine vy 6 ?_
      refine vQ 7 fun K hK=>?_;go_simp;refine hK.out _ _ (fun h=>absurd h aH) (fun _=>?_);clear hK K;try clear hHeld
      try simp only[cN]
      refine zdX ?_;have f1:aG (w7.setCell ⟨D,2,none⟩ (.slice A7 (n+1) c7)) D 29 #[.int .u64 va,.int .u64 vb,.slice A7 (n+1) c7,au,.bool false,au,.bool false,aI,.string HH]:=HD7.out.aL 2 _;have f2:=aU (k:=2) (u:=.slice A7 (n+1) c7) PX.out HDn.out.2.2.2.2;have f3:∀Y∈zs++[⟨⟨key2,bB,ck,dx,cI,iR,bL,dy⟩,.slice iK dx.length c21,.slice iL cI.length iM,.slice kY dy.length c23⟩],di (w7.setCell ⟨D,2,none⟩ (.slice A7 (n+1) c7)) wi.heap.size Y:=fun Y hY=>by
       rcases List.mem_append.1 hY with hY|hY
       ·have:=HY7.out Y hY;exact⟨aU this.tags HDn.out.2.2.2.2,aU this.aR HDn.out.2.2.2.2,aU this.ends HDn.out.2.2.2.2⟩
       ·rw[List.mem_singleton.1 hY];have:=HX7.out;exact⟨aU this.tags HDn.out.2.2.2.2,aU this.aR HDn.out.2.2.2.2,aU this.ends HDn.out.2.2.2.2⟩
      have f4:=zf.out.setCell (p:=⟨D,2,none⟩) (Or.inl rfl) (.slice A7 (n+1) c7);obtain⟨F1,F2,F3,F4⟩:=cY f1 f2 f3 f4;clear f1 f2 f3 f4 HD7 PX HY7 HX7 zf Sl Fv t2 fr y0 y1 y2 y3 y4 y5 y6 y7 x0 x1 x2 x3 x4 x5 x6 x7 s2;generalize w7.setCell ⟨D,2,none⟩ (.slice A7 (n+1) c7)=w8 at F1 F2 F3 F4⊢;go_wp2_with fail
      go_roundw
      case rel=>
       refine⟨k+1,A7,n+1,c7,zs++[⟨⟨key2,bB,ck,dx,cI,iR,bL,dy⟩,.slice iK dx.length c21,.slice iL cI.length iM,.slice kY dy.length c23⟩],by omega,by go_num,by omega,F1,ae ?_,F3,ae ?_,ae (by rw[ai,hzl.out];rfl),F4⟩
       ·rw[lB];unfold bU.vals;simp only;rw[←Ih.out,←HL2.out,←HL3.out];exact F2.out
       ·rw[HTm.out,cH,hmap.out,ahG,List.filter_cons_of_pos iY.out,ahY,ahC];rw[VM.out]
      case measure=>simp[intOf];omega
theorem aaz{α:Type}(f:α→List UInt8)(k:Nat):∀l:List α,(∀x∈l,(f x).length≤k)→(l.flatMap f).length≤l.length*k:=by
 intro l
 induction l with
 |nil=>intro _;simp
 |cons x r ih=>
  intro h;have h1:=h x (List.mem_cons_self ..);have h2:=ih fun y hy=>h y (List.mem_cons_of_mem x hy)
  rw[abe,ai,bO,Nat.add_mul];omega
theorem mf{α:Type}(f:α→List UInt8)(k n:Nat)(l:List α)(hn:l.length≤n)(h:∀x∈l,(f x).length≤k):(bT f l).length≤2+n*k:=by
 unfold bT;rw[ai,aP];have:=aaz f k l h;have:l.length*k≤n*k:=Nat.mul_le_mul_right k hn;omega
theorem WM(a:Ad):(zh a).length≤17:=by
 unfold zh;split
 ·rw[bO,ai,aP,aP];omega
 ·rw[bO,aP];omega
theorem WN(e:En):(F7 e).length≤19:=by
 unfold F7;have:=WM e.1;rw[ai,aP];omega
theorem DR(s:ByteArray):(oJ s).length=2+s.size:=by
 unfold oJ;rw[ai,aP];rfl
theorem WQ{p:Pr}(h:mQ p=true):(qB p).length≤1000:=by
 have m:=(AE p).1 h;unfold qB;have e1:=mf oJ 34 8 p.tags m.tl (fun t ht=>by rw[DR];have:=su (m.tags t ht);omega);have e2:=mf zh 17 4 p.aR m.al (fun a _=>WM a);have e3:=mf F7 19 8 p.ends m.el (fun e _=>WN e);have e4:=DR p.user;have e5:=su m.user;have k1:p.key.data.toList.length=32:=m.key;have k2:p.bw.data.toList.length=32:=m.bw;simp only[ai,aP,k1,k2,e4];omega
theorem WR{r:Ry}(h:xW r=true):(qR r).length≤100:=by
 unfold xW at h;simp only[aX,decide_eq_true_eq]at h;have k1:r.key.data.toList.length=32:=h.1;have:=WN r.fin;unfold qR;simp only[ai,aP,k1];omega
theorem od{m:Mp}(h:jv m=true):(uU m).length≤80000000:=by
 obtain⟨_,h2,h3,h4⟩:=jR h;obtain⟨_,p2,p3⟩:=jz h2;unfold ju at h3;simp only[aX,decide_eq_true_eq]at h3;have e1:=mf qB 1000 64 m.aK p2 (fun p hp=>WQ (p3 p hp));have e2:=mf qR 100 8 m.ax h3.1.1 (fun r hr=>WR (List.all_eq_true.1 h3.2 r hr));have e3:=DR m.policy;have e4:=sw h4;unfold uU;simp only[ai,aP,e3];omega
open Go.ChangeShapes Go.WideShapes Go.ChangeAt Go.Deep
theorem d40:ah.cellsOf 57=6:=by kernel_rfl
theorem d41:ah.cellsOf 24=1:=by kernel_rfl
theorem d42:ah.cellsOf 26=4:=by kernel_rfl
theorem chunks{α:Type}(k:Nat):∀(n:Nat)(l:List α),l.length=n*k→l=(aF n).flatMap fun i=>(l.drop (i*k)).take k:=by
 intro n
 induction n with
 |zero=>
  intro l h;rw[Nat.zero_mul]at h;rw[List.eq_nil_of_length_eq_zero h];rfl
 |succ n ih=>
  intro l h;rw[List.range_succ_eq_map,abe,List.flatMap_map];have h2:=ih (l.drop k) (by rw[List.length_drop,h,Nat.add_mul];omega);have e:((aF n).flatMap fun i=>(l.drop ((i+1)*k)).take k)=(aF n).flatMap fun i=>((l.drop k).drop (i*k)).take k:=by
   congr 1;funext i;rw[List.drop_drop,Nat.add_mul,Nat.one_mul,Nat.add_comm]
  show l=(l.drop (0*k)).take k++(aF n).flatMap fun i=>(l.drop ((i+1)*k)).take k
  rw[e,←h2,Nat.zero_mul,List.drop_zero,List.take_append_drop]
theorem adg{W:World}(h:Lib.VarReads ah W "isthmus/blake.orders" Rows.laid_isthmus_blake_orders):gd W:=by
 obtain⟨g',t',cs,fuel,p,hg',ht',hvar,hd⟩:=h;have hg:ah.globalNamed "isthmus/blake.orders" =some 0:=by kernel_rfl
 have hty:(ah.globals[0]?).map (·.type)=some 264:=by kernel_rfl
 obtain rfl:=Option.some.inj (hg.symm.trans hg');obtain rfl:=Option.some.inj (hty.symm.trans ht');have hu:ah.underlying 264=some (.array 10 263):=by kernel_rfl
 have hu2:ah.underlying 263=some (.array 16 5):=by kernel_rfl
 obtain⟨xs,m,_,hx,hl,hxl,hi⟩:=DataW.trod_array hu hd;have hc1:ah.cellsOf 264=160:=by kernel_rfl
 have hc2:ah.cellsOf 263=16:=by kernel_rfl
 rw[hc1]at hl;rw[hc2]at hi;have e1:(DataW.agg (xs.map (·.1)):DataW Unit)=Rows.laid_isthmus_blake_orders:=(congrArg Prod.fst hx).symm;have e2:(Rows.laid_isthmus_blake_orders:DataW Unit)=.agg (pO.map fun r=>Lib.tabData .u8 (r.map fun n:Nat=>(n:Int))):=by rfl
 rw[e2]at e1;injection e1 with e1
 have hrow:∀i,i<10→(cs.toList.drop (i*16)).take 16=(pO.getD i []).map fun n:Nat=>Value.int .u8 n:=fun i hlt=>by
  have h1:=hi i hlt;have hxi:i<xs.length:=by omega
  rw[af hxi]at h1;have h2:(xs.map (·.1))[i]? =(pO.map fun r=>Lib.tabData .u8 (r.map fun n:Nat=>(n:Int)))[i]? :=by rw[e1]
  rw[bS,bS,af hxi,af (show i<pO.length from hlt)]at h2;simp only[Option.map_some,Option.some.injEq]at h2;rw[show xs[i]=(xs[i].1,xs[i].2)from rfl,h2]at h1;have h3:=Lib.cells_of_tab hu2 Tryz.underlying5 d5 hc2 h1;rw[h3,List.getD_eq_getElem?_getD,af (show i<pO.length from hlt),Option.getD_some,List.map_map];rfl
 unfold gd;rw[hvar];congr 1;have h5:=chunks 16 10 cs.toList hl;have h6:((aF 10).flatMap fun i=>(cs.toList.drop (i*16)).take 16)=(aF 10).flatMap fun i=>(pO.getD i []).map fun n:Nat=>Value.int .u8 n:=by
  rw[List.flatMap_def,List.flatMap_def];congr 1;refine List.map_congr_left fun i hi=>hrow i (List.mem_range.1 hi)
 rw[h6]at h5;apply Array.toList_inj.1;rw[h5];rfl
theorem aaA{W:World}(hL:laidMetH ah rZ W):gd W:=by
 rw[MakeChecks.laidMetH_plain _ _ _ bo]at hL;exact adg (Lib.laidMet.reads hL (.tail _ (.tail _ (.tail _ (.tail _ (.tail _ (.tail _ (.head _))))))))
section
variable{H:Type}{enc:TypeId×Value→H}{w:World}{base:Nat}{sp:Nat→Bool}{held:Bool}
theorem WT:∀n cs y,DataW.trod enc ah w base sp held n 55 cs=some y→∃x:En,cs=cD x∧Np x:=by
 intro n cs y h;obtain⟨xs,n,_,rfl,hl,hlen,hf⟩:=DataW.trod_struct Tryz.underlying55 h;rw[d30]at hl
 match cs,hl with
 |[v0,v1,v2,v3],_=>
  have h0:=hf 0 _ rfl;have h1:=hf 1 _ rfl;rw[af (show 0<xs.length by rw[hlen];decide)]at h0;rw[af (show 1<xs.length by rw[hlen];decide)]at h1;obtain⟨a,ha,e0⟩:=abr h0;obtain⟨m,e1,k1⟩:=acK _ _ _ h1;simp[d11,d6,Ad.cells]at e0 e1;obtain⟨rfl,rfl,rfl⟩:=e0;subst e1;exact⟨(a,m),rfl,ha,k1⟩
theorem WU:∀n cs y,DataW.trod enc ah w base sp held n 57 cs=some y→∃x:Ry,cs=bF x∧uX x:=by
 intro n cs y h;obtain⟨xs,n,_,rfl,hl,hlen,hf⟩:=DataW.trod_struct Tryz.underlying57 h;rw[d40]at hl
 match cs,hl with
 |[v0,v1,v2,v3,v4,v5],_=>
  have h0:=hf 0 _ rfl;have h1:=hf 1 _ rfl;have h2:=hf 2 _ rfl;rw[af (show 0<xs.length by rw[hlen];decide)]at h0;rw[af (show 1<xs.length by rw[hlen];decide)]at h1;rw[af (show 2<xs.length by rw[hlen];decide)]at h2;obtain⟨n0,e0,k0⟩:=abq _ _ _ h0;obtain⟨s1,e1,_⟩:=nQ _ _ _ h1;obtain⟨x,e2,k2⟩:=WT _ _ _ h2;simp[d5,d9,d30,cD]at e0 e1 e2;obtain⟨rfl,rfl,rfl,rfl⟩:=e2;subst e0 e1;exact⟨⟨n0,s1,x⟩,rfl,k0,k2⟩
theorem WV:∀n cs y,DataW.trod enc ah w base sp held n 50 cs=some y→∃X:bU,cs=X.vals∧(Rows.uptoBulk y.1≤1048576→fC w X∧mW X.p∧gm X.p):=by
 intro n cs y h;obtain⟨xs,n,_,rfl,hl,hlen,hf⟩:=DataW.trod_struct Tryz.underlying50 h;rw[d31]at hl
 match cs,hl with
 |[v0,v1,v2,v3,v4,v5,v6,v7],_=>
  have h0:=hf 0 _ rfl;have h1:=hf 1 _ rfl;have h2:=hf 2 _ rfl;have h3:=hf 3 _ rfl;have h4:=hf 4 _ rfl;have h5:=hf 5 _ rfl;have h6:=hf 6 _ rfl;have h7:=hf 7 _ rfl;obtain⟨y2,g2⟩:∃z,xs[2]? =some z:=⟨_,af (show 2<xs.length by rw[hlen];decide)⟩;obtain⟨y3,g3⟩:∃z,xs[3]? =some z:=⟨_,af (show 3<xs.length by rw[hlen];decide)⟩;obtain⟨y4,g4⟩:∃z,xs[4]? =some z:=⟨_,af (show 4<xs.length by rw[hlen];decide)⟩;obtain⟨y7,g7⟩:∃z,xs[7]? =some z:=⟨_,af (show 7<xs.length by rw[hlen];decide)⟩;rw[af (show 0<xs.length by rw[hlen];decide)]at h0;rw[af (show 1<xs.length by rw[hlen];decide)]at h1;rw[af (show 5<xs.length by rw[hlen];decide)]at h5;rw[af (show 6<xs.length by rw[hlen];decide)]at h6;rw[g2]at h2;rw[g3]at h3;rw[g4]at h4;rw[g7]at h7;obtain⟨s0,e0,_⟩:=nQ _ _ _ h0;obtain⟨s1,e1,_⟩:=nQ _ _ _ h1;obtain⟨s2,e2,z2⟩:=nQ _ _ _ h2;obtain⟨l3,u3,e3,r3,q3,b3,c3⟩:=open_row abb 1 aH d9 (fun x=>[bM x]) (fun _=>rfl) (fun D x=>x.size<Rows.uptoBulk D) nQ h3;obtain⟨l4,u4,e4,r4,q4,b4,c4⟩:=open_row Tryz.underlying47 3 aH d11 (fun x:Ad=>x.cells.toList) (fun _=>rfl) (fun _ x=>x.Ok) ZQ h4;obtain⟨n5,e5,k5⟩:=CV _ _ _ h5;obtain⟨n6,e6,k6⟩:=abq _ _ _ h6;obtain⟨l7,u7,e7,r7,q7,b7,c7⟩:=open_row Tryz.underlying48 4 aH d30 cD (fun _=>rfl) (fun _ x=>Np x) WT h7;rw[F5]at r3;simp[d9,d19,d32,d10,d5,d33]at e0 e1 e2 e3 e4 e5 e6 e7;subst e0 e1 e2 e3 e4 e5 e6 e7;refine⟨⟨⟨s0,s1,s2,l3,l4,n5,n6,l7⟩,v3,v4,v7⟩,rfl,fun hk'=>?_⟩;have hk:Rows.uptoBulk (DataW.agg (xs.map (·.1)))≤1048576:=hk';have k2:=gY g2;have k3:=gY g3;have k4:=gY g4;have k7:=gY g7;refine⟨⟨r3,r4,r7⟩,⟨k5,k6,fun b hb=>?_,fun b hb=>?_⟩,⟨by show s2.size≤_;omega,by show l3.length≤_;omega,by show l4.length≤_;omega,by show l7.length≤_;omega,fun t ht=>?_⟩⟩
  ·obtain⟨D,h5,_⟩:=q4 b hb;exact h5
  ·obtain⟨D,h5,_⟩:=q7 b hb;exact h5
  ·obtain⟨D,h5,h6⟩:=q3 t ht;omega
theorem open_map{b0:Nat}{v:Value}{d:DataW H}{p:List MemPlace}(hv:Value.okWide ah w .any b0 26 v)(h:DataW.Trod enc ah w base sp held 26 v d p)(hk:Rows.uptoBulk d≤1048576):∃(m:Mp)(pv rv:Value),v=.agg #[.int .u64 (m.version:Int),pv,rv,.string m.policy]∧dJ w pv m.aK∧fy w rv m.ax∧kM m∧Lp m:=by
 obtain⟨cs,rfl,_⟩:=okWide_struct Tryz.underlying26 hv;obtain⟨fuel,hfu⟩:=h;obtain⟨xs,n,_,he,hl,hlen,hf⟩:=DataW.trod_struct Tryz.underlying26 hfu;injection he with he _
 subst he;obtain⟨cs⟩:=cs;rw[d42]at hl
 match cs,hl with
 |[v0,v1,v2,v3],_=>
  have h0:=hf 0 _ rfl;have h1:=hf 1 _ rfl;have h2:=hf 2 _ rfl;have h3:=hf 3 _ rfl;obtain⟨y1,g1⟩:∃z,xs[1]? =some z:=⟨_,af (show 1<xs.length by rw[hlen];decide)⟩;obtain⟨y2,g2⟩:∃z,xs[2]? =some z:=⟨_,af (show 2<xs.length by rw[hlen];decide)⟩;obtain⟨y3,g3⟩:∃z,xs[3]? =some z:=⟨_,af (show 3<xs.length by rw[hlen];decide)⟩;rw[af (show 0<xs.length by rw[hlen];decide)]at h0;rw[g1]at h1;rw[g2]at h2;rw[g3]at h3;obtain⟨n0,e0,k0⟩:=CV _ _ _ h0;obtain⟨l1,u1,e1,r1,q1,b1,c1⟩:=open_row ahV 8 aH d31 bU.vals aC (fun D X=>Rows.uptoBulk D≤1048576→fC w X∧mW X.p∧gm X.p) WV h1;obtain⟨l2,u2,e2,r2,q2,b2,c2⟩:=open_row Tryz.underlying24 6 aH d40 bF bH (fun _ x=>uX x) WU h2;obtain⟨s3,e3,z3⟩:=nQ _ _ _ h3;simp[d10,d34,d41,d9,Value.cells]at e0 e1 e2 e3;subst e0 e1 e2 e3;have k1:=gY g1;have k2:=gY g2;have k3:=gY g3;have hq:∀X∈l1,fC w X∧mW X.p∧gm X.p:=fun X hX=>by
   obtain⟨D,h5,h6⟩:=q1 X hX;exact h5 (by omega)
  refine⟨⟨n0,l1.map (·.p),l2,s3⟩,v1,v2,rfl,⟨l1,rfl,r1,fun X hX=>(hq X hX).1⟩,r2,⟨k0,fun p hp=>?_,fun r hr=>?_⟩,⟨fun p hp=>?_,by show(l1.map (·.p)).length≤_;rw[ay];omega,by show l2.length≤_;omega,by show s3.size≤_;omega,od⟩⟩
  ·obtain⟨X,hX,rfl⟩:=List.mem_map.1 hp;exact(hq X hX).2.1
  ·obtain⟨D,h5,_⟩:=q2 r hr;exact h5
  ·obtain⟨X,hX,rfl⟩:=List.mem_map.1 hp;exact(hq X hX).2.2
end
section
variable{H:Type}{enc:TypeId×Value→H}{w:World}{base:Nat}{sp:Nat→Bool}{held:Bool}
theorem d43:ah.cellsOf 29=9:=by kernel_rfl
theorem LC{b0:Nat}{v:Value}{d:DataW H}{p:List MemPlace}(hv:Value.okWide ah w .any b0 29 v)(h:DataW.Trod enc ah w base sp held 29 v d p)(hk:Rows.uptoBulk d≤1048576):∃(m:Dl)(sv gv rv:Value),v=.agg (fc m sv gv rv)∧kz w m sv gv rv∧sx m∧yF m:=by
 obtain⟨cs,rfl,_⟩:=okWide_struct Tryz.underlying29 hv;obtain⟨fuel,hfu⟩:=h;obtain⟨xs,n,_,he,hl,hlen,hf⟩:=DataW.trod_struct Tryz.underlying29 hfu;injection he with he _
 subst he;obtain⟨cs⟩:=cs;rw[d43]at hl
 match cs,hl with
 |[v0,v1,v2,v3,v4,v5,v6,v7,v8],_=>
  have h0:=hf 0 _ rfl;have h1:=hf 1 _ rfl;have h2:=hf 2 _ rfl;have h3:=hf 3 _ rfl;have h4:=hf 4 _ rfl;have h5:=hf 5 _ rfl;have h6:=hf 6 _ rfl;have h7:=hf 7 _ rfl;have h8:=hf 8 _ rfl;have hg:∀i,i<9→∃z,xs[i]? =some z:=fun i hi=>⟨_,af (show i<xs.length by rw[hlen];exact hi)⟩
  obtain⟨y0,g0⟩:=hg 0 aH;obtain⟨y1,g1⟩:=hg 1 aH;obtain⟨y2,g2⟩:=hg 2 aH;obtain⟨y3,g3⟩:=hg 3 aH;obtain⟨y4,g4⟩:=hg 4 aH;obtain⟨y5,g5⟩:=hg 5 aH;obtain⟨y6,g6⟩:=hg 6 aH;obtain⟨y7,g7⟩:=hg 7 aH;obtain⟨y8,g8⟩:=hg 8 aH;rw[g0]at h0;rw[g1]at h1;rw[g2]at h2;rw[g3]at h3;rw[g4]at h4;rw[g5]at h5;rw[g6]at h6;rw[g7]at h7;rw[g8]at h8;obtain⟨n0,e0,k0⟩:=CV _ _ _ h0;obtain⟨n1,e1,k1⟩:=CV _ _ _ h1;obtain⟨l2,u2,e2,r2,q2,b2,c2⟩:=open_row ahV 8 aH d31 bU.vals aC (fun D X=>Rows.uptoBulk D≤1048576→fC w X∧mW X.p∧gm X.p) WV h2;obtain⟨l3,u3,e3,r3,q3,b3,c3⟩:=open_row abb 1 aH d9 (fun x=>[bM x]) (fun _=>rfl) (fun D x=>x.size<Rows.uptoBulk D) nQ h3;obtain⟨b4,e4,_⟩:=DataW.trod_bool kD h4;obtain⟨l5,u5,e5,r5,q5,b5,c5⟩:=open_row Tryz.underlying24 6 aH d40 bF bH (fun _ x=>uX x) WU h5;obtain⟨b6,e6,_⟩:=DataW.trod_bool kD h6;obtain⟨s7,e7,z7⟩:=nQ _ _ _ h7;obtain⟨s8,e8,z8⟩:=nQ _ _ _ h8;rw[F5]at r3;simp[d10,d34,d41,d9,d19,d4,d41,Value.cells]at e0 e1 e2 e3 e4 e5 e6 e7 e8;subst e0 e1 e2 e3 e4 e5 e6 e7 e8;have z2:=gY g2;have z3:=gY g3;have z5:=gY g5;have zz:=gY g7;have hq:∀X∈l2,fC w X∧mW X.p∧gm X.p:=fun X hX=>by
   obtain⟨D,h5,h6⟩:=q2 X hX;exact h5 (by omega)
  refine⟨⟨n0,n1,l2.map (·.p),l3,b4,l5,b6,s7,s8⟩,v2,v3,v5,rfl,⟨⟨l2,rfl,r2,fun X hX=>(hq X hX).1⟩,r3,r5⟩,⟨k0,k1,fun p hp=>?_,fun r hr=>?_⟩,⟨fun p hp=>?_,by show(l2.map (·.p)).length≤_;rw[ay];omega,by show l3.length≤_;omega,by show l5.length≤_;omega,by show s7.size≤_;omega,fun k hk=>?_⟩⟩
  ·obtain⟨X,hX,rfl⟩:=List.mem_map.1 hp;exact(hq X hX).2.1
  ·obtain⟨D,h5,_⟩:=q5 r hr;exact h5
  ·obtain⟨X,hX,rfl⟩:=List.mem_map.1 hp;exact(hq X hX).2.2
  ·obtain⟨D,h5,h6⟩:=q3 k hk;omega
theorem WW{b0:Nat}{v:Value}{d:DataW H}{p:List MemPlace}(hv:Value.okWide ah w .any b0 9 v)(h:DataW.Trod enc ah w base sp held 9 v d p):∃s:ByteArray,v=.string s∧s.size<Rows.uptoBulk d:=by
 obtain⟨s,rfl,rfl,_,_⟩:=Go.ChangeMaps.open_string Tryz.underlying9 hv h;exact⟨s,rfl,by rw[Rows.uptoBulk];show s.data.size<s.data.toList.length+1;rw[Array.length_toList];omega⟩
end
theorem sO(l:List ByteArray):strCells l=l.flatMap fun x:ByteArray=>[bM x]:=by
 unfold strCells
 induction l with
 |nil=>rfl
 |cons x r ih=>rw[List.map_cons,abe,ih];rfl
theorem zQ{w:World}{X Y:bU}(hX:fC w X)(hY:fC w Y)(sX:gm X.p)(sY:gm Y.p):Calls ah 100 #[.agg X.vals.toArray,.agg Y.vals.toArray] w (Got (.bool (decide (X.p=Y.p))) w):=by
 obtain⟨R,hR⟩:=bq (decide (X.p=Y.p));rw[←hR];have l11:=sX.tl;have l12:=sX.al;have l13:=sX.el;obtain⟨⟨key1,bG,cj,eF,dw,ik,bA,eV⟩,Yi,Yj,ev1⟩:=X;obtain⟨ht1,ha1,he1⟩:=hX;simp only at ht1 ha1 he1 l11 l12 l13;obtain⟨fA,c11,rfl,_,ht1⟩:=ht1;obtain⟨ft,c12,rfl,_,ha1⟩:=ha1;obtain⟨ig,c13,rfl,_,he1⟩:=he1;rw[sO]at ht1;obtain⟨n11,aaB⟩:=bq eF.length;rw[←aaB]at ht1 l11;obtain⟨n12,vO⟩:=bq dw.length;rw[←vO]at ha1 l12;obtain⟨n13,aaC⟩:=bq eV.length;rw[←aaC]at he1 l13;have l21:=sY.tl;have l22:=sY.al;have l23:=sY.el;obtain⟨⟨key2,bB,ck,dx,cI,iR,bL,dy⟩,tv2,av2,ev2⟩:=Y;obtain⟨ht2,ha2,he2⟩:=hY;simp only at ht2 ha2 he2 l21 l22 l23;obtain⟨iK,c21,rfl,_,ht2⟩:=ht2;obtain⟨iL,iM,rfl,_,ha2⟩:=ha2;obtain⟨kY,c23,rfl,_,he2⟩:=he2;rw[sO]at ht2;obtain⟨n21,aaD⟩:=bq dx.length;rw[←aaD]at ht2 l21;obtain⟨n22,G5⟩:=bq cI.length;rw[←G5]at ha2 l22;obtain⟨n23,aaE⟩:=bq dy.length;rw[←aaE]at he2 l23;unfold bU.vals;simp only at hR⊢;rw[←aaB,←vO,←aaC,←aaD,←G5,←aaE];obtain⟨Ht1,Ha1,He1,Ht2,Ha2,He2,HR,adh,adi,adj,adk,adl⟩:=oP ht1 ha1 he1 ht2 ha2 he2 hR aaB vO aaC aaD G5;have adn:=ae aaE;clear ht1 ha1 he1 ht2 ha2 he2 hR aaB vO aaC aaD G5 aaE sX sY;have HB0:=ae (fQ w (.cells #[.string key1,.string bG,.string cj,.slice fA n11 c11,.slice ft n12 c12,.int .u64 ik,.int .u8 bA,.slice ig n13 c13] 50) (.cells #[.string key2,.string bB,.string ck,.slice iK n21 c21,.slice iL n22 iM,.int .u64 iR,.int .u8 bL,.slice kY n23 c23] 50));have hp:=aG.new w 50 #[.string key1,.string bG,.string cj,.slice fA n11 c11,.slice ft n12 c12,.int .u64 ik,.int .u8 bA,.slice ig n13 c13];have HP:=ae (hp.below (boxed _ (.cells #[.string key2,.string bB,.string ck,.slice iK n21 c21,.slice iL n22 iM,.int .u64 iR,.int .u8 bL,.slice kY n23 c23] 50)) hp.lt);have hq:=aG.new (w.alloc (.cells #[.string key1,.string bG,.string cj,.slice fA n11 c11,.slice ft n12 c12,.int .u64 ik,.int .u8 bA,.slice ig n13 c13] 50)) 50 #[.string key2,.string bB,.string ck,.slice iK n21 c21,.slice iL n22 iM,.int .u64 iR,.int .u8 bL,.slice kY n23 c23];rw[show(w.alloc (.cells #[.string key1,.string bG,.string cj,.slice fA n11 c11,.slice ft n12 c12,.int .u64 ik,.int .u8 bA,.slice ig n13 c13] 50)).heap.size=w.heap.size+1 by simp]at hq;have HQ:=ae hq;clear hp hq;go_enter Tryz.func100,Tryz.ntmps100;go_upto_region 1 with fail
 generalize(w.alloc (.cells #[.string key1,.string bG,.string cj,.slice fA n11 c11,.slice ft n12 c12,.int .u64 ik,.int .u8 bA,.slice ig n13 c13] 50)).alloc (.cells #[.string key2,.string bB,.string ck,.slice iK n21 c21,.slice iL n22 iM,.int .u64 iR,.int .u8 bL,.slice kY n23 c23] 50)=w1 at HB0 HP HQ⊢;generalize w.heap.size+1=Q at HQ⊢;generalize hP:w.heap.size=P at HP⊢;clear hP;have p0:=HP.out.cell 0;have q0:=HQ.out.cell 0;have p1:=HP.out.cell 1;have q1:=HQ.out.cell 1;have p2:=HP.out.cell 2;have q2:=HQ.out.cell 2;have p3:=HP.out.cell 3;have q3:=HQ.out.cell 3;have p4:=HP.out.cell 4;have q4:=HQ.out.cell 4;have p5:=HP.out.cell 5;have q5:=HQ.out.cell 5;have p6:=HP.out.cell 6;have q6:=HQ.out.cell 6;have p7:=HP.out.cell 7;have q7:=HQ.out.cell 7;simp at p0 q0 p1 q1 p2 q2 p3 q3 p4 q4 p5 q5 p6 q6 p7 q7;by_cases k0:key1=key2;rotate_left
 ·have z0:=fR k0;have dt:ag (R=false):=ae (by rw[HR.out];exact decide_eq_false (fun e=>k0 (congrArg Pr.key e)));clear k0;go_wp2_with fail
  go_ret;exact⟨by rw[dt.out];rfl,HB0.out⟩
 have z0:=eX k0;by_cases k1:bG=bB;rotate_left
 ·have z1:=fR k1;have dt:ag (R=false):=ae (by rw[HR.out];exact decide_eq_false (fun e=>k1 (congrArg Pr.bw e)));clear k0 k1;go_wp2_with fail
  go_ret;exact⟨by rw[dt.out];rfl,HB0.out⟩
 have z1:=eX k1;by_cases k2:cj=ck;rotate_left
 ·have z2:=fR k2;have dt:ag (R=false):=ae (by rw[HR.out];exact decide_eq_false (fun e=>k2 (congrArg Pr.user e)));clear k0 k1 k2;go_wp2_with fail
  go_ret;exact⟨by rw[dt.out];rfl,HB0.out⟩
 have z2:=eX k2;by_cases k3:ik=iR;rotate_left
 ·have z3:((ik:Int) !=(iR:Int))=true:=by simp;omega
  have dt:ag (R=false):=ae (by rw[HR.out];exact decide_eq_false (fun e=>k3 (congrArg Pr.exp e)));clear k0 k1 k2 k3;go_wp2_with fail
  go_ret;exact⟨by rw[dt.out];rfl,HB0.out⟩
 have z3:((ik:Int) !=(iR:Int))=false:=by simp[k3]
 by_cases k4:bA=bL;rotate_left
 ·have z4:((bA:Int) !=(bL:Int))=true:=by simp;omega
  have dt:ag (R=false):=ae (by rw[HR.out];exact decide_eq_false (fun e=>k4 (congrArg Pr.bm e)));clear k0 k1 k2 k3 k4;go_wp2_with fail
  go_ret;exact⟨by rw[dt.out];rfl,HB0.out⟩
 have z4:((bA:Int) !=(bL:Int))=false:=by simp[k4]
 by_cases k5:n11=n21;rotate_left
 ·have z5:((n11:Int) !=(n21:Int))=true:=by simp;omega
  have dt:ag (R=false):=ae (by rw[HR.out];exact decide_eq_false (fun e=>k5 (by rw[adh.out,adk.out];exact congrArg (fun p:Pr=>p.tags.length) e)));clear k0 k1 k2 k3 k4 k5;go_wp2_with fail
  go_ret;exact⟨by rw[dt.out];rfl,HB0.out⟩
 have z5:((n11:Int) !=(n21:Int))=false:=by simp[k5]
 by_cases k6:n12=n22;rotate_left
 ·have z6:((n12:Int) !=(n22:Int))=true:=by simp;omega
  have dt:ag (R=false):=ae (by rw[HR.out];exact decide_eq_false (fun e=>k6 (by rw[adi.out,adl.out];exact congrArg (fun p:Pr=>p.aR.length) e)));clear k0 k1 k2 k3 k4 k5 k6;go_wp2_with fail
  go_ret;exact⟨by rw[dt.out];rfl,HB0.out⟩
 have z6:((n12:Int) !=(n22:Int))=false:=by simp[k6]
 by_cases k7:n13=n23;rotate_left
 ·have z7:((n13:Int) !=(n23:Int))=true:=by simp;omega
  have dt:ag (R=false):=ae (by rw[HR.out];exact decide_eq_false (fun e=>k7 (by rw[adj.out,adn.out];exact congrArg (fun p:Pr=>p.ends.length) e)));clear k0 k1 k2 k3 k4 k5 k6 k7;go_wp2_with fail
  go_ret;exact⟨by rw[dt.out];rfl,HB0.out⟩
 have z7:((n13:Int) !=(n23:Int))=false:=by simp[k7]
 obtain⟨E0,E1,E2,E3,E4,E5,E6,E7⟩:=SA k0 k1 k2 k3 k4 k5 k6 k7;clear k0 k1 k2 k3 k4 k5 k6 k7;go_upto_region 3 with fail
 clear z0 z1 z2 z3 z4 z5 z6 z7;go_upto_region 4 with fail
 go_loopw [5] (fun v wr=>∃k:Nat,k≤n11∧v=.int .i64 k∧ag (aW w1 wr)∧ag (eF.take k=dx.take k)) (fun v _=>n11-(intOf v).toNat)
 case atStart=>exact⟨0,bh _,rfl,ae (aM _ _),ae rfl⟩
 case round=>
  obtain⟨k,hk,rfl,HW,hsame⟩:=hrel;obtain⟨wo0,rfl⟩:=bq (wr:World);have px:=ak p3 HW.out;have qx:=ak q3 HW.out;by_cases hlt:k<n11
  ·have hkl:k<eF.length:=by have:=adh.out;omega
   have hkm:k<dx.length:=by have:=adk.out;have:=E5.out;omega
   obtain⟨q1,o1,rfl,hc1⟩:=Ht1.out aQ;obtain⟨q2,o2,rfl,hc2⟩:=Ht2.out (by have:=E5.out;omega);have ht1:=aB hkl;have ht2:=aB hkm;have hne:eF[k]≠dx[k]→eF≠dx:=fun h e=>h (by simp only[e])
   have d10:=ak (ak (hc1 _ _ (aD (fun x:ByteArray=>[bM x]) 1 (fun _=>rfl) (af hkl) (r:=0) rfl)) HB0.out) HW.out;have ky:=ak (ak (hc2 _ _ (aD (fun x:ByteArray=>[bM x]) 1 (fun _=>rfl) (af hkm) (r:=0) rfl)) HB0.out) HW.out;have z0:(k:Int)<(n11:Int):=by omega
   have z1:(k:Int)<(n21:Int):=by have:=E5.out;omega
   have z2:(0:Int)≤(k:Int):=by omega
   generalize eF[k]=U at ht1 hne d10;generalize dx[k]=V at ht2 hne ky;clear hc1 hc2 hkl hkm;simp only[Nat.mul_one,b8]at d10 ky;by_cases hX:U=V
   ·have G1:ag (eF.take (k+1)=dx.take (k+1)):=ae (by rw[ht1,ht2,hsame.out,hX]);have hq:=eX hX;clear ht1 ht2 hne hX;go_upto_region 6 with fail
    go_quiet (fail);go_wp2_with fail
    go_roundw
    case rel=>exact⟨k+1,by omega,by go_num,ae (HW.out.fS _),G1⟩
    case measure=>simp[intOf];omega
   ·have dZ:ag (R=false):=ae (by rw[HR.out];exact decide_eq_false (fun e=>hne hX (congrArg Pr.tags e)));have hq:=fR hX;clear ht1 ht2 hne hX;go_upto_region 6 with fail
    go_quiet (fail);go_wp2_with fail
    go_ret;exact⟨by rw[dZ.out];rfl,after HB0.out (HW.out.fS _)⟩
  ·obtain rfl:k=n11:=by omega
   have he0:eF=dx:=by
    have e:=hsame.out;rw[aJ (by have:=adh.out;omega),aJ (by have:=adk.out;have:=E5.out;omega)]at e;exact e
   have HE0:=ae he0;have agQ:=HW;clear he0 hsame;go_upto_region 9 with fail
   clear px qx;go_loopw [6] (fun v wr=>∃k:Nat,k≤n12∧v=.int .i64 k∧ag (aW w1 wr)∧ag (dw.take k=cI.take k)) (fun v _=>n12-(intOf v).toNat)
   case atStart=>exact⟨0,bh _,rfl,agQ,ae rfl⟩
   case round=>
    obtain⟨k,hk,rfl,HW,hsame⟩:=hrel;obtain⟨wo1,rfl⟩:=bq (wr:World);have px:=ak p4 HW.out;have qx:=ak q4 HW.out;by_cases hlt:k<n12
    ·have hkl:k<dw.length:=by have:=adi.out;omega
     have hkm:k<cI.length:=by have:=adl.out;have:=E6.out;omega
     obtain⟨q1,o1,rfl,hc1⟩:=Ha1.out aQ;obtain⟨q2,o2,rfl,hc2⟩:=Ha2.out (by have:=E6.out;omega);have ht1:=aB hkl;have ht2:=aB hkm;have hne:dw[k]≠cI[k]→dw≠cI:=fun h e=>h (by simp only[e])
     have d10:=ak (ak (hc1 _ _ (aD (fun a:Ad=>a.cells.toList) 3 (fun _=>rfl) (af hkl) (r:=0) rfl)) HB0.out) HW.out;have d11:=ak (ak (hc1 _ _ (aD (fun a:Ad=>a.cells.toList) 3 (fun _=>rfl) (af hkl) (r:=1) rfl)) HB0.out) HW.out;have d12:=ak (ak (hc1 _ _ (aD (fun a:Ad=>a.cells.toList) 3 (fun _=>rfl) (af hkl) (r:=2) rfl)) HB0.out) HW.out;have ky:=ak (ak (hc2 _ _ (aD (fun a:Ad=>a.cells.toList) 3 (fun _=>rfl) (af hkm) (r:=0) rfl)) HB0.out) HW.out;have oN:=ak (ak (hc2 _ _ (aD (fun a:Ad=>a.cells.toList) 3 (fun _=>rfl) (af hkm) (r:=1) rfl)) HB0.out) HW.out;have ov:=ak (ak (hc2 _ _ (aD (fun a:Ad=>a.cells.toList) 3 (fun _=>rfl) (af hkm) (r:=2) rfl)) HB0.out) HW.out;have z0:(k:Int)<(n12:Int):=by omega
     have z1:(k:Int)<(n22:Int):=by have:=E6.out;omega
     have z2:(0:Int)≤(k:Int):=by omega
     generalize dw[k]=U at ht1 hne d10 d11 d12;generalize cI[k]=V at ht2 hne ky oN ov;clear hc1 hc2 hkl hkm;have hqq:=fun W=>abA U V W
     obtain⟨v1,hi1,lo1⟩:=U;obtain⟨v2,hi2,lo2⟩:=V;unfold Ad.cells at hqq;simp only at hqq d10 d11 d12 ky oN ov;rw[b8]at d10 ky;rw[←ku]at d11 d12 oN ov;by_cases hX:(⟨v1,hi1,lo1⟩:Ad)=⟨v2,hi2,lo2⟩
     ·have G1:ag (dw.take (k+1)=cI.take (k+1)):=ae (by rw[ht1,ht2,hsame.out,hX]);have hq:=hqq;rw[decide_eq_true hX]at hq;simp only[Bool.not_true]at hq;clear hqq;clear ht1 ht2 hne hX;go_upto_region 11 with fail
      go_quiet (fail);go_wp2_with fail
      go_roundw
      case rel=>exact⟨k+1,by omega,by go_num,ae (HW.out.fS _),G1⟩
      case measure=>simp[intOf];omega
     ·have dZ:ag (R=false):=ae (by rw[HR.out];exact decide_eq_false (fun e=>hne hX (congrArg Pr.aR e)));have hq:=hqq;rw[decide_eq_false hX]at hq;simp only[Bool.not_false]at hq;clear hqq;clear ht1 ht2 hne hX;go_upto_region 11 with fail
      go_quiet (fail);go_wp2_with fail
      go_ret;exact⟨by rw[dZ.out];rfl,after HB0.out (HW.out.fS _)⟩
    ·obtain rfl:k=n12:=by omega
     have he1:dw=cI:=by
      have e:=hsame.out;rw[aJ (by have:=adi.out;omega),aJ (by have:=adl.out;have:=E6.out;omega)]at e;exact e
     have yr:=ae he1;have agR:=HW;clear he1 hsame;go_upto_region 14 with fail
     clear px qx;go_loopw [7] (fun v wr=>∃k:Nat,k≤n13∧v=.int .i64 k∧ag (aW w1 wr)∧ag (eV.take k=dy.take k)) (fun v _=>n13-(intOf v).toNat)
     case atStart=>exact⟨0,bh _,rfl,agR,ae rfl⟩
     case round=>
      obtain⟨k,hk,rfl,HW,hsame⟩:=hrel;obtain⟨Yn,rfl⟩:=bq (wr:World);have px:=ak p7 HW.out;have qx:=ak q7 HW.out;by_cases hlt:k<n13
      ·have hkl:k<eV.length:=by have:=adj.out;omega
       have hkm:k<dy.length:=by have:=adn.out;have:=E7.out;omega
       obtain⟨q1,o1,rfl,hc1⟩:=He1.out aQ;obtain⟨q2,o2,rfl,hc2⟩:=He2.out (by have:=E7.out;omega);have ht1:=aB hkl;have ht2:=aB hkm;have hne:eV[k]≠dy[k]→eV≠dy:=fun h e=>h (by simp only[e])
       have d10:=ak (ak (hc1 _ _ (aD (cD) 4 (fun _=>rfl) (af hkl) (r:=0) rfl)) HB0.out) HW.out;have d11:=ak (ak (hc1 _ _ (aD (cD) 4 (fun _=>rfl) (af hkl) (r:=1) rfl)) HB0.out) HW.out;have d12:=ak (ak (hc1 _ _ (aD (cD) 4 (fun _=>rfl) (af hkl) (r:=2) rfl)) HB0.out) HW.out;have d13:=ak (ak (hc1 _ _ (aD (cD) 4 (fun _=>rfl) (af hkl) (r:=3) rfl)) HB0.out) HW.out;have ky:=ak (ak (hc2 _ _ (aD (cD) 4 (fun _=>rfl) (af hkm) (r:=0) rfl)) HB0.out) HW.out;have oN:=ak (ak (hc2 _ _ (aD (cD) 4 (fun _=>rfl) (af hkm) (r:=1) rfl)) HB0.out) HW.out;have ov:=ak (ak (hc2 _ _ (aD (cD) 4 (fun _=>rfl) (af hkm) (r:=2) rfl)) HB0.out) HW.out;have ti:=ak (ak (hc2 _ _ (aD (cD) 4 (fun _=>rfl) (af hkm) (r:=3) rfl)) HB0.out) HW.out;have z0:(k:Int)<(n13:Int):=by omega
       have z1:(k:Int)<(n23:Int):=by have:=E7.out;omega
       have z2:(0:Int)≤(k:Int):=by omega
       generalize eV[k]=U at ht1 hne d10 d11 d12 d13;generalize dy[k]=V at ht2 hne ky oN ov ti;clear hc1 hc2 hkl hkm;have hqq:=fun W=>abB U V W
       obtain⟨⟨v1,hi1,lo1⟩,po1⟩:=U;obtain⟨⟨v2,hi2,lo2⟩,po2⟩:=V;unfold cD at hqq;simp only at hqq d10 d11 d12 d13 ky oN ov ti;rw[b8]at d10 ky;rw[←ku]at d11 d12 d13 oN ov ti;by_cases hX:((⟨v1,hi1,lo1⟩,po1):En)=(⟨v2,hi2,lo2⟩,po2)
       ·have G1:ag (eV.take (k+1)=dy.take (k+1)):=ae (by rw[ht1,ht2,hsame.out,hX]);have hq:=hqq;rw[decide_eq_true hX]at hq;simp only[Bool.not_true]at hq;clear hqq;clear ht1 ht2 hne hX;go_upto_region 16 with fail
        go_quiet (fail);go_wp2_with fail
        go_roundw
        case rel=>exact⟨k+1,by omega,by go_num,ae (HW.out.fS _),G1⟩
        case measure=>simp[intOf];omega
       ·have dZ:ag (R=false):=ae (by rw[HR.out];exact decide_eq_false (fun e=>hne hX (congrArg Pr.ends e)));have hq:=hqq;rw[decide_eq_false hX]at hq;simp only[Bool.not_false]at hq;clear hqq;clear ht1 ht2 hne hX;go_upto_region 16 with fail
        go_quiet (fail);go_wp2_with fail
        go_ret;exact⟨by rw[dZ.out];rfl,after HB0.out (HW.out.fS _)⟩
      ·obtain rfl:k=n13:=by omega
       have he2:eV=dy:=by
        have e:=hsame.out;rw[aJ (by have:=adj.out;omega),aJ (by have:=adn.out;have:=E7.out;omega)]at e;exact e
       have HE2:=ae he2;have ahu:=HW;clear he2 hsame;have dZ:ag (R=true):=ae (by
        rw[HR.out];refine decide_eq_true ?_;rw[E0.out,E1.out,E2.out,HE0.out,yr.out,E3.out,E4.out,HE2.out])
       go_wp2_with fail
       go_ret;exact⟨by rw[dZ.out];rfl,after HB0.out HW.out⟩
def um(q:bU→bU→Bool)(xs ys:List bU)(k:Nat):Bool:=match xs[k]?,ys[k]? with|some x,some y=>q x y|_,_=>false
def eqL(q:bU→bU→Bool)(xs ys:List bU):Bool:=decide (xs.length=ys.length)&&(aF xs.length).all (um q xs ys)
theorem WX(xs ys:List bU):eqL (fun X Y=>decide (X.p=Y.p)) xs ys=decide (xs.map (·.p)=ys.map (·.p)):=by
 unfold eqL;rw[Bool.eq_iff_iff,aX,decide_eq_true_eq,decide_eq_true_eq,List.all_eq_true];constructor
 ·rintro⟨h1,h2⟩;apply List.ext_getElem (by rw[ay,ay];exact h1);intro k hk hk2;rw[ay]at hk hk2;have:=h2 k (List.mem_range.2 hk);unfold um at this;rw[af hk,af hk2]at this;rw[List.getElem_map,List.getElem_map];exact of_decide_eq_true this
 ·intro h;have hl:xs.length=ys.length:=by have:=congrArg List.length h;rwa [ay,ay]at this
  refine⟨hl,fun k hk=>?_⟩;have hk1:=List.mem_range.1 hk;have hk2:k<ys.length:=by omega
  unfold um;rw[af hk1,af hk2];refine decide_eq_true ?_;have h1:(xs.map (·.p))[k]? =(ys.map (·.p))[k]? :=by rw[h]
  rw[bS,bS,af hk1,af hk2]at h1;injection h1
theorem WY{w:World}{v1 v2:Value}(xs ys:List bU)(hl:xs.length≤4000000)(hl2:ys.length≤4000000)(h1:aY w v1 xs.length 8 (cZ xs))(h2:aY w v2 ys.length 8 (cZ ys))(hx:∀X∈xs,fC w X)(hy:∀Y∈ys,fC w Y)(q:bU→bU→Bool)(f:Nat)(eg:∀args w,(callFunc f args).run ah w=.ok (.enter f args) w)(hf:∀W,aW w W→∀X∈xs,∀Y∈ys,Calls ah f #[.agg X.vals.toArray,.agg Y.vals.toArray] W (Got (.bool (q X Y)) W)):Calls ah 70 #[v1,v2,.func (.func f) #[] #[]] w (Got (.bool (eqL q xs ys)) w):=by
 obtain⟨A1,cap1,rfl,_,hA1⟩:=h1;obtain⟨A2,cap2,rfl,_,hA2⟩:=h2;obtain⟨HA1,HA2,HX,HY,HF⟩:=ej hA1 hA2 hx hy hf;clear hA1 hA2 hx hy hf;unfold eqL;by_cases hn:xs.length=ys.length
 ·rw[decide_eq_true hn,Bool.true_and];obtain⟨N,hN⟩:=bq xs.length;rw[←hn]at HA2 hl2⊢;rw[←hN]at HA1 HA2 hl⊢;obtain⟨jq,kq⟩:=aN hN (hN.trans hn);clear hn hN hl2;obtain⟨R,hR⟩:=bq ((aF N).all (um q xs ys));rw[←hR];have HR:=ae hR;clear hR;go_enter Tryz.func70,Tryz.ntmps70;go_wp2_with fail
  go_loopw [17] (fun v17 wr=>∃k:Nat,k≤N∧v17=.int .i64 k∧ag (aW w wr)∧ag ((aF k).all (um q xs ys)=true)) (fun v17 _=>N-(intOf v17).toNat)
  case atStart=>exact⟨0,bh _,rfl,ae (aM _ _),ae rfl⟩
  case round=>
   obtain⟨k,hk,rfl,HW,hall⟩:=hrel;obtain⟨wo,rfl⟩:=bq (wr:World);by_cases hlt:k<N
   case neg=>
    obtain rfl:k=N:=by omega
    have dZ:ag (R=true):=ae (by rw[HR.out];exact hall.out);go_wp2_with fail
    go_ret;exact⟨by rw[dZ.out];rfl,HW.out⟩
   have hkl:k<xs.length:=by have:=jq.out;omega
   have hkm:k<ys.length:=by have:=kq.out;omega
   have htw:um q xs ys k=q xs[k] ys[k]:=by
    unfold um;rw[af hkl,af hkm]
   have hcall:=fun u(hu:aW w u)=>HF.out u hu _ (a8 hkl) _ (a8 hkm)
   obtain⟨q1,o1,rfl,hc1⟩:=HA1.out aQ;have hm1:=HX.out _ (a8 hkl);have g10:=aD bU.vals 8 aC (af hkl) (r:=0) rfl;have g11:=aD bU.vals 8 aC (af hkl) (r:=1) rfl;have g12:=aD bU.vals 8 aC (af hkl) (r:=2) rfl;have g13:=aD bU.vals 8 aC (af hkl) (r:=3) rfl;have g14:=aD bU.vals 8 aC (af hkl) (r:=4) rfl;have g15:=aD bU.vals 8 aC (af hkl) (r:=5) rfl;have g16:=aD bU.vals 8 aC (af hkl) (r:=6) rfl;have g17:=aD bU.vals 8 aC (af hkl) (r:=7) rfl;have d10:=ak (hc1 _ _ g10) HW.out;have d11:=ak (hc1 _ _ g11) HW.out;have d12:=ak (hc1 _ _ g12) HW.out;have d13:=ak (hc1 _ _ g13) HW.out;have ji:=ak (hc1 _ _ g14) HW.out;have mE:=ak (hc1 _ _ g15) HW.out;have jF:=ak (hc1 _ _ g16) HW.out;have ny:=ak (hc1 _ _ g17) HW.out;clear hc1 g10 g11 g12 g13 g14 g15 g16 g17;obtain⟨q2,o2,rfl,hc2⟩:=HA2.out aQ;have hm2:=HY.out _ (a8 hkm);have g20:=aD bU.vals 8 aC (af hkm) (r:=0) rfl;have g21:=aD bU.vals 8 aC (af hkm) (r:=1) rfl;have g22:=aD bU.vals 8 aC (af hkm) (r:=2) rfl;have g23:=aD bU.vals 8 aC (af hkm) (r:=3) rfl;have g24:=aD bU.vals 8 aC (af hkm) (r:=4) rfl;have NW:=aD bU.vals 8 aC (af hkm) (r:=5) rfl;have g26:=aD bU.vals 8 aC (af hkm) (r:=6) rfl;have g27:=aD bU.vals 8 aC (af hkm) (r:=7) rfl;have ky:=ak (hc2 _ _ g20) HW.out;have oN:=ak (hc2 _ _ g21) HW.out;have ov:=ak (hc2 _ _ g22) HW.out;have ti:=ak (hc2 _ _ g23) HW.out;have Ao:=ak (hc2 _ _ g24) HW.out;have Aq:=ak (hc2 _ _ NW) HW.out;have WZ:=ak (hc2 _ _ g26) HW.out;have W3:=ak (hc2 _ _ g27) HW.out;clear hc2 g20 g21 g22 g23 g24 NW g26 g27;generalize xs[k]=X at htw hcall hm1 d10 d11 d12 d13 ji mE jF ny;generalize ys[k]=Y at htw hcall hm2 ky oN ov ti Ao Aq WZ W3;generalize q X Y=B at htw hcall;obtain⟨fA,c11,e11⟩:=hm1.tags.shape;obtain⟨ft,c12,e12⟩:=hm1.aR.shape;obtain⟨ig,c13,e13⟩:=hm1.ends.shape;clear hm1;obtain⟨⟨key1,bG,cj,eF,dw,ik,bA,eV⟩,Yi,Yj,ev1⟩:=X;simp only at e11 e12 e13 d10 d11 d12 d13 ji mE jF ny;subst e11 e12 e13;obtain⟨iK,c21,e21⟩:=hm2.tags.shape;obtain⟨iL,iM,e22⟩:=hm2.aR.shape;obtain⟨kY,c23,e23⟩:=hm2.ends.shape;clear hm2;obtain⟨⟨key2,bB,ck,dx,cI,iR,bL,dy⟩,tv2,av2,ev2⟩:=Y;simp only at e21 e22 e23 ky oN ov ti Ao Aq WZ W3;subst e21 e22 e23;unfold bU.vals at hcall;simp only at hcall;generalize eF.length=n11 at*;generalize dw.length=n12 at*;generalize eV.length=n13 at*;generalize dx.length=n21 at*;generalize cI.length=n22 at*;generalize dy.length=n23 at*;rw[b8]at d10 ky;rw[←ku]at d11 d12 d13 ji mE jF ny oN ov ti Ao Aq WZ W3;obtain⟨bI,HTw⟩:=aN hcall htw;clear hcall htw hkl hkm;obtain⟨HB1,mI⟩:=aN (after HW.out (boxed wo (.cells #[.string key1,.string bG,.string cj,.slice fA n11 c11,.slice ft n12 c12,.int .u64 ik,.int .u8 bA,.slice ig n13 c13] 50))) (aG.new wo 50 #[.string key1,.string bG,.string cj,.slice fA n11 c11,.slice ft n12 c12,.int .u64 ik,.int .u8 bA,.slice ig n13 c13]);have hzz:=boxed wo (.cells #[.string key1,.string bG,.string cj,.slice fA n11 c11,.slice ft n12 c12,.int .u64 ik,.int .u8 bA,.slice ig n13 c13] 50);go_upto_region 6 with fail
   generalize wo.alloc (.cells #[.string key1,.string bG,.string cj,.slice fA n11 c11,.slice ft n12 c12,.int .u64 ik,.int .u8 bA,.slice ig n13 c13] 50)=w1 at HB1 mI hzz⊢;generalize wo.heap.size=P at mI⊢;have e20:=ak ky hzz;have e21:=ak oN hzz;have e22:=ak ov hzz;have e23:=ak ti hzz;have e24:=ak Ao hzz;have e25:=ak Aq hzz;have e26:=ak WZ hzz;have e27:=ak W3 hzz;clear hzz d10 d11 d12 d13 ji mE jF ny ky oN ov ti Ao Aq WZ W3;have hb2:=boxed w1 (.cells #[.string key2,.string bB,.string ck,.slice iK n21 c21,.slice iL n22 iM,.int .u64 iR,.int .u8 bL,.slice kY n23 c23] 50);have HB2:=aZ HB1 hb2;obtain⟨HP2,bP⟩:=aN (aG.new w1 50 #[.string key2,.string bB,.string ck,.slice iK n21 c21,.slice iL n22 iM,.int .u64 iR,.int .u8 bL,.slice kY n23 c23]) (bJ mI hb2);clear hb2;go_upto_region 7 with fail
   generalize w1.alloc (.cells #[.string key2,.string bB,.string ck,.slice iK n21 c21,.slice iL n22 iM,.int .u64 iR,.int .u8 bL,.slice kY n23 c23] 50)=w2 at HB2 HP2 bP⊢;generalize w1.heap.size=Q at HP2⊢;have x0:=bP.out.cell 0;have y0:=HP2.out.cell 0;have x1:=bP.out.cell 1;have y1:=HP2.out.cell 1;have x2:=bP.out.cell 2;have y2:=HP2.out.cell 2;have x3:=bP.out.cell 3;have y3:=HP2.out.cell 3;have x4:=bP.out.cell 4;have y4:=HP2.out.cell 4;have x5:=bP.out.cell 5;have y5:=HP2.out.cell 5;have x6:=bP.out.cell 6;have y6:=HP2.out.cell 6;have x7:=bP.out.cell 7;have y7:=HP2.out.cell 7;simp at x0 y0 x1 y1 x2 y2 x3 y3 x4 y4 x5 y5 x6 y6 x7 y7;clear e20 e21 e22 e23 e24 e25 e26 e27;cases B with
   |false=>
    have dZ:ag (R=false):=ae (by rw[HR.out];exact fq hlt HTw.out);go_wp2_with(go_at_fn f;(with_reducible refine(bI.out _ HB2.out).mono ?_);rintro r w3⟨rfl,d3⟩;have HB3:=aZ HB2 d3;clear d3)
    go_ret;exact⟨by rw[dZ.out];rfl,HB3.out⟩
   |true=>
    have ado:ag ((aF (k+1)).all (um q xs ys)=true):=ae (by rw[eZ,hall.out,HTw.out];rfl);go_wp2_with(go_at_fn f;(with_reducible refine(bI.out _ HB2.out).mono ?_);rintro r w3⟨rfl,d3⟩;have HB3:=aZ HB2 d3;clear d3)
    go_roundw
    case rel=>exact⟨k+1,by omega,by go_num,HB3,ado⟩
    case measure=>simp[intOf];omega
 ·rw[decide_eq_false hn,Bool.false_and];generalize xs.length=N1 at*;generalize ys.length=N2 at*;have hne:((N1:Int) !=(N2:Int))=true:=by simp;omega
  clear hn HA1 HA2;go_enter Tryz.func70,Tryz.ntmps70;go_wp2_with fail
  go_ret;exact⟨rfl,aM _ _⟩
end Go.Proofs.YtkjaajcpbldjoaaGreatDoor
