/- Joined out of: EyE EyF NfE NfF DfA BhA BhB. -/
import Derived.Test.YtkjaajcpbldjoaaGreatDoorKaj
import Derived.RegionTactic
import Derived.ChangeAlike
import Derived.LoopTactic
import Derived.StillTailTactics
set_option linter.unusedVariables false
set_option linter.unusedSimpArgs false
set_option maxHeartbeats 16000000
set_option maxRecDepth 100000
open Bool renaming true_and→bV,false_and→ux
open Go.Lib renaming hid→ae
open Go.Proofs.Tryz renaming prog→ah
open Go.RowKit renaming Hid→ag
open Go.World renaming ownsRow_nil→bg
open List renaming getElem?_eq_getElem→af,length_append→ai,length_map→ay,getD_eq_getElem?_getD→aE,range→aF,replicate→aS,getElem_mem→a8,length_singleton→dn,mem_map_of_mem→eC,take_zero→ME,take_succ_cons→ag6,drop_zero→ag7,drop_succ_cons→ag8
open Nat renaming le_trans→aw
namespace Go.Proofs.YtkjaajcpbldjoaaGreatDoor
open Go.RowKit
attribute [local go_sem↓] Go.wp_at_zero Go.wp_at_succ
theorem yD(s:ByteArray):s.toList.isEmpty=decide (s.size=0):=by
 obtain⟨⟨l⟩⟩:=s;rw[show(⟨⟨l⟩⟩:ByteArray).toList.isEmpty=l.isEmpty from YZ l];cases l with
 |nil=>rfl
 |cons x r=>exact(decide_eq_false (show¬(r.length+1=0) by omega)).symm
def QT(s:ByteArray):Nat:=if s.size=0 then 0 else 8
theorem QU{w:World}{rb:Nat}{s:ByteArray}(h:Rd w rb s 0):Calls ah 91 #[.pointer (some ⟨rb,0,none⟩)] w fun r w'=>r=.returned (.int .i64 (QT s:Int))∧w=w':=by
 have c0:=h.cells.1;have c1:w.cell? ⟨rb,1,none⟩=some (.int .i64 0):=h.cells.2;have HF:=ae (xy h);clear h;have he:=yD s;by_cases hz:s.size=0
 ·rw[show QT s=0 from if_pos hz];rw[decide_eq_true hz]at he;have he2:s.toList=[]:=List.isEmpty_iff.1 he;clear hz;go_enter Tryz.func91,Tryz.ntmps91;go_wp2_with(go_at_call 135;refine HF.out.mono ?_;rintro r w1⟨rfl,rfl⟩)
  go_ret;exact⟨rfl,rfl⟩
 ·rw[show QT s=8 from if_neg hz];rw[decide_eq_false hz]at he;clear hz;go_enter Tryz.func91,Tryz.ntmps91;go_wp2_with fail
  go_ret;exact⟨rfl,rfl⟩
abbrev Three(b rb mb:Nat):Nat→Prop:=fun k=>k=b∨k=rb∨k=mb
theorem qo{S T:Nat→Prop}{a b c:World}(h:Keeps T a b)(k:Keeps S b c)(hST:∀i,i<a.heap.size→S i→T i):Keeps T a c:=⟨k.os.trans h.os,k.tape.trans h.tape,k.output.trans h.output,aw h.size k.size,fun i hi hT=>(k.block i (Nat.lt_of_lt_of_le hi h.size) fun hs=>hT (hST i hi hs)).trans (h.block i hi hT)⟩
def Reads(f:Nat)(lb:Array Value)(s:ByteArray)(mb:Nat)(J:World→Prop)(e':Ey)(w:World):Prop:=∀W b rb,aW w W→w.heap.size≤b→w.heap.size≤rb→cf W b rb ⟨s,0,false⟩→Calls ah f (#[.pointer (some ⟨b,0,none⟩)]++lb) W fun r W'=>r=.returned (.tuple #[])∧J W'∧cf W' b rb e'∧Keeps (Three b rb mb) W W'
theorem AW{w:World}{s:ByteArray}{f mb:Nat}{lb:Array Value}{J:World→Prop}{e':Ey}(hs:s.size≤4000000)(eg:∀args w,(callFunc f args).run ah w=.ok (.enter f args) w)(hf:Reads f lb s mb J e' w):Calls ah 33 #[.string s,.func (.func f) #[] lb] w fun r w'=>r=.returned (.bool (decide (s.size≤32768)&&tY e'))∧J w'∧Keeps (fun k=>k=mb) w w':=by
 have hnew:=new_any s w;have hread:∀w1,Rd w1 w.heap.size s 0→aW w w1→Calls ah f (#[.pointer (some ⟨w1.heap.size,0,none⟩)]++lb) (w1.alloc (.cells #[.pointer (some ⟨w.heap.size,0,none⟩),.bool false] 86)) fun r W'=>r=.returned (.tuple #[])∧J W'∧cf W' w1.heap.size w.heap.size e'∧Keeps (fun k=>k=mb) w W':=fun w1 h1 h2=>by
  have hb:=boxed w1 (.cells #[.pointer (some ⟨w.heap.size,0,none⟩),.bool false] 86);have h3:=after h2 hb;have hz:=h2.size;refine(hf _ w1.heap.size w.heap.size h3 hz (Nat.le_refl _) ⟨aG.new _ _ _,h1.below hb⟩).mono ?_;rintro r W'⟨rfl,hJ,hE,hK⟩;refine⟨rfl,hJ,hE,qo (Keeps.of_below (S:=fun k=>k=mb) h3 fun _ h _=>h) hK fun i hi h=>?_⟩;rcases h with h|h|h
  ·omega
  ·omega
  ·exact h
 have hfin:=fun u b rb(hu:cf u b rb e')=>jT hu
 have hend:=fun u b rb(hu:cf u b rb e')(hf:e'.f=0)=>QU (by have:=hu.rd;rw[hf]at this;exact this)
 obtain⟨iY,nc,HFin,KE⟩:=cY hnew hread hfin hend;clear hnew hread hfin hend hf;by_cases hl:s.size≤32768
 ·have hl2:¬32768<s.size:=by omega
  rw[decide_eq_true hl,bV];unfold tY;cases hF:e'.iH with
  |false=>
   rw[ux];rw[hF]at HFin;clear hF KE;go_enter Tryz.func33,Tryz.ntmps33;go_wp2_with(first
    |(go_at_call 89;refine iY.out.mono ?_;rintro r w1⟨rfl,h1,d1⟩;have HR1:=ae (nc.out w1 h1 d1);clear h1 d1)
    |(go_at_fn f;(with_reducible refine HR1.out.mono ?_);rintro r w2⟨rfl,j2,e2,k2⟩;obtain⟨J2,E2,K2⟩:=bu j2 e2 k2;have c2:=e2.c0;clear j2 e2 k2)
    |(go_at_call 90;refine(HFin.out _ _ _ E2.out).mono ?_;rintro r w3⟨rfl,rfl⟩))
   go_ret;exact⟨rfl,J2.out,K2.out⟩
  |true=>
   have hfi:=(Ey.pJ e').1 hF;rw[bV];rw[hF]at HFin;have HF0:=ae hfi.1;have hz:(((QT e'.s:Nat):Int)==0)=decide (e'.s.size=0):=by
    unfold QT;by_cases h:e'.s.size=0
    ·rw[if_pos h,decide_eq_true h];rfl
    ·rw[if_neg h,decide_eq_false h];rfl
   generalize decide (e'.s.size=0)=B at hz⊢;generalize QT e'.s=E0 at hz KE;clear hF hfi;go_enter Tryz.func33,Tryz.ntmps33;go_wp2_with(first
    |(go_at_call 89;refine iY.out.mono ?_;rintro r w1⟨rfl,h1,d1⟩;have HR1:=ae (nc.out w1 h1 d1);clear h1 d1)
    |(go_at_fn f;(with_reducible refine HR1.out.mono ?_);rintro r w2⟨rfl,j2,e2,k2⟩;obtain⟨J2,E2,K2⟩:=bu j2 e2 k2;have c2:=e2.c0;clear j2 e2 k2)
    |(go_at_call 90;refine(HFin.out _ _ _ E2.out).mono ?_;rintro r w3⟨rfl,rfl⟩)
    |(go_at_call 91;refine(KE.out _ _ _ E2.out HF0.out).mono ?_;rintro r w4⟨rfl,rfl⟩))
   go_ret;exact⟨rfl,J2.out,K2.out⟩
 ·have hl2:32768<s.size:=by omega
  rw[decide_eq_false hl,ux];clear hl;go_enter Tryz.func33,Tryz.ntmps33;go_wp2_with(first
   |(go_at_call 89;refine iY.out.mono ?_;rintro r w1⟨rfl,h1,d1⟩;have HR1:=ae (nc.out w1 h1 d1);clear h1 d1)
   |(go_at_fn f;(with_reducible refine HR1.out.mono ?_);rintro r w2⟨rfl,j2,e2,k2⟩;obtain⟨J2,K2⟩:=aN j2 k2;clear j2 e2 k2))
  go_ret;exact⟨rfl,J2.out,K2.out⟩
def aaj(w:World)(B mb:Nat)(m:Mp):Prop:=∃A1 c1 A2 c2,aG w mb 26 #[.int .u64 (m.version:Int),.slice A1 m.aK.length c1,.slice A2 m.ax.length c2,.string m.policy]∧cn w B (.slice A1 m.aK.length c1) m.aK∧w.ownsRow B 57 6 (.slice A2 m.ax.length c2) m.ax.length (dQ m.ax)
theorem ac0(e:Ey):Iw e=(⟨(bK 8 e).1,(cq Gt (bK 8 e).2).1,(cq Iu (cq Gt (bK 8 e).2).2).1,(gi (cq Iu (cq Gt (bK 8 e).2).2).2).1⟩,(gi (cq Iu (cq Gt (bK 8 e).2).2).2).2):=rfl
theorem cn.far{w:World}{B M k:Nat}{v u:Value}{l:List Pr}(h:cn w B v l)(hM:M<B):cn (w.setCell ⟨M,k,none⟩ u) B v l:=by
 obtain⟨xs,h1,h2,h3⟩:=h;exact⟨xs,h1,aU h2 hM,fun X hX=>⟨aU (h3 X hX).tags hM,aU (h3 X hX).aR hM,aU (h3 X hX).ends hM⟩⟩
theorem cn.above{S:Nat→Prop}{w w':World}{B:Nat}{v:Value}{l:List Pr}(h:cn w B v l)(hk:Keeps S w w')(hS:∀k,S k→k<B):cn w' B v l:=by
 obtain⟨xs,h1,h2,h3⟩:=h;exact⟨xs,h1,cJ h2 hk hS,fun X hX=>(h3 X hX).above hk hS⟩
theorem cn.mono{w:World}{B B':Nat}{v:Value}{l:List Pr}(h:cn w B v l)(hb:B'≤B):cn w B' v l:=by
 obtain⟨xs,h1,h2,h3⟩:=h;exact⟨xs,h1,h2.mono hb,fun X hX=>(h3 X hX).mono hb⟩
theorem VZ{w:World}{b rb mb:Nat}{e:Ey}(h:cf w b rb e)(hs:e.s.size≤4000000)(hm:aG w mb 26 #[.int .u64 0,au,au,aI]){B:Nat}(hB:B≤w.heap.size)(hBm:mb<B):Calls ah 34 #[.pointer (some ⟨b,0,none⟩),.pointer (some ⟨mb,0,none⟩)] w fun r w'=>r=.returned (.tuple #[])∧aaj w' B mb (Iw e).1∧cf w' b rb (Iw e).2∧Keeps (Three b rb mb) w w':=by
 have hbl:=h.lt.1;have hrl:=h.lt.2;have hml:=hm.lt;have hne:mb≠b:=aG.vP hm h.blk aH;have hnr:mb≠rb:=aG.vP hm h.rd aH;have l1:=aw (ef 8 e) hs;rw[ac0];have hc1:=ua h hs;generalize(bK 8 e).2=e1 at*;generalize(bK 8 e).1=ver at*;have l2:=aw (iJ Dn e1) l1;have hc2:=fun u(hu:cf u b rb e1)=>yw hu l1 Gt Dn 37 (enters_of Tryz.func37 bo rfl) (pb:=b) fun W u h1 h2=>yy h1 h2
 generalize(cq Gt e1).2=e2 at*;generalize(cq Gt e1).1=aK at*;have l3:=aw (iJ Dp e2) l2;have hc3:=fun u(hu:cf u b rb e2)=>yu hu l2 Iu Dp 39 (enters_of Tryz.func39 bo rfl) (pb:=b) fun W u h1 h2=>vl h1 h2
 generalize(cq Iu e2).2=e3 at*;generalize(cq Iu e2).1=ax at*;have hc4:=fun u(hu:cf u b rb e3)=>wK hu l3
 generalize(gi e3).2=e4 at*;generalize(gi e3).1=pol at*;unfold aaj;simp only;obtain⟨n1,hn1⟩:=bq aK.length;obtain⟨n2,hn2⟩:=bq ax.length;unfold iD at hc1 hc4;unfold Dq at hc2;unfold lC at hc3;rw[←hn1]at hc2⊢;rw[←hn2]at hc3⊢;have a0:=h.c0;obtain⟨C1,C2,C3,C4,HM0⟩:=ej hc1 hc2 hc3 hc4 hm;have qE:ag (∀k,Three b rb mb k→k<w.heap.size):=ae (by rintro k(rfl|rfl|rfl)<;>assumption);have NF:¬Two b rb mb:=by rintro(h|h)<;>contradiction
 obtain⟨HBB,HBm⟩:=aN hB hBm;clear hn1 hn2 hc1 hc2 hc3 hc4 h hm hs l1 l2 l3 hB hBm;have T3:ag (∀u v:World,Keeps (Two b rb) u v→Keeps (Three b rb mb) u v):=ae (fun _ _ hk=>hk.mono fun _ _ h=>h.elim Or.inl fun h=>Or.inr (Or.inl h));go_enter Tryz.func34,Tryz.ntmps34;go_upto_region 1 with(go_at_call 35;refine C1.out.mono ?_;rintro r w1⟨rfl,g1,k1⟩;have m1:=HM0.out.keep k1 NF;have d1:=m1.cell 0;have f1:=m1.frozen 0;simp at d1;have TJ:ag (aG (w1.setCell ⟨mb,0,none⟩ (.int .u64 ver)) mb 26 #[.int .u64 ver,au,au,aI]):=ae (m1.aL 0 (.int .u64 ver));obtain⟨yr,qO⟩:=aN (g1.far (p:=⟨mb,0,none⟩) hne.symm hnr.symm (.int .u64 ver)) ((T3.out _ _ k1).setCell (p:=⟨mb,0,none⟩) (Or.inl (Or.inr (Or.inr rfl))) (.int .u64 ver));clear m1 g1 k1)
 generalize w1.setCell ⟨mb,0,none⟩ (.int .u64 ver)=w2 at TJ yr qO⊢;clear d1 f1 a0 C1 HM0;have a1:=yr.out.c0;have HZ2:ag (w.heap.size≤w2.heap.size):=ae qO.out.size;go_upto_region 2 with(first
  |(go_at_call 36;refine(C2.out _ yr.out).mono ?_;rintro r w3⟨⟨A1,c1,rfl,o3⟩,g3,k3⟩;obtain⟨mJ,Iz,j8,nz⟩:=cY (TJ.out.keep k3 NF) g3 (qO.out.trans (T3.out _ _ k3)) (o3.mono HZ2.out);clear o3 g3 k3)
  |(go_at_call 38;refine(C3.out _ Iz.out).mono ?_;rintro r w4⟨⟨A2,c2,rfl,o4⟩,g4,k4⟩;have m4:=mJ.out.keep k4 NF;have d4:=m4.cell 1;have d5:=m4.cell 2;simp at d4 d5;have f4:=m4.frozen 1;have f5:=m4.frozen 2;have Es:ag (aG ((w4.setCell ⟨mb,1,none⟩ (.slice A1 n1 c1)).setCell ⟨mb,2,none⟩ (.slice A2 n2 c2)) mb 26 #[.int .u64 ver,.slice A1 n1 c1,.slice A2 n2 c2,aI]):=ae ((m4.aL 1 (.slice A1 n1 c1)).aL 2 (.slice A2 n2 c2));have HE4:=ae ((g4.far (p:=⟨mb,1,none⟩) hne.symm hnr.symm (.slice A1 n1 c1)).far (p:=⟨mb,2,none⟩) hne.symm hnr.symm (.slice A2 n2 c2));have AN:=ae (((j8.out.trans (T3.out _ _ k4)).setCell (p:=⟨mb,1,none⟩) (Or.inl (Or.inr (Or.inr rfl))) (.slice A1 n1 c1)).setCell (p:=⟨mb,2,none⟩) (Or.inl (Or.inr (Or.inr rfl))) (.slice A2 n2 c2));obtain⟨wN,Ns⟩:=aN (((nz.out.above (T3.out _ _ k4) qE.out).far (k:=1) (u:=.slice A1 n1 c1) hml).far (k:=2) (u:=.slice A2 n2 c2) hml) (aU (k:=2) (u:=.slice A2 n2 c2) (aU (k:=1) (u:=.slice A1 n1 c1) (o4.mono j8.out.size) hml) hml);clear o4 g4 k4 m4))
 generalize(w4.setCell ⟨mb,1,none⟩ (.slice A1 n1 c1)).setCell ⟨mb,2,none⟩ (.slice A2 n2 c2)=w5 at Es HE4 AN wN Ns⊢;clear d4 d5 f4 f5 a1 C2 C3 mJ Iz j8 nz TJ yr qO;have a5:=HE4.out.c0;go_wp2_with(go_at_call 40;refine(C4.out _ HE4.out).mono ?_;rintro r w6⟨rfl,g6,k6⟩;have m6:=Es.out.keep k6 NF;have d6:=m6.cell 3;simp at d6;have f6:=m6.frozen 3;have zd:ag (aG (w6.setCell ⟨mb,3,none⟩ (.string pol)) mb 26 #[.int .u64 ver,.slice A1 n1 c1,.slice A2 n2 c2,.string pol]):=ae (m6.aL 3 (.string pol));obtain⟨HE6,tI,HO6,HQ6⟩:=cY (g6.far (p:=⟨mb,3,none⟩) hne.symm hnr.symm (.string pol)) ((AN.out.trans (T3.out _ _ k6)).setCell (p:=⟨mb,3,none⟩) (Or.inl (Or.inr (Or.inr rfl))) (.string pol)) ((wN.out.above (T3.out _ _ k6) qE.out).far (k:=3) (u:=.string pol) hml) (aU (k:=3) (u:=.string pol) (cJ Ns.out (T3.out _ _ k6) qE.out) hml);clear g6 k6 m6)
 go_end0
 exact⟨rfl,⟨A1,c1,A2,c2,zd.out,HO6.out.mono HBB.out,HQ6.out.mono HBB.out⟩,HE6.out,tI.out⟩
theorem KY{a:Ad}(h:zC a):a.Ok:=by
 rcases h with⟨_,h1,h2⟩|⟨_,h1,h2⟩
 ·exact⟨by omega,by omega⟩
 ·exact⟨h1,h2⟩
theorem Du{p:Pr}(h:Ko p):mW p∧gm p:=⟨⟨h.exp,h.bm,fun a ha=>KY (h.aR.2 a ha),fun e he=>⟨KY (h.ends.2 e he).1,(h.ends.2 e he).2⟩⟩,⟨by have:=h.user;omega,by have:=h.tags.1;omega,by have:=h.aR.1;omega,by have:=h.ends.1;omega,fun t ht=>by have:=h.tags.2 t ht;omega⟩⟩
theorem V0{r:Ry}(h:Kp r):uX r:=⟨h.id,KY h.fin.1,h.fin.2⟩
theorem V1{m:Mp}(h:Qw m):kM m∧∀p∈m.aK,gm p:=⟨⟨h.version,fun p hp=>(Du (h.aK.2 p hp)).1,fun r hr=>V0 (h.ax.2 r hr)⟩,fun p hp=>(Du (h.aK.2 p hp)).2⟩
theorem QV(s:ByteArray):((decide (s.size≤32768)&&tY (Iw ⟨s,0,false⟩).2)=false∧mT s=(Mp.zero,8))∨((decide (s.size≤32768)&&tY (Iw ⟨s,0,false⟩).2)=true∧Qw (Iw ⟨s,0,false⟩).1∧(uU (Iw ⟨s,0,false⟩).1).length≤32768∧mT s=if(cT (Iw ⟨s,0,false⟩).1).2=0 then((Iw ⟨s,0,false⟩).1,0)else(Mp.zero,(cT (Iw ⟨s,0,false⟩).1).2)):=by
 by_cases hs:32768<s.size
 ·refine Or.inl ⟨by rw[decide_eq_false aQ];rfl,?_⟩;have:eD mpP s.data.toList=none:=by unfold eD;rw[if_pos (by rw[dT];exact hs)]
  unfold mT;rw[this]
 ·rcases AU acR s hs with⟨h1,h2⟩|⟨h1,h2⟩
  ·refine Or.inr ⟨by rw[decide_eq_true aQ,h1];rfl,?_⟩;have hq:∃z,mpP s.data.toList=some z∧z=((Iw ⟨s,0,false⟩).1,[]):=by
    unfold eD at h2;rw[if_neg (by rw[dT];exact hs)]at h2;split at h2
    ·next x hx=>injection h2 with h2;subst h2;exact⟨_,hx,rfl⟩
    ·cases h2
   obtain⟨z,hz,rfl⟩:=hq;obtain⟨e1,e2⟩:=CY.same _ _ _ hz;rw[List.append_nil]at e1;refine⟨e2,by rw[←e1,dT];omega,?_⟩;unfold mT;rw[h2]
  ·refine Or.inl ⟨by rw[h1,Bool.and_false],?_⟩;unfold mT;rw[h2]
def AX(m:Mp)(e:Nat)(w:World)(r:Ending)(w':World):Prop:=(∃A1 c1 A2 c2,r=.returned (.tuple #[.agg #[.int .u64 (m.version:Int),.slice A1 m.aK.length c1,.slice A2 m.ax.length c2,.string m.policy],.int .i64 e])∧dJ w' (.slice A1 m.aK.length c1) m.aK∧fy w' (.slice A2 m.ax.length c2) m.ax)∧aW w w'
theorem sJ(w:World)(size:Nat):aY w au 0 size []:=⟨none,0,rfl,by simp,fun h=>absurd h aH⟩
theorem iN(w:World):dJ w au []:=⟨[],rfl,sJ w 8,fun X hX=>by cases hX⟩
theorem dN(w:World):fy w au []:=sJ w 6
theorem iw{w:World}{g:Nat}{v0 v1 v2 v3:Value}(h:aG w g 26 #[v0,v1,v2,v3]):(loadVar 26 ⟨g,0,none⟩).run ah w=.ok (.agg #[v0,v1,v2,v3]) w:=by
 have c0:=h.cell 0;have c1:=h.cell 1;have c2:=h.cell 2;have c3:=h.cell 3;simp at c0 c1 c2 c3;simp[loadVar,go_sem,c0,c1,c2,c3]
theorem jC{W w:World}{P:Nat}{z0 z1 z2 z3:Value}(hP:aG w P 26 #[z0,z1,z2,z3])(hb:aW W w)(hW:W.heap.size≤P)(v0 v1 v2 v3:Value):aG ((((w.setCell ⟨P,0,none⟩ v0).setCell ⟨P,1,none⟩ v1).setCell ⟨P,2,none⟩ v2).setCell ⟨P,3,none⟩ v3) P 26 #[v0,v1,v2,v3]∧aW W ((((w.setCell ⟨P,0,none⟩ v0).setCell ⟨P,1,none⟩ v1).setCell ⟨P,2,none⟩ v2).setCell ⟨P,3,none⟩ v3):=⟨(((hP.aL 0 v0).aL 1 v1).aL 2 v2).aL 3 v3,(((hb.setCell (p:=⟨P,0,none⟩) hW v0).setCell (p:=⟨P,1,none⟩) hW v1).setCell (p:=⟨P,2,none⟩) hW v2).setCell (p:=⟨P,3,none⟩) hW v3⟩
theorem cn.low{w w':World}{B:Nat}{v:Value}{l:List Pr}(h:cn w B v l)(hb:aW w w'):cn w' B v l:=by
 obtain⟨xs,h1,h2,h3⟩:=h;exact⟨xs,h1,own_below h2 hb,fun X hX=>(h3 X hX).low hb⟩
theorem decode_any{w:World}(env:Env w)(s:ByteArray)(hs:s.size≤4000000):Calls ah 9 #[.string s] w (AX (mT s).1 (mT s).2 w):=by
 have hz:=boxed w (.cells #[.int .u64 0,au,au,aI] 26);have hP:=aG.new w 26 #[.int .u64 0,au,au,aI];have hrd:=fun(w2:World)(M:Nat)(hM:aG w2 M 26 #[.int .u64 0,au,au,aI])=>AW (w:=w2) (mb:=M) (J:=fun W=>aaj W w2.heap.size M (Iw ⟨s,0,false⟩).1) (e':=(Iw ⟨s,0,false⟩).2) (lb:= #[.pointer (some ⟨M,0,none⟩)]) hs (enters_of Tryz.func34 bo rfl) (fun W b rb hW hb hr hE=>VZ hE hs (hM.below hW hM.lt) hW.size hM.lt)
 have hcs:=QV s;have IA:=fun u(hu:aW w u)=>env.below hu
 generalize(Iw ⟨s,0,false⟩).2=e2 at*;generalize(Iw ⟨s,0,false⟩).1=m at*;generalize(decide (s.size≤32768)&&tY e2)=OK at hcs hrd;obtain⟨j6,HP,HB⟩:=bu hrd hP hz;rcases hcs with⟨rfl,hd⟩|⟨rfl,hok,hml,hd⟩
 ·rw[hd];unfold AX Mp.zero;clear hd IA hrd hP hz;go_enter Tryz.func9,Tryz.ntmps9;go_upto_region 1 with fail
  generalize w.alloc (.cells #[.int .u64 0,au,au,aI] 26)=w1 at HP HB⊢;generalize hPw:w.heap.size=P at HP⊢;have kr:=ae hPw;clear hPw;have hb2:=boxed w1 (.cells #[.int .u64 0,au,au,aI] 26);have HB2:=aZ HB hb2;obtain⟨HP2,pI,Ez⟩:=bu (bJ HP hb2) (aG.new w1 26 #[.int .u64 0,au,au,aI]) HP.out.lt;clear hb2;go_upto_region 2 with fail
  generalize w1.alloc (.cells #[.int .u64 0,au,au,aI] 26)=w2 at HB2 HP2 pI⊢;generalize w1.heap.size=M at pI Ez⊢;go_wp2_with(go_at_call 33;refine(j6.out w2 M pI.out).mono ?_;rintro r w3⟨rfl,j3,k3⟩;have hP3:=HP2.out.keep k3 (Nat.ne_of_lt Ez.out);have HB3:=ae (HB2.out.trans (k3.below (B:=w.heap.size) (fun k hk=>by have:=kr.out;have:=Ez.out;omega) HB2.out.size));have c0:=hP3.cell 0;have c1:=hP3.cell 1;have c2:=hP3.cell 2;have c3:=hP3.cell 3;simp at c0 c1 c2 c3;have fr:=fun i=>hP3.frozen i;have fU:=ae hP3;clear hP3 j3 k3)
  obtain⟨s1,s2⟩:=jC fU.out HB3.out (Nat.le_of_eq kr.out) (.int .u64 0) au au aI;exact bodyPost_ret (bD rfl rfl rfl (iw s1)) rfl ⟨⟨none,0,none,0,rfl,iN _,dN _⟩,s2⟩
 ·obtain⟨fit,sz⟩:=V1 hok;have hpl:=hok.aK.1;have hrl:=hok.ax.1;have hol:=hok.policy;have hmay:=fun u pv rv(hu:aW w u)(hp:dJ u pv m.aK)(hr:fy u rv m.ax)=>mX (IA u hu) hp hr fit sz aQ aQ aQ (fun _=>by omega)
  rw[hd];unfold aaj at j6;generalize(cT m).2=E at*;obtain⟨ver,aK,ax,pol⟩:=m;simp only at*;obtain⟨n1,hn1⟩:=bq aK.length;obtain⟨n2,hn2⟩:=bq ax.length;rw[←hn1,←hn2]at j6;obtain⟨jq,kq,vK⟩:=bu hn1 hn2 hmay;clear hd IA hrd hP hz hok fit sz hpl hrl hol hml hmay hn1 hn2;by_cases hE:E=0
  ·rw[if_pos hE];subst hE;unfold AX;simp only;rw[←jq.out,←kq.out];go_enter Tryz.func9,Tryz.ntmps9;go_upto_region 1 with fail
   generalize w.alloc (.cells #[.int .u64 0,au,au,aI] 26)=w1 at HP HB⊢;generalize hPw:w.heap.size=P at HP⊢;have kr:=ae hPw;clear hPw;have hb2:=boxed w1 (.cells #[.int .u64 0,au,au,aI] 26);have HB2:=aZ HB hb2;obtain⟨HP2,pI,Ez⟩:=bu (bJ HP hb2) (aG.new w1 26 #[.int .u64 0,au,au,aI]) HP.out.lt;clear hb2;go_upto_region 2 with fail
   generalize w1.alloc (.cells #[.int .u64 0,au,au,aI] 26)=w2 at HB2 HP2 pI⊢;generalize w1.heap.size=M at pI Ez⊢;have Ce:=ae (j6.out w2 M pI.out);have QW:ag (P<w2.heap.size):=ae (by have:=pI.out.lt;have:=Ez.out;omega);clear j6;go_upto_region 4 with(go_at_call 33;refine Ce.out.mono ?_;rintro r w3⟨rfl,⟨A1,c1,A2,c2,hB3,hO3,Yk⟩,k3⟩;have fU:=ae (HP2.out.keep k3 (Nat.ne_of_lt Ez.out));have HB3:=ae (HB2.out.trans (k3.below (B:=w.heap.size) (fun k hk=>by have:=kr.out;have:=Ez.out;omega) HB2.out.size));obtain⟨mJ,nz,yj⟩:=bu hB3 hO3 Yk;clear hB3 hO3 Yk k3)
   obtain⟨x0,x1,x2,x3⟩:=dV mJ;have QX:=ae (vK.out w3 (.slice A1 n1 c1) (.slice A2 n2 c2) HB3.out nz.out.rd (by have:=aY.dh yj.out;rw[kq.out]at this⊢;exact this));go_wp2_with(go_at_call 22;refine QX.out.mono ?_;rintro r w4⟨rfl,d4⟩;have y0:=ak x0 d4;have y1:=ak x1 d4;have y2:=ak x2 d4;have y3:=ak x3 d4;have nT:=bJ fU d4;have c0:=nT.cell 0;have c1':=nT.cell 1;have c2':=nT.cell 2;have c3:=nT.cell 3;simp at c0 c1' c2' c3;have fr:=fun i=>nT.frozen i;have qT:=ae nT;have HB4:=aZ HB3 d4;obtain⟨wN,Ns⟩:=aN (nz.out.low d4) (own_below yj.out d4);clear nT d4)
   obtain⟨s1,s2⟩:=jC qT.out HB4.out (Nat.le_of_eq kr.out) (.int .u64 ver) (.slice A1 n1 c1) (.slice A2 n2 c2) (.string pol);have o1:=(((wN.out.far (k:=0) (u:=.int .u64 ver) QW.out).far (k:=1) (u:=.slice A1 n1 c1) QW.out).far (k:=2) (u:=.slice A2 n2 c2) QW.out).far (k:=3) (u:=.string pol) QW.out;have q1:=aU (k:=3) (u:=.string pol) (aU (k:=2) (u:=.slice A2 n2 c2) (aU (k:=1) (u:=.slice A1 n1 c1) (aU (k:=0) (u:=.int .u64 ver) Ns.out QW.out) QW.out) QW.out) QW.out;exact bodyPost_ret (bD rfl rfl rfl (iw s1)) rfl ⟨⟨A1,c1,A2,c2,rfl,o1.rd,by have:=aY.dh q1;rw[kq.out]at this⊢;exact this⟩,s2⟩
  ·rw[if_neg hE];unfold AX Mp.zero;simp only[List.length_nil];have hE2:((E:Int) !=0)=true:=by simp;omega
   have hE3:((E:Int)==0)=false:=by simp;omega
   clear hE;go_enter Tryz.func9,Tryz.ntmps9;go_upto_region 1 with fail
   generalize w.alloc (.cells #[.int .u64 0,au,au,aI] 26)=w1 at HP HB⊢;generalize hPw:w.heap.size=P at HP⊢;have kr:=ae hPw;clear hPw;have hb2:=boxed w1 (.cells #[.int .u64 0,au,au,aI] 26);have HB2:=aZ HB hb2;obtain⟨HP2,pI,Ez⟩:=bu (bJ HP hb2) (aG.new w1 26 #[.int .u64 0,au,au,aI]) HP.out.lt;clear hb2;go_upto_region 2 with fail
   generalize w1.alloc (.cells #[.int .u64 0,au,au,aI] 26)=w2 at HB2 HP2 pI⊢;generalize w1.heap.size=M at pI Ez⊢;have Ce:=ae (j6.out w2 M pI.out);have QW:ag (P<w2.heap.size):=ae (by have:=pI.out.lt;have:=Ez.out;omega);clear j6;go_upto_region 4 with(go_at_call 33;refine Ce.out.mono ?_;rintro r w3⟨rfl,⟨A1,c1,A2,c2,hB3,hO3,Yk⟩,k3⟩;have fU:=ae (HP2.out.keep k3 (Nat.ne_of_lt Ez.out));have HB3:=ae (HB2.out.trans (k3.below (B:=w.heap.size) (fun k hk=>by have:=kr.out;have:=Ez.out;omega) HB2.out.size));obtain⟨mJ,nz,yj⟩:=bu hB3 hO3 Yk;clear hB3 hO3 Yk k3)
   obtain⟨x0,x1,x2,x3⟩:=dV mJ;have QX:=ae (vK.out w3 (.slice A1 n1 c1) (.slice A2 n2 c2) HB3.out nz.out.rd (by have:=aY.dh yj.out;rw[kq.out]at this⊢;exact this));go_wp2_with(go_at_call 22;refine QX.out.mono ?_;rintro r w4⟨rfl,d4⟩;have nT:=bJ fU d4;have c0:=nT.cell 0;have c1':=nT.cell 1;have c2':=nT.cell 2;have c3:=nT.cell 3;simp at c0 c1' c2' c3;have fr:=fun i=>nT.frozen i;have qT:=ae nT;have HB4:=aZ HB3 d4;clear nT d4)
   obtain⟨s1,s2⟩:=jC qT.out HB4.out (Nat.le_of_eq kr.out) (.int .u64 0) au au aI;exact bodyPost_ret (bD rfl rfl rfl (iw s1)) rfl ⟨⟨none,0,none,0,rfl,iN _,dN _⟩,s2⟩
def V2(m:Mp)(w:World)(r:Ending)(w':World):Prop:=(∃A1 c1 A2 c2,r=.returned (.agg #[.int .u64 (m.version:Int),.slice A1 m.aK.length c1,.slice A2 m.ax.length c2,.string m.policy])∧cn w' w.heap.size (.slice A1 m.aK.length c1) m.aK∧w'.ownsRow w.heap.size 57 6 (.slice A2 m.ax.length c2) m.ax.length (dQ m.ax))∧aW w w'
theorem QY{w:World}{pv rv:Value}{m:Mp}(hp:dJ w pv m.aK)(hr:fy w rv m.ax)(sz:∀p∈m.aK,gm p)(hl:m.aK.length≤2000000)(hrl:m.ax.length≤2000000):Calls ah 60 #[.agg #[.int .u64 (m.version:Int),pv,rv,.string m.policy]] w (V2 m w):=by
 have ha:=fun u(hu:aW w u)=>qU (hp.below hu) sz hl
 have hc:=fun u(hu:aW w u)=>yk (aY.below hr hu) hrl (sH _)
 obtain⟨A1,c1,e1⟩:=hp.shape;obtain⟨A2,c2,e2⟩:=aY.shape hr;clear hp hr sz hl hrl;obtain⟨ver,aK,ax,pol⟩:=m;simp only at*;subst e1 e2;unfold vm at ha;unfold uT at hc;unfold V2;simp only;obtain⟨n1,hn1⟩:=bq aK.length;obtain⟨n2,hn2⟩:=bq ax.length;rw[←hn1]at ha⊢;rw[←hn2]at hc⊢;obtain⟨HA,HC⟩:=aN ha hc;clear ha hc hn1 hn2;have HP:=ae (aG.new w 26 #[.int .u64 ver,.slice A1 n1 c1,.slice A2 n2 c2,.string pol]);have hb1:=boxed w (.cells #[.int .u64 ver,.slice A1 n1 c1,.slice A2 n2 c2,.string pol] 26);have HB:=ae hb1;clear hb1;go_enter Tryz.func60,Tryz.ntmps60;go_upto_region 1 with fail
 have hbz:=boxed (w.alloc (.cells #[.int .u64 ver,.slice A1 n1 c1,.slice A2 n2 c2,.string pol] 26)) (.cells #[.int .u64 0,au,au,aI] 26);have HB2:=aZ HB hbz;have HP2:=ae (bJ HP hbz);have hR:=aG.new (w.alloc (.cells #[.int .u64 ver,.slice A1 n1 c1,.slice A2 n2 c2,.string pol] 26)) 26 #[.int .u64 0,au,au,aI];rw[show(w.alloc (.cells #[.int .u64 ver,.slice A1 n1 c1,.slice A2 n2 c2,.string pol] 26)).heap.size=w.heap.size+1 by simp]at hR;have HR2:=ae hR;have HS2:ag (w.heap.size+2≤((w.alloc (.cells #[.int .u64 ver,.slice A1 n1 c1,.slice A2 n2 c2,.string pol] 26)).alloc (.cells #[.int .u64 0,au,au,aI] 26)).heap.size):=ae (by simp);clear hbz hR HB HP;generalize(w.alloc (.cells #[.int .u64 ver,.slice A1 n1 c1,.slice A2 n2 c2,.string pol] 26)).alloc (.cells #[.int .u64 0,au,au,aI] 26)=w2 at HB2 HP2 HR2 HS2⊢;have hQ:∃P R Q,P=w.heap.size∧R=w.heap.size+1∧Q=w.heap.size+2:=⟨_,_,_,rfl,rfl,rfl⟩;obtain⟨P,R,Q,eP,eR,eQ⟩:=hQ;rw[←eP]at HP2;rw[←eR]at HR2;rw[←eQ]at HS2;rw[←eR,←eP];have HPQ:ag (P<Q∧R<Q∧P≠R∧w.heap.size≤P∧w.heap.size≤R∧w.heap.size≤Q):=ae aQ;clear eP eR eQ;obtain⟨-,a1,a2⟩:=jf HP2;obtain⟨VW,acY,acZ⟩:=bu HB2.out.drew HP2.out.drew HR2.out.drew;have VX:ag (Q≤w2.drew.heap.size):=ae HS2.out;refine kf 7 (fun w'=>w'.cell? ⟨P,1,none⟩=some (.slice A1 n1 c1)∧w'.cell? ⟨P,2,none⟩=some (.slice A2 n2 c2)) bo (⟨a1,a2⟩) (fun hHeld=>?_);refine vy 0 ?_
 refine vy 1 ?_
 refine vy 3 ?_
 refine vy 4 ?_
 refine vQ 2 fun K hK=>?_;go_simp;refine(HA.out _ VW.out).mono ?_;rintro r wa⟨⟨B1,m1,rfl,oa⟩,da⟩;have hZ:=aZ VW da;obtain⟨ie,Dt,KX,HOa⟩:=cY (bJ acY da) (bJ acZ da) (aw VX.out da.size) (oa.mono VX.out);clear oa;refine hK.out _ _ (fun _=>⟨ak hHeld.1 da,ak hHeld.2 da⟩) (fun hHeld=>?_);have hHeld:=hHeld aH;clear hK K;try simp only[cN]
 refine vy 6 ?_
 refine vQ 5 fun K hK=>?_;go_simp;refine(HC.out _ hZ.out).mono ?_;rintro r wb⟨⟨B2,m2,rfl,ob⟩,db⟩;have kR:=aZ hZ db;have hPb:=bJ ie db;obtain⟨fZ,Eu,HOb,HUb⟩:=cY hPb (bJ Dt db) (HOa.out.low db) (ob.mono KX.out);have y1:=hPb.cell 1;have y2:=hPb.cell 2;simp at y1 y2;have fz:=fun i=>hPb.frozen i
 clear ob hPb;refine hK.out _ _ (fun _=>⟨ak hHeld.1 db,ak hHeld.2 db⟩) (fun hHeld=>?_);have hHeld:=hHeld aH;clear hK K;try simp only[cN]
 refine vQ 7 fun K hK=>?_;go_simp;refine hK.out _ _ (fun h=>absurd h aH) (fun _=>?_);clear hK K;try clear hHeld
 try simp only[cN]
 refine vQ 8 fun K hK=>?_;go_simp;refine hK.out _ _ (fun h=>absurd h aH) (fun _=>?_);clear hK K;try clear hHeld
 try simp only[cN]
 refine vQ 9 fun K hK=>?_;go_simp;refine hK.out _ _ (fun h=>absurd h aH) (fun _=>?_);clear hK K;try clear hHeld
 try simp only[cN]
 refine zdX ?_;have q1:aG _ P 26 #[.int .u64 ver,.slice B1 n1 m1,.slice B2 n2 m2,.string pol]:=(fZ.out.aL 1 (.slice B1 n1 m1)).aL 2 (.slice B2 n2 m2);have q2:=(Eu.out.far (p:=⟨P,1,none⟩) HPQ.out.2.2.1.symm (.slice B1 n1 m1)).far (p:=⟨P,2,none⟩) HPQ.out.2.2.1.symm (.slice B2 n2 m2);have q3:=(kR.out.setCell (p:=⟨P,1,none⟩) HPQ.out.2.2.2.1 (.slice B1 n1 m1)).setCell (p:=⟨P,2,none⟩) HPQ.out.2.2.2.1 (.slice B2 n2 m2);have q4:=(HOb.out.far (k:=1) (u:=.slice B1 n1 m1) HPQ.out.1).far (k:=2) (u:=.slice B2 n2 m2) HPQ.out.1;have q5:=aU (k:=2) (u:=.slice B2 n2 m2) (aU (k:=1) (u:=.slice B1 n1 m1) HUb.out HPQ.out.1) HPQ.out.1;clear y1 y2 fz fZ Eu kR HOb HUb a1 a2;generalize(wb.setCell ⟨P,1,none⟩ (.slice B1 n1 m1)).setCell ⟨P,2,none⟩ (.slice B2 n2 m2)=wd at q1 q2 q3 q4 q5⊢;have x0:=q1.cell 0;have x1:=q1.cell 1;have x2:=q1.cell 2;have x3:=q1.cell 3;have z0:=q2.cell 0;have z1:=q2.cell 1;have z2:=q2.cell 2;have z3:=q2.cell 3;simp at x0 x1 x2 x3 z0 z1 z2 z3;have fr:=fun i=>q2.frozen i
 obtain⟨Z9,yj,Ns,Yg⟩:=cY q2 q3 q4 q5;clear q1 q2 q3 q4 q5;go_wp2_with fail
 obtain⟨s1,s2⟩:=jC Z9.out yj.out HPQ.out.2.2.2.2.1 (.int .u64 ver) (.slice B1 n1 m1) (.slice B2 n2 m2) (.string pol);have o1:=(((Ns.out.far (k:=0) (u:=.int .u64 ver) HPQ.out.2.1).far (k:=1) (u:=.slice B1 n1 m1) HPQ.out.2.1).far (k:=2) (u:=.slice B2 n2 m2) HPQ.out.2.1).far (k:=3) (u:=.string pol) HPQ.out.2.1;have o2:=aU (k:=3) (u:=.string pol) (aU (k:=2) (u:=.slice B2 n2 m2) (aU (k:=1) (u:=.slice B1 n1 m1) (aU (k:=0) (u:=.int .u64 ver) Yg.out HPQ.out.2.1) HPQ.out.2.1) HPQ.out.2.1) HPQ.out.2.1;exact bodyPost_ret (fp (x:=2) rfl rfl (iw s1)) rfl ⟨⟨B1,m1,B2,m2,rfl,o1.mono HPQ.out.2.2.2.2.2,o2.mono HPQ.out.2.2.2.2.2⟩,s2⟩
def Pr.zero:Pr:=⟨⟨#[]⟩,⟨#[]⟩,⟨#[]⟩,[],[],0,0,[]⟩
def bU.zero:bU:=⟨Pr.zero,au,au,au⟩
theorem di.zero(w:World)(B:Nat):di w B bU.zero:=⟨bg _ _ _ _,bg _ _ _ _,bg _ _ _ _⟩
def WhR(o:Option Pr)(w:World)(r:Ending)(w':World):Prop:=(∃X:bU,r=.returned (.tuple #[.agg X.vals.toArray,.bool o.isSome])∧X.p=o.getD Pr.zero∧di w' w.heap.size X)∧aW w w'
theorem NH{xs:List bU}{q:Pr→Bool}{z:Int}(h:Yf (fun k=>match xs[k]? with|some X=>q X.p|none=>false) xs.length z):(z= -1∧(xs.map (·.p)).find? q=none)∨(∃(k:Nat)(hk:k<xs.length),z=(k:Int)∧(xs.map (·.p)).find? q=some xs[k].p):=by
 rcases h with⟨k,hk,rfl,h1,h2⟩|⟨rfl,h⟩
 ·refine Or.inr ⟨k,hk,rfl,?_⟩;rw[List.find?_eq_some_iff_getElem];simp only[af hk]at h1;refine⟨h1,k,by rw[ay];exact hk,by rw[List.getElem_map],fun j hj=>?_⟩;have hjl:j<xs.length:=by omega
  have:=h2 j hj;simp only[af hjl]at this;rw[List.getElem_map,this];rfl
 ·refine Or.inl ⟨rfl,?_⟩;rw[List.find?_eq_none];intro p hp;obtain⟨X,hX,rfl⟩:=List.mem_map.1 hp;obtain⟨j,hj,rfl⟩:=List.getElem_of_mem hX;have:=h j hj;simp only[af hj]at this;rw[this];decide
theorem QZ{w:World}{pv rv:Value}{m:Mp}(hp:dJ w pv m.aK)(hr:fy w rv m.ax)(sz:∀p∈m.aK,gm p)(hl:m.aK.length≤2000000)(q:Pr→Bool)(f:Nat)(lb:Array Value)(eg:∀args w,(callFunc f args).run ah w=.ok (.enter f args) w)(hf:∀W,aW w W→∀X:bU,fC W X→X.p∈m.aK→Calls ah f (#[.agg X.vals.toArray]++lb) W (Got (.bool (q X.p)) W)):Calls ah 67 #[.agg #[.int .u64 (m.version:Int),pv,rv,.string m.policy],.func (.func f) #[] lb] w (WhR (m.aK.find? q) w):=by
 obtain⟨xs,hxl,hro,hm⟩:=hp;have hlx:xs.length=m.aK.length:=by rw[←hxl,ay]
 have hix:=fun u(hu:aW w u)=>Dj (hro.below hu) aQ (fun X=>q X.p) f lb eg fun W hW X hX=>hf W (after hu hW) X ((hm X hX).below (after hu hW)) (by rw[←hxl];exact eC hX)
 have hfx:=fun z=>NH (xs:=xs) (q:=q) (z:=z)
 rw[hxl]at hfx;have hcp:=fun k(hk:k<xs.length)u(hu:aW w u)=>ru ((hm _ (a8 hk)).below hu) (sz _ (by rw[←hxl];exact eC (a8 hk)))
 obtain⟨A,c1,rfl,_,hA⟩:=hro;obtain⟨A2,c2,rfl⟩:=aY.shape hr;generalize m.aK.find? q=O at hfx⊢;obtain⟨n1,hn1⟩:=bq xs.length;obtain⟨ver,aK,ax,pol⟩:=m;simp only at*;generalize ax.length=n2 at*;rw[←hn1]at hix hA hlx⊢;obtain⟨HIx,HFx,HCp,HA,HM,jq⟩:=mL hix hfx hcp hA hm hn1;have hl1:n1≤2000000:=by omega
 clear hix hfx hcp hA hr hf sz hl hlx hxl hn1 hm;obtain⟨HP,HB⟩:=aN (aG.new w 26 #[.int .u64 ver,.slice A n1 c1,.slice A2 n2 c2,.string pol]) (boxed w (.cells #[.int .u64 ver,.slice A n1 c1,.slice A2 n2 c2,.string pol] 26));go_enter Tryz.func67,Tryz.ntmps67;go_upto_region 1 with fail
 have hbz:=boxed (w.alloc (.cells #[.int .u64 ver,.slice A n1 c1,.slice A2 n2 c2,.string pol] 26)) (.cells #[aI,aI,aI,au,au,.int .u64 0,.int .u8 0,au] 50);have HB2:=aZ HB hbz;have HP2:=ae (bJ HP hbz);have hR:=aG.new (w.alloc (.cells #[.int .u64 ver,.slice A n1 c1,.slice A2 n2 c2,.string pol] 26)) 50 #[aI,aI,aI,au,au,.int .u64 0,.int .u8 0,au];rw[show(w.alloc (.cells #[.int .u64 ver,.slice A n1 c1,.slice A2 n2 c2,.string pol] 26)).heap.size=w.heap.size+1 by simp]at hR;have HR2:=ae hR;have HS2:ag (w.heap.size+2≤((w.alloc (.cells #[.int .u64 ver,.slice A n1 c1,.slice A2 n2 c2,.string pol] 26)).alloc (.cells #[aI,aI,aI,au,au,.int .u64 0,.int .u8 0,au] 50)).heap.size):=ae (by simp);clear hbz hR HB HP;generalize(w.alloc (.cells #[.int .u64 ver,.slice A n1 c1,.slice A2 n2 c2,.string pol] 26)).alloc (.cells #[aI,aI,aI,au,au,.int .u64 0,.int .u8 0,au] 50)=w2 at HB2 HP2 HR2 HS2⊢;have hQ:∃P R Q,P=w.heap.size∧R=w.heap.size+1∧Q=w.heap.size+2:=⟨_,_,_,rfl,rfl,rfl⟩;obtain⟨P,R,Q,eP,eR,eQ⟩:=hQ;rw[←eP]at HP2;rw[←eR]at HR2;rw[←eQ]at HS2;rw[←eR,←eP];have HPQ:ag (P<Q∧R<Q∧P≠R∧w.heap.size≤P∧w.heap.size≤R∧w.heap.size≤Q):=ae aQ;clear eP eR eQ;obtain⟨-,a1⟩:=jL HP2;go_upto_region 2 with(go_at_call 105;refine(HIx.out _ HB2.out).mono ?_;rintro r w3⟨⟨z,rfl,hz⟩,d3⟩;have HZ:=ae hz;clear hz)
 have HB3:=aZ HB2 d3;obtain⟨fU,HR3,Dv⟩:=bu (bJ HP2 d3) (bJ HR2 d3) (aw HS2.out d3.size);clear d3 a1 HB2 HP2 HR2 HS2;have hcase:=HFx.out z (by have:=HZ.out;rw[←jq.out]at*;exact this);unfold WhR;rcases hcase with⟨rfl,rfl⟩|⟨k,hk,rfl,hO⟩
 ·obtain⟨z0,z1,z2,z3,z4,z5,z6,z7⟩:=dA HR3;have fr:=fun i=>HR3.out.frozen i
  go_wp2_with fail
  have s1:aG _ R 50 #[aI,aI,aI,au,au,.int .u64 0,.int .u8 0,au]:=HR3.out.aL 0 aI;have s2:aG _ R 50 #[aI,aI,aI,au,au,.int .u64 0,.int .u8 0,au]:=s1.aL 1 aI;have s3:aG _ R 50 #[aI,aI,aI,au,au,.int .u64 0,.int .u8 0,au]:=s2.aL 2 aI;have s4:aG _ R 50 #[aI,aI,aI,au,au,.int .u64 0,.int .u8 0,au]:=s3.aL 3 au;have s5:aG _ R 50 #[aI,aI,aI,au,au,.int .u64 0,.int .u8 0,au]:=s4.aL 4 au;have s6:aG _ R 50 #[aI,aI,aI,au,au,.int .u64 0,.int .u8 0,au]:=s5.aL 5 (.int .u64 0);have s7:aG _ R 50 #[aI,aI,aI,au,au,.int .u64 0,.int .u8 0,au]:=s6.aL 6 (.int .u8 0);have s8:aG _ R 50 #[aI,aI,aI,au,au,.int .u64 0,.int .u8 0,au]:=s7.aL 7 au;have oz:=VN (P:=R) (Q:=fun u=>aW w u) (fun u i x hq=>hq.setCell (p:=⟨R,i,none⟩) HPQ.out.2.2.2.2.1 x) HB3.out aI aI aI au au (.int .u64 0) (.int .u8 0) au;exact bodyPost_ret (bD rfl rfl rfl (sG s8)) rfl ⟨⟨bU.zero,rfl,rfl,di.zero _ _⟩,oz⟩
 ·have hkn:k<n1:=by rw[jq.out];exact hk
  have hOs:O.isSome=true:=by rw[hO];rfl
  have hOg:O.getD Pr.zero=xs[k].p:=by rw[hO];rfl
  have HOs:=ae hOs;clear hOs hO HFx HZ HIx;have hcall:=HCp.out k hk;have hm1:=HM.out _ (a8 hk);obtain⟨q1,o1,rfl,hc1⟩:=HA.out aQ;have g10:=aD bU.vals 8 aC (af hk) (r:=0) rfl;have g11:=aD bU.vals 8 aC (af hk) (r:=1) rfl;have g12:=aD bU.vals 8 aC (af hk) (r:=2) rfl;have g13:=aD bU.vals 8 aC (af hk) (r:=3) rfl;have g14:=aD bU.vals 8 aC (af hk) (r:=4) rfl;have g15:=aD bU.vals 8 aC (af hk) (r:=5) rfl;have g16:=aD bU.vals 8 aC (af hk) (r:=6) rfl;have g17:=aD bU.vals 8 aC (af hk) (r:=7) rfl;have d10:=ak (hc1 _ _ g10) HB3.out;have d11:=ak (hc1 _ _ g11) HB3.out;have d12:=ak (hc1 _ _ g12) HB3.out;have d13:=ak (hc1 _ _ g13) HB3.out;have ji:=ak (hc1 _ _ g14) HB3.out;have mE:=ak (hc1 _ _ g15) HB3.out;have jF:=ak (hc1 _ _ g16) HB3.out;have ny:=ak (hc1 _ _ g17) HB3.out;clear hc1 g10 g11 g12 g13 g14 g15 g16 g17;generalize xs[k]=X at hcall hm1 hOg d10 d11 d12 d13 ji mE jF ny;obtain⟨fA,c11,e11⟩:=hm1.tags.shape;obtain⟨ft,c12,e12⟩:=hm1.aR.shape;obtain⟨ig,c13,e13⟩:=hm1.ends.shape;clear hm1;obtain⟨⟨key1,bG,cj,eF,dw,ik,bA,eV⟩,Yi,Yj,ev1⟩:=X;simp only at e11 e12 e13 d10 d11 d12 d13 ji mE jF ny;subst e11 e12 e13;unfold bU.vals VV at hcall;simp only at hcall;generalize eF.length=n11 at hcall d13;generalize dw.length=n12 at hcall ji;generalize eV.length=n13 at hcall ny;rw[Nat.add_zero]at d10;rw[←Nat.add_assoc]at d11 d12 d13 ji mE jF ny;obtain⟨bI,HG⟩:=aN (hcall _ HB3.out) hOg;obtain⟨-,a1⟩:=jL fU;have hk0:¬(k:Int)<0:=by omega
  have hk1:(0:Int)≤(k:Int):=by omega
  have hk2:(k:Int)<(n1:Int):=by omega
  clear hcall hl1 hOg HCp HM jq hk;go_wp2_with(go_at_call 55;refine bI.out.mono ?_;rintro r w4⟨⟨⟨⟨key2,bB,ck,dx,cI,iR,bL,dy⟩,tv2,av2,ev2⟩,rfl,GI,pM⟩,d4⟩;obtain⟨B1,m1,e21⟩:=aV pM.tags;obtain⟨B2,m2,e22⟩:=aV pM.aR;obtain⟨B3,m3,e23⟩:=aV pM.ends;simp only at e21 e22 e23;subst e21 e22 e23;obtain⟨Nz,VM⟩:=aN (pM.mono Dv.out) GI;obtain⟨n21,nU⟩:=bq dx.length;obtain⟨n22,nV⟩:=bq cI.length;obtain⟨n23,nW⟩:=bq dy.length;unfold bU.vals;simp only;rw[←nU,←nV,←nW];obtain⟨yr,HE2,Iz⟩:=bu nU nV nW;have HB4:=aZ HB3 d4;have yE:=bJ HR3 d4;have z0:=yE.cell 0;have z1:=yE.cell 1;have z2:=yE.cell 2;have z3:=yE.cell 3;have z4:=yE.cell 4;have z5:=yE.cell 5;have z6:=yE.cell 6;have z7:=yE.cell 7;simp at z0 z1 z2 z3 z4 z5 z6 z7;have fr:=fun i=>yE.frozen i;have HR4:=ae yE;clear nU nV nW pM GI d4 yE)
  have s1:aG _ R 50 #[.string key2,aI,aI,au,au,.int .u64 0,.int .u8 0,au]:=HR4.out.aL 0 (.string key2);have s2:aG _ R 50 #[.string key2,.string bB,aI,au,au,.int .u64 0,.int .u8 0,au]:=s1.aL 1 (.string bB);have s3:aG _ R 50 #[.string key2,.string bB,.string ck,au,au,.int .u64 0,.int .u8 0,au]:=s2.aL 2 (.string ck);have s4:aG _ R 50 #[.string key2,.string bB,.string ck,.slice B1 n21 m1,au,.int .u64 0,.int .u8 0,au]:=s3.aL 3 (.slice B1 n21 m1);have s5:aG _ R 50 #[.string key2,.string bB,.string ck,.slice B1 n21 m1,.slice B2 n22 m2,.int .u64 0,.int .u8 0,au]:=s4.aL 4 (.slice B2 n22 m2);have s6:aG _ R 50 #[.string key2,.string bB,.string ck,.slice B1 n21 m1,.slice B2 n22 m2,.int .u64 iR,.int .u8 0,au]:=s5.aL 5 (.int .u64 iR);have s7:aG _ R 50 #[.string key2,.string bB,.string ck,.slice B1 n21 m1,.slice B2 n22 m2,.int .u64 iR,.int .u8 bL,au]:=s6.aL 6 (.int .u8 bL);have s8:aG _ R 50 #[.string key2,.string bB,.string ck,.slice B1 n21 m1,.slice B2 n22 m2,.int .u64 iR,.int .u8 bL,.slice B3 n23 m3]:=s7.aL 7 (.slice B3 n23 m3);obtain⟨oz0,oz1⟩:=VN (P:=R) (Q:=fun u=>aW w u∧di u Q ⟨⟨key2,bB,ck,dx,cI,iR,bL,dy⟩,.slice B1 dx.length m1,.slice B2 cI.length m2,.slice B3 dy.length m3⟩) (fun u i x hq=>⟨hq.1.setCell (p:=⟨R,i,none⟩) HPQ.out.2.2.2.2.1 x,⟨aU hq.2.tags HPQ.out.2.1,aU hq.2.aR HPQ.out.2.1,aU hq.2.ends HPQ.out.2.1⟩⟩) ⟨HB4.out,Nz.out⟩ (.string key2) (.string bB) (.string ck) (.slice B1 n21 m1) (.slice B2 n22 m2) (.int .u64 iR) (.int .u8 bL) (.slice B3 n23 m3);refine bodyPost_ret (bD rfl rfl rfl (sG s8)) rfl ⟨⟨⟨⟨key2,bB,ck,dx,cI,iR,bL,dy⟩,.slice B1 dx.length m1,.slice B2 cI.length m2,.slice B3 dy.length m3⟩,?_,VM.out.trans HG.out.symm,oz1.mono HPQ.out.2.2.2.2.2⟩,oz0⟩;unfold bU.vals;simp only;rw[←yr.out,←HE2.out,←Iz.out,HOs.out];rfl
def AtR(l:List Pr)(key:ByteArray)(z:Int):Prop:=(z= -1∧ox l key=none)∨∃(k:Nat)(hk:k<l.length),z=(k:Int)∧ox l key=some l[k]
theorem pN{w:World}{v:Value}{l:List Pr}(h:dJ w v l)(hl:l.length≤4000000)(key:ByteArray):Calls ah 53 #[v,.string key] w fun r w'=>(∃z:Int,r=.returned (.int .i64 z)∧AtR l key z)∧aW w w':=by
 obtain⟨xs,rfl,hr,hx⟩:=h;rw[ay]at hl;refine(aac hr hl key).mono ?_;rintro r w2⟨⟨z,rfl,hz⟩,d⟩;refine⟨⟨z,rfl,?_⟩,d⟩;rcases NH (q:=fun p=>decide (p.key=key)) hz with⟨e,h⟩|⟨k,hk,e,h⟩
 ·exact Or.inl ⟨e,h⟩
 ·refine Or.inr ⟨k,by rw[ay];exact hk,e,?_⟩;rw[List.getElem_map];exact h
theorem AtR.none{l:List Pr}{key:ByteArray}{z:Int}(h:AtR l key z):(ox l key).isNone=decide (z<0):=by
 rcases h with⟨rfl,h⟩|⟨k,hk,rfl,h⟩
 ·rw[h];rfl
 ·rw[h,decide_eq_false aQ];rfl
theorem AtR.lo{l:List Pr}{key:ByteArray}{z:Int}(h:AtR l key z): -1≤z∧z<l.length:=by
 rcases h with⟨rfl,h⟩|⟨k,hk,rfl,h⟩
 ·omega
 ·omega
theorem KZ{w:World}{sv:Value}{ps:List Pr}{g:Nat}(hp:dJ w sv ps)(hl:ps.length≤4000000)(hg:w.cell? ⟨g,2,none⟩=some sv)(k:ByteArray):Calls ah 101 #[.string k,.pointer (some ⟨g,0,none⟩)] w (Got (.bool (decide (k.size=32)&&(ox ps k).isNone)) w):=by
 have ha:=pN hp hl k;obtain⟨A,c,e⟩:=hp.shape;subst e;generalize ps.length=NS at*;have HA:=ae ha;clear ha hp hl;go_enter Tryz.func101,Tryz.ntmps101;by_cases k1:k.size=32;rotate_left
 ·have q1:((k.size:Int)==32)=false:=by simp;omega
  rw[decide_eq_false k1,ux];clear k1;go_wp2_with fail
  go_ret;exact⟨rfl,Below.refl _ _⟩
 have q1:((k.size:Int)==32)=true:=by simp;omega
 rw[decide_eq_true k1,bV];clear k1;go_wp2_with(go_at_call 53;refine HA.out.mono ?_;rintro r w2⟨⟨z,rfl,hz⟩,d2⟩;have HZ:=ae hz;clear hz)
 go_ret;exact⟨by rw[HZ.out.none];rfl,d2⟩
def fc(d:Dl)(sv gv rv:Value):Array Value:= #[.int .u64 (d.base:Int),.int .u64 (d.version:Int),sv,gv,.bool d.cS,rv,.bool d.cX,.string d.policy,.string d.hash]
structure kz(w:World)(d:Dl)(sv gv rv:Value):Prop where
 aL:dJ w sv d.aL
 gone:aY w gv d.gone.length 1 (strCells d.gone)
 ax:fy w rv d.ax
theorem kz.below{w w':World}{d:Dl}{sv gv rv:Value}(h:kz w d sv gv rv)(hb:aW w w'):kz w' d sv gv rv:=⟨h.aL.below hb,h.gone.below hb,aY.below h.ax hb⟩
structure yF(d:Dl):Prop where
 aL:∀p∈d.aL,gm p
 sl:d.aL.length≤2000000
 gl:d.gone.length≤2000000
 rl:d.ax.length≤2000000
 pl:d.policy.size≤2000000
 keys:∀k∈d.gone,k.size≤2000000
theorem qV{w:World}(env:Env w){d:Dl}{sv gv rv:Value}(hd:kz w d sv gv rv)(fit:sx d)(sz:yF d):Calls ah 43 #[.agg (fc d sv gv rv)] w (Got (.bool (jc d)) w):=by
 have hps:=fun u(hu:aW w u)=>qS (env.below hu) (hd.aL.below hu) (by have:=sz.sl;omega) fit.aK sz.aL
 have hrs:=fun u(hu:aW w u)=>pH (env.below hu) (aY.below hd.ax hu) (by have:=sz.rl;omega) fit.ax
 have hpo:=fun u(hu:aW w u)=>pG (env.below hu) d.policy sz.pl
 have hgo:=fun u(hu:aW w u)g(hg:u.cell? ⟨g,2,none⟩=some sv)=>Dc (hd.gone.below hu) (by have:=sz.gl;omega) (fun k=>decide (k.size=32)&&(ox d.aL k).isNone) 101 #[.pointer (some ⟨g,0,none⟩)] (enters_of Tryz.func101 bo rfl) fun W hW x hx=>KZ (hd.aL.below (after hu hW)) (by have:=sz.sl;omega) (ak hg hW) x
 have hgr:=fun u(hu:aW w u)=>Nq (hd.gone.below hu) (by have:=sz.gl;omega) sg 103 #[] (enters_of Tryz.func103 bo rfl) fun W hW x y=>yc x y W
 obtain⟨R,hR⟩:=bq (jc d);rw[←hR];unfold jc at hR;have l1:=sz.sl;have l2:=sz.gl;have l3:=sz.rl;obtain⟨A1,c1,e1⟩:=hd.aL.shape;obtain⟨A2,c2,e2⟩:=hd.gone.shape;obtain⟨A3,c3,e3⟩:=aY.shape hd.ax;have hie:d.ax.isEmpty=decide (d.ax.length=0):=by cases d.ax<;>rfl
 rw[hie]at hR;clear hd fit sz env hie;obtain⟨base,version,aL,gone,cS,ax,cX,policy,hash⟩:=d;simp only at*;subst e1 e2 e3;unfold fc;simp only;generalize(gone.all fun k=>decide (k.size=32)&&(ox aL k).isNone)=AM at hgo hR;generalize cV sg gone=RA at hgr hR;generalize jt aL=PA at hps hR;generalize ju ax=YA at hrs hR;generalize lW policy=OA at hpo hR;generalize aL.length=NS at*;generalize gone.length=NG at*;generalize ax.length=NR at*;obtain⟨zG,HRs,PZ,HGo,GK,HR⟩:=mL hps hrs hpo hgo hgr hR;clear hps hrs hpo hgo hgr hR l1;obtain⟨HB,HP⟩:=aN (boxed w (.cells #[.int .u64 base,.int .u64 version,.slice A1 NS c1,.slice A2 NG c2,.bool cS,.slice A3 NR c3,.bool cX,.string policy,.string hash] 29)) (aG.new w 29 #[.int .u64 base,.int .u64 version,.slice A1 NS c1,.slice A2 NG c2,.bool cS,.slice A3 NR c3,.bool cX,.string policy,.string hash]);go_enter Tryz.func43,Tryz.ntmps43;go_upto_region 1 with fail
 generalize w.alloc (.cells #[.int .u64 base,.int .u64 version,.slice A1 NS c1,.slice A2 NG c2,.bool cS,.slice A3 NR c3,.bool cX,.string policy,.string hash] 29)=w1 at HB HP⊢;generalize hP:w.heap.size=P at HP⊢;obtain⟨p0,p1,p2,p3,p4,p5,p6,p7,p8⟩:=oR HP;by_cases k1:1≤base;rotate_left
 ·have q1:(base:Int)<1:=by omega
  have q1':base<1:=by omega
  have dt:ag (R=false):=ae (by rw[HR.out,decide_eq_false k1];simp);clear k1;go_wp2_with fail
  go_ret;exact⟨by rw[dt.out];rfl,HB.out⟩
 have q1:¬(base:Int)<1:=by omega
 have q1':¬base<1:=by omega
 by_cases k2:base<version;rotate_left
 ·have q2:(version:Int)≤(base:Int):=by omega
  have q2':version≤base:=by omega
  have dt:ag (R=false):=ae (by rw[HR.out,decide_eq_false k2];simp);clear k1 k2;go_wp2_with fail
  go_ret;exact⟨by rw[dt.out];rfl,HB.out⟩
 have q2:¬(version:Int)≤(base:Int):=by omega
 have q2':¬version≤base:=by omega
 by_cases k3:hash.size=32;rotate_left
 ·have q3:((hash.size:Int) !=32)=true:=by simp;omega
  have dt:ag (R=false):=ae (by rw[HR.out,decide_eq_false k3];simp);clear k1 k2 k3;go_wp2_with fail
  go_ret;exact⟨by rw[dt.out];rfl,HB.out⟩
 have q3:((hash.size:Int) !=32)=false:=by simp;omega
 by_cases k4:NG≤64;rotate_left
 ·have q4:(64:Int)<(NG:Int):=by omega
  have q4':64<NG:=by omega
  have dt:ag (R=false):=ae (by rw[HR.out,decide_eq_false k4];simp);clear k1 k2 k3 k4;go_wp2_with fail
  go_ret;exact⟨by rw[dt.out];rfl,HB.out⟩
 have q4:¬(64:Int)<(NG:Int):=by omega
 have q4':¬64<NG:=by omega
 have HR1:=ae HR.out;rw[decide_eq_true k1,decide_eq_true k2,decide_eq_true k3,decide_eq_true k4,bV,bV,bV,bV]at HR1;clear HR k1 k2 k3 k4;go_upto_region 3 with fail
 clear q1 q1' q2 q2' q3 q4 q4';have ni:=ae (HGo.out _ HB.out P p2);by_cases k5:cS=true∨NR=0;rotate_left
 ·obtain⟨ka,kb⟩:=not_or.1 k5;have ka:cS=false:=by simpa using ka
  subst ka;have q5:(0:Int)<(NR:Int):=by omega
  have q5':0<NR:=by omega
  have dt:ag (R=false):=ae (by rw[HR1.out,decide_eq_false kb];simp);clear k5 kb;cases cX with
  |false=>
   go_wp2_with fail
   go_ret;exact⟨by rw[dt.out];rfl,HB.out⟩
  |true=>
   go_wp2_with fail
   go_ret;exact⟨by rw[dt.out];rfl,HB.out⟩
 by_cases k6:cX=true∨policy.size=0;rotate_left
 ·obtain⟨ka,kb⟩:=not_or.1 k6;have ka:cX=false:=by simpa using ka
  subst ka;have q6:(policy.toList.isEmpty)=false:=by rw[yD];exact decide_eq_false kb
  have dt:ag (R=false):=ae (by rw[HR1.out,decide_eq_false kb];simp);clear k6 kb;cases cS with
  |true=>
   go_wp2_with fail
   go_ret;exact⟨by rw[dt.out];rfl,HB.out⟩
  |false=>
   obtain rfl:NR=0:=by
    rcases k5 with h|h;·cases h
    ·exact h
   go_wp2_with fail
   go_ret;exact⟨by rw[dt.out];rfl,HB.out⟩
 have ht:(cS||decide (NR=0))=true:=by rcases k5 with h|h<;>simp[h]
 have ht2:(cX||decide (policy.size=0))=true:=by rcases k6 with h|h<;>simp[h]
 have HR2:=ae HR1.out;rw[ht,ht2,bV,bV]at HR2;clear HR1 ht ht2;have q6:cX=false→policy.toList.isEmpty=true:=fun h=>by
  rw[yD];rcases k6 with k|k
  ·rw[h]at k;cases k
  ·exact decide_eq_true k
 have q5:cS=false→NR=0:=fun h=>by
  rcases k5 with k|k
  ·rw[h]at k;cases k
  ·exact k
 clear k5 k6;cases cS<;>cases cX
 ·obtain rfl:=q5 rfl;have q6:=q6 rfl;go_upto_region 5 with fail
  cases AM with
  |false=>
   have dt:ag (R=false):=ae (by rw[HR2.out];simp);go_wp2_with(first
    |(go_at_call 58;refine ni.out.mono ?_;rintro r wa⟨rfl,da⟩;have hZ:=aZ HB da;have ie:=ae (bJ HP da);obtain⟨-,-,x2,x3,-,x5,-,x7⟩:=dA ie;clear da))
   go_ret;exact⟨by rw[dt.out];rfl,hZ.out⟩
  |true=>
   cases RA with
   |false=>
    have dt:ag (R=false):=ae (by rw[HR2.out];simp);go_wp2_with(first
     |(go_at_call 58;refine ni.out.mono ?_;rintro r wa⟨rfl,da⟩;have hZ:=aZ HB da;have ie:=ae (bJ HP da);obtain⟨-,-,x2,x3,-,x5,-,x7⟩:=dA ie;clear da)
     |(go_at_call 102;refine(GK.out _ hZ.out).mono ?_;rintro r wb⟨rfl,db⟩;have kR:=aZ hZ db;have fZ:=ae (bJ ie db);obtain⟨-,-,y2,-,-,y5,-,y7⟩:=dA fZ;clear db))
    go_ret;exact⟨by rw[dt.out];rfl,kR.out⟩
   |true=>
    cases PA with
    |false=>
     have dt:ag (R=false):=ae (by rw[HR2.out];simp);go_wp2_with(first
      |(go_at_call 58;refine ni.out.mono ?_;rintro r wa⟨rfl,da⟩;have hZ:=aZ HB da;have ie:=ae (bJ HP da);obtain⟨-,-,x2,x3,-,x5,-,x7⟩:=dA ie;clear da)
      |(go_at_call 102;refine(GK.out _ hZ.out).mono ?_;rintro r wb⟨rfl,db⟩;have kR:=aZ hZ db;have fZ:=ae (bJ ie db);obtain⟨-,-,y2,-,-,y5,-,y7⟩:=dA fZ;clear db)
      |(go_at_call 72;refine(zG.out _ kR.out).mono ?_;rintro r wc⟨rfl,dc⟩;have HBc:=aZ kR dc;have qn:=ae (bJ fZ dc);obtain⟨-,-,-,-,-,z5,-,z7⟩:=dA qn;clear dc))
     go_ret;exact⟨by rw[dt.out];rfl,HBc.out⟩
    |true=>
     cases YA with
     |false=>
      have dt:ag (R=false):=ae (by rw[HR2.out];simp);go_wp2_with(first
       |(go_at_call 58;refine ni.out.mono ?_;rintro r wa⟨rfl,da⟩;have hZ:=aZ HB da;have ie:=ae (bJ HP da);obtain⟨-,-,x2,x3,-,x5,-,x7⟩:=dA ie;clear da)
       |(go_at_call 102;refine(GK.out _ hZ.out).mono ?_;rintro r wb⟨rfl,db⟩;have kR:=aZ hZ db;have fZ:=ae (bJ ie db);obtain⟨-,-,y2,-,-,y5,-,y7⟩:=dA fZ;clear db)
       |(go_at_call 72;refine(zG.out _ kR.out).mono ?_;rintro r wc⟨rfl,dc⟩;have HBc:=aZ kR dc;have qn:=ae (bJ fZ dc);obtain⟨-,-,-,-,-,z5,-,z7⟩:=dA qn;clear dc)
       |(go_at_call 73;refine(HRs.out _ HBc.out).mono ?_;rintro r wd⟨rfl,dd⟩;have Dw:=aZ HBc dd;have ot:=ae (bJ qn dd);have t7:=ot.out.cell 7;simp at t7;clear dd))
      go_ret;exact⟨by rw[dt.out];rfl,Dw.out⟩
     |true=>
      have dt:ag (R=OA):=ae (by rw[HR2.out];simp);go_wp2_with(first
       |(go_at_call 58;refine ni.out.mono ?_;rintro r wa⟨rfl,da⟩;have hZ:=aZ HB da;have ie:=ae (bJ HP da);obtain⟨-,-,x2,x3,-,x5,-,x7⟩:=dA ie;clear da)
       |(go_at_call 102;refine(GK.out _ hZ.out).mono ?_;rintro r wb⟨rfl,db⟩;have kR:=aZ hZ db;have fZ:=ae (bJ ie db);obtain⟨-,-,y2,-,-,y5,-,y7⟩:=dA fZ;clear db)
       |(go_at_call 72;refine(zG.out _ kR.out).mono ?_;rintro r wc⟨rfl,dc⟩;have HBc:=aZ kR dc;have qn:=ae (bJ fZ dc);obtain⟨-,-,-,-,-,z5,-,z7⟩:=dA qn;clear dc)
       |(go_at_call 73;refine(HRs.out _ HBc.out).mono ?_;rintro r wd⟨rfl,dd⟩;have Dw:=aZ HBc dd;have ot:=ae (bJ qn dd);have t7:=ot.out.cell 7;simp at t7;clear dd)
       |(go_at_call 74;refine(PZ.out _ Dw.out).mono ?_;rintro r we⟨rfl,de⟩;have HBe:=aZ Dw de;have HPe:=ae (bJ ot de);clear de))
      go_ret;exact⟨by rw[dt.out];rfl,HBe.out⟩
 ·obtain rfl:=q5 rfl;go_upto_region 5 with fail
  cases AM with
  |false=>
   have dt:ag (R=false):=ae (by rw[HR2.out];simp);go_wp2_with(first
    |(go_at_call 58;refine ni.out.mono ?_;rintro r wa⟨rfl,da⟩;have hZ:=aZ HB da;have ie:=ae (bJ HP da);obtain⟨-,-,x2,x3,-,x5,-,x7⟩:=dA ie;clear da))
   go_ret;exact⟨by rw[dt.out];rfl,hZ.out⟩
  |true=>
   cases RA with
   |false=>
    have dt:ag (R=false):=ae (by rw[HR2.out];simp);go_wp2_with(first
     |(go_at_call 58;refine ni.out.mono ?_;rintro r wa⟨rfl,da⟩;have hZ:=aZ HB da;have ie:=ae (bJ HP da);obtain⟨-,-,x2,x3,-,x5,-,x7⟩:=dA ie;clear da)
     |(go_at_call 102;refine(GK.out _ hZ.out).mono ?_;rintro r wb⟨rfl,db⟩;have kR:=aZ hZ db;have fZ:=ae (bJ ie db);obtain⟨-,-,y2,-,-,y5,-,y7⟩:=dA fZ;clear db))
    go_ret;exact⟨by rw[dt.out];rfl,kR.out⟩
   |true=>
    cases PA with
    |false=>
     have dt:ag (R=false):=ae (by rw[HR2.out];simp);go_wp2_with(first
      |(go_at_call 58;refine ni.out.mono ?_;rintro r wa⟨rfl,da⟩;have hZ:=aZ HB da;have ie:=ae (bJ HP da);obtain⟨-,-,x2,x3,-,x5,-,x7⟩:=dA ie;clear da)
      |(go_at_call 102;refine(GK.out _ hZ.out).mono ?_;rintro r wb⟨rfl,db⟩;have kR:=aZ hZ db;have fZ:=ae (bJ ie db);obtain⟨-,-,y2,-,-,y5,-,y7⟩:=dA fZ;clear db)
      |(go_at_call 72;refine(zG.out _ kR.out).mono ?_;rintro r wc⟨rfl,dc⟩;have HBc:=aZ kR dc;have qn:=ae (bJ fZ dc);obtain⟨-,-,-,-,-,z5,-,z7⟩:=dA qn;clear dc))
     go_ret;exact⟨by rw[dt.out];rfl,HBc.out⟩
    |true=>
     cases YA with
     |false=>
      have dt:ag (R=false):=ae (by rw[HR2.out];simp);go_wp2_with(first
       |(go_at_call 58;refine ni.out.mono ?_;rintro r wa⟨rfl,da⟩;have hZ:=aZ HB da;have ie:=ae (bJ HP da);obtain⟨-,-,x2,x3,-,x5,-,x7⟩:=dA ie;clear da)
       |(go_at_call 102;refine(GK.out _ hZ.out).mono ?_;rintro r wb⟨rfl,db⟩;have kR:=aZ hZ db;have fZ:=ae (bJ ie db);obtain⟨-,-,y2,-,-,y5,-,y7⟩:=dA fZ;clear db)
       |(go_at_call 72;refine(zG.out _ kR.out).mono ?_;rintro r wc⟨rfl,dc⟩;have HBc:=aZ kR dc;have qn:=ae (bJ fZ dc);obtain⟨-,-,-,-,-,z5,-,z7⟩:=dA qn;clear dc)
       |(go_at_call 73;refine(HRs.out _ HBc.out).mono ?_;rintro r wd⟨rfl,dd⟩;have Dw:=aZ HBc dd;have ot:=ae (bJ qn dd);have t7:=ot.out.cell 7;simp at t7;clear dd))
      go_ret;exact⟨by rw[dt.out];rfl,Dw.out⟩
     |true=>
      have dt:ag (R=OA):=ae (by rw[HR2.out];simp);go_wp2_with(first
       |(go_at_call 58;refine ni.out.mono ?_;rintro r wa⟨rfl,da⟩;have hZ:=aZ HB da;have ie:=ae (bJ HP da);obtain⟨-,-,x2,x3,-,x5,-,x7⟩:=dA ie;clear da)
       |(go_at_call 102;refine(GK.out _ hZ.out).mono ?_;rintro r wb⟨rfl,db⟩;have kR:=aZ hZ db;have fZ:=ae (bJ ie db);obtain⟨-,-,y2,-,-,y5,-,y7⟩:=dA fZ;clear db)
       |(go_at_call 72;refine(zG.out _ kR.out).mono ?_;rintro r wc⟨rfl,dc⟩;have HBc:=aZ kR dc;have qn:=ae (bJ fZ dc);obtain⟨-,-,-,-,-,z5,-,z7⟩:=dA qn;clear dc)
       |(go_at_call 73;refine(HRs.out _ HBc.out).mono ?_;rintro r wd⟨rfl,dd⟩;have Dw:=aZ HBc dd;have ot:=ae (bJ qn dd);have t7:=ot.out.cell 7;simp at t7;clear dd)
       |(go_at_call 74;refine(PZ.out _ Dw.out).mono ?_;rintro r we⟨rfl,de⟩;have HBe:=aZ Dw de;have HPe:=ae (bJ ot de);clear de))
      go_ret;exact⟨by rw[dt.out];rfl,HBe.out⟩
 ·have q6:=q6 rfl;go_upto_region 5 with fail
  cases AM with
  |false=>
   have dt:ag (R=false):=ae (by rw[HR2.out];simp);go_wp2_with(first
    |(go_at_call 58;refine ni.out.mono ?_;rintro r wa⟨rfl,da⟩;have hZ:=aZ HB da;have ie:=ae (bJ HP da);obtain⟨-,-,x2,x3,-,x5,-,x7⟩:=dA ie;clear da))
   go_ret;exact⟨by rw[dt.out];rfl,hZ.out⟩
  |true=>
   cases RA with
   |false=>
    have dt:ag (R=false):=ae (by rw[HR2.out];simp);go_wp2_with(first
     |(go_at_call 58;refine ni.out.mono ?_;rintro r wa⟨rfl,da⟩;have hZ:=aZ HB da;have ie:=ae (bJ HP da);obtain⟨-,-,x2,x3,-,x5,-,x7⟩:=dA ie;clear da)
     |(go_at_call 102;refine(GK.out _ hZ.out).mono ?_;rintro r wb⟨rfl,db⟩;have kR:=aZ hZ db;have fZ:=ae (bJ ie db);obtain⟨-,-,y2,-,-,y5,-,y7⟩:=dA fZ;clear db))
    go_ret;exact⟨by rw[dt.out];rfl,kR.out⟩
   |true=>
    cases PA with
    |false=>
     have dt:ag (R=false):=ae (by rw[HR2.out];simp);go_wp2_with(first
      |(go_at_call 58;refine ni.out.mono ?_;rintro r wa⟨rfl,da⟩;have hZ:=aZ HB da;have ie:=ae (bJ HP da);obtain⟨-,-,x2,x3,-,x5,-,x7⟩:=dA ie;clear da)
      |(go_at_call 102;refine(GK.out _ hZ.out).mono ?_;rintro r wb⟨rfl,db⟩;have kR:=aZ hZ db;have fZ:=ae (bJ ie db);obtain⟨-,-,y2,-,-,y5,-,y7⟩:=dA fZ;clear db)
      |(go_at_call 72;refine(zG.out _ kR.out).mono ?_;rintro r wc⟨rfl,dc⟩;have HBc:=aZ kR dc;have qn:=ae (bJ fZ dc);obtain⟨-,-,-,-,-,z5,-,z7⟩:=dA qn;clear dc))
     go_ret;exact⟨by rw[dt.out];rfl,HBc.out⟩
    |true=>
     cases YA with
     |false=>
      have dt:ag (R=false):=ae (by rw[HR2.out];simp);go_wp2_with(first
       |(go_at_call 58;refine ni.out.mono ?_;rintro r wa⟨rfl,da⟩;have hZ:=aZ HB da;have ie:=ae (bJ HP da);obtain⟨-,-,x2,x3,-,x5,-,x7⟩:=dA ie;clear da)
       |(go_at_call 102;refine(GK.out _ hZ.out).mono ?_;rintro r wb⟨rfl,db⟩;have kR:=aZ hZ db;have fZ:=ae (bJ ie db);obtain⟨-,-,y2,-,-,y5,-,y7⟩:=dA fZ;clear db)
       |(go_at_call 72;refine(zG.out _ kR.out).mono ?_;rintro r wc⟨rfl,dc⟩;have HBc:=aZ kR dc;have qn:=ae (bJ fZ dc);obtain⟨-,-,-,-,-,z5,-,z7⟩:=dA qn;clear dc)
       |(go_at_call 73;refine(HRs.out _ HBc.out).mono ?_;rintro r wd⟨rfl,dd⟩;have Dw:=aZ HBc dd;have ot:=ae (bJ qn dd);have t7:=ot.out.cell 7;simp at t7;clear dd))
      go_ret;exact⟨by rw[dt.out];rfl,Dw.out⟩
     |true=>
      have dt:ag (R=OA):=ae (by rw[HR2.out];simp);go_wp2_with(first
       |(go_at_call 58;refine ni.out.mono ?_;rintro r wa⟨rfl,da⟩;have hZ:=aZ HB da;have ie:=ae (bJ HP da);obtain⟨-,-,x2,x3,-,x5,-,x7⟩:=dA ie;clear da)
       |(go_at_call 102;refine(GK.out _ hZ.out).mono ?_;rintro r wb⟨rfl,db⟩;have kR:=aZ hZ db;have fZ:=ae (bJ ie db);obtain⟨-,-,y2,-,-,y5,-,y7⟩:=dA fZ;clear db)
       |(go_at_call 72;refine(zG.out _ kR.out).mono ?_;rintro r wc⟨rfl,dc⟩;have HBc:=aZ kR dc;have qn:=ae (bJ fZ dc);obtain⟨-,-,-,-,-,z5,-,z7⟩:=dA qn;clear dc)
       |(go_at_call 73;refine(HRs.out _ HBc.out).mono ?_;rintro r wd⟨rfl,dd⟩;have Dw:=aZ HBc dd;have ot:=ae (bJ qn dd);have t7:=ot.out.cell 7;simp at t7;clear dd)
       |(go_at_call 74;refine(PZ.out _ Dw.out).mono ?_;rintro r we⟨rfl,de⟩;have HBe:=aZ Dw de;have HPe:=ae (bJ ot de);clear de))
      go_ret;exact⟨by rw[dt.out];rfl,HBe.out⟩
 ·go_upto_region 5 with fail
  cases AM with
  |false=>
   have dt:ag (R=false):=ae (by rw[HR2.out];simp);go_wp2_with(first
    |(go_at_call 58;refine ni.out.mono ?_;rintro r wa⟨rfl,da⟩;have hZ:=aZ HB da;have ie:=ae (bJ HP da);obtain⟨-,-,x2,x3,-,x5,-,x7⟩:=dA ie;clear da))
   go_ret;exact⟨by rw[dt.out];rfl,hZ.out⟩
  |true=>
   cases RA with
   |false=>
    have dt:ag (R=false):=ae (by rw[HR2.out];simp);go_wp2_with(first
     |(go_at_call 58;refine ni.out.mono ?_;rintro r wa⟨rfl,da⟩;have hZ:=aZ HB da;have ie:=ae (bJ HP da);obtain⟨-,-,x2,x3,-,x5,-,x7⟩:=dA ie;clear da)
     |(go_at_call 102;refine(GK.out _ hZ.out).mono ?_;rintro r wb⟨rfl,db⟩;have kR:=aZ hZ db;have fZ:=ae (bJ ie db);obtain⟨-,-,y2,-,-,y5,-,y7⟩:=dA fZ;clear db))
    go_ret;exact⟨by rw[dt.out];rfl,kR.out⟩
   |true=>
    cases PA with
    |false=>
     have dt:ag (R=false):=ae (by rw[HR2.out];simp);go_wp2_with(first
      |(go_at_call 58;refine ni.out.mono ?_;rintro r wa⟨rfl,da⟩;have hZ:=aZ HB da;have ie:=ae (bJ HP da);obtain⟨-,-,x2,x3,-,x5,-,x7⟩:=dA ie;clear da)
      |(go_at_call 102;refine(GK.out _ hZ.out).mono ?_;rintro r wb⟨rfl,db⟩;have kR:=aZ hZ db;have fZ:=ae (bJ ie db);obtain⟨-,-,y2,-,-,y5,-,y7⟩:=dA fZ;clear db)
      |(go_at_call 72;refine(zG.out _ kR.out).mono ?_;rintro r wc⟨rfl,dc⟩;have HBc:=aZ kR dc;have qn:=ae (bJ fZ dc);obtain⟨-,-,-,-,-,z5,-,z7⟩:=dA qn;clear dc))
     go_ret;exact⟨by rw[dt.out];rfl,HBc.out⟩
    |true=>
     cases YA with
     |false=>
      have dt:ag (R=false):=ae (by rw[HR2.out];simp);go_wp2_with(first
       |(go_at_call 58;refine ni.out.mono ?_;rintro r wa⟨rfl,da⟩;have hZ:=aZ HB da;have ie:=ae (bJ HP da);obtain⟨-,-,x2,x3,-,x5,-,x7⟩:=dA ie;clear da)
       |(go_at_call 102;refine(GK.out _ hZ.out).mono ?_;rintro r wb⟨rfl,db⟩;have kR:=aZ hZ db;have fZ:=ae (bJ ie db);obtain⟨-,-,y2,-,-,y5,-,y7⟩:=dA fZ;clear db)
       |(go_at_call 72;refine(zG.out _ kR.out).mono ?_;rintro r wc⟨rfl,dc⟩;have HBc:=aZ kR dc;have qn:=ae (bJ fZ dc);obtain⟨-,-,-,-,-,z5,-,z7⟩:=dA qn;clear dc)
       |(go_at_call 73;refine(HRs.out _ HBc.out).mono ?_;rintro r wd⟨rfl,dd⟩;have Dw:=aZ HBc dd;have ot:=ae (bJ qn dd);have t7:=ot.out.cell 7;simp at t7;clear dd))
      go_ret;exact⟨by rw[dt.out];rfl,Dw.out⟩
     |true=>
      have dt:ag (R=OA):=ae (by rw[HR2.out];simp);go_wp2_with(first
       |(go_at_call 58;refine ni.out.mono ?_;rintro r wa⟨rfl,da⟩;have hZ:=aZ HB da;have ie:=ae (bJ HP da);obtain⟨-,-,x2,x3,-,x5,-,x7⟩:=dA ie;clear da)
       |(go_at_call 102;refine(GK.out _ hZ.out).mono ?_;rintro r wb⟨rfl,db⟩;have kR:=aZ hZ db;have fZ:=ae (bJ ie db);obtain⟨-,-,y2,-,-,y5,-,y7⟩:=dA fZ;clear db)
       |(go_at_call 72;refine(zG.out _ kR.out).mono ?_;rintro r wc⟨rfl,dc⟩;have HBc:=aZ kR dc;have qn:=ae (bJ fZ dc);obtain⟨-,-,-,-,-,z5,-,z7⟩:=dA qn;clear dc)
       |(go_at_call 73;refine(HRs.out _ HBc.out).mono ?_;rintro r wd⟨rfl,dd⟩;have Dw:=aZ HBc dd;have ot:=ae (bJ qn dd);have t7:=ot.out.cell 7;simp at t7;clear dd)
       |(go_at_call 74;refine(PZ.out _ Dw.out).mono ?_;rintro r we⟨rfl,de⟩;have HBe:=aZ Dw de;have HPe:=ae (bJ ot de);clear de))
      go_ret;exact⟨by rw[dt.out];rfl,HBe.out⟩
def yG(x s:Nat):Nat:=x*2^s%4294967296|||x/2^(32-s)
def bQ(v:List Nat)(i:Nat):Nat:=v.getD i 0
def iE(x y:Nat):Nat:=x^^^y
structure Ws(n:Nat)(v:List Nat):Prop where
 len:v.length=n
 lt:∀x∈v,x<4294967296
theorem Ws.at_{n:Nat}{v:List Nat}(h:Ws n v)(i:Nat):bQ v i<4294967296:=by
 unfold bQ;rw[aE];cases hi:v[i]? with
 |none=>decide
 |some x=>exact h.lt x (List.mem_of_getElem? hi)
theorem Ws.aL{n:Nat}{v:List Nat}(h:Ws n v)(i:Nat){x:Nat}(hx:x<4294967296):Ws n (v.set i x):=⟨by rw[List.length_set];exact h.len,fun y hy=>by
 rcases List.mem_or_eq_of_mem_set hy with hy|rfl
 ·exact h.lt y hy
 ·exact hx⟩
theorem abz{x y:Nat}(hx:x<4294967296)(hy:y<4294967296):x|||y<4294967296:=Nat.or_lt_two_pow (n:=32) hx hy
theorem kA{x y:Nat}(hx:x<4294967296)(hy:y<4294967296):iE x y<4294967296:=Nat.xor_lt_two_pow (n:=32) hx hy
theorem ac1{x s:Nat}(hx:x<4294967296):yG x s<4294967296:=abz (Nat.mod_lt _ aH) (Nat.lt_of_le_of_lt (Nat.div_le_self _ _) hx)
def K5(v:List Nat)(a b x:Nat):List Nat:=v.set a ((bQ v a+(bQ v b+x)%4294967296)%4294967296)
def zJ(v:List Nat)(d a s:Nat):List Nat:=v.set d (yG (iE (bQ v d) (bQ v a)) s)
def La(v:List Nat)(c d:Nat):List Nat:=v.set c ((bQ v c+bQ v d)%4294967296)
def stepW(v:List Nat)(a b c d x r s:Nat):List Nat:=zJ (La (zJ (K5 v a b x) d a r) c d) b c s
def Lc(v:List Nat)(a b c d x y:Nat):List Nat:=stepW (stepW v a b c d x 16 20) a b c d y 24 25
theorem Dx{n:Nat}{v:List Nat}(h:Ws n v)(a b x:Nat):Ws n (K5 v a b x):=h.aL a (Nat.mod_lt _ aH)
theorem Dy{n:Nat}{v:List Nat}(h:Ws n v)(a b:Nat):Ws n (La v a b):=h.aL a (Nat.mod_lt _ aH)
theorem qp{n:Nat}{v:List Nat}(h:Ws n v)(a b s:Nat):Ws n (zJ v a b s):=h.aL a (ac1 (kA (h.at_ a) (h.at_ b)))
theorem yH{n:Nat}{v:List Nat}(h:Ws n v)(a b c d x r s:Nat):Ws n (stepW v a b c d x r s):=qp (Dy (qp (Dx h a b x) d a r) c d) b c s
theorem NI{n:Nat}{v:List Nat}(h:Ws n v)(a b c d x y:Nat):Ws n (Lc v a b c d x y):=yH (yH h a b c d x 16 20) a b c d y 24 25
def pO:List (List Nat):=[[0,1,2,3,4,5,6,7,8,9,10,11,12,13,14,15],[14,10,4,8,9,15,13,6,1,12,0,2,11,7,5,3],[11,8,12,0,5,2,15,13,10,14,3,6,7,1,9,4],[7,9,3,1,13,12,11,14,2,6,5,10,4,0,15,8],[9,0,5,7,2,4,10,15,14,1,11,12,6,8,3,13],[2,12,6,10,0,11,8,3,4,13,7,5,15,14,1,9],[12,5,1,15,14,13,4,10,0,7,6,3,9,2,8,11],[13,11,7,14,12,1,3,9,5,0,15,4,8,6,2,10],[6,15,14,9,11,3,0,8,12,2,13,7,1,4,10,5],[10,2,8,4,7,6,1,5,15,11,9,14,3,12,13,0]]
def NJ(m o v:List Nat)(i:Nat):List Nat:=Lc v i (4+i) (8+i) (12+i) (bQ m (bQ o (2*i))) (bQ m (bQ o (2*i+1)))
def qq(m o v:List Nat)(i:Nat):List Nat:=Lc v i (4+(i+1)%4) (8+(i+2)%4) (12+(i+3)%4) (bQ m (bQ o (8+2*i))) (bQ m (bQ o (9+2*i)))
def upW(m o v:List Nat)(k:Nat):List Nat:=(aF k).foldl (NJ m o) v
def me(m o v:List Nat)(k:Nat):List Nat:=(aF k).foldl (qq m o) v
def rz(m v:List Nat)(r:Nat):List Nat:=me m (pO.getD r []) (upW m (pO.getD r []) v 4) 4
def kS(m v:List Nat)(k:Nat):List Nat:=(aF k).foldl (rz m) v
theorem qt{n:Nat}{f:List Nat→Nat→List Nat}(hf:∀v i,Ws n v→Ws n (f v i)):∀(l:List Nat)(v:List Nat),Ws n v→Ws n (l.foldl f v)
 |[],_,h=>h
 |i::l,v,h=>qt hf l (f v i) (hf v i h)
theorem Ld{n:Nat}{m o v:List Nat}(h:Ws n v)(k:Nat):Ws n (upW m o v k):=qt (fun _ _ h=>NI h _ _ _ _ _ _) _ v h
theorem yI{n:Nat}{m o v:List Nat}(h:Ws n v)(k:Nat):Ws n (me m o v k):=qt (fun _ _ h=>NI h _ _ _ _ _ _) _ v h
theorem Q0{n:Nat}{m v:List Nat}(h:Ws n v)(r:Nat):Ws n (rz m v r):=by unfold rz;exact yI (Ld h 4) 4
theorem rA{n:Nat}{m v:List Nat}(h:Ws n v)(k:Nat):Ws n (kS m v k):=by unfold kS;exact qt (f:=rz m) (fun _ r h=>Q0 h r) _ v h
theorem jU(f:List Nat→Nat→List Nat)(v:List Nat)(k:Nat):(aF (k+1)).foldl f v=f ((aF k).foldl f v) k:=by rw[List.range_succ,List.foldl_append];rfl
theorem V3(m o v:List Nat)(k:Nat):upW m o v (k+1)=NJ m o (upW m o v k) k:=jU (NJ m o) _ k
theorem Dz(m o v:List Nat)(k:Nat):me m o v (k+1)=qq m o (me m o v k) k:=jU (qq m o) _ k
theorem DC(m v:List Nat)(k:Nat):kS m v (k+1)=rz m (kS m v k) k:=jU (rz m) _ k
def V4(p:List Nat)(m:List Nat)(i:Nat):List Nat:=m.set (i/4) (bQ m (i/4)|||bQ p i*2^(i%4*8)%4294967296)
def lE(p:List Nat)(k:Nat):List Nat:=(aF k).foldl (V4 p) (aS 16 0)
theorem ac2(n:Nat):Ws n (aS n 0):=⟨List.length_replicate,fun x hx=>by rw[(List.mem_replicate.1 hx).2];decide⟩
theorem AY(p:List Nat)(k:Nat):Ws 16 (lE p k):=qt (fun _ _ h=>h.aL _ (abz (h.at_ _) (Nat.mod_lt _ aH))) _ _ (ac2 16)
theorem GL(p:List Nat)(k:Nat):lE p (k+1)=V4 p (lE p k) k:=jU (V4 p) _ k
def ia:List Nat:=[1779033703,3144134277,1013904242,2773480762,1359893119,2600822924,528734635,1541459225]
theorem kZ:Ws 8 ia:=⟨rfl,by decide⟩
def nX(h:List Nat)(n:Nat)(last:Bool):List Nat:=let v:=h++ia
 let v:=v.set 12 (iE (bQ v 12) (n%4294967296))
 let v:=v.set 13 (iE (bQ v 13) (n/4294967296%4294967296))
 if last then v.set 14 (4294967295-bQ v 14)else v
theorem V5{n m:Nat}{u v:List Nat}(h:Ws n u)(k:Ws m v):Ws (n+m) (u++v):=⟨by rw[ai,h.len,k.len],fun x hx=>(List.mem_append.1 hx).elim (h.lt x) (k.lt x)⟩
theorem AZ{h:List Nat}(hh:Ws 8 h)(n:Nat)(last:Bool):Ws 16 (nX h n last):=by
 unfold nX;have h1:=V5 hh kZ;have h2:=h1.aL 12 (kA (h1.at_ 12) (Nat.mod_lt n (show 0<4294967296 by decide)));have h3:=h2.aL 13 (kA (h2.at_ 13) (Nat.mod_lt (n/4294967296) (show 0<4294967296 by decide)));cases last with
 |false=>exact h3
 |true=>exact h3.aL 14 (by omega)
def NK(v h:List Nat)(i:Nat):List Nat:=h.set i (iE (bQ h i) (iE (bQ v i) (bQ v (8+i))))
def nY(v h:List Nat)(k:Nat):List Nat:=(aF k).foldl (NK v) h
theorem GM(v h:List Nat)(k:Nat):nY v h (k+1)=NK v (nY v h k) k:=jU (NK v) _ k
theorem A8{n m:Nat}{v h:List Nat}(hv:Ws m v)(hh:Ws n h)(k:Nat):Ws n (nY v h k):=qt (fun _ _ h=>h.aL _ (kA (h.at_ _) (kA (hv.at_ _) (hv.at_ _)))) _ _ hh
def pP(h:List Nat)(n:Nat)(p:List Nat)(last:Bool):List Nat:=nY (kS (lE p 64) (nX h n last) 10) h 8
theorem ub{h:List Nat}(hh:Ws 8 h)(n:Nat)(p:List Nat)(last:Bool):Ws 8 (pP h n p last):=A8 (rA (AZ hh n last) 10) hh 8
structure Bl where
 h:List Nat
 rest:List Nat
 n:Nat
structure Bl.Ok(b:Bl):Prop where
 h:Ws 8 b.h
 rest:b.rest.length≤64
 byte:∀x∈b.rest,x<256
def Bl.add(b:Bl)(c:Nat):Bl:=if b.rest.length=64 then⟨pP b.h (b.n+64) b.rest false,[c],b.n+64⟩else⟨b.h,b.rest++[c],b.n⟩
theorem Bl.ac3{b:Bl}(ok:b.Ok){c:Nat}(hc:c<256):(b.add c).Ok:=by
 unfold Bl.add;split
 ·exact⟨ub ok.h _ _ _,(show 1≤64 by decide),fun x hx=>by rw[List.mem_singleton.1 hx];exact hc⟩
 ·refine⟨ok.h,?_,fun x hx=>?_⟩
  ·have:=ok.rest;simp only[ai,dn];omega
  ·rcases List.mem_append.1 hx with hx|hx
   ·exact ok.byte x hx
   ·rw[List.mem_singleton.1 hx];exact hc
def Bl.adds(b:Bl)(l:List Nat):Bl:=l.foldl Bl.add b
def Bl.new:Bl:=⟨ia.set 0 1795745351,[],0⟩
theorem Bl.V6:Bl.new.Ok:=⟨kZ.aL 0 aH,by decide,fun x hx=>by cases hx⟩
theorem Bl.NL{l:List Nat}(hl:∀x∈l,x<256):∀{b:Bl},b.Ok→(b.adds l).Ok:=by
 induction l with
 |nil=>intro b h;exact h
 |cons c l ih=>intro b h;exact ih (fun x hx=>hl x (List.mem_cons_of_mem _ hx)) (b.ac3 h (hl c (List.mem_cons_self ..)))
theorem Bl.afg(b:Bl)(c:Nat):(b.add c).n≤b.n+64∧(b.add c).n+(b.add c).rest.length=b.n+b.rest.length+1:=by
 unfold Bl.add;split
 ·next h=>simp only[dn];omega
 ·simp only[ai,dn];omega
theorem Bl.V7(l:List Nat):∀b:Bl,(b.adds l).n+(b.adds l).rest.length=b.n+b.rest.length+l.length:=by
 induction l with
 |nil=>intro b;rfl
 |cons c l ih=>
  intro b;show((b.add c).adds l).n+((b.add c).adds l).rest.length=_;rw[ih,(b.afg c).2,List.length_cons];omega
def Bl.last(b:Bl):List Nat:=pP b.h (b.n+b.rest.length) (b.rest++aS (64-b.rest.length) 0) true
def kN(h:List Nat)(i:Nat):Nat:=bQ h (i/4)/2^(i%4*8)%256
def Bl.sum(b:Bl):List Nat:=(aF 32).map (kN b.last)
def uc(s:ByteArray):ByteArray:=⟨((Bl.new.adds (s.data.toList.map UInt8.toNat)).sum.map UInt8.ofNat).toArray⟩
theorem GN(s:ByteArray):(uc s).size=32:=by
 show(((Bl.new.adds _).sum.map UInt8.ofNat).toArray).size=32;rw[List.size_toArray,ay];unfold Bl.sum;rw[ay,List.length_range]
theorem wQ(x s:Nat)(hx:x<4294967296)(hs:s<32)(k:Int)(hk:bits .and .u64 (IntKind.u64.wrap k) 31=(s:Int))(w:World):Calls ah 198 #[.int .u32 x,.int .i64 k] w fun r w'=>r=.returned (.int .u32 (yG x s:Int))∧w=w':=by
 have h3:IntKind.u64.wrap (32-(s:Int))=((32-s:Nat):Int):=by rw[IntKind.wrap_u64];omega
 have h4:bits .or .u32 ((x:Int)*2^s%4294967296) ((x:Int)/2^(32-s))=(yG x s:Int):=by
  have:=u32_or_nat (x*2^s%4294967296) (x/2^(32-s)) (Nat.mod_lt _ aH) (Nat.lt_of_le_of_lt (Nat.div_le_self _ _) hx);unfold yG;simpa using this
 have ht:32-s≤32:=Nat.sub_le _ _;generalize 32-s=t at*;generalize yG x s=R at*;go_enter Tryz.func198,Tryz.ntmps198;go_wp2_with fail
 go_ret;exact⟨rfl,rfl⟩
def cF(v:List Nat):Array Value:=(v.map fun x:Nat=>Value.int .u32 x).toArray
theorem Ba{n:Nat}{v:List Nat}(h:Ws n v){i:Nat}(hi:i<n):(cF v)[i]? =some (.int .u32 (bQ v i:Int)):=by
 unfold cF bQ;rw[List.getElem?_toArray,List.getElem?_map,aE,af (by rw[h.len];exact hi)];rfl
theorem yJ(v:List Nat)(i x:Nat):(cF v).setIfInBounds i (.int .u32 x)=cF (v.set i x):=by
 unfold cF;rw[List.setIfInBounds_toArray,List.map_set]
theorem vo(n:Nat):IntKind.u32.wrap (n:Int)=((n%4294967296:Nat):Int):=by rw[IntKind.wrap_u32];rfl
theorem eA{w:World}{g n:Nat}{t:TypeId}{v:List Nat}(hv:Ws n v)(hg:aG w g t (cF v)){i:Nat}(hi:i<n):w.cell? ⟨g,i,none⟩=some (.int .u32 (bQ v i:Int)):=by
 rw[hg.cell i];exact Ba hv hi
theorem GQ{w w0:World}{g n:Nat}{t:TypeId}{v:List Nat}(hg:aG w g t (cF v))(hk:Keeps (fun k=>k=g) w0 w)(i x:Nat):aG (w.setCell ⟨g,i,none⟩ (.int .u32 x)).drew g t (cF (v.set i x))∧Keeps (fun k=>k=g) w0 (w.setCell ⟨g,i,none⟩ (.int .u32 x)).drew:=by
 refine⟨?_,(hk.setCell (p:=⟨g,i,none⟩) (Or.inl rfl) _).drew⟩;rw[←yJ];exact(hg.aL i _).drew
def lF(w0:World)(g:Nat)(v:List Nat)(w:World):Prop:=aG w g 259 (cF v)∧Keeps (fun k=>k=g) w0 w
theorem GU{w w0:World}{g:Nat}{v:List Nat}(h:lF w0 g v w){a b x A B R0 R1:Nat}(hA:bQ v a=A)(hB:bQ v b=B)(h0:(B+x)%4294967296=R0)(h1:(A+R0)%4294967296=R1):lF w0 g (K5 v a b x) (w.setCell ⟨g,a,none⟩ (.int .u32 R1)).drew:=by
 have:=GQ (n:=16) h.1 h.2 a R1;rw[show v.set a R1=K5 v a b x by unfold K5;rw[hA,hB,h0,h1]]at this;exact this
theorem GV{w w0:World}{g:Nat}{v:List Nat}(h:lF w0 g v w){a b A B R1:Nat}(hA:bQ v a=A)(hB:bQ v b=B)(h1:(A+B)%4294967296=R1):lF w0 g (La v a b) (w.setCell ⟨g,a,none⟩ (.int .u32 R1)).drew:=by
 have:=GQ (n:=16) h.1 h.2 a R1;rw[show v.set a R1=La v a b by unfold La;rw[hA,hB,h1]]at this;exact this
theorem sK{w w0:World}{g:Nat}{v:List Nat}(h:lF w0 g v w){a b s A B R1:Nat}(hA:bQ v a=A)(hB:bQ v b=B)(h1:yG (iE A B) s=R1):lF w0 g (zJ v a b s) (w.setCell ⟨g,a,none⟩ (.int .u32 R1)).drew:=by
 have:=GQ (n:=16) h.1 h.2 a R1;rw[show v.set a R1=zJ v a b s by unfold zJ;rw[hA,hB,h1]]at this;exact this
theorem GX{x y:Nat}(hx:x<4294967296)(hy:y<4294967296):bits .xor .u32 (x:Int) (y:Int)=(iE x y:Int):=u32_xor_nat x y hx hy
theorem NM{w:World}{g gw:Nat}{v:List Nat}(hv:Ws 16 v)(hg:aG w g 259 (cF v)){x y:Nat}(hw:aG w gw 177 #[.int .u32 x,.int .u32 y]){a b c d:Nat}(ha:a<16)(hb:b<16)(hc:c<16)(hd:d<16):Calls ah 197 #[.int .i64 a,.int .i64 b,.int .i64 c,.int .i64 d,.slice (some ⟨gw,0,none⟩) 2 2,.pointer (some ⟨g,0,none⟩)] w fun r w'=>r=.returned (.tuple #[])∧lF w g (Lc v a b c d x y) w':=by
 have hne:gw≠g:=aG.vP hw hg aH;have HG:ag (lF w g v w):=ae ⟨hg,Keeps.refl _ _⟩;have HW:=ae hw;have a1:(0:Int)≤(a:Int):=by omega
 have a2:(a:Int)<16:=by omega
 have a3:(b:Int)<16:=by omega
 have a4:(c:Int)<16:=by omega
 have a5:(d:Int)<16:=by omega
 clear hg hw;go_enter Tryz.func197,Tryz.ntmps197;go_wp2_with fail
 go_loopw [15] (fun v15 wr=>(v15=.int .i64 0∧ag (lF w g v wr))∨(v15=.int .i64 1∧ag (lF w g (stepW v a b c d x 16 20) wr))∨(v15=.int .i64 2∧ag (lF w g (Lc v a b c d x y) wr))) (fun v15 _=>2-(intOf v15).toNat)
 case atStart=>exact Or.inl ⟨rfl,HG⟩
 case round=>
  rcases hrel with⟨rfl,h⟩|⟨rfl,h⟩|⟨rfl,h⟩
  ·have hvv:=hv;obtain⟨wo,rfl⟩:=bq (wr:World);have c0:=(HW.out.keep h.out.2 hne).cell 0;simp at c0;have d1:=eA hvv h.out.1 ha;have d2:=eA hvv h.out.1 hb;have f1:=h.out.1.frozen a;have l1:=hvv.at_ a;have l2:=hvv.at_ b;generalize hA:bQ v a=A at d1 l1;generalize hB:bQ v b=B at d2 l2;obtain⟨HA,HB⟩:=aN hA hB;clear hA hB;have e1:IntKind.u32.wrap ((B:Int)+(x:Int))=(((B+x)%4294967296:Nat):Int):=vo (B+x);have e2:IntKind.u32.wrap ((A:Int)+(((B+x)%4294967296:Nat):Int))=(((A+(B+x)%4294967296)%4294967296:Nat):Int):=vo (A+(B+x)%4294967296);generalize hR1:(A+(B+x)%4294967296)%4294967296=R1 at e2;generalize hR0:(B+x)%4294967296=R0 at e1 e2 hR1;have h1:=ae (GU h.out HA.out HB.out hR0 hR1);have hv1:=Dx hvv a b x;generalize hX:K5 v a b x=u1 at h1 hv1;have HX1:=ae hX;clear hR0 hR1 hX l1 l2 HA HB;go_upto_region 3 with fail
   go_region;generalize(wo.setCell ⟨g,a,none⟩ (.int .u32 R1)).drew=w1 at h1⊢;clear d1 d2 f1 e1 e2 c0;have d1:=eA hv1 h1.out.1 hd;have d2:=eA hv1 h1.out.1 ha;have f1:=h1.out.1.frozen d;have l1:=hv1.at_ d;have l2:=hv1.at_ a;generalize hA:bQ u1 d=A at d1 l1;generalize hB:bQ u1 a=B at d2 l2;obtain⟨HA,HB⟩:=aN hA hB;clear hA hB;have e1:=GX l1 l2;have nZ:=fun u=>wQ (iE A B) 16 (kA l1 l2) aH (-16) aH u
   generalize hR1:yG (iE A B) 16=R1 at nZ;have h2:=ae (sK h1.out HA.out HB.out hR1);have hv2:=qp hv1 d a 16;generalize hX:zJ u1 d a 16=u2 at h2 hv2;generalize iE A B=X0 at e1 nZ;obtain⟨yK,HX2⟩:=aN nZ hX;clear nZ hR1 hX l1 l2 HA HB hv1 h1;go_upto_region 4 with fail
   refine wp_region_still_tail 13 bo bo ?_;simp only[ag6,ME,ag8,ag7]
   repeat still_step
   still_call ((yK.out _).mono fun _ _ h=>⟨h.1,h.2.symm⟩)
   repeat still_step
   refine wpStill_nil ?_;change wpList _ _ _ _ _ w1.drew;go_wp2_with fail
   generalize(w1.setCell ⟨g,d,none⟩ (.int .u32 R1)).drew=w2 at h2⊢;clear d1 d2 f1 e1 yK;have d1:=eA hv2 h2.out.1 hc;have d2:=eA hv2 h2.out.1 hd;have f1:=h2.out.1.frozen c;have l1:=hv2.at_ c;have l2:=hv2.at_ d;generalize hA:bQ u2 c=A at d1 l1;generalize hB:bQ u2 d=B at d2 l2;obtain⟨HA,HB⟩:=aN hA hB;clear hA hB;have e1:IntKind.u32.wrap ((A:Int)+(B:Int))=(((A+B)%4294967296:Nat):Int):=vo (A+B);generalize hR1:(A+B)%4294967296=R1 at e1;have h3:=ae (GV h2.out HA.out HB.out hR1);have hv3:=Dy hv2 c d;generalize hX:La u2 c d=u3 at h3 hv3;have HX3:=ae hX;clear hR1 hX l1 l2 HA HB;go_upto_region 5 with fail
   go_region;generalize(w2.setCell ⟨g,c,none⟩ (.int .u32 R1)).drew=w3 at h3⊢;clear d1 d2 f1 e1 h2 hv2;have d1:=eA hv3 h3.out.1 hb;have d2:=eA hv3 h3.out.1 hc;have f1:=h3.out.1.frozen b;have l1:=hv3.at_ b;have l2:=hv3.at_ c;generalize hA:bQ u3 b=A at d1 l1;generalize hB:bQ u3 c=B at d2 l2;obtain⟨HA,HB⟩:=aN hA hB;clear hA hB;have e1:=GX l1 l2;have nZ:=fun u=>wQ (iE A B) 20 (kA l1 l2) aH (-12) aH u
   generalize hR1:yG (iE A B) 20=R1 at nZ;have h4:=ae (sK h3.out HA.out HB.out hR1);have hv4:=qp hv3 b c 20;generalize hX:zJ u3 b c 20=u4 at h4 hv4;generalize iE A B=X0 at e1 nZ;obtain⟨yK,Ky⟩:=aN nZ hX;clear nZ hR1 hX l1 l2 HA HB hv3 h3;go_upto_region 6 with fail
   refine wp_region_still_tail 13 bo bo ?_;simp only[ag6,ME,ag8,ag7]
   repeat still_step
   still_call ((yK.out _).mono fun _ _ h=>⟨h.1,h.2.symm⟩)
   repeat still_step
   refine wpStill_nil ?_;change wpList _ _ _ _ _ w3.drew;go_wp2_with fail
   generalize(w3.setCell ⟨g,b,none⟩ (.int .u32 R1)).drew=w4 at h4⊢;clear d1 d2 f1 e1 yK;have hfin:ag (lF w g (stepW v a b c d x 16 20) w4):=ae (by
    have e:stepW v a b c d x 16 20=u4:=by unfold stepW;rw[HX1.out,HX2.out,HX3.out,Ky.out]
    rw[e];exact h4.out)
   clear HX1 HX2 HX3 Ky h4 hv4 h;go_wp2_with fail
   go_roundw
   case rel=>exact Or.inr (Or.inl ⟨rfl,hfin⟩)
   case measure=>simp[intOf]
  ·have hvv:=yH hv a b c d x 16 20;generalize hV:stepW v a b c d x 16 20=v1 at h hvv;have HV:=ae hV;clear hV;obtain⟨wo,rfl⟩:=bq (wr:World);have c0:=(HW.out.keep h.out.2 hne).cell 1;simp at c0;have d1:=eA hvv h.out.1 ha;have d2:=eA hvv h.out.1 hb;have f1:=h.out.1.frozen a;have l1:=hvv.at_ a;have l2:=hvv.at_ b;generalize hA:bQ v1 a=A at d1 l1;generalize hB:bQ v1 b=B at d2 l2;obtain⟨HA,HB⟩:=aN hA hB;clear hA hB;have e1:IntKind.u32.wrap ((B:Int)+(y:Int))=(((B+y)%4294967296:Nat):Int):=vo (B+y);have e2:IntKind.u32.wrap ((A:Int)+(((B+y)%4294967296:Nat):Int))=(((A+(B+y)%4294967296)%4294967296:Nat):Int):=vo (A+(B+y)%4294967296);generalize hR1:(A+(B+y)%4294967296)%4294967296=R1 at e2;generalize hR0:(B+y)%4294967296=R0 at e1 e2 hR1;have h1:=ae (GU h.out HA.out HB.out hR0 hR1);have hv1:=Dx hvv a b y;generalize hX:K5 v1 a b y=u1 at h1 hv1;have HX1:=ae hX;clear hR0 hR1 hX l1 l2 HA HB;go_upto_region 3 with fail
   go_region;generalize(wo.setCell ⟨g,a,none⟩ (.int .u32 R1)).drew=w1 at h1⊢;clear d1 d2 f1 e1 e2 c0;have d1:=eA hv1 h1.out.1 hd;have d2:=eA hv1 h1.out.1 ha;have f1:=h1.out.1.frozen d;have l1:=hv1.at_ d;have l2:=hv1.at_ a;generalize hA:bQ u1 d=A at d1 l1;generalize hB:bQ u1 a=B at d2 l2;obtain⟨HA,HB⟩:=aN hA hB;clear hA hB;have e1:=GX l1 l2;have nZ:=fun u=>wQ (iE A B) 24 (kA l1 l2) aH (-8) aH u
   generalize hR1:yG (iE A B) 24=R1 at nZ;have h2:=ae (sK h1.out HA.out HB.out hR1);have hv2:=qp hv1 d a 24;generalize hX:zJ u1 d a 24=u2 at h2 hv2;generalize iE A B=X0 at e1 nZ;obtain⟨yK,HX2⟩:=aN nZ hX;clear nZ hR1 hX l1 l2 HA HB hv1 h1;go_upto_region 4 with fail
   refine wp_region_still_tail 13 bo bo ?_;simp only[ag6,ME,ag8,ag7]
   repeat still_step
   still_call ((yK.out _).mono fun _ _ h=>⟨h.1,h.2.symm⟩)
   repeat still_step
   refine wpStill_nil ?_;change wpList _ _ _ _ _ w1.drew;go_wp2_with fail
   generalize(w1.setCell ⟨g,d,none⟩ (.int .u32 R1)).drew=w2 at h2⊢;clear d1 d2 f1 e1 yK;have d1:=eA hv2 h2.out.1 hc;have d2:=eA hv2 h2.out.1 hd;have f1:=h2.out.1.frozen c;have l1:=hv2.at_ c;have l2:=hv2.at_ d;generalize hA:bQ u2 c=A at d1 l1;generalize hB:bQ u2 d=B at d2 l2;obtain⟨HA,HB⟩:=aN hA hB;clear hA hB;have e1:IntKind.u32.wrap ((A:Int)+(B:Int))=(((A+B)%4294967296:Nat):Int):=vo (A+B);generalize hR1:(A+B)%4294967296=R1 at e1;have h3:=ae (GV h2.out HA.out HB.out hR1);have hv3:=Dy hv2 c d;generalize hX:La u2 c d=u3 at h3 hv3;have HX3:=ae hX;clear hR1 hX l1 l2 HA HB;go_upto_region 5 with fail
   go_region;generalize(w2.setCell ⟨g,c,none⟩ (.int .u32 R1)).drew=w3 at h3⊢;clear d1 d2 f1 e1 h2 hv2;have d1:=eA hv3 h3.out.1 hb;have d2:=eA hv3 h3.out.1 hc;have f1:=h3.out.1.frozen b;have l1:=hv3.at_ b;have l2:=hv3.at_ c;generalize hA:bQ u3 b=A at d1 l1;generalize hB:bQ u3 c=B at d2 l2;obtain⟨HA,HB⟩:=aN hA hB;clear hA hB;have e1:=GX l1 l2;have nZ:=fun u=>wQ (iE A B) 25 (kA l1 l2) aH (-7) aH u
   generalize hR1:yG (iE A B) 25=R1 at nZ;have h4:=ae (sK h3.out HA.out HB.out hR1);have hv4:=qp hv3 b c 25;generalize hX:zJ u3 b c 25=u4 at h4 hv4;generalize iE A B=X0 at e1 nZ;obtain⟨yK,Ky⟩:=aN nZ hX;clear nZ hR1 hX l1 l2 HA HB hv3 h3;go_upto_region 6 with fail
   refine wp_region_still_tail 13 bo bo ?_;simp only[ag6,ME,ag8,ag7]
   repeat still_step
   still_call ((yK.out _).mono fun _ _ h=>⟨h.1,h.2.symm⟩)
   repeat still_step
   refine wpStill_nil ?_;change wpList _ _ _ _ _ w3.drew;go_wp2_with fail
   generalize(w3.setCell ⟨g,b,none⟩ (.int .u32 R1)).drew=w4 at h4⊢;clear d1 d2 f1 e1 yK;have hfin:ag (lF w g (stepW v1 a b c d y 24 25) w4):=ae (by
    have e:stepW v1 a b c d y 24 25=u4:=by unfold stepW;rw[HX1.out,HX2.out,HX3.out,Ky.out]
    rw[e];exact h4.out)
   clear HX1 HX2 HX3 Ky h4 hv4 h;go_wp2_with fail
   go_roundw
   case rel=>exact Or.inr (Or.inr ⟨rfl,ae (by have:=hfin.out;rw[←HV.out]at this;exact this)⟩)
   case measure=>simp[intOf]
  ·go_wp2_with fail
   go_end0
   exact⟨rfl,h.out⟩
end Go.Proofs.YtkjaajcpbldjoaaGreatDoor
