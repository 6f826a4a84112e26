/- Joined out of: EyE EyF NfE NfF DfA BhA BhB. -/
import Derived.Test.YtkjaajcpbldjoabGreatDoorLaj
import Derived.RegionTactic
import Derived.ChangeAlike
import Derived.LoopTactic
import Derived.StillTailTactics
set_option linter.unusedVariables false
set_option linter.unusedSimpArgs false
set_option maxHeartbeats 16000000
set_option maxRecDepth 100000
open Bool renaming true_and→bV,false_and→uy
open Go.Lib renaming hid→ae
open Go.Proofs.Tryz renaming prog→ah
open Go.RowKit renaming Hid→ag
open Go.World renaming ownsRow_nil→bh
open List renaming getElem?_eq_getElem→af,length_append→aj,length_map→ay,getD_eq_getElem?_getD→aE,range→aF,replicate→aS,getElem_mem→aZ,length_singleton→dn,mem_map_of_mem→dQ,take_zero→MJ,take_succ_cons→ahg,drop_zero→ahh,drop_succ_cons→ahj
open Nat renaming le_trans→aw
namespace Go.Proofs.YtkjaajcpbldjoabGreatDoor
open Go.RowKit
attribute [local go_sem↓] Go.wp_at_zero Go.wp_at_succ
theorem yB(s:ByteArray):s.toList.isEmpty=decide (s.size=0):=by
 obtain⟨⟨l⟩⟩:=s;rw[show(⟨⟨l⟩⟩:ByteArray).toList.isEmpty=l.isEmpty from Zc l];cases l with
 |nil=>rfl
 |cons x r=>exact(decide_eq_false (show¬(r.length+1=0) by omega)).symm
def Q7(s:ByteArray):Nat:=if s.size=0 then 0 else 8
theorem Q8{w:World}{rb:Nat}{s:ByteArray}(h:Rd w rb s 0):Calls ah 97 #[.pointer (some ⟨rb,0,none⟩)] w fun r w'=>r=.returned (.int .i64 (Q7 s:Int))∧w=w':=by
 have c0:=h.cells.1;have c1:w.cell? ⟨rb,1,none⟩=some (.int .i64 0):=h.cells.2;have HF:=ae (xy h);clear h;have he:=yB s;by_cases hz:s.size=0
 ·rw[show Q7 s=0 from if_pos hz];rw[decide_eq_true hz]at he;have he2:s.toList=[]:=List.isEmpty_iff.1 he;clear hz;go_enter Tryz.func97,Tryz.ntmps97;go_wp2_with(go_at_call 130;refine HF.out.mono ?_;rintro r w1⟨rfl,rfl⟩)
  go_ret;exact⟨rfl,rfl⟩
 ·rw[show Q7 s=8 from if_neg hz];rw[decide_eq_false hz]at he;clear hz;go_enter Tryz.func97,Tryz.ntmps97;go_wp2_with fail
  go_ret;exact⟨rfl,rfl⟩
abbrev Three(b rb mb:Nat):Nat→Prop:=fun k=>k=b∨k=rb∨k=mb
theorem qj{S T:Nat→Prop}{a b c:World}(h:Keeps T a b)(k:Keeps S b c)(hST:∀i,i<a.heap.size→S i→T i):Keeps T a c:=⟨k.os.trans h.os,k.tape.trans h.tape,k.output.trans h.output,aw h.size k.size,fun i hi hT=>(k.block i (Nat.lt_of_lt_of_le hi h.size) fun hs=>hT (hST i hi hs)).trans (h.block i hi hT)⟩
def Reads(f:Nat)(lb:Array Value)(s:ByteArray)(mb:Nat)(J:World→Prop)(e':Ey)(w:World):Prop:=∀W b rb,aW w W→w.heap.size≤b→w.heap.size≤rb→cj W b rb ⟨s,0,false⟩→Calls ah f (#[.pointer (some ⟨b,0,none⟩)]++lb) W fun r W'=>r=.returned (.tuple #[])∧J W'∧cj W' b rb e'∧Keeps (Three b rb mb) W W'
theorem Bj{w:World}{s:ByteArray}{f mb:Nat}{lb:Array Value}{J:World→Prop}{e':Ey}(hs:s.size≤4000000)(eg:∀args w,(callFunc f args).run ah w=.ok (.enter f args) w)(hf:Reads f lb s mb J e' w):Calls ah 43 #[.string s,.func (.func f) #[] lb] w fun r w'=>r=.returned (.bool (decide (s.size≤32768)&&tY e'))∧J w'∧Keeps (fun k=>k=mb) w w':=by
 have hnew:=new_any s w;have hread:∀w1,Rd w1 w.heap.size s 0→aW w w1→Calls ah f (#[.pointer (some ⟨w1.heap.size,0,none⟩)]++lb) (w1.alloc (.cells #[.pointer (some ⟨w.heap.size,0,none⟩),.bool false] 91)) fun r W'=>r=.returned (.tuple #[])∧J W'∧cj W' w1.heap.size w.heap.size e'∧Keeps (fun k=>k=mb) w W':=fun w1 h1 h2=>by
  have hb:=boxed w1 (.cells #[.pointer (some ⟨w.heap.size,0,none⟩),.bool false] 91);have h3:=after h2 hb;have hz:=h2.size;refine(hf _ w1.heap.size w.heap.size h3 hz (Nat.le_refl _) ⟨aH.new _ _ _,h1.below hb⟩).mono ?_;rintro r W'⟨rfl,hJ,hE,hK⟩;refine⟨rfl,hJ,hE,qj (Keeps.of_below (S:=fun k=>k=mb) h3 fun _ h _=>h) hK fun i hi h=>?_⟩;rcases h with h|h|h
  ·omega
  ·omega
  ·exact h
 have hfin:=fun u b rb(hu:cj u b rb e')=>jZ hu
 have hend:=fun u b rb(hu:cj u b rb e')(hf:e'.f=0)=>Q8 (by have:=hu.rd;rw[hf]at this;exact this)
 obtain⟨jd,mX,HFin,VM⟩:=cU hnew hread hfin hend;clear hnew hread hfin hend hf;by_cases hl:s.size≤32768
 ·have hl2:¬32768<s.size:=by omega
  rw[decide_eq_true hl,bV];unfold tY;cases hF:e'.iS with
  |false=>
   rw[uy];rw[hF]at HFin;clear hF VM;go_enter Tryz.func43,Tryz.ntmps43;go_wp2_with(first
    |(go_at_call 95;refine jd.out.mono ?_;rintro r w1⟨rfl,h1,d1⟩;have HR1:=ae (mX.out w1 h1 d1);clear h1 d1)
    |(go_at_fn f;(with_reducible refine HR1.out.mono ?_);rintro r w2⟨rfl,j2,e2,k2⟩;obtain⟨J2,E2,K2⟩:=bz j2 e2 k2;have c2:=e2.c0;clear j2 e2 k2)
    |(go_at_call 96;refine(HFin.out _ _ _ E2.out).mono ?_;rintro r w3⟨rfl,rfl⟩))
   go_ret;exact⟨rfl,J2.out,K2.out⟩
  |true=>
   have hfi:=(Ey.pG e').1 hF;rw[bV];rw[hF]at HFin;have HF0:=ae hfi.1;have hz:(((Q7 e'.s:Nat):Int)==0)=decide (e'.s.size=0):=by
    unfold Q7;by_cases h:e'.s.size=0
    ·rw[if_pos h,decide_eq_true h];rfl
    ·rw[if_neg h,decide_eq_false h];rfl
   generalize decide (e'.s.size=0)=B at hz⊢;generalize Q7 e'.s=E0 at hz VM;clear hF hfi;go_enter Tryz.func43,Tryz.ntmps43;go_wp2_with(first
    |(go_at_call 95;refine jd.out.mono ?_;rintro r w1⟨rfl,h1,d1⟩;have HR1:=ae (mX.out w1 h1 d1);clear h1 d1)
    |(go_at_fn f;(with_reducible refine HR1.out.mono ?_);rintro r w2⟨rfl,j2,e2,k2⟩;obtain⟨J2,E2,K2⟩:=bz j2 e2 k2;have c2:=e2.c0;clear j2 e2 k2)
    |(go_at_call 96;refine(HFin.out _ _ _ E2.out).mono ?_;rintro r w3⟨rfl,rfl⟩)
    |(go_at_call 97;refine(VM.out _ _ _ E2.out HF0.out).mono ?_;rintro r w4⟨rfl,rfl⟩))
   go_ret;exact⟨rfl,J2.out,K2.out⟩
 ·have hl2:32768<s.size:=by omega
  rw[decide_eq_false hl,uy];clear hl;go_enter Tryz.func43,Tryz.ntmps43;go_wp2_with(first
   |(go_at_call 95;refine jd.out.mono ?_;rintro r w1⟨rfl,h1,d1⟩;have HR1:=ae (mX.out w1 h1 d1);clear h1 d1)
   |(go_at_fn f;(with_reducible refine HR1.out.mono ?_);rintro r w2⟨rfl,j2,e2,k2⟩;obtain⟨J2,K2⟩:=aL j2 k2;clear j2 e2 k2))
  go_ret;exact⟨rfl,J2.out,K2.out⟩
def aap(w:World)(B mb:Nat)(m:Mp):Prop:=∃A1 c1 A2 c2,aH w mb 26 #[.int .u64 (m.version:Int),.slice A1 m.aK.length c1,.slice A2 m.aA.length c2,.string m.policy]∧cA w B (.slice A1 m.aK.length c1) m.aK∧w.ownsRow B 57 6 (.slice A2 m.aA.length c2) m.aA.length (dX m.aA)
theorem ac5(e:Ey):IM e=(⟨(bL 8 e).1,(cn GL (bL 8 e).2).1,(cn IL (cn GL (bL 8 e).2).2).1,(gg (cn IL (cn GL (bL 8 e).2).2).2).1⟩,(gg (cn IL (cn GL (bL 8 e).2).2).2).2):=rfl
theorem cA.far{w:World}{B M k:Nat}{v u:Value}{l:List Pr}(h:cA w B v l)(hM:M<B):cA (w.setCell ⟨M,k,none⟩ u) B v l:=by
 obtain⟨xs,h1,h2,h3⟩:=h;exact⟨xs,h1,aV h2 hM,fun X hX=>⟨aV (h3 X hX).tags hM,aV (h3 X hX).aQ hM,aV (h3 X hX).ends hM⟩⟩
theorem cA.above{S:Nat→Prop}{w w':World}{B:Nat}{v:Value}{l:List Pr}(h:cA w B v l)(hk:Keeps S w w')(hS:∀k,S k→k<B):cA w' B v l:=by
 obtain⟨xs,h1,h2,h3⟩:=h;exact⟨xs,h1,cM h2 hk hS,fun X hX=>(h3 X hX).above hk hS⟩
theorem cA.mono{w:World}{B B':Nat}{v:Value}{l:List Pr}(h:cA w B v l)(hb:B'≤B):cA w B' v l:=by
 obtain⟨xs,h1,h2,h3⟩:=h;exact⟨xs,h1,h2.mono hb,fun X hX=>(h3 X hX).mono hb⟩
theorem Wm{w:World}{b rb mb:Nat}{e:Ey}(h:cj w b rb e)(hs:e.s.size≤4000000)(hm:aH w mb 26 #[.int .u64 0,au,au,aG]){B:Nat}(hB:B≤w.heap.size)(hBm:mb<B):Calls ah 65 #[.pointer (some ⟨b,0,none⟩),.pointer (some ⟨mb,0,none⟩)] w fun r w'=>r=.returned (.tuple #[])∧aap w' B mb (IM e).1∧cj w' b rb (IM e).2∧Keeps (Three b rb mb) w w':=by
 have hbl:=h.lt.1;have hrl:=h.lt.2;have hml:=hm.lt;have hne:mb≠b:=aH.vO hm h.blk aJ;have hnr:mb≠rb:=aH.vO hm h.rd aJ;have l1:=aw (ef 8 e) hs;rw[ac5];have hc1:=ua h hs;generalize(bL 8 e).2=e1 at*;generalize(bL 8 e).1=ver at*;have l2:=aw (iU DI e1) l1;have hc2:=fun u(hu:cj u b rb e1)=>yr hu l1 GL DI 47 (enters_of Tryz.func47 bo rfl) (pb:=b) fun W u h1 h2=>yu h1 h2
 generalize(cn GL e1).2=e2 at*;generalize(cn GL e1).1=aK at*;have l3:=aw (iU DJ e2) l2;have hc3:=fun u(hu:cj u b rb e2)=>yq hu l2 IL DJ 52 (enters_of Tryz.func52 bo rfl) (pb:=b) fun W u h1 h2=>vk h1 h2
 generalize(cn IL e2).2=e3 at*;generalize(cn IL e2).1=aA at*;have hc4:=fun u(hu:cj u b rb e3)=>wM hu l3
 generalize(gg e3).2=e4 at*;generalize(gg e3).1=pol at*;unfold aap;simp only;obtain⟨n1,hn1⟩:=bw aK.length;obtain⟨n2,hn2⟩:=bw aA.length;unfold iL at hc1 hc4;unfold DK at hc2;unfold lC at hc3;rw[←hn1]at hc2⊢;rw[←hn2]at hc3⊢;have a0:=h.c0;obtain⟨C1,C2,C3,C4,HM0⟩:=eB hc1 hc2 hc3 hc4 hm;have qw:ag (∀k,Three b rb mb k→k<w.heap.size):=ae (by rintro k(rfl|rfl|rfl)<;>assumption);have NM:¬Two b rb mb:=by rintro(h|h)<;>contradiction
 obtain⟨HBB,HBm⟩:=aL hB hBm;clear hn1 hn2 hc1 hc2 hc3 hc4 h hm hs l1 l2 l3 hB hBm;have T3:ag (∀u v:World,Keeps (Two b rb) u v→Keeps (Three b rb mb) u v):=ae (fun _ _ hk=>hk.mono fun _ _ h=>h.elim Or.inl fun h=>Or.inr (Or.inl h));go_enter Tryz.func65,Tryz.ntmps65;go_upto_region 1 with(go_at_call 45;refine C1.out.mono ?_;rintro r w1⟨rfl,g1,k1⟩;have m1:=HM0.out.keep k1 NM;have d1:=m1.cell 0;have f1:=m1.frozen 0;simp at d1;have Ua:ag (aH (w1.setCell ⟨mb,0,none⟩ (.int .u64 ver)) mb 26 #[.int .u64 ver,au,au,aG]):=ae (m1.aM 0 (.int .u64 ver));obtain⟨Bg,qI⟩:=aL (g1.far (p:=⟨mb,0,none⟩) hne.symm hnr.symm (.int .u64 ver)) ((T3.out _ _ k1).setCell (p:=⟨mb,0,none⟩) (Or.inl (Or.inr (Or.inr rfl))) (.int .u64 ver));clear m1 g1 k1)
 generalize w1.setCell ⟨mb,0,none⟩ (.int .u64 ver)=w2 at Ua Bg qI⊢;clear d1 f1 a0 C1 HM0;have a1:=Bg.out.c0;have HZ2:ag (w.heap.size≤w2.heap.size):=ae qI.out.size;go_upto_region 2 with(first
  |(go_at_call 46;refine(C2.out _ Bg.out).mono ?_;rintro r w3⟨⟨A1,c1,rfl,o3⟩,g3,k3⟩;obtain⟨mL,IU,ki,oL⟩:=cU (Ua.out.keep k3 NM) g3 (qI.out.trans (T3.out _ _ k3)) (o3.mono HZ2.out);clear o3 g3 k3)
  |(go_at_call 51;refine(C3.out _ IU.out).mono ?_;rintro r w4⟨⟨A2,c2,rfl,o4⟩,g4,k4⟩;have m4:=mL.out.keep k4 NM;have d4:=m4.cell 1;have d5:=m4.cell 2;simp at d4 d5;have f4:=m4.frozen 1;have f5:=m4.frozen 2;have EM:ag (aH ((w4.setCell ⟨mb,1,none⟩ (.slice A1 n1 c1)).setCell ⟨mb,2,none⟩ (.slice A2 n2 c2)) mb 26 #[.int .u64 ver,.slice A1 n1 c1,.slice A2 n2 c2,aG]):=ae ((m4.aM 1 (.slice A1 n1 c1)).aM 2 (.slice A2 n2 c2));have Q9:=ae ((g4.far (p:=⟨mb,1,none⟩) hne.symm hnr.symm (.slice A1 n1 c1)).far (p:=⟨mb,2,none⟩) hne.symm hnr.symm (.slice A2 n2 c2));have AZ:=ae (((ki.out.trans (T3.out _ _ k4)).setCell (p:=⟨mb,1,none⟩) (Or.inl (Or.inr (Or.inr rfl))) (.slice A1 n1 c1)).setCell (p:=⟨mb,2,none⟩) (Or.inl (Or.inr (Or.inr rfl))) (.slice A2 n2 c2));obtain⟨Bh,Nz⟩:=aL (((oL.out.above (T3.out _ _ k4) qw.out).far (k:=1) (u:=.slice A1 n1 c1) hml).far (k:=2) (u:=.slice A2 n2 c2) hml) (aV (k:=2) (u:=.slice A2 n2 c2) (aV (k:=1) (u:=.slice A1 n1 c1) (o4.mono ki.out.size) hml) hml);clear o4 g4 k4 m4))
 generalize(w4.setCell ⟨mb,1,none⟩ (.slice A1 n1 c1)).setCell ⟨mb,2,none⟩ (.slice A2 n2 c2)=w5 at EM Q9 AZ Bh Nz⊢;clear d4 d5 f4 f5 a1 C2 C3 mL IU ki oL Ua Bg qI;have a5:=Q9.out.c0;go_wp2_with(go_at_call 53;refine(C4.out _ Q9.out).mono ?_;rintro r w6⟨rfl,g6,k6⟩;have m6:=EM.out.keep k6 NM;have d6:=m6.cell 3;simp at d6;have f6:=m6.frozen 3;have zf:ag (aH (w6.setCell ⟨mb,3,none⟩ (.string pol)) mb 26 #[.int .u64 ver,.slice A1 n1 c1,.slice A2 n2 c2,.string pol]):=ae (m6.aM 3 (.string pol));obtain⟨HE6,tG,HO6,HQ6⟩:=cU (g6.far (p:=⟨mb,3,none⟩) hne.symm hnr.symm (.string pol)) ((AZ.out.trans (T3.out _ _ k6)).setCell (p:=⟨mb,3,none⟩) (Or.inl (Or.inr (Or.inr rfl))) (.string pol)) ((Bh.out.above (T3.out _ _ k6) qw.out).far (k:=3) (u:=.string pol) hml) (aV (k:=3) (u:=.string pol) (cM Nz.out (T3.out _ _ k6) qw.out) hml);clear g6 k6 m6)
 go_end0
 exact⟨rfl,⟨A1,c1,A2,c2,zf.out,HO6.out.mono HBB.out,HQ6.out.mono HBB.out⟩,HE6.out,tG.out⟩
theorem Lh{a:Ad}(h:zH a):a.Ok:=by
 rcases h with⟨_,h1,h2⟩|⟨_,h1,h2⟩
 ·exact⟨by omega,by omega⟩
 ·exact⟨h1,h2⟩
theorem DN{p:Pr}(h:Ky p):pC p∧gQ p:=⟨⟨h.exp,h.bm,fun a ha=>Lh (h.aQ.2 a ha),fun e he=>⟨Lh (h.ends.2 e he).1,(h.ends.2 e he).2⟩⟩,⟨by have:=h.user;omega,by have:=h.tags.1;omega,by have:=h.aQ.1;omega,by have:=h.ends.1;omega,fun t ht=>by have:=h.tags.2 t ht;omega⟩⟩
theorem Wn{r:Ry}(h:Kz r):x9 r:=⟨h.id,Lh h.fin.1,h.fin.2⟩
theorem ac6{m:Mp}(h:Vl m):jG m∧∀p∈m.aK,gQ p:=⟨⟨h.version,fun p hp=>(DN (h.aK.2 p hp)).1,fun r hr=>Wn (h.aA.2 r hr)⟩,fun p hp=>(DN (h.aK.2 p hp)).2⟩
theorem Rb(s:ByteArray):((decide (s.size≤32768)&&tY (IM ⟨s,0,false⟩).2)=false∧zF s=(Mp.zero,8))∨((decide (s.size≤32768)&&tY (IM ⟨s,0,false⟩).2)=true∧Vl (IM ⟨s,0,false⟩).1∧(zE (IM ⟨s,0,false⟩).1).length≤32768∧zF s=if(cR (IM ⟨s,0,false⟩).1).2=0 then((IM ⟨s,0,false⟩).1,0)else(Mp.zero,(cR (IM ⟨s,0,false⟩).1).2)):=by
 by_cases hs:32768<s.size
 ·refine Or.inl ⟨by rw[decide_eq_false aR];rfl,?_⟩;have:fk mpP s.data.toList=none:=by unfold fk;rw[if_pos (by rw[ek];exact hs)]
  unfold zF;rw[this]
 ·rcases Be acW s hs with⟨h1,h2⟩|⟨h1,h2⟩
  ·refine Or.inr ⟨by rw[decide_eq_true aR,h1];rfl,?_⟩;have hq:∃z,mpP s.data.toList=some z∧z=((IM ⟨s,0,false⟩).1,[]):=by
    unfold fk at h2;rw[if_neg (by rw[ek];exact hs)]at h2;split at h2
    ·next x hx=>injection h2 with h2;subst h2;exact⟨_,hx,rfl⟩
    ·cases h2
   obtain⟨z,hz,rfl⟩:=hq;obtain⟨e1,e2⟩:=Ns.same _ _ _ hz;rw[List.append_nil]at e1;refine⟨e2,by rw[←e1,ek];omega,?_⟩;unfold zF;rw[h2]
  ·refine Or.inl ⟨by rw[h1,Bool.and_false],?_⟩;unfold zF;rw[h2]
def G5(m:Mp)(e:Nat)(w:World)(r:Ending)(w':World):Prop:=(∃A1 c1 A2 c2,r=.returned (.tuple #[.agg #[.int .u64 (m.version:Int),.slice A1 m.aK.length c1,.slice A2 m.aA.length c2,.string m.policy],.int .i64 e])∧df w' (.slice A1 m.aK.length c1) m.aK∧eG w' (.slice A2 m.aA.length c2) m.aA)∧aW w w'
theorem sE(w:World)(size:Nat):a8 w au 0 size []:=⟨none,0,rfl,by simp,fun h=>absurd h aJ⟩
theorem iV(w:World):df w au []:=⟨[],rfl,sE w 8,fun X hX=>by cases hX⟩
theorem dN(w:World):eG w au []:=sE w 6
theorem iC{w:World}{g:Nat}{v0 v1 v2 v3:Value}(h:aH w g 26 #[v0,v1,v2,v3]):(loadVar 26 ⟨g,0,none⟩).run ah w=.ok (.agg #[v0,v1,v2,v3]) w:=by
 have c0:=h.cell 0;have c1:=h.cell 1;have c2:=h.cell 2;have c3:=h.cell 3;simp at c0 c1 c2 c3;simp[loadVar,go_sem,c0,c1,c2,c3]
theorem jK{W w:World}{P:Nat}{z0 z1 z2 z3:Value}(hP:aH w P 26 #[z0,z1,z2,z3])(hb:aW W w)(hW:W.heap.size≤P)(v0 v1 v2 v3:Value):aH ((((w.setCell ⟨P,0,none⟩ v0).setCell ⟨P,1,none⟩ v1).setCell ⟨P,2,none⟩ v2).setCell ⟨P,3,none⟩ v3) P 26 #[v0,v1,v2,v3]∧aW W ((((w.setCell ⟨P,0,none⟩ v0).setCell ⟨P,1,none⟩ v1).setCell ⟨P,2,none⟩ v2).setCell ⟨P,3,none⟩ v3):=⟨(((hP.aM 0 v0).aM 1 v1).aM 2 v2).aM 3 v3,(((hb.setCell (p:=⟨P,0,none⟩) hW v0).setCell (p:=⟨P,1,none⟩) hW v1).setCell (p:=⟨P,2,none⟩) hW v2).setCell (p:=⟨P,3,none⟩) hW v3⟩
theorem cA.low{w w':World}{B:Nat}{v:Value}{l:List Pr}(h:cA w B v l)(hb:aW w w'):cA w' B v l:=by
 obtain⟨xs,h1,h2,h3⟩:=h;exact⟨xs,h1,own_below h2 hb,fun X hX=>(h3 X hX).low hb⟩
theorem decode_any{w:World}(env:Env w)(s:ByteArray)(hs:s.size≤4000000):Calls ah 19 #[.string s] w (G5 (zF s).1 (zF s).2 w):=by
 have hz:=boxed w (.cells #[.int .u64 0,au,au,aG] 26);have hP:=aH.new w 26 #[.int .u64 0,au,au,aG];have hrd:=fun(w2:World)(M:Nat)(hM:aH w2 M 26 #[.int .u64 0,au,au,aG])=>Bj (w:=w2) (mb:=M) (J:=fun W=>aap W w2.heap.size M (IM ⟨s,0,false⟩).1) (e':=(IM ⟨s,0,false⟩).2) (lb:= #[.pointer (some ⟨M,0,none⟩)]) hs (enters_of Tryz.func65 bo rfl) (fun W b rb hW hb hr hE=>Wm hE hs (hM.below hW hM.lt) hW.size hM.lt)
 have hcs:=Rb s;have IW:=fun u(hu:aW w u)=>env.below hu
 generalize(IM ⟨s,0,false⟩).2=e2 at*;generalize(IM ⟨s,0,false⟩).1=m at*;generalize(decide (s.size≤32768)&&tY e2)=OK at hcs hrd;obtain⟨lk,HP,HB⟩:=bz hrd hP hz;rcases hcs with⟨rfl,hd⟩|⟨rfl,hok,hml,hd⟩
 ·rw[hd];unfold G5 Mp.zero;clear hd IW hrd hP hz;go_enter Tryz.func19,Tryz.ntmps19;go_upto_region 1 with fail
  generalize w.alloc (.cells #[.int .u64 0,au,au,aG] 26)=w1 at HP HB⊢;generalize hPw:w.heap.size=P at HP⊢;have kN:=ae hPw;clear hPw;have hb2:=boxed w1 (.cells #[.int .u64 0,au,au,aG] 26);have HB2:=bg HB hb2;obtain⟨HP2,pF,EP⟩:=bz (bK HP hb2) (aH.new w1 26 #[.int .u64 0,au,au,aG]) HP.out.lt;clear hb2;go_upto_region 2 with fail
  generalize w1.alloc (.cells #[.int .u64 0,au,au,aG] 26)=w2 at HB2 HP2 pF⊢;generalize w1.heap.size=M at pF EP⊢;go_wp2_with(go_at_call 43;refine(lk.out w2 M pF.out).mono ?_;rintro r w3⟨rfl,j3,k3⟩;have hP3:=HP2.out.keep k3 (Nat.ne_of_lt EP.out);have HB3:=ae (HB2.out.trans (k3.below (B:=w.heap.size) (fun k hk=>by have:=kN.out;have:=EP.out;omega) HB2.out.size));have c0:=hP3.cell 0;have c1:=hP3.cell 1;have c2:=hP3.cell 2;have c3:=hP3.cell 3;simp at c0 c1 c2 c3;have fr:=fun i=>hP3.frozen i;have gy:=ae hP3;clear hP3 j3 k3)
  obtain⟨s1,s2⟩:=jK gy.out HB3.out (Nat.le_of_eq kN.out) (.int .u64 0) au au aG;exact bodyPost_ret (bF rfl rfl rfl (iC s1)) rfl ⟨⟨none,0,none,0,rfl,iV _,dN _⟩,s2⟩
 ·obtain⟨fit,sz⟩:=ac6 hok;have hpl:=hok.aK.1;have hrl:=hok.aA.1;have hol:=hok.policy;have hmay:=fun u pv rv(hu:aW w u)(hp:df u pv m.aK)(hr:eG u rv m.aA)=>ky (IW u hu) hp hr fit sz aR aR aR (fun _=>by omega)
  rw[hd];unfold aap at lk;generalize(cR m).2=E at*;obtain⟨ver,aK,aA,pol⟩:=m;simp only at*;obtain⟨n1,hn1⟩:=bw aK.length;obtain⟨n2,hn2⟩:=bw aA.length;rw[←hn1,←hn2]at lk;obtain⟨jL,kX,vK⟩:=bz hn1 hn2 hmay;clear hd IW hrd hP hz hok fit sz hpl hrl hol hml hmay hn1 hn2;by_cases hE:E=0
  ·rw[if_pos hE];subst hE;unfold G5;simp only;rw[←jL.out,←kX.out];go_enter Tryz.func19,Tryz.ntmps19;go_upto_region 1 with fail
   generalize w.alloc (.cells #[.int .u64 0,au,au,aG] 26)=w1 at HP HB⊢;generalize hPw:w.heap.size=P at HP⊢;have kN:=ae hPw;clear hPw;have hb2:=boxed w1 (.cells #[.int .u64 0,au,au,aG] 26);have HB2:=bg HB hb2;obtain⟨HP2,pF,EP⟩:=bz (bK HP hb2) (aH.new w1 26 #[.int .u64 0,au,au,aG]) HP.out.lt;clear hb2;go_upto_region 2 with fail
   generalize w1.alloc (.cells #[.int .u64 0,au,au,aG] 26)=w2 at HB2 HP2 pF⊢;generalize w1.heap.size=M at pF EP⊢;have CS:=ae (lk.out w2 M pF.out);have Re:ag (P<w2.heap.size):=ae (by have:=pF.out.lt;have:=EP.out;omega);clear lk;go_upto_region 4 with(go_at_call 43;refine CS.out.mono ?_;rintro r w3⟨rfl,⟨A1,c1,A2,c2,hB3,hO3,Ys⟩,k3⟩;have gy:=ae (HP2.out.keep k3 (Nat.ne_of_lt EP.out));have HB3:=ae (HB2.out.trans (k3.below (B:=w.heap.size) (fun k hk=>by have:=kN.out;have:=EP.out;omega) HB2.out.size));obtain⟨mL,oL,yi⟩:=bz hB3 hO3 Ys;clear hB3 hO3 Ys k3)
   obtain⟨x0,x1,x2,x3⟩:=dY mL;have Rf:=ae (vK.out w3 (.slice A1 n1 c1) (.slice A2 n2 c2) HB3.out oL.out.rd (by have:=a8.di yi.out;rw[kX.out]at this⊢;exact this));go_wp2_with(go_at_call 8;refine Rf.out.mono ?_;rintro r w4⟨rfl,d4⟩;have y0:=ai x0 d4;have y1:=ai x1 d4;have y2:=ai x2 d4;have y3:=ai x3 d4;have nM:=bK gy d4;have c0:=nM.cell 0;have c1':=nM.cell 1;have c2':=nM.cell 2;have c3:=nM.cell 3;simp at c0 c1' c2' c3;have fr:=fun i=>nM.frozen i;have tW:=ae nM;have HB4:=bg HB3 d4;obtain⟨Bh,Nz⟩:=aL (oL.out.low d4) (own_below yi.out d4);clear nM d4)
   obtain⟨s1,s2⟩:=jK tW.out HB4.out (Nat.le_of_eq kN.out) (.int .u64 ver) (.slice A1 n1 c1) (.slice A2 n2 c2) (.string pol);have o1:=(((Bh.out.far (k:=0) (u:=.int .u64 ver) Re.out).far (k:=1) (u:=.slice A1 n1 c1) Re.out).far (k:=2) (u:=.slice A2 n2 c2) Re.out).far (k:=3) (u:=.string pol) Re.out;have q1:=aV (k:=3) (u:=.string pol) (aV (k:=2) (u:=.slice A2 n2 c2) (aV (k:=1) (u:=.slice A1 n1 c1) (aV (k:=0) (u:=.int .u64 ver) Nz.out Re.out) Re.out) Re.out) Re.out;exact bodyPost_ret (bF rfl rfl rfl (iC s1)) rfl ⟨⟨A1,c1,A2,c2,rfl,o1.rd,by have:=a8.di q1;rw[kX.out]at this⊢;exact this⟩,s2⟩
  ·rw[if_neg hE];unfold G5 Mp.zero;simp only[List.length_nil];have hE2:((E:Int) !=0)=true:=by simp;omega
   have hE3:((E:Int)==0)=false:=by simp;omega
   clear hE;go_enter Tryz.func19,Tryz.ntmps19;go_upto_region 1 with fail
   generalize w.alloc (.cells #[.int .u64 0,au,au,aG] 26)=w1 at HP HB⊢;generalize hPw:w.heap.size=P at HP⊢;have kN:=ae hPw;clear hPw;have hb2:=boxed w1 (.cells #[.int .u64 0,au,au,aG] 26);have HB2:=bg HB hb2;obtain⟨HP2,pF,EP⟩:=bz (bK HP hb2) (aH.new w1 26 #[.int .u64 0,au,au,aG]) HP.out.lt;clear hb2;go_upto_region 2 with fail
   generalize w1.alloc (.cells #[.int .u64 0,au,au,aG] 26)=w2 at HB2 HP2 pF⊢;generalize w1.heap.size=M at pF EP⊢;have CS:=ae (lk.out w2 M pF.out);have Re:ag (P<w2.heap.size):=ae (by have:=pF.out.lt;have:=EP.out;omega);clear lk;go_upto_region 4 with(go_at_call 43;refine CS.out.mono ?_;rintro r w3⟨rfl,⟨A1,c1,A2,c2,hB3,hO3,Ys⟩,k3⟩;have gy:=ae (HP2.out.keep k3 (Nat.ne_of_lt EP.out));have HB3:=ae (HB2.out.trans (k3.below (B:=w.heap.size) (fun k hk=>by have:=kN.out;have:=EP.out;omega) HB2.out.size));obtain⟨mL,oL,yi⟩:=bz hB3 hO3 Ys;clear hB3 hO3 Ys k3)
   obtain⟨x0,x1,x2,x3⟩:=dY mL;have Rf:=ae (vK.out w3 (.slice A1 n1 c1) (.slice A2 n2 c2) HB3.out oL.out.rd (by have:=a8.di yi.out;rw[kX.out]at this⊢;exact this));go_wp2_with(go_at_call 8;refine Rf.out.mono ?_;rintro r w4⟨rfl,d4⟩;have nM:=bK gy d4;have c0:=nM.cell 0;have c1':=nM.cell 1;have c2':=nM.cell 2;have c3:=nM.cell 3;simp at c0 c1' c2' c3;have fr:=fun i=>nM.frozen i;have tW:=ae nM;have HB4:=bg HB3 d4;clear nM d4)
   obtain⟨s1,s2⟩:=jK tW.out HB4.out (Nat.le_of_eq kN.out) (.int .u64 0) au au aG;exact bodyPost_ret (bF rfl rfl rfl (iC s1)) rfl ⟨⟨none,0,none,0,rfl,iV _,dN _⟩,s2⟩
def Wp(m:Mp)(w:World)(r:Ending)(w':World):Prop:=(∃A1 c1 A2 c2,r=.returned (.agg #[.int .u64 (m.version:Int),.slice A1 m.aK.length c1,.slice A2 m.aA.length c2,.string m.policy])∧cA w' w.heap.size (.slice A1 m.aK.length c1) m.aK∧w'.ownsRow w.heap.size 57 6 (.slice A2 m.aA.length c2) m.aA.length (dX m.aA))∧aW w w'
theorem Rh{w:World}{pv rv:Value}{m:Mp}(hp:df w pv m.aK)(hr:eG w rv m.aA)(sz:∀p∈m.aK,gQ p)(hl:m.aK.length≤2000000)(hrl:m.aA.length≤2000000):Calls ah 56 #[.agg #[.int .u64 (m.version:Int),pv,rv,.string m.policy]] w (Wp m w):=by
 have ha:=fun u(hu:aW w u)=>qM (hp.below hu) sz hl
 have hc:=fun u(hu:aW w u)=>yj (a8.below hr hu) hrl (wO _)
 obtain⟨A1,c1,e1⟩:=hp.shape;obtain⟨A2,c2,e2⟩:=a8.shape hr;clear hp hr sz hl hrl;obtain⟨ver,aK,aA,pol⟩:=m;simp only at*;subst e1 e2;unfold yw at ha;unfold uT at hc;unfold Wp;simp only;obtain⟨n1,hn1⟩:=bw aK.length;obtain⟨n2,hn2⟩:=bw aA.length;rw[←hn1]at ha⊢;rw[←hn2]at hc⊢;obtain⟨HA,HC⟩:=aL ha hc;clear ha hc hn1 hn2;have HP:=ae (aH.new w 26 #[.int .u64 ver,.slice A1 n1 c1,.slice A2 n2 c2,.string pol]);have hb1:=boxed w (.cells #[.int .u64 ver,.slice A1 n1 c1,.slice A2 n2 c2,.string pol] 26);have HB:=ae hb1;clear hb1;go_enter Tryz.func56,Tryz.ntmps56;go_upto_region 1 with fail
 have hbz:=boxed (w.alloc (.cells #[.int .u64 ver,.slice A1 n1 c1,.slice A2 n2 c2,.string pol] 26)) (.cells #[.int .u64 0,au,au,aG] 26);have HB2:=bg HB hbz;have HP2:=ae (bK HP hbz);have hR:=aH.new (w.alloc (.cells #[.int .u64 ver,.slice A1 n1 c1,.slice A2 n2 c2,.string pol] 26)) 26 #[.int .u64 0,au,au,aG];rw[show(w.alloc (.cells #[.int .u64 ver,.slice A1 n1 c1,.slice A2 n2 c2,.string pol] 26)).heap.size=w.heap.size+1 by simp]at hR;have HR2:=ae hR;have HS2:ag (w.heap.size+2≤((w.alloc (.cells #[.int .u64 ver,.slice A1 n1 c1,.slice A2 n2 c2,.string pol] 26)).alloc (.cells #[.int .u64 0,au,au,aG] 26)).heap.size):=ae (by simp);clear hbz hR HB HP;generalize(w.alloc (.cells #[.int .u64 ver,.slice A1 n1 c1,.slice A2 n2 c2,.string pol] 26)).alloc (.cells #[.int .u64 0,au,au,aG] 26)=w2 at HB2 HP2 HR2 HS2⊢;have hQ:∃P R Q,P=w.heap.size∧R=w.heap.size+1∧Q=w.heap.size+2:=⟨_,_,_,rfl,rfl,rfl⟩;obtain⟨P,R,Q,eP,eR,eQ⟩:=hQ;rw[←eP]at HP2;rw[←eR]at HR2;rw[←eQ]at HS2;rw[←eR,←eP];have HPQ:ag (P<Q∧R<Q∧P≠R∧w.heap.size≤P∧w.heap.size≤R∧w.heap.size≤Q):=ae aR;clear eP eR eQ;obtain⟨-,a1,a2⟩:=jt HP2;obtain⟨Wi,ac3,ac4⟩:=bz HB2.out.drew HP2.out.drew HR2.out.drew;have Wj:ag (Q≤w2.drew.heap.size):=ae HS2.out;refine km 7 (fun w'=>w'.cell? ⟨P,1,none⟩=some (.slice A1 n1 c1)∧w'.cell? ⟨P,2,none⟩=some (.slice A2 n2 c2)) bo (⟨a1,a2⟩) (fun hHeld=>?_);refine vy 0 ?_
 refine vy 1 ?_
 refine vy 3 ?_
 refine vy 4 ?_
 refine vP 2 fun K hK=>?_;go_simp;refine(HA.out _ Wi.out).mono ?_;rintro r wa⟨⟨B1,m1,rfl,oa⟩,da⟩;have iI:=bg Wi da;obtain⟨iM,IV,HSa,HOa⟩:=cU (bK ac3 da) (bK ac4 da) (aw Wj.out da.size) (oa.mono Wj.out);clear oa;refine hK.out _ _ (fun _=>⟨ai hHeld.1 da,ai hHeld.2 da⟩) (fun hHeld=>?_);have hHeld:=hHeld aJ;clear hK K;try simp only[ck]
 refine vy 6 ?_
 refine vP 5 fun K hK=>?_;go_simp;refine(HC.out _ iI.out).mono ?_;rintro r wb⟨⟨B2,m2,rfl,ob⟩,db⟩;have kU:=bg iI db;have hPb:=bK iM db;obtain⟨fY,EO,HOb,HUb⟩:=cU hPb (bK IV db) (HOa.out.low db) (ob.mono HSa.out);have y1:=hPb.cell 1;have y2:=hPb.cell 2;simp at y1 y2;have fz:=fun i=>hPb.frozen i
 clear ob hPb;refine hK.out _ _ (fun _=>⟨ai hHeld.1 db,ai hHeld.2 db⟩) (fun hHeld=>?_);have hHeld:=hHeld aJ;clear hK K;try simp only[ck]
 refine vP 7 fun K hK=>?_;go_simp;refine hK.out _ _ (fun h=>absurd h aJ) (fun _=>?_);clear hK K;try clear hHeld
 try simp only[ck]
 refine vP 8 fun K hK=>?_;go_simp;refine hK.out _ _ (fun h=>absurd h aJ) (fun _=>?_);clear hK K;try clear hHeld
 try simp only[ck]
 refine vP 9 fun K hK=>?_;go_simp;refine hK.out _ _ (fun h=>absurd h aJ) (fun _=>?_);clear hK K;try clear hHeld
 try simp only[ck]
 refine zdX ?_;have q1:aH _ P 26 #[.int .u64 ver,.slice B1 n1 m1,.slice B2 n2 m2,.string pol]:=(fY.out.aM 1 (.slice B1 n1 m1)).aM 2 (.slice B2 n2 m2);have q2:=(EO.out.far (p:=⟨P,1,none⟩) HPQ.out.2.2.1.symm (.slice B1 n1 m1)).far (p:=⟨P,2,none⟩) HPQ.out.2.2.1.symm (.slice B2 n2 m2);have q3:=(kU.out.setCell (p:=⟨P,1,none⟩) HPQ.out.2.2.2.1 (.slice B1 n1 m1)).setCell (p:=⟨P,2,none⟩) HPQ.out.2.2.2.1 (.slice B2 n2 m2);have q4:=(HOb.out.far (k:=1) (u:=.slice B1 n1 m1) HPQ.out.1).far (k:=2) (u:=.slice B2 n2 m2) HPQ.out.1;have q5:=aV (k:=2) (u:=.slice B2 n2 m2) (aV (k:=1) (u:=.slice B1 n1 m1) HUb.out HPQ.out.1) HPQ.out.1;clear y1 y2 fz fY EO kU HOb HUb a1 a2;generalize(wb.setCell ⟨P,1,none⟩ (.slice B1 n1 m1)).setCell ⟨P,2,none⟩ (.slice B2 n2 m2)=wd at q1 q2 q3 q4 q5⊢;have x0:=q1.cell 0;have x1:=q1.cell 1;have x2:=q1.cell 2;have x3:=q1.cell 3;have z0:=q2.cell 0;have z1:=q2.cell 1;have z2:=q2.cell 2;have z3:=q2.cell 3;simp at x0 x1 x2 x3 z0 z1 z2 z3;have fr:=fun i=>q2.frozen i
 obtain⟨HQ2,yi,Nz,Yo⟩:=cU q2 q3 q4 q5;clear q1 q2 q3 q4 q5;go_wp2_with fail
 obtain⟨s1,s2⟩:=jK HQ2.out yi.out HPQ.out.2.2.2.2.1 (.int .u64 ver) (.slice B1 n1 m1) (.slice B2 n2 m2) (.string pol);have o1:=(((Nz.out.far (k:=0) (u:=.int .u64 ver) HPQ.out.2.1).far (k:=1) (u:=.slice B1 n1 m1) HPQ.out.2.1).far (k:=2) (u:=.slice B2 n2 m2) HPQ.out.2.1).far (k:=3) (u:=.string pol) HPQ.out.2.1;have o2:=aV (k:=3) (u:=.string pol) (aV (k:=2) (u:=.slice B2 n2 m2) (aV (k:=1) (u:=.slice B1 n1 m1) (aV (k:=0) (u:=.int .u64 ver) Yo.out HPQ.out.2.1) HPQ.out.2.1) HPQ.out.2.1) HPQ.out.2.1;exact bodyPost_ret (fS (x:=2) rfl rfl (iC s1)) rfl ⟨⟨B1,m1,B2,m2,rfl,o1.mono HPQ.out.2.2.2.2.2,o2.mono HPQ.out.2.2.2.2.2⟩,s2⟩
def Pr.zero:Pr:=⟨⟨#[]⟩,⟨#[]⟩,⟨#[]⟩,[],[],0,0,[]⟩
def bS.zero:bS:=⟨Pr.zero,au,au,au⟩
theorem dm.zero(w:World)(B:Nat):dm w B bS.zero:=⟨bh _ _ _ _,bh _ _ _ _,bh _ _ _ _⟩
def WhR(o:Option Pr)(w:World)(r:Ending)(w':World):Prop:=(∃X:bS,r=.returned (.tuple #[.agg X.vals.toArray,.bool o.isSome])∧X.p=o.getD Pr.zero∧dm w' w.heap.size X)∧aW w w'
theorem NN{xs:List bS}{q:Pr→Bool}{z:Int}(h:Yn (fun k=>match xs[k]? with|some X=>q X.p|none=>false) xs.length z):(z= -1∧(xs.map (·.p)).find? q=none)∨(∃(k:Nat)(hk:k<xs.length),z=(k:Int)∧(xs.map (·.p)).find? q=some xs[k].p):=by
 rcases h with⟨k,hk,rfl,h1,h2⟩|⟨rfl,h⟩
 ·refine Or.inr ⟨k,hk,rfl,?_⟩;rw[List.find?_eq_some_iff_getElem];simp only[af hk]at h1;refine⟨h1,k,by rw[ay];exact hk,by rw[List.getElem_map],fun j hj=>?_⟩;have hjl:j<xs.length:=by omega
  have:=h2 j hj;simp only[af hjl]at this;rw[List.getElem_map,this];rfl
 ·refine Or.inl ⟨rfl,?_⟩;rw[List.find?_eq_none];intro p hp;obtain⟨X,hX,rfl⟩:=List.mem_map.1 hp;obtain⟨j,hj,rfl⟩:=List.getElem_of_mem hX;have:=h j hj;simp only[af hj]at this;rw[this];decide
theorem Ri{w:World}{pv rv:Value}{m:Mp}(hp:df w pv m.aK)(hr:eG w rv m.aA)(sz:∀p∈m.aK,gQ p)(hl:m.aK.length≤2000000)(q:Pr→Bool)(f:Nat)(lb:Array Value)(eg:∀args w,(callFunc f args).run ah w=.ok (.enter f args) w)(hf:∀W,aW w W→∀X:bS,fc W X→X.p∈m.aK→Calls ah f (#[.agg X.vals.toArray]++lb) W (Got (.bool (q X.p)) W)):Calls ah 66 #[.agg #[.int .u64 (m.version:Int),pv,rv,.string m.policy],.func (.func f) #[] lb] w (WhR (m.aK.find? q) w):=by
 obtain⟨xs,hxl,hro,hm⟩:=hp;have hlx:xs.length=m.aK.length:=by rw[←hxl,ay]
 have hix:=fun u(hu:aW w u)=>DC (hro.below hu) aR (fun X=>q X.p) f lb eg fun W hW X hX=>hf W (after hu hW) X ((hm X hX).below (after hu hW)) (by rw[←hxl];exact dQ hX)
 have hfx:=fun z=>NN (xs:=xs) (q:=q) (z:=z)
 rw[hxl]at hfx;have hcp:=fun k(hk:k<xs.length)u(hu:aW w u)=>rn ((hm _ (aZ hk)).below hu) (sz _ (by rw[←hxl];exact dQ (aZ hk)))
 obtain⟨A,c1,rfl,_,hA⟩:=hro;obtain⟨A2,c2,rfl⟩:=a8.shape hr;generalize m.aK.find? q=O at hfx⊢;obtain⟨n1,hn1⟩:=bw xs.length;obtain⟨ver,aK,aA,pol⟩:=m;simp only at*;generalize aA.length=n2 at*;rw[←hn1]at hix hA hlx⊢;obtain⟨HIx,HFx,HCp,HA,HM,jL⟩:=ot hix hfx hcp hA hm hn1;have hl1:n1≤2000000:=by omega
 clear hix hfx hcp hA hr hf sz hl hlx hxl hn1 hm;obtain⟨HP,HB⟩:=aL (aH.new w 26 #[.int .u64 ver,.slice A n1 c1,.slice A2 n2 c2,.string pol]) (boxed w (.cells #[.int .u64 ver,.slice A n1 c1,.slice A2 n2 c2,.string pol] 26));go_enter Tryz.func66,Tryz.ntmps66;go_upto_region 1 with fail
 have hbz:=boxed (w.alloc (.cells #[.int .u64 ver,.slice A n1 c1,.slice A2 n2 c2,.string pol] 26)) (.cells #[aG,aG,aG,au,au,.int .u64 0,.int .u8 0,au] 47);have HB2:=bg HB hbz;have HP2:=ae (bK HP hbz);have hR:=aH.new (w.alloc (.cells #[.int .u64 ver,.slice A n1 c1,.slice A2 n2 c2,.string pol] 26)) 47 #[aG,aG,aG,au,au,.int .u64 0,.int .u8 0,au];rw[show(w.alloc (.cells #[.int .u64 ver,.slice A n1 c1,.slice A2 n2 c2,.string pol] 26)).heap.size=w.heap.size+1 by simp]at hR;have HR2:=ae hR;have HS2:ag (w.heap.size+2≤((w.alloc (.cells #[.int .u64 ver,.slice A n1 c1,.slice A2 n2 c2,.string pol] 26)).alloc (.cells #[aG,aG,aG,au,au,.int .u64 0,.int .u8 0,au] 47)).heap.size):=ae (by simp);clear hbz hR HB HP;generalize(w.alloc (.cells #[.int .u64 ver,.slice A n1 c1,.slice A2 n2 c2,.string pol] 26)).alloc (.cells #[aG,aG,aG,au,au,.int .u64 0,.int .u8 0,au] 47)=w2 at HB2 HP2 HR2 HS2⊢;have hQ:∃P R Q,P=w.heap.size∧R=w.heap.size+1∧Q=w.heap.size+2:=⟨_,_,_,rfl,rfl,rfl⟩;obtain⟨P,R,Q,eP,eR,eQ⟩:=hQ;rw[←eP]at HP2;rw[←eR]at HR2;rw[←eQ]at HS2;rw[←eR,←eP];have HPQ:ag (P<Q∧R<Q∧P≠R∧w.heap.size≤P∧w.heap.size≤R∧w.heap.size≤Q):=ae aR;clear eP eR eQ;obtain⟨-,a1⟩:=jQ HP2;go_upto_region 2 with(go_at_call 71;refine(HIx.out _ HB2.out).mono ?_;rintro r w3⟨⟨z,rfl,hz⟩,d3⟩;have HZ:=ae hz;clear hz)
 have HB3:=bg HB2 d3;obtain⟨gy,HR3,NQ⟩:=bz (bK HP2 d3) (bK HR2 d3) (aw HS2.out d3.size);clear d3 a1 HB2 HP2 HR2 HS2;have hcase:=HFx.out z (by have:=HZ.out;rw[←jL.out]at*;exact this);unfold WhR;rcases hcase with⟨rfl,rfl⟩|⟨k,hk,rfl,hO⟩
 ·obtain⟨z0,z1,z2,z3,z4,z5,z6,z7⟩:=dB HR3;have fr:=fun i=>HR3.out.frozen i
  go_wp2_with fail
  have s1:aH _ R 47 #[aG,aG,aG,au,au,.int .u64 0,.int .u8 0,au]:=HR3.out.aM 0 aG;have s2:aH _ R 47 #[aG,aG,aG,au,au,.int .u64 0,.int .u8 0,au]:=s1.aM 1 aG;have s3:aH _ R 47 #[aG,aG,aG,au,au,.int .u64 0,.int .u8 0,au]:=s2.aM 2 aG;have s4:aH _ R 47 #[aG,aG,aG,au,au,.int .u64 0,.int .u8 0,au]:=s3.aM 3 au;have s5:aH _ R 47 #[aG,aG,aG,au,au,.int .u64 0,.int .u8 0,au]:=s4.aM 4 au;have s6:aH _ R 47 #[aG,aG,aG,au,au,.int .u64 0,.int .u8 0,au]:=s5.aM 5 (.int .u64 0);have s7:aH _ R 47 #[aG,aG,aG,au,au,.int .u64 0,.int .u8 0,au]:=s6.aM 6 (.int .u8 0);have s8:aH _ R 47 #[aG,aG,aG,au,au,.int .u64 0,.int .u8 0,au]:=s7.aM 7 au;have oz:=V6 (P:=R) (Q:=fun u=>aW w u) (fun u i x hq=>hq.setCell (p:=⟨R,i,none⟩) HPQ.out.2.2.2.2.1 x) HB3.out aG aG aG au au (.int .u64 0) (.int .u8 0) au;exact bodyPost_ret (bF rfl rfl rfl (sD s8)) rfl ⟨⟨bS.zero,rfl,rfl,dm.zero _ _⟩,oz⟩
 ·have hkn:k<n1:=by rw[jL.out];exact hk
  have hOs:O.isSome=true:=by rw[hO];rfl
  have hOg:O.getD Pr.zero=xs[k].p:=by rw[hO];rfl
  have HOs:=ae hOs;clear hOs hO HFx HZ HIx;have hcall:=HCp.out k hk;have hm1:=HM.out _ (aZ hk);obtain⟨q1,o1,rfl,hc1⟩:=HA.out aR;have g10:=aD bS.vals 8 aB (af hk) (r:=0) rfl;have g11:=aD bS.vals 8 aB (af hk) (r:=1) rfl;have g12:=aD bS.vals 8 aB (af hk) (r:=2) rfl;have g13:=aD bS.vals 8 aB (af hk) (r:=3) rfl;have g14:=aD bS.vals 8 aB (af hk) (r:=4) rfl;have g15:=aD bS.vals 8 aB (af hk) (r:=5) rfl;have g16:=aD bS.vals 8 aB (af hk) (r:=6) rfl;have g17:=aD bS.vals 8 aB (af hk) (r:=7) rfl;have d10:=ai (hc1 _ _ g10) HB3.out;have d11:=ai (hc1 _ _ g11) HB3.out;have d12:=ai (hc1 _ _ g12) HB3.out;have d13:=ai (hc1 _ _ g13) HB3.out;have jM:=ai (hc1 _ _ g14) HB3.out;have mG:=ai (hc1 _ _ g15) HB3.out;have jV:=ai (hc1 _ _ g16) HB3.out;have nk:=ai (hc1 _ _ g17) HB3.out;clear hc1 g10 g11 g12 g13 g14 g15 g16 g17;generalize xs[k]=X at hcall hm1 hOg d10 d11 d12 d13 jM mG jV nk;obtain⟨gk,c11,e11⟩:=hm1.tags.shape;obtain⟨gi,c12,e12⟩:=hm1.aQ.shape;obtain⟨jJ,c13,e13⟩:=hm1.ends.shape;clear hm1;obtain⟨⟨key1,bD,b8,ew,dr,gU,bA,eJ⟩,Yq,Yr,ev1⟩:=X;simp only at e11 e12 e13 d10 d11 d12 d13 jM mG jV nk;subst e11 e12 e13;unfold bS.vals Wh at hcall;simp only at hcall;generalize ew.length=n11 at hcall d13;generalize dr.length=n12 at hcall jM;generalize eJ.length=n13 at hcall nk;rw[Nat.add_zero]at d10;rw[←Nat.add_assoc]at d11 d12 d13 jM mG jV nk;obtain⟨bG,HG⟩:=aL (hcall _ HB3.out) hOg;obtain⟨-,a1⟩:=jQ gy;have hk0:¬(k:Int)<0:=by omega
  have hk1:(0:Int)≤(k:Int):=by omega
  have hk2:(k:Int)<(n1:Int):=by omega
  clear hcall hl1 hOg HCp HM jL hk;go_wp2_with(go_at_call 25;refine bG.out.mono ?_;rintro r w4⟨⟨⟨⟨key2,bB,cf,du,cH,iP,bJ,dw⟩,tv2,av2,ev2⟩,rfl,G4,pJ⟩,d4⟩;obtain⟨B1,m1,e21⟩:=aX pJ.tags;obtain⟨B2,m2,e22⟩:=aX pJ.aQ;obtain⟨B3,m3,e23⟩:=aX pJ.ends;simp only at e21 e22 e23;subst e21 e22 e23;obtain⟨NJ,V5⟩:=aL (pJ.mono NQ.out) G4;obtain⟨n21,nN⟩:=bw du.length;obtain⟨n22,nO⟩:=bw cH.length;obtain⟨n23,nP⟩:=bw dw.length;unfold bS.vals;simp only;rw[←nN,←nO,←nP];obtain⟨Bg,HE2,IU⟩:=bz nN nO nP;have HB4:=bg HB3 d4;have yC:=bK HR3 d4;have z0:=yC.cell 0;have z1:=yC.cell 1;have z2:=yC.cell 2;have z3:=yC.cell 3;have z4:=yC.cell 4;have z5:=yC.cell 5;have z6:=yC.cell 6;have z7:=yC.cell 7;simp at z0 z1 z2 z3 z4 z5 z6 z7;have fr:=fun i=>yC.frozen i;have HR4:=ae yC;clear nN nO nP pJ G4 d4 yC)
  have s1:aH _ R 47 #[.string key2,aG,aG,au,au,.int .u64 0,.int .u8 0,au]:=HR4.out.aM 0 (.string key2);have s2:aH _ R 47 #[.string key2,.string bB,aG,au,au,.int .u64 0,.int .u8 0,au]:=s1.aM 1 (.string bB);have s3:aH _ R 47 #[.string key2,.string bB,.string cf,au,au,.int .u64 0,.int .u8 0,au]:=s2.aM 2 (.string cf);have s4:aH _ R 47 #[.string key2,.string bB,.string cf,.slice B1 n21 m1,au,.int .u64 0,.int .u8 0,au]:=s3.aM 3 (.slice B1 n21 m1);have s5:aH _ R 47 #[.string key2,.string bB,.string cf,.slice B1 n21 m1,.slice B2 n22 m2,.int .u64 0,.int .u8 0,au]:=s4.aM 4 (.slice B2 n22 m2);have s6:aH _ R 47 #[.string key2,.string bB,.string cf,.slice B1 n21 m1,.slice B2 n22 m2,.int .u64 iP,.int .u8 0,au]:=s5.aM 5 (.int .u64 iP);have s7:aH _ R 47 #[.string key2,.string bB,.string cf,.slice B1 n21 m1,.slice B2 n22 m2,.int .u64 iP,.int .u8 bJ,au]:=s6.aM 6 (.int .u8 bJ);have s8:aH _ R 47 #[.string key2,.string bB,.string cf,.slice B1 n21 m1,.slice B2 n22 m2,.int .u64 iP,.int .u8 bJ,.slice B3 n23 m3]:=s7.aM 7 (.slice B3 n23 m3);obtain⟨oz0,oz1⟩:=V6 (P:=R) (Q:=fun u=>aW w u∧dm u Q ⟨⟨key2,bB,cf,du,cH,iP,bJ,dw⟩,.slice B1 du.length m1,.slice B2 cH.length m2,.slice B3 dw.length m3⟩) (fun u i x hq=>⟨hq.1.setCell (p:=⟨R,i,none⟩) HPQ.out.2.2.2.2.1 x,⟨aV hq.2.tags HPQ.out.2.1,aV hq.2.aQ HPQ.out.2.1,aV hq.2.ends HPQ.out.2.1⟩⟩) ⟨HB4.out,NJ.out⟩ (.string key2) (.string bB) (.string cf) (.slice B1 n21 m1) (.slice B2 n22 m2) (.int .u64 iP) (.int .u8 bJ) (.slice B3 n23 m3);refine bodyPost_ret (bF rfl rfl rfl (sD s8)) rfl ⟨⟨⟨⟨key2,bB,cf,du,cH,iP,bJ,dw⟩,.slice B1 du.length m1,.slice B2 cH.length m2,.slice B3 dw.length m3⟩,?_,V5.out.trans HG.out.symm,oz1.mono HPQ.out.2.2.2.2.2⟩,oz0⟩;unfold bS.vals;simp only;rw[←Bg.out,←HE2.out,←IU.out,HOs.out];rfl
def AtR(l:List Pr)(key:ByteArray)(z:Int):Prop:=(z= -1∧nK l key=none)∨∃(k:Nat)(hk:k<l.length),z=(k:Int)∧nK l key=some l[k]
theorem pK{w:World}{v:Value}{l:List Pr}(h:df w v l)(hl:l.length≤4000000)(key:ByteArray):Calls ah 23 #[v,.string key] w fun r w'=>(∃z:Int,r=.returned (.int .i64 z)∧AtR l key z)∧aW w w':=by
 obtain⟨xs,rfl,hr,hx⟩:=h;rw[ay]at hl;refine(aai hr hl key).mono ?_;rintro r w2⟨⟨z,rfl,hz⟩,d⟩;refine⟨⟨z,rfl,?_⟩,d⟩;rcases NN (q:=fun p=>decide (p.key=key)) hz with⟨e,h⟩|⟨k,hk,e,h⟩
 ·exact Or.inl ⟨e,h⟩
 ·refine Or.inr ⟨k,by rw[ay];exact hk,e,?_⟩;rw[List.getElem_map];exact h
theorem AtR.none{l:List Pr}{key:ByteArray}{z:Int}(h:AtR l key z):(nK l key).isNone=decide (z<0):=by
 rcases h with⟨rfl,h⟩|⟨k,hk,rfl,h⟩
 ·rw[h];rfl
 ·rw[h,decide_eq_false aR];rfl
theorem AtR.lo{l:List Pr}{key:ByteArray}{z:Int}(h:AtR l key z): -1≤z∧z<l.length:=by
 rcases h with⟨rfl,h⟩|⟨k,hk,rfl,h⟩
 ·omega
 ·omega
theorem Lj{w:World}{sv:Value}{ps:List Pr}{g:Nat}(hp:df w sv ps)(hl:ps.length≤4000000)(hg:w.cell? ⟨g,2,none⟩=some sv)(k:ByteArray):Calls ah 79 #[.string k,.pointer (some ⟨g,0,none⟩)] w (Got (.bool (decide (k.size=32)&&(nK ps k).isNone)) w):=by
 have ha:=pK hp hl k;obtain⟨A,c,e⟩:=hp.shape;subst e;generalize ps.length=NS at*;have HA:=ae ha;clear ha hp hl;go_enter Tryz.func79,Tryz.ntmps79;by_cases k1:k.size=32;rotate_left
 ·have q1:((k.size:Int)==32)=false:=by simp;omega
  rw[decide_eq_false k1,uy];clear k1;go_wp2_with fail
  go_ret;exact⟨rfl,Below.refl _ _⟩
 have q1:((k.size:Int)==32)=true:=by simp;omega
 rw[decide_eq_true k1,bV];clear k1;go_wp2_with(go_at_call 23;refine HA.out.mono ?_;rintro r w2⟨⟨z,rfl,hz⟩,d2⟩;have HZ:=ae hz;clear hz)
 go_ret;exact⟨by rw[HZ.out.none];rfl,d2⟩
def eT(d:Dl)(sv gv rv:Value):Array Value:= #[.int .u64 (d.base:Int),.int .u64 (d.version:Int),sv,gv,.bool d.eX,rv,.bool d.fe,.string d.policy,.string d.hash]
structure mK(w:World)(d:Dl)(sv gv rv:Value):Prop where
 aM:df w sv d.aM
 gone:a8 w gv d.gone.length 1 (strCells d.gone)
 aA:eG w rv d.aA
theorem mK.below{w w':World}{d:Dl}{sv gv rv:Value}(h:mK w d sv gv rv)(hb:aW w w'):mK w' d sv gv rv:=⟨h.aM.below hb,h.gone.below hb,a8.below h.aA hb⟩
structure Rj(d:Dl):Prop where
 aM:∀p∈d.aM,gQ p
 sl:d.aM.length≤2000000
 gl:d.gone.length≤2000000
 rl:d.aA.length≤2000000
 pl:d.policy.size≤2000000
 keys:∀k∈d.gone,k.size≤2000000
theorem qN{w:World}(env:Env w){d:Dl}{sv gv rv:Value}(hd:mK w d sv gv rv)(fit:uW d)(sz:Rj d):Calls ah 29 #[.agg (eT d sv gv rv)] w (Got (.bool (iH d)) w):=by
 have hps:=fun u(hu:aW w u)=>qL (env.below hu) (hd.aM.below hu) (by have:=sz.sl;omega) fit.aK sz.aM
 have hrs:=fun u(hu:aW w u)=>pE (env.below hu) (a8.below hd.aA hu) (by have:=sz.rl;omega) fit.aA
 have hpo:=fun u(hu:aW w u)=>pD (env.below hu) d.policy sz.pl
 have hgo:=fun u(hu:aW w u)g(hg:u.cell? ⟨g,2,none⟩=some sv)=>Dw (hd.gone.below hu) (by have:=sz.gl;omega) (fun k=>decide (k.size=32)&&(nK d.aM k).isNone) 79 #[.pointer (some ⟨g,0,none⟩)] (enters_of Tryz.func79 bo rfl) fun W hW x hx=>Lj (hd.aM.below (after hu hW)) (by have:=sz.sl;omega) (ai hg hW) x
 have hgr:=fun u(hu:aW w u)=>Nx (hd.gone.below hu) (by have:=sz.gl;omega) sf 81 #[] (enters_of Tryz.func81 bo rfl) fun W hW x y=>yb x y W
 obtain⟨R,hR⟩:=bw (iH d);rw[←hR];unfold iH at hR;have l1:=sz.sl;have l2:=sz.gl;have l3:=sz.rl;obtain⟨A1,c1,e1⟩:=hd.aM.shape;obtain⟨A2,c2,e2⟩:=hd.gone.shape;obtain⟨A3,c3,e3⟩:=a8.shape hd.aA;have hie:d.aA.isEmpty=decide (d.aA.length=0):=by cases d.aA<;>rfl
 rw[hie]at hR;clear hd fit sz env hie;obtain⟨base,version,aM,gone,eX,aA,fe,policy,hash⟩:=d;simp only at*;subst e1 e2 e3;unfold eT;simp only;generalize(gone.all fun k=>decide (k.size=32)&&(nK aM k).isNone)=AM at hgo hR;generalize cX sf gone=RA at hgr hR;generalize jC aM=PA at hps hR;generalize jD aA=YA at hrs hR;generalize lZ policy=OA at hpo hR;generalize aM.length=NS at*;generalize gone.length=NG at*;generalize aA.length=NR at*;obtain⟨zM,HRs,Qc,HGo,G6,HR⟩:=ot hps hrs hpo hgo hgr hR;clear hps hrs hpo hgo hgr hR l1;obtain⟨HB,HP⟩:=aL (boxed w (.cells #[.int .u64 base,.int .u64 version,.slice A1 NS c1,.slice A2 NG c2,.bool eX,.slice A3 NR c3,.bool fe,.string policy,.string hash] 31)) (aH.new w 31 #[.int .u64 base,.int .u64 version,.slice A1 NS c1,.slice A2 NG c2,.bool eX,.slice A3 NR c3,.bool fe,.string policy,.string hash]);go_enter Tryz.func29,Tryz.ntmps29;go_upto_region 1 with fail
 generalize w.alloc (.cells #[.int .u64 base,.int .u64 version,.slice A1 NS c1,.slice A2 NG c2,.bool eX,.slice A3 NR c3,.bool fe,.string policy,.string hash] 31)=w1 at HB HP⊢;generalize hP:w.heap.size=P at HP⊢;obtain⟨p0,p1,p2,p3,p4,p5,p6,p7,p8⟩:=vw HP;by_cases k1:1≤base;rotate_left
 ·have q1:(base:Int)<1:=by omega
  have q1':base<1:=by omega
  have dS:ag (R=false):=ae (by rw[HR.out,decide_eq_false k1];simp);clear k1;go_wp2_with fail
  go_ret;exact⟨by rw[dS.out];rfl,HB.out⟩
 have q1:¬(base:Int)<1:=by omega
 have q1':¬base<1:=by omega
 by_cases k2:base<version;rotate_left
 ·have q2:(version:Int)≤(base:Int):=by omega
  have q2':version≤base:=by omega
  have dS:ag (R=false):=ae (by rw[HR.out,decide_eq_false k2];simp);clear k1 k2;go_wp2_with fail
  go_ret;exact⟨by rw[dS.out];rfl,HB.out⟩
 have q2:¬(version:Int)≤(base:Int):=by omega
 have q2':¬version≤base:=by omega
 by_cases k3:hash.size=32;rotate_left
 ·have q3:((hash.size:Int) !=32)=true:=by simp;omega
  have dS:ag (R=false):=ae (by rw[HR.out,decide_eq_false k3];simp);clear k1 k2 k3;go_wp2_with fail
  go_ret;exact⟨by rw[dS.out];rfl,HB.out⟩
 have q3:((hash.size:Int) !=32)=false:=by simp;omega
 by_cases k4:NG≤64;rotate_left
 ·have q4:(64:Int)<(NG:Int):=by omega
  have q4':64<NG:=by omega
  have dS:ag (R=false):=ae (by rw[HR.out,decide_eq_false k4];simp);clear k1 k2 k3 k4;go_wp2_with fail
  go_ret;exact⟨by rw[dS.out];rfl,HB.out⟩
 have q4:¬(64:Int)<(NG:Int):=by omega
 have q4':¬64<NG:=by omega
 have HR1:=ae HR.out;rw[decide_eq_true k1,decide_eq_true k2,decide_eq_true k3,decide_eq_true k4,bV,bV,bV,bV]at HR1;clear HR k1 k2 k3 k4;go_upto_region 3 with fail
 clear q1 q1' q2 q2' q3 q4 q4';have mZ:=ae (HGo.out _ HB.out P p2);by_cases k5:eX=true∨NR=0;rotate_left
 ·obtain⟨ka,kb⟩:=not_or.1 k5;have ka:eX=false:=by simpa using ka
  subst ka;have q5:(0:Int)<(NR:Int):=by omega
  have q5':0<NR:=by omega
  have dS:ag (R=false):=ae (by rw[HR1.out,decide_eq_false kb];simp);clear k5 kb;cases fe with
  |false=>
   go_wp2_with fail
   go_ret;exact⟨by rw[dS.out];rfl,HB.out⟩
  |true=>
   go_wp2_with fail
   go_ret;exact⟨by rw[dS.out];rfl,HB.out⟩
 by_cases k6:fe=true∨policy.size=0;rotate_left
 ·obtain⟨ka,kb⟩:=not_or.1 k6;have ka:fe=false:=by simpa using ka
  subst ka;have q6:(policy.toList.isEmpty)=false:=by rw[yB];exact decide_eq_false kb
  have dS:ag (R=false):=ae (by rw[HR1.out,decide_eq_false kb];simp);clear k6 kb;cases eX with
  |true=>
   go_wp2_with fail
   go_ret;exact⟨by rw[dS.out];rfl,HB.out⟩
  |false=>
   obtain rfl:NR=0:=by
    rcases k5 with h|h;·cases h
    ·exact h
   go_wp2_with fail
   go_ret;exact⟨by rw[dS.out];rfl,HB.out⟩
 have ht:(eX||decide (NR=0))=true:=by rcases k5 with h|h<;>simp[h]
 have ht2:(fe||decide (policy.size=0))=true:=by rcases k6 with h|h<;>simp[h]
 have HR2:=ae HR1.out;rw[ht,ht2,bV,bV]at HR2;clear HR1 ht ht2;have q6:fe=false→policy.toList.isEmpty=true:=fun h=>by
  rw[yB];rcases k6 with k|k
  ·rw[h]at k;cases k
  ·exact decide_eq_true k
 have q5:eX=false→NR=0:=fun h=>by
  rcases k5 with k|k
  ·rw[h]at k;cases k
  ·exact k
 clear k5 k6;cases eX<;>cases fe
 ·obtain rfl:=q5 rfl;have q6:=q6 rfl;go_upto_region 5 with fail
  cases AM with
  |false=>
   have dS:ag (R=false):=ae (by rw[HR2.out];simp);go_wp2_with(first
    |(go_at_call 54;refine mZ.out.mono ?_;rintro r wa⟨rfl,da⟩;have iI:=bg HB da;have iM:=ae (bK HP da);obtain⟨-,-,x2,x3,-,x5,-,x7⟩:=dB iM;clear da))
   go_ret;exact⟨by rw[dS.out];rfl,iI.out⟩
  |true=>
   cases RA with
   |false=>
    have dS:ag (R=false):=ae (by rw[HR2.out];simp);go_wp2_with(first
     |(go_at_call 54;refine mZ.out.mono ?_;rintro r wa⟨rfl,da⟩;have iI:=bg HB da;have iM:=ae (bK HP da);obtain⟨-,-,x2,x3,-,x5,-,x7⟩:=dB iM;clear da)
     |(go_at_call 80;refine(G6.out _ iI.out).mono ?_;rintro r wb⟨rfl,db⟩;have kU:=bg iI db;have fY:=ae (bK iM db);obtain⟨-,-,y2,-,-,y5,-,y7⟩:=dB fY;clear db))
    go_ret;exact⟨by rw[dS.out];rfl,kU.out⟩
   |true=>
    cases PA with
    |false=>
     have dS:ag (R=false):=ae (by rw[HR2.out];simp);go_wp2_with(first
      |(go_at_call 54;refine mZ.out.mono ?_;rintro r wa⟨rfl,da⟩;have iI:=bg HB da;have iM:=ae (bK HP da);obtain⟨-,-,x2,x3,-,x5,-,x7⟩:=dB iM;clear da)
      |(go_at_call 80;refine(G6.out _ iI.out).mono ?_;rintro r wb⟨rfl,db⟩;have kU:=bg iI db;have fY:=ae (bK iM db);obtain⟨-,-,y2,-,-,y5,-,y7⟩:=dB fY;clear db)
      |(go_at_call 82;refine(zM.out _ kU.out).mono ?_;rintro r wc⟨rfl,dc⟩;have HBc:=bg kU dc;have qi:=ae (bK fY dc);obtain⟨-,-,-,-,-,z5,-,z7⟩:=dB qi;clear dc))
     go_ret;exact⟨by rw[dS.out];rfl,HBc.out⟩
    |true=>
     cases YA with
     |false=>
      have dS:ag (R=false):=ae (by rw[HR2.out];simp);go_wp2_with(first
       |(go_at_call 54;refine mZ.out.mono ?_;rintro r wa⟨rfl,da⟩;have iI:=bg HB da;have iM:=ae (bK HP da);obtain⟨-,-,x2,x3,-,x5,-,x7⟩:=dB iM;clear da)
       |(go_at_call 80;refine(G6.out _ iI.out).mono ?_;rintro r wb⟨rfl,db⟩;have kU:=bg iI db;have fY:=ae (bK iM db);obtain⟨-,-,y2,-,-,y5,-,y7⟩:=dB fY;clear db)
       |(go_at_call 82;refine(zM.out _ kU.out).mono ?_;rintro r wc⟨rfl,dc⟩;have HBc:=bg kU dc;have qi:=ae (bK fY dc);obtain⟨-,-,-,-,-,z5,-,z7⟩:=dB qi;clear dc)
       |(go_at_call 83;refine(HRs.out _ HBc.out).mono ?_;rintro r wd⟨rfl,dd⟩;have DO:=bg HBc dd;have og:=ae (bK qi dd);have t7:=og.out.cell 7;simp at t7;clear dd))
      go_ret;exact⟨by rw[dS.out];rfl,DO.out⟩
     |true=>
      have dS:ag (R=OA):=ae (by rw[HR2.out];simp);go_wp2_with(first
       |(go_at_call 54;refine mZ.out.mono ?_;rintro r wa⟨rfl,da⟩;have iI:=bg HB da;have iM:=ae (bK HP da);obtain⟨-,-,x2,x3,-,x5,-,x7⟩:=dB iM;clear da)
       |(go_at_call 80;refine(G6.out _ iI.out).mono ?_;rintro r wb⟨rfl,db⟩;have kU:=bg iI db;have fY:=ae (bK iM db);obtain⟨-,-,y2,-,-,y5,-,y7⟩:=dB fY;clear db)
       |(go_at_call 82;refine(zM.out _ kU.out).mono ?_;rintro r wc⟨rfl,dc⟩;have HBc:=bg kU dc;have qi:=ae (bK fY dc);obtain⟨-,-,-,-,-,z5,-,z7⟩:=dB qi;clear dc)
       |(go_at_call 83;refine(HRs.out _ HBc.out).mono ?_;rintro r wd⟨rfl,dd⟩;have DO:=bg HBc dd;have og:=ae (bK qi dd);have t7:=og.out.cell 7;simp at t7;clear dd)
       |(go_at_call 84;refine(Qc.out _ DO.out).mono ?_;rintro r we⟨rfl,de⟩;have HBe:=bg DO de;have HPe:=ae (bK og de);clear de))
      go_ret;exact⟨by rw[dS.out];rfl,HBe.out⟩
 ·obtain rfl:=q5 rfl;go_upto_region 5 with fail
  cases AM with
  |false=>
   have dS:ag (R=false):=ae (by rw[HR2.out];simp);go_wp2_with(first
    |(go_at_call 54;refine mZ.out.mono ?_;rintro r wa⟨rfl,da⟩;have iI:=bg HB da;have iM:=ae (bK HP da);obtain⟨-,-,x2,x3,-,x5,-,x7⟩:=dB iM;clear da))
   go_ret;exact⟨by rw[dS.out];rfl,iI.out⟩
  |true=>
   cases RA with
   |false=>
    have dS:ag (R=false):=ae (by rw[HR2.out];simp);go_wp2_with(first
     |(go_at_call 54;refine mZ.out.mono ?_;rintro r wa⟨rfl,da⟩;have iI:=bg HB da;have iM:=ae (bK HP da);obtain⟨-,-,x2,x3,-,x5,-,x7⟩:=dB iM;clear da)
     |(go_at_call 80;refine(G6.out _ iI.out).mono ?_;rintro r wb⟨rfl,db⟩;have kU:=bg iI db;have fY:=ae (bK iM db);obtain⟨-,-,y2,-,-,y5,-,y7⟩:=dB fY;clear db))
    go_ret;exact⟨by rw[dS.out];rfl,kU.out⟩
   |true=>
    cases PA with
    |false=>
     have dS:ag (R=false):=ae (by rw[HR2.out];simp);go_wp2_with(first
      |(go_at_call 54;refine mZ.out.mono ?_;rintro r wa⟨rfl,da⟩;have iI:=bg HB da;have iM:=ae (bK HP da);obtain⟨-,-,x2,x3,-,x5,-,x7⟩:=dB iM;clear da)
      |(go_at_call 80;refine(G6.out _ iI.out).mono ?_;rintro r wb⟨rfl,db⟩;have kU:=bg iI db;have fY:=ae (bK iM db);obtain⟨-,-,y2,-,-,y5,-,y7⟩:=dB fY;clear db)
      |(go_at_call 82;refine(zM.out _ kU.out).mono ?_;rintro r wc⟨rfl,dc⟩;have HBc:=bg kU dc;have qi:=ae (bK fY dc);obtain⟨-,-,-,-,-,z5,-,z7⟩:=dB qi;clear dc))
     go_ret;exact⟨by rw[dS.out];rfl,HBc.out⟩
    |true=>
     cases YA with
     |false=>
      have dS:ag (R=false):=ae (by rw[HR2.out];simp);go_wp2_with(first
       |(go_at_call 54;refine mZ.out.mono ?_;rintro r wa⟨rfl,da⟩;have iI:=bg HB da;have iM:=ae (bK HP da);obtain⟨-,-,x2,x3,-,x5,-,x7⟩:=dB iM;clear da)
       |(go_at_call 80;refine(G6.out _ iI.out).mono ?_;rintro r wb⟨rfl,db⟩;have kU:=bg iI db;have fY:=ae (bK iM db);obtain⟨-,-,y2,-,-,y5,-,y7⟩:=dB fY;clear db)
       |(go_at_call 82;refine(zM.out _ kU.out).mono ?_;rintro r wc⟨rfl,dc⟩;have HBc:=bg kU dc;have qi:=ae (bK fY dc);obtain⟨-,-,-,-,-,z5,-,z7⟩:=dB qi;clear dc)
       |(go_at_call 83;refine(HRs.out _ HBc.out).mono ?_;rintro r wd⟨rfl,dd⟩;have DO:=bg HBc dd;have og:=ae (bK qi dd);have t7:=og.out.cell 7;simp at t7;clear dd))
      go_ret;exact⟨by rw[dS.out];rfl,DO.out⟩
     |true=>
      have dS:ag (R=OA):=ae (by rw[HR2.out];simp);go_wp2_with(first
       |(go_at_call 54;refine mZ.out.mono ?_;rintro r wa⟨rfl,da⟩;have iI:=bg HB da;have iM:=ae (bK HP da);obtain⟨-,-,x2,x3,-,x5,-,x7⟩:=dB iM;clear da)
       |(go_at_call 80;refine(G6.out _ iI.out).mono ?_;rintro r wb⟨rfl,db⟩;have kU:=bg iI db;have fY:=ae (bK iM db);obtain⟨-,-,y2,-,-,y5,-,y7⟩:=dB fY;clear db)
       |(go_at_call 82;refine(zM.out _ kU.out).mono ?_;rintro r wc⟨rfl,dc⟩;have HBc:=bg kU dc;have qi:=ae (bK fY dc);obtain⟨-,-,-,-,-,z5,-,z7⟩:=dB qi;clear dc)
       |(go_at_call 83;refine(HRs.out _ HBc.out).mono ?_;rintro r wd⟨rfl,dd⟩;have DO:=bg HBc dd;have og:=ae (bK qi dd);have t7:=og.out.cell 7;simp at t7;clear dd)
       |(go_at_call 84;refine(Qc.out _ DO.out).mono ?_;rintro r we⟨rfl,de⟩;have HBe:=bg DO de;have HPe:=ae (bK og de);clear de))
      go_ret;exact⟨by rw[dS.out];rfl,HBe.out⟩
 ·have q6:=q6 rfl;go_upto_region 5 with fail
  cases AM with
  |false=>
   have dS:ag (R=false):=ae (by rw[HR2.out];simp);go_wp2_with(first
    |(go_at_call 54;refine mZ.out.mono ?_;rintro r wa⟨rfl,da⟩;have iI:=bg HB da;have iM:=ae (bK HP da);obtain⟨-,-,x2,x3,-,x5,-,x7⟩:=dB iM;clear da))
   go_ret;exact⟨by rw[dS.out];rfl,iI.out⟩
  |true=>
   cases RA with
   |false=>
    have dS:ag (R=false):=ae (by rw[HR2.out];simp);go_wp2_with(first
     |(go_at_call 54;refine mZ.out.mono ?_;rintro r wa⟨rfl,da⟩;have iI:=bg HB da;have iM:=ae (bK HP da);obtain⟨-,-,x2,x3,-,x5,-,x7⟩:=dB iM;clear da)
     |(go_at_call 80;refine(G6.out _ iI.out).mono ?_;rintro r wb⟨rfl,db⟩;have kU:=bg iI db;have fY:=ae (bK iM db);obtain⟨-,-,y2,-,-,y5,-,y7⟩:=dB fY;clear db))
    go_ret;exact⟨by rw[dS.out];rfl,kU.out⟩
   |true=>
    cases PA with
    |false=>
     have dS:ag (R=false):=ae (by rw[HR2.out];simp);go_wp2_with(first
      |(go_at_call 54;refine mZ.out.mono ?_;rintro r wa⟨rfl,da⟩;have iI:=bg HB da;have iM:=ae (bK HP da);obtain⟨-,-,x2,x3,-,x5,-,x7⟩:=dB iM;clear da)
      |(go_at_call 80;refine(G6.out _ iI.out).mono ?_;rintro r wb⟨rfl,db⟩;have kU:=bg iI db;have fY:=ae (bK iM db);obtain⟨-,-,y2,-,-,y5,-,y7⟩:=dB fY;clear db)
      |(go_at_call 82;refine(zM.out _ kU.out).mono ?_;rintro r wc⟨rfl,dc⟩;have HBc:=bg kU dc;have qi:=ae (bK fY dc);obtain⟨-,-,-,-,-,z5,-,z7⟩:=dB qi;clear dc))
     go_ret;exact⟨by rw[dS.out];rfl,HBc.out⟩
    |true=>
     cases YA with
     |false=>
      have dS:ag (R=false):=ae (by rw[HR2.out];simp);go_wp2_with(first
       |(go_at_call 54;refine mZ.out.mono ?_;rintro r wa⟨rfl,da⟩;have iI:=bg HB da;have iM:=ae (bK HP da);obtain⟨-,-,x2,x3,-,x5,-,x7⟩:=dB iM;clear da)
       |(go_at_call 80;refine(G6.out _ iI.out).mono ?_;rintro r wb⟨rfl,db⟩;have kU:=bg iI db;have fY:=ae (bK iM db);obtain⟨-,-,y2,-,-,y5,-,y7⟩:=dB fY;clear db)
       |(go_at_call 82;refine(zM.out _ kU.out).mono ?_;rintro r wc⟨rfl,dc⟩;have HBc:=bg kU dc;have qi:=ae (bK fY dc);obtain⟨-,-,-,-,-,z5,-,z7⟩:=dB qi;clear dc)
       |(go_at_call 83;refine(HRs.out _ HBc.out).mono ?_;rintro r wd⟨rfl,dd⟩;have DO:=bg HBc dd;have og:=ae (bK qi dd);have t7:=og.out.cell 7;simp at t7;clear dd))
      go_ret;exact⟨by rw[dS.out];rfl,DO.out⟩
     |true=>
      have dS:ag (R=OA):=ae (by rw[HR2.out];simp);go_wp2_with(first
       |(go_at_call 54;refine mZ.out.mono ?_;rintro r wa⟨rfl,da⟩;have iI:=bg HB da;have iM:=ae (bK HP da);obtain⟨-,-,x2,x3,-,x5,-,x7⟩:=dB iM;clear da)
       |(go_at_call 80;refine(G6.out _ iI.out).mono ?_;rintro r wb⟨rfl,db⟩;have kU:=bg iI db;have fY:=ae (bK iM db);obtain⟨-,-,y2,-,-,y5,-,y7⟩:=dB fY;clear db)
       |(go_at_call 82;refine(zM.out _ kU.out).mono ?_;rintro r wc⟨rfl,dc⟩;have HBc:=bg kU dc;have qi:=ae (bK fY dc);obtain⟨-,-,-,-,-,z5,-,z7⟩:=dB qi;clear dc)
       |(go_at_call 83;refine(HRs.out _ HBc.out).mono ?_;rintro r wd⟨rfl,dd⟩;have DO:=bg HBc dd;have og:=ae (bK qi dd);have t7:=og.out.cell 7;simp at t7;clear dd)
       |(go_at_call 84;refine(Qc.out _ DO.out).mono ?_;rintro r we⟨rfl,de⟩;have HBe:=bg DO de;have HPe:=ae (bK og de);clear de))
      go_ret;exact⟨by rw[dS.out];rfl,HBe.out⟩
 ·go_upto_region 5 with fail
  cases AM with
  |false=>
   have dS:ag (R=false):=ae (by rw[HR2.out];simp);go_wp2_with(first
    |(go_at_call 54;refine mZ.out.mono ?_;rintro r wa⟨rfl,da⟩;have iI:=bg HB da;have iM:=ae (bK HP da);obtain⟨-,-,x2,x3,-,x5,-,x7⟩:=dB iM;clear da))
   go_ret;exact⟨by rw[dS.out];rfl,iI.out⟩
  |true=>
   cases RA with
   |false=>
    have dS:ag (R=false):=ae (by rw[HR2.out];simp);go_wp2_with(first
     |(go_at_call 54;refine mZ.out.mono ?_;rintro r wa⟨rfl,da⟩;have iI:=bg HB da;have iM:=ae (bK HP da);obtain⟨-,-,x2,x3,-,x5,-,x7⟩:=dB iM;clear da)
     |(go_at_call 80;refine(G6.out _ iI.out).mono ?_;rintro r wb⟨rfl,db⟩;have kU:=bg iI db;have fY:=ae (bK iM db);obtain⟨-,-,y2,-,-,y5,-,y7⟩:=dB fY;clear db))
    go_ret;exact⟨by rw[dS.out];rfl,kU.out⟩
   |true=>
    cases PA with
    |false=>
     have dS:ag (R=false):=ae (by rw[HR2.out];simp);go_wp2_with(first
      |(go_at_call 54;refine mZ.out.mono ?_;rintro r wa⟨rfl,da⟩;have iI:=bg HB da;have iM:=ae (bK HP da);obtain⟨-,-,x2,x3,-,x5,-,x7⟩:=dB iM;clear da)
      |(go_at_call 80;refine(G6.out _ iI.out).mono ?_;rintro r wb⟨rfl,db⟩;have kU:=bg iI db;have fY:=ae (bK iM db);obtain⟨-,-,y2,-,-,y5,-,y7⟩:=dB fY;clear db)
      |(go_at_call 82;refine(zM.out _ kU.out).mono ?_;rintro r wc⟨rfl,dc⟩;have HBc:=bg kU dc;have qi:=ae (bK fY dc);obtain⟨-,-,-,-,-,z5,-,z7⟩:=dB qi;clear dc))
     go_ret;exact⟨by rw[dS.out];rfl,HBc.out⟩
    |true=>
     cases YA with
     |false=>
      have dS:ag (R=false):=ae (by rw[HR2.out];simp);go_wp2_with(first
       |(go_at_call 54;refine mZ.out.mono ?_;rintro r wa⟨rfl,da⟩;have iI:=bg HB da;have iM:=ae (bK HP da);obtain⟨-,-,x2,x3,-,x5,-,x7⟩:=dB iM;clear da)
       |(go_at_call 80;refine(G6.out _ iI.out).mono ?_;rintro r wb⟨rfl,db⟩;have kU:=bg iI db;have fY:=ae (bK iM db);obtain⟨-,-,y2,-,-,y5,-,y7⟩:=dB fY;clear db)
       |(go_at_call 82;refine(zM.out _ kU.out).mono ?_;rintro r wc⟨rfl,dc⟩;have HBc:=bg kU dc;have qi:=ae (bK fY dc);obtain⟨-,-,-,-,-,z5,-,z7⟩:=dB qi;clear dc)
       |(go_at_call 83;refine(HRs.out _ HBc.out).mono ?_;rintro r wd⟨rfl,dd⟩;have DO:=bg HBc dd;have og:=ae (bK qi dd);have t7:=og.out.cell 7;simp at t7;clear dd))
      go_ret;exact⟨by rw[dS.out];rfl,DO.out⟩
     |true=>
      have dS:ag (R=OA):=ae (by rw[HR2.out];simp);go_wp2_with(first
       |(go_at_call 54;refine mZ.out.mono ?_;rintro r wa⟨rfl,da⟩;have iI:=bg HB da;have iM:=ae (bK HP da);obtain⟨-,-,x2,x3,-,x5,-,x7⟩:=dB iM;clear da)
       |(go_at_call 80;refine(G6.out _ iI.out).mono ?_;rintro r wb⟨rfl,db⟩;have kU:=bg iI db;have fY:=ae (bK iM db);obtain⟨-,-,y2,-,-,y5,-,y7⟩:=dB fY;clear db)
       |(go_at_call 82;refine(zM.out _ kU.out).mono ?_;rintro r wc⟨rfl,dc⟩;have HBc:=bg kU dc;have qi:=ae (bK fY dc);obtain⟨-,-,-,-,-,z5,-,z7⟩:=dB qi;clear dc)
       |(go_at_call 83;refine(HRs.out _ HBc.out).mono ?_;rintro r wd⟨rfl,dd⟩;have DO:=bg HBc dd;have og:=ae (bK qi dd);have t7:=og.out.cell 7;simp at t7;clear dd)
       |(go_at_call 84;refine(Qc.out _ DO.out).mono ?_;rintro r we⟨rfl,de⟩;have HBe:=bg DO de;have HPe:=ae (bK og de);clear de))
      go_ret;exact⟨by rw[dS.out];rfl,HBe.out⟩
def yD(x s:Nat):Nat:=x*2^s%4294967296|||x/2^(32-s)
def bR(v:List Nat)(i:Nat):Nat:=v.getD i 0
def iN(x y:Nat):Nat:=x^^^y
structure Ws(n:Nat)(v:List Nat):Prop where
 len:v.length=n
 lt:∀x∈v,x<4294967296
theorem Ws.at_{n:Nat}{v:List Nat}(h:Ws n v)(i:Nat):bR v i<4294967296:=by
 unfold bR;rw[aE];cases hi:v[i]? with
 |none=>decide
 |some x=>exact h.lt x (List.mem_of_getElem? hi)
theorem Ws.aM{n:Nat}{v:List Nat}(h:Ws n v)(i:Nat){x:Nat}(hx:x<4294967296):Ws n (v.set i x):=⟨by rw[List.length_set];exact h.len,fun y hy=>by
 rcases List.mem_or_eq_of_mem_set hy with hy|rfl
 ·exact h.lt y hy
 ·exact hx⟩
theorem abE{x y:Nat}(hx:x<4294967296)(hy:y<4294967296):x|||y<4294967296:=Nat.or_lt_two_pow (n:=32) hx hy
theorem kE{x y:Nat}(hx:x<4294967296)(hy:y<4294967296):iN x y<4294967296:=Nat.xor_lt_two_pow (n:=32) hx hy
theorem ac7{x s:Nat}(hx:x<4294967296):yD x s<4294967296:=abE (Nat.mod_lt _ aJ) (Nat.lt_of_le_of_lt (Nat.div_le_self _ _) hx)
def Ll(v:List Nat)(a b x:Nat):List Nat:=v.set a ((bR v a+(bR v b+x)%4294967296)%4294967296)
def zP(v:List Nat)(d a s:Nat):List Nat:=v.set d (yD (iN (bR v d) (bR v a)) s)
def Lm(v:List Nat)(c d:Nat):List Nat:=v.set c ((bR v c+bR v d)%4294967296)
def stepW(v:List Nat)(a b c d x r s:Nat):List Nat:=zP (Lm (zP (Ll v a b x) d a r) c d) b c s
def Ln(v:List Nat)(a b c d x y:Nat):List Nat:=stepW (stepW v a b c d x 16 20) a b c d y 24 25
theorem DR{n:Nat}{v:List Nat}(h:Ws n v)(a b x:Nat):Ws n (Ll v a b x):=h.aM a (Nat.mod_lt _ aJ)
theorem DT{n:Nat}{v:List Nat}(h:Ws n v)(a b:Nat):Ws n (Lm v a b):=h.aM a (Nat.mod_lt _ aJ)
theorem qk{n:Nat}{v:List Nat}(h:Ws n v)(a b s:Nat):Ws n (zP v a b s):=h.aM a (ac7 (kE (h.at_ a) (h.at_ b)))
theorem yE{n:Nat}{v:List Nat}(h:Ws n v)(a b c d x r s:Nat):Ws n (stepW v a b c d x r s):=qk (DT (qk (DR h a b x) d a r) c d) b c s
theorem NU{n:Nat}{v:List Nat}(h:Ws n v)(a b c d x y:Nat):Ws n (Ln v a b c d x y):=yE (yE h a b c d x 16 20) a b c d y 24 25
def pL:List (List Nat):=[[0,1,2,3,4,5,6,7,8,9,10,11,12,13,14,15],[14,10,4,8,9,15,13,6,1,12,0,2,11,7,5,3],[11,8,12,0,5,2,15,13,10,14,3,6,7,1,9,4],[7,9,3,1,13,12,11,14,2,6,5,10,4,0,15,8],[9,0,5,7,2,4,10,15,14,1,11,12,6,8,3,13],[2,12,6,10,0,11,8,3,4,13,7,5,15,14,1,9],[12,5,1,15,14,13,4,10,0,7,6,3,9,2,8,11],[13,11,7,14,12,1,3,9,5,0,15,4,8,6,2,10],[6,15,14,9,11,3,0,8,12,2,13,7,1,4,10,5],[10,2,8,4,7,6,1,5,15,11,9,14,3,12,13,0]]
def NV(m o v:List Nat)(i:Nat):List Nat:=Ln v i (4+i) (8+i) (12+i) (bR m (bR o (2*i))) (bR m (bR o (2*i+1)))
def qm(m o v:List Nat)(i:Nat):List Nat:=Ln v i (4+(i+1)%4) (8+(i+2)%4) (12+(i+3)%4) (bR m (bR o (8+2*i))) (bR m (bR o (9+2*i)))
def upW(m o v:List Nat)(k:Nat):List Nat:=(aF k).foldl (NV m o) v
def mj(m o v:List Nat)(k:Nat):List Nat:=(aF k).foldl (qm m o) v
def rp(m v:List Nat)(r:Nat):List Nat:=mj m (pL.getD r []) (upW m (pL.getD r []) v 4) 4
def kV(m v:List Nat)(k:Nat):List Nat:=(aF k).foldl (rp m) v
theorem qn{n:Nat}{f:List Nat→Nat→List Nat}(hf:∀v i,Ws n v→Ws n (f v i)):∀(l:List Nat)(v:List Nat),Ws n v→Ws n (l.foldl f v)
 |[],_,h=>h
 |i::l,v,h=>qn hf l (f v i) (hf v i h)
theorem Lp{n:Nat}{m o v:List Nat}(h:Ws n v)(k:Nat):Ws n (upW m o v k):=qn (fun _ _ h=>NU h _ _ _ _ _ _) _ v h
theorem yF{n:Nat}{m o v:List Nat}(h:Ws n v)(k:Nat):Ws n (mj m o v k):=qn (fun _ _ h=>NU h _ _ _ _ _ _) _ v h
theorem Rk{n:Nat}{m v:List Nat}(h:Ws n v)(r:Nat):Ws n (rp m v r):=by unfold rp;exact yF (Lp h 4) 4
theorem rq{n:Nat}{m v:List Nat}(h:Ws n v)(k:Nat):Ws n (kV m v k):=by unfold kV;exact qn (f:=rp m) (fun _ r h=>Rk h r) _ v h
theorem j4(f:List Nat→Nat→List Nat)(v:List Nat)(k:Nat):(aF (k+1)).foldl f v=f ((aF k).foldl f v) k:=by rw[List.range_succ,List.foldl_append];rfl
theorem Wq(m o v:List Nat)(k:Nat):upW m o v (k+1)=NV m o (upW m o v k) k:=j4 (NV m o) _ k
theorem DU(m o v:List Nat)(k:Nat):mj m o v (k+1)=qm m o (mj m o v k) k:=j4 (qm m o) _ k
theorem DV(m v:List Nat)(k:Nat):kV m v (k+1)=rp m (kV m v k) k:=j4 (rp m) _ k
def Wu(p:List Nat)(m:List Nat)(i:Nat):List Nat:=m.set (i/4) (bR m (i/4)|||bR p i*2^(i%4*8)%4294967296)
def lE(p:List Nat)(k:Nat):List Nat:=(aF k).foldl (Wu p) (aS 16 0)
theorem ac8(n:Nat):Ws n (aS n 0):=⟨List.length_replicate,fun x hx=>by rw[(List.mem_replicate.1 hx).2];decide⟩
theorem Bm(p:List Nat)(k:Nat):Ws 16 (lE p k):=qn (fun _ _ h=>h.aM _ (abE (h.at_ _) (Nat.mod_lt _ aJ))) _ _ (ac8 16)
theorem G7(p:List Nat)(k:Nat):lE p (k+1)=Wu p (lE p k) k:=j4 (Wu p) _ k
def il:List Nat:=[1779033703,3144134277,1013904242,2773480762,1359893119,2600822924,528734635,1541459225]
theorem kZ:Ws 8 il:=⟨rfl,by decide⟩
def nQ(h:List Nat)(n:Nat)(last:Bool):List Nat:=let v:=h++il
 let v:=v.set 12 (iN (bR v 12) (n%4294967296))
 let v:=v.set 13 (iN (bR v 13) (n/4294967296%4294967296))
 if last then v.set 14 (4294967295-bR v 14)else v
theorem Ww{n m:Nat}{u v:List Nat}(h:Ws n u)(k:Ws m v):Ws (n+m) (u++v):=⟨by rw[aj,h.len,k.len],fun x hx=>(List.mem_append.1 hx).elim (h.lt x) (k.lt x)⟩
theorem Bn{h:List Nat}(hh:Ws 8 h)(n:Nat)(last:Bool):Ws 16 (nQ h n last):=by
 unfold nQ;have h1:=Ww hh kZ;have h2:=h1.aM 12 (kE (h1.at_ 12) (Nat.mod_lt n (show 0<4294967296 by decide)));have h3:=h2.aM 13 (kE (h2.at_ 13) (Nat.mod_lt (n/4294967296) (show 0<4294967296 by decide)));cases last with
 |false=>exact h3
 |true=>exact h3.aM 14 (by omega)
def NW(v h:List Nat)(i:Nat):List Nat:=h.set i (iN (bR h i) (iN (bR v i) (bR v (8+i))))
def nR(v h:List Nat)(k:Nat):List Nat:=(aF k).foldl (NW v) h
theorem G8(v h:List Nat)(k:Nat):nR v h (k+1)=NW v (nR v h k) k:=j4 (NW v) _ k
theorem Bo{n m:Nat}{v h:List Nat}(hv:Ws m v)(hh:Ws n h)(k:Nat):Ws n (nR v h k):=qn (fun _ _ h=>h.aM _ (kE (h.at_ _) (kE (hv.at_ _) (hv.at_ _)))) _ _ hh
def pM(h:List Nat)(n:Nat)(p:List Nat)(last:Bool):List Nat:=nR (kV (lE p 64) (nQ h n last) 10) h 8
theorem ub{h:List Nat}(hh:Ws 8 h)(n:Nat)(p:List Nat)(last:Bool):Ws 8 (pM h n p last):=Bo (rq (Bn hh n last) 10) hh 8
structure Bl where
 h:List Nat
 rest:List Nat
 n:Nat
structure Bl.Ok(b:Bl):Prop where
 h:Ws 8 b.h
 rest:b.rest.length≤64
 byte:∀x∈b.rest,x<256
def Bl.add(b:Bl)(c:Nat):Bl:=if b.rest.length=64 then⟨pM b.h (b.n+64) b.rest false,[c],b.n+64⟩else⟨b.h,b.rest++[c],b.n⟩
theorem Bl.ac9{b:Bl}(ok:b.Ok){c:Nat}(hc:c<256):(b.add c).Ok:=by
 unfold Bl.add;split
 ·exact⟨ub ok.h _ _ _,(show 1≤64 by decide),fun x hx=>by rw[List.mem_singleton.1 hx];exact hc⟩
 ·refine⟨ok.h,?_,fun x hx=>?_⟩
  ·have:=ok.rest;simp only[aj,dn];omega
  ·rcases List.mem_append.1 hx with hx|hx
   ·exact ok.byte x hx
   ·rw[List.mem_singleton.1 hx];exact hc
def Bl.adds(b:Bl)(l:List Nat):Bl:=l.foldl Bl.add b
def Bl.new:Bl:=⟨il.set 0 1795745351,[],0⟩
theorem Bl.Wx:Bl.new.Ok:=⟨kZ.aM 0 aJ,by decide,fun x hx=>by cases hx⟩
theorem Bl.NY{l:List Nat}(hl:∀x∈l,x<256):∀{b:Bl},b.Ok→(b.adds l).Ok:=by
 induction l with
 |nil=>intro b h;exact h
 |cons c l ih=>intro b h;exact ih (fun x hx=>hl x (List.mem_cons_of_mem _ hx)) (b.ac9 h (hl c (List.mem_cons_self ..)))
theorem Bl.afr(b:Bl)(c:Nat):(b.add c).n≤b.n+64∧(b.add c).n+(b.add c).rest.length=b.n+b.rest.length+1:=by
 unfold Bl.add;split
 ·next h=>simp only[dn];omega
 ·simp only[aj,dn];omega
theorem Bl.Wy(l:List Nat):∀b:Bl,(b.adds l).n+(b.adds l).rest.length=b.n+b.rest.length+l.length:=by
 induction l with
 |nil=>intro b;rfl
 |cons c l ih=>
  intro b;show((b.add c).adds l).n+((b.add c).adds l).rest.length=_;rw[ih,(b.afr c).2,List.length_cons];omega
def Bl.last(b:Bl):List Nat:=pM b.h (b.n+b.rest.length) (b.rest++aS (64-b.rest.length) 0) true
def kO(h:List Nat)(i:Nat):Nat:=bR h (i/4)/2^(i%4*8)%256
def Bl.sum(b:Bl):List Nat:=(aF 32).map (kO b.last)
def uc(s:ByteArray):ByteArray:=⟨((Bl.new.adds (s.data.toList.map UInt8.toNat)).sum.map UInt8.ofNat).toArray⟩
theorem vl(s:ByteArray):(uc s).size=32:=by
 show(((Bl.new.adds _).sum.map UInt8.ofNat).toArray).size=32;rw[List.size_toArray,ay];unfold Bl.sum;rw[ay,List.length_range]
theorem wQ(x s:Nat)(hx:x<4294967296)(hs:s<32)(k:Int)(hk:bits .and .u64 (IntKind.u64.wrap k) 31=(s:Int))(w:World):Calls ah 196 #[.int .u32 x,.int .i64 k] w fun r w'=>r=.returned (.int .u32 (yD x s:Int))∧w=w':=by
 have h3:IntKind.u64.wrap (32-(s:Int))=((32-s:Nat):Int):=by rw[IntKind.wrap_u64];omega
 have h4:bits .or .u32 ((x:Int)*2^s%4294967296) ((x:Int)/2^(32-s))=(yD x s:Int):=by
  have:=u32_or_nat (x*2^s%4294967296) (x/2^(32-s)) (Nat.mod_lt _ aJ) (Nat.lt_of_le_of_lt (Nat.div_le_self _ _) hx);unfold yD;simpa using this
 have ht:32-s≤32:=Nat.sub_le _ _;generalize 32-s=t at*;generalize yD x s=R at*;go_enter Tryz.func196,Tryz.ntmps196;go_wp2_with fail
 go_ret;exact⟨rfl,rfl⟩
def cI(v:List Nat):Array Value:=(v.map fun x:Nat=>Value.int .u32 x).toArray
theorem Bq{n:Nat}{v:List Nat}(h:Ws n v){i:Nat}(hi:i<n):(cI v)[i]? =some (.int .u32 (bR v i:Int)):=by
 unfold cI bR;rw[List.getElem?_toArray,List.getElem?_map,aE,af (by rw[h.len];exact hi)];rfl
theorem yG(v:List Nat)(i x:Nat):(cI v).setIfInBounds i (.int .u32 x)=cI (v.set i x):=by
 unfold cI;rw[List.setIfInBounds_toArray,List.map_set]
theorem vm(n:Nat):IntKind.u32.wrap (n:Int)=((n%4294967296:Nat):Int):=by rw[IntKind.wrap_u32];rfl
theorem eF{w:World}{g n:Nat}{t:TypeId}{v:List Nat}(hv:Ws n v)(hg:aH w g t (cI v)){i:Nat}(hi:i<n):w.cell? ⟨g,i,none⟩=some (.int .u32 (bR v i:Int)):=by
 rw[hg.cell i];exact Bq hv hi
theorem G9{w w0:World}{g n:Nat}{t:TypeId}{v:List Nat}(hg:aH w g t (cI v))(hk:Keeps (fun k=>k=g) w0 w)(i x:Nat):aH (w.setCell ⟨g,i,none⟩ (.int .u32 x)).drew g t (cI (v.set i x))∧Keeps (fun k=>k=g) w0 (w.setCell ⟨g,i,none⟩ (.int .u32 x)).drew:=by
 refine⟨?_,(hk.setCell (p:=⟨g,i,none⟩) (Or.inl rfl) _).drew⟩;rw[←yG];exact(hg.aM i _).drew
def lF(w0:World)(g:Nat)(v:List Nat)(w:World):Prop:=aH w g 256 (cI v)∧Keeps (fun k=>k=g) w0 w
theorem Hf{w w0:World}{g:Nat}{v:List Nat}(h:lF w0 g v w){a b x A B R0 R1:Nat}(hA:bR v a=A)(hB:bR v b=B)(h0:(B+x)%4294967296=R0)(h1:(A+R0)%4294967296=R1):lF w0 g (Ll v a b x) (w.setCell ⟨g,a,none⟩ (.int .u32 R1)).drew:=by
 have:=G9 (n:=16) h.1 h.2 a R1;rw[show v.set a R1=Ll v a b x by unfold Ll;rw[hA,hB,h0,h1]]at this;exact this
theorem Hh{w w0:World}{g:Nat}{v:List Nat}(h:lF w0 g v w){a b A B R1:Nat}(hA:bR v a=A)(hB:bR v b=B)(h1:(A+B)%4294967296=R1):lF w0 g (Lm v a b) (w.setCell ⟨g,a,none⟩ (.int .u32 R1)).drew:=by
 have:=G9 (n:=16) h.1 h.2 a R1;rw[show v.set a R1=Lm v a b by unfold Lm;rw[hA,hB,h1]]at this;exact this
theorem sF{w w0:World}{g:Nat}{v:List Nat}(h:lF w0 g v w){a b s A B R1:Nat}(hA:bR v a=A)(hB:bR v b=B)(h1:yD (iN A B) s=R1):lF w0 g (zP v a b s) (w.setCell ⟨g,a,none⟩ (.int .u32 R1)).drew:=by
 have:=G9 (n:=16) h.1 h.2 a R1;rw[show v.set a R1=zP v a b s by unfold zP;rw[hA,hB,h1]]at this;exact this
theorem Hj{x y:Nat}(hx:x<4294967296)(hy:y<4294967296):bits .xor .u32 (x:Int) (y:Int)=(iN x y:Int):=u32_xor_nat x y hx hy
theorem NZ{w:World}{g gw:Nat}{v:List Nat}(hv:Ws 16 v)(hg:aH w g 256 (cI v)){x y:Nat}(hw:aH w gw 173 #[.int .u32 x,.int .u32 y]){a b c d:Nat}(ha:a<16)(hb:b<16)(hc:c<16)(hd:d<16):Calls ah 195 #[.int .i64 a,.int .i64 b,.int .i64 c,.int .i64 d,.slice (some ⟨gw,0,none⟩) 2 2,.pointer (some ⟨g,0,none⟩)] w fun r w'=>r=.returned (.tuple #[])∧lF w g (Ln v a b c d x y) w':=by
 have hne:gw≠g:=aH.vO hw hg aJ;have HG:ag (lF w g v w):=ae ⟨hg,Keeps.refl _ _⟩;have HW:=ae hw;have a1:(0:Int)≤(a:Int):=by omega
 have a2:(a:Int)<16:=by omega
 have a3:(b:Int)<16:=by omega
 have a4:(c:Int)<16:=by omega
 have a5:(d:Int)<16:=by omega
 clear hg hw;go_enter Tryz.func195,Tryz.ntmps195;go_wp2_with fail
 go_loopw [15] (fun v15 wr=>(v15=.int .i64 0∧ag (lF w g v wr))∨(v15=.int .i64 1∧ag (lF w g (stepW v a b c d x 16 20) wr))∨(v15=.int .i64 2∧ag (lF w g (Ln v a b c d x y) wr))) (fun v15 _=>2-(intOf v15).toNat)
 case atStart=>exact Or.inl ⟨rfl,HG⟩
 case round=>
  rcases hrel with⟨rfl,h⟩|⟨rfl,h⟩|⟨rfl,h⟩
  ·have hvv:=hv;obtain⟨wo,rfl⟩:=bw (wr:World);have c0:=(HW.out.keep h.out.2 hne).cell 0;simp at c0;have d1:=eF hvv h.out.1 ha;have d2:=eF hvv h.out.1 hb;have f1:=h.out.1.frozen a;have l1:=hvv.at_ a;have l2:=hvv.at_ b;generalize hA:bR v a=A at d1 l1;generalize hB:bR v b=B at d2 l2;obtain⟨HA,HB⟩:=aL hA hB;clear hA hB;have e1:IntKind.u32.wrap ((B:Int)+(x:Int))=(((B+x)%4294967296:Nat):Int):=vm (B+x);have e2:IntKind.u32.wrap ((A:Int)+(((B+x)%4294967296:Nat):Int))=(((A+(B+x)%4294967296)%4294967296:Nat):Int):=vm (A+(B+x)%4294967296);generalize hR1:(A+(B+x)%4294967296)%4294967296=R1 at e2;generalize hR0:(B+x)%4294967296=R0 at e1 e2 hR1;have h1:=ae (Hf h.out HA.out HB.out hR0 hR1);have hv1:=DR hvv a b x;generalize hX:Ll v a b x=u1 at h1 hv1;have HX1:=ae hX;clear hR0 hR1 hX l1 l2 HA HB;go_upto_region 3 with fail
   go_region;generalize(wo.setCell ⟨g,a,none⟩ (.int .u32 R1)).drew=w1 at h1⊢;clear d1 d2 f1 e1 e2 c0;have d1:=eF hv1 h1.out.1 hd;have d2:=eF hv1 h1.out.1 ha;have f1:=h1.out.1.frozen d;have l1:=hv1.at_ d;have l2:=hv1.at_ a;generalize hA:bR u1 d=A at d1 l1;generalize hB:bR u1 a=B at d2 l2;obtain⟨HA,HB⟩:=aL hA hB;clear hA hB;have e1:=Hj l1 l2;have nS:=fun u=>wQ (iN A B) 16 (kE l1 l2) aJ (-16) aJ u
   generalize hR1:yD (iN A B) 16=R1 at nS;have h2:=ae (sF h1.out HA.out HB.out hR1);have hv2:=qk hv1 d a 16;generalize hX:zP u1 d a 16=u2 at h2 hv2;generalize iN A B=X0 at e1 nS;obtain⟨yH,HX2⟩:=aL nS hX;clear nS hR1 hX l1 l2 HA HB hv1 h1;go_upto_region 4 with fail
   refine wp_region_still_tail 13 bo bo ?_;simp only[ahg,MJ,ahj,ahh]
   repeat still_step
   still_call ((yH.out _).mono fun _ _ h=>⟨h.1,h.2.symm⟩)
   repeat still_step
   refine wpStill_nil ?_;change wpList _ _ _ _ _ w1.drew;go_wp2_with fail
   generalize(w1.setCell ⟨g,d,none⟩ (.int .u32 R1)).drew=w2 at h2⊢;clear d1 d2 f1 e1 yH;have d1:=eF hv2 h2.out.1 hc;have d2:=eF hv2 h2.out.1 hd;have f1:=h2.out.1.frozen c;have l1:=hv2.at_ c;have l2:=hv2.at_ d;generalize hA:bR u2 c=A at d1 l1;generalize hB:bR u2 d=B at d2 l2;obtain⟨HA,HB⟩:=aL hA hB;clear hA hB;have e1:IntKind.u32.wrap ((A:Int)+(B:Int))=(((A+B)%4294967296:Nat):Int):=vm (A+B);generalize hR1:(A+B)%4294967296=R1 at e1;have h3:=ae (Hh h2.out HA.out HB.out hR1);have hv3:=DT hv2 c d;generalize hX:Lm u2 c d=u3 at h3 hv3;have SQ:=ae hX;clear hR1 hX l1 l2 HA HB;go_upto_region 5 with fail
   go_region;generalize(w2.setCell ⟨g,c,none⟩ (.int .u32 R1)).drew=w3 at h3⊢;clear d1 d2 f1 e1 h2 hv2;have d1:=eF hv3 h3.out.1 hb;have d2:=eF hv3 h3.out.1 hc;have f1:=h3.out.1.frozen b;have l1:=hv3.at_ b;have l2:=hv3.at_ c;generalize hA:bR u3 b=A at d1 l1;generalize hB:bR u3 c=B at d2 l2;obtain⟨HA,HB⟩:=aL hA hB;clear hA hB;have e1:=Hj l1 l2;have nS:=fun u=>wQ (iN A B) 20 (kE l1 l2) aJ (-12) aJ u
   generalize hR1:yD (iN A B) 20=R1 at nS;have h4:=ae (sF h3.out HA.out HB.out hR1);have hv4:=qk hv3 b c 20;generalize hX:zP u3 b c 20=u4 at h4 hv4;generalize iN A B=X0 at e1 nS;obtain⟨yH,KL⟩:=aL nS hX;clear nS hR1 hX l1 l2 HA HB hv3 h3;go_upto_region 6 with fail
   refine wp_region_still_tail 13 bo bo ?_;simp only[ahg,MJ,ahj,ahh]
   repeat still_step
   still_call ((yH.out _).mono fun _ _ h=>⟨h.1,h.2.symm⟩)
   repeat still_step
   refine wpStill_nil ?_;change wpList _ _ _ _ _ w3.drew;go_wp2_with fail
   generalize(w3.setCell ⟨g,b,none⟩ (.int .u32 R1)).drew=w4 at h4⊢;clear d1 d2 f1 e1 yH;have hfin:ag (lF w g (stepW v a b c d x 16 20) w4):=ae (by
    have e:stepW v a b c d x 16 20=u4:=by unfold stepW;rw[HX1.out,HX2.out,SQ.out,KL.out]
    rw[e];exact h4.out)
   clear HX1 HX2 SQ KL h4 hv4 h;go_wp2_with fail
   go_roundw
   case rel=>exact Or.inr (Or.inl ⟨rfl,hfin⟩)
   case measure=>simp[intOf]
  ·have hvv:=yE hv a b c d x 16 20;generalize hV:stepW v a b c d x 16 20=v1 at h hvv;have HV:=ae hV;clear hV;obtain⟨wo,rfl⟩:=bw (wr:World);have c0:=(HW.out.keep h.out.2 hne).cell 1;simp at c0;have d1:=eF hvv h.out.1 ha;have d2:=eF hvv h.out.1 hb;have f1:=h.out.1.frozen a;have l1:=hvv.at_ a;have l2:=hvv.at_ b;generalize hA:bR v1 a=A at d1 l1;generalize hB:bR v1 b=B at d2 l2;obtain⟨HA,HB⟩:=aL hA hB;clear hA hB;have e1:IntKind.u32.wrap ((B:Int)+(y:Int))=(((B+y)%4294967296:Nat):Int):=vm (B+y);have e2:IntKind.u32.wrap ((A:Int)+(((B+y)%4294967296:Nat):Int))=(((A+(B+y)%4294967296)%4294967296:Nat):Int):=vm (A+(B+y)%4294967296);generalize hR1:(A+(B+y)%4294967296)%4294967296=R1 at e2;generalize hR0:(B+y)%4294967296=R0 at e1 e2 hR1;have h1:=ae (Hf h.out HA.out HB.out hR0 hR1);have hv1:=DR hvv a b y;generalize hX:Ll v1 a b y=u1 at h1 hv1;have HX1:=ae hX;clear hR0 hR1 hX l1 l2 HA HB;go_upto_region 3 with fail
   go_region;generalize(wo.setCell ⟨g,a,none⟩ (.int .u32 R1)).drew=w1 at h1⊢;clear d1 d2 f1 e1 e2 c0;have d1:=eF hv1 h1.out.1 hd;have d2:=eF hv1 h1.out.1 ha;have f1:=h1.out.1.frozen d;have l1:=hv1.at_ d;have l2:=hv1.at_ a;generalize hA:bR u1 d=A at d1 l1;generalize hB:bR u1 a=B at d2 l2;obtain⟨HA,HB⟩:=aL hA hB;clear hA hB;have e1:=Hj l1 l2;have nS:=fun u=>wQ (iN A B) 24 (kE l1 l2) aJ (-8) aJ u
   generalize hR1:yD (iN A B) 24=R1 at nS;have h2:=ae (sF h1.out HA.out HB.out hR1);have hv2:=qk hv1 d a 24;generalize hX:zP u1 d a 24=u2 at h2 hv2;generalize iN A B=X0 at e1 nS;obtain⟨yH,HX2⟩:=aL nS hX;clear nS hR1 hX l1 l2 HA HB hv1 h1;go_upto_region 4 with fail
   refine wp_region_still_tail 13 bo bo ?_;simp only[ahg,MJ,ahj,ahh]
   repeat still_step
   still_call ((yH.out _).mono fun _ _ h=>⟨h.1,h.2.symm⟩)
   repeat still_step
   refine wpStill_nil ?_;change wpList _ _ _ _ _ w1.drew;go_wp2_with fail
   generalize(w1.setCell ⟨g,d,none⟩ (.int .u32 R1)).drew=w2 at h2⊢;clear d1 d2 f1 e1 yH;have d1:=eF hv2 h2.out.1 hc;have d2:=eF hv2 h2.out.1 hd;have f1:=h2.out.1.frozen c;have l1:=hv2.at_ c;have l2:=hv2.at_ d;generalize hA:bR u2 c=A at d1 l1;generalize hB:bR u2 d=B at d2 l2;obtain⟨HA,HB⟩:=aL hA hB;clear hA hB;have e1:IntKind.u32.wrap ((A:Int)+(B:Int))=(((A+B)%4294967296:Nat):Int):=vm (A+B);generalize hR1:(A+B)%4294967296=R1 at e1;have h3:=ae (Hh h2.out HA.out HB.out hR1);have hv3:=DT hv2 c d;generalize hX:Lm u2 c d=u3 at h3 hv3;have SQ:=ae hX;clear hR1 hX l1 l2 HA HB;go_upto_region 5 with fail
   go_region;generalize(w2.setCell ⟨g,c,none⟩ (.int .u32 R1)).drew=w3 at h3⊢;clear d1 d2 f1 e1 h2 hv2;have d1:=eF hv3 h3.out.1 hb;have d2:=eF hv3 h3.out.1 hc;have f1:=h3.out.1.frozen b;have l1:=hv3.at_ b;have l2:=hv3.at_ c;generalize hA:bR u3 b=A at d1 l1;generalize hB:bR u3 c=B at d2 l2;obtain⟨HA,HB⟩:=aL hA hB;clear hA hB;have e1:=Hj l1 l2;have nS:=fun u=>wQ (iN A B) 25 (kE l1 l2) aJ (-7) aJ u
   generalize hR1:yD (iN A B) 25=R1 at nS;have h4:=ae (sF h3.out HA.out HB.out hR1);have hv4:=qk hv3 b c 25;generalize hX:zP u3 b c 25=u4 at h4 hv4;generalize iN A B=X0 at e1 nS;obtain⟨yH,KL⟩:=aL nS hX;clear nS hR1 hX l1 l2 HA HB hv3 h3;go_upto_region 6 with fail
   refine wp_region_still_tail 13 bo bo ?_;simp only[ahg,MJ,ahj,ahh]
   repeat still_step
   still_call ((yH.out _).mono fun _ _ h=>⟨h.1,h.2.symm⟩)
   repeat still_step
   refine wpStill_nil ?_;change wpList _ _ _ _ _ w3.drew;go_wp2_with fail
   generalize(w3.setCell ⟨g,b,none⟩ (.int .u32 R1)).drew=w4 at h4⊢;clear d1 d2 f1 e1 yH;have hfin:ag (lF w g (stepW v1 a b c d y 24 25) w4):=ae (by
    have e:stepW v1 a b c d y 24 25=u4:=by unfold stepW;rw[HX1.out,HX2.out,SQ.out,KL.out]
    rw[e];exact h4.out)
   clear HX1 HX2 SQ KL h4 hv4 h;go_wp2_with fail
   go_roundw
   case rel=>exact Or.inr (Or.inr ⟨rfl,ae (by have:=hfin.out;rw[←HV.out]at this;exact this)⟩)
   case measure=>simp[intOf]
  ·go_wp2_with fail
   go_end0
   exact⟨rfl,h.out⟩
end Go.Proofs.YtkjaajcpbldjoabGreatDoor
