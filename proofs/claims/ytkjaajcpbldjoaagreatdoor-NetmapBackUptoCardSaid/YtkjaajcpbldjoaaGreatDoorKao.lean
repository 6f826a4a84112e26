/- Joined out of: EdD DfC SoA OwA Sort SoB DeA DfD DfE DfF NfG RuC MtA WoA NlA NlQ. -/
import Derived.Test.YtkjaajcpbldjoaaGreatDoorKan
import Derived.Sort.Grow
import Derived.Laws.OwnMore
import Derived.Shelf.SlSortCmp.NoneTotal
import Derived.Laws.IdiomCopy
set_option linter.unusedVariables false
set_option linter.unusedSimpArgs false
set_option maxHeartbeats 16000000
set_option maxRecDepth 100000
open Array renaming length_toList→eB,getElem?_eq_getElem→kt,getElem?_toList→ahD
open Go.Lib renaming hid→ae
open Go.Proofs.Tryz renaming prog→ah,underlying9→bn,underlying5→cB,underlying23→ahV
open Go.RowKit renaming Hid→ag
open Go.Value renaming slice→dq
open List renaming getElem?_eq_getElem→af,length_append→ai,length_map→ay,take_succ_eq_append_getElem→aB,take_of_length_le→aJ,replicate→aS,eq_nil_of_length_eq_zero→bz,length_cons→bO,append_nil→dP,length_replicate→lK,getElem?_eq_none→uw,length_take→zc,size_toArray→abd,flatMap_cons→abe,filter_append→ahG,getElem?_take→ahO,drop_drop→ahW,filter_nil→ahY
open Nat renaming le_trans→aw,le_refl→aA,add_zero→b8,lt_succ_self→oL
namespace Go.Proofs.YtkjaajcpbldjoaaGreatDoor
open Go.RowKit
attribute [local go_sem↓] Go.wp_at_zero Go.wp_at_succ
theorem Xf{d:Dl}(h:Qz d):sx d∧yF d:=by
 have hrs:d.ax.length<65536∧∀x∈d.ax,Kp x:=by
  cases hr:d.cS with
  |true=>exact h.ax hr
  |false=>rw[h.Gj hr];exact⟨by decide,fun x hx=>by cases hx⟩
 have hpl:d.policy.size≤32768:=by
  cases hp:d.cX with
  |true=>exact h.policy hp
  |false=>rw[h.Gk hp];decide
 exact⟨⟨h.base,h.version,fun p hp=>(Du (h.aL.2 p hp)).1,fun r hr=>V0 (hrs.2 r hr)⟩,⟨fun p hp=>(Du (h.aL.2 p hp)).2,by have:=h.aL.1;omega,by have:=h.gone.1;omega,by have:=hrs.1;omega,by omega,fun k hk=>by have:=h.gone.2 k hk;omega⟩⟩
theorem LJ(s:ByteArray):((decide (s.size≤32768)&&tY (Ix ⟨s,0,false⟩).2)=false∧oK s=(Dl.zero,8))∨((decide (s.size≤32768)&&tY (Ix ⟨s,0,false⟩).2)=true∧Qz (Ix ⟨s,0,false⟩).1∧(Az (Ix ⟨s,0,false⟩).1).length≤32768∧oK s=(if(lO (Ix ⟨s,0,false⟩).1).2=0 then((Ix ⟨s,0,false⟩).1,0)else(Dl.zero,(lO (Ix ⟨s,0,false⟩).1).2))):=by
 by_cases hs:32768<s.size
 ·refine Or.inl ⟨by rw[decide_eq_false aQ];rfl,?_⟩;have:eD dlP s.data.toList=none:=by unfold eD;rw[if_pos (by rw[dT];exact hs)]
  unfold oK;rw[this]
 ·rcases AU acS s hs with⟨h1,h2⟩|⟨h1,h2⟩
  ·refine Or.inr ⟨by rw[decide_eq_true aQ,h1];rfl,?_⟩;have hq:∃z,dlP s.data.toList=some z∧z=((Ix ⟨s,0,false⟩).1,[]):=by
    unfold eD at h2;rw[if_neg (by rw[dT];exact hs)]at h2;split at h2
    ·next x hx=>injection h2 with h2;subst h2;exact⟨_,hx,rfl⟩
    ·cases h2
   obtain⟨z,hz,rfl⟩:=hq;obtain⟨e1,e2⟩:=CZ.same _ _ _ hz;rw[dP]at e1;refine⟨e2,by rw[←e1,dT];omega,?_⟩;unfold oK;rw[h2]
  ·refine Or.inl ⟨by rw[h1,Bool.and_false],?_⟩;unfold oK;rw[h2]
theorem Bj{w:World}(env:Env w)(s:ByteArray)(hs:s.size≤4000000):Calls ah 13 #[.string s] w (WB (oK s).1 (oK s).2 w):=by
 have hz:=boxed w (.cells #[.int .u64 0,.int .u64 0,au,au,.bool false,au,.bool false,aI,aI] 29);have hP:=aG.new w 29 #[.int .u64 0,.int .u64 0,au,au,.bool false,au,.bool false,aI,aI];have hrd:=fun(w2:World)(M:Nat)(hM:aG w2 M 29 #[.int .u64 0,.int .u64 0,au,au,.bool false,au,.bool false,aI,aI])=>AW (w:=w2) (mb:=M) (J:=fun W=>aaG W w2.heap.size M (Ix ⟨s,0,false⟩).1) (e':=(Ix ⟨s,0,false⟩).2) (lb:= #[.pointer (some ⟨M,0,none⟩)]) hs (enters_of Tryz.func49 bo rfl) (fun W b rb hW hb hr hE=>Xe hE hs (hM.below hW hM.lt) hW.size hM.lt)
 have hcs:=LJ s;have IA:=fun u(hu:aW w u)=>env.below hu
 generalize(Ix ⟨s,0,false⟩).2=e2 at*;generalize(Ix ⟨s,0,false⟩).1=d at*;generalize(decide (s.size≤32768)&&tY e2)=OK at hcs hrd;generalize oK s=Q at hcs⊢;obtain⟨j6,HP,HB,HCs,QX⟩:=ej hrd hP hz hcs IA;clear hcs IA hrd hP hz;go_enter Tryz.func13,Tryz.ntmps13;go_upto_region 1 with fail
 generalize w.alloc (.cells #[.int .u64 0,.int .u64 0,au,au,.bool false,au,.bool false,aI,aI] 29)=w1 at HP HB⊢;generalize hPw:w.heap.size=P at HP⊢;have kr:=ae hPw;clear hPw;have hb2:=boxed w1 (.cells #[.int .u64 0,.int .u64 0,au,au,.bool false,au,.bool false,aI,aI] 29);have HB2:=aZ HB hb2;obtain⟨HP2,pI,Ez⟩:=bu (bJ HP hb2) (aG.new w1 29 #[.int .u64 0,.int .u64 0,au,au,.bool false,au,.bool false,aI,aI]) HP.out.lt;clear hb2;go_upto_region 2 with fail
 generalize w1.alloc (.cells #[.int .u64 0,.int .u64 0,au,au,.bool false,au,.bool false,aI,aI] 29)=w2 at HB2 HP2 pI⊢;generalize w1.heap.size=M at pI Ez⊢;have Ce:=ae (j6.out w2 M pI.out);have QW:ag (P<w2.heap.size):=ae (by have:=pI.out.lt;have:=Ez.out;omega);clear j6;go_upto_if 10 with(go_at_call 33;refine Ce.out.mono ?_;rintro r w3⟨rfl,j3,k3⟩;have fU:=ae (HP2.out.keep k3 (Nat.ne_of_lt Ez.out));have HB3:=ae (HB2.out.trans (k3.below (B:=w.heap.size) (fun k hk=>by have:=kr.out;have:=Ez.out;omega) HB2.out.size));have HJ3:=ae j3;clear j3 k3)
 have ge:w.heap.size≤P:=Nat.le_of_eq kr.out;have HGe:=ae ge;clear ge Ce HB2 HP2 pI;rcases HCs.out with⟨e1,hd⟩|⟨e1,hok,hml,hd⟩
 ·have Hd:=ae hd;clear hd HCs QX;rw[e1];clear e1;have fr:=fun i=>fU.out.frozen i
  obtain⟨x0,x1,x2,x3,x4,x5,x6,x7,x8⟩:=oR fU;go_wp2_with fail
  refine bodyPost_ret (bD rfl rfl rfl (jD (jV fU.out (.int .u64 0) (.int .u64 0) au au (.bool false) au (.bool false) aI aI))) rfl ?_;rw[Hd.out];exact⟨⟨au,au,au,rfl,nj _⟩,pQ (P:=P) (Q:=fun u=>aW w u) (fun u i x h=>h.setCell (p:=⟨P,i,none⟩) HGe.out x) HB3.out (.int .u64 0) (.int .u64 0) au au (.bool false) au (.bool false) aI aI⟩
 ·obtain⟨fit,sz⟩:=Xf hok;have hmay:=fun u sv gv rv(hu:aW w u)(hd:kz u d sv gv rv)=>uo (QX.out u hu) hd fit sz (fun _=>by omega)
  have Hd:=ae hd;rw[e1];clear e1 hd HCs QX hok fit sz hml;have aaH:=ae hmay;clear hmay;unfold aaG at HJ3;obtain⟨base,ver,ps,gs,hr,rs,hp,pol,hash⟩:=d;obtain⟨A1,c1,A2,c2,A3,c3,hB3,hO3,hG3,Yk⟩:=HJ3.out;simp only at hB3 hO3 hG3 Yk;have hdr:kz w3 ⟨base,ver,ps,gs,hr,rs,hp,pol,hash⟩ (.slice A1 ps.length c1) (.slice A2 gs.length c2) (.slice A3 rs.length c3):=⟨hO3.rd,aY.dh hG3,aY.dh Yk⟩;have IA:=aaH.out w3 _ _ _ HB3.out hdr;have hown:∀W,(cn W w2.heap.size (.slice A1 ps.length c1) ps∧W.ownsRow w2.heap.size 9 1 (.slice A2 gs.length c2) gs.length (strCells gs)∧W.ownsRow w2.heap.size 57 6 (.slice A3 rs.length c3) rs.length (dQ rs))→kz W ⟨base,ver,ps,gs,hr,rs,hp,pol,hash⟩ (.slice A1 ps.length c1) (.slice A2 gs.length c2) (.slice A3 rs.length c3):=fun W h=>⟨h.1.rd,aY.dh h.2.1,aY.dh h.2.2⟩
  have hO:=And.intro hO3 (And.intro hG3 Yk);unfold fc at IA;simp only at IA;generalize lO ⟨base,ver,ps,gs,hr,rs,hp,pol,hash⟩=RE at IA Hd;obtain⟨n1,hn1⟩:=bq ps.length;obtain⟨n2,hn2⟩:=bq gs.length;obtain⟨n3,hn3⟩:=bq rs.length;rw[←hn1,←hn2,←hn3]at IA hB3 hown hO;obtain⟨QX,mJ,Is,HO⟩:=cY IA hB3 hown hO;clear IA hB3 hown hO hdr HJ3 aaH hO3 hG3 Yk hn1 hn2 hn3;obtain⟨x0,x1,x2,x3,x4,x5,x6,x7,x8⟩:=oR mJ;go_upto_if 18 with(go_at_call 11;refine QX.out.mono ?_;rintro r w4⟨⟨t,e,hte,rfl⟩,d4⟩;obtain⟨Hte,Es,qT⟩:=bu hte (bJ mJ d4) (bJ fU d4);have HB4:=aZ HB3 d4;have wN:=ae (And.intro (HO.out.1.low d4) (And.intro (own_below HO.out.2.1 d4) (own_below HO.out.2.2 d4)));clear hte d4)
  clear x0 x1 x2 x3 x4 x5 x6 x7 x8 QX mJ fU HB3 HO;have fr:=fun i=>qT.out.frozen i
  obtain⟨z0,z1,z2,z3,z4,z5,z6,z7,z8⟩:=oR qT;by_cases hE:e=0
  ·have q:((e:Int) !=0)=false:=by simp[hE]
   have HE:=ae hE;clear hE;obtain⟨y0,y1,y2,y3,y4,y5,y6,y7,y8⟩:=oR Es;go_wp2_with fail
   refine bodyPost_ret (bD rfl rfl rfl (jD (jV qT.out (.int .u64 base) (.int .u64 ver) (.slice A1 n1 c1) (.slice A2 n2 c2) (.bool hr) (.slice A3 n3 c3) (.bool hp) (.string pol) (.string hash)))) rfl ?_;rw[Hd.out,if_pos (by rw[←Hte.out];exact HE.out)];exact⟨⟨.slice A1 n1 c1,.slice A2 n2 c2,.slice A3 n3 c3,rfl,Is.out _ (pQ (P:=P) (Q:=fun W=>cn W w2.heap.size (.slice A1 n1 c1) ps∧W.ownsRow w2.heap.size 9 1 (.slice A2 n2 c2) n2 (strCells gs)∧W.ownsRow w2.heap.size 57 6 (.slice A3 n3 c3) n3 (dQ rs)) (fun u i x h=>⟨h.1.far (k:=i) (u:=x) QW.out,aU (k:=i) (u:=x) h.2.1 QW.out,aU (k:=i) (u:=x) h.2.2 QW.out⟩) wN.out (.int .u64 base) (.int .u64 ver) (.slice A1 n1 c1) (.slice A2 n2 c2) (.bool hr) (.slice A3 n3 c3) (.bool hp) (.string pol) (.string hash))⟩,pQ (P:=P) (Q:=fun u=>aW w u) (fun u i x h=>h.setCell (p:=⟨P,i,none⟩) HGe.out x) HB4.out (.int .u64 base) (.int .u64 ver) (.slice A1 n1 c1) (.slice A2 n2 c2) (.bool hr) (.slice A3 n3 c3) (.bool hp) (.string pol) (.string hash)⟩
  ·have q:((e:Int) !=0)=true:=by simp;omega
   have HE:=ae (show¬RE.2=0 by rw[←Hte.out];exact hE);clear hE;go_wp2_with fail
   refine bodyPost_ret (bD rfl rfl rfl (jD (jV qT.out (.int .u64 0) (.int .u64 0) au au (.bool false) au (.bool false) aI aI))) rfl ?_;rw[Hd.out,if_neg HE.out,←Hte.out];exact⟨⟨au,au,au,rfl,nj _⟩,pQ (P:=P) (Q:=fun u=>aW w u) (fun u i x h=>h.setCell (p:=⟨P,i,none⟩) HGe.out x) HB4.out (.int .u64 0) (.int .u64 0) au au (.bool false) au (.bool false) aI aI⟩
theorem AtR.some_{l:List Pr}{key:ByteArray}{z:Int}(h:AtR l key z):(ox l key).isSome=decide (0≤z):=by
 rcases h with⟨rfl,h⟩|⟨k,hk,rfl,h⟩
 ·rw[h];rfl
 ·rw[h,decide_eq_true aQ];rfl
theorem LK{w:World}{pv:Value}{ps:List Pr}{g:Nat}(hp:dJ w pv ps)(hl:ps.length≤4000000)(hg:w.cell? ⟨g,1,none⟩=some pv)(k:ByteArray):Calls ah 59 #[.string k,.pointer (some ⟨g,0,none⟩)] w (Got (.bool (ox ps k).isSome) w):=by
 have ha:=pN hp hl k;obtain⟨A,c,e⟩:=hp.shape;subst e;generalize ps.length=NS at*;have HA:=ae ha;clear ha hp hl;go_enter Tryz.func59,Tryz.ntmps59;go_wp2_with(go_at_call 53;refine HA.out.mono ?_;rintro r w2⟨⟨z,rfl,hz⟩,d2⟩;have HZ:=ae hz;clear hz)
 go_ret;exact⟨by rw[HZ.out.some_];rfl,d2⟩
theorem LM{w:World}{sv gv:Value}{d:Dl}{g:Nat}(hp:dJ w sv d.aL)(hgo:aY w gv d.gone.length 1 (strCells d.gone))(hl:d.aL.length≤4000000)(hl2:d.gone.length≤4000000)(hg2:w.cell? ⟨g,2,none⟩=some sv)(hg3:w.cell? ⟨g,3,none⟩=some gv)(key:ByteArray)(c1 c2 c3 c4 c5 c6 c7:Value){p:Pr}(hk:p.key=key):Calls ah 62 #[.agg #[.string key,c1,c2,c3,c4,c5,c6,c7],.pointer (some ⟨g,0,none⟩)] w (Got (.bool (!stays d p)) w):=by
 have ha:=fun u(hu:aW w u)=>pN (hp.below hu) hl key
 have hc:=fun u(hu:aW w u)=>ZJ d.gone hl2 (hgo.below hu) key
 have hR:(!stays d p)=((d.gone.any fun y=>decide (y=key))||(ox d.aL key).isSome):=by
  unfold stays;rw[hk];cases(d.gone.any fun y=>decide (y=key))<;>cases ox d.aL key<;>rfl
 rw[hR];obtain⟨A,c,e⟩:=hp.shape;obtain⟨A2,cc2,e2⟩:=hgo.shape;subst e e2;generalize d.aL.length=NS at*;generalize d.gone.length=NG at*;generalize(d.gone.any fun y=>decide (y=key))=GA at hc⊢;have hb:=boxed w (.cells #[.string key,c1,c2,c3,c4,c5,c6,c7] 50);have HS:=ae (aG.new w 50 #[.string key,c1,c2,c3,c4,c5,c6,c7]);have g2:=ak hg2 hb;have g3:=ak hg3 hb;obtain⟨HB,HA,HC⟩:=bu hb ha hc;clear ha hc hp hgo hl hl2 hg2 hg3 hb hR hk;go_enter Tryz.func62,Tryz.ntmps62;go_upto_region 1 with fail
 generalize w.alloc (.cells #[.string key,c1,c2,c3,c4,c5,c6,c7] 50)=w1 at HB HS g2 g3⊢;generalize w.heap.size=G at HS⊢;have s0:=HS.out.cell 0;simp at s0;cases GA with
 |true=>
  go_wp2_with(go_at_call 63;refine(HC.out _ HB.out).mono ?_;rintro r w2⟨rfl,d2⟩)
  go_ret;exact⟨by simp,after HB.out d2⟩
 |false=>
  go_wp2_with(first
   |(go_at_call 63;refine(HC.out _ HB.out).mono ?_;rintro r w2⟨rfl,d2⟩;have HB2:=aZ HB d2;have HS2:=ae (bJ HS d2);have g2:=ak g2 d2;have s0:=HS2.out.cell 0;simp at s0;clear d2)
   |(go_at_call 53;refine(HA.out _ HB2.out).mono ?_;rintro r w3⟨⟨z,rfl,hz⟩,d3⟩;have HZ:=ae hz;clear hz))
  go_ret;exact⟨by rw[HZ.out.some_];simp,after HB2.out d3⟩
def Grew(w w':World):Prop:=∃(q:Nat)(os:Array Obj),w'=Sort.grow (w.drewN q) os
theorem Grew.below{w w':World}(h:Grew w w'):aW w w':=by
 obtain⟨q,os,rfl⟩:=h;exact⟨rfl,rfl,rfl,by simp[Sort.grow,World.drewN],fun k hk=>by simp[Sort.grow,World.drewN,Array.getElem?_append,hk]⟩
theorem Grew.alloc(w:World)(o:Obj):Grew w (w.alloc o):=⟨0,#[o],by rw[Sort.alloc_eq_grow];rfl⟩
theorem Grew.trans{a b c:World}(h:Grew a b)(k:Grew b c):Grew a c:=by
 obtain⟨q,os,rfl⟩:=h;obtain⟨q',os',rfl⟩:=k;exact⟨q+q',os++os',by simp[Sort.grow,World.drewN,Nat.add_assoc,Array.append_assoc]⟩
theorem Xg(w:World)(o o':Obj):Grew w ((w.alloc o).alloc o'):=(Grew.alloc w o).trans (Grew.alloc _ o')
def agV(v:Value)(w:World)(r:Ending)(w':World):Prop:=r=.returned v∧Grew w w'
section
variable{α:Type}(t:α→α→Bool)(j:α→α→α)
end
def Bm(xs:List Value)(j:Nat):List Value→List Value
 |[]=>xs
 |v::r=>Bm (xs.set j v) (j+1) r
theorem G9:∀(vs:List Value)(xs:List Value)(j t:Nat),(Bm xs j vs)[t]? =if j≤t∧t<j+vs.length∧t<xs.length then vs[t-j]? else xs[t]? :=by
 intro vs
 induction vs with
 |nil=>
  intro xs j t;rw[if_neg (by simp;omega)];rfl
 |cons v r ih=>
  intro xs j t;rw[Bm,ih,List.length_set,bO];by_cases h1:t=j
  ·subst h1;rw[if_neg aQ];by_cases h2:t<xs.length
   ·rw[List.getElem?_set_self h2,if_pos ⟨aA _,by omega,h2⟩,Nat.sub_self];rfl
   ·rw[if_neg aQ,uw (by rw[List.length_set];omega),uw aQ]
  ·rw[List.getElem?_set_ne (Ne.symm h1)];by_cases h2:j+1≤t∧t<j+1+r.length∧t<xs.length
   ·rw[if_pos h2,if_pos ⟨by omega,by omega,h2.2.2⟩,show t-j=(t-(j+1))+1 by omega];rfl
   ·rw[if_neg h2,if_neg aQ]
theorem RI{α:Type}(enc:α→List Value)(k:Nat)(hk:∀x,(enc x).length=k)(hk0:0<k)(l:List α){i:Nat}(hi:i<l.length)(x:α):Bm (l.flatMap enc) (i*k) (enc x)=(l.set i x).flatMap enc:=by
 have hlen:∀l:List α,(l.flatMap enc).length=l.length*k:=by
  intro l
  induction l with
  |nil=>simp
  |cons y r ih=>rw[abe,ai,ih,hk,bO,Nat.succ_mul,Nat.add_comm]
 have hb:i*k+k≤l.length*k:=by
  have:=Nat.mul_le_mul_right k (show i+1≤l.length from hi);rw[Nat.succ_mul]at this;exact this
 apply List.ext_getElem?;intro t;rw[G9,hk,hlen];by_cases ht:t<l.length*k
 ·have hq:t/k<l.length:=(Nat.div_lt_iff_lt_mul hk0).2 ht;have hr:t%k<k:=Nat.mod_lt _ hk0;have hdm:t/k*k+t%k=t:=by rw[Nat.mul_comm];exact Nat.div_add_mod t k
  have key:∀(m:List α)(y:α),m[t/k]? =some y→(m.flatMap enc)[t]? =(enc y)[t%k]? :=by
   intro m y hy;have h1:=aD enc k hk hy (af (show t%k<(enc y).length by rw[hk];exact hr));rw[hdm]at h1;rw[h1];exact(af (show t%k<(enc y).length by rw[hk];exact hr)).symm
  by_cases hti:t/k=i
  ·have h2:i*k≤t∧t<i*k+k∧t<l.length*k:=by rw[←hti];exact⟨by omega,by omega,ht⟩
   rw[if_pos h2,key (l.set i x) x (by rw[hti];exact List.getElem?_set_self hi)];congr 1;rw[←hti];omega
  ·have h2:¬(i*k≤t∧t<i*k+k∧t<l.length*k):=by
    rintro⟨h3,h4,_⟩;apply hti;exact Nat.div_eq_of_lt_le (by rw[Nat.mul_comm]at h3⊢;exact(by rw[Nat.mul_comm];rw[Nat.mul_comm]at h3;exact h3)) (by rw[Nat.succ_mul];exact h4)
   rw[if_neg h2,key l _ (af hq),key (l.set i x) l[t/k] (by rw[List.getElem?_set_ne (Ne.symm hti)];exact af hq)]
 ·rw[if_neg aQ,uw (by rw[hlen];omega),uw (by rw[hlen,List.length_set];omega)]
theorem Hf{base g cap n size:Nat}{e:TypeId}:∀(vs:List Value)(w:World)(j:Nat)(xs:List Value),w.ownsRow base e size (.slice (some ⟨g,0,none⟩) n cap) n xs→(w.setCells g j vs).ownsRow base e size (.slice (some ⟨g,0,none⟩) n cap) n (Bm xs j vs):=by
 intro vs
 induction vs with
 |nil=>intro w j xs h;exact h
 |cons v r ih=>intro w j xs h;exact ih _ _ _ (World.ownsRow.stored h j v).1
theorem uq{w:World}{base n cap size:Nat}{A:Option Addr}{e:TypeId}{xs:List Value}(h:w.ownsRow base e size (.slice A n cap) n xs)(hn:0<n):∃g,A=some ⟨g,0,none⟩∧base≤g∧g<w.heap.size∧∀j u,xs[j]? =some u→w.cell? ⟨g,j,none⟩=some u:=by
 have h0:=h;rcases h.2 with⟨e0,e1⟩|⟨g,cap',cur,e0,hb,hg,_⟩
 ·omega
 ·injection e0 with e0 e2 e3
  subst e0;refine⟨g,rfl,hb,(Array.getElem?_eq_some_iff.1 hg).1,fun j u hu=>?_⟩;have hj:=(List.getElem?_eq_some_iff.1 hu).1;rw[h0.1]at hj;rw[World.ownsRow.cellAt h0 j hj];exact hu
def N5(l:List Sp):List Value:=l.flatMap fun s=>s.cells.toList
end Go.Proofs.YtkjaajcpbldjoaaGreatDoor
namespace Go.Proofs
open YtkjaajcpbldjoaaGreatDoor
open Go.Shelf
def Tryz.sortPe_ren:Go.Shelf.Ren:=⟨fun|6=>65|15=>117|14=>116|28=>148|29=>149|20=>140|21=>141|22=>142|23=>143|24=>144|25=>145|26=>146|27=>147|46=>169|47=>170|48=>171|49=>172|50=>173|57=>196|n=>n,fun|22=>23|24=>50|25=>109|3=>3|39=>158|0=>0|53=>177|55=>22|4=>4|46=>185|45=>184|50=>189|5=>5|9=>9|66=>230|70=>233|76=>256|77=>257|n=>n,fun|n=>n⟩
theorem Tryz.sortPe:Go.Proofs.SlLaysF0.n6 ah Tryz.sortPe_ren:={
 mixed:=by kernel_rfl
 f6:=⟨Tryz.f65.name,by decide,Tryz.func65.trans (congrArg some bo)⟩
 f14:=⟨Tryz.f116.name,by decide,Tryz.func116.trans (congrArg some bo)⟩
 f15:=Tryz.func117.trans (congrArg some bo)
 f20:=⟨Tryz.f140.name,by decide,Tryz.func140.trans (congrArg some bo)⟩
 f21:=⟨Tryz.f141.name,by decide,Tryz.func141.trans (congrArg some bo)⟩
 f22:=⟨Tryz.f142.name,by decide,Tryz.func142.trans (congrArg some bo)⟩
 f23:=⟨Tryz.f143.name,by decide,Tryz.func143.trans (congrArg some bo)⟩
 f24:=⟨Tryz.f144.name,by decide,Tryz.func144.trans (congrArg some bo)⟩
 f25:=⟨Tryz.f145.name,by decide,Tryz.func145.trans (congrArg some bo)⟩
 f26:=⟨Tryz.f146.name,by decide,Tryz.func146.trans (congrArg some bo)⟩
 f27:=⟨Tryz.f147.name,by decide,Tryz.func147.trans (congrArg some bo)⟩
 f28:=Tryz.func148.trans (congrArg some bo)
 f29:=Tryz.func149.trans (congrArg some bo)
 f46:=⟨Tryz.f169.name,by decide,Tryz.func169.trans (congrArg some bo)⟩
 f47:=Tryz.func170.trans (congrArg some bo)
 f48:=Tryz.func171.trans (congrArg some bo)
 f49:=⟨Tryz.f172.name,by decide,Tryz.func172.trans (congrArg some bo)⟩
 f50:=⟨Tryz.f173.name,by decide,Tryz.func173.trans (congrArg some bo)⟩
 f57:=⟨Tryz.f196.name,by decide,Tryz.func196.trans (congrArg some bo)⟩
 t0:=Tryz.underlying0
 a0:=Tryz.isAgg0
 z0:=Tryz.sizeOf0
 v0:=Tryz.zeroValue0
 t3:=Tryz.underlying3
 a3:=Tryz.isAgg3
 z3:=Tryz.sizeOf3
 v3:=Tryz.zeroValue3
 t4:=Tryz.underlying4
 a4:=Tryz.isAgg4
 z4:=Tryz.sizeOf4
 v4:=Tryz.zeroValue4
 t5:=cB
 a5:=Tryz.isAgg5
 z5:=Tryz.sizeOf5
 v5:=Tryz.zeroValue5
 t9:=bn
 a9:=Tryz.isAgg9
 z9:=Tryz.sizeOf9
 v9:=Tryz.zeroValue9
 t22:=ahV
 a22:=Tryz.isAgg23
 z22:=Tryz.sizeOf23
 v22:=Tryz.zeroValue23
 t25:=Tryz.underlying109
 a25:=Tryz.isAgg109
 z25:=Tryz.sizeOf109
 v25:=Tryz.zeroValue109
 t39:=Tryz.underlying158
 a39:=Tryz.isAgg158
 z39:=Tryz.sizeOf158
 v39:=Tryz.zeroValue158
 t45:=Tryz.underlying184
 a45:=Tryz.isAgg184
 z45:=Tryz.sizeOf184
 v45:=Tryz.zeroValue184
 t46:=Tryz.underlying185
 a46:=Tryz.isAgg185
 z46:=Tryz.sizeOf185
 v46:=Tryz.zeroValue185
 t50:=Tryz.underlying189
 a50:=Tryz.isAgg189
 z50:=Tryz.sizeOf189
 v50:=Tryz.zeroValue189
 t53:=Tryz.underlying177
 a53:=Tryz.isAgg177
 z53:=Tryz.sizeOf177
 v53:=Tryz.zeroValue177
 t55:=Tryz.underlying22
 a55:=Tryz.isAgg22
 z55:=Tryz.sizeOf22
 v55:=Tryz.zeroValue22
 t66:=Tryz.underlying230
 a66:=Tryz.isAgg230
 z66:=Tryz.sizeOf230
 v66:=Tryz.zeroValue230
 t70:=Tryz.underlying233
 a70:=Tryz.isAgg233
 z70:=Tryz.sizeOf233
 v70:=Tryz.zeroValue233
 t76:=Tryz.underlying256
 a76:=Tryz.isAgg256
 z76:=Tryz.sizeOf256
 v76:=Tryz.zeroValue256
 t77:=Tryz.underlying257
 a77:=Tryz.isAgg257
 z77:=Tryz.sizeOf257
 v77:=Tryz.zeroValue257}
end Go.Proofs
namespace Go.Proofs.YtkjaajcpbldjoaaGreatDoor
open Go.RowKit Go.Shelf Go.Sort
theorem uu{α:Type}(cells:α→List Value)(size:Nat)(hc:∀x,(cells x).length=size)(l:List α):(l.flatMap cells).length=l.length*size:=by
 induction l with
 |nil=>simp
 |cons x r ih=>rw[abe,ai,ih,hc,bO,Nat.succ_mul,Nat.add_comm]
section
variable{α:Type}[Inhabited α](enc:α→List Value)(k:Nat)(hk:∀x,(enc x).length=k)
include hk in
theorem yW(hk0:0<k)(d:Array α):(flatK enc k d).toList=d.toList.flatMap enc:=by
 apply List.ext_getElem?;intro j;by_cases hj:j<d.size*k
 ·have hq:j/k<d.size:=(Nat.div_lt_iff_lt_mul hk0).2 hj;have hr:j%k<k:=Nat.mod_lt _ hk0;have hx:d.toList[j/k]? =some d[j/k]! :=by
   rw[ahD,kt hq,getElem!_pos d _ hq]
  have hu:∀X:α,(enc X)[j%k]? =some (enc X)[j%k]! :=by
   intro X;have hX:j%k<(enc X).length:=by rw[hk];exact hr
   rw[af hX,getElem!_pos (enc X) (j%k) hX]
  have h1:=aD enc k hk hx (hu _);rw[Nat.mul_comm,Nat.div_add_mod]at h1;rw[h1,ahD,kt (by rw[size_flatK];exact hj),←getElem!_pos (flatK enc k d) j (by rw[size_flatK];exact hj),get_flatK enc k d j hj]
 ·rw[uw (by rw[eB,size_flatK];omega),uw (by rw[uu enc k hk,eB];omega)]
include hk in
theorem RJ(hk0:0<k){w:World}{base g n cap:Nat}{e:TypeId}{l:List α}(h:w.ownsRow base e k (.slice (some ⟨g,0,none⟩) n cap) n (l.flatMap enc))(hl:l.length=n):HoldsK enc k w g 0 l.toArray∧g<w.heap.size∧base≤g:=by
 rcases h.2 with⟨e0,_⟩|⟨g',cap',cur,e0,hb,hg,h1,h2,h3,h4⟩
 ·cases e0
 ·injection e0 with e0 _ _
  injection e0 with e0
  injection e0 with e0
  subst e0;refine⟨fun j hj=>?_,(Array.getElem?_eq_some_iff.1 hg).1,hb⟩;rw[size_flatK,abd,hl]at hj;have hF:=yW enc k hk hk0 l.toArray;have hz:j<(flatK enc k l.toArray).size:=by rw[size_flatK,abd,hl];exact hj
  have hc:cur[j]? =some (flatK enc k l.toArray)[j]! :=by
   have e:(flatK enc k l.toArray)[j]? =(l.flatMap enc)[j]? :=(ahD).symm.trans (by rw[hF]);rw[getElem!_pos (flatK enc k l.toArray) j hz,←kt hz,e,←h4,ahO,if_pos hj,ahD]
  constructor
  ·unfold World.cell?;simp only[hg];rw[if_neg (by simp)];show cur[0+j]? =_;rw[Nat.zero_add,hc];rfl
  ·exact World.ownsRow.frozenAt h _
include hk in
theorem LQ(hk0:0<k){w:World}{base g n cap:Nat}{e:TypeId}{l:List α}(h:w.ownsRow base e k (.slice (some ⟨g,0,none⟩) n cap) n (l.flatMap enc))(d:Array α)(hd:d.size=n)(m:Nat)(os:Array Obj):(sortWorldK enc k w g 0 m d os).ownsRow base e k (.slice (some ⟨g,0,none⟩) n cap) n (d.toList.flatMap enc)∧Below base w (sortWorldK enc k w g 0 m d os):=by
 rcases h.2 with⟨e0,_⟩|⟨g',cap',cur,e0,hb,hg,h1,h2,h3,h4⟩
 ·cases e0
 ·injection e0 with e0 _ e3
  injection e0 with e0
  injection e0 with e0
  subst e0 e3;have hgs:=(Array.getElem?_eq_some_iff.1 hg).1;have hF:=yW enc k hk hk0 d;have hFs:(flatK enc k d).size=n*k:=by rw[size_flatK,hd]
  have hnc:n*k≤cap*k:=Nat.mul_le_mul_right k h1;refine⟨⟨by rw[uu enc k hk,eB,hd],.inr ⟨g,cap,putCells id 0 (flatK enc k d) cur,rfl,hb,?_,h1,h2,?_,?_⟩⟩,?_⟩
  ·unfold sortWorldK putRowK putRow mapBlock Sort.grow Sort.ahead;simp only;rw[Array.getElem?_append_left (by rw[Array.size_modify];exact hgs),Array.getElem?_modify,if_pos rfl,hg];rfl
  ·unfold putCells;rw[Array.size_mapIdx];exact h3
  ·apply List.ext_getElem?;intro j;rw[ahO];by_cases hj:j<n*k
   ·have hjc:j<cur.size:=by omega
    rw[if_pos hj,←hF,ahD,ahD];unfold putCells;rw[Array.getElem?_mapIdx,kt hjc,Option.map_some,if_pos ⟨Nat.zero_le _,by omega⟩,kt (by rw[hFs];exact hj),Nat.sub_zero,getElem!_pos _ _ (by rw[hFs];exact hj)];rfl
   ·rw[if_neg hj,uw (by rw[uu enc k hk,eB,hd];omega)]
  ·refine⟨rfl,rfl,rfl,?_,fun q hq=>?_⟩
   ·unfold sortWorldK putRowK putRow mapBlock Sort.grow Sort.ahead;simp
   ·unfold sortWorldK putRowK putRow mapBlock Sort.grow Sort.ahead;simp only;rw[Array.getElem?_append_left (by rw[Array.size_modify];omega),Array.getElem?_modify,if_neg aQ]
end
theorem Hh{α:Type}[Inhabited α]{lt:α→α→Bool}{l:List α}{d:Array α}(hp:PermIn 0 l.toArray.size l.toArray d)(hs:SortedIn lt 0 l.toArray.size d):d.toList.Perm l∧d.toList.Pairwise fun x y=>lt y x=false:=by
 obtain⟨h1,_,h3⟩:=hp;constructor
 ·have e1:(d.extract 0 l.toArray.size).toList=d.toList:=by rw[←h1,Array.extract_size]
  have e2:(l.toArray.extract 0 l.toArray.size).toList=l:=by rw[Array.extract_size]
  rw[e1,e2]at h3;exact h3
 ·rw[List.pairwise_iff_getElem];intro i j hi hj hij;have hj':j<d.size:=by simpa using hj
  have hi':i<d.size:=by simpa using hi
  have:=hs i j (Nat.zero_le _) hij (by rw[←h1];exact hj');rw[getElem!_pos d _ hj',getElem!_pos d _ hi']at this;simpa using this
instance:Inhabited Ad:=⟨⟨false,0,0⟩⟩
attribute [local go_sem↓] Go.wp_at_zero Go.wp_at_succ
theorem Xh{w:World}{base g n cap size:Nat}{e:TypeId}{xs:List Value}(h:w.ownsRow base e size (.slice (some ⟨g,0,none⟩) n cap) n xs){i:Nat}(hi:i≤n):w.ownsRow base e size (.slice (some ⟨g,0,none⟩) i cap) i (xs.take (i*size)):=by
 have hs:i*size≤n*size:=Nat.mul_le_mul_right _ hi;obtain⟨h1,h2⟩:=h;refine⟨by rw[zc,h1];omega,?_⟩;rcases h2 with⟨e0,_⟩|⟨g',cap',cur,e0,hb,hg,c1,c2,c3,c4⟩
 ·cases e0
 ·injection e0 with e0 _ e3
  subst e3;refine .inr ⟨g',cap,cur,by rw[e0],hb,hg,by omega,c2,c3,?_⟩;rw[←c4,List.take_take];congr 1;omega
theorem LV:∀(vs:List Value)(xs:List Value)(j:Nat),(Bm xs j vs).take j=xs.take j:=by
 intro vs xs j;apply List.ext_getElem?;intro t;rw[ahO,ahO];split
 ·rw[G9,if_neg aQ]
 ·rfl
theorem aaI{w:World}{base g n cap size:Nat}{e:TypeId}{xs:List Value}(h:w.ownsRow base e size (.slice (some ⟨g,0,none⟩) n cap) n xs):n≤cap:=by
 rcases h.2 with⟨e0,_⟩|⟨g',cap',cur,e0,_,_,c1,_⟩
 ·cases e0
 ·injection e0 with _ _ e3
  omega
structure oD(l:List Sp)(i j:Nat)(L:List Sp):Prop where
 ij:i<j
 jn:j≤l.length
 len:L.length=l.length
 head:L.take i=(l.take j).filter xU
 tail:L.drop j=l.drop j
theorem oD.start{l:List Sp}{k:Nat}{x:Sp}(hx:l[k]? =some x)(hd:xU x=false)(hn:∀j y,j<k→l[j]? =some y→xU y=true):oD l k (k+1) l:=by
 have hk:=(List.getElem?_eq_some_iff.1 hx).1;refine⟨oL k,hk,rfl,?_,rfl⟩;rw[aB hk,ahG,(List.getElem?_eq_some_iff.1 hx).2];have h1:(l.take k).filter xU=l.take k:=by
  rw[List.filter_eq_self];intro y hy;obtain⟨j,hj⟩:=List.getElem?_of_mem hy;rw[ahO]at hj;split at hj
  ·next hjk=>exact hn j y hjk hj
  ·cases hj
 rw[h1,List.filter_cons_of_neg (by rw[hd];decide),ahY,dP]
theorem oD.at_{l L:List Sp}{i j:Nat}(h:oD l i j L){x:Sp}(hx:l[j]? =some x):L[j]? =some x:=by
 have e:(L.drop j)[0]? =(l.drop j)[0]? :=by rw[h.tail]
 rw[List.getElem?_drop,List.getElem?_drop,b8]at e;rw[e,hx]
theorem oD.skip{l L:List Sp}{i j:Nat}(h:oD l i j L){x:Sp}(hx:l[j]? =some x)(hd:xU x=false):oD l i (j+1) L:=by
 have hj:=(List.getElem?_eq_some_iff.1 hx).1;refine⟨by have:=h.ij;omega,hj,h.len,?_,?_⟩
 ·rw[h.head,aB hj,ahG,(List.getElem?_eq_some_iff.1 hx).2,List.filter_cons_of_neg (by rw[hd];decide),ahY,dP]
 ·rw[←ahW,←ahW,h.tail]
theorem oD.keep{l L:List Sp}{i j:Nat}(h:oD l i j L){x:Sp}(hx:l[j]? =some x)(hd:xU x=true):oD l (i+1) (j+1) (L.set i x):=by
 have hj:=(List.getElem?_eq_some_iff.1 hx).1;have hij:=h.ij;have hil:i<L.length:=by rw[h.len];omega
 refine⟨by omega,hj,by rw[List.length_set,h.len],?_,?_⟩
 ·rw[aB hj,ahG,(List.getElem?_eq_some_iff.1 hx).2,List.filter_cons_of_pos hd,ahY,←h.head];rw[aB (by rw[List.length_set];exact hil),List.getElem_set_self];congr 1;rw[List.take_set_of_le (aA _)]
 ·rw[List.drop_set_of_lt aQ,←ahW,←ahW,h.tail]
theorem oD.done{l L:List Sp}{i:Nat}(h:oD l i l.length L):L.take i=l.filter xU:=by
 rw[h.head,aJ (aA _)]
theorem aaJ:∀(l:List bU)(k:Nat),cZ (l.take k)=(cZ l).take (k*8):=by
 intro l
 induction l with
 |nil=>intro k;simp[cZ]
 |cons x r ih=>
  intro k;cases k with
  |zero=>simp[cZ]
  |succ k=>
   have e1:cZ (x::r)=x.vals++cZ r:=rfl;have e2:cZ ((x::r).take (k+1))=x.vals++cZ (r.take k):=rfl;rw[e1,e2,ih,show(k+1)*8=x.vals.length+k*8 by rw[aC];omega,List.take_length_add_append]
def oe(n:Nat):List Value:=(Builtin.zeroCells #[aI,aI,aI,au,au,.int .u64 0,.int .u8 0,au] n).toList
theorem Xi(w:World):(zeroValue 50).run ah w=.ok (.agg #[aI,aI,aI,au,au,.int .u64 0,.int .u8 0,au]) w:=by kernel_rfl
theorem LW(n:Nat):(oe n).length=n*8:=by simp[oe,Builtin.zeroCells]
theorem LX(n:Nat):∀v∈oe n,v.oneCell'=true:=by
 intro v hv;unfold oe Builtin.zeroCells at hv;rw[Array.toList_map]at hv;obtain⟨i,_,rfl⟩:=List.mem_map.1 hv;have:i%8<8:=Nat.mod_lt _ aH;show((#[aI,aI,aI,au,au,.int .u64 0,.int .u8 0,au]:Array Value)[i%8]!).oneCell'=true;generalize i%8=r at this
 match r,this with
 |0,_=>rfl
 |1,_=>rfl
 |2,_=>rfl
 |3,_=>rfl
 |4,_=>rfl
 |5,_=>rfl
 |6,_=>rfl
 |7,_=>rfl
theorem Xj(ty:TypeId){w:World}{base g n cap:Nat}{xs:List Value}(h:w.ownsRow base 50 8 (.slice (some ⟨g,0,none⟩) n cap) n xs){i m c:Nat}(hn:n=i+(m+1)):(Builtin.clear_ #[23] ty #[.slice (some ⟨g,i*8,none⟩) (m+1) c]).run ah w=.ok (.tuple #[]) (w.setCells g (i*8) (oe (m+1))):=by
 have hst:=run_storeCells_cells (P:=ah) g (i*8) (oe (m+1)) 0 w (fun j hj=>?_) (fun j hj=>World.ownsRow.frozenAt h _) (LX _)
 ·simp only[b8]at hst;have hv:=Xi;unfold oe at hst⊢;simp[Builtin.clear_,run_underlying ahV,hv,Value.cells,hst]
 ·rw[LW]at hj;have hj2:i*8+0+j<n*8:=by rw[hn];omega
  rw[World.ownsRow.cellAt h _ hj2,af (by rw[h.1];exact hj2)];rfl
structure sT{α:Type}(t:α→Bool)(l:List α)(i j:Nat)(L:List α):Prop where
 ij:i<j
 jn:j≤l.length
 len:L.length=l.length
 head:L.take i=(l.take j).filter t
 tail:L.drop j=l.drop j
section
variable{α:Type}{t:α→Bool}
theorem sT.start{l:List α}{k:Nat}{x:α}(hx:l[k]? =some x)(hd:t x=false)(hn:∀j y,j<k→l[j]? =some y→t y=true):sT t l k (k+1) l:=by
 have hk:=(List.getElem?_eq_some_iff.1 hx).1;refine⟨oL k,hk,rfl,?_,rfl⟩;rw[aB hk,ahG,(List.getElem?_eq_some_iff.1 hx).2];have h1:(l.take k).filter t=l.take k:=by
  rw[List.filter_eq_self];intro y hy;obtain⟨j,hj⟩:=List.getElem?_of_mem hy;rw[ahO]at hj;split at hj
  ·next hjk=>exact hn j y hjk hj
  ·cases hj
 rw[h1,List.filter_cons_of_neg (by rw[hd];decide),ahY,dP]
theorem sT.at_{l L:List α}{i j:Nat}(h:sT t l i j L){x:α}(hx:l[j]? =some x):L[j]? =some x:=by
 have e:(L.drop j)[0]? =(l.drop j)[0]? :=by rw[h.tail]
 rw[List.getElem?_drop,List.getElem?_drop,b8]at e;rw[e,hx]
theorem sT.skip{l L:List α}{i j:Nat}(h:sT t l i j L){x:α}(hx:l[j]? =some x)(hd:t x=false):sT t l i (j+1) L:=by
 have hj:=(List.getElem?_eq_some_iff.1 hx).1;refine⟨by have:=h.ij;omega,hj,h.len,?_,?_⟩
 ·rw[h.head,aB hj,ahG,(List.getElem?_eq_some_iff.1 hx).2,List.filter_cons_of_neg (by rw[hd];decide),ahY,dP]
 ·rw[←ahW,←ahW,h.tail]
theorem sT.keep{l L:List α}{i j:Nat}(h:sT t l i j L){x:α}(hx:l[j]? =some x)(hd:t x=true):sT t l (i+1) (j+1) (L.set i x):=by
 have hj:=(List.getElem?_eq_some_iff.1 hx).1;have hij:=h.ij;have hil:i<L.length:=by rw[h.len];omega
 refine⟨by omega,hj,by rw[List.length_set,h.len],?_,?_⟩
 ·rw[aB hj,ahG,(List.getElem?_eq_some_iff.1 hx).2,List.filter_cons_of_pos hd,ahY,←h.head];rw[aB (by rw[List.length_set];exact hil),List.getElem_set_self];congr 1;rw[List.take_set_of_le (aA _)]
 ·rw[List.drop_set_of_lt aQ,←ahW,←ahW,h.tail]
theorem sT.done{l L:List α}{i:Nat}(h:sT t l i l.length L):L.take i=l.filter t:=by
 rw[h.head,aJ (aA _)]
end
theorem rC{K:Nat→Prop}{g:Nat}{a:World}(hg:K g):∀(vs:List Value)(w:World)(j:Nat),Keeps K a w→Keeps K a (w.setCells g j vs)
 |[],_,_,h=>h
 |v::vs,w,j,h=>rC hg vs _ _ (h.setCell (p:=⟨g,j,none⟩) (Or.inl hg) v)
theorem RN{w:World}{base:Nat}{v:Value}(xs:List bU)(hl:xs.length≤4000000)(how:w.ownsRow base 50 8 v xs.length (cZ xs))(hm:∀X∈xs,fC w X)(t:bU→Bool)(f:Nat)(lb:Array Value)(eg:∀args w,(callFunc f args).run ah w=.ok (.enter f args) w)(hf:∀W,Keeps (fun x=>v.ownBlock=some x) w W→∀X∈xs,Calls ah f (#[.agg X.vals.toArray]++lb) W (Got (.bool (!t X)) W)):Calls ah 61 #[v,.func (.func f) #[] lb] w fun r w'=>(∃A n c,r=.returned (.slice A n c)∧n=(xs.filter t).length∧w'.ownsRow base 50 8 (.slice A n c) n (cZ (xs.filter t))∧(.slice A n c:Value).ownBlock=v.ownBlock)∧Keeps (fun x=>v.ownBlock=some x) w w':=by
 obtain⟨A,cap,rfl⟩:=aV how;have hix:=Dj (aY.dh how) hl (fun X=> !t X) f lb eg (fun W hW X hX=>hf W (Keeps.of_below hW fun _ h _=>h) X hX);obtain⟨N,hN⟩:=bq xs.length;rw[←hN]at hix hl how hf⊢;obtain⟨HIx,HF,Is,HN,HM⟩:=ej hix hf how hN hm;clear hix hf how hN hm;go_enter Tryz.func61,Tryz.ntmps61;go_upto_region 2 with(go_at_call 105;refine HIx.out.mono ?_;rintro r w1⟨⟨z,rfl,hz⟩,d1⟩)
 obtain⟨adv,D1⟩:=aN (own_below Is.out d1) d1;clear HIx Is d1;rcases hz with⟨k,hk,rfl,hp,hno⟩|⟨rfl,hno⟩
 ·have hkl:k<xs.length:=by have:=HN.out;omega
  have hxk:xs[k]? =some xs[k]:=af hkl;simp only[hxk]at hp;have hD:=sT.start (t:=t) hxk (by simpa using hp) (fun j y hj hy=>by have:=hno j hj;simp only[hy]at this;simpa using this);have HD:=ae hD;have q0:((k:Int)== -1)=false:=by rw[beq_eq_false_iff_ne];omega
  obtain⟨g,rfl,hbg,hgl,_⟩:=uq adv.out aQ;have K1:=ae (Keeps.of_below (S:=(fun x=>(dq (some ⟨g,0,none⟩) N cap).ownBlock=some x)) D1.out fun _ h _=>h);clear hp hno hxk hD hgl D1;go_wp2_with fail
  clear q0;go_loopw [5,6] (fun v5 v6 wr=>∃(i j:Nat)(L:List bU),j≤N∧i<j∧v5=.int .i64 i∧v6=.int .i64 j∧ag (sT t xs i j L)∧ag (wr.ownsRow base 50 8 (.slice (some ⟨g,0,none⟩) N cap) N (cZ L))∧ag (Keeps (fun x=>(dq (some ⟨g,0,none⟩) N cap).ownBlock=some x) w wr)) (fun _ v6 _=>N-(intOf v6).toNat)
  case atStart=>exact⟨k,k+1,xs,hk,oL k,rfl,by go_num,HD,adv,K1⟩
  case round=>
   obtain⟨i,j,L,hj,hij,rfl,rfl,hd,how,hb⟩:=hrel;obtain⟨wo,rfl⟩:=bq (wr:World);by_cases hlt:j<N
   ·have hjl:j<xs.length:=by have:=HN.out;omega
    have hXj:xs[j]? =some xs[j]:=af hjl;have hXm:=List.getElem_mem hjl;have hmX:=HM.out _ hXm;generalize xs[j]=X at hXj hXm hmX;have hcall:=fun W hW=>HF.out W hW X hXm
    have hLj:=hd.out.at_ hXj;have hLl:L.length=N:=by rw[hd.out.len,←HN.out]
    obtain⟨g',e',_,hgl,hyc⟩:=uq how.out aQ;injection e' with e'
    injection e' with e'
    subst e';have hse:=RI bU.vals 8 aC aH L (i:=i) aQ X;obtain⟨B,hB⟩:=bq (t X);rw[←hB]at hcall;have hkeep:=fun h=>hd.out.keep hXj h
    have Xk:=fun h=>hd.out.skip hXj h
    rw[←hB]at hkeep Xk;obtain⟨XX,hXX⟩:=bq X;rw[←hXX]at hkeep hse;obtain⟨afu,afv,HXX⟩:=bu hkeep Xk hXX;have d0:=hyc _ _ (aD bU.vals 8 aC hLj (r:=0) rfl);have d1:=hyc _ _ (aD bU.vals 8 aC hLj (r:=1) rfl);have d2:=hyc _ _ (aD bU.vals 8 aC hLj (r:=2) rfl);have d3:=hyc _ _ (aD bU.vals 8 aC hLj (r:=3) rfl);have d4:=hyc _ _ (aD bU.vals 8 aC hLj (r:=4) rfl);have d5:=hyc _ _ (aD bU.vals 8 aC hLj (r:=5) rfl);have d6:=hyc _ _ (aD bU.vals 8 aC hLj (r:=6) rfl);have d7:=hyc _ _ (aD bU.vals 8 aC hLj (r:=7) rfl);obtain⟨A1,c1,e1⟩:=hmX.tags.shape;obtain⟨A2,c2,e2⟩:=hmX.aR.shape;obtain⟨A3,c3,e3⟩:=hmX.ends.shape;clear hmX hLj;obtain⟨⟨key,bw,user,tags,aR,ex,bm,ends⟩,tv,av,ev⟩:=X;simp only at e1 e2 e3 d0 d1 d2 d3 d4 d5 d6 d7;subst e1 e2 e3;unfold bU.vals at hcall;simp only at hcall;rw[b8]at d0;have hvl:XX.vals=[.string key,.string bw,.string user,.slice A1 tags.length c1,.slice A2 aR.length c2,.int .u64 ex,.int .u8 bm,.slice A3 ends.length c3]:=by rw[hXX];rfl
    generalize tags.length=n1 at hcall d3 hvl;generalize aR.length=n2 at hcall d4 hvl;generalize ends.length=n3 at hcall d7 hvl;obtain⟨bI,Ue,HVl⟩:=bu hcall hse hvl;have hLc:=hLl;clear hyc hse hkeep Xk hcall hB hXX hXj hXm hd hvl;go_upto_region 8 with fail
    have hbx:=boxed wo (.cells #[.string key,.string bw,.string user,.slice A1 n1 c1,.slice A2 n2 c2,.int .u64 ex,.int .u8 bm,.slice A3 n3 c3] 50);obtain⟨HX,aaK,hb5⟩:=bu (aG.new wo 50 #[.string key,.string bw,.string user,.slice A1 n1 c1,.slice A2 n2 c2,.int .u64 ex,.int .u8 bm,.slice A3 n3 c3]) (own_below how.out hbx) (hb.out.than hbx);clear d0 d1 d2 d3 d4 d5 d6 d7 how hb hbx;generalize wo.alloc (.cells #[.string key,.string bw,.string user,.slice A1 n1 c1,.slice A2 n2 c2,.int .u64 ex,.int .u8 bm,.slice A3 n3 c3] 50)=w5 at HX aaK hb5⊢;generalize wo.heap.size=XB at HX hgl⊢;obtain⟨a0,a1,a2,a3,a4,a5,a6,a7⟩:=dA HX;cases B with
    |false=>
     have HNx:=ae (afv.out rfl);go_wp2_with(go_at_fn f;(with_reducible refine(bI.out _ hb5.out).mono ?_);rintro r w6⟨rfl,d6⟩)
     go_roundw
     case rel=>exact⟨i,j+1,L,by omega,by omega,rfl,by go_num,HNx,ae (own_below aaK.out d6),ae (hb5.out.than d6)⟩
     case measure=>simp[intOf];omega
    |true=>
     have HNx:=ae (afu.out rfl);go_upto_region 9 with(go_at_fn f;(with_reducible refine(bI.out _ hb5.out).mono ?_);rintro r w6⟨rfl,d6⟩)
     obtain⟨adw,hb6⟩:=aN (own_below aaK.out d6) (hb5.out.than d6)
     replace a0:=ak a0 d6
     replace a1:=ak a1 d6
     replace a2:=ak a2 d6
     replace a3:=ak a3 d6
     replace a4:=ak a4 d6
     replace a5:=ak a5 d6
     replace a6:=ak a6 d6
     replace a7:=ak a7 d6
     clear d6 aaK hb5 HX;have hiN:i<N:=by omega
     have z:=fun t(ht:t<8)=>World.ownsRow.cellAt adw.out (i*8+t) (by omega)
     have hv:∀r u,((L[i]' aQ).vals)[r]? =some u→(cZ L)[i*8+r]? =some u:=fun r u hu=>aD bU.vals 8 aC (af (show i<L.length by omega)) hu
     generalize L[i]=Z at hv;have z0:w6.cell? ⟨g,i*8+0,none⟩=some (.string Z.p.key):=(z 0 aH).trans (hv 0 _ rfl);have z1:w6.cell? ⟨g,i*8+1,none⟩=some (.string Z.p.bw):=(z 1 aH).trans (hv 1 _ rfl);have z2:w6.cell? ⟨g,i*8+2,none⟩=some (.string Z.p.user):=(z 2 aH).trans (hv 2 _ rfl);have z3:w6.cell? ⟨g,i*8+3,none⟩=some (Z.tv):=(z 3 aH).trans (hv 3 _ rfl);have z4:w6.cell? ⟨g,i*8+4,none⟩=some (Z.av):=(z 4 aH).trans (hv 4 _ rfl);have z5:w6.cell? ⟨g,i*8+5,none⟩=some (.int .u64 (Z.p.exp:Int)):=(z 5 aH).trans (hv 5 _ rfl);have z6:w6.cell? ⟨g,i*8+6,none⟩=some (.int .u8 (Z.p.bm:Int)):=(z 6 aH).trans (hv 6 _ rfl);have z7:w6.cell? ⟨g,i*8+7,none⟩=some (Z.ev):=(z 7 aH).trans (hv 7 _ rfl);have f:=fun t=>World.ownsRow.frozenAt adw.out (i*8+t)
     have f0:=f 0;have f1:=f 1;have f2:=f 2;have f3:=f 3;have f4:=f 4;have f5:=f 5;have f6:=f 6;have f7:=f 7;simp only[b8]at z0 f0;have Xl:=ae (Hf [.string key,.string bw,.string user,.slice A1 n1 c1,.slice A2 n2 c2,.int .u64 ex,.int .u8 bm,.slice A3 n3 c3] w6 (i*8) _ adw.out);have hb8:=ae (rC (K:=(fun x=>(dq (some ⟨g,0,none⟩) N cap).ownBlock=some x)) (g:=g) rfl [.string key,.string bw,.string user,.slice A1 n1 c1,.slice A2 n2 c2,.int .u64 ex,.int .u8 bm,.slice A3 n3 c3] w6 (i*8) hb6.out);clear z f hv;go_wp2_with fail
     go_roundw
     case rel=>
      refine⟨i+1,j+1,L.set i XX,by omega,by omega,by go_num,by go_num,HNx,ae ?_,hb8⟩;have h8:=Xl.out;have h9:=Ue.out;rw[HVl.out]at h9;rw[show cZ L=L.flatMap bU.vals from rfl,h9]at h8;exact h8
     case measure=>simp[intOf];omega
   ·obtain rfl:j=N:=by omega
    have hdone:=hd.out;rw[HN.out]at hdone;have hD:=hdone.done;have hLl:L.length=j:=by rw[hd.out.len,←HN.out]
    obtain⟨m,hm⟩:∃m,j-i=m+1:=⟨j-i-1,by omega⟩;have ahv:=fun ty c=>Xj ty how.out (i:=i) (m:=m) (c:=c) (by omega)
    have hcap:=aaI how.out;have Xl:=Xh (Hf (oe (m+1)) _ (i*8) _ how.out) (show i≤j by omega);rw[LV,←aaJ,hD]at Xl;have hb8:=rC (K:=(fun x=>(dq (some ⟨g,0,none⟩) j cap).ownBlock=some x)) (g:=g) rfl (oe (m+1)) _ (i*8) hb.out;have hil:(xs.filter t).length=i:=by rw[←hD,zc,hLl];omega
    obtain⟨agW,Hb8,HIL⟩:=bu Xl hb8 hil;clear hdone hD hLl Xl hb8 hil hd how hb;go_wp2_with fail
    go_ret;exact⟨⟨some ⟨g,0,none⟩,i,cap,rfl,HIL.out.symm,agW.out,rfl⟩,Hb8.out⟩
 ·have hall:xs.filter t=xs:=by
   rw[List.filter_eq_self];intro y hy;obtain⟨j,hj⟩:=List.getElem?_of_mem hy;have:=hno j (by have:=(List.getElem?_eq_some_iff.1 hj).1;have:=HN.out;omega);simp only[hj]at this;simpa using this
  obtain⟨afw,K1⟩:=aN hall (Keeps.of_below (S:=fun x=>(dq A N cap).ownBlock=some x) D1.out fun _ h _=>h);clear hno hall;go_wp2_with fail
  go_ret;exact⟨⟨A,N,cap,rfl,by rw[afw.out];exact HN.out,by rw[afw.out];exact adv.out,rfl⟩,K1.out⟩
theorem Hj(x y:ByteArray)(c1 c2 c3 c4 c5 c6 c7 e1 e2 e3 e4 e5 e6 e7:Value)(w:World):Calls ah 66 #[.agg #[.string x,c1,c2,c3,c4,c5,c6,c7],.agg #[.string y,e1,e2,e3,e4,e5,e6,e7]] w (agV (.int .i64 (if sg x y then-1 else 1)) w):=by
 have HB:=ae (Xg w (.cells #[.string x,c1,c2,c3,c4,c5,c6,c7] 50) (.cells #[.string y,e1,e2,e3,e4,e5,e6,e7] 50));have hp:=aG.new w 50 #[.string x,c1,c2,c3,c4,c5,c6,c7];have HP:=ae (hp.below (boxed _ (.cells #[.string y,e1,e2,e3,e4,e5,e6,e7] 50)) hp.lt);have hq:=aG.new (w.alloc (.cells #[.string x,c1,c2,c3,c4,c5,c6,c7] 50)) 50 #[.string y,e1,e2,e3,e4,e5,e6,e7];rw[show(w.alloc (.cells #[.string x,c1,c2,c3,c4,c5,c6,c7] 50)).heap.size=w.heap.size+1 by simp]at hq;have HQ:=ae hq;clear hp hq;obtain⟨L,hL⟩:=bq (sg x y);rw[←hL];have q1:Op.bytesLess x.toList y.toList=L:=hL.symm;clear hL;go_enter Tryz.func66,Tryz.ntmps66;go_upto_region 1 with fail
 generalize(w.alloc (.cells #[.string x,c1,c2,c3,c4,c5,c6,c7] 50)).alloc (.cells #[.string y,e1,e2,e3,e4,e5,e6,e7] 50)=w1 at HB HP HQ⊢;generalize w.heap.size+1=Q at HQ⊢;generalize hP:w.heap.size=P at HP⊢;clear hP;have p0:=HP.out.cell 0;have q0:=HQ.out.cell 0;simp at p0 q0;cases L with
 |true=>
  go_wp2_with fail
  go_ret;exact⟨rfl,HB.out⟩
 |false=>
  go_wp2_with fail
  go_ret;exact⟨rfl,HB.out⟩
structure tn where
 p:Pr
 t:Option Addr×Nat
 a:Option Addr×Nat
 e:Option Addr×Nat
def tn.v(s:tn):bU:=⟨s.p,.slice s.t.1 s.p.tags.length s.t.2,.slice s.a.1 s.p.aR.length s.a.2,.slice s.e.1 s.p.ends.length s.e.2⟩
def tn.enc(s:tn):List Value:=s.v.vals
theorem tn.len(s:tn):s.enc.length=8:=rfl
theorem tn.one(s:tn):∀u∈s.enc,u.oneCell'=true:=by
 intro u hu;unfold tn.enc bU.vals tn.v at hu;simp at hu;rcases hu with rfl|rfl|rfl|rfl|rfl|rfl|rfl|rfl<;>rfl
instance:Inhabited tn:=⟨⟨Pr.zero,(none,0),(none,0),(none,0)⟩⟩
theorem adx{w:World}:∀xs:List bU,(∀X∈xs,fC w X)→∃ss:List tn,ss.map tn.v=xs:=by
 intro xs
 induction xs with
 |nil=>intro _;exact⟨[],rfl⟩
 |cons X r ih=>
  intro h;obtain⟨ss,hs⟩:=ih fun Y hY=>h Y (List.mem_cons_of_mem X hY)
  have hX:=h X (List.mem_cons_self ..);obtain⟨A1,c1,e1⟩:=hX.tags.shape;obtain⟨A2,c2,e2⟩:=hX.aR.shape;obtain⟨A3,c3,e3⟩:=hX.ends.shape;obtain⟨p,tv,av,ev⟩:=X;simp only at e1 e2 e3;subst e1 e2 e3;exact⟨⟨p,(A1,c1),(A2,c2),(A3,c3)⟩::ss,by rw[List.map_cons,hs];rfl⟩
theorem N6(ss:List tn):cZ (ss.map tn.v)=ss.flatMap tn.enc:=by
 unfold cZ;rw[List.flatMap_map];rfl
def Hl(a b:tn):Int:=if sg a.p.key b.p.key then-1 else 1
theorem N7(x y:tn):ltOf Hl x y=sg x.p.key y.p.key:=by
 unfold ltOf Hl;cases sg x.p.key y.p.key<;>rfl
theorem afx:SWO (ltOf Hl)where
 irrefl x:=by rw[N7];exact jQ _
 trans x y z h1 h2:=by rw[N7]at*;exact mU h1 h2
 ntrans x y z h1 h2:=by
  rw[N7]at*;cases h3:sg x.p.key z.p.key with
  |false=>rfl
  |true=>
   rcases tR x.p.key y.p.key with e|h|h
   ·rw[e,h2]at h3;cases h3
   ·rw[h1]at h;cases h
   ·have:=mU h h3;rw[h2]at this;cases this
theorem DV{α:Type}[Inhabited α](enc:α→List Value)(k:Nat)(w:World)(g m:Nat)(d:Array α)(os:Array Obj):Keeps (fun x=>x=g) w (sortWorldK enc k w g 0 m d os):=by
 refine⟨rfl,rfl,rfl,?_,fun q hq hne=>?_⟩
 ·unfold sortWorldK putRowK putRow mapBlock Sort.grow Sort.ahead;simp
 ·unfold sortWorldK putRowK putRow mapBlock Sort.grow Sort.ahead;simp only;rw[Array.getElem?_append_left (by rw[Array.size_modify];omega),Array.getElem?_modify,if_neg aQ]
theorem LY{w:World}{base:Nat}{v:Value}(xs:List bU)(hl:xs.length≤4000000)(how:w.ownsRow base 50 8 v xs.length (cZ xs))(hm:∀X∈xs,fC w X):Calls ah 65 #[v,.func (.func 66) #[] #[]] w fun r w'=>r=.returned (.tuple #[])∧(∃S:List bU,S.Perm xs∧(S.map (·.p)).Pairwise (fun x y=>eY y x=false)∧w'.ownsRow base 50 8 v xs.length (cZ S))∧Keeps (fun x=>v.ownBlock=some x) w w':=by
 have eg:∀args w,(callFunc 66 args).run ah w=.ok (.enter 66 args) w:=enters_of Tryz.func66 bo rfl;obtain⟨A,cap,rfl⟩:=aV how;by_cases h0:xs.length=0
 ·have hx:xs=[]:=bz h0;subst hx;refine(AnyF.slices_SortFunc_none Tryz.sortPe A cap _ w).mono ?_;rintro r w'⟨rfl,rfl⟩;exact⟨rfl,⟨[],List.Perm.refl _,List.Pairwise.nil,how⟩,Keeps.refl _ _⟩
 obtain⟨ss,rfl⟩:=adx xs hm;rw[ay]at hl how h0⊢;rw[N6]at how;obtain⟨g,rfl,hbg,hgl,_⟩:=uq how aQ;obtain⟨hH,hg,hb⟩:=RJ tn.enc 8 tn.len aH how rfl;have hcmp:CmpLays ah 66 #[] tn.enc 8 Hl g 0 ss.toArray.size w:=fun m os dk _ x y=>(Hj x.p.key y.p.key _ _ _ _ _ _ _ _ _ _ _ _ _ _ _).mono fun _ _⟨e,hq⟩=>⟨e,hq⟩
 have hcon:=AnyQ.slices_SortFunc Tryz.sortPe 8 Tryz.isAgg50 Tryz.sizeOf50 tn.enc tn.len tn.one Hl afx 66 #[] g 0 cap ss.toArray w eg hcmp hH hg (by rw[abd];omega);refine hcon.mono ?_;rintro r w'⟨rfl,d,n,os,hp,hs,rfl⟩;obtain⟨p1,p2⟩:=Hh hp hs;obtain⟨o1,_⟩:=LQ tn.enc 8 tn.len aH how d (by have:=hp.1;simpa using this) n os;have hk:=DV tn.enc 8 w g n d os;refine⟨rfl,⟨d.toList.map tn.v,p1.map _,?_,by rw[N6];exact o1⟩,⟨hk.os,hk.tape,hk.output,hk.size,fun q hq hne=>hk.block q hq fun e=>hne (by rw[e];rfl)⟩⟩;rw[List.map_map,List.pairwise_map];refine p2.imp fun{x y}hxy=>?_
 rw[N7]at hxy;exact hxy
theorem DW{P:Program}{w:World}(base:Nat)(t ty e:TypeId)(i:TypeInfo){size:Nat}(ht:P.underlying t=some (.slice e))(hi:P.info? e=some i)(hsize:i.size=size)(v:Value)(n:Nat)(xs:List Value)(hown:w.ownsRow base e size v n xs):(Builtin.append_ #[t,t] ty #[v,au]).run P w=.ok v w:=by
 rcases hown.2 with⟨rfl,rfl⟩|⟨g,cap,cur,rfl,hbg,hg,hnc,hcm,hcs,htake⟩
 ·simp[Builtin.append_,run_underlying ht,sizeOf,typeInfo,hi,Builtin.lenOf,Builtin.firstCells]
 ·simp[Builtin.append_,run_underlying ht,sizeOf,typeInfo,hi,hsize,Builtin.lenOf,Builtin.firstCells,storeCells,hnc]
theorem Hr{P:Program}{w:World}(base pq:Nat)(t ty e:TypeId)(i:TypeInfo)(z:Value)(size bytes:Nat)(ht:P.underlying t=some (.slice e))(hi:P.info? e=some i)(hz:i.zero=some z)(hsize:i.size=size)(hby:i.bytes=bytes)(hzs:z.cells.size=size)(hsz:0<size)(v:Value)(n:Nat)(xs:List Value)(hown:w.ownsRow base e size v n xs)(u:Value)(m:Nat)(ys:List Value)(hown2:w.ownsRow pq e size u m ys)(h1:∀y∈ys,y.oneCell'=true)(h63:n+m≤maxLen)(hb:(n+m)*bytes≤140737488355328)(hbase:base≤w.heap.size):∃v' w',(Builtin.append_ #[t,t] ty #[v,u]).run P w=.ok v' w'∧w'.ownsRow base e size v' (n+m) (xs++ys)∧w.grownBy w' v.ownBlock:=by
 rcases hown2.2 with⟨rfl,rfl⟩|⟨g,cap,cur,rfl,hbg,hg,hnc,hcm,hcs,htake⟩
 ·have hy:ys=[]:=bz (by simpa using hown2.1);subst hy;exact⟨v,w,DW base t ty e i ht hi hsize v n xs hown,by rw[dP];exact hown,⟨rfl,rfl,rfl,aA _,fun _ _ _=>rfl⟩⟩
 ·obtain⟨v',w',hr,ho,hgr,_⟩:=run_append_own (P:=P) w base t ty e i z size bytes ht hi hz hsize hby hzs hsz v n xs hown ⟨g,0,none⟩ m cap ys hown2.1 (fun j u hu=>hown2.cells (g:=g) rfl j u hu) h1 h63 hb hbase;exact⟨v',w',hr,ho,hgr⟩
theorem ady{w:World}{base:Nat}{xs:List bU}(h:∀X∈xs,di w base X):∀u∈cZ xs,u.oneCell'=true:=by
 intro u hu;obtain⟨X,hX,hu⟩:=List.mem_flatMap.1 hu;have hx:=h X hX;obtain⟨A1,c1,e1⟩:=aV hx.tags;obtain⟨A2,c2,e2⟩:=aV hx.aR;obtain⟨A3,c3,e3⟩:=aV hx.ends;unfold bU.vals at hu;rw[e1,e2,e3]at hu;simp at hu;rcases hu with rfl|rfl|rfl|rfl|rfl|rfl|rfl|rfl<;>rfl
theorem RQ{a:Mp}{d:Dl}(fa:kM a)(fd:sx d):kM (dH a d):=by
 refine⟨fd.version,fun p hp=>?_,fun r hr=>?_⟩
 ·have h:=(qh _ p).1 hp;rcases List.mem_append.1 h with h|h
  ·exact fa.aK p (List.mem_filter.1 h).1
  ·exact fd.aK p h
 ·have hr':r∈(if d.cS then d.ax else a.ax):=hr;split at hr'
  ·exact fd.ax r hr'
  ·exact fa.ax r hr'
theorem Xm{Q:World→Prop}{P:Nat}(hq:∀u i x,Q u→Q (u.setCell ⟨P,i,none⟩ x)){W:World}(h:Q W)(v0 v1 v2 v3:Value):Q ((((W.setCell ⟨P,0,none⟩ v0).setCell ⟨P,1,none⟩ v1).setCell ⟨P,2,none⟩ v2).setCell ⟨P,3,none⟩ v3):=hq _ _ _ (hq _ _ _ (hq _ _ _ (hq _ _ _ h)))
theorem RU(xs ys:List bU):cZ (xs++ys)=cZ xs++cZ ys:=by unfold cZ;rw[List.flatMap_append]
theorem LZ{w:World}(env:Env w)(ord:gd w){pa ra:Value}{a:Mp}(ha:dJ w pa a.aK)(ra':fy w ra a.ax)(fa:kM a)(sa:Lp a){d:Dl}{sv gv rv:Value}(hd:kz w d sv gv rv)(fd:sx d)(sd:yF d)(sr:Lp (dH a d)):Calls ah 18 #[.agg #[.int .u64 (a.version:Int),pa,ra,.string a.policy],.agg (fc d sv gv rv)] w (AX (jy dm a d).1 (jy dm a d).2 w):=by
 have fr:=RQ fa fd;have hma:=fun u(hu:aW w u)=>mX (env.below hu) (ha.below hu) (aY.below ra' hu) fa sa.sz (by have:=sa.pl;omega) (by have:=sa.rl;omega) sa.ol sa.ml
 have hmd:=fun u(hu:aW w u)=>qV (env.below hu) (hd.below hu) fd sd
 have hal:=fun u(hu:aW w u)g(hg:u.cell? ⟨g,1,none⟩=some pa)=>Dc (hd.gone.below hu) (by have:=sd.gl;omega) (fun k=>(ox a.aK k).isSome) 59 #[.pointer (some ⟨g,0,none⟩)] (enters_of Tryz.func59 bo rfl) fun W hW x hx=>LK (ha.below (after hu hW)) (by have:=sa.pl;omega) (ak hg hW) x
 have hcp:=fun u(hu:aW w u)=>QY (ha.below hu) (aY.below ra' hu) sa.sz sa.pl sa.rl
 have hca:=fun u(hu:aW w u)=>qU (hd.aL.below hu) sd.aL sd.sl
 have hcr:=fun u(hu:aW w u)=>yk (aY.below hd.ax hu) sd.rl (sH _)
 have hst:=fun u(hu:aW w u)g(h2:u.cell? ⟨g,2,none⟩=some sv)(h3:u.cell? ⟨g,3,none⟩=some gv)(X:bU)=>LM (hd.aL.below hu) (hd.gone.below hu) (by have:=sd.sl;omega) (by have:=sd.gl;omega) h2 h3 X.p.key (.string X.p.bw) (.string X.p.user) X.tv X.av (.int .u64 (X.p.exp:Int)) (.int .u8 (X.p.bm:Int)) X.ev (p:=X.p) rfl
 have hmr:∀u,aW w u→∀pv rv,dJ u pv (dH a d).aK→fy u rv (dH a d).ax→Calls ah 22 #[.agg #[.int .u64 (d.version:Int),pv,rv,.string (dH a d).policy]] u (Got (.int .i64 ((cT (dH a d)).2:Int)) u):=fun u hu pv rv h1 h2=>mX (env.below hu) h1 h2 fr sr.sz (by have:=sr.pl;omega) (by have:=sr.rl;omega) sr.ol sr.ml
 have hhr:∀u,aW w u→∀pv rv,dJ u pv (dH a d).aK→fy u rv (dH a d).ax→Calls ah 21 #[.agg #[.int .u64 (d.version:Int),pv,rv,.string (dH a d).policy]] u (Got (.string (dm (dH a d))) u):=fun u hu pv rv h1 h2=>uj (env.below hu) (ord.below hu ord.lt) h1 h2 fr sr.sz (by have:=sr.pl;omega) (by have:=sr.rl;omega) sr.ol sr.ml
 have hSo:(cT a).2=0→jc d=true→∀S:List Pr,S.Perm (a.aK.filter (stays d)++d.aL)→S.Pairwise (fun x y=>eY y x=false)→S=(dH a d).aK:=fun h1 h2 S p1 p2=>by
  obtain⟨_,m2,_,_⟩:=jR (nR h1);have h3:jt d.aL=true:=by
   unfold jc at h2;simp only[Bool.and_eq_true]at h2;exact h2.1.1.2
  exact Z2 (distinct_keys (jz m2).1 (jz h3).1) p1 p2
 have hRe:((cT a).2≠0→jy dm a d=(Mp.zero,(cT a).2))∧((cT a).2=0→jc d=false→jy dm a d=(Mp.zero,220))∧((cT a).2=0→jc d=true→a.version≠d.base→jy dm a d=(Mp.zero,223))∧((cT a).2=0→jc d=true→a.version=d.base→(d.gone.all fun k=>(ox a.aK k).isSome)=false→jy dm a d=(Mp.zero,220))∧((cT a).2=0→jc d=true→a.version=d.base→(d.gone.all fun k=>(ox a.aK k).isSome)=true→((cT (dH a d)).2≠0→jy dm a d=(Mp.zero,(cT (dH a d)).2))∧((cT (dH a d)).2=0→dm (dH a d)≠d.hash→jy dm a d=(Mp.zero,224))∧((cT (dH a d)).2=0→dm (dH a d)=d.hash→jy dm a d=(dH a d,0))):=by
  refine⟨fun h=>?_,fun h1 h=>?_,fun h1 h2 h=>?_,fun h1 h2 h3 h=>?_,fun h1 h2 h3 h4=>⟨fun h=>?_,fun h5 h=>?_,fun h5 h=>?_⟩⟩<;>unfold jy
  ·rw[if_pos h]
  ·rw[if_neg (by rw[h1];decide),if_pos h]
  ·rw[if_neg (by rw[h1];decide),if_neg (by rw[h2];decide),if_pos h]
  ·rw[if_neg (by rw[h1];decide),if_neg (by rw[h2];decide),if_neg (by rw[h3];exact fun h=>h rfl),if_pos h]
  ·rw[if_neg (by rw[h1];decide),if_neg (by rw[h2];decide),if_neg (by rw[h3];exact fun h=>h rfl),if_neg (by rw[h4];decide),if_pos h]
  ·rw[if_neg (by rw[h1];decide),if_neg (by rw[h2];decide),if_neg (by rw[h3];exact fun h=>h rfl),if_neg (by rw[h4];decide),if_neg (by rw[h5];decide),if_pos h]
  ·rw[if_neg (by rw[h1];decide),if_neg (by rw[h2];decide),if_neg (by rw[h3];exact fun h=>h rfl),if_neg (by rw[h4];decide),if_neg (by rw[h5];decide),if_neg (by rw[h];exact fun h=>h rfl)]
 have hRM:(dH a d).version=d.version∧(dH a d).ax=(if d.cS then d.ax else a.ax)∧(dH a d).policy=(if d.cX then d.policy else a.policy):=⟨rfl,rfl,rfl⟩;have bv1:=fa.version;have bv2:=fd.base;have bv3:=fd.version;have lx:=sa.pl;have ls:=sd.sl;obtain⟨kU,ca1,rfl⟩:=ha.shape;obtain⟨kV,ca2,rfl⟩:=aY.shape ra';obtain⟨As,cs,rfl⟩:=hd.aL.shape;obtain⟨Ag,cg,rfl⟩:=hd.gone.shape;obtain⟨Ar,cr,rfl⟩:=aY.shape hd.ax;generalize dm (dH a d)=HR at hhr hRe;generalize(cT (dH a d)).2=er at hmr hRe;generalize(cT a).2=ea at hma hRe hSo;generalize jc d=MD at hmd hRe hSo;generalize(d.gone.all fun k=>(ox a.aK k).isSome)=AL at hal hRe;generalize jy dm a d=RR at hRe⊢;generalize stays d=ST at hst hSo;generalize dH a d=RM at hmr hhr hRe hRM hSo;clear env ord ha ra' fa sa hd fd sd sr fr;obtain⟨va,gG,fL,ta⟩:=a;obtain⟨db,dv,Xn,Xo,cS,aaL,cX,kW,jK⟩:=d;unfold fc V2 at*;unfold vm uT at*;simp only at*;obtain⟨ib,yP⟩:=bq gG.length;obtain⟨ic,zN⟩:=bq fL.length;obtain⟨ns,hns⟩:=bq Xn.length;obtain⟨ng,hng⟩:=bq Xo.length;obtain⟨nr,hnr⟩:=bq aaL.length;rw[←yP,←zN]at hma hcp;rw[←hns,←hng,←hnr]at hmd;rw[←hng]at hal;rw[←yP]at hal lx;rw[←hns]at hca hst ls;rw[←hng]at hst;rw[←hnr]at hcr;rw[←yP,←zN,←hns,←hng,←hnr];obtain⟨Sj,TY,HAl,HCp,HCa,HCr,Io,HMr,HHr,HSo,Lq,P2⟩:=oP hma hmd hal hcp hca hcr hst hmr hhr hSo hRe hRM;obtain⟨jq,kq,vF,HN5⟩:=cY yP zN hns hnr;clear hma hmd hal hcp hca hcr hst hmr hhr hSo hRe hRM yP zN hns hng hnr;obtain⟨HB1,mI⟩:=aN (boxed w (.cells #[.int .u64 va,.slice kU ib ca1,.slice kV ic ca2,.string ta] 26)) (aG.new w 26 #[.int .u64 va,.slice kU ib ca1,.slice kV ic ca2,.string ta]);have hb2:=boxed (w.alloc (.cells #[.int .u64 va,.slice kU ib ca1,.slice kV ic ca2,.string ta] 26)) (.cells #[.int .u64 db,.int .u64 dv,.slice As ns cs,.slice Ag ng cg,.bool cS,.slice Ar nr cr,.bool cX,.string kW,.string jK] 29);have HB2:=aZ HB1 hb2;have HP2:=ae (bJ mI hb2);have hQ2:=aG.new (w.alloc (.cells #[.int .u64 va,.slice kU ib ca1,.slice kV ic ca2,.string ta] 26)) 29 #[.int .u64 db,.int .u64 dv,.slice As ns cs,.slice Ag ng cg,.bool cS,.slice Ar nr cr,.bool cX,.string kW,.string jK];rw[show(w.alloc (.cells #[.int .u64 va,.slice kU ib ca1,.slice kV ic ca2,.string ta] 26)).heap.size=w.heap.size+1 by simp]at hQ2;have hb3:=boxed ((w.alloc (.cells #[.int .u64 va,.slice kU ib ca1,.slice kV ic ca2,.string ta] 26)).alloc (.cells #[.int .u64 db,.int .u64 dv,.slice As ns cs,.slice Ag ng cg,.bool cS,.slice Ar nr cr,.bool cX,.string kW,.string jK] 29)) (.cells #[.int .u64 0,au,au,aI] 26);have TB0:=aZ HB2 hb3;obtain⟨TP0,TQ0⟩:=aN (bJ HP2 hb3) (hQ2.below hb3 hQ2.lt);have iP:=aG.new ((w.alloc (.cells #[.int .u64 va,.slice kU ib ca1,.slice kV ic ca2,.string ta] 26)).alloc (.cells #[.int .u64 db,.int .u64 dv,.slice As ns cs,.slice Ag ng cg,.bool cS,.slice Ar nr cr,.bool cX,.string kW,.string jK] 29)) 26 #[.int .u64 0,au,au,aI];rw[show((w.alloc (.cells #[.int .u64 va,.slice kU ib ca1,.slice kV ic ca2,.string ta] 26)).alloc (.cells #[.int .u64 db,.int .u64 dv,.slice As ns cs,.slice Ag ng cg,.bool cS,.slice Ar nr cr,.bool cX,.string kW,.string jK] 29)).heap.size=w.heap.size+2 by simp]at iP;have TR0:=ae iP;clear hb2 hQ2 hb3 iP HB1 mI HB2 HP2;go_enter Tryz.func18,Tryz.ntmps18;go_upto_region 1 with fail
 generalize(((w.alloc (.cells #[.int .u64 va,.slice kU ib ca1,.slice kV ic ca2,.string ta] 26)).alloc (.cells #[.int .u64 db,.int .u64 dv,.slice As ns cs,.slice Ag ng cg,.bool cS,.slice Ar nr cr,.bool cX,.string kW,.string jK] 29)).alloc (.cells #[.int .u64 0,au,au,aI] 26))=w0 at TB0 TP0 TQ0 TR0⊢;obtain⟨P,Q,R,eP,eQ,eR⟩:∃P Q R,P=w.heap.size∧Q=w.heap.size+1∧R=w.heap.size+2:=⟨_,_,_,rfl,rfl,rfl⟩;rw[←eP]at TP0;rw[←eQ]at TQ0;rw[←eR]at TR0;rw[←eR,←eQ,←eP];have HPQ:ag ((P≠Q∧P≠R∧Q≠R∧w.heap.size≤P)∧w.heap.size≤Q∧w.heap.size≤R):=ae aQ;clear eP eQ eR;obtain⟨p0,p1,p2,p3⟩:=dV TP0;go_upto_region 2 with(go_at_call 22;refine(Sj.out _ TB0.out).mono ?_;rintro r w1⟨rfl,d1⟩)
 have NZ:=aZ TB0 d1;obtain⟨TP1,TQ1,Yo⟩:=bu (bJ TP0 d1) (bJ TQ0 d1) (bJ TR0 d1);clear TB0 TP0 TQ0 TR0;clear d1 p0 p1 p2 p3;by_cases hz:ea=0;rotate_left
 ·have q0:((ea:Int) !=0)=true:=by simp;omega
  have HF:=ae (Lq.out.1 hz);clear hz;obtain⟨r0,r1,r2,r3⟩:=dV Yo;have fr:=fun i=>Yo.out.frozen i
  go_wp2_with fail
  obtain⟨s9,q9⟩:=jC Yo.out NZ.out HPQ.out.2.2 (.int .u64 0) au au aI;refine bodyPost_ret (bD rfl rfl rfl (iw s9)) rfl ⟨⟨none,0,none,0,?_,?_,?_⟩,q9⟩
  ·rw[HF.out];rfl
  ·rw[HF.out];exact iN _
  ·rw[HF.out];exact dN _
 have q0:((ea:Int) !=0)=false:=by simp[hz]
 have He:=ae hz;clear hz;go_upto_region 4 with fail
 clear q0;obtain⟨y0,y1,y2,y3,y4,y5,y6,y7,y8⟩:=oR TQ1;cases MD with
 |false=>
  have HF:=ae (Lq.out.2.1 He.out (by simp));go_upto_region 5 with(go_at_call 43;refine(TY.out _ NZ.out).mono ?_;rintro r w2⟨rfl,d2⟩)
  have N4:=aZ NZ d2;obtain⟨Yp,Yq,N3⟩:=bu (bJ TP1 d2) (bJ TQ1 d2) (bJ Yo d2);clear NZ TP1 TQ1 Yo;clear d2;clear y0 y1 y2 y3 y4 y5 y6 y7 y8;obtain⟨r0,r1,r2,r3⟩:=dV N3;have fr:=fun i=>N3.out.frozen i
  go_wp2_with fail
  obtain⟨s9,q9⟩:=jC N3.out N4.out HPQ.out.2.2 (.int .u64 0) au au aI;refine bodyPost_ret (bD rfl rfl rfl (iw s9)) rfl ⟨⟨none,0,none,0,?_,?_,?_⟩,q9⟩
  ·rw[HF.out];rfl
  ·rw[HF.out];exact iN _
  ·rw[HF.out];exact dN _
 |true=>
  go_upto_region 6 with(go_at_call 43;refine(TY.out _ NZ.out).mono ?_;rintro r w2⟨rfl,d2⟩)
  have N4:=aZ NZ d2;obtain⟨Yp,Yq,N3⟩:=bu (bJ TP1 d2) (bJ TQ1 d2) (bJ Yo d2);clear NZ TP1 TQ1 Yo;clear d2;clear y0 y1 y2 y3 y4 y5 y6 y7 y8;have p0:=Yp.out.cell 0;simp at p0;have q0:=Yq.out.cell 0;simp at q0;by_cases hv:va=db;rotate_left
  ·have q1:((va:Int) !=(db:Int))=true:=by simp;omega
   have HF:=ae (Lq.out.2.2.1 He.out (by simp) hv);clear hv;obtain⟨r0,r1,r2,r3⟩:=dV N3;have fr:=fun i=>N3.out.frozen i
   go_wp2_with fail
   obtain⟨s9,q9⟩:=jC N3.out N4.out HPQ.out.2.2 (.int .u64 0) au au aI;refine bodyPost_ret (bD rfl rfl rfl (iw s9)) rfl ⟨⟨none,0,none,0,?_,?_,?_⟩,q9⟩
   ·rw[HF.out];rfl
   ·rw[HF.out];exact iN _
   ·rw[HF.out];exact dN _
  have q1:((va:Int) !=(db:Int))=false:=by simp[hv]
  have Hv:=ae hv;clear hv;go_upto_region 8 with fail
  clear q1 p0 q0;obtain⟨-,p1⟩:=jL Yp;obtain⟨-,-,-,q3⟩:=dV Yq;have aaM:=ae (HAl.out _ N4.out P p1);cases AL with
  |false=>
   have HF:=ae (Lq.out.2.2.2.1 He.out (by simp) Hv.out (by simp));go_upto_region 9 with(go_at_call 58;refine aaM.out.mono ?_;rintro r w3⟨rfl,d3⟩)
   have DO:=aZ N4 d3;obtain⟨DN,EA,Ls⟩:=bu (bJ Yp d3) (bJ Yq d3) (bJ N3 d3);clear N4 Yp Yq N3;clear d3 p1 q3 aaM;obtain⟨r0,r1,r2,r3⟩:=dV Ls;have fr:=fun i=>Ls.out.frozen i
   go_wp2_with fail
   obtain⟨s9,q9⟩:=jC Ls.out DO.out HPQ.out.2.2 (.int .u64 0) au au aI;refine bodyPost_ret (bD rfl rfl rfl (iw s9)) rfl ⟨⟨none,0,none,0,?_,?_,?_⟩,q9⟩
   ·rw[HF.out];rfl
   ·rw[HF.out];exact iN _
   ·rw[HF.out];exact dN _
  |true=>
   have HF0:=ae (Lq.out.2.2.2.2 He.out (by simp) Hv.out (by simp));have afy:=ae (HSo.out He.out (by simp));clear Lq HSo He Hv Sj TY HAl;go_upto_region 10 with(go_at_call 58;refine aaM.out.mono ?_;rintro r w3⟨rfl,d3⟩)
   have DO:=aZ N4 d3;obtain⟨DN,EA,Ls⟩:=bu (bJ Yp d3) (bJ Yq d3) (bJ N3 d3);clear N4 Yp Yq N3;clear d3 p1 q3 aaM;obtain⟨B0,hB0⟩:=bq w3.heap.size;have HB0:ag ((P<B0∧Q<B0∧R<B0)∧w.heap.size≤B0):=ae (by have:=DN.out.lt;have:=EA.out.lt;have:=Ls.out.lt;have:=DO.out.size;omega);have afz:=ae hB0;clear hB0;obtain⟨p0,p1,p2,p3⟩:=dV DN;go_upto_region 11 with(go_at_call 60;refine(HCp.out _ DO.out).mono ?_;rintro r w4⟨⟨B1,m1,B2,m2,rfl,oa,ob⟩,d4⟩;rw[←afz.out]at oa ob;obtain⟨TS4,TO4⟩:=aN oa ob;have TB4:=aZ DO d4;obtain⟨Yr,TQ4,TR4⟩:=bu (bJ DN d4) (bJ EA d4) (bJ Ls d4);have hb4:ag (B0≤w4.heap.size):=ae (by rw[afz.out];exact d4.size);clear d4 oa ob;obtain⟨y0,y1,y2,y3⟩:=dV Yr;have fr:=fun i=>Yr.out.frozen i)
   clear p0 p1 p2 p3;obtain⟨s5,q5⟩:=jC Yr.out TB4.out HPQ.out.1.2.2.2 (.int .u64 va) (.slice B1 ib m1) (.slice B2 ic m2) (.string ta);have z5:=Xm (P:=P) (Q:=fun u=>cn u B0 (.slice B1 ib m1) gG∧u.ownsRow B0 57 6 (.slice B2 ic m2) ic (dQ fL)∧aG u Q 29 #[.int .u64 db,.int .u64 dv,.slice As ns cs,.slice Ag ng cg,.bool cS,.slice Ar nr cr,.bool cX,.string kW,.string jK]∧aG u R 26 #[.int .u64 0,au,au,aI]∧B0≤u.heap.size) (fun u i x hq=>⟨hq.1.far HB0.out.1.1,aU hq.2.1 HB0.out.1.1,hq.2.2.1.far (p:=⟨P,i,none⟩) (Ne.symm HPQ.out.1.1) x,hq.2.2.2.1.far (p:=⟨P,i,none⟩) (Ne.symm HPQ.out.1.2.1) x,by rw[show(u.setCell ⟨P,i,none⟩ x).heap.size=u.heap.size by simp];exact hq.2.2.2.2⟩) ⟨TS4.out,TO4.out,TQ4.out,TR4.out,hb4.out⟩ (.int .u64 va) (.slice B1 ib m1) (.slice B2 ic m2) (.string ta);obtain⟨IC,Ss,TS5,TO5,Lu,TR5,hb5⟩:=mM s5 q5 z5.1 z5.2.1 z5.2.2.1 z5.2.2.2.1 z5.2.2.2.2;clear s5 q5 z5 Yr TB4 TS4 TO4 TQ4 TR4 hb4 y0 y1 y2 y3 fr;generalize(((w4.setCell ⟨P,0,none⟩ (.int .u64 va)).setCell ⟨P,1,none⟩ (.slice B1 ib m1)).setCell ⟨P,2,none⟩ (.slice B2 ic m2)).setCell ⟨P,3,none⟩ (.string ta)=w5 at IC Ss TS5 TO5 Lu TR5 hb5⊢;obtain⟨-,q1⟩:=jL Lu;have p0:=IC.out.cell 0;simp at p0;have fr:=fun i=>IC.out.frozen i
   go_upto_region 12 with fail
   clear q1 p0 fr;have TP6:ag (aG (w5.setCell ⟨P,0,none⟩ (.int .u64 dv)) P 26 #[.int .u64 dv,.slice B1 ib m1,.slice B2 ic m2,.string ta]):=ae (IC.out.aL 0 _);obtain⟨TS6,TO6,TQ6,TR6,Yt⟩:=ej (TS5.out.far (k:=0) (u:=.int .u64 dv) HB0.out.1.1) (aU (k:=0) (u:=.int .u64 dv) TO5.out HB0.out.1.1) (Lu.out.far (p:=⟨P,0,none⟩) (Ne.symm HPQ.out.1.1) (.int .u64 dv)) (TR5.out.far (p:=⟨P,0,none⟩) (Ne.symm HPQ.out.1.2.1) (.int .u64 dv)) (Ss.out.setCell (p:=⟨P,0,none⟩) HPQ.out.1.2.2.2 (.int .u64 dv));have hb6:ag (B0≤(w5.setCell ⟨P,0,none⟩ (.int .u64 dv)).heap.size):=ae (by rw[show(w5.setCell ⟨P,0,none⟩ (.int .u64 dv)).heap.size=w5.heap.size by simp];exact hb5.out);clear Ss IC Lu TR5 TS5 TO5;clear hb5;generalize w5.setCell ⟨P,0,none⟩ (.int .u64 dv)=w6 at TP6 TS6 TO6 TQ6 TR6 Yt hb6⊢;obtain⟨xs,hxs,hro,hxo⟩:=TS6.out;have hown:∀q,(dq B1 ib m1).ownBlock=some q→B0≤q:=fun q hq=>(hro.lt q hq).1
   have hxl:xs.length=ib:=by rw[jq.out,←hxs,ay]
   have hdel:=RN xs aQ hro (fun X hX=>(hxo X hX).rd) (fun X=>ST X.p) 62 #[.pointer (some ⟨Q,0,none⟩)] (enters_of Tryz.func62 bo rfl) (fun W hW X hX=>by
    have hQW:=TQ6.out.keep hW (fun hq=>by have:=hown _ hq;have:=HB0.out.1;omega);exact Io.out W (Yt.out.trans (hW.below (B:=w.heap.size) (fun q hq=>aw HB0.out.2 (hown _ hq)) Yt.out.size)) Q (by have:=hQW.cell 2;simpa using this) (by have:=hQW.cell 3;simpa using this) X)
   obtain⟨afA,rp,Nz,JF,yX⟩:=ej hdel hro hxo hxs hown;clear hdel hro hxo hxs hown;obtain⟨-,p1⟩:=jL TP6;go_upto_region 13 with(go_at_call 61;refine afA.out.mono ?_;rintro r w7⟨⟨A5,n5,c5,rfl,hn5,ho5,_⟩,k7⟩;have TP7:=ae (TP6.out.keep k7 (fun hq=>by have:=yX.out _ hq;have:=HB0.out.1;omega));have TQ7:=ae (TQ6.out.keep k7 (fun hq=>by have:=yX.out _ hq;have:=HB0.out.1;omega));have TR7:=ae (TR6.out.keep k7 (fun hq=>by have:=yX.out _ hq;have:=HB0.out.1;omega));have TO7:=ae (bj TO6.out k7 (cE rp.out) aH);have TB7:=ae (Yt.out.trans (k7.below (B:=w.heap.size) (fun q hq=>aw HB0.out.2 (yX.out _ hq)) Yt.out.size));have hb7:ag (B0≤w7.heap.size):=ae (aw hb6.out k7.size);have TS7:ag (cn w7 B0 (.slice A5 n5 c5) (gG.filter ST)):=ae ⟨xs.filter fun X=>ST X.p,by rw[←JF.out,List.filter_map];rfl,by rw[←hn5];exact ho5,fun X hX=>(Nz.out X (List.mem_filter.1 hX).1).keep k7 (cE rp.out) aH aH aH⟩;have ahw:n5≤ib:=(by rw[hn5,←hxl];exact List.length_filter_le _ _);clear hn5 ho5 k7;obtain⟨-,y1⟩:=jL TP7;have fr:=fun i=>TP7.out.frozen i)
   clear p1 afA rp Nz JF yX hxl Io y1 fr;clear TP6 Yt TS6 TO6 TQ6 TR6 hb6;have TP8:ag (aG (w7.setCell ⟨P,1,none⟩ (.slice A5 n5 c5)) P 26 #[.int .u64 dv,.slice A5 n5 c5,.slice B2 ic m2,.string ta]):=ae (TP7.out.aL 1 _);obtain⟨TS8,TO8,TQ8,TR8,TB8⟩:=ej (TS7.out.far (k:=1) (u:=.slice A5 n5 c5) HB0.out.1.1) (aU (k:=1) (u:=.slice A5 n5 c5) TO7.out HB0.out.1.1) (TQ7.out.far (p:=⟨P,1,none⟩) (Ne.symm HPQ.out.1.1) (.slice A5 n5 c5)) (TR7.out.far (p:=⟨P,1,none⟩) (Ne.symm HPQ.out.1.2.1) (.slice A5 n5 c5)) (TB7.out.setCell (p:=⟨P,1,none⟩) HPQ.out.1.2.2.2 (.slice A5 n5 c5));have hb8:ag (B0≤(w7.setCell ⟨P,1,none⟩ (.slice A5 n5 c5)).heap.size):=ae (by rw[show(w7.setCell ⟨P,1,none⟩ (.slice A5 n5 c5)).heap.size=w7.heap.size by simp];exact hb7.out);clear TB7 TP7 TQ7 TR7 TS7 TO7;clear hb7;generalize w7.setCell ⟨P,1,none⟩ (.slice A5 n5 c5)=w8 at TP8 TS8 TO8 TQ8 TR8 TB8 hb8⊢;obtain⟨-,p1⟩:=jL TP8;obtain⟨-,-,q2⟩:=jf TQ8;obtain⟨j0,lD,hz0,hz1,hz2⟩:=info_parts nh;have hdr:=(Below.refl w8.heap.size w8).drew;have TB9:=aZ TB8 hdr;obtain⟨TP9,TQ9,TR9,TS9,TO9⟩:=ej (bJ TP8 hdr) (bJ TQ8 hdr) (bJ TR8 hdr) (TS8.out.low hdr) (own_below TO8.out hdr);have hb9:ag (B0≤w8.drew.heap.size):=ae hb8.out;clear hdr TP8 TB8 TS8 TO8 TQ8 TR8 hb8;refine kf 7 (fun u=>u.cell? ⟨P,1,none⟩=some (.slice A5 n5 c5)∧u.cell? ⟨Q,2,none⟩=some (.slice As ns cs)) bo (⟨p1,q2⟩) (fun hHeld=>?_);refine vy 0 ?_
   refine vy 1 ?_
   refine vy 2 ?_
   refine vy 3 ?_
   refine vQ 4 fun K hK=>?_;go_simp;refine(HCa.out _ TB9.out).mono ?_;rintro r wa⟨⟨A6,c6,rfl,ho6⟩,da⟩;have TBa:=aZ TB9 da;obtain⟨TPa,TQa,TRa,TSa,TOa⟩:=ej (bJ TP9 da) (bJ TQ9 da) (bJ TR9 da) (TS9.out.low da) (own_below TO9.out da);have hba:ag (B0≤wa.heap.size):=ae (aw hb9.out da.size);obtain⟨zs,hzs,hzo,hzx⟩:=TSa.out;obtain⟨ss,hss,hso,hsx⟩:=ho6.mono hb9.out;have lz:zs.length≤2000000:=by have e:zs.length=(gG.filter ST).length:=(by rw[←hzs,ay]);have:=List.length_filter_le ST gG;have:=jq.out;omega
   have ls':ss.length≤2000000:=by have e:ss.length=Xn.length:=(by rw[←hss,ay]);have:=vF.out;omega
   obtain⟨v',wb,hr',hob,grb⟩:=Hr (P:=ah) B0 B0 23 23 50 j0 (.agg #[aI,aI,aI,au,au,.int .u64 0,.int .u8 0,au]) 8 136 ahV lD hz0 hz1 hz2 rfl aH (.slice A5 n5 c5) zs.length (cZ zs) hzo (.slice A6 ns c6) ss.length (cZ ss) hso (ady hsx) (by unfold maxLen;omega) aQ hba.out;obtain⟨A7,c7,e7⟩:=aV hob;subst e7;have Hu:∀q,(dq A5 n5 c5).ownBlock=some q→B0≤q:=fun q hq=>(hzo.lt q hq).1
   have kb:=Keeps.row grb;have TPb:=ae (TPa.out.keep kb (fun hq=>by have:=Hu _ hq;have:=HB0.out.1;omega));have TQb:=ae (TQa.out.keep kb (fun hq=>by have:=Hu _ hq;have:=HB0.out.1;omega));have TRb:=ae (TRa.out.keep kb (fun hq=>by have:=Hu _ hq;have:=HB0.out.1;omega));have TOb:=ae (bj TOa.out kb (cE hzo) aH);have TBb:=ae (TBa.out.trans (kb.below (B:=w.heap.size) (fun q hq=>aw HB0.out.2 (Hu _ hq)) TBa.out.size));have hbb:ag (B0≤wb.heap.size):=ae (aw hba.out kb.size);have TSb:ag (cn wb B0 (.slice A7 (zs.length+ss.length) c7) (gG.filter ST++Xn)):=ae ⟨zs++ss,by rw[List.map_append,hzs,hss],by rw[RU,ai];exact hob,fun X hX=>by rcases List.mem_append.1 hX with h|h;exact(hzx X h).keep kb (cE hzo) aH aH aH;exact(hsx X h).keep kb (cE hzo) aH aH aH⟩;have Eu:=ae hr';obtain⟨n7,hn7⟩:=bq (zs.length+ss.length);rw[←hn7]at TSb Eu;have ahx:n7≤4000000:=by omega
   clear hn7 hr' hob grb kb Hu hzo hzs hzx hss hso hsx lz ls' ho6;obtain⟨-,t1⟩:=jL TPb;obtain⟨-,-,u2⟩:=jf TQb;have fr:=fun i=>TPb.out.frozen i
   refine hK.out _ _ (fun _=>⟨ak hHeld.1 da,ak hHeld.2 da⟩) (fun hHeld=>?_);have hHeld:=hHeld aH;clear hK K;try simp only[cN]
   refine vQ 5 fun K hK=>?_;refine kT rfl _ _ 23 23 rfl rfl rfl Eu.out ?_;refine hK.out _ _ (fun _=>⟨t1,u2⟩) (fun hHeld=>?_);have hHeld:=hHeld aH;clear hK K;try simp only[cN]
   refine vy 6 ?_
   refine vQ 7 fun K hK=>?_;go_simp;refine hK.out _ _ (fun h=>absurd h aH) (fun _=>?_);clear hK K;try clear hHeld
   try simp only[cN]
   refine zdX ?_;clear da Eu TPa TBa TSa TOa TQa TRa hba TP9 TB9 TS9 TO9 TQ9 TR9 hb9 p1 q2 t1 u2 fr HCa;have TPc:ag (aG (wb.setCell ⟨P,1,none⟩ (.slice A7 n7 c7)) P 26 #[.int .u64 dv,.slice A7 n7 c7,.slice B2 ic m2,.string ta]):=ae (TPb.out.aL 1 _);obtain⟨TSc,TOc,TQc,TRc,TBc⟩:=ej (TSb.out.far (k:=1) (u:=.slice A7 n7 c7) HB0.out.1.1) (aU (k:=1) (u:=.slice A7 n7 c7) TOb.out HB0.out.1.1) (TQb.out.far (p:=⟨P,1,none⟩) (Ne.symm HPQ.out.1.1) (.slice A7 n7 c7)) (TRb.out.far (p:=⟨P,1,none⟩) (Ne.symm HPQ.out.1.2.1) (.slice A7 n7 c7)) (TBb.out.setCell (p:=⟨P,1,none⟩) HPQ.out.1.2.2.2 (.slice A7 n7 c7));have hbc:ag (B0≤(wb.setCell ⟨P,1,none⟩ (.slice A7 n7 c7)).heap.size):=ae (by rw[show(wb.setCell ⟨P,1,none⟩ (.slice A7 n7 c7)).heap.size=wb.heap.size by simp];exact hbb.out);clear TBb TPb TQb TRb TSb TOb;clear hbb;generalize wb.setCell ⟨P,1,none⟩ (.slice A7 n7 c7)=wc at TPc TSc TOc TQc TRc TBc hbc⊢;obtain⟨ys,hys,hyo,hyx⟩:=TSc.out;have hyl:ys.length≤4000000:=by
    obtain⟨_,_,e⟩:=(aY.dh hyo).shape;injection e with _ e _
    omega
   have hsort:=LY ys hyl hyo (fun X hX=>(hyx X hX).rd);obtain⟨abG,HYo,HYx,HYs,yX⟩:=ej hsort hyo hyx hys (show∀q,(dq A7 n7 c7).ownBlock=some q→B0≤q from fun q hq=>(hyo.lt q hq).1);clear hsort hyo hyx hys hyl;obtain⟨-,p1⟩:=jL TPc;go_upto_region 15 with(go_at_call 65;refine abG.out.mono ?_;rintro r wd⟨rfl,⟨S,hp,hs,hod⟩,kd⟩;have TPd:=ae (TPc.out.keep kd (fun hq=>by have:=yX.out _ hq;have:=HB0.out.1;omega));have TQd:=ae (TQc.out.keep kd (fun hq=>by have:=yX.out _ hq;have:=HB0.out.1;omega));have TRd:=ae (TRc.out.keep kd (fun hq=>by have:=yX.out _ hq;have:=HB0.out.1;omega));have TOd:=ae (bj TOc.out kd (cE HYo.out) aH);have TBd:=ae (TBc.out.trans (kd.below (B:=w.heap.size) (fun q hq=>aw HB0.out.2 (yX.out _ hq)) TBc.out.size));have hbd:ag (B0≤wd.heap.size):=ae (aw hbc.out kd.size);have TSd:ag (cn wd B0 (.slice A7 n7 c7) RM.aK):=ae ⟨S,afy.out _ (by have:=hp.map (fun X:bU=>X.p);rw[HYs.out]at this;exact this) hs,by rw[hp.length_eq];exact hod,fun X hX=>(HYx.out X (hp.mem_iff.1 hX)).keep kd (cE HYo.out) aH aH aH⟩;clear hp hs hod kd)
   clear p1 abG HYo HYx HYs yX afy TPc TBc TSc TOc TQc TRc hbc;obtain⟨-,-,-,-,q4⟩:=ID TQd;go_upto_if 55 with fail
   clear q4;go_cut []from 56 (fun wx=>∃(A2:Option Addr)(n2 c2:Nat),ag (n2=RM.ax.length)∧ag (aG wx P 26 #[.int .u64 dv,.slice A7 n7 c7,.slice A2 n2 c2,.string ta])∧ag (wx.ownsRow B0 57 6 (.slice A2 n2 c2) n2 (dQ RM.ax))∧ag (cn wx B0 (.slice A7 n7 c7) RM.aK)∧ag (aG wx Q 29 #[.int .u64 db,.int .u64 dv,.slice As ns cs,.slice Ag ng cg,.bool cS,.slice Ar nr cr,.bool cX,.string kW,.string jK])∧ag (aG wx R 26 #[.int .u64 0,au,au,aI])∧ag (aW w wx)∧ag (B0≤wx.heap.size))
   case first=>
    obtain⟨-,-,-,-,-,q5⟩:=wZ TQd;cases cS with
    |false=>
     have e:RM.ax=fL:=by simpa using P2.out.2.1
     have He:=ae e;clear e;go_wp2_with fail
     go_meet;exact⟨B2,ic,m2,ae (by rw[He.out];exact kq.out),TPd,ae (by rw[He.out];exact TOd.out),TSd,TQd,TRd,TBd,hbd⟩
    |true=>
     have e:RM.ax=aaL:=by simpa using P2.out.2.1
     have He:=ae e;clear e;go_wp2_with(go_at_call 57;refine(HCr.out _ TBd.out).mono ?_;rintro r we⟨⟨A9,c9,rfl,ho9⟩,d9⟩;have TBe:=aZ TBd d9;obtain⟨TPe,TQe,TRe,TSe,TOe⟩:=ej (bJ TPd d9) (bJ TQd d9) (bJ TRd d9) (TSd.out.low d9) (ho9.mono hbd.out);have hbe:ag (B0≤we.heap.size):=ae (aw hbd.out d9.size);clear d9 ho9;obtain⟨-,-,y2⟩:=jf TPe;have fr:=fun i=>TPe.out.frozen i)
     have TPf:ag (aG (we.setCell ⟨P,2,none⟩ (.slice A9 nr c9)) P 26 #[.int .u64 dv,.slice A7 n7 c7,.slice A9 nr c9,.string ta]):=ae (TPe.out.aL 2 _);obtain⟨TSf,TOf,TQf,TRf,TBf⟩:=ej (TSe.out.far (k:=2) (u:=.slice A9 nr c9) HB0.out.1.1) (aU (k:=2) (u:=.slice A9 nr c9) TOe.out HB0.out.1.1) (TQe.out.far (p:=⟨P,2,none⟩) (Ne.symm HPQ.out.1.1) (.slice A9 nr c9)) (TRe.out.far (p:=⟨P,2,none⟩) (Ne.symm HPQ.out.1.2.1) (.slice A9 nr c9)) (TBe.out.setCell (p:=⟨P,2,none⟩) HPQ.out.1.2.2.2 (.slice A9 nr c9));have hbf:ag (B0≤(we.setCell ⟨P,2,none⟩ (.slice A9 nr c9)).heap.size):=ae (by rw[show(we.setCell ⟨P,2,none⟩ (.slice A9 nr c9)).heap.size=we.heap.size by simp];exact hbe.out);clear TBe TPe TQe TRe TSe TOe;clear hbe;generalize we.setCell ⟨P,2,none⟩ (.slice A9 nr c9)=wf at TPf TSf TOf TQf TRf TBf hbf⊢;go_meet;exact⟨A9,nr,c9,ae (by rw[He.out];exact HN5.out),TPf,ae (by rw[He.out];exact TOf.out),TSf,TQf,TRf,TBf,hbf⟩
   case rest=>
   obtain⟨A2,n2,c2,hn2,TPg,TOg,TSg,TQg,TRg,TBg,hbg⟩:=hcut;obtain⟨wg,rfl⟩:=bq (wc:World);clear TPd TOd TSd TQd TRd TBd hbd HCr;obtain⟨-,-,-,-,-,-,q6⟩:=adU TQg;go_upto_if 61 with fail
   clear q6;go_cut []from 62 (fun wx=>ag (aG wx P 26 #[.int .u64 dv,.slice A7 n7 c7,.slice A2 n2 c2,.string RM.policy])∧ag (wx.ownsRow B0 57 6 (.slice A2 n2 c2) n2 (dQ RM.ax))∧ag (cn wx B0 (.slice A7 n7 c7) RM.aK)∧ag (aG wx Q 29 #[.int .u64 db,.int .u64 dv,.slice As ns cs,.slice Ag ng cg,.bool cS,.slice Ar nr cr,.bool cX,.string kW,.string jK])∧ag (aG wx R 26 #[.int .u64 0,au,au,aI])∧ag (aW w wx)∧ag (B0≤wx.heap.size))
   case first=>
    have q7:=TQg.out.cell 7;simp at q7;cases cX with
    |false=>
     have e:RM.policy=ta:=by simpa using P2.out.2.2
     have He:=ae e;clear e;go_wp2_with fail
     go_meet;exact⟨ae (by rw[He.out];exact TPg.out),TOg,TSg,TQg,TRg,TBg,hbg⟩
    |true=>
     have e:RM.policy=kW:=by simpa using P2.out.2.2
     have He:=ae e;clear e;obtain⟨-,-,-,y3⟩:=dV TPg;have fr:=fun i=>TPg.out.frozen i
     go_wp2_with fail
     have TPh:ag (aG (wg.setCell ⟨P,3,none⟩ (.string kW)) P 26 #[.int .u64 dv,.slice A7 n7 c7,.slice A2 n2 c2,.string kW]):=ae (TPg.out.aL 3 _);obtain⟨TSh,TOh,TQh,TRh,TBh⟩:=ej (TSg.out.far (k:=3) (u:=.string kW) HB0.out.1.1) (aU (k:=3) (u:=.string kW) TOg.out HB0.out.1.1) (TQg.out.far (p:=⟨P,3,none⟩) (Ne.symm HPQ.out.1.1) (.string kW)) (TRg.out.far (p:=⟨P,3,none⟩) (Ne.symm HPQ.out.1.2.1) (.string kW)) (TBg.out.setCell (p:=⟨P,3,none⟩) HPQ.out.1.2.2.2 (.string kW));have hbh:ag (B0≤(wg.setCell ⟨P,3,none⟩ (.string kW)).heap.size):=ae (by rw[show(wg.setCell ⟨P,3,none⟩ (.string kW)).heap.size=wg.heap.size by simp];exact hbg.out);clear TBg TPg TQg TRg TSg TOg;clear hbg;generalize wg.setCell ⟨P,3,none⟩ (.string kW)=wh at TPh TSh TOh TQh TRh TBh hbh⊢;go_meet;exact⟨ae (by rw[He.out];exact TPh.out),TOh,TSh,TQh,TRh,TBh,hbh⟩
   case rest=>
   obtain⟨TPi,TOi,TSi,TQi,TRi,TBi,hbi⟩:=hcut;obtain⟨wi,rfl⟩:=bq (wc:World);clear TPg TOg TSg TQg TRg TBg hbg;have afB:n7=RM.aK.length:=by
    obtain⟨_,_,e⟩:=TSi.out.rd.shape;injection e with _ e _
   obtain⟨Hn7,agX⟩:=aN afB P2.out.1;have IA:=HMr.out wi TBi.out (.slice A7 n7 c7) (.slice A2 n2 c2) TSi.out.rd (by unfold fy;rw[←hn2.out];exact aY.dh TOi.out);have QX:=ae IA;clear afB IA HMr P2;obtain⟨p0,p1,p2,p3⟩:=dV TPi;go_upto_region 20 with(go_at_call 22;refine QX.out.mono ?_;rintro r wj⟨rfl,dj⟩)
   have TBj:=aZ TBi dj;obtain⟨TPj,TQj,TRj,TSj,TOj⟩:=ej (bJ TPi dj) (bJ TQi dj) (bJ TRi dj) (TSi.out.low dj) (own_below TOi.out dj);have hbj:ag (B0≤wj.heap.size):=ae (aw hbi.out dj.size);clear dj p0 p1 p2 p3 QX hbi;clear TBi TPi TQi TRi TSi TOi;by_cases hz:er=0;rotate_left
   ·have q0:((er:Int) !=0)=true:=by simp;omega
    have HF:=ae (HF0.out.1 hz);clear hz;obtain⟨r0,r1,r2,r3⟩:=dV TRj;have fr:=fun i=>TRj.out.frozen i
    go_wp2_with fail
    obtain⟨s9,q9⟩:=jC TRj.out TBj.out HPQ.out.2.2 (.int .u64 0) au au aI;refine bodyPost_ret (bD rfl rfl rfl (iw s9)) rfl ⟨⟨none,0,none,0,?_,?_,?_⟩,q9⟩
    ·rw[HF.out];rfl
    ·rw[HF.out];exact iN _
    ·rw[HF.out];exact dN _
   have q0:((er:Int) !=0)=false:=by simp[hz]
   have He:=ae hz;clear hz;go_upto_region 22 with fail
   clear q0;have hdr:=(Below.refl wj.heap.size wj).drew;have TBk:=aZ TBj hdr;obtain⟨TPk,TQk,TRk,TSk,TOk⟩:=ej (bJ TPj hdr) (bJ TQj hdr) (bJ TRj hdr) (TSj.out.low hdr) (own_below TOj.out hdr);have hhy:=HHr.out wj.drew TBk.out (.slice A7 n7 c7) (.slice A2 n2 c2) TSk.out.rd (by unfold fy;rw[←hn2.out];exact aY.dh TOk.out);have HHy:=ae hhy;clear hhy HHr hdr;obtain⟨E,q1⟩:∃e,(HR.toList==jK.toList)=e:=⟨_,rfl⟩;have HE:=ae q1;obtain⟨p0,p1,p2,p3⟩:=dV TPj;have q8:=TQj.out.cell 8;simp at q8;refine wp_region_held_drew (S:=(fun u=>u.cell? ⟨P,0,none⟩=some (.int .u64 dv)∧u.cell? ⟨P,1,none⟩=some (.slice A7 n7 c7)∧u.cell? ⟨P,2,none⟩=some (.slice A2 n2 c2)∧u.cell? ⟨P,3,none⟩=some (.string RM.policy)∧u.cell? ⟨Q,8,none⟩=some (.string jK))) bo (⟨p0,p1,p2,p3,q8⟩) (fun hHeld=>?_);refine bC 0 ?_
   refine bC 2 ?_
   refine bC 3 ?_
   refine jg 1 fun K hK=>?_;go_simp;refine HHy.out.mono ?_;rintro r wl⟨rfl,dl⟩;have TBl:=aZ TBk dl;obtain⟨TPl,TQl,TRl,TSl,TOl⟩:=ej (bJ TPk dl) (bJ TQk dl) (bJ TRk dl) (TSk.out.low dl) (own_below TOk.out dl);refine hK.out _ _ (⟨ak hHeld.1 dl,ak hHeld.2.1 dl,ak hHeld.2.2.1 dl,ak hHeld.2.2.2.1 dl,ak hHeld.2.2.2.2 dl⟩) (fun hHeld=>?_);clear hK K;try simp only[cN]
   refine bC 4 ?_
   refine qW ?_;have hbl:ag (B0≤wl.heap.size):=ae (aw hbj.out (show wj.heap.size≤wl.heap.size from dl.size));clear dl HHy p0 p1 p2 p3 q8 hbj;clear TBj TPj TQj TRj TSj TOj;clear TBk TPk TQk TRk TSk TOk;clear q1;cases E with
   |false=>
    have hh:HR≠jK:=fun h=>by have:=eX h;rw[HE.out]at this;cases this
    have HF:=ae (HF0.out.2.1 He.out hh);clear hh;obtain⟨r0,r1,r2,r3⟩:=dV TRl;have fr:=fun i=>TRl.out.frozen i
    go_wp2_with fail
    obtain⟨s9,q9⟩:=jC TRl.out TBl.out HPQ.out.2.2 (.int .u64 0) au au aI;refine bodyPost_ret (bD rfl rfl rfl (iw s9)) rfl ⟨⟨none,0,none,0,?_,?_,?_⟩,q9⟩
    ·rw[HF.out];rfl
    ·rw[HF.out];exact iN _
    ·rw[HF.out];exact dN _
   |true=>
    have hh:HR=jK:=by
     rcases Classical.em (HR=jK)with h|h
     ·exact h
     ·have:=fR h;rw[HE.out]at this;cases this
    have HF:=ae (HF0.out.2.2 He.out hh);clear hh HF0;go_upto_region 24 with fail
    obtain⟨p0,p1,p2,p3⟩:=dV TPl;obtain⟨r0,r1,r2,r3⟩:=dV TRl;have fr:=fun i=>TRl.out.frozen i
    go_wp2_with fail
    obtain⟨s9,q9⟩:=jC TRl.out TBl.out HPQ.out.2.2 (.int .u64 dv) (.slice A7 n7 c7) (.slice A2 n2 c2) (.string RM.policy);have z9:=Xm (P:=R) (Q:=fun u=>cn u B0 (.slice A7 n7 c7) RM.aK∧u.ownsRow B0 57 6 (.slice A2 n2 c2) n2 (dQ RM.ax)) (fun u i x hq=>⟨hq.1.far HB0.out.1.2.2,aU hq.2 HB0.out.1.2.2⟩) ⟨TSl.out,TOl.out⟩ (.int .u64 dv) (.slice A7 n7 c7) (.slice A2 n2 c2) (.string RM.policy);refine bodyPost_ret (bD rfl rfl rfl (iw s9)) rfl ⟨⟨A7,c7,A2,c2,?_,?_,?_⟩,q9⟩
    ·rw[HF.out];simp only;rw[←Hn7.out,←hn2.out,agX.out];rfl
    ·rw[HF.out];simp only;rw[←Hn7.out];exact z9.1.rd
    ·rw[HF.out];simp only;unfold fy;rw[←hn2.out];exact aY.dh z9.2
theorem RX(a:Ad){X:bU}(g:Nat){w:World}(hX:fC w X)(hl:X.p.aR.length≤4000000)(hg:∀j,j<3→w.cell? ⟨g,j,none⟩=a.cells[j]?):Calls ah 68 #[.agg X.vals.toArray,.pointer (some ⟨g,0,none⟩)] w (Got (.bool (X.p.aR.any fun y=>decide (y=a))) w):=by
 have hc:=fun u(hu:aW w u)=>ZL X.p.aR hl (hX.aR.below hu) a
 obtain⟨A1,c1,e1⟩:=hX.aR.shape;obtain⟨⟨key,bw,user,tags,aR,ex,bm,ends⟩,tv,av,ev⟩:=X;simp only at*;subst e1;generalize(aR.any fun y=>decide (y=a))=R at*;generalize aR.length=n1 at*;obtain⟨v,hi,lo⟩:=a;unfold bU.vals Ad.cells at*;simp only at*;have g0:=hg 0 aH;have g1:=hg 1 aH;have g2:=hg 2 aH;simp at g0 g1 g2;have HC:=ae hc;have hb:=boxed w (.cells #[.string key,.string bw,.string user,tv,.slice A1 n1 c1,.int .u64 ex,.int .u8 bm,ev] 50);have HS:=ae (aG.new w 50 #[.string key,.string bw,.string user,tv,.slice A1 n1 c1,.int .u64 ex,.int .u8 bm,ev]);have y0:=ak g0 hb;have y1:=ak g1 hb;have y2:=ak g2 hb;have HB:=ae hb;clear hc hX hg g0 g1 g2 hb;go_enter Tryz.func68,Tryz.ntmps68;go_upto_region 1 with fail
 generalize w.alloc (.cells #[.string key,.string bw,.string user,tv,.slice A1 n1 c1,.int .u64 ex,.int .u8 bm,ev] 50)=w1 at HB HS y0 y1 y2⊢;generalize w.heap.size=G at HS⊢;obtain⟨-,-,-,-,s0⟩:=ID HS;go_wp2_with(go_at_call 69;refine(HC.out _ HB.out).mono ?_;rintro r w2⟨rfl,d2⟩)
 go_ret;exact⟨rfl,after HB.out d2⟩
theorem RZ{w:World}{pv rv:Value}{m:Mp}(hp:dJ w pv m.aK)(hr:fy w rv m.ax)(sz:∀p∈m.aK,gm p)(hl:m.aK.length≤2000000)(a:Ad):Calls ah 19 #[.agg #[.int .u64 (m.version:Int),pv,rv,.string m.policy],.agg a.cells] w (WhR (m.aK.find? fun p=>p.aR.any fun y=>decide (y=a)) w):=by
 have hw:=fun u(hu:aW w u)g(hg:∀j,j<3→u.cell? ⟨g,j,none⟩=a.cells[j]?)=>QZ (hp.below hu) (aY.below hr hu) sz hl (fun p=>p.aR.any fun y=>decide (y=a)) 68 #[.pointer (some ⟨g,0,none⟩)] (enters_of Tryz.func68 bo rfl) (fun W hW X hX hXm=>RX a g hX (by have:=(sz _ hXm).al;omega) fun j hj=>by have:=hg j hj;have hh:∃v,u.cell? ⟨g,j,none⟩=some v:=⟨_,this.trans (kt (show j<a.cells.size from hj))⟩;obtain⟨v,hv⟩:=hh;rw[ak hv hW,←hv,this])
 obtain⟨A1,c1,e1⟩:=hp.shape;obtain⟨A2,c2,e2⟩:=aY.shape hr;clear hp hr sz hl;obtain⟨ver,aK,ax,pol⟩:=m;simp only at*;subst e1 e2;generalize aK.find? (fun p=>p.aR.any fun y=>decide (y=a))=O at*;generalize aK.length=n1 at*;generalize ax.length=n2 at*;obtain⟨v,hi,lo⟩:=a;unfold Ad.cells at*;simp only at*;unfold WhR at*;have HW:=ae hw;clear hw;obtain⟨HP,HB⟩:=aN (aG.new w 26 #[.int .u64 ver,.slice A1 n1 c1,.slice A2 n2 c2,.string pol]) (boxed w (.cells #[.int .u64 ver,.slice A1 n1 c1,.slice A2 n2 c2,.string pol] 26));have hb2:=boxed (w.alloc (.cells #[.int .u64 ver,.slice A1 n1 c1,.slice A2 n2 c2,.string pol] 26)) (.cells #[.bool v,.int .u64 hi,.int .u64 lo] 52);have hK:=aG.new (w.alloc (.cells #[.int .u64 ver,.slice A1 n1 c1,.slice A2 n2 c2,.string pol] 26)) 52 #[.bool v,.int .u64 hi,.int .u64 lo];rw[show(w.alloc (.cells #[.int .u64 ver,.slice A1 n1 c1,.slice A2 n2 c2,.string pol] 26)).heap.size=w.heap.size+1 by simp]at hK;have HP2:=ae (bJ HP hb2);have HB2:=aZ HB hb2;have hbz:=boxed ((w.alloc (.cells #[.int .u64 ver,.slice A1 n1 c1,.slice A2 n2 c2,.string pol] 26)).alloc (.cells #[.bool v,.int .u64 hi,.int .u64 lo] 52)) (.cells #[aI,aI,aI,au,au,.int .u64 0,.int .u8 0,au] 50);obtain⟨j8,fU⟩:=aN (hK.below hbz hK.lt) (bJ HP2 hbz);have HB3:=aZ HB2 hbz;have hR:=aG.new ((w.alloc (.cells #[.int .u64 ver,.slice A1 n1 c1,.slice A2 n2 c2,.string pol] 26)).alloc (.cells #[.bool v,.int .u64 hi,.int .u64 lo] 52)) 50 #[aI,aI,aI,au,au,.int .u64 0,.int .u8 0,au];rw[show((w.alloc (.cells #[.int .u64 ver,.slice A1 n1 c1,.slice A2 n2 c2,.string pol] 26)).alloc (.cells #[.bool v,.int .u64 hi,.int .u64 lo] 52)).heap.size=w.heap.size+2 by simp]at hR;have HR3:=ae hR;have Dv:ag (w.heap.size+3≤(((w.alloc (.cells #[.int .u64 ver,.slice A1 n1 c1,.slice A2 n2 c2,.string pol] 26)).alloc (.cells #[.bool v,.int .u64 hi,.int .u64 lo] 52)).alloc (.cells #[aI,aI,aI,au,au,.int .u64 0,.int .u8 0,au] 50)).heap.size):=ae (by simp);clear hb2 hbz hK hR HP HB HP2 HB2;go_enter Tryz.func19,Tryz.ntmps19;go_upto_region 1 with fail
 generalize((w.alloc (.cells #[.int .u64 ver,.slice A1 n1 c1,.slice A2 n2 c2,.string pol] 26)).alloc (.cells #[.bool v,.int .u64 hi,.int .u64 lo] 52)).alloc (.cells #[aI,aI,aI,au,au,.int .u64 0,.int .u8 0,au] 50)=w3 at j8 fU HB3 HR3 Dv⊢;have hQ:∃P K R Q,P=w.heap.size∧K=w.heap.size+1∧R=w.heap.size+2∧Q=w.heap.size+3:=⟨_,_,_,_,rfl,rfl,rfl,rfl⟩;obtain⟨P,K,R,Q,eP,eK,eR,eQ⟩:=hQ;rw[←eP]at fU;rw[←eK]at j8;rw[←eR]at HR3;rw[←eQ]at Dv;rw[←eR,←eK,←eP];have HPQ:ag (R<Q∧w.heap.size≤R∧w.heap.size≤Q):=ae aQ;clear eP eK eR eQ;obtain⟨a0,a1,a2,a3⟩:=dV fU;have HW3:=ae (HW.out w3 HB3.out K fun j hj=>j8.out.cell j);go_wp2_with(go_at_call 67;refine HW3.out.mono ?_;rintro r w4⟨⟨⟨⟨key2,bB,ck,dx,cI,iR,bL,dy⟩,tv2,av2,ev2⟩,rfl,GI,pM⟩,d4⟩;obtain⟨B1,m1,e21⟩:=aV pM.tags;obtain⟨B2,m2,e22⟩:=aV pM.aR;obtain⟨B3,m3,e23⟩:=aV pM.ends;simp only at e21 e22 e23;subst e21 e22 e23;obtain⟨Nz,VM⟩:=aN (pM.mono Dv.out) GI;obtain⟨n21,nU⟩:=bq dx.length;obtain⟨n22,nV⟩:=bq cI.length;obtain⟨n23,nW⟩:=bq dy.length;unfold bU.vals;simp only;rw[←nU,←nV,←nW];obtain⟨yr,HE2,Iz⟩:=bu nU nV nW;have HB4:=aZ HB3 d4;have yE:=bJ HR3 d4;have z0:=yE.cell 0;have z1:=yE.cell 1;have z2:=yE.cell 2;have z3:=yE.cell 3;have z4:=yE.cell 4;have z5:=yE.cell 5;have z6:=yE.cell 6;have z7:=yE.cell 7;simp at z0 z1 z2 z3 z4 z5 z6 z7;have fr:=fun i=>yE.frozen i;have HR4:=ae yE;clear nU nV nW pM GI d4 yE)
 have s1:aG _ R 50 #[.string key2,aI,aI,au,au,.int .u64 0,.int .u8 0,au]:=HR4.out.aL 0 (.string key2);have s2:aG _ R 50 #[.string key2,.string bB,aI,au,au,.int .u64 0,.int .u8 0,au]:=s1.aL 1 (.string bB);have s3:aG _ R 50 #[.string key2,.string bB,.string ck,au,au,.int .u64 0,.int .u8 0,au]:=s2.aL 2 (.string ck);have s4:aG _ R 50 #[.string key2,.string bB,.string ck,.slice B1 n21 m1,au,.int .u64 0,.int .u8 0,au]:=s3.aL 3 (.slice B1 n21 m1);have s5:aG _ R 50 #[.string key2,.string bB,.string ck,.slice B1 n21 m1,.slice B2 n22 m2,.int .u64 0,.int .u8 0,au]:=s4.aL 4 (.slice B2 n22 m2);have s6:aG _ R 50 #[.string key2,.string bB,.string ck,.slice B1 n21 m1,.slice B2 n22 m2,.int .u64 iR,.int .u8 0,au]:=s5.aL 5 (.int .u64 iR);have s7:aG _ R 50 #[.string key2,.string bB,.string ck,.slice B1 n21 m1,.slice B2 n22 m2,.int .u64 iR,.int .u8 bL,au]:=s6.aL 6 (.int .u8 bL);have s8:aG _ R 50 #[.string key2,.string bB,.string ck,.slice B1 n21 m1,.slice B2 n22 m2,.int .u64 iR,.int .u8 bL,.slice B3 n23 m3]:=s7.aL 7 (.slice B3 n23 m3);obtain⟨oz0,oz1⟩:=VN (P:=R) (Q:=fun u=>aW w u∧di u Q ⟨⟨key2,bB,ck,dx,cI,iR,bL,dy⟩,.slice B1 dx.length m1,.slice B2 cI.length m2,.slice B3 dy.length m3⟩) (fun u i x hq=>⟨hq.1.setCell (p:=⟨R,i,none⟩) HPQ.out.2.1 x,⟨aU hq.2.tags HPQ.out.1,aU hq.2.aR HPQ.out.1,aU hq.2.ends HPQ.out.1⟩⟩) ⟨HB4.out,Nz.out⟩ (.string key2) (.string bB) (.string ck) (.slice B1 n21 m1) (.slice B2 n22 m2) (.int .u64 iR) (.int .u8 bL) (.slice B3 n23 m3);refine bodyPost_ret (bD rfl rfl rfl (sG s8)) rfl ⟨⟨⟨⟨key2,bB,ck,dx,cI,iR,bL,dy⟩,.slice B1 dx.length m1,.slice B2 cI.length m2,.slice B3 dy.length m3⟩,?_,VM.out,oz1.mono HPQ.out.2.2⟩,oz0⟩;unfold bU.vals;simp only;rw[←yr.out,←HE2.out,←Iz.out];rfl
structure Rl where
 iT:List Nat
 src:List Sp
 dst:List Sp
 jI:List (Nat×Nat)
structure RlV where
 r:Rl
 p:Value
 s:Value
 d:Value
 o:Value
def adz(x:RlV):List Value:=[x.p,x.s,x.d,x.o]
def aaN(l:List RlV):List Value:=l.flatMap adz
structure afC(r:Rl):Prop where
 p:r.iT.length≤4000000
 s:r.src.length≤4000000
 d:r.dst.length≤4000000
 o:r.jI.length≤4000000
 src:∀x∈r.src,x.Ok
 dst:∀x∈r.dst,x.Ok
structure N8(w:World)(x:RlV):Prop where
 p:aY w x.p x.r.iT.length 1 (eJ x.r.iT)
 s:aY w x.s x.r.src.length 6 (N5 x.r.src)
 d:aY w x.d x.r.dst.length 6 (N5 x.r.dst)
 o:aY w x.o x.r.jI.length 2 (jb x.r.jI)
theorem N8.below{w w':World}{x:RlV}(h:N8 w x)(hb:aW w w'):N8 w' x:=⟨h.p.below hb,h.s.below hb,h.d.below hb,h.o.below hb⟩
def Xp(w:World)(v:Value)(rs:List Rl):Prop:=∃xs:List RlV,xs.map (·.r)=rs∧aY w v xs.length 4 (aaN xs)∧(∀x∈xs,N8 w x)∧∀r∈rs,afC r
theorem Xp.below{w w':World}{v:Value}{rs:List Rl}(h:Xp w v rs)(hb:aW w w'):Xp w' v rs:=by
 obtain⟨xs,h1,h2,h3,h4⟩:=h;exact⟨xs,h1,h2.below hb,fun x hx=>(h3 x hx).below hb,h4⟩
theorem Xp.shape{w:World}{v:Value}{rs:List Rl}(h:Xp w v rs):∃A c,v=.slice A rs.length c:=by
 obtain⟨xs,h1,h2,_⟩:=h;have:=h2.shape;rw[←h1,ay];exact this
attribute [local go_sem] ep
theorem yY{w:World}{g:Nat}{t:TypeId}{cs:Array Value}{n size c:Nat}(h:aG w g t cs)(hl:cs.toList.length=n*size):aY w (.slice (some ⟨g,0,none⟩) n c) n size cs.toList:=by
 refine⟨some ⟨g,0,none⟩,c,rfl,hl,fun _=>⟨g,0,rfl,fun j u hu=>?_⟩⟩;rw[Nat.zero_add];have:=h.cell j;rw[this,←ahD];exact hu
def Xq:ByteArray:=⟨#[97,110,110]⟩
def Xr:ByteArray:=⟨#[119,101,98]⟩
def afD:ByteArray:=⟨#[98,111,98]⟩
def wkA:Ad:=⟨false,0,167772161⟩
def wkB:Ad:=⟨false,0,167772162⟩
def agY:Ac:=⟨[6],[⟨2,Xq,Pf.zero⟩],[⟨4,Xr,Pf.zero⟩],[(80,80)]⟩
def wkP:Po:=⟨[],[⟨Xr,[Xq]⟩],[],[agY]⟩
def wkL:List Pe:=[⟨Xq,[],[wkA]⟩,⟨afD,[Xr],[wkB]⟩]
def Xt(w:World)(g3 g8 g13:Nat):Prop:=vH w ⟨au,.slice (some ⟨g3,0,none⟩) 1 1,au,.slice (some ⟨g8,0,none⟩) 1 1⟩ wkP∧Qh w (.slice (some ⟨g13,0,none⟩) 2 2) wkL
theorem Xt.below{w u:World}{g3 g8 g13:Nat}(h:Xt w g3 g8 g13)(hb:aW w u):Xt u g3 g8 g13:=⟨h.1.below hb,h.2.below hb⟩
def L6:ByteArray:=⟨(aS 32 (0:UInt8)).toArray⟩
def yZ:ByteArray:=⟨#[97,99,99,101,112,116,32,97,110,121,32,102,114,111,109,32,42,32,116,111,32,42]⟩
def nt(u:ByteArray):Pr:=⟨L6,L6,u,[],[⟨false,0,167772161⟩],9,0,[]⟩
def fk(v:Nat)(u:ByteArray):Mp:=⟨v,[nt u],[],yZ⟩
def nu:Array Value:=(aS 32 (Value.int .u8 0)).toArray
theorem Xu{W:World}{g:Nat}{t:TypeId}(h:aG W g t nu):(convert 67 9 (.slice (some ⟨g,0,none⟩) 32 32)).run ah W=.ok (.string L6) W:=by
 have hback:=run_convert_bytes_back (P:=ah) W 67 9 5 ⟨g,0,none⟩ 32 (aS 32 (0:UInt8)) Tryz.underlying67 cB bn (fun j hj=>by
  rw[lK]at hj;rw[NQ,h.cell j];unfold nu;rw[List.getElem?_toArray,List.getElem?_replicate,if_pos hj];have e:(aS 32 (0:UInt8))[j]'(by rw[lK];exact hj)=0:=List.getElem_replicate ..;rw[e];rfl)
 rw[lK]at hback;exact hback
theorem one_any(w:World)(v:Nat)(u:ByteArray):Calls ah 16 #[.int .u64 v,.string u] w fun r w'=>(∃A c,r=.returned (.agg #[.int .u64 v,.slice A 1 c,au,.string yZ])∧dJ w' (.slice A 1 c) (fk v u).aK)∧aW w w':=by
 have hb0:=boxed w (.cells #[.int .u64 0,au,au,aI] 26);have hR0:=aG.new w 26 #[.int .u64 0,au,au,aI];obtain⟨HB0,HR0⟩:=aN hb0 hR0;clear hb0 hR0;rw[show yZ=⟨#[97,99,99,101,112,116,32,97,110,121,32,102,114,111,109,32,42,32,116,111,32,42]⟩from rfl];go_enter Tryz.func16,Tryz.ntmps16;go_upto_region 1 with fail
 have HRl:=ae HR0.out.lt;generalize w.alloc (.cells #[.int .u64 0,au,au,aI] 26)=w1 at HB0 HR0 HRl⊢;have hRw:ag (w.heap.size≤w.heap.size):=ae (aA _);have hmk:∀W:World,(Instr.makeSlice 67 (.int .i64 32) (.int .i64 32)).run ah W=.ok (.slice (some ⟨W.heap.size,0,none⟩) 32 32) (W.alloc (.cells nu 5)):=fun W=>by kernel_rfl
 have hz0:=Xu (aG.new w1 5 nu);have hbz:=boxed w1 (.cells nu 5);have HB1:=aZ HB0 hbz;have HR1:=ae (bJ HR0 hbz);clear hbz;generalize nu=Z at hmk hz0 HB1 HR1;go_upto_region 2 with fail
 clear hmk hz0 HB0 HR0 HRl;generalize w1.alloc (.cells Z 5)=w2 at HB1 HR1⊢;generalize hzk:L6=zk;have HZk:=ae hzk.symm;clear hzk;have k1:=boxed w2 (.cells #[.bool false,.int .u64 0,.int .u64 167772161] 52);have k2:=boxed (w2.alloc (.cells #[.bool false,.int .u64 0,.int .u64 167772161] 52)) (.cells #[.string zk,.string zk,.string u,au,.slice (some ⟨w2.heap.size,0,none⟩) 1 1,.int .u64 9,.int .u8 0,au] 50);have hA:=(aG.new w2 52 #[.bool false,.int .u64 0,.int .u64 167772161]).below k2 (aG.new w2 52 #[.bool false,.int .u64 0,.int .u64 167772161]).lt;have hP:=aG.new (w2.alloc (.cells #[.bool false,.int .u64 0,.int .u64 167772161] 52)) 50 #[.string zk,.string zk,.string u,au,.slice (some ⟨w2.heap.size,0,none⟩) 1 1,.int .u64 9,.int .u8 0,au];rw[show(w2.alloc (.cells #[.bool false,.int .u64 0,.int .u64 167772161] 52)).heap.size=w2.heap.size+1 by simp]at hP;have iP:=(bJ HR1 k1).below k2 (bJ HR1 k1).lt;have HB3:=ae (after (after HB1.out k1) k2);have hne1:w2.heap.size≠w.heap.size:=by have:=HR1.out.lt;omega
 have hne2:w2.heap.size+1≠w.heap.size:=by have:=HR1.out.lt;omega
 have r0:=iP.cell 0;have r1:=iP.cell 1;have r2:=iP.cell 2;have r3:=iP.cell 3;simp at r0 r1 r2 r3;have fr:=fun i=>iP.frozen i
 obtain⟨HA,HP,HR3,HNe⟩:=cY hA hP iP (And.intro hne1 hne2);clear k1 k2 hA hP iP hne1 hne2 HB1 HR1;go_wp2_with fail
 obtain⟨s9,q9⟩:=jC HR3.out HB3.out (aA _) (.int .u64 v) (.slice (some ⟨w2.heap.size+1,0,none⟩) 1 1) au (.string ⟨#[97,99,99,101,112,116,32,97,110,121,32,102,114,111,109,32,42,32,116,111,32,42]⟩);have z9:=Xm (P:=w.heap.size) (Q:=fun W=>aG W w2.heap.size 52 #[.bool false,.int .u64 0,.int .u64 167772161]∧aG W (w2.heap.size+1) 50 #[.string zk,.string zk,.string u,au,.slice (some ⟨w2.heap.size,0,none⟩) 1 1,.int .u64 9,.int .u8 0,au]) (fun W i x hq=>⟨hq.1.far (p:=⟨w.heap.size,i,none⟩) HNe.out.1 x,hq.2.far (p:=⟨w.heap.size,i,none⟩) HNe.out.2 x⟩) ⟨HA.out,HP.out⟩ (.int .u64 v) (.slice (some ⟨w2.heap.size+1,0,none⟩) 1 1) au (.string ⟨#[97,99,99,101,112,116,32,97,110,121,32,102,114,111,109,32,42,32,116,111,32,42]⟩);have hrd:dJ ((((((w2.alloc (.cells #[.bool false,.int .u64 0,.int .u64 167772161] 52)).alloc (.cells #[.string zk,.string zk,.string u,au,.slice (some ⟨w2.heap.size,0,none⟩) 1 1,.int .u64 9,.int .u8 0,au] 50)).setCell ⟨w.heap.size,0,none⟩ (.int .u64 v)).setCell ⟨w.heap.size,1,none⟩ (.slice (some ⟨w2.heap.size+1,0,none⟩) 1 1)).setCell ⟨w.heap.size,2,none⟩ au).setCell ⟨w.heap.size,3,none⟩ (.string ⟨#[97,99,99,101,112,116,32,97,110,121,32,102,114,111,109,32,42,32,116,111,32,42]⟩)) (.slice (some ⟨w2.heap.size+1,0,none⟩) 1 1) [nt u]:=by
  generalize((((((w2.alloc (.cells #[.bool false,.int .u64 0,.int .u64 167772161] 52)).alloc (.cells #[.string zk,.string zk,.string u,au,.slice (some ⟨w2.heap.size,0,none⟩) 1 1,.int .u64 9,.int .u8 0,au] 50)).setCell ⟨w.heap.size,0,none⟩ (.int .u64 v)).setCell ⟨w.heap.size,1,none⟩ (.slice (some ⟨w2.heap.size+1,0,none⟩) 1 1)).setCell ⟨w.heap.size,2,none⟩ au).setCell ⟨w.heap.size,3,none⟩ (.string ⟨#[97,99,99,101,112,116,32,97,110,121,32,102,114,111,109,32,42,32,116,111,32,42]⟩))=W at z9⊢;rw[HZk.out]at z9;have e:cZ [⟨nt u,au,.slice (some ⟨w2.heap.size,0,none⟩) 1 1,au⟩]=(#[.string L6,.string L6,.string u,au,.slice (some ⟨w2.heap.size,0,none⟩) 1 1,.int .u64 9,.int .u8 0,au]:Array Value).toList:=rfl;have e2:du (nt u).aR=(#[.bool false,.int .u64 0,.int .u64 167772161]:Array Value).toList:=rfl;refine⟨[⟨nt u,au,.slice (some ⟨w2.heap.size,0,none⟩) 1 1,au⟩],rfl,?_,fun X hX=>?_⟩
  ·rw[e];exact yY (n:=1) (size:=8) (c:=1) z9.2 rfl
  ·rw[List.mem_singleton.1 hX];refine⟨sJ _ 1,?_,sJ _ 4⟩;show aY W _ 1 3 (du (nt u).aR);rw[e2];exact yY (n:=1) (size:=3) (c:=1) z9.1 rfl
 exact bodyPost_ret (fp (x:=4) rfl rfl (iw s9)) rfl ⟨⟨some ⟨w2.heap.size+1,0,none⟩,1,rfl,hrd⟩,q9⟩
theorem Xv{H:Mp→ByteArray}{a b:Mp}(fa:kM a)(fb:kM b):sx (dX H a b):=by
 refine⟨fa.version,fb.version,fun p hp=>fb.aK p (List.mem_filter.1 hp).1,fun r hr=>?_⟩;have hr':r∈(if a.ax≠b.ax then b.ax else []):=hr;split at hr'
 ·exact fb.ax r hr'
 ·cases hr'
def ann:ByteArray:=⟨#[97,110,110]⟩
def sU:ByteArray:=⟨#[98,111,98]⟩
theorem mo(v:Nat)(u:ByteArray)(hv:v<18446744073709551616):kM (fk v u):=by
 refine⟨hv,fun p hp=>?_,fun r hr=>by cases hr⟩;rw[List.mem_singleton.1 (show p∈[nt u]from hp)];exact⟨by show(9:Nat)<_;decide,by show(0:Nat)<_;decide,fun a ha=>by rw[List.mem_singleton.1 (show a∈[(⟨false,0,167772161⟩:Ad)]from ha)];exact⟨by decide,by decide⟩,fun e he=>by cases he⟩
theorem lH(v:Nat)(u:ByteArray)(hu:u.size≤2000000):Lp (fk v u):=by
 refine⟨fun p hp=>?_,by show 1≤_;decide,by show 0≤_;decide,by show yZ.size≤_;decide,od⟩;rw[List.mem_singleton.1 (show p∈[nt u]from hp)];exact⟨hu,by show 0≤_;decide,by show 1≤_;decide,by show 0≤_;decide,fun t ht=>by cases ht⟩
theorem vw:(cT (fk 1 ann)).2=0:=by decide+kernel
theorem N9:(cT (fk 2 sU)).2=0:=by decide+kernel
theorem adA:mT (cT (fk 1 ann)).1=(fk 1 ann,0):=Nk (U8 (mo 1 ann aH) (nR vw)) vw
theorem aaO:mV dm (fk 1 ann) (fk 2 sU)=(dX dm (fk 1 ann) (fk 2 sU),0):=by
 unfold mV;rw[if_neg (by rw[vw];decide),if_neg (by rw[N9];decide),if_neg aH]
theorem Oa(m:Mp)(h:(cT m).2=0):(dm m).size=32:=by
 unfold dm;rw[if_pos h,GN]
theorem Xw:jy dm (fk 1 ann) (dX dm (fk 1 ann) (fk 2 sU))=(fk 2 sU,0):=QD vw N9 aH (Oa _ N9)
theorem R9:dH (fk 1 ann) (dX dm (fk 1 ann) (fk 2 sU))=fk 2 sU:=ya (nR vw) (nR N9)
theorem adB:(fk 2 sU).aK.filter (jJ (fk 1 ann).aK)=[nt sU]:=by decide+kernel
theorem aaP:((fk 1 ann).aK.filter fun p=>(ox (fk 2 sU).aK p.key).isNone).map (·.key)=[]:=by decide+kernel
theorem aaQ:dX dm (fk 1 ann) (fk 2 sU)=⟨1,2,[nt sU],[],false,[],false,⟨#[]⟩,dm (fk 2 sU)⟩:=by
 unfold dX;rw[adB,aaP];rfl
theorem adC:yF (dX dm (fk 1 ann) (fk 2 sU)):=by
 rw[aaQ];refine⟨fun p hp=>?_,by show 1≤_;decide,by show 0≤_;decide,by show 0≤_;decide,by show 0≤_;decide,fun k hk=>by cases hk⟩;rw[List.mem_singleton.1 (show p∈[nt sU]from hp)];exact⟨by show 3≤_;decide,by show 0≤_;decide,by show 1≤_;decide,by show 0≤_;decide,fun t ht=>by cases ht⟩
theorem aaR:((fk 1 ann).aK.find? fun p=>p.aR.any fun y=>decide (y=(⟨false,0,167772161⟩:Ad)))=some (nt ann):=by decide+kernel
theorem aaS:(cT Mp.zero).2=220:=by decide+kernel
end Go.Proofs.YtkjaajcpbldjoaaGreatDoor
