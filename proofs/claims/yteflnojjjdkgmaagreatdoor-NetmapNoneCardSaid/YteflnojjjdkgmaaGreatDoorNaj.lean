/- Joined out of: PlP. -/
import Derived.Test.YteflnojjjdkgmaaGreatDoorNai
set_option linter.unusedVariables false
set_option linter.unusedSimpArgs false
set_option maxHeartbeats 16000000
set_option maxRecDepth 100000
open Go.Lib renaming hid→ae
open Go.Proofs.Tryz renaming prog→ag
open Go.RowKit renaming Hid→af
open Go.Value renaming slice→cJ
open Go.World renaming ownsRow_nil→a8
open List renaming length_append→ai,length_map→ax,append_assoc→aO,drop_eq_getElem_cons→bz,map_append→cA,drop_eq_nil_of_le→mC,mem_of_getElem?→oK,length_drop→wu,getElem?_eq_none_iff→afy
open Nat renaming le_trans→au
namespace Go.Proofs.YteflnojjjdkgmaaGreatDoor
open Go.RowKit
attribute [local go_sem↓] Go.wp_at_zero Go.wp_at_succ
abbrev P4:=Except Bad (Ac×List (jm×Nat))
def qk(ws:List ByteArray)(ps:List Nat)(src dst:List (jm×Nat)):List ByteArray→P4
 |[]=>.ok (⟨ps,src.map (·.1),dst.map (·.1),[]⟩,src++dst)
 |_::r5=>if r5=[]then .error (190,ws.length)else(gY r5 (ws.length-r5.length) 0).map fun po=>(⟨ps,src.map (·.1),dst.map (·.1),po⟩,src++dst)
def qm(ws:List ByteArray)(ps:List Nat)(src:List (jm×Nat)):List ByteArray→P4
 |[]=>.error (190,ws.length)
 |_::r3=>match dw lN r3 (ws.length-r3.length) 0 with
  | .error e=>.error e
  | .ok y=>qk ws ps src y.1 y.2
theorem F7{ws:List ByteArray}{told:Nat}(hne:ws≠[]):ki ws told=if 64≤told then .error (198,0)else match ws[1]? with
 |none=>.error (190,ws.length)
 |some pr=>match gj pr with
  |none=>.error (194,1)
  |some ps=>match ws[2]? with
   |none=>.error (190,ws.length)
   |some f=>if f≠uy then .error (190,2)else match dw Ky (ws.drop 3) 3 0 with
    | .error e=>.error e
    | .ok x=>qm ws ps x.1 x.2:=by
 unfold ki;by_cases h:64≤told
 ·rw[if_pos h,if_pos h]
 rw[if_neg h,if_neg h]
 match ws with
 |[]=>exact absurd rfl hne
 |[a]=>rfl
 |[a,pr]=>simp only[List.getElem?_cons_succ,List.getElem?_cons_zero,List.getElem?_nil];cases gj pr<;>rfl
 |a::pr::f::r=>
  simp only[List.getElem?_cons_succ,List.getElem?_cons_zero,List.drop_succ_cons,List.drop_zero];cases gj pr with
  |none=>rfl
  |some ps=>
   simp only;by_cases hf:f≠uy
   ·rw[if_pos hf,if_pos hf]
   rw[if_neg hf,if_neg hf];cases dw Ky r 3 0 with
   |error e=>rfl
   |ok x=>
    obtain⟨src,r2⟩:=x;cases r2 with
    |nil=>rfl
    |cons t r3=>
     unfold qm;simp only;cases dw lN r3 ((a::pr::f::r).length-r3.length) 0 with
     |error e=>rfl
     |ok y=>
      obtain⟨dst,r4⟩:=y;cases r4<;>rfl
theorem zi{ws:List ByteArray}{ps:List Nat}{src:List (jm×Nat)}{k:Nat}(hk:k<ws.length):qm ws ps src (ws.drop k)=match dw lN (ws.drop (k+1)) (k+1) 0 with
 | .error e=>.error e
 | .ok y=>qk ws ps src y.1 y.2:=by
 rw[bz hk];unfold qm;dsimp only;rw[wu,show ws.length-(ws.length-(k+1))=k+1 by omega]
theorem zj{ws:List ByteArray}{ps:List Nat}{src:List (jm×Nat)}{k:Nat}(hk:ws.length≤k):qm ws ps src (ws.drop k)=.error (190,ws.length):=by
 rw[mC hk];rfl
theorem sG(n:Nat)(a b:List (jm×Nat)):jC n (a++b)=jC n a++jC n b:=by simp[jC]
def jM(ws:List ByteArray)(k:Nat)(acc:List (Nat×Nat))(first:Bool):Except Bad (List (Nat×Nat)):=if first=true∧ws.length≤k then .error (190,ws.length)else(gY (ws.drop k) k acc.length).map (acc++·)
theorem sH{s:ByteArray}{ws:List ByteArray}{k:Nat}{acc:List (Nat×Nat)}{first:Bool}(h:ws[k]? =some s):jM ws k acc first=match kA s with
 |none=>.error (193,k)
 |some x=>if 64≤acc.length then .error (198,k)else jM ws (k+1) (acc++[x]) false:=by
 have hk:k<ws.length:=(List.getElem?_eq_some_iff.1 h).1;have hg:ws[k]=s:=(List.getElem?_eq_some_iff.1 h).2;unfold jM;rw[if_neg (show¬(first=true∧ws.length≤k) by omega),bz hk,hg]
 conv=>lhs;unfold gY
 cases kA s with
 |none=>rfl
 |some x=>
  simp only;rw[if_neg (show¬(false=true∧ws.length≤k+1) by simp)];by_cases h2:64≤acc.length
  ·rw[if_pos h2,if_pos h2];rfl
  rw[if_neg h2,if_neg h2,ai,List.length_singleton];cases gY (List.drop (k+1) ws) (k+1) (acc.length+1)with
  |error e=>rfl
  |ok l=>simp[Except.map]
theorem F8{ws:List ByteArray}{k:Nat}{acc:List (Nat×Nat)}(h:ws.length≤k):jM ws k acc false=.ok acc:=by
 unfold jM;rw[if_neg (by simp),mC h];simp[gY,Except.map]
theorem CL{ws:List ByteArray}{k:Nat}{acc:List (Nat×Nat)}(h:ws.length≤k):jM ws k acc true=.error (190,ws.length):=by
 unfold jM;rw[if_pos ⟨rfl,h⟩]
theorem zl{ws:List ByteArray}{ps:List Nat}{src dst:List (jm×Nat)}{k:Nat}(hk:k<ws.length):qk ws ps src dst (ws.drop k)=(jM ws (k+1) [] true).map fun po=>(⟨ps,src.map (·.1),dst.map (·.1),po⟩,src++dst):=by
 rw[bz hk];unfold qk jM;dsimp only;by_cases h:ws.length≤k+1
 ·rw[if_pos (mC h),if_pos ⟨rfl,h⟩];rfl
 ·rw[if_neg (show¬List.drop (k+1) ws=[]from fun e=>h (by rw[List.drop_eq_nil_iff]at e;exact e)),if_neg (show¬(true=true∧ws.length≤k+1)from fun e=>h e.2),wu,show ws.length-(ws.length-(k+1))=k+1 by omega];simp only[List.length_nil,List.nil_append];cases gY (List.drop (k+1) ws) (k+1) 0<;>rfl
theorem CM{en:ByteArray}:∀(l:List ByteArray)(i c:Nat)(L:List (jm×Nat))(t:List ByteArray),dw en l i c=.ok (L,t)→(∃p,l=p++t)∧∀s r,t=s::r→s=en:=by
 intro l
 induction l with
 |nil=>
  intro i c L t h;rw[dw]at h;split at h
  ·cases h
  injection h with h
  injection h with h2 h3
  subst h3;exact⟨⟨[],rfl⟩,fun s r h=>(by cases h)⟩
 |cons w r ih=>
  intro i c L t h;rw[dw]at h;split at h
  ·next h1=>
   injection h with h
   injection h with h2 h3
   subst h3;exact⟨⟨[],rfl⟩,fun s r h=>by injection h with h _;rw[←h];exact h1.1⟩
  ·split at h
   ·cases h
   ·next s hs=>
    split at h
    ·cases h
    next h2=>
    cases hr:dw en r (i+1) (c+1)with
    |error e=>rw[hr]at h;cases h
    |ok q=>
     rw[hr]at h;injection h with h
     injection h with h3 h4
     obtain⟨⟨p,e1⟩,e2⟩:=ih _ _ q.1 q.2 hr;rw[←h4];exact⟨⟨w::p,by rw[e1];rfl⟩,e2⟩
theorem I6{en:ByteArray}{ws:List ByteArray}{i:Nat}{L:List (jm×Nat)}{t:List ByteArray}(h:dw en (ws.drop i) i 0=.ok (L,t)):t=ws.drop (ws.length-t.length)∧∀s,ws[ws.length-t.length]? =some s→s=en:=by
 obtain⟨⟨p,e⟩,h2⟩:=CM _ _ _ _ _ h;have hd:t=ws.drop (ws.length-t.length):=by
  have e3:ws=(ws.take i++p)++t:=by rw[aO,←e,List.take_append_drop]
  have hl:(ws.take i++p).length=ws.length-t.length:=by
   have:=congrArg List.length e3;rw[ai]at this;omega
  have:(ws.take i++p++t).drop (ws.take i++p).length=t:=List.drop_left;rw[←e3,hl]at this;exact this.symm
 refine⟨hd,fun s hs=>?_⟩;have hk:=(List.getElem?_eq_some_iff.1 hs).1;rw[bz hk,(List.getElem?_eq_some_iff.1 hs).2]at hd;exact h2 _ _ hd
theorem Keeps.then_{S T:Nat→Prop}{a b c:World}(h:Keeps T a b)(k:Keeps S b c)(hs:∀x,S x→T x∨a.heap.size≤x):Keeps T a c:=⟨k.os.trans h.os,k.tape.trans h.tape,k.output.trans h.output,au h.size k.size,fun x hx hT=>(k.block x (Nat.lt_of_lt_of_le hx h.size) (fun e=>by
 rcases hs x e with h|h
 ·exact hT h
 ·omega)).trans (h.block x hx hT)⟩
theorem fV.below{w w':World}{base:Nat}{v:Value}{l:List Ac}(h:fV w base v l)(hb:Below w.heap.size w w'):fV w' base v l:=by
 obtain⟨xs,e,ha,hm⟩:=h;exact⟨xs,e,own_below ha hb,fun x hx=>⟨own_below (hm x hx).p hb,own_below (hm x hx).s hb,own_below (hm x hx).d hb,own_below (hm x hx).o hb⟩⟩
theorem fV.off{S:Nat→Prop}{w w':World}{T:List TypeId}{base:Nat}{v:Value}{l:List Ac}(h:fV w base v l)(hk:Keeps S w w')(ho:Off S w T)(h0:340∉T)(h1:5∉T)(h2:245∉T)(h3:345∉T):fV w' base v l:=by
 obtain⟨xs,e,ha,hm⟩:=h;exact⟨xs,e,aX ha hk ho h0,fun x hx=>(hm x hx).keep hk ho h1 h2 h3⟩
theorem ep.VJ{w:World}{base:Nat}{v:Value}{l:List Us}(h:ep w base v l):Off (fun k=>v.ownBlock=some k) w [249]:=by
 obtain⟨xs,_,ho⟩:=h;exact bS ho
def P5(w0 w:World)(b P n:Nat)(lv uv lst:Value)(ws:List ByteArray)(told:List Ac)(us:List Us)(pc:Array Value)(w':World)(x:Ac×List (jm×Nat))(r:Ending):Prop:=r=.returned (.tuple #[])∧∃k' lst' uv',Rs w' b P k' n lv uv' ws∧aD w' P 179 (pc.setIfInBounds 3 lst')∧fV w' w0.heap.size lst' (told++[x.1])∧ep w' w0.heap.size uv' (us++jC n x.2)∧(∀g,lst'.ownBlock=some g→lst.ownBlock=some g∨w.heap.size≤g)∧(∀g,uv'.ownBlock=some g→uv.ownBlock=some g∨w.heap.size≤g)∧x.2.length≤128
theorem F9{w0 w:World}(env:Env w0)(hE:Below w0.heap.size w0 w){b P n:Nat}{lv uv lst:Value}{ws:List ByteArray}{told:List Ac}{us:List Us}{pc:Array Value}(h:Rs w b P 1 n lv uv ws)(hP:aD w P 179 pc)(hq:pc[3]? =some lst)(hN:fV w w0.heap.size lst told)(hu:ep w w0.heap.size uv us)(hus:us.length≤3900000)(hbb:w0.heap.size≤b):Calls ag 225 #[.pointer (some ⟨b,0,none⟩)] w fun r w'=>dU (fun x=>x=b∨uv.ownBlock=some x) (fun k=>k=b∨k=P∨lst.ownBlock=some k∨uv.ownBlock=some k) w w' (ki ws told.length) n (P5 w0 w b P n lv uv lst ws told us pc w') r:=by
 obtain⟨A,cap,rfl⟩:=hN.shape;have hlen1:1≤ws.length:=by
  have:=h.ne;cases ws with
  |nil=>exact absurd rfl this
  |cons x r=>simp
 obtain⟨T,hT⟩:∃t,t=told.length:=⟨_,rfl⟩;rw[←hT]at hq hN⊢;have hPb:P≠b:=hP.wH h.blk aF;have c0:=(hP.cell 3).trans hq;have c1:=h.blk.cell 2;simp at c1;have hroom:=h.room aM aM T;rw[show Es 1 ws=0 by unfold Es;rw[if_pos hlen1]]at hroom;obtain⟨RES,dT⟩:∃r,r=ki ws T:=⟨_,rfl⟩;rw[←dT];rw[F7 h.ne]at dT;have hbs:w0.heap.size≤w.heap.size:=hE.size;have hUB:∀g,uv.ownBlock=some g→w0.heap.size≤g∧g<w.heap.size:=by
  obtain⟨xs,_,ho⟩:=hu;exact fun g hg=>ho.lt g hg
 obtain⟨HUB,jw,RS,HP,US,HN,iH,HT,HE,tm,HWl⟩:=Oy hUB hroom h hP hu hN dT hT hE env h.len;have FIN:af (∀wx,Keeps (fun x=>x=b∨uv.ownBlock=some x) w wx→Keeps (fun k=>k=b∨k=P∨(cJ A T cap).ownBlock=some k∨uv.ownBlock=some k) w wx):=ae fun wx h=>h.mono fun k _ hs=>hs.elim Or.inl fun e=>Or.inr (Or.inr (Or.inr e))
 have VK:af (Off (fun x=>x=b∨uv.ownBlock=some x) w [235,249]):=ae (fun k hk=>hk.elim (fun e=>⟨_,_,_,by subst e;exact RS.out.blk,by simp⟩) (fun e=>by obtain⟨cur,e2,fz,h1,h2⟩:=US.out.VJ k e;exact⟨cur,e2,fz,h1,by simp[List.mem_singleton.1 h2]⟩));have KP:=ae (Keeps.refl (fun x=>x=b∨uv.ownBlock=some x) w);clear hroom h hP hN dT hT hE env hu hUB;go_enter Tryz.func225,Tryz.ntmps225;go_wp2_with fail
 go_at_call 260;refine jw.out.mono ?_;rintro r w1⟨h1,d1⟩;obtain⟨RS1,US1,P6⟩:=bj (RS.out.below d1) (US.out.below d1) (KP.out.trans (Keeps.of_below d1 fun k hk _=>hk));clear RS US KP;by_cases Cf:T<64
 case neg=>
  rw[decide_eq_false Cf]at h1;unfold eI at h1;subst h1;unfold aL;exact⟨rfl,dU.bad (P6.out) (by rw[iH.out,if_pos aM])⟩
 rw[decide_eq_true Cf]at h1;unfold eI at h1;subst h1;have hR1:=iH.out;rw[if_neg aM]at hR1;have HR1:=ae hR1;clear hR1 iH jw d1 c0 c1;go_upto_region 2 with fail
 have UE:=ae (aD.new w1 340 #[.slice none 0 0,.slice none 0 0,.slice none 0 0,.slice none 0 0]);have d2:=boxed w1 (.cells #[.slice none 0 0,.slice none 0 0,.slice none 0 0,.slice none 0 0] 340);have P8:w.heap.size≤w1.heap.size:=P6.out.size;generalize w1.alloc (.cells #[.slice none 0 0,.slice none 0 0,.slice none 0 0,.slice none 0 0] 340)=w2 at UE d2⊢;obtain⟨pA,VD,xb⟩:=bj (RS1.out.below d2) (US1.out.below d2) (P6.out.trans (Keeps.of_below d2 fun k hk _=>hk));clear RS1 US1 P6;generalize w1.heap.size=N at UE d2 P8⊢;clear d2;have htake:=pA.out.take hlen1;unfold gZ at htake;have jy:=ae htake;clear htake;go_upto_region 3 with fail
 go_wp2_with fail
 go_at_call 176;refine jy.out.mono ?_;rintro r w3⟨⟨d3,e3⟩,h3⟩;have OB2:Off (fun x=>x=b) w2 [235]:=fun k hk=>⟨_,_,_,by subst hk;exact pA.out.blk,by simp⟩
 have EC:=ae (xb.out.trans (d3.mono (T:=fun x=>x=b∨uv.ownBlock=some x) fun k _ hk=>Or.inl hk));have US3:=ae (VD.out.off d3 OB2 aF);have Lt:=ae (UE.out.off d3 OB2 aF);clear VD UE;have ZL:=ae e3;clear pA xb d3 e3 OB2 jy;cases hs1:ws[1]? with
 |none=>
  rw[hs1]at h3;simp only at h3;subst h3;unfold aL;have hR:=HR1.out;rw[hs1]at hR;exact⟨rfl,dU.bad (EC.out) hR⟩
 |some pr=>
 rw[hs1]at h3;simp only at h3;subst h3;have hR2:=HR1.out;rw[hs1]at hR2;simp only at hR2;have HR2:=ae hR2;have hlt1:1<ws.length:=(List.getElem?_eq_some_iff.1 hs1).1;have adR:pr.size≤2000000:=ZL.out.sizes pr (oK hs1);have hE3:=bK HE.out EC.out (fun k hk=>hk.elim (fun e=>by subst e;exact hbb) fun e=>(HUB.out k e).1);have Ge:=FQ (tm.out.below hE3) pr adR;have x0:=Lt.out.cell 0;have z0:=Lt.out.frozen 0;simp at x0;clear hR2 HR1 hs1 hE3;unfold fm at Ge;cases hps:gj pr with
 |none=>
  rw[hps]at Ge;have P9:af (Calls ag 265 #[.string pr] w3 fun r w'=>r=.returned (.tuple #[.slice none 0 0,.bool false])∧Below w3.heap.size w3 w'):=ae Ge;have hR:=HR2.out;rw[hps]at hR;have HR3:=ae hR;clear hR HR2 Ge hps;go_upto_region 4 with(go_at_call 265;(with_reducible refine P9.out.mono ?_);rintro r w4⟨rfl,d4⟩;have Qa:=ae (Lt.out.below d4 Lt.out.lt);have y0:=Qa.out.cell 0;have yz:=Qa.out.frozen 0;simp at y0)
  clear Lt;obtain⟨CH,PZ,tn⟩:=bj (ZL.out.below d4) (US3.out.below d4) (EC.out.trans (Keeps.of_below d4 fun k hk _=>hk));clear ZL US3 EC;obtain⟨w5,hw5⟩:∃x,x=w4.setCell ⟨N,0,none⟩ (.slice none 0 0):=⟨_,rfl⟩;have UF:Keeps (fun x=>x=N) w4 w5:=by rw[hw5];exact(Keeps.refl (fun x=>x=N) w4).setCell (p:=⟨N,0,none⟩) (Or.inl rfl) _
  have YC:Off (fun x=>x=N) w4 [340]:=fun k hk=>⟨_,_,_,by subst hk;exact Qa.out,by simp⟩
  have NB5:af (aD w5 N 340 #[.slice none 0 0,.slice none 0 0,.slice none 0 0,.slice none 0 0]):=ae (by rw[hw5];exact Qa.out.aN 0 (.slice none 0 0));have Bf:=ae (tn.out.then_ UF fun x hx=>Or.inr (hx▸P8));rw[←hw5];clear hw5 Qa tn;have pB:=ae (CH.out.off UF YC aF aF);have VE:=ae (PZ.out.off UF YC aF);clear CH PZ;have hun:=pB.out.unless aM aM false 194;rw[dH hlt1]at hun;have jf:af (Calls ag 177 #[.pointer (some ⟨b,0,none⟩),.bool false,.int .i64 194] w5 fun r w'=>r=aL 194 n 1∧Below w5.heap.size w5 w'):=ae hun;clear hun d4 UF YC y0 yz P9;go_wp2_with(go_at_call 177;(with_reducible refine jf.out.mono ?_);rintro r w6⟨rfl,d6⟩;unfold aL)
  exact⟨rfl,dU.bad ((Bf.out.trans (Keeps.of_below d6 fun k hk _=>hk))) HR3.out⟩
 |some ps=>
 rw[hps]at Ge;have P9:af (Calls ag 265 #[.string pr] w3 fun r w'=>(∃v:Value,r=.returned (.tuple #[v,.bool true])∧w'.ownsRow w3.heap.size 5 1 v ps.length (dQ ps))∧Below w3.heap.size w3 w'):=ae Ge;have hR:=HR2.out;rw[hps]at hR;have HR3:=ae hR;have adS:w0.heap.size≤w3.heap.size:=by have:=EC.out.size;omega
 clear hR HR2 Ge hps;go_upto_region 4 with(go_at_call 265;(with_reducible refine P9.out.mono ?_);rintro r w4⟨⟨vp,rfl,o4⟩,d4⟩;obtain⟨Ap,cp,rfl⟩:=aQ o4;have O4:=ae o4;clear o4;have Qa:=ae (Lt.out.below d4 Lt.out.lt);have y0:=Qa.out.cell 0;have yz:=Qa.out.frozen 0;simp at y0)
 clear Lt;obtain⟨CH,PZ,tn⟩:=bj (ZL.out.below d4) (US3.out.below d4) (EC.out.trans (Keeps.of_below d4 fun k hk _=>hk));clear ZL US3 EC;have R14:=ae (O4.out.mono adS);obtain⟨w5,hw5⟩:∃x,x=w4.setCell ⟨N,0,none⟩ (.slice Ap ps.length cp):=⟨_,rfl⟩;have UF:Keeps (fun x=>x=N) w4 w5:=by rw[hw5];exact(Keeps.refl (fun x=>x=N) w4).setCell (p:=⟨N,0,none⟩) (Or.inl rfl) _
 have YC:Off (fun x=>x=N) w4 [340]:=fun k hk=>⟨_,_,_,by subst hk;exact Qa.out,by simp⟩
 have NB5:af (aD w5 N 340 #[.slice Ap ps.length cp,.slice none 0 0,.slice none 0 0,.slice none 0 0]):=ae (by rw[hw5];exact Qa.out.aN 0 (.slice Ap ps.length cp));have Bf:=ae (tn.out.then_ UF fun x hx=>Or.inr (hx▸P8));rw[←hw5];clear hw5 Qa tn;have pB:=ae (CH.out.off UF YC aF aF);have VE:=ae (PZ.out.off UF YC aF);have R15:=ae (aX R14.out UF YC aF);clear CH PZ R14;have hun:=pB.out.unless aM aM true 194;have jf:af (Calls ag 177 #[.pointer (some ⟨b,0,none⟩),.bool true,.int .i64 194] w5 fun r w'=>r=.returned (.tuple #[])∧Below w5.heap.size w5 w'):=ae hun;clear hun d4 UF YC y0 yz P9 O4 x0 z0;go_upto_region 5 with(go_at_call 177;(with_reducible refine jf.out.mono ?_);rintro r w6⟨rfl,d6⟩)
 obtain⟨CJ,YB,R16,I4,NB6⟩:=dR (pB.out.below d6) (VE.out.below d6) (own_below R15.out d6) (Bf.out.trans (Keeps.of_below d6 fun k hk _=>hk)) (NB5.out.below d6 NB5.out.lt);clear pB VE R15 Bf NB5;clear d6 jf;have fZ:=CJ.out.must aM uy;unfold oP at fZ;have ko:af (Calls ag 262 #[.pointer (some ⟨b,0,none⟩),.string ⟨#[102,114,111,109]⟩] w6 _):=ae fZ;clear fZ;go_wp2_with fail
 go_at_call 262;refine ko.out.mono ?_;rintro r w7⟨⟨d7,e7⟩,h7⟩;have ZE:Off (fun x=>x=b) w6 [235]:=fun k hk=>⟨_,_,_,by subst hk;exact CJ.out.blk,by simp⟩
 obtain⟨Bd,nX⟩:=aI (I4.out.trans (d7.mono (T:=fun x=>x=b∨uv.ownBlock=some x) fun k _ hk=>Or.inl hk)) e7;have UD:=ae (YB.out.off d7 ZE aF);have NB7:=ae (NB6.out.off d7 ZE aF);have R17:=ae (aX R16.out d7 ZE aF);clear YB NB6 R16;clear CJ I4 d7 e7 ZE ko;have gk:=HR3.out;try simp only at gk
 cases hs2:ws[2]? with
 |none=>
  rw[show 1+1=2 from rfl,hs2]at h7;simp only at h7;subst h7;unfold aL;rw[hs2]at gk;exact⟨rfl,dU.bad (Bd.out) gk⟩
 |some fr=>
 rw[show 1+1=2 from rfl,hs2]at h7;rw[hs2]at gk;simp only at h7 gk;by_cases hfr:fr=uy
 case neg=>
  rw[if_neg hfr]at h7;subst h7;unfold aL;rw[if_pos hfr]at gk;exact⟨rfl,dU.bad (Bd.out) gk⟩
 rw[if_pos hfr]at h7;rw[if_neg (by simp[hfr])]at gk;subst h7;have hlen3:3≤ws.length:=by have:=(List.getElem?_eq_some_iff.1 hs2).1;omega
 have Ci:=ae gk;clear gk HR3 hs2 hfr;have hE7:=bK HE.out Bd.out (fun k hk=>hk.elim (fun e=>by subst e;exact hbb) fun e=>(HUB.out k e).1);have hse:=CG tm.out hE7 nX.out UD.out hlen3 aM hbb Ky;have abN:w.heap.size≤w7.heap.size:=Bd.out.size;clear hE7;cases hq1:dw Ky (ws.drop 3) 3 0 with
 |error e=>
  have Qb:af (Calls ag 266 #[.pointer (some ⟨b,0,none⟩),.string ⟨#[116,111]⟩] w7 fun r w'=>Keeps (fun x=>x=b∨uv.ownBlock=some x) w7 w'∧r=aL e.1 n e.2):=ae (hse.mono fun r w'⟨h1,h2⟩=>⟨h1,by rw[show 1+1+1=3 from rfl,hq1]at h2;exact h2⟩);have hR:=Ci.out;rw[hq1]at hR;have HR:=ae hR;clear hR Ci hse hq1;go_wp2_with(go_at_call 266;(with_reducible refine Qb.out.mono ?_);rintro r w8⟨d8,rfl⟩;unfold aL)
  exact⟨rfl,dU.bad ((Bd.out.trans d8)) HR.out⟩
 |ok x=>
 obtain⟨src,r2⟩:=x;obtain⟨hr2,hto⟩:=I6 hq1;have hR:=Ci.out;rw[hq1]at hR;simp only at hR;obtain⟨k1,hk1⟩:∃k,k=ws.length-r2.length:=⟨_,rfl⟩;rw[←hk1]at hr2 hto;rw[hr2]at hR;have adT:k1≤ws.length:=by omega
 have Qb:af (Calls ag 266 #[.pointer (some ⟨b,0,none⟩),.string ⟨#[116,111]⟩] w7 fun r w'=>Keeps (fun x=>x=b∨uv.ownBlock=some x) w7 w'∧∃v uv',r=.returned v∧w'.ownsRow w7.heap.size 245 6 v src.length (fG (src.map (·.1)))∧Rs w' b P k1 n lv uv' ws∧ep w' w0.heap.size uv' (us++jC n src)∧(∀g,uv'.ownBlock=some g→uv.ownBlock=some g∨w7.heap.size≤g)∧src.length≤64):=ae (hse.mono fun r w'⟨h1,h2⟩=>⟨h1,by rw[show 1+1+1=3 from rfl,hq1]at h2;obtain⟨v,uv',g1,g2,g3,g4,g5,g6⟩:=h2;exact⟨v,uv',g1,g2,by rw[hk1];exact g3,g4,g5,g6⟩⟩);obtain⟨HR8,HTo⟩:=aI hR hto;clear hR Ci hse hq1 hr2 hto hk1;go_upto_region 7 with(go_at_call 266;(with_reducible refine Qb.out.mono ?_);rintro r w8⟨d8,vs,uv1,rfl,o8,e8,u8,g8,l8⟩;obtain⟨As,cs,rfl⟩:=aQ o8;obtain⟨O8,wI,US8,HG8⟩:=cH o8 e8 u8 g8;clear o8 e8 u8 g8;have OS7:Off (fun x=>x=b∨uv.ownBlock=some x) w7 [235,249]:=(fun k hk=>hk.elim (fun e=>⟨_,_,_,by subst e;exact nX.out.blk,by simp⟩) (fun e=>by obtain⟨cur,e2,fz,h1,h2⟩:=UD.out.VJ k e;exact⟨cur,e2,fz,h1,by simp[List.mem_singleton.1 h2]⟩));have NB8:=ae (NB7.out.off d8 OS7 aF);have y0:=NB8.out.cell 1;have yz:=NB8.out.frozen 1;simp at y0)
 have OS7:Off (fun x=>x=b∨uv.ownBlock=some x) w7 [235,249]:=(fun k hk=>hk.elim (fun e=>⟨_,_,_,by subst e;exact nX.out.blk,by simp⟩) (fun e=>by obtain⟨cur,e2,fz,h1,h2⟩:=UD.out.VJ k e;exact⟨cur,e2,fz,h1,by simp[List.mem_singleton.1 h2]⟩));have qT:=ae (Bd.out.trans d8);have R18:=ae (aX R17.out d8 OS7 aF);clear R17;have R28:=ae (O8.out.mono (au hbs abN));have HG:=ae fun g hg=>(HG8.out g hg).imp id (au abN)
 clear O8 HG8 OS7 NB7 nX UD Bd d8 Qb;obtain⟨w9,hw9⟩:∃x,x=w8.setCell ⟨N,1,none⟩ (.slice As src.length cs):=⟨_,rfl⟩;have KN9:Keeps (fun x=>x=N) w8 w9:=by rw[hw9];exact(Keeps.refl (fun x=>x=N) w8).setCell (p:=⟨N,1,none⟩) (Or.inl rfl) _
 have ON9:Off (fun x=>x=N) w8 [340]:=fun k hk=>⟨_,_,_,by subst hk;exact NB8.out,by simp⟩
 have NB9:af (aD w9 N 340 #[.slice Ap ps.length cp,.slice As src.length cs,.slice none 0 0,.slice none 0 0]):=ae (by rw[hw9];exact NB8.out.aN 1 (.slice As src.length cs));have Uz:=ae (qT.out.then_ KN9 fun x hx=>Or.inr (hx▸P8));rw[←hw9];clear hw9 NB8 qT;have ZB:=ae (wI.out.off KN9 ON9 aF aF);have US9:=ae (US8.out.off KN9 ON9 aF);have R19:=ae (aX R18.out KN9 ON9 aF);have R29:=ae (aX R28.out KN9 ON9 aF);clear wI US8 R18 R28;clear KN9 ON9 y0 yz;have fZ:=ZB.out.must adT Ky;unfold oP at fZ;have ko:af (Calls ag 262 #[.pointer (some ⟨b,0,none⟩),.string ⟨#[116,111]⟩] w9 _):=ae fZ;clear fZ;go_wp2_with fail
 go_at_call 262;refine ko.out.mono ?_;rintro r w10⟨⟨d10,e10⟩,h10⟩;have OB9:Off (fun x=>x=b) w9 [235]:=fun k hk=>⟨_,_,_,by subst hk;exact ZB.out.blk,by simp⟩
 obtain⟨lU,lT⟩:=aI (Uz.out.trans (d10.mono (T:=fun x=>x=b∨uv.ownBlock=some x) fun k _ hk=>Or.inl hk)) e10;have ZN:=ae (US9.out.off d10 OB9 aF);have abO:=ae (NB9.out.off d10 OB9 aF);have abP:=ae (aX R19.out d10 OB9 aF);have abQ:=ae (aX R29.out d10 OB9 aF);clear US9 NB9 R19 R29;clear ZB Uz d10 e10 OB9 ko;cases hs3:ws[k1]? with
 |none=>
  have hge:ws.length≤k1:=by rw[afy]at hs3;exact hs3
  rw[hs3]at h10;simp only at h10;subst h10;unfold aL;exact⟨rfl,dU.bad (lU.out) (HR8.out.trans (zj hge))⟩
 |some tw=>
 have htw:=HTo.out tw hs3;rw[hs3]at h10;simp only at h10;rw[if_pos htw]at h10;subst h10;have adU:k1+1≤ws.length:=(List.getElem?_eq_some_iff.1 hs3).1;have VL:=HR8.out;rw[zi aM]at VL;clear HR8 HTo htw hs3;have abR:=bK HE.out lU.out (fun k hk=>hk.elim (fun e=>by subst e;exact hbb) fun e=>(HUB.out k e).1);have hse:=CG tm.out abR lT.out ZN.out adU (by rw[ai];unfold jC;rw[ax];omega) hbb lN;have YD:w.heap.size≤w10.heap.size:=lU.out.size;have HTH:af (∀wx,Keeps (fun x=>x=b∨uv1.ownBlock=some x) w10 wx→Keeps (fun x=>x=b∨uv.ownBlock=some x) w wx):=ae fun wx hd=>lU.out.then_ hd fun x hx=>hx.elim (fun e=>Or.inl (Or.inl e)) fun e=>(HG.out x e).elim (fun e=>Or.inl (Or.inr e)) Or.inr
 clear abR;cases hq2:dw lN (ws.drop (k1+1)) (k1+1) 0 with
 |error e=>
  have Qb:af (Calls ag 266 #[.pointer (some ⟨b,0,none⟩),.string ⟨#[112,111,114,116,115]⟩] w10 fun r w'=>Keeps (fun x=>x=b∨uv1.ownBlock=some x) w10 w'∧r=aL e.1 n e.2):=ae (hse.mono fun r w'⟨h1,h2⟩=>⟨h1,by rw[hq2]at h2;exact h2⟩);rw[hq2]at VL;have HR:=ae VL;clear VL hse hq2;go_wp2_with(go_at_call 266;(with_reducible refine Qb.out.mono ?_);rintro r qU⟨d11,rfl⟩;unfold aL)
  exact⟨rfl,dU.bad ((HTH.out _ d11)) HR.out⟩
 |ok x=>
 obtain⟨dst,r4⟩:=x;obtain⟨hr4,hpo⟩:=I6 hq2;rw[hq2]at VL;simp only at VL;obtain⟨k2,hk2⟩:∃k,k=ws.length-r4.length:=⟨_,rfl⟩;rw[←hk2]at hr4 hpo;rw[hr4]at VL;have aeR:k2≤ws.length:=by omega
 have Qb:af (Calls ag 266 #[.pointer (some ⟨b,0,none⟩),.string ⟨#[112,111,114,116,115]⟩] w10 fun r w'=>Keeps (fun x=>x=b∨uv1.ownBlock=some x) w10 w'∧∃v uv',r=.returned v∧w'.ownsRow w10.heap.size 245 6 v dst.length (fG (dst.map (·.1)))∧Rs w' b P k2 n lv uv' ws∧ep w' w0.heap.size uv' ((us++jC n src)++jC n dst)∧(∀g,uv'.ownBlock=some g→uv1.ownBlock=some g∨w10.heap.size≤g)∧dst.length≤64):=ae (hse.mono fun r w'⟨h1,h2⟩=>⟨h1,by rw[hq2]at h2;obtain⟨v,uv',g1,g2,g3,g4,g5,g6⟩:=h2;exact⟨v,uv',g1,g2,by rw[hk2];exact g3,g4,g5,g6⟩⟩);obtain⟨VM,Lu⟩:=aI VL hpo;have abS:Off (fun x=>x=b∨uv1.ownBlock=some x) w10 [235,249]:=(fun k hk=>hk.elim (fun e=>⟨_,_,_,by subst e;exact lT.out.blk,by simp⟩) (fun e=>by obtain⟨cur,e2,fz,h1,h2⟩:=ZN.out.VJ k e;exact⟨cur,e2,fz,h1,by simp[List.mem_singleton.1 h2]⟩));have I7:=ae abS;clear VL hse hq2 hr4 hpo hk2 abS;go_upto_region 9 with(go_at_call 266;(with_reducible refine Qb.out.mono ?_);rintro r qU⟨d11,vd,uv2,rfl,o11,e11,u11,g11,l11⟩;obtain⟨Ad,cd,rfl⟩:=aQ o11;obtain⟨O11,oC,abT,abU⟩:=cH o11 e11 u11 g11;clear o11 e11 u11 g11;have Qc:=ae (abO.out.off d11 I7.out aF);have y0:=Qc.out.cell 2;have yz:=Qc.out.frozen 2;simp at y0)
 have qj:=ae (HTH.out _ d11);have abV:=ae (aX abP.out d11 I7.out aF);have abW:=ae (aX abQ.out d11 I7.out aF);clear abP abQ;have abX:=ae (O11.out.mono (au hbs YD));have HG2:=ae fun g hg=>(abU.out g hg).elim (HG.out g) (fun h=>Or.inr (au YD h))
 clear O11 abU I7 abO lT ZN lU d11 Qb HTH HG;obtain⟨w12,VN⟩:∃x,x=qU.setCell ⟨N,2,none⟩ (.slice Ad dst.length cd):=⟨_,rfl⟩;have Gf:Keeps (fun x=>x=N) qU w12:=by rw[VN];exact(Keeps.refl (fun x=>x=N) qU).setCell (p:=⟨N,2,none⟩) (Or.inl rfl) _
 have Lx:Off (fun x=>x=N) qU [340]:=fun k hk=>⟨_,_,_,by subst hk;exact Qc.out,by simp⟩
 have Ly:af (aD w12 N 340 #[.slice Ap ps.length cp,.slice As src.length cs,.slice Ad dst.length cd,.slice none 0 0]):=ae (by rw[VN];exact Qc.out.aN 2 (.slice Ad dst.length cd));have xc:=ae (qj.out.then_ Gf fun x hx=>Or.inr (hx▸P8));rw[←VN];clear VN Qc qj;have zn:=ae (oC.out.off Gf Lx aF aF);have VO:=ae (abT.out.off Gf Lx aF);have VP:=ae (aX abV.out Gf Lx aF);have VQ:=ae (aX abW.out Gf Lx aF);have VR:=ae (aX abX.out Gf Lx aF);clear oC abT abV abW abX;clear Gf Lx y0 yz;have hmore:=zn.out.more;obtain⟨j0,hj,hj0,hj1,hj2⟩:=info_parts Vw;by_cases VS:k2<ws.length
 case neg=>
  rw[decide_eq_false VS]at hmore;have kX:=ae hmore;have hR:=VM.out;rw[mC aM,qk]at hR;have HRF:=ae hR;clear hR hmore VM;go_upto_region 18 with(go_at_call 263;(with_reducible refine kX.out.mono ?_);rintro r Cj⟨rfl,d13⟩)
  obtain⟨uV,Qd,Qe,Qf,Qg,zo,CN⟩:=mS (zn.out.below d13) (VO.out.below d13) (own_below VP.out d13) (own_below VQ.out d13) (own_below VR.out d13) (Ly.out.below d13 Ly.out.lt) (xc.out.trans (Keeps.of_below d13 fun k hk _=>hk));clear zn VO VP VQ VR Ly xc;have abY:=ae (a8 Cj w0.heap.size 345 2);clear d13 kX Lu;have adV:w.heap.size≤Cj.heap.size:=CN.out.size;have PE:=ae (HP.out.off CN.out VK.out aF);obtain⟨xs,hxs,hac,hmem⟩:=HN.out.off CN.out VK.out aF aF aF aF;have UB:af (some N≠(cJ A T cap).ownBlock):=ae fun e=>by
   obtain⟨xs,_,ho,_⟩:=HN.out;have:=(ho.lt N e.symm).2;omega
  rw[←HT.out]at hac;have F5:=ae hxs;have x0:=(PE.out.cell 3).trans hq;have x2:=uV.out.blk.cell 2;have n0:=zo.out.cell 0;have n1:=zo.out.cell 1;have n2:=zo.out.cell 2;have n3:=zo.out.cell 3;simp at x2 n0 n1 n2 n3;obtain⟨iZ,dI⟩:∃x,x=(Cj.alloc (.cells #[.slice Ap ps.length cp,.slice As src.length cs,.slice Ad dst.length cd,.slice none 0 0] 340)).drew:=⟨_,rfl⟩;have kG:af (iZ.ownsRow w0.heap.size 340 4 (.slice A T cap) T (lR xs)):=ae (by rw[dI];exact hac.alloc _);have ic:af (∀j u,[.slice Ap ps.length cp,.slice As src.length cs,.slice Ad dst.length cd,.slice none 0 0][j]? =some u→iZ.cell? ((⟨Cj.heap.size,0,none⟩:Addr).add j)=some u):=ae (by rw[dI];exact cz Cj [.slice Ap ps.length cp,.slice As src.length cs,.slice Ad dst.length cd,.slice none 0 0] 340);have kP:af (aD iZ P 179 pc):=ae (by rw[dI];exact PE.out.alloc _);have uP:af (aD iZ N 340 #[.slice Ap ps.length cp,.slice As src.length cs,.slice Ad dst.length cd,.slice none 0 0]):=ae (by rw[dI];exact zo.out.alloc _);have kn:af (Rs iZ b P k2 n lv uv2 ws):=ae (by rw[dI];exact⟨(uV.out.alloc _).blk,(uV.out.alloc _).row,uV.out.ne,uV.out.len,uV.out.sizes⟩);have EB:af (Keeps (fun x=>x=b∨uv.ownBlock=some x) w iZ):=ae (by rw[dI];exact(CN.out.alloc _).drew);have bE:Below Cj.heap.size Cj iZ:=by rw[dI];have q:=boxed Cj (.cells #[.slice Ap ps.length cp,.slice As src.length cs,.slice Ad dst.length cd,.slice none 0 0] 340);exact⟨q.os,q.tape,q.output,q.size,q.block⟩
  have ZO:af (∀x∈xs,oR iZ w0.heap.size x):=ae fun x hx=>⟨own_below (hmem x hx).p bE,own_below (hmem x hx).s bE,own_below (hmem x hx).d bE,own_below (hmem x hx).o bE⟩
  have ZQ:=ae (Qd.out.below bE);have HMN:af (oR iZ w0.heap.size ⟨⟨ps,src.map (·.1),dst.map (·.1),[]⟩,.slice Ap ps.length cp,.slice As src.length cs,.slice Ad dst.length cd,.slice none 0 0⟩):=ae ⟨own_below Qe.out bE,by rw[ax];exact own_below Qf.out bE,by rw[ax];exact own_below Qg.out bE,own_below abY.out bE⟩;have Lq:iZ.heap.size=Cj.heap.size+1:=by rw[dI];simp
  have y0:=(kP.out.cell 3).trans hq;have y2:=kn.out.blk.cell 2;have v0:=uP.out.cell 0;have v1:=uP.out.cell 1;have v2:=uP.out.cell 2;have v3:=uP.out.cell 3;simp at y2 v0 v1 v2 v3;clear hxs hac hmem bE Qd uV PE zo Qe Qf Qg abY CN;rw[dI]at kG ic kP uP y0 y2 v0 v1 v2 v3;refine dt 16 (fun w'=>w'.cell? ⟨b,2,none⟩=some (.pointer (some ⟨P,0,none⟩))∧w'.cell? ⟨P,3,none⟩=some (.slice A T cap)∧w'.cell? ⟨N,0,none⟩=some (.slice Ap ps.length cp)∧w'.cell? ⟨N,1,none⟩=some (.slice As src.length cs)∧w'.cell? ⟨N,2,none⟩=some (.slice Ad dst.length cd)∧w'.cell? ⟨N,3,none⟩=some (.slice none 0 0)) bg (⟨x2,x0,n0,n1,n2,n3⟩) (fun hHeld=>?_);refine dm 0 ?_
  refine dm 1 ?_
  refine dm 2 ?_
  refine dm 3 ?_
  refine dm 4 ?_
  refine dm 5 ?_
  refine dm 6 ?_
  refine dm 7 ?_
  refine dm 8 ?_
  refine dm 9 ?_
  refine dm 10 ?_
  refine dm 11 ?_
  refine lI 12 fun K hK=>?_;go_simp
  skip
  refine hK.out _ _ (fun _=>⟨y2,y0,v0,v1,v2,v3⟩) (fun hHeld=>?_);have hHeld:=hHeld aF;clear hK K;try simp only[cq]
  refine lI 13 fun K hK=>?_;refine step_append_lies _ (by rfl) _ _ _ (by rfl) w0.heap.size 340 j0 (.agg #[.slice none 0 0,.slice none 0 0,.slice none 0 0,.slice none 0 0]) 4 96 Tryz.underlying177 hj hj0 hj1 hj2 rfl aF _ T _ (by rfl) kG.out ⟨Cj.heap.size,0,none⟩ 1 1 [.slice Ap ps.length cp,.slice As src.length cs,.slice Ad dst.length cd,.slice none 0 0] (by rfl) rfl ic.out (by intro u hu;simp at hu;rcases hu with rfl|rfl|rfl|rfl<;>rfl) aF (by unfold maxLen;omega) aM (by simp;omega) (Cj.heap.size+1) (by simp) ?_;intro g' cap' py hown' hgrow hat lS;have BP:=ae (kP.out.off (Keeps.row hgrow) (bS kG.out) aF);have eZ:=uP.out.grown hgrow UB.out;have p0:=(BP.out.cell 3).trans hq;have pz:=BP.out.frozen 3;have m0:=eZ.cell 0;have m1:=eZ.cell 1;have m2:=eZ.cell 2;have m3:=eZ.cell 3;rw[←dI]at hgrow kG;have R15:=ae (kn.out.off (Keeps.row hgrow) (bS kG.out) aF aF);have U15:=ae (ZQ.out.off (Keeps.row hgrow) (bS kG.out) aF);have ZR:=ae (HMN.out.keep (Keeps.row hgrow) (bS kG.out) aF aF aF);have zh:=ae fun x hx=>(ZO.out x hx).keep (Keeps.row hgrow) (bS kG.out) aF aF (by decide)
  have p2:=R15.out.blk.cell 2;simp at m0 m1 m2 m3 p2;obtain⟨kF,ff,Lm⟩:=bj hown' hgrow hat;clear hown' hgrow hat lS eZ;refine hK.out _ _ (fun _=>⟨p2,p0,m0,m1,m2,m3⟩) (fun hHeld=>?_);have hHeld:=hHeld aF;clear hK K;try simp only[cq]
  refine lI 14 fun K hK=>?_;go_simp;refine hK.out _ _ (fun _=>hHeld) (fun hHeld=>?_);have hHeld:=hHeld aF;clear hK K;try simp only[cq]
  refine dm 15 ?_
  refine lI 16 fun K hK=>?_;go_simp;refine hK.out _ _ (fun h=>absurd rfl h) (fun _=>?_);clear hK K hHeld;try simp only[cq]
  refine J9 ?_;go_wp2_with fail
  have KQ:=(Keeps.refl (fun x=>x=P) py).setCell (p:=⟨P,3,none⟩) (Or.inl rfl) (.slice (some ⟨g',0,none⟩) (T+1) cap');have OQ:Off (fun x=>x=P) py [179]:=fun k hk=>⟨_,_,_,by subst hk;exact BP.out,by simp⟩
  have K2:=(Keeps.grown (FIN.out _ EB.out) ff.out fun k hk=>Or.inl (Or.inr (Or.inr (Or.inl hk)))).setCell (p:=⟨P,3,none⟩) (Or.inl (Or.inr (Or.inl rfl))) (.slice (some ⟨g',0,none⟩) (T+1) cap');have B2:aD (py.setCell ⟨P,3,none⟩ (.slice (some ⟨g',0,none⟩) (T+1) cap')) P 179 (pc.setIfInBounds 3 (.slice (some ⟨g',0,none⟩) (T+1) cap')):=BP.out.aN 3 _;refine⟨rfl,_,results_none rfl _ _ _,dU.good HRF.out K2 ⟨rfl,_,_,_,R15.out.off KQ OQ aF aF,B2,⟨xs++[⟨⟨ps,src.map (·.1),dst.map (·.1),[]⟩,.slice Ap ps.length cp,.slice As src.length cs,.slice Ad dst.length cd,.slice none 0 0⟩],?_,?_,?_⟩,?_,?_,HG2.out,by rw[ai];omega⟩⟩
  ·rw[cA,F5.out];rfl
  ·rw[ai,←HT.out,qh];exact aX kF.out KQ OQ (by decide)
  ·intro x hx;rcases List.mem_append.1 hx with hx|hx
   ·exact(zh.out x hx).keep KQ OQ aF aF (by decide)
   ·rw[List.mem_singleton.1 hx];exact ZR.out.keep KQ OQ aF aF (by decide)
  ·rw[sG,←aO];exact U15.out.off KQ OQ (by decide)
  ·intro g hg;have hgg:some g'=some g:=hg;injection hgg with hgg
   rcases Lm.out with h|h
   ·exact Or.inl (hgg▸h)
   ·exact Or.inr (by omega)
 rw[decide_eq_true VS]at hmore;have kX:=ae hmore;have hR:=VM.out;rw[zl VS]at hR;obtain⟨PO,hPO⟩:∃r,r=jM ws (k2+1) [] true:=⟨_,rfl⟩;rw[←hPO]at hR;obtain⟨LC,HPO⟩:=aI hR hPO;obtain⟨pw,hpw⟩:∃s,ws[k2]? =some s:=⟨_,List.getElem?_eq_getElem VS⟩;have hpe:=Lu.out pw hpw;clear hR hmore VM hPO;go_upto_region 10 with(go_at_call 263;(with_reducible refine kX.out.mono ?_);rintro r Cj⟨rfl,d13⟩)
 obtain⟨uV,Qd,Qe,Qf,Qg,zo,CN⟩:=mS (zn.out.below d13) (VO.out.below d13) (own_below VP.out d13) (own_below VQ.out d13) (own_below VR.out d13) (Ly.out.below d13 Ly.out.lt) (xc.out.trans (Keeps.of_below d13 fun k hk _=>hk));clear zn VO VP VQ VR Ly xc;clear d13 kX Lu;have fZ:=uV.out.must aM lN;unfold oP at fZ;rw[hpw]at fZ;simp only[if_pos hpe]at fZ;have ko:af (Calls ag 262 #[.pointer (some ⟨b,0,none⟩),.string ⟨#[112,111,114,116,115]⟩] Cj fun r w'=>(Keeps (fun x=>x=b) Cj w'∧Rs w' b P (k2+1) n lv uv2 ws)∧r=.returned (.tuple #[])):=ae fZ;clear fZ hpe hpw;go_upto_region 11 with(go_at_call 262;(with_reducible refine ko.out.mono ?_);rintro r iZ⟨⟨kQ,e14⟩,rfl⟩)
 have LD:Off (fun x=>x=b) Cj [235]:=fun k hk=>⟨_,_,_,by subst hk;exact uV.out.blk,by simp⟩
 obtain⟨ZS,VT⟩:=aI (CN.out.trans (kQ.mono (T:=fun x=>x=b∨uv.ownBlock=some x) fun k _ hk=>Or.inl hk)) e14;have abZ:=ae (Qd.out.off kQ LD aF);have Qh:=ae (zo.out.off kQ LD aF);have ab0:=ae (aX Qe.out kQ LD aF);have ab1:=ae (aX Qf.out kQ LD aF);have ab2:=ae (aX Qg.out kQ LD aF);clear Qd zo Qe Qf Qg;clear uV CN kQ e14 LD ko;obtain⟨i0,hi,hz0,hz1,hz2⟩:=info_parts Vv;have hNb:N≠b:=Qh.out.wH VT.out.blk aF;have aeS:=Qh.out.lt;have zp:af (∀wx,Keeps (fun x=>x=b∨x=N) iZ wx→Keeps (fun x=>x=b∨uv.ownBlock=some x) w wx):=ae fun wx hd=>ZS.out.then_ hd fun x hx=>hx.elim (fun e=>Or.inl (Or.inl e)) fun e=>Or.inr (by omega)
 have ZT:af (∀wx,Keeps (fun x=>x=b∨x=N) iZ wx→Env wx):=ae fun wx hd=>tm.out.below (bK HE.out (zp.out wx hd) (fun k hk=>hk.elim (fun e=>by subst e;exact hbb) fun e=>(HUB.out k e).1))
 go_wp2_with fail
 go_loopw [4] (fun v4 wr=>∃(k:Nat)(acc:List (Nat×Nat))(first:Bool)(v:Value),v4=.bool first∧1≤k∧k≤ws.length∧af (acc.length≤64)∧af (Rs wr b P k n lv uv2 ws)∧af (Keeps (fun x=>x=b∨x=N) iZ wr)∧af (aD wr N 340 #[.slice Ap ps.length cp,.slice As src.length cs,.slice Ad dst.length cd,v])∧af (wr.ownsRow iZ.heap.size 345 2 v acc.length (gG acc))∧af (PO=jM ws k acc first)) (fun _ wr=>ws.length+1-uN wr b)
 case atStart=>exact⟨k2+1,[],true,_,rfl,by omega,by omega,ae (by simp),VT,ae (Keeps.refl _ _),Qh,ae (a8 _ _ _ _),HPO⟩
 case round=>
  obtain⟨k,acc,first,v,rfl,hk3,hk,hacc,hrs,hkp,hbn,hown,hres⟩:=hrel;have xJ:=ae hrs.out.next;obtain⟨A1,c1,rfl⟩:=aQ hown.out;obtain⟨L,hL⟩:∃l,l=acc.length:=⟨_,rfl⟩;rw[←hL]at hown hbn;have hacc:=hacc.out;rw[←hL]at hacc;have HL:=ae hL;clear hL;cases first with
  |true=>
   have RS:=hrs;have KP:=hkp;have BN:=hbn;have OW:=hown;clear hrs hkp hbn hown;have htake:=RS.out.take hk;unfold gZ at htake;have jy:=ae htake;clear htake;have OB8:Off (fun x=>x=b) wr [235]:=fun k hk=>⟨_,_,_,by subst hk;exact RS.out.blk,by simp⟩
   have ZU:=ae OB8;clear OB8;go_wp2_with fail
   go_at_call 176;refine jy.out.mono ?_;rintro r w8⟨⟨d8,e8⟩,h8⟩;have qT:=ae (KP.out.trans (d8.mono (T:=fun x=>x=b∨x=N) fun k _ hk=>Or.inl hk));have xa:=ae (BN.out.off d8 ZU.out aF);have FT:=ae (aX OW.out d8 ZU.out aF);have wI:=ae e8;clear RS KP BN OW d8 e8 ZU jy;cases hsk:ws[k]? with
   |none=>
    have hge:ws.length≤k:=by rw[afy]at hsk;exact hsk
    rw[hsk]at h8;simp only at h8;subst h8;unfold aL;exact⟨rfl,dU.bad ((zp.out _ qT.out)) (by rw[LC.out,hres.out,CL hge];rfl)⟩
   |some s=>
   have hlt:k<ws.length:=(List.getElem?_eq_some_iff.1 hsk).1;rw[hsk]at h8;simp only at h8;subst h8;have hss:s.size≤2000000:=wI.out.sizes s (oK hsk);have hpt:=xY (ZT.out _ qT.out) s hss;have hst:=hres.out;rw[sH hsk]at hst;obtain⟨o,ho⟩:∃o,o=kA s:=⟨_,rfl⟩;rw[←ho]at hpt hst;clear ho hsk hres;cases o with
   |none=>
    have ED:af (Calls ag 267 #[.string s] w8 fun r w'=>(∃a b:Nat,r=.returned (.tuple #[.agg #[.int .u16 a,.int .u16 b],.bool false]))∧Below w8.heap.size w8 w'):=ae (hpt.mono fun r w'⟨⟨a,b,_,_,h,_⟩,h2⟩=>⟨⟨a,b,h⟩,h2⟩);have EE:=ae hst;clear hpt hst;go_upto_region 15 with(go_at_call 267;(with_reducible refine ED.out.mono ?_);rintro r w9⟨⟨p1,p2,rfl⟩,d9⟩)
    have d10:=after d9 (boxed w9 (.cells #[.int .u16 p1,.int .u16 p2] 345));generalize w9.alloc (.cells #[.int .u16 p1,.int .u16 p2] 345)=w10 at d10⊢;obtain⟨lT,lU⟩:=aI (wI.out.below d10) (qT.out.trans (Keeps.of_below d10 fun k hk _=>hk));clear wI qT;clear d10 d9 ED;have hun:=lT.out.unless aM aM false 193;rw[dH hlt]at hun;have jf:af (Calls ag 177 #[.pointer (some ⟨b,0,none⟩),.bool false,.int .i64 193] w10 fun r w'=>r=aL 193 n k∧Below w10.heap.size w10 w'):=ae hun;clear hun;go_wp2_with(go_at_call 177;(with_reducible refine jf.out.mono ?_);rintro r qU⟨rfl,d11⟩;unfold aL)
    exact⟨rfl,dU.bad ((zp.out _ (lU.out.trans (Keeps.of_below d11 fun k hk _=>hk)))) (by rw[LC.out,EE.out];rfl)⟩
   |some pp=>
   obtain⟨p1,p2⟩:=pp;have ED:af (Calls ag 267 #[.string s] w8 (Got (.tuple #[.agg #[.int .u16 p1,.int .u16 p2],.bool true]) w8)):=ae (hpt.mono fun r w'⟨⟨a,b,_,_,h,h3⟩,h2⟩=>⟨by have:=h3 _ rfl;injection this with e1 e2;subst e1 e2;exact h,h2⟩);have EE:=ae hst;clear hpt hst;go_upto_region 15 with(go_at_call 267;(with_reducible refine ED.out.mono ?_);rintro r w9⟨rfl,d9⟩)
   have d10:=after d9 (boxed w9 (.cells #[.int .u16 p1,.int .u16 p2] 345));have uW:=ae (aD.new w9 345 #[.int .u16 p1,.int .u16 p2]);have Yx:=d9.size;generalize w9.alloc (.cells #[.int .u16 p1,.int .u16 p2] 345)=w10 at d10 uW⊢;generalize w9.heap.size=M at Yx uW⊢;obtain⟨lT,lU,eZ,Qi⟩:=cH (wI.out.below d10) (qT.out.trans (Keeps.of_below d10 fun k hk _=>hk)) (xa.out.below d10 xa.out.lt) (own_below FT.out d10);clear wI qT xa FT;clear d10 d9 ED;have hun:=lT.out.unless aM aM true 193;have jf:af (Calls ag 177 #[.pointer (some ⟨b,0,none⟩),.bool true,.int .i64 193] w10 fun r w'=>r=.returned (.tuple #[])∧Below w10.heap.size w10 w'):=ae hun;clear hun;go_upto_region 16 with(go_at_call 177;(with_reducible refine jf.out.mono ?_);rintro r qU⟨rfl,d11⟩)
   obtain⟨oC,qj,rz,zg,Gg⟩:=dR (lT.out.below d11) (lU.out.trans (Keeps.of_below d11 fun k hk _=>hk)) (eZ.out.below d11 eZ.out.lt) (own_below Qi.out d11) (uW.out.below d11 uW.out.lt);clear lT lU eZ Qi uW;clear d11 jf;obtain⟨-,-,-,x3⟩:=dy rz;have hro:=oC.out.room aM aM L;rw[dH hlt]at hro;have pC:=ae hro;clear hro;by_cases h64:64≤L
   ·have hR:=EE.out;try simp only at hR
    rw[←HL.out,if_pos h64]at hR;rw[decide_eq_false aM]at pC;have lV:af (Calls ag 260 #[.pointer (some ⟨b,0,none⟩),.int .i64 L] qU fun r w'=>r=aL 198 n k∧Below qU.heap.size qU w'):=pC;have Lr:=ae hR;clear pC hR EE h64;go_wp2_with(go_at_call 260;(with_reducible refine lV.out.mono ?_);rintro r w12⟨rfl,d12⟩;unfold aL)
    exact⟨rfl,dU.bad ((zp.out _ (qj.out.trans (Keeps.of_below d12 fun k hk _=>hk)))) (by rw[LC.out,Lr.out];rfl)⟩
   have hR:=EE.out;try simp only at hR
   rw[←HL.out,if_neg h64]at hR;rw[decide_eq_true aM]at pC;have lV:af (Calls ag 260 #[.pointer (some ⟨b,0,none⟩),.int .i64 L] qU fun r w'=>r=.returned (.tuple #[])∧Below qU.heap.size qU w'):=pC;have uO:=ae hR;clear pC hR EE;go_upto_region 17 with(go_at_call 260;(with_reducible refine lV.out.mono ?_);rintro r w12⟨rfl,d12⟩)
   obtain⟨zn,xc,Qj,zq,Qk⟩:=dR (oC.out.below d12) (qj.out.trans (Keeps.of_below d12 fun k hk _=>hk)) (rz.out.below d12 rz.out.lt) (own_below zg.out d12) (Gg.out.below d12 Gg.out.lt);clear oC qj rz zg Gg;clear d12 lV x3;have x3:=Qj.out.cell 3;have m0:=Qk.out.cell 0;have m1:=Qk.out.cell 1;simp at x3 m0 m1;have Yz:=xc.out.size;go_wp2_with(at_builtin;refine wpList_append_lies _ rfl _ _ 338 rfl iZ.heap.size 345 i0 (.agg #[.int .u16 0,.int .u16 0]) 2 4 Tryz.underlying338 hi hz0 hz1 hz2 rfl aF _ L _ rfl (zq.out.alloc _) ⟨w12.heap.size,0,none⟩ 1 1 [.int .u16 p1,.int .u16 p2] rfl rfl (cz w12 [.int .u16 p1,.int .u16 p2] 345) (by intro u hu;simp at hu;rcases hu with rfl|rfl<;>rfl) aF (by unfold maxLen;omega) aM (by simp;omega) (w12.heap.size+1) (by simp) ?_;intro g' cap' py hown' hgrow hat lS;have zr:=ae ((Qj.out.alloc (.cells #[.int .u16 p1,.int .u16 p2] 345)).off (Keeps.row hgrow) (bS (zq.out.alloc (.cells #[.int .u16 p1,.int .u16 p2] 345))) aF);obtain⟨-,-,-,x15⟩:=dy zr;have z15:=zr.out.frozen 3;obtain⟨kF,ff⟩:=aI hown' hgrow;clear hown' hgrow hat lS)
   have KS:Keeps (fun k=>(cJ A1 L c1).ownBlock=some k) (w12.alloc (.cells #[.int .u16 p1,.int .u16 p2] 345)) py:=Keeps.row ff.out;have OS:=bS (zq.out.alloc (.cells #[.int .u16 p1,.int .u16 p2] 345));have ZV:=(zn.out.alloc (.cells #[.int .u16 p1,.int .u16 p2] 345)).off KS OS aF aF;have ZW:=Keeps.grown (xc.out.alloc (.cells #[.int .u16 p1,.int .u16 p2] 345)) ff.out fun g hg=>Or.inr (zq.out.lt g hg).1
   have uU:=ZW.setCell (p:=⟨N,3,none⟩) (Or.inl (Or.inr rfl)) (.slice (some ⟨g',0,none⟩) (L+1) cap');have KN:=(Keeps.refl (fun x=>x=N) py).setCell (p:=⟨N,3,none⟩) (Or.inl rfl) (.slice (some ⟨g',0,none⟩) (L+1) cap');have ON:Off (fun x=>x=N) py [340]:=fun k hk=>⟨_,_,_,by subst hk;exact zr.out,by simp⟩
   have pD:=ZV.off KN ON aF aF;have uT:=aX kF.out KN ON aF;have ZX:aD (py.setCell ⟨N,3,none⟩ (.slice (some ⟨g',0,none⟩) (L+1) cap')) N 340 #[.slice Ap ps.length cp,.slice As src.length cs,.slice Ad dst.length cd,.slice (some ⟨g',0,none⟩) (L+1) cap']:=zr.out.aN 3 _;refine⟨⟨k+1,acc++[(p1,p2)],false,_,rfl,by omega,by omega,ae (by rw[ai,←HL.out];simp;omega),ae pD,ae uU,ae ZX,ae (by rw[ai,←HL.out,np];exact uT),uO⟩,?_⟩;rw[pD.next,xJ.out];omega
  |false=>
   have hmore:=ae hrs.out.more;by_cases hlt0:k<ws.length
   ·rw[decide_eq_true hlt0]at hmore;go_upto_region 14 with(go_at_call 263;(with_reducible refine hmore.out.mono ?_);rintro r w7⟨rfl,d7⟩)
    obtain⟨RS,KP,BN,OW⟩:=cH (hrs.out.below d7) (hkp.out.trans (Keeps.of_below d7 fun k hk _=>hk)) (hbn.out.below d7 hbn.out.lt) (own_below hown.out d7);clear hrs hkp hbn hown hmore d7;have htake:=RS.out.take hk;unfold gZ at htake;have jy:=ae htake;clear htake;have OB8:Off (fun x=>x=b) w7 [235]:=fun k hk=>⟨_,_,_,by subst hk;exact RS.out.blk,by simp⟩
    have ZU:=ae OB8;clear OB8;go_wp2_with fail
    go_at_call 176;refine jy.out.mono ?_;rintro r w8⟨⟨d8,e8⟩,h8⟩;have qT:=ae (KP.out.trans (d8.mono (T:=fun x=>x=b∨x=N) fun k _ hk=>Or.inl hk));have xa:=ae (BN.out.off d8 ZU.out aF);have FT:=ae (aX OW.out d8 ZU.out aF);have wI:=ae e8;clear RS KP BN OW d8 e8 ZU jy;cases hsk:ws[k]? with
    |none=>
     have hge:ws.length≤k:=by rw[afy]at hsk;exact hsk
     rw[hsk]at h8;simp only at h8;subst h8;unfold aL;exact⟨rfl,dU.bad ((zp.out _ qT.out)) (absurd hge aM)⟩
    |some s=>
    have hlt:k<ws.length:=(List.getElem?_eq_some_iff.1 hsk).1;rw[hsk]at h8;simp only at h8;subst h8;have hss:s.size≤2000000:=wI.out.sizes s (oK hsk);have hpt:=xY (ZT.out _ qT.out) s hss;have hst:=hres.out;rw[sH hsk]at hst;obtain⟨o,ho⟩:∃o,o=kA s:=⟨_,rfl⟩;rw[←ho]at hpt hst;clear ho hsk hres;cases o with
    |none=>
     have ED:af (Calls ag 267 #[.string s] w8 fun r w'=>(∃a b:Nat,r=.returned (.tuple #[.agg #[.int .u16 a,.int .u16 b],.bool false]))∧Below w8.heap.size w8 w'):=ae (hpt.mono fun r w'⟨⟨a,b,_,_,h,_⟩,h2⟩=>⟨⟨a,b,h⟩,h2⟩);have EE:=ae hst;clear hpt hst;go_upto_region 15 with(go_at_call 267;(with_reducible refine ED.out.mono ?_);rintro r w9⟨⟨p1,p2,rfl⟩,d9⟩)
     have d10:=after d9 (boxed w9 (.cells #[.int .u16 p1,.int .u16 p2] 345));generalize w9.alloc (.cells #[.int .u16 p1,.int .u16 p2] 345)=w10 at d10⊢;obtain⟨lT,lU⟩:=aI (wI.out.below d10) (qT.out.trans (Keeps.of_below d10 fun k hk _=>hk));clear wI qT;clear d10 d9 ED;have hun:=lT.out.unless aM aM false 193;rw[dH hlt]at hun;have jf:af (Calls ag 177 #[.pointer (some ⟨b,0,none⟩),.bool false,.int .i64 193] w10 fun r w'=>r=aL 193 n k∧Below w10.heap.size w10 w'):=ae hun;clear hun;go_wp2_with(go_at_call 177;(with_reducible refine jf.out.mono ?_);rintro r qU⟨rfl,d11⟩;unfold aL)
     exact⟨rfl,dU.bad ((zp.out _ (lU.out.trans (Keeps.of_below d11 fun k hk _=>hk)))) (by rw[LC.out,EE.out];rfl)⟩
    |some pp=>
    obtain⟨p1,p2⟩:=pp;have ED:af (Calls ag 267 #[.string s] w8 (Got (.tuple #[.agg #[.int .u16 p1,.int .u16 p2],.bool true]) w8)):=ae (hpt.mono fun r w'⟨⟨a,b,_,_,h,h3⟩,h2⟩=>⟨by have:=h3 _ rfl;injection this with e1 e2;subst e1 e2;exact h,h2⟩);have EE:=ae hst;clear hpt hst;go_upto_region 15 with(go_at_call 267;(with_reducible refine ED.out.mono ?_);rintro r w9⟨rfl,d9⟩)
    have d10:=after d9 (boxed w9 (.cells #[.int .u16 p1,.int .u16 p2] 345));have uW:=ae (aD.new w9 345 #[.int .u16 p1,.int .u16 p2]);have Yx:=d9.size;generalize w9.alloc (.cells #[.int .u16 p1,.int .u16 p2] 345)=w10 at d10 uW⊢;generalize w9.heap.size=M at Yx uW⊢;obtain⟨lT,lU,eZ,Qi⟩:=cH (wI.out.below d10) (qT.out.trans (Keeps.of_below d10 fun k hk _=>hk)) (xa.out.below d10 xa.out.lt) (own_below FT.out d10);clear wI qT xa FT;clear d10 d9 ED;have hun:=lT.out.unless aM aM true 193;have jf:af (Calls ag 177 #[.pointer (some ⟨b,0,none⟩),.bool true,.int .i64 193] w10 fun r w'=>r=.returned (.tuple #[])∧Below w10.heap.size w10 w'):=ae hun;clear hun;go_upto_region 16 with(go_at_call 177;(with_reducible refine jf.out.mono ?_);rintro r qU⟨rfl,d11⟩)
    obtain⟨oC,qj,rz,zg,Gg⟩:=dR (lT.out.below d11) (lU.out.trans (Keeps.of_below d11 fun k hk _=>hk)) (eZ.out.below d11 eZ.out.lt) (own_below Qi.out d11) (uW.out.below d11 uW.out.lt);clear lT lU eZ Qi uW;clear d11 jf;obtain⟨-,-,-,x3⟩:=dy rz;have hro:=oC.out.room aM aM L;rw[dH hlt]at hro;have pC:=ae hro;clear hro;by_cases h64:64≤L
    ·have hR:=EE.out;try simp only at hR
     rw[←HL.out,if_pos h64]at hR;rw[decide_eq_false aM]at pC;have lV:af (Calls ag 260 #[.pointer (some ⟨b,0,none⟩),.int .i64 L] qU fun r w'=>r=aL 198 n k∧Below qU.heap.size qU w'):=pC;have Lr:=ae hR;clear pC hR EE h64;go_wp2_with(go_at_call 260;(with_reducible refine lV.out.mono ?_);rintro r w12⟨rfl,d12⟩;unfold aL)
     exact⟨rfl,dU.bad ((zp.out _ (qj.out.trans (Keeps.of_below d12 fun k hk _=>hk)))) (by rw[LC.out,Lr.out];rfl)⟩
    have hR:=EE.out;try simp only at hR
    rw[←HL.out,if_neg h64]at hR;rw[decide_eq_true aM]at pC;have lV:af (Calls ag 260 #[.pointer (some ⟨b,0,none⟩),.int .i64 L] qU fun r w'=>r=.returned (.tuple #[])∧Below qU.heap.size qU w'):=pC;have uO:=ae hR;clear pC hR EE;go_upto_region 17 with(go_at_call 260;(with_reducible refine lV.out.mono ?_);rintro r w12⟨rfl,d12⟩)
    obtain⟨zn,xc,Qj,zq,Qk⟩:=dR (oC.out.below d12) (qj.out.trans (Keeps.of_below d12 fun k hk _=>hk)) (rz.out.below d12 rz.out.lt) (own_below zg.out d12) (Gg.out.below d12 Gg.out.lt);clear oC qj rz zg Gg;clear d12 lV x3;have x3:=Qj.out.cell 3;have m0:=Qk.out.cell 0;have m1:=Qk.out.cell 1;simp at x3 m0 m1;have Yz:=xc.out.size;go_wp2_with(at_builtin;refine wpList_append_lies _ rfl _ _ 338 rfl iZ.heap.size 345 i0 (.agg #[.int .u16 0,.int .u16 0]) 2 4 Tryz.underlying338 hi hz0 hz1 hz2 rfl aF _ L _ rfl (zq.out.alloc _) ⟨w12.heap.size,0,none⟩ 1 1 [.int .u16 p1,.int .u16 p2] rfl rfl (cz w12 [.int .u16 p1,.int .u16 p2] 345) (by intro u hu;simp at hu;rcases hu with rfl|rfl<;>rfl) aF (by unfold maxLen;omega) aM (by simp;omega) (w12.heap.size+1) (by simp) ?_;intro g' cap' py hown' hgrow hat lS;have zr:=ae ((Qj.out.alloc (.cells #[.int .u16 p1,.int .u16 p2] 345)).off (Keeps.row hgrow) (bS (zq.out.alloc (.cells #[.int .u16 p1,.int .u16 p2] 345))) aF);obtain⟨-,-,-,x15⟩:=dy zr;have z15:=zr.out.frozen 3;obtain⟨kF,ff⟩:=aI hown' hgrow;clear hown' hgrow hat lS)
    have KS:Keeps (fun k=>(cJ A1 L c1).ownBlock=some k) (w12.alloc (.cells #[.int .u16 p1,.int .u16 p2] 345)) py:=Keeps.row ff.out;have OS:=bS (zq.out.alloc (.cells #[.int .u16 p1,.int .u16 p2] 345));have ZV:=(zn.out.alloc (.cells #[.int .u16 p1,.int .u16 p2] 345)).off KS OS aF aF;have ZW:=Keeps.grown (xc.out.alloc (.cells #[.int .u16 p1,.int .u16 p2] 345)) ff.out fun g hg=>Or.inr (zq.out.lt g hg).1
    have uU:=ZW.setCell (p:=⟨N,3,none⟩) (Or.inl (Or.inr rfl)) (.slice (some ⟨g',0,none⟩) (L+1) cap');have KN:=(Keeps.refl (fun x=>x=N) py).setCell (p:=⟨N,3,none⟩) (Or.inl rfl) (.slice (some ⟨g',0,none⟩) (L+1) cap');have ON:Off (fun x=>x=N) py [340]:=fun k hk=>⟨_,_,_,by subst hk;exact zr.out,by simp⟩
    have pD:=ZV.off KN ON aF aF;have uT:=aX kF.out KN ON aF;have ZX:aD (py.setCell ⟨N,3,none⟩ (.slice (some ⟨g',0,none⟩) (L+1) cap')) N 340 #[.slice Ap ps.length cp,.slice As src.length cs,.slice Ad dst.length cd,.slice (some ⟨g',0,none⟩) (L+1) cap']:=zr.out.aN 3 _;refine⟨⟨k+1,acc++[(p1,p2)],false,_,rfl,by omega,by omega,ae (by rw[ai,←HL.out];simp;omega),ae pD,ae uU,ae ZX,ae (by rw[ai,←HL.out,np];exact uT),uO⟩,?_⟩;rw[pD.next,xJ.out];omega
   ·rw[decide_eq_false hlt0]at hmore;have hR:=hres.out;rw[F8 aM]at hR;have HRF:af (RES=.ok (⟨ps,src.map (·.1),dst.map (·.1),acc⟩,src++dst)):=ae (by rw[LC.out,hR];rfl);have OK:Off (fun x=>x=b∨x=N) iZ [235,340]:=fun k hk=>hk.elim (fun e=>⟨_,_,_,by subst e;exact VT.out.blk,by simp⟩) (fun e=>⟨_,_,_,by subst e;exact Qh.out,by simp⟩)
    have HOK:=ae OK;clear hR hres OK;go_upto_region 18 with(go_at_call 263;(with_reducible refine hmore.out.mono ?_);rintro r Ql⟨rfl,tM⟩)
    have KK:=hkp.out.trans (Keeps.of_below tM fun k hk _=>hk);obtain⟨Gh,Qm,LG⟩:=bj (hrs.out.below tM) (zp.out _ KK) (hbn.out.below tM hbn.out.lt);have ab3:=ae (abZ.out.off KK HOK.out aF);have ab4:=ae (aX ab0.out KK HOK.out aF);have ab5:=ae (aX ab1.out KK HOK.out aF);have ab6:=ae (aX ab2.out KK HOK.out aF);clear abZ ab0 ab1 ab2;have ab7:af (Ql.ownsRow w0.heap.size 345 2 (.slice A1 L c1) acc.length (gG acc)):=ae (by rw[←HL.out];exact(own_below hown.out tM).mono (by have:=ZS.out.size;omega));clear KK HOK tM hmore hrs hkp hbn hown zp ZT Qh VT ZS;have adV:w.heap.size≤Ql.heap.size:=Qm.out.size;have PE:=ae (HP.out.off Qm.out VK.out aF);obtain⟨xs,hxs,hac,hmem⟩:=HN.out.off Qm.out VK.out aF aF aF aF;have UB:af (some N≠(cJ A T cap).ownBlock):=ae fun e=>by
     obtain⟨xs,_,ho,_⟩:=HN.out;have:=(ho.lt N e.symm).2;omega
    rw[←HT.out]at hac;have F5:=ae hxs;have x0:=(PE.out.cell 3).trans hq;have x2:=Gh.out.blk.cell 2;have n0:=LG.out.cell 0;have n1:=LG.out.cell 1;have n2:=LG.out.cell 2;have n3:=LG.out.cell 3;simp at x2 n0 n1 n2 n3;obtain⟨iZ,dI⟩:∃x,x=(Ql.alloc (.cells #[.slice Ap ps.length cp,.slice As src.length cs,.slice Ad dst.length cd,.slice A1 L c1] 340)).drew:=⟨_,rfl⟩;have kG:af (iZ.ownsRow w0.heap.size 340 4 (.slice A T cap) T (lR xs)):=ae (by rw[dI];exact hac.alloc _);have ic:af (∀j u,[.slice Ap ps.length cp,.slice As src.length cs,.slice Ad dst.length cd,.slice A1 L c1][j]? =some u→iZ.cell? ((⟨Ql.heap.size,0,none⟩:Addr).add j)=some u):=ae (by rw[dI];exact cz Ql [.slice Ap ps.length cp,.slice As src.length cs,.slice Ad dst.length cd,.slice A1 L c1] 340);have kP:af (aD iZ P 179 pc):=ae (by rw[dI];exact PE.out.alloc _);have uP:af (aD iZ N 340 #[.slice Ap ps.length cp,.slice As src.length cs,.slice Ad dst.length cd,.slice A1 L c1]):=ae (by rw[dI];exact LG.out.alloc _);have kn:af (Rs iZ b P k n lv uv2 ws):=ae (by rw[dI];exact⟨(Gh.out.alloc _).blk,(Gh.out.alloc _).row,Gh.out.ne,Gh.out.len,Gh.out.sizes⟩);have EB:af (Keeps (fun x=>x=b∨uv.ownBlock=some x) w iZ):=ae (by rw[dI];exact(Qm.out.alloc _).drew);have bE:Below Ql.heap.size Ql iZ:=by rw[dI];have q:=boxed Ql (.cells #[.slice Ap ps.length cp,.slice As src.length cs,.slice Ad dst.length cd,.slice A1 L c1] 340);exact⟨q.os,q.tape,q.output,q.size,q.block⟩
    have ZO:af (∀x∈xs,oR iZ w0.heap.size x):=ae fun x hx=>⟨own_below (hmem x hx).p bE,own_below (hmem x hx).s bE,own_below (hmem x hx).d bE,own_below (hmem x hx).o bE⟩
    have ZQ:=ae (ab3.out.below bE);have HMN:af (oR iZ w0.heap.size ⟨⟨ps,src.map (·.1),dst.map (·.1),acc⟩,.slice Ap ps.length cp,.slice As src.length cs,.slice Ad dst.length cd,.slice A1 L c1⟩):=ae ⟨own_below ab4.out bE,by rw[ax];exact own_below ab5.out bE,by rw[ax];exact own_below ab6.out bE,own_below ab7.out bE⟩;have Lq:iZ.heap.size=Ql.heap.size+1:=by rw[dI];simp
    have y0:=(kP.out.cell 3).trans hq;have y2:=kn.out.blk.cell 2;have v0:=uP.out.cell 0;have v1:=uP.out.cell 1;have v2:=uP.out.cell 2;have v3:=uP.out.cell 3;simp at y2 v0 v1 v2 v3;clear hxs hac hmem bE ab3 Gh PE LG ab4 ab5 ab6 ab7 Qm;rw[dI]at kG ic kP uP y0 y2 v0 v1 v2 v3;refine dt 16 (fun w'=>w'.cell? ⟨b,2,none⟩=some (.pointer (some ⟨P,0,none⟩))∧w'.cell? ⟨P,3,none⟩=some (.slice A T cap)∧w'.cell? ⟨N,0,none⟩=some (.slice Ap ps.length cp)∧w'.cell? ⟨N,1,none⟩=some (.slice As src.length cs)∧w'.cell? ⟨N,2,none⟩=some (.slice Ad dst.length cd)∧w'.cell? ⟨N,3,none⟩=some (.slice A1 L c1)) bg (⟨x2,x0,n0,n1,n2,n3⟩) (fun hHeld=>?_);refine dm 0 ?_
    refine dm 1 ?_
    refine dm 2 ?_
    refine dm 3 ?_
    refine dm 4 ?_
    refine dm 5 ?_
    refine dm 6 ?_
    refine dm 7 ?_
    refine dm 8 ?_
    refine dm 9 ?_
    refine dm 10 ?_
    refine dm 11 ?_
    refine lI 12 fun K hK=>?_;go_simp
    skip
    refine hK.out _ _ (fun _=>⟨y2,y0,v0,v1,v2,v3⟩) (fun hHeld=>?_);have hHeld:=hHeld aF;clear hK K;try simp only[cq]
    refine lI 13 fun K hK=>?_;refine step_append_lies _ (by rfl) _ _ _ (by rfl) w0.heap.size 340 j0 (.agg #[.slice none 0 0,.slice none 0 0,.slice none 0 0,.slice none 0 0]) 4 96 Tryz.underlying177 hj hj0 hj1 hj2 rfl aF _ T _ (by rfl) kG.out ⟨Ql.heap.size,0,none⟩ 1 1 [.slice Ap ps.length cp,.slice As src.length cs,.slice Ad dst.length cd,.slice A1 L c1] (by rfl) rfl ic.out (by intro u hu;simp at hu;rcases hu with rfl|rfl|rfl|rfl<;>rfl) aF (by unfold maxLen;omega) aM (by simp;omega) (Ql.heap.size+1) (by simp) ?_;intro g' cap' py hown' hgrow hat lS;have BP:=ae (kP.out.off (Keeps.row hgrow) (bS kG.out) aF);have eZ:=uP.out.grown hgrow UB.out;have p0:=(BP.out.cell 3).trans hq;have pz:=BP.out.frozen 3;have m0:=eZ.cell 0;have m1:=eZ.cell 1;have m2:=eZ.cell 2;have m3:=eZ.cell 3;rw[←dI]at hgrow kG;have R15:=ae (kn.out.off (Keeps.row hgrow) (bS kG.out) aF aF);have U15:=ae (ZQ.out.off (Keeps.row hgrow) (bS kG.out) aF);have ZR:=ae (HMN.out.keep (Keeps.row hgrow) (bS kG.out) aF aF aF);have zh:=ae fun x hx=>(ZO.out x hx).keep (Keeps.row hgrow) (bS kG.out) aF aF (by decide)
    have p2:=R15.out.blk.cell 2;simp at m0 m1 m2 m3 p2;obtain⟨kF,ff,Lm⟩:=bj hown' hgrow hat;clear hown' hgrow hat lS eZ;refine hK.out _ _ (fun _=>⟨p2,p0,m0,m1,m2,m3⟩) (fun hHeld=>?_);have hHeld:=hHeld aF;clear hK K;try simp only[cq]
    refine lI 14 fun K hK=>?_;go_simp;refine hK.out _ _ (fun _=>hHeld) (fun hHeld=>?_);have hHeld:=hHeld aF;clear hK K;try simp only[cq]
    refine dm 15 ?_
    refine lI 16 fun K hK=>?_;go_simp;refine hK.out _ _ (fun h=>absurd rfl h) (fun _=>?_);clear hK K hHeld;try simp only[cq]
    refine J9 ?_;go_wp2_with fail
    have KQ:=(Keeps.refl (fun x=>x=P) py).setCell (p:=⟨P,3,none⟩) (Or.inl rfl) (.slice (some ⟨g',0,none⟩) (T+1) cap');have OQ:Off (fun x=>x=P) py [179]:=fun k hk=>⟨_,_,_,by subst hk;exact BP.out,by simp⟩
    have K2:=(Keeps.grown (FIN.out _ EB.out) ff.out fun k hk=>Or.inl (Or.inr (Or.inr (Or.inl hk)))).setCell (p:=⟨P,3,none⟩) (Or.inl (Or.inr (Or.inl rfl))) (.slice (some ⟨g',0,none⟩) (T+1) cap');have B2:aD (py.setCell ⟨P,3,none⟩ (.slice (some ⟨g',0,none⟩) (T+1) cap')) P 179 (pc.setIfInBounds 3 (.slice (some ⟨g',0,none⟩) (T+1) cap')):=BP.out.aN 3 _;refine⟨rfl,_,results_none rfl _ _ _,dU.good HRF.out K2 ⟨rfl,_,_,_,R15.out.off KQ OQ aF aF,B2,⟨xs++[⟨⟨ps,src.map (·.1),dst.map (·.1),acc⟩,.slice Ap ps.length cp,.slice As src.length cs,.slice Ad dst.length cd,.slice A1 L c1⟩],?_,?_,?_⟩,?_,?_,HG2.out,by rw[ai];omega⟩⟩
    ·rw[cA,F5.out];rfl
    ·rw[ai,←HT.out,qh];exact aX kF.out KQ OQ (by decide)
    ·intro x hx;rcases List.mem_append.1 hx with hx|hx
     ·exact(zh.out x hx).keep KQ OQ aF aF (by decide)
     ·rw[List.mem_singleton.1 hx];exact ZR.out.keep KQ OQ aF aF (by decide)
    ·rw[sG,←aO];exact U15.out.off KQ OQ (by decide)
    ·intro g hg;have hgg:some g'=some g:=hg;injection hgg with hgg
     rcases Lm.out with h|h
     ·exact Or.inl (hgg▸h)
     ·exact Or.inr (by omega)
end Go.Proofs.YteflnojjjdkgmaaGreatDoor
