/- Joined out of: PlP PlQ PxB PxD PxE PxF PxJ PxK PlR PlS PlT PlU. -/
import Derived.Test.YtkjaajcpbldjoabGreatDoorLae
import Derived.Recover
set_option linter.unusedVariables false
set_option linter.unusedSimpArgs false
set_option maxHeartbeats 16000000
set_option maxRecDepth 100000
open Go.ByteArray renaming toList_eq→cE
open Go.Lib renaming hid→ae
open Go.Proofs.Tryz renaming prog→ah,underlying9→bq
open Go.RowKit renaming Hid→ag
open Go.Value renaming slice→dq
open Go.World renaming ownsRow_nil→bh
open List renaming length_append→aj,length_map→ay,append_assoc→aO,drop_eq_getElem_cons→bT,map_append→cL,mem_of_getElem?→iD,drop_eq_nil_of_le→nW,length_drop→zd,getElem?_eq_none_iff→aid
open Nat renaming le_trans→aw,le_refl→ax
namespace Go.Proofs.YtkjaajcpbldjoabGreatDoor
open Go.RowKit
attribute [local go_sem↓] Go.wp_at_zero Go.wp_at_succ
abbrev Up:=Except Bad (Ac×List (kD×Nat))
def rT(ws:List ByteArray)(ps:List Nat)(src dst:List (kD×Nat)):List ByteArray→Up
 |[]=>.ok (⟨ps,src.map (·.1),dst.map (·.1),[]⟩,src++dst)
 |_::r5=>if r5=[]then .error (190,ws.length)else(jw r5 (ws.length-r5.length) 0).map fun po=>(⟨ps,src.map (·.1),dst.map (·.1),po⟩,src++dst)
def rU(ws:List ByteArray)(ps:List Nat)(src:List (kD×Nat)):List ByteArray→Up
 |[]=>.error (190,ws.length)
 |_::r3=>match dZ ny r3 (ws.length-r3.length) 0 with
  | .error e=>.error e
  | .ok y=>rT ws ps src y.1 y.2
theorem JU{ws:List ByteArray}{told:Nat}(hne:ws≠[]):lU ws told=if 64≤told then .error (198,0)else match ws[1]? with
 |none=>.error (190,ws.length)
 |some pr=>match iW pr with
  |none=>.error (194,1)
  |some ps=>match ws[2]? with
   |none=>.error (190,ws.length)
   |some f=>if f≠xk then .error (190,2)else match dZ Ph (ws.drop 3) 3 0 with
    | .error e=>.error e
    | .ok x=>rU ws ps x.1 x.2:=by
 unfold lU;by_cases h:64≤told
 ·rw[if_pos h,if_pos h]
 rw[if_neg h,if_neg h]
 match ws with
 |[]=>exact absurd rfl hne
 |[a]=>rfl
 |[a,pr]=>simp only[List.getElem?_cons_succ,List.getElem?_cons_zero,List.getElem?_nil];cases iW pr<;>rfl
 |a::pr::f::r=>
  simp only[List.getElem?_cons_succ,List.getElem?_cons_zero,List.drop_succ_cons,List.drop_zero];cases iW pr with
  |none=>rfl
  |some ps=>
   simp only;by_cases hf:f≠xk
   ·rw[if_pos hf,if_pos hf]
   rw[if_neg hf,if_neg hf];cases dZ Ph r 3 0 with
   |error e=>rfl
   |ok x=>
    obtain⟨src,r2⟩:=x;cases r2 with
    |nil=>rfl
    |cons t r3=>
     unfold rU;simp only;cases dZ ny r3 ((a::pr::f::r).length-r3.length) 0 with
     |error e=>rfl
     |ok y=>
      obtain⟨dst,r4⟩:=y;cases r4<;>rfl
theorem CW{ws:List ByteArray}{ps:List Nat}{src:List (kD×Nat)}{k:Nat}(hk:k<ws.length):rU ws ps src (ws.drop k)=match dZ ny (ws.drop (k+1)) (k+1) 0 with
 | .error e=>.error e
 | .ok y=>rT ws ps src y.1 y.2:=by
 rw[bT hk];unfold rU;dsimp only;rw[zd,show ws.length-(ws.length-(k+1))=k+1 by omega]
theorem CX{ws:List ByteArray}{ps:List Nat}{src:List (kD×Nat)}{k:Nat}(hk:ws.length≤k):rU ws ps src (ws.drop k)=.error (190,ws.length):=by
 rw[nW hk];rfl
theorem uQ(n:Nat)(a b:List (kD×Nat)):kR n (a++b)=kR n a++kR n b:=by simp[kR]
def ll(ws:List ByteArray)(k:Nat)(acc:List (Nat×Nat))(first:Bool):Except Bad (List (Nat×Nat)):=if first=true∧ws.length≤k then .error (190,ws.length)else(jw (ws.drop k) k acc.length).map (acc++·)
theorem uR{s:ByteArray}{ws:List ByteArray}{k:Nat}{acc:List (Nat×Nat)}{first:Bool}(h:ws[k]? =some s):ll ws k acc first=match mA s with
 |none=>.error (193,k)
 |some x=>if 64≤acc.length then .error (198,k)else ll ws (k+1) (acc++[x]) false:=by
 have hk:k<ws.length:=(List.getElem?_eq_some_iff.1 h).1;have hg:ws[k]=s:=(List.getElem?_eq_some_iff.1 h).2;unfold ll;rw[if_neg (show¬(first=true∧ws.length≤k) by omega),bT hk,hg]
 conv=>lhs;unfold jw
 cases mA s with
 |none=>rfl
 |some x=>
  simp only;rw[if_neg (show¬(false=true∧ws.length≤k+1) by simp)];by_cases h2:64≤acc.length
  ·rw[if_pos h2,if_pos h2];rfl
  rw[if_neg h2,if_neg h2,aj,List.length_singleton];cases jw (List.drop (k+1) ws) (k+1) (acc.length+1)with
  |error e=>rfl
  |ok l=>simp[Except.map]
theorem JV{ws:List ByteArray}{k:Nat}{acc:List (Nat×Nat)}(h:ws.length≤k):ll ws k acc false=.ok acc:=by
 unfold ll;rw[if_neg (by simp),nW h];simp[jw,Except.map]
theorem FY{ws:List ByteArray}{k:Nat}{acc:List (Nat×Nat)}(h:ws.length≤k):ll ws k acc true=.error (190,ws.length):=by
 unfold ll;rw[if_pos ⟨rfl,h⟩]
theorem CY{ws:List ByteArray}{ps:List Nat}{src dst:List (kD×Nat)}{k:Nat}(hk:k<ws.length):rT ws ps src dst (ws.drop k)=(ll ws (k+1) [] true).map fun po=>(⟨ps,src.map (·.1),dst.map (·.1),po⟩,src++dst):=by
 rw[bT hk];unfold rT ll;dsimp only;by_cases h:ws.length≤k+1
 ·rw[if_pos (nW h),if_pos ⟨rfl,h⟩];rfl
 ·rw[if_neg (show¬List.drop (k+1) ws=[]from fun e=>h (by rw[List.drop_eq_nil_iff]at e;exact e)),if_neg (show¬(true=true∧ws.length≤k+1)from fun e=>h e.2),zd,show ws.length-(ws.length-(k+1))=k+1 by omega];simp only[List.length_nil,List.nil_append];cases jw (List.drop (k+1) ws) (k+1) 0<;>rfl
theorem FZ{en:ByteArray}:∀(l:List ByteArray)(i c:Nat)(L:List (kD×Nat))(t:List ByteArray),dZ en l i c=.ok (L,t)→(∃p,l=p++t)∧∀s r,t=s::r→s=en:=by
 intro l
 induction l with
 |nil=>
  intro i c L t h;rw[dZ]at h;split at h
  ·cases h
  injection h with h
  injection h with h2 h3
  subst h3;exact⟨⟨[],rfl⟩,fun s r h=>(by cases h)⟩
 |cons w r ih=>
  intro i c L t h;rw[dZ]at h;split at h
  ·next h1=>
   injection h with h
   injection h with h2 h3
   subst h3;exact⟨⟨[],rfl⟩,fun s r h=>by injection h with h _;rw[←h];exact h1.1⟩
  ·split at h
   ·cases h
   ·next s hs=>
    split at h
    ·cases h
    next h2=>
    cases hr:dZ en r (i+1) (c+1)with
    |error e=>rw[hr]at h;cases h
    |ok q=>
     rw[hr]at h;injection h with h
     injection h with h3 h4
     obtain⟨⟨p,e1⟩,e2⟩:=ih _ _ q.1 q.2 hr;rw[←h4];exact⟨⟨w::p,by rw[e1];rfl⟩,e2⟩
theorem M9{en:ByteArray}{ws:List ByteArray}{i:Nat}{L:List (kD×Nat)}{t:List ByteArray}(h:dZ en (ws.drop i) i 0=.ok (L,t)):t=ws.drop (ws.length-t.length)∧∀s,ws[ws.length-t.length]? =some s→s=en:=by
 obtain⟨⟨p,e⟩,h2⟩:=FZ _ _ _ _ _ h;have hd:t=ws.drop (ws.length-t.length):=by
  have e3:ws=(ws.take i++p)++t:=by rw[aO,←e,List.take_append_drop]
  have hl:(ws.take i++p).length=ws.length-t.length:=by
   have:=congrArg List.length e3;rw[aj]at this;omega
  have:(ws.take i++p++t).drop (ws.take i++p).length=t:=List.drop_left;rw[←e3,hl]at this;exact this.symm
 refine⟨hd,fun s hs=>?_⟩;have hk:=(List.getElem?_eq_some_iff.1 hs).1;rw[bT hk,(List.getElem?_eq_some_iff.1 hs).2]at hd;exact h2 _ _ hd
theorem Keeps.then_{S T:Nat→Prop}{a b c:World}(h:Keeps T a b)(k:Keeps S b c)(hs:∀x,S x→T x∨a.heap.size≤x):Keeps T a c:=⟨k.os.trans h.os,k.tape.trans h.tape,k.output.trans h.output,aw h.size k.size,fun x hx hT=>(k.block x (Nat.lt_of_lt_of_le hx h.size) (fun e=>by
 rcases hs x e with h|h
 ·exact hT h
 ·omega)).trans (h.block x hx hT)⟩
theorem iG.below{w w':World}{base:Nat}{v:Value}{l:List Ac}(h:iG w base v l)(hb:aW w w'):iG w' base v l:=by
 obtain⟨xs,e,ha,hm⟩:=h;exact⟨xs,e,own_below ha hb,fun x hx=>⟨own_below (hm x hx).p hb,own_below (hm x hx).s hb,own_below (hm x hx).d hb,own_below (hm x hx).o hb⟩⟩
theorem iG.off{S:Nat→Prop}{w w':World}{T:List TypeId}{base:Nat}{v:Value}{l:List Ac}(h:iG w base v l)(hk:Keeps S w w')(ho:Off S w T)(h0:285∉T)(h1:5∉T)(h2:217∉T)(h3:290∉T):iG w' base v l:=by
 obtain⟨xs,e,ha,hm⟩:=h;exact⟨xs,e,bn ha hk ho h0,fun x hx=>(hm x hx).keep hk ho h1 h2 h3⟩
theorem fp.ZB{w:World}{base:Nat}{v:Value}{l:List Us}(h:fp w base v l):Off (fun k=>v.ownBlock=some k) w [221]:=by
 obtain⟨xs,_,ho⟩:=h;exact cG ho
def Ur(w0 w:World)(b P n:Nat)(lv uv lst:Value)(ws:List ByteArray)(told:List Ac)(us:List Us)(pc:Array Value)(w':World)(x:Ac×List (kD×Nat))(r:Ending):Prop:=r=.returned (.tuple #[])∧∃k' lst' uv',Rs w' b P k' n lv uv' ws∧aH w' P 166 (pc.setIfInBounds 3 lst')∧iG w' w0.heap.size lst' (told++[x.1])∧fp w' w0.heap.size uv' (us++kR n x.2)∧(∀g,lst'.ownBlock=some g→lst.ownBlock=some g∨w.heap.size≤g)∧(∀g,uv'.ownBlock=some g→uv.ownBlock=some g∨w.heap.size≤g)∧x.2.length≤128
theorem JW{w0 w:World}(env:Env w0)(hE:aW w0 w){b P n:Nat}{lv uv lst:Value}{ws:List ByteArray}{told:List Ac}{us:List Us}{pc:Array Value}(h:Rs w b P 1 n lv uv ws)(hP:aH w P 166 pc)(hq:pc[3]? =some lst)(hN:iG w w0.heap.size lst told)(hu:fp w w0.heap.size uv us)(hus:us.length≤3900000)(hbb:w0.heap.size≤b):Calls ah 190 #[.pointer (some ⟨b,0,none⟩)] w fun r w'=>eW (fun x=>x=b∨uv.ownBlock=some x) (fun k=>k=b∨k=P∨lst.ownBlock=some k∨uv.ownBlock=some k) w w' (lU ws told.length) n (Ur w0 w b P n lv uv lst ws told us pc w') r:=by
 obtain⟨A,cap,rfl⟩:=hN.shape;have hlen1:1≤ws.length:=by
  have:=h.ne;cases ws with
  |nil=>exact absurd rfl this
  |cons x r=>simp
 obtain⟨T,hT⟩:=bw told.length;rw[←hT]at hq hN⊢;have hPb:P≠b:=hP.vO h.blk aJ;have c0:=(hP.cell 3).trans hq;have c1:=h.blk.cell 2;simp at c1;have hroom:=h.room aR aR T;rw[show Ix 1 ws=0 by unfold Ix;rw[if_pos hlen1]]at hroom;obtain⟨RES,eV⟩:=bw (lU ws T);rw[←eV];rw[JU h.ne]at eV;have hbs:w0.heap.size≤w.heap.size:=hE.size;have hUB:∀g,uv.ownBlock=some g→w0.heap.size≤g∧g<w.heap.size:=by
  obtain⟨xs,_,ho⟩:=hu;exact fun g hg=>ho.lt g hg
 obtain⟨HUB,kK,RS,HP,US,HN,jT,HT,HE,vF,HWl⟩:=zZ hUB hroom h hP hu hN eV hT hE env h.len;have FIN:ag (∀wx,Keeps (fun x=>x=b∨uv.ownBlock=some x) w wx→Keeps (fun k=>k=b∨k=P∨(dq A T cap).ownBlock=some k∨uv.ownBlock=some k) w wx):=ae fun wx h=>h.mono fun k _ hs=>hs.elim Or.inl fun e=>Or.inr (Or.inr (Or.inr e))
 have ZC:ag (Off (fun x=>x=b∨uv.ownBlock=some x) w [207,221]):=ae (fun k hk=>hk.elim (fun e=>⟨_,_,_,by subst e;exact RS.out.blk,by simp⟩) (fun e=>by obtain⟨cur,e2,fz,h1,h2⟩:=US.out.ZB k e;exact⟨cur,e2,fz,h1,by simp[List.mem_singleton.1 h2]⟩));have KP:=ae (Keeps.refl (fun x=>x=b∨uv.ownBlock=some x) w);clear hroom h hP hN eV hT hE env hu hUB;go_enter Tryz.func190,Tryz.ntmps190;go_wp2_with fail
 go_at_call 211;refine kK.out.mono ?_;rintro r w1⟨h1,d1⟩;obtain⟨RS1,US1,Yj⟩:=bz (RS.out.below d1) (US.out.below d1) (KP.out.trans (Keeps.of_below d1 fun k hk _=>hk));clear RS US KP;by_cases FO:T<64
 case neg=>
  rw[decide_eq_false FO]at h1;unfold fK at h1;subst h1;unfold aT;exact⟨rfl,eW.bad (Yj.out) (by rw[jT.out,if_pos aR])⟩
 rw[decide_eq_true FO]at h1;unfold fK at h1;subst h1;have hR1:=jT.out;rw[if_neg aR]at hR1;have HR1:=ae hR1;clear hR1 jT kK d1 c0 c1;go_upto_region 2 with fail
 have Yk:=ae (aH.new w1 285 #[au,au,au,au]);have d2:=boxed w1 (.cells #[au,au,au,au] 285);have Ut:w.heap.size≤w1.heap.size:=Yj.out.size;generalize w1.alloc (.cells #[au,au,au,au] 285)=w2 at Yk d2⊢;obtain⟨rc,Zv,CU⟩:=bz (RS1.out.below d2) (US1.out.below d2) (Yj.out.trans (Keeps.of_below d2 fun k hk _=>hk));clear RS1 US1 Yj;generalize w1.heap.size=N at Yk d2 Ut⊢;clear d2;have htake:=rc.out.take hlen1;unfold jy at htake;have kM:=ae htake;clear htake;go_upto_region 3 with fail
 go_wp2_with fail
 go_at_call 161;refine kM.out.mono ?_;rintro r w3⟨⟨d3,e3⟩,h3⟩;have OB2:Off (fun x=>x=b) w2 [207]:=fun k hk=>⟨_,_,_,by subst hk;exact rc.out.blk,by simp⟩
 have Na:=ae (CU.out.trans (d3.mono (T:=fun x=>x=b∨uv.ownBlock=some x) fun k _ hk=>Or.inl hk));have US3:=ae (Zv.out.off d3 OB2 aJ);have Qb:=ae (Yk.out.off d3 OB2 aJ);clear Zv Yk;have RS3:=ae e3;clear rc CU d3 e3 OB2 kM;cases hs1:ws[1]? with
 |none=>
  rw[hs1]at h3;simp only at h3;subst h3;unfold aT;have hR:=HR1.out;rw[hs1]at hR;exact⟨rfl,eW.bad (Na.out) hR⟩
 |some pr=>
 rw[hs1]at h3;simp only at h3;subst h3;have hR2:=HR1.out;rw[hs1]at hR2;simp only at hR2;have HR2:=ae hR2;have hlt1:1<ws.length:=(List.getElem?_eq_some_iff.1 hs1).1;have agt:pr.size≤2000000:=RS3.out.sizes pr (iD hs1);have hE3:=cw HE.out Na.out (fun k hk=>hk.elim (fun e=>by subst e;exact hbb) fun e=>(HUB.out k e).1);have JX:=JG (vF.out.below hE3) pr agt;have x0:=Qb.out.cell 0;have z0:=Qb.out.frozen 0;simp at x0;clear hR2 HR1 hs1 hE3;unfold gx at JX;cases hps:iW pr with
 |none=>
  rw[hps]at JX;have Uu:ag (Calls ah 216 #[.string pr] w3 fun r w'=>r=.returned (.tuple #[au,.bool false])∧aW w3 w'):=ae JX;have hR:=HR2.out;rw[hps]at hR;have HR3:=ae hR;clear hR HR2 JX hps;go_upto_region 4 with(go_at_call 216;refine Uu.out.mono ?_;rintro r w4⟨rfl,d4⟩;have Uw:=ae (Qb.out.below d4 Qb.out.lt);have y0:=Uw.out.cell 0;have yz:=Uw.out.frozen 0;simp at y0)
  clear Qb;obtain⟨FW,Uk,zi⟩:=bz (RS3.out.below d4) (US3.out.below d4) (Na.out.trans (Keeps.of_below d4 fun k hk _=>hk));clear RS3 US3 Na;obtain⟨w5,hw5⟩:=bw (w4.setCell ⟨N,0,none⟩ au);have Yl:Keeps (fun x=>x=N) w4 w5:=by rw[hw5];exact(Keeps.refl (fun x=>x=N) w4).setCell (p:=⟨N,0,none⟩) (Or.inl rfl) _
  have ON5:Off (fun x=>x=N) w4 [285]:=fun k hk=>⟨_,_,_,by subst hk;exact Uw.out,by simp⟩
  have NB5:ag (aH w5 N 285 #[au,au,au,au]):=ae (by rw[hw5];exact Uw.out.aM 0 au);have ID:=ae (zi.out.then_ Yl fun x hx=>Or.inr (hx▸Ut));rw[←hw5];clear hw5 Uw zi;have rf:=ae (FW.out.off Yl ON5 aJ aJ);have Zw:=ae (Uk.out.off Yl ON5 aJ);clear FW Uk;have hun:=rf.out.unless aR aR false 194;rw[eC hlt1]at hun;have kr:ag (Calls ah 162 #[.pointer (some ⟨b,0,none⟩),.bool false,.int .i64 194] w5 fun r w'=>r=aT 194 n 1∧aW w5 w'):=ae hun;clear hun d4 Yl ON5 y0 yz Uu;go_wp2_with(go_at_call 162;refine kr.out.mono ?_;rintro r w6⟨rfl,d6⟩;unfold aT)
  exact⟨rfl,eW.bad ((ID.out.trans (Keeps.of_below d6 fun k hk _=>hk))) HR3.out⟩
 |some ps=>
 rw[hps]at JX;have Uu:ag (Calls ah 216 #[.string pr] w3 fun r w'=>(∃v:Value,r=.returned (.tuple #[v,.bool true])∧w'.ownsRow w3.heap.size 5 1 v ps.length (eO ps))∧aW w3 w'):=ae JX;have hR:=HR2.out;rw[hps]at hR;have HR3:=ae hR;have agu:w0.heap.size≤w3.heap.size:=by have:=Na.out.size;omega
 clear hR HR2 JX hps;go_upto_region 4 with(go_at_call 216;refine Uu.out.mono ?_;rintro r w4⟨⟨vp,rfl,o4⟩,d4⟩;obtain⟨Ap,cp,rfl⟩:=aX o4;have O4:=ae o4;clear o4;have Uw:=ae (Qb.out.below d4 Qb.out.lt);have y0:=Uw.out.cell 0;have yz:=Uw.out.frozen 0;simp at y0)
 clear Qb;obtain⟨FW,Uk,zi⟩:=bz (RS3.out.below d4) (US3.out.below d4) (Na.out.trans (Keeps.of_below d4 fun k hk _=>hk));clear RS3 US3 Na;have R14:=ae (O4.out.mono agu);obtain⟨w5,hw5⟩:=bw (w4.setCell ⟨N,0,none⟩ (.slice Ap ps.length cp));have Yl:Keeps (fun x=>x=N) w4 w5:=by rw[hw5];exact(Keeps.refl (fun x=>x=N) w4).setCell (p:=⟨N,0,none⟩) (Or.inl rfl) _
 have ON5:Off (fun x=>x=N) w4 [285]:=fun k hk=>⟨_,_,_,by subst hk;exact Uw.out,by simp⟩
 have NB5:ag (aH w5 N 285 #[.slice Ap ps.length cp,au,au,au]):=ae (by rw[hw5];exact Uw.out.aM 0 (.slice Ap ps.length cp));have ID:=ae (zi.out.then_ Yl fun x hx=>Or.inr (hx▸Ut));rw[←hw5];clear hw5 Uw zi;have rf:=ae (FW.out.off Yl ON5 aJ aJ);have Zw:=ae (Uk.out.off Yl ON5 aJ);have R15:=ae (bn R14.out Yl ON5 aJ);clear FW Uk R14;have hun:=rf.out.unless aR aR true 194;have kr:ag (Calls ah 162 #[.pointer (some ⟨b,0,none⟩),.bool true,.int .i64 194] w5 fun r w'=>r=.returned (.tuple #[])∧aW w5 w'):=ae hun;clear hun d4 Yl ON5 y0 yz Uu O4 x0 z0;go_upto_region 5 with(go_at_call 162;refine kr.out.mono ?_;rintro r w6⟨rfl,d6⟩)
 obtain⟨FX,US6,R16,MY,NB6⟩:=eB (rf.out.below d6) (Zw.out.below d6) (own_below R15.out d6) (ID.out.trans (Keeps.of_below d6 fun k hk _=>hk)) (NB5.out.below d6 NB5.out.lt);clear rf Zw R15 ID NB5;clear d6 kr;have iQ:=FX.out.must aR xk;unfold qF at iQ;have lY:ag (Calls ah 213 #[.pointer (some ⟨b,0,none⟩),.string ⟨#[102,114,111,109]⟩] w6 _):=ae iQ;clear iQ;go_wp2_with fail
 go_at_call 213;refine lY.out.mono ?_;rintro r w7⟨⟨d7,e7⟩,h7⟩;have OB6:Off (fun x=>x=b) w6 [207]:=fun k hk=>⟨_,_,_,by subst hk;exact FX.out.blk,by simp⟩
 obtain⟨EI,pX⟩:=aL (MY.out.trans (d7.mono (T:=fun x=>x=b∨uv.ownBlock=some x) fun k _ hk=>Or.inl hk)) e7;have Yi:=ae (US6.out.off d7 OB6 aJ);have NB7:=ae (NB6.out.off d7 OB6 aJ);have R17:=ae (bn R16.out d7 OB6 aJ);clear US6 NB6 R16;clear FX MY d7 e7 OB6 lY;have iY:=HR3.out;try simp only at iY
 cases hs2:ws[2]? with
 |none=>
  rw[show 1+1=2 from rfl,hs2]at h7;simp only at h7;subst h7;unfold aT;rw[hs2]at iY;exact⟨rfl,eW.bad (EI.out) iY⟩
 |some fr=>
 rw[show 1+1=2 from rfl,hs2]at h7;rw[hs2]at iY;simp only at h7 iY;by_cases hfr:fr=xk
 case neg=>
  rw[if_neg hfr]at h7;subst h7;unfold aT;rw[if_pos hfr]at iY;exact⟨rfl,eW.bad (EI.out) iY⟩
 rw[if_pos hfr]at h7;rw[if_neg (by simp[hfr])]at iY;subst h7;have hlen3:3≤ws.length:=by have:=(List.getElem?_eq_some_iff.1 hs2).1;omega
 have FP:=ae iY;clear iY HR3 hs2 hfr;have hE7:=cw HE.out EI.out (fun k hk=>hk.elim (fun e=>by subst e;exact hbb) fun e=>(HUB.out k e).1);have hse:=FV vF.out hE7 pX.out Yi.out hlen3 aR hbb Ph;have aeB:w.heap.size≤w7.heap.size:=EI.out.size;clear hE7;cases hq1:dZ Ph (ws.drop 3) 3 0 with
 |error e=>
  have Ux:ag (Calls ah 217 #[.pointer (some ⟨b,0,none⟩),.string ⟨#[116,111]⟩] w7 fun r w'=>Keeps (fun x=>x=b∨uv.ownBlock=some x) w7 w'∧r=aT e.1 n e.2):=ae (hse.mono fun r w'⟨h1,h2⟩=>⟨h1,by rw[show 1+1+1=3 from rfl,hq1]at h2;exact h2⟩);have hR:=FP.out;rw[hq1]at hR;have HR:=ae hR;clear hR FP hse hq1;go_wp2_with(go_at_call 217;refine Ux.out.mono ?_;rintro r w8⟨d8,rfl⟩;unfold aT)
  exact⟨rfl,eW.bad ((EI.out.trans d8)) HR.out⟩
 |ok x=>
 obtain⟨src,r2⟩:=x;obtain⟨hr2,hto⟩:=M9 hq1;have hR:=FP.out;rw[hq1]at hR;simp only at hR;obtain⟨k1,hk1⟩:=bw (ws.length-r2.length);rw[←hk1]at hr2 hto;rw[hr2]at hR;have agv:k1≤ws.length:=by omega
 have Ux:ag (Calls ah 217 #[.pointer (some ⟨b,0,none⟩),.string ⟨#[116,111]⟩] w7 fun r w'=>Keeps (fun x=>x=b∨uv.ownBlock=some x) w7 w'∧∃v uv',r=.returned v∧w'.ownsRow w7.heap.size 217 6 v src.length (ie (src.map (·.1)))∧Rs w' b P k1 n lv uv' ws∧fp w' w0.heap.size uv' (us++kR n src)∧(∀g,uv'.ownBlock=some g→uv.ownBlock=some g∨w7.heap.size≤g)∧src.length≤64):=ae (hse.mono fun r w'⟨h1,h2⟩=>⟨h1,by rw[show 1+1+1=3 from rfl,hq1]at h2;obtain⟨v,uv',g1,g2,g3,g4,g5,g6⟩:=h2;exact⟨v,uv',g1,g2,by rw[hk1];exact g3,g4,g5,g6⟩⟩);obtain⟨Y8,HTo⟩:=aL hR hto;clear hR FP hse hq1 hr2 hto hk1;go_upto_region 7 with(go_at_call 217;refine Ux.out.mono ?_;rintro r w8⟨d8,vs,uv1,rfl,o8,e8,u8,g8,l8⟩;obtain⟨As,cs,rfl⟩:=aX o8;obtain⟨O8,zg,US8,HG8⟩:=cU o8 e8 u8 g8;clear o8 e8 u8 g8;have OS7:Off (fun x=>x=b∨uv.ownBlock=some x) w7 [207,221]:=(fun k hk=>hk.elim (fun e=>⟨_,_,_,by subst e;exact pX.out.blk,by simp⟩) (fun e=>by obtain⟨cur,e2,fz,h1,h2⟩:=Yi.out.ZB k e;exact⟨cur,e2,fz,h1,by simp[List.mem_singleton.1 h2]⟩));have NB8:=ae (NB7.out.off d8 OS7 aJ);have y0:=NB8.out.cell 1;have yz:=NB8.out.frozen 1;simp at y0)
 have OS7:Off (fun x=>x=b∨uv.ownBlock=some x) w7 [207,221]:=(fun k hk=>hk.elim (fun e=>⟨_,_,_,by subst e;exact pX.out.blk,by simp⟩) (fun e=>by obtain⟨cur,e2,fz,h1,h2⟩:=Yi.out.ZB k e;exact⟨cur,e2,fz,h1,by simp[List.mem_singleton.1 h2]⟩));have sZ:=ae (EI.out.trans d8);have R18:=ae (bn R17.out d8 OS7 aJ);clear R17;have R28:=ae (O8.out.mono (aw hbs aeB));have HG:=ae fun g hg=>(HG8.out g hg).imp id (aw aeB)
 clear O8 HG8 OS7 NB7 pX Yi EI d8 Ux;obtain⟨w9,hw9⟩:=bw (w8.setCell ⟨N,1,none⟩ (.slice As src.length cs));have KN9:Keeps (fun x=>x=N) w8 w9:=by rw[hw9];exact(Keeps.refl (fun x=>x=N) w8).setCell (p:=⟨N,1,none⟩) (Or.inl rfl) _
 have ON9:Off (fun x=>x=N) w8 [285]:=fun k hk=>⟨_,_,_,by subst hk;exact NB8.out,by simp⟩
 have NB9:ag (aH w9 N 285 #[.slice Ap ps.length cp,.slice As src.length cs,au,au]):=ae (by rw[hw9];exact NB8.out.aM 1 (.slice As src.length cs));have Ye:=ae (sZ.out.then_ KN9 fun x hx=>Or.inr (hx▸Ut));rw[←hw9];clear hw9 NB8 sZ;have RS9:=ae (zg.out.off KN9 ON9 aJ aJ);have US9:=ae (US8.out.off KN9 ON9 aJ);have R19:=ae (bn R18.out KN9 ON9 aJ);have R29:=ae (bn R28.out KN9 ON9 aJ);clear zg US8 R18 R28;clear KN9 ON9 y0 yz;have iQ:=RS9.out.must agv Ph;unfold qF at iQ;have lY:ag (Calls ah 213 #[.pointer (some ⟨b,0,none⟩),.string ⟨#[116,111]⟩] w9 _):=ae iQ;clear iQ;go_wp2_with fail
 go_at_call 213;refine lY.out.mono ?_;rintro r w10⟨⟨d10,e10⟩,h10⟩;have OB9:Off (fun x=>x=b) w9 [207]:=fun k hk=>⟨_,_,_,by subst hk;exact RS9.out.blk,by simp⟩
 obtain⟨nF,nE⟩:=aL (Ye.out.trans (d10.mono (T:=fun x=>x=b∨uv.ownBlock=some x) fun k _ hk=>Or.inl hk)) e10;have acr:=ae (US9.out.off d10 OB9 aJ);have aeC:=ae (NB9.out.off d10 OB9 aJ);have aeD:=ae (bn R19.out d10 OB9 aJ);have aeE:=ae (bn R29.out d10 OB9 aJ);clear US9 NB9 R19 R29;clear RS9 Ye d10 e10 OB9 lY;cases hs3:ws[k1]? with
 |none=>
  have hge:ws.length≤k1:=by rw[aid]at hs3;exact hs3
  rw[hs3]at h10;simp only at h10;subst h10;unfold aT;exact⟨rfl,eW.bad (nF.out) (Y8.out.trans (CX hge))⟩
 |some tw=>
 have htw:=HTo.out tw hs3;rw[hs3]at h10;simp only at h10;rw[if_pos htw]at h10;subst h10;have agw:k1+1≤ws.length:=(List.getElem?_eq_some_iff.1 hs3).1;have ZD:=Y8.out;rw[CW aR]at ZD;clear Y8 HTo htw hs3;have aeF:=cw HE.out nF.out (fun k hk=>hk.elim (fun e=>by subst e;exact hbb) fun e=>(HUB.out k e).1);have hse:=FV vF.out aeF nE.out acr.out agw (by rw[aj];unfold kR;rw[ay];omega) hbb ny;have abu:w.heap.size≤w10.heap.size:=nF.out.size;have HTH:ag (∀wx,Keeps (fun x=>x=b∨uv1.ownBlock=some x) w10 wx→Keeps (fun x=>x=b∨uv.ownBlock=some x) w wx):=ae fun wx hd=>nF.out.then_ hd fun x hx=>hx.elim (fun e=>Or.inl (Or.inl e)) fun e=>(HG.out x e).elim (fun e=>Or.inl (Or.inr e)) Or.inr
 clear aeF;cases hq2:dZ ny (ws.drop (k1+1)) (k1+1) 0 with
 |error e=>
  have Ux:ag (Calls ah 217 #[.pointer (some ⟨b,0,none⟩),.string ⟨#[112,111,114,116,115]⟩] w10 fun r w'=>Keeps (fun x=>x=b∨uv1.ownBlock=some x) w10 w'∧r=aT e.1 n e.2):=ae (hse.mono fun r w'⟨h1,h2⟩=>⟨h1,by rw[hq2]at h2;exact h2⟩);rw[hq2]at ZD;have HR:=ae ZD;clear ZD hse hq2;go_wp2_with(go_at_call 217;refine Ux.out.mono ?_;rintro r vG⟨d11,rfl⟩;unfold aT)
  exact⟨rfl,eW.bad ((HTH.out _ d11)) HR.out⟩
 |ok x=>
 obtain⟨dst,r4⟩:=x;obtain⟨hr4,hpo⟩:=M9 hq2;rw[hq2]at ZD;simp only at ZD;obtain⟨k2,hk2⟩:=bw (ws.length-r4.length);rw[←hk2]at hr4 hpo;rw[hr4]at ZD;have ahw:k2≤ws.length:=by omega
 have Ux:ag (Calls ah 217 #[.pointer (some ⟨b,0,none⟩),.string ⟨#[112,111,114,116,115]⟩] w10 fun r w'=>Keeps (fun x=>x=b∨uv1.ownBlock=some x) w10 w'∧∃v uv',r=.returned v∧w'.ownsRow w10.heap.size 217 6 v dst.length (ie (dst.map (·.1)))∧Rs w' b P k2 n lv uv' ws∧fp w' w0.heap.size uv' ((us++kR n src)++kR n dst)∧(∀g,uv'.ownBlock=some g→uv1.ownBlock=some g∨w10.heap.size≤g)∧dst.length≤64):=ae (hse.mono fun r w'⟨h1,h2⟩=>⟨h1,by rw[hq2]at h2;obtain⟨v,uv',g1,g2,g3,g4,g5,g6⟩:=h2;exact⟨v,uv',g1,g2,by rw[hk2];exact g3,g4,g5,g6⟩⟩);obtain⟨ZE,Qc⟩:=aL ZD hpo;have aeG:Off (fun x=>x=b∨uv1.ownBlock=some x) w10 [207,221]:=(fun k hk=>hk.elim (fun e=>⟨_,_,_,by subst e;exact nE.out.blk,by simp⟩) (fun e=>by obtain⟨cur,e2,fz,h1,h2⟩:=acr.out.ZB k e;exact⟨cur,e2,fz,h1,by simp[List.mem_singleton.1 h2]⟩));have Nb:=ae aeG;clear ZD hse hq2 hr4 hpo hk2 aeG;go_upto_region 9 with(go_at_call 217;refine Ux.out.mono ?_;rintro r vG⟨d11,vd,uv2,rfl,o11,e11,u11,g11,l11⟩;obtain⟨Ad,cd,rfl⟩:=aX o11;obtain⟨O11,qq,aeH,aeI⟩:=cU o11 e11 u11 g11;clear o11 e11 u11 g11;have Uy:=ae (aeC.out.off d11 Nb.out aJ);have y0:=Uy.out.cell 2;have yz:=Uy.out.frozen 2;simp at y0)
 have rS:=ae (HTH.out _ d11);have aeJ:=ae (bn aeD.out d11 Nb.out aJ);have aeK:=ae (bn aeE.out d11 Nb.out aJ);clear aeD aeE;have aeL:=ae (O11.out.mono (aw hbs abu));have HG2:=ae fun g hg=>(aeI.out g hg).elim (HG.out g) (fun h=>Or.inr (aw abu h))
 clear O11 aeI Nb aeC nE acr nF d11 Ux HTH HG;obtain⟨w12,ZF⟩:=bw (vG.setCell ⟨N,2,none⟩ (.slice Ad dst.length cd));have JY:Keeps (fun x=>x=N) vG w12:=by rw[ZF];exact(Keeps.refl (fun x=>x=N) vG).setCell (p:=⟨N,2,none⟩) (Or.inl rfl) _
 have Qd:Off (fun x=>x=N) vG [285]:=fun k hk=>⟨_,_,_,by subst hk;exact Uy.out,by simp⟩
 have Qe:ag (aH w12 N 285 #[.slice Ap ps.length cp,.slice As src.length cs,.slice Ad dst.length cd,au]):=ae (by rw[ZF];exact Uy.out.aM 2 (.slice Ad dst.length cd));have zC:=ae (rS.out.then_ JY fun x hx=>Or.inr (hx▸Ut));rw[←ZF];clear ZF Uy rS;have CZ:=ae (qq.out.off JY Qd aJ aJ);have ZG:=ae (aeH.out.off JY Qd aJ);have ZH:=ae (bn aeJ.out JY Qd aJ);have ZI:=ae (bn aeK.out JY Qd aJ);have ZJ:=ae (bn aeL.out JY Qd aJ);clear qq aeH aeJ aeK aeL;clear JY Qd y0 yz;have hmore:=CZ.out.more;obtain⟨j0,hj,hj0,hj1,hj2⟩:=info_parts Zn;by_cases ZK:k2<ws.length
 case neg=>
  rw[decide_eq_false ZK]at hmore;have mO:=ae hmore;have hR:=ZE.out;rw[nW aR,rT]at hR;have HRF:=ae hR;clear hR hmore ZE;go_upto_region 18 with(go_at_call 214;refine mO.out.mono ?_;rintro r FR⟨rfl,d13⟩)
  obtain⟨xO,Uz,UA,UB,UC,C0,F5⟩:=nn (CZ.out.below d13) (ZG.out.below d13) (own_below ZH.out d13) (own_below ZI.out d13) (own_below ZJ.out d13) (Qe.out.below d13 Qe.out.lt) (zC.out.trans (Keeps.of_below d13 fun k hk _=>hk));clear CZ ZG ZH ZI ZJ Qe zC;have aeM:=ae (bh FR w0.heap.size 290 2);clear d13 mO Qc;have agx:w.heap.size≤FR.heap.size:=F5.out.size;have PE:=ae (HP.out.off F5.out ZC.out aJ);obtain⟨xs,hxs,hac,hmem⟩:=HN.out.off F5.out ZC.out aJ aJ aJ aJ;have Yg:ag (some N≠(dq A T cap).ownBlock):=ae fun e=>by
   obtain⟨xs,_,ho,_⟩:=HN.out;have:=(ho.lt N e.symm).2;omega
  rw[←HT.out]at hac;have JR:=ae hxs;have x0:=(PE.out.cell 3).trans hq;have x2:=xO.out.blk.cell 2;have n0:=C0.out.cell 0;have n1:=C0.out.cell 1;have n2:=C0.out.cell 2;have n3:=C0.out.cell 3;simp at x2 n0 n1 n2 n3;obtain⟨jP,eD⟩:=bw ((FR.alloc (.cells #[.slice Ap ps.length cp,.slice As src.length cs,.slice Ad dst.length cd,au] 285)).drew);have mF:ag (jP.ownsRow w0.heap.size 285 4 (.slice A T cap) T (nC xs)):=ae (by rw[eD];exact hac.alloc _);have jd:ag (∀j u,[.slice Ap ps.length cp,.slice As src.length cs,.slice Ad dst.length cd,au][j]? =some u→jP.cell? ((⟨FR.heap.size,0,none⟩:Addr).add j)=some u):=ae (by rw[eD];exact cS FR [.slice Ap ps.length cp,.slice As src.length cs,.slice Ad dst.length cd,au] 285);have og:ag (aH jP P 166 pc):=ae (by rw[eD];exact PE.out.alloc _);have xI:ag (aH jP N 285 #[.slice Ap ps.length cp,.slice As src.length cs,.slice Ad dst.length cd,au]):=ae (by rw[eD];exact C0.out.alloc _);have lk:ag (Rs jP b P k2 n lv uv2 ws):=ae (by rw[eD];exact⟨(xO.out.alloc _).blk,(xO.out.alloc _).row,xO.out.ne,xO.out.len,xO.out.sizes⟩);have IC:ag (Keeps (fun x=>x=b∨uv.ownBlock=some x) w jP):=ae (by rw[eD];exact(F5.out.alloc _).drew);have bE:aW FR jP:=by rw[eD];have q:=boxed FR (.cells #[.slice Ap ps.length cp,.slice As src.length cs,.slice Ad dst.length cd,au] 285);exact⟨q.os,q.tape,q.output,q.size,q.block⟩
  have acs:ag (∀x∈xs,qH jP w0.heap.size x):=ae fun x hx=>⟨own_below (hmem x hx).p bE,own_below (hmem x hx).s bE,own_below (hmem x hx).d bE,own_below (hmem x hx).o bE⟩
  have acu:=ae (Uz.out.below bE);have HMN:ag (qH jP w0.heap.size ⟨⟨ps,src.map (·.1),dst.map (·.1),[]⟩,.slice Ap ps.length cp,.slice As src.length cs,.slice Ad dst.length cd,au⟩):=ae ⟨own_below UA.out bE,by rw[ay];exact own_below UB.out bE,by rw[ay];exact own_below UC.out bE,own_below aeM.out bE⟩;have P8:jP.heap.size=FR.heap.size+1:=by rw[eD];simp
  have y0:=(og.out.cell 3).trans hq;have y2:=lk.out.blk.cell 2;have v0:=xI.out.cell 0;have v1:=xI.out.cell 1;have v2:=xI.out.cell 2;have v3:=xI.out.cell 3;simp at y2 v0 v1 v2 v3;clear hxs hac hmem bE Uz xO PE C0 UA UB UC aeM F5;rw[eD]at mF jd og xI y0 y2 v0 v1 v2 v3;refine dW 16 (fun w'=>w'.cell? ⟨b,2,none⟩=some (.pointer (some ⟨P,0,none⟩))∧w'.cell? ⟨P,3,none⟩=some (.slice A T cap)∧w'.cell? ⟨N,0,none⟩=some (.slice Ap ps.length cp)∧w'.cell? ⟨N,1,none⟩=some (.slice As src.length cs)∧w'.cell? ⟨N,2,none⟩=some (.slice Ad dst.length cd)∧w'.cell? ⟨N,3,none⟩=some au) bo (⟨x2,x0,n0,n1,n2,n3⟩) (fun hHeld=>?_);refine dT 0 ?_
  refine dT 1 ?_
  refine dT 2 ?_
  refine dT 3 ?_
  refine dT 4 ?_
  refine dT 5 ?_
  refine dT 6 ?_
  refine dT 7 ?_
  refine dT 8 ?_
  refine dT 9 ?_
  refine dT 10 ?_
  refine dT 11 ?_
  refine np 12 fun K hK=>?_;go_simp
  skip
  refine hK.out _ _ (fun _=>⟨y2,y0,v0,v1,v2,v3⟩) (fun hHeld=>?_);have hHeld:=hHeld aJ;clear hK K;try simp only[ck]
  refine np 13 fun K hK=>?_;refine step_append_lies _ (by rfl) _ _ _ (by rfl) w0.heap.size 285 j0 (.agg #[au,au,au,au]) 4 96 Tryz.underlying164 hj hj0 hj1 hj2 rfl aJ _ T _ (by rfl) mF.out ⟨FR.heap.size,0,none⟩ 1 1 [.slice Ap ps.length cp,.slice As src.length cs,.slice Ad dst.length cd,au] (by rfl) rfl jd.out (by intro u hu;simp at hu;rcases hu with rfl|rfl|rfl|rfl<;>rfl) aJ (by unfold maxLen;omega) aR (by simp;omega) (FR.heap.size+1) (by simp) ?_;intro g' cap' qZ hown' hgrow hat nD;have BP:=ae (og.out.off (Keeps.row hgrow) (cG mF.out) aJ);have fU:=xI.out.grown hgrow Yg.out;have p0:=(BP.out.cell 3).trans hq;have pz:=BP.out.frozen 3;have m0:=fU.cell 0;have m1:=fU.cell 1;have m2:=fU.cell 2;have m3:=fU.cell 3;rw[←eD]at hgrow mF;have R15:=ae (lk.out.off (Keeps.row hgrow) (cG mF.out) aJ aJ);have U15:=ae (acu.out.off (Keeps.row hgrow) (cG mF.out) aJ);have acv:=ae (HMN.out.keep (Keeps.row hgrow) (cG mF.out) aJ aJ aJ);have CV:=ae fun x hx=>(acs.out x hx).keep (Keeps.row hgrow) (cG mF.out) aJ aJ (by decide)
  have p2:=R15.out.blk.cell 2;simp at m0 m1 m2 m3 p2;obtain⟨mE,fX,P4⟩:=bz hown' hgrow hat;clear hown' hgrow hat nD fU;refine hK.out _ _ (fun _=>⟨p2,p0,m0,m1,m2,m3⟩) (fun hHeld=>?_);have hHeld:=hHeld aJ;clear hK K;try simp only[ck]
  refine np 14 fun K hK=>?_;go_simp;refine hK.out _ _ (fun _=>hHeld) (fun hHeld=>?_);have hHeld:=hHeld aJ;clear hK K;try simp only[ck]
  refine dT 15 ?_
  refine np 16 fun K hK=>?_;go_simp;refine hK.out _ _ (fun h=>absurd rfl h) (fun _=>?_);clear hK K hHeld;try simp only[ck]
  refine OU ?_;go_wp2_with fail
  have KQ:=(Keeps.refl (fun x=>x=P) qZ).setCell (p:=⟨P,3,none⟩) (Or.inl rfl) (.slice (some ⟨g',0,none⟩) (T+1) cap');have OQ:Off (fun x=>x=P) qZ [166]:=fun k hk=>⟨_,_,_,by subst hk;exact BP.out,by simp⟩
  have K2:=(Keeps.grown (FIN.out _ IC.out) fX.out fun k hk=>Or.inl (Or.inr (Or.inr (Or.inl hk)))).setCell (p:=⟨P,3,none⟩) (Or.inl (Or.inr (Or.inl rfl))) (.slice (some ⟨g',0,none⟩) (T+1) cap');have B2:aH (qZ.setCell ⟨P,3,none⟩ (.slice (some ⟨g',0,none⟩) (T+1) cap')) P 166 (pc.setIfInBounds 3 (.slice (some ⟨g',0,none⟩) (T+1) cap')):=BP.out.aM 3 _;refine⟨rfl,_,results_none rfl _ _ _,eW.good HRF.out K2 ⟨rfl,_,_,_,R15.out.off KQ OQ aJ aJ,B2,⟨xs++[⟨⟨ps,src.map (·.1),dst.map (·.1),[]⟩,.slice Ap ps.length cp,.slice As src.length cs,.slice Ad dst.length cd,au⟩],?_,?_,?_⟩,?_,?_,HG2.out,by rw[aj];omega⟩⟩
  ·rw[cL,JR.out];rfl
  ·rw[aj,←HT.out,rQ];exact bn mE.out KQ OQ (by decide)
  ·intro x hx;rcases List.mem_append.1 hx with hx|hx
   ·exact(CV.out x hx).keep KQ OQ aJ aJ (by decide)
   ·rw[List.mem_singleton.1 hx];exact acv.out.keep KQ OQ aJ aJ (by decide)
  ·rw[uQ,←aO];exact U15.out.off KQ OQ (by decide)
  ·intro g hg;have hgg:some g'=some g:=hg;injection hgg with hgg
   rcases P4.out with h|h
   ·exact Or.inl (hgg▸h)
   ·exact Or.inr (by omega)
 rw[decide_eq_true ZK]at hmore;have mO:=ae hmore;have hR:=ZE.out;rw[CY ZK]at hR;obtain⟨PO,hPO⟩:=bw (ll ws (k2+1) [] true);rw[←hPO]at hR;obtain⟨Qf,HPO⟩:=aL hR hPO;obtain⟨pw,hpw⟩:∃s,ws[k2]? =some s:=⟨_,List.getElem?_eq_getElem ZK⟩;have hpe:=Qc.out pw hpw;clear hR hmore ZE hPO;go_upto_region 10 with(go_at_call 214;refine mO.out.mono ?_;rintro r FR⟨rfl,d13⟩)
 obtain⟨xO,Uz,UA,UB,UC,C0,F5⟩:=nn (CZ.out.below d13) (ZG.out.below d13) (own_below ZH.out d13) (own_below ZI.out d13) (own_below ZJ.out d13) (Qe.out.below d13 Qe.out.lt) (zC.out.trans (Keeps.of_below d13 fun k hk _=>hk));clear CZ ZG ZH ZI ZJ Qe zC;clear d13 mO Qc;have iQ:=xO.out.must aR ny;unfold qF at iQ;rw[hpw]at iQ;simp only[if_pos hpe]at iQ;have lY:ag (Calls ah 213 #[.pointer (some ⟨b,0,none⟩),.string ⟨#[112,111,114,116,115]⟩] FR fun r w'=>(Keeps (fun x=>x=b) FR w'∧Rs w' b P (k2+1) n lv uv2 ws)∧r=.returned (.tuple #[])):=ae iQ;clear iQ hpe hpw;go_upto_region 11 with(go_at_call 213;refine lY.out.mono ?_;rintro r jP⟨⟨jM,e14⟩,rfl⟩)
 have Qg:Off (fun x=>x=b) FR [207]:=fun k hk=>⟨_,_,_,by subst hk;exact xO.out.blk,by simp⟩
 obtain⟨acw,ZL⟩:=aL (F5.out.trans (jM.mono (T:=fun x=>x=b∨uv.ownBlock=some x) fun k _ hk=>Or.inl hk)) e14;have aeN:=ae (Uz.out.off jM Qg aJ);have UD:=ae (C0.out.off jM Qg aJ);have aeO:=ae (bn UA.out jM Qg aJ);have aeP:=ae (bn UB.out jM Qg aJ);have aeQ:=ae (bn UC.out jM Qg aJ);clear Uz C0 UA UB UC;clear xO F5 jM e14 Qg lY;obtain⟨i0,hi,hz0,hz1,hz2⟩:=info_parts Zm;have hNb:N≠b:=UD.out.vO ZL.out.blk aJ;have ahx:=UD.out.lt;have Da:ag (∀wx,Keeps (fun x=>x=b∨x=N) jP wx→Keeps (fun x=>x=b∨uv.ownBlock=some x) w wx):=ae fun wx hd=>acw.out.then_ hd fun x hx=>hx.elim (fun e=>Or.inl (Or.inl e)) fun e=>Or.inr (by omega)
 have acx:ag (∀wx,Keeps (fun x=>x=b∨x=N) jP wx→Env wx):=ae fun wx hd=>vF.out.below (cw HE.out (Da.out wx hd) (fun k hk=>hk.elim (fun e=>by subst e;exact hbb) fun e=>(HUB.out k e).1))
 go_wp2_with fail
 go_loopw [4] (fun v4 wr=>∃(k:Nat)(acc:List (Nat×Nat))(first:Bool)(v:Value),v4=.bool first∧1≤k∧k≤ws.length∧ag (acc.length≤64)∧ag (Rs wr b P k n lv uv2 ws)∧ag (Keeps (fun x=>x=b∨x=N) jP wr)∧ag (aH wr N 285 #[.slice Ap ps.length cp,.slice As src.length cs,.slice Ad dst.length cd,v])∧ag (wr.ownsRow jP.heap.size 290 2 v acc.length (jk acc))∧ag (PO=ll ws k acc first)) (fun _ wr=>ws.length+1-xG wr b)
 case atStart=>exact⟨k2+1,[],true,_,rfl,by omega,by omega,ae (by simp),ZL,ae (Keeps.refl _ _),UD,ae (bh _ _ _ _),HPO⟩
 case round=>
  obtain⟨k,acc,first,v,rfl,hk3,hk,hacc,hrs,hkp,hbn,hown,hres⟩:=hrel;have Ai:=ae hrs.out.next;obtain⟨A1,c1,rfl⟩:=aX hown.out;obtain⟨L,hL⟩:=bw acc.length;rw[←hL]at hown hbn;have hacc:=hacc.out;rw[←hL]at hacc;have HL:=ae hL;clear hL;cases first with
  |true=>
   have RS:=hrs;have KP:=hkp;have BN:=hbn;have OW:=hown;clear hrs hkp hbn hown;have htake:=RS.out.take hk;unfold jy at htake;have kM:=ae htake;clear htake;have OB8:Off (fun x=>x=b) wr [207]:=fun k hk=>⟨_,_,_,by subst hk;exact RS.out.blk,by simp⟩
   have HOB:=ae OB8;clear OB8;go_wp2_with fail
   go_at_call 161;refine kM.out.mono ?_;rintro r w8⟨⟨d8,e8⟩,h8⟩;have sZ:=ae (KP.out.trans (d8.mono (T:=fun x=>x=b∨x=N) fun k _ hk=>Or.inl hk));have zB:=ae (BN.out.off d8 HOB.out aJ);have JI:=ae (bn OW.out d8 HOB.out aJ);have zg:=ae e8;clear RS KP BN OW d8 e8 HOB kM;cases hsk:ws[k]? with
   |none=>
    have hge:ws.length≤k:=by rw[aid]at hsk;exact hsk
    rw[hsk]at h8;simp only at h8;subst h8;unfold aT;exact⟨rfl,eW.bad ((Da.out _ sZ.out)) (by rw[Qf.out,hres.out,FY hge];rfl)⟩
   |some s=>
   have hlt:k<ws.length:=(List.getElem?_eq_some_iff.1 hsk).1;rw[hsk]at h8;simp only at h8;subst h8;have hss:s.size≤2000000:=zg.out.sizes s (iD hsk);have hpt:=AE (acx.out _ sZ.out) s hss;have hst:=hres.out;rw[uR hsk]at hst;obtain⟨o,ho⟩:=bw (mA s);rw[←ho]at hpt hst;clear ho hsk hres;cases o with
   |none=>
    have IE:ag (Calls ah 218 #[.string s] w8 fun r w'=>(∃a b:Nat,r=.returned (.tuple #[.agg #[.int .u16 a,.int .u16 b],.bool false]))∧aW w8 w'):=ae (hpt.mono fun r w'⟨⟨a,b,_,_,h,_⟩,h2⟩=>⟨⟨a,b,h⟩,h2⟩);have IG:=ae hst;clear hpt hst;go_upto_region 15 with(go_at_call 218;refine IE.out.mono ?_;rintro r w9⟨⟨p1,p2,rfl⟩,d9⟩)
    have d10:=after d9 (boxed w9 (.cells #[.int .u16 p1,.int .u16 p2] 290));generalize w9.alloc (.cells #[.int .u16 p1,.int .u16 p2] 290)=w10 at d10⊢;obtain⟨nE,nF⟩:=aL (zg.out.below d10) (sZ.out.trans (Keeps.of_below d10 fun k hk _=>hk));clear zg sZ;clear d10 d9 IE;have hun:=nE.out.unless aR aR false 193;rw[eC hlt]at hun;have kr:ag (Calls ah 162 #[.pointer (some ⟨b,0,none⟩),.bool false,.int .i64 193] w10 fun r w'=>r=aT 193 n k∧aW w10 w'):=ae hun;clear hun;go_wp2_with(go_at_call 162;refine kr.out.mono ?_;rintro r vG⟨rfl,d11⟩;unfold aT)
    exact⟨rfl,eW.bad ((Da.out _ (nF.out.trans (Keeps.of_below d11 fun k hk _=>hk)))) (by rw[Qf.out,IG.out];rfl)⟩
   |some pp=>
   obtain⟨p1,p2⟩:=pp;have IE:ag (Calls ah 218 #[.string s] w8 (Got (.tuple #[.agg #[.int .u16 p1,.int .u16 p2],.bool true]) w8)):=ae (hpt.mono fun r w'⟨⟨a,b,_,_,h,h3⟩,h2⟩=>⟨by have:=h3 _ rfl;injection this with e1 e2;subst e1 e2;exact h,h2⟩);have IG:=ae hst;clear hpt hst;go_upto_region 15 with(go_at_call 218;refine IE.out.mono ?_;rintro r w9⟨rfl,d9⟩)
   have d10:=after d9 (boxed w9 (.cells #[.int .u16 p1,.int .u16 p2] 290));have xP:=ae (aH.new w9 290 #[.int .u16 p1,.int .u16 p2]);have hM9:=d9.size;generalize w9.alloc (.cells #[.int .u16 p1,.int .u16 p2] 290)=w10 at d10 xP⊢;generalize w9.heap.size=M at hM9 xP⊢;obtain⟨nE,nF,fU,UE⟩:=cU (zg.out.below d10) (sZ.out.trans (Keeps.of_below d10 fun k hk _=>hk)) (zB.out.below d10 zB.out.lt) (own_below JI.out d10);clear zg sZ zB JI;clear d10 d9 IE;have hun:=nE.out.unless aR aR true 193;have kr:ag (Calls ah 162 #[.pointer (some ⟨b,0,none⟩),.bool true,.int .i64 193] w10 fun r w'=>r=.returned (.tuple #[])∧aW w10 w'):=ae hun;clear hun;go_upto_region 16 with(go_at_call 162;refine kr.out.mono ?_;rintro r vG⟨rfl,d11⟩)
   obtain⟨qq,rS,tH,CQ,JZ⟩:=eB (nE.out.below d11) (nF.out.trans (Keeps.of_below d11 fun k hk _=>hk)) (fU.out.below d11 fU.out.lt) (own_below UE.out d11) (xP.out.below d11 xP.out.lt);clear nE nF fU UE xP;clear d11 kr;obtain⟨-,-,-,x3⟩:=dY tH;have hro:=qq.out.room aR aR L;rw[eC hlt]at hro;have rh:=ae hro;clear hro;by_cases h64:64≤L
   ·have hR:=IG.out;try simp only at hR
    rw[←HL.out,if_pos h64]at hR;rw[decide_eq_false aR]at rh;have nG:ag (Calls ah 211 #[.pointer (some ⟨b,0,none⟩),.int .i64 L] vG fun r w'=>r=aT 198 n k∧aW vG w'):=rh;have P9:=ae hR;clear rh hR IG h64;go_wp2_with(go_at_call 211;refine nG.out.mono ?_;rintro r w12⟨rfl,d12⟩;unfold aT)
    exact⟨rfl,eW.bad ((Da.out _ (rS.out.trans (Keeps.of_below d12 fun k hk _=>hk)))) (by rw[Qf.out,P9.out];rfl)⟩
   have hR:=IG.out;try simp only at hR
   rw[←HL.out,if_neg h64]at hR;rw[decide_eq_true aR]at rh;have nG:ag (Calls ah 211 #[.pointer (some ⟨b,0,none⟩),.int .i64 L] vG fun r w'=>r=.returned (.tuple #[])∧aW vG w'):=rh;have xH:=ae hR;clear rh hR IG;go_upto_region 17 with(go_at_call 211;refine nG.out.mono ?_;rintro r w12⟨rfl,d12⟩)
   obtain⟨CZ,zC,UF,Db,UG⟩:=eB (qq.out.below d12) (rS.out.trans (Keeps.of_below d12 fun k hk _=>hk)) (tH.out.below d12 tH.out.lt) (own_below CQ.out d12) (JZ.out.below d12 JZ.out.lt);clear qq rS tH CQ JZ;clear d12 nG x3;have x3:=UF.out.cell 3;have m0:=UG.out.cell 0;have m1:=UG.out.cell 1;simp at x3 m0 m1;have abt:=zC.out.size;go_wp2_with(at_builtin;refine wpList_append_lies _ rfl _ _ 283 rfl jP.heap.size 290 i0 (.agg #[.int .u16 0,.int .u16 0]) 2 4 Tryz.underlying283 hi hz0 hz1 hz2 rfl aJ _ L _ rfl (Db.out.alloc _) ⟨w12.heap.size,0,none⟩ 1 1 [.int .u16 p1,.int .u16 p2] rfl rfl (cS w12 [.int .u16 p1,.int .u16 p2] 290) (by intro u hu;simp at hu;rcases hu with rfl|rfl<;>rfl) aJ (by unfold maxLen;omega) aR (by simp;omega) (w12.heap.size+1) (by simp) ?_;intro g' cap' qZ hown' hgrow hat nD;have Dc:=ae ((UF.out.alloc (.cells #[.int .u16 p1,.int .u16 p2] 290)).off (Keeps.row hgrow) (cG (Db.out.alloc (.cells #[.int .u16 p1,.int .u16 p2] 290))) aJ);obtain⟨-,-,-,x15⟩:=dY Dc;have z15:=Dc.out.frozen 3;obtain⟨mE,fX⟩:=aL hown' hgrow;clear hown' hgrow hat nD)
   have KS:Keeps (fun k=>(dq A1 L c1).ownBlock=some k) (w12.alloc (.cells #[.int .u16 p1,.int .u16 p2] 290)) qZ:=Keeps.row fX.out;have OS:=cG (Db.out.alloc (.cells #[.int .u16 p1,.int .u16 p2] 290));have acy:=(CZ.out.alloc (.cells #[.int .u16 p1,.int .u16 p2] 290)).off KS OS aJ aJ;have acz:=Keeps.grown (zC.out.alloc (.cells #[.int .u16 p1,.int .u16 p2] 290)) fX.out fun g hg=>Or.inr (Db.out.lt g hg).1
   have xN:=acz.setCell (p:=⟨N,3,none⟩) (Or.inl (Or.inr rfl)) (.slice (some ⟨g',0,none⟩) (L+1) cap');have KN:=(Keeps.refl (fun x=>x=N) qZ).setCell (p:=⟨N,3,none⟩) (Or.inl rfl) (.slice (some ⟨g',0,none⟩) (L+1) cap');have ON:Off (fun x=>x=N) qZ [285]:=fun k hk=>⟨_,_,_,by subst hk;exact Dc.out,by simp⟩
   have ri:=acy.off KN ON aJ aJ;have xM:=bn mE.out KN ON aJ;have acA:aH (qZ.setCell ⟨N,3,none⟩ (.slice (some ⟨g',0,none⟩) (L+1) cap')) N 285 #[.slice Ap ps.length cp,.slice As src.length cs,.slice Ad dst.length cd,.slice (some ⟨g',0,none⟩) (L+1) cap']:=Dc.out.aM 3 _;refine⟨⟨k+1,acc++[(p1,p2)],false,_,rfl,by omega,by omega,ae (by rw[aj,←HL.out];simp;omega),ae ri,ae xN,ae acA,ae (by rw[aj,←HL.out,pq];exact xM),xH⟩,?_⟩;rw[ri.next,Ai.out];omega
  |false=>
   have hmore:=ae hrs.out.more;by_cases hlt0:k<ws.length
   ·rw[decide_eq_true hlt0]at hmore;go_upto_region 14 with(go_at_call 214;refine hmore.out.mono ?_;rintro r w7⟨rfl,d7⟩)
    obtain⟨RS,KP,BN,OW⟩:=cU (hrs.out.below d7) (hkp.out.trans (Keeps.of_below d7 fun k hk _=>hk)) (hbn.out.below d7 hbn.out.lt) (own_below hown.out d7);clear hrs hkp hbn hown hmore d7;have htake:=RS.out.take hk;unfold jy at htake;have kM:=ae htake;clear htake;have OB8:Off (fun x=>x=b) w7 [207]:=fun k hk=>⟨_,_,_,by subst hk;exact RS.out.blk,by simp⟩
    have HOB:=ae OB8;clear OB8;go_wp2_with fail
    go_at_call 161;refine kM.out.mono ?_;rintro r w8⟨⟨d8,e8⟩,h8⟩;have sZ:=ae (KP.out.trans (d8.mono (T:=fun x=>x=b∨x=N) fun k _ hk=>Or.inl hk));have zB:=ae (BN.out.off d8 HOB.out aJ);have JI:=ae (bn OW.out d8 HOB.out aJ);have zg:=ae e8;clear RS KP BN OW d8 e8 HOB kM;cases hsk:ws[k]? with
    |none=>
     have hge:ws.length≤k:=by rw[aid]at hsk;exact hsk
     rw[hsk]at h8;simp only at h8;subst h8;unfold aT;exact⟨rfl,eW.bad ((Da.out _ sZ.out)) (absurd hge aR)⟩
    |some s=>
    have hlt:k<ws.length:=(List.getElem?_eq_some_iff.1 hsk).1;rw[hsk]at h8;simp only at h8;subst h8;have hss:s.size≤2000000:=zg.out.sizes s (iD hsk);have hpt:=AE (acx.out _ sZ.out) s hss;have hst:=hres.out;rw[uR hsk]at hst;obtain⟨o,ho⟩:=bw (mA s);rw[←ho]at hpt hst;clear ho hsk hres;cases o with
    |none=>
     have IE:ag (Calls ah 218 #[.string s] w8 fun r w'=>(∃a b:Nat,r=.returned (.tuple #[.agg #[.int .u16 a,.int .u16 b],.bool false]))∧aW w8 w'):=ae (hpt.mono fun r w'⟨⟨a,b,_,_,h,_⟩,h2⟩=>⟨⟨a,b,h⟩,h2⟩);have IG:=ae hst;clear hpt hst;go_upto_region 15 with(go_at_call 218;refine IE.out.mono ?_;rintro r w9⟨⟨p1,p2,rfl⟩,d9⟩)
     have d10:=after d9 (boxed w9 (.cells #[.int .u16 p1,.int .u16 p2] 290));generalize w9.alloc (.cells #[.int .u16 p1,.int .u16 p2] 290)=w10 at d10⊢;obtain⟨nE,nF⟩:=aL (zg.out.below d10) (sZ.out.trans (Keeps.of_below d10 fun k hk _=>hk));clear zg sZ;clear d10 d9 IE;have hun:=nE.out.unless aR aR false 193;rw[eC hlt]at hun;have kr:ag (Calls ah 162 #[.pointer (some ⟨b,0,none⟩),.bool false,.int .i64 193] w10 fun r w'=>r=aT 193 n k∧aW w10 w'):=ae hun;clear hun;go_wp2_with(go_at_call 162;refine kr.out.mono ?_;rintro r vG⟨rfl,d11⟩;unfold aT)
     exact⟨rfl,eW.bad ((Da.out _ (nF.out.trans (Keeps.of_below d11 fun k hk _=>hk)))) (by rw[Qf.out,IG.out];rfl)⟩
    |some pp=>
    obtain⟨p1,p2⟩:=pp;have IE:ag (Calls ah 218 #[.string s] w8 (Got (.tuple #[.agg #[.int .u16 p1,.int .u16 p2],.bool true]) w8)):=ae (hpt.mono fun r w'⟨⟨a,b,_,_,h,h3⟩,h2⟩=>⟨by have:=h3 _ rfl;injection this with e1 e2;subst e1 e2;exact h,h2⟩);have IG:=ae hst;clear hpt hst;go_upto_region 15 with(go_at_call 218;refine IE.out.mono ?_;rintro r w9⟨rfl,d9⟩)
    have d10:=after d9 (boxed w9 (.cells #[.int .u16 p1,.int .u16 p2] 290));have xP:=ae (aH.new w9 290 #[.int .u16 p1,.int .u16 p2]);have hM9:=d9.size;generalize w9.alloc (.cells #[.int .u16 p1,.int .u16 p2] 290)=w10 at d10 xP⊢;generalize w9.heap.size=M at hM9 xP⊢;obtain⟨nE,nF,fU,UE⟩:=cU (zg.out.below d10) (sZ.out.trans (Keeps.of_below d10 fun k hk _=>hk)) (zB.out.below d10 zB.out.lt) (own_below JI.out d10);clear zg sZ zB JI;clear d10 d9 IE;have hun:=nE.out.unless aR aR true 193;have kr:ag (Calls ah 162 #[.pointer (some ⟨b,0,none⟩),.bool true,.int .i64 193] w10 fun r w'=>r=.returned (.tuple #[])∧aW w10 w'):=ae hun;clear hun;go_upto_region 16 with(go_at_call 162;refine kr.out.mono ?_;rintro r vG⟨rfl,d11⟩)
    obtain⟨qq,rS,tH,CQ,JZ⟩:=eB (nE.out.below d11) (nF.out.trans (Keeps.of_below d11 fun k hk _=>hk)) (fU.out.below d11 fU.out.lt) (own_below UE.out d11) (xP.out.below d11 xP.out.lt);clear nE nF fU UE xP;clear d11 kr;obtain⟨-,-,-,x3⟩:=dY tH;have hro:=qq.out.room aR aR L;rw[eC hlt]at hro;have rh:=ae hro;clear hro;by_cases h64:64≤L
    ·have hR:=IG.out;try simp only at hR
     rw[←HL.out,if_pos h64]at hR;rw[decide_eq_false aR]at rh;have nG:ag (Calls ah 211 #[.pointer (some ⟨b,0,none⟩),.int .i64 L] vG fun r w'=>r=aT 198 n k∧aW vG w'):=rh;have P9:=ae hR;clear rh hR IG h64;go_wp2_with(go_at_call 211;refine nG.out.mono ?_;rintro r w12⟨rfl,d12⟩;unfold aT)
     exact⟨rfl,eW.bad ((Da.out _ (rS.out.trans (Keeps.of_below d12 fun k hk _=>hk)))) (by rw[Qf.out,P9.out];rfl)⟩
    have hR:=IG.out;try simp only at hR
    rw[←HL.out,if_neg h64]at hR;rw[decide_eq_true aR]at rh;have nG:ag (Calls ah 211 #[.pointer (some ⟨b,0,none⟩),.int .i64 L] vG fun r w'=>r=.returned (.tuple #[])∧aW vG w'):=rh;have xH:=ae hR;clear rh hR IG;go_upto_region 17 with(go_at_call 211;refine nG.out.mono ?_;rintro r w12⟨rfl,d12⟩)
    obtain⟨CZ,zC,UF,Db,UG⟩:=eB (qq.out.below d12) (rS.out.trans (Keeps.of_below d12 fun k hk _=>hk)) (tH.out.below d12 tH.out.lt) (own_below CQ.out d12) (JZ.out.below d12 JZ.out.lt);clear qq rS tH CQ JZ;clear d12 nG x3;have x3:=UF.out.cell 3;have m0:=UG.out.cell 0;have m1:=UG.out.cell 1;simp at x3 m0 m1;have abt:=zC.out.size;go_wp2_with(at_builtin;refine wpList_append_lies _ rfl _ _ 283 rfl jP.heap.size 290 i0 (.agg #[.int .u16 0,.int .u16 0]) 2 4 Tryz.underlying283 hi hz0 hz1 hz2 rfl aJ _ L _ rfl (Db.out.alloc _) ⟨w12.heap.size,0,none⟩ 1 1 [.int .u16 p1,.int .u16 p2] rfl rfl (cS w12 [.int .u16 p1,.int .u16 p2] 290) (by intro u hu;simp at hu;rcases hu with rfl|rfl<;>rfl) aJ (by unfold maxLen;omega) aR (by simp;omega) (w12.heap.size+1) (by simp) ?_;intro g' cap' qZ hown' hgrow hat nD;have Dc:=ae ((UF.out.alloc (.cells #[.int .u16 p1,.int .u16 p2] 290)).off (Keeps.row hgrow) (cG (Db.out.alloc (.cells #[.int .u16 p1,.int .u16 p2] 290))) aJ);obtain⟨-,-,-,x15⟩:=dY Dc;have z15:=Dc.out.frozen 3;obtain⟨mE,fX⟩:=aL hown' hgrow;clear hown' hgrow hat nD)
    have KS:Keeps (fun k=>(dq A1 L c1).ownBlock=some k) (w12.alloc (.cells #[.int .u16 p1,.int .u16 p2] 290)) qZ:=Keeps.row fX.out;have OS:=cG (Db.out.alloc (.cells #[.int .u16 p1,.int .u16 p2] 290));have acy:=(CZ.out.alloc (.cells #[.int .u16 p1,.int .u16 p2] 290)).off KS OS aJ aJ;have acz:=Keeps.grown (zC.out.alloc (.cells #[.int .u16 p1,.int .u16 p2] 290)) fX.out fun g hg=>Or.inr (Db.out.lt g hg).1
    have xN:=acz.setCell (p:=⟨N,3,none⟩) (Or.inl (Or.inr rfl)) (.slice (some ⟨g',0,none⟩) (L+1) cap');have KN:=(Keeps.refl (fun x=>x=N) qZ).setCell (p:=⟨N,3,none⟩) (Or.inl rfl) (.slice (some ⟨g',0,none⟩) (L+1) cap');have ON:Off (fun x=>x=N) qZ [285]:=fun k hk=>⟨_,_,_,by subst hk;exact Dc.out,by simp⟩
    have ri:=acy.off KN ON aJ aJ;have xM:=bn mE.out KN ON aJ;have acA:aH (qZ.setCell ⟨N,3,none⟩ (.slice (some ⟨g',0,none⟩) (L+1) cap')) N 285 #[.slice Ap ps.length cp,.slice As src.length cs,.slice Ad dst.length cd,.slice (some ⟨g',0,none⟩) (L+1) cap']:=Dc.out.aM 3 _;refine⟨⟨k+1,acc++[(p1,p2)],false,_,rfl,by omega,by omega,ae (by rw[aj,←HL.out];simp;omega),ae ri,ae xN,ae acA,ae (by rw[aj,←HL.out,pq];exact xM),xH⟩,?_⟩;rw[ri.next,Ai.out];omega
   ·rw[decide_eq_false hlt0]at hmore;have hR:=hres.out;rw[JV aR]at hR;have HRF:ag (RES=.ok (⟨ps,src.map (·.1),dst.map (·.1),acc⟩,src++dst)):=ae (by rw[Qf.out,hR];rfl);have OK:Off (fun x=>x=b∨x=N) jP [207,285]:=fun k hk=>hk.elim (fun e=>⟨_,_,_,by subst e;exact ZL.out.blk,by simp⟩) (fun e=>⟨_,_,_,by subst e;exact UD.out,by simp⟩)
    have HOK:=ae OK;clear hR hres OK;go_upto_region 18 with(go_at_call 214;refine hmore.out.mono ?_;rintro r Nc⟨rfl,lR⟩)
    have KK:=hkp.out.trans (Keeps.of_below lR fun k hk _=>hk);obtain⟨J6,UH,Qh⟩:=bz (hrs.out.below lR) (Da.out _ KK) (hbn.out.below lR hbn.out.lt);have aeR:=ae (aeN.out.off KK HOK.out aJ);have aeS:=ae (bn aeO.out KK HOK.out aJ);have aeT:=ae (bn aeP.out KK HOK.out aJ);have aeU:=ae (bn aeQ.out KK HOK.out aJ);clear aeN aeO aeP aeQ;have aeV:ag (Nc.ownsRow w0.heap.size 290 2 (.slice A1 L c1) acc.length (jk acc)):=ae (by rw[←HL.out];exact(own_below hown.out lR).mono (by have:=acw.out.size;omega));clear KK HOK lR hmore hrs hkp hbn hown Da acx UD ZL acw;have agx:w.heap.size≤Nc.heap.size:=UH.out.size;have PE:=ae (HP.out.off UH.out ZC.out aJ);obtain⟨xs,hxs,hac,hmem⟩:=HN.out.off UH.out ZC.out aJ aJ aJ aJ;have Yg:ag (some N≠(dq A T cap).ownBlock):=ae fun e=>by
     obtain⟨xs,_,ho,_⟩:=HN.out;have:=(ho.lt N e.symm).2;omega
    rw[←HT.out]at hac;have JR:=ae hxs;have x0:=(PE.out.cell 3).trans hq;have x2:=J6.out.blk.cell 2;have n0:=Qh.out.cell 0;have n1:=Qh.out.cell 1;have n2:=Qh.out.cell 2;have n3:=Qh.out.cell 3;simp at x2 n0 n1 n2 n3;obtain⟨jP,eD⟩:=bw ((Nc.alloc (.cells #[.slice Ap ps.length cp,.slice As src.length cs,.slice Ad dst.length cd,.slice A1 L c1] 285)).drew);have mF:ag (jP.ownsRow w0.heap.size 285 4 (.slice A T cap) T (nC xs)):=ae (by rw[eD];exact hac.alloc _);have jd:ag (∀j u,[.slice Ap ps.length cp,.slice As src.length cs,.slice Ad dst.length cd,.slice A1 L c1][j]? =some u→jP.cell? ((⟨Nc.heap.size,0,none⟩:Addr).add j)=some u):=ae (by rw[eD];exact cS Nc [.slice Ap ps.length cp,.slice As src.length cs,.slice Ad dst.length cd,.slice A1 L c1] 285);have og:ag (aH jP P 166 pc):=ae (by rw[eD];exact PE.out.alloc _);have xI:ag (aH jP N 285 #[.slice Ap ps.length cp,.slice As src.length cs,.slice Ad dst.length cd,.slice A1 L c1]):=ae (by rw[eD];exact Qh.out.alloc _);have lk:ag (Rs jP b P k n lv uv2 ws):=ae (by rw[eD];exact⟨(J6.out.alloc _).blk,(J6.out.alloc _).row,J6.out.ne,J6.out.len,J6.out.sizes⟩);have IC:ag (Keeps (fun x=>x=b∨uv.ownBlock=some x) w jP):=ae (by rw[eD];exact(UH.out.alloc _).drew);have bE:aW Nc jP:=by rw[eD];have q:=boxed Nc (.cells #[.slice Ap ps.length cp,.slice As src.length cs,.slice Ad dst.length cd,.slice A1 L c1] 285);exact⟨q.os,q.tape,q.output,q.size,q.block⟩
    have acs:ag (∀x∈xs,qH jP w0.heap.size x):=ae fun x hx=>⟨own_below (hmem x hx).p bE,own_below (hmem x hx).s bE,own_below (hmem x hx).d bE,own_below (hmem x hx).o bE⟩
    have acu:=ae (aeR.out.below bE);have HMN:ag (qH jP w0.heap.size ⟨⟨ps,src.map (·.1),dst.map (·.1),acc⟩,.slice Ap ps.length cp,.slice As src.length cs,.slice Ad dst.length cd,.slice A1 L c1⟩):=ae ⟨own_below aeS.out bE,by rw[ay];exact own_below aeT.out bE,by rw[ay];exact own_below aeU.out bE,own_below aeV.out bE⟩;have P8:jP.heap.size=Nc.heap.size+1:=by rw[eD];simp
    have y0:=(og.out.cell 3).trans hq;have y2:=lk.out.blk.cell 2;have v0:=xI.out.cell 0;have v1:=xI.out.cell 1;have v2:=xI.out.cell 2;have v3:=xI.out.cell 3;simp at y2 v0 v1 v2 v3;clear hxs hac hmem bE aeR J6 PE Qh aeS aeT aeU aeV UH;rw[eD]at mF jd og xI y0 y2 v0 v1 v2 v3;refine dW 16 (fun w'=>w'.cell? ⟨b,2,none⟩=some (.pointer (some ⟨P,0,none⟩))∧w'.cell? ⟨P,3,none⟩=some (.slice A T cap)∧w'.cell? ⟨N,0,none⟩=some (.slice Ap ps.length cp)∧w'.cell? ⟨N,1,none⟩=some (.slice As src.length cs)∧w'.cell? ⟨N,2,none⟩=some (.slice Ad dst.length cd)∧w'.cell? ⟨N,3,none⟩=some (.slice A1 L c1)) bo (⟨x2,x0,n0,n1,n2,n3⟩) (fun hHeld=>?_);refine dT 0 ?_
    refine dT 1 ?_
    refine dT 2 ?_
    refine dT 3 ?_
    refine dT 4 ?_
    refine dT 5 ?_
    refine dT 6 ?_
    refine dT 7 ?_
    refine dT 8 ?_
    refine dT 9 ?_
    refine dT 10 ?_
    refine dT 11 ?_
    refine np 12 fun K hK=>?_;go_simp
    skip
    refine hK.out _ _ (fun _=>⟨y2,y0,v0,v1,v2,v3⟩) (fun hHeld=>?_);have hHeld:=hHeld aJ;clear hK K;try simp only[ck]
    refine np 13 fun K hK=>?_;refine step_append_lies _ (by rfl) _ _ _ (by rfl) w0.heap.size 285 j0 (.agg #[au,au,au,au]) 4 96 Tryz.underlying164 hj hj0 hj1 hj2 rfl aJ _ T _ (by rfl) mF.out ⟨Nc.heap.size,0,none⟩ 1 1 [.slice Ap ps.length cp,.slice As src.length cs,.slice Ad dst.length cd,.slice A1 L c1] (by rfl) rfl jd.out (by intro u hu;simp at hu;rcases hu with rfl|rfl|rfl|rfl<;>rfl) aJ (by unfold maxLen;omega) aR (by simp;omega) (Nc.heap.size+1) (by simp) ?_;intro g' cap' qZ hown' hgrow hat nD;have BP:=ae (og.out.off (Keeps.row hgrow) (cG mF.out) aJ);have fU:=xI.out.grown hgrow Yg.out;have p0:=(BP.out.cell 3).trans hq;have pz:=BP.out.frozen 3;have m0:=fU.cell 0;have m1:=fU.cell 1;have m2:=fU.cell 2;have m3:=fU.cell 3;rw[←eD]at hgrow mF;have R15:=ae (lk.out.off (Keeps.row hgrow) (cG mF.out) aJ aJ);have U15:=ae (acu.out.off (Keeps.row hgrow) (cG mF.out) aJ);have acv:=ae (HMN.out.keep (Keeps.row hgrow) (cG mF.out) aJ aJ aJ);have CV:=ae fun x hx=>(acs.out x hx).keep (Keeps.row hgrow) (cG mF.out) aJ aJ (by decide)
    have p2:=R15.out.blk.cell 2;simp at m0 m1 m2 m3 p2;obtain⟨mE,fX,P4⟩:=bz hown' hgrow hat;clear hown' hgrow hat nD fU;refine hK.out _ _ (fun _=>⟨p2,p0,m0,m1,m2,m3⟩) (fun hHeld=>?_);have hHeld:=hHeld aJ;clear hK K;try simp only[ck]
    refine np 14 fun K hK=>?_;go_simp;refine hK.out _ _ (fun _=>hHeld) (fun hHeld=>?_);have hHeld:=hHeld aJ;clear hK K;try simp only[ck]
    refine dT 15 ?_
    refine np 16 fun K hK=>?_;go_simp;refine hK.out _ _ (fun h=>absurd rfl h) (fun _=>?_);clear hK K hHeld;try simp only[ck]
    refine OU ?_;go_wp2_with fail
    have KQ:=(Keeps.refl (fun x=>x=P) qZ).setCell (p:=⟨P,3,none⟩) (Or.inl rfl) (.slice (some ⟨g',0,none⟩) (T+1) cap');have OQ:Off (fun x=>x=P) qZ [166]:=fun k hk=>⟨_,_,_,by subst hk;exact BP.out,by simp⟩
    have K2:=(Keeps.grown (FIN.out _ IC.out) fX.out fun k hk=>Or.inl (Or.inr (Or.inr (Or.inl hk)))).setCell (p:=⟨P,3,none⟩) (Or.inl (Or.inr (Or.inl rfl))) (.slice (some ⟨g',0,none⟩) (T+1) cap');have B2:aH (qZ.setCell ⟨P,3,none⟩ (.slice (some ⟨g',0,none⟩) (T+1) cap')) P 166 (pc.setIfInBounds 3 (.slice (some ⟨g',0,none⟩) (T+1) cap')):=BP.out.aM 3 _;refine⟨rfl,_,results_none rfl _ _ _,eW.good HRF.out K2 ⟨rfl,_,_,_,R15.out.off KQ OQ aJ aJ,B2,⟨xs++[⟨⟨ps,src.map (·.1),dst.map (·.1),acc⟩,.slice Ap ps.length cp,.slice As src.length cs,.slice Ad dst.length cd,.slice A1 L c1⟩],?_,?_,?_⟩,?_,?_,HG2.out,by rw[aj];omega⟩⟩
    ·rw[cL,JR.out];rfl
    ·rw[aj,←HT.out,rQ];exact bn mE.out KQ OQ (by decide)
    ·intro x hx;rcases List.mem_append.1 hx with hx|hx
     ·exact(CV.out x hx).keep KQ OQ aJ aJ (by decide)
     ·rw[List.mem_singleton.1 hx];exact acv.out.keep KQ OQ aJ aJ (by decide)
    ·rw[uQ,←aO];exact U15.out.off KQ OQ (by decide)
    ·intro g hg;have hgg:some g'=some g:=hg;injection hgg with hgg
     rcases P4.out with h|h
     ·exact Or.inl (hgg▸h)
     ·exact Or.inr (by omega)
theorem a8.empty(w:World)(size:Nat):a8 w au 0 size []:=⟨none,0,rfl,by simp,fun h=>absurd h aJ⟩
theorem a8.shape{w:World}{v:Value}{n size:Nat}{xs:List Value}(h:a8 w v n size xs):∃A cap,v=.slice A n cap:=by
 obtain⟨A,cap,e,_⟩:=h;exact⟨A,cap,e⟩
def rV(w:World)(v:Value)(l:List Nm):Prop:=∃xs:List (Nm×Value),xs.map (·.1)=l∧a8 w v l.length 2 (ix (xs.map tC))∧∀x∈xs,a8 w x.2 x.1.list.length 1 (strCells x.1.list)
theorem fD.rd{w:World}{base:Nat}{v:Value}{l:List Nm}(h:fD w base v l):rV w v l:=by
 obtain⟨xs,h1,h2,h3⟩:=h;exact⟨xs,h1,a8.di h2,fun x hx=>a8.di (h3 x hx)⟩
theorem rV.below{w w':World}{v:Value}{l:List Nm}(h:rV w v l)(hb:aW w w'):rV w' v l:=by
 obtain⟨xs,h1,h2,h3⟩:=h;exact⟨xs,h1,h2.below hb,fun x hx=>(h3 x hx).below hb⟩
theorem rV.has{w:World}{v:Value}{l:List Nm}(h:rV w v l)(s:ByteArray):∃ys:List (ByteArray×Value),ys.length=l.length∧a8 w v ys.length 2 (ix ys)∧(ys.any fun x=>decide (x.1=s))=qS l s:=by
 obtain⟨xs,rfl,h2,h3⟩:=h;refine⟨xs.map tC,by simp,?_,?_⟩
 ·simpa using h2
 ·unfold qS;rw[List.any_map,List.any_map];rfl
structure F6(w:World)(x:Yd):Prop where
 p:a8 w x.p x.a.i7.length 1 (eO x.a.i7)
 s:a8 w x.s x.a.src.length 6 (ie x.a.src)
 d:a8 w x.d x.a.dst.length 6 (ie x.a.dst)
 o:a8 w x.o x.a.jO.length 2 (jk x.a.jO)
def zD(w:World)(v:Value)(l:List Ac):Prop:=∃xs:List Yd,xs.map (·.a)=l∧a8 w v l.length 4 (nC xs)∧∀x∈xs,F6 w x
theorem qH.rd{w:World}{base:Nat}{x:Yd}(h:qH w base x):F6 w x:=⟨a8.di h.p,a8.di h.s,a8.di h.d,a8.di h.o⟩
theorem iG.rd{w:World}{base:Nat}{v:Value}{l:List Ac}(h:iG w base v l):zD w v l:=by
 obtain⟨xs,h1,h2,h3⟩:=h;exact⟨xs,h1,a8.di h2,fun x hx=>(h3 x hx).rd⟩
theorem F6.below{w w':World}{x:Yd}(h:F6 w x)(hb:aW w w'):F6 w' x:=⟨h.p.below hb,h.s.below hb,h.d.below hb,h.o.below hb⟩
theorem zD.below{w w':World}{v:Value}{l:List Ac}(h:zD w v l)(hb:aW w w'):zD w' v l:=by
 obtain⟨xs,h1,h2,h3⟩:=h;exact⟨xs,h1,h2.below hb,fun x hx=>(h3 x hx).below hb⟩
structure vY where
 g:Value
 t:Value
 h:Value
 a:Value
def vY.cells(V:vY):Array Value:= #[V.g,V.t,V.h,V.a]
structure vH(w:World)(V:vY)(p:Po):Prop where
 g:rV w V.g p.groups
 t:rV w V.t p.tags
 h:a8 w V.h p.hosts.length 5 (fC p.hosts)
 a:zD w V.a p.lP
theorem vH.below{w w':World}{V:vY}{p:Po}(h:vH w V p)(hb:aW w w'):vH w' V p:=⟨h.g.below hb,h.t.below hb,h.h.below hb,h.a.below hb⟩
theorem rV.shape{w:World}{v:Value}{l:List Nm}(h:rV w v l):∃A cap,v=.slice A l.length cap:=by
 obtain⟨xs,_,h2,_⟩:=h;exact h2.shape
theorem zD.shape{w:World}{v:Value}{l:List Ac}(h:zD w v l):∃A cap,v=.slice A l.length cap:=by
 obtain⟨xs,_,h2,_⟩:=h;exact h2.shape
theorem Qi{w:World}{V:vY}{p:Po}(h:vH w V p)(hg:p.groups.length≤4000000)(ht:p.tags.length≤4000000)(hh:p.hosts.length≤4000000)(s:kD):Calls ah 163 #[.agg #[V.g,V.t,V.h,V.a],.agg #[.int .u8 (s.kind:Int),.string s.name,.bool s.net.a.v6,.int .u64 (s.net.a.hi:Int),.int .u64 (s.net.a.lo:Int),.int .u8 (s.net.bits:Int)]] w (Got (.bool (iK p s)) w):=by
 obtain⟨k,nm,⟨⟨v6,hi,lo⟩,bits⟩⟩:=s;obtain⟨gv,tv,hv,av⟩:=V;simp only;have b1:=boxed w (.cells #[gv,tv,hv,av] 166);have b2:=boxed (w.alloc (.cells #[gv,tv,hv,av] 166)) (.cells #[.int .u8 k,.string nm,.bool v6,.int .u64 hi,.int .u64 lo,.int .u8 bits] 217);have B1:=aH.new w 166 #[gv,tv,hv,av];have B2:=aH.new (w.alloc (.cells #[gv,tv,hv,av] 166)) 217 #[.int .u8 k,.string nm,.bool v6,.int .u64 hi,.int .u64 lo,.int .u8 bits];have B3:=B1.below b2 B1.lt;have H2:=h.below (after b1 b2);have HD:=ae (after b1 b2);obtain⟨G,hG,rg,hga⟩:=H2.g.has nm;obtain⟨T,hT,rt,hta⟩:=H2.t.has nm;have cg:=Cm G aR gv rg nm;have ct:=Cm T aR tv rt nm;have ch:=uL p.hosts hh hv H2.h nm;obtain⟨Ag,cg1,eg⟩:=rg.shape;obtain⟨At,ct1,et⟩:=rt.shape;obtain⟨Ah,ch1,eh⟩:=H2.h.shape;obtain⟨Aa,ca1,ea⟩:=H2.a.shape;simp only at eg et eh ea;subst eg et eh ea;rw[hga]at cg;rw[hta]at ct;rw[show(p.hosts.any fun x=>decide (x.name=nm))=zn p.hosts nm from rfl]at ch;have hkn:iK p ⟨k,nm,⟨⟨v6,hi,lo⟩,bits⟩⟩=if k=3 then qS p.groups nm else if k=4 then qS p.tags nm else if k=5 then zn p.hosts nm else true:=rfl
 rw[hkn];generalize qS p.groups nm=RG at cg⊢;generalize qS p.tags nm=RT at ct⊢;generalize zn p.hosts nm=RH at ch⊢;generalize G.length=lg at*;generalize T.length=lt at*;have x0:=B3.cell 0;have x1:=B3.cell 1;have x2:=B3.cell 2;have y0:=B2.cell 0;have y1:=B2.cell 1;simp at x0 x1 x2 y0 y1;obtain⟨HG,HT,HH⟩:=bz cg ct ch;clear hkn h b1 b2 B1 B2 B3 H2 hga hta rg rt cg ct ch hG hT hg ht hh;by_cases k3:k=3
 ·rw[if_pos k3];have e3:((k:Int)==3)=true:=by simp;omega
  clear k3;go_enter Tryz.func163,Tryz.ntmps163;go_wp2_with(go_at_call 192;refine HG.out.mono ?_;rintro r w2⟨rfl,d2⟩)
  go_ret;exact⟨rfl,after HD.out d2⟩
 rw[if_neg k3];have q3:((k:Int)==3)=false:=by simp;omega
 by_cases k4:k=4
 ·rw[if_pos k4];have e4:((k:Int)==4)=true:=by simp;omega
  clear k4;clear k3;go_enter Tryz.func163,Tryz.ntmps163;go_wp2_with(go_at_call 192;refine HT.out.mono ?_;rintro r w2⟨rfl,d2⟩)
  go_ret;exact⟨rfl,after HD.out d2⟩
 rw[if_neg k4];have q4:((k:Int)==4)=false:=by simp;omega
 by_cases k5:k=5
 ·rw[if_pos k5];have e5:((k:Int)==5)=true:=by simp;omega
  clear k5;clear k3 k4;go_enter Tryz.func163,Tryz.ntmps163;go_wp2_with(go_at_call 193;refine HH.out.mono ?_;rintro r w2⟨rfl,d2⟩)
  go_ret;exact⟨rfl,after HD.out d2⟩
 rw[if_neg k5];have q5:((k:Int)==5)=false:=by simp;omega
 clear k3 k4 k5;go_enter Tryz.func163,Tryz.ntmps163;go_wp2_with fail
 go_ret;exact⟨rfl,HD.out⟩
structure UI(n:Nm):Prop where
 name:n.name.size≤2000000
 len:n.list.length≤2000000
 all:∀s∈n.list,s.size≤2000000
theorem F7{l:List ByteArray}{k:Nat}{s:ByteArray}(h:l[k]? =some s):(strCells l)[k]? =some (.string s):=by
 unfold strCells;rw[List.getElem?_map,h];rfl
theorem a8.cell{w w':World}{A:Option Addr}{n cap size:Nat}{xs:List Value}(h:a8 w (.slice A n cap) n size xs)(hb:aW w w')(hn:0<n):∃g o,A=some ⟨g,o,none⟩∧∀j u,xs[j]? =some u→w'.cell? ⟨g,o+j,none⟩=some u:=by
 obtain⟨A',cap',e,_,hA⟩:=h;injection e with e1 _ e2
 subst e1;obtain⟨g,o,ha,hc⟩:=hA hn;exact⟨g,o,ha,fun j u hu=>(hb.cell (World.block_lt_of_cell? w _ (hc j u hu))).trans (hc j u hu)⟩
structure J7(s:kD):Prop where
 ok:s.net.Ok
 kind:s.kind<256
 name:s.name.size≤1900000
theorem acB{a b:ByteArray}(h:a.toList=b.toList):a=b:=by
 rw[cE,cE]at h;exact ByteArray.ext (Array.ext' h)
structure aeW(a:Ac):Prop where
 src:∀s∈a.src,J7 s
 dst:∀s∈a.dst,J7 s
 pl:a.i7.length≤2000000
 sl:a.src.length≤2000000
 dl:a.dst.length≤2000000
 ol:a.jO.length≤2000000
 pb:∀x∈a.i7,x<256
 ob:∀x∈a.jO,x.1<65536∧x.2<65536
structure aeX(p:Po):Prop where
 g:∀n∈p.groups,UI n
 t:∀n∈p.tags,UI n
 h:∀x∈p.hosts,x.name.size≤2000000∧x.net.Ok
 a:∀x∈p.lP,aeW x
 gl:p.groups.length≤2000000
 tl:p.tags.length≤2000000
 hl:p.hosts.length≤2000000
 al:p.lP.length≤2000000
structure Df(l:List (List UInt8)):Prop where
 len:l.length≤300
 all:∀w∈l,w.length≤2000010
theorem join_le:∀(l:List (List UInt8))(m:Nat),(∀w∈l,w.length≤m)→(Lib.join l [32]).length≤l.length*(m+1):=by
 intro l m
 induction l with
 |nil=>intro _;exact Nat.zero_le _
 |cons a r ih=>
  intro h;have ha:=h a (by simp);cases r with
  |nil=>rw[Lib.join_one];simp;omega
  |cons b r=>
   have:=ih (fun w hw=>h w (by simp[hw]));rw[I5];simp only[aj,List.length_cons,List.length_nil]at this⊢;rw[Nat.succ_mul (r.length+1)];omega
theorem Df.join{l:List (List UInt8)}(h:Df l):(Lib.join l [32]).length≤700000000:=by
 have h1:=join_le l 2000010 h.all;have h2:=Nat.mul_le_mul_right (2000010+1) h.len;omega
theorem Df.line{l:List (List UInt8)}(h:Df l):(abk l).length≤700000001:=by
 have:=h.join;unfold abk;simp;exact this
theorem Dh(l:List Nat)(h1:l.all (fun x=>decide (x=1)||decide (x=6)||decide (x=17))=true)(h2:rising 0 l=true):l.length≤3:=by
 match l,h1,h2 with
 |[],_,_=>decide
 |[_],_,_=>simp
 |[_,_],_,_=>simp
 |[_,_,_],_,_=>simp
 |a::b::c::d::r,h1,h2=>
  exfalso;simp only[List.all_cons,rising,Bool.and_eq_true,Bool.or_eq_true,decide_eq_true_eq]at h1 h2;omega
theorem addr_add(g o j:Nat):(⟨g,o,none⟩:Addr).add j=⟨g,o+j,none⟩:=by
 unfold Addr.add;split
 ·rename_i h;subst h;rfl
 ·rfl
abbrev pAt(b:Nat):Value:=.pointer (some ⟨b,0,none⟩)
def F8(c b:Nat):List SE:=[⟨fJ,.func (.func 186) #[] #[pAt c],0⟩,⟨kG,.func (.func 188) #[] #[pAt c],1⟩,⟨ja,.func (.func 189) #[pAt b] #[],2⟩,⟨jv,.func (.func 190) #[pAt b] #[],3⟩]
theorem Qj(w0:World)(c b:Nat):∃w1 w2 w3 w4:World,(Instr.mapUpdate 211 (.map (some w0.heap.size)) (.string ⟨#[103,114,111,117,112]⟩) (.func (.func 186) #[] #[.pointer (some ⟨c,0,none⟩)])).run ah (w0.alloc (.map #[] 0))=.ok () w1∧(Instr.mapUpdate 211 (.map (some w0.heap.size)) (.string ⟨#[116,97,103]⟩) (.func (.func 188) #[] #[.pointer (some ⟨c,0,none⟩)])).run ah w1=.ok () w2∧(Instr.mapUpdate 211 (.map (some w0.heap.size)) (.string ⟨#[104,111,115,116]⟩) (.func (.func 189) #[.pointer (some ⟨b,0,none⟩)] #[])).run ah w2=.ok () w3∧(Instr.mapUpdate 211 (.map (some w0.heap.size)) (.string ⟨#[97,99,99,101,112,116]⟩) (.func (.func 190) #[.pointer (some ⟨b,0,none⟩)] #[])).run ah w3=.ok () w4∧ff w4 w0.heap.size (F8 c b) 4∧aW w0 w2∧aW w0 w3∧aW w0 w4:=by
 have hT:=Tryz.underlying211;have hK:=bq;have h0:ff (w0.alloc (.map #[] 0)) w0.heap.size [] 0:=heap_alloc_new w0 _;obtain⟨w1,e1,_,_,k1,m1⟩:=fx (P:=ah) hT hK h0 ⟨#[103,114,111,117,112]⟩ (by decide+kernel) (.func (.func 186) #[] #[.pointer (some ⟨c,0,none⟩)]);obtain⟨w2,e2,_,_,k2,m2⟩:=fx (P:=ah) hT hK m1 ⟨#[116,97,103]⟩ (by rfl) (.func (.func 188) #[] #[.pointer (some ⟨c,0,none⟩)]);obtain⟨w3,e3,_,_,k3,m3⟩:=fx (P:=ah) hT hK m2 ⟨#[104,111,115,116]⟩ (by rfl) (.func (.func 189) #[.pointer (some ⟨b,0,none⟩)] #[]);obtain⟨w4,e4,_,_,k4,m4⟩:=fx (P:=ah) hT hK m3 ⟨#[97,99,99,101,112,116]⟩ (by rfl) (.func (.func 190) #[.pointer (some ⟨b,0,none⟩)] #[]);refine⟨w1,w2,w3,w4,e1,e2,e3,e4,m4,?_,?_,?_⟩
 ·exact(boxed w0 _).trans (Keeps.below (k1.trans k2) (fun k hk=>by rw[hk];exact ax _) (by simp))
 ·exact(boxed w0 _).trans (Keeps.below ((k1.trans k2).trans k3) (fun k hk=>by rw[hk];exact ax _) (by simp))
 ·exact(boxed w0 _).trans (Keeps.below (((k1.trans k2).trans k3).trans k4) (fun k hk=>by rw[hk];exact ax _) (by simp))
theorem py(w:World)(b:Nat):Calls ah 160 #[.pointer (some ⟨b,0,none⟩)] w fun r w'=>(∃m c,r=.returned (.map (some m))∧ff w' m (F8 c b) 4∧aH w' c 202 #[.pointer (some ⟨b,0,none⟩)]∧w.heap.size≤m∧w.heap.size≤c)∧aW w w':=by
 have hB:=aH.new w 202 #[.pointer (some ⟨b,0,none⟩)];have hb0:=boxed w (.cells #[.pointer (some ⟨b,0,none⟩)] 202);obtain⟨w1,w2,w3,w4,e1,e2,e3,e4,hM,g2,g3,g4⟩:=Qj (w.alloc (.cells #[.pointer (some ⟨b,0,none⟩)] 202)) w.heap.size b;have hmm:= @run_makeMap ah;have hmf:∀(fn:Fn)(first cap:Array Value)(w:World),(Instr.makeFunc fn first cap).run ah w=.ok (.func fn first cap) w:=fun _ _ _ _=>rfl
 have c2:=(hB.below g2 hB.lt).cell 0;have c3:=(hB.below g3 hB.lt).cell 0;simp at c2 c3;obtain⟨HB4,Hb4,HM⟩:=bz (hB.below g4 hB.lt) (after hb0 g4) hM;rw[show(w.alloc (.cells #[.pointer (some ⟨b,0,none⟩)] 202)).heap.size=w.heap.size+1 by simp]at e1 e2 e3 e4 HM;clear hM g2 g3 g4 hb0 hB;go_enter Tryz.func160,Tryz.ntmps160;go_wp2_with fail
 go_ret;exact⟨⟨_,_,rfl,HM.out,HB4.out,by omega,ax _⟩,Hb4.out⟩
def TyS(w:World)(T:List TypeId)(k:Nat):Prop:=∃cur e fz,w.heap[k]? =some (.cells cur e fz)∧e∈T
def LT:List TypeId:=[207,166,277,279,285,221]
def cK(base:Nat)(w w':World):Prop:=Keeps (fun k=>base≤k∧TyS w LT k) w w'
theorem cK.of{S:Nat→Prop}{base:Nat}{w w':World}{T:List TypeId}(hk:Keeps S w w')(hS:∀k,S k→base≤k)(ho:Off S w T)(hT:∀e∈T,e∈LT):cK base w w':=hk.mono fun k _ hs=>⟨hS k hs,by obtain⟨cur,e,fz,h1,h2⟩:=ho k hs;exact⟨cur,e,fz,h1,hT e h2⟩⟩
theorem cK.off{base:Nat}{w:World}:Off (fun k=>base≤k∧TyS w LT k) w LT:=fun _ hk=>hk.2
theorem cK.below{base:Nat}{w w':World}(h:cK base w w')(hb:base≤w.heap.size):Below base w w':=Keeps.below h (fun _ hk=>hk.1) hb
structure Pm(base:Nat)(w:World)(P:Nat)(uv:Value)(V:vY)(ed:qE):Prop where
 blk:aH w P 166 #[V.g,V.t,V.h,V.a]
 g:fD w base V.g ed.p.groups
 t:fD w base V.t ed.p.tags
 h:w.ownsRow base 279 5 V.h ed.p.hosts.length (fC ed.p.hosts)
 a:iG w base V.a ed.p.lP
 u:fp w base uv ed.used
 sep:∀x,V.g.ownBlock=some x→V.t.ownBlock=some x→False
 gl:ed.p.groups.length≤64
 tl:ed.p.tags.length≤64
 hl:ed.p.hosts.length≤64
 al:ed.p.lP.length≤64
 ul:ed.used.length≤128*ed.p.lP.length
theorem xQ(w:World):aW w w.drew:=⟨rfl,rfl,rfl,ax _,fun _ _=>rfl⟩
theorem Pm.drew{base P:Nat}{w:World}{uv:Value}{V:vY}{ed:qE}(h:Pm base w P uv V ed):Pm base w.drew P uv V ed:=⟨h.blk,h.g,h.t,h.h,h.a.below (xQ w),h.u,h.sep,h.gl,h.tl,h.hl,h.al,h.ul⟩
theorem Rs.drew{w:World}{b P k n:Nat}{lv uv:Value}{ws:List ByteArray}(h:Rs w b P k n lv uv ws):Rs w.drew b P k n lv uv ws:=⟨h.blk,h.row,h.ne,h.len,h.sizes⟩
theorem Env.drew{w:World}(h:Env w):Env w.drew:=h.below (xQ w)
theorem cK.fL{base:Nat}{w w':World}(h:cK base w.drew w'):cK base w w':=⟨h.os,h.tape,h.output,h.size,h.block⟩
def tI(base:Nat)(b P n:Nat)(lv:Value)(ws:List ByteArray)(w':World)(tJ:qE)(r:Ending):Prop:=r=.returned (.tuple #[])∧∃k' uv' V',Rs w' b P k' n lv uv' ws∧Pm base w' P uv' V' tJ
theorem fq.map{α β:Type}{o:Except Bad α}{f:α→β}{n:Nat}{ok:β→Ending→Prop}{r:Ending}(h:fq o n (fun x r=>ok (f x) r) r):fq (o.map f) n ok r:=by
 cases o with
 |error e=>exact h
 |ok x=>exact h
def nH{α:Type}(w':World)(P:Nat)(o:Except Bad α):Prop:=∀e,o=.error e→∃p0 p1 p2 p3,aH w' P 166 #[p0,p1,p2,p3]
theorem nH.map{α β:Type}{o:Except Bad α}{f:α→β}{w':World}{P:Nat}(h:nH w' P o):nH w' P (o.map f):=by
 intro e he;cases o with
 |error e'=>exact h e' rfl
 |ok x=>cases he
theorem fq.mono{α:Type}{o:Except Bad α}{n:Nat}{ok ok':α→Ending→Prop}{r:Ending}(h:fq o n ok r)(hm:∀x,o=.ok x→ok x r→ok' x r):fq o n ok' r:=by
 cases o with
 |error e=>exact h
 |ok x=>exact hm x rfl h
theorem ln{ws:List ByteArray}{x:ByteArray}(h:ws[0]? =some x):∃r,ws=x::r:=by
 cases ws with
 |nil=>cases h
 |cons y r=>injection h with h;exact⟨r,by rw[h]⟩
theorem J8{ws:List ByteArray}(ed:qE)(n:Nat)(h:ws[0]? =some fJ):fB ed n ws=(my ws ed.p.groups).map fun x=>{ed with p:={ed.p with groups:=ed.p.groups++[x]}}:=by
 obtain⟨r,rfl⟩:=ln h;unfold fB;dsimp only;rw[if_pos rfl]
theorem UJ{ws:List ByteArray}(ed:qE)(n:Nat)(h:ws[0]? =some kG):fB ed n ws=(my ws ed.p.tags).map fun x=>{ed with p:={ed.p with tags:=ed.p.tags++[x]}}:=by
 obtain⟨r,rfl⟩:=ln h;unfold fB;dsimp only;rw[if_neg (by decide+kernel),if_pos rfl]
theorem Qk{ws:List ByteArray}(ed:qE)(n:Nat)(h:ws[0]? =some ja):fB ed n ws=(uC ws ed.p.hosts).map fun x=>{ed with p:={ed.p with hosts:=ed.p.hosts++[x]}}:=by
 obtain⟨r,rfl⟩:=ln h;unfold fB;dsimp only;rw[if_neg (by decide+kernel),if_neg (by decide+kernel),if_pos rfl]
theorem F9{ws:List ByteArray}(ed:qE)(n:Nat)(h:ws[0]? =some jv):fB ed n ws=(lU ws ed.p.lP.length).map fun x=>{p:={ed.p with lP:=ed.p.lP++[x.1]},used:=ed.used++x.2.map fun y=>(y.1,n,y.2)}:=by
 obtain⟨r,rfl⟩:=ln h;unfold fB;dsimp only;rw[if_neg (by decide+kernel),if_neg (by decide+kernel),if_neg (by decide+kernel),if_pos rfl]
theorem Ql{ws:List ByteArray}{x:ByteArray}(ed:qE)(n:Nat)(h:ws[0]? =some x)(h1:x≠fJ)(h2:x≠kG)(h3:x≠ja)(h4:x≠jv):fB ed n ws=.error (190,0):=by
 obtain⟨r,rfl⟩:=ln h;unfold fB;dsimp only;rw[if_neg h1,if_neg h2,if_neg h3,if_neg h4]
theorem tK{w:World}{base size n:Nat}{e:TypeId}{v:Value}{xs:List Value}{g:Nat}(h:w.ownsRow base e size v n xs)(hg:v.ownBlock=some g):base≤g∧g<w.heap.size∧∃cur fz,w.heap[g]? =some (.cells cur e fz):=by
 obtain⟨cur,e2,fz,h1,h2⟩:=cG h g hg;rw[List.mem_singleton.1 h2]at h1;exact⟨(h.lt g hg).1,(h.lt g hg).2,cur,fz,h1⟩
theorem fD.own{w:World}{base:Nat}{v:Value}{l:List Nm}(h:fD w base v l){g:Nat}(hg:v.ownBlock=some g):base≤g∧g<w.heap.size∧∃cur fz,w.heap[g]? =some (.cells cur 277 fz):=by
 obtain⟨xs,_,ho,_⟩:=h;exact tK ho hg
theorem iG.own{w:World}{base:Nat}{v:Value}{l:List Ac}(h:iG w base v l){g:Nat}(hg:v.ownBlock=some g):base≤g∧g<w.heap.size∧∃cur fz,w.heap[g]? =some (.cells cur 285 fz):=by
 obtain⟨xs,_,ho,_⟩:=h;exact tK ho hg
theorem fp.own{w:World}{base:Nat}{v:Value}{l:List Us}(h:fp w base v l){g:Nat}(hg:v.ownBlock=some g):base≤g∧g<w.heap.size∧∃cur fz,w.heap[g]? =some (.cells cur 221 fz):=by
 obtain⟨xs,_,ho⟩:=h;exact tK ho hg
theorem nI{w:World}{g b:Nat}{cur cs:Array Value}{e t:TypeId}{fz:Nat×Nat}(h:w.heap[g]? =some (.cells cur e fz))(hb:aH w b t cs)(hne:e≠t):g≠b:=by
 rintro rfl;unfold aH at hb;rw[h]at hb;injection hb with hb
 injection hb with _ h2 _
 exact hne h2
theorem Ge{w0 w:World}{b P n:Nat}{lv uv:Value}{ws:List ByteArray}{V:vY}{ed:qE}(hE:aW w0 w)(hbb:w0.heap.size≤b)(Di:w0.heap.size≤P)(h:Rs w b P 1 n lv uv ws)(m:Pm w0.heap.size w P uv V ed)(hw:ws[0]? =some fJ):Calls ah 187 #[.pointer (some ⟨b,0,none⟩),.pointer (some ⟨P,0,none⟩)] w fun r w'=>cK w0.heap.size w w'∧fq (fB ed n ws) n (tI w0.heap.size b P n lv ws w') r∧nH w' P (fB ed n ws):=by
 rw[J8 ed n hw];have of:Off (fun k=>k=b∨k=P∨V.g.ownBlock=some k) w [207,166,277]:=by
  rintro k(e|e|e)
  ·exact⟨_,_,_,by subst e;exact h.blk,by simp⟩
  ·exact⟨_,_,_,by subst e;exact m.blk,by simp⟩
  ·obtain⟨_,_,cur,fz,h1⟩:=m.g.own e;exact⟨cur,_,fz,h1,by simp⟩
 have hPb:P≠b:=m.blk.vO h.blk aJ;refine(AG (q:=0) h m.blk rfl m.g hE.size).mono fun r w' hh=>have hk:=(hh.line (fun k hk=>Or.inl hk)).1;have hl:=(hh.line (fun k hk=>Or.inl hk)).2;⟨cK.of hk ?_ of aJ,fq.map (hl.mono fun x hx⟨h1,k',lst',R,B,NR,fr⟩=>⟨h1,k',uv,⟨lst',V.t,V.h,V.a⟩,R,⟨B,NR,?_,bn m.h hk of aJ,m.a.off hk of aJ aJ aJ aJ,m.u.off hk of aJ,?_,?_,m.tl,m.hl,m.al,m.ul⟩⟩),nH.map fun e he=>⟨_,_,_,_,m.blk.keep (hh.err e he) (hPb)⟩⟩
 ·rintro k(e|e|e)
  ·omega
  ·omega
  ·exact(m.g.own e).1
 ·refine m.t.keep hk of aJ ?_;rintro g hg(e|e|e)
  ·obtain⟨_,_,cur,fz,h1⟩:=m.t.own hg;exact nI h1 h.blk aJ e
  ·obtain⟨_,_,cur,fz,h1⟩:=m.t.own hg;exact nI h1 m.blk aJ e
  ·exact m.sep g e hg
 ·intro g hg ht;rcases fr g hg with e|e
  ·exact m.sep g e ht
  ·have:=(m.t.own ht).2.1;omega
 ·have:=(uE hx).2.1;show(ed.p.groups++[x]).length≤64;rw[aj];simp;omega
theorem Qm{w0 w:World}{b P n:Nat}{lv uv:Value}{ws:List ByteArray}{V:vY}{ed:qE}(hE:aW w0 w)(hbb:w0.heap.size≤b)(Di:w0.heap.size≤P)(h:Rs w b P 1 n lv uv ws)(m:Pm w0.heap.size w P uv V ed)(hw:ws[0]? =some kG):Calls ah 187 #[.pointer (some ⟨b,0,none⟩),.pointer (some ⟨P,1,none⟩)] w fun r w'=>cK w0.heap.size w w'∧fq (fB ed n ws) n (tI w0.heap.size b P n lv ws w') r∧nH w' P (fB ed n ws):=by
 rw[UJ ed n hw];have of:Off (fun k=>k=b∨k=P∨V.t.ownBlock=some k) w [207,166,277]:=by
  rintro k(e|e|e)
  ·exact⟨_,_,_,by subst e;exact h.blk,by simp⟩
  ·exact⟨_,_,_,by subst e;exact m.blk,by simp⟩
  ·obtain⟨_,_,cur,fz,h1⟩:=m.t.own e;exact⟨cur,_,fz,h1,by simp⟩
 have hPb:P≠b:=m.blk.vO h.blk aJ;refine(AG (q:=1) h m.blk rfl m.t hE.size).mono fun r w' hh=>have hk:=(hh.line (fun k hk=>Or.inl hk)).1;have hl:=(hh.line (fun k hk=>Or.inl hk)).2;⟨cK.of hk ?_ of aJ,fq.map (hl.mono fun x hx⟨h1,k',lst',R,B,NR,fr⟩=>⟨h1,k',uv,⟨V.g,lst',V.h,V.a⟩,R,⟨B,?_,NR,bn m.h hk of aJ,m.a.off hk of aJ aJ aJ aJ,m.u.off hk of aJ,?_,m.gl,?_,m.hl,m.al,m.ul⟩⟩),nH.map fun e he=>⟨_,_,_,_,m.blk.keep (hh.err e he) (hPb)⟩⟩
 ·rintro k(e|e|e)
  ·omega
  ·omega
  ·exact(m.t.own e).1
 ·refine m.g.keep hk of aJ ?_;rintro g hg(e|e|e)
  ·obtain⟨_,_,cur,fz,h1⟩:=m.g.own hg;exact nI h1 h.blk aJ e
  ·obtain⟨_,_,cur,fz,h1⟩:=m.g.own hg;exact nI h1 m.blk aJ e
  ·exact m.sep g hg e
 ·intro g hg ht;rcases fr g ht with e|e
  ·exact m.sep g hg e
  ·have:=(m.g.own hg).2.1;omega
 ·have:=(uE hx).2.1;show(ed.p.tags++[x]).length≤64;rw[aj];simp;omega
theorem J9{w0 w:World}(env:Env w0){b P n:Nat}{lv uv:Value}{ws:List ByteArray}{V:vY}{ed:qE}(hE:aW w0 w)(hbb:w0.heap.size≤b)(Di:w0.heap.size≤P)(h:Rs w b P 1 n lv uv ws)(m:Pm w0.heap.size w P uv V ed)(hw:ws[0]? =some ja):Calls ah 189 #[.pointer (some ⟨b,0,none⟩)] w fun r w'=>cK w0.heap.size w w'∧fq (fB ed n ws) n (tI w0.heap.size b P n lv ws w') r∧nH w' P (fB ed n ws):=by
 rw[Qk ed n hw];have of:Off (fun k=>k=b∨k=P∨V.h.ownBlock=some k) w [207,166,279]:=by
  rintro k(e|e|e)
  ·exact⟨_,_,_,by subst e;exact h.blk,by simp⟩
  ·exact⟨_,_,_,by subst e;exact m.blk,by simp⟩
  ·obtain⟨_,_,cur,fz,h1⟩:=tK m.h e;exact⟨cur,_,fz,h1,by simp⟩
 have ng:∀(v:Value)(l:List Nm),fD w w0.heap.size v l→∀g,v.ownBlock=some g→¬(g=b∨g=P∨V.h.ownBlock=some g):=by
  intro v l hv g hg e;obtain⟨_,_,cur,fz,h1⟩:=hv.own hg;rcases e with e|e|e
  ·exact nI h1 h.blk aJ e
  ·exact nI h1 m.blk aJ e
  ·obtain⟨_,_,aci,fz2,h2⟩:=tK m.h e;rw[h1]at h2;injection h2 with h2
   injection h2 with _ h2 _
   exact absurd h2 (by decide)
 have hPb:P≠b:=m.blk.vO h.blk aJ;refine(Ug env hE h m.blk rfl m.h hbb).mono fun r w' hh=>have hk:=(hh.line (fun k hk=>Or.inl hk)).1;have hl:=(hh.line (fun k hk=>Or.inl hk)).2;⟨cK.of hk ?_ of aJ,fq.map (hl.mono fun x hx⟨h1,k',lst',R,B,NR,fr⟩=>⟨h1,k',uv,⟨V.g,V.t,lst',V.a⟩,R,⟨B,m.g.keep hk of aJ (ng _ _ m.g),m.t.keep hk of aJ (ng _ _ m.t),NR,m.a.off hk of aJ aJ aJ aJ,m.u.off hk of aJ,m.sep,m.gl,m.tl,?_,m.al,m.ul⟩⟩),nH.map fun e he=>⟨_,_,_,_,m.blk.keep (hh.err e he) (hPb)⟩⟩
 ·rintro k(e|e|e)
  ·omega
  ·omega
  ·exact(tK m.h e).1
 ·have:=(I7 hx).2.1;show(ed.p.hosts++[x]).length≤64;rw[aj];simp;omega
theorem Dj{w0 w:World}(env:Env w0){b P n:Nat}{lv uv:Value}{ws:List ByteArray}{V:vY}{ed:qE}(hE:aW w0 w)(hbb:w0.heap.size≤b)(Di:w0.heap.size≤P)(h:Rs w b P 1 n lv uv ws)(m:Pm w0.heap.size w P uv V ed)(hw:ws[0]? =some jv):Calls ah 190 #[.pointer (some ⟨b,0,none⟩)] w fun r w'=>cK w0.heap.size w w'∧fq (fB ed n ws) n (tI w0.heap.size b P n lv ws w') r∧nH w' P (fB ed n ws):=by
 rw[F9 ed n hw];have of:Off (fun k=>k=b∨k=P∨V.a.ownBlock=some k∨uv.ownBlock=some k) w [207,166,285,221]:=by
  rintro k(e|e|e|e)
  ·exact⟨_,_,_,by subst e;exact h.blk,by simp⟩
  ·exact⟨_,_,_,by subst e;exact m.blk,by simp⟩
  ·obtain⟨_,_,cur,fz,h1⟩:=m.a.own e;exact⟨cur,_,fz,h1,by simp⟩
  ·obtain⟨_,_,cur,fz,h1⟩:=m.u.own e;exact⟨cur,_,fz,h1,by simp⟩
 have ng:∀(v:Value)(l:List Nm),fD w w0.heap.size v l→∀g,v.ownBlock=some g→¬(g=b∨g=P∨V.a.ownBlock=some g∨uv.ownBlock=some g):=by
  intro v l hv g hg e;obtain⟨_,_,cur,fz,h1⟩:=hv.own hg;obtain⟨aci,e2,fz2,h2,h3⟩:=of g e;rw[h1]at h2;injection h2 with h2
  injection h2 with _ h2 _
  rw[←h2]at h3;exact absurd h3 (by decide)
 have hPb:P≠b:=m.blk.vO h.blk aJ;have hPu:uv.ownBlock=some P→False:=fun e=>by
  obtain⟨_,_,cur,fz,h1⟩:=m.u.own e;exact nI h1 m.blk aJ rfl
 refine(JW env hE h m.blk rfl m.a m.u (by have:=m.ul;have:=m.al;omega) hbb).mono fun r w' hh=>have hk:=(hh.line (fun k hk=>hk.elim Or.inl fun e=>Or.inr (Or.inr (Or.inr e)))).1;have hl:=(hh.line (fun k hk=>hk.elim Or.inl fun e=>Or.inr (Or.inr (Or.inr e)))).2;⟨cK.of hk ?_ of aJ,fq.map (hl.mono fun x hx⟨h1,k',lst',uv',R,B,AR,UR,fr,fr2,xl⟩=>⟨h1,k',uv',⟨V.g,V.t,V.h,lst'⟩,R,⟨B,m.g.keep hk of aJ (ng _ _ m.g),m.t.keep hk of aJ (ng _ _ m.t),bn m.h hk of aJ,AR,UR,m.sep,m.gl,m.tl,m.hl,?_,?_⟩⟩),nH.map fun e he=>⟨_,_,_,_,m.blk.keep (hh.err e he) (fun e=>e.elim hPb hPu)⟩⟩
 ·rintro k(e|e|e|e)
  ·omega
  ·omega
  ·exact(m.a.own e).1
  ·exact(m.u.own e).1
 ·have:=(B9 hx).2.1;show(ed.p.lP++[x.1]).length≤64;rw[aj];simp;omega
 ·show(ed.used++x.2.map fun y=>(y.1,n,y.2)).length≤128*(ed.p.lP++[x.1]).length;rw[aj,aj,ay];have:=m.ul;simp;omega
theorem Qn{w0 w:World}{b P n c:Nat}{lv uv:Value}{ws:List ByteArray}{V:vY}{ed:qE}(hE:aW w0 w)(hbb:w0.heap.size≤b)(Di:w0.heap.size≤P)(h:Rs w b P 1 n lv uv ws)(m:Pm w0.heap.size w P uv V ed)(hw:ws[0]? =some fJ)(hc:aH w c 202 #[.pointer (some ⟨b,0,none⟩)]):Calls ah 186 #[.pointer (some ⟨c,0,none⟩)] w fun r w'=>cK w0.heap.size w w'∧fq (fB ed n ws) n (tI w0.heap.size b P n lv ws w') r∧nH w' P (fB ed n ws):=by
 have HN:=Ge (w:=w.drew) (n:=n) (lv:=lv) ⟨hE.os,hE.tape,hE.output,hE.size,hE.block⟩ hbb Di h.drew m.drew hw;have x0:=hc.cell 0;have x2:=h.blk.cell 2;simp at x0 x2;have HC:=ae hc;clear h m hc;cases ho:fB ed n ws with
 |error e=>
  rw[ho]at HN;have HE:ag (Calls ah 187 #[.pointer (some ⟨b,0,none⟩),.pointer (some ⟨P,0,none⟩)] w.drew fun r w'=>cK w0.heap.size w.drew w'∧r=aT e.1 n e.2∧nH (α:=qE) w' P (.error e)):=ae HN;clear HN ho;go_enter Tryz.func186,Tryz.ntmps186;refine wp_region_held_drew (S:=(fun w'=>w'.cell? ⟨c,0,none⟩=some (.pointer (some ⟨b,0,none⟩))∧w'.cell? ⟨b,2,none⟩=some (.pointer (some ⟨P,0,none⟩)))) bo (⟨x0,x2⟩) (fun hHeld=>?_);refine aY 0 ?_
  refine aY 1 ?_
  refine aY 2 ?_
  refine aY 3 ?_
  refine aY 4 ?_
  refine aY 5 ?_
  refine aY 6 ?_
  refine fA 7 fun K hK=>?_;go_simp;refine HE.out.mono ?_;rintro r w5⟨d5,rfl,p5⟩;unfold aT;exact⟨rfl,d5.fL,rfl,p5⟩
 |ok x=>
  rw[ho]at HN;have HE:ag (Calls ah 187 #[.pointer (some ⟨b,0,none⟩),.pointer (some ⟨P,0,none⟩)] w.drew fun r w'=>cK w0.heap.size w.drew w'∧(r=.returned (.tuple #[])∧∃k' uv' V',Rs w' b P k' n lv uv' ws∧Pm w0.heap.size w' P uv' V' x)):=ae (HN.mono fun r w'⟨h1,h2,_⟩=>⟨h1,h2⟩);clear HN ho;go_enter Tryz.func186,Tryz.ntmps186;refine wp_region_held_drew (S:=(fun w'=>w'.cell? ⟨c,0,none⟩=some (.pointer (some ⟨b,0,none⟩))∧w'.cell? ⟨b,2,none⟩=some (.pointer (some ⟨P,0,none⟩)))) bo (⟨x0,x2⟩) (fun hHeld=>?_);refine aY 0 ?_
  refine aY 1 ?_
  refine aY 2 ?_
  refine aY 3 ?_
  refine aY 4 ?_
  refine aY 5 ?_
  refine aY 6 ?_
  refine fA 7 fun K hK=>?_;go_simp;refine HE.out.mono ?_;rintro r w5⟨d5,rfl,k',uv',V',R5,M5⟩;have y0:=(HC.out.off d5.fL cK.off aJ).cell 0;have y2:=R5.blk.cell 2;simp at y0 y2;refine hK.out _ _ (⟨y0,y2⟩) (fun hHeld=>?_);clear hK K;try simp only[ck]
  refine lN ?_;refine⟨rfl,_,results_none rfl _ _ _,d5.fL,⟨rfl,_,_,_,R5,M5⟩,fun e he=>(by cases he)⟩
theorem Qo{w0 w:World}{b P n c:Nat}{lv uv:Value}{ws:List ByteArray}{V:vY}{ed:qE}(hE:aW w0 w)(hbb:w0.heap.size≤b)(Di:w0.heap.size≤P)(h:Rs w b P 1 n lv uv ws)(m:Pm w0.heap.size w P uv V ed)(hw:ws[0]? =some kG)(hc:aH w c 202 #[.pointer (some ⟨b,0,none⟩)]):Calls ah 188 #[.pointer (some ⟨c,0,none⟩)] w fun r w'=>cK w0.heap.size w w'∧fq (fB ed n ws) n (tI w0.heap.size b P n lv ws w') r∧nH w' P (fB ed n ws):=by
 have HN:=Qm (w:=w.drew) (n:=n) (lv:=lv) ⟨hE.os,hE.tape,hE.output,hE.size,hE.block⟩ hbb Di h.drew m.drew hw;have x0:=hc.cell 0;have x2:=h.blk.cell 2;simp at x0 x2;have HC:=ae hc;clear h m hc;cases ho:fB ed n ws with
 |error e=>
  rw[ho]at HN;have HE:ag (Calls ah 187 #[.pointer (some ⟨b,0,none⟩),.pointer (some ⟨P,1,none⟩)] w.drew fun r w'=>cK w0.heap.size w.drew w'∧r=aT e.1 n e.2∧nH (α:=qE) w' P (.error e)):=ae HN;clear HN ho;go_enter Tryz.func188,Tryz.ntmps188;refine wp_region_held_drew (S:=(fun w'=>w'.cell? ⟨c,0,none⟩=some (.pointer (some ⟨b,0,none⟩))∧w'.cell? ⟨b,2,none⟩=some (.pointer (some ⟨P,0,none⟩)))) bo (⟨x0,x2⟩) (fun hHeld=>?_);refine aY 0 ?_
  refine aY 1 ?_
  refine aY 2 ?_
  refine aY 3 ?_
  refine aY 4 ?_
  refine aY 5 ?_
  refine aY 6 ?_
  refine fA 7 fun K hK=>?_;go_simp;refine HE.out.mono ?_;rintro r w5⟨d5,rfl,p5⟩;unfold aT;exact⟨rfl,d5.fL,rfl,p5⟩
 |ok x=>
  rw[ho]at HN;have HE:ag (Calls ah 187 #[.pointer (some ⟨b,0,none⟩),.pointer (some ⟨P,1,none⟩)] w.drew fun r w'=>cK w0.heap.size w.drew w'∧(r=.returned (.tuple #[])∧∃k' uv' V',Rs w' b P k' n lv uv' ws∧Pm w0.heap.size w' P uv' V' x)):=ae (HN.mono fun r w'⟨h1,h2,_⟩=>⟨h1,h2⟩);clear HN ho;go_enter Tryz.func188,Tryz.ntmps188;refine wp_region_held_drew (S:=(fun w'=>w'.cell? ⟨c,0,none⟩=some (.pointer (some ⟨b,0,none⟩))∧w'.cell? ⟨b,2,none⟩=some (.pointer (some ⟨P,0,none⟩)))) bo (⟨x0,x2⟩) (fun hHeld=>?_);refine aY 0 ?_
  refine aY 1 ?_
  refine aY 2 ?_
  refine aY 3 ?_
  refine aY 4 ?_
  refine aY 5 ?_
  refine aY 6 ?_
  refine fA 7 fun K hK=>?_;go_simp;refine HE.out.mono ?_;rintro r w5⟨d5,rfl,k',uv',V',R5,M5⟩;have y0:=(HC.out.off d5.fL cK.off aJ).cell 0;have y2:=R5.blk.cell 2;simp at y0 y2;refine hK.out _ _ (⟨y0,y2⟩) (fun hHeld=>?_);clear hK K;try simp only[ck]
  refine lN ?_;refine⟨rfl,_,results_none rfl _ _ _,d5.fL,⟨rfl,_,_,_,R5,M5⟩,fun e he=>(by cases he)⟩
theorem catch_idle(P F:Nat)(w:World):CallsD ah 157 #[.pointer (some ⟨P,0,none⟩),.pointer (some ⟨F,0,none⟩)] .returning w fun e u' w'=>e=.returned (.tuple #[])∧u'=.returning∧w'=w:=by
 refine callsD_of_wpS Tryz.func157 rfl fun c₀ cs hu=>?_
 apply wpS_seq;apply wpS_region;simp[wpOpsS,go_sem,recoverD,hu,Tryz.ntmps157,Exit.thenS];apply wpS_seq;apply wpS_region;simp[wpOpsS,go_sem,Exit.thenS];refine wpS_cond (t:=false) (by simp[Act.eval,Array.replicate]) ?_;simp only[Bool.false_eq_true,if_false];refine wpS_of_wp (wp_skip ?_);cases c₀;simp_all [bodyPostS,results,Tryz.results157]
theorem acC{w:World}{g:Nat}{t:TypeId}{z0 z1 z2 z3:Value}(v0 v1 v2 v3:Value)(h:aH w g t #[z0,z1,z2,z3]):aH ((((w.setCell ⟨g,0,none⟩ v0).setCell ⟨g,1,none⟩ v1).setCell ⟨g,2,none⟩ v2).setCell ⟨g,3,none⟩ v3) g t #[v0,v1,v2,v3]∧Keeps (fun x=>x=g) w ((((w.setCell ⟨g,0,none⟩ v0).setCell ⟨g,1,none⟩ v1).setCell ⟨g,2,none⟩ v2).setCell ⟨g,3,none⟩ v3):=⟨(((h.aM 0 v0).aM 1 v1).aM 2 v2).aM 3 v3,((((Keeps.refl (fun x=>x=g) w).setCell (p:=⟨g,0,none⟩) (Or.inl rfl) v0).setCell (p:=⟨g,1,none⟩) (Or.inl rfl) v1).setCell (p:=⟨g,2,none⟩) (Or.inl rfl) v2).setCell (p:=⟨g,3,none⟩) (Or.inl rfl) v3⟩
theorem acD{w:World}{g:Nat}{t:TypeId}{z0 z1 z2:Value}(v0 v1 v2:Value)(h:aH w g t #[z0,z1,z2]):aH (((w.setCell ⟨g,0,none⟩ v0).setCell ⟨g,1,none⟩ v1).setCell ⟨g,2,none⟩ v2) g t #[v0,v1,v2]∧Keeps (fun x=>x=g) w (((w.setCell ⟨g,0,none⟩ v0).setCell ⟨g,1,none⟩ v1).setCell ⟨g,2,none⟩ v2):=⟨((h.aM 0 v0).aM 1 v1).aM 2 v2,(((Keeps.refl (fun x=>x=g) w).setCell (p:=⟨g,0,none⟩) (Or.inl rfl) v0).setCell (p:=⟨g,1,none⟩) (Or.inl rfl) v1).setCell (p:=⟨g,2,none⟩) (Or.inl rfl) v2⟩
theorem catch_panicking(P F e n i:Nat)(w:World)(older:List PanicEntry){p0 p1 p2 p3 f0 f1 f2:Value}(hP:aH w P 166 #[p0,p1,p2,p3])(hF:aH w F 168 #[f0,f1,f2])(hPF:P≠F):CallsD ah 157 #[.pointer (some ⟨P,0,none⟩),.pointer (some ⟨F,0,none⟩)] (.panicking ({v:=.iface 200 (.agg #[.int .i64 e,.int .i64 n,.int .i64 i]),recovered:=false}::older)) w fun r u' w'=>r=.returned (.tuple #[])∧u'=.panicking ({v:=.iface 200 (.agg #[.int .i64 e,.int .i64 n,.int .i64 i]),recovered:=true}::older)∧Keeps (fun k=>k=P∨k=F) w w'∧aH w' P 166 #[au,au,au,au]∧aH w' F 168 #[.int .i64 e,.int .i64 n,.int .i64 i]:=by
 refine callsD_of_wpS Tryz.func157 rfl fun c₀ cs hu=>?_
 apply wpS_seq;apply wpS_region;simp[wpOpsS,go_sem,recoverD,hu,Tryz.ntmps157,Exit.thenS];refine wpS_of_wp ?_;change Code.wp _ _ _ {tmps:= #[.pointer (some ⟨P,0,none⟩),.pointer (some ⟨F,0,none⟩),.iface 200 (.agg #[.int .i64 e,.int .i64 n,.int .i64 i]),undef,undef,.iface 200 (.agg #[.int .i64 e,.int .i64 n,.int .i64 i]),undef,undef,undef,undef,undef,undef,undef,undef,undef,undef,undef,undef,undef],defers:=[]} w;have hta:∀w:World,(Instr.typeAssert (.iface 200 (.agg #[.int .i64 e,.int .i64 n,.int .i64 i])) 20 200 true).run ah w=.ok (.tuple #[.agg #[.int .i64 e,.int .i64 n,.int .i64 i],.bool true]) w:=fun _=>by kernel_rfl
 clear hu;go_upto_region 5 with fail
 have NB:=aH.new w 200 #[.int .i64 e,.int .i64 n,.int .i64 i];have d1:=boxed w (.cells #[.int .i64 e,.int .i64 n,.int .i64 i] 200);have hP1:=hP.below d1 hP.lt;have hF1:=hF.below d1 hF.lt;have KD:Keeps (fun k=>k=P∨k=F) w (w.alloc (.cells #[.int .i64 e,.int .i64 n,.int .i64 i] 200)):=Keeps.of_below d1 fun k hk _=>hk
 have hPl:=hP.lt;have PD:=hF.lt;generalize w.alloc (.cells #[.int .i64 e,.int .i64 n,.int .i64 i] 200)=w1 at NB hP1 hF1 KD⊢;generalize w.heap.size=N at NB hPl PD⊢;clear d1 hP hF;have n0:=NB.cell 0;have n1:=NB.cell 1;have n2:=NB.cell 2;have x0:w1.cell? ⟨P,0,none⟩=_:=hP1.cell 0;have x1:w1.cell? ⟨P,1,none⟩=_:=hP1.cell 1;have x2:w1.cell? ⟨P,2,none⟩=_:=hP1.cell 2;have x3:w1.cell? ⟨P,3,none⟩=_:=hP1.cell 3;have z0:w1.frozen? ⟨P,0,none⟩=false:=hP1.frozen 0;have z1:w1.frozen? ⟨P,1,none⟩=false:=hP1.frozen 1;have z2:w1.frozen? ⟨P,2,none⟩=false:=hP1.frozen 2;have z3:w1.frozen? ⟨P,3,none⟩=false:=hP1.frozen 3;obtain⟨PB,KP⟩:=acC (w:=w1) au au au au hP1;obtain⟨W4,UK⟩:=bw ((((w1.setCell ⟨P,0,none⟩ au).setCell ⟨P,1,none⟩ au).setCell ⟨P,2,none⟩ au).setCell ⟨P,3,none⟩ au);rw[←UK]at PB KP;have HW4:=ae UK;clear UK;have FB:=aH.keep (show aH w1 F _ _ from hF1) KP (fun e=>hPF e.symm);have Yk:=aH.keep (show aH w1 N _ _ from NB) KP aR;simp at n0 n1 n2 x0 x1 x2 x3;have m0:=Yk.cell 0;have m1:=Yk.cell 1;have m2:=Yk.cell 2;have y0:=FB.cell 0;have y1:=FB.cell 1;have y2:=FB.cell 2;have u0:=FB.frozen 0;have u1:=FB.frozen 1;have u2:=FB.frozen 2;simp at m0 m1 m2 y0 y1 y2;obtain⟨vZ,KF⟩:=acD (.int .i64 e) (.int .i64 n) (.int .i64 i) FB;obtain⟨W7,hW7⟩:=bw (((W4.setCell ⟨F,0,none⟩ (.int .i64 e)).setCell ⟨F,1,none⟩ (.int .i64 n)).setCell ⟨F,2,none⟩ (.int .i64 i));rw[←hW7]at vZ KF;have HW7:=ae hW7;clear hW7;obtain⟨HFB,rW⟩:=aL vZ (PB.keep KF hPF);have HK:=ae (((KD.trans (KP.mono (T:=fun k=>k=P∨k=F) fun k _ hk=>Or.inl hk)).trans (KF.mono fun k _ hk=>Or.inr hk)).drew);have Qb:=Yk.keep KF aR;have o0:=Qb.cell 0;have o1:=Qb.cell 1;have o2:=Qb.cell 2;simp at o0 o1 o2;clear vZ PB KF KP KD NB Yk Qb FB hP1 hF1;refine wp_region_held_drew (S:=(fun w'=>w'.cell? ⟨N,0,none⟩=some (.int .i64 e)∧w'.cell? ⟨N,1,none⟩=some (.int .i64 n)∧w'.cell? ⟨N,2,none⟩=some (.int .i64 i))) bo (⟨n0,n1,n2⟩) (fun hHeld=>?_);refine aY 0 ?_
 refine aY 1 ?_
 refine aY 2 ?_
 refine fA 3 fun K hK=>?_;go_simp;rw[←HW4.out];refine hK.out _ _ (⟨m0,m1,m2⟩) (fun hHeld=>?_);clear hK K;try simp only[ck]
 refine fA 4 fun K hK=>?_;go_simp;rw[←HW7.out];refine hK.out _ _ (⟨o0,o1,o2⟩) (fun hHeld=>?_);clear hK K;try simp only[ck]
 refine lN ?_;exact⟨rfl,_,rfl,_,results_none rfl _ _ _,rfl,rfl,HK.out,rW.out,HFB.out⟩
theorem Qp(l:List UInt8):(oU l).length≤l.length+1∧∀s∈oU l,s.size≤l.length:=by
 have h:=rI l [];unfold oU fieldsB;constructor
 ·rw[ay];have:=(List.takeWhile_prefix iw (l:=fieldsGo [] l)).length_le;omega
 ·intro s hs;obtain⟨x,hx,rfl⟩:=List.mem_map.1 hs;have:=h.2 x ((List.takeWhile_prefix iw).subset hx);show(x.toArray).size≤l.length;rw[List.size_toArray];simpa using this
theorem Nh{w:World}{g:Nat}{v0 v1 v2 v3:Value}(h:aH w g 166 #[v0,v1,v2,v3]):(loadVar 166 ⟨g,0,none⟩).run ah w=.ok (.agg #[v0,v1,v2,v3]) w:=by
 have c0:=h.cell 0;have c1:=h.cell 1;have c2:=h.cell 2;have c3:=h.cell 3;simp at c0 c1 c2 c3;simp[loadVar,go_sem,c0,c1,c2,c3]
theorem Ni{w:World}{g:Nat}{v0 v1 v2:Value}(h:aH w g 168 #[v0,v1,v2]):(loadVar 168 ⟨g,0,none⟩).run ah w=.ok (.agg #[v0,v1,v2]) w:=by
 have c0:=h.cell 0;have c1:=h.cell 1;have c2:=h.cell 2;simp at c0 c1 c2;simp[loadVar,go_sem,c0,c1,c2]
def ei(s:List UInt8)(w:World)(r:Ending)(w':World):Prop:=(∃V:vY,r=.returned (.tuple #[.agg #[V.g,V.t,V.h,V.a],.agg #[.int .i64 ((jb s).2.1:Int),.int .i64 ((jb s).2.2.1:Int),.int .i64 ((jb s).2.2.2:Int)]])∧vH w' V (jb s).1)∧aW w w'
theorem rV.nil(w:World):rV w au []:=⟨[],rfl,a8.empty _ _,fun x hx=>by cases hx⟩
theorem zD.nil(w:World):zD w au []:=⟨[],rfl,a8.empty _ _,fun x hx=>by cases hx⟩
theorem vH.zero(w:World):vH w ⟨au,au,au,au⟩ Po.zero:=⟨rV.nil w,rV.nil w,a8.empty w 5,zD.nil w⟩
theorem ei.bad{s:List UInt8}{w w':World}{e n i:Nat}(h:jb s=(Po.zero,(e,n,i)))(hb:aW w w'):ei s w (.returned (.tuple #[.agg #[au,au,au,au],.agg #[.int .i64 e,.int .i64 n,.int .i64 i]])) w':=by
 unfold ei;rw[h];exact⟨⟨⟨au,au,au,au⟩,rfl,vH.zero w'⟩,hb⟩
theorem ei.good{s:List UInt8}{w w':World}{p:Po}{V:vY}(h:jb s=(p,(0,0,0)))(hr:vH w' V p)(hb:aW w w'):ei s w (.returned (.tuple #[.agg #[V.g,V.t,V.h,V.a],.agg #[.int .i64 0,.int .i64 0,.int .i64 0]])) w':=by
 unfold ei;rw[h];exact⟨⟨V,rfl,hr⟩,hb⟩
def endP(r:Except Flt qE):Po×Flt:=match r with
 | .error e=>(Po.zero,e)
 | .ok b=>match b.used.find? fun u=> !iK b.p u.1 with
   |some u=>(Po.zero,(196,u.2))
   |none=>(b.p,(0,0,0))
def UL(b:qE)(o:Option Us):Po×Flt:=match o with
 |some u=>(Po.zero,(196,u.2))
 |none=>(b.p,(0,0,0))
theorem ZM(b:qE):endP (.ok b)=UL b (b.used.find? fun u=> !iK b.p u.1):=by
 unfold endP UL;rfl
theorem UM{b:qE}{k:Nat}{u:Us}(h:b.used[k]? =some u):(b.used.drop k).find? (fun u=> !iK b.p u.1)=if iK b.p u.1=true then(b.used.drop (k+1)).find? (fun u=> !iK b.p u.1)else some u:=by
 have hk:k<b.used.length:=(List.getElem?_eq_some_iff.1 h).1;rw[bT hk,(List.getElem?_eq_some_iff.1 h).2,List.find?_cons];cases iK b.p u.1<;>rfl
theorem Qq{s:List UInt8}(h:¬8192<s.length):jb s=endP (qT (dx 10 s) 1 ⟨Po.zero,[]⟩):=by
 unfold jb;rw[if_neg h];rfl
theorem rj{tmps:Array Value}{w:World}{P F:Nat}{V v2:Value}(h1:tmps.getD 2 undef=.pointer (some ⟨P,0,none⟩))(h2:tmps.getD 3 undef=.pointer (some ⟨F,0,none⟩))(hl:(loadVar 166 ⟨P,0,none⟩).run ah w=.ok V w)(hl2:(loadVar 168 ⟨F,0,none⟩).run ah w=.ok v2 w):(results Tryz.f126 tmps).run ah w=.ok (.tuple #[V,v2]) w:=by
 have h1':tmps[2]?.getD undef=.pointer (some ⟨P,0,none⟩):=by simpa using h1
 have h2':tmps[3]?.getD undef=.pointer (some ⟨F,0,none⟩):=by simpa using h2
 have hres:Tryz.f126.results= #[.cell 2 166,.cell 3 168]:=rfl;simp[results,hres,h1',h2',asAddr,hl,hl2]
theorem lp{w:World}{tmps:Array Value}{P F e n i:Nat}{R:Ending→World→Prop}{p0 p1 p2 p3 f0 f1 f2:Value}(h2:tmps.getD 2 undef=.pointer (some ⟨P,0,none⟩))(h3:tmps.getD 3 undef=.pointer (some ⟨F,0,none⟩))(hP:aH w P 166 #[p0,p1,p2,p3])(hF:aH w F 168 #[f0,f1,f2])(hPF:P≠F)(hR:∀w',Keeps (fun k=>k=P∨k=F) w w'→R (.returned (.tuple #[.agg #[au,au,au,au],.agg #[.int .i64 e,.int .i64 n,.int .i64 i]])) w'):Leaves ah Tryz.f126 tmps R [{target:=.fn (.func 157) #[.pointer (some ⟨P,0,none⟩),.pointer (some ⟨F,0,none⟩)],args:= #[]}] (.panicking [{v:=.iface 200 (.agg #[.int .i64 e,.int .i64 n,.int .i64 i]),recovered:=false}]) w:=by
 refine leaves_cons (f:=157) (args:= #[.pointer (some ⟨P,0,none⟩),.pointer (some ⟨F,0,none⟩)]) (by simp) (by simp[go_sem]) ?_;refine(catch_panicking P F e n i w [] hP hF hPF).mono ?_;rintro r u' w'⟨rfl,rfl,hk,hp,hf⟩;show Leaves _ _ _ _ [] .returning w';exact⟨_,rj h2 h3 (Nh hp) (Ni hf),hR w' hk⟩
theorem uS{w:World}{tmps:Array Value}{P F:Nat}{R:Ending→World→Prop}{V v2:Value}(h2:tmps.getD 2 undef=.pointer (some ⟨P,0,none⟩))(h3:tmps.getD 3 undef=.pointer (some ⟨F,0,none⟩))(hl:(loadVar 166 ⟨P,0,none⟩).run ah w=.ok V w)(hl2:(loadVar 168 ⟨F,0,none⟩).run ah w=.ok v2 w)(hR:R (.returned (.tuple #[V,v2])) w):Leaves ah Tryz.f126 tmps R [{target:=.fn (.func 157) #[.pointer (some ⟨P,0,none⟩),.pointer (some ⟨F,0,none⟩)],args:= #[]}] .returning w:=by
 refine leaves_cons (f:=157) (args:= #[.pointer (some ⟨P,0,none⟩),.pointer (some ⟨F,0,none⟩)]) (by simp) (by simp[go_sem]) ?_;refine(catch_idle P F w).mono ?_;rintro r u' w'⟨rfl,rfl,rfl⟩;show Leaves _ _ _ _ [] .returning w';exact⟨_,rj h2 h3 hl hl2,hR⟩
theorem Gf{P:Program}{fn:Func}{t1 t2:Array Value}{R:Ending→World→Prop}(hr:results fn t1=results fn t2):∀(ds:List Deferred)(u:FrameMode)(w:World),Leaves P fn t1 R ds u w→Leaves P fn t2 R ds u w:=by
 intro ds
 induction ds with
 |nil=>
  intro u w h;cases u with
  |run=>exact h
  |returning=>obtain⟨v,h1,h2⟩:=h;exact⟨v,hr▸h1,h2⟩
  |panicking c=>exact h
 |cons d ds ih=>
  intro u w h;obtain⟨h1,fv,cap,f,args,h2,h3,h4⟩:=h;refine⟨h1,fv,cap,f,args,h2,h3,h4.mono fun e u' w' he=>?_⟩;cases e with
  |returned v=>exact ih _ _ he
  |panicked c=>exact ih _ _ he
  |outgrown=>exact he
theorem ig{d:Nat}(h2:d≠2)(h3:d≠3){a:Act}{v:Value}{R:Ending→World→Prop}{u:FrameMode}{w:World}(h:Leaves ah Tryz.f126 (a.tmps.setIfInBounds d v) R a.defers u w):Leaves ah Tryz.f126 a.tmps R a.defers u w:=by
 refine Gf ?_ _ _ _ h;have hres:Tryz.f126.results= #[.cell 2 166,.cell 3 168]:=rfl;unfold results;rw[hres];simp[Array.getElem?_setIfInBounds,h2,h3]
theorem fD.off{S:Nat→Prop}{w w':World}{T:List TypeId}{base:Nat}{v:Value}{l:List Nm}(h:fD w base v l)(hk:Keeps S w w')(ho:Off S w T)(h0:277∉T)(h1:9∉T):fD w' base v l:=by
 obtain⟨xs,e,ha,hb⟩:=h;exact⟨xs,e,bn ha hk ho h0,fun x hx=>bn (hb x hx) hk ho h1⟩
structure ZN(base:Nat)(w:World)(V:vY)(p:Po):Prop where
 g:fD w base V.g p.groups
 t:fD w base V.t p.tags
 h:w.ownsRow base 279 5 V.h p.hosts.length (fC p.hosts)
 a:iG w base V.a p.lP
theorem Pm.rows{base P:Nat}{w:World}{uv:Value}{V:vY}{ed:qE}(m:Pm base w P uv V ed):ZN base w V ed.p:=⟨m.g,m.t,m.h,m.a⟩
theorem ZN.below{base:Nat}{w w':World}{V:vY}{p:Po}(m:ZN base w V p)(hb:aW w w'):ZN base w' V p:=⟨m.g.below hb,m.t.below hb,own_below m.h hb,m.a.below hb⟩
theorem ZN.off{S:Nat→Prop}{T:List TypeId}{base:Nat}{w w':World}{V:vY}{p:Po}(m:ZN base w V p)(hk:Keeps S w w')(ho:Off S w T)(h0:277∉T)(h1:9∉T)(h2:279∉T)(h3:285∉T)(h4:5∉T)(h5:217∉T)(h6:290∉T):ZN base w' V p:=⟨m.g.off hk ho h0 h1,m.t.off hk ho h0 h1,bn m.h hk ho h2,m.a.off hk ho h3 h4 h5 h6⟩
theorem ZN.rd{base:Nat}{w:World}{V:vY}{p:Po}(m:ZN base w V p):vH w V p:=⟨m.g.rd,m.t.rd,a8.di m.h,m.a.rd⟩
theorem Pm.below{base P:Nat}{w w':World}{uv:Value}{V:vY}{ed:qE}(m:Pm base w P uv V ed)(hb:aW w w'):Pm base w' P uv V ed:=⟨m.blk.below hb m.blk.lt,m.g.below hb,m.t.below hb,own_below m.h hb,m.a.below hb,m.u.below hb,m.sep,m.gl,m.tl,m.hl,m.al,m.ul⟩
theorem Pm.reader{S:Nat→Prop}{base P:Nat}{w w':World}{uv:Value}{V:vY}{ed:qE}(m:Pm base w P uv V ed)(hk:Keeps S w w')(ho:Off S w [207]):Pm base w' P uv V ed:=⟨m.blk.off hk ho aJ,m.g.off hk ho aJ aJ,m.t.off hk ho aJ aJ,bn m.h hk ho aJ,m.a.off hk ho aJ aJ aJ aJ,m.u.off hk ho aJ,m.sep,m.gl,m.tl,m.hl,m.al,m.ul⟩
theorem Pm.nil{base P:Nat}{w:World}(h:aH w P 166 #[au,au,au,au]):Pm base w P au ⟨au,au,au,au⟩ ⟨Po.zero,[]⟩:=⟨h,fD.nil _ _,fD.nil _ _,bh _ _ _ _,iG.nil _ _,fp.nil _ _,fun x hx=>(by cases hx),by decide,by decide,by decide,by decide,by decide⟩
theorem Ko:∀(l:List (Us×ByteArray))(k:Nat)(x:Us×ByteArray),l[k]? =some x→(gd l)[k*9]? =some (.int .u8 (x.1.1.kind:Int))∧(gd l)[k*9+1]? =some (.string x.1.1.name)∧(gd l)[k*9+2]? =some (.bool x.1.1.net.a.v6)∧(gd l)[k*9+3]? =some (.int .u64 (x.1.1.net.a.hi:Int))∧(gd l)[k*9+4]? =some (.int .u64 (x.1.1.net.a.lo:Int))∧(gd l)[k*9+5]? =some (.int .u8 (x.1.1.net.bits:Int))∧(gd l)[k*9+6]? =some (.string x.2)∧(gd l)[k*9+7]? =some (.int .i64 (x.1.2.1:Int))∧(gd l)[k*9+8]? =some (.int .i64 (x.1.2.2:Int)):=by
 intro l
 induction l with
 |nil=>intro k x h;cases h
 |cons y r ih=>
  intro k x h;cases k with
  |zero=>injection h with h;subst h;exact⟨rfl,rfl,rfl,rfl,rfl,rfl,rfl,rfl,rfl⟩
  |succ k=>
   rw[show(k+1)*9=k*9+1+1+1+1+1+1+1+1+1 by omega];exact ih k x h
theorem rX{w:World}{m clock c b:Nat}(h:ff w m (F8 c b) clock):(Instr.lookup 211 (.map (some m)) (.string fJ) true).run ah w=.ok (.tuple #[.func (.func 186) #[] #[.pointer (some ⟨c,0,none⟩)],.bool true]) w∧(Instr.lookup 211 (.map (some m)) (.string kG) true).run ah w=.ok (.tuple #[.func (.func 188) #[] #[.pointer (some ⟨c,0,none⟩)],.bool true]) w∧(Instr.lookup 211 (.map (some m)) (.string ja) true).run ah w=.ok (.tuple #[.func (.func 189) #[.pointer (some ⟨b,0,none⟩)] #[],.bool true]) w∧(Instr.lookup 211 (.map (some m)) (.string jv) true).run ah w=.ok (.tuple #[.func (.func 190) #[.pointer (some ⟨b,0,none⟩)] #[],.bool true]) w:=by
 have hT:=Tryz.underlying211;have hK:=bq;exact⟨j9 hT hK h fJ (j:=0) (by rfl) rfl,j9 hT hK h kG (j:=1) (by rfl) rfl,j9 hT hK h ja (j:=2) (by rfl) rfl,j9 hT hK h jv (j:=3) (by rfl) rfl⟩
theorem UN{w:World}{m clock c b:Nat}(h:ff w m (F8 c b) clock){x:ByteArray}(h1:x≠fJ)(h2:x≠kG)(h3:x≠ja)(h4:x≠jv):(Instr.lookup 211 (.map (some m)) (.string x) true).run ah w=.ok (.tuple #[.nilFunc,.bool false]) w:=by
 refine qU Tryz.underlying211 bq h x ?_ bo;unfold at_ F8;simp only[List.findIdx?_cons,List.findIdx?_nil];rw[dH (Ne.symm h1),dH (Ne.symm h2),dH (Ne.symm h3),dH (Ne.symm h4)];rfl
end Go.Proofs.YtkjaajcpbldjoabGreatDoor
