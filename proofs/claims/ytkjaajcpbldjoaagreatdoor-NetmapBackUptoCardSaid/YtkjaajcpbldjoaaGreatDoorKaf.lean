/- Joined out of: PlP PlQ PxB PxD PxE PxF PxJ PxK PlR PlS PlT PlU. -/
import Derived.Test.YtkjaajcpbldjoaaGreatDoorKae
import Derived.Recover
set_option linter.unusedVariables false
set_option linter.unusedSimpArgs false
set_option maxHeartbeats 16000000
set_option maxRecDepth 100000
open Go.ByteArray renaming toList_eq→cC
open Go.Lib renaming hid→ae
open Go.Proofs.Tryz renaming prog→ah,underlying9→bn
open Go.RowKit renaming Hid→ag
open Go.Value renaming slice→dq
open Go.World renaming ownsRow_nil→bg
open List renaming length_append→ai,length_map→ay,append_assoc→aO,drop_eq_getElem_cons→bR,map_append→cH,mem_of_getElem?→kE,drop_eq_nil_of_le→og,length_drop→zb,getElem?_eq_none_iff→ah0
open Nat renaming le_trans→aw,le_refl→aA
namespace Go.Proofs.YtkjaajcpbldjoaaGreatDoor
open Go.RowKit
attribute [local go_sem↓] Go.wp_at_zero Go.wp_at_succ
abbrev T9:=Except Bad (Ac×List (kx×Nat))
def rV(ws:List ByteArray)(ps:List Nat)(src dst:List (kx×Nat)):List ByteArray→T9
 |[]=>.ok (⟨ps,src.map (·.1),dst.map (·.1),[]⟩,src++dst)
 |_::r5=>if r5=[]then .error (190,ws.length)else(jl r5 (ws.length-r5.length) 0).map fun po=>(⟨ps,src.map (·.1),dst.map (·.1),po⟩,src++dst)
def rW(ws:List ByteArray)(ps:List Nat)(src:List (kx×Nat)):List ByteArray→T9
 |[]=>.error (190,ws.length)
 |_::r3=>match dY nE r3 (ws.length-r3.length) 0 with
  | .error e=>.error e
  | .ok y=>rV ws ps src y.1 y.2
theorem JH{ws:List ByteArray}{told:Nat}(hne:ws≠[]):lR ws told=if 64≤told then .error (198,0)else match ws[1]? with
 |none=>.error (190,ws.length)
 |some pr=>match iO pr with
  |none=>.error (194,1)
  |some ps=>match ws[2]? with
   |none=>.error (190,ws.length)
   |some f=>if f≠xk then .error (190,2)else match dY OT (ws.drop 3) 3 0 with
    | .error e=>.error e
    | .ok x=>rW ws ps x.1 x.2:=by
 unfold lR;by_cases h:64≤told
 ·rw[if_pos h,if_pos h]
 rw[if_neg h,if_neg h]
 match ws with
 |[]=>exact absurd rfl hne
 |[a]=>rfl
 |[a,pr]=>simp only[List.getElem?_cons_succ,List.getElem?_cons_zero,List.getElem?_nil];cases iO pr<;>rfl
 |a::pr::f::r=>
  simp only[List.getElem?_cons_succ,List.getElem?_cons_zero,List.drop_succ_cons,List.drop_zero];cases iO pr with
  |none=>rfl
  |some ps=>
   simp only;by_cases hf:f≠xk
   ·rw[if_pos hf,if_pos hf]
   rw[if_neg hf,if_neg hf];cases dY OT r 3 0 with
   |error e=>rfl
   |ok x=>
    obtain⟨src,r2⟩:=x;cases r2 with
    |nil=>rfl
    |cons t r3=>
     unfold rW;simp only;cases dY nE r3 ((a::pr::f::r).length-r3.length) 0 with
     |error e=>rfl
     |ok y=>
      obtain⟨dst,r4⟩:=y;cases r4<;>rfl
theorem Cj{ws:List ByteArray}{ps:List Nat}{src:List (kx×Nat)}{k:Nat}(hk:k<ws.length):rW ws ps src (ws.drop k)=match dY nE (ws.drop (k+1)) (k+1) 0 with
 | .error e=>.error e
 | .ok y=>rV ws ps src y.1 y.2:=by
 rw[bR hk];unfold rW;dsimp only;rw[zb,show ws.length-(ws.length-(k+1))=k+1 by omega]
theorem Cm{ws:List ByteArray}{ps:List Nat}{src:List (kx×Nat)}{k:Nat}(hk:ws.length≤k):rW ws ps src (ws.drop k)=.error (190,ws.length):=by
 rw[og hk];rfl
theorem uQ(n:Nat)(a b:List (kx×Nat)):kP n (a++b)=kP n a++kP n b:=by simp[kP]
def lk(ws:List ByteArray)(k:Nat)(acc:List (Nat×Nat))(first:Bool):Except Bad (List (Nat×Nat)):=if first=true∧ws.length≤k then .error (190,ws.length)else(jl (ws.drop k) k acc.length).map (acc++·)
theorem uR{s:ByteArray}{ws:List ByteArray}{k:Nat}{acc:List (Nat×Nat)}{first:Bool}(h:ws[k]? =some s):lk ws k acc first=match mr s with
 |none=>.error (193,k)
 |some x=>if 64≤acc.length then .error (198,k)else lk ws (k+1) (acc++[x]) false:=by
 have hk:k<ws.length:=(List.getElem?_eq_some_iff.1 h).1;have hg:ws[k]=s:=(List.getElem?_eq_some_iff.1 h).2;unfold lk;rw[if_neg (show¬(first=true∧ws.length≤k) by omega),bR hk,hg]
 conv=>lhs;unfold jl
 cases mr s with
 |none=>rfl
 |some x=>
  simp only;rw[if_neg (show¬(false=true∧ws.length≤k+1) by simp)];by_cases h2:64≤acc.length
  ·rw[if_pos h2,if_pos h2];rfl
  rw[if_neg h2,if_neg h2,ai,List.length_singleton];cases jl (List.drop (k+1) ws) (k+1) (acc.length+1)with
  |error e=>rfl
  |ok l=>simp[Except.map]
theorem JI{ws:List ByteArray}{k:Nat}{acc:List (Nat×Nat)}(h:ws.length≤k):lk ws k acc false=.ok acc:=by
 unfold lk;rw[if_neg (by simp),og h];simp[jl,Except.map]
theorem FK{ws:List ByteArray}{k:Nat}{acc:List (Nat×Nat)}(h:ws.length≤k):lk ws k acc true=.error (190,ws.length):=by
 unfold lk;rw[if_pos ⟨rfl,h⟩]
theorem CB{ws:List ByteArray}{ps:List Nat}{src dst:List (kx×Nat)}{k:Nat}(hk:k<ws.length):rV ws ps src dst (ws.drop k)=(lk ws (k+1) [] true).map fun po=>(⟨ps,src.map (·.1),dst.map (·.1),po⟩,src++dst):=by
 rw[bR hk];unfold rV lk;dsimp only;by_cases h:ws.length≤k+1
 ·rw[if_pos (og h),if_pos ⟨rfl,h⟩];rfl
 ·rw[if_neg (show¬List.drop (k+1) ws=[]from fun e=>h (by rw[List.drop_eq_nil_iff]at e;exact e)),if_neg (show¬(true=true∧ws.length≤k+1)from fun e=>h e.2),zb,show ws.length-(ws.length-(k+1))=k+1 by omega];simp only[List.length_nil,List.nil_append];cases jl (List.drop (k+1) ws) (k+1) 0<;>rfl
theorem FM{en:ByteArray}:∀(l:List ByteArray)(i c:Nat)(L:List (kx×Nat))(t:List ByteArray),dY en l i c=.ok (L,t)→(∃p,l=p++t)∧∀s r,t=s::r→s=en:=by
 intro l
 induction l with
 |nil=>
  intro i c L t h;rw[dY]at h;split at h
  ·cases h
  injection h with h
  injection h with h2 h3
  subst h3;exact⟨⟨[],rfl⟩,fun s r h=>(by cases h)⟩
 |cons w r ih=>
  intro i c L t h;rw[dY]at h;split at h
  ·next h1=>
   injection h with h
   injection h with h2 h3
   subst h3;exact⟨⟨[],rfl⟩,fun s r h=>by injection h with h _;rw[←h];exact h1.1⟩
  ·split at h
   ·cases h
   ·next s hs=>
    split at h
    ·cases h
    next h2=>
    cases hr:dY en r (i+1) (c+1)with
    |error e=>rw[hr]at h;cases h
    |ok q=>
     rw[hr]at h;injection h with h
     injection h with h3 h4
     obtain⟨⟨p,e1⟩,e2⟩:=ih _ _ q.1 q.2 hr;rw[←h4];exact⟨⟨w::p,by rw[e1];rfl⟩,e2⟩
theorem MW{en:ByteArray}{ws:List ByteArray}{i:Nat}{L:List (kx×Nat)}{t:List ByteArray}(h:dY en (ws.drop i) i 0=.ok (L,t)):t=ws.drop (ws.length-t.length)∧∀s,ws[ws.length-t.length]? =some s→s=en:=by
 obtain⟨⟨p,e⟩,h2⟩:=FM _ _ _ _ _ h;have hd:t=ws.drop (ws.length-t.length):=by
  have e3:ws=(ws.take i++p)++t:=by rw[aO,←e,List.take_append_drop]
  have hl:(ws.take i++p).length=ws.length-t.length:=by
   have:=congrArg List.length e3;rw[ai]at this;omega
  have:(ws.take i++p++t).drop (ws.take i++p).length=t:=List.drop_left;rw[←e3,hl]at this;exact this.symm
 refine⟨hd,fun s hs=>?_⟩;have hk:=(List.getElem?_eq_some_iff.1 hs).1;rw[bR hk,(List.getElem?_eq_some_iff.1 hs).2]at hd;exact h2 _ _ hd
theorem Keeps.then_{S T:Nat→Prop}{a b c:World}(h:Keeps T a b)(k:Keeps S b c)(hs:∀x,S x→T x∨a.heap.size≤x):Keeps T a c:=⟨k.os.trans h.os,k.tape.trans h.tape,k.output.trans h.output,aw h.size k.size,fun x hx hT=>(k.block x (Nat.lt_of_lt_of_le hx h.size) (fun e=>by
 rcases hs x e with h|h
 ·exact hT h
 ·omega)).trans (h.block x hx hT)⟩
theorem iz.below{w w':World}{base:Nat}{v:Value}{l:List Ac}(h:iz w base v l)(hb:aW w w'):iz w' base v l:=by
 obtain⟨xs,e,ha,hm⟩:=h;exact⟨xs,e,own_below ha hb,fun x hx=>⟨own_below (hm x hx).p hb,own_below (hm x hx).s hb,own_below (hm x hx).d hb,own_below (hm x hx).o hb⟩⟩
theorem iz.off{S:Nat→Prop}{w w':World}{T:List TypeId}{base:Nat}{v:Value}{l:List Ac}(h:iz w base v l)(hk:Keeps S w w')(ho:Off S w T)(h0:288∉T)(h1:5∉T)(h2:220∉T)(h3:293∉T):iz w' base v l:=by
 obtain⟨xs,e,ha,hm⟩:=h;exact⟨xs,e,bj ha hk ho h0,fun x hx=>(hm x hx).keep hk ho h1 h2 h3⟩
theorem fh.Zq{w:World}{base:Nat}{v:Value}{l:List Us}(h:fh w base v l):Off (fun k=>v.ownBlock=some k) w [224]:=by
 obtain⟨xs,_,ho⟩:=h;exact cE ho
def Ua(w0 w:World)(b P n:Nat)(lv uv lst:Value)(ws:List ByteArray)(told:List Ac)(us:List Us)(pc:Array Value)(w':World)(x:Ac×List (kx×Nat))(r:Ending):Prop:=r=.returned (.tuple #[])∧∃k' lst' uv',Rs w' b P k' n lv uv' ws∧aG w' P 169 (pc.setIfInBounds 3 lst')∧iz w' w0.heap.size lst' (told++[x.1])∧fh w' w0.heap.size uv' (us++kP n x.2)∧(∀g,lst'.ownBlock=some g→lst.ownBlock=some g∨w.heap.size≤g)∧(∀g,uv'.ownBlock=some g→uv.ownBlock=some g∨w.heap.size≤g)∧x.2.length≤128
theorem JJ{w0 w:World}(env:Env w0)(hE:aW w0 w){b P n:Nat}{lv uv lst:Value}{ws:List ByteArray}{told:List Ac}{us:List Us}{pc:Array Value}(h:Rs w b P 1 n lv uv ws)(hP:aG w P 169 pc)(hq:pc[3]? =some lst)(hN:iz w w0.heap.size lst told)(hu:fh w w0.heap.size uv us)(hus:us.length≤3900000)(hbb:w0.heap.size≤b):Calls ah 192 #[.pointer (some ⟨b,0,none⟩)] w fun r w'=>eT (fun x=>x=b∨uv.ownBlock=some x) (fun k=>k=b∨k=P∨lst.ownBlock=some k∨uv.ownBlock=some k) w w' (lR ws told.length) n (Ua w0 w b P n lv uv lst ws told us pc w') r:=by
 obtain⟨A,cap,rfl⟩:=hN.shape;have hlen1:1≤ws.length:=by
  have:=h.ne;cases ws with
  |nil=>exact absurd rfl this
  |cons x r=>simp
 obtain⟨T,hT⟩:=bq told.length;rw[←hT]at hq hN⊢;have hPb:P≠b:=hP.vP h.blk aH;have c0:=(hP.cell 3).trans hq;have c1:=h.blk.cell 2;simp at c1;have hroom:=h.room aQ aQ T;rw[show Ig 1 ws=0 by unfold Ig;rw[if_pos hlen1]]at hroom;obtain⟨RES,eO⟩:=bq (lR ws T);rw[←eO];rw[JH h.ne]at eO;have hbs:w0.heap.size≤w.heap.size:=hE.size;have hUB:∀g,uv.ownBlock=some g→w0.heap.size≤g∧g<w.heap.size:=by
  obtain⟨xs,_,ho⟩:=hu;exact fun g hg=>ho.lt g hg
 obtain⟨HUB,kJ,RS,HP,US,HN,jO,HT,HE,vG,HWl⟩:=EB hUB hroom h hP hu hN eO hT hE env h.len;have FIN:ag (∀wx,Keeps (fun x=>x=b∨uv.ownBlock=some x) w wx→Keeps (fun k=>k=b∨k=P∨(dq A T cap).ownBlock=some k∨uv.ownBlock=some k) w wx):=ae fun wx h=>h.mono fun k _ hs=>hs.elim Or.inl fun e=>Or.inr (Or.inr (Or.inr e))
 have Zr:ag (Off (fun x=>x=b∨uv.ownBlock=some x) w [210,224]):=ae (fun k hk=>hk.elim (fun e=>⟨_,_,_,by subst e;exact RS.out.blk,by simp⟩) (fun e=>by obtain⟨cur,e2,fz,h1,h2⟩:=US.out.Zq k e;exact⟨cur,e2,fz,h1,by simp[List.mem_singleton.1 h2]⟩));have KP:=ae (Keeps.refl (fun x=>x=b∨uv.ownBlock=some x) w);clear hroom h hP hN eO hT hE env hu hUB;go_enter Tryz.func192,Tryz.ntmps192;go_wp2_with fail
 go_at_call 213;refine kJ.out.mono ?_;rintro r w1⟨h1,d1⟩;obtain⟨RS1,US1,Yb⟩:=bu (RS.out.below d1) (US.out.below d1) (KP.out.trans (Keeps.of_below d1 fun k hk _=>hk));clear RS US KP;by_cases Ft:T<64
 case neg=>
  rw[decide_eq_false Ft]at h1;unfold fH at h1;subst h1;unfold aT;exact⟨rfl,eT.bad (Yb.out) (by rw[jO.out,if_pos aQ])⟩
 rw[decide_eq_true Ft]at h1;unfold fH at h1;subst h1;have hR1:=jO.out;rw[if_neg aQ]at hR1;have HR1:=ae hR1;clear hR1 jO kJ d1 c0 c1;go_upto_region 2 with fail
 have Yc:=ae (aG.new w1 288 #[au,au,au,au]);have d2:=boxed w1 (.cells #[au,au,au,au] 288);have Ub:w.heap.size≤w1.heap.size:=Yb.out.size;generalize w1.alloc (.cells #[au,au,au,au] 288)=w2 at Yc d2⊢;obtain⟨rm,Zk,Cf⟩:=bu (RS1.out.below d2) (US1.out.below d2) (Yb.out.trans (Keeps.of_below d2 fun k hk _=>hk));clear RS1 US1 Yb;generalize w1.heap.size=N at Yc d2 Ub⊢;clear d2;have htake:=rm.out.take hlen1;unfold jm at htake;have kK:=ae htake;clear htake;go_upto_region 3 with fail
 go_wp2_with fail
 go_at_call 163;refine kK.out.mono ?_;rintro r w3⟨⟨d3,e3⟩,h3⟩;have OB2:Off (fun x=>x=b) w2 [210]:=fun k hk=>⟨_,_,_,by subst hk;exact rm.out.blk,by simp⟩
 have MX:=ae (Cf.out.trans (d3.mono (T:=fun x=>x=b∨uv.ownBlock=some x) fun k _ hk=>Or.inl hk));have US3:=ae (Zk.out.off d3 OB2 aH);have PY:=ae (Yc.out.off d3 OB2 aH);clear Zk Yc;have RS3:=ae e3;clear rm Cf d3 e3 OB2 kK;cases hs1:ws[1]? with
 |none=>
  rw[hs1]at h3;simp only at h3;subst h3;unfold aT;have hR:=HR1.out;rw[hs1]at hR;exact⟨rfl,eT.bad (MX.out) hR⟩
 |some pr=>
 rw[hs1]at h3;simp only at h3;subst h3;have hR2:=HR1.out;rw[hs1]at hR2;simp only at hR2;have HR2:=ae hR2;have hlt1:1<ws.length:=(List.getElem?_eq_some_iff.1 hs1).1;have agj:pr.size≤2000000:=RS3.out.sizes pr (kE hs1);have hE3:=cw HE.out MX.out (fun k hk=>hk.elim (fun e=>by subst e;exact hbb) fun e=>(HUB.out k e).1);have JK:=Jv (vG.out.below hE3) pr agj;have x0:=PY.out.cell 0;have z0:=PY.out.frozen 0;simp at x0;clear hR2 HR1 hs1 hE3;unfold gu at JK;cases hps:iO pr with
 |none=>
  rw[hps]at JK;have Uc:ag (Calls ah 218 #[.string pr] w3 fun r w'=>r=.returned (.tuple #[au,.bool false])∧aW w3 w'):=ae JK;have hR:=HR2.out;rw[hps]at hR;have HR3:=ae hR;clear hR HR2 JK hps;go_upto_region 4 with(go_at_call 218;refine Uc.out.mono ?_;rintro r w4⟨rfl,d4⟩;have Ud:=ae (PY.out.below d4 PY.out.lt);have y0:=Ud.out.cell 0;have yz:=Ud.out.frozen 0;simp at y0)
  clear PY;obtain⟨FH,TW,zg⟩:=bu (RS3.out.below d4) (US3.out.below d4) (MX.out.trans (Keeps.of_below d4 fun k hk _=>hk));clear RS3 US3 MX;obtain⟨w5,hw5⟩:=bq (w4.setCell ⟨N,0,none⟩ au);have Yd:Keeps (fun x=>x=N) w4 w5:=by rw[hw5];exact(Keeps.refl (fun x=>x=N) w4).setCell (p:=⟨N,0,none⟩) (Or.inl rfl) _
  have ON5:Off (fun x=>x=N) w4 [288]:=fun k hk=>⟨_,_,_,by subst hk;exact Ud.out,by simp⟩
  have NB5:ag (aG w5 N 288 #[au,au,au,au]):=ae (by rw[hw5];exact Ud.out.aL 0 au);have Il:=ae (zg.out.then_ Yd fun x hx=>Or.inr (hx▸Ub));rw[←hw5];clear hw5 Ud zg;have rn:=ae (FH.out.off Yd ON5 aH aH);have Zl:=ae (TW.out.off Yd ON5 aH);clear FH TW;have hun:=rn.out.unless aQ aQ false 194;rw[eu hlt1]at hun;have kj:ag (Calls ah 164 #[.pointer (some ⟨b,0,none⟩),.bool false,.int .i64 194] w5 fun r w'=>r=aT 194 n 1∧aW w5 w'):=ae hun;clear hun d4 Yd ON5 y0 yz Uc;go_wp2_with(go_at_call 164;refine kj.out.mono ?_;rintro r w6⟨rfl,d6⟩;unfold aT)
  exact⟨rfl,eT.bad ((Il.out.trans (Keeps.of_below d6 fun k hk _=>hk))) HR3.out⟩
 |some ps=>
 rw[hps]at JK;have Uc:ag (Calls ah 218 #[.string pr] w3 fun r w'=>(∃v:Value,r=.returned (.tuple #[v,.bool true])∧w'.ownsRow w3.heap.size 5 1 v ps.length (eJ ps))∧aW w3 w'):=ae JK;have hR:=HR2.out;rw[hps]at hR;have HR3:=ae hR;have agk:w0.heap.size≤w3.heap.size:=by have:=MX.out.size;omega
 clear hR HR2 JK hps;go_upto_region 4 with(go_at_call 218;refine Uc.out.mono ?_;rintro r w4⟨⟨vp,rfl,o4⟩,d4⟩;obtain⟨Ap,cp,rfl⟩:=aV o4;have O4:=ae o4;clear o4;have Ud:=ae (PY.out.below d4 PY.out.lt);have y0:=Ud.out.cell 0;have yz:=Ud.out.frozen 0;simp at y0)
 clear PY;obtain⟨FH,TW,zg⟩:=bu (RS3.out.below d4) (US3.out.below d4) (MX.out.trans (Keeps.of_below d4 fun k hk _=>hk));clear RS3 US3 MX;have R14:=ae (O4.out.mono agk);obtain⟨w5,hw5⟩:=bq (w4.setCell ⟨N,0,none⟩ (.slice Ap ps.length cp));have Yd:Keeps (fun x=>x=N) w4 w5:=by rw[hw5];exact(Keeps.refl (fun x=>x=N) w4).setCell (p:=⟨N,0,none⟩) (Or.inl rfl) _
 have ON5:Off (fun x=>x=N) w4 [288]:=fun k hk=>⟨_,_,_,by subst hk;exact Ud.out,by simp⟩
 have NB5:ag (aG w5 N 288 #[.slice Ap ps.length cp,au,au,au]):=ae (by rw[hw5];exact Ud.out.aL 0 (.slice Ap ps.length cp));have Il:=ae (zg.out.then_ Yd fun x hx=>Or.inr (hx▸Ub));rw[←hw5];clear hw5 Ud zg;have rn:=ae (FH.out.off Yd ON5 aH aH);have Zl:=ae (TW.out.off Yd ON5 aH);have R15:=ae (bj R14.out Yd ON5 aH);clear FH TW R14;have hun:=rn.out.unless aQ aQ true 194;have kj:ag (Calls ah 164 #[.pointer (some ⟨b,0,none⟩),.bool true,.int .i64 194] w5 fun r w'=>r=.returned (.tuple #[])∧aW w5 w'):=ae hun;clear hun d4 Yd ON5 y0 yz Uc O4 x0 z0;go_upto_region 5 with(go_at_call 164;refine kj.out.mono ?_;rintro r w6⟨rfl,d6⟩)
 obtain⟨FI,US6,R16,MU,NB6⟩:=ej (rn.out.below d6) (Zl.out.below d6) (own_below R15.out d6) (Il.out.trans (Keeps.of_below d6 fun k hk _=>hk)) (NB5.out.below d6 NB5.out.lt);clear rn Zl R15 Il NB5;clear d6 kj;have iF:=FI.out.must aQ xk;unfold qL at iF;have lV:ag (Calls ah 215 #[.pointer (some ⟨b,0,none⟩),.string ⟨#[102,114,111,109]⟩] w6 _):=ae iF;clear iF;go_wp2_with fail
 go_at_call 215;refine lV.out.mono ?_;rintro r w7⟨⟨d7,e7⟩,h7⟩;have OB6:Off (fun x=>x=b) w6 [210]:=fun k hk=>⟨_,_,_,by subst hk;exact FI.out.blk,by simp⟩
 obtain⟨Ej,qg⟩:=aN (MU.out.trans (d7.mono (T:=fun x=>x=b∨uv.ownBlock=some x) fun k _ hk=>Or.inl hk)) e7;have Ya:=ae (US6.out.off d7 OB6 aH);have NB7:=ae (NB6.out.off d7 OB6 aH);have R17:=ae (bj R16.out d7 OB6 aH);clear US6 NB6 R16;clear FI MU d7 e7 OB6 lV;have iP:=HR3.out;try simp only at iP
 cases hs2:ws[2]? with
 |none=>
  rw[show 1+1=2 from rfl,hs2]at h7;simp only at h7;subst h7;unfold aT;rw[hs2]at iP;exact⟨rfl,eT.bad (Ej.out) iP⟩
 |some fr=>
 rw[show 1+1=2 from rfl,hs2]at h7;rw[hs2]at iP;simp only at h7 iP;by_cases hfr:fr=xk
 case neg=>
  rw[if_neg hfr]at h7;subst h7;unfold aT;rw[if_pos hfr]at iP;exact⟨rfl,eT.bad (Ej.out) iP⟩
 rw[if_pos hfr]at h7;rw[if_neg (by simp[hfr])]at iP;subst h7;have hlen3:3≤ws.length:=by have:=(List.getElem?_eq_some_iff.1 hs2).1;omega
 have Fv:=ae iP;clear iP HR3 hs2 hfr;have hE7:=cw HE.out Ej.out (fun k hk=>hk.elim (fun e=>by subst e;exact hbb) fun e=>(HUB.out k e).1);have hse:=FG vG.out hE7 qg.out Ya.out hlen3 aQ hbb OT;have aes:w.heap.size≤w7.heap.size:=Ej.out.size;clear hE7;cases hq1:dY OT (ws.drop 3) 3 0 with
 |error e=>
  have Ue:ag (Calls ah 219 #[.pointer (some ⟨b,0,none⟩),.string ⟨#[116,111]⟩] w7 fun r w'=>Keeps (fun x=>x=b∨uv.ownBlock=some x) w7 w'∧r=aT e.1 n e.2):=ae (hse.mono fun r w'⟨h1,h2⟩=>⟨h1,by rw[show 1+1+1=3 from rfl,hq1]at h2;exact h2⟩);have hR:=Fv.out;rw[hq1]at hR;have HR:=ae hR;clear hR Fv hse hq1;go_wp2_with(go_at_call 219;refine Ue.out.mono ?_;rintro r w8⟨d8,rfl⟩;unfold aT)
  exact⟨rfl,eT.bad ((Ej.out.trans d8)) HR.out⟩
 |ok x=>
 obtain⟨src,r2⟩:=x;obtain⟨hr2,hto⟩:=MW hq1;have hR:=Fv.out;rw[hq1]at hR;simp only at hR;obtain⟨k1,hk1⟩:=bq (ws.length-r2.length);rw[←hk1]at hr2 hto;rw[hr2]at hR;have agl:k1≤ws.length:=by omega
 have Ue:ag (Calls ah 219 #[.pointer (some ⟨b,0,none⟩),.string ⟨#[116,111]⟩] w7 fun r w'=>Keeps (fun x=>x=b∨uv.ownBlock=some x) w7 w'∧∃v uv',r=.returned v∧w'.ownsRow w7.heap.size 220 6 v src.length (gW (src.map (·.1)))∧Rs w' b P k1 n lv uv' ws∧fh w' w0.heap.size uv' (us++kP n src)∧(∀g,uv'.ownBlock=some g→uv.ownBlock=some g∨w7.heap.size≤g)∧src.length≤64):=ae (hse.mono fun r w'⟨h1,h2⟩=>⟨h1,by rw[show 1+1+1=3 from rfl,hq1]at h2;obtain⟨v,uv',g1,g2,g3,g4,g5,g6⟩:=h2;exact⟨v,uv',g1,g2,by rw[hk1];exact g3,g4,g5,g6⟩⟩);obtain⟨YV,HTo⟩:=aN hR hto;clear hR Fv hse hq1 hr2 hto hk1;go_upto_region 7 with(go_at_call 219;refine Ue.out.mono ?_;rintro r w8⟨d8,vs,uv1,rfl,o8,e8,u8,g8,l8⟩;obtain⟨As,cs,rfl⟩:=aV o8;obtain⟨O8,ze,US8,HG8⟩:=cY o8 e8 u8 g8;clear o8 e8 u8 g8;have OS7:Off (fun x=>x=b∨uv.ownBlock=some x) w7 [210,224]:=(fun k hk=>hk.elim (fun e=>⟨_,_,_,by subst e;exact qg.out.blk,by simp⟩) (fun e=>by obtain⟨cur,e2,fz,h1,h2⟩:=Ya.out.Zq k e;exact⟨cur,e2,fz,h1,by simp[List.mem_singleton.1 h2]⟩));have NB8:=ae (NB7.out.off d8 OS7 aH);have y0:=NB8.out.cell 1;have yz:=NB8.out.frozen 1;simp at y0)
 have OS7:Off (fun x=>x=b∨uv.ownBlock=some x) w7 [210,224]:=(fun k hk=>hk.elim (fun e=>⟨_,_,_,by subst e;exact qg.out.blk,by simp⟩) (fun e=>by obtain⟨cur,e2,fz,h1,h2⟩:=Ya.out.Zq k e;exact⟨cur,e2,fz,h1,by simp[List.mem_singleton.1 h2]⟩));have tf:=ae (Ej.out.trans d8);have R18:=ae (bj R17.out d8 OS7 aH);clear R17;have R28:=ae (O8.out.mono (aw hbs aes));have HG:=ae fun g hg=>(HG8.out g hg).imp id (aw aes)
 clear O8 HG8 OS7 NB7 qg Ya Ej d8 Ue;obtain⟨w9,hw9⟩:=bq (w8.setCell ⟨N,1,none⟩ (.slice As src.length cs));have KN9:Keeps (fun x=>x=N) w8 w9:=by rw[hw9];exact(Keeps.refl (fun x=>x=N) w8).setCell (p:=⟨N,1,none⟩) (Or.inl rfl) _
 have ON9:Off (fun x=>x=N) w8 [288]:=fun k hk=>⟨_,_,_,by subst hk;exact NB8.out,by simp⟩
 have NB9:ag (aG w9 N 288 #[.slice Ap ps.length cp,.slice As src.length cs,au,au]):=ae (by rw[hw9];exact NB8.out.aL 1 (.slice As src.length cs));have X6:=ae (tf.out.then_ KN9 fun x hx=>Or.inr (hx▸Ub));rw[←hw9];clear hw9 NB8 tf;have RS9:=ae (ze.out.off KN9 ON9 aH aH);have US9:=ae (US8.out.off KN9 ON9 aH);have R19:=ae (bj R18.out KN9 ON9 aH);have R29:=ae (bj R28.out KN9 ON9 aH);clear ze US8 R18 R28;clear KN9 ON9 y0 yz;have iF:=RS9.out.must agl OT;unfold qL at iF;have lV:ag (Calls ah 215 #[.pointer (some ⟨b,0,none⟩),.string ⟨#[116,111]⟩] w9 _):=ae iF;clear iF;go_wp2_with fail
 go_at_call 215;refine lV.out.mono ?_;rintro r w10⟨⟨d10,e10⟩,h10⟩;have OB9:Off (fun x=>x=b) w9 [210]:=fun k hk=>⟨_,_,_,by subst hk;exact RS9.out.blk,by simp⟩
 obtain⟨nL,nK⟩:=aN (X6.out.trans (d10.mono (T:=fun x=>x=b∨uv.ownBlock=some x) fun k _ hk=>Or.inl hk)) e10;have ack:=ae (US9.out.off d10 OB9 aH);have aet:=ae (NB9.out.off d10 OB9 aH);have aeu:=ae (bj R19.out d10 OB9 aH);have aev:=ae (bj R29.out d10 OB9 aH);clear US9 NB9 R19 R29;clear RS9 X6 d10 e10 OB9 lV;cases hs3:ws[k1]? with
 |none=>
  have hge:ws.length≤k1:=by rw[ah0]at hs3;exact hs3
  rw[hs3]at h10;simp only at h10;subst h10;unfold aT;exact⟨rfl,eT.bad (nL.out) (YV.out.trans (Cm hge))⟩
 |some tw=>
 have htw:=HTo.out tw hs3;rw[hs3]at h10;simp only at h10;rw[if_pos htw]at h10;subst h10;have agm:k1+1≤ws.length:=(List.getElem?_eq_some_iff.1 hs3).1;have Zs:=YV.out;rw[Cj aQ]at Zs;clear YV HTo htw hs3;have aew:=cw HE.out nL.out (fun k hk=>hk.elim (fun e=>by subst e;exact hbb) fun e=>(HUB.out k e).1);have hse:=FG vG.out aew nK.out ack.out agm (by rw[ai];unfold kP;rw[ay];omega) hbb nE;have abp:w.heap.size≤w10.heap.size:=nL.out.size;have HTH:ag (∀wx,Keeps (fun x=>x=b∨uv1.ownBlock=some x) w10 wx→Keeps (fun x=>x=b∨uv.ownBlock=some x) w wx):=ae fun wx hd=>nL.out.then_ hd fun x hx=>hx.elim (fun e=>Or.inl (Or.inl e)) fun e=>(HG.out x e).elim (fun e=>Or.inl (Or.inr e)) Or.inr
 clear aew;cases hq2:dY nE (ws.drop (k1+1)) (k1+1) 0 with
 |error e=>
  have Ue:ag (Calls ah 219 #[.pointer (some ⟨b,0,none⟩),.string ⟨#[112,111,114,116,115]⟩] w10 fun r w'=>Keeps (fun x=>x=b∨uv1.ownBlock=some x) w10 w'∧r=aT e.1 n e.2):=ae (hse.mono fun r w'⟨h1,h2⟩=>⟨h1,by rw[hq2]at h2;exact h2⟩);rw[hq2]at Zs;have HR:=ae Zs;clear Zs hse hq2;go_wp2_with(go_at_call 219;refine Ue.out.mono ?_;rintro r uP⟨d11,rfl⟩;unfold aT)
  exact⟨rfl,eT.bad ((HTH.out _ d11)) HR.out⟩
 |ok x=>
 obtain⟨dst,r4⟩:=x;obtain⟨hr4,hpo⟩:=MW hq2;rw[hq2]at Zs;simp only at Zs;obtain⟨k2,hk2⟩:=bq (ws.length-r4.length);rw[←hk2]at hr4 hpo;rw[hr4]at Zs;have ahm:k2≤ws.length:=by omega
 have Ue:ag (Calls ah 219 #[.pointer (some ⟨b,0,none⟩),.string ⟨#[112,111,114,116,115]⟩] w10 fun r w'=>Keeps (fun x=>x=b∨uv1.ownBlock=some x) w10 w'∧∃v uv',r=.returned v∧w'.ownsRow w10.heap.size 220 6 v dst.length (gW (dst.map (·.1)))∧Rs w' b P k2 n lv uv' ws∧fh w' w0.heap.size uv' ((us++kP n src)++kP n dst)∧(∀g,uv'.ownBlock=some g→uv1.ownBlock=some g∨w10.heap.size≤g)∧dst.length≤64):=ae (hse.mono fun r w'⟨h1,h2⟩=>⟨h1,by rw[hq2]at h2;obtain⟨v,uv',g1,g2,g3,g4,g5,g6⟩:=h2;exact⟨v,uv',g1,g2,by rw[hk2];exact g3,g4,g5,g6⟩⟩);obtain⟨Zt,PZ⟩:=aN Zs hpo;have aex:Off (fun x=>x=b∨uv1.ownBlock=some x) w10 [210,224]:=(fun k hk=>hk.elim (fun e=>⟨_,_,_,by subst e;exact nK.out.blk,by simp⟩) (fun e=>by obtain⟨cur,e2,fz,h1,h2⟩:=ack.out.Zq k e;exact⟨cur,e2,fz,h1,by simp[List.mem_singleton.1 h2]⟩));have MY:=ae aex;clear Zs hse hq2 hr4 hpo hk2 aex;go_upto_region 9 with(go_at_call 219;refine Ue.out.mono ?_;rintro r uP⟨d11,vd,uv2,rfl,o11,e11,u11,g11,l11⟩;obtain⟨Ad,cd,rfl⟩:=aV o11;obtain⟨O11,qA,aey,aez⟩:=cY o11 e11 u11 g11;clear o11 e11 u11 g11;have Uf:=ae (aet.out.off d11 MY.out aH);have y0:=Uf.out.cell 2;have yz:=Uf.out.frozen 2;simp at y0)
 have rU:=ae (HTH.out _ d11);have aeA:=ae (bj aeu.out d11 MY.out aH);have aeB:=ae (bj aev.out d11 MY.out aH);clear aeu aev;have aeC:=ae (O11.out.mono (aw hbs abp));have HG2:=ae fun g hg=>(aez.out g hg).elim (HG.out g) (fun h=>Or.inr (aw abp h))
 clear O11 aez MY aet nK ack nL d11 Ue HTH HG;obtain⟨w12,Zu⟩:=bq (uP.setCell ⟨N,2,none⟩ (.slice Ad dst.length cd));have JL:Keeps (fun x=>x=N) uP w12:=by rw[Zu];exact(Keeps.refl (fun x=>x=N) uP).setCell (p:=⟨N,2,none⟩) (Or.inl rfl) _
 have P0:Off (fun x=>x=N) uP [288]:=fun k hk=>⟨_,_,_,by subst hk;exact Uf.out,by simp⟩
 have P1:ag (aG w12 N 288 #[.slice Ap ps.length cp,.slice As src.length cs,.slice Ad dst.length cd,au]):=ae (by rw[Zu];exact Uf.out.aL 2 (.slice Ad dst.length cd));have zA:=ae (rU.out.then_ JL fun x hx=>Or.inr (hx▸Ub));rw[←Zu];clear Zu Uf rU;have CG:=ae (qA.out.off JL P0 aH aH);have Zv:=ae (aey.out.off JL P0 aH);have Zw:=ae (bj aeA.out JL P0 aH);have Zx:=ae (bj aeB.out JL P0 aH);have Zy:=ae (bj aeC.out JL P0 aH);clear qA aey aeA aeB aeC;clear JL P0 y0 yz;have hmore:=CG.out.more;obtain⟨j0,hj,hj0,hj1,hj2⟩:=info_parts Zd;by_cases Zz:k2<ws.length
 case neg=>
  rw[decide_eq_false Zz]at hmore;have mP:=ae hmore;have hR:=Zt.out;rw[og aQ,rV]at hR;have HRF:=ae hR;clear hR hmore Zt;go_upto_region 18 with(go_at_call 216;refine mP.out.mono ?_;rintro r Ek⟨rfl,d13⟩)
  obtain⟨xO,Ug,Uh,Ui,Uj,CH,FN⟩:=mM (CG.out.below d13) (Zv.out.below d13) (own_below Zw.out d13) (own_below Zx.out d13) (own_below Zy.out d13) (P1.out.below d13 P1.out.lt) (zA.out.trans (Keeps.of_below d13 fun k hk _=>hk));clear CG Zv Zw Zx Zy P1 zA;have aeD:=ae (bg Ek w0.heap.size 293 2);clear d13 mP PZ;have agn:w.heap.size≤Ek.heap.size:=FN.out.size;have PE:=ae (HP.out.off FN.out Zr.out aH);obtain⟨xs,hxs,hac,hmem⟩:=HN.out.off FN.out Zr.out aH aH aH aH;have X8:ag (some N≠(dq A T cap).ownBlock):=ae fun e=>by
   obtain⟨xs,_,ho,_⟩:=HN.out;have:=(ho.lt N e.symm).2;omega
  rw[←HT.out]at hac;have JF:=ae hxs;have x0:=(PE.out.cell 3).trans hq;have x2:=xO.out.blk.cell 2;have n0:=CH.out.cell 0;have n1:=CH.out.cell 1;have n2:=CH.out.cell 2;have n3:=CH.out.cell 3;simp at x2 n0 n1 n2 n3;obtain⟨jH,ew⟩:=bq ((Ek.alloc (.cells #[.slice Ap ps.length cp,.slice As src.length cs,.slice Ad dst.length cd,au] 288)).drew);have mD:ag (jH.ownsRow w0.heap.size 288 4 (.slice A T cap) T (nI xs)):=ae (by rw[ew];exact hac.alloc _);have iY:ag (∀j u,[.slice Ap ps.length cp,.slice As src.length cs,.slice Ad dst.length cd,au][j]? =some u→jH.cell? ((⟨Ek.heap.size,0,none⟩:Addr).add j)=some u):=ae (by rw[ew];exact cQ Ek [.slice Ap ps.length cp,.slice As src.length cs,.slice Ad dst.length cd,au] 288);have ot:ag (aG jH P 169 pc):=ae (by rw[ew];exact PE.out.alloc _);have xI:ag (aG jH N 288 #[.slice Ap ps.length cp,.slice As src.length cs,.slice Ad dst.length cd,au]):=ae (by rw[ew];exact CH.out.alloc _);have j6:ag (Rs jH b P k2 n lv uv2 ws):=ae (by rw[ew];exact⟨(xO.out.alloc _).blk,(xO.out.alloc _).row,xO.out.ne,xO.out.len,xO.out.sizes⟩);have Ik:ag (Keeps (fun x=>x=b∨uv.ownBlock=some x) w jH):=ae (by rw[ew];exact(FN.out.alloc _).drew);have bE:aW Ek jH:=by rw[ew];have q:=boxed Ek (.cells #[.slice Ap ps.length cp,.slice As src.length cs,.slice Ad dst.length cd,au] 288);exact⟨q.os,q.tape,q.output,q.size,q.block⟩
  have acm:ag (∀x∈xs,qN jH w0.heap.size x):=ae fun x hx=>⟨own_below (hmem x hx).p bE,own_below (hmem x hx).s bE,own_below (hmem x hx).d bE,own_below (hmem x hx).o bE⟩
  have acn:=ae (Ug.out.below bE);have HMN:ag (qN jH w0.heap.size ⟨⟨ps,src.map (·.1),dst.map (·.1),[]⟩,.slice Ap ps.length cp,.slice As src.length cs,.slice Ad dst.length cd,au⟩):=ae ⟨own_below Uh.out bE,by rw[ay];exact own_below Ui.out bE,by rw[ay];exact own_below Uj.out bE,own_below aeD.out bE⟩;have PV:jH.heap.size=Ek.heap.size+1:=by rw[ew];simp
  have y0:=(ot.out.cell 3).trans hq;have y2:=j6.out.blk.cell 2;have v0:=xI.out.cell 0;have v1:=xI.out.cell 1;have v2:=xI.out.cell 2;have v3:=xI.out.cell 3;simp at y2 v0 v1 v2 v3;clear hxs hac hmem bE Ug xO PE CH Uh Ui Uj aeD FN;rw[ew]at mD iY ot xI y0 y2 v0 v1 v2 v3;refine dW 16 (fun w'=>w'.cell? ⟨b,2,none⟩=some (.pointer (some ⟨P,0,none⟩))∧w'.cell? ⟨P,3,none⟩=some (.slice A T cap)∧w'.cell? ⟨N,0,none⟩=some (.slice Ap ps.length cp)∧w'.cell? ⟨N,1,none⟩=some (.slice As src.length cs)∧w'.cell? ⟨N,2,none⟩=some (.slice Ad dst.length cd)∧w'.cell? ⟨N,3,none⟩=some au) bo (⟨x2,x0,n0,n1,n2,n3⟩) (fun hHeld=>?_);refine dR 0 ?_
  refine dR 1 ?_
  refine dR 2 ?_
  refine dR 3 ?_
  refine dR 4 ?_
  refine dR 5 ?_
  refine dR 6 ?_
  refine dR 7 ?_
  refine dR 8 ?_
  refine dR 9 ?_
  refine dR 10 ?_
  refine dR 11 ?_
  refine nA 12 fun K hK=>?_;go_simp
  skip
  refine hK.out _ _ (fun _=>⟨y2,y0,v0,v1,v2,v3⟩) (fun hHeld=>?_);have hHeld:=hHeld aH;clear hK K;try simp only[cN]
  refine nA 13 fun K hK=>?_;refine step_append_lies _ (by rfl) _ _ _ (by rfl) w0.heap.size 288 j0 (.agg #[au,au,au,au]) 4 96 Tryz.underlying167 hj hj0 hj1 hj2 rfl aH _ T _ (by rfl) mD.out ⟨Ek.heap.size,0,none⟩ 1 1 [.slice Ap ps.length cp,.slice As src.length cs,.slice Ad dst.length cd,au] (by rfl) rfl iY.out (by intro u hu;simp at hu;rcases hu with rfl|rfl|rfl|rfl<;>rfl) aH (by unfold maxLen;omega) aQ (by simp;omega) (Ek.heap.size+1) (by simp) ?_;intro g' cap' qP hown' hgrow hat nJ;have BP:=ae (ot.out.off (Keeps.row hgrow) (cE mD.out) aH);have fV:=xI.out.grown hgrow X8.out;have p0:=(BP.out.cell 3).trans hq;have pz:=BP.out.frozen 3;have m0:=fV.cell 0;have m1:=fV.cell 1;have m2:=fV.cell 2;have m3:=fV.cell 3;rw[←ew]at hgrow mD;have R15:=ae (j6.out.off (Keeps.row hgrow) (cE mD.out) aH aH);have U15:=ae (acn.out.off (Keeps.row hgrow) (cE mD.out) aH);have aco:=ae (HMN.out.keep (Keeps.row hgrow) (cE mD.out) aH aH aH);have Ci:=ae fun x hx=>(acm.out x hx).keep (Keeps.row hgrow) (cE mD.out) aH aH (by decide)
  have p2:=R15.out.blk.cell 2;simp at m0 m1 m2 m3 p2;obtain⟨mC,fY,PS⟩:=bu hown' hgrow hat;clear hown' hgrow hat nJ fV;refine hK.out _ _ (fun _=>⟨p2,p0,m0,m1,m2,m3⟩) (fun hHeld=>?_);have hHeld:=hHeld aH;clear hK K;try simp only[cN]
  refine nA 14 fun K hK=>?_;go_simp;refine hK.out _ _ (fun _=>hHeld) (fun hHeld=>?_);have hHeld:=hHeld aH;clear hK K;try simp only[cN]
  refine dR 15 ?_
  refine nA 16 fun K hK=>?_;go_simp;refine hK.out _ _ (fun h=>absurd rfl h) (fun _=>?_);clear hK K hHeld;try simp only[cN]
  refine OC ?_;go_wp2_with fail
  have KQ:=(Keeps.refl (fun x=>x=P) qP).setCell (p:=⟨P,3,none⟩) (Or.inl rfl) (.slice (some ⟨g',0,none⟩) (T+1) cap');have OQ:Off (fun x=>x=P) qP [169]:=fun k hk=>⟨_,_,_,by subst hk;exact BP.out,by simp⟩
  have K2:=(Keeps.grown (FIN.out _ Ik.out) fY.out fun k hk=>Or.inl (Or.inr (Or.inr (Or.inl hk)))).setCell (p:=⟨P,3,none⟩) (Or.inl (Or.inr (Or.inl rfl))) (.slice (some ⟨g',0,none⟩) (T+1) cap');have B2:aG (qP.setCell ⟨P,3,none⟩ (.slice (some ⟨g',0,none⟩) (T+1) cap')) P 169 (pc.setIfInBounds 3 (.slice (some ⟨g',0,none⟩) (T+1) cap')):=BP.out.aL 3 _;refine⟨rfl,_,results_none rfl _ _ _,eT.good HRF.out K2 ⟨rfl,_,_,_,R15.out.off KQ OQ aH aH,B2,⟨xs++[⟨⟨ps,src.map (·.1),dst.map (·.1),[]⟩,.slice Ap ps.length cp,.slice As src.length cs,.slice Ad dst.length cd,au⟩],?_,?_,?_⟩,?_,?_,HG2.out,by rw[ai];omega⟩⟩
  ·rw[cH,JF.out];rfl
  ·rw[ai,←HT.out,rS];exact bj mC.out KQ OQ (by decide)
  ·intro x hx;rcases List.mem_append.1 hx with hx|hx
   ·exact(Ci.out x hx).keep KQ OQ aH aH (by decide)
   ·rw[List.mem_singleton.1 hx];exact aco.out.keep KQ OQ aH aH (by decide)
  ·rw[uQ,←aO];exact U15.out.off KQ OQ (by decide)
  ·intro g hg;have hgg:some g'=some g:=hg;injection hgg with hgg
   rcases PS.out with h|h
   ·exact Or.inl (hgg▸h)
   ·exact Or.inr (by omega)
 rw[decide_eq_true Zz]at hmore;have mP:=ae hmore;have hR:=Zt.out;rw[CB Zz]at hR;obtain⟨PO,hPO⟩:=bq (lk ws (k2+1) [] true);rw[←hPO]at hR;obtain⟨P2,HPO⟩:=aN hR hPO;obtain⟨pw,hpw⟩:∃s,ws[k2]? =some s:=⟨_,List.getElem?_eq_getElem Zz⟩;have hpe:=PZ.out pw hpw;clear hR hmore Zt hPO;go_upto_region 10 with(go_at_call 216;refine mP.out.mono ?_;rintro r Ek⟨rfl,d13⟩)
 obtain⟨xO,Ug,Uh,Ui,Uj,CH,FN⟩:=mM (CG.out.below d13) (Zv.out.below d13) (own_below Zw.out d13) (own_below Zx.out d13) (own_below Zy.out d13) (P1.out.below d13 P1.out.lt) (zA.out.trans (Keeps.of_below d13 fun k hk _=>hk));clear CG Zv Zw Zx Zy P1 zA;clear d13 mP PZ;have iF:=xO.out.must aQ nE;unfold qL at iF;rw[hpw]at iF;simp only[if_pos hpe]at iF;have lV:ag (Calls ah 215 #[.pointer (some ⟨b,0,none⟩),.string ⟨#[112,111,114,116,115]⟩] Ek fun r w'=>(Keeps (fun x=>x=b) Ek w'∧Rs w' b P (k2+1) n lv uv2 ws)∧r=.returned (.tuple #[])):=ae iF;clear iF hpe hpw;go_upto_region 11 with(go_at_call 215;refine lV.out.mono ?_;rintro r jH⟨⟨ji,e14⟩,rfl⟩)
 have P3:Off (fun x=>x=b) Ek [210]:=fun k hk=>⟨_,_,_,by subst hk;exact xO.out.blk,by simp⟩
 obtain⟨acp,ZA⟩:=aN (FN.out.trans (ji.mono (T:=fun x=>x=b∨uv.ownBlock=some x) fun k _ hk=>Or.inl hk)) e14;have aeE:=ae (Ug.out.off ji P3 aH);have Uk:=ae (CH.out.off ji P3 aH);have aeF:=ae (bj Uh.out ji P3 aH);have aeG:=ae (bj Ui.out ji P3 aH);have aeH:=ae (bj Uj.out ji P3 aH);clear Ug CH Uh Ui Uj;clear xO FN ji e14 P3 lV;obtain⟨i0,hi,hz0,hz1,hz2⟩:=info_parts Zc;have hNb:N≠b:=Uk.out.vP ZA.out.blk aH;have ahn:=Uk.out.lt;have CJ:ag (∀wx,Keeps (fun x=>x=b∨x=N) jH wx→Keeps (fun x=>x=b∨uv.ownBlock=some x) w wx):=ae fun wx hd=>acp.out.then_ hd fun x hx=>hx.elim (fun e=>Or.inl (Or.inl e)) fun e=>Or.inr (by omega)
 have acr:ag (∀wx,Keeps (fun x=>x=b∨x=N) jH wx→Env wx):=ae fun wx hd=>vG.out.below (cw HE.out (CJ.out wx hd) (fun k hk=>hk.elim (fun e=>by subst e;exact hbb) fun e=>(HUB.out k e).1))
 go_wp2_with fail
 go_loopw [4] (fun v4 wr=>∃(k:Nat)(acc:List (Nat×Nat))(first:Bool)(v:Value),v4=.bool first∧1≤k∧k≤ws.length∧ag (acc.length≤64)∧ag (Rs wr b P k n lv uv2 ws)∧ag (Keeps (fun x=>x=b∨x=N) jH wr)∧ag (aG wr N 288 #[.slice Ap ps.length cp,.slice As src.length cs,.slice Ad dst.length cd,v])∧ag (wr.ownsRow jH.heap.size 293 2 v acc.length (jb acc))∧ag (PO=lk ws k acc first)) (fun _ wr=>ws.length+1-xG wr b)
 case atStart=>exact⟨k2+1,[],true,_,rfl,by omega,by omega,ae (by simp),ZA,ae (Keeps.refl _ _),Uk,ae (bg _ _ _ _),HPO⟩
 case round=>
  obtain⟨k,acc,first,v,rfl,hk3,hk,hacc,hrs,hkp,hbn,hown,hres⟩:=hrel;have zS:=ae hrs.out.next;obtain⟨A1,c1,rfl⟩:=aV hown.out;obtain⟨L,hL⟩:=bq acc.length;rw[←hL]at hown hbn;have hacc:=hacc.out;rw[←hL]at hacc;have HL:=ae hL;clear hL;cases first with
  |true=>
   have RS:=hrs;have KP:=hkp;have BN:=hbn;have OW:=hown;clear hrs hkp hbn hown;have htake:=RS.out.take hk;unfold jm at htake;have kK:=ae htake;clear htake;have OB8:Off (fun x=>x=b) wr [210]:=fun k hk=>⟨_,_,_,by subst hk;exact RS.out.blk,by simp⟩
   have HOB:=ae OB8;clear OB8;go_wp2_with fail
   go_at_call 163;refine kK.out.mono ?_;rintro r w8⟨⟨d8,e8⟩,h8⟩;have tf:=ae (KP.out.trans (d8.mono (T:=fun x=>x=b∨x=N) fun k _ hk=>Or.inl hk));have zy:=ae (BN.out.off d8 HOB.out aH);have Jx:=ae (bj OW.out d8 HOB.out aH);have ze:=ae e8;clear RS KP BN OW d8 e8 HOB kK;cases hsk:ws[k]? with
   |none=>
    have hge:ws.length≤k:=by rw[ah0]at hsk;exact hsk
    rw[hsk]at h8;simp only at h8;subst h8;unfold aT;exact⟨rfl,eT.bad ((CJ.out _ tf.out)) (by rw[P2.out,hres.out,FK hge];rfl)⟩
   |some s=>
   have hlt:k<ws.length:=(List.getElem?_eq_some_iff.1 hsk).1;rw[hsk]at h8;simp only at h8;subst h8;have hss:s.size≤2000000:=ze.out.sizes s (kE hsk);have hpt:=Ak (acr.out _ tf.out) s hss;have hst:=hres.out;rw[uR hsk]at hst;obtain⟨o,ho⟩:=bq (mr s);rw[←ho]at hpt hst;clear ho hsk hres;cases o with
   |none=>
    have Im:ag (Calls ah 220 #[.string s] w8 fun r w'=>(∃a b:Nat,r=.returned (.tuple #[.agg #[.int .u16 a,.int .u16 b],.bool false]))∧aW w8 w'):=ae (hpt.mono fun r w'⟨⟨a,b,_,_,h,_⟩,h2⟩=>⟨⟨a,b,h⟩,h2⟩);have Io:=ae hst;clear hpt hst;go_upto_region 15 with(go_at_call 220;refine Im.out.mono ?_;rintro r w9⟨⟨p1,p2,rfl⟩,d9⟩)
    have d10:=after d9 (boxed w9 (.cells #[.int .u16 p1,.int .u16 p2] 293));generalize w9.alloc (.cells #[.int .u16 p1,.int .u16 p2] 293)=w10 at d10⊢;obtain⟨nK,nL⟩:=aN (ze.out.below d10) (tf.out.trans (Keeps.of_below d10 fun k hk _=>hk));clear ze tf;clear d10 d9 Im;have hun:=nK.out.unless aQ aQ false 193;rw[eu hlt]at hun;have kj:ag (Calls ah 164 #[.pointer (some ⟨b,0,none⟩),.bool false,.int .i64 193] w10 fun r w'=>r=aT 193 n k∧aW w10 w'):=ae hun;clear hun;go_wp2_with(go_at_call 164;refine kj.out.mono ?_;rintro r uP⟨rfl,d11⟩;unfold aT)
    exact⟨rfl,eT.bad ((CJ.out _ (nL.out.trans (Keeps.of_below d11 fun k hk _=>hk)))) (by rw[P2.out,Io.out];rfl)⟩
   |some pp=>
   obtain⟨p1,p2⟩:=pp;have Im:ag (Calls ah 220 #[.string s] w8 (Got (.tuple #[.agg #[.int .u16 p1,.int .u16 p2],.bool true]) w8)):=ae (hpt.mono fun r w'⟨⟨a,b,_,_,h,h3⟩,h2⟩=>⟨by have:=h3 _ rfl;injection this with e1 e2;subst e1 e2;exact h,h2⟩);have Io:=ae hst;clear hpt hst;go_upto_region 15 with(go_at_call 220;refine Im.out.mono ?_;rintro r w9⟨rfl,d9⟩)
   have d10:=after d9 (boxed w9 (.cells #[.int .u16 p1,.int .u16 p2] 293));have xP:=ae (aG.new w9 293 #[.int .u16 p1,.int .u16 p2]);have hM9:=d9.size;generalize w9.alloc (.cells #[.int .u16 p1,.int .u16 p2] 293)=w10 at d10 xP⊢;generalize w9.heap.size=M at hM9 xP⊢;obtain⟨nK,nL,fV,Ul⟩:=cY (ze.out.below d10) (tf.out.trans (Keeps.of_below d10 fun k hk _=>hk)) (zy.out.below d10 zy.out.lt) (own_below Jx.out d10);clear ze tf zy Jx;clear d10 d9 Im;have hun:=nK.out.unless aQ aQ true 193;have kj:ag (Calls ah 164 #[.pointer (some ⟨b,0,none⟩),.bool true,.int .i64 193] w10 fun r w'=>r=.returned (.tuple #[])∧aW w10 w'):=ae hun;clear hun;go_upto_region 16 with(go_at_call 164;refine kj.out.mono ?_;rintro r uP⟨rfl,d11⟩)
   obtain⟨qA,rU,tJ,Cd,JM⟩:=ej (nK.out.below d11) (nL.out.trans (Keeps.of_below d11 fun k hk _=>hk)) (fV.out.below d11 fV.out.lt) (own_below Ul.out d11) (xP.out.below d11 xP.out.lt);clear nK nL fV Ul xP;clear d11 kj;obtain⟨-,-,-,x3⟩:=dV tJ;have hro:=qA.out.room aQ aQ L;rw[eu hlt]at hro;have rp:=ae hro;clear hro;by_cases h64:64≤L
   ·have hR:=Io.out;try simp only at hR
    rw[←HL.out,if_pos h64]at hR;rw[decide_eq_false aQ]at rp;have nM:ag (Calls ah 213 #[.pointer (some ⟨b,0,none⟩),.int .i64 L] uP fun r w'=>r=aT 198 n k∧aW uP w'):=rp;have PW:=ae hR;clear rp hR Io h64;go_wp2_with(go_at_call 213;refine nM.out.mono ?_;rintro r w12⟨rfl,d12⟩;unfold aT)
    exact⟨rfl,eT.bad ((CJ.out _ (rU.out.trans (Keeps.of_below d12 fun k hk _=>hk)))) (by rw[P2.out,PW.out];rfl)⟩
   have hR:=Io.out;try simp only at hR
   rw[←HL.out,if_neg h64]at hR;rw[decide_eq_true aQ]at rp;have nM:ag (Calls ah 213 #[.pointer (some ⟨b,0,none⟩),.int .i64 L] uP fun r w'=>r=.returned (.tuple #[])∧aW uP w'):=rp;have xH:=ae hR;clear rp hR Io;go_upto_region 17 with(go_at_call 213;refine nM.out.mono ?_;rintro r w12⟨rfl,d12⟩)
   obtain⟨CG,zA,Um,CL,Un⟩:=ej (qA.out.below d12) (rU.out.trans (Keeps.of_below d12 fun k hk _=>hk)) (tJ.out.below d12 tJ.out.lt) (own_below Cd.out d12) (JM.out.below d12 JM.out.lt);clear qA rU tJ Cd JM;clear d12 nM x3;have x3:=Um.out.cell 3;have m0:=Un.out.cell 0;have m1:=Un.out.cell 1;simp at x3 m0 m1;have abo:=zA.out.size;go_wp2_with(at_builtin;refine wpList_append_lies _ rfl _ _ 286 rfl jH.heap.size 293 i0 (.agg #[.int .u16 0,.int .u16 0]) 2 4 Tryz.underlying286 hi hz0 hz1 hz2 rfl aH _ L _ rfl (CL.out.alloc _) ⟨w12.heap.size,0,none⟩ 1 1 [.int .u16 p1,.int .u16 p2] rfl rfl (cQ w12 [.int .u16 p1,.int .u16 p2] 293) (by intro u hu;simp at hu;rcases hu with rfl|rfl<;>rfl) aH (by unfold maxLen;omega) aQ (by simp;omega) (w12.heap.size+1) (by simp) ?_;intro g' cap' qP hown' hgrow hat nJ;have CM:=ae ((Um.out.alloc (.cells #[.int .u16 p1,.int .u16 p2] 293)).off (Keeps.row hgrow) (cE (CL.out.alloc (.cells #[.int .u16 p1,.int .u16 p2] 293))) aH);obtain⟨-,-,-,x15⟩:=dV CM;have z15:=CM.out.frozen 3;obtain⟨mC,fY⟩:=aN hown' hgrow;clear hown' hgrow hat nJ)
   have KS:Keeps (fun k=>(dq A1 L c1).ownBlock=some k) (w12.alloc (.cells #[.int .u16 p1,.int .u16 p2] 293)) qP:=Keeps.row fY.out;have OS:=cE (CL.out.alloc (.cells #[.int .u16 p1,.int .u16 p2] 293));have acs:=(CG.out.alloc (.cells #[.int .u16 p1,.int .u16 p2] 293)).off KS OS aH aH;have acu:=Keeps.grown (zA.out.alloc (.cells #[.int .u16 p1,.int .u16 p2] 293)) fY.out fun g hg=>Or.inr (CL.out.lt g hg).1
   have xN:=acu.setCell (p:=⟨N,3,none⟩) (Or.inl (Or.inr rfl)) (.slice (some ⟨g',0,none⟩) (L+1) cap');have KN:=(Keeps.refl (fun x=>x=N) qP).setCell (p:=⟨N,3,none⟩) (Or.inl rfl) (.slice (some ⟨g',0,none⟩) (L+1) cap');have ON:Off (fun x=>x=N) qP [288]:=fun k hk=>⟨_,_,_,by subst hk;exact CM.out,by simp⟩
   have rq:=acs.off KN ON aH aH;have xM:=bj mC.out KN ON aH;have acv:aG (qP.setCell ⟨N,3,none⟩ (.slice (some ⟨g',0,none⟩) (L+1) cap')) N 288 #[.slice Ap ps.length cp,.slice As src.length cs,.slice Ad dst.length cd,.slice (some ⟨g',0,none⟩) (L+1) cap']:=CM.out.aL 3 _;refine⟨⟨k+1,acc++[(p1,p2)],false,_,rfl,by omega,by omega,ae (by rw[ai,←HL.out];simp;omega),ae rq,ae xN,ae acv,ae (by rw[ai,←HL.out,pC];exact xM),xH⟩,?_⟩;rw[rq.next,zS.out];omega
  |false=>
   have hmore:=ae hrs.out.more;by_cases hlt0:k<ws.length
   ·rw[decide_eq_true hlt0]at hmore;go_upto_region 14 with(go_at_call 216;refine hmore.out.mono ?_;rintro r w7⟨rfl,d7⟩)
    obtain⟨RS,KP,BN,OW⟩:=cY (hrs.out.below d7) (hkp.out.trans (Keeps.of_below d7 fun k hk _=>hk)) (hbn.out.below d7 hbn.out.lt) (own_below hown.out d7);clear hrs hkp hbn hown hmore d7;have htake:=RS.out.take hk;unfold jm at htake;have kK:=ae htake;clear htake;have OB8:Off (fun x=>x=b) w7 [210]:=fun k hk=>⟨_,_,_,by subst hk;exact RS.out.blk,by simp⟩
    have HOB:=ae OB8;clear OB8;go_wp2_with fail
    go_at_call 163;refine kK.out.mono ?_;rintro r w8⟨⟨d8,e8⟩,h8⟩;have tf:=ae (KP.out.trans (d8.mono (T:=fun x=>x=b∨x=N) fun k _ hk=>Or.inl hk));have zy:=ae (BN.out.off d8 HOB.out aH);have Jx:=ae (bj OW.out d8 HOB.out aH);have ze:=ae e8;clear RS KP BN OW d8 e8 HOB kK;cases hsk:ws[k]? with
    |none=>
     have hge:ws.length≤k:=by rw[ah0]at hsk;exact hsk
     rw[hsk]at h8;simp only at h8;subst h8;unfold aT;exact⟨rfl,eT.bad ((CJ.out _ tf.out)) (absurd hge aQ)⟩
    |some s=>
    have hlt:k<ws.length:=(List.getElem?_eq_some_iff.1 hsk).1;rw[hsk]at h8;simp only at h8;subst h8;have hss:s.size≤2000000:=ze.out.sizes s (kE hsk);have hpt:=Ak (acr.out _ tf.out) s hss;have hst:=hres.out;rw[uR hsk]at hst;obtain⟨o,ho⟩:=bq (mr s);rw[←ho]at hpt hst;clear ho hsk hres;cases o with
    |none=>
     have Im:ag (Calls ah 220 #[.string s] w8 fun r w'=>(∃a b:Nat,r=.returned (.tuple #[.agg #[.int .u16 a,.int .u16 b],.bool false]))∧aW w8 w'):=ae (hpt.mono fun r w'⟨⟨a,b,_,_,h,_⟩,h2⟩=>⟨⟨a,b,h⟩,h2⟩);have Io:=ae hst;clear hpt hst;go_upto_region 15 with(go_at_call 220;refine Im.out.mono ?_;rintro r w9⟨⟨p1,p2,rfl⟩,d9⟩)
     have d10:=after d9 (boxed w9 (.cells #[.int .u16 p1,.int .u16 p2] 293));generalize w9.alloc (.cells #[.int .u16 p1,.int .u16 p2] 293)=w10 at d10⊢;obtain⟨nK,nL⟩:=aN (ze.out.below d10) (tf.out.trans (Keeps.of_below d10 fun k hk _=>hk));clear ze tf;clear d10 d9 Im;have hun:=nK.out.unless aQ aQ false 193;rw[eu hlt]at hun;have kj:ag (Calls ah 164 #[.pointer (some ⟨b,0,none⟩),.bool false,.int .i64 193] w10 fun r w'=>r=aT 193 n k∧aW w10 w'):=ae hun;clear hun;go_wp2_with(go_at_call 164;refine kj.out.mono ?_;rintro r uP⟨rfl,d11⟩;unfold aT)
     exact⟨rfl,eT.bad ((CJ.out _ (nL.out.trans (Keeps.of_below d11 fun k hk _=>hk)))) (by rw[P2.out,Io.out];rfl)⟩
    |some pp=>
    obtain⟨p1,p2⟩:=pp;have Im:ag (Calls ah 220 #[.string s] w8 (Got (.tuple #[.agg #[.int .u16 p1,.int .u16 p2],.bool true]) w8)):=ae (hpt.mono fun r w'⟨⟨a,b,_,_,h,h3⟩,h2⟩=>⟨by have:=h3 _ rfl;injection this with e1 e2;subst e1 e2;exact h,h2⟩);have Io:=ae hst;clear hpt hst;go_upto_region 15 with(go_at_call 220;refine Im.out.mono ?_;rintro r w9⟨rfl,d9⟩)
    have d10:=after d9 (boxed w9 (.cells #[.int .u16 p1,.int .u16 p2] 293));have xP:=ae (aG.new w9 293 #[.int .u16 p1,.int .u16 p2]);have hM9:=d9.size;generalize w9.alloc (.cells #[.int .u16 p1,.int .u16 p2] 293)=w10 at d10 xP⊢;generalize w9.heap.size=M at hM9 xP⊢;obtain⟨nK,nL,fV,Ul⟩:=cY (ze.out.below d10) (tf.out.trans (Keeps.of_below d10 fun k hk _=>hk)) (zy.out.below d10 zy.out.lt) (own_below Jx.out d10);clear ze tf zy Jx;clear d10 d9 Im;have hun:=nK.out.unless aQ aQ true 193;have kj:ag (Calls ah 164 #[.pointer (some ⟨b,0,none⟩),.bool true,.int .i64 193] w10 fun r w'=>r=.returned (.tuple #[])∧aW w10 w'):=ae hun;clear hun;go_upto_region 16 with(go_at_call 164;refine kj.out.mono ?_;rintro r uP⟨rfl,d11⟩)
    obtain⟨qA,rU,tJ,Cd,JM⟩:=ej (nK.out.below d11) (nL.out.trans (Keeps.of_below d11 fun k hk _=>hk)) (fV.out.below d11 fV.out.lt) (own_below Ul.out d11) (xP.out.below d11 xP.out.lt);clear nK nL fV Ul xP;clear d11 kj;obtain⟨-,-,-,x3⟩:=dV tJ;have hro:=qA.out.room aQ aQ L;rw[eu hlt]at hro;have rp:=ae hro;clear hro;by_cases h64:64≤L
    ·have hR:=Io.out;try simp only at hR
     rw[←HL.out,if_pos h64]at hR;rw[decide_eq_false aQ]at rp;have nM:ag (Calls ah 213 #[.pointer (some ⟨b,0,none⟩),.int .i64 L] uP fun r w'=>r=aT 198 n k∧aW uP w'):=rp;have PW:=ae hR;clear rp hR Io h64;go_wp2_with(go_at_call 213;refine nM.out.mono ?_;rintro r w12⟨rfl,d12⟩;unfold aT)
     exact⟨rfl,eT.bad ((CJ.out _ (rU.out.trans (Keeps.of_below d12 fun k hk _=>hk)))) (by rw[P2.out,PW.out];rfl)⟩
    have hR:=Io.out;try simp only at hR
    rw[←HL.out,if_neg h64]at hR;rw[decide_eq_true aQ]at rp;have nM:ag (Calls ah 213 #[.pointer (some ⟨b,0,none⟩),.int .i64 L] uP fun r w'=>r=.returned (.tuple #[])∧aW uP w'):=rp;have xH:=ae hR;clear rp hR Io;go_upto_region 17 with(go_at_call 213;refine nM.out.mono ?_;rintro r w12⟨rfl,d12⟩)
    obtain⟨CG,zA,Um,CL,Un⟩:=ej (qA.out.below d12) (rU.out.trans (Keeps.of_below d12 fun k hk _=>hk)) (tJ.out.below d12 tJ.out.lt) (own_below Cd.out d12) (JM.out.below d12 JM.out.lt);clear qA rU tJ Cd JM;clear d12 nM x3;have x3:=Um.out.cell 3;have m0:=Un.out.cell 0;have m1:=Un.out.cell 1;simp at x3 m0 m1;have abo:=zA.out.size;go_wp2_with(at_builtin;refine wpList_append_lies _ rfl _ _ 286 rfl jH.heap.size 293 i0 (.agg #[.int .u16 0,.int .u16 0]) 2 4 Tryz.underlying286 hi hz0 hz1 hz2 rfl aH _ L _ rfl (CL.out.alloc _) ⟨w12.heap.size,0,none⟩ 1 1 [.int .u16 p1,.int .u16 p2] rfl rfl (cQ w12 [.int .u16 p1,.int .u16 p2] 293) (by intro u hu;simp at hu;rcases hu with rfl|rfl<;>rfl) aH (by unfold maxLen;omega) aQ (by simp;omega) (w12.heap.size+1) (by simp) ?_;intro g' cap' qP hown' hgrow hat nJ;have CM:=ae ((Um.out.alloc (.cells #[.int .u16 p1,.int .u16 p2] 293)).off (Keeps.row hgrow) (cE (CL.out.alloc (.cells #[.int .u16 p1,.int .u16 p2] 293))) aH);obtain⟨-,-,-,x15⟩:=dV CM;have z15:=CM.out.frozen 3;obtain⟨mC,fY⟩:=aN hown' hgrow;clear hown' hgrow hat nJ)
    have KS:Keeps (fun k=>(dq A1 L c1).ownBlock=some k) (w12.alloc (.cells #[.int .u16 p1,.int .u16 p2] 293)) qP:=Keeps.row fY.out;have OS:=cE (CL.out.alloc (.cells #[.int .u16 p1,.int .u16 p2] 293));have acs:=(CG.out.alloc (.cells #[.int .u16 p1,.int .u16 p2] 293)).off KS OS aH aH;have acu:=Keeps.grown (zA.out.alloc (.cells #[.int .u16 p1,.int .u16 p2] 293)) fY.out fun g hg=>Or.inr (CL.out.lt g hg).1
    have xN:=acu.setCell (p:=⟨N,3,none⟩) (Or.inl (Or.inr rfl)) (.slice (some ⟨g',0,none⟩) (L+1) cap');have KN:=(Keeps.refl (fun x=>x=N) qP).setCell (p:=⟨N,3,none⟩) (Or.inl rfl) (.slice (some ⟨g',0,none⟩) (L+1) cap');have ON:Off (fun x=>x=N) qP [288]:=fun k hk=>⟨_,_,_,by subst hk;exact CM.out,by simp⟩
    have rq:=acs.off KN ON aH aH;have xM:=bj mC.out KN ON aH;have acv:aG (qP.setCell ⟨N,3,none⟩ (.slice (some ⟨g',0,none⟩) (L+1) cap')) N 288 #[.slice Ap ps.length cp,.slice As src.length cs,.slice Ad dst.length cd,.slice (some ⟨g',0,none⟩) (L+1) cap']:=CM.out.aL 3 _;refine⟨⟨k+1,acc++[(p1,p2)],false,_,rfl,by omega,by omega,ae (by rw[ai,←HL.out];simp;omega),ae rq,ae xN,ae acv,ae (by rw[ai,←HL.out,pC];exact xM),xH⟩,?_⟩;rw[rq.next,zS.out];omega
   ·rw[decide_eq_false hlt0]at hmore;have hR:=hres.out;rw[JI aQ]at hR;have HRF:ag (RES=.ok (⟨ps,src.map (·.1),dst.map (·.1),acc⟩,src++dst)):=ae (by rw[P2.out,hR];rfl);have OK:Off (fun x=>x=b∨x=N) jH [210,288]:=fun k hk=>hk.elim (fun e=>⟨_,_,_,by subst e;exact ZA.out.blk,by simp⟩) (fun e=>⟨_,_,_,by subst e;exact Uk.out,by simp⟩)
    have HOK:=ae OK;clear hR hres OK;go_upto_region 18 with(go_at_call 216;refine hmore.out.mono ?_;rintro r JO⟨rfl,ky⟩)
    have KK:=hkp.out.trans (Keeps.of_below ky fun k hk _=>hk);obtain⟨JP,Uo,P4⟩:=bu (hrs.out.below ky) (CJ.out _ KK) (hbn.out.below ky hbn.out.lt);have aeI:=ae (aeE.out.off KK HOK.out aH);have aeJ:=ae (bj aeF.out KK HOK.out aH);have aeK:=ae (bj aeG.out KK HOK.out aH);have aeL:=ae (bj aeH.out KK HOK.out aH);clear aeE aeF aeG aeH;have aeM:ag (JO.ownsRow w0.heap.size 293 2 (.slice A1 L c1) acc.length (jb acc)):=ae (by rw[←HL.out];exact(own_below hown.out ky).mono (by have:=acp.out.size;omega));clear KK HOK ky hmore hrs hkp hbn hown CJ acr Uk ZA acp;have agn:w.heap.size≤JO.heap.size:=Uo.out.size;have PE:=ae (HP.out.off Uo.out Zr.out aH);obtain⟨xs,hxs,hac,hmem⟩:=HN.out.off Uo.out Zr.out aH aH aH aH;have X8:ag (some N≠(dq A T cap).ownBlock):=ae fun e=>by
     obtain⟨xs,_,ho,_⟩:=HN.out;have:=(ho.lt N e.symm).2;omega
    rw[←HT.out]at hac;have JF:=ae hxs;have x0:=(PE.out.cell 3).trans hq;have x2:=JP.out.blk.cell 2;have n0:=P4.out.cell 0;have n1:=P4.out.cell 1;have n2:=P4.out.cell 2;have n3:=P4.out.cell 3;simp at x2 n0 n1 n2 n3;obtain⟨jH,ew⟩:=bq ((JO.alloc (.cells #[.slice Ap ps.length cp,.slice As src.length cs,.slice Ad dst.length cd,.slice A1 L c1] 288)).drew);have mD:ag (jH.ownsRow w0.heap.size 288 4 (.slice A T cap) T (nI xs)):=ae (by rw[ew];exact hac.alloc _);have iY:ag (∀j u,[.slice Ap ps.length cp,.slice As src.length cs,.slice Ad dst.length cd,.slice A1 L c1][j]? =some u→jH.cell? ((⟨JO.heap.size,0,none⟩:Addr).add j)=some u):=ae (by rw[ew];exact cQ JO [.slice Ap ps.length cp,.slice As src.length cs,.slice Ad dst.length cd,.slice A1 L c1] 288);have ot:ag (aG jH P 169 pc):=ae (by rw[ew];exact PE.out.alloc _);have xI:ag (aG jH N 288 #[.slice Ap ps.length cp,.slice As src.length cs,.slice Ad dst.length cd,.slice A1 L c1]):=ae (by rw[ew];exact P4.out.alloc _);have j6:ag (Rs jH b P k n lv uv2 ws):=ae (by rw[ew];exact⟨(JP.out.alloc _).blk,(JP.out.alloc _).row,JP.out.ne,JP.out.len,JP.out.sizes⟩);have Ik:ag (Keeps (fun x=>x=b∨uv.ownBlock=some x) w jH):=ae (by rw[ew];exact(Uo.out.alloc _).drew);have bE:aW JO jH:=by rw[ew];have q:=boxed JO (.cells #[.slice Ap ps.length cp,.slice As src.length cs,.slice Ad dst.length cd,.slice A1 L c1] 288);exact⟨q.os,q.tape,q.output,q.size,q.block⟩
    have acm:ag (∀x∈xs,qN jH w0.heap.size x):=ae fun x hx=>⟨own_below (hmem x hx).p bE,own_below (hmem x hx).s bE,own_below (hmem x hx).d bE,own_below (hmem x hx).o bE⟩
    have acn:=ae (aeI.out.below bE);have HMN:ag (qN jH w0.heap.size ⟨⟨ps,src.map (·.1),dst.map (·.1),acc⟩,.slice Ap ps.length cp,.slice As src.length cs,.slice Ad dst.length cd,.slice A1 L c1⟩):=ae ⟨own_below aeJ.out bE,by rw[ay];exact own_below aeK.out bE,by rw[ay];exact own_below aeL.out bE,own_below aeM.out bE⟩;have PV:jH.heap.size=JO.heap.size+1:=by rw[ew];simp
    have y0:=(ot.out.cell 3).trans hq;have y2:=j6.out.blk.cell 2;have v0:=xI.out.cell 0;have v1:=xI.out.cell 1;have v2:=xI.out.cell 2;have v3:=xI.out.cell 3;simp at y2 v0 v1 v2 v3;clear hxs hac hmem bE aeI JP PE P4 aeJ aeK aeL aeM Uo;rw[ew]at mD iY ot xI y0 y2 v0 v1 v2 v3;refine dW 16 (fun w'=>w'.cell? ⟨b,2,none⟩=some (.pointer (some ⟨P,0,none⟩))∧w'.cell? ⟨P,3,none⟩=some (.slice A T cap)∧w'.cell? ⟨N,0,none⟩=some (.slice Ap ps.length cp)∧w'.cell? ⟨N,1,none⟩=some (.slice As src.length cs)∧w'.cell? ⟨N,2,none⟩=some (.slice Ad dst.length cd)∧w'.cell? ⟨N,3,none⟩=some (.slice A1 L c1)) bo (⟨x2,x0,n0,n1,n2,n3⟩) (fun hHeld=>?_);refine dR 0 ?_
    refine dR 1 ?_
    refine dR 2 ?_
    refine dR 3 ?_
    refine dR 4 ?_
    refine dR 5 ?_
    refine dR 6 ?_
    refine dR 7 ?_
    refine dR 8 ?_
    refine dR 9 ?_
    refine dR 10 ?_
    refine dR 11 ?_
    refine nA 12 fun K hK=>?_;go_simp
    skip
    refine hK.out _ _ (fun _=>⟨y2,y0,v0,v1,v2,v3⟩) (fun hHeld=>?_);have hHeld:=hHeld aH;clear hK K;try simp only[cN]
    refine nA 13 fun K hK=>?_;refine step_append_lies _ (by rfl) _ _ _ (by rfl) w0.heap.size 288 j0 (.agg #[au,au,au,au]) 4 96 Tryz.underlying167 hj hj0 hj1 hj2 rfl aH _ T _ (by rfl) mD.out ⟨JO.heap.size,0,none⟩ 1 1 [.slice Ap ps.length cp,.slice As src.length cs,.slice Ad dst.length cd,.slice A1 L c1] (by rfl) rfl iY.out (by intro u hu;simp at hu;rcases hu with rfl|rfl|rfl|rfl<;>rfl) aH (by unfold maxLen;omega) aQ (by simp;omega) (JO.heap.size+1) (by simp) ?_;intro g' cap' qP hown' hgrow hat nJ;have BP:=ae (ot.out.off (Keeps.row hgrow) (cE mD.out) aH);have fV:=xI.out.grown hgrow X8.out;have p0:=(BP.out.cell 3).trans hq;have pz:=BP.out.frozen 3;have m0:=fV.cell 0;have m1:=fV.cell 1;have m2:=fV.cell 2;have m3:=fV.cell 3;rw[←ew]at hgrow mD;have R15:=ae (j6.out.off (Keeps.row hgrow) (cE mD.out) aH aH);have U15:=ae (acn.out.off (Keeps.row hgrow) (cE mD.out) aH);have aco:=ae (HMN.out.keep (Keeps.row hgrow) (cE mD.out) aH aH aH);have Ci:=ae fun x hx=>(acm.out x hx).keep (Keeps.row hgrow) (cE mD.out) aH aH (by decide)
    have p2:=R15.out.blk.cell 2;simp at m0 m1 m2 m3 p2;obtain⟨mC,fY,PS⟩:=bu hown' hgrow hat;clear hown' hgrow hat nJ fV;refine hK.out _ _ (fun _=>⟨p2,p0,m0,m1,m2,m3⟩) (fun hHeld=>?_);have hHeld:=hHeld aH;clear hK K;try simp only[cN]
    refine nA 14 fun K hK=>?_;go_simp;refine hK.out _ _ (fun _=>hHeld) (fun hHeld=>?_);have hHeld:=hHeld aH;clear hK K;try simp only[cN]
    refine dR 15 ?_
    refine nA 16 fun K hK=>?_;go_simp;refine hK.out _ _ (fun h=>absurd rfl h) (fun _=>?_);clear hK K hHeld;try simp only[cN]
    refine OC ?_;go_wp2_with fail
    have KQ:=(Keeps.refl (fun x=>x=P) qP).setCell (p:=⟨P,3,none⟩) (Or.inl rfl) (.slice (some ⟨g',0,none⟩) (T+1) cap');have OQ:Off (fun x=>x=P) qP [169]:=fun k hk=>⟨_,_,_,by subst hk;exact BP.out,by simp⟩
    have K2:=(Keeps.grown (FIN.out _ Ik.out) fY.out fun k hk=>Or.inl (Or.inr (Or.inr (Or.inl hk)))).setCell (p:=⟨P,3,none⟩) (Or.inl (Or.inr (Or.inl rfl))) (.slice (some ⟨g',0,none⟩) (T+1) cap');have B2:aG (qP.setCell ⟨P,3,none⟩ (.slice (some ⟨g',0,none⟩) (T+1) cap')) P 169 (pc.setIfInBounds 3 (.slice (some ⟨g',0,none⟩) (T+1) cap')):=BP.out.aL 3 _;refine⟨rfl,_,results_none rfl _ _ _,eT.good HRF.out K2 ⟨rfl,_,_,_,R15.out.off KQ OQ aH aH,B2,⟨xs++[⟨⟨ps,src.map (·.1),dst.map (·.1),acc⟩,.slice Ap ps.length cp,.slice As src.length cs,.slice Ad dst.length cd,.slice A1 L c1⟩],?_,?_,?_⟩,?_,?_,HG2.out,by rw[ai];omega⟩⟩
    ·rw[cH,JF.out];rfl
    ·rw[ai,←HT.out,rS];exact bj mC.out KQ OQ (by decide)
    ·intro x hx;rcases List.mem_append.1 hx with hx|hx
     ·exact(Ci.out x hx).keep KQ OQ aH aH (by decide)
     ·rw[List.mem_singleton.1 hx];exact aco.out.keep KQ OQ aH aH (by decide)
    ·rw[uQ,←aO];exact U15.out.off KQ OQ (by decide)
    ·intro g hg;have hgg:some g'=some g:=hg;injection hgg with hgg
     rcases PS.out with h|h
     ·exact Or.inl (hgg▸h)
     ·exact Or.inr (by omega)
theorem aY.empty(w:World)(size:Nat):aY w au 0 size []:=⟨none,0,rfl,by simp,fun h=>absurd h aH⟩
theorem aY.shape{w:World}{v:Value}{n size:Nat}{xs:List Value}(h:aY w v n size xs):∃A cap,v=.slice A n cap:=by
 obtain⟨A,cap,e,_⟩:=h;exact⟨A,cap,e⟩
def rX(w:World)(v:Value)(l:List Nm):Prop:=∃xs:List (Nm×Value),xs.map (·.1)=l∧aY w v l.length 2 (ip (xs.map tG))∧∀x∈xs,aY w x.2 x.1.list.length 1 (strCells x.1.list)
theorem fx.rd{w:World}{base:Nat}{v:Value}{l:List Nm}(h:fx w base v l):rX w v l:=by
 obtain⟨xs,h1,h2,h3⟩:=h;exact⟨xs,h1,aY.dh h2,fun x hx=>aY.dh (h3 x hx)⟩
theorem rX.below{w w':World}{v:Value}{l:List Nm}(h:rX w v l)(hb:aW w w'):rX w' v l:=by
 obtain⟨xs,h1,h2,h3⟩:=h;exact⟨xs,h1,h2.below hb,fun x hx=>(h3 x hx).below hb⟩
theorem rX.has{w:World}{v:Value}{l:List Nm}(h:rX w v l)(s:ByteArray):∃ys:List (ByteArray×Value),ys.length=l.length∧aY w v ys.length 2 (ip ys)∧(ys.any fun x=>decide (x.1=s))=qZ l s:=by
 obtain⟨xs,rfl,h2,h3⟩:=h;refine⟨xs.map tG,by simp,?_,?_⟩
 ·simpa using h2
 ·unfold qZ;rw[List.any_map,List.any_map];rfl
structure FO(w:World)(x:XZ):Prop where
 p:aY w x.p x.a.iT.length 1 (eJ x.a.iT)
 s:aY w x.s x.a.src.length 6 (gW x.a.src)
 d:aY w x.d x.a.dst.length 6 (gW x.a.dst)
 o:aY w x.o x.a.jI.length 2 (jb x.a.jI)
def zB(w:World)(v:Value)(l:List Ac):Prop:=∃xs:List XZ,xs.map (·.a)=l∧aY w v l.length 4 (nI xs)∧∀x∈xs,FO w x
theorem qN.rd{w:World}{base:Nat}{x:XZ}(h:qN w base x):FO w x:=⟨aY.dh h.p,aY.dh h.s,aY.dh h.d,aY.dh h.o⟩
theorem iz.rd{w:World}{base:Nat}{v:Value}{l:List Ac}(h:iz w base v l):zB w v l:=by
 obtain⟨xs,h1,h2,h3⟩:=h;exact⟨xs,h1,aY.dh h2,fun x hx=>(h3 x hx).rd⟩
theorem FO.below{w w':World}{x:XZ}(h:FO w x)(hb:aW w w'):FO w' x:=⟨h.p.below hb,h.s.below hb,h.d.below hb,h.o.below hb⟩
theorem zB.below{w w':World}{v:Value}{l:List Ac}(h:zB w v l)(hb:aW w w'):zB w' v l:=by
 obtain⟨xs,h1,h2,h3⟩:=h;exact⟨xs,h1,h2.below hb,fun x hx=>(h3 x hx).below hb⟩
structure vY where
 g:Value
 t:Value
 h:Value
 a:Value
def vY.cells(V:vY):Array Value:= #[V.g,V.t,V.h,V.a]
structure vH(w:World)(V:vY)(p:Po):Prop where
 g:rX w V.g p.groups
 t:rX w V.t p.tags
 h:aY w V.h p.hosts.length 5 (fw p.hosts)
 a:zB w V.a p.lM
theorem vH.below{w w':World}{V:vY}{p:Po}(h:vH w V p)(hb:aW w w'):vH w' V p:=⟨h.g.below hb,h.t.below hb,h.h.below hb,h.a.below hb⟩
theorem rX.shape{w:World}{v:Value}{l:List Nm}(h:rX w v l):∃A cap,v=.slice A l.length cap:=by
 obtain⟨xs,_,h2,_⟩:=h;exact h2.shape
theorem zB.shape{w:World}{v:Value}{l:List Ac}(h:zB w v l):∃A cap,v=.slice A l.length cap:=by
 obtain⟨xs,_,h2,_⟩:=h;exact h2.shape
theorem P5{w:World}{V:vY}{p:Po}(h:vH w V p)(hg:p.groups.length≤4000000)(ht:p.tags.length≤4000000)(hh:p.hosts.length≤4000000)(s:kx):Calls ah 165 #[.agg #[V.g,V.t,V.h,V.a],.agg #[.int .u8 (s.kind:Int),.string s.name,.bool s.net.a.v6,.int .u64 (s.net.a.hi:Int),.int .u64 (s.net.a.lo:Int),.int .u8 (s.net.bits:Int)]] w (Got (.bool (iC p s)) w):=by
 obtain⟨k,nm,⟨⟨v6,hi,lo⟩,bits⟩⟩:=s;obtain⟨gv,tv,hv,av⟩:=V;simp only;have b1:=boxed w (.cells #[gv,tv,hv,av] 169);have b2:=boxed (w.alloc (.cells #[gv,tv,hv,av] 169)) (.cells #[.int .u8 k,.string nm,.bool v6,.int .u64 hi,.int .u64 lo,.int .u8 bits] 220);have B1:=aG.new w 169 #[gv,tv,hv,av];have B2:=aG.new (w.alloc (.cells #[gv,tv,hv,av] 169)) 220 #[.int .u8 k,.string nm,.bool v6,.int .u64 hi,.int .u64 lo,.int .u8 bits];have B3:=B1.below b2 B1.lt;have H2:=h.below (after b1 b2);have HD:=ae (after b1 b2);obtain⟨G,hG,rg,hga⟩:=H2.g.has nm;obtain⟨T,hT,rt,hta⟩:=H2.t.has nm;have cg:=BS G aQ gv rg nm;have ct:=BS T aQ tv rt nm;have ch:=uK p.hosts hh hv H2.h nm;obtain⟨Ag,cg1,eg⟩:=rg.shape;obtain⟨At,ct1,et⟩:=rt.shape;obtain⟨Ah,ch1,eh⟩:=H2.h.shape;obtain⟨Aa,ca1,ea⟩:=H2.a.shape;simp only at eg et eh ea;subst eg et eh ea;rw[hga]at cg;rw[hta]at ct;rw[show(p.hosts.any fun x=>decide (x.name=nm))=zi p.hosts nm from rfl]at ch;have hkn:iC p ⟨k,nm,⟨⟨v6,hi,lo⟩,bits⟩⟩=if k=3 then qZ p.groups nm else if k=4 then qZ p.tags nm else if k=5 then zi p.hosts nm else true:=rfl
 rw[hkn];generalize qZ p.groups nm=RG at cg⊢;generalize qZ p.tags nm=RT at ct⊢;generalize zi p.hosts nm=RH at ch⊢;generalize G.length=lg at*;generalize T.length=lt at*;have x0:=B3.cell 0;have x1:=B3.cell 1;have x2:=B3.cell 2;have y0:=B2.cell 0;have y1:=B2.cell 1;simp at x0 x1 x2 y0 y1;obtain⟨HG,HT,HH⟩:=bu cg ct ch;clear hkn h b1 b2 B1 B2 B3 H2 hga hta rg rt cg ct ch hG hT hg ht hh;by_cases k3:k=3
 ·rw[if_pos k3];have e3:((k:Int)==3)=true:=by simp;omega
  clear k3;go_enter Tryz.func165,Tryz.ntmps165;go_wp2_with(go_at_call 194;refine HG.out.mono ?_;rintro r w2⟨rfl,d2⟩)
  go_ret;exact⟨rfl,after HD.out d2⟩
 rw[if_neg k3];have q3:((k:Int)==3)=false:=by simp;omega
 by_cases k4:k=4
 ·rw[if_pos k4];have e4:((k:Int)==4)=true:=by simp;omega
  clear k4;clear k3;go_enter Tryz.func165,Tryz.ntmps165;go_wp2_with(go_at_call 194;refine HT.out.mono ?_;rintro r w2⟨rfl,d2⟩)
  go_ret;exact⟨rfl,after HD.out d2⟩
 rw[if_neg k4];have q4:((k:Int)==4)=false:=by simp;omega
 by_cases k5:k=5
 ·rw[if_pos k5];have e5:((k:Int)==5)=true:=by simp;omega
  clear k5;clear k3 k4;go_enter Tryz.func165,Tryz.ntmps165;go_wp2_with(go_at_call 195;refine HH.out.mono ?_;rintro r w2⟨rfl,d2⟩)
  go_ret;exact⟨rfl,after HD.out d2⟩
 rw[if_neg k5];have q5:((k:Int)==5)=false:=by simp;omega
 clear k3 k4 k5;go_enter Tryz.func165,Tryz.ntmps165;go_wp2_with fail
 go_ret;exact⟨rfl,HD.out⟩
structure Up(n:Nm):Prop where
 name:n.name.size≤2000000
 len:n.list.length≤2000000
 all:∀s∈n.list,s.size≤2000000
theorem FP{l:List ByteArray}{k:Nat}{s:ByteArray}(h:l[k]? =some s):(strCells l)[k]? =some (.string s):=by
 unfold strCells;rw[List.getElem?_map,h];rfl
theorem aY.cell{w w':World}{A:Option Addr}{n cap size:Nat}{xs:List Value}(h:aY w (.slice A n cap) n size xs)(hb:aW w w')(hn:0<n):∃g o,A=some ⟨g,o,none⟩∧∀j u,xs[j]? =some u→w'.cell? ⟨g,o+j,none⟩=some u:=by
 obtain⟨A',cap',e,_,hA⟩:=h;injection e with e1 _ e2
 subst e1;obtain⟨g,o,ha,hc⟩:=hA hn;exact⟨g,o,ha,fun j u hu=>(hb.cell (World.block_lt_of_cell? w _ (hc j u hu))).trans (hc j u hu)⟩
structure JQ(s:kx):Prop where
 ok:s.net.Ok
 kind:s.kind<256
 name:s.name.size≤1900000
theorem acw{a b:ByteArray}(h:a.toList=b.toList):a=b:=by
 rw[cC,cC]at h;exact ByteArray.ext (Array.ext' h)
structure aeN(a:Ac):Prop where
 src:∀s∈a.src,JQ s
 dst:∀s∈a.dst,JQ s
 pl:a.iT.length≤2000000
 sl:a.src.length≤2000000
 dl:a.dst.length≤2000000
 ol:a.jI.length≤2000000
 pb:∀x∈a.iT,x<256
 ob:∀x∈a.jI,x.1<65536∧x.2<65536
structure aeO(p:Po):Prop where
 g:∀n∈p.groups,Up n
 t:∀n∈p.tags,Up n
 h:∀x∈p.hosts,x.name.size≤2000000∧x.net.Ok
 a:∀x∈p.lM,aeN x
 gl:p.groups.length≤2000000
 tl:p.tags.length≤2000000
 hl:p.hosts.length≤2000000
 al:p.lM.length≤2000000
structure CN(l:List (List UInt8)):Prop where
 len:l.length≤300
 all:∀w∈l,w.length≤2000010
theorem join_le:∀(l:List (List UInt8))(m:Nat),(∀w∈l,w.length≤m)→(Lib.join l [32]).length≤l.length*(m+1):=by
 intro l m
 induction l with
 |nil=>intro _;exact Nat.zero_le _
 |cons a r ih=>
  intro h;have ha:=h a (by simp);cases r with
  |nil=>rw[Lib.join_one];simp;omega
  |cons b r=>
   have:=ih (fun w hw=>h w (by simp[hw]));rw[IH];simp only[ai,List.length_cons,List.length_nil]at this⊢;rw[Nat.succ_mul (r.length+1)];omega
theorem CN.join{l:List (List UInt8)}(h:CN l):(Lib.join l [32]).length≤700000000:=by
 have h1:=join_le l 2000010 h.all;have h2:=Nat.mul_le_mul_right (2000010+1) h.len;omega
theorem CN.line{l:List (List UInt8)}(h:CN l):(abf l).length≤700000001:=by
 have:=h.join;unfold abf;simp;exact this
theorem CO(l:List Nat)(h1:l.all (fun x=>decide (x=1)||decide (x=6)||decide (x=17))=true)(h2:rising 0 l=true):l.length≤3:=by
 match l,h1,h2 with
 |[],_,_=>decide
 |[_],_,_=>simp
 |[_,_],_,_=>simp
 |[_,_,_],_,_=>simp
 |a::b::c::d::r,h1,h2=>
  exfalso;simp only[List.all_cons,rising,Bool.and_eq_true,Bool.or_eq_true,decide_eq_true_eq]at h1 h2;omega
theorem addr_add(g o j:Nat):(⟨g,o,none⟩:Addr).add j=⟨g,o+j,none⟩:=by
 unfold Addr.add;split
 ·rename_i h;subst h;rfl
 ·rfl
abbrev pAt(b:Nat):Value:=.pointer (some ⟨b,0,none⟩)
def FQ(c b:Nat):List SE:=[⟨fG,.func (.func 188) #[] #[pAt c],0⟩,⟨kF,.func (.func 190) #[] #[pAt c],1⟩,⟨iU,.func (.func 191) #[pAt b] #[],2⟩,⟨jk,.func (.func 192) #[pAt b] #[],3⟩]
theorem P6(w0:World)(c b:Nat):∃w1 w2 w3 w4:World,(Instr.mapUpdate 214 (.map (some w0.heap.size)) (.string ⟨#[103,114,111,117,112]⟩) (.func (.func 188) #[] #[.pointer (some ⟨c,0,none⟩)])).run ah (w0.alloc (.map #[] 0))=.ok () w1∧(Instr.mapUpdate 214 (.map (some w0.heap.size)) (.string ⟨#[116,97,103]⟩) (.func (.func 190) #[] #[.pointer (some ⟨c,0,none⟩)])).run ah w1=.ok () w2∧(Instr.mapUpdate 214 (.map (some w0.heap.size)) (.string ⟨#[104,111,115,116]⟩) (.func (.func 191) #[.pointer (some ⟨b,0,none⟩)] #[])).run ah w2=.ok () w3∧(Instr.mapUpdate 214 (.map (some w0.heap.size)) (.string ⟨#[97,99,99,101,112,116]⟩) (.func (.func 192) #[.pointer (some ⟨b,0,none⟩)] #[])).run ah w3=.ok () w4∧eW w4 w0.heap.size (FQ c b) 4∧aW w0 w2∧aW w0 w3∧aW w0 w4:=by
 have hT:=Tryz.underlying214;have hK:=bn;have h0:eW (w0.alloc (.map #[] 0)) w0.heap.size [] 0:=heap_alloc_new w0 _;obtain⟨w1,e1,_,_,k1,m1⟩:=fl (P:=ah) hT hK h0 ⟨#[103,114,111,117,112]⟩ (by decide+kernel) (.func (.func 188) #[] #[.pointer (some ⟨c,0,none⟩)]);obtain⟨w2,e2,_,_,k2,m2⟩:=fl (P:=ah) hT hK m1 ⟨#[116,97,103]⟩ (by rfl) (.func (.func 190) #[] #[.pointer (some ⟨c,0,none⟩)]);obtain⟨w3,e3,_,_,k3,m3⟩:=fl (P:=ah) hT hK m2 ⟨#[104,111,115,116]⟩ (by rfl) (.func (.func 191) #[.pointer (some ⟨b,0,none⟩)] #[]);obtain⟨w4,e4,_,_,k4,m4⟩:=fl (P:=ah) hT hK m3 ⟨#[97,99,99,101,112,116]⟩ (by rfl) (.func (.func 192) #[.pointer (some ⟨b,0,none⟩)] #[]);refine⟨w1,w2,w3,w4,e1,e2,e3,e4,m4,?_,?_,?_⟩
 ·exact(boxed w0 _).trans (Keeps.below (k1.trans k2) (fun k hk=>by rw[hk];exact aA _) (by simp))
 ·exact(boxed w0 _).trans (Keeps.below ((k1.trans k2).trans k3) (fun k hk=>by rw[hk];exact aA _) (by simp))
 ·exact(boxed w0 _).trans (Keeps.below (((k1.trans k2).trans k3).trans k4) (fun k hk=>by rw[hk];exact aA _) (by simp))
theorem pE(w:World)(b:Nat):Calls ah 162 #[.pointer (some ⟨b,0,none⟩)] w fun r w'=>(∃m c,r=.returned (.map (some m))∧eW w' m (FQ c b) 4∧aG w' c 205 #[.pointer (some ⟨b,0,none⟩)]∧w.heap.size≤m∧w.heap.size≤c)∧aW w w':=by
 have hB:=aG.new w 205 #[.pointer (some ⟨b,0,none⟩)];have hb0:=boxed w (.cells #[.pointer (some ⟨b,0,none⟩)] 205);obtain⟨w1,w2,w3,w4,e1,e2,e3,e4,hM,g2,g3,g4⟩:=P6 (w.alloc (.cells #[.pointer (some ⟨b,0,none⟩)] 205)) w.heap.size b;have hmm:= @run_makeMap ah;have hmf:∀(fn:Fn)(first cap:Array Value)(w:World),(Instr.makeFunc fn first cap).run ah w=.ok (.func fn first cap) w:=fun _ _ _ _=>rfl
 have c2:=(hB.below g2 hB.lt).cell 0;have c3:=(hB.below g3 hB.lt).cell 0;simp at c2 c3;obtain⟨HB4,Hb4,HM⟩:=bu (hB.below g4 hB.lt) (after hb0 g4) hM;rw[show(w.alloc (.cells #[.pointer (some ⟨b,0,none⟩)] 205)).heap.size=w.heap.size+1 by simp]at e1 e2 e3 e4 HM;clear hM g2 g3 g4 hb0 hB;go_enter Tryz.func162,Tryz.ntmps162;go_wp2_with fail
 go_ret;exact⟨⟨_,_,rfl,HM.out,HB4.out,by omega,aA _⟩,Hb4.out⟩
def TyS(w:World)(T:List TypeId)(k:Nat):Prop:=∃cur e fz,w.heap[k]? =some (.cells cur e fz)∧e∈T
def LT:List TypeId:=[210,169,280,282,288,224]
def cG(base:Nat)(w w':World):Prop:=Keeps (fun k=>base≤k∧TyS w LT k) w w'
theorem cG.of{S:Nat→Prop}{base:Nat}{w w':World}{T:List TypeId}(hk:Keeps S w w')(hS:∀k,S k→base≤k)(ho:Off S w T)(hT:∀e∈T,e∈LT):cG base w w':=hk.mono fun k _ hs=>⟨hS k hs,by obtain⟨cur,e,fz,h1,h2⟩:=ho k hs;exact⟨cur,e,fz,h1,hT e h2⟩⟩
theorem cG.off{base:Nat}{w:World}:Off (fun k=>base≤k∧TyS w LT k) w LT:=fun _ hk=>hk.2
theorem cG.below{base:Nat}{w w':World}(h:cG base w w')(hb:base≤w.heap.size):Below base w w':=Keeps.below h (fun _ hk=>hk.1) hb
structure Pm(base:Nat)(w:World)(P:Nat)(uv:Value)(V:vY)(ed:qK):Prop where
 blk:aG w P 169 #[V.g,V.t,V.h,V.a]
 g:fx w base V.g ed.p.groups
 t:fx w base V.t ed.p.tags
 h:w.ownsRow base 282 5 V.h ed.p.hosts.length (fw ed.p.hosts)
 a:iz w base V.a ed.p.lM
 u:fh w base uv ed.used
 sep:∀x,V.g.ownBlock=some x→V.t.ownBlock=some x→False
 gl:ed.p.groups.length≤64
 tl:ed.p.tags.length≤64
 hl:ed.p.hosts.length≤64
 al:ed.p.lM.length≤64
 ul:ed.used.length≤128*ed.p.lM.length
theorem xQ(w:World):aW w w.drew:=⟨rfl,rfl,rfl,aA _,fun _ _=>rfl⟩
theorem Pm.drew{base P:Nat}{w:World}{uv:Value}{V:vY}{ed:qK}(h:Pm base w P uv V ed):Pm base w.drew P uv V ed:=⟨h.blk,h.g,h.t,h.h,h.a.below (xQ w),h.u,h.sep,h.gl,h.tl,h.hl,h.al,h.ul⟩
theorem Rs.drew{w:World}{b P k n:Nat}{lv uv:Value}{ws:List ByteArray}(h:Rs w b P k n lv uv ws):Rs w.drew b P k n lv uv ws:=⟨h.blk,h.row,h.ne,h.len,h.sizes⟩
theorem Env.drew{w:World}(h:Env w):Env w.drew:=h.below (xQ w)
theorem cG.fJ{base:Nat}{w w':World}(h:cG base w.drew w'):cG base w w':=⟨h.os,h.tape,h.output,h.size,h.block⟩
def tK(base:Nat)(b P n:Nat)(lv:Value)(ws:List ByteArray)(w':World)(tL:qK)(r:Ending):Prop:=r=.returned (.tuple #[])∧∃k' uv' V',Rs w' b P k' n lv uv' ws∧Pm base w' P uv' V' tL
theorem fi.map{α β:Type}{o:Except Bad α}{f:α→β}{n:Nat}{ok:β→Ending→Prop}{r:Ending}(h:fi o n (fun x r=>ok (f x) r) r):fi (o.map f) n ok r:=by
 cases o with
 |error e=>exact h
 |ok x=>exact h
def nN{α:Type}(w':World)(P:Nat)(o:Except Bad α):Prop:=∀e,o=.error e→∃p0 p1 p2 p3,aG w' P 169 #[p0,p1,p2,p3]
theorem nN.map{α β:Type}{o:Except Bad α}{f:α→β}{w':World}{P:Nat}(h:nN w' P o):nN w' P (o.map f):=by
 intro e he;cases o with
 |error e'=>exact h e' rfl
 |ok x=>cases he
theorem fi.mono{α:Type}{o:Except Bad α}{n:Nat}{ok ok':α→Ending→Prop}{r:Ending}(h:fi o n ok r)(hm:∀x,o=.ok x→ok x r→ok' x r):fi o n ok' r:=by
 cases o with
 |error e=>exact h
 |ok x=>exact hm x rfl h
theorem ll{ws:List ByteArray}{x:ByteArray}(h:ws[0]? =some x):∃r,ws=x::r:=by
 cases ws with
 |nil=>cases h
 |cons y r=>injection h with h;exact⟨r,by rw[h]⟩
theorem JR{ws:List ByteArray}(ed:qK)(n:Nat)(h:ws[0]? =some fG):fu ed n ws=(mq ws ed.p.groups).map fun x=>{ed with p:={ed.p with groups:=ed.p.groups++[x]}}:=by
 obtain⟨r,rfl⟩:=ll h;unfold fu;dsimp only;rw[if_pos rfl]
theorem Ur{ws:List ByteArray}(ed:qK)(n:Nat)(h:ws[0]? =some kF):fu ed n ws=(mq ws ed.p.tags).map fun x=>{ed with p:={ed.p with tags:=ed.p.tags++[x]}}:=by
 obtain⟨r,rfl⟩:=ll h;unfold fu;dsimp only;rw[if_neg (by decide+kernel),if_pos rfl]
theorem P8{ws:List ByteArray}(ed:qK)(n:Nat)(h:ws[0]? =some iU):fu ed n ws=(uB ws ed.p.hosts).map fun x=>{ed with p:={ed.p with hosts:=ed.p.hosts++[x]}}:=by
 obtain⟨r,rfl⟩:=ll h;unfold fu;dsimp only;rw[if_neg (by decide+kernel),if_neg (by decide+kernel),if_pos rfl]
theorem FR{ws:List ByteArray}(ed:qK)(n:Nat)(h:ws[0]? =some jk):fu ed n ws=(lR ws ed.p.lM.length).map fun x=>{p:={ed.p with lM:=ed.p.lM++[x.1]},used:=ed.used++x.2.map fun y=>(y.1,n,y.2)}:=by
 obtain⟨r,rfl⟩:=ll h;unfold fu;dsimp only;rw[if_neg (by decide+kernel),if_neg (by decide+kernel),if_neg (by decide+kernel),if_pos rfl]
theorem P9{ws:List ByteArray}{x:ByteArray}(ed:qK)(n:Nat)(h:ws[0]? =some x)(h1:x≠fG)(h2:x≠kF)(h3:x≠iU)(h4:x≠jk):fu ed n ws=.error (190,0):=by
 obtain⟨r,rfl⟩:=ll h;unfold fu;dsimp only;rw[if_neg h1,if_neg h2,if_neg h3,if_neg h4]
theorem tM{w:World}{base size n:Nat}{e:TypeId}{v:Value}{xs:List Value}{g:Nat}(h:w.ownsRow base e size v n xs)(hg:v.ownBlock=some g):base≤g∧g<w.heap.size∧∃cur fz,w.heap[g]? =some (.cells cur e fz):=by
 obtain⟨cur,e2,fz,h1,h2⟩:=cE h g hg;rw[List.mem_singleton.1 h2]at h1;exact⟨(h.lt g hg).1,(h.lt g hg).2,cur,fz,h1⟩
theorem fx.own{w:World}{base:Nat}{v:Value}{l:List Nm}(h:fx w base v l){g:Nat}(hg:v.ownBlock=some g):base≤g∧g<w.heap.size∧∃cur fz,w.heap[g]? =some (.cells cur 280 fz):=by
 obtain⟨xs,_,ho,_⟩:=h;exact tM ho hg
theorem iz.own{w:World}{base:Nat}{v:Value}{l:List Ac}(h:iz w base v l){g:Nat}(hg:v.ownBlock=some g):base≤g∧g<w.heap.size∧∃cur fz,w.heap[g]? =some (.cells cur 288 fz):=by
 obtain⟨xs,_,ho,_⟩:=h;exact tM ho hg
theorem fh.own{w:World}{base:Nat}{v:Value}{l:List Us}(h:fh w base v l){g:Nat}(hg:v.ownBlock=some g):base≤g∧g<w.heap.size∧∃cur fz,w.heap[g]? =some (.cells cur 224 fz):=by
 obtain⟨xs,_,ho⟩:=h;exact tM ho hg
theorem nO{w:World}{g b:Nat}{cur cs:Array Value}{e t:TypeId}{fz:Nat×Nat}(h:w.heap[g]? =some (.cells cur e fz))(hb:aG w b t cs)(hne:e≠t):g≠b:=by
 rintro rfl;unfold aG at hb;rw[h]at hb;injection hb with hb
 injection hb with _ h2 _
 exact hne h2
theorem FT{w0 w:World}{b P n:Nat}{lv uv:Value}{ws:List ByteArray}{V:vY}{ed:qK}(hE:aW w0 w)(hbb:w0.heap.size≤b)(CP:w0.heap.size≤P)(h:Rs w b P 1 n lv uv ws)(m:Pm w0.heap.size w P uv V ed)(hw:ws[0]? =some fG):Calls ah 189 #[.pointer (some ⟨b,0,none⟩),.pointer (some ⟨P,0,none⟩)] w fun r w'=>cG w0.heap.size w w'∧fi (fu ed n ws) n (tK w0.heap.size b P n lv ws w') r∧nN w' P (fu ed n ws):=by
 rw[JR ed n hw];have of:Off (fun k=>k=b∨k=P∨V.g.ownBlock=some k) w [210,169,280]:=by
  rintro k(e|e|e)
  ·exact⟨_,_,_,by subst e;exact h.blk,by simp⟩
  ·exact⟨_,_,_,by subst e;exact m.blk,by simp⟩
  ·obtain⟨_,_,cur,fz,h1⟩:=m.g.own e;exact⟨cur,_,fz,h1,by simp⟩
 have hPb:P≠b:=m.blk.vP h.blk aH;refine(Am (q:=0) h m.blk rfl m.g hE.size).mono fun r w' hh=>have hk:=(hh.line (fun k hk=>Or.inl hk)).1;have hl:=(hh.line (fun k hk=>Or.inl hk)).2;⟨cG.of hk ?_ of aH,fi.map (hl.mono fun x hx⟨h1,k',lst',R,B,NR,fr⟩=>⟨h1,k',uv,⟨lst',V.t,V.h,V.a⟩,R,⟨B,NR,?_,bj m.h hk of aH,m.a.off hk of aH aH aH aH,m.u.off hk of aH,?_,?_,m.tl,m.hl,m.al,m.ul⟩⟩),nN.map fun e he=>⟨_,_,_,_,m.blk.keep (hh.err e he) (hPb)⟩⟩
 ·rintro k(e|e|e)
  ·omega
  ·omega
  ·exact(m.g.own e).1
 ·refine m.t.keep hk of aH ?_;rintro g hg(e|e|e)
  ·obtain⟨_,_,cur,fz,h1⟩:=m.t.own hg;exact nO h1 h.blk aH e
  ·obtain⟨_,_,cur,fz,h1⟩:=m.t.own hg;exact nO h1 m.blk aH e
  ·exact m.sep g e hg
 ·intro g hg ht;rcases fr g hg with e|e
  ·exact m.sep g e ht
  ·have:=(m.t.own ht).2.1;omega
 ·have:=(uD hx).2.1;show(ed.p.groups++[x]).length≤64;rw[ai];simp;omega
theorem Qa{w0 w:World}{b P n:Nat}{lv uv:Value}{ws:List ByteArray}{V:vY}{ed:qK}(hE:aW w0 w)(hbb:w0.heap.size≤b)(CP:w0.heap.size≤P)(h:Rs w b P 1 n lv uv ws)(m:Pm w0.heap.size w P uv V ed)(hw:ws[0]? =some kF):Calls ah 189 #[.pointer (some ⟨b,0,none⟩),.pointer (some ⟨P,1,none⟩)] w fun r w'=>cG w0.heap.size w w'∧fi (fu ed n ws) n (tK w0.heap.size b P n lv ws w') r∧nN w' P (fu ed n ws):=by
 rw[Ur ed n hw];have of:Off (fun k=>k=b∨k=P∨V.t.ownBlock=some k) w [210,169,280]:=by
  rintro k(e|e|e)
  ·exact⟨_,_,_,by subst e;exact h.blk,by simp⟩
  ·exact⟨_,_,_,by subst e;exact m.blk,by simp⟩
  ·obtain⟨_,_,cur,fz,h1⟩:=m.t.own e;exact⟨cur,_,fz,h1,by simp⟩
 have hPb:P≠b:=m.blk.vP h.blk aH;refine(Am (q:=1) h m.blk rfl m.t hE.size).mono fun r w' hh=>have hk:=(hh.line (fun k hk=>Or.inl hk)).1;have hl:=(hh.line (fun k hk=>Or.inl hk)).2;⟨cG.of hk ?_ of aH,fi.map (hl.mono fun x hx⟨h1,k',lst',R,B,NR,fr⟩=>⟨h1,k',uv,⟨V.g,lst',V.h,V.a⟩,R,⟨B,?_,NR,bj m.h hk of aH,m.a.off hk of aH aH aH aH,m.u.off hk of aH,?_,m.gl,?_,m.hl,m.al,m.ul⟩⟩),nN.map fun e he=>⟨_,_,_,_,m.blk.keep (hh.err e he) (hPb)⟩⟩
 ·rintro k(e|e|e)
  ·omega
  ·omega
  ·exact(m.t.own e).1
 ·refine m.g.keep hk of aH ?_;rintro g hg(e|e|e)
  ·obtain⟨_,_,cur,fz,h1⟩:=m.g.own hg;exact nO h1 h.blk aH e
  ·obtain⟨_,_,cur,fz,h1⟩:=m.g.own hg;exact nO h1 m.blk aH e
  ·exact m.sep g hg e
 ·intro g hg ht;rcases fr g ht with e|e
  ·exact m.sep g hg e
  ·have:=(m.g.own hg).2.1;omega
 ·have:=(uD hx).2.1;show(ed.p.tags++[x]).length≤64;rw[ai];simp;omega
theorem JS{w0 w:World}(env:Env w0){b P n:Nat}{lv uv:Value}{ws:List ByteArray}{V:vY}{ed:qK}(hE:aW w0 w)(hbb:w0.heap.size≤b)(CP:w0.heap.size≤P)(h:Rs w b P 1 n lv uv ws)(m:Pm w0.heap.size w P uv V ed)(hw:ws[0]? =some iU):Calls ah 191 #[.pointer (some ⟨b,0,none⟩)] w fun r w'=>cG w0.heap.size w w'∧fi (fu ed n ws) n (tK w0.heap.size b P n lv ws w') r∧nN w' P (fu ed n ws):=by
 rw[P8 ed n hw];have of:Off (fun k=>k=b∨k=P∨V.h.ownBlock=some k) w [210,169,282]:=by
  rintro k(e|e|e)
  ·exact⟨_,_,_,by subst e;exact h.blk,by simp⟩
  ·exact⟨_,_,_,by subst e;exact m.blk,by simp⟩
  ·obtain⟨_,_,cur,fz,h1⟩:=tM m.h e;exact⟨cur,_,fz,h1,by simp⟩
 have ng:∀(v:Value)(l:List Nm),fx w w0.heap.size v l→∀g,v.ownBlock=some g→¬(g=b∨g=P∨V.h.ownBlock=some g):=by
  intro v l hv g hg e;obtain⟨_,_,cur,fz,h1⟩:=hv.own hg;rcases e with e|e|e
  ·exact nO h1 h.blk aH e
  ·exact nO h1 m.blk aH e
  ·obtain⟨_,_,acd,fz2,h2⟩:=tM m.h e;rw[h1]at h2;injection h2 with h2
   injection h2 with _ h2 _
   exact absurd h2 (by decide)
 have hPb:P≠b:=m.blk.vP h.blk aH;refine(TQ env hE h m.blk rfl m.h hbb).mono fun r w' hh=>have hk:=(hh.line (fun k hk=>Or.inl hk)).1;have hl:=(hh.line (fun k hk=>Or.inl hk)).2;⟨cG.of hk ?_ of aH,fi.map (hl.mono fun x hx⟨h1,k',lst',R,B,NR,fr⟩=>⟨h1,k',uv,⟨V.g,V.t,lst',V.a⟩,R,⟨B,m.g.keep hk of aH (ng _ _ m.g),m.t.keep hk of aH (ng _ _ m.t),NR,m.a.off hk of aH aH aH aH,m.u.off hk of aH,m.sep,m.gl,m.tl,?_,m.al,m.ul⟩⟩),nN.map fun e he=>⟨_,_,_,_,m.blk.keep (hh.err e he) (hPb)⟩⟩
 ·rintro k(e|e|e)
  ·omega
  ·omega
  ·exact(tM m.h e).1
 ·have:=(IJ hx).2.1;show(ed.p.hosts++[x]).length≤64;rw[ai];simp;omega
theorem CQ{w0 w:World}(env:Env w0){b P n:Nat}{lv uv:Value}{ws:List ByteArray}{V:vY}{ed:qK}(hE:aW w0 w)(hbb:w0.heap.size≤b)(CP:w0.heap.size≤P)(h:Rs w b P 1 n lv uv ws)(m:Pm w0.heap.size w P uv V ed)(hw:ws[0]? =some jk):Calls ah 192 #[.pointer (some ⟨b,0,none⟩)] w fun r w'=>cG w0.heap.size w w'∧fi (fu ed n ws) n (tK w0.heap.size b P n lv ws w') r∧nN w' P (fu ed n ws):=by
 rw[FR ed n hw];have of:Off (fun k=>k=b∨k=P∨V.a.ownBlock=some k∨uv.ownBlock=some k) w [210,169,288,224]:=by
  rintro k(e|e|e|e)
  ·exact⟨_,_,_,by subst e;exact h.blk,by simp⟩
  ·exact⟨_,_,_,by subst e;exact m.blk,by simp⟩
  ·obtain⟨_,_,cur,fz,h1⟩:=m.a.own e;exact⟨cur,_,fz,h1,by simp⟩
  ·obtain⟨_,_,cur,fz,h1⟩:=m.u.own e;exact⟨cur,_,fz,h1,by simp⟩
 have ng:∀(v:Value)(l:List Nm),fx w w0.heap.size v l→∀g,v.ownBlock=some g→¬(g=b∨g=P∨V.a.ownBlock=some g∨uv.ownBlock=some g):=by
  intro v l hv g hg e;obtain⟨_,_,cur,fz,h1⟩:=hv.own hg;obtain⟨acd,e2,fz2,h2,h3⟩:=of g e;rw[h1]at h2;injection h2 with h2
  injection h2 with _ h2 _
  rw[←h2]at h3;exact absurd h3 (by decide)
 have hPb:P≠b:=m.blk.vP h.blk aH;have hPu:uv.ownBlock=some P→False:=fun e=>by
  obtain⟨_,_,cur,fz,h1⟩:=m.u.own e;exact nO h1 m.blk aH rfl
 refine(JJ env hE h m.blk rfl m.a m.u (by have:=m.ul;have:=m.al;omega) hbb).mono fun r w' hh=>have hk:=(hh.line (fun k hk=>hk.elim Or.inl fun e=>Or.inr (Or.inr (Or.inr e)))).1;have hl:=(hh.line (fun k hk=>hk.elim Or.inl fun e=>Or.inr (Or.inr (Or.inr e)))).2;⟨cG.of hk ?_ of aH,fi.map (hl.mono fun x hx⟨h1,k',lst',uv',R,B,AR,UR,fr,fr2,xl⟩=>⟨h1,k',uv',⟨V.g,V.t,V.h,lst'⟩,R,⟨B,m.g.keep hk of aH (ng _ _ m.g),m.t.keep hk of aH (ng _ _ m.t),bj m.h hk of aH,AR,UR,m.sep,m.gl,m.tl,m.hl,?_,?_⟩⟩),nN.map fun e he=>⟨_,_,_,_,m.blk.keep (hh.err e he) (fun e=>e.elim hPb hPu)⟩⟩
 ·rintro k(e|e|e|e)
  ·omega
  ·omega
  ·exact(m.a.own e).1
  ·exact(m.u.own e).1
 ·have:=(BH hx).2.1;show(ed.p.lM++[x.1]).length≤64;rw[ai];simp;omega
 ·show(ed.used++x.2.map fun y=>(y.1,n,y.2)).length≤128*(ed.p.lM++[x.1]).length;rw[ai,ai,ay];have:=m.ul;simp;omega
theorem Qb{w0 w:World}{b P n c:Nat}{lv uv:Value}{ws:List ByteArray}{V:vY}{ed:qK}(hE:aW w0 w)(hbb:w0.heap.size≤b)(CP:w0.heap.size≤P)(h:Rs w b P 1 n lv uv ws)(m:Pm w0.heap.size w P uv V ed)(hw:ws[0]? =some fG)(hc:aG w c 205 #[.pointer (some ⟨b,0,none⟩)]):Calls ah 188 #[.pointer (some ⟨c,0,none⟩)] w fun r w'=>cG w0.heap.size w w'∧fi (fu ed n ws) n (tK w0.heap.size b P n lv ws w') r∧nN w' P (fu ed n ws):=by
 have HN:=FT (w:=w.drew) (n:=n) (lv:=lv) ⟨hE.os,hE.tape,hE.output,hE.size,hE.block⟩ hbb CP h.drew m.drew hw;have x0:=hc.cell 0;have x2:=h.blk.cell 2;simp at x0 x2;have HC:=ae hc;clear h m hc;cases ho:fu ed n ws with
 |error e=>
  rw[ho]at HN;have HE:ag (Calls ah 189 #[.pointer (some ⟨b,0,none⟩),.pointer (some ⟨P,0,none⟩)] w.drew fun r w'=>cG w0.heap.size w.drew w'∧r=aT e.1 n e.2∧nN (α:=qK) w' P (.error e)):=ae HN;clear HN ho;go_enter Tryz.func188,Tryz.ntmps188;refine wp_region_held_drew (S:=(fun w'=>w'.cell? ⟨c,0,none⟩=some (.pointer (some ⟨b,0,none⟩))∧w'.cell? ⟨b,2,none⟩=some (.pointer (some ⟨P,0,none⟩)))) bo (⟨x0,x2⟩) (fun hHeld=>?_);refine bC 0 ?_
  refine bC 1 ?_
  refine bC 2 ?_
  refine bC 3 ?_
  refine bC 4 ?_
  refine bC 5 ?_
  refine bC 6 ?_
  refine jg 7 fun K hK=>?_;go_simp;refine HE.out.mono ?_;rintro r w5⟨d5,rfl,p5⟩;unfold aT;exact⟨rfl,d5.fJ,rfl,p5⟩
 |ok x=>
  rw[ho]at HN;have HE:ag (Calls ah 189 #[.pointer (some ⟨b,0,none⟩),.pointer (some ⟨P,0,none⟩)] w.drew fun r w'=>cG w0.heap.size w.drew w'∧(r=.returned (.tuple #[])∧∃k' uv' V',Rs w' b P k' n lv uv' ws∧Pm w0.heap.size w' P uv' V' x)):=ae (HN.mono fun r w'⟨h1,h2,_⟩=>⟨h1,h2⟩);clear HN ho;go_enter Tryz.func188,Tryz.ntmps188;refine wp_region_held_drew (S:=(fun w'=>w'.cell? ⟨c,0,none⟩=some (.pointer (some ⟨b,0,none⟩))∧w'.cell? ⟨b,2,none⟩=some (.pointer (some ⟨P,0,none⟩)))) bo (⟨x0,x2⟩) (fun hHeld=>?_);refine bC 0 ?_
  refine bC 1 ?_
  refine bC 2 ?_
  refine bC 3 ?_
  refine bC 4 ?_
  refine bC 5 ?_
  refine bC 6 ?_
  refine jg 7 fun K hK=>?_;go_simp;refine HE.out.mono ?_;rintro r w5⟨d5,rfl,k',uv',V',R5,M5⟩;have y0:=(HC.out.off d5.fJ cG.off aH).cell 0;have y2:=R5.blk.cell 2;simp at y0 y2;refine hK.out _ _ (⟨y0,y2⟩) (fun hHeld=>?_);clear hK K;try simp only[cN]
  refine qW ?_;refine⟨rfl,_,results_none rfl _ _ _,d5.fJ,⟨rfl,_,_,_,R5,M5⟩,fun e he=>(by cases he)⟩
theorem Qc{w0 w:World}{b P n c:Nat}{lv uv:Value}{ws:List ByteArray}{V:vY}{ed:qK}(hE:aW w0 w)(hbb:w0.heap.size≤b)(CP:w0.heap.size≤P)(h:Rs w b P 1 n lv uv ws)(m:Pm w0.heap.size w P uv V ed)(hw:ws[0]? =some kF)(hc:aG w c 205 #[.pointer (some ⟨b,0,none⟩)]):Calls ah 190 #[.pointer (some ⟨c,0,none⟩)] w fun r w'=>cG w0.heap.size w w'∧fi (fu ed n ws) n (tK w0.heap.size b P n lv ws w') r∧nN w' P (fu ed n ws):=by
 have HN:=Qa (w:=w.drew) (n:=n) (lv:=lv) ⟨hE.os,hE.tape,hE.output,hE.size,hE.block⟩ hbb CP h.drew m.drew hw;have x0:=hc.cell 0;have x2:=h.blk.cell 2;simp at x0 x2;have HC:=ae hc;clear h m hc;cases ho:fu ed n ws with
 |error e=>
  rw[ho]at HN;have HE:ag (Calls ah 189 #[.pointer (some ⟨b,0,none⟩),.pointer (some ⟨P,1,none⟩)] w.drew fun r w'=>cG w0.heap.size w.drew w'∧r=aT e.1 n e.2∧nN (α:=qK) w' P (.error e)):=ae HN;clear HN ho;go_enter Tryz.func190,Tryz.ntmps190;refine wp_region_held_drew (S:=(fun w'=>w'.cell? ⟨c,0,none⟩=some (.pointer (some ⟨b,0,none⟩))∧w'.cell? ⟨b,2,none⟩=some (.pointer (some ⟨P,0,none⟩)))) bo (⟨x0,x2⟩) (fun hHeld=>?_);refine bC 0 ?_
  refine bC 1 ?_
  refine bC 2 ?_
  refine bC 3 ?_
  refine bC 4 ?_
  refine bC 5 ?_
  refine bC 6 ?_
  refine jg 7 fun K hK=>?_;go_simp;refine HE.out.mono ?_;rintro r w5⟨d5,rfl,p5⟩;unfold aT;exact⟨rfl,d5.fJ,rfl,p5⟩
 |ok x=>
  rw[ho]at HN;have HE:ag (Calls ah 189 #[.pointer (some ⟨b,0,none⟩),.pointer (some ⟨P,1,none⟩)] w.drew fun r w'=>cG w0.heap.size w.drew w'∧(r=.returned (.tuple #[])∧∃k' uv' V',Rs w' b P k' n lv uv' ws∧Pm w0.heap.size w' P uv' V' x)):=ae (HN.mono fun r w'⟨h1,h2,_⟩=>⟨h1,h2⟩);clear HN ho;go_enter Tryz.func190,Tryz.ntmps190;refine wp_region_held_drew (S:=(fun w'=>w'.cell? ⟨c,0,none⟩=some (.pointer (some ⟨b,0,none⟩))∧w'.cell? ⟨b,2,none⟩=some (.pointer (some ⟨P,0,none⟩)))) bo (⟨x0,x2⟩) (fun hHeld=>?_);refine bC 0 ?_
  refine bC 1 ?_
  refine bC 2 ?_
  refine bC 3 ?_
  refine bC 4 ?_
  refine bC 5 ?_
  refine bC 6 ?_
  refine jg 7 fun K hK=>?_;go_simp;refine HE.out.mono ?_;rintro r w5⟨d5,rfl,k',uv',V',R5,M5⟩;have y0:=(HC.out.off d5.fJ cG.off aH).cell 0;have y2:=R5.blk.cell 2;simp at y0 y2;refine hK.out _ _ (⟨y0,y2⟩) (fun hHeld=>?_);clear hK K;try simp only[cN]
  refine qW ?_;refine⟨rfl,_,results_none rfl _ _ _,d5.fJ,⟨rfl,_,_,_,R5,M5⟩,fun e he=>(by cases he)⟩
theorem catch_idle(P F:Nat)(w:World):CallsD ah 159 #[.pointer (some ⟨P,0,none⟩),.pointer (some ⟨F,0,none⟩)] .returning w fun e u' w'=>e=.returned (.tuple #[])∧u'=.returning∧w'=w:=by
 refine callsD_of_wpS Tryz.func159 rfl fun c₀ cs hu=>?_
 apply wpS_seq;apply wpS_region;simp[wpOpsS,go_sem,recoverD,hu,Tryz.ntmps159,Exit.thenS];apply wpS_seq;apply wpS_region;simp[wpOpsS,go_sem,Exit.thenS];refine wpS_cond (t:=false) (by simp[Act.eval,Array.replicate]) ?_;simp only[Bool.false_eq_true,if_false];refine wpS_of_wp (wp_skip ?_);cases c₀;simp_all [bodyPostS,results,Tryz.results159]
theorem acx{w:World}{g:Nat}{t:TypeId}{z0 z1 z2 z3:Value}(v0 v1 v2 v3:Value)(h:aG w g t #[z0,z1,z2,z3]):aG ((((w.setCell ⟨g,0,none⟩ v0).setCell ⟨g,1,none⟩ v1).setCell ⟨g,2,none⟩ v2).setCell ⟨g,3,none⟩ v3) g t #[v0,v1,v2,v3]∧Keeps (fun x=>x=g) w ((((w.setCell ⟨g,0,none⟩ v0).setCell ⟨g,1,none⟩ v1).setCell ⟨g,2,none⟩ v2).setCell ⟨g,3,none⟩ v3):=⟨(((h.aL 0 v0).aL 1 v1).aL 2 v2).aL 3 v3,((((Keeps.refl (fun x=>x=g) w).setCell (p:=⟨g,0,none⟩) (Or.inl rfl) v0).setCell (p:=⟨g,1,none⟩) (Or.inl rfl) v1).setCell (p:=⟨g,2,none⟩) (Or.inl rfl) v2).setCell (p:=⟨g,3,none⟩) (Or.inl rfl) v3⟩
theorem acy{w:World}{g:Nat}{t:TypeId}{z0 z1 z2:Value}(v0 v1 v2:Value)(h:aG w g t #[z0,z1,z2]):aG (((w.setCell ⟨g,0,none⟩ v0).setCell ⟨g,1,none⟩ v1).setCell ⟨g,2,none⟩ v2) g t #[v0,v1,v2]∧Keeps (fun x=>x=g) w (((w.setCell ⟨g,0,none⟩ v0).setCell ⟨g,1,none⟩ v1).setCell ⟨g,2,none⟩ v2):=⟨((h.aL 0 v0).aL 1 v1).aL 2 v2,(((Keeps.refl (fun x=>x=g) w).setCell (p:=⟨g,0,none⟩) (Or.inl rfl) v0).setCell (p:=⟨g,1,none⟩) (Or.inl rfl) v1).setCell (p:=⟨g,2,none⟩) (Or.inl rfl) v2⟩
theorem catch_panicking(P F e n i:Nat)(w:World)(older:List PanicEntry){p0 p1 p2 p3 f0 f1 f2:Value}(hP:aG w P 169 #[p0,p1,p2,p3])(hF:aG w F 171 #[f0,f1,f2])(hPF:P≠F):CallsD ah 159 #[.pointer (some ⟨P,0,none⟩),.pointer (some ⟨F,0,none⟩)] (.panicking ({v:=.iface 203 (.agg #[.int .i64 e,.int .i64 n,.int .i64 i]),recovered:=false}::older)) w fun r u' w'=>r=.returned (.tuple #[])∧u'=.panicking ({v:=.iface 203 (.agg #[.int .i64 e,.int .i64 n,.int .i64 i]),recovered:=true}::older)∧Keeps (fun k=>k=P∨k=F) w w'∧aG w' P 169 #[au,au,au,au]∧aG w' F 171 #[.int .i64 e,.int .i64 n,.int .i64 i]:=by
 refine callsD_of_wpS Tryz.func159 rfl fun c₀ cs hu=>?_
 apply wpS_seq;apply wpS_region;simp[wpOpsS,go_sem,recoverD,hu,Tryz.ntmps159,Exit.thenS];refine wpS_of_wp ?_;change Code.wp _ _ _ {tmps:= #[.pointer (some ⟨P,0,none⟩),.pointer (some ⟨F,0,none⟩),.iface 203 (.agg #[.int .i64 e,.int .i64 n,.int .i64 i]),undef,undef,.iface 203 (.agg #[.int .i64 e,.int .i64 n,.int .i64 i]),undef,undef,undef,undef,undef,undef,undef,undef,undef,undef,undef,undef,undef],defers:=[]} w;have hta:∀w:World,(Instr.typeAssert (.iface 203 (.agg #[.int .i64 e,.int .i64 n,.int .i64 i])) 20 203 true).run ah w=.ok (.tuple #[.agg #[.int .i64 e,.int .i64 n,.int .i64 i],.bool true]) w:=fun _=>by kernel_rfl
 clear hu;go_upto_region 5 with fail
 have NB:=aG.new w 203 #[.int .i64 e,.int .i64 n,.int .i64 i];have d1:=boxed w (.cells #[.int .i64 e,.int .i64 n,.int .i64 i] 203);have hP1:=hP.below d1 hP.lt;have hF1:=hF.below d1 hF.lt;have KD:Keeps (fun k=>k=P∨k=F) w (w.alloc (.cells #[.int .i64 e,.int .i64 n,.int .i64 i] 203)):=Keeps.of_below d1 fun k hk _=>hk
 have hPl:=hP.lt;have O6:=hF.lt;generalize w.alloc (.cells #[.int .i64 e,.int .i64 n,.int .i64 i] 203)=w1 at NB hP1 hF1 KD⊢;generalize w.heap.size=N at NB hPl O6⊢;clear d1 hP hF;have n0:=NB.cell 0;have n1:=NB.cell 1;have n2:=NB.cell 2;have x0:w1.cell? ⟨P,0,none⟩=_:=hP1.cell 0;have x1:w1.cell? ⟨P,1,none⟩=_:=hP1.cell 1;have x2:w1.cell? ⟨P,2,none⟩=_:=hP1.cell 2;have x3:w1.cell? ⟨P,3,none⟩=_:=hP1.cell 3;have z0:w1.frozen? ⟨P,0,none⟩=false:=hP1.frozen 0;have z1:w1.frozen? ⟨P,1,none⟩=false:=hP1.frozen 1;have z2:w1.frozen? ⟨P,2,none⟩=false:=hP1.frozen 2;have z3:w1.frozen? ⟨P,3,none⟩=false:=hP1.frozen 3;obtain⟨PB,KP⟩:=acx (w:=w1) au au au au hP1;obtain⟨W4,Ut⟩:=bq ((((w1.setCell ⟨P,0,none⟩ au).setCell ⟨P,1,none⟩ au).setCell ⟨P,2,none⟩ au).setCell ⟨P,3,none⟩ au);rw[←Ut]at PB KP;have HW4:=ae Ut;clear Ut;have FB:=aG.keep (show aG w1 F _ _ from hF1) KP (fun e=>hPF e.symm);have Yc:=aG.keep (show aG w1 N _ _ from NB) KP aQ;simp at n0 n1 n2 x0 x1 x2 x3;have m0:=Yc.cell 0;have m1:=Yc.cell 1;have m2:=Yc.cell 2;have y0:=FB.cell 0;have y1:=FB.cell 1;have y2:=FB.cell 2;have u0:=FB.frozen 0;have u1:=FB.frozen 1;have u2:=FB.frozen 2;simp at m0 m1 m2 y0 y1 y2;obtain⟨vZ,KF⟩:=acy (.int .i64 e) (.int .i64 n) (.int .i64 i) FB;obtain⟨W7,hW7⟩:=bq (((W4.setCell ⟨F,0,none⟩ (.int .i64 e)).setCell ⟨F,1,none⟩ (.int .i64 n)).setCell ⟨F,2,none⟩ (.int .i64 i));rw[←hW7]at vZ KF;have HW7:=ae hW7;clear hW7;obtain⟨HFB,HPB⟩:=aN vZ (PB.keep KF hPF);have HK:=ae (((KD.trans (KP.mono (T:=fun k=>k=P∨k=F) fun k _ hk=>Or.inl hk)).trans (KF.mono fun k _ hk=>Or.inr hk)).drew);have PY:=Yc.keep KF aQ;have o0:=PY.cell 0;have o1:=PY.cell 1;have o2:=PY.cell 2;simp at o0 o1 o2;clear vZ PB KF KP KD NB Yc PY FB hP1 hF1;refine wp_region_held_drew (S:=(fun w'=>w'.cell? ⟨N,0,none⟩=some (.int .i64 e)∧w'.cell? ⟨N,1,none⟩=some (.int .i64 n)∧w'.cell? ⟨N,2,none⟩=some (.int .i64 i))) bo (⟨n0,n1,n2⟩) (fun hHeld=>?_);refine bC 0 ?_
 refine bC 1 ?_
 refine bC 2 ?_
 refine jg 3 fun K hK=>?_;go_simp;rw[←HW4.out];refine hK.out _ _ (⟨m0,m1,m2⟩) (fun hHeld=>?_);clear hK K;try simp only[cN]
 refine jg 4 fun K hK=>?_;go_simp;rw[←HW7.out];refine hK.out _ _ (⟨o0,o1,o2⟩) (fun hHeld=>?_);clear hK K;try simp only[cN]
 refine qW ?_;exact⟨rfl,_,rfl,_,results_none rfl _ _ _,rfl,rfl,HK.out,HPB.out,HFB.out⟩
theorem Qd(l:List UInt8):(oZ l).length≤l.length+1∧∀s∈oZ l,s.size≤l.length:=by
 have h:=rK l [];unfold oZ fieldsB;constructor
 ·rw[ay];have:=(List.takeWhile_prefix il (l:=fieldsGo [] l)).length_le;omega
 ·intro s hs;obtain⟨x,hx,rfl⟩:=List.mem_map.1 hs;have:=h.2 x ((List.takeWhile_prefix il).subset hx);show(x.toArray).size≤l.length;rw[List.size_toArray];simpa using this
theorem MZ{w:World}{g:Nat}{v0 v1 v2 v3:Value}(h:aG w g 169 #[v0,v1,v2,v3]):(loadVar 169 ⟨g,0,none⟩).run ah w=.ok (.agg #[v0,v1,v2,v3]) w:=by
 have c0:=h.cell 0;have c1:=h.cell 1;have c2:=h.cell 2;have c3:=h.cell 3;simp at c0 c1 c2 c3;simp[loadVar,go_sem,c0,c1,c2,c3]
theorem M9{w:World}{g:Nat}{v0 v1 v2:Value}(h:aG w g 171 #[v0,v1,v2]):(loadVar 171 ⟨g,0,none⟩).run ah w=.ok (.agg #[v0,v1,v2]) w:=by
 have c0:=h.cell 0;have c1:=h.cell 1;have c2:=h.cell 2;simp at c0 c1 c2;simp[loadVar,go_sem,c0,c1,c2]
def ei(s:List UInt8)(w:World)(r:Ending)(w':World):Prop:=(∃V:vY,r=.returned (.tuple #[.agg #[V.g,V.t,V.h,V.a],.agg #[.int .i64 ((iV s).2.1:Int),.int .i64 ((iV s).2.2.1:Int),.int .i64 ((iV s).2.2.2:Int)]])∧vH w' V (iV s).1)∧aW w w'
theorem rX.nil(w:World):rX w au []:=⟨[],rfl,aY.empty _ _,fun x hx=>by cases hx⟩
theorem zB.nil(w:World):zB w au []:=⟨[],rfl,aY.empty _ _,fun x hx=>by cases hx⟩
theorem vH.zero(w:World):vH w ⟨au,au,au,au⟩ Po.zero:=⟨rX.nil w,rX.nil w,aY.empty w 5,zB.nil w⟩
theorem ei.bad{s:List UInt8}{w w':World}{e n i:Nat}(h:iV s=(Po.zero,(e,n,i)))(hb:aW w w'):ei s w (.returned (.tuple #[.agg #[au,au,au,au],.agg #[.int .i64 e,.int .i64 n,.int .i64 i]])) w':=by
 unfold ei;rw[h];exact⟨⟨⟨au,au,au,au⟩,rfl,vH.zero w'⟩,hb⟩
theorem ei.good{s:List UInt8}{w w':World}{p:Po}{V:vY}(h:iV s=(p,(0,0,0)))(hr:vH w' V p)(hb:aW w w'):ei s w (.returned (.tuple #[.agg #[V.g,V.t,V.h,V.a],.agg #[.int .i64 0,.int .i64 0,.int .i64 0]])) w':=by
 unfold ei;rw[h];exact⟨⟨V,rfl,hr⟩,hb⟩
def endP(r:Except Flt qK):Po×Flt:=match r with
 | .error e=>(Po.zero,e)
 | .ok b=>match b.used.find? fun u=> !iC b.p u.1 with
   |some u=>(Po.zero,(196,u.2))
   |none=>(b.p,(0,0,0))
def Uu(b:qK)(o:Option Us):Po×Flt:=match o with
 |some u=>(Po.zero,(196,u.2))
 |none=>(b.p,(0,0,0))
theorem ZB(b:qK):endP (.ok b)=Uu b (b.used.find? fun u=> !iC b.p u.1):=by
 unfold endP Uu;rfl
theorem Uw{b:qK}{k:Nat}{u:Us}(h:b.used[k]? =some u):(b.used.drop k).find? (fun u=> !iC b.p u.1)=if iC b.p u.1=true then(b.used.drop (k+1)).find? (fun u=> !iC b.p u.1)else some u:=by
 have hk:k<b.used.length:=(List.getElem?_eq_some_iff.1 h).1;rw[bR hk,(List.getElem?_eq_some_iff.1 h).2,List.find?_cons];cases iC b.p u.1<;>rfl
theorem Qe{s:List UInt8}(h:¬8192<s.length):iV s=endP (rc (dr 10 s) 1 ⟨Po.zero,[]⟩):=by
 unfold iV;rw[if_neg h];rfl
theorem rr{tmps:Array Value}{w:World}{P F:Nat}{V v2:Value}(h1:tmps.getD 2 undef=.pointer (some ⟨P,0,none⟩))(h2:tmps.getD 3 undef=.pointer (some ⟨F,0,none⟩))(hl:(loadVar 169 ⟨P,0,none⟩).run ah w=.ok V w)(hl2:(loadVar 171 ⟨F,0,none⟩).run ah w=.ok v2 w):(results Tryz.f128 tmps).run ah w=.ok (.tuple #[V,v2]) w:=by
 have h1':tmps[2]?.getD undef=.pointer (some ⟨P,0,none⟩):=by simpa using h1
 have h2':tmps[3]?.getD undef=.pointer (some ⟨F,0,none⟩):=by simpa using h2
 have hres:Tryz.f128.results= #[.cell 2 169,.cell 3 171]:=rfl;simp[results,hres,h1',h2',asAddr,hl,hl2]
theorem ln{w:World}{tmps:Array Value}{P F e n i:Nat}{R:Ending→World→Prop}{p0 p1 p2 p3 f0 f1 f2:Value}(h2:tmps.getD 2 undef=.pointer (some ⟨P,0,none⟩))(h3:tmps.getD 3 undef=.pointer (some ⟨F,0,none⟩))(hP:aG w P 169 #[p0,p1,p2,p3])(hF:aG w F 171 #[f0,f1,f2])(hPF:P≠F)(hR:∀w',Keeps (fun k=>k=P∨k=F) w w'→R (.returned (.tuple #[.agg #[au,au,au,au],.agg #[.int .i64 e,.int .i64 n,.int .i64 i]])) w'):Leaves ah Tryz.f128 tmps R [{target:=.fn (.func 159) #[.pointer (some ⟨P,0,none⟩),.pointer (some ⟨F,0,none⟩)],args:= #[]}] (.panicking [{v:=.iface 203 (.agg #[.int .i64 e,.int .i64 n,.int .i64 i]),recovered:=false}]) w:=by
 refine leaves_cons (f:=159) (args:= #[.pointer (some ⟨P,0,none⟩),.pointer (some ⟨F,0,none⟩)]) (by simp) (by simp[go_sem]) ?_;refine(catch_panicking P F e n i w [] hP hF hPF).mono ?_;rintro r u' w'⟨rfl,rfl,hk,hp,hf⟩;show Leaves _ _ _ _ [] .returning w';exact⟨_,rr h2 h3 (MZ hp) (M9 hf),hR w' hk⟩
theorem uS{w:World}{tmps:Array Value}{P F:Nat}{R:Ending→World→Prop}{V v2:Value}(h2:tmps.getD 2 undef=.pointer (some ⟨P,0,none⟩))(h3:tmps.getD 3 undef=.pointer (some ⟨F,0,none⟩))(hl:(loadVar 169 ⟨P,0,none⟩).run ah w=.ok V w)(hl2:(loadVar 171 ⟨F,0,none⟩).run ah w=.ok v2 w)(hR:R (.returned (.tuple #[V,v2])) w):Leaves ah Tryz.f128 tmps R [{target:=.fn (.func 159) #[.pointer (some ⟨P,0,none⟩),.pointer (some ⟨F,0,none⟩)],args:= #[]}] .returning w:=by
 refine leaves_cons (f:=159) (args:= #[.pointer (some ⟨P,0,none⟩),.pointer (some ⟨F,0,none⟩)]) (by simp) (by simp[go_sem]) ?_;refine(catch_idle P F w).mono ?_;rintro r u' w'⟨rfl,rfl,rfl⟩;show Leaves _ _ _ _ [] .returning w';exact⟨_,rr h2 h3 hl hl2,hR⟩
theorem FU{P:Program}{fn:Func}{t1 t2:Array Value}{R:Ending→World→Prop}(hr:results fn t1=results fn t2):∀(ds:List Deferred)(u:FrameMode)(w:World),Leaves P fn t1 R ds u w→Leaves P fn t2 R ds u w:=by
 intro ds
 induction ds with
 |nil=>
  intro u w h;cases u with
  |run=>exact h
  |returning=>obtain⟨v,h1,h2⟩:=h;exact⟨v,hr▸h1,h2⟩
  |panicking c=>exact h
 |cons d ds ih=>
  intro u w h;obtain⟨h1,fv,cap,f,args,h2,h3,h4⟩:=h;refine⟨h1,fv,cap,f,args,h2,h3,h4.mono fun e u' w' he=>?_⟩;cases e with
  |returned v=>exact ih _ _ he
  |panicked c=>exact ih _ _ he
  |outgrown=>exact he
theorem gX{d:Nat}(h2:d≠2)(h3:d≠3){a:Act}{v:Value}{R:Ending→World→Prop}{u:FrameMode}{w:World}(h:Leaves ah Tryz.f128 (a.tmps.setIfInBounds d v) R a.defers u w):Leaves ah Tryz.f128 a.tmps R a.defers u w:=by
 refine FU ?_ _ _ _ h;have hres:Tryz.f128.results= #[.cell 2 169,.cell 3 171]:=rfl;unfold results;rw[hres];simp[Array.getElem?_setIfInBounds,h2,h3]
theorem fx.off{S:Nat→Prop}{w w':World}{T:List TypeId}{base:Nat}{v:Value}{l:List Nm}(h:fx w base v l)(hk:Keeps S w w')(ho:Off S w T)(h0:280∉T)(h1:9∉T):fx w' base v l:=by
 obtain⟨xs,e,ha,hb⟩:=h;exact⟨xs,e,bj ha hk ho h0,fun x hx=>bj (hb x hx) hk ho h1⟩
structure ZC(base:Nat)(w:World)(V:vY)(p:Po):Prop where
 g:fx w base V.g p.groups
 t:fx w base V.t p.tags
 h:w.ownsRow base 282 5 V.h p.hosts.length (fw p.hosts)
 a:iz w base V.a p.lM
theorem Pm.rows{base P:Nat}{w:World}{uv:Value}{V:vY}{ed:qK}(m:Pm base w P uv V ed):ZC base w V ed.p:=⟨m.g,m.t,m.h,m.a⟩
theorem ZC.below{base:Nat}{w w':World}{V:vY}{p:Po}(m:ZC base w V p)(hb:aW w w'):ZC base w' V p:=⟨m.g.below hb,m.t.below hb,own_below m.h hb,m.a.below hb⟩
theorem ZC.off{S:Nat→Prop}{T:List TypeId}{base:Nat}{w w':World}{V:vY}{p:Po}(m:ZC base w V p)(hk:Keeps S w w')(ho:Off S w T)(h0:280∉T)(h1:9∉T)(h2:282∉T)(h3:288∉T)(h4:5∉T)(h5:220∉T)(h6:293∉T):ZC base w' V p:=⟨m.g.off hk ho h0 h1,m.t.off hk ho h0 h1,bj m.h hk ho h2,m.a.off hk ho h3 h4 h5 h6⟩
theorem ZC.rd{base:Nat}{w:World}{V:vY}{p:Po}(m:ZC base w V p):vH w V p:=⟨m.g.rd,m.t.rd,aY.dh m.h,m.a.rd⟩
theorem Pm.below{base P:Nat}{w w':World}{uv:Value}{V:vY}{ed:qK}(m:Pm base w P uv V ed)(hb:aW w w'):Pm base w' P uv V ed:=⟨m.blk.below hb m.blk.lt,m.g.below hb,m.t.below hb,own_below m.h hb,m.a.below hb,m.u.below hb,m.sep,m.gl,m.tl,m.hl,m.al,m.ul⟩
theorem Pm.reader{S:Nat→Prop}{base P:Nat}{w w':World}{uv:Value}{V:vY}{ed:qK}(m:Pm base w P uv V ed)(hk:Keeps S w w')(ho:Off S w [210]):Pm base w' P uv V ed:=⟨m.blk.off hk ho aH,m.g.off hk ho aH aH,m.t.off hk ho aH aH,bj m.h hk ho aH,m.a.off hk ho aH aH aH aH,m.u.off hk ho aH,m.sep,m.gl,m.tl,m.hl,m.al,m.ul⟩
theorem Pm.nil{base P:Nat}{w:World}(h:aG w P 169 #[au,au,au,au]):Pm base w P au ⟨au,au,au,au⟩ ⟨Po.zero,[]⟩:=⟨h,fx.nil _ _,fx.nil _ _,bg _ _ _ _,iz.nil _ _,fh.nil _ _,fun x hx=>(by cases hx),by decide,by decide,by decide,by decide,by decide⟩
theorem JU:∀(l:List (Us×ByteArray))(k:Nat)(x:Us×ByteArray),l[k]? =some x→(gg l)[k*9]? =some (.int .u8 (x.1.1.kind:Int))∧(gg l)[k*9+1]? =some (.string x.1.1.name)∧(gg l)[k*9+2]? =some (.bool x.1.1.net.a.v6)∧(gg l)[k*9+3]? =some (.int .u64 (x.1.1.net.a.hi:Int))∧(gg l)[k*9+4]? =some (.int .u64 (x.1.1.net.a.lo:Int))∧(gg l)[k*9+5]? =some (.int .u8 (x.1.1.net.bits:Int))∧(gg l)[k*9+6]? =some (.string x.2)∧(gg l)[k*9+7]? =some (.int .i64 (x.1.2.1:Int))∧(gg l)[k*9+8]? =some (.int .i64 (x.1.2.2:Int)):=by
 intro l
 induction l with
 |nil=>intro k x h;cases h
 |cons y r ih=>
  intro k x h;cases k with
  |zero=>injection h with h;subst h;exact⟨rfl,rfl,rfl,rfl,rfl,rfl,rfl,rfl,rfl⟩
  |succ k=>
   rw[show(k+1)*9=k*9+1+1+1+1+1+1+1+1+1 by omega];exact ih k x h
theorem rY{w:World}{m clock c b:Nat}(h:eW w m (FQ c b) clock):(Instr.lookup 214 (.map (some m)) (.string fG) true).run ah w=.ok (.tuple #[.func (.func 188) #[] #[.pointer (some ⟨c,0,none⟩)],.bool true]) w∧(Instr.lookup 214 (.map (some m)) (.string kF) true).run ah w=.ok (.tuple #[.func (.func 190) #[] #[.pointer (some ⟨c,0,none⟩)],.bool true]) w∧(Instr.lookup 214 (.map (some m)) (.string iU) true).run ah w=.ok (.tuple #[.func (.func 191) #[.pointer (some ⟨b,0,none⟩)] #[],.bool true]) w∧(Instr.lookup 214 (.map (some m)) (.string jk) true).run ah w=.ok (.tuple #[.func (.func 192) #[.pointer (some ⟨b,0,none⟩)] #[],.bool true]) w:=by
 have hT:=Tryz.underlying214;have hK:=bn;exact⟨jZ hT hK h fG (j:=0) (by rfl) rfl,jZ hT hK h kF (j:=1) (by rfl) rfl,jZ hT hK h iU (j:=2) (by rfl) rfl,jZ hT hK h jk (j:=3) (by rfl) rfl⟩
theorem Ux{w:World}{m clock c b:Nat}(h:eW w m (FQ c b) clock){x:ByteArray}(h1:x≠fG)(h2:x≠kF)(h3:x≠iU)(h4:x≠jk):(Instr.lookup 214 (.map (some m)) (.string x) true).run ah w=.ok (.tuple #[.nilFunc,.bool false]) w:=by
 refine rf Tryz.underlying214 bn h x ?_ bo;unfold at_ FQ;simp only[List.findIdx?_cons,List.findIdx?_nil];rw[dB (Ne.symm h1),dB (Ne.symm h2),dB (Ne.symm h3),dB (Ne.symm h4)];rfl
end Go.Proofs.YtkjaajcpbldjoaaGreatDoor
