/- Joined out of: PlP. -/
import Derived.Test.YtdfnhljccdoncaaGreatDoorNai
set_option linter.unusedVariables false
set_option linter.unusedSimpArgs false
set_option maxHeartbeats 16000000
set_option maxRecDepth 100000
open Go.Lib renaming hid→ae
open Go.Proofs.Tryz renaming prog→ai
open Go.RowKit renaming Hid→af
open Go.Value renaming slice→iC
open Go.World renaming ownsRow_nil→bK
open List renaming length_append→aj,length_map→ay,append_assoc→aZ,drop_eq_getElem_cons→bP,map_append→eT,mem_of_getElem?→rX,drop_eq_nil_of_le→sU,length_drop→Z5,getElem?_eq_none_iff→agx
open Nat renaming le_trans→ax
namespace Go.Proofs.YtdfnhljccdoncaaGreatDoor
open Go.RowKit
attribute [local go_sem↓] Go.wp_at_zero Go.wp_at_succ
abbrev QC:=Except Bad (Ac×List (jC×Nat))
def qq(ws:List ByteArray)(ps:List Nat)(src dst:List (jC×Nat)):List ByteArray→QC
 |[]=>.ok (⟨ps,src.map (·.1),dst.map (·.1),[]⟩,src++dst)
 |_::r5=>if r5=[]then .error (190,ws.length)else(iH r5 (ws.length-r5.length) 0).map fun po=>(⟨ps,src.map (·.1),dst.map (·.1),po⟩,src++dst)
def qs(ws:List ByteArray)(ps:List Nat)(src:List (jC×Nat)):List ByteArray→QC
 |[]=>.error (190,ws.length)
 |_::r3=>match dx l9 r3 (ws.length-r3.length) 0 with
  | .error e=>.error e
  | .ok y=>qq ws ps src y.1 y.2
theorem GQ{ws:List ByteArray}{told:Nat}(hne:ws≠[]):kA ws told=if 64≤told then .error (198,0)else match ws[1]? with
 |none=>.error (190,ws.length)
 |some pr=>match gV pr with
  |none=>.error (194,1)
  |some ps=>match ws[2]? with
   |none=>.error (190,ws.length)
   |some f=>if f≠uR then .error (190,2)else match dx Lj (ws.drop 3) 3 0 with
    | .error e=>.error e
    | .ok x=>qs ws ps x.1 x.2:=by
 unfold kA;by_cases h:64≤told
 ·rw[if_pos h,if_pos h]
 rw[if_neg h,if_neg h]
 match ws with
 |[]=>exact absurd rfl hne
 |[a]=>rfl
 |[a,pr]=>simp only[List.getElem?_cons_succ,List.getElem?_cons_zero,List.getElem?_nil];cases gV pr<;>rfl
 |a::pr::f::r=>
  simp only[List.getElem?_cons_succ,List.getElem?_cons_zero,List.drop_succ_cons,List.drop_zero];cases gV pr with
  |none=>rfl
  |some ps=>
   simp only;by_cases hf:f≠uR
   ·rw[if_pos hf,if_pos hf]
   rw[if_neg hf,if_neg hf];cases dx Lj r 3 0 with
   |error e=>rfl
   |ok x=>
    obtain⟨src,r2⟩:=x;cases r2 with
    |nil=>rfl
    |cons t r3=>
     unfold qs;simp only;cases dx l9 r3 ((a::pr::f::r).length-r3.length) 0 with
     |error e=>rfl
     |ok y=>
      obtain⟨dst,r4⟩:=y;cases r4<;>rfl
theorem zJ{ws:List ByteArray}{ps:List Nat}{src:List (jC×Nat)}{k:Nat}(hk:k<ws.length):qs ws ps src (ws.drop k)=match dx l9 (ws.drop (k+1)) (k+1) 0 with
 | .error e=>.error e
 | .ok y=>qq ws ps src y.1 y.2:=by
 rw[bP hk];unfold qs;dsimp only;rw[Z5,show ws.length-(ws.length-(k+1))=k+1 by omega]
theorem zK{ws:List ByteArray}{ps:List Nat}{src:List (jC×Nat)}{k:Nat}(hk:ws.length≤k):qs ws ps src (ws.drop k)=.error (190,ws.length):=by
 rw[sU hk];rfl
theorem sZ(n:Nat)(a b:List (jC×Nat)):jP n (a++b)=jP n a++jP n b:=by simp[jP]
def jY(ws:List ByteArray)(k:Nat)(acc:List (Nat×Nat))(first:Bool):Except Bad (List (Nat×Nat)):=if first=true∧ws.length≤k then .error (190,ws.length)else(iH (ws.drop k) k acc.length).map (acc++·)
theorem tc{s:ByteArray}{ws:List ByteArray}{k:Nat}{acc:List (Nat×Nat)}{first:Bool}(h:ws[k]? =some s):jY ws k acc first=match kU s with
 |none=>.error (193,k)
 |some x=>if 64≤acc.length then .error (198,k)else jY ws (k+1) (acc++[x]) false:=by
 have hk:k<ws.length:=(List.getElem?_eq_some_iff.1 h).1;have hg:ws[k]=s:=(List.getElem?_eq_some_iff.1 h).2;unfold jY;rw[if_neg (show¬(first=true∧ws.length≤k) by omega),bP hk,hg]
 conv=>lhs;unfold iH
 cases kU s with
 |none=>rfl
 |some x=>
  simp only;rw[if_neg (show¬(false=true∧ws.length≤k+1) by simp)];by_cases h2:64≤acc.length
  ·rw[if_pos h2,if_pos h2];rfl
  rw[if_neg h2,if_neg h2,aj,List.length_singleton];cases iH (List.drop (k+1) ws) (k+1) (acc.length+1)with
  |error e=>rfl
  |ok l=>simp[Except.map]
theorem GU{ws:List ByteArray}{k:Nat}{acc:List (Nat×Nat)}(h:ws.length≤k):jY ws k acc false=.ok acc:=by
 unfold jY;rw[if_neg (by simp),sU h];simp[iH,Except.map]
theorem Dq{ws:List ByteArray}{k:Nat}{acc:List (Nat×Nat)}(h:ws.length≤k):jY ws k acc true=.error (190,ws.length):=by
 unfold jY;rw[if_pos ⟨rfl,h⟩]
theorem zL{ws:List ByteArray}{ps:List Nat}{src dst:List (jC×Nat)}{k:Nat}(hk:k<ws.length):qq ws ps src dst (ws.drop k)=(jY ws (k+1) [] true).map fun po=>(⟨ps,src.map (·.1),dst.map (·.1),po⟩,src++dst):=by
 rw[bP hk];unfold qq jY;dsimp only;by_cases h:ws.length≤k+1
 ·rw[if_pos (sU h),if_pos ⟨rfl,h⟩];rfl
 ·rw[if_neg (show¬List.drop (k+1) ws=[]from fun e=>h (by rw[List.drop_eq_nil_iff]at e;exact e)),if_neg (show¬(true=true∧ws.length≤k+1)from fun e=>h e.2),Z5,show ws.length-(ws.length-(k+1))=k+1 by omega];simp only[List.length_nil,List.nil_append];cases iH (List.drop (k+1) ws) (k+1) 0<;>rfl
theorem Dt{en:ByteArray}:∀(l:List ByteArray)(i c:Nat)(L:List (jC×Nat))(t:List ByteArray),dx en l i c=.ok (L,t)→(∃p,l=p++t)∧∀s r,t=s::r→s=en:=by
 intro l
 induction l with
 |nil=>
  intro i c L t h;rw[dx]at h;split at h
  ·cases h
  injection h with h
  injection h with h2 h3
  subst h3;exact⟨⟨[],rfl⟩,fun s r h=>(by cases h)⟩
 |cons w r ih=>
  intro i c L t h;rw[dx]at h;split at h
  ·next h1=>
   injection h with h
   injection h with h2 h3
   subst h3;exact⟨⟨[],rfl⟩,fun s r h=>by injection h with h _;rw[←h];exact h1.1⟩
  ·split at h
   ·cases h
   ·next s hs=>
    split at h
    ·cases h
    next h2=>
    cases hr:dx en r (i+1) (c+1)with
    |error e=>rw[hr]at h;cases h
    |ok q=>
     rw[hr]at h;injection h with h
     injection h with h3 h4
     obtain⟨⟨p,e1⟩,e2⟩:=ih _ _ q.1 q.2 hr;rw[←h4];exact⟨⟨w::p,by rw[e1];rfl⟩,e2⟩
theorem JA{en:ByteArray}{ws:List ByteArray}{i:Nat}{L:List (jC×Nat)}{t:List ByteArray}(h:dx en (ws.drop i) i 0=.ok (L,t)):t=ws.drop (ws.length-t.length)∧∀s,ws[ws.length-t.length]? =some s→s=en:=by
 obtain⟨⟨p,e⟩,h2⟩:=Dt _ _ _ _ _ h;have hd:t=ws.drop (ws.length-t.length):=by
  have e3:ws=(ws.take i++p)++t:=by rw[aZ,←e,List.take_append_drop]
  have hl:(ws.take i++p).length=ws.length-t.length:=by
   have:=congrArg List.length e3;rw[aj]at this;omega
  have:(ws.take i++p++t).drop (ws.take i++p).length=t:=List.drop_left;rw[←e3,hl]at this;exact this.symm
 refine⟨hd,fun s hs=>?_⟩;have hk:=(List.getElem?_eq_some_iff.1 hs).1;rw[bP hk,(List.getElem?_eq_some_iff.1 hs).2]at hd;exact h2 _ _ hd
theorem Keeps.then_{S T:Nat→Prop}{a b c:World}(h:Keeps T a b)(k:Keeps S b c)(hs:∀x,S x→T x∨a.heap.size≤x):Keeps T a c:=⟨k.os.trans h.os,k.tape.trans h.tape,k.output.trans h.output,ax h.size k.size,fun x hx hT=>(k.block x (Nat.lt_of_lt_of_le hx h.size) (fun e=>by
 rcases hs x e with h|h
 ·exact hT h
 ·omega)).trans (h.block x hx hT)⟩
theorem gu.below{w w':World}{base:Nat}{v:Value}{l:List Ac}(h:gu w base v l)(hb:Below w.heap.size w w'):gu w' base v l:=by
 obtain⟨xs,e,ha,hm⟩:=h;exact⟨xs,e,own_below ha hb,fun x hx=>⟨own_below (hm x hx).p hb,own_below (hm x hx).s hb,own_below (hm x hx).d hb,own_below (hm x hx).o hb⟩⟩
theorem gu.off{S:Nat→Prop}{w w':World}{T:List TypeId}{base:Nat}{v:Value}{l:List Ac}(h:gu w base v l)(hk:Keeps S w w')(ho:Off S w T)(h0:306∉T)(h1:5∉T)(h2:245∉T)(h3:342∉T):gu w' base v l:=by
 obtain⟨xs,e,ha,hm⟩:=h;exact⟨xs,e,a8 ha hk ho h0,fun x hx=>(hm x hx).keep hk ho h1 h2 h3⟩
theorem ez.Ww{w:World}{base:Nat}{v:Value}{l:List Us}(h:ez w base v l):Off (fun k=>v.ownBlock=some k) w [249]:=by
 obtain⟨xs,_,ho⟩:=h;exact bY ho
def QD(w0 w:World)(b P n:Nat)(lv uv lst:Value)(ws:List ByteArray)(told:List Ac)(us:List Us)(pc:Array Value)(w':World)(x:Ac×List (jC×Nat))(r:Ending):Prop:=r=.returned (.tuple #[])∧∃k' lst' uv',Rs w' b P k' n lv uv' ws∧aG w' P 190 (pc.setIfInBounds 3 lst')∧gu w' w0.heap.size lst' (told++[x.1])∧ez w' w0.heap.size uv' (us++jP n x.2)∧(∀g,lst'.ownBlock=some g→lst.ownBlock=some g∨w.heap.size≤g)∧(∀g,uv'.ownBlock=some g→uv.ownBlock=some g∨w.heap.size≤g)∧x.2.length≤128
theorem GV{w0 w:World}(env:Env w0)(hE:Below w0.heap.size w0 w){b P n:Nat}{lv uv lst:Value}{ws:List ByteArray}{told:List Ac}{us:List Us}{pc:Array Value}(h:Rs w b P 1 n lv uv ws)(hP:aG w P 190 pc)(hq:pc[3]? =some lst)(hN:gu w w0.heap.size lst told)(hu:ez w w0.heap.size uv us)(hus:us.length≤3900000)(hbb:w0.heap.size≤b):Calls ai 248 #[.pointer (some ⟨b,0,none⟩)] w fun r w'=>dZ (fun x=>x=b∨uv.ownBlock=some x) (fun k=>k=b∨k=P∨lst.ownBlock=some k∨uv.ownBlock=some k) w w' (kA ws told.length) n (QD w0 w b P n lv uv lst ws told us pc w') r:=by
 obtain⟨A,cap,rfl⟩:=hN.shape;have hlen1:1≤ws.length:=by
  have:=h.ne;cases ws with
  |nil=>exact absurd rfl this
  |cons x r=>simp
 obtain⟨T,hT⟩:∃t,t=told.length:=⟨_,rfl⟩;rw[←hT]at hq hN⊢;have hPb:P≠b:=hP.xc h.blk aI;have c0:=(hP.cell 3).trans hq;have c1:=h.blk.cell 2;simp at c1;have hroom:=h.room aY aY T;rw[show EY 1 ws=0 by unfold EY;rw[if_pos hlen1]]at hroom;obtain⟨RES,dY⟩:∃r,r=kA ws T:=⟨_,rfl⟩;rw[←dY];rw[GQ h.ne]at dY;have hbs:w0.heap.size≤w.heap.size:=hE.size;have hUB:∀g,uv.ownBlock=some g→w0.heap.size≤g∧g<w.heap.size:=by
  obtain⟨xs,_,ho⟩:=hu;exact fun g hg=>ho.lt g hg
 obtain⟨HUB,jJ,RS,HP,US,HN,iZ,HT,HE,tM,HWl⟩:=af2 hUB hroom h hP hu hN dY hT hE env h.len;have FIN:af (∀wx,Keeps (fun x=>x=b∨uv.ownBlock=some x) w wx→Keeps (fun k=>k=b∨k=P∨(iC A T cap).ownBlock=some k∨uv.ownBlock=some k) w wx):=ae fun wx h=>h.mono fun k _ hs=>hs.elim Or.inl fun e=>Or.inr (Or.inr (Or.inr e))
 have Wx:af (Off (fun x=>x=b∨uv.ownBlock=some x) w [235,249]):=ae (fun k hk=>hk.elim (fun e=>⟨_,_,_,by subst e;exact RS.out.blk,by simp⟩) (fun e=>by obtain⟨cur,e2,fz,h1,h2⟩:=US.out.Ww k e;exact⟨cur,e2,fz,h1,by simp[List.mem_singleton.1 h2]⟩));have KP:=ae (Keeps.refl (fun x=>x=b∨uv.ownBlock=some x) w);clear hroom h hP hN dY hT hE env hu hUB;go_enter Tryz.func248,Tryz.ntmps248;go_wp2_with fail
 go_at_call 279;refine jJ.out.mono ?_;rintro r w1⟨h1,d1⟩;obtain⟨RS1,US1,QE⟩:=bO (RS.out.below d1) (US.out.below d1) (KP.out.trans (Keeps.of_below d1 fun k hk _=>hk));clear RS US KP;by_cases Df:T<64
 case neg=>
  rw[decide_eq_false Df]at h1;unfold eV at h1;subst h1;unfold aP;exact⟨rfl,dZ.bad (QE.out) (by rw[iZ.out,if_pos aY])⟩
 rw[decide_eq_true Df]at h1;unfold eV at h1;subst h1;have hR1:=iZ.out;rw[if_neg aY]at hR1;have HR1:=ae hR1;clear hR1 iZ jJ d1 c0 c1;go_upto_region 2 with fail
 have Vk:=ae (aG.new w1 306 #[.slice none 0 0,.slice none 0 0,.slice none 0 0,.slice none 0 0]);have d2:=boxed w1 (.cells #[.slice none 0 0,.slice none 0 0,.slice none 0 0,.slice none 0 0] 306);have QF:w.heap.size≤w1.heap.size:=QE.out.size;generalize w1.alloc (.cells #[.slice none 0 0,.slice none 0 0,.slice none 0 0,.slice none 0 0] 306)=w2 at Vk d2⊢;obtain⟨pG,Wl,xG⟩:=bO (RS1.out.below d2) (US1.out.below d2) (QE.out.trans (Keeps.of_below d2 fun k hk _=>hk));clear RS1 US1 QE;generalize w1.heap.size=N at Vk d2 QF⊢;clear d2;have htake:=pG.out.take hlen1;unfold iI at htake;have jK:=ae htake;clear htake;go_upto_region 3 with fail
 go_wp2_with fail
 go_at_call 209;refine jK.out.mono ?_;rintro r w3⟨⟨d3,e3⟩,h3⟩;have OB2:Off (fun x=>x=b) w2 [235]:=fun k hk=>⟨_,_,_,by subst hk;exact pG.out.blk,by simp⟩
 have Ff:=ae (xG.out.trans (d3.mono (T:=fun x=>x=b∨uv.ownBlock=some x) fun k _ hk=>Or.inl hk));have US3:=ae (Wl.out.off d3 OB2 aI);have ME:=ae (Vk.out.off d3 OB2 aI);clear Wl Vk;have RS3:=ae e3;clear pG xG d3 e3 OB2 jK;cases hs1:ws[1]? with
 |none=>
  rw[hs1]at h3;simp only at h3;subst h3;unfold aP;have hR:=HR1.out;rw[hs1]at hR;exact⟨rfl,dZ.bad (Ff.out) hR⟩
 |some pr=>
 rw[hs1]at h3;simp only at h3;subst h3;have hR2:=HR1.out;rw[hs1]at hR2;simp only at hR2;have HR2:=ae hR2;have hlt1:1<ws.length:=(List.getElem?_eq_some_iff.1 hs1).1;have aeH:pr.size≤2000000:=RS3.out.sizes pr (rX hs1);have hE3:=bN HE.out Ff.out (fun k hk=>hk.elim (fun e=>by subst e;exact hbb) fun e=>(HUB.out k e).1);have GX:=Gx (tM.out.below hE3) pr aeH;have x0:=ME.out.cell 0;have z0:=ME.out.frozen 0;simp at x0;clear hR2 HR1 hs1 hE3;unfold fA at GX;cases hps:gV pr with
 |none=>
  rw[hps]at GX;have QG:af (Calls ai 284 #[.string pr] w3 fun r w'=>r=.returned (.tuple #[.slice none 0 0,.bool false])∧Below w3.heap.size w3 w'):=ae GX;have hR:=HR2.out;rw[hps]at hR;have HR3:=ae hR;clear hR HR2 GX hps;go_upto_region 4 with(go_at_call 284;(with_reducible refine QG.out.mono ?_);rintro r w4⟨rfl,d4⟩;have QH:=ae (ME.out.below d4 ME.out.lt);have y0:=QH.out.cell 0;have yz:=QH.out.frozen 0;simp at y0)
  clear ME;obtain⟨Dn,Qx,tN⟩:=bO (RS3.out.below d4) (US3.out.below d4) (Ff.out.trans (Keeps.of_below d4 fun k hk _=>hk));clear RS3 US3 Ff;obtain⟨w5,hw5⟩:∃x,x=w4.setCell ⟨N,0,none⟩ (.slice none 0 0):=⟨_,rfl⟩;have Vl:Keeps (fun x=>x=N) w4 w5:=by rw[hw5];exact(Keeps.refl (fun x=>x=N) w4).setCell (p:=⟨N,0,none⟩) (Or.inl rfl) _
  have Zx:Off (fun x=>x=N) w4 [306]:=fun k hk=>⟨_,_,_,by subst hk;exact QH.out,by simp⟩
  have NB5:af (aG w5 N 306 #[.slice none 0 0,.slice none 0 0,.slice none 0 0,.slice none 0 0]):=ae (by rw[hw5];exact QH.out.aM 0 (.slice none 0 0));have BU:=ae (tN.out.then_ Vl fun x hx=>Or.inr (hx▸QF));rw[←hw5];clear hw5 QH tN;have pH:=ae (Dn.out.off Vl Zx aI aI);have Wm:=ae (Qx.out.off Vl Zx aI);clear Dn Qx;have hun:=pH.out.unless aY aY false 194;rw[dM hlt1]at hun;have jv:af (Calls ai 210 #[.pointer (some ⟨b,0,none⟩),.bool false,.int .i64 194] w5 fun r w'=>r=aP 194 n 1∧Below w5.heap.size w5 w'):=ae hun;clear hun d4 Vl Zx y0 yz QG;go_wp2_with(go_at_call 210;(with_reducible refine jv.out.mono ?_);rintro r w6⟨rfl,d6⟩;unfold aP)
  exact⟨rfl,dZ.bad ((BU.out.trans (Keeps.of_below d6 fun k hk _=>hk))) HR3.out⟩
 |some ps=>
 rw[hps]at GX;have QG:af (Calls ai 284 #[.string pr] w3 fun r w'=>(∃v:Value,r=.returned (.tuple #[v,.bool true])∧w'.ownsRow w3.heap.size 5 1 v ps.length (dV ps))∧Below w3.heap.size w3 w'):=ae GX;have hR:=HR2.out;rw[hps]at hR;have HR3:=ae hR;have aeI:w0.heap.size≤w3.heap.size:=by have:=Ff.out.size;omega
 clear hR HR2 GX hps;go_upto_region 4 with(go_at_call 284;(with_reducible refine QG.out.mono ?_);rintro r w4⟨⟨vp,rfl,o4⟩,d4⟩;obtain⟨Ap,cp,rfl⟩:=aL o4;have O4:=ae o4;clear o4;have QH:=ae (ME.out.below d4 ME.out.lt);have y0:=QH.out.cell 0;have yz:=QH.out.frozen 0;simp at y0)
 clear ME;obtain⟨Dn,Qx,tN⟩:=bO (RS3.out.below d4) (US3.out.below d4) (Ff.out.trans (Keeps.of_below d4 fun k hk _=>hk));clear RS3 US3 Ff;have R14:=ae (O4.out.mono aeI);obtain⟨w5,hw5⟩:∃x,x=w4.setCell ⟨N,0,none⟩ (.slice Ap ps.length cp):=⟨_,rfl⟩;have Vl:Keeps (fun x=>x=N) w4 w5:=by rw[hw5];exact(Keeps.refl (fun x=>x=N) w4).setCell (p:=⟨N,0,none⟩) (Or.inl rfl) _
 have Zx:Off (fun x=>x=N) w4 [306]:=fun k hk=>⟨_,_,_,by subst hk;exact QH.out,by simp⟩
 have NB5:af (aG w5 N 306 #[.slice Ap ps.length cp,.slice none 0 0,.slice none 0 0,.slice none 0 0]):=ae (by rw[hw5];exact QH.out.aM 0 (.slice Ap ps.length cp));have BU:=ae (tN.out.then_ Vl fun x hx=>Or.inr (hx▸QF));rw[←hw5];clear hw5 QH tN;have pH:=ae (Dn.out.off Vl Zx aI aI);have Wm:=ae (Qx.out.off Vl Zx aI);have R15:=ae (a8 R14.out Vl Zx aI);clear Dn Qx R14;have hun:=pH.out.unless aY aY true 194;have jv:af (Calls ai 210 #[.pointer (some ⟨b,0,none⟩),.bool true,.int .i64 194] w5 fun r w'=>r=.returned (.tuple #[])∧Below w5.heap.size w5 w'):=ae hun;clear hun d4 Vl Zx y0 yz QG O4 x0 z0;go_upto_region 5 with(go_at_call 210;(with_reducible refine jv.out.mono ?_);rintro r w6⟨rfl,d6⟩)
 obtain⟨Dp,Zw,R16,Jy,NB6⟩:=kp (pH.out.below d6) (Wm.out.below d6) (own_below R15.out d6) (BU.out.trans (Keeps.of_below d6 fun k hk _=>hk)) (NB5.out.below d6 NB5.out.lt);clear pH Wm R15 BU NB5;clear d6 jv;have gG:=Dp.out.must aY uR;unfold oW at gG;have kF:af (Calls ai 281 #[.pointer (some ⟨b,0,none⟩),.string ⟨#[102,114,111,109]⟩] w6 _):=ae gG;clear gG;go_wp2_with fail
 go_at_call 281;refine kF.out.mono ?_;rintro r w7⟨⟨d7,e7⟩,h7⟩;have OB6:Off (fun x=>x=b) w6 [235]:=fun k hk=>⟨_,_,_,by subst hk;exact Dp.out.blk,by simp⟩
 obtain⟨BQ,om⟩:=aQ (Jy.out.trans (d7.mono (T:=fun x=>x=b∨uv.ownBlock=some x) fun k _ hk=>Or.inl hk)) e7;have Vj:=ae (Zw.out.off d7 OB6 aI);have NB7:=ae (NB6.out.off d7 OB6 aI);have R17:=ae (a8 R16.out d7 OB6 aI);clear Zw NB6 R16;clear Dp Jy d7 e7 OB6 kF;have gW:=HR3.out;try simp only at gW
 cases hs2:ws[2]? with
 |none=>
  rw[show 1+1=2 from rfl,hs2]at h7;simp only at h7;subst h7;unfold aP;rw[hs2]at gW;exact⟨rfl,dZ.bad (BQ.out) gW⟩
 |some fr=>
 rw[show 1+1=2 from rfl,hs2]at h7;rw[hs2]at gW;simp only at h7 gW;by_cases hfr:fr=uR
 case neg=>
  rw[if_neg hfr]at h7;subst h7;unfold aP;rw[if_pos hfr]at gW;exact⟨rfl,dZ.bad (BQ.out) gW⟩
 rw[if_pos hfr]at h7;rw[if_neg (by simp[hfr])]at gW;subst h7;have hlen3:3≤ws.length:=by have:=(List.getElem?_eq_some_iff.1 hs2).1;omega
 have Dh:=ae gW;clear gW HR3 hs2 hfr;have hE7:=bN HE.out BQ.out (fun k hk=>hk.elim (fun e=>by subst e;exact hbb) fun e=>(HUB.out k e).1);have hse:=Dm tM.out hE7 om.out Vj.out hlen3 aY hbb Lj;have acI:w.heap.size≤w7.heap.size:=BQ.out.size;clear hE7;cases hq1:dx Lj (ws.drop 3) 3 0 with
 |error e=>
  have QI:af (Calls ai 285 #[.pointer (some ⟨b,0,none⟩),.string ⟨#[116,111]⟩] w7 fun r w'=>Keeps (fun x=>x=b∨uv.ownBlock=some x) w7 w'∧r=aP e.1 n e.2):=ae (hse.mono fun r w'⟨h1,h2⟩=>⟨h1,by rw[show 1+1+1=3 from rfl,hq1]at h2;exact h2⟩);have hR:=Dh.out;rw[hq1]at hR;have HR:=ae hR;clear hR Dh hse hq1;go_wp2_with(go_at_call 285;(with_reducible refine QI.out.mono ?_);rintro r w8⟨d8,rfl⟩;unfold aP)
  exact⟨rfl,dZ.bad ((BQ.out.trans d8)) HR.out⟩
 |ok x=>
 obtain⟨src,r2⟩:=x;obtain⟨hr2,hto⟩:=JA hq1;have hR:=Dh.out;rw[hq1]at hR;simp only at hR;obtain⟨k1,hk1⟩:∃k,k=ws.length-r2.length:=⟨_,rfl⟩;rw[←hk1]at hr2 hto;rw[hr2]at hR;have aeJ:k1≤ws.length:=by omega
 have QI:af (Calls ai 285 #[.pointer (some ⟨b,0,none⟩),.string ⟨#[116,111]⟩] w7 fun r w'=>Keeps (fun x=>x=b∨uv.ownBlock=some x) w7 w'∧∃v uv',r=.returned v∧w'.ownsRow w7.heap.size 245 6 v src.length (fU (src.map (·.1)))∧Rs w' b P k1 n lv uv' ws∧ez w' w0.heap.size uv' (us++jP n src)∧(∀g,uv'.ownBlock=some g→uv.ownBlock=some g∨w7.heap.size≤g)∧src.length≤64):=ae (hse.mono fun r w'⟨h1,h2⟩=>⟨h1,by rw[show 1+1+1=3 from rfl,hq1]at h2;obtain⟨v,uv',g1,g2,g3,g4,g5,g6⟩:=h2;exact⟨v,uv',g1,g2,by rw[hk1];exact g3,g4,g5,g6⟩⟩);obtain⟨HR8,HTo⟩:=aQ hR hto;clear hR Dh hse hq1 hr2 hto hk1;go_upto_region 7 with(go_at_call 285;(with_reducible refine QI.out.mono ?_);rintro r w8⟨d8,vs,uv1,rfl,o8,e8,u8,g8,l8⟩;obtain⟨As,cs,rfl⟩:=aL o8;obtain⟨O8,xe,US8,HG8⟩:=fH o8 e8 u8 g8;clear o8 e8 u8 g8;have OS7:Off (fun x=>x=b∨uv.ownBlock=some x) w7 [235,249]:=(fun k hk=>hk.elim (fun e=>⟨_,_,_,by subst e;exact om.out.blk,by simp⟩) (fun e=>by obtain⟨cur,e2,fz,h1,h2⟩:=Vj.out.Ww k e;exact⟨cur,e2,fz,h1,by simp[List.mem_singleton.1 h2]⟩));have NB8:=ae (NB7.out.off d8 OS7 aI);have y0:=NB8.out.cell 1;have yz:=NB8.out.frozen 1;simp at y0)
 have OS7:Off (fun x=>x=b∨uv.ownBlock=some x) w7 [235,249]:=(fun k hk=>hk.elim (fun e=>⟨_,_,_,by subst e;exact om.out.blk,by simp⟩) (fun e=>by obtain⟨cur,e2,fz,h1,h2⟩:=Vj.out.Ww k e;exact⟨cur,e2,fz,h1,by simp[List.mem_singleton.1 h2]⟩));have rf:=ae (BQ.out.trans d8);have R18:=ae (a8 R17.out d8 OS7 aI);clear R17;have R28:=ae (O8.out.mono (ax hbs acI));have HG:=ae fun g hg=>(HG8.out g hg).imp id (ax acI)
 clear O8 HG8 OS7 NB7 om Vj BQ d8 QI;obtain⟨w9,hw9⟩:∃x,x=w8.setCell ⟨N,1,none⟩ (.slice As src.length cs):=⟨_,rfl⟩;have KN9:Keeps (fun x=>x=N) w8 w9:=by rw[hw9];exact(Keeps.refl (fun x=>x=N) w8).setCell (p:=⟨N,1,none⟩) (Or.inl rfl) _
 have ON9:Off (fun x=>x=N) w8 [306]:=fun k hk=>⟨_,_,_,by subst hk;exact NB8.out,by simp⟩
 have NB9:af (aG w9 N 306 #[.slice Ap ps.length cp,.slice As src.length cs,.slice none 0 0,.slice none 0 0]):=ae (by rw[hw9];exact NB8.out.aM 1 (.slice As src.length cs));have Vf:=ae (rf.out.then_ KN9 fun x hx=>Or.inr (hx▸QF));rw[←hw9];clear hw9 NB8 rf;have RS9:=ae (xe.out.off KN9 ON9 aI aI);have US9:=ae (US8.out.off KN9 ON9 aI);have R19:=ae (a8 R18.out KN9 ON9 aI);have R29:=ae (a8 R28.out KN9 ON9 aI);clear xe US8 R18 R28;clear KN9 ON9 y0 yz;have gG:=RS9.out.must aeJ Lj;unfold oW at gG;have kF:af (Calls ai 281 #[.pointer (some ⟨b,0,none⟩),.string ⟨#[116,111]⟩] w9 _):=ae gG;clear gG;go_wp2_with fail
 go_at_call 281;refine kF.out.mono ?_;rintro r w10⟨⟨d10,e10⟩,h10⟩;have OB9:Off (fun x=>x=b) w9 [235]:=fun k hk=>⟨_,_,_,by subst hk;exact RS9.out.blk,by simp⟩
 obtain⟨mo,mj⟩:=aQ (Vf.out.trans (d10.mono (T:=fun x=>x=b∨uv.ownBlock=some x) fun k _ hk=>Or.inl hk)) e10;have aaB:=ae (US9.out.off d10 OB9 aI);have acJ:=ae (NB9.out.off d10 OB9 aI);have acK:=ae (a8 R19.out d10 OB9 aI);have acL:=ae (a8 R29.out d10 OB9 aI);clear US9 NB9 R19 R29;clear RS9 Vf d10 e10 OB9 kF;cases hs3:ws[k1]? with
 |none=>
  have hge:ws.length≤k1:=by rw[agx]at hs3;exact hs3
  rw[hs3]at h10;simp only at h10;subst h10;unfold aP;exact⟨rfl,dZ.bad (mo.out) (HR8.out.trans (zK hge))⟩
 |some tw=>
 have htw:=HTo.out tw hs3;rw[hs3]at h10;simp only at h10;rw[if_pos htw]at h10;subst h10;have aeK:k1+1≤ws.length:=(List.getElem?_eq_some_iff.1 hs3).1;have Wy:=HR8.out;rw[zJ aY]at Wy;clear HR8 HTo htw hs3;have acM:=bN HE.out mo.out (fun k hk=>hk.elim (fun e=>by subst e;exact hbb) fun e=>(HUB.out k e).1);have hse:=Dm tM.out acM mj.out aaB.out aeK (by rw[aj];unfold jP;rw[ay];omega) hbb l9;have Zy:w.heap.size≤w10.heap.size:=mo.out.size;have HTH:af (∀wx,Keeps (fun x=>x=b∨uv1.ownBlock=some x) w10 wx→Keeps (fun x=>x=b∨uv.ownBlock=some x) w wx):=ae fun wx hd=>mo.out.then_ hd fun x hx=>hx.elim (fun e=>Or.inl (Or.inl e)) fun e=>(HG.out x e).elim (fun e=>Or.inl (Or.inr e)) Or.inr
 clear acM;cases hq2:dx l9 (ws.drop (k1+1)) (k1+1) 0 with
 |error e=>
  have QI:af (Calls ai 285 #[.pointer (some ⟨b,0,none⟩),.string ⟨#[112,111,114,116,115]⟩] w10 fun r w'=>Keeps (fun x=>x=b∨uv1.ownBlock=some x) w10 w'∧r=aP e.1 n e.2):=ae (hse.mono fun r w'⟨h1,h2⟩=>⟨h1,by rw[hq2]at h2;exact h2⟩);rw[hq2]at Wy;have HR:=ae Wy;clear Wy hse hq2;go_wp2_with(go_at_call 285;(with_reducible refine QI.out.mono ?_);rintro r rh⟨d11,rfl⟩;unfold aP)
  exact⟨rfl,dZ.bad ((HTH.out _ d11)) HR.out⟩
 |ok x=>
 obtain⟨dst,r4⟩:=x;obtain⟨hr4,hpo⟩:=JA hq2;rw[hq2]at Wy;simp only at Wy;obtain⟨k2,hk2⟩:∃k,k=ws.length-r4.length:=⟨_,rfl⟩;rw[←hk2]at hr4 hpo;rw[hr4]at Wy;have afJ:k2≤ws.length:=by omega
 have QI:af (Calls ai 285 #[.pointer (some ⟨b,0,none⟩),.string ⟨#[112,111,114,116,115]⟩] w10 fun r w'=>Keeps (fun x=>x=b∨uv1.ownBlock=some x) w10 w'∧∃v uv',r=.returned v∧w'.ownsRow w10.heap.size 245 6 v dst.length (fU (dst.map (·.1)))∧Rs w' b P k2 n lv uv' ws∧ez w' w0.heap.size uv' ((us++jP n src)++jP n dst)∧(∀g,uv'.ownBlock=some g→uv1.ownBlock=some g∨w10.heap.size≤g)∧dst.length≤64):=ae (hse.mono fun r w'⟨h1,h2⟩=>⟨h1,by rw[hq2]at h2;obtain⟨v,uv',g1,g2,g3,g4,g5,g6⟩:=h2;exact⟨v,uv',g1,g2,by rw[hk2];exact g3,g4,g5,g6⟩⟩);obtain⟨WA,MF⟩:=aQ Wy hpo;have acN:Off (fun x=>x=b∨uv1.ownBlock=some x) w10 [235,249]:=(fun k hk=>hk.elim (fun e=>⟨_,_,_,by subst e;exact mj.out.blk,by simp⟩) (fun e=>by obtain⟨cur,e2,fz,h1,h2⟩:=aaB.out.Ww k e;exact⟨cur,e2,fz,h1,by simp[List.mem_singleton.1 h2]⟩));have JB:=ae acN;clear Wy hse hq2 hr4 hpo hk2 acN;go_upto_region 9 with(go_at_call 285;(with_reducible refine QI.out.mono ?_);rintro r rh⟨d11,vd,uv2,rfl,o11,e11,u11,g11,l11⟩;obtain⟨Ad,cd,rfl⟩:=aL o11;obtain⟨O11,oJ,acO,acP⟩:=fH o11 e11 u11 g11;clear o11 e11 u11 g11;have QJ:=ae (acJ.out.off d11 JB.out aI);have y0:=QJ.out.cell 2;have yz:=QJ.out.frozen 2;simp at y0)
 have qp:=ae (HTH.out _ d11);have acQ:=ae (a8 acK.out d11 JB.out aI);have acR:=ae (a8 acL.out d11 JB.out aI);clear acK acL;have acS:=ae (O11.out.mono (ax hbs Zy));have HG2:=ae fun g hg=>(acP.out g hg).elim (HG.out g) (fun h=>Or.inr (ax Zy h))
 clear O11 acP JB acJ mj aaB mo d11 QI HTH HG;obtain⟨w12,WB⟩:∃x,x=rh.setCell ⟨N,2,none⟩ (.slice Ad dst.length cd):=⟨_,rfl⟩;have GY:Keeps (fun x=>x=N) rh w12:=by rw[WB];exact(Keeps.refl (fun x=>x=N) rh).setCell (p:=⟨N,2,none⟩) (Or.inl rfl) _
 have MG:Off (fun x=>x=N) rh [306]:=fun k hk=>⟨_,_,_,by subst hk;exact QJ.out,by simp⟩
 have MI:af (aG w12 N 306 #[.slice Ap ps.length cp,.slice As src.length cs,.slice Ad dst.length cd,.slice none 0 0]):=ae (by rw[WB];exact QJ.out.aM 2 (.slice Ad dst.length cd));have xH:=ae (qp.out.then_ GY fun x hx=>Or.inr (hx▸QF));rw[←WB];clear WB QJ qp;have zM:=ae (oJ.out.off GY MG aI aI);have WC:=ae (acO.out.off GY MG aI);have WE:=ae (a8 acQ.out GY MG aI);have WG:=ae (a8 acR.out GY MG aI);have WH:=ae (a8 acS.out GY MG aI);clear oJ acO acQ acR acS;clear GY MG y0 yz;have hmore:=zM.out.more;obtain⟨j0,hj,hj0,hj1,hj2⟩:=info_parts Wa;by_cases WI:k2<ws.length
 case neg=>
  rw[decide_eq_false WI]at hmore;have lB:=ae hmore;have hR:=WA.out;rw[sU aY,qq]at hR;have HRF:=ae hR;clear hR hmore WA;go_upto_region 18 with(go_at_call 282;(with_reducible refine lB.out.mono ?_);rintro r Di⟨rfl,d13⟩)
  obtain⟨vD,QK,QL,QM,QN,zN,Du⟩:=uE (zM.out.below d13) (WC.out.below d13) (own_below WE.out d13) (own_below WG.out d13) (own_below WH.out d13) (MI.out.below d13 MI.out.lt) (xH.out.trans (Keeps.of_below d13 fun k hk _=>hk));clear zM WC WE WG WH MI xH;have acT:=ae (bK Di w0.heap.size 342 2);clear d13 lB MF;have aeL:w.heap.size≤Di.heap.size:=Du.out.size;have PE:=ae (HP.out.off Du.out Wx.out aI);obtain⟨xs,hxs,hac,hmem⟩:=HN.out.off Du.out Wx.out aI aI aI aI;have Vh:af (some N≠(iC A T cap).ownBlock):=ae fun e=>by
   obtain⟨xs,_,ho,_⟩:=HN.out;have:=(ho.lt N e.symm).2;omega
  rw[←HT.out]at hac;have GM:=ae hxs;have x0:=(PE.out.cell 3).trans hq;have x2:=vD.out.blk.cell 2;have n0:=zN.out.cell 0;have n1:=zN.out.cell 1;have n2:=zN.out.cell 2;have n3:=zN.out.cell 3;simp at x2 n0 n1 n2 n3;obtain⟨jo,dN⟩:∃x,x=(Di.alloc (.cells #[.slice Ap ps.length cp,.slice As src.length cs,.slice Ad dst.length cd,.slice none 0 0] 306)).drew:=⟨_,rfl⟩;have kZ:af (jo.ownsRow w0.heap.size 306 4 (.slice A T cap) T (mg xs)):=ae (by rw[dN];exact hac.alloc _);have iM:af (∀j u,[.slice Ap ps.length cp,.slice As src.length cs,.slice Ad dst.length cd,.slice none 0 0][j]? =some u→jo.cell? ((⟨Di.heap.size,0,none⟩:Addr).add j)=some u):=ae (by rw[dN];exact cD Di [.slice Ap ps.length cp,.slice As src.length cs,.slice Ad dst.length cd,.slice none 0 0] 306);have ln:af (aG jo P 190 pc):=ae (by rw[dN];exact PE.out.alloc _);have vv:af (aG jo N 306 #[.slice Ap ps.length cp,.slice As src.length cs,.slice Ad dst.length cd,.slice none 0 0]):=ae (by rw[dN];exact zN.out.alloc _);have kE:af (Rs jo b P k2 n lv uv2 ws):=ae (by rw[dN];exact⟨(vD.out.alloc _).blk,(vD.out.alloc _).row,vD.out.ne,vD.out.len,vD.out.sizes⟩);have Fe:af (Keeps (fun x=>x=b∨uv.ownBlock=some x) w jo):=ae (by rw[dN];exact(Du.out.alloc _).drew);have bE:Below Di.heap.size Di jo:=by rw[dN];have q:=boxed Di (.cells #[.slice Ap ps.length cp,.slice As src.length cs,.slice Ad dst.length cd,.slice none 0 0] 306);exact⟨q.os,q.tape,q.output,q.size,q.block⟩
  have aaC:af (∀x∈xs,oZ jo w0.heap.size x):=ae fun x hx=>⟨own_below (hmem x hx).p bE,own_below (hmem x hx).s bE,own_below (hmem x hx).d bE,own_below (hmem x hx).o bE⟩
  have aaD:=ae (QK.out.below bE);have HMN:af (oZ jo w0.heap.size ⟨⟨ps,src.map (·.1),dst.map (·.1),[]⟩,.slice Ap ps.length cp,.slice As src.length cs,.slice Ad dst.length cd,.slice none 0 0⟩):=ae ⟨own_below QL.out bE,by rw[ay];exact own_below QM.out bE,by rw[ay];exact own_below QN.out bE,own_below acT.out bE⟩;have MA:jo.heap.size=Di.heap.size+1:=by rw[dN];simp
  have y0:=(ln.out.cell 3).trans hq;have y2:=kE.out.blk.cell 2;have v0:=vv.out.cell 0;have v1:=vv.out.cell 1;have v2:=vv.out.cell 2;have v3:=vv.out.cell 3;simp at y2 v0 v1 v2 v3;clear hxs hac hmem bE QK vD PE zN QL QM QN acT Du;rw[dN]at kZ iM ln vv y0 y2 v0 v1 v2 v3;refine du 16 (fun w'=>w'.cell? ⟨b,2,none⟩=some (.pointer (some ⟨P,0,none⟩))∧w'.cell? ⟨P,3,none⟩=some (.slice A T cap)∧w'.cell? ⟨N,0,none⟩=some (.slice Ap ps.length cp)∧w'.cell? ⟨N,1,none⟩=some (.slice As src.length cs)∧w'.cell? ⟨N,2,none⟩=some (.slice Ad dst.length cd)∧w'.cell? ⟨N,3,none⟩=some (.slice none 0 0)) bJ (⟨x2,x0,n0,n1,n2,n3⟩) (fun hHeld=>?_);refine jF 0 ?_
  refine jF 1 ?_
  refine jF 2 ?_
  refine jF 3 ?_
  refine jF 4 ?_
  refine jF 5 ?_
  refine jF 6 ?_
  refine jF 7 ?_
  refine jF 8 ?_
  refine jF 9 ?_
  refine jF 10 ?_
  refine jF 11 ?_
  refine sH 12 fun K hK=>?_;go_simp
  skip
  refine hK.out _ _ (fun _=>⟨y2,y0,v0,v1,v2,v3⟩) (fun hHeld=>?_);have hHeld:=hHeld aI;clear hK K;try simp only[dX]
  refine sH 13 fun K hK=>?_;refine step_append_lies _ (by rfl) _ _ _ (by rfl) w0.heap.size 306 j0 (.agg #[.slice none 0 0,.slice none 0 0,.slice none 0 0,.slice none 0 0]) 4 96 Tryz.underlying188 hj hj0 hj1 hj2 rfl aI _ T _ (by rfl) kZ.out ⟨Di.heap.size,0,none⟩ 1 1 [.slice Ap ps.length cp,.slice As src.length cs,.slice Ad dst.length cd,.slice none 0 0] (by rfl) rfl iM.out (by intro u hu;simp at hu;rcases hu with rfl|rfl|rfl|rfl<;>rfl) aI (by unfold maxLen;omega) aY (by simp;omega) (Di.heap.size+1) (by simp) ?_;intro g' cap' pF hown' hgrow hat mh;have BP:=ae (ln.out.off (Keeps.row hgrow) (bY kZ.out) aI);have fk:=vv.out.grown hgrow Vh.out;have p0:=(BP.out.cell 3).trans hq;have pz:=BP.out.frozen 3;have m0:=fk.cell 0;have m1:=fk.cell 1;have m2:=fk.cell 2;have m3:=fk.cell 3;rw[←dN]at hgrow kZ;have R15:=ae (kE.out.off (Keeps.row hgrow) (bY kZ.out) aI aI);have U15:=ae (aaD.out.off (Keeps.row hgrow) (bY kZ.out) aI);have aaE:=ae (HMN.out.keep (Keeps.row hgrow) (bY kZ.out) aI aI aI);have zI:=ae fun x hx=>(aaC.out x hx).keep (Keeps.row hgrow) (bY kZ.out) aI aI (by decide)
  have p2:=R15.out.blk.cell 2;simp at m0 m1 m2 m3 p2;obtain⟨kY,fq,Mc⟩:=bO hown' hgrow hat;clear hown' hgrow hat mh fk;refine hK.out _ _ (fun _=>⟨p2,p0,m0,m1,m2,m3⟩) (fun hHeld=>?_);have hHeld:=hHeld aI;clear hK K;try simp only[dX]
  refine sH 14 fun K hK=>?_;go_simp;refine hK.out _ _ (fun _=>hHeld) (fun hHeld=>?_);have hHeld:=hHeld aI;clear hK K;try simp only[dX]
  refine jF 15 ?_
  refine sH 16 fun K hK=>?_;go_simp;refine hK.out _ _ (fun h=>absurd rfl h) (fun _=>?_);clear hK K hHeld;try simp only[dX]
  refine zdE ?_;go_wp2_with fail
  have KQ:=(Keeps.refl (fun x=>x=P) pF).setCell (p:=⟨P,3,none⟩) (Or.inl rfl) (.slice (some ⟨g',0,none⟩) (T+1) cap');have OQ:Off (fun x=>x=P) pF [190]:=fun k hk=>⟨_,_,_,by subst hk;exact BP.out,by simp⟩
  have K2:=(Keeps.grown (FIN.out _ Fe.out) fq.out fun k hk=>Or.inl (Or.inr (Or.inr (Or.inl hk)))).setCell (p:=⟨P,3,none⟩) (Or.inl (Or.inr (Or.inl rfl))) (.slice (some ⟨g',0,none⟩) (T+1) cap');have B2:aG (pF.setCell ⟨P,3,none⟩ (.slice (some ⟨g',0,none⟩) (T+1) cap')) P 190 (pc.setIfInBounds 3 (.slice (some ⟨g',0,none⟩) (T+1) cap')):=BP.out.aM 3 _;refine⟨rfl,_,results_none rfl _ _ _,dZ.good HRF.out K2 ⟨rfl,_,_,_,R15.out.off KQ OQ aI aI,B2,⟨xs++[⟨⟨ps,src.map (·.1),dst.map (·.1),[]⟩,.slice Ap ps.length cp,.slice As src.length cs,.slice Ad dst.length cd,.slice none 0 0⟩],?_,?_,?_⟩,?_,?_,HG2.out,by rw[aj];omega⟩⟩
  ·rw[eT,GM.out];rfl
  ·rw[aj,←HT.out,qn];exact a8 kY.out KQ OQ (by decide)
  ·intro x hx;rcases List.mem_append.1 hx with hx|hx
   ·exact(zI.out x hx).keep KQ OQ aI aI (by decide)
   ·rw[List.mem_singleton.1 hx];exact aaE.out.keep KQ OQ aI aI (by decide)
  ·rw[sZ,←aZ];exact U15.out.off KQ OQ (by decide)
  ·intro g hg;have hgg:some g'=some g:=hg;injection hgg with hgg
   rcases Mc.out with h|h
   ·exact Or.inl (hgg▸h)
   ·exact Or.inr (by omega)
 rw[decide_eq_true WI]at hmore;have lB:=ae hmore;have hR:=WA.out;rw[zL WI]at hR;obtain⟨PO,hPO⟩:∃r,r=jY ws (k2+1) [] true:=⟨_,rfl⟩;rw[←hPO]at hR;obtain⟨MJ,HPO⟩:=aQ hR hPO;obtain⟨pw,hpw⟩:∃s,ws[k2]? =some s:=⟨_,List.getElem?_eq_getElem WI⟩;have hpe:=MF.out pw hpw;clear hR hmore WA hPO;go_upto_region 10 with(go_at_call 282;(with_reducible refine lB.out.mono ?_);rintro r Di⟨rfl,d13⟩)
 obtain⟨vD,QK,QL,QM,QN,zN,Du⟩:=uE (zM.out.below d13) (WC.out.below d13) (own_below WE.out d13) (own_below WG.out d13) (own_below WH.out d13) (MI.out.below d13 MI.out.lt) (xH.out.trans (Keeps.of_below d13 fun k hk _=>hk));clear zM WC WE WG WH MI xH;clear d13 lB MF;have gG:=vD.out.must aY l9;unfold oW at gG;rw[hpw]at gG;simp only[if_pos hpe]at gG;have kF:af (Calls ai 281 #[.pointer (some ⟨b,0,none⟩),.string ⟨#[112,111,114,116,115]⟩] Di fun r w'=>(Keeps (fun x=>x=b) Di w'∧Rs w' b P (k2+1) n lv uv2 ws)∧r=.returned (.tuple #[])):=ae gG;clear gG hpe hpw;go_upto_region 11 with(go_at_call 281;(with_reducible refine kF.out.mono ?_);rintro r jo⟨⟨lp,e14⟩,rfl⟩)
 have MK:Off (fun x=>x=b) Di [235]:=fun k hk=>⟨_,_,_,by subst hk;exact vD.out.blk,by simp⟩
 obtain⟨aaF,WJ⟩:=aQ (Du.out.trans (lp.mono (T:=fun x=>x=b∨uv.ownBlock=some x) fun k _ hk=>Or.inl hk)) e14;have acU:=ae (QK.out.off lp MK aI);have QO:=ae (zN.out.off lp MK aI);have acV:=ae (a8 QL.out lp MK aI);have acW:=ae (a8 QM.out lp MK aI);have acX:=ae (a8 QN.out lp MK aI);clear QK zN QL QM QN;clear vD Du lp e14 MK kF;obtain⟨i0,hi,hz0,hz1,hz2⟩:=info_parts V9;have hNb:N≠b:=QO.out.xc WJ.out.blk aI;have afK:=QO.out.lt;have zO:af (∀wx,Keeps (fun x=>x=b∨x=N) jo wx→Keeps (fun x=>x=b∨uv.ownBlock=some x) w wx):=ae fun wx hd=>aaF.out.then_ hd fun x hx=>hx.elim (fun e=>Or.inl (Or.inl e)) fun e=>Or.inr (by omega)
 have aaG:af (∀wx,Keeps (fun x=>x=b∨x=N) jo wx→Env wx):=ae fun wx hd=>tM.out.below (bN HE.out (zO.out wx hd) (fun k hk=>hk.elim (fun e=>by subst e;exact hbb) fun e=>(HUB.out k e).1))
 go_wp2_with fail
 go_loopw [4] (fun v4 wr=>∃(k:Nat)(acc:List (Nat×Nat))(first:Bool)(v:Value),v4=.bool first∧1≤k∧k≤ws.length∧af (acc.length≤64)∧af (Rs wr b P k n lv uv2 ws)∧af (Keeps (fun x=>x=b∨x=N) jo wr)∧af (aG wr N 306 #[.slice Ap ps.length cp,.slice As src.length cs,.slice Ad dst.length cd,v])∧af (wr.ownsRow jo.heap.size 342 2 v acc.length (il acc))∧af (PO=jY ws k acc first)) (fun _ wr=>ws.length+1-vo wr b)
 case atStart=>exact⟨k2+1,[],true,_,rfl,by omega,by omega,ae (by simp),WJ,ae (Keeps.refl _ _),QO,ae (bK _ _ _ _),HPO⟩
 case round=>
  obtain⟨k,acc,first,v,rfl,hk3,hk,hacc,hrs,hkp,hbn,hown,hres⟩:=hrel;have yi:=ae hrs.out.next;obtain⟨A1,c1,rfl⟩:=aL hown.out;obtain⟨L,hL⟩:∃l,l=acc.length:=⟨_,rfl⟩;rw[←hL]at hown hbn;have hacc:=hacc.out;rw[←hL]at hacc;have HL:=ae hL;clear hL;cases first with
  |true=>
   have RS:=hrs;have KP:=hkp;have BN:=hbn;have OW:=hown;clear hrs hkp hbn hown;have htake:=RS.out.take hk;unfold iI at htake;have jK:=ae htake;clear htake;have OB8:Off (fun x=>x=b) wr [235]:=fun k hk=>⟨_,_,_,by subst hk;exact RS.out.blk,by simp⟩
   have HOB:=ae OB8;clear OB8;go_wp2_with fail
   go_at_call 209;refine jK.out.mono ?_;rintro r w8⟨⟨d8,e8⟩,h8⟩;have rf:=ae (KP.out.trans (d8.mono (T:=fun x=>x=b∨x=N) fun k _ hk=>Or.inl hk));have xF:=ae (BN.out.off d8 HOB.out aI);have Gz:=ae (a8 OW.out d8 HOB.out aI);have xe:=ae e8;clear RS KP BN OW d8 e8 HOB jK;cases hsk:ws[k]? with
   |none=>
    have hge:ws.length≤k:=by rw[agx]at hsk;exact hsk
    rw[hsk]at h8;simp only at h8;subst h8;unfold aP;exact⟨rfl,dZ.bad ((zO.out _ rf.out)) (by rw[MJ.out,hres.out,Dq hge];rfl)⟩
   |some s=>
   have hlt:k<ws.length:=(List.getElem?_eq_some_iff.1 hsk).1;rw[hsk]at h8;simp only at h8;subst h8;have hss:s.size≤2000000:=xe.out.sizes s (rX hsk);have hpt:=yx (aaG.out _ rf.out) s hss;have hst:=hres.out;rw[tc hsk]at hst;obtain⟨o,ho⟩:∃o,o=kU s:=⟨_,rfl⟩;rw[←ho]at hpt hst;clear ho hsk hres;cases o with
   |none=>
    have Fg:af (Calls ai 286 #[.string s] w8 fun r w'=>(∃a b:Nat,r=.returned (.tuple #[.agg #[.int .u16 a,.int .u16 b],.bool false]))∧Below w8.heap.size w8 w'):=ae (hpt.mono fun r w'⟨⟨a,b,_,_,h,_⟩,h2⟩=>⟨⟨a,b,h⟩,h2⟩);have Fh:=ae hst;clear hpt hst;go_upto_region 15 with(go_at_call 286;(with_reducible refine Fg.out.mono ?_);rintro r w9⟨⟨p1,p2,rfl⟩,d9⟩)
    have d10:=after d9 (boxed w9 (.cells #[.int .u16 p1,.int .u16 p2] 342));generalize w9.alloc (.cells #[.int .u16 p1,.int .u16 p2] 342)=w10 at d10⊢;obtain⟨mj,mo⟩:=aQ (xe.out.below d10) (rf.out.trans (Keeps.of_below d10 fun k hk _=>hk));clear xe rf;clear d10 d9 Fg;have hun:=mj.out.unless aY aY false 193;rw[dM hlt]at hun;have jv:af (Calls ai 210 #[.pointer (some ⟨b,0,none⟩),.bool false,.int .i64 193] w10 fun r w'=>r=aP 193 n k∧Below w10.heap.size w10 w'):=ae hun;clear hun;go_wp2_with(go_at_call 210;(with_reducible refine jv.out.mono ?_);rintro r rh⟨rfl,d11⟩;unfold aP)
    exact⟨rfl,dZ.bad ((zO.out _ (mo.out.trans (Keeps.of_below d11 fun k hk _=>hk)))) (by rw[MJ.out,Fh.out];rfl)⟩
   |some pp=>
   obtain⟨p1,p2⟩:=pp;have Fg:af (Calls ai 286 #[.string s] w8 (Got (.tuple #[.agg #[.int .u16 p1,.int .u16 p2],.bool true]) w8)):=ae (hpt.mono fun r w'⟨⟨a,b,_,_,h,h3⟩,h2⟩=>⟨by have:=h3 _ rfl;injection this with e1 e2;subst e1 e2;exact h,h2⟩);have Fh:=ae hst;clear hpt hst;go_upto_region 15 with(go_at_call 286;(with_reducible refine Fg.out.mono ?_);rintro r w9⟨rfl,d9⟩)
   have d10:=after d9 (boxed w9 (.cells #[.int .u16 p1,.int .u16 p2] 342));have vE:=ae (aG.new w9 342 #[.int .u16 p1,.int .u16 p2]);have Zt:=d9.size;generalize w9.alloc (.cells #[.int .u16 p1,.int .u16 p2] 342)=w10 at d10 vE⊢;generalize w9.heap.size=M at Zt vE⊢;obtain⟨mj,mo,fk,QP⟩:=fH (xe.out.below d10) (rf.out.trans (Keeps.of_below d10 fun k hk _=>hk)) (xF.out.below d10 xF.out.lt) (own_below Gz.out d10);clear xe rf xF Gz;clear d10 d9 Fg;have hun:=mj.out.unless aY aY true 193;have jv:af (Calls ai 210 #[.pointer (some ⟨b,0,none⟩),.bool true,.int .i64 193] w10 fun r w'=>r=.returned (.tuple #[])∧Below w10.heap.size w10 w'):=ae hun;clear hun;go_upto_region 16 with(go_at_call 210;(with_reducible refine jv.out.mono ?_);rintro r rh⟨rfl,d11⟩)
   obtain⟨oJ,qp,rJ,zH,GZ⟩:=kp (mj.out.below d11) (mo.out.trans (Keeps.of_below d11 fun k hk _=>hk)) (fk.out.below d11 fk.out.lt) (own_below QP.out d11) (vE.out.below d11 vE.out.lt);clear mj mo fk QP vE;clear d11 jv;obtain⟨-,-,-,x3⟩:=jB rJ;have hro:=oJ.out.room aY aY L;rw[dM hlt]at hro;have pI:=ae hro;clear hro;by_cases h64:64≤L
   ·have hR:=Fh.out;try simp only at hR
    rw[←HL.out,if_pos h64]at hR;rw[decide_eq_false aY]at pI;have mq:af (Calls ai 279 #[.pointer (some ⟨b,0,none⟩),.int .i64 L] rh fun r w'=>r=aP 198 n k∧Below rh.heap.size rh w'):=pI;have MB:=ae hR;clear pI hR Fh h64;go_wp2_with(go_at_call 279;(with_reducible refine mq.out.mono ?_);rintro r w12⟨rfl,d12⟩;unfold aP)
    exact⟨rfl,dZ.bad ((zO.out _ (qp.out.trans (Keeps.of_below d12 fun k hk _=>hk)))) (by rw[MJ.out,MB.out];rfl)⟩
   have hR:=Fh.out;try simp only at hR
   rw[←HL.out,if_neg h64]at hR;rw[decide_eq_true aY]at pI;have mq:af (Calls ai 279 #[.pointer (some ⟨b,0,none⟩),.int .i64 L] rh fun r w'=>r=.returned (.tuple #[])∧Below rh.heap.size rh w'):=pI;have vq:=ae hR;clear pI hR Fh;go_upto_region 17 with(go_at_call 279;(with_reducible refine mq.out.mono ?_);rintro r w12⟨rfl,d12⟩)
   obtain⟨zM,xH,QQ,zP,QR⟩:=kp (oJ.out.below d12) (qp.out.trans (Keeps.of_below d12 fun k hk _=>hk)) (rJ.out.below d12 rJ.out.lt) (own_below zH.out d12) (GZ.out.below d12 GZ.out.lt);clear oJ qp rJ zH GZ;clear d12 mq x3;have x3:=QQ.out.cell 3;have m0:=QR.out.cell 0;have m1:=QR.out.cell 1;simp at x3 m0 m1;have Zv:=xH.out.size;go_wp2_with(at_builtin;refine wpList_append_lies _ rfl _ _ 304 rfl jo.heap.size 342 i0 (.agg #[.int .u16 0,.int .u16 0]) 2 4 Tryz.underlying304 hi hz0 hz1 hz2 rfl aI _ L _ rfl (zP.out.alloc _) ⟨w12.heap.size,0,none⟩ 1 1 [.int .u16 p1,.int .u16 p2] rfl rfl (cD w12 [.int .u16 p1,.int .u16 p2] 342) (by intro u hu;simp at hu;rcases hu with rfl|rfl<;>rfl) aI (by unfold maxLen;omega) aY (by simp;omega) (w12.heap.size+1) (by simp) ?_;intro g' cap' pF hown' hgrow hat mh;have zQ:=ae ((QQ.out.alloc (.cells #[.int .u16 p1,.int .u16 p2] 342)).off (Keeps.row hgrow) (bY (zP.out.alloc (.cells #[.int .u16 p1,.int .u16 p2] 342))) aI);obtain⟨-,-,-,x15⟩:=jB zQ;have z15:=zQ.out.frozen 3;obtain⟨kY,fq⟩:=aQ hown' hgrow;clear hown' hgrow hat mh)
   have KS:Keeps (fun k=>(iC A1 L c1).ownBlock=some k) (w12.alloc (.cells #[.int .u16 p1,.int .u16 p2] 342)) pF:=Keeps.row fq.out;have OS:=bY (zP.out.alloc (.cells #[.int .u16 p1,.int .u16 p2] 342));have aaH:=(zM.out.alloc (.cells #[.int .u16 p1,.int .u16 p2] 342)).off KS OS aI aI;have aaI:=Keeps.grown (xH.out.alloc (.cells #[.int .u16 p1,.int .u16 p2] 342)) fq.out fun g hg=>Or.inr (zP.out.lt g hg).1
   have vC:=aaI.setCell (p:=⟨N,3,none⟩) (Or.inl (Or.inr rfl)) (.slice (some ⟨g',0,none⟩) (L+1) cap');have KN:=(Keeps.refl (fun x=>x=N) pF).setCell (p:=⟨N,3,none⟩) (Or.inl rfl) (.slice (some ⟨g',0,none⟩) (L+1) cap');have ON:Off (fun x=>x=N) pF [306]:=fun k hk=>⟨_,_,_,by subst hk;exact zQ.out,by simp⟩
   have pJ:=aaH.off KN ON aI aI;have vB:=a8 kY.out KN ON aI;have aaJ:aG (pF.setCell ⟨N,3,none⟩ (.slice (some ⟨g',0,none⟩) (L+1) cap')) N 306 #[.slice Ap ps.length cp,.slice As src.length cs,.slice Ad dst.length cd,.slice (some ⟨g',0,none⟩) (L+1) cap']:=zQ.out.aM 3 _;refine⟨⟨k+1,acc++[(p1,p2)],false,_,rfl,by omega,by omega,ae (by rw[aj,←HL.out];simp;omega),ae pJ,ae vC,ae aaJ,ae (by rw[aj,←HL.out,ny];exact vB),vq⟩,?_⟩;rw[pJ.next,yi.out];omega
  |false=>
   have hmore:=ae hrs.out.more;by_cases hlt0:k<ws.length
   ·rw[decide_eq_true hlt0]at hmore;go_upto_region 14 with(go_at_call 282;(with_reducible refine hmore.out.mono ?_);rintro r w7⟨rfl,d7⟩)
    obtain⟨RS,KP,BN,OW⟩:=fH (hrs.out.below d7) (hkp.out.trans (Keeps.of_below d7 fun k hk _=>hk)) (hbn.out.below d7 hbn.out.lt) (own_below hown.out d7);clear hrs hkp hbn hown hmore d7;have htake:=RS.out.take hk;unfold iI at htake;have jK:=ae htake;clear htake;have OB8:Off (fun x=>x=b) w7 [235]:=fun k hk=>⟨_,_,_,by subst hk;exact RS.out.blk,by simp⟩
    have HOB:=ae OB8;clear OB8;go_wp2_with fail
    go_at_call 209;refine jK.out.mono ?_;rintro r w8⟨⟨d8,e8⟩,h8⟩;have rf:=ae (KP.out.trans (d8.mono (T:=fun x=>x=b∨x=N) fun k _ hk=>Or.inl hk));have xF:=ae (BN.out.off d8 HOB.out aI);have Gz:=ae (a8 OW.out d8 HOB.out aI);have xe:=ae e8;clear RS KP BN OW d8 e8 HOB jK;cases hsk:ws[k]? with
    |none=>
     have hge:ws.length≤k:=by rw[agx]at hsk;exact hsk
     rw[hsk]at h8;simp only at h8;subst h8;unfold aP;exact⟨rfl,dZ.bad ((zO.out _ rf.out)) (absurd hge aY)⟩
    |some s=>
    have hlt:k<ws.length:=(List.getElem?_eq_some_iff.1 hsk).1;rw[hsk]at h8;simp only at h8;subst h8;have hss:s.size≤2000000:=xe.out.sizes s (rX hsk);have hpt:=yx (aaG.out _ rf.out) s hss;have hst:=hres.out;rw[tc hsk]at hst;obtain⟨o,ho⟩:∃o,o=kU s:=⟨_,rfl⟩;rw[←ho]at hpt hst;clear ho hsk hres;cases o with
    |none=>
     have Fg:af (Calls ai 286 #[.string s] w8 fun r w'=>(∃a b:Nat,r=.returned (.tuple #[.agg #[.int .u16 a,.int .u16 b],.bool false]))∧Below w8.heap.size w8 w'):=ae (hpt.mono fun r w'⟨⟨a,b,_,_,h,_⟩,h2⟩=>⟨⟨a,b,h⟩,h2⟩);have Fh:=ae hst;clear hpt hst;go_upto_region 15 with(go_at_call 286;(with_reducible refine Fg.out.mono ?_);rintro r w9⟨⟨p1,p2,rfl⟩,d9⟩)
     have d10:=after d9 (boxed w9 (.cells #[.int .u16 p1,.int .u16 p2] 342));generalize w9.alloc (.cells #[.int .u16 p1,.int .u16 p2] 342)=w10 at d10⊢;obtain⟨mj,mo⟩:=aQ (xe.out.below d10) (rf.out.trans (Keeps.of_below d10 fun k hk _=>hk));clear xe rf;clear d10 d9 Fg;have hun:=mj.out.unless aY aY false 193;rw[dM hlt]at hun;have jv:af (Calls ai 210 #[.pointer (some ⟨b,0,none⟩),.bool false,.int .i64 193] w10 fun r w'=>r=aP 193 n k∧Below w10.heap.size w10 w'):=ae hun;clear hun;go_wp2_with(go_at_call 210;(with_reducible refine jv.out.mono ?_);rintro r rh⟨rfl,d11⟩;unfold aP)
     exact⟨rfl,dZ.bad ((zO.out _ (mo.out.trans (Keeps.of_below d11 fun k hk _=>hk)))) (by rw[MJ.out,Fh.out];rfl)⟩
    |some pp=>
    obtain⟨p1,p2⟩:=pp;have Fg:af (Calls ai 286 #[.string s] w8 (Got (.tuple #[.agg #[.int .u16 p1,.int .u16 p2],.bool true]) w8)):=ae (hpt.mono fun r w'⟨⟨a,b,_,_,h,h3⟩,h2⟩=>⟨by have:=h3 _ rfl;injection this with e1 e2;subst e1 e2;exact h,h2⟩);have Fh:=ae hst;clear hpt hst;go_upto_region 15 with(go_at_call 286;(with_reducible refine Fg.out.mono ?_);rintro r w9⟨rfl,d9⟩)
    have d10:=after d9 (boxed w9 (.cells #[.int .u16 p1,.int .u16 p2] 342));have vE:=ae (aG.new w9 342 #[.int .u16 p1,.int .u16 p2]);have Zt:=d9.size;generalize w9.alloc (.cells #[.int .u16 p1,.int .u16 p2] 342)=w10 at d10 vE⊢;generalize w9.heap.size=M at Zt vE⊢;obtain⟨mj,mo,fk,QP⟩:=fH (xe.out.below d10) (rf.out.trans (Keeps.of_below d10 fun k hk _=>hk)) (xF.out.below d10 xF.out.lt) (own_below Gz.out d10);clear xe rf xF Gz;clear d10 d9 Fg;have hun:=mj.out.unless aY aY true 193;have jv:af (Calls ai 210 #[.pointer (some ⟨b,0,none⟩),.bool true,.int .i64 193] w10 fun r w'=>r=.returned (.tuple #[])∧Below w10.heap.size w10 w'):=ae hun;clear hun;go_upto_region 16 with(go_at_call 210;(with_reducible refine jv.out.mono ?_);rintro r rh⟨rfl,d11⟩)
    obtain⟨oJ,qp,rJ,zH,GZ⟩:=kp (mj.out.below d11) (mo.out.trans (Keeps.of_below d11 fun k hk _=>hk)) (fk.out.below d11 fk.out.lt) (own_below QP.out d11) (vE.out.below d11 vE.out.lt);clear mj mo fk QP vE;clear d11 jv;obtain⟨-,-,-,x3⟩:=jB rJ;have hro:=oJ.out.room aY aY L;rw[dM hlt]at hro;have pI:=ae hro;clear hro;by_cases h64:64≤L
    ·have hR:=Fh.out;try simp only at hR
     rw[←HL.out,if_pos h64]at hR;rw[decide_eq_false aY]at pI;have mq:af (Calls ai 279 #[.pointer (some ⟨b,0,none⟩),.int .i64 L] rh fun r w'=>r=aP 198 n k∧Below rh.heap.size rh w'):=pI;have MB:=ae hR;clear pI hR Fh h64;go_wp2_with(go_at_call 279;(with_reducible refine mq.out.mono ?_);rintro r w12⟨rfl,d12⟩;unfold aP)
     exact⟨rfl,dZ.bad ((zO.out _ (qp.out.trans (Keeps.of_below d12 fun k hk _=>hk)))) (by rw[MJ.out,MB.out];rfl)⟩
    have hR:=Fh.out;try simp only at hR
    rw[←HL.out,if_neg h64]at hR;rw[decide_eq_true aY]at pI;have mq:af (Calls ai 279 #[.pointer (some ⟨b,0,none⟩),.int .i64 L] rh fun r w'=>r=.returned (.tuple #[])∧Below rh.heap.size rh w'):=pI;have vq:=ae hR;clear pI hR Fh;go_upto_region 17 with(go_at_call 279;(with_reducible refine mq.out.mono ?_);rintro r w12⟨rfl,d12⟩)
    obtain⟨zM,xH,QQ,zP,QR⟩:=kp (oJ.out.below d12) (qp.out.trans (Keeps.of_below d12 fun k hk _=>hk)) (rJ.out.below d12 rJ.out.lt) (own_below zH.out d12) (GZ.out.below d12 GZ.out.lt);clear oJ qp rJ zH GZ;clear d12 mq x3;have x3:=QQ.out.cell 3;have m0:=QR.out.cell 0;have m1:=QR.out.cell 1;simp at x3 m0 m1;have Zv:=xH.out.size;go_wp2_with(at_builtin;refine wpList_append_lies _ rfl _ _ 304 rfl jo.heap.size 342 i0 (.agg #[.int .u16 0,.int .u16 0]) 2 4 Tryz.underlying304 hi hz0 hz1 hz2 rfl aI _ L _ rfl (zP.out.alloc _) ⟨w12.heap.size,0,none⟩ 1 1 [.int .u16 p1,.int .u16 p2] rfl rfl (cD w12 [.int .u16 p1,.int .u16 p2] 342) (by intro u hu;simp at hu;rcases hu with rfl|rfl<;>rfl) aI (by unfold maxLen;omega) aY (by simp;omega) (w12.heap.size+1) (by simp) ?_;intro g' cap' pF hown' hgrow hat mh;have zQ:=ae ((QQ.out.alloc (.cells #[.int .u16 p1,.int .u16 p2] 342)).off (Keeps.row hgrow) (bY (zP.out.alloc (.cells #[.int .u16 p1,.int .u16 p2] 342))) aI);obtain⟨-,-,-,x15⟩:=jB zQ;have z15:=zQ.out.frozen 3;obtain⟨kY,fq⟩:=aQ hown' hgrow;clear hown' hgrow hat mh)
    have KS:Keeps (fun k=>(iC A1 L c1).ownBlock=some k) (w12.alloc (.cells #[.int .u16 p1,.int .u16 p2] 342)) pF:=Keeps.row fq.out;have OS:=bY (zP.out.alloc (.cells #[.int .u16 p1,.int .u16 p2] 342));have aaH:=(zM.out.alloc (.cells #[.int .u16 p1,.int .u16 p2] 342)).off KS OS aI aI;have aaI:=Keeps.grown (xH.out.alloc (.cells #[.int .u16 p1,.int .u16 p2] 342)) fq.out fun g hg=>Or.inr (zP.out.lt g hg).1
    have vC:=aaI.setCell (p:=⟨N,3,none⟩) (Or.inl (Or.inr rfl)) (.slice (some ⟨g',0,none⟩) (L+1) cap');have KN:=(Keeps.refl (fun x=>x=N) pF).setCell (p:=⟨N,3,none⟩) (Or.inl rfl) (.slice (some ⟨g',0,none⟩) (L+1) cap');have ON:Off (fun x=>x=N) pF [306]:=fun k hk=>⟨_,_,_,by subst hk;exact zQ.out,by simp⟩
    have pJ:=aaH.off KN ON aI aI;have vB:=a8 kY.out KN ON aI;have aaJ:aG (pF.setCell ⟨N,3,none⟩ (.slice (some ⟨g',0,none⟩) (L+1) cap')) N 306 #[.slice Ap ps.length cp,.slice As src.length cs,.slice Ad dst.length cd,.slice (some ⟨g',0,none⟩) (L+1) cap']:=zQ.out.aM 3 _;refine⟨⟨k+1,acc++[(p1,p2)],false,_,rfl,by omega,by omega,ae (by rw[aj,←HL.out];simp;omega),ae pJ,ae vC,ae aaJ,ae (by rw[aj,←HL.out,ny];exact vB),vq⟩,?_⟩;rw[pJ.next,yi.out];omega
   ·rw[decide_eq_false hlt0]at hmore;have hR:=hres.out;rw[GU aY]at hR;have HRF:af (RES=.ok (⟨ps,src.map (·.1),dst.map (·.1),acc⟩,src++dst)):=ae (by rw[MJ.out,hR];rfl);have OK:Off (fun x=>x=b∨x=N) jo [235,306]:=fun k hk=>hk.elim (fun e=>⟨_,_,_,by subst e;exact WJ.out.blk,by simp⟩) (fun e=>⟨_,_,_,by subst e;exact QO.out,by simp⟩)
    have HOK:=ae OK;clear hR hres OK;go_upto_region 18 with(go_at_call 282;(with_reducible refine hmore.out.mono ?_);rintro r QS⟨rfl,nA⟩)
    have KK:=hkp.out.trans (Keeps.of_below nA fun k hk _=>hk);obtain⟨G0,QT,MN⟩:=bO (hrs.out.below nA) (zO.out _ KK) (hbn.out.below nA hbn.out.lt);have acY:=ae (acU.out.off KK HOK.out aI);have acZ:=ae (a8 acV.out KK HOK.out aI);have ac0:=ae (a8 acW.out KK HOK.out aI);have ac1:=ae (a8 acX.out KK HOK.out aI);clear acU acV acW acX;have ac2:af (QS.ownsRow w0.heap.size 342 2 (.slice A1 L c1) acc.length (il acc)):=ae (by rw[←HL.out];exact(own_below hown.out nA).mono (by have:=aaF.out.size;omega));clear KK HOK nA hmore hrs hkp hbn hown zO aaG QO WJ aaF;have aeL:w.heap.size≤QS.heap.size:=QT.out.size;have PE:=ae (HP.out.off QT.out Wx.out aI);obtain⟨xs,hxs,hac,hmem⟩:=HN.out.off QT.out Wx.out aI aI aI aI;have Vh:af (some N≠(iC A T cap).ownBlock):=ae fun e=>by
     obtain⟨xs,_,ho,_⟩:=HN.out;have:=(ho.lt N e.symm).2;omega
    rw[←HT.out]at hac;have GM:=ae hxs;have x0:=(PE.out.cell 3).trans hq;have x2:=G0.out.blk.cell 2;have n0:=MN.out.cell 0;have n1:=MN.out.cell 1;have n2:=MN.out.cell 2;have n3:=MN.out.cell 3;simp at x2 n0 n1 n2 n3;obtain⟨jo,dN⟩:∃x,x=(QS.alloc (.cells #[.slice Ap ps.length cp,.slice As src.length cs,.slice Ad dst.length cd,.slice A1 L c1] 306)).drew:=⟨_,rfl⟩;have kZ:af (jo.ownsRow w0.heap.size 306 4 (.slice A T cap) T (mg xs)):=ae (by rw[dN];exact hac.alloc _);have iM:af (∀j u,[.slice Ap ps.length cp,.slice As src.length cs,.slice Ad dst.length cd,.slice A1 L c1][j]? =some u→jo.cell? ((⟨QS.heap.size,0,none⟩:Addr).add j)=some u):=ae (by rw[dN];exact cD QS [.slice Ap ps.length cp,.slice As src.length cs,.slice Ad dst.length cd,.slice A1 L c1] 306);have ln:af (aG jo P 190 pc):=ae (by rw[dN];exact PE.out.alloc _);have vv:af (aG jo N 306 #[.slice Ap ps.length cp,.slice As src.length cs,.slice Ad dst.length cd,.slice A1 L c1]):=ae (by rw[dN];exact MN.out.alloc _);have kE:af (Rs jo b P k n lv uv2 ws):=ae (by rw[dN];exact⟨(G0.out.alloc _).blk,(G0.out.alloc _).row,G0.out.ne,G0.out.len,G0.out.sizes⟩);have Fe:af (Keeps (fun x=>x=b∨uv.ownBlock=some x) w jo):=ae (by rw[dN];exact(QT.out.alloc _).drew);have bE:Below QS.heap.size QS jo:=by rw[dN];have q:=boxed QS (.cells #[.slice Ap ps.length cp,.slice As src.length cs,.slice Ad dst.length cd,.slice A1 L c1] 306);exact⟨q.os,q.tape,q.output,q.size,q.block⟩
    have aaC:af (∀x∈xs,oZ jo w0.heap.size x):=ae fun x hx=>⟨own_below (hmem x hx).p bE,own_below (hmem x hx).s bE,own_below (hmem x hx).d bE,own_below (hmem x hx).o bE⟩
    have aaD:=ae (acY.out.below bE);have HMN:af (oZ jo w0.heap.size ⟨⟨ps,src.map (·.1),dst.map (·.1),acc⟩,.slice Ap ps.length cp,.slice As src.length cs,.slice Ad dst.length cd,.slice A1 L c1⟩):=ae ⟨own_below acZ.out bE,by rw[ay];exact own_below ac0.out bE,by rw[ay];exact own_below ac1.out bE,own_below ac2.out bE⟩;have MA:jo.heap.size=QS.heap.size+1:=by rw[dN];simp
    have y0:=(ln.out.cell 3).trans hq;have y2:=kE.out.blk.cell 2;have v0:=vv.out.cell 0;have v1:=vv.out.cell 1;have v2:=vv.out.cell 2;have v3:=vv.out.cell 3;simp at y2 v0 v1 v2 v3;clear hxs hac hmem bE acY G0 PE MN acZ ac0 ac1 ac2 QT;rw[dN]at kZ iM ln vv y0 y2 v0 v1 v2 v3;refine du 16 (fun w'=>w'.cell? ⟨b,2,none⟩=some (.pointer (some ⟨P,0,none⟩))∧w'.cell? ⟨P,3,none⟩=some (.slice A T cap)∧w'.cell? ⟨N,0,none⟩=some (.slice Ap ps.length cp)∧w'.cell? ⟨N,1,none⟩=some (.slice As src.length cs)∧w'.cell? ⟨N,2,none⟩=some (.slice Ad dst.length cd)∧w'.cell? ⟨N,3,none⟩=some (.slice A1 L c1)) bJ (⟨x2,x0,n0,n1,n2,n3⟩) (fun hHeld=>?_);refine jF 0 ?_
    refine jF 1 ?_
    refine jF 2 ?_
    refine jF 3 ?_
    refine jF 4 ?_
    refine jF 5 ?_
    refine jF 6 ?_
    refine jF 7 ?_
    refine jF 8 ?_
    refine jF 9 ?_
    refine jF 10 ?_
    refine jF 11 ?_
    refine sH 12 fun K hK=>?_;go_simp
    skip
    refine hK.out _ _ (fun _=>⟨y2,y0,v0,v1,v2,v3⟩) (fun hHeld=>?_);have hHeld:=hHeld aI;clear hK K;try simp only[dX]
    refine sH 13 fun K hK=>?_;refine step_append_lies _ (by rfl) _ _ _ (by rfl) w0.heap.size 306 j0 (.agg #[.slice none 0 0,.slice none 0 0,.slice none 0 0,.slice none 0 0]) 4 96 Tryz.underlying188 hj hj0 hj1 hj2 rfl aI _ T _ (by rfl) kZ.out ⟨QS.heap.size,0,none⟩ 1 1 [.slice Ap ps.length cp,.slice As src.length cs,.slice Ad dst.length cd,.slice A1 L c1] (by rfl) rfl iM.out (by intro u hu;simp at hu;rcases hu with rfl|rfl|rfl|rfl<;>rfl) aI (by unfold maxLen;omega) aY (by simp;omega) (QS.heap.size+1) (by simp) ?_;intro g' cap' pF hown' hgrow hat mh;have BP:=ae (ln.out.off (Keeps.row hgrow) (bY kZ.out) aI);have fk:=vv.out.grown hgrow Vh.out;have p0:=(BP.out.cell 3).trans hq;have pz:=BP.out.frozen 3;have m0:=fk.cell 0;have m1:=fk.cell 1;have m2:=fk.cell 2;have m3:=fk.cell 3;rw[←dN]at hgrow kZ;have R15:=ae (kE.out.off (Keeps.row hgrow) (bY kZ.out) aI aI);have U15:=ae (aaD.out.off (Keeps.row hgrow) (bY kZ.out) aI);have aaE:=ae (HMN.out.keep (Keeps.row hgrow) (bY kZ.out) aI aI aI);have zI:=ae fun x hx=>(aaC.out x hx).keep (Keeps.row hgrow) (bY kZ.out) aI aI (by decide)
    have p2:=R15.out.blk.cell 2;simp at m0 m1 m2 m3 p2;obtain⟨kY,fq,Mc⟩:=bO hown' hgrow hat;clear hown' hgrow hat mh fk;refine hK.out _ _ (fun _=>⟨p2,p0,m0,m1,m2,m3⟩) (fun hHeld=>?_);have hHeld:=hHeld aI;clear hK K;try simp only[dX]
    refine sH 14 fun K hK=>?_;go_simp;refine hK.out _ _ (fun _=>hHeld) (fun hHeld=>?_);have hHeld:=hHeld aI;clear hK K;try simp only[dX]
    refine jF 15 ?_
    refine sH 16 fun K hK=>?_;go_simp;refine hK.out _ _ (fun h=>absurd rfl h) (fun _=>?_);clear hK K hHeld;try simp only[dX]
    refine zdE ?_;go_wp2_with fail
    have KQ:=(Keeps.refl (fun x=>x=P) pF).setCell (p:=⟨P,3,none⟩) (Or.inl rfl) (.slice (some ⟨g',0,none⟩) (T+1) cap');have OQ:Off (fun x=>x=P) pF [190]:=fun k hk=>⟨_,_,_,by subst hk;exact BP.out,by simp⟩
    have K2:=(Keeps.grown (FIN.out _ Fe.out) fq.out fun k hk=>Or.inl (Or.inr (Or.inr (Or.inl hk)))).setCell (p:=⟨P,3,none⟩) (Or.inl (Or.inr (Or.inl rfl))) (.slice (some ⟨g',0,none⟩) (T+1) cap');have B2:aG (pF.setCell ⟨P,3,none⟩ (.slice (some ⟨g',0,none⟩) (T+1) cap')) P 190 (pc.setIfInBounds 3 (.slice (some ⟨g',0,none⟩) (T+1) cap')):=BP.out.aM 3 _;refine⟨rfl,_,results_none rfl _ _ _,dZ.good HRF.out K2 ⟨rfl,_,_,_,R15.out.off KQ OQ aI aI,B2,⟨xs++[⟨⟨ps,src.map (·.1),dst.map (·.1),acc⟩,.slice Ap ps.length cp,.slice As src.length cs,.slice Ad dst.length cd,.slice A1 L c1⟩],?_,?_,?_⟩,?_,?_,HG2.out,by rw[aj];omega⟩⟩
    ·rw[eT,GM.out];rfl
    ·rw[aj,←HT.out,qn];exact a8 kY.out KQ OQ (by decide)
    ·intro x hx;rcases List.mem_append.1 hx with hx|hx
     ·exact(zI.out x hx).keep KQ OQ aI aI (by decide)
     ·rw[List.mem_singleton.1 hx];exact aaE.out.keep KQ OQ aI aI (by decide)
    ·rw[sZ,←aZ];exact U15.out.off KQ OQ (by decide)
    ·intro g hg;have hgg:some g'=some g:=hg;injection hgg with hgg
     rcases Mc.out with h|h
     ·exact Or.inl (hgg▸h)
     ·exact Or.inr (by omega)
end Go.Proofs.YtdfnhljccdoncaaGreatDoor
