/- Joined out of: PlN PlO. -/
import Derived.Test.YtdfnhljccdoncaaGreatDoorNah
set_option linter.unusedVariables false
set_option linter.unusedSimpArgs false
set_option maxHeartbeats 16000000
set_option maxRecDepth 100000
open Go.ByteArray renaming toList_eq→cM
open Go.IntKind renaming wrap_i64→agp
open Go.Lib renaming hid→ae
open Go.Proofs.Tryz renaming prog→ai
open Go.RowKit renaming Hid→af
open Go.Value renaming slice→iC
open List renaming length_append→aj,length_map→ay,append_assoc→aZ,drop_eq_getElem_cons→bP,eq_nil_of_length_eq_zero→bS,map_append→eT,mem_of_getElem?→rX,drop_eq_nil_of_le→sU,map_singleton→agd
namespace Go.Proofs.YtdfnhljccdoncaaGreatDoor
open Go.RowKit
attribute [local go_sem↓] Go.wp_at_zero Go.wp_at_succ
theorem Qq{ws:List ByteArray}{told:List Hs}(hne:ws≠[]):sG ws told=if 64≤told.length then .error (198,0)else match ws[1]? with
 |none=>.error (190,ws.length)
 |some nm=>if cn nm=false then .error (191,1)else if xo told nm=true then .error (197,1)else match ws[2]? with
  |none=>.error (190,ws.length)
  |some e=>if e≠Cm then .error (190,2)else match ws[3]? with
   |none=>.error (190,ws.length)
   |some t=>match hZ t.data.toList with
    |none=>.error (192,3)
    |some pf=>if 4<ws.length then .error (190,4)else .ok ⟨nm,pf⟩:=by
 unfold sG;by_cases h:64≤told.length
 ·rw[if_pos h,if_pos h]
 rw[if_neg h,if_neg h]
 match ws with
 |[]=>exact absurd rfl hne
 |[a]=>rfl
 |[a,nm]=>rfl
 |[a,nm,e]=>rfl
 |a::nm::e::t::r=>
  simp only[List.getElem?_cons_succ,List.getElem?_cons_zero];cases r with
  |nil=>simp;cases hZ t.data.toList<;>rfl
  |cons s r=>simp;cases hZ t.data.toList<;>rfl
theorem bN{S:Nat→Prop}{w0 w w':World}(h:Below w0.heap.size w0 w)(hk:Keeps S w w')(hS:∀k,S k→w0.heap.size≤k):Below w0.heap.size w0 w':=h.trans (hk.below hS h.size)
def aaw(w:World)(b P n base:Nat)(lv uv lst:Value)(ws:List ByteArray)(told:List Hs)(pc:Array Value)(w':World)(x:Hs)(r:Ending):Prop:=r=.returned (.tuple #[])∧∃k' lst',Rs w' b P k' n lv uv ws∧aG w' P 190 (pc.setIfInBounds 2 lst')∧w'.ownsRow base 300 5 lst' (told++[x]).length (eF (told++[x]))∧∀g,lst'.ownBlock=some g→lst.ownBlock=some g∨w.heap.size≤g
theorem Qr{w0 w:World}(env:Env w0)(hE:Below w0.heap.size w0 w){b P n:Nat}{lv uv lst:Value}{ws:List ByteArray}{told:List Hs}{pc:Array Value}(h:Rs w b P 1 n lv uv ws)(hP:aG w P 190 pc)(hq:pc[2]? =some lst)(hN:w.ownsRow w0.heap.size 300 5 lst told.length (eF told))(hbb:w0.heap.size≤b):Calls ai 247 #[.pointer (some ⟨b,0,none⟩)] w fun r w'=>dZ (fun k=>k=b) (fun k=>k=b∨k=P∨lst.ownBlock=some k) w w' (sG ws told) n (aaw w b P n w0.heap.size lv uv lst ws told pc w') r:=by
 obtain⟨A,cap,rfl⟩:=aL hN;have hlen1:1≤ws.length:=by
  have:=h.ne;cases ws with
  |nil=>exact absurd rfl this
  |cons x r=>simp
 obtain⟨T,hT⟩:∃t,t=told.length:=⟨_,rfl⟩;rw[←hT]at hq hN⊢;have hPb:P≠b:=hP.xc h.blk aI;have c0:=(hP.cell 2).trans hq;have c1:=h.blk.cell 2;simp at c1;have hroom:=h.room aY aY T;rw[show EY 1 ws=0 by unfold EY;rw[if_pos hlen1]]at hroom;obtain⟨RES,dY⟩:∃r,r=sG ws told:=⟨_,rfl⟩;rw[←dY];rw[Qq h.ne,←hT]at dY;have hbs:w0.heap.size≤w.heap.size:=hE.size;obtain⟨jJ,H,HP,HN,iZ,HT,HE,tM⟩:=af0 hroom h hP hN dY hT hE env;clear hroom h hP hN dY hT hE env;go_enter Tryz.func247,Tryz.ntmps247;go_wp2_with fail
 go_at_call 279;refine jJ.out.mono ?_;rintro r w1⟨h1,d1⟩;by_cases Df:T<64
 case neg=>
  rw[decide_eq_false Df]at h1;unfold eV at h1;subst h1;unfold aP;exact⟨rfl,dZ.bad (Keeps.of_below d1 fun k hk _=>hk) (by rw[iZ.out,if_pos aY])⟩
 rw[decide_eq_true Df]at h1;unfold eV at h1;subst h1;obtain⟨H1,lT,jI,og⟩:=fH (H.out.below d1) (HP.out.below d1 HP.out.lt) (own_below HN.out d1) (Keeps.of_below (S:=fun x=>x=b) d1 fun k hk _=>hk);have hR1:=iZ.out;rw[if_neg aY]at hR1;have HR1:=ae hR1;clear hR1 iZ jJ d1 H HP c0 c1;have hname:=H1.out.name aY;unfold qf at hname;have nz:=ae hname;clear hname;go_wp2_with fail
 go_at_call 280;refine nz.out.mono ?_;rintro r w2⟨⟨d2,e2⟩,h2⟩;have kx:=ae (og.out.trans d2);cases hs1:ws[1]? with
 |none=>
  rw[hs1]at h2;simp only at h2;subst h2;unfold aP;have hR:=HR1.out;rw[hs1]at hR;exact⟨rfl,dZ.bad (kx.out) hR⟩
 |some nm=>
 rw[hs1]at h2;simp only at h2;have hR2:=HR1.out;rw[hs1]at hR2;simp only at hR2;by_cases hlab:cn nm=true
 case neg=>
  have hlf:cn nm=false:=by simpa using hlab
  rw[if_neg hlab]at h2;subst h2;unfold aP;rw[if_pos hlf]at hR2;exact⟨rfl,dZ.bad (kx.out) hR2⟩
 rw[if_pos hlab]at h2;subst h2;rw[if_neg (by simp[hlab])]at hR2;obtain⟨HR2,H2,HP2⟩:=bO hR2 e2 (lT.out.keep d2 hPb);have OB1:Off (fun x=>x=b) w1 [235]:=fun k hk=>⟨_,_,_,by subst hk;exact H1.out.blk,by simp⟩
 have lU:=ae (a8 jI.out d2 OB1 aI);clear hR2 HR1 nz jI lT H1 og e2 d2 hlab OB1;go_wp2_with fail
 have hB3:=ae (aG.new w2 300 #[.string nm,.bool false,.int .u64 0,.int .u64 0,.int .u8 0]);have hb3:=boxed w2 (.cells #[.string nm,.bool false,.int .u64 0,.int .u64 0,.int .u8 0] 300);obtain⟨H3,fJ,yA,iD⟩:=fH (H2.out.below hb3) (HP2.out.alloc (.cells #[.string nm,.bool false,.int .u64 0,.int .u64 0,.int .u8 0] 300)) (own_below lU.out hb3) (kx.out.alloc (.cells #[.string nm,.bool false,.int .u64 0,.int .u64 0,.int .u8 0] 300));have hsz3:w2.heap.size<(w2.alloc (.cells #[.string nm,.bool false,.int .u64 0,.int .u64 0,.int .u8 0] 300)).heap.size:=by simp
 have aav:w.heap.size≤w2.heap.size:=kx.out.size;clear H2 HP2 lU kx hb3;generalize w2.alloc (.cells #[.string nm,.bool false,.int .u64 0,.int .u64 0,.int .u8 0] 300)=w3 at hB3 H3 fJ yA iD hsz3⊢;generalize w2.heap.size=N at hB3 hsz3 aav⊢;have hNb:N≠b:=hB3.out.xc H3.out.blk aI;have hNP:N≠P:=hB3.out.xc fJ.out aI;have HAN:=ae fun g hg=>(HN.out.lt g hg).2
 have hhas:=sS (w:=w3.drew) told (by have:=HT.out;omega) _ (aV.V6 (show w3.drew.ownsRow _ _ _ _ _ _ from yA.out) HT.out.symm) nm;have x0:=(fJ.out.cell 2).trans hq;have x1:=hB3.out.cell 0;have x2:=H3.out.blk.cell 2;simp at x1 x2;have hun:=fun W(hW:Rs W b P (1+1) n lv uv ws)(is:Bool)=>hW.unless aY aY is 197
 rw[dM (by have:=(List.getElem?_eq_some_iff.1 hs1).1;omega)]at hun;have rG:af (Calls ai 251 #[.slice A T cap,.string nm] w3.drew (Got (.bool (xo told nm)) w3.drew)):=ae hhas;have jv:=ae hun;clear hhas hun;by_cases hh:xo told nm=true
 ·rw[hh]at rG;have hR:=HR2.out;rw[if_pos hh]at hR;have HR:=ae hR;have zG:af (∀(W:World),Rs W b P (1+1) n lv uv ws→Calls ai 210 #[.pointer (some ⟨b,0,none⟩),.bool false,.int .i64 197] W fun r w'=>r=aP 197 n 1∧Below W.heap.size W w'):=ae fun W hW=>jv.out W hW false
  clear hR hh HR2 jv;refine wp_region_held_drew (S:=(fun w'=>w'.cell? ⟨b,2,none⟩=some (.pointer (some ⟨P,0,none⟩))∧w'.cell? ⟨P,2,none⟩=some (.slice A T cap)∧w'.cell? ⟨N,0,none⟩=some (.string nm))) bJ (⟨x2,x0,x1⟩) (fun hHeld=>?_);refine bB 0 ?_
  refine bB 1 ?_
  refine bB 2 ?_
  refine bB 3 ?_
  refine bB 4 ?_
  refine bB 5 ?_
  refine bB 6 ?_
  refine bB 7 ?_
  refine bB 8 ?_
  refine bB 9 ?_
  refine mM 10 fun K hK=>?_;go_simp;refine rG.out.mono ?_;rintro r w4⟨rfl,d4⟩;have e4:Below w3.heap.size w3 w4:=⟨d4.os,d4.tape,d4.output,d4.size,d4.block⟩;have y0:=((fJ.out.below e4 fJ.out.lt).cell 2).trans hq;have y1:=(hB3.out.below e4 hB3.out.lt).cell 0;have y2:=(H3.out.below e4).blk.cell 2;simp at y1 y2;refine hK.out _ _ (⟨y2,y0,y1⟩) (fun hHeld=>?_);clear hK K;try simp only[dX]
  refine bB 11 ?_
  refine mM 12 fun K hK=>?_;go_simp;refine(zG.out _ (H3.out.below e4)).mono ?_;rintro r w5⟨rfl,d5⟩;unfold aP;exact⟨rfl,dZ.bad (((iD.out.trans (Keeps.of_below e4 fun k hk _=>hk)).trans (Keeps.of_below d5 fun k hk _=>hk))) HR.out⟩
 have hhf:xo told nm=false:=by simpa using hh
 rw[hhf]at rG;have hR:=HR2.out;rw[if_neg hh]at hR;have HR:=ae hR;have zG:af (∀(W:World),Rs W b P (1+1) n lv uv ws→Calls ai 210 #[.pointer (some ⟨b,0,none⟩),.bool true,.int .i64 197] W fun r w'=>r=.returned (.tuple #[])∧Below W.heap.size W w'):=ae fun W hW=>jv.out W hW true
 clear hR hh hhf HR2 jv;refine wp_region_held_drew (S:=(fun w'=>w'.cell? ⟨b,2,none⟩=some (.pointer (some ⟨P,0,none⟩))∧w'.cell? ⟨P,2,none⟩=some (.slice A T cap)∧w'.cell? ⟨N,0,none⟩=some (.string nm))) bJ (⟨x2,x0,x1⟩) (fun hHeld=>?_);refine bB 0 ?_
 refine bB 1 ?_
 refine bB 2 ?_
 refine bB 3 ?_
 refine bB 4 ?_
 refine bB 5 ?_
 refine bB 6 ?_
 refine bB 7 ?_
 refine bB 8 ?_
 refine bB 9 ?_
 refine mM 10 fun K hK=>?_;go_simp;refine rG.out.mono ?_;rintro r w4⟨rfl,d4⟩;have e4:Below w3.heap.size w3 w4:=⟨d4.os,d4.tape,d4.output,d4.size,d4.block⟩;have y0:=((fJ.out.below e4 fJ.out.lt).cell 2).trans hq;have y1:=(hB3.out.below e4 hB3.out.lt).cell 0;have y2:=(H3.out.below e4).blk.cell 2;simp at y1 y2;refine hK.out _ _ (⟨y2,y0,y1⟩) (fun hHeld=>?_);clear hK K;try simp only[dX]
 refine bB 11 ?_
 refine mM 12 fun K hK=>?_;go_simp;refine(zG.out _ (H3.out.below e4)).mono ?_;rintro r w5⟨rfl,d5⟩;have e5:=after e4 d5;have z0:=((fJ.out.below e5 fJ.out.lt).cell 2).trans hq;have z1:=(hB3.out.below e5 hB3.out.lt).cell 0;have z2:=(H3.out.below e5).blk.cell 2;simp at z1 z2;refine hK.out _ _ (⟨z2,z0,z1⟩) (fun hHeld=>?_);clear hK K;try simp only[dX]
 refine tX ?_;obtain⟨H5,Fb,nt,HN5,BO⟩:=kp (H3.out.below e5) (fJ.out.below e5 fJ.out.lt) (hB3.out.below e5 hB3.out.lt) (own_below yA.out e5) (iD.out.trans (Keeps.of_below e5 fun k hk _=>hk));have hsz5:w3.heap.size≤w5.heap.size:=e5.size;clear H3 fJ hB3 yA iD e4 e5 d5 d4 y0 y1 y2 z0 z1 z2 x0 x1 x2 hHeld rG zG;have gG:=H5.out.must (by have:=(List.getElem?_eq_some_iff.1 hs1).1;omega) Cm;unfold oW at gG;have kF:af (Calls ai 281 #[.pointer (some ⟨b,0,none⟩),.string ⟨#[61]⟩] w5 _):=ae gG;clear gG;go_wp2_with fail
 go_at_call 281;refine kF.out.mono ?_;rintro r w6⟨⟨d6,e6⟩,h6⟩;have rI:=ae (BO.out.trans d6);have gW:=HR.out;cases hs2:ws[2]? with
 |none=>
  rw[show 1+1=2 from rfl,hs2]at h6;simp only at h6;subst h6;unfold aP;rw[hs2]at gW;exact⟨rfl,dZ.bad (rI.out) gW⟩
 |some eq=>
 rw[show 1+1=2 from rfl,hs2]at h6;rw[hs2]at gW;simp only at h6 gW;by_cases heq:eq=Cm
 case neg=>
  rw[if_neg heq]at h6;subst h6;unfold aP;rw[if_pos heq]at gW;exact⟨rfl,dZ.bad (rI.out) gW⟩
 rw[if_pos heq]at h6;rw[if_neg (by simp[heq])]at gW;subst h6;have hlen3:3≤ws.length:=by have:=(List.getElem?_eq_some_iff.1 hs2).1;omega
 obtain⟨CZ,H6,Wg,ku⟩:=fH gW e6 (Fb.out.keep d6 hPb) (nt.out.keep d6 hNb);have OB5:Off (fun x=>x=b) w5 [235]:=fun k hk=>⟨_,_,_,by subst hk;exact H5.out.blk,by simp⟩
 have HN6:=ae (a8 HN5.out d6 OB5 aI);clear kF gW HR BO Fb nt HN5 H5 d6 e6 hs1 hs2 heq OB5;have htake:=H6.out.take hlen3;unfold iI at htake;have jK:=ae htake;clear htake;go_wp2_with fail
 go_at_call 209;refine jK.out.mono ?_;rintro r w7⟨⟨d7,e7⟩,h7⟩;have xf:=ae (rI.out.trans d7);have Vi:=CZ.out;cases hs3:ws[3]? with
 |none=>
  rw[show 1+1+1=3 from rfl,hs3]at h7;simp only at h7;subst h7;unfold aP;rw[hs3]at Vi;exact⟨rfl,dZ.bad (xf.out) Vi⟩
 |some t=>
 rw[show 1+1+1=3 from rfl,hs3]at h7;rw[hs3]at Vi;simp only at h7 Vi;subst h7;have acC:3<ws.length:=(List.getElem?_eq_some_iff.1 hs3).1;have hts:t.size≤2000000:=H6.out.sizes t (rX hs3);obtain⟨H7,HP7,xd⟩:=bO e7 (Wg.out.keep d7 hPb) (ku.out.keep d7 hNb);have OB6:Off (fun x=>x=b) w6 [235]:=fun k hk=>⟨_,_,_,by subst hk;exact H6.out.blk,by simp⟩
 have HN7:=ae (a8 HN6.out d7 OB6 aI);have hE7:=bN HE.out xf.out (fun k hk=>by subst hk;exact hbb);have hrd:=np (tM.out.below hE7) t hts;clear jK CZ rI Wg ku HN6 H6 d7 e7 hs3 OB6 hE7;cases hp:hZ t.data.toList with
 |none=>
  rw[hp]at hrd Vi;have kE:af (Calls ai 283 #[.string t] w7 (Got (.tuple #[.agg #[.bool false,.int .u64 0,.int .u64 0,.int .u8 0],.int .i64 8]) w7)):=ae hrd;have Dh:=ae Vi;clear hrd Vi hp;go_upto_region 5 with(go_at_call 283;(with_reducible refine kE.out.mono ?_);rintro r w8⟨rfl,d8⟩)
  have d9:=after d8 (boxed w8 (.cells #[.bool false,.int .u64 0,.int .u64 0,.int .u8 0] 243));have hun:=(H7.out.below d9).unless aY aY false 192;rw[show EY (1+1+1+1) ws=3 from dM acC]at hun;have jv:af (Calls ai 210 #[.pointer (some ⟨b,0,none⟩),.bool false,.int .i64 192] (w8.alloc (.cells #[.bool false,.int .u64 0,.int .u64 0,.int .u8 0] 243)) fun r w'=>r=aP 192 n 3∧Below _ _ w'):=ae hun;have HD:=ae d9;clear hun d9 d8;go_wp2_with(go_at_call 210;(with_reducible refine jv.out.mono ?_);rintro r w9⟨rfl,d9⟩;unfold aP)
  exact⟨rfl,dZ.bad ((xf.out.trans (Keeps.of_below (after HD.out d9) fun k hk _=>hk))) Dh.out⟩
 |some pf=>
 obtain⟨⟨a1,a2,a3⟩,a4⟩:=pf;rw[hp]at hrd Vi;have kE:af (Calls ai 283 #[.string t] w7 (Got (.tuple #[.agg #[.bool a1,.int .u64 a2,.int .u64 a3,.int .u8 a4],.int .i64 0]) w7)):=ae hrd;have Dh:=ae Vi;clear hrd Vi hp;go_upto_region 5 with(go_at_call 283;(with_reducible refine kE.out.mono ?_);rintro r w8⟨rfl,d8⟩)
 have d9:=after d8 (boxed w8 (.cells #[.bool a1,.int .u64 a2,.int .u64 a3,.int .u8 a4] 243));have Zt:=aG.new w8 243 #[.bool a1,.int .u64 a2,.int .u64 a3,.int .u8 a4];have hMs:w8.heap.size<(w8.alloc (.cells #[.bool a1,.int .u64 a2,.int .u64 a3,.int .u8 a4] 243)).heap.size:=by simp
 have hM8:=d8.size;generalize w8.alloc (.cells #[.bool a1,.int .u64 a2,.int .u64 a3,.int .u8 a4] 243)=w9 at d9 Zt hMs⊢;generalize w8.heap.size=M at Zt hMs hM8⊢;obtain⟨H9,HP9,HB9,HN9,HK9,Zu⟩:=tU (H7.out.below d9) (HP7.out.below d9 HP7.out.lt) (xd.out.below d9 xd.out.lt) (own_below HN7.out d9) (xf.out.trans (Keeps.of_below d9 fun k hk _=>hk)) Zt;have hun:=H9.out.unless aY aY true 192;have jv:af (Calls ai 210 #[.pointer (some ⟨b,0,none⟩),.bool true,.int .i64 192] w9 fun r w'=>r=.returned (.tuple #[])∧Below _ _ w'):=ae hun;clear hun d9 d8 Zt H7 HP7 xd HN7 xf;go_upto_region 6 with(go_at_call 210;(with_reducible refine jv.out.mono ?_);rintro r w10⟨rfl,d10⟩)
 obtain⟨H10,acD,vw,Qs,acE,aax⟩:=tU (H9.out.below d10) (HP9.out.below d10 HP9.out.lt) (HB9.out.below d10 HB9.out.lt) (Zu.out.below d10 Zu.out.lt) (own_below HN9.out d10) (HK9.out.trans (Keeps.of_below d10 fun k hk _=>hk));have afy:w.heap.size≤w10.heap.size:=aax.out.size;clear jv H9 HP9 HB9 Zu HN9 HK9 d10;have m0:=Qs.out.cell 0;have m1:=Qs.out.cell 1;have m2:=Qs.out.cell 2;have m3:=Qs.out.cell 3;have b1:=vw.out.cell 1;have b2:=vw.out.cell 2;have b3:=vw.out.cell 3;have b4:=vw.out.cell 4;have z1:=vw.out.frozen 1;have z2:=vw.out.frozen 2;have z3:=vw.out.frozen 3;have z4:=vw.out.frozen 4;simp at m0 m1 m2 m3 b1 b2 b3 b4;go_upto_region 7 with fail
 obtain⟨rh,Wj⟩:∃rh,rh=(((w10.setCell ⟨N,1,none⟩ (.bool a1)).setCell ⟨N,2,none⟩ (.int .u64 a2)).setCell ⟨N,3,none⟩ (.int .u64 a3)).setCell ⟨N,4,none⟩ (.int .u8 a4):=⟨_,rfl⟩;have Qu:aG rh N 300 #[.string nm,.bool a1,.int .u64 a2,.int .u64 a3,.int .u8 a4]:=by
  rw[Wj];exact(((vw.out.aM 1 (.bool a1)).aM 2 (.int .u64 a2)).aM 3 (.int .u64 a3)).aM 4 (.int .u8 a4)
 have K11:Keeps (fun x=>x=N) w10 rh:=by
  rw[Wj];exact((((Keeps.refl (fun x=>x=N) w10).setCell (p:=⟨N,1,none⟩) (Or.inl rfl) _).setCell (p:=⟨N,2,none⟩) (Or.inl rfl) _).setCell (p:=⟨N,3,none⟩) (Or.inl rfl) _).setCell (p:=⟨N,4,none⟩) (Or.inl rfl) _
 rw[←Wj];clear Wj m0 m1 m2 m3 b1 b2 b3 b4 z1 z2 z3 z4;have O11:Off (fun x=>x=N) w10 [300]:=fun k hk=>⟨_,_,_,by subst hk;exact vw.out,by simp⟩
 have H11:=ae (H10.out.off K11 O11 aI aI);have aay:=ae (acD.out.off K11 O11 aI);have acF:=ae (jt acE.out K11 fun g hg e=>by have:=HAN.out g hg;omega);have Qu:=ae Qu;have Qv:af (Keeps (fun k=>k=b) w rh):=ae (((aax.out.mono (T:=fun x=>x=b∨x=N) fun k _ hk=>Or.inl hk).trans (K11.mono fun k _ hk=>Or.inr hk)).mono fun k hk hs=>hs.elim id fun e=>absurd hk aY);have afz:w.heap.size≤rh.heap.size:=Qv.out.size;clear H10 acD vw Qs acE aax K11 O11 hMs hM8;have hmore:=ae H11.out.more;by_cases h4:4<ws.length
 ·rw[show decide (1+1+1+1<ws.length)=true from decide_eq_true h4]at hmore;have hR:=Dh.out;rw[if_pos h4]at hR;have HR:=ae hR;clear hR Dh;obtain⟨s4,hs4⟩:∃s,ws[4]? =some s:=⟨_,List.getElem?_eq_getElem h4⟩;go_upto_region 8 with(go_at_call 282;(with_reducible refine hmore.out.mono ?_);rintro r w12⟨rfl,d12⟩)
  have htake:=(H11.out.below d12).take aY;unfold iI at htake;rw[show 1+1+1+1=4 from rfl,hs4]at htake;have jK:af (Calls ai 209 #[.pointer (some ⟨b,0,none⟩)] w12 fun r w'=>(Keeps (fun x=>x=b) w12 w'∧Rs w' b P (4+1) n lv uv ws)∧r=.returned (.string s4)):=ae htake;have Qw:=ae (Qv.out.trans (Keeps.of_below d12 fun k hk _=>hk));clear htake d12 Qv H11;go_upto_region 9 with(go_at_call 209;(with_reducible refine jK.out.mono ?_);rintro r Di⟨⟨d13,e13⟩,rfl⟩)
  have hwr:=e13.wrong aY aY 190;rw[dM h4]at hwr;have HWr:af (Calls ai 249 #[.pointer (some ⟨b,0,none⟩),.int .i64 190] Di fun r w'=>r=aP 190 n 4∧Below _ _ w'):=ae hwr;have aeD:=ae (Qw.out.trans d13);clear hwr d13 e13 Qw;go_wp2_with(go_at_call 249;(with_reducible refine HWr.out.mono ?_);rintro r jo⟨rfl,lp⟩;unfold aP)
  exact⟨rfl,dZ.bad (aeD.out.trans (Keeps.of_below lp fun k hk _=>hk)) HR.out⟩
 rw[show decide (1+1+1+1<ws.length)=false from decide_eq_false h4]at hmore;have hR:=Dh.out;rw[if_neg h4]at hR;have HR:=ae hR;clear hR Dh;go_upto_region 10 with(go_at_call 282;(with_reducible refine hmore.out.mono ?_);rintro r w12⟨rfl,d12⟩)
 obtain⟨H12,acG,Md,aeE,Qw⟩:=kp (H11.out.below d12) (aay.out.below d12 aay.out.lt) (Qu.out.below d12 Qu.out.lt) (own_below acF.out d12) (Qv.out.trans (Keeps.of_below d12 fun k hk _=>hk));have Zv:=Qw.out.size;clear hmore H11 aay Qu acF Qv d12;obtain⟨j0,hj,hj0,hj1,hj2⟩:=info_parts V8;have x0:=(acG.out.cell 2).trans hq;have x2:=H12.out.blk.cell 2;have u0:=Md.out.cell 0;have u1:=Md.out.cell 1;have u2:=Md.out.cell 2;have u3:=Md.out.cell 3;have u4:=Md.out.cell 4;simp at x2 u0 u1 u2 u3 u4;obtain⟨jo,dN⟩:∃x,x=(w12.alloc (.cells #[.string nm,.bool a1,.int .u64 a2,.int .u64 a3,.int .u8 a4] 300)).drew:=⟨_,rfl⟩;have kZ:af (jo.ownsRow w0.heap.size 300 5 (.slice A T cap) T (eF told)):=ae (by rw[dN];exact aeE.out.alloc _);have iM:af (∀j u,[.string nm,.bool a1,.int .u64 a2,.int .u64 a3,.int .u8 a4][j]? =some u→jo.cell? ((⟨w12.heap.size,0,none⟩:Addr).add j)=some u):=ae (by rw[dN];exact cD w12 [.string nm,.bool a1,.int .u64 a2,.int .u64 a3,.int .u8 a4] 300);have ln:af (aG jo P 190 pc):=ae (by rw[dN];exact acG.out.alloc _);have vv:af (aG jo N 300 #[.string nm,.bool a1,.int .u64 a2,.int .u64 a3,.int .u8 a4]):=ae (by rw[dN];exact Md.out.alloc _);have Me:af (Rs jo b P (1+1+1+1) n lv uv ws):=ae (by rw[dN];exact⟨(H12.out.alloc _).blk,(H12.out.alloc _).row,H12.out.ne,H12.out.len,H12.out.sizes⟩);have Fe:af (Keeps (fun k=>k=b∨k=P∨(iC A T cap).ownBlock=some k) w jo):=ae (by rw[dN];exact((Qw.out.mono fun k _ hk=>Or.inl hk).alloc _).drew);have MA:jo.heap.size=w12.heap.size+1:=by rw[dN];simp
 have y0:=(ln.out.cell 2).trans hq;have y2:=Me.out.blk.cell 2;have v0:=vv.out.cell 0;have v1:=vv.out.cell 1;have v2:=vv.out.cell 2;have v3:=vv.out.cell 3;have v4:=vv.out.cell 4;simp at y2 v0 v1 v2 v3 v4;have Vh:af (some N≠(iC A T cap).ownBlock):=ae fun e=>by have:=HAN.out N e.symm;omega
 rw[dN]at kZ iM ln vv y0 y2 v0 v1 v2 v3 v4;refine du 16 (fun w'=>w'.cell? ⟨b,2,none⟩=some (.pointer (some ⟨P,0,none⟩))∧w'.cell? ⟨P,2,none⟩=some (.slice A T cap)∧w'.cell? ⟨N,0,none⟩=some (.string nm)∧w'.cell? ⟨N,1,none⟩=some (.bool a1)∧w'.cell? ⟨N,2,none⟩=some (.int .u64 a2)∧w'.cell? ⟨N,3,none⟩=some (.int .u64 a3)∧w'.cell? ⟨N,4,none⟩=some (.int .u8 a4)) bJ (⟨x2,x0,u0,u1,u2,u3,u4⟩) (fun hHeld=>?_);refine jF 0 ?_
 refine jF 1 ?_
 refine jF 2 ?_
 refine jF 3 ?_
 refine jF 4 ?_
 refine jF 5 ?_
 refine jF 6 ?_
 refine jF 7 ?_
 refine jF 8 ?_
 refine jF 9 ?_
 refine jF 10 ?_
 refine jF 11 ?_
 refine sH 12 fun K hK=>?_;go_simp
 skip
 refine hK.out _ _ (fun _=>⟨y2,y0,v0,v1,v2,v3,v4⟩) (fun hHeld=>?_);have hHeld:=hHeld aI;clear hK K;try simp only[dX]
 refine sH 13 fun K hK=>?_;refine step_append_lies _ (by rfl) _ _ _ (by rfl) w0.heap.size 300 j0 (.agg #[.string ⟨#[]⟩,.bool false,.int .u64 0,.int .u64 0,.int .u8 0]) 5 48 Tryz.underlying187 hj hj0 hj1 hj2 rfl aI _ T _ (by rfl) kZ.out ⟨w12.heap.size,0,none⟩ 1 1 [.string nm,.bool a1,.int .u64 a2,.int .u64 a3,.int .u8 a4] (by rfl) rfl iM.out (by intro u hu;simp at hu;rcases hu with rfl|rfl|rfl|rfl|rfl<;>rfl) aI (by unfold maxLen;omega) aY (by simp;omega) (w12.heap.size+1) (by simp) ?_;intro g' cap' pF hown' hgrow hat mh;have BP:=ae (ln.out.off (Keeps.row hgrow) (bY kZ.out) aI);have fk:=vv.out.grown hgrow Vh.out;have p0:=(BP.out.cell 2).trans hq;have pz:=BP.out.frozen 2;have n0:=fk.cell 0;have n1:=fk.cell 1;have n2:=fk.cell 2;have n3:=fk.cell 3;have n4:=fk.cell 4;rw[←dN]at hgrow kZ;have R15:=ae (Me.out.off (Keeps.row hgrow) (bY kZ.out) aI aI);have p2:=R15.out.blk.cell 2;simp at n0 n1 n2 n3 n4 p2;obtain⟨kY,fq,Mc⟩:=bO hown' hgrow hat;clear hown' hgrow hat mh fk;refine hK.out _ _ (fun _=>⟨p2,p0,n0,n1,n2,n3,n4⟩) (fun hHeld=>?_);have hHeld:=hHeld aI;clear hK K;try simp only[dX]
 refine sH 14 fun K hK=>?_;go_simp;refine hK.out _ _ (fun _=>hHeld) (fun hHeld=>?_);have hHeld:=hHeld aI;clear hK K;try simp only[dX]
 refine jF 15 ?_
 refine sH 16 fun K hK=>?_;go_simp;refine hK.out _ _ (fun h=>absurd rfl h) (fun _=>?_);clear hK K hHeld;try simp only[dX]
 refine zdE ?_;go_wp2_with fail
 have K2:=(Keeps.grown Fe.out fq.out fun k hk=>Or.inl (Or.inr (Or.inr hk))).setCell (p:=⟨P,2,none⟩) (Or.inl (Or.inr (Or.inl rfl))) (.slice (some ⟨g',0,none⟩) (T+1) cap');have KQ:=(Keeps.refl (fun x=>x=P) pF).setCell (p:=⟨P,2,none⟩) (Or.inl rfl) (.slice (some ⟨g',0,none⟩) (T+1) cap');have OQ:Off (fun x=>x=P) pF [190]:=fun k hk=>⟨_,_,_,by subst hk;exact BP.out,by simp⟩
 have R2:=R15.out.off KQ OQ aI aI;have B2:aG (pF.setCell ⟨P,2,none⟩ (.slice (some ⟨g',0,none⟩) (T+1) cap')) P 190 (pc.setIfInBounds 2 (.slice (some ⟨g',0,none⟩) (T+1) cap')):=BP.out.aM 2 _;refine⟨rfl,_,results_none rfl _ _ _,dZ.good HR.out K2 ⟨rfl,_,_,R2,B2,?_,?_⟩⟩
 ·rw[aj,←HT.out,zF];exact a8 kY.out KQ OQ (by decide)
 ·intro g hg;have hgg:some g'=some g:=hg;injection hgg with hgg
  rcases Mc.out with h|h
  ·exact Or.inl (hgg▸h)
  ·exact Or.inr (by omega)
abbrev aaz:=Except Bad (List (jC×Nat)×List ByteArray)
def mQ(en:ByteArray)(ws:List ByteArray)(k:Nat)(acc:List (jC×Nat)):aaz:=(dx en (ws.drop k) k acc.length).map fun x=>(acc++x.1,x.2)
theorem GF(en:ByteArray)(ws:List ByteArray)(k:Nat):mQ en ws k []=dx en (ws.drop k) k 0:=by
 unfold mQ;simp only[List.length_nil,List.nil_append];cases dx en (ws.drop k) k 0<;>rfl
theorem GG{en:ByteArray}{ws:List ByteArray}{k:Nat}(h:k=ws.length):mQ en ws k []=.error (190,ws.length):=by
 subst h;unfold mQ;rw[sU (Nat.le_refl _)];rfl
theorem GH{en s:ByteArray}{ws:List ByteArray}{k:Nat}{acc:List (jC×Nat)}(h:ws[k]? =some s)(he:s=en)(ha:acc≠[]):mQ en ws k acc=.ok (acc,ws.drop k):=by
 have hk:k<ws.length:=(List.getElem?_eq_some_iff.1 h).1;have hg:ws[k]=s:=(List.getElem?_eq_some_iff.1 h).2;unfold mQ;rw[bP hk,hg];unfold dx;rw[if_pos ⟨he,fun e=>ha (bS e)⟩];simp[Except.map]
theorem GI{en s:ByteArray}{ws:List ByteArray}{k:Nat}{acc:List (jC×Nat)}(h:ws[k]? =some s)(hn:¬(s=en∧acc≠[])):mQ en ws k acc=match lu s with
 |none=>.error (195,k)
 |some x=>if 64≤acc.length then .error (198,k)else mQ en ws (k+1) (acc++[(x,k)]):=by
 have hk:k<ws.length:=(List.getElem?_eq_some_iff.1 h).1;have hg:ws[k]=s:=(List.getElem?_eq_some_iff.1 h).2;unfold mQ;rw[bP hk,hg]
 conv=>lhs;unfold dx
 rw[if_neg (fun e=>hn ⟨e.1,fun e2=>e.2 (by rw[e2];rfl)⟩)];cases lu s with
 |none=>rfl
 |some x=>
  simp only;by_cases h2:64≤acc.length
  ·rw[if_pos h2,if_pos h2];rfl
  rw[if_neg h2,if_neg h2,aj,List.length_singleton];cases dx en (List.drop (k+1) ws) (k+1) (acc.length+1)with
  |error e=>rfl
  |ok l=>simp[Except.map]
theorem yB{en:ByteArray}{ws:List ByteArray}{k:Nat}{acc:List (jC×Nat)}(h:ws.length≤k)(ha:acc≠[]):mQ en ws k acc=.ok (acc,[]):=by
 unfold mQ;rw[sU h];unfold dx;rw[if_neg (fun e=>ha (bS e))];simp[Except.map]
def jP(n:Nat)(l:List (jC×Nat)):List Us:=l.map fun y=>(y.1,n,y.2)
def aaA(w0 w:World)(b P n:Nat)(lv uv:Value)(ws:List ByteArray)(us:List Us)(w':World)(x:List (jC×Nat)×List ByteArray)(r:Ending):Prop:=∃v uv',r=.returned v∧w'.ownsRow w.heap.size 245 6 v x.1.length (fU (x.1.map (·.1)))∧Rs w' b P (ws.length-x.2.length) n lv uv' ws∧ez w' w0.heap.size uv' (us++jP n x.1)∧(∀g,uv'.ownBlock=some g→uv.ownBlock=some g∨w.heap.size≤g)∧x.1.length≤64
theorem Rs.vy{w:World}{b P k n:Nat}{lv uv:Value}{ws:List ByteArray}(h:Rs w b P k n lv uv ws):w.cell? ⟨b,0,none⟩=some lv∧w.cell? ⟨b,1,none⟩=some (.int .i64 k)∧w.cell? ⟨b,3,none⟩=some uv:=by
 have c0:=h.blk.cell 0;have c1:=h.blk.cell 1;have c3:=h.blk.cell 3;simp at c0 c1 c3;exact⟨c0,c1,c3⟩
theorem ez.Jx{w:World}{base b P k n:Nat}{lv uv:Value}{ws:List ByteArray}{us:List Us}(h:ez w base uv us)(hr:Rs w b P k n lv uv ws):∀g,uv.ownBlock=some g→g≠b:=by
 intro g hg e;obtain⟨xs,_,ho⟩:=h;obtain⟨cur,e2,fz,hh,hT⟩:=bY ho g hg;have:=hr.blk;unfold RdB aG at this;rw[←e,hh]at this;injection this with this
 injection this with _ h2 _
 rw[List.mem_singleton.1 hT]at h2;exact absurd h2 (by decide)
theorem Rs.word{w:World}{b P k n g cap j:Nat}{uv:Value}{ws:List ByteArray}{s:ByteArray}(h:Rs w b P k n (.slice (some ⟨g,0,none⟩) ws.length cap) uv ws)(hs:ws[j]? =some s):w.cell? ⟨g,j*3,none⟩=some (.string s)∧w.cell? ⟨g,j*3+1,none⟩=some (.int .i64 n)∧w.cell? ⟨g,j*3+2,none⟩=some (.int .i64 j):=by
 obtain⟨g',cap',e,_,_,hc⟩:=h.row.shape h.ne;injection e with e1 _ _
 injection e1 with e1
 injection e1 with e1 _ _
 subst e1;obtain⟨v0,v1,v2⟩:=rB n ws 0 j s hs;rw[Nat.zero_add]at v2;have hj:j<ws.length:=(List.getElem?_eq_some_iff.1 hs).1;exact⟨(hc _ aY).trans v0,(hc _ aY).trans v1,(hc _ aY).trans v2⟩
theorem ez.below{w w':World}{base:Nat}{v:Value}{l:List Us}(h:ez w base v l)(hb:Below w.heap.size w w'):ez w' base v l:=by
 obtain⟨xs,e,ha⟩:=h;exact⟨xs,e,own_below ha hb⟩
theorem ez.off{S:Nat→Prop}{w w':World}{T:List TypeId}{base:Nat}{v:Value}{l:List Us}(h:ez w base v l)(hk:Keeps S w w')(ho:Off S w T)(he:249∉T):ez w' base v l:=by
 obtain⟨xs,e,ha⟩:=h;exact⟨xs,e,a8 ha hk ho he⟩
theorem Dj{w:World}{s:ByteArray}(h:Calls ai 316 #[.string s] w (Gv none w)):Calls ai 316 #[.string s] w fun r w'=>(∃(k:Nat)(nm:ByteArray)(v6:Bool)(hi lo bits:Nat),r=.returned (.tuple #[.agg #[.int .u8 k,.string nm,.bool v6,.int .u64 hi,.int .u64 lo,.int .u8 bits],.bool false]))∧Below w.heap.size w w':=h.mono fun r w'⟨⟨s,h1,_⟩,h2⟩=>⟨⟨s.kind,s.name,s.net.a.v6,s.net.a.hi,s.net.a.lo,s.net.bits,h1⟩,h2⟩
theorem Dk{w:World}{s:ByteArray}{x:jC}(h:Calls ai 316 #[.string s] w (Gv (some x) w)):Calls ai 316 #[.string s] w (Got (.tuple #[.agg #[.int .u8 (x.kind:Int),.string x.name,.bool x.net.a.v6,.int .u64 (x.net.a.hi:Int),.int .u64 (x.net.a.lo:Int),.int .u8 (x.net.bits:Int)],.bool true]) w):=h.mono fun r w'⟨⟨s,h1,h3⟩,h2⟩=>by obtain rfl:=h3 _ rfl;exact⟨h1,h2⟩
theorem Dm{w0 w:World}(env:Env w0)(hE:Below w0.heap.size w0 w){b P k n:Nat}{lv uv:Value}{ws:List ByteArray}{us:List Us}(h:Rs w b P k n lv uv ws)(hu:ez w w0.heap.size uv us)(hk:k≤ws.length)(hus:us.length≤4000000)(hbb:w0.heap.size≤b)(en:ByteArray):Calls ai 285 #[.pointer (some ⟨b,0,none⟩),.string en] w fun r w'=>Keeps (fun x=>x=b∨uv.ownBlock=some x) w w'∧eA (dx en (ws.drop k) k 0) n (aaA w0 w b P n lv uv ws us w') r:=by
 obtain⟨RES,dY⟩:∃r,r=dx en (ws.drop k) k 0:=⟨_,rfl⟩;rw[←dY];rw[←GF]at dY;obtain⟨i0,hi,hz0,hz1,hz2⟩:=info_parts Qm;obtain⟨j0,hj,hj0,hj1,hj2⟩:=info_parts Wb;have hbs:w0.heap.size≤w.heap.size:=hE.size;have hUB:∀g,uv.ownBlock=some g→w0.heap.size≤g∧g<w.heap.size:=by
  obtain⟨xs,_,ho⟩:=hu;exact fun g hg=>ho.lt g hg
 obtain⟨HUB,H,HU,iZ,HE,tM,HWl⟩:=uE hUB h hu dY hE env h.len;clear h hu dY hE env hUB;go_enter Tryz.func285,Tryz.ntmps285;go_wp2_with fail
 go_loopw [4] (fun v4 wr=>∃(k':Nat)(acc:List (jC×Nat))(A:Option Addr)(cap:Nat)(uv':Value),v4=.slice A acc.length cap∧k'≤ws.length∧af (acc≠[]→k'<ws.length)∧acc.length≤64∧af (Rs wr b P k' n lv uv' ws)∧af (Keeps (fun x=>x=b∨uv.ownBlock=some x) w wr)∧af (wr.ownsRow w.heap.size 245 6 (.slice A acc.length cap) acc.length (fU (acc.map (·.1))))∧af (ez wr w0.heap.size uv' (us++jP n acc))∧af (∀g,uv'.ownBlock=some g→uv.ownBlock=some g∨w.heap.size≤g)∧af (RES=mQ en ws k' acc)) (fun _ wr=>ws.length+1-vo wr b)
 case atStart=>exact⟨k,[],none,0,uv,rfl,hk,ae fun h=>absurd rfl h,by simp,H,ae (Keeps.refl _ _),ae (World.ownsRow_nil _ _ _ _),ae (by unfold jP;simpa using HU.out),ae fun g hg=>Or.inl hg,iZ⟩
 case round=>
  obtain⟨k',acc,A,cap,uv',rfl,hk',hak,hal,hrs,hkp,hown,huv,hub,hres⟩:=hrel;have yi:=ae hrs.out.next;have htake:=hrs.out.take hk';unfold iI at htake;have jK:=ae htake;obtain⟨L,hL⟩:∃l,l=acc.length:=⟨_,rfl⟩;rw[←hL]at hown hal⊢;have HL:=ae hL;clear htake hL;go_wp2_with fail
  go_at_call 209;refine jK.out.mono ?_;rintro r w2⟨⟨d2,e2⟩,h2⟩;cases hs:ws[k']? with
  |none=>
   have hge:ws.length≤k':=by rw[List.getElem?_eq_none_iff]at hs;exact hs
   rw[hs]at h2;simp only at h2;subst h2;unfold aP;have ha:acc=[]:=Classical.byContradiction fun e=>absurd (hak.out e) (by omega)
   exact⟨rfl,hkp.out.trans (d2.mono fun k _ hk=>Or.inl hk),eA.bad (by rw[hres.out,ha];exact GG aY)⟩
  |some wd=>
  rw[hs]at h2;simp only at h2;subst h2;have hlt:k'<ws.length:=(List.getElem?_eq_some_iff.1 hs).1;have pG:=ae e2;have OB:Off (fun x=>x=b) wr [235]:=fun k hk=>⟨_,_,_,by subst hk;exact hrs.out.blk,by simp⟩
  have OW2:=ae (a8 hown.out d2 OB aI);obtain⟨Wl,xG⟩:=aQ (huv.out.keep d2 (huv.out.Jx hrs.out)) (hkp.out.trans (d2.mono (T:=fun x=>x=b∨uv.ownBlock=some x) fun k _ hk=>Or.inl hk));clear jK hrs hown huv hkp d2 e2 OB;by_cases hstop:wd=en∧acc≠[]
  ·obtain⟨rfl,hne⟩:=hstop;have hR:=hres.out;rw[GH hs rfl hne]at hR;have HR:=ae hR;have hL0:0<L:=by
    have:=HL.out;cases acc with
    |nil=>exact absurd rfl hne
    |cons x r=>simp at this;omega
   have q1:(0:Int)<(L:Int):=by omega
   have q2:(wd.toList==wd.toList)=true:=by simp
   have c1:=pG.out.vy.2.1;have z1:=pG.out.blk.frozen 1;have hkb:(k':Int)≤2000000:=by have:=HWl.out;omega
   clear hR hres hne hs;rw[show((k'+1:Nat):Int)=(k':Int)+1 by omega]at c1;go_wp2_with fail
   have KS:=(Keeps.refl (fun x=>x=b) w2).setCell (p:=⟨b,1,none⟩) (Or.inl rfl) (.int .i64 k');have OS:Off (fun x=>x=b) w2 [235]:=fun k hk=>⟨_,_,_,by subst hk;exact pG.out.blk,by simp⟩
   have RB:RdB (w2.setCell ⟨b,1,none⟩ (.int .i64 k')) b lv k' P uv':=pG.out.blk.aM 1 (.int .i64 k');have RS3:=pG.out.step KS RB;refine bodyPost_ret (results_tmp rfl _ _ _) rfl ⟨xG.out.trans (KS.mono fun k _ hk=>Or.inl hk),eA.good HR.out ⟨_,uv',rfl,?_,?_,Wl.out.keep KS (Wl.out.Jx pG.out),hub.out,by rw[←HL.out];exact hal⟩⟩
   ·simp only;rw[←HL.out];exact a8 OW2.out KS OS (by decide)
   ·simp only[List.length_drop];rw[show ws.length-(ws.length-k')=k' by omega];exact RS3
  ·have hR:=hres.out;rw[GI hs hstop]at hR;have HR:=ae hR;have hwd:wd.size≤2000000:=pG.out.sizes wd (rX hs);have hE2:=bN HE.out xG.out (fun k hk=>hk.elim (fun e=>by subst e;exact hbb) fun e=>(HUB.out k e).1);have hsel:=V3 (tM.out.below hE2) wd hwd;have Hs:=ae hs;clear hR hres hs hE2;have hcond:((wd.toList==en.toList)=true∧(0:Int)<(L:Int))→False:=fun h=>hstop ⟨by
    have:=h.1;rw[beq_iff_eq,cM,cM]at this;exact ByteArray.ext (Array.ext' this),fun e=>by have:=HL.out;rw[e]at this;simp at this;omega⟩
   clear hstop;obtain⟨o,ho⟩:∃o,o=lu wd:=⟨_,rfl⟩;rw[←ho]at hsel HR;have Ho:=ae ho;clear ho;cases hb:(wd.toList==en.toList)with
   |true=>
    have hL0:¬(0:Int)<(L:Int):=fun h=>hcond ⟨hb,h⟩
    clear hcond;cases o with
    |none=>
     have vA:=ae (Dj hsel);clear hsel;have hR:=HR.out;simp only at hR;have HRn:=ae hR;clear hR HR;go_upto_region 6 with(go_at_call 316;(with_reducible refine vA.out.mono ?_);rintro r w3⟨⟨x1,x2,x3,x4,x5,x6,rfl⟩,d3⟩)
     have d4:=after d3 (boxed w3 (.cells #[.int .u8 x1,.string x2,.bool x3,.int .u64 x4,.int .u64 x5,.int .u8 x6] 245));generalize w3.alloc (.cells #[.int .u8 x1,.string x2,.bool x3,.int .u64 x4,.int .u64 x5,.int .u8 x6] 245)=w4 at d4⊢;obtain⟨Dn,tN⟩:=aQ (pG.out.below d4) (xG.out.trans (Keeps.of_below d4 fun k hk _=>hk));clear pG xG;clear d4 d3 vA;have hun:=Dn.out.unless aY aY false 195;rw[dM hlt]at hun;have jv:af (Calls ai 210 #[.pointer (some ⟨b,0,none⟩),.bool false,.int .i64 195] w4 fun r w'=>r=aP 195 n k'∧Below w4.heap.size w4 w'):=ae hun;clear hun;go_wp2_with(go_at_call 210;(with_reducible refine jv.out.mono ?_);rintro r w5⟨rfl,d5⟩;unfold aP)
     exact⟨rfl,tN.out.trans (Keeps.of_below d5 fun k hk _=>hk),eA.bad HRn.out⟩
    |some X=>
     have hR:=HR.out;simp only at hR;obtain⟨x1,x2,⟨⟨x3,x4,x5⟩,x6⟩⟩:=X;have vA:af (Calls ai 316 #[.string wd] w2 (Got (.tuple #[.agg #[.int .u8 x1,.string x2,.bool x3,.int .u64 x4,.int .u64 x5,.int .u8 x6],.bool true]) w2)):=ae (Dk hsel);clear hsel;have HRn:=ae hR;clear hR HR;go_upto_region 6 with(go_at_call 316;(with_reducible refine vA.out.mono ?_);rintro r w3⟨rfl,d3⟩)
     have d4:=after d3 (boxed w3 (.cells #[.int .u8 x1,.string x2,.bool x3,.int .u64 x4,.int .u64 x5,.int .u8 x6] 245));have M4:=ae (aG.new w3 245 #[.int .u8 x1,.string x2,.bool x3,.int .u64 x4,.int .u64 x5,.int .u8 x6]);have BS:=d3.size;generalize w3.alloc (.cells #[.int .u8 x1,.string x2,.bool x3,.int .u64 x4,.int .u64 x5,.int .u8 x6] 245)=w4 at d4 M4⊢;generalize w3.heap.size=M at BS M4⊢;have hOM:∀g,(iC A L cap).ownBlock=some g→g<M:=fun g hg=>by have:=(OW2.out.lt g hg).2;omega
     obtain⟨HOM,Dn,OW4,Qx,tN⟩:=kp hOM (pG.out.below d4) (own_below OW2.out d4) (Wl.out.below d4) (xG.out.trans (Keeps.of_below d4 fun k hk _=>hk));clear pG OW2 Wl xG;clear d4 d3 vA hOM;have hun:=Dn.out.unless aY aY true 195;have jv:af (Calls ai 210 #[.pointer (some ⟨b,0,none⟩),.bool true,.int .i64 195] w4 fun r w'=>r=.returned (.tuple #[])∧Below w4.heap.size w4 w'):=ae hun;clear hun;go_upto_region 7 with(go_at_call 210;(with_reducible refine jv.out.mono ?_);rintro r w5⟨rfl,d5⟩)
     obtain⟨pH,OW5,Wm,BU,M5⟩:=kp (Dn.out.below d5) (own_below OW4.out d5) (Qx.out.below d5) (tN.out.trans (Keeps.of_below d5 fun k hk _=>hk)) (M4.out.below d5 M4.out.lt);clear Dn OW4 Qx tN M4;clear d5 jv;have hro:=pH.out.room aY aY L;rw[dM hlt]at hro;have pI:=ae hro;clear hro;by_cases h64:64≤L
     ·have hR:=HRn.out;rw[←HL.out,if_pos h64]at hR;rw[decide_eq_false aY]at pI;have mq:af (Calls ai 279 #[.pointer (some ⟨b,0,none⟩),.int .i64 L] w5 fun r w'=>r=aP 198 n k'∧Below w5.heap.size w5 w'):=pI;have MB:=ae hR;clear pI hR HRn h64;go_wp2_with(go_at_call 279;(with_reducible refine mq.out.mono ?_);rintro r w6⟨rfl,d6⟩;unfold aP)
      exact⟨rfl,BU.out.trans (Keeps.of_below d6 fun k hk _=>hk),eA.bad MB.out⟩
     have hR:=HRn.out;rw[←HL.out,if_neg h64]at hR;rw[decide_eq_true aY]at pI;have mq:af (Calls ai 279 #[.pointer (some ⟨b,0,none⟩),.int .i64 L] w5 fun r w'=>r=.returned (.tuple #[])∧Below w5.heap.size w5 w'):=pI;have MB:=ae hR;clear pI hR HRn;go_upto_region 8 with(go_at_call 279;(with_reducible refine mq.out.mono ?_);rintro r w6⟨rfl,d6⟩)
     obtain⟨Dp,Wn,Zw,Jy,M6⟩:=kp (pH.out.below d6) (own_below OW5.out d6) (Wm.out.below d6) (BU.out.trans (Keeps.of_below d6 fun k hk _=>hk)) (M5.out.below d6 M5.out.lt);clear pH OW5 Wm BU M5;clear d6 mq;obtain⟨m0,m1,m2,m3,m4,m5⟩:=aft M6;have hwb:=Jy.out.size;go_upto_region 9 with(at_builtin;refine wpList_append_own _ rfl _ _ 303 rfl w.heap.size 245 i0 (.agg #[.int .u8 0,.string ⟨#[]⟩,.bool false,.int .u64 0,.int .u64 0,.int .u8 0]) 6 56 Tryz.underlying303 hi hz0 hz1 hz2 rfl aI _ L _ rfl (Wn.out.alloc _) ⟨w6.heap.size,0,none⟩ 1 1 [.int .u8 x1,.string x2,.bool x3,.int .u64 x4,.int .u64 x5,.int .u8 x6] rfl rfl (cD w6 [.int .u8 x1,.string x2,.bool x3,.int .u64 x4,.int .u64 x5,.int .u8 x6] 245) (by intro u hu;simp at hu;rcases hu with rfl|rfl|rfl|rfl|rfl|rfl<;>rfl) (by unfold maxLen;omega) aY (by simp;omega) ?_;intro v' w7 hown' hgrow hnil)
     have xf:=Keeps.row hgrow;have MC:=bY (Wn.out.alloc (.cells #[.int .u8 x1,.string x2,.bool x3,.int .u64 x4,.int .u64 x5,.int .u8 x6] 245));have om:=ae ((Dp.out.alloc _).off xf MC aI aI);have Vj:=ae ((Zw.out.below (boxed w6 _)).off xf MC aI);have M7:=ae ((M6.out.alloc _).grown hgrow (fun e=>by have:=HOM.out M e.symm;omega));have BQ:=ae (Keeps.grown (Jy.out.alloc _) hgrow fun k hk=>Or.inr (Wn.out.lt k hk).1);obtain⟨A2,cap2,rfl⟩:=aL hown';have Zr:=ae hown';have aeF:w.heap.size≤w7.heap.size:=BQ.out.size;clear xf MC hgrow hnil hown' Dp Zw M6 Jy Wn HOM m0 m1 m2 m3 m4 m5 hwb;obtain⟨gw,GK,rfl,acH,⟨aeG,hgW⟩,hcw⟩:=om.out.row.shape om.out.ne;obtain⟨xs,hxs,Jz⟩:=Vj.out;obtain⟨Au,GL,rfl⟩:=aL Jz;obtain⟨U,hU⟩:∃U,U=(us++jP n acc).length:=⟨_,rfl⟩;rw[←hU]at Jz hub;have hU1:U≤4000100:=by rw[hU,aj];unfold jP;rw[ay];have:=HL.out;omega
     obtain⟨c0,c1,c3⟩:=om.out.vy;rw[←hU]at c3;obtain⟨t0,t1,t2⟩:=om.out.word Hs.out;obtain⟨m0,m1,m2,m3,m4,m5⟩:=aft M7;have i1:IntKind.i64.wrap (k':Int)=(k':Int):=by have:=HWl.out;rw[agp];omega
     have i2:(k':Int)<(ws.length:Int):=by omega
     obtain⟨jo,dN⟩:∃x,x=(w7.alloc (.cells #[.int .u8 x1,.string x2,.bool x3,.int .u64 x4,.int .u64 x5,.int .u8 x6,.string wd,.int .i64 n,.int .i64 k'] 249)).drew:=⟨_,rfl⟩;have kZ:af (jo.ownsRow w0.heap.size 249 9 (.slice Au U GL) U (fu xs)):=ae (by rw[dN];exact Jz.alloc _);have iM:af (∀j u,[.int .u8 x1,.string x2,.bool x3,.int .u64 x4,.int .u64 x5,.int .u8 x6,.string wd,.int .i64 n,.int .i64 k'][j]? =some u→jo.cell? ((⟨w7.heap.size,0,none⟩:Addr).add j)=some u):=ae (by rw[dN];exact cD w7 [.int .u8 x1,.string x2,.bool x3,.int .u64 x4,.int .u64 x5,.int .u8 x6,.string wd,.int .i64 n,.int .i64 k'] 249);have kE:af (Rs jo b P (k'+1) n (.slice (some ⟨gw,0,none⟩) ws.length GK) (.slice Au U GL) ws):=ae (by rw[dN,hU];exact⟨(om.out.alloc _).blk,(om.out.alloc _).row,om.out.ne,om.out.len,om.out.sizes⟩);have Fe:af (Keeps (fun x=>x=b∨uv.ownBlock=some x) w jo):=ae (by rw[dN];exact(BQ.out.alloc _).drew);have Qy:af (jo.ownsRow w.heap.size 245 6 (.slice A2 (L+1) cap2) (L+1) _):=ae (by rw[dN];exact Zr.out.alloc _);have MA:jo.heap.size=w7.heap.size+1:=by rw[dN];simp
     have hb8:Below w7.heap.size w7 jo:=by rw[dN];have q:=boxed w7 (.cells #[.int .u8 x1,.string x2,.bool x3,.int .u64 x4,.int .u64 x5,.int .u8 x6,.string wd,.int .i64 n,.int .i64 k'] 249);exact⟨q.os,q.tape,q.output,q.size,q.block⟩
     obtain⟨d0,d1,d3⟩:=kE.out.vy;obtain⟨q0,q1,q2⟩:=kE.out.word Hs.out;have Qz:=ae (M7.out.below hb8 M7.out.lt);obtain⟨n0,n1,n2,n3,n4,n5⟩:=aft Qz;obtain⟨GM,HU1⟩:=aQ hxs hU;clear hxs Jz hU om BQ M7 Zr hgW hcw hb8 Vj;rw[dN]at kZ iM d0 d1 d3 q0 q1 q2 n0 n1 n2 n3 n4 n5;refine du 22 (fun w'=>w'.cell? ⟨b,0,none⟩=some (.slice (some ⟨gw,0,none⟩) ws.length GK)∧w'.cell? ⟨b,1,none⟩=some (.int .i64 ((k'+1:Nat):Int))∧w'.cell? ⟨b,3,none⟩=some (.slice Au U GL)∧w'.cell? ⟨gw,k'*3,none⟩=some (.string wd)∧w'.cell? ⟨gw,k'*3+1,none⟩=some (.int .i64 n)∧w'.cell? ⟨gw,k'*3+2,none⟩=some (.int .i64 k')∧w'.cell? ⟨M,0,none⟩=some (.int .u8 x1)∧w'.cell? ⟨M,1,none⟩=some (.string x2)∧w'.cell? ⟨M,2,none⟩=some (.bool x3)∧w'.cell? ⟨M,3,none⟩=some (.int .u64 x4)∧w'.cell? ⟨M,4,none⟩=some (.int .u64 x5)∧w'.cell? ⟨M,5,none⟩=some (.int .u8 x6)) bJ (⟨c0,c1,c3,t0,t1,t2,m0,m1,m2,m3,m4,m5⟩) (fun hHeld=>?_);refine jF 0 ?_
     refine jF 1 ?_
     refine jF 2 ?_
     refine jF 3 ?_
     refine jF 4 ?_
     refine jF 5 ?_
     refine jF 6 ?_
     refine jF 7 ?_
     refine jF 8 ?_
     refine jF 9 ?_
     refine jF 10 ?_
     refine jF 11 ?_
     refine jF 12 ?_
     refine jF 13 ?_
     refine jF 14 ?_
     refine jF 15 ?_
     refine jF 16 ?_
     refine jF 17 ?_
     refine sH 18 fun K hK=>?_;go_simp
     skip
     refine hK.out _ _ (fun _=>⟨d0,d1,d3,q0,q1,q2,n0,n1,n2,n3,n4,n5⟩) (fun hHeld=>?_);have hHeld:=hHeld aI;clear hK K;try simp only[dX]
     refine sH 19 fun K hK=>?_;refine step_append_lies _ (by rfl) _ _ _ (by rfl) w0.heap.size 249 j0 (.agg #[.int .u8 0,.string ⟨#[]⟩,.bool false,.int .u64 0,.int .u64 0,.int .u8 0,.string ⟨#[]⟩,.int .i64 0,.int .i64 0]) 9 88 Tryz.underlying233 hj hj0 hj1 hj2 rfl aI _ U _ (by rfl) kZ.out ⟨w7.heap.size,0,none⟩ 1 1 [.int .u8 x1,.string x2,.bool x3,.int .u64 x4,.int .u64 x5,.int .u8 x6,.string wd,.int .i64 n,.int .i64 k'] (by rfl) rfl iM.out (by intro u hu;simp at hu;rcases hu with rfl|rfl|rfl|rfl|rfl|rfl|rfl|rfl|rfl<;>rfl) aI (by unfold maxLen;omega) aY (by simp;omega) (w7.heap.size+1) (by simp) ?_;intro g' cap' pF hown' hgrow hat mh;rw[←dN]at hgrow kZ;have R15:=ae (kE.out.off (Keeps.row hgrow) (bY kZ.out) aI aI);have O15:=ae (a8 Qy.out (Keeps.row hgrow) (bY kZ.out) aI);obtain⟨p0,p1,p3⟩:=R15.out.vy;obtain⟨r0,r1,r2⟩:=R15.out.word Hs.out;have zI:=Qz.out.off (Keeps.row hgrow) (bY kZ.out) aI;have s0:=zI.cell 0;have s1:=zI.cell 1;have s2:=zI.cell 2;have s3:=zI.cell 3;have s4:=zI.cell 4;have s5:=zI.cell 5;simp at s0 s1 s2 s3 s4 s5;have pz:=R15.out.blk.frozen 3;obtain⟨kY,fq,Mc⟩:=bO hown' hgrow hat;clear hown' hgrow hat mh;refine hK.out _ _ (fun _=>⟨p0,p1,p3,r0,r1,r2,s0,s1,s2,s3,s4,s5⟩) (fun hHeld=>?_);have hHeld:=hHeld aI;clear hK K;try simp only[dX]
     refine sH 20 fun K hK=>?_;go_simp;refine hK.out _ _ (fun _=>hHeld) (fun hHeld=>?_);have hHeld:=hHeld aI;clear hK K;try simp only[dX]
     refine jF 21 ?_
     refine sH 22 fun K hK=>?_;go_simp;refine hK.out _ _ (fun h=>absurd rfl h) (fun _=>?_);clear hK K hHeld;try simp only[dX]
     refine zdE ?_;go_upto_region 10 with fail
     obtain⟨W,hW⟩:∃W,W=pF.setCell ⟨b,3,none⟩ (.slice (some ⟨g',0,none⟩) (U+1) cap'):=⟨_,rfl⟩;have KQ:Keeps (fun x=>x=b) pF W:=by rw[hW];exact(Keeps.refl (fun x=>x=b) pF).setCell (p:=⟨b,3,none⟩) (Or.inl rfl) _
     have OQ:Off (fun x=>x=b) pF [235]:=fun k hk=>⟨_,_,_,by subst hk;exact R15.out.blk,by simp⟩
     have RB:RdB W b (.slice (some ⟨gw,0,none⟩) ws.length GK) (k'+1) P (.slice (some ⟨g',0,none⟩) (U+1) cap'):=by rw[hW];exact R15.out.blk.aM 3 _
     have QA:=ae (R15.out.step KQ RB);have hUn:jP n (acc++[(⟨x1,x2,⟨⟨x3,x4,x5⟩,x6⟩⟩,k')])=jP n acc++[(⟨x1,x2,⟨⟨x3,x4,x5⟩,x6⟩⟩,n,k')]:=by simp[jP]
     have Wp:af (ez W w0.heap.size (.slice (some ⟨g',0,none⟩) (U+1) cap') (us++jP n (acc++[(⟨x1,x2,⟨⟨x3,x4,x5⟩,x6⟩⟩,k')]))):=by
      refine ae ⟨xs++[((⟨x1,x2,⟨⟨x3,x4,x5⟩,x6⟩⟩,n,k'),wd)],?_,?_⟩
      ·rw[eT,GM.out,hUn,aZ];rfl
      ·rw[hUn,←aZ,aj,←HU1.out,qo];exact a8 kY.out KQ OQ (by decide)
     have Wq:=ae (a8 O15.out KQ OQ aI);have Wu:=ae ((Keeps.grown Fe.out fq.out fun k hk=>(hub.out k hk).elim (fun e=>Or.inl (Or.inr e)) Or.inr).trans (KQ.mono (T:=fun x=>x=b∨uv.ownBlock=some x) fun k _ hk=>Or.inl hk));have QB:af (∀g,(iC (some ⟨g',0,none⟩) (U+1) cap').ownBlock=some g→uv.ownBlock=some g∨w.heap.size≤g):=ae fun g hg=>by
      have hgg:some g'=some g:=hg;injection hgg with hgg
      rcases Mc.out with h|h
      ·exact hub.out g (hgg▸h)
      ·exact Or.inr (by omega)
     rw[←hW];clear hW KQ OQ RB hUn R15 O15 kY fq Mc GM kZ iM kE Fe Qy Qz zI p0 p1 p3 r0 r1 r2 s0 s1 s2 s3 s4 s5 n0 n1 n2 n3 n4 n5 d0 d1 d3 q0 q1 q2 c0 c1 c3 t0 t1 t2 m0 m1 m2 m3 m4 m5 pz hHeld dN MA;have hmore:=QA.out.more;have hR:=MB.out;by_cases hend:k'+1<ws.length
     ·rw[decide_eq_true hend]at hmore;have lB:=ae hmore;clear hmore hR;go_wp2_with(go_at_call 282;(with_reducible refine lB.out.mono ?_);rintro r w16⟨rfl,kG⟩)
      obtain⟨pJ,vB,GN,vC⟩:=fH (QA.out.below kG) (own_below Wq.out kG) (Wp.out.below kG) (Wu.out.trans (Keeps.of_below kG fun k hk _=>hk));clear QA Wq Wp Wu;go_roundw
      case rel=>exact⟨k'+1,acc++[(⟨x1,x2,⟨⟨x3,x4,x5⟩,x6⟩⟩,k')],A2,cap2,_,by rw[aj,←HL.out];rfl,by omega,ae fun _=>hend,by rw[aj,←HL.out];simp;omega,pJ,vC,ae (by rw[aj,←HL.out,eT,agd,jm];exact vB.out),GN,QB,MB⟩
      case measure=>
       rw[pJ.out.next,yi.out];omega
     ·rw[decide_eq_false hend]at hmore;have lB:=ae hmore;rw[yB aY (by simp)]at hR;have di:=ae hR;clear hmore hR;go_wp2_with(go_at_call 282;(with_reducible refine lB.out.mono ?_);rintro r w16⟨rfl,kG⟩)
      obtain⟨pJ,vB,GN,vC⟩:=fH (QA.out.below kG) (own_below Wq.out kG) (Wp.out.below kG) (Wu.out.trans (Keeps.of_below kG fun k hk _=>hk));clear QA Wq Wp Wu;refine bodyPost_ret (results_tmp rfl _ _ _) rfl ⟨vC.out,eA.good di.out ⟨_,_,rfl,?_,?_,GN.out,QB.out,by rw[aj,←HL.out];simp;omega⟩⟩
      ·simp only;rw[aj,←HL.out,eT,agd,jm];exact vB.out
      ·simp only[List.length_nil];rw[show ws.length-0=k'+1 by omega];exact pJ.out
   |false=>
    clear hcond;cases o with
    |none=>
     have vA:=ae (Dj hsel);clear hsel;have hR:=HR.out;simp only at hR;have HRn:=ae hR;clear hR HR;go_upto_region 6 with(go_at_call 316;(with_reducible refine vA.out.mono ?_);rintro r w3⟨⟨x1,x2,x3,x4,x5,x6,rfl⟩,d3⟩)
     have d4:=after d3 (boxed w3 (.cells #[.int .u8 x1,.string x2,.bool x3,.int .u64 x4,.int .u64 x5,.int .u8 x6] 245));generalize w3.alloc (.cells #[.int .u8 x1,.string x2,.bool x3,.int .u64 x4,.int .u64 x5,.int .u8 x6] 245)=w4 at d4⊢;obtain⟨Dn,tN⟩:=aQ (pG.out.below d4) (xG.out.trans (Keeps.of_below d4 fun k hk _=>hk));clear pG xG;clear d4 d3 vA;have hun:=Dn.out.unless aY aY false 195;rw[dM hlt]at hun;have jv:af (Calls ai 210 #[.pointer (some ⟨b,0,none⟩),.bool false,.int .i64 195] w4 fun r w'=>r=aP 195 n k'∧Below w4.heap.size w4 w'):=ae hun;clear hun;go_wp2_with(go_at_call 210;(with_reducible refine jv.out.mono ?_);rintro r w5⟨rfl,d5⟩;unfold aP)
     exact⟨rfl,tN.out.trans (Keeps.of_below d5 fun k hk _=>hk),eA.bad HRn.out⟩
    |some X=>
     have hR:=HR.out;simp only at hR;obtain⟨x1,x2,⟨⟨x3,x4,x5⟩,x6⟩⟩:=X;have vA:af (Calls ai 316 #[.string wd] w2 (Got (.tuple #[.agg #[.int .u8 x1,.string x2,.bool x3,.int .u64 x4,.int .u64 x5,.int .u8 x6],.bool true]) w2)):=ae (Dk hsel);clear hsel;have HRn:=ae hR;clear hR HR;go_upto_region 6 with(go_at_call 316;(with_reducible refine vA.out.mono ?_);rintro r w3⟨rfl,d3⟩)
     have d4:=after d3 (boxed w3 (.cells #[.int .u8 x1,.string x2,.bool x3,.int .u64 x4,.int .u64 x5,.int .u8 x6] 245));have M4:=ae (aG.new w3 245 #[.int .u8 x1,.string x2,.bool x3,.int .u64 x4,.int .u64 x5,.int .u8 x6]);have BS:=d3.size;generalize w3.alloc (.cells #[.int .u8 x1,.string x2,.bool x3,.int .u64 x4,.int .u64 x5,.int .u8 x6] 245)=w4 at d4 M4⊢;generalize w3.heap.size=M at BS M4⊢;have hOM:∀g,(iC A L cap).ownBlock=some g→g<M:=fun g hg=>by have:=(OW2.out.lt g hg).2;omega
     obtain⟨HOM,Dn,OW4,Qx,tN⟩:=kp hOM (pG.out.below d4) (own_below OW2.out d4) (Wl.out.below d4) (xG.out.trans (Keeps.of_below d4 fun k hk _=>hk));clear pG OW2 Wl xG;clear d4 d3 vA hOM;have hun:=Dn.out.unless aY aY true 195;have jv:af (Calls ai 210 #[.pointer (some ⟨b,0,none⟩),.bool true,.int .i64 195] w4 fun r w'=>r=.returned (.tuple #[])∧Below w4.heap.size w4 w'):=ae hun;clear hun;go_upto_region 7 with(go_at_call 210;(with_reducible refine jv.out.mono ?_);rintro r w5⟨rfl,d5⟩)
     obtain⟨pH,OW5,Wm,BU,M5⟩:=kp (Dn.out.below d5) (own_below OW4.out d5) (Qx.out.below d5) (tN.out.trans (Keeps.of_below d5 fun k hk _=>hk)) (M4.out.below d5 M4.out.lt);clear Dn OW4 Qx tN M4;clear d5 jv;have hro:=pH.out.room aY aY L;rw[dM hlt]at hro;have pI:=ae hro;clear hro;by_cases h64:64≤L
     ·have hR:=HRn.out;rw[←HL.out,if_pos h64]at hR;rw[decide_eq_false aY]at pI;have mq:af (Calls ai 279 #[.pointer (some ⟨b,0,none⟩),.int .i64 L] w5 fun r w'=>r=aP 198 n k'∧Below w5.heap.size w5 w'):=pI;have MB:=ae hR;clear pI hR HRn h64;go_wp2_with(go_at_call 279;(with_reducible refine mq.out.mono ?_);rintro r w6⟨rfl,d6⟩;unfold aP)
      exact⟨rfl,BU.out.trans (Keeps.of_below d6 fun k hk _=>hk),eA.bad MB.out⟩
     have hR:=HRn.out;rw[←HL.out,if_neg h64]at hR;rw[decide_eq_true aY]at pI;have mq:af (Calls ai 279 #[.pointer (some ⟨b,0,none⟩),.int .i64 L] w5 fun r w'=>r=.returned (.tuple #[])∧Below w5.heap.size w5 w'):=pI;have MB:=ae hR;clear pI hR HRn;go_upto_region 8 with(go_at_call 279;(with_reducible refine mq.out.mono ?_);rintro r w6⟨rfl,d6⟩)
     obtain⟨Dp,Wn,Zw,Jy,M6⟩:=kp (pH.out.below d6) (own_below OW5.out d6) (Wm.out.below d6) (BU.out.trans (Keeps.of_below d6 fun k hk _=>hk)) (M5.out.below d6 M5.out.lt);clear pH OW5 Wm BU M5;clear d6 mq;obtain⟨m0,m1,m2,m3,m4,m5⟩:=aft M6;have hwb:=Jy.out.size;go_upto_region 9 with(at_builtin;refine wpList_append_own _ rfl _ _ 303 rfl w.heap.size 245 i0 (.agg #[.int .u8 0,.string ⟨#[]⟩,.bool false,.int .u64 0,.int .u64 0,.int .u8 0]) 6 56 Tryz.underlying303 hi hz0 hz1 hz2 rfl aI _ L _ rfl (Wn.out.alloc _) ⟨w6.heap.size,0,none⟩ 1 1 [.int .u8 x1,.string x2,.bool x3,.int .u64 x4,.int .u64 x5,.int .u8 x6] rfl rfl (cD w6 [.int .u8 x1,.string x2,.bool x3,.int .u64 x4,.int .u64 x5,.int .u8 x6] 245) (by intro u hu;simp at hu;rcases hu with rfl|rfl|rfl|rfl|rfl|rfl<;>rfl) (by unfold maxLen;omega) aY (by simp;omega) ?_;intro v' w7 hown' hgrow hnil)
     have xf:=Keeps.row hgrow;have MC:=bY (Wn.out.alloc (.cells #[.int .u8 x1,.string x2,.bool x3,.int .u64 x4,.int .u64 x5,.int .u8 x6] 245));have om:=ae ((Dp.out.alloc _).off xf MC aI aI);have Vj:=ae ((Zw.out.below (boxed w6 _)).off xf MC aI);have M7:=ae ((M6.out.alloc _).grown hgrow (fun e=>by have:=HOM.out M e.symm;omega));have BQ:=ae (Keeps.grown (Jy.out.alloc _) hgrow fun k hk=>Or.inr (Wn.out.lt k hk).1);obtain⟨A2,cap2,rfl⟩:=aL hown';have Zr:=ae hown';have aeF:w.heap.size≤w7.heap.size:=BQ.out.size;clear xf MC hgrow hnil hown' Dp Zw M6 Jy Wn HOM m0 m1 m2 m3 m4 m5 hwb;obtain⟨gw,GK,rfl,acH,⟨aeG,hgW⟩,hcw⟩:=om.out.row.shape om.out.ne;obtain⟨xs,hxs,Jz⟩:=Vj.out;obtain⟨Au,GL,rfl⟩:=aL Jz;obtain⟨U,hU⟩:∃U,U=(us++jP n acc).length:=⟨_,rfl⟩;rw[←hU]at Jz hub;have hU1:U≤4000100:=by rw[hU,aj];unfold jP;rw[ay];have:=HL.out;omega
     obtain⟨c0,c1,c3⟩:=om.out.vy;rw[←hU]at c3;obtain⟨t0,t1,t2⟩:=om.out.word Hs.out;obtain⟨m0,m1,m2,m3,m4,m5⟩:=aft M7;have i1:IntKind.i64.wrap (k':Int)=(k':Int):=by have:=HWl.out;rw[agp];omega
     have i2:(k':Int)<(ws.length:Int):=by omega
     obtain⟨jo,dN⟩:∃x,x=(w7.alloc (.cells #[.int .u8 x1,.string x2,.bool x3,.int .u64 x4,.int .u64 x5,.int .u8 x6,.string wd,.int .i64 n,.int .i64 k'] 249)).drew:=⟨_,rfl⟩;have kZ:af (jo.ownsRow w0.heap.size 249 9 (.slice Au U GL) U (fu xs)):=ae (by rw[dN];exact Jz.alloc _);have iM:af (∀j u,[.int .u8 x1,.string x2,.bool x3,.int .u64 x4,.int .u64 x5,.int .u8 x6,.string wd,.int .i64 n,.int .i64 k'][j]? =some u→jo.cell? ((⟨w7.heap.size,0,none⟩:Addr).add j)=some u):=ae (by rw[dN];exact cD w7 [.int .u8 x1,.string x2,.bool x3,.int .u64 x4,.int .u64 x5,.int .u8 x6,.string wd,.int .i64 n,.int .i64 k'] 249);have kE:af (Rs jo b P (k'+1) n (.slice (some ⟨gw,0,none⟩) ws.length GK) (.slice Au U GL) ws):=ae (by rw[dN,hU];exact⟨(om.out.alloc _).blk,(om.out.alloc _).row,om.out.ne,om.out.len,om.out.sizes⟩);have Fe:af (Keeps (fun x=>x=b∨uv.ownBlock=some x) w jo):=ae (by rw[dN];exact(BQ.out.alloc _).drew);have Qy:af (jo.ownsRow w.heap.size 245 6 (.slice A2 (L+1) cap2) (L+1) _):=ae (by rw[dN];exact Zr.out.alloc _);have MA:jo.heap.size=w7.heap.size+1:=by rw[dN];simp
     have hb8:Below w7.heap.size w7 jo:=by rw[dN];have q:=boxed w7 (.cells #[.int .u8 x1,.string x2,.bool x3,.int .u64 x4,.int .u64 x5,.int .u8 x6,.string wd,.int .i64 n,.int .i64 k'] 249);exact⟨q.os,q.tape,q.output,q.size,q.block⟩
     obtain⟨d0,d1,d3⟩:=kE.out.vy;obtain⟨q0,q1,q2⟩:=kE.out.word Hs.out;have Qz:=ae (M7.out.below hb8 M7.out.lt);obtain⟨n0,n1,n2,n3,n4,n5⟩:=aft Qz;obtain⟨GM,HU1⟩:=aQ hxs hU;clear hxs Jz hU om BQ M7 Zr hgW hcw hb8 Vj;rw[dN]at kZ iM d0 d1 d3 q0 q1 q2 n0 n1 n2 n3 n4 n5;refine du 22 (fun w'=>w'.cell? ⟨b,0,none⟩=some (.slice (some ⟨gw,0,none⟩) ws.length GK)∧w'.cell? ⟨b,1,none⟩=some (.int .i64 ((k'+1:Nat):Int))∧w'.cell? ⟨b,3,none⟩=some (.slice Au U GL)∧w'.cell? ⟨gw,k'*3,none⟩=some (.string wd)∧w'.cell? ⟨gw,k'*3+1,none⟩=some (.int .i64 n)∧w'.cell? ⟨gw,k'*3+2,none⟩=some (.int .i64 k')∧w'.cell? ⟨M,0,none⟩=some (.int .u8 x1)∧w'.cell? ⟨M,1,none⟩=some (.string x2)∧w'.cell? ⟨M,2,none⟩=some (.bool x3)∧w'.cell? ⟨M,3,none⟩=some (.int .u64 x4)∧w'.cell? ⟨M,4,none⟩=some (.int .u64 x5)∧w'.cell? ⟨M,5,none⟩=some (.int .u8 x6)) bJ (⟨c0,c1,c3,t0,t1,t2,m0,m1,m2,m3,m4,m5⟩) (fun hHeld=>?_);refine jF 0 ?_
     refine jF 1 ?_
     refine jF 2 ?_
     refine jF 3 ?_
     refine jF 4 ?_
     refine jF 5 ?_
     refine jF 6 ?_
     refine jF 7 ?_
     refine jF 8 ?_
     refine jF 9 ?_
     refine jF 10 ?_
     refine jF 11 ?_
     refine jF 12 ?_
     refine jF 13 ?_
     refine jF 14 ?_
     refine jF 15 ?_
     refine jF 16 ?_
     refine jF 17 ?_
     refine sH 18 fun K hK=>?_;go_simp
     skip
     refine hK.out _ _ (fun _=>⟨d0,d1,d3,q0,q1,q2,n0,n1,n2,n3,n4,n5⟩) (fun hHeld=>?_);have hHeld:=hHeld aI;clear hK K;try simp only[dX]
     refine sH 19 fun K hK=>?_;refine step_append_lies _ (by rfl) _ _ _ (by rfl) w0.heap.size 249 j0 (.agg #[.int .u8 0,.string ⟨#[]⟩,.bool false,.int .u64 0,.int .u64 0,.int .u8 0,.string ⟨#[]⟩,.int .i64 0,.int .i64 0]) 9 88 Tryz.underlying233 hj hj0 hj1 hj2 rfl aI _ U _ (by rfl) kZ.out ⟨w7.heap.size,0,none⟩ 1 1 [.int .u8 x1,.string x2,.bool x3,.int .u64 x4,.int .u64 x5,.int .u8 x6,.string wd,.int .i64 n,.int .i64 k'] (by rfl) rfl iM.out (by intro u hu;simp at hu;rcases hu with rfl|rfl|rfl|rfl|rfl|rfl|rfl|rfl|rfl<;>rfl) aI (by unfold maxLen;omega) aY (by simp;omega) (w7.heap.size+1) (by simp) ?_;intro g' cap' pF hown' hgrow hat mh;rw[←dN]at hgrow kZ;have R15:=ae (kE.out.off (Keeps.row hgrow) (bY kZ.out) aI aI);have O15:=ae (a8 Qy.out (Keeps.row hgrow) (bY kZ.out) aI);obtain⟨p0,p1,p3⟩:=R15.out.vy;obtain⟨r0,r1,r2⟩:=R15.out.word Hs.out;have zI:=Qz.out.off (Keeps.row hgrow) (bY kZ.out) aI;have s0:=zI.cell 0;have s1:=zI.cell 1;have s2:=zI.cell 2;have s3:=zI.cell 3;have s4:=zI.cell 4;have s5:=zI.cell 5;simp at s0 s1 s2 s3 s4 s5;have pz:=R15.out.blk.frozen 3;obtain⟨kY,fq,Mc⟩:=bO hown' hgrow hat;clear hown' hgrow hat mh;refine hK.out _ _ (fun _=>⟨p0,p1,p3,r0,r1,r2,s0,s1,s2,s3,s4,s5⟩) (fun hHeld=>?_);have hHeld:=hHeld aI;clear hK K;try simp only[dX]
     refine sH 20 fun K hK=>?_;go_simp;refine hK.out _ _ (fun _=>hHeld) (fun hHeld=>?_);have hHeld:=hHeld aI;clear hK K;try simp only[dX]
     refine jF 21 ?_
     refine sH 22 fun K hK=>?_;go_simp;refine hK.out _ _ (fun h=>absurd rfl h) (fun _=>?_);clear hK K hHeld;try simp only[dX]
     refine zdE ?_;go_upto_region 10 with fail
     obtain⟨W,hW⟩:∃W,W=pF.setCell ⟨b,3,none⟩ (.slice (some ⟨g',0,none⟩) (U+1) cap'):=⟨_,rfl⟩;have KQ:Keeps (fun x=>x=b) pF W:=by rw[hW];exact(Keeps.refl (fun x=>x=b) pF).setCell (p:=⟨b,3,none⟩) (Or.inl rfl) _
     have OQ:Off (fun x=>x=b) pF [235]:=fun k hk=>⟨_,_,_,by subst hk;exact R15.out.blk,by simp⟩
     have RB:RdB W b (.slice (some ⟨gw,0,none⟩) ws.length GK) (k'+1) P (.slice (some ⟨g',0,none⟩) (U+1) cap'):=by rw[hW];exact R15.out.blk.aM 3 _
     have QA:=ae (R15.out.step KQ RB);have hUn:jP n (acc++[(⟨x1,x2,⟨⟨x3,x4,x5⟩,x6⟩⟩,k')])=jP n acc++[(⟨x1,x2,⟨⟨x3,x4,x5⟩,x6⟩⟩,n,k')]:=by simp[jP]
     have Wp:af (ez W w0.heap.size (.slice (some ⟨g',0,none⟩) (U+1) cap') (us++jP n (acc++[(⟨x1,x2,⟨⟨x3,x4,x5⟩,x6⟩⟩,k')]))):=by
      refine ae ⟨xs++[((⟨x1,x2,⟨⟨x3,x4,x5⟩,x6⟩⟩,n,k'),wd)],?_,?_⟩
      ·rw[eT,GM.out,hUn,aZ];rfl
      ·rw[hUn,←aZ,aj,←HU1.out,qo];exact a8 kY.out KQ OQ (by decide)
     have Wq:=ae (a8 O15.out KQ OQ aI);have Wu:=ae ((Keeps.grown Fe.out fq.out fun k hk=>(hub.out k hk).elim (fun e=>Or.inl (Or.inr e)) Or.inr).trans (KQ.mono (T:=fun x=>x=b∨uv.ownBlock=some x) fun k _ hk=>Or.inl hk));have QB:af (∀g,(iC (some ⟨g',0,none⟩) (U+1) cap').ownBlock=some g→uv.ownBlock=some g∨w.heap.size≤g):=ae fun g hg=>by
      have hgg:some g'=some g:=hg;injection hgg with hgg
      rcases Mc.out with h|h
      ·exact hub.out g (hgg▸h)
      ·exact Or.inr (by omega)
     rw[←hW];clear hW KQ OQ RB hUn R15 O15 kY fq Mc GM kZ iM kE Fe Qy Qz zI p0 p1 p3 r0 r1 r2 s0 s1 s2 s3 s4 s5 n0 n1 n2 n3 n4 n5 d0 d1 d3 q0 q1 q2 c0 c1 c3 t0 t1 t2 m0 m1 m2 m3 m4 m5 pz hHeld dN MA;have hmore:=QA.out.more;have hR:=MB.out;by_cases hend:k'+1<ws.length
     ·rw[decide_eq_true hend]at hmore;have lB:=ae hmore;clear hmore hR;go_wp2_with(go_at_call 282;(with_reducible refine lB.out.mono ?_);rintro r w16⟨rfl,kG⟩)
      obtain⟨pJ,vB,GN,vC⟩:=fH (QA.out.below kG) (own_below Wq.out kG) (Wp.out.below kG) (Wu.out.trans (Keeps.of_below kG fun k hk _=>hk));clear QA Wq Wp Wu;go_roundw
      case rel=>exact⟨k'+1,acc++[(⟨x1,x2,⟨⟨x3,x4,x5⟩,x6⟩⟩,k')],A2,cap2,_,by rw[aj,←HL.out];rfl,by omega,ae fun _=>hend,by rw[aj,←HL.out];simp;omega,pJ,vC,ae (by rw[aj,←HL.out,eT,agd,jm];exact vB.out),GN,QB,MB⟩
      case measure=>
       rw[pJ.out.next,yi.out];omega
     ·rw[decide_eq_false hend]at hmore;have lB:=ae hmore;rw[yB aY (by simp)]at hR;have di:=ae hR;clear hmore hR;go_wp2_with(go_at_call 282;(with_reducible refine lB.out.mono ?_);rintro r w16⟨rfl,kG⟩)
      obtain⟨pJ,vB,GN,vC⟩:=fH (QA.out.below kG) (own_below Wq.out kG) (Wp.out.below kG) (Wu.out.trans (Keeps.of_below kG fun k hk _=>hk));clear QA Wq Wp Wu;refine bodyPost_ret (results_tmp rfl _ _ _) rfl ⟨vC.out,eA.good di.out ⟨_,_,rfl,?_,?_,GN.out,QB.out,by rw[aj,←HL.out];simp;omega⟩⟩
      ·simp only;rw[aj,←HL.out,eT,agd,jm];exact vB.out
      ·simp only[List.length_nil];rw[show ws.length-0=k'+1 by omega];exact pJ.out
end Go.Proofs.YtdfnhljccdoncaaGreatDoor
