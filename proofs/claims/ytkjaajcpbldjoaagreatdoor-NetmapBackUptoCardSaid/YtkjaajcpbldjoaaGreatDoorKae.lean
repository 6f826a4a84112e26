/- Joined out of: PlN PlO. -/
import Derived.Test.YtkjaajcpbldjoaaGreatDoorKad
set_option linter.unusedVariables false
set_option linter.unusedSimpArgs false
set_option maxHeartbeats 16000000
set_option maxRecDepth 100000
open Go.ByteArray renaming toList_eq→cC
open Go.IntKind renaming wrap_i64→ahS
open Go.Lib renaming hid→ae
open Go.Proofs.Tryz renaming prog→ah
open Go.RowKit renaming Hid→ag
open Go.Value renaming slice→dq
open List renaming length_append→ai,length_map→ay,append_assoc→aO,eq_nil_of_length_eq_zero→bz,drop_eq_getElem_cons→bR,map_append→cH,mem_of_getElem?→kE,drop_eq_nil_of_le→og,map_singleton→ahC
namespace Go.Proofs.YtkjaajcpbldjoaaGreatDoor
open Go.RowKit
attribute [local go_sem↓] Go.wp_at_zero Go.wp_at_succ
theorem TP{ws:List ByteArray}{told:List Hs}(hne:ws≠[]):uB ws told=if 64≤told.length then .error (198,0)else match ws[1]? with
 |none=>.error (190,ws.length)
 |some nm=>if cO nm=false then .error (191,1)else if zi told nm=true then .error (197,1)else match ws[2]? with
  |none=>.error (190,ws.length)
  |some e=>if e≠EP then .error (190,2)else match ws[3]? with
   |none=>.error (190,ws.length)
   |some t=>match iS t.data.toList with
    |none=>.error (192,3)
    |some pf=>if 4<ws.length then .error (190,4)else .ok ⟨nm,pf⟩:=by
 unfold uB;by_cases h:64≤told.length
 ·rw[if_pos h,if_pos h]
 rw[if_neg h,if_neg h]
 match ws with
 |[]=>exact absurd rfl hne
 |[a]=>rfl
 |[a,nm]=>rfl
 |[a,nm,e]=>rfl
 |a::nm::e::t::r=>
  simp only[List.getElem?_cons_succ,List.getElem?_cons_zero];cases r with
  |nil=>simp;cases iS t.data.toList<;>rfl
  |cons s r=>simp;cases iS t.data.toList<;>rfl
theorem cw{S:Nat→Prop}{w0 w w':World}(h:aW w0 w)(hk:Keeps S w w')(hS:∀k,S k→w0.heap.size≤k):aW w0 w':=h.trans (hk.below hS h.size)
def acf(w:World)(b P n base:Nat)(lv uv lst:Value)(ws:List ByteArray)(told:List Hs)(pc:Array Value)(w':World)(x:Hs)(r:Ending):Prop:=r=.returned (.tuple #[])∧∃k' lst',Rs w' b P k' n lv uv ws∧aG w' P 169 (pc.setIfInBounds 2 lst')∧w'.ownsRow base 282 5 lst' (told++[x]).length (fw (told++[x]))∧∀g,lst'.ownBlock=some g→lst.ownBlock=some g∨w.heap.size≤g
theorem TQ{w0 w:World}(env:Env w0)(hE:aW w0 w){b P n:Nat}{lv uv lst:Value}{ws:List ByteArray}{told:List Hs}{pc:Array Value}(h:Rs w b P 1 n lv uv ws)(hP:aG w P 169 pc)(hq:pc[2]? =some lst)(hN:w.ownsRow w0.heap.size 282 5 lst told.length (fw told))(hbb:w0.heap.size≤b):Calls ah 191 #[.pointer (some ⟨b,0,none⟩)] w fun r w'=>eT (fun k=>k=b) (fun k=>k=b∨k=P∨lst.ownBlock=some k) w w' (uB ws told) n (acf w b P n w0.heap.size lv uv lst ws told pc w') r:=by
 obtain⟨A,cap,rfl⟩:=aV hN;have hlen1:1≤ws.length:=by
  have:=h.ne;cases ws with
  |nil=>exact absurd rfl this
  |cons x r=>simp
 obtain⟨T,hT⟩:=bq told.length;rw[←hT]at hq hN⊢;have hPb:P≠b:=hP.vP h.blk aH;have c0:=(hP.cell 2).trans hq;have c1:=h.blk.cell 2;simp at c1;have hroom:=h.room aQ aQ T;rw[show Ig 1 ws=0 by unfold Ig;rw[if_pos hlen1]]at hroom;obtain⟨RES,eO⟩:=bq (uB ws told);rw[←eO];rw[TP h.ne,←hT]at eO;have hbs:w0.heap.size≤w.heap.size:=hE.size;obtain⟨kJ,H,HP,HN,jO,HT,HE,vG⟩:=SA hroom h hP hN eO hT hE env;clear hroom h hP hN eO hT hE env;go_enter Tryz.func191,Tryz.ntmps191;go_wp2_with fail
 go_at_call 213;refine kJ.out.mono ?_;rintro r w1⟨h1,d1⟩;by_cases Ft:T<64
 case neg=>
  rw[decide_eq_false Ft]at h1;unfold fH at h1;subst h1;unfold aT;exact⟨rfl,eT.bad (Keeps.of_below d1 fun k hk _=>hk) (by rw[jO.out,if_pos aQ])⟩
 rw[decide_eq_true Ft]at h1;unfold fH at h1;subst h1;obtain⟨H1,mI,jq,qO⟩:=cY (H.out.below d1) (HP.out.below d1 HP.out.lt) (own_below HN.out d1) (Keeps.of_below (S:=fun x=>x=b) d1 fun k hk _=>hk);have hR1:=jO.out;rw[if_neg aQ]at hR1;have HR1:=ae hR1;clear hR1 jO kJ d1 H HP c0 c1;have hname:=H1.out.name aQ;unfold rL at hname;have pD:=ae hname;clear hname;go_wp2_with fail
 go_at_call 214;refine pD.out.mono ?_;rintro r w2⟨⟨d2,e2⟩,h2⟩;have lN:=ae (qO.out.trans d2);cases hs1:ws[1]? with
 |none=>
  rw[hs1]at h2;simp only at h2;subst h2;unfold aT;have hR:=HR1.out;rw[hs1]at hR;exact⟨rfl,eT.bad (lN.out) hR⟩
 |some nm=>
 rw[hs1]at h2;simp only at h2;have hR2:=HR1.out;rw[hs1]at hR2;simp only at hR2;by_cases hlab:cO nm=true
 case neg=>
  have hlf:cO nm=false:=by simpa using hlab
  rw[if_neg hlab]at h2;subst h2;unfold aT;rw[if_pos hlf]at hR2;exact⟨rfl,eT.bad (lN.out) hR2⟩
 rw[if_pos hlab]at h2;subst h2;rw[if_neg (by simp[hlab])]at hR2;obtain⟨HR2,H2,HP2⟩:=bu hR2 e2 (mI.out.keep d2 hPb);have OB1:Off (fun x=>x=b) w1 [210]:=fun k hk=>⟨_,_,_,by subst hk;exact H1.out.blk,by simp⟩
 have kq:=ae (bj jq.out d2 OB1 aH);clear hR2 HR1 pD jq mI H1 qO e2 d2 hlab OB1;go_wp2_with fail
 have hB3:=ae (aG.new w2 282 #[.string nm,.bool false,.int .u64 0,.int .u64 0,.int .u8 0]);have hb3:=boxed w2 (.cells #[.string nm,.bool false,.int .u64 0,.int .u64 0,.int .u8 0] 282);obtain⟨H3,fU,vF,j8⟩:=cY (H2.out.below hb3) (HP2.out.alloc (.cells #[.string nm,.bool false,.int .u64 0,.int .u64 0,.int .u8 0] 282)) (own_below kq.out hb3) (lN.out.alloc (.cells #[.string nm,.bool false,.int .u64 0,.int .u64 0,.int .u8 0] 282));have hsz3:w2.heap.size<(w2.alloc (.cells #[.string nm,.bool false,.int .u64 0,.int .u64 0,.int .u8 0] 282)).heap.size:=by simp
 have ace:w.heap.size≤w2.heap.size:=lN.out.size;clear H2 HP2 kq lN hb3;generalize w2.alloc (.cells #[.string nm,.bool false,.int .u64 0,.int .u64 0,.int .u8 0] 282)=w3 at hB3 H3 fU vF j8 hsz3⊢;generalize w2.heap.size=N at hB3 hsz3 ace⊢;have hNb:N≠b:=hB3.out.vP H3.out.blk aH;have hNP:N≠P:=hB3.out.vP fU.out aH;have HAN:=ae fun g hg=>(HN.out.lt g hg).2
 have hhas:=uK (w:=w3.drew) told (by have:=HT.out;omega) _ (aY.Y9 (show w3.drew.ownsRow _ _ _ _ _ _ from vF.out) HT.out.symm) nm;have x0:=(fU.out.cell 2).trans hq;have x1:=hB3.out.cell 0;have x2:=H3.out.blk.cell 2;simp at x1 x2;have hun:=fun W(hW:Rs W b P (1+1) n lv uv ws)(is:Bool)=>hW.unless aQ aQ is 197
 rw[eu (by have:=(List.getElem?_eq_some_iff.1 hs1).1;omega)]at hun;have tH:ag (Calls ah 195 #[.slice A T cap,.string nm] w3.drew (Got (.bool (zi told nm)) w3.drew)):=ae hhas;have kj:=ae hun;clear hhas hun;by_cases hh:zi told nm=true
 ·rw[hh]at tH;have hR:=HR2.out;rw[if_pos hh]at hR;have HR:=ae hR;have Cb:ag (∀(W:World),Rs W b P (1+1) n lv uv ws→Calls ah 164 #[.pointer (some ⟨b,0,none⟩),.bool false,.int .i64 197] W fun r w'=>r=aT 197 n 1∧aW W w'):=ae fun W hW=>kj.out W hW false
  clear hR hh HR2 kj;refine wp_region_held_drew (S:=(fun w'=>w'.cell? ⟨b,2,none⟩=some (.pointer (some ⟨P,0,none⟩))∧w'.cell? ⟨P,2,none⟩=some (.slice A T cap)∧w'.cell? ⟨N,0,none⟩=some (.string nm))) bo (⟨x2,x0,x1⟩) (fun hHeld=>?_);refine bC 0 ?_
  refine bC 1 ?_
  refine bC 2 ?_
  refine bC 3 ?_
  refine bC 4 ?_
  refine bC 5 ?_
  refine bC 6 ?_
  refine bC 7 ?_
  refine bC 8 ?_
  refine bC 9 ?_
  refine jg 10 fun K hK=>?_;go_simp;refine tH.out.mono ?_;rintro r w4⟨rfl,d4⟩;have e4:aW w3 w4:=⟨d4.os,d4.tape,d4.output,d4.size,d4.block⟩;have y0:=((fU.out.below e4 fU.out.lt).cell 2).trans hq;have y1:=(hB3.out.below e4 hB3.out.lt).cell 0;have y2:=(H3.out.below e4).blk.cell 2;simp at y1 y2;refine hK.out _ _ (⟨y2,y0,y1⟩) (fun hHeld=>?_);clear hK K;try simp only[cN]
  refine bC 11 ?_
  refine jg 12 fun K hK=>?_;go_simp;refine(Cb.out _ (H3.out.below e4)).mono ?_;rintro r w5⟨rfl,d5⟩;unfold aT;exact⟨rfl,eT.bad (((j8.out.trans (Keeps.of_below e4 fun k hk _=>hk)).trans (Keeps.of_below d5 fun k hk _=>hk))) HR.out⟩
 have hhf:zi told nm=false:=by simpa using hh
 rw[hhf]at tH;have hR:=HR2.out;rw[if_neg hh]at hR;have HR:=ae hR;have Cb:ag (∀(W:World),Rs W b P (1+1) n lv uv ws→Calls ah 164 #[.pointer (some ⟨b,0,none⟩),.bool true,.int .i64 197] W fun r w'=>r=.returned (.tuple #[])∧aW W w'):=ae fun W hW=>kj.out W hW true
 clear hR hh hhf HR2 kj;refine wp_region_held_drew (S:=(fun w'=>w'.cell? ⟨b,2,none⟩=some (.pointer (some ⟨P,0,none⟩))∧w'.cell? ⟨P,2,none⟩=some (.slice A T cap)∧w'.cell? ⟨N,0,none⟩=some (.string nm))) bo (⟨x2,x0,x1⟩) (fun hHeld=>?_);refine bC 0 ?_
 refine bC 1 ?_
 refine bC 2 ?_
 refine bC 3 ?_
 refine bC 4 ?_
 refine bC 5 ?_
 refine bC 6 ?_
 refine bC 7 ?_
 refine bC 8 ?_
 refine bC 9 ?_
 refine jg 10 fun K hK=>?_;go_simp;refine tH.out.mono ?_;rintro r w4⟨rfl,d4⟩;have e4:aW w3 w4:=⟨d4.os,d4.tape,d4.output,d4.size,d4.block⟩;have y0:=((fU.out.below e4 fU.out.lt).cell 2).trans hq;have y1:=(hB3.out.below e4 hB3.out.lt).cell 0;have y2:=(H3.out.below e4).blk.cell 2;simp at y1 y2;refine hK.out _ _ (⟨y2,y0,y1⟩) (fun hHeld=>?_);clear hK K;try simp only[cN]
 refine bC 11 ?_
 refine jg 12 fun K hK=>?_;go_simp;refine(Cb.out _ (H3.out.below e4)).mono ?_;rintro r w5⟨rfl,d5⟩;have e5:=after e4 d5;have z0:=((fU.out.below e5 fU.out.lt).cell 2).trans hq;have z1:=(hB3.out.below e5 hB3.out.lt).cell 0;have z2:=(H3.out.below e5).blk.cell 2;simp at z1 z2;refine hK.out _ _ (⟨z2,z0,z1⟩) (fun hHeld=>?_);clear hK K;try simp only[cN]
 refine qW ?_;obtain⟨H5,Cc,nw,HN5,Ei⟩:=ej (H3.out.below e5) (fU.out.below e5 fU.out.lt) (hB3.out.below e5 hB3.out.lt) (own_below vF.out e5) (j8.out.trans (Keeps.of_below e5 fun k hk _=>hk));have hsz5:w3.heap.size≤w5.heap.size:=e5.size;clear H3 fU hB3 vF j8 e4 e5 d5 d4 y0 y1 y2 z0 z1 z2 x0 x1 x2 hHeld tH Cb;have iF:=H5.out.must (by have:=(List.getElem?_eq_some_iff.1 hs1).1;omega) EP;unfold qL at iF;have lV:ag (Calls ah 215 #[.pointer (some ⟨b,0,none⟩),.string ⟨#[61]⟩] w5 _):=ae iF;clear iF;go_wp2_with fail
 go_at_call 215;refine lV.out.mono ?_;rintro r w6⟨⟨d6,e6⟩,h6⟩;have tI:=ae (Ei.out.trans d6);have iP:=HR.out;cases hs2:ws[2]? with
 |none=>
  rw[show 1+1=2 from rfl,hs2]at h6;simp only at h6;subst h6;unfold aT;rw[hs2]at iP;exact⟨rfl,eT.bad (tI.out) iP⟩
 |some eq=>
 rw[show 1+1=2 from rfl,hs2]at h6;rw[hs2]at iP;simp only at h6 iP;by_cases heq:eq=EP
 case neg=>
  rw[if_neg heq]at h6;subst h6;unfold aT;rw[if_pos heq]at iP;exact⟨rfl,eT.bad (tI.out) iP⟩
 rw[if_pos heq]at h6;rw[if_neg (by simp[heq])]at iP;subst h6;have hlen3:3≤ws.length:=by have:=(List.getElem?_eq_some_iff.1 hs2).1;omega
 obtain⟨zv,H6,Zg,kO⟩:=cY iP e6 (Cc.out.keep d6 hPb) (nw.out.keep d6 hNb);have OB5:Off (fun x=>x=b) w5 [210]:=fun k hk=>⟨_,_,_,by subst hk;exact H5.out.blk,by simp⟩
 have HN6:=ae (bj HN5.out d6 OB5 aH);clear lV iP HR Ei Cc nw HN5 H5 d6 e6 hs1 hs2 heq OB5;have htake:=H6.out.take hlen3;unfold jm at htake;have kK:=ae htake;clear htake;go_wp2_with fail
 go_at_call 163;refine kK.out.mono ?_;rintro r w7⟨⟨d7,e7⟩,h7⟩;have zf:=ae (tI.out.trans d7);have X9:=zv.out;cases hs3:ws[3]? with
 |none=>
  rw[show 1+1+1=3 from rfl,hs3]at h7;simp only at h7;subst h7;unfold aT;rw[hs3]at X9;exact⟨rfl,eT.bad (zf.out) X9⟩
 |some t=>
 rw[show 1+1+1=3 from rfl,hs3]at h7;rw[hs3]at X9;simp only at h7 X9;subst h7;have aem:3<ws.length:=(List.getElem?_eq_some_iff.1 hs3).1;have hts:t.size≤2000000:=H6.out.sizes t (kE hs3);obtain⟨H7,HP7,uN⟩:=bu e7 (Zg.out.keep d7 hPb) (kO.out.keep d7 hNb);have OB6:Off (fun x=>x=b) w6 [210]:=fun k hk=>⟨_,_,_,by subst hk;exact H6.out.blk,by simp⟩
 have HN7:=ae (bj HN6.out d7 OB6 aH);have hE7:=cw HE.out zf.out (fun k hk=>by subst hk;exact hbb);have hrd:=py (vG.out.below hE7) t hts;clear kK zv tI Zg kO HN6 H6 d7 e7 hs3 OB6 hE7;cases hp:iS t.data.toList with
 |none=>
  rw[hp]at hrd X9;have j6:ag (Calls ah 217 #[.string t] w7 (Got (.tuple #[.agg #[.bool false,.int .u64 0,.int .u64 0,.int .u8 0],.int .i64 8]) w7)):=ae hrd;have Fv:=ae X9;clear hrd X9 hp;go_upto_region 5 with(go_at_call 217;refine j6.out.mono ?_;rintro r w8⟨rfl,d8⟩)
  have d9:=after d8 (boxed w8 (.cells #[.bool false,.int .u64 0,.int .u64 0,.int .u8 0] 218));have hun:=(H7.out.below d9).unless aQ aQ false 192;rw[show Ig (1+1+1+1) ws=3 from eu aem]at hun;have kj:ag (Calls ah 164 #[.pointer (some ⟨b,0,none⟩),.bool false,.int .i64 192] (w8.alloc (.cells #[.bool false,.int .u64 0,.int .u64 0,.int .u8 0] 218)) fun r w'=>r=aT 192 n 3∧Below _ _ w'):=ae hun;have HD:=ae d9;clear hun d9 d8;go_wp2_with(go_at_call 164;refine kj.out.mono ?_;rintro r w9⟨rfl,d9⟩;unfold aT)
  exact⟨rfl,eT.bad ((zf.out.trans (Keeps.of_below (after HD.out d9) fun k hk _=>hk))) Fv.out⟩
 |some pf=>
 obtain⟨⟨a1,a2,a3⟩,a4⟩:=pf;rw[hp]at hrd X9;have j6:ag (Calls ah 217 #[.string t] w7 (Got (.tuple #[.agg #[.bool a1,.int .u64 a2,.int .u64 a3,.int .u8 a4],.int .i64 0]) w7)):=ae hrd;have Fv:=ae X9;clear hrd X9 hp;go_upto_region 5 with(go_at_call 217;refine j6.out.mono ?_;rintro r w8⟨rfl,d8⟩)
 have d9:=after d8 (boxed w8 (.cells #[.bool a1,.int .u64 a2,.int .u64 a3,.int .u8 a4] 218));have hM9:=aG.new w8 218 #[.bool a1,.int .u64 a2,.int .u64 a3,.int .u8 a4];have hMs:w8.heap.size<(w8.alloc (.cells #[.bool a1,.int .u64 a2,.int .u64 a3,.int .u8 a4] 218)).heap.size:=by simp
 have hM8:=d8.size;generalize w8.alloc (.cells #[.bool a1,.int .u64 a2,.int .u64 a3,.int .u8 a4] 218)=w9 at d9 hM9 hMs⊢;generalize w8.heap.size=M at hM9 hMs hM8⊢;obtain⟨H9,HP9,TR,HN9,HK9,PT⟩:=mL (H7.out.below d9) (HP7.out.below d9 HP7.out.lt) (uN.out.below d9 uN.out.lt) (own_below HN7.out d9) (zf.out.trans (Keeps.of_below d9 fun k hk _=>hk)) hM9;have hun:=H9.out.unless aQ aQ true 192;have kj:ag (Calls ah 164 #[.pointer (some ⟨b,0,none⟩),.bool true,.int .i64 192] w9 fun r w'=>r=.returned (.tuple #[])∧Below _ _ w'):=ae hun;clear hun d9 d8 hM9 H7 HP7 uN HN7 zf;go_upto_region 6 with(go_at_call 164;refine kj.out.mono ?_;rintro r w10⟨rfl,d10⟩)
 obtain⟨H10,aen,rk,Fz,aeo,acg⟩:=mL (H9.out.below d10) (HP9.out.below d10 HP9.out.lt) (TR.out.below d10 TR.out.lt) (PT.out.below d10 PT.out.lt) (own_below HN9.out d10) (HK9.out.trans (Keeps.of_below d10 fun k hk _=>hk));have ahb:w.heap.size≤w10.heap.size:=acg.out.size;clear kj H9 HP9 TR PT HN9 HK9 d10;have m0:=Fz.out.cell 0;have m1:=Fz.out.cell 1;have m2:=Fz.out.cell 2;have m3:=Fz.out.cell 3;have b1:=rk.out.cell 1;have b2:=rk.out.cell 2;have b3:=rk.out.cell 3;have b4:=rk.out.cell 4;have z1:=rk.out.frozen 1;have z2:=rk.out.frozen 2;have z3:=rk.out.frozen 3;have z4:=rk.out.frozen 4;simp at m0 m1 m2 m3 b1 b2 b3 b4;go_upto_region 7 with fail
 obtain⟨uP,Zj⟩:=bq ((((w10.setCell ⟨N,1,none⟩ (.bool a1)).setCell ⟨N,2,none⟩ (.int .u64 a2)).setCell ⟨N,3,none⟩ (.int .u64 a3)).setCell ⟨N,4,none⟩ (.int .u8 a4));have Jy:aG uP N 282 #[.string nm,.bool a1,.int .u64 a2,.int .u64 a3,.int .u8 a4]:=by
  rw[Zj];exact(((rk.out.aL 1 (.bool a1)).aL 2 (.int .u64 a2)).aL 3 (.int .u64 a3)).aL 4 (.int .u8 a4)
 have K11:Keeps (fun x=>x=N) w10 uP:=by
  rw[Zj];exact((((Keeps.refl (fun x=>x=N) w10).setCell (p:=⟨N,1,none⟩) (Or.inl rfl) _).setCell (p:=⟨N,2,none⟩) (Or.inl rfl) _).setCell (p:=⟨N,3,none⟩) (Or.inl rfl) _).setCell (p:=⟨N,4,none⟩) (Or.inl rfl) _
 rw[←Zj];clear Zj m0 m1 m2 m3 b1 b2 b3 b4 z1 z2 z3 z4;have O11:Off (fun x=>x=N) w10 [282]:=fun k hk=>⟨_,_,_,by subst hk;exact rk.out,by simp⟩
 have H11:=ae (H10.out.off K11 O11 aH aH);have ach:=ae (aen.out.off K11 O11 aH);have aep:=ae (kh aeo.out K11 fun g hg e=>by have:=HAN.out g hg;omega);have Jy:=ae Jy;have TS:ag (Keeps (fun k=>k=b) w uP):=ae (((acg.out.mono (T:=fun x=>x=b∨x=N) fun k _ hk=>Or.inl hk).trans (K11.mono fun k _ hk=>Or.inr hk)).mono fun k hk hs=>hs.elim id fun e=>absurd hk aQ);have ahc:w.heap.size≤uP.heap.size:=TS.out.size;clear H10 aen rk Fz aeo acg K11 O11 hMs hM8;have hmore:=ae H11.out.more;by_cases h4:4<ws.length
 ·rw[show decide (1+1+1+1<ws.length)=true from decide_eq_true h4]at hmore;have hR:=Fv.out;rw[if_pos h4]at hR;have HR:=ae hR;clear hR Fv;obtain⟨s4,hs4⟩:∃s,ws[4]? =some s:=⟨_,List.getElem?_eq_getElem h4⟩;go_upto_region 8 with(go_at_call 216;refine hmore.out.mono ?_;rintro r w12⟨rfl,d12⟩)
  have htake:=(H11.out.below d12).take aQ;unfold jm at htake;rw[show 1+1+1+1=4 from rfl,hs4]at htake;have kK:ag (Calls ah 163 #[.pointer (some ⟨b,0,none⟩)] w12 fun r w'=>(Keeps (fun x=>x=b) w12 w'∧Rs w' b P (4+1) n lv uv ws)∧r=.returned (.string s4)):=ae htake;have TV:=ae (TS.out.trans (Keeps.of_below d12 fun k hk _=>hk));clear htake d12 TS H11;go_upto_region 9 with(go_at_call 163;refine kK.out.mono ?_;rintro r Ek⟨⟨d13,e13⟩,rfl⟩)
  have hwr:=e13.wrong aQ aQ 190;rw[eu h4]at hwr;have HWr:ag (Calls ah 193 #[.pointer (some ⟨b,0,none⟩),.int .i64 190] Ek fun r w'=>r=aT 190 n 4∧Below _ _ w'):=ae hwr;have age:=ae (TV.out.trans d13);clear hwr d13 e13 TV;go_wp2_with(go_at_call 193;refine HWr.out.mono ?_;rintro r jH⟨rfl,ji⟩;unfold aT)
  exact⟨rfl,eT.bad (age.out.trans (Keeps.of_below ji fun k hk _=>hk)) HR.out⟩
 rw[show decide (1+1+1+1<ws.length)=false from decide_eq_false h4]at hmore;have hR:=Fv.out;rw[if_neg h4]at hR;have HR:=ae hR;clear hR Fv;go_upto_region 10 with(go_at_call 216;refine hmore.out.mono ?_;rintro r w12⟨rfl,d12⟩)
 obtain⟨H12,aeq,PU,agf,TV⟩:=ej (H11.out.below d12) (ach.out.below d12 ach.out.lt) (Jy.out.below d12 Jy.out.lt) (own_below aep.out d12) (TS.out.trans (Keeps.of_below d12 fun k hk _=>hk));have abo:=TV.out.size;clear hmore H11 ach Jy aep TS d12;obtain⟨j0,hj,hj0,hj1,hj2⟩:=info_parts Zb;have x0:=(aeq.out.cell 2).trans hq;have x2:=H12.out.blk.cell 2;have u0:=PU.out.cell 0;have u1:=PU.out.cell 1;have u2:=PU.out.cell 2;have u3:=PU.out.cell 3;have u4:=PU.out.cell 4;simp at x2 u0 u1 u2 u3 u4;obtain⟨jH,ew⟩:=bq ((w12.alloc (.cells #[.string nm,.bool a1,.int .u64 a2,.int .u64 a3,.int .u8 a4] 282)).drew);have mD:ag (jH.ownsRow w0.heap.size 282 5 (.slice A T cap) T (fw told)):=ae (by rw[ew];exact agf.out.alloc _);have iY:ag (∀j u,[.string nm,.bool a1,.int .u64 a2,.int .u64 a3,.int .u8 a4][j]? =some u→jH.cell? ((⟨w12.heap.size,0,none⟩:Addr).add j)=some u):=ae (by rw[ew];exact cQ w12 [.string nm,.bool a1,.int .u64 a2,.int .u64 a3,.int .u8 a4] 282);have ot:ag (aG jH P 169 pc):=ae (by rw[ew];exact aeq.out.alloc _);have xI:ag (aG jH N 282 #[.string nm,.bool a1,.int .u64 a2,.int .u64 a3,.int .u8 a4]):=ae (by rw[ew];exact PU.out.alloc _);have Ce:ag (Rs jH b P (1+1+1+1) n lv uv ws):=ae (by rw[ew];exact⟨(H12.out.alloc _).blk,(H12.out.alloc _).row,H12.out.ne,H12.out.len,H12.out.sizes⟩);have Ik:ag (Keeps (fun k=>k=b∨k=P∨(dq A T cap).ownBlock=some k) w jH):=ae (by rw[ew];exact((TV.out.mono fun k _ hk=>Or.inl hk).alloc _).drew);have PV:jH.heap.size=w12.heap.size+1:=by rw[ew];simp
 have y0:=(ot.out.cell 2).trans hq;have y2:=Ce.out.blk.cell 2;have v0:=xI.out.cell 0;have v1:=xI.out.cell 1;have v2:=xI.out.cell 2;have v3:=xI.out.cell 3;have v4:=xI.out.cell 4;simp at y2 v0 v1 v2 v3 v4;have X8:ag (some N≠(dq A T cap).ownBlock):=ae fun e=>by have:=HAN.out N e.symm;omega
 rw[ew]at mD iY ot xI y0 y2 v0 v1 v2 v3 v4;refine dW 16 (fun w'=>w'.cell? ⟨b,2,none⟩=some (.pointer (some ⟨P,0,none⟩))∧w'.cell? ⟨P,2,none⟩=some (.slice A T cap)∧w'.cell? ⟨N,0,none⟩=some (.string nm)∧w'.cell? ⟨N,1,none⟩=some (.bool a1)∧w'.cell? ⟨N,2,none⟩=some (.int .u64 a2)∧w'.cell? ⟨N,3,none⟩=some (.int .u64 a3)∧w'.cell? ⟨N,4,none⟩=some (.int .u8 a4)) bo (⟨x2,x0,u0,u1,u2,u3,u4⟩) (fun hHeld=>?_);refine dR 0 ?_
 refine dR 1 ?_
 refine dR 2 ?_
 refine dR 3 ?_
 refine dR 4 ?_
 refine dR 5 ?_
 refine dR 6 ?_
 refine dR 7 ?_
 refine dR 8 ?_
 refine dR 9 ?_
 refine dR 10 ?_
 refine dR 11 ?_
 refine nA 12 fun K hK=>?_;go_simp
 skip
 refine hK.out _ _ (fun _=>⟨y2,y0,v0,v1,v2,v3,v4⟩) (fun hHeld=>?_);have hHeld:=hHeld aH;clear hK K;try simp only[cN]
 refine nA 13 fun K hK=>?_;refine step_append_lies _ (by rfl) _ _ _ (by rfl) w0.heap.size 282 j0 (.agg #[aI,.bool false,.int .u64 0,.int .u64 0,.int .u8 0]) 5 48 Tryz.underlying166 hj hj0 hj1 hj2 rfl aH _ T _ (by rfl) mD.out ⟨w12.heap.size,0,none⟩ 1 1 [.string nm,.bool a1,.int .u64 a2,.int .u64 a3,.int .u8 a4] (by rfl) rfl iY.out (by intro u hu;simp at hu;rcases hu with rfl|rfl|rfl|rfl|rfl<;>rfl) aH (by unfold maxLen;omega) aQ (by simp;omega) (w12.heap.size+1) (by simp) ?_;intro g' cap' qP hown' hgrow hat nJ;have BP:=ae (ot.out.off (Keeps.row hgrow) (cE mD.out) aH);have fV:=xI.out.grown hgrow X8.out;have p0:=(BP.out.cell 2).trans hq;have pz:=BP.out.frozen 2;have n0:=fV.cell 0;have n1:=fV.cell 1;have n2:=fV.cell 2;have n3:=fV.cell 3;have n4:=fV.cell 4;rw[←ew]at hgrow mD;have R15:=ae (Ce.out.off (Keeps.row hgrow) (cE mD.out) aH aH);have p2:=R15.out.blk.cell 2;simp at n0 n1 n2 n3 n4 p2;obtain⟨mC,fY,PS⟩:=bu hown' hgrow hat;clear hown' hgrow hat nJ fV;refine hK.out _ _ (fun _=>⟨p2,p0,n0,n1,n2,n3,n4⟩) (fun hHeld=>?_);have hHeld:=hHeld aH;clear hK K;try simp only[cN]
 refine nA 14 fun K hK=>?_;go_simp;refine hK.out _ _ (fun _=>hHeld) (fun hHeld=>?_);have hHeld:=hHeld aH;clear hK K;try simp only[cN]
 refine dR 15 ?_
 refine nA 16 fun K hK=>?_;go_simp;refine hK.out _ _ (fun h=>absurd rfl h) (fun _=>?_);clear hK K hHeld;try simp only[cN]
 refine OC ?_;go_wp2_with fail
 have K2:=(Keeps.grown Ik.out fY.out fun k hk=>Or.inl (Or.inr (Or.inr hk))).setCell (p:=⟨P,2,none⟩) (Or.inl (Or.inr (Or.inl rfl))) (.slice (some ⟨g',0,none⟩) (T+1) cap');have KQ:=(Keeps.refl (fun x=>x=P) qP).setCell (p:=⟨P,2,none⟩) (Or.inl rfl) (.slice (some ⟨g',0,none⟩) (T+1) cap');have OQ:Off (fun x=>x=P) qP [169]:=fun k hk=>⟨_,_,_,by subst hk;exact BP.out,by simp⟩
 have R2:=R15.out.off KQ OQ aH aH;have B2:aG (qP.setCell ⟨P,2,none⟩ (.slice (some ⟨g',0,none⟩) (T+1) cap')) P 169 (pc.setIfInBounds 2 (.slice (some ⟨g',0,none⟩) (T+1) cap')):=BP.out.aL 2 _;refine⟨rfl,_,results_none rfl _ _ _,eT.good HR.out K2 ⟨rfl,_,_,R2,B2,?_,?_⟩⟩
 ·rw[ai,←HT.out,B9];exact bj mC.out KQ OQ (by decide)
 ·intro g hg;have hgg:some g'=some g:=hg;injection hgg with hgg
  rcases PS.out with h|h
  ·exact Or.inl (hgg▸h)
  ·exact Or.inr (by omega)
abbrev aci:=Except Bad (List (kx×Nat)×List ByteArray)
def ou(en:ByteArray)(ws:List ByteArray)(k:Nat)(acc:List (kx×Nat)):aci:=(dY en (ws.drop k) k acc.length).map fun x=>(acc++x.1,x.2)
theorem Jz(en:ByteArray)(ws:List ByteArray)(k:Nat):ou en ws k []=dY en (ws.drop k) k 0:=by
 unfold ou;simp only[List.length_nil,List.nil_append];cases dY en (ws.drop k) k 0<;>rfl
theorem JA{en:ByteArray}{ws:List ByteArray}{k:Nat}(h:k=ws.length):ou en ws k []=.error (190,ws.length):=by
 subst h;unfold ou;rw[og (Nat.le_refl _)];rfl
theorem JB{en s:ByteArray}{ws:List ByteArray}{k:Nat}{acc:List (kx×Nat)}(h:ws[k]? =some s)(he:s=en)(ha:acc≠[]):ou en ws k acc=.ok (acc,ws.drop k):=by
 have hk:k<ws.length:=(List.getElem?_eq_some_iff.1 h).1;have hg:ws[k]=s:=(List.getElem?_eq_some_iff.1 h).2;unfold ou;rw[bR hk,hg];unfold dY;rw[if_pos ⟨he,fun e=>ha (bz e)⟩];simp[Except.map]
theorem JC{en s:ByteArray}{ws:List ByteArray}{k:Nat}{acc:List (kx×Nat)}(h:ws[k]? =some s)(hn:¬(s=en∧acc≠[])):ou en ws k acc=match mN s with
 |none=>.error (195,k)
 |some x=>if 64≤acc.length then .error (198,k)else ou en ws (k+1) (acc++[(x,k)]):=by
 have hk:k<ws.length:=(List.getElem?_eq_some_iff.1 h).1;have hg:ws[k]=s:=(List.getElem?_eq_some_iff.1 h).2;unfold ou;rw[bR hk,hg]
 conv=>lhs;unfold dY
 rw[if_neg (fun e=>hn ⟨e.1,fun e2=>e.2 (by rw[e2];rfl)⟩)];cases mN s with
 |none=>rfl
 |some x=>
  simp only;by_cases h2:64≤acc.length
  ·rw[if_pos h2,if_pos h2];rfl
  rw[if_neg h2,if_neg h2,ai,List.length_singleton];cases dY en (List.drop (k+1) ws) (k+1) (acc.length+1)with
  |error e=>rfl
  |ok l=>simp[Except.map]
theorem An{en:ByteArray}{ws:List ByteArray}{k:Nat}{acc:List (kx×Nat)}(h:ws.length≤k)(ha:acc≠[]):ou en ws k acc=.ok (acc,[]):=by
 unfold ou;rw[og h];unfold dY;rw[if_neg (fun e=>ha (bz e))];simp[Except.map]
def kP(n:Nat)(l:List (kx×Nat)):List Us:=l.map fun y=>(y.1,n,y.2)
def acj(w0 w:World)(b P n:Nat)(lv uv:Value)(ws:List ByteArray)(us:List Us)(w':World)(x:List (kx×Nat)×List ByteArray)(r:Ending):Prop:=∃v uv',r=.returned v∧w'.ownsRow w.heap.size 220 6 v x.1.length (gW (x.1.map (·.1)))∧Rs w' b P (ws.length-x.2.length) n lv uv' ws∧fh w' w0.heap.size uv' (us++kP n x.1)∧(∀g,uv'.ownBlock=some g→uv.ownBlock=some g∨w.heap.size≤g)∧x.1.length≤64
theorem Rs.xJ{w:World}{b P k n:Nat}{lv uv:Value}{ws:List ByteArray}(h:Rs w b P k n lv uv ws):w.cell? ⟨b,0,none⟩=some lv∧w.cell? ⟨b,1,none⟩=some (.int .i64 k)∧w.cell? ⟨b,3,none⟩=some uv:=by
 have c0:=h.blk.cell 0;have c1:=h.blk.cell 1;have c3:=h.blk.cell 3;simp at c0 c1 c3;exact⟨c0,c1,c3⟩
theorem fh.MS{w:World}{base b P k n:Nat}{lv uv:Value}{ws:List ByteArray}{us:List Us}(h:fh w base uv us)(hr:Rs w b P k n lv uv ws):∀g,uv.ownBlock=some g→g≠b:=by
 intro g hg e;obtain⟨xs,_,ho⟩:=h;obtain⟨cur,e2,fz,hh,hT⟩:=cE ho g hg;have:=hr.blk;unfold RdB aG at this;rw[←e,hh]at this;injection this with this
 injection this with _ h2 _
 rw[List.mem_singleton.1 hT]at h2;exact absurd h2 (by decide)
theorem Rs.word{w:World}{b P k n g cap j:Nat}{uv:Value}{ws:List ByteArray}{s:ByteArray}(h:Rs w b P k n (.slice (some ⟨g,0,none⟩) ws.length cap) uv ws)(hs:ws[j]? =some s):w.cell? ⟨g,j*3,none⟩=some (.string s)∧w.cell? ⟨g,j*3+1,none⟩=some (.int .i64 n)∧w.cell? ⟨g,j*3+2,none⟩=some (.int .i64 j):=by
 obtain⟨g',cap',e,_,_,hc⟩:=h.row.shape h.ne;injection e with e1 _ _
 injection e1 with e1
 injection e1 with e1 _ _
 subst e1;obtain⟨v0,v1,v2⟩:=tB n ws 0 j s hs;rw[Nat.zero_add]at v2;have hj:j<ws.length:=(List.getElem?_eq_some_iff.1 hs).1;exact⟨(hc _ aQ).trans v0,(hc _ aQ).trans v1,(hc _ aQ).trans v2⟩
theorem fh.below{w w':World}{base:Nat}{v:Value}{l:List Us}(h:fh w base v l)(hb:aW w w'):fh w' base v l:=by
 obtain⟨xs,e,ha⟩:=h;exact⟨xs,e,own_below ha hb⟩
theorem fh.off{S:Nat→Prop}{w w':World}{T:List TypeId}{base:Nat}{v:Value}{l:List Us}(h:fh w base v l)(hk:Keeps S w w')(ho:Off S w T)(he:224∉T):fh w' base v l:=by
 obtain⟨xs,e,ha⟩:=h;exact⟨xs,e,bj ha hk ho he⟩
theorem FA{w:World}{s:ByteArray}(h:Calls ah 242 #[.string s] w (Jt none w)):Calls ah 242 #[.string s] w fun r w'=>(∃(k:Nat)(nm:ByteArray)(v6:Bool)(hi lo bits:Nat),r=.returned (.tuple #[.agg #[.int .u8 k,.string nm,.bool v6,.int .u64 hi,.int .u64 lo,.int .u8 bits],.bool false]))∧aW w w':=h.mono fun r w'⟨⟨s,h1,_⟩,h2⟩=>⟨⟨s.kind,s.name,s.net.a.v6,s.net.a.hi,s.net.a.lo,s.net.bits,h1⟩,h2⟩
theorem FC{w:World}{s:ByteArray}{x:kx}(h:Calls ah 242 #[.string s] w (Jt (some x) w)):Calls ah 242 #[.string s] w (Got (.tuple #[.agg #[.int .u8 (x.kind:Int),.string x.name,.bool x.net.a.v6,.int .u64 (x.net.a.hi:Int),.int .u64 (x.net.a.lo:Int),.int .u8 (x.net.bits:Int)],.bool true]) w):=h.mono fun r w'⟨⟨s,h1,h3⟩,h2⟩=>by obtain rfl:=h3 _ rfl;exact⟨h1,h2⟩
theorem FG{w0 w:World}(env:Env w0)(hE:aW w0 w){b P k n:Nat}{lv uv:Value}{ws:List ByteArray}{us:List Us}(h:Rs w b P k n lv uv ws)(hu:fh w w0.heap.size uv us)(hk:k≤ws.length)(hus:us.length≤4000000)(hbb:w0.heap.size≤b)(en:ByteArray):Calls ah 219 #[.pointer (some ⟨b,0,none⟩),.string en] w fun r w'=>Keeps (fun x=>x=b∨uv.ownBlock=some x) w w'∧fi (dY en (ws.drop k) k 0) n (acj w0 w b P n lv uv ws us w') r:=by
 obtain⟨RES,eO⟩:=bq (dY en (ws.drop k) k 0);rw[←eO];rw[←Jz]at eO;obtain⟨i0,hi,hz0,hz1,hz2⟩:=info_parts TK;obtain⟨j0,hj,hj0,hj1,hj2⟩:=info_parts Ze;have hbs:w0.heap.size≤w.heap.size:=hE.size;have hUB:∀g,uv.ownBlock=some g→w0.heap.size≤g∧g<w.heap.size:=by
  obtain⟨xs,_,ho⟩:=hu;exact fun g hg=>ho.lt g hg
 obtain⟨HUB,H,HU,jO,HE,vG,HWl⟩:=mM hUB h hu eO hE env h.len;clear h hu eO hE env hUB;go_enter Tryz.func219,Tryz.ntmps219;go_wp2_with fail
 go_loopw [4] (fun v4 wr=>∃(k':Nat)(acc:List (kx×Nat))(A:Option Addr)(cap:Nat)(uv':Value),v4=.slice A acc.length cap∧k'≤ws.length∧ag (acc≠[]→k'<ws.length)∧acc.length≤64∧ag (Rs wr b P k' n lv uv' ws)∧ag (Keeps (fun x=>x=b∨uv.ownBlock=some x) w wr)∧ag (wr.ownsRow w.heap.size 220 6 (.slice A acc.length cap) acc.length (gW (acc.map (·.1))))∧ag (fh wr w0.heap.size uv' (us++kP n acc))∧ag (∀g,uv'.ownBlock=some g→uv.ownBlock=some g∨w.heap.size≤g)∧ag (RES=ou en ws k' acc)) (fun _ wr=>ws.length+1-xG wr b)
 case atStart=>exact⟨k,[],none,0,uv,rfl,hk,ae fun h=>absurd rfl h,by simp,H,ae (Keeps.refl _ _),ae (World.ownsRow_nil _ _ _ _),ae (by unfold kP;simpa using HU.out),ae fun g hg=>Or.inl hg,jO⟩
 case round=>
  obtain⟨k',acc,A,cap,uv',rfl,hk',hak,hal,hrs,hkp,hown,huv,hub,hres⟩:=hrel;have zS:=ae hrs.out.next;have htake:=hrs.out.take hk';unfold jm at htake;have kK:=ae htake;obtain⟨L,hL⟩:=bq acc.length;rw[←hL]at hown hal⊢;have HL:=ae hL;clear htake hL;go_wp2_with fail
  go_at_call 163;refine kK.out.mono ?_;rintro r w2⟨⟨d2,e2⟩,h2⟩;cases hs:ws[k']? with
  |none=>
   have hge:ws.length≤k':=by rw[List.getElem?_eq_none_iff]at hs;exact hs
   rw[hs]at h2;simp only at h2;subst h2;unfold aT;have ha:acc=[]:=Classical.byContradiction fun e=>absurd (hak.out e) (by omega)
   exact⟨rfl,hkp.out.trans (d2.mono fun k _ hk=>Or.inl hk),fi.bad (by rw[hres.out,ha];exact JA aQ)⟩
  |some wd=>
  rw[hs]at h2;simp only at h2;subst h2;have hlt:k'<ws.length:=(List.getElem?_eq_some_iff.1 hs).1;have rm:=ae e2;have OB:Off (fun x=>x=b) wr [210]:=fun k hk=>⟨_,_,_,by subst hk;exact hrs.out.blk,by simp⟩
  have OW2:=ae (bj hown.out d2 OB aH);obtain⟨Zk,Cf⟩:=aN (huv.out.keep d2 (huv.out.MS hrs.out)) (hkp.out.trans (d2.mono (T:=fun x=>x=b∨uv.ownBlock=some x) fun k _ hk=>Or.inl hk));clear kK hrs hown huv hkp d2 e2 OB;by_cases hstop:wd=en∧acc≠[]
  ·obtain⟨rfl,hne⟩:=hstop;have hR:=hres.out;rw[JB hs rfl hne]at hR;have HR:=ae hR;have hL0:0<L:=by
    have:=HL.out;cases acc with
    |nil=>exact absurd rfl hne
    |cons x r=>simp at this;omega
   have q1:(0:Int)<(L:Int):=by omega
   have q2:(wd.toList==wd.toList)=true:=by simp
   have c1:=rm.out.xJ.2.1;have z1:=rm.out.blk.frozen 1;have hkb:(k':Int)≤2000000:=by have:=HWl.out;omega
   clear hR hres hne hs;rw[show((k'+1:Nat):Int)=(k':Int)+1 by omega]at c1;go_wp2_with fail
   have KS:=(Keeps.refl (fun x=>x=b) w2).setCell (p:=⟨b,1,none⟩) (Or.inl rfl) (.int .i64 k');have OS:Off (fun x=>x=b) w2 [210]:=fun k hk=>⟨_,_,_,by subst hk;exact rm.out.blk,by simp⟩
   have RB:RdB (w2.setCell ⟨b,1,none⟩ (.int .i64 k')) b lv k' P uv':=rm.out.blk.aL 1 (.int .i64 k');have RS3:=rm.out.step KS RB;refine bodyPost_ret (results_tmp rfl _ _ _) rfl ⟨Cf.out.trans (KS.mono fun k _ hk=>Or.inl hk),fi.good HR.out ⟨_,uv',rfl,?_,?_,Zk.out.keep KS (Zk.out.MS rm.out),hub.out,by rw[←HL.out];exact hal⟩⟩
   ·simp only;rw[←HL.out];exact bj OW2.out KS OS (by decide)
   ·simp only[List.length_drop];rw[show ws.length-(ws.length-k')=k' by omega];exact RS3
  ·have hR:=hres.out;rw[JC hs hstop]at hR;have HR:=ae hR;have hwd:wd.size≤2000000:=rm.out.sizes wd (kE hs);have hE2:=cw HE.out Cf.out (fun k hk=>hk.elim (fun e=>by subst e;exact hbb) fun e=>(HUB.out k e).1);have hsel:=Y6 (vG.out.below hE2) wd hwd;have Hs:=ae hs;clear hR hres hs hE2;have hcond:((wd.toList==en.toList)=true∧(0:Int)<(L:Int))→False:=fun h=>hstop ⟨by
    have:=h.1;rw[beq_iff_eq,cC,cC]at this;exact ByteArray.ext (Array.ext' this),fun e=>by have:=HL.out;rw[e]at this;simp at this;omega⟩
   clear hstop;obtain⟨o,ho⟩:=bq (mN wd);rw[←ho]at hsel HR;have Ho:=ae ho;clear ho;cases hb:(wd.toList==en.toList)with
   |true=>
    have hL0:¬(0:Int)<(L:Int):=fun h=>hcond ⟨hb,h⟩
    clear hcond;cases o with
    |none=>
     have xK:=ae (FA hsel);clear hsel;have hR:=HR.out;simp only at hR;have HRn:=ae hR;clear hR HR;go_upto_region 6 with(go_at_call 242;refine xK.out.mono ?_;rintro r w3⟨⟨x1,x2,x3,x4,x5,x6,rfl⟩,d3⟩)
     have d4:=after d3 (boxed w3 (.cells #[.int .u8 x1,.string x2,.bool x3,.int .u64 x4,.int .u64 x5,.int .u8 x6] 220));generalize w3.alloc (.cells #[.int .u8 x1,.string x2,.bool x3,.int .u64 x4,.int .u64 x5,.int .u8 x6] 220)=w4 at d4⊢;obtain⟨FH,zg⟩:=aN (rm.out.below d4) (Cf.out.trans (Keeps.of_below d4 fun k hk _=>hk));clear rm Cf;clear d4 d3 xK;have hun:=FH.out.unless aQ aQ false 195;rw[eu hlt]at hun;have kj:ag (Calls ah 164 #[.pointer (some ⟨b,0,none⟩),.bool false,.int .i64 195] w4 fun r w'=>r=aT 195 n k'∧aW w4 w'):=ae hun;clear hun;go_wp2_with(go_at_call 164;refine kj.out.mono ?_;rintro r w5⟨rfl,d5⟩;unfold aT)
     exact⟨rfl,zg.out.trans (Keeps.of_below d5 fun k hk _=>hk),fi.bad HRn.out⟩
    |some X=>
     have hR:=HR.out;simp only at hR;obtain⟨x1,x2,⟨⟨x3,x4,x5⟩,x6⟩⟩:=X;have xK:ag (Calls ah 242 #[.string wd] w2 (Got (.tuple #[.agg #[.int .u8 x1,.string x2,.bool x3,.int .u64 x4,.int .u64 x5,.int .u8 x6],.bool true]) w2)):=ae (FC hsel);clear hsel;have HRn:=ae hR;clear hR HR;go_upto_region 6 with(go_at_call 242;refine xK.out.mono ?_;rintro r w3⟨rfl,d3⟩)
     have d4:=after d3 (boxed w3 (.cells #[.int .u8 x1,.string x2,.bool x3,.int .u64 x4,.int .u64 x5,.int .u8 x6] 220));have M4:=ae (aG.new w3 220 #[.int .u8 x1,.string x2,.bool x3,.int .u64 x4,.int .u64 x5,.int .u8 x6]);have Em:=d3.size;generalize w3.alloc (.cells #[.int .u8 x1,.string x2,.bool x3,.int .u64 x4,.int .u64 x5,.int .u8 x6] 220)=w4 at d4 M4⊢;generalize w3.heap.size=M at Em M4⊢;have hOM:∀g,(dq A L cap).ownBlock=some g→g<M:=fun g hg=>by have:=(OW2.out.lt g hg).2;omega
     obtain⟨HOM,FH,OW4,TW,zg⟩:=ej hOM (rm.out.below d4) (own_below OW2.out d4) (Zk.out.below d4) (Cf.out.trans (Keeps.of_below d4 fun k hk _=>hk));clear rm OW2 Zk Cf;clear d4 d3 xK hOM;have hun:=FH.out.unless aQ aQ true 195;have kj:ag (Calls ah 164 #[.pointer (some ⟨b,0,none⟩),.bool true,.int .i64 195] w4 fun r w'=>r=.returned (.tuple #[])∧aW w4 w'):=ae hun;clear hun;go_upto_region 7 with(go_at_call 164;refine kj.out.mono ?_;rintro r w5⟨rfl,d5⟩)
     obtain⟨rn,OW5,Zl,Il,M5⟩:=ej (FH.out.below d5) (own_below OW4.out d5) (TW.out.below d5) (zg.out.trans (Keeps.of_below d5 fun k hk _=>hk)) (M4.out.below d5 M4.out.lt);clear FH OW4 TW zg M4;clear d5 kj;have hro:=rn.out.room aQ aQ L;rw[eu hlt]at hro;have rp:=ae hro;clear hro;by_cases h64:64≤L
     ·have hR:=HRn.out;rw[←HL.out,if_pos h64]at hR;rw[decide_eq_false aQ]at rp;have nM:ag (Calls ah 213 #[.pointer (some ⟨b,0,none⟩),.int .i64 L] w5 fun r w'=>r=aT 198 n k'∧aW w5 w'):=rp;have PW:=ae hR;clear rp hR HRn h64;go_wp2_with(go_at_call 213;refine nM.out.mono ?_;rintro r w6⟨rfl,d6⟩;unfold aT)
      exact⟨rfl,Il.out.trans (Keeps.of_below d6 fun k hk _=>hk),fi.bad PW.out⟩
     have hR:=HRn.out;rw[←HL.out,if_neg h64]at hR;rw[decide_eq_true aQ]at rp;have nM:ag (Calls ah 213 #[.pointer (some ⟨b,0,none⟩),.int .i64 L] w5 fun r w'=>r=.returned (.tuple #[])∧aW w5 w'):=rp;have PW:=ae hR;clear rp hR HRn;go_upto_region 8 with(go_at_call 213;refine nM.out.mono ?_;rintro r w6⟨rfl,d6⟩)
     obtain⟨FI,Zm,US6,MU,M6⟩:=ej (rn.out.below d6) (own_below OW5.out d6) (Zl.out.below d6) (Il.out.trans (Keeps.of_below d6 fun k hk _=>hk)) (M5.out.below d6 M5.out.lt);clear rn OW5 Zl Il M5;clear d6 nM;obtain⟨m0,m1,m2,m3,m4,m5⟩:=wZ M6;have hwb:=MU.out.size;go_upto_region 9 with(at_builtin;refine wpList_append_own _ rfl _ _ 285 rfl w.heap.size 220 i0 (.agg #[.int .u8 0,aI,.bool false,.int .u64 0,.int .u64 0,.int .u8 0]) 6 56 Tryz.underlying285 hi hz0 hz1 hz2 rfl aH _ L _ rfl (Zm.out.alloc _) ⟨w6.heap.size,0,none⟩ 1 1 [.int .u8 x1,.string x2,.bool x3,.int .u64 x4,.int .u64 x5,.int .u8 x6] rfl rfl (cQ w6 [.int .u8 x1,.string x2,.bool x3,.int .u64 x4,.int .u64 x5,.int .u8 x6] 220) (by intro u hu;simp at hu;rcases hu with rfl|rfl|rfl|rfl|rfl|rfl<;>rfl) (by unfold maxLen;omega) aQ (by simp;omega) ?_;intro v' w7 hown' hgrow hnil)
     have zf:=Keeps.row hgrow;have PX:=cE (Zm.out.alloc (.cells #[.int .u8 x1,.string x2,.bool x3,.int .u64 x4,.int .u64 x5,.int .u8 x6] 220));have qg:=ae ((FI.out.alloc _).off zf PX aH aH);have Ya:=ae ((US6.out.below (boxed w6 _)).off zf PX aH);have M7:=ae ((M6.out.alloc _).grown hgrow (fun e=>by have:=HOM.out M e.symm;omega));have Ej:=ae (Keeps.grown (MU.out.alloc _) hgrow fun k hk=>Or.inr (Zm.out.lt k hk).1);obtain⟨A2,cap2,rfl⟩:=aV hown';have OW7:=ae hown';have agh:w.heap.size≤w7.heap.size:=Ej.out.size;clear zf PX hgrow hnil hown' FI US6 M6 MU Zm HOM m0 m1 m2 m3 m4 m5 hwb;obtain⟨gw,JD,rfl,aer,⟨agi,hgW⟩,hcw⟩:=qg.out.row.shape qg.out.ne;obtain⟨xs,hxs,MV⟩:=Ya.out;obtain⟨Au,JE,rfl⟩:=aV MV;obtain⟨U,hU⟩:=bq ((us++kP n acc).length);rw[←hU]at MV hub;have hU1:U≤4000100:=by rw[hU,ai];unfold kP;rw[ay];have:=HL.out;omega
     obtain⟨c0,c1,c3⟩:=qg.out.xJ;rw[←hU]at c3;obtain⟨t0,t1,t2⟩:=qg.out.word Hs.out;obtain⟨m0,m1,m2,m3,m4,m5⟩:=wZ M7;have i1:IntKind.i64.wrap (k':Int)=(k':Int):=by have:=HWl.out;rw[ahS];omega
     have i2:(k':Int)<(ws.length:Int):=by omega
     obtain⟨jH,ew⟩:=bq ((w7.alloc (.cells #[.int .u8 x1,.string x2,.bool x3,.int .u64 x4,.int .u64 x5,.int .u8 x6,.string wd,.int .i64 n,.int .i64 k'] 224)).drew);have mD:ag (jH.ownsRow w0.heap.size 224 9 (.slice Au U JE) U (gg xs)):=ae (by rw[ew];exact MV.alloc _);have iY:ag (∀j u,[.int .u8 x1,.string x2,.bool x3,.int .u64 x4,.int .u64 x5,.int .u8 x6,.string wd,.int .i64 n,.int .i64 k'][j]? =some u→jH.cell? ((⟨w7.heap.size,0,none⟩:Addr).add j)=some u):=ae (by rw[ew];exact cQ w7 [.int .u8 x1,.string x2,.bool x3,.int .u64 x4,.int .u64 x5,.int .u8 x6,.string wd,.int .i64 n,.int .i64 k'] 224);have j6:ag (Rs jH b P (k'+1) n (.slice (some ⟨gw,0,none⟩) ws.length JD) (.slice Au U JE) ws):=ae (by rw[ew,hU];exact⟨(qg.out.alloc _).blk,(qg.out.alloc _).row,qg.out.ne,qg.out.len,qg.out.sizes⟩);have Ik:ag (Keeps (fun x=>x=b∨uv.ownBlock=some x) w jH):=ae (by rw[ew];exact(Ej.out.alloc _).drew);have TX:ag (jH.ownsRow w.heap.size 220 6 (.slice A2 (L+1) cap2) (L+1) _):=ae (by rw[ew];exact OW7.out.alloc _);have PV:jH.heap.size=w7.heap.size+1:=by rw[ew];simp
     have hb8:aW w7 jH:=by rw[ew];have q:=boxed w7 (.cells #[.int .u8 x1,.string x2,.bool x3,.int .u64 x4,.int .u64 x5,.int .u8 x6,.string wd,.int .i64 n,.int .i64 k'] 224);exact⟨q.os,q.tape,q.output,q.size,q.block⟩
     obtain⟨d0,d1,d3⟩:=j6.out.xJ;obtain⟨q0,q1,q2⟩:=j6.out.word Hs.out;have TY:=ae (M7.out.below hb8 M7.out.lt);obtain⟨n0,n1,n2,n3,n4,n5⟩:=wZ TY;obtain⟨JF,HU1⟩:=aN hxs hU;clear hxs MV hU qg Ej M7 OW7 hgW hcw hb8 Ya;rw[ew]at mD iY d0 d1 d3 q0 q1 q2 n0 n1 n2 n3 n4 n5;refine dW 22 (fun w'=>w'.cell? ⟨b,0,none⟩=some (.slice (some ⟨gw,0,none⟩) ws.length JD)∧w'.cell? ⟨b,1,none⟩=some (.int .i64 ((k'+1:Nat):Int))∧w'.cell? ⟨b,3,none⟩=some (.slice Au U JE)∧w'.cell? ⟨gw,k'*3,none⟩=some (.string wd)∧w'.cell? ⟨gw,k'*3+1,none⟩=some (.int .i64 n)∧w'.cell? ⟨gw,k'*3+2,none⟩=some (.int .i64 k')∧w'.cell? ⟨M,0,none⟩=some (.int .u8 x1)∧w'.cell? ⟨M,1,none⟩=some (.string x2)∧w'.cell? ⟨M,2,none⟩=some (.bool x3)∧w'.cell? ⟨M,3,none⟩=some (.int .u64 x4)∧w'.cell? ⟨M,4,none⟩=some (.int .u64 x5)∧w'.cell? ⟨M,5,none⟩=some (.int .u8 x6)) bo (⟨c0,c1,c3,t0,t1,t2,m0,m1,m2,m3,m4,m5⟩) (fun hHeld=>?_);refine dR 0 ?_
     refine dR 1 ?_
     refine dR 2 ?_
     refine dR 3 ?_
     refine dR 4 ?_
     refine dR 5 ?_
     refine dR 6 ?_
     refine dR 7 ?_
     refine dR 8 ?_
     refine dR 9 ?_
     refine dR 10 ?_
     refine dR 11 ?_
     refine dR 12 ?_
     refine dR 13 ?_
     refine dR 14 ?_
     refine dR 15 ?_
     refine dR 16 ?_
     refine dR 17 ?_
     refine nA 18 fun K hK=>?_;go_simp
     skip
     refine hK.out _ _ (fun _=>⟨d0,d1,d3,q0,q1,q2,n0,n1,n2,n3,n4,n5⟩) (fun hHeld=>?_);have hHeld:=hHeld aH;clear hK K;try simp only[cN]
     refine nA 19 fun K hK=>?_;refine step_append_lies _ (by rfl) _ _ _ (by rfl) w0.heap.size 224 j0 (.agg #[.int .u8 0,aI,.bool false,.int .u64 0,.int .u64 0,.int .u8 0,aI,.int .i64 0,.int .i64 0]) 9 88 Tryz.underlying208 hj hj0 hj1 hj2 rfl aH _ U _ (by rfl) mD.out ⟨w7.heap.size,0,none⟩ 1 1 [.int .u8 x1,.string x2,.bool x3,.int .u64 x4,.int .u64 x5,.int .u8 x6,.string wd,.int .i64 n,.int .i64 k'] (by rfl) rfl iY.out (by intro u hu;simp at hu;rcases hu with rfl|rfl|rfl|rfl|rfl|rfl|rfl|rfl|rfl<;>rfl) aH (by unfold maxLen;omega) aQ (by simp;omega) (w7.heap.size+1) (by simp) ?_;intro g' cap' qP hown' hgrow hat nJ;rw[←ew]at hgrow mD;have R15:=ae (j6.out.off (Keeps.row hgrow) (cE mD.out) aH aH);have O15:=ae (bj TX.out (Keeps.row hgrow) (cE mD.out) aH);obtain⟨p0,p1,p3⟩:=R15.out.xJ;obtain⟨r0,r1,r2⟩:=R15.out.word Hs.out;have Ci:=TY.out.off (Keeps.row hgrow) (cE mD.out) aH;have s0:=Ci.cell 0;have s1:=Ci.cell 1;have s2:=Ci.cell 2;have s3:=Ci.cell 3;have s4:=Ci.cell 4;have s5:=Ci.cell 5;simp at s0 s1 s2 s3 s4 s5;have pz:=R15.out.blk.frozen 3;obtain⟨mC,fY,PS⟩:=bu hown' hgrow hat;clear hown' hgrow hat nJ;refine hK.out _ _ (fun _=>⟨p0,p1,p3,r0,r1,r2,s0,s1,s2,s3,s4,s5⟩) (fun hHeld=>?_);have hHeld:=hHeld aH;clear hK K;try simp only[cN]
     refine nA 20 fun K hK=>?_;go_simp;refine hK.out _ _ (fun _=>hHeld) (fun hHeld=>?_);have hHeld:=hHeld aH;clear hK K;try simp only[cN]
     refine dR 21 ?_
     refine nA 22 fun K hK=>?_;go_simp;refine hK.out _ _ (fun h=>absurd rfl h) (fun _=>?_);clear hK K hHeld;try simp only[cN]
     refine OC ?_;go_upto_region 10 with fail
     obtain⟨W,hW⟩:=bq (qP.setCell ⟨b,3,none⟩ (.slice (some ⟨g',0,none⟩) (U+1) cap'));have KQ:Keeps (fun x=>x=b) qP W:=by rw[hW];exact(Keeps.refl (fun x=>x=b) qP).setCell (p:=⟨b,3,none⟩) (Or.inl rfl) _
     have OQ:Off (fun x=>x=b) qP [210]:=fun k hk=>⟨_,_,_,by subst hk;exact R15.out.blk,by simp⟩
     have RB:RdB W b (.slice (some ⟨gw,0,none⟩) ws.length JD) (k'+1) P (.slice (some ⟨g',0,none⟩) (U+1) cap'):=by rw[hW];exact R15.out.blk.aL 3 _
     have T0:=ae (R15.out.step KQ RB);have hUn:kP n (acc++[(⟨x1,x2,⟨⟨x3,x4,x5⟩,x6⟩⟩,k')])=kP n acc++[(⟨x1,x2,⟨⟨x3,x4,x5⟩,x6⟩⟩,n,k')]:=by simp[kP]
     have Zn:ag (fh W w0.heap.size (.slice (some ⟨g',0,none⟩) (U+1) cap') (us++kP n (acc++[(⟨x1,x2,⟨⟨x3,x4,x5⟩,x6⟩⟩,k')]))):=by
      refine ae ⟨xs++[((⟨x1,x2,⟨⟨x3,x4,x5⟩,x6⟩⟩,n,k'),wd)],?_,?_⟩
      ·rw[cH,JF.out,hUn,aO];rfl
      ·rw[hUn,←aO,ai,←HU1.out,rT];exact bj mC.out KQ OQ (by decide)
     have Zo:=ae (bj O15.out KQ OQ aH);have Zp:=ae ((Keeps.grown Ik.out fY.out fun k hk=>(hub.out k hk).elim (fun e=>Or.inl (Or.inr e)) Or.inr).trans (KQ.mono (T:=fun x=>x=b∨uv.ownBlock=some x) fun k _ hk=>Or.inl hk));have T8:ag (∀g,(dq (some ⟨g',0,none⟩) (U+1) cap').ownBlock=some g→uv.ownBlock=some g∨w.heap.size≤g):=ae fun g hg=>by
      have hgg:some g'=some g:=hg;injection hgg with hgg
      rcases PS.out with h|h
      ·exact hub.out g (hgg▸h)
      ·exact Or.inr (by omega)
     rw[←hW];clear hW KQ OQ RB hUn R15 O15 mC fY PS JF mD iY j6 Ik TX TY Ci p0 p1 p3 r0 r1 r2 s0 s1 s2 s3 s4 s5 n0 n1 n2 n3 n4 n5 d0 d1 d3 q0 q1 q2 c0 c1 c3 t0 t1 t2 m0 m1 m2 m3 m4 m5 pz hHeld ew PV;have hmore:=T0.out.more;have hR:=PW.out;by_cases hend:k'+1<ws.length
     ·rw[decide_eq_true hend]at hmore;have mP:=ae hmore;clear hmore hR;go_wp2_with(go_at_call 216;refine mP.out.mono ?_;rintro r w16⟨rfl,jF⟩)
      obtain⟨rq,xM,JG,xN⟩:=cY (T0.out.below jF) (own_below Zo.out jF) (Zn.out.below jF) (Zp.out.trans (Keeps.of_below jF fun k hk _=>hk));clear T0 Zo Zn Zp;go_roundw
      case rel=>exact⟨k'+1,acc++[(⟨x1,x2,⟨⟨x3,x4,x5⟩,x6⟩⟩,k')],A2,cap2,_,by rw[ai,←HL.out];rfl,by omega,ae fun _=>hend,by rw[ai,←HL.out];simp;omega,rq,xN,ae (by rw[ai,←HL.out,cH,ahC,j7];exact xM.out),JG,T8,PW⟩
      case measure=>
       rw[rq.out.next,zS.out];omega
     ·rw[decide_eq_false hend]at hmore;have mP:=ae hmore;rw[An aQ (by simp)]at hR;have dt:=ae hR;clear hmore hR;go_wp2_with(go_at_call 216;refine mP.out.mono ?_;rintro r w16⟨rfl,jF⟩)
      obtain⟨rq,xM,JG,xN⟩:=cY (T0.out.below jF) (own_below Zo.out jF) (Zn.out.below jF) (Zp.out.trans (Keeps.of_below jF fun k hk _=>hk));clear T0 Zo Zn Zp;refine bodyPost_ret (results_tmp rfl _ _ _) rfl ⟨xN.out,fi.good dt.out ⟨_,_,rfl,?_,?_,JG.out,T8.out,by rw[ai,←HL.out];simp;omega⟩⟩
      ·simp only;rw[ai,←HL.out,cH,ahC,j7];exact xM.out
      ·simp only[List.length_nil];rw[show ws.length-0=k'+1 by omega];exact rq.out
   |false=>
    clear hcond;cases o with
    |none=>
     have xK:=ae (FA hsel);clear hsel;have hR:=HR.out;simp only at hR;have HRn:=ae hR;clear hR HR;go_upto_region 6 with(go_at_call 242;refine xK.out.mono ?_;rintro r w3⟨⟨x1,x2,x3,x4,x5,x6,rfl⟩,d3⟩)
     have d4:=after d3 (boxed w3 (.cells #[.int .u8 x1,.string x2,.bool x3,.int .u64 x4,.int .u64 x5,.int .u8 x6] 220));generalize w3.alloc (.cells #[.int .u8 x1,.string x2,.bool x3,.int .u64 x4,.int .u64 x5,.int .u8 x6] 220)=w4 at d4⊢;obtain⟨FH,zg⟩:=aN (rm.out.below d4) (Cf.out.trans (Keeps.of_below d4 fun k hk _=>hk));clear rm Cf;clear d4 d3 xK;have hun:=FH.out.unless aQ aQ false 195;rw[eu hlt]at hun;have kj:ag (Calls ah 164 #[.pointer (some ⟨b,0,none⟩),.bool false,.int .i64 195] w4 fun r w'=>r=aT 195 n k'∧aW w4 w'):=ae hun;clear hun;go_wp2_with(go_at_call 164;refine kj.out.mono ?_;rintro r w5⟨rfl,d5⟩;unfold aT)
     exact⟨rfl,zg.out.trans (Keeps.of_below d5 fun k hk _=>hk),fi.bad HRn.out⟩
    |some X=>
     have hR:=HR.out;simp only at hR;obtain⟨x1,x2,⟨⟨x3,x4,x5⟩,x6⟩⟩:=X;have xK:ag (Calls ah 242 #[.string wd] w2 (Got (.tuple #[.agg #[.int .u8 x1,.string x2,.bool x3,.int .u64 x4,.int .u64 x5,.int .u8 x6],.bool true]) w2)):=ae (FC hsel);clear hsel;have HRn:=ae hR;clear hR HR;go_upto_region 6 with(go_at_call 242;refine xK.out.mono ?_;rintro r w3⟨rfl,d3⟩)
     have d4:=after d3 (boxed w3 (.cells #[.int .u8 x1,.string x2,.bool x3,.int .u64 x4,.int .u64 x5,.int .u8 x6] 220));have M4:=ae (aG.new w3 220 #[.int .u8 x1,.string x2,.bool x3,.int .u64 x4,.int .u64 x5,.int .u8 x6]);have Em:=d3.size;generalize w3.alloc (.cells #[.int .u8 x1,.string x2,.bool x3,.int .u64 x4,.int .u64 x5,.int .u8 x6] 220)=w4 at d4 M4⊢;generalize w3.heap.size=M at Em M4⊢;have hOM:∀g,(dq A L cap).ownBlock=some g→g<M:=fun g hg=>by have:=(OW2.out.lt g hg).2;omega
     obtain⟨HOM,FH,OW4,TW,zg⟩:=ej hOM (rm.out.below d4) (own_below OW2.out d4) (Zk.out.below d4) (Cf.out.trans (Keeps.of_below d4 fun k hk _=>hk));clear rm OW2 Zk Cf;clear d4 d3 xK hOM;have hun:=FH.out.unless aQ aQ true 195;have kj:ag (Calls ah 164 #[.pointer (some ⟨b,0,none⟩),.bool true,.int .i64 195] w4 fun r w'=>r=.returned (.tuple #[])∧aW w4 w'):=ae hun;clear hun;go_upto_region 7 with(go_at_call 164;refine kj.out.mono ?_;rintro r w5⟨rfl,d5⟩)
     obtain⟨rn,OW5,Zl,Il,M5⟩:=ej (FH.out.below d5) (own_below OW4.out d5) (TW.out.below d5) (zg.out.trans (Keeps.of_below d5 fun k hk _=>hk)) (M4.out.below d5 M4.out.lt);clear FH OW4 TW zg M4;clear d5 kj;have hro:=rn.out.room aQ aQ L;rw[eu hlt]at hro;have rp:=ae hro;clear hro;by_cases h64:64≤L
     ·have hR:=HRn.out;rw[←HL.out,if_pos h64]at hR;rw[decide_eq_false aQ]at rp;have nM:ag (Calls ah 213 #[.pointer (some ⟨b,0,none⟩),.int .i64 L] w5 fun r w'=>r=aT 198 n k'∧aW w5 w'):=rp;have PW:=ae hR;clear rp hR HRn h64;go_wp2_with(go_at_call 213;refine nM.out.mono ?_;rintro r w6⟨rfl,d6⟩;unfold aT)
      exact⟨rfl,Il.out.trans (Keeps.of_below d6 fun k hk _=>hk),fi.bad PW.out⟩
     have hR:=HRn.out;rw[←HL.out,if_neg h64]at hR;rw[decide_eq_true aQ]at rp;have nM:ag (Calls ah 213 #[.pointer (some ⟨b,0,none⟩),.int .i64 L] w5 fun r w'=>r=.returned (.tuple #[])∧aW w5 w'):=rp;have PW:=ae hR;clear rp hR HRn;go_upto_region 8 with(go_at_call 213;refine nM.out.mono ?_;rintro r w6⟨rfl,d6⟩)
     obtain⟨FI,Zm,US6,MU,M6⟩:=ej (rn.out.below d6) (own_below OW5.out d6) (Zl.out.below d6) (Il.out.trans (Keeps.of_below d6 fun k hk _=>hk)) (M5.out.below d6 M5.out.lt);clear rn OW5 Zl Il M5;clear d6 nM;obtain⟨m0,m1,m2,m3,m4,m5⟩:=wZ M6;have hwb:=MU.out.size;go_upto_region 9 with(at_builtin;refine wpList_append_own _ rfl _ _ 285 rfl w.heap.size 220 i0 (.agg #[.int .u8 0,aI,.bool false,.int .u64 0,.int .u64 0,.int .u8 0]) 6 56 Tryz.underlying285 hi hz0 hz1 hz2 rfl aH _ L _ rfl (Zm.out.alloc _) ⟨w6.heap.size,0,none⟩ 1 1 [.int .u8 x1,.string x2,.bool x3,.int .u64 x4,.int .u64 x5,.int .u8 x6] rfl rfl (cQ w6 [.int .u8 x1,.string x2,.bool x3,.int .u64 x4,.int .u64 x5,.int .u8 x6] 220) (by intro u hu;simp at hu;rcases hu with rfl|rfl|rfl|rfl|rfl|rfl<;>rfl) (by unfold maxLen;omega) aQ (by simp;omega) ?_;intro v' w7 hown' hgrow hnil)
     have zf:=Keeps.row hgrow;have PX:=cE (Zm.out.alloc (.cells #[.int .u8 x1,.string x2,.bool x3,.int .u64 x4,.int .u64 x5,.int .u8 x6] 220));have qg:=ae ((FI.out.alloc _).off zf PX aH aH);have Ya:=ae ((US6.out.below (boxed w6 _)).off zf PX aH);have M7:=ae ((M6.out.alloc _).grown hgrow (fun e=>by have:=HOM.out M e.symm;omega));have Ej:=ae (Keeps.grown (MU.out.alloc _) hgrow fun k hk=>Or.inr (Zm.out.lt k hk).1);obtain⟨A2,cap2,rfl⟩:=aV hown';have OW7:=ae hown';have agh:w.heap.size≤w7.heap.size:=Ej.out.size;clear zf PX hgrow hnil hown' FI US6 M6 MU Zm HOM m0 m1 m2 m3 m4 m5 hwb;obtain⟨gw,JD,rfl,aer,⟨agi,hgW⟩,hcw⟩:=qg.out.row.shape qg.out.ne;obtain⟨xs,hxs,MV⟩:=Ya.out;obtain⟨Au,JE,rfl⟩:=aV MV;obtain⟨U,hU⟩:=bq ((us++kP n acc).length);rw[←hU]at MV hub;have hU1:U≤4000100:=by rw[hU,ai];unfold kP;rw[ay];have:=HL.out;omega
     obtain⟨c0,c1,c3⟩:=qg.out.xJ;rw[←hU]at c3;obtain⟨t0,t1,t2⟩:=qg.out.word Hs.out;obtain⟨m0,m1,m2,m3,m4,m5⟩:=wZ M7;have i1:IntKind.i64.wrap (k':Int)=(k':Int):=by have:=HWl.out;rw[ahS];omega
     have i2:(k':Int)<(ws.length:Int):=by omega
     obtain⟨jH,ew⟩:=bq ((w7.alloc (.cells #[.int .u8 x1,.string x2,.bool x3,.int .u64 x4,.int .u64 x5,.int .u8 x6,.string wd,.int .i64 n,.int .i64 k'] 224)).drew);have mD:ag (jH.ownsRow w0.heap.size 224 9 (.slice Au U JE) U (gg xs)):=ae (by rw[ew];exact MV.alloc _);have iY:ag (∀j u,[.int .u8 x1,.string x2,.bool x3,.int .u64 x4,.int .u64 x5,.int .u8 x6,.string wd,.int .i64 n,.int .i64 k'][j]? =some u→jH.cell? ((⟨w7.heap.size,0,none⟩:Addr).add j)=some u):=ae (by rw[ew];exact cQ w7 [.int .u8 x1,.string x2,.bool x3,.int .u64 x4,.int .u64 x5,.int .u8 x6,.string wd,.int .i64 n,.int .i64 k'] 224);have j6:ag (Rs jH b P (k'+1) n (.slice (some ⟨gw,0,none⟩) ws.length JD) (.slice Au U JE) ws):=ae (by rw[ew,hU];exact⟨(qg.out.alloc _).blk,(qg.out.alloc _).row,qg.out.ne,qg.out.len,qg.out.sizes⟩);have Ik:ag (Keeps (fun x=>x=b∨uv.ownBlock=some x) w jH):=ae (by rw[ew];exact(Ej.out.alloc _).drew);have TX:ag (jH.ownsRow w.heap.size 220 6 (.slice A2 (L+1) cap2) (L+1) _):=ae (by rw[ew];exact OW7.out.alloc _);have PV:jH.heap.size=w7.heap.size+1:=by rw[ew];simp
     have hb8:aW w7 jH:=by rw[ew];have q:=boxed w7 (.cells #[.int .u8 x1,.string x2,.bool x3,.int .u64 x4,.int .u64 x5,.int .u8 x6,.string wd,.int .i64 n,.int .i64 k'] 224);exact⟨q.os,q.tape,q.output,q.size,q.block⟩
     obtain⟨d0,d1,d3⟩:=j6.out.xJ;obtain⟨q0,q1,q2⟩:=j6.out.word Hs.out;have TY:=ae (M7.out.below hb8 M7.out.lt);obtain⟨n0,n1,n2,n3,n4,n5⟩:=wZ TY;obtain⟨JF,HU1⟩:=aN hxs hU;clear hxs MV hU qg Ej M7 OW7 hgW hcw hb8 Ya;rw[ew]at mD iY d0 d1 d3 q0 q1 q2 n0 n1 n2 n3 n4 n5;refine dW 22 (fun w'=>w'.cell? ⟨b,0,none⟩=some (.slice (some ⟨gw,0,none⟩) ws.length JD)∧w'.cell? ⟨b,1,none⟩=some (.int .i64 ((k'+1:Nat):Int))∧w'.cell? ⟨b,3,none⟩=some (.slice Au U JE)∧w'.cell? ⟨gw,k'*3,none⟩=some (.string wd)∧w'.cell? ⟨gw,k'*3+1,none⟩=some (.int .i64 n)∧w'.cell? ⟨gw,k'*3+2,none⟩=some (.int .i64 k')∧w'.cell? ⟨M,0,none⟩=some (.int .u8 x1)∧w'.cell? ⟨M,1,none⟩=some (.string x2)∧w'.cell? ⟨M,2,none⟩=some (.bool x3)∧w'.cell? ⟨M,3,none⟩=some (.int .u64 x4)∧w'.cell? ⟨M,4,none⟩=some (.int .u64 x5)∧w'.cell? ⟨M,5,none⟩=some (.int .u8 x6)) bo (⟨c0,c1,c3,t0,t1,t2,m0,m1,m2,m3,m4,m5⟩) (fun hHeld=>?_);refine dR 0 ?_
     refine dR 1 ?_
     refine dR 2 ?_
     refine dR 3 ?_
     refine dR 4 ?_
     refine dR 5 ?_
     refine dR 6 ?_
     refine dR 7 ?_
     refine dR 8 ?_
     refine dR 9 ?_
     refine dR 10 ?_
     refine dR 11 ?_
     refine dR 12 ?_
     refine dR 13 ?_
     refine dR 14 ?_
     refine dR 15 ?_
     refine dR 16 ?_
     refine dR 17 ?_
     refine nA 18 fun K hK=>?_;go_simp
     skip
     refine hK.out _ _ (fun _=>⟨d0,d1,d3,q0,q1,q2,n0,n1,n2,n3,n4,n5⟩) (fun hHeld=>?_);have hHeld:=hHeld aH;clear hK K;try simp only[cN]
     refine nA 19 fun K hK=>?_;refine step_append_lies _ (by rfl) _ _ _ (by rfl) w0.heap.size 224 j0 (.agg #[.int .u8 0,aI,.bool false,.int .u64 0,.int .u64 0,.int .u8 0,aI,.int .i64 0,.int .i64 0]) 9 88 Tryz.underlying208 hj hj0 hj1 hj2 rfl aH _ U _ (by rfl) mD.out ⟨w7.heap.size,0,none⟩ 1 1 [.int .u8 x1,.string x2,.bool x3,.int .u64 x4,.int .u64 x5,.int .u8 x6,.string wd,.int .i64 n,.int .i64 k'] (by rfl) rfl iY.out (by intro u hu;simp at hu;rcases hu with rfl|rfl|rfl|rfl|rfl|rfl|rfl|rfl|rfl<;>rfl) aH (by unfold maxLen;omega) aQ (by simp;omega) (w7.heap.size+1) (by simp) ?_;intro g' cap' qP hown' hgrow hat nJ;rw[←ew]at hgrow mD;have R15:=ae (j6.out.off (Keeps.row hgrow) (cE mD.out) aH aH);have O15:=ae (bj TX.out (Keeps.row hgrow) (cE mD.out) aH);obtain⟨p0,p1,p3⟩:=R15.out.xJ;obtain⟨r0,r1,r2⟩:=R15.out.word Hs.out;have Ci:=TY.out.off (Keeps.row hgrow) (cE mD.out) aH;have s0:=Ci.cell 0;have s1:=Ci.cell 1;have s2:=Ci.cell 2;have s3:=Ci.cell 3;have s4:=Ci.cell 4;have s5:=Ci.cell 5;simp at s0 s1 s2 s3 s4 s5;have pz:=R15.out.blk.frozen 3;obtain⟨mC,fY,PS⟩:=bu hown' hgrow hat;clear hown' hgrow hat nJ;refine hK.out _ _ (fun _=>⟨p0,p1,p3,r0,r1,r2,s0,s1,s2,s3,s4,s5⟩) (fun hHeld=>?_);have hHeld:=hHeld aH;clear hK K;try simp only[cN]
     refine nA 20 fun K hK=>?_;go_simp;refine hK.out _ _ (fun _=>hHeld) (fun hHeld=>?_);have hHeld:=hHeld aH;clear hK K;try simp only[cN]
     refine dR 21 ?_
     refine nA 22 fun K hK=>?_;go_simp;refine hK.out _ _ (fun h=>absurd rfl h) (fun _=>?_);clear hK K hHeld;try simp only[cN]
     refine OC ?_;go_upto_region 10 with fail
     obtain⟨W,hW⟩:=bq (qP.setCell ⟨b,3,none⟩ (.slice (some ⟨g',0,none⟩) (U+1) cap'));have KQ:Keeps (fun x=>x=b) qP W:=by rw[hW];exact(Keeps.refl (fun x=>x=b) qP).setCell (p:=⟨b,3,none⟩) (Or.inl rfl) _
     have OQ:Off (fun x=>x=b) qP [210]:=fun k hk=>⟨_,_,_,by subst hk;exact R15.out.blk,by simp⟩
     have RB:RdB W b (.slice (some ⟨gw,0,none⟩) ws.length JD) (k'+1) P (.slice (some ⟨g',0,none⟩) (U+1) cap'):=by rw[hW];exact R15.out.blk.aL 3 _
     have T0:=ae (R15.out.step KQ RB);have hUn:kP n (acc++[(⟨x1,x2,⟨⟨x3,x4,x5⟩,x6⟩⟩,k')])=kP n acc++[(⟨x1,x2,⟨⟨x3,x4,x5⟩,x6⟩⟩,n,k')]:=by simp[kP]
     have Zn:ag (fh W w0.heap.size (.slice (some ⟨g',0,none⟩) (U+1) cap') (us++kP n (acc++[(⟨x1,x2,⟨⟨x3,x4,x5⟩,x6⟩⟩,k')]))):=by
      refine ae ⟨xs++[((⟨x1,x2,⟨⟨x3,x4,x5⟩,x6⟩⟩,n,k'),wd)],?_,?_⟩
      ·rw[cH,JF.out,hUn,aO];rfl
      ·rw[hUn,←aO,ai,←HU1.out,rT];exact bj mC.out KQ OQ (by decide)
     have Zo:=ae (bj O15.out KQ OQ aH);have Zp:=ae ((Keeps.grown Ik.out fY.out fun k hk=>(hub.out k hk).elim (fun e=>Or.inl (Or.inr e)) Or.inr).trans (KQ.mono (T:=fun x=>x=b∨uv.ownBlock=some x) fun k _ hk=>Or.inl hk));have T8:ag (∀g,(dq (some ⟨g',0,none⟩) (U+1) cap').ownBlock=some g→uv.ownBlock=some g∨w.heap.size≤g):=ae fun g hg=>by
      have hgg:some g'=some g:=hg;injection hgg with hgg
      rcases PS.out with h|h
      ·exact hub.out g (hgg▸h)
      ·exact Or.inr (by omega)
     rw[←hW];clear hW KQ OQ RB hUn R15 O15 mC fY PS JF mD iY j6 Ik TX TY Ci p0 p1 p3 r0 r1 r2 s0 s1 s2 s3 s4 s5 n0 n1 n2 n3 n4 n5 d0 d1 d3 q0 q1 q2 c0 c1 c3 t0 t1 t2 m0 m1 m2 m3 m4 m5 pz hHeld ew PV;have hmore:=T0.out.more;have hR:=PW.out;by_cases hend:k'+1<ws.length
     ·rw[decide_eq_true hend]at hmore;have mP:=ae hmore;clear hmore hR;go_wp2_with(go_at_call 216;refine mP.out.mono ?_;rintro r w16⟨rfl,jF⟩)
      obtain⟨rq,xM,JG,xN⟩:=cY (T0.out.below jF) (own_below Zo.out jF) (Zn.out.below jF) (Zp.out.trans (Keeps.of_below jF fun k hk _=>hk));clear T0 Zo Zn Zp;go_roundw
      case rel=>exact⟨k'+1,acc++[(⟨x1,x2,⟨⟨x3,x4,x5⟩,x6⟩⟩,k')],A2,cap2,_,by rw[ai,←HL.out];rfl,by omega,ae fun _=>hend,by rw[ai,←HL.out];simp;omega,rq,xN,ae (by rw[ai,←HL.out,cH,ahC,j7];exact xM.out),JG,T8,PW⟩
      case measure=>
       rw[rq.out.next,zS.out];omega
     ·rw[decide_eq_false hend]at hmore;have mP:=ae hmore;rw[An aQ (by simp)]at hR;have dt:=ae hR;clear hmore hR;go_wp2_with(go_at_call 216;refine mP.out.mono ?_;rintro r w16⟨rfl,jF⟩)
      obtain⟨rq,xM,JG,xN⟩:=cY (T0.out.below jF) (own_below Zo.out jF) (Zn.out.below jF) (Zp.out.trans (Keeps.of_below jF fun k hk _=>hk));clear T0 Zo Zn Zp;refine bodyPost_ret (results_tmp rfl _ _ _) rfl ⟨xN.out,fi.good dt.out ⟨_,_,rfl,?_,?_,JG.out,T8.out,by rw[ai,←HL.out];simp;omega⟩⟩
      ·simp only;rw[ai,←HL.out,cH,ahC,j7];exact xM.out
      ·simp only[List.length_nil];rw[show ws.length-0=k'+1 by omega];exact rq.out
end Go.Proofs.YtkjaajcpbldjoaaGreatDoor
