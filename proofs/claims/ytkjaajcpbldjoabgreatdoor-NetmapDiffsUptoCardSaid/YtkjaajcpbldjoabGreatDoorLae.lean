/- Joined out of: PlN PlO. -/
import Derived.Test.YtkjaajcpbldjoabGreatDoorLad
set_option linter.unusedVariables false
set_option linter.unusedSimpArgs false
set_option maxHeartbeats 16000000
set_option maxRecDepth 100000
open Go.ByteArray renaming toList_eq→cE
open Go.IntKind renaming wrap_i64→ah4
open Go.Lib renaming hid→ae
open Go.Proofs.Tryz renaming prog→ah
open Go.RowKit renaming Hid→ag
open Go.Value renaming slice→dq
open List renaming length_append→aj,length_map→ay,append_assoc→aO,eq_nil_of_length_eq_zero→bC,drop_eq_getElem_cons→bT,map_append→cL,mem_of_getElem?→iD,drop_eq_nil_of_le→nW,map_singleton→ahM
namespace Go.Proofs.YtkjaajcpbldjoabGreatDoor
open Go.RowKit
attribute [local go_sem↓] Go.wp_at_zero Go.wp_at_succ
theorem Uf{ws:List ByteArray}{told:List Hs}(hne:ws≠[]):uC ws told=if 64≤told.length then .error (198,0)else match ws[1]? with
 |none=>.error (190,ws.length)
 |some nm=>if cQ nm=false then .error (191,1)else if zn told nm=true then .error (197,1)else match ws[2]? with
  |none=>.error (190,ws.length)
  |some e=>if e≠Fa then .error (190,2)else match ws[3]? with
   |none=>.error (190,ws.length)
   |some t=>match i6 t.data.toList with
    |none=>.error (192,3)
    |some pf=>if 4<ws.length then .error (190,4)else .ok ⟨nm,pf⟩:=by
 unfold uC;by_cases h:64≤told.length
 ·rw[if_pos h,if_pos h]
 rw[if_neg h,if_neg h]
 match ws with
 |[]=>exact absurd rfl hne
 |[a]=>rfl
 |[a,nm]=>rfl
 |[a,nm,e]=>rfl
 |a::nm::e::t::r=>
  simp only[List.getElem?_cons_succ,List.getElem?_cons_zero];cases r with
  |nil=>simp;cases i6 t.data.toList<;>rfl
  |cons s r=>simp;cases i6 t.data.toList<;>rfl
theorem cw{S:Nat→Prop}{w0 w w':World}(h:aW w0 w)(hk:Keeps S w w')(hS:∀k,S k→w0.heap.size≤k):aW w0 w':=h.trans (hk.below hS h.size)
def ack(w:World)(b P n base:Nat)(lv uv lst:Value)(ws:List ByteArray)(told:List Hs)(pc:Array Value)(w':World)(x:Hs)(r:Ending):Prop:=r=.returned (.tuple #[])∧∃k' lst',Rs w' b P k' n lv uv ws∧aH w' P 166 (pc.setIfInBounds 2 lst')∧w'.ownsRow base 279 5 lst' (told++[x]).length (fC (told++[x]))∧∀g,lst'.ownBlock=some g→lst.ownBlock=some g∨w.heap.size≤g
theorem Ug{w0 w:World}(env:Env w0)(hE:aW w0 w){b P n:Nat}{lv uv lst:Value}{ws:List ByteArray}{told:List Hs}{pc:Array Value}(h:Rs w b P 1 n lv uv ws)(hP:aH w P 166 pc)(hq:pc[2]? =some lst)(hN:w.ownsRow w0.heap.size 279 5 lst told.length (fC told))(hbb:w0.heap.size≤b):Calls ah 189 #[.pointer (some ⟨b,0,none⟩)] w fun r w'=>eW (fun k=>k=b) (fun k=>k=b∨k=P∨lst.ownBlock=some k) w w' (uC ws told) n (ack w b P n w0.heap.size lv uv lst ws told pc w') r:=by
 obtain⟨A,cap,rfl⟩:=aX hN;have hlen1:1≤ws.length:=by
  have:=h.ne;cases ws with
  |nil=>exact absurd rfl this
  |cons x r=>simp
 obtain⟨T,hT⟩:=bw told.length;rw[←hT]at hq hN⊢;have hPb:P≠b:=hP.vO h.blk aJ;have c0:=(hP.cell 2).trans hq;have c1:=h.blk.cell 2;simp at c1;have hroom:=h.room aR aR T;rw[show Ix 1 ws=0 by unfold Ix;rw[if_pos hlen1]]at hroom;obtain⟨RES,eV⟩:=bw (uC ws told);rw[←eV];rw[Uf h.ne,←hT]at eV;have hbs:w0.heap.size≤w.heap.size:=hE.size;obtain⟨kK,H,HP,HN,jT,HT,HE,vF⟩:=YF hroom h hP hN eV hT hE env;clear hroom h hP hN eV hT hE env;go_enter Tryz.func189,Tryz.ntmps189;go_wp2_with fail
 go_at_call 211;refine kK.out.mono ?_;rintro r w1⟨h1,d1⟩;by_cases FO:T<64
 case neg=>
  rw[decide_eq_false FO]at h1;unfold fK at h1;subst h1;unfold aT;exact⟨rfl,eW.bad (Keeps.of_below d1 fun k hk _=>hk) (by rw[jT.out,if_pos aR])⟩
 rw[decide_eq_true FO]at h1;unfold fK at h1;subst h1;obtain⟨H1,od,jL,qI⟩:=cU (H.out.below d1) (HP.out.below d1 HP.out.lt) (own_below HN.out d1) (Keeps.of_below (S:=fun x=>x=b) d1 fun k hk _=>hk);have hR1:=jT.out;rw[if_neg aR]at hR1;have HR1:=ae hR1;clear hR1 jT kK d1 H HP c0 c1;have hname:=H1.out.name aR;unfold rJ at hname;have pu:=ae hname;clear hname;go_wp2_with fail
 go_at_call 212;refine pu.out.mono ?_;rintro r w2⟨⟨d2,e2⟩,h2⟩;have lQ:=ae (qI.out.trans d2);cases hs1:ws[1]? with
 |none=>
  rw[hs1]at h2;simp only at h2;subst h2;unfold aT;have hR:=HR1.out;rw[hs1]at hR;exact⟨rfl,eW.bad (lQ.out) hR⟩
 |some nm=>
 rw[hs1]at h2;simp only at h2;have hR2:=HR1.out;rw[hs1]at hR2;simp only at hR2;by_cases hlab:cQ nm=true
 case neg=>
  have hlf:cQ nm=false:=by simpa using hlab
  rw[if_neg hlab]at h2;subst h2;unfold aT;rw[if_pos hlf]at hR2;exact⟨rfl,eW.bad (lQ.out) hR2⟩
 rw[if_pos hlab]at h2;subst h2;rw[if_neg (by simp[hlab])]at hR2;obtain⟨HR2,H2,HP2⟩:=bz hR2 e2 (od.out.keep d2 hPb);have OB1:Off (fun x=>x=b) w1 [207]:=fun k hk=>⟨_,_,_,by subst hk;exact H1.out.blk,by simp⟩
 have kX:=ae (bn jL.out d2 OB1 aJ);clear hR2 HR1 pu jL od H1 qI e2 d2 hlab OB1;go_wp2_with fail
 have hB3:=ae (aH.new w2 279 #[.string nm,.bool false,.int .u64 0,.int .u64 0,.int .u8 0]);have hb3:=boxed w2 (.cells #[.string nm,.bool false,.int .u64 0,.int .u64 0,.int .u8 0] 279);obtain⟨H3,gy,vX,ki⟩:=cU (H2.out.below hb3) (HP2.out.alloc (.cells #[.string nm,.bool false,.int .u64 0,.int .u64 0,.int .u8 0] 279)) (own_below kX.out hb3) (lQ.out.alloc (.cells #[.string nm,.bool false,.int .u64 0,.int .u64 0,.int .u8 0] 279));have hsz3:w2.heap.size<(w2.alloc (.cells #[.string nm,.bool false,.int .u64 0,.int .u64 0,.int .u8 0] 279)).heap.size:=by simp
 have acj:w.heap.size≤w2.heap.size:=lQ.out.size;clear H2 HP2 kX lQ hb3;generalize w2.alloc (.cells #[.string nm,.bool false,.int .u64 0,.int .u64 0,.int .u8 0] 279)=w3 at hB3 H3 gy vX ki hsz3⊢;generalize w2.heap.size=N at hB3 hsz3 acj⊢;have hNb:N≠b:=hB3.out.vO H3.out.blk aJ;have hNP:N≠P:=hB3.out.vO gy.out aJ;have HAN:=ae fun g hg=>(HN.out.lt g hg).2
 have hhas:=uL (w:=w3.drew) told (by have:=HT.out;omega) _ (a8.Zj (show w3.drew.ownsRow _ _ _ _ _ _ from vX.out) HT.out.symm) nm;have x0:=(gy.out.cell 2).trans hq;have x1:=hB3.out.cell 0;have x2:=H3.out.blk.cell 2;simp at x1 x2;have hun:=fun W(hW:Rs W b P (1+1) n lv uv ws)(is:Bool)=>hW.unless aR aR is 197
 rw[eC (by have:=(List.getElem?_eq_some_iff.1 hs1).1;omega)]at hun;have tD:ag (Calls ah 193 #[.slice A T cap,.string nm] w3.drew (Got (.bool (zn told nm)) w3.drew)):=ae hhas;have kr:=ae hun;clear hhas hun;by_cases hh:zn told nm=true
 ·rw[hh]at tD;have hR:=HR2.out;rw[if_pos hh]at hR;have HR:=ae hR;have CP:ag (∀(W:World),Rs W b P (1+1) n lv uv ws→Calls ah 162 #[.pointer (some ⟨b,0,none⟩),.bool false,.int .i64 197] W fun r w'=>r=aT 197 n 1∧aW W w'):=ae fun W hW=>kr.out W hW false
  clear hR hh HR2 kr;refine wp_region_held_drew (S:=(fun w'=>w'.cell? ⟨b,2,none⟩=some (.pointer (some ⟨P,0,none⟩))∧w'.cell? ⟨P,2,none⟩=some (.slice A T cap)∧w'.cell? ⟨N,0,none⟩=some (.string nm))) bo (⟨x2,x0,x1⟩) (fun hHeld=>?_);refine aY 0 ?_
  refine aY 1 ?_
  refine aY 2 ?_
  refine aY 3 ?_
  refine aY 4 ?_
  refine aY 5 ?_
  refine aY 6 ?_
  refine aY 7 ?_
  refine aY 8 ?_
  refine aY 9 ?_
  refine fA 10 fun K hK=>?_;go_simp;refine tD.out.mono ?_;rintro r w4⟨rfl,d4⟩;have e4:aW w3 w4:=⟨d4.os,d4.tape,d4.output,d4.size,d4.block⟩;have y0:=((gy.out.below e4 gy.out.lt).cell 2).trans hq;have y1:=(hB3.out.below e4 hB3.out.lt).cell 0;have y2:=(H3.out.below e4).blk.cell 2;simp at y1 y2;refine hK.out _ _ (⟨y2,y0,y1⟩) (fun hHeld=>?_);clear hK K;try simp only[ck]
  refine aY 11 ?_
  refine fA 12 fun K hK=>?_;go_simp;refine(CP.out _ (H3.out.below e4)).mono ?_;rintro r w5⟨rfl,d5⟩;unfold aT;exact⟨rfl,eW.bad (((ki.out.trans (Keeps.of_below e4 fun k hk _=>hk)).trans (Keeps.of_below d5 fun k hk _=>hk))) HR.out⟩
 have hhf:zn told nm=false:=by simpa using hh
 rw[hhf]at tD;have hR:=HR2.out;rw[if_neg hh]at hR;have HR:=ae hR;have CP:ag (∀(W:World),Rs W b P (1+1) n lv uv ws→Calls ah 162 #[.pointer (some ⟨b,0,none⟩),.bool true,.int .i64 197] W fun r w'=>r=.returned (.tuple #[])∧aW W w'):=ae fun W hW=>kr.out W hW true
 clear hR hh hhf HR2 kr;refine wp_region_held_drew (S:=(fun w'=>w'.cell? ⟨b,2,none⟩=some (.pointer (some ⟨P,0,none⟩))∧w'.cell? ⟨P,2,none⟩=some (.slice A T cap)∧w'.cell? ⟨N,0,none⟩=some (.string nm))) bo (⟨x2,x0,x1⟩) (fun hHeld=>?_);refine aY 0 ?_
 refine aY 1 ?_
 refine aY 2 ?_
 refine aY 3 ?_
 refine aY 4 ?_
 refine aY 5 ?_
 refine aY 6 ?_
 refine aY 7 ?_
 refine aY 8 ?_
 refine aY 9 ?_
 refine fA 10 fun K hK=>?_;go_simp;refine tD.out.mono ?_;rintro r w4⟨rfl,d4⟩;have e4:aW w3 w4:=⟨d4.os,d4.tape,d4.output,d4.size,d4.block⟩;have y0:=((gy.out.below e4 gy.out.lt).cell 2).trans hq;have y1:=(hB3.out.below e4 hB3.out.lt).cell 0;have y2:=(H3.out.below e4).blk.cell 2;simp at y1 y2;refine hK.out _ _ (⟨y2,y0,y1⟩) (fun hHeld=>?_);clear hK K;try simp only[ck]
 refine aY 11 ?_
 refine fA 12 fun K hK=>?_;go_simp;refine(CP.out _ (H3.out.below e4)).mono ?_;rintro r w5⟨rfl,d5⟩;have e5:=after e4 d5;have z0:=((gy.out.below e5 gy.out.lt).cell 2).trans hq;have z1:=(hB3.out.below e5 hB3.out.lt).cell 0;have z2:=(H3.out.below e5).blk.cell 2;simp at z1 z2;refine hK.out _ _ (⟨z2,z0,z1⟩) (fun hHeld=>?_);clear hK K;try simp only[ck]
 refine lN ?_;obtain⟨H5,IB,nZ,Zq,EG⟩:=eB (H3.out.below e5) (gy.out.below e5 gy.out.lt) (hB3.out.below e5 hB3.out.lt) (own_below vX.out e5) (ki.out.trans (Keeps.of_below e5 fun k hk _=>hk));have hsz5:w3.heap.size≤w5.heap.size:=e5.size;clear H3 gy hB3 vX ki e4 e5 d5 d4 y0 y1 y2 z0 z1 z2 x0 x1 x2 hHeld tD CP;have iQ:=H5.out.must (by have:=(List.getElem?_eq_some_iff.1 hs1).1;omega) Fa;unfold qF at iQ;have lY:ag (Calls ah 213 #[.pointer (some ⟨b,0,none⟩),.string ⟨#[61]⟩] w5 _):=ae iQ;clear iQ;go_wp2_with fail
 go_at_call 213;refine lY.out.mono ?_;rintro r w6⟨⟨d6,e6⟩,h6⟩;have tG:=ae (EG.out.trans d6);have iY:=HR.out;cases hs2:ws[2]? with
 |none=>
  rw[show 1+1=2 from rfl,hs2]at h6;simp only at h6;subst h6;unfold aT;rw[hs2]at iY;exact⟨rfl,eW.bad (tG.out) iY⟩
 |some eq=>
 rw[show 1+1=2 from rfl,hs2]at h6;rw[hs2]at iY;simp only at h6 iY;by_cases heq:eq=Fa
 case neg=>
  rw[if_neg heq]at h6;subst h6;unfold aT;rw[if_pos heq]at iY;exact⟨rfl,eW.bad (tG.out) iY⟩
 rw[if_pos heq]at h6;rw[if_neg (by simp[heq])]at iY;subst h6;have hlen3:3≤ws.length:=by have:=(List.getElem?_eq_some_iff.1 hs2).1;omega
 obtain⟨zy,H6,Zr,kQ⟩:=cU iY e6 (IB.out.keep d6 hPb) (nZ.out.keep d6 hNb);have OB5:Off (fun x=>x=b) w5 [207]:=fun k hk=>⟨_,_,_,by subst hk;exact H5.out.blk,by simp⟩
 have HN6:=ae (bn Zq.out d6 OB5 aJ);clear lY iY HR EG IB nZ Zq H5 d6 e6 hs1 hs2 heq OB5;have htake:=H6.out.take hlen3;unfold jy at htake;have kM:=ae htake;clear htake;go_wp2_with fail
 go_at_call 161;refine kM.out.mono ?_;rintro r w7⟨⟨d7,e7⟩,h7⟩;have zh:=ae (tG.out.trans d7);have Yh:=zy.out;cases hs3:ws[3]? with
 |none=>
  rw[show 1+1+1=3 from rfl,hs3]at h7;simp only at h7;subst h7;unfold aT;rw[hs3]at Yh;exact⟨rfl,eW.bad (zh.out) Yh⟩
 |some t=>
 rw[show 1+1+1=3 from rfl,hs3]at h7;rw[hs3]at Yh;simp only at h7 Yh;subst h7;have aev:3<ws.length:=(List.getElem?_eq_some_iff.1 hs3).1;have hts:t.size≤2000000:=H6.out.sizes t (iD hs3);obtain⟨H7,HP7,uO⟩:=bz e7 (Zr.out.keep d7 hPb) (kQ.out.keep d7 hNb);have OB6:Off (fun x=>x=b) w6 [207]:=fun k hk=>⟨_,_,_,by subst hk;exact H6.out.blk,by simp⟩
 have HN7:=ae (bn HN6.out d7 OB6 aJ);have hE7:=cw HE.out zh.out (fun k hk=>by subst hk;exact hbb);have hrd:=pg (vF.out.below hE7) t hts;clear kM zy tG Zr kQ HN6 H6 d7 e7 hs3 OB6 hE7;cases hp:i6 t.data.toList with
 |none=>
  rw[hp]at hrd Yh;have lk:ag (Calls ah 215 #[.string t] w7 (Got (.tuple #[.agg #[.bool false,.int .u64 0,.int .u64 0,.int .u8 0],.int .i64 8]) w7)):=ae hrd;have FP:=ae Yh;clear hrd Yh hp;go_upto_region 5 with(go_at_call 215;refine lk.out.mono ?_;rintro r w8⟨rfl,d8⟩)
  have d9:=after d8 (boxed w8 (.cells #[.bool false,.int .u64 0,.int .u64 0,.int .u8 0] 215));have hun:=(H7.out.below d9).unless aR aR false 192;rw[show Ix (1+1+1+1) ws=3 from eC aev]at hun;have kr:ag (Calls ah 162 #[.pointer (some ⟨b,0,none⟩),.bool false,.int .i64 192] (w8.alloc (.cells #[.bool false,.int .u64 0,.int .u64 0,.int .u8 0] 215)) fun r w'=>r=aT 192 n 3∧Below _ _ w'):=ae hun;have HD:=ae d9;clear hun d9 d8;go_wp2_with(go_at_call 162;refine kr.out.mono ?_;rintro r w9⟨rfl,d9⟩;unfold aT)
  exact⟨rfl,eW.bad ((zh.out.trans (Keeps.of_below (after HD.out d9) fun k hk _=>hk))) FP.out⟩
 |some pf=>
 obtain⟨⟨a1,a2,a3⟩,a4⟩:=pf;rw[hp]at hrd Yh;have lk:ag (Calls ah 215 #[.string t] w7 (Got (.tuple #[.agg #[.bool a1,.int .u64 a2,.int .u64 a3,.int .u8 a4],.int .i64 0]) w7)):=ae hrd;have FP:=ae Yh;clear hrd Yh hp;go_upto_region 5 with(go_at_call 215;refine lk.out.mono ?_;rintro r w8⟨rfl,d8⟩)
 have d9:=after d8 (boxed w8 (.cells #[.bool a1,.int .u64 a2,.int .u64 a3,.int .u8 a4] 215));have hM9:=aH.new w8 215 #[.bool a1,.int .u64 a2,.int .u64 a3,.int .u8 a4];have hMs:w8.heap.size<(w8.alloc (.cells #[.bool a1,.int .u64 a2,.int .u64 a3,.int .u8 a4] 215)).heap.size:=by simp
 have hM8:=d8.size;generalize w8.alloc (.cells #[.bool a1,.int .u64 a2,.int .u64 a3,.int .u8 a4] 215)=w9 at d9 hM9 hMs⊢;generalize w8.heap.size=M at hM9 hMs hM8⊢;obtain⟨H9,HP9,Uh,HN9,HK9,P5⟩:=ot (H7.out.below d9) (HP7.out.below d9 HP7.out.lt) (uO.out.below d9 uO.out.lt) (own_below HN7.out d9) (zh.out.trans (Keeps.of_below d9 fun k hk _=>hk)) hM9;have hun:=H9.out.unless aR aR true 192;have kr:ag (Calls ah 162 #[.pointer (some ⟨b,0,none⟩),.bool true,.int .i64 192] w9 fun r w'=>r=.returned (.tuple #[])∧Below _ _ w'):=ae hun;clear hun d9 d8 hM9 H7 HP7 uO HN7 zh;go_upto_region 6 with(go_at_call 162;refine kr.out.mono ?_;rintro r w10⟨rfl,d10⟩)
 obtain⟨H10,aew,qY,FQ,aex,acm⟩:=ot (H9.out.below d10) (HP9.out.below d10 HP9.out.lt) (Uh.out.below d10 Uh.out.lt) (P5.out.below d10 P5.out.lt) (own_below HN9.out d10) (HK9.out.trans (Keeps.of_below d10 fun k hk _=>hk));have ahm:w.heap.size≤w10.heap.size:=acm.out.size;clear kr H9 HP9 Uh P5 HN9 HK9 d10;have m0:=FQ.out.cell 0;have m1:=FQ.out.cell 1;have m2:=FQ.out.cell 2;have m3:=FQ.out.cell 3;have b1:=qY.out.cell 1;have b2:=qY.out.cell 2;have b3:=qY.out.cell 3;have b4:=qY.out.cell 4;have z1:=qY.out.frozen 1;have z2:=qY.out.frozen 2;have z3:=qY.out.frozen 3;have z4:=qY.out.frozen 4;simp at m0 m1 m2 m3 b1 b2 b3 b4;go_upto_region 7 with fail
 obtain⟨vG,Zu⟩:=bw ((((w10.setCell ⟨N,1,none⟩ (.bool a1)).setCell ⟨N,2,none⟩ (.int .u64 a2)).setCell ⟨N,3,none⟩ (.int .u64 a3)).setCell ⟨N,4,none⟩ (.int .u8 a4));have JJ:aH vG N 279 #[.string nm,.bool a1,.int .u64 a2,.int .u64 a3,.int .u8 a4]:=by
  rw[Zu];exact(((qY.out.aM 1 (.bool a1)).aM 2 (.int .u64 a2)).aM 3 (.int .u64 a3)).aM 4 (.int .u8 a4)
 have K11:Keeps (fun x=>x=N) w10 vG:=by
  rw[Zu];exact((((Keeps.refl (fun x=>x=N) w10).setCell (p:=⟨N,1,none⟩) (Or.inl rfl) _).setCell (p:=⟨N,2,none⟩) (Or.inl rfl) _).setCell (p:=⟨N,3,none⟩) (Or.inl rfl) _).setCell (p:=⟨N,4,none⟩) (Or.inl rfl) _
 rw[←Zu];clear Zu m0 m1 m2 m3 b1 b2 b3 b4 z1 z2 z3 z4;have O11:Off (fun x=>x=N) w10 [279]:=fun k hk=>⟨_,_,_,by subst hk;exact qY.out,by simp⟩
 have H11:=ae (H10.out.off K11 O11 aJ aJ);have acn:=ae (aew.out.off K11 O11 aJ);have aey:=ae (ko aex.out K11 fun g hg e=>by have:=HAN.out g hg;omega);have JJ:=ae JJ;have Ui:ag (Keeps (fun k=>k=b) w vG):=ae (((acm.out.mono (T:=fun x=>x=b∨x=N) fun k _ hk=>Or.inl hk).trans (K11.mono fun k _ hk=>Or.inr hk)).mono fun k hk hs=>hs.elim id fun e=>absurd hk aR);have ahn:w.heap.size≤vG.heap.size:=Ui.out.size;clear H10 aew qY FQ aex acm K11 O11 hMs hM8;have hmore:=ae H11.out.more;by_cases h4:4<ws.length
 ·rw[show decide (1+1+1+1<ws.length)=true from decide_eq_true h4]at hmore;have hR:=FP.out;rw[if_pos h4]at hR;have HR:=ae hR;clear hR FP;obtain⟨s4,hs4⟩:∃s,ws[4]? =some s:=⟨_,List.getElem?_eq_getElem h4⟩;go_upto_region 8 with(go_at_call 214;refine hmore.out.mono ?_;rintro r w12⟨rfl,d12⟩)
  have htake:=(H11.out.below d12).take aR;unfold jy at htake;rw[show 1+1+1+1=4 from rfl,hs4]at htake;have kM:ag (Calls ah 161 #[.pointer (some ⟨b,0,none⟩)] w12 fun r w'=>(Keeps (fun x=>x=b) w12 w'∧Rs w' b P (4+1) n lv uv ws)∧r=.returned (.string s4)):=ae htake;have Uj:=ae (Ui.out.trans (Keeps.of_below d12 fun k hk _=>hk));clear htake d12 Ui H11;go_upto_region 9 with(go_at_call 161;refine kM.out.mono ?_;rintro r FR⟨⟨d13,e13⟩,rfl⟩)
  have hwr:=e13.wrong aR aR 190;rw[eC h4]at hwr;have HWr:ag (Calls ah 191 #[.pointer (some ⟨b,0,none⟩),.int .i64 190] FR fun r w'=>r=aT 190 n 4∧Below _ _ w'):=ae hwr;have agp:=ae (Uj.out.trans d13);clear hwr d13 e13 Uj;go_wp2_with(go_at_call 191;refine HWr.out.mono ?_;rintro r jP⟨rfl,jM⟩;unfold aT)
  exact⟨rfl,eW.bad (agp.out.trans (Keeps.of_below jM fun k hk _=>hk)) HR.out⟩
 rw[show decide (1+1+1+1<ws.length)=false from decide_eq_false h4]at hmore;have hR:=FP.out;rw[if_neg h4]at hR;have HR:=ae hR;clear hR FP;go_upto_region 10 with(go_at_call 214;refine hmore.out.mono ?_;rintro r w12⟨rfl,d12⟩)
 obtain⟨H12,aez,P6,agq,Uj⟩:=eB (H11.out.below d12) (acn.out.below d12 acn.out.lt) (JJ.out.below d12 JJ.out.lt) (own_below aey.out d12) (Ui.out.trans (Keeps.of_below d12 fun k hk _=>hk));have abt:=Uj.out.size;clear hmore H11 acn JJ aey Ui d12;obtain⟨j0,hj,hj0,hj1,hj2⟩:=info_parts Zl;have x0:=(aez.out.cell 2).trans hq;have x2:=H12.out.blk.cell 2;have u0:=P6.out.cell 0;have u1:=P6.out.cell 1;have u2:=P6.out.cell 2;have u3:=P6.out.cell 3;have u4:=P6.out.cell 4;simp at x2 u0 u1 u2 u3 u4;obtain⟨jP,eD⟩:=bw ((w12.alloc (.cells #[.string nm,.bool a1,.int .u64 a2,.int .u64 a3,.int .u8 a4] 279)).drew);have mF:ag (jP.ownsRow w0.heap.size 279 5 (.slice A T cap) T (fC told)):=ae (by rw[eD];exact agq.out.alloc _);have jd:ag (∀j u,[.string nm,.bool a1,.int .u64 a2,.int .u64 a3,.int .u8 a4][j]? =some u→jP.cell? ((⟨w12.heap.size,0,none⟩:Addr).add j)=some u):=ae (by rw[eD];exact cS w12 [.string nm,.bool a1,.int .u64 a2,.int .u64 a3,.int .u8 a4] 279);have og:ag (aH jP P 166 pc):=ae (by rw[eD];exact aez.out.alloc _);have xI:ag (aH jP N 279 #[.string nm,.bool a1,.int .u64 a2,.int .u64 a3,.int .u8 a4]):=ae (by rw[eD];exact P6.out.alloc _);have CS:ag (Rs jP b P (1+1+1+1) n lv uv ws):=ae (by rw[eD];exact⟨(H12.out.alloc _).blk,(H12.out.alloc _).row,H12.out.ne,H12.out.len,H12.out.sizes⟩);have IC:ag (Keeps (fun k=>k=b∨k=P∨(dq A T cap).ownBlock=some k) w jP):=ae (by rw[eD];exact((Uj.out.mono fun k _ hk=>Or.inl hk).alloc _).drew);have P8:jP.heap.size=w12.heap.size+1:=by rw[eD];simp
 have y0:=(og.out.cell 2).trans hq;have y2:=CS.out.blk.cell 2;have v0:=xI.out.cell 0;have v1:=xI.out.cell 1;have v2:=xI.out.cell 2;have v3:=xI.out.cell 3;have v4:=xI.out.cell 4;simp at y2 v0 v1 v2 v3 v4;have Yg:ag (some N≠(dq A T cap).ownBlock):=ae fun e=>by have:=HAN.out N e.symm;omega
 rw[eD]at mF jd og xI y0 y2 v0 v1 v2 v3 v4;refine dW 16 (fun w'=>w'.cell? ⟨b,2,none⟩=some (.pointer (some ⟨P,0,none⟩))∧w'.cell? ⟨P,2,none⟩=some (.slice A T cap)∧w'.cell? ⟨N,0,none⟩=some (.string nm)∧w'.cell? ⟨N,1,none⟩=some (.bool a1)∧w'.cell? ⟨N,2,none⟩=some (.int .u64 a2)∧w'.cell? ⟨N,3,none⟩=some (.int .u64 a3)∧w'.cell? ⟨N,4,none⟩=some (.int .u8 a4)) bo (⟨x2,x0,u0,u1,u2,u3,u4⟩) (fun hHeld=>?_);refine dT 0 ?_
 refine dT 1 ?_
 refine dT 2 ?_
 refine dT 3 ?_
 refine dT 4 ?_
 refine dT 5 ?_
 refine dT 6 ?_
 refine dT 7 ?_
 refine dT 8 ?_
 refine dT 9 ?_
 refine dT 10 ?_
 refine dT 11 ?_
 refine np 12 fun K hK=>?_;go_simp
 skip
 refine hK.out _ _ (fun _=>⟨y2,y0,v0,v1,v2,v3,v4⟩) (fun hHeld=>?_);have hHeld:=hHeld aJ;clear hK K;try simp only[ck]
 refine np 13 fun K hK=>?_;refine step_append_lies _ (by rfl) _ _ _ (by rfl) w0.heap.size 279 j0 (.agg #[aG,.bool false,.int .u64 0,.int .u64 0,.int .u8 0]) 5 48 Tryz.underlying163 hj hj0 hj1 hj2 rfl aJ _ T _ (by rfl) mF.out ⟨w12.heap.size,0,none⟩ 1 1 [.string nm,.bool a1,.int .u64 a2,.int .u64 a3,.int .u8 a4] (by rfl) rfl jd.out (by intro u hu;simp at hu;rcases hu with rfl|rfl|rfl|rfl|rfl<;>rfl) aJ (by unfold maxLen;omega) aR (by simp;omega) (w12.heap.size+1) (by simp) ?_;intro g' cap' qZ hown' hgrow hat nD;have BP:=ae (og.out.off (Keeps.row hgrow) (cG mF.out) aJ);have fU:=xI.out.grown hgrow Yg.out;have p0:=(BP.out.cell 2).trans hq;have pz:=BP.out.frozen 2;have n0:=fU.cell 0;have n1:=fU.cell 1;have n2:=fU.cell 2;have n3:=fU.cell 3;have n4:=fU.cell 4;rw[←eD]at hgrow mF;have R15:=ae (CS.out.off (Keeps.row hgrow) (cG mF.out) aJ aJ);have p2:=R15.out.blk.cell 2;simp at n0 n1 n2 n3 n4 p2;obtain⟨mE,fX,P4⟩:=bz hown' hgrow hat;clear hown' hgrow hat nD fU;refine hK.out _ _ (fun _=>⟨p2,p0,n0,n1,n2,n3,n4⟩) (fun hHeld=>?_);have hHeld:=hHeld aJ;clear hK K;try simp only[ck]
 refine np 14 fun K hK=>?_;go_simp;refine hK.out _ _ (fun _=>hHeld) (fun hHeld=>?_);have hHeld:=hHeld aJ;clear hK K;try simp only[ck]
 refine dT 15 ?_
 refine np 16 fun K hK=>?_;go_simp;refine hK.out _ _ (fun h=>absurd rfl h) (fun _=>?_);clear hK K hHeld;try simp only[ck]
 refine OU ?_;go_wp2_with fail
 have K2:=(Keeps.grown IC.out fX.out fun k hk=>Or.inl (Or.inr (Or.inr hk))).setCell (p:=⟨P,2,none⟩) (Or.inl (Or.inr (Or.inl rfl))) (.slice (some ⟨g',0,none⟩) (T+1) cap');have KQ:=(Keeps.refl (fun x=>x=P) qZ).setCell (p:=⟨P,2,none⟩) (Or.inl rfl) (.slice (some ⟨g',0,none⟩) (T+1) cap');have OQ:Off (fun x=>x=P) qZ [166]:=fun k hk=>⟨_,_,_,by subst hk;exact BP.out,by simp⟩
 have R2:=R15.out.off KQ OQ aJ aJ;have B2:aH (qZ.setCell ⟨P,2,none⟩ (.slice (some ⟨g',0,none⟩) (T+1) cap')) P 166 (pc.setIfInBounds 2 (.slice (some ⟨g',0,none⟩) (T+1) cap')):=BP.out.aM 2 _;refine⟨rfl,_,results_none rfl _ _ _,eW.good HR.out K2 ⟨rfl,_,_,R2,B2,?_,?_⟩⟩
 ·rw[aj,←HT.out,CO];exact bn mE.out KQ OQ (by decide)
 ·intro g hg;have hgg:some g'=some g:=hg;injection hgg with hgg
  rcases P4.out with h|h
  ·exact Or.inl (hgg▸h)
  ·exact Or.inr (by omega)
abbrev aco:=Except Bad (List (kD×Nat)×List ByteArray)
def om(en:ByteArray)(ws:List ByteArray)(k:Nat)(acc:List (kD×Nat)):aco:=(dZ en (ws.drop k) k acc.length).map fun x=>(acc++x.1,x.2)
theorem JK(en:ByteArray)(ws:List ByteArray)(k:Nat):om en ws k []=dZ en (ws.drop k) k 0:=by
 unfold om;simp only[List.length_nil,List.nil_append];cases dZ en (ws.drop k) k 0<;>rfl
theorem JL{en:ByteArray}{ws:List ByteArray}{k:Nat}(h:k=ws.length):om en ws k []=.error (190,ws.length):=by
 subst h;unfold om;rw[nW (Nat.le_refl _)];rfl
theorem JM{en s:ByteArray}{ws:List ByteArray}{k:Nat}{acc:List (kD×Nat)}(h:ws[k]? =some s)(he:s=en)(ha:acc≠[]):om en ws k acc=.ok (acc,ws.drop k):=by
 have hk:k<ws.length:=(List.getElem?_eq_some_iff.1 h).1;have hg:ws[k]=s:=(List.getElem?_eq_some_iff.1 h).2;unfold om;rw[bT hk,hg];unfold dZ;rw[if_pos ⟨he,fun e=>ha (bC e)⟩];simp[Except.map]
theorem JO{en s:ByteArray}{ws:List ByteArray}{k:Nat}{acc:List (kD×Nat)}(h:ws[k]? =some s)(hn:¬(s=en∧acc≠[])):om en ws k acc=match mM s with
 |none=>.error (195,k)
 |some x=>if 64≤acc.length then .error (198,k)else om en ws (k+1) (acc++[(x,k)]):=by
 have hk:k<ws.length:=(List.getElem?_eq_some_iff.1 h).1;have hg:ws[k]=s:=(List.getElem?_eq_some_iff.1 h).2;unfold om;rw[bT hk,hg]
 conv=>lhs;unfold dZ
 rw[if_neg (fun e=>hn ⟨e.1,fun e2=>e.2 (by rw[e2];rfl)⟩)];cases mM s with
 |none=>rfl
 |some x=>
  simp only;by_cases h2:64≤acc.length
  ·rw[if_pos h2,if_pos h2];rfl
  rw[if_neg h2,if_neg h2,aj,List.length_singleton];cases dZ en (List.drop (k+1) ws) (k+1) (acc.length+1)with
  |error e=>rfl
  |ok l=>simp[Except.map]
theorem AH{en:ByteArray}{ws:List ByteArray}{k:Nat}{acc:List (kD×Nat)}(h:ws.length≤k)(ha:acc≠[]):om en ws k acc=.ok (acc,[]):=by
 unfold om;rw[nW h];unfold dZ;rw[if_neg (fun e=>ha (bC e))];simp[Except.map]
def kR(n:Nat)(l:List (kD×Nat)):List Us:=l.map fun y=>(y.1,n,y.2)
def acp(w0 w:World)(b P n:Nat)(lv uv:Value)(ws:List ByteArray)(us:List Us)(w':World)(x:List (kD×Nat)×List ByteArray)(r:Ending):Prop:=∃v uv',r=.returned v∧w'.ownsRow w.heap.size 217 6 v x.1.length (ie (x.1.map (·.1)))∧Rs w' b P (ws.length-x.2.length) n lv uv' ws∧fp w' w0.heap.size uv' (us++kR n x.1)∧(∀g,uv'.ownBlock=some g→uv.ownBlock=some g∨w.heap.size≤g)∧x.1.length≤64
theorem Rs.xJ{w:World}{b P k n:Nat}{lv uv:Value}{ws:List ByteArray}(h:Rs w b P k n lv uv ws):w.cell? ⟨b,0,none⟩=some lv∧w.cell? ⟨b,1,none⟩=some (.int .i64 k)∧w.cell? ⟨b,3,none⟩=some uv:=by
 have c0:=h.blk.cell 0;have c1:=h.blk.cell 1;have c3:=h.blk.cell 3;simp at c0 c1 c3;exact⟨c0,c1,c3⟩
theorem fp.MX{w:World}{base b P k n:Nat}{lv uv:Value}{ws:List ByteArray}{us:List Us}(h:fp w base uv us)(hr:Rs w b P k n lv uv ws):∀g,uv.ownBlock=some g→g≠b:=by
 intro g hg e;obtain⟨xs,_,ho⟩:=h;obtain⟨cur,e2,fz,hh,hT⟩:=cG ho g hg;have:=hr.blk;unfold RdB aH at this;rw[←e,hh]at this;injection this with this
 injection this with _ h2 _
 rw[List.mem_singleton.1 hT]at h2;exact absurd h2 (by decide)
theorem Rs.word{w:World}{b P k n g cap j:Nat}{uv:Value}{ws:List ByteArray}{s:ByteArray}(h:Rs w b P k n (.slice (some ⟨g,0,none⟩) ws.length cap) uv ws)(hs:ws[j]? =some s):w.cell? ⟨g,j*3,none⟩=some (.string s)∧w.cell? ⟨g,j*3+1,none⟩=some (.int .i64 n)∧w.cell? ⟨g,j*3+2,none⟩=some (.int .i64 j):=by
 obtain⟨g',cap',e,_,_,hc⟩:=h.row.shape h.ne;injection e with e1 _ _
 injection e1 with e1
 injection e1 with e1 _ _
 subst e1;obtain⟨v0,v1,v2⟩:=tz n ws 0 j s hs;rw[Nat.zero_add]at v2;have hj:j<ws.length:=(List.getElem?_eq_some_iff.1 hs).1;exact⟨(hc _ aR).trans v0,(hc _ aR).trans v1,(hc _ aR).trans v2⟩
theorem fp.below{w w':World}{base:Nat}{v:Value}{l:List Us}(h:fp w base v l)(hb:aW w w'):fp w' base v l:=by
 obtain⟨xs,e,ha⟩:=h;exact⟨xs,e,own_below ha hb⟩
theorem fp.off{S:Nat→Prop}{w w':World}{T:List TypeId}{base:Nat}{v:Value}{l:List Us}(h:fp w base v l)(hk:Keeps S w w')(ho:Off S w T)(he:221∉T):fp w' base v l:=by
 obtain⟨xs,e,ha⟩:=h;exact⟨xs,e,bn ha hk ho he⟩
theorem FT{w:World}{s:ByteArray}(h:Calls ah 240 #[.string s] w (JE none w)):Calls ah 240 #[.string s] w fun r w'=>(∃(k:Nat)(nm:ByteArray)(v6:Bool)(hi lo bits:Nat),r=.returned (.tuple #[.agg #[.int .u8 k,.string nm,.bool v6,.int .u64 hi,.int .u64 lo,.int .u8 bits],.bool false]))∧aW w w':=h.mono fun r w'⟨⟨s,h1,_⟩,h2⟩=>⟨⟨s.kind,s.name,s.net.a.v6,s.net.a.hi,s.net.a.lo,s.net.bits,h1⟩,h2⟩
theorem FU{w:World}{s:ByteArray}{x:kD}(h:Calls ah 240 #[.string s] w (JE (some x) w)):Calls ah 240 #[.string s] w (Got (.tuple #[.agg #[.int .u8 (x.kind:Int),.string x.name,.bool x.net.a.v6,.int .u64 (x.net.a.hi:Int),.int .u64 (x.net.a.lo:Int),.int .u8 (x.net.bits:Int)],.bool true]) w):=h.mono fun r w'⟨⟨s,h1,h3⟩,h2⟩=>by obtain rfl:=h3 _ rfl;exact⟨h1,h2⟩
theorem FV{w0 w:World}(env:Env w0)(hE:aW w0 w){b P k n:Nat}{lv uv:Value}{ws:List ByteArray}{us:List Us}(h:Rs w b P k n lv uv ws)(hu:fp w w0.heap.size uv us)(hk:k≤ws.length)(hus:us.length≤4000000)(hbb:w0.heap.size≤b)(en:ByteArray):Calls ah 217 #[.pointer (some ⟨b,0,none⟩),.string en] w fun r w'=>Keeps (fun x=>x=b∨uv.ownBlock=some x) w w'∧fq (dZ en (ws.drop k) k 0) n (acp w0 w b P n lv uv ws us w') r:=by
 obtain⟨RES,eV⟩:=bw (dZ en (ws.drop k) k 0);rw[←eV];rw[←JK]at eV;obtain⟨i0,hi,hz0,hz1,hz2⟩:=info_parts Ub;obtain⟨j0,hj,hj0,hj1,hj2⟩:=info_parts Zo;have hbs:w0.heap.size≤w.heap.size:=hE.size;have hUB:∀g,uv.ownBlock=some g→w0.heap.size≤g∧g<w.heap.size:=by
  obtain⟨xs,_,ho⟩:=hu;exact fun g hg=>ho.lt g hg
 obtain⟨HUB,H,HU,jT,HE,vF,HWl⟩:=nn hUB h hu eV hE env h.len;clear h hu eV hE env hUB;go_enter Tryz.func217,Tryz.ntmps217;go_wp2_with fail
 go_loopw [4] (fun v4 wr=>∃(k':Nat)(acc:List (kD×Nat))(A:Option Addr)(cap:Nat)(uv':Value),v4=.slice A acc.length cap∧k'≤ws.length∧ag (acc≠[]→k'<ws.length)∧acc.length≤64∧ag (Rs wr b P k' n lv uv' ws)∧ag (Keeps (fun x=>x=b∨uv.ownBlock=some x) w wr)∧ag (wr.ownsRow w.heap.size 217 6 (.slice A acc.length cap) acc.length (ie (acc.map (·.1))))∧ag (fp wr w0.heap.size uv' (us++kR n acc))∧ag (∀g,uv'.ownBlock=some g→uv.ownBlock=some g∨w.heap.size≤g)∧ag (RES=om en ws k' acc)) (fun _ wr=>ws.length+1-xG wr b)
 case atStart=>exact⟨k,[],none,0,uv,rfl,hk,ae fun h=>absurd rfl h,by simp,H,ae (Keeps.refl _ _),ae (World.ownsRow_nil _ _ _ _),ae (by unfold kR;simpa using HU.out),ae fun g hg=>Or.inl hg,jT⟩
 case round=>
  obtain⟨k',acc,A,cap,uv',rfl,hk',hak,hal,hrs,hkp,hown,huv,hub,hres⟩:=hrel;have Ai:=ae hrs.out.next;have htake:=hrs.out.take hk';unfold jy at htake;have kM:=ae htake;obtain⟨L,hL⟩:=bw acc.length;rw[←hL]at hown hal⊢;have HL:=ae hL;clear htake hL;go_wp2_with fail
  go_at_call 161;refine kM.out.mono ?_;rintro r w2⟨⟨d2,e2⟩,h2⟩;cases hs:ws[k']? with
  |none=>
   have hge:ws.length≤k':=by rw[List.getElem?_eq_none_iff]at hs;exact hs
   rw[hs]at h2;simp only at h2;subst h2;unfold aT;have ha:acc=[]:=Classical.byContradiction fun e=>absurd (hak.out e) (by omega)
   exact⟨rfl,hkp.out.trans (d2.mono fun k _ hk=>Or.inl hk),fq.bad (by rw[hres.out,ha];exact JL aR)⟩
  |some wd=>
  rw[hs]at h2;simp only at h2;subst h2;have hlt:k'<ws.length:=(List.getElem?_eq_some_iff.1 hs).1;have rc:=ae e2;have OB:Off (fun x=>x=b) wr [207]:=fun k hk=>⟨_,_,_,by subst hk;exact hrs.out.blk,by simp⟩
  have OW2:=ae (bn hown.out d2 OB aJ);obtain⟨Zv,CU⟩:=aL (huv.out.keep d2 (huv.out.MX hrs.out)) (hkp.out.trans (d2.mono (T:=fun x=>x=b∨uv.ownBlock=some x) fun k _ hk=>Or.inl hk));clear kM hrs hown huv hkp d2 e2 OB;by_cases hstop:wd=en∧acc≠[]
  ·obtain⟨rfl,hne⟩:=hstop;have hR:=hres.out;rw[JM hs rfl hne]at hR;have HR:=ae hR;have hL0:0<L:=by
    have:=HL.out;cases acc with
    |nil=>exact absurd rfl hne
    |cons x r=>simp at this;omega
   have q1:(0:Int)<(L:Int):=by omega
   have q2:(wd.toList==wd.toList)=true:=by simp
   have c1:=rc.out.xJ.2.1;have z1:=rc.out.blk.frozen 1;have hkb:(k':Int)≤2000000:=by have:=HWl.out;omega
   clear hR hres hne hs;rw[show((k'+1:Nat):Int)=(k':Int)+1 by omega]at c1;go_wp2_with fail
   have KS:=(Keeps.refl (fun x=>x=b) w2).setCell (p:=⟨b,1,none⟩) (Or.inl rfl) (.int .i64 k');have OS:Off (fun x=>x=b) w2 [207]:=fun k hk=>⟨_,_,_,by subst hk;exact rc.out.blk,by simp⟩
   have RB:RdB (w2.setCell ⟨b,1,none⟩ (.int .i64 k')) b lv k' P uv':=rc.out.blk.aM 1 (.int .i64 k');have RS3:=rc.out.step KS RB;refine bodyPost_ret (results_tmp rfl _ _ _) rfl ⟨CU.out.trans (KS.mono fun k _ hk=>Or.inl hk),fq.good HR.out ⟨_,uv',rfl,?_,?_,Zv.out.keep KS (Zv.out.MX rc.out),hub.out,by rw[←HL.out];exact hal⟩⟩
   ·simp only;rw[←HL.out];exact bn OW2.out KS OS (by decide)
   ·simp only[List.length_drop];rw[show ws.length-(ws.length-k')=k' by omega];exact RS3
  ·have hR:=hres.out;rw[JO hs hstop]at hR;have HR:=ae hR;have hwd:wd.size≤2000000:=rc.out.sizes wd (iD hs);have hE2:=cw HE.out CU.out (fun k hk=>hk.elim (fun e=>by subst e;exact hbb) fun e=>(HUB.out k e).1);have hsel:=Zg (vF.out.below hE2) wd hwd;have Hs:=ae hs;clear hR hres hs hE2;have hcond:((wd.toList==en.toList)=true∧(0:Int)<(L:Int))→False:=fun h=>hstop ⟨by
    have:=h.1;rw[beq_iff_eq,cE,cE]at this;exact ByteArray.ext (Array.ext' this),fun e=>by have:=HL.out;rw[e]at this;simp at this;omega⟩
   clear hstop;obtain⟨o,ho⟩:=bw (mM wd);rw[←ho]at hsel HR;have Ho:=ae ho;clear ho;cases hb:(wd.toList==en.toList)with
   |true=>
    have hL0:¬(0:Int)<(L:Int):=fun h=>hcond ⟨hb,h⟩
    clear hcond;cases o with
    |none=>
     have xK:=ae (FT hsel);clear hsel;have hR:=HR.out;simp only at hR;have HRn:=ae hR;clear hR HR;go_upto_region 6 with(go_at_call 240;refine xK.out.mono ?_;rintro r w3⟨⟨x1,x2,x3,x4,x5,x6,rfl⟩,d3⟩)
     have d4:=after d3 (boxed w3 (.cells #[.int .u8 x1,.string x2,.bool x3,.int .u64 x4,.int .u64 x5,.int .u8 x6] 217));generalize w3.alloc (.cells #[.int .u8 x1,.string x2,.bool x3,.int .u64 x4,.int .u64 x5,.int .u8 x6] 217)=w4 at d4⊢;obtain⟨FW,zi⟩:=aL (rc.out.below d4) (CU.out.trans (Keeps.of_below d4 fun k hk _=>hk));clear rc CU;clear d4 d3 xK;have hun:=FW.out.unless aR aR false 195;rw[eC hlt]at hun;have kr:ag (Calls ah 162 #[.pointer (some ⟨b,0,none⟩),.bool false,.int .i64 195] w4 fun r w'=>r=aT 195 n k'∧aW w4 w'):=ae hun;clear hun;go_wp2_with(go_at_call 162;refine kr.out.mono ?_;rintro r w5⟨rfl,d5⟩;unfold aT)
     exact⟨rfl,zi.out.trans (Keeps.of_below d5 fun k hk _=>hk),fq.bad HRn.out⟩
    |some X=>
     have hR:=HR.out;simp only at hR;obtain⟨x1,x2,⟨⟨x3,x4,x5⟩,x6⟩⟩:=X;have xK:ag (Calls ah 240 #[.string wd] w2 (Got (.tuple #[.agg #[.int .u8 x1,.string x2,.bool x3,.int .u64 x4,.int .u64 x5,.int .u8 x6],.bool true]) w2)):=ae (FU hsel);clear hsel;have HRn:=ae hR;clear hR HR;go_upto_region 6 with(go_at_call 240;refine xK.out.mono ?_;rintro r w3⟨rfl,d3⟩)
     have d4:=after d3 (boxed w3 (.cells #[.int .u8 x1,.string x2,.bool x3,.int .u64 x4,.int .u64 x5,.int .u8 x6] 217));have M4:=ae (aH.new w3 217 #[.int .u8 x1,.string x2,.bool x3,.int .u64 x4,.int .u64 x5,.int .u8 x6]);have EJ:=d3.size;generalize w3.alloc (.cells #[.int .u8 x1,.string x2,.bool x3,.int .u64 x4,.int .u64 x5,.int .u8 x6] 217)=w4 at d4 M4⊢;generalize w3.heap.size=M at EJ M4⊢;have hOM:∀g,(dq A L cap).ownBlock=some g→g<M:=fun g hg=>by have:=(OW2.out.lt g hg).2;omega
     obtain⟨HOM,FW,OW4,Uk,zi⟩:=eB hOM (rc.out.below d4) (own_below OW2.out d4) (Zv.out.below d4) (CU.out.trans (Keeps.of_below d4 fun k hk _=>hk));clear rc OW2 Zv CU;clear d4 d3 xK hOM;have hun:=FW.out.unless aR aR true 195;have kr:ag (Calls ah 162 #[.pointer (some ⟨b,0,none⟩),.bool true,.int .i64 195] w4 fun r w'=>r=.returned (.tuple #[])∧aW w4 w'):=ae hun;clear hun;go_upto_region 7 with(go_at_call 162;refine kr.out.mono ?_;rintro r w5⟨rfl,d5⟩)
     obtain⟨rf,OW5,Zw,ID,M5⟩:=eB (FW.out.below d5) (own_below OW4.out d5) (Uk.out.below d5) (zi.out.trans (Keeps.of_below d5 fun k hk _=>hk)) (M4.out.below d5 M4.out.lt);clear FW OW4 Uk zi M4;clear d5 kr;have hro:=rf.out.room aR aR L;rw[eC hlt]at hro;have rh:=ae hro;clear hro;by_cases h64:64≤L
     ·have hR:=HRn.out;rw[←HL.out,if_pos h64]at hR;rw[decide_eq_false aR]at rh;have nG:ag (Calls ah 211 #[.pointer (some ⟨b,0,none⟩),.int .i64 L] w5 fun r w'=>r=aT 198 n k'∧aW w5 w'):=rh;have P9:=ae hR;clear rh hR HRn h64;go_wp2_with(go_at_call 211;refine nG.out.mono ?_;rintro r w6⟨rfl,d6⟩;unfold aT)
      exact⟨rfl,ID.out.trans (Keeps.of_below d6 fun k hk _=>hk),fq.bad P9.out⟩
     have hR:=HRn.out;rw[←HL.out,if_neg h64]at hR;rw[decide_eq_true aR]at rh;have nG:ag (Calls ah 211 #[.pointer (some ⟨b,0,none⟩),.int .i64 L] w5 fun r w'=>r=.returned (.tuple #[])∧aW w5 w'):=rh;have P9:=ae hR;clear rh hR HRn;go_upto_region 8 with(go_at_call 211;refine nG.out.mono ?_;rintro r w6⟨rfl,d6⟩)
     obtain⟨FX,Zx,US6,MY,M6⟩:=eB (rf.out.below d6) (own_below OW5.out d6) (Zw.out.below d6) (ID.out.trans (Keeps.of_below d6 fun k hk _=>hk)) (M5.out.below d6 M5.out.lt);clear rf OW5 Zw ID M5;clear d6 nG;obtain⟨m0,m1,m2,m3,m4,m5⟩:=zl M6;have hwb:=MY.out.size;go_upto_region 9 with(at_builtin;refine wpList_append_own _ rfl _ _ 282 rfl w.heap.size 217 i0 (.agg #[.int .u8 0,aG,.bool false,.int .u64 0,.int .u64 0,.int .u8 0]) 6 56 Tryz.underlying282 hi hz0 hz1 hz2 rfl aJ _ L _ rfl (Zx.out.alloc _) ⟨w6.heap.size,0,none⟩ 1 1 [.int .u8 x1,.string x2,.bool x3,.int .u64 x4,.int .u64 x5,.int .u8 x6] rfl rfl (cS w6 [.int .u8 x1,.string x2,.bool x3,.int .u64 x4,.int .u64 x5,.int .u8 x6] 217) (by intro u hu;simp at hu;rcases hu with rfl|rfl|rfl|rfl|rfl|rfl<;>rfl) (by unfold maxLen;omega) aR (by simp;omega) ?_;intro v' w7 hown' hgrow hnil)
     have zh:=Keeps.row hgrow;have Qa:=cG (Zx.out.alloc (.cells #[.int .u8 x1,.string x2,.bool x3,.int .u64 x4,.int .u64 x5,.int .u8 x6] 217));have pX:=ae ((FX.out.alloc _).off zh Qa aJ aJ);have Yi:=ae ((US6.out.below (boxed w6 _)).off zh Qa aJ);have M7:=ae ((M6.out.alloc _).grown hgrow (fun e=>by have:=HOM.out M e.symm;omega));have EI:=ae (Keeps.grown (MY.out.alloc _) hgrow fun k hk=>Or.inr (Zx.out.lt k hk).1);obtain⟨A2,cap2,rfl⟩:=aX hown';have OW7:=ae hown';have agr:w.heap.size≤w7.heap.size:=EI.out.size;clear zh Qa hgrow hnil hown' FX US6 M6 MY Zx HOM m0 m1 m2 m3 m4 m5 hwb;obtain⟨gw,JP,rfl,aeA,⟨ags,hgW⟩,hcw⟩:=pX.out.row.shape pX.out.ne;obtain⟨xs,hxs,MZ⟩:=Yi.out;obtain⟨Au,JQ,rfl⟩:=aX MZ;obtain⟨U,hU⟩:=bw ((us++kR n acc).length);rw[←hU]at MZ hub;have hU1:U≤4000100:=by rw[hU,aj];unfold kR;rw[ay];have:=HL.out;omega
     obtain⟨c0,c1,c3⟩:=pX.out.xJ;rw[←hU]at c3;obtain⟨t0,t1,t2⟩:=pX.out.word Hs.out;obtain⟨m0,m1,m2,m3,m4,m5⟩:=zl M7;have i1:IntKind.i64.wrap (k':Int)=(k':Int):=by have:=HWl.out;rw[ah4];omega
     have i2:(k':Int)<(ws.length:Int):=by omega
     obtain⟨jP,eD⟩:=bw ((w7.alloc (.cells #[.int .u8 x1,.string x2,.bool x3,.int .u64 x4,.int .u64 x5,.int .u8 x6,.string wd,.int .i64 n,.int .i64 k'] 221)).drew);have mF:ag (jP.ownsRow w0.heap.size 221 9 (.slice Au U JQ) U (gd xs)):=ae (by rw[eD];exact MZ.alloc _);have jd:ag (∀j u,[.int .u8 x1,.string x2,.bool x3,.int .u64 x4,.int .u64 x5,.int .u8 x6,.string wd,.int .i64 n,.int .i64 k'][j]? =some u→jP.cell? ((⟨w7.heap.size,0,none⟩:Addr).add j)=some u):=ae (by rw[eD];exact cS w7 [.int .u8 x1,.string x2,.bool x3,.int .u64 x4,.int .u64 x5,.int .u8 x6,.string wd,.int .i64 n,.int .i64 k'] 221);have lk:ag (Rs jP b P (k'+1) n (.slice (some ⟨gw,0,none⟩) ws.length JP) (.slice Au U JQ) ws):=ae (by rw[eD,hU];exact⟨(pX.out.alloc _).blk,(pX.out.alloc _).row,pX.out.ne,pX.out.len,pX.out.sizes⟩);have IC:ag (Keeps (fun x=>x=b∨uv.ownBlock=some x) w jP):=ae (by rw[eD];exact(EI.out.alloc _).drew);have Ul:ag (jP.ownsRow w.heap.size 217 6 (.slice A2 (L+1) cap2) (L+1) _):=ae (by rw[eD];exact OW7.out.alloc _);have P8:jP.heap.size=w7.heap.size+1:=by rw[eD];simp
     have hb8:aW w7 jP:=by rw[eD];have q:=boxed w7 (.cells #[.int .u8 x1,.string x2,.bool x3,.int .u64 x4,.int .u64 x5,.int .u8 x6,.string wd,.int .i64 n,.int .i64 k'] 221);exact⟨q.os,q.tape,q.output,q.size,q.block⟩
     obtain⟨d0,d1,d3⟩:=lk.out.xJ;obtain⟨q0,q1,q2⟩:=lk.out.word Hs.out;have Um:=ae (M7.out.below hb8 M7.out.lt);obtain⟨n0,n1,n2,n3,n4,n5⟩:=zl Um;obtain⟨JR,HU1⟩:=aL hxs hU;clear hxs MZ hU pX EI M7 OW7 hgW hcw hb8 Yi;rw[eD]at mF jd d0 d1 d3 q0 q1 q2 n0 n1 n2 n3 n4 n5;refine dW 22 (fun w'=>w'.cell? ⟨b,0,none⟩=some (.slice (some ⟨gw,0,none⟩) ws.length JP)∧w'.cell? ⟨b,1,none⟩=some (.int .i64 ((k'+1:Nat):Int))∧w'.cell? ⟨b,3,none⟩=some (.slice Au U JQ)∧w'.cell? ⟨gw,k'*3,none⟩=some (.string wd)∧w'.cell? ⟨gw,k'*3+1,none⟩=some (.int .i64 n)∧w'.cell? ⟨gw,k'*3+2,none⟩=some (.int .i64 k')∧w'.cell? ⟨M,0,none⟩=some (.int .u8 x1)∧w'.cell? ⟨M,1,none⟩=some (.string x2)∧w'.cell? ⟨M,2,none⟩=some (.bool x3)∧w'.cell? ⟨M,3,none⟩=some (.int .u64 x4)∧w'.cell? ⟨M,4,none⟩=some (.int .u64 x5)∧w'.cell? ⟨M,5,none⟩=some (.int .u8 x6)) bo (⟨c0,c1,c3,t0,t1,t2,m0,m1,m2,m3,m4,m5⟩) (fun hHeld=>?_);refine dT 0 ?_
     refine dT 1 ?_
     refine dT 2 ?_
     refine dT 3 ?_
     refine dT 4 ?_
     refine dT 5 ?_
     refine dT 6 ?_
     refine dT 7 ?_
     refine dT 8 ?_
     refine dT 9 ?_
     refine dT 10 ?_
     refine dT 11 ?_
     refine dT 12 ?_
     refine dT 13 ?_
     refine dT 14 ?_
     refine dT 15 ?_
     refine dT 16 ?_
     refine dT 17 ?_
     refine np 18 fun K hK=>?_;go_simp
     skip
     refine hK.out _ _ (fun _=>⟨d0,d1,d3,q0,q1,q2,n0,n1,n2,n3,n4,n5⟩) (fun hHeld=>?_);have hHeld:=hHeld aJ;clear hK K;try simp only[ck]
     refine np 19 fun K hK=>?_;refine step_append_lies _ (by rfl) _ _ _ (by rfl) w0.heap.size 221 j0 (.agg #[.int .u8 0,aG,.bool false,.int .u64 0,.int .u64 0,.int .u8 0,aG,.int .i64 0,.int .i64 0]) 9 88 Tryz.underlying205 hj hj0 hj1 hj2 rfl aJ _ U _ (by rfl) mF.out ⟨w7.heap.size,0,none⟩ 1 1 [.int .u8 x1,.string x2,.bool x3,.int .u64 x4,.int .u64 x5,.int .u8 x6,.string wd,.int .i64 n,.int .i64 k'] (by rfl) rfl jd.out (by intro u hu;simp at hu;rcases hu with rfl|rfl|rfl|rfl|rfl|rfl|rfl|rfl|rfl<;>rfl) aJ (by unfold maxLen;omega) aR (by simp;omega) (w7.heap.size+1) (by simp) ?_;intro g' cap' qZ hown' hgrow hat nD;rw[←eD]at hgrow mF;have R15:=ae (lk.out.off (Keeps.row hgrow) (cG mF.out) aJ aJ);have O15:=ae (bn Ul.out (Keeps.row hgrow) (cG mF.out) aJ);obtain⟨p0,p1,p3⟩:=R15.out.xJ;obtain⟨r0,r1,r2⟩:=R15.out.word Hs.out;have CV:=Um.out.off (Keeps.row hgrow) (cG mF.out) aJ;have s0:=CV.cell 0;have s1:=CV.cell 1;have s2:=CV.cell 2;have s3:=CV.cell 3;have s4:=CV.cell 4;have s5:=CV.cell 5;simp at s0 s1 s2 s3 s4 s5;have pz:=R15.out.blk.frozen 3;obtain⟨mE,fX,P4⟩:=bz hown' hgrow hat;clear hown' hgrow hat nD;refine hK.out _ _ (fun _=>⟨p0,p1,p3,r0,r1,r2,s0,s1,s2,s3,s4,s5⟩) (fun hHeld=>?_);have hHeld:=hHeld aJ;clear hK K;try simp only[ck]
     refine np 20 fun K hK=>?_;go_simp;refine hK.out _ _ (fun _=>hHeld) (fun hHeld=>?_);have hHeld:=hHeld aJ;clear hK K;try simp only[ck]
     refine dT 21 ?_
     refine np 22 fun K hK=>?_;go_simp;refine hK.out _ _ (fun h=>absurd rfl h) (fun _=>?_);clear hK K hHeld;try simp only[ck]
     refine OU ?_;go_upto_region 10 with fail
     obtain⟨W,hW⟩:=bw (qZ.setCell ⟨b,3,none⟩ (.slice (some ⟨g',0,none⟩) (U+1) cap'));have KQ:Keeps (fun x=>x=b) qZ W:=by rw[hW];exact(Keeps.refl (fun x=>x=b) qZ).setCell (p:=⟨b,3,none⟩) (Or.inl rfl) _
     have OQ:Off (fun x=>x=b) qZ [207]:=fun k hk=>⟨_,_,_,by subst hk;exact R15.out.blk,by simp⟩
     have RB:RdB W b (.slice (some ⟨gw,0,none⟩) ws.length JP) (k'+1) P (.slice (some ⟨g',0,none⟩) (U+1) cap'):=by rw[hW];exact R15.out.blk.aM 3 _
     have Un:=ae (R15.out.step KQ RB);have hUn:kR n (acc++[(⟨x1,x2,⟨⟨x3,x4,x5⟩,x6⟩⟩,k')])=kR n acc++[(⟨x1,x2,⟨⟨x3,x4,x5⟩,x6⟩⟩,n,k')]:=by simp[kR]
     have Zy:ag (fp W w0.heap.size (.slice (some ⟨g',0,none⟩) (U+1) cap') (us++kR n (acc++[(⟨x1,x2,⟨⟨x3,x4,x5⟩,x6⟩⟩,k')]))):=by
      refine ae ⟨xs++[((⟨x1,x2,⟨⟨x3,x4,x5⟩,x6⟩⟩,n,k'),wd)],?_,?_⟩
      ·rw[cL,JR.out,hUn,aO];rfl
      ·rw[hUn,←aO,aj,←HU1.out,rR];exact bn mE.out KQ OQ (by decide)
     have Zz:=ae (bn O15.out KQ OQ aJ);have ZA:=ae ((Keeps.grown IC.out fX.out fun k hk=>(hub.out k hk).elim (fun e=>Or.inl (Or.inr e)) Or.inr).trans (KQ.mono (T:=fun x=>x=b∨uv.ownBlock=some x) fun k _ hk=>Or.inl hk));have Uo:ag (∀g,(dq (some ⟨g',0,none⟩) (U+1) cap').ownBlock=some g→uv.ownBlock=some g∨w.heap.size≤g):=ae fun g hg=>by
      have hgg:some g'=some g:=hg;injection hgg with hgg
      rcases P4.out with h|h
      ·exact hub.out g (hgg▸h)
      ·exact Or.inr (by omega)
     rw[←hW];clear hW KQ OQ RB hUn R15 O15 mE fX P4 JR mF jd lk IC Ul Um CV p0 p1 p3 r0 r1 r2 s0 s1 s2 s3 s4 s5 n0 n1 n2 n3 n4 n5 d0 d1 d3 q0 q1 q2 c0 c1 c3 t0 t1 t2 m0 m1 m2 m3 m4 m5 pz hHeld eD P8;have hmore:=Un.out.more;have hR:=P9.out;by_cases hend:k'+1<ws.length
     ·rw[decide_eq_true hend]at hmore;have mO:=ae hmore;clear hmore hR;go_wp2_with(go_at_call 214;refine mO.out.mono ?_;rintro r w16⟨rfl,jV⟩)
      obtain⟨ri,xM,JS,xN⟩:=cU (Un.out.below jV) (own_below Zz.out jV) (Zy.out.below jV) (ZA.out.trans (Keeps.of_below jV fun k hk _=>hk));clear Un Zz Zy ZA;go_roundw
      case rel=>exact⟨k'+1,acc++[(⟨x1,x2,⟨⟨x3,x4,x5⟩,x6⟩⟩,k')],A2,cap2,_,by rw[aj,←HL.out];rfl,by omega,ae fun _=>hend,by rw[aj,←HL.out];simp;omega,ri,xN,ae (by rw[aj,←HL.out,cL,ahM,kh];exact xM.out),JS,Uo,P9⟩
      case measure=>
       rw[ri.out.next,Ai.out];omega
     ·rw[decide_eq_false hend]at hmore;have mO:=ae hmore;rw[AH aR (by simp)]at hR;have dS:=ae hR;clear hmore hR;go_wp2_with(go_at_call 214;refine mO.out.mono ?_;rintro r w16⟨rfl,jV⟩)
      obtain⟨ri,xM,JS,xN⟩:=cU (Un.out.below jV) (own_below Zz.out jV) (Zy.out.below jV) (ZA.out.trans (Keeps.of_below jV fun k hk _=>hk));clear Un Zz Zy ZA;refine bodyPost_ret (results_tmp rfl _ _ _) rfl ⟨xN.out,fq.good dS.out ⟨_,_,rfl,?_,?_,JS.out,Uo.out,by rw[aj,←HL.out];simp;omega⟩⟩
      ·simp only;rw[aj,←HL.out,cL,ahM,kh];exact xM.out
      ·simp only[List.length_nil];rw[show ws.length-0=k'+1 by omega];exact ri.out
   |false=>
    clear hcond;cases o with
    |none=>
     have xK:=ae (FT hsel);clear hsel;have hR:=HR.out;simp only at hR;have HRn:=ae hR;clear hR HR;go_upto_region 6 with(go_at_call 240;refine xK.out.mono ?_;rintro r w3⟨⟨x1,x2,x3,x4,x5,x6,rfl⟩,d3⟩)
     have d4:=after d3 (boxed w3 (.cells #[.int .u8 x1,.string x2,.bool x3,.int .u64 x4,.int .u64 x5,.int .u8 x6] 217));generalize w3.alloc (.cells #[.int .u8 x1,.string x2,.bool x3,.int .u64 x4,.int .u64 x5,.int .u8 x6] 217)=w4 at d4⊢;obtain⟨FW,zi⟩:=aL (rc.out.below d4) (CU.out.trans (Keeps.of_below d4 fun k hk _=>hk));clear rc CU;clear d4 d3 xK;have hun:=FW.out.unless aR aR false 195;rw[eC hlt]at hun;have kr:ag (Calls ah 162 #[.pointer (some ⟨b,0,none⟩),.bool false,.int .i64 195] w4 fun r w'=>r=aT 195 n k'∧aW w4 w'):=ae hun;clear hun;go_wp2_with(go_at_call 162;refine kr.out.mono ?_;rintro r w5⟨rfl,d5⟩;unfold aT)
     exact⟨rfl,zi.out.trans (Keeps.of_below d5 fun k hk _=>hk),fq.bad HRn.out⟩
    |some X=>
     have hR:=HR.out;simp only at hR;obtain⟨x1,x2,⟨⟨x3,x4,x5⟩,x6⟩⟩:=X;have xK:ag (Calls ah 240 #[.string wd] w2 (Got (.tuple #[.agg #[.int .u8 x1,.string x2,.bool x3,.int .u64 x4,.int .u64 x5,.int .u8 x6],.bool true]) w2)):=ae (FU hsel);clear hsel;have HRn:=ae hR;clear hR HR;go_upto_region 6 with(go_at_call 240;refine xK.out.mono ?_;rintro r w3⟨rfl,d3⟩)
     have d4:=after d3 (boxed w3 (.cells #[.int .u8 x1,.string x2,.bool x3,.int .u64 x4,.int .u64 x5,.int .u8 x6] 217));have M4:=ae (aH.new w3 217 #[.int .u8 x1,.string x2,.bool x3,.int .u64 x4,.int .u64 x5,.int .u8 x6]);have EJ:=d3.size;generalize w3.alloc (.cells #[.int .u8 x1,.string x2,.bool x3,.int .u64 x4,.int .u64 x5,.int .u8 x6] 217)=w4 at d4 M4⊢;generalize w3.heap.size=M at EJ M4⊢;have hOM:∀g,(dq A L cap).ownBlock=some g→g<M:=fun g hg=>by have:=(OW2.out.lt g hg).2;omega
     obtain⟨HOM,FW,OW4,Uk,zi⟩:=eB hOM (rc.out.below d4) (own_below OW2.out d4) (Zv.out.below d4) (CU.out.trans (Keeps.of_below d4 fun k hk _=>hk));clear rc OW2 Zv CU;clear d4 d3 xK hOM;have hun:=FW.out.unless aR aR true 195;have kr:ag (Calls ah 162 #[.pointer (some ⟨b,0,none⟩),.bool true,.int .i64 195] w4 fun r w'=>r=.returned (.tuple #[])∧aW w4 w'):=ae hun;clear hun;go_upto_region 7 with(go_at_call 162;refine kr.out.mono ?_;rintro r w5⟨rfl,d5⟩)
     obtain⟨rf,OW5,Zw,ID,M5⟩:=eB (FW.out.below d5) (own_below OW4.out d5) (Uk.out.below d5) (zi.out.trans (Keeps.of_below d5 fun k hk _=>hk)) (M4.out.below d5 M4.out.lt);clear FW OW4 Uk zi M4;clear d5 kr;have hro:=rf.out.room aR aR L;rw[eC hlt]at hro;have rh:=ae hro;clear hro;by_cases h64:64≤L
     ·have hR:=HRn.out;rw[←HL.out,if_pos h64]at hR;rw[decide_eq_false aR]at rh;have nG:ag (Calls ah 211 #[.pointer (some ⟨b,0,none⟩),.int .i64 L] w5 fun r w'=>r=aT 198 n k'∧aW w5 w'):=rh;have P9:=ae hR;clear rh hR HRn h64;go_wp2_with(go_at_call 211;refine nG.out.mono ?_;rintro r w6⟨rfl,d6⟩;unfold aT)
      exact⟨rfl,ID.out.trans (Keeps.of_below d6 fun k hk _=>hk),fq.bad P9.out⟩
     have hR:=HRn.out;rw[←HL.out,if_neg h64]at hR;rw[decide_eq_true aR]at rh;have nG:ag (Calls ah 211 #[.pointer (some ⟨b,0,none⟩),.int .i64 L] w5 fun r w'=>r=.returned (.tuple #[])∧aW w5 w'):=rh;have P9:=ae hR;clear rh hR HRn;go_upto_region 8 with(go_at_call 211;refine nG.out.mono ?_;rintro r w6⟨rfl,d6⟩)
     obtain⟨FX,Zx,US6,MY,M6⟩:=eB (rf.out.below d6) (own_below OW5.out d6) (Zw.out.below d6) (ID.out.trans (Keeps.of_below d6 fun k hk _=>hk)) (M5.out.below d6 M5.out.lt);clear rf OW5 Zw ID M5;clear d6 nG;obtain⟨m0,m1,m2,m3,m4,m5⟩:=zl M6;have hwb:=MY.out.size;go_upto_region 9 with(at_builtin;refine wpList_append_own _ rfl _ _ 282 rfl w.heap.size 217 i0 (.agg #[.int .u8 0,aG,.bool false,.int .u64 0,.int .u64 0,.int .u8 0]) 6 56 Tryz.underlying282 hi hz0 hz1 hz2 rfl aJ _ L _ rfl (Zx.out.alloc _) ⟨w6.heap.size,0,none⟩ 1 1 [.int .u8 x1,.string x2,.bool x3,.int .u64 x4,.int .u64 x5,.int .u8 x6] rfl rfl (cS w6 [.int .u8 x1,.string x2,.bool x3,.int .u64 x4,.int .u64 x5,.int .u8 x6] 217) (by intro u hu;simp at hu;rcases hu with rfl|rfl|rfl|rfl|rfl|rfl<;>rfl) (by unfold maxLen;omega) aR (by simp;omega) ?_;intro v' w7 hown' hgrow hnil)
     have zh:=Keeps.row hgrow;have Qa:=cG (Zx.out.alloc (.cells #[.int .u8 x1,.string x2,.bool x3,.int .u64 x4,.int .u64 x5,.int .u8 x6] 217));have pX:=ae ((FX.out.alloc _).off zh Qa aJ aJ);have Yi:=ae ((US6.out.below (boxed w6 _)).off zh Qa aJ);have M7:=ae ((M6.out.alloc _).grown hgrow (fun e=>by have:=HOM.out M e.symm;omega));have EI:=ae (Keeps.grown (MY.out.alloc _) hgrow fun k hk=>Or.inr (Zx.out.lt k hk).1);obtain⟨A2,cap2,rfl⟩:=aX hown';have OW7:=ae hown';have agr:w.heap.size≤w7.heap.size:=EI.out.size;clear zh Qa hgrow hnil hown' FX US6 M6 MY Zx HOM m0 m1 m2 m3 m4 m5 hwb;obtain⟨gw,JP,rfl,aeA,⟨ags,hgW⟩,hcw⟩:=pX.out.row.shape pX.out.ne;obtain⟨xs,hxs,MZ⟩:=Yi.out;obtain⟨Au,JQ,rfl⟩:=aX MZ;obtain⟨U,hU⟩:=bw ((us++kR n acc).length);rw[←hU]at MZ hub;have hU1:U≤4000100:=by rw[hU,aj];unfold kR;rw[ay];have:=HL.out;omega
     obtain⟨c0,c1,c3⟩:=pX.out.xJ;rw[←hU]at c3;obtain⟨t0,t1,t2⟩:=pX.out.word Hs.out;obtain⟨m0,m1,m2,m3,m4,m5⟩:=zl M7;have i1:IntKind.i64.wrap (k':Int)=(k':Int):=by have:=HWl.out;rw[ah4];omega
     have i2:(k':Int)<(ws.length:Int):=by omega
     obtain⟨jP,eD⟩:=bw ((w7.alloc (.cells #[.int .u8 x1,.string x2,.bool x3,.int .u64 x4,.int .u64 x5,.int .u8 x6,.string wd,.int .i64 n,.int .i64 k'] 221)).drew);have mF:ag (jP.ownsRow w0.heap.size 221 9 (.slice Au U JQ) U (gd xs)):=ae (by rw[eD];exact MZ.alloc _);have jd:ag (∀j u,[.int .u8 x1,.string x2,.bool x3,.int .u64 x4,.int .u64 x5,.int .u8 x6,.string wd,.int .i64 n,.int .i64 k'][j]? =some u→jP.cell? ((⟨w7.heap.size,0,none⟩:Addr).add j)=some u):=ae (by rw[eD];exact cS w7 [.int .u8 x1,.string x2,.bool x3,.int .u64 x4,.int .u64 x5,.int .u8 x6,.string wd,.int .i64 n,.int .i64 k'] 221);have lk:ag (Rs jP b P (k'+1) n (.slice (some ⟨gw,0,none⟩) ws.length JP) (.slice Au U JQ) ws):=ae (by rw[eD,hU];exact⟨(pX.out.alloc _).blk,(pX.out.alloc _).row,pX.out.ne,pX.out.len,pX.out.sizes⟩);have IC:ag (Keeps (fun x=>x=b∨uv.ownBlock=some x) w jP):=ae (by rw[eD];exact(EI.out.alloc _).drew);have Ul:ag (jP.ownsRow w.heap.size 217 6 (.slice A2 (L+1) cap2) (L+1) _):=ae (by rw[eD];exact OW7.out.alloc _);have P8:jP.heap.size=w7.heap.size+1:=by rw[eD];simp
     have hb8:aW w7 jP:=by rw[eD];have q:=boxed w7 (.cells #[.int .u8 x1,.string x2,.bool x3,.int .u64 x4,.int .u64 x5,.int .u8 x6,.string wd,.int .i64 n,.int .i64 k'] 221);exact⟨q.os,q.tape,q.output,q.size,q.block⟩
     obtain⟨d0,d1,d3⟩:=lk.out.xJ;obtain⟨q0,q1,q2⟩:=lk.out.word Hs.out;have Um:=ae (M7.out.below hb8 M7.out.lt);obtain⟨n0,n1,n2,n3,n4,n5⟩:=zl Um;obtain⟨JR,HU1⟩:=aL hxs hU;clear hxs MZ hU pX EI M7 OW7 hgW hcw hb8 Yi;rw[eD]at mF jd d0 d1 d3 q0 q1 q2 n0 n1 n2 n3 n4 n5;refine dW 22 (fun w'=>w'.cell? ⟨b,0,none⟩=some (.slice (some ⟨gw,0,none⟩) ws.length JP)∧w'.cell? ⟨b,1,none⟩=some (.int .i64 ((k'+1:Nat):Int))∧w'.cell? ⟨b,3,none⟩=some (.slice Au U JQ)∧w'.cell? ⟨gw,k'*3,none⟩=some (.string wd)∧w'.cell? ⟨gw,k'*3+1,none⟩=some (.int .i64 n)∧w'.cell? ⟨gw,k'*3+2,none⟩=some (.int .i64 k')∧w'.cell? ⟨M,0,none⟩=some (.int .u8 x1)∧w'.cell? ⟨M,1,none⟩=some (.string x2)∧w'.cell? ⟨M,2,none⟩=some (.bool x3)∧w'.cell? ⟨M,3,none⟩=some (.int .u64 x4)∧w'.cell? ⟨M,4,none⟩=some (.int .u64 x5)∧w'.cell? ⟨M,5,none⟩=some (.int .u8 x6)) bo (⟨c0,c1,c3,t0,t1,t2,m0,m1,m2,m3,m4,m5⟩) (fun hHeld=>?_);refine dT 0 ?_
     refine dT 1 ?_
     refine dT 2 ?_
     refine dT 3 ?_
     refine dT 4 ?_
     refine dT 5 ?_
     refine dT 6 ?_
     refine dT 7 ?_
     refine dT 8 ?_
     refine dT 9 ?_
     refine dT 10 ?_
     refine dT 11 ?_
     refine dT 12 ?_
     refine dT 13 ?_
     refine dT 14 ?_
     refine dT 15 ?_
     refine dT 16 ?_
     refine dT 17 ?_
     refine np 18 fun K hK=>?_;go_simp
     skip
     refine hK.out _ _ (fun _=>⟨d0,d1,d3,q0,q1,q2,n0,n1,n2,n3,n4,n5⟩) (fun hHeld=>?_);have hHeld:=hHeld aJ;clear hK K;try simp only[ck]
     refine np 19 fun K hK=>?_;refine step_append_lies _ (by rfl) _ _ _ (by rfl) w0.heap.size 221 j0 (.agg #[.int .u8 0,aG,.bool false,.int .u64 0,.int .u64 0,.int .u8 0,aG,.int .i64 0,.int .i64 0]) 9 88 Tryz.underlying205 hj hj0 hj1 hj2 rfl aJ _ U _ (by rfl) mF.out ⟨w7.heap.size,0,none⟩ 1 1 [.int .u8 x1,.string x2,.bool x3,.int .u64 x4,.int .u64 x5,.int .u8 x6,.string wd,.int .i64 n,.int .i64 k'] (by rfl) rfl jd.out (by intro u hu;simp at hu;rcases hu with rfl|rfl|rfl|rfl|rfl|rfl|rfl|rfl|rfl<;>rfl) aJ (by unfold maxLen;omega) aR (by simp;omega) (w7.heap.size+1) (by simp) ?_;intro g' cap' qZ hown' hgrow hat nD;rw[←eD]at hgrow mF;have R15:=ae (lk.out.off (Keeps.row hgrow) (cG mF.out) aJ aJ);have O15:=ae (bn Ul.out (Keeps.row hgrow) (cG mF.out) aJ);obtain⟨p0,p1,p3⟩:=R15.out.xJ;obtain⟨r0,r1,r2⟩:=R15.out.word Hs.out;have CV:=Um.out.off (Keeps.row hgrow) (cG mF.out) aJ;have s0:=CV.cell 0;have s1:=CV.cell 1;have s2:=CV.cell 2;have s3:=CV.cell 3;have s4:=CV.cell 4;have s5:=CV.cell 5;simp at s0 s1 s2 s3 s4 s5;have pz:=R15.out.blk.frozen 3;obtain⟨mE,fX,P4⟩:=bz hown' hgrow hat;clear hown' hgrow hat nD;refine hK.out _ _ (fun _=>⟨p0,p1,p3,r0,r1,r2,s0,s1,s2,s3,s4,s5⟩) (fun hHeld=>?_);have hHeld:=hHeld aJ;clear hK K;try simp only[ck]
     refine np 20 fun K hK=>?_;go_simp;refine hK.out _ _ (fun _=>hHeld) (fun hHeld=>?_);have hHeld:=hHeld aJ;clear hK K;try simp only[ck]
     refine dT 21 ?_
     refine np 22 fun K hK=>?_;go_simp;refine hK.out _ _ (fun h=>absurd rfl h) (fun _=>?_);clear hK K hHeld;try simp only[ck]
     refine OU ?_;go_upto_region 10 with fail
     obtain⟨W,hW⟩:=bw (qZ.setCell ⟨b,3,none⟩ (.slice (some ⟨g',0,none⟩) (U+1) cap'));have KQ:Keeps (fun x=>x=b) qZ W:=by rw[hW];exact(Keeps.refl (fun x=>x=b) qZ).setCell (p:=⟨b,3,none⟩) (Or.inl rfl) _
     have OQ:Off (fun x=>x=b) qZ [207]:=fun k hk=>⟨_,_,_,by subst hk;exact R15.out.blk,by simp⟩
     have RB:RdB W b (.slice (some ⟨gw,0,none⟩) ws.length JP) (k'+1) P (.slice (some ⟨g',0,none⟩) (U+1) cap'):=by rw[hW];exact R15.out.blk.aM 3 _
     have Un:=ae (R15.out.step KQ RB);have hUn:kR n (acc++[(⟨x1,x2,⟨⟨x3,x4,x5⟩,x6⟩⟩,k')])=kR n acc++[(⟨x1,x2,⟨⟨x3,x4,x5⟩,x6⟩⟩,n,k')]:=by simp[kR]
     have Zy:ag (fp W w0.heap.size (.slice (some ⟨g',0,none⟩) (U+1) cap') (us++kR n (acc++[(⟨x1,x2,⟨⟨x3,x4,x5⟩,x6⟩⟩,k')]))):=by
      refine ae ⟨xs++[((⟨x1,x2,⟨⟨x3,x4,x5⟩,x6⟩⟩,n,k'),wd)],?_,?_⟩
      ·rw[cL,JR.out,hUn,aO];rfl
      ·rw[hUn,←aO,aj,←HU1.out,rR];exact bn mE.out KQ OQ (by decide)
     have Zz:=ae (bn O15.out KQ OQ aJ);have ZA:=ae ((Keeps.grown IC.out fX.out fun k hk=>(hub.out k hk).elim (fun e=>Or.inl (Or.inr e)) Or.inr).trans (KQ.mono (T:=fun x=>x=b∨uv.ownBlock=some x) fun k _ hk=>Or.inl hk));have Uo:ag (∀g,(dq (some ⟨g',0,none⟩) (U+1) cap').ownBlock=some g→uv.ownBlock=some g∨w.heap.size≤g):=ae fun g hg=>by
      have hgg:some g'=some g:=hg;injection hgg with hgg
      rcases P4.out with h|h
      ·exact hub.out g (hgg▸h)
      ·exact Or.inr (by omega)
     rw[←hW];clear hW KQ OQ RB hUn R15 O15 mE fX P4 JR mF jd lk IC Ul Um CV p0 p1 p3 r0 r1 r2 s0 s1 s2 s3 s4 s5 n0 n1 n2 n3 n4 n5 d0 d1 d3 q0 q1 q2 c0 c1 c3 t0 t1 t2 m0 m1 m2 m3 m4 m5 pz hHeld eD P8;have hmore:=Un.out.more;have hR:=P9.out;by_cases hend:k'+1<ws.length
     ·rw[decide_eq_true hend]at hmore;have mO:=ae hmore;clear hmore hR;go_wp2_with(go_at_call 214;refine mO.out.mono ?_;rintro r w16⟨rfl,jV⟩)
      obtain⟨ri,xM,JS,xN⟩:=cU (Un.out.below jV) (own_below Zz.out jV) (Zy.out.below jV) (ZA.out.trans (Keeps.of_below jV fun k hk _=>hk));clear Un Zz Zy ZA;go_roundw
      case rel=>exact⟨k'+1,acc++[(⟨x1,x2,⟨⟨x3,x4,x5⟩,x6⟩⟩,k')],A2,cap2,_,by rw[aj,←HL.out];rfl,by omega,ae fun _=>hend,by rw[aj,←HL.out];simp;omega,ri,xN,ae (by rw[aj,←HL.out,cL,ahM,kh];exact xM.out),JS,Uo,P9⟩
      case measure=>
       rw[ri.out.next,Ai.out];omega
     ·rw[decide_eq_false hend]at hmore;have mO:=ae hmore;rw[AH aR (by simp)]at hR;have dS:=ae hR;clear hmore hR;go_wp2_with(go_at_call 214;refine mO.out.mono ?_;rintro r w16⟨rfl,jV⟩)
      obtain⟨ri,xM,JS,xN⟩:=cU (Un.out.below jV) (own_below Zz.out jV) (Zy.out.below jV) (ZA.out.trans (Keeps.of_below jV fun k hk _=>hk));clear Un Zz Zy ZA;refine bodyPost_ret (results_tmp rfl _ _ _) rfl ⟨xN.out,fq.good dS.out ⟨_,_,rfl,?_,?_,JS.out,Uo.out,by rw[aj,←HL.out];simp;omega⟩⟩
      ·simp only;rw[aj,←HL.out,cL,ahM,kh];exact xM.out
      ·simp only[List.length_nil];rw[show ws.length-0=k'+1 by omega];exact ri.out
end Go.Proofs.YtkjaajcpbldjoabGreatDoor
