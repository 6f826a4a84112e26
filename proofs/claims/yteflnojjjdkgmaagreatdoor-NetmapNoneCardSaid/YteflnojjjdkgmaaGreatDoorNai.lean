/- Joined out of: PlN PlO. -/
import Derived.Test.YteflnojjjdkgmaaGreatDoorNah
set_option linter.unusedVariables false
set_option linter.unusedSimpArgs false
set_option maxHeartbeats 16000000
set_option maxRecDepth 100000
open Go.ByteArray renaming toList_eq→bO
open Go.IntKind renaming wrap_i64→afm
open Go.Lib renaming hid→ae
open Go.Proofs.Tryz renaming prog→ag
open Go.RowKit renaming Hid→af
open Go.Value renaming slice→cJ
open List renaming length_append→ai,length_map→ax,append_assoc→aO,drop_eq_getElem_cons→bz,eq_nil_of_length_eq_zero→bF,map_append→cA,drop_eq_nil_of_le→mC,mem_of_getElem?→oK,map_singleton→ae8
namespace Go.Proofs.YteflnojjjdkgmaaGreatDoor
open Go.RowKit
attribute [local go_sem↓] Go.wp_at_zero Go.wp_at_succ
theorem PT{ws:List ByteArray}{told:List Hs}(hne:ws≠[]):sg ws told=if 64≤told.length then .error (198,0)else match ws[1]? with
 |none=>.error (190,ws.length)
 |some nm=>if b8 nm=false then .error (191,1)else if wO told nm=true then .error (197,1)else match ws[2]? with
  |none=>.error (190,ws.length)
  |some e=>if e≠BF then .error (190,2)else match ws[3]? with
   |none=>.error (190,ws.length)
   |some t=>match gn t.data.toList with
    |none=>.error (192,3)
    |some pf=>if 4<ws.length then .error (190,4)else .ok ⟨nm,pf⟩:=by
 unfold sg;by_cases h:64≤told.length
 ·rw[if_pos h,if_pos h]
 rw[if_neg h,if_neg h]
 match ws with
 |[]=>exact absurd rfl hne
 |[a]=>rfl
 |[a,nm]=>rfl
 |[a,nm,e]=>rfl
 |a::nm::e::t::r=>
  simp only[List.getElem?_cons_succ,List.getElem?_cons_zero];cases r with
  |nil=>simp;cases gn t.data.toList<;>rfl
  |cons s r=>simp;cases gn t.data.toList<;>rfl
theorem bK{S:Nat→Prop}{w0 w w':World}(h:Below w0.heap.size w0 w)(hk:Keeps S w w')(hS:∀k,S k→w0.heap.size≤k):Below w0.heap.size w0 w':=h.trans (hk.below hS h.size)
def ZC(w:World)(b P n base:Nat)(lv uv lst:Value)(ws:List ByteArray)(told:List Hs)(pc:Array Value)(w':World)(x:Hs)(r:Ending):Prop:=r=.returned (.tuple #[])∧∃k' lst',Rs w' b P k' n lv uv ws∧aD w' P 179 (pc.setIfInBounds 2 lst')∧w'.ownsRow base 334 5 lst' (told++[x]).length (eC (told++[x]))∧∀g,lst'.ownBlock=some g→lst.ownBlock=some g∨w.heap.size≤g
theorem PU{w0 w:World}(env:Env w0)(hE:Below w0.heap.size w0 w){b P n:Nat}{lv uv lst:Value}{ws:List ByteArray}{told:List Hs}{pc:Array Value}(h:Rs w b P 1 n lv uv ws)(hP:aD w P 179 pc)(hq:pc[2]? =some lst)(hN:w.ownsRow w0.heap.size 334 5 lst told.length (eC told))(hbb:w0.heap.size≤b):Calls ag 224 #[.pointer (some ⟨b,0,none⟩)] w fun r w'=>dU (fun k=>k=b) (fun k=>k=b∨k=P∨lst.ownBlock=some k) w w' (sg ws told) n (ZC w b P n w0.heap.size lv uv lst ws told pc w') r:=by
 obtain⟨A,cap,rfl⟩:=aQ hN;have hlen1:1≤ws.length:=by
  have:=h.ne;cases ws with
  |nil=>exact absurd rfl this
  |cons x r=>simp
 obtain⟨T,hT⟩:∃t,t=told.length:=⟨_,rfl⟩;rw[←hT]at hq hN⊢;have hPb:P≠b:=hP.wH h.blk aF;have c0:=(hP.cell 2).trans hq;have c1:=h.blk.cell 2;simp at c1;have hroom:=h.room aM aM T;rw[show Es 1 ws=0 by unfold Es;rw[if_pos hlen1]]at hroom;obtain⟨RES,dT⟩:∃r,r=sg ws told:=⟨_,rfl⟩;rw[←dT];rw[PT h.ne,←hT]at dT;have hbs:w0.heap.size≤w.heap.size:=hE.size;obtain⟨jw,H,HP,HN,iH,HT,HE,tm⟩:=Y7 hroom h hP hN dT hT hE env;clear hroom h hP hN dT hT hE env;go_enter Tryz.func224,Tryz.ntmps224;go_wp2_with fail
 go_at_call 260;refine jw.out.mono ?_;rintro r w1⟨h1,d1⟩;by_cases Cf:T<64
 case neg=>
  rw[decide_eq_false Cf]at h1;unfold eI at h1;subst h1;unfold aL;exact⟨rfl,dU.bad (Keeps.of_below d1 fun k hk _=>hk) (by rw[iH.out,if_pos aM])⟩
 rw[decide_eq_true Cf]at h1;unfold eI at h1;subst h1;obtain⟨H1,lF,j8,oS⟩:=cH (H.out.below d1) (HP.out.below d1 HP.out.lt) (own_below HN.out d1) (Keeps.of_below (S:=fun x=>x=b) d1 fun k hk _=>hk);have hR1:=iH.out;rw[if_neg aM]at hR1;have HR1:=ae hR1;clear hR1 iH jw d1 H HP c0 c1;have hname:=H1.out.name aM;unfold pY at hname;have nt:=ae hname;clear hname;go_wp2_with fail
 go_at_call 261;refine nt.out.mono ?_;rintro r w2⟨⟨d2,e2⟩,h2⟩;have kE:=ae (oS.out.trans d2);cases hs1:ws[1]? with
 |none=>
  rw[hs1]at h2;simp only at h2;subst h2;unfold aL;have hR:=HR1.out;rw[hs1]at hR;exact⟨rfl,dU.bad (kE.out) hR⟩
 |some nm=>
 rw[hs1]at h2;simp only at h2;have hR2:=HR1.out;rw[hs1]at hR2;simp only at hR2;by_cases hlab:b8 nm=true
 case neg=>
  have hlf:b8 nm=false:=by simpa using hlab
  rw[if_neg hlab]at h2;subst h2;unfold aL;rw[if_pos hlf]at hR2;exact⟨rfl,dU.bad (kE.out) hR2⟩
 rw[if_pos hlab]at h2;subst h2;rw[if_neg (by simp[hlab])]at hR2;obtain⟨HR2,H2,HP2⟩:=bj hR2 e2 (lF.out.keep d2 hPb);have OB1:Off (fun x=>x=b) w1 [235]:=fun k hk=>⟨_,_,_,by subst hk;exact H1.out.blk,by simp⟩
 have mP:=ae (aX j8.out d2 OB1 aF);clear hR2 HR1 nt j8 lF H1 oS e2 d2 hlab OB1;go_wp2_with fail
 have hB3:=ae (aD.new w2 334 #[.string nm,.bool false,.int .u64 0,.int .u64 0,.int .u8 0]);have hb3:=boxed w2 (.cells #[.string nm,.bool false,.int .u64 0,.int .u64 0,.int .u8 0] 334);obtain⟨H3,fX,x9,iY⟩:=cH (H2.out.below hb3) (HP2.out.alloc (.cells #[.string nm,.bool false,.int .u64 0,.int .u64 0,.int .u8 0] 334)) (own_below mP.out hb3) (kE.out.alloc (.cells #[.string nm,.bool false,.int .u64 0,.int .u64 0,.int .u8 0] 334));have hsz3:w2.heap.size<(w2.alloc (.cells #[.string nm,.bool false,.int .u64 0,.int .u64 0,.int .u8 0] 334)).heap.size:=by simp
 have Zz:w.heap.size≤w2.heap.size:=kE.out.size;clear H2 HP2 mP kE hb3;generalize w2.alloc (.cells #[.string nm,.bool false,.int .u64 0,.int .u64 0,.int .u8 0] 334)=w3 at hB3 H3 fX x9 iY hsz3⊢;generalize w2.heap.size=N at hB3 hsz3 Zz⊢;have hNb:N≠b:=hB3.out.wH H3.out.blk aF;have hNP:N≠P:=hB3.out.wH fX.out aF;have HAN:=ae fun g hg=>(HN.out.lt g hg).2
 have hhas:=sB (w:=w3.drew) told (by have:=HT.out;omega) _ (aW.Vs (show w3.drew.ownsRow _ _ _ _ _ _ from x9.out) HT.out.symm) nm;have x0:=(fX.out.cell 2).trans hq;have x1:=hB3.out.cell 0;have x2:=H3.out.blk.cell 2;simp at x1 x2;have hun:=fun W(hW:Rs W b P (1+1) n lv uv ws)(is:Bool)=>hW.unless aM aM is 197
 rw[dH (by have:=(List.getElem?_eq_some_iff.1 hs1).1;omega)]at hun;have rr:af (Calls ag 228 #[.slice A T cap,.string nm] w3.drew (Got (.bool (wO told nm)) w3.drew)):=ae hhas;have jf:=ae hun;clear hhas hun;by_cases hh:wO told nm=true
 ·rw[hh]at rr;have hR:=HR2.out;rw[if_pos hh]at hR;have HR:=ae hR;have zf:af (∀(W:World),Rs W b P (1+1) n lv uv ws→Calls ag 177 #[.pointer (some ⟨b,0,none⟩),.bool false,.int .i64 197] W fun r w'=>r=aL 197 n 1∧Below W.heap.size W w'):=ae fun W hW=>jf.out W hW false
  clear hR hh HR2 jf;refine wp_region_held_drew (S:=(fun w'=>w'.cell? ⟨b,2,none⟩=some (.pointer (some ⟨P,0,none⟩))∧w'.cell? ⟨P,2,none⟩=some (.slice A T cap)∧w'.cell? ⟨N,0,none⟩=some (.string nm))) bg (⟨x2,x0,x1⟩) (fun hHeld=>?_);refine bm 0 ?_
  refine bm 1 ?_
  refine bm 2 ?_
  refine bm 3 ?_
  refine bm 4 ?_
  refine bm 5 ?_
  refine bm 6 ?_
  refine bm 7 ?_
  refine bm 8 ?_
  refine bm 9 ?_
  refine jk 10 fun K hK=>?_;go_simp;refine rr.out.mono ?_;rintro r w4⟨rfl,d4⟩;have e4:Below w3.heap.size w3 w4:=⟨d4.os,d4.tape,d4.output,d4.size,d4.block⟩;have y0:=((fX.out.below e4 fX.out.lt).cell 2).trans hq;have y1:=(hB3.out.below e4 hB3.out.lt).cell 0;have y2:=(H3.out.below e4).blk.cell 2;simp at y1 y2;refine hK.out _ _ (⟨y2,y0,y1⟩) (fun hHeld=>?_);clear hK K;try simp only[cq]
  refine bm 11 ?_
  refine jk 12 fun K hK=>?_;go_simp;refine(zf.out _ (H3.out.below e4)).mono ?_;rintro r w5⟨rfl,d5⟩;unfold aL;exact⟨rfl,dU.bad (((iY.out.trans (Keeps.of_below e4 fun k hk _=>hk)).trans (Keeps.of_below d5 fun k hk _=>hk))) HR.out⟩
 have hhf:wO told nm=false:=by simpa using hh
 rw[hhf]at rr;have hR:=HR2.out;rw[if_neg hh]at hR;have HR:=ae hR;have zf:af (∀(W:World),Rs W b P (1+1) n lv uv ws→Calls ag 177 #[.pointer (some ⟨b,0,none⟩),.bool true,.int .i64 197] W fun r w'=>r=.returned (.tuple #[])∧Below W.heap.size W w'):=ae fun W hW=>jf.out W hW true
 clear hR hh hhf HR2 jf;refine wp_region_held_drew (S:=(fun w'=>w'.cell? ⟨b,2,none⟩=some (.pointer (some ⟨P,0,none⟩))∧w'.cell? ⟨P,2,none⟩=some (.slice A T cap)∧w'.cell? ⟨N,0,none⟩=some (.string nm))) bg (⟨x2,x0,x1⟩) (fun hHeld=>?_);refine bm 0 ?_
 refine bm 1 ?_
 refine bm 2 ?_
 refine bm 3 ?_
 refine bm 4 ?_
 refine bm 5 ?_
 refine bm 6 ?_
 refine bm 7 ?_
 refine bm 8 ?_
 refine bm 9 ?_
 refine jk 10 fun K hK=>?_;go_simp;refine rr.out.mono ?_;rintro r w4⟨rfl,d4⟩;have e4:Below w3.heap.size w3 w4:=⟨d4.os,d4.tape,d4.output,d4.size,d4.block⟩;have y0:=((fX.out.below e4 fX.out.lt).cell 2).trans hq;have y1:=(hB3.out.below e4 hB3.out.lt).cell 0;have y2:=(H3.out.below e4).blk.cell 2;simp at y1 y2;refine hK.out _ _ (⟨y2,y0,y1⟩) (fun hHeld=>?_);clear hK K;try simp only[cq]
 refine bm 11 ?_
 refine jk 12 fun K hK=>?_;go_simp;refine(zf.out _ (H3.out.below e4)).mono ?_;rintro r w5⟨rfl,d5⟩;have e5:=after e4 d5;have z0:=((fX.out.below e5 fX.out.lt).cell 2).trans hq;have z1:=(hB3.out.below e5 hB3.out.lt).cell 0;have z2:=(H3.out.below e5).blk.cell 2;simp at z1 z2;refine hK.out _ _ (⟨z2,z0,z1⟩) (fun hHeld=>?_);clear hK K;try simp only[cq]
 refine qR ?_;obtain⟨H5,EA,mO,ZA,Bc⟩:=dR (H3.out.below e5) (fX.out.below e5 fX.out.lt) (hB3.out.below e5 hB3.out.lt) (own_below x9.out e5) (iY.out.trans (Keeps.of_below e5 fun k hk _=>hk));have hsz5:w3.heap.size≤w5.heap.size:=e5.size;clear H3 fX hB3 x9 iY e4 e5 d5 d4 y0 y1 y2 z0 z1 z2 x0 x1 x2 hHeld rr zf;have fZ:=H5.out.must (by have:=(List.getElem?_eq_some_iff.1 hs1).1;omega) BF;unfold oP at fZ;have ko:af (Calls ag 262 #[.pointer (some ⟨b,0,none⟩),.string ⟨#[61]⟩] w5 _):=ae fZ;clear fZ;go_wp2_with fail
 go_at_call 262;refine ko.out.mono ?_;rintro r w6⟨⟨d6,e6⟩,h6⟩;have ru:=ae (Bc.out.trans d6);have gk:=HR.out;cases hs2:ws[2]? with
 |none=>
  rw[show 1+1=2 from rfl,hs2]at h6;simp only at h6;subst h6;unfold aL;rw[hs2]at gk;exact⟨rfl,dU.bad (ru.out) gk⟩
 |some eq=>
 rw[show 1+1=2 from rfl,hs2]at h6;rw[hs2]at gk;simp only at h6 gk;by_cases heq:eq=BF
 case neg=>
  rw[if_neg heq]at h6;subst h6;unfold aL;rw[if_pos heq]at gk;exact⟨rfl,dU.bad (ru.out) gk⟩
 rw[if_pos heq]at h6;rw[if_neg (by simp[heq])]at gk;subst h6;have hlen3:3≤ws.length:=by have:=(List.getElem?_eq_some_iff.1 hs2).1;omega
 obtain⟨B8,H6,Vz,jH⟩:=cH gk e6 (EA.out.keep d6 hPb) (mO.out.keep d6 hNb);have OB5:Off (fun x=>x=b) w5 [235]:=fun k hk=>⟨_,_,_,by subst hk;exact H5.out.blk,by simp⟩
 have HN6:=ae (aX ZA.out d6 OB5 aF);clear ko gk HR Bc EA mO ZA H5 d6 e6 hs1 hs2 heq OB5;have htake:=H6.out.take hlen3;unfold gZ at htake;have jy:=ae htake;clear htake;go_wp2_with fail
 go_at_call 176;refine jy.out.mono ?_;rintro r w7⟨⟨d7,e7⟩,h7⟩;have wJ:=ae (ru.out.trans d7);have UC:=B8.out;cases hs3:ws[3]? with
 |none=>
  rw[show 1+1+1=3 from rfl,hs3]at h7;simp only at h7;subst h7;unfold aL;rw[hs3]at UC;exact⟨rfl,dU.bad (wJ.out) UC⟩
 |some t=>
 rw[show 1+1+1=3 from rfl,hs3]at h7;rw[hs3]at UC;simp only at h7 UC;subst h7;have abH:3<ws.length:=(List.getElem?_eq_some_iff.1 hs3).1;have hts:t.size≤2000000:=H6.out.sizes t (oK hs3);obtain⟨H7,ZD,tK⟩:=bj e7 (Vz.out.keep d7 hPb) (jH.out.keep d7 hNb);have ZE:Off (fun x=>x=b) w6 [235]:=fun k hk=>⟨_,_,_,by subst hk;exact H6.out.blk,by simp⟩
 have HN7:=ae (aX HN6.out d7 ZE aF);have hE7:=bK HE.out wJ.out (fun k hk=>by subst hk;exact hbb);have hrd:=nj (tm.out.below hE7) t hts;clear jy B8 ru Vz jH HN6 H6 d7 e7 hs3 ZE hE7;cases hp:gn t.data.toList with
 |none=>
  rw[hp]at hrd UC;have kn:af (Calls ag 264 #[.string t] w7 (Got (.tuple #[.agg #[.bool false,.int .u64 0,.int .u64 0,.int .u8 0],.int .i64 8]) w7)):=ae hrd;have Ci:=ae UC;clear hrd UC hp;go_upto_region 5 with(go_at_call 264;(with_reducible refine kn.out.mono ?_);rintro r w8⟨rfl,d8⟩)
  have d9:=after d8 (boxed w8 (.cells #[.bool false,.int .u64 0,.int .u64 0,.int .u8 0] 243));have hun:=(H7.out.below d9).unless aM aM false 192;rw[show Es (1+1+1+1) ws=3 from dH abH]at hun;have jf:af (Calls ag 177 #[.pointer (some ⟨b,0,none⟩),.bool false,.int .i64 192] (w8.alloc (.cells #[.bool false,.int .u64 0,.int .u64 0,.int .u8 0] 243)) fun r w'=>r=aL 192 n 3∧Below _ _ w'):=ae hun;have HD:=ae d9;clear hun d9 d8;go_wp2_with(go_at_call 177;(with_reducible refine jf.out.mono ?_);rintro r w9⟨rfl,d9⟩;unfold aL)
  exact⟨rfl,dU.bad ((wJ.out.trans (Keeps.of_below (after HD.out d9) fun k hk _=>hk))) Ci.out⟩
 |some pf=>
 obtain⟨⟨a1,a2,a3⟩,a4⟩:=pf;rw[hp]at hrd UC;have kn:af (Calls ag 264 #[.string t] w7 (Got (.tuple #[.agg #[.bool a1,.int .u64 a2,.int .u64 a3,.int .u8 a4],.int .i64 0]) w7)):=ae hrd;have Ci:=ae UC;clear hrd UC hp;go_upto_region 5 with(go_at_call 264;(with_reducible refine kn.out.mono ?_);rintro r w8⟨rfl,d8⟩)
 have d9:=after d8 (boxed w8 (.cells #[.bool a1,.int .u64 a2,.int .u64 a3,.int .u8 a4] 243));have Yx:=aD.new w8 243 #[.bool a1,.int .u64 a2,.int .u64 a3,.int .u8 a4];have hMs:w8.heap.size<(w8.alloc (.cells #[.bool a1,.int .u64 a2,.int .u64 a3,.int .u8 a4] 243)).heap.size:=by simp
 have hM8:=d8.size;generalize w8.alloc (.cells #[.bool a1,.int .u64 a2,.int .u64 a3,.int .u8 a4] 243)=w9 at d9 Yx hMs⊢;generalize w8.heap.size=M at Yx hMs hM8⊢;obtain⟨H9,HP9,ZF,HN9,HK9,Yy⟩:=ox (H7.out.below d9) (ZD.out.below d9 ZD.out.lt) (tK.out.below d9 tK.out.lt) (own_below HN7.out d9) (wJ.out.trans (Keeps.of_below d9 fun k hk _=>hk)) Yx;have hun:=H9.out.unless aM aM true 192;have jf:af (Calls ag 177 #[.pointer (some ⟨b,0,none⟩),.bool true,.int .i64 192] w9 fun r w'=>r=.returned (.tuple #[])∧Below _ _ w'):=ae hun;clear hun d9 d8 Yx H7 ZD tK HN7 wJ;go_upto_region 6 with(go_at_call 177;(with_reducible refine jf.out.mono ?_);rintro r w10⟨rfl,d10⟩)
 obtain⟨H10,abI,uQ,PV,abJ,ZG⟩:=ox (H9.out.below d10) (HP9.out.below d10 HP9.out.lt) (ZF.out.below d10 ZF.out.lt) (Yy.out.below d10 Yy.out.lt) (own_below HN9.out d10) (HK9.out.trans (Keeps.of_below d10 fun k hk _=>hk));have aeH:w.heap.size≤w10.heap.size:=ZG.out.size;clear jf H9 HP9 ZF Yy HN9 HK9 d10;have m0:=PV.out.cell 0;have m1:=PV.out.cell 1;have m2:=PV.out.cell 2;have m3:=PV.out.cell 3;have b1:=uQ.out.cell 1;have b2:=uQ.out.cell 2;have b3:=uQ.out.cell 3;have b4:=uQ.out.cell 4;have z1:=uQ.out.frozen 1;have z2:=uQ.out.frozen 2;have z3:=uQ.out.frozen 3;have z4:=uQ.out.frozen 4;simp at m0 m1 m2 m3 b1 b2 b3 b4;go_upto_region 7 with fail
 obtain⟨qU,VC⟩:∃qU,qU=(((w10.setCell ⟨N,1,none⟩ (.bool a1)).setCell ⟨N,2,none⟩ (.int .u64 a2)).setCell ⟨N,3,none⟩ (.int .u64 a3)).setCell ⟨N,4,none⟩ (.int .u8 a4):=⟨_,rfl⟩;have PW:aD qU N 334 #[.string nm,.bool a1,.int .u64 a2,.int .u64 a3,.int .u8 a4]:=by
  rw[VC];exact(((uQ.out.aN 1 (.bool a1)).aN 2 (.int .u64 a2)).aN 3 (.int .u64 a3)).aN 4 (.int .u8 a4)
 have K11:Keeps (fun x=>x=N) w10 qU:=by
  rw[VC];exact((((Keeps.refl (fun x=>x=N) w10).setCell (p:=⟨N,1,none⟩) (Or.inl rfl) _).setCell (p:=⟨N,2,none⟩) (Or.inl rfl) _).setCell (p:=⟨N,3,none⟩) (Or.inl rfl) _).setCell (p:=⟨N,4,none⟩) (Or.inl rfl) _
 rw[←VC];clear VC m0 m1 m2 m3 b1 b2 b3 b4 z1 z2 z3 z4;have O11:Off (fun x=>x=N) w10 [334]:=fun k hk=>⟨_,_,_,by subst hk;exact uQ.out,by simp⟩
 have H11:=ae (H10.out.off K11 O11 aF aF);have ZH:=ae (abI.out.off K11 O11 aF);have abK:=ae (jd abJ.out K11 fun g hg e=>by have:=HAN.out g hg;omega);have PW:=ae PW;have PX:af (Keeps (fun k=>k=b) w qU):=ae (((ZG.out.mono (T:=fun x=>x=b∨x=N) fun k _ hk=>Or.inl hk).trans (K11.mono fun k _ hk=>Or.inr hk)).mono fun k hk hs=>hs.elim id fun e=>absurd hk aM);have aeI:w.heap.size≤qU.heap.size:=PX.out.size;clear H10 abI uQ PV abJ ZG K11 O11 hMs hM8;have hmore:=ae H11.out.more;by_cases h4:4<ws.length
 ·rw[show decide (1+1+1+1<ws.length)=true from decide_eq_true h4]at hmore;have hR:=Ci.out;rw[if_pos h4]at hR;have HR:=ae hR;clear hR Ci;obtain⟨s4,hs4⟩:∃s,ws[4]? =some s:=⟨_,List.getElem?_eq_getElem h4⟩;go_upto_region 8 with(go_at_call 263;(with_reducible refine hmore.out.mono ?_);rintro r w12⟨rfl,d12⟩)
  have htake:=(H11.out.below d12).take aM;unfold gZ at htake;rw[show 1+1+1+1=4 from rfl,hs4]at htake;have jy:af (Calls ag 176 #[.pointer (some ⟨b,0,none⟩)] w12 fun r w'=>(Keeps (fun x=>x=b) w12 w'∧Rs w' b P (4+1) n lv uv ws)∧r=.returned (.string s4)):=ae htake;have PY:=ae (PX.out.trans (Keeps.of_below d12 fun k hk _=>hk));clear htake d12 PX H11;go_upto_region 9 with(go_at_call 176;(with_reducible refine jy.out.mono ?_);rintro r Cj⟨⟨d13,e13⟩,rfl⟩)
  have hwr:=e13.wrong aM aM 190;rw[dH h4]at hwr;have HWr:af (Calls ag 226 #[.pointer (some ⟨b,0,none⟩),.int .i64 190] Cj fun r w'=>r=aL 190 n 4∧Below _ _ w'):=ae hwr;have adM:=ae (PY.out.trans d13);clear hwr d13 e13 PY;go_wp2_with(go_at_call 226;(with_reducible refine HWr.out.mono ?_);rintro r iZ⟨rfl,kQ⟩;unfold aL)
  exact⟨rfl,dU.bad (adM.out.trans (Keeps.of_below kQ fun k hk _=>hk)) HR.out⟩
 rw[show decide (1+1+1+1<ws.length)=false from decide_eq_false h4]at hmore;have hR:=Ci.out;rw[if_neg h4]at hR;have HR:=ae hR;clear hR Ci;go_upto_region 10 with(go_at_call 263;(with_reducible refine hmore.out.mono ?_);rintro r w12⟨rfl,d12⟩)
 obtain⟨H12,abL,Ln,adN,PY⟩:=dR (H11.out.below d12) (ZH.out.below d12 ZH.out.lt) (PW.out.below d12 PW.out.lt) (own_below abK.out d12) (PX.out.trans (Keeps.of_below d12 fun k hk _=>hk));have Yz:=PY.out.size;clear hmore H11 ZH PW abK PX d12;obtain⟨j0,hj,hj0,hj1,hj2⟩:=info_parts Vu;have x0:=(abL.out.cell 2).trans hq;have x2:=H12.out.blk.cell 2;have u0:=Ln.out.cell 0;have u1:=Ln.out.cell 1;have u2:=Ln.out.cell 2;have u3:=Ln.out.cell 3;have u4:=Ln.out.cell 4;simp at x2 u0 u1 u2 u3 u4;obtain⟨iZ,dI⟩:∃x,x=(w12.alloc (.cells #[.string nm,.bool a1,.int .u64 a2,.int .u64 a3,.int .u8 a4] 334)).drew:=⟨_,rfl⟩;have kG:af (iZ.ownsRow w0.heap.size 334 5 (.slice A T cap) T (eC told)):=ae (by rw[dI];exact adN.out.alloc _);have ic:af (∀j u,[.string nm,.bool a1,.int .u64 a2,.int .u64 a3,.int .u8 a4][j]? =some u→iZ.cell? ((⟨w12.heap.size,0,none⟩:Addr).add j)=some u):=ae (by rw[dI];exact cz w12 [.string nm,.bool a1,.int .u64 a2,.int .u64 a3,.int .u8 a4] 334);have kP:af (aD iZ P 179 pc):=ae (by rw[dI];exact abL.out.alloc _);have uP:af (aD iZ N 334 #[.string nm,.bool a1,.int .u64 a2,.int .u64 a3,.int .u8 a4]):=ae (by rw[dI];exact Ln.out.alloc _);have Lp:af (Rs iZ b P (1+1+1+1) n lv uv ws):=ae (by rw[dI];exact⟨(H12.out.alloc _).blk,(H12.out.alloc _).row,H12.out.ne,H12.out.len,H12.out.sizes⟩);have EB:af (Keeps (fun k=>k=b∨k=P∨(cJ A T cap).ownBlock=some k) w iZ):=ae (by rw[dI];exact((PY.out.mono fun k _ hk=>Or.inl hk).alloc _).drew);have Lq:iZ.heap.size=w12.heap.size+1:=by rw[dI];simp
 have y0:=(kP.out.cell 2).trans hq;have y2:=Lp.out.blk.cell 2;have v0:=uP.out.cell 0;have v1:=uP.out.cell 1;have v2:=uP.out.cell 2;have v3:=uP.out.cell 3;have v4:=uP.out.cell 4;simp at y2 v0 v1 v2 v3 v4;have UB:af (some N≠(cJ A T cap).ownBlock):=ae fun e=>by have:=HAN.out N e.symm;omega
 rw[dI]at kG ic kP uP y0 y2 v0 v1 v2 v3 v4;refine dt 16 (fun w'=>w'.cell? ⟨b,2,none⟩=some (.pointer (some ⟨P,0,none⟩))∧w'.cell? ⟨P,2,none⟩=some (.slice A T cap)∧w'.cell? ⟨N,0,none⟩=some (.string nm)∧w'.cell? ⟨N,1,none⟩=some (.bool a1)∧w'.cell? ⟨N,2,none⟩=some (.int .u64 a2)∧w'.cell? ⟨N,3,none⟩=some (.int .u64 a3)∧w'.cell? ⟨N,4,none⟩=some (.int .u8 a4)) bg (⟨x2,x0,u0,u1,u2,u3,u4⟩) (fun hHeld=>?_);refine dm 0 ?_
 refine dm 1 ?_
 refine dm 2 ?_
 refine dm 3 ?_
 refine dm 4 ?_
 refine dm 5 ?_
 refine dm 6 ?_
 refine dm 7 ?_
 refine dm 8 ?_
 refine dm 9 ?_
 refine dm 10 ?_
 refine dm 11 ?_
 refine lI 12 fun K hK=>?_;go_simp
 skip
 refine hK.out _ _ (fun _=>⟨y2,y0,v0,v1,v2,v3,v4⟩) (fun hHeld=>?_);have hHeld:=hHeld aF;clear hK K;try simp only[cq]
 refine lI 13 fun K hK=>?_;refine step_append_lies _ (by rfl) _ _ _ (by rfl) w0.heap.size 334 j0 (.agg #[.string ⟨#[]⟩,.bool false,.int .u64 0,.int .u64 0,.int .u8 0]) 5 48 Tryz.underlying176 hj hj0 hj1 hj2 rfl aF _ T _ (by rfl) kG.out ⟨w12.heap.size,0,none⟩ 1 1 [.string nm,.bool a1,.int .u64 a2,.int .u64 a3,.int .u8 a4] (by rfl) rfl ic.out (by intro u hu;simp at hu;rcases hu with rfl|rfl|rfl|rfl|rfl<;>rfl) aF (by unfold maxLen;omega) aM (by simp;omega) (w12.heap.size+1) (by simp) ?_;intro g' cap' py hown' hgrow hat lS;have BP:=ae (kP.out.off (Keeps.row hgrow) (bS kG.out) aF);have eZ:=uP.out.grown hgrow UB.out;have p0:=(BP.out.cell 2).trans hq;have pz:=BP.out.frozen 2;have n0:=eZ.cell 0;have n1:=eZ.cell 1;have n2:=eZ.cell 2;have n3:=eZ.cell 3;have n4:=eZ.cell 4;rw[←dI]at hgrow kG;have R15:=ae (Lp.out.off (Keeps.row hgrow) (bS kG.out) aF aF);have p2:=R15.out.blk.cell 2;simp at n0 n1 n2 n3 n4 p2;obtain⟨kF,ff,Lm⟩:=bj hown' hgrow hat;clear hown' hgrow hat lS eZ;refine hK.out _ _ (fun _=>⟨p2,p0,n0,n1,n2,n3,n4⟩) (fun hHeld=>?_);have hHeld:=hHeld aF;clear hK K;try simp only[cq]
 refine lI 14 fun K hK=>?_;go_simp;refine hK.out _ _ (fun _=>hHeld) (fun hHeld=>?_);have hHeld:=hHeld aF;clear hK K;try simp only[cq]
 refine dm 15 ?_
 refine lI 16 fun K hK=>?_;go_simp;refine hK.out _ _ (fun h=>absurd rfl h) (fun _=>?_);clear hK K hHeld;try simp only[cq]
 refine J9 ?_;go_wp2_with fail
 have K2:=(Keeps.grown EB.out ff.out fun k hk=>Or.inl (Or.inr (Or.inr hk))).setCell (p:=⟨P,2,none⟩) (Or.inl (Or.inr (Or.inl rfl))) (.slice (some ⟨g',0,none⟩) (T+1) cap');have KQ:=(Keeps.refl (fun x=>x=P) py).setCell (p:=⟨P,2,none⟩) (Or.inl rfl) (.slice (some ⟨g',0,none⟩) (T+1) cap');have OQ:Off (fun x=>x=P) py [179]:=fun k hk=>⟨_,_,_,by subst hk;exact BP.out,by simp⟩
 have R2:=R15.out.off KQ OQ aF aF;have B2:aD (py.setCell ⟨P,2,none⟩ (.slice (some ⟨g',0,none⟩) (T+1) cap')) P 179 (pc.setIfInBounds 2 (.slice (some ⟨g',0,none⟩) (T+1) cap')):=BP.out.aN 2 _;refine⟨rfl,_,results_none rfl _ _ _,dU.good HR.out K2 ⟨rfl,_,_,R2,B2,?_,?_⟩⟩
 ·rw[ai,←HT.out,ze];exact aX kF.out KQ OQ (by decide)
 ·intro g hg;have hgg:some g'=some g:=hg;injection hgg with hgg
  rcases Lm.out with h|h
  ·exact Or.inl (hgg▸h)
  ·exact Or.inr (by omega)
abbrev ZI:=Except Bad (List (jm×Nat)×List ByteArray)
def mH(en:ByteArray)(ws:List ByteArray)(k:Nat)(acc:List (jm×Nat)):ZI:=(dw en (ws.drop k) k acc.length).map fun x=>(acc++x.1,x.2)
theorem FU(en:ByteArray)(ws:List ByteArray)(k:Nat):mH en ws k []=dw en (ws.drop k) k 0:=by
 unfold mH;simp only[List.length_nil,List.nil_append];cases dw en (ws.drop k) k 0<;>rfl
theorem FV{en:ByteArray}{ws:List ByteArray}{k:Nat}(h:k=ws.length):mH en ws k []=.error (190,ws.length):=by
 subst h;unfold mH;rw[mC (Nat.le_refl _)];rfl
theorem FW{en s:ByteArray}{ws:List ByteArray}{k:Nat}{acc:List (jm×Nat)}(h:ws[k]? =some s)(he:s=en)(ha:acc≠[]):mH en ws k acc=.ok (acc,ws.drop k):=by
 have hk:k<ws.length:=(List.getElem?_eq_some_iff.1 h).1;have hg:ws[k]=s:=(List.getElem?_eq_some_iff.1 h).2;unfold mH;rw[bz hk,hg];unfold dw;rw[if_pos ⟨he,fun e=>ha (bF e)⟩];simp[Except.map]
theorem FX{en s:ByteArray}{ws:List ByteArray}{k:Nat}{acc:List (jm×Nat)}(h:ws[k]? =some s)(hn:¬(s=en∧acc≠[])):mH en ws k acc=match kT s with
 |none=>.error (195,k)
 |some x=>if 64≤acc.length then .error (198,k)else mH en ws (k+1) (acc++[(x,k)]):=by
 have hk:k<ws.length:=(List.getElem?_eq_some_iff.1 h).1;have hg:ws[k]=s:=(List.getElem?_eq_some_iff.1 h).2;unfold mH;rw[bz hk,hg]
 conv=>lhs;unfold dw
 rw[if_neg (fun e=>hn ⟨e.1,fun e2=>e.2 (by rw[e2];rfl)⟩)];cases kT s with
 |none=>rfl
 |some x=>
  simp only;by_cases h2:64≤acc.length
  ·rw[if_pos h2,if_pos h2];rfl
  rw[if_neg h2,if_neg h2,ai,List.length_singleton];cases dw en (List.drop (k+1) ws) (k+1) (acc.length+1)with
  |error e=>rfl
  |ok l=>simp[Except.map]
theorem ya{en:ByteArray}{ws:List ByteArray}{k:Nat}{acc:List (jm×Nat)}(h:ws.length≤k)(ha:acc≠[]):mH en ws k acc=.ok (acc,[]):=by
 unfold mH;rw[mC h];unfold dw;rw[if_neg (fun e=>ha (bF e))];simp[Except.map]
def jC(n:Nat)(l:List (jm×Nat)):List Us:=l.map fun y=>(y.1,n,y.2)
def ZJ(w0 w:World)(b P n:Nat)(lv uv:Value)(ws:List ByteArray)(us:List Us)(w':World)(x:List (jm×Nat)×List ByteArray)(r:Ending):Prop:=∃v uv',r=.returned v∧w'.ownsRow w.heap.size 245 6 v x.1.length (fG (x.1.map (·.1)))∧Rs w' b P (ws.length-x.2.length) n lv uv' ws∧ep w' w0.heap.size uv' (us++jC n x.1)∧(∀g,uv'.ownBlock=some g→uv.ownBlock=some g∨w.heap.size≤g)∧x.1.length≤64
theorem Rs.uR{w:World}{b P k n:Nat}{lv uv:Value}{ws:List ByteArray}(h:Rs w b P k n lv uv ws):w.cell? ⟨b,0,none⟩=some lv∧w.cell? ⟨b,1,none⟩=some (.int .i64 k)∧w.cell? ⟨b,3,none⟩=some uv:=by
 have c0:=h.blk.cell 0;have c1:=h.blk.cell 1;have c3:=h.blk.cell 3;simp at c0 c1 c3;exact⟨c0,c1,c3⟩
theorem ep.I3{w:World}{base b P k n:Nat}{lv uv:Value}{ws:List ByteArray}{us:List Us}(h:ep w base uv us)(hr:Rs w b P k n lv uv ws):∀g,uv.ownBlock=some g→g≠b:=by
 intro g hg e;obtain⟨xs,_,ho⟩:=h;obtain⟨cur,e2,fz,hh,hT⟩:=bS ho g hg;have:=hr.blk;unfold RdB aD at this;rw[←e,hh]at this;injection this with this
 injection this with _ h2 _
 rw[List.mem_singleton.1 hT]at h2;exact absurd h2 (by decide)
theorem Rs.word{w:World}{b P k n g cap j:Nat}{uv:Value}{ws:List ByteArray}{s:ByteArray}(h:Rs w b P k n (.slice (some ⟨g,0,none⟩) ws.length cap) uv ws)(hs:ws[j]? =some s):w.cell? ⟨g,j*3,none⟩=some (.string s)∧w.cell? ⟨g,j*3+1,none⟩=some (.int .i64 n)∧w.cell? ⟨g,j*3+2,none⟩=some (.int .i64 j):=by
 obtain⟨g',cap',e,_,_,hc⟩:=h.row.shape h.ne;injection e with e1 _ _
 injection e1 with e1
 injection e1 with e1 _ _
 subst e1;obtain⟨v0,v1,v2⟩:=rm n ws 0 j s hs;rw[Nat.zero_add]at v2;have hj:j<ws.length:=(List.getElem?_eq_some_iff.1 hs).1;exact⟨(hc _ aM).trans v0,(hc _ aM).trans v1,(hc _ aM).trans v2⟩
theorem ep.below{w w':World}{base:Nat}{v:Value}{l:List Us}(h:ep w base v l)(hb:Below w.heap.size w w'):ep w' base v l:=by
 obtain⟨xs,e,ha⟩:=h;exact⟨xs,e,own_below ha hb⟩
theorem ep.off{S:Nat→Prop}{w w':World}{T:List TypeId}{base:Nat}{v:Value}{l:List Us}(h:ep w base v l)(hk:Keeps S w w')(ho:Off S w T)(he:249∉T):ep w' base v l:=by
 obtain⟨xs,e,ha⟩:=h;exact⟨xs,e,aX ha hk ho he⟩
theorem Cm{w:World}{s:ByteArray}(h:Calls ag 295 #[.string s] w (FO none w)):Calls ag 295 #[.string s] w fun r w'=>(∃(k:Nat)(nm:ByteArray)(v6:Bool)(hi lo bits:Nat),r=.returned (.tuple #[.agg #[.int .u8 k,.string nm,.bool v6,.int .u64 hi,.int .u64 lo,.int .u8 bits],.bool false]))∧Below w.heap.size w w':=h.mono fun r w'⟨⟨s,h1,_⟩,h2⟩=>⟨⟨s.kind,s.name,s.net.a.v6,s.net.a.hi,s.net.a.lo,s.net.bits,h1⟩,h2⟩
theorem CB{w:World}{s:ByteArray}{x:jm}(h:Calls ag 295 #[.string s] w (FO (some x) w)):Calls ag 295 #[.string s] w (Got (.tuple #[.agg #[.int .u8 (x.kind:Int),.string x.name,.bool x.net.a.v6,.int .u64 (x.net.a.hi:Int),.int .u64 (x.net.a.lo:Int),.int .u8 (x.net.bits:Int)],.bool true]) w):=h.mono fun r w'⟨⟨s,h1,h3⟩,h2⟩=>by obtain rfl:=h3 _ rfl;exact⟨h1,h2⟩
theorem CG{w0 w:World}(env:Env w0)(hE:Below w0.heap.size w0 w){b P k n:Nat}{lv uv:Value}{ws:List ByteArray}{us:List Us}(h:Rs w b P k n lv uv ws)(hu:ep w w0.heap.size uv us)(hk:k≤ws.length)(hus:us.length≤4000000)(hbb:w0.heap.size≤b)(en:ByteArray):Calls ag 266 #[.pointer (some ⟨b,0,none⟩),.string en] w fun r w'=>Keeps (fun x=>x=b∨uv.ownBlock=some x) w w'∧eu (dw en (ws.drop k) k 0) n (ZJ w0 w b P n lv uv ws us w') r:=by
 obtain⟨RES,dT⟩:∃r,r=dw en (ws.drop k) k 0:=⟨_,rfl⟩;rw[←dT];rw[←FU]at dT;obtain⟨i0,hi,hz0,hz1,hz2⟩:=info_parts PN;obtain⟨j0,hj,hj0,hj1,hj2⟩:=info_parts Vx;have hbs:w0.heap.size≤w.heap.size:=hE.size;have hUB:∀g,uv.ownBlock=some g→w0.heap.size≤g∧g<w.heap.size:=by
  obtain⟨xs,_,ho⟩:=hu;exact fun g hg=>ho.lt g hg
 obtain⟨HUB,H,HU,iH,HE,tm,HWl⟩:=mS hUB h hu dT hE env h.len;clear h hu dT hE env hUB;go_enter Tryz.func266,Tryz.ntmps266;go_wp2_with fail
 go_loopw [4] (fun v4 wr=>∃(k':Nat)(acc:List (jm×Nat))(A:Option Addr)(cap:Nat)(uv':Value),v4=.slice A acc.length cap∧k'≤ws.length∧af (acc≠[]→k'<ws.length)∧acc.length≤64∧af (Rs wr b P k' n lv uv' ws)∧af (Keeps (fun x=>x=b∨uv.ownBlock=some x) w wr)∧af (wr.ownsRow w.heap.size 245 6 (.slice A acc.length cap) acc.length (fG (acc.map (·.1))))∧af (ep wr w0.heap.size uv' (us++jC n acc))∧af (∀g,uv'.ownBlock=some g→uv.ownBlock=some g∨w.heap.size≤g)∧af (RES=mH en ws k' acc)) (fun _ wr=>ws.length+1-uN wr b)
 case atStart=>exact⟨k,[],none,0,uv,rfl,hk,ae fun h=>absurd rfl h,by simp,H,ae (Keeps.refl _ _),ae (World.ownsRow_nil _ _ _ _),ae (by unfold jC;simpa using HU.out),ae fun g hg=>Or.inl hg,iH⟩
 case round=>
  obtain⟨k',acc,A,cap,uv',rfl,hk',hak,hal,hrs,hkp,hown,huv,hub,hres⟩:=hrel;have xJ:=ae hrs.out.next;have htake:=hrs.out.take hk';unfold gZ at htake;have jy:=ae htake;obtain⟨L,hL⟩:∃l,l=acc.length:=⟨_,rfl⟩;rw[←hL]at hown hal⊢;have HL:=ae hL;clear htake hL;go_wp2_with fail
  go_at_call 176;refine jy.out.mono ?_;rintro r w2⟨⟨d2,e2⟩,h2⟩;cases hs:ws[k']? with
  |none=>
   have hge:ws.length≤k':=by rw[List.getElem?_eq_none_iff]at hs;exact hs
   rw[hs]at h2;simp only at h2;subst h2;unfold aL;have ha:acc=[]:=Classical.byContradiction fun e=>absurd (hak.out e) (by omega)
   exact⟨rfl,hkp.out.trans (d2.mono fun k _ hk=>Or.inl hk),eu.bad (by rw[hres.out,ha];exact FV aM)⟩
  |some wd=>
  rw[hs]at h2;simp only at h2;subst h2;have hlt:k'<ws.length:=(List.getElem?_eq_some_iff.1 hs).1;have pA:=ae e2;have OB:Off (fun x=>x=b) wr [235]:=fun k hk=>⟨_,_,_,by subst hk;exact hrs.out.blk,by simp⟩
  have ZK:=ae (aX hown.out d2 OB aF);obtain⟨VD,xb⟩:=aI (huv.out.keep d2 (huv.out.I3 hrs.out)) (hkp.out.trans (d2.mono (T:=fun x=>x=b∨uv.ownBlock=some x) fun k _ hk=>Or.inl hk));clear jy hrs hown huv hkp d2 e2 OB;by_cases hstop:wd=en∧acc≠[]
  ·obtain⟨rfl,hne⟩:=hstop;have hR:=hres.out;rw[FW hs rfl hne]at hR;have HR:=ae hR;have hL0:0<L:=by
    have:=HL.out;cases acc with
    |nil=>exact absurd rfl hne
    |cons x r=>simp at this;omega
   have q1:(0:Int)<(L:Int):=by omega
   have q2:(wd.toList==wd.toList)=true:=by simp
   have c1:=pA.out.uR.2.1;have z1:=pA.out.blk.frozen 1;have hkb:(k':Int)≤2000000:=by have:=HWl.out;omega
   clear hR hres hne hs;rw[show((k'+1:Nat):Int)=(k':Int)+1 by omega]at c1;go_wp2_with fail
   have KS:=(Keeps.refl (fun x=>x=b) w2).setCell (p:=⟨b,1,none⟩) (Or.inl rfl) (.int .i64 k');have OS:Off (fun x=>x=b) w2 [235]:=fun k hk=>⟨_,_,_,by subst hk;exact pA.out.blk,by simp⟩
   have RB:RdB (w2.setCell ⟨b,1,none⟩ (.int .i64 k')) b lv k' P uv':=pA.out.blk.aN 1 (.int .i64 k');have ZL:=pA.out.step KS RB;refine bodyPost_ret (results_tmp rfl _ _ _) rfl ⟨xb.out.trans (KS.mono fun k _ hk=>Or.inl hk),eu.good HR.out ⟨_,uv',rfl,?_,?_,VD.out.keep KS (VD.out.I3 pA.out),hub.out,by rw[←HL.out];exact hal⟩⟩
   ·simp only;rw[←HL.out];exact aX ZK.out KS OS (by decide)
   ·simp only[List.length_drop];rw[show ws.length-(ws.length-k')=k' by omega];exact ZL
  ·have hR:=hres.out;rw[FX hs hstop]at hR;have HR:=ae hR;have hwd:wd.size≤2000000:=pA.out.sizes wd (oK hs);have hE2:=bK HE.out xb.out (fun k hk=>hk.elim (fun e=>by subst e;exact hbb) fun e=>(HUB.out k e).1);have hsel:=Vp (tm.out.below hE2) wd hwd;have Hs:=ae hs;clear hR hres hs hE2;have hcond:((wd.toList==en.toList)=true∧(0:Int)<(L:Int))→False:=fun h=>hstop ⟨by
    have:=h.1;rw[beq_iff_eq,bO,bO]at this;exact ByteArray.ext (Array.ext' this),fun e=>by have:=HL.out;rw[e]at this;simp at this;omega⟩
   clear hstop;obtain⟨o,ho⟩:∃o,o=kT wd:=⟨_,rfl⟩;rw[←ho]at hsel HR;have Ho:=ae ho;clear ho;cases hb:(wd.toList==en.toList)with
   |true=>
    have hL0:¬(0:Int)<(L:Int):=fun h=>hcond ⟨hb,h⟩
    clear hcond;cases o with
    |none=>
     have uS:=ae (Cm hsel);clear hsel;have hR:=HR.out;simp only at hR;have HRn:=ae hR;clear hR HR;go_upto_region 6 with(go_at_call 295;(with_reducible refine uS.out.mono ?_);rintro r w3⟨⟨x1,x2,x3,x4,x5,x6,rfl⟩,d3⟩)
     have d4:=after d3 (boxed w3 (.cells #[.int .u8 x1,.string x2,.bool x3,.int .u64 x4,.int .u64 x5,.int .u8 x6] 245));generalize w3.alloc (.cells #[.int .u8 x1,.string x2,.bool x3,.int .u64 x4,.int .u64 x5,.int .u8 x6] 245)=w4 at d4⊢;obtain⟨CH,tn⟩:=aI (pA.out.below d4) (xb.out.trans (Keeps.of_below d4 fun k hk _=>hk));clear pA xb;clear d4 d3 uS;have hun:=CH.out.unless aM aM false 195;rw[dH hlt]at hun;have jf:af (Calls ag 177 #[.pointer (some ⟨b,0,none⟩),.bool false,.int .i64 195] w4 fun r w'=>r=aL 195 n k'∧Below w4.heap.size w4 w'):=ae hun;clear hun;go_wp2_with(go_at_call 177;(with_reducible refine jf.out.mono ?_);rintro r w5⟨rfl,d5⟩;unfold aL)
     exact⟨rfl,tn.out.trans (Keeps.of_below d5 fun k hk _=>hk),eu.bad HRn.out⟩
    |some X=>
     have hR:=HR.out;simp only at hR;obtain⟨x1,x2,⟨⟨x3,x4,x5⟩,x6⟩⟩:=X;have uS:af (Calls ag 295 #[.string wd] w2 (Got (.tuple #[.agg #[.int .u8 x1,.string x2,.bool x3,.int .u64 x4,.int .u64 x5,.int .u8 x6],.bool true]) w2)):=ae (CB hsel);clear hsel;have HRn:=ae hR;clear hR HR;go_upto_region 6 with(go_at_call 295;(with_reducible refine uS.out.mono ?_);rintro r w3⟨rfl,d3⟩)
     have d4:=after d3 (boxed w3 (.cells #[.int .u8 x1,.string x2,.bool x3,.int .u64 x4,.int .u64 x5,.int .u8 x6] 245));have M4:=ae (aD.new w3 245 #[.int .u8 x1,.string x2,.bool x3,.int .u64 x4,.int .u64 x5,.int .u8 x6]);have Be:=d3.size;generalize w3.alloc (.cells #[.int .u8 x1,.string x2,.bool x3,.int .u64 x4,.int .u64 x5,.int .u8 x6] 245)=w4 at d4 M4⊢;generalize w3.heap.size=M at Be M4⊢;have hOM:∀g,(cJ A L cap).ownBlock=some g→g<M:=fun g hg=>by have:=(ZK.out.lt g hg).2;omega
     obtain⟨HOM,CH,OW4,PZ,tn⟩:=dR hOM (pA.out.below d4) (own_below ZK.out d4) (VD.out.below d4) (xb.out.trans (Keeps.of_below d4 fun k hk _=>hk));clear pA ZK VD xb;clear d4 d3 uS hOM;have hun:=CH.out.unless aM aM true 195;have jf:af (Calls ag 177 #[.pointer (some ⟨b,0,none⟩),.bool true,.int .i64 195] w4 fun r w'=>r=.returned (.tuple #[])∧Below w4.heap.size w4 w'):=ae hun;clear hun;go_upto_region 7 with(go_at_call 177;(with_reducible refine jf.out.mono ?_);rintro r w5⟨rfl,d5⟩)
     obtain⟨pB,OW5,VE,Bf,M5⟩:=dR (CH.out.below d5) (own_below OW4.out d5) (PZ.out.below d5) (tn.out.trans (Keeps.of_below d5 fun k hk _=>hk)) (M4.out.below d5 M4.out.lt);clear CH OW4 PZ tn M4;clear d5 jf;have hro:=pB.out.room aM aM L;rw[dH hlt]at hro;have pC:=ae hro;clear hro;by_cases h64:64≤L
     ·have hR:=HRn.out;rw[←HL.out,if_pos h64]at hR;rw[decide_eq_false aM]at pC;have lV:af (Calls ag 260 #[.pointer (some ⟨b,0,none⟩),.int .i64 L] w5 fun r w'=>r=aL 198 n k'∧Below w5.heap.size w5 w'):=pC;have Lr:=ae hR;clear pC hR HRn h64;go_wp2_with(go_at_call 260;(with_reducible refine lV.out.mono ?_);rintro r w6⟨rfl,d6⟩;unfold aL)
      exact⟨rfl,Bf.out.trans (Keeps.of_below d6 fun k hk _=>hk),eu.bad Lr.out⟩
     have hR:=HRn.out;rw[←HL.out,if_neg h64]at hR;rw[decide_eq_true aM]at pC;have lV:af (Calls ag 260 #[.pointer (some ⟨b,0,none⟩),.int .i64 L] w5 fun r w'=>r=.returned (.tuple #[])∧Below w5.heap.size w5 w'):=pC;have Lr:=ae hR;clear pC hR HRn;go_upto_region 8 with(go_at_call 260;(with_reducible refine lV.out.mono ?_);rintro r w6⟨rfl,d6⟩)
     obtain⟨CJ,VF,YB,I4,M6⟩:=dR (pB.out.below d6) (own_below OW5.out d6) (VE.out.below d6) (Bf.out.trans (Keeps.of_below d6 fun k hk _=>hk)) (M5.out.below d6 M5.out.lt);clear pB OW5 VE Bf M5;clear d6 lV;obtain⟨m0,m1,m2,m3,m4,m5⟩:=wN M6;have hwb:=I4.out.size;go_upto_region 9 with(at_builtin;refine wpList_append_own _ rfl _ _ 337 rfl w.heap.size 245 i0 (.agg #[.int .u8 0,.string ⟨#[]⟩,.bool false,.int .u64 0,.int .u64 0,.int .u8 0]) 6 56 Tryz.underlying337 hi hz0 hz1 hz2 rfl aF _ L _ rfl (VF.out.alloc _) ⟨w6.heap.size,0,none⟩ 1 1 [.int .u8 x1,.string x2,.bool x3,.int .u64 x4,.int .u64 x5,.int .u8 x6] rfl rfl (cz w6 [.int .u8 x1,.string x2,.bool x3,.int .u64 x4,.int .u64 x5,.int .u8 x6] 245) (by intro u hu;simp at hu;rcases hu with rfl|rfl|rfl|rfl|rfl|rfl<;>rfl) (by unfold maxLen;omega) aM (by simp;omega) ?_;intro v' w7 hown' hgrow hnil)
     have wJ:=Keeps.row hgrow;have Ls:=bS (VF.out.alloc (.cells #[.int .u8 x1,.string x2,.bool x3,.int .u64 x4,.int .u64 x5,.int .u8 x6] 245));have nX:=ae ((CJ.out.alloc _).off wJ Ls aF aF);have UD:=ae ((YB.out.below (boxed w6 _)).off wJ Ls aF);have M7:=ae ((M6.out.alloc _).grown hgrow (fun e=>by have:=HOM.out M e.symm;omega));have Bd:=ae (Keeps.grown (I4.out.alloc _) hgrow fun k hk=>Or.inr (VF.out.lt k hk).1);obtain⟨A2,cap2,rfl⟩:=aQ hown';have Yv:=ae hown';have adO:w.heap.size≤w7.heap.size:=Bd.out.size;clear wJ Ls hgrow hnil hown' CJ YB M6 I4 VF HOM m0 m1 m2 m3 m4 m5 hwb;obtain⟨gw,FY,rfl,abM,⟨adQ,hgW⟩,hcw⟩:=nX.out.row.shape nX.out.ne;obtain⟨xs,hxs,I5⟩:=UD.out;obtain⟨Au,FZ,rfl⟩:=aQ I5;obtain⟨U,hU⟩:∃U,U=(us++jC n acc).length:=⟨_,rfl⟩;rw[←hU]at I5 hub;have hU1:U≤4000100:=by rw[hU,ai];unfold jC;rw[ax];have:=HL.out;omega
     obtain⟨c0,c1,c3⟩:=nX.out.uR;rw[←hU]at c3;obtain⟨t0,t1,t2⟩:=nX.out.word Hs.out;obtain⟨m0,m1,m2,m3,m4,m5⟩:=wN M7;have i1:IntKind.i64.wrap (k':Int)=(k':Int):=by have:=HWl.out;rw[afm];omega
     have i2:(k':Int)<(ws.length:Int):=by omega
     obtain⟨iZ,dI⟩:∃x,x=(w7.alloc (.cells #[.int .u8 x1,.string x2,.bool x3,.int .u64 x4,.int .u64 x5,.int .u8 x6,.string wd,.int .i64 n,.int .i64 k'] 249)).drew:=⟨_,rfl⟩;have kG:af (iZ.ownsRow w0.heap.size 249 9 (.slice Au U FZ) U (fj xs)):=ae (by rw[dI];exact I5.alloc _);have ic:af (∀j u,[.int .u8 x1,.string x2,.bool x3,.int .u64 x4,.int .u64 x5,.int .u8 x6,.string wd,.int .i64 n,.int .i64 k'][j]? =some u→iZ.cell? ((⟨w7.heap.size,0,none⟩:Addr).add j)=some u):=ae (by rw[dI];exact cz w7 [.int .u8 x1,.string x2,.bool x3,.int .u64 x4,.int .u64 x5,.int .u8 x6,.string wd,.int .i64 n,.int .i64 k'] 249);have kn:af (Rs iZ b P (k'+1) n (.slice (some ⟨gw,0,none⟩) ws.length FY) (.slice Au U FZ) ws):=ae (by rw[dI,hU];exact⟨(nX.out.alloc _).blk,(nX.out.alloc _).row,nX.out.ne,nX.out.len,nX.out.sizes⟩);have EB:af (Keeps (fun x=>x=b∨uv.ownBlock=some x) w iZ):=ae (by rw[dI];exact(Bd.out.alloc _).drew);have P0:af (iZ.ownsRow w.heap.size 245 6 (.slice A2 (L+1) cap2) (L+1) _):=ae (by rw[dI];exact Yv.out.alloc _);have Lq:iZ.heap.size=w7.heap.size+1:=by rw[dI];simp
     have hb8:Below w7.heap.size w7 iZ:=by rw[dI];have q:=boxed w7 (.cells #[.int .u8 x1,.string x2,.bool x3,.int .u64 x4,.int .u64 x5,.int .u8 x6,.string wd,.int .i64 n,.int .i64 k'] 249);exact⟨q.os,q.tape,q.output,q.size,q.block⟩
     obtain⟨d0,d1,d3⟩:=kn.out.uR;obtain⟨q0,q1,q2⟩:=kn.out.word Hs.out;have P1:=ae (M7.out.below hb8 M7.out.lt);obtain⟨n0,n1,n2,n3,n4,n5⟩:=wN P1;obtain⟨F5,HU1⟩:=aI hxs hU;clear hxs I5 hU nX Bd M7 Yv hgW hcw hb8 UD;rw[dI]at kG ic d0 d1 d3 q0 q1 q2 n0 n1 n2 n3 n4 n5;refine dt 22 (fun w'=>w'.cell? ⟨b,0,none⟩=some (.slice (some ⟨gw,0,none⟩) ws.length FY)∧w'.cell? ⟨b,1,none⟩=some (.int .i64 ((k'+1:Nat):Int))∧w'.cell? ⟨b,3,none⟩=some (.slice Au U FZ)∧w'.cell? ⟨gw,k'*3,none⟩=some (.string wd)∧w'.cell? ⟨gw,k'*3+1,none⟩=some (.int .i64 n)∧w'.cell? ⟨gw,k'*3+2,none⟩=some (.int .i64 k')∧w'.cell? ⟨M,0,none⟩=some (.int .u8 x1)∧w'.cell? ⟨M,1,none⟩=some (.string x2)∧w'.cell? ⟨M,2,none⟩=some (.bool x3)∧w'.cell? ⟨M,3,none⟩=some (.int .u64 x4)∧w'.cell? ⟨M,4,none⟩=some (.int .u64 x5)∧w'.cell? ⟨M,5,none⟩=some (.int .u8 x6)) bg (⟨c0,c1,c3,t0,t1,t2,m0,m1,m2,m3,m4,m5⟩) (fun hHeld=>?_);refine dm 0 ?_
     refine dm 1 ?_
     refine dm 2 ?_
     refine dm 3 ?_
     refine dm 4 ?_
     refine dm 5 ?_
     refine dm 6 ?_
     refine dm 7 ?_
     refine dm 8 ?_
     refine dm 9 ?_
     refine dm 10 ?_
     refine dm 11 ?_
     refine dm 12 ?_
     refine dm 13 ?_
     refine dm 14 ?_
     refine dm 15 ?_
     refine dm 16 ?_
     refine dm 17 ?_
     refine lI 18 fun K hK=>?_;go_simp
     skip
     refine hK.out _ _ (fun _=>⟨d0,d1,d3,q0,q1,q2,n0,n1,n2,n3,n4,n5⟩) (fun hHeld=>?_);have hHeld:=hHeld aF;clear hK K;try simp only[cq]
     refine lI 19 fun K hK=>?_;refine step_append_lies _ (by rfl) _ _ _ (by rfl) w0.heap.size 249 j0 (.agg #[.int .u8 0,.string ⟨#[]⟩,.bool false,.int .u64 0,.int .u64 0,.int .u8 0,.string ⟨#[]⟩,.int .i64 0,.int .i64 0]) 9 88 Tryz.underlying233 hj hj0 hj1 hj2 rfl aF _ U _ (by rfl) kG.out ⟨w7.heap.size,0,none⟩ 1 1 [.int .u8 x1,.string x2,.bool x3,.int .u64 x4,.int .u64 x5,.int .u8 x6,.string wd,.int .i64 n,.int .i64 k'] (by rfl) rfl ic.out (by intro u hu;simp at hu;rcases hu with rfl|rfl|rfl|rfl|rfl|rfl|rfl|rfl|rfl<;>rfl) aF (by unfold maxLen;omega) aM (by simp;omega) (w7.heap.size+1) (by simp) ?_;intro g' cap' py hown' hgrow hat lS;rw[←dI]at hgrow kG;have R15:=ae (kn.out.off (Keeps.row hgrow) (bS kG.out) aF aF);have O15:=ae (aX P0.out (Keeps.row hgrow) (bS kG.out) aF);obtain⟨p0,p1,p3⟩:=R15.out.uR;obtain⟨r0,r1,r2⟩:=R15.out.word Hs.out;have zh:=P1.out.off (Keeps.row hgrow) (bS kG.out) aF;have s0:=zh.cell 0;have s1:=zh.cell 1;have s2:=zh.cell 2;have s3:=zh.cell 3;have s4:=zh.cell 4;have s5:=zh.cell 5;simp at s0 s1 s2 s3 s4 s5;have pz:=R15.out.blk.frozen 3;obtain⟨kF,ff,Lm⟩:=bj hown' hgrow hat;clear hown' hgrow hat lS;refine hK.out _ _ (fun _=>⟨p0,p1,p3,r0,r1,r2,s0,s1,s2,s3,s4,s5⟩) (fun hHeld=>?_);have hHeld:=hHeld aF;clear hK K;try simp only[cq]
     refine lI 20 fun K hK=>?_;go_simp;refine hK.out _ _ (fun _=>hHeld) (fun hHeld=>?_);have hHeld:=hHeld aF;clear hK K;try simp only[cq]
     refine dm 21 ?_
     refine lI 22 fun K hK=>?_;go_simp;refine hK.out _ _ (fun h=>absurd rfl h) (fun _=>?_);clear hK K hHeld;try simp only[cq]
     refine J9 ?_;go_upto_region 10 with fail
     obtain⟨W,hW⟩:∃W,W=py.setCell ⟨b,3,none⟩ (.slice (some ⟨g',0,none⟩) (U+1) cap'):=⟨_,rfl⟩;have KQ:Keeps (fun x=>x=b) py W:=by rw[hW];exact(Keeps.refl (fun x=>x=b) py).setCell (p:=⟨b,3,none⟩) (Or.inl rfl) _
     have OQ:Off (fun x=>x=b) py [235]:=fun k hk=>⟨_,_,_,by subst hk;exact R15.out.blk,by simp⟩
     have RB:RdB W b (.slice (some ⟨gw,0,none⟩) ws.length FY) (k'+1) P (.slice (some ⟨g',0,none⟩) (U+1) cap'):=by rw[hW];exact R15.out.blk.aN 3 _
     have P2:=ae (R15.out.step KQ RB);have ZM:jC n (acc++[(⟨x1,x2,⟨⟨x3,x4,x5⟩,x6⟩⟩,k')])=jC n acc++[(⟨x1,x2,⟨⟨x3,x4,x5⟩,x6⟩⟩,n,k')]:=by simp[jC]
     have VG:af (ep W w0.heap.size (.slice (some ⟨g',0,none⟩) (U+1) cap') (us++jC n (acc++[(⟨x1,x2,⟨⟨x3,x4,x5⟩,x6⟩⟩,k')]))):=by
      refine ae ⟨xs++[((⟨x1,x2,⟨⟨x3,x4,x5⟩,x6⟩⟩,n,k'),wd)],?_,?_⟩
      ·rw[cA,F5.out,ZM,aO];rfl
      ·rw[ZM,←aO,ai,←HU1.out,qi];exact aX kF.out KQ OQ (by decide)
     have VH:=ae (aX O15.out KQ OQ aF);have VI:=ae ((Keeps.grown EB.out ff.out fun k hk=>(hub.out k hk).elim (fun e=>Or.inl (Or.inr e)) Or.inr).trans (KQ.mono (T:=fun x=>x=b∨uv.ownBlock=some x) fun k _ hk=>Or.inl hk));have P3:af (∀g,(cJ (some ⟨g',0,none⟩) (U+1) cap').ownBlock=some g→uv.ownBlock=some g∨w.heap.size≤g):=ae fun g hg=>by
      have hgg:some g'=some g:=hg;injection hgg with hgg
      rcases Lm.out with h|h
      ·exact hub.out g (hgg▸h)
      ·exact Or.inr (by omega)
     rw[←hW];clear hW KQ OQ RB ZM R15 O15 kF ff Lm F5 kG ic kn EB P0 P1 zh p0 p1 p3 r0 r1 r2 s0 s1 s2 s3 s4 s5 n0 n1 n2 n3 n4 n5 d0 d1 d3 q0 q1 q2 c0 c1 c3 t0 t1 t2 m0 m1 m2 m3 m4 m5 pz hHeld dI Lq;have hmore:=P2.out.more;have hR:=Lr.out;by_cases hend:k'+1<ws.length
     ·rw[decide_eq_true hend]at hmore;have kX:=ae hmore;clear hmore hR;go_wp2_with(go_at_call 263;(with_reducible refine kX.out.mono ?_);rintro r w16⟨rfl,kp⟩)
      obtain⟨pD,uT,F6,uU⟩:=cH (P2.out.below kp) (own_below VH.out kp) (VG.out.below kp) (VI.out.trans (Keeps.of_below kp fun k hk _=>hk));clear P2 VH VG VI;go_roundw
      case rel=>exact⟨k'+1,acc++[(⟨x1,x2,⟨⟨x3,x4,x5⟩,x6⟩⟩,k')],A2,cap2,_,by rw[ai,←HL.out];rfl,by omega,ae fun _=>hend,by rw[ai,←HL.out];simp;omega,pD,uU,ae (by rw[ai,←HL.out,cA,ae8,iW];exact uT.out),F6,P3,Lr⟩
      case measure=>
       rw[pD.out.next,xJ.out];omega
     ·rw[decide_eq_false hend]at hmore;have kX:=ae hmore;rw[ya aM (by simp)]at hR;have dK:=ae hR;clear hmore hR;go_wp2_with(go_at_call 263;(with_reducible refine kX.out.mono ?_);rintro r w16⟨rfl,kp⟩)
      obtain⟨pD,uT,F6,uU⟩:=cH (P2.out.below kp) (own_below VH.out kp) (VG.out.below kp) (VI.out.trans (Keeps.of_below kp fun k hk _=>hk));clear P2 VH VG VI;refine bodyPost_ret (results_tmp rfl _ _ _) rfl ⟨uU.out,eu.good dK.out ⟨_,_,rfl,?_,?_,F6.out,P3.out,by rw[ai,←HL.out];simp;omega⟩⟩
      ·simp only;rw[ai,←HL.out,cA,ae8,iW];exact uT.out
      ·simp only[List.length_nil];rw[show ws.length-0=k'+1 by omega];exact pD.out
   |false=>
    clear hcond;cases o with
    |none=>
     have uS:=ae (Cm hsel);clear hsel;have hR:=HR.out;simp only at hR;have HRn:=ae hR;clear hR HR;go_upto_region 6 with(go_at_call 295;(with_reducible refine uS.out.mono ?_);rintro r w3⟨⟨x1,x2,x3,x4,x5,x6,rfl⟩,d3⟩)
     have d4:=after d3 (boxed w3 (.cells #[.int .u8 x1,.string x2,.bool x3,.int .u64 x4,.int .u64 x5,.int .u8 x6] 245));generalize w3.alloc (.cells #[.int .u8 x1,.string x2,.bool x3,.int .u64 x4,.int .u64 x5,.int .u8 x6] 245)=w4 at d4⊢;obtain⟨CH,tn⟩:=aI (pA.out.below d4) (xb.out.trans (Keeps.of_below d4 fun k hk _=>hk));clear pA xb;clear d4 d3 uS;have hun:=CH.out.unless aM aM false 195;rw[dH hlt]at hun;have jf:af (Calls ag 177 #[.pointer (some ⟨b,0,none⟩),.bool false,.int .i64 195] w4 fun r w'=>r=aL 195 n k'∧Below w4.heap.size w4 w'):=ae hun;clear hun;go_wp2_with(go_at_call 177;(with_reducible refine jf.out.mono ?_);rintro r w5⟨rfl,d5⟩;unfold aL)
     exact⟨rfl,tn.out.trans (Keeps.of_below d5 fun k hk _=>hk),eu.bad HRn.out⟩
    |some X=>
     have hR:=HR.out;simp only at hR;obtain⟨x1,x2,⟨⟨x3,x4,x5⟩,x6⟩⟩:=X;have uS:af (Calls ag 295 #[.string wd] w2 (Got (.tuple #[.agg #[.int .u8 x1,.string x2,.bool x3,.int .u64 x4,.int .u64 x5,.int .u8 x6],.bool true]) w2)):=ae (CB hsel);clear hsel;have HRn:=ae hR;clear hR HR;go_upto_region 6 with(go_at_call 295;(with_reducible refine uS.out.mono ?_);rintro r w3⟨rfl,d3⟩)
     have d4:=after d3 (boxed w3 (.cells #[.int .u8 x1,.string x2,.bool x3,.int .u64 x4,.int .u64 x5,.int .u8 x6] 245));have M4:=ae (aD.new w3 245 #[.int .u8 x1,.string x2,.bool x3,.int .u64 x4,.int .u64 x5,.int .u8 x6]);have Be:=d3.size;generalize w3.alloc (.cells #[.int .u8 x1,.string x2,.bool x3,.int .u64 x4,.int .u64 x5,.int .u8 x6] 245)=w4 at d4 M4⊢;generalize w3.heap.size=M at Be M4⊢;have hOM:∀g,(cJ A L cap).ownBlock=some g→g<M:=fun g hg=>by have:=(ZK.out.lt g hg).2;omega
     obtain⟨HOM,CH,OW4,PZ,tn⟩:=dR hOM (pA.out.below d4) (own_below ZK.out d4) (VD.out.below d4) (xb.out.trans (Keeps.of_below d4 fun k hk _=>hk));clear pA ZK VD xb;clear d4 d3 uS hOM;have hun:=CH.out.unless aM aM true 195;have jf:af (Calls ag 177 #[.pointer (some ⟨b,0,none⟩),.bool true,.int .i64 195] w4 fun r w'=>r=.returned (.tuple #[])∧Below w4.heap.size w4 w'):=ae hun;clear hun;go_upto_region 7 with(go_at_call 177;(with_reducible refine jf.out.mono ?_);rintro r w5⟨rfl,d5⟩)
     obtain⟨pB,OW5,VE,Bf,M5⟩:=dR (CH.out.below d5) (own_below OW4.out d5) (PZ.out.below d5) (tn.out.trans (Keeps.of_below d5 fun k hk _=>hk)) (M4.out.below d5 M4.out.lt);clear CH OW4 PZ tn M4;clear d5 jf;have hro:=pB.out.room aM aM L;rw[dH hlt]at hro;have pC:=ae hro;clear hro;by_cases h64:64≤L
     ·have hR:=HRn.out;rw[←HL.out,if_pos h64]at hR;rw[decide_eq_false aM]at pC;have lV:af (Calls ag 260 #[.pointer (some ⟨b,0,none⟩),.int .i64 L] w5 fun r w'=>r=aL 198 n k'∧Below w5.heap.size w5 w'):=pC;have Lr:=ae hR;clear pC hR HRn h64;go_wp2_with(go_at_call 260;(with_reducible refine lV.out.mono ?_);rintro r w6⟨rfl,d6⟩;unfold aL)
      exact⟨rfl,Bf.out.trans (Keeps.of_below d6 fun k hk _=>hk),eu.bad Lr.out⟩
     have hR:=HRn.out;rw[←HL.out,if_neg h64]at hR;rw[decide_eq_true aM]at pC;have lV:af (Calls ag 260 #[.pointer (some ⟨b,0,none⟩),.int .i64 L] w5 fun r w'=>r=.returned (.tuple #[])∧Below w5.heap.size w5 w'):=pC;have Lr:=ae hR;clear pC hR HRn;go_upto_region 8 with(go_at_call 260;(with_reducible refine lV.out.mono ?_);rintro r w6⟨rfl,d6⟩)
     obtain⟨CJ,VF,YB,I4,M6⟩:=dR (pB.out.below d6) (own_below OW5.out d6) (VE.out.below d6) (Bf.out.trans (Keeps.of_below d6 fun k hk _=>hk)) (M5.out.below d6 M5.out.lt);clear pB OW5 VE Bf M5;clear d6 lV;obtain⟨m0,m1,m2,m3,m4,m5⟩:=wN M6;have hwb:=I4.out.size;go_upto_region 9 with(at_builtin;refine wpList_append_own _ rfl _ _ 337 rfl w.heap.size 245 i0 (.agg #[.int .u8 0,.string ⟨#[]⟩,.bool false,.int .u64 0,.int .u64 0,.int .u8 0]) 6 56 Tryz.underlying337 hi hz0 hz1 hz2 rfl aF _ L _ rfl (VF.out.alloc _) ⟨w6.heap.size,0,none⟩ 1 1 [.int .u8 x1,.string x2,.bool x3,.int .u64 x4,.int .u64 x5,.int .u8 x6] rfl rfl (cz w6 [.int .u8 x1,.string x2,.bool x3,.int .u64 x4,.int .u64 x5,.int .u8 x6] 245) (by intro u hu;simp at hu;rcases hu with rfl|rfl|rfl|rfl|rfl|rfl<;>rfl) (by unfold maxLen;omega) aM (by simp;omega) ?_;intro v' w7 hown' hgrow hnil)
     have wJ:=Keeps.row hgrow;have Ls:=bS (VF.out.alloc (.cells #[.int .u8 x1,.string x2,.bool x3,.int .u64 x4,.int .u64 x5,.int .u8 x6] 245));have nX:=ae ((CJ.out.alloc _).off wJ Ls aF aF);have UD:=ae ((YB.out.below (boxed w6 _)).off wJ Ls aF);have M7:=ae ((M6.out.alloc _).grown hgrow (fun e=>by have:=HOM.out M e.symm;omega));have Bd:=ae (Keeps.grown (I4.out.alloc _) hgrow fun k hk=>Or.inr (VF.out.lt k hk).1);obtain⟨A2,cap2,rfl⟩:=aQ hown';have Yv:=ae hown';have adO:w.heap.size≤w7.heap.size:=Bd.out.size;clear wJ Ls hgrow hnil hown' CJ YB M6 I4 VF HOM m0 m1 m2 m3 m4 m5 hwb;obtain⟨gw,FY,rfl,abM,⟨adQ,hgW⟩,hcw⟩:=nX.out.row.shape nX.out.ne;obtain⟨xs,hxs,I5⟩:=UD.out;obtain⟨Au,FZ,rfl⟩:=aQ I5;obtain⟨U,hU⟩:∃U,U=(us++jC n acc).length:=⟨_,rfl⟩;rw[←hU]at I5 hub;have hU1:U≤4000100:=by rw[hU,ai];unfold jC;rw[ax];have:=HL.out;omega
     obtain⟨c0,c1,c3⟩:=nX.out.uR;rw[←hU]at c3;obtain⟨t0,t1,t2⟩:=nX.out.word Hs.out;obtain⟨m0,m1,m2,m3,m4,m5⟩:=wN M7;have i1:IntKind.i64.wrap (k':Int)=(k':Int):=by have:=HWl.out;rw[afm];omega
     have i2:(k':Int)<(ws.length:Int):=by omega
     obtain⟨iZ,dI⟩:∃x,x=(w7.alloc (.cells #[.int .u8 x1,.string x2,.bool x3,.int .u64 x4,.int .u64 x5,.int .u8 x6,.string wd,.int .i64 n,.int .i64 k'] 249)).drew:=⟨_,rfl⟩;have kG:af (iZ.ownsRow w0.heap.size 249 9 (.slice Au U FZ) U (fj xs)):=ae (by rw[dI];exact I5.alloc _);have ic:af (∀j u,[.int .u8 x1,.string x2,.bool x3,.int .u64 x4,.int .u64 x5,.int .u8 x6,.string wd,.int .i64 n,.int .i64 k'][j]? =some u→iZ.cell? ((⟨w7.heap.size,0,none⟩:Addr).add j)=some u):=ae (by rw[dI];exact cz w7 [.int .u8 x1,.string x2,.bool x3,.int .u64 x4,.int .u64 x5,.int .u8 x6,.string wd,.int .i64 n,.int .i64 k'] 249);have kn:af (Rs iZ b P (k'+1) n (.slice (some ⟨gw,0,none⟩) ws.length FY) (.slice Au U FZ) ws):=ae (by rw[dI,hU];exact⟨(nX.out.alloc _).blk,(nX.out.alloc _).row,nX.out.ne,nX.out.len,nX.out.sizes⟩);have EB:af (Keeps (fun x=>x=b∨uv.ownBlock=some x) w iZ):=ae (by rw[dI];exact(Bd.out.alloc _).drew);have P0:af (iZ.ownsRow w.heap.size 245 6 (.slice A2 (L+1) cap2) (L+1) _):=ae (by rw[dI];exact Yv.out.alloc _);have Lq:iZ.heap.size=w7.heap.size+1:=by rw[dI];simp
     have hb8:Below w7.heap.size w7 iZ:=by rw[dI];have q:=boxed w7 (.cells #[.int .u8 x1,.string x2,.bool x3,.int .u64 x4,.int .u64 x5,.int .u8 x6,.string wd,.int .i64 n,.int .i64 k'] 249);exact⟨q.os,q.tape,q.output,q.size,q.block⟩
     obtain⟨d0,d1,d3⟩:=kn.out.uR;obtain⟨q0,q1,q2⟩:=kn.out.word Hs.out;have P1:=ae (M7.out.below hb8 M7.out.lt);obtain⟨n0,n1,n2,n3,n4,n5⟩:=wN P1;obtain⟨F5,HU1⟩:=aI hxs hU;clear hxs I5 hU nX Bd M7 Yv hgW hcw hb8 UD;rw[dI]at kG ic d0 d1 d3 q0 q1 q2 n0 n1 n2 n3 n4 n5;refine dt 22 (fun w'=>w'.cell? ⟨b,0,none⟩=some (.slice (some ⟨gw,0,none⟩) ws.length FY)∧w'.cell? ⟨b,1,none⟩=some (.int .i64 ((k'+1:Nat):Int))∧w'.cell? ⟨b,3,none⟩=some (.slice Au U FZ)∧w'.cell? ⟨gw,k'*3,none⟩=some (.string wd)∧w'.cell? ⟨gw,k'*3+1,none⟩=some (.int .i64 n)∧w'.cell? ⟨gw,k'*3+2,none⟩=some (.int .i64 k')∧w'.cell? ⟨M,0,none⟩=some (.int .u8 x1)∧w'.cell? ⟨M,1,none⟩=some (.string x2)∧w'.cell? ⟨M,2,none⟩=some (.bool x3)∧w'.cell? ⟨M,3,none⟩=some (.int .u64 x4)∧w'.cell? ⟨M,4,none⟩=some (.int .u64 x5)∧w'.cell? ⟨M,5,none⟩=some (.int .u8 x6)) bg (⟨c0,c1,c3,t0,t1,t2,m0,m1,m2,m3,m4,m5⟩) (fun hHeld=>?_);refine dm 0 ?_
     refine dm 1 ?_
     refine dm 2 ?_
     refine dm 3 ?_
     refine dm 4 ?_
     refine dm 5 ?_
     refine dm 6 ?_
     refine dm 7 ?_
     refine dm 8 ?_
     refine dm 9 ?_
     refine dm 10 ?_
     refine dm 11 ?_
     refine dm 12 ?_
     refine dm 13 ?_
     refine dm 14 ?_
     refine dm 15 ?_
     refine dm 16 ?_
     refine dm 17 ?_
     refine lI 18 fun K hK=>?_;go_simp
     skip
     refine hK.out _ _ (fun _=>⟨d0,d1,d3,q0,q1,q2,n0,n1,n2,n3,n4,n5⟩) (fun hHeld=>?_);have hHeld:=hHeld aF;clear hK K;try simp only[cq]
     refine lI 19 fun K hK=>?_;refine step_append_lies _ (by rfl) _ _ _ (by rfl) w0.heap.size 249 j0 (.agg #[.int .u8 0,.string ⟨#[]⟩,.bool false,.int .u64 0,.int .u64 0,.int .u8 0,.string ⟨#[]⟩,.int .i64 0,.int .i64 0]) 9 88 Tryz.underlying233 hj hj0 hj1 hj2 rfl aF _ U _ (by rfl) kG.out ⟨w7.heap.size,0,none⟩ 1 1 [.int .u8 x1,.string x2,.bool x3,.int .u64 x4,.int .u64 x5,.int .u8 x6,.string wd,.int .i64 n,.int .i64 k'] (by rfl) rfl ic.out (by intro u hu;simp at hu;rcases hu with rfl|rfl|rfl|rfl|rfl|rfl|rfl|rfl|rfl<;>rfl) aF (by unfold maxLen;omega) aM (by simp;omega) (w7.heap.size+1) (by simp) ?_;intro g' cap' py hown' hgrow hat lS;rw[←dI]at hgrow kG;have R15:=ae (kn.out.off (Keeps.row hgrow) (bS kG.out) aF aF);have O15:=ae (aX P0.out (Keeps.row hgrow) (bS kG.out) aF);obtain⟨p0,p1,p3⟩:=R15.out.uR;obtain⟨r0,r1,r2⟩:=R15.out.word Hs.out;have zh:=P1.out.off (Keeps.row hgrow) (bS kG.out) aF;have s0:=zh.cell 0;have s1:=zh.cell 1;have s2:=zh.cell 2;have s3:=zh.cell 3;have s4:=zh.cell 4;have s5:=zh.cell 5;simp at s0 s1 s2 s3 s4 s5;have pz:=R15.out.blk.frozen 3;obtain⟨kF,ff,Lm⟩:=bj hown' hgrow hat;clear hown' hgrow hat lS;refine hK.out _ _ (fun _=>⟨p0,p1,p3,r0,r1,r2,s0,s1,s2,s3,s4,s5⟩) (fun hHeld=>?_);have hHeld:=hHeld aF;clear hK K;try simp only[cq]
     refine lI 20 fun K hK=>?_;go_simp;refine hK.out _ _ (fun _=>hHeld) (fun hHeld=>?_);have hHeld:=hHeld aF;clear hK K;try simp only[cq]
     refine dm 21 ?_
     refine lI 22 fun K hK=>?_;go_simp;refine hK.out _ _ (fun h=>absurd rfl h) (fun _=>?_);clear hK K hHeld;try simp only[cq]
     refine J9 ?_;go_upto_region 10 with fail
     obtain⟨W,hW⟩:∃W,W=py.setCell ⟨b,3,none⟩ (.slice (some ⟨g',0,none⟩) (U+1) cap'):=⟨_,rfl⟩;have KQ:Keeps (fun x=>x=b) py W:=by rw[hW];exact(Keeps.refl (fun x=>x=b) py).setCell (p:=⟨b,3,none⟩) (Or.inl rfl) _
     have OQ:Off (fun x=>x=b) py [235]:=fun k hk=>⟨_,_,_,by subst hk;exact R15.out.blk,by simp⟩
     have RB:RdB W b (.slice (some ⟨gw,0,none⟩) ws.length FY) (k'+1) P (.slice (some ⟨g',0,none⟩) (U+1) cap'):=by rw[hW];exact R15.out.blk.aN 3 _
     have P2:=ae (R15.out.step KQ RB);have ZM:jC n (acc++[(⟨x1,x2,⟨⟨x3,x4,x5⟩,x6⟩⟩,k')])=jC n acc++[(⟨x1,x2,⟨⟨x3,x4,x5⟩,x6⟩⟩,n,k')]:=by simp[jC]
     have VG:af (ep W w0.heap.size (.slice (some ⟨g',0,none⟩) (U+1) cap') (us++jC n (acc++[(⟨x1,x2,⟨⟨x3,x4,x5⟩,x6⟩⟩,k')]))):=by
      refine ae ⟨xs++[((⟨x1,x2,⟨⟨x3,x4,x5⟩,x6⟩⟩,n,k'),wd)],?_,?_⟩
      ·rw[cA,F5.out,ZM,aO];rfl
      ·rw[ZM,←aO,ai,←HU1.out,qi];exact aX kF.out KQ OQ (by decide)
     have VH:=ae (aX O15.out KQ OQ aF);have VI:=ae ((Keeps.grown EB.out ff.out fun k hk=>(hub.out k hk).elim (fun e=>Or.inl (Or.inr e)) Or.inr).trans (KQ.mono (T:=fun x=>x=b∨uv.ownBlock=some x) fun k _ hk=>Or.inl hk));have P3:af (∀g,(cJ (some ⟨g',0,none⟩) (U+1) cap').ownBlock=some g→uv.ownBlock=some g∨w.heap.size≤g):=ae fun g hg=>by
      have hgg:some g'=some g:=hg;injection hgg with hgg
      rcases Lm.out with h|h
      ·exact hub.out g (hgg▸h)
      ·exact Or.inr (by omega)
     rw[←hW];clear hW KQ OQ RB ZM R15 O15 kF ff Lm F5 kG ic kn EB P0 P1 zh p0 p1 p3 r0 r1 r2 s0 s1 s2 s3 s4 s5 n0 n1 n2 n3 n4 n5 d0 d1 d3 q0 q1 q2 c0 c1 c3 t0 t1 t2 m0 m1 m2 m3 m4 m5 pz hHeld dI Lq;have hmore:=P2.out.more;have hR:=Lr.out;by_cases hend:k'+1<ws.length
     ·rw[decide_eq_true hend]at hmore;have kX:=ae hmore;clear hmore hR;go_wp2_with(go_at_call 263;(with_reducible refine kX.out.mono ?_);rintro r w16⟨rfl,kp⟩)
      obtain⟨pD,uT,F6,uU⟩:=cH (P2.out.below kp) (own_below VH.out kp) (VG.out.below kp) (VI.out.trans (Keeps.of_below kp fun k hk _=>hk));clear P2 VH VG VI;go_roundw
      case rel=>exact⟨k'+1,acc++[(⟨x1,x2,⟨⟨x3,x4,x5⟩,x6⟩⟩,k')],A2,cap2,_,by rw[ai,←HL.out];rfl,by omega,ae fun _=>hend,by rw[ai,←HL.out];simp;omega,pD,uU,ae (by rw[ai,←HL.out,cA,ae8,iW];exact uT.out),F6,P3,Lr⟩
      case measure=>
       rw[pD.out.next,xJ.out];omega
     ·rw[decide_eq_false hend]at hmore;have kX:=ae hmore;rw[ya aM (by simp)]at hR;have dK:=ae hR;clear hmore hR;go_wp2_with(go_at_call 263;(with_reducible refine kX.out.mono ?_);rintro r w16⟨rfl,kp⟩)
      obtain⟨pD,uT,F6,uU⟩:=cH (P2.out.below kp) (own_below VH.out kp) (VG.out.below kp) (VI.out.trans (Keeps.of_below kp fun k hk _=>hk));clear P2 VH VG VI;refine bodyPost_ret (results_tmp rfl _ _ _) rfl ⟨uU.out,eu.good dK.out ⟨_,_,rfl,?_,?_,F6.out,P3.out,by rw[ai,←HL.out];simp;omega⟩⟩
      ·simp only;rw[ai,←HL.out,cA,ae8,iW];exact uT.out
      ·simp only[List.length_nil];rw[show ws.length-0=k'+1 by omega];exact pD.out
end Go.Proofs.YteflnojjjdkgmaaGreatDoor
