/- Joined out of: IpL IpLb IpQ IpS IpT WhB TwC TxF TwD TwE RdA GsC. -/
import Derived.Test.YteflnojjjdkgmaaGreatDoorNae
set_option linter.unusedVariables false
set_option linter.unusedSimpArgs false
set_option maxHeartbeats 16000000
set_option maxRecDepth 100000
open ByteArray renaming empty→iy,size→afe
open Go.IntKind renaming wrap_u64→ej
open Go.Lib renaming hid→ae,decDigits→b7
open Go.Proofs.Tryz renaming prog→ag
open Go.RowKit renaming Hid→af
open Go.Value renaming string→cC
open Go.World renaming ownsRow_nil→a8
open List renaming getElem?_eq_getElem→ah,length_append→ai,getD_eq_getElem?_getD→ay,take_succ_eq_append_getElem→aC,replicate→aH,take_of_length_le→aT,drop_eq_getElem_cons→bz,length_drop→wu,length_take→wy,drop_of_length_le→A8
open Nat renaming le_trans→au,le_refl→aw,add_zero→dq,pow_le_pow_right→ae6,lt_or_ge→afg
namespace Go.Proofs.YteflnojjjdkgmaaGreatDoor
open Go.RowKit
attribute [local go_sem↓] Go.wp_at_zero Go.wp_at_succ
theorem iU(s:ByteArray)(i j:Nat):(s.extract i j).size=min j s.size-i:=by rw[ByteArray.size_extract]
theorem abw{s:ByteArray}{k n:Nat}(h:k+n≤s.size):qS (s.extract k s.size) 0 n=s.extract k (k+n)∧nU (s.extract k s.size) 0 n=s.extract (k+n) s.size∧nh (s.extract k s.size) 0 n=0:=by
 have hs:n≤(s.extract k s.size).size:=by rw[iU];omega
 refine⟨?_,?_,?_⟩
 ·unfold qS;rw[if_pos ⟨rfl,hs⟩,ByteArray.extract_extract];congr 1;omega
 ·unfold nU;rw[if_pos ⟨rfl,hs⟩,ByteArray.extract_extract,iU];congr 1;omega
 ·unfold nh;rw[if_pos rfl,if_pos hs]
structure St(W:World)(r b:Nat)(s:ByteArray)(k:Nat)(Z:Array Value)(T:TypeId)(w:World):Prop where
 rd:Rd w b (s.extract k s.size) 0
 blk:aD w r T Z
 bel:Below W.heap.size W w
structure Sh(W:World)(r b:Nat)(s:ByteArray)(k:Nat)(Z:Array Value)(T:TypeId)(w:World):Prop where
 rd:∃s' f,Rd w b s' f∧s'.size≤4000000∧(f=7∨(f=0∧s'.size+k=s.size))
 blk:aD w r T Z
 bel:Below W.heap.size W w
section
variable{W w w':World}{r b k:Nat}{s:ByteArray}{Z:Array Value}{T:TypeId}
theorem St.step(h:St W r b s k Z T w)(hr:r≠b)(hB:W.heap.size≤b){n:Nat}(hk:k+n≤s.size)(h1:Rd w' b (nU (s.extract k s.size) 0 n) (nh (s.extract k s.size) 0 n))(hK:Keeps (fun k=>k=b) w w'):St W r b s (k+n) Z T w':=by
 obtain⟨_,e2,e3⟩:=abw hk;rw[e2,e3]at h1;exact⟨h1,h.blk.keep hK hr,h.bel.trans (hK.below (fun k hk=>by rw[hk];exact hB) h.bel.size)⟩
theorem Sh.step(h:Sh W r b s k Z T w)(hr:r≠b)(hB:W.heap.size≤b){n:Nat}{s':ByteArray}{f:Nat}(hs:s'.size≤4000000)(hf:f=7∨(f=0∧s'.size+k=s.size))(h1:Rd w' b (nU s' f n) (nh s' f n))(hK:Keeps (fun k=>k=b) w w'):Sh W r b s (k+n) Z T w':=by
 refine⟨⟨_,_,h1,?_,?_⟩,h.blk.keep hK hr,h.bel.trans (hK.below (fun k hk=>by rw[hk];exact hB) h.bel.size)⟩
 ·unfold nU;split
  ·rw[iU];omega
  ·exact hs
 ·rcases hf with rfl|⟨rfl,hf⟩
  ·exact Or.inl (by unfold nh;rw[if_neg aF])
  ·by_cases hn:n≤s'.size
   ·refine Or.inr ⟨by unfold nh;rw[if_pos rfl,if_pos hn],?_⟩;unfold nU;rw[if_pos ⟨rfl,hn⟩,iU];omega
   ·exact Or.inl (by unfold nh;rw[if_pos rfl,if_neg hn])
end
def Pk.zero:Pk:=⟨⟨false,0,0⟩,⟨false,0,0⟩,0,0,iy⟩
def bt(s:ByteArray)(j:Nat):Nat:=(jc s).getD j 0
theorem bn{P:Program}{fn:Func}{tmps:Array Value}{w:World}{x y:Nat}{T:TypeId}{g:Nat}{V v2:Value}(hres:fn.results= #[.cell x T,.tmp y])(h1:tmps.getD x undef=.pointer (some ⟨g,0,none⟩))(h2:tmps.getD y undef=v2)(hl:(loadVar T ⟨g,0,none⟩).run P w=.ok V w):(results fn tmps).run P w=.ok (.tuple #[V,v2]) w:=by
 have h1':tmps[x]?.getD undef=.pointer (some ⟨g,0,none⟩):=by simpa using h1
 have h2':tmps[y]?.getD undef=v2:=by simpa using h2
 simp[results,hres,h1',h2',asAddr,hl]
def At(i:Int)(P:Prop):Prop:=0≤i↔P
structure S6(W:World)(r b pc:Nat)(s:ByteArray)(k:Nat)(Z:Array Value)(T:TypeId)(w:World):Prop where
 st:St W r b s k Z T w
 ptr:aD w pc 90 #[.pointer (some ⟨b,0,none⟩)]
structure H6(W:World)(r b pc:Nat)(s:ByteArray)(k:Nat)(Z:Array Value)(T:TypeId)(w:World):Prop where
 sh:Sh W r b s k Z T w
 ptr:aD w pc 90 #[.pointer (some ⟨b,0,none⟩)]
section
variable{W w w':World}{r b pc k:Nat}{s:ByteArray}{Z:Array Value}{T:TypeId}
theorem S6.below(h:S6 W r b pc s k Z T w)(hb:Below w.heap.size w w'):S6 W r b pc s k Z T w':=⟨⟨h.st.rd.below hb,aD.below h.st.blk hb h.st.blk.lt,after h.st.bel hb⟩,aD.below h.ptr hb h.ptr.lt⟩
theorem H6.below(h:H6 W r b pc s k Z T w)(hb:Below w.heap.size w w'):H6 W r b pc s k Z T w':=by
 obtain⟨⟨⟨s',f,h0,hs,hf⟩,hB,hW⟩,hp⟩:=h;exact⟨⟨⟨s',f,h0.below hb,hs,hf⟩,aD.below hB hb hB.lt,after hW hb⟩,aD.below hp hb hp.lt⟩
theorem S6.drew(h:S6 W r b pc s k Z T w):S6 W r b pc s k Z T w.drew:=⟨⟨h.st.rd,h.st.blk,h.st.bel.drew⟩,h.ptr⟩
theorem H6.drew(h:H6 W r b pc s k Z T w):H6 W r b pc s k Z T w.drew:=⟨⟨h.sh.rd,h.sh.blk,h.sh.bel.drew⟩,h.ptr⟩
theorem S6.cell(h:S6 W r b pc s k Z T w):w.cell? ⟨pc,0,none⟩=some (.pointer (some ⟨b,0,none⟩)):=h.ptr.cell 0
theorem H6.cell(h:H6 W r b pc s k Z T w):w.cell? ⟨pc,0,none⟩=some (.pointer (some ⟨b,0,none⟩)):=h.ptr.cell 0
end
theorem nV{w:World}{g:Nat}{v0 v1 v2:Value}(h:aD w g 54 #[v0,v1,v2]):(loadVar 54 ⟨g,0,none⟩).run ag w=.ok (.agg #[v0,v1,v2]) w:=by
 have c0:=h.cell 0;have c1:=h.cell 1;have c2:=h.cell 2;simp at c0 c1 c2;simp[loadVar,go_sem,c0,c1,c2]
theorem eV{P:Program}{fn:Func}{tmps:Array Value}{w:World}{x:Nat}{T:TypeId}{g:Nat}{V:Value}(hres:fn.results= #[.cell x T])(h1:tmps.getD x undef=.pointer (some ⟨g,0,none⟩))(hl:(loadVar T ⟨g,0,none⟩).run P w=.ok V w):(results fn tmps).run P w=.ok V w:=by
 have h1':tmps[x]?.getD undef=.pointer (some ⟨g,0,none⟩):=by simpa using h1
 simp[results,hres,h1',asAddr,hl]
theorem S6.far{W w:World}{r b pc k:Nat}{s:ByteArray}{Z:Array Value}{T:TypeId}(h:S6 W r b pc s k Z T w){g:Nat}(h1:b≠g)(h2:r≠g)(h3:pc≠g)(h4:W.heap.size≤g)(i:Nat)(u:Value):S6 W r b pc s k Z T (w.setCell ⟨g,i,none⟩ u):=⟨⟨aD.far h.st.rd (p:=⟨g,i,none⟩) h1 u,h.st.blk.far (p:=⟨g,i,none⟩) h2 u,h.st.bel.setCell (p:=⟨g,i,none⟩) h4 u⟩,h.ptr.far (p:=⟨g,i,none⟩) h3 u⟩
theorem H6.far{W w:World}{r b pc k:Nat}{s:ByteArray}{Z:Array Value}{T:TypeId}(h:H6 W r b pc s k Z T w){g:Nat}(h1:b≠g)(h2:r≠g)(h3:pc≠g)(h4:W.heap.size≤g)(i:Nat)(u:Value):H6 W r b pc s k Z T (w.setCell ⟨g,i,none⟩ u):=by
 obtain⟨⟨⟨s',f,h0,hs,hf⟩,hB,hW⟩,hp⟩:=h;exact⟨⟨⟨s',f,aD.far h0 (p:=⟨g,i,none⟩) h1 u,hs,hf⟩,hB.far (p:=⟨g,i,none⟩) h2 u,hW.setCell (p:=⟨g,i,none⟩) h4 u⟩,hp.far (p:=⟨g,i,none⟩) h3 u⟩
theorem Zo{fn:Func}{a:Act}{W w:World}{g x y:Nat}{v0 v1 v2 u:Value}(hres:fn.results= #[.cell x 54,.tmp y])(hB:aD w g 54 #[v0,v1,v2])(hb:Below W.heap.size W w)(h1:a.tmps.getD x undef=.pointer (some ⟨g,0,none⟩))(h2:a.tmps.getD y undef=u)(hd:a.defers=[]):bodyPost ag fn (Got (.tuple #[.agg #[v0,v1,v2],u]) W) .ret a w:=bodyPost_ret (bn hres h1 h2 (nV hB)) hd ⟨rfl,hb⟩
theorem three{W w:World}{g:Nat}{z0 z1 z2 v0 v1 v2:Value}(hB:aD w g 54 #[z0,z1,z2])(hb:Below W.heap.size W w)(hg:W.heap.size≤g):aD (((w.setCell ⟨g,0,none⟩ v0).setCell ⟨g,1,none⟩ v1).setCell ⟨g,2,none⟩ v2) g 54 #[v0,v1,v2]∧Below W.heap.size W (((w.setCell ⟨g,0,none⟩ v0).setCell ⟨g,1,none⟩ v1).setCell ⟨g,2,none⟩ v2):=by
 have s0:aD (w.setCell ⟨g,0,none⟩ v0) g 54 #[v0,z1,z2]:=hB.aN 0 v0;have s1:aD ((w.setCell ⟨g,0,none⟩ v0).setCell ⟨g,1,none⟩ v1) g 54 #[v0,v1,z2]:=s0.aN 1 v1;have s2:aD (((w.setCell ⟨g,0,none⟩ v0).setCell ⟨g,1,none⟩ v1).setCell ⟨g,2,none⟩ v2) g 54 #[v0,v1,v2]:=s1.aN 2 v2;exact⟨s2,((hb.setCell (p:=⟨g,0,none⟩) hg v0).setCell (p:=⟨g,1,none⟩) hg v1).setCell (p:=⟨g,2,none⟩) hg v2⟩
theorem lQ{fn:Func}{a:Act}{W w:World}{g x y:Nat}{z0 z1 z2 v0 v1 v2 u:Value}(hres:fn.results= #[.cell x 54,.tmp y])(hB:aD w g 54 #[z0,z1,z2])(hb:Below W.heap.size W w)(hg:W.heap.size≤g)(h1:a.tmps.getD x undef=.pointer (some ⟨g,0,none⟩))(h2:a.tmps.getD y undef=u)(hd:a.defers=[]):bodyPost ag fn (Got (.tuple #[.agg #[v0,v1,v2],u]) W) .ret a (((w.setCell ⟨g,0,none⟩ v0).setCell ⟨g,1,none⟩ v1).setCell ⟨g,2,none⟩ v2):=Zo hres (three hB hb hg).1 (three hB hb hg).2 h1 h2 hd
theorem abx{h x:Nat}(hh:h<281474976710656)(hx:x<65536):bits .or .u64 ((h:Int)*65536) (x:Int)=((h*65536+x:Nat):Int):=by
 have e:=u64_or_nat (h*65536) x aM aM;rw[show(h:Int)*65536=((h*65536:Nat):Int) by omega,e];have:=Nat.shiftLeft_add_eq_or_of_lt (i:=16) (b:=x) aM h;rw[Nat.shiftLeft_eq]at this;rw[show(65536:Nat)=2^16 from rfl,←this]
theorem sD(l:List Nat)(x:Nat):dP (l++[x])=dP l*65536+x:=by unfold dP;rw[List.foldl_append];rfl
theorem qc{l:List Nat}(h:∀x∈l,x<65536)(hl:l.length≤3):dP l<281474976710656:=by
 have:=ri l 0 1 h aF;have h2:65536^l.length≤65536^3:=ae6 aF hl;unfold dP;omega
theorem BW{A:List Nat}{k:Nat}(hk:k<A.length)(hA:∀x∈A,x<65536):(if k<4 then dP ((A.take (k+1)).take 4)=dP ((A.take k).take 4)*65536+A.getD k 0∧dP ((A.take (k+1)).drop 4)=dP ((A.take k).drop 4)else dP ((A.take (k+1)).take 4)=dP ((A.take k).take 4)∧(k<8→dP ((A.take (k+1)).drop 4)=dP ((A.take k).drop 4)*65536+A.getD k 0))∧(k<4→dP ((A.take k).take 4)<281474976710656)∧(k<8→dP ((A.take k).drop 4)<281474976710656):=by
 have hs:A.take (k+1)=A.take k++[A.getD k 0]:=by
  rw[aC hk,ay,ah hk];rfl
 have hkl:(A.take k).length=k:=by rw[wy];omega
 refine⟨?_,fun h=>qc (lM (lM hA)) (by rw[wy,hkl];omega),fun h=>qc (tD (lM hA)) (by rw[wu,hkl];omega)⟩;split
 ·next h=>
  rw[hs,aT (l:=A.take k) aM,aT (by rw[ai,hkl];simp;omega),sD];refine⟨rfl,?_⟩;rw[A8 (by rw[ai,hkl];simp;omega),A8 aM]
 ·next h=>
  rw[hs,List.take_append_of_le_length aM,List.drop_append_of_le_length aM,sD];exact⟨rfl,fun _=>rfl⟩
def Zp(o:Option Ad):Value:=match o with
 |none=>.tuple #[.agg #[.bool false,.int .u64 0,.int .u64 0],.bool false]
 |some a=>.tuple #[.agg a.cells,.bool true]
theorem KW{w:World}{bf bb:Nat}{vf vb:Value}(f b:List Nat)(gap:Bool)(hof:w.ownsRow bf 22 1 vf f.length (ew f))(hob:w.ownsRow bb 22 1 vb b.length (ew b))(hf:f.length≤9)(Zq:b.length≤9)(hfx:∀x∈f,x<65536)(hbx:∀x∈b,x<65536):Calls ag 317 #[vf,vb,.bool gap] w (Got (Zp (lL f b gap)) w):=by
 obtain⟨i0,hi,hz0,hz1,hz2⟩:=info_parts uC;obtain⟨Af,aeO,rfl⟩:=aQ hof;obtain⟨Ab,adB,rfl⟩:=aQ hob;have hB0:=aD.new w 54 #[.bool false,.int .u64 0,.int .u64 0];have hb0:=boxed w (.cells #[.bool false,.int .u64 0,.int .u64 0] 54);obtain⟨WL,hWL⟩:∃o,o=lL f b gap:=⟨_,rfl⟩;have wW:=hWL;unfold lL at wW;rw[←hWL];have HFL:Hid (f.length=f.length):=ae rfl;obtain⟨F,hF⟩:∃n,n=f.length:=⟨_,rfl⟩;obtain⟨G,hG⟩:∃n,n=b.length:=⟨_,rfl⟩;rw[←hF,←hG]at wW;rw[←hF]at hof hf;rw[←hG]at hob Zq;rw[←hF,←hG];obtain⟨Hof,Hob,HF,HG⟩:=cH hof hob hF hG;clear hof hob hWL hF hG HFL;by_cases hbad:(gap=false∧F+G≠8)∨(gap=true∧7<F+G)
 ·rw[if_pos hbad]at wW;rw[wW];clear wW;show Calls _ _ _ w (Got (.tuple #[.agg #[.bool false,.int .u64 0,.int .u64 0],.bool false]) w);cases gap with
  |false=>
   have hne:¬F+G=8:=by rcases hbad with⟨_,h⟩|⟨h,_⟩<;>simp_all
   have h1:((F:Int)+(G:Int) !=8)=true:=by simp;omega
   have h2:((F:Int)+(G:Int)==8)=false:=by simp;omega
   clear hbad hne;go_enter Tryz.func317,Tryz.ntmps317;go_wp2_with fail
   exact bodyPost_ret (bn rfl rfl rfl (nV (aD.new _ _ _))) rfl ⟨rfl,boxed _ _⟩
  |true=>
   have hne:7<F+G:=by rcases hbad with⟨h,_⟩|⟨_,h⟩<;>simp_all
   have h1:(7:Int)<(F:Int)+(G:Int):=by omega
   clear hbad hne;go_enter Tryz.func317,Tryz.ntmps317;go_wp2_with fail
   exact bodyPost_ret (bn rfl rfl rfl (nV (aD.new _ _ _))) rfl ⟨rfl,boxed _ _⟩
 ·rw[if_neg hbad]at wW;have hFG:F+G≤8:=by cases gap<;>simp at hbad<;>omega
  have h1:gap=false→((F:Int)+(G:Int) !=8)=false:=fun h=>by subst h;simp at hbad;simp;omega
  have h2:gap=true→¬(7:Int)<(F:Int)+(G:Int):=fun h=>by subst h;simp at hbad;omega
  obtain⟨K,hK⟩:∃k,k=8-(F+G):=⟨_,rfl⟩;have hall:∃A:List Nat,A=f++aH K 0++b∧A.length=8∧(∀x∈A,x<65536)∧ew A=ew f++aH K (.int .u64 0)++ew b:=by
   refine⟨_,rfl,?_,?_,?_⟩
   ·rw[ai,ai,List.length_replicate,←HF.out,←HG.out];omega
   ·intro x hx;rcases List.mem_append.1 hx with hx|hx
    ·rcases List.mem_append.1 hx with hx|hx
     ·exact hfx x hx
     ·rw[(List.mem_replicate.1 hx).2];decide
    ·exact hbx x hx
   ·simp[ew]
  rw[←hK]at wW;obtain⟨ALL,hA,hA8,hAx,hAc⟩:=hall;rw[←hA]at wW;rw[wW];show Calls _ _ _ w (Got (.tuple #[.agg #[.bool true,.int .u64 (dP (ALL.take 4):Int),.int .u64 (dP (ALL.drop 4):Int)],.bool true]) w);have eK:(8:Int)-((F:Int)+(G:Int))=(K:Int):=by omega
  obtain⟨HAc,HA8,HAx,HK⟩:=cH hAc hA8 hAx hK;have hz3:(Value.int IntKind.u64 0).cells= #[.int .u64 0]:=rfl;have HZ3:=ae hz3;clear wW hA hA8 hAx hAc hK hbad hz3;have hclone:=fun o=>clone_any (w:=w.alloc o) f (by rw[←HF.out];exact Hof.out.alloc o) (by rw[←HF.out];omega)
  rw[←HF.out]at hclone;have Ys:=ae hclone;clear hclone;obtain⟨v0,hv0⟩:∃v,v=w.alloc (.cells #[.bool false,.int .u64 0,.int .u64 0] 54):=⟨_,rfl⟩;rw[←hv0]at hB0 hb0;have hsz0:v0.heap.size=w.heap.size+1:=by rw[hv0];simp
  have Ys:=ae (Ys.out (.cells #[.bool false,.int .u64 0,.int .u64 0] 54));rw[←hv0]at Ys;obtain⟨HB0,Hb0,Hv0⟩:=bj hB0 hb0 hv0;clear hB0 hb0 hv0;cases gap
  all_goals
   first
    |(have h3:=h1 rfl)
    |(have h3:=h2 rfl)
   clear h1 h2;go_enter Tryz.func317,Tryz.ntmps317;go_wp2_with(go_at_call 328;fail)
   rw[←Hv0.out];refine Ys.out.mono ?_;rintro r w1⟨⟨v1,rfl,ho1⟩,hb1⟩;obtain⟨Ho1,HB1⟩:=aI ho1 (HB0.out.below hb1 HB0.out.lt);have Hb1:=aU Hb0 hb1;have hsz1:w.heap.size+1≤w1.heap.size:=by have:=hb1.size;omega
   clear ho1 hb1;go_upto_region 5 with(first
    |(at_builtin;obtain⟨v2,w2,hr2,ho2,hg2⟩:=ti (P:=ag) w1 v0.heap.size 355 3 355 22 i0 (.int .u64 0) Tryz.underlying355 Tryz.underlying3 hi hz0 hz1 hz2 HZ3.out rfl v1 F (ew f) Ho1.out K aM aM aM;refine step_append rfl _ _ _ _ rfl rfl rfl hr2 ?_;have HB2:=ae (HB1.out.grown hg2 (fun e=>by have:=(Ho1.out.lt _ e.symm).1;omega));have Hb2:=ae (Hb1.out.grown hg2 aM (fun q hq=>by have:=(Ho1.out.lt q hq).1;omega));have hsz2:w.heap.size+1≤w2.heap.size:=au hsz1 hg2.size;have Ho2:=ae ho2;clear hr2 ho2 hg2)
    |(at_builtin;obtain⟨v3,w3,hr3,ho3,hg3⟩:=uG (P:=ag) w2 v0.heap.size bb 355 355 22 i0 (.int .u64 0) Tryz.underlying355 hi hz0 hz1 hz2 rfl v2 (F+K) _ Ho2.out (.slice Ab G adB) G (ew b) (own_below Hob.out Hb2.out) (fun x hx=>by obtain⟨y,_,rfl⟩:=List.mem_map.1 hx;rfl) aM aM aM;refine step_append rfl _ _ _ _ rfl rfl rfl hr3 ?_;have HB3:=ae (HB2.out.grown hg3 (fun e=>by have:=(Ho2.out.lt _ e.symm).1;omega));have Hb3:=ae (Hb2.out.grown hg3 aM (fun q hq=>by have:=(Ho2.out.lt q hq).1;omega));have hsz3:w.heap.size+1≤w3.heap.size:=au hsz2 hg3.size;have Va:=ae ho3;clear hr3 ho3 hg3))
   have hrow:w3.ownsRow v0.heap.size 22 1 v3 (7+1) (ew ALL):=by
    have h:=Va.out;rw[show F+K+G=7+1 by omega]at h;rw[HAc.out];exact h
   obtain⟨ga,cap,rfl⟩:=BK hrow;have hga:=hrow.lt ga rfl;have c0:=HB3.out.cell 0;have f0:=HB3.out.frozen 0;simp at c0;have wS:=ae hrow;clear hrow;go_wp2_with fail
   have hB4:aD (w3.setCell ⟨w.heap.size,0,none⟩ (.bool true)) w.heap.size 54 #[.bool true,.int .u64 0,.int .u64 0]:=HB3.out.aN 0 _;have hb4:=Hb3.out.setCell (p:=⟨w.heap.size,0,none⟩) (aw _) (.bool true);have hr4:∀j(hj:j<8),(w3.setCell ⟨w.heap.size,0,none⟩ (.bool true)).cell? ⟨ga,j,none⟩=some (.int .u64 (ALL.getD j 0:Int)):=by
    intro j hj;rw[cell_far (by show w.heap.size≠ga;omega),wS.out.cellAt (g:=ga) (cap:=cap) j aM];unfold ew;have hjl:j<ALL.length:=by have:=HA8.out;omega
    rw[List.getElem?_map,ah hjl,ay,ah hjl];rfl
   generalize w3.setCell ⟨w.heap.size,0,none⟩ (.bool true)=w4 at hB4 hb4 hr4⊢;obtain⟨HB4,Hb4,Hr4⟩:=bj hB4 hb4 hr4;clear hB4 hb4 hr4 c0 f0;go_loopw [41] (fun v41 wr=>∃k:Nat,k≤8∧v41=.int .i64 k∧af (aD wr w.heap.size 54 #[.bool true,.int .u64 (dP ((ALL.take k).take 4):Int),.int .u64 (dP ((ALL.take k).drop 4):Int)])∧af (∀j(hj:j<8),wr.cell? ⟨ga,j,none⟩=some (.int .u64 (ALL.getD j 0:Int)))∧af (Below w.heap.size w wr)) (fun v41 _=>8-(intOf v41).toNat)
   case atStart=>exact⟨0,by omega,rfl,HB4,Hr4,Hb4⟩
   case round=>
    obtain⟨k,hk,rfl,hB,hr,hb⟩:=hrel;by_cases hlt:k<8
    ·have hkl:k<ALL.length:=by have:=HA8.out;omega
     have cx:=hr.out k hlt;have hX:ALL.getD k 0<65536:=by
      rw[ay,ah hkl];exact HAx.out _ (List.getElem_mem hkl)
     have a1:=hB.out.cell 1;have a2:=hB.out.cell 2;have fr:=fun i=>hB.out.frozen i
     simp at a1 a2;have hfold:=BW (A:=ALL) hkl HAx.out;generalize ALL.getD k 0=X at cx hX hfold;obtain⟨hnx,hh,hl⟩:=hfold;obtain⟨xJ,Hc⟩:=aI hnx hr.out;have hr':=fun(u:Value)(i:Nat)j(hj:j<8)=>(cell_far (w:=wr) (a:=⟨w.heap.size,i,none⟩) (c:=⟨ga,j,none⟩) (u:=u) (by show w.heap.size≠ga;omega)).trans (hr.out j hj)
     have Hr':=ae hr';clear hnx hr';obtain⟨H0,hH0⟩:∃n,n=dP ((ALL.take k).take 4):=⟨_,rfl⟩;obtain⟨L0,hL0⟩:∃n,n=dP ((ALL.take k).drop 4):=⟨_,rfl⟩;rw[←hH0]at hh a1;rw[←hL0]at hl a2;obtain⟨HH0,HL0⟩:=aI hH0 hL0;clear hH0 hL0;by_cases h4:k<4
     ·have hb48:=hh h4;have ho:=abx hb48 hX;have hw:IntKind.u64.wrap ((H0:Int)*65536)=(H0:Int)*65536:=by rw[ej];omega
      have h4':(k:Int)<4:=by omega
      clear hh hl;go_wp2_with fail
      go_roundw
      case rel=>
       have hs:=hB.out.aN 1 (.int .u64 ((H0*65536+X:Nat):Int));have hn:=xJ.out;rw[if_pos h4,←HH0.out]at hn;exact⟨k+1,by omega,by go_num,ae (by rw[hn.1,hn.2];exact hs),ae (Hr'.out _ 1),ae (hb.out.setCell (p:=⟨w.heap.size,1,none⟩) (aw _) _)⟩
      case measure=>simp[intOf];omega
     ·have hb48:=hl hlt;have ho:=abx hb48 hX;have hw:IntKind.u64.wrap ((L0:Int)*65536)=(L0:Int)*65536:=by rw[ej];omega
      have h4':¬(k:Int)<4:=by omega
      clear hh hl;go_wp2_with fail
      go_roundw
      case rel=>
       have hs:=hB.out.aN 2 (.int .u64 ((L0*65536+X:Nat):Int));have hn:=xJ.out;rw[if_neg h4,←HL0.out]at hn;exact⟨k+1,by omega,by go_num,ae (by rw[hn.1,hn.2 hlt];exact hs),ae (Hr'.out _ 2),ae (hb.out.setCell (p:=⟨w.heap.size,2,none⟩) (aw _) _)⟩
      case measure=>simp[intOf];omega
    ·obtain rfl:k=8:=by omega
     have mN:=hB.out;rw[show ALL.take 8=ALL from aT (by have:=HA8.out;omega)]at mN;have c0:=mN.cell 0;have c1:=mN.cell 1;have c2:=mN.cell 2;simp at c0 c1 c2;have fr:=fun i=>mN.frozen i
     have HB8:=ae mN;clear mN;go_wp2_with fail
     exact lQ (g:=w.heap.size) (x:=6) (y:=7) rfl HB8.out hb.out (aw _) rfl rfl rfl
def Fv(a:Ad)(k:Nat):Nat:=if k<4 then a.hi else a.lo
theorem piece_at(a:Ad)(k:Nat)(hk:k<8):(eT a).getD k 0=Fv a k/2^(48-16*(k%4))%65536:=by
 unfold Fv eT;rcases(show k=0∨k=1∨k=2∨k=3∨k=4∨k=5∨k=6∨k=7 by omega)with rfl|rfl|rfl|rfl|rfl|rfl|rfl|rfl<;>simp
theorem adC(k:Nat)(hk:k<8):bits .and .i64 (k:Int) 3=((k%4:Nat):Int):=by
 rcases(show k=0∨k=1∨k=2∨k=3∨k=4∨k=5∨k=6∨k=7 by omega)with rfl|rfl|rfl|rfl|rfl|rfl|rfl|rfl<;>kernel_rfl
def oy(K:IntKind)(L:List Nat)(k:Nat):Array Value:=((List.range 8).map fun j=>Value.int K (if j<k then(L.getD j 0:Int)else 0)).toArray
theorem KX(K:IntKind)(L:List Nat):oy K L 0=Array.replicate 8 (.int K 0):=by
 unfold oy;apply Array.ext
 ·simp
 ·intro i h1 h2;simp
theorem Pg(K:IntKind)(L:List Nat)(k:Nat)(hk:k<8):(oy K L k).setIfInBounds k (.int K (L.getD k 0:Int))=oy K L (k+1):=by
 unfold oy;apply Array.ext
 ·simp
 ·intro i h1 h2;simp only[Array.size_setIfInBounds,List.size_toArray,List.length_map,List.length_range]at h1;rw[Array.getElem_setIfInBounds (by simpa using h1)];simp only[List.getElem_toArray,List.getElem_map,List.getElem_range];by_cases h:k=i
  ·subst h;rw[if_pos rfl,if_pos aM]
  ·rw[if_neg h];by_cases h3:i<k
   ·rw[if_pos h3,if_pos aM]
   ·rw[if_neg h3,if_neg aM]
theorem y9(K:IntKind)(L:List Nat)(k j:Nat)(hj:j<8):(oy K L k)[j]? =some (.int K (if j<k then(L.getD j 0:Int)else 0)):=by
 unfold oy;rw[Array.getElem?_eq_getElem (by simpa using hj)];simp
theorem uI(K:IntKind)(L:List Nat):oy K L 8= #[.int K (L.getD 0 0:Int),.int K (L.getD 1 0:Int),.int K (L.getD 2 0:Int),.int K (L.getD 3 0:Int),.int K (L.getD 4 0:Int),.int K (L.getD 5 0:Int),.int K (L.getD 6 0:Int),.int K (L.getD 7 0:Int)]:=rfl
theorem Fz{w:World}{g:Nat}{v0 v1 v2 v3 v4 v5 v6 v7:Value}(h:aD w g 282 #[v0,v1,v2,v3,v4,v5,v6,v7]):(loadVar 282 ⟨g,0,none⟩).run ag w=.ok (.agg #[v0,v1,v2,v3,v4,v5,v6,v7]) w:=by
 have c0:=h.cell 0;have c1:=h.cell 1;have c2:=h.cell 2;have c3:=h.cell 3;have c4:=h.cell 4;have c5:=h.cell 5;have c6:=h.cell 6;have c7:=h.cell 7;simp at c0 c1 c2 c3 c4 c5 c6 c7;simp[loadVar,go_sem,c0,c1,c2,c3,c4,c5,c6,c7]
theorem KY{fn:Func}{a:Act}{W w:World}{g x:Nat}{z0 z1 z2 z3 z4 z5 z6 z7 v0 v1 v2 v3 v4 v5 v6 v7:Value}(hres:fn.results= #[.cell x 282])(hB:aD w g 282 #[z0,z1,z2,z3,z4,z5,z6,z7])(hb:Below W.heap.size W w)(hg:W.heap.size≤g)(h1:a.tmps.getD x undef=.pointer (some ⟨g,0,none⟩))(hd:a.defers=[]):bodyPost ag fn (Got (.agg #[v0,v1,v2,v3,v4,v5,v6,v7]) W) .ret a ((((((((w.setCell ⟨g,0,none⟩ v0).setCell ⟨g,1,none⟩ v1).setCell ⟨g,2,none⟩ v2).setCell ⟨g,3,none⟩ v3).setCell ⟨g,4,none⟩ v4).setCell ⟨g,5,none⟩ v5).setCell ⟨g,6,none⟩ v6).setCell ⟨g,7,none⟩ v7):=by
 have s0:aD (w.setCell ⟨g,0,none⟩ v0) g 282 #[v0,z1,z2,z3,z4,z5,z6,z7]:=hB.aN 0 v0;have s1:aD ((w.setCell ⟨g,0,none⟩ v0).setCell ⟨g,1,none⟩ v1) g 282 #[v0,v1,z2,z3,z4,z5,z6,z7]:=s0.aN 1 v1;have s2:aD (((w.setCell ⟨g,0,none⟩ v0).setCell ⟨g,1,none⟩ v1).setCell ⟨g,2,none⟩ v2) g 282 #[v0,v1,v2,z3,z4,z5,z6,z7]:=s1.aN 2 v2;have s3:aD ((((w.setCell ⟨g,0,none⟩ v0).setCell ⟨g,1,none⟩ v1).setCell ⟨g,2,none⟩ v2).setCell ⟨g,3,none⟩ v3) g 282 #[v0,v1,v2,v3,z4,z5,z6,z7]:=s2.aN 3 v3;have s4:aD (((((w.setCell ⟨g,0,none⟩ v0).setCell ⟨g,1,none⟩ v1).setCell ⟨g,2,none⟩ v2).setCell ⟨g,3,none⟩ v3).setCell ⟨g,4,none⟩ v4) g 282 #[v0,v1,v2,v3,v4,z5,z6,z7]:=s3.aN 4 v4;have s5:aD ((((((w.setCell ⟨g,0,none⟩ v0).setCell ⟨g,1,none⟩ v1).setCell ⟨g,2,none⟩ v2).setCell ⟨g,3,none⟩ v3).setCell ⟨g,4,none⟩ v4).setCell ⟨g,5,none⟩ v5) g 282 #[v0,v1,v2,v3,v4,v5,z6,z7]:=s4.aN 5 v5;have s6:aD (((((((w.setCell ⟨g,0,none⟩ v0).setCell ⟨g,1,none⟩ v1).setCell ⟨g,2,none⟩ v2).setCell ⟨g,3,none⟩ v3).setCell ⟨g,4,none⟩ v4).setCell ⟨g,5,none⟩ v5).setCell ⟨g,6,none⟩ v6) g 282 #[v0,v1,v2,v3,v4,v5,v6,z7]:=s5.aN 6 v6;have s7:aD ((((((((w.setCell ⟨g,0,none⟩ v0).setCell ⟨g,1,none⟩ v1).setCell ⟨g,2,none⟩ v2).setCell ⟨g,3,none⟩ v3).setCell ⟨g,4,none⟩ v4).setCell ⟨g,5,none⟩ v5).setCell ⟨g,6,none⟩ v6).setCell ⟨g,7,none⟩ v7) g 282 #[v0,v1,v2,v3,v4,v5,v6,v7]:=s6.aN 7 v7;exact bodyPost_ret (eV hres h1 (Fz s7)) hd ⟨rfl,((((((((hb.setCell (p:=⟨g,0,none⟩) hg v0).setCell (p:=⟨g,1,none⟩) hg v1).setCell (p:=⟨g,2,none⟩) hg v2).setCell (p:=⟨g,3,none⟩) hg v3).setCell (p:=⟨g,4,none⟩) hg v4).setCell (p:=⟨g,5,none⟩) hg v5).setCell (p:=⟨g,6,none⟩) hg v6).setCell (p:=⟨g,7,none⟩) hg v7)⟩
theorem FA(a:Ad)(ok:a.Ok)(w:World):Calls ag 215 #[.agg a.cells] w (Got (.agg (oy .u16 (eT a) 8)) w):=by
 have HP:=fun k hk=>piece_at a k hk
 have hh:=ok.hi;have hl:=ok.lo;have HS:∀k,oy .u16 (eT a) k=oy .u16 (eT a) k:=fun _=>rfl
 have hset:=fun k hk=>Pg .u16 (eT a) k hk
 generalize eT a=L at HP hset⊢;obtain⟨RV,uJ⟩:∃r,r=oy .u16 L 8:=⟨_,rfl⟩;rw[←uJ];have HRV:=ae uJ;clear uJ;clear HS ok;obtain⟨HP,O5⟩:=aI HP hset;clear hset;unfold Fv at HP;obtain⟨v,x,l⟩:=a;unfold Ad.cells;simp only at hh hl HP⊢;go_enter Tryz.func215,Tryz.ntmps215;go_wp2_with fail
 go_loopw [5] (fun i wr=>∃k:Nat,k≤8∧i=.int .i64 k∧af (aD wr w.heap.size 54 #[.bool v,.int .u64 x,.int .u64 l])∧af (aD wr (w.heap.size+1) 282 (oy .u16 L k))∧af (Below w.heap.size w wr)) (fun i _=>8-(intOf i).toNat)
 case atStart=>
  have hz:(#[.int .u16 0,.int .u16 0,.int .u16 0,.int .u16 0,.int .u16 0,.int .u16 0,.int .u16 0,.int .u16 0]:Array Value)=Array.replicate 8 (.int .u16 0):=rfl;have hz0:aD ((w.alloc (.cells #[.bool v,.int .u64 x,.int .u64 l] 54)).alloc (.cells #[.int .u16 0,.int .u16 0,.int .u16 0,.int .u16 0,.int .u16 0,.int .u16 0,.int .u16 0,.int .u16 0] 282)) (w.heap.size+1) 282 (oy .u16 L 0):=by
   rw[KX,←hz];have h:=aD.new (w.alloc (.cells #[.bool v,.int .u64 x,.int .u64 l] 54)) 282 #[.int .u16 0,.int .u16 0,.int .u16 0,.int .u16 0,.int .u16 0,.int .u16 0,.int .u16 0,.int .u16 0];simpa using h
  exact⟨0,by omega,rfl,ae ((aD.new _ _ _).alloc _),ae hz0,ae (eA _ _ _)⟩
 case round=>
  obtain⟨k,hk,rfl,hA,hR,hb⟩:=hrel;by_cases hlt:k<8
  ·have e1:=adC k hlt;obtain⟨q,hq,hq3⟩:∃q,q=k%4∧q<4:=⟨_,rfl,Nat.mod_lt _ aF⟩;rw[←hq]at e1;have e2:((48:Int)-16*(q:Int)).toNat=48-16*q:=by omega
   have hp:=HP.out k hlt;rw[←hq]at hp;have a1:=hA.out.cell 1;have a2:=hA.out.cell 2;have hcell:=(hR.out.cell k).trans (y9 .u16 L k k hlt);have hfr:=hR.out.frozen k;simp at a1 a2;have hset:=O5.out k hlt;have wv:∀y:Nat,IntKind.u16.wrap ((y:Int)/2^(48-16*q))=((y/2^(48-16*q)%65536:Nat):Int):=by
    intro y;rw[I0];generalize y/2^(48-16*q)=Y;simp[IntKind.wrap_u16]
   by_cases h4:k<4
   all_goals
    first|rw[if_pos h4]at hp|rw[if_neg h4]at hp
    first
     |(have h4':¬(3:Int)<(k:Int):=by omega)
     |(have h4':(3:Int)<(k:Int):=by omega)
    obtain⟨Hp,aby,Wv⟩:=bj hp hset wv;clear hp hq hset wv;go_wp2_with fail
    go_roundw
    case rel=>
     rw[Wv.out,←Hp.out];exact⟨k+1,by omega,by go_num,ae (hA.out.far (p:=⟨w.heap.size+1,k,none⟩) (by simp) _),ae (by rw[←aby.out];exact hR.out.aN k _),ae (hb.out.setCell (p:=⟨w.heap.size+1,k,none⟩) (by simp) _)⟩
    case measure=>simp[intOf];omega
  ·obtain rfl:k=8:=by omega
   have xW:=hR.out;have uJ:=HRV.out;rw[uI]at xW uJ;generalize L.getD 0 0=p0 at xW uJ;generalize L.getD 1 0=p1 at xW uJ;generalize L.getD 2 0=p2 at xW uJ;generalize L.getD 3 0=p3 at xW uJ;generalize L.getD 4 0=p4 at xW uJ;generalize L.getD 5 0=p5 at xW uJ;generalize L.getD 6 0=p6 at xW uJ;generalize L.getD 7 0=p7 at xW uJ;have c0:=xW.cell 0;have c1:=xW.cell 1;have c2:=xW.cell 2;have c3:=xW.cell 3;have c4:=xW.cell 4;have c5:=xW.cell 5;have c6:=xW.cell 6;have c7:=xW.cell 7;simp at c0 c1 c2 c3 c4 c5 c6 c7;have fr:=fun i=>xW.frozen i
   obtain⟨HR8,adD⟩:=aI xW uJ;clear xW uJ;go_wp2_with fail
   rw[adD.out];exact KY (g:=w.heap.size+1) (x:=2) rfl HR8.out hb.out (by simp) rfl rfl
theorem Ph(x:Nat):Lib.itoa (x:Int)=b7 x:=by
 unfold Lib.itoa;rw[if_neg aM,show((x:Int)).toNat=x by omega]
def km(L:List Nat):Nat→Int×Nat
 |0=>(-1,1)
 |k+1=>if(km L k).2<j6 (L.drop k)then((k:Int),j6 (L.drop k))else km L k
theorem Pj(L:List Nat):∀k,k≤L.length→um k (L.drop k) (km L k)=best L:=by
 intro k
 induction k with
 |zero=>intro _;rfl
 |succ k ih=>
  intro h;have e:=ih aM;rw[bz (show k<L.length by omega)]at e;unfold um at e;unfold km;rw[bz (show k<L.length by omega)];exact e
theorem KZ(L:List Nat):km L L.length=best L:=by
 have:=Pj L L.length (aw _);rwa [A8 (aw _)]at this
theorem BX(L:List Nat)(k:Nat)(h:k≤L.length): -1≤(km L k).1∧(km L k).1<(L.length:Int)∧(km L k).2≤L.length+1:=by
 induction k with
 |zero=>exact⟨show(-1:Int)≤-1 by decide,by show(-1:Int)<_;omega,by show 1≤_;omega⟩
 |succ k ih=>
  have hr:=IP (L.drop k);rw[wu]at hr;unfold km;split
  ·exact⟨by show(-1:Int)≤(k:Int);omega,by show(k:Int)<_;omega,by show j6 _≤_;omega⟩
  ·exact ih (by omega)
theorem Vi(L:List Nat)(i n:Nat)(hn:i+n≤L.length)(hz:∀j,j<n→L.getD (i+j) 0=0)(he:i+n=L.length∨L.getD (i+n) 0≠0):j6 (L.drop i)=n:=by
 induction n generalizing i with
 |zero=>
  rcases he with he|he
  ·rw[dq]at he;rw[A8 aM];rfl
  ·rcases afg i L.length with h|h
   ·rw[bz h];unfold j6;rw[dq,ay,ah h]at he;exact if_neg he
   ·rw[A8 h];rfl
 |succ n ih=>
  have h:i<L.length:=by omega
  have h0:=hz 0 aM;rw[dq,ay,ah h]at h0;rw[bz h];unfold j6;rw[if_pos (show L[i]=0 from h0),ih (i+1) aM (fun j hj=>by rw[show i+1+j=i+(j+1) by omega];exact hz (j+1) aM) (by rw[show i+1+n=i+(n+1) by omega];exact he)]
def K0(lo:Nat):Nat→List UInt8
 |0=>[]
 |k+1=>K0 lo k++b7 ((uo lo).getD k 0)++(if k<3 then [46]else [])
theorem K5(lo:Nat):K0 lo 4=mW lo:=by
 unfold mW uo;simp only[K0,uo,List.map_cons,List.map_nil];rw[jK,jK,jK,Lib.join_one];simp[dot]
theorem Pl(lo k:Nat)(hk:k<4):(uo lo).getD k 0=lo/2^(24-8*k)%256:=by
 unfold uo;rcases(show k=0∨k=1∨k=2∨k=3 by omega)with rfl|rfl|rfl|rfl<;>simp
theorem Pn(lo:Nat):∀k,(K0 lo k).length≤4*k:=by
 intro k
 induction k with
 |zero=>simp[K0]
 |succ k ih=>
  have h:(uo lo).getD k 0<1000:=by
   rcases afg k 4 with hk|hk
   ·rw[Pl lo k hk];omega
   ·rw[ay,List.getElem?_eq_none (by simp[uo];omega)];decide
  have:=uk _ h;unfold K0;generalize(uo lo).getD k 0=X at this;clear h;rw[ai,ai];split<;>simp<;>omega
theorem BZ{w:World}(env:Env w)(x:Nat)(hx:x<1000):Calls ag 213 #[.int .i64 x] w fun r w'=>r=.returned (.string ⟨(b7 x).toArray⟩)∧Below w.heap.size w w':=by
 refine(Tryz.strconv_Itoa (x:Int) aM aM w env.pow).mono ?_;rintro r w'⟨rfl,k,os,rfl⟩;rw[Ph];exact⟨rfl,Lib.below_grow _ _ (aw _) _ _⟩
def decs(L:List Nat):List (List UInt8):=L.map b7
theorem La{L:List Nat}{k:Nat}(hk:k<L.length):decs (L.take (k+1))=decs (L.take k)++[b7 (L.getD k 0)]:=by
 unfold decs;rw[aC hk,List.map_append,ay,ah hk];rfl
theorem Zr(y:Nat)(hy:y<18446744073709551616):bits .and .u64 (y:Int) 255=((y%256:Nat):Int):=by
 have h:=u64_and_nat y 255 hy aF;rw[show((255:Nat):Int)=255 from rfl]at h;rw[h,show(255:Nat)=2^8-1 from rfl,Nat.and_two_pow_sub_one_eq_mod]
theorem Lc(lo:Nat):(mW lo).length≤16:=by
 have:=Pn lo 4;rwa [K5]at this
theorem Vj{w:World}(env:Env w)(a:Ad)(ok:a.Ok)(hm:a.may=true)(h6:a.v6=false):Calls ag 171 #[.agg a.cells] w (Got (.string ⟨(mW a.lo).toArray⟩) w):=by
 obtain⟨i0,hi,hz0,hz1,hz2⟩:=info_parts pW;have Hm:=ae (kh a ok);rw[hm]at Hm;have hl:=ok.lo;obtain⟨v,x,l⟩:=a;simp only at h6 hl;subst h6;unfold Ad.cells at*;simp only at Hm⊢;clear hm ok;obtain⟨RV,uJ⟩:∃r,r=mW l:=⟨_,rfl⟩;rw[←uJ];obtain⟨HRV,mM⟩:=aI uJ env;clear uJ env;have hB0:=aD.new w 54 #[.bool false,.int .u64 x,.int .u64 l];have hb0:=boxed w (.cells #[.bool false,.int .u64 x,.int .u64 l] 54);go_enter Tryz.func171,Tryz.ntmps171;go_wp2_with(go_at_call 212;(with_reducible refine(Hm.out _).mono ?_);rintro r w1⟨rfl,g1⟩;have hb1:=after hb0 g1;have hB1:=hB0.below g1 hB0.lt;have a0:=hB1.cell 0;simp at a0)
 clear a0;obtain⟨HB1,Hb1⟩:=aI hB1 hb1;clear hB0 hb0 hB1 hb1;go_loopw [3,19] (fun v i wr=>∃k:Nat,k≤4∧i=.int .i64 k∧af (wr.ownsRow (w.heap.size+1) 9 1 v k ((strs (decs ((uo l).take k))).map cC))∧af (aD wr w.heap.size 54 #[.bool false,.int .u64 x,.int .u64 l])∧af (Below w.heap.size w wr)) (fun _ i _=>4-(intOf i).toNat)
 case atStart=>exact⟨0,by omega,rfl,ae (a8 _ _ _ _),HB1,Hb1⟩
 case round=>
  obtain⟨k,hk,rfl,hown,hB,hb⟩:=hrel;have hsz:=hB.out.lt;by_cases hlt:k<4
  ·have hp:=Pl l k hlt;have hs:=La (L:=uo l) (k:=k) hlt;have hq:(strs (decs ((uo l).take (k+1)))).map cC=(strs (decs ((uo l).take k))).map cC++[.string ⟨(b7 ((uo l).getD k 0)).toArray⟩]:=by rw[hs,xT]
   rw[hp]at hq;have Hq:=ae hq;clear hs hq hp;have e1:((24:Int)-8*(k:Int)).toNat=24-8*k:=by omega
   have e2:=I0 l (24-8*k);have hy:l/2^(24-8*k)<18446744073709551616:=Nat.lt_of_le_of_lt (Nat.div_le_self _ _) hl;have e3:=Zr _ hy;generalize l/2^(24-8*k)=Y at Hq e2 hy e3;have hX:Y%256<1000:=by omega
   have hX2:Y%256<256:=by omega
   generalize Y%256=X at Hq e3 hX hX2;clear hy;have HF:=ae (BZ (w:=wr) (mM.out.below hb.out) X hX);obtain⟨-,-,a2⟩:=iE hB;go_wp2_with(first
    |(go_at_call 213;(with_reducible refine HF.out.mono ?_);rintro r w2⟨rfl,g2⟩;obtain⟨ho2,hB2⟩:=aI (own_below hown.out g2) (hB.out.below g2 hsz);have hb2:=aU hb g2;clear g2 a2)
    |(at_builtin;refine wpList_append_own _ rfl _ _ 41 rfl (w.heap.size+1) 9 i0 (.string iy) 1 16 Tryz.underlying41 hi hz0 hz1 hz2 rfl aF _ k _ rfl (ho2.out.alloc _) ⟨w2.heap.size,0,none⟩ 1 1 [.string ⟨(b7 X).toArray⟩] rfl rfl (cell_one_new _ _ _) (fun x hx=>by simp at hx;subst hx;rfl) (by unfold maxLen;omega) aM (by have:=hB2.out.lt;simp;omega) ?_;intro v' w3 hown' hgrow3 hnil3;have Va:=ae hown';have hB3:=ae ((hB2.out.alloc _).grown hgrow3 (fun e=>by have:=(ho2.out.lt _ e.symm).1;omega));have hb3:=ae ((hb2.out.alloc (hb2.out.size) _).grown hgrow3 (by have:=hb2.out.size;simp;omega) (fun q hq=>by have:=(ho2.out.lt q hq).1;omega));clear hown' hgrow3 hnil3))
   go_roundw
   case rel=>exact⟨k+1,by omega,by go_num,ae (by rw[Hq.out];exact Va.out),hB3,hb3⟩
   case measure=>simp[intOf];omega
  ·obtain rfl:k=4:=by omega
   have hown:=hown.out;rw[show(uo l).take 4=uo l from rfl]at hown;have HJ:=ae (BL (w:=wr) (L:=decs (uo l)) 46 hown (by simp[decs,uo]) (by have:=Lc l;unfold mW at this;exact au this aF));clear hown;go_wp2_with(go_at_call 214;(with_reducible refine HJ.out.mono ?_);rintro r w2⟨rfl,g2⟩;have hb2:=aU hb g2;clear g2)
   go_ret;exact⟨by rw[HRV.out];rfl,hb2.out⟩
theorem FC(g:Nat)(W:World):(Instr.sliceAt 282 (.pointer (some ⟨g,0,none⟩)) none none none).run ag W=.ok (.slice (some ⟨g,0,none⟩) 8 8) W:=by
 have ha:ag.arrayLen 282=8:=by kernel_rfl
 have hu:ag.underlying 282=some (.array (ag.arrayLen 282) (ag.elem 282)):=by kernel_rfl
 have hs:(sizeOf (ag.elem 282)).run ag W=.ok 1 W:=by kernel_rfl
 rw[run_sliceAt_array_all W _ _ hu,hs,ha];rfl
theorem Ld(g n:Nat)(hn:n≤8)(W:World):(Instr.sliceAt 282 (.pointer (some ⟨g,0,none⟩)) none (some (.int .i64 n)) none).run ag W=.ok (.slice (some ⟨g,0,none⟩) n 8) W:=by
 have ha:ag.arrayLen 282=8:=by kernel_rfl
 have hu:ag.underlying 282=some (.array (ag.arrayLen 282) (ag.elem 282)):=by kernel_rfl
 have hs:(sizeOf (ag.elem 282)).run ag W=.ok 1 W:=by kernel_rfl
 rw[run_sliceAt_array_h W _ _ hu .i64 (n:Int) aM (by rw[ha];omega),hs,ha];rfl
theorem B5(g n:Nat)(hn:n≤8)(W:World):(Instr.sliceAt 282 (.pointer (some ⟨g,0,none⟩)) (some (.int .i64 n)) none none).run ag W=.ok (.slice (some ⟨g,if n=8 then 0 else n,none⟩) (8-n) (8-n)) W:=by
 have ha:ag.arrayLen 282=8:=by kernel_rfl
 have hu:ag.underlying 282=some (.array (ag.arrayLen 282) (ag.elem 282)):=by kernel_rfl
 have hs:(sizeOf (ag.elem 282)).run ag W=.ok 1 W:=by kernel_rfl
 rw[run_sliceAt_array_l W _ _ hu .i64 (n:Int) aM (by rw[ha];omega),hs,ha];show Result.ok (Value.slice (some (if 8=n then(⟨g,0,none⟩:Addr)else(⟨g,0,none⟩:Addr).add (n*1))) (8-n) (8-n)) W=_;by_cases e:n=8
 ·subst e;rfl
 ·rw[if_neg (fun h=>e h.symm),if_neg e];have e2:(⟨g,0,none⟩:Addr).add (n*1)=⟨g,n,none⟩:=by unfold Addr.add;split<;>simp_all
  rw[e2]
theorem rp{W v:World}{g:Nat}{L:List Nat}(hL8:L.length=8)(hL:∀x∈L,x<65536)(env:Env W)(hB:aD W g 282 (oy .u16 L 8))(hv:Below W.heap.size W v)(o n c:Nat)(hn:o+n≤8)(M:List Nat)(hM:M=(L.drop o).take n):Calls ag 216 #[.slice (some ⟨g,o,none⟩) n c] v (Got (.string ⟨(gV M).toArray⟩) v):=by
 have hlen:M.length=n:=by rw[hM,wy,wu];omega
 have:=KO (w:=v) (env.below hv) g o c M (fun x hx=>hL x (by rw[hM]at hx;exact List.mem_of_mem_drop (List.mem_of_mem_take hx))) aM (Nat.lt_of_lt_of_le hB.lt hv.size) (fun j hj=>by
  have h:=(aD.below hB hv hB.lt).cell (o+j);rw[h,y9 _ _ _ _ aM,if_pos aM,hM,ay,ay,List.getElem?_take,if_pos aM,List.getElem?_drop])
 rw[hlen]at this;exact this
theorem Vk{w:World}(env:Env w)(a:Ad)(ok:a.Ok)(h6:a.v6=true):Calls ag 171 #[.agg a.cells] w (Got (.string ⟨(se (eT a)).toArray⟩) w):=by
 have Hm:=ae (kh a ok);rw[Zb h6]at Hm;have HP:=ae (FA a ok);have hL8:=iR a;have hL:=nQ a;generalize eT a=L at HP hL8 hL⊢;obtain⟨Og,HL⟩:=aI hL8 hL;clear hL8 hL ok;obtain⟨v,x,l⟩:=a;simp only at h6;subst h6;unfold Ad.cells at*;simp only at Hm HP⊢;obtain⟨RV,uJ⟩:∃r,r=(⟨(se L).toArray⟩:ByteArray):=⟨_,rfl⟩;rw[←uJ];obtain⟨HRV,mM⟩:=aI uJ env;clear uJ env;have hB0:=aD.new w 54 #[.bool true,.int .u64 x,.int .u64 l];have hb0:=boxed w (.cells #[.bool true,.int .u64 x,.int .u64 l] 54);have e8:=uI .u16 L;generalize L.getD 0 0=p0 at e8;generalize L.getD 1 0=p1 at e8;generalize L.getD 2 0=p2 at e8;generalize L.getD 3 0=p3 at e8;generalize L.getD 4 0=p4 at e8;generalize L.getD 5 0=p5 at e8;generalize L.getD 6 0=p6 at e8;generalize L.getD 7 0=p7 at e8;rw[e8]at HP;have E8:=ae e8;clear e8;go_enter Tryz.func171,Tryz.ntmps171;go_wp2_with(first
  |(go_at_call 212;(with_reducible refine(Hm.out _).mono ?_);rintro r w1⟨rfl,g1⟩;have hb1:=after hb0 g1;have hB1:=hB0.below g1 hB0.lt;have a0:=hB1.cell 0;have a1:=hB1.cell 1;have a2:=hB1.cell 2;simp at a0 a1 a2)
  |(go_at_call 215;(with_reducible refine(HP.out _).mono ?_);rintro r w2⟨rfl,g2⟩;have hb2:=after hb1 g2;clear a0 a1 a2))
 have hR0:aD (w2.alloc (.cells #[.int .u16 p0,.int .u16 p1,.int .u16 p2,.int .u16 p3,.int .u16 p4,.int .u16 p5,.int .u16 p6,.int .u16 p7] 282)) w2.heap.size 282 (oy .u16 L 8):=by
  rw[E8.out];exact aD.new _ _ _
 have hb3:=after hb2 (boxed w2 (.cells #[.int .u16 p0,.int .u16 p1,.int .u16 p2,.int .u16 p3,.int .u16 p4,.int .u16 p5,.int .u16 p6,.int .u16 p7] 282));generalize w2.alloc (.cells #[.int .u16 p0,.int .u16 p1,.int .u16 p2,.int .u16 p3,.int .u16 p4,.int .u16 p5,.int .u16 p6,.int .u16 p7] 282)=W0 at hR0 hb3⊢;generalize w2.heap.size=g at hR0⊢;obtain⟨HR0,Hb3⟩:=aI hR0 hb3;clear hB0 hb0 hB1 hb1 hb2 hR0 hb3;have hcell:=fun i(hi:i<8)=>(HR0.out.cell i).trans (y9 .u16 L 8 i hi)
 have mF:=ae hcell;clear hcell
 go_loop [6,7,39] (fun v6 v7 v39=>∃k:Nat,k≤8∧v39=.int .i64 k∧v6=.int .i64 (km L k).1∧v7=.int .i64 ((km L k).2:Int)) (fun _ _ v39=>8-(intOf v39).toNat)
 case atStart=>exact⟨0,by omega,rfl,rfl,rfl⟩
 case round=>
  obtain⟨k,hk,rfl,rfl,rfl⟩:=hrel;by_cases hlt:k<8
  ·obtain⟨B,hB⟩:∃b,b=km L k:=⟨_,rfl⟩;have hnext:km L (k+1)=if B.2<j6 (L.drop k)then((k:Int),j6 (L.drop k))else B:=by rw[hB];rfl
   rw[←hB];obtain⟨abz,HB⟩:=aI hnext hB;clear hB hnext;obtain⟨b1,b2⟩:=B;go_wp2_with fail
   go_loop [9] (fun v9=>∃n:Nat,k+n≤8∧v9=.int .i64 n∧af (∀j,j<n→L.getD (k+j) 0=0)) (fun v9=>8-(intOf v9).toNat)
   case atStart=>exact⟨0,by omega,rfl,ae (fun j h=>by omega)⟩
   case round=>
    obtain⟨n,hn,rfl,hz⟩:=hrel;have e1:((k:Int)+(n:Int)).toNat=k+n:=by omega
    by_cases hgo:k+n<8∧L.getD (k+n) 0=0
    ·obtain⟨hs,h0⟩:=hgo;have cx:=mF.out (k+n) hs;rw[if_pos hs,h0]at cx;have H0:=ae h0;have hs':(k:Int)+(n:Int)<8:=by omega
     clear h0;go_wp2_with fail
     go_round
     case rel=>exact⟨n+1,by omega,by go_num,ae (fun j hj=>by
      by_cases e:j=n
      ·rw[e];exact H0.out
      ·exact hz.out j aM)⟩
     case measure=>simp[intOf];omega
    ·have hrun:j6 (L.drop k)=n:=Vi L k n (by have:=Og.out;omega) hz.out (by
      have:=Og.out;rcases afg (k+n) 8 with h|h
      ·exact Or.inr (fun h0=>hgo ⟨h,h0⟩)
      ·exact Or.inl aM)
     have hnx:=abz.out;rw[hrun]at hnx;have xJ:=ae hnx;clear hrun hnx;by_cases hs:k+n<8
     ·have cx:=mF.out (k+n) hs;rw[if_pos hs]at cx;have h0:L.getD (k+n) 0≠0:=fun h0=>hgo ⟨hs,h0⟩
      have hs':(k:Int)+(n:Int)<8:=by omega
      clear hgo;generalize L.getD (k+n) 0=X at cx h0;have hq:((X:Int)==0)=false:=by simp;omega
      clear h0;by_cases hgt:b2<n
      all_goals
       have Hg:=ae hgt;go_wp2_with fail
       go_round
       case rel=>
        refine⟨k+1,by omega,by go_num,?_,?_⟩
        all_goals(rw[xJ.out];first|rw[if_pos Hg.out]|rw[if_neg Hg.out])
       case measure=>simp[intOf];omega
     ·have hs':¬(k:Int)+(n:Int)<8:=by omega
      clear hgo;by_cases hgt:b2<n
      all_goals
       have Hg:=ae hgt;go_wp2_with fail
       go_round
       case rel=>
        refine⟨k+1,by omega,by go_num,?_,?_⟩
        all_goals(rw[xJ.out];first|rw[if_pos Hg.out]|rw[if_neg Hg.out])
       case measure=>simp[intOf];omega
  ·obtain rfl:k=8:=by omega
   have hall:km L 8=best L:=by have:=KZ L;rwa [Og.out]at this
   have hrg:=BX L 8 (by have:=Og.out;omega);have hok:=U1 L;have htx:RV=⟨(if(best L).1<0 then gV L else gV (L.take (best L).1.toNat)++(58::58::gV (L.drop ((best L).1.toNat+(best L).2)))).toArray⟩:=HRV.out;have h1:=hok.le;have h2:=hok.one;rw[hall]at hrg;rw[hall];rw[Og.out]at hrg h1;clear hall hok;generalize best L=B at hrg htx h1 h2⊢;obtain⟨b1,b2⟩:=B;simp only at hrg htx h1 h2⊢;by_cases hneg:b1<0
   ·rw[if_pos hneg]at htx;have Htx:=ae htx;clear htx h1 hrg;have HJ:=ae (rp Og.out HL.out (mM.out.below Hb3.out) HR0.out (Below.refl _ _) 0 8 8 aM L (by rw[List.drop_zero];exact(aT (by have:=Og.out;omega)).symm));have hsl:=FC g;go_wp2_with(go_at_call 216;(with_reducible refine HJ.out.mono ?_);rintro r w9⟨rfl,g9⟩;have Zq:=aU Hb3 g9;clear g9)
    go_ret;exact⟨show Ending.returned (.string ⟨(gV L).toArray⟩)=_ by rw[Htx.out],Zq.out⟩
   ·rw[if_neg hneg]at htx;obtain⟨A,rfl⟩:∃A:Nat,b1=(A:Int):=⟨b1.toNat,by omega⟩;have h3:=h1 aM;rw[show((A:Int)).toNat=A by omega]at h3 htx;have HJ1:=fun v hv=>rp (v:=v) Og.out HL.out (mM.out.below Hb3.out) HR0.out hv 0 A 8 aM (L.take A) (by rw[List.drop_zero])
    have HJ2:=fun v hv=>rp (v:=v) Og.out HL.out (mM.out.below Hb3.out) HR0.out hv (if A+b2=8 then 0 else A+b2) (8-(A+b2)) (8-(A+b2)) (by split<;>omega) (L.drop (A+b2)) (by
     have h8:=Og.out;split
     ·next e=>rw[e,List.take_zero,A8 aM]
     ·exact(aT (by rw[wu];omega)).symm)
    have l1:=pq (L:=L.take A) (lM HL.out) (by rw[wy];have:=Og.out;omega);have l2:=pq (L:=L.drop (A+b2)) (tD HL.out) (by rw[wu];have:=Og.out;omega);have hsl1:=Ld g A aM;have hsl2:=B5 g (A+b2) aM;rw[show((A+b2:Nat):Int)=(A:Int)+(b2:Int) by omega]at hsl2;have hwr:IntKind.i64.wrap ((A:Int)+(b2:Int))=(A:Int)+(b2:Int):=IntWalk.i64_in _ aM;generalize(if A+b2=8 then 0 else A+b2)=O at HJ2 hsl2;generalize 8-(A+b2)=N at HJ2 hsl2;generalize gV (L.take A)=J1 at HJ1 l1 htx;generalize gV (L.drop (A+b2))=J2 at HJ2 l2 htx;obtain⟨S1,hS1⟩:∃S,S=(⟨J1.toArray⟩:ByteArray):=⟨_,rfl⟩;obtain⟨S2,hS2⟩:∃S,S=(⟨J2.toArray⟩:ByteArray):=⟨_,rfl⟩;have s1:S1.size≤40:=by rw[hS1];simpa[afe]using l1
    have s2:S2.size≤40:=by rw[hS2];simpa[afe]using l2
    have hrv:RV=S1++⟨#[58,58]⟩++S2:=by
     rw[htx,hS1,hS2];apply ByteArray.ext;simp
    rw[←hS1]at HJ1;rw[←hS2]at HJ2;obtain⟨Hrv,HJA,HJB⟩:=bj hrv HJ1 HJ2;clear htx hS1 hS2 hrv HJ1 HJ2 l1 l2 h1 hrg hneg;go_wp2_with fail
    have hv:=(Below.refl W0.heap.size W0).drew;have z1:¬9223372036854775807<S1.size+2:=by omega
    have z2:¬9223372036854775807<S1.size+2+S2.size:=by omega
    go_region_held3 (fun _=>True) (trivial)
     (first
       |(go_at_call 216;(with_reducible refine(HJA.out _ hv).mono ?_);rintro r w8⟨rfl,g8⟩;have hv8:=after hv g8;have hv:=hv8)
       |(go_at_call 216;(with_reducible refine(HJB.out _ hv).mono ?_);rintro r w9⟨rfl,g9⟩;have hv9:=after hv g9;have hv:=hv9))
    all_goals go_wp2_with fail
    go_ret;exact⟨show Ending.returned (.string (S1++⟨#[58,58]⟩++S2))=_ by rw[Hrv.out],after Hb3.out hv⟩
def fU(a:Ad):ByteArray:=⟨(fS a).toArray⟩
theorem qe{w:World}(env:Env w)(a:Ad)(ok:a.Ok):Calls ag 171 #[.agg a.cells] w (Got (.string (fU a)) w):=by
 cases hm:a.may with
 |false=>
  have Hm:=ae (kh a ok);rw[hm]at Hm;have e:fU a=⟨#[]⟩:=by unfold fU;rw[Kv hm]
  rw[e];obtain⟨v,x,l⟩:=a;unfold Ad.cells at*;simp only at Hm⊢;clear e hm ok env;have hb0:=boxed w (.cells #[.bool v,.int .u64 x,.int .u64 l] 54);go_enter Tryz.func171,Tryz.ntmps171;go_wp2_with(go_at_call 212;(with_reducible refine(Hm.out _).mono ?_);rintro r w1⟨rfl,g1⟩;have hb1:=after hb0 g1)
  go_ret;exact⟨rfl,hb1⟩
 |true=>
  cases h6:a.v6 with
  |false=>
   have:=Vj env a ok hm h6;unfold fU;rwa [IQ hm h6]
  |true=>
   have:=Vk env a ok h6;unfold fU;rwa [IU h6]
theorem gA.any{Lo:Option (List Nat)}{W w':World}{r:Ending}(h:gA Lo W r w'):∃(v:Value)(L:List Nat),r=.returned (.tuple #[v,.bool Lo.isSome])∧w'.ownsRow W.heap.size 22 1 v L.length (ew L)∧(Lo=some L∨(Lo=none∧L=[]))∧Below W.heap.size W w':=by
 unfold gA at h;cases Lo with
 |none=>exact⟨.slice none 0 0,[],h.1,a8 _ _ _ _,Or.inr ⟨rfl,rfl⟩,h.2⟩
 |some L=>
  obtain⟨⟨v,hr,ho⟩,hb⟩:=h;exact⟨v,L,hr,ho,Or.inl rfl,hb⟩
theorem below_drewN(w:World)(n:Nat):Below w.heap.size w (w.drewN n):=⟨rfl,rfl,rfl,aw _,fun _ _=>rfl⟩
theorem tJ(s sep:List UInt8):(Lib.cut s sep).1.length≤s.length∧(Lib.cut s sep).2.1.length≤s.length:=by
 unfold Lib.cut;split
 ·simp;omega
 ·simp
theorem adF{h x:Nat}(hh:h<72057594037927936)(hx:x<256):bits .or .u64 ((h:Int)*256) (x:Int)=((h*256+x:Nat):Int):=by
 have e:=u64_or_nat (h*256) x aM aM;rw[show(h:Int)*256=((h*256:Nat):Int) by omega,e];have:=Nat.shiftLeft_add_eq_or_of_lt (i:=8) (b:=x) aM h;rw[Nat.shiftLeft_eq]at this;rw[show(256:Nat)=2^8 from rfl,←this]
theorem FG(l:List Nat)(x:Nat):fC (l++[x])=fC l*256+x:=by unfold fC;rw[List.foldl_append];rfl
theorem sE{l:List Nat}(h:∀x∈l,x<256)(hl:l.length≤4):fC l<4294967296:=by
 have:=BD l 0 1 h aF;have h2:256^l.length≤256^4:=ae6 aF hl;unfold fC;omega
def Yt(o:Option Ad):Value:=match o with
 |none=>.tuple #[.agg #[.bool false,.int .u64 0,.int .u64 0],.int .i64 8]
 |some a=>.tuple #[.agg a.cells,.int .i64 0]
theorem nW{a:Ad}{s:ByteArray}:fU a=s↔fS a=s.data.toList:=by
 constructor
 ·intro h;rw[←h];unfold fU;simp
 ·intro h;unfold fU;rw[h]
theorem abA{v:World}(env:Env v)(s:ByteArray)(hs:s.size≤2000000)(c:UInt8):Calls ag 316 #[.string s,.string ⟨#[c]⟩,.int .i64 10,.int .u64 255] v (gA (cV c 10 256 s.data.toList) v):=sA env s hs c 10 255 aF aF (fun v e t ht=>U7 e t ht)
theorem Pq{v:World}(env:Env v)(s:ByteArray)(hs:s.size≤2000000)(c:UInt8):Calls ag 316 #[.string s,.string ⟨#[c]⟩,.int .i64 16,.int .u64 65535] v (gA (cV c 16 65536 s.data.toList) v):=sA env s hs c 16 65535 aF aF (fun v e t ht=>adw e t ht)
theorem Vl(t:List UInt8):(⟨t.toArray⟩:ByteArray).toList.isEmpty=t.isEmpty:=by
 rw[ByteArray.toList_eq]
end Go.Proofs.YteflnojjjdkgmaaGreatDoor
