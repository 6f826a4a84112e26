/- Joined out of: IpL IpLb IpQ IpS IpT WhB TwC TxF TwD TwE RdA GsC. -/
import Derived.Test.YtdfnhljccdoncaaGreatDoorNae
set_option linter.unusedVariables false
set_option linter.unusedSimpArgs false
set_option maxHeartbeats 16000000
set_option maxRecDepth 100000
open ByteArray renaming empty→sA,size→agj
open Go.IntKind renaming wrap_u64→kR
open Go.Lib renaming hid→ae,decDigits→dH
open Go.Proofs.Tryz renaming prog→ai
open Go.RowKit renaming Hid→af
open Go.Value renaming string→bU
open Go.World renaming ownsRow_nil→bK
open List renaming getElem?_eq_getElem→ag,length_append→aj,take_succ_eq_append_getElem→aA,getD_eq_getElem?_getD→aB,take_of_length_le→aO,replicate→aS,drop_eq_getElem_cons→bP,length_drop→Z5,length_take→ab6,drop_of_length_le→afu
open Nat renaming le_refl→aw,le_trans→ax,add_zero→cN,pow_le_pow_right→agc,lt_or_ge→agl
namespace Go.Proofs.YtdfnhljccdoncaaGreatDoor
open Go.RowKit
attribute [local go_sem↓] Go.wp_at_zero Go.wp_at_succ
theorem jk(s:ByteArray)(i j:Nat):(s.extract i j).size=min j s.size-i:=by rw[ByteArray.size_extract]
theorem acr{s:ByteArray}{k n:Nat}(h:k+n≤s.size):rc (s.extract k s.size) 0 n=s.extract k (k+n)∧nZ (s.extract k s.size) 0 n=s.extract (k+n) s.size∧nk (s.extract k s.size) 0 n=0:=by
 have hs:n≤(s.extract k s.size).size:=by rw[jk];omega
 refine⟨?_,?_,?_⟩
 ·unfold rc;rw[if_pos ⟨rfl,hs⟩,ByteArray.extract_extract];congr 1;omega
 ·unfold nZ;rw[if_pos ⟨rfl,hs⟩,ByteArray.extract_extract,jk];congr 1;omega
 ·unfold nk;rw[if_pos rfl,if_pos hs]
structure St(W:World)(r b:Nat)(s:ByteArray)(k:Nat)(Z:Array Value)(T:TypeId)(w:World):Prop where
 rd:Rd w b (s.extract k s.size) 0
 blk:aG w r T Z
 bel:Below W.heap.size W w
structure Sh(W:World)(r b:Nat)(s:ByteArray)(k:Nat)(Z:Array Value)(T:TypeId)(w:World):Prop where
 rd:∃s' f,Rd w b s' f∧s'.size≤4000000∧(f=7∨(f=0∧s'.size+k=s.size))
 blk:aG w r T Z
 bel:Below W.heap.size W w
section
variable{W w w':World}{r b k:Nat}{s:ByteArray}{Z:Array Value}{T:TypeId}
theorem St.step(h:St W r b s k Z T w)(hr:r≠b)(hB:W.heap.size≤b){n:Nat}(hk:k+n≤s.size)(h1:Rd w' b (nZ (s.extract k s.size) 0 n) (nk (s.extract k s.size) 0 n))(hK:Keeps (fun k=>k=b) w w'):St W r b s (k+n) Z T w':=by
 obtain⟨_,e2,e3⟩:=acr hk;rw[e2,e3]at h1;exact⟨h1,h.blk.keep hK hr,h.bel.trans (hK.below (fun k hk=>by rw[hk];exact hB) h.bel.size)⟩
theorem Sh.step(h:Sh W r b s k Z T w)(hr:r≠b)(hB:W.heap.size≤b){n:Nat}{s':ByteArray}{f:Nat}(hs:s'.size≤4000000)(hf:f=7∨(f=0∧s'.size+k=s.size))(h1:Rd w' b (nZ s' f n) (nk s' f n))(hK:Keeps (fun k=>k=b) w w'):Sh W r b s (k+n) Z T w':=by
 refine⟨⟨_,_,h1,?_,?_⟩,h.blk.keep hK hr,h.bel.trans (hK.below (fun k hk=>by rw[hk];exact hB) h.bel.size)⟩
 ·unfold nZ;split
  ·rw[jk];omega
  ·exact hs
 ·rcases hf with rfl|⟨rfl,hf⟩
  ·exact Or.inl (by unfold nk;rw[if_neg aI])
  ·by_cases hn:n≤s'.size
   ·refine Or.inr ⟨by unfold nk;rw[if_pos rfl,if_pos hn],?_⟩;unfold nZ;rw[if_pos ⟨rfl,hn⟩,jk];omega
   ·exact Or.inl (by unfold nk;rw[if_pos rfl,if_neg hn])
end
def Pk.zero:Pk:=⟨⟨false,0,0⟩,⟨false,0,0⟩,0,0,sA⟩
def bt(s:ByteArray)(j:Nat):Nat:=(js s).getD j 0
theorem bq{P:Program}{fn:Func}{tmps:Array Value}{w:World}{x y:Nat}{T:TypeId}{g:Nat}{V v2:Value}(hres:fn.results= #[.cell x T,.tmp y])(h1:tmps.getD x undef=.pointer (some ⟨g,0,none⟩))(h2:tmps.getD y undef=v2)(hl:(loadVar T ⟨g,0,none⟩).run P w=.ok V w):(results fn tmps).run P w=.ok (.tuple #[V,v2]) w:=by
 have h1':tmps[x]?.getD undef=.pointer (some ⟨g,0,none⟩):=by simpa using h1
 have h2':tmps[y]?.getD undef=v2:=by simpa using h2
 simp[results,hres,h1',h2',asAddr,hl]
def At(i:Int)(P:Prop):Prop:=0≤i↔P
structure S6(W:World)(r b pc:Nat)(s:ByteArray)(k:Nat)(Z:Array Value)(T:TypeId)(w:World):Prop where
 st:St W r b s k Z T w
 ptr:aG w pc 105 #[.pointer (some ⟨b,0,none⟩)]
structure H6(W:World)(r b pc:Nat)(s:ByteArray)(k:Nat)(Z:Array Value)(T:TypeId)(w:World):Prop where
 sh:Sh W r b s k Z T w
 ptr:aG w pc 105 #[.pointer (some ⟨b,0,none⟩)]
section
variable{W w w':World}{r b pc k:Nat}{s:ByteArray}{Z:Array Value}{T:TypeId}
theorem S6.below(h:S6 W r b pc s k Z T w)(hb:Below w.heap.size w w'):S6 W r b pc s k Z T w':=⟨⟨h.st.rd.below hb,aG.below h.st.blk hb h.st.blk.lt,after h.st.bel hb⟩,aG.below h.ptr hb h.ptr.lt⟩
theorem H6.below(h:H6 W r b pc s k Z T w)(hb:Below w.heap.size w w'):H6 W r b pc s k Z T w':=by
 obtain⟨⟨⟨s',f,h0,hs,hf⟩,hB,hW⟩,hp⟩:=h;exact⟨⟨⟨s',f,h0.below hb,hs,hf⟩,aG.below hB hb hB.lt,after hW hb⟩,aG.below hp hb hp.lt⟩
theorem S6.drew(h:S6 W r b pc s k Z T w):S6 W r b pc s k Z T w.drew:=⟨⟨h.st.rd,h.st.blk,h.st.bel.drew⟩,h.ptr⟩
theorem H6.drew(h:H6 W r b pc s k Z T w):H6 W r b pc s k Z T w.drew:=⟨⟨h.sh.rd,h.sh.blk,h.sh.bel.drew⟩,h.ptr⟩
theorem S6.cell(h:S6 W r b pc s k Z T w):w.cell? ⟨pc,0,none⟩=some (.pointer (some ⟨b,0,none⟩)):=h.ptr.cell 0
theorem H6.cell(h:H6 W r b pc s k Z T w):w.cell? ⟨pc,0,none⟩=some (.pointer (some ⟨b,0,none⟩)):=h.ptr.cell 0
end
theorem od{w:World}{g:Nat}{v0 v1 v2:Value}(h:aG w g 44 #[v0,v1,v2]):(loadVar 44 ⟨g,0,none⟩).run ai w=.ok (.agg #[v0,v1,v2]) w:=by
 have c0:=h.cell 0;have c1:=h.cell 1;have c2:=h.cell 2;simp at c0 c1 c2;simp[loadVar,go_sem,c0,c1,c2]
theorem fy{P:Program}{fn:Func}{tmps:Array Value}{w:World}{x:Nat}{T:TypeId}{g:Nat}{V:Value}(hres:fn.results= #[.cell x T])(h1:tmps.getD x undef=.pointer (some ⟨g,0,none⟩))(hl:(loadVar T ⟨g,0,none⟩).run P w=.ok V w):(results fn tmps).run P w=.ok V w:=by
 have h1':tmps[x]?.getD undef=.pointer (some ⟨g,0,none⟩):=by simpa using h1
 simp[results,hres,h1',asAddr,hl]
theorem S6.far{W w:World}{r b pc k:Nat}{s:ByteArray}{Z:Array Value}{T:TypeId}(h:S6 W r b pc s k Z T w){g:Nat}(h1:b≠g)(h2:r≠g)(h3:pc≠g)(h4:W.heap.size≤g)(i:Nat)(u:Value):S6 W r b pc s k Z T (w.setCell ⟨g,i,none⟩ u):=⟨⟨aG.far h.st.rd (p:=⟨g,i,none⟩) h1 u,h.st.blk.far (p:=⟨g,i,none⟩) h2 u,h.st.bel.setCell (p:=⟨g,i,none⟩) h4 u⟩,h.ptr.far (p:=⟨g,i,none⟩) h3 u⟩
theorem H6.far{W w:World}{r b pc k:Nat}{s:ByteArray}{Z:Array Value}{T:TypeId}(h:H6 W r b pc s k Z T w){g:Nat}(h1:b≠g)(h2:r≠g)(h3:pc≠g)(h4:W.heap.size≤g)(i:Nat)(u:Value):H6 W r b pc s k Z T (w.setCell ⟨g,i,none⟩ u):=by
 obtain⟨⟨⟨s',f,h0,hs,hf⟩,hB,hW⟩,hp⟩:=h;exact⟨⟨⟨s',f,aG.far h0 (p:=⟨g,i,none⟩) h1 u,hs,hf⟩,hB.far (p:=⟨g,i,none⟩) h2 u,hW.setCell (p:=⟨g,i,none⟩) h4 u⟩,hp.far (p:=⟨g,i,none⟩) h3 u⟩
theorem aam{fn:Func}{a:Act}{W w:World}{g x y:Nat}{v0 v1 v2 u:Value}(hres:fn.results= #[.cell x 44,.tmp y])(hB:aG w g 44 #[v0,v1,v2])(hb:Below W.heap.size W w)(h1:a.tmps.getD x undef=.pointer (some ⟨g,0,none⟩))(h2:a.tmps.getD y undef=u)(hd:a.defers=[]):bodyPost ai fn (Got (.tuple #[.agg #[v0,v1,v2],u]) W) .ret a w:=bodyPost_ret (bq hres h1 h2 (od hB)) hd ⟨rfl,hb⟩
theorem three{W w:World}{g:Nat}{z0 z1 z2 v0 v1 v2:Value}(hB:aG w g 44 #[z0,z1,z2])(hb:Below W.heap.size W w)(hg:W.heap.size≤g):aG (((w.setCell ⟨g,0,none⟩ v0).setCell ⟨g,1,none⟩ v1).setCell ⟨g,2,none⟩ v2) g 44 #[v0,v1,v2]∧Below W.heap.size W (((w.setCell ⟨g,0,none⟩ v0).setCell ⟨g,1,none⟩ v1).setCell ⟨g,2,none⟩ v2):=by
 have s0:aG (w.setCell ⟨g,0,none⟩ v0) g 44 #[v0,z1,z2]:=hB.aM 0 v0;have s1:aG ((w.setCell ⟨g,0,none⟩ v0).setCell ⟨g,1,none⟩ v1) g 44 #[v0,v1,z2]:=s0.aM 1 v1;have s2:aG (((w.setCell ⟨g,0,none⟩ v0).setCell ⟨g,1,none⟩ v1).setCell ⟨g,2,none⟩ v2) g 44 #[v0,v1,v2]:=s1.aM 2 v2;exact⟨s2,((hb.setCell (p:=⟨g,0,none⟩) hg v0).setCell (p:=⟨g,1,none⟩) hg v1).setCell (p:=⟨g,2,none⟩) hg v2⟩
theorem mf{fn:Func}{a:Act}{W w:World}{g x y:Nat}{z0 z1 z2 v0 v1 v2 u:Value}(hres:fn.results= #[.cell x 44,.tmp y])(hB:aG w g 44 #[z0,z1,z2])(hb:Below W.heap.size W w)(hg:W.heap.size≤g)(h1:a.tmps.getD x undef=.pointer (some ⟨g,0,none⟩))(h2:a.tmps.getD y undef=u)(hd:a.defers=[]):bodyPost ai fn (Got (.tuple #[.agg #[v0,v1,v2],u]) W) .ret a (((w.setCell ⟨g,0,none⟩ v0).setCell ⟨g,1,none⟩ v1).setCell ⟨g,2,none⟩ v2):=aam hres (three hB hb hg).1 (three hB hb hg).2 h1 h2 hd
theorem acs{h x:Nat}(hh:h<281474976710656)(hx:x<65536):bits .or .u64 ((h:Int)*65536) (x:Int)=((h*65536+x:Nat):Int):=by
 have e:=u64_or_nat (h*65536) x aY aY;rw[show(h:Int)*65536=((h*65536:Nat):Int) by omega,e];have:=Nat.shiftLeft_add_eq_or_of_lt (i:=16) (b:=x) aY h;rw[Nat.shiftLeft_eq]at this;rw[show(65536:Nat)=2^16 from rfl,←this]
theorem sT(l:List Nat)(x:Nat):dU (l++[x])=dU l*65536+x:=by unfold dU;rw[List.foldl_append];rfl
theorem qi{l:List Nat}(h:∀x∈l,x<65536)(hl:l.length≤3):dU l<281474976710656:=by
 have:=ru l 0 1 h aI;have h2:65536^l.length≤65536^3:=agc aI hl;unfold dU;omega
theorem CV{A:List Nat}{k:Nat}(hk:k<A.length)(hA:∀x∈A,x<65536):(if k<4 then dU ((A.take (k+1)).take 4)=dU ((A.take k).take 4)*65536+A.getD k 0∧dU ((A.take (k+1)).drop 4)=dU ((A.take k).drop 4)else dU ((A.take (k+1)).take 4)=dU ((A.take k).take 4)∧(k<8→dU ((A.take (k+1)).drop 4)=dU ((A.take k).drop 4)*65536+A.getD k 0))∧(k<4→dU ((A.take k).take 4)<281474976710656)∧(k<8→dU ((A.take k).drop 4)<281474976710656):=by
 have hs:A.take (k+1)=A.take k++[A.getD k 0]:=by
  rw[aA hk,aB,ag hk];rfl
 have hkl:(A.take k).length=k:=by rw[ab6];omega
 refine⟨?_,fun h=>qi (lZ (lZ hA)) (by rw[ab6,hkl];omega),fun h=>qi (uc (lZ hA)) (by rw[Z5,hkl];omega)⟩;split
 ·next h=>
  rw[hs,aO (l:=A.take k) aY,aO (by rw[aj,hkl];simp;omega),sT];refine⟨rfl,?_⟩;rw[afu (by rw[aj,hkl];simp;omega),afu aY]
 ·next h=>
  rw[hs,List.take_append_of_le_length aY,List.drop_append_of_le_length aY,sT];exact⟨rfl,fun _=>rfl⟩
def aan(o:Option Ad):Value:=match o with
 |none=>.tuple #[.agg #[.bool false,.int .u64 0,.int .u64 0],.bool false]
 |some a=>.tuple #[.agg a.cells,.bool true]
theorem LI{w:World}{bf bb:Nat}{vf vb:Value}(f b:List Nat)(gap:Bool)(hof:w.ownsRow bf 22 1 vf f.length (eB f))(hob:w.ownsRow bb 22 1 vb b.length (eB b))(hf:f.length≤9)(hb9:b.length≤9)(hfx:∀x∈f,x<65536)(hbx:∀x∈b,x<65536):Calls ai 339 #[vf,vb,.bool gap] w (Got (aan (lY f b gap)) w):=by
 obtain⟨i0,hi,hz0,hz1,hz2⟩:=info_parts uV;obtain⟨Af,afF,rfl⟩:=aL hof;obtain⟨Ab,aeu,rfl⟩:=aL hob;have hB0:=aG.new w 44 #[.bool false,.int .u64 0,.int .u64 0];have hb0:=boxed w (.cells #[.bool false,.int .u64 0,.int .u64 0] 44);obtain⟨WL,hWL⟩:∃o,o=lY f b gap:=⟨_,rfl⟩;have xA:=hWL;unfold lY at xA;rw[←hWL];have HFL:Hid (f.length=f.length):=ae rfl;obtain⟨F,hF⟩:∃n,n=f.length:=⟨_,rfl⟩;obtain⟨G,hG⟩:∃n,n=b.length:=⟨_,rfl⟩;rw[←hF,←hG]at xA;rw[←hF]at hof hf;rw[←hG]at hob hb9;rw[←hF,←hG];obtain⟨Hof,Hob,HF,HG⟩:=fH hof hob hF hG;clear hof hob hWL hF hG HFL;by_cases hbad:(gap=false∧F+G≠8)∨(gap=true∧7<F+G)
 ·rw[if_pos hbad]at xA;rw[xA];clear xA;show Calls _ _ _ w (Got (.tuple #[.agg #[.bool false,.int .u64 0,.int .u64 0],.bool false]) w);cases gap with
  |false=>
   have hne:¬F+G=8:=by rcases hbad with⟨_,h⟩|⟨h,_⟩<;>simp_all
   have h1:((F:Int)+(G:Int) !=8)=true:=by simp;omega
   have h2:((F:Int)+(G:Int)==8)=false:=by simp;omega
   clear hbad hne;go_enter Tryz.func339,Tryz.ntmps339;go_wp2_with fail
   exact bodyPost_ret (bq rfl rfl rfl (od (aG.new _ _ _))) rfl ⟨rfl,boxed _ _⟩
  |true=>
   have hne:7<F+G:=by rcases hbad with⟨h,_⟩|⟨_,h⟩<;>simp_all
   have h1:(7:Int)<(F:Int)+(G:Int):=by omega
   clear hbad hne;go_enter Tryz.func339,Tryz.ntmps339;go_wp2_with fail
   exact bodyPost_ret (bq rfl rfl rfl (od (aG.new _ _ _))) rfl ⟨rfl,boxed _ _⟩
 ·rw[if_neg hbad]at xA;have hFG:F+G≤8:=by cases gap<;>simp at hbad<;>omega
  have h1:gap=false→((F:Int)+(G:Int) !=8)=false:=fun h=>by subst h;simp at hbad;simp;omega
  have h2:gap=true→¬(7:Int)<(F:Int)+(G:Int):=fun h=>by subst h;simp at hbad;omega
  obtain⟨K,hK⟩:∃k,k=8-(F+G):=⟨_,rfl⟩;have hall:∃A:List Nat,A=f++aS K 0++b∧A.length=8∧(∀x∈A,x<65536)∧eB A=eB f++aS K (.int .u64 0)++eB b:=by
   refine⟨_,rfl,?_,?_,?_⟩
   ·rw[aj,aj,List.length_replicate,←HF.out,←HG.out];omega
   ·intro x hx;rcases List.mem_append.1 hx with hx|hx
    ·rcases List.mem_append.1 hx with hx|hx
     ·exact hfx x hx
     ·rw[(List.mem_replicate.1 hx).2];decide
    ·exact hbx x hx
   ·simp[eB]
  rw[←hK]at xA;obtain⟨ALL,hA,hA8,hAx,hAc⟩:=hall;rw[←hA]at xA;rw[xA];show Calls _ _ _ w (Got (.tuple #[.agg #[.bool true,.int .u64 (dU (ALL.take 4):Int),.int .u64 (dU (ALL.drop 4):Int)],.bool true]) w);have eK:(8:Int)-((F:Int)+(G:Int))=(K:Int):=by omega
  obtain⟨HAc,HA8,HAx,HK⟩:=fH hAc hA8 hAx hK;have hz3:(Value.int IntKind.u64 0).cells= #[.int .u64 0]:=rfl;have HZ3:=ae hz3;clear xA hA hA8 hAx hAc hK hbad hz3;have hclone:=fun o=>clone_any (w:=w.alloc o) f (by rw[←HF.out];exact Hof.out.alloc o) (by rw[←HF.out];omega)
  rw[←HF.out]at hclone;have Zo:=ae hclone;clear hclone;obtain⟨v0,hv0⟩:∃v,v=w.alloc (.cells #[.bool false,.int .u64 0,.int .u64 0] 44):=⟨_,rfl⟩;rw[←hv0]at hB0 hb0;have hsz0:v0.heap.size=w.heap.size+1:=by rw[hv0];simp
  have Zo:=ae (Zo.out (.cells #[.bool false,.int .u64 0,.int .u64 0] 44));rw[←hv0]at Zo;obtain⟨HB0,Hb0,Hv0⟩:=bO hB0 hb0 hv0;clear hB0 hb0 hv0;cases gap
  all_goals
   first
    |(have h3:=h1 rfl)
    |(have h3:=h2 rfl)
   clear h1 h2;go_enter Tryz.func339,Tryz.ntmps339;go_wp2_with(go_at_call 349;fail)
   rw[←Hv0.out];refine Zo.out.mono ?_;rintro r w1⟨⟨v1,rfl,ho1⟩,hb1⟩;obtain⟨Ho1,HB1⟩:=aQ ho1 (HB0.out.below hb1 HB0.out.lt);have Hb1:=bm Hb0 hb1;have hsz1:w.heap.size+1≤w1.heap.size:=by have:=hb1.size;omega
   clear ho1 hb1;go_upto_region 5 with(first
    |(at_builtin;obtain⟨v2,w2,hr2,ho2,hg2⟩:=tK (P:=ai) w1 v0.heap.size 386 3 386 22 i0 (.int .u64 0) Tryz.underlying386 Tryz.underlying3 hi hz0 hz1 hz2 HZ3.out rfl v1 F (eB f) Ho1.out K aY aY aY;refine step_append rfl _ _ _ _ rfl rfl rfl hr2 ?_;have HB2:=ae (HB1.out.grown hg2 (fun e=>by have:=(Ho1.out.lt _ e.symm).1;omega));have Hb2:=ae (Hb1.out.grown hg2 aY (fun q hq=>by have:=(Ho1.out.lt q hq).1;omega));have hsz2:w.heap.size+1≤w2.heap.size:=ax hsz1 hg2.size;have Ho2:=ae ho2;clear hr2 ho2 hg2)
    |(at_builtin;obtain⟨v3,w3,hr3,ho3,hg3⟩:=uZ (P:=ai) w2 v0.heap.size bb 386 386 22 i0 (.int .u64 0) Tryz.underlying386 hi hz0 hz1 hz2 rfl v2 (F+K) _ Ho2.out (.slice Ab G aeu) G (eB b) (own_below Hob.out Hb2.out) (fun x hx=>by obtain⟨y,_,rfl⟩:=List.mem_map.1 hx;rfl) aY aY aY;refine step_append rfl _ _ _ _ rfl rfl rfl hr3 ?_;have HB3:=ae (HB2.out.grown hg3 (fun e=>by have:=(Ho2.out.lt _ e.symm).1;omega));have Hb3:=ae (Hb2.out.grown hg3 aY (fun q hq=>by have:=(Ho2.out.lt q hq).1;omega));have hsz3:w.heap.size+1≤w3.heap.size:=ax hsz2 hg3.size;have VP:=ae ho3;clear hr3 ho3 hg3))
   have hrow:w3.ownsRow v0.heap.size 22 1 v3 (7+1) (eB ALL):=by
    have h:=VP.out;rw[show F+K+G=7+1 by omega]at h;rw[HAc.out];exact h
   obtain⟨ga,cap,rfl⟩:=CL hrow;have hga:=hrow.lt ga rfl;have c0:=HB3.out.cell 0;have f0:=HB3.out.frozen 0;simp at c0;have xu:=ae hrow;clear hrow;go_wp2_with fail
   have hB4:aG (w3.setCell ⟨w.heap.size,0,none⟩ (.bool true)) w.heap.size 44 #[.bool true,.int .u64 0,.int .u64 0]:=HB3.out.aM 0 _;have hb4:=Hb3.out.setCell (p:=⟨w.heap.size,0,none⟩) (aw _) (.bool true);have hr4:∀j(hj:j<8),(w3.setCell ⟨w.heap.size,0,none⟩ (.bool true)).cell? ⟨ga,j,none⟩=some (.int .u64 (ALL.getD j 0:Int)):=by
    intro j hj;rw[cell_far (by show w.heap.size≠ga;omega),xu.out.cellAt (g:=ga) (cap:=cap) j aY];unfold eB;have hjl:j<ALL.length:=by have:=HA8.out;omega
    rw[List.getElem?_map,ag hjl,aB,ag hjl];rfl
   generalize w3.setCell ⟨w.heap.size,0,none⟩ (.bool true)=w4 at hB4 hb4 hr4⊢;obtain⟨HB4,Hb4,Hr4⟩:=bO hB4 hb4 hr4;clear hB4 hb4 hr4 c0 f0;go_loopw [41] (fun v41 wr=>∃k:Nat,k≤8∧v41=.int .i64 k∧af (aG wr w.heap.size 44 #[.bool true,.int .u64 (dU ((ALL.take k).take 4):Int),.int .u64 (dU ((ALL.take k).drop 4):Int)])∧af (∀j(hj:j<8),wr.cell? ⟨ga,j,none⟩=some (.int .u64 (ALL.getD j 0:Int)))∧af (Below w.heap.size w wr)) (fun v41 _=>8-(intOf v41).toNat)
   case atStart=>exact⟨0,by omega,rfl,HB4,Hr4,Hb4⟩
   case round=>
    obtain⟨k,hk,rfl,hB,hr,hb⟩:=hrel;by_cases hlt:k<8
    ·have hkl:k<ALL.length:=by have:=HA8.out;omega
     have cx:=hr.out k hlt;have hX:ALL.getD k 0<65536:=by
      rw[aB,ag hkl];exact HAx.out _ (List.getElem_mem hkl)
     have a1:=hB.out.cell 1;have a2:=hB.out.cell 2;have fr:=fun i=>hB.out.frozen i
     simp at a1 a2;have hfold:=CV (A:=ALL) hkl HAx.out;generalize ALL.getD k 0=X at cx hX hfold;obtain⟨hnx,hh,hl⟩:=hfold;obtain⟨yi,Hc⟩:=aQ hnx hr.out;have hr':=fun(u:Value)(i:Nat)j(hj:j<8)=>(cell_far (w:=wr) (a:=⟨w.heap.size,i,none⟩) (c:=⟨ga,j,none⟩) (u:=u) (by show w.heap.size≠ga;omega)).trans (hr.out j hj)
     have Hr':=ae hr';clear hnx hr';obtain⟨H0,hH0⟩:∃n,n=dU ((ALL.take k).take 4):=⟨_,rfl⟩;obtain⟨L0,hL0⟩:∃n,n=dU ((ALL.take k).drop 4):=⟨_,rfl⟩;rw[←hH0]at hh a1;rw[←hL0]at hl a2;obtain⟨HH0,HL0⟩:=aQ hH0 hL0;clear hH0 hL0;by_cases h4:k<4
     ·have hb48:=hh h4;have ho:=acs hb48 hX;have hw:IntKind.u64.wrap ((H0:Int)*65536)=(H0:Int)*65536:=by rw[kR];omega
      have h4':(k:Int)<4:=by omega
      clear hh hl;go_wp2_with fail
      go_roundw
      case rel=>
       have hs:=hB.out.aM 1 (.int .u64 ((H0*65536+X:Nat):Int));have hn:=yi.out;rw[if_pos h4,←HH0.out]at hn;exact⟨k+1,by omega,by go_num,ae (by rw[hn.1,hn.2];exact hs),ae (Hr'.out _ 1),ae (hb.out.setCell (p:=⟨w.heap.size,1,none⟩) (aw _) _)⟩
      case measure=>simp[intOf];omega
     ·have hb48:=hl hlt;have ho:=acs hb48 hX;have hw:IntKind.u64.wrap ((L0:Int)*65536)=(L0:Int)*65536:=by rw[kR];omega
      have h4':¬(k:Int)<4:=by omega
      clear hh hl;go_wp2_with fail
      go_roundw
      case rel=>
       have hs:=hB.out.aM 2 (.int .u64 ((L0*65536+X:Nat):Int));have hn:=yi.out;rw[if_neg h4,←HL0.out]at hn;exact⟨k+1,by omega,by go_num,ae (by rw[hn.1,hn.2 hlt];exact hs),ae (Hr'.out _ 2),ae (hb.out.setCell (p:=⟨w.heap.size,2,none⟩) (aw _) _)⟩
      case measure=>simp[intOf];omega
    ·obtain rfl:k=8:=by omega
     have mV:=hB.out;rw[show ALL.take 8=ALL from aO (by have:=HA8.out;omega)]at mV;have c0:=mV.cell 0;have c1:=mV.cell 1;have c2:=mV.cell 2;simp at c0 c1 c2;have fr:=fun i=>mV.frozen i
     have HB8:=ae mV;clear mV;go_wp2_with fail
     exact mf (g:=w.heap.size) (x:=6) (y:=7) rfl HB8.out hb.out (aw _) rfl rfl rfl
def Gj(a:Ad)(k:Nat):Nat:=if k<4 then a.hi else a.lo
theorem piece_at(a:Ad)(k:Nat)(hk:k<8):(eZ a).getD k 0=Gj a k/2^(48-16*(k%4))%65536:=by
 unfold Gj eZ;rcases(show k=0∨k=1∨k=2∨k=3∨k=4∨k=5∨k=6∨k=7 by omega)with rfl|rfl|rfl|rfl|rfl|rfl|rfl|rfl<;>simp
theorem aev(k:Nat)(hk:k<8):bits .and .i64 (k:Int) 3=((k%4:Nat):Int):=by
 rcases(show k=0∨k=1∨k=2∨k=3∨k=4∨k=5∨k=6∨k=7 by omega)with rfl|rfl|rfl|rfl|rfl|rfl|rfl|rfl<;>kernel_rfl
def oI(K:IntKind)(L:List Nat)(k:Nat):Array Value:=((List.range 8).map fun j=>Value.int K (if j<k then(L.getD j 0:Int)else 0)).toArray
theorem LJ(K:IntKind)(L:List Nat):oI K L 0=Array.replicate 8 (.int K 0):=by
 unfold oI;apply Array.ext
 ·simp
 ·intro i h1 h2;simp
theorem P5(K:IntKind)(L:List Nat)(k:Nat)(hk:k<8):(oI K L k).setIfInBounds k (.int K (L.getD k 0:Int))=oI K L (k+1):=by
 unfold oI;apply Array.ext
 ·simp
 ·intro i h1 h2;simp only[Array.size_setIfInBounds,List.size_toArray,List.length_map,List.length_range]at h1;rw[Array.getElem_setIfInBounds (by simpa using h1)];simp only[List.getElem_toArray,List.getElem_map,List.getElem_range];by_cases h:k=i
  ·subst h;rw[if_pos rfl,if_pos aY]
  ·rw[if_neg h];by_cases h3:i<k
   ·rw[if_pos h3,if_pos aY]
   ·rw[if_neg h3,if_neg aY]
theorem zA(K:IntKind)(L:List Nat)(k j:Nat)(hj:j<8):(oI K L k)[j]? =some (.int K (if j<k then(L.getD j 0:Int)else 0)):=by
 unfold oI;rw[Array.getElem?_eq_getElem (by simpa using hj)];simp
theorem ve(K:IntKind)(L:List Nat):oI K L 8= #[.int K (L.getD 0 0:Int),.int K (L.getD 1 0:Int),.int K (L.getD 2 0:Int),.int K (L.getD 3 0:Int),.int K (L.getD 4 0:Int),.int K (L.getD 5 0:Int),.int K (L.getD 6 0:Int),.int K (L.getD 7 0:Int)]:=rfl
theorem Gk{w:World}{g:Nat}{v0 v1 v2 v3 v4 v5 v6 v7:Value}(h:aG w g 280 #[v0,v1,v2,v3,v4,v5,v6,v7]):(loadVar 280 ⟨g,0,none⟩).run ai w=.ok (.agg #[v0,v1,v2,v3,v4,v5,v6,v7]) w:=by
 have c0:=h.cell 0;have c1:=h.cell 1;have c2:=h.cell 2;have c3:=h.cell 3;have c4:=h.cell 4;have c5:=h.cell 5;have c6:=h.cell 6;have c7:=h.cell 7;simp at c0 c1 c2 c3 c4 c5 c6 c7;simp[loadVar,go_sem,c0,c1,c2,c3,c4,c5,c6,c7]
theorem LK{fn:Func}{a:Act}{W w:World}{g x:Nat}{z0 z1 z2 z3 z4 z5 z6 z7 v0 v1 v2 v3 v4 v5 v6 v7:Value}(hres:fn.results= #[.cell x 280])(hB:aG w g 280 #[z0,z1,z2,z3,z4,z5,z6,z7])(hb:Below W.heap.size W w)(hg:W.heap.size≤g)(h1:a.tmps.getD x undef=.pointer (some ⟨g,0,none⟩))(hd:a.defers=[]):bodyPost ai fn (Got (.agg #[v0,v1,v2,v3,v4,v5,v6,v7]) W) .ret a ((((((((w.setCell ⟨g,0,none⟩ v0).setCell ⟨g,1,none⟩ v1).setCell ⟨g,2,none⟩ v2).setCell ⟨g,3,none⟩ v3).setCell ⟨g,4,none⟩ v4).setCell ⟨g,5,none⟩ v5).setCell ⟨g,6,none⟩ v6).setCell ⟨g,7,none⟩ v7):=by
 have s0:aG (w.setCell ⟨g,0,none⟩ v0) g 280 #[v0,z1,z2,z3,z4,z5,z6,z7]:=hB.aM 0 v0;have s1:aG ((w.setCell ⟨g,0,none⟩ v0).setCell ⟨g,1,none⟩ v1) g 280 #[v0,v1,z2,z3,z4,z5,z6,z7]:=s0.aM 1 v1;have s2:aG (((w.setCell ⟨g,0,none⟩ v0).setCell ⟨g,1,none⟩ v1).setCell ⟨g,2,none⟩ v2) g 280 #[v0,v1,v2,z3,z4,z5,z6,z7]:=s1.aM 2 v2;have s3:aG ((((w.setCell ⟨g,0,none⟩ v0).setCell ⟨g,1,none⟩ v1).setCell ⟨g,2,none⟩ v2).setCell ⟨g,3,none⟩ v3) g 280 #[v0,v1,v2,v3,z4,z5,z6,z7]:=s2.aM 3 v3;have s4:aG (((((w.setCell ⟨g,0,none⟩ v0).setCell ⟨g,1,none⟩ v1).setCell ⟨g,2,none⟩ v2).setCell ⟨g,3,none⟩ v3).setCell ⟨g,4,none⟩ v4) g 280 #[v0,v1,v2,v3,v4,z5,z6,z7]:=s3.aM 4 v4;have s5:aG ((((((w.setCell ⟨g,0,none⟩ v0).setCell ⟨g,1,none⟩ v1).setCell ⟨g,2,none⟩ v2).setCell ⟨g,3,none⟩ v3).setCell ⟨g,4,none⟩ v4).setCell ⟨g,5,none⟩ v5) g 280 #[v0,v1,v2,v3,v4,v5,z6,z7]:=s4.aM 5 v5;have s6:aG (((((((w.setCell ⟨g,0,none⟩ v0).setCell ⟨g,1,none⟩ v1).setCell ⟨g,2,none⟩ v2).setCell ⟨g,3,none⟩ v3).setCell ⟨g,4,none⟩ v4).setCell ⟨g,5,none⟩ v5).setCell ⟨g,6,none⟩ v6) g 280 #[v0,v1,v2,v3,v4,v5,v6,z7]:=s5.aM 6 v6;have s7:aG ((((((((w.setCell ⟨g,0,none⟩ v0).setCell ⟨g,1,none⟩ v1).setCell ⟨g,2,none⟩ v2).setCell ⟨g,3,none⟩ v3).setCell ⟨g,4,none⟩ v4).setCell ⟨g,5,none⟩ v5).setCell ⟨g,6,none⟩ v6).setCell ⟨g,7,none⟩ v7) g 280 #[v0,v1,v2,v3,v4,v5,v6,v7]:=s6.aM 7 v7;exact bodyPost_ret (fy hres h1 (Gk s7)) hd ⟨rfl,((((((((hb.setCell (p:=⟨g,0,none⟩) hg v0).setCell (p:=⟨g,1,none⟩) hg v1).setCell (p:=⟨g,2,none⟩) hg v2).setCell (p:=⟨g,3,none⟩) hg v3).setCell (p:=⟨g,4,none⟩) hg v4).setCell (p:=⟨g,5,none⟩) hg v5).setCell (p:=⟨g,6,none⟩) hg v6).setCell (p:=⟨g,7,none⟩) hg v7)⟩
theorem Gl(a:Ad)(ok:a.Ok)(w:World):Calls ai 238 #[.agg a.cells] w (Got (.agg (oI .u16 (eZ a) 8)) w):=by
 have HP:=fun k hk=>piece_at a k hk
 have hh:=ok.hi;have hl:=ok.lo;have HS:∀k,oI .u16 (eZ a) k=oI .u16 (eZ a) k:=fun _=>rfl
 have hset:=fun k hk=>P5 .u16 (eZ a) k hk
 generalize eZ a=L at HP hset⊢;obtain⟨RV,vj⟩:∃r,r=oI .u16 L 8:=⟨_,rfl⟩;rw[←vj];have HRV:=ae vj;clear vj;clear HS ok;obtain⟨HP,P1⟩:=aQ HP hset;clear hset;unfold Gj at HP;obtain⟨v,x,l⟩:=a;unfold Ad.cells;simp only at hh hl HP⊢;go_enter Tryz.func238,Tryz.ntmps238;go_wp2_with fail
 go_loopw [5] (fun i wr=>∃k:Nat,k≤8∧i=.int .i64 k∧af (aG wr w.heap.size 44 #[.bool v,.int .u64 x,.int .u64 l])∧af (aG wr (w.heap.size+1) 280 (oI .u16 L k))∧af (Below w.heap.size w wr)) (fun i _=>8-(intOf i).toNat)
 case atStart=>
  have hz:(#[.int .u16 0,.int .u16 0,.int .u16 0,.int .u16 0,.int .u16 0,.int .u16 0,.int .u16 0,.int .u16 0]:Array Value)=Array.replicate 8 (.int .u16 0):=rfl;have hz0:aG ((w.alloc (.cells #[.bool v,.int .u64 x,.int .u64 l] 44)).alloc (.cells #[.int .u16 0,.int .u16 0,.int .u16 0,.int .u16 0,.int .u16 0,.int .u16 0,.int .u16 0,.int .u16 0] 280)) (w.heap.size+1) 280 (oI .u16 L 0):=by
   rw[LJ,←hz];have h:=aG.new (w.alloc (.cells #[.bool v,.int .u64 x,.int .u64 l] 44)) 280 #[.int .u16 0,.int .u16 0,.int .u16 0,.int .u16 0,.int .u16 0,.int .u16 0,.int .u16 0,.int .u16 0];simpa using h
  exact⟨0,by omega,rfl,ae ((aG.new _ _ _).alloc _),ae hz0,ae (fe _ _ _)⟩
 case round=>
  obtain⟨k,hk,rfl,hA,hR,hb⟩:=hrel;by_cases hlt:k<8
  ·have e1:=aev k hlt;obtain⟨q,hq,hq3⟩:∃q,q=k%4∧q<4:=⟨_,rfl,Nat.mod_lt _ aI⟩;rw[←hq]at e1;have e2:((48:Int)-16*(q:Int)).toNat=48-16*q:=by omega
   have hp:=HP.out k hlt;rw[←hq]at hp;have a1:=hA.out.cell 1;have a2:=hA.out.cell 2;have hcell:=(hR.out.cell k).trans (zA .u16 L k k hlt);have hfr:=hR.out.frozen k;simp at a1 a2;have hset:=P1.out k hlt;have wv:∀y:Nat,IntKind.u16.wrap ((y:Int)/2^(48-16*q))=((y/2^(48-16*q)%65536:Nat):Int):=by
    intro y;rw[Jv];generalize y/2^(48-16*q)=Y;simp[IntKind.wrap_u16]
   by_cases h4:k<4
   all_goals
    first|rw[if_pos h4]at hp|rw[if_neg h4]at hp
    first
     |(have h4':¬(3:Int)<(k:Int):=by omega)
     |(have h4':(3:Int)<(k:Int):=by omega)
    obtain⟨Hp,acu,Wv⟩:=bO hp hset wv;clear hp hq hset wv;go_wp2_with fail
    go_roundw
    case rel=>
     rw[Wv.out,←Hp.out];exact⟨k+1,by omega,by go_num,ae (hA.out.far (p:=⟨w.heap.size+1,k,none⟩) (by simp) _),ae (by rw[←acu.out];exact hR.out.aM k _),ae (hb.out.setCell (p:=⟨w.heap.size+1,k,none⟩) (by simp) _)⟩
    case measure=>simp[intOf];omega
  ·obtain rfl:k=8:=by omega
   have yu:=hR.out;have vj:=HRV.out;rw[ve]at yu vj;generalize L.getD 0 0=p0 at yu vj;generalize L.getD 1 0=p1 at yu vj;generalize L.getD 2 0=p2 at yu vj;generalize L.getD 3 0=p3 at yu vj;generalize L.getD 4 0=p4 at yu vj;generalize L.getD 5 0=p5 at yu vj;generalize L.getD 6 0=p6 at yu vj;generalize L.getD 7 0=p7 at yu vj;have c0:=yu.cell 0;have c1:=yu.cell 1;have c2:=yu.cell 2;have c3:=yu.cell 3;have c4:=yu.cell 4;have c5:=yu.cell 5;have c6:=yu.cell 6;have c7:=yu.cell 7;simp at c0 c1 c2 c3 c4 c5 c6 c7;have fr:=fun i=>yu.frozen i
   obtain⟨HR8,aew⟩:=aQ yu vj;clear yu vj;go_wp2_with fail
   rw[aew.out];exact LK (g:=w.heap.size+1) (x:=2) rfl HR8.out hb.out (by simp) rfl rfl
theorem P6(x:Nat):Lib.itoa (x:Int)=dH x:=by
 unfold Lib.itoa;rw[if_neg aY,show((x:Int)).toNat=x by omega]
def kD(L:List Nat):Nat→Int×Nat
 |0=>(-1,1)
 |k+1=>if(kD L k).2<kr (L.drop k)then((k:Int),kr (L.drop k))else kD L k
theorem P8(L:List Nat):∀k,k≤L.length→uL k (L.drop k) (kD L k)=best L:=by
 intro k
 induction k with
 |zero=>intro _;rfl
 |succ k ih=>
  intro h;have e:=ih aY;rw[bP (show k<L.length by omega)]at e;unfold uL at e;unfold kD;rw[bP (show k<L.length by omega)];exact e
theorem LM(L:List Nat):kD L L.length=best L:=by
 have:=P8 L L.length (aw _);rwa [afu (aw _)]at this
theorem CW(L:List Nat)(k:Nat)(h:k≤L.length): -1≤(kD L k).1∧(kD L k).1<(L.length:Int)∧(kD L k).2≤L.length+1:=by
 induction k with
 |zero=>exact⟨show(-1:Int)≤-1 by decide,by show(-1:Int)<_;omega,by show 1≤_;omega⟩
 |succ k ih=>
  have hr:=Jn (L.drop k);rw[Z5]at hr;unfold kD;split
  ·exact⟨by show(-1:Int)≤(k:Int);omega,by show(k:Int)<_;omega,by show kr _≤_;omega⟩
  ·exact ih (by omega)
theorem VW(L:List Nat)(i n:Nat)(hn:i+n≤L.length)(hz:∀j,j<n→L.getD (i+j) 0=0)(he:i+n=L.length∨L.getD (i+n) 0≠0):kr (L.drop i)=n:=by
 induction n generalizing i with
 |zero=>
  rcases he with he|he
  ·rw[cN]at he;rw[afu aY];rfl
  ·rcases agl i L.length with h|h
   ·rw[bP h];unfold kr;rw[cN,aB,ag h]at he;exact if_neg he
   ·rw[afu h];rfl
 |succ n ih=>
  have h:i<L.length:=by omega
  have h0:=hz 0 aY;rw[cN,aB,ag h]at h0;rw[bP h];unfold kr;rw[if_pos (show L[i]=0 from h0),ih (i+1) aY (fun j hj=>by rw[show i+1+j=i+(j+1) by omega];exact hz (j+1) aY) (by rw[show i+1+n=i+(n+1) by omega];exact he)]
def LQ(lo:Nat):Nat→List UInt8
 |0=>[]
 |k+1=>LQ lo k++dH ((uM lo).getD k 0)++(if k<3 then [46]else [])
theorem LV(lo:Nat):LQ lo 4=mZ lo:=by
 unfold mZ uM;simp only[LQ,uM,List.map_cons,List.map_nil];rw[jW,jW,jW,Lib.join_one];simp[dot]
theorem P9(lo k:Nat)(hk:k<4):(uM lo).getD k 0=lo/2^(24-8*k)%256:=by
 unfold uM;rcases(show k=0∨k=1∨k=2∨k=3 by omega)with rfl|rfl|rfl|rfl<;>simp
theorem Qa(lo:Nat):∀k,(LQ lo k).length≤4*k:=by
 intro k
 induction k with
 |zero=>simp[LQ]
 |succ k ih=>
  have h:(uM lo).getD k 0<1000:=by
   rcases agl k 4 with hk|hk
   ·rw[P9 lo k hk];omega
   ·rw[aB,List.getElem?_eq_none (by simp[uM];omega)];decide
  have:=uK _ h;unfold LQ;generalize(uM lo).getD k 0=X at this;clear h;rw[aj,aj];split<;>simp<;>omega
theorem CX{w:World}(env:Env w)(x:Nat)(hx:x<1000):Calls ai 236 #[.int .i64 x] w fun r w'=>r=.returned (.string ⟨(dH x).toArray⟩)∧Below w.heap.size w w':=by
 refine(Tryz.strconv_Itoa (x:Int) aY aY w env.pow).mono ?_;rintro r w'⟨rfl,k,os,rfl⟩;rw[P6];exact⟨rfl,Lib.below_grow _ _ (aw _) _ _⟩
def decs(L:List Nat):List (List UInt8):=L.map dH
theorem LW{L:List Nat}{k:Nat}(hk:k<L.length):decs (L.take (k+1))=decs (L.take k)++[dH (L.getD k 0)]:=by
 unfold decs;rw[aA hk,List.map_append,aB,ag hk];rfl
theorem aao(y:Nat)(hy:y<18446744073709551616):bits .and .u64 (y:Int) 255=((y%256:Nat):Int):=by
 have h:=u64_and_nat y 255 hy aI;rw[show((255:Nat):Int)=255 from rfl]at h;rw[h,show(255:Nat)=2^8-1 from rfl,Nat.and_two_pow_sub_one_eq_mod]
theorem LX(lo:Nat):(mZ lo).length≤16:=by
 have:=Qa lo 4;rwa [LV]at this
theorem VX{w:World}(env:Env w)(a:Ad)(ok:a.Ok)(hm:a.may=true)(h6:a.v6=false):Calls ai 204 #[.agg a.cells] w (Got (.string ⟨(mZ a.lo).toArray⟩) w):=by
 obtain⟨i0,hi,hz0,hz1,hz2⟩:=info_parts qc;have Hm:=ae (kz a ok);rw[hm]at Hm;have hl:=ok.lo;obtain⟨v,x,l⟩:=a;simp only at h6 hl;subst h6;unfold Ad.cells at*;simp only at Hm⊢;clear hm ok;obtain⟨RV,vj⟩:∃r,r=mZ l:=⟨_,rfl⟩;rw[←vj];obtain⟨HRV,mU⟩:=aQ vj env;clear vj env;have hB0:=aG.new w 44 #[.bool false,.int .u64 x,.int .u64 l];have hb0:=boxed w (.cells #[.bool false,.int .u64 x,.int .u64 l] 44);go_enter Tryz.func204,Tryz.ntmps204;go_wp2_with(go_at_call 235;(with_reducible refine(Hm.out _).mono ?_);rintro r w1⟨rfl,g1⟩;have hb1:=after hb0 g1;have hB1:=hB0.below g1 hB0.lt;have a0:=hB1.cell 0;simp at a0)
 clear a0;obtain⟨HB1,Hb1⟩:=aQ hB1 hb1;clear hB0 hb0 hB1 hb1;go_loopw [3,19] (fun v i wr=>∃k:Nat,k≤4∧i=.int .i64 k∧af (wr.ownsRow (w.heap.size+1) 9 1 v k ((strs (decs ((uM l).take k))).map bU))∧af (aG wr w.heap.size 44 #[.bool false,.int .u64 x,.int .u64 l])∧af (Below w.heap.size w wr)) (fun _ i _=>4-(intOf i).toNat)
 case atStart=>exact⟨0,by omega,rfl,ae (bK _ _ _ _),HB1,Hb1⟩
 case round=>
  obtain⟨k,hk,rfl,hown,hB,hb⟩:=hrel;have hsz:=hB.out.lt;by_cases hlt:k<4
  ·have hp:=P9 l k hlt;have hs:=LW (L:=uM l) (k:=k) hlt;have hq:(strs (decs ((uM l).take (k+1)))).map bU=(strs (decs ((uM l).take k))).map bU++[.string ⟨(dH ((uM l).getD k 0)).toArray⟩]:=by rw[hs,yr]
   rw[hp]at hq;have Hq:=ae hq;clear hs hq hp;have e1:((24:Int)-8*(k:Int)).toNat=24-8*k:=by omega
   have e2:=Jv l (24-8*k);have hy:l/2^(24-8*k)<18446744073709551616:=Nat.lt_of_le_of_lt (Nat.div_le_self _ _) hl;have e3:=aao _ hy;generalize l/2^(24-8*k)=Y at Hq e2 hy e3;have hX:Y%256<1000:=by omega
   have hX2:Y%256<256:=by omega
   generalize Y%256=X at Hq e3 hX hX2;clear hy;have HF:=ae (CX (w:=wr) (mU.out.below hb.out) X hX);obtain⟨-,-,a2⟩:=oM hB;go_wp2_with(first
    |(go_at_call 236;(with_reducible refine HF.out.mono ?_);rintro r w2⟨rfl,g2⟩;obtain⟨ho2,hB2⟩:=aQ (own_below hown.out g2) (hB.out.below g2 hsz);have hb2:=bm hb g2;clear g2 a2)
    |(at_builtin;refine wpList_append_own _ rfl _ _ 27 rfl (w.heap.size+1) 9 i0 (.string sA) 1 16 Tryz.underlying27 hi hz0 hz1 hz2 rfl aI _ k _ rfl (ho2.out.alloc _) ⟨w2.heap.size,0,none⟩ 1 1 [.string ⟨(dH X).toArray⟩] rfl rfl (cell_one_new _ _ _) (fun x hx=>by simp at hx;subst hx;rfl) (by unfold maxLen;omega) aY (by have:=hB2.out.lt;simp;omega) ?_;intro v' w3 hown' hgrow3 hnil3;have VP:=ae hown';have hB3:=ae ((hB2.out.alloc _).grown hgrow3 (fun e=>by have:=(ho2.out.lt _ e.symm).1;omega));have hb3:=ae ((hb2.out.alloc (hb2.out.size) _).grown hgrow3 (by have:=hb2.out.size;simp;omega) (fun q hq=>by have:=(ho2.out.lt q hq).1;omega));clear hown' hgrow3 hnil3))
   go_roundw
   case rel=>exact⟨k+1,by omega,by go_num,ae (by rw[Hq.out];exact VP.out),hB3,hb3⟩
   case measure=>simp[intOf];omega
  ·obtain rfl:k=4:=by omega
   have hown:=hown.out;rw[show(uM l).take 4=uM l from rfl]at hown;have HJ:=ae (CM (w:=wr) (L:=decs (uM l)) 46 hown (by simp[decs,uM]) (by have:=LX l;unfold mZ at this;exact ax this aI));clear hown;go_wp2_with(go_at_call 237;(with_reducible refine HJ.out.mono ?_);rintro r w2⟨rfl,g2⟩;have hb2:=bm hb g2;clear g2)
   go_ret;exact⟨by rw[HRV.out];rfl,hb2.out⟩
theorem Gm(g:Nat)(W:World):(Instr.sliceAt 280 (.pointer (some ⟨g,0,none⟩)) none none none).run ai W=.ok (.slice (some ⟨g,0,none⟩) 8 8) W:=by
 have ha:ai.arrayLen 280=8:=by kernel_rfl
 have hu:ai.underlying 280=some (.array (ai.arrayLen 280) (ai.elem 280)):=by kernel_rfl
 have hs:(sizeOf (ai.elem 280)).run ai W=.ok 1 W:=by kernel_rfl
 rw[run_sliceAt_array_all W _ _ hu,hs,ha];rfl
theorem LY(g n:Nat)(hn:n≤8)(W:World):(Instr.sliceAt 280 (.pointer (some ⟨g,0,none⟩)) none (some (.int .i64 n)) none).run ai W=.ok (.slice (some ⟨g,0,none⟩) n 8) W:=by
 have ha:ai.arrayLen 280=8:=by kernel_rfl
 have hu:ai.underlying 280=some (.array (ai.arrayLen 280) (ai.elem 280)):=by kernel_rfl
 have hs:(sizeOf (ai.elem 280)).run ai W=.ok 1 W:=by kernel_rfl
 rw[run_sliceAt_array_h W _ _ hu .i64 (n:Int) aY (by rw[ha];omega),hs,ha];rfl
theorem CY(g n:Nat)(hn:n≤8)(W:World):(Instr.sliceAt 280 (.pointer (some ⟨g,0,none⟩)) (some (.int .i64 n)) none none).run ai W=.ok (.slice (some ⟨g,if n=8 then 0 else n,none⟩) (8-n) (8-n)) W:=by
 have ha:ai.arrayLen 280=8:=by kernel_rfl
 have hu:ai.underlying 280=some (.array (ai.arrayLen 280) (ai.elem 280)):=by kernel_rfl
 have hs:(sizeOf (ai.elem 280)).run ai W=.ok 1 W:=by kernel_rfl
 rw[run_sliceAt_array_l W _ _ hu .i64 (n:Int) aY (by rw[ha];omega),hs,ha];show Result.ok (Value.slice (some (if 8=n then(⟨g,0,none⟩:Addr)else(⟨g,0,none⟩:Addr).add (n*1))) (8-n) (8-n)) W=_;by_cases e:n=8
 ·subst e;rfl
 ·rw[if_neg (fun h=>e h.symm),if_neg e];have e2:(⟨g,0,none⟩:Addr).add (n*1)=⟨g,n,none⟩:=by unfold Addr.add;split<;>simp_all
  rw[e2]
theorem rD{W v:World}{g:Nat}{L:List Nat}(hL8:L.length=8)(hL:∀x∈L,x<65536)(env:Env W)(hB:aG W g 280 (oI .u16 L 8))(hv:Below W.heap.size W v)(o n c:Nat)(hn:o+n≤8)(M:List Nat)(hM:M=(L.drop o).take n):Calls ai 239 #[.slice (some ⟨g,o,none⟩) n c] v (Got (.string ⟨(iE M).toArray⟩) v):=by
 have hlen:M.length=n:=by rw[hM,ab6,Z5];omega
 have:=Ly (w:=v) (env.below hv) g o c M (fun x hx=>hL x (by rw[hM]at hx;exact List.mem_of_mem_drop (List.mem_of_mem_take hx))) aY (Nat.lt_of_lt_of_le hB.lt hv.size) (fun j hj=>by
  have h:=(aG.below hB hv hB.lt).cell (o+j);rw[h,zA _ _ _ _ aY,if_pos aY,hM,aB,aB,List.getElem?_take,if_pos aY,List.getElem?_drop])
 rw[hlen]at this;exact this
theorem VY{w:World}(env:Env w)(a:Ad)(ok:a.Ok)(h6:a.v6=true):Calls ai 204 #[.agg a.cells] w (Got (.string ⟨(sD (eZ a)).toArray⟩) w):=by
 have Hm:=ae (kz a ok);rw[Z9 h6]at Hm;have HP:=ae (Gl a ok);have hL8:=jh a;have hL:=nV a;generalize eZ a=L at HP hL8 hL⊢;obtain⟨OZ,HL⟩:=aQ hL8 hL;clear hL8 hL ok;obtain⟨v,x,l⟩:=a;simp only at h6;subst h6;unfold Ad.cells at*;simp only at Hm HP⊢;obtain⟨RV,vj⟩:∃r,r=(⟨(sD L).toArray⟩:ByteArray):=⟨_,rfl⟩;rw[←vj];obtain⟨HRV,mU⟩:=aQ vj env;clear vj env;have hB0:=aG.new w 44 #[.bool true,.int .u64 x,.int .u64 l];have hb0:=boxed w (.cells #[.bool true,.int .u64 x,.int .u64 l] 44);have e8:=ve .u16 L;generalize L.getD 0 0=p0 at e8;generalize L.getD 1 0=p1 at e8;generalize L.getD 2 0=p2 at e8;generalize L.getD 3 0=p3 at e8;generalize L.getD 4 0=p4 at e8;generalize L.getD 5 0=p5 at e8;generalize L.getD 6 0=p6 at e8;generalize L.getD 7 0=p7 at e8;rw[e8]at HP;have E8:=ae e8;clear e8;go_enter Tryz.func204,Tryz.ntmps204;go_wp2_with(first
  |(go_at_call 235;(with_reducible refine(Hm.out _).mono ?_);rintro r w1⟨rfl,g1⟩;have hb1:=after hb0 g1;have hB1:=hB0.below g1 hB0.lt;have a0:=hB1.cell 0;have a1:=hB1.cell 1;have a2:=hB1.cell 2;simp at a0 a1 a2)
  |(go_at_call 238;(with_reducible refine(HP.out _).mono ?_);rintro r w2⟨rfl,g2⟩;have hb2:=after hb1 g2;clear a0 a1 a2))
 have hR0:aG (w2.alloc (.cells #[.int .u16 p0,.int .u16 p1,.int .u16 p2,.int .u16 p3,.int .u16 p4,.int .u16 p5,.int .u16 p6,.int .u16 p7] 280)) w2.heap.size 280 (oI .u16 L 8):=by
  rw[E8.out];exact aG.new _ _ _
 have hb3:=after hb2 (boxed w2 (.cells #[.int .u16 p0,.int .u16 p1,.int .u16 p2,.int .u16 p3,.int .u16 p4,.int .u16 p5,.int .u16 p6,.int .u16 p7] 280));generalize w2.alloc (.cells #[.int .u16 p0,.int .u16 p1,.int .u16 p2,.int .u16 p3,.int .u16 p4,.int .u16 p5,.int .u16 p6,.int .u16 p7] 280)=W0 at hR0 hb3⊢;generalize w2.heap.size=g at hR0⊢;obtain⟨HR0,Hb3⟩:=aQ hR0 hb3;clear hB0 hb0 hB1 hb1 hb2 hR0 hb3;have hcell:=fun i(hi:i<8)=>(HR0.out.cell i).trans (zA .u16 L 8 i hi)
 have mO:=ae hcell;clear hcell
 go_loop [6,7,39] (fun v6 v7 v39=>∃k:Nat,k≤8∧v39=.int .i64 k∧v6=.int .i64 (kD L k).1∧v7=.int .i64 ((kD L k).2:Int)) (fun _ _ v39=>8-(intOf v39).toNat)
 case atStart=>exact⟨0,by omega,rfl,rfl,rfl⟩
 case round=>
  obtain⟨k,hk,rfl,rfl,rfl⟩:=hrel;by_cases hlt:k<8
  ·obtain⟨B,hB⟩:∃b,b=kD L k:=⟨_,rfl⟩;have hnext:kD L (k+1)=if B.2<kr (L.drop k)then((k:Int),kr (L.drop k))else B:=by rw[hB];rfl
   rw[←hB];obtain⟨acv,HB⟩:=aQ hnext hB;clear hB hnext;obtain⟨b1,b2⟩:=B;go_wp2_with fail
   go_loop [9] (fun v9=>∃n:Nat,k+n≤8∧v9=.int .i64 n∧af (∀j,j<n→L.getD (k+j) 0=0)) (fun v9=>8-(intOf v9).toNat)
   case atStart=>exact⟨0,by omega,rfl,ae (fun j h=>by omega)⟩
   case round=>
    obtain⟨n,hn,rfl,hz⟩:=hrel;have e1:((k:Int)+(n:Int)).toNat=k+n:=by omega
    by_cases hgo:k+n<8∧L.getD (k+n) 0=0
    ·obtain⟨hs,h0⟩:=hgo;have cx:=mO.out (k+n) hs;rw[if_pos hs,h0]at cx;have H0:=ae h0;have hs':(k:Int)+(n:Int)<8:=by omega
     clear h0;go_wp2_with fail
     go_round
     case rel=>exact⟨n+1,by omega,by go_num,ae (fun j hj=>by
      by_cases e:j=n
      ·rw[e];exact H0.out
      ·exact hz.out j aY)⟩
     case measure=>simp[intOf];omega
    ·have hrun:kr (L.drop k)=n:=VW L k n (by have:=OZ.out;omega) hz.out (by
      have:=OZ.out;rcases agl (k+n) 8 with h|h
      ·exact Or.inr (fun h0=>hgo ⟨h,h0⟩)
      ·exact Or.inl aY)
     have hnx:=acv.out;rw[hrun]at hnx;have yi:=ae hnx;clear hrun hnx;by_cases hs:k+n<8
     ·have cx:=mO.out (k+n) hs;rw[if_pos hs]at cx;have h0:L.getD (k+n) 0≠0:=fun h0=>hgo ⟨hs,h0⟩
      have hs':(k:Int)+(n:Int)<8:=by omega
      clear hgo;generalize L.getD (k+n) 0=X at cx h0;have hq:((X:Int)==0)=false:=by simp;omega
      clear h0;by_cases hgt:b2<n
      all_goals
       have Hg:=ae hgt;go_wp2_with fail
       go_round
       case rel=>
        refine⟨k+1,by omega,by go_num,?_,?_⟩
        all_goals(rw[yi.out];first|rw[if_pos Hg.out]|rw[if_neg Hg.out])
       case measure=>simp[intOf];omega
     ·have hs':¬(k:Int)+(n:Int)<8:=by omega
      clear hgo;by_cases hgt:b2<n
      all_goals
       have Hg:=ae hgt;go_wp2_with fail
       go_round
       case rel=>
        refine⟨k+1,by omega,by go_num,?_,?_⟩
        all_goals(rw[yi.out];first|rw[if_pos Hg.out]|rw[if_neg Hg.out])
       case measure=>simp[intOf];omega
  ·obtain rfl:k=8:=by omega
   have hall:kD L 8=best L:=by have:=LM L;rwa [OZ.out]at this
   have hrg:=CW L 8 (by have:=OZ.out;omega);have hok:=VG L;have htx:RV=⟨(if(best L).1<0 then iE L else iE (L.take (best L).1.toNat)++(58::58::iE (L.drop ((best L).1.toNat+(best L).2)))).toArray⟩:=HRV.out;have h1:=hok.le;have h2:=hok.one;rw[hall]at hrg;rw[hall];rw[OZ.out]at hrg h1;clear hall hok;generalize best L=B at hrg htx h1 h2⊢;obtain⟨b1,b2⟩:=B;simp only at hrg htx h1 h2⊢;by_cases hneg:b1<0
   ·rw[if_pos hneg]at htx;have Htx:=ae htx;clear htx h1 hrg;have HJ:=ae (rD OZ.out HL.out (mU.out.below Hb3.out) HR0.out (Below.refl _ _) 0 8 8 aY L (by rw[List.drop_zero];exact(aO (by have:=OZ.out;omega)).symm));have hsl:=Gm g;go_wp2_with(go_at_call 239;(with_reducible refine HJ.out.mono ?_);rintro r w9⟨rfl,g9⟩;have hb9:=bm Hb3 g9;clear g9)
    go_ret;exact⟨show Ending.returned (.string ⟨(iE L).toArray⟩)=_ by rw[Htx.out],hb9.out⟩
   ·rw[if_neg hneg]at htx;obtain⟨A,rfl⟩:∃A:Nat,b1=(A:Int):=⟨b1.toNat,by omega⟩;have h3:=h1 aY;rw[show((A:Int)).toNat=A by omega]at h3 htx;have HJ1:=fun v hv=>rD (v:=v) OZ.out HL.out (mU.out.below Hb3.out) HR0.out hv 0 A 8 aY (L.take A) (by rw[List.drop_zero])
    have HJ2:=fun v hv=>rD (v:=v) OZ.out HL.out (mU.out.below Hb3.out) HR0.out hv (if A+b2=8 then 0 else A+b2) (8-(A+b2)) (8-(A+b2)) (by split<;>omega) (L.drop (A+b2)) (by
     have h8:=OZ.out;split
     ·next e=>rw[e,List.take_zero,afu aY]
     ·exact(aO (by rw[Z5];omega)).symm)
    have l1:=pC (L:=L.take A) (lZ HL.out) (by rw[ab6];have:=OZ.out;omega);have l2:=pC (L:=L.drop (A+b2)) (uc HL.out) (by rw[Z5];have:=OZ.out;omega);have hsl1:=LY g A aY;have hsl2:=CY g (A+b2) aY;rw[show((A+b2:Nat):Int)=(A:Int)+(b2:Int) by omega]at hsl2;have hwr:IntKind.i64.wrap ((A:Int)+(b2:Int))=(A:Int)+(b2:Int):=IntWalk.i64_in _ aY;generalize(if A+b2=8 then 0 else A+b2)=O at HJ2 hsl2;generalize 8-(A+b2)=N at HJ2 hsl2;generalize iE (L.take A)=J1 at HJ1 l1 htx;generalize iE (L.drop (A+b2))=J2 at HJ2 l2 htx;obtain⟨S1,hS1⟩:∃S,S=(⟨J1.toArray⟩:ByteArray):=⟨_,rfl⟩;obtain⟨S2,hS2⟩:∃S,S=(⟨J2.toArray⟩:ByteArray):=⟨_,rfl⟩;have s1:S1.size≤40:=by rw[hS1];simpa[agj]using l1
    have s2:S2.size≤40:=by rw[hS2];simpa[agj]using l2
    have hrv:RV=S1++⟨#[58,58]⟩++S2:=by
     rw[htx,hS1,hS2];apply ByteArray.ext;simp
    rw[←hS1]at HJ1;rw[←hS2]at HJ2;obtain⟨Hrv,HJA,HJB⟩:=bO hrv HJ1 HJ2;clear htx hS1 hS2 hrv HJ1 HJ2 l1 l2 h1 hrg hneg;go_wp2_with fail
    have hv:=(Below.refl W0.heap.size W0).drew;have z1:¬9223372036854775807<S1.size+2:=by omega
    have z2:¬9223372036854775807<S1.size+2+S2.size:=by omega
    go_region_held3 (fun _=>True) (trivial)
     (first
       |(go_at_call 239;(with_reducible refine(HJA.out _ hv).mono ?_);rintro r w8⟨rfl,g8⟩;have hv8:=after hv g8;have hv:=hv8)
       |(go_at_call 239;(with_reducible refine(HJB.out _ hv).mono ?_);rintro r w9⟨rfl,g9⟩;have hv9:=after hv g9;have hv:=hv9))
    all_goals go_wp2_with fail
    go_ret;exact⟨show Ending.returned (.string (S1++⟨#[58,58]⟩++S2))=_ by rw[Hrv.out],after Hb3.out hv⟩
def gn(a:Ad):ByteArray:=⟨(gm a).toArray⟩
theorem qj{w:World}(env:Env w)(a:Ad)(ok:a.Ok):Calls ai 204 #[.agg a.cells] w (Got (.string (gn a)) w):=by
 cases hm:a.may with
 |false=>
  have Hm:=ae (kz a ok);rw[hm]at Hm;have e:gn a=⟨#[]⟩:=by unfold gn;rw[Ld hm]
  rw[e];obtain⟨v,x,l⟩:=a;unfold Ad.cells at*;simp only at Hm⊢;clear e hm ok env;have hb0:=boxed w (.cells #[.bool v,.int .u64 x,.int .u64 l] 44);go_enter Tryz.func204,Tryz.ntmps204;go_wp2_with(go_at_call 235;(with_reducible refine(Hm.out _).mono ?_);rintro r w1⟨rfl,g1⟩;have hb1:=after hb0 g1)
  go_ret;exact⟨rfl,hb1⟩
 |true=>
  cases h6:a.v6 with
  |false=>
   have:=VX env a ok hm h6;unfold gn;rwa [Jo hm h6]
  |true=>
   have:=VY env a ok h6;unfold gn;rwa [Jp h6]
theorem ie.any{Lo:Option (List Nat)}{W w':World}{r:Ending}(h:ie Lo W r w'):∃(v:Value)(L:List Nat),r=.returned (.tuple #[v,.bool Lo.isSome])∧w'.ownsRow W.heap.size 22 1 v L.length (eB L)∧(Lo=some L∨(Lo=none∧L=[]))∧Below W.heap.size W w':=by
 unfold ie at h;cases Lo with
 |none=>exact⟨.slice none 0 0,[],h.1,bK _ _ _ _,Or.inr ⟨rfl,rfl⟩,h.2⟩
 |some L=>
  obtain⟨⟨v,hr,ho⟩,hb⟩:=h;exact⟨v,L,hr,ho,Or.inl rfl,hb⟩
theorem below_drewN(w:World)(n:Nat):Below w.heap.size w (w.drewN n):=⟨rfl,rfl,rfl,aw _,fun _ _=>rfl⟩
theorem uh(s sep:List UInt8):(Lib.cut s sep).1.length≤s.length∧(Lib.cut s sep).2.1.length≤s.length:=by
 unfold Lib.cut;split
 ·simp;omega
 ·simp
theorem aex{h x:Nat}(hh:h<72057594037927936)(hx:x<256):bits .or .u64 ((h:Int)*256) (x:Int)=((h*256+x:Nat):Int):=by
 have e:=u64_or_nat (h*256) x aY aY;rw[show(h:Int)*256=((h*256:Nat):Int) by omega,e];have:=Nat.shiftLeft_add_eq_or_of_lt (i:=8) (b:=x) aY h;rw[Nat.shiftLeft_eq]at this;rw[show(256:Nat)=2^8 from rfl,←this]
theorem Gn(l:List Nat)(x:Nat):fP (l++[x])=fP l*256+x:=by unfold fP;rw[List.foldl_append];rfl
theorem sV{l:List Nat}(h:∀x∈l,x<256)(hl:l.length≤4):fP l<4294967296:=by
 have:=Cj l 0 1 h aI;have h2:256^l.length≤256^4:=agc aI hl;unfold fP;omega
def Zp(o:Option Ad):Value:=match o with
 |none=>.tuple #[.agg #[.bool false,.int .u64 0,.int .u64 0],.int .i64 8]
 |some a=>.tuple #[.agg a.cells,.int .i64 0]
theorem oe{a:Ad}{s:ByteArray}:gn a=s↔gm a=s.data.toList:=by
 constructor
 ·intro h;rw[←h];unfold gn;simp
 ·intro h;unfold gn;rw[h]
theorem acw{v:World}(env:Env v)(s:ByteArray)(hs:s.size≤2000000)(c:UInt8):Calls ai 338 #[.string s,.string ⟨#[c]⟩,.int .i64 10,.int .u64 255] v (ie (cV c 10 256 s.data.toList) v):=sR env s hs c 10 255 aI aI (fun v e t ht=>VM e t ht)
theorem Qb{v:World}(env:Env v)(s:ByteArray)(hs:s.size≤2000000)(c:UInt8):Calls ai 338 #[.string s,.string ⟨#[c]⟩,.int .i64 16,.int .u64 65535] v (ie (cV c 16 65536 s.data.toList) v):=sR env s hs c 16 65535 aI aI (fun v e t ht=>aep e t ht)
theorem VZ(t:List UInt8):(⟨t.toArray⟩:ByteArray).toList.isEmpty=t.isEmpty:=by
 rw[ByteArray.toList_eq]
end Go.Proofs.YtdfnhljccdoncaaGreatDoor
