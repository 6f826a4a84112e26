/- Joined out of: NlP PzF NlB NlC DfC SoA OwA Sort SoB DeA. -/
import Derived.Test.YtdfnhljccdoncaaGreatDoorNax
import Derived.Sort.Grow
import Derived.Laws.OwnMore
import Derived.Shelf.SlSortCmp.NoneTotal
import Derived.Laws.IdiomCopy
set_option linter.unusedVariables false
set_option linter.unusedSimpArgs false
set_option maxHeartbeats 16000000
set_option maxRecDepth 100000
open Array renaming length_toList→mL,getElem?_eq_getElem→rH,getElem?_toList→age
open Bool renaming and_eq_true→bg
open Go.Lib renaming hid→ae
open Go.Proofs.Tryz renaming prog→ai,underlying5→cB
open Go.RowKit renaming Hid→af
open Go.Value renaming string→bU
open List renaming getElem?_eq_getElem→ag,length_append→aj,length_map→ay,take_succ_eq_append_getElem→aA,range→aD,take_of_length_le→aO,getElem_mem→bC,getElem?_map→bR,length_cons→cm,append_nil→lS,getElem?_eq_none→BL,flatMap_cons→Zg,size_toArray→af4,filter_append→agi,getElem?_take→agn,drop_drop→ags,filter_nil→agu
open Nat renaming le_refl→aw,zero_le→bF,add_zero→cN,add_assoc→sE
namespace Go.Proofs.YtdfnhljccdoncaaGreatDoor
theorem Yr{α:Type}(f:α→List UInt8)(k:Nat):∀l:List α,(∀x∈l,(f x).length≤k)→(l.flatMap f).length≤l.length*k:=by
 intro l
 induction l with
 |nil=>intro _;simp
 |cons x r ih=>
  intro h;have h1:=h x (List.mem_cons_self ..);have h2:=ih fun y hy=>h y (List.mem_cons_of_mem x hy)
  rw[Zg,aj,cm,Nat.add_mul];omega
theorem qS{α:Type}(f:α→List UInt8)(k n:Nat)(l:List α)(hn:l.length≤n)(h:∀x∈l,(f x).length≤k):(cF f l).length≤2+n*k:=by
 unfold cF;rw[aj,aR];have:=Yr f k l h;have:l.length*k≤n*k:=Nat.mul_le_mul_right k hn;omega
theorem Ux(a:Ad):(xi a).length≤17:=by
 unfold xi;split
 ·rw[cm,aj,aR,aR];omega
 ·rw[cm,aR];omega
theorem Uy(e:En):(DN e).length≤19:=by
 unfold DN;have:=Ux e.1;rw[aj,aR];omega
theorem IZ(s:ByteArray):(pU s).length=2+s.size:=by
 unfold pU;rw[aj,aR];rfl
theorem abD{p:Pr}(h:lC p=true):(xj p).length≤1000:=by
 have m:=(yF p).1 h;unfold xj;have e1:=qS pU 34 8 p.tags m.tl (fun t ht=>by rw[IZ];have:=qF (m.tags t ht);omega);have e2:=qS xi 17 4 p.aH m.al (fun a _=>Ux a);have e3:=qS DN 19 8 p.ends m.el (fun e _=>Uy e);have e4:=IZ p.user;have e5:=qF m.user;have k1:p.key.data.toList.length=32:=m.key;have k2:p.bj.data.toList.length=32:=m.bj;simp only[aj,aR,k1,k2,e4];omega
theorem abE{r:Ry}(h:vI r=true):(DO r).length≤100:=by
 unfold vI at h;simp only[bg,decide_eq_true_eq]at h;have k1:r.key.data.toList.length=32:=h.1;have:=Uy r.fin;unfold DO;simp only[aj,aR,k1];omega
theorem qT{m:Mp}(h:ip m=true):(xJ m).length≤80000000:=by
 obtain⟨_,h2,h3,h4⟩:=iu h;obtain⟨_,p2,p3⟩:=iP h2;unfold jb at h3;simp only[bg,decide_eq_true_eq]at h3;have e1:=qS xj 1000 64 m.aJ p2 (fun p hp=>abD (p3 p hp));have e2:=qS DO 100 8 m.aF h3.1.1 (fun r hr=>abE (List.all_eq_true.1 h3.2 r hr));have e3:=IZ m.policy;have e4:=DX h4;unfold xJ;simp only[aj,aR,e3];omega
open Go.ChangeShapes Go.WideShapes Go.ChangeAt Go.RowKit Go.Deep
theorem d40:ai.cellsOf 71=6:=by kernel_rfl
theorem d41:ai.cellsOf 24=1:=by kernel_rfl
theorem d42:ai.cellsOf 26=4:=by kernel_rfl
theorem chunks{α:Type}(k:Nat):∀(n:Nat)(l:List α),l.length=n*k→l=(aD n).flatMap fun i=>(l.drop (i*k)).take k:=by
 intro n
 induction n with
 |zero=>
  intro l h;rw[Nat.zero_mul]at h;rw[List.eq_nil_of_length_eq_zero h];rfl
 |succ n ih=>
  intro l h;rw[List.range_succ_eq_map,Zg,List.flatMap_map];have h2:=ih (l.drop k) (by rw[List.length_drop,h,Nat.add_mul];omega);have e:((aD n).flatMap fun i=>(l.drop ((i+1)*k)).take k)=(aD n).flatMap fun i=>((l.drop k).drop (i*k)).take k:=by
   congr 1;funext i;rw[ags,Nat.add_mul,Nat.one_mul,Nat.add_comm]
  show l=(l.drop (0*k)).take k++(aD n).flatMap fun i=>(l.drop ((i+1)*k)).take k
  rw[e,←h2,Nat.zero_mul,List.drop_zero,List.take_append_drop]
theorem abG{W:World}(h:Lib.VarReads ai W "isthmus/blake.orders" Rows.laid_isthmus_blake_orders):ft W:=by
 obtain⟨g',t',cs,fuel,p,hg',ht',hvar,hd⟩:=h;have hg:ai.globalNamed "isthmus/blake.orders" =some 0:=by kernel_rfl
 have hty:(ai.globals[0]?).map (·.type)=some 321:=by kernel_rfl
 obtain rfl:=Option.some.inj (hg.symm.trans hg');obtain rfl:=Option.some.inj (hty.symm.trans ht');have hu:ai.underlying 321=some (.array 10 320):=by kernel_rfl
 have hu2:ai.underlying 320=some (.array 16 5):=by kernel_rfl
 obtain⟨xs,m,_,hx,hl,hxl,hi⟩:=DataW.trod_array hu hd;have hc1:ai.cellsOf 321=160:=by kernel_rfl
 have hc2:ai.cellsOf 320=16:=by kernel_rfl
 rw[hc1]at hl;rw[hc2]at hi;have e1:(DataW.agg (xs.map (·.1)):DataW Unit)=Rows.laid_isthmus_blake_orders:=(congrArg Prod.fst hx).symm;have e2:(Rows.laid_isthmus_blake_orders:DataW Unit)=.agg (nO.map fun r=>Lib.tabData .u8 (r.map fun n:Nat=>(n:Int))):=by rfl
 rw[e2]at e1;injection e1 with e1
 have hrow:∀i,i<10→(cs.toList.drop (i*16)).take 16=(nO.getD i []).map fun n:Nat=>Value.int .u8 n:=fun i hlt=>by
  have h1:=hi i hlt;have hxi:i<xs.length:=by omega
  rw[ag hxi]at h1;have h2:(xs.map (·.1))[i]? =(nO.map fun r=>Lib.tabData .u8 (r.map fun n:Nat=>(n:Int)))[i]? :=by rw[e1]
  rw[bR,bR,ag hxi,ag (show i<nO.length from hlt)]at h2;simp only[Option.map_some,Option.some.injEq]at h2;rw[show xs[i]=(xs[i].1,xs[i].2)from rfl,h2]at h1;have h3:=Lib.cells_of_tab hu2 cB d5 hc2 h1;rw[h3,List.getD_eq_getElem?_getD,ag (show i<nO.length from hlt),Option.getD_some,List.map_map];rfl
 unfold ft;rw[hvar];congr 1;have h5:=chunks 16 10 cs.toList hl;have h6:((aD 10).flatMap fun i=>(cs.toList.drop (i*16)).take 16)=(aD 10).flatMap fun i=>(nO.getD i []).map fun n:Nat=>Value.int .u8 n:=by
  rw[List.flatMap_def,List.flatMap_def];congr 1;refine List.map_congr_left fun i hi=>hrow i (List.mem_range.1 hi)
 rw[h6]at h5;apply Array.toList_inj.1;rw[h5];rfl
theorem Ys{W:World}(hL:laidMetH ai qw W):ft W:=by
 rw[MakeChecks.laidMetH_plain _ _ _ bJ]at hL;exact abG (Lib.laidMet.reads hL (.tail _ (.tail _ (.tail _ (.tail _ (.tail _ (.tail _ (.head _))))))))
section
variable{H:Type}{enc:TypeId×Value→H}{w:World}{base:Nat}{sp:Nat→Bool}{held:Bool}
theorem Uz:∀n cs y,DataW.trod enc ai w base sp held n 69 cs=some y→∃x:En,cs=bV x∧JP x:=by
 intro n cs y h;obtain⟨xs,n,_,rfl,hl,hlen,hf⟩:=DataW.trod_struct Tryz.underlying69 h;rw[d30]at hl
 match cs,hl with
 |[v0,v1,v2,v3],_=>
  have h0:=hf 0 _ rfl;have h1:=hf 1 _ rfl;rw[ag (show 0<xs.length by rw[hlen];decide)]at h0;rw[ag (show 1<xs.length by rw[hlen];decide)]at h1;obtain⟨a,ha,e0⟩:=Rj h0;obtain⟨m,e1,k1⟩:=aaZ _ _ _ h1;simp[d11,d6,Ad.cells]at e0 e1;obtain⟨rfl,rfl,rfl⟩:=e0;subst e1;exact⟨(a,m),rfl,ha,k1⟩
theorem abH:∀n cs y,DataW.trod enc ai w base sp held n 71 cs=some y→∃x:Ry,cs=bI x∧vN x:=by
 intro n cs y h;obtain⟨xs,n,_,rfl,hl,hlen,hf⟩:=DataW.trod_struct Tryz.underlying71 h;rw[d40]at hl
 match cs,hl with
 |[v0,v1,v2,v3,v4,v5],_=>
  have h0:=hf 0 _ rfl;have h1:=hf 1 _ rfl;have h2:=hf 2 _ rfl;rw[ag (show 0<xs.length by rw[hlen];decide)]at h0;rw[ag (show 1<xs.length by rw[hlen];decide)]at h1;rw[ag (show 2<xs.length by rw[hlen];decide)]at h2;obtain⟨n0,e0,k0⟩:=Zz _ _ _ h0;obtain⟨s1,e1,_⟩:=rP _ _ _ h1;obtain⟨x,e2,k2⟩:=Uz _ _ _ h2;simp[d5,d9,d30,bV]at e0 e1 e2;obtain⟨rfl,rfl,rfl,rfl⟩:=e2;subst e0 e1;exact⟨⟨n0,s1,x⟩,rfl,k0,k2⟩
theorem abI:∀n cs y,DataW.trod enc ai w base sp held n 49 cs=some y→∃X:bG,cs=X.vals∧(Rows.uptoBulk y.1≤1048576→eI w X∧nC X.p∧gI X.p):=by
 intro n cs y h;obtain⟨xs,n,_,rfl,hl,hlen,hf⟩:=DataW.trod_struct Tryz.underlying49 h;rw[d31]at hl
 match cs,hl with
 |[v0,v1,v2,v3,v4,v5,v6,v7],_=>
  have h0:=hf 0 _ rfl;have h1:=hf 1 _ rfl;have h2:=hf 2 _ rfl;have h3:=hf 3 _ rfl;have h4:=hf 4 _ rfl;have h5:=hf 5 _ rfl;have h6:=hf 6 _ rfl;have h7:=hf 7 _ rfl;obtain⟨y2,g2⟩:∃z,xs[2]? =some z:=⟨_,ag (show 2<xs.length by rw[hlen];decide)⟩;obtain⟨y3,g3⟩:∃z,xs[3]? =some z:=⟨_,ag (show 3<xs.length by rw[hlen];decide)⟩;obtain⟨y4,g4⟩:∃z,xs[4]? =some z:=⟨_,ag (show 4<xs.length by rw[hlen];decide)⟩;obtain⟨y7,g7⟩:∃z,xs[7]? =some z:=⟨_,ag (show 7<xs.length by rw[hlen];decide)⟩;rw[ag (show 0<xs.length by rw[hlen];decide)]at h0;rw[ag (show 1<xs.length by rw[hlen];decide)]at h1;rw[ag (show 5<xs.length by rw[hlen];decide)]at h5;rw[ag (show 6<xs.length by rw[hlen];decide)]at h6;rw[g2]at h2;rw[g3]at h3;rw[g4]at h4;rw[g7]at h7;obtain⟨s0,e0,_⟩:=rP _ _ _ h0;obtain⟨s1,e1,_⟩:=rP _ _ _ h1;obtain⟨s2,e2,z2⟩:=rP _ _ _ h2;obtain⟨l3,u3,e3,r3,q3,b3,c3⟩:=open_row Tryz.underlying27 1 aI d9 (fun x=>[bU x]) (fun _=>rfl) (fun D x=>x.size<Rows.uptoBulk D) rP h3;obtain⟨l4,u4,e4,r4,q4,b4,c4⟩:=open_row Tryz.underlying46 3 aI d11 (fun x:Ad=>x.cells.toList) (fun _=>rfl) (fun _ x=>x.Ok) Xb h4;obtain⟨n5,e5,k5⟩:=Rt _ _ _ h5;obtain⟨n6,e6,k6⟩:=Zz _ _ _ h6;obtain⟨l7,u7,e7,r7,q7,b7,c7⟩:=open_row Tryz.underlying47 4 aI d30 bV (fun _=>rfl) (fun _ x=>JP x) Uz h7;rw[Rk]at r3;simp[d9,d19,d32,d10,d5,d33]at e0 e1 e2 e3 e4 e5 e6 e7;subst e0 e1 e2 e3 e4 e5 e6 e7;refine⟨⟨⟨s0,s1,s2,l3,l4,n5,n6,l7⟩,v3,v4,v7⟩,rfl,fun hk'=>?_⟩;have hk:Rows.uptoBulk (DataW.agg (xs.map (·.1)))≤1048576:=hk';have k2:=j5 g2;have k3:=j5 g3;have k4:=j5 g4;have k7:=j5 g7;refine⟨⟨r3,r4,r7⟩,⟨k5,k6,fun b hb=>?_,fun b hb=>?_⟩,⟨by show s2.size≤_;omega,by show l3.length≤_;omega,by show l4.length≤_;omega,by show l7.length≤_;omega,fun t ht=>?_⟩⟩
  ·obtain⟨D,h5,_⟩:=q4 b hb;exact h5
  ·obtain⟨D,h5,_⟩:=q7 b hb;exact h5
  ·obtain⟨D,h5,h6⟩:=q3 t ht;omega
theorem open_map{b0:Nat}{v:Value}{d:DataW H}{p:List MemPlace}(hv:Value.okWide ai w .any b0 26 v)(h:DataW.Trod enc ai w base sp held 26 v d p)(hk:Rows.uptoBulk d≤1048576):∃(m:Mp)(pv rv:Value),v=.agg #[.int .u64 (m.version:Int),pv,rv,.string m.policy]∧dP w pv m.aJ∧gi w rv m.aF∧jM m∧IV m:=by
 obtain⟨cs,rfl,_⟩:=okWide_struct Tryz.underlying26 hv;obtain⟨fuel,hfu⟩:=h;obtain⟨xs,n,_,he,hl,hlen,hf⟩:=DataW.trod_struct Tryz.underlying26 hfu;injection he with he _
 subst he;obtain⟨cs⟩:=cs;rw[d42]at hl
 match cs,hl with
 |[v0,v1,v2,v3],_=>
  have h0:=hf 0 _ rfl;have h1:=hf 1 _ rfl;have h2:=hf 2 _ rfl;have h3:=hf 3 _ rfl;obtain⟨y1,g1⟩:∃z,xs[1]? =some z:=⟨_,ag (show 1<xs.length by rw[hlen];decide)⟩;obtain⟨y2,g2⟩:∃z,xs[2]? =some z:=⟨_,ag (show 2<xs.length by rw[hlen];decide)⟩;obtain⟨y3,g3⟩:∃z,xs[3]? =some z:=⟨_,ag (show 3<xs.length by rw[hlen];decide)⟩;rw[ag (show 0<xs.length by rw[hlen];decide)]at h0;rw[g1]at h1;rw[g2]at h2;rw[g3]at h3;obtain⟨n0,e0,k0⟩:=Rt _ _ _ h0;obtain⟨l1,u1,e1,r1,q1,b1,c1⟩:=open_row Tryz.underlying23 8 aI d31 bG.vals aC (fun D X=>Rows.uptoBulk D≤1048576→eI w X∧nC X.p∧gI X.p) abI h1;obtain⟨l2,u2,e2,r2,q2,b2,c2⟩:=open_row Tryz.underlying24 6 aI d40 bI cq (fun _ x=>vN x) abH h2;obtain⟨s3,e3,z3⟩:=rP _ _ _ h3;simp[d10,d34,d41,d9,Value.cells]at e0 e1 e2 e3;subst e0 e1 e2 e3;have k1:=j5 g1;have k2:=j5 g2;have k3:=j5 g3;have hq:∀X∈l1,eI w X∧nC X.p∧gI X.p:=fun X hX=>by
   obtain⟨D,h5,h6⟩:=q1 X hX;exact h5 (by omega)
  refine⟨⟨n0,l1.map (·.p),l2,s3⟩,v1,v2,rfl,⟨l1,rfl,r1,fun X hX=>(hq X hX).1⟩,r2,⟨k0,fun p hp=>?_,fun r hr=>?_⟩,⟨fun p hp=>?_,by show(l1.map (·.p)).length≤_;rw[ay];omega,by show l2.length≤_;omega,by show s3.size≤_;omega,qT⟩⟩
  ·obtain⟨X,hX,rfl⟩:=List.mem_map.1 hp;exact(hq X hX).2.1
  ·obtain⟨D,h5,_⟩:=q2 r hr;exact h5
  ·obtain⟨X,hX,rfl⟩:=List.mem_map.1 hp;exact(hq X hX).2.2
theorem OG{b0:Nat}{v:Value}{d:DataW H}{p:List MemPlace}(hv:Value.okWide ai w .any b0 44 v)(h:DataW.Trod enc ai w base sp held 44 v d p):∃a:Ad,v=.agg a.cells∧a.Ok:=by
 obtain⟨cs,rfl,_⟩:=okWide_struct Tryz.underlying44 hv;obtain⟨fuel,hfu⟩:=h;obtain⟨a,ha,e⟩:=Rj hfu;refine⟨a,?_,ha⟩;have:cs.toList=a.cells.toList:=e;rw[←Array.toList_inj.1 this]
end
attribute [local go_sem↓] Go.wp_at_zero Go.wp_at_succ
theorem Bi(l:List ByteArray):strCells l=l.flatMap fun x:ByteArray=>[bU x]:=by
 unfold strCells
 induction l with
 |nil=>rfl
 |cons x r ih=>rw[List.map_cons,Zg,ih];rfl
theorem yd{w:World}{X Y:bG}(hX:eI w X)(hY:eI w Y)(sX:gI X.p)(sY:gI Y.p):Calls ai 21 #[.agg X.vals.toArray,.agg Y.vals.toArray] w (Got (.bool (decide (X.p=Y.p))) w):=by
 obtain⟨R,hR⟩:∃r,r=decide (X.p=Y.p):=⟨_,rfl⟩;rw[←hR];have l11:=sX.tl;have l12:=sX.al;have l13:=sX.el;obtain⟨⟨key1,aU,bo,eN,cP,eu,aT,fi⟩,XG,XI,ev1⟩:=X;obtain⟨ht1,ha1,he1⟩:=hX;simp only at ht1 ha1 he1 l11 l12 l13;obtain⟨gQ,c11,rfl,_,ht1⟩:=ht1;obtain⟨gY,c12,rfl,_,ha1⟩:=ha1;obtain⟨jA,c13,rfl,_,he1⟩:=he1;rw[Bi]at ht1;obtain⟨n11,Yt⟩:∃n,n=eN.length:=⟨_,rfl⟩;rw[←Yt]at ht1 l11;obtain⟨n12,Yu⟩:∃n,n=cP.length:=⟨_,rfl⟩;rw[←Yu]at ha1 l12;obtain⟨n13,Yv⟩:∃n,n=fi.length:=⟨_,rfl⟩;rw[←Yv]at he1 l13;have l21:=sY.tl;have l22:=sY.al;have l23:=sY.el;obtain⟨⟨key2,aX,bz,cG,bM,fN,bn,cH⟩,XJ,XK,XM⟩:=Y;obtain⟨ht2,ha2,he2⟩:=hY;simp only at ht2 ha2 he2 l21 l22 l23;obtain⟨dq,c21,rfl,_,ht2⟩:=ht2;obtain⟨dr,dt,rfl,_,ha2⟩:=ha2;obtain⟨dK,c23,rfl,_,he2⟩:=he2;rw[Bi]at ht2;obtain⟨n21,Yw⟩:∃n,n=cG.length:=⟨_,rfl⟩;rw[←Yw]at ht2 l21;obtain⟨n22,Yx⟩:∃n,n=bM.length:=⟨_,rfl⟩;rw[←Yx]at ha2 l22;obtain⟨n23,Yy⟩:∃n,n=cH.length:=⟨_,rfl⟩;rw[←Yy]at he2 l23;unfold bG.vals;simp only at hR⊢;rw[←Yt,←Yu,←Yv,←Yw,←Yx,←Yy];obtain⟨Ht1,Ha1,He1,Ht2,Ha2,He2,HR,abJ,abK,abL,abM,abN⟩:=uF ht1 ha1 he1 ht2 ha2 he2 hR Yt Yu Yv Yw Yx;have abO:=ae Yy;clear ht1 ha1 he1 ht2 ha2 he2 hR Yt Yu Yv Yw Yx Yy sX sY;have HB0:=ae (fe w (.cells #[.string key1,.string aU,.string bo,.slice gQ n11 c11,.slice gY n12 c12,.int .u64 eu,.int .u8 aT,.slice jA n13 c13] 49) (.cells #[.string key2,.string aX,.string bz,.slice dq n21 c21,.slice dr n22 dt,.int .u64 fN,.int .u8 bn,.slice dK n23 c23] 49));have hp:=aG.new w 49 #[.string key1,.string aU,.string bo,.slice gQ n11 c11,.slice gY n12 c12,.int .u64 eu,.int .u8 aT,.slice jA n13 c13];have HP:=ae (hp.below (boxed _ (.cells #[.string key2,.string aX,.string bz,.slice dq n21 c21,.slice dr n22 dt,.int .u64 fN,.int .u8 bn,.slice dK n23 c23] 49)) hp.lt);have hq:=aG.new (w.alloc (.cells #[.string key1,.string aU,.string bo,.slice gQ n11 c11,.slice gY n12 c12,.int .u64 eu,.int .u8 aT,.slice jA n13 c13] 49)) 49 #[.string key2,.string aX,.string bz,.slice dq n21 c21,.slice dr n22 dt,.int .u64 fN,.int .u8 bn,.slice dK n23 c23];rw[show(w.alloc (.cells #[.string key1,.string aU,.string bo,.slice gQ n11 c11,.slice gY n12 c12,.int .u64 eu,.int .u8 aT,.slice jA n13 c13] 49)).heap.size=w.heap.size+1 by simp]at hq;have HQ:=ae hq;clear hp hq;go_enter Tryz.func21,Tryz.ntmps21;go_upto_region 1 with fail
 generalize(w.alloc (.cells #[.string key1,.string aU,.string bo,.slice gQ n11 c11,.slice gY n12 c12,.int .u64 eu,.int .u8 aT,.slice jA n13 c13] 49)).alloc (.cells #[.string key2,.string aX,.string bz,.slice dq n21 c21,.slice dr n22 dt,.int .u64 fN,.int .u8 bn,.slice dK n23 c23] 49)=w1 at HB0 HP HQ⊢;generalize w.heap.size+1=Q at HQ⊢;generalize hP:w.heap.size=P at HP⊢;clear hP;have p0:=HP.out.cell 0;have q0:=HQ.out.cell 0;have p1:=HP.out.cell 1;have q1:=HQ.out.cell 1;have p2:=HP.out.cell 2;have q2:=HQ.out.cell 2;have p3:=HP.out.cell 3;have q3:=HQ.out.cell 3;have p4:=HP.out.cell 4;have q4:=HQ.out.cell 4;have p5:=HP.out.cell 5;have q5:=HQ.out.cell 5;have p6:=HP.out.cell 6;have q6:=HQ.out.cell 6;have p7:=HP.out.cell 7;have q7:=HQ.out.cell 7;simp at p0 q0 p1 q1 p2 q2 p3 q3 p4 q4 p5 q5 p6 q6 p7 q7;by_cases k0:key1=key2;rotate_left
 ·have z0:=gC k0;have di:af (R=false):=ae (by rw[HR.out];exact decide_eq_false (fun e=>k0 (congrArg Pr.key e)));clear k0;go_wp2_with fail
  go_ret;exact⟨by rw[di.out];rfl,HB0.out⟩
 have z0:=gB k0;by_cases k1:aU=aX;rotate_left
 ·have z1:=gC k1;have di:af (R=false):=ae (by rw[HR.out];exact decide_eq_false (fun e=>k1 (congrArg Pr.bj e)));clear k0 k1;go_wp2_with fail
  go_ret;exact⟨by rw[di.out];rfl,HB0.out⟩
 have z1:=gB k1;by_cases k2:bo=bz;rotate_left
 ·have z2:=gC k2;have di:af (R=false):=ae (by rw[HR.out];exact decide_eq_false (fun e=>k2 (congrArg Pr.user e)));clear k0 k1 k2;go_wp2_with fail
  go_ret;exact⟨by rw[di.out];rfl,HB0.out⟩
 have z2:=gB k2;by_cases k3:eu=fN;rotate_left
 ·have z3:((eu:Int) !=(fN:Int))=true:=by simp;omega
  have di:af (R=false):=ae (by rw[HR.out];exact decide_eq_false (fun e=>k3 (congrArg Pr.exp e)));clear k0 k1 k2 k3;go_wp2_with fail
  go_ret;exact⟨by rw[di.out];rfl,HB0.out⟩
 have z3:((eu:Int) !=(fN:Int))=false:=by simp[k3]
 by_cases k4:aT=bn;rotate_left
 ·have z4:((aT:Int) !=(bn:Int))=true:=by simp;omega
  have di:af (R=false):=ae (by rw[HR.out];exact decide_eq_false (fun e=>k4 (congrArg Pr.aW e)));clear k0 k1 k2 k3 k4;go_wp2_with fail
  go_ret;exact⟨by rw[di.out];rfl,HB0.out⟩
 have z4:((aT:Int) !=(bn:Int))=false:=by simp[k4]
 by_cases k5:n11=n21;rotate_left
 ·have z5:((n11:Int) !=(n21:Int))=true:=by simp;omega
  have di:af (R=false):=ae (by rw[HR.out];exact decide_eq_false (fun e=>k5 (by rw[abJ.out,abM.out];exact congrArg (fun p:Pr=>p.tags.length) e)));clear k0 k1 k2 k3 k4 k5;go_wp2_with fail
  go_ret;exact⟨by rw[di.out];rfl,HB0.out⟩
 have z5:((n11:Int) !=(n21:Int))=false:=by simp[k5]
 by_cases k6:n12=n22;rotate_left
 ·have z6:((n12:Int) !=(n22:Int))=true:=by simp;omega
  have di:af (R=false):=ae (by rw[HR.out];exact decide_eq_false (fun e=>k6 (by rw[abK.out,abN.out];exact congrArg (fun p:Pr=>p.aH.length) e)));clear k0 k1 k2 k3 k4 k5 k6;go_wp2_with fail
  go_ret;exact⟨by rw[di.out];rfl,HB0.out⟩
 have z6:((n12:Int) !=(n22:Int))=false:=by simp[k6]
 by_cases k7:n13=n23;rotate_left
 ·have z7:((n13:Int) !=(n23:Int))=true:=by simp;omega
  have di:af (R=false):=ae (by rw[HR.out];exact decide_eq_false (fun e=>k7 (by rw[abL.out,abO.out];exact congrArg (fun p:Pr=>p.ends.length) e)));clear k0 k1 k2 k3 k4 k5 k6 k7;go_wp2_with fail
  go_ret;exact⟨by rw[di.out];rfl,HB0.out⟩
 have z7:((n13:Int) !=(n23:Int))=false:=by simp[k7]
 obtain⟨E0,E1,E2,E3,E4,E5,E6,E7⟩:=af0 k0 k1 k2 k3 k4 k5 k6 k7;clear k0 k1 k2 k3 k4 k5 k6 k7;go_upto_region 3 with fail
 clear z0 z1 z2 z3 z4 z5 z6 z7;go_upto_region 4 with fail
 go_loopw [5] (fun v wr=>∃k:Nat,k≤n11∧v=.int .i64 k∧af (Below w1.heap.size w1 wr)∧af (eN.take k=cG.take k)) (fun v _=>n11-(intOf v).toNat)
 case atStart=>exact⟨0,bF _,rfl,ae (Below.refl _ _),ae rfl⟩
 case round=>
  obtain⟨k,hk,rfl,HW,hsame⟩:=hrel;obtain⟨wo0,rfl⟩:∃wo:World,wo=wr:=⟨_,rfl⟩;have px:=ak p3 HW.out;have qx:=ak q3 HW.out;by_cases hlt:k<n11
  ·have hkl:k<eN.length:=by have:=abJ.out;omega
   have hkm:k<cG.length:=by have:=abM.out;have:=E5.out;omega
   obtain⟨q1,o1,rfl,hc1⟩:=Ht1.out aY;obtain⟨q2,o2,rfl,hc2⟩:=Ht2.out (by have:=E5.out;omega);have ht1:=aA hkl;have ht2:=aA hkm;have hne:eN[k]≠cG[k]→eN≠cG:=fun h e=>h (by simp only[e])
   have d10:=ak (ak (hc1 _ _ (aE (fun x:ByteArray=>[bU x]) 1 (fun _=>rfl) (ag hkl) (r:=0) rfl)) HB0.out) HW.out;have nA:=ak (ak (hc2 _ _ (aE (fun x:ByteArray=>[bU x]) 1 (fun _=>rfl) (ag hkm) (r:=0) rfl)) HB0.out) HW.out;have z0:(k:Int)<(n11:Int):=by omega
   have z1:(k:Int)<(n21:Int):=by have:=E5.out;omega
   have z2:(0:Int)≤(k:Int):=by omega
   generalize eN[k]=U at ht1 hne d10;generalize cG[k]=V at ht2 hne nA;clear hc1 hc2 hkl hkm;simp only[Nat.mul_one,cN]at d10 nA;by_cases hX:U=V
   ·have Ol:af (eN.take (k+1)=cG.take (k+1)):=ae (by rw[ht1,ht2,hsame.out,hX]);have hq:=gB hX;clear ht1 ht2 hne hX;go_upto_region 6 with fail
    go_quiet (fail);go_wp2_with fail
    go_roundw
    case rel=>exact⟨k+1,by omega,by go_num,ae (HW.out.gy _),Ol⟩
    case measure=>simp[intOf];omega
   ·have ej:af (R=false):=ae (by rw[HR.out];exact decide_eq_false (fun e=>hne hX (congrArg Pr.tags e)));have hq:=gC hX;clear ht1 ht2 hne hX;go_upto_region 6 with fail
    go_quiet (fail);go_wp2_with fail
    go_ret;exact⟨by rw[ej.out];rfl,after HB0.out (HW.out.gy _)⟩
  ·obtain rfl:k=n11:=by omega
   have he0:eN=cG:=by
    have e:=hsame.out;rw[aO (by have:=abJ.out;omega),aO (by have:=abM.out;have:=E5.out;omega)]at e;exact e
   have ZN:=ae he0;have afe:=HW;clear he0 hsame;go_upto_region 9 with fail
   clear px qx;go_loopw [6] (fun v wr=>∃k:Nat,k≤n12∧v=.int .i64 k∧af (Below w1.heap.size w1 wr)∧af (cP.take k=bM.take k)) (fun v _=>n12-(intOf v).toNat)
   case atStart=>exact⟨0,bF _,rfl,afe,ae rfl⟩
   case round=>
    obtain⟨k,hk,rfl,HW,hsame⟩:=hrel;obtain⟨wo1,rfl⟩:∃wo:World,wo=wr:=⟨_,rfl⟩;have px:=ak p4 HW.out;have qx:=ak q4 HW.out;by_cases hlt:k<n12
    ·have hkl:k<cP.length:=by have:=abK.out;omega
     have hkm:k<bM.length:=by have:=abN.out;have:=E6.out;omega
     obtain⟨q1,o1,rfl,hc1⟩:=Ha1.out aY;obtain⟨q2,o2,rfl,hc2⟩:=Ha2.out (by have:=E6.out;omega);have ht1:=aA hkl;have ht2:=aA hkm;have hne:cP[k]≠bM[k]→cP≠bM:=fun h e=>h (by simp only[e])
     have d10:=ak (ak (hc1 _ _ (aE (fun a:Ad=>a.cells.toList) 3 (fun _=>rfl) (ag hkl) (r:=0) rfl)) HB0.out) HW.out;have d11:=ak (ak (hc1 _ _ (aE (fun a:Ad=>a.cells.toList) 3 (fun _=>rfl) (ag hkl) (r:=1) rfl)) HB0.out) HW.out;have d12:=ak (ak (hc1 _ _ (aE (fun a:Ad=>a.cells.toList) 3 (fun _=>rfl) (ag hkl) (r:=2) rfl)) HB0.out) HW.out;have nA:=ak (ak (hc2 _ _ (aE (fun a:Ad=>a.cells.toList) 3 (fun _=>rfl) (ag hkm) (r:=0) rfl)) HB0.out) HW.out;have tf:=ak (ak (hc2 _ _ (aE (fun a:Ad=>a.cells.toList) 3 (fun _=>rfl) (ag hkm) (r:=1) rfl)) HB0.out) HW.out;have ti:=ak (ak (hc2 _ _ (aE (fun a:Ad=>a.cells.toList) 3 (fun _=>rfl) (ag hkm) (r:=2) rfl)) HB0.out) HW.out;have z0:(k:Int)<(n12:Int):=by omega
     have z1:(k:Int)<(n22:Int):=by have:=E6.out;omega
     have z2:(0:Int)≤(k:Int):=by omega
     generalize cP[k]=U at ht1 hne d10 d11 d12;generalize bM[k]=V at ht2 hne nA tf ti;clear hc1 hc2 hkl hkm;have hqq:=fun W=>ZO U V W
     obtain⟨v1,hi1,lo1⟩:=U;obtain⟨v2,hi2,lo2⟩:=V;unfold Ad.cells at hqq;simp only at hqq d10 d11 d12 nA tf ti;rw[cN]at d10 nA;rw[←sE]at d11 d12 tf ti;by_cases hX:(⟨v1,hi1,lo1⟩:Ad)=⟨v2,hi2,lo2⟩
     ·have Ol:af (cP.take (k+1)=bM.take (k+1)):=ae (by rw[ht1,ht2,hsame.out,hX]);have hq:=hqq;rw[decide_eq_true hX]at hq;simp only[Bool.not_true]at hq;clear hqq;clear ht1 ht2 hne hX;go_upto_region 11 with fail
      go_quiet (fail);go_wp2_with fail
      go_roundw
      case rel=>exact⟨k+1,by omega,by go_num,ae (HW.out.gy _),Ol⟩
      case measure=>simp[intOf];omega
     ·have ej:af (R=false):=ae (by rw[HR.out];exact decide_eq_false (fun e=>hne hX (congrArg Pr.aH e)));have hq:=hqq;rw[decide_eq_false hX]at hq;simp only[Bool.not_false]at hq;clear hqq;clear ht1 ht2 hne hX;go_upto_region 11 with fail
      go_quiet (fail);go_wp2_with fail
      go_ret;exact⟨by rw[ej.out];rfl,after HB0.out (HW.out.gy _)⟩
    ·obtain rfl:k=n12:=by omega
     have he1:cP=bM:=by
      have e:=hsame.out;rw[aO (by have:=abK.out;omega),aO (by have:=abN.out;have:=E6.out;omega)]at e;exact e
     have xk:=ae he1;have aff:=HW;clear he1 hsame;go_upto_region 14 with fail
     clear px qx;go_loopw [7] (fun v wr=>∃k:Nat,k≤n13∧v=.int .i64 k∧af (Below w1.heap.size w1 wr)∧af (fi.take k=cH.take k)) (fun v _=>n13-(intOf v).toNat)
     case atStart=>exact⟨0,bF _,rfl,aff,ae rfl⟩
     case round=>
      obtain⟨k,hk,rfl,HW,hsame⟩:=hrel;obtain⟨Pg,rfl⟩:∃wo:World,wo=wr:=⟨_,rfl⟩;have px:=ak p7 HW.out;have qx:=ak q7 HW.out;by_cases hlt:k<n13
      ·have hkl:k<fi.length:=by have:=abL.out;omega
       have hkm:k<cH.length:=by have:=abO.out;have:=E7.out;omega
       obtain⟨q1,o1,rfl,hc1⟩:=He1.out aY;obtain⟨q2,o2,rfl,hc2⟩:=He2.out (by have:=E7.out;omega);have ht1:=aA hkl;have ht2:=aA hkm;have hne:fi[k]≠cH[k]→fi≠cH:=fun h e=>h (by simp only[e])
       have d10:=ak (ak (hc1 _ _ (aE (bV) 4 (fun _=>rfl) (ag hkl) (r:=0) rfl)) HB0.out) HW.out;have d11:=ak (ak (hc1 _ _ (aE (bV) 4 (fun _=>rfl) (ag hkl) (r:=1) rfl)) HB0.out) HW.out;have d12:=ak (ak (hc1 _ _ (aE (bV) 4 (fun _=>rfl) (ag hkl) (r:=2) rfl)) HB0.out) HW.out;have d13:=ak (ak (hc1 _ _ (aE (bV) 4 (fun _=>rfl) (ag hkl) (r:=3) rfl)) HB0.out) HW.out;have nA:=ak (ak (hc2 _ _ (aE (bV) 4 (fun _=>rfl) (ag hkm) (r:=0) rfl)) HB0.out) HW.out;have tf:=ak (ak (hc2 _ _ (aE (bV) 4 (fun _=>rfl) (ag hkm) (r:=1) rfl)) HB0.out) HW.out;have ti:=ak (ak (hc2 _ _ (aE (bV) 4 (fun _=>rfl) (ag hkm) (r:=2) rfl)) HB0.out) HW.out;have BW:=ak (ak (hc2 _ _ (aE (bV) 4 (fun _=>rfl) (ag hkm) (r:=3) rfl)) HB0.out) HW.out;have z0:(k:Int)<(n13:Int):=by omega
       have z1:(k:Int)<(n23:Int):=by have:=E7.out;omega
       have z2:(0:Int)≤(k:Int):=by omega
       generalize fi[k]=U at ht1 hne d10 d11 d12 d13;generalize cH[k]=V at ht2 hne nA tf ti BW;clear hc1 hc2 hkl hkm;have hqq:=fun W=>ZQ U V W
       obtain⟨⟨v1,hi1,lo1⟩,po1⟩:=U;obtain⟨⟨v2,hi2,lo2⟩,po2⟩:=V;unfold bV at hqq;simp only at hqq d10 d11 d12 d13 nA tf ti BW;rw[cN]at d10 nA;rw[←sE]at d11 d12 d13 tf ti BW;by_cases hX:((⟨v1,hi1,lo1⟩,po1):En)=(⟨v2,hi2,lo2⟩,po2)
       ·have Ol:af (fi.take (k+1)=cH.take (k+1)):=ae (by rw[ht1,ht2,hsame.out,hX]);have hq:=hqq;rw[decide_eq_true hX]at hq;simp only[Bool.not_true]at hq;clear hqq;clear ht1 ht2 hne hX;go_upto_region 16 with fail
        go_quiet (fail);go_wp2_with fail
        go_roundw
        case rel=>exact⟨k+1,by omega,by go_num,ae (HW.out.gy _),Ol⟩
        case measure=>simp[intOf];omega
       ·have ej:af (R=false):=ae (by rw[HR.out];exact decide_eq_false (fun e=>hne hX (congrArg Pr.ends e)));have hq:=hqq;rw[decide_eq_false hX]at hq;simp only[Bool.not_false]at hq;clear hqq;clear ht1 ht2 hne hX;go_upto_region 16 with fail
        go_quiet (fail);go_wp2_with fail
        go_ret;exact⟨by rw[ej.out];rfl,after HB0.out (HW.out.gy _)⟩
      ·obtain rfl:k=n13:=by omega
       have he2:fi=cH:=by
        have e:=hsame.out;rw[aO (by have:=abL.out;omega),aO (by have:=abO.out;have:=E7.out;omega)]at e;exact e
       have HE2:=ae he2;have afS:=HW;clear he2 hsame;have ej:af (R=true):=ae (by
        rw[HR.out];refine decide_eq_true ?_;rw[E0.out,E1.out,E2.out,ZN.out,xk.out,E3.out,E4.out,HE2.out])
       go_wp2_with fail
       go_ret;exact⟨by rw[ej.out];rfl,after HB0.out HW.out⟩
def Yz(w:World)(r:Ending)(w':World):Prop:=(∃z:Int,r=.returned (.int .i64 z))∧Below w.heap.size w w'
def UA(w:World)(r:Ending)(w':World):Prop:=(∃b:Bool,r=.returned (.bool b))∧Below w.heap.size w w'
theorem OH{w:World}{X:bG}(hX:eI w X)(sX:gI X.p):Calls ai 38 #[.agg X.vals.toArray] w (Yz w):=by
 have hl:=sX.tl;obtain⟨⟨key1,aU,bo,eN,cP,eu,aT,fi⟩,XG,XI,ev1⟩:=X;obtain⟨ht,ha,he⟩:=hX;simp only at ht ha he hl;obtain⟨gQ,c11,rfl,_,hT⟩:=ht;obtain⟨gY,c12,rfl⟩:=ha.shape;obtain⟨jA,c13,rfl⟩:=he.shape;rw[Bi]at hT;unfold bG.vals;simp only;obtain⟨n11,hn⟩:∃n,n=eN.length:=⟨_,rfl⟩;rw[←hn]at hT hl⊢;generalize cP.length=n12 at*;generalize fi.length=n13 at*;obtain⟨HT,HN⟩:=aQ hT hn;clear hT hn ha he sX;obtain⟨HB,HP⟩:=aQ (boxed w (.cells #[.string key1,.string aU,.string bo,.slice gQ n11 c11,.slice gY n12 c12,.int .u64 eu,.int .u8 aT,.slice jA n13 c13] 49)) (aG.new w 49 #[.string key1,.string aU,.string bo,.slice gQ n11 c11,.slice gY n12 c12,.int .u64 eu,.int .u8 aT,.slice jA n13 c13]);go_enter Tryz.func38,Tryz.ntmps38;go_upto_region 1 with fail
 generalize w.alloc (.cells #[.string key1,.string aU,.string bo,.slice gQ n11 c11,.slice gY n12 c12,.int .u64 eu,.int .u8 aT,.slice jA n13 c13] 49)=w1 at HB HP⊢;generalize w.heap.size=P at HP⊢;obtain⟨p0,p1,p2,p3,p4,p5,p6,p7⟩:=jq HP;go_upto_region 3 with fail
 generalize hz0:IntKind.wrap .i64 _=z0;clear hz0;go_loopw [3,4] (fun v3 v4 wr=>∃(z:Int)(k:Nat),k≤n11∧v3=.int .i64 z∧v4=.int .i64 k∧wr=w1) (fun _ v4 _=>n11-(intOf v4).toNat)
 case atStart=>exact⟨_,0,bF _,rfl,rfl,rfl⟩
 case round=>
  obtain⟨z,k,hk,rfl,rfl,rfl⟩:=hrel;by_cases hlt:k<n11
  ·have q1:(k:Int)<(n11:Int):=by omega
   by_cases h4:k<400
   ·have q2:(k:Int)<400:=by omega
    have hkl:k<eN.length:=by have:=HN.out;omega
    obtain⟨g,o,rfl,hc⟩:=HT.out aY;have d0:=ak (hc _ _ (aE (fun x:ByteArray=>[bU x]) 1 (fun _=>rfl) (ag hkl) (r:=0) rfl)) HB.out;simp only[Nat.mul_one,cN]at d0;generalize eN[k]=U at d0;clear hc hkl;go_wp2_with fail
    go_roundw
    case rel=>exact⟨_,k+1,by omega,rfl,by go_num,trivial⟩
    case measure=>simp[intOf];omega
   ·have q2:¬(k:Int)<400:=by omega
    go_wp2_with fail
    go_ret;exact⟨⟨_,rfl⟩,HB.out⟩
  ·have q1:¬(k:Int)<(n11:Int):=by omega
   go_wp2_with fail
   go_ret;exact⟨⟨_,rfl⟩,HB.out⟩
theorem I0{w:World}{pa ra:Value}{a:Mp}(ha:dP w pa a.aJ)(hr:gi w ra a.aF)(sz:∀p∈a.aJ,gI p)(hl:a.aJ.length≤2000000)(hl2:a.aF.length≤2000000):Calls ai 8 #[.agg #[.int .u64 (a.version:Int),pa,ra,.string a.policy]] w (UA w):=by
 obtain⟨xs,hxl,hro,hxm⟩:=ha;have ZS:∀X∈xs,gI X.p:=fun X hX=>sz _ (by rw[←hxl];exact List.mem_map_of_mem hX)
 have lx:xs.length=a.aJ.length:=by rw[←hxl,ay]
 obtain⟨lL,ca1,rfl,_,hA⟩:=hro;obtain⟨ll,ca2,rfl,_,hR⟩:=hr;obtain⟨va,fG,eX,ta⟩:=a;simp only at*;obtain⟨gk,hn1⟩:∃n,n=xs.length:=⟨_,rfl⟩;obtain⟨ix,hn2⟩:∃n,n=eX.length:=⟨_,rfl⟩;rw[←hn1]at hA lx⊢;rw[←hn2]at hR hl2⊢;rw[←lx]at hl;have hsz:=fun k(hk:k<xs.length)u(hu:Below w.heap.size w u)=>OH ((hxm _ (bC hk)).below hu) (ZS _ (bC hk))
 have hsh:=fun k(hk:k<xs.length)=>hxm _ (bC hk)
 obtain⟨HA,HR,jI,lU,HSz,HSh⟩:=tU hA hR hn1 hn2 hsz hsh;clear hA hR hn1 hn2 hsz hsh hxl hxm ZS sz lx;obtain⟨HB,HP⟩:=aQ (boxed w (.cells #[.int .u64 va,.slice lL gk ca1,.slice ll ix ca2,.string ta] 26)) (aG.new w 26 #[.int .u64 va,.slice lL gk ca1,.slice ll ix ca2,.string ta]);go_enter Tryz.func8,Tryz.ntmps8;go_upto_region 1 with fail
 generalize w.alloc (.cells #[.int .u64 va,.slice lL gk ca1,.slice ll ix ca2,.string ta] 26)=w1 at HB HP⊢;generalize w.heap.size=P at HP⊢;obtain⟨p0,p1,p2,p3⟩:=jB HP;go_upto_region 3 with fail
 go_loopw [3,4] (fun v3 v4 wr=>∃(z:Int)(k:Nat),k≤gk∧v3=.int .i64 z∧v4=.int .i64 k∧af (Below w1.heap.size w1 wr)) (fun _ v4 _=>gk-(intOf v4).toNat)
 case atStart=>exact⟨_,0,bF _,rfl,rfl,ae (Below.refl _ _)⟩
 case round=>
  obtain⟨z,k,hk,rfl,rfl,HW⟩:=hrel;obtain⟨wo,rfl⟩:∃wo:World,wo=wr:=⟨_,rfl⟩;have px1:=ak p1 HW.out;have px2:=ak p2 HW.out;have end_:(¬(k:Int)<(gk:Int)∨((k:Int)<(gk:Int)∧¬(k:Int)<200))∨((k:Int)<(gk:Int)∧(k:Int)<200):=by omega
  rcases end_ with hend|⟨q1,q2⟩
  ·rcases hend with q1|⟨q1,q2⟩
   ·go_upto_region 7 with fail
    go_loopw [3,5] (fun v3 v5 wr=>∃(z:Int)(k:Nat),k≤ix∧v3=.int .i64 z∧v5=.int .i64 k∧wr=wo) (fun _ v5 _=>ix-(intOf v5).toNat)
    case atStart=>exact⟨_,0,bF _,rfl,rfl,rfl⟩
    case round=>
     obtain⟨z2,j,hj,rfl,rfl,rfl⟩:=hrel;have e2:((j:Int)<(ix:Int)∧(j:Int)<300)∨(¬(j:Int)<(ix:Int))∨((j:Int)<(ix:Int)∧¬(j:Int)<300):=by omega
     rcases e2 with⟨r1,r2⟩|r1|⟨r1,r2⟩
     ·have hkl:j<eX.length:=by have:=lU.out;omega
      obtain⟨g,o,rfl,hc⟩:=HR.out aY;have d1:=ak (ak (hc _ _ (aE bI 6 cq (ag hkl) (r:=1) rfl)) HB.out) HW.out;rw[←sE]at d1;generalize eX[j]=U at d1;clear hc hkl;go_wp2_with fail
      go_roundw
      case rel=>exact⟨_,j+1,by omega,rfl,by go_num,trivial⟩
      case measure=>simp[intOf];omega
     ·go_wp2_with fail
      go_ret;exact⟨⟨_,rfl⟩,after HB.out HW.out⟩
     ·go_wp2_with fail
      go_ret;exact⟨⟨_,rfl⟩,after HB.out HW.out⟩
   ·go_upto_region 7 with fail
    go_loopw [3,5] (fun v3 v5 wr=>∃(z:Int)(k:Nat),k≤ix∧v3=.int .i64 z∧v5=.int .i64 k∧wr=wo) (fun _ v5 _=>ix-(intOf v5).toNat)
    case atStart=>exact⟨_,0,bF _,rfl,rfl,rfl⟩
    case round=>
     obtain⟨z2,j,hj,rfl,rfl,rfl⟩:=hrel;have e2:((j:Int)<(ix:Int)∧(j:Int)<300)∨(¬(j:Int)<(ix:Int))∨((j:Int)<(ix:Int)∧¬(j:Int)<300):=by omega
     rcases e2 with⟨r1,r2⟩|r1|⟨r1,r2⟩
     ·have hkl:j<eX.length:=by have:=lU.out;omega
      obtain⟨g,o,rfl,hc⟩:=HR.out aY;have d1:=ak (ak (hc _ _ (aE bI 6 cq (ag hkl) (r:=1) rfl)) HB.out) HW.out;rw[←sE]at d1;generalize eX[j]=U at d1;clear hc hkl;go_wp2_with fail
      go_roundw
      case rel=>exact⟨_,j+1,by omega,rfl,by go_num,trivial⟩
      case measure=>simp[intOf];omega
     ·go_wp2_with fail
      go_ret;exact⟨⟨_,rfl⟩,after HB.out HW.out⟩
     ·go_wp2_with fail
      go_ret;exact⟨⟨_,rfl⟩,after HB.out HW.out⟩
  ·have hkl:k<xs.length:=by have:=jI.out;omega
   obtain⟨g,o,rfl,hc⟩:=HA.out aY;have d0:=ak (ak (hc _ _ (aE bG.vals 8 aC (ag hkl) (r:=0) rfl)) HB.out) HW.out;have d1:=ak (ak (hc _ _ (aE bG.vals 8 aC (ag hkl) (r:=1) rfl)) HB.out) HW.out;have d2:=ak (ak (hc _ _ (aE bG.vals 8 aC (ag hkl) (r:=2) rfl)) HB.out) HW.out;have d3:=ak (ak (hc _ _ (aE bG.vals 8 aC (ag hkl) (r:=3) rfl)) HB.out) HW.out;have d4:=ak (ak (hc _ _ (aE bG.vals 8 aC (ag hkl) (r:=4) rfl)) HB.out) HW.out;have d5:=ak (ak (hc _ _ (aE bG.vals 8 aC (ag hkl) (r:=5) rfl)) HB.out) HW.out;have d6:=ak (ak (hc _ _ (aE bG.vals 8 aC (ag hkl) (r:=6) rfl)) HB.out) HW.out;have d7:=ak (ak (hc _ _ (aE bG.vals 8 aC (ag hkl) (r:=7) rfl)) HB.out) HW.out;have hcall:=HSz.out k hkl wo (after HB.out HW.out);have hm1:=HSh.out k hkl;generalize xs[k]=X at hcall hm1 d0 d1 d2 d3 d4 d5 d6 d7;obtain⟨gQ,c11,e11⟩:=hm1.tags.shape;obtain⟨gY,c12,e12⟩:=hm1.aH.shape;obtain⟨jA,c13,e13⟩:=hm1.ends.shape;clear hm1 hc hkl;obtain⟨⟨key1,aU,bo,eN,cP,eu,aT,fi⟩,XG,XI,ev1⟩:=X;unfold bG.vals at hcall;simp only at e11 e12 e13 hcall d0 d1 d2 d3 d4 d5 d6 d7;subst e11 e12 e13;generalize eN.length=n11 at hcall d3;generalize cP.length=n12 at hcall d4;generalize fi.length=n13 at hcall d7;rw[cN]at d0;rw[←sE]at d1 d2 d3 d4 d5 d6 d7;have bu:=ae hcall;clear hcall;go_wp2_with(go_at_call 38;(with_reducible refine bu.out.mono ?_);rintro r w2⟨⟨z2,rfl⟩,d9⟩)
   go_roundw
   case rel=>exact⟨_,k+1,by omega,rfl,by go_num,(bm HW d9)⟩
   case measure=>simp[intOf];omega
theorem AtR.some_{l:List Pr}{key:ByteArray}{z:Int}(h:AtR l key z):(mR l key).isSome=decide (0≤z):=by
 rcases h with⟨rfl,h⟩|⟨k,hk,rfl,h⟩
 ·rw[h];rfl
 ·rw[h,decide_eq_true aY];rfl
theorem I2{w:World}{pv:Value}{ps:List Pr}{g:Nat}(hp:dP w pv ps)(hl:ps.length≤4000000)(hg:w.cell? ⟨g,1,none⟩=some pv)(k:ByteArray):Calls ai 48 #[.string k,.pointer (some ⟨g,0,none⟩)] w (Got (.bool (mR ps k).isSome) w):=by
 have ha:=nN hp hl k;obtain⟨A,c,e⟩:=hp.shape;subst e;generalize ps.length=NS at*;have HA:=ae ha;clear ha hp hl;go_enter Tryz.func48,Tryz.ntmps48;go_wp2_with(go_at_call 41;(with_reducible refine HA.out.mono ?_);rintro r w2⟨⟨z,rfl,hz⟩,d2⟩;have HZ:=ae hz;clear hz)
 go_ret;exact⟨by rw[HZ.out.some_];rfl,d2⟩
theorem I3{w:World}{sv gv:Value}{d:Dl}{g:Nat}(hp:dP w sv d.aM)(hgo:aV w gv d.gone.length 1 (strCells d.gone))(hl:d.aM.length≤4000000)(hl2:d.gone.length≤4000000)(hg2:w.cell? ⟨g,2,none⟩=some sv)(hg3:w.cell? ⟨g,3,none⟩=some gv)(key:ByteArray)(c1 c2 c3 c4 c5 c6 c7:Value){p:Pr}(hk:p.key=key):Calls ai 50 #[.agg #[.string key,c1,c2,c3,c4,c5,c6,c7],.pointer (some ⟨g,0,none⟩)] w (Got (.bool (!stays d p)) w):=by
 have ha:=fun u(hu:Below w.heap.size w u)=>nN (hp.below hu) hl key
 have hc:=fun u(hu:Below w.heap.size w u)=>WX d.gone hl2 (hgo.below hu) key
 have hR:(!stays d p)=((d.gone.any fun y=>decide (y=key))||(mR d.aM key).isSome):=by
  unfold stays;rw[hk];cases(d.gone.any fun y=>decide (y=key))<;>cases mR d.aM key<;>rfl
 rw[hR];obtain⟨A,c,e⟩:=hp.shape;obtain⟨A2,cc2,e2⟩:=hgo.shape;subst e e2;generalize d.aM.length=NS at*;generalize d.gone.length=NG at*;generalize(d.gone.any fun y=>decide (y=key))=GA at hc⊢;have hb:=boxed w (.cells #[.string key,c1,c2,c3,c4,c5,c6,c7] 49);have HS:=ae (aG.new w 49 #[.string key,c1,c2,c3,c4,c5,c6,c7]);have g2:=ak hg2 hb;have g3:=ak hg3 hb;obtain⟨HB,HA,HC⟩:=bO hb ha hc;clear ha hc hp hgo hl hl2 hg2 hg3 hb hR hk;go_enter Tryz.func50,Tryz.ntmps50;go_upto_region 1 with fail
 generalize w.alloc (.cells #[.string key,c1,c2,c3,c4,c5,c6,c7] 49)=w1 at HB HS g2 g3⊢;generalize w.heap.size=G at HS⊢;have s0:=HS.out.cell 0;simp at s0;cases GA with
 |true=>
  go_wp2_with(go_at_call 51;(with_reducible refine(HC.out _ HB.out).mono ?_);rintro r w2⟨rfl,d2⟩)
  go_ret;exact⟨by simp,after HB.out d2⟩
 |false=>
  go_wp2_with(first
   |(go_at_call 51;(with_reducible refine(HC.out _ HB.out).mono ?_);rintro r w2⟨rfl,d2⟩;have HB2:=bm HB d2;have HS2:=ae (HS.out.below d2 HS.out.lt);have g2:=ak g2 d2;have s0:=HS2.out.cell 0;simp at s0;clear d2)
   |(go_at_call 41;(with_reducible refine(HA.out _ HB2.out).mono ?_);rintro r w3⟨⟨z,rfl,hz⟩,d3⟩;have HZ:=ae hz;clear hz))
  go_ret;exact⟨by rw[HZ.out.some_];simp,after HB2.out d3⟩
def Grew(w w':World):Prop:=∃(q:Nat)(os:Array Obj),w'=Sort.grow (w.drewN q) os
theorem Grew.below{w w':World}(h:Grew w w'):Below w.heap.size w w':=by
 obtain⟨q,os,rfl⟩:=h;exact⟨rfl,rfl,rfl,by simp[Sort.grow,World.drewN],fun k hk=>by simp[Sort.grow,World.drewN,Array.getElem?_append,hk]⟩
theorem Grew.alloc(w:World)(o:Obj):Grew w (w.alloc o):=⟨0,#[o],by rw[Sort.alloc_eq_grow];rfl⟩
theorem Grew.trans{a b c:World}(h:Grew a b)(k:Grew b c):Grew a c:=by
 obtain⟨q,os,rfl⟩:=h;obtain⟨q',os',rfl⟩:=k;exact⟨q+q',os++os',by simp[Sort.grow,World.drewN,sE,Array.append_assoc]⟩
theorem UB(w:World)(o o':Obj):Grew w ((w.alloc o).alloc o'):=(Grew.alloc w o).trans (Grew.alloc _ o')
def afg(v:Value)(w:World)(r:Ending)(w':World):Prop:=r=.returned v∧Grew w w'
section
variable{α:Type}(t:α→α→Bool)(j:α→α→α)
end
def yY(xs:List Value)(j:Nat):List Value→List Value
 |[]=>xs
 |v::r=>yY (xs.set j v) (j+1) r
theorem EJ:∀(vs:List Value)(xs:List Value)(j t:Nat),(yY xs j vs)[t]? =if j≤t∧t<j+vs.length∧t<xs.length then vs[t-j]? else xs[t]? :=by
 intro vs
 induction vs with
 |nil=>
  intro xs j t;rw[if_neg (by simp;omega)];rfl
 |cons v r ih=>
  intro xs j t;rw[yY,ih,List.length_set,cm];by_cases h1:t=j
  ·subst h1;rw[if_neg aY];by_cases h2:t<xs.length
   ·rw[List.getElem?_set_self h2,if_pos ⟨aw _,by omega,h2⟩,Nat.sub_self];rfl
   ·rw[if_neg aY,BL (by rw[List.length_set];omega),BL aY]
  ·rw[List.getElem?_set_ne (Ne.symm h1)];by_cases h2:j+1≤t∧t<j+1+r.length∧t<xs.length
   ·rw[if_pos h2,if_pos ⟨by omega,by omega,h2.2.2⟩,show t-j=(t-(j+1))+1 by omega];rfl
   ·rw[if_neg h2,if_neg aY]
theorem OI{α:Type}(enc:α→List Value)(k:Nat)(hk:∀x,(enc x).length=k)(hk0:0<k)(l:List α){i:Nat}(hi:i<l.length)(x:α):yY (l.flatMap enc) (i*k) (enc x)=(l.set i x).flatMap enc:=by
 have hlen:∀l:List α,(l.flatMap enc).length=l.length*k:=by
  intro l
  induction l with
  |nil=>simp
  |cons y r ih=>rw[Zg,aj,ih,hk,cm,Nat.succ_mul,Nat.add_comm]
 have hb:i*k+k≤l.length*k:=by
  have:=Nat.mul_le_mul_right k (show i+1≤l.length from hi);rw[Nat.succ_mul]at this;exact this
 apply List.ext_getElem?;intro t;rw[EJ,hk,hlen];by_cases ht:t<l.length*k
 ·have hq:t/k<l.length:=(Nat.div_lt_iff_lt_mul hk0).2 ht;have hr:t%k<k:=Nat.mod_lt _ hk0;have hdm:t/k*k+t%k=t:=by rw[Nat.mul_comm];exact Nat.div_add_mod t k
  have key:∀(m:List α)(y:α),m[t/k]? =some y→(m.flatMap enc)[t]? =(enc y)[t%k]? :=by
   intro m y hy;have h1:=aE enc k hk hy (ag (show t%k<(enc y).length by rw[hk];exact hr));rw[hdm]at h1;rw[h1];exact(ag (show t%k<(enc y).length by rw[hk];exact hr)).symm
  by_cases hti:t/k=i
  ·have h2:i*k≤t∧t<i*k+k∧t<l.length*k:=by rw[←hti];exact⟨by omega,by omega,ht⟩
   rw[if_pos h2,key (l.set i x) x (by rw[hti];exact List.getElem?_set_self hi)];congr 1;rw[←hti];omega
  ·have h2:¬(i*k≤t∧t<i*k+k∧t<l.length*k):=by
    rintro⟨h3,h4,_⟩;apply hti;exact Nat.div_eq_of_lt_le (by rw[Nat.mul_comm]at h3⊢;exact(by rw[Nat.mul_comm];rw[Nat.mul_comm]at h3;exact h3)) (by rw[Nat.succ_mul];exact h4)
   rw[if_neg h2,key l _ (ag hq),key (l.set i x) l[t/k] (by rw[List.getElem?_set_ne (Ne.symm hti)];exact ag hq)]
 ·rw[if_neg aY,BL (by rw[hlen];omega),BL (by rw[hlen,List.length_set];omega)]
theorem EK{base g cap n size:Nat}{e:TypeId}:∀(vs:List Value)(w:World)(j:Nat)(xs:List Value),w.ownsRow base e size (.slice (some ⟨g,0,none⟩) n cap) n xs→(w.setCells g j vs).ownsRow base e size (.slice (some ⟨g,0,none⟩) n cap) n (yY xs j vs):=by
 intro vs
 induction vs with
 |nil=>intro w j xs h;exact h
 |cons v r ih=>intro w j xs h;exact ih _ _ _ (World.ownsRow.stored h j v).1
theorem sw{w:World}{base n cap size:Nat}{A:Option Addr}{e:TypeId}{xs:List Value}(h:w.ownsRow base e size (.slice A n cap) n xs)(hn:0<n):∃g,A=some ⟨g,0,none⟩∧base≤g∧g<w.heap.size∧∀j u,xs[j]? =some u→w.cell? ⟨g,j,none⟩=some u:=by
 have h0:=h;rcases h.2 with⟨e0,e1⟩|⟨g,cap',cur,e0,hb,hg,_⟩
 ·omega
 ·injection e0 with e0 e2 e3
  subst e0;refine⟨g,rfl,hb,(Array.getElem?_eq_some_iff.1 hg).1,fun j u hu=>?_⟩;have hj:=(List.getElem?_eq_some_iff.1 hu).1;rw[h0.1]at hj;rw[World.ownsRow.cellAt h0 j hj];exact hu
def Ku(l:List Sp):List Value:=l.flatMap fun s=>s.cells.toList
end Go.Proofs.YtdfnhljccdoncaaGreatDoor
namespace Go.Proofs
open YtdfnhljccdoncaaGreatDoor
open Go.Shelf
def Tryz.sortPe_ren:Go.Shelf.Ren:=⟨fun|6=>53|15=>121|14=>120|28=>177|29=>178|20=>169|21=>170|22=>171|23=>172|24=>173|25=>174|26=>175|27=>176|46=>212|47=>213|48=>214|49=>215|50=>216|57=>252|n=>n,fun|22=>23|24=>49|25=>83|3=>3|39=>146|0=>0|53=>205|55=>22|4=>4|46=>198|45=>197|50=>202|5=>5|9=>9|66=>251|70=>254|76=>292|77=>293|n=>n,fun|n=>n⟩
theorem Tryz.sortPe:Go.Proofs.SlLaysF0.n6 ai Tryz.sortPe_ren:={
 mixed:=by kernel_rfl
 f6:=⟨Tryz.f53.name,by decide,Tryz.func53.trans (congrArg some bJ)⟩
 f14:=⟨Tryz.f120.name,by decide,Tryz.func120.trans (congrArg some bJ)⟩
 f15:=Tryz.func121.trans (congrArg some bJ)
 f20:=⟨Tryz.f169.name,by decide,Tryz.func169.trans (congrArg some bJ)⟩
 f21:=⟨Tryz.f170.name,by decide,Tryz.func170.trans (congrArg some bJ)⟩
 f22:=⟨Tryz.f171.name,by decide,Tryz.func171.trans (congrArg some bJ)⟩
 f23:=⟨Tryz.f172.name,by decide,Tryz.func172.trans (congrArg some bJ)⟩
 f24:=⟨Tryz.f173.name,by decide,Tryz.func173.trans (congrArg some bJ)⟩
 f25:=⟨Tryz.f174.name,by decide,Tryz.func174.trans (congrArg some bJ)⟩
 f26:=⟨Tryz.f175.name,by decide,Tryz.func175.trans (congrArg some bJ)⟩
 f27:=⟨Tryz.f176.name,by decide,Tryz.func176.trans (congrArg some bJ)⟩
 f28:=Tryz.func177.trans (congrArg some bJ)
 f29:=Tryz.func178.trans (congrArg some bJ)
 f46:=⟨Tryz.f212.name,by decide,Tryz.func212.trans (congrArg some bJ)⟩
 f47:=Tryz.func213.trans (congrArg some bJ)
 f48:=Tryz.func214.trans (congrArg some bJ)
 f49:=⟨Tryz.f215.name,by decide,Tryz.func215.trans (congrArg some bJ)⟩
 f50:=⟨Tryz.f216.name,by decide,Tryz.func216.trans (congrArg some bJ)⟩
 f57:=⟨Tryz.f252.name,by decide,Tryz.func252.trans (congrArg some bJ)⟩
 t0:=Tryz.underlying0
 a0:=Tryz.isAgg0
 z0:=Tryz.sizeOf0
 v0:=Tryz.zeroValue0
 t3:=Tryz.underlying3
 a3:=Tryz.isAgg3
 z3:=Tryz.sizeOf3
 v3:=Tryz.zeroValue3
 t4:=Tryz.underlying4
 a4:=Tryz.isAgg4
 z4:=Tryz.sizeOf4
 v4:=Tryz.zeroValue4
 t5:=cB
 a5:=Tryz.isAgg5
 z5:=Tryz.sizeOf5
 v5:=Tryz.zeroValue5
 t9:=Tryz.underlying9
 a9:=Tryz.isAgg9
 z9:=Tryz.sizeOf9
 v9:=Tryz.zeroValue9
 t22:=Tryz.underlying23
 a22:=Tryz.isAgg23
 z22:=Tryz.sizeOf23
 v22:=Tryz.zeroValue23
 t25:=Tryz.underlying83
 a25:=Tryz.isAgg83
 z25:=Tryz.sizeOf83
 v25:=Tryz.zeroValue83
 t39:=Tryz.underlying146
 a39:=Tryz.isAgg146
 z39:=Tryz.sizeOf146
 v39:=Tryz.zeroValue146
 t45:=Tryz.underlying197
 a45:=Tryz.isAgg197
 z45:=Tryz.sizeOf197
 v45:=Tryz.zeroValue197
 t46:=Tryz.underlying198
 a46:=Tryz.isAgg198
 z46:=Tryz.sizeOf198
 v46:=Tryz.zeroValue198
 t50:=Tryz.underlying202
 a50:=Tryz.isAgg202
 z50:=Tryz.sizeOf202
 v50:=Tryz.zeroValue202
 t53:=Tryz.underlying205
 a53:=Tryz.isAgg205
 z53:=Tryz.sizeOf205
 v53:=Tryz.zeroValue205
 t55:=Tryz.underlying22
 a55:=Tryz.isAgg22
 z55:=Tryz.sizeOf22
 v55:=Tryz.zeroValue22
 t66:=Tryz.underlying251
 a66:=Tryz.isAgg251
 z66:=Tryz.sizeOf251
 v66:=Tryz.zeroValue251
 t70:=Tryz.underlying254
 a70:=Tryz.isAgg254
 z70:=Tryz.sizeOf254
 v70:=Tryz.zeroValue254
 t76:=Tryz.underlying292
 a76:=Tryz.isAgg292
 z76:=Tryz.sizeOf292
 v76:=Tryz.zeroValue292
 t77:=Tryz.underlying293
 a77:=Tryz.isAgg293
 z77:=Tryz.sizeOf293
 v77:=Tryz.zeroValue293}
end Go.Proofs
namespace Go.Proofs.YtdfnhljccdoncaaGreatDoor
open Go.RowKit Go.Shelf Go.Sort
theorem sx{α:Type}(cells:α→List Value)(size:Nat)(hc:∀x,(cells x).length=size)(l:List α):(l.flatMap cells).length=l.length*size:=by
 induction l with
 |nil=>simp
 |cons x r ih=>rw[Zg,aj,ih,hc,cm,Nat.succ_mul,Nat.add_comm]
section
variable{α:Type}[Inhabited α](enc:α→List Value)(k:Nat)(hk:∀x,(enc x).length=k)
include hk in
theorem wR(hk0:0<k)(d:Array α):(flatK enc k d).toList=d.toList.flatMap enc:=by
 apply List.ext_getElem?;intro j;by_cases hj:j<d.size*k
 ·have hq:j/k<d.size:=(Nat.div_lt_iff_lt_mul hk0).2 hj;have hr:j%k<k:=Nat.mod_lt _ hk0;have hx:d.toList[j/k]? =some d[j/k]! :=by
   rw[age,rH hq,getElem!_pos d _ hq]
  have hu:∀X:α,(enc X)[j%k]? =some (enc X)[j%k]! :=by
   intro X;have hX:j%k<(enc X).length:=by rw[hk];exact hr
   rw[ag hX,getElem!_pos (enc X) (j%k) hX]
  have h1:=aE enc k hk hx (hu _);rw[Nat.mul_comm,Nat.div_add_mod]at h1;rw[h1,age,rH (by rw[size_flatK];exact hj),←getElem!_pos (flatK enc k d) j (by rw[size_flatK];exact hj),get_flatK enc k d j hj]
 ·rw[BL (by rw[mL,size_flatK];omega),BL (by rw[sx enc k hk,mL];omega)]
include hk in
theorem OJ(hk0:0<k){w:World}{base g n cap:Nat}{e:TypeId}{l:List α}(h:w.ownsRow base e k (.slice (some ⟨g,0,none⟩) n cap) n (l.flatMap enc))(hl:l.length=n):HoldsK enc k w g 0 l.toArray∧g<w.heap.size∧base≤g:=by
 rcases h.2 with⟨e0,_⟩|⟨g',cap',cur,e0,hb,hg,h1,h2,h3,h4⟩
 ·cases e0
 ·injection e0 with e0 _ _
  injection e0 with e0
  injection e0 with e0
  subst e0;refine⟨fun j hj=>?_,(Array.getElem?_eq_some_iff.1 hg).1,hb⟩;rw[size_flatK,af4,hl]at hj;have hF:=wR enc k hk hk0 l.toArray;have hz:j<(flatK enc k l.toArray).size:=by rw[size_flatK,af4,hl];exact hj
  have hc:cur[j]? =some (flatK enc k l.toArray)[j]! :=by
   have e:(flatK enc k l.toArray)[j]? =(l.flatMap enc)[j]? :=(age).symm.trans (by rw[hF]);rw[getElem!_pos (flatK enc k l.toArray) j hz,←rH hz,e,←h4,agn,if_pos hj,age]
  constructor
  ·unfold World.cell?;simp only[hg];rw[if_neg (by simp)];show cur[0+j]? =_;rw[Nat.zero_add,hc];rfl
  ·exact World.ownsRow.frozenAt h _
include hk in
theorem I4(hk0:0<k){w:World}{base g n cap:Nat}{e:TypeId}{l:List α}(h:w.ownsRow base e k (.slice (some ⟨g,0,none⟩) n cap) n (l.flatMap enc))(d:Array α)(hd:d.size=n)(m:Nat)(os:Array Obj):(sortWorldK enc k w g 0 m d os).ownsRow base e k (.slice (some ⟨g,0,none⟩) n cap) n (d.toList.flatMap enc)∧Below base w (sortWorldK enc k w g 0 m d os):=by
 rcases h.2 with⟨e0,_⟩|⟨g',cap',cur,e0,hb,hg,h1,h2,h3,h4⟩
 ·cases e0
 ·injection e0 with e0 _ e3
  injection e0 with e0
  injection e0 with e0
  subst e0 e3;have hgs:=(Array.getElem?_eq_some_iff.1 hg).1;have hF:=wR enc k hk hk0 d;have hFs:(flatK enc k d).size=n*k:=by rw[size_flatK,hd]
  have hnc:n*k≤cap*k:=Nat.mul_le_mul_right k h1;refine⟨⟨by rw[sx enc k hk,mL,hd],.inr ⟨g,cap,putCells id 0 (flatK enc k d) cur,rfl,hb,?_,h1,h2,?_,?_⟩⟩,?_⟩
  ·unfold sortWorldK putRowK putRow mapBlock Sort.grow Sort.ahead;simp only;rw[Array.getElem?_append_left (by rw[Array.size_modify];exact hgs),Array.getElem?_modify,if_pos rfl,hg];rfl
  ·unfold putCells;rw[Array.size_mapIdx];exact h3
  ·apply List.ext_getElem?;intro j;rw[agn];by_cases hj:j<n*k
   ·have hjc:j<cur.size:=by omega
    rw[if_pos hj,←hF,age,age];unfold putCells;rw[Array.getElem?_mapIdx,rH hjc,Option.map_some,if_pos ⟨bF _,by omega⟩,rH (by rw[hFs];exact hj),Nat.sub_zero,getElem!_pos _ _ (by rw[hFs];exact hj)];rfl
   ·rw[if_neg hj,BL (by rw[sx enc k hk,mL,hd];omega)]
  ·refine⟨rfl,rfl,rfl,?_,fun q hq=>?_⟩
   ·unfold sortWorldK putRowK putRow mapBlock Sort.grow Sort.ahead;simp
   ·unfold sortWorldK putRowK putRow mapBlock Sort.grow Sort.ahead;simp only;rw[Array.getElem?_append_left (by rw[Array.size_modify];omega),Array.getElem?_modify,if_neg aY]
end
theorem EM{α:Type}[Inhabited α]{lt:α→α→Bool}{l:List α}{d:Array α}(hp:PermIn 0 l.toArray.size l.toArray d)(hs:SortedIn lt 0 l.toArray.size d):d.toList.Perm l∧d.toList.Pairwise fun x y=>lt y x=false:=by
 obtain⟨h1,_,h3⟩:=hp;constructor
 ·have e1:(d.extract 0 l.toArray.size).toList=d.toList:=by rw[←h1,Array.extract_size]
  have e2:(l.toArray.extract 0 l.toArray.size).toList=l:=by rw[Array.extract_size]
  rw[e1,e2]at h3;exact h3
 ·rw[List.pairwise_iff_getElem];intro i j hi hj hij;have hj':j<d.size:=by simpa using hj
  have hi':i<d.size:=by simpa using hi
  have:=hs i j (bF _) hij (by rw[←h1];exact hj');rw[getElem!_pos d _ hj',getElem!_pos d _ hi']at this;simpa using this
instance:Inhabited Ad:=⟨⟨false,0,0⟩⟩
attribute [local go_sem↓] Go.wp_at_zero Go.wp_at_succ
theorem UC{w:World}{base g n cap size:Nat}{e:TypeId}{xs:List Value}(h:w.ownsRow base e size (.slice (some ⟨g,0,none⟩) n cap) n xs){i:Nat}(hi:i≤n):w.ownsRow base e size (.slice (some ⟨g,0,none⟩) i cap) i (xs.take (i*size)):=by
 have hs:i*size≤n*size:=Nat.mul_le_mul_right _ hi;obtain⟨h1,h2⟩:=h;refine⟨by rw[List.length_take,h1];omega,?_⟩;rcases h2 with⟨e0,_⟩|⟨g',cap',cur,e0,hb,hg,c1,c2,c3,c4⟩
 ·cases e0
 ·injection e0 with e0 _ e3
  subst e3;refine .inr ⟨g',cap,cur,by rw[e0],hb,hg,by omega,c2,c3,?_⟩;rw[←c4,List.take_take];congr 1;omega
theorem I5:∀(vs:List Value)(xs:List Value)(j:Nat),(yY xs j vs).take j=xs.take j:=by
 intro vs xs j;apply List.ext_getElem?;intro t;rw[agn,agn];split
 ·rw[EJ,if_neg aY]
 ·rfl
theorem YB{w:World}{base g n cap size:Nat}{e:TypeId}{xs:List Value}(h:w.ownsRow base e size (.slice (some ⟨g,0,none⟩) n cap) n xs):n≤cap:=by
 rcases h.2 with⟨e0,_⟩|⟨g',cap',cur,e0,_,_,c1,_⟩
 ·cases e0
 ·injection e0 with _ _ e3
  omega
structure mT(l:List Sp)(i j:Nat)(L:List Sp):Prop where
 ij:i<j
 jn:j≤l.length
 len:L.length=l.length
 head:L.take i=(l.take j).filter vH
 tail:L.drop j=l.drop j
theorem mT.start{l:List Sp}{k:Nat}{x:Sp}(hx:l[k]? =some x)(hd:vH x=false)(hn:∀j y,j<k→l[j]? =some y→vH y=true):mT l k (k+1) l:=by
 have hk:=(List.getElem?_eq_some_iff.1 hx).1;refine⟨Nat.lt_succ_self k,hk,rfl,?_,rfl⟩;rw[aA hk,agi,(List.getElem?_eq_some_iff.1 hx).2];have h1:(l.take k).filter vH=l.take k:=by
  rw[List.filter_eq_self];intro y hy;obtain⟨j,hj⟩:=List.getElem?_of_mem hy;rw[agn]at hj;split at hj
  ·next hjk=>exact hn j y hjk hj
  ·cases hj
 rw[h1,List.filter_cons_of_neg (by rw[hd];decide),agu,lS]
theorem mT.at_{l L:List Sp}{i j:Nat}(h:mT l i j L){x:Sp}(hx:l[j]? =some x):L[j]? =some x:=by
 have e:(L.drop j)[0]? =(l.drop j)[0]? :=by rw[h.tail]
 rw[List.getElem?_drop,List.getElem?_drop,cN]at e;rw[e,hx]
theorem mT.skip{l L:List Sp}{i j:Nat}(h:mT l i j L){x:Sp}(hx:l[j]? =some x)(hd:vH x=false):mT l i (j+1) L:=by
 have hj:=(List.getElem?_eq_some_iff.1 hx).1;refine⟨by have:=h.ij;omega,hj,h.len,?_,?_⟩
 ·rw[h.head,aA hj,agi,(List.getElem?_eq_some_iff.1 hx).2,List.filter_cons_of_neg (by rw[hd];decide),agu,lS]
 ·rw[←ags,←ags,h.tail]
theorem mT.keep{l L:List Sp}{i j:Nat}(h:mT l i j L){x:Sp}(hx:l[j]? =some x)(hd:vH x=true):mT l (i+1) (j+1) (L.set i x):=by
 have hj:=(List.getElem?_eq_some_iff.1 hx).1;have hij:=h.ij;have hil:i<L.length:=by rw[h.len];omega
 refine⟨by omega,hj,by rw[List.length_set,h.len],?_,?_⟩
 ·rw[aA hj,agi,(List.getElem?_eq_some_iff.1 hx).2,List.filter_cons_of_pos hd,agu,←h.head];rw[aA (by rw[List.length_set];exact hil),List.getElem_set_self];congr 1;rw[List.take_set_of_le (aw _)]
 ·rw[List.drop_set_of_lt aY,←ags,←ags,h.tail]
theorem mT.done{l L:List Sp}{i:Nat}(h:mT l i l.length L):L.take i=l.filter vH:=by
 rw[h.head,aO (aw _)]
end Go.Proofs.YtdfnhljccdoncaaGreatDoor
