/- Joined out of: BhC BhD BhE. -/
import Derived.Test.YtdfnhljccdoncaaGreatDoorNau
import Derived.Laws.CopyRow
import Derived.Lib.SlBuf
set_option linter.unusedVariables false
set_option linter.unusedSimpArgs false
set_option maxHeartbeats 16000000
set_option maxRecDepth 100000
open Array renaming getElem?_toList→age,getElem?_eq_none→agm
open Go.Lib renaming hid→ae
open Go.Proofs.Tryz renaming prog→ai
open Go.Result renaming andThen_ok→tH
open Go.RowKit renaming Hid→af
open Go.Sem renaming run_bind→agr
open Go.Value renaming int→agf
open Go.World renaming block_lt_of_cell?→au
open List renaming getElem?_eq_getElem→ag,length_map→ay,getD_eq_getElem?_getD→aB,replicate→aS,getElem?_map→bR,map_append→eT,mem_of_getElem?→rX,getElem?_toArray→Jl,take_zero→afH,size_toArray→af4,take_succ_cons→af9,drop_zero→aga,drop_succ_cons→agb
open Nat renaming le_trans→ax,lt_of_lt_of_le→agh
open Option renaming bind_some→agv
namespace Go.Proofs.YtdfnhljccdoncaaGreatDoor
open Go.RowKit
attribute [local go_sem↓] Go.wp_at_zero Go.wp_at_succ
theorem TX:bW fX= #[.int .u32 1779033703,.int .u32 3144134277,.int .u32 1013904242,.int .u32 2773480762,.int .u32 1359893119,.int .u32 2600822924,.int .u32 528734635,.int .u32 1541459225]:=rfl
theorem first_any(w:World):Calls ai 228 #[] w fun r w'=>r=.returned (.agg #[.int .u32 1779033703,.int .u32 3144134277,.int .u32 1013904242,.int .u32 2773480762,.int .u32 1359893119,.int .u32 2600822924,.int .u32 528734635,.int .u32 1541459225])∧Below w.heap.size w w':=by
 go_enter Tryz.func228,Tryz.ntmps228;go_wp2_with fail
 have hB:=aG.new w 219 (bW fX);exact bodyPost_ret (results_cell_row rfl _ _ w.heap.size 219 (bW fX) (0,0) _ rfl hB Tryz.underlying219 rfl bJ) rfl ⟨rfl,boxed w _⟩
def hsL(h:List Nat)(sz:Nat)(rv:Value)(n:Nat):List Value:=(h.map fun x:Nat=>agf .u32 x)++[.int .i64 sz,rv,.int .u64 n]
def fl(w:World)(g:Nat)(h:List Nat)(sz:Nat)(rv:Value)(n:Nat):Prop:=aG w g 270 (hsL h sz rv n).toArray
theorem TY{h:List Nat}(hh:Ws 8 h){sz n:Nat}{rv:Value}{i:Nat}(hi:i<8):(hsL h sz rv n).toArray[i]? =some (.int .u32 (bA h i:Int)):=by
 have hl:i<h.length:=by rw[hh.len];exact hi
 unfold hsL bA;rw[Jl,List.getElem?_append_left (by rw[ay];exact hl),bR,aB,ag hl];rfl
theorem wM{h:List Nat}(hh:Ws 8 h){sz n:Nat}{rv:Value}(i:Nat):(hsL h sz rv n).toArray[8+i]? =[agf .i64 sz,rv,.int .u64 n][i]? :=by
 unfold hsL;rw[Jl,List.getElem?_append_right (by rw[ay,hh.len];omega),ay,hh.len,Nat.add_sub_cancel_left]
theorem J8{h:List Nat}(hh:Ws 8 h){sz n:Nat}{rv:Value}{i x:Nat}(hi:i<8):(hsL h sz rv n).toArray.setIfInBounds i (.int .u32 x)=(hsL (h.set i x) sz rv n).toArray:=by
 unfold hsL;rw[List.setIfInBounds_toArray,List.set_append_left _ _ (by rw[ay,hh.len];exact hi),List.map_set]
section
variable{w w':World}{g sz n:Nat}{h:List Nat}{rv:Value}
theorem fl.word(hg:fl w g h sz rv n)(hh:Ws 8 h){i:Nat}(hi:i<8):w.cell? ⟨g,i,none⟩=some (.int .u32 (bA h i:Int)):=by
 rw[aG.cell hg i];exact TY hh hi
theorem fl.size(hg:fl w g h sz rv n)(hh:Ws 8 h):w.cell? ⟨g,8,none⟩=some (.int .i64 sz):=by
 rw[aG.cell hg 8];exact wM hh 0
theorem fl.rest(hg:fl w g h sz rv n)(hh:Ws 8 h):w.cell? ⟨g,9,none⟩=some rv:=by
 rw[aG.cell hg 9];exact wM hh 1
theorem fl.num(hg:fl w g h sz rv n)(hh:Ws 8 h):w.cell? ⟨g,10,none⟩=some (.int .u64 n):=by
 rw[aG.cell hg 10];exact wM hh 2
end
def km:Array Value:=(nO.flatten.map fun x:Nat=>agf .u8 x).toArray
def ft(w:World):Prop:=w.var? ai "isthmus/blake.orders" =some km
theorem ft.at_{w:World}(h:ft w):∃t fr,w.heap[0]? =some (.cells km t fr):=by
 unfold ft World.var? at h;rw[show ai.globalNamed "isthmus/blake.orders" =some 0 by kernel_rfl,agv]at h;split at h
 ·next cs t fr hc=>injection h with h;subst h;exact⟨t,fr,hc⟩
 ·cases h
theorem ft.keep{S:Nat→Prop}{w w':World}(h:ft w)(k:Keeps S w w')(hs:¬S 0):ft w':=by
 obtain⟨t,fr,hc⟩:=h.at_;have hl:0<w.heap.size:=(Array.getElem?_eq_some_iff.1 hc).1;have h2:=k.block _ hl hs;unfold ft World.var?;rw[show ai.globalNamed "isthmus/blake.orders" =some 0 by kernel_rfl,agv,h2,hc]
theorem ft.below{B:Nat}{w w':World}(h:ft w)(k:Below B w w')(hs:0<B):ft w':=by
 obtain⟨t,fr,hc⟩:=h.at_;have h2:=k.block _ hs;unfold ft World.var?;rw[show ai.globalNamed "isthmus/blake.orders" =some 0 by kernel_rfl,agv,h2,hc]
theorem ft.lt{w:World}(h:ft w):0<w.heap.size:=by
 obtain⟨t,fr,hc⟩:=h.at_;exact(Array.getElem?_eq_some_iff.1 hc).1
def bQ(o:List Nat):Array Value:=(o.map fun x:Nat=>agf .u8 x).toArray
theorem XP{r:Nat}(hr:r<10):(nO.getD r []).length=16∧∀i,bA (nO.getD r []) i<16:=by
 have h:∀k:Fin 10,(nO.getD k []).length=16∧∀x∈nO.getD k [],x<16:=by decide+kernel
 obtain⟨h1,h2⟩:=h ⟨r,hr⟩;refine⟨h1,fun i=>?_⟩;unfold bA;rw[aB];rcases hi:(nO.getD r [])[i]? with _|x
 ·simp
 ·exact h2 x (rX hi)
theorem A8{w:World}{g:Nat}{t:TypeId}{o:List Nat}(ho:o.length=16)(hg:aG w g t (bQ o)){i:Nat}(hi:i<16):w.cell? ⟨g,i,none⟩=some (.int .u8 (bA o i:Int)):=by
 rw[hg.cell i];unfold bQ bA;rw[Jl,bR,aB,ag (by rw[ho];exact hi)];rfl
theorem tD{o:List Nat}(ho:o.length=16):(bQ o).size=16:=by unfold bQ;rw[af4,ay,ho]
theorem IK(o:List Nat):(bQ o).all (·.oneCell')=true:=by
 unfold bQ;rw[List.all_toArray,List.all_map];exact List.all_eq_true.2 fun _ _=>rfl
theorem T0:(ai.info? 320).map (·.size)=some 16:=by kernel_rfl
theorem T8{w w0:World}{g:Nat}{t:TypeId}{v:List Nat}(hg:aG w g t (bW v))(hk:Keeps (fun k=>k=g) w0 w)(i x:Nat):aG (w.setCell ⟨g,i,none⟩ (.int .u32 x)) g t (bW (v.set i x))∧Keeps (fun k=>k=g) w0 (w.setCell ⟨g,i,none⟩ (.int .u32 x)):=by
 refine⟨?_,hk.setCell (p:=⟨g,i,none⟩) (Or.inl rfl) _⟩;rw[←wK];exact hg.aM i _
theorem jE{P:Program}{ops:Array Oper}{rest:List Oper}{o:Oper}{a:Act}{w w':World}{Q:Exit→Act→World→Prop}(hgd:o.guard=none)(s x:Operand)(t u:TypeId)(ho:o.op=.call {callee:=.builtin .copy,args:= #[s,x],argTypes:= #[t,u]}){v y v':Value}(hs:a.eval s=v)(hx:a.eval x=y)(hr:(Builtin.copy_ #[t,u] o.type #[v,y]).run P w=.ok v' w')(h:wpList P ops Q rest (a.put o.dst v') w'):wpList P ops Q (o::rest) a w:=wpList_plain hgd fun _ hK=>Lib.wp_copy_run w s x t u ho v y hs hx hr (hK _ _ h)
theorem T9:(ai.info? 205).map (·.size)=some 1:=by kernel_rfl
theorem J9(g j:Nat):(⟨g,0,none⟩:Addr).add j=⟨g,j,none⟩:=by unfold Addr.add;split<;>simp_all
theorem Ua{w:World}{V g o dL dC sL sC:Nat}{t ty:TypeId}{v u:List Nat}(hV:aG w V t (bW v))(ho:o+u.length≤v.length)(hsrc:∀j,j<u.length→w.cell? ⟨g,j,none⟩=some (.int .u32 (bA u j:Int)))(hn:u.length=Nat.min sL dL):∃w',(Builtin.copy_ #[317,317] ty #[.slice (some ⟨V,o,none⟩) dL dC,.slice (some ⟨g,0,none⟩) sL sC]).run ai w=.ok (goInt u.length) w'∧aG w' V t (bW (v.take o++u++v.drop (o+u.length)))∧Keeps (fun k=>k=V) w w':=by
 have h:=run_copy_row (P:=ai) w 317 317 ty 205 V o dL dC ⟨g,0,none⟩ sL sC (bW v) t (u.map fun x:Nat=>agf .u32 x) Tryz.underlying317 T9 hV (by rw[ay];exact hn) (fun j x hx=>by
  rw[J9];have hj:j<u.length:=by
   have:=(List.getElem?_eq_some_iff.1 hx).1;rwa [ay]at this
  rw[bR,ag hj]at hx;injection hx with hx
  subst hx;rw[hsrc j hj];unfold bA;rw[aB,ag hj];rfl) (by rw[ay];unfold bW;rw[af4,ay];exact ho) (fun x hx=>by
  obtain⟨n,_,rfl⟩:=List.mem_map.1 hx;rfl)
 rw[ay]at h;refine⟨_,h,?_,⟨rfl,rfl,rfl,by rw[setRow_size];exact Nat.le_refl _,fun k _ hk=>setRow_other w V k _ hk⟩⟩;have e:((bW v).toList.take o++(u.map fun x:Nat=>agf .u32 x)++(bW v).toList.drop (o+u.length)).toArray=bW (v.take o++u++v.drop (o+u.length)):=by
  unfold bW;rw[eT,eT,List.map_take,List.map_drop]
 rw[e];exact setRow_heap w V _ _ t (0,0) hV
theorem IL{h:List Nat}(hh:h.length=8):(((aS 16 0).take 0++h++(aS 16 0).drop (0+h.length)).take 8++fX++((aS 16 0).take 0++h++(aS 16 0).drop (0+h.length)).drop (8+fX.length))=h++fX:=by
 rw[afH,List.nil_append,List.take_left' hh,List.drop_of_length_le (by simp[hh,fX]),List.append_nil]
theorem Ub:bW (aS 16 0)= #[.int .u32 0,.int .u32 0,.int .u32 0,.int .u32 0,.int .u32 0,.int .u32 0,.int .u32 0,.int .u32 0,.int .u32 0,.int .u32 0,.int .u32 0,.int .u32 0,.int .u32 0,.int .u32 0,.int .u32 0,.int .u32 0]:=rfl
def Oe(r:Nat):Array Value:=bQ (nO.getD r [])
theorem Uc{r:Nat}(hr:r<10):km.extract (r*16) (r*16+16)=Oe r:=by
 rcases(by omega:r=0∨r=1∨r=2∨r=3∨r=4∨r=5∨r=6∨r=7∨r=8∨r=9)with rfl|rfl|rfl|rfl|rfl|rfl|rfl|rfl|rfl|rfl<;>kernel_rfl
theorem xY{r:Nat}(hr:r<10)(w:World):(Instr.index 321 (.agg km) (.int .i64 r)).run ai w=.ok (.agg (Oe r)) w:=by
 have h1:(ai.info? 320).map (·.size)=some 16:=by kernel_rfl
 have h2:ai.underlying 321=some (.array 10 320):=by kernel_rfl
 have h3:ai.underlying 320=some (.array 16 5):=by kernel_rfl
 have hs:(sizeOf 320).run ai w=.ok 16 w:=by
  cases hq:ai.info? 320 with
  |none=>simp[hq]at h1
  |some i=>
   have h1:i.size=16:=by simpa[hq]using h1
   simp[sizeOf,typeInfo,hq,h1]
 have ha:(isAgg 320).run ai w=.ok true w:=by
  unfold isAgg;rw[agr,run_underlying h3 w];rfl
 have hp:(part 320 km (r*16)).run ai w=.ok (.agg (Oe r)) w:=by
  simp[part,agr,ha,hs,Uc hr]
 have hb:(0:Int)≤(r:Int)∧(r:Int)<((10:Nat):Int):=by omega
 simp[Instr.index,asIntOf,agr,run_underlying h2 w,hs,hr,hp]
theorem se{ops:Array Oper}{rest:List Oper}{o:Oper}{a:Act}{w:World}{Q:Exit→Act→World→Prop}(hgd:o.guard=none)(x i:Operand)(ho:o.op=.index 321 x i){r:Nat}(hr:r<10){oc:Array Value}(hoc:oc=km)(hx:a.eval x=.agg oc)(hi:a.eval i=.int .i64 r)(h:wpList ai ops Q rest (a.put o.dst (.agg (Oe r))) w):wpList ai ops Q (o::rest) a w:=wpList_plain hgd fun _ hK=>by
 unfold Oper.wp execOp;subst hoc;simp only[ho,hx,hi,agr,xY hr,tH];exact hK _ _ h
theorem XQ{x:Nat}(hx:x<4294967296):4294967295^^^x=4294967295-x:=by
 have h:=congrArg BitVec.toNat (BitVec.allOnes_xor (x:=BitVec.ofNat 32 x));rw[BitVec.toNat_xor,BitVec.toNat_not,BitVec.toNat_ofNat,Nat.mod_eq_of_lt hx]at h;simpa using h
theorem aeY{x:Nat}(hx:x<4294967296):bits .xor .u32 4294967295 (x:Int)=((4294967295-x:Nat):Int):=by
 rw[←XQ hx];have:=u32_xor_nat 4294967295 x aI hx;simpa using this
theorem xZ(w:World):(Instr.alloc 320 true (.tuple #[])).run ai w=.ok (.pointer (some ⟨w.heap.size,0,none⟩)) (w.alloc (.cells (bQ (aS 16 0)) 320)):=by
 kernel_rfl
theorem sf{ops:Array Oper}{rest:List Oper}{o:Oper}{a:Act}{w:World}{Q:Exit→Act→World→Prop}(hgd:o.guard=none)(ho:o.op=.alloc 320)(h:wpList ai ops Q rest (a.put o.dst (.pointer (some ⟨w.heap.size,0,none⟩))) (w.alloc (.cells (bQ (aS 16 0)) 320))):wpList ai ops Q (o::rest) a w:=wpList_plain hgd fun _ hK=>by
 unfold Oper.wp execOp;simp only[ho,agr,xZ,tH];exact hK _ _ h
theorem XR{B:Nat}{w w0:World}(hB:Below B w0 w)(hle:B≤w.heap.size)(o:List Nat):aG ((w.alloc (.cells (bQ (aS 16 0)) 320)).setRow w.heap.size (bQ o)) w.heap.size 320 (bQ o)∧Below w.heap.size w ((w.alloc (.cells (bQ (aS 16 0)) 320)).setRow w.heap.size (bQ o))∧Below B w0 ((w.alloc (.cells (bQ (aS 16 0)) 320)).setRow w.heap.size (bQ o)):=by
 have h1:Below w.heap.size w ((w.alloc (.cells (bQ (aS 16 0)) 320)).setRow w.heap.size (bQ o)):=⟨rfl,rfl,rfl,by rw[setRow_size];simp,fun k hk=>by rw[setRow_other _ _ _ _ aY];exact heap_alloc_old w _ hk⟩;exact⟨setRow_heap _ _ _ _ _ (0,0) (heap_alloc_new w _),h1,hB.trans (h1.mono hle)⟩
theorem yT{w:World}(ord:ft w){g gp sz n cap:Nat}{h p:List Nat}{rv:Value}(hh:Ws 8 h)(hg:fl w g h sz rv n)(hn:n<18446744073709551616)(hp:∀i,i<64→w.cell? ⟨gp,i,none⟩=some (.int .u8 (bA p i:Int)))(hpb:∀i,bA p i<256)(hne:gp≠g)(hgo:g≠0)(last:Bool):Calls ai 229 #[.pointer (some ⟨g,0,none⟩),.slice (some ⟨gp,0,none⟩) 64 cap,.bool last] w fun r w'=>r=.returned (.tuple #[])∧fl w' g (nP h n p last) sz rv n∧Keeps (fun k=>k=g) w w':=by
 have hgl:g<w.heap.size:=aG.lt hg;have hpl:gp<w.heap.size:=au w _ (hp 0 aI);have hb1:=boxed w (.cells (bW (aS 16 0)) 274);have hM:=aG.new w 274 (bW (aS 16 0));have hb2:=boxed (w.alloc (.cells (bW (aS 16 0)) 274)) (.cells (bW (aS 16 0)) 274);have hV:=aG.new (w.alloc (.cells (bW (aS 16 0)) 274)) 274 (bW (aS 16 0));rw[show(w.alloc (.cells (bW (aS 16 0)) 274)).heap.size=w.heap.size+1 by simp]at hV;obtain⟨tB,HV2⟩:=aQ (hM.below hb2 hM.lt) hV;have hB2:=after hb1 hb2;obtain⟨HB2,HG,HPp,ep,Ba⟩:=kp hB2 hg hp hpb ord;clear hb1 hM hb2 hV hB2 hg hp hpb ord;rw[Ub]at tB HV2 HB2;go_enter Tryz.func229,Tryz.ntmps229;go_upto_region 1 with fail
 generalize hMe:w.heap.size=M at tB HV2 HB2 hgl hpl⊢;have HMe:=ae hMe;clear hMe;generalize(w.alloc (.cells #[.int .u32 0,.int .u32 0,.int .u32 0,.int .u32 0,.int .u32 0,.int .u32 0,.int .u32 0,.int .u32 0,.int .u32 0,.int .u32 0,.int .u32 0,.int .u32 0,.int .u32 0,.int .u32 0,.int .u32 0,.int .u32 0] 274)).alloc (.cells #[.int .u32 0,.int .u32 0,.int .u32 0,.int .u32 0,.int .u32 0,.int .u32 0,.int .u32 0,.int .u32 0,.int .u32 0,.int .u32 0,.int .u32 0,.int .u32 0,.int .u32 0,.int .u32 0,.int .u32 0,.int .u32 0] 274)=w2 at tB HV2 HB2⊢;generalize hVe:M+1=V at HV2⊢;have x9:=ae hVe;clear hVe;rw[←Ub]at tB HV2;have HPq:af (∀i,i<64→w2.cell? ⟨gp,i,none⟩=some (.int .u8 (bA p i:Int))):=ae fun i hi=>ak (HPp.out i hi) (by rw[HMe.out];exact HB2.out)
 have hgM:gp≠M:=by omega
 go_wp2_with fail
 go_loopw [19] (fun v19 wr=>∃k:Nat,k≤64∧v19=.int .i64 k∧af (aG wr M 274 (bW (kj p k)))∧af (Keeps (fun x=>x=M) w2 wr)) (fun v19 _=>64-(intOf v19).toNat)
 case atStart=>exact⟨0,by omega,rfl,tB,ae (Keeps.refl _ _)⟩
 case round=>
  obtain⟨k,hk,rfl,hm,hkp⟩:=hrel;obtain⟨wo,rfl⟩:∃wo:World,wo=wr:=⟨_,rfl⟩;by_cases hlt:k<64
  ·have c0:=bw (HPq.out k hlt) hkp.out hgM;have hb:=ep.out k;have ws:=yP p k;have aeZ:k/4<16:=by omega
   have d0:=hm.out.cell (k/4);rw[yS ws aeZ]at d0;have f0:=hm.out.frozen (k/4);have lA:=ws.at_ (k/4);have afQ:k%4*8≤24:=by omega
   have hres:=T8 hm.out hkp.out (k/4) (bA (kj p k) (k/4)|||bA p k*2^(k%4*8)%4294967296);rw[show(kj p k).set (k/4) (bA (kj p k) (k/4)|||bA p k*2^(k%4*8)%4294967296)=kj p (k+1)from(Em p k).symm]at hres;have a0:(0:Int)≤(k:Int):=by omega
   have a1:(k:Int)<64:=by omega
   generalize bA p k=X at c0 hb hres;generalize bA (kj p k) (k/4)=A at d0 lA hres;have hor:bits .or .u32 (A:Int) ((X:Int)*2^(k%4*8)%4294967296)=((A|||X*2^(k%4*8)%4294967296:Nat):Int):=by
    have:=u32_or_nat A (X*2^(k%4*8)%4294967296) lA (Nat.mod_lt _ aI);simpa using this
   generalize A|||X*2^(k%4*8)%4294967296=R at hres hor
   have C9:=ae hres;clear hres;go_wp2_with fail
   go_roundw
   case rel=>exact⟨k+1,by omega,by go_num,ae C9.out.1,ae C9.out.2⟩
   case measure=>simp[intOf];omega
  obtain rfl:k=64:=by omega
  have hV3:=HV2.out.keep hkp.out (by have:=x9.out;omega);have hB3:=hkp.out.below (B:=M) (fun q hq=>by omega) (by have:=tB.out.lt;omega);obtain⟨HB3,HV3⟩:=aQ (HB2.out.trans hB3) hV3;have oK:=hm;clear hV3 hB3 hkp HV2 tB HPq HB2 hlt hk;generalize hWW:kj p 64=ww at oK;have wsW:Ws 16 ww:=by rw[←hWW];exact yP p 64
  have HWW:=ae (fun _:Unit=>hWW);clear hWW ep HPp;go_upto_region 7 with(go_at_call 228;(with_reducible refine(first_any _).mono ?_);rintro r w4⟨rfl,d4⟩;have HD4:=ae d4;clear d4)
  have hB4:=HD4.out;have ZL:=aG.new w4 219 (bW fX);rw[TX]at ZL;have hb5:=boxed w4 (.cells #[.int .u32 1779033703,.int .u32 3144134277,.int .u32 1013904242,.int .u32 2773480762,.int .u32 1359893119,.int .u32 2600822924,.int .u32 528734635,.int .u32 1541459225] 219);have HZ:af (M<w4.heap.size∧V<w4.heap.size):=ae ⟨agh oK.out.lt hB4.size,agh HV3.out.lt hB4.size⟩;have XS:=after hB4 hb5;obtain⟨rN,HV5⟩:=aQ (oK.out.below XS oK.out.lt) (HV3.out.below XS HV3.out.lt);have nt:=ae (HB3.out.trans (XS.mono (by have h1:=HB3.out.size;have h2:=HMe.out;omega)));have BO:=ae ZL;clear hB4 ZL hb5 XS oK HV3 HB3 HD4;generalize w4.alloc (.cells #[.int .u32 1779033703,.int .u32 3144134277,.int .u32 1013904242,.int .u32 2773480762,.int .u32 1359893119,.int .u32 2600822924,.int .u32 528734635,.int .u32 1541459225] 219)=w5 at rN HV5 nt BO⊢;generalize w4.heap.size=F at HZ BO⊢;rw[←TX]at BO;have hG5:fl w5 g h sz rv n:=aG.below (g:=g) HG.out (by rw[HMe.out];exact nt.out) (aG.lt HG.out);refine wp_region_still_tail 5 bJ bJ ?_;simp only[af9,afH,agb,aga]
  repeat still_step
  refine wpStill_nil ?_;change wpList _ _ _ _ _ w5.drew;obtain⟨w6,hr6,hV6,hk6⟩:=Ua (w:=w5.drew) (V:=V) (g:=g) (o:=0) (dL:=16) (dC:=16) (sL:=8) (sC:=8) (ty:=3) (u:=h) HV5.out.drew (by rw[hh.len,List.length_replicate];decide) (fun j hj=>hG5.word hh (by rw[hh.len]at hj;exact hj)) (by rw[hh.len];rfl);refine jE rfl _ _ _ _ rfl rfl rfl hr6 ?_;have hl6:((aS 16 0).take 0++h++(aS 16 0).drop (0+h.length)).length=16:=by simp[hh.len]
  have hF6:aG w6 F 219 (bW fX):=BO.out.drew.keep hk6 (by have:=HZ.out;omega);have hM6:=rN.out.drew.keep hk6 (by have:=x9.out;omega);have hG6:fl w6 g h sz rv n:=aG.keep (g:=g) (aG.drew hG5) hk6 (by have:=x9.out;omega);have fE:=nt.out.drew.trans (hk6.below (B:=M) (fun q hq=>by have:=x9.out;omega) (Nat.le_of_lt rN.out.lt));have adA:=hV6;clear rN HV5 nt BO hG5 hk6 hr6 hV6;obtain⟨HF6,BM,HG6,ku,HV6,HL6⟩:=tU hF6 hM6 hG6 fE adA hl6;clear hF6 hM6 hG6 fE adA hl6;go_upto_region 8 with fail
  refine wp_region_still_tail 2 bJ bJ ?_;simp only[af9,afH,agb,aga]
  repeat still_step
  refine wpStill_nil ?_;change wpList _ _ _ _ _ w6.drew;obtain⟨w7,hr7,hV7,Vg⟩:=Ua (w:=w6.drew) (V:=V) (g:=F) (o:=8) (dL:=8) (dC:=8) (sL:=8) (sC:=8) (ty:=3) (u:=fX) HV6.out.drew (by rw[HL6.out];decide) (fun j hj=>dO jV HF6.out.drew hj) (by rfl);rw[IL hh.len]at hV7;refine jE rfl _ _ _ _ rfl rfl rfl hr7 ?_;have hM7:=BM.out.drew.keep Vg (by have:=x9.out;omega);have hG7:fl w7 g h sz rv n:=aG.keep (g:=g) (aG.drew HG6.out) Vg (by have:=x9.out;omega);have jl:=ku.out.drew.trans (Vg.below (B:=M) (fun q hq=>by have:=x9.out;omega) (Nat.le_of_lt BM.out.lt));obtain⟨HM7,O9,xd⟩:=bO hM7 hG7 jl;clear HF6 BM HG6 ku HV6 HL6 hr7 Vg hM7 hG7 jl;generalize h.length=hlen;have ws0:=TS hh jV;obtain⟨v0,hv0⟩:∃v,v=h++fX:=⟨_,rfl⟩;rw[←hv0]at hV7 ws0;obtain⟨HV7,Hv0⟩:=aQ hV7 hv0;clear hV7 hv0;have x0:=dO ws0 HV7.out (show 12<8+8 by decide);have f0:=HV7.out.frozen 12;have y0:=O9.out.num hh;have l0:=ws0.at_ 12;have hln:n%4294967296<4294967296:=Nat.mod_lt _ aI;have e0:IntKind.u32.wrap (n:Int)=((n%4294967296:Nat):Int):=tC n;have e1:=EA l0 hln;have hp0:=Et (n:=16) HV7.out (Keeps.refl _ _) 12 (gA (bA v0 12) (n%4294967296));have ws1:=ws0.aM 12 (jD l0 hln);obtain⟨v1,hv1⟩:∃v,v=v0.set 12 (gA (bA v0 12) (n%4294967296)):=⟨_,rfl⟩;rw[←hv1]at hp0 ws1;generalize gA (bA v0 12) (n%4294967296)=X0 at e1 hp0;generalize bA v0 12=A0 at x0 e1;generalize n%4294967296=N0 at e0 e1;obtain⟨HP0,Hv1⟩:=aQ hp0 hv1;clear hp0 hv1 l0 hln;go_upto_region 9 with fail
  refine wp_region_still_tail 9 bJ bJ ?_;simp only[af9,afH,agb,aga]
  repeat still_step
  refine wpStill_nil ?_;change wpList _ _ _ _ _ w7.drew;go_wp2_with fail
  have h8:=HP0.out;generalize(w7.setCell ⟨V,12,none⟩ (.int .u32 X0)).drew=w8 at h8⊢;have HM8:=ae (HM7.out.keep h8.2 (by have:=x9.out;omega));have HG8:af (fl w8 g h sz rv n):=ae (aG.keep (g:=g) O9.out h8.2 (by have:=x9.out;omega));have HB8:=ae (xd.out.trans (h8.2.below (B:=M) (fun q hq=>by have:=x9.out;omega) (Nat.le_of_lt HM7.out.lt)));have HV8:=ae h8.1;clear h8 HP0 HV7 HM7 O9 xd x0 f0 y0 e0 e1;have x0:=dO ws1 HV8.out (show 13<16 by decide);have f0:=HV8.out.frozen 13;have y0:=HG8.out.num hh;have l0:=ws1.at_ 13;have hln:n/4294967296%4294967296<4294967296:=Nat.mod_lt _ aI;have e0:IntKind.u32.wrap ((n:Int)/4294967296)=((n/4294967296%4294967296:Nat):Int):=tC (n/4294967296);have e1:=EA l0 hln;have hp0:=Et (n:=16) HV8.out (Keeps.refl _ _) 13 (gA (bA v1 13) (n/4294967296%4294967296));have ws2:=ws1.aM 13 (jD l0 hln);obtain⟨v2,hv2⟩:∃v,v=v1.set 13 (gA (bA v1 13) (n/4294967296%4294967296)):=⟨_,rfl⟩;rw[←hv2]at hp0 ws2;generalize gA (bA v1 13) (n/4294967296%4294967296)=X1 at e1 hp0;generalize bA v1 13=A0 at x0 e1;generalize n/4294967296%4294967296=N1 at e0 e1;obtain⟨HP0,Hv2⟩:=aQ hp0 hv2;clear hp0 hv2 l0 hln;go_upto_region 10 with fail
  refine wp_region_still_tail 10 bJ bJ ?_;simp only[af9,afH,agb,aga]
  repeat still_step
  refine wpStill_nil ?_;change wpList _ _ _ _ _ w8.drew;go_upto_if 67 with fail
  have h9:=HP0.out;generalize(w8.setCell ⟨V,13,none⟩ (.int .u32 X1)).drew=w9 at h9⊢;have Zu:=ae (HM8.out.keep h9.2 (by have:=x9.out;omega));have HG9:af (fl w9 g h sz rv n):=ae (aG.keep (g:=g) HG8.out h9.2 (by have:=x9.out;omega));have HB9:=ae (HB8.out.trans (h9.2.below (B:=M) (fun q hq=>by have:=x9.out;omega) (Nat.le_of_lt HM8.out.lt)));have HV9:=ae h9.1;clear h9 HP0 HV8 HM8 HG8 HB8 x0 f0 y0 e0 e1;go_cut []from 17 (fun wx=>af (aG wx V 274 (bW (mF h n last)))∧af (aG wx M 274 (bW ww))∧af (fl wx g h sz rv n)∧af (Below M w wx))
  case first=>
   cases last with
   |false=>
    go_wp2_with fail
    go_meet
    case rel=>exact⟨ae (by rw[show mF h n false=v2 by unfold mF;rw[Hv2.out,Hv1.out,Hv0.out];rfl];exact HV9.out),Zu,HG9,HB9⟩
   |true=>
    have x0:=dO ws2 HV9.out (show 14<16 by decide);have f0:=HV9.out.frozen 14;have l0:=ws2.at_ 14;have hp0:=T8 HV9.out (Keeps.refl _ _) 14 (4294967295-bA v2 14);have hbg:v2.set 14 (4294967295-bA v2 14)=mF h n true:=by unfold mF;rw[Hv2.out,Hv1.out,Hv0.out];rfl
    rw[hbg]at hp0;generalize bA v2 14=A0 at x0 l0 hp0;have e1:=aeY l0;have eS:IntKind.u32.signed=false:=rfl;have eM:IntKind.u32.max=4294967295:=by decide
    generalize 4294967295-A0=R0 at e1 hp0;have HP0:=ae hp0;clear hp0 hbg l0;go_wp2_with fail
    go_meet
    case rel=>
     have h9:=HP0.out;exact⟨ae h9.1,ae (Zu.out.keep h9.2 (by have:=x9.out;omega)),ae (aG.keep (g:=g) HG9.out h9.2 (by have:=x9.out;omega)),ae (HB9.out.trans (h9.2.below (B:=M) (fun q hq=>by have:=x9.out;omega) (Nat.le_of_lt Zu.out.lt)))⟩
  case rest=>
  obtain⟨hV,hM,hG,hB⟩:=hcut;clear Zu HG9 HB9 HV9;go_upto_region 14 with fail
  have ae0:=(Ba.out.below hB.out (by have:=HMe.out;have:=Ba.out.lt;omega)).at_;obtain⟨tO,frO,hO⟩:=ae0;obtain⟨oc,hoc⟩:∃c,c=km:=⟨_,rfl⟩;rw[←hoc]at hO;refine wp_region_lit ?_;refine wpList_load_row rfl _ _ rfl 0 rfl tO oc frO (.array 10 320) hO bJ rfl (by rw[hoc];kernel_rfl) ?_;have HOc:=ae hoc;clear hoc;go_wp2_with fail
  obtain⟨vb,hvb⟩:∃v,v=mF h n last:=⟨_,rfl⟩;rw[←hvb]at hV;have wsB:Ws 16 vb:=by rw[hvb];exact yQ hh n last
  have Hvb:=ae hvb;clear hvb Hv0 Hv1 Hv2 ws0 ws1 ws2 hO HZ;go_loopw [74] (fun v74 wr=>∃r:Nat,r≤10∧v74=.int .i64 r∧af (aG wr V 274 (bW (jS ww vb r)))∧af (aG wr M 274 (bW ww))∧af (Below M w wr)) (fun v74 _=>10-(intOf v74).toNat)
  case atStart=>exact⟨0,by omega,rfl,hV,hM,hB⟩
  case round=>
   obtain⟨r,hr,rfl,ZM,hMr,hBr⟩:=hrel;obtain⟨wo,rfl⟩:∃wo:World,wo=wr:=⟨_,rfl⟩;clear hV hM hG hB;have wsR:=pP (m:=ww) wsB r;by_cases hlt:r<10
   ·have hsucc:=AZ ww vb r;unfold pO at hsucc;obtain⟨IM,hob⟩:=XP hlt;have hrow:af (Oe r=bQ (nO.getD r [])):=ae rfl;generalize jS ww vb r=vr at ZM wsR hsucc;generalize hor:nO.getD r []=o at hsucc IM hob hrow;obtain⟨HS,HO⟩:=aQ (fun _:Unit=>hsucc) hob;clear hsucc hob hor;go_upto_region 16 with fail
    refine wp_region_lit ?_;refine se rfl _ _ rfl hlt HOc.out rfl rfl ?_;refine sf rfl rfl ?_;refine wpList_store_row rfl _ _ _ rfl wo.heap.size (Oe r) rfl rfl 320 (bQ (aS 16 0)) (heap_alloc_new wo _) (by rw[hrow.out,tD IM];exact T0) (by rw[hrow.out,tD IM];rfl) (by rw[hrow.out];exact IK o) ?_;rw[hrow.out];obtain⟨hR,hb1,hb2⟩:=XR hBr.out (Nat.le_of_lt hMr.out.lt) o;obtain⟨HR1,HB1,HV1,Ql⟩:=fH hR hb2 (ZM.out.below hb1 ZM.out.lt) (hMr.out.below hb1 hMr.out.lt);have hOV:af (V<wo.heap.size):=ae ZM.out.lt;clear hR hb1 hb2 ZM hMr hBr;generalize(wo.alloc (.cells (bQ (aS 16 0)) 320)).setRow wo.heap.size (bQ o)=w1 at HR1 HB1 HV1 Ql⊢;generalize wo.heap.size=O at HR1 hOV⊢;go_wp2_with fail
    go_loopw [77] (fun v77 wi=>∃k:Nat,k≤4∧v77=.int .i64 k∧af (aG wi V 274 (bW (ZK ww o vr k)))∧af (aG wi M 274 (bW ww))∧af (aG wi O 320 (bQ o))∧af (Below M w wi)) (fun v77 _=>4-(intOf v77).toNat)
    case atStart=>exact⟨0,by omega,rfl,HV1,Ql,HR1,HB1⟩
    case round=>
     obtain⟨k,hk,rfl,Ko,IP,hRi,lV⟩:=hrel;obtain⟨wo,rfl⟩:∃wo:World,wo=wr:=⟨_,rfl⟩;clear HR1 HB1 HV1 Ql;by_cases hk4:k<4
     ·have hs:=TQ ww o vr k;unfold J4 at hs;have wsU:=IJ (m:=ww) (o:=o) wsR k;generalize ZK ww o vr k=vu at Ko wsU hs;have r1:=A8 IM hRi.out (i:=2*k) aY;have r2:=A8 IM hRi.out (i:=2*k+1) aY;have b1:=HO.out (2*k);have b2:=HO.out (2*k+1);generalize bA o (2*k)=X1 at r1 b1 hs;generalize bA o (2*k+1)=X2 at r2 b2 hs;have m1:=dO wsW IP.out b1;have m2:=dO wsW IP.out b2;generalize bA ww X1=Y1 at m1 hs;generalize bA ww X2=Y2 at m2 hs;have c1:(X1:Int)<16:=by omega
      have c2:(X2:Int)<16:=by omega
      have hmx:∀(u:World)(gw:Nat),aG u V 274 (bW vu)→aG u gw 205 #[.int .u32 Y1,.int .u32 Y2]→Calls ai 262 #[.int .i64 k,.int .i64 ((4+k:Nat):Int),.int .i64 ((8+k:Nat):Int),.int .i64 ((12+k:Nat):Int),.slice (some ⟨gw,0,none⟩) 2 2,.pointer (some ⟨V,0,none⟩)] u fun r w'=>r=.returned (.tuple #[])∧kl u V (II vu k (4+k) (8+k) (12+k) Y1 Y2) w':=fun u gw hv hw=>J7 wsU hv hw aY aY aY (by omega)
      rw[←hs]at hmx;generalize hvn:ZK ww o vr (k+1)=vn at hmx;obtain⟨k1,hk1⟩:∃k1,k1=k+1:=⟨_,rfl⟩;rw[←hk1]at hvn;have HK0:af (k1≤4):=ae aY;obtain⟨Hvn,og⟩:=aQ (fun _:Unit=>hvn) (fun _:Unit=>hk1);have eW0:IntKind.i64.wrap 0=0:=rfl;have eW1:IntKind.i64.wrap 1=1:=rfl;have eW2:IntKind.i64.wrap 2=2:=rfl;have eW3:IntKind.i64.wrap 3=3:=rfl;have eW4:IntKind.i64.wrap 4=4:=rfl;have eW5:IntKind.i64.wrap 5=5:=rfl;have eW6:IntKind.i64.wrap 6=6:=rfl;have eW7:IntKind.i64.wrap 7=7:=rfl;have eW8:IntKind.i64.wrap 8=8:=rfl;have eW9:IntKind.i64.wrap 9=9:=rfl;have ae1:IntKind.i64.wrap 10=10:=rfl;have ae2:IntKind.i64.wrap 11=11:=rfl;have ae3:IntKind.i64.wrap 12=12:=rfl;have ae4:IntKind.i64.wrap 13=13:=rfl;have ae5:IntKind.i64.wrap 14=14:=rfl;have ae6:IntKind.i64.wrap 15=15:=rfl;have IQ:O≠V:=by have:=hOV.out;omega
      have IU:M≠V:=by have:=x9.out;omega
      clear hs b1 b2 hvn hk1;rcases(by omega:k=0∨k=1∨k=2∨k=3)with rfl|rfl|rfl|rfl
      all_goals
       simp only[Nat.reduceMul,Nat.reduceAdd]at r1 r2 hmx;have HMx:=ae hmx;clear hmx;go_upto_region 20 with fail
       refine wp_region_held_drew (S:=(fun w'=>w'.cell? ⟨O,_,none⟩=some (.int .u8 X1)∧w'.cell? ⟨O,_,none⟩=some (.int .u8 X2)∧w'.cell? ⟨M,X1,none⟩=some (.int .u32 Y1)∧w'.cell? ⟨M,X2,none⟩=some (.int .u32 Y2))) bJ (⟨r1,r2,m1,m2⟩) (fun hHeld=>?_);refine bB 0 ?_
       refine bB 1 ?_
       refine bB 2 ?_
       refine bB 3 ?_
       refine bB 4 ?_
       refine bB 5 ?_
       refine bB 6 ?_
       refine bB 7 ?_
       refine bB 8 ?_
       refine bB 9 ?_
       refine bB 10 ?_
       refine bB 11 ?_
       refine bB 12 ?_
       refine bB 13 ?_
       refine bB 14 ?_
       refine bB 15 ?_
       refine bB 16 ?_
       refine bB 17 ?_
       refine bB 18 ?_
       refine bB 19 ?_
       refine bB 20 ?_
       refine mM 21 fun K hK=>?_;go_simp;refine hK.out _ _ (⟨ak hHeld.1 (boxed _ _),ak hHeld.2.1 (boxed _ _),ak hHeld.2.2.1 (boxed _ _),ak hHeld.2.2.2 (boxed _ _)⟩) (fun hHeld=>?_);clear hK K;try simp only[dX]
       refine mM 22 fun K hK=>?_;go_simp;refine(HMx.out _ _ ?_ ?_).mono ?_
       ·exact(Ko.out.alloc _).drew
       ·exact(aG.new wo _ _).drew
       rintro r wa⟨rfl,hma⟩;have EC:=hma.2;refine hK.out _ _ (⟨bw hHeld.1 EC IQ,bw hHeld.2.1 EC IQ,bw hHeld.2.2.1 EC IU,bw hHeld.2.2.2 EC IU⟩) (fun hHeld=>?_);clear hK K;try simp only[dX]
       refine tX ?_;obtain⟨O0,IC⟩:=aQ ((IP.out.alloc _).drew.keep EC IU) ((hRi.out.alloc _).drew.keep EC IQ);have gP:=ae ((lV.out.alloc (Nat.le_of_lt IP.out.lt) _).drew.trans (EC.below (B:=M) (fun q hq=>by have:=x9.out;omega) (Nat.le_of_lt (IP.out.alloc _).drew.lt)));have HVa:=ae hma.1;clear hma EC r1 r2 m1 m2 Ko IP hRi lV hHeld;go_wp2_with fail
       go_roundw
       case rel=>exact⟨k1,HK0.out,by rw[og.out ()];rfl,ae (by rw[Hvn.out ()];exact HVa.out),O0,IC,gP⟩
       case measure=>simp[intOf]
     ·obtain rfl:k=4:=by omega
      have wsX:=IJ (m:=ww) (o:=o) wsR 4;obtain⟨vx,hvx⟩:∃v,v=ZK ww o vr 4:=⟨_,rfl⟩;rw[←hvx]at Ko wsX;have HS2:af (∀_:Unit,kO ww o vx 4=jS ww vb (r+1)):=ae (fun _=>by rw[hvx,HS.out ()]);clear hvx HS;go_wp2_with fail
      go_loopw [104] (fun abt wi=>∃k:Nat,k≤4∧abt=.int .i64 k∧af (aG wi V 274 (bW (kO ww o vx k)))∧af (aG wi M 274 (bW ww))∧af (aG wi O 320 (bQ o))∧af (Below M w wi)) (fun abt _=>4-(intOf abt).toNat)
      case atStart=>exact⟨0,by omega,rfl,Ko,IP,hRi,lV⟩
      case round=>
       obtain⟨k,hk,rfl,Ko,IP,hRi,lV⟩:=hrel;obtain⟨wo,rfl⟩:∃wo:World,wo=wr:=⟨_,rfl⟩;by_cases hk4:k<4
       ·have hs:=AY ww o vx k;unfold oD at hs;have wsU:=wJ (m:=ww) (o:=o) wsX k;generalize kO ww o vx k=vu at Ko wsU hs;have r1:=A8 IM hRi.out (i:=8+2*k) aY;have r2:=A8 IM hRi.out (i:=9+2*k) aY;have b1:=HO.out (8+2*k);have b2:=HO.out (9+2*k);generalize bA o (8+2*k)=X1 at r1 b1 hs;generalize bA o (9+2*k)=X2 at r2 b2 hs;have m1:=dO wsW IP.out b1;have m2:=dO wsW IP.out b2;generalize bA ww X1=Y1 at m1 hs;generalize bA ww X2=Y2 at m2 hs;have c1:(X1:Int)<16:=by omega
        have c2:(X2:Int)<16:=by omega
        have hmx:∀(u:World)(gw:Nat),aG u V 274 (bW vu)→aG u gw 205 #[.int .u32 Y1,.int .u32 Y2]→Calls ai 262 #[.int .i64 k,.int .i64 ((4+(k+1)%4:Nat):Int),.int .i64 ((8+(k+2)%4:Nat):Int),.int .i64 ((12+(k+3)%4:Nat):Int),.slice (some ⟨gw,0,none⟩) 2 2,.pointer (some ⟨V,0,none⟩)] u fun r w'=>r=.returned (.tuple #[])∧kl u V (II vu k (4+(k+1)%4) (8+(k+2)%4) (12+(k+3)%4) Y1 Y2) w':=fun u gw hv hw=>J7 wsU hv hw aY aY aY (by omega)
        rw[←hs]at hmx;generalize hvn:kO ww o vx (k+1)=vn at hmx;obtain⟨k1,hk1⟩:∃k1,k1=k+1:=⟨_,rfl⟩;rw[←hk1]at hvn;have HK0:af (k1≤4):=ae aY;obtain⟨Hvn,og⟩:=aQ (fun _:Unit=>hvn) (fun _:Unit=>hk1);have eW0:IntKind.i64.wrap 0=0:=rfl;have eW1:IntKind.i64.wrap 1=1:=rfl;have eW2:IntKind.i64.wrap 2=2:=rfl;have eW3:IntKind.i64.wrap 3=3:=rfl;have eW4:IntKind.i64.wrap 4=4:=rfl;have eW5:IntKind.i64.wrap 5=5:=rfl;have eW6:IntKind.i64.wrap 6=6:=rfl;have eW7:IntKind.i64.wrap 7=7:=rfl;have eW8:IntKind.i64.wrap 8=8:=rfl;have eW9:IntKind.i64.wrap 9=9:=rfl;have ae1:IntKind.i64.wrap 10=10:=rfl;have ae2:IntKind.i64.wrap 11=11:=rfl;have ae3:IntKind.i64.wrap 12=12:=rfl;have ae4:IntKind.i64.wrap 13=13:=rfl;have ae5:IntKind.i64.wrap 14=14:=rfl;have ae6:IntKind.i64.wrap 15=15:=rfl;have IQ:O≠V:=by have:=hOV.out;omega
        have IU:M≠V:=by have:=x9.out;omega
        clear hs b1 b2 hvn hk1;rcases(by omega:k=0∨k=1∨k=2∨k=3)with rfl|rfl|rfl|rfl
        all_goals
         simp only[Nat.reduceMul,Nat.reduceAdd,Nat.reduceMod]at r1 r2 hmx;have HMx:=ae hmx;clear hmx;go_upto_region 25 with fail
         refine wp_region_held_drew (S:=(fun w'=>w'.cell? ⟨O,_,none⟩=some (.int .u8 X1)∧w'.cell? ⟨O,_,none⟩=some (.int .u8 X2)∧w'.cell? ⟨M,X1,none⟩=some (.int .u32 Y1)∧w'.cell? ⟨M,X2,none⟩=some (.int .u32 Y2))) bJ (⟨r1,r2,m1,m2⟩) (fun hHeld=>?_);refine bB 0 ?_
         refine bB 1 ?_
         refine bB 2 ?_
         refine bB 3 ?_
         refine bB 4 ?_
         refine bB 5 ?_
         refine bB 6 ?_
         refine bB 7 ?_
         refine bB 8 ?_
         refine bB 9 ?_
         refine bB 10 ?_
         refine bB 11 ?_
         refine bB 12 ?_
         refine bB 13 ?_
         refine bB 14 ?_
         refine bB 15 ?_
         refine bB 16 ?_
         refine bB 17 ?_
         refine bB 18 ?_
         refine bB 19 ?_
         refine bB 20 ?_
         refine bB 21 ?_
         refine bB 22 ?_
         refine bB 23 ?_
         refine bB 24 ?_
         refine bB 25 ?_
         refine bB 26 ?_
         refine bB 27 ?_
         refine mM 28 fun K hK=>?_;go_simp;refine hK.out _ _ (⟨ak hHeld.1 (boxed _ _),ak hHeld.2.1 (boxed _ _),ak hHeld.2.2.1 (boxed _ _),ak hHeld.2.2.2 (boxed _ _)⟩) (fun hHeld=>?_);clear hK K;try simp only[dX]
         refine mM 29 fun K hK=>?_;go_simp;refine(HMx.out _ _ ?_ ?_).mono ?_
         ·exact(Ko.out.alloc _).drew
         ·exact(aG.new wo _ _).drew
         rintro r wa⟨rfl,hma⟩;have EC:=hma.2;refine hK.out _ _ (⟨bw hHeld.1 EC IQ,bw hHeld.2.1 EC IQ,bw hHeld.2.2.1 EC IU,bw hHeld.2.2.2 EC IU⟩) (fun hHeld=>?_);clear hK K;try simp only[dX]
         refine tX ?_;obtain⟨O0,IC⟩:=aQ ((IP.out.alloc _).drew.keep EC IU) ((hRi.out.alloc _).drew.keep EC IQ);have gP:=ae ((lV.out.alloc (Nat.le_of_lt IP.out.lt) _).drew.trans (EC.below (B:=M) (fun q hq=>by have:=x9.out;omega) (Nat.le_of_lt (IP.out.alloc _).drew.lt)));have HVa:=ae hma.1;clear hma EC r1 r2 m1 m2 Ko IP hRi lV hHeld;go_wp2_with fail
         refine⟨?_,?measure⟩
         (repeat apply Exists.intro)
         refine⟨?rel,rfl⟩
         case rel=>exact⟨k1,HK0.out,by rw[og.out ()];rfl,ae (by rw[Hvn.out ()];exact HVa.out),O0,IC,gP⟩
         case measure=>simp[intOf]
       ·obtain rfl:k=4:=by omega
        go_wp2_with fail
        go_roundw
        case rel=>exact⟨r+1,by omega,by go_num,ae (by rw[←HS2.out ()];exact Ko.out),IP,lV⟩
        case measure=>simp[intOf];omega
   ·obtain rfl:r=10:=by omega
    clear Ba HOc wsR;obtain⟨vz,hvz⟩:∃v,v=jS ww vb 10:=⟨_,rfl⟩;have wsZ:Ws 16 vz:=by rw[hvz];exact pP wsB 10
    rw[←hvz]at ZM;have hfin:af (∀_:Unit,mG vz h 8=nP h n p last):=ae (fun _=>by unfold nP;rw[hvz,Hvb.out,HWW.out ()]);clear hvz Hvb HWW wsB;have HG0:af (fl wo g (mG vz h 0) sz rv n):=ae (aG.below (g:=g) HG.out (by rw[HMe.out];exact hBr.out) (aG.lt HG.out));go_wp2_with fail
    go_loopw [139] (fun v139 wi=>∃i:Nat,i≤8∧v139=.int .i64 i∧af (fl wi g (mG vz h i) sz rv n)∧af (aG wi V 274 (bW vz))∧af (∃u,Below M w u∧M≤u.heap.size∧Keeps (fun k=>k=g) u wi)) (fun v139 _=>8-(intOf v139).toNat)
    case atStart=>exact⟨0,by omega,rfl,HG0,ZM,ae ⟨_,hBr.out,Nat.le_of_lt hMr.out.lt,Keeps.refl _ _⟩⟩
    case round=>
     obtain⟨i,hi,rfl,hGi,Ko,hUi⟩:=hrel;obtain⟨wo,rfl⟩:∃wo:World,wo=wr:=⟨_,rfl⟩;clear HG0 ZM hMr hBr;have wsH:=yR wsZ hh i;by_cases hi8:i<8
     ·have hs:=Ep vz h i;unfold J5 at hs;generalize mG vz h i=hc at hGi wsH hs;have c0:=hGi.out.word wsH hi8;have c1:=dO wsZ Ko.out (i:=i) aY;have c2:=dO wsZ Ko.out (i:=8+i) aY;have f0:=aG.frozen (g:=g) hGi.out i;have l0:=wsH.at_ i;have l1:=wsZ.at_ i;have l2:=wsZ.at_ (8+i);have e1:=EA l1 l2;have e2:=EA l0 (jD l1 l2);have hput:fl (wo.setCell ⟨g,i,none⟩ (.int .u32 (gA (bA hc i) (gA (bA vz i) (bA vz (8+i))):Int))) g (hc.set i (gA (bA hc i) (gA (bA vz i) (bA vz (8+i))))) sz rv n:=by
       unfold fl;rw[←J8 wsH hi8];exact aG.aM hGi.out i _
      rw[←hs]at hput;generalize hhn:mG vz h (i+1)=hn1 at hput;have Hhn:=ae (fun _:Unit=>hhn);generalize gA (bA hc i) (gA (bA vz i) (bA vz (8+i)))=X3 at e2 hput;generalize gA (bA vz i) (bA vz (8+i))=X4 at e1 e2;generalize bA hc i=X0 at c0 e2;generalize bA vz i=X1 at c1 e1;generalize bA vz (8+i)=X2 at c2 e1;have Fg:=ae hput;clear hs hhn hput l0 l1 l2;have z1:(i:Int)<16:=by omega
      obtain⟨j,hj⟩:∃j,j=8+i:=⟨_,rfl⟩;rw[←hj]at c2;have z3:8+(i:Int)=(j:Int):=by omega
      have z4:(j:Int)<16:=by omega
      have z5:IntKind.i64.wrap (j:Int)=(j:Int):=by rw[IntKind.wrap_i64];omega
      clear hj;have HMg:af (V≠g):=ae (by have:=x9.out;omega);go_upto_region 31 with fail
      refine wp_region_still_tail 18 bJ bJ ?_;simp only[af9,afH,agb,aga]
      repeat still_step
      refine wpStill_nil ?_;change wpList _ _ _ _ _ wo.drew;go_wp2_with fail
      refine⟨?_,?measure⟩
      (repeat apply Exists.intro)
      refine⟨?rel,rfl⟩
      case rel=>
       refine⟨i+1,by omega,by go_num,ae (by rw[Hhn.out ()];exact aG.drew Fg.out),ae (aG.drew (aG.far Ko.out (p:=⟨g,i,none⟩) HMg.out _)),ae ?_⟩;obtain⟨u,u1,u2,u3⟩:=hUi.out;exact⟨u,u1,u2,(u3.setCell (p:=⟨g,i,none⟩) (Or.inl rfl) _).drew⟩
      case measure=>simp[intOf];omega
     ·obtain rfl:i=8:=by omega
      go_wp2_with fail
      go_end0
      have hG:=hGi.out;rw[hfin.out ()]at hG;refine⟨rfl,hG,?_⟩;obtain⟨u,u1,u2,u3⟩:=hUi.out;exact(Keeps.of_below (by rw[HMe.out];exact u1) fun k hk _=>hk).trans u3
def Bc:List Nat:=fX.set 0 1795745351
theorem Ud(w:World):Calls ai 193 #[.int .i64 32,.string ⟨#[]⟩] w fun r w'=>(∃g,w.heap.size≤g∧r=.returned (.tuple #[.pointer (some ⟨g,0,none⟩),.int .i64 0])∧fl w' g Bc 32 (.slice none 0 0) 0)∧Below w.heap.size w w':=by
 have hF:=first_any;go_enter Tryz.func193,Tryz.ntmps193;go_upto_region 4 with(go_at_call 228;(with_reducible refine(hF _).mono ?_);rintro r w1⟨rfl,d1⟩)
 have h1:fl (w1.alloc (.cells #[.int .u32 1779033703,.int .u32 3144134277,.int .u32 1013904242,.int .u32 2773480762,.int .u32 1359893119,.int .u32 2600822924,.int .u32 528734635,.int .u32 1541459225,.int .i64 32,.slice none 0 0,.int .u64 0] 270)) w1.heap.size fX 32 (.slice none 0 0) 0:=aG.new w1 _ _;have b1:=after d1 (boxed w1 (.cells #[.int .u32 1779033703,.int .u32 3144134277,.int .u32 1013904242,.int .u32 2773480762,.int .u32 1359893119,.int .u32 2600822924,.int .u32 528734635,.int .u32 1541459225,.int .i64 32,.slice none 0 0,.int .u64 0] 270));have hle:w.heap.size≤w1.heap.size:=d1.size;clear d1;generalize w1.alloc (.cells #[.int .u32 1779033703,.int .u32 3144134277,.int .u32 1013904242,.int .u32 2773480762,.int .u32 1359893119,.int .u32 2600822924,.int .u32 528734635,.int .u32 1541459225,.int .i64 32,.slice none 0 0,.int .u64 0] 270)=w2 at h1 b1⊢;generalize w1.heap.size=g at h1 hle⊢;have c0:=fl.word (i:=0) h1 jV aI;rw[show bA fX 0=1779033703 from rfl]at c0;have f0:=aG.frozen (g:=g) h1 0;have h2:fl (w2.setCell ⟨g,0,none⟩ (.int .u32 1795745351)).drew g Bc 32 (.slice none 0 0) 0:=by
  unfold fl Bc;rw[←J8 jV aI];exact(aG.aM h1 0 _).drew
 have b2:=(b1.setCell (p:=⟨g,0,none⟩) hle (.int .u32 1795745351)).drew;obtain⟨H1,H2,B2⟩:=bO h1 h2 b2;have e0:bits .xor .u32 16842752 0=16842752:=by decide
 have e1:bits .xor .u32 16842752 32=16842784:=by decide
 have e2:bits .xor .u32 1779033703 16842784=1795745351:=by decide
 clear h1 h2 b1 b2 hF;refine wp_region_still_tail 17 bJ bJ ?_;simp only[af9,afH,agb,aga]
 repeat still_step
 refine wpStill_nil ?_;change wpList _ _ _ _ _ w2.drew;go_wp2_with fail
 go_ret2;exact⟨⟨g,hle,rfl,H2.out⟩,B2.out⟩
def XT(l:List Nat):List Value:=l.map fun x:Nat=>agf .u8 (x:Int)
def Og(lo:Nat)(w:World)(g:Nat)(b:Bl):Prop:=∃rv,fl w g b.h 32 rv b.n∧w.ownsRow lo 5 1 rv b.rest.length (XT b.rest)
theorem Oh{w:World}{lo g n cap:Nat}{e:TypeId}{size:Nat}{xs:List Value}(h:w.ownsRow lo e size (.slice (some ⟨g,0,none⟩) n cap) n xs):w.ownsRow lo e size (.slice (some ⟨g,0,none⟩) 0 cap) 0 []:=by
 refine⟨by simp,Or.inr ?_⟩;rcases h.2 with⟨hv,_⟩|⟨g',cap',cur,hv,hb,hg,hn,hc,hs,_⟩
 ·cases hv
 ·injection hv with h1 h2 h3
  injection h1 with h1
  injection h1 with h1
  subst h1;subst h3;exact⟨g,cap,cur,rfl,hb,hg,Nat.zero_le _,hc,hs,by simp⟩
theorem Bl.yU(b:Bl)(l:List Nat)(c:Nat):b.adds (l++[c])=(b.adds l).add c:=by
 unfold Bl.adds;rw[List.foldl_append];rfl
theorem sg{w:World}{lo g cap:Nat}{l:List Nat}(h:w.ownsRow lo 5 1 (.slice (some ⟨g,0,none⟩) l.length cap) l.length (XT l)){i:Nat}(hi:i<l.length):w.cell? ⟨g,i,none⟩=some (.int .u8 (bA l i:Int)):=by
 rcases h.2 with⟨hv,_⟩|⟨g',cap',cur,hv,hb,hg,hn,hc,hs,ht⟩
 ·cases hv
 ·injection hv with h1 h2 h3
  injection h1 with h1
  injection h1 with h1
  subst h1;rw[Nat.mul_one]at ht;have h2:(cur.toList.take l.length)[i]? =(XT l)[i]? :=by rw[ht]
  rw[List.getElem?_take,if_pos hi]at h2;unfold World.cell?;simp only[hg];rw[←age,h2];unfold XT bA;rw[bR,aB,ag hi];rfl
theorem pQ{w:World}{lo n size:Nat}{e:TypeId}{v:Value}{xs:List Value}(h:w.ownsRow lo e size v n xs):∃A c,v=.slice A n c:=by
 rcases h.2 with⟨hv,hn⟩|⟨g,cap,cur,hv,_⟩
 ·exact⟨none,0,by rw[hv,hn]⟩
 ·exact⟨_,_,hv⟩
theorem yV{w:World}{lo n size:Nat}{e:TypeId}{A:Option Addr}{c:Nat}{xs:List Value}(h:w.ownsRow lo e size (.slice A n c) n xs)(hn:n≠0):∃q,A=some ⟨q,0,none⟩:=by
 rcases h.2 with⟨_,h0⟩|⟨g,cap,cur,hv,_⟩
 ·exact absurd h0 hn
 ·injection hv with h1
  exact⟨g,h1⟩
theorem ED{h:List Nat}(hh:Ws 8 h){sz n:Nat}{rv v:Value}(i:Nat):(hsL h sz rv n).toArray.setIfInBounds (8+i) v=((h.map fun x:Nat=>agf .u32 x)++[agf .i64 sz,rv,.int .u64 n].set i v).toArray:=by
 unfold hsL;rw[List.setIfInBounds_toArray,List.set_append_right _ _ (by rw[ay,hh.len];omega),ay,hh.len,Nat.add_sub_cancel_left]
section
variable{w w':World}{g sz n:Nat}{h:List Nat}{rv:Value}
theorem fl.Ue(hg:fl w g h sz rv n)(hh:Ws 8 h)(m:Nat):fl (w.setCell ⟨g,10,none⟩ (.int .u64 m)) g h sz rv m:=by
 have:=aG.aM (g:=g) hg 10 (.int .u64 m);rw[ED hh 2]at this;exact this
theorem fl.Kp(hg:fl w g h sz rv n)(hh:Ws 8 h)(v:Value):fl (w.setCell ⟨g,9,none⟩ v) g h sz v n:=by
 have:=aG.aM (g:=g) hg 9 v;rw[ED hh 1]at this;exact this
theorem iw{lo size m:Nat}{e:TypeId}{v:Value}{xs:List Value}(hw:w.ownsRow lo e size v m xs)(hk:∀q,v.ownBlock=some q→w'.heap[q]? =w.heap[q]?):w'.ownsRow lo e size v m xs:=by
 refine⟨hw.1,?_⟩;rcases hw.2 with h0|⟨q,cap,cur,hv,hb,hg,rest⟩
 ·exact Or.inl h0
 ·exact Or.inr ⟨q,cap,cur,hv,hb,by rw[hk q (by rw[hv];rfl)];exact hg,rest⟩
theorem uz{lo size m q:Nat}{v:Value}{xs:List Value}(hw:w.ownsRow lo 5 size v m xs)(hg:fl w g h sz rv n)(hq:v.ownBlock=some q):q≠g:=by
 rcases hw.2 with⟨hv,_⟩|⟨q',cap,cur,hv,hb,hq',_⟩
 ·rw[hv]at hq;cases hq
 ·rw[hv]at hq;injection hq with hq
  subst hq;exact aG.xc hq' hg (by decide)
end
theorem oH(w:World)(g k i:Nat)(v:Value)(h:k≠g):(w.setCell ⟨g,i,none⟩ v).heap[k]? =w.heap[k]? :=by
 have:=((Keeps.refl (fun q=>q=g) w).setCell (p:=⟨g,i,none⟩) (Or.inl rfl) v);rcases Nat.lt_or_ge k w.heap.size with hl|hl
 ·exact this.block k hl h
 ·rw[agm hl,agm (by simpa using hl)]
theorem Bd{w:World}{lo size m q:Nat}{e:TypeId}{v:Value}{xs:List Value}(hw:w.ownsRow lo e size v m xs)(hq:v.ownBlock=some q):q<w.heap.size:=by
 rcases hw.2 with⟨hv,_⟩|⟨q',cap,cur,hv,hb,hq',_⟩
 ·rw[hv]at hq;cases hq
 ·rw[hv]at hq;injection hq with hq
  subst hq;exact(Array.getElem?_eq_some_iff.1 hq').1
theorem Uf(l:List Nat)(x:Nat):XT (l++[x])=XT l++[.int .u8 x]:=by unfold XT;rw[eT];rfl
theorem jT{P:Program}{w:World}{ops:Array Oper}{o:Oper}{a:Act}{K:Act→World→Prop}{Q:Exit→Act→World→Prop}{E:Prop}(hgd:o.guard=none)(s x:Operand)(t u:TypeId)(ho:o.op=.call {callee:=.builtin .append,args:= #[s,x],argTypes:= #[t,u]}){v y v':Value}{w':World}(hs:a.eval s=v)(hx:a.eval x=y)(hr:(Builtin.append_ #[t,u] o.type #[v,y]).run P w=.ok v' w')(h:K (a.put o.dst v') w'):if Region.wanted o (yielded ops a.tmps)=true then Oper.wp P o a w K Q else E:=by
 have hw:Region.wanted o (yielded ops a.tmps)=true:=by simp[Region.wanted,hgd]
 rw[if_pos hw];unfold Oper.wp execOp;simp only[ho,resolve,invoke,builtin,agr,Sem.run_pure,tH,List.map_toArray,List.map_cons,List.map_nil,hs,hx,hr];exact h
theorem XU:(ai.info? 5).map (fun i=>(i.zero,i.size,i.bytes))=some (some (.int .u8 0),1,1):=by kernel_rfl
theorem Ug{w:World}(ord:ft w){g lo:Nat}{b:Bl}(ok:b.Ok)(s:ByteArray)(hs:s.size≤16777216)(hn:b.n+b.rest.length≤16777216)(hlo:lo≤g)(Ju:lo≤w.heap.size)(hol:0<lo)(hb:Og lo w g b):Calls ai 194 #[.pointer (some ⟨g,0,none⟩),.string s] w fun r w'=>r=.returned (.int .i64 0)∧Og lo w' g (b.adds (s.data.toList.map UInt8.toNat))∧Below lo w w':=by
 obtain⟨HB,Oi,Ba⟩:=bO hb ok ord;obtain⟨rv0,a1,a2⟩:=hb;have c8:=a1.size ok.h;clear a1 a2 ok ord;go_enter Tryz.func194,Tryz.ntmps194;go_wp2_with fail
 clear c8;generalize hl:s.data.toList.map UInt8.toNat=l;have hll:l.length=s.size:=by rw[←hl,ay];rfl
 obtain⟨HL,HLl⟩:=aQ hl hll;clear hl hll;go_loopw [17] (fun v17 wr=>∃k:Nat,k≤s.size∧v17=.int .i64 k∧af (Og lo wr g (b.adds (l.take k)))∧af (Below lo w wr)∧af (lo≤wr.heap.size)) (fun v17 _=>s.size-(intOf v17).toNat)
 case atStart=>exact⟨0,by omega,rfl,ae (by rw[afH];exact HB.out),ae (Below.refl _ _),ae Ju⟩
 case round=>
  obtain⟨k,hk,rfl,ZL,hBw,hSz⟩:=hrel;obtain⟨wo,rfl⟩:∃wo:World,wo=wr:=⟨_,rfl⟩;clear HB;by_cases hlt:k<s.size
  ·have hok:(b.adds (l.take k)).Ok:=Bl.J6 (fun x hx=>by
    have hx:=List.mem_of_mem_take hx;rw[←HL.out]at hx;obtain⟨y,_,rfl⟩:=List.mem_map.1 hx;exact y.toNat_lt) Oi.out
   have hcount:=Bl.TW (l.take k) b;rw[List.length_take,HLl.out,Nat.min_eq_left hk]at hcount;have hstep:af (∀_:Unit,b.adds (l.take (k+1))=(b.adds (l.take k)).add (bA l k)):=ae (fun _=>by
    rw[←Bl.yU];congr 1;have hk':k<l.length:=by rw[HLl.out];exact hlt
    rw[List.take_add_one,ag hk'];unfold bA;rw[aB,ag hk'];rfl)
   generalize b.adds (l.take k)=bk at ZL hok hcount hstep;have aem:bk.n+bk.rest.length≤33554432:=by omega
   have EE:=ae hok;clear hcount hok;obtain⟨rv,h1,h2⟩:=ZL.out;obtain⟨A,cp,hrv⟩:=pQ h2;subst hrv;have c9:=h1.rest EE.out.h;obtain⟨H1,H2⟩:=aQ h1 h2;clear h1 h2 ZL;have e64:((bk.rest.length:Int)==64)=decide (bk.rest.length=64):=by rw[Bool.eq_iff_iff];simp;omega
   go_upto_if 25 with fail
   go_cut []from 18 (fun wc=>af (∃A c h' rest' n',fl wc g h' 32 (.slice A rest'.length c) n'∧wc.ownsRow lo 5 1 (.slice A rest'.length c) rest'.length (XT rest')∧Ws 8 h'∧rest'.length≤63∧∀x,bk.add x=⟨h',rest'++[x],n'⟩)∧af (Below lo w wc)∧af (lo≤wc.heap.size))
   case first=>
    by_cases h64:bk.rest.length=64
    ·obtain⟨q,hq⟩:=yV H2.out aY;subst hq;have hqg:=uz H2.out H1.out (q:=q) rfl;have c10:=H1.out.num EE.out.h;have f9:=aG.frozen (g:=g) H1.out 9;have f10:=aG.frozen (g:=g) H1.out 10;obtain⟨m,hm⟩:∃m,m=bk.n+64:=⟨_,rfl⟩;have e10:IntKind.u64.wrap ((bk.n:Int)+64)=(m:Int):=by rw[IntKind.wrap_u64];omega
     have h1:=H1.out.Ue EE.out.h m;have h2:=iw H2.out (w':=wo.setCell ⟨g,10,none⟩ (.int .u64 m)) (fun q' hq'=>by injection hq' with hq';subst hq';exact oH _ _ _ _ _ hqg);have b1:=hBw.out.setCell (p:=⟨g,10,none⟩) hlo (.int .u64 m);rw[h64]at c9 h1;have hp:=fun i(hi:i<64)=>sg h2 (i:=i) (by rw[h64];exact hi)
     have hpb:∀i,bA bk.rest i<256:=fun i=>by
      unfold bA;rw[aB];rcases hi:bk.rest[i]? with _|x
      ·simp
      ·exact EE.out.byte x (rX hi)
     have ht:=yT (Ba.out.below b1 hol) EE.out.h h1 aY (cap:=cp) hp hpb hqg aY false;obtain⟨H3,H4,B1,HT⟩:=fH h1 h2 b1 ht;have adB:af (lo≤(wo.setCell ⟨g,10,none⟩ (.int .u64 m)).heap.size):=ae (ax Ju b1.size);have HM:=ae hm;clear h1 h2 b1 ht hp hpb hm;go_upto_region 9 with(go_at_call 229;(with_reducible refine HT.out.mono ?_);rintro r w3⟨rfl,h5,k5⟩)
     clear c9 c10 f9 f10 e10 HT;have wp:=rZ EE.out.h m bk.rest false;have c9:=h5.rest wp;have f9:=aG.frozen (g:=g) h5 9;have h6:=h5.Kp wp (.slice (some ⟨q,0,none⟩) 0 cp);have ql:q<(wo.setCell ⟨g,10,none⟩ (.int .u64 m)).heap.size:=au _ _ (sg H4.out (i:=0) aY);have o3:=Oh (iw H4.out (fun q' hq'=>by injection hq' with hq';subst hq';exact k5.block _ ql hqg));have o4:=iw o3 (w':=w3.setCell ⟨g,9,none⟩ (.slice (some ⟨q,0,none⟩) 0 cp)) (fun q' hq'=>by injection hq' with hq';subst hq';exact oH _ _ _ _ _ hqg);have b6:=(B1.out.trans (k5.below (B:=lo) (fun q hq=>by rw[hq];exact hlo) adB.out)).setCell (p:=⟨g,9,none⟩) hlo (.slice (some ⟨q,0,none⟩) 0 cp);obtain⟨H6,O4,B6,WP⟩:=fH h6 o4 b6 wp;clear h5 k5 h6 o3 o4 b6 H4 H3 B1 adB wp;go_wp2_with fail
     go_meet
     case rel=>exact⟨ae ⟨some ⟨q,0,none⟩,cp,_,[],m,H6.out,O4.out,WP.out,Nat.zero_le _,fun x=>by unfold Bl.add;rw[if_pos h64,HM.out];rfl⟩,ae B6.out,ae (ax Ju B6.out.size)⟩
    ·go_wp2_with fail
     go_meet
     case rel=>exact⟨ae ⟨A,cp,bk.h,bk.rest,bk.n,H1.out,H2.out,EE.out.h,by have:=EE.out.rest;omega,fun x=>by unfold Bl.add;rw[if_neg h64]⟩,hBw,hSz⟩
   case rest=>
    obtain⟨hX,hBw,hSz⟩:=hcut;obtain⟨A,cp,h',rest',n',h1,h2,wh,hr,hadd⟩:=hX.out;clear c9 H1 H2 hX;have hkl:k<s.size:=hlt;have hkd:k<s.data.size:=hlt;have hck:af (∀_:Unit,bA l k=(s[k]'hkl).toNat):=ae (fun _=>by
     rw[←HL.out];unfold bA;rw[aB,bR,age,Array.getElem?_eq_getElem hkd];rfl)
    have c9:=h1.rest wh;have z1:(k:Int)<(s.size:Int):=by omega
    have hgl:g<wc.heap.size:=aG.lt (g:=g) h1;obtain⟨i0,lk,hz0,hz1,hz2⟩:=info_parts XU;have hz:wc.heap.size≠g:=by omega
    have c9':=ak c9 (boxed wc (.cells ([.int .u8 ((s[k]'hkl).toNat:Int)]:List Value).toArray 5)).drew;obtain⟨v',w',hr',o2,gr,_⟩:=run_append_own (P:=ai) (w:=(wc.alloc (.cells ([.int .u8 ((s[k]'hkl).toNat:Int)]:List Value).toArray 5)).drew) lo 89 89 5 i0 (.int .u8 0) 1 1 Tryz.underlying89 lk hz0 hz1 hz2 rfl aI (.slice A rest'.length cp) rest'.length (XT rest') (iw h2 (fun q hq=>heap_alloc_old wc _ (Bd h2 hq))) ⟨wc.heap.size,0,none⟩ 1 1 [.int .u8 ((s[k]'hkl).toNat:Int)] rfl (cD wc _ 5) (by intro u hu;rw[List.mem_singleton.1 hu];rfl) (by show rest'.length+1≤9223372036854775807;omega) aY (ax hSz.out (by show wc.heap.size≤(wc.alloc _).heap.size;simp));obtain⟨A2,c2,hv2⟩:=pQ o2;subst hv2;obtain⟨HR,HO2,Ek⟩:=bO hr' o2 gr;have hw':fl w' g h' 32 (.slice A rest'.length cp) n':=aG.keep (g:=g) (aG.drew (aG.alloc (g:=g) h1 _)) (Keeps.row gr) (fun hq=>uz h2 h1 hq rfl);have c9a:=hw'.rest wh;have f9:=aG.frozen (g:=g) hw' 9;have hb':=(hBw.out.alloc hSz.out (.cells ([.int .u8 ((s[k]'hkl).toNat:Int)]:List Value).toArray 5)).drew.trans ((Keeps.row gr).below (B:=lo) (fun q hq=>by
     rcases h2.2 with⟨hv,_⟩|⟨q',cap,cur,hv,hb,_⟩
     ·rw[hv]at hq;cases hq
     ·rw[hv]at hq;injection hq with hq;subst hq;exact hb) (ax hSz.out (by show wc.heap.size≤(wc.alloc _).heap.size;simp)))
    obtain⟨HW,W9⟩:=aQ hw' hb';clear hw' hb';obtain⟨H1,H2⟩:=aQ h1 h2;clear h1 h2 hr' o2 gr;go_upto_region 10 with fail
    refine du 12 (fun u=>u.cell? ⟨g,9,none⟩=some (.slice A rest'.length cp)) bJ (c9) (fun hHeld=>?_);refine jF 0 ?_
    refine jF 1 ?_
    refine jF 2 ?_
    refine jF 3 ?_
    refine jF 4 ?_
    refine jF 5 ?_
    refine jF 6 ?_
    refine jF 7 ?_
    refine sH 8 fun K hK=>?_;go_simp;refine hK.out _ _ (fun _=>c9') (fun hHeld=>?_);have hHeld:=hHeld aI;clear hK K;try simp only[dX]
    refine sH 9 fun K hK=>?_;refine jT rfl _ _ 89 89 rfl rfl rfl HR.out ?_;refine hK.out _ _ (fun _=>c9a) (fun hHeld=>?_);have hHeld:=hHeld aI;clear hK K;try simp only[dX]
    refine sH 10 fun K hK=>?_;go_simp;refine hK.out _ _ (fun _=>hHeld) (fun hHeld=>?_);have hHeld:=hHeld aI;clear hK K;try simp only[dX]
    refine jF 11 ?_
    refine sH 12 fun K hK=>?_;go_simp;refine hK.out _ _ (fun h=>absurd rfl h) (fun _=>?_);clear hK K hHeld;try simp only[dX]
    refine zdE ?_;have g1:=HW.out.Kp wh (.slice A2 (rest'.length+1) c2);have g2:=iw HO2.out (w':=w'.setCell ⟨g,9,none⟩ (.slice A2 (rest'.length+1) c2)) (fun q hq=>oH _ _ _ _ _ (uz HO2.out HW.out hq));have g3:=W9.out.setCell (p:=⟨g,9,none⟩) hlo (.slice A2 (rest'.length+1) c2);rw[←hck.out ()]at g2;have hfin:Og lo (w'.setCell ⟨g,9,none⟩ (.slice A2 (rest'.length+1) c2)) g (b.adds (l.take (k+1))):=by
     rw[hstep.out (),hadd];refine⟨_,g1,?_⟩;simp only[Uf,List.length_append,List.length_singleton];exact g2
    obtain⟨G2,G3⟩:=aQ hfin g3;clear g1 g2 g3 hfin;go_wp2_with fail
    go_roundw
    case rel=>exact⟨k+1,by omega,by go_num,G2,G3,ae (ax Ju G3.out.size)⟩
    case measure=>simp[intOf];omega
  ·obtain rfl:k=s.size:=by omega
   go_wp2_with fail
   go_ret;refine⟨rfl,?_,hBw.out⟩;rw[HL.out];have h:=ZL.out;rw[←HLl.out,List.take_length]at h;exact h
end Go.Proofs.YtdfnhljccdoncaaGreatDoor
