/- Joined out of: GmA. -/
import Derived.Test.YteflnojjjdkgmaaGreatDoorNba
import Derived.Deep.DeepHandedRow
set_option linter.unusedVariables false
set_option linter.unusedSimpArgs false
set_option maxHeartbeats 16000000
set_option maxRecDepth 100000
open Go.Proofs.Tryz renaming prog→ag,underlying9→aZ,underlying22→afp
namespace Go.Proofs.YteflnojjjdkgmaaGreatDoor.netmapNone
open Go.ChangeShapes Go.WideShapes Go.ChangeAt Go.RowKit
open Go.ChangeMaps (open_string shut_string)
theorem lifted(os:Os)(started:os.Started)(H:Type)(enc:TypeId×Value→H):ReturnsInHanded {} Tryz.checked os 3 .any (fun w args=>(Rows.netmapNoneSpec.pre enc ag Tryz.f3 Rows.netmapNoneRow.domain false w args∧laidMetH ag kY w)∧sizedMet enc ag Tryz.f3 (OpenSpec.ofChange Rows.netmapNoneSpec) false w args) (Rows.netmapNoneSpec.post enc ag Tryz.f3 false true false false):=by
 refine nw (C:=Tryz.checked) (X:=fun w _=>laidMetH ag kY w) (fun _ _ _ hh h=>h.of_heap hh) own started bg Tryz.func3
  (ChangeSpec.witness_shaped (enc:=enc) (C:=Tryz.checked) (os:=os) (X:=fun w _=>laidMetH ag kY w) false (World.laidAll ag os kY) #[.int .u64 0,.string ByteArray.empty] 8 (World.laidAll_os _ _ _)
    (World.shaped_of_ZipB bg bg) bg bg (by kernel_rfl)
    (by rw[MakeChecks.laidMetH_plain _ _ _ bg];exact laidMet_laidAll _ bg bg)) ?_
 intro W base args ds gs before hval0 hW _ hL hsh;have hval:∀(j:Nat)t v,Tryz.f3.params[j]? =some t→args[j]? =some v→Value.okWide ag W .any base t v:=hval0;have hW':=hW;obtain⟨p,q,hA0,hV,rfl,_,_⟩:=hW;have hA:DataW.TrodAll enc ag W 0 (fun _=>true) true Tryz.f3.params.toList args.toList ds p:=hA0;rw[Tryz.params3]at hA hval;obtain⟨v0,vs0,d0,ds0,p0,q0,hargs,rfl,rfl,h0,r0⟩:=trodAll_cons hA;obtain⟨v1,vs1,d1,ds1,p1,q1,rfl,rfl,rfl,h1,r1⟩:=trodAll_cons r0;obtain⟨rfl,rfl,rfl⟩:=trodAll_nil r1;obtain rfl:args= #[v0,v1]:=by cases args;simp_all
 obtain⟨rfl,rfl⟩:=trodVars_none hV;obtain⟨z0,rfl,rfl,rfl,wf0⟩:=open_int afp (hval 0 22 v0 rfl rfl) h0;have hx:0≤z0∧z0≤18446744073709551615:=by simpa[Lit.wf,IntKind.min,IntKind.max,IntKind.signed,IntKind.bits]using wf0
 obtain⟨n0,rfl⟩:∃n:Nat,z0=(n:Int):=⟨z0.toNat,by omega⟩;obtain⟨s1,rfl,rfl,rfl,hs1⟩:=open_string aZ (hval 1 9 v1 rfl rfl) h1;simp only[List.append_nil]at hW';refine(Ux (aae hL hsh) (Xx hL) n0 s1).mono fun e W'⟨he,hb⟩=>?_
 subst he;exact⟨_,rfl,_,_,_,[],_,[],hW',trodAll_mk1 (shut_bool Tryz.underlying4 _),(trodAll_cons_mk (shut_int afp wf0) (trodAll_cons_mk (shut_string aZ hs1) trodAll_mk0)),rfl,hb.frame _,fun h=>by cases h⟩
end Go.Proofs.YteflnojjjdkgmaaGreatDoor.netmapNone
