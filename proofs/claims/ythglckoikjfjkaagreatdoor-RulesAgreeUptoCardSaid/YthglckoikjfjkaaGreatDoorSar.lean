/- Joined out of: RxP. -/
import Derived.Test.YthglckoikjfjkaaGreatDoorSaq
set_option linter.unusedVariables false
set_option linter.unusedSimpArgs false

/- Rules: what a policy permits (Permits): the walks. -/
namespace Go.Proofs.YthglckoikjfjkaaGreatDoor
open Go.RowKit
attribute [local go_sem ↓] Go.wp_at_zero Go.wp_at_succ

theorem rtextR_ok (p : Po) : ∃ (T : ByteArray) (E : Nat), textR p = .tuple #[.string T, .int .i64 (E : Int)] ∧ decide (E = 0) = okP p ∧ (okP p = true → E = 0) := by
  unfold textR okP
  cases hm : mayP p with
  | false => exact ⟨⟨#[]⟩, 2, by simp, by simp, by simp⟩
  | true =>
    by_cases hl : (textP p).length ≤ 8192
    · exact ⟨ofL (textP p), 0, by simp [hl], by simp [hl], by simp⟩
    · exact ⟨⟨#[]⟩, 4, by simp [hl], by simp [hl], by simp [hl]⟩
/- A head's cells. -/
structure HdX where
  flags : Nat
  kind : Nat
  code : Nat
  size : Int
def headCells (f : Fw) (x : HdX) : Array Value := #[.int .u8 (f.proto : Int), .bool f.src.v6, .int .u64 (f.src.hi : Int), .int .u64 (f.src.lo : Int), .bool f.dst.v6, .int .u64 (f.dst.hi : Int), .int .u64 (f.dst.lo : Int), .int .u16 (f.sent : Int), .int .u16 (f.dport : Int), .int .u8 (x.flags : Int), .int .u8 (x.kind : Int), .int .u8 (x.code : Int), .int .i64 x.size]

set_option maxHeartbeats 8000000 in
set_option maxRecDepth 100000 in
theorem permits1_any {w : World} (env : Env w) {V : PoV} {p : Po} (h : PoRd w V p) (fit : PoFit p) {pv : Value} {l : List Pe} (hp : PeRd w pv l) (hpl : l.length ≤ 4000000) (f : Fw) (of : f.src.Ok) (od : f.dst.Ok) (e : HdX) (gh gp gl : Nat) (bh : Blk w gh 46 (headCells f e)) (bp : Blk w gp 26 #[V.g, V.t, V.h, V.a]) (bl : w.cell? ⟨gl, 0, none⟩ = some pv)
    {X : AcV} (hX : AcRdM w X) (fX : AcFit X.a) :
    Calls Tryz.prog 30 #[.agg #[X.p, X.s, X.d, X.o], .pointer (some ⟨gh, 0, none⟩), .pointer (some ⟨gp, 0, none⟩), .pointer (some ⟨gl, 0, none⟩)] w (Got (.bool (acP' p l f X.a)) w) := by
  have hpr := fun u (hu : Below w.heap.size w u) => rprotos_any X.a.protos (hX.p.below hu) (by have := fX.pl; omega)
  have hplen : (protosR X.a.protos).length ≤ 4000000 := by
    have := fX.pl
    unfold protosR
    split
    · rw [List.length_append]; simp; omega
    · omega
  have hby := fun u (hu : Below w.heap.size w u) v' (hv : RowR u v' (protosR X.a.protos).length 1 (protoCells (protosR X.a.protos))) => by_any (protosR X.a.protos) X.a.ports hv (hX.o.below hu) hplen (by have := fX.ol; omega) f
  have hso := fun u (hu : Below w.heap.size w u) => some_any (env.below hu) (h.below hu) fit (hp.below hu) hpl (hX.s.below hu) (by have := fX.sl; omega) (fun s hs => (fX.src s hs).ok) f.src of
  have hde := fun u (hu : Below w.heap.size w u) => some_any (env.below hu) (h.below hu) fit (hp.below hu) hpl (hX.d.below hu) (by have := fX.dl; omega) (fun s hs => (fX.dst s hs).ok) f.dst od
  obtain ⟨R, hR⟩ : ∃ r, r = acP' p l f X.a := ⟨_, rfl⟩
  rw [← hR]
  unfold acP' at hR
  generalize byP (protosR X.a.protos) X.a.ports f = BY at hR hby
  generalize someP p l X.a.src f.src = SS at hR hso
  generalize someP p l X.a.dst f.dst = DD at hR hde
  obtain ⟨Ag, At, Ah, Aa, cg, ct, ch, ca, rfl⟩ := copied h
  obtain ⟨Ap, cp, rfl⟩ := hp.shape
  obtain ⟨Xp, xp, ep⟩ := hX.p.shape
  obtain ⟨Xs, xs, es⟩ := hX.s.shape
  obtain ⟨Xd, xd, ed⟩ := hX.d.shape
  obtain ⟨Xo, xo, eo⟩ := hX.o.shape
  obtain ⟨⟨aps, asrc, adst, apo⟩, pv', sv', dv', ov'⟩ := X
  simp only at ep es ed eo hpr hby hso hde
  subst ep es ed eo
  simp only at *
  generalize p.groups.length = NG at *
  generalize p.tags.length = NT at *
  generalize p.hosts.length = NH at *
  generalize p.acls.length = NA at *
  generalize l.length = NL at *
  clear env h fit hp hpl of od hX fX hplen
  obtain ⟨pr, ⟨sv, sh, sl⟩, ⟨dv, dh, dl⟩, fs, ft⟩ := f
  obtain ⟨h1, h2, h3, h4⟩ := e
  unfold Fw.cells at hby
  unfold Ad.cells at hso hde
  unfold headCells at bh
  simp only at hby hso hde bh
  generalize protoCells (protosR aps) = PC at hpr hby
  generalize (protosR aps).length = NPR at hpr hby
  generalize aps.length = NP at *
  generalize asrc.length = NS at *
  generalize adst.length = ND at *
  generalize apo.length = NO at *
  have HPr := Lib.hid hpr
  have HBy := Lib.hid hby
  have HSo := Lib.hid hso
  have HDe := Lib.hid hde
  have HR := Lib.hid hR
  have hb := boxed w (.cells #[.slice Xp NP xp, .slice Xs NS xs, .slice Xd ND xd, .slice Xo NO xo] 61)
  have HX := Lib.hid (Blk.new w 61 #[.slice Xp NP xp, .slice Xs NS xs, .slice Xd ND xd, .slice Xo NO xo])
  have HH := Lib.hid (bh.below hb bh.lt)
  have HP := Lib.hid (bp.below hb bp.lt)
  have l0 := cellB bl hb
  have HB := Lib.hid hb
  clear hpr hby hso hde hR hb bh bp bl
  go_enter Tryz.func30, Tryz.ntmps30
  go_upto_region 1 with fail
  generalize w.alloc (.cells #[.slice Xp NP xp, .slice Xs NS xs, .slice Xd ND xd, .slice Xo NO xo] 61) = w1 at HX HH HP l0 HB ⊢
  generalize w.heap.size = Q at HX ⊢
  have x0 := HX.out.cell 0
  have x1 := HX.out.cell 1
  have x2 := HX.out.cell 2
  have x3 := HX.out.cell 3
  have h0 := HH.out.cell 0
  have h1' := HH.out.cell 1
  have h2' := HH.out.cell 2
  have h3' := HH.out.cell 3
  have h4' := HH.out.cell 4
  have h5 := HH.out.cell 5
  have h6 := HH.out.cell 6
  have h7 := HH.out.cell 7
  have h8 := HH.out.cell 8
  have p0 := HP.out.cell 0
  have p1 := HP.out.cell 1
  have p2 := HP.out.cell 2
  have p3 := HP.out.cell 3
  simp at x0 x1 x2 x3 h0 h1' h2' h3' h4' h5 h6 h7 h8 p0 p1 p2 p3
  cases BY with
  | false =>
    have HRf : RowKit.Hid (R = false) := Lib.hid (by rw [HR.out, Bool.false_and])
    refine wp_region_held_drew (S := (fun w' => w'.cell? ⟨Q, 0, none⟩ = some (.slice Xp NP xp) ∧ w'.cell? ⟨Q, 1, none⟩ = some (.slice Xs NS xs) ∧ w'.cell? ⟨Q, 2, none⟩ = some (.slice Xd ND xd) ∧ w'.cell? ⟨Q, 3, none⟩ = some (.slice Xo NO xo) ∧ w'.cell? ⟨gh, 0, none⟩ = some (.int .u8 (pr : Int)) ∧ w'.cell? ⟨gh, 1, none⟩ = some (.bool sv) ∧ w'.cell? ⟨gh, 2, none⟩ = some (.int .u64 (sh : Int)) ∧ w'.cell? ⟨gh, 3, none⟩ = some (.int .u64 (sl : Int)) ∧ w'.cell? ⟨gh, 4, none⟩ = some (.bool dv) ∧ w'.cell? ⟨gh, 5, none⟩ = some (.int .u64 (dh : Int)) ∧ w'.cell? ⟨gh, 6, none⟩ = some (.int .u64 (dl : Int)) ∧ w'.cell? ⟨gh, 7, none⟩ = some (.int .u16 (fs : Int)) ∧ w'.cell? ⟨gh, 8, none⟩ = some (.int .u16 (ft : Int)) ∧ w'.cell? ⟨gp, 0, none⟩ = some (.slice Ag NG cg) ∧ w'.cell? ⟨gp, 1, none⟩ = some (.slice At NT ct) ∧ w'.cell? ⟨gp, 2, none⟩ = some (.slice Ah NH ch) ∧ w'.cell? ⟨gp, 3, none⟩ = some (.slice Aa NA ca) ∧ w'.cell? ⟨gl, 0, none⟩ = some (.slice Ap NL cp))) (by kernel_rfl) (⟨x0, x1, x2, x3, h0, h1', h2', h3', h4', h5, h6, h7, h8, p0, p1, p2, p3, l0⟩) (fun hHeld => ?_)
    refine' wpAnyH_take (i := 0) (v := _) rfl (by kernel_rfl) (by kernel_rfl) (by kernel_rfl) (fun _ _ _ h => h) (Or.inl ⟨by rfl, ?ly1⟩) (by assumption) ?lrest1
    case ly1 =>
      intro w hSw
      try dsimp only at hSw
      go_simp
      try with_reducible rfl
    try simp only [Act.put, List.setIfInBounds_toArray, List.set_cons_zero, List.set_cons_succ, List.getElem_toArray, List.getElem_cons_zero, List.getElem_cons_succ]
    refine' wpAnyH_take (i := 1) (v := _) rfl (by kernel_rfl) (by kernel_rfl) (by kernel_rfl) (fun _ _ _ h => h) (Or.inl ⟨by rfl, ?ly2⟩) (by assumption) ?lrest2
    case ly2 =>
      intro w hSw
      try dsimp only at hSw
      go_simp
      try with_reducible rfl
    try simp only [Act.put, List.setIfInBounds_toArray, List.set_cons_zero, List.set_cons_succ, List.getElem_toArray, List.getElem_cons_zero, List.getElem_cons_succ]
    refine' wpAnyH_take (i := 3) (v := _) rfl (by kernel_rfl) (by kernel_rfl) (by kernel_rfl) (fun _ _ _ h => h) (Or.inl ⟨by rfl, ?ly3⟩) (by assumption) ?lrest3
    case ly3 =>
      intro w hSw
      try dsimp only at hSw
      go_simp
      try with_reducible rfl
    try simp only [Act.put, List.setIfInBounds_toArray, List.set_cons_zero, List.set_cons_succ, List.getElem_toArray, List.getElem_cons_zero, List.getElem_cons_succ]
    refine' wpAnyH_take (i := 4) (v := _) rfl (by kernel_rfl) (by kernel_rfl) (by kernel_rfl) (fun _ _ _ h => h) (Or.inl ⟨by rfl, ?ly4⟩) (by assumption) ?lrest4
    case ly4 =>
      intro w hSw
      try dsimp only at hSw
      go_simp
      try with_reducible rfl
    try simp only [Act.put, List.setIfInBounds_toArray, List.set_cons_zero, List.set_cons_succ, List.getElem_toArray, List.getElem_cons_zero, List.getElem_cons_succ]
    refine' wpAnyH_take (i := 5) (v := _) rfl (by kernel_rfl) (by kernel_rfl) (by kernel_rfl) (fun _ _ _ h => h) (Or.inl ⟨by rfl, ?ly5⟩) (by assumption) ?lrest5
    case ly5 =>
      intro w hSw
      try dsimp only at hSw
      go_simp
      try with_reducible rfl
    try simp only [Act.put, List.setIfInBounds_toArray, List.set_cons_zero, List.set_cons_succ, List.getElem_toArray, List.getElem_cons_zero, List.getElem_cons_succ]
    refine' wpAnyH_take (i := 6) (v := _) rfl (by kernel_rfl) (by kernel_rfl) (by kernel_rfl) (fun _ _ _ h => h) (Or.inl ⟨by rfl, ?ly6⟩) (by assumption) ?lrest6
    case ly6 =>
      intro w hSw
      try dsimp only at hSw
      go_simp
      try with_reducible rfl
    try simp only [Act.put, List.setIfInBounds_toArray, List.set_cons_zero, List.set_cons_succ, List.getElem_toArray, List.getElem_cons_zero, List.getElem_cons_succ]
    refine wpAnyH_ready (rs := [2]) (by kernel_rfl) (by simp) ?_
    refine AllReadyH.cons rfl (fun K hK => ?_) AllReadyH.nil
    go_simp
    refine (HPr.out _ (Below.drew_ HB.out)).mono ?_
    rintro r wb ⟨⟨v', rfl, hv'⟩, db⟩
    have eb := Below.of_drew db
    clear db
    refine hK.out _ _ (⟨cellB x0 eb, cellB x1 eb, cellB x2 eb, cellB x3 eb, cellB h0 eb, cellB h1' eb, cellB h2' eb, cellB h3' eb, cellB h4' eb, cellB h5 eb, cellB h6 eb, cellB h7 eb, cellB h8 eb, cellB p0 eb, cellB p1 eb, cellB p2 eb, cellB p3 eb, cellB l0 eb⟩) (fun hHeld => ?_)
    clear hK K
    try simp only [Act.put, List.setIfInBounds_toArray, List.set_cons_zero, List.set_cons_succ, List.getElem_toArray, List.getElem_cons_zero, List.getElem_cons_succ]
    refine wpAnyH_ready (rs := [7]) (by kernel_rfl) (by simp) ?_
    refine AllReadyH.cons rfl (fun K hK => ?_) AllReadyH.nil
    go_simp
    refine (HBy.out _ (after HB.out eb) _ (RowR.of_own hv')).mono ?_
    rintro r wc ⟨rfl, dc⟩
    have ec := after eb dc
    clear dc
    refine hK.out _ _ (⟨cellB x0 ec, cellB x1 ec, cellB x2 ec, cellB x3 ec, cellB h0 ec, cellB h1' ec, cellB h2' ec, cellB h3' ec, cellB h4' ec, cellB h5 ec, cellB h6 ec, cellB h7 ec, cellB h8 ec, cellB p0 ec, cellB p1 ec, cellB p2 ec, cellB p3 ec, cellB l0 ec⟩) (fun hHeld => ?_)
    clear hK K
    try simp only [Act.put, List.setIfInBounds_toArray, List.set_cons_zero, List.set_cons_succ, List.getElem_toArray, List.getElem_cons_zero, List.getElem_cons_succ]
    refine' wpAnyH_take (i := 8) (v := _) rfl (by kernel_rfl) (by kernel_rfl) (by kernel_rfl) (fun _ _ _ h => h) (Or.inl ⟨by rfl, ?ly9⟩) (by assumption) ?lrest9
    case ly9 =>
      intro w hSw
      try dsimp only at hSw
      go_simp
      try with_reducible rfl
    try simp only [Act.put, List.setIfInBounds_toArray, List.set_cons_zero, List.set_cons_succ, List.getElem_toArray, List.getElem_cons_zero, List.getElem_cons_succ]
    refine' wpAnyH_take (i := 9) (v := undef) rfl (by kernel_rfl) (by kernel_rfl) (by kernel_rfl) (fun _ _ _ h => h) (Or.inr ⟨by rfl, rfl⟩) (by assumption) ?lrest10
    try simp only [Act.put, List.setIfInBounds_toArray, List.set_cons_zero, List.set_cons_succ, List.getElem_toArray, List.getElem_cons_zero, List.getElem_cons_succ]
    refine' wpAnyH_take (i := 10) (v := undef) rfl (by kernel_rfl) (by kernel_rfl) (by kernel_rfl) (fun _ _ _ h => h) (Or.inr ⟨by rfl, rfl⟩) (by assumption) ?lrest11
    try simp only [Act.put, List.setIfInBounds_toArray, List.set_cons_zero, List.set_cons_succ, List.getElem_toArray, List.getElem_cons_zero, List.getElem_cons_succ]
    refine' wpAnyH_take (i := 11) (v := undef) rfl (by kernel_rfl) (by kernel_rfl) (by kernel_rfl) (fun _ _ _ h => h) (Or.inr ⟨by rfl, rfl⟩) (by assumption) ?lrest12
    try simp only [Act.put, List.setIfInBounds_toArray, List.set_cons_zero, List.set_cons_succ, List.getElem_toArray, List.getElem_cons_zero, List.getElem_cons_succ]
    refine' wpAnyH_take (i := 12) (v := undef) rfl (by kernel_rfl) (by kernel_rfl) (by kernel_rfl) (fun _ _ _ h => h) (Or.inr ⟨by rfl, rfl⟩) (by assumption) ?lrest13
    try simp only [Act.put, List.setIfInBounds_toArray, List.set_cons_zero, List.set_cons_succ, List.getElem_toArray, List.getElem_cons_zero, List.getElem_cons_succ]
    refine' wpAnyH_take (i := 13) (v := undef) rfl (by kernel_rfl) (by kernel_rfl) (by kernel_rfl) (fun _ _ _ h => h) (Or.inr ⟨by rfl, rfl⟩) (by assumption) ?lrest14
    try simp only [Act.put, List.setIfInBounds_toArray, List.set_cons_zero, List.set_cons_succ, List.getElem_toArray, List.getElem_cons_zero, List.getElem_cons_succ]
    refine' wpAnyH_take (i := 14) (v := undef) rfl (by kernel_rfl) (by kernel_rfl) (by kernel_rfl) (fun _ _ _ h => h) (Or.inr ⟨by rfl, rfl⟩) (by assumption) ?lrest15
    try simp only [Act.put, List.setIfInBounds_toArray, List.set_cons_zero, List.set_cons_succ, List.getElem_toArray, List.getElem_cons_zero, List.getElem_cons_succ]
    refine' wpAnyH_take (i := 15) (v := undef) rfl (by kernel_rfl) (by kernel_rfl) (by kernel_rfl) (fun _ _ _ h => h) (Or.inr ⟨by rfl, rfl⟩) (by assumption) ?lrest16
    try simp only [Act.put, List.setIfInBounds_toArray, List.set_cons_zero, List.set_cons_succ, List.getElem_toArray, List.getElem_cons_zero, List.getElem_cons_succ]
    refine' wpAnyH_take (i := 16) (v := undef) rfl (by kernel_rfl) (by kernel_rfl) (by kernel_rfl) (fun _ _ _ h => h) (Or.inr ⟨by rfl, rfl⟩) (by assumption) ?lrest17
    try simp only [Act.put, List.setIfInBounds_toArray, List.set_cons_zero, List.set_cons_succ, List.getElem_toArray, List.getElem_cons_zero, List.getElem_cons_succ]
    refine' wpAnyH_take (i := 17) (v := _) rfl (by kernel_rfl) (by kernel_rfl) (by kernel_rfl) (fun _ _ _ h => h) (Or.inl ⟨by rfl, ?ly18⟩) (by assumption) ?lrest18
    case ly18 =>
      intro w hSw
      try dsimp only at hSw
      go_simp
      try with_reducible rfl
    try simp only [Act.put, List.setIfInBounds_toArray, List.set_cons_zero, List.set_cons_succ, List.getElem_toArray, List.getElem_cons_zero, List.getElem_cons_succ]
    refine' wpAnyH_take (i := 18) (v := _) rfl (by kernel_rfl) (by kernel_rfl) (by kernel_rfl) (fun _ _ _ h => h) (Or.inl ⟨by rfl, ?ly19⟩) (by assumption) ?lrest19
    case ly19 =>
      intro w hSw
      try dsimp only at hSw
      go_simp
      try with_reducible rfl
    try simp only [Act.put, List.setIfInBounds_toArray, List.set_cons_zero, List.set_cons_succ, List.getElem_toArray, List.getElem_cons_zero, List.getElem_cons_succ]
    refine' wpAnyH_take (i := 19) (v := undef) rfl (by kernel_rfl) (by kernel_rfl) (by kernel_rfl) (fun _ _ _ h => h) (Or.inr ⟨by rfl, rfl⟩) (by assumption) ?lrest20
    try simp only [Act.put, List.setIfInBounds_toArray, List.set_cons_zero, List.set_cons_succ, List.getElem_toArray, List.getElem_cons_zero, List.getElem_cons_succ]
    refine' wpAnyH_take (i := 20) (v := undef) rfl (by kernel_rfl) (by kernel_rfl) (by kernel_rfl) (fun _ _ _ h => h) (Or.inr ⟨by rfl, rfl⟩) (by assumption) ?lrest21
    try simp only [Act.put, List.setIfInBounds_toArray, List.set_cons_zero, List.set_cons_succ, List.getElem_toArray, List.getElem_cons_zero, List.getElem_cons_succ]
    refine' wpAnyH_take (i := 21) (v := undef) rfl (by kernel_rfl) (by kernel_rfl) (by kernel_rfl) (fun _ _ _ h => h) (Or.inr ⟨by rfl, rfl⟩) (by assumption) ?lrest22
    try simp only [Act.put, List.setIfInBounds_toArray, List.set_cons_zero, List.set_cons_succ, List.getElem_toArray, List.getElem_cons_zero, List.getElem_cons_succ]
    refine' wpAnyH_take (i := 22) (v := undef) rfl (by kernel_rfl) (by kernel_rfl) (by kernel_rfl) (fun _ _ _ h => h) (Or.inr ⟨by rfl, rfl⟩) (by assumption) ?lrest23
    try simp only [Act.put, List.setIfInBounds_toArray, List.set_cons_zero, List.set_cons_succ, List.getElem_toArray, List.getElem_cons_zero, List.getElem_cons_succ]
    refine' wpAnyH_take (i := 23) (v := undef) rfl (by kernel_rfl) (by kernel_rfl) (by kernel_rfl) (fun _ _ _ h => h) (Or.inr ⟨by rfl, rfl⟩) (by assumption) ?lrest24
    try simp only [Act.put, List.setIfInBounds_toArray, List.set_cons_zero, List.set_cons_succ, List.getElem_toArray, List.getElem_cons_zero, List.getElem_cons_succ]
    refine' wpAnyH_take (i := 24) (v := undef) rfl (by kernel_rfl) (by kernel_rfl) (by kernel_rfl) (fun _ _ _ h => h) (Or.inr ⟨by rfl, rfl⟩) (by assumption) ?lrest25
    try simp only [Act.put, List.setIfInBounds_toArray, List.set_cons_zero, List.set_cons_succ, List.getElem_toArray, List.getElem_cons_zero, List.getElem_cons_succ]
    refine' wpAnyH_take (i := 25) (v := undef) rfl (by kernel_rfl) (by kernel_rfl) (by kernel_rfl) (fun _ _ _ h => h) (Or.inr ⟨by rfl, rfl⟩) (by assumption) ?lrest26
    try simp only [Act.put, List.setIfInBounds_toArray, List.set_cons_zero, List.set_cons_succ, List.getElem_toArray, List.getElem_cons_zero, List.getElem_cons_succ]
    refine' wpAnyH_take (i := 26) (v := undef) rfl (by kernel_rfl) (by kernel_rfl) (by kernel_rfl) (fun _ _ _ h => h) (Or.inr ⟨by rfl, rfl⟩) (by assumption) ?lrest27
    try simp only [Act.put, List.setIfInBounds_toArray, List.set_cons_zero, List.set_cons_succ, List.getElem_toArray, List.getElem_cons_zero, List.getElem_cons_succ]
    refine' wpAnyH_take (i := 27) (v := _) rfl (by kernel_rfl) (by kernel_rfl) (by kernel_rfl) (fun _ _ _ h => h) (Or.inl ⟨by rfl, ?ly28⟩) (by assumption) ?lrest28
    case ly28 =>
      intro w hSw
      try dsimp only at hSw
      go_simp
      try with_reducible rfl
    try simp only [Act.put, List.setIfInBounds_toArray, List.set_cons_zero, List.set_cons_succ, List.getElem_toArray, List.getElem_cons_zero, List.getElem_cons_succ]
    refine' wpAnyH_take (i := 28) (v := _) rfl (by kernel_rfl) (by kernel_rfl) (by kernel_rfl) (fun _ _ _ h => h) (Or.inl ⟨by rfl, ?ly29⟩) (by assumption) ?lrest29
    case ly29 =>
      intro w hSw
      try dsimp only at hSw
      go_simp
      try with_reducible rfl
    try simp only [Act.put, List.setIfInBounds_toArray, List.set_cons_zero, List.set_cons_succ, List.getElem_toArray, List.getElem_cons_zero, List.getElem_cons_succ]
    refine wpAnyH_done (by kernel_rfl) ?_ _
    go_wp2_with fail
    go_ret
    exact ⟨by rw [HRf.out]; rfl, after HB.out ec⟩
  | true =>
    cases SS with
    | false =>
      have HRf : RowKit.Hid (R = false) := Lib.hid (by rw [HR.out, Bool.true_and, Bool.false_and])
      refine wp_region_held_drew (S := (fun w' => w'.cell? ⟨Q, 0, none⟩ = some (.slice Xp NP xp) ∧ w'.cell? ⟨Q, 1, none⟩ = some (.slice Xs NS xs) ∧ w'.cell? ⟨Q, 2, none⟩ = some (.slice Xd ND xd) ∧ w'.cell? ⟨Q, 3, none⟩ = some (.slice Xo NO xo) ∧ w'.cell? ⟨gh, 0, none⟩ = some (.int .u8 (pr : Int)) ∧ w'.cell? ⟨gh, 1, none⟩ = some (.bool sv) ∧ w'.cell? ⟨gh, 2, none⟩ = some (.int .u64 (sh : Int)) ∧ w'.cell? ⟨gh, 3, none⟩ = some (.int .u64 (sl : Int)) ∧ w'.cell? ⟨gh, 4, none⟩ = some (.bool dv) ∧ w'.cell? ⟨gh, 5, none⟩ = some (.int .u64 (dh : Int)) ∧ w'.cell? ⟨gh, 6, none⟩ = some (.int .u64 (dl : Int)) ∧ w'.cell? ⟨gh, 7, none⟩ = some (.int .u16 (fs : Int)) ∧ w'.cell? ⟨gh, 8, none⟩ = some (.int .u16 (ft : Int)) ∧ w'.cell? ⟨gp, 0, none⟩ = some (.slice Ag NG cg) ∧ w'.cell? ⟨gp, 1, none⟩ = some (.slice At NT ct) ∧ w'.cell? ⟨gp, 2, none⟩ = some (.slice Ah NH ch) ∧ w'.cell? ⟨gp, 3, none⟩ = some (.slice Aa NA ca) ∧ w'.cell? ⟨gl, 0, none⟩ = some (.slice Ap NL cp))) (by kernel_rfl) (⟨x0, x1, x2, x3, h0, h1', h2', h3', h4', h5, h6, h7, h8, p0, p1, p2, p3, l0⟩) (fun hHeld => ?_)
      refine' wpAnyH_take (i := 0) (v := _) rfl (by kernel_rfl) (by kernel_rfl) (by kernel_rfl) (fun _ _ _ h => h) (Or.inl ⟨by rfl, ?ly30⟩) (by assumption) ?lrest30
      case ly30 =>
        intro w hSw
        try dsimp only at hSw
        go_simp
        try with_reducible rfl
      try simp only [Act.put, List.setIfInBounds_toArray, List.set_cons_zero, List.set_cons_succ, List.getElem_toArray, List.getElem_cons_zero, List.getElem_cons_succ]
      refine' wpAnyH_take (i := 1) (v := _) rfl (by kernel_rfl) (by kernel_rfl) (by kernel_rfl) (fun _ _ _ h => h) (Or.inl ⟨by rfl, ?ly31⟩) (by assumption) ?lrest31
      case ly31 =>
        intro w hSw
        try dsimp only at hSw
        go_simp
        try with_reducible rfl
      try simp only [Act.put, List.setIfInBounds_toArray, List.set_cons_zero, List.set_cons_succ, List.getElem_toArray, List.getElem_cons_zero, List.getElem_cons_succ]
      refine' wpAnyH_take (i := 3) (v := _) rfl (by kernel_rfl) (by kernel_rfl) (by kernel_rfl) (fun _ _ _ h => h) (Or.inl ⟨by rfl, ?ly32⟩) (by assumption) ?lrest32
      case ly32 =>
        intro w hSw
        try dsimp only at hSw
        go_simp
        try with_reducible rfl
      try simp only [Act.put, List.setIfInBounds_toArray, List.set_cons_zero, List.set_cons_succ, List.getElem_toArray, List.getElem_cons_zero, List.getElem_cons_succ]
      refine' wpAnyH_take (i := 4) (v := _) rfl (by kernel_rfl) (by kernel_rfl) (by kernel_rfl) (fun _ _ _ h => h) (Or.inl ⟨by rfl, ?ly33⟩) (by assumption) ?lrest33
      case ly33 =>
        intro w hSw
        try dsimp only at hSw
        go_simp
        try with_reducible rfl
      try simp only [Act.put, List.setIfInBounds_toArray, List.set_cons_zero, List.set_cons_succ, List.getElem_toArray, List.getElem_cons_zero, List.getElem_cons_succ]
      refine' wpAnyH_take (i := 5) (v := _) rfl (by kernel_rfl) (by kernel_rfl) (by kernel_rfl) (fun _ _ _ h => h) (Or.inl ⟨by rfl, ?ly34⟩) (by assumption) ?lrest34
      case ly34 =>
        intro w hSw
        try dsimp only at hSw
        go_simp
        try with_reducible rfl
      try simp only [Act.put, List.setIfInBounds_toArray, List.set_cons_zero, List.set_cons_succ, List.getElem_toArray, List.getElem_cons_zero, List.getElem_cons_succ]
      refine' wpAnyH_take (i := 6) (v := _) rfl (by kernel_rfl) (by kernel_rfl) (by kernel_rfl) (fun _ _ _ h => h) (Or.inl ⟨by rfl, ?ly35⟩) (by assumption) ?lrest35
      case ly35 =>
        intro w hSw
        try dsimp only at hSw
        go_simp
        try with_reducible rfl
      try simp only [Act.put, List.setIfInBounds_toArray, List.set_cons_zero, List.set_cons_succ, List.getElem_toArray, List.getElem_cons_zero, List.getElem_cons_succ]
      refine wpAnyH_ready (rs := [2]) (by kernel_rfl) (by simp) ?_
      refine AllReadyH.cons rfl (fun K hK => ?_) AllReadyH.nil
      go_simp
      refine (HPr.out _ (Below.drew_ HB.out)).mono ?_
      rintro r wb ⟨⟨v', rfl, hv'⟩, db⟩
      have eb := Below.of_drew db
      clear db
      refine hK.out _ _ (⟨cellB x0 eb, cellB x1 eb, cellB x2 eb, cellB x3 eb, cellB h0 eb, cellB h1' eb, cellB h2' eb, cellB h3' eb, cellB h4' eb, cellB h5 eb, cellB h6 eb, cellB h7 eb, cellB h8 eb, cellB p0 eb, cellB p1 eb, cellB p2 eb, cellB p3 eb, cellB l0 eb⟩) (fun hHeld => ?_)
      clear hK K
      try simp only [Act.put, List.setIfInBounds_toArray, List.set_cons_zero, List.set_cons_succ, List.getElem_toArray, List.getElem_cons_zero, List.getElem_cons_succ]
      refine wpAnyH_ready (rs := [7]) (by kernel_rfl) (by simp) ?_
      refine AllReadyH.cons rfl (fun K hK => ?_) AllReadyH.nil
      go_simp
      refine (HBy.out _ (after HB.out eb) _ (RowR.of_own hv')).mono ?_
      rintro r wc ⟨rfl, dc⟩
      have ec := after eb dc
      clear dc
      refine hK.out _ _ (⟨cellB x0 ec, cellB x1 ec, cellB x2 ec, cellB x3 ec, cellB h0 ec, cellB h1' ec, cellB h2' ec, cellB h3' ec, cellB h4' ec, cellB h5 ec, cellB h6 ec, cellB h7 ec, cellB h8 ec, cellB p0 ec, cellB p1 ec, cellB p2 ec, cellB p3 ec, cellB l0 ec⟩) (fun hHeld => ?_)
      clear hK K
      try simp only [Act.put, List.setIfInBounds_toArray, List.set_cons_zero, List.set_cons_succ, List.getElem_toArray, List.getElem_cons_zero, List.getElem_cons_succ]
      refine' wpAnyH_take (i := 8) (v := _) rfl (by kernel_rfl) (by kernel_rfl) (by kernel_rfl) (fun _ _ _ h => h) (Or.inl ⟨by rfl, ?ly38⟩) (by assumption) ?lrest38
      case ly38 =>
        intro w hSw
        try dsimp only at hSw
        go_simp
        try with_reducible rfl
      try simp only [Act.put, List.setIfInBounds_toArray, List.set_cons_zero, List.set_cons_succ, List.getElem_toArray, List.getElem_cons_zero, List.getElem_cons_succ]
      refine' wpAnyH_take (i := 9) (v := _) rfl (by kernel_rfl) (by kernel_rfl) (by kernel_rfl) (fun _ _ _ h => h) (Or.inl ⟨by rfl, ?ly39⟩) (by assumption) ?lrest39
      case ly39 =>
        intro w hSw
        try dsimp only at hSw
        go_simp
        try with_reducible rfl
      try simp only [Act.put, List.setIfInBounds_toArray, List.set_cons_zero, List.set_cons_succ, List.getElem_toArray, List.getElem_cons_zero, List.getElem_cons_succ]
      refine' wpAnyH_take (i := 10) (v := _) rfl (by kernel_rfl) (by kernel_rfl) (by kernel_rfl) (fun _ _ _ h => h) (Or.inl ⟨by rfl, ?ly40⟩) (by assumption) ?lrest40
      case ly40 =>
        intro w hSw
        try dsimp only at hSw
        go_simp
        try with_reducible rfl
      try simp only [Act.put, List.setIfInBounds_toArray, List.set_cons_zero, List.set_cons_succ, List.getElem_toArray, List.getElem_cons_zero, List.getElem_cons_succ]
      refine' wpAnyH_take (i := 11) (v := _) rfl (by kernel_rfl) (by kernel_rfl) (by kernel_rfl) (fun _ _ _ h => h) (Or.inl ⟨by rfl, ?ly41⟩) (by assumption) ?lrest41
      case ly41 =>
        intro w hSw
        try dsimp only at hSw
        go_simp
        try with_reducible rfl
      try simp only [Act.put, List.setIfInBounds_toArray, List.set_cons_zero, List.set_cons_succ, List.getElem_toArray, List.getElem_cons_zero, List.getElem_cons_succ]
      refine' wpAnyH_take (i := 12) (v := _) rfl (by kernel_rfl) (by kernel_rfl) (by kernel_rfl) (fun _ _ _ h => h) (Or.inl ⟨by rfl, ?ly42⟩) (by assumption) ?lrest42
      case ly42 =>
        intro w hSw
        try dsimp only at hSw
        go_simp
        try with_reducible rfl
      try simp only [Act.put, List.setIfInBounds_toArray, List.set_cons_zero, List.set_cons_succ, List.getElem_toArray, List.getElem_cons_zero, List.getElem_cons_succ]
      refine' wpAnyH_take (i := 13) (v := _) rfl (by kernel_rfl) (by kernel_rfl) (by kernel_rfl) (fun _ _ _ h => h) (Or.inl ⟨by rfl, ?ly43⟩) (by assumption) ?lrest43
      case ly43 =>
        intro w hSw
        try dsimp only at hSw
        go_simp
        try with_reducible rfl
      try simp only [Act.put, List.setIfInBounds_toArray, List.set_cons_zero, List.set_cons_succ, List.getElem_toArray, List.getElem_cons_zero, List.getElem_cons_succ]
      refine' wpAnyH_take (i := 14) (v := _) rfl (by kernel_rfl) (by kernel_rfl) (by kernel_rfl) (fun _ _ _ h => h) (Or.inl ⟨by rfl, ?ly44⟩) (by assumption) ?lrest44
      case ly44 =>
        intro w hSw
        try dsimp only at hSw
        go_simp
        try with_reducible rfl
      try simp only [Act.put, List.setIfInBounds_toArray, List.set_cons_zero, List.set_cons_succ, List.getElem_toArray, List.getElem_cons_zero, List.getElem_cons_succ]
      refine' wpAnyH_take (i := 15) (v := _) rfl (by kernel_rfl) (by kernel_rfl) (by kernel_rfl) (fun _ _ _ h => h) (Or.inl ⟨by rfl, ?ly45⟩) (by assumption) ?lrest45
      case ly45 =>
        intro w hSw
        try dsimp only at hSw
        go_simp
        try with_reducible rfl
      try simp only [Act.put, List.setIfInBounds_toArray, List.set_cons_zero, List.set_cons_succ, List.getElem_toArray, List.getElem_cons_zero, List.getElem_cons_succ]
      refine wpAnyH_ready (rs := [16]) (by kernel_rfl) (by simp) ?_
      refine AllReadyH.cons rfl (fun K hK => ?_) AllReadyH.nil
      go_simp
      refine (HSo.out _ (after HB.out ec)).mono ?_
      rintro r wd ⟨rfl, dd⟩
      have ed := after ec dd
      clear dd
      refine hK.out _ _ (⟨cellB x0 ed, cellB x1 ed, cellB x2 ed, cellB x3 ed, cellB h0 ed, cellB h1' ed, cellB h2' ed, cellB h3' ed, cellB h4' ed, cellB h5 ed, cellB h6 ed, cellB h7 ed, cellB h8 ed, cellB p0 ed, cellB p1 ed, cellB p2 ed, cellB p3 ed, cellB l0 ed⟩) (fun hHeld => ?_)
      clear hK K
      try simp only [Act.put, List.setIfInBounds_toArray, List.set_cons_zero, List.set_cons_succ, List.getElem_toArray, List.getElem_cons_zero, List.getElem_cons_succ]
      refine' wpAnyH_take (i := 17) (v := _) rfl (by kernel_rfl) (by kernel_rfl) (by kernel_rfl) (fun _ _ _ h => h) (Or.inl ⟨by rfl, ?ly47⟩) (by assumption) ?lrest47
      case ly47 =>
        intro w hSw
        try dsimp only at hSw
        go_simp
        try with_reducible rfl
      try simp only [Act.put, List.setIfInBounds_toArray, List.set_cons_zero, List.set_cons_succ, List.getElem_toArray, List.getElem_cons_zero, List.getElem_cons_succ]
      refine' wpAnyH_take (i := 18) (v := _) rfl (by kernel_rfl) (by kernel_rfl) (by kernel_rfl) (fun _ _ _ h => h) (Or.inl ⟨by rfl, ?ly48⟩) (by assumption) ?lrest48
      case ly48 =>
        intro w hSw
        try dsimp only at hSw
        go_simp
        try with_reducible rfl
      try simp only [Act.put, List.setIfInBounds_toArray, List.set_cons_zero, List.set_cons_succ, List.getElem_toArray, List.getElem_cons_zero, List.getElem_cons_succ]
      refine' wpAnyH_take (i := 19) (v := undef) rfl (by kernel_rfl) (by kernel_rfl) (by kernel_rfl) (fun _ _ _ h => h) (Or.inr ⟨by rfl, rfl⟩) (by assumption) ?lrest49
      try simp only [Act.put, List.setIfInBounds_toArray, List.set_cons_zero, List.set_cons_succ, List.getElem_toArray, List.getElem_cons_zero, List.getElem_cons_succ]
      refine' wpAnyH_take (i := 20) (v := undef) rfl (by kernel_rfl) (by kernel_rfl) (by kernel_rfl) (fun _ _ _ h => h) (Or.inr ⟨by rfl, rfl⟩) (by assumption) ?lrest50
      try simp only [Act.put, List.setIfInBounds_toArray, List.set_cons_zero, List.set_cons_succ, List.getElem_toArray, List.getElem_cons_zero, List.getElem_cons_succ]
      refine' wpAnyH_take (i := 21) (v := undef) rfl (by kernel_rfl) (by kernel_rfl) (by kernel_rfl) (fun _ _ _ h => h) (Or.inr ⟨by rfl, rfl⟩) (by assumption) ?lrest51
      try simp only [Act.put, List.setIfInBounds_toArray, List.set_cons_zero, List.set_cons_succ, List.getElem_toArray, List.getElem_cons_zero, List.getElem_cons_succ]
      refine' wpAnyH_take (i := 22) (v := undef) rfl (by kernel_rfl) (by kernel_rfl) (by kernel_rfl) (fun _ _ _ h => h) (Or.inr ⟨by rfl, rfl⟩) (by assumption) ?lrest52
      try simp only [Act.put, List.setIfInBounds_toArray, List.set_cons_zero, List.set_cons_succ, List.getElem_toArray, List.getElem_cons_zero, List.getElem_cons_succ]
      refine' wpAnyH_take (i := 23) (v := undef) rfl (by kernel_rfl) (by kernel_rfl) (by kernel_rfl) (fun _ _ _ h => h) (Or.inr ⟨by rfl, rfl⟩) (by assumption) ?lrest53
      try simp only [Act.put, List.setIfInBounds_toArray, List.set_cons_zero, List.set_cons_succ, List.getElem_toArray, List.getElem_cons_zero, List.getElem_cons_succ]
      refine' wpAnyH_take (i := 24) (v := undef) rfl (by kernel_rfl) (by kernel_rfl) (by kernel_rfl) (fun _ _ _ h => h) (Or.inr ⟨by rfl, rfl⟩) (by assumption) ?lrest54
      try simp only [Act.put, List.setIfInBounds_toArray, List.set_cons_zero, List.set_cons_succ, List.getElem_toArray, List.getElem_cons_zero, List.getElem_cons_succ]
      refine' wpAnyH_take (i := 25) (v := undef) rfl (by kernel_rfl) (by kernel_rfl) (by kernel_rfl) (fun _ _ _ h => h) (Or.inr ⟨by rfl, rfl⟩) (by assumption) ?lrest55
      try simp only [Act.put, List.setIfInBounds_toArray, List.set_cons_zero, List.set_cons_succ, List.getElem_toArray, List.getElem_cons_zero, List.getElem_cons_succ]
      refine' wpAnyH_take (i := 26) (v := undef) rfl (by kernel_rfl) (by kernel_rfl) (by kernel_rfl) (fun _ _ _ h => h) (Or.inr ⟨by rfl, rfl⟩) (by assumption) ?lrest56
      try simp only [Act.put, List.setIfInBounds_toArray, List.set_cons_zero, List.set_cons_succ, List.getElem_toArray, List.getElem_cons_zero, List.getElem_cons_succ]
      refine' wpAnyH_take (i := 27) (v := _) rfl (by kernel_rfl) (by kernel_rfl) (by kernel_rfl) (fun _ _ _ h => h) (Or.inl ⟨by rfl, ?ly57⟩) (by assumption) ?lrest57
      case ly57 =>
        intro w hSw
        try dsimp only at hSw
        go_simp
        try with_reducible rfl
      try simp only [Act.put, List.setIfInBounds_toArray, List.set_cons_zero, List.set_cons_succ, List.getElem_toArray, List.getElem_cons_zero, List.getElem_cons_succ]
      refine' wpAnyH_take (i := 28) (v := _) rfl (by kernel_rfl) (by kernel_rfl) (by kernel_rfl) (fun _ _ _ h => h) (Or.inl ⟨by rfl, ?ly58⟩) (by assumption) ?lrest58
      case ly58 =>
        intro w hSw
        try dsimp only at hSw
        go_simp
        try with_reducible rfl
      try simp only [Act.put, List.setIfInBounds_toArray, List.set_cons_zero, List.set_cons_succ, List.getElem_toArray, List.getElem_cons_zero, List.getElem_cons_succ]
      refine wpAnyH_done (by kernel_rfl) ?_ _
      go_wp2_with fail
      go_ret
      exact ⟨by rw [HRf.out]; rfl, after HB.out ed⟩
    | true =>
      have HRf : RowKit.Hid (R = DD) := Lib.hid (by rw [HR.out, Bool.true_and, Bool.true_and])
      refine wp_region_held_drew (S := (fun w' => w'.cell? ⟨Q, 0, none⟩ = some (.slice Xp NP xp) ∧ w'.cell? ⟨Q, 1, none⟩ = some (.slice Xs NS xs) ∧ w'.cell? ⟨Q, 2, none⟩ = some (.slice Xd ND xd) ∧ w'.cell? ⟨Q, 3, none⟩ = some (.slice Xo NO xo) ∧ w'.cell? ⟨gh, 0, none⟩ = some (.int .u8 (pr : Int)) ∧ w'.cell? ⟨gh, 1, none⟩ = some (.bool sv) ∧ w'.cell? ⟨gh, 2, none⟩ = some (.int .u64 (sh : Int)) ∧ w'.cell? ⟨gh, 3, none⟩ = some (.int .u64 (sl : Int)) ∧ w'.cell? ⟨gh, 4, none⟩ = some (.bool dv) ∧ w'.cell? ⟨gh, 5, none⟩ = some (.int .u64 (dh : Int)) ∧ w'.cell? ⟨gh, 6, none⟩ = some (.int .u64 (dl : Int)) ∧ w'.cell? ⟨gh, 7, none⟩ = some (.int .u16 (fs : Int)) ∧ w'.cell? ⟨gh, 8, none⟩ = some (.int .u16 (ft : Int)) ∧ w'.cell? ⟨gp, 0, none⟩ = some (.slice Ag NG cg) ∧ w'.cell? ⟨gp, 1, none⟩ = some (.slice At NT ct) ∧ w'.cell? ⟨gp, 2, none⟩ = some (.slice Ah NH ch) ∧ w'.cell? ⟨gp, 3, none⟩ = some (.slice Aa NA ca) ∧ w'.cell? ⟨gl, 0, none⟩ = some (.slice Ap NL cp))) (by kernel_rfl) (⟨x0, x1, x2, x3, h0, h1', h2', h3', h4', h5, h6, h7, h8, p0, p1, p2, p3, l0⟩) (fun hHeld => ?_)
      refine' wpAnyH_take (i := 0) (v := _) rfl (by kernel_rfl) (by kernel_rfl) (by kernel_rfl) (fun _ _ _ h => h) (Or.inl ⟨by rfl, ?ly59⟩) (by assumption) ?lrest59
      case ly59 =>
        intro w hSw
        try dsimp only at hSw
        go_simp
        try with_reducible rfl
      try simp only [Act.put, List.setIfInBounds_toArray, List.set_cons_zero, List.set_cons_succ, List.getElem_toArray, List.getElem_cons_zero, List.getElem_cons_succ]
      refine' wpAnyH_take (i := 1) (v := _) rfl (by kernel_rfl) (by kernel_rfl) (by kernel_rfl) (fun _ _ _ h => h) (Or.inl ⟨by rfl, ?ly60⟩) (by assumption) ?lrest60
      case ly60 =>
        intro w hSw
        try dsimp only at hSw
        go_simp
        try with_reducible rfl
      try simp only [Act.put, List.setIfInBounds_toArray, List.set_cons_zero, List.set_cons_succ, List.getElem_toArray, List.getElem_cons_zero, List.getElem_cons_succ]
      refine' wpAnyH_take (i := 3) (v := _) rfl (by kernel_rfl) (by kernel_rfl) (by kernel_rfl) (fun _ _ _ h => h) (Or.inl ⟨by rfl, ?ly61⟩) (by assumption) ?lrest61
      case ly61 =>
        intro w hSw
        try dsimp only at hSw
        go_simp
        try with_reducible rfl
      try simp only [Act.put, List.setIfInBounds_toArray, List.set_cons_zero, List.set_cons_succ, List.getElem_toArray, List.getElem_cons_zero, List.getElem_cons_succ]
      refine' wpAnyH_take (i := 4) (v := _) rfl (by kernel_rfl) (by kernel_rfl) (by kernel_rfl) (fun _ _ _ h => h) (Or.inl ⟨by rfl, ?ly62⟩) (by assumption) ?lrest62
      case ly62 =>
        intro w hSw
        try dsimp only at hSw
        go_simp
        try with_reducible rfl
      try simp only [Act.put, List.setIfInBounds_toArray, List.set_cons_zero, List.set_cons_succ, List.getElem_toArray, List.getElem_cons_zero, List.getElem_cons_succ]
      refine' wpAnyH_take (i := 5) (v := _) rfl (by kernel_rfl) (by kernel_rfl) (by kernel_rfl) (fun _ _ _ h => h) (Or.inl ⟨by rfl, ?ly63⟩) (by assumption) ?lrest63
      case ly63 =>
        intro w hSw
        try dsimp only at hSw
        go_simp
        try with_reducible rfl
      try simp only [Act.put, List.setIfInBounds_toArray, List.set_cons_zero, List.set_cons_succ, List.getElem_toArray, List.getElem_cons_zero, List.getElem_cons_succ]
      refine' wpAnyH_take (i := 6) (v := _) rfl (by kernel_rfl) (by kernel_rfl) (by kernel_rfl) (fun _ _ _ h => h) (Or.inl ⟨by rfl, ?ly64⟩) (by assumption) ?lrest64
      case ly64 =>
        intro w hSw
        try dsimp only at hSw
        go_simp
        try with_reducible rfl
      try simp only [Act.put, List.setIfInBounds_toArray, List.set_cons_zero, List.set_cons_succ, List.getElem_toArray, List.getElem_cons_zero, List.getElem_cons_succ]
      refine wpAnyH_ready (rs := [2]) (by kernel_rfl) (by simp) ?_
      refine AllReadyH.cons rfl (fun K hK => ?_) AllReadyH.nil
      go_simp
      refine (HPr.out _ (Below.drew_ HB.out)).mono ?_
      rintro r wb ⟨⟨v', rfl, hv'⟩, db⟩
      have eb := Below.of_drew db
      clear db
      refine hK.out _ _ (⟨cellB x0 eb, cellB x1 eb, cellB x2 eb, cellB x3 eb, cellB h0 eb, cellB h1' eb, cellB h2' eb, cellB h3' eb, cellB h4' eb, cellB h5 eb, cellB h6 eb, cellB h7 eb, cellB h8 eb, cellB p0 eb, cellB p1 eb, cellB p2 eb, cellB p3 eb, cellB l0 eb⟩) (fun hHeld => ?_)
      clear hK K
      try simp only [Act.put, List.setIfInBounds_toArray, List.set_cons_zero, List.set_cons_succ, List.getElem_toArray, List.getElem_cons_zero, List.getElem_cons_succ]
      refine wpAnyH_ready (rs := [7]) (by kernel_rfl) (by simp) ?_
      refine AllReadyH.cons rfl (fun K hK => ?_) AllReadyH.nil
      go_simp
      refine (HBy.out _ (after HB.out eb) _ (RowR.of_own hv')).mono ?_
      rintro r wc ⟨rfl, dc⟩
      have ec := after eb dc
      clear dc
      refine hK.out _ _ (⟨cellB x0 ec, cellB x1 ec, cellB x2 ec, cellB x3 ec, cellB h0 ec, cellB h1' ec, cellB h2' ec, cellB h3' ec, cellB h4' ec, cellB h5 ec, cellB h6 ec, cellB h7 ec, cellB h8 ec, cellB p0 ec, cellB p1 ec, cellB p2 ec, cellB p3 ec, cellB l0 ec⟩) (fun hHeld => ?_)
      clear hK K
      try simp only [Act.put, List.setIfInBounds_toArray, List.set_cons_zero, List.set_cons_succ, List.getElem_toArray, List.getElem_cons_zero, List.getElem_cons_succ]
      refine' wpAnyH_take (i := 8) (v := _) rfl (by kernel_rfl) (by kernel_rfl) (by kernel_rfl) (fun _ _ _ h => h) (Or.inl ⟨by rfl, ?ly67⟩) (by assumption) ?lrest67
      case ly67 =>
        intro w hSw
        try dsimp only at hSw
        go_simp
        try with_reducible rfl
      try simp only [Act.put, List.setIfInBounds_toArray, List.set_cons_zero, List.set_cons_succ, List.getElem_toArray, List.getElem_cons_zero, List.getElem_cons_succ]
      refine' wpAnyH_take (i := 9) (v := _) rfl (by kernel_rfl) (by kernel_rfl) (by kernel_rfl) (fun _ _ _ h => h) (Or.inl ⟨by rfl, ?ly68⟩) (by assumption) ?lrest68
      case ly68 =>
        intro w hSw
        try dsimp only at hSw
        go_simp
        try with_reducible rfl
      try simp only [Act.put, List.setIfInBounds_toArray, List.set_cons_zero, List.set_cons_succ, List.getElem_toArray, List.getElem_cons_zero, List.getElem_cons_succ]
      refine' wpAnyH_take (i := 10) (v := _) rfl (by kernel_rfl) (by kernel_rfl) (by kernel_rfl) (fun _ _ _ h => h) (Or.inl ⟨by rfl, ?ly69⟩) (by assumption) ?lrest69
      case ly69 =>
        intro w hSw
        try dsimp only at hSw
        go_simp
        try with_reducible rfl
      try simp only [Act.put, List.setIfInBounds_toArray, List.set_cons_zero, List.set_cons_succ, List.getElem_toArray, List.getElem_cons_zero, List.getElem_cons_succ]
      refine' wpAnyH_take (i := 11) (v := _) rfl (by kernel_rfl) (by kernel_rfl) (by kernel_rfl) (fun _ _ _ h => h) (Or.inl ⟨by rfl, ?ly70⟩) (by assumption) ?lrest70
      case ly70 =>
        intro w hSw
        try dsimp only at hSw
        go_simp
        try with_reducible rfl
      try simp only [Act.put, List.setIfInBounds_toArray, List.set_cons_zero, List.set_cons_succ, List.getElem_toArray, List.getElem_cons_zero, List.getElem_cons_succ]
      refine' wpAnyH_take (i := 12) (v := _) rfl (by kernel_rfl) (by kernel_rfl) (by kernel_rfl) (fun _ _ _ h => h) (Or.inl ⟨by rfl, ?ly71⟩) (by assumption) ?lrest71
      case ly71 =>
        intro w hSw
        try dsimp only at hSw
        go_simp
        try with_reducible rfl
      try simp only [Act.put, List.setIfInBounds_toArray, List.set_cons_zero, List.set_cons_succ, List.getElem_toArray, List.getElem_cons_zero, List.getElem_cons_succ]
      refine' wpAnyH_take (i := 13) (v := _) rfl (by kernel_rfl) (by kernel_rfl) (by kernel_rfl) (fun _ _ _ h => h) (Or.inl ⟨by rfl, ?ly72⟩) (by assumption) ?lrest72
      case ly72 =>
        intro w hSw
        try dsimp only at hSw
        go_simp
        try with_reducible rfl
      try simp only [Act.put, List.setIfInBounds_toArray, List.set_cons_zero, List.set_cons_succ, List.getElem_toArray, List.getElem_cons_zero, List.getElem_cons_succ]
      refine' wpAnyH_take (i := 14) (v := _) rfl (by kernel_rfl) (by kernel_rfl) (by kernel_rfl) (fun _ _ _ h => h) (Or.inl ⟨by rfl, ?ly73⟩) (by assumption) ?lrest73
      case ly73 =>
        intro w hSw
        try dsimp only at hSw
        go_simp
        try with_reducible rfl
      try simp only [Act.put, List.setIfInBounds_toArray, List.set_cons_zero, List.set_cons_succ, List.getElem_toArray, List.getElem_cons_zero, List.getElem_cons_succ]
      refine' wpAnyH_take (i := 15) (v := _) rfl (by kernel_rfl) (by kernel_rfl) (by kernel_rfl) (fun _ _ _ h => h) (Or.inl ⟨by rfl, ?ly74⟩) (by assumption) ?lrest74
      case ly74 =>
        intro w hSw
        try dsimp only at hSw
        go_simp
        try with_reducible rfl
      try simp only [Act.put, List.setIfInBounds_toArray, List.set_cons_zero, List.set_cons_succ, List.getElem_toArray, List.getElem_cons_zero, List.getElem_cons_succ]
      refine wpAnyH_ready (rs := [16]) (by kernel_rfl) (by simp) ?_
      refine AllReadyH.cons rfl (fun K hK => ?_) AllReadyH.nil
      go_simp
      refine (HSo.out _ (after HB.out ec)).mono ?_
      rintro r wd ⟨rfl, dd⟩
      have ed := after ec dd
      clear dd
      refine hK.out _ _ (⟨cellB x0 ed, cellB x1 ed, cellB x2 ed, cellB x3 ed, cellB h0 ed, cellB h1' ed, cellB h2' ed, cellB h3' ed, cellB h4' ed, cellB h5 ed, cellB h6 ed, cellB h7 ed, cellB h8 ed, cellB p0 ed, cellB p1 ed, cellB p2 ed, cellB p3 ed, cellB l0 ed⟩) (fun hHeld => ?_)
      clear hK K
      try simp only [Act.put, List.setIfInBounds_toArray, List.set_cons_zero, List.set_cons_succ, List.getElem_toArray, List.getElem_cons_zero, List.getElem_cons_succ]
      refine' wpAnyH_take (i := 17) (v := _) rfl (by kernel_rfl) (by kernel_rfl) (by kernel_rfl) (fun _ _ _ h => h) (Or.inl ⟨by rfl, ?ly76⟩) (by assumption) ?lrest76
      case ly76 =>
        intro w hSw
        try dsimp only at hSw
        go_simp
        try with_reducible rfl
      try simp only [Act.put, List.setIfInBounds_toArray, List.set_cons_zero, List.set_cons_succ, List.getElem_toArray, List.getElem_cons_zero, List.getElem_cons_succ]
      refine' wpAnyH_take (i := 18) (v := _) rfl (by kernel_rfl) (by kernel_rfl) (by kernel_rfl) (fun _ _ _ h => h) (Or.inl ⟨by rfl, ?ly77⟩) (by assumption) ?lrest77
      case ly77 =>
        intro w hSw
        try dsimp only at hSw
        go_simp
        try with_reducible rfl
      try simp only [Act.put, List.setIfInBounds_toArray, List.set_cons_zero, List.set_cons_succ, List.getElem_toArray, List.getElem_cons_zero, List.getElem_cons_succ]
      refine' wpAnyH_take (i := 19) (v := _) rfl (by kernel_rfl) (by kernel_rfl) (by kernel_rfl) (fun _ _ _ h => h) (Or.inl ⟨by rfl, ?ly78⟩) (by assumption) ?lrest78
      case ly78 =>
        intro w hSw
        try dsimp only at hSw
        go_simp
        try with_reducible rfl
      try simp only [Act.put, List.setIfInBounds_toArray, List.set_cons_zero, List.set_cons_succ, List.getElem_toArray, List.getElem_cons_zero, List.getElem_cons_succ]
      refine' wpAnyH_take (i := 20) (v := _) rfl (by kernel_rfl) (by kernel_rfl) (by kernel_rfl) (fun _ _ _ h => h) (Or.inl ⟨by rfl, ?ly79⟩) (by assumption) ?lrest79
      case ly79 =>
        intro w hSw
        try dsimp only at hSw
        go_simp
        try with_reducible rfl
      try simp only [Act.put, List.setIfInBounds_toArray, List.set_cons_zero, List.set_cons_succ, List.getElem_toArray, List.getElem_cons_zero, List.getElem_cons_succ]
      refine' wpAnyH_take (i := 21) (v := _) rfl (by kernel_rfl) (by kernel_rfl) (by kernel_rfl) (fun _ _ _ h => h) (Or.inl ⟨by rfl, ?ly80⟩) (by assumption) ?lrest80
      case ly80 =>
        intro w hSw
        try dsimp only at hSw
        go_simp
        try with_reducible rfl
      try simp only [Act.put, List.setIfInBounds_toArray, List.set_cons_zero, List.set_cons_succ, List.getElem_toArray, List.getElem_cons_zero, List.getElem_cons_succ]
      refine' wpAnyH_take (i := 22) (v := _) rfl (by kernel_rfl) (by kernel_rfl) (by kernel_rfl) (fun _ _ _ h => h) (Or.inl ⟨by rfl, ?ly81⟩) (by assumption) ?lrest81
      case ly81 =>
        intro w hSw
        try dsimp only at hSw
        go_simp
        try with_reducible rfl
      try simp only [Act.put, List.setIfInBounds_toArray, List.set_cons_zero, List.set_cons_succ, List.getElem_toArray, List.getElem_cons_zero, List.getElem_cons_succ]
      refine' wpAnyH_take (i := 23) (v := _) rfl (by kernel_rfl) (by kernel_rfl) (by kernel_rfl) (fun _ _ _ h => h) (Or.inl ⟨by rfl, ?ly82⟩) (by assumption) ?lrest82
      case ly82 =>
        intro w hSw
        try dsimp only at hSw
        go_simp
        try with_reducible rfl
      try simp only [Act.put, List.setIfInBounds_toArray, List.set_cons_zero, List.set_cons_succ, List.getElem_toArray, List.getElem_cons_zero, List.getElem_cons_succ]
      refine' wpAnyH_take (i := 24) (v := _) rfl (by kernel_rfl) (by kernel_rfl) (by kernel_rfl) (fun _ _ _ h => h) (Or.inl ⟨by rfl, ?ly83⟩) (by assumption) ?lrest83
      case ly83 =>
        intro w hSw
        try dsimp only at hSw
        go_simp
        try with_reducible rfl
      try simp only [Act.put, List.setIfInBounds_toArray, List.set_cons_zero, List.set_cons_succ, List.getElem_toArray, List.getElem_cons_zero, List.getElem_cons_succ]
      refine' wpAnyH_take (i := 25) (v := _) rfl (by kernel_rfl) (by kernel_rfl) (by kernel_rfl) (fun _ _ _ h => h) (Or.inl ⟨by rfl, ?ly84⟩) (by assumption) ?lrest84
      case ly84 =>
        intro w hSw
        try dsimp only at hSw
        go_simp
        try with_reducible rfl
      try simp only [Act.put, List.setIfInBounds_toArray, List.set_cons_zero, List.set_cons_succ, List.getElem_toArray, List.getElem_cons_zero, List.getElem_cons_succ]
      refine wpAnyH_ready (rs := [26]) (by kernel_rfl) (by simp) ?_
      refine AllReadyH.cons rfl (fun K hK => ?_) AllReadyH.nil
      go_simp
      refine (HDe.out _ (after HB.out ed)).mono ?_
      rintro r we ⟨rfl, de⟩
      have ee := after ed de
      clear de
      refine hK.out _ _ (⟨cellB x0 ee, cellB x1 ee, cellB x2 ee, cellB x3 ee, cellB h0 ee, cellB h1' ee, cellB h2' ee, cellB h3' ee, cellB h4' ee, cellB h5 ee, cellB h6 ee, cellB h7 ee, cellB h8 ee, cellB p0 ee, cellB p1 ee, cellB p2 ee, cellB p3 ee, cellB l0 ee⟩) (fun hHeld => ?_)
      clear hK K
      try simp only [Act.put, List.setIfInBounds_toArray, List.set_cons_zero, List.set_cons_succ, List.getElem_toArray, List.getElem_cons_zero, List.getElem_cons_succ]
      refine' wpAnyH_take (i := 27) (v := _) rfl (by kernel_rfl) (by kernel_rfl) (by kernel_rfl) (fun _ _ _ h => h) (Or.inl ⟨by rfl, ?ly86⟩) (by assumption) ?lrest86
      case ly86 =>
        intro w hSw
        try dsimp only at hSw
        go_simp
        try with_reducible rfl
      try simp only [Act.put, List.setIfInBounds_toArray, List.set_cons_zero, List.set_cons_succ, List.getElem_toArray, List.getElem_cons_zero, List.getElem_cons_succ]
      refine' wpAnyH_take (i := 28) (v := _) rfl (by kernel_rfl) (by kernel_rfl) (by kernel_rfl) (fun _ _ _ h => h) (Or.inl ⟨by rfl, ?ly87⟩) (by assumption) ?lrest87
      case ly87 =>
        intro w hSw
        try dsimp only at hSw
        go_simp
        try with_reducible rfl
      try simp only [Act.put, List.setIfInBounds_toArray, List.set_cons_zero, List.set_cons_succ, List.getElem_toArray, List.getElem_cons_zero, List.getElem_cons_succ]
      refine wpAnyH_done (by kernel_rfl) ?_ _
      go_wp2_with fail
      go_ret
      exact ⟨by rw [HRf.out]; rfl, after HB.out ee⟩

set_option maxHeartbeats 8000000 in
set_option maxRecDepth 100000 in
theorem permits_any {w : World} (env : Env w) {V : PoV} {p : Po} (h : PoRd w V p) (fit : PoFit p) {pv : Value} {l : List Pe} (hp : PeRd w pv l) (hpl : l.length ≤ 4000000) (f : Fw) (of : f.src.Ok) (od : f.dst.Ok) (e : HdX) :
    Calls Tryz.prog 12 #[.agg #[V.g, V.t, V.h, V.a], pv, .agg (headCells f e)] w (Got (.bool (permitsP p l f)) w) := by
  obtain ⟨T, E, ht, hE, hE0⟩ := rtextR_ok p
  have hmay := fun u (hu : Below w.heap.size w u) => pmay_any (env.below hu) (h.below hu) fit ht
  have hco := fun u (hu : Below w.heap.size w u) gh gp gl (bh : Blk u gh 46 (headCells f e)) (bp : Blk u gp 26 #[V.g, V.t, V.h, V.a]) (bl : u.cell? ⟨gl, 0, none⟩ = some pv) =>
    coAc_of (h.a.below hu) (by have := fit.al; omega) (acP' p l f) 30 #[.pointer (some ⟨gh, 0, none⟩), .pointer (some ⟨gp, 0, none⟩), .pointer (some ⟨gl, 0, none⟩)] (enters_of Tryz.func30 (by kernel_rfl) rfl)
      fun W hW X hm hX => permits1_any (env.below (after hu hW)) (h.below (after hu hW)) fit (hp.below (after hu hW)) hpl f of od e gh gp gl (bh.below hW bh.lt) (bp.below hW bp.lt) (cellB bl hW) hX (fit.a _ hm)
  obtain ⟨R, hR⟩ : ∃ r, r = permitsP p l f := ⟨_, rfl⟩
  rw [← hR]
  unfold permitsP at hR
  generalize p.acls.any (acP' p l f) = D at hR hco
  generalize okP p = K at hR hE hE0
  obtain ⟨Ag, At, Ah, Aa, cg, ct, ch, ca, rfl⟩ := copied h
  obtain ⟨Ap, cp, rfl⟩ := hp.shape
  simp only at *
  generalize p.groups.length = NG at *
  generalize p.tags.length = NT at *
  generalize p.hosts.length = NH at *
  generalize p.acls.length = NA at *
  generalize l.length = NL at *
  clear env h fit hp hpl of od ht
  obtain ⟨pr, ⟨sv, sh, sl⟩, ⟨dv, dh, dl⟩, fs, ft⟩ := f
  obtain ⟨h1, h2, h3, h4⟩ := e
  unfold headCells at hco
  unfold headCells
  simp only at hco ⊢
  have HMay := Lib.hid hmay
  have HCo := Lib.hid hco
  have HR := Lib.hid hR
  clear hmay hco hR
  have HB := Lib.hid (three_boxed w (.cells #[.slice Ag NG cg, .slice At NT ct, .slice Ah NH ch, .slice Aa NA ca] 26) (.cells #[.slice Ap NL cp] 27) (.cells #[.int .u8 (pr : Int), .bool sv, .int .u64 (sh : Int), .int .u64 (sl : Int), .bool dv, .int .u64 (dh : Int), .int .u64 (dl : Int), .int .u16 (fs : Int), .int .u16 (ft : Int), .int .u8 (h1 : Int), .int .u8 (h2 : Int), .int .u8 (h3 : Int), .int .i64 h4] 46))
  have hp := Blk.new w 26 #[.slice Ag NG cg, .slice At NT ct, .slice Ah NH ch, .slice Aa NA ca]
  have HP := Lib.hid (hp.below (two_boxed _ (.cells #[.slice Ap NL cp] 27) (.cells #[.int .u8 (pr : Int), .bool sv, .int .u64 (sh : Int), .int .u64 (sl : Int), .bool dv, .int .u64 (dh : Int), .int .u64 (dl : Int), .int .u16 (fs : Int), .int .u16 (ft : Int), .int .u8 (h1 : Int), .int .u8 (h2 : Int), .int .u8 (h3 : Int), .int .i64 h4] 46)) hp.lt)
  have hl : World.cell? _ ⟨w.heap.size + 1, 0, none⟩ = some (.slice Ap NL cp) := (mid3 w (.cells #[.slice Ag NG cg, .slice At NT ct, .slice Ah NH ch, .slice Aa NA ca] 26) (.cells #[.int .u8 (pr : Int), .bool sv, .int .u64 (sh : Int), .int .u64 (sl : Int), .bool dv, .int .u64 (dh : Int), .int .u64 (dl : Int), .int .u16 (fs : Int), .int .u16 (ft : Int), .int .u8 (h1 : Int), .int .u8 (h2 : Int), .int .u8 (h3 : Int), .int .i64 h4] 46) 27 #[.slice Ap NL cp]).cell 0
  have ha := Blk.new ((w.alloc (.cells #[.slice Ag NG cg, .slice At NT ct, .slice Ah NH ch, .slice Aa NA ca] 26)).alloc (.cells #[.slice Ap NL cp] 27)) 46 #[.int .u8 (pr : Int), .bool sv, .int .u64 (sh : Int), .int .u64 (sl : Int), .bool dv, .int .u64 (dh : Int), .int .u64 (dl : Int), .int .u16 (fs : Int), .int .u16 (ft : Int), .int .u8 (h1 : Int), .int .u8 (h2 : Int), .int .u8 (h3 : Int), .int .i64 h4]
  rw [show ((w.alloc (.cells #[.slice Ag NG cg, .slice At NT ct, .slice Ah NH ch, .slice Aa NA ca] 26)).alloc (.cells #[.slice Ap NL cp] 27)).heap.size = w.heap.size + 1 + 1 by simp] at ha
  have HH := Lib.hid ha
  have HL := Lib.hid hl
  clear hp ha hl
  go_enter Tryz.func12, Tryz.ntmps12
  go_upto_region 1 with fail
  generalize ((w.alloc (.cells #[.slice Ag NG cg, .slice At NT ct, .slice Ah NH ch, .slice Aa NA ca] 26)).alloc (.cells #[.slice Ap NL cp] 27)).alloc (.cells #[.int .u8 (pr : Int), .bool sv, .int .u64 (sh : Int), .int .u64 (sl : Int), .bool dv, .int .u64 (dh : Int), .int .u64 (dl : Int), .int .u16 (fs : Int), .int .u16 (ft : Int), .int .u8 (h1 : Int), .int .u8 (h2 : Int), .int .u8 (h3 : Int), .int .i64 h4] 46) = w1 at HB HP HL HH ⊢
  generalize w.heap.size + 1 + 1 = H at HH ⊢
  generalize w.heap.size + 1 = L at HL ⊢
  generalize hP : w.heap.size = P at HP ⊢
  clear hP
  have p0 := HP.out.cell 0
  have p1 := HP.out.cell 1
  have p2 := HP.out.cell 2
  have p3 := HP.out.cell 3
  simp at p0 p1 p2 p3
  cases K with
  | false =>
    have HRf : RowKit.Hid (R = false) := Lib.hid (by rw [HR.out, Bool.false_and])
    have hE1 : ¬ E = 0 := by rw [decide_eq_false_iff_not] at hE; exact hE
    have e0 : ((E : Int) == 0) = false := by simp; omega
    clear hE hE0 hE1 HR
    go_wp2_with (go_at_call 14; (with_reducible refine (HMay.out _ HB.out).mono ?_); rintro r w2 ⟨rfl, d2⟩)
    go_ret
    exact ⟨by rw [HRf.out]; rfl, after HB.out d2⟩
  | true =>
    have HRf : RowKit.Hid (R = D) := Lib.hid (by rw [HR.out, Bool.true_and])
    obtain rfl := hE0 rfl
    have e0 : (((0 : Nat) : Int) == 0) = true := rfl
    clear hE hE0 HR
    go_wp2_with (first
      | (go_at_call 14; (with_reducible refine (HMay.out _ HB.out).mono ?_); rintro r w2 ⟨rfl, d2⟩; have p3' := cellB p3 d2)
      | (go_at_call 29; (with_reducible refine (HCo.out _ (after HB.out d2) _ _ _ (HH.out.below d2 HH.out.lt) (HP.out.below d2 HP.out.lt) (cellB HL.out d2)).mono ?_); rintro r w3 ⟨rfl, d3⟩))
    go_ret
    exact ⟨by rw [HRf.out]; rfl, after HB.out (after d2 d3)⟩
end Go.Proofs.YthglckoikjfjkaaGreatDoor
