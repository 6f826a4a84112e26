/- Joined out of: MtA. -/
import Derived.Test.YthglckoikjfjkaaGreatDoorSaw
set_option linter.unusedVariables false
set_option linter.unusedSimpArgs false

/- Rules: which rule lets a flow through (Match): the walks. (printed by match.py) -/
namespace Go.Proofs.YthglckoikjfjkaaGreatDoor
open Go.RowKit
attribute [local go_sem ↓] Go.wp_at_zero Go.wp_at_succ

theorem coSp_of {w : World} {v : Value} {L : List Sp} (hr : RowR w v L.length 6 (spCells L)) (hl : L.length ≤ 4000000) (q : Sp → Bool) (f : Nat) (lb : Array Value) (eg : ∀ args w, (callFunc f args).run Tryz.prog w = .ok (.enter f args) w)
    (hf : ∀ W, Below w.heap.size w W → ∀ s ∈ L, Calls Tryz.prog f (#[.agg s.cells] ++ lb) W (Got (.bool (q s)) W)) :
    Calls Tryz.prog 22 #[v, .func (.func f) #[] lb] w (Got (.bool (L.any q)) w) := by
  rw [← any_range]
  obtain ⟨A, cap, rfl⟩ := hr.shape
  refine coSp_any hl _ _ hr.cellsAt f lb eg fun k hk W hW => ?_
  have hxk : L[k]? = some L[k] := List.getElem?_eq_getElem hk
  unfold spCells
  simp only [hxk]
  rw [flat_drop _ 6 sp_len' L k _ hxk]
  exact hf W hW _ (List.getElem_mem hk)

set_option maxHeartbeats 8000000 in
set_option maxRecDepth 100000 in
theorem match11_any {w : World} (env : Env w) (s : Sp) (ok : s.Ok) (a : Ad) (oa : a.Ok) (ga : Nat) (ba : Blk w ga 40 a.cells) :
    Calls Tryz.prog 23 #[.agg s.cells, .pointer (some ⟨ga, 0, none⟩)] w (Got (.bool (inSp a s)) w) := by
  have hm := fun u (hu : Below w.heap.size w u) => maySpan_any (env.below hu) s ok
  have hc1 := fun u => compare_any s.1 a u
  have hc2 := fun u => compare_any a s.2 u
  obtain ⟨R, hR⟩ : ∃ r, r = inSp a s := ⟨_, rfl⟩
  rw [← hR]
  unfold inSp at hR
  rw [← cmp_le ok.1 oa, ← cmp_le oa ok.2] at hR
  generalize maySp s = M at hm hR
  generalize cmpA s.1 a = C1 at hc1 hR
  generalize cmpA a s.2 = C2 at hc2 hR
  obtain ⟨⟨v, x, l⟩, ⟨v2, x2, l2⟩⟩ := s
  obtain ⟨av, ah, al⟩ := a
  unfold Sp.cells at hm
  unfold Ad.cells at hc1 hc2 ba
  unfold Sp.cells
  simp only at hm hc1 hc2 ba hR ⊢
  have HM := Lib.hid hm
  have HC1 := Lib.hid hc1
  have HC2 := Lib.hid hc2
  have HR := Lib.hid hR
  have hb := boxed w (.cells #[.bool v, .int .u64 (x : Int), .int .u64 (l : Int), .bool v2, .int .u64 (x2 : Int), .int .u64 (l2 : Int)] 73)
  have HP := Lib.hid (Blk.new w 73 #[.bool v, .int .u64 (x : Int), .int .u64 (l : Int), .bool v2, .int .u64 (x2 : Int), .int .u64 (l2 : Int)])
  have HA := Lib.hid (ba.below hb ba.lt)
  have HB := Lib.hid hb
  clear hm hc1 hc2 hR hb ba env ok oa
  go_enter Tryz.func23, Tryz.ntmps23
  go_upto_region 1 with fail
  generalize w.alloc (.cells #[.bool v, .int .u64 (x : Int), .int .u64 (l : Int), .bool v2, .int .u64 (x2 : Int), .int .u64 (l2 : Int)] 73) = w1 at HP HA HB ⊢
  generalize w.heap.size = B at HP ⊢
  have p0 := HP.out.cell 0
  have p1 := HP.out.cell 1
  have p2 := HP.out.cell 2
  have p3 := HP.out.cell 3
  have p4 := HP.out.cell 4
  have p5 := HP.out.cell 5
  have a0 := HA.out.cell 0
  have a1 := HA.out.cell 1
  have a2 := HA.out.cell 2
  simp at p0 p1 p2 p3 p4 p5 a0 a1 a2
  cases M with
  | false =>
    have HRf : RowKit.Hid (R = false) := Lib.hid (by rw [HR.out]; rfl)
    go_wp2_with (go_at_call 24; (with_reducible refine (HM.out _ HB.out).mono ?_); rintro r w2 ⟨rfl, d2⟩; have HB2 := Lib.hid (after HB.out d2); have qp0 := cellB p0 d2; have qp1 := cellB p1 d2; have qp2 := cellB p2 d2; have qp3 := cellB p3 d2; have qp4 := cellB p4 d2; have qp5 := cellB p5 d2; have qa0 := cellB a0 d2; have qa1 := cellB a1 d2; have qa2 := cellB a2 d2; clear d2)
    go_ret
    exact ⟨by rw [HRf.out]; rfl, HB2.out⟩
  | true =>
    by_cases hv : v = av
    case neg =>
      have hv2 : (v == av) = false := by simpa using hv
      have HRf : RowKit.Hid (R = false) := Lib.hid (by rw [HR.out, hv2]; rfl)
      clear hv
      go_wp2_with (go_at_call 24; (with_reducible refine (HM.out _ HB.out).mono ?_); rintro r w2 ⟨rfl, d2⟩; have HB2 := Lib.hid (after HB.out d2); have qp0 := cellB p0 d2; have qp1 := cellB p1 d2; have qp2 := cellB p2 d2; have qp3 := cellB p3 d2; have qp4 := cellB p4 d2; have qp5 := cellB p5 d2; have qa0 := cellB a0 d2; have qa1 := cellB a1 d2; have qa2 := cellB a2 d2; clear d2)
      go_ret
      exact ⟨by rw [HRf.out]; try rfl, HB2.out⟩
    subst hv
    by_cases h1 : C1 ≤ 0
    case neg =>
      have HRf : RowKit.Hid (R = false) := Lib.hid (by rw [HR.out, decide_eq_false h1]; simp)
      go_wp2_with (first | (go_at_call 24; (with_reducible refine (HM.out _ HB.out).mono ?_); rintro r w2 ⟨rfl, d2⟩; have HB2 := Lib.hid (after HB.out d2); have qp0 := cellB p0 d2; have qp1 := cellB p1 d2; have qp2 := cellB p2 d2; have qp3 := cellB p3 d2; have qp4 := cellB p4 d2; have qp5 := cellB p5 d2; have qa0 := cellB a0 d2; have qa1 := cellB a1 d2; have qa2 := cellB a2 d2; clear d2) | (go_at_call 25; (with_reducible refine (HC1.out _).mono ?_); rintro r w3 ⟨rfl, d3⟩; have HB3 := Lib.hid (after HB2.out d3); have rp0 := cellB qp0 d3; have rp1 := cellB qp1 d3; have rp2 := cellB qp2 d3; have rp3 := cellB qp3 d3; have rp4 := cellB qp4 d3; have rp5 := cellB qp5 d3; have ra0 := cellB qa0 d3; have ra1 := cellB qa1 d3; have ra2 := cellB qa2 d3; clear d3))
      go_ret
      exact ⟨by rw [HRf.out]; try rfl, HB3.out⟩
    have HRf : RowKit.Hid (R = decide (C2 ≤ 0)) := Lib.hid (by rw [HR.out, decide_eq_true h1]; simp)
    go_wp2_with (first | (go_at_call 24; (with_reducible refine (HM.out _ HB.out).mono ?_); rintro r w2 ⟨rfl, d2⟩; have HB2 := Lib.hid (after HB.out d2); have qp0 := cellB p0 d2; have qp1 := cellB p1 d2; have qp2 := cellB p2 d2; have qp3 := cellB p3 d2; have qp4 := cellB p4 d2; have qp5 := cellB p5 d2; have qa0 := cellB a0 d2; have qa1 := cellB a1 d2; have qa2 := cellB a2 d2; clear d2) | (go_at_call 25; (with_reducible refine (HC1.out _).mono ?_); rintro r w3 ⟨rfl, d3⟩; have HB3 := Lib.hid (after HB2.out d3); have rp0 := cellB qp0 d3; have rp1 := cellB qp1 d3; have rp2 := cellB qp2 d3; have rp3 := cellB qp3 d3; have rp4 := cellB qp4 d3; have rp5 := cellB qp5 d3; have ra0 := cellB qa0 d3; have ra1 := cellB qa1 d3; have ra2 := cellB qa2 d3; clear d3) | (go_at_call 25; (with_reducible refine (HC2.out _).mono ?_); rintro r w4 ⟨rfl, d4⟩; have HB4 := Lib.hid (after HB3.out d4); clear d4))
    go_ret
    exact ⟨by rw [HRf.out]; try rfl, HB4.out⟩

set_option maxHeartbeats 8000000 in
set_option maxRecDepth 100000 in
theorem match1_any {w : World} (env : Env w) {v : Value} {L : List Sp} (hr : RowR w v L.length 6 (spCells L)) (hl : L.length ≤ 4000000) (ok : ∀ s ∈ L, s.Ok) (a : Ad) (oa : a.Ok) :
    Calls Tryz.prog 20 #[v, .agg a.cells] w (Got (.bool (inP L a)) w) := by
  have hm := fun u (hu : Below w.heap.size w u) => mayQ_any (env.below hu) a oa
  have hco := fun u (hu : Below w.heap.size w u) ga (ba : Blk u ga 40 a.cells) => coSp_of (hr.below hu) hl (inSp a) 23 #[.pointer (some ⟨ga, 0, none⟩)] (enters_of Tryz.func23 (by kernel_rfl) rfl)
    fun W hW s hs => match11_any (env.below (after hu hW)) s (ok s hs) a oa ga (ba.below hW ba.lt)
  unfold inP
  generalize a.may = M at hm ⊢
  generalize L.any (inSp a) = D at hco ⊢
  obtain ⟨A, c, rfl⟩ := hr.shape
  generalize L.length = N at *
  obtain ⟨av, ah, al⟩ := a
  unfold Ad.cells at hm hco
  unfold Ad.cells
  simp only at hm hco ⊢
  have HM := Lib.hid hm
  have HCo := Lib.hid hco
  have hb := boxed w (.cells #[.bool av, .int .u64 (ah : Int), .int .u64 (al : Int)] 40)
  have HA := Lib.hid (Blk.new w 40 #[.bool av, .int .u64 (ah : Int), .int .u64 (al : Int)])
  have HB := Lib.hid hb
  clear hm hco hb env hr ok oa
  go_enter Tryz.func20, Tryz.ntmps20
  go_upto_region 1 with fail
  generalize w.alloc (.cells #[.bool av, .int .u64 (ah : Int), .int .u64 (al : Int)] 40) = w1 at HA HB ⊢
  generalize w.heap.size = G at HA ⊢
  have a0 := HA.out.cell 0
  have a1 := HA.out.cell 1
  have a2 := HA.out.cell 2
  simp at a0 a1 a2
  cases M with
  | false =>
    go_wp2_with (go_at_call 21; (with_reducible refine (HM.out _ HB.out).mono ?_); rintro r w2 ⟨rfl, d2⟩)
    go_ret
    exact ⟨rfl, after HB.out d2⟩
  | true =>
    go_wp2_with (first
      | (go_at_call 21; (with_reducible refine (HM.out _ HB.out).mono ?_); rintro r w2 ⟨rfl, d2⟩; have HA2 := Lib.hid (HA.out.below d2 HA.out.lt); have HB2 := Lib.hid (after HB.out d2); clear d2)
      | (go_at_call 22; (with_reducible refine (HCo.out _ HB2.out _ HA2.out).mono ?_); rintro r w3 ⟨rfl, d3⟩))
    go_ret
    exact ⟨by simp, after HB2.out d3⟩

/- Rules in memory. -/
structure RlV where
  r : Rl
  p : Value
  s : Value
  d : Value
  o : Value
def ruQuad (x : RlV) : List Value := [x.p, x.s, x.d, x.o]
theorem ru_len (x : RlV) : (ruQuad x).length = 4 := rfl
def ruCells (l : List RlV) : List Value := l.flatMap ruQuad
structure RlFit (r : Rl) : Prop where
  p : r.protos.length ≤ 4000000
  s : r.src.length ≤ 4000000
  d : r.dst.length ≤ 4000000
  o : r.ports.length ≤ 4000000
  src : ∀ x ∈ r.src, x.Ok
  dst : ∀ x ∈ r.dst, x.Ok
structure RlMem (w : World) (x : RlV) : Prop where
  p : RowR w x.p x.r.protos.length 1 (protoCells x.r.protos)
  s : RowR w x.s x.r.src.length 6 (spCells x.r.src)
  d : RowR w x.d x.r.dst.length 6 (spCells x.r.dst)
  o : RowR w x.o x.r.ports.length 2 (portCells x.r.ports)
theorem RlMem.below {w w' : World} {x : RlV} (h : RlMem w x) (hb : Below w.heap.size w w') : RlMem w' x := ⟨h.p.below hb, h.s.below hb, h.d.below hb, h.o.below hb⟩
def RlRd (w : World) (v : Value) (rs : List Rl) : Prop := ∃ xs : List RlV, xs.map (·.r) = rs ∧ RowR w v xs.length 4 (ruCells xs) ∧ (∀ x ∈ xs, RlMem w x) ∧ ∀ r ∈ rs, RlFit r
theorem RlRd.below {w w' : World} {v : Value} {rs : List Rl} (h : RlRd w v rs) (hb : Below w.heap.size w w') : RlRd w' v rs := by
  obtain ⟨xs, h1, h2, h3, h4⟩ := h
  exact ⟨xs, h1, h2.below hb, fun x hx => (h3 x hx).below hb, h4⟩
theorem RlRd.shape {w : World} {v : Value} {rs : List Rl} (h : RlRd w v rs) : ∃ A c, v = .slice A rs.length c := by
  obtain ⟨xs, h1, h2, _⟩ := h
  have := h2.shape
  rw [← h1, List.length_map]
  exact this
def hitAt (f : Fw) (xs : List RlV) (k : Nat) : Bool := match xs[k]? with
  | some x => hitR f x.r
  | none => false
theorem hitAt_any (f : Fw) (xs : List RlV) : (List.range xs.length).any (hitAt f xs) = (xs.map (·.r)).any (hitR f) := by
  rw [List.any_map]
  refine Eq.trans ?_ (any_range xs fun x => hitR f x.r)
  congr 1
  funext k
  unfold hitAt
  cases xs[k]? <;> rfl
attribute [local go_sem] run_store_fn

set_option maxHeartbeats 8000000 in
set_option maxRecDepth 100000 in
theorem match2_any {w : World} (env : Env w) {X : RlV} (hX : RlMem w X) (fX : RlFit X.r) (f : Fw) (of : f.src.Ok) (od : f.dst.Ok) (e : HdX) (gh gi : Nat) (bh : Blk w gh 46 (headCells f e)) (bi : w.cell? ⟨gi, 0, none⟩ = some (.func (.func 20) #[] #[])) :
    Calls Tryz.prog 27 #[.agg #[X.p, X.s, X.d, X.o], .pointer (some ⟨gh, 0, none⟩), .pointer (some ⟨gi, 0, none⟩)] w (Got (.bool (hitR f X.r)) w) := by
  have hby := fun u (hu : Below w.heap.size w u) => by_any X.r.protos X.r.ports (hX.p.below hu) (hX.o.below hu) fX.p fX.o f
  have hi1 := fun u (hu : Below w.heap.size w u) => match1_any (env.below hu) (hX.s.below hu) fX.s fX.src f.src of
  have hi2 := fun u (hu : Below w.heap.size w u) => match1_any (env.below hu) (hX.d.below hu) fX.d fX.dst f.dst od
  have eg : ∀ args w, (callFunc 20 args).run Tryz.prog w = .ok (.enter 20 args) w := enters_of Tryz.func20 (by kernel_rfl) rfl
  unfold hitR
  generalize byP X.r.protos X.r.ports f = BY at hby ⊢
  generalize inP X.r.src f.src = SS at hi1 ⊢
  generalize inP X.r.dst f.dst = DD at hi2 ⊢
  obtain ⟨Xp, xp, ep⟩ := hX.p.shape
  obtain ⟨Xs, xs, es⟩ := hX.s.shape
  obtain ⟨Xd, xd, ed⟩ := hX.d.shape
  obtain ⟨Xo, xo, eo⟩ := hX.o.shape
  obtain ⟨⟨rps, rsrc, rdst, rpo⟩, pv', sv', dv', ov'⟩ := X
  simp only at ep es ed eo hby hi1 hi2
  subst ep es ed eo
  simp only at *
  generalize rps.length = NP at *
  generalize rsrc.length = NS at *
  generalize rdst.length = ND at *
  generalize rpo.length = NO at *
  clear env of od hX fX
  obtain ⟨pr, ⟨sv, sh, sl⟩, ⟨dv, dh, dl⟩, fs, ft⟩ := f
  obtain ⟨h1, h2, h3, h4⟩ := e
  unfold Fw.cells at hby
  unfold Ad.cells at hi1 hi2
  unfold headCells at bh
  simp only at hby hi1 hi2 bh
  have HBy := Lib.hid hby
  have HI1 := Lib.hid hi1
  have HI2 := Lib.hid hi2
  have hb := boxed w (.cells #[.slice Xp NP xp, .slice Xs NS xs, .slice Xd ND xd, .slice Xo NO xo] 79)
  have HX := Lib.hid (Blk.new w 79 #[.slice Xp NP xp, .slice Xs NS xs, .slice Xd ND xd, .slice Xo NO xo])
  have HH := Lib.hid (bh.below hb bh.lt)
  have i0 := cellB bi hb
  have HB := Lib.hid hb
  clear hby hi1 hi2 hb bh bi
  go_enter Tryz.func27, Tryz.ntmps27
  go_upto_region 1 with fail
  generalize w.alloc (.cells #[.slice Xp NP xp, .slice Xs NS xs, .slice Xd ND xd, .slice Xo NO xo] 79) = w1 at HX HH HB i0 ⊢
  generalize w.heap.size = Q at HX ⊢
  have x0 := HX.out.cell 0
  have x1 := HX.out.cell 1
  have x2 := HX.out.cell 2
  have x3 := HX.out.cell 3
  have g0 := HH.out.cell 0
  have g1 := HH.out.cell 1
  have g2 := HH.out.cell 2
  have g3 := HH.out.cell 3
  have g4 := HH.out.cell 4
  have g5 := HH.out.cell 5
  have g6 := HH.out.cell 6
  have g7 := HH.out.cell 7
  have g8 := HH.out.cell 8
  simp at x0 x1 x2 x3 g0 g1 g2 g3 g4 g5 g6 g7 g8
  cases BY with
  | false =>
    go_wp2_with (go_at_call 28; (with_reducible refine (HBy.out _ HB.out).mono ?_); rintro r w2 ⟨rfl, d2⟩; have HB2 := Lib.hid (after HB.out d2); have qx1 := cellB x1 d2; have qx2 := cellB x2 d2; have qg0 := cellB g0 d2; have qg1 := cellB g1 d2; have qg2 := cellB g2 d2; have qg3 := cellB g3 d2; have qg4 := cellB g4 d2; have qg5 := cellB g5 d2; have qg6 := cellB g6 d2; have qi0 := cellB i0 d2; clear d2)
    go_ret
    exact ⟨rfl, HB2.out⟩
  | true =>
    cases SS with
    | false =>
      go_wp2_with (first | (go_at_call 28; (with_reducible refine (HBy.out _ HB.out).mono ?_); rintro r w2 ⟨rfl, d2⟩; have HB2 := Lib.hid (after HB.out d2); have qx1 := cellB x1 d2; have qx2 := cellB x2 d2; have qg0 := cellB g0 d2; have qg1 := cellB g1 d2; have qg2 := cellB g2 d2; have qg3 := cellB g3 d2; have qg4 := cellB g4 d2; have qg5 := cellB g5 d2; have qg6 := cellB g6 d2; have qi0 := cellB i0 d2; clear d2) | (go_at_fn 20; (with_reducible refine (HI1.out _ HB2.out).mono ?_); rintro r w3 ⟨rfl, d3⟩; have HB3 := Lib.hid (after HB2.out d3); have rx1 := cellB qx1 d3; have rx2 := cellB qx2 d3; have rg0 := cellB qg0 d3; have rg1 := cellB qg1 d3; have rg2 := cellB qg2 d3; have rg3 := cellB qg3 d3; have rg4 := cellB qg4 d3; have rg5 := cellB qg5 d3; have rg6 := cellB qg6 d3; have ri0 := cellB qi0 d3; clear d3))
      go_ret
      exact ⟨rfl, HB3.out⟩
    | true =>
      go_wp2_with (first | (go_at_call 28; (with_reducible refine (HBy.out _ HB.out).mono ?_); rintro r w2 ⟨rfl, d2⟩; have HB2 := Lib.hid (after HB.out d2); have qx1 := cellB x1 d2; have qx2 := cellB x2 d2; have qg0 := cellB g0 d2; have qg1 := cellB g1 d2; have qg2 := cellB g2 d2; have qg3 := cellB g3 d2; have qg4 := cellB g4 d2; have qg5 := cellB g5 d2; have qg6 := cellB g6 d2; have qi0 := cellB i0 d2; clear d2) | (go_at_fn 20; (with_reducible refine (HI1.out _ HB2.out).mono ?_); rintro r w3 ⟨rfl, d3⟩; have HB3 := Lib.hid (after HB2.out d3); have rx1 := cellB qx1 d3; have rx2 := cellB qx2 d3; have rg0 := cellB qg0 d3; have rg1 := cellB qg1 d3; have rg2 := cellB qg2 d3; have rg3 := cellB qg3 d3; have rg4 := cellB qg4 d3; have rg5 := cellB qg5 d3; have rg6 := cellB qg6 d3; have ri0 := cellB qi0 d3; clear d3) | (go_at_fn 20; (with_reducible refine (HI2.out _ HB3.out).mono ?_); rintro r w4 ⟨rfl, d4⟩; have HB4 := Lib.hid (after HB3.out d4); clear d4))
      go_ret
      exact ⟨by simp, HB4.out⟩

set_option maxHeartbeats 8000000 in
set_option maxRecDepth 100000 in
theorem match_any {w : World} (env : Env w) {v : Value} {rs : List Rl} (h : RlRd w v rs) (hl : rs.length ≤ 4000000) (f : Fw) (of : f.src.Ok) (od : f.dst.Ok) (e : HdX) :
    Calls Tryz.prog 11 #[v, .agg (headCells f e)] w fun r w' => (∃ z : Int, r = .returned (.int .i64 z) ∧ decide (0 ≤ z) = rs.any (hitR f) ∧ (0 ≤ z → z < (rs.length : Int))) ∧ Below w.heap.size w w' := by
  obtain ⟨xs, rfl, hr, hm, hf⟩ := h
  rw [List.length_map] at hl ⊢
  obtain ⟨A, c, rfl⟩ := hr.shape
  have hix := fun u (hu : Below w.heap.size w u) gh gi (bh : Blk u gh 46 (headCells f e)) (bi : u.cell? ⟨gi, 0, none⟩ = some (.func (.func 20) #[] #[])) =>
    ixRu_any (w := u) (cap := c) hl _ (hitAt f xs) (hr.below hu).cellsAt 27 #[.pointer (some ⟨gh, 0, none⟩), .pointer (some ⟨gi, 0, none⟩)] (enters_of Tryz.func27 (by kernel_rfl) rfl)
      fun k hk W hW => by
        have hxk : xs[k]? = some xs[k] := List.getElem?_eq_getElem hk
        unfold ruCells
        unfold hitAt
        simp only [hxk]
        rw [flat_drop ruQuad 4 ru_len xs k _ hxk]
        exact match2_any (env.below (after hu hW)) ((hm _ (List.getElem_mem hk)).below (after hu hW)) (hf _ (List.mem_map_of_mem (List.getElem_mem hk))) f of od e gh gi (bh.below hW bh.lt) (cellB bi hW)
  have hany : ∀ z, IxR (hitAt f xs) xs.length z → decide (0 ≤ z) = (xs.map (·.r)).any (hitR f) ∧ (0 ≤ z → z < (xs.length : Int)) := fun z hz => by
    refine ⟨?_, fun h0 => ?_⟩
    · rw [hz.any, hitAt_any]
    · rcases hz with ⟨k, hk, rfl, _, _⟩ | ⟨rfl, _⟩ <;> omega
  generalize (xs.map (·.r)).any (hitR f) = D at hany ⊢
  generalize hitAt f xs = pp at hix hany
  generalize xs.length = N at *
  clear hr hm hf env of od
  obtain ⟨pr, ⟨sv, sh, sl⟩, ⟨dv, dh, dl⟩, fs, ft⟩ := f
  obtain ⟨h1, h2, h3, h4⟩ := e
  unfold headCells at hix
  unfold headCells
  simp only at hix ⊢
  have HIx := Lib.hid hix
  have HAny := Lib.hid hany
  have hb := two_boxed w (.cells #[.int .u8 (pr : Int), .bool sv, .int .u64 (sh : Int), .int .u64 (sl : Int), .bool dv, .int .u64 (dh : Int), .int .u64 (dl : Int), .int .u16 (fs : Int), .int .u16 (ft : Int), .int .u8 (h1 : Int), .int .u8 (h2 : Int), .int .u8 (h3 : Int), .int .i64 h4] 46) (.cells #[.func (.func 20) #[] #[]] 83)
  have hh := Blk.new w 46 #[.int .u8 (pr : Int), .bool sv, .int .u64 (sh : Int), .int .u64 (sl : Int), .bool dv, .int .u64 (dh : Int), .int .u64 (dl : Int), .int .u16 (fs : Int), .int .u16 (ft : Int), .int .u8 (h1 : Int), .int .u8 (h2 : Int), .int .u8 (h3 : Int), .int .i64 h4]
  have HH := Lib.hid (hh.below (boxed _ (.cells #[.func (.func 20) #[] #[]] 83)) hh.lt)
  have HI := Lib.hid ((new2 w (.cells #[.int .u8 (pr : Int), .bool sv, .int .u64 (sh : Int), .int .u64 (sl : Int), .bool dv, .int .u64 (dh : Int), .int .u64 (dl : Int), .int .u16 (fs : Int), .int .u16 (ft : Int), .int .u8 (h1 : Int), .int .u8 (h2 : Int), .int .u8 (h3 : Int), .int .i64 h4] 46) 83 #[.func (.func 20) #[] #[]]).cell 0)
  have HB := Lib.hid hb
  clear hix hany hb hh
  go_enter Tryz.func11, Tryz.ntmps11
  go_upto_region 2 with fail
  generalize (w.alloc (.cells #[.int .u8 (pr : Int), .bool sv, .int .u64 (sh : Int), .int .u64 (sl : Int), .bool dv, .int .u64 (dh : Int), .int .u64 (dl : Int), .int .u16 (fs : Int), .int .u16 (ft : Int), .int .u8 (h1 : Int), .int .u8 (h2 : Int), .int .u8 (h3 : Int), .int .i64 h4] 46)).alloc (.cells #[.func (.func 20) #[] #[]] 83) = w2 at HH HI HB ⊢
  generalize w.heap.size + 1 = I at HI ⊢
  generalize w.heap.size = H at HH ⊢
  go_wp2_with (go_at_call 26; (with_reducible refine (HIx.out _ HB.out _ _ HH.out HI.out).mono ?_); rintro r w3 ⟨⟨z, rfl, hz⟩, d3⟩; have HZ := Lib.hid hz; clear hz)
  go_ret
  exact ⟨⟨z, rfl, (HAny.out z HZ.out).1, (HAny.out z HZ.out).2⟩, after HB.out d3⟩
end Go.Proofs.YthglckoikjfjkaaGreatDoor
