/- Joined out of: PxE PxF. -/
import Derived.Test.YthglckoikjfjkaaGreatDoorSah
import Derived.Test.YthglckoikjfjkaaGreatDoorSad
set_option linter.unusedVariables false
set_option linter.unusedSimpArgs false

/- May an accept be? (mayAcl): the walk. -/
namespace Go.Proofs.YthglckoikjfjkaaGreatDoor
open Go.RowKit
attribute [local go_sem ↓] Go.wp_at_zero Go.wp_at_succ

structure AcFit (a : Ac) : Prop where
  src : ∀ s ∈ a.src, SelFit s
  dst : ∀ s ∈ a.dst, SelFit s
  pl : a.protos.length ≤ 2000000
  sl : a.src.length ≤ 2000000
  dl : a.dst.length ≤ 2000000
  ol : a.ports.length ≤ 2000000
  pb : ∀ x ∈ a.protos, x < 256
  ob : ∀ x ∈ a.ports, x.1 < 65536 ∧ x.2 < 65536
def okPr (x : Nat) : Bool := decide (x = 1) || decide (x = 6) || decide (x = 17)
def chk : Nat → List Nat → Bool
  | _, [] => true
  | last, x :: r => okPr x && decide (last < x) && chk x r
theorem chk_eq : ∀ (l : List Nat) (k : Nat), chk k l = (l.all okPr && rising k l) := by
  intro l
  induction l with
  | nil => intro k; rfl
  | cons x r ih =>
    intro k
    rw [chk, ih, List.all_cons, rising]
    cases okPr x <;> cases decide (k < x) <;> cases r.all okPr <;> rfl
theorem mayAc_eq (p : Po) (a : Ac) : mayAc p a = ((a.ports.all fun x => decide (x.1 ≤ x.2)) && (chk 0 a.protos && (decide (a.ports.length ≤ 64) && (maySels p a.src && maySels p a.dst)))) := by
  rw [chk_eq]
  show ((a.ports.all fun x => decide (x.1 ≤ x.2)) && a.protos.all okPr && rising 0 a.protos && decide (a.ports.length ≤ 64) && maySels p a.src && maySels p a.dst) = _
  cases (a.ports.all fun x => decide (x.1 ≤ x.2)) <;> cases a.protos.all okPr <;> cases rising 0 a.protos <;> cases decide (a.ports.length ≤ 64) <;> cases maySels p a.src <;> rfl
theorem portCells_at : ∀ (l : List (Nat × Nat)) (k : Nat) (x : Nat × Nat), l[k]? = some x → (portCells l)[k * 2]? = some (.int .u16 (x.1 : Int)) ∧ (portCells l)[k * 2 + 1]? = some (.int .u16 (x.2 : Int)) := by
  intro l
  induction l with
  | nil => intro k x h; cases h
  | cons y r ih =>
    intro k x h
    cases k with
    | zero => injection h with h; subst h; exact ⟨rfl, rfl⟩
    | succ k =>
      rw [show (k + 1) * 2 = k * 2 + 1 + 1 by omega]
      exact ih k x h
theorem protoCells_at {l : List Nat} {k x : Nat} (h : l[k]? = some x) : (protoCells l)[k]? = some (.int .u8 (x : Int)) := by
  unfold protoCells
  rw [List.getElem?_map, h]
  rfl
theorem lastN_take {l : List Nat} {k x : Nat} (h : l[k]? = some x) : lastN (l.take (k + 1)) = x := by
  have hk := (List.getElem?_eq_some_iff.1 h).1
  rw [List.take_succ_eq_append_getElem hk, (List.getElem?_eq_some_iff.1 h).2, lastN_snoc]

set_option maxHeartbeats 8000000 in
set_option maxRecDepth 100000 in
theorem mayAcl_any {w : World} (env : Env w) {V : PoV} {p : Po} (h : PoRd w V p) (hg : p.groups.length ≤ 2000000) (ht : p.tags.length ≤ 2000000) (hh : p.hosts.length ≤ 2000000) (X : AcV) (hx : AcRdM w X) (hf : AcFit X.a) :
    Calls Tryz.prog 95 #[.agg #[V.g, V.t, V.h, V.a], .agg #[X.p, X.s, X.d, X.o]] w (Got (.bool (mayAc p X.a)) w) := by
  obtain ⟨R, hR⟩ : ∃ r, r = mayAc p X.a := ⟨_, rfl⟩
  rw [← hR]
  rw [mayAc_eq] at hR
  obtain ⟨Ap, cp, ep⟩ := hx.p.shape
  obtain ⟨As, cs, es⟩ := hx.s.shape
  obtain ⟨Ad, cd, ed⟩ := hx.d.shape
  obtain ⟨Ao, co, eo⟩ := hx.o.shape
  obtain ⟨Ag, cg, eg⟩ := h.g.shape
  obtain ⟨At, ct, et⟩ := h.t.shape
  obtain ⟨Ah, ch, eh⟩ := h.h.shape
  obtain ⟨Aa, ca, ea⟩ := h.a.shape
  obtain ⟨⟨ps, src, dst, po⟩, pv, sv, dv, ov⟩ := X
  obtain ⟨gv, tv, hv, av⟩ := V
  simp only at ep es ed eo eg et eh ea hR ⊢
  subst ep es ed eo eg et eh ea
  have hxp := hx.p
  have hxs := hx.s
  have hxd := hx.d
  have hxo := hx.o
  simp only at hxp hxs hxd hxo
  obtain ⟨NP, hNP⟩ : ∃ n, n = ps.length := ⟨_, rfl⟩
  obtain ⟨NO, hNO⟩ : ∃ n, n = po.length := ⟨_, rfl⟩
  have hol : NO ≤ 2000000 := by rw [hNO]; exact hf.ol
  have hpl : NP ≤ 2000000 := by rw [hNP]; exact hf.pl
  have hms := fun (u : World) (hu : Below w.heap.size w u) => maySels_any (env.below hu) (h.below hu) hg ht hh src (hxs.below hu) hf.sl hf.src
  have hmd := fun (u : World) (hu : Below w.heap.size w u) => maySels_any (env.below hu) (h.below hu) hg ht hh dst (hxd.below hu) hf.dl hf.dst
  simp only at hms hmd
  rw [← hNP] at hxp ⊢
  rw [← hNO] at hxo hR ⊢
  have BP := Blk.new w 26 #[.slice Ag p.groups.length cg, .slice At p.tags.length ct, .slice Ah p.hosts.length ch, .slice Aa p.acls.length ca]
  have b1 := boxed w (.cells #[.slice Ag p.groups.length cg, .slice At p.tags.length ct, .slice Ah p.hosts.length ch, .slice Aa p.acls.length ca] 26)
  have BA := Blk.new (w.alloc (.cells #[.slice Ag p.groups.length cg, .slice At p.tags.length ct, .slice Ah p.hosts.length ch, .slice Aa p.acls.length ca] 26)) 61 #[.slice Ap NP cp, .slice As src.length cs, .slice Ad dst.length cd, .slice Ao NO co]
  have b2 := boxed (w.alloc (.cells #[.slice Ag p.groups.length cg, .slice At p.tags.length ct, .slice Ah p.hosts.length ch, .slice Aa p.acls.length ca] 26)) (.cells #[.slice Ap NP cp, .slice As src.length cs, .slice Ad dst.length cd, .slice Ao NO co] 61)
  have HBP := Lib.hid (BP.below b2 BP.lt)
  have HBA := Lib.hid BA
  have HB := Lib.hid (after b1 b2)
  have HMs := Lib.hid hms
  have HMd := Lib.hid hmd
  have HXp := Lib.hid hxp
  have HXo := Lib.hid hxo
  have HF := Lib.hid hf
  have HNP := Lib.hid hNP
  have HNO := Lib.hid hNO
  have HR := Lib.hid hR
  clear h hx hxp hxs hxd hxo hms hmd hf hNP hNO hR BP b1 BA b2 env hg ht hh
  go_enter Tryz.func95, Tryz.ntmps95
  go_upto_region 1 with fail
  generalize (w.alloc (.cells #[.slice Ag p.groups.length cg, .slice At p.tags.length ct, .slice Ah p.hosts.length ch, .slice Aa p.acls.length ca] 26)).alloc (.cells #[.slice Ap NP cp, .slice As src.length cs, .slice Ad dst.length cd, .slice Ao NO co] 61) = w1 at HBP HBA HB ⊢
  rw [show (w.alloc (.cells #[.slice Ag p.groups.length cg, .slice At p.tags.length ct, .slice Ah p.hosts.length ch, .slice Aa p.acls.length ca] 26)).heap.size = w.heap.size + 1 by simp] at HBA
  obtain ⟨QA, hQA⟩ : ∃ q, q = w.heap.size + 1 := ⟨_, rfl⟩
  rw [← hQA] at HBA ⊢
  clear hQA
  obtain ⟨QP, hQP⟩ : ∃ q, q = w.heap.size := ⟨_, rfl⟩
  have HBP' : RowKit.Hid (Blk w1 QP 26 #[.slice Ag p.groups.length cg, .slice At p.tags.length ct, .slice Ah p.hosts.length ch, .slice Aa p.acls.length ca]) := Lib.hid (by rw [hQP]; exact HBP.out)
  rw [← hQP]
  clear HBP hQP
  have a3 := HBA.out.cell 3
  simp at a3
  go_wp2_with fail
  go_loopw [12] (fun v12 wr => ∃ k : Nat, k ≤ NO ∧ v12 = .int .i64 (k : Int) ∧ RowKit.Hid (Below w1.heap.size w1 wr) ∧ RowKit.Hid ((po.take k).all (fun x => decide (x.1 ≤ x.2)) = true)) (fun v12 _ => NO - (intOf v12).toNat)
  case atStart => exact ⟨0, Nat.zero_le _, rfl, Lib.hid (Below.refl _ _), Lib.hid rfl⟩
  case round =>
    obtain ⟨k, hk, rfl, hb, hall⟩ := hrel
    by_cases hlt : k < NO
    · have hkl : k < po.length := by have := HNO.out; omega
      obtain ⟨q, o, rfl, hc⟩ := HXo.out.cell (HB.out.trans (hb.out.mono HB.out.size)) (by omega)
      have hXl : po[k]? = some po[k] := List.getElem?_eq_getElem hkl
      have htk := List.take_succ_eq_append_getElem hkl
      have hXf := HF.out.ob _ (List.getElem_mem hkl)
      generalize po[k] = Y at hXl htk hXf
      obtain ⟨e0, e1⟩ := portCells_at po k Y hXl
      have d0 := hc _ _ e0
      have d1 := hc _ _ e1
      rw [← Nat.add_assoc] at d1
      obtain ⟨y1, y2⟩ := Y
      simp only at d0 d1 hXf
      by_cases hle : y1 ≤ y2
      · have q1 : ¬ (y2 : Int) < (y1 : Int) := by omega
        have hall3 : (po.take (k + 1)).all (fun x => decide (x.1 ≤ x.2)) = true := by rw [htk, List.all_append, hall.out]; simp [hle]
        have Hall3 := Lib.hid hall3
        clear hall3 htk hXl e0 e1 hc hle
        go_wp2_with fail
        go_roundw
        case rel => exact ⟨k + 1, by omega, by go_num, Lib.hid (after hb.out (boxed wr _)), Hall3⟩
        case measure => simp [intOf]; omega
      · have q1 : (y2 : Int) < (y1 : Int) := by omega
        have hRf : R = false := by rw [HR.out, all_false hXl (by simp [hle]), Bool.false_and]
        have HRf := Lib.hid hRf
        clear hRf htk hXl e0 e1 hc hle
        go_wp2_with fail
        go_ret
        exact ⟨by rw [HRf.out]; rfl, HB.out.trans ((after hb.out (boxed wr _)).mono HB.out.size)⟩
    obtain rfl : k = NO := by omega
    have hpa : po.all (fun x => decide (x.1 ≤ x.2)) = true := by
      have := hall.out
      rwa [List.take_of_length_le (by have := HNO.out; omega)] at this
    have hR2 := HR.out
    rw [hpa, Bool.true_and] at hR2
    obtain ⟨C, hC⟩ : ∃ c, c = chk 0 ps := ⟨_, rfl⟩
    rw [← hC] at hR2
    have HR2 := Lib.hid hR2
    have HC : RowKit.Hid (C = chk (lastN (ps.take 0)) (ps.drop 0)) := Lib.hid hC
    clear hpa hR2 hC hall
    obtain ⟨wo, rfl⟩ : ∃ wo : World, wo = wr := ⟨_, rfl⟩
    have HBA2 := Lib.hid (HBA.out.below hb.out HBA.out.lt)
    have HBP2 := Lib.hid (HBP'.out.below hb.out HBP'.out.lt)
    have HB2 := Lib.hid (HB.out.trans (hb.out.mono HB.out.size))
    clear a3 hb
    have a0 := HBA2.out.cell 0
    simp at a0
    go_wp2_with fail
    go_loopw [25] (fun v25 wr2 => ∃ k2 : Nat, k2 ≤ NP ∧ v25 = .int .i64 (k2 : Int) ∧ RowKit.Hid (Below wo.heap.size wo wr2) ∧ RowKit.Hid (C = chk (lastN (ps.take k2)) (ps.drop k2))) (fun v25 _ => NP - (intOf v25).toNat)
    case atStart => exact ⟨0, Nat.zero_le _, rfl, Lib.hid (Below.refl _ _), HC⟩
    case round =>
      obtain ⟨k2, hk2, rfl, hb2, hch⟩ := hrel
      clear HC a0
      have HB3 := Lib.hid (HB2.out.trans (hb2.out.mono HB2.out.size))
      have HBA3 := Lib.hid (HBA2.out.below hb2.out HBA2.out.lt)
      have HBP3 := Lib.hid (HBP2.out.below hb2.out HBP2.out.lt)
      by_cases hlt2 : k2 < NP
      · have hkl : k2 < ps.length := by have := HNP.out; omega
        obtain ⟨q, o, rfl, hc⟩ := HXp.out.cell HB3.out (by omega)
        have hXl : ps[k2]? = some ps[k2] := List.getElem?_eq_getElem hkl
        have hXf := HF.out.pb _ (List.getElem_mem hkl)
        have hch2 := hch.out
        rw [List.drop_eq_getElem_cons hkl, chk] at hch2
        have hlast := lastN_take hXl
        generalize ps[k2] = x at hXl hXf hch2 hlast
        have d0 := hc _ _ (protoCells_at hXl)
        have a0 := HBA3.out.cell 0
        simp at a0
        have Hlast := Lib.hid hlast
        by_cases x1 : x = 1
        case pos =>
          have e1 : ((x : Int) == 1) = true := by simp; omega
          have hok : okPr x = true := by rw [x1]; rfl
          by_cases k0 : k2 = 0
          case pos =>
            have j0 : ¬ (0 : Int) < (k2 : Int) := by omega
            have hlx : decide (lastN (ps.take k2) < x) = true := by rw [k0]; exact decide_eq_true (by show 0 < x; omega)
            clear k0
            have Hch3 : RowKit.Hid (C = chk (lastN (ps.take (k2 + 1))) (ps.drop (k2 + 1))) := Lib.hid (by rw [Hlast.out, hch2, hok, hlx]; rfl)
            clear hok hlx hch2 hch hXl hc hkl hlast
            go_wp2_with fail
            go_roundw
            case rel => exact ⟨k2 + 1, by omega, by go_num, hb2, Hch3⟩
            case measure => simp [intOf]; omega
          have j0 : (0 : Int) < (k2 : Int) := by omega
          have j1 : IntKind.i64.wrap ((k2 : Int) - 1) = ((k2 - 1 : Nat) : Int) := by rw [IntKind.wrap_i64]; omega
          have hprev : ps[k2 - 1]? = some (lastN (ps.take k2)) := by
            have h1 : ps[k2 - 1]? = some (ps[k2 - 1]'(by omega)) := List.getElem?_eq_getElem (by omega)
            have h2 := lastN_take h1
            rw [show k2 - 1 + 1 = k2 by omega] at h2
            rw [h2]
            exact h1
          have dp := hc _ _ (protoCells_at hprev)
          generalize lastN (ps.take k2) = LN at hprev dp hch2
          by_cases hge : x ≤ LN
          case pos =>
            have j3 : (x : Int) ≤ (LN : Int) := by omega
            have hlx : decide (LN < x) = false := decide_eq_false (by omega)
            have hRf : R = false := by rw [HR2.out, hch2, hok, hlx]; rfl
            have HRf := Lib.hid hRf
            clear hRf hok hlx hch2 hch hXl hc hkl hlast
            go_wp2_with fail
            go_ret
            exact ⟨by rw [HRf.out]; rfl, HB3.out⟩
          have j3 : ¬ (x : Int) ≤ (LN : Int) := by omega
          have hlx : decide (LN < x) = true := decide_eq_true (by omega)
          clear hprev
          have Hch3 : RowKit.Hid (C = chk (lastN (ps.take (k2 + 1))) (ps.drop (k2 + 1))) := Lib.hid (by rw [Hlast.out, hch2, hok, hlx]; rfl)
          clear hok hlx hch2 hch hXl hc hkl hlast
          go_wp2_with fail
          go_roundw
          case rel => exact ⟨k2 + 1, by omega, by go_num, hb2, Hch3⟩
          case measure => simp [intOf]; omega
        have e1 : ((x : Int) == 1) = false := by simp; omega
        by_cases x6 : x = 6
        case pos =>
          have e6 : ((x : Int) == 6) = true := by simp; omega
          have hok : okPr x = true := by rw [x6]; rfl
          by_cases k0 : k2 = 0
          case pos =>
            have j0 : ¬ (0 : Int) < (k2 : Int) := by omega
            have hlx : decide (lastN (ps.take k2) < x) = true := by rw [k0]; exact decide_eq_true (by show 0 < x; omega)
            clear k0
            have Hch3 : RowKit.Hid (C = chk (lastN (ps.take (k2 + 1))) (ps.drop (k2 + 1))) := Lib.hid (by rw [Hlast.out, hch2, hok, hlx]; rfl)
            clear hok hlx hch2 hch hXl hc hkl hlast
            go_wp2_with fail
            go_roundw
            case rel => exact ⟨k2 + 1, by omega, by go_num, hb2, Hch3⟩
            case measure => simp [intOf]; omega
          have j0 : (0 : Int) < (k2 : Int) := by omega
          have j1 : IntKind.i64.wrap ((k2 : Int) - 1) = ((k2 - 1 : Nat) : Int) := by rw [IntKind.wrap_i64]; omega
          have hprev : ps[k2 - 1]? = some (lastN (ps.take k2)) := by
            have h1 : ps[k2 - 1]? = some (ps[k2 - 1]'(by omega)) := List.getElem?_eq_getElem (by omega)
            have h2 := lastN_take h1
            rw [show k2 - 1 + 1 = k2 by omega] at h2
            rw [h2]
            exact h1
          have dp := hc _ _ (protoCells_at hprev)
          generalize lastN (ps.take k2) = LN at hprev dp hch2
          by_cases hge : x ≤ LN
          case pos =>
            have j3 : (x : Int) ≤ (LN : Int) := by omega
            have hlx : decide (LN < x) = false := decide_eq_false (by omega)
            have hRf : R = false := by rw [HR2.out, hch2, hok, hlx]; rfl
            have HRf := Lib.hid hRf
            clear hRf hok hlx hch2 hch hXl hc hkl hlast
            go_wp2_with fail
            go_ret
            exact ⟨by rw [HRf.out]; rfl, HB3.out⟩
          have j3 : ¬ (x : Int) ≤ (LN : Int) := by omega
          have hlx : decide (LN < x) = true := decide_eq_true (by omega)
          clear hprev
          have Hch3 : RowKit.Hid (C = chk (lastN (ps.take (k2 + 1))) (ps.drop (k2 + 1))) := Lib.hid (by rw [Hlast.out, hch2, hok, hlx]; rfl)
          clear hok hlx hch2 hch hXl hc hkl hlast
          go_wp2_with fail
          go_roundw
          case rel => exact ⟨k2 + 1, by omega, by go_num, hb2, Hch3⟩
          case measure => simp [intOf]; omega
        have e6 : ((x : Int) == 6) = false := by simp; omega
        by_cases x17 : x = 17
        case pos =>
          have e17 : ((x : Int) == 17) = true := by simp; omega
          have hok : okPr x = true := by rw [x17]; rfl
          by_cases k0 : k2 = 0
          case pos =>
            have j0 : ¬ (0 : Int) < (k2 : Int) := by omega
            have hlx : decide (lastN (ps.take k2) < x) = true := by rw [k0]; exact decide_eq_true (by show 0 < x; omega)
            clear k0
            have Hch3 : RowKit.Hid (C = chk (lastN (ps.take (k2 + 1))) (ps.drop (k2 + 1))) := Lib.hid (by rw [Hlast.out, hch2, hok, hlx]; rfl)
            clear hok hlx hch2 hch hXl hc hkl hlast
            go_wp2_with fail
            go_roundw
            case rel => exact ⟨k2 + 1, by omega, by go_num, hb2, Hch3⟩
            case measure => simp [intOf]; omega
          have j0 : (0 : Int) < (k2 : Int) := by omega
          have j1 : IntKind.i64.wrap ((k2 : Int) - 1) = ((k2 - 1 : Nat) : Int) := by rw [IntKind.wrap_i64]; omega
          have hprev : ps[k2 - 1]? = some (lastN (ps.take k2)) := by
            have h1 : ps[k2 - 1]? = some (ps[k2 - 1]'(by omega)) := List.getElem?_eq_getElem (by omega)
            have h2 := lastN_take h1
            rw [show k2 - 1 + 1 = k2 by omega] at h2
            rw [h2]
            exact h1
          have dp := hc _ _ (protoCells_at hprev)
          generalize lastN (ps.take k2) = LN at hprev dp hch2
          by_cases hge : x ≤ LN
          case pos =>
            have j3 : (x : Int) ≤ (LN : Int) := by omega
            have hlx : decide (LN < x) = false := decide_eq_false (by omega)
            have hRf : R = false := by rw [HR2.out, hch2, hok, hlx]; rfl
            have HRf := Lib.hid hRf
            clear hRf hok hlx hch2 hch hXl hc hkl hlast
            go_wp2_with fail
            go_ret
            exact ⟨by rw [HRf.out]; rfl, HB3.out⟩
          have j3 : ¬ (x : Int) ≤ (LN : Int) := by omega
          have hlx : decide (LN < x) = true := decide_eq_true (by omega)
          clear hprev
          have Hch3 : RowKit.Hid (C = chk (lastN (ps.take (k2 + 1))) (ps.drop (k2 + 1))) := Lib.hid (by rw [Hlast.out, hch2, hok, hlx]; rfl)
          clear hok hlx hch2 hch hXl hc hkl hlast
          go_wp2_with fail
          go_roundw
          case rel => exact ⟨k2 + 1, by omega, by go_num, hb2, Hch3⟩
          case measure => simp [intOf]; omega
        have e17 : ((x : Int) == 17) = false := by simp; omega
        have hok : okPr x = false := by unfold okPr; rw [decide_eq_false x1, decide_eq_false x6, decide_eq_false x17]; rfl
        have hlx : decide (lastN (ps.take k2) < x) = decide (lastN (ps.take k2) < x) := rfl
        have hRf : R = false := by rw [HR2.out, hch2, hok, hlx]; rfl
        have HRf := Lib.hid hRf
        clear hRf hok hlx hch2 hch hXl hc hkl hlast
        go_wp2_with fail
        go_ret
        exact ⟨by rw [HRf.out]; rfl, HB3.out⟩
      obtain rfl : k2 = NP := by omega
      have hCt : C = true := by rw [hch.out, List.drop_eq_nil_of_le (by have := HNP.out; omega)]; rfl
      have hR3 := HR2.out
      rw [hCt, Bool.true_and] at hR3
      have HR3 := Lib.hid hR3
      clear hCt hR3 hch
      have a1 := HBA3.out.cell 1
      have a2 := HBA3.out.cell 2
      have a3 := HBA3.out.cell 3
      have p0 := HBP3.out.cell 0
      have p1 := HBP3.out.cell 1
      have p2 := HBP3.out.cell 2
      have p3 := HBP3.out.cell 3
      simp at a1 a2 a3 p0 p1 p2 p3
      by_cases h64 : k ≤ 64
      case neg =>
        have q1 : ¬ (k : Int) ≤ 64 := by omega
        have hRf : R = false := by rw [HR3.out, decide_eq_false h64, Bool.false_and]
        have HRf := Lib.hid hRf
        clear hRf h64
        go_wp2_with fail
        go_ret
        exact ⟨by rw [HRf.out]; rfl, HB3.out⟩
      have q1 : (k : Int) ≤ 64 := by omega
      have hR4 := HR3.out
      rw [decide_eq_true h64, Bool.true_and] at hR4
      obtain ⟨S1, hS1⟩ : ∃ s, s = maySels p src := ⟨_, rfl⟩
      obtain ⟨S2, hS2⟩ : ∃ s, s = maySels p dst := ⟨_, rfl⟩
      rw [← hS1, ← hS2] at hR4
      rw [← hS1] at HMs
      rw [← hS2] at HMd
      have HR4 := Lib.hid hR4
      clear hR4 hS1 hS2 h64
      cases S1 with
      | false =>
        have HMs' : RowKit.Hid (Calls Tryz.prog 112 #[.agg #[.slice Ag p.groups.length cg, .slice At p.tags.length ct, .slice Ah p.hosts.length ch, .slice Aa p.acls.length ca], .slice As src.length cs] wr (Got (.bool false) wr)) := Lib.hid (HMs.out _ HB3.out)
        clear HMs
        go_wp2_with (go_at_call 112; (with_reducible refine HMs'.out.mono ?_); rintro r w5 ⟨rfl, d5⟩)
        go_ret
        exact ⟨by rw [HR4.out]; rfl, after HB3.out d5⟩
      | true =>
        have HMs' : RowKit.Hid (Calls Tryz.prog 112 #[.agg #[.slice Ag p.groups.length cg, .slice At p.tags.length ct, .slice Ah p.hosts.length ch, .slice Aa p.acls.length ca], .slice As src.length cs] wr (Got (.bool true) wr)) := Lib.hid (HMs.out _ HB3.out)
        clear HMs
        go_wp2_with (first
          | (go_at_call 112; (with_reducible refine HMs'.out.mono ?_); rintro r w5 ⟨rfl, d5⟩; have HB5 := after HB3.out d5; have HBA5 := HBA3.out.below d5 HBA3.out.lt; have HBP5 := HBP3.out.below d5 HBP3.out.lt; have a2 := HBA5.cell 2; have p0 := HBP5.cell 0; have p1 := HBP5.cell 1; have p2 := HBP5.cell 2; have p3 := HBP5.cell 3; simp at a2 p0 p1 p2 p3)
          | (go_at_call 112; (with_reducible refine (HMd.out _ HB5).mono ?_); rintro r w6 ⟨rfl, d6⟩))
        go_ret
        exact ⟨by rw [HR4.out]; rfl, after HB5 d6⟩
end Go.Proofs.YthglckoikjfjkaaGreatDoor

/- May a policy be? (may): the walk. -/
namespace Go.Proofs.YthglckoikjfjkaaGreatDoor
open Go.RowKit
attribute [local go_sem ↓] Go.wp_at_zero Go.wp_at_succ

structure PoFit (p : Po) : Prop where
  g : ∀ n ∈ p.groups, NmFit n
  t : ∀ n ∈ p.tags, NmFit n
  h : ∀ x ∈ p.hosts, x.name.size ≤ 2000000 ∧ x.net.Ok
  a : ∀ x ∈ p.acls, AcFit x
  gl : p.groups.length ≤ 2000000
  tl : p.tags.length ≤ 2000000
  hl : p.hosts.length ≤ 2000000
  al : p.acls.length ≤ 2000000
def okHs (x : Hs) : Bool := labelB x.name && pmay x.net
theorem mayP_eq (p : Po) : mayP p = (mayNm p.groups && (mayNm p.tags && (decide (p.hosts.length ≤ 64) && (decide (p.acls.length ≤ 64) && (p.hosts.all okHs && (p.acls.all (mayAc p) && distinct (p.hosts.map (·.name)))))))) := by
  show (mayNm p.groups && mayNm p.tags && decide (p.hosts.length ≤ 64) && decide (p.acls.length ≤ 64) && p.hosts.all okHs && p.acls.all (mayAc p) && distinct (p.hosts.map (·.name))) = _
  simp only [Bool.and_assoc]
theorem acCells_at : ∀ (l : List AcV) (k : Nat) (x : AcV), l[k]? = some x → (acCells l)[k * 4]? = some x.p ∧ (acCells l)[k * 4 + 1]? = some x.s ∧ (acCells l)[k * 4 + 2]? = some x.d ∧ (acCells l)[k * 4 + 3]? = some x.o := by
  intro l
  induction l with
  | nil => intro k x h; cases h
  | cons y r ih =>
    intro k x h
    cases k with
    | zero => injection h with h; subst h; exact ⟨rfl, rfl, rfl, rfl⟩
    | succ k =>
      rw [show (k + 1) * 4 = k * 4 + 1 + 1 + 1 + 1 by omega]
      exact ih k x h

set_option maxHeartbeats 16000000 in
set_option maxRecDepth 100000 in
theorem may_any {w : World} (env : Env w) {V : PoV} {p : Po} (h : PoRd w V p) (hf : PoFit p) :
    Calls Tryz.prog 59 #[.agg #[V.g, V.t, V.h, V.a]] w (Got (.bool (mayP p)) w) := by
  obtain ⟨R, hR⟩ : ∃ r, r = mayP p := ⟨_, rfl⟩
  rw [← hR]
  rw [mayP_eq] at hR
  have hmg := fun (u : World) (hu : Below w.heap.size w u) => mayNamed_any p.groups (h.g.below hu) hf.gl hf.g
  have hmt := fun (u : World) (hu : Below w.heap.size w u) => mayNamed_any p.tags (h.t.below hu) hf.tl hf.t
  have hma := fun (u : World) (hu : Below w.heap.size w u) (X : AcV) (hx : AcRdM u X) (hX : X.a ∈ p.acls) => mayAcl_any (env.below hu) (h.below hu) hf.gl hf.tl hf.hl X hx (hf.a _ hX)
  obtain ⟨Ag, cg, eg⟩ := h.g.shape
  obtain ⟨At, ct, et⟩ := h.t.shape
  obtain ⟨Ah, ch, eh⟩ := h.h.shape
  obtain ⟨Aa, ca, ea⟩ := h.a.shape
  have hrh := h.h
  obtain ⟨xs, hxs, hra, hin⟩ := h.a
  obtain ⟨gv, tv, hv, av⟩ := V
  simp only at eg et eh ea hrh hra hmg hmt hma ⊢
  subst eg et eh ea
  obtain ⟨NH, hNH⟩ : ∃ n, n = p.hosts.length := ⟨_, rfl⟩
  obtain ⟨NA, hNA⟩ : ∃ n, n = p.acls.length := ⟨_, rfl⟩
  have hhl := hf.hl
  have hal := hf.al
  rw [← hNH] at hrh hR hhl hma ⊢
  rw [← hNA] at hra hR hal hma ⊢
  have BP := Blk.new w 26 #[.slice Ag p.groups.length cg, .slice At p.tags.length ct, .slice Ah NH ch, .slice Aa NA ca]
  have b1 := boxed w (.cells #[.slice Ag p.groups.length cg, .slice At p.tags.length ct, .slice Ah NH ch, .slice Aa NA ca] 26)
  obtain ⟨i0, hi, hz0, hz1, hz2⟩ := info_parts info_str
  have HBP := Lib.hid BP
  have HB := Lib.hid b1
  have HMg := Lib.hid hmg
  have HMt := Lib.hid hmt
  have HMa := Lib.hid hma
  have HRh := Lib.hid hrh
  have HRa := Lib.hid hra
  have HIn := Lib.hid hin
  have HXs := Lib.hid hxs
  have HF := Lib.hid hf
  have HNH := Lib.hid hNH
  have HNA := Lib.hid hNA
  have HR := Lib.hid hR
  clear h hmg hmt hma hrh hra hin hxs hf hNH hNA hR BP b1 env
  go_enter Tryz.func59, Tryz.ntmps59
  go_upto_region 1 with fail
  generalize w.alloc (.cells #[.slice Ag p.groups.length cg, .slice At p.tags.length ct, .slice Ah NH ch, .slice Aa NA ca] 26) = w1 at HBP HB ⊢
  obtain ⟨QP, hQP⟩ : ∃ q, q = w.heap.size := ⟨_, rfl⟩
  rw [← hQP] at HBP ⊢
  clear hQP
  have p0 := HBP.out.cell 0
  have p1 := HBP.out.cell 1
  have p2 := HBP.out.cell 2
  have p3 := HBP.out.cell 3
  simp at p0 p1 p2 p3
  obtain ⟨G, hG⟩ : ∃ s, s = mayNm p.groups := ⟨_, rfl⟩
  obtain ⟨T, hT⟩ : ∃ s, s = mayNm p.tags := ⟨_, rfl⟩
  have hR1 := HR.out
  rw [← hG, ← hT] at hR1
  rw [← hG] at HMg
  rw [← hT] at HMt
  have HR1 := Lib.hid hR1
  clear hR1 HR hG hT
  have HMg' := Lib.hid (HMg.out _ HB.out)
  clear HMg
  cases G with
  | false =>
    go_wp2_with (go_at_call 92; (with_reducible refine HMg'.out.mono ?_); rintro r w2 ⟨rfl, d2⟩)
    go_ret
    exact ⟨by rw [HR1.out]; rfl, after HB.out d2⟩
  | true =>
  cases T with
  | false =>
    go_wp2_with (first
      | (go_at_call 92; (with_reducible refine HMg'.out.mono ?_); rintro r w2 ⟨rfl, d2⟩; have HB2 := after HB.out d2; have Q2 := HBP.out.below d2 HBP.out.lt; have p1 := Q2.cell 1; simp at p1)
      | (go_at_call 92; (with_reducible refine (HMt.out _ HB2).mono ?_); rintro r w3 ⟨rfl, d3⟩))
    go_ret
    exact ⟨by rw [HR1.out]; rfl, after HB2 d3⟩
  | true =>
  have hR2 := HR1.out
  rw [Bool.true_and, Bool.true_and] at hR2
  by_cases h64 : NH ≤ 64
  case neg =>
    have q1 : (64 : Int) < (NH : Int) := by omega
    have hRf : R = false := by rw [hR2, decide_eq_false h64, Bool.false_and]
    have HRf := Lib.hid hRf
    clear hRf h64 hR2
    go_wp2_with (first
      | (go_at_call 92; (with_reducible refine HMg'.out.mono ?_); rintro r w2 ⟨rfl, d2⟩; have HB2 := after HB.out d2; have Q2 := HBP.out.below d2 HBP.out.lt; have p1 := Q2.cell 1; simp at p1)
      | (go_at_call 92; (with_reducible refine (HMt.out _ HB2).mono ?_); rintro r w3 ⟨rfl, d3⟩; have HB3 := after HB2 d3; have Q3 := Q2.below d3 Q2.lt; have p2 := Q3.cell 2; simp at p2))
    go_ret
    exact ⟨by rw [HRf.out]; rfl, HB3⟩
  have q1 : ¬ (64 : Int) < (NH : Int) := by omega
  rw [decide_eq_true h64, Bool.true_and] at hR2
  by_cases ha64 : NA ≤ 64
  case neg =>
    have q2 : (64 : Int) < (NA : Int) := by omega
    have hRf : R = false := by rw [hR2, decide_eq_false ha64, Bool.false_and]
    have HRf := Lib.hid hRf
    clear hRf ha64 h64 hR2
    go_wp2_with (first
      | (go_at_call 92; (with_reducible refine HMg'.out.mono ?_); rintro r w2 ⟨rfl, d2⟩; have HB2 := after HB.out d2; have Q2 := HBP.out.below d2 HBP.out.lt; have p1 := Q2.cell 1; simp at p1)
      | (go_at_call 92; (with_reducible refine (HMt.out _ HB2).mono ?_); rintro r w3 ⟨rfl, d3⟩; have HB3 := after HB2 d3; have Q3 := Q2.below d3 Q2.lt; have p2 := Q3.cell 2; have p3 := Q3.cell 3; simp at p2 p3))
    go_ret
    exact ⟨by rw [HRf.out]; rfl, HB3⟩
  have q2 : ¬ (64 : Int) < (NA : Int) := by omega
  rw [decide_eq_true ha64, Bool.true_and] at hR2
  have HR2 := Lib.hid hR2
  clear hR2 HR1
  go_upto_region 3 with (first
    | (go_at_call 92; (with_reducible refine HMg'.out.mono ?_); rintro r w2 ⟨rfl, d2⟩; have HB2 := after HB.out d2; have Q2 := HBP.out.below d2 HBP.out.lt; have p1 := Q2.cell 1; simp at p1)
    | (go_at_call 92; (with_reducible refine (HMt.out _ HB2).mono ?_); rintro r w3 ⟨rfl, d3⟩; have HB3 := Lib.hid (after HB2 d3); have Q3 := Lib.hid (Q2.below d3 Q2.lt); have p2 := Q3.out.cell 2; have p3 := Q3.out.cell 3; simp at p2 p3))
  clear d2 d3 HB2 Q2 HBP HB p0 p1 HMg' HMt
  have p2 := Q3.out.cell 2
  simp at p2
  go_wp2_with fail
  go_loopw [3, 33] (fun v3 v33 wr => ∃ (k : Nat) (T : Option Addr) (ct : Nat), k ≤ NH ∧ v33 = .int .i64 (k : Int) ∧ v3 = .slice T k ct ∧ RowKit.Hid (wr.ownsRow w3.heap.size 9 1 (.slice T k ct) k (strCells ((p.hosts.take k).map (·.name)))) ∧ RowKit.Hid (Below w3.heap.size w3 wr) ∧ RowKit.Hid ((p.hosts.take k).all okHs = true)) (fun _ v33 _ => NH - (intOf v33).toNat)
  case atStart => exact ⟨0, none, 0, Nat.zero_le _, rfl, rfl, Lib.hid (World.ownsRow_nil _ _ _ _), Lib.hid (Below.refl _ _), Lib.hid rfl⟩
  case round =>
    obtain ⟨k, T, ct, hk, rfl, rfl, hown, hb, hall⟩ := hrel
    by_cases hlt : k < NH
    · have hkl : k < p.hosts.length := by have := HNH.out; omega
      obtain ⟨q, o, rfl, hc⟩ := HRh.out.cell (HB3.out.trans (hb.out.mono HB3.out.size)) (by omega)
      have hXl : p.hosts[k]? = some p.hosts[k] := List.getElem?_eq_getElem hkl
      have htk := List.take_succ_eq_append_getElem hkl
      have hXf := HF.out.h _ (List.getElem_mem hkl)
      generalize p.hosts[k] = X at hXl htk hXf
      obtain ⟨e0, e1, e2, e3, e4⟩ := hsCells_at p.hosts k X hXl
      have d0 := hc _ _ e0
      have d1 := hc _ _ e1
      have d2 := hc _ _ e2
      have d3 := hc _ _ e3
      have d4 := hc _ _ e4
      rw [← Nat.add_assoc] at d1 d2 d3 d4
      have hla := fun u => label_any X.name (by have := hXf.1; omega) u
      have hmp := fun u => mayPrefix_any X.net hXf.2 u
      have hok : okHs X = (labelB X.name && pmay X.net) := rfl
      obtain ⟨x1, ⟨⟨x2, x3, x4⟩, x5⟩⟩ := X
      unfold Pf.cells at hmp
      simp only at d0 d1 d2 d3 d4 hla hmp hok
      generalize labelB x1 = LB at hla hok
      generalize pmay ⟨⟨x2, x3, x4⟩, x5⟩ = MP at hmp hok
      have HLa := Lib.hid hla
      have HMp := Lib.hid hmp
      have HOk := Lib.hid hok
      have HTk := Lib.hid htk
      have HXl := Lib.hid hXl
      clear htk hXl hXf e0 e1 e2 e3 e4 hc hla hmp hok
      obtain ⟨wo, rfl⟩ : ∃ wo : World, wo = wr := ⟨_, rfl⟩
      go_upto_region 7 with fail
      have M1 := Lib.hid (Blk.new wo 127 #[.string x1, .bool x2, .int .u64 (x3 : Int), .int .u64 (x4 : Int), .int .u8 (x5 : Int)])
      have q1' := boxed wo (.cells #[.string x1, .bool x2, .int .u64 (x3 : Int), .int .u64 (x4 : Int), .int .u8 (x5 : Int)] 127)
      have OW1 := Lib.hid (own_below hown.out q1')
      have BB1 := Lib.hid (after hb.out q1')
      generalize wo.alloc (.cells #[.string x1, .bool x2, .int .u64 (x3 : Int), .int .u64 (x4 : Int), .int .u8 (x5 : Int)] 127) = w4 at M1 q1' OW1 BB1 ⊢
      generalize wo.heap.size = M at M1 ⊢
      clear q1' hown hb d0 d1 d2 d3 d4
      have m0 := M1.out.cell 0
      simp at m0
      have hwb := BB1.out.size
      go_upto_region 8 with (at_builtin; refine wpList_append_own _ rfl _ _ 50 rfl w3.heap.size 9 i0 (.string ByteArray.empty) 1 16 Tryz.underlying50 hi hz0 hz1 hz2 rfl (by decide) _ k _ rfl (OW1.out.alloc _) ⟨w4.heap.size, 0, none⟩ 1 1 [.string x1] rfl rfl (cell_one_new _ _ _) (fun x hx => by simp at hx; subst hx; rfl) (by unfold maxLen; omega) (by omega) (by simp; omega) ?_; intro v' w5 hown' hgrow hnil; have Ho5 := Lib.hid hown'; have Hg5 := Lib.hid hgrow; clear hown' hgrow hnil)
      obtain ⟨T2, ct2, rfl⟩ := own_shape Ho5.out
      have M5 := Lib.hid ((M1.out.alloc (.cells #[.string x1] 9)).off (Keeps.row Hg5.out) (ownOff (OW1.out.alloc _)) (by decide))
      have BB5 := Lib.hid ((BB1.out.alloc BB1.out.size (.cells #[.string x1] 9)).grown Hg5.out (by have := BB1.out.size; simp; omega) (fun q hq => (OW1.out.lt q hq).1))
      clear M1 OW1 BB1 Hg5 m0 hwb
      have n0 := M5.out.cell 0
      simp at n0
      have HLa' := Lib.hid (HLa.out w5)
      clear HLa
      cases LB with
      | false =>
        have hRf : R = false := by rw [HR2.out, all_false HXl.out (by rw [HOk.out]; rfl), Bool.false_and]
        have HRf := Lib.hid hRf
        clear hRf
        go_wp2_with (go_at_call 93; (with_reducible refine HLa'.out.mono ?_); rintro r w6 ⟨rfl, d6⟩)
        go_ret
        exact ⟨by rw [HRf.out]; rfl, HB3.out.trans ((after BB5.out d6).mono HB3.out.size)⟩
      | true =>
      cases MP with
      | false =>
        have hRf : R = false := by rw [HR2.out, all_false HXl.out (by rw [HOk.out]; rfl), Bool.false_and]
        have HRf := Lib.hid hRf
        clear hRf
        go_wp2_with (first
          | (go_at_call 93; (with_reducible refine HLa'.out.mono ?_); rintro r w6 ⟨rfl, d6⟩; have M6 := M5.out.below d6 M5.out.lt; have n1 := M6.cell 1; have n2 := M6.cell 2; have n3 := M6.cell 3; have n4 := M6.cell 4; simp at n1 n2 n3 n4)
          | (go_at_call 94; (with_reducible refine (HMp.out _).mono ?_); rintro r w7 ⟨rfl, d7⟩))
        go_ret
        exact ⟨by rw [HRf.out]; rfl, HB3.out.trans ((after (after BB5.out d6) d7).mono HB3.out.size)⟩
      | true =>
        have hall3 : (p.hosts.take (k + 1)).all okHs = true := by rw [HTk.out, List.all_append, hall.out, List.all_cons, HOk.out]; rfl
        have Hall3 := Lib.hid hall3
        have hst : strCells ((p.hosts.take (k + 1)).map (·.name)) = strCells ((p.hosts.take k).map (·.name)) ++ [.string x1] := by rw [HTk.out, List.map_append]; simp [strCells]
        have HSt := Lib.hid hst
        clear hall3 hst
        go_wp2_with (first
          | (go_at_call 93; (with_reducible refine HLa'.out.mono ?_); rintro r w6 ⟨rfl, d6⟩; have M6 := M5.out.below d6 M5.out.lt; have n1 := M6.cell 1; have n2 := M6.cell 2; have n3 := M6.cell 3; have n4 := M6.cell 4; simp at n1 n2 n3 n4)
          | (go_at_call 94; (with_reducible refine (HMp.out _).mono ?_); rintro r w7 ⟨rfl, d7⟩))
        go_roundw
        case rel => exact ⟨k + 1, _, _, by omega, by go_num, rfl, Lib.hid (by rw [HSt.out]; exact own_below (own_below Ho5.out d6) d7), Lib.hid (after (after BB5.out d6) d7), Hall3⟩
        case measure => simp [intOf]; omega
    obtain rfl : k = NH := by omega
    have hha : p.hosts.all okHs = true := by
      have := hall.out
      rwa [List.take_of_length_le (by have := HNH.out; omega)] at this
    have hR3 := HR2.out
    rw [hha, Bool.true_and] at hR3
    have HR3 := Lib.hid hR3
    have hto := hown.out
    rw [List.take_of_length_le (by have := HNH.out; omega)] at hto
    have HTo := Lib.hid hto
    obtain ⟨wo, rfl⟩ : ∃ wo : World, wo = wr := ⟨_, rfl⟩
    have HBo := Lib.hid (HB3.out.trans (hb.out.mono HB3.out.size))
    have Qo := Lib.hid (Q3.out.below hb.out Q3.out.lt)
    clear p2 hha hR3 hto hown hall hb
    have p3 := Qo.out.cell 3
    simp at p3
    go_wp2_with fail
    go_loopw [56] (fun v56 wr2 => ∃ k2 : Nat, k2 ≤ NA ∧ v56 = .int .i64 (k2 : Int) ∧ RowKit.Hid (Below wo.heap.size wo wr2) ∧ RowKit.Hid ((p.acls.take k2).all (mayAc p) = true)) (fun v56 _ => NA - (intOf v56).toNat)
    case atStart => exact ⟨0, Nat.zero_le _, rfl, Lib.hid (Below.refl _ _), Lib.hid rfl⟩
    case round =>
      obtain ⟨k2, hk2, rfl, hb2, hall2⟩ := hrel
      have HB4 := Lib.hid (HBo.out.trans (hb2.out.mono HBo.out.size))
      have Q4 := Lib.hid (Qo.out.below hb2.out Qo.out.lt)
      by_cases hlt2 : k2 < NA
      · have hkl : k2 < p.acls.length := by have := HNA.out; omega
        obtain ⟨q, o, rfl, hc⟩ := HRa.out.cell HB4.out (by omega)
        have hlen := congrArg List.length HXs.out
        rw [List.length_map] at hlen
        obtain ⟨X, hX⟩ : ∃ X, xs[k2]? = some X := ⟨_, List.getElem?_eq_getElem (by omega)⟩
        have hXl : p.acls[k2]? = some X.a := by rw [← HXs.out, List.getElem?_map, hX]; rfl
        have htk := List.take_succ_eq_append_getElem hkl
        rw [(List.getElem?_eq_some_iff.1 hXl).2] at htk
        obtain ⟨e0, e1, e2, e3⟩ := acCells_at xs k2 X hX
        have d0 := hc _ _ e0
        have d1 := hc _ _ e1
        have d2 := hc _ _ e2
        have d3 := hc _ _ e3
        rw [← Nat.add_assoc] at d1 d2 d3
        have hxm := HIn.out X (List.mem_of_getElem? hX)
        have hxa : X.a ∈ p.acls := List.mem_of_getElem? hXl
        obtain ⟨A1, c1, f1⟩ := hxm.p.shape
        obtain ⟨A2, c2, f2⟩ := hxm.s.shape
        obtain ⟨A3, c3, f3⟩ := hxm.d.shape
        obtain ⟨A4, c4, f4⟩ := hxm.o.shape
        have hcall := fun u (hu : Below w.heap.size w u) => HMa.out u hu X (hxm.below hu) hxa
        obtain ⟨a, pv, sv, dv, ov⟩ := X
        simp only at d0 d1 d2 d3 f1 f2 f3 f4 hcall hXl htk
        generalize a.protos.length = l1 at f1
        generalize a.src.length = l2 at f2
        generalize a.dst.length = l3 at f3
        generalize a.ports.length = l4 at f4
        subst f1 f2 f3 f4
        have HCall := Lib.hid hcall
        have HTk := Lib.hid htk
        have HXl := Lib.hid hXl
        clear hcall htk hXl e0 e1 e2 e3 hc hX hxm hxa hlen
        go_upto_region 14 with fail
        have M1 := Lib.hid (Blk.new wr 61 #[.slice A1 l1 c1, .slice A2 l2 c2, .slice A3 l3 c3, .slice A4 l4 c4])
        have q1' := boxed wr (.cells #[.slice A1 l1 c1, .slice A2 l2 c2, .slice A3 l3 c3, .slice A4 l4 c4] 61)
        have HB5 := Lib.hid (after HB4.out q1')
        have HO5 := Lib.hid (after hb2.out q1')
        have Q5 := Lib.hid (Q4.out.below q1' Q4.out.lt)
        generalize wr.alloc (.cells #[.slice A1 l1 c1, .slice A2 l2 c2, .slice A3 l3 c3, .slice A4 l4 c4] 61) = w6 at M1 q1' HB5 HO5 Q5 ⊢
        generalize wr.heap.size = M at M1 ⊢
        clear q1' hb2 d0 d1 d2 d3 HB4 Q4
        have m0 := M1.out.cell 0
        have m1 := M1.out.cell 1
        have m2 := M1.out.cell 2
        have m3 := M1.out.cell 3
        have p0 := Q5.out.cell 0
        have p1 := Q5.out.cell 1
        have p2 := Q5.out.cell 2
        have p3 := Q5.out.cell 3
        simp at m0 m1 m2 m3 p0 p1 p2 p3
        have HC := Lib.hid (HCall.out _ HB5.out)
        clear HCall
        by_cases hma : mayAc p a = true
        · rw [hma] at HC
          have hall3 : (p.acls.take (k2 + 1)).all (mayAc p) = true := by rw [HTk.out, List.all_append, hall2.out, List.all_cons, hma]; rfl
          have Hall3 := Lib.hid hall3
          clear hall3 hma
          go_wp2_with (go_at_call 95; (with_reducible refine HC.out.mono ?_); rintro r w7 ⟨rfl, d7⟩)
          go_roundw
          case rel => exact ⟨k2 + 1, by omega, by go_num, Lib.hid (after HO5.out d7), Hall3⟩
          case measure => simp [intOf]; omega
        · have hmf : mayAc p a = false := by simpa using hma
          rw [hmf] at HC
          have hRf : R = false := by rw [HR3.out, all_false HXl.out hmf, Bool.false_and]
          have HRf := Lib.hid hRf
          clear hRf hma hmf
          go_wp2_with (go_at_call 95; (with_reducible refine HC.out.mono ?_); rintro r w7 ⟨rfl, d7⟩)
          go_ret
          exact ⟨by rw [HRf.out]; rfl, after HB5.out d7⟩
      obtain rfl : k2 = NA := by omega
      have haa : p.acls.all (mayAc p) = true := by
        have := hall2.out
        rwa [List.take_of_length_le (by have := HNA.out; omega)] at this
      have hR4 := HR3.out
      rw [haa, Bool.true_and] at hR4
      have hml : (p.hosts.map (·.name)).length = k := by rw [List.length_map]; exact HNH.out.symm
      have htw := twice_any (w := wr) (v := .slice T k ct) (p.hosts.map (·.name)) (by omega) (RowR.of_own' (own_below HTo.out hb2.out) hml)
      rw [← hR4] at htw
      have HTw := Lib.hid htw
      clear htw hR4 haa hml
      cases R with
      | true =>
        have HTw' : RowKit.Hid (Calls Tryz.prog 96 #[.slice T k ct] wr (Got (.bool false) wr)) := HTw
        clear HTw
        go_wp2_with (go_at_call 96; (with_reducible refine HTw'.out.mono ?_); rintro r w8 ⟨rfl, d8⟩)
        go_ret
        exact ⟨rfl, after HB4.out d8⟩
      | false =>
        have HTw' : RowKit.Hid (Calls Tryz.prog 96 #[.slice T k ct] wr (Got (.bool true) wr)) := HTw
        clear HTw
        go_wp2_with (go_at_call 96; (with_reducible refine HTw'.out.mono ?_); rintro r w8 ⟨rfl, d8⟩)
        go_ret
        exact ⟨rfl, after HB4.out d8⟩
end Go.Proofs.YthglckoikjfjkaaGreatDoor
