/- Joined out of: PwP. -/
import Derived.Test.YtbiglifngfgffaaGreatDoorLaa
import Derived.Test.YtbiglifngfgffaaGreatDoorLat
set_option linter.unusedVariables false
set_option linter.unusedSimpArgs false

/- Two policies that are alike (Same): the walk, where they are. -/
namespace Go.Proofs.YtbiglifngfgffaaGreatDoor
open Go.RowKit
attribute [local go_sem ↓] Go.wp_at_zero Go.wp_at_succ

theorem below_cell {w u : World} {g o : Nat} {v : Value} (h : w.cell? ⟨g, o, none⟩ = some v) (hb : Below w.heap.size w u) : u.cell? ⟨g, o, none⟩ = some v := (hb.cell (World.block_lt_of_cell? w _ h)).trans h
set_option maxHeartbeats 16000000 in
set_option maxRecDepth 100000 in
theorem same_any {w : World} (p : Po) {V V' : PoV} (h : PoRd w V p) (h' : PoRd w V' p) (hf : PoFit p) :
    Calls Tryz.prog 12 #[.agg #[V.g, V.t, V.h, V.a], .agg #[V'.g, V'.t, V'.h, V'.a]] w (Got (.bool true) w) := by
  obtain ⟨xg, hxg, h1, i1⟩ := h.g
  obtain ⟨xt, hxt, h2, i2⟩ := h.t
  have h3 := h.h
  obtain ⟨xa, hxa, h4, i4⟩ := h.a
  obtain ⟨yg, hyg, k1, j1⟩ := h'.g
  obtain ⟨yt, hyt, k2, j2⟩ := h'.t
  have k3 := h'.h
  obtain ⟨ya, hya, k4, j4⟩ := h'.a
  obtain ⟨Ag, cg, eg⟩ := h1.shape
  obtain ⟨At, ct, et⟩ := h2.shape
  obtain ⟨Ah, ch, eh⟩ := h3.shape
  obtain ⟨Aa, ca, ea⟩ := h4.shape
  obtain ⟨Bg, dg, fg⟩ := k1.shape
  obtain ⟨Bt, dt, ft⟩ := k2.shape
  obtain ⟨Bh, dh, fh⟩ := k3.shape
  obtain ⟨Ba, da, fa⟩ := k4.shape
  rw [eg] at h1
  rw [et] at h2
  rw [eh] at h3
  rw [ea] at h4
  rw [fg] at k1
  rw [ft] at k2
  rw [fh] at k3
  rw [fa] at k4
  rw [eg, et, eh, ea, fg, ft, fh, fa]
  clear eg et eh ea fg ft fh fa h h'
  obtain ⟨NG, hNG⟩ : ∃ n, n = p.groups.length := ⟨_, rfl⟩
  obtain ⟨NT, hNT⟩ : ∃ n, n = p.tags.length := ⟨_, rfl⟩
  obtain ⟨NH, hNH⟩ : ∃ n, n = p.hosts.length := ⟨_, rfl⟩
  obtain ⟨NA, hNA⟩ : ∃ n, n = p.acls.length := ⟨_, rfl⟩
  have l1 := hf.gl
  have l2 := hf.tl
  have l3 := hf.hl
  have l4 := hf.al
  rw [← hNG] at h1 k1 l1 ⊢
  rw [← hNT] at h2 k2 l2 ⊢
  rw [← hNH] at h3 k3 l3 ⊢
  rw [← hNA] at h4 k4 l4 ⊢
  have H1 := Lib.hid h1
  have H2 := Lib.hid h2
  have H3 := Lib.hid h3
  have H4 := Lib.hid h4
  have K1 := Lib.hid k1
  have K2 := Lib.hid k2
  have K3 := Lib.hid k3
  have K4 := Lib.hid k4
  have I1 := Lib.hid i1
  have I2 := Lib.hid i2
  have I4 := Lib.hid i4
  have J1 := Lib.hid j1
  have J2 := Lib.hid j2
  have J4 := Lib.hid j4
  have HXg := Lib.hid hxg
  have HXt := Lib.hid hxt
  have HXa := Lib.hid hxa
  have HYg := Lib.hid hyg
  have HYt := Lib.hid hyt
  have HYa := Lib.hid hya
  have HNG := Lib.hid hNG
  have HNT := Lib.hid hNT
  have HNH := Lib.hid hNH
  have HNA := Lib.hid hNA
  have HFit := Lib.hid hf
  clear h1 h2 h3 h4 k1 k2 k3 k4 i1 i2 i4 j1 j2 j4 hxg hxt hxa hyg hyt hya hNG hNT hNH hNA hf
  go_enter Tryz.func12, Tryz.ntmps12
  go_upto_region 1 with fail
  have hP := (Blk.new w 26 #[.slice Ag NG cg, .slice At NT ct, .slice Ah NH ch, .slice Aa NA ca]).alloc (.cells #[.slice Bg NG dg, .slice Bt NT dt, .slice Bh NH dh, .slice Ba NA da] 26)
  have hF := Blk.new (w.alloc (.cells #[.slice Ag NG cg, .slice At NT ct, .slice Ah NH ch, .slice Aa NA ca] 26)) 26 #[.slice Bg NG dg, .slice Bt NT dt, .slice Bh NH dh, .slice Ba NA da]
  rw [show (w.alloc (.cells #[.slice Ag NG cg, .slice At NT ct, .slice Ah NH ch, .slice Aa NA ca] 26)).heap.size = w.heap.size + 1 by simp] at hF
  have hD := after (boxed w (.cells #[.slice Ag NG cg, .slice At NT ct, .slice Ah NH ch, .slice Aa NA ca] 26)) (boxed (w.alloc (.cells #[.slice Ag NG cg, .slice At NT ct, .slice Ah NH ch, .slice Aa NA ca] 26)) (.cells #[.slice Bg NG dg, .slice Bt NT dt, .slice Bh NH dh, .slice Ba NA da] 26))
  have HP := Lib.hid hP
  have HF := Lib.hid hF
  have HD := Lib.hid hD
  clear hP hF hD
  generalize (w.alloc (.cells #[.slice Ag NG cg, .slice At NT ct, .slice Ah NH ch, .slice Aa NA ca] 26)).alloc (.cells #[.slice Bg NG dg, .slice Bt NT dt, .slice Bh NH dh, .slice Ba NA da] 26) = w2 at HP HF HD ⊢
  obtain ⟨F, hF⟩ : ∃ F, F = w.heap.size + 1 := ⟨_, rfl⟩
  obtain ⟨P, hP⟩ : ∃ P, P = w.heap.size := ⟨_, rfl⟩
  rw [← hF] at HF ⊢
  rw [← hP] at HP ⊢
  clear hF hP
  have a0 := HP.out.cell 0
  have a1 := HP.out.cell 1
  have a2 := HP.out.cell 2
  have a3 := HP.out.cell 3
  have b0 := HF.out.cell 0
  have b1 := HF.out.cell 1
  have b2 := HF.out.cell 2
  have b3 := HF.out.cell 3
  simp at a0 a1 a2 a3 b0 b1 b2 b3
  go_wp2_with fail
  clear a0 a1 a2 a3 b0 b1 b2 b3
  go_loopw [5] (fun v wr => ∃ k : Nat, k ≤ NG ∧ v = .int .i64 (k : Int) ∧ RowKit.Hid (Below w.heap.size w wr) ∧ RowKit.Hid (Blk wr P 26 #[.slice Ag NG cg, .slice At NT ct, .slice Ah NH ch, .slice Aa NA ca]) ∧ RowKit.Hid (Blk wr F 26 #[.slice Bg NG dg, .slice Bt NT dt, .slice Bh NH dh, .slice Ba NA da])) (fun v _ => NG - (intOf v).toNat)
  case atStart => exact ⟨0, Nat.zero_le _, rfl, HD, HP, HF⟩
  case round =>
    clear HD HP HF
    obtain ⟨k, hk, rfl, HD, HP, HF⟩ := hrel
    have a1 := HP.out.cell 0
    have b1 := HF.out.cell 0
    simp at a1 b1
    by_cases hlt : k < NG
    case pos =>
      have hkl : k < p.groups.length := by have := HNG.out; omega
      obtain ⟨q, o, rfl, hc⟩ := H1.out.cell HD.out (by omega)
      obtain ⟨q', o', rfl, hc'⟩ := K1.out.cell HD.out (by omega)
      have hlx := congrArg List.length HXg.out
      have hly := congrArg List.length HYg.out
      rw [List.length_map] at hlx hly
      obtain ⟨X, hX⟩ : ∃ X, xg[k]? = some X := ⟨_, List.getElem?_eq_getElem (by omega)⟩
      obtain ⟨Y, hY⟩ : ∃ Y, yg[k]? = some Y := ⟨_, List.getElem?_eq_getElem (by omega)⟩
      have hXl : p.groups[k]? = some X.1 := by rw [← HXg.out, List.getElem?_map, hX]; rfl
      have hYl : p.groups[k]? = some Y.1 := by rw [← HYg.out, List.getElem?_map, hY]; rfl
      have hXY : Y.1 = X.1 := by rw [hXl] at hYl; injection hYl with hYl; exact hYl.symm
      have hcx := nmCells_at (xg.map nmPair) k (nmPair X) (by rw [List.getElem?_map, hX]; rfl)
      have hcy := nmCells_at (yg.map nmPair) k (nmPair Y) (by rw [List.getElem?_map, hY]; rfl)
      have d0 := hc _ _ hcx.1
      have d1 := hc _ _ hcx.2
      have f0 := hc' _ _ hcy.1
      have f1 := hc' _ _ hcy.2
      rw [← Nat.add_assoc] at d1 f1
      have rX := I1.out X (List.mem_of_getElem? hX)
      have rY := J1.out Y (List.mem_of_getElem? hY)
      have hXf := HFit.out.g X.1 (List.mem_of_getElem? hXl)
      obtain ⟨⟨nm, ls⟩, lv⟩ := X
      obtain ⟨Yn, lv'⟩ := Y
      simp only at hXY
      subst hXY
      unfold nmPair at d0 d1 f0 f1
      simp only at d0 d1 f0 f1 rX rY hXf
      have hcall := fun u (hu : Below w.heap.size w u) => sameNm_any ⟨nm, ls⟩ (rX.below hu) (rY.below hu) hXf.len
      obtain ⟨A2, c2, rfl⟩ := rX.shape
      obtain ⟨B2, e2, rfl⟩ := rY.shape
      simp only at hcall
      generalize ls.length = n2 at d1 f1 hcall
      have HC := Lib.hid hcall
      clear hc hc' hcx hcy hX hY hXl hYl rX rY hXf hlx hly hcall hkl
      go_upto_region 6 with fail
      refine wp_region_held_drew (S := (fun w' => w'.cell? ⟨P, 0, none⟩ = some (.slice (some ⟨q, o, none⟩) NG cg) ∧ w'.cell? ⟨F, 0, none⟩ = some (.slice (some ⟨q', o', none⟩) NG dg) ∧ w'.cell? ⟨q, o + k * 2, none⟩ = some (.string nm) ∧ w'.cell? ⟨q, o + k * 2 + 1, none⟩ = some (.slice A2 n2 c2) ∧ w'.cell? ⟨q', o' + k * 2, none⟩ = some (.string nm) ∧ w'.cell? ⟨q', o' + k * 2 + 1, none⟩ = some (.slice B2 n2 e2))) (by kernel_rfl) (⟨a1, b1, d0, d1, f0, f1⟩) (fun hHeld => ?_)
      refine tH 0 ?_
      try simp only [Act.put, List.setIfInBounds_toArray, List.set_cons_zero, List.set_cons_succ]
      refine tH 1 ?_
      try simp only [Act.put, List.setIfInBounds_toArray, List.set_cons_zero, List.set_cons_succ]
      refine tH 2 ?_
      try simp only [Act.put, List.setIfInBounds_toArray, List.set_cons_zero, List.set_cons_succ]
      refine tH 3 ?_
      try simp only [Act.put, List.setIfInBounds_toArray, List.set_cons_zero, List.set_cons_succ]
      refine tH 4 ?_
      try simp only [Act.put, List.setIfInBounds_toArray, List.set_cons_zero, List.set_cons_succ]
      refine tH 5 ?_
      try simp only [Act.put, List.setIfInBounds_toArray, List.set_cons_zero, List.set_cons_succ]
      refine tH 6 ?_
      try simp only [Act.put, List.setIfInBounds_toArray, List.set_cons_zero, List.set_cons_succ]
      refine tH 7 ?_
      try simp only [Act.put, List.setIfInBounds_toArray, List.set_cons_zero, List.set_cons_succ]
      refine tH 8 ?_
      try simp only [Act.put, List.setIfInBounds_toArray, List.set_cons_zero, List.set_cons_succ]
      refine tH 9 ?_
      try simp only [Act.put, List.setIfInBounds_toArray, List.set_cons_zero, List.set_cons_succ]
      refine wpAnyH_ready (rs := [10]) (by kernel_rfl) (by simp) ?_
      refine AllReadyH.cons rfl (fun K hK => ?_) AllReadyH.nil
      go_simp
      refine (HC.out _ HD.out.drew).mono ?_
      rintro r wb ⟨rfl, db⟩
      have eb : Below wr.heap.size wr wb := ⟨db.os, db.tape, db.output, db.size, db.block⟩
      have HD2 := Lib.hid (after HD.out eb)
      have HP2 := Lib.hid (HP.out.below eb HP.out.lt)
      have HF2 := Lib.hid (HF.out.below eb HF.out.lt)
      clear db
      refine hK.out _ _ (⟨below_cell a1 eb, below_cell b1 eb, below_cell d0 eb, below_cell d1 eb, below_cell f0 eb, below_cell f1 eb⟩) (fun hHeld => ?_)
      clear hK K
      try simp only [Act.put, List.setIfInBounds_toArray, List.set_cons_zero, List.set_cons_succ]
      refine tH 11 ?_
      try simp only [Act.put, List.setIfInBounds_toArray, List.set_cons_zero, List.set_cons_succ]
      refine wpAnyH_done (by kernel_rfl) ?_ _
      go_wp2_with fail
      go_roundw
      case rel => exact ⟨k + 1, by omega, by go_num, HD2, HP2, HF2⟩
      case measure => simp [intOf]; omega
    obtain rfl : NG = k := by omega
    have a1 := HP.out.cell 1
    have b1 := HF.out.cell 1
    simp at a1 b1
    go_wp2_with fail
    clear a1 b1
    go_loopw [6] (fun v wr => ∃ k : Nat, k ≤ NT ∧ v = .int .i64 (k : Int) ∧ RowKit.Hid (Below w.heap.size w wr) ∧ RowKit.Hid (Blk wr P 26 #[.slice Ag NG cg, .slice At NT ct, .slice Ah NH ch, .slice Aa NA ca]) ∧ RowKit.Hid (Blk wr F 26 #[.slice Bg NG dg, .slice Bt NT dt, .slice Bh NH dh, .slice Ba NA da])) (fun v _ => NT - (intOf v).toNat)
    case atStart => exact ⟨0, Nat.zero_le _, rfl, HD, HP, HF⟩
    case round =>
      clear HD HP HF
      obtain ⟨k, hk, rfl, HD, HP, HF⟩ := hrel
      have a1 := HP.out.cell 1
      have b1 := HF.out.cell 1
      simp at a1 b1
      by_cases hlt : k < NT
      case pos =>
        have hkl : k < p.tags.length := by have := HNT.out; omega
        obtain ⟨q, o, rfl, hc⟩ := H2.out.cell HD.out (by omega)
        obtain ⟨q', o', rfl, hc'⟩ := K2.out.cell HD.out (by omega)
        have hlx := congrArg List.length HXt.out
        have hly := congrArg List.length HYt.out
        rw [List.length_map] at hlx hly
        obtain ⟨X, hX⟩ : ∃ X, xt[k]? = some X := ⟨_, List.getElem?_eq_getElem (by omega)⟩
        obtain ⟨Y, hY⟩ : ∃ Y, yt[k]? = some Y := ⟨_, List.getElem?_eq_getElem (by omega)⟩
        have hXl : p.tags[k]? = some X.1 := by rw [← HXt.out, List.getElem?_map, hX]; rfl
        have hYl : p.tags[k]? = some Y.1 := by rw [← HYt.out, List.getElem?_map, hY]; rfl
        have hXY : Y.1 = X.1 := by rw [hXl] at hYl; injection hYl with hYl; exact hYl.symm
        have hcx := nmCells_at (xt.map nmPair) k (nmPair X) (by rw [List.getElem?_map, hX]; rfl)
        have hcy := nmCells_at (yt.map nmPair) k (nmPair Y) (by rw [List.getElem?_map, hY]; rfl)
        have d0 := hc _ _ hcx.1
        have d1 := hc _ _ hcx.2
        have f0 := hc' _ _ hcy.1
        have f1 := hc' _ _ hcy.2
        rw [← Nat.add_assoc] at d1 f1
        have rX := I2.out X (List.mem_of_getElem? hX)
        have rY := J2.out Y (List.mem_of_getElem? hY)
        have hXf := HFit.out.t X.1 (List.mem_of_getElem? hXl)
        obtain ⟨⟨nm, ls⟩, lv⟩ := X
        obtain ⟨Yn, lv'⟩ := Y
        simp only at hXY
        subst hXY
        unfold nmPair at d0 d1 f0 f1
        simp only at d0 d1 f0 f1 rX rY hXf
        have hcall := fun u (hu : Below w.heap.size w u) => sameNm_any ⟨nm, ls⟩ (rX.below hu) (rY.below hu) hXf.len
        obtain ⟨A2, c2, rfl⟩ := rX.shape
        obtain ⟨B2, e2, rfl⟩ := rY.shape
        simp only at hcall
        generalize ls.length = n2 at d1 f1 hcall
        have HC := Lib.hid hcall
        clear hc hc' hcx hcy hX hY hXl hYl rX rY hXf hlx hly hcall hkl
        go_upto_region 11 with fail
        refine wp_region_held_drew (S := (fun w' => w'.cell? ⟨P, 1, none⟩ = some (.slice (some ⟨q, o, none⟩) NT ct) ∧ w'.cell? ⟨F, 1, none⟩ = some (.slice (some ⟨q', o', none⟩) NT dt) ∧ w'.cell? ⟨q, o + k * 2, none⟩ = some (.string nm) ∧ w'.cell? ⟨q, o + k * 2 + 1, none⟩ = some (.slice A2 n2 c2) ∧ w'.cell? ⟨q', o' + k * 2, none⟩ = some (.string nm) ∧ w'.cell? ⟨q', o' + k * 2 + 1, none⟩ = some (.slice B2 n2 e2))) (by kernel_rfl) (⟨a1, b1, d0, d1, f0, f1⟩) (fun hHeld => ?_)
        refine tH 0 ?_
        try simp only [Act.put, List.setIfInBounds_toArray, List.set_cons_zero, List.set_cons_succ]
        refine tH 1 ?_
        try simp only [Act.put, List.setIfInBounds_toArray, List.set_cons_zero, List.set_cons_succ]
        refine tH 2 ?_
        try simp only [Act.put, List.setIfInBounds_toArray, List.set_cons_zero, List.set_cons_succ]
        refine tH 3 ?_
        try simp only [Act.put, List.setIfInBounds_toArray, List.set_cons_zero, List.set_cons_succ]
        refine tH 4 ?_
        try simp only [Act.put, List.setIfInBounds_toArray, List.set_cons_zero, List.set_cons_succ]
        refine tH 5 ?_
        try simp only [Act.put, List.setIfInBounds_toArray, List.set_cons_zero, List.set_cons_succ]
        refine tH 6 ?_
        try simp only [Act.put, List.setIfInBounds_toArray, List.set_cons_zero, List.set_cons_succ]
        refine tH 7 ?_
        try simp only [Act.put, List.setIfInBounds_toArray, List.set_cons_zero, List.set_cons_succ]
        refine tH 8 ?_
        try simp only [Act.put, List.setIfInBounds_toArray, List.set_cons_zero, List.set_cons_succ]
        refine tH 9 ?_
        try simp only [Act.put, List.setIfInBounds_toArray, List.set_cons_zero, List.set_cons_succ]
        refine wpAnyH_ready (rs := [10]) (by kernel_rfl) (by simp) ?_
        refine AllReadyH.cons rfl (fun K hK => ?_) AllReadyH.nil
        go_simp
        refine (HC.out _ HD.out.drew).mono ?_
        rintro r wb ⟨rfl, db⟩
        have eb : Below wr.heap.size wr wb := ⟨db.os, db.tape, db.output, db.size, db.block⟩
        have HD2 := Lib.hid (after HD.out eb)
        have HP2 := Lib.hid (HP.out.below eb HP.out.lt)
        have HF2 := Lib.hid (HF.out.below eb HF.out.lt)
        clear db
        refine hK.out _ _ (⟨below_cell a1 eb, below_cell b1 eb, below_cell d0 eb, below_cell d1 eb, below_cell f0 eb, below_cell f1 eb⟩) (fun hHeld => ?_)
        clear hK K
        try simp only [Act.put, List.setIfInBounds_toArray, List.set_cons_zero, List.set_cons_succ]
        refine tH 11 ?_
        try simp only [Act.put, List.setIfInBounds_toArray, List.set_cons_zero, List.set_cons_succ]
        refine wpAnyH_done (by kernel_rfl) ?_ _
        go_wp2_with fail
        go_roundw
        case rel => exact ⟨k + 1, by omega, by go_num, HD2, HP2, HF2⟩
        case measure => simp [intOf]; omega
      obtain rfl : NT = k := by omega
      have a1 := HP.out.cell 2
      have b1 := HF.out.cell 2
      simp at a1 b1
      go_wp2_with fail
      clear a1 b1
      go_loopw [7] (fun v wr => ∃ k : Nat, k ≤ NH ∧ v = .int .i64 (k : Int) ∧ RowKit.Hid (Below w.heap.size w wr) ∧ RowKit.Hid (Blk wr P 26 #[.slice Ag NG cg, .slice At NT ct, .slice Ah NH ch, .slice Aa NA ca]) ∧ RowKit.Hid (Blk wr F 26 #[.slice Bg NG dg, .slice Bt NT dt, .slice Bh NH dh, .slice Ba NA da])) (fun v _ => NH - (intOf v).toNat)
      case atStart => exact ⟨0, Nat.zero_le _, rfl, HD, HP, HF⟩
      case round =>
        clear HD HP HF
        obtain ⟨k, hk, rfl, HD, HP, HF⟩ := hrel
        have a1 := HP.out.cell 2
        have b1 := HF.out.cell 2
        simp at a1 b1
        by_cases hlt : k < NH
        case pos =>
          have hkl : k < p.hosts.length := by have := HNH.out; omega
          obtain ⟨q, o, rfl, hc⟩ := H3.out.cell HD.out (by omega)
          obtain ⟨q', o', rfl, hc'⟩ := K3.out.cell HD.out (by omega)
          obtain ⟨e0, e1, e2, e3, e4⟩ := hsCells_at p.hosts k _ (List.getElem?_eq_getElem hkl)
          have d0 := hc _ _ e0
          have d1 := hc _ _ e1
          have d2 := hc _ _ e2
          have d3 := hc _ _ e3
          have d4 := hc _ _ e4
          have f0 := hc' _ _ e0
          have f1 := hc' _ _ e1
          have f2 := hc' _ _ e2
          have f3 := hc' _ _ e3
          have f4 := hc' _ _ e4
          rw [← Nat.add_assoc] at d1 d2 d3 d4 f1 f2 f3 f4
          generalize p.hosts[k] = Y at d0 d1 d2 d3 d4 f0 f1 f2 f3 f4
          obtain ⟨y2, ⟨⟨y3, y4, y5⟩, y6⟩⟩ := Y
          simp only at d0 d1 d2 d3 d4 f0 f1 f2 f3 f4
          clear hc hc' hkl e0 e1 e2 e3 e4
          go_upto_region 16 with fail
          go_quiet (fail)
          go_wp2_with fail
          go_roundw
          case rel => exact ⟨k + 1, by omega, by go_num, Lib.hid ⟨HD.out.os, HD.out.tape, HD.out.output, HD.out.size, HD.out.block⟩, Lib.hid (HP.out.drewN _), Lib.hid (HF.out.drewN _)⟩
          case measure => simp [intOf]; omega
        obtain rfl : NH = k := by omega
        have a1 := HP.out.cell 3
        have b1 := HF.out.cell 3
        simp at a1 b1
        go_wp2_with fail
        clear a1 b1
        go_loopw [8] (fun v wr => ∃ k : Nat, k ≤ NA ∧ v = .int .i64 (k : Int) ∧ RowKit.Hid (Below w.heap.size w wr) ∧ RowKit.Hid (Blk wr P 26 #[.slice Ag NG cg, .slice At NT ct, .slice Ah NH ch, .slice Aa NA ca]) ∧ RowKit.Hid (Blk wr F 26 #[.slice Bg NG dg, .slice Bt NT dt, .slice Bh NH dh, .slice Ba NA da])) (fun v _ => NA - (intOf v).toNat)
        case atStart => exact ⟨0, Nat.zero_le _, rfl, HD, HP, HF⟩
        case round =>
          clear HD HP HF
          obtain ⟨k, hk, rfl, HD, HP, HF⟩ := hrel
          have a1 := HP.out.cell 3
          have b1 := HF.out.cell 3
          simp at a1 b1
          by_cases hlt : k < NA
          case pos =>
            have hkl : k < p.acls.length := by have := HNA.out; omega
            obtain ⟨q, o, rfl, hc⟩ := H4.out.cell HD.out (by omega)
            obtain ⟨q', o', rfl, hc'⟩ := K4.out.cell HD.out (by omega)
            have hlx := congrArg List.length HXa.out
            have hly := congrArg List.length HYa.out
            rw [List.length_map] at hlx hly
            obtain ⟨X, hX⟩ : ∃ X, xa[k]? = some X := ⟨_, List.getElem?_eq_getElem (by omega)⟩
            obtain ⟨Y, hY⟩ : ∃ Y, ya[k]? = some Y := ⟨_, List.getElem?_eq_getElem (by omega)⟩
            have hXl : p.acls[k]? = some X.a := by rw [← HXa.out, List.getElem?_map, hX]; rfl
            have hYl : p.acls[k]? = some Y.a := by rw [← HYa.out, List.getElem?_map, hY]; rfl
            have hXY : Y.a = X.a := by rw [hXl] at hYl; injection hYl with hYl; exact hYl.symm
            obtain ⟨e0, e1, e2, e3⟩ := acCells_at xa k X hX
            have d0 := hc _ _ e0
            have d1 := hc _ _ e1
            have d2 := hc _ _ e2
            have d3 := hc _ _ e3
            obtain ⟨e4, e5, e6, e7⟩ := acCells_at ya k Y hY
            have f0 := hc' _ _ e4
            have f1 := hc' _ _ e5
            have f2 := hc' _ _ e6
            have f3 := hc' _ _ e7
            rw [← Nat.add_assoc] at d1 d2 d3 f1 f2 f3
            have rX := I4.out X (List.mem_of_getElem? hX)
            have rY := J4.out Y (List.mem_of_getElem? hY)
            have hXf := HFit.out.a X.a (List.mem_of_getElem? hXl)
            have hcall := fun u (hu : Below w.heap.size w u) => sameAc_any X.a X Y (rX.below hu) (rY.below hu) rfl hXY hXf
            obtain ⟨A1, c1, g1⟩ := rX.p.shape
            obtain ⟨A2, c2, g2⟩ := rX.s.shape
            obtain ⟨A3, c3, g3⟩ := rX.d.shape
            obtain ⟨A4, c4, g4⟩ := rX.o.shape
            obtain ⟨B1, m1, r1⟩ := rY.p.shape
            obtain ⟨B2, m2, r2⟩ := rY.s.shape
            obtain ⟨B3, m3, r3⟩ := rY.d.shape
            obtain ⟨B4, m4, r4⟩ := rY.o.shape
            rw [hXY] at r1 r2 r3 r4
            rw [g1] at d0
            rw [g2] at d1
            rw [g3] at d2
            rw [g4] at d3
            rw [r1] at f0
            rw [r2] at f1
            rw [r3] at f2
            rw [r4] at f3
            rw [g1, g2, g3, g4, r1, r2, r3, r4] at hcall
            generalize X.a.protos.length = n1 at d0 f0 hcall
            generalize X.a.src.length = n2 at d1 f1 hcall
            generalize X.a.dst.length = n3 at d2 f2 hcall
            generalize X.a.ports.length = n4 at d3 f3 hcall
            have HC := Lib.hid hcall
            clear hc hc' hX hY hXl hYl rX rY hXf hlx hly hcall hkl hXY e0 e1 e2 e3 e4 e5 e6 e7 g1 g2 g3 g4 r1 r2 r3 r4
            go_upto_region 21 with fail
            refine wp_region_held_drew (S := (fun w' => w'.cell? ⟨P, 3, none⟩ = some (.slice (some ⟨q, o, none⟩) NA ca) ∧ w'.cell? ⟨F, 3, none⟩ = some (.slice (some ⟨q', o', none⟩) NA da) ∧ w'.cell? ⟨q, o + k * 4, none⟩ = some (.slice A1 n1 c1) ∧ w'.cell? ⟨q, o + k * 4 + 1, none⟩ = some (.slice A2 n2 c2) ∧ w'.cell? ⟨q, o + k * 4 + 2, none⟩ = some (.slice A3 n3 c3) ∧ w'.cell? ⟨q, o + k * 4 + 3, none⟩ = some (.slice A4 n4 c4) ∧ w'.cell? ⟨q', o' + k * 4, none⟩ = some (.slice B1 n1 m1) ∧ w'.cell? ⟨q', o' + k * 4 + 1, none⟩ = some (.slice B2 n2 m2) ∧ w'.cell? ⟨q', o' + k * 4 + 2, none⟩ = some (.slice B3 n3 m3) ∧ w'.cell? ⟨q', o' + k * 4 + 3, none⟩ = some (.slice B4 n4 m4))) (by kernel_rfl) (⟨a1, b1, d0, d1, d2, d3, f0, f1, f2, f3⟩) (fun hHeld => ?_)
            refine tH 0 ?_
            try simp only [Act.put, List.setIfInBounds_toArray, List.set_cons_zero, List.set_cons_succ]
            refine tH 1 ?_
            try simp only [Act.put, List.setIfInBounds_toArray, List.set_cons_zero, List.set_cons_succ]
            refine tH 2 ?_
            try simp only [Act.put, List.setIfInBounds_toArray, List.set_cons_zero, List.set_cons_succ]
            refine tH 3 ?_
            try simp only [Act.put, List.setIfInBounds_toArray, List.set_cons_zero, List.set_cons_succ]
            refine tH 4 ?_
            try simp only [Act.put, List.setIfInBounds_toArray, List.set_cons_zero, List.set_cons_succ]
            refine tH 5 ?_
            try simp only [Act.put, List.setIfInBounds_toArray, List.set_cons_zero, List.set_cons_succ]
            refine tH 6 ?_
            try simp only [Act.put, List.setIfInBounds_toArray, List.set_cons_zero, List.set_cons_succ]
            refine tH 7 ?_
            try simp only [Act.put, List.setIfInBounds_toArray, List.set_cons_zero, List.set_cons_succ]
            refine tH 8 ?_
            try simp only [Act.put, List.setIfInBounds_toArray, List.set_cons_zero, List.set_cons_succ]
            refine tH 9 ?_
            try simp only [Act.put, List.setIfInBounds_toArray, List.set_cons_zero, List.set_cons_succ]
            refine wpAnyH_ready (rs := [10]) (by kernel_rfl) (by simp) ?_
            refine AllReadyH.cons rfl (fun K hK => ?_) AllReadyH.nil
            go_simp
            refine (HC.out _ HD.out.drew).mono ?_
            rintro r wb ⟨rfl, db⟩
            have eb : Below wr.heap.size wr wb := ⟨db.os, db.tape, db.output, db.size, db.block⟩
            have HD2 := Lib.hid (after HD.out eb)
            have HP2 := Lib.hid (HP.out.below eb HP.out.lt)
            have HF2 := Lib.hid (HF.out.below eb HF.out.lt)
            clear db
            refine hK.out _ _ (⟨below_cell a1 eb, below_cell b1 eb, below_cell d0 eb, below_cell d1 eb, below_cell d2 eb, below_cell d3 eb, below_cell f0 eb, below_cell f1 eb, below_cell f2 eb, below_cell f3 eb⟩) (fun hHeld => ?_)
            clear hK K
            try simp only [Act.put, List.setIfInBounds_toArray, List.set_cons_zero, List.set_cons_succ]
            refine tH 11 ?_
            try simp only [Act.put, List.setIfInBounds_toArray, List.set_cons_zero, List.set_cons_succ]
            refine wpAnyH_done (by kernel_rfl) ?_ _
            go_wp2_with fail
            go_roundw
            case rel => exact ⟨k + 1, by omega, by go_num, HD2, HP2, HF2⟩
            case measure => simp [intOf]; omega
          obtain rfl : NA = k := by omega
          go_wp2_with fail
          go_ret
          exact ⟨rfl, HD.out⟩
end Go.Proofs.YtbiglifngfgffaaGreatDoor
