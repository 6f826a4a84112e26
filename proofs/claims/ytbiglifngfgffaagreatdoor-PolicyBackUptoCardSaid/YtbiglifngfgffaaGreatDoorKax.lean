/- Joined out of: HvA BwA. -/
import Derived.Test.YtbiglifngfgffaaGreatDoorKav
import Derived.Test.YtbiglifngfgffaaGreatDoorKaw
import Derived.Test.YtbiglifngfgffaaGreatDoorKau
set_option linter.unusedVariables false
set_option linter.unusedSimpArgs false

/- More than a statement writes (heavy): the walk: it answers. -/
namespace Go.Proofs.YtbiglifngfgffaaGreatDoor
open Go.RowKit
attribute [local go_sem ↓] Go.wp_at_zero Go.wp_at_succ

set_option maxHeartbeats 16000000 in
set_option maxRecDepth 100000 in
theorem heavy_any {w : World} (p : Po) {V : PoV} (h : PoRd w V p) (hf : PoFit p) :
    Calls Tryz.prog 7 #[.agg #[V.g, V.t, V.h, V.a]] w fun r w' => (∃ b : Bool, r = .returned (.bool b)) ∧ Below w.heap.size w w' := by
  obtain ⟨xg, hxg, h1, i1⟩ := h.g
  obtain ⟨xt, hxt, h2, i2⟩ := h.t
  have h3 := h.h
  obtain ⟨xa, hxa, h4, i4⟩ := h.a
  obtain ⟨Ag, cg, eg⟩ := h1.shape
  obtain ⟨At, ct, et⟩ := h2.shape
  obtain ⟨Ah, ch, eh⟩ := h3.shape
  obtain ⟨Aa, ca, ea⟩ := h4.shape
  rw [eg] at h1
  rw [et] at h2
  rw [eh] at h3
  rw [ea] at h4
  rw [eg, et, eh, ea]
  clear eg et eh ea h
  obtain ⟨NG, hNG⟩ : ∃ n, n = p.groups.length := ⟨_, rfl⟩
  obtain ⟨NT, hNT⟩ : ∃ n, n = p.tags.length := ⟨_, rfl⟩
  obtain ⟨NH, hNH⟩ : ∃ n, n = p.hosts.length := ⟨_, rfl⟩
  obtain ⟨NA, hNA⟩ : ∃ n, n = p.acls.length := ⟨_, rfl⟩
  have l1 := hf.gl
  have l2 := hf.tl
  have l3 := hf.hl
  have l4 := hf.al
  rw [← hNG] at h1 l1 ⊢
  rw [← hNT] at h2 l2 ⊢
  rw [← hNH] at h3 l3 ⊢
  rw [← hNA] at h4 l4 ⊢
  have H1 := Lib.hid h1
  have H2 := Lib.hid h2
  have H3 := Lib.hid h3
  have H4 := Lib.hid h4
  have I1 := Lib.hid i1
  have I2 := Lib.hid i2
  have I4 := Lib.hid i4
  have HXg := Lib.hid hxg
  have HXt := Lib.hid hxt
  have HXa := Lib.hid hxa
  have HNG := Lib.hid hNG
  have HNT := Lib.hid hNT
  have HNH := Lib.hid hNH
  have HNA := Lib.hid hNA
  have HFit := Lib.hid hf
  clear h1 h2 h3 h4 i1 i2 i4 hxg hxt hxa hNG hNT hNH hNA hf
  go_enter Tryz.func7, Tryz.ntmps7
  go_upto_region 1 with fail
  have hP := Blk.new w 26 #[.slice Ag NG cg, .slice At NT ct, .slice Ah NH ch, .slice Aa NA ca]
  have hD := boxed w (.cells #[.slice Ag NG cg, .slice At NT ct, .slice Ah NH ch, .slice Aa NA ca] 26)
  have HP := Lib.hid hP
  have HD := Lib.hid hD
  clear hP hD
  generalize w.alloc (.cells #[.slice Ag NG cg, .slice At NT ct, .slice Ah NH ch, .slice Aa NA ca] 26) = w2 at HP HD ⊢
  obtain ⟨P, hPe⟩ : ∃ P, P = w.heap.size := ⟨_, rfl⟩
  rw [← hPe] at HP ⊢
  clear hPe
  have a0 := HP.out.cell 0
  have a1 := HP.out.cell 1
  have a2 := HP.out.cell 2
  have a3 := HP.out.cell 3
  simp at a0 a1 a2 a3
  by_cases h400 : 400 < NG + NT + NH + NA
  · have q1 : (400 : Int) < (NG : Int) + (NT : Int) + (NH : Int) + (NA : Int) := by omega
    clear h400
    go_wp2_with fail
    go_ret
    exact ⟨⟨_, rfl⟩, HD.out⟩
  have q1 : ¬ (400 : Int) < (NG : Int) + (NT : Int) + (NH : Int) + (NA : Int) := by omega
  go_wp2_with fail
  clear q1 h400 a0 a1 a2 a3
  go_loopw [3, 5] (fun v3 v5 wr => ∃ (k : Nat) (z : Int), k ≤ NG + NT ∧ v3 = .int .i64 z ∧ v5 = .int .i64 (k : Int) ∧ RowKit.Hid (Below w.heap.size w wr) ∧ RowKit.Hid (Blk wr P 26 #[.slice Ag NG cg, .slice At NT ct, .slice Ah NH ch, .slice Aa NA ca])) (fun _ v5 _ => NG + NT - (intOf v5).toNat)
  case atStart => exact ⟨0, 0, Nat.zero_le _, rfl, rfl, HD, HP⟩
  case round =>
    clear HD HP
    obtain ⟨k, z, hk, rfl, rfl, HD, HP⟩ := hrel
    have a0 := HP.out.cell 0
    have a1 := HP.out.cell 1
    simp at a0 a1
    obtain ⟨wo, rfl⟩ : ∃ wo : World, wo = wr := ⟨_, rfl⟩
    by_cases hlt : k < NG + NT
    case pos =>
      by_cases hg : k < NG
      · have qg : (k : Int) < (NG : Int) + (NT : Int) := by omega
        have hlx := congrArg List.length HXg.out
        rw [List.length_map] at hlx
        have hkl : k < p.groups.length := by have := HNG.out; omega
        obtain ⟨X, hX⟩ : ∃ X, xg[k]? = some X := ⟨_, List.getElem?_eq_getElem (by omega)⟩
        have hXl : p.groups[k]? = some X.1 := by rw [← HXg.out, List.getElem?_map, hX]; rfl
        have hcx := nmCells_at (xg.map nmPair) k (nmPair X) (by rw [List.getElem?_map, hX]; rfl)
        obtain ⟨q, o, rfl, hc⟩ := H1.out.cell HD.out (by omega)
        have d0 := hc _ _ hcx.1
        have d1 := hc _ _ hcx.2
        rw [← Nat.add_assoc] at d1
        have rX := I1.out X (List.mem_of_getElem? hX)
        have hXf := HFit.out.g X.1 (List.mem_of_getElem? hXl)
        obtain ⟨⟨nm, ls⟩, lv⟩ := X
        unfold nmPair at d0 d1
        simp only at d0 d1 rX hXf
        obtain ⟨A2, c2, rfl⟩ := rX.shape
        obtain ⟨n2, hn2⟩ : ∃ n, n = ls.length := ⟨_, rfl⟩
        rw [← hn2] at d1 rX
        have hl2 : n2 ≤ 2000000 := by have := hXf.len; simp only at this; omega
        have HN2 := Lib.hid hn2
        have HXl := Lib.hid hXl
        have HRX := Lib.hid rX
        clear hlx hkl hX hXl hcx hc rX hXf hn2
        have bx := boxed wo (.cells #[.string ⟨#[]⟩, .slice none 0 0] 46)
        have HPx := HP.out.alloc (.cells #[.string ⟨#[]⟩, .slice none 0 0] 46)
        have b0 := HPx.cell 0
        have b1 := HPx.cell 1
        simp at b0 b1
        have e0 := below_cell d0 bx
        have e1 := below_cell d1 bx
        go_upto_region 12 with fail
        clear b0 b1 e0 e1 HPx bx
        have M1 := Lib.hid (Blk.new wo 46 #[.string nm, .slice A2 n2 c2])
        have q1 := boxed wo (.cells #[.string nm, .slice A2 n2 c2] 46)
        have HD1 := Lib.hid (after HD.out q1)
        have HP1 := Lib.hid (HP.out.below q1 HP.out.lt)
        generalize wo.alloc (.cells #[.string nm, .slice A2 n2 c2] 46) = w5 at M1 HD1 HP1 q1 ⊢
        generalize wo.heap.size = M at M1 ⊢
        clear q1 HD HP d0 d1 a0 a1
        have m0 := M1.out.cell 0
        have m1 := M1.out.cell 1
        simp at m0 m1
        go_wp2_with fail
        clear m0 m1
        go_loopw [3, 7] (fun v3 v7 wr => ∃ (i : Nat) (y : Int), i ≤ n2 ∧ v3 = .int .i64 y ∧ v7 = .int .i64 (i : Int) ∧ RowKit.Hid (Below w.heap.size w wr) ∧ RowKit.Hid (Blk wr P 26 #[.slice (some ⟨q, o, none⟩) NG cg, .slice At NT ct, .slice Ah NH ch, .slice Aa NA ca]) ∧ RowKit.Hid (Blk wr M 46 #[.string nm, .slice A2 n2 c2])) (fun _ v7 _ => n2 - (intOf v7).toNat)
        case atStart => exact ⟨0, _, Nat.zero_le _, rfl, rfl, HD1, HP1, M1⟩
        case round =>
          clear HD1 HP1 M1
          obtain ⟨i, y, hi, rfl, rfl, HD1, HP1, M1⟩ := hrel
          have m1 := M1.out.cell 1
          simp at m1
          by_cases hlt2 : i < n2 ∧ i < 200
          · obtain ⟨h2a, h2b⟩ := hlt2
            have hkl2 : i < ls.length := by have := HN2.out; omega
            obtain ⟨q2, o2, rfl, hc2⟩ := HRX.out.cell HD1.out (by omega)
            have ds := hc2 _ _ (strCells_at (List.getElem?_eq_getElem hkl2))
            have hsf := HFit.out.g ⟨nm, ls⟩ (List.mem_of_getElem? HXl.out)
            generalize ls[i] = s at ds
            clear hc2 hkl2 hsf
            go_wp2_with fail
            go_roundw
            case rel => exact ⟨i + 1, _, by omega, rfl, by go_num, HD1, HP1, M1⟩
            case measure => simp [intOf]; omega
          · by_cases hn2 : i < n2
            · have h200 : ¬ i < 200 := fun h => hlt2 ⟨hn2, h⟩
              go_wp2_with fail
              go_roundw
              case rel => exact ⟨k + 1, _, by omega, rfl, by go_num, HD1, HP1⟩
              case measure => simp [intOf]; omega
            · go_wp2_with fail
              go_roundw
              case rel => exact ⟨k + 1, _, by omega, rfl, by go_num, HD1, HP1⟩
              case measure => simp [intOf]; omega
      · obtain ⟨j, rfl⟩ : ∃ j, k = NG + j := ⟨k - NG, by omega⟩
        have ej : ((NG + j : Nat) : Int) - (NG : Int) = (j : Int) := by omega
        have hlx := congrArg List.length HXt.out
        rw [List.length_map] at hlx
        have hkl : j < p.tags.length := by have := HNT.out; omega
        obtain ⟨X, hX⟩ : ∃ X, xt[j]? = some X := ⟨_, List.getElem?_eq_getElem (by omega)⟩
        have hXl : p.tags[j]? = some X.1 := by rw [← HXt.out, List.getElem?_map, hX]; rfl
        have hcx := nmCells_at (xt.map nmPair) j (nmPair X) (by rw [List.getElem?_map, hX]; rfl)
        obtain ⟨q, o, rfl, hc⟩ := H2.out.cell HD.out (by omega)
        have d0 := hc _ _ hcx.1
        have d1 := hc _ _ hcx.2
        rw [← Nat.add_assoc] at d1
        have rX := I2.out X (List.mem_of_getElem? hX)
        have hXf := HFit.out.t X.1 (List.mem_of_getElem? hXl)
        obtain ⟨⟨nm, ls⟩, lv⟩ := X
        unfold nmPair at d0 d1
        simp only at d0 d1 rX hXf
        obtain ⟨A2, c2, rfl⟩ := rX.shape
        obtain ⟨n2, hn2⟩ : ∃ n, n = ls.length := ⟨_, rfl⟩
        rw [← hn2] at d1 rX
        have hl2 : n2 ≤ 2000000 := by have := hXf.len; simp only at this; omega
        have HN2 := Lib.hid hn2
        have HXl := Lib.hid hXl
        have HRX := Lib.hid rX
        clear hlx hkl hX hXl hcx hc rX hXf hn2
        have bx := boxed wo (.cells #[.string ⟨#[]⟩, .slice none 0 0] 46)
        have HPx := HP.out.alloc (.cells #[.string ⟨#[]⟩, .slice none 0 0] 46)
        have b0 := HPx.cell 0
        have b1 := HPx.cell 1
        simp at b0 b1
        have e0 := below_cell d0 bx
        have e1 := below_cell d1 bx
        go_upto_region 12 with fail
        clear b0 b1 e0 e1 HPx bx
        have M1 := Lib.hid (Blk.new wo 46 #[.string nm, .slice A2 n2 c2])
        have q1 := boxed wo (.cells #[.string nm, .slice A2 n2 c2] 46)
        have HD1 := Lib.hid (after HD.out q1)
        have HP1 := Lib.hid (HP.out.below q1 HP.out.lt)
        generalize wo.alloc (.cells #[.string nm, .slice A2 n2 c2] 46) = w5 at M1 HD1 HP1 q1 ⊢
        generalize wo.heap.size = M at M1 ⊢
        clear q1 HD HP d0 d1 a0 a1
        have m0 := M1.out.cell 0
        have m1 := M1.out.cell 1
        simp at m0 m1
        go_wp2_with fail
        clear m0 m1
        go_loopw [3, 7] (fun v3 v7 wr => ∃ (i : Nat) (y : Int), i ≤ n2 ∧ v3 = .int .i64 y ∧ v7 = .int .i64 (i : Int) ∧ RowKit.Hid (Below w.heap.size w wr) ∧ RowKit.Hid (Blk wr P 26 #[.slice Ag NG cg, .slice (some ⟨q, o, none⟩) NT ct, .slice Ah NH ch, .slice Aa NA ca]) ∧ RowKit.Hid (Blk wr M 46 #[.string nm, .slice A2 n2 c2])) (fun _ v7 _ => n2 - (intOf v7).toNat)
        case atStart => exact ⟨0, _, Nat.zero_le _, rfl, rfl, HD1, HP1, M1⟩
        case round =>
          clear HD1 HP1 M1
          obtain ⟨i, y, hi, rfl, rfl, HD1, HP1, M1⟩ := hrel
          have m1 := M1.out.cell 1
          simp at m1
          by_cases hlt2 : i < n2 ∧ i < 200
          · obtain ⟨h2a, h2b⟩ := hlt2
            have hkl2 : i < ls.length := by have := HN2.out; omega
            obtain ⟨q2, o2, rfl, hc2⟩ := HRX.out.cell HD1.out (by omega)
            have ds := hc2 _ _ (strCells_at (List.getElem?_eq_getElem hkl2))
            have hsf := HFit.out.t ⟨nm, ls⟩ (List.mem_of_getElem? HXl.out)
            generalize ls[i] = s at ds
            clear hc2 hkl2 hsf
            go_wp2_with fail
            go_roundw
            case rel => exact ⟨i + 1, _, by omega, rfl, by go_num, HD1, HP1, M1⟩
            case measure => simp [intOf]; omega
          · by_cases hn2 : i < n2
            · have h200 : ¬ i < 200 := fun h => hlt2 ⟨hn2, h⟩
              go_wp2_with fail
              go_roundw
              case rel => exact ⟨(NG + j) + 1, _, by omega, rfl, by go_num, HD1, HP1⟩
              case measure => simp [intOf]; omega
            · go_wp2_with fail
              go_roundw
              case rel => exact ⟨(NG + j) + 1, _, by omega, rfl, by go_num, HD1, HP1⟩
              case measure => simp [intOf]; omega
    obtain rfl : NG + NT = k := by omega
    go_wp2_with fail
    clear a0 a1
    go_loopw [3, 8] (fun v3 v8 wr => ∃ (k : Nat) (z : Int), k ≤ NH ∧ v3 = .int .i64 z ∧ v8 = .int .i64 (k : Int) ∧ RowKit.Hid (Below w.heap.size w wr) ∧ RowKit.Hid (Blk wr P 26 #[.slice Ag NG cg, .slice At NT ct, .slice Ah NH ch, .slice Aa NA ca])) (fun _ v8 _ => NH - (intOf v8).toNat)
    case atStart => exact ⟨0, _, Nat.zero_le _, rfl, rfl, HD, HP⟩
    case round =>
      clear HD HP
      obtain ⟨k, z, hk, rfl, rfl, HD, HP⟩ := hrel
      have a2 := HP.out.cell 2
      simp at a2
      by_cases hlt : k < NH
      case pos =>
        have hkl : k < p.hosts.length := by have := HNH.out; omega
        obtain ⟨q, o, rfl, hc⟩ := H3.out.cell HD.out (by omega)
        have d0 := hc _ _ (hsCells_at p.hosts k _ (List.getElem?_eq_getElem hkl)).1
        generalize p.hosts[k] = Y at d0
        obtain ⟨nm, Yn⟩ := Y
        simp only at d0
        clear hc hkl
        go_wp2_with fail
        go_roundw
        case rel => exact ⟨k + 1, _, by omega, rfl, by go_num, HD, HP⟩
        case measure => simp [intOf]; omega
      obtain rfl : NH = k := by omega
      have a3 := HP.out.cell 3
      simp at a3
      go_wp2_with fail
      clear a2 a3
      go_loopw [3, 9] (fun v3 v9 wr => ∃ (k : Nat) (z : Int), k ≤ NA ∧ v3 = .int .i64 z ∧ v9 = .int .i64 (k : Int) ∧ RowKit.Hid (Below w.heap.size w wr) ∧ RowKit.Hid (Blk wr P 26 #[.slice Ag NG cg, .slice At NT ct, .slice Ah NH ch, .slice Aa NA ca])) (fun _ v9 _ => NA - (intOf v9).toNat)
      case atStart => exact ⟨0, _, Nat.zero_le _, rfl, rfl, HD, HP⟩
      case round =>
        clear HD HP
        obtain ⟨k, z, hk, rfl, rfl, HD, HP⟩ := hrel
        have a3 := HP.out.cell 3
        simp at a3
        by_cases hlt : k < NA
        case pos =>
          obtain ⟨wo, rfl⟩ : ∃ wo : World, wo = wr := ⟨_, rfl⟩
          have hlx := congrArg List.length HXa.out
          rw [List.length_map] at hlx
          obtain ⟨X, hX⟩ : ∃ X, xa[k]? = some X := ⟨_, List.getElem?_eq_getElem (by have := HNA.out; omega)⟩
          have hXl : p.acls[k]? = some X.a := by rw [← HXa.out, List.getElem?_map, hX]; rfl
          obtain ⟨q, o, rfl, hc⟩ := H4.out.cell HD.out (by omega)
          obtain ⟨e0, e1, e2, e3⟩ := acCells_at xa k X hX
          have d0 := hc _ _ e0
          have d1 := hc _ _ e1
          have d2 := hc _ _ e2
          have d3 := hc _ _ e3
          rw [← Nat.add_assoc] at d1 d2 d3
          have rX := I4.out X (List.mem_of_getElem? hX)
          have hXf := HFit.out.a X.a (List.mem_of_getElem? hXl)
          obtain ⟨A1, c1, g1⟩ := rX.p.shape
          obtain ⟨A2, c2, g2⟩ := rX.s.shape
          obtain ⟨A3, c3, g3⟩ := rX.d.shape
          obtain ⟨A4, c4, g4⟩ := rX.o.shape
          have rs := rX.s
          have rd := rX.d
          rw [g1] at d0
          rw [g2] at d1 rs
          rw [g3] at d2 rd
          rw [g4] at d3
          have f1 := hXf.pl
          have f2 := hXf.sl
          have f3 := hXf.dl
          have f4 := hXf.ol
          obtain ⟨n1, hn1⟩ : ∃ n, n = X.a.protos.length := ⟨_, rfl⟩
          obtain ⟨n2, hn2⟩ : ∃ n, n = X.a.src.length := ⟨_, rfl⟩
          obtain ⟨n3, hn3⟩ : ∃ n, n = X.a.dst.length := ⟨_, rfl⟩
          obtain ⟨n4, hn4⟩ : ∃ n, n = X.a.ports.length := ⟨_, rfl⟩
          rw [← hn1] at d0 f1
          rw [← hn2] at d1 rs f2
          rw [← hn3] at d2 rd f3
          rw [← hn4] at d3 f4
          have HN2 := Lib.hid hn2
          have HN3 := Lib.hid hn3
          have RS := Lib.hid rs
          have RD := Lib.hid rd
          clear hlx hX hXl hc e0 e1 e2 e3 rX hXf g1 g2 g3 g4 hn1 hn2 hn3 hn4 rs rd
          generalize X.a.src = lsrc at HN2 RS
          generalize X.a.dst = ldst at HN3 RD
          go_upto_region 25 with fail
          have M1 := Lib.hid (Blk.new wo 57 #[.slice A1 n1 c1, .slice A2 n2 c2, .slice A3 n3 c3, .slice A4 n4 c4])
          have q1 := boxed wo (.cells #[.slice A1 n1 c1, .slice A2 n2 c2, .slice A3 n3 c3, .slice A4 n4 c4] 57)
          have HD1 := Lib.hid (after HD.out q1)
          have HP1 := Lib.hid (HP.out.below q1 HP.out.lt)
          generalize wo.alloc (.cells #[.slice A1 n1 c1, .slice A2 n2 c2, .slice A3 n3 c3, .slice A4 n4 c4] 57) = w5 at M1 HD1 HP1 q1 ⊢
          generalize wo.heap.size = M at M1 ⊢
          clear q1 HD HP d0 d1 d2 d3 a3
          have m0 := M1.out.cell 0
          have m1 := M1.out.cell 1
          have m2 := M1.out.cell 2
          have m3 := M1.out.cell 3
          simp at m0 m1 m2 m3
          go_wp2_with fail
          clear m0 m1 m2 m3
          go_loopw [3, 11] (fun v3 v7 wr => ∃ (i : Nat) (y : Int), i ≤ n2 ∧ v3 = .int .i64 y ∧ v7 = .int .i64 (i : Int) ∧ RowKit.Hid (Below w.heap.size w wr) ∧ RowKit.Hid (Blk wr P 26 #[.slice Ag NG cg, .slice At NT ct, .slice Ah NH ch, .slice (some ⟨q, o, none⟩) NA ca]) ∧ RowKit.Hid (Blk wr M 57 #[.slice A1 n1 c1, .slice A2 n2 c2, .slice A3 n3 c3, .slice A4 n4 c4])) (fun _ v7 _ => n2 - (intOf v7).toNat)
          case atStart => exact ⟨0, _, Nat.zero_le _, rfl, rfl, HD1, HP1, M1⟩
          case round =>
            clear HD1 HP1 M1
            obtain ⟨i, y, hi, rfl, rfl, HD1, HP1, M1⟩ := hrel
            have m1 := M1.out.cell 1
            have m2 := M1.out.cell 2
            simp at m1 m2
            by_cases hlt2 : i < n2 ∧ i < 200
            case pos =>
              obtain ⟨h2a, h2b⟩ := hlt2
              have hkl2 : i < lsrc.length := by have := HN2.out; omega
              obtain ⟨q2, o2, rfl, hc2⟩ := RS.out.cell HD1.out (by omega)
              have ds := hc2 _ _ (selCells_at lsrc i _ (List.getElem?_eq_getElem hkl2)).2.1
              rw [← Nat.add_assoc] at ds
              generalize lsrc[i] = Y at ds
              obtain ⟨yk, s, yn⟩ := Y
              simp only at ds
              clear hc2 hkl2
              go_wp2_with fail
              go_roundw
              case rel => exact ⟨i + 1, _, by omega, rfl, by go_num, HD1, HP1, M1⟩
              case measure => simp [intOf]; omega
            by_cases hn2 : i < n2
            · have h200 : ¬ i < 200 := fun h => hlt2 ⟨hn2, h⟩
              go_wp2_with fail
              clear m1 m2
              go_loopw [3, 12] (fun v3 v7 wr => ∃ (i : Nat) (y : Int), i ≤ n3 ∧ v3 = .int .i64 y ∧ v7 = .int .i64 (i : Int) ∧ RowKit.Hid (Below w.heap.size w wr) ∧ RowKit.Hid (Blk wr P 26 #[.slice Ag NG cg, .slice At NT ct, .slice Ah NH ch, .slice (some ⟨q, o, none⟩) NA ca]) ∧ RowKit.Hid (Blk wr M 57 #[.slice A1 n1 c1, .slice A2 n2 c2, .slice A3 n3 c3, .slice A4 n4 c4])) (fun _ v7 _ => n3 - (intOf v7).toNat)
              case atStart => exact ⟨0, _, Nat.zero_le _, rfl, rfl, HD1, HP1, M1⟩
              case round =>
                clear HD1 HP1 M1
                obtain ⟨i, y, hi, rfl, rfl, HD1, HP1, M1⟩ := hrel
                have m1 := M1.out.cell 1
                have m2 := M1.out.cell 2
                simp at m1 m2
                by_cases hlt2 : i < n3 ∧ i < 200
                case pos =>
                  obtain ⟨h2a, h2b⟩ := hlt2
                  have hkl2 : i < ldst.length := by have := HN3.out; omega
                  obtain ⟨q2, o2, rfl, hc2⟩ := RD.out.cell HD1.out (by omega)
                  have ds := hc2 _ _ (selCells_at ldst i _ (List.getElem?_eq_getElem hkl2)).2.1
                  rw [← Nat.add_assoc] at ds
                  generalize ldst[i] = Y at ds
                  obtain ⟨yk, s, yn⟩ := Y
                  simp only at ds
                  clear hc2 hkl2
                  go_wp2_with fail
                  go_roundw
                  case rel => exact ⟨i + 1, _, by omega, rfl, by go_num, HD1, HP1, M1⟩
                  case measure => simp [intOf]; omega
                by_cases hn3 : i < n3
                · have h200 : ¬ i < 200 := fun h => hlt2 ⟨hn3, h⟩
                  go_wp2_with fail
                  go_roundw
                  case rel => exact ⟨k + 1, _, by omega, rfl, by go_num, HD1, HP1⟩
                  case measure => simp [intOf]; omega
                · go_wp2_with fail
                  go_roundw
                  case rel => exact ⟨k + 1, _, by omega, rfl, by go_num, HD1, HP1⟩
                  case measure => simp [intOf]; omega
            · go_wp2_with fail
              clear m1 m2
              go_loopw [3, 12] (fun v3 v7 wr => ∃ (i : Nat) (y : Int), i ≤ n3 ∧ v3 = .int .i64 y ∧ v7 = .int .i64 (i : Int) ∧ RowKit.Hid (Below w.heap.size w wr) ∧ RowKit.Hid (Blk wr P 26 #[.slice Ag NG cg, .slice At NT ct, .slice Ah NH ch, .slice (some ⟨q, o, none⟩) NA ca]) ∧ RowKit.Hid (Blk wr M 57 #[.slice A1 n1 c1, .slice A2 n2 c2, .slice A3 n3 c3, .slice A4 n4 c4])) (fun _ v7 _ => n3 - (intOf v7).toNat)
              case atStart => exact ⟨0, _, Nat.zero_le _, rfl, rfl, HD1, HP1, M1⟩
              case round =>
                clear HD1 HP1 M1
                obtain ⟨i, y, hi, rfl, rfl, HD1, HP1, M1⟩ := hrel
                have m1 := M1.out.cell 1
                have m2 := M1.out.cell 2
                simp at m1 m2
                by_cases hlt2 : i < n3 ∧ i < 200
                case pos =>
                  obtain ⟨h2a, h2b⟩ := hlt2
                  have hkl2 : i < ldst.length := by have := HN3.out; omega
                  obtain ⟨q2, o2, rfl, hc2⟩ := RD.out.cell HD1.out (by omega)
                  have ds := hc2 _ _ (selCells_at ldst i _ (List.getElem?_eq_getElem hkl2)).2.1
                  rw [← Nat.add_assoc] at ds
                  generalize ldst[i] = Y at ds
                  obtain ⟨yk, s, yn⟩ := Y
                  simp only at ds
                  clear hc2 hkl2
                  go_wp2_with fail
                  go_roundw
                  case rel => exact ⟨i + 1, _, by omega, rfl, by go_num, HD1, HP1, M1⟩
                  case measure => simp [intOf]; omega
                by_cases hn3 : i < n3
                · have h200 : ¬ i < 200 := fun h => hlt2 ⟨hn3, h⟩
                  go_wp2_with fail
                  go_roundw
                  case rel => exact ⟨k + 1, _, by omega, rfl, by go_num, HD1, HP1⟩
                  case measure => simp [intOf]; omega
                · go_wp2_with fail
                  go_roundw
                  case rel => exact ⟨k + 1, _, by omega, rfl, by go_num, HD1, HP1⟩
                  case measure => simp [intOf]; omega
        obtain rfl : NA = k := by omega
        go_wp2_with fail
        go_ret
        exact ⟨⟨_, rfl⟩, HD.out⟩
end Go.Proofs.YtbiglifngfgffaaGreatDoor

/- A policy that is written is read as itself (PolicyBack): the walk. -/
namespace Go.Proofs.YtbiglifngfgffaaGreatDoor
open Go.RowKit
attribute [local go_sem ↓] Go.wp_at_zero Go.wp_at_succ

theorem parse_zero {s : List UInt8} {q : Po} {f : Flt} (h : parseP s = (q, f)) (hf : f.1 ≠ 0) : q = Po.zero := by
  unfold parseP at h
  split at h
  · injection h with h1 _; exact h1.symm
  split at h
  · injection h with h1 _; exact h1.symm
  split at h
  · injection h with h1 _; exact h1.symm
  · injection h with _ h2; subst h2; exact absurd rfl hf
theorem PoFit.zero : PoFit Po.zero := ⟨fun x hx => (by cases hx), fun x hx => (by cases hx), fun x hx => (by cases hx), fun x hx => (by cases hx), (by show (0 : Nat) ≤ _; omega), (by show (0 : Nat) ≤ _; omega), (by show (0 : Nat) ≤ _; omega), (by show (0 : Nat) ≤ _; omega)⟩
theorem PoFit.ok {p : Po} (h : PoFit p) : PoOk p := ⟨fun x hx => (h.h x hx).2, fun a ha => (h.a a ha).ob⟩
theorem textR_ok {p : Po} (h : mayP p = true ∧ (textP p).length ≤ 8192) : textR p = .tuple #[.string (ofL (textP p)), .int .i64 0] := by
  unfold textR
  rw [if_pos h.1, if_pos h.2]
theorem textR_long {p : Po} (h : mayP p = true) (h2 : ¬ (textP p).length ≤ 8192) : textR p = .tuple #[.string ⟨#[]⟩, .int .i64 4] := by
  unfold textR
  rw [if_pos h, if_neg h2]
theorem textR_not {p : Po} (h : ¬ (mayP p = true ∧ (textP p).length ≤ 8192)) : ∃ E : Nat, textR p = .tuple #[.string ⟨#[]⟩, .int .i64 (E : Int)] ∧ E ≠ 0 := by
  unfold textR
  by_cases h1 : mayP p = true
  · rw [if_pos h1, if_neg (fun e => h ⟨h1, e⟩)]
    exact ⟨4, rfl, by decide⟩
  · rw [if_neg h1]
    exact ⟨2, rfl, by decide⟩

set_option maxHeartbeats 32000000 in
set_option maxRecDepth 100000 in
theorem back_any {w : World} (env : Env w) (p : Po) {V : PoV} (h : PoRd w V p) (hf : PoFit p) (s : ByteArray) : Calls Tryz.prog 3 #[.agg #[V.g, V.t, V.h, V.a], .string s] w (Got (.bool true) w) := by
  obtain ⟨Vg, Vt, Vh, Va⟩ := V
  obtain ⟨Xg, ag, eg⟩ := h.g.shape
  obtain ⟨Xt, at', et⟩ := h.t.shape
  obtain ⟨Xh, ah, eh⟩ := h.h.shape
  obtain ⟨Xa, aa, ea⟩ := h.a.shape
  simp only at eg et eh ea
  subst eg et eh ea
  obtain ⟨NG, hNG⟩ : ∃ n, n = p.groups.length := ⟨_, rfl⟩
  obtain ⟨NT, hNT⟩ : ∃ n, n = p.tags.length := ⟨_, rfl⟩
  obtain ⟨NH, hNH⟩ : ∃ n, n = p.hosts.length := ⟨_, rfl⟩
  obtain ⟨NA, hNA⟩ : ∃ n, n = p.acls.length := ⟨_, rfl⟩
  rw [← hNG, ← hNT, ← hNH, ← hNA] at h ⊢
  clear hNG hNT hNH hNA
  have hwk := fun u (hu : Below w.heap.size w u) => works_any (env.below hu)
  have hhv := fun u (hu : Below w.heap.size w u) => heavy_any p (h.below hu) hf
  have hcp := fun u (hu : Below w.heap.size w u) => copy_any p (h.below hu) hf
  have htx := fun u (V' : PoV) (hu : Below w.heap.size w u) (hr : PoRd u V' p) => policyText_any (env.below hu) hr hf
  simp only at hhv hcp
  have HWk := Lib.hid hwk
  have HHv := Lib.hid hhv
  have HCp := Lib.hid hcp
  have HTx := Lib.hid htx
  have HEnv := Lib.hid env
  have HR := Lib.hid h
  have HFit := Lib.hid hf
  clear hwk hhv hcp htx env h hf
  go_enter Tryz.func3, Tryz.ntmps3
  go_upto_region 1 with fail
  have HP := Lib.hid (Blk.new w 26 #[.slice Xg NG ag, .slice Xt NT at', .slice Xh NH ah, .slice Xa NA aa])
  have HD := Lib.hid (boxed w (.cells #[.slice Xg NG ag, .slice Xt NT at', .slice Xh NH ah, .slice Xa NA aa] 26))
  generalize w.alloc (.cells #[.slice Xg NG ag, .slice Xt NT at', .slice Xh NH ah, .slice Xa NA aa] 26) = w0 at HP HD ⊢
  obtain ⟨P, hPe⟩ : ∃ P, P = w.heap.size := ⟨_, rfl⟩
  rw [← hPe] at HP ⊢
  clear hPe
  have a0 := HP.out.cell 0
  have a1 := HP.out.cell 1
  have a2 := HP.out.cell 2
  have a3 := HP.out.cell 3
  simp at a0 a1 a2 a3
  go_wp2_with fail
  go_at_call 7
  refine (HHv.out _ HD.out).mono ?_
  rintro r w1 ⟨⟨b, rfl⟩, b1⟩
  have HD1 := Lib.hid (after HD.out b1)
  have HP1 := Lib.hid (HP.out.below b1 HP.out.lt)
  clear a0 a1 a2 a3 HP HD b1
  cases b with
  | true =>
    go_wp2_with (go_at_call 8; (with_reducible refine (HWk.out _ HD1.out).mono ?_); rintro r wz ⟨rfl, bz⟩)
    go_ret
    exact ⟨rfl, after HD1.out bz⟩
  | false =>
  by_cases hl : 32768 < s.size
  · have hz : (32768 : Int) < (s.size : Int) := by omega
    clear hl
    go_wp2_with (go_at_call 8; (with_reducible refine (HWk.out _ HD1.out).mono ?_); rintro r wz ⟨rfl, bz⟩)
    go_ret
    exact ⟨rfl, after HD1.out bz⟩
  have hz : ¬ (32768 : Int) < (s.size : Int) := by omega
  have a0 := HP1.out.cell 0
  have a1 := HP1.out.cell 1
  have a2 := HP1.out.cell 2
  have a3 := HP1.out.cell 3
  simp at a0 a1 a2 a3
  have HCp' := Lib.hid (HCp.out _ HD1.out)
  by_cases ht : mayP p = true ∧ (textP p).length ≤ 8192
  case neg =>
    obtain ⟨E, hE, hE0⟩ := textR_not ht
    have htx := HTx.out
    rw [hE] at htx
    have HT := Lib.hid htx
    have qE : ((E : Int) == 0) = false := by simp; omega
    clear htx hE hE0 ht HTx HHv HCp
    go_upto_region 8 with (first
      | (go_at_call 10; refine HCp'.out.mono ?_; rintro r w2 ⟨⟨Y, rfl, hY⟩, ca⟩; have HD2 := Lib.hid (after HD1.out ca); have HR2 := Lib.hid hY; clear hY ca)
      | (go_at_call 9; refine (HT.out _ _ HD2.out HR2.out).mono ?_; rintro r w3 ⟨rfl, cb⟩; have HD3 := Lib.hid (after HD2.out cb); clear cb))
    clear a0 a1 a2 a3
    obtain ⟨⟨q, c, n, x⟩, hp⟩ : ∃ R, parseP s.data.toList = R := ⟨_, rfl⟩
    have hps := parse_some (HEnv.out.below HD3.out) s (by omega) hp
    by_cases hc : c = 0
    case neg =>
      have qc : ((c : Int) == 0) = false := by simp; omega
      have hq := parse_zero hp hc
      subst hq
      have HPs : RowKit.Hid (Calls Tryz.prog 11 #[.string s] w3 fun r w' => (∃ (Ag At Ah Aa : Option Addr) (cg ct ch ca : Nat), r = .returned (.tuple #[.agg #[.slice Ag 0 cg, .slice At 0 ct, .slice Ah 0 ch, .slice Aa 0 ca], .agg #[.int .i64 (c : Int), .int .i64 (n : Int), .int .i64 (x : Int)]]) ∧ PoRd w' ⟨.slice Ag 0 cg, .slice At 0 ct, .slice Ah 0 ch, .slice Aa 0 ca⟩ Po.zero) ∧ Below w3.heap.size w3 w') := Lib.hid hps
      clear hc hp hps
      go_upto_region 9 with (go_at_call 11; refine HPs.out.mono ?_; rintro r wp ⟨⟨Ag, At, Ah, Aa, cg, ct, ch, ca, rfl, hrd⟩, bp⟩)
      have hP := (Blk.new wp 26 #[.slice Ag 0 cg, .slice At 0 ct, .slice Ah 0 ch, .slice Aa 0 ca]).alloc (.cells #[.int .i64 (c : Int), .int .i64 (n : Int), .int .i64 (x : Int)] 34)
      have hF := Blk.new (wp.alloc (.cells #[.slice Ag 0 cg, .slice At 0 ct, .slice Ah 0 ch, .slice Aa 0 ca] 26)) 34 #[.int .i64 (c : Int), .int .i64 (n : Int), .int .i64 (x : Int)]
      rw [show (wp.alloc (.cells #[.slice Ag 0 cg, .slice At 0 ct, .slice Ah 0 ch, .slice Aa 0 ca] 26)).heap.size = wp.heap.size + 1 by simp] at hF
      have hD := after (boxed wp (.cells #[.slice Ag 0 cg, .slice At 0 ct, .slice Ah 0 ch, .slice Aa 0 ca] 26)) (boxed (wp.alloc (.cells #[.slice Ag 0 cg, .slice At 0 ct, .slice Ah 0 ch, .slice Aa 0 ca] 26)) (.cells #[.int .i64 (c : Int), .int .i64 (n : Int), .int .i64 (x : Int)] 34))
      have HQ := Lib.hid hP
      have HF := Lib.hid hF
      have HOq := Lib.hid hD
      have HDq := Lib.hid (after (after HD3.out bp) hD)
      clear hP hF hD
      generalize (wp.alloc (.cells #[.slice Ag 0 cg, .slice At 0 ct, .slice Ah 0 ch, .slice Aa 0 ca] 26)).alloc (.cells #[.int .i64 (c : Int), .int .i64 (n : Int), .int .i64 (x : Int)] 34) = wq at HQ HF HDq HOq ⊢
      generalize wp.heap.size + 1 = F at HF ⊢
      generalize wp.heap.size = Q at HQ ⊢
      have HS := Lib.hid (same_any Po.zero (hrd.below HOq.out) (PoRd.zero wq) PoFit.zero)
      have f0 := HF.out.cell 0
      simp at f0
      have q0 := HQ.out.cell 0
      have q1 := HQ.out.cell 1
      have q2 := HQ.out.cell 2
      have q3 := HQ.out.cell 3
      simp at q0 q1 q2 q3
      clear hrd bp
      go_wp2_with (first
        | (go_at_call 12; refine HS.out.mono ?_; rintro r wr ⟨rfl, br⟩; have HDr := Lib.hid (after HDq.out br))
        | (go_at_call 8; (with_reducible refine (HWk.out _ HDr.out).mono ?_); rintro r wz ⟨rfl, bz⟩))
      go_ret
      exact ⟨rfl, after HDr.out bz⟩
    obtain ⟨e1, hmq, hok⟩ := parse_may hp hc
    injection e1 with e2 e3
    injection e3 with e3 e4
    subst e2 e3 e4
    have hfq := hok.fit hmq
    have hps2 : Calls Tryz.prog 11 #[.string s] w3 fun r w' => (∃ (Ag At Ah Aa : Option Addr) (mg mt mh ma cg ct ch ca : Nat), r = .returned (.tuple #[.agg #[.slice Ag mg cg, .slice At mt ct, .slice Ah mh ch, .slice Aa ma ca], .agg #[.int .i64 0, .int .i64 0, .int .i64 0]]) ∧ PoRd w' ⟨.slice Ag mg cg, .slice At mt ct, .slice Ah mh ch, .slice Aa ma ca⟩ q) ∧ Below w3.heap.size w3 w' :=
      hps.mono fun r w' h => by
        obtain ⟨⟨Ag, At, Ah, Aa, cg, ct, ch, ca, h1, h3⟩, h2⟩ := h
        exact ⟨⟨Ag, At, Ah, Aa, _, _, _, _, cg, ct, ch, ca, h1, h3⟩, h2⟩
    have HPs := Lib.hid hps2
    have HFq := Lib.hid hfq
    have HBq := Lib.hid (back_text hok hmq)
    have HMq := Lib.hid hmq
    clear hps hps2 hp hc hfq hok hmq
    go_upto_region 9 with (go_at_call 11; refine HPs.out.mono ?_; rintro r wp ⟨⟨Ag, At, Ah, Aa, mg, mt, mh, ma, cg, ct, ch, ca, rfl, hrd⟩, bp⟩)
    have hP := (Blk.new wp 26 #[.slice Ag mg cg, .slice At mt ct, .slice Ah mh ch, .slice Aa ma ca]).alloc (.cells #[.int .i64 0, .int .i64 0, .int .i64 0] 34)
    have hF := Blk.new (wp.alloc (.cells #[.slice Ag mg cg, .slice At mt ct, .slice Ah mh ch, .slice Aa ma ca] 26)) 34 #[.int .i64 0, .int .i64 0, .int .i64 0]
    rw [show (wp.alloc (.cells #[.slice Ag mg cg, .slice At mt ct, .slice Ah mh ch, .slice Aa ma ca] 26)).heap.size = wp.heap.size + 1 by simp] at hF
    have hD := after (boxed wp (.cells #[.slice Ag mg cg, .slice At mt ct, .slice Ah mh ch, .slice Aa ma ca] 26)) (boxed (wp.alloc (.cells #[.slice Ag mg cg, .slice At mt ct, .slice Ah mh ch, .slice Aa ma ca] 26)) (.cells #[.int .i64 0, .int .i64 0, .int .i64 0] 34))
    have HQ := Lib.hid hP
    have HF := Lib.hid hF
    have HOq := Lib.hid hD
    have HDq := Lib.hid (after (after HD3.out bp) hD)
    clear hP hF hD
    generalize (wp.alloc (.cells #[.slice Ag mg cg, .slice At mt ct, .slice Ah mh ch, .slice Aa ma ca] 26)).alloc (.cells #[.int .i64 0, .int .i64 0, .int .i64 0] 34) = wq at HQ HF HDq HOq ⊢
    generalize wp.heap.size + 1 = F at HF ⊢
    generalize wp.heap.size = Q at HQ ⊢
    have HRq := Lib.hid (hrd.below HOq.out)
    have hcq := fun u (hu : Below wq.heap.size wq u) => copy_any q (HRq.out.below hu) HFq.out
    simp only at hcq
    have HCq := Lib.hid hcq
    have f0 := HF.out.cell 0
    simp at f0
    have q0 := HQ.out.cell 0
    have q1 := HQ.out.cell 1
    have q2 := HQ.out.cell 2
    have q3 := HQ.out.cell 3
    simp at q0 q1 q2 q3
    clear hrd bp hcq HPs
    have htq := fun u (V' : PoV) (hu : Below w.heap.size w u) (hr : PoRd u V' q) => policyText_any (HEnv.out.below hu) hr HFq.out
    by_cases hlq : (textP q).length ≤ 8192
    case neg =>
      rw [textR_long HMq.out hlq] at htq
      have HTq := Lib.hid htq
      clear htq
      go_upto_region 12 with (first
        | (go_at_call 10; refine (HCq.out _ (Below.refl _ _)).mono ?_; rintro r wr ⟨⟨Y, rfl, hY⟩, ca⟩; have HDr := Lib.hid (after HDq.out ca); have HRr := Lib.hid hY; clear hY ca)
        | (go_at_call 9; refine (HTq.out _ _ HDr.out HRr.out).mono ?_; rintro r ws ⟨rfl, cb⟩; have HDs := Lib.hid (after HDr.out cb); clear cb))
      go_wp2_with (go_at_call 8; (with_reducible refine (HWk.out _ HDs.out).mono ?_); rintro r wz ⟨rfl, bz⟩)
      go_ret
      exact ⟨rfl, after HDs.out bz⟩
    rw [textR_ok ⟨HMq.out, hlq⟩] at htq
    have HTq := Lib.hid htq
    have hpt := HBq.out hlq
    have hts : (ofL (textP q)).size ≤ 8192 := by show (textP q).toArray.size ≤ _; simpa using hlq
    have hpt' : parseP (ofL (textP q)).data.toList = (q, (0, 0, 0)) := hpt
    generalize ofL (textP q) = U at hts hpt' HTq
    have hps := fun u (hu : Below w.heap.size w u) => parse_some (HEnv.out.below hu) U (by omega) hpt'
    have HPs := Lib.hid hps
    clear htq hpt hpt' hps hlq HBq HMq
    go_upto_region 12 with (first
      | (go_at_call 10; refine (HCq.out _ (Below.refl _ _)).mono ?_; rintro r wr ⟨⟨Y, rfl, hY⟩, ca⟩; have HDr := Lib.hid (after HDq.out ca); have HRr := Lib.hid hY; have HOr := Lib.hid ca; clear hY ca)
      | (go_at_call 9; refine (HTq.out _ _ HDr.out HRr.out).mono ?_; rintro r ws ⟨rfl, cb⟩; have HDs := Lib.hid (after HDr.out cb); have HOs := Lib.hid (after HOr.out cb); clear cb))
    go_upto_region 15 with (go_at_call 11; refine (HPs.out _ HDs.out).mono ?_; rintro r wt ⟨⟨Bg, Bt, Bh, Ba, xg, xt, xh, xa, rfl, hrd⟩, bp⟩)
    have HOt := Lib.hid (after HOs.out bp)
    have hP := (Blk.new wt 26 #[.slice Bg q.groups.length xg, .slice Bt q.tags.length xt, .slice Bh q.hosts.length xh, .slice Ba q.acls.length xa]).alloc (.cells #[.int .i64 0, .int .i64 0, .int .i64 0] 34)
    have hF := Blk.new (wt.alloc (.cells #[.slice Bg q.groups.length xg, .slice Bt q.tags.length xt, .slice Bh q.hosts.length xh, .slice Ba q.acls.length xa] 26)) 34 #[.int .i64 0, .int .i64 0, .int .i64 0]
    rw [show (wt.alloc (.cells #[.slice Bg q.groups.length xg, .slice Bt q.tags.length xt, .slice Bh q.hosts.length xh, .slice Ba q.acls.length xa] 26)).heap.size = wt.heap.size + 1 by simp] at hF
    have hD := after (boxed wt (.cells #[.slice Bg q.groups.length xg, .slice Bt q.tags.length xt, .slice Bh q.hosts.length xh, .slice Ba q.acls.length xa] 26)) (boxed (wt.alloc (.cells #[.slice Bg q.groups.length xg, .slice Bt q.tags.length xt, .slice Bh q.hosts.length xh, .slice Ba q.acls.length xa] 26)) (.cells #[.int .i64 0, .int .i64 0, .int .i64 0] 34))
    have HQ2 := Lib.hid hP
    have HF2 := Lib.hid hF
    have HOu := Lib.hid hD
    have HDu := Lib.hid (after (after HDs.out bp) hD)
    clear hP hF hD
    generalize (wt.alloc (.cells #[.slice Bg q.groups.length xg, .slice Bt q.tags.length xt, .slice Bh q.hosts.length xh, .slice Ba q.acls.length xa] 26)).alloc (.cells #[.int .i64 0, .int .i64 0, .int .i64 0] 34) = wu at HQ2 HF2 HDu HOu ⊢
    generalize wt.heap.size + 1 = F2 at HF2 ⊢
    generalize wt.heap.size = Q2 at HQ2 ⊢
    have hou := after HOt.out HOu.out
    have HS := Lib.hid (same_any q (hrd.below HOu.out) (HRq.out.below hou) HFq.out)
    have HQ3 := HQ.out.below hou HQ.out.lt
    have t0 := HQ3.cell 0
    have t1 := HQ3.cell 1
    have t2 := HQ3.cell 2
    have t3 := HQ3.cell 3
    have g0 := HF2.out.cell 0
    have g1 := HF2.out.cell 1
    have g2 := HF2.out.cell 2
    have r0 := HQ2.out.cell 0
    have r1 := HQ2.out.cell 1
    have r2 := HQ2.out.cell 2
    have r3 := HQ2.out.cell 3
    simp at t0 t1 t2 t3 g0 g1 g2 r0 r1 r2 r3
    clear hrd bp hou HQ3
    go_wp2_with (first
      | (go_at_call 12; refine HS.out.mono ?_; rintro r wv ⟨rfl, bv⟩; have HDv := Lib.hid (after HDu.out bv))
      | (go_at_call 8; (with_reducible refine (HWk.out _ HDv.out).mono ?_); rintro r wz ⟨rfl, bz⟩))
    go_ret
    exact ⟨rfl, after HDv.out bz⟩
  have htx := HTx.out
  rw [textR_ok ht] at htx
  have HT := Lib.hid htx
  have hpt : parseP (ofL (textP p)).data.toList = (p, (0, 0, 0)) := back_text HFit.out.ok ht.1 ht.2
  have hts : (ofL (textP p)).size ≤ 8192 := by show (textP p).toArray.size ≤ _; simpa using ht.2
  generalize ofL (textP p) = U0 at hts hpt HT
  have hps := fun u (hu : Below w.heap.size w u) => parse_some (HEnv.out.below hu) U0 (by omega) hpt
  have HPs0 := Lib.hid hps
  clear htx ht hpt hps HTx HHv HCp
  go_upto_region 5 with (first
    | (go_at_call 10; refine HCp'.out.mono ?_; rintro r w2 ⟨⟨Y, rfl, hY⟩, ca⟩; have HD2 := Lib.hid (after HD1.out ca); have HO2 := Lib.hid ca; have HR2 := Lib.hid hY; clear hY ca)
    | (go_at_call 9; refine (HT.out _ _ HD2.out HR2.out).mono ?_; rintro r w3 ⟨rfl, cb⟩; have HD3 := Lib.hid (after HD2.out cb); have HO3 := Lib.hid (after HO2.out cb); clear cb))
  go_upto_region 6 with (go_at_call 11; refine (HPs0.out _ HD3.out).mono ?_; rintro r w4 ⟨⟨Bg, Bt, Bh, Ba, xg, xt, xh, xa, rfl, hrd⟩, bp⟩)
  have HO4 := Lib.hid (after HO3.out bp)
  have hP := (Blk.new w4 26 #[.slice Bg p.groups.length xg, .slice Bt p.tags.length xt, .slice Bh p.hosts.length xh, .slice Ba p.acls.length xa]).alloc (.cells #[.int .i64 0, .int .i64 0, .int .i64 0] 34)
  have hF := Blk.new (w4.alloc (.cells #[.slice Bg p.groups.length xg, .slice Bt p.tags.length xt, .slice Bh p.hosts.length xh, .slice Ba p.acls.length xa] 26)) 34 #[.int .i64 0, .int .i64 0, .int .i64 0]
  rw [show (w4.alloc (.cells #[.slice Bg p.groups.length xg, .slice Bt p.tags.length xt, .slice Bh p.hosts.length xh, .slice Ba p.acls.length xa] 26)).heap.size = w4.heap.size + 1 by simp] at hF
  have hD := after (boxed w4 (.cells #[.slice Bg p.groups.length xg, .slice Bt p.tags.length xt, .slice Bh p.hosts.length xh, .slice Ba p.acls.length xa] 26)) (boxed (w4.alloc (.cells #[.slice Bg p.groups.length xg, .slice Bt p.tags.length xt, .slice Bh p.hosts.length xh, .slice Ba p.acls.length xa] 26)) (.cells #[.int .i64 0, .int .i64 0, .int .i64 0] 34))
  have HQ0 := Lib.hid hP
  have HF0 := Lib.hid hF
  have HO5 := Lib.hid hD
  have HD5 := Lib.hid (after (after HD3.out bp) hD)
  clear hP hF hD
  generalize (w4.alloc (.cells #[.slice Bg p.groups.length xg, .slice Bt p.tags.length xt, .slice Bh p.hosts.length xh, .slice Ba p.acls.length xa] 26)).alloc (.cells #[.int .i64 0, .int .i64 0, .int .i64 0] 34) = w5 at HQ0 HF0 HD5 HO5 ⊢
  generalize w4.heap.size + 1 = F0 at HF0 ⊢
  generalize w4.heap.size = Q0 at HQ0 ⊢
  have hob := after HO4.out HO5.out
  have HS0 := Lib.hid (same_any p (HR.out.below HD5.out) (hrd.below HO5.out) HFit.out)
  have HP5 := Lib.hid (HP1.out.below hob HP1.out.lt)
  clear a0 a1 a2 a3
  have a0 := HP5.out.cell 0
  have a1 := HP5.out.cell 1
  have a2 := HP5.out.cell 2
  have a3 := HP5.out.cell 3
  simp at a0 a1 a2 a3
  have g0 := HF0.out.cell 0
  have g1 := HF0.out.cell 1
  have g2 := HF0.out.cell 2
  have r0 := HQ0.out.cell 0
  have r1 := HQ0.out.cell 1
  have r2 := HQ0.out.cell 2
  have r3 := HQ0.out.cell 3
  simp at g0 g1 g2 r0 r1 r2 r3
  clear hrd bp hob HPs0 HT HCp' hts
  go_upto_region 8 with (go_at_call 12; refine HS0.out.mono ?_; rintro r w6 ⟨rfl, b6⟩)
  have HD6 := Lib.hid (after HD5.out b6)
  clear a0 a1 a2 a3 g0 g1 g2 r0 r1 r2 r3 b6 HS0 HP5
  obtain ⟨⟨q, c, n, x⟩, hp⟩ : ∃ R, parseP s.data.toList = R := ⟨_, rfl⟩
  have hps := parse_some (HEnv.out.below HD6.out) s (by omega) hp
  by_cases hc : c = 0
  case neg =>
    have qc : ((c : Int) == 0) = false := by simp; omega
    have hq := parse_zero hp hc
    subst hq
    have HPs : RowKit.Hid (Calls Tryz.prog 11 #[.string s] w6 fun r w' => (∃ (Ag At Ah Aa : Option Addr) (cg ct ch ca : Nat), r = .returned (.tuple #[.agg #[.slice Ag 0 cg, .slice At 0 ct, .slice Ah 0 ch, .slice Aa 0 ca], .agg #[.int .i64 (c : Int), .int .i64 (n : Int), .int .i64 (x : Int)]]) ∧ PoRd w' ⟨.slice Ag 0 cg, .slice At 0 ct, .slice Ah 0 ch, .slice Aa 0 ca⟩ Po.zero) ∧ Below w6.heap.size w6 w') := Lib.hid hps
    clear hc hp hps
    go_upto_region 9 with (go_at_call 11; refine HPs.out.mono ?_; rintro r wp ⟨⟨Ag, At, Ah, Aa, cg, ct, ch, ca, rfl, hrd⟩, bp⟩)
    have hP := (Blk.new wp 26 #[.slice Ag 0 cg, .slice At 0 ct, .slice Ah 0 ch, .slice Aa 0 ca]).alloc (.cells #[.int .i64 (c : Int), .int .i64 (n : Int), .int .i64 (x : Int)] 34)
    have hF := Blk.new (wp.alloc (.cells #[.slice Ag 0 cg, .slice At 0 ct, .slice Ah 0 ch, .slice Aa 0 ca] 26)) 34 #[.int .i64 (c : Int), .int .i64 (n : Int), .int .i64 (x : Int)]
    rw [show (wp.alloc (.cells #[.slice Ag 0 cg, .slice At 0 ct, .slice Ah 0 ch, .slice Aa 0 ca] 26)).heap.size = wp.heap.size + 1 by simp] at hF
    have hD := after (boxed wp (.cells #[.slice Ag 0 cg, .slice At 0 ct, .slice Ah 0 ch, .slice Aa 0 ca] 26)) (boxed (wp.alloc (.cells #[.slice Ag 0 cg, .slice At 0 ct, .slice Ah 0 ch, .slice Aa 0 ca] 26)) (.cells #[.int .i64 (c : Int), .int .i64 (n : Int), .int .i64 (x : Int)] 34))
    have HQ := Lib.hid hP
    have HF := Lib.hid hF
    have HOq := Lib.hid hD
    have HDq := Lib.hid (after (after HD6.out bp) hD)
    clear hP hF hD
    generalize (wp.alloc (.cells #[.slice Ag 0 cg, .slice At 0 ct, .slice Ah 0 ch, .slice Aa 0 ca] 26)).alloc (.cells #[.int .i64 (c : Int), .int .i64 (n : Int), .int .i64 (x : Int)] 34) = wq at HQ HF HDq HOq ⊢
    generalize wp.heap.size + 1 = F at HF ⊢
    generalize wp.heap.size = Q at HQ ⊢
    have HS := Lib.hid (same_any Po.zero (hrd.below HOq.out) (PoRd.zero wq) PoFit.zero)
    have f0 := HF.out.cell 0
    simp at f0
    have q0 := HQ.out.cell 0
    have q1 := HQ.out.cell 1
    have q2 := HQ.out.cell 2
    have q3 := HQ.out.cell 3
    simp at q0 q1 q2 q3
    clear hrd bp
    go_wp2_with (first
      | (go_at_call 12; refine HS.out.mono ?_; rintro r wr ⟨rfl, br⟩; have HDr := Lib.hid (after HDq.out br))
      | (go_at_call 8; (with_reducible refine (HWk.out _ HDr.out).mono ?_); rintro r wz ⟨rfl, bz⟩))
    go_ret
    exact ⟨rfl, after HDr.out bz⟩
  obtain ⟨e1, hmq, hok⟩ := parse_may hp hc
  injection e1 with e2 e3
  injection e3 with e3 e4
  subst e2 e3 e4
  have hfq := hok.fit hmq
  have hps2 : Calls Tryz.prog 11 #[.string s] w6 fun r w' => (∃ (Ag At Ah Aa : Option Addr) (mg mt mh ma cg ct ch ca : Nat), r = .returned (.tuple #[.agg #[.slice Ag mg cg, .slice At mt ct, .slice Ah mh ch, .slice Aa ma ca], .agg #[.int .i64 0, .int .i64 0, .int .i64 0]]) ∧ PoRd w' ⟨.slice Ag mg cg, .slice At mt ct, .slice Ah mh ch, .slice Aa ma ca⟩ q) ∧ Below w6.heap.size w6 w' :=
    hps.mono fun r w' h => by
      obtain ⟨⟨Ag, At, Ah, Aa, cg, ct, ch, ca, h1, h3⟩, h2⟩ := h
      exact ⟨⟨Ag, At, Ah, Aa, _, _, _, _, cg, ct, ch, ca, h1, h3⟩, h2⟩
  have HPs := Lib.hid hps2
  have HFq := Lib.hid hfq
  have HBq := Lib.hid (back_text hok hmq)
  have HMq := Lib.hid hmq
  clear hps hps2 hp hc hfq hok hmq
  go_upto_region 9 with (go_at_call 11; refine HPs.out.mono ?_; rintro r wp ⟨⟨Ag, At, Ah, Aa, mg, mt, mh, ma, cg, ct, ch, ca, rfl, hrd⟩, bp⟩)
  have hP := (Blk.new wp 26 #[.slice Ag mg cg, .slice At mt ct, .slice Ah mh ch, .slice Aa ma ca]).alloc (.cells #[.int .i64 0, .int .i64 0, .int .i64 0] 34)
  have hF := Blk.new (wp.alloc (.cells #[.slice Ag mg cg, .slice At mt ct, .slice Ah mh ch, .slice Aa ma ca] 26)) 34 #[.int .i64 0, .int .i64 0, .int .i64 0]
  rw [show (wp.alloc (.cells #[.slice Ag mg cg, .slice At mt ct, .slice Ah mh ch, .slice Aa ma ca] 26)).heap.size = wp.heap.size + 1 by simp] at hF
  have hD := after (boxed wp (.cells #[.slice Ag mg cg, .slice At mt ct, .slice Ah mh ch, .slice Aa ma ca] 26)) (boxed (wp.alloc (.cells #[.slice Ag mg cg, .slice At mt ct, .slice Ah mh ch, .slice Aa ma ca] 26)) (.cells #[.int .i64 0, .int .i64 0, .int .i64 0] 34))
  have HQ := Lib.hid hP
  have HF := Lib.hid hF
  have HOq := Lib.hid hD
  have HDq := Lib.hid (after (after HD6.out bp) hD)
  clear hP hF hD
  generalize (wp.alloc (.cells #[.slice Ag mg cg, .slice At mt ct, .slice Ah mh ch, .slice Aa ma ca] 26)).alloc (.cells #[.int .i64 0, .int .i64 0, .int .i64 0] 34) = wq at HQ HF HDq HOq ⊢
  generalize wp.heap.size + 1 = F at HF ⊢
  generalize wp.heap.size = Q at HQ ⊢
  have HRq := Lib.hid (hrd.below HOq.out)
  have hcq := fun u (hu : Below wq.heap.size wq u) => copy_any q (HRq.out.below hu) HFq.out
  simp only at hcq
  have HCq := Lib.hid hcq
  have f0 := HF.out.cell 0
  simp at f0
  have q0 := HQ.out.cell 0
  have q1 := HQ.out.cell 1
  have q2 := HQ.out.cell 2
  have q3 := HQ.out.cell 3
  simp at q0 q1 q2 q3
  clear hrd bp hcq HPs
  have htq := fun u (V' : PoV) (hu : Below w.heap.size w u) (hr : PoRd u V' q) => policyText_any (HEnv.out.below hu) hr HFq.out
  by_cases hlq : (textP q).length ≤ 8192
  case neg =>
    rw [textR_long HMq.out hlq] at htq
    have HTq := Lib.hid htq
    clear htq
    go_upto_region 12 with (first
      | (go_at_call 10; refine (HCq.out _ (Below.refl _ _)).mono ?_; rintro r wr ⟨⟨Y, rfl, hY⟩, ca⟩; have HDr := Lib.hid (after HDq.out ca); have HRr := Lib.hid hY; clear hY ca)
      | (go_at_call 9; refine (HTq.out _ _ HDr.out HRr.out).mono ?_; rintro r ws ⟨rfl, cb⟩; have HDs := Lib.hid (after HDr.out cb); clear cb))
    go_wp2_with (go_at_call 8; (with_reducible refine (HWk.out _ HDs.out).mono ?_); rintro r wz ⟨rfl, bz⟩)
    go_ret
    exact ⟨rfl, after HDs.out bz⟩
  rw [textR_ok ⟨HMq.out, hlq⟩] at htq
  have HTq := Lib.hid htq
  have hpt := HBq.out hlq
  have hts : (ofL (textP q)).size ≤ 8192 := by show (textP q).toArray.size ≤ _; simpa using hlq
  have hpt' : parseP (ofL (textP q)).data.toList = (q, (0, 0, 0)) := hpt
  generalize ofL (textP q) = U at hts hpt' HTq
  have hps := fun u (hu : Below w.heap.size w u) => parse_some (HEnv.out.below hu) U (by omega) hpt'
  have HPs := Lib.hid hps
  clear htq hpt hpt' hps hlq HBq HMq
  go_upto_region 12 with (first
    | (go_at_call 10; refine (HCq.out _ (Below.refl _ _)).mono ?_; rintro r wr ⟨⟨Y, rfl, hY⟩, ca⟩; have HDr := Lib.hid (after HDq.out ca); have HRr := Lib.hid hY; have HOr := Lib.hid ca; clear hY ca)
    | (go_at_call 9; refine (HTq.out _ _ HDr.out HRr.out).mono ?_; rintro r ws ⟨rfl, cb⟩; have HDs := Lib.hid (after HDr.out cb); have HOs := Lib.hid (after HOr.out cb); clear cb))
  go_upto_region 15 with (go_at_call 11; refine (HPs.out _ HDs.out).mono ?_; rintro r wt ⟨⟨Bg, Bt, Bh, Ba, xg, xt, xh, xa, rfl, hrd⟩, bp⟩)
  have HOt := Lib.hid (after HOs.out bp)
  have hP := (Blk.new wt 26 #[.slice Bg q.groups.length xg, .slice Bt q.tags.length xt, .slice Bh q.hosts.length xh, .slice Ba q.acls.length xa]).alloc (.cells #[.int .i64 0, .int .i64 0, .int .i64 0] 34)
  have hF := Blk.new (wt.alloc (.cells #[.slice Bg q.groups.length xg, .slice Bt q.tags.length xt, .slice Bh q.hosts.length xh, .slice Ba q.acls.length xa] 26)) 34 #[.int .i64 0, .int .i64 0, .int .i64 0]
  rw [show (wt.alloc (.cells #[.slice Bg q.groups.length xg, .slice Bt q.tags.length xt, .slice Bh q.hosts.length xh, .slice Ba q.acls.length xa] 26)).heap.size = wt.heap.size + 1 by simp] at hF
  have hD := after (boxed wt (.cells #[.slice Bg q.groups.length xg, .slice Bt q.tags.length xt, .slice Bh q.hosts.length xh, .slice Ba q.acls.length xa] 26)) (boxed (wt.alloc (.cells #[.slice Bg q.groups.length xg, .slice Bt q.tags.length xt, .slice Bh q.hosts.length xh, .slice Ba q.acls.length xa] 26)) (.cells #[.int .i64 0, .int .i64 0, .int .i64 0] 34))
  have HQ2 := Lib.hid hP
  have HF2 := Lib.hid hF
  have HOu := Lib.hid hD
  have HDu := Lib.hid (after (after HDs.out bp) hD)
  clear hP hF hD
  generalize (wt.alloc (.cells #[.slice Bg q.groups.length xg, .slice Bt q.tags.length xt, .slice Bh q.hosts.length xh, .slice Ba q.acls.length xa] 26)).alloc (.cells #[.int .i64 0, .int .i64 0, .int .i64 0] 34) = wu at HQ2 HF2 HDu HOu ⊢
  generalize wt.heap.size + 1 = F2 at HF2 ⊢
  generalize wt.heap.size = Q2 at HQ2 ⊢
  have hou := after HOt.out HOu.out
  have HS := Lib.hid (same_any q (hrd.below HOu.out) (HRq.out.below hou) HFq.out)
  have HQ3 := HQ.out.below hou HQ.out.lt
  have t0 := HQ3.cell 0
  have t1 := HQ3.cell 1
  have t2 := HQ3.cell 2
  have t3 := HQ3.cell 3
  have g0 := HF2.out.cell 0
  have g1 := HF2.out.cell 1
  have g2 := HF2.out.cell 2
  have r0 := HQ2.out.cell 0
  have r1 := HQ2.out.cell 1
  have r2 := HQ2.out.cell 2
  have r3 := HQ2.out.cell 3
  simp at t0 t1 t2 t3 g0 g1 g2 r0 r1 r2 r3
  clear hrd bp hou HQ3
  go_wp2_with (first
    | (go_at_call 12; refine HS.out.mono ?_; rintro r wv ⟨rfl, bv⟩; have HDv := Lib.hid (after HDu.out bv))
    | (go_at_call 8; (with_reducible refine (HWk.out _ HDv.out).mono ?_); rintro r wz ⟨rfl, bz⟩))
  go_ret
  exact ⟨rfl, after HDv.out bz⟩
end Go.Proofs.YtbiglifngfgffaaGreatDoor
