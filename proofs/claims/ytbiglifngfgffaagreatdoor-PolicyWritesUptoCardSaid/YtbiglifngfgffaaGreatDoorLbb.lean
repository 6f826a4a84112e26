/- Joined out of: HvA RwN. -/
import Derived.Test.YtbiglifngfgffaaGreatDoorLau
import Derived.Test.YtbiglifngfgffaaGreatDoorLax
import Derived.Test.YtbiglifngfgffaaGreatDoorLba
import Derived.Test.YtbiglifngfgffaaGreatDoorLas
set_option linter.unusedVariables false
set_option linter.unusedSimpArgs false

/- More than a statement writes (heavy): the walk: it answers. -/
namespace Go.Proofs.YtbiglifngfgffaaGreatDoor
open Go.RowKit
attribute [local go_sem ↓] Go.wp_at_zero Go.wp_at_succ

set_option maxHeartbeats 16000000 in
set_option maxRecDepth 100000 in
theorem heavy_any {w : World} (p : Po) {V : PoV} (h : PoRd w V p) (hf : PoFit p) :
    Calls Tryz.prog 7 #[.agg #[V.g, V.t, V.h, V.a]] w fun r w' => (∃ b : Bool, r = .returned (.bool b)) ∧ Below w.heap.size w w' := by
  obtain ⟨xg, hxg, h1, i1⟩ := h.g
  obtain ⟨xt, hxt, h2, i2⟩ := h.t
  have h3 := h.h
  obtain ⟨xa, hxa, h4, i4⟩ := h.a
  obtain ⟨Ag, cg, eg⟩ := h1.shape
  obtain ⟨At, ct, et⟩ := h2.shape
  obtain ⟨Ah, ch, eh⟩ := h3.shape
  obtain ⟨Aa, ca, ea⟩ := h4.shape
  rw [eg] at h1
  rw [et] at h2
  rw [eh] at h3
  rw [ea] at h4
  rw [eg, et, eh, ea]
  clear eg et eh ea h
  obtain ⟨NG, hNG⟩ : ∃ n, n = p.groups.length := ⟨_, rfl⟩
  obtain ⟨NT, hNT⟩ : ∃ n, n = p.tags.length := ⟨_, rfl⟩
  obtain ⟨NH, hNH⟩ : ∃ n, n = p.hosts.length := ⟨_, rfl⟩
  obtain ⟨NA, hNA⟩ : ∃ n, n = p.acls.length := ⟨_, rfl⟩
  have l1 := hf.gl
  have l2 := hf.tl
  have l3 := hf.hl
  have l4 := hf.al
  rw [← hNG] at h1 l1 ⊢
  rw [← hNT] at h2 l2 ⊢
  rw [← hNH] at h3 l3 ⊢
  rw [← hNA] at h4 l4 ⊢
  have H1 := Lib.hid h1
  have H2 := Lib.hid h2
  have H3 := Lib.hid h3
  have H4 := Lib.hid h4
  have I1 := Lib.hid i1
  have I2 := Lib.hid i2
  have I4 := Lib.hid i4
  have HXg := Lib.hid hxg
  have HXt := Lib.hid hxt
  have HXa := Lib.hid hxa
  have HNG := Lib.hid hNG
  have HNT := Lib.hid hNT
  have HNH := Lib.hid hNH
  have HNA := Lib.hid hNA
  have HFit := Lib.hid hf
  clear h1 h2 h3 h4 i1 i2 i4 hxg hxt hxa hNG hNT hNH hNA hf
  go_enter Tryz.func7, Tryz.ntmps7
  go_upto_region 1 with fail
  have hP := Blk.new w 26 #[.slice Ag NG cg, .slice At NT ct, .slice Ah NH ch, .slice Aa NA ca]
  have hD := boxed w (.cells #[.slice Ag NG cg, .slice At NT ct, .slice Ah NH ch, .slice Aa NA ca] 26)
  have HP := Lib.hid hP
  have HD := Lib.hid hD
  clear hP hD
  generalize w.alloc (.cells #[.slice Ag NG cg, .slice At NT ct, .slice Ah NH ch, .slice Aa NA ca] 26) = w2 at HP HD ⊢
  obtain ⟨P, hPe⟩ : ∃ P, P = w.heap.size := ⟨_, rfl⟩
  rw [← hPe] at HP ⊢
  clear hPe
  have a0 := HP.out.cell 0
  have a1 := HP.out.cell 1
  have a2 := HP.out.cell 2
  have a3 := HP.out.cell 3
  simp at a0 a1 a2 a3
  by_cases h400 : 400 < NG + NT + NH + NA
  · have q1 : (400 : Int) < (NG : Int) + (NT : Int) + (NH : Int) + (NA : Int) := by omega
    clear h400
    go_wp2_with fail
    go_ret
    exact ⟨⟨_, rfl⟩, HD.out⟩
  have q1 : ¬ (400 : Int) < (NG : Int) + (NT : Int) + (NH : Int) + (NA : Int) := by omega
  go_wp2_with fail
  clear q1 h400 a0 a1 a2 a3
  go_loopw [3, 5] (fun v3 v5 wr => ∃ (k : Nat) (z : Int), k ≤ NG + NT ∧ v3 = .int .i64 z ∧ v5 = .int .i64 (k : Int) ∧ RowKit.Hid (Below w.heap.size w wr) ∧ RowKit.Hid (Blk wr P 26 #[.slice Ag NG cg, .slice At NT ct, .slice Ah NH ch, .slice Aa NA ca])) (fun _ v5 _ => NG + NT - (intOf v5).toNat)
  case atStart => exact ⟨0, 0, Nat.zero_le _, rfl, rfl, HD, HP⟩
  case round =>
    clear HD HP
    obtain ⟨k, z, hk, rfl, rfl, HD, HP⟩ := hrel
    have a0 := HP.out.cell 0
    have a1 := HP.out.cell 1
    simp at a0 a1
    obtain ⟨wo, rfl⟩ : ∃ wo : World, wo = wr := ⟨_, rfl⟩
    by_cases hlt : k < NG + NT
    case pos =>
      by_cases hg : k < NG
      · have qg : (k : Int) < (NG : Int) + (NT : Int) := by omega
        have hlx := congrArg List.length HXg.out
        rw [List.length_map] at hlx
        have hkl : k < p.groups.length := by have := HNG.out; omega
        obtain ⟨X, hX⟩ : ∃ X, xg[k]? = some X := ⟨_, List.getElem?_eq_getElem (by omega)⟩
        have hXl : p.groups[k]? = some X.1 := by rw [← HXg.out, List.getElem?_map, hX]; rfl
        have hcx := nmCells_at (xg.map nmPair) k (nmPair X) (by rw [List.getElem?_map, hX]; rfl)
        obtain ⟨q, o, rfl, hc⟩ := H1.out.cell HD.out (by omega)
        have d0 := hc _ _ hcx.1
        have d1 := hc _ _ hcx.2
        rw [← Nat.add_assoc] at d1
        have rX := I1.out X (List.mem_of_getElem? hX)
        have hXf := HFit.out.g X.1 (List.mem_of_getElem? hXl)
        obtain ⟨⟨nm, ls⟩, lv⟩ := X
        unfold nmPair at d0 d1
        simp only at d0 d1 rX hXf
        obtain ⟨A2, c2, rfl⟩ := rX.shape
        obtain ⟨n2, hn2⟩ : ∃ n, n = ls.length := ⟨_, rfl⟩
        rw [← hn2] at d1 rX
        have hl2 : n2 ≤ 2000000 := by have := hXf.len; simp only at this; omega
        have HN2 := Lib.hid hn2
        have HXl := Lib.hid hXl
        have HRX := Lib.hid rX
        clear hlx hkl hX hXl hcx hc rX hXf hn2
        have bx := boxed wo (.cells #[.string ⟨#[]⟩, .slice none 0 0] 46)
        have HPx := HP.out.alloc (.cells #[.string ⟨#[]⟩, .slice none 0 0] 46)
        have b0 := HPx.cell 0
        have b1 := HPx.cell 1
        simp at b0 b1
        have e0 := below_cell d0 bx
        have e1 := below_cell d1 bx
        go_upto_region 12 with fail
        clear b0 b1 e0 e1 HPx bx
        have M1 := Lib.hid (Blk.new wo 46 #[.string nm, .slice A2 n2 c2])
        have q1 := boxed wo (.cells #[.string nm, .slice A2 n2 c2] 46)
        have HD1 := Lib.hid (after HD.out q1)
        have HP1 := Lib.hid (HP.out.below q1 HP.out.lt)
        generalize wo.alloc (.cells #[.string nm, .slice A2 n2 c2] 46) = w5 at M1 HD1 HP1 q1 ⊢
        generalize wo.heap.size = M at M1 ⊢
        clear q1 HD HP d0 d1 a0 a1
        have m0 := M1.out.cell 0
        have m1 := M1.out.cell 1
        simp at m0 m1
        go_wp2_with fail
        clear m0 m1
        go_loopw [3, 7] (fun v3 v7 wr => ∃ (i : Nat) (y : Int), i ≤ n2 ∧ v3 = .int .i64 y ∧ v7 = .int .i64 (i : Int) ∧ RowKit.Hid (Below w.heap.size w wr) ∧ RowKit.Hid (Blk wr P 26 #[.slice (some ⟨q, o, none⟩) NG cg, .slice At NT ct, .slice Ah NH ch, .slice Aa NA ca]) ∧ RowKit.Hid (Blk wr M 46 #[.string nm, .slice A2 n2 c2])) (fun _ v7 _ => n2 - (intOf v7).toNat)
        case atStart => exact ⟨0, _, Nat.zero_le _, rfl, rfl, HD1, HP1, M1⟩
        case round =>
          clear HD1 HP1 M1
          obtain ⟨i, y, hi, rfl, rfl, HD1, HP1, M1⟩ := hrel
          have m1 := M1.out.cell 1
          simp at m1
          by_cases hlt2 : i < n2 ∧ i < 200
          · obtain ⟨h2a, h2b⟩ := hlt2
            have hkl2 : i < ls.length := by have := HN2.out; omega
            obtain ⟨q2, o2, rfl, hc2⟩ := HRX.out.cell HD1.out (by omega)
            have ds := hc2 _ _ (strCells_at (List.getElem?_eq_getElem hkl2))
            have hsf := HFit.out.g ⟨nm, ls⟩ (List.mem_of_getElem? HXl.out)
            generalize ls[i] = s at ds
            clear hc2 hkl2 hsf
            go_wp2_with fail
            go_roundw
            case rel => exact ⟨i + 1, _, by omega, rfl, by go_num, HD1, HP1, M1⟩
            case measure => simp [intOf]; omega
          · by_cases hn2 : i < n2
            · have h200 : ¬ i < 200 := fun h => hlt2 ⟨hn2, h⟩
              go_wp2_with fail
              go_roundw
              case rel => exact ⟨k + 1, _, by omega, rfl, by go_num, HD1, HP1⟩
              case measure => simp [intOf]; omega
            · go_wp2_with fail
              go_roundw
              case rel => exact ⟨k + 1, _, by omega, rfl, by go_num, HD1, HP1⟩
              case measure => simp [intOf]; omega
      · obtain ⟨j, rfl⟩ : ∃ j, k = NG + j := ⟨k - NG, by omega⟩
        have ej : ((NG + j : Nat) : Int) - (NG : Int) = (j : Int) := by omega
        have hlx := congrArg List.length HXt.out
        rw [List.length_map] at hlx
        have hkl : j < p.tags.length := by have := HNT.out; omega
        obtain ⟨X, hX⟩ : ∃ X, xt[j]? = some X := ⟨_, List.getElem?_eq_getElem (by omega)⟩
        have hXl : p.tags[j]? = some X.1 := by rw [← HXt.out, List.getElem?_map, hX]; rfl
        have hcx := nmCells_at (xt.map nmPair) j (nmPair X) (by rw [List.getElem?_map, hX]; rfl)
        obtain ⟨q, o, rfl, hc⟩ := H2.out.cell HD.out (by omega)
        have d0 := hc _ _ hcx.1
        have d1 := hc _ _ hcx.2
        rw [← Nat.add_assoc] at d1
        have rX := I2.out X (List.mem_of_getElem? hX)
        have hXf := HFit.out.t X.1 (List.mem_of_getElem? hXl)
        obtain ⟨⟨nm, ls⟩, lv⟩ := X
        unfold nmPair at d0 d1
        simp only at d0 d1 rX hXf
        obtain ⟨A2, c2, rfl⟩ := rX.shape
        obtain ⟨n2, hn2⟩ : ∃ n, n = ls.length := ⟨_, rfl⟩
        rw [← hn2] at d1 rX
        have hl2 : n2 ≤ 2000000 := by have := hXf.len; simp only at this; omega
        have HN2 := Lib.hid hn2
        have HXl := Lib.hid hXl
        have HRX := Lib.hid rX
        clear hlx hkl hX hXl hcx hc rX hXf hn2
        have bx := boxed wo (.cells #[.string ⟨#[]⟩, .slice none 0 0] 46)
        have HPx := HP.out.alloc (.cells #[.string ⟨#[]⟩, .slice none 0 0] 46)
        have b0 := HPx.cell 0
        have b1 := HPx.cell 1
        simp at b0 b1
        have e0 := below_cell d0 bx
        have e1 := below_cell d1 bx
        go_upto_region 12 with fail
        clear b0 b1 e0 e1 HPx bx
        have M1 := Lib.hid (Blk.new wo 46 #[.string nm, .slice A2 n2 c2])
        have q1 := boxed wo (.cells #[.string nm, .slice A2 n2 c2] 46)
        have HD1 := Lib.hid (after HD.out q1)
        have HP1 := Lib.hid (HP.out.below q1 HP.out.lt)
        generalize wo.alloc (.cells #[.string nm, .slice A2 n2 c2] 46) = w5 at M1 HD1 HP1 q1 ⊢
        generalize wo.heap.size = M at M1 ⊢
        clear q1 HD HP d0 d1 a0 a1
        have m0 := M1.out.cell 0
        have m1 := M1.out.cell 1
        simp at m0 m1
        go_wp2_with fail
        clear m0 m1
        go_loopw [3, 7] (fun v3 v7 wr => ∃ (i : Nat) (y : Int), i ≤ n2 ∧ v3 = .int .i64 y ∧ v7 = .int .i64 (i : Int) ∧ RowKit.Hid (Below w.heap.size w wr) ∧ RowKit.Hid (Blk wr P 26 #[.slice Ag NG cg, .slice (some ⟨q, o, none⟩) NT ct, .slice Ah NH ch, .slice Aa NA ca]) ∧ RowKit.Hid (Blk wr M 46 #[.string nm, .slice A2 n2 c2])) (fun _ v7 _ => n2 - (intOf v7).toNat)
        case atStart => exact ⟨0, _, Nat.zero_le _, rfl, rfl, HD1, HP1, M1⟩
        case round =>
          clear HD1 HP1 M1
          obtain ⟨i, y, hi, rfl, rfl, HD1, HP1, M1⟩ := hrel
          have m1 := M1.out.cell 1
          simp at m1
          by_cases hlt2 : i < n2 ∧ i < 200
          · obtain ⟨h2a, h2b⟩ := hlt2
            have hkl2 : i < ls.length := by have := HN2.out; omega
            obtain ⟨q2, o2, rfl, hc2⟩ := HRX.out.cell HD1.out (by omega)
            have ds := hc2 _ _ (strCells_at (List.getElem?_eq_getElem hkl2))
            have hsf := HFit.out.t ⟨nm, ls⟩ (List.mem_of_getElem? HXl.out)
            generalize ls[i] = s at ds
            clear hc2 hkl2 hsf
            go_wp2_with fail
            go_roundw
            case rel => exact ⟨i + 1, _, by omega, rfl, by go_num, HD1, HP1, M1⟩
            case measure => simp [intOf]; omega
          · by_cases hn2 : i < n2
            · have h200 : ¬ i < 200 := fun h => hlt2 ⟨hn2, h⟩
              go_wp2_with fail
              go_roundw
              case rel => exact ⟨(NG + j) + 1, _, by omega, rfl, by go_num, HD1, HP1⟩
              case measure => simp [intOf]; omega
            · go_wp2_with fail
              go_roundw
              case rel => exact ⟨(NG + j) + 1, _, by omega, rfl, by go_num, HD1, HP1⟩
              case measure => simp [intOf]; omega
    obtain rfl : NG + NT = k := by omega
    go_wp2_with fail
    clear a0 a1
    go_loopw [3, 8] (fun v3 v8 wr => ∃ (k : Nat) (z : Int), k ≤ NH ∧ v3 = .int .i64 z ∧ v8 = .int .i64 (k : Int) ∧ RowKit.Hid (Below w.heap.size w wr) ∧ RowKit.Hid (Blk wr P 26 #[.slice Ag NG cg, .slice At NT ct, .slice Ah NH ch, .slice Aa NA ca])) (fun _ v8 _ => NH - (intOf v8).toNat)
    case atStart => exact ⟨0, _, Nat.zero_le _, rfl, rfl, HD, HP⟩
    case round =>
      clear HD HP
      obtain ⟨k, z, hk, rfl, rfl, HD, HP⟩ := hrel
      have a2 := HP.out.cell 2
      simp at a2
      by_cases hlt : k < NH
      case pos =>
        have hkl : k < p.hosts.length := by have := HNH.out; omega
        obtain ⟨q, o, rfl, hc⟩ := H3.out.cell HD.out (by omega)
        have d0 := hc _ _ (hsCells_at p.hosts k _ (List.getElem?_eq_getElem hkl)).1
        generalize p.hosts[k] = Y at d0
        obtain ⟨nm, Yn⟩ := Y
        simp only at d0
        clear hc hkl
        go_wp2_with fail
        go_roundw
        case rel => exact ⟨k + 1, _, by omega, rfl, by go_num, HD, HP⟩
        case measure => simp [intOf]; omega
      obtain rfl : NH = k := by omega
      have a3 := HP.out.cell 3
      simp at a3
      go_wp2_with fail
      clear a2 a3
      go_loopw [3, 9] (fun v3 v9 wr => ∃ (k : Nat) (z : Int), k ≤ NA ∧ v3 = .int .i64 z ∧ v9 = .int .i64 (k : Int) ∧ RowKit.Hid (Below w.heap.size w wr) ∧ RowKit.Hid (Blk wr P 26 #[.slice Ag NG cg, .slice At NT ct, .slice Ah NH ch, .slice Aa NA ca])) (fun _ v9 _ => NA - (intOf v9).toNat)
      case atStart => exact ⟨0, _, Nat.zero_le _, rfl, rfl, HD, HP⟩
      case round =>
        clear HD HP
        obtain ⟨k, z, hk, rfl, rfl, HD, HP⟩ := hrel
        have a3 := HP.out.cell 3
        simp at a3
        by_cases hlt : k < NA
        case pos =>
          obtain ⟨wo, rfl⟩ : ∃ wo : World, wo = wr := ⟨_, rfl⟩
          have hlx := congrArg List.length HXa.out
          rw [List.length_map] at hlx
          obtain ⟨X, hX⟩ : ∃ X, xa[k]? = some X := ⟨_, List.getElem?_eq_getElem (by have := HNA.out; omega)⟩
          have hXl : p.acls[k]? = some X.a := by rw [← HXa.out, List.getElem?_map, hX]; rfl
          obtain ⟨q, o, rfl, hc⟩ := H4.out.cell HD.out (by omega)
          obtain ⟨e0, e1, e2, e3⟩ := acCells_at xa k X hX
          have d0 := hc _ _ e0
          have d1 := hc _ _ e1
          have d2 := hc _ _ e2
          have d3 := hc _ _ e3
          rw [← Nat.add_assoc] at d1 d2 d3
          have rX := I4.out X (List.mem_of_getElem? hX)
          have hXf := HFit.out.a X.a (List.mem_of_getElem? hXl)
          obtain ⟨A1, c1, g1⟩ := rX.p.shape
          obtain ⟨A2, c2, g2⟩ := rX.s.shape
          obtain ⟨A3, c3, g3⟩ := rX.d.shape
          obtain ⟨A4, c4, g4⟩ := rX.o.shape
          have rs := rX.s
          have rd := rX.d
          rw [g1] at d0
          rw [g2] at d1 rs
          rw [g3] at d2 rd
          rw [g4] at d3
          have f1 := hXf.pl
          have f2 := hXf.sl
          have f3 := hXf.dl
          have f4 := hXf.ol
          obtain ⟨n1, hn1⟩ : ∃ n, n = X.a.protos.length := ⟨_, rfl⟩
          obtain ⟨n2, hn2⟩ : ∃ n, n = X.a.src.length := ⟨_, rfl⟩
          obtain ⟨n3, hn3⟩ : ∃ n, n = X.a.dst.length := ⟨_, rfl⟩
          obtain ⟨n4, hn4⟩ : ∃ n, n = X.a.ports.length := ⟨_, rfl⟩
          rw [← hn1] at d0 f1
          rw [← hn2] at d1 rs f2
          rw [← hn3] at d2 rd f3
          rw [← hn4] at d3 f4
          have HN2 := Lib.hid hn2
          have HN3 := Lib.hid hn3
          have RS := Lib.hid rs
          have RD := Lib.hid rd
          clear hlx hX hXl hc e0 e1 e2 e3 rX hXf g1 g2 g3 g4 hn1 hn2 hn3 hn4 rs rd
          generalize X.a.src = lsrc at HN2 RS
          generalize X.a.dst = ldst at HN3 RD
          go_upto_region 25 with fail
          have M1 := Lib.hid (Blk.new wo 57 #[.slice A1 n1 c1, .slice A2 n2 c2, .slice A3 n3 c3, .slice A4 n4 c4])
          have q1 := boxed wo (.cells #[.slice A1 n1 c1, .slice A2 n2 c2, .slice A3 n3 c3, .slice A4 n4 c4] 57)
          have HD1 := Lib.hid (after HD.out q1)
          have HP1 := Lib.hid (HP.out.below q1 HP.out.lt)
          generalize wo.alloc (.cells #[.slice A1 n1 c1, .slice A2 n2 c2, .slice A3 n3 c3, .slice A4 n4 c4] 57) = w5 at M1 HD1 HP1 q1 ⊢
          generalize wo.heap.size = M at M1 ⊢
          clear q1 HD HP d0 d1 d2 d3 a3
          have m0 := M1.out.cell 0
          have m1 := M1.out.cell 1
          have m2 := M1.out.cell 2
          have m3 := M1.out.cell 3
          simp at m0 m1 m2 m3
          go_wp2_with fail
          clear m0 m1 m2 m3
          go_loopw [3, 11] (fun v3 v7 wr => ∃ (i : Nat) (y : Int), i ≤ n2 ∧ v3 = .int .i64 y ∧ v7 = .int .i64 (i : Int) ∧ RowKit.Hid (Below w.heap.size w wr) ∧ RowKit.Hid (Blk wr P 26 #[.slice Ag NG cg, .slice At NT ct, .slice Ah NH ch, .slice (some ⟨q, o, none⟩) NA ca]) ∧ RowKit.Hid (Blk wr M 57 #[.slice A1 n1 c1, .slice A2 n2 c2, .slice A3 n3 c3, .slice A4 n4 c4])) (fun _ v7 _ => n2 - (intOf v7).toNat)
          case atStart => exact ⟨0, _, Nat.zero_le _, rfl, rfl, HD1, HP1, M1⟩
          case round =>
            clear HD1 HP1 M1
            obtain ⟨i, y, hi, rfl, rfl, HD1, HP1, M1⟩ := hrel
            have m1 := M1.out.cell 1
            have m2 := M1.out.cell 2
            simp at m1 m2
            by_cases hlt2 : i < n2 ∧ i < 200
            case pos =>
              obtain ⟨h2a, h2b⟩ := hlt2
              have hkl2 : i < lsrc.length := by have := HN2.out; omega
              obtain ⟨q2, o2, rfl, hc2⟩ := RS.out.cell HD1.out (by omega)
              have ds := hc2 _ _ (selCells_at lsrc i _ (List.getElem?_eq_getElem hkl2)).2.1
              rw [← Nat.add_assoc] at ds
              generalize lsrc[i] = Y at ds
              obtain ⟨yk, s, yn⟩ := Y
              simp only at ds
              clear hc2 hkl2
              go_wp2_with fail
              go_roundw
              case rel => exact ⟨i + 1, _, by omega, rfl, by go_num, HD1, HP1, M1⟩
              case measure => simp [intOf]; omega
            by_cases hn2 : i < n2
            · have h200 : ¬ i < 200 := fun h => hlt2 ⟨hn2, h⟩
              go_wp2_with fail
              clear m1 m2
              go_loopw [3, 12] (fun v3 v7 wr => ∃ (i : Nat) (y : Int), i ≤ n3 ∧ v3 = .int .i64 y ∧ v7 = .int .i64 (i : Int) ∧ RowKit.Hid (Below w.heap.size w wr) ∧ RowKit.Hid (Blk wr P 26 #[.slice Ag NG cg, .slice At NT ct, .slice Ah NH ch, .slice (some ⟨q, o, none⟩) NA ca]) ∧ RowKit.Hid (Blk wr M 57 #[.slice A1 n1 c1, .slice A2 n2 c2, .slice A3 n3 c3, .slice A4 n4 c4])) (fun _ v7 _ => n3 - (intOf v7).toNat)
              case atStart => exact ⟨0, _, Nat.zero_le _, rfl, rfl, HD1, HP1, M1⟩
              case round =>
                clear HD1 HP1 M1
                obtain ⟨i, y, hi, rfl, rfl, HD1, HP1, M1⟩ := hrel
                have m1 := M1.out.cell 1
                have m2 := M1.out.cell 2
                simp at m1 m2
                by_cases hlt2 : i < n3 ∧ i < 200
                case pos =>
                  obtain ⟨h2a, h2b⟩ := hlt2
                  have hkl2 : i < ldst.length := by have := HN3.out; omega
                  obtain ⟨q2, o2, rfl, hc2⟩ := RD.out.cell HD1.out (by omega)
                  have ds := hc2 _ _ (selCells_at ldst i _ (List.getElem?_eq_getElem hkl2)).2.1
                  rw [← Nat.add_assoc] at ds
                  generalize ldst[i] = Y at ds
                  obtain ⟨yk, s, yn⟩ := Y
                  simp only at ds
                  clear hc2 hkl2
                  go_wp2_with fail
                  go_roundw
                  case rel => exact ⟨i + 1, _, by omega, rfl, by go_num, HD1, HP1, M1⟩
                  case measure => simp [intOf]; omega
                by_cases hn3 : i < n3
                · have h200 : ¬ i < 200 := fun h => hlt2 ⟨hn3, h⟩
                  go_wp2_with fail
                  go_roundw
                  case rel => exact ⟨k + 1, _, by omega, rfl, by go_num, HD1, HP1⟩
                  case measure => simp [intOf]; omega
                · go_wp2_with fail
                  go_roundw
                  case rel => exact ⟨k + 1, _, by omega, rfl, by go_num, HD1, HP1⟩
                  case measure => simp [intOf]; omega
            · go_wp2_with fail
              clear m1 m2
              go_loopw [3, 12] (fun v3 v7 wr => ∃ (i : Nat) (y : Int), i ≤ n3 ∧ v3 = .int .i64 y ∧ v7 = .int .i64 (i : Int) ∧ RowKit.Hid (Below w.heap.size w wr) ∧ RowKit.Hid (Blk wr P 26 #[.slice Ag NG cg, .slice At NT ct, .slice Ah NH ch, .slice (some ⟨q, o, none⟩) NA ca]) ∧ RowKit.Hid (Blk wr M 57 #[.slice A1 n1 c1, .slice A2 n2 c2, .slice A3 n3 c3, .slice A4 n4 c4])) (fun _ v7 _ => n3 - (intOf v7).toNat)
              case atStart => exact ⟨0, _, Nat.zero_le _, rfl, rfl, HD1, HP1, M1⟩
              case round =>
                clear HD1 HP1 M1
                obtain ⟨i, y, hi, rfl, rfl, HD1, HP1, M1⟩ := hrel
                have m1 := M1.out.cell 1
                have m2 := M1.out.cell 2
                simp at m1 m2
                by_cases hlt2 : i < n3 ∧ i < 200
                case pos =>
                  obtain ⟨h2a, h2b⟩ := hlt2
                  have hkl2 : i < ldst.length := by have := HN3.out; omega
                  obtain ⟨q2, o2, rfl, hc2⟩ := RD.out.cell HD1.out (by omega)
                  have ds := hc2 _ _ (selCells_at ldst i _ (List.getElem?_eq_getElem hkl2)).2.1
                  rw [← Nat.add_assoc] at ds
                  generalize ldst[i] = Y at ds
                  obtain ⟨yk, s, yn⟩ := Y
                  simp only at ds
                  clear hc2 hkl2
                  go_wp2_with fail
                  go_roundw
                  case rel => exact ⟨i + 1, _, by omega, rfl, by go_num, HD1, HP1, M1⟩
                  case measure => simp [intOf]; omega
                by_cases hn3 : i < n3
                · have h200 : ¬ i < 200 := fun h => hlt2 ⟨hn3, h⟩
                  go_wp2_with fail
                  go_roundw
                  case rel => exact ⟨k + 1, _, by omega, rfl, by go_num, HD1, HP1⟩
                  case measure => simp [intOf]; omega
                · go_wp2_with fail
                  go_roundw
                  case rel => exact ⟨k + 1, _, by omega, rfl, by go_num, HD1, HP1⟩
                  case measure => simp [intOf]; omega
        obtain rfl : NA = k := by omega
        go_wp2_with fail
        go_ret
        exact ⟨⟨_, rfl⟩, HD.out⟩
end Go.Proofs.YtbiglifngfgffaaGreatDoor

/- Which policies may be, and how they are written (PolicyWrites): the walk. -/
namespace Go.Proofs.YtbiglifngfgffaaGreatDoor
open Go.RowKit
attribute [local go_sem ↓] Go.wp_at_zero Go.wp_at_succ

theorem textR_get (p : Po) : ∃ (T : ByteArray) (E : Nat), textR p = .tuple #[.string T, .int .i64 (E : Int)] := by
  unfold textR
  split
  · split
    · exact ⟨_, 0, rfl⟩
    · exact ⟨_, 4, rfl⟩
  · exact ⟨_, 2, rfl⟩
theorem copied {w : World} {V : PoV} {p : Po} (h : PoRd w V p) : ∃ (Ag At Ah Aa : Option Addr) (cg ct ch ca : Nat), V = ⟨.slice Ag p.groups.length cg, .slice At p.tags.length ct, .slice Ah p.hosts.length ch, .slice Aa p.acls.length ca⟩ := by
  obtain ⟨gv, tv, hv, av⟩ := V
  obtain ⟨Ag, cg, eg⟩ := h.g.shape
  obtain ⟨At, ct, et⟩ := h.t.shape
  obtain ⟨Ah, ch, eh⟩ := h.h.shape
  obtain ⟨Aa, ca, ea⟩ := h.a.shape
  simp only at eg et eh ea
  subst eg et eh ea
  exact ⟨Ag, At, Ah, Aa, cg, ct, ch, ca, rfl⟩

set_option maxHeartbeats 8000000 in
set_option maxRecDepth 100000 in
theorem pmay_any {w : World} (env : Env w) {V : PoV} {p : Po} (h : PoRd w V p) (hf : PoFit p) {T : ByteArray} {E : Nat} (ht : textR p = .tuple #[.string T, .int .i64 (E : Int)]) :
    Calls Tryz.prog 15 #[.agg #[V.g, V.t, V.h, V.a]] w (Got (.int .i64 (E : Int)) w) := by
  have htx := fun u (hu : Below w.heap.size w u) => policyText_any (env.below hu) (h.below hu) hf
  rw [ht] at htx
  obtain ⟨Ag, At, Ah, Aa, cg, ct, ch, ca, rfl⟩ := copied h
  simp only at htx ⊢
  generalize p.groups.length = NG at *
  generalize p.tags.length = NT at *
  generalize p.hosts.length = NH at *
  generalize p.acls.length = NA at *
  have HTx := Lib.hid htx
  clear h hf ht htx env
  have HQ := Lib.hid (Blk.new w 26 #[.slice Ag NG cg, .slice At NT ct, .slice Ah NH ch, .slice Aa NA ca])
  have HB := Lib.hid (boxed w (.cells #[.slice Ag NG cg, .slice At NT ct, .slice Ah NH ch, .slice Aa NA ca] 26))
  go_enter Tryz.func15, Tryz.ntmps15
  go_upto_region 1 with fail
  generalize w.alloc (.cells #[.slice Ag NG cg, .slice At NT ct, .slice Ah NH ch, .slice Aa NA ca] 26) = w1 at HQ HB ⊢
  generalize w.heap.size = Q at HQ ⊢
  have p0 := HQ.out.cell 0
  have p1 := HQ.out.cell 1
  have p2 := HQ.out.cell 2
  have p3 := HQ.out.cell 3
  simp at p0 p1 p2 p3
  go_wp2_with (go_at_call 9; (with_reducible refine (HTx.out _ HB.out).mono ?_); rintro r w2 ⟨rfl, d2⟩)
  go_ret
  exact ⟨rfl, after HB.out d2⟩

set_option maxHeartbeats 32000000 in
set_option maxRecDepth 100000 in
theorem writes_any {w : World} (env : Env w) (p : Po) {V : PoV} (h : PoRd w V p) (hf : PoFit p) (hc : (∀ A n c, V.g = .slice A n c → n ≤ c) ∧ (∀ A n c, V.t = .slice A n c → n ≤ c) ∧ ∀ A n c, V.h = .slice A n c → n ≤ c) : Calls Tryz.prog 6 #[.agg #[V.g, V.t, V.h, V.a]] w (Got (.bool true) w) := by
  obtain ⟨T, E, hTE⟩ := textR_get p
  have hwk := fun u (hu : Below w.heap.size w u) => works_any (env.below hu)
  have hhv := fun u (hu : Below w.heap.size w u) => heavy_any p (h.below hu) hf
  have hcp := fun u (hu : Below w.heap.size w u) => copy_any p (h.below hu) hf
  have hpc := fun u (V' : PoV) (hr : PoRd u V' p) => pcopy_any p hr hf
  have htx := fun u (V' : PoV) (hu : Below w.heap.size w u) (hr : PoRd u V' p) => policyText_any (env.below hu) hr hf
  have hmy := fun u (V' : PoV) (hu : Below w.heap.size w u) (hr : PoRd u V' p) => pmay_any (env.below hu) hr hf hTE
  have hrt := fun u (hu : Below w.heap.size w u) => rtextP_any (env.below hu) (h.below hu) hf hc.1 hc.2.1 hc.2.2
  rw [hTE] at hrt
  rw [hTE] at htx
  obtain ⟨Xg, Xt, Xh, Xa, ag, at', ah, aa, rfl⟩ := copied h
  obtain ⟨NG, hNG⟩ : ∃ n, n = p.groups.length := ⟨_, rfl⟩
  obtain ⟨NT, hNT⟩ : ∃ n, n = p.tags.length := ⟨_, rfl⟩
  obtain ⟨NH, hNH⟩ : ∃ n, n = p.hosts.length := ⟨_, rfl⟩
  obtain ⟨NA, hNA⟩ : ∃ n, n = p.acls.length := ⟨_, rfl⟩
  rw [← hNG, ← hNT, ← hNH, ← hNA] at h hhv hcp hrt ⊢
  simp only at hhv hcp hrt ⊢
  have HWk := Lib.hid hwk
  have HHv := Lib.hid hhv
  have HCp := Lib.hid hcp
  have HPc := Lib.hid hpc
  have HTx := Lib.hid htx
  have HMy := Lib.hid hmy
  have HRt := Lib.hid hrt
  have HR := Lib.hid h
  have HFit := Lib.hid hf
  have HN := Lib.hid (And.intro hNG (And.intro hNT (And.intro hNH hNA)))
  clear hwk hhv hcp hpc htx hmy hrt env h hf hc hTE hNG hNT hNH hNA
  go_enter Tryz.func6, Tryz.ntmps6
  go_upto_region 1 with fail
  have HP := Lib.hid (Blk.new w 26 #[.slice Xg NG ag, .slice Xt NT at', .slice Xh NH ah, .slice Xa NA aa])
  have HD := Lib.hid (boxed w (.cells #[.slice Xg NG ag, .slice Xt NT at', .slice Xh NH ah, .slice Xa NA aa] 26))
  generalize w.alloc (.cells #[.slice Xg NG ag, .slice Xt NT at', .slice Xh NH ah, .slice Xa NA aa] 26) = w0 at HP HD ⊢
  generalize w.heap.size = P at HP ⊢
  have p0 := HP.out.cell 0
  have p1 := HP.out.cell 1
  have p2 := HP.out.cell 2
  have p3 := HP.out.cell 3
  simp at p0 p1 p2 p3
  go_wp2_with fail
  go_at_call 7
  refine (HHv.out _ HD.out).mono ?_
  rintro r w1 ⟨⟨b, rfl⟩, b1⟩
  have HD1 := Lib.hid (after HD.out b1)
  have HP1 := Lib.hid (HP.out.below b1 HP.out.lt)
  clear p0 p1 p2 p3 HP HD b1
  cases b with
  | true =>
    go_wp2_with (go_at_call 8; (with_reducible refine (HWk.out _ HD1.out).mono ?_); rintro r wz ⟨rfl, bz⟩)
    go_ret
    exact ⟨rfl, after HD1.out bz⟩
  | false =>
  have p0 := HP1.out.cell 0
  have p1 := HP1.out.cell 1
  have p2 := HP1.out.cell 2
  have p3 := HP1.out.cell 3
  simp at p0 p1 p2 p3
  go_upto_region 4 with (go_at_call 10; refine (HCp.out _ HD1.out).mono ?_; rintro r w2 ⟨⟨Y, rfl, hY⟩, b2⟩; have hsh := copied hY; rw [← HN.out.1, ← HN.out.2.1, ← HN.out.2.2.1, ← HN.out.2.2.2] at hsh; obtain ⟨Bg, Bt, Bh, Ba, mg, mt, mh, ma, rfl⟩ := hsh; simp only)
  have bx := boxed w2 (.cells #[.slice Bg NG mg, .slice Bt NT mt, .slice Bh NH mh, .slice Ba NA ma] 26)
  have HI := Lib.hid (Blk.new w2 26 #[.slice Bg NG mg, .slice Bt NT mt, .slice Bh NH mh, .slice Ba NA ma])
  have HD2 := Lib.hid (after (after HD1.out b2) bx)
  have HP2 := Lib.hid (HP1.out.below (after b2 bx) HP1.out.lt)
  have HY2 := Lib.hid (hY.below bx)
  generalize w2.alloc (.cells #[.slice Bg NG mg, .slice Bt NT mt, .slice Bh NH mh, .slice Ba NA ma] 26) = w3 at HI HD2 HP2 HY2 bx ⊢
  generalize w2.heap.size = I at HI ⊢
  clear p0 p1 p2 p3 HP1 HD1 b2 bx hY
  have i0 := HI.out.cell 0
  have i1 := HI.out.cell 1
  have i2 := HI.out.cell 2
  have i3 := HI.out.cell 3
  simp at i0 i1 i2 i3
  have p0 := HP2.out.cell 0
  have p1 := HP2.out.cell 1
  have p2 := HP2.out.cell 2
  have p3 := HP2.out.cell 3
  simp at p0 p1 p2 p3
  go_upto_region 5 with (go_at_call 9; refine (HTx.out _ _ HD2.out HY2.out).mono ?_; rintro r w4 ⟨rfl, b4⟩)
  have HD4 := Lib.hid (after HD2.out b4)
  have HI4 := Lib.hid (HI.out.below b4 HI.out.lt)
  have HP4 := Lib.hid (HP2.out.below b4 HP2.out.lt)
  have HY4 := Lib.hid (HY2.out.below b4)
  clear p0 p1 p2 p3 i0 i1 i2 i3 HI HD2 HP2 HY2 b4
  have p0 := HP4.out.cell 0
  have p1 := HP4.out.cell 1
  have p2 := HP4.out.cell 2
  have p3 := HP4.out.cell 3
  simp at p0 p1 p2 p3
  go_upto_region 6 with (go_at_call 13; refine (HRt.out _ HD4.out).mono ?_; rintro r w5 ⟨rfl, b5⟩)
  have HD5 := Lib.hid (after HD4.out b5)
  have HI5 := Lib.hid (HI4.out.below b5 HI4.out.lt)
  have HP5 := Lib.hid (HP4.out.below b5 HP4.out.lt)
  have HY5 := Lib.hid (HY4.out.below b5)
  clear p0 p1 p2 p3 HI4 HD4 HP4 HY4 b5
  have i0 := HI5.out.cell 0
  have i1 := HI5.out.cell 1
  have i2 := HI5.out.cell 2
  have i3 := HI5.out.cell 3
  simp at i0 i1 i2 i3
  have HPc5 := Lib.hid (HPc.out _ _ HY5.out)
  go_upto_region 7 with (go_at_call 14; refine (HPc5.out).mono ?_; rintro r w6 ⟨⟨Z, rfl, hZ⟩, b6⟩; have hsh := copied hZ; rw [← HN.out.1, ← HN.out.2.1, ← HN.out.2.2.1, ← HN.out.2.2.2] at hsh; obtain ⟨Cg, Ct, Ch, Ca, ng, nt, nh, na, rfl⟩ := hsh; simp only)
  have bx := boxed w6 (.cells #[.slice Cg NG ng, .slice Ct NT nt, .slice Ch NH nh, .slice Ca NA na] 26)
  have HC := Lib.hid (Blk.new w6 26 #[.slice Cg NG ng, .slice Ct NT nt, .slice Ch NH nh, .slice Ca NA na])
  have b67 := after b6 bx
  have HD7 := Lib.hid (after HD5.out b67)
  have HI7 := Lib.hid (HI5.out.below b67 HI5.out.lt)
  have HP7 := Lib.hid (HP5.out.below b67 HP5.out.lt)
  have HY7 := Lib.hid (HY5.out.below b67)
  have HZ7 := Lib.hid (hZ.below bx)
  generalize w6.alloc (.cells #[.slice Cg NG ng, .slice Ct NT nt, .slice Ch NH nh, .slice Ca NA na] 26) = w7 at HC HD7 HI7 HP7 HY7 HZ7 bx b67 ⊢
  generalize w6.heap.size = C at HC ⊢
  clear i0 i1 i2 i3 HI5 HD5 HP5 HY5 b6 b67 bx hZ HPc5
  have i0 := HI7.out.cell 0
  have i1 := HI7.out.cell 1
  have i2 := HI7.out.cell 2
  have i3 := HI7.out.cell 3
  simp at i0 i1 i2 i3
  have hTT : (T.toList == T.toList) = true := by simp
  have HM7 := Lib.hid (HMy.out _ _ HD7.out HY7.out)
  go_wp2_with (first
    | (go_at_call 15; refine HM7.out.mono ?_; rintro r w8 ⟨rfl, b8⟩; have HD8 := Lib.hid (after HD7.out b8); have HI8 := Lib.hid (HI7.out.below b8 HI7.out.lt); have HP8 := Lib.hid (HP7.out.below b8 HP7.out.lt); have HC8 := Lib.hid (HC.out.below b8 HC.out.lt); have HY8 := Lib.hid (HY7.out.below b8); have HZ8 := Lib.hid (HZ7.out.below b8); have p0 := HP8.out.cell 0; have p1 := HP8.out.cell 1; have p2 := HP8.out.cell 2; have p3 := HP8.out.cell 3; have c0 := HC8.out.cell 0; have c1 := HC8.out.cell 1; have c2 := HC8.out.cell 2; have c3 := HC8.out.cell 3; simp at p0 p1 p2 p3 c0 c1 c2 c3; have HS8 := Lib.hid (same_any p HZ8.out (HR.out.below HD8.out) HFit.out); clear i0 i1 i2 i3 b8)
    | (go_at_call 12; refine HS8.out.mono ?_; rintro r w9 ⟨rfl, b9⟩; have HD9 := Lib.hid (after HD8.out b9); have HI9 := Lib.hid (HI8.out.below b9 HI8.out.lt); have HP9 := Lib.hid (HP8.out.below b9 HP8.out.lt); have p0 := HP9.out.cell 0; have p1 := HP9.out.cell 1; have p2 := HP9.out.cell 2; have p3 := HP9.out.cell 3; have i0 := HI9.out.cell 0; have i1 := HI9.out.cell 1; have i2 := HI9.out.cell 2; have i3 := HI9.out.cell 3; simp at p0 p1 p2 p3 i0 i1 i2 i3; have HS9 := Lib.hid (same_any p (HY8.out.below b9) (HR.out.below HD9.out) HFit.out); clear HS8 b9)
    | (go_at_call 12; refine HS9.out.mono ?_; rintro r wa ⟨rfl, ba⟩; have HDa := Lib.hid (after HD9.out ba); clear HS9 ba)
    | (go_at_call 8; (with_reducible refine (HWk.out _ HDa.out).mono ?_); rintro r wz ⟨rfl, bz⟩))
  go_ret
  exact ⟨rfl, after HDa.out bz⟩
end Go.Proofs.YtbiglifngfgffaaGreatDoor
