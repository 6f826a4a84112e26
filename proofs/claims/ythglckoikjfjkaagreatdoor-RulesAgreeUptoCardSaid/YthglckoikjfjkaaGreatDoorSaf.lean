/- Joined out of: RdB PtA PtB. -/
import Derived.Test.YthglckoikjfjkaaGreatDoorSae
import Derived.Deep.CutBlock
import Derived.Test.YthglckoikjfjkaaGreatDoorSab
import Derived.Test.YthglckoikjfjkaaGreatDoorSac
import Derived.Test.YthglckoikjfjkaaGreatDoorSad
import Derived.BigRegion
import Derived.Deep.DrawnRows
set_option linter.unusedVariables false
set_option linter.unusedSimpArgs false

/- Read: the walk. (Printed by rd_read.py.) -/
namespace Go.Proofs.YthglckoikjfjkaaGreatDoor
open Go.RowKit

theorem str_same {a b : ByteArray} (h : a = b) : (a.toList == b.toList) = true := by rw [h]; simp
theorem str_diff {a b : ByteArray} (h : a ≠ b) : (a.toList == b.toList) = false := by
  rw [beq_eq_false_iff_ne]
  intro e
  apply h
  apply ByteArray.ext
  rw [ByteArray.toList_eq, ByteArray.toList_eq] at e
  exact Array.ext' e

set_option maxHeartbeats 8000000 in
set_option maxRecDepth 100000 in
theorem read_any {w : World} (env : Env w) (s : ByteArray) (hs : s.size ≤ 2000000) : Calls Tryz.prog 176 #[.string s] w (Got (readV (readL s.data.toList)) w) := by
  obtain ⟨RL, hRL⟩ : ∃ r, r = readL s.data.toList := ⟨_, rfl⟩
  rw [← hRL]
  have hB0 := (Blk.new w 40 #[.bool false, .int .u64 0, .int .u64 0]).alloc (.cells #[.bool false, .int .u64 0, .int .u64 0] 40)
  have hD0 : Blk ((w.alloc (.cells #[.bool false, .int .u64 0, .int .u64 0] 40)).alloc (.cells #[.bool false, .int .u64 0, .int .u64 0] 40)) (w.heap.size + 1) 40 #[.bool false, .int .u64 0, .int .u64 0] := by
    have h := Blk.new (w.alloc (.cells #[.bool false, .int .u64 0, .int .u64 0] 40)) 40 #[.bool false, .int .u64 0, .int .u64 0]
    simpa using h
  have hb0 := two_boxed w (.cells #[.bool false, .int .u64 0, .int .u64 0] 40) (.cells #[.bool false, .int .u64 0, .int .u64 0] 40)
  have HN1 := Lib.hid (num10 (env.below hb0) s hs 46)
  unfold readL guessP at hRL
  have hrd : ∀ l, numbersL 46 10 256 s.data.toList = some l → l.length = 4 → (RL = if textL ⟨false, 0, fold8 l⟩ = s.data.toList then some ⟨false, 0, fold8 l⟩ else none) := fun l h1 h2 => by rw [hRL, h1]; simp only; rw [if_pos h2]; rfl
  have hrd6 : ((numbersL 46 10 256 s.data.toList = none) ∨ (∃ l, numbersL 46 10 256 s.data.toList = some l ∧ l.length ≠ 4)) → RL = (guess6 s.data.toList).bind fun a => if textL a = s.data.toList then some a else none := fun h => by
    rcases h with h | ⟨l, h, hl⟩
    · rw [hRL, h]
    · rw [hRL, h]; simp only; rw [if_neg hl]
  have hnl : ∀ l, numbersL 46 10 256 s.data.toList = some l → (∀ x ∈ l, x < 256) ∧ l.length ≤ 9 := fun l h => numbersL_lt h
  clear hRL
  generalize hO1 : numbersL 46 10 256 s.data.toList = O1 at HN1 hrd hrd6 hnl
  clear hO1
  have HB0 := Lib.hid hB0
  have HD0 := Lib.hid hD0
  have Hb0 := Lib.hid hb0
  have Henv := Lib.hid env
  have Hrd := Lib.hid hrd
  have Hrd6 := Lib.hid hrd6
  have Hnl := Lib.hid hnl
  clear hB0 hD0 hb0 env hrd hrd6 hnl
  generalize hW0 : (w.alloc (.cells #[.bool false, .int .u64 0, .int .u64 0] 40)).alloc (.cells #[.bool false, .int .u64 0, .int .u64 0] 40) = W0 at HN1 HB0 HD0 Hb0
  have HW0 := Lib.hid hW0
  clear hW0
  go_enter Tryz.func176, Tryz.ntmps176
  go_wp2_with fail
  rw [HW0.out]
  go_at_call 187
  refine HN1.out.mono ?_
  intro r w1 hg1
  obtain ⟨v1, L1, rfl, ho1, hL1, hb1⟩ := hg1.any
  have Ho1 := Lib.hid ho1
  have HL1 := Lib.hid hL1
  have HB1 := Lib.hid (HB0.out.below hb1 HB0.out.lt)
  have HD1 := Lib.hid (HD0.out.below hb1 HD0.out.lt)
  have Hb1 := Lib.hid (after Hb0.out hb1)
  have hsz0 : w.heap.size + 1 < W0.heap.size := HD0.out.lt
  have hsz1 : w.heap.size + 1 < w1.heap.size := HD1.out.lt
  clear hg1 ho1 hL1 hb1
  obtain ⟨A1, cap1, rfl⟩ := own_shape Ho1.out
  by_cases h4 : O1.isSome = true ∧ L1.length = 4
  · obtain ⟨his, hlen⟩ := h4
    have hO1 : O1 = some L1 := by rcases HL1.out with h | ⟨h, _⟩; exact h; rw [h] at his; cases his
    have hrl := Hrd.out L1 hO1 hlen
    have hlx := (Hnl.out L1 hO1).1
    have Hrl := Lib.hid hrl
    have Hlx := Lib.hid hlx
    rw [his]
    have ho4 := Ho1.out
    rw [hlen] at ho4 ⊢
    obtain ⟨g, cap, hv⟩ := own_form ho4
    rw [hv]
    rw [hv] at ho4
    have hg := ho4.lt g rfl
    have hcell : ∀ j, j < 4 → w1.cell? ⟨g, j, none⟩ = some (.int .u64 (L1.getD j 0 : Int)) := by
      intro j hj
      rw [ho4.cellAt (g := g) j (by omega)]
      unfold cellsU
      have hjl : j < L1.length := by omega
      rw [List.getElem?_map, List.getElem?_eq_getElem hjl, List.getD_eq_getElem?_getD, List.getElem?_eq_getElem hjl]
      rfl
    have Hcell := Lib.hid hcell
    have Hlen := Lib.hid hlen
    clear hcell hrl hlx hO1 his ho4 hv hlen
    go_wp2_with fail
    go_loopw [30] (fun v30 wr => ∃ k : Nat, k ≤ 4 ∧ v30 = .int .i64 (k : Int) ∧ RowKit.Hid (Blk wr (w.heap.size + 1) 40 #[.bool false, .int .u64 0, .int .u64 (fold8 (L1.take k) : Int)]) ∧ RowKit.Hid (Blk wr w.heap.size 40 #[.bool false, .int .u64 0, .int .u64 0]) ∧ RowKit.Hid (∀ j, j < 4 → wr.cell? ⟨g, j, none⟩ = some (.int .u64 (L1.getD j 0 : Int))) ∧ RowKit.Hid (Below w.heap.size w wr)) (fun v30 _ => 4 - (intOf v30).toNat)
    case atStart => exact ⟨0, by omega, rfl, HD1, HB1, Hcell, Hb1⟩
    case round =>
      obtain ⟨k, hk, rfl, hD, hB, hr, hb⟩ := hrel
      by_cases hlt : k < 4
      · have hkl : k < L1.length := by have := Hlen.out; omega
        have cx := hr.out k hlt
        have hX : L1.getD k 0 < 256 := by
          rw [List.getD_eq_getElem?_getD, List.getElem?_eq_getElem hkl]
          exact Hlx.out _ (List.getElem_mem hkl)
        have hs : fold8 (L1.take (k + 1)) = fold8 (L1.take k) * 256 + L1.getD k 0 := by
          rw [List.take_succ_eq_append_getElem hkl, fold8_snoc, List.getD_eq_getElem?_getD, List.getElem?_eq_getElem hkl]
          rfl
        have hbd : fold8 (L1.take k) < 4294967296 := fold8_bound (take_lt Hlx.out) (by rw [List.length_take]; omega)
        have a2 := hD.out.cell 2
        have fr := fun i => hD.out.frozen i
        simp at a2
        have hr' := fun (u : Value) j (hj : j < 4) => (cell_far (w := wr) (a := ⟨w.heap.size + 1, 2, none⟩) (c := ⟨g, j, none⟩) (u := u) (by show w.heap.size + 1 ≠ g; omega)).trans (hr.out j hj)
        have Hr' := Lib.hid hr'
        have Hs := Lib.hid hs
        generalize L1.getD k 0 = X at cx hX Hs
        obtain ⟨H0, hH0⟩ : ∃ n, n = fold8 (L1.take k) := ⟨_, rfl⟩
        rw [← hH0] at a2 hbd
        have HH0 := Lib.hid hH0
        have ho := orb8 (h := H0) (x := X) (by omega) hX
        have hw : IntKind.u64.wrap ((H0 : Int) * 256) = (H0 : Int) * 256 := by rw [IntKind.wrap_u64]; omega
        clear hr' hs hH0
        go_wp2_with fail
        go_roundw
        case rel =>
          have hset := hD.out.set_ 2 (.int .u64 ((H0 * 256 + X : Nat) : Int))
          exact ⟨k + 1, by omega, by go_num, Lib.hid (by rw [Hs.out, ← HH0.out]; exact hset), Lib.hid (hB.out.far (p := ⟨w.heap.size + 1, 2, none⟩) (by simp) _), Lib.hid (Hr'.out _), Lib.hid (hb.out.setCell (p := ⟨w.heap.size + 1, 2, none⟩) (by simp) _)⟩
        case measure => simp [intOf]; omega
      · obtain rfl : k = 4 := by omega
        have htk : L1.take 4 = L1 := List.take_of_length_le (by have := Hlen.out; omega)
        have hDD := hD.out
        rw [htk] at hDD
        have hok : (Ad.mk false 0 (fold8 L1)).Ok := ⟨by show (0 : Nat) < _; omega, by show fold8 L1 < _; have := fold8_bound Hlx.out (by have := Hlen.out; omega); omega⟩
        have HDD := Lib.hid hDD
        have htx := text_any (Henv.out.below hb.out) ⟨false, 0, fold8 L1⟩ hok
        have hcmp : RL = if textB ⟨false, 0, fold8 L1⟩ = s then some ⟨false, 0, fold8 L1⟩ else none := by
          rw [Hrl.out]
          by_cases h : textB ⟨false, 0, fold8 L1⟩ = s
          · rw [if_pos h, if_pos (textB_iff.1 h)]
          · rw [if_neg h, if_neg (fun e => h (textB_iff.2 e))]
        generalize fold8 L1 = LO at HDD htx hcmp
        have hcells : Ad.cells ⟨false, 0, LO⟩ = #[.bool false, .int .u64 0, .int .u64 (LO : Int)] := rfl
        generalize (Ad.mk false 0 LO) = AD at htx hcmp hcells
        rw [hcells] at htx
        have HTX := Lib.hid htx
        clear htx
        obtain ⟨TB, hTB⟩ : ∃ t, t = textB AD := ⟨_, rfl⟩
        rw [← hTB] at HTX hcmp
        have Hcells := Lib.hid hcells
        clear hTB hcells
        have a0 := HDD.out.cell 0
        have a1 := HDD.out.cell 1
        have a2 := HDD.out.cell 2
        simp at a0 a1 a2
        by_cases hts : TB = s
        · have hq := str_same hts
          rw [if_pos hts] at hcmp
          have Hcmp := Lib.hid hcmp
          clear hts hcmp
          go_wp2_with (go_at_call 53; (with_reducible refine HTX.out.mono ?_); rintro r w7 ⟨rfl, g7⟩; have hb7 := Lib.hid (after hb.out g7); have hB7 := hB.out.below g7 hB.out.lt; have hD7 := HDD.out.below g7 HDD.out.lt; clear a0 a1 a2; have a0 := hD7.cell 0; have a1 := hD7.cell 1; have a2 := hD7.cell 2; simp at a0 a1 a2; have c0 := hB7.cell 0; have c1 := hB7.cell 1; have c2 := hB7.cell 2; simp at c0 c1 c2; have fr := (fun i => hB7.frozen i); have HB7 := Lib.hid hB7; clear hB7 hD7 g7)
          rw [Hcmp.out]
          show bodyPost _ _ (Got (.tuple #[.agg AD.cells, .int .i64 0]) w) _ _ _
          rw [Hcells.out]
          exact ret_ad3 (g := w.heap.size) (x := 2) (y := 3) rfl HB7.out hb7.out (Nat.le_refl _) rfl rfl rfl
        · have hq := str_diff hts
          rw [if_neg hts] at hcmp
          have Hcmp := Lib.hid hcmp
          clear hts hcmp
          go_wp2_with (go_at_call 53; (with_reducible refine HTX.out.mono ?_); rintro r w7 ⟨rfl, g7⟩; have hb7 := Lib.hid (after hb.out g7); have hB7 := hB.out.below g7 hB.out.lt; have hD7 := HDD.out.below g7 HDD.out.lt; clear a0 a1 a2; have a0 := hD7.cell 0; have a1 := hD7.cell 1; have a2 := hD7.cell 2; simp at a0 a1 a2; have c0 := hB7.cell 0; have c1 := hB7.cell 1; have c2 := hB7.cell 2; simp at c0 c1 c2; have fr := (fun i => hB7.frozen i); have HB7 := Lib.hid hB7; clear hB7 hD7 g7)
          rw [Hcmp.out]
          exact ret_ad3 (g := w.heap.size) (x := 2) (y := 3) rfl HB7.out hb7.out (Nat.le_refl _) rfl rfl rfl
  · have hin : O1.isSome = false ∨ (O1.isSome = true ∧ ((L1.length : Int) == 4) = false) := by
      cases h : O1.isSome with
      | false => exact Or.inl rfl
      | true => exact Or.inr ⟨rfl, by rw [h] at h4; simp at h4; simp; omega⟩
    have hrl := Hrd6.out (by
      rcases HL1.out with h | ⟨h, _⟩
      · exact Or.inr ⟨L1, h, fun e => h4 ⟨by rw [h]; rfl, e⟩⟩
      · exact Or.inl h)
    have hcl := cut_len s.data.toList [58, 58]
    obtain ⟨m, hm⟩ := (Henv.out.below Hb1.out).mx
    have hcut := Tryz.strings_Cut s ⟨#[58, 58]⟩ m w1 (by omega) hm
    unfold guess6 at hrl
    rw [show (⟨#[58, 58]⟩ : ByteArray).data.toList = [58, 58] from rfl] at hcut
    generalize Lib.cut s.data.toList [58, 58] = C at hcl hcut hrl
    obtain ⟨c1, c2, gap⟩ := C
    simp only at hcl hcut hrl
    have hsl : s.data.toList.length = s.size := (Lib.size_eq s).symm
    rw [hsl] at hcl
    have Hcl := Lib.hid hcl
    have HCut := Lib.hid hcut
    have Hrl := Lib.hid hrl
    clear h4 hm hcut hrl hsl hcl
    have hz1 : (⟨c1.toArray⟩ : ByteArray).size ≤ 2000000 := by have := Hcl.out.1; rw [show (⟨c1.toArray⟩ : ByteArray).size = c1.length by simp [ByteArray.size]]; omega
    have hz2 : (⟨c2.toArray⟩ : ByteArray).size ≤ 2000000 := by have := Hcl.out.2; rw [show (⟨c2.toArray⟩ : ByteArray).size = c2.length by simp [ByteArray.size]]; omega
    have HNX := Lib.hid (fun v hv => num16w (v := v) ((Henv.out.below Hb1.out).below hv) ⟨c1.toArray⟩ hz1 58)
    have HNY := Lib.hid (fun v hv => num16w (v := v) ((Henv.out.below Hb1.out).below hv) ⟨c2.toArray⟩ hz2 58)
    rw [show (⟨c1.toArray⟩ : ByteArray).data.toList = c1 by simp] at HNX
    rw [show (⟨c2.toArray⟩ : ByteArray).data.toList = c2 by simp] at HNY
    have hx2 : ∀ L, numbersL 58 16 65536 c1 = some L → (∀ x ∈ L, x < 65536) ∧ L.length ≤ 9 := fun L h => numbersL_lt h
    have hx3 : ∀ L, numbersL 58 16 65536 c2 = some L → (∀ x ∈ L, x < 65536) ∧ L.length ≤ 9 := fun L h => numbersL_lt h
    generalize numbersL 58 16 65536 c1 = O2 at HNX hx2 Hrl
    generalize numbersL 58 16 65536 c2 = O3 at HNY hx3 Hrl
    obtain ⟨T1, hT1⟩ : ∃ t, t = (⟨c1.toArray⟩ : ByteArray) := ⟨_, rfl⟩
    obtain ⟨T2, hT2⟩ : ∃ t, t = (⟨c2.toArray⟩ : ByteArray) := ⟨_, rfl⟩
    rw [← hT1] at HNX
    rw [← hT2] at HNY
    rw [← hT1, ← hT2] at HCut
    have Hx2 := Lib.hid hx2
    have Hx3 := Lib.hid hx3
    clear hx2 hx3 hT1 hT2 hz1 hz2
    obtain ⟨I1, hI1⟩ : ∃ b, b = O1.isSome := ⟨_, rfl⟩
    rw [← hI1] at hin ⊢
    clear hI1
    rcases hin with rfl | ⟨rfl, hq4⟩
    all_goals
      go_wp2_with (go_at_call 164; (with_reducible refine HCut.out.mono ?_); rintro r w2 ⟨rfl, n2, rfl⟩)
      go_at_call 187
      refine (HNX.out _ (below_drewN _ _)).mono ?_
      intro r w3 hg3
      obtain ⟨v2, L2, rfl, ho2, hL2, hb3⟩ := hg3.any
      have hbn : Below w1.heap.size w1 w3 := after (below_drewN w1 n2) hb3
      have Hbn := Lib.hid hbn
      have Ho2 := Lib.hid ho2
      have HL2 := Lib.hid hL2
      clear hg3 ho2 hL2 hb3 hbn
      go_wp2_with fail
      go_at_call 187
      refine (HNY.out _ Hbn.out).mono ?_
      intro r w4 hg4
      obtain ⟨v3, L3, rfl, ho3, hL3, hb4⟩ := hg4.any
      have Ho3 := Lib.hid ho3
      have HL3 := Lib.hid hL3
      have Ho2b := Lib.hid (own_below Ho2.out hb4)
      have Hbm := Lib.hid (after Hbn.out hb4)
      clear hg4 ho3 hL3 hb4
      have h2 : (∀ x ∈ L2, x < 65536) ∧ L2.length ≤ 9 := by
        rcases HL2.out with h | ⟨_, h⟩
        · exact Hx2.out L2 h
        · rw [h]; simp
      have h3 : (∀ x ∈ L3, x < 65536) ∧ L3.length ≤ 9 := by
        rcases HL3.out with h | ⟨_, h⟩
        · exact Hx3.out L3 h
        · rw [h]; simp
      have hwh := whole_any L2 L3 gap Ho2b.out Ho3.out h2.2 h3.2 h2.1 h3.1
      have hwok : ∀ a, wholeL L2 L3 gap = some a → a.Ok ∧ a.v6 = true := fun a h => wholeL_ok h h2.1 h3.1
      have hrl : RL = if O2.isSome = true ∧ O3.isSome = true then (wholeL L2 L3 gap).bind (fun a => if textL a = s.data.toList then some a else none) else none := by
        rw [Hrl.out]
        rcases HL2.out with h | ⟨h, _⟩
        · rcases HL3.out with h' | ⟨h', _⟩
          · rw [h, h']; rfl
          · rw [h, h']; rfl
        · rw [h]; rfl
      generalize wholeL L2 L3 gap = WO at hwh hwok hrl
      have HB4 := HB1.out.below Hbm.out HB1.out.lt
      have HD4 := HD1.out.below Hbm.out HD1.out.lt
      have Hb4 := after Hb1.out Hbm.out
      generalize O2.isSome = i2 at hrl ⊢
      generalize O3.isSome = i3 at hrl ⊢
      cases WO with
      | none =>
        have hrn : RL = none := by rw [hrl]; split <;> rfl
        have HWH := Lib.hid (show Calls _ _ _ w4 (Got (.tuple #[.agg #[.bool false, .int .u64 0, .int .u64 0], .bool false]) w4) from hwh)
        have Hrn := Lib.hid hrn
        have HB4h := Lib.hid HB4
        have HD4h := Lib.hid HD4
        have Hb4h := Lib.hid Hb4
        clear hrn hrl hwh hwok h2 h3 HB4 HD4 Hb4
        go_upto_region 14 with (go_at_call 188; (with_reducible refine HWH.out.mono ?_); rintro r w5 ⟨rfl, g5⟩; have hB5 := HB4h.out.below g5 HB4h.out.lt; have hD5 := HD4h.out.below g5 HD4h.out.lt; have hb5 := after Hb4h.out g5; have d0 := hD5.cell 0; have d1 := hD5.cell 1; have d2 := hD5.cell 2; simp at d0 d1 d2; have fr := (fun i => hD5.frozen i))
        obtain ⟨hD6, hb6⟩ := three (v0 := .bool false) (v1 := .int .u64 0) (v2 := .int .u64 0) hD5 hb5 (by omega)
        have hB6 : Blk (((w5.setCell ⟨w.heap.size + 1, 0, none⟩ (.bool false)).setCell ⟨w.heap.size + 1, 1, none⟩ (.int .u64 0)).setCell ⟨w.heap.size + 1, 2, none⟩ (.int .u64 0)) w.heap.size 40 #[.bool false, .int .u64 0, .int .u64 0] := ((hB5.far (p := ⟨w.heap.size + 1, 0, none⟩) (by simp) _).far (p := ⟨w.heap.size + 1, 1, none⟩) (by simp) _).far (p := ⟨w.heap.size + 1, 2, none⟩) (by simp) _
        generalize (((w5.setCell ⟨w.heap.size + 1, 0, none⟩ (.bool false)).setCell ⟨w.heap.size + 1, 1, none⟩ (.int .u64 0)).setCell ⟨w.heap.size + 1, 2, none⟩ (.int .u64 0)) = w6 at hD6 hb6 hB6 ⊢
        clear d0 d1 d2 fr hB5 hD5 hb5 g5
        have c0 := hB6.cell 0
        have c1 := hB6.cell 1
        have c2 := hB6.cell 2
        simp at c0 c1 c2
        have fr := fun i => hB6.frozen i
        have HB6 := Lib.hid hB6
        have HD6 := Lib.hid hD6
        have Hb6 := Lib.hid hb6
        clear hB6 hD6 hb6
        cases i2
        all_goals cases i3
        all_goals
          go_wp2_with fail
          rw [Hrn.out]
          exact ret_ad3 (g := w.heap.size) (x := 2) (y := 3) rfl HB6.out Hb6.out (Nat.le_refl _) rfl rfl rfl
      | some a =>
        obtain ⟨hok, h6⟩ := hwok a rfl
        have htx := fun v (hv : Below w.heap.size w v) => text_any (Henv.out.below hv) a hok
        have hcells : a.cells = #[.bool a.v6, .int .u64 (a.hi : Int), .int .u64 (a.lo : Int)] := rfl
        have hcmp : i2 = true → i3 = true → RL = if textB a = s then some a else none := fun e1 e2 => by
          rw [hrl, if_pos ⟨e1, e2⟩]
          show (if textL a = s.data.toList then some a else none) = _
          by_cases h : textB a = s
          · rw [if_pos h, if_pos (textB_iff.1 h)]
          · rw [if_neg h, if_neg (fun e => h (textB_iff.2 e))]
        have hrn : ¬ (i2 = true ∧ i3 = true) → RL = none := fun h => by rw [hrl, if_neg h]
        have hwh2 : Calls _ _ _ w4 (Got (.tuple #[.agg a.cells, .bool true]) w4) := hwh
        rw [hcells] at hwh2 htx
        obtain ⟨TB, hTB⟩ : ∃ t, t = textB a := ⟨_, rfl⟩
        rw [← hTB] at htx hcmp
        generalize a.v6 = av at htx hwh2 hcells
        generalize a.hi = ahi at htx hwh2 hcells
        generalize a.lo = alo at htx hwh2 hcells
        have HTX := Lib.hid htx
        have HWH := Lib.hid hwh2
        have Hcells := Lib.hid hcells
        have Hcmp := Lib.hid hcmp
        have Hrn := Lib.hid hrn
        have HB4h := Lib.hid HB4
        have HD4h := Lib.hid HD4
        have Hb4h := Lib.hid Hb4
        clear hrn hrl hwh hwok h2 h3 HB4 HD4 Hb4 htx hwh2 hcells hcmp hTB hok h6
        go_upto_region 14 with (go_at_call 188; (with_reducible refine HWH.out.mono ?_); rintro r w5 ⟨rfl, g5⟩; have hB5 := HB4h.out.below g5 HB4h.out.lt; have hD5 := HD4h.out.below g5 HD4h.out.lt; have hb5 := after Hb4h.out g5; have d0 := hD5.cell 0; have d1 := hD5.cell 1; have d2 := hD5.cell 2; simp at d0 d1 d2; have fr := (fun i => hD5.frozen i))
        obtain ⟨hD6, hb6⟩ := three (v0 := .bool av) (v1 := .int .u64 (ahi : Int)) (v2 := .int .u64 (alo : Int)) hD5 hb5 (by omega)
        have hB6 : Blk (((w5.setCell ⟨w.heap.size + 1, 0, none⟩ (.bool av)).setCell ⟨w.heap.size + 1, 1, none⟩ (.int .u64 (ahi : Int))).setCell ⟨w.heap.size + 1, 2, none⟩ (.int .u64 (alo : Int))) w.heap.size 40 #[.bool false, .int .u64 0, .int .u64 0] := ((hB5.far (p := ⟨w.heap.size + 1, 0, none⟩) (by simp) _).far (p := ⟨w.heap.size + 1, 1, none⟩) (by simp) _).far (p := ⟨w.heap.size + 1, 2, none⟩) (by simp) _
        generalize (((w5.setCell ⟨w.heap.size + 1, 0, none⟩ (.bool av)).setCell ⟨w.heap.size + 1, 1, none⟩ (.int .u64 (ahi : Int))).setCell ⟨w.heap.size + 1, 2, none⟩ (.int .u64 (alo : Int))) = w6 at hD6 hb6 hB6 ⊢
        clear d0 d1 d2 fr hB5 hD5 hb5 g5
        have c0 := hB6.cell 0
        have c1 := hB6.cell 1
        have c2 := hB6.cell 2
        simp at c0 c1 c2
        have fr := fun i => hB6.frozen i
        have HB6 := Lib.hid hB6
        have HD6 := Lib.hid hD6
        have Hb6 := Lib.hid hb6
        clear hB6 hD6 hb6
        cases i2
        all_goals cases i3
        case true.true =>
          have hcmp := Hcmp.out rfl rfl
          have a0 := HD6.out.cell 0
          have a1 := HD6.out.cell 1
          have a2 := HD6.out.cell 2
          simp at a0 a1 a2
          have HTX2 := Lib.hid (HTX.out w6 Hb6.out)
          by_cases hts : TB = s
          · have hq := str_same hts
            rw [if_pos hts] at hcmp
            have Hcmp2 := Lib.hid hcmp
            clear hts hcmp c0 c1 c2 fr
            go_wp2_with (go_at_call 53; (with_reducible refine HTX2.out.mono ?_); rintro r w7 ⟨rfl, g7⟩; have hb7 := Lib.hid (after Hb6.out g7); have hB7 := HB6.out.below g7 HB6.out.lt; have hD7 := HD6.out.below g7 HD6.out.lt; clear a0 a1 a2; have a0 := hD7.cell 0; have a1 := hD7.cell 1; have a2 := hD7.cell 2; simp at a0 a1 a2; have c0 := hB7.cell 0; have c1 := hB7.cell 1; have c2 := hB7.cell 2; simp at c0 c1 c2; have fr := (fun i => hB7.frozen i); have HB7 := Lib.hid hB7; clear hB7 hD7 g7)
            rw [Hcmp2.out]
            show bodyPost _ _ (Got (.tuple #[.agg a.cells, .int .i64 0]) w) _ _ _
            rw [Hcells.out]
            exact ret_ad3 (g := w.heap.size) (x := 2) (y := 3) rfl HB7.out hb7.out (Nat.le_refl _) rfl rfl rfl
          · have hq := str_diff hts
            rw [if_neg hts] at hcmp
            have Hcmp2 := Lib.hid hcmp
            clear hts hcmp c0 c1 c2 fr
            go_wp2_with (go_at_call 53; (with_reducible refine HTX2.out.mono ?_); rintro r w7 ⟨rfl, g7⟩; have hb7 := Lib.hid (after Hb6.out g7); have hB7 := HB6.out.below g7 HB6.out.lt; have hD7 := HD6.out.below g7 HD6.out.lt; clear a0 a1 a2; have a0 := hD7.cell 0; have a1 := hD7.cell 1; have a2 := hD7.cell 2; simp at a0 a1 a2; have c0 := hB7.cell 0; have c1 := hB7.cell 1; have c2 := hB7.cell 2; simp at c0 c1 c2; have fr := (fun i => hB7.frozen i); have HB7 := Lib.hid hB7; clear hB7 hD7 g7)
            rw [Hcmp2.out]
            exact ret_ad3 (g := w.heap.size) (x := 2) (y := 3) rfl HB7.out hb7.out (Nat.le_refl _) rfl rfl rfl
        all_goals
          have hrn := Hrn.out (by decide)
          have Hrn2 := Lib.hid hrn
          clear hrn
          go_wp2_with fail
          rw [Hrn2.out]
          exact ret_ad3 (g := w.heap.size) (x := 2) (y := 3) rfl HB6.out Hb6.out (Nat.le_refl _) rfl rfl rfl
end Go.Proofs.YthglckoikjfjkaaGreatDoor

/- PrefixText: the walks. (Printed by pt_text.py.) -/
namespace Go.Proofs.YthglckoikjfjkaaGreatDoor
open Go.RowKit
attribute [local go_sem ↓] Go.wp_at_zero Go.wp_at_succ

def ptextB (p : Pf) : ByteArray := ⟨(ptext p).toArray⟩
theorem ptextB_iff {p : Pf} {s : ByteArray} : ptextB p = s ↔ ptext p = s.data.toList := by
  constructor
  · intro h; rw [← h]; unfold ptextB; simp
  · intro h
    unfold ptextB
    rw [h]
theorem textB_size (a : Ad) : (textB a).size ≤ 60 := by
  have := textL_len a
  simpa [textB, ByteArray.size] using this

set_option maxHeartbeats 4000000 in
set_option maxRecDepth 100000 in
theorem prefixText_any {w : World} (env : Env w) (p : Pf) (ok : p.Ok) : Calls Tryz.prog 63 #[.agg p.cells] w (Got (.string (ptextB p)) w) := by
  have hm := mayPrefix_any p ok
  have htx := fun v (hv : Below w.heap.size w v) => text_any (env.below hv) p.a ok.a
  have hit := fun v (hv : Below w.heap.size w v) => itoa_any (env.below hv) p.bits (by have := ok.bits; omega)
  have htl := textB_size p.a
  have hn := ok.bits
  have hdl : (⟨(Lib.decDigits p.bits).toArray⟩ : ByteArray).size ≤ 3 := by
    have := decL_len p.bits (by omega)
    simpa [ByteArray.size] using this
  have hp0 : pmay p = false → ptextB p = ⟨#[]⟩ := fun h => by unfold ptextB ptext; rw [if_neg (by rw [h]; decide)]
  have hp1 : pmay p = true → ptextB p = textB p.a ++ ⟨#[47]⟩ ++ ⟨(Lib.decDigits p.bits).toArray⟩ := fun h => by
    unfold ptextB ptext textB
    rw [if_pos h]
    apply ByteArray.ext
    simp
  generalize ptextB p = PB at hp0 hp1 ⊢
  generalize pmay p = M at hm hp0 hp1
  obtain ⟨⟨v, x, l⟩, n⟩ := p
  unfold Pf.cells at *
  unfold Ad.cells at htx
  simp only at hm htx hit hn hdl hp1 ⊢
  generalize (⟨(Lib.decDigits n).toArray⟩ : ByteArray) = D at hit hdl hp1
  generalize textB ⟨v, x, l⟩ = TB at htx hp1 htl
  have Hm := Lib.hid hm
  have HTX := Lib.hid htx
  have HIT := Lib.hid hit
  have Hp0 := Lib.hid hp0
  have Hp1 := Lib.hid hp1
  have hB0 := Blk.new w 64 #[.bool v, .int .u64 (x : Int), .int .u64 (l : Int), .int .u8 (n : Int)]
  have hb0 := boxed w (.cells #[.bool v, .int .u64 (x : Int), .int .u64 (l : Int), .int .u8 (n : Int)] 64)
  clear hm htx hit hp0 hp1 env ok
  cases M with
  | false =>
    rw [Hp0.out rfl]
    go_enter Tryz.func63, Tryz.ntmps63
    go_wp2_with (go_at_call 94; (with_reducible refine (Hm.out _).mono ?_); rintro r w1 ⟨rfl, g1⟩; have hb1 := after hb0 g1)
    go_ret
    exact ⟨rfl, hb1⟩
  | true =>
    have z1 : ¬ 9223372036854775807 < TB.size + 1 := by omega
    have z2 : ¬ 9223372036854775807 < TB.size + 1 + D.size := by omega
    have hwr : IntKind.i64.wrap (n : Int) = (n : Int) := by rw [IntKind.wrap_i64]; omega
    go_enter Tryz.func63, Tryz.ntmps63
    go_wp2_with (go_at_call 94; (with_reducible refine (Hm.out _).mono ?_); rintro r w1 ⟨rfl, g1⟩; have hb1 := after hb0 g1; have hB1 := hB0.below g1 hB0.lt; clear g1)
    have ht := hB1.drew
    have hv := hb1.drew
    have b0 := ht.cell 0
    have b1 := ht.cell 1
    have b2 := ht.cell 2
    have b3 := ht.cell 3
    simp at b0 b1 b2 b3
    go_region_held3 (fun w' => w'.cell? ⟨w.heap.size, 0, none⟩ = some (.bool v) ∧ w'.cell? ⟨w.heap.size, 1, none⟩ = some (.int .u64 (x : Int)) ∧ w'.cell? ⟨w.heap.size, 2, none⟩ = some (.int .u64 (l : Int)) ∧ w'.cell? ⟨w.heap.size, 3, none⟩ = some (.int .u8 (n : Int)))
      (exact ⟨b0, b1, b2, b3⟩)
      (first
        | (go_at_call 53; (with_reducible refine (HTX.out _ hv).mono ?_); rintro r wq ⟨rfl, gq⟩; have hv := after hv gq; have ht := ht.below gq ht.lt; clear gq; have b0 := ht.cell 0; have b1 := ht.cell 1; have b2 := ht.cell 2; have b3 := ht.cell 3; simp at b0 b1 b2 b3)
        | (go_at_call 87; (with_reducible refine (HIT.out _ hv).mono ?_); rintro r wq ⟨rfl, gq⟩; have hv := after hv gq; have ht := ht.below gq ht.lt; clear gq; have b0 := ht.cell 0; have b1 := ht.cell 1; have b2 := ht.cell 2; have b3 := ht.cell 3; simp at b0 b1 b2 b3))
    all_goals go_wp2_with fail
    all_goals
      go_ret
      exact ⟨show Ending.returned (.string (TB ++ ⟨#[47]⟩ ++ D)) = _ by rw [Hp1.out (by simp)], hv⟩

end Go.Proofs.YthglckoikjfjkaaGreatDoor

/- ReadPrefix, the program's: the walk. (Printed by pt_read.py.) -/
namespace Go.Proofs.YthglckoikjfjkaaGreatDoor
open Go.RowKit

theorem load_pf {w : World} {g : Nat} {v0 v1 v2 v3 : Value} (h : Blk w g 64 #[v0, v1, v2, v3]) : (loadVar 64 ⟨g, 0, none⟩).run Tryz.prog w = .ok (.agg #[v0, v1, v2, v3]) w := by
  have c0 := h.cell 0
  have c1 := h.cell 1
  have c2 := h.cell 2
  have c3 := h.cell 3
  simp at c0 c1 c2 c3
  simp [loadVar, go_sem, c0, c1, c2, c3]
theorem four {W w : World} {g : Nat} {z0 z1 z2 z3 v0 v1 v2 v3 : Value} (hB : Blk w g 64 #[z0, z1, z2, z3]) (hb : Below W.heap.size W w) (hg : W.heap.size ≤ g) : Blk ((((w.setCell ⟨g, 0, none⟩ v0).setCell ⟨g, 1, none⟩ v1).setCell ⟨g, 2, none⟩ v2).setCell ⟨g, 3, none⟩ v3) g 64 #[v0, v1, v2, v3] ∧ Below W.heap.size W ((((w.setCell ⟨g, 0, none⟩ v0).setCell ⟨g, 1, none⟩ v1).setCell ⟨g, 2, none⟩ v2).setCell ⟨g, 3, none⟩ v3) := by
  have s0 : Blk (w.setCell ⟨g, 0, none⟩ v0) g 64 #[v0, z1, z2, z3] := hB.set_ 0 v0
  have s1 : Blk ((w.setCell ⟨g, 0, none⟩ v0).setCell ⟨g, 1, none⟩ v1) g 64 #[v0, v1, z2, z3] := s0.set_ 1 v1
  have s2 : Blk (((w.setCell ⟨g, 0, none⟩ v0).setCell ⟨g, 1, none⟩ v1).setCell ⟨g, 2, none⟩ v2) g 64 #[v0, v1, v2, z3] := s1.set_ 2 v2
  have s3 : Blk ((((w.setCell ⟨g, 0, none⟩ v0).setCell ⟨g, 1, none⟩ v1).setCell ⟨g, 2, none⟩ v2).setCell ⟨g, 3, none⟩ v3) g 64 #[v0, v1, v2, v3] := s2.set_ 3 v3
  exact ⟨s3, (((hb.setCell (p := ⟨g, 0, none⟩) hg v0).setCell (p := ⟨g, 1, none⟩) hg v1).setCell (p := ⟨g, 2, none⟩) hg v2).setCell (p := ⟨g, 3, none⟩) hg v3⟩
theorem ret_pf {fn : Func} {a : Act} {W w : World} {g x y : Nat} {v0 v1 v2 v3 u : Value} (hres : fn.results = #[.cell x 64, .tmp y]) (hB : Blk w g 64 #[v0, v1, v2, v3]) (hb : Below W.heap.size W w) (h1 : a.tmps.getD x undef = .pointer (some ⟨g, 0, none⟩)) (h2 : a.tmps.getD y undef = u) (hd : a.defers = []) : bodyPost Tryz.prog fn (Got (.tuple #[.agg #[v0, v1, v2, v3], u]) W) .ret a w :=
  bodyPost_ret (results_ct hres h1 h2 (load_pf hB)) hd ⟨rfl, hb⟩
theorem ret_pf4 {fn : Func} {a : Act} {W w : World} {g x y : Nat} {z0 z1 z2 z3 v0 v1 v2 v3 u : Value} (hres : fn.results = #[.cell x 64, .tmp y]) (hB : Blk w g 64 #[z0, z1, z2, z3]) (hb : Below W.heap.size W w) (hg : W.heap.size ≤ g) (h1 : a.tmps.getD x undef = .pointer (some ⟨g, 0, none⟩)) (h2 : a.tmps.getD y undef = u) (hd : a.defers = []) : bodyPost Tryz.prog fn (Got (.tuple #[.agg #[v0, v1, v2, v3], u]) W) .ret a ((((w.setCell ⟨g, 0, none⟩ v0).setCell ⟨g, 1, none⟩ v1).setCell ⟨g, 2, none⟩ v2).setCell ⟨g, 3, none⟩ v3) :=
  ret_pf hres (four hB hb hg).1 (four hB hb hg).2 h1 h2 hd
def preadV (o : Option Pf) : Value := match o with
  | none => .tuple #[.agg #[.bool false, .int .u64 0, .int .u64 0, .int .u8 0], .int .i64 8]
  | some p => .tuple #[.agg p.cells, .int .i64 0]
/- What Read answers, in one form. -/
theorem readV_form (o : Option Ad) (ho : ∀ a, o = some a → a.Ok) : ∃ (a : Ad) (e : Nat), a.Ok ∧ readV o = .tuple #[.agg #[.bool a.v6, .int .u64 (a.hi : Int), .int .u64 (a.lo : Int)], .int .i64 (e : Int)] ∧ ((e = 0 ∧ o = some a) ∨ (e = 8 ∧ o = none)) := by
  cases o with
  | none => exact ⟨⟨false, 0, 0⟩, 8, ⟨by decide, by decide⟩, rfl, Or.inr ⟨rfl, rfl⟩⟩
  | some a => exact ⟨a, 0, ho a rfl, rfl, Or.inl ⟨rfl, rfl⟩⟩

set_option maxHeartbeats 8000000 in
set_option maxRecDepth 100000 in
theorem readPrefix_any {w : World} (env : Env w) (s : ByteArray) (hs : s.size ≤ 2000000) : Calls Tryz.prog 165 #[.string s] w (Got (preadV (preadL s.data.toList)) w) := by
  obtain ⟨RL, hRL⟩ : ∃ r, r = preadL s.data.toList := ⟨_, rfl⟩
  rw [← hRL]
  have hB0 := Blk.new w 64 #[.bool false, .int .u64 0, .int .u64 0, .int .u8 0]
  have hb0 := boxed w (.cells #[.bool false, .int .u64 0, .int .u64 0, .int .u8 0] 64)
  obtain ⟨m, hm⟩ := (env.below hb0).mx
  have hcut := Tryz.strings_Cut s ⟨#[47]⟩ m (w.alloc (.cells #[.bool false, .int .u64 0, .int .u64 0, .int .u8 0] 64)) (by omega) hm
  have hcl := cut_len s.data.toList [47]
  rw [show (⟨#[47]⟩ : ByteArray).data.toList = [47] from rfl] at hcut
  unfold preadL at hRL
  generalize Lib.cut s.data.toList [47] = C at hcl hcut hRL
  obtain ⟨c1, c2, gap⟩ := C
  simp only at hcl hcut hRL
  rw [show s.data.toList.length = s.size from (Lib.size_eq s).symm] at hcl
  have hrd := fun v (hv : Below w.heap.size w v) => read_any (env.below hv) ⟨c1.toArray⟩ (by rw [show (⟨c1.toArray⟩ : ByteArray).size = c1.length by simp [ByteArray.size]]; omega)
  have hpu := fun v (hv : Below w.heap.size w v) => pu10_8 (env.below hv) ⟨c2.toArray⟩ (by rw [show (⟨c2.toArray⟩ : ByteArray).size = c2.length by simp [ByteArray.size]]; omega)
  rw [show (⟨c1.toArray⟩ : ByteArray).data.toList = c1 by simp] at hrd
  rw [show (⟨c2.toArray⟩ : ByteArray).data.toList = c2 by simp] at hpu
  obtain ⟨A, er, hA, hv, hro⟩ := readV_form (readL c1) (fun a h => (readL_some h).2.1)
  rw [hv] at hrd
  generalize readL c1 = RO at hRL hro
  clear hv
  have hnl : ∀ n, num1 10 256 c2 = some n → n < 256 := fun n h => num1_lt h
  unfold PuGot PuRes at hpu
  generalize num1 10 256 c2 = NO at hRL hpu hnl
  have hptx := fun n (hn : n < 256) v (hv : Below w.heap.size w v) => prefixText_any (env.below hv) ⟨A, n⟩ ⟨hA, hn⟩
  have hiff : ∀ n, ptextB ⟨A, n⟩ = s ↔ ptext ⟨A, n⟩ = s.data.toList := fun n => ptextB_iff
  have hcells : ∀ n, Pf.cells ⟨A, n⟩ = #[.bool A.v6, .int .u64 (A.hi : Int), .int .u64 (A.lo : Int), .int .u8 (n : Int)] := fun _ => rfl
  simp only [hcells] at hptx
  obtain ⟨T1, hT1⟩ : ∃ t, t = (⟨c1.toArray⟩ : ByteArray) := ⟨_, rfl⟩
  obtain ⟨T2, hT2⟩ : ∃ t, t = (⟨c2.toArray⟩ : ByteArray) := ⟨_, rfl⟩
  rw [← hT1] at hrd hcut
  rw [← hT2] at hpu hcut
  have hr0 : gap = false → RL = none := fun h => by rw [hRL, h]; rfl
  have hr1 : er = 8 → RL = none := fun h => by
    rcases hro with ⟨e, _⟩ | ⟨_, e⟩
    · omega
    · rw [hRL, e]; split <;> rfl
  have hr2 : NO = none → RL = none := fun h => by
    rw [hRL, h]
    split
    · rfl
    · cases RO <;> rfl
  have hr3 : gap = true → er = 0 → ∀ n, NO = some n → RL = if ptextB ⟨A, n⟩ = s then some ⟨A, n⟩ else none := fun h1 h2 n h3 => by
    rcases hro with ⟨_, e⟩ | ⟨e, _⟩
    · rw [hRL, h1, h3, e]
      simp only
      rw [if_neg (by decide)]
      by_cases h : ptextB ⟨A, n⟩ = s
      · rw [if_pos h, if_pos ((hiff n).1 h)]
      · rw [if_neg h, if_neg (fun e => h ((hiff n).2 e))]
    · omega
  have her : er = 0 ∨ er = 8 := by rcases hro with ⟨e, _⟩ | ⟨e, _⟩ <;> omega
  obtain ⟨PB, hPB⟩ : ∃ f : Nat → ByteArray, f = fun n => ptextB ⟨A, n⟩ := ⟨_, rfl⟩
  have hPB1 : ∀ n, ptextB ⟨A, n⟩ = PB n := fun n => by rw [hPB]
  simp only [hPB1] at hr3 hptx
  generalize A.v6 = av at hrd hptx hcells
  generalize A.hi = ahi at hrd hptx hcells
  generalize A.lo = alo at hrd hptx hcells
  have HCut := Lib.hid hcut
  have HRD := Lib.hid hrd
  have HPU := Lib.hid hpu
  have HPT := Lib.hid hptx
  have Hr0 := Lib.hid hr0
  have Hr1 := Lib.hid hr1
  have Hr2 := Lib.hid hr2
  have Hr3 := Lib.hid hr3
  have Hnl := Lib.hid hnl
  have Hcells := Lib.hid hcells
  have HB0 := Lib.hid hB0
  have Hb0 := Lib.hid hb0
  clear hcut hrd hpu hptx hr0 hr1 hr2 hr3 hnl hcells hB0 hb0 hiff hro hRL hT1 hT2 hPB hPB1 hA hm hcl env
  go_enter Tryz.func165, Tryz.ntmps165
  go_wp2_with (go_at_call 164; (with_reducible refine HCut.out.mono ?_); rintro r w2 ⟨rfl, n2, rfl⟩)
  go_at_call 176
  refine (HRD.out _ (after Hb0.out (below_drewN _ n2))).mono ?_
  rintro r w3 ⟨rfl, g3⟩
  have hB3 := (HB0.out.drewN n2).below g3 (HB0.out.drewN n2).lt
  have hb3 := after (after Hb0.out (below_drewN _ n2)) g3
  have hB4 := hB3.alloc (.cells #[.bool av, .int .u64 (ahi : Int), .int .u64 (alo : Int)] 40)
  have hD4 := Blk.new w3 40 #[.bool av, .int .u64 (ahi : Int), .int .u64 (alo : Int)]
  have hb4 := after hb3 (boxed w3 (.cells #[.bool av, .int .u64 (ahi : Int), .int .u64 (alo : Int)] 40))
  have hw3 : w.heap.size < w3.heap.size := hB3.lt
  clear hB3 hb3 g3
  go_upto_region 3 with fail
  generalize w3.alloc (.cells #[.bool av, .int .u64 (ahi : Int), .int .u64 (alo : Int)] 40) = w4 at hB4 hD4 hb4 ⊢
  generalize w3.heap.size = g1 at hD4 hw3 ⊢
  have HB4 := Lib.hid hB4
  have HD4 := Lib.hid hD4
  have Hb4 := Lib.hid hb4
  have HPU4 := Lib.hid (HPU.out w4 hb4)
  clear hB4 hD4 hb4
  go_wp2_with fail
  go_at_call 177
  refine HPU4.out.mono ?_
  rintro e w5 ⟨hres, g5⟩
  have hB5 := HB4.out.below g5 HB4.out.lt
  have hD5 := HD4.out.below g5 HD4.out.lt
  have hb5 := after Hb4.out g5
  have a0 := hD5.cell 0
  have a1 := hD5.cell 1
  have a2 := hD5.cell 2
  simp at a0 a1 a2
  have HB5 := Lib.hid hB5
  have Hb5 := Lib.hid hb5
  clear hB5 hD5 hb5 g5
  rcases hres with ⟨n, hNO, rfl⟩ | ⟨hNO, n, tp, p, hn64, rfl⟩
  · have hn := Hnl.out n hNO
    have hwr : IntKind.u8.wrap (n : Int) = (n : Int) := by rw [IntKind.wrap_u8]; omega
    go_upto_region 5 with fail
    have hB6 := HB5.out.alloc (.cells #[.bool av, .int .u64 (ahi : Int), .int .u64 (alo : Int), .int .u8 (n : Int)] 64)
    have hD6 := Blk.new w5 64 #[.bool av, .int .u64 (ahi : Int), .int .u64 (alo : Int), .int .u8 (n : Int)]
    have hb6 := after Hb5.out (boxed w5 (.cells #[.bool av, .int .u64 (ahi : Int), .int .u64 (alo : Int), .int .u8 (n : Int)] 64))
    have hw5 : w.heap.size < w5.heap.size := HB5.out.lt
    generalize w5.alloc (.cells #[.bool av, .int .u64 (ahi : Int), .int .u64 (alo : Int), .int .u8 (n : Int)] 64) = w6 at hB6 hD6 hb6 ⊢
    generalize w5.heap.size = g2 at hD6 hw5 ⊢
    clear a0 a1 a2
    have b0 := hD6.cell 0
    have b1 := hD6.cell 1
    have b2 := hD6.cell 2
    have b3 := hD6.cell 3
    simp at b0 b1 b2 b3
    have c0 := hB6.cell 0
    have c1 := hB6.cell 1
    have c2 := hB6.cell 2
    have c3 := hB6.cell 3
    simp at c0 c1 c2 c3
    have fr := fun i => hB6.frozen i
    have HB6 := Lib.hid hB6
    have HD6 := Lib.hid hD6
    have Hb6 := Lib.hid hb6
    clear hB6 hD6 hb6
    have HPT6 := Lib.hid (HPT.out n hn w6 Hb6.out)
    cases gap with
    | false =>
      have Hrn := Lib.hid (Hr0.out rfl)
      go_wp2_with fail
      rw [Hrn.out]
      show bodyPost _ _ (Got (.tuple #[.agg #[.bool false, .int .u64 0, .int .u64 0, .int .u8 0], .int .i64 8]) w) _ _ _
      exact ret_pf4 (g := w.heap.size) (x := 2) (y := 3) rfl HB6.out Hb6.out (Nat.le_refl _) rfl rfl rfl
    | true =>
      rcases her with rfl | rfl
      · have hrl := Hr3.out rfl rfl n hNO
        by_cases hts : PB n = s
        · have hq := str_same hts
          rw [if_pos hts] at hrl
          have Hrl := Lib.hid hrl
          clear hrl hts
          go_wp2_with (go_at_call 63; (with_reducible refine HPT6.out.mono ?_); rintro r w7 ⟨rfl, g7⟩; have hb7 := Lib.hid (after Hb6.out g7); have hB7 := HB6.out.below g7 HB6.out.lt; have hD7 := HD6.out.below g7 HD6.out.lt; clear b0 b1 b2 b3 c0 c1 c2 c3 fr; have b0 := hD7.cell 0; have b1 := hD7.cell 1; have b2 := hD7.cell 2; have b3 := hD7.cell 3; simp at b0 b1 b2 b3; have c0 := hB7.cell 0; have c1 := hB7.cell 1; have c2 := hB7.cell 2; have c3 := hB7.cell 3; simp at c0 c1 c2 c3; have fr := (fun i => hB7.frozen i); have HB7 := Lib.hid hB7; clear hB7 hD7 g7)
          rw [Hrl.out]
          show bodyPost _ _ (Got (.tuple #[.agg (Pf.cells ⟨A, n⟩), .int .i64 0]) w) _ _ _
          rw [Hcells.out]
          exact ret_pf4 (g := w.heap.size) (x := 2) (y := 3) rfl HB7.out hb7.out (Nat.le_refl _) rfl rfl rfl
        · have hq := str_diff hts
          rw [if_neg hts] at hrl
          have Hrl := Lib.hid hrl
          clear hrl hts
          go_wp2_with (go_at_call 63; (with_reducible refine HPT6.out.mono ?_); rintro r w7 ⟨rfl, g7⟩; have hb7 := Lib.hid (after Hb6.out g7); have hB7 := HB6.out.below g7 HB6.out.lt; have hD7 := HD6.out.below g7 HD6.out.lt; clear b0 b1 b2 b3 c0 c1 c2 c3 fr; have b0 := hD7.cell 0; have b1 := hD7.cell 1; have b2 := hD7.cell 2; have b3 := hD7.cell 3; simp at b0 b1 b2 b3; have c0 := hB7.cell 0; have c1 := hB7.cell 1; have c2 := hB7.cell 2; have c3 := hB7.cell 3; simp at c0 c1 c2 c3; have fr := (fun i => hB7.frozen i); have HB7 := Lib.hid hB7; clear hB7 hD7 g7)
          rw [Hrl.out]
          show bodyPost _ _ (Got (.tuple #[.agg #[.bool false, .int .u64 0, .int .u64 0, .int .u8 0], .int .i64 8]) w) _ _ _
          exact ret_pf4 (g := w.heap.size) (x := 2) (y := 3) rfl HB7.out hb7.out (Nat.le_refl _) rfl rfl rfl
      · have Hrn := Lib.hid (Hr1.out rfl)
        go_wp2_with fail
        rw [Hrn.out]
        show bodyPost _ _ (Got (.tuple #[.agg #[.bool false, .int .u64 0, .int .u64 0, .int .u8 0], .int .i64 8]) w) _ _ _
        exact ret_pf4 (g := w.heap.size) (x := 2) (y := 3) rfl HB6.out Hb6.out (Nat.le_refl _) rfl rfl rfl
  · have Hrn := Lib.hid (Hr2.out hNO)
    clear hNO
    go_upto_region 5 with fail
    have hB6 := HB5.out.alloc (.cells #[.bool av, .int .u64 (ahi : Int), .int .u64 (alo : Int), .int .u8 ((n : Int) % 256)] 64)
    have hD6 := Blk.new w5 64 #[.bool av, .int .u64 (ahi : Int), .int .u64 (alo : Int), .int .u8 ((n : Int) % 256)]
    have hb6 := after Hb5.out (boxed w5 (.cells #[.bool av, .int .u64 (ahi : Int), .int .u64 (alo : Int), .int .u8 ((n : Int) % 256)] 64))
    have hw5 : w.heap.size < w5.heap.size := HB5.out.lt
    generalize w5.alloc (.cells #[.bool av, .int .u64 (ahi : Int), .int .u64 (alo : Int), .int .u8 ((n : Int) % 256)] 64) = w6 at hB6 hD6 hb6 ⊢
    generalize w5.heap.size = g2 at hD6 hw5 ⊢
    clear a0 a1 a2
    have b0 := hD6.cell 0
    have b1 := hD6.cell 1
    have b2 := hD6.cell 2
    have b3 := hD6.cell 3
    simp at b0 b1 b2 b3
    have c0 := hB6.cell 0
    have c1 := hB6.cell 1
    have c2 := hB6.cell 2
    have c3 := hB6.cell 3
    simp at c0 c1 c2 c3
    have fr := fun i => hB6.frozen i
    have HB6 := Lib.hid hB6
    have HD6 := Lib.hid hD6
    have Hb6 := Lib.hid hb6
    clear hB6 hD6 hb6
    rcases her with rfl | rfl
    all_goals cases gap
    all_goals
      go_wp2_with fail
      rw [Hrn.out]
      show bodyPost _ _ (Got (.tuple #[.agg #[.bool false, .int .u64 0, .int .u64 0, .int .u8 0], .int .i64 8]) w) _ _ _
      exact ret_pf4 (g := w.heap.size) (x := 2) (y := 3) rfl HB6.out Hb6.out (Nat.le_refl _) rfl rfl rfl
end Go.Proofs.YthglckoikjfjkaaGreatDoor
