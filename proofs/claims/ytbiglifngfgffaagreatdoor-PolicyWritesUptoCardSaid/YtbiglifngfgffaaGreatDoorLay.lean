/- Joined out of: RwC RwD RwE RwF. -/
import Derived.Test.YtbiglifngfgffaaGreatDoorLax
import Derived.Test.YtbiglifngfgffaaGreatDoorLan
import Derived.Test.YtbiglifngfgffaaGreatDoorLah
import Derived.Test.YtbiglifngfgffaaGreatDoorLaa
set_option linter.unusedVariables false
set_option linter.unusedSimpArgs false

/- Names told, as the document says (labels, Find, Host): the walks. -/
namespace Go.Proofs.YtbiglifngfgffaaGreatDoor
open Go.RowKit
attribute [local go_sem ↓] Go.wp_at_zero Go.wp_at_succ

set_option maxHeartbeats 8000000 in
set_option maxRecDepth 100000 in
theorem labels_any {w : World} {v : Value} (l : List ByteArray) (h : RowR w v l.length 1 (strCells l)) (hl : l.length ≤ 2000000) (hf : ∀ s ∈ l, s.size ≤ 2000000) : Calls Tryz.prog 103 #[v] w (Got (.bool (l.all labelB && (decide (1 ≤ l.length) && decide (l.length ≤ 64)))) w) := by
  obtain ⟨A, cap, rfl⟩ := h.shape
  obtain ⟨N, hN⟩ : ∃ n, n = l.length := ⟨_, rfl⟩
  obtain ⟨R, hR⟩ : ∃ r, r = (l.all labelB && (decide (1 ≤ l.length) && decide (l.length ≤ 64))) := ⟨_, rfl⟩
  rw [← hR]
  rw [← hN] at h hl hR ⊢
  have H := Lib.hid h
  have HF := Lib.hid hf
  have HN := Lib.hid hN
  have HR := Lib.hid hR
  clear h hf hN hR
  go_enter Tryz.func103, Tryz.ntmps103
  go_wp2_with fail
  go_loopw [3] (fun v3 wr => ∃ k : Nat, k ≤ N ∧ v3 = .int .i64 (k : Int) ∧ RowKit.Hid (Below w.heap.size w wr) ∧ RowKit.Hid ((l.take k).all labelB = true)) (fun v3 _ => N - (intOf v3).toNat)
  case atStart => exact ⟨0, Nat.zero_le _, rfl, Lib.hid (Below.refl _ _), Lib.hid rfl⟩
  case round =>
    obtain ⟨k, hk, rfl, HB, HA⟩ := hrel
    by_cases hlt : k < N
    · have hkl : k < l.length := by have := HN.out; omega
      obtain ⟨q, o, rfl, hc⟩ := H.out.cell HB.out (by omega)
      have hse : l[k]? = some l[k] := List.getElem?_eq_getElem hkl
      have ds := hc _ _ (strCells_at hse)
      have htk := List.take_succ_eq_append_getElem hkl
      have hsf := HF.out _ (List.getElem_mem hkl)
      generalize l[k] = s at ds htk hsf hse
      clear hc
      have hla := rlabel_any s hsf wr
      by_cases hls : labelB s = true
      · rw [hls] at hla
        have HL := Lib.hid hla
        have HA2 : RowKit.Hid ((l.take (k + 1)).all labelB = true) := Lib.hid (by rw [htk, List.all_append, HA.out]; simp [hls])
        clear hla hls htk hse hsf
        go_wp2_with (go_at_call 65; (with_reducible refine HL.out.mono ?_); rintro r w4 ⟨rfl, d4⟩)
        go_roundw
        case rel => exact ⟨k + 1, by omega, by go_num, Lib.hid (after HB.out d4), HA2⟩
        case measure => simp [intOf]; omega
      · have hlf : labelB s = false := by simpa using hls
        rw [hlf] at hla
        have HL := Lib.hid hla
        have HRf : RowKit.Hid (R = false) := Lib.hid (by rw [HR.out, all_false hse hlf, Bool.false_and])
        clear hla hls hlf htk hse hsf
        go_wp2_with (go_at_call 65; (with_reducible refine HL.out.mono ?_); rintro r w4 ⟨rfl, d4⟩)
        go_ret
        exact ⟨by rw [HRf.out]; rfl, after HB.out d4⟩
    · obtain rfl : k = N := by omega
      have hR := HR.out
      rw [← List.take_of_length_le (show l.length ≤ k by have := HN.out; omega), HA.out, Bool.true_and] at hR
      have HRx := Lib.hid hR
      clear hR HR HA
      by_cases h1 : 1 ≤ k
      · have q1 : (1 : Int) ≤ (k : Int) := by omega
        by_cases h64 : k ≤ 64
        · have q2 : (k : Int) ≤ 64 := by omega
          go_wp2_with fail
          go_ret
          exact ⟨by rw [HRx.out, decide_eq_true h1, decide_eq_true h64]; rfl, HB.out⟩
        · have q2 : ¬ (k : Int) ≤ 64 := by omega
          go_wp2_with fail
          go_ret
          exact ⟨by rw [HRx.out, decide_eq_true h1, decide_eq_false h64]; rfl, HB.out⟩
      · have q1 : ¬ (1 : Int) ≤ (k : Int) := by omega
        go_wp2_with fail
        go_ret
        exact ⟨by rw [HRx.out, decide_eq_false h1]; rfl, HB.out⟩
theorem str_neq {a b : ByteArray} (h : a ≠ b) : (a.toList == b.toList) = false := by
  rw [beq_eq_false_iff_ne]
  intro e
  rw [ByteArray.toList_eq, ByteArray.toList_eq] at e
  exact h (ByteArray.ext (Array.ext' e))
def FindR (b : Bool) (w : World) (r : Ending) (w' : World) : Prop := (∃ z : Int, r = .returned (.int .i64 z) ∧ (b = true → 0 ≤ z) ∧ (b = false → ¬ 0 ≤ z)) ∧ Below w.heap.size w w'
set_option maxHeartbeats 8000000 in
set_option maxRecDepth 100000 in
theorem find_any {w : World} {v : Value} (l : List (ByteArray × Value)) (h : RowR w v l.length 2 (nmCells l)) (hl : l.length ≤ 4000000) (s : ByteArray) : Calls Tryz.prog 104 #[v, .string s] w (FindR (l.any fun x => decide (x.1 = s)) w) := by
  obtain ⟨A, cap, rfl⟩ := h.shape
  obtain ⟨N, hN⟩ : ∃ n, n = l.length := ⟨_, rfl⟩
  obtain ⟨R, hR⟩ : ∃ r, r = (l.any fun x => decide (x.1 = s)) := ⟨_, rfl⟩
  rw [← hR]
  rw [← hN] at h hl ⊢
  have H := Lib.hid h
  have HN := Lib.hid hN
  have HR := Lib.hid hR
  clear h hN hR
  go_enter Tryz.func104, Tryz.ntmps104
  go_wp2_with fail
  go_loopw [5] (fun v3 wr => ∃ k : Nat, k ≤ N ∧ v3 = .int .i64 (k : Int) ∧ RowKit.Hid (Below w.heap.size w wr) ∧ RowKit.Hid (((l.take k).any fun x => decide (x.1 = s)) = false)) (fun v3 _ => N - (intOf v3).toNat)
  case atStart => exact ⟨0, Nat.zero_le _, rfl, Lib.hid (Below.refl _ _), Lib.hid rfl⟩
  case round =>
    obtain ⟨k, hk, rfl, HB, HA⟩ := hrel
    by_cases hlt : k < N
    case pos =>
      have hkl : k < l.length := by have := HN.out; omega
      obtain ⟨q, o, rfl, hc⟩ := H.out.cell HB.out (by omega)
      have hse : l[k]? = some l[k] := List.getElem?_eq_getElem hkl
      have hm : l[k] ∈ l := List.getElem_mem hkl
      have d0 := hc _ _ (nmCells_at l k _ hse).1
      have htk := List.take_succ_eq_append_getElem hkl
      generalize l[k] = X at d0 htk hse hm
      clear hc
      obtain ⟨nm, hnm⟩ : ∃ n, n = X.1 := ⟨_, rfl⟩
      rw [← hnm] at d0
      by_cases he : nm = s
      · have HRt : RowKit.Hid (R = true) := Lib.hid (by rw [HR.out, List.any_eq_true]; exact ⟨X, hm, by rw [← hnm, he]; simp⟩)
        subst he
        have eb : (nm.toList == nm.toList) = true := by simp
        clear htk hse hm hnm HA
        go_wp2_with fail
        go_ret
        exact ⟨⟨_, rfl, fun _ => by omega, fun e => by rw [HRt.out] at e; cases e⟩, HB.out⟩
      · have HA2 : RowKit.Hid (((l.take (k + 1)).any fun x => decide (x.1 = s)) = false) := Lib.hid (by rw [htk, List.any_append, HA.out, Bool.false_or]; simp; rw [← hnm]; exact he)
        have eb : (nm.toList == s.toList) = false := str_neq he
        clear htk hse hm hnm HA he
        go_wp2_with fail
        go_roundw
        case rel => exact ⟨k + 1, by omega, by go_num, HB, HA2⟩
        case measure => simp [intOf]; omega
    case neg =>
      obtain rfl : k = N := by omega
      have HRf : RowKit.Hid (R = false) := Lib.hid (by have := HA.out; rw [List.take_of_length_le (by have := HN.out; omega)] at this; rw [HR.out, this])
      clear HA
      go_wp2_with fail
      go_ret
      exact ⟨⟨_, rfl, (fun e => by rw [HRf.out] at e; cases e), fun _ => by omega⟩, HB.out⟩
set_option maxHeartbeats 8000000 in
set_option maxRecDepth 100000 in
theorem rhost_any {w : World} {v : Value} (l : List Hs) (h : RowR w v l.length 5 (hsCells l)) (hl : l.length ≤ 4000000) (s : ByteArray) : Calls Tryz.prog 67 #[v, .string s] w (FindR (l.any fun x => decide (x.name = s)) w) := by
  obtain ⟨A, cap, rfl⟩ := h.shape
  obtain ⟨N, hN⟩ : ∃ n, n = l.length := ⟨_, rfl⟩
  obtain ⟨R, hR⟩ : ∃ r, r = (l.any fun x => decide (x.name = s)) := ⟨_, rfl⟩
  rw [← hR]
  rw [← hN] at h hl ⊢
  have H := Lib.hid h
  have HN := Lib.hid hN
  have HR := Lib.hid hR
  clear h hN hR
  go_enter Tryz.func67, Tryz.ntmps67
  go_wp2_with fail
  go_loopw [5] (fun v3 wr => ∃ k : Nat, k ≤ N ∧ v3 = .int .i64 (k : Int) ∧ RowKit.Hid (Below w.heap.size w wr) ∧ RowKit.Hid (((l.take k).any fun x => decide (x.name = s)) = false)) (fun v3 _ => N - (intOf v3).toNat)
  case atStart => exact ⟨0, Nat.zero_le _, rfl, Lib.hid (Below.refl _ _), Lib.hid rfl⟩
  case round =>
    obtain ⟨k, hk, rfl, HB, HA⟩ := hrel
    by_cases hlt : k < N
    case pos =>
      have hkl : k < l.length := by have := HN.out; omega
      obtain ⟨q, o, rfl, hc⟩ := H.out.cell HB.out (by omega)
      have hse : l[k]? = some l[k] := List.getElem?_eq_getElem hkl
      have hm : l[k] ∈ l := List.getElem_mem hkl
      have d0 := hc _ _ (hsCells_at l k _ hse).1
      have htk := List.take_succ_eq_append_getElem hkl
      generalize l[k] = X at d0 htk hse hm
      clear hc
      obtain ⟨nm, hnm⟩ : ∃ n, n = X.name := ⟨_, rfl⟩
      rw [← hnm] at d0
      by_cases he : nm = s
      · have HRt : RowKit.Hid (R = true) := Lib.hid (by rw [HR.out, List.any_eq_true]; exact ⟨X, hm, by rw [← hnm, he]; simp⟩)
        subst he
        have eb : (nm.toList == nm.toList) = true := by simp
        clear htk hse hm hnm HA
        go_wp2_with fail
        go_ret
        exact ⟨⟨_, rfl, fun _ => by omega, fun e => by rw [HRt.out] at e; cases e⟩, HB.out⟩
      · have HA2 : RowKit.Hid (((l.take (k + 1)).any fun x => decide (x.name = s)) = false) := Lib.hid (by rw [htk, List.any_append, HA.out, Bool.false_or]; simp; rw [← hnm]; exact he)
        have eb : (nm.toList == s.toList) = false := str_neq he
        clear htk hse hm hnm HA he
        go_wp2_with fail
        go_roundw
        case rel => exact ⟨k + 1, by omega, by go_num, HB, HA2⟩
        case measure => simp [intOf]; omega
    case neg =>
      obtain rfl : k = N := by omega
      have HRf : RowKit.Hid (R = false) := Lib.hid (by have := HA.out; rw [List.take_of_length_le (by have := HN.out; omega)] at this; rw [HR.out, this])
      clear HA
      go_wp2_with fail
      go_ret
      exact ⟨⟨_, rfl, (fun e => by rw [HRf.out] at e; cases e), fun _ => by omega⟩, HB.out⟩
end Go.Proofs.YtbiglifngfgffaaGreatDoor

/- Selectors, as the document says (MaySel, known): the walks. -/
namespace Go.Proofs.YtbiglifngfgffaaGreatDoor
open Go.RowKit
attribute [local go_sem ↓] Go.wp_at_zero Go.wp_at_succ

set_option maxHeartbeats 8000000 in
set_option maxRecDepth 100000 in
theorem rmaySel_any {w : World} (s : Sel) (hf : SelFit s) : Calls Tryz.prog 108 #[.agg s.cells] w (Got (.bool (rmaySel s)) w) := by
  have hlab := fun u => rlabel_any s.name (by have := hf.name; omega) u
  have hpf := fun u => rmayPrefix_any s.net hf.ok u
  obtain ⟨k, nm, ⟨⟨v6, hi, lo⟩, bits⟩⟩ := s
  simp only [Sel.cells, Pf.cells] at hlab hpf ⊢
  obtain ⟨R, hR⟩ : ∃ r, r = rmaySel ⟨k, nm, ⟨⟨v6, hi, lo⟩, bits⟩⟩ := ⟨_, rfl⟩
  rw [← hR]
  unfold rmaySel at hR
  simp only at hR
  have HD := Lib.hid (boxed w (.cells #[.int .u8 (k : Int), .string nm, .bool v6, .int .u64 (hi : Int), .int .u64 (lo : Int), .int .u8 (bits : Int)] 59))
  have HB := Lib.hid (Blk.new w 59 #[.int .u8 (k : Int), .string nm, .bool v6, .int .u64 (hi : Int), .int .u64 (lo : Int), .int .u8 (bits : Int)])
  have HLab := Lib.hid hlab
  have HPf := Lib.hid hpf
  have HR := Lib.hid hR
  clear hR hlab hpf
  have hzero : ∀ (v : Bool) (h l b : Nat), (⟨⟨v, h, l⟩, b⟩ : Pf) = Pf.zero ↔ v = false ∧ h = 0 ∧ l = 0 ∧ b = 0 := by
    intro v h l b
    constructor
    · intro e
      injection e with e1 e2
      injection e1 with e1 e3 e4
      exact ⟨e1, e3, e4, e2⟩
    · rintro ⟨rfl, rfl, rfl, rfl⟩
      rfl
  go_enter Tryz.func108, Tryz.ntmps108
  go_upto_region 1 with fail
  generalize w.alloc (.cells #[.int .u8 (k : Int), .string nm, .bool v6, .int .u64 (hi : Int), .int .u64 (lo : Int), .int .u8 (bits : Int)] 59) = w1 at HB HD ⊢
  generalize w.heap.size = P at HB ⊢
  have y0 := HB.out.cell 0
  have y1 := HB.out.cell 1
  have y2 := HB.out.cell 2
  have y3 := HB.out.cell 3
  have y4 := HB.out.cell 4
  have y5 := HB.out.cell 5
  simp at y0 y1 y2 y3 y4 y5
  by_cases k1 : k = 1
  · have hR := HR.out
    rw [if_pos k1] at hR
    have e1 : ((k : Int) == 1) = true := by simp; omega
    clear k1
    by_cases he : nm = ByteArray.empty ∧ (⟨⟨v6, hi, lo⟩, bits⟩ : Pf) = Pf.zero
    · rw [he.1, he.2] at hR
      obtain ⟨rfl, h2⟩ := he
      obtain ⟨rfl, rfl, rfl, rfl⟩ := (hzero _ _ _ _).1 h2
      have HRt : RowKit.Hid (R = true) := Lib.hid (by rw [hR]; rfl)
      clear hR HR h2
      go_wp2_with fail
      go_ret
      exact ⟨by rw [HRt.out]; rfl, HD.out⟩
    · have HRf : RowKit.Hid (R = false) := Lib.hid (by rw [hR, Bool.eq_false_iff, ne_eq, Bool.and_eq_true, decide_eq_true_eq, decide_eq_true_eq]; exact he)
      have he2 : ¬ (nm.toList = [] ∧ ¬ v6 = true ∧ hi = 0 ∧ lo = 0 ∧ bits = 0) := fun h => he ⟨tl_inj (by rw [h.1, ByteArray.toList_eq]; rfl), (hzero _ _ _ _).2 ⟨by simpa using h.2.1, h.2.2⟩⟩
      clear hR HR he
      go_wp2_with fail
      all_goals first
        | exact absurd ⟨by assumption, by assumption, by assumption, by assumption, by assumption⟩ he2
        | (go_ret; exact ⟨by rw [HRf.out]; rfl, HD.out⟩)
  have hR := HR.out
  rw [if_neg k1] at hR
  have q1 : ((k : Int) == 1) = false := by simp; omega
  by_cases k2 : k = 2
  · rw [if_pos (Or.inl k2)] at hR
    have e2 : ((k : Int) == 2) = true := by simp; omega
    clear k1 k2
    obtain ⟨LB, hLB⟩ : ∃ b, b = labelB nm := ⟨_, rfl⟩
    rw [← hLB] at hR
    have hl := HLab.out
    rw [← hLB] at hl
    have HL := Lib.hid hl
    clear hLB hl HLab HPf HR
    cases LB with
    | false =>
      have HRf : RowKit.Hid (R = false) := Lib.hid (by rw [hR]; rfl)
      clear hR
      go_wp2_with (go_at_call 65; (with_reducible refine (HL.out _).mono ?_); rintro r w2 ⟨rfl, d2⟩)
      go_ret
      exact ⟨by rw [HRf.out]; rfl, after HD.out d2⟩
    | true =>
    rw [Bool.true_and] at hR
    by_cases he : (⟨⟨v6, hi, lo⟩, bits⟩ : Pf) = Pf.zero
    · rw [he] at hR
      obtain ⟨rfl, rfl, rfl, rfl⟩ := (hzero _ _ _ _).1 he
      have HRt : RowKit.Hid (R = true) := Lib.hid (by rw [hR]; rfl)
      clear hR he
      go_wp2_with (go_at_call 65; (with_reducible refine (HL.out _).mono ?_); rintro r w2 ⟨rfl, d2⟩; have B2 := HB.out.below d2 HB.out.lt; have z2 := B2.cell 2; have z3 := B2.cell 3; have z4 := B2.cell 4; have z5 := B2.cell 5; simp at z2 z3 z4 z5)
      go_ret
      exact ⟨by rw [HRt.out]; rfl, after HD.out d2⟩
    · have HRf : RowKit.Hid (R = false) := Lib.hid (by rw [hR]; exact decide_eq_false he)
      have he2 : ¬ (¬ v6 = true ∧ hi = 0 ∧ lo = 0 ∧ bits = 0) := fun h => he ((hzero _ _ _ _).2 ⟨by simpa using h.1, h.2⟩)
      clear hR he
      go_wp2_with (go_at_call 65; (with_reducible refine (HL.out _).mono ?_); rintro r w2 ⟨rfl, d2⟩; have B2 := HB.out.below d2 HB.out.lt; have z2 := B2.cell 2; have z3 := B2.cell 3; have z4 := B2.cell 4; have z5 := B2.cell 5; simp at z2 z3 z4 z5; have HD2 := Lib.hid (after HD.out d2))
      all_goals first
        | exact absurd ⟨by assumption, by assumption, by assumption, by assumption⟩ he2
        | (go_ret; exact ⟨by rw [HRf.out]; rfl, HD2.out⟩)
  have q2 : ((k : Int) == 2) = false := by simp; omega
  by_cases k3 : k = 3
  · rw [if_pos (Or.inr (Or.inl k3))] at hR
    have e3 : ((k : Int) == 3) = true := by simp; omega
    clear k1 k2 k3
    obtain ⟨LB, hLB⟩ : ∃ b, b = labelB nm := ⟨_, rfl⟩
    rw [← hLB] at hR
    have hl := HLab.out
    rw [← hLB] at hl
    have HL := Lib.hid hl
    clear hLB hl HLab HPf HR
    cases LB with
    | false =>
      have HRf : RowKit.Hid (R = false) := Lib.hid (by rw [hR]; rfl)
      clear hR
      go_wp2_with (go_at_call 65; (with_reducible refine (HL.out _).mono ?_); rintro r w2 ⟨rfl, d2⟩)
      go_ret
      exact ⟨by rw [HRf.out]; rfl, after HD.out d2⟩
    | true =>
    rw [Bool.true_and] at hR
    by_cases he : (⟨⟨v6, hi, lo⟩, bits⟩ : Pf) = Pf.zero
    · rw [he] at hR
      obtain ⟨rfl, rfl, rfl, rfl⟩ := (hzero _ _ _ _).1 he
      have HRt : RowKit.Hid (R = true) := Lib.hid (by rw [hR]; rfl)
      clear hR he
      go_wp2_with (go_at_call 65; (with_reducible refine (HL.out _).mono ?_); rintro r w2 ⟨rfl, d2⟩; have B2 := HB.out.below d2 HB.out.lt; have z2 := B2.cell 2; have z3 := B2.cell 3; have z4 := B2.cell 4; have z5 := B2.cell 5; simp at z2 z3 z4 z5)
      go_ret
      exact ⟨by rw [HRt.out]; rfl, after HD.out d2⟩
    · have HRf : RowKit.Hid (R = false) := Lib.hid (by rw [hR]; exact decide_eq_false he)
      have he2 : ¬ (¬ v6 = true ∧ hi = 0 ∧ lo = 0 ∧ bits = 0) := fun h => he ((hzero _ _ _ _).2 ⟨by simpa using h.1, h.2⟩)
      clear hR he
      go_wp2_with (go_at_call 65; (with_reducible refine (HL.out _).mono ?_); rintro r w2 ⟨rfl, d2⟩; have B2 := HB.out.below d2 HB.out.lt; have z2 := B2.cell 2; have z3 := B2.cell 3; have z4 := B2.cell 4; have z5 := B2.cell 5; simp at z2 z3 z4 z5; have HD2 := Lib.hid (after HD.out d2))
      all_goals first
        | exact absurd ⟨by assumption, by assumption, by assumption, by assumption⟩ he2
        | (go_ret; exact ⟨by rw [HRf.out]; rfl, HD2.out⟩)
  have q3 : ((k : Int) == 3) = false := by simp; omega
  by_cases k4 : k = 4
  · rw [if_pos (Or.inr (Or.inr (Or.inl k4)))] at hR
    have e4 : ((k : Int) == 4) = true := by simp; omega
    clear k1 k2 k3 k4
    obtain ⟨LB, hLB⟩ : ∃ b, b = labelB nm := ⟨_, rfl⟩
    rw [← hLB] at hR
    have hl := HLab.out
    rw [← hLB] at hl
    have HL := Lib.hid hl
    clear hLB hl HLab HPf HR
    cases LB with
    | false =>
      have HRf : RowKit.Hid (R = false) := Lib.hid (by rw [hR]; rfl)
      clear hR
      go_wp2_with (go_at_call 65; (with_reducible refine (HL.out _).mono ?_); rintro r w2 ⟨rfl, d2⟩)
      go_ret
      exact ⟨by rw [HRf.out]; rfl, after HD.out d2⟩
    | true =>
    rw [Bool.true_and] at hR
    by_cases he : (⟨⟨v6, hi, lo⟩, bits⟩ : Pf) = Pf.zero
    · rw [he] at hR
      obtain ⟨rfl, rfl, rfl, rfl⟩ := (hzero _ _ _ _).1 he
      have HRt : RowKit.Hid (R = true) := Lib.hid (by rw [hR]; rfl)
      clear hR he
      go_wp2_with (go_at_call 65; (with_reducible refine (HL.out _).mono ?_); rintro r w2 ⟨rfl, d2⟩; have B2 := HB.out.below d2 HB.out.lt; have z2 := B2.cell 2; have z3 := B2.cell 3; have z4 := B2.cell 4; have z5 := B2.cell 5; simp at z2 z3 z4 z5)
      go_ret
      exact ⟨by rw [HRt.out]; rfl, after HD.out d2⟩
    · have HRf : RowKit.Hid (R = false) := Lib.hid (by rw [hR]; exact decide_eq_false he)
      have he2 : ¬ (¬ v6 = true ∧ hi = 0 ∧ lo = 0 ∧ bits = 0) := fun h => he ((hzero _ _ _ _).2 ⟨by simpa using h.1, h.2⟩)
      clear hR he
      go_wp2_with (go_at_call 65; (with_reducible refine (HL.out _).mono ?_); rintro r w2 ⟨rfl, d2⟩; have B2 := HB.out.below d2 HB.out.lt; have z2 := B2.cell 2; have z3 := B2.cell 3; have z4 := B2.cell 4; have z5 := B2.cell 5; simp at z2 z3 z4 z5; have HD2 := Lib.hid (after HD.out d2))
      all_goals first
        | exact absurd ⟨by assumption, by assumption, by assumption, by assumption⟩ he2
        | (go_ret; exact ⟨by rw [HRf.out]; rfl, HD2.out⟩)
  have q4 : ((k : Int) == 4) = false := by simp; omega
  by_cases k5 : k = 5
  · rw [if_pos (Or.inr (Or.inr (Or.inr k5)))] at hR
    have e5 : ((k : Int) == 5) = true := by simp; omega
    clear k1 k2 k3 k4 k5
    obtain ⟨LB, hLB⟩ : ∃ b, b = labelB nm := ⟨_, rfl⟩
    rw [← hLB] at hR
    have hl := HLab.out
    rw [← hLB] at hl
    have HL := Lib.hid hl
    clear hLB hl HLab HPf HR
    cases LB with
    | false =>
      have HRf : RowKit.Hid (R = false) := Lib.hid (by rw [hR]; rfl)
      clear hR
      go_wp2_with (go_at_call 65; (with_reducible refine (HL.out _).mono ?_); rintro r w2 ⟨rfl, d2⟩)
      go_ret
      exact ⟨by rw [HRf.out]; rfl, after HD.out d2⟩
    | true =>
    rw [Bool.true_and] at hR
    by_cases he : (⟨⟨v6, hi, lo⟩, bits⟩ : Pf) = Pf.zero
    · rw [he] at hR
      obtain ⟨rfl, rfl, rfl, rfl⟩ := (hzero _ _ _ _).1 he
      have HRt : RowKit.Hid (R = true) := Lib.hid (by rw [hR]; rfl)
      clear hR he
      go_wp2_with (go_at_call 65; (with_reducible refine (HL.out _).mono ?_); rintro r w2 ⟨rfl, d2⟩; have B2 := HB.out.below d2 HB.out.lt; have z2 := B2.cell 2; have z3 := B2.cell 3; have z4 := B2.cell 4; have z5 := B2.cell 5; simp at z2 z3 z4 z5)
      go_ret
      exact ⟨by rw [HRt.out]; rfl, after HD.out d2⟩
    · have HRf : RowKit.Hid (R = false) := Lib.hid (by rw [hR]; exact decide_eq_false he)
      have he2 : ¬ (¬ v6 = true ∧ hi = 0 ∧ lo = 0 ∧ bits = 0) := fun h => he ((hzero _ _ _ _).2 ⟨by simpa using h.1, h.2⟩)
      clear hR he
      go_wp2_with (go_at_call 65; (with_reducible refine (HL.out _).mono ?_); rintro r w2 ⟨rfl, d2⟩; have B2 := HB.out.below d2 HB.out.lt; have z2 := B2.cell 2; have z3 := B2.cell 3; have z4 := B2.cell 4; have z5 := B2.cell 5; simp at z2 z3 z4 z5; have HD2 := Lib.hid (after HD.out d2))
      all_goals first
        | exact absurd ⟨by assumption, by assumption, by assumption, by assumption⟩ he2
        | (go_ret; exact ⟨by rw [HRf.out]; rfl, HD2.out⟩)
  have q5 : ((k : Int) == 5) = false := by simp; omega
  rw [if_neg (show ¬ (k = 2 ∨ k = 3 ∨ k = 4 ∨ k = 5) by omega)] at hR
  by_cases k6 : k = 6
  · rw [if_pos k6] at hR
    have e6 : ((k : Int) == 6) = true := by simp; omega
    obtain ⟨PB, hPB⟩ : ∃ b, b = pmay ⟨⟨v6, hi, lo⟩, bits⟩ := ⟨_, rfl⟩
    rw [← hPB] at hR
    have hp := HPf.out
    rw [← hPB] at hp
    have HP := Lib.hid hp
    clear hPB hp HLab HPf HR k1 k2 k3 k4 k5 k6
    by_cases he : nm = ByteArray.empty
    · subst he
      have HRt : RowKit.Hid (R = PB) := Lib.hid (by rw [hR]; rfl)
      clear hR
      go_wp2_with (go_at_call 66; (with_reducible refine (HP.out _).mono ?_); rintro r w2 ⟨rfl, d2⟩)
      go_ret
      exact ⟨by rw [HRt.out]; rfl, after HD.out d2⟩
    · have HRf : RowKit.Hid (R = false) := Lib.hid (by rw [hR, decide_eq_false he]; rfl)
      have hne : (nm.toList == []) = false := by
        rw [beq_eq_false_iff_ne]
        exact fun e => he (tl_inj (by rw [e, ByteArray.toList_eq]; rfl))
      clear hR he
      go_wp2_with fail
      go_ret
      exact ⟨by rw [HRf.out]; rfl, HD.out⟩
  have q6 : ((k : Int) == 6) = false := by simp; omega
  rw [if_neg k6] at hR
  have HRf := Lib.hid hR
  clear hR HR k1 k2 k3 k4 k5 k6 HLab HPf
  go_wp2_with fail
  go_ret
  exact ⟨by rw [HRf.out]; rfl, HD.out⟩
end Go.Proofs.YtbiglifngfgffaaGreatDoor

/- What is known, and selectors, as the document says (known, sels): the walks. -/
namespace Go.Proofs.YtbiglifngfgffaaGreatDoor
open Go.RowKit
attribute [local go_sem ↓] Go.wp_at_zero Go.wp_at_succ

theorem below_cell' {w u : World} {g o : Nat} {v : Value} (h : w.cell? ⟨g, o, none⟩ = some v) (hb : Below w.heap.size w u) : u.cell? ⟨g, o, none⟩ = some v := (hb.cell (World.block_lt_of_cell? w _ h)).trans h
set_option maxHeartbeats 4000000 in
set_option maxRecDepth 100000 in
theorem rknown_any {w : World} {V : PoV} {p : Po} (h : PoRd w V p) (hg : p.groups.length ≤ 4000000) (ht : p.tags.length ≤ 4000000) (hh : p.hosts.length ≤ 4000000) (s : Sel) :
    Calls Tryz.prog 109 #[.agg #[V.g, V.t, V.h, V.a], .agg #[.int .u8 (s.kind : Int), .string s.name, .bool s.net.a.v6, .int .u64 (s.net.a.hi : Int), .int .u64 (s.net.a.lo : Int), .int .u8 (s.net.bits : Int)]] w (Got (.bool (knownP p s)) w) := by
  obtain ⟨k, nm, ⟨⟨v6, hi, lo⟩, bits⟩⟩ := s
  obtain ⟨gv, tv, hv, av⟩ := V
  simp only
  have b1 := boxed w (.cells #[gv, tv, hv, av] 26)
  have b2 := boxed (w.alloc (.cells #[gv, tv, hv, av] 26)) (.cells #[.int .u8 (k : Int), .string nm, .bool v6, .int .u64 (hi : Int), .int .u64 (lo : Int), .int .u8 (bits : Int)] 59)
  have B1 := Blk.new w 26 #[gv, tv, hv, av]
  have B2 := Blk.new (w.alloc (.cells #[gv, tv, hv, av] 26)) 59 #[.int .u8 (k : Int), .string nm, .bool v6, .int .u64 (hi : Int), .int .u64 (lo : Int), .int .u8 (bits : Int)]
  have B3 := B1.below b2 B1.lt
  have H2 := h.below (after b1 b2)
  have HD := Lib.hid (after b1 b2)
  obtain ⟨G, hG, rg, hga⟩ := H2.g.has nm
  obtain ⟨T, hT, rt, hta⟩ := H2.t.has nm
  have cg := find_any G rg (by omega) nm
  have ct := find_any T rt (by omega) nm
  have ch := rhost_any p.hosts H2.h hh nm
  obtain ⟨Ag, cg1, eg⟩ := rg.shape
  obtain ⟨At, ct1, et⟩ := rt.shape
  obtain ⟨Ah, ch1, eh⟩ := H2.h.shape
  obtain ⟨Aa, ca1, ea⟩ := H2.a.shape
  simp only at eg et eh ea
  subst eg et eh ea
  rw [hga] at cg
  rw [hta] at ct
  rw [show (p.hosts.any fun x => decide (x.name = nm)) = hasH p.hosts nm from rfl] at ch
  have hkn : knownP p ⟨k, nm, ⟨⟨v6, hi, lo⟩, bits⟩⟩ = if k = 3 then hasN p.groups nm else if k = 4 then hasN p.tags nm else if k = 5 then hasH p.hosts nm else true := rfl
  rw [hkn]
  generalize hasN p.groups nm = RG at cg ⊢
  generalize hasN p.tags nm = RT at ct ⊢
  generalize hasH p.hosts nm = RH at ch ⊢
  generalize G.length = lg at *
  generalize T.length = lt at *
  have x0 := B3.cell 0
  have x1 := B3.cell 1
  have x2 := B3.cell 2
  have y0 := B2.cell 0
  have y1 := B2.cell 1
  simp at x0 x1 x2 y0 y1
  unfold FindR at cg ct ch
  have HG := Lib.hid cg
  have HT := Lib.hid ct
  have HH := Lib.hid ch
  clear hkn h b1 b2 B1 B2 B3 H2 hga hta rg rt cg ct ch hG hT hg ht hh
  by_cases k3 : k = 3
  · rw [if_pos k3]
    have e3 : ((k : Int) == 3) = true := by simp; omega
    clear k3 HT HH
    go_enter Tryz.func109, Tryz.ntmps109
    cases RG with
    | true =>
      go_wp2_with (go_at_call 104; (with_reducible refine HG.out.mono ?_); rintro r w2 ⟨⟨z, rfl, z1, z2⟩, d2⟩; have qz := z1 rfl; clear z1 z2)
      go_ret
      exact ⟨by first | rfl | (simp; omega), after HD.out d2⟩
    | false =>
      go_wp2_with (go_at_call 104; (with_reducible refine HG.out.mono ?_); rintro r w2 ⟨⟨z, rfl, z1, z2⟩, d2⟩; have qz := z2 rfl; clear z1 z2)
      go_ret
      exact ⟨by first | rfl | (simp; omega), after HD.out d2⟩
  rw [if_neg k3]
  have q3 : ((k : Int) == 3) = false := by simp; omega
  by_cases k4 : k = 4
  · rw [if_pos k4]
    have e4 : ((k : Int) == 4) = true := by simp; omega
    clear k4 k3 HG HH
    go_enter Tryz.func109, Tryz.ntmps109
    cases RT with
    | true =>
      go_wp2_with (go_at_call 104; (with_reducible refine HT.out.mono ?_); rintro r w2 ⟨⟨z, rfl, z1, z2⟩, d2⟩; have qz := z1 rfl; clear z1 z2)
      go_ret
      exact ⟨by first | rfl | (simp; omega), after HD.out d2⟩
    | false =>
      go_wp2_with (go_at_call 104; (with_reducible refine HT.out.mono ?_); rintro r w2 ⟨⟨z, rfl, z1, z2⟩, d2⟩; have qz := z2 rfl; clear z1 z2)
      go_ret
      exact ⟨by first | rfl | (simp; omega), after HD.out d2⟩
  rw [if_neg k4]
  have q4 : ((k : Int) == 4) = false := by simp; omega
  by_cases k5 : k = 5
  · rw [if_pos k5]
    have e5 : ((k : Int) == 5) = true := by simp; omega
    clear k5 k3 k4 HG HT
    go_enter Tryz.func109, Tryz.ntmps109
    cases RH with
    | true =>
      go_wp2_with (go_at_call 67; (with_reducible refine HH.out.mono ?_); rintro r w2 ⟨⟨z, rfl, z1, z2⟩, d2⟩; have qz := z1 rfl; clear z1 z2)
      go_ret
      exact ⟨by first | rfl | (simp; omega), after HD.out d2⟩
    | false =>
      go_wp2_with (go_at_call 67; (with_reducible refine HH.out.mono ?_); rintro r w2 ⟨⟨z, rfl, z1, z2⟩, d2⟩; have qz := z2 rfl; clear z1 z2)
      go_ret
      exact ⟨by first | rfl | (simp; omega), after HD.out d2⟩
  rw [if_neg k5]
  have q5 : ((k : Int) == 5) = false := by simp; omega
  clear k3 k4 k5 HG HT HH
  go_enter Tryz.func109, Tryz.ntmps109
  go_wp2_with fail
  go_ret
  exact ⟨rfl, HD.out⟩

set_option maxHeartbeats 8000000 in
set_option maxRecDepth 100000 in
theorem rsels_any {w : World} {V : PoV} {p : Po} (h : PoRd w V p) (hg : p.groups.length ≤ 2000000) (ht : p.tags.length ≤ 2000000) (hh : p.hosts.length ≤ 2000000) {v : Value} (l : List Sel) (hr : RowR w v l.length 6 (selCells l)) (hl : l.length ≤ 2000000) (hf : ∀ s ∈ l, SelFit s) :
    Calls Tryz.prog 68 #[.agg #[V.g, V.t, V.h, V.a], v] w (Got (.bool (maySels p l)) w) := by
  obtain ⟨A, cap, rfl⟩ := hr.shape
  obtain ⟨N, hN⟩ : ∃ n, n = l.length := ⟨_, rfl⟩
  obtain ⟨R, hR⟩ : ∃ r, r = maySels p l := ⟨_, rfl⟩
  rw [← hN] at hr hl ⊢
  rw [← hR]
  rw [maySels_eq, ← hN] at hR
  obtain ⟨gv, tv, hv, av⟩ := V
  obtain ⟨Ag, cg, eg⟩ := h.g.shape
  obtain ⟨At, ct, et⟩ := h.t.shape
  obtain ⟨Ah, ch, eh⟩ := h.h.shape
  obtain ⟨Aa, ca, ea⟩ := h.a.shape
  simp only at eg et eh ea
  subst eg et eh ea
  have hkn := fun u (hu : Below w.heap.size w u) => rknown_any (h.below hu) (by omega) (by omega) (by omega)
  simp only at hkn
  generalize p.groups.length = lg at *
  generalize p.tags.length = lt at *
  generalize p.hosts.length = lh at *
  generalize p.acls.length = la at *
  have HKn := Lib.hid hkn
  have HRow := Lib.hid hr
  have HF := Lib.hid hf
  have HN := Lib.hid hN
  have HR := Lib.hid hR
  clear h hkn hr hf hN hR hg ht hh
  have HP := Lib.hid (Blk.new w 26 #[.slice Ag lg cg, .slice At lt ct, .slice Ah lh ch, .slice Aa la ca])
  have HD := Lib.hid (boxed w (.cells #[.slice Ag lg cg, .slice At lt ct, .slice Ah lh ch, .slice Aa la ca] 26))
  go_enter Tryz.func68, Tryz.ntmps68
  go_upto_region 1 with fail
  generalize w.alloc (.cells #[.slice Ag lg cg, .slice At lt ct, .slice Ah lh ch, .slice Aa la ca] 26) = w1 at HP HD ⊢
  generalize w.heap.size = PB at HP ⊢
  go_wp2_with fail
  go_loopw [5] (fun v5 wr => ∃ k : Nat, k ≤ N ∧ v5 = .int .i64 (k : Int) ∧ RowKit.Hid (Below w.heap.size w wr) ∧ RowKit.Hid (Blk wr PB 26 #[.slice Ag lg cg, .slice At lt ct, .slice Ah lh ch, .slice Aa la ca]) ∧ RowKit.Hid ((l.take k).all (okSel p) = true)) (fun v5 _ => N - (intOf v5).toNat)
  case atStart => exact ⟨0, Nat.zero_le _, rfl, HD, HP, Lib.hid rfl⟩
  case round =>
    clear HD HP
    obtain ⟨k, hk, rfl, HD, HP, HA⟩ := hrel
    by_cases hlt : k < N
    case pos =>
      have hkl : k < l.length := by have := HN.out; omega
      obtain ⟨q, o, rfl, hc⟩ := HRow.out.cell HD.out (by omega)
      have hXl : l[k]? = some l[k] := List.getElem?_eq_getElem hkl
      have htk := List.take_succ_eq_append_getElem hkl
      have hXf := HF.out _ (List.getElem_mem hkl)
      generalize l[k] = X at hXl htk hXf
      obtain ⟨e0, e1, e2, e3, e4, e5⟩ := selCells_at l k X hXl
      have d0 := hc _ _ e0
      have d1 := hc _ _ e1
      have d2 := hc _ _ e2
      have d3 := hc _ _ e3
      have d4 := hc _ _ e4
      have d5 := hc _ _ e5
      rw [← Nat.add_assoc] at d1 d2 d3 d4 d5
      have hms := fun u => rmaySel_any (w := u) X hXf
      have hkn := fun u (hu : Below w.heap.size w u) => HKn.out u hu X
      have hok : okSel p X = (rmaySel X && knownP p X) := by rw [← rmaySel_eq hXf.ok]; rfl
      have a0 := HP.out.cell 0
      have a1 := HP.out.cell 1
      have a2 := HP.out.cell 2
      have a3 := HP.out.cell 3
      simp at a0 a1 a2 a3
      obtain ⟨x1, x2, ⟨⟨x3, x4, x5⟩, x6⟩⟩ := X
      simp only [Sel.cells] at d0 d1 d2 d3 d4 d5 hms hkn
      generalize rmaySel ⟨x1, x2, ⟨⟨x3, x4, x5⟩, x6⟩⟩ = MS at hms hok
      generalize knownP p ⟨x1, x2, ⟨⟨x3, x4, x5⟩, x6⟩⟩ = KN at hkn hok
      have HTk := Lib.hid htk
      have HXl := Lib.hid hXl
      have HMs := Lib.hid hms
      have HKx := Lib.hid hkn
      have HOk := Lib.hid hok
      clear htk hXl hXf e0 e1 e2 e3 e4 e5 hms hkn hok hc
      obtain ⟨wo, rfl⟩ : ∃ wo : World, wo = wr := ⟨_, rfl⟩
      go_upto_region 4 with fail
      cases MS with
      | false =>
        have HRf : RowKit.Hid (R = false) := Lib.hid (by rw [HR.out, all_false HXl.out (by rw [HOk.out]; rfl), Bool.false_and, Bool.false_and])
        refine wp_region_held_drew (S := (fun w' => w'.cell? ⟨PB, 0, none⟩ = some (.slice Ag lg cg) ∧ w'.cell? ⟨PB, 1, none⟩ = some (.slice At lt ct) ∧ w'.cell? ⟨PB, 2, none⟩ = some (.slice Ah lh ch) ∧ w'.cell? ⟨PB, 3, none⟩ = some (.slice Aa la ca) ∧ w'.cell? ⟨q, o + k * 6, none⟩ = some (.int .u8 (x1 : Int)) ∧ w'.cell? ⟨q, o + k * 6 + 1, none⟩ = some (.string x2) ∧ w'.cell? ⟨q, o + k * 6 + 2, none⟩ = some (.bool x3) ∧ w'.cell? ⟨q, o + k * 6 + 3, none⟩ = some (.int .u64 (x4 : Int)) ∧ w'.cell? ⟨q, o + k * 6 + 4, none⟩ = some (.int .u64 (x5 : Int)) ∧ w'.cell? ⟨q, o + k * 6 + 5, none⟩ = some (.int .u8 (x6 : Int)))) (by kernel_rfl) (⟨a0, a1, a2, a3, d0, d1, d2, d3, d4, d5⟩) (fun hHeld => ?_)
        refine tH 0 ?_; try simp only [Ap]
        refine tH 1 ?_; try simp only [Ap]
        refine tH 2 ?_; try simp only [Ap]
        refine tH 3 ?_; try simp only [Ap]
        refine wpAnyH_ready (rs := [4]) (by kernel_rfl) (by simp) ?_
        refine AllReadyH.cons rfl (fun K hK => ?_) AllReadyH.nil
        go_simp
        refine (HMs.out _).mono ?_
        rintro r wb ⟨rfl, db⟩
        have eb : Below wo.heap.size wo wb := ⟨db.os, db.tape, db.output, db.size, db.block⟩
        clear db
        refine hK.out _ _ (⟨below_cell' a0 eb, below_cell' a1 eb, below_cell' a2 eb, below_cell' a3 eb, below_cell' d0 eb, below_cell' d1 eb, below_cell' d2 eb, below_cell' d3 eb, below_cell' d4 eb, below_cell' d5 eb⟩) (fun hHeld => ?_)
        clear hK K
        try simp only [Ap]
        refine tH 5 ?_; try simp only [Ap]
        refine tH 6 ?_; try simp only [Ap]
        refine tU 7 ?_; try simp only [Ap]
        refine tU 8 ?_; try simp only [Ap]
        refine tU 9 ?_; try simp only [Ap]
        refine tU 10 ?_; try simp only [Ap]
        refine tU 11 ?_; try simp only [Ap]
        refine tU 12 ?_; try simp only [Ap]
        refine tU 13 ?_; try simp only [Ap]
        refine tH 14 ?_; try simp only [Ap]
        refine wpAnyH_done (by kernel_rfl) ?_ _
        go_wp2_with fail
        go_ret
        exact ⟨by rw [HRf.out]; rfl, after HD.out eb⟩
      | true =>
        refine wp_region_held_drew (S := (fun w' => w'.cell? ⟨PB, 0, none⟩ = some (.slice Ag lg cg) ∧ w'.cell? ⟨PB, 1, none⟩ = some (.slice At lt ct) ∧ w'.cell? ⟨PB, 2, none⟩ = some (.slice Ah lh ch) ∧ w'.cell? ⟨PB, 3, none⟩ = some (.slice Aa la ca) ∧ w'.cell? ⟨q, o + k * 6, none⟩ = some (.int .u8 (x1 : Int)) ∧ w'.cell? ⟨q, o + k * 6 + 1, none⟩ = some (.string x2) ∧ w'.cell? ⟨q, o + k * 6 + 2, none⟩ = some (.bool x3) ∧ w'.cell? ⟨q, o + k * 6 + 3, none⟩ = some (.int .u64 (x4 : Int)) ∧ w'.cell? ⟨q, o + k * 6 + 4, none⟩ = some (.int .u64 (x5 : Int)) ∧ w'.cell? ⟨q, o + k * 6 + 5, none⟩ = some (.int .u8 (x6 : Int)))) (by kernel_rfl) (⟨a0, a1, a2, a3, d0, d1, d2, d3, d4, d5⟩) (fun hHeld => ?_)
        refine tH 0 ?_; try simp only [Ap]
        refine tH 1 ?_; try simp only [Ap]
        refine tH 2 ?_; try simp only [Ap]
        refine tH 3 ?_; try simp only [Ap]
        refine wpAnyH_ready (rs := [4]) (by kernel_rfl) (by simp) ?_
        refine AllReadyH.cons rfl (fun K hK => ?_) AllReadyH.nil
        go_simp
        refine (HMs.out _).mono ?_
        rintro r wb ⟨rfl, db⟩
        have eb : Below wo.heap.size wo wb := ⟨db.os, db.tape, db.output, db.size, db.block⟩
        clear db
        refine hK.out _ _ (⟨below_cell' a0 eb, below_cell' a1 eb, below_cell' a2 eb, below_cell' a3 eb, below_cell' d0 eb, below_cell' d1 eb, below_cell' d2 eb, below_cell' d3 eb, below_cell' d4 eb, below_cell' d5 eb⟩) (fun hHeld => ?_)
        clear hK K
        try simp only [Ap]
        refine tH 5 ?_; try simp only [Ap]
        refine tH 6 ?_; try simp only [Ap]
        refine tH 7 ?_; try simp only [Ap]
        refine tH 8 ?_; try simp only [Ap]
        refine tH 9 ?_; try simp only [Ap]
        refine tH 10 ?_; try simp only [Ap]
        refine tH 11 ?_; try simp only [Ap]
        refine wpAnyH_ready (rs := [12]) (by kernel_rfl) (by simp) ?_
        refine AllReadyH.cons rfl (fun K hK => ?_) AllReadyH.nil
        go_simp
        refine (HKx.out _ (after HD.out eb)).mono ?_
        rintro r wc ⟨rfl, dc⟩
        have ec := after eb dc
        clear dc
        refine hK.out _ _ (⟨below_cell' a0 ec, below_cell' a1 ec, below_cell' a2 ec, below_cell' a3 ec, below_cell' d0 ec, below_cell' d1 ec, below_cell' d2 ec, below_cell' d3 ec, below_cell' d4 ec, below_cell' d5 ec⟩) (fun hHeld => ?_)
        clear hK K
        try simp only [Ap]
        refine tH 13 ?_; try simp only [Ap]
        refine tH 14 ?_; try simp only [Ap]
        refine wpAnyH_done (by kernel_rfl) ?_ _
        have HD2 := Lib.hid (after HD.out ec)
        have HP2 := Lib.hid (HP.out.below ec HP.out.lt)
        clear a0 a1 a2 a3 d0 d1 d2 d3 d4 d5 eb ec
        cases KN with
        | false =>
          have HRf : RowKit.Hid (R = false) := Lib.hid (by rw [HR.out, all_false HXl.out (by rw [HOk.out]; rfl), Bool.false_and, Bool.false_and])
          go_wp2_with fail
          go_ret
          exact ⟨by rw [HRf.out]; rfl, HD2.out⟩
        | true =>
          have HA2 : RowKit.Hid ((l.take (k + 1)).all (okSel p) = true) := Lib.hid (by rw [HTk.out, List.all_append, HA.out]; simp [HOk.out])
          go_wp2_with fail
          go_roundw
          case rel => exact ⟨k + 1, by omega, by go_num, HD2, HP2, HA2⟩
          case measure => simp [intOf]; omega
    case neg =>
      obtain rfl : k = N := by omega
      have hR := HR.out
      rw [← List.take_of_length_le (show l.length ≤ k by have := HN.out; omega), HA.out, Bool.true_and] at hR
      have HRx := Lib.hid hR
      clear hR HR HA
      by_cases h1 : 1 ≤ k
      · have q1 : (1 : Int) ≤ (k : Int) := by omega
        by_cases h64 : k ≤ 64
        · have q2 : (k : Int) ≤ 64 := by omega
          go_wp2_with fail
          go_ret
          exact ⟨by rw [HRx.out, decide_eq_true h1, decide_eq_true h64]; rfl, HD.out⟩
        · have q2 : ¬ (k : Int) ≤ 64 := by omega
          go_wp2_with fail
          go_ret
          exact ⟨by rw [HRx.out, decide_eq_true h1, decide_eq_false h64]; rfl, HD.out⟩
      · have q1 : ¬ (1 : Int) ≤ (k : Int) := by omega
        go_wp2_with fail
        go_ret
        exact ⟨by rw [HRx.out, decide_eq_false h1]; rfl, HD.out⟩
end Go.Proofs.YtbiglifngfgffaaGreatDoor

/- Groups and tags, as the document says (named): the walk. -/
namespace Go.Proofs.YtbiglifngfgffaaGreatDoor
open Go.RowKit
attribute [local go_sem ↓] Go.wp_at_zero Go.wp_at_succ

theorem nmCells_take : ∀ (l : List (ByteArray × Value)) (k : Nat), nmCells (l.take k) = (nmCells l).take (k * 2) := by
  intro l
  induction l with
  | nil => intro k; simp [nmCells]
  | cons x r ih =>
    intro k
    cases k with
    | zero => rw [Nat.zero_mul, List.take_zero, List.take_zero]; rfl
    | succ k =>
      rw [List.take_succ_cons, show (k + 1) * 2 = k * 2 + 1 + 1 by omega]
      show [Value.string x.1, x.2] ++ nmCells (r.take k) = ([Value.string x.1, x.2] ++ nmCells r).take (k * 2 + 1 + 1)
      rw [ih]
      rfl
theorem RowR.take {w : World} {A : Option Addr} {n cap size : Nat} {xs : List Value} (h : RowR w (.slice A n cap) n size xs) {k : Nat} (hk : k ≤ n) : RowR w (.slice A k cap) k size (xs.take (k * size)) := by
  obtain ⟨A', cap', e, hl, hc⟩ := h
  injection e with e1 _ e2
  subst e1 e2
  refine ⟨A, cap, rfl, ?_, fun hp => ?_⟩
  · rw [List.length_take, hl]
    exact Nat.min_eq_left (Nat.mul_le_mul_right _ hk)
  · obtain ⟨g, o, ha, hcc⟩ := hc (by omega)
    refine ⟨g, o, ha, fun j u hu => hcc j u ?_⟩
    rw [List.getElem?_take] at hu
    split at hu
    · exact hu
    · cases hu
theorem distinct_snoc_names {l : List Nm} {k : Nat} {x : Nm} (hx : l.take (k + 1) = l.take k ++ [x]) (h : distinct ((l.take k).map (·.name)) = true) (hn : hasN (l.take k) x.name = false) : distinct ((l.take (k + 1)).map (·.name)) = true := by
  rw [hx, List.map_append]
  exact distinct_snoc h (hasN_not hn)
theorem hasN_mem {l : List Nm} {s : ByteArray} (h : hasN l s = true) : s ∈ l.map (·.name) := by
  unfold hasN at h
  rw [List.any_eq_true] at h
  obtain ⟨x, hx, e⟩ := h
  exact List.mem_map.2 ⟨x, hx, of_decide_eq_true e⟩

def CapOk (v : Value) : Prop := ∀ A n c, v = .slice A n c → n ≤ c
set_option maxHeartbeats 8000000 in
set_option maxRecDepth 100000 in
theorem rnamed_any {w : World} {v : Value} (l : List Nm) (h : NmRd w v l) (hcap : CapOk v) (hl : l.length ≤ 2000000) (hf : ∀ n ∈ l, NmFit n) : Calls Tryz.prog 64 #[v] w (Got (.bool (mayNm l)) w) := by
  obtain ⟨A, cap, rfl⟩ := h.shape
  obtain ⟨xs, hxs, hrow, hin⟩ := h
  obtain ⟨N, hN⟩ : ∃ n, n = l.length := ⟨_, rfl⟩
  obtain ⟨R, hR⟩ : ∃ r, r = mayNm l := ⟨_, rfl⟩
  rw [← hN] at hrow hl hcap ⊢
  have hNc : N ≤ cap := hcap _ _ _ rfl
  rw [← hR]
  rw [mayNm_eq, ← hN] at hR
  have HRow := Lib.hid hrow
  have HIn := Lib.hid hin
  have HXs := Lib.hid hxs
  have HF := Lib.hid hf
  have HN := Lib.hid hN
  have HR := Lib.hid hR
  clear hrow hin hxs hf hN hR hcap
  go_enter Tryz.func64, Tryz.ntmps64
  go_wp2_with fail
  go_loopw [3] (fun v3 wr => ∃ k : Nat, k ≤ N ∧ v3 = .int .i64 (k : Int) ∧ RowKit.Hid (Below w.heap.size w wr) ∧ RowKit.Hid ((l.take k).all okNm = true) ∧ RowKit.Hid (distinct ((l.take k).map (·.name)) = true)) (fun v3 _ => N - (intOf v3).toNat)
  case atStart => exact ⟨0, Nat.zero_le _, rfl, Lib.hid (Below.refl _ _), Lib.hid rfl, Lib.hid rfl⟩
  case round =>
    obtain ⟨k, hk, rfl, HB, HA, HDi⟩ := hrel
    by_cases hlt : k < N
    case pos =>
      have hkl : k < l.length := by have := HN.out; omega
      have hkc : k ≤ cap := by omega
      have hlen := congrArg List.length HXs.out
      rw [List.length_map] at hlen
      obtain ⟨X, hX⟩ : ∃ X, xs[k]? = some X := ⟨_, List.getElem?_eq_getElem (by omega)⟩
      have hXl : l[k]? = some X.1 := by rw [← HXs.out, List.getElem?_map, hX]; rfl
      have hcell := nmCells_at (xs.map nmPair) k (nmPair X) (by rw [List.getElem?_map, hX]; rfl)
      obtain ⟨wo, rfl⟩ : ∃ wo : World, wo = wr := ⟨_, rfl⟩
      have hrw := HRow.out.below HB.out
      have hto := hrw.take (k := k) (by omega)
      rw [← nmCells_take] at hto
      have hyl : ((xs.map nmPair).take k).length = k := by rw [List.length_take, List.length_map]; omega
      obtain ⟨q, o, rfl, hc⟩ := HRow.out.cell HB.out (by omega)
      have d0 := hc _ _ hcell.1
      have d1 := hc _ _ hcell.2
      rw [← Nat.add_assoc] at d1
      have hXr := HIn.out X (List.mem_of_getElem? hX)
      have hXf := HF.out X.1 (List.mem_of_getElem? hXl)
      have hXg : l[k] = X.1 := (List.getElem?_eq_some_iff.1 hXl).2
      have htk := List.take_succ_eq_append_getElem hkl
      rw [hXg] at htk
      have hany : ((xs.map nmPair).take k).any (fun x => decide (x.1 = X.1.name)) = hasN (l.take k) X.1.name := by
        unfold hasN
        rw [← HXs.out, ← List.map_take, ← List.map_take, List.any_map, List.any_map]
        rfl
      have hfind := fun u (hu : Below wo.heap.size wo u) => find_any ((xs.map nmPair).take k) (v := .slice (some ⟨q, o, none⟩) k cap) (w := u) (by rw [hyl]; exact hto.below hu) (by omega) X.1.name
      rw [hany] at hfind
      have hlabs := fun u (hu : Below w.heap.size w u) => labels_any X.1.list (hXr.below hu) hXf.len hXf.all
      have hlab := fun u => rlabel_any X.1.name hXf.name u
      obtain ⟨⟨nm, ls⟩, lv⟩ := X
      unfold nmPair at d0 d1
      simp only at d0 d1 hXr htk hfind hlabs hlab
      obtain ⟨A2, c2, rfl⟩ := hXr.shape
      have hok : okNm ⟨nm, ls⟩ = (labelB nm && (ls.all labelB && (decide (1 ≤ ls.length) && decide (ls.length ≤ 64)))) := by
        unfold okNm
        simp only
        cases labelB nm <;> cases ls.all labelB <;> cases decide (1 ≤ ls.length) <;> cases decide (ls.length ≤ 64) <;> rfl
      generalize (ls.all labelB && (decide (1 ≤ ls.length) && decide (ls.length ≤ 64))) = LS at hok hlabs
      obtain ⟨LB, hLB⟩ : ∃ b, b = labelB nm := ⟨_, rfl⟩
      rw [← hLB] at hok hlab
      obtain ⟨HN2, hHN⟩ : ∃ b, b = hasN (l.take k) nm := ⟨_, rfl⟩
      rw [← hHN] at hfind
      obtain ⟨n2, hn2⟩ : ∃ n, n = ls.length := ⟨_, rfl⟩
      rw [← hn2] at d1 hlabs
      unfold FindR at hfind
      have HFind := Lib.hid hfind
      have HLabs := Lib.hid hlabs
      have HLab := Lib.hid hlab
      have HTk := Lib.hid htk
      have HXl := Lib.hid hXl
      have HOk := Lib.hid hok
      have HHN := Lib.hid hHN
      clear hfind hlabs hlab htk hXl hok hHN hLB hn2 hXr hXf hXg hany hyl hto hrw hcell hX hc hlen hkl
      go_upto_region 4 with fail
      cases LB with
      | false =>
        have HRf : RowKit.Hid (R = false) := Lib.hid (by rw [HR.out, all_false HXl.out (by rw [HOk.out]; rfl), Bool.false_and, Bool.false_and])
        refine wp_region_held_drew (S := (fun w' => w'.cell? ⟨q, o + k * 2, none⟩ = some (.string nm) ∧ w'.cell? ⟨q, o + k * 2 + 1, none⟩ = some (.slice A2 n2 c2))) (by kernel_rfl) (⟨d0, d1⟩) (fun hHeld => ?_)
        refine tH 0 ?_; try simp only [Ap]
        refine tH 1 ?_; try simp only [Ap]
        refine tH 2 ?_; try simp only [Ap]
        refine tH 3 ?_; try simp only [Ap]
        refine tH 4 ?_; try simp only [Ap]
        refine wpAnyH_ready (rs := [5]) (by kernel_rfl) (by simp) ?_
        refine AllReadyH.cons rfl (fun K hK => ?_) AllReadyH.nil
        go_simp
        refine (HLab.out _).mono ?_
        rintro r wb ⟨rfl, db⟩
        have eb : Below wo.heap.size wo wb := ⟨db.os, db.tape, db.output, db.size, db.block⟩
        clear db
        refine hK.out _ _ (⟨below_cell' d0 eb, below_cell' d1 eb⟩) (fun hHeld => ?_)
        clear hK K
        try simp only [Ap]
        refine tH 6 ?_; try simp only [Ap]
        refine tH 7 ?_; try simp only [Ap]
        refine tU 8 ?_; try simp only [Ap]
        refine tU 9 ?_; try simp only [Ap]
        refine tU 10 ?_; try simp only [Ap]
        refine tU 11 ?_; try simp only [Ap]
        refine tU 12 ?_; try simp only [Ap]
        refine tU 13 ?_; try simp only [Ap]
        refine tU 14 ?_; try simp only [Ap]
        refine tH 15 ?_; try simp only [Ap]
        refine tH 16 ?_; try simp only [Ap]
        refine tU 17 ?_; try simp only [Ap]
        refine tU 18 ?_; try simp only [Ap]
        refine tU 19 ?_; try simp only [Ap]
        refine tU 20 ?_; try simp only [Ap]
        refine tU 21 ?_; try simp only [Ap]
        refine tU 22 ?_; try simp only [Ap]
        refine tU 23 ?_; try simp only [Ap]
        refine tU 24 ?_; try simp only [Ap]
        refine tU 25 ?_; try simp only [Ap]
        refine tU 26 ?_; try simp only [Ap]
        refine tH 27 ?_; try simp only [Ap]
        refine wpAnyH_done (by kernel_rfl) ?_ _
        go_wp2_with fail
        go_ret
        exact ⟨by rw [HRf.out]; rfl, after HB.out eb⟩
      | true =>
      cases LS with
      | false =>
        have HRf : RowKit.Hid (R = false) := Lib.hid (by rw [HR.out, all_false HXl.out (by rw [HOk.out]; rfl), Bool.false_and, Bool.false_and])
        refine wp_region_held_drew (S := (fun w' => w'.cell? ⟨q, o + k * 2, none⟩ = some (.string nm) ∧ w'.cell? ⟨q, o + k * 2 + 1, none⟩ = some (.slice A2 n2 c2))) (by kernel_rfl) (⟨d0, d1⟩) (fun hHeld => ?_)
        refine tH 0 ?_; try simp only [Ap]
        refine tH 1 ?_; try simp only [Ap]
        refine tH 2 ?_; try simp only [Ap]
        refine tH 3 ?_; try simp only [Ap]
        refine tH 4 ?_; try simp only [Ap]
        refine wpAnyH_ready (rs := [5]) (by kernel_rfl) (by simp) ?_
        refine AllReadyH.cons rfl (fun K hK => ?_) AllReadyH.nil
        go_simp
        refine (HLab.out _).mono ?_
        rintro r wb ⟨rfl, db⟩
        have eb : Below wo.heap.size wo wb := ⟨db.os, db.tape, db.output, db.size, db.block⟩
        clear db
        refine hK.out _ _ (⟨below_cell' d0 eb, below_cell' d1 eb⟩) (fun hHeld => ?_)
        clear hK K
        try simp only [Ap]
        refine tH 6 ?_; try simp only [Ap]
        refine tH 7 ?_; try simp only [Ap]
        refine tH 8 ?_; try simp only [Ap]
        refine tH 9 ?_; try simp only [Ap]
        refine tH 10 ?_; try simp only [Ap]
        refine tH 11 ?_; try simp only [Ap]
        refine tH 12 ?_; try simp only [Ap]
        refine wpAnyH_ready (rs := [13]) (by kernel_rfl) (by simp) ?_
        refine AllReadyH.cons rfl (fun K hK => ?_) AllReadyH.nil
        go_simp
        refine (HLabs.out _ (after HB.out eb)).mono ?_
        rintro r wc ⟨rfl, dc⟩
        have ec := after eb dc
        clear dc
        refine hK.out _ _ (⟨below_cell' d0 ec, below_cell' d1 ec⟩) (fun hHeld => ?_)
        clear hK K
        try simp only [Ap]
        refine tH 14 ?_; try simp only [Ap]
        refine tH 15 ?_; try simp only [Ap]
        refine tH 16 ?_; try simp only [Ap]
        refine tU 17 ?_; try simp only [Ap]
        refine tU 18 ?_; try simp only [Ap]
        refine tU 19 ?_; try simp only [Ap]
        refine tU 20 ?_; try simp only [Ap]
        refine tU 21 ?_; try simp only [Ap]
        refine tU 22 ?_; try simp only [Ap]
        refine tU 23 ?_; try simp only [Ap]
        refine tU 24 ?_; try simp only [Ap]
        refine tU 25 ?_; try simp only [Ap]
        refine tU 26 ?_; try simp only [Ap]
        refine tH 27 ?_; try simp only [Ap]
        refine wpAnyH_done (by kernel_rfl) ?_ _
        go_wp2_with fail
        go_ret
        exact ⟨by rw [HRf.out]; rfl, after HB.out ec⟩
      | true =>
      cases HN2 with
      | true =>
        have HRf : RowKit.Hid (R = false) := Lib.hid (by
          have hm := hasN_mem HHN.out.symm
          rw [List.map_take] at hm
          rw [HR.out, distinct_not (k := k) (x := nm) (by rw [List.getElem?_map, HXl.out]; rfl) hm, Bool.and_false])
        refine wp_region_held_drew (S := (fun w' => w'.cell? ⟨q, o + k * 2, none⟩ = some (.string nm) ∧ w'.cell? ⟨q, o + k * 2 + 1, none⟩ = some (.slice A2 n2 c2))) (by kernel_rfl) (⟨d0, d1⟩) (fun hHeld => ?_)
        refine tH 0 ?_; try simp only [Ap]
        refine tH 1 ?_; try simp only [Ap]
        refine tH 2 ?_; try simp only [Ap]
        refine tH 3 ?_; try simp only [Ap]
        refine tH 4 ?_; try simp only [Ap]
        refine wpAnyH_ready (rs := [5]) (by kernel_rfl) (by simp) ?_
        refine AllReadyH.cons rfl (fun K hK => ?_) AllReadyH.nil
        go_simp
        refine (HLab.out _).mono ?_
        rintro r wb ⟨rfl, db⟩
        have eb : Below wo.heap.size wo wb := ⟨db.os, db.tape, db.output, db.size, db.block⟩
        clear db
        refine hK.out _ _ (⟨below_cell' d0 eb, below_cell' d1 eb⟩) (fun hHeld => ?_)
        clear hK K
        try simp only [Ap]
        refine tH 6 ?_; try simp only [Ap]
        refine tH 7 ?_; try simp only [Ap]
        refine tH 8 ?_; try simp only [Ap]
        refine tH 9 ?_; try simp only [Ap]
        refine tH 10 ?_; try simp only [Ap]
        refine tH 11 ?_; try simp only [Ap]
        refine tH 12 ?_; try simp only [Ap]
        refine wpAnyH_ready (rs := [13]) (by kernel_rfl) (by simp) ?_
        refine AllReadyH.cons rfl (fun K hK => ?_) AllReadyH.nil
        go_simp
        refine (HLabs.out _ (after HB.out eb)).mono ?_
        rintro r wc ⟨rfl, dc⟩
        have ec := after eb dc
        clear dc
        refine hK.out _ _ (⟨below_cell' d0 ec, below_cell' d1 ec⟩) (fun hHeld => ?_)
        clear hK K
        try simp only [Ap]
        refine tH 14 ?_; try simp only [Ap]
        refine tH 15 ?_; try simp only [Ap]
        refine tH 16 ?_; try simp only [Ap]
        refine tH 17 ?_; try simp only [Ap]
        refine tH 18 ?_; try simp only [Ap]
        refine tH 19 ?_; try simp only [Ap]
        refine tH 20 ?_; try simp only [Ap]
        refine tH 21 ?_; try simp only [Ap]
        refine tH 22 ?_; try simp only [Ap]
        refine tH 23 ?_; try simp only [Ap]
        refine tH 24 ?_; try simp only [Ap]
        refine wpAnyH_ready (rs := [25]) (by kernel_rfl) (by simp) ?_
        refine AllReadyH.cons rfl (fun K hK => ?_) AllReadyH.nil
        go_simp
        refine (HFind.out _ ec).mono ?_
        rintro r wd ⟨⟨z, rfl, z1, z2⟩, dd⟩
        have qz := z1 rfl
        have ed := after ec dd
        clear dd z1 z2
        refine hK.out _ _ (⟨below_cell' d0 ed, below_cell' d1 ed⟩) (fun hHeld => ?_)
        clear hK K
        try simp only [Ap]
        refine tH 26 ?_; try simp only [Ap]
        refine tH 27 ?_; try simp only [Ap]
        refine wpAnyH_done (by kernel_rfl) ?_ _
        go_wp2_with fail
        go_ret
        exact ⟨by rw [HRf.out]; rfl, after HB.out ed⟩
      | false =>
        have HA2 : RowKit.Hid ((l.take (k + 1)).all okNm = true) := Lib.hid (by rw [HTk.out, List.all_append, HA.out]; simp [HOk.out])
        have HD2 : RowKit.Hid (distinct ((l.take (k + 1)).map (·.name)) = true) := Lib.hid (distinct_snoc_names HTk.out HDi.out HHN.out.symm)
        refine wp_region_held_drew (S := (fun w' => w'.cell? ⟨q, o + k * 2, none⟩ = some (.string nm) ∧ w'.cell? ⟨q, o + k * 2 + 1, none⟩ = some (.slice A2 n2 c2))) (by kernel_rfl) (⟨d0, d1⟩) (fun hHeld => ?_)
        refine tH 0 ?_; try simp only [Ap]
        refine tH 1 ?_; try simp only [Ap]
        refine tH 2 ?_; try simp only [Ap]
        refine tH 3 ?_; try simp only [Ap]
        refine tH 4 ?_; try simp only [Ap]
        refine wpAnyH_ready (rs := [5]) (by kernel_rfl) (by simp) ?_
        refine AllReadyH.cons rfl (fun K hK => ?_) AllReadyH.nil
        go_simp
        refine (HLab.out _).mono ?_
        rintro r wb ⟨rfl, db⟩
        have eb : Below wo.heap.size wo wb := ⟨db.os, db.tape, db.output, db.size, db.block⟩
        clear db
        refine hK.out _ _ (⟨below_cell' d0 eb, below_cell' d1 eb⟩) (fun hHeld => ?_)
        clear hK K
        try simp only [Ap]
        refine tH 6 ?_; try simp only [Ap]
        refine tH 7 ?_; try simp only [Ap]
        refine tH 8 ?_; try simp only [Ap]
        refine tH 9 ?_; try simp only [Ap]
        refine tH 10 ?_; try simp only [Ap]
        refine tH 11 ?_; try simp only [Ap]
        refine tH 12 ?_; try simp only [Ap]
        refine wpAnyH_ready (rs := [13]) (by kernel_rfl) (by simp) ?_
        refine AllReadyH.cons rfl (fun K hK => ?_) AllReadyH.nil
        go_simp
        refine (HLabs.out _ (after HB.out eb)).mono ?_
        rintro r wc ⟨rfl, dc⟩
        have ec := after eb dc
        clear dc
        refine hK.out _ _ (⟨below_cell' d0 ec, below_cell' d1 ec⟩) (fun hHeld => ?_)
        clear hK K
        try simp only [Ap]
        refine tH 14 ?_; try simp only [Ap]
        refine tH 15 ?_; try simp only [Ap]
        refine tH 16 ?_; try simp only [Ap]
        refine tH 17 ?_; try simp only [Ap]
        refine tH 18 ?_; try simp only [Ap]
        refine tH 19 ?_; try simp only [Ap]
        refine tH 20 ?_; try simp only [Ap]
        refine tH 21 ?_; try simp only [Ap]
        refine tH 22 ?_; try simp only [Ap]
        refine tH 23 ?_; try simp only [Ap]
        refine tH 24 ?_; try simp only [Ap]
        refine wpAnyH_ready (rs := [25]) (by kernel_rfl) (by simp) ?_
        refine AllReadyH.cons rfl (fun K hK => ?_) AllReadyH.nil
        go_simp
        refine (HFind.out _ ec).mono ?_
        rintro r wd ⟨⟨z, rfl, z1, z2⟩, dd⟩
        have qz := z2 rfl
        have ed := after ec dd
        clear dd z1 z2
        refine hK.out _ _ (⟨below_cell' d0 ed, below_cell' d1 ed⟩) (fun hHeld => ?_)
        clear hK K
        try simp only [Ap]
        refine tH 26 ?_; try simp only [Ap]
        refine tH 27 ?_; try simp only [Ap]
        refine wpAnyH_done (by kernel_rfl) ?_ _
        clear HA HDi
        go_wp2_with fail
        go_roundw
        case rel => exact ⟨k + 1, by omega, by go_num, Lib.hid (after HB.out ed), HA2, HD2⟩
        case measure => simp [intOf]; omega
    case neg =>
      obtain rfl : k = N := by omega
      have hA := HA.out
      have hD := HDi.out
      rw [List.take_of_length_le (by have := HN.out; omega)] at hA hD
      have hR := HR.out
      rw [hA, hD, Bool.true_and, Bool.and_true] at hR
      have HRx := Lib.hid hR
      clear hR hA hD HR HA HDi
      by_cases h64 : k ≤ 64
      · have q2 : (k : Int) ≤ 64 := by omega
        go_wp2_with fail
        go_ret
        exact ⟨by rw [HRx.out, decide_eq_true h64]; rfl, HB.out⟩
      · have q2 : ¬ (k : Int) ≤ 64 := by omega
        go_wp2_with fail
        go_ret
        exact ⟨by rw [HRx.out, decide_eq_false h64]; rfl, HB.out⟩
end Go.Proofs.YtbiglifngfgffaaGreatDoor
