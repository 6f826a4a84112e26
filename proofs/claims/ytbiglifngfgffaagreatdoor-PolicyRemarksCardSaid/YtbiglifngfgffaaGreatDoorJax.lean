/- Joined out of: PwQ PzB. -/
import Derived.Test.YtbiglifngfgffaaGreatDoorJav
import Derived.Test.YtbiglifngfgffaaGreatDoorJaw
import Derived.ChangeSlices
set_option linter.unusedVariables false
set_option linter.unusedSimpArgs false

/- Remarks, blanks and lines without words change nothing (PolicyRemarks): the walk. -/
namespace Go.Proofs.YtbiglifngfgffaaGreatDoor
open Go.RowKit
attribute [local go_sem ↓] Go.wp_at_zero Go.wp_at_succ

/- The text as far as made. -/
structure RemAt (s : ByteArray) (rm : List Nat) (R : List UInt8) (i m : Nat) (t : ByteArray) : Prop where
  on : i ≤ s.size → t.data.toList ++ remL (s.data.toList.drop i) (rm.drop m) = R
  off : i = s.size + 1 → t.data.toList = R
theorem rmk_step {s : ByteArray} {rm : List Nat} {R : List UInt8} {i m : Nat} {t : ByteArray} (h : RemAt s rm R i m t) (hi : i < s.size) (hc : s[i]'hi ≠ 10) (h32 : s[i]'hi ≠ 32) : RemAt s rm R (i + 1) m (t ++ s.extract i (i + 1)) := by
  have hkl : i < s.data.toList.length := by rw [← Lib.size_eq]; exact hi
  have hx : (s.extract i (i + 1)).data.toList = [s[i]'hi] := by
    rw [ByteArray.data_extract, Array.toList_extract, List.extract_eq_take_drop, List.drop_eq_getElem_cons hkl]
    rw [show i + 1 - i = 1 by omega]
    rfl
  refine ⟨fun _ => ?_, fun e => by omega⟩
  have h1 := h.on (Nat.le_of_lt hi)
  rw [List.drop_eq_getElem_cons hkl, remL, if_neg (show ¬ s.data.toList[i] = 10 from hc), if_neg (show ¬ s.data.toList[i] = 32 from h32)] at h1
  rw [ByteArray.data_append, Array.toList_append, hx, List.append_assoc]
  exact h1
theorem rmk_blank {s : ByteArray} {rm : List Nat} {R : List UInt8} {i m : Nat} {t : ByteArray} (h : RemAt s rm R i m t) (hi : i < s.size) (h32 : s[i]'hi = 32) : RemAt s rm R (i + 1) m (t ++ s.extract i (i + 1) ++ ⟨#[9, 32]⟩) := by
  have hkl : i < s.data.toList.length := by rw [← Lib.size_eq]; exact hi
  have hx : (s.extract i (i + 1)).data.toList = [s[i]'hi] := by
    rw [ByteArray.data_extract, Array.toList_extract, List.extract_eq_take_drop, List.drop_eq_getElem_cons hkl]
    rw [show i + 1 - i = 1 by omega]
    rfl
  refine ⟨fun _ => ?_, fun e => by omega⟩
  have h1 := h.on (Nat.le_of_lt hi)
  have e : s.data.toList[i] = 32 := h32
  rw [List.drop_eq_getElem_cons hkl, remL, e, if_neg (by decide), if_pos rfl] at h1
  rw [ByteArray.data_append, Array.toList_append, ByteArray.data_append, Array.toList_append, hx, h32, List.append_assoc, List.append_assoc]
  exact h1
theorem rmk_line {s : ByteArray} {rm : List Nat} {R : List UInt8} {i m : Nat} {t : ByteArray} (h : RemAt s rm R i m t) (hi : i < s.size) (h10 : s[i]'hi = 10) : RemAt s rm R (i + 1) (m + 1) (t ++ ofL (remW (howOf (rm.drop m))) ++ ⟨#[10]⟩) := by
  have hkl : i < s.data.toList.length := by rw [← Lib.size_eq]; exact hi
  refine ⟨fun _ => ?_, fun e => by omega⟩
  have h1 := h.on (Nat.le_of_lt hi)
  have e : s.data.toList[i] = 10 := h10
  rw [List.drop_eq_getElem_cons hkl, remL, e, if_pos rfl, List.tail_drop] at h1
  rw [ByteArray.data_append, Array.toList_append, ByteArray.data_append, Array.toList_append, List.append_assoc, List.append_assoc]
  exact h1
theorem rmk_end {s : ByteArray} {rm : List Nat} {R : List UInt8} {m : Nat} {t : ByteArray} (h : RemAt s rm R s.size m t) : RemAt s rm R (s.size + 1) (m + 1) (t ++ ofL (remW (howOf (rm.drop m))) ++ ⟨#[10]⟩) := by
  refine ⟨fun e => by omega, fun _ => ?_⟩
  have h1 := h.on (Nat.le_refl _)
  rw [List.drop_eq_nil_of_le (by rw [← Lib.size_eq]; exact Nat.le_refl _), remL] at h1
  rw [ByteArray.data_append, Array.toList_append, ByteArray.data_append, Array.toList_append, List.append_assoc]
  exact h1
theorem how_at {rm : List Nat} {m : Nat} (h : m < rm.length) : howOf (rm.drop m) = rm[m] % 4 := by
  rw [List.drop_eq_getElem_cons h]
  rfl
theorem how_none {rm : List Nat} {m : Nat} (h : rm.length ≤ m) : howOf (rm.drop m) = 0 := by
  rw [List.drop_eq_nil_of_le h]
  rfl

set_option maxRecDepth 100000 in
theorem idx_how (h : Nat) (hh : h < 4) (u : World) : (Instr.index 41 (.agg #[.string ⟨#[]⟩, .string ⟨#[32, 35, 32, 97, 99, 99, 101, 112, 116, 32, 97, 110, 121]⟩, .string ⟨#[32, 32]⟩, .string ⟨#[10, 32, 9, 10, 35, 32, 120]⟩]) (.int .u8 (h : Int))).run Tryz.prog u = .ok (.string (ofL (remW h))) u := by
  have h4 : h = 0 ∨ h = 1 ∨ h = 2 ∨ h = 3 := by omega
  rcases h4 with rfl | rfl | rfl | rfl
  · exact (fun v : World => (by kernel_rfl : (Instr.index 41 (.agg #[.string ⟨#[]⟩, .string ⟨#[32, 35, 32, 97, 99, 99, 101, 112, 116, 32, 97, 110, 121]⟩, .string ⟨#[32, 32]⟩, .string ⟨#[10, 32, 9, 10, 35, 32, 120]⟩]) (.int .u8 0)).run Tryz.prog v = .ok (.string ⟨#[]⟩) v)) u
  · exact (fun v : World => (by kernel_rfl : (Instr.index 41 (.agg #[.string ⟨#[]⟩, .string ⟨#[32, 35, 32, 97, 99, 99, 101, 112, 116, 32, 97, 110, 121]⟩, .string ⟨#[32, 32]⟩, .string ⟨#[10, 32, 9, 10, 35, 32, 120]⟩]) (.int .u8 1)).run Tryz.prog v = .ok (.string ⟨#[32, 35, 32, 97, 99, 99, 101, 112, 116, 32, 97, 110, 121]⟩) v)) u
  · exact (fun v : World => (by kernel_rfl : (Instr.index 41 (.agg #[.string ⟨#[]⟩, .string ⟨#[32, 35, 32, 97, 99, 99, 101, 112, 116, 32, 97, 110, 121]⟩, .string ⟨#[32, 32]⟩, .string ⟨#[10, 32, 9, 10, 35, 32, 120]⟩]) (.int .u8 2)).run Tryz.prog v = .ok (.string ⟨#[32, 32]⟩) v)) u
  · exact (fun v : World => (by kernel_rfl : (Instr.index 41 (.agg #[.string ⟨#[]⟩, .string ⟨#[32, 35, 32, 97, 99, 99, 101, 112, 116, 32, 97, 110, 121]⟩, .string ⟨#[32, 32]⟩, .string ⟨#[10, 32, 9, 10, 35, 32, 120]⟩]) (.int .u8 3)).run Tryz.prog v = .ok (.string ⟨#[10, 32, 9, 10, 35, 32, 120]⟩) v)) u
theorem idx_none (u : World) : (Instr.index 41 (.agg #[.string ⟨#[]⟩, .string ⟨#[32, 35, 32, 97, 99, 99, 101, 112, 116, 32, 97, 110, 121]⟩, .string ⟨#[32, 32]⟩, .string ⟨#[10, 32, 9, 10, 35, 32, 120]⟩]) (.int .u8 0)).run Tryz.prog u = .ok (.string (ofL (remW 0))) u := idx_how 0 (by decide) u
theorem remW_size (h : Nat) : (ofL (remW h)).size ≤ 13 := by
  match h with
  | 0 => decide
  | 1 => decide
  | 2 => decide
  | _ + 3 => show (7 : Nat) ≤ 13; decide
set_option maxHeartbeats 16000000 in
set_option maxRecDepth 100000 in
theorem remarks_any {w : World} (env : Env w) (s : ByteArray) (rm : List Nat) {v : Value} (hv : RowR w v rm.length 1 (protoCells rm)) : Calls Tryz.prog 5 #[.string s, v] w (Got (.bool true) w) := by
  obtain ⟨Av, cv, rfl⟩ := hv.shape
  obtain ⟨N, hN⟩ : ∃ n, n = rm.length := ⟨_, rfl⟩
  rw [← hN] at hv ⊢
  have hwk := fun u (hu : Below w.heap.size w u) => works_any (env.below hu)
  have HWk := Lib.hid hwk
  have HEnv := Lib.hid env
  have HV := Lib.hid hv
  have HN := Lib.hid hN
  clear hwk env hv hN
  by_cases hl : 4096 < s.size
  · have hz : (4096 : Int) < (s.size : Int) := by omega
    clear hl
    go_enter Tryz.func5, Tryz.ntmps5
    go_wp2_with (go_at_call 8; (with_reducible refine (HWk.out _ (Below.refl _ _)).mono ?_); rintro r w1 ⟨rfl, b1⟩)
    go_ret
    exact ⟨rfl, b1⟩
  have hz : ¬ (4096 : Int) < (s.size : Int) := by omega
  by_cases hl2 : 200 < N
  · have hz2 : (200 : Int) < (N : Int) := by omega
    clear hl hl2
    go_enter Tryz.func5, Tryz.ntmps5
    go_wp2_with (go_at_call 8; (with_reducible refine (HWk.out _ (Below.refl _ _)).mono ?_); rintro r w1 ⟨rfl, b1⟩)
    go_ret
    exact ⟨rfl, b1⟩
  have hz2 : ¬ (200 : Int) < (N : Int) := by omega
  obtain ⟨⟨q, c, n, x⟩, hp⟩ : ∃ R, parseP s.data.toList = R := ⟨_, rfl⟩
  have hps := parse_some HEnv.out s (by omega) hp
  have hfit : c = 0 → PoFit q ∧ n = 0 ∧ x = 0 := by
    intro e
    obtain ⟨h1, h2, h3⟩ := parse_may hp e
    injection h1 with _ h1
    injection h1 with h4 h5
    exact ⟨h3.fit h2, h4, h5⟩
  have hrp : c = 0 → (remL s.data.toList rm).length ≤ 8192 → parseP (remL s.data.toList rm) = (q, (0, 0, 0)) := fun e h => remarks_plain hp e h
  generalize q.groups.length = lg at hps
  generalize q.tags.length = lt at hps
  generalize q.hosts.length = lh at hps
  generalize q.acls.length = la at hps
  clear hp
  have HPs := Lib.hid hps
  have HFit := Lib.hid hfit
  have HRp := Lib.hid hrp
  clear hps hfit hrp
  by_cases hc : c = 0
  case neg =>
    have qc : ((c : Int) == 0) = false := by simp; omega
    clear hc hl hl2
    go_enter Tryz.func5, Tryz.ntmps5
    go_upto_region 4 with (go_at_call 11; refine (HPs.out).mono ?_; rintro r w1 ⟨⟨Ag, At, Ah, Aa, cg, ct, ch, ca, rfl, _⟩, b1⟩)
    have hP := (Blk.new w1 26 #[.slice Ag lg cg, .slice At lt ct, .slice Ah lh ch, .slice Aa la ca]).alloc (.cells #[.int .i64 (c : Int), .int .i64 (n : Int), .int .i64 (x : Int)] 34)
    have hF := Blk.new (w1.alloc (.cells #[.slice Ag lg cg, .slice At lt ct, .slice Ah lh ch, .slice Aa la ca] 26)) 34 #[.int .i64 (c : Int), .int .i64 (n : Int), .int .i64 (x : Int)]
    rw [show (w1.alloc (.cells #[.slice Ag lg cg, .slice At lt ct, .slice Ah lh ch, .slice Aa la ca] 26)).heap.size = w1.heap.size + 1 by simp] at hF
    have hD := after (boxed w1 (.cells #[.slice Ag lg cg, .slice At lt ct, .slice Ah lh ch, .slice Aa la ca] 26)) (boxed (w1.alloc (.cells #[.slice Ag lg cg, .slice At lt ct, .slice Ah lh ch, .slice Aa la ca] 26)) (.cells #[.int .i64 (c : Int), .int .i64 (n : Int), .int .i64 (x : Int)] 34))
    have HA := Lib.hid hP
    have HB := Lib.hid hF
    have HO := Lib.hid hD
    have HD := Lib.hid (after b1 hD)
    clear hP hF hD
    generalize (w1.alloc (.cells #[.slice Ag lg cg, .slice At lt ct, .slice Ah lh ch, .slice Aa la ca] 26)).alloc (.cells #[.int .i64 (c : Int), .int .i64 (n : Int), .int .i64 (x : Int)] 34) = w2 at HA HB HD HO ⊢
    have f0 := HB.out.cell 0
    simp at f0
    go_wp2_with (go_at_call 8; (with_reducible refine (HWk.out _ HD.out).mono ?_); rintro r w3 ⟨rfl, b3⟩)
    go_ret
    exact ⟨rfl, after HD.out b3⟩
  obtain ⟨hfi, rfl, rfl⟩ := HFit.out hc
  subst hc
  have hps2 : Calls Tryz.prog 11 #[.string s] w fun r w' => (∃ (Ag At Ah Aa : Option Addr) (cg ct ch ca : Nat), r = .returned (.tuple #[.agg #[.slice Ag lg cg, .slice At lt ct, .slice Ah lh ch, .slice Aa la ca], .agg #[.int .i64 0, .int .i64 0, .int .i64 0]]) ∧ PoRd w' ⟨.slice Ag lg cg, .slice At lt ct, .slice Ah lh ch, .slice Aa la ca⟩ q) ∧ Below w.heap.size w w' := HPs.out
  have HPs2 := Lib.hid hps2
  have HFi := Lib.hid hfi
  have hrp := HRp.out rfl
  obtain ⟨R, hR⟩ : ∃ R, R = remL s.data.toList rm := ⟨_, rfl⟩
  rw [← hR] at hrp
  have HRp2 := Lib.hid hrp
  have HAt0 : RowKit.Hid (RemAt s rm R 0 0 ⟨#[]⟩) := Lib.hid ⟨fun _ => by rw [hR]; rfl, fun e => by omega⟩
  clear HPs HRp HFit hps2 hfi hrp hR
  go_enter Tryz.func5, Tryz.ntmps5
  go_upto_region 4 with (go_at_call 11; refine (HPs2.out).mono ?_; rintro r w1 ⟨⟨Ag, At, Ah, Aa, cg, ct, ch, ca, rfl, hrd⟩, b1⟩)
  have hP := (Blk.new w1 26 #[.slice Ag lg cg, .slice At lt ct, .slice Ah lh ch, .slice Aa la ca]).alloc (.cells #[.int .i64 0, .int .i64 0, .int .i64 0] 34)
  have hF := Blk.new (w1.alloc (.cells #[.slice Ag lg cg, .slice At lt ct, .slice Ah lh ch, .slice Aa la ca] 26)) 34 #[.int .i64 0, .int .i64 0, .int .i64 0]
  rw [show (w1.alloc (.cells #[.slice Ag lg cg, .slice At lt ct, .slice Ah lh ch, .slice Aa la ca] 26)).heap.size = w1.heap.size + 1 by simp] at hF
  have hD := after (boxed w1 (.cells #[.slice Ag lg cg, .slice At lt ct, .slice Ah lh ch, .slice Aa la ca] 26)) (boxed (w1.alloc (.cells #[.slice Ag lg cg, .slice At lt ct, .slice Ah lh ch, .slice Aa la ca] 26)) (.cells #[.int .i64 0, .int .i64 0, .int .i64 0] 34))
  have HA := Lib.hid hP
  have HB := Lib.hid hF
  have HO := Lib.hid hD
  have HD := Lib.hid (after b1 hD)
  clear hP hF hD
  generalize (w1.alloc (.cells #[.slice Ag lg cg, .slice At lt ct, .slice Ah lh ch, .slice Aa la ca] 26)).alloc (.cells #[.int .i64 0, .int .i64 0, .int .i64 0] 34) = w2 at HA HB HD HO ⊢
  have HRd := Lib.hid (hrd.below HO.out)
  clear hrd HPs2
  generalize w1.heap.size + 1 = F1 at HB ⊢
  generalize w1.heap.size = P1 at HA ⊢
  have f0 := HB.out.cell 0
  simp at f0
  go_wp2_with fail
  clear f0
  go_loopw [7, 8, 9, 10] (fun v7 v8 v9 v10 wr => ∃ (i m : Nat) (t : ByteArray), i ≤ s.size + 1 ∧ m ≤ i ∧ t.size ≤ 40 * i ∧ v7 = .string t ∧ v8 = .int .i64 (m : Int) ∧ v9 = .int .i64 (i : Int) ∧ RowKit.Hid (RemAt s rm R i m t) ∧ RowKit.Hid (Below w2.heap.size w2 wr)) (fun _ _ v9 _ _ => s.size + 1 - (intOf v9).toNat)
  case atStart => exact ⟨0, 0, ⟨#[]⟩, Nat.zero_le _, Nat.le_refl _, Nat.le_refl _, rfl, rfl, rfl, HAt0, Lib.hid (Below.refl _ _)⟩
  case round =>
    clear HAt0
    obtain ⟨i, m, t, hi, hm, ht, rfl, rfl, rfl, hat, hbr⟩ := hrel
    have hz3 : ¬ 9223372036854775807 < t.size + 40 := by omega
    by_cases hle : i ≤ s.size
    · have hle' : (i : Int) ≤ (s.size : Int) := by omega
      by_cases hlt : i < s.size
      · obtain ⟨b, hbk⟩ : ∃ b, b = s[i]'hlt := ⟨_, rfl⟩
        have hx : (s[i]'hlt).toNat = b.toNat := by rw [hbk]
        by_cases h10 : b = 10
        · have hnx := rmk_line hat.out hlt (hbk.symm.trans h10)
          have hX : b.toNat = 10 := by rw [h10]; rfl
          rw [hX] at hx
          clear hX h10 hbk
          by_cases hmn : m < N
          · have hkl : m < rm.length := by have := HN.out; omega
            obtain ⟨g, o, rfl, hcv⟩ := HV.out.cell (HD.out.trans (hbr.out.mono HD.out.size)) (by omega)
            have d := hcv _ _ (protoCells_at (List.getElem?_eq_getElem hkl))
            rw [how_at hkl] at hnx
            generalize rm[m] = X at d hnx
            clear hcv hkl
            have hix := idx_how (X % 4) (by omega)
            have hsz := remW_size (X % 4)
            have e1 : (X : Int).tmod 4 = ((X % 4 : Nat) : Int) := by rw [Int.tmod_eq_emod_of_nonneg (by omega)]; omega
            generalize ofL (remW (X % 4)) = LIT at hnx hix hsz
            generalize X % 4 = hw at e1 hix
            have z1 : ¬ 9223372036854775807 < t.size + LIT.size := by omega
            have z2 : ¬ 9223372036854775807 < t.size + LIT.size + 1 := by omega
            have HNx := Lib.hid hnx
            clear hnx
            go_wp2_with fail
            go_roundw
            case rel => exact ⟨i + 1, m + 1, t ++ LIT ++ ⟨#[10]⟩, by omega, by omega, (by rw [ByteArray.size_append, ByteArray.size_append]; show _ + _ + 1 ≤ _; omega), rfl, by go_num, by go_num, HNx, hbr⟩
            case measure => simp [intOf] <;> omega
          · rw [how_none (rm := rm) (m := m) (by have := HN.out; omega)] at hnx
            have hix := idx_none
            have hsz := remW_size 0
            generalize ofL (remW 0) = LIT at hnx hix hsz
            have z1 : ¬ 9223372036854775807 < t.size + LIT.size := by omega
            have z2 : ¬ 9223372036854775807 < t.size + LIT.size + 1 := by omega
            have HNx := Lib.hid hnx
            clear hnx
            go_wp2_with fail
            go_roundw
            case rel => exact ⟨i + 1, m + 1, t ++ LIT ++ ⟨#[10]⟩, by omega, by omega, (by rw [ByteArray.size_append, ByteArray.size_append]; show _ + _ + 1 ≤ _; omega), rfl, by go_num, by go_num, HNx, hbr⟩
            case measure => simp [intOf] <;> omega
        · have qb : ((b.toNat : Int) == 10) = false := by
            have : b.toNat ≠ 10 := fun e => h10 (UInt8.toNat_inj.1 e)
            simp; omega
          have hes : (s.extract i (i + 1)).size = 1 := by rw [ByteArray.size_extract]; omega
          by_cases h32 : b = 32
          · have hnx := rmk_blank hat.out hlt (hbk.symm.trans h32)
            have HNx := Lib.hid hnx
            have hX : b.toNat = 32 := by rw [h32]; rfl
            rw [hX] at hx qb
            clear hX h10 h32 hbk hnx
            go_wp2_with fail
            go_roundw
            case rel => exact ⟨i + 1, m, t ++ s.extract i (i + 1) ++ ⟨#[9, 32]⟩, by omega, by omega, (by rw [ByteArray.size_append, ByteArray.size_append, hes]; show _ + 1 + 2 ≤ _; omega), rfl, rfl, by go_num, HNx, hbr⟩
            case measure => simp [intOf]; omega
          · have hnx := rmk_step hat.out hlt (fun e => h10 (hbk.trans e)) (fun e => h32 (hbk.trans e))
            have HNx := Lib.hid hnx
            have q32 : ((b.toNat : Int) == 32) = false := by
              have : b.toNat ≠ 32 := fun e => h32 (UInt8.toNat_inj.1 e)
              simp; omega
            generalize b.toNat = X at hx qb q32
            clear h10 h32 hbk hnx
            go_wp2_with fail
            go_roundw
            case rel => exact ⟨i + 1, m, t ++ s.extract i (i + 1), by omega, by omega, (by rw [ByteArray.size_append, hes]; omega), rfl, rfl, by go_num, HNx, hbr⟩
            case measure => simp [intOf]; omega
      · obtain rfl : s.size = i := by omega
        have hnx := rmk_end hat.out
        by_cases hmn : m < N
        · have hkl : m < rm.length := by have := HN.out; omega
          obtain ⟨g, o, rfl, hcv⟩ := HV.out.cell (HD.out.trans (hbr.out.mono HD.out.size)) (by omega)
          have d := hcv _ _ (protoCells_at (List.getElem?_eq_getElem hkl))
          rw [how_at hkl] at hnx
          generalize rm[m] = X at d hnx
          clear hcv hkl
          have hix := idx_how (X % 4) (by omega)
          have hsz := remW_size (X % 4)
          have e1 : (X : Int).tmod 4 = ((X % 4 : Nat) : Int) := by rw [Int.tmod_eq_emod_of_nonneg (by omega)]; omega
          generalize ofL (remW (X % 4)) = LIT at hnx hix hsz
          generalize X % 4 = hw at e1 hix
          have z1 : ¬ 9223372036854775807 < t.size + LIT.size := by omega
          have z2 : ¬ 9223372036854775807 < t.size + LIT.size + 1 := by omega
          have HNx := Lib.hid hnx
          clear hnx
          go_wp2_with fail
          go_roundw
          case rel => exact ⟨s.size + 1, m + 1, t ++ LIT ++ ⟨#[10]⟩, by omega, by omega, (by rw [ByteArray.size_append, ByteArray.size_append]; show _ + _ + 1 ≤ _; omega), rfl, by go_num, by go_num, HNx, hbr⟩
          case measure => simp [intOf] <;> omega
        · rw [how_none (rm := rm) (m := m) (by have := HN.out; omega)] at hnx
          have hix := idx_none
          have hsz := remW_size 0
          generalize ofL (remW 0) = LIT at hnx hix hsz
          have z1 : ¬ 9223372036854775807 < t.size + LIT.size := by omega
          have z2 : ¬ 9223372036854775807 < t.size + LIT.size + 1 := by omega
          have HNx := Lib.hid hnx
          clear hnx
          go_wp2_with fail
          go_roundw
          case rel => exact ⟨s.size + 1, m + 1, t ++ LIT ++ ⟨#[10]⟩, by omega, by omega, (by rw [ByteArray.size_append, ByteArray.size_append]; show _ + _ + 1 ≤ _; omega), rfl, by go_num, by go_num, HNx, hbr⟩
          case measure => simp [intOf] <;> omega
    · obtain rfl : s.size + 1 = i := by omega
      have hRt := hat.out.off rfl
      have hBo := HD.out.trans (hbr.out.mono HD.out.size)
      have HBo := Lib.hid hBo
      have HAo := Lib.hid (HA.out.below hbr.out HA.out.lt)
      have HRo := Lib.hid (HRd.out.below hbr.out)
      by_cases h8 : 8192 < t.size
      · have q8 : (8192 : Int) < (t.size : Int) := by omega
        clear h8 hRt hBo
        go_wp2_with (go_at_call 8; (with_reducible refine (HWk.out _ HBo.out).mono ?_); rintro r w3 ⟨rfl, b3⟩)
        go_ret
        exact ⟨rfl, after HBo.out b3⟩
      · have q8 : ¬ (8192 : Int) < (t.size : Int) := by omega
        have hpt : parseP t.data.toList = (q, (0, 0, 0)) := by
          rw [hRt]
          refine HRp2.out ?_
          rw [← hRt, ← Lib.size_eq]
          omega
        have hcall : Calls Tryz.prog 11 #[.string t] wr fun r w' => (∃ (Ag At Ah Aa : Option Addr) (lg lt lh la cg ct ch ca : Nat), r = .returned (.tuple #[.agg #[.slice Ag lg cg, .slice At lt ct, .slice Ah lh ch, .slice Aa la ca], .agg #[.int .i64 0, .int .i64 0, .int .i64 0]]) ∧ PoRd w' ⟨.slice Ag lg cg, .slice At lt ct, .slice Ah lh ch, .slice Aa la ca⟩ q) ∧ Below wr.heap.size wr w' :=
          (parse_some (HEnv.out.below hBo) t (by omega) hpt).mono fun r w' h => by
            obtain ⟨⟨Ag, At, Ah, Aa, cg, ct, ch, ca, h1, h3⟩, h2⟩ := h
            exact ⟨⟨Ag, At, Ah, Aa, _, _, _, _, cg, ct, ch, ca, h1, h3⟩, h2⟩
        have HCall := Lib.hid hcall
        clear h8 hRt hBo hpt hcall hat HRp2
        go_upto_region 23 with (go_at_call 11; refine (HCall.out).mono ?_; rintro r w3 ⟨⟨Bg, Bt, Bh, Ba, mg, mt, mh, ma, xg, xt, xh, xa, rfl, hrd2⟩, b3⟩)
        have HA3 := Lib.hid (HAo.out.below b3 HAo.out.lt)
        have HR3 := Lib.hid (HRo.out.below b3)
        have hP := (Blk.new w3 26 #[.slice Bg mg xg, .slice Bt mt xt, .slice Bh mh xh, .slice Ba ma xa]).alloc (.cells #[.int .i64 0, .int .i64 0, .int .i64 0] 34)
        have hF := Blk.new (w3.alloc (.cells #[.slice Bg mg xg, .slice Bt mt xt, .slice Bh mh xh, .slice Ba ma xa] 26)) 34 #[.int .i64 0, .int .i64 0, .int .i64 0]
        rw [show (w3.alloc (.cells #[.slice Bg mg xg, .slice Bt mt xt, .slice Bh mh xh, .slice Ba ma xa] 26)).heap.size = w3.heap.size + 1 by simp] at hF
        have hD := after (boxed w3 (.cells #[.slice Bg mg xg, .slice Bt mt xt, .slice Bh mh xh, .slice Ba ma xa] 26)) (boxed (w3.alloc (.cells #[.slice Bg mg xg, .slice Bt mt xt, .slice Bh mh xh, .slice Ba ma xa] 26)) (.cells #[.int .i64 0, .int .i64 0, .int .i64 0] 34))
        have HA4 := Lib.hid hP
        have HB4 := Lib.hid hF
        have HO4 := Lib.hid hD
        have HD4 := Lib.hid (after (after HBo.out b3) hD)
        clear hP hF hD
        generalize (w3.alloc (.cells #[.slice Bg mg xg, .slice Bt mt xt, .slice Bh mh xh, .slice Ba ma xa] 26)).alloc (.cells #[.int .i64 0, .int .i64 0, .int .i64 0] 34) = w4 at HA4 HB4 HD4 HO4 ⊢
        have HA5 := Lib.hid (HA3.out.below HO4.out HA3.out.lt)
        have HS := Lib.hid (same_any q (HR3.out.below HO4.out) (hrd2.below HO4.out) HFi.out)
        generalize w3.heap.size + 1 = F2 at HB4 ⊢
        generalize w3.heap.size = P2 at HA4 ⊢
        have g0 := HB4.out.cell 0
        have g1 := HB4.out.cell 1
        have g2 := HB4.out.cell 2
        have p0 := HA5.out.cell 0
        have p1 := HA5.out.cell 1
        have p2 := HA5.out.cell 2
        have p3 := HA5.out.cell 3
        have r0 := HA4.out.cell 0
        have r1 := HA4.out.cell 1
        have r2 := HA4.out.cell 2
        have r3 := HA4.out.cell 3
        simp at g0 g1 g2 p0 p1 p2 p3 r0 r1 r2 r3
        clear hrd2 HR3 HRo HAo HA3 b3 HCall
        go_wp2_with (first
          | (go_at_call 12; refine HS.out.mono ?_; rintro r w5 ⟨rfl, b5⟩; have HB5 := Lib.hid (after HD4.out b5))
          | (go_at_call 8; (with_reducible refine (HWk.out _ HB5.out).mono ?_); rintro r w6 ⟨rfl, b6⟩))
        go_ret
        exact ⟨rfl, after HB5.out b6⟩
end Go.Proofs.YtbiglifngfgffaaGreatDoor

/- The frame of the policy laws: a slice of bytes as it comes in. -/
namespace Go.Proofs.YtbiglifngfgffaaGreatDoor
open Go.ChangeShapes Go.WideShapes Go.ChangeAt Go.RowKit

section
variable {H : Type} {enc : TypeId × Value → H} {W : World} {b0 base : Nat} {sp : Nat → Bool} {held : Bool} {v : Value} {d : DataW H} {p : List MemPlace}
theorem c5 : Tryz.prog.cellsOf 5 = 1 := by kernel_rfl
set_option maxRecDepth 100000 in
theorem open_u8s (hv : Value.okWide Tryz.prog W .any b0 40 v) (h : DataW.Trod enc Tryz.prog W base sp held 40 v d p) : ∃ rm : List Nat, RowR W v rm.length 1 (protoCells rm) := by
  obtain ⟨a1, len, cap, rfl⟩ := okWide_slice Tryz.underlying40 hv
  obtain ⟨fuel, hf⟩ := h
  rcases open_ints Tryz.underlying40 Tryz.underlying5 c5 hf with ⟨hcs, hx⟩ | ⟨a, len2, cap2, zs, hcs, _, hl, hm, hz, hx, hcell, hwz⟩
  · simp [Value.cells] at hcs
    obtain ⟨rfl, rfl, rfl⟩ := hcs
    exact ⟨[], RowR.empty _ _⟩
  · simp [Value.cells] at hcs
    obtain ⟨rfl, rfl, rfl⟩ := hcs
    have hzl : len ≤ zs.length := by rw [hz]; split <;> omega
    have hlen : ((zs.take len).map Int.toNat).length = len := by rw [List.length_map, List.length_take]; omega
    refine ⟨(zs.take len).map Int.toNat, some a, cap, by rw [hlen], by unfold protoCells; simp, fun hpos => ?_⟩
    rw [hlen] at hpos
    obtain ⟨ab, ao, spot⟩ := a
    have hspot : spot = none := by simpa [Addr.add] using World.cell?_spot (hcell 0 (by omega))
    subst hspot
    refine ⟨ab, ao, rfl, fun j u hu => ?_⟩
    have hj : j < len := by
      have := (List.getElem?_eq_some_iff.1 hu).1
      unfold protoCells at this
      rw [List.length_map, hlen] at this
      exact this
    have hcj := hcell j (by omega)
    rw [addr_add] at hcj
    have e : zs.getD j 0 = zs[j]'(by omega) := by simp [List.getD, List.getElem?_eq_getElem (show j < zs.length by omega)]
    rw [e] at hcj
    have hw := hwz _ (List.getElem_mem (show j < zs.length by omega))
    have hx : 0 ≤ zs[j]'(by omega) ∧ zs[j]'(by omega) ≤ 255 := by simpa [Lit.wf, IntKind.min, IntKind.max, IntKind.signed, IntKind.bits] using hw
    rw [hcj]
    unfold protoCells at hu
    rw [List.getElem?_map, List.getElem?_map, List.getElem?_take_of_lt hj, List.getElem?_eq_getElem (show j < zs.length by omega)] at hu
    simp only [Option.map_some] at hu
    rw [← hu]
    congr 2
    omega
end
theorem laidOut : laidOutB Tryz.prog = true := by kernel_rfl
end Go.Proofs.YtbiglifngfgffaaGreatDoor
