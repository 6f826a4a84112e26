/- Joined out of: RwJ RwK. -/
import Derived.Test.YtbiglifngfgffaaGreatDoorLaz
import Derived.Test.YtbiglifngfgffaaGreatDoorLap
import Derived.Deep.QuietTactic
import Derived.BigQuiet
import Derived.Deep.CutRange
import Derived.Test.YtbiglifngfgffaaGreatDoorLaa
import Derived.Test.YtbiglifngfgffaaGreatDoorLaq
set_option linter.unusedVariables false
set_option linter.unusedSimpArgs false

/- An accept's line, as the document says (acl): the walk. -/
namespace Go.Proofs.YtbiglifngfgffaaGreatDoor
open Go.RowKit
attribute [local go_sem ↓] Go.wp_at_zero Go.wp_at_succ

theorem app_list (a b : ByteArray) : (a ++ b).data.toList = a.data.toList ++ b.data.toList := by rw [ByteArray.data_append, Array.toList_append]
theorem ofL_of {b : ByteArray} {l : List UInt8} (h : b.data.toList = l) : b = ofL l := by rw [← h, ofL_back]
set_option maxHeartbeats 32000000 in
set_option maxRecDepth 100000 in
theorem racl_any {w : World} (env : Env w) (X : AcV) (hx : AcRdM w X) (hs : AcSmall X.a) (hk : ∀ s, s ∈ X.a.src ∨ s ∈ X.a.dst → 1 ≤ s.kind ∧ s.kind ≤ 6) (hp : ∀ x ∈ X.a.protos, x = 1 ∨ x = 6 ∨ x = 17) :
    Calls Tryz.prog 70 #[.agg #[X.p, X.s, X.d, X.o]] w (Got (.string (ofL (Lib.join (aclT X.a) [32]))) w) := by
  obtain ⟨OUT, hO⟩ : ∃ o, o = ofL (Lib.join (aclT X.a) [32]) := ⟨_, rfl⟩
  rw [← hO]
  rw [← acO_all] at hO
  obtain ⟨a, pv, sv, dv, ov⟩ := X
  simp only at hs hk hp hO
  obtain ⟨A1, c1, f1⟩ := hx.p.shape
  obtain ⟨A2, c2, f2⟩ := hx.s.shape
  obtain ⟨A3, c3, f3⟩ := hx.d.shape
  obtain ⟨A4, c4, f4⟩ := hx.o.shape
  obtain ⟨x1, x2, x3, x4⟩ := hx
  simp only at f1 f2 f3 f4 x1 x2 x3 x4
  subst f1 f2 f3 f4
  have l1 := hs.pl
  have l2 := hs.sl
  have l3 := hs.dl
  have l4 := hs.ol
  obtain ⟨n1, hn1⟩ : ∃ n, n = a.protos.length := ⟨_, rfl⟩
  obtain ⟨n2, hn2⟩ : ∃ n, n = a.src.length := ⟨_, rfl⟩
  obtain ⟨n3, hn3⟩ : ∃ n, n = a.dst.length := ⟨_, rfl⟩
  obtain ⟨n4, hn4⟩ : ∃ n, n = a.ports.length := ⟨_, rfl⟩
  simp only
  rw [← hn1] at x1 l1 ⊢
  rw [← hn2] at x2 l2 ⊢
  rw [← hn3] at x3 l3 ⊢
  rw [← hn4] at x4 l4 ⊢
  have HE := Lib.hid env
  have HX1 := Lib.hid x1
  have HX2 := Lib.hid x2
  have HX3 := Lib.hid x3
  have HX4 := Lib.hid x4
  have HN1 := Lib.hid hn1
  have HN2 := Lib.hid hn2
  have HN3 := Lib.hid hn3
  have HN4 := Lib.hid hn4
  have HSm := Lib.hid hs
  have HK := Lib.hid hk
  have HPr := Lib.hid hp
  have HO := Lib.hid hO
  clear env hs hk hp hO x1 x2 x3 x4 hn1 hn2 hn3 hn4
  have M1 := Lib.hid (Blk.new w 57 #[.slice A1 n1 c1, .slice A2 n2 c2, .slice A3 n3 c3, .slice A4 n4 c4])
  have HB := Lib.hid (boxed w (.cells #[.slice A1 n1 c1, .slice A2 n2 c2, .slice A3 n3 c3, .slice A4 n4 c4] 57))
  go_enter Tryz.func70, Tryz.ntmps70
  go_upto_region 1 with fail
  generalize w.alloc (.cells #[.slice A1 n1 c1, .slice A2 n2 c2, .slice A3 n3 c3, .slice A4 n4 c4] 57) = w1 at M1 HB ⊢
  generalize w.heap.size = M at M1 ⊢
  have m0 := M1.out.cell 0
  simp at m0
  go_upto_if 11 with fail
  go_cut [3] from 4 (fun v3 wx => ∃ t : ByteArray, v3 = .string t ∧ t.size ≤ 20 ∧ RowKit.Hid (t.data.toList = acP a 0) ∧ wx = w1)
  case first =>
    by_cases h0 : n1 = 0
    · have q0 : ((n1 : Int) == 0) = true := by simp; omega
      have HA : RowKit.Hid (a.protos = []) := Lib.hid (List.eq_nil_of_length_eq_zero (by have := HN1.out; omega))
      clear h0
      go_wp2_with fail
      go_meet
      exact ⟨_, rfl, (by decide), Lib.hid (by rw [acP_zero HA.out]; rfl), rfl⟩
    · have q0 : ((n1 : Int) == 0) = false := by simp; omega
      have HA : RowKit.Hid (a.protos ≠ []) := Lib.hid (fun e => by have := HN1.out; rw [e] at this; exact h0 this)
      clear h0
      go_wp2_with fail
      go_meet
      exact ⟨_, rfl, (by decide), Lib.hid (by rw [acP_start HA.out]; rfl), rfl⟩
  case rest =>
  obtain ⟨t0, rfl, ht0, HT0, rfl⟩ := hcut
  have m0 := M1.out.cell 0
  simp at m0
  go_wp2_with fail
  clear m0
  go_loopw [3, 4] (fun v3 v4 wr => ∃ (k : Nat) (t : ByteArray), k ≤ n1 ∧ t.size ≤ 20 + 10 * k ∧ v3 = .string t ∧ v4 = .int .i64 (k : Int) ∧ RowKit.Hid (t.data.toList = acP a k) ∧ RowKit.Hid (Below w.heap.size w wr) ∧ RowKit.Hid (Blk wr M 57 #[.slice A1 n1 c1, .slice A2 n2 c2, .slice A3 n3 c3, .slice A4 n4 c4])) (fun _ v4 _ => n1 - (intOf v4).toNat)
  case atStart => exact ⟨0, t0, Nat.zero_le _, by omega, rfl, rfl, HT0, HB, M1⟩
  case round =>
    clear HB M1 HT0
    obtain ⟨k, t, hk, ht, rfl, rfl, HT, HB, M1⟩ := hrel
    have m0 := M1.out.cell 0
    simp at m0
    by_cases hlt : k < n1
    case pos =>
      have hkl : k < a.protos.length := by have := HN1.out; omega
      obtain ⟨q, o, rfl, hc⟩ := HX1.out.cell HB.out (by omega)
      have hXl : a.protos[k]? = some a.protos[k] := List.getElem?_eq_getElem hkl
      have hpx := HPr.out _ (List.getElem_mem hkl)
      have hsu := acP_succ hXl
      generalize a.protos[k] = x at hXl hpx hsu
      have d0 := hc _ _ (protoCells_at hXl)
      have HSu := Lib.hid hsu
      clear hc hXl hkl hsu
      by_cases x6 : x = 6
      case pos =>
        have e6 : ((x : Int) == 6) = true := by simp; omega
        subst x6
        by_cases h0 : k = 0
        · have g0 : ¬ (0 : Int) < (k : Int) := by omega
          have H0 := Lib.hid h0
          clear h0
          have z1 : ¬ 9223372036854775807 < t.size + 3 := by omega
          have HT2 : RowKit.Hid ((t ++ ⟨#[116, 99, 112]⟩).data.toList = acP a (k + 1)) := Lib.hid (by rw [HSu.out, if_pos H0.out, List.append_nil]; simp only [app_list]; rw [HT.out]; rfl)
          go_wp2_with fail
          go_roundw
          case rel => exact ⟨k + 1, t ++ ⟨#[116, 99, 112]⟩, by omega, (by simp only [ByteArray.size_append]; show t.size + 3 ≤ _; omega), rfl, by go_num, HT2, HB, M1⟩
          case measure => simp [intOf]; omega
        · have g0 : (0 : Int) < (k : Int) := by omega
          have H0 := Lib.hid h0
          clear h0
          have z0 : ¬ 9223372036854775807 < t.size + 1 := by omega
          have z1 : ¬ 9223372036854775807 < t.size + 1 + 3 := by omega
          have HT2 : RowKit.Hid ((t ++ ⟨#[44]⟩ ++ ⟨#[116, 99, 112]⟩).data.toList = acP a (k + 1)) := Lib.hid (by rw [HSu.out, if_neg H0.out]; simp only [app_list]; rw [HT.out]; rfl)
          go_wp2_with fail
          go_roundw
          case rel => exact ⟨k + 1, t ++ ⟨#[44]⟩ ++ ⟨#[116, 99, 112]⟩, by omega, (by simp only [ByteArray.size_append]; show t.size + 1 + 3 ≤ _; omega), rfl, by go_num, HT2, HB, M1⟩
          case measure => simp [intOf]; omega
      have e6 : ((x : Int) == 6) = false := by simp; omega
      by_cases x17 : x = 17
      case pos =>
        have e17 : ((x : Int) == 17) = true := by simp; omega
        subst x17
        by_cases h0 : k = 0
        · have g0 : ¬ (0 : Int) < (k : Int) := by omega
          have H0 := Lib.hid h0
          clear h0
          have z1 : ¬ 9223372036854775807 < t.size + 3 := by omega
          have HT2 : RowKit.Hid ((t ++ ⟨#[117, 100, 112]⟩).data.toList = acP a (k + 1)) := Lib.hid (by rw [HSu.out, if_pos H0.out, List.append_nil]; simp only [app_list]; rw [HT.out]; rfl)
          go_wp2_with fail
          go_roundw
          case rel => exact ⟨k + 1, t ++ ⟨#[117, 100, 112]⟩, by omega, (by simp only [ByteArray.size_append]; show t.size + 3 ≤ _; omega), rfl, by go_num, HT2, HB, M1⟩
          case measure => simp [intOf]; omega
        · have g0 : (0 : Int) < (k : Int) := by omega
          have H0 := Lib.hid h0
          clear h0
          have z0 : ¬ 9223372036854775807 < t.size + 1 := by omega
          have z1 : ¬ 9223372036854775807 < t.size + 1 + 3 := by omega
          have HT2 : RowKit.Hid ((t ++ ⟨#[44]⟩ ++ ⟨#[117, 100, 112]⟩).data.toList = acP a (k + 1)) := Lib.hid (by rw [HSu.out, if_neg H0.out]; simp only [app_list]; rw [HT.out]; rfl)
          go_wp2_with fail
          go_roundw
          case rel => exact ⟨k + 1, t ++ ⟨#[44]⟩ ++ ⟨#[117, 100, 112]⟩, by omega, (by simp only [ByteArray.size_append]; show t.size + 1 + 3 ≤ _; omega), rfl, by go_num, HT2, HB, M1⟩
          case measure => simp [intOf]; omega
      have e17 : ((x : Int) == 17) = false := by simp; omega
      obtain rfl : x = 1 := by omega
      by_cases h0 : k = 0
      · have g0 : ¬ (0 : Int) < (k : Int) := by omega
        have H0 := Lib.hid h0
        clear h0
        have z1 : ¬ 9223372036854775807 < t.size + 4 := by omega
        have HT2 : RowKit.Hid ((t ++ ⟨#[105, 99, 109, 112]⟩).data.toList = acP a (k + 1)) := Lib.hid (by rw [HSu.out, if_pos H0.out, List.append_nil]; simp only [app_list]; rw [HT.out]; rfl)
        go_wp2_with fail
        go_roundw
        case rel => exact ⟨k + 1, t ++ ⟨#[105, 99, 109, 112]⟩, by omega, (by simp only [ByteArray.size_append]; show t.size + 4 ≤ _; omega), rfl, by go_num, HT2, HB, M1⟩
        case measure => simp [intOf]; omega
      · have g0 : (0 : Int) < (k : Int) := by omega
        have H0 := Lib.hid h0
        clear h0
        have z0 : ¬ 9223372036854775807 < t.size + 1 := by omega
        have z1 : ¬ 9223372036854775807 < t.size + 1 + 4 := by omega
        have HT2 : RowKit.Hid ((t ++ ⟨#[44]⟩ ++ ⟨#[105, 99, 109, 112]⟩).data.toList = acP a (k + 1)) := Lib.hid (by rw [HSu.out, if_neg H0.out]; simp only [app_list]; rw [HT.out]; rfl)
        go_wp2_with fail
        go_roundw
        case rel => exact ⟨k + 1, t ++ ⟨#[44]⟩ ++ ⟨#[105, 99, 109, 112]⟩, by omega, (by simp only [ByteArray.size_append]; show t.size + 1 + 4 ≤ _; omega), rfl, by go_num, HT2, HB, M1⟩
        case measure => simp [intOf]; omega
    obtain rfl : n1 = k := by omega
    have hTn := HT.out
    rw [HN1.out] at hTn
    have HTp := Lib.hid hTn
    clear hTn HT
    have m1 := M1.out.cell 1
    simp at m1
    have z1 : ¬ 9223372036854775807 < t.size + 5 := by omega
    go_wp2_with fail
    clear m0 m1 z1
    have HT1 : RowKit.Hid ((t ++ ⟨#[32, 102, 114, 111, 109]⟩).data.toList = acS a 0) := Lib.hid (by rw [acS_zero, app_list, HTp.out]; rfl)
    have ht1 : (t ++ ⟨#[32, 102, 114, 111, 109]⟩).size ≤ 100 := by simp only [ByteArray.size_append]; show t.size + 5 ≤ _; omega
    generalize t ++ ⟨#[32, 102, 114, 111, 109]⟩ = t1 at HT1 ht1 ⊢
    go_loopw [3, 5] (fun v3 v4 wr => ∃ (k : Nat) (t : ByteArray), k ≤ n2 ∧ t.size ≤ 100 + 3000000 * k ∧ v3 = .string t ∧ v4 = .int .i64 (k : Int) ∧ RowKit.Hid (t.data.toList = acS a k) ∧ RowKit.Hid (Below w.heap.size w wr) ∧ RowKit.Hid (Blk wr M 57 #[.slice A1 n1 c1, .slice A2 n2 c2, .slice A3 n3 c3, .slice A4 n4 c4])) (fun _ v4 _ => n2 - (intOf v4).toNat)
    case atStart => exact ⟨0, t1, Nat.zero_le _, by omega, rfl, rfl, HT1, HB, M1⟩
    case round =>
      clear HB M1 HT1
      obtain ⟨k, t, hk, ht, rfl, rfl, HT, HB, M1⟩ := hrel
      have m1 := M1.out.cell 1
      simp at m1
      by_cases hlt : k < n2
      case pos =>
        have hkl : k < a.src.length := by have := HN2.out; omega
        obtain ⟨q, o, rfl, hc⟩ := HX2.out.cell HB.out (by omega)
        have hXl : a.src[k]? = some a.src[k] := List.getElem?_eq_getElem hkl
        have hm : a.src[k] ∈ a.src := List.getElem_mem hkl
        have hXf := HSm.out.fit.src _ hm
        have hkk := HK.out _ (Or.inl hm)
        have hsu := acS_succ hXl
        generalize a.src[k] = Y at hXl hXf hkk hsu
        obtain ⟨e0, e1, e2, e3, e4, e5⟩ := selCells_at a.src k Y hXl
        have d0 := hc _ _ e0
        have d1 := hc _ _ e1
        have d2 := hc _ _ e2
        have d3 := hc _ _ e3
        have d4 := hc _ _ e4
        have d5 := hc _ _ e5
        rw [← Nat.add_assoc] at d1 d2 d3 d4 d5
        have htx := rselText_any (HE.out.below HB.out) Y hXf.ok (by have := hXf.name; omega) hkk
        have hsz := selTB_size Y hXf.ok
        have hnm := hXf.name
        have htl : (selTB Y).data.toList = selT Y := rfl
        rw [← htl] at hsu
        obtain ⟨y1, y2, ⟨⟨y3, y4, y5⟩, y6⟩⟩ := Y
        simp only at d0 d1 d2 d3 d4 d5 htx hnm hsz
        generalize selTB ⟨y1, y2, ⟨⟨y3, y4, y5⟩, y6⟩⟩ = TX at htx hsz hsu
        have HTx := Lib.hid htx
        have HSu := Lib.hid hsu
        have z0 : ¬ 9223372036854775807 < t.size + 1 := by omega
        have z1 : ¬ 9223372036854775807 < t.size + 1 + TX.size := by omega
        clear hc hXl hkl hsu e0 e1 e2 e3 e4 e5 htx htl hXf hkk hm
        have HT2 : RowKit.Hid ((t ++ ⟨#[32]⟩ ++ TX).data.toList = acS a (k + 1)) := Lib.hid (by rw [HSu.out]; simp only [app_list]; rw [HT.out]; simp)
        go_wp2_with (go_at_call 111; (with_reducible refine HTx.out.mono ?_); rintro r w5 ⟨rfl, e⟩)
        go_roundw
        case rel => exact ⟨k + 1, t ++ ⟨#[32]⟩ ++ TX, by omega, (by simp only [ByteArray.size_append]; show t.size + 1 + TX.size ≤ _; omega), rfl, by go_num, HT2, Lib.hid (after HB.out e), Lib.hid (M1.out.below e M1.out.lt)⟩
        case measure => simp [intOf]; omega
      obtain rfl : n2 = k := by omega
      have hTn := HT.out
      rw [HN2.out] at hTn
      have HTp := Lib.hid hTn
      clear hTn HT
      have m2 := M1.out.cell 2
      simp at m2
      have z1 : ¬ 9223372036854775807 < t.size + 3 := by omega
      go_wp2_with fail
      clear m1 m2 z1
      have HT2 : RowKit.Hid ((t ++ ⟨#[32, 116, 111]⟩).data.toList = acD a 0) := Lib.hid (by rw [acD_zero, app_list, HTp.out]; rfl)
      have ht2 : (t ++ ⟨#[32, 116, 111]⟩).size ≤ 200000000 := by simp only [ByteArray.size_append]; show t.size + 3 ≤ _; omega
      generalize t ++ ⟨#[32, 116, 111]⟩ = t2 at HT2 ht2 ⊢
      go_loopw [3, 6] (fun v3 v4 wr => ∃ (k : Nat) (t : ByteArray), k ≤ n3 ∧ t.size ≤ 200000000 + 3000000 * k ∧ v3 = .string t ∧ v4 = .int .i64 (k : Int) ∧ RowKit.Hid (t.data.toList = acD a k) ∧ RowKit.Hid (Below w.heap.size w wr) ∧ RowKit.Hid (Blk wr M 57 #[.slice A1 n1 c1, .slice A2 n2 c2, .slice A3 n3 c3, .slice A4 n4 c4])) (fun _ v4 _ => n3 - (intOf v4).toNat)
      case atStart => exact ⟨0, t2, Nat.zero_le _, by omega, rfl, rfl, HT2, HB, M1⟩
      case round =>
        clear HB M1 HT2
        obtain ⟨k, t, hk, ht, rfl, rfl, HT, HB, M1⟩ := hrel
        have m1 := M1.out.cell 2
        simp at m1
        by_cases hlt : k < n3
        case pos =>
          have hkl : k < a.dst.length := by have := HN3.out; omega
          obtain ⟨q, o, rfl, hc⟩ := HX3.out.cell HB.out (by omega)
          have hXl : a.dst[k]? = some a.dst[k] := List.getElem?_eq_getElem hkl
          have hm : a.dst[k] ∈ a.dst := List.getElem_mem hkl
          have hXf := HSm.out.fit.dst _ hm
          have hkk := HK.out _ (Or.inr hm)
          have hsu := acD_succ hXl
          generalize a.dst[k] = Y at hXl hXf hkk hsu
          obtain ⟨e0, e1, e2, e3, e4, e5⟩ := selCells_at a.dst k Y hXl
          have d0 := hc _ _ e0
          have d1 := hc _ _ e1
          have d2 := hc _ _ e2
          have d3 := hc _ _ e3
          have d4 := hc _ _ e4
          have d5 := hc _ _ e5
          rw [← Nat.add_assoc] at d1 d2 d3 d4 d5
          have htx := rselText_any (HE.out.below HB.out) Y hXf.ok (by have := hXf.name; omega) hkk
          have hsz := selTB_size Y hXf.ok
          have hnm := hXf.name
          have htl : (selTB Y).data.toList = selT Y := rfl
          rw [← htl] at hsu
          obtain ⟨y1, y2, ⟨⟨y3, y4, y5⟩, y6⟩⟩ := Y
          simp only at d0 d1 d2 d3 d4 d5 htx hnm hsz
          generalize selTB ⟨y1, y2, ⟨⟨y3, y4, y5⟩, y6⟩⟩ = TX at htx hsz hsu
          have HTx := Lib.hid htx
          have HSu := Lib.hid hsu
          have z0 : ¬ 9223372036854775807 < t.size + 1 := by omega
          have z1 : ¬ 9223372036854775807 < t.size + 1 + TX.size := by omega
          clear hc hXl hkl hsu e0 e1 e2 e3 e4 e5 htx htl hXf hkk hm
          have HT2 : RowKit.Hid ((t ++ ⟨#[32]⟩ ++ TX).data.toList = acD a (k + 1)) := Lib.hid (by rw [HSu.out]; simp only [app_list]; rw [HT.out]; simp)
          go_wp2_with (go_at_call 111; (with_reducible refine HTx.out.mono ?_); rintro r w5 ⟨rfl, e⟩)
          go_roundw
          case rel => exact ⟨k + 1, t ++ ⟨#[32]⟩ ++ TX, by omega, (by simp only [ByteArray.size_append]; show t.size + 1 + TX.size ≤ _; omega), rfl, by go_num, HT2, Lib.hid (after HB.out e), Lib.hid (M1.out.below e M1.out.lt)⟩
          case measure => simp [intOf]; omega
        obtain rfl : n3 = k := by omega
        have hTn := HT.out
        rw [HN3.out] at hTn
        have HTp := Lib.hid hTn
        clear hTn HT
        have m3 := M1.out.cell 3
        simp at m3
        go_wp2_with fail
        clear m1 m3
        have HT3 : RowKit.Hid (t.data.toList = acO a 0) := Lib.hid (by rw [acO_zero, HTp.out])
        have ht3 : t.size ≤ 500000000 := by omega
        clear ht HTp
        go_loopw [3, 7] (fun v3 v4 wr => ∃ (k : Nat) (t : ByteArray), k ≤ n4 ∧ t.size ≤ 500000000 + 100 * k ∧ v3 = .string t ∧ v4 = .int .i64 (k : Int) ∧ RowKit.Hid (t.data.toList = acO a k) ∧ RowKit.Hid (Below w.heap.size w wr) ∧ RowKit.Hid (Blk wr M 57 #[.slice A1 n1 c1, .slice A2 n2 c2, .slice A3 n3 c3, .slice A4 n4 c4])) (fun _ v4 _ => n4 - (intOf v4).toNat)
        case atStart => exact ⟨0, t, Nat.zero_le _, by omega, rfl, rfl, HT3, HB, M1⟩
        case round =>
          clear HB M1 HT3
          obtain ⟨k, t, hk, ht, rfl, rfl, HT, HB, M1⟩ := hrel
          have m3 := M1.out.cell 3
          simp at m3
          by_cases hlt : k < n4
          case pos =>
            have hkl : k < a.ports.length := by have := HN4.out; omega
            obtain ⟨q, o, rfl, hc⟩ := HX4.out.cell HB.out (by omega)
            have hXl : a.ports[k]? = some a.ports[k] := List.getElem?_eq_getElem hkl
            have hXf := HSm.out.fit.ob _ (List.getElem_mem hkl)
            have hsu := acO_succ hXl
            generalize a.ports[k] = Y at hXl hXf hsu
            obtain ⟨e0, e1⟩ := portCells_at a.ports k Y hXl
            have d0 := hc _ _ e0
            have d1 := hc _ _ e1
            rw [← Nat.add_assoc] at d1
            obtain ⟨y1, y2⟩ := Y
            simp only at d0 d1 hXf
            unfold portT at hsu
            simp only at hsu
            have hI1 := fun u (hu : Below w.heap.size w u) => itoa16 (HE.out.below hu) y1 hXf.1
            have hI2 := fun u (hu : Below w.heap.size w u) => itoa16 (HE.out.below hu) y2 hXf.2
            have s1 := dec5 hXf.1
            have s2 := dec5 hXf.2
            obtain ⟨b1, b2⟩ := hXf
            have hb1 : Lib.decDigits y1 = (⟨(Lib.decDigits y1).toArray⟩ : ByteArray).data.toList := rfl
            have hb2 : Lib.decDigits y2 = (⟨(Lib.decDigits y2).toArray⟩ : ByteArray).data.toList := rfl
            rw [hb1, hb2] at hsu
            generalize (⟨(Lib.decDigits y1).toArray⟩ : ByteArray) = D1 at hI1 s1 hsu
            generalize (⟨(Lib.decDigits y2).toArray⟩ : ByteArray) = D2 at hI2 s2 hsu
            have HI1 := Lib.hid hI1
            have HI2 := Lib.hid hI2
            have HSu := Lib.hid hsu
            clear hI1 hI2 hsu hb1 hb2 hc e0 e1 hXl hkl
            by_cases h0 : k = 0
            · have g0 : ((k : Int) == 0) = true := by simp; omega
              have H0 := Lib.hid h0
              clear h0
              have z0 : ¬ 9223372036854775807 < t.size + 6 := by omega
              have z1 : ¬ 9223372036854775807 < t.size + 6 + 1 := by omega
              have z2 : ¬ 9223372036854775807 < t.size + 6 + 1 + D1.size := by omega
              have z3 : ¬ 9223372036854775807 < t.size + 6 + 1 + D1.size + 1 := by omega
              have z4 : ¬ 9223372036854775807 < t.size + 6 + 1 + D1.size + 1 + D2.size := by omega
              go_upto_region 31 with (go_at_call 50; (with_reducible refine (HI1.out _ HB.out).mono ?_); rintro r wi ⟨rfl, di⟩)
              have HBi := Lib.hid (after HB.out di)
              have Mi := Lib.hid (M1.out.below di M1.out.lt)
              have f0 := below_cell' d0 di
              have f1 := below_cell' d1 di
              have HBn : RowKit.Hid (∀ n, Below w.heap.size w (wi.drewN n)) := Lib.hid fun n => ⟨HBi.out.os, HBi.out.tape, HBi.out.output, HBi.out.size, HBi.out.block⟩
              have j3 := Mi.out.cell 3
              simp at j3
              clear d0 d1 m3 di
              by_cases hyy : y2 = y1
              · have g1 : ((y2 : Int) != (y1 : Int)) = false := by simp; omega
                have HT2 : RowKit.Hid ((t ++ ⟨#[32, 112, 111, 114, 116, 115]⟩ ++ ⟨#[32]⟩ ++ D1).data.toList = acO a (k + 1)) := Lib.hid (by rw [HSu.out, if_pos H0.out, if_neg (show ¬ (y2 ≠ y1) from fun e => e hyy), List.append_nil]; simp only [app_list]; rw [HT.out]; simp [W_ports])
                have HYY := Lib.hid hyy
                clear hyy
                go_quiet (fail)
                go_wp2_with (go_at_call 50; (with_reducible refine (HI2.out _ (HBn.out _)).mono ?_); rintro r wj ⟨rfl, dj⟩)
                go_roundw
                case rel => exact ⟨k + 1, t ++ ⟨#[32, 112, 111, 114, 116, 115]⟩ ++ ⟨#[32]⟩ ++ D1, by omega, (by simp only [ByteArray.size_append]; show t.size + 6 + 1 + D1.size ≤ _; omega), rfl, by go_num, HT2, Lib.hid (HBn.out _), Lib.hid (Mi.out.drewN _)⟩
                case measure => simp [intOf]; omega
              · have g1 : ((y2 : Int) != (y1 : Int)) = true := by simp; omega
                have HT2 : RowKit.Hid ((t ++ ⟨#[32, 112, 111, 114, 116, 115]⟩ ++ ⟨#[32]⟩ ++ D1 ++ ⟨#[45]⟩ ++ D2).data.toList = acO a (k + 1)) := Lib.hid (by rw [HSu.out, if_pos H0.out, if_pos hyy]; simp only [app_list]; rw [HT.out]; simp [W_ports])
                have HYY := Lib.hid hyy
                clear hyy
                go_quiet (fail)
                go_wp2_with (go_at_call 50; (with_reducible refine (HI2.out _ (HBn.out _)).mono ?_); rintro r wj ⟨rfl, dj⟩)
                go_roundw
                case rel => exact ⟨k + 1, t ++ ⟨#[32, 112, 111, 114, 116, 115]⟩ ++ ⟨#[32]⟩ ++ D1 ++ ⟨#[45]⟩ ++ D2, by omega, (by simp only [ByteArray.size_append]; show t.size + 6 + 1 + D1.size + 1 + D2.size ≤ _; omega), rfl, by go_num, HT2, Lib.hid (after (HBn.out _) dj), Lib.hid ((Mi.out.drewN _).below dj (Mi.out.drewN _).lt)⟩
                case measure => simp [intOf]; omega
            · have g0 : ((k : Int) == 0) = false := by simp; omega
              have H0 := Lib.hid h0
              clear h0
              have z1 : ¬ 9223372036854775807 < t.size + 1 := by omega
              have z2 : ¬ 9223372036854775807 < t.size + 1 + D1.size := by omega
              have z3 : ¬ 9223372036854775807 < t.size + 1 + D1.size + 1 := by omega
              have z4 : ¬ 9223372036854775807 < t.size + 1 + D1.size + 1 + D2.size := by omega
              go_upto_region 31 with (go_at_call 50; (with_reducible refine (HI1.out _ HB.out).mono ?_); rintro r wi ⟨rfl, di⟩)
              have HBi := Lib.hid (after HB.out di)
              have Mi := Lib.hid (M1.out.below di M1.out.lt)
              have f0 := below_cell' d0 di
              have f1 := below_cell' d1 di
              have HBn : RowKit.Hid (∀ n, Below w.heap.size w (wi.drewN n)) := Lib.hid fun n => ⟨HBi.out.os, HBi.out.tape, HBi.out.output, HBi.out.size, HBi.out.block⟩
              have j3 := Mi.out.cell 3
              simp at j3
              clear d0 d1 m3 di
              by_cases hyy : y2 = y1
              · have g1 : ((y2 : Int) != (y1 : Int)) = false := by simp; omega
                have HT2 : RowKit.Hid ((t ++ ⟨#[32]⟩ ++ D1).data.toList = acO a (k + 1)) := Lib.hid (by rw [HSu.out, if_neg H0.out, List.append_nil, if_neg (show ¬ (y2 ≠ y1) from fun e => e hyy), List.append_nil]; simp only [app_list]; rw [HT.out]; simp [W_ports])
                have HYY := Lib.hid hyy
                clear hyy
                go_quiet (fail)
                go_wp2_with (go_at_call 50; (with_reducible refine (HI2.out _ (HBn.out _)).mono ?_); rintro r wj ⟨rfl, dj⟩)
                go_roundw
                case rel => exact ⟨k + 1, t ++ ⟨#[32]⟩ ++ D1, by omega, (by simp only [ByteArray.size_append]; show t.size + 1 + D1.size ≤ _; omega), rfl, by go_num, HT2, Lib.hid (HBn.out _), Lib.hid (Mi.out.drewN _)⟩
                case measure => simp [intOf]; omega
              · have g1 : ((y2 : Int) != (y1 : Int)) = true := by simp; omega
                have HT2 : RowKit.Hid ((t ++ ⟨#[32]⟩ ++ D1 ++ ⟨#[45]⟩ ++ D2).data.toList = acO a (k + 1)) := Lib.hid (by rw [HSu.out, if_neg H0.out, List.append_nil, if_pos hyy]; simp only [app_list]; rw [HT.out]; simp [W_ports])
                have HYY := Lib.hid hyy
                clear hyy
                go_quiet (fail)
                go_wp2_with (go_at_call 50; (with_reducible refine (HI2.out _ (HBn.out _)).mono ?_); rintro r wj ⟨rfl, dj⟩)
                go_roundw
                case rel => exact ⟨k + 1, t ++ ⟨#[32]⟩ ++ D1 ++ ⟨#[45]⟩ ++ D2, by omega, (by simp only [ByteArray.size_append]; show t.size + 1 + D1.size + 1 + D2.size ≤ _; omega), rfl, by go_num, HT2, Lib.hid (after (HBn.out _) dj), Lib.hid ((Mi.out.drewN _).below dj (Mi.out.drewN _).lt)⟩
                case measure => simp [intOf]; omega
          obtain rfl : n4 = k := by omega
          have hT := HT.out
          rw [HN4.out] at hT
          have HTe := Lib.hid (ofL_of hT)
          clear hT HT
          go_wp2_with fail
          go_ret
          exact ⟨by rw [HO.out, HTe.out]; rfl, HB.out⟩
end Go.Proofs.YtbiglifngfgffaaGreatDoor

/- How a policy is written, as the document says (all, Text): the walks. -/
namespace Go.Proofs.YtbiglifngfgffaaGreatDoor
open Go.RowKit
attribute [local go_sem ↓] Go.wp_at_zero Go.wp_at_succ

theorem atL_bound {p : Po} (h : PoSmall p) (j : Nat) : (ofL (atL p j)).size ≤ 200000000000 := by
  have := atL_len h j
  show (atL p j).toArray.size ≤ _
  simpa using this
theorem small_kind {p : Po} (hm : mayP p = true) : ∀ a ∈ p.acls, (∀ s, s ∈ a.src ∨ s ∈ a.dst → 1 ≤ s.kind ∧ s.kind ≤ 6) ∧ ∀ x ∈ a.protos, x = 1 ∨ x = 6 ∨ x = 17 := by
  intro a ha
  have h := (mayP_ok hm).2.2.2.2.2.1 a ha
  unfold mayAc at h
  simp only [Bool.and_eq_true, decide_eq_true_eq] at h
  obtain ⟨⟨⟨⟨⟨h1, h2⟩, h3⟩, h4⟩, h5⟩, h6⟩ := h
  obtain ⟨s1, _, _⟩ := maySels_ok h5
  obtain ⟨d1, _, _⟩ := maySels_ok h6
  refine ⟨?_, fun x hx => protoOk_cases (List.all_eq_true.1 h2 x hx)⟩
  rintro s (hs | hs)
  · exact kind_ok (s1 s hs).1
  · exact kind_ok (d1 s hs).1

set_option maxHeartbeats 32000000 in
set_option maxRecDepth 100000 in
theorem rall_any {w : World} (env : Env w) {V : PoV} {p : Po} (h : PoRd w V p) (hf : PoFit p) (hmp : mayP p = true) :
    Calls Tryz.prog 35 #[.agg #[V.g, V.t, V.h, V.a]] w (Got (.string (ofL (textP p))) w) := by
  obtain ⟨OUT, hO⟩ : ∃ o, o = ofL (textP p) := ⟨_, rfl⟩
  rw [← hO]
  have hsm := hf.small hmp
  have hkd := small_kind hmp
  have hrh := h.h
  obtain ⟨xg, hxg, hrg, hig⟩ := h.g
  obtain ⟨xt, hxt, hrt, hit⟩ := h.t
  obtain ⟨xs, hxs, hra, hin⟩ := h.a
  obtain ⟨Ag, cg, eg⟩ := hrg.shape
  obtain ⟨At, ct, et⟩ := hrt.shape
  obtain ⟨Ah, ch, eh⟩ := hrh.shape
  obtain ⟨Aa, ca, ea⟩ := hra.shape
  obtain ⟨gv, tv, hv, av⟩ := V
  simp only at eg et eh ea hrh hra hrg hrt ⊢
  subst eg et eh ea
  obtain ⟨NG, hNG⟩ : ∃ n, n = p.groups.length := ⟨_, rfl⟩
  obtain ⟨NT, hNT⟩ : ∃ n, n = p.tags.length := ⟨_, rfl⟩
  obtain ⟨NH, hNH⟩ : ∃ n, n = p.hosts.length := ⟨_, rfl⟩
  obtain ⟨NA, hNA⟩ : ∃ n, n = p.acls.length := ⟨_, rfl⟩
  have l1 := hsm.gl
  have l2 := hsm.tl
  have l3 := hsm.hl
  have l4 := hsm.al
  rw [← hNG] at hrg l1 ⊢
  rw [← hNT] at hrt l2 ⊢
  rw [← hNH] at hrh l3 ⊢
  rw [← hNA] at hra l4 ⊢
  have HRg := Lib.hid hrg
  have HRt := Lib.hid hrt
  have HRh := Lib.hid hrh
  have HRa := Lib.hid hra
  have HXg := Lib.hid hxg
  have HXt := Lib.hid hxt
  have HXs := Lib.hid hxs
  have HIg := Lib.hid hig
  have HIt := Lib.hid hit
  have HIn := Lib.hid hin
  have HNG := Lib.hid hNG
  have HNT := Lib.hid hNT
  have HNH := Lib.hid hNH
  have HNA := Lib.hid hNA
  have HO := Lib.hid hO
  have HS := Lib.hid hsm
  have HKd := Lib.hid hkd
  have HEnv := Lib.hid env
  clear h hf hmp hsm hkd hrh hra hrg hrt hxg hxt hxs hig hit hin hNG hNT hNH hNA hO env
  have HQ := Lib.hid (Blk.new w 26 #[.slice Ag NG cg, .slice At NT ct, .slice Ah NH ch, .slice Aa NA ca])
  have HB := Lib.hid (boxed w (.cells #[.slice Ag NG cg, .slice At NT ct, .slice Ah NH ch, .slice Aa NA ca] 26))
  go_enter Tryz.func35, Tryz.ntmps35
  go_upto_region 1 with fail
  generalize w.alloc (.cells #[.slice Ag NG cg, .slice At NT ct, .slice Ah NH ch, .slice Aa NA ca] 26) = w1 at HQ HB ⊢
  generalize w.heap.size = Q at HQ ⊢
  have p0 := HQ.out.cell 0
  have p1 := HQ.out.cell 1
  simp at p0 p1
  go_wp2_with fail
  clear p0 p1
  go_loopw [3, 4] (fun v3 v4 wr => ∃ k : Nat, k ≤ NG + NT ∧ v4 = .int .i64 (k : Int) ∧ RowKit.Hid (v3 = .string (ofL (atL p k))) ∧ RowKit.Hid (Below w.heap.size w wr) ∧ RowKit.Hid (Blk wr Q 26 #[.slice Ag NG cg, .slice At NT ct, .slice Ah NH ch, .slice Aa NA ca])) (fun _ v4 _ => NG + NT - (intOf v4).toNat)
  case atStart => exact ⟨0, Nat.zero_le _, rfl, Lib.hid rfl, HB, HQ⟩
  case round =>
    clear HB HQ
    obtain ⟨k, hk, rfl, HV, HB, HQ⟩ := hrel
    have hv := HV.out
    subst hv
    clear HV
    have p0 := HQ.out.cell 0
    have p1 := HQ.out.cell 1
    simp at p0 p1
    obtain ⟨wo, rfl⟩ : ∃ wo : World, wo = wr := ⟨_, rfl⟩
    by_cases hlt : k < NG + NT
    case pos =>
      by_cases hg : k < NG
      · have qg : (k : Int) < (NG : Int) + (NT : Int) := by omega
        have hlx := congrArg List.length HXg.out
        rw [List.length_map] at hlx
        have hkl : k < p.groups.length := by have := HNG.out; omega
        obtain ⟨X, hX⟩ : ∃ X, xg[k]? = some X := ⟨_, List.getElem?_eq_getElem (by omega)⟩
        have hXl : p.groups[k]? = some X.1 := by rw [← HXg.out, List.getElem?_map, hX]; rfl
        have hcx := nmCells_at (xg.map nmPair) k (nmPair X) (by rw [List.getElem?_map, hX]; rfl)
        obtain ⟨q, o, rfl, hc⟩ := HRg.out.cell HB.out (by omega)
        have d0 := hc _ _ hcx.1
        have d1 := hc _ _ hcx.2
        rw [← Nat.add_assoc] at d1
        have rX := HIg.out X (List.mem_of_getElem? hX)
        have hXf := HS.out.g X.1 (List.mem_of_getElem? hXl)
        have hli := (line_g hXl)
        have hsu := atL_succ hli
        obtain ⟨⟨nm, ls⟩, lv⟩ := X
        unfold nmPair at d0 d1
        simp only at d0 d1 rX hXf hsu
        obtain ⟨A2, c2, rfl⟩ := rX.shape
        obtain ⟨n2, hn2⟩ : ∃ n, n = ls.length := ⟨_, rfl⟩
        rw [← hn2] at d1 rX
        have hl2 : n2 ≤ 64 := by have := hXf.2.2; omega
        have hnm := hXf.1.name
        simp only at hnm
        have HN2 := Lib.hid hn2
        have HRX := Lib.hid rX
        have HXf := Lib.hid hXf
        have HSu := Lib.hid hsu
        have hb := atL_bound HS.out k
        obtain ⟨t, htt⟩ : ∃ t, t = ofL (atL p k) := ⟨_, rfl⟩
        rw [← htt] at hb ⊢
        have HT : RowKit.Hid (t.data.toList = atL p k) := Lib.hid (by rw [htt]; rfl)
        clear hlx hkl hX hXl hcx hc rX hXf hn2 hli hsu htt
        have bx := boxed wo (.cells #[.string ⟨#[]⟩, .slice none 0 0] 46)
        have HPx := HQ.out.alloc (.cells #[.string ⟨#[]⟩, .slice none 0 0] 46)
        have b0 := HPx.cell 0
        have b1 := HPx.cell 1
        simp at b0 b1
        have e0 := below_cell' d0 bx
        have e1 := below_cell' d1 bx
        go_upto_region 11 with fail
        clear b0 b1 e0 e1 HPx bx
        have M1 := Lib.hid (Blk.new wo 46 #[.string nm, .slice A2 n2 c2])
        have q1 := boxed wo (.cells #[.string nm, .slice A2 n2 c2] 46)
        have HB1 := Lib.hid (after HB.out q1)
        have HQ1 := Lib.hid (HQ.out.below q1 HQ.out.lt)
        generalize wo.alloc (.cells #[.string nm, .slice A2 n2 c2] 46) = w5 at M1 HB1 HQ1 q1 ⊢
        generalize wo.heap.size = M at M1 ⊢
        clear q1 HB HQ d0 d1 p0 p1
        have m0 := M1.out.cell 0
        have m1 := M1.out.cell 1
        simp at m0 m1
        have z0 : ¬ 9223372036854775807 < t.size + 6 := by omega
        have z1 : ¬ 9223372036854775807 < t.size + 6 + nm.size := by omega
        have z2 : ¬ 9223372036854775807 < t.size + 6 + nm.size + 2 := by omega
        go_wp2_with fail
        clear m0 m1 z0 z1 z2
        have HT0 : RowKit.Hid ((t ++ ⟨#[103, 114, 111, 117, 112, 32]⟩ ++ nm ++ ⟨#[32, 61]⟩).data.toList = atL p k ++ nmAt W_group.data.toList ⟨nm, ls⟩ 0) := Lib.hid (by simp only [app_list]; rw [HT.out]; unfold nmAt tailW; simp [W_group])
        have hb0 : (t ++ ⟨#[103, 114, 111, 117, 112, 32]⟩ ++ nm ++ ⟨#[32, 61]⟩).size ≤ 300000000000 := by simp only [ByteArray.size_append]; show t.size + 6 + nm.size + 2 ≤ _; omega
        generalize t ++ ⟨#[103, 114, 111, 117, 112, 32]⟩ ++ nm ++ ⟨#[32, 61]⟩ = t0 at HT0 hb0 ⊢
        go_loopw [3, 7] (fun v3 v7 wr => ∃ (i : Nat) (t : ByteArray), i ≤ n2 ∧ t.size ≤ 300000000000 + 3000000 * i ∧ v3 = .string t ∧ v7 = .int .i64 (i : Int) ∧ RowKit.Hid (t.data.toList = atL p k ++ nmAt W_group.data.toList ⟨nm, ls⟩ i) ∧ RowKit.Hid (Below w.heap.size w wr) ∧ RowKit.Hid (Blk wr Q 26 #[.slice (some ⟨q, o, none⟩) NG cg, .slice At NT ct, .slice Ah NH ch, .slice Aa NA ca]) ∧ RowKit.Hid (Blk wr M 46 #[.string nm, .slice A2 n2 c2])) (fun _ v7 _ => n2 - (intOf v7).toNat)
        case atStart => exact ⟨0, t0, Nat.zero_le _, by omega, rfl, rfl, HT0, HB1, HQ1, M1⟩
        case round =>
          clear HB1 HQ1 M1 HT0 HT
          obtain ⟨i, t, hi, ht, rfl, rfl, HT, HB, HQ, M1⟩ := hrel
          have m1 := M1.out.cell 1
          simp at m1
          by_cases hlt2 : i < n2
          · have hkl : i < ls.length := by have := HN2.out; omega
            obtain ⟨q2, o2, rfl, hc2⟩ := HRX.out.cell HB.out (by omega)
            have hsl : ls[i]? = some ls[i] := List.getElem?_eq_getElem hkl
            have hsf := HXf.out.1.all _ (List.getElem_mem hkl)
            have hst := nmAt_succ (W := W_group.data.toList) (n := ⟨nm, ls⟩) hsl
            have ds := hc2 _ _ (strCells_at hsl)
            generalize ls[i] = s at ds hsf hst
            have HT2 : RowKit.Hid ((t ++ ⟨#[32]⟩ ++ s).data.toList = atL p k ++ nmAt W_group.data.toList ⟨nm, ls⟩ (i + 1)) := Lib.hid (by rw [hst]; simp only [app_list]; rw [HT.out]; simp)
            have z0 : ¬ 9223372036854775807 < t.size + 1 := by omega
            have z1 : ¬ 9223372036854775807 < t.size + 1 + s.size := by omega
            clear hc2 hsl hst hkl
            go_wp2_with fail
            go_roundw
            case rel => exact ⟨i + 1, t ++ ⟨#[32]⟩ ++ s, by omega, (by simp only [ByteArray.size_append]; show t.size + 1 + s.size ≤ _; omega), rfl, by go_num, HT2, HB, HQ, M1⟩
            case measure => simp [intOf]; omega
          · obtain rfl : n2 = i := by omega
            have hT := HT.out
            rw [nmAt_all (by show ls.length ≤ _; have := HN2.out; omega)] at hT
            have HL : RowKit.Hid (t ++ ⟨#[10]⟩ = ofL (atL p (k + 1))) := Lib.hid (ofL_of (by rw [HSu.out, app_list, hT]; unfold lineT; simp))
            have z0 : ¬ 9223372036854775807 < t.size + 1 := by omega
            clear hT HT
            go_wp2_with fail
            go_roundw
            case rel => exact ⟨k + 1, by omega, by go_num, Lib.hid (congrArg Value.string HL.out), HB, HQ⟩
            case measure => simp [intOf]; omega
      · obtain ⟨j, rfl⟩ : ∃ j, k = NG + j := ⟨k - NG, by omega⟩
        have ej : ((NG + j : Nat) : Int) - (NG : Int) = (j : Int) := by omega
        have hlx := congrArg List.length HXt.out
        rw [List.length_map] at hlx
        have hkl : j < p.tags.length := by have := HNT.out; omega
        obtain ⟨X, hX⟩ : ∃ X, xt[j]? = some X := ⟨_, List.getElem?_eq_getElem (by omega)⟩
        have hXl : p.tags[j]? = some X.1 := by rw [← HXt.out, List.getElem?_map, hX]; rfl
        have hcx := nmCells_at (xt.map nmPair) j (nmPair X) (by rw [List.getElem?_map, hX]; rfl)
        obtain ⟨q, o, rfl, hc⟩ := HRt.out.cell HB.out (by omega)
        have d0 := hc _ _ hcx.1
        have d1 := hc _ _ hcx.2
        rw [← Nat.add_assoc] at d1
        have rX := HIt.out X (List.mem_of_getElem? hX)
        have hXf := HS.out.t X.1 (List.mem_of_getElem? hXl)
        have hli := (Eq.trans (congrArg (fun j' => (linesT p)[j' + j]?) HNG.out) (line_t hXl))
        have hsu := atL_succ hli
        obtain ⟨⟨nm, ls⟩, lv⟩ := X
        unfold nmPair at d0 d1
        simp only at d0 d1 rX hXf hsu
        obtain ⟨A2, c2, rfl⟩ := rX.shape
        obtain ⟨n2, hn2⟩ : ∃ n, n = ls.length := ⟨_, rfl⟩
        rw [← hn2] at d1 rX
        have hl2 : n2 ≤ 64 := by have := hXf.2.2; omega
        have hnm := hXf.1.name
        simp only at hnm
        have HN2 := Lib.hid hn2
        have HRX := Lib.hid rX
        have HXf := Lib.hid hXf
        have HSu := Lib.hid hsu
        have hb := atL_bound HS.out (NG + j)
        obtain ⟨t, htt⟩ : ∃ t, t = ofL (atL p (NG + j)) := ⟨_, rfl⟩
        rw [← htt] at hb ⊢
        have HT : RowKit.Hid (t.data.toList = atL p (NG + j)) := Lib.hid (by rw [htt]; rfl)
        clear hlx hkl hX hXl hcx hc rX hXf hn2 hli hsu htt
        have bx := boxed wo (.cells #[.string ⟨#[]⟩, .slice none 0 0] 46)
        have HPx := HQ.out.alloc (.cells #[.string ⟨#[]⟩, .slice none 0 0] 46)
        have b0 := HPx.cell 0
        have b1 := HPx.cell 1
        simp at b0 b1
        have e0 := below_cell' d0 bx
        have e1 := below_cell' d1 bx
        go_upto_region 11 with fail
        clear b0 b1 e0 e1 HPx bx
        have M1 := Lib.hid (Blk.new wo 46 #[.string nm, .slice A2 n2 c2])
        have q1 := boxed wo (.cells #[.string nm, .slice A2 n2 c2] 46)
        have HB1 := Lib.hid (after HB.out q1)
        have HQ1 := Lib.hid (HQ.out.below q1 HQ.out.lt)
        generalize wo.alloc (.cells #[.string nm, .slice A2 n2 c2] 46) = w5 at M1 HB1 HQ1 q1 ⊢
        generalize wo.heap.size = M at M1 ⊢
        clear q1 HB HQ d0 d1 p0 p1
        have m0 := M1.out.cell 0
        have m1 := M1.out.cell 1
        simp at m0 m1
        have z0 : ¬ 9223372036854775807 < t.size + 4 := by omega
        have z1 : ¬ 9223372036854775807 < t.size + 4 + nm.size := by omega
        have z2 : ¬ 9223372036854775807 < t.size + 4 + nm.size + 2 := by omega
        go_wp2_with fail
        clear m0 m1 z0 z1 z2
        have HT0 : RowKit.Hid ((t ++ ⟨#[116, 97, 103, 32]⟩ ++ nm ++ ⟨#[32, 61]⟩).data.toList = atL p (NG + j) ++ nmAt W_tag.data.toList ⟨nm, ls⟩ 0) := Lib.hid (by simp only [app_list]; rw [HT.out]; unfold nmAt tailW; simp [W_tag])
        have hb0 : (t ++ ⟨#[116, 97, 103, 32]⟩ ++ nm ++ ⟨#[32, 61]⟩).size ≤ 300000000000 := by simp only [ByteArray.size_append]; show t.size + 4 + nm.size + 2 ≤ _; omega
        generalize t ++ ⟨#[116, 97, 103, 32]⟩ ++ nm ++ ⟨#[32, 61]⟩ = t0 at HT0 hb0 ⊢
        go_loopw [3, 7] (fun v3 v7 wr => ∃ (i : Nat) (t : ByteArray), i ≤ n2 ∧ t.size ≤ 300000000000 + 3000000 * i ∧ v3 = .string t ∧ v7 = .int .i64 (i : Int) ∧ RowKit.Hid (t.data.toList = atL p (NG + j) ++ nmAt W_tag.data.toList ⟨nm, ls⟩ i) ∧ RowKit.Hid (Below w.heap.size w wr) ∧ RowKit.Hid (Blk wr Q 26 #[.slice Ag NG cg, .slice (some ⟨q, o, none⟩) NT ct, .slice Ah NH ch, .slice Aa NA ca]) ∧ RowKit.Hid (Blk wr M 46 #[.string nm, .slice A2 n2 c2])) (fun _ v7 _ => n2 - (intOf v7).toNat)
        case atStart => exact ⟨0, t0, Nat.zero_le _, by omega, rfl, rfl, HT0, HB1, HQ1, M1⟩
        case round =>
          clear HB1 HQ1 M1 HT0 HT
          obtain ⟨i, t, hi, ht, rfl, rfl, HT, HB, HQ, M1⟩ := hrel
          have m1 := M1.out.cell 1
          simp at m1
          by_cases hlt2 : i < n2
          · have hkl : i < ls.length := by have := HN2.out; omega
            obtain ⟨q2, o2, rfl, hc2⟩ := HRX.out.cell HB.out (by omega)
            have hsl : ls[i]? = some ls[i] := List.getElem?_eq_getElem hkl
            have hsf := HXf.out.1.all _ (List.getElem_mem hkl)
            have hst := nmAt_succ (W := W_tag.data.toList) (n := ⟨nm, ls⟩) hsl
            have ds := hc2 _ _ (strCells_at hsl)
            generalize ls[i] = s at ds hsf hst
            have HT2 : RowKit.Hid ((t ++ ⟨#[32]⟩ ++ s).data.toList = atL p (NG + j) ++ nmAt W_tag.data.toList ⟨nm, ls⟩ (i + 1)) := Lib.hid (by rw [hst]; simp only [app_list]; rw [HT.out]; simp)
            have z0 : ¬ 9223372036854775807 < t.size + 1 := by omega
            have z1 : ¬ 9223372036854775807 < t.size + 1 + s.size := by omega
            clear hc2 hsl hst hkl
            go_wp2_with fail
            go_roundw
            case rel => exact ⟨i + 1, t ++ ⟨#[32]⟩ ++ s, by omega, (by simp only [ByteArray.size_append]; show t.size + 1 + s.size ≤ _; omega), rfl, by go_num, HT2, HB, HQ, M1⟩
            case measure => simp [intOf]; omega
          · obtain rfl : n2 = i := by omega
            have hT := HT.out
            rw [nmAt_all (by show ls.length ≤ _; have := HN2.out; omega)] at hT
            have HL : RowKit.Hid (t ++ ⟨#[10]⟩ = ofL (atL p ((NG + j) + 1))) := Lib.hid (ofL_of (by rw [HSu.out, app_list, hT]; unfold lineT; simp))
            have z0 : ¬ 9223372036854775807 < t.size + 1 := by omega
            clear hT HT
            go_wp2_with fail
            go_roundw
            case rel => exact ⟨(NG + j) + 1, by omega, by go_num, Lib.hid (congrArg Value.string HL.out), HB, HQ⟩
            case measure => simp [intOf]; omega
    obtain rfl : NG + NT = k := by omega
    have p2 := HQ.out.cell 2
    simp at p2
    go_wp2_with fail
    clear p0 p1 p2
    have HV0 : RowKit.Hid (Value.string (ofL (atL p (NG + NT))) = .string (ofL (atL p (NG + NT + 0)))) := Lib.hid rfl
    go_loopw [3, 8] (fun v3 v8 wr => ∃ k : Nat, k ≤ NH ∧ v8 = .int .i64 (k : Int) ∧ RowKit.Hid (v3 = .string (ofL (atL p (NG + NT + k)))) ∧ RowKit.Hid (Below w.heap.size w wr) ∧ RowKit.Hid (Blk wr Q 26 #[.slice Ag NG cg, .slice At NT ct, .slice Ah NH ch, .slice Aa NA ca])) (fun _ v8 _ => NH - (intOf v8).toNat)
    case atStart => exact ⟨0, Nat.zero_le _, rfl, HV0, HB, HQ⟩
    case round =>
      clear HB HQ HV0
      obtain ⟨k, hk, rfl, HV, HB, HQ⟩ := hrel
      have hv := HV.out
      subst hv
      clear HV
      have p2 := HQ.out.cell 2
      simp at p2
      by_cases hlt : k < NH
      case pos =>
        obtain ⟨wo, rfl⟩ : ∃ wo : World, wo = wr := ⟨_, rfl⟩
        have hkl : k < p.hosts.length := by have := HNH.out; omega
        obtain ⟨q, o, rfl, hc⟩ := HRh.out.cell HB.out (by omega)
        have hXl : p.hosts[k]? = some p.hosts[k] := List.getElem?_eq_getElem hkl
        have hXf := HS.out.h _ (List.getElem_mem hkl)
        generalize p.hosts[k] = X at hXl hXf
        obtain ⟨e0, e1, e2, e3, e4⟩ := hsCells_at p.hosts k X hXl
        have d0 := hc _ _ e0
        have d1 := hc _ _ e1
        have d2 := hc _ _ e2
        have d3 := hc _ _ e3
        have d4 := hc _ _ e4
        rw [← Nat.add_assoc] at d1 d2 d3 d4
        have hli := line_h hXl
        have hsu := atL_succ hli
        rw [← HNG.out, ← HNT.out] at hsu
        have hpt := fun u (hu : Below w.heap.size w u) => rprefixText_any (HEnv.out.below hu) X.net hXf.2
        have hps := ptextB_size X.net hXf.2
        have hj := hs_join X
        have hpb : ptext X.net = (ptextB X.net).data.toList := rfl
        obtain ⟨x1, ⟨⟨x2, x3, x4⟩, x5⟩⟩ := X
        unfold Pf.cells at hpt
        simp only at d0 d1 d2 d3 d4 hpt hXf hps hsu hj hpb
        rw [hpb] at hj
        generalize ptextB ⟨⟨x2, x3, x4⟩, x5⟩ = PT at hpt hps hj
        have hnm := hXf.1
        have HPt := Lib.hid hpt
        have HSu := Lib.hid hsu
        have HJ := Lib.hid hj
        have hb := atL_bound HS.out (NG + NT + k)
        obtain ⟨t, htt⟩ : ∃ t, t = ofL (atL p (NG + NT + k)) := ⟨_, rfl⟩
        rw [← htt] at hb ⊢
        have HT : RowKit.Hid (t.data.toList = atL p (NG + NT + k)) := Lib.hid (by rw [htt]; rfl)
        have HL : RowKit.Hid (t ++ ⟨#[104, 111, 115, 116, 32]⟩ ++ x1 ++ ⟨#[32, 61, 32]⟩ ++ PT ++ ⟨#[10]⟩ = ofL (atL p (NG + NT + k + 1))) := Lib.hid (ofL_of (by rw [show NG + NT + k + 1 = NG + NT + k + 1 from rfl, HSu.out]; unfold lineT; rw [HJ.out]; simp only [app_list]; rw [HT.out]; simp [W_host]))
        have z0 : ¬ 9223372036854775807 < t.size + 5 := by omega
        have z1 : ¬ 9223372036854775807 < t.size + 5 + x1.size := by omega
        have z2 : ¬ 9223372036854775807 < t.size + 5 + x1.size + 3 := by omega
        have z3 : ¬ 9223372036854775807 < t.size + 5 + x1.size + 3 + PT.size := by omega
        have z4 : ¬ 9223372036854775807 < t.size + 5 + x1.size + 3 + PT.size + 1 := by omega
        clear hXf hpt hps hsu hj hpb hli hXl hkl hc e0 e1 e2 e3 e4 htt hb
        go_upto_region 20 with fail
        refine wp_region_held_drew (S := (fun w' => w'.cell? ⟨Q, 2, none⟩ = some (.slice (some ⟨q, o, none⟩) NH ch) ∧ w'.cell? ⟨q, o + k * 5, none⟩ = some (.string x1) ∧ w'.cell? ⟨q, o + k * 5 + 1, none⟩ = some (.bool x2) ∧ w'.cell? ⟨q, o + k * 5 + 2, none⟩ = some (.int .u64 (x3 : Int)) ∧ w'.cell? ⟨q, o + k * 5 + 3, none⟩ = some (.int .u64 (x4 : Int)) ∧ w'.cell? ⟨q, o + k * 5 + 4, none⟩ = some (.int .u8 (x5 : Int)))) (by kernel_rfl) (⟨p2, d0, d1, d2, d3, d4⟩) (fun hHeld => ?_)
        refine tH 0 ?_; try simp only [Ap]
        refine tH 1 ?_; try simp only [Ap]
        refine tH 2 ?_; try simp only [Ap]
        refine tH 3 ?_; try simp only [Ap]
        refine tH 4 ?_; try simp only [Ap]
        refine tH 5 ?_; try simp only [Ap]
        refine tH 6 ?_; try simp only [Ap]
        refine tH 7 ?_; try simp only [Ap]
        refine tH 8 ?_; try simp only [Ap]
        refine tH 9 ?_; try simp only [Ap]
        refine tH 10 ?_; try simp only [Ap]
        refine tH 11 ?_; try simp only [Ap]
        refine tH 12 ?_; try simp only [Ap]
        refine tH 13 ?_; try simp only [Ap]
        refine tH 14 ?_; try simp only [Ap]
        refine tH 15 ?_; try simp only [Ap]
        refine wpAnyH_ready (rs := [16]) (by kernel_rfl) (by simp) ?_
        refine AllReadyH.cons rfl (fun K hK => ?_) AllReadyH.nil
        go_simp
        refine (HPt.out _ HB.out.drew).mono ?_
        rintro r wb ⟨rfl, db⟩
        have eb : Below wo.heap.size wo wb := ⟨db.os, db.tape, db.output, db.size, db.block⟩
        clear db
        refine hK.out _ _ (⟨below_cell' p2 eb, below_cell' d0 eb, below_cell' d1 eb, below_cell' d2 eb, below_cell' d3 eb, below_cell' d4 eb⟩) (fun hHeld => ?_)
        clear hK K
        try simp only [Ap]
        refine tH 17 ?_; try simp only [Ap]
        refine tH 18 ?_; try simp only [Ap]
        refine tH 19 ?_; try simp only [Ap]
        refine wpAnyH_done (by kernel_rfl) ?_ _
        go_wp2_with fail
        go_roundw
        case rel =>
          (repeat apply Exists.intro)
          refine And.intro ?rr ?eqs
          case eqs => (repeat' (first | exact rfl | apply And.intro))
          exact ⟨k + 1, by omega, by go_num, Lib.hid (congrArg Value.string HL.out), Lib.hid (after HB.out eb), Lib.hid (HQ.out.below eb HQ.out.lt)⟩
        case measure => simp [intOf]; omega
      obtain rfl : NH = k := by omega
      have p3 := HQ.out.cell 3
      simp at p3
      go_wp2_with fail
      clear p2 p3
      have HV0 : RowKit.Hid (Value.string (ofL (atL p (NG + NT + NH))) = .string (ofL (atL p (NG + NT + NH + 0)))) := Lib.hid rfl
      go_loopw [3, 9] (fun v3 v8 wr => ∃ k : Nat, k ≤ NA ∧ v8 = .int .i64 (k : Int) ∧ RowKit.Hid (v3 = .string (ofL (atL p (NG + NT + NH + k)))) ∧ RowKit.Hid (Below w.heap.size w wr) ∧ RowKit.Hid (Blk wr Q 26 #[.slice Ag NG cg, .slice At NT ct, .slice Ah NH ch, .slice Aa NA ca])) (fun _ v8 _ => NA - (intOf v8).toNat)
      case atStart => exact ⟨0, Nat.zero_le _, rfl, HV0, HB, HQ⟩
      case round =>
        clear HB HQ HV0
        obtain ⟨k, hk, rfl, HV, HB, HQ⟩ := hrel
        have hv := HV.out
        subst hv
        clear HV
        have p3 := HQ.out.cell 3
        simp at p3
        by_cases hlt : k < NA
        case pos =>
          have hlx := congrArg List.length HXs.out
          rw [List.length_map] at hlx
          obtain ⟨X, hX⟩ : ∃ X, xs[k]? = some X := ⟨_, List.getElem?_eq_getElem (by have := HNA.out; omega)⟩
          have hXl : p.acls[k]? = some X.a := by rw [← HXs.out, List.getElem?_map, hX]; rfl
          obtain ⟨q, o, rfl, hc⟩ := HRa.out.cell HB.out (by omega)
          obtain ⟨e0, e1, e2, e3⟩ := acCells_at xs k X hX
          have d0 := hc _ _ e0
          have d1 := hc _ _ e1
          have d2 := hc _ _ e2
          have d3 := hc _ _ e3
          rw [← Nat.add_assoc] at d1 d2 d3
          have hxm := HIn.out X (List.mem_of_getElem? hX)
          have hXs := HS.out.a X.a (List.mem_of_getElem? hXl)
          have hkd := HKd.out X.a (List.mem_of_getElem? hXl)
          have hsu := atL_succ (line_a hXl)
          rw [← HNG.out, ← HNT.out, ← HNH.out] at hsu
          have hln := (ac_line hXs).join
          have hcall := racl_any (HEnv.out.below HB.out) X (hxm.below HB.out) hXs hkd.1 hkd.2
          have hjl : Lib.join (aclT X.a) [32] = (ofL (Lib.join (aclT X.a) [32])).data.toList := rfl
          have hjs : (ofL (Lib.join (aclT X.a) [32])).size ≤ 700000000 := by show (Lib.join (aclT X.a) [32]).toArray.size ≤ _; simpa using hln
          unfold lineT at hsu
          rw [hjl] at hsu
          generalize ofL (Lib.join (aclT X.a) [32]) = L at hcall hjs hsu
          obtain ⟨A1, c1, f1⟩ := hxm.p.shape
          obtain ⟨A2, c2, f2⟩ := hxm.s.shape
          obtain ⟨A3, c3, f3⟩ := hxm.d.shape
          obtain ⟨A4, c4, f4⟩ := hxm.o.shape
          rw [f1] at d0 hcall
          rw [f2] at d1 hcall
          rw [f3] at d2 hcall
          rw [f4] at d3 hcall
          generalize X.a.protos.length = n1 at d0 hcall
          generalize X.a.src.length = n2 at d1 hcall
          generalize X.a.dst.length = n3 at d2 hcall
          generalize X.a.ports.length = n4 at d3 hcall
          have HC := Lib.hid hcall
          have HSu := Lib.hid hsu
          have hb := atL_bound HS.out (NG + NT + NH + k)
          obtain ⟨t, htt⟩ : ∃ t, t = ofL (atL p (NG + NT + NH + k)) := ⟨_, rfl⟩
          rw [← htt] at hb ⊢
          have HT : RowKit.Hid (t.data.toList = atL p (NG + NT + NH + k)) := Lib.hid (by rw [htt]; rfl)
          have HL : RowKit.Hid (t ++ L ++ ⟨#[10]⟩ = ofL (atL p (NG + NT + NH + k + 1))) := Lib.hid (ofL_of (by rw [HSu.out]; simp only [app_list]; rw [HT.out]; simp))
          have z0 : ¬ 9223372036854775807 < t.size + L.size := by omega
          have z1 : ¬ 9223372036854775807 < t.size + L.size + 1 := by omega
          clear hlx hX hXl hc e0 e1 e2 e3 hxm hXs hkd hsu hln hcall hjl hjs f1 f2 f3 f4 htt hb
          go_wp2_with (go_at_call 70; (with_reducible refine HC.out.mono ?_); rintro r w5 ⟨rfl, e⟩)
          go_roundw
          case rel =>
            (repeat apply Exists.intro)
            refine And.intro ?rr2 ?eqs2
            case eqs2 => (repeat' (first | exact rfl | apply And.intro))
            exact ⟨k + 1, by omega, by go_num, Lib.hid (congrArg Value.string HL.out), Lib.hid (after HB.out e), Lib.hid (HQ.out.below e HQ.out.lt)⟩
          case measure => simp [intOf]; omega
        obtain rfl : NA = k := by omega
        have HE : RowKit.Hid (ofL (atL p (NG + NT + NH + NA)) = OUT) := Lib.hid (by rw [HO.out, atL_all p (by rw [lines_len]; have := HNG.out; have := HNT.out; have := HNH.out; have := HNA.out; omega)])
        go_wp2_with fail
        go_ret
        exact ⟨by rw [← HE.out]; rfl, HB.out⟩

set_option maxHeartbeats 8000000 in
set_option maxRecDepth 100000 in
theorem rtextP_any {w : World} (env : Env w) {V : PoV} {p : Po} (h : PoRd w V p) (hf : PoFit p) (kg : CapOk V.g) (kt : CapOk V.t) (kh : CapOk V.h) :
    Calls Tryz.prog 13 #[.agg #[V.g, V.t, V.h, V.a]] w (Got (textR p) w) := by
  obtain ⟨R, hR⟩ : ∃ r, r = textR p := ⟨_, rfl⟩
  rw [← hR]
  have hmay := fun (u : World) (hu : Below w.heap.size w u) => rmay_any (h.below hu) hf kg kt kh
  have hall := fun (u : World) (hu : Below w.heap.size w u) (hm : mayP p = true) => rall_any (env.below hu) (h.below hu) hf hm
  have hbd : mayP p = true → (ofL (textP p)).size ≤ 200000000000 := fun hm => by
    have := atL_bound (hf.small hm) (linesT p).length
    rwa [atL_all p (Nat.le_refl _)] at this
  unfold textR at hR
  have hsz : (ofL (textP p)).size = (textP p).length := by show (textP p).toArray.size = _; simp
  rw [← hsz] at hR
  generalize ofL (textP p) = T at hR hall hbd
  obtain ⟨gv, tv, hv, av⟩ := V
  obtain ⟨Ag, cg, eg⟩ := h.g.shape
  obtain ⟨At, ct, et⟩ := h.t.shape
  obtain ⟨Ah, ch, eh⟩ := h.h.shape
  obtain ⟨Aa, ca, ea⟩ := h.a.shape
  simp only at eg et eh ea hmay hall ⊢
  subst eg et eh ea
  generalize p.groups.length = NG at *
  generalize p.tags.length = NT at *
  generalize p.hosts.length = NH at *
  generalize p.acls.length = NA at *
  obtain ⟨MP, hMP⟩ : ∃ b, b = mayP p := ⟨_, rfl⟩
  rw [← hMP] at hmay hall hR hbd
  have HMay := Lib.hid hmay
  have HAll := Lib.hid hall
  have HR := Lib.hid hR
  clear h hf kg kt kh hmay hall hR env hMP hsz
  have HQ := Lib.hid (Blk.new w 26 #[.slice Ag NG cg, .slice At NT ct, .slice Ah NH ch, .slice Aa NA ca])
  have HB := Lib.hid (boxed w (.cells #[.slice Ag NG cg, .slice At NT ct, .slice Ah NH ch, .slice Aa NA ca] 26))
  go_enter Tryz.func13, Tryz.ntmps13
  go_upto_region 1 with fail
  generalize w.alloc (.cells #[.slice Ag NG cg, .slice At NT ct, .slice Ah NH ch, .slice Aa NA ca] 26) = w1 at HQ HB ⊢
  generalize w.heap.size = Q at HQ ⊢
  have p0 := HQ.out.cell 0
  have p1 := HQ.out.cell 1
  have p2 := HQ.out.cell 2
  have p3 := HQ.out.cell 3
  simp at p0 p1 p2 p3
  cases MP with
  | false =>
    have HRf : RowKit.Hid (R = .tuple #[.string ⟨#[]⟩, .int .i64 2]) := Lib.hid (by rw [HR.out]; rfl)
    go_wp2_with (go_at_call 34; (with_reducible refine (HMay.out _ HB.out).mono ?_); rintro r w2 ⟨rfl, d2⟩)
    go_ret2
    exact ⟨by rw [HRf.out]; rfl, after HB.out d2⟩
  | true =>
  have hb := hbd rfl
  by_cases h8 : T.size ≤ 8192
  · have q8 : ¬ (8192 : Int) < (T.size : Int) := by omega
    have HRt : RowKit.Hid (R = .tuple #[.string T, .int .i64 0]) := Lib.hid (by rw [HR.out, if_pos rfl, if_pos h8])
    clear h8
    go_upto_region 3 with (go_at_call 34; (with_reducible refine (HMay.out _ HB.out).mono ?_); rintro r w2 ⟨rfl, d2⟩; have HB2 := Lib.hid (after HB.out d2); have Q2 := HQ.out.below d2 HQ.out.lt; have f0 := Q2.cell 0; have f1 := Q2.cell 1; have f2 := Q2.cell 2; have f3 := Q2.cell 3; simp at f0 f1 f2 f3)
    go_wp2_with fail
    go_at_call 35
    refine (HAll.out _ HB2.out (by simp)).mono ?_
    rintro r w3 ⟨rfl, d3⟩
    have HB3 := Lib.hid (after HB2.out d3)
    go_wp2_with fail
    go_ret2
    exact ⟨by rw [HRt.out]; rfl, HB3.out⟩
  · have q8 : (8192 : Int) < (T.size : Int) := by omega
    have HRt : RowKit.Hid (R = .tuple #[.string ⟨#[]⟩, .int .i64 4]) := Lib.hid (by rw [HR.out, if_pos rfl, if_neg h8])
    clear h8
    go_wp2_with (first
      | (go_at_call 34; (with_reducible refine (HMay.out _ HB.out).mono ?_); rintro r w2 ⟨rfl, d2⟩; have HB2 := Lib.hid (after HB.out d2); have Q2 := HQ.out.below d2 HQ.out.lt; have f0 := Q2.cell 0; have f1 := Q2.cell 1; have f2 := Q2.cell 2; have f3 := Q2.cell 3; simp at f0 f1 f2 f3)
      | (go_at_call 35; (refine (HAll.out _ HB2.out (by simp)).mono ?_); rintro r w3 ⟨rfl, d3⟩; have HB3 := Lib.hid (after HB2.out d3)))
    go_ret2
    exact ⟨by rw [HRt.out]; rfl, HB3.out⟩
end Go.Proofs.YtbiglifngfgffaaGreatDoor
