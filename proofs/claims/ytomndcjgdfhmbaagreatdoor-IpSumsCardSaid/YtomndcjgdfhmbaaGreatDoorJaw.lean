/- Joined out of: LwD. -/
import Derived.Test.YtomndcjgdfhmbaaGreatDoorJas
import Derived.Test.YtomndcjgdfhmbaaGreatDoorJar
import Derived.BigRegion
import Derived.PlainAid
import Derived.Deep.Onto
import Derived.Deep.CutBlock
set_option linter.unusedVariables false
set_option linter.unusedSimpArgs false

/- IpSums: the walk. (Printed by lw_sums.py.) -/
namespace Go.Proofs.YtomndcjgdfhmbaaGreatDoor
open Go.RowKit

def twoB (X : Nat) : ByteArray := ⟨#[UInt8.ofNat (X / 256), UInt8.ofNat (X % 256)]⟩
theorem u8_nat {x : Nat} (h : x < 256) : (UInt8.ofNat x).toNat = x := by
  rw [UInt8.toNat_ofNat']
  omega
theorem ofNat_int {x : Nat} (h : x < 256) : ((UInt8.ofNat x).toNat : Int) = (x : Int) := by
  rw [u8_nat h]
theorem conv2 (w1 : World) (X : Nat) (hX : X < 65536) : (convert 49 9 (.slice (some ⟨w1.heap.size, 0, none⟩) 2 2)).run Tryz.prog (w1.alloc (.cells #[.int .u8 ((X : Int) / 256), .int .u8 ((X : Int) % 256)] 5)) = .ok (.string (twoB X)) (w1.alloc (.cells #[.int .u8 ((X : Int) / 256), .int .u8 ((X : Int) % 256)] 5)) := by
  have e : (#[.int .u8 ((X : Int) / 256), .int .u8 ((X : Int) % 256)] : Array Value) = (Lib.byteCells [UInt8.ofNat (X / 256), UInt8.ofNat (X % 256)]).toArray := by
    unfold Lib.byteCells
    simp only [List.map_cons, List.map_nil]
    rw [ofNat_int (show X / 256 < 256 by omega), ofNat_int (show X % 256 < 256 by omega)]
    rfl
  have hB : Bts (w1.alloc (.cells #[.int .u8 ((X : Int) / 256), .int .u8 ((X : Int) % 256)] 5)) w1.heap.size 5 [UInt8.ofNat (X / 256), UInt8.ofNat (X % 256)] := by
    unfold Bts
    rw [← e]
    exact Blk.new w1 _ _
  exact hB.conv 2 2 rfl
theorem nats_two {X : Nat} (hX : X < 65536) : nats (twoB X) = [X / 256, X % 256] := by
  unfold nats twoB
  simp only [List.map_cons, List.map_nil]
  rw [u8_nat (show X / 256 < 256 by omega), u8_nat (show X % 256 < 256 by omega)]
theorem nats_app (a b : ByteArray) : nats (a ++ b) = nats a ++ nats b := by unfold nats; simp
theorem sumB_lt (S : ByteArray) : sumB S < 65536 := by unfold sumB sum16; omega
theorem sum_p1 {S : ByteArray} (h : S.size % 2 = 0) : sumB (S ++ twoB (sumB S)) = 0 := by
  show sum16 (nats (S ++ twoB (sumB S))) = 0
  rw [nats_app, nats_two (sumB_lt S)]
  exact sum_behind (by rw [nats_length]; exact h)
theorem sum_p2 {S : ByteArray} (h : S.size % 2 = 0) : sumB (twoB (sumB S) ++ S) = 0 := by
  show sum16 (nats (twoB (sumB S) ++ S)) = 0
  rw [nats_app, nats_two (sumB_lt S)]
  exact sum_ahead (nats S)
theorem sum_p3 {S : ByteArray} (h : S.size % 2 = 0) (k : Nat) (hk : k % 2 = 0) (hkl : k ≤ S.size) : sumB (S.extract k S.size ++ S.extract 0 k) = sumB S := by
  unfold sumB
  have e1 : nats (S.extract k S.size) = (nats S).drop k := by
    unfold nats
    rw [ByteArray.data_extract, Array.toList_extract, List.extract_eq_take_drop, List.map_take, List.map_drop]
    exact List.take_of_length_le (by rw [List.length_drop, List.length_map, Array.length_toList]; exact Nat.le_refl _)
  have e2 : nats (S.extract 0 k) = (nats S).take k := by
    unfold nats
    rw [ByteArray.data_extract, Array.toList_extract, List.extract_eq_take_drop, List.map_take, List.map_drop]
    simp
  rw [nats_app, e1, e2]
  exact sum_turned (by rw [nats_length]; exact h) hk (by rw [nats_length]; exact hkl)
theorem sum_p4 {S : ByteArray} (h : S.size % 2 = 0) : sumB (S ++ ⟨#[0, 0]⟩) = sumB S := by
  unfold sumB
  rw [nats_app]
  exact sum_noughts (by rw [nats_length]; exact h)

theorem wrap64_nat {K : Nat} (h : K < 9223372036854775808) : wrap64 (K : Int) = (K : Int) := by
  rw [← IntWalk.i64_left, IntKind.wrap_i64]
  omega

set_option maxHeartbeats 8000000 in
set_option maxRecDepth 100000 in
theorem sums_any {w : World} (env : Env w) (s : ByteArray) (n : Nat) (hn : n < 256) : Calls Tryz.prog 6 #[.string s, .int .u8 (n : Int)] w (Got (.bool true) w) := by
  have HWK := Lib.hid fun v (hv : Below w.heap.size w v) => works_any (env.below hv)
  have hb0 := Below.refl w.heap.size w
  clear env
  by_cases hbig : s.size ≤ 4096
  · have q1 : ¬ (4096 : Int) < (s.size : Int) := by omega
    by_cases hodd : s.size % 2 = 1
    · have q2 : ((s.size : Int) % 2 == 1) = true := by simp; omega
      have q3 : ¬ 9223372036854775807 < s.size + 1 := by omega
      have hSe : (s ++ ⟨#[0]⟩ : ByteArray).size % 2 = 0 := by rw [ByteArray.size_append]; show (s.size + 1) % 2 = 0; omega
      have hSs : (s ++ ⟨#[0]⟩ : ByteArray).size ≤ 4097 := by rw [ByteArray.size_append]; show s.size + 1 ≤ _; omega
      go_enter Tryz.func6, Tryz.ntmps6
      go_upto_region 5 with fail
      generalize s ++ ⟨#[0]⟩ = S at hSe hSs ⊢
      clear q1 q2 q3 hodd
      have hX : sumB S < 65536 := sumB_lt S
      have h1 := fun v => sum_any S (by omega) v
      have h2 := fun v => sum_any (S ++ twoB (sumB S)) (by rw [ByteArray.size_append]; show S.size + 2 ≤ _; omega) v
      have h3 := fun v => sum_any (twoB (sumB S) ++ S) (by rw [ByteArray.size_append]; show 2 + S.size ≤ _; omega) v
      have h4 := fun v => sum_any (S ++ ⟨#[0, 0]⟩) (by rw [ByteArray.size_append]; show S.size + 2 ≤ _; omega) v
      rw [sum_p1 hSe] at h2
      rw [sum_p2 hSe] at h3
      rw [sum_p4 hSe] at h4
      have htw : (twoB (sumB S)).size = 2 := rfl
      obtain ⟨K, hK⟩ : ∃ K, K = if 0 < S.size then n % (S.size / 2) * 2 else 0 := ⟨_, rfl⟩
      have hK2 : K % 2 = 0 := by rw [hK]; split <;> omega
      have hKl : K ≤ S.size := by
        rw [hK]
        split
        · have := Nat.mod_lt n (show 0 < S.size / 2 by omega)
          omega
        · omega
      have h5 := fun v => sum_any (S.extract K S.size ++ S.extract 0 K) (by rw [ByteArray.size_append, ByteArray.size_extract, ByteArray.size_extract]; omega) v
      rw [sum_p3 hSe K hK2 hKl] at h5
      have e1 : (S.extract K S.size).size = S.size - K := by rw [ByteArray.size_extract]; omega
      have e2 : (S.extract 0 K).size = K := by rw [ByteArray.size_extract]; omega
      have z1 : ¬ 9223372036854775807 < S.size - K + K := by omega
      have z2 : ¬ 9223372036854775807 < S.size + 2 := by omega
      have z3 : ¬ 9223372036854775807 < 2 + S.size := by omega
      have hcv := fun w1 => conv2 w1 (sumB S) hX
      generalize twoB (sumB S) = T at h2 h3 htw hcv
      generalize sumB S = X at h1 h4 h5 hX hcv
      have H1 := Lib.hid h1
      have H2 := Lib.hid h2
      have H3 := Lib.hid h3
      have H4 := Lib.hid h4
      have H5 := Lib.hid h5
      have HCV := Lib.hid hcv
      have Hcv0 := Lib.hid hbig
      clear h1 h2 h3 h4 h5 hcv hbig
      by_cases hpos : 0 < S.size
      case' pos =>
        rw [if_pos hpos] at hK
        have q5 : (0 : Int) < (S.size : Int) := by omega
        have hwr : wrap64 ((n : Int) % ((S.size : Int) / 2) * 2) = (K : Int) := by
          have e : (n : Int) % ((S.size : Int) / 2) * 2 = ((n % (S.size / 2) * 2 : Nat) : Int) := by push_cast; rfl
          rw [e, ← hK]
          exact wrap64_nat (by omega)
        clear hK
      case' neg =>
        rw [if_neg hpos] at hK
        have q5 : ¬ (0 : Int) < (S.size : Int) := by omega
        subst hK
      all_goals
        go_wp2_with (go_at_call 14; (with_reducible refine (H1.out _).mono ?_); rintro r w1 ⟨rfl, d1⟩; have hcv := HCV.out w1; have hv := after d1 (boxed w1 (.cells #[.int .u8 ((X : Int) / 256), .int .u8 ((X : Int) % 256)] 5)))
        go_region
        have Hv := Lib.hid hv.drew
        clear hv hcv d1
        go_wp2_with (first
          | (go_at_call 14; (with_reducible refine (H2.out _).mono ?_); rintro r w2 ⟨rfl, d2⟩; have Hv2 := Lib.hid (after Hv.out d2); clear d2)
          | (go_at_call 14; (with_reducible refine (H3.out _).mono ?_); rintro r w3 ⟨rfl, d3⟩; have Hv3 := Lib.hid (after Hv2.out d3); clear d3)
          | (go_at_call 14; (with_reducible refine (H5.out _).mono ?_); rintro r w4 ⟨rfl, d4⟩; have Hv4 := Lib.hid (after Hv3.out d4); clear d4)
          | (go_at_call 14; (with_reducible refine (H1.out _).mono ?_); rintro r w4 ⟨rfl, d4⟩; have Hv4 := Lib.hid (after Hv3.out d4); clear d4)
          | (go_at_call 14; (with_reducible refine (H4.out _).mono ?_); rintro r w5 ⟨rfl, d5⟩; have Hv5 := Lib.hid (after Hv4.out d5); clear d5)
          | (go_at_call 9; (with_reducible refine (HWK.out _ Hv5.out).mono ?_); rintro r w6 ⟨rfl, d6⟩; have Hv6 := Lib.hid (after Hv5.out d6); clear d6))
        go_ret
        exact ⟨rfl, Hv6.out⟩
    · have q2 : ((s.size : Int) % 2 == 1) = false := by simp; omega
      have hSe : s.size % 2 = 0 := by omega
      have hSs : s.size ≤ 4097 := by omega
      go_enter Tryz.func6, Tryz.ntmps6
      go_upto_region 5 with fail
      obtain ⟨S, rfl⟩ : ∃ S, S = s := ⟨_, rfl⟩
      clear q1 q2 hodd
      have hX : sumB S < 65536 := sumB_lt S
      have h1 := fun v => sum_any S (by omega) v
      have h2 := fun v => sum_any (S ++ twoB (sumB S)) (by rw [ByteArray.size_append]; show S.size + 2 ≤ _; omega) v
      have h3 := fun v => sum_any (twoB (sumB S) ++ S) (by rw [ByteArray.size_append]; show 2 + S.size ≤ _; omega) v
      have h4 := fun v => sum_any (S ++ ⟨#[0, 0]⟩) (by rw [ByteArray.size_append]; show S.size + 2 ≤ _; omega) v
      rw [sum_p1 hSe] at h2
      rw [sum_p2 hSe] at h3
      rw [sum_p4 hSe] at h4
      have htw : (twoB (sumB S)).size = 2 := rfl
      obtain ⟨K, hK⟩ : ∃ K, K = if 0 < S.size then n % (S.size / 2) * 2 else 0 := ⟨_, rfl⟩
      have hK2 : K % 2 = 0 := by rw [hK]; split <;> omega
      have hKl : K ≤ S.size := by
        rw [hK]
        split
        · have := Nat.mod_lt n (show 0 < S.size / 2 by omega)
          omega
        · omega
      have h5 := fun v => sum_any (S.extract K S.size ++ S.extract 0 K) (by rw [ByteArray.size_append, ByteArray.size_extract, ByteArray.size_extract]; omega) v
      rw [sum_p3 hSe K hK2 hKl] at h5
      have e1 : (S.extract K S.size).size = S.size - K := by rw [ByteArray.size_extract]; omega
      have e2 : (S.extract 0 K).size = K := by rw [ByteArray.size_extract]; omega
      have z1 : ¬ 9223372036854775807 < S.size - K + K := by omega
      have z2 : ¬ 9223372036854775807 < S.size + 2 := by omega
      have z3 : ¬ 9223372036854775807 < 2 + S.size := by omega
      have hcv := fun w1 => conv2 w1 (sumB S) hX
      generalize twoB (sumB S) = T at h2 h3 htw hcv
      generalize sumB S = X at h1 h4 h5 hX hcv
      have H1 := Lib.hid h1
      have H2 := Lib.hid h2
      have H3 := Lib.hid h3
      have H4 := Lib.hid h4
      have H5 := Lib.hid h5
      have HCV := Lib.hid hcv
      have Hcv0 := Lib.hid hbig
      clear h1 h2 h3 h4 h5 hcv hbig
      by_cases hpos : 0 < S.size
      case' pos =>
        rw [if_pos hpos] at hK
        have q5 : (0 : Int) < (S.size : Int) := by omega
        have hwr : wrap64 ((n : Int) % ((S.size : Int) / 2) * 2) = (K : Int) := by
          have e : (n : Int) % ((S.size : Int) / 2) * 2 = ((n % (S.size / 2) * 2 : Nat) : Int) := by push_cast; rfl
          rw [e, ← hK]
          exact wrap64_nat (by omega)
        clear hK
      case' neg =>
        rw [if_neg hpos] at hK
        have q5 : ¬ (0 : Int) < (S.size : Int) := by omega
        subst hK
      all_goals
        go_wp2_with (go_at_call 14; (with_reducible refine (H1.out _).mono ?_); rintro r w1 ⟨rfl, d1⟩; have hcv := HCV.out w1; have hv := after d1 (boxed w1 (.cells #[.int .u8 ((X : Int) / 256), .int .u8 ((X : Int) % 256)] 5)))
        go_region
        have Hv := Lib.hid hv.drew
        clear hv hcv d1
        go_wp2_with (first
          | (go_at_call 14; (with_reducible refine (H2.out _).mono ?_); rintro r w2 ⟨rfl, d2⟩; have Hv2 := Lib.hid (after Hv.out d2); clear d2)
          | (go_at_call 14; (with_reducible refine (H3.out _).mono ?_); rintro r w3 ⟨rfl, d3⟩; have Hv3 := Lib.hid (after Hv2.out d3); clear d3)
          | (go_at_call 14; (with_reducible refine (H5.out _).mono ?_); rintro r w4 ⟨rfl, d4⟩; have Hv4 := Lib.hid (after Hv3.out d4); clear d4)
          | (go_at_call 14; (with_reducible refine (H1.out _).mono ?_); rintro r w4 ⟨rfl, d4⟩; have Hv4 := Lib.hid (after Hv3.out d4); clear d4)
          | (go_at_call 14; (with_reducible refine (H4.out _).mono ?_); rintro r w5 ⟨rfl, d5⟩; have Hv5 := Lib.hid (after Hv4.out d5); clear d5)
          | (go_at_call 9; (with_reducible refine (HWK.out _ Hv5.out).mono ?_); rintro r w6 ⟨rfl, d6⟩; have Hv6 := Lib.hid (after Hv5.out d6); clear d6))
        go_ret
        exact ⟨rfl, Hv6.out⟩
  · have q1 : (4096 : Int) < (s.size : Int) := by omega
    clear hbig
    go_enter Tryz.func6, Tryz.ntmps6
    go_wp2_with (go_at_call 9; (with_reducible refine (HWK.out _ hb0).mono ?_); rintro r w2 ⟨rfl, d2⟩)
    go_ret
    exact ⟨rfl, d2⟩
end Go.Proofs.YtomndcjgdfhmbaaGreatDoor
