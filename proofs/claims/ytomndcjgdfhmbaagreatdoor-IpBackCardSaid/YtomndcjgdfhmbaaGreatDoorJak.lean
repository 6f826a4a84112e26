/- Joined out of: TwF TwG GsD. -/
import Derived.Test.YtomndcjgdfhmbaaGreatDoorJai
import Derived.Test.YtomndcjgdfhmbaaGreatDoorJaj
set_option linter.unusedVariables false
set_option linter.unusedSimpArgs false

/- Texts of addresses of IPv4, the document's: the walk. -/
namespace Go.Proofs.YtomndcjgdfhmbaaGreatDoor
open Go.RowKit

theorem str_app (x y : List UInt8) : (⟨x.toArray⟩ : ByteArray) ++ ⟨y.toArray⟩ = ⟨(x ++ y).toArray⟩ := by
  apply ByteArray.ext
  simp
theorem str_size (x : List UInt8) : (⟨x.toArray⟩ : ByteArray).size = x.length := by simp [ByteArray.size]

set_option maxHeartbeats 2000000 in
set_option maxRecDepth 100000 in
theorem rtext_v4 {w : World} (env : Env w) (a : Ad) (ok : a.Ok) (hm : a.may = true) (h6 : a.v6 = false) : Calls Tryz.prog 25 #[.agg a.cells] w (Got (.string ⟨(text4 a.lo).toArray⟩) w) := by
  have Hm := Lib.hid (rmayAddr_any a ok)
  rw [hm] at Hm
  have hl := ok.lo
  obtain ⟨v, x, l⟩ := a
  simp only at h6 hl
  subst h6
  unfold Ad.cells at *
  simp only at Hm ⊢
  clear hm ok
  obtain ⟨RV, hRV⟩ : ∃ r, r = text4 l := ⟨_, rfl⟩
  rw [← hRV]
  have HRV := Lib.hid hRV
  have Henv := Lib.hid env
  clear hRV env
  have hB0 := Blk.new w 24 #[.bool false, .int .u64 (x : Int), .int .u64 (l : Int)]
  have hb0 := boxed w (.cells #[.bool false, .int .u64 (x : Int), .int .u64 (l : Int)] 24)
  go_enter Tryz.func25, Tryz.ntmps25
  go_wp2_with (go_at_call 38; (with_reducible refine (Hm.out _).mono ?_); rintro r w1 ⟨rfl, g1⟩; have hb1 := after hb0 g1; have hB1 := hB0.below g1 hB0.lt; have a0 := hB1.cell 0; simp at a0)
  clear a0
  have HB1 := Lib.hid hB1
  have Hb1 := Lib.hid hb1
  clear hB0 hb0 hB1 hb1
  go_loopw [3, 4] (fun v i wr => ∃ k : Nat, k ≤ 4 ∧ i = .int .i64 ((3 : Int) - (k : Int)) ∧ v = .string ⟨(ref4 l k).toArray⟩ ∧ RowKit.Hid (Blk wr w.heap.size 24 #[.bool false, .int .u64 (x : Int), .int .u64 (l : Int)]) ∧ RowKit.Hid (Below w.heap.size w wr)) (fun _ i _ => (intOf i + 1).toNat)
  case atStart => exact ⟨0, by omega, rfl, rfl, HB1, Hb1⟩
  case round =>
    obtain ⟨k, hk, rfl, rfl, hB, hb⟩ := hrel
    have hsz := hB.out.lt
    by_cases hlt : k < 4
    · have hp := lo4_at l k hlt
      have hnx : ref4 l (k + 1) = ref4 l k ++ Lib.decDigits ((lo4 l).getD k 0) ++ (if k < 3 then [46] else []) := rfl
      rw [hp] at hnx
      have hsl := ref4_len l k
      clear hp
      have e1 : ((8 : Int) * ((3 : Int) - (k : Int))).toNat = 24 - 8 * k := by omega
      have e0 : (0 : Int) ≤ (3 : Int) - (k : Int) := by omega
      have e2 := shr_nat l (24 - 8 * k)
      have hy : l / 2 ^ (24 - 8 * k) < 18446744073709551616 := Nat.lt_of_le_of_lt (Nat.div_le_self _ _) hl
      have e3 := and255 _ hy
      generalize l / 2 ^ (24 - 8 * k) = Y at hnx e2 hy e3
      have hX : Y % 256 < 1000 := by omega
      have hX2 : Y % 256 < 256 := by omega
      generalize Y % 256 = X at hnx e3 hX hX2
      clear hy
      have hdl := decL_len X hX
      have HF := Lib.hid (itoa_any (w := wr) (Henv.out.below hb.out) X hX)
      have hn3 : k < 3 → (⟨(ref4 l (k + 1)).toArray⟩ : ByteArray) = (⟨(ref4 l k).toArray⟩ : ByteArray) ++ ⟨(Lib.decDigits X).toArray⟩ ++ ⟨#[46]⟩ := fun h => by rw [hnx, if_pos h]; apply ByteArray.ext; simp
      have hn4 : ¬ k < 3 → (⟨(ref4 l (k + 1)).toArray⟩ : ByteArray) = (⟨(ref4 l k).toArray⟩ : ByteArray) ++ ⟨(Lib.decDigits X).toArray⟩ := fun h => by rw [hnx, if_neg h]; apply ByteArray.ext; simp
      clear hnx
      obtain ⟨R1, hR1⟩ : ∃ r, r = (⟨(ref4 l (k + 1)).toArray⟩ : ByteArray) := ⟨_, rfl⟩
      rw [← hR1] at hn3 hn4
      have HR1 := Lib.hid hR1
      clear hR1
      generalize ref4 l k = R0 at hn3 hn4 hsl ⊢
      generalize Lib.decDigits X = D at hn3 hn4 hdl HF
      obtain ⟨S0, hS0⟩ : ∃ S, S = (⟨R0.toArray⟩ : ByteArray) := ⟨_, rfl⟩
      obtain ⟨SD, hSD⟩ : ∃ S, S = (⟨D.toArray⟩ : ByteArray) := ⟨_, rfl⟩
      rw [← hS0]
      rw [← hSD] at HF
      rw [← hS0, ← hSD] at hn3 hn4
      have z0 : S0.size ≤ 16 := by rw [hS0, str_size]; omega
      have zD : SD.size ≤ 3 := by rw [hSD, str_size]; omega
      have z1 : ¬ 9223372036854775807 < S0.size + SD.size := by omega
      have z2 : ¬ 9223372036854775807 < S0.size + SD.size + 1 := by omega
      have a2 := hB.out.cell 2
      simp at a2
      have Hn3 := Lib.hid hn3
      have Hn4 := Lib.hid hn4
      clear hn3 hn4 hS0 hSD hsl hdl
      by_cases h3 : k < 3
      · have h3' : (0 : Int) < (3 : Int) - (k : Int) := by omega
        go_wp2_with (go_at_call 46; (with_reducible refine HF.out.mono ?_); rintro r w2 ⟨rfl, g2⟩; have hB2 := Lib.hid (hB.out.below g2 hsz); have hb2 := Lib.hid (after hb.out g2); clear g2 a2)
        go_roundw
        case rel => exact ⟨k + 1, by omega, by congr 1; omega, by rw [← HR1.out, Hn3.out h3], hB2, hb2⟩
        case measure => simp [intOf]; omega
      · have h3' : ¬ (0 : Int) < (3 : Int) - (k : Int) := by omega
        go_wp2_with (go_at_call 46; (with_reducible refine HF.out.mono ?_); rintro r w2 ⟨rfl, g2⟩; have hB2 := Lib.hid (hB.out.below g2 hsz); have hb2 := Lib.hid (after hb.out g2); clear g2 a2)
        go_roundw
        case rel => exact ⟨k + 1, by omega, by congr 1; omega, by rw [← HR1.out, Hn4.out h3], hB2, hb2⟩
        case measure => simp [intOf]; omega
    · obtain rfl : k = 4 := by omega
      have e0 : ¬ (0 : Int) ≤ (3 : Int) - ((4 : Nat) : Int) := by omega
      go_wp2_with fail
      go_ret
      exact ⟨show Ending.returned (.string ⟨(ref4 l 4).toArray⟩) = _ by rw [HRV.out, ref4_text], hb.out⟩
end Go.Proofs.YtomndcjgdfhmbaaGreatDoor

/- Texts of addresses of IPv6, the document's: the walk. -/
namespace Go.Proofs.YtomndcjgdfhmbaaGreatDoor
open Go.RowKit

theorem and65535 (y : Nat) (hy : y < 18446744073709551616) : bits .and .u64 (y : Int) 65535 = ((y % 65536 : Nat) : Int) := by
  have h := u64_and_nat y 65535 hy (by decide)
  rw [show ((65535 : Nat) : Int) = 65535 from rfl] at h
  rw [h, show (65535 : Nat) = 2 ^ 16 - 1 from rfl, Nat.and_two_pow_sub_one_eq_mod]

set_option maxHeartbeats 4000000 in
set_option maxRecDepth 100000 in
theorem rtext_v6 {w : World} (env : Env w) (a : Ad) (ok : a.Ok) (h6 : a.v6 = true) : Calls Tryz.prog 25 #[.agg a.cells] w (Got (.string ⟨(text6 (pieceL a)).toArray⟩) w) := by
  have Hm := Lib.hid (rmayAddr_any a ok)
  rw [may6 h6] at Hm
  have hL8 := pieceL_length a
  have hL := pieceL_lt a
  have hP0 := fun k hk => piece_at a k hk
  unfold halfOf at hP0
  have hset := fun k hk => prow_set .u64 (pieceL a) k hk
  have hh := ok.hi
  have hl := ok.lo
  generalize pieceL a = L at hP0 hset hL8 hL ⊢
  have HL8 := Lib.hid hL8
  have HL := Lib.hid hL
  have HP := Lib.hid hP0
  have Hset := Lib.hid hset
  clear hL8 hL ok hset hP0
  obtain ⟨v, x, l⟩ := a
  simp only at h6 hh hl HP
  subst h6
  unfold Ad.cells at *
  simp only at Hm ⊢
  obtain ⟨RV, hRV⟩ : ∃ r, r = (⟨(text6 L).toArray⟩ : ByteArray) := ⟨_, rfl⟩
  rw [← hRV]
  have HRV := Lib.hid hRV
  have Henv := Lib.hid env
  clear hRV env
  have hB0 := Blk.new w 24 #[.bool true, .int .u64 (x : Int), .int .u64 (l : Int)]
  have hb0 := boxed w (.cells #[.bool true, .int .u64 (x : Int), .int .u64 (l : Int)] 24)
  go_enter Tryz.func25, Tryz.ntmps25
  go_wp2_with (go_at_call 38; (with_reducible refine (Hm.out _).mono ?_); rintro r w1 ⟨rfl, g1⟩; have hb1 := after hb0 g1; have hB1 := hB0.below g1 hB0.lt; have a0 := hB1.cell 0; simp at a0)
  have hR1 : Blk (w1.alloc (.cells #[.int .u64 0, .int .u64 0, .int .u64 0, .int .u64 0, .int .u64 0, .int .u64 0, .int .u64 0, .int .u64 0] 85)) w1.heap.size 85 (prow .u64 L 0) := by
    rw [prow_zero]
    exact Blk.new _ _ _
  have hB2 := hB1.alloc (.cells #[.int .u64 0, .int .u64 0, .int .u64 0, .int .u64 0, .int .u64 0, .int .u64 0, .int .u64 0, .int .u64 0] 85)
  have hb2 := after hb1 (boxed w1 (.cells #[.int .u64 0, .int .u64 0, .int .u64 0, .int .u64 0, .int .u64 0, .int .u64 0, .int .u64 0, .int .u64 0] 85))
  have hgw : w.heap.size ≤ w1.heap.size := hb1.size
  have hgw2 : w1.heap.size ≠ w.heap.size := by have := hB1.lt; omega
  generalize w1.alloc (.cells #[.int .u64 0, .int .u64 0, .int .u64 0, .int .u64 0, .int .u64 0, .int .u64 0, .int .u64 0, .int .u64 0] 85) = W0 at hR1 hB2 hb2 ⊢
  generalize w1.heap.size = g at hR1 hgw hgw2 ⊢
  have HR1 := Lib.hid hR1
  have HB2 := Lib.hid hB2
  have Hb2 := Lib.hid hb2
  clear a0 hB0 hb0 hB1 hb1 hR1 hB2 hb2
  go_loopw [6] (fun i wr => ∃ k : Nat, k ≤ 8 ∧ i = .int .i64 (k : Int) ∧ RowKit.Hid (Blk wr w.heap.size 24 #[.bool true, .int .u64 (x : Int), .int .u64 (l : Int)]) ∧ RowKit.Hid (Blk wr g 85 (prow .u64 L k)) ∧ RowKit.Hid (Below w.heap.size w wr)) (fun i _ => 8 - (intOf i).toNat)
  case atStart => exact ⟨0, by omega, rfl, HB2, HR1, Hb2⟩
  case round =>
    obtain ⟨k, hk, rfl, hA, hR, hb⟩ := hrel
    clear HB2 HR1 Hb2
    by_cases hlt : k < 8
    · obtain ⟨q, hq, hq3⟩ : ∃ q, q = k % 4 ∧ q < 4 := ⟨_, rfl, Nat.mod_lt _ (by decide)⟩
      have e1 : (k : Int) % 4 = (q : Int) := by omega
      have e2 : ((48 : Int) - 16 * (q : Int)).toNat = 48 - 16 * q := by omega
      have hp := HP.out k hlt
      rw [← hq] at hp
      have a1 := hA.out.cell 1
      have a2 := hA.out.cell 2
      have hcell := (hR.out.cell k).trans (prow_at .u64 L k k hlt)
      have hfr := hR.out.frozen k
      simp at a1 a2
      have hset := Hset.out k hlt
      have wv : ∀ y : Nat, y < 18446744073709551616 → bits .and .u64 ((y : Int) / 2 ^ (48 - 16 * q)) 65535 = ((y / 2 ^ (48 - 16 * q) % 65536 : Nat) : Int) := by
        intro y hy
        rw [shr_nat]
        exact and65535 _ (Nat.lt_of_le_of_lt (Nat.div_le_self _ _) hy)
      by_cases h4 : k < 4
      all_goals
        first | rw [if_pos h4] at hp | rw [if_neg h4] at hp
        first
          | (have h4' : ¬ (4 : Int) ≤ (k : Int) := by omega)
          | (have h4' : (4 : Int) ≤ (k : Int) := by omega)
        first
          | (have wv2 := wv x hh; rw [← hp] at wv2)
          | (have wv2 := wv l hl; rw [← hp] at wv2)
        have Hp := Lib.hid hp
        have Hset1 := Lib.hid hset
        clear hp hq hset wv
        go_wp2_with fail
        go_roundw
        case rel =>
          exact ⟨k + 1, by omega, by go_num, Lib.hid (hA.out.far (p := ⟨g, k, none⟩) (fun e => hgw2 e.symm) _), Lib.hid (by rw [← Hset1.out]; exact hR.out.set_ k _), Lib.hid (hb.out.setCell (p := ⟨g, k, none⟩) hgw _)⟩
        case measure => simp [intOf]; omega
    · obtain rfl : k = 8 := by omega
      have HRR := Lib.hid hR.out
      have HbR := Lib.hid hb.out
      have hcell := fun i (hi : i < 8) => (hR.out.cell i).trans (prow_at .u64 L 8 i hi)
      have Hcell := Lib.hid hcell
      clear hcell hR hA hb hgw2
      go_wp2_with fail
      go_loop [8, 9, 10] (fun v6 v7 v39 => ∃ k : Nat, k ≤ 8 ∧ v39 = .int .i64 (k : Int) ∧ v6 = .int .i64 (bestK L k).1 ∧ v7 = .int .i64 ((bestK L k).2 : Int)) (fun _ _ v39 => 8 - (intOf v39).toNat)
      case atStart => exact ⟨0, by omega, rfl, rfl, rfl⟩
      case round =>
        obtain ⟨k, hk, rfl, rfl, rfl⟩ := hrel
        by_cases hlt : k < 8
        · obtain ⟨B, hB⟩ : ∃ b, b = bestK L k := ⟨_, rfl⟩
          have hnext : bestK L (k + 1) = if B.2 < run0 (L.drop k) then ((k : Int), run0 (L.drop k)) else B := by rw [hB]; rfl
          rw [← hB]
          have Hnext := Lib.hid hnext
          have HB := Lib.hid hB
          clear hB hnext
          obtain ⟨b1, b2⟩ := B
          go_wp2_with fail
          go_loop [11] (fun v9 => ∃ n : Nat, k + n ≤ 8 ∧ v9 = .int .i64 (n : Int) ∧ RowKit.Hid (∀ j, j < n → L.getD (k + j) 0 = 0)) (fun v9 => 8 - (intOf v9).toNat)
          case atStart => exact ⟨0, by omega, rfl, Lib.hid (fun j h => by omega)⟩
          case round =>
            obtain ⟨n, hn, rfl, hz⟩ := hrel
            have e1 : ((k : Int) + (n : Int)).toNat = k + n := by omega
            by_cases hgo : k + n < 8 ∧ L.getD (k + n) 0 = 0
            · obtain ⟨hs, h0⟩ := hgo
              have cx := Hcell.out (k + n) hs
              rw [if_pos hs, h0] at cx
              have H0 := Lib.hid h0
              have hs' : (k : Int) + (n : Int) < 8 := by omega
              clear h0
              go_wp2_with fail
              go_round
              case rel => exact ⟨n + 1, by omega, by go_num, Lib.hid (fun j hj => by
                  by_cases e : j = n
                  · rw [e]; exact H0.out
                  · exact hz.out j (by omega))⟩
              case measure => simp [intOf]; omega
            · have hrun : run0 (L.drop k) = n := run0_at L k n (by have := HL8.out; omega) hz.out (by
                have := HL8.out
                rcases Nat.lt_or_ge (k + n) 8 with h | h
                · exact Or.inr (fun h0 => hgo ⟨h, h0⟩)
                · exact Or.inl (by omega))
              have hnx := Hnext.out
              rw [hrun] at hnx
              have Hnx := Lib.hid hnx
              clear hrun hnx
              by_cases hs : k + n < 8
              · have cx := Hcell.out (k + n) hs
                rw [if_pos hs] at cx
                have h0 : L.getD (k + n) 0 ≠ 0 := fun h0 => hgo ⟨hs, h0⟩
                have hs' : (k : Int) + (n : Int) < 8 := by omega
                clear hgo
                generalize L.getD (k + n) 0 = X at cx h0
                have hq : ((X : Int) == 0) = false := by simp; omega
                clear h0
                by_cases hgt : b2 < n
                all_goals
                  have Hg := Lib.hid hgt
                  go_wp2_with fail
                  go_round
                  case rel =>
                    have q1 : b2 < n → Value.int .i64 (k : Int) = .int .i64 (bestK L (k + 1)).1 ∧ Value.int .i64 (n : Int) = .int .i64 ((bestK L (k + 1)).2 : Int) := fun h => by rw [Hnx.out, if_pos h]; exact ⟨rfl, rfl⟩
                    have q2 : ¬ b2 < n → Value.int .i64 b1 = .int .i64 (bestK L (k + 1)).1 ∧ Value.int .i64 (b2 : Int) = .int .i64 ((bestK L (k + 1)).2 : Int) := fun h => by rw [Hnx.out, if_neg h]; exact ⟨rfl, rfl⟩
                    first
                      | exact ⟨k + 1, by omega, by go_num, (q1 Hg.out).1, (q1 Hg.out).2⟩
                      | ((repeat apply Exists.intro); refine And.intro ?_ ⟨rfl, rfl, rfl⟩; exact ⟨k + 1, by omega, by go_num, (q1 Hg.out).1, (q1 Hg.out).2⟩)
                      | exact ⟨k + 1, by omega, by go_num, (q2 Hg.out).1, (q2 Hg.out).2⟩
                      | ((repeat apply Exists.intro); refine And.intro ?_ ⟨rfl, rfl, rfl⟩; exact ⟨k + 1, by omega, by go_num, (q2 Hg.out).1, (q2 Hg.out).2⟩)
                  case measure => simp [intOf]; omega
              · have hs' : ¬ (k : Int) + (n : Int) < 8 := by omega
                clear hgo
                by_cases hgt : b2 < n
                all_goals
                  have Hg := Lib.hid hgt
                  go_wp2_with fail
                  go_round
                  case rel =>
                    have q1 : b2 < n → Value.int .i64 (k : Int) = .int .i64 (bestK L (k + 1)).1 ∧ Value.int .i64 (n : Int) = .int .i64 ((bestK L (k + 1)).2 : Int) := fun h => by rw [Hnx.out, if_pos h]; exact ⟨rfl, rfl⟩
                    have q2 : ¬ b2 < n → Value.int .i64 b1 = .int .i64 (bestK L (k + 1)).1 ∧ Value.int .i64 (b2 : Int) = .int .i64 ((bestK L (k + 1)).2 : Int) := fun h => by rw [Hnx.out, if_neg h]; exact ⟨rfl, rfl⟩
                    first
                      | exact ⟨k + 1, by omega, by go_num, (q1 Hg.out).1, (q1 Hg.out).2⟩
                      | ((repeat apply Exists.intro); refine And.intro ?_ ⟨rfl, rfl, rfl⟩; exact ⟨k + 1, by omega, by go_num, (q1 Hg.out).1, (q1 Hg.out).2⟩)
                      | exact ⟨k + 1, by omega, by go_num, (q2 Hg.out).1, (q2 Hg.out).2⟩
                      | ((repeat apply Exists.intro); refine And.intro ?_ ⟨rfl, rfl, rfl⟩; exact ⟨k + 1, by omega, by go_num, (q2 Hg.out).1, (q2 Hg.out).2⟩)
                  case measure => simp [intOf]; omega
        · obtain rfl : k = 8 := by omega
          have hall : bestK L 8 = best L := by have := bestK_all L; rwa [HL8.out] at this
          have hrg := bestK_range L 8 (by have := HL8.out; omega)
          have htx := refK_text L
          have hlen := refK_len (best L).1 (best L).2 L HL.out
          have hone := (best_ok L).one
          rw [HL8.out] at htx hrg
          rw [hall] at hrg ⊢
          clear hall
          generalize best L = B at hrg htx hlen hone ⊢
          obtain ⟨b1, b2⟩ := B
          simp only at hrg htx hlen hone ⊢
          have Htx := Lib.hid htx
          have Hlen := Lib.hid hlen
          have hstep : ∀ k, refK b1 b2 L (k + 1) = refStep b1 b2 L k (refK b1 b2 L k) := fun _ => rfl
          have Hstep := Lib.hid hstep
          clear htx hlen hstep
          obtain ⟨hb1, hb8, hb2⟩ := hrg
          go_wp2_with fail
          go_loopw [12, 13] (fun v12 v13 wq => ∃ k : Nat, k ≤ 8 ∧ v13 = .int .i64 (k : Int) ∧ v12 = .string ⟨(refK b1 b2 L k).toArray⟩ ∧ RowKit.Hid (Below wr.heap.size wr wq)) (fun _ i _ => 8 - (intOf i).toNat)
          case atStart => exact ⟨0, by omega, rfl, rfl, Lib.hid (Below.refl _ _)⟩
          case round =>
            obtain ⟨k, hk, rfl, rfl, hq⟩ := hrel
            by_cases hlt : k < 8
            · have cx := (hq.out.cell (p := ⟨g, k, none⟩) HRR.out.lt).trans (Hcell.out k hlt)
              rw [if_pos hlt] at cx
              have hX : L.getD k 0 < 65536 := by
                have hkl : k < L.length := by have := HL8.out; omega
                rw [List.getD_eq_getElem?_getD, List.getElem?_eq_getElem hkl]
                exact HL.out _ (List.getElem_mem hkl)
              have hstep := Hstep.out k
              have hsz := Hlen.out k
              unfold refStep at hstep
              generalize L.getD k 0 = X at cx hX hstep
              have hxl := hexL_len X hX
              have HF := Lib.hid (fmt16 (w := wr) X hX ((Henv.out.below HbR.out).below hq.out).db)
              obtain ⟨S1, hS1⟩ : ∃ S, S = (⟨(refK b1 b2 L (k + 1)).toArray⟩ : ByteArray) := ⟨_, rfl⟩
              have HS1 := Lib.hid hS1
              rw [hstep] at hS1
              generalize refK b1 b2 L k = R0 at hS1 hsz ⊢
              generalize hexL X = D at hS1 HF hxl
              obtain ⟨S0, hS0⟩ : ∃ S, S = (⟨R0.toArray⟩ : ByteArray) := ⟨_, rfl⟩
              obtain ⟨SX, hSX⟩ : ∃ S, S = (⟨D.toArray⟩ : ByteArray) := ⟨_, rfl⟩
              have z0 : S0.size ≤ 48 := by rw [hS0, str_size]; omega
              have zX : SX.size ≤ 4 := by rw [hSX, str_size]; omega
              have z1 : ¬ 9223372036854775807 < S0.size + 2 := by omega
              have z2 : ¬ 9223372036854775807 < S0.size + 1 := by omega
              have z3 : ¬ 9223372036854775807 < S0.size + SX.size := by omega
              have z4 : ¬ 9223372036854775807 < S0.size + 1 + SX.size := by omega
              rw [← hS0]
              rw [← hSX] at HF
              clear hstep hsz hxl
              have t1 : S1 = S0 ++ ⟨#[58, 58]⟩ ∨ True := Or.inr trivial
              clear t1
              by_cases hneg : b1 < 0
              · obtain rfl : b1 = -1 := by omega
                by_cases h0 : 0 < k
                · skip
                  have f1 : ((0 : Int) < (k : Int)) := by omega
                  have hst : S1 = S0 ++ ⟨#[58]⟩ ++ SX := by
                    rw [hS1]
                    rw [if_neg (by omega)]
                    rw [if_pos ⟨h0, by omega⟩]
                    rw [hS0, hSX]
                    apply ByteArray.ext
                    simp
                  have Hst := Lib.hid hst
                  clear hst hS1 hS0 hSX
                  try clear he
                  go_wp2_with (go_at_call 50; (with_reducible refine HF.out.mono ?_); rintro r w5 ⟨rfl, g5⟩; have hb5 := Lib.hid (after hq.out g5); clear g5)
                  go_roundw
                  case rel =>
                    first
                      | exact ⟨k + 1, by omega, by go_num, by rw [← HS1.out, Hst.out], hb5⟩
                      | ((repeat apply Exists.intro); refine And.intro ?_ ⟨rfl, rfl⟩; exact ⟨k + 1, by omega, by go_num, by rw [← HS1.out, Hst.out], hb5⟩)
                  case measure => simp [intOf]; omega
                · skip
                  have f1 : ¬ ((0 : Int) < (k : Int)) := by omega
                  have hst : S1 = S0 ++ SX := by
                    rw [hS1]
                    rw [if_neg (by omega)]
                    rw [if_neg (by omega)]
                    rw [hS0, hSX]
                    apply ByteArray.ext
                    simp
                  have Hst := Lib.hid hst
                  clear hst hS1 hS0 hSX
                  try clear he
                  go_wp2_with (go_at_call 50; (with_reducible refine HF.out.mono ?_); rintro r w5 ⟨rfl, g5⟩; have hb5 := Lib.hid (after hq.out g5); clear g5)
                  go_roundw
                  case rel =>
                    first
                      | exact ⟨k + 1, by omega, by go_num, by rw [← HS1.out, Hst.out], hb5⟩
                      | ((repeat apply Exists.intro); refine And.intro ?_ ⟨rfl, rfl⟩; exact ⟨k + 1, by omega, by go_num, by rw [← HS1.out, Hst.out], hb5⟩)
                  case measure => simp [intOf]; omega
              · obtain ⟨A, rfl⟩ : ∃ A : Nat, b1 = (A : Int) := ⟨b1.toNat, by omega⟩
                have g0 : (0 : Int) ≤ (A : Int) := by omega
                have hA8 : A < 8 := by omega
                by_cases hA : k < A
                · have f1 : ¬ A ≤ k := by omega
                  have f2 : ((k : Int) == (A : Int) + (b2 : Int)) = false := by simp; omega
                  by_cases h0 : 0 < k
                  · skip
                    have f3 : ((0 : Int) < (k : Int)) := by omega
                    have hst : S1 = S0 ++ ⟨#[58]⟩ ++ SX := by
                      rw [hS1]
                      rw [if_neg (by omega)]
                      rw [if_pos ⟨h0, by omega⟩]
                      rw [hS0, hSX]
                      apply ByteArray.ext
                      simp
                    have Hst := Lib.hid hst
                    clear hst hS1 hS0 hSX
                    try clear he
                    go_wp2_with (go_at_call 50; (with_reducible refine HF.out.mono ?_); rintro r w5 ⟨rfl, g5⟩; have hb5 := Lib.hid (after hq.out g5); clear g5)
                    go_roundw
                    case rel =>
                      first
                        | exact ⟨k + 1, by omega, by go_num, by rw [← HS1.out, Hst.out], hb5⟩
                        | ((repeat apply Exists.intro); refine And.intro ?_ ⟨rfl, rfl⟩; exact ⟨k + 1, by omega, by go_num, by rw [← HS1.out, Hst.out], hb5⟩)
                    case measure => simp [intOf]; omega
                  · skip
                    have f1 : ¬ ((0 : Int) < (k : Int)) := by omega
                    have hst : S1 = S0 ++ SX := by
                      rw [hS1]
                      rw [if_neg (by omega)]
                      rw [if_neg (by omega)]
                      rw [hS0, hSX]
                      apply ByteArray.ext
                      simp
                    have Hst := Lib.hid hst
                    clear hst hS1 hS0 hSX
                    try clear he
                    go_wp2_with (go_at_call 50; (with_reducible refine HF.out.mono ?_); rintro r w5 ⟨rfl, g5⟩; have hb5 := Lib.hid (after hq.out g5); clear g5)
                    go_roundw
                    case rel =>
                      first
                        | exact ⟨k + 1, by omega, by go_num, by rw [← HS1.out, Hst.out], hb5⟩
                        | ((repeat apply Exists.intro); refine And.intro ?_ ⟨rfl, rfl⟩; exact ⟨k + 1, by omega, by go_num, by rw [← HS1.out, Hst.out], hb5⟩)
                    case measure => simp [intOf]; omega
                · have f1 : A ≤ k := by omega
                  by_cases hM : k < A + b2
                  · have f2 : (k : Int) < (A : Int) + (b2 : Int) := by omega
                    by_cases he : k = A
                    · skip
                      have f3 : ((k : Int) == (A : Int)) = true := by simp; omega
                      have hst : S1 = S0 ++ ⟨#[58, 58]⟩ := by
                        rw [hS1]
                        rw [if_pos (by omega)]
                        rw [if_pos (by omega)]
                        rw [hS0]
                        apply ByteArray.ext
                        simp
                      have Hst := Lib.hid hst
                      clear hst hS1 hS0 hSX
                      try clear he
                      go_wp2_with fail
                      go_roundw
                      case rel =>
                        first
                          | exact ⟨k + 1, by omega, by go_num, by rw [← HS1.out, Hst.out], hq⟩
                          | ((repeat apply Exists.intro); refine And.intro ?_ ⟨rfl, rfl⟩; exact ⟨k + 1, by omega, by go_num, by rw [← HS1.out, Hst.out], hq⟩)
                      case measure => simp [intOf]; omega
                    · skip
                      have f3 : ((k : Int) == (A : Int)) = false := by simp; omega
                      have hst : S1 = S0 := by
                        rw [hS1]
                        rw [if_pos (by omega)]
                        rw [if_neg (by omega)]
                        exact hS0.symm
                      have Hst := Lib.hid hst
                      clear hst hS1 hS0 hSX
                      try clear he
                      go_wp2_with fail
                      go_roundw
                      case rel =>
                        first
                          | exact ⟨k + 1, by omega, by go_num, by rw [← HS1.out, Hst.out], hq⟩
                          | ((repeat apply Exists.intro); refine And.intro ?_ ⟨rfl, rfl⟩; exact ⟨k + 1, by omega, by go_num, by rw [← HS1.out, Hst.out], hq⟩)
                      case measure => simp [intOf]; omega
                  · have f2 : ¬ (k : Int) < (A : Int) + (b2 : Int) := by omega
                    have f4 : 0 < k := by omega
                    have f5 : (0 : Int) < (k : Int) := by omega
                    by_cases he : k = A + b2
                    · skip
                      have f3 : ((k : Int) == (A : Int) + (b2 : Int)) = true := by simp; omega
                      have hst : S1 = S0 ++ SX := by
                        rw [hS1]
                        rw [if_neg (by omega)]
                        rw [if_neg (by omega)]
                        rw [hS0, hSX]
                        apply ByteArray.ext
                        simp
                      have Hst := Lib.hid hst
                      clear hst hS1 hS0 hSX
                      try clear he
                      go_wp2_with (go_at_call 50; (with_reducible refine HF.out.mono ?_); rintro r w5 ⟨rfl, g5⟩; have hb5 := Lib.hid (after hq.out g5); clear g5)
                      go_roundw
                      case rel =>
                        first
                          | exact ⟨k + 1, by omega, by go_num, by rw [← HS1.out, Hst.out], hb5⟩
                          | ((repeat apply Exists.intro); refine And.intro ?_ ⟨rfl, rfl⟩; exact ⟨k + 1, by omega, by go_num, by rw [← HS1.out, Hst.out], hb5⟩)
                      case measure => simp [intOf]; omega
                    · skip
                      have f3 : ((k : Int) == (A : Int) + (b2 : Int)) = false := by simp; omega
                      have hst : S1 = S0 ++ ⟨#[58]⟩ ++ SX := by
                        rw [hS1]
                        rw [if_neg (by omega)]
                        rw [if_pos (by omega)]
                        rw [hS0, hSX]
                        apply ByteArray.ext
                        simp
                      have Hst := Lib.hid hst
                      clear hst hS1 hS0 hSX
                      try clear he
                      go_wp2_with (go_at_call 50; (with_reducible refine HF.out.mono ?_); rintro r w5 ⟨rfl, g5⟩; have hb5 := Lib.hid (after hq.out g5); clear g5)
                      go_roundw
                      case rel =>
                        first
                          | exact ⟨k + 1, by omega, by go_num, by rw [← HS1.out, Hst.out], hb5⟩
                          | ((repeat apply Exists.intro); refine And.intro ?_ ⟨rfl, rfl⟩; exact ⟨k + 1, by omega, by go_num, by rw [← HS1.out, Hst.out], hb5⟩)
                      case measure => simp [intOf]; omega
            · obtain rfl : k = 8 := by omega
              go_wp2_with fail
              go_ret
              exact ⟨show Ending.returned (.string ⟨(refK b1 b2 L 8).toArray⟩) = _ by rw [Htx.out, HRV.out], after HbR.out hq.out⟩

theorem rtext_any {w : World} (env : Env w) (a : Ad) (ok : a.Ok) : Calls Tryz.prog 25 #[.agg a.cells] w (Got (.string (textB a)) w) := by
  cases hm : a.may with
  | false =>
    have Hm := Lib.hid (rmayAddr_any a ok)
    rw [hm] at Hm
    have e : textB a = ⟨#[]⟩ := by unfold textB; rw [textL_nil hm]
    rw [e]
    obtain ⟨v, x, l⟩ := a
    unfold Ad.cells at *
    simp only at Hm ⊢
    clear e hm ok env
    have hb0 := boxed w (.cells #[.bool v, .int .u64 (x : Int), .int .u64 (l : Int)] 24)
    go_enter Tryz.func25, Tryz.ntmps25
    go_wp2_with (go_at_call 38; (with_reducible refine (Hm.out _).mono ?_); rintro r w1 ⟨rfl, g1⟩; have hb1 := after hb0 g1)
    go_ret
    exact ⟨rfl, hb1⟩
  | true =>
    cases h6 : a.v6 with
    | false =>
      have := rtext_v4 env a ok hm h6
      unfold textB
      rwa [textL_4 hm h6]
    | true =>
      have := rtext_v6 env a ok h6
      unfold textB
      rwa [textL_6 h6]
end Go.Proofs.YtomndcjgdfhmbaaGreatDoor

/- The document's guess, and its Read: the walks. -/
namespace Go.Proofs.YtomndcjgdfhmbaaGreatDoor
open Go.RowKit

theorem guess_any {w : World} (s : ByteArray) (hs : s.size ≤ 100000) : Calls Tryz.prog 54 #[.string s] w (Got (.agg (guessR s.data.toList).cells) w) := by
  unfold guessR
  by_cases h4 : (split1 46 s.data.toList).length = 4
  · rw [if_pos h4]
    exact guess_v4 s hs h4
  · rw [if_neg h4]
    exact guess_v6 s hs h4 _ rfl

set_option maxHeartbeats 4000000 in
set_option maxRecDepth 100000 in
theorem rread_any {w : World} (env : Env w) (s : ByteArray) (hs : s.size ≤ 100000) : Calls Tryz.prog 23 #[.string s] w (Got (readV (readL s.data.toList)) w) := by
  rw [← readR_eq]
  have hg := fun v => guess_any (w := v) s hs
  have hgo := guessR_ok s.data.toList
  have hsl : s.data.toList.length = s.size := (Lib.size_eq s).symm
  have hrd : readR s.data.toList = if 60 < s.size then none else if textB (guessR s.data.toList) = s ∧ s ≠ ⟨#[]⟩ then some (guessR s.data.toList) else none := by
    unfold readR
    rw [hsl]
    have e2 : s ≠ ⟨#[]⟩ ↔ s.data.toList ≠ [] := by
      constructor
      · intro h e; apply h; apply ByteArray.ext; exact Array.ext' e
      · intro h e; apply h; rw [e]
    simp only [textB_iff, e2]
  generalize readR s.data.toList = RL at hrd ⊢
  generalize guessR s.data.toList = a at hg hgo hrd
  have hB0 := Blk.new w 24 #[.bool false, .int .u64 0, .int .u64 0]
  have hb0 := boxed w (.cells #[.bool false, .int .u64 0, .int .u64 0] 24)
  by_cases h60 : 60 < s.size
  · rw [if_pos h60] at hrd
    subst hrd
    have h60' : (60 : Int) < (s.size : Int) := by omega
    have c0 := hB0.cell 0
    have c1 := hB0.cell 1
    have c2 := hB0.cell 2
    simp at c0 c1 c2
    have fr := fun i => hB0.frozen i
    clear hg hgo hsl
    go_enter Tryz.func23, Tryz.ntmps23
    go_wp2_with fail
    show bodyPost _ _ (Got (.tuple #[.agg #[.bool false, .int .u64 0, .int .u64 0], .int .i64 8]) w) _ _ _
    exact ret_ad (g := w.heap.size) (x := 2) (y := 3) rfl hB0 hb0 rfl rfl rfl
  · rw [if_neg h60] at hrd
    have h60' : ¬ (60 : Int) < (s.size : Int) := by omega
    have htx := fun v (hv : Below w.heap.size w v) => rtext_any (env.below hv) a hgo.1
    have hcells : a.cells = #[.bool a.v6, .int .u64 (a.hi : Int), .int .u64 (a.lo : Int)] := rfl
    rw [hcells] at htx hg
    obtain ⟨TB, hTB⟩ : ∃ t, t = textB a := ⟨_, rfl⟩
    rw [← hTB] at htx hrd
    generalize a.v6 = av at htx hg hcells
    generalize a.hi = ahi at htx hg hcells
    generalize a.lo = alo at htx hg hcells
    have HG := Lib.hid hg
    have HTX := Lib.hid htx
    have Hcells := Lib.hid hcells
    have HB0 := Lib.hid hB0
    have Hb0 := Lib.hid hb0
    clear hg htx hcells hgo hTB hsl hB0 hb0 env
    by_cases hts : TB = s
    · have hq := str_same hts
      by_cases hn : s = ⟨#[]⟩
      · rw [if_neg (fun h => h.2 hn)] at hrd
        have hem : s.toList.isEmpty = true := by rw [hn, ByteArray.toList_eq]; rfl
        have Hrd := Lib.hid hrd
        clear hrd hn hts
        go_enter Tryz.func23, Tryz.ntmps23
        go_upto_region 4 with (go_at_call 54; (with_reducible refine (HG.out _).mono ?_); rintro r w5 ⟨rfl, g5⟩; have hB5 := HB0.out.below g5 HB0.out.lt; have hb5 := after Hb0.out g5; have hB6 := hB5.alloc (.cells #[.bool av, .int .u64 (ahi : Int), .int .u64 (alo : Int)] 24); have hD6 := Blk.new w5 24 #[.bool av, .int .u64 (ahi : Int), .int .u64 (alo : Int)]; have hb6 := after hb5 (boxed w5 (.cells #[.bool av, .int .u64 (ahi : Int), .int .u64 (alo : Int)] 24)))
        have hw5 : w.heap.size < w5.heap.size := hB5.lt
        generalize w5.alloc (.cells #[.bool av, .int .u64 (ahi : Int), .int .u64 (alo : Int)] 24) = w6 at hB6 hD6 hb6 ⊢
        generalize w5.heap.size = ga at hD6 hw5 ⊢
        clear hB5 hb5 g5
        have a0 := hD6.cell 0
        have a1 := hD6.cell 1
        have a2 := hD6.cell 2
        simp at a0 a1 a2
        have HB6 := Lib.hid hB6
        have HD6 := Lib.hid hD6
        have Hb6 := Lib.hid hb6
        have HTX2 := Lib.hid (HTX.out w6 hb6)
        clear hB6 hD6 hb6
        go_wp2_with (go_at_call 25; (with_reducible refine HTX2.out.mono ?_); rintro r w7 ⟨rfl, g7⟩; have hb7 := Lib.hid (after Hb6.out g7); have hB7 := HB6.out.below g7 HB6.out.lt; have hD7 := HD6.out.below g7 HD6.out.lt; clear a0 a1 a2; have a0 := hD7.cell 0; have a1 := hD7.cell 1; have a2 := hD7.cell 2; simp at a0 a1 a2; have c0 := hB7.cell 0; have c1 := hB7.cell 1; have c2 := hB7.cell 2; simp at c0 c1 c2; have fr := (fun i => hB7.frozen i); have HB7 := Lib.hid hB7; clear hB7 hD7 g7)
        rw [Hrd.out]
        exact ret_ad3 (g := w.heap.size) (x := 2) (y := 3) rfl HB7.out hb7.out (Nat.le_refl _) rfl rfl rfl
      · rw [if_pos ⟨hts, hn⟩] at hrd
        have hem : s.toList.isEmpty = false := by
          rw [ByteArray.toList_eq]
          cases e : s.data.toList with
          | nil => exact absurd (ByteArray.ext (Array.ext' e)) hn
          | cons _ _ => rfl
        have Hrd := Lib.hid hrd
        clear hrd hn hts
        go_enter Tryz.func23, Tryz.ntmps23
        go_upto_region 4 with (go_at_call 54; (with_reducible refine (HG.out _).mono ?_); rintro r w5 ⟨rfl, g5⟩; have hB5 := HB0.out.below g5 HB0.out.lt; have hb5 := after Hb0.out g5; have hB6 := hB5.alloc (.cells #[.bool av, .int .u64 (ahi : Int), .int .u64 (alo : Int)] 24); have hD6 := Blk.new w5 24 #[.bool av, .int .u64 (ahi : Int), .int .u64 (alo : Int)]; have hb6 := after hb5 (boxed w5 (.cells #[.bool av, .int .u64 (ahi : Int), .int .u64 (alo : Int)] 24)))
        have hw5 : w.heap.size < w5.heap.size := hB5.lt
        generalize w5.alloc (.cells #[.bool av, .int .u64 (ahi : Int), .int .u64 (alo : Int)] 24) = w6 at hB6 hD6 hb6 ⊢
        generalize w5.heap.size = ga at hD6 hw5 ⊢
        clear hB5 hb5 g5
        have a0 := hD6.cell 0
        have a1 := hD6.cell 1
        have a2 := hD6.cell 2
        simp at a0 a1 a2
        have HB6 := Lib.hid hB6
        have HD6 := Lib.hid hD6
        have Hb6 := Lib.hid hb6
        have HTX2 := Lib.hid (HTX.out w6 hb6)
        clear hB6 hD6 hb6
        go_wp2_with (go_at_call 25; (with_reducible refine HTX2.out.mono ?_); rintro r w7 ⟨rfl, g7⟩; have hb7 := Lib.hid (after Hb6.out g7); have hB7 := HB6.out.below g7 HB6.out.lt; have hD7 := HD6.out.below g7 HD6.out.lt; clear a0 a1 a2; have a0 := hD7.cell 0; have a1 := hD7.cell 1; have a2 := hD7.cell 2; simp at a0 a1 a2; have c0 := hB7.cell 0; have c1 := hB7.cell 1; have c2 := hB7.cell 2; simp at c0 c1 c2; have fr := (fun i => hB7.frozen i); have HB7 := Lib.hid hB7; clear hB7 hD7 g7)
        rw [Hrd.out]
        show bodyPost _ _ (Got (.tuple #[.agg a.cells, .int .i64 0]) w) _ _ _
        rw [Hcells.out]
        exact ret_ad3 (g := w.heap.size) (x := 2) (y := 3) rfl HB7.out hb7.out (Nat.le_refl _) rfl rfl rfl
    · have hq := str_diff hts
      rw [if_neg (fun h => hts h.1)] at hrd
      have Hrd := Lib.hid hrd
      clear hrd hts
      go_enter Tryz.func23, Tryz.ntmps23
      go_upto_region 4 with (go_at_call 54; (with_reducible refine (HG.out _).mono ?_); rintro r w5 ⟨rfl, g5⟩; have hB5 := HB0.out.below g5 HB0.out.lt; have hb5 := after Hb0.out g5; have hB6 := hB5.alloc (.cells #[.bool av, .int .u64 (ahi : Int), .int .u64 (alo : Int)] 24); have hD6 := Blk.new w5 24 #[.bool av, .int .u64 (ahi : Int), .int .u64 (alo : Int)]; have hb6 := after hb5 (boxed w5 (.cells #[.bool av, .int .u64 (ahi : Int), .int .u64 (alo : Int)] 24)))
      have hw5 : w.heap.size < w5.heap.size := hB5.lt
      generalize w5.alloc (.cells #[.bool av, .int .u64 (ahi : Int), .int .u64 (alo : Int)] 24) = w6 at hB6 hD6 hb6 ⊢
      generalize w5.heap.size = ga at hD6 hw5 ⊢
      clear hB5 hb5 g5
      have a0 := hD6.cell 0
      have a1 := hD6.cell 1
      have a2 := hD6.cell 2
      simp at a0 a1 a2
      have HB6 := Lib.hid hB6
      have HD6 := Lib.hid hD6
      have Hb6 := Lib.hid hb6
      have HTX2 := Lib.hid (HTX.out w6 hb6)
      clear hB6 hD6 hb6
      go_wp2_with (go_at_call 25; (with_reducible refine HTX2.out.mono ?_); rintro r w7 ⟨rfl, g7⟩; have hb7 := Lib.hid (after Hb6.out g7); have hB7 := HB6.out.below g7 HB6.out.lt; have hD7 := HD6.out.below g7 HD6.out.lt; clear a0 a1 a2; have a0 := hD7.cell 0; have a1 := hD7.cell 1; have a2 := hD7.cell 2; simp at a0 a1 a2; have c0 := hB7.cell 0; have c1 := hB7.cell 1; have c2 := hB7.cell 2; simp at c0 c1 c2; have fr := (fun i => hB7.frozen i); have HB7 := Lib.hid hB7; clear hB7 hD7 g7)
      rw [Hrd.out]
      exact ret_ad3 (g := w.heap.size) (x := 2) (y := 3) rfl HB7.out hb7.out (Nat.le_refl _) rfl rfl rfl
end Go.Proofs.YtomndcjgdfhmbaaGreatDoor
