/- Joined out of: TwG PfE PtA PtB. -/
import Derived.Test.YtbiglifngfgffaaGreatDoorLag
import Derived.Test.YtbiglifngfgffaaGreatDoorLaa
import Derived.Test.YtbiglifngfgffaaGreatDoorLaf
import Derived.Test.YtbiglifngfgffaaGreatDoorLab
import Derived.Test.YtbiglifngfgffaaGreatDoorLad
import Derived.Test.YtbiglifngfgffaaGreatDoorLae
import Derived.BigRegion
import Derived.Deep.DrawnRows
set_option linter.unusedVariables false
set_option linter.unusedSimpArgs false

/- Texts of addresses of IPv6, the document's: the walk. -/
namespace Go.Proofs.YtbiglifngfgffaaGreatDoor
open Go.RowKit

theorem and65535 (y : Nat) (hy : y < 18446744073709551616) : bits .and .u64 (y : Int) 65535 = ((y % 65536 : Nat) : Int) := by
  have h := u64_and_nat y 65535 hy (by decide)
  rw [show ((65535 : Nat) : Int) = 65535 from rfl] at h
  rw [h, show (65535 : Nat) = 2 ^ 16 - 1 from rfl, Nat.and_two_pow_sub_one_eq_mod]

set_option maxHeartbeats 4000000 in
set_option maxRecDepth 100000 in
theorem rtext_v6 {w : World} (env : Env w) (a : Ad) (ok : a.Ok) (h6 : a.v6 = true) : Calls Tryz.prog 110 #[.agg a.cells] w (Got (.string ⟨(text6 (pieceL a)).toArray⟩) w) := by
  have Hm := Lib.hid (rmayAddr_any a ok)
  rw [may6 h6] at Hm
  have hL8 := pieceL_length a
  have hL := pieceL_lt a
  have hP0 := fun k hk => piece_at a k hk
  unfold halfOf at hP0
  have hset := fun k hk => prow_set .u64 (pieceL a) k hk
  have hh := ok.hi
  have hl := ok.lo
  generalize pieceL a = L at hP0 hset hL8 hL ⊢
  have HL8 := Lib.hid hL8
  have HL := Lib.hid hL
  have HP := Lib.hid hP0
  have Hset := Lib.hid hset
  clear hL8 hL ok hset hP0
  obtain ⟨v, x, l⟩ := a
  simp only at h6 hh hl HP
  subst h6
  unfold Ad.cells at *
  simp only at Hm ⊢
  obtain ⟨RV, hRV⟩ : ∃ r, r = (⟨(text6 L).toArray⟩ : ByteArray) := ⟨_, rfl⟩
  rw [← hRV]
  have HRV := Lib.hid hRV
  have Henv := Lib.hid env
  clear hRV env
  have hB0 := Blk.new w 49 #[.bool true, .int .u64 (x : Int), .int .u64 (l : Int)]
  have hb0 := boxed w (.cells #[.bool true, .int .u64 (x : Int), .int .u64 (l : Int)] 49)
  go_enter Tryz.func110, Tryz.ntmps110
  go_wp2_with (go_at_call 105; (with_reducible refine (Hm.out _).mono ?_); rintro r w1 ⟨rfl, g1⟩; have hb1 := after hb0 g1; have hB1 := hB0.below g1 hB0.lt; have a0 := hB1.cell 0; simp at a0)
  have hR1 : Blk (w1.alloc (.cells #[.int .u64 0, .int .u64 0, .int .u64 0, .int .u64 0, .int .u64 0, .int .u64 0, .int .u64 0, .int .u64 0] 189)) w1.heap.size 189 (prow .u64 L 0) := by
    rw [prow_zero]
    exact Blk.new _ _ _
  have hB2 := hB1.alloc (.cells #[.int .u64 0, .int .u64 0, .int .u64 0, .int .u64 0, .int .u64 0, .int .u64 0, .int .u64 0, .int .u64 0] 189)
  have hb2 := after hb1 (boxed w1 (.cells #[.int .u64 0, .int .u64 0, .int .u64 0, .int .u64 0, .int .u64 0, .int .u64 0, .int .u64 0, .int .u64 0] 189))
  have hgw : w.heap.size ≤ w1.heap.size := hb1.size
  have hgw2 : w1.heap.size ≠ w.heap.size := by have := hB1.lt; omega
  generalize w1.alloc (.cells #[.int .u64 0, .int .u64 0, .int .u64 0, .int .u64 0, .int .u64 0, .int .u64 0, .int .u64 0, .int .u64 0] 189) = W0 at hR1 hB2 hb2 ⊢
  generalize w1.heap.size = g at hR1 hgw hgw2 ⊢
  have HR1 := Lib.hid hR1
  have HB2 := Lib.hid hB2
  have Hb2 := Lib.hid hb2
  clear a0 hB0 hb0 hB1 hb1 hR1 hB2 hb2
  go_loopw [6] (fun i wr => ∃ k : Nat, k ≤ 8 ∧ i = .int .i64 (k : Int) ∧ RowKit.Hid (Blk wr w.heap.size 49 #[.bool true, .int .u64 (x : Int), .int .u64 (l : Int)]) ∧ RowKit.Hid (Blk wr g 189 (prow .u64 L k)) ∧ RowKit.Hid (Below w.heap.size w wr)) (fun i _ => 8 - (intOf i).toNat)
  case atStart => exact ⟨0, by omega, rfl, HB2, HR1, Hb2⟩
  case round =>
    obtain ⟨k, hk, rfl, hA, hR, hb⟩ := hrel
    clear HB2 HR1 Hb2
    by_cases hlt : k < 8
    · obtain ⟨q, hq, hq3⟩ : ∃ q, q = k % 4 ∧ q < 4 := ⟨_, rfl, Nat.mod_lt _ (by decide)⟩
      have e1 : (k : Int) % 4 = (q : Int) := by omega
      have e2 : ((48 : Int) - 16 * (q : Int)).toNat = 48 - 16 * q := by omega
      have hp := HP.out k hlt
      rw [← hq] at hp
      have a1 := hA.out.cell 1
      have a2 := hA.out.cell 2
      have hcell := (hR.out.cell k).trans (prow_at .u64 L k k hlt)
      have hfr := hR.out.frozen k
      simp at a1 a2
      have hset := Hset.out k hlt
      have wv : ∀ y : Nat, y < 18446744073709551616 → bits .and .u64 ((y : Int) / 2 ^ (48 - 16 * q)) 65535 = ((y / 2 ^ (48 - 16 * q) % 65536 : Nat) : Int) := by
        intro y hy
        rw [shr_nat]
        exact and65535 _ (Nat.lt_of_le_of_lt (Nat.div_le_self _ _) hy)
      by_cases h4 : k < 4
      all_goals
        first | rw [if_pos h4] at hp | rw [if_neg h4] at hp
        first
          | (have h4' : ¬ (4 : Int) ≤ (k : Int) := by omega)
          | (have h4' : (4 : Int) ≤ (k : Int) := by omega)
        first
          | (have wv2 := wv x hh; rw [← hp] at wv2)
          | (have wv2 := wv l hl; rw [← hp] at wv2)
        have Hp := Lib.hid hp
        have Hset1 := Lib.hid hset
        clear hp hq hset wv
        go_wp2_with fail
        go_roundw
        case rel =>
          exact ⟨k + 1, by omega, by go_num, Lib.hid (hA.out.far (p := ⟨g, k, none⟩) (fun e => hgw2 e.symm) _), Lib.hid (by rw [← Hset1.out]; exact hR.out.set_ k _), Lib.hid (hb.out.setCell (p := ⟨g, k, none⟩) hgw _)⟩
        case measure => simp [intOf]; omega
    · obtain rfl : k = 8 := by omega
      have HRR := Lib.hid hR.out
      have HbR := Lib.hid hb.out
      have hcell := fun i (hi : i < 8) => (hR.out.cell i).trans (prow_at .u64 L 8 i hi)
      have Hcell := Lib.hid hcell
      clear hcell hR hA hb hgw2
      go_wp2_with fail
      go_loop [8, 9, 10] (fun v6 v7 v39 => ∃ k : Nat, k ≤ 8 ∧ v39 = .int .i64 (k : Int) ∧ v6 = .int .i64 (bestK L k).1 ∧ v7 = .int .i64 ((bestK L k).2 : Int)) (fun _ _ v39 => 8 - (intOf v39).toNat)
      case atStart => exact ⟨0, by omega, rfl, rfl, rfl⟩
      case round =>
        obtain ⟨k, hk, rfl, rfl, rfl⟩ := hrel
        by_cases hlt : k < 8
        · obtain ⟨B, hB⟩ : ∃ b, b = bestK L k := ⟨_, rfl⟩
          have hnext : bestK L (k + 1) = if B.2 < run0 (L.drop k) then ((k : Int), run0 (L.drop k)) else B := by rw [hB]; rfl
          rw [← hB]
          have Hnext := Lib.hid hnext
          have HB := Lib.hid hB
          clear hB hnext
          obtain ⟨b1, b2⟩ := B
          go_wp2_with fail
          go_loop [11] (fun v9 => ∃ n : Nat, k + n ≤ 8 ∧ v9 = .int .i64 (n : Int) ∧ RowKit.Hid (∀ j, j < n → L.getD (k + j) 0 = 0)) (fun v9 => 8 - (intOf v9).toNat)
          case atStart => exact ⟨0, by omega, rfl, Lib.hid (fun j h => by omega)⟩
          case round =>
            obtain ⟨n, hn, rfl, hz⟩ := hrel
            have e1 : ((k : Int) + (n : Int)).toNat = k + n := by omega
            by_cases hgo : k + n < 8 ∧ L.getD (k + n) 0 = 0
            · obtain ⟨hs, h0⟩ := hgo
              have cx := Hcell.out (k + n) hs
              rw [if_pos hs, h0] at cx
              have H0 := Lib.hid h0
              have hs' : (k : Int) + (n : Int) < 8 := by omega
              clear h0
              go_wp2_with fail
              go_round
              case rel => exact ⟨n + 1, by omega, by go_num, Lib.hid (fun j hj => by
                  by_cases e : j = n
                  · rw [e]; exact H0.out
                  · exact hz.out j (by omega))⟩
              case measure => simp [intOf]; omega
            · have hrun : run0 (L.drop k) = n := run0_at L k n (by have := HL8.out; omega) hz.out (by
                have := HL8.out
                rcases Nat.lt_or_ge (k + n) 8 with h | h
                · exact Or.inr (fun h0 => hgo ⟨h, h0⟩)
                · exact Or.inl (by omega))
              have hnx := Hnext.out
              rw [hrun] at hnx
              have Hnx := Lib.hid hnx
              clear hrun hnx
              by_cases hs : k + n < 8
              · have cx := Hcell.out (k + n) hs
                rw [if_pos hs] at cx
                have h0 : L.getD (k + n) 0 ≠ 0 := fun h0 => hgo ⟨hs, h0⟩
                have hs' : (k : Int) + (n : Int) < 8 := by omega
                clear hgo
                generalize L.getD (k + n) 0 = X at cx h0
                have hq : ((X : Int) == 0) = false := by simp; omega
                clear h0
                by_cases hgt : b2 < n
                all_goals
                  have Hg := Lib.hid hgt
                  go_wp2_with fail
                  go_round
                  case rel =>
                    have q1 : b2 < n → Value.int .i64 (k : Int) = .int .i64 (bestK L (k + 1)).1 ∧ Value.int .i64 (n : Int) = .int .i64 ((bestK L (k + 1)).2 : Int) := fun h => by rw [Hnx.out, if_pos h]; exact ⟨rfl, rfl⟩
                    have q2 : ¬ b2 < n → Value.int .i64 b1 = .int .i64 (bestK L (k + 1)).1 ∧ Value.int .i64 (b2 : Int) = .int .i64 ((bestK L (k + 1)).2 : Int) := fun h => by rw [Hnx.out, if_neg h]; exact ⟨rfl, rfl⟩
                    first
                      | exact ⟨k + 1, by omega, by go_num, (q1 Hg.out).1, (q1 Hg.out).2⟩
                      | ((repeat apply Exists.intro); refine And.intro ?_ ⟨rfl, rfl, rfl⟩; exact ⟨k + 1, by omega, by go_num, (q1 Hg.out).1, (q1 Hg.out).2⟩)
                      | exact ⟨k + 1, by omega, by go_num, (q2 Hg.out).1, (q2 Hg.out).2⟩
                      | ((repeat apply Exists.intro); refine And.intro ?_ ⟨rfl, rfl, rfl⟩; exact ⟨k + 1, by omega, by go_num, (q2 Hg.out).1, (q2 Hg.out).2⟩)
                  case measure => simp [intOf]; omega
              · have hs' : ¬ (k : Int) + (n : Int) < 8 := by omega
                clear hgo
                by_cases hgt : b2 < n
                all_goals
                  have Hg := Lib.hid hgt
                  go_wp2_with fail
                  go_round
                  case rel =>
                    have q1 : b2 < n → Value.int .i64 (k : Int) = .int .i64 (bestK L (k + 1)).1 ∧ Value.int .i64 (n : Int) = .int .i64 ((bestK L (k + 1)).2 : Int) := fun h => by rw [Hnx.out, if_pos h]; exact ⟨rfl, rfl⟩
                    have q2 : ¬ b2 < n → Value.int .i64 b1 = .int .i64 (bestK L (k + 1)).1 ∧ Value.int .i64 (b2 : Int) = .int .i64 ((bestK L (k + 1)).2 : Int) := fun h => by rw [Hnx.out, if_neg h]; exact ⟨rfl, rfl⟩
                    first
                      | exact ⟨k + 1, by omega, by go_num, (q1 Hg.out).1, (q1 Hg.out).2⟩
                      | ((repeat apply Exists.intro); refine And.intro ?_ ⟨rfl, rfl, rfl⟩; exact ⟨k + 1, by omega, by go_num, (q1 Hg.out).1, (q1 Hg.out).2⟩)
                      | exact ⟨k + 1, by omega, by go_num, (q2 Hg.out).1, (q2 Hg.out).2⟩
                      | ((repeat apply Exists.intro); refine And.intro ?_ ⟨rfl, rfl, rfl⟩; exact ⟨k + 1, by omega, by go_num, (q2 Hg.out).1, (q2 Hg.out).2⟩)
                  case measure => simp [intOf]; omega
        · obtain rfl : k = 8 := by omega
          have hall : bestK L 8 = best L := by have := bestK_all L; rwa [HL8.out] at this
          have hrg := bestK_range L 8 (by have := HL8.out; omega)
          have htx := refK_text L
          have hlen := refK_len (best L).1 (best L).2 L HL.out
          have hone := (best_ok L).one
          rw [HL8.out] at htx hrg
          rw [hall] at hrg ⊢
          clear hall
          generalize best L = B at hrg htx hlen hone ⊢
          obtain ⟨b1, b2⟩ := B
          simp only at hrg htx hlen hone ⊢
          have Htx := Lib.hid htx
          have Hlen := Lib.hid hlen
          have hstep : ∀ k, refK b1 b2 L (k + 1) = refStep b1 b2 L k (refK b1 b2 L k) := fun _ => rfl
          have Hstep := Lib.hid hstep
          clear htx hlen hstep
          obtain ⟨hb1, hb8, hb2⟩ := hrg
          go_wp2_with fail
          go_loopw [12, 13] (fun v12 v13 wq => ∃ k : Nat, k ≤ 8 ∧ v13 = .int .i64 (k : Int) ∧ v12 = .string ⟨(refK b1 b2 L k).toArray⟩ ∧ RowKit.Hid (Below wr.heap.size wr wq)) (fun _ i _ => 8 - (intOf i).toNat)
          case atStart => exact ⟨0, by omega, rfl, rfl, Lib.hid (Below.refl _ _)⟩
          case round =>
            obtain ⟨k, hk, rfl, rfl, hq⟩ := hrel
            by_cases hlt : k < 8
            · have cx := (hq.out.cell (p := ⟨g, k, none⟩) HRR.out.lt).trans (Hcell.out k hlt)
              rw [if_pos hlt] at cx
              have hX : L.getD k 0 < 65536 := by
                have hkl : k < L.length := by have := HL8.out; omega
                rw [List.getD_eq_getElem?_getD, List.getElem?_eq_getElem hkl]
                exact HL.out _ (List.getElem_mem hkl)
              have hstep := Hstep.out k
              have hsz := Hlen.out k
              unfold refStep at hstep
              generalize L.getD k 0 = X at cx hX hstep
              have hxl := hexL_len X hX
              have HF := Lib.hid (fmt16 (w := wr) X hX ((Henv.out.below HbR.out).below hq.out).db)
              obtain ⟨S1, hS1⟩ : ∃ S, S = (⟨(refK b1 b2 L (k + 1)).toArray⟩ : ByteArray) := ⟨_, rfl⟩
              have HS1 := Lib.hid hS1
              rw [hstep] at hS1
              generalize refK b1 b2 L k = R0 at hS1 hsz ⊢
              generalize hexL X = D at hS1 HF hxl
              obtain ⟨S0, hS0⟩ : ∃ S, S = (⟨R0.toArray⟩ : ByteArray) := ⟨_, rfl⟩
              obtain ⟨SX, hSX⟩ : ∃ S, S = (⟨D.toArray⟩ : ByteArray) := ⟨_, rfl⟩
              have z0 : S0.size ≤ 48 := by rw [hS0, str_size]; omega
              have zX : SX.size ≤ 4 := by rw [hSX, str_size]; omega
              have z1 : ¬ 9223372036854775807 < S0.size + 2 := by omega
              have z2 : ¬ 9223372036854775807 < S0.size + 1 := by omega
              have z3 : ¬ 9223372036854775807 < S0.size + SX.size := by omega
              have z4 : ¬ 9223372036854775807 < S0.size + 1 + SX.size := by omega
              rw [← hS0]
              rw [← hSX] at HF
              clear hstep hsz hxl
              have t1 : S1 = S0 ++ ⟨#[58, 58]⟩ ∨ True := Or.inr trivial
              clear t1
              by_cases hneg : b1 < 0
              · obtain rfl : b1 = -1 := by omega
                by_cases h0 : 0 < k
                · skip
                  have f1 : ((0 : Int) < (k : Int)) := by omega
                  have hst : S1 = S0 ++ ⟨#[58]⟩ ++ SX := by
                    rw [hS1]
                    rw [if_neg (by omega)]
                    rw [if_pos ⟨h0, by omega⟩]
                    rw [hS0, hSX]
                    apply ByteArray.ext
                    simp
                  have Hst := Lib.hid hst
                  clear hst hS1 hS0 hSX
                  try clear he
                  go_wp2_with (go_at_call 86; (with_reducible refine HF.out.mono ?_); rintro r w5 ⟨rfl, g5⟩; have hb5 := Lib.hid (after hq.out g5); clear g5)
                  go_roundw
                  case rel =>
                    first
                      | exact ⟨k + 1, by omega, by go_num, by rw [← HS1.out, Hst.out], hb5⟩
                      | ((repeat apply Exists.intro); refine And.intro ?_ ⟨rfl, rfl⟩; exact ⟨k + 1, by omega, by go_num, by rw [← HS1.out, Hst.out], hb5⟩)
                  case measure => simp [intOf]; omega
                · skip
                  have f1 : ¬ ((0 : Int) < (k : Int)) := by omega
                  have hst : S1 = S0 ++ SX := by
                    rw [hS1]
                    rw [if_neg (by omega)]
                    rw [if_neg (by omega)]
                    rw [hS0, hSX]
                    apply ByteArray.ext
                    simp
                  have Hst := Lib.hid hst
                  clear hst hS1 hS0 hSX
                  try clear he
                  go_wp2_with (go_at_call 86; (with_reducible refine HF.out.mono ?_); rintro r w5 ⟨rfl, g5⟩; have hb5 := Lib.hid (after hq.out g5); clear g5)
                  go_roundw
                  case rel =>
                    first
                      | exact ⟨k + 1, by omega, by go_num, by rw [← HS1.out, Hst.out], hb5⟩
                      | ((repeat apply Exists.intro); refine And.intro ?_ ⟨rfl, rfl⟩; exact ⟨k + 1, by omega, by go_num, by rw [← HS1.out, Hst.out], hb5⟩)
                  case measure => simp [intOf]; omega
              · obtain ⟨A, rfl⟩ : ∃ A : Nat, b1 = (A : Int) := ⟨b1.toNat, by omega⟩
                have g0 : (0 : Int) ≤ (A : Int) := by omega
                have hA8 : A < 8 := by omega
                by_cases hA : k < A
                · have f1 : ¬ A ≤ k := by omega
                  have f2 : ((k : Int) == (A : Int) + (b2 : Int)) = false := by simp; omega
                  by_cases h0 : 0 < k
                  · skip
                    have f3 : ((0 : Int) < (k : Int)) := by omega
                    have hst : S1 = S0 ++ ⟨#[58]⟩ ++ SX := by
                      rw [hS1]
                      rw [if_neg (by omega)]
                      rw [if_pos ⟨h0, by omega⟩]
                      rw [hS0, hSX]
                      apply ByteArray.ext
                      simp
                    have Hst := Lib.hid hst
                    clear hst hS1 hS0 hSX
                    try clear he
                    go_wp2_with (go_at_call 86; (with_reducible refine HF.out.mono ?_); rintro r w5 ⟨rfl, g5⟩; have hb5 := Lib.hid (after hq.out g5); clear g5)
                    go_roundw
                    case rel =>
                      first
                        | exact ⟨k + 1, by omega, by go_num, by rw [← HS1.out, Hst.out], hb5⟩
                        | ((repeat apply Exists.intro); refine And.intro ?_ ⟨rfl, rfl⟩; exact ⟨k + 1, by omega, by go_num, by rw [← HS1.out, Hst.out], hb5⟩)
                    case measure => simp [intOf]; omega
                  · skip
                    have f1 : ¬ ((0 : Int) < (k : Int)) := by omega
                    have hst : S1 = S0 ++ SX := by
                      rw [hS1]
                      rw [if_neg (by omega)]
                      rw [if_neg (by omega)]
                      rw [hS0, hSX]
                      apply ByteArray.ext
                      simp
                    have Hst := Lib.hid hst
                    clear hst hS1 hS0 hSX
                    try clear he
                    go_wp2_with (go_at_call 86; (with_reducible refine HF.out.mono ?_); rintro r w5 ⟨rfl, g5⟩; have hb5 := Lib.hid (after hq.out g5); clear g5)
                    go_roundw
                    case rel =>
                      first
                        | exact ⟨k + 1, by omega, by go_num, by rw [← HS1.out, Hst.out], hb5⟩
                        | ((repeat apply Exists.intro); refine And.intro ?_ ⟨rfl, rfl⟩; exact ⟨k + 1, by omega, by go_num, by rw [← HS1.out, Hst.out], hb5⟩)
                    case measure => simp [intOf]; omega
                · have f1 : A ≤ k := by omega
                  by_cases hM : k < A + b2
                  · have f2 : (k : Int) < (A : Int) + (b2 : Int) := by omega
                    by_cases he : k = A
                    · skip
                      have f3 : ((k : Int) == (A : Int)) = true := by simp; omega
                      have hst : S1 = S0 ++ ⟨#[58, 58]⟩ := by
                        rw [hS1]
                        rw [if_pos (by omega)]
                        rw [if_pos (by omega)]
                        rw [hS0]
                        apply ByteArray.ext
                        simp
                      have Hst := Lib.hid hst
                      clear hst hS1 hS0 hSX
                      try clear he
                      go_wp2_with fail
                      go_roundw
                      case rel =>
                        first
                          | exact ⟨k + 1, by omega, by go_num, by rw [← HS1.out, Hst.out], hq⟩
                          | ((repeat apply Exists.intro); refine And.intro ?_ ⟨rfl, rfl⟩; exact ⟨k + 1, by omega, by go_num, by rw [← HS1.out, Hst.out], hq⟩)
                      case measure => simp [intOf]; omega
                    · skip
                      have f3 : ((k : Int) == (A : Int)) = false := by simp; omega
                      have hst : S1 = S0 := by
                        rw [hS1]
                        rw [if_pos (by omega)]
                        rw [if_neg (by omega)]
                        exact hS0.symm
                      have Hst := Lib.hid hst
                      clear hst hS1 hS0 hSX
                      try clear he
                      go_wp2_with fail
                      go_roundw
                      case rel =>
                        first
                          | exact ⟨k + 1, by omega, by go_num, by rw [← HS1.out, Hst.out], hq⟩
                          | ((repeat apply Exists.intro); refine And.intro ?_ ⟨rfl, rfl⟩; exact ⟨k + 1, by omega, by go_num, by rw [← HS1.out, Hst.out], hq⟩)
                      case measure => simp [intOf]; omega
                  · have f2 : ¬ (k : Int) < (A : Int) + (b2 : Int) := by omega
                    have f4 : 0 < k := by omega
                    have f5 : (0 : Int) < (k : Int) := by omega
                    by_cases he : k = A + b2
                    · skip
                      have f3 : ((k : Int) == (A : Int) + (b2 : Int)) = true := by simp; omega
                      have hst : S1 = S0 ++ SX := by
                        rw [hS1]
                        rw [if_neg (by omega)]
                        rw [if_neg (by omega)]
                        rw [hS0, hSX]
                        apply ByteArray.ext
                        simp
                      have Hst := Lib.hid hst
                      clear hst hS1 hS0 hSX
                      try clear he
                      go_wp2_with (go_at_call 86; (with_reducible refine HF.out.mono ?_); rintro r w5 ⟨rfl, g5⟩; have hb5 := Lib.hid (after hq.out g5); clear g5)
                      go_roundw
                      case rel =>
                        first
                          | exact ⟨k + 1, by omega, by go_num, by rw [← HS1.out, Hst.out], hb5⟩
                          | ((repeat apply Exists.intro); refine And.intro ?_ ⟨rfl, rfl⟩; exact ⟨k + 1, by omega, by go_num, by rw [← HS1.out, Hst.out], hb5⟩)
                      case measure => simp [intOf]; omega
                    · skip
                      have f3 : ((k : Int) == (A : Int) + (b2 : Int)) = false := by simp; omega
                      have hst : S1 = S0 ++ ⟨#[58]⟩ ++ SX := by
                        rw [hS1]
                        rw [if_neg (by omega)]
                        rw [if_pos (by omega)]
                        rw [hS0, hSX]
                        apply ByteArray.ext
                        simp
                      have Hst := Lib.hid hst
                      clear hst hS1 hS0 hSX
                      try clear he
                      go_wp2_with (go_at_call 86; (with_reducible refine HF.out.mono ?_); rintro r w5 ⟨rfl, g5⟩; have hb5 := Lib.hid (after hq.out g5); clear g5)
                      go_roundw
                      case rel =>
                        first
                          | exact ⟨k + 1, by omega, by go_num, by rw [← HS1.out, Hst.out], hb5⟩
                          | ((repeat apply Exists.intro); refine And.intro ?_ ⟨rfl, rfl⟩; exact ⟨k + 1, by omega, by go_num, by rw [← HS1.out, Hst.out], hb5⟩)
                      case measure => simp [intOf]; omega
            · obtain rfl : k = 8 := by omega
              go_wp2_with fail
              go_ret
              exact ⟨show Ending.returned (.string ⟨(refK b1 b2 L 8).toArray⟩) = _ by rw [Htx.out, HRV.out], after HbR.out hq.out⟩

theorem rtext_any {w : World} (env : Env w) (a : Ad) (ok : a.Ok) : Calls Tryz.prog 110 #[.agg a.cells] w (Got (.string (textB a)) w) := by
  cases hm : a.may with
  | false =>
    have Hm := Lib.hid (rmayAddr_any a ok)
    rw [hm] at Hm
    have e : textB a = ⟨#[]⟩ := by unfold textB; rw [textL_nil hm]
    rw [e]
    obtain ⟨v, x, l⟩ := a
    unfold Ad.cells at *
    simp only at Hm ⊢
    clear e hm ok env
    have hb0 := boxed w (.cells #[.bool v, .int .u64 (x : Int), .int .u64 (l : Int)] 49)
    go_enter Tryz.func110, Tryz.ntmps110
    go_wp2_with (go_at_call 105; (with_reducible refine (Hm.out _).mono ?_); rintro r w1 ⟨rfl, g1⟩; have hb1 := after hb0 g1)
    go_ret
    exact ⟨rfl, hb1⟩
  | true =>
    cases h6 : a.v6 with
    | false =>
      have := rtext_v4 env a ok hm h6
      unfold textB
      rwa [textL_4 hm h6]
    | true =>
      have := rtext_v6 env a ok h6
      unfold textB
      rwa [textL_6 h6]
end Go.Proofs.YtbiglifngfgffaaGreatDoor

/- MayPrefix, Holds: the document's walks. (Printed by pf_rmay.py.) -/
namespace Go.Proofs.YtbiglifngfgffaaGreatDoor
open Go.RowKit
attribute [local go_sem ↓] Go.wp_at_zero Go.wp_at_succ

theorem bitA_zero {a : Ad} {i : Nat} : bitA a i = false ↔ a.val / 2 ^ (a.size - 1 - i) % 2 = 0 := by
  unfold bitA
  rw [decide_eq_false_iff_not]
  omega
theorem pmay_bits {p : Pf} (hm : p.a.may = true) (hn : p.bits ≤ p.a.size) : (∀ i, p.bits ≤ i → i < p.a.size → bitA p.a i = false) ↔ pmay p = true := by
  have h := bits_zero p.a.val p.a.size (p.a.size - p.bits) (by omega)
  rw [show p.a.size - (p.a.size - p.bits) = p.bits by omega] at h
  have e : pmay p = decide (p.a.val % 2 ^ (p.a.size - p.bits) = 0) := by
    unfold pmay
    rw [hm, decide_eq_true hn]
    rfl
  rw [e, decide_eq_true_iff, ← h]
  constructor
  · intro q i h1 h2
    exact bitA_zero.1 (q i h1 h2)
  · intro q i h1 h2
    exact bitA_zero.2 (q i h1 h2)

set_option maxHeartbeats 4000000 in
set_option maxRecDepth 100000 in
theorem rmayPrefix_any (p : Pf) (ok : p.Ok) (w : World) : Calls Tryz.prog 66 #[.agg p.cells] w (Got (.bool (pmay p)) w) := by
  have HM : p.a.may = false → pmay p = false := fun h => by unfold pmay; rw [h]; rfl
  have HN : ¬ p.bits ≤ p.a.size → pmay p = false := fun h => by unfold pmay; rw [decide_eq_false h]; simp
  have HB := pmay_bits (p := p)
  have Hm := Lib.hid (rmayAddr_any p.a ok.a)
  have Hs := Lib.hid (rsize_any p.a)
  have Hb := fun i hi w => bit_any p.a i ok.a hi w
  have hn := ok.bits
  generalize hR : pmay p = RR at HM HN HB ⊢
  clear hR
  generalize bitA p.a = BT at HB Hb
  generalize hM : p.a.may = M at Hm HM HB
  generalize hS : p.a.size = SZ at Hs HN HB Hb
  have hS2 : SZ ≤ 128 := by rw [← hS]; exact size_le _
  clear hM hS ok
  obtain ⟨⟨v, h, l⟩, n⟩ := p
  unfold Pf.cells
  unfold Ad.cells at *
  simp only at hn HM HN HB Hm Hs Hb ⊢
  have hB0 := Blk.new w 51 #[.bool v, .int .u64 (h : Int), .int .u64 (l : Int), .int .u8 (n : Int)]
  have hb0 := (boxed w (.cells #[.bool v, .int .u64 (h : Int), .int .u64 (l : Int), .int .u8 (n : Int)] 51)).drew
  cases M with
  | false =>
    rw [HM rfl]
    clear HM HN HB Hb
    go_enter Tryz.func66, Tryz.ntmps66
    go_wp2_with fail
    generalize w.alloc (.cells #[.bool v, .int .u64 (h : Int), .int .u64 (l : Int), .int .u8 (n : Int)] 51) = v0 at hB0 hb0 ⊢
    generalize hg : w.heap.size = g at hB0 ⊢
    have hB0 := hB0.drew
    refine wp_region_held_drew (S := (fun w' => w'.cell? ⟨g, 0, none⟩ = some (.bool v) ∧ w'.cell? ⟨g, 1, none⟩ = some (.int .u64 (h : Int)) ∧ w'.cell? ⟨g, 2, none⟩ = some (.int .u64 (l : Int)) ∧ w'.cell? ⟨g, 3, none⟩ = some (.int .u8 (n : Int)))) (by kernel_rfl) ⟨hB0.cell 0, hB0.cell 1, hB0.cell 2, hB0.cell 3⟩ (fun hHeld => ?_)
    refine tH 0 ?_; try simp only [Ap]
    refine tH 1 ?_; try simp only [Ap]
    refine wpAnyH_ready (rs := [2]) (by kernel_rfl) (by simp) ?_
    refine AllReadyH.cons rfl (fun K hK => ?_) AllReadyH.nil
    go_simp
    refine (Hm.out _).mono ?_
    rintro r v1 ⟨rfl, d1⟩
    have hb1 := after hb0 d1
    have hB1 := hB0.below d1 hB0.lt
    refine hK.out _ _ ⟨hB1.cell 0, hB1.cell 1, hB1.cell 2, hB1.cell 3⟩ (fun hHeld => ?_)
    clear hK K
    try simp only [Ap]
    refine tH 3 ?_; try simp only [Ap]
    refine tH 4 ?_; try simp only [Ap]
    refine tU 5 ?_; try simp only [Ap]
    refine tU 6 ?_; try simp only [Ap]
    refine tU 7 ?_; try simp only [Ap]
    refine tU 8 ?_; try simp only [Ap]
    refine tU 9 ?_; try simp only [Ap]
    refine tU 10 ?_; try simp only [Ap]
    refine tU 11 ?_; try simp only [Ap]
    refine tH 12 ?_; try simp only [Ap]
    refine wpAnyH_done (by kernel_rfl) ?_ _
    go_wp2_with fail
    go_ret
    exact ⟨rfl, hb1⟩
  | true =>
    by_cases hle : n ≤ SZ
    · have hle' : ¬ (SZ : Int) < (n : Int) := by omega
      have hle2 : decide ((SZ : Int) < (n : Int)) = false := decide_eq_false hle'
      have hle3 : decide (SZ < n) = false := decide_eq_false (by omega)
      have HBH := Lib.hid (HB rfl hle)
      have HbH := Lib.hid Hb
      clear HM HN HB Hb
      have hwr : IntKind.i64.wrap (n : Int) = n := IntWalk.i64_in _ (by omega)
      go_enter Tryz.func66, Tryz.ntmps66
      go_wp2_with fail
      generalize w.alloc (.cells #[.bool v, .int .u64 (h : Int), .int .u64 (l : Int), .int .u8 (n : Int)] 51) = v0 at hB0 hb0 ⊢
      generalize hg : w.heap.size = g at hB0 ⊢
      have hB0 := hB0.drew
      refine wp_region_held_drew (S := (fun w' => w'.cell? ⟨g, 0, none⟩ = some (.bool v) ∧ w'.cell? ⟨g, 1, none⟩ = some (.int .u64 (h : Int)) ∧ w'.cell? ⟨g, 2, none⟩ = some (.int .u64 (l : Int)) ∧ w'.cell? ⟨g, 3, none⟩ = some (.int .u8 (n : Int)))) (by kernel_rfl) ⟨hB0.cell 0, hB0.cell 1, hB0.cell 2, hB0.cell 3⟩ (fun hHeld => ?_)
      refine tH 0 ?_; try simp only [Ap]
      refine tH 1 ?_; try simp only [Ap]
      refine wpAnyH_ready (rs := [2]) (by kernel_rfl) (by simp) ?_
      refine AllReadyH.cons rfl (fun K hK => ?_) AllReadyH.nil
      go_simp
      refine (Hm.out _).mono ?_
      rintro r v1 ⟨rfl, d1⟩
      have hb1 := after hb0 d1
      have hB1 := hB0.below d1 hB0.lt
      refine hK.out _ _ ⟨hB1.cell 0, hB1.cell 1, hB1.cell 2, hB1.cell 3⟩ (fun hHeld => ?_)
      clear hK K
      try simp only [Ap]
      refine tH 3 ?_; try simp only [Ap]
      refine tH 4 ?_; try simp only [Ap]
      refine tH 5 ?_; try simp only [Ap]
      refine tH 6 ?_; try simp only [Ap]
      refine tH 7 ?_; try simp only [Ap]
      refine tH 8 ?_; try simp only [Ap]
      refine tH 9 ?_; try simp only [Ap]
      refine wpAnyH_ready (rs := [10]) (by kernel_rfl) (by simp) ?_
      refine AllReadyH.cons rfl (fun K hK => ?_) AllReadyH.nil
      go_simp
      refine (Hs.out _).mono ?_
      rintro r v2 ⟨rfl, d2⟩
      have hb2 := after hb1 d2
      have hB2 := hB1.below d2 hB1.lt
      refine hK.out _ _ ⟨hB2.cell 0, hB2.cell 1, hB2.cell 2, hB2.cell 3⟩ (fun hHeld => ?_)
      clear hK K
      try simp only [Ap]
      refine tH 11 ?_; try simp only [Ap]
      refine tH 12 ?_; try simp only [Ap]
      refine wpAnyH_done (by kernel_rfl) ?_ _
      have HB2 := Lib.hid hB2
      have Hb2 := Lib.hid hb2
      have c0 := hB2.cell 0
      have c3 := hB2.cell 3
      simp at c0 c3
      clear hB0 hb0 hB1 hb1 hB2 hb2 hle2 hle3 hle' hwr
      go_wp2_with fail
      clear c0 c3
      go_loopw [3] (fun s3 wr => ∃ i : Nat, n ≤ i ∧ i ≤ SZ ∧ s3 = .int .i64 (i : Int) ∧ RowKit.Hid (∀ j, n ≤ j → j < i → BT j = false) ∧ RowKit.Hid (Blk wr g 51 #[.bool v, .int .u64 (h : Int), .int .u64 (l : Int), .int .u8 (n : Int)]) ∧ RowKit.Hid (Below w.heap.size w wr)) (fun s3 _ => SZ - (intOf s3).toNat)
      case atStart => exact ⟨n, Nat.le_refl _, hle, rfl, Lib.hid (fun j h1 h2 => by omega), HB2, Hb2⟩
      case round =>
        obtain ⟨i, hi1, hi2, rfl, hz, hB, hb⟩ := hrel
        have c0 := hB.out.cell 0
        have c1 := hB.out.cell 1
        have c2 := hB.out.cell 2
        simp at c0 c1 c2
        by_cases hlt : i < SZ
        · have hlt' : (i : Int) < (SZ : Int) := by omega
          have HI := Lib.hid (HbH.out i hlt)
          obtain ⟨X, hX⟩ : ∃ x, x = BT i := ⟨_, rfl⟩
          rw [← hX] at HI
          have HX := Lib.hid hX
          clear hX
          cases X
          all_goals
            go_wp2_with (first
              | (go_at_call 106; (with_reducible refine (Hs.out _).mono ?_); rintro r w1 ⟨rfl, d1⟩; have hb1 := after hb.out d1; have hB1 := hB.out.below d1 hB.out.lt; clear c0 c1 c2; have c0 := hB1.cell 0; have c1 := hB1.cell 1; have c2 := hB1.cell 2; simp at c0 c1 c2)
              | (go_at_call 107; (with_reducible refine (HI.out _).mono ?_); rintro r w2 ⟨rfl, d2⟩; have hb2 := after hb1 d2; have hB2 := hB1.below d2 hB1.lt))
          · go_roundw
            case rel => exact ⟨i + 1, by omega, by omega, by go_num, Lib.hid (fun j h1 h2 => by
                by_cases e : j = i
                · rw [e, ← HX.out]
                · exact hz.out j h1 (by omega)), Lib.hid hB2, Lib.hid hb2⟩
            case measure => simp [intOf]; omega
          · go_ret
            refine ⟨?_, hb2⟩
            cases RR with
            | false => rfl
            | true => have := HBH.out.2 rfl i hi1 hlt; rw [← HX.out] at this; cases this
        · have hlt' : ¬ (i : Int) < (SZ : Int) := by omega
          go_wp2_with (go_at_call 106; (with_reducible refine (Hs.out _).mono ?_); rintro r w1 ⟨rfl, d1⟩; have hb1 := after hb.out d1)
          go_ret
          exact ⟨show Ending.returned (.bool true) = _ by rw [HBH.out.1 (fun j h1 h2 => hz.out j h1 (by omega))], hb1⟩
    · have hle' : (SZ : Int) < (n : Int) := by omega
      have hle2 : decide ((SZ : Int) < (n : Int)) = true := decide_eq_true hle'
      have hle3 : decide (SZ < n) = true := decide_eq_true (by omega)
      rw [HN hle]
      clear HM HN HB Hb
      have hwr : IntKind.i64.wrap (n : Int) = n := IntWalk.i64_in _ (by omega)
      go_enter Tryz.func66, Tryz.ntmps66
      go_wp2_with fail
      generalize w.alloc (.cells #[.bool v, .int .u64 (h : Int), .int .u64 (l : Int), .int .u8 (n : Int)] 51) = v0 at hB0 hb0 ⊢
      generalize hg : w.heap.size = g at hB0 ⊢
      have hB0 := hB0.drew
      refine wp_region_held_drew (S := (fun w' => w'.cell? ⟨g, 0, none⟩ = some (.bool v) ∧ w'.cell? ⟨g, 1, none⟩ = some (.int .u64 (h : Int)) ∧ w'.cell? ⟨g, 2, none⟩ = some (.int .u64 (l : Int)) ∧ w'.cell? ⟨g, 3, none⟩ = some (.int .u8 (n : Int)))) (by kernel_rfl) ⟨hB0.cell 0, hB0.cell 1, hB0.cell 2, hB0.cell 3⟩ (fun hHeld => ?_)
      refine tH 0 ?_; try simp only [Ap]
      refine tH 1 ?_; try simp only [Ap]
      refine wpAnyH_ready (rs := [2]) (by kernel_rfl) (by simp) ?_
      refine AllReadyH.cons rfl (fun K hK => ?_) AllReadyH.nil
      go_simp
      refine (Hm.out _).mono ?_
      rintro r v1 ⟨rfl, d1⟩
      have hb1 := after hb0 d1
      have hB1 := hB0.below d1 hB0.lt
      refine hK.out _ _ ⟨hB1.cell 0, hB1.cell 1, hB1.cell 2, hB1.cell 3⟩ (fun hHeld => ?_)
      clear hK K
      try simp only [Ap]
      refine tH 3 ?_; try simp only [Ap]
      refine tH 4 ?_; try simp only [Ap]
      refine tH 5 ?_; try simp only [Ap]
      refine tH 6 ?_; try simp only [Ap]
      refine tH 7 ?_; try simp only [Ap]
      refine tH 8 ?_; try simp only [Ap]
      refine tH 9 ?_; try simp only [Ap]
      refine wpAnyH_ready (rs := [10]) (by kernel_rfl) (by simp) ?_
      refine AllReadyH.cons rfl (fun K hK => ?_) AllReadyH.nil
      go_simp
      refine (Hs.out _).mono ?_
      rintro r v2 ⟨rfl, d2⟩
      have hb2 := after hb1 d2
      have hB2 := hB1.below d2 hB1.lt
      refine hK.out _ _ ⟨hB2.cell 0, hB2.cell 1, hB2.cell 2, hB2.cell 3⟩ (fun hHeld => ?_)
      clear hK K
      try simp only [Ap]
      refine tH 11 ?_; try simp only [Ap]
      refine tH 12 ?_; try simp only [Ap]
      refine wpAnyH_done (by kernel_rfl) ?_ _
      go_wp2_with fail
      go_ret
      exact ⟨rfl, hb2⟩

end Go.Proofs.YtbiglifngfgffaaGreatDoor

/- PrefixText: the walks. (Printed by pt_text.py.) -/
namespace Go.Proofs.YtbiglifngfgffaaGreatDoor
open Go.RowKit
attribute [local go_sem ↓] Go.wp_at_zero Go.wp_at_succ

def ptextB (p : Pf) : ByteArray := ⟨(ptext p).toArray⟩
theorem ptextB_iff {p : Pf} {s : ByteArray} : ptextB p = s ↔ ptext p = s.data.toList := by
  constructor
  · intro h; rw [← h]; unfold ptextB; simp
  · intro h
    unfold ptextB
    rw [h]
theorem textB_size (a : Ad) : (textB a).size ≤ 60 := by
  have := textL_len a
  simpa [textB, ByteArray.size] using this

set_option maxHeartbeats 4000000 in
set_option maxRecDepth 100000 in
theorem prefixText_any {w : World} (env : Env w) (p : Pf) (ok : p.Ok) : Calls Tryz.prog 21 #[.agg p.cells] w (Got (.string (ptextB p)) w) := by
  have hm := mayPrefix_any p ok
  have htx := fun v (hv : Below w.heap.size w v) => text_any (env.below hv) p.a ok.a
  have hit := fun v (hv : Below w.heap.size w v) => itoa_any (env.below hv) p.bits (by have := ok.bits; omega)
  have htl := textB_size p.a
  have hn := ok.bits
  have hdl : (⟨(Lib.decDigits p.bits).toArray⟩ : ByteArray).size ≤ 3 := by
    have := decL_len p.bits (by omega)
    simpa [ByteArray.size] using this
  have hp0 : pmay p = false → ptextB p = ⟨#[]⟩ := fun h => by unfold ptextB ptext; rw [if_neg (by rw [h]; decide)]
  have hp1 : pmay p = true → ptextB p = textB p.a ++ ⟨#[47]⟩ ++ ⟨(Lib.decDigits p.bits).toArray⟩ := fun h => by
    unfold ptextB ptext textB
    rw [if_pos h]
    apply ByteArray.ext
    simp
  generalize ptextB p = PB at hp0 hp1 ⊢
  generalize pmay p = M at hm hp0 hp1
  obtain ⟨⟨v, x, l⟩, n⟩ := p
  unfold Pf.cells at *
  unfold Ad.cells at htx
  simp only at hm htx hit hn hdl hp1 ⊢
  generalize (⟨(Lib.decDigits n).toArray⟩ : ByteArray) = D at hit hdl hp1
  generalize textB ⟨v, x, l⟩ = TB at htx hp1 htl
  have Hm := Lib.hid hm
  have HTX := Lib.hid htx
  have HIT := Lib.hid hit
  have Hp0 := Lib.hid hp0
  have Hp1 := Lib.hid hp1
  have hB0 := Blk.new w 51 #[.bool v, .int .u64 (x : Int), .int .u64 (l : Int), .int .u8 (n : Int)]
  have hb0 := boxed w (.cells #[.bool v, .int .u64 (x : Int), .int .u64 (l : Int), .int .u8 (n : Int)] 51)
  clear hm htx hit hp0 hp1 env ok
  cases M with
  | false =>
    rw [Hp0.out rfl]
    go_enter Tryz.func21, Tryz.ntmps21
    go_wp2_with (go_at_call 44; (with_reducible refine (Hm.out _).mono ?_); rintro r w1 ⟨rfl, g1⟩; have hb1 := after hb0 g1)
    go_ret
    exact ⟨rfl, hb1⟩
  | true =>
    have z1 : ¬ 9223372036854775807 < TB.size + 1 := by omega
    have z2 : ¬ 9223372036854775807 < TB.size + 1 + D.size := by omega
    have hwr : IntKind.i64.wrap (n : Int) = (n : Int) := by rw [IntKind.wrap_i64]; omega
    go_enter Tryz.func21, Tryz.ntmps21
    go_wp2_with (go_at_call 44; (with_reducible refine (Hm.out _).mono ?_); rintro r w1 ⟨rfl, g1⟩; have hb1 := after hb0 g1; have hB1 := hB0.below g1 hB0.lt; clear g1)
    have ht := hB1.drew
    have hv := hb1.drew
    have b0 := ht.cell 0
    have b1 := ht.cell 1
    have b2 := ht.cell 2
    have b3 := ht.cell 3
    simp at b0 b1 b2 b3
    go_region_held3 (fun w' => w'.cell? ⟨w.heap.size, 0, none⟩ = some (.bool v) ∧ w'.cell? ⟨w.heap.size, 1, none⟩ = some (.int .u64 (x : Int)) ∧ w'.cell? ⟨w.heap.size, 2, none⟩ = some (.int .u64 (l : Int)) ∧ w'.cell? ⟨w.heap.size, 3, none⟩ = some (.int .u8 (n : Int)))
      (exact ⟨b0, b1, b2, b3⟩)
      (first
        | (go_at_call 49; (with_reducible refine (HTX.out _ hv).mono ?_); rintro r wq ⟨rfl, gq⟩; have hv := after hv gq; have ht := ht.below gq ht.lt; clear gq; have b0 := ht.cell 0; have b1 := ht.cell 1; have b2 := ht.cell 2; have b3 := ht.cell 3; simp at b0 b1 b2 b3)
        | (go_at_call 50; (with_reducible refine (HIT.out _ hv).mono ?_); rintro r wq ⟨rfl, gq⟩; have hv := after hv gq; have ht := ht.below gq ht.lt; clear gq; have b0 := ht.cell 0; have b1 := ht.cell 1; have b2 := ht.cell 2; have b3 := ht.cell 3; simp at b0 b1 b2 b3))
    all_goals go_wp2_with fail
    all_goals
      go_ret
      exact ⟨show Ending.returned (.string (TB ++ ⟨#[47]⟩ ++ D)) = _ by rw [Hp1.out (by simp)], hv⟩

set_option maxHeartbeats 4000000 in
set_option maxRecDepth 100000 in
theorem rprefixText_any {w : World} (env : Env w) (p : Pf) (ok : p.Ok) : Calls Tryz.prog 69 #[.agg p.cells] w (Got (.string (ptextB p)) w) := by
  have hm := rmayPrefix_any p ok
  have htx := fun v (hv : Below w.heap.size w v) => rtext_any (env.below hv) p.a ok.a
  have hit := fun v (hv : Below w.heap.size w v) => itoa_any (env.below hv) p.bits (by have := ok.bits; omega)
  have htl := textB_size p.a
  have hn := ok.bits
  have hdl : (⟨(Lib.decDigits p.bits).toArray⟩ : ByteArray).size ≤ 3 := by
    have := decL_len p.bits (by omega)
    simpa [ByteArray.size] using this
  have hp0 : pmay p = false → ptextB p = ⟨#[]⟩ := fun h => by unfold ptextB ptext; rw [if_neg (by rw [h]; decide)]
  have hp1 : pmay p = true → ptextB p = textB p.a ++ ⟨#[47]⟩ ++ ⟨(Lib.decDigits p.bits).toArray⟩ := fun h => by
    unfold ptextB ptext textB
    rw [if_pos h]
    apply ByteArray.ext
    simp
  generalize ptextB p = PB at hp0 hp1 ⊢
  generalize pmay p = M at hm hp0 hp1
  obtain ⟨⟨v, x, l⟩, n⟩ := p
  unfold Pf.cells at *
  unfold Ad.cells at htx
  simp only at hm htx hit hn hdl hp1 ⊢
  generalize (⟨(Lib.decDigits n).toArray⟩ : ByteArray) = D at hit hdl hp1
  generalize textB ⟨v, x, l⟩ = TB at htx hp1 htl
  have Hm := Lib.hid hm
  have HTX := Lib.hid htx
  have HIT := Lib.hid hit
  have Hp0 := Lib.hid hp0
  have Hp1 := Lib.hid hp1
  have hB0 := Blk.new w 51 #[.bool v, .int .u64 (x : Int), .int .u64 (l : Int), .int .u8 (n : Int)]
  have hb0 := boxed w (.cells #[.bool v, .int .u64 (x : Int), .int .u64 (l : Int), .int .u8 (n : Int)] 51)
  clear hm htx hit hp0 hp1 env ok
  cases M with
  | false =>
    rw [Hp0.out rfl]
    go_enter Tryz.func69, Tryz.ntmps69
    go_wp2_with (go_at_call 66; (with_reducible refine (Hm.out _).mono ?_); rintro r w1 ⟨rfl, g1⟩; have hb1 := after hb0 g1)
    go_ret
    exact ⟨rfl, hb1⟩
  | true =>
    have z1 : ¬ 9223372036854775807 < TB.size + 1 := by omega
    have z2 : ¬ 9223372036854775807 < TB.size + 1 + D.size := by omega
    have hwr : IntKind.i64.wrap (n : Int) = (n : Int) := by rw [IntKind.wrap_i64]; omega
    go_enter Tryz.func69, Tryz.ntmps69
    go_wp2_with (go_at_call 66; (with_reducible refine (Hm.out _).mono ?_); rintro r w1 ⟨rfl, g1⟩; have hb1 := after hb0 g1; have hB1 := hB0.below g1 hB0.lt; clear g1)
    have ht := hB1.drew
    have hv := hb1.drew
    have b0 := ht.cell 0
    have b1 := ht.cell 1
    have b2 := ht.cell 2
    have b3 := ht.cell 3
    simp at b0 b1 b2 b3
    go_region_held3 (fun w' => w'.cell? ⟨w.heap.size, 0, none⟩ = some (.bool v) ∧ w'.cell? ⟨w.heap.size, 1, none⟩ = some (.int .u64 (x : Int)) ∧ w'.cell? ⟨w.heap.size, 2, none⟩ = some (.int .u64 (l : Int)) ∧ w'.cell? ⟨w.heap.size, 3, none⟩ = some (.int .u8 (n : Int)))
      (exact ⟨b0, b1, b2, b3⟩)
      (first
        | (go_at_call 110; (with_reducible refine (HTX.out _ hv).mono ?_); rintro r wq ⟨rfl, gq⟩; have hv := after hv gq; have ht := ht.below gq ht.lt; clear gq; have b0 := ht.cell 0; have b1 := ht.cell 1; have b2 := ht.cell 2; have b3 := ht.cell 3; simp at b0 b1 b2 b3)
        | (go_at_call 50; (with_reducible refine (HIT.out _ hv).mono ?_); rintro r wq ⟨rfl, gq⟩; have hv := after hv gq; have ht := ht.below gq ht.lt; clear gq; have b0 := ht.cell 0; have b1 := ht.cell 1; have b2 := ht.cell 2; have b3 := ht.cell 3; simp at b0 b1 b2 b3))
    all_goals go_wp2_with fail
    all_goals
      go_ret
      exact ⟨show Ending.returned (.string (TB ++ ⟨#[47]⟩ ++ D)) = _ by rw [Hp1.out (by simp)], hv⟩
end Go.Proofs.YtbiglifngfgffaaGreatDoor

/- ReadPrefix, the program's: the walk. (Printed by pt_read.py.) -/
namespace Go.Proofs.YtbiglifngfgffaaGreatDoor
open Go.RowKit

theorem load_pf {w : World} {g : Nat} {v0 v1 v2 v3 : Value} (h : Blk w g 51 #[v0, v1, v2, v3]) : (loadVar 51 ⟨g, 0, none⟩).run Tryz.prog w = .ok (.agg #[v0, v1, v2, v3]) w := by
  have c0 := h.cell 0
  have c1 := h.cell 1
  have c2 := h.cell 2
  have c3 := h.cell 3
  simp at c0 c1 c2 c3
  simp [loadVar, go_sem, c0, c1, c2, c3]
theorem four {W w : World} {g : Nat} {z0 z1 z2 z3 v0 v1 v2 v3 : Value} (hB : Blk w g 51 #[z0, z1, z2, z3]) (hb : Below W.heap.size W w) (hg : W.heap.size ≤ g) : Blk ((((w.setCell ⟨g, 0, none⟩ v0).setCell ⟨g, 1, none⟩ v1).setCell ⟨g, 2, none⟩ v2).setCell ⟨g, 3, none⟩ v3) g 51 #[v0, v1, v2, v3] ∧ Below W.heap.size W ((((w.setCell ⟨g, 0, none⟩ v0).setCell ⟨g, 1, none⟩ v1).setCell ⟨g, 2, none⟩ v2).setCell ⟨g, 3, none⟩ v3) := by
  have s0 : Blk (w.setCell ⟨g, 0, none⟩ v0) g 51 #[v0, z1, z2, z3] := hB.set_ 0 v0
  have s1 : Blk ((w.setCell ⟨g, 0, none⟩ v0).setCell ⟨g, 1, none⟩ v1) g 51 #[v0, v1, z2, z3] := s0.set_ 1 v1
  have s2 : Blk (((w.setCell ⟨g, 0, none⟩ v0).setCell ⟨g, 1, none⟩ v1).setCell ⟨g, 2, none⟩ v2) g 51 #[v0, v1, v2, z3] := s1.set_ 2 v2
  have s3 : Blk ((((w.setCell ⟨g, 0, none⟩ v0).setCell ⟨g, 1, none⟩ v1).setCell ⟨g, 2, none⟩ v2).setCell ⟨g, 3, none⟩ v3) g 51 #[v0, v1, v2, v3] := s2.set_ 3 v3
  exact ⟨s3, (((hb.setCell (p := ⟨g, 0, none⟩) hg v0).setCell (p := ⟨g, 1, none⟩) hg v1).setCell (p := ⟨g, 2, none⟩) hg v2).setCell (p := ⟨g, 3, none⟩) hg v3⟩
theorem ret_pf {fn : Func} {a : Act} {W w : World} {g x y : Nat} {v0 v1 v2 v3 u : Value} (hres : fn.results = #[.cell x 51, .tmp y]) (hB : Blk w g 51 #[v0, v1, v2, v3]) (hb : Below W.heap.size W w) (h1 : a.tmps.getD x undef = .pointer (some ⟨g, 0, none⟩)) (h2 : a.tmps.getD y undef = u) (hd : a.defers = []) : bodyPost Tryz.prog fn (Got (.tuple #[.agg #[v0, v1, v2, v3], u]) W) .ret a w :=
  bodyPost_ret (results_ct hres h1 h2 (load_pf hB)) hd ⟨rfl, hb⟩
theorem ret_pf4 {fn : Func} {a : Act} {W w : World} {g x y : Nat} {z0 z1 z2 z3 v0 v1 v2 v3 u : Value} (hres : fn.results = #[.cell x 51, .tmp y]) (hB : Blk w g 51 #[z0, z1, z2, z3]) (hb : Below W.heap.size W w) (hg : W.heap.size ≤ g) (h1 : a.tmps.getD x undef = .pointer (some ⟨g, 0, none⟩)) (h2 : a.tmps.getD y undef = u) (hd : a.defers = []) : bodyPost Tryz.prog fn (Got (.tuple #[.agg #[v0, v1, v2, v3], u]) W) .ret a ((((w.setCell ⟨g, 0, none⟩ v0).setCell ⟨g, 1, none⟩ v1).setCell ⟨g, 2, none⟩ v2).setCell ⟨g, 3, none⟩ v3) :=
  ret_pf hres (four hB hb hg).1 (four hB hb hg).2 h1 h2 hd
def preadV (o : Option Pf) : Value := match o with
  | none => .tuple #[.agg #[.bool false, .int .u64 0, .int .u64 0, .int .u8 0], .int .i64 8]
  | some p => .tuple #[.agg p.cells, .int .i64 0]
/- What Read answers, in one form. -/
theorem readV_form (o : Option Ad) (ho : ∀ a, o = some a → a.Ok) : ∃ (a : Ad) (e : Nat), a.Ok ∧ readV o = .tuple #[.agg #[.bool a.v6, .int .u64 (a.hi : Int), .int .u64 (a.lo : Int)], .int .i64 (e : Int)] ∧ ((e = 0 ∧ o = some a) ∨ (e = 8 ∧ o = none)) := by
  cases o with
  | none => exact ⟨⟨false, 0, 0⟩, 8, ⟨by decide, by decide⟩, rfl, Or.inr ⟨rfl, rfl⟩⟩
  | some a => exact ⟨a, 0, ho a rfl, rfl, Or.inl ⟨rfl, rfl⟩⟩

set_option maxHeartbeats 8000000 in
set_option maxRecDepth 100000 in
theorem readPrefix_any {w : World} (env : Env w) (s : ByteArray) (hs : s.size ≤ 2000000) : Calls Tryz.prog 95 #[.string s] w (Got (preadV (preadL s.data.toList)) w) := by
  obtain ⟨RL, hRL⟩ : ∃ r, r = preadL s.data.toList := ⟨_, rfl⟩
  rw [← hRL]
  have hB0 := Blk.new w 51 #[.bool false, .int .u64 0, .int .u64 0, .int .u8 0]
  have hb0 := boxed w (.cells #[.bool false, .int .u64 0, .int .u64 0, .int .u8 0] 51)
  obtain ⟨m, hm⟩ := (env.below hb0).mx
  have hcut := Tryz.strings_Cut s ⟨#[47]⟩ m (w.alloc (.cells #[.bool false, .int .u64 0, .int .u64 0, .int .u8 0] 51)) (by omega) hm
  have hcl := cut_len s.data.toList [47]
  rw [show (⟨#[47]⟩ : ByteArray).data.toList = [47] from rfl] at hcut
  unfold preadL at hRL
  generalize Lib.cut s.data.toList [47] = C at hcl hcut hRL
  obtain ⟨c1, c2, gap⟩ := C
  simp only at hcl hcut hRL
  rw [show s.data.toList.length = s.size from (Lib.size_eq s).symm] at hcl
  have hrd := fun v (hv : Below w.heap.size w v) => read_any (env.below hv) ⟨c1.toArray⟩ (by rw [show (⟨c1.toArray⟩ : ByteArray).size = c1.length by simp [ByteArray.size]]; omega)
  have hpu := fun v (hv : Below w.heap.size w v) => pu10_8 (env.below hv) ⟨c2.toArray⟩ (by rw [show (⟨c2.toArray⟩ : ByteArray).size = c2.length by simp [ByteArray.size]]; omega)
  rw [show (⟨c1.toArray⟩ : ByteArray).data.toList = c1 by simp] at hrd
  rw [show (⟨c2.toArray⟩ : ByteArray).data.toList = c2 by simp] at hpu
  obtain ⟨A, er, hA, hv, hro⟩ := readV_form (readL c1) (fun a h => (readL_some h).2.1)
  rw [hv] at hrd
  generalize readL c1 = RO at hRL hro
  clear hv
  have hnl : ∀ n, num1 10 256 c2 = some n → n < 256 := fun n h => num1_lt h
  unfold PuGot PuRes at hpu
  generalize num1 10 256 c2 = NO at hRL hpu hnl
  have hptx := fun n (hn : n < 256) v (hv : Below w.heap.size w v) => prefixText_any (env.below hv) ⟨A, n⟩ ⟨hA, hn⟩
  have hiff : ∀ n, ptextB ⟨A, n⟩ = s ↔ ptext ⟨A, n⟩ = s.data.toList := fun n => ptextB_iff
  have hcells : ∀ n, Pf.cells ⟨A, n⟩ = #[.bool A.v6, .int .u64 (A.hi : Int), .int .u64 (A.lo : Int), .int .u8 (n : Int)] := fun _ => rfl
  simp only [hcells] at hptx
  obtain ⟨T1, hT1⟩ : ∃ t, t = (⟨c1.toArray⟩ : ByteArray) := ⟨_, rfl⟩
  obtain ⟨T2, hT2⟩ : ∃ t, t = (⟨c2.toArray⟩ : ByteArray) := ⟨_, rfl⟩
  rw [← hT1] at hrd hcut
  rw [← hT2] at hpu hcut
  have hr0 : gap = false → RL = none := fun h => by rw [hRL, h]; rfl
  have hr1 : er = 8 → RL = none := fun h => by
    rcases hro with ⟨e, _⟩ | ⟨_, e⟩
    · omega
    · rw [hRL, e]; split <;> rfl
  have hr2 : NO = none → RL = none := fun h => by
    rw [hRL, h]
    split
    · rfl
    · cases RO <;> rfl
  have hr3 : gap = true → er = 0 → ∀ n, NO = some n → RL = if ptextB ⟨A, n⟩ = s then some ⟨A, n⟩ else none := fun h1 h2 n h3 => by
    rcases hro with ⟨_, e⟩ | ⟨e, _⟩
    · rw [hRL, h1, h3, e]
      simp only
      rw [if_neg (by decide)]
      by_cases h : ptextB ⟨A, n⟩ = s
      · rw [if_pos h, if_pos ((hiff n).1 h)]
      · rw [if_neg h, if_neg (fun e => h ((hiff n).2 e))]
    · omega
  have her : er = 0 ∨ er = 8 := by rcases hro with ⟨e, _⟩ | ⟨e, _⟩ <;> omega
  obtain ⟨PB, hPB⟩ : ∃ f : Nat → ByteArray, f = fun n => ptextB ⟨A, n⟩ := ⟨_, rfl⟩
  have hPB1 : ∀ n, ptextB ⟨A, n⟩ = PB n := fun n => by rw [hPB]
  simp only [hPB1] at hr3 hptx
  generalize A.v6 = av at hrd hptx hcells
  generalize A.hi = ahi at hrd hptx hcells
  generalize A.lo = alo at hrd hptx hcells
  have HCut := Lib.hid hcut
  have HRD := Lib.hid hrd
  have HPU := Lib.hid hpu
  have HPT := Lib.hid hptx
  have Hr0 := Lib.hid hr0
  have Hr1 := Lib.hid hr1
  have Hr2 := Lib.hid hr2
  have Hr3 := Lib.hid hr3
  have Hnl := Lib.hid hnl
  have Hcells := Lib.hid hcells
  have HB0 := Lib.hid hB0
  have Hb0 := Lib.hid hb0
  clear hcut hrd hpu hptx hr0 hr1 hr2 hr3 hnl hcells hB0 hb0 hiff hro hRL hT1 hT2 hPB hPB1 hA hm hcl env
  go_enter Tryz.func95, Tryz.ntmps95
  go_wp2_with (go_at_call 123; (with_reducible refine HCut.out.mono ?_); rintro r w2 ⟨rfl, n2, rfl⟩)
  go_at_call 124
  refine (HRD.out _ (after Hb0.out (below_drewN _ n2))).mono ?_
  rintro r w3 ⟨rfl, g3⟩
  have hB3 := (HB0.out.drewN n2).below g3 (HB0.out.drewN n2).lt
  have hb3 := after (after Hb0.out (below_drewN _ n2)) g3
  have hB4 := hB3.alloc (.cells #[.bool av, .int .u64 (ahi : Int), .int .u64 (alo : Int)] 49)
  have hD4 := Blk.new w3 49 #[.bool av, .int .u64 (ahi : Int), .int .u64 (alo : Int)]
  have hb4 := after hb3 (boxed w3 (.cells #[.bool av, .int .u64 (ahi : Int), .int .u64 (alo : Int)] 49))
  have hw3 : w.heap.size < w3.heap.size := hB3.lt
  clear hB3 hb3 g3
  go_upto_region 3 with fail
  generalize w3.alloc (.cells #[.bool av, .int .u64 (ahi : Int), .int .u64 (alo : Int)] 49) = w4 at hB4 hD4 hb4 ⊢
  generalize w3.heap.size = g1 at hD4 hw3 ⊢
  have HB4 := Lib.hid hB4
  have HD4 := Lib.hid hD4
  have Hb4 := Lib.hid hb4
  have HPU4 := Lib.hid (HPU.out w4 hb4)
  clear hB4 hD4 hb4
  go_wp2_with fail
  go_at_call 125
  refine HPU4.out.mono ?_
  rintro e w5 ⟨hres, g5⟩
  have hB5 := HB4.out.below g5 HB4.out.lt
  have hD5 := HD4.out.below g5 HD4.out.lt
  have hb5 := after Hb4.out g5
  have a0 := hD5.cell 0
  have a1 := hD5.cell 1
  have a2 := hD5.cell 2
  simp at a0 a1 a2
  have HB5 := Lib.hid hB5
  have Hb5 := Lib.hid hb5
  clear hB5 hD5 hb5 g5
  rcases hres with ⟨n, hNO, rfl⟩ | ⟨hNO, n, tp, p, hn64, rfl⟩
  · have hn := Hnl.out n hNO
    have hwr : IntKind.u8.wrap (n : Int) = (n : Int) := by rw [IntKind.wrap_u8]; omega
    go_upto_region 5 with fail
    have hB6 := HB5.out.alloc (.cells #[.bool av, .int .u64 (ahi : Int), .int .u64 (alo : Int), .int .u8 (n : Int)] 51)
    have hD6 := Blk.new w5 51 #[.bool av, .int .u64 (ahi : Int), .int .u64 (alo : Int), .int .u8 (n : Int)]
    have hb6 := after Hb5.out (boxed w5 (.cells #[.bool av, .int .u64 (ahi : Int), .int .u64 (alo : Int), .int .u8 (n : Int)] 51))
    have hw5 : w.heap.size < w5.heap.size := HB5.out.lt
    generalize w5.alloc (.cells #[.bool av, .int .u64 (ahi : Int), .int .u64 (alo : Int), .int .u8 (n : Int)] 51) = w6 at hB6 hD6 hb6 ⊢
    generalize w5.heap.size = g2 at hD6 hw5 ⊢
    clear a0 a1 a2
    have b0 := hD6.cell 0
    have b1 := hD6.cell 1
    have b2 := hD6.cell 2
    have b3 := hD6.cell 3
    simp at b0 b1 b2 b3
    have c0 := hB6.cell 0
    have c1 := hB6.cell 1
    have c2 := hB6.cell 2
    have c3 := hB6.cell 3
    simp at c0 c1 c2 c3
    have fr := fun i => hB6.frozen i
    have HB6 := Lib.hid hB6
    have HD6 := Lib.hid hD6
    have Hb6 := Lib.hid hb6
    clear hB6 hD6 hb6
    have HPT6 := Lib.hid (HPT.out n hn w6 Hb6.out)
    cases gap with
    | false =>
      have Hrn := Lib.hid (Hr0.out rfl)
      go_wp2_with fail
      rw [Hrn.out]
      show bodyPost _ _ (Got (.tuple #[.agg #[.bool false, .int .u64 0, .int .u64 0, .int .u8 0], .int .i64 8]) w) _ _ _
      exact ret_pf4 (g := w.heap.size) (x := 2) (y := 3) rfl HB6.out Hb6.out (Nat.le_refl _) rfl rfl rfl
    | true =>
      rcases her with rfl | rfl
      · have hrl := Hr3.out rfl rfl n hNO
        by_cases hts : PB n = s
        · have hq := str_same hts
          rw [if_pos hts] at hrl
          have Hrl := Lib.hid hrl
          clear hrl hts
          go_wp2_with (go_at_call 21; (with_reducible refine HPT6.out.mono ?_); rintro r w7 ⟨rfl, g7⟩; have hb7 := Lib.hid (after Hb6.out g7); have hB7 := HB6.out.below g7 HB6.out.lt; have hD7 := HD6.out.below g7 HD6.out.lt; clear b0 b1 b2 b3 c0 c1 c2 c3 fr; have b0 := hD7.cell 0; have b1 := hD7.cell 1; have b2 := hD7.cell 2; have b3 := hD7.cell 3; simp at b0 b1 b2 b3; have c0 := hB7.cell 0; have c1 := hB7.cell 1; have c2 := hB7.cell 2; have c3 := hB7.cell 3; simp at c0 c1 c2 c3; have fr := (fun i => hB7.frozen i); have HB7 := Lib.hid hB7; clear hB7 hD7 g7)
          rw [Hrl.out]
          show bodyPost _ _ (Got (.tuple #[.agg (Pf.cells ⟨A, n⟩), .int .i64 0]) w) _ _ _
          rw [Hcells.out]
          exact ret_pf4 (g := w.heap.size) (x := 2) (y := 3) rfl HB7.out hb7.out (Nat.le_refl _) rfl rfl rfl
        · have hq := str_diff hts
          rw [if_neg hts] at hrl
          have Hrl := Lib.hid hrl
          clear hrl hts
          go_wp2_with (go_at_call 21; (with_reducible refine HPT6.out.mono ?_); rintro r w7 ⟨rfl, g7⟩; have hb7 := Lib.hid (after Hb6.out g7); have hB7 := HB6.out.below g7 HB6.out.lt; have hD7 := HD6.out.below g7 HD6.out.lt; clear b0 b1 b2 b3 c0 c1 c2 c3 fr; have b0 := hD7.cell 0; have b1 := hD7.cell 1; have b2 := hD7.cell 2; have b3 := hD7.cell 3; simp at b0 b1 b2 b3; have c0 := hB7.cell 0; have c1 := hB7.cell 1; have c2 := hB7.cell 2; have c3 := hB7.cell 3; simp at c0 c1 c2 c3; have fr := (fun i => hB7.frozen i); have HB7 := Lib.hid hB7; clear hB7 hD7 g7)
          rw [Hrl.out]
          show bodyPost _ _ (Got (.tuple #[.agg #[.bool false, .int .u64 0, .int .u64 0, .int .u8 0], .int .i64 8]) w) _ _ _
          exact ret_pf4 (g := w.heap.size) (x := 2) (y := 3) rfl HB7.out hb7.out (Nat.le_refl _) rfl rfl rfl
      · have Hrn := Lib.hid (Hr1.out rfl)
        go_wp2_with fail
        rw [Hrn.out]
        show bodyPost _ _ (Got (.tuple #[.agg #[.bool false, .int .u64 0, .int .u64 0, .int .u8 0], .int .i64 8]) w) _ _ _
        exact ret_pf4 (g := w.heap.size) (x := 2) (y := 3) rfl HB6.out Hb6.out (Nat.le_refl _) rfl rfl rfl
  · have Hrn := Lib.hid (Hr2.out hNO)
    clear hNO
    go_upto_region 5 with fail
    have hB6 := HB5.out.alloc (.cells #[.bool av, .int .u64 (ahi : Int), .int .u64 (alo : Int), .int .u8 ((n : Int) % 256)] 51)
    have hD6 := Blk.new w5 51 #[.bool av, .int .u64 (ahi : Int), .int .u64 (alo : Int), .int .u8 ((n : Int) % 256)]
    have hb6 := after Hb5.out (boxed w5 (.cells #[.bool av, .int .u64 (ahi : Int), .int .u64 (alo : Int), .int .u8 ((n : Int) % 256)] 51))
    have hw5 : w.heap.size < w5.heap.size := HB5.out.lt
    generalize w5.alloc (.cells #[.bool av, .int .u64 (ahi : Int), .int .u64 (alo : Int), .int .u8 ((n : Int) % 256)] 51) = w6 at hB6 hD6 hb6 ⊢
    generalize w5.heap.size = g2 at hD6 hw5 ⊢
    clear a0 a1 a2
    have b0 := hD6.cell 0
    have b1 := hD6.cell 1
    have b2 := hD6.cell 2
    have b3 := hD6.cell 3
    simp at b0 b1 b2 b3
    have c0 := hB6.cell 0
    have c1 := hB6.cell 1
    have c2 := hB6.cell 2
    have c3 := hB6.cell 3
    simp at c0 c1 c2 c3
    have fr := fun i => hB6.frozen i
    have HB6 := Lib.hid hB6
    have HD6 := Lib.hid hD6
    have Hb6 := Lib.hid hb6
    clear hB6 hD6 hb6
    rcases her with rfl | rfl
    all_goals cases gap
    all_goals
      go_wp2_with fail
      rw [Hrn.out]
      show bodyPost _ _ (Got (.tuple #[.agg #[.bool false, .int .u64 0, .int .u64 0, .int .u8 0], .int .i64 8]) w) _ _ _
      exact ret_pf4 (g := w.heap.size) (x := 2) (y := 3) rfl HB6.out Hb6.out (Nat.le_refl _) rfl rfl rfl
end Go.Proofs.YtbiglifngfgffaaGreatDoor
