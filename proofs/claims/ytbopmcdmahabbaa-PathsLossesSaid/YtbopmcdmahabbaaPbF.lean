/- PathsLosses: the walk, limits that New takes. -/
import Derived.Test.YtbopmcdmahabbaaPbE
import Derived.IntWalk
namespace Go.Proofs.Ytbopmcdmahabbaa
open Go.RowKit

set_option maxHeartbeats 8000000 in
set_option maxRecDepth 100000 in
theorem losses_yes (wa li lo mo kk : Nat) (w : World) (h : okLim wa li lo mo) (hk : kk < 256) :
    Calls Try.prog 3 #[.agg #[.int .u64 (wa : Int), .int .u64 (li : Int), .int .i64 (lo : Int), .int .i64 (mo : Int)], .int .u8 (kk : Int)] w fun r w' => r = .returned (.bool true) ∧ Below w.heap.size w w' := by
  have hz := Blk.new w 24 #[.int .u64 (wa : Int), .int .u64 (li : Int), .int .i64 (lo : Int), .int .i64 (mo : Int)]
  have b := (Below.refl w.heap.size w).alloc (Nat.le_refl _) (.cells #[.int .u64 (wa : Int), .int .u64 (li : Int), .int .i64 (lo : Int), .int .i64 (mo : Int)] 24)
  have hs0 : (w.alloc (.cells #[.int .u64 (wa : Int), .int .u64 (li : Int), .int .i64 (lo : Int), .int .i64 (mo : Int)] 24)).heap.size = w.heap.size + 1 := by simp
  have hw0 : 1 ≤ wa := h.1.1
  have hw1 : wa ≤ 1099511627776 := h.1.2
  have hl0 : (1 : Int) ≤ (lo : Int) := h.2.2.1.1
  have hm0 : (1 : Int) ≤ (mo : Int) := h.2.2.2.1
  have hkm : (kk : Int).tmod 20 = ((kk % 20 : Nat) : Int) := by
    rw [Int.tmod_eq_emod_of_nonneg (by omega)]; omega
  have hk20 : kk % 20 < 20 := Nat.mod_lt _ (by omega)
  generalize hK : kk % 20 = K at hkm hk20
  have s1 : IntKind.u64.wrap (1 + (wa : Int)) = 1 + (wa : Int) := IntWalk.u64_in _ (by omega)
  have s2 : IntKind.u64.wrap (2 + (wa : Int)) = 2 + (wa : Int) := IntWalk.u64_in _ (by omega)
  have Hkm := Lib.hid hkm
  have HK := Lib.hid hK
  have S1 := Lib.hid s1
  have S2 := Lib.hid s2
  clear hkm hK s1 s2
  go_enter Try.func3, Try.ntmps3
  go_wp2_with fail
  generalize w.alloc (.cells #[.int .u64 (wa : Int), .int .u64 (li : Int), .int .i64 (lo : Int), .int .i64 (mo : Int)] 24) = W at hz b hs0 ⊢
  have hzl : w.heap.size < W.heap.size := by omega
  clear hs0
  go_at_call 7
  refine (new_yes wa li lo mo W h).mono ?_
  rintro r w0 ⟨rfl, l0, b0⟩
  go_wp2_with fail
  go_at_call 10
  refine (aE1 w0).mono ?_
  rintro r w1 ⟨rfl, d0⟩
  have l1 := l0.below d0
  have b1 := b0.trans (d0.mono l0.size)
  go_wp2_with fail
  go_at_call 9
  refine (l_add l1 (by omega)).mono ?_
  rintro r w2 ⟨rfl, l2, d1⟩
  have b2 := b1.trans d1
  go_wp2_with fail
  go_at_call 12
  refine (aT0 w2).mono ?_
  rintro r w3 ⟨rfl, d2⟩
  have l3 := l2.below d2
  have b3 := b2.trans (d2.mono l2.size)
  go_wp2_with fail
  go_at_call 10
  refine (aE1 w3).mono ?_
  rintro r w4 ⟨rfl, d3⟩
  have l4 := l3.below d3
  have b4 := b3.trans (d3.mono l3.size)
  go_wp2_with fail
  go_at_call 11
  refine (l_sent0 l4).mono ?_
  rintro r w5 ⟨rfl, l5, d4⟩
  have b5 := b4.trans d4
  go_wp2_with fail
  go_at_call 12
  refine (aT0 w5).mono ?_
  rintro r w6 ⟨rfl, d5⟩
  have l6 := l5.below d5
  have b6 := b5.trans (d5.mono l5.size)
  go_wp2_with fail
  go_at_call 10
  refine (aE1 w6).mono ?_
  rintro r w7 ⟨rfl, d6⟩
  have l7 := l6.below d6
  have b7 := b6.trans (d6.mono l6.size)
  go_wp2_with fail
  go_at_call 13
  refine (l_pong0 l7 hw0).mono ?_
  rintro r w8 ⟨rfl, l8, d7⟩
  have b8 := b7.trans d7
  clear l0 l1 l2 l3 l4 l5 l6 l7 b0 b1 b2 b3 b4 b5 b6 b7 d0 d1 d2 d3 d4 d5 d6 d7
  have hkm := Hkm.out
  go_wp2_with fail
  clear hkm
  go_loopw [8] (fun v8 wr => ∃ (i c : Nat), i ≤ K ∧ v8 = .int .i64 (i : Int) ∧ Live W.heap.size (W.heap.size + 2) (ls wa li lo mo [lp 1 (i : Int)] [] c none) wr ∧ Below W.heap.size W wr)
    (fun v8 _ => K - (intOf v8).toNat)
  case atStart =>
    refine ⟨0, 1, Nat.zero_le _, rfl, ?_, b8⟩
    rw [show ((0 : Nat) : Int) = 0 from rfl]
    exact l8
  case round =>
    obtain ⟨i, c, hi, rfl, lr, br⟩ := hrel
    by_cases hik : i < K
    · have hi20 : (i : Int) < 20 := by omega
      have hi0 : (0 : Int) ≤ (i : Int) := by omega
      have hiK : (i : Int) < (K : Int) := by omega
      have hj : (0 : Int) ≤ (i : Int) ∧ (i : Int) < 1000 := ⟨by omega, by omega⟩
      go_wp2_with fail
      go_at_call 12
      refine (tx_any i wr).mono ?_
      rintro r v1 ⟨rfl, e0⟩
      have m1 := lr.below e0
      have n1 := br.trans (e0.mono lr.size)
      go_wp2_with fail
      go_at_call 10
      refine (aE1 v1).mono ?_
      rintro r v2 ⟨rfl, e1⟩
      have m2 := m1.below e1
      have n2 := n1.trans (e1.mono m1.size)
      go_wp2_with fail
      go_at_call 11
      refine (l_sent i c (i : Int) none m2).mono ?_
      rintro r v3 ⟨rfl, m3, e2⟩
      have n3 := n2.trans e2
      have y3 : v3.cell? ⟨w.heap.size, 0, none⟩ = some (.int .u64 (wa : Int)) := (hz.below n3 hzl).cell 0
      have s1 := S1.out
      go_wp2_with fail
      clear s1
      go_at_call 14
      refine (l_tidy1 i c (i : Int) none m3 hj hw1).mono ?_
      rintro r v4 ⟨rfl, m4, e3⟩
      have n4 := n3.trans e3
      have y4 : v4.cell? ⟨w.heap.size, 0, none⟩ = some (.int .u64 (wa : Int)) := (hz.below n4 hzl).cell 0
      have s2 := S2.out
      go_wp2_with fail
      go_at_call 14
      refine (l_tidy2 i c (i : Int) none m4 hj hw1).mono ?_
      rintro r v5 ⟨rfl, m5, e4⟩
      have n5 := n4.trans e4
      have y5 : v5.cell? ⟨w.heap.size, 0, none⟩ = some (.int .u64 (wa : Int)) := (hz.below n5 hzl).cell 0
      go_wp2_with fail
      go_at_call 14
      refine (l_tidy3 (c + 1) ((i : Int) + 1) none m5 ⟨by omega, by omega⟩ hw1).mono ?_
      rintro r v6 ⟨rfl, m6, e5⟩
      have n6 := n5.trans e5
      clear s2
      go_wp2_with fail
      have ei : ((i + 1 : Nat) : Int) = (i : Int) + 1 := by omega
      refine ⟨⟨i + 1, c + 1, by omega, by rw [ei], by rw [ei]; exact m6, n6⟩, ?_⟩
      show K - ((i : Int) + 1).toNat < K - (i : Int).toNat
      omega
    · have hiK : decide ((i : Int) < (K : Int)) = false := by rw [decide_eq_false_iff_not]; omega
      obtain rfl : i = K := by omega
      have hb1 := l_best1 c (i : Int) lr
      by_cases hjl : (i : Int) < (lo : Int)
      · rw [if_pos hjl] at hb1
        simp only [oneV, Option.isSome_some, Option.getD_some] at hb1
        have Hb1 := Lib.hid hb1
        clear hb1
        go_wp2_with fail
        go_at_call 15
        refine Hb1.out.mono ?_
        rintro r v1 ⟨rfl, m1, e0⟩
        have n1 := br.trans e0
        have y1 : ∀ o, (v1.alloc o).cell? ⟨w.heap.size, 2, none⟩ = some (.int .i64 (lo : Int)) := fun o => (hz.below (n1.alloc (Nat.le_trans m1.size (Nat.le_refl _)) o) hzl).cell 2
        go_wp2_with fail
        clear y1
        have m2 := m1.below ((Below.refl v1.heap.size v1).alloc (Nat.le_refl _) (.cells #[.bool (endOf 1).v6, .int .u64 ((endOf 1).hi : Int), .int .u64 ((endOf 1).lo : Int), .int .u16 ((endOf 1).port : Int)] 35))
        have n2 := n1.alloc m1.size (.cells #[.bool (endOf 1).v6, .int .u64 ((endOf 1).hi : Int), .int .u64 ((endOf 1).lo : Int), .int .u16 ((endOf 1).port : Int)] 35)
        generalize v1.alloc (.cells #[.bool (endOf 1).v6, .int .u64 ((endOf 1).hi : Int), .int .u64 ((endOf 1).lo : Int), .int .u16 ((endOf 1).port : Int)] 35) = v2 at m2 n2 ⊢
        go_at_call 12
        refine (aT99 v2).mono ?_
        rintro r v3 ⟨rfl, e2⟩
        have m3 := m2.below e2
        have n3 := n2.trans (e2.mono m2.size)
        go_wp2_with fail
        go_at_call 10
        refine (aE1 v3).mono ?_
        rintro r v4 ⟨rfl, e3⟩
        have m4 := m3.below e3
        have n4 := n3.trans (e3.mono m3.size)
        go_wp2_with fail
        go_at_call 11
        refine (l_sent 99 c (i : Int) (some (endOf 1)) m4).mono ?_
        rintro r v5 ⟨rfl, m5, e4⟩
        have n5 := n4.trans e4
        go_wp2_with fail
        go_at_call 12
        refine (aT99 v5).mono ?_
        rintro r v6 ⟨rfl, e5⟩
        have m6 := m5.below e5
        have n6 := n5.trans (e5.mono m5.size)
        go_wp2_with fail
        go_at_call 10
        refine (aE1 v6).mono ?_
        rintro r v7 ⟨rfl, e6⟩
        have m7 := m6.below e6
        have n7 := n6.trans (e6.mono m6.size)
        go_wp2_with fail
        go_at_call 13
        refine (l_pong2 99 c (i : Int) (some (endOf 1)) m7 hw0).mono ?_
        rintro r v8 ⟨rfl, m8, e7⟩
        have n8 := n7.trans e7
        have hb2 := l_best2 (c + 1) (some (endOf 1)) (.inr rfl) (by omega) m8
        simp only [oneV, Option.isSome_some, Option.getD_some] at hb2
        have Hb2 := Lib.hid hb2
        clear hb2
        go_wp2_with fail
        go_at_call 15
        refine Hb2.out.mono ?_
        rintro r v9 ⟨rfl, m9, e8⟩
        have n9 := n8.trans e8
        go_wp2_with fail
        go_at_call 8
        refine (alive_any v9).mono ?_
        rintro r v10 ⟨rfl, e9⟩
        go_wp2_with fail
        go_ret
        have g1 : w.heap.size ≤ W.heap.size := b.size
        exact ⟨rfl, (b.trans (n9.mono g1)).trans (e9.mono (Nat.le_trans g1 m9.size))⟩
      · rw [if_neg hjl] at hb1
        simp only [oneV, Option.isSome_none, Option.getD_none] at hb1
        have Hb1 := Lib.hid hb1
        have hle : (lo : Int) ≤ (i : Int) := by omega
        clear hb1 hjl
        go_wp2_with fail
        go_at_call 15
        refine Hb1.out.mono ?_
        rintro r v1 ⟨rfl, m1, e0⟩
        have n1 := br.trans e0
        have y1 : ∀ o, (v1.alloc o).cell? ⟨w.heap.size, 2, none⟩ = some (.int .i64 (lo : Int)) := fun o => (hz.below (n1.alloc (Nat.le_trans m1.size (Nat.le_refl _)) o) hzl).cell 2
        go_wp2_with fail
        clear y1
        have m2 := m1.below ((Below.refl v1.heap.size v1).alloc (Nat.le_refl _) (.cells #[.bool End.zero.v6, .int .u64 (End.zero.hi : Int), .int .u64 (End.zero.lo : Int), .int .u16 (End.zero.port : Int)] 35))
        have n2 := n1.alloc m1.size (.cells #[.bool End.zero.v6, .int .u64 (End.zero.hi : Int), .int .u64 (End.zero.lo : Int), .int .u16 (End.zero.port : Int)] 35)
        generalize v1.alloc (.cells #[.bool End.zero.v6, .int .u64 (End.zero.hi : Int), .int .u64 (End.zero.lo : Int), .int .u16 (End.zero.port : Int)] 35) = v2 at m2 n2 ⊢
        go_at_call 12
        refine (aT99 v2).mono ?_
        rintro r v3 ⟨rfl, e2⟩
        have m3 := m2.below e2
        have n3 := n2.trans (e2.mono m2.size)
        go_wp2_with fail
        go_at_call 10
        refine (aE1 v3).mono ?_
        rintro r v4 ⟨rfl, e3⟩
        have m4 := m3.below e3
        have n4 := n3.trans (e3.mono m3.size)
        go_wp2_with fail
        go_at_call 11
        refine (l_sent 99 c (i : Int) none m4).mono ?_
        rintro r v5 ⟨rfl, m5, e4⟩
        have n5 := n4.trans e4
        go_wp2_with fail
        go_at_call 12
        refine (aT99 v5).mono ?_
        rintro r v6 ⟨rfl, e5⟩
        have m6 := m5.below e5
        have n6 := n5.trans (e5.mono m5.size)
        go_wp2_with fail
        go_at_call 10
        refine (aE1 v6).mono ?_
        rintro r v7 ⟨rfl, e6⟩
        have m7 := m6.below e6
        have n7 := n6.trans (e6.mono m6.size)
        go_wp2_with fail
        go_at_call 13
        refine (l_pong2 99 c (i : Int) none m7 hw0).mono ?_
        rintro r v8 ⟨rfl, m8, e7⟩
        have n8 := n7.trans e7
        have hb2 := l_best2 (c + 1) none (.inl rfl) (by omega) m8
        simp only [oneV, Option.isSome_some, Option.getD_some] at hb2
        have Hb2 := Lib.hid hb2
        clear hb2
        go_wp2_with fail
        go_at_call 15
        refine Hb2.out.mono ?_
        rintro r v9 ⟨rfl, m9, e8⟩
        have n9 := n8.trans e8
        go_wp2_with fail
        go_at_call 8
        refine (alive_any v9).mono ?_
        rintro r v10 ⟨rfl, e9⟩
        go_wp2_with fail
        go_ret
        have g1 : w.heap.size ≤ W.heap.size := b.size
        exact ⟨rfl, (b.trans (n9.mono g1)).trans (e9.mono (Nat.le_trans g1 m9.size))⟩

end Go.Proofs.Ytbopmcdmahabbaa
