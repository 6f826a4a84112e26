/- PathsNil: the walk. -/
import Derived.Test.YtbopmcdmahabbaaPaU
namespace Go.Proofs.Ytbopmcdmahabbaa
open Go.RowKit

theorem nil_eq (w : World) : (binOp .eql 35 (.agg #[.bool false, .int .u64 0, .int .u64 0, .int .u16 0]) (.agg #[.bool false, .int .u64 0, .int .u64 0, .int .u16 0])).run Try.prog w = .ok (.bool true) w := by kernel_rfl
theorem nil_zero (w : World) : (binOp .eql 46 (.float .f64 0) (.float .f64 0)).run Try.prog w = .ok (.bool true) w := by kernel_rfl

theorem best_nil' (now : Int) (w : World) : Calls Try.prog 15 #[.pointer none, .int .u64 now] w fun r w' => r = .returned (.tuple #[.agg #[.bool false, .int .u64 0, .int .u64 0, .int .u16 0], .bool false]) ∧ Below w.heap.size w w' := best_nil now w

set_option maxHeartbeats 4000000 in
set_option maxRecDepth 100000 in
theorem nil_short (tx : ByteArray) (now : Int) (w0 : World) (hs : (tx.size : Int) ≤ 4096) : Calls Try.prog 6 #[.string tx, .int .u64 now] w0 fun r w' => r = .returned (.bool true) ∧ Below w0.heap.size w0 w' := by
  have q1 := nil_eq
  have q2 := nil_zero
  have b0 := Below.refl w0.heap.size w0
  have hs2 : decide ((4096 : Int) < (tx.size : Int)) = false := by rw [decide_eq_false_iff_not]; omega
  go_enter Try.func6, Try.ntmps6
  go_wp2_with fail
  go_at_call 10
  refine (aE1 w0).mono ?_
  rintro r w1 ⟨rfl, d0⟩
  have b1 := b0.trans (d0.mono b0.size)
  go_wp2_with fail
  go_at_call 17
  refine (tscore_nil (endOf 1) now w1).mono ?_
  rintro r w2 ⟨rfl, d1⟩
  have b2 := b1.trans (d1.mono b1.size)
  go_wp2_with fail
  go_at_call 15
  refine (best_nil' now w2).mono ?_
  rintro r w3 ⟨rfl, d2⟩
  have b3 := b2.trans (d2.mono b2.size)
  go_wp2_with fail
  have b4 := b3.trans (((Below.refl w3.heap.size w3).alloc (Nat.le_refl _) (.cells #[.bool false, .int .u64 0, .int .u64 0, .int .u16 0] 35)).mono b3.size)
  have z4 := Blk.new w3 35 #[.bool false, .int .u64 0, .int .u64 0, .int .u16 0]
  generalize w3.heap.size = B at z4 ⊢
  generalize w3.alloc (.cells #[.bool false, .int .u64 0, .int .u64 0, .int .u16 0] 35) = w4 at b4 z4 ⊢
  go_wp2_with fail
  go_at_call 10
  refine (aE1 w4).mono ?_
  rintro r w5 ⟨rfl, d4⟩
  have b5 := b4.trans (d4.mono b4.size)
  have z5 := z4.below d4 z4.lt
  go_wp2_with fail
  go_at_call 9
  refine (add_nil (endOf 1) w5).mono ?_
  rintro r w6 ⟨rfl, d5⟩
  have b6 := b5.trans (d5.mono b5.size)
  have z6 := z5.below d5 z5.lt
  go_wp2_with fail
  go_at_call 10
  refine (aE1 w6).mono ?_
  rintro r w7 ⟨rfl, d6⟩
  have b7 := b6.trans (d6.mono b6.size)
  have z7 := z6.below d6 z6.lt
  go_wp2_with fail
  go_at_call 16
  refine (drop_nil (endOf 1) w7).mono ?_
  rintro r w8 ⟨rfl, d7⟩
  have b8 := b7.trans (d7.mono b7.size)
  have z8 := z7.below d7 z7.lt
  go_wp2_with fail
  go_at_call 10
  refine (aE1 w8).mono ?_
  rintro r w9 ⟨rfl, d8⟩
  have b9 := b8.trans (d8.mono b8.size)
  have z9 := z8.below d8 z8.lt
  go_wp2_with fail
  go_at_call 11
  refine (sent_nil tx (endOf 1) now w9).mono ?_
  rintro r w10 ⟨rfl, d9⟩
  have b10 := b9.trans (d9.mono b9.size)
  have z10 := z9.below d9 z9.lt
  go_wp2_with fail
  go_at_call 10
  refine (aE1 w10).mono ?_
  rintro r w11 ⟨rfl, d10⟩
  have b11 := b10.trans (d10.mono b10.size)
  have z11 := z10.below d10 z10.lt
  go_wp2_with fail
  go_at_call 13
  refine (pong_nil tx (endOf 1) now w11).mono ?_
  rintro r w12 ⟨rfl, d11⟩
  have b12 := b11.trans (d11.mono b11.size)
  have z12 := z11.below d11 z11.lt
  go_wp2_with fail
  go_at_call 14
  refine (tidy_nil now w12).mono ?_
  rintro r x ⟨rfl, rfl⟩
  have y0 := z12.cell 0
  have y1 := z12.cell 1
  have y2 := z12.cell 2
  have y3 := z12.cell 3
  simp at y0 y1 y2 y3
  go_wp2_with fail
  go_at_call 18
  refine (paths_nil w12).mono ?_
  rintro r x ⟨rfl, rfl⟩
  go_wp2_with fail
  go_at_call 22
  refine (waiting_nil w12).mono ?_
  rintro r x ⟨rfl, rfl⟩
  go_wp2_with fail
  go_at_call 8
  refine (alive_any w12).mono ?_
  rintro r w13 ⟨rfl, d12⟩
  have b13 := b12.trans (d12.mono b12.size)
  go_wp2_with fail
  go_ret
  exact ⟨rfl, b13⟩

set_option maxHeartbeats 1000000 in
set_option maxRecDepth 100000 in
theorem nil_long (tx : ByteArray) (now : Int) (w : World) (hs : (4096 : Int) < (tx.size : Int)) : Calls Try.prog 6 #[.string tx, .int .u64 now] w fun r w' => r = .returned (.bool true) ∧ Below w.heap.size w w' := by
  go_enter Try.func6, Try.ntmps6
  go_wp2_with fail
  go_at_call 8
  refine (alive_any w).mono ?_
  rintro r w1 ⟨rfl, d⟩
  go_wp2_with fail
  go_ret
  exact ⟨rfl, d⟩

theorem nil_any (tx : ByteArray) (now : Int) (w : World) : Calls Try.prog 6 #[.string tx, .int .u64 now] w fun r w' => r = .returned (.bool true) ∧ Below w.heap.size w w' := by
  rcases Int.lt_or_le 4096 (tx.size : Int) with h | h
  · exact nil_long tx now w h
  · exact nil_short tx now w h

end Go.Proofs.Ytbopmcdmahabbaa
