/- PathsLosses: the walk. -/
import Derived.Test.YtbopmcdmahabbaaPbD
import Derived.IntWalk
namespace Go.Proofs.Ytbopmcdmahabbaa
open Go.RowKit

theorem aT0 (w : World) : Calls Try.prog 12 #[.int .u8 0] w fun r w' => r = .returned (.string (txOf 0)) ∧ Below w.heap.size w w' := tx_any 0 w
theorem aT99 (w : World) : Calls Try.prog 12 #[.int .u8 99] w fun r w' => r = .returned (.string (txOf 99)) ∧ Below w.heap.size w w' := tx_any 99 w

theorem new_no (wa li : Nat) (lo mo : Int) (w : World) (h : ¬ okLim wa li lo mo) :
    Calls Try.prog 7 #[.agg #[.int .u64 (wa : Int), .int .u64 (li : Int), .int .i64 lo, .int .i64 mo]] w fun e w' => e = .returned (.tuple #[.pointer none, .int .i64 2]) ∧ Below w.heap.size w w' := tnew_no wa li lo mo w h
theorem new_yes (wa li lo mo : Nat) (w : World) (h : okLim wa li lo mo) :
    Calls Try.prog 7 #[.agg #[.int .u64 (wa : Int), .int .u64 (li : Int), .int .i64 (lo : Int), .int .i64 (mo : Int)]] w fun e w' => e = .returned (.tuple #[ptr (w.heap.size + 2), .int .i64 0]) ∧ Live w.heap.size (w.heap.size + 2) (Tab.new wa li lo mo) w' ∧ Below w.heap.size w w' := live_new wa li lo mo w h

set_option maxHeartbeats 1000000 in
set_option maxRecDepth 100000 in
theorem losses_no (wa li : Nat) (lo mo k : Int) (w : World) (h : ¬ okLim wa li lo mo) :
    Calls Try.prog 3 #[.agg #[.int .u64 (wa : Int), .int .u64 (li : Int), .int .i64 lo, .int .i64 mo], .int .u8 k] w fun r w' => r = .returned (.bool true) ∧ Below w.heap.size w w' := by
  have hz := Blk.new w 24 #[.int .u64 (wa : Int), .int .u64 (li : Int), .int .i64 lo, .int .i64 mo]
  have z0 := hz.cell 0
  have z1 := hz.cell 1
  have z2 := hz.cell 2
  have z3 := hz.cell 3
  simp at z0 z1 z2 z3
  go_enter Try.func3, Try.ntmps3
  go_wp2_with fail
  go_at_call 7
  refine (new_no wa li lo mo _ h).mono ?_
  rintro r w1 ⟨rfl, d⟩
  go_wp2_with fail
  go_at_call 8
  refine (alive_any w1).mono ?_
  rintro r w2 ⟨rfl, d2⟩
  go_wp2_with fail
  go_ret
  have b1 := ((Below.refl w.heap.size w).alloc (Nat.le_refl _) (.cells #[.int .u64 (wa : Int), .int .u64 (li : Int), .int .i64 lo, .int .i64 mo] 24)).trans (d.mono (by simp))
  exact ⟨rfl, b1.trans (d2.mono b1.size)⟩

end Go.Proofs.Ytbopmcdmahabbaa
