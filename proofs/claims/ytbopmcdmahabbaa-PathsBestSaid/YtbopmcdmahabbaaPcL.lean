/- PathsBest: limits that New does not take; too many steps. -/
import Derived.Test.YtbopmcdmahabbaaPcK
namespace Go.Proofs.Ytbopmcdmahabbaa
open Go.RowKit

set_option maxHeartbeats 1000000 in
set_option maxRecDepth 100000 in
theorem best_no (wa li : Nat) (lo mo : Int) (A : Option Addr) (len cap : Nat) (now : Int) (w : World) (h : ¬ okLim wa li lo mo) (hlen : len ≤ 200) :
    Calls Try.prog 4 #[.agg #[.int .u64 (wa : Int), .int .u64 (li : Int), .int .i64 lo, .int .i64 mo], .slice A len cap, .int .u64 now] w fun r w' => r = .returned (.bool true) ∧ Below w.heap.size w w' := by
  have hz := Blk.new w 24 #[.int .u64 (wa : Int), .int .u64 (li : Int), .int .i64 lo, .int .i64 mo]
  have z0 := hz.cell 0
  have z1 := hz.cell 1
  have z2 := hz.cell 2
  have z3 := hz.cell 3
  simp at z0 z1 z2 z3
  go_enter Try.func4, Try.ntmps4
  go_wp2_with fail
  go_at_call 7
  refine (new_no wa li lo mo _ h).mono ?_
  rintro r w1 ⟨rfl, d⟩
  go_wp2_with fail
  go_at_call 8
  refine (alive_any w1).mono ?_
  rintro r w2 ⟨rfl, d2⟩
  go_wp2_with fail
  go_ret
  have b1 := ((Below.refl w.heap.size w).alloc (Nat.le_refl _) (.cells #[.int .u64 (wa : Int), .int .u64 (li : Int), .int .i64 lo, .int .i64 mo] 24)).trans (d.mono (by simp))
  exact ⟨rfl, b1.trans (d2.mono b1.size)⟩

set_option maxHeartbeats 1000000 in
set_option maxRecDepth 100000 in
theorem best_long (wa li : Nat) (lo mo : Int) (A : Option Addr) (len cap : Nat) (now : Int) (w : World) (hlen : 200 < len) :
    Calls Try.prog 4 #[.agg #[.int .u64 (wa : Int), .int .u64 (li : Int), .int .i64 lo, .int .i64 mo], .slice A len cap, .int .u64 now] w fun r w' => r = .returned (.bool true) ∧ Below w.heap.size w w' := by
  have hl : (200 : Int) < (len : Int) := by omega
  go_enter Try.func4, Try.ntmps4
  go_wp2_with fail
  go_at_call 8
  refine (alive_any _).mono ?_
  rintro r w2 ⟨rfl, d2⟩
  go_wp2_with fail
  go_ret
  have b1 := (Below.refl w.heap.size w).alloc (Nat.le_refl _) (.cells #[.int .u64 (wa : Int), .int .u64 (li : Int), .int .i64 lo, .int .i64 mo] 24)
  exact ⟨rfl, b1.trans (d2.mono b1.size)⟩

end Go.Proofs.Ytbopmcdmahabbaa
