/- The small known run: alive. -/
import Derived.Test.YtbopmcdmahabbaaPaS
import Derived.Deep.RegionHeld3
namespace Go.Proofs.Ytbopmcdmahabbaa
open Go.RowKit

theorem aE1 (w : World) : Calls Try.prog 10 #[.int .u8 1] w fun r w' => r = .returned (.agg (endOf 1).cells) ∧ Below w.heap.size w w' := end_any 1 (by omega) w
theorem aT1 (w : World) : Calls Try.prog 12 #[.int .u8 1] w fun r w' => r = .returned (.string (txOf 1)) ∧ Below w.heap.size w w' := tx_any 1 w
theorem aE2 (w : World) : Calls Try.prog 10 #[.int .u8 2] w fun r w' => r = .returned (.agg (endOf 2).cells) ∧ Below w.heap.size w w' := end_any 2 (by omega) w
theorem aT2 (w : World) : Calls Try.prog 12 #[.int .u8 2] w fun r w' => r = .returned (.string (txOf 2)) ∧ Below w.heap.size w w' := tx_any 2 w
theorem aE3 (w : World) : Calls Try.prog 10 #[.int .u8 3] w fun r w' => r = .returned (.agg (endOf 3).cells) ∧ Below w.heap.size w w' := end_any 3 (by omega) w
theorem aT3 (w : World) : Calls Try.prog 12 #[.int .u8 3] w fun r w' => r = .returned (.string (txOf 3)) ∧ Below w.heap.size w w' := tx_any 3 w

theorem tx_ne {c d : Nat} (hc : c < 256) (hd : d < 256) (h : c ≠ d) : txOf c ≠ txOf d := fun e => h (txOf_inj hc hd e)

theorem ok_nil {t : Tab} (h : t.pings = []) : t.Ok := ⟨by rw [h]; simp, by rw [h]; simp, by rw [h]; simp, by rw [h]; simp, by rw [h]; simp⟩
theorem ok_one {t : Tab} {x : Ent} (h : t.pings = [x]) (hb : x.born < t.clock) {p : Pth} (hp : p ∈ t.l) (he : p.e = x.e) : t.Ok :=
  ⟨by rw [h]; simpa using hb, by rw [h]; simp, by rw [h]; simp, by rw [h]; simp, by rw [h]; simpa using ⟨p, hp, he⟩⟩
theorem ok2 : t2.Ok := ok_nil rfl
theorem ok3 : t3.Ok := ok_one (x := x1) rfl (by decide) (p := k1) (List.mem_cons_self ..) rfl
theorem ok4 : t4.Ok := ok_nil rfl
theorem ok5 : t5.Ok := ok_one (x := x2) rfl (by decide) (p := k1a) (List.mem_cons_self ..) rfl
theorem ok6 : t6.Ok := ok_nil rfl
theorem ok7 : t7.Ok := ok_one (x := x3) rfl (by decide) (p := k2) (List.mem_cons_of_mem _ (List.mem_cons_self ..)) rfl

section
variable {n b : Nat} {w : World}
theorem a_new (w : World) : Calls Try.prog 7 #[.agg #[.int .u64 10, .int .u64 100, .int .i64 2, .int .i64 2]] w fun e w' => e = .returned (.tuple #[ptr (w.heap.size + 2), .int .i64 0]) ∧ Live w.heap.size (w.heap.size + 2) (Tab.new 10 100 2 2) w' ∧ Below w.heap.size w w' :=
  live_new 10 100 2 2 w (by unfold okLim; omega)
theorem a_add1 (h : Live n b (Tab.new 10 100 2 2) w) : Calls Try.prog 9 #[ptr b, .agg (endOf 1).cells] w (Does n b t1 (.int .i64 0) w) := by
  have := live_add_ok h (endOf 1) (by kernel_rfl) (by decide)
  rwa [t1_is] at this
theorem a_add2 (h : Live n b t1 w) : Calls Try.prog 9 #[ptr b, .agg (endOf 2).cells] w (Does n b t2 (.int .i64 0) w) := by
  have := live_add_ok h (endOf 2) (by kernel_rfl) (by decide)
  rwa [t2_is] at this
theorem a_add3 (h : Live n b t2 w) : Calls Try.prog 9 #[ptr b, .agg (endOf 1).cells] w (Does n b t2 (.int .i64 9) w) := live_add_there h (endOf 1) (i := 0) (by kernel_rfl)
theorem a_add4 (h : Live n b t2 w) : Calls Try.prog 9 #[ptr b, .agg (endOf 3).cells] w (Does n b t2 (.int .i64 6) w) := live_add_full h (endOf 3) (by kernel_rfl) (by decide)
theorem a_best0 (h : Live n b t2 w) : Calls Try.prog 15 #[ptr b, .int .u64 0] w (Does n b t2 (.tuple #[.agg #[.bool false, .int .u64 0, .int .u64 0, .int .u16 0], .bool false]) w) := by
  have := live_best h fin2 0 (by omega) (by decide)
  rwa [t2_best, v2] at this
theorem a_sent1 (h : Live n b t2 w) : Calls Try.prog 11 #[ptr b, .string (txOf 1), .agg (endOf 1).cells, .int .u64 0] w (Does n b t3 (.int .i64 0) w) := by
  have := live_sent_ok h ok2 (txOf 1) (endOf 1) 0 (txOf_size 1) (i := 0) (by kernel_rfl) (by intro x hx; cases hx)
  rwa [t3_is] at this
theorem a_pong1 (h : Live n b t3 w) : Calls Try.prog 13 #[ptr b, .string (txOf 1), .agg (endOf 2).cells, .int .u64 3] w (Does n b t3 (.int .i64 250) w) :=
  live_pong_end h ok3 (txOf 1) (endOf 2) 3 (x := x1) (List.mem_singleton.2 rfl) rfl (by kernel_rfl)
theorem a_pong2 (h : Live n b t3 w) : Calls Try.prog 13 #[ptr b, .string (txOf 1), .agg (endOf 1).cells, .int .u64 4] w (Does n b t4 (.int .i64 0) w) := by
  have := live_pong_first h ok3 (txOf 1) 4 (x := x1) (List.mem_singleton.2 rfl) rfl (by omega) (by decide) (i := 0) (p := k1) (by kernel_rfl) rfl (by decide) rfl
  rwa [show (t3.quiet x1.e).setP 0 ⟨k1.e, fU (ago 4 x1.at_), 0, true, 4, 0⟩ = t4 from t4_is] at this
theorem a_score (h : Live n b t4 w) : Calls Try.prog 17 #[ptr b, .agg (endOf 1).cells, .int .u64 4] w (Does n b t4 (.tuple #[.float .f64 4616189618054758400, .bool true]) w) := by
  have := live_score h fin4 (endOf 1) 4 (by omega)
  rwa [vs] at this
theorem a_sent2 (h : Live n b t4 w) : Calls Try.prog 11 #[ptr b, .string (txOf 2), .agg (endOf 1).cells, .int .u64 4] w (Does n b t5 (.int .i64 0) w) := by
  have := live_sent_ok h ok4 (txOf 2) (endOf 1) 4 (txOf_size 2) (i := 0) (by kernel_rfl) (by intro x hx; cases hx)
  rwa [t5_is] at this
theorem a_pong3 (h : Live n b t5 w) : Calls Try.prog 13 #[ptr b, .string (txOf 2), .agg (endOf 1).cells, .int .u64 16] w (Does n b t6 (.int .i64 251) w) := by
  have := live_pong_late h ok5 (txOf 2) 16 (x := x2) (List.mem_singleton.2 rfl) rfl (by omega) (by decide) (i := 0) (p := k1a) (by kernel_rfl) rfl (by decide) (by decide)
  rwa [show (t5.quiet x2.e).setP 0 _ = t6 from t6_is] at this
theorem a_sent3 (h : Live n b t6 w) : Calls Try.prog 11 #[ptr b, .string (txOf 3), .agg (endOf 2).cells, .int .u64 16] w (Does n b t7 (.int .i64 0) w) := by
  have := live_sent_ok h ok6 (txOf 3) (endOf 2) 16 (txOf_size 3) (i := 1) (by kernel_rfl) (by intro x hx; cases hx)
  rwa [t7_is] at this
theorem a_pong4 (h : Live n b t7 w) : Calls Try.prog 13 #[ptr b, .string (txOf 3), .agg (endOf 2).cells, .int .u64 18] w (Does n b t8 (.int .i64 0) w) := by
  have := live_pong_first h ok7 (txOf 3) 18 (x := x3) (List.mem_singleton.2 rfl) rfl (by omega) (by decide) (i := 1) (p := k2) (by kernel_rfl) rfl (by decide) rfl
  rwa [show (t7.quiet x3.e).setP 1 ⟨k2.e, fU (ago 18 x3.at_), 0, true, 18, 0⟩ = t8 from t8_is] at this
theorem a_best18 (h : Live n b t8 w) : Calls Try.prog 15 #[ptr b, .int .u64 18] w (Does n b t9 (.tuple #[.agg #[.bool false, .int .u64 0, .int .u64 167772160, .int .u16 2], .bool true]) w) := by
  have := live_best h fin8 18 (by omega) (by decide)
  rwa [t9_is, v9] at this
theorem a_paths (h : Live n b t9 w) : Calls Try.prog 18 #[ptr b] w fun r w' => (∃ A : Option Addr, r = .returned (.slice A 2 2)) ∧ Below w.heap.size w w' := by
  refine (live_paths h).mono ?_
  rintro r w' ⟨A, hr, _, _, hb⟩
  exact ⟨⟨A, hr⟩, hb⟩
theorem a_eq (w : World) : (binOp .eql 35 (.agg #[.bool false, .int .u64 0, .int .u64 167772160, .int .u16 2]) (.agg (endOf 2).cells)).run Try.prog w = .ok (.bool true) w := by kernel_rfl
theorem a_four (w : World) : (binOp .eql 46 (.float .f64 4616189618054758400) (.float .f64 4616189618054758400)).run Try.prog w = .ok (.bool true) w := by kernel_rfl
end

end Go.Proofs.Ytbopmcdmahabbaa
