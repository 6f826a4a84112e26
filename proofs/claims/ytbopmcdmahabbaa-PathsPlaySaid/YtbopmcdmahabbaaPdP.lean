/- PathsPlay: the walk. -/
import Derived.Test.YtbopmcdmahabbaaPdO
import Derived.Test.YtbopmcdmahabbaaPbE
namespace Go.Proofs.Ytbopmcdmahabbaa
open Go.RowKit

theorem RL.mono {n m b : Nat} {t : RTab} {w : World} (h : RL n b t w) (hm : m ≤ n) : RL m b t w := by
  obtain ⟨base, A, cap, h1, h2, h3, h4⟩ := h
  exact ⟨base, A, cap, h1, Nat.le_trans hm h2, Nat.le_trans hm h3, h4⟩

theorem Goes.below {n b rb j : Nat} {w0 w w' : World} {t0 t : Tab} {rt : RTab} (h : Goes n b rb j w0 t0 t rt w) (e : Below w.heap.size w w') : Goes n b rb j w0 t0 t rt w' := ⟨h.duo.below e, h.sync, h.inv, h.rat⟩

theorem pq25 (a : Option Addr) (w : World) : (binOp .eql 25 (.pointer a) (.pointer none)).run Try.prog w = .ok (.bool a.isNone) w := by
  cases a with
  | none => kernel_rfl
  | some a => kernel_rfl
theorem pq55 (a : Option Addr) (w : World) : (binOp .eql 55 (.pointer a) (.pointer none)).run Try.prog w = .ok (.bool a.isNone) w := by
  cases a with
  | none => kernel_rfl
  | some a => kernel_rfl

set_option maxHeartbeats 4000000 in
set_option maxRecDepth 100000 in
theorem play_yes (wa li lo mo : Nat) (A0 : Option Addr) (len cap0 : Nat) (L : Nat → Stp) (w : World) (h : okLim wa li lo mo) (hlen : len ≤ 200) (hst : Steps w A0 len L) :
    Calls Try.prog 5 #[.agg #[.int .u64 (wa : Int), .int .u64 (li : Int), .int .i64 (lo : Int), .int .i64 (mo : Int)], .slice A0 len cap0] w fun r w' => r = .returned (.bool true) ∧ Below w.heap.size w w' := by
  have hz := Blk.new w 24 #[.int .u64 (wa : Int), .int .u64 (li : Int), .int .i64 (lo : Int), .int .i64 (mo : Int)]
  have b := (Below.refl w.heap.size w).alloc (Nat.le_refl _) (.cells #[.int .u64 (wa : Int), .int .u64 (li : Int), .int .i64 (lo : Int), .int .i64 (mo : Int)] 24)
  have hs0 : (w.alloc (.cells #[.int .u64 (wa : Int), .int .u64 (li : Int), .int .i64 (lo : Int), .int .i64 (mo : Int)] 24)).heap.size = w.heap.size + 1 := by simp
  have hst := hst.below b
  go_enter Try.func5, Try.ntmps5
  go_wp2_with fail
  generalize w.alloc (.cells #[.int .u64 (wa : Int), .int .u64 (li : Int), .int .i64 (lo : Int), .int .i64 (mo : Int)] 24) = W at hz b hs0 hst ⊢
  have hzl : w.heap.size < W.heap.size := by omega
  clear hs0
  go_at_call 7
  refine (new_yes wa li lo mo W h).mono ?_
  rintro r v0 ⟨rfl, l0, b0⟩
  have hz0 := hz.below b0 hzl
  have z0 := hz0.cell 0
  have z1 := hz0.cell 1
  have z2 := hz0.cell 2
  have z3 := hz0.cell 3
  simp at z0 z1 z2 z3
  go_wp2_with fail
  go_at_call 19
  refine (rnew_yes wa li lo mo v0 h).mono ?_
  rintro r v1 ⟨rfl, l1, b1⟩
  have G0 : Goes W.heap.size (W.heap.size + 2) (v0.heap.size + 1) 0 W (Tab.new wa li lo mo) (Tab.new wa li lo mo) (RTab.new wa li lo mo) v1 :=
    ⟨⟨l0.below b1, l1.mono b0.size, b0.trans (b1.mono b0.size)⟩, sync_new wa li lo mo, inv_new wa li lo mo, fun q hq => by cases hq⟩
  have hq25 := pq25
  have hq55 := pq55
  clear z0 z1 z2 z3 hz0 l0 l1
  go_wp2_with fail
  clear hq25 hq55
  go_loopw [9] (fun v9 wr => ∃ (i : Nat) (t : Tab) (rt : RTab), i ≤ len ∧ v9 = .int .i64 (i : Int) ∧ Goes W.heap.size (W.heap.size + 2) (v0.heap.size + 1) i W (Tab.new wa li lo mo) t rt wr)
    (fun v9 _ => len - (intOf v9).toNat)
  case atStart => exact ⟨0, _, _, Nat.zero_le _, rfl, G0⟩
  case round =>
    obtain ⟨i, t, rt, hi, rfl, G⟩ := hrel
    clear G0
    by_cases hlt : i < len
    · have hiL : (i : Int) < (len : Int) := by omega
      obtain ⟨ab, off, rfl, hab, hc⟩ := hst.mem (by omega)
      obtain ⟨c0, c1, c2, c3⟩ := hc i hlt
      have htx := hst.tx i hlt
      have hen := hst.en i hlt
      have hnw := hst.now i hlt
      have c0 := (G.duo.bel.cell (p := ⟨ab, off + i * 4, none⟩) hab).trans c0
      have c1 := (G.duo.bel.cell (p := ⟨ab, off + i * 4 + 1, none⟩) hab).trans c1
      have c2 := (G.duo.bel.cell (p := ⟨ab, off + i * 4 + 2, none⟩) hab).trans c2
      have c3 := (G.duo.bel.cell (p := ⟨ab, off + i * 4 + 3, none⟩) hab).trans c3
      generalize L i = s at c0 c1 c2 c3 htx hen hnw
      obtain ⟨dO, tx, en, nw⟩ := s
      simp only at c0 c1 c2 c3 htx hen hnw
      have hi0 : (0 : Int) ≤ (i : Int) := by omega
      have ei : ((i + 1 : Nat) : Int) = (i : Int) + 1 := by omega
      have Ei := Lib.hid ei
      clear hc ei
      go_wp2_with fail
      go_at_call 20
      refine (does_any G (by omega) dO tx en nw htx hen hnw).mono ?_
      rintro r v2 ⟨rfl, t2, rt2, G2⟩
      go_wp2_with fail
      go_at_call 21
      refine (stands_any G2.duo.live G2.duo.rl G2.sync G2.inv).mono ?_
      rintro r v3 ⟨rfl, e3⟩
      have G3 := G2.below e3
      go_wp2_with fail
      go_roundw
      case rel => exact ⟨i + 1, t2, rt2, by omega, by rw [Ei.out], G3⟩
      case measure => simp [intOf]; omega
    · have hiL : decide ((i : Int) < (len : Int)) = false := by rw [decide_eq_false_iff_not]; omega
      go_wp2_with fail
      go_at_call 8
      refine (alive_any _).mono ?_
      rintro r v5 ⟨rfl, e5⟩
      go_wp2_with fail
      go_ret
      have g1 : w.heap.size ≤ W.heap.size := b.size
      exact ⟨rfl, (b.trans (G.duo.bel.mono g1)).trans (e5.mono (Nat.le_trans g1 G.duo.size))⟩

set_option maxHeartbeats 1000000 in
set_option maxRecDepth 100000 in
theorem play_no (wa li : Nat) (lo mo : Int) (A : Option Addr) (len cap : Nat) (w : World) (h : ¬ okLim wa li lo mo) (hlen : len ≤ 200) :
    Calls Try.prog 5 #[.agg #[.int .u64 (wa : Int), .int .u64 (li : Int), .int .i64 lo, .int .i64 mo], .slice A len cap] w fun r w' => r = .returned (.bool true) ∧ Below w.heap.size w w' := by
  have hz := Blk.new w 24 #[.int .u64 (wa : Int), .int .u64 (li : Int), .int .i64 lo, .int .i64 mo]
  have b1 := (Below.refl w.heap.size w).alloc (Nat.le_refl _) (.cells #[.int .u64 (wa : Int), .int .u64 (li : Int), .int .i64 lo, .int .i64 mo] 24)
  go_enter Try.func5, Try.ntmps5
  go_wp2_with fail
  generalize w.alloc (.cells #[.int .u64 (wa : Int), .int .u64 (li : Int), .int .i64 lo, .int .i64 mo] 24) = W at hz b1 ⊢
  go_at_call 7
  refine (new_no wa li lo mo _ h).mono ?_
  rintro r v1 ⟨rfl, d⟩
  have hz1 := hz.below d hz.lt
  have z0 := hz1.cell 0
  have z1 := hz1.cell 1
  have z2 := hz1.cell 2
  have z3 := hz1.cell 3
  simp at z0 z1 z2 z3
  go_wp2_with fail
  go_at_call 19
  refine (rnew_no wa li lo mo _ h).mono ?_
  rintro r v2 ⟨rfl, d2⟩
  have hq25 := pq25
  have hq55 := pq55
  go_wp2_with fail
  go_at_call 8
  refine (alive_any v2).mono ?_
  rintro r v3 ⟨rfl, d3⟩
  go_wp2_with fail
  go_ret
  have b2 := (b1.trans (d.mono b1.size)).trans (d2.mono (Nat.le_trans b1.size d.size))
  exact ⟨rfl, b2.trans (d3.mono b2.size)⟩

set_option maxHeartbeats 1000000 in
set_option maxRecDepth 100000 in
theorem play_long (wa li : Nat) (lo mo : Int) (A : Option Addr) (len cap : Nat) (w : World) (hlen : 200 < len) :
    Calls Try.prog 5 #[.agg #[.int .u64 (wa : Int), .int .u64 (li : Int), .int .i64 lo, .int .i64 mo], .slice A len cap] w fun r w' => r = .returned (.bool true) ∧ Below w.heap.size w w' := by
  have hl : (200 : Int) < (len : Int) := by omega
  go_enter Try.func5, Try.ntmps5
  go_wp2_with fail
  go_at_call 8
  refine (alive_any _).mono ?_
  rintro r w2 ⟨rfl, d2⟩
  go_wp2_with fail
  go_ret
  have b1 := (Below.refl w.heap.size w).alloc (Nat.le_refl _) (.cells #[.int .u64 (wa : Int), .int .u64 (li : Int), .int .i64 lo, .int .i64 mo] 24)
  exact ⟨rfl, b1.trans (d2.mono b1.size)⟩

end Go.Proofs.Ytbopmcdmahabbaa
