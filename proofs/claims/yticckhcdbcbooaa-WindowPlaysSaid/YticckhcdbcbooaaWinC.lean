/- Mark: the walk. -/
import Derived.Test.YticckhcdbcbooaaWinB
namespace Go.Proofs.Yticckhcdbcbooaa
open Go.RowKit Win

set_option maxHeartbeats 400000 in
theorem mark_nil (n : Int) (w : World) : Calls Try.prog 8 #[.pointer none, .int .u64 n] w fun e w' => e = .returned (.int .i64 1) ∧ w = w' := by
  go_enter Try.func8, Try.ntmps8
  go_wp2_with (go_at_call 10; refine (may_nil _ _).mono ?_; rintro e w' ⟨rfl, rfl⟩)
  go_ret
  exact ⟨rfl, rfl⟩

/- What is refused is handed on, and nothing turns. -/
set_option maxHeartbeats 400000 in
theorem mark_no (b bb : Nat) (s : St) (n : Nat) (w : World) (h : Rep w b bb s) (hm : (s.may n == 0) = false) :
    Calls Try.prog 8 #[.pointer (some ⟨b, 0, none⟩), .int .u64 (n : Int)] w fun e w' => e = .returned (.int .i64 (s.may n)) ∧ ∃ k, w.drewN k = w' := by
  have hm2 : (s.may n != 0) = true := by simpa using hm
  go_enter Try.func8, Try.ntmps8
  go_wp2_with (go_at_call 10; refine (may_rep _ _ _ _ _ h).mono ?_; rintro e w' ⟨rfl, k, rfl⟩)
  go_ret
  exact ⟨rfl, _, rfl⟩

set_option maxHeartbeats 400000 in
theorem mark_fresh (b bb : Nat) (s : St) (n : Nat) (w : World) (hn : n < 18446744073709551616) (h : Rep w b bb s) (hm : s.may n = 0) (hf : s.any = false) :
    Calls Try.prog 8 #[.pointer (some ⟨b, 0, none⟩), .int .u64 (n : Int)] w fun e w' => e = .returned (.int .i64 0) ∧ Rep w' b bb (s.put n) ∧ Keeps (fun g => g = b ∨ g = bb) w w' := by
  obtain ⟨nw, cap, h4, h5, c0, c1, c2, c3⟩ := h.cells
  rw [hf] at c3
  obtain ⟨W, hclear, hk, hR⟩ := h.clear
  have hcl := fun k ty => hclear k ty nw cap c1
  clear hclear
  obtain ⟨nw', cap', h4', h5', d0, d1, d2, d3⟩ := hR.cells
  have f2 := hR.frozenB 2
  have f3 := hR.frozenB 3
  have h1 := h.lo
  have hlt : n % s.size < s.size := Nat.mod_lt _ (by omega)
  have hR2 : ∀ j, Rep (((W.drewN j).setCell ⟨b, 2, none⟩ (.int .u64 (n : Int))).setCell ⟨b, 3, none⟩ (.bool true)) b bb { size := s.size, high := n, any := true, set := fun _ => false } := fun j => ((hR.drewN j).setHigh n hn).setAny true
  obtain ⟨x, hx, cx, hbit⟩ := hR.word (n % s.size) hlt
  have ho := or_wmask x (n % s.size) hx
  have fx := hR.frozenBB (n % s.size / 64)
  have hne := h.ne
  have hne' := h.ne.symm
  have hput : s.put n = { size := s.size, high := n, any := true, set := fun m => false || m == n % s.size } := by
    simp [St.put, St.base, St.fresh, hf]
  have Hput := Lib.hid hput
  have Hlt := Lib.hid hlt
  clear hput hbit h1 hlt
  go_enter Try.func8, Try.ntmps8
  go_wp2_with (go_at_call 10; refine (may_rep _ _ _ _ _ h).mono ?_; rintro e w' ⟨rfl, k, rfl⟩)
  go_quiet (fail)
  go_wp2_with (go_at_call 15; refine (bit_rep (n : Int) (by exact hR2 _) (by omega)).mono ?_; rintro e w' ⟨rfl, rfl⟩)
  go_ret
  refine ⟨rfl, ?_, ?_⟩
  · rw [Hput.out]
    exact (hR2 _).orBit (n % s.size) x Hlt.out hx ((cell_far hne).trans ((cell_far hne).trans cx))
  · exact (((hk.drewN _).setCell (.inl (.inl rfl)) _).setCell (.inl (.inl rfl)) _).setCell (.inl (.inr rfl)) _

set_option maxHeartbeats 800000 in
theorem mark_far (b bb : Nat) (s : St) (n : Nat) (w : World) (hn : n < 18446744073709551616) (h : Rep w b bb s) (hm : s.may n = 0) (hf : s.any = true) (hgt : s.high < n) (hfar : s.size ≤ n - s.high) :
    Calls Try.prog 8 #[.pointer (some ⟨b, 0, none⟩), .int .u64 (n : Int)] w fun e w' => e = .returned (.int .i64 0) ∧ Rep w' b bb (s.put n) ∧ Keeps (fun g => g = b ∨ g = bb) w w' := by
  obtain ⟨nw, cap, h4, h5, c0, c1, c2, c3⟩ := h.cells
  rw [hf] at c3
  obtain ⟨W, hclear, hk, hR⟩ := h.clear
  have hcl := fun k ty => hclear k ty nw cap c1
  clear hclear
  obtain ⟨nw', cap', h4', h5', d0, d1, d2, d3⟩ := hR.cells
  have f2 := hR.frozenB 2
  have f3 := hR.frozenB 3
  have h1 := h.lo
  have hlt : n % s.size < s.size := Nat.mod_lt _ (by omega)
  have hR2 : ∀ j, Rep (((W.drewN j).setCell ⟨b, 2, none⟩ (.int .u64 (n : Int))).setCell ⟨b, 3, none⟩ (.bool true)) b bb { size := s.size, high := n, any := true, set := fun _ => false } := fun j => ((hR.drewN j).setHigh n hn).setAny true
  obtain ⟨x, hx, cx, hbit⟩ := hR.word (n % s.size) hlt
  have ho := or_wmask x (n % s.size) hx
  have fx := hR.frozenBB (n % s.size / 64)
  have hne := h.ne
  have hne' := h.ne.symm
  have hput : s.put n = { size := s.size, high := n, any := true, set := fun m => false || m == n % s.size } := by
    simp [St.put, St.base, St.fresh, hf, hgt, hfar, Nat.max_eq_right (Nat.le_of_lt hgt)]
  have Hput := Lib.hid hput
  have Hlt := Lib.hid hlt
  have g1 : ((n : Int) - (s.high : Int)) = ((n - s.high : Nat) : Int) := by omega
  have Hg1 := Lib.hid g1
  clear hput hbit h1 hlt g1
  go_enter Try.func8, Try.ntmps8
  go_wp2_with (go_at_call 10; refine (may_rep _ _ _ _ _ h).mono ?_; rintro e w' ⟨rfl, k, rfl⟩)
  go_quiet (fail)
  go_wp2_with (go_at_call 15; refine (bit_rep (n : Int) (by exact hR2 _) (by omega)).mono ?_; rintro e w' ⟨rfl, rfl⟩)
  go_ret
  refine ⟨rfl, ?_, ?_⟩
  · rw [Hput.out]
    exact (hR2 _).orBit (n % s.size) x Hlt.out hx ((cell_far hne).trans ((cell_far hne).trans cx))
  · exact (((hk.drewN _).setCell (.inl (.inl rfl)) _).setCell (.inl (.inl rfl)) _).setCell (.inl (.inr rfl)) _

set_option maxHeartbeats 800000 in
theorem mark_in (b bb : Nat) (s : St) (n : Nat) (w : World) (hn : n < 18446744073709551616) (h : Rep w b bb s) (hm : s.may n = 0) (hf : s.any = true) (hgt : n ≤ s.high) :
    Calls Try.prog 8 #[.pointer (some ⟨b, 0, none⟩), .int .u64 (n : Int)] w fun e w' => e = .returned (.int .i64 0) ∧ Rep w' b bb (s.put n) ∧ Keeps (fun g => g = b ∨ g = bb) w w' := by
  obtain ⟨nw, cap, h4, h5, c0, c1, c2, c3⟩ := h.cells
  rw [hf] at c3
  have h1 := h.lo
  have hlt : n % s.size < s.size := Nat.mod_lt _ (by omega)
  obtain ⟨x, hx, cx, hbit⟩ := h.word (n % s.size) hlt
  have ho := or_wmask x (n % s.size) hx
  have fx := h.frozenBB (n % s.size / 64)
  have hput : s.put n = { size := s.size, high := s.high, any := s.any, set := fun m => s.set m || m == n % s.size } := by
    have hnl : ¬ s.high < n := by omega
    simp [St.put, St.base, St.fresh, hf, hnl, Nat.max_eq_left hgt]
  have Hput := Lib.hid hput
  have Hlt := Lib.hid hlt
  have hd : decide (s.high < n) = false := by simp; omega
  clear hput hbit h1 hlt
  go_enter Try.func8, Try.ntmps8
  go_wp2_with (go_at_call 10; refine (may_rep _ _ _ _ _ h).mono ?_; rintro e w' ⟨rfl, k, rfl⟩)
  go_quiet (fail)
  go_wp2_with (go_at_call 15; refine (bit_rep (n : Int) (by exact h.drewN _) (by omega)).mono ?_; rintro e w' ⟨rfl, rfl⟩)
  go_ret
  refine ⟨rfl, ?_, ?_⟩
  · rw [Hput.out]
    exact (h.drewN _).orBit (n % s.size) x Hlt.out hx cx
  · exact ((Keeps.refl _ _).drewN _).setCell (.inl (.inr rfl)) _

theorem clr_zero (size : Nat) (set : Nat → Bool) (n : Nat) : clr size set n 0 = set := by
  funext x
  simp [clr]
theorem clr_succ (size : Nat) (set : Nat → Bool) (n k : Nat) : clr size set n (k + 1) = fun x => clr size set n k x && !((n - k) % size == x) := by
  funext x
  simp [clr, List.range_succ, Bool.and_assoc]

set_option maxHeartbeats 800000 in
theorem mark_near (b bb : Nat) (s : St) (n : Nat) (w : World) (hn : n < 18446744073709551616) (h : Rep w b bb s) (hm : s.may n = 0) (hf : s.any = true) (hgt : s.high < n) (hnear : n - s.high < s.size) :
    Calls Try.prog 8 #[.pointer (some ⟨b, 0, none⟩), .int .u64 (n : Int)] w fun e w' => e = .returned (.int .i64 0) ∧ Rep w' b bb (s.put n) ∧ Keeps (fun g => g = b ∨ g = bb) w w' := by
  obtain ⟨nw, cap, h4, h5, c0, c1, c2, c3⟩ := h.cells
  rw [hf] at c3
  have h1 := h.lo
  have h2 := h.hi
  have hd : decide ((s.size : Int) ≤ (n : Int) - (s.high : Int)) = false := by simp; omega
  go_enter Try.func8, Try.ntmps8
  go_wp2_with (go_at_call 10; refine (may_rep _ _ _ _ _ h).mono ?_; rintro e w' ⟨rfl, k, rfl⟩)
  go_quiet (fail)
  go_wp2_with fail
  go_loopw [68] (fun i wr => ∃ j : Nat, j ≤ n - s.high ∧ i = .int .u64 (j : Int) ∧ Rep wr b bb { s with set := clr s.size s.set n j } ∧ Keeps (fun g => g = b ∨ g = bb) w wr)
    (fun i _ => n - s.high - (intOf i).toNat)
  case atStart => exact ⟨0, Nat.zero_le _, rfl, by rw [clr_zero]; exact h.drewN _, (Keeps.refl _ _).drewN _⟩
  case round =>
    obtain ⟨j, hj, rfl, hR, hk⟩ := hrel
    obtain ⟨nw', cap', h4', h5', d0, d1, d2, d3⟩ := hR.cells
    have hne := h.ne
    have hne' := h.ne.symm
    have f2 := hR.frozenB 2
    by_cases hlt : j < n - s.high
    · have hlt' : (j : Int) < (n : Int) - (s.high : Int) := by omega
      have hm1 : (n - j) % s.size < s.size := Nat.mod_lt _ (by omega)
      obtain ⟨x, hx, cx, hbit⟩ := hR.word ((n - j) % s.size) hm1
      have ho := andNot_wmask x ((n - j) % s.size) hx
      have fx := hR.frozenBB ((n - j) % s.size / 64)
      have Hm1 := Lib.hid hm1
      clear hbit hm1
      have e1 : ((n : Int) - (j : Int)).toNat = n - j := by omega
      go_wp2_with (go_at_call 15; refine (bit_rep ((n : Int) - (j : Int)) (by exact hR) (by omega)).mono ?_; rw [e1]; rintro e w' ⟨rfl, rfl⟩)
      go_roundw
      case rel => exact ⟨j + 1, by omega, by go_num, by rw [clr_succ]; exact hR.strikeBit _ x Hm1.out hx cx, hk.setCell (.inl (.inr rfl)) _⟩
      case measure => simp [intOf]; omega
    · have hge : ¬ (j : Int) < (n : Int) - (s.high : Int) := by omega
      have hlt2 : n % s.size < s.size := Nat.mod_lt _ (by omega)
      have hput : s.put n = { size := s.size, high := n, any := s.any, set := fun m => clr s.size s.set n j m || m == n % s.size } := by
        have hj2 : j = n - s.high := by omega
        have h5 : ¬ s.size ≤ n - s.high := by omega
        simp [St.put, St.base, St.fresh, hf, hgt, h5, Nat.max_eq_right (Nat.le_of_lt hgt), hj2]
      have hR2 := hR.setHigh n hn
      obtain ⟨x, hx, cx, hbit⟩ := hR.word (n % s.size) hlt2
      have ho := or_wmask x (n % s.size) hx
      have fx := hR.frozenBB (n % s.size / 64)
      have Hput := Lib.hid hput
      have Hlt := Lib.hid hlt2
      clear hput hbit hlt2 hlt
      go_wp2_with (go_at_call 15; refine (bit_rep (n : Int) (by exact hR2) (by omega)).mono ?_; rintro e w' ⟨rfl, rfl⟩)
      go_ret
      refine ⟨rfl, ?_, ?_⟩
      · rw [Hput.out]
        exact hR2.orBit (n % s.size) x Hlt.out hx ((cell_far hne).trans cx)
      · exact (hk.setCell (.inl (.inl rfl)) _).setCell (.inl (.inr rfl)) _

/- Mark, of a window that stands. -/
theorem mark_rep (b bb : Nat) (s : St) (n : Nat) (w : World) (hn : n < 18446744073709551616) (h : Rep w b bb s) :
    Calls Try.prog 8 #[.pointer (some ⟨b, 0, none⟩), .int .u64 (n : Int)] w fun e w' => e = .returned (.int .i64 (s.may n)) ∧ Rep w' b bb (s.mark n) ∧ Keeps (fun g => g = b ∨ g = bb) w w' := by
  by_cases hm : s.may n = 0
  · have hmk : s.mark n = s.put n := by simp [St.mark, hm]
    rw [hm, hmk]
    cases hf : s.any with
    | false => exact mark_fresh b bb s n w hn h hm hf
    | true =>
      by_cases hgt : s.high < n
      · by_cases hfar : s.size ≤ n - s.high
        · exact mark_far b bb s n w hn h hm hf hgt hfar
        · exact mark_near b bb s n w hn h hm hf hgt (by omega)
      · exact mark_in b bb s n w hn h hm hf (by omega)
  · have hmk : s.mark n = s := by simp [St.mark, hm]
    rw [hmk]
    refine (mark_no b bb s n w h (by simpa using hm)).mono ?_
    rintro e w' ⟨he, k, rfl⟩
    exact ⟨he, h.drewN k, (Keeps.refl _ _).drewN k⟩

end Go.Proofs.Yticckhcdbcbooaa
