/- Walks over the window's leaves: none, bit, May, Highest. -/
import Derived.Test.YticckhcdbcbooaaRows
import Derived.Test.YticckhcdbcbooaaWinW
import Derived.Test.YticckhcdbcbooaaWinP
import Derived.BigQuiet
import Derived.Deep.QuietTactic
namespace Go.Proofs.Yticckhcdbcbooaa
open Go.RowKit Win

theorem q22 (w : World) (a : Option Addr) (n c : Nat) : (binOp .eql 22 (.slice a n c) (.slice none 0 0)).run Try.prog w = .ok (.bool a.isNone) w := Lib.run_eql_slice_nil w _ _ _ _ _ _ _ Try.underlying22

def wmask (s : Nat) : Nat := 2 ^ (s % 64)

/-- Block bb holds the bits. -/
def Bits (size : Nat) (set : Nat → Bool) (cs : Array Value) : Prop :=
  ∀ i, i * 64 < size → ∃ x : Nat, x < 2 ^ 64 ∧ cs[i]? = some (.int .u64 (x : Int)) ∧ ∀ j, j < 64 → i * 64 + j < size → x.testBit j = set (i * 64 + j)

structure Rep (w : World) (b bb : Nat) (s : St) : Prop where
  lo : 1 ≤ s.size
  hi : s.size ≤ 4096
  hb : s.high < 18446744073709551616
  rest : ∃ (nw cap : Nat) (cs : Array Value), nw = (s.size + 63) / 64 ∧ nw ≤ cap ∧ cs.size = cap ∧ Blk w b 42 #[.int .u64 (s.size : Int), .slice (some ⟨bb, 0, none⟩) nw cap, .int .u64 (s.high : Int), .bool s.any] ∧ Blk w bb 28 cs ∧ Bits s.size s.set cs

set_option maxHeartbeats 400000 in
theorem none_nil (w : World) :
    Calls Try.prog 16 #[.pointer none] w fun e w' => e = .returned (.bool true) ∧ w = w' := by
  go_enter Try.func16, Try.ntmps16
  go_wp2
  go_ret
  exact ⟨rfl, rfl⟩

set_option maxHeartbeats 400000 in
theorem none_some (b : Nat) (a : Addr) (n c : Nat) (w : World) (h1 : w.cell? ⟨b, 1, none⟩ = some (.slice (some a) n c)) :
    Calls Try.prog 16 #[.pointer (some ⟨b, 0, none⟩)] w fun e w' => e = .returned (.bool false) ∧ w = w' := by
  have q22' := q22
  go_enter Try.func16, Try.ntmps16
  go_wp2
  go_ret
  exact ⟨rfl, rfl⟩

theorem tuple2_eq {a a' b b' : Value} (h1 : a = a') (h2 : b = b') : Ending.returned (.tuple #[a, b]) = .returned (.tuple #[a', b']) := by rw [h1, h2]

theorem wrap_pow (k : Nat) (h : k < 64) : IntKind.u64.wrap (2 ^ k) = ((2 ^ k : Nat) : Int) := by
  rw [IntKind.wrap_u64]
  have h1 : (2 : Nat) ^ k < 2 ^ 64 := Nat.pow_lt_pow_right (by omega) h
  have h2 : ((2 : Int) ^ k) = ((2 ^ k : Nat) : Int) := by simp
  rw [h2]
  generalize 2 ^ k = x at h1 ⊢
  omega

set_option maxHeartbeats 400000 in
theorem bit_any (b bb : Nat) (size nw cap : Nat) (m : Int) (w : World) (hm : 0 ≤ m) (hs : 1 ≤ size) (hs2 : size ≤ 4096) (hn : size ≤ nw * 64)
    (h0 : w.cell? ⟨b, 0, none⟩ = some (.int .u64 (size : Int)))
    (h1 : w.cell? ⟨b, 1, none⟩ = some (.slice (some ⟨bb, 0, none⟩) nw cap)) :
    Calls Try.prog 15 #[.pointer (some ⟨b, 0, none⟩), .int .u64 m] w fun e w' => e = .returned (.tuple #[.pointer (some ⟨bb, m.toNat % size / 64, none⟩), .int .u64 (wmask (m.toNat % size) : Int)]) ∧ w = w' := by
  have g1 : 0 ≤ m % (size : Int) := Int.emod_nonneg _ (by omega)
  have g2 : m % (size : Int) < size := Int.emod_lt_of_pos _ (by omega)
  go_enter Try.func15, Try.ntmps15
  go_wp2
  go_ret2
  obtain ⟨n, rfl⟩ := Int.eq_ofNat_of_zero_le hm
  refine ⟨tuple2_eq ?_ ?_, rfl⟩
  · congr
  · show Value.int .u64 (IntKind.u64.wrap (2 ^ ((n : Int) % (size : Int) % 64).toNat)) = _
    have e : ((n : Int) % (size : Int) % 64).toNat = n % size % 64 := by omega
    rw [e, wrap_pow _ (by omega)]
    rfl


theorem and_two_pow' (x k : Nat) : x &&& 2 ^ k = if x.testBit k then 2 ^ k else 0 := by
  apply Nat.eq_of_testBit_eq
  intro i
  rw [Nat.testBit_and, Nat.testBit_two_pow]
  by_cases h : k = i
  · subst h
    cases hx : x.testBit k <;> simp [Nat.testBit_two_pow]
  · cases hx : x.testBit k <;> simp [Nat.testBit_two_pow, h]

theorem and_wmask (x k : Nat) (hx : x < 2 ^ 64) : (bits .and .u64 (x : Int) (wmask k : Int) != 0) = x.testBit (k % 64) := by
  have h1 : wmask k < 18446744073709551616 := Nat.pow_lt_pow_right (by omega) (show k % 64 < 64 by omega)
  rw [bits_and_u64_nat x (wmask k) hx h1]
  unfold wmask
  rw [and_two_pow']
  cases h : x.testBit (k % 64)
  · simp
  · have : (2 : Nat) ^ (k % 64) ≠ 0 := Nat.ne_of_gt (Nat.two_pow_pos _)
    generalize (2 : Nat) ^ (k % 64) = y at this
    simp
    omega

theorem Rep.drewN {w : World} {b bb : Nat} {s : St} (h : Rep w b bb s) (n : Nat) : Rep (w.drewN n) b bb s := ⟨h.lo, h.hi, h.hb, h.rest⟩

theorem Rep.keep {w w' : World} {S : Nat → Prop} {b bb : Nat} {s : St} (h : Rep w b bb s) (hk : Keeps S w w') (h1 : ¬ S b) (h2 : ¬ S bb) : Rep w' b bb s := by
  obtain ⟨nw, cap, cs, h4, h5, h6, h7, h8, h9⟩ := h.rest
  exact ⟨h.lo, h.hi, h.hb, nw, cap, cs, h4, h5, h6, h7.keep hk h1, h8.keep hk h2, h9⟩

theorem Rep.cells {w : World} {b bb : Nat} {s : St} (h : Rep w b bb s) : ∃ nw cap : Nat, s.size ≤ nw * 64 ∧ nw ≤ cap ∧ w.cell? ⟨b, 0, none⟩ = some (.int .u64 (s.size : Int)) ∧
    w.cell? ⟨b, 1, none⟩ = some (.slice (some ⟨bb, 0, none⟩) nw cap) ∧ w.cell? ⟨b, 2, none⟩ = some (.int .u64 (s.high : Int)) ∧ w.cell? ⟨b, 3, none⟩ = some (.bool s.any) := by
  obtain ⟨nw, cap, cs, h4, h5, h6, h7, h8, h9⟩ := h.rest
  exact ⟨nw, cap, by omega, h5, h7.cell 0, h7.cell 1, h7.cell 2, h7.cell 3⟩

/- The cell that a slot's bit is in. -/
theorem Rep.word {w : World} {b bb : Nat} {s : St} (h : Rep w b bb s) (k : Nat) (hk : k < s.size) : ∃ x : Nat, x < 2 ^ 64 ∧ w.cell? ⟨bb, k / 64, none⟩ = some (.int .u64 (x : Int)) ∧ x.testBit (k % 64) = s.set k := by
  obtain ⟨nw, cap, cs, h4, h5, h6, h7, h8, h9⟩ := h.rest
  obtain ⟨x, hx, hcx, hbit⟩ := h9 (k / 64) (by omega)
  refine ⟨x, hx, (h8.cell _).trans hcx, ?_⟩
  have := hbit (k % 64) (by omega) (by omega)
  rwa [show k / 64 * 64 + k % 64 = k from by omega] at this

theorem bit_rep {w : World} {b bb : Nat} {s : St} (m : Int) (h : Rep w b bb s) (hm : 0 ≤ m) :
    Calls Try.prog 15 #[.pointer (some ⟨b, 0, none⟩), .int .u64 m] w fun e w' => e = .returned (.tuple #[.pointer (some ⟨bb, m.toNat % s.size / 64, none⟩), .int .u64 (wmask (m.toNat % s.size) : Int)]) ∧ w = w' := by
  obtain ⟨nw, cap, h4, h5, c0, c1, c2, c3⟩ := h.cells
  have := h.lo
  have := h.hi
  exact bit_any b bb s.size nw cap m w hm h.lo h.hi (by omega) c0 c1

set_option maxHeartbeats 400000 in
theorem may_rep (b bb : Nat) (s : St) (n : Nat) (w : World) (h : Rep w b bb s) :
    Calls Try.prog 10 #[.pointer (some ⟨b, 0, none⟩), .int .u64 (n : Int)] w fun e w' => e = .returned (.int .i64 (s.may n)) ∧ ∃ k, w.drewN k = w' := by
  obtain ⟨nw, cap, h4, h5, c0, c1, c2, c3⟩ := h.cells
  have h1 := h.lo
  have h2 := h.hi
  have h3 := h.hb
  have Hm := Lib.hid (s.may_eq n)
  cases hf : s.any with
  | false =>
    rw [hf] at c3 Hm
    clear hf
    go_enter Try.func10, Try.ntmps10
    go_wp2_with (go_at_call 16; refine (none_some _ _ _ _ _ c1).mono ?_; rintro e w' ⟨rfl, rfl⟩)
    go_ret
    rw [Hm.out]
    exact ⟨rfl, 0, rfl⟩
  | true =>
    rw [hf] at c3 Hm
    clear hf
    by_cases hn : s.high < n
    · go_enter Try.func10, Try.ntmps10
      go_wp2_with (go_at_call 16; refine (none_some _ _ _ _ _ c1).mono ?_; rintro e w' ⟨rfl, rfl⟩)
      go_ret
      rw [Hm.out]
      exact ⟨by simp [hn], 0, rfl⟩
    · by_cases ho : s.size ≤ s.high - n
      · go_enter Try.func10, Try.ntmps10
        go_wp2_with (go_at_call 16; refine (none_some _ _ _ _ _ c1).mono ?_; rintro e w' ⟨rfl, rfl⟩)
        go_quiet (fail)
        go_wp2
        go_ret
        rw [Hm.out]
        exact ⟨by simp [hn, ho], _, rfl⟩
      · have hlt : n % s.size < s.size := Nat.mod_lt _ (by omega)
        obtain ⟨x, hx, cx, hbit⟩ := h.word (n % s.size) hlt
        have ha := and_wmask x (n % s.size) hx
        rw [hbit] at ha
        clear hbit
        cases hs : s.set (n % s.size) <;>
        · rw [hs] at ha Hm
          clear hs
          go_enter Try.func10, Try.ntmps10
          go_wp2_with (go_at_call 16; refine (none_some _ _ _ _ _ c1).mono ?_; rintro e w' ⟨rfl, rfl⟩)
          go_quiet (fail)
          go_wp2_with (go_at_call 15; refine (bit_rep (n : Int) (by exact h.drewN _) (by omega)).mono ?_; rintro e w' ⟨rfl, rfl⟩)
          go_ret
          rw [Hm.out]
          exact ⟨by simp [hn, ho], _, rfl⟩

theorem may_nil (n : Int) (w : World) : Calls Try.prog 10 #[.pointer none, .int .u64 n] w fun e w' => e = .returned (.int .i64 1) ∧ w = w' := by
  go_enter Try.func10, Try.ntmps10
  go_wp2_with (go_at_call 16; refine (none_nil _).mono ?_; rintro e w' ⟨rfl, rfl⟩)
  go_ret
  exact ⟨rfl, rfl⟩

theorem highest_nil (w : World) : Calls Try.prog 13 #[.pointer none] w fun e w' => e = .returned (.tuple #[.int .u64 0, .bool false]) ∧ w = w' := by
  go_enter Try.func13, Try.ntmps13
  go_wp2_with (go_at_call 16; refine (none_nil _).mono ?_; rintro e w' ⟨rfl, rfl⟩)
  go_ret2
  exact ⟨rfl, rfl⟩

theorem highest_rep (b bb : Nat) (s : St) (w : World) (h : Rep w b bb s) : Calls Try.prog 13 #[.pointer (some ⟨b, 0, none⟩)] w fun e w' => e = .returned (.tuple #[.int .u64 (s.high : Int), .bool s.any]) ∧ ∃ k, w.drewN k = w' := by
  obtain ⟨nw, cap, h4, h5, c0, c1, c2, c3⟩ := h.cells
  go_enter Try.func13, Try.ntmps13
  go_wp2_with (go_at_call 16; refine (none_some _ _ _ _ _ c1).mono ?_; rintro e w' ⟨rfl, rfl⟩)
  go_quiet (fail)
  go_wp2
  go_ret2
  exact ⟨rfl, _, rfl⟩

end Go.Proofs.Yticckhcdbcbooaa
