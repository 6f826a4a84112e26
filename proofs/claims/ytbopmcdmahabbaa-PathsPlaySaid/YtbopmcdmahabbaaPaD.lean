/- New, ago. -/
import Derived.Test.YtbopmcdmahabbaaPaC
namespace Go.Proofs.Ytbopmcdmahabbaa
open Go.RowKit

/- What New takes. -/
def okLim (wait life : Nat) (losses most : Int) : Prop := (1 ≤ wait ∧ wait ≤ 1099511627776) ∧ (1 ≤ life ∧ life ≤ 1099511627776) ∧ (1 ≤ losses ∧ losses ≤ 16) ∧ (1 ≤ most ∧ most ≤ 64)

def within (n : Nat) : Bool := decide (1 ≤ n ∧ n ≤ 1099511627776)

set_option maxHeartbeats 400000 in
theorem within_any (n : Nat) (w : World) : Calls Try.prog 23 #[.int .u64 (n : Int), .int .u64 1099511627776] w fun e w' => e = .returned (.bool (within n)) ∧ w = w' := by
  unfold within
  by_cases h1 : 1 ≤ n
  · by_cases h2 : n ≤ 1099511627776
    · have e : decide (1 ≤ n ∧ n ≤ 1099511627776) = true := by simp; omega
      rw [e]
      clear e
      have h3 : (1 : Int) ≤ (n : Int) := by omega
      have h4 : (n : Int) ≤ 1099511627776 := by omega
      go_enter Try.func23, Try.ntmps23
      go_wp2
      go_ret
      exact ⟨rfl, rfl⟩
    · have e : decide (1 ≤ n ∧ n ≤ 1099511627776) = false := by simp; omega
      rw [e]
      clear e
      have h3 : (1 : Int) ≤ (n : Int) := by omega
      have h4 : decide ((n : Int) ≤ 1099511627776) = false := by rw [decide_eq_false_iff_not]; omega
      go_enter Try.func23, Try.ntmps23
      go_wp2
      go_ret
      exact ⟨rfl, rfl⟩
  · have e : decide (1 ≤ n ∧ n ≤ 1099511627776) = false := by simp; omega
    rw [e]
    clear e
    have h3 : (n : Int) < 1 := by omega
    go_enter Try.func23, Try.ntmps23
    go_wp2
    go_ret
    exact ⟨rfl, rfl⟩

theorem within_yes {n : Nat} (h : 1 ≤ n ∧ n ≤ 1099511627776) (w : World) : Calls Try.prog 23 #[.int .u64 (n : Int), .int .u64 1099511627776] w fun e w' => e = .returned (.bool true) ∧ w = w' := by
  have := within_any n w
  rwa [show within n = true by unfold within; simpa using h] at this
theorem within_not {n : Nat} (h : ¬ (1 ≤ n ∧ n ≤ 1099511627776)) (w : World) : Calls Try.prog 23 #[.int .u64 (n : Int), .int .u64 1099511627776] w fun e w' => e = .returned (.bool false) ∧ w = w' := by
  have := within_any n w
  rwa [show within n = false by unfold within; rw [decide_eq_false_iff_not]; exact h] at this

def limVal (wait life : Nat) (losses most : Int) : Value := .agg #[.int .u64 (wait : Int), .int .u64 (life : Int), .int .i64 losses, .int .i64 most]

set_option maxHeartbeats 1000000 in
theorem tnew_no (wait life : Nat) (losses most : Int) (w : World) (h : ¬ okLim wait life losses most) :
    Calls Try.prog 7 #[limVal wait life losses most] w fun e w' => e = .returned (.tuple #[.pointer none, .int .i64 2]) ∧ Below w.heap.size w w' := by
  unfold limVal
  by_cases h1 : 1 ≤ wait ∧ wait ≤ 1099511627776
  · have c1 := fun W => within_yes h1 W
    by_cases h2 : 1 ≤ life ∧ life ≤ 1099511627776
    · have c2 := fun W => within_yes h2 W
      have hr : losses < 1 ∨ (1 ≤ losses ∧ 16 < losses) ∨ (1 ≤ losses ∧ losses ≤ 16 ∧ most < 1) ∨ (1 ≤ losses ∧ losses ≤ 16 ∧ 1 ≤ most ∧ 64 < most) := by
        unfold okLim at h
        omega
      have C1 := Lib.hid c1
      have C2 := Lib.hid c2
      clear h h1 h2 c1 c2
      rcases hr with k1 | ⟨k1, k2⟩ | ⟨k1, k2, k3⟩ | ⟨k1, k2, k3, k4⟩ <;>
      · go_enter Try.func7, Try.ntmps7
        go_wp2_with fail
        refine (C1.out _).mono ?_
        rintro e w' ⟨rfl, rfl⟩
        go_wp2_with fail
        refine (C2.out _).mono ?_
        rintro e w' ⟨rfl, rfl⟩
        go_wp2_with fail
        go_ret2
        exact ⟨rfl, (Below.refl _ _).alloc (Nat.le_refl _) _⟩
    · have c2 := fun W => within_not h2 W
      have C1 := Lib.hid c1
      have C2 := Lib.hid c2
      clear h h1 h2 c1 c2
      go_enter Try.func7, Try.ntmps7
      go_wp2_with fail
      refine (C1.out _).mono ?_
      rintro e w' ⟨rfl, rfl⟩
      go_wp2_with fail
      refine (C2.out _).mono ?_
      rintro e w' ⟨rfl, rfl⟩
      go_wp2_with fail
      go_ret2
      exact ⟨rfl, (Below.refl _ _).alloc (Nat.le_refl _) _⟩
  · have c1 := fun W => within_not h1 W
    have C1 := Lib.hid c1
    clear h h1 c1
    go_enter Try.func7, Try.ntmps7
    go_wp2_with fail
    refine (C1.out _).mono ?_
    rintro e w' ⟨rfl, rfl⟩
    go_wp2_with fail
    go_ret2
    exact ⟨rfl, (Below.refl _ _).alloc (Nat.le_refl _) _⟩

def Tab.new (wait life losses most : Nat) : Tab := { wait := wait, life := life, losses := losses, most := most, l := [], pings := [], clock := 0, used := none }

set_option maxHeartbeats 1000000 in
theorem tnew_yes (wait life losses most : Nat) (w : World) (h : okLim wait life losses most) :
    Calls Try.prog 7 #[limVal wait life losses most] w fun e w' => e = .returned (.tuple #[.pointer (some ⟨w.heap.size + 2, 0, none⟩), .int .i64 0]) ∧ TM w' (w.heap.size + 2) w'.heap.size none 0 (w.heap.size + 1) none (Tab.new wait life losses most) ∧ Below w.heap.size w w' := by
  obtain ⟨h1, h2, ⟨h3, h4⟩, ⟨h5, h6⟩⟩ := h
  have c1 := fun W => within_yes h1 W
  have c2 := fun W => within_yes h2 W
  have C1 := Lib.hid c1
  have C2 := Lib.hid c2
  have hmm := @run_makeMap Try.prog
  clear c1 c2
  unfold limVal
  go_enter Try.func7, Try.ntmps7
  go_wp2_with fail
  refine (C1.out _).mono ?_
  rintro e w' ⟨rfl, rfl⟩
  go_wp2_with fail
  refine (C2.out _).mono ?_
  rintro e w' ⟨rfl, rfl⟩
  go_wp2_with fail
  go_ret2
  refine ⟨rfl, ⟨⟨h1.1, h1.2, h2.1, h2.2, by show 1 ≤ losses; omega, by show losses ≤ 16; omega, by show 1 ≤ most; omega, by show most ≤ 64; omega, by simp [Tab.new]⟩, ?_, ?_, ?_, rfl⟩, ?_⟩
  · have hb := Blk.new ((w.alloc (.cells #[.int .u64 (wait : Int), .int .u64 (life : Int), .int .i64 (losses : Int), .int .i64 (most : Int)] 24)).alloc (.map #[] 0)) 68 #[.int .u64 (wait : Int), .int .u64 (life : Int), .int .i64 (losses : Int), .int .i64 (most : Int), .slice none 0 0, .map (some (w.heap.size + 1)), .pointer none]
    simp only [World.size_alloc] at hb
    exact hb
  · exact ⟨rfl, .inl ⟨rfl, rfl⟩⟩
  · have hm : MBlk ((w.alloc (.cells #[.int .u64 (wait : Int), .int .u64 (life : Int), .int .i64 (losses : Int), .int .i64 (most : Int)] 24)).alloc (.map #[] 0)) (w.heap.size + 1) [] 0 := by
      have := heap_alloc_new (w.alloc (.cells #[.int .u64 (wait : Int), .int .u64 (life : Int), .int .i64 (losses : Int), .int .i64 (most : Int)] 24)) (.map #[] 0)
      simp only [World.size_alloc] at this
      exact this
    exact hm.below ((Below.refl _ _).alloc (Nat.le_refl _) _) (by simp)
  · exact (((Below.refl _ _).alloc (Nat.le_refl _) _).alloc (by simp) _).alloc (by simp; omega) _

def ago (now n : Nat) : Nat := now - n

set_option maxHeartbeats 400000 in
theorem ago_any (now n : Nat) (w : World) (h1 : now < 18446744073709551616) (h2 : n < 18446744073709551616) : Calls Try.prog 27 #[.int .u64 (now : Int), .int .u64 (n : Int)] w fun e w' => e = .returned (.int .u64 (ago now n : Int)) ∧ w = w' := by
  have ha : ago now n = now - n := rfl
  by_cases h : now < n
  · have e : ago now n = 0 := by omega
    rw [e]
    clear e ha
    go_enter Try.func27, Try.ntmps27
    go_wp2
    go_ret
    refine ⟨?_, rfl⟩
    show Ending.returned (.int .u64 _) = _
    congr 2
  · have e : ((ago now n : Nat) : Int) = (now : Int) - (n : Int) := by omega
    rw [e]
    clear e ha
    go_enter Try.func27, Try.ntmps27
    go_wp2
    go_ret
    refine ⟨?_, rfl⟩
    show Ending.returned (.int .u64 _) = _
    congr 2

end Go.Proofs.Ytbopmcdmahabbaa
