/- Joined out of: PfA PfB PfC PfD WhA IpL IpLb IpQ IpT. -/
import Derived.Test.YthglckoikjfjkaaGreatDoorSab
import Derived.Laws.BitsAllLaws
import Derived.Test.YthglckoikjfjkaaGreatDoorSaa
import Derived.BigQuiet
import Derived.Deep.QuietTactic
import Derived.Deep.RegionHeld3
import Derived.BigRegion
import Derived.Deep.DrawnRows
import Derived.Deep.CutBlock
import Derived.Test.YthglckoikjfjkaaGreatDoorSac
import Derived.Laws.CopyOwn
set_option linter.unusedVariables false
set_option linter.unusedSimpArgs false

/- Prefixes: masks and bits, the plain law. -/
namespace Go.Proofs.YthglckoikjfjkaaGreatDoor
open Go.RowKit

/- 64 ones, moved up by k. -/
def mk (k : Nat) : Nat := 18446744073709551616 - 2 ^ k
theorem pow_le64 {k : Nat} (h : k ≤ 64) : 2 ^ k ≤ 18446744073709551616 := Nat.le_trans (Nat.pow_le_pow_right (by decide) h) (by decide)
theorem mk_lt (k : Nat) : mk k < 18446744073709551616 := by
  have : 0 < 2 ^ k := Nat.pow_pos (by decide)
  unfold mk
  omega
theorem not_mk {k : Nat} (h : k ≤ 64) : 18446744073709551615 - mk k = 2 ^ k - 1 := by
  have := pow_le64 h
  have : 0 < 2 ^ k := Nat.pow_pos (by decide)
  unfold mk
  omega
theorem andNot_mk {x k : Nat} (hx : x < 18446744073709551616) (h : k ≤ 64) : bits .andNot .u64 (x : Int) ((mk k : Nat) : Int) = ((x % 2 ^ k : Nat) : Int) := by
  rw [u64_andNot_nat x _ hx (mk_lt k), not_mk h, Nat.and_two_pow_sub_one_eq_mod]
theorem testBit_mk {k : Nat} (h : k ≤ 64) (i : Nat) : (mk k).testBit i = (decide (i < 64) && !decide (i < k)) := by
  have h0 : 0 < 2 ^ k := Nat.pow_pos (by decide)
  have h1 := pow_le64 h
  have := Nat.testBit_two_pow_sub_succ (show 2 ^ k - 1 < 2 ^ 64 by omega) i
  rw [Nat.testBit_two_pow_sub_one, show 2 ^ 64 - (2 ^ k - 1 + 1) = mk k by unfold mk; omega] at this
  exact this
theorem land_mk {x k : Nat} (hx : x < 18446744073709551616) (h : k ≤ 64) : x &&& mk k = x / 2 ^ k * 2 ^ k := by
  rw [← Nat.shiftRight_eq_div_pow, ← Nat.shiftLeft_eq]
  apply Nat.eq_of_testBit_eq
  intro i
  rw [Nat.testBit_and, testBit_mk h, Nat.testBit_shiftLeft, Nat.testBit_shiftRight]
  by_cases hi : i < 64
  · by_cases hk : i < k
    · simp [hk, Nat.not_le.2 hk]
    · rw [show k + (i - k) = i by omega]
      simp [hi, hk, Nat.not_lt.1 hk]
  · have : x.testBit i = false := Nat.testBit_lt_two_pow (Nat.lt_of_lt_of_le hx (Nat.le_trans (by decide : 18446744073709551616 ≤ 2 ^ 64) (Nat.pow_le_pow_right (by decide) (by omega))))
    rw [show k + (i - k) = i by omega, this]
    simp
theorem and_mk {x k : Nat} (hx : x < 18446744073709551616) (h : k ≤ 64) : bits .and .u64 (x : Int) ((mk k : Nat) : Int) = ((x / 2 ^ k * 2 ^ k : Nat) : Int) := by
  rw [u64_and_nat x _ hx (mk_lt k), land_mk hx h]

/- Which masks the program takes: of the high half, of the low half. -/
def kH (a : Ad) (n : Nat) : Nat := if a.v6 then 64 - n else 0
def kL (a : Ad) (n : Nat) : Nat := if a.v6 then (if n ≤ 64 then 64 else 128 - n) else 32 - n
theorem kH_le (a : Ad) (n : Nat) : kH a n ≤ 64 := by unfold kH; split <;> omega
theorem kL_le {a : Ad} {n : Nat} : kL a n ≤ 64 := by
  unfold kL
  split
  · split <;> omega
  · omega

/- x y as one number of k + 64 bits; cut below. -/
theorem glue_mod (hi lo k : Nat) (hl : lo < 18446744073709551616) : (hi * 2 ^ 64 + lo) % 2 ^ (k + 64) = hi % 2 ^ k * 2 ^ 64 + lo := by
  rw [Nat.pow_add, Nat.mul_comm (2 ^ k), Nat.mod_mul]
  have e1 : (hi * 2 ^ 64 + lo) % 2 ^ 64 = lo := by omega
  have e2 : (hi * 2 ^ 64 + lo) / 2 ^ 64 = hi := by omega
  rw [e1, e2, Nat.mul_comm (2 ^ 64)]
  omega
theorem glue_div (hi lo k : Nat) (hl : lo < 18446744073709551616) : (hi * 2 ^ 64 + lo) / 2 ^ (k + 64) = hi / 2 ^ k := by
  rw [Nat.pow_add, Nat.mul_comm (2 ^ k), ← Nat.div_div_eq_div_mul]
  have e2 : (hi * 2 ^ 64 + lo) / 2 ^ 64 = hi := by omega
  rw [e2]
theorem low_mod (hi lo k : Nat) (hk : k ≤ 64) : (hi * 2 ^ 64 + lo) % 2 ^ k = lo % 2 ^ k := by
  have : hi * 2 ^ 64 = 2 ^ k * (hi * 2 ^ (64 - k)) := by
    rw [Nat.mul_left_comm, ← Nat.pow_add, show k + (64 - k) = 64 by omega]
  rw [this, Nat.mul_add_mod]
theorem low_div (hi lo k : Nat) (hk : k ≤ 64) : (hi * 2 ^ 64 + lo) / 2 ^ k = hi * 2 ^ (64 - k) + lo / 2 ^ k := by
  have : hi * 2 ^ 64 = 2 ^ k * (hi * 2 ^ (64 - k)) := by
    rw [Nat.mul_left_comm, ← Nat.pow_add, show k + (64 - k) = 64 by omega]
  rw [this, Nat.mul_add_div (Nat.pow_pos (by decide))]
theorem low_lt {lo k : Nat} (hl : lo < 18446744073709551616) (hk : k ≤ 64) : lo / 2 ^ k < 2 ^ (64 - k) := by
  apply Nat.div_lt_of_lt_mul
  rw [← Nat.pow_add, show k + (64 - k) = 64 by omega]
  exact hl
theorem glue_inj {a b c d m : Nat} (hb : b < m) (hd : d < m) : a * m + b = c * m + d ↔ a = c ∧ b = d := by
  constructor
  · intro h
    have h1 : (a * m + b) / m = (c * m + d) / m := by rw [h]
    have hm : 0 < m := by omega
    rw [Nat.mul_comm a, Nat.mul_comm c, Nat.mul_add_div hm, Nat.mul_add_div hm, Nat.div_eq_of_lt hb, Nat.div_eq_of_lt hd] at h1
    have : a = c := by omega
    subst this
    exact ⟨rfl, by omega⟩
  · rintro ⟨rfl, rfl⟩; rfl

theorem val_mod {a : Ad} (ok : a.Ok) {n : Nat} (hn : n ≤ a.size) (h4 : a.v6 = false → a.hi = 0) : a.val % 2 ^ (a.size - n) = 0 ↔ a.hi % 2 ^ kH a n = 0 ∧ a.lo % 2 ^ kL a n = 0 := by
  have hl := ok.lo
  unfold Ad.val Ad.size kH kL at *
  cases h6 : a.v6 with
  | true =>
    rw [h6] at hn
    simp only [if_true] at hn ⊢
    by_cases h : n ≤ 64
    · rw [show 128 - n = (64 - n) + 64 by omega, glue_mod _ _ _ hl, if_pos h, Nat.mod_eq_of_lt (a := a.lo) (by omega)]
      omega
    · rw [low_mod _ _ _ (by omega), if_neg h, show 64 - n = 0 by omega, Nat.pow_zero, Nat.mod_one]
      simp
  | false =>
    rw [h6] at hn
    simp only [Bool.false_eq_true, if_false] at hn ⊢
    rw [h4 h6]
    simp
theorem val_div {a b : Ad} (oa : a.Ok) (ob : b.Ok) (h6 : a.v6 = b.v6) {n : Nat} (hn : n ≤ a.size) (ha : a.v6 = false → a.hi = 0) (hb : b.v6 = false → b.hi = 0) : a.val / 2 ^ (a.size - n) = b.val / 2 ^ (a.size - n) ↔ a.hi / 2 ^ kH a n = b.hi / 2 ^ kH a n ∧ a.lo / 2 ^ kL a n = b.lo / 2 ^ kL a n := by
  have hl := oa.lo
  have hm := ob.lo
  unfold Ad.val Ad.size kH kL at *
  rw [← h6] at hb ⊢
  cases h : a.v6 with
  | true =>
    rw [h] at hn
    simp only [if_true] at hn ⊢
    by_cases hc : n ≤ 64
    · rw [show 128 - n = (64 - n) + 64 by omega, glue_div _ _ _ hl, glue_div _ _ _ hm, if_pos hc, Nat.div_eq_of_lt (a := a.lo) (by omega), Nat.div_eq_of_lt (a := b.lo) (by omega)]
      simp
    · rw [low_div _ _ _ (by omega), low_div _ _ _ (by omega), if_neg hc, show 64 - n = 0 by omega, Nat.pow_zero, Nat.div_one, Nat.div_one]
      exact glue_inj (low_lt hl (by omega)) (low_lt hm (by omega))
  | false =>
    rw [h] at hn
    simp only [Bool.false_eq_true, if_false] at hn ⊢
    rw [ha h, hb h]
    simp
theorem may_hi {a : Ad} (h : a.may = true) : a.v6 = false → a.hi = 0 := fun h6 => (may4 h h6).1
theorem pmay_eq {p : Pf} (ok : p.a.Ok) : pmay p = (p.a.may && decide (p.bits ≤ p.a.size) && (decide (p.a.hi % 2 ^ kH p.a p.bits = 0) && decide (p.a.lo % 2 ^ kL p.a p.bits = 0))) := by
  unfold pmay
  cases hm : p.a.may with
  | false => rfl
  | true =>
    by_cases hn : p.bits ≤ p.a.size
    · rw [decide_eq_true hn, Bool.true_and, Bool.true_and, Bool.true_and, ← Bool.decide_and]
      exact decide_eq_decide.2 (val_mod ok hn (may_hi hm))
    · rw [decide_eq_false hn]; rfl
theorem div_mul_eq {x y k : Nat} (hy : y % 2 ^ k = 0) : x / 2 ^ k * 2 ^ k = y ↔ x / 2 ^ k = y / 2 ^ k := by
  have h := Nat.div_add_mod y (2 ^ k)
  rw [hy, Nat.add_zero, Nat.mul_comm] at h
  have hp : 0 < 2 ^ k := Nat.pow_pos (by decide)
  constructor
  · intro e
    rw [← e, Nat.mul_div_cancel _ hp]
  · intro e
    rw [e, h]
theorem holdsP_eq {p : Pf} {a : Ad} (ok : p.a.Ok) (oa : a.Ok) : holdsP p a = (pmay p && a.may && (p.a.v6 == a.v6) && (decide (a.hi / 2 ^ kH a p.bits * 2 ^ kH a p.bits = p.a.hi) && decide (a.lo / 2 ^ kL a p.bits * 2 ^ kL a p.bits = p.a.lo))) := by
  unfold holdsP
  cases hp : pmay p with
  | false => rfl
  | true =>
    cases hm : a.may with
    | false => rfl
    | true =>
      by_cases h6 : p.a.v6 = a.v6
      · rw [h6, beq_self_eq_true, Bool.true_and, Bool.true_and, Bool.true_and, ← Bool.decide_and]
        have hb := pmay_may hp
        have hs : p.a.size = a.size := by unfold Ad.size; rw [h6]
        have e := pmay_eq (p := p) ok
        rw [hp, hb.1, decide_eq_true hb.2, Bool.true_and, Bool.true_and] at e
        have e2 := e.symm
        rw [Bool.and_eq_true, decide_eq_true_eq, decide_eq_true_eq] at e2
        have hk : kH p.a p.bits = kH a p.bits ∧ kL p.a p.bits = kL a p.bits := by unfold kH kL; rw [h6]; exact ⟨rfl, rfl⟩
        rw [hk.1, hk.2] at e2
        refine decide_eq_decide.2 ?_
        rw [hs, div_mul_eq e2.1, div_mul_eq e2.2]
        exact val_div oa ok h6.symm (by rw [← hs]; exact hb.2) (may_hi hm) (may_hi hb.1)
      · rw [show (p.a.v6 == a.v6) = false by simpa using h6]
        rfl

end Go.Proofs.YthglckoikjfjkaaGreatDoor

/- Prefixes: masks, size, bit: the walks. -/
namespace Go.Proofs.YthglckoikjfjkaaGreatDoor
open Go.RowKit

theorem shl_mk {k : Nat} (h : k ≤ 64) : IntKind.u64.wrap (18446744073709551615 * 2 ^ k) = ((mk k : Nat) : Int) := by
  have h1 := pow_le64 h
  have h0 : 0 < 2 ^ k := Nat.pow_pos (by decide)
  rw [IntKind.wrap_u64]
  unfold mk
  rw [show (2 : Int) ^ k = ((2 ^ k : Nat) : Int) by simp]
  generalize 2 ^ k = q at h1 h0
  omega
theorem shr_nat (x k : Nat) : (x : Int) / 2 ^ k = ((x / 2 ^ k : Nat) : Int) := by simp
theorem ret_two {i j i' j' : Int} (h : i = i') (h' : j = j') : Ending.returned (.tuple #[.int .u64 i, .int .u64 j]) = .returned (.tuple #[.int .u64 i', .int .u64 j']) := by rw [h, h']
theorem ret_b {a b : Bool} (h : a = b) : Ending.returned (.bool a) = .returned (.bool b) := by rw [h]
theorem size_any (a : Ad) (w : World) : Calls Tryz.prog 111 #[.agg a.cells] w fun r w' => r = .returned (.int .u8 (a.size : Int)) ∧ Below w.heap.size w w' := by
  obtain ⟨v, h, l⟩ := a
  unfold Ad.cells
  cases v
  all_goals
    go_enter Tryz.func111, Tryz.ntmps111
    go_wp2_with fail
    go_ret
    exact ⟨rfl, boxed _ _⟩
theorem masks_any (a : Ad) (n : Nat) (hn : n ≤ a.size) (w : World) : Calls Tryz.prog 101 #[.agg a.cells, .int .u8 (n : Int)] w fun r w' => r = .returned (.tuple #[.int .u64 (mk (kH a n) : Int), .int .u64 (mk (kL a n) : Int)]) ∧ Below w.heap.size w w' := by
  obtain ⟨v, h, l⟩ := a
  unfold Ad.cells Ad.size kH kL at *
  cases v with
  | false =>
    simp only [Bool.false_eq_true, if_false] at hn ⊢
    have e1 : ((32 : Int) - (n : Int)).toNat = 32 - n := by omega
    go_enter Tryz.func101, Tryz.ntmps101
    go_wp2_with fail
    go_ret2
    exact ⟨ret_two rfl (shl_mk (by omega)), boxed _ _⟩
  | true =>
    simp only [if_true] at hn ⊢
    have e1 : ((64 : Int) - (n : Int)).toNat = 64 - n := by omega
    have e2 : ((128 : Int) - (n : Int)).toNat = 128 - n := by omega
    by_cases hc : n ≤ 64
    · rw [if_pos hc]
      go_enter Tryz.func101, Tryz.ntmps101
      go_wp2_with fail
      go_ret2
      exact ⟨ret_two (shl_mk (by omega)) rfl, boxed _ _⟩
    · rw [if_neg hc]
      have e3 : mk (64 - n) = 18446744073709551615 := by rw [show 64 - n = 0 by omega]; rfl
      rw [e3]
      go_enter Tryz.func101, Tryz.ntmps101
      go_wp2_with fail
      go_ret2
      exact ⟨ret_two rfl (shl_mk (by omega)), boxed _ _⟩
end Go.Proofs.YthglckoikjfjkaaGreatDoor

/- MayPrefix: the walks. (Printed by pf_may.py.) -/
namespace Go.Proofs.YthglckoikjfjkaaGreatDoor
open Go.RowKit
attribute [local go_sem ↓] Go.wp_at_zero Go.wp_at_succ

set_option maxHeartbeats 2000000 in
set_option maxRecDepth 100000 in
theorem mayPrefix_any (p : Pf) (ok : p.Ok) (w : World) : Calls Tryz.prog 94 #[.agg p.cells] w (Got (.bool (pmay p)) w) := by
  have HE := Lib.hid (pmay_eq (p := p) ok.a)
  have Hm := Lib.hid (mayAddr_any p.a ok.a)
  have Hs := Lib.hid (size_any p.a)
  have hn := ok.bits
  have hh := ok.a.hi
  have hl := ok.a.lo
  have HX : p.bits ≤ p.a.size → ∀ w, Calls Tryz.prog 101 #[.agg p.a.cells, .int .u8 (p.bits : Int)] w fun r w' => r = .returned (.tuple #[.int .u64 (mk (kH p.a p.bits) : Int), .int .u64 (mk (kL p.a p.bits) : Int)]) ∧ Below w.heap.size w w' := fun h w => masks_any p.a p.bits h w
  have eH := andNot_mk hh (kH_le p.a p.bits)
  have eL := andNot_mk hl (kL_le (a := p.a) (n := p.bits))
  generalize mk (kH p.a p.bits) = MH at HX eH
  generalize mk (kL p.a p.bits) = ML at HX eL
  generalize p.a.hi % 2 ^ kH p.a p.bits = XH at HE eH
  generalize p.a.lo % 2 ^ kL p.a p.bits = XL at HE eL
  generalize hR : pmay p = RR at HE ⊢
  clear hR
  generalize hM : p.a.may = M at Hm HE HX
  generalize hS : p.a.size = SZ at Hs HE HX
  have hS2 : SZ ≤ 128 := by rw [← hS]; exact size_le _
  clear hM hS
  obtain ⟨⟨v, h, l⟩, n⟩ := p
  unfold Pf.cells
  unfold Ad.cells at *
  simp only at hn hh hl HE Hm Hs HX eH eL ⊢
  have hB0 := Blk.new w 64 #[.bool v, .int .u64 (h : Int), .int .u64 (l : Int), .int .u8 (n : Int)]
  have hb0 := (boxed w (.cells #[.bool v, .int .u64 (h : Int), .int .u64 (l : Int), .int .u8 (n : Int)] 64)).drew
  have EH := Lib.hid eH
  have EL := Lib.hid eL
  clear eH eL
  cases M with
  | false =>
    have e : RR = false := by rw [HE.out]; rfl
    rw [e]
    go_enter Tryz.func94, Tryz.ntmps94
    go_wp2_with fail
    generalize w.alloc (.cells #[.bool v, .int .u64 (h : Int), .int .u64 (l : Int), .int .u8 (n : Int)] 64) = v0 at hB0 hb0 ⊢
    generalize hg : w.heap.size = g at hB0 ⊢
    have hB0 := hB0.drew
    refine wp_region_held_drew (S := (fun w' => w'.cell? ⟨g, 0, none⟩ = some (.bool v) ∧ w'.cell? ⟨g, 1, none⟩ = some (.int .u64 (h : Int)) ∧ w'.cell? ⟨g, 2, none⟩ = some (.int .u64 (l : Int)) ∧ w'.cell? ⟨g, 3, none⟩ = some (.int .u8 (n : Int)))) (by kernel_rfl) ⟨hB0.cell 0, hB0.cell 1, hB0.cell 2, hB0.cell 3⟩ (fun hHeld => ?_)
    refine' wpAnyH_take (i := 0) (v := _) rfl (by kernel_rfl) (by kernel_rfl) (by kernel_rfl) (fun _ _ _ h => h) (Or.inl ⟨by rfl, ?ly1⟩) (by assumption) ?lrest1
    case ly1 =>
      intro w hSw
      try dsimp only at hSw
      go_simp
      try with_reducible rfl
    try simp only [Act.put, List.setIfInBounds_toArray, List.set_cons_zero, List.set_cons_succ, List.getElem_toArray, List.getElem_cons_zero, List.getElem_cons_succ]
    refine' wpAnyH_take (i := 1) (v := _) rfl (by kernel_rfl) (by kernel_rfl) (by kernel_rfl) (fun _ _ _ h => h) (Or.inl ⟨by rfl, ?ly2⟩) (by assumption) ?lrest2
    case ly2 =>
      intro w hSw
      try dsimp only at hSw
      go_simp
      try with_reducible rfl
    try simp only [Act.put, List.setIfInBounds_toArray, List.set_cons_zero, List.set_cons_succ, List.getElem_toArray, List.getElem_cons_zero, List.getElem_cons_succ]
    refine wpAnyH_ready (rs := [2]) (by kernel_rfl) (by simp) ?_
    refine AllReadyH.cons rfl (fun K hK => ?_) AllReadyH.nil
    go_simp
    refine (Hm.out _).mono ?_
    rintro r v1 ⟨rfl, d1⟩
    have hb1 := after hb0 d1
    have hB1 := hB0.below d1 hB0.lt
    refine hK.out _ _ ⟨hB1.cell 0, hB1.cell 1, hB1.cell 2, hB1.cell 3⟩ (fun hHeld => ?_)
    clear hK K
    try simp only [Act.put, List.setIfInBounds_toArray, List.set_cons_zero, List.set_cons_succ, List.getElem_toArray, List.getElem_cons_zero, List.getElem_cons_succ]
    refine' wpAnyH_take (i := 3) (v := _) rfl (by kernel_rfl) (by kernel_rfl) (by kernel_rfl) (fun _ _ _ h => h) (Or.inl ⟨by rfl, ?ly4⟩) (by assumption) ?lrest4
    case ly4 =>
      intro w hSw
      try dsimp only at hSw
      go_simp
      try with_reducible rfl
    try simp only [Act.put, List.setIfInBounds_toArray, List.set_cons_zero, List.set_cons_succ, List.getElem_toArray, List.getElem_cons_zero, List.getElem_cons_succ]
    refine' wpAnyH_take (i := 4) (v := _) rfl (by kernel_rfl) (by kernel_rfl) (by kernel_rfl) (fun _ _ _ h => h) (Or.inl ⟨by rfl, ?ly5⟩) (by assumption) ?lrest5
    case ly5 =>
      intro w hSw
      try dsimp only at hSw
      go_simp
      try with_reducible rfl
    try simp only [Act.put, List.setIfInBounds_toArray, List.set_cons_zero, List.set_cons_succ, List.getElem_toArray, List.getElem_cons_zero, List.getElem_cons_succ]
    refine' wpAnyH_take (i := 5) (v := undef) rfl (by kernel_rfl) (by kernel_rfl) (by kernel_rfl) (fun _ _ _ h => h) (Or.inr ⟨by rfl, rfl⟩) (by assumption) ?lrest6
    try simp only [Act.put, List.setIfInBounds_toArray, List.set_cons_zero, List.set_cons_succ, List.getElem_toArray, List.getElem_cons_zero, List.getElem_cons_succ]
    refine' wpAnyH_take (i := 6) (v := undef) rfl (by kernel_rfl) (by kernel_rfl) (by kernel_rfl) (fun _ _ _ h => h) (Or.inr ⟨by rfl, rfl⟩) (by assumption) ?lrest7
    try simp only [Act.put, List.setIfInBounds_toArray, List.set_cons_zero, List.set_cons_succ, List.getElem_toArray, List.getElem_cons_zero, List.getElem_cons_succ]
    refine' wpAnyH_take (i := 7) (v := undef) rfl (by kernel_rfl) (by kernel_rfl) (by kernel_rfl) (fun _ _ _ h => h) (Or.inr ⟨by rfl, rfl⟩) (by assumption) ?lrest8
    try simp only [Act.put, List.setIfInBounds_toArray, List.set_cons_zero, List.set_cons_succ, List.getElem_toArray, List.getElem_cons_zero, List.getElem_cons_succ]
    refine' wpAnyH_take (i := 8) (v := undef) rfl (by kernel_rfl) (by kernel_rfl) (by kernel_rfl) (fun _ _ _ h => h) (Or.inr ⟨by rfl, rfl⟩) (by assumption) ?lrest9
    try simp only [Act.put, List.setIfInBounds_toArray, List.set_cons_zero, List.set_cons_succ, List.getElem_toArray, List.getElem_cons_zero, List.getElem_cons_succ]
    refine' wpAnyH_take (i := 9) (v := undef) rfl (by kernel_rfl) (by kernel_rfl) (by kernel_rfl) (fun _ _ _ h => h) (Or.inr ⟨by rfl, rfl⟩) (by assumption) ?lrest10
    try simp only [Act.put, List.setIfInBounds_toArray, List.set_cons_zero, List.set_cons_succ, List.getElem_toArray, List.getElem_cons_zero, List.getElem_cons_succ]
    refine' wpAnyH_take (i := 10) (v := undef) rfl (by kernel_rfl) (by kernel_rfl) (by kernel_rfl) (fun _ _ _ h => h) (Or.inr ⟨by rfl, rfl⟩) (by assumption) ?lrest11
    try simp only [Act.put, List.setIfInBounds_toArray, List.set_cons_zero, List.set_cons_succ, List.getElem_toArray, List.getElem_cons_zero, List.getElem_cons_succ]
    refine' wpAnyH_take (i := 11) (v := _) rfl (by kernel_rfl) (by kernel_rfl) (by kernel_rfl) (fun _ _ _ h => h) (Or.inl ⟨by rfl, ?ly12⟩) (by assumption) ?lrest12
    case ly12 =>
      intro w hSw
      try dsimp only at hSw
      go_simp
      try with_reducible rfl
    try simp only [Act.put, List.setIfInBounds_toArray, List.set_cons_zero, List.set_cons_succ, List.getElem_toArray, List.getElem_cons_zero, List.getElem_cons_succ]
    refine wpAnyH_done (by kernel_rfl) ?_ _
    go_wp2_with fail
    go_ret
    exact ⟨rfl, hb1⟩
  | true =>
    by_cases hle : n ≤ SZ
    · have HX2 := Lib.hid (HX hle)
      clear HX
      have hle' : ¬ (SZ : Int) < (n : Int) := by omega
      have hle2 : decide ((SZ : Int) < (n : Int)) = false := decide_eq_false hle'
      have hle3 : decide (SZ < n) = false := decide_eq_false (by omega)
      have e : RR = (decide (XH = 0) && decide (XL = 0)) := by rw [HE.out, decide_eq_true hle]; rfl
      have He := Lib.hid e
      clear e
      go_enter Tryz.func94, Tryz.ntmps94
      go_wp2_with fail
      generalize w.alloc (.cells #[.bool v, .int .u64 (h : Int), .int .u64 (l : Int), .int .u8 (n : Int)] 64) = v0 at hB0 hb0 ⊢
      generalize hg : w.heap.size = g at hB0 ⊢
      have hB0 := hB0.drew
      refine wp_region_held_drew (S := (fun w' => w'.cell? ⟨g, 0, none⟩ = some (.bool v) ∧ w'.cell? ⟨g, 1, none⟩ = some (.int .u64 (h : Int)) ∧ w'.cell? ⟨g, 2, none⟩ = some (.int .u64 (l : Int)) ∧ w'.cell? ⟨g, 3, none⟩ = some (.int .u8 (n : Int)))) (by kernel_rfl) ⟨hB0.cell 0, hB0.cell 1, hB0.cell 2, hB0.cell 3⟩ (fun hHeld => ?_)
      refine' wpAnyH_take (i := 0) (v := _) rfl (by kernel_rfl) (by kernel_rfl) (by kernel_rfl) (fun _ _ _ h => h) (Or.inl ⟨by rfl, ?ly13⟩) (by assumption) ?lrest13
      case ly13 =>
        intro w hSw
        try dsimp only at hSw
        go_simp
        try with_reducible rfl
      try simp only [Act.put, List.setIfInBounds_toArray, List.set_cons_zero, List.set_cons_succ, List.getElem_toArray, List.getElem_cons_zero, List.getElem_cons_succ]
      refine' wpAnyH_take (i := 1) (v := _) rfl (by kernel_rfl) (by kernel_rfl) (by kernel_rfl) (fun _ _ _ h => h) (Or.inl ⟨by rfl, ?ly14⟩) (by assumption) ?lrest14
      case ly14 =>
        intro w hSw
        try dsimp only at hSw
        go_simp
        try with_reducible rfl
      try simp only [Act.put, List.setIfInBounds_toArray, List.set_cons_zero, List.set_cons_succ, List.getElem_toArray, List.getElem_cons_zero, List.getElem_cons_succ]
      refine wpAnyH_ready (rs := [2]) (by kernel_rfl) (by simp) ?_
      refine AllReadyH.cons rfl (fun K hK => ?_) AllReadyH.nil
      go_simp
      refine (Hm.out _).mono ?_
      rintro r v1 ⟨rfl, d1⟩
      have hb1 := after hb0 d1
      have hB1 := hB0.below d1 hB0.lt
      refine hK.out _ _ ⟨hB1.cell 0, hB1.cell 1, hB1.cell 2, hB1.cell 3⟩ (fun hHeld => ?_)
      clear hK K
      try simp only [Act.put, List.setIfInBounds_toArray, List.set_cons_zero, List.set_cons_succ, List.getElem_toArray, List.getElem_cons_zero, List.getElem_cons_succ]
      refine' wpAnyH_take (i := 3) (v := _) rfl (by kernel_rfl) (by kernel_rfl) (by kernel_rfl) (fun _ _ _ h => h) (Or.inl ⟨by rfl, ?ly16⟩) (by assumption) ?lrest16
      case ly16 =>
        intro w hSw
        try dsimp only at hSw
        go_simp
        try with_reducible rfl
      try simp only [Act.put, List.setIfInBounds_toArray, List.set_cons_zero, List.set_cons_succ, List.getElem_toArray, List.getElem_cons_zero, List.getElem_cons_succ]
      refine' wpAnyH_take (i := 4) (v := _) rfl (by kernel_rfl) (by kernel_rfl) (by kernel_rfl) (fun _ _ _ h => h) (Or.inl ⟨by rfl, ?ly17⟩) (by assumption) ?lrest17
      case ly17 =>
        intro w hSw
        try dsimp only at hSw
        go_simp
        try with_reducible rfl
      try simp only [Act.put, List.setIfInBounds_toArray, List.set_cons_zero, List.set_cons_succ, List.getElem_toArray, List.getElem_cons_zero, List.getElem_cons_succ]
      refine' wpAnyH_take (i := 5) (v := _) rfl (by kernel_rfl) (by kernel_rfl) (by kernel_rfl) (fun _ _ _ h => h) (Or.inl ⟨by rfl, ?ly18⟩) (by assumption) ?lrest18
      case ly18 =>
        intro w hSw
        try dsimp only at hSw
        go_simp
        try with_reducible rfl
      try simp only [Act.put, List.setIfInBounds_toArray, List.set_cons_zero, List.set_cons_succ, List.getElem_toArray, List.getElem_cons_zero, List.getElem_cons_succ]
      refine' wpAnyH_take (i := 6) (v := _) rfl (by kernel_rfl) (by kernel_rfl) (by kernel_rfl) (fun _ _ _ h => h) (Or.inl ⟨by rfl, ?ly19⟩) (by assumption) ?lrest19
      case ly19 =>
        intro w hSw
        try dsimp only at hSw
        go_simp
        try with_reducible rfl
      try simp only [Act.put, List.setIfInBounds_toArray, List.set_cons_zero, List.set_cons_succ, List.getElem_toArray, List.getElem_cons_zero, List.getElem_cons_succ]
      refine' wpAnyH_take (i := 7) (v := _) rfl (by kernel_rfl) (by kernel_rfl) (by kernel_rfl) (fun _ _ _ h => h) (Or.inl ⟨by rfl, ?ly20⟩) (by assumption) ?lrest20
      case ly20 =>
        intro w hSw
        try dsimp only at hSw
        go_simp
        try with_reducible rfl
      try simp only [Act.put, List.setIfInBounds_toArray, List.set_cons_zero, List.set_cons_succ, List.getElem_toArray, List.getElem_cons_zero, List.getElem_cons_succ]
      refine' wpAnyH_take (i := 8) (v := _) rfl (by kernel_rfl) (by kernel_rfl) (by kernel_rfl) (fun _ _ _ h => h) (Or.inl ⟨by rfl, ?ly21⟩) (by assumption) ?lrest21
      case ly21 =>
        intro w hSw
        try dsimp only at hSw
        go_simp
        try with_reducible rfl
      try simp only [Act.put, List.setIfInBounds_toArray, List.set_cons_zero, List.set_cons_succ, List.getElem_toArray, List.getElem_cons_zero, List.getElem_cons_succ]
      refine wpAnyH_ready (rs := [9]) (by kernel_rfl) (by simp) ?_
      refine AllReadyH.cons rfl (fun K hK => ?_) AllReadyH.nil
      go_simp
      refine (Hs.out _).mono ?_
      rintro r v2 ⟨rfl, d2⟩
      have hb2 := after hb1 d2
      have hB2 := hB1.below d2 hB1.lt
      refine hK.out _ _ ⟨hB2.cell 0, hB2.cell 1, hB2.cell 2, hB2.cell 3⟩ (fun hHeld => ?_)
      clear hK K
      try simp only [Act.put, List.setIfInBounds_toArray, List.set_cons_zero, List.set_cons_succ, List.getElem_toArray, List.getElem_cons_zero, List.getElem_cons_succ]
      refine' wpAnyH_take (i := 10) (v := _) rfl (by kernel_rfl) (by kernel_rfl) (by kernel_rfl) (fun _ _ _ h => h) (Or.inl ⟨by rfl, ?ly23⟩) (by assumption) ?lrest23
      case ly23 =>
        intro w hSw
        try dsimp only at hSw
        go_simp
        try with_reducible rfl
      try simp only [Act.put, List.setIfInBounds_toArray, List.set_cons_zero, List.set_cons_succ, List.getElem_toArray, List.getElem_cons_zero, List.getElem_cons_succ]
      refine' wpAnyH_take (i := 11) (v := _) rfl (by kernel_rfl) (by kernel_rfl) (by kernel_rfl) (fun _ _ _ h => h) (Or.inl ⟨by rfl, ?ly24⟩) (by assumption) ?lrest24
      case ly24 =>
        intro w hSw
        try dsimp only at hSw
        go_simp
        try with_reducible rfl
      try simp only [Act.put, List.setIfInBounds_toArray, List.set_cons_zero, List.set_cons_succ, List.getElem_toArray, List.getElem_cons_zero, List.getElem_cons_succ]
      refine wpAnyH_done (by kernel_rfl) ?_ _
      have c0 := hB2.cell 0
      have c1 := hB2.cell 1
      have c2 := hB2.cell 2
      have c3 := hB2.cell 3
      simp at c0 c1 c2 c3
      have HB2 := Lib.hid hB2
      have Hb2 := Lib.hid hb2
      have eH := EH.out
      have eL := EL.out
      have hg2 : g < v2.heap.size := hB2.lt
      clear hB0 hb0 hB1 hb1 hB2 hb2
      by_cases h1 : XH = 0
      all_goals by_cases h2 : XL = 0
      all_goals
        have q1 : ((XH : Int) == 0) = decide (XH = 0) := by rw [Bool.eq_iff_iff, beq_iff_eq, decide_eq_true_iff]; omega
        have q2 : ((XL : Int) == 0) = decide (XL = 0) := by rw [Bool.eq_iff_iff, beq_iff_eq, decide_eq_true_iff]; omega
        first | rw [decide_eq_true h1] at q1 He | rw [decide_eq_false h1] at q1 He
        first | rw [decide_eq_true h2] at q2 He | rw [decide_eq_false h2] at q2 He
        clear h1 h2
        go_wp2_with (go_at_call 101; (with_reducible refine (HX2.out _).mono ?_); rintro r v3 ⟨rfl, d3⟩; have hc3 := (bcell d3).1)
        go_ret
        exact ⟨show Ending.returned (.bool _) = _ by rw [He.out]; rfl, after Hb2.out d3⟩
    · have hle' : (SZ : Int) < (n : Int) := by omega
      have hle2 : decide ((SZ : Int) < (n : Int)) = true := decide_eq_true hle'
      have hle3 : decide (SZ < n) = true := decide_eq_true (by omega)
      have e : RR = false := by rw [HE.out, decide_eq_false hle]; rfl
      rw [e]
      clear HX e
      go_enter Tryz.func94, Tryz.ntmps94
      go_wp2_with fail
      generalize w.alloc (.cells #[.bool v, .int .u64 (h : Int), .int .u64 (l : Int), .int .u8 (n : Int)] 64) = v0 at hB0 hb0 ⊢
      generalize hg : w.heap.size = g at hB0 ⊢
      have hB0 := hB0.drew
      refine wp_region_held_drew (S := (fun w' => w'.cell? ⟨g, 0, none⟩ = some (.bool v) ∧ w'.cell? ⟨g, 1, none⟩ = some (.int .u64 (h : Int)) ∧ w'.cell? ⟨g, 2, none⟩ = some (.int .u64 (l : Int)) ∧ w'.cell? ⟨g, 3, none⟩ = some (.int .u8 (n : Int)))) (by kernel_rfl) ⟨hB0.cell 0, hB0.cell 1, hB0.cell 2, hB0.cell 3⟩ (fun hHeld => ?_)
      refine' wpAnyH_take (i := 0) (v := _) rfl (by kernel_rfl) (by kernel_rfl) (by kernel_rfl) (fun _ _ _ h => h) (Or.inl ⟨by rfl, ?ly25⟩) (by assumption) ?lrest25
      case ly25 =>
        intro w hSw
        try dsimp only at hSw
        go_simp
        try with_reducible rfl
      try simp only [Act.put, List.setIfInBounds_toArray, List.set_cons_zero, List.set_cons_succ, List.getElem_toArray, List.getElem_cons_zero, List.getElem_cons_succ]
      refine' wpAnyH_take (i := 1) (v := _) rfl (by kernel_rfl) (by kernel_rfl) (by kernel_rfl) (fun _ _ _ h => h) (Or.inl ⟨by rfl, ?ly26⟩) (by assumption) ?lrest26
      case ly26 =>
        intro w hSw
        try dsimp only at hSw
        go_simp
        try with_reducible rfl
      try simp only [Act.put, List.setIfInBounds_toArray, List.set_cons_zero, List.set_cons_succ, List.getElem_toArray, List.getElem_cons_zero, List.getElem_cons_succ]
      refine wpAnyH_ready (rs := [2]) (by kernel_rfl) (by simp) ?_
      refine AllReadyH.cons rfl (fun K hK => ?_) AllReadyH.nil
      go_simp
      refine (Hm.out _).mono ?_
      rintro r v1 ⟨rfl, d1⟩
      have hb1 := after hb0 d1
      have hB1 := hB0.below d1 hB0.lt
      refine hK.out _ _ ⟨hB1.cell 0, hB1.cell 1, hB1.cell 2, hB1.cell 3⟩ (fun hHeld => ?_)
      clear hK K
      try simp only [Act.put, List.setIfInBounds_toArray, List.set_cons_zero, List.set_cons_succ, List.getElem_toArray, List.getElem_cons_zero, List.getElem_cons_succ]
      refine' wpAnyH_take (i := 3) (v := _) rfl (by kernel_rfl) (by kernel_rfl) (by kernel_rfl) (fun _ _ _ h => h) (Or.inl ⟨by rfl, ?ly28⟩) (by assumption) ?lrest28
      case ly28 =>
        intro w hSw
        try dsimp only at hSw
        go_simp
        try with_reducible rfl
      try simp only [Act.put, List.setIfInBounds_toArray, List.set_cons_zero, List.set_cons_succ, List.getElem_toArray, List.getElem_cons_zero, List.getElem_cons_succ]
      refine' wpAnyH_take (i := 4) (v := _) rfl (by kernel_rfl) (by kernel_rfl) (by kernel_rfl) (fun _ _ _ h => h) (Or.inl ⟨by rfl, ?ly29⟩) (by assumption) ?lrest29
      case ly29 =>
        intro w hSw
        try dsimp only at hSw
        go_simp
        try with_reducible rfl
      try simp only [Act.put, List.setIfInBounds_toArray, List.set_cons_zero, List.set_cons_succ, List.getElem_toArray, List.getElem_cons_zero, List.getElem_cons_succ]
      refine' wpAnyH_take (i := 5) (v := _) rfl (by kernel_rfl) (by kernel_rfl) (by kernel_rfl) (fun _ _ _ h => h) (Or.inl ⟨by rfl, ?ly30⟩) (by assumption) ?lrest30
      case ly30 =>
        intro w hSw
        try dsimp only at hSw
        go_simp
        try with_reducible rfl
      try simp only [Act.put, List.setIfInBounds_toArray, List.set_cons_zero, List.set_cons_succ, List.getElem_toArray, List.getElem_cons_zero, List.getElem_cons_succ]
      refine' wpAnyH_take (i := 6) (v := _) rfl (by kernel_rfl) (by kernel_rfl) (by kernel_rfl) (fun _ _ _ h => h) (Or.inl ⟨by rfl, ?ly31⟩) (by assumption) ?lrest31
      case ly31 =>
        intro w hSw
        try dsimp only at hSw
        go_simp
        try with_reducible rfl
      try simp only [Act.put, List.setIfInBounds_toArray, List.set_cons_zero, List.set_cons_succ, List.getElem_toArray, List.getElem_cons_zero, List.getElem_cons_succ]
      refine' wpAnyH_take (i := 7) (v := _) rfl (by kernel_rfl) (by kernel_rfl) (by kernel_rfl) (fun _ _ _ h => h) (Or.inl ⟨by rfl, ?ly32⟩) (by assumption) ?lrest32
      case ly32 =>
        intro w hSw
        try dsimp only at hSw
        go_simp
        try with_reducible rfl
      try simp only [Act.put, List.setIfInBounds_toArray, List.set_cons_zero, List.set_cons_succ, List.getElem_toArray, List.getElem_cons_zero, List.getElem_cons_succ]
      refine' wpAnyH_take (i := 8) (v := _) rfl (by kernel_rfl) (by kernel_rfl) (by kernel_rfl) (fun _ _ _ h => h) (Or.inl ⟨by rfl, ?ly33⟩) (by assumption) ?lrest33
      case ly33 =>
        intro w hSw
        try dsimp only at hSw
        go_simp
        try with_reducible rfl
      try simp only [Act.put, List.setIfInBounds_toArray, List.set_cons_zero, List.set_cons_succ, List.getElem_toArray, List.getElem_cons_zero, List.getElem_cons_succ]
      refine wpAnyH_ready (rs := [9]) (by kernel_rfl) (by simp) ?_
      refine AllReadyH.cons rfl (fun K hK => ?_) AllReadyH.nil
      go_simp
      refine (Hs.out _).mono ?_
      rintro r v2 ⟨rfl, d2⟩
      have hb2 := after hb1 d2
      have hB2 := hB1.below d2 hB1.lt
      refine hK.out _ _ ⟨hB2.cell 0, hB2.cell 1, hB2.cell 2, hB2.cell 3⟩ (fun hHeld => ?_)
      clear hK K
      try simp only [Act.put, List.setIfInBounds_toArray, List.set_cons_zero, List.set_cons_succ, List.getElem_toArray, List.getElem_cons_zero, List.getElem_cons_succ]
      refine' wpAnyH_take (i := 10) (v := _) rfl (by kernel_rfl) (by kernel_rfl) (by kernel_rfl) (fun _ _ _ h => h) (Or.inl ⟨by rfl, ?ly35⟩) (by assumption) ?lrest35
      case ly35 =>
        intro w hSw
        try dsimp only at hSw
        go_simp
        try with_reducible rfl
      try simp only [Act.put, List.setIfInBounds_toArray, List.set_cons_zero, List.set_cons_succ, List.getElem_toArray, List.getElem_cons_zero, List.getElem_cons_succ]
      refine' wpAnyH_take (i := 11) (v := _) rfl (by kernel_rfl) (by kernel_rfl) (by kernel_rfl) (fun _ _ _ h => h) (Or.inl ⟨by rfl, ?ly36⟩) (by assumption) ?lrest36
      case ly36 =>
        intro w hSw
        try dsimp only at hSw
        go_simp
        try with_reducible rfl
      try simp only [Act.put, List.setIfInBounds_toArray, List.set_cons_zero, List.set_cons_succ, List.getElem_toArray, List.getElem_cons_zero, List.getElem_cons_succ]
      refine wpAnyH_done (by kernel_rfl) ?_ _
      go_wp2_with fail
      go_ret
      exact ⟨rfl, hb2⟩
end Go.Proofs.YthglckoikjfjkaaGreatDoor

/- Holds, Less: the program's walks. -/
namespace Go.Proofs.YthglckoikjfjkaaGreatDoor
open Go.RowKit
attribute [local go_sem ↓] Go.wp_at_zero Go.wp_at_succ

theorem two_boxed (w : World) (o o' : Obj) : Below w.heap.size w ((w.alloc o).alloc o') := after (boxed _ _) (boxed _ _)
set_option maxHeartbeats 2000000 in
theorem less_any (a b : Ad) (w : World) : Calls Tryz.prog 55 #[.agg a.cells, .agg b.cells] w (Got (.bool (lessA a b)) w) := by
  obtain ⟨v, x, l⟩ := a
  obtain ⟨v', x', l'⟩ := b
  unfold Ad.cells lessA
  simp only
  cases v
  all_goals cases v'
  case false.true | true.false =>
    go_enter Tryz.func55, Tryz.ntmps55
    go_wp2_with fail
    go_ret
    exact ⟨rfl, two_boxed _ _ _⟩
  all_goals
    by_cases e : x = x'
    · subst e
      rw [if_neg (by decide), if_neg (by simp)]
      go_enter Tryz.func55, Tryz.ntmps55
      go_wp2_with fail
      go_ret
      exact ⟨rfl, two_boxed _ _ _⟩
    · have e1 : ((x : Int) != (x' : Int)) = true := by simp; omega
      rw [if_neg (by decide), if_pos e]
      have He := Lib.hid e
      clear e
      go_enter Tryz.func55, Tryz.ntmps55
      go_wp2_with fail
      go_ret
      exact ⟨rfl, two_boxed _ _ _⟩
/- Holds. -/
set_option maxHeartbeats 4000000 in
set_option maxRecDepth 100000 in
theorem holds_any (p : Pf) (a : Ad) (ok : p.Ok) (oa : a.Ok) (w : World) : Calls Tryz.prog 68 #[.agg p.cells, .agg a.cells] w (Got (.bool (holdsP p a)) w) := by
  have HE := Lib.hid (holdsP_eq (p := p) (a := a) ok.a oa)
  have Hp := Lib.hid (mayPrefix_any p ok)
  have Hm := Lib.hid (mayAddr_any a oa)
  have hhi := oa.hi
  have hlo := oa.lo
  have HX : pmay p = true → p.a.v6 = a.v6 → ∀ w, Calls Tryz.prog 101 #[.agg a.cells, .int .u8 (p.bits : Int)] w fun r w' => r = .returned (.tuple #[.int .u64 (mk (kH a p.bits) : Int), .int .u64 (mk (kL a p.bits) : Int)]) ∧ Below w.heap.size w w' := fun h h6 w => masks_any a p.bits (by have := (pmay_may h).2; unfold Ad.size at *; rw [← h6]; exact this) w
  have eH := and_mk hhi (kH_le a p.bits)
  have eL := and_mk hlo (kL_le (a := a) (n := p.bits))
  generalize mk (kH a p.bits) = MH at HX eH
  generalize mk (kL a p.bits) = ML at HX eL
  generalize a.hi / 2 ^ kH a p.bits * 2 ^ kH a p.bits = NH at HE eH
  generalize a.lo / 2 ^ kL a p.bits * 2 ^ kL a p.bits = NL at HE eL
  generalize hR : holdsP p a = RR at HE ⊢
  clear hR
  generalize pmay p = PM at Hp HE HX
  generalize a.may = AM at Hm HE
  obtain ⟨⟨v, x, l⟩, n⟩ := p
  obtain ⟨v', x', l'⟩ := a
  unfold Pf.cells
  unfold Pf.cells at Hp
  unfold Ad.cells at *
  simp only at hhi hlo HE Hp Hm HX eH eL ⊢
  have EH := Lib.hid eH
  have EL := Lib.hid eL
  clear eH eL ok oa
  have hB0 := (Blk.new w 64 #[.bool v, .int .u64 (x : Int), .int .u64 (l : Int), .int .u8 (n : Int)]).alloc (.cells #[.bool v', .int .u64 (x' : Int), .int .u64 (l' : Int)] 40)
  have hD0 : Blk ((w.alloc (.cells #[.bool v, .int .u64 (x : Int), .int .u64 (l : Int), .int .u8 (n : Int)] 64)).alloc (.cells #[.bool v', .int .u64 (x' : Int), .int .u64 (l' : Int)] 40)) (w.heap.size + 1) 40 #[.bool v', .int .u64 (x' : Int), .int .u64 (l' : Int)] := by
    have h := Blk.new (w.alloc (.cells #[.bool v, .int .u64 (x : Int), .int .u64 (l : Int), .int .u8 (n : Int)] 64)) 40 #[.bool v', .int .u64 (x' : Int), .int .u64 (l' : Int)]
    simpa using h
  have hb0 := two_boxed w (.cells #[.bool v, .int .u64 (x : Int), .int .u64 (l : Int), .int .u8 (n : Int)] 64) (.cells #[.bool v', .int .u64 (x' : Int), .int .u64 (l' : Int)] 40)
  cases PM with
  | false =>
    have e : RR = false := by rw [HE.out]; rfl
    rw [e]
    clear e HX
    go_enter Tryz.func68, Tryz.ntmps68
    go_wp2_with (go_at_call 94; (with_reducible refine (Hp.out _).mono ?_); rintro r w1 ⟨rfl, d1⟩; have hb1 := after hb0 d1)
    go_ret
    exact ⟨rfl, hb1⟩
  | true =>
    cases AM with
    | false =>
      have e : RR = false := by rw [HE.out]; rfl
      rw [e]
      clear e HX
      go_enter Tryz.func68, Tryz.ntmps68
      go_wp2_with (first
        | (go_at_call 94; (with_reducible refine (Hp.out _).mono ?_); rintro r w1 ⟨rfl, d1⟩; have hb1 := after hb0 d1; have hD1 := hD0.below d1 hD0.lt; have d0 := hD1.cell 0; have d1 := hD1.cell 1; have d2 := hD1.cell 2; simp at d0 d1 d2)
        | (go_at_call 86; (with_reducible refine (Hm.out _).mono ?_); rintro r w2 ⟨rfl, d2⟩; have hb2 := after hb1 d2))
      go_ret
      exact ⟨rfl, hb2⟩
    | true =>
      by_cases h6 : v = v'
      · subst h6
        have HX2 := Lib.hid (HX rfl rfl)
        clear HX
        have e : RR = (decide (NH = x) && decide (NL = l)) := by rw [HE.out]; simp
        have He := Lib.hid e
        clear e
        go_enter Tryz.func68, Tryz.ntmps68
        go_upto_region 4 with (first
          | (go_at_call 94; (with_reducible refine (Hp.out _).mono ?_); rintro r w1 ⟨rfl, d1⟩; have hb1 := after hb0 d1; have hD1 := hD0.below d1 hD0.lt; have hB1 := hB0.below d1 hB0.lt; have d0 := hD1.cell 0; have d1 := hD1.cell 1; have d2 := hD1.cell 2; simp at d0 d1 d2)
          | (go_at_call 86; (with_reducible refine (Hm.out _).mono ?_); rintro r w2 ⟨rfl, g2⟩; have hb2 := after hb1 g2; have hD2 := hD1.below g2 hD1.lt; have hB2 := hB1.below g2 hB1.lt; clear d0 d1 d2; have d0 := hD2.cell 0; have d1 := hD2.cell 1; have d2 := hD2.cell 2; simp at d0 d1 d2; have b0 := hB2.cell 0; have b3 := hB2.cell 3; simp at b0 b3)
          | (go_at_call 101; (with_reducible refine (HX2.out _).mono ?_); rintro r w3 ⟨rfl, g3⟩; have hb3 := after hb2 g3; have hD3 := hD2.below g3 hD2.lt; have hB3 := hB2.below g3 hB2.lt; clear d0 d1 d2 b0 b3; have d0 := hD3.cell 0; have d1 := hD3.cell 1; have d2 := hD3.cell 2; simp at d0 d1 d2; have b0 := hB3.cell 0; have b1 := hB3.cell 1; have b2 := hB3.cell 2; simp at b0 b1 b2; have fr := (fun i => hD3.frozen i)))
        have eH := EH.out
        have eL := EL.out
        go_upto_region 5 with (fail)
        have hD4 : Blk (w3.setCell ⟨w.heap.size + 1, 1, none⟩ (.int .u64 (NH : Int))) (w.heap.size + 1) 40 #[.bool v, .int .u64 (NH : Int), .int .u64 (l' : Int)] := hD3.set_ 1 _
        have hD5 : Blk ((w3.setCell ⟨w.heap.size + 1, 1, none⟩ (.int .u64 (NH : Int))).setCell ⟨w.heap.size + 1, 2, none⟩ (.int .u64 (NL : Int))) (w.heap.size + 1) 40 #[.bool v, .int .u64 (NH : Int), .int .u64 (NL : Int)] := hD4.set_ 2 _
        have hB5 : Blk ((w3.setCell ⟨w.heap.size + 1, 1, none⟩ (.int .u64 (NH : Int))).setCell ⟨w.heap.size + 1, 2, none⟩ (.int .u64 (NL : Int))) w.heap.size 64 #[.bool v, .int .u64 (x : Int), .int .u64 (l : Int), .int .u8 (n : Int)] := (hB3.far (p := ⟨w.heap.size + 1, 1, none⟩) (by simp) _).far (p := ⟨w.heap.size + 1, 2, none⟩) (by simp) _
        have hb5 : Below w.heap.size w ((w3.setCell ⟨w.heap.size + 1, 1, none⟩ (.int .u64 (NH : Int))).setCell ⟨w.heap.size + 1, 2, none⟩ (.int .u64 (NL : Int))) := (hb3.setCell (p := ⟨w.heap.size + 1, 1, none⟩) (by simp) _).setCell (p := ⟨w.heap.size + 1, 2, none⟩) (by simp) _
        generalize ((w3.setCell ⟨w.heap.size + 1, 1, none⟩ (.int .u64 (NH : Int))).setCell ⟨w.heap.size + 1, 2, none⟩ (.int .u64 (NL : Int))) = w5 at hD5 hB5 hb5 ⊢
        clear d0 d1 d2 b0 b1 b2 fr eH eL hD4
        have d0 := hD5.cell 0
        have d1 := hD5.cell 1
        have d2 := hD5.cell 2
        have b0 := hB5.cell 0
        have b1 := hB5.cell 1
        have b2 := hB5.cell 2
        simp at d0 d1 d2 b0 b1 b2
        have Hb5 := Lib.hid hb5
        clear hb0 hb1 hb2 hb3 hb5 hB0 hB1 hB2 hB3 hD0 hD1 hD2 hD3 hB5 hD5
        go_wp2_with fail
        all_goals
          go_ret
          exact ⟨ret_b (by rw [He.out]; simp <;> omega), Hb5.out⟩
      · have e : RR = false := by rw [HE.out, show (v == v') = false by simpa using h6]; rfl
        rw [e]
        have q : (v == v') = false := by simpa using h6
        clear e HX h6
        go_enter Tryz.func68, Tryz.ntmps68
        go_wp2_with (first
          | (go_at_call 94; (with_reducible refine (Hp.out _).mono ?_); rintro r w1 ⟨rfl, d1⟩; have hb1 := after hb0 d1; have hD1 := hD0.below d1 hD0.lt; have hB1 := hB0.below d1 hB0.lt; have d0 := hD1.cell 0; have d1 := hD1.cell 1; have d2 := hD1.cell 2; simp at d0 d1 d2)
          | (go_at_call 86; (with_reducible refine (Hm.out _).mono ?_); rintro r w2 ⟨rfl, g2⟩; have hb2 := after hb1 g2; have hD2 := hD1.below g2 hD1.lt; have hB2 := hB1.below g2 hB1.lt; clear d0 d1 d2; have d0 := hD2.cell 0; have d1 := hD2.cell 1; have d2 := hD2.cell 2; simp at d0 d1 d2; have b0 := hB2.cell 0; have b3 := hB2.cell 3; simp at b0 b3))
        go_ret
        exact ⟨rfl, hb2⟩
end Go.Proofs.YthglckoikjfjkaaGreatDoor

/- append of noughts ('append(x, make([]T, k)...)'), of nothing; slices.Clone: the laws, the walk. -/
namespace Go.Proofs.YthglckoikjfjkaaGreatDoor
open Go.RowKit

theorem zeroCells_one (z : Value) (hz : z.cells = #[z]) (k : Nat) : Builtin.zeroCells z.cells k = (List.replicate k z).toArray := by
  unfold Builtin.zeroCells
  rw [hz]
  apply Array.ext
  · simp
  · intro i h1 h2
    simp
    have : i % 1 = 0 := Nat.mod_one i
    simp [this]

section
variable {P : Program} (w : World)
theorem run_append_make (base : Nat) (t tx ty e : TypeId) (i : TypeInfo) (z : Value) (ht : P.underlying t = some (.slice e)) (hx : P.underlying tx = some (.int .i64)) (hi : P.info? e = some i) (hz : i.zero = some z)
    (hsize : i.size = 1) (hby : i.bytes = 8) (hzc : z.cells = #[z]) (hz1 : z.oneCell' = true)
    (v : Value) (n : Nat) (xs : List Value) (hown : w.ownsRow base e 1 v n xs) (k : Nat) (hk : k ≤ 1000) (hn : n ≤ 1000) (hbase : base ≤ w.heap.size) :
    ∃ v' w', (Builtin.append_ #[t, tx] ty #[v, .int .i64 (k : Int)]).run P w = .ok v' w' ∧ w'.ownsRow base e 1 v' (n + k) (xs ++ List.replicate k z) ∧ w.grownBy w' v.ownBlock := by
  have hwr : IntKind.i64.wrap (k : Int) = (k : Int) := by rw [IntKind.wrap_i64]; omega
  have hw0 : IntKind.i64.wrap 0 = 0 := by rw [IntKind.wrap_i64]; decide
  have hneg : ¬ ((k : Int) < 0) := by omega
  have hbig : ¬ (281474976710656 < (k : Int) * 8) := by omega
  have hlen : (xs ++ List.replicate k z).length = (n + k) * 1 := by rw [List.length_append, hown.1, List.length_replicate]; omega
  have grown : ∀ (old : Nat), old < n + k → ∀ (row : Option Nat),
      (w.drew.alloc (.cells (xs.toArray ++ (List.replicate k z).toArray ++ Builtin.zeroCells z.cells (grownCap w (n + k) old e - (n + k))) e)).ownsRow base e 1
        (.slice (some ⟨w.heap.size, 0, none⟩) (n + k) (grownCap w (n + k) old e)) (n + k) (xs ++ List.replicate k z) ∧
      w.grownBy (w.drew.alloc (.cells (xs.toArray ++ (List.replicate k z).toArray ++ Builtin.zeroCells z.cells (grownCap w (n + k) old e - (n + k))) e)) row := by
    intro old ho row
    have hge := grownCap_ge w (n + k) old e
    have hcm : grownCap w (n + k) old e ≤ maxLen := grownCap_le_maxLen w (n + k) old e (by simp only [maxLen]; omega)
    refine ⟨⟨hlen, .inr ⟨w.heap.size, _, _, rfl, hbase, heap_alloc_new w.drew _, hge, hcm, ?_, ?_⟩⟩, ⟨rfl, rfl, rfl, by simp, fun q hq _ => (Below.heap_alloc w.drew _ q hq)⟩⟩
    · simp only [Array.size_append, List.size_toArray, size_zeroCells, hzc, hown.1, List.length_replicate]
      simp
      omega
    · simp only [Array.toList_append, List.append_assoc]
      rw [← List.append_assoc, ← hlen]
      exact List.take_left
  have h63 : ¬ (9223372036854775807 < ((n : Int) + (k : Int))) := by omega
  rcases hown.2 with ⟨rfl, rfl⟩ | ⟨g, cap, cur, rfl, hbg, hg, hnc, hcm, hcs, htake⟩
  · have hx0 : xs = [] := List.eq_nil_of_length_eq_zero (by simpa using hown.1)
    subst hx0
    by_cases hm : k = 0
    · subst hm
      refine ⟨.slice none 0 0, w, ?_, World.ownsRow_nil w base e 1, ⟨rfl, rfl, rfl, Nat.le_refl _, fun _ _ _ => rfl⟩⟩
      simp [Builtin.append_, run_underlying ht, run_underlying hx, sizeOf, typeInfo, hi, asInt, asIntOf, hwr, hw0]
    · have hm0 : ¬ k ≤ 0 := by omega
      have h48' : ¬ (281474976710656 < Builtin.nextslicecap k 0 * 8) := by rw [nextslicecap_zero (by omega)]; omega
      have h63' : ¬ (9223372036854775807 < (k : Int)) := by omega
      have hgr := grown 0 (by omega) (Value.ownBlock (.slice none 0 0))
      simp only [Nat.zero_add, List.nil_append, Array.empty_append] at hgr ⊢
      refine ⟨_, _, ?_, hgr.1, hgr.2⟩
      simp [Builtin.append_, run_underlying ht, run_underlying hx, sizeOf, typeInfo, zeroValue, hi, hz, hsize, hby, asInt, asIntOf, hwr, hneg, hbig, hm, h63', h48', Question.forced, run_firstCells_none, newRow, grownCap, zeroCells_one z hzc]
  · by_cases hroom : n + k ≤ cap
    · have hst := run_storeCells_at P g n e (List.replicate k z) 0 cur w hg (by simp only [List.length_replicate]; omega) (fun u hu => by rw [(List.mem_replicate.1 hu).2]; exact hz1)
      simp only [Nat.add_zero] at hst
      have hadd : (⟨g, 0, none⟩ : Addr).add n = ⟨g, n, none⟩ := by unfold Addr.add; split <;> simp_all
      refine ⟨.slice (some ⟨g, 0, none⟩) (n + k) cap, _, ?_, ⟨hlen, .inr ⟨g, cap, _, rfl, hbg, setRow_heap w g cur (cur.toList.take n ++ List.replicate k z ++ cur.toList.drop (n + (List.replicate k z).length)).toArray e _ hg, hroom, hcm, ?_, ?_⟩⟩, ⟨rfl, rfl, rfl, by simp, fun q _ hq => setRow_other w g q _ (fun e => hq (by simp [Value.ownBlock, e]))⟩⟩
      · by_cases hm : k = 0
        · subst hm
          simp at hst
          simp [Builtin.append_, run_underlying ht, run_underlying hx, sizeOf, typeInfo, zeroValue, hi, hz, hsize, hby, asInt, asIntOf, hw0, hroom, hadd, hst]
          intro h
          omega
        · simp [Builtin.append_, run_underlying ht, run_underlying hx, sizeOf, typeInfo, zeroValue, hi, hz, hsize, hby, asInt, asIntOf, hwr, hneg, hbig, hm, hroom, hadd, zeroCells_one z hzc, hst]
      · simp only [List.size_toArray, List.length_append, List.length_take, List.length_drop, Array.length_toList, List.length_replicate]
        omega
      · have e : cur.toList.take n = xs := by rw [← htake, Nat.mul_one]
        rw [e, ← hlen]
        exact List.take_left
    · have holds : ∀ j u, xs[j]? = some u → w.cell? ((⟨g, 0, none⟩ : Addr).add j) = some u := hown.cells (g := g) rfl
      have hm : k ≠ 0 := by omega
      have hfit := growslice_fits (old := cap) (need := n + k) (bytes := 8) (by omega) (by omega)
      have h48' : ¬ (281474976710656 < Builtin.nextslicecap (n + k) cap * 8) := by omega
      have hfo := run_firstCells_some (P := P) w.drew 1 n ⟨g, 0, none⟩ n cap xs hown.1 (by simpa using holds)
      have hgr := grown cap (by omega) (Value.ownBlock (.slice (some ⟨g, 0, none⟩) n cap))
      refine ⟨_, _, ?_, hgr.1, hgr.2⟩
      simp [Builtin.append_, run_underlying ht, run_underlying hx, sizeOf, typeInfo, zeroValue, hi, hz, hsize, hby, asInt, asIntOf, hwr, hneg, hbig, hm, hroom, h63, h48', Question.forced, hfo, newRow, grownCap, zeroCells_one z hzc]

theorem run_append_none (base : Nat) (t ty e : TypeId) (i : TypeInfo) (ht : P.underlying t = some (.slice e)) (hi : P.info? e = some i) (hsize : i.size = 1)
    (v : Value) (n : Nat) (xs : List Value) (hown : w.ownsRow base e 1 v n xs) : (Builtin.append_ #[t, t] ty #[v, .slice none 0 0]).run P w = .ok v w := by
  rcases hown.2 with ⟨rfl, rfl⟩ | ⟨g, cap, cur, rfl, hbg, hg, hnc, hcm, hcs, htake⟩
  · simp [Builtin.append_, run_underlying ht, sizeOf, typeInfo, hi, Builtin.lenOf, Builtin.firstCells]
  · simp [Builtin.append_, run_underlying ht, sizeOf, typeInfo, hi, hsize, Builtin.lenOf, Builtin.firstCells, storeCells, hnc]
theorem run_append_two (base base2 : Nat) (t ty e : TypeId) (i : TypeInfo) (z : Value) (ht : P.underlying t = some (.slice e)) (hi : P.info? e = some i) (hz : i.zero = some z)
    (hsize : i.size = 1) (hby : i.bytes = 8) (hzs : z.cells.size = 1)
    (v : Value) (n : Nat) (xs : List Value) (hown : w.ownsRow base e 1 v n xs) (u : Value) (m : Nat) (ys : List Value) (hown2 : w.ownsRow base2 e 1 u m ys) (h1 : ∀ y ∈ ys, y.oneCell' = true) (hn : n ≤ 1000) (hm : m ≤ 1000) (hbase : base ≤ w.heap.size) :
    ∃ v' w', (Builtin.append_ #[t, t] ty #[v, u]).run P w = .ok v' w' ∧ w'.ownsRow base e 1 v' (n + m) (xs ++ ys) ∧ w.grownBy w' v.ownBlock := by
  rcases hown2.2 with ⟨rfl, rfl⟩ | ⟨g, cap, cur, rfl, hbg, hg, hnc, hcm, hcs, htake⟩
  · have hy : ys = [] := List.eq_nil_of_length_eq_zero (by simpa using hown2.1)
    subst hy
    exact ⟨v, w, run_append_none w base t ty e i ht hi hsize v n xs hown, by rw [List.append_nil]; exact hown, ⟨rfl, rfl, rfl, Nat.le_refl _, fun _ _ _ => rfl⟩⟩
  · obtain ⟨v', w', hr, ho, hgr, _⟩ := run_append_own (P := P) w base t ty e i z 1 8 ht hi hz hsize hby hzs (by decide) v n xs hown ⟨g, 0, none⟩ m cap ys hown2.1 (fun j u hu => hown2.cells (g := g) rfl j u hu) h1 (by unfold maxLen; omega) (by omega) hbase
    exact ⟨v', w', hr, ho, hgr⟩
end
theorem step_append {P : Program} {w : World} {ops : Array Oper} {rest : List Oper} {o : Oper} {a : Act} {Q : Exit → Act → World → Prop} (hgd : o.guard = none) (s x : Operand) (t u : TypeId)
    (ho : o.op = .call { callee := .builtin .append, args := #[s, x], argTypes := #[t, u] }) {v y v' : Value} {w' : World} (hs : a.eval s = v) (hx : a.eval x = y)
    (hr : (Builtin.append_ #[t, u] o.type #[v, y]).run P w = .ok v' w') (h : wpList P ops Q rest (a.put o.dst v') w') : wpList P ops Q (o :: rest) a w :=
  wpList_plain hgd fun _ hK => by
    unfold Oper.wp execOp
    simp only [ho, resolve, invoke, builtin, Sem.run_bind, Sem.run_pure, Result.andThen_ok, List.map_toArray, List.map_cons, List.map_nil, hs, hx, hr]
    exact hK _ _ h

/- slices.Clone of what is owned. -/
theorem own_here {w : World} {base n : Nat} {e : TypeId} {g cap : Nat} {xs : List Value} (h : w.ownsRow base e 1 (.slice (some ⟨g, 0, none⟩) n cap) n xs) : ∀ j u, xs[j]? = some u → w.cell? ((⟨g, 0, none⟩ : Addr).add j) = some u := fun j u hu => h.cells (g := g) rfl j u hu
set_option maxHeartbeats 1000000 in
set_option maxRecDepth 100000 in
theorem clone_any {w : World} {base : Nat} {v : Value} (L : List Nat) (h : w.ownsRow base 38 1 v L.length (cellsU L)) (hl : L.length ≤ 1000) : Calls Tryz.prog 194 #[v] w fun r w' => (∃ v', r = .returned v' ∧ w'.ownsRow w.heap.size 38 1 v' L.length (cellsU L)) ∧ Below w.heap.size w w' := by
  obtain ⟨i0, hi, hz0, hz1, hz2⟩ := info_parts info_u64
  rcases own_shape h with ⟨A, cap, rfl⟩
  cases A with
  | none =>
    have hn : L = [] := by
      rcases h.2 with ⟨_, h⟩ | ⟨g, cap, cur, h, _⟩
      · exact List.eq_nil_of_length_eq_zero h
      · cases h
    subst hn
    have hc : cap = 0 := by
      rcases h.2 with ⟨h, _⟩ | ⟨g, cap, cur, h, _⟩
      · cases h; rfl
      · cases h
    subst hc
    clear h
    have hb := Below.refl w.heap.size w
    have e1 : ∀ W, (binOp .eql 252 (.slice none 0 0) (.slice none 0 0)).run Tryz.prog W = .ok (.bool true) W := fun _ => by kernel_rfl
    go_enter Tryz.func194, Tryz.ntmps194
    go_wp2_with fail
    go_ret
    exact ⟨⟨.slice none 0 0, rfl, World.ownsRow_nil _ _ _ _⟩, hb⟩
  | some ad =>
    obtain ⟨g, rfl⟩ : ∃ g, ad = ⟨g, 0, none⟩ := by
      rcases h.2 with ⟨h, _⟩ | ⟨g, cap, cur, h, _⟩
      · cases h
      · cases h; exact ⟨g, rfl⟩
    have Hcells := Lib.hid (own_here h)
    have hg := (h.lt g rfl).2
    clear h
    have hE : (w.alloc (.cells #[] 38)).ownsRow w.heap.size 38 1 (.slice (some ⟨w.heap.size, 0, none⟩) 0 0) 0 [] := ⟨rfl, .inr ⟨w.heap.size, 0, #[], rfl, Nat.le_refl _, heap_alloc_new w _, Nat.le_refl _, by decide, rfl, rfl⟩⟩
    have HE := Lib.hid hE
    obtain ⟨n, hn⟩ : ∃ n, n = L.length := ⟨_, rfl⟩
    rw [← hn] at hl ⊢
    have Hn := Lib.hid hn
    have hb := boxed w (.cells #[] 38)
    have Hb := Lib.hid hb
    clear hE hn hb
    have e1 : ∀ W, (binOp .eql 252 (.slice (some ⟨g, 0, none⟩) n cap) (.slice none 0 0)).run Tryz.prog W = .ok (.bool false) W := fun _ => by kernel_rfl
    go_enter Tryz.func194, Tryz.ntmps194
    go_wp2_with (at_builtin; refine wpList_append_own _ rfl _ _ 252 rfl w.heap.size 38 i0 (.int .u64 0) 1 8 Tryz.underlying252 hi hz0 hz1 hz2 rfl (by decide) _ 0 [] rfl HE.out ⟨g, 0, none⟩ n cap (cellsU L) rfl (by rw [Hn.out]; simp [cellsU]) (fun j u hu => (World.cell?_alloc_lt w _ _ (by unfold Addr.add; split <;> simpa using hg)).trans (Hcells.out j u hu)) (fun x hx => by obtain ⟨y, _, rfl⟩ := List.mem_map.1 hx; rfl) (by unfold maxLen; omega) (by omega) (by simp) ?_; intro v' w3 hown' hgrow3 hnil3; have Ho3 := Lib.hid hown'; have hb3 := Lib.hid (Hb.out.grown hgrow3 (by simp) (fun q hq => (HE.out.lt q hq).1)); clear hown' hgrow3 hnil3)
    go_ret
    refine ⟨⟨v', rfl, ?_⟩, hb3.out⟩
    have := Ho3.out
    rwa [Nat.zero_add, List.nil_append] at this
end Go.Proofs.YthglckoikjfjkaaGreatDoor

/- Decode of IPv4: the walk. -/
namespace Go.Proofs.YthglckoikjfjkaaGreatDoor
open Go.RowKit
attribute [local go_sem ↓] Go.wp_at_zero Go.wp_at_succ

section
variable {W w w' : World} {r b k : Nat} {s : ByteArray} {Z : Array Value} {T : TypeId}
end

def Pk.zero : Pk := ⟨⟨false, 0, 0⟩, ⟨false, 0, 0⟩, 0, 0, ByteArray.empty⟩
end Go.Proofs.YthglckoikjfjkaaGreatDoor

/- Decode's words: a packet as a result; bytes as numbers. -/
namespace Go.Proofs.YthglckoikjfjkaaGreatDoor
open Go.RowKit
attribute [local go_sem ↓] Go.wp_at_zero Go.wp_at_succ

theorem results_ct {P : Program} {fn : Func} {tmps : Array Value} {w : World} {x y : Nat} {T : TypeId} {g : Nat} {V v2 : Value} (hres : fn.results = #[.cell x T, .tmp y]) (h1 : tmps.getD x undef = .pointer (some ⟨g, 0, none⟩)) (h2 : tmps.getD y undef = v2) (hl : (loadVar T ⟨g, 0, none⟩).run P w = .ok V w) : (results fn tmps).run P w = .ok (.tuple #[V, v2]) w := by
  have h1' : tmps[x]?.getD undef = .pointer (some ⟨g, 0, none⟩) := by simpa using h1
  have h2' : tmps[y]?.getD undef = v2 := by simpa using h2
  simp [results, hres, h1', h2', asAddr, hl]
end Go.Proofs.YthglckoikjfjkaaGreatDoor

/- Whether a number stands among some: the walks. -/
namespace Go.Proofs.YthglckoikjfjkaaGreatDoor
open Go.RowKit
attribute [local go_sem ↓] Go.wp_at_zero Go.wp_at_succ

def At (i : Int) (P : Prop) : Prop := 0 ≤ i ↔ P
end Go.Proofs.YthglckoikjfjkaaGreatDoor

/- Decode of IPv6: the closure. -/
namespace Go.Proofs.YthglckoikjfjkaaGreatDoor
open Go.RowKit
attribute [local go_sem ↓] Go.wp_at_zero Go.wp_at_succ

theorem load_ad {w : World} {g : Nat} {v0 v1 v2 : Value} (h : Blk w g 40 #[v0, v1, v2]) : (loadVar 40 ⟨g, 0, none⟩).run Tryz.prog w = .ok (.agg #[v0, v1, v2]) w := by
  have c0 := h.cell 0
  have c1 := h.cell 1
  have c2 := h.cell 2
  simp at c0 c1 c2
  simp [loadVar, go_sem, c0, c1, c2]
theorem results_c {P : Program} {fn : Func} {tmps : Array Value} {w : World} {x : Nat} {T : TypeId} {g : Nat} {V : Value} (hres : fn.results = #[.cell x T]) (h1 : tmps.getD x undef = .pointer (some ⟨g, 0, none⟩)) (hl : (loadVar T ⟨g, 0, none⟩).run P w = .ok V w) : (results fn tmps).run P w = .ok V w := by
  have h1' : tmps[x]?.getD undef = .pointer (some ⟨g, 0, none⟩) := by simpa using h1
  simp [results, hres, h1', asAddr, hl]

end Go.Proofs.YthglckoikjfjkaaGreatDoor
