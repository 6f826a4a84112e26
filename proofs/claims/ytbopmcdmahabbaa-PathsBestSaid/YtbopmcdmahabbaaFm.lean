/- What is added, taken away, multiplied of doubles that are numbers. -/
import Derived.Test.YtbopmcdmahabbaaFl
namespace Go.Proofs.Ytbopmcdmahabbaa
open Ieee

/- The word nearest to so many of the small units. -/
def rnd (V : Nat) : Nat := rung V (-4000)
theorem val_unit (V : Nat) : val V (-4000) = V := by
  show V * 2 ^ (-4000 + 4000 : Int).toNat = V
  rw [show (-4000 + 4000 : Int).toNat = 0 by decide, Nat.pow_zero, Nat.mul_one]
theorem rung_rnd {m : Nat} {p : Int} (hp : -4000 ≤ p) : rung m p = rnd (val m p) :=
  Nat.le_antisymm (rung_mono hp (Int.le_refl _) (Nat.le_of_eq (val_unit _).symm)) (rung_mono (Int.le_refl _) hp (Nat.le_of_eq (val_unit _)))
theorem rnd_le {k V : Nat} (hk : k < top) (h : V ≤ vk k) : rnd V ≤ k := rung_le hk (Int.le_refl _) (by rw [val_unit]; exact h)
theorem le_rnd {k V : Nat} (hk : k < top) (h : vk k ≤ V) : k ≤ rnd V := le_rung hk (Int.le_refl _) (by rw [val_unit]; exact h)
theorem rnd_vk {k : Nat} (hk : k < top) : rnd (vk k) = k := by
  have := rung_rnd (m := mk k) (p := pk k) (by have := pk_ge k; omega)
  rw [rung_vk hk] at this
  exact this.symm
theorem rnd_mono {V W : Nat} (h : V ≤ W) : rnd V ≤ rnd W := rung_mono (Int.le_refl _) (Int.le_refl _) (by rw [val_unit, val_unit]; exact h)

/- A word of a sign. -/
def wd (s : Bool) (k : Nat) : Nat := double.word s k
theorem wd_false (k : Nat) : wd false k = k := rfl
theorem signW : double.signWeight = 9223372036854775808 := by decide
theorem wd_true (k : Nat) : wd true k = 9223372036854775808 + k := by
  show double.signWeight + k = _
  rw [signW]

theorem read_wd (s : Bool) {k : Nat} (hk : k < top) : double.read (wd s k) = .number s (mk k) (pk k) := by
  have hk' : k < 9218868437227405312 := hk
  have h1 : (wd s k / double.signWeight % 2 == 1) = s := by
    rw [signW]
    cases s with
    | false =>
      rw [wd_false, Nat.div_eq_of_lt (by omega)]
      rfl
    | true =>
      rw [wd_true, show (9223372036854775808 + k) / 9223372036854775808 = 1 by omega]
      rfl
  have h2 : wd s k % double.signWeight = k := by
    rw [signW]
    cases s with
    | false => rw [wd_false]; exact Nat.mod_eq_of_lt (by omega)
    | true => rw [wd_true]; omega
  unfold Format.read
  simp only [h1, h2, binD, infD, leastP]
  unfold mk pk
  split
  · rfl
  · first | rfl | rw [if_pos hk']

theorem mk0 : mk 0 = 0 := rfl
theorem vk0 : vk 0 = 0 := by
  unfold vk val
  rw [mk0, Nat.zero_mul]

theorem write_num (s : Bool) (m : Nat) {p : Int} (hp : -4000 ≤ p) : double.write (.number s m p) = wd s (rnd (val m p)) := by
  show double.nearest s m p = _
  rw [nearest_eq, rung_rnd hp]
  rfl

theorem shl_val (m : Nat) {p b : Int} (hb : b ≤ p) (hb2 : -4000 ≤ b) : (m <<< (p - b).toNat) * 2 ^ (b + 4000).toNat = val m p := by
  unfold val
  rw [Nat.shiftLeft_eq, Nat.mul_assoc, ← Nat.pow_add]
  congr 2
  omega

theorem sum_num (s t : Bool) (m n : Nat) (p q : Int) : Datum.sum (.number s m p) (.number t n q) =
    some (.number (if signed s m (p - min p q).toNat + signed t n (q - min p q).toNat = 0 then s && t else decide (signed s m (p - min p q).toNat + signed t n (q - min p q).toNat < 0)) (signed s m (p - min p q).toNat + signed t n (q - min p q).toNat).natAbs (min p q)) := rfl

theorem val_abs (a : Nat) (b : Int) : val a b = a * 2 ^ (b + 4000).toNat := rfl

/- Two of one sign. -/
theorem sum_same (s : Bool) (m n : Nat) {p q : Int} (hp : -4000 ≤ p) (hq : -4000 ≤ q) : ∃ M P, Datum.sum (.number s m p) (.number s n q) = some (.number s M P) ∧ -4000 ≤ P ∧ val M P = val m p + val n q := by
  have h1 := shl_val m (p := p) (b := min p q) (by omega) (by omega)
  have h2 := shl_val n (p := q) (b := min p q) (by omega) (by omega)
  refine ⟨(m <<< (p - min p q).toNat) + (n <<< (q - min p q).toNat), min p q, ?_, by omega, ?_⟩
  · rw [sum_num]
    unfold signed
    generalize m <<< (p - min p q).toNat = a
    generalize n <<< (q - min p q).toNat = b
    cases s with
    | false =>
      have e1 : ((a : Int) + (b : Int)).natAbs = a + b := by omega
      have e2 : decide ((a : Int) + (b : Int) < 0) = false := by rw [decide_eq_false_iff_not]; omega
      simp only [Bool.false_eq_true, if_false, e1, e2, Bool.and_false, ite_self]
    | true =>
      have e1 : (-(a : Int) + -(b : Int)).natAbs = a + b := by omega
      simp only [if_true, e1, Bool.and_true]
      by_cases h0 : -(a : Int) + -(b : Int) = 0
      · rw [if_pos h0]
      · rw [if_neg h0]
        have e2 : decide (-(a : Int) + -(b : Int) < 0) = true := by rw [decide_eq_true_eq]; omega
        rw [e2]
  · rw [val_abs, Nat.add_mul, h1, h2]

/- One and what is taken away from it. -/
theorem sum_diff (m n : Nat) {p q : Int} (hp : -4000 ≤ p) (hq : -4000 ≤ q) :
    (val n q ≤ val m p → ∃ M P, Datum.sum (.number false m p) (.number true n q) = some (.number false M P) ∧ -4000 ≤ P ∧ val M P = val m p - val n q) ∧
    (val m p < val n q → ∃ M P, Datum.sum (.number false m p) (.number true n q) = some (.number true M P) ∧ -4000 ≤ P ∧ val M P = val n q - val m p) := by
  have h1 := shl_val m (p := p) (b := min p q) (by omega) (by omega)
  have h2 := shl_val n (p := q) (b := min p q) (by omega) (by omega)
  have hq : 0 < 2 ^ (min p q + 4000).toNat := Nat.two_pow_pos _
  rw [← h1, ← h2, sum_num]
  unfold signed
  generalize m <<< (p - min p q).toNat = a
  generalize n <<< (q - min p q).toNat = b
  simp only [Bool.false_eq_true, if_false, if_true, Bool.false_and]
  constructor
  · intro h
    have hab : b ≤ a := Nat.le_of_mul_le_mul_right h hq
    refine ⟨a - b, min p q, ?_, by omega, ?_⟩
    · have e1 : ((a : Int) + -(b : Int)).natAbs = a - b := by omega
      have e2 : decide ((a : Int) + -(b : Int) < 0) = false := by rw [decide_eq_false_iff_not]; omega
      simp only [e1, e2, ite_self]
    · rw [val_abs, Nat.sub_mul]
  · intro h
    have hab : a < b := Nat.lt_of_mul_lt_mul_right h
    refine ⟨b - a, min p q, ?_, by omega, ?_⟩
    · have e1 : ((a : Int) + -(b : Int)).natAbs = b - a := by omega
      have e2 : decide ((a : Int) + -(b : Int) < 0) = true := by rw [decide_eq_true_eq]; omega
      rw [if_neg (by omega)]
      simp only [e1, e2]
    · rw [val_abs, Nat.sub_mul]

/- A zero changes nothing but a zero's sign. -/
theorem sum_zero (s t : Bool) (m : Nat) {p q : Int} (hp : -4000 ≤ p) (hq : -4000 ≤ q) :
    (∃ σ M P, Datum.sum (.number s m p) (.number t 0 q) = some (.number σ M P) ∧ -4000 ≤ P ∧ val M P = val m p ∧ (m ≠ 0 → σ = s)) ∧
    (∃ σ M P, Datum.sum (.number t 0 q) (.number s m p) = some (.number σ M P) ∧ -4000 ≤ P ∧ val M P = val m p ∧ (m ≠ 0 → σ = s)) := by
  have key : ∀ b : Int, b ≤ p → -4000 ≤ b → (m ≠ 0 → m <<< (p - b).toNat ≠ 0) := by
    intro b hb hb2 hm h0
    have h1 := shl_val m hb hb2
    rw [h0, Nat.zero_mul] at h1
    have : 0 < val m p := Nat.mul_pos (Nat.pos_of_ne_zero hm) (Nat.two_pow_pos _)
    omega
  have hz : ∀ u, (0 : Nat) <<< u = 0 := fun u => Nat.zero_shiftLeft u
  have h1 := shl_val m (p := p) (b := min p q) (by omega) (by omega)
  have h2 := shl_val m (p := p) (b := min q p) (by omega) (by omega)
  have k1 := key (min p q) (by omega) (by omega)
  have k2 := key (min q p) (by omega) (by omega)
  constructor
  · rw [sum_num]
    unfold signed
    rw [hz]
    generalize m <<< (p - min p q).toNat = a at h1 k1 ⊢
    refine ⟨_, _, _, rfl, by omega, ?_, ?_⟩
    · rw [val_abs, ← h1]
      cases s <;> cases t <;> simp
    · intro hm
      have := k1 hm
      cases s <;> cases t <;> simp <;> omega
  · rw [sum_num]
    unfold signed
    rw [hz]
    generalize m <<< (p - min q p).toNat = a at h2 k2 ⊢
    refine ⟨_, _, _, rfl, by omega, ?_, ?_⟩
    · rw [val_abs, ← h2]
      cases s <;> cases t <;> simp
    · intro hm
      have := k2 hm
      cases s <;> cases t <;> simp <;> omega

end Go.Proofs.Ytbopmcdmahabbaa
