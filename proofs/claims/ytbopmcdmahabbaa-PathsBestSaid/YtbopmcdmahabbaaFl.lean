/- Doubles that are numbers: rounding keeps the order, and what a word stands for is rounded to the word itself. -/
import Ieee.Arith
namespace Go.Proofs.Ytbopmcdmahabbaa
open Ieee

theorem cut_spec (neg : Bool) (n d : Nat) : 2 * n ≤ (2 * Toward.even.cut neg n d + 1) * 2 ^ d ∧ 2 * Toward.even.cut neg n d * 2 ^ d ≤ 2 * n + 2 ^ d ∧ (2 * n = (2 * Toward.even.cut neg n d + 1) * 2 ^ d → Toward.even.cut neg n d % 2 = 0) ∧ (2 * Toward.even.cut neg n d * 2 ^ d = 2 * n + 2 ^ d → Toward.even.cut neg n d % 2 = 0) := by
  have hp : 0 < 2 ^ d := Nat.two_pow_pos _
  unfold Toward.cut
  simp only [Nat.one_shiftLeft]
  by_cases h : d ≤ n.log2 + 2
  · rw [Nat.min_eq_left h]
    generalize hG : 2 ^ d = G at hp ⊢
    have h1 : G * (n / G) + n % G = n := Nat.div_add_mod n G
    have h2 : n % G < G := Nat.mod_lt _ hp
    generalize n / G = lo at h1 ⊢
    generalize n % G = re at h1 h2 ⊢
    have e1 : ∀ c, (2 * c + 1) * G = 2 * (G * c) + G := fun c => by rw [Nat.add_mul, Nat.one_mul, Nat.mul_assoc, Nat.mul_comm c G]
    have e2 : ∀ c, 2 * c * G = 2 * (G * c) := fun c => by rw [Nat.mul_assoc, Nat.mul_comm c G]
    have e3 : G * (lo + 1) = G * lo + G := by rw [Nat.mul_add, Nat.mul_one]
    cases hm : (decide (G < 2 * re) || (G == 2 * re && lo % 2 == 1)) with
    | true =>
      simp only [Bool.toNat_true, e1, e2, e3]
      simp only [Bool.or_eq_true, Bool.and_eq_true, decide_eq_true_eq, beq_iff_eq] at hm
      refine ⟨by omega, by omega, fun h => by omega, fun h => by omega⟩
    | false =>
      simp only [Bool.toNat_false, Nat.add_zero, e1, e2]
      simp only [Bool.or_eq_false_iff, Bool.and_eq_false_iff, decide_eq_false_iff_not, beq_eq_false_iff_ne] at hm
      refine ⟨by omega, by omega, fun h => by omega, fun h => by omega⟩
  · have h1 : n < 2 ^ (n.log2 + 1) := Nat.lt_log2_self
    have h2 : 2 ^ (n.log2 + 2) = 2 * 2 ^ (n.log2 + 1) := by rw [Nat.pow_succ 2 (n.log2 + 1)]; omega
    have h3 : 2 ^ (n.log2 + 2) ≤ 2 ^ d := Nat.pow_le_pow_right (by omega) (by omega)
    rw [Nat.min_eq_right (by omega)]
    generalize hG : 2 ^ (n.log2 + 2) = G at h2 h3 ⊢
    have h4 : n / G = 0 := Nat.div_eq_of_lt (by omega)
    have h5 : n % G = n := Nat.mod_eq_of_lt (by omega)
    rw [h4, h5]
    have hm : (decide (G < 2 * n) || (G == 2 * n && 0 % 2 == 1)) = false := by
      simp only [Bool.or_eq_false_iff, Bool.and_eq_false_iff, decide_eq_false_iff_not, beq_eq_false_iff_ne]
      omega
    rw [hm]
    simp only [Bool.toNat_false]
    refine ⟨by omega, by omega, fun _ => by simp, fun _ => by simp⟩

theorem cut_mono (n1 d1 n2 d2 : Nat) (h : n1 * 2 ^ d2 ≤ n2 * 2 ^ d1) : Toward.even.cut false n1 d1 ≤ Toward.even.cut false n2 d2 := by
  obtain ⟨a1, a2, a3, a4⟩ := cut_spec false n1 d1
  obtain ⟨b1, b2, b3, b4⟩ := cut_spec false n2 d2
  generalize Toward.even.cut false n1 d1 = c1 at *
  generalize Toward.even.cut false n2 d2 = c2 at *
  have hp : 0 < 2 ^ d1 := Nat.two_pow_pos _
  have hq : 0 < 2 ^ d2 := Nat.two_pow_pos _
  generalize 2 ^ d1 = P at *
  generalize 2 ^ d2 = Q at *
  rcases Nat.lt_or_ge c2 c1 with hc | hc
  · exfalso
    have u1 : 2 * c1 * P * Q ≤ (2 * n1 + P) * Q := Nat.mul_le_mul_right _ a2
    have u2 : 2 * n2 * P ≤ (2 * c2 + 1) * Q * P := Nat.mul_le_mul_right _ b1
    have hG : 0 < P * Q := Nat.mul_pos hp hq
    have e1 : 2 * c1 * P * Q = 2 * (c1 * (P * Q)) := by simp only [Nat.mul_assoc]
    have e2 : (2 * n1 + P) * Q = 2 * (n1 * Q) + P * Q := by rw [Nat.add_mul, Nat.mul_assoc]
    have e3 : 2 * n2 * P = 2 * (n2 * P) := by rw [Nat.mul_assoc]
    have e4 : (2 * c2 + 1) * Q * P = 2 * (c2 * (P * Q)) + P * Q := by
      rw [Nat.mul_assoc, Nat.mul_comm Q P, Nat.add_mul, Nat.one_mul, Nat.mul_assoc]
    rw [e1, e2] at u1
    rw [e3, e4] at u2
    obtain ⟨k, rfl⟩ : ∃ k, c1 = c2 + 1 + k := ⟨c1 - (c2 + 1), by omega⟩
    have e5 : (c2 + 1 + k) * (P * Q) = c2 * (P * Q) + P * Q + k * (P * Q) := by rw [Nat.add_mul, Nat.add_mul, Nat.one_mul]
    rw [e5] at u1 e1
    have hk : k = 0 := by
      rcases Nat.eq_zero_or_pos k with h0 | h0
      · exact h0
      · have : P * Q ≤ k * (P * Q) := Nat.le_mul_of_pos_left _ h0
        omega
    subst hk
    have t1 : 2 * (c2 + 1 + 0) * P = 2 * n1 + P := by
      have : 2 * (c2 + 1 + 0) * P * Q = (2 * n1 + P) * Q := by rw [e1, e2]; omega
      exact Nat.eq_of_mul_eq_mul_right hq this
    have t2 : 2 * n2 = (2 * c2 + 1) * Q := by
      have : 2 * n2 * P = (2 * c2 + 1) * Q * P := by rw [e3, e4]; omega
      exact Nat.eq_of_mul_eq_mul_right hp this
    have := a4 t1
    have := b3 t2
    omega
  · exact hc

theorem cut_zero (n : Nat) : Toward.even.cut false n 0 = n := by
  have h : Nat.min 0 (n.log2 + 2) = 0 := Nat.zero_min _
  simp [Toward.cut, Nat.mod_one]

theorem cut_le {n d c : Nat} (h : n ≤ c * 2 ^ d) : Toward.even.cut false n d ≤ c := by
  have h1 := cut_mono n d c 0 (by rw [Nat.pow_zero, Nat.mul_one]; exact h)
  have h2 := cut_zero c
  omega
theorem le_cut {n d c : Nat} (h : c * 2 ^ d ≤ n) : c ≤ Toward.even.cut false n d := by
  have h1 := cut_mono c 0 n d (by rw [Nat.pow_zero, Nat.mul_one]; exact h)
  have h2 := cut_zero c
  omega

/- The word without its sign. -/
def rung (m : Nat) (p : Int) : Nat :=
  if m = 0 then 0 else
  min ((max (p + m.log2 - 52) (-1074) + 1074).toNat * 4503599627370496 + Toward.even.cut false (m <<< (p - max (p + m.log2 - 52) (-1074)).toNat) (max (p + m.log2 - 52) (-1074) - p).toNat) 9218868437227405312

theorem cut_neg (neg : Bool) (n d : Nat) : Toward.even.cut neg n d = Toward.even.cut false n d := rfl
theorem leastP : double.leastPlace = -1074 := by decide
theorem binD : double.binade = 4503599627370496 := by decide
theorem infD : double.infRung = 9218868437227405312 := by decide
theorem fracD : double.fractionBits = 52 := rfl

theorem nearest_eq (neg : Bool) (m : Nat) (p : Int) : double.nearest neg m p = double.word neg (rung m p) := by
  unfold Format.nearest rung
  split
  · rfl
  · simp only [leastP, binD, infD, fracD, cut_neg neg, Int.sub_neg]
    rfl

/- How much it is, in a unit so small that all is whole. -/
def val (m : Nat) (p : Int) : Nat := m * 2 ^ (p + 4000).toNat

theorem val_scale (m : Nat) (p l : Int) (hp : -4000 ≤ p) (hl : -4000 ≤ l) : (m <<< (p - l).toNat) * 2 ^ (l + 4000).toNat = val m p * 2 ^ (l - p).toNat := by
  unfold val
  rw [Nat.shiftLeft_eq, Nat.mul_assoc, Nat.mul_assoc, ← Nat.pow_add, ← Nat.pow_add]
  congr 2
  omega

theorem log2_val {m : Nat} {p : Int} (hm : m ≠ 0) (hp : -4000 ≤ p) : 2 ^ (p + m.log2 + 4000).toNat ≤ val m p ∧ val m p < 2 ^ (p + m.log2 + 4001).toNat := by
  have h1 : 2 ^ m.log2 ≤ m := Nat.log2_self_le hm
  have h2 : m < 2 ^ (m.log2 + 1) := Nat.lt_log2_self
  have hq : 0 < 2 ^ (p + 4000).toNat := Nat.two_pow_pos _
  unfold val
  constructor
  · rw [show (p + m.log2 + 4000).toNat = m.log2 + (p + 4000).toNat by omega, Nat.pow_add]
    exact Nat.mul_le_mul_right _ h1
  · rw [show (p + m.log2 + 4001).toNat = (m.log2 + 1) + (p + 4000).toNat by omega, Nat.pow_add]
    exact Nat.mul_lt_mul_of_pos_right h2 hq

theorem min_mono {a b : Nat} (c : Nat) (h : a ≤ b) : min a c ≤ min b c := by omega
theorem rung_mono {m1 m2 : Nat} {p1 p2 : Int} (hp1 : -4000 ≤ p1) (hp2 : -4000 ≤ p2) (h : val m1 p1 ≤ val m2 p2) : rung m1 p1 ≤ rung m2 p2 := by
  by_cases h1 : m1 = 0
  · simp [rung, h1]
  by_cases h2 : m2 = 0
  · exfalso
    have hq : 0 < 2 ^ (p1 + 4000).toNat := Nat.two_pow_pos _
    have : 0 < val m1 p1 := Nat.mul_pos (Nat.pos_of_ne_zero h1) hq
    have e : val m2 p2 = 0 := by simp [val, h2]
    omega
  obtain ⟨a1, a2⟩ := log2_val h1 hp1
  obtain ⟨b1, b2⟩ := log2_val h2 hp2
  have hl : p1 + m1.log2 ≤ p2 + m2.log2 := by
    have h3 : 2 ^ (p1 + m1.log2 + 4000).toNat < 2 ^ (p2 + m2.log2 + 4001).toNat := by omega
    have := (Nat.pow_lt_pow_iff_right (by omega : 1 < 2)).1 h3
    omega
  unfold rung
  rw [if_neg h1, if_neg h2]
  have s1 := val_scale m1 p1 (max (p1 + m1.log2 - 52) (-1074)) hp1 (by omega)
  have s2 := val_scale m2 p2 (max (p2 + m2.log2 - 52) (-1074)) hp2 (by omega)
  have hL : max (p1 + m1.log2 - 52) (-1074) ≤ max (p2 + m2.log2 - 52) (-1074) := by omega
  have hL1 : p1 + m1.log2 - 52 ≤ max (p1 + m1.log2 - 52) (-1074) := by omega
  have hL2 : max (p1 + m1.log2 - 52) (-1074) < max (p2 + m2.log2 - 52) (-1074) → max (p2 + m2.log2 - 52) (-1074) = p2 + m2.log2 - 52 := by omega
  have hL3 : -1074 ≤ max (p1 + m1.log2 - 52) (-1074) := by omega
  have hL4 : -1074 ≤ max (p2 + m2.log2 - 52) (-1074) := by omega
  generalize max (p1 + m1.log2 - 52) (-1074) = l1 at *
  generalize max (p2 + m2.log2 - 52) (-1074) = l2 at *
  have key : (l1 + 1074).toNat * 4503599627370496 + Toward.even.cut false (m1 <<< (p1 - l1).toNat) (l1 - p1).toNat ≤ (l2 + 1074).toNat * 4503599627370496 + Toward.even.cut false (m2 <<< (p2 - l2).toNat) (l2 - p2).toNat := by
    have q1 : 0 < 2 ^ (l1 + 4000).toNat := Nat.two_pow_pos _
    have q2 : 0 < 2 ^ (l2 + 4000).toNat := Nat.two_pow_pos _
    rcases Int.lt_or_le l1 l2 with hlt | hge
    · have k1 : Toward.even.cut false (m1 <<< (p1 - l1).toNat) (l1 - p1).toNat ≤ 2 ^ 53 := by
        refine cut_le ?_
        refine Nat.le_of_mul_le_mul_right (c := 2 ^ (l1 + 4000).toNat) ?_ q1
        rw [s1, Nat.mul_right_comm (2 ^ 53)]
        refine Nat.mul_le_mul_right _ ?_
        refine Nat.le_trans (Nat.le_of_lt a2) ?_
        rw [← Nat.pow_add]
        exact Nat.pow_le_pow_right (by omega) (by omega)
      have k2 : 2 ^ 52 ≤ Toward.even.cut false (m2 <<< (p2 - l2).toNat) (l2 - p2).toNat := by
        refine le_cut ?_
        refine Nat.le_of_mul_le_mul_right (c := 2 ^ (l2 + 4000).toNat) ?_ q2
        rw [s2, Nat.mul_right_comm (2 ^ 52)]
        refine Nat.mul_le_mul_right _ ?_
        refine Nat.le_trans ?_ b1
        rw [← Nat.pow_add]
        exact Nat.pow_le_pow_right (by omega) (by have := hL2 hlt; omega)
      have : (l1 + 1074).toNat + 1 ≤ (l2 + 1074).toNat := by omega
      have := Nat.mul_le_mul_right 4503599627370496 this
      have e1 : (2 : Nat) ^ 53 = 9007199254740992 := by decide
      have e2 : (2 : Nat) ^ 52 = 4503599627370496 := by decide
      rw [e1] at k1
      rw [e2] at k2
      omega
    · have hll : l1 = l2 := by omega
      subst hll
      have hc : Toward.even.cut false (m1 <<< (p1 - l1).toNat) (l1 - p1).toNat ≤ Toward.even.cut false (m2 <<< (p2 - l1).toNat) (l1 - p2).toNat := by
        refine cut_mono _ _ _ _ ?_
        refine Nat.le_of_mul_le_mul_right (c := 2 ^ (l1 + 4000).toNat) ?_ q1
        rw [Nat.mul_right_comm (m1 <<< (p1 - l1).toNat), s1, Nat.mul_right_comm (m2 <<< (p2 - l1).toNat), s2, Nat.mul_right_comm (val m2 p2)]
        exact Nat.mul_le_mul_right _ (Nat.mul_le_mul_right _ h)
      exact Nat.add_le_add_left hc _
  exact min_mono _ key

/- What a rung stands for. -/
def mk (k : Nat) : Nat := if k < 4503599627370496 then k else 4503599627370496 + k % 4503599627370496
def pk (k : Nat) : Int := if k < 4503599627370496 then -1074 else -1074 + (k / 4503599627370496 - 1 : Nat)
def vk (k : Nat) : Nat := val (mk k) (pk k)
abbrev top : Nat := 9218868437227405312

theorem pk_ge (k : Nat) : -1074 ≤ pk k := by unfold pk; split <;> omega

theorem rung_vk {k : Nat} (hk : k < top) : rung (mk k) (pk k) = k := by
  unfold mk pk
  split
  · next h =>
    unfold rung
    split
    · omega
    · next h0 =>
      have hl : k.log2 < 52 := (Nat.log2_lt h0).2 h
      have e : max (-1074 + (k.log2 : Int) - 52) (-1074) = -1074 := by omega
      rw [e]
      simp only [Int.sub_self, Int.toNat_zero, Nat.shiftLeft_zero, cut_zero]
      simp
      omega
  · next h =>
    generalize hr : k % 4503599627370496 = r
    have hr2 : r < 4503599627370496 := by omega
    have hl : (4503599627370496 + r).log2 = 52 := by
      have h1 : (4503599627370496 + r).log2 < 53 := (Nat.log2_lt (by omega)).2 (by omega)
      have h2 : 52 ≤ (4503599627370496 + r).log2 := (Nat.le_log2 (by omega)).2 (by omega)
      omega
    unfold rung
    rw [if_neg (by omega), hl]
    have e : max (-1074 + ((k / 4503599627370496 - 1 : Nat) : Int) + ((52 : Nat) : Int) - 52) (-1074) = -1074 + ((k / 4503599627370496 - 1 : Nat) : Int) := by omega
    rw [e]
    simp only [Int.sub_self, Int.toNat_zero, Nat.shiftLeft_zero, cut_zero]
    have : k < 9218868437227405312 := hk
    omega

theorem le_rung {k m : Nat} {p : Int} (hk : k < top) (hp : -4000 ≤ p) (h : vk k ≤ val m p) : k ≤ rung m p := by
  have := rung_mono (by have := pk_ge k; omega) hp h
  rwa [rung_vk hk] at this
theorem rung_le {k m : Nat} {p : Int} (hk : k < top) (hp : -4000 ≤ p) (h : val m p ≤ vk k) : rung m p ≤ k := by
  have := rung_mono hp (by have := pk_ge k; omega) h
  rwa [rung_vk hk] at this
theorem vk_le {k l : Nat} (hk : k < top) (h : k ≤ l) (hl : l < top) : vk k ≤ vk l := by
  rcases Nat.le_total (vk k) (vk l) with h1 | h1
  · exact h1
  · have := rung_le hk (by have := pk_ge l; omega) h1
    rw [rung_vk hl] at this
    have : k = l := by omega
    rw [this]
    exact Nat.le_refl _

theorem vk_lt {k l : Nat} (hl : l < top) (h : k < l) : vk k < vk l := by
  rcases Nat.lt_or_ge (vk k) (vk l) with h1 | h1
  · exact h1
  · have := rung_le (m := mk l) (p := pk l) (show k < top by omega) (by have := pk_ge l; omega) h1
    rw [rung_vk hl] at this
    omega

theorem val_mul (m k : Nat) (p : Int) : val (m * k) p = val m p * k := by
  unfold val
  rw [Nat.mul_right_comm]

/- A binade more is twice as much. -/
theorem vk_double {k : Nat} (h : 4503599627370496 ≤ k) : vk (k + 4503599627370496) = 2 * vk k := by
  unfold vk mk pk val
  rw [if_neg (by omega), if_neg (by omega), if_neg (by omega), if_neg (by omega)]
  rw [show (k + 4503599627370496) % 4503599627370496 = k % 4503599627370496 by omega]
  rw [show (-1074 + ((k + 4503599627370496) / 4503599627370496 - 1 : Nat) + 4000 : Int).toNat = (-1074 + (k / 4503599627370496 - 1 : Nat) + 4000 : Int).toNat + 1 by omega]
  rw [Nat.pow_succ, ← Nat.mul_assoc, Nat.mul_comm _ 2]

end Go.Proofs.Ytbopmcdmahabbaa
