/- Doubles that are numbers: rounding keeps the order; the operations of words. -/
import Ieee.Arith
namespace Go.Proofs.Ytbopmcdmahabbaa
open Ieee

theorem cut_spec (neg : Bool) (n d : Nat) : 2 * n ≤ (2 * Toward.even.cut neg n d + 1) * 2 ^ d ∧ 2 * Toward.even.cut neg n d * 2 ^ d ≤ 2 * n + 2 ^ d ∧ (2 * n = (2 * Toward.even.cut neg n d + 1) * 2 ^ d → Toward.even.cut neg n d % 2 = 0) ∧ (2 * Toward.even.cut neg n d * 2 ^ d = 2 * n + 2 ^ d → Toward.even.cut neg n d % 2 = 0) := by
  have hp : 0 < 2 ^ d := Nat.two_pow_pos _
  unfold Toward.cut
  simp only [Nat.one_shiftLeft]
  by_cases h : d ≤ n.log2 + 2
  · rw [Nat.min_eq_left h]
    generalize hG : 2 ^ d = G at hp ⊢
    have h1 : G * (n / G) + n % G = n := Nat.div_add_mod n G
    have h2 : n % G < G := Nat.mod_lt _ hp
    generalize n / G = lo at h1 ⊢
    generalize n % G = re at h1 h2 ⊢
    have e1 : ∀ c, (2 * c + 1) * G = 2 * (G * c) + G := fun c => by rw [Nat.add_mul, Nat.one_mul, Nat.mul_assoc, Nat.mul_comm c G]
    have e2 : ∀ c, 2 * c * G = 2 * (G * c) := fun c => by rw [Nat.mul_assoc, Nat.mul_comm c G]
    have e3 : G * (lo + 1) = G * lo + G := by rw [Nat.mul_add, Nat.mul_one]
    cases hm : (decide (G < 2 * re) || (G == 2 * re && lo % 2 == 1)) with
    | true =>
      simp only [Bool.toNat_true, e1, e2, e3]
      simp only [Bool.or_eq_true, Bool.and_eq_true, decide_eq_true_eq, beq_iff_eq] at hm
      refine ⟨by omega, by omega, fun h => by omega, fun h => by omega⟩
    | false =>
      simp only [Bool.toNat_false, Nat.add_zero, e1, e2]
      simp only [Bool.or_eq_false_iff, Bool.and_eq_false_iff, decide_eq_false_iff_not, beq_eq_false_iff_ne] at hm
      refine ⟨by omega, by omega, fun h => by omega, fun h => by omega⟩
  · have h1 : n < 2 ^ (n.log2 + 1) := Nat.lt_log2_self
    have h2 : 2 ^ (n.log2 + 2) = 2 * 2 ^ (n.log2 + 1) := by rw [Nat.pow_succ 2 (n.log2 + 1)]; omega
    have h3 : 2 ^ (n.log2 + 2) ≤ 2 ^ d := Nat.pow_le_pow_right (by omega) (by omega)
    rw [Nat.min_eq_right (by omega)]
    generalize hG : 2 ^ (n.log2 + 2) = G at h2 h3 ⊢
    have h4 : n / G = 0 := Nat.div_eq_of_lt (by omega)
    have h5 : n % G = n := Nat.mod_eq_of_lt (by omega)
    rw [h4, h5]
    have hm : (decide (G < 2 * n) || (G == 2 * n && 0 % 2 == 1)) = false := by
      simp only [Bool.or_eq_false_iff, Bool.and_eq_false_iff, decide_eq_false_iff_not, beq_eq_false_iff_ne]
      omega
    rw [hm]
    simp only [Bool.toNat_false]
    refine ⟨by omega, by omega, fun _ => by simp, fun _ => by simp⟩

theorem cut_mono (n1 d1 n2 d2 : Nat) (h : n1 * 2 ^ d2 ≤ n2 * 2 ^ d1) : Toward.even.cut false n1 d1 ≤ Toward.even.cut false n2 d2 := by
  obtain ⟨a1, a2, a3, a4⟩ := cut_spec false n1 d1
  obtain ⟨b1, b2, b3, b4⟩ := cut_spec false n2 d2
  generalize Toward.even.cut false n1 d1 = c1 at *
  generalize Toward.even.cut false n2 d2 = c2 at *
  have hp : 0 < 2 ^ d1 := Nat.two_pow_pos _
  have hq : 0 < 2 ^ d2 := Nat.two_pow_pos _
  generalize 2 ^ d1 = P at *
  generalize 2 ^ d2 = Q at *
  rcases Nat.lt_or_ge c2 c1 with hc | hc
  · exfalso
    have u1 : 2 * c1 * P * Q ≤ (2 * n1 + P) * Q := Nat.mul_le_mul_right _ a2
    have u2 : 2 * n2 * P ≤ (2 * c2 + 1) * Q * P := Nat.mul_le_mul_right _ b1
    have hG : 0 < P * Q := Nat.mul_pos hp hq
    have e1 : 2 * c1 * P * Q = 2 * (c1 * (P * Q)) := by simp only [Nat.mul_assoc]
    have e2 : (2 * n1 + P) * Q = 2 * (n1 * Q) + P * Q := by rw [Nat.add_mul, Nat.mul_assoc]
    have e3 : 2 * n2 * P = 2 * (n2 * P) := by rw [Nat.mul_assoc]
    have e4 : (2 * c2 + 1) * Q * P = 2 * (c2 * (P * Q)) + P * Q := by
      rw [Nat.mul_assoc, Nat.mul_comm Q P, Nat.add_mul, Nat.one_mul, Nat.mul_assoc]
    rw [e1, e2] at u1
    rw [e3, e4] at u2
    obtain ⟨k, rfl⟩ : ∃ k, c1 = c2 + 1 + k := ⟨c1 - (c2 + 1), by omega⟩
    have e5 : (c2 + 1 + k) * (P * Q) = c2 * (P * Q) + P * Q + k * (P * Q) := by rw [Nat.add_mul, Nat.add_mul, Nat.one_mul]
    rw [e5] at u1 e1
    have hk : k = 0 := by
      rcases Nat.eq_zero_or_pos k with h0 | h0
      · exact h0
      · have : P * Q ≤ k * (P * Q) := Nat.le_mul_of_pos_left _ h0
        omega
    subst hk
    have t1 : 2 * (c2 + 1 + 0) * P = 2 * n1 + P := by
      have : 2 * (c2 + 1 + 0) * P * Q = (2 * n1 + P) * Q := by rw [e1, e2]; omega
      exact Nat.eq_of_mul_eq_mul_right hq this
    have t2 : 2 * n2 = (2 * c2 + 1) * Q := by
      have : 2 * n2 * P = (2 * c2 + 1) * Q * P := by rw [e3, e4]; omega
      exact Nat.eq_of_mul_eq_mul_right hp this
    have := a4 t1
    have := b3 t2
    omega
  · exact hc

theorem cut_zero (n : Nat) : Toward.even.cut false n 0 = n := by
  have h : Nat.min 0 (n.log2 + 2) = 0 := Nat.zero_min _
  simp [Toward.cut, Nat.mod_one]

theorem cut_le {n d c : Nat} (h : n ≤ c * 2 ^ d) : Toward.even.cut false n d ≤ c := by
  have h1 := cut_mono n d c 0 (by rw [Nat.pow_zero, Nat.mul_one]; exact h)
  have h2 := cut_zero c
  omega
theorem le_cut {n d c : Nat} (h : c * 2 ^ d ≤ n) : c ≤ Toward.even.cut false n d := by
  have h1 := cut_mono c 0 n d (by rw [Nat.pow_zero, Nat.mul_one]; exact h)
  have h2 := cut_zero c
  omega

/- The word without its sign. -/
def rung (m : Nat) (p : Int) : Nat :=
  if m = 0 then 0 else
  min ((max (p + m.log2 - 52) (-1074) + 1074).toNat * 4503599627370496 + Toward.even.cut false (m <<< (p - max (p + m.log2 - 52) (-1074)).toNat) (max (p + m.log2 - 52) (-1074) - p).toNat) 9218868437227405312

theorem cut_neg (neg : Bool) (n d : Nat) : Toward.even.cut neg n d = Toward.even.cut false n d := rfl
theorem leastP : double.leastPlace = -1074 := by decide
theorem binD : double.binade = 4503599627370496 := by decide
theorem infD : double.infRung = 9218868437227405312 := by decide
theorem fracD : double.fractionBits = 52 := rfl

theorem nearest_eq (neg : Bool) (m : Nat) (p : Int) : double.nearest neg m p = double.word neg (rung m p) := by
  unfold Format.nearest rung
  split
  · rfl
  · simp only [leastP, binD, infD, fracD, cut_neg neg, Int.sub_neg]
    rfl

/- How much it is, in a unit so small that all is whole. -/
def val (m : Nat) (p : Int) : Nat := m * 2 ^ (p + 4000).toNat

theorem val_scale (m : Nat) (p l : Int) (hp : -4000 ≤ p) (hl : -4000 ≤ l) : (m <<< (p - l).toNat) * 2 ^ (l + 4000).toNat = val m p * 2 ^ (l - p).toNat := by
  unfold val
  rw [Nat.shiftLeft_eq, Nat.mul_assoc, Nat.mul_assoc, ← Nat.pow_add, ← Nat.pow_add]
  congr 2
  omega

theorem log2_val {m : Nat} {p : Int} (hm : m ≠ 0) (hp : -4000 ≤ p) : 2 ^ (p + m.log2 + 4000).toNat ≤ val m p ∧ val m p < 2 ^ (p + m.log2 + 4001).toNat := by
  have h1 : 2 ^ m.log2 ≤ m := Nat.log2_self_le hm
  have h2 : m < 2 ^ (m.log2 + 1) := Nat.lt_log2_self
  have hq : 0 < 2 ^ (p + 4000).toNat := Nat.two_pow_pos _
  unfold val
  constructor
  · rw [show (p + m.log2 + 4000).toNat = m.log2 + (p + 4000).toNat by omega, Nat.pow_add]
    exact Nat.mul_le_mul_right _ h1
  · rw [show (p + m.log2 + 4001).toNat = (m.log2 + 1) + (p + 4000).toNat by omega, Nat.pow_add]
    exact Nat.mul_lt_mul_of_pos_right h2 hq

theorem min_mono {a b : Nat} (c : Nat) (h : a ≤ b) : min a c ≤ min b c := by omega
theorem rung_mono {m1 m2 : Nat} {p1 p2 : Int} (hp1 : -4000 ≤ p1) (hp2 : -4000 ≤ p2) (h : val m1 p1 ≤ val m2 p2) : rung m1 p1 ≤ rung m2 p2 := by
  by_cases h1 : m1 = 0
  · simp [rung, h1]
  by_cases h2 : m2 = 0
  · exfalso
    have hq : 0 < 2 ^ (p1 + 4000).toNat := Nat.two_pow_pos _
    have : 0 < val m1 p1 := Nat.mul_pos (Nat.pos_of_ne_zero h1) hq
    have e : val m2 p2 = 0 := by simp [val, h2]
    omega
  obtain ⟨a1, a2⟩ := log2_val h1 hp1
  obtain ⟨b1, b2⟩ := log2_val h2 hp2
  have hl : p1 + m1.log2 ≤ p2 + m2.log2 := by
    have h3 : 2 ^ (p1 + m1.log2 + 4000).toNat < 2 ^ (p2 + m2.log2 + 4001).toNat := by omega
    have := (Nat.pow_lt_pow_iff_right (by omega : 1 < 2)).1 h3
    omega
  unfold rung
  rw [if_neg h1, if_neg h2]
  have s1 := val_scale m1 p1 (max (p1 + m1.log2 - 52) (-1074)) hp1 (by omega)
  have s2 := val_scale m2 p2 (max (p2 + m2.log2 - 52) (-1074)) hp2 (by omega)
  have hL : max (p1 + m1.log2 - 52) (-1074) ≤ max (p2 + m2.log2 - 52) (-1074) := by omega
  have hL1 : p1 + m1.log2 - 52 ≤ max (p1 + m1.log2 - 52) (-1074) := by omega
  have hL2 : max (p1 + m1.log2 - 52) (-1074) < max (p2 + m2.log2 - 52) (-1074) → max (p2 + m2.log2 - 52) (-1074) = p2 + m2.log2 - 52 := by omega
  have hL3 : -1074 ≤ max (p1 + m1.log2 - 52) (-1074) := by omega
  have hL4 : -1074 ≤ max (p2 + m2.log2 - 52) (-1074) := by omega
  generalize max (p1 + m1.log2 - 52) (-1074) = l1 at *
  generalize max (p2 + m2.log2 - 52) (-1074) = l2 at *
  have key : (l1 + 1074).toNat * 4503599627370496 + Toward.even.cut false (m1 <<< (p1 - l1).toNat) (l1 - p1).toNat ≤ (l2 + 1074).toNat * 4503599627370496 + Toward.even.cut false (m2 <<< (p2 - l2).toNat) (l2 - p2).toNat := by
    have q1 : 0 < 2 ^ (l1 + 4000).toNat := Nat.two_pow_pos _
    have q2 : 0 < 2 ^ (l2 + 4000).toNat := Nat.two_pow_pos _
    rcases Int.lt_or_le l1 l2 with hlt | hge
    · have k1 : Toward.even.cut false (m1 <<< (p1 - l1).toNat) (l1 - p1).toNat ≤ 2 ^ 53 := by
        refine cut_le ?_
        refine Nat.le_of_mul_le_mul_right (c := 2 ^ (l1 + 4000).toNat) ?_ q1
        rw [s1, Nat.mul_right_comm (2 ^ 53)]
        refine Nat.mul_le_mul_right _ ?_
        refine Nat.le_trans (Nat.le_of_lt a2) ?_
        rw [← Nat.pow_add]
        exact Nat.pow_le_pow_right (by omega) (by omega)
      have k2 : 2 ^ 52 ≤ Toward.even.cut false (m2 <<< (p2 - l2).toNat) (l2 - p2).toNat := by
        refine le_cut ?_
        refine Nat.le_of_mul_le_mul_right (c := 2 ^ (l2 + 4000).toNat) ?_ q2
        rw [s2, Nat.mul_right_comm (2 ^ 52)]
        refine Nat.mul_le_mul_right _ ?_
        refine Nat.le_trans ?_ b1
        rw [← Nat.pow_add]
        exact Nat.pow_le_pow_right (by omega) (by have := hL2 hlt; omega)
      have : (l1 + 1074).toNat + 1 ≤ (l2 + 1074).toNat := by omega
      have := Nat.mul_le_mul_right 4503599627370496 this
      have e1 : (2 : Nat) ^ 53 = 9007199254740992 := by decide
      have e2 : (2 : Nat) ^ 52 = 4503599627370496 := by decide
      rw [e1] at k1
      rw [e2] at k2
      omega
    · have hll : l1 = l2 := by omega
      subst hll
      have hc : Toward.even.cut false (m1 <<< (p1 - l1).toNat) (l1 - p1).toNat ≤ Toward.even.cut false (m2 <<< (p2 - l1).toNat) (l1 - p2).toNat := by
        refine cut_mono _ _ _ _ ?_
        refine Nat.le_of_mul_le_mul_right (c := 2 ^ (l1 + 4000).toNat) ?_ q1
        rw [Nat.mul_right_comm (m1 <<< (p1 - l1).toNat), s1, Nat.mul_right_comm (m2 <<< (p2 - l1).toNat), s2, Nat.mul_right_comm (val m2 p2)]
        exact Nat.mul_le_mul_right _ (Nat.mul_le_mul_right _ h)
      exact Nat.add_le_add_left hc _
  exact min_mono _ key

/- What a rung stands for. -/
def mk (k : Nat) : Nat := if k < 4503599627370496 then k else 4503599627370496 + k % 4503599627370496
def pk (k : Nat) : Int := if k < 4503599627370496 then -1074 else -1074 + (k / 4503599627370496 - 1 : Nat)
def vk (k : Nat) : Nat := val (mk k) (pk k)
abbrev top : Nat := 9218868437227405312

theorem pk_ge (k : Nat) : -1074 ≤ pk k := by unfold pk; split <;> omega

theorem rung_vk {k : Nat} (hk : k < top) : rung (mk k) (pk k) = k := by
  unfold mk pk
  split
  · next h =>
    unfold rung
    split
    · omega
    · next h0 =>
      have hl : k.log2 < 52 := (Nat.log2_lt h0).2 h
      have e : max (-1074 + (k.log2 : Int) - 52) (-1074) = -1074 := by omega
      rw [e]
      simp only [Int.sub_self, Int.toNat_zero, Nat.shiftLeft_zero, cut_zero]
      simp
      omega
  · next h =>
    generalize hr : k % 4503599627370496 = r
    have hr2 : r < 4503599627370496 := by omega
    have hl : (4503599627370496 + r).log2 = 52 := by
      have h1 : (4503599627370496 + r).log2 < 53 := (Nat.log2_lt (by omega)).2 (by omega)
      have h2 : 52 ≤ (4503599627370496 + r).log2 := (Nat.le_log2 (by omega)).2 (by omega)
      omega
    unfold rung
    rw [if_neg (by omega), hl]
    have e : max (-1074 + ((k / 4503599627370496 - 1 : Nat) : Int) + ((52 : Nat) : Int) - 52) (-1074) = -1074 + ((k / 4503599627370496 - 1 : Nat) : Int) := by omega
    rw [e]
    simp only [Int.sub_self, Int.toNat_zero, Nat.shiftLeft_zero, cut_zero]
    have : k < 9218868437227405312 := hk
    omega

theorem le_rung {k m : Nat} {p : Int} (hk : k < top) (hp : -4000 ≤ p) (h : vk k ≤ val m p) : k ≤ rung m p := by
  have := rung_mono (by have := pk_ge k; omega) hp h
  rwa [rung_vk hk] at this
theorem rung_le {k m : Nat} {p : Int} (hk : k < top) (hp : -4000 ≤ p) (h : val m p ≤ vk k) : rung m p ≤ k := by
  have := rung_mono hp (by have := pk_ge k; omega) h
  rwa [rung_vk hk] at this
theorem vk_le {k l : Nat} (hk : k < top) (h : k ≤ l) (hl : l < top) : vk k ≤ vk l := by
  rcases Nat.le_total (vk k) (vk l) with h1 | h1
  · exact h1
  · have := rung_le hk (by have := pk_ge l; omega) h1
    rw [rung_vk hl] at this
    have : k = l := by omega
    rw [this]
    exact Nat.le_refl _

theorem vk_lt {k l : Nat} (hl : l < top) (h : k < l) : vk k < vk l := by
  rcases Nat.lt_or_ge (vk k) (vk l) with h1 | h1
  · exact h1
  · have := rung_le (m := mk l) (p := pk l) (show k < top by omega) (by have := pk_ge l; omega) h1
    rw [rung_vk hl] at this
    omega

theorem val_mul (m k : Nat) (p : Int) : val (m * k) p = val m p * k := by
  unfold val
  rw [Nat.mul_right_comm]

/- A binade more is twice as much. -/
theorem vk_double {k : Nat} (h : 4503599627370496 ≤ k) : vk (k + 4503599627370496) = 2 * vk k := by
  unfold vk mk pk val
  rw [if_neg (by omega), if_neg (by omega), if_neg (by omega), if_neg (by omega)]
  rw [show (k + 4503599627370496) % 4503599627370496 = k % 4503599627370496 by omega]
  rw [show (-1074 + ((k + 4503599627370496) / 4503599627370496 - 1 : Nat) + 4000 : Int).toNat = (-1074 + (k / 4503599627370496 - 1 : Nat) + 4000 : Int).toNat + 1 by omega]
  rw [Nat.pow_succ, ← Nat.mul_assoc, Nat.mul_comm _ 2]

end Go.Proofs.Ytbopmcdmahabbaa

namespace Go.Proofs.Ytbopmcdmahabbaa
open Ieee

/- The word nearest to so many of the small units. -/
def rnd (V : Nat) : Nat := rung V (-4000)
theorem val_unit (V : Nat) : val V (-4000) = V := by
  show V * 2 ^ (-4000 + 4000 : Int).toNat = V
  rw [show (-4000 + 4000 : Int).toNat = 0 by decide, Nat.pow_zero, Nat.mul_one]
theorem rung_rnd {m : Nat} {p : Int} (hp : -4000 ≤ p) : rung m p = rnd (val m p) :=
  Nat.le_antisymm (rung_mono hp (Int.le_refl _) (Nat.le_of_eq (val_unit _).symm)) (rung_mono (Int.le_refl _) hp (Nat.le_of_eq (val_unit _)))
theorem rnd_le {k V : Nat} (hk : k < top) (h : V ≤ vk k) : rnd V ≤ k := rung_le hk (Int.le_refl _) (by rw [val_unit]; exact h)
theorem le_rnd {k V : Nat} (hk : k < top) (h : vk k ≤ V) : k ≤ rnd V := le_rung hk (Int.le_refl _) (by rw [val_unit]; exact h)
theorem rnd_vk {k : Nat} (hk : k < top) : rnd (vk k) = k := by
  have := rung_rnd (m := mk k) (p := pk k) (by have := pk_ge k; omega)
  rw [rung_vk hk] at this
  exact this.symm
theorem rnd_mono {V W : Nat} (h : V ≤ W) : rnd V ≤ rnd W := rung_mono (Int.le_refl _) (Int.le_refl _) (by rw [val_unit, val_unit]; exact h)

/- A word of a sign. -/
def wd (s : Bool) (k : Nat) : Nat := double.word s k
theorem wd_false (k : Nat) : wd false k = k := rfl
theorem signW : double.signWeight = 9223372036854775808 := by decide
theorem wd_true (k : Nat) : wd true k = 9223372036854775808 + k := by
  show double.signWeight + k = _
  rw [signW]

theorem read_wd (s : Bool) {k : Nat} (hk : k < top) : double.read (wd s k) = .number s (mk k) (pk k) := by
  have hk' : k < 9218868437227405312 := hk
  have h1 : (wd s k / double.signWeight % 2 == 1) = s := by
    rw [signW]
    cases s with
    | false =>
      rw [wd_false, Nat.div_eq_of_lt (by omega)]
      rfl
    | true =>
      rw [wd_true, show (9223372036854775808 + k) / 9223372036854775808 = 1 by omega]
      rfl
  have h2 : wd s k % double.signWeight = k := by
    rw [signW]
    cases s with
    | false => rw [wd_false]; exact Nat.mod_eq_of_lt (by omega)
    | true => rw [wd_true]; omega
  unfold Format.read
  simp only [h1, h2, binD, infD, leastP]
  unfold mk pk
  split
  · rfl
  · first | rfl | rw [if_pos hk']

theorem mk0 : mk 0 = 0 := rfl
theorem vk0 : vk 0 = 0 := by
  unfold vk val
  rw [mk0, Nat.zero_mul]

theorem write_num (s : Bool) (m : Nat) {p : Int} (hp : -4000 ≤ p) : double.write (.number s m p) = wd s (rnd (val m p)) := by
  show double.nearest s m p = _
  rw [nearest_eq, rung_rnd hp]
  rfl

theorem shl_val (m : Nat) {p b : Int} (hb : b ≤ p) (hb2 : -4000 ≤ b) : (m <<< (p - b).toNat) * 2 ^ (b + 4000).toNat = val m p := by
  unfold val
  rw [Nat.shiftLeft_eq, Nat.mul_assoc, ← Nat.pow_add]
  congr 2
  omega

theorem sum_num (s t : Bool) (m n : Nat) (p q : Int) : Datum.sum (.number s m p) (.number t n q) =
    some (.number (if signed s m (p - min p q).toNat + signed t n (q - min p q).toNat = 0 then s && t else decide (signed s m (p - min p q).toNat + signed t n (q - min p q).toNat < 0)) (signed s m (p - min p q).toNat + signed t n (q - min p q).toNat).natAbs (min p q)) := rfl

theorem val_abs (a : Nat) (b : Int) : val a b = a * 2 ^ (b + 4000).toNat := rfl

/- Two of one sign. -/
theorem sum_same (s : Bool) (m n : Nat) {p q : Int} (hp : -4000 ≤ p) (hq : -4000 ≤ q) : ∃ M P, Datum.sum (.number s m p) (.number s n q) = some (.number s M P) ∧ -4000 ≤ P ∧ val M P = val m p + val n q := by
  have h1 := shl_val m (p := p) (b := min p q) (by omega) (by omega)
  have h2 := shl_val n (p := q) (b := min p q) (by omega) (by omega)
  refine ⟨(m <<< (p - min p q).toNat) + (n <<< (q - min p q).toNat), min p q, ?_, by omega, ?_⟩
  · rw [sum_num]
    unfold signed
    generalize m <<< (p - min p q).toNat = a
    generalize n <<< (q - min p q).toNat = b
    cases s with
    | false =>
      have e1 : ((a : Int) + (b : Int)).natAbs = a + b := by omega
      have e2 : decide ((a : Int) + (b : Int) < 0) = false := by rw [decide_eq_false_iff_not]; omega
      simp only [Bool.false_eq_true, if_false, e1, e2, Bool.and_false, ite_self]
    | true =>
      have e1 : (-(a : Int) + -(b : Int)).natAbs = a + b := by omega
      simp only [if_true, e1, Bool.and_true]
      by_cases h0 : -(a : Int) + -(b : Int) = 0
      · rw [if_pos h0]
      · rw [if_neg h0]
        have e2 : decide (-(a : Int) + -(b : Int) < 0) = true := by rw [decide_eq_true_eq]; omega
        rw [e2]
  · rw [val_abs, Nat.add_mul, h1, h2]

/- One and what is taken away from it. -/
theorem sum_diff (m n : Nat) {p q : Int} (hp : -4000 ≤ p) (hq : -4000 ≤ q) :
    (val n q ≤ val m p → ∃ M P, Datum.sum (.number false m p) (.number true n q) = some (.number false M P) ∧ -4000 ≤ P ∧ val M P = val m p - val n q) ∧
    (val m p < val n q → ∃ M P, Datum.sum (.number false m p) (.number true n q) = some (.number true M P) ∧ -4000 ≤ P ∧ val M P = val n q - val m p) := by
  have h1 := shl_val m (p := p) (b := min p q) (by omega) (by omega)
  have h2 := shl_val n (p := q) (b := min p q) (by omega) (by omega)
  have hq : 0 < 2 ^ (min p q + 4000).toNat := Nat.two_pow_pos _
  rw [← h1, ← h2, sum_num]
  unfold signed
  generalize m <<< (p - min p q).toNat = a
  generalize n <<< (q - min p q).toNat = b
  simp only [Bool.false_eq_true, if_false, if_true, Bool.false_and]
  constructor
  · intro h
    have hab : b ≤ a := Nat.le_of_mul_le_mul_right h hq
    refine ⟨a - b, min p q, ?_, by omega, ?_⟩
    · have e1 : ((a : Int) + -(b : Int)).natAbs = a - b := by omega
      have e2 : decide ((a : Int) + -(b : Int) < 0) = false := by rw [decide_eq_false_iff_not]; omega
      simp only [e1, e2, ite_self]
    · rw [val_abs, Nat.sub_mul]
  · intro h
    have hab : a < b := Nat.lt_of_mul_lt_mul_right h
    refine ⟨b - a, min p q, ?_, by omega, ?_⟩
    · have e1 : ((a : Int) + -(b : Int)).natAbs = b - a := by omega
      have e2 : decide ((a : Int) + -(b : Int) < 0) = true := by rw [decide_eq_true_eq]; omega
      rw [if_neg (by omega)]
      simp only [e1, e2]
    · rw [val_abs, Nat.sub_mul]

/- A zero changes nothing but a zero's sign. -/
theorem sum_zero (s t : Bool) (m : Nat) {p q : Int} (hp : -4000 ≤ p) (hq : -4000 ≤ q) :
    (∃ σ M P, Datum.sum (.number s m p) (.number t 0 q) = some (.number σ M P) ∧ -4000 ≤ P ∧ val M P = val m p ∧ (m ≠ 0 → σ = s)) ∧
    (∃ σ M P, Datum.sum (.number t 0 q) (.number s m p) = some (.number σ M P) ∧ -4000 ≤ P ∧ val M P = val m p ∧ (m ≠ 0 → σ = s)) := by
  have key : ∀ b : Int, b ≤ p → -4000 ≤ b → (m ≠ 0 → m <<< (p - b).toNat ≠ 0) := by
    intro b hb hb2 hm h0
    have h1 := shl_val m hb hb2
    rw [h0, Nat.zero_mul] at h1
    have : 0 < val m p := Nat.mul_pos (Nat.pos_of_ne_zero hm) (Nat.two_pow_pos _)
    omega
  have hz : ∀ u, (0 : Nat) <<< u = 0 := fun u => Nat.zero_shiftLeft u
  have h1 := shl_val m (p := p) (b := min p q) (by omega) (by omega)
  have h2 := shl_val m (p := p) (b := min q p) (by omega) (by omega)
  have k1 := key (min p q) (by omega) (by omega)
  have k2 := key (min q p) (by omega) (by omega)
  constructor
  · rw [sum_num]
    unfold signed
    rw [hz]
    generalize m <<< (p - min p q).toNat = a at h1 k1 ⊢
    refine ⟨_, _, _, rfl, by omega, ?_, ?_⟩
    · rw [val_abs, ← h1]
      cases s <;> cases t <;> simp
    · intro hm
      have := k1 hm
      cases s <;> cases t <;> simp <;> omega
  · rw [sum_num]
    unfold signed
    rw [hz]
    generalize m <<< (p - min q p).toNat = a at h2 k2 ⊢
    refine ⟨_, _, _, rfl, by omega, ?_, ?_⟩
    · rw [val_abs, ← h2]
      cases s <;> cases t <;> simp
    · intro hm
      have := k2 hm
      cases s <;> cases t <;> simp <;> omega

end Go.Proofs.Ytbopmcdmahabbaa

namespace Go.Proofs.Ytbopmcdmahabbaa
open Ieee

theorem pk_ok (k : Nat) : -4000 ≤ pk k := by have := pk_ge k; omega
theorem mk_ne {k : Nat} (h : k ≠ 0) : mk k ≠ 0 := by unfold mk; split <;> omega
theorem mk_lt (k : Nat) : mk k < 9007199254740992 := by unfold mk; split <;> omega
theorem val_vk (k : Nat) : val (mk k) (pk k) = vk k := rfl
theorem quot_num (d : Nat) (s : Bool) (m : Nat) (i : Int) (N : Nat) (j : Int) (hN : N ≠ 0) : Datum.quotient d (.number s m i) (.number false N j) =
    some (.number (s ^^ false) (2 * ((m <<< (d + N.log2 - m.log2)) / N) + ((m <<< (d + N.log2 - m.log2)) % N != 0).toNat) (i - j - ((d + N.log2 - m.log2 : Nat) : Int) - 1)) := by
  simp only [Datum.quotient]
  rw [if_neg hN]
theorem vk_split (k d : Nat) (hd : d ≤ 2000) : vk k = mk k * 2 ^ (pk k - d + 4000).toNat * 2 ^ d := by
  have := pk_ge k
  unfold vk val
  rw [Nat.mul_assoc, ← Nat.pow_add]
  congr 2
  omega
theorem rnd0 : rnd 0 = 0 := by
  have := rnd_vk (k := 0) (by decide)
  rwa [vk0] at this

section
variable {k l : Nat} (hk : k < top) (hl : l < top)
include hk hl

theorem add_pos : double.add k l = some (rnd (vk k + vk l)) := by
  obtain ⟨M, P, h1, h2, h3⟩ := sum_same false (mk k) (mk l) (pk_ok k) (pk_ok l)
  have r1 := read_wd false hk
  have r2 := read_wd false hl
  rw [wd_false] at r1 r2
  unfold Format.add
  rw [r1, r2, h1, Option.map_some, write_num _ _ h2, h3, val_vk, val_vk, wd_false]

theorem add_neg (h : l ≤ k) : double.add k (wd true l) = some (rnd (vk k - vk l)) := by
  obtain ⟨M, P, h1, h2, h3⟩ := (sum_diff (mk k) (mk l) (pk_ok k) (pk_ok l)).1 (vk_le hl h hk)
  have r1 := read_wd false hk
  have r2 := read_wd true hl
  rw [wd_false] at r1
  unfold Format.add
  rw [r1, r2, h1, Option.map_some, write_num _ _ h2, h3, val_vk, val_vk, wd_false]

theorem sub_pos (h : l ≤ k) : double.sub k l = some (rnd (vk k - vk l)) := by
  obtain ⟨M, P, h1, h2, h3⟩ := (sum_diff (mk k) (mk l) (pk_ok k) (pk_ok l)).1 (vk_le hl h hk)
  have r1 := read_wd false hk
  have r2 := read_wd false hl
  rw [wd_false] at r1 r2
  unfold Format.sub
  rw [r1, r2]
  show (Datum.sum (.number false (mk k) (pk k)) (.number true (mk l) (pk l))).map _ = _
  rw [h1, Option.map_some, write_num _ _ h2, h3, val_vk, val_vk, wd_false]

theorem sub_neg (h : k < l) : double.sub k l = some (wd true (rnd (vk l - vk k))) := by
  obtain ⟨M, P, h1, h2, h3⟩ := (sum_diff (mk k) (mk l) (pk_ok k) (pk_ok l)).2 (vk_lt hl h)
  have r1 := read_wd false hk
  have r2 := read_wd false hl
  rw [wd_false] at r1 r2
  unfold Format.sub
  rw [r1, r2]
  show (Datum.sum (.number false (mk k) (pk k)) (.number true (mk l) (pk l))).map _ = _
  rw [h1, Option.map_some, write_num _ _ h2, h3, val_vk, val_vk]

theorem order_pos : double.order k l = some (compare k l) := by
  have r1 := read_wd false hk
  have r2 := read_wd false hl
  rw [wd_false] at r1 r2
  unfold Format.order
  rw [r1, r2]
  show some (compare (signed false (mk k) (pk k - min (pk k) (pk l)).toNat) (signed false (mk l) (pk l - min (pk k) (pk l)).toNat)) = _
  have g1 := pk_ge k
  have g2 := pk_ge l
  have h1 := shl_val (mk k) (p := pk k) (b := min (pk k) (pk l)) (by omega) (by omega)
  have h2 := shl_val (mk l) (p := pk l) (b := min (pk k) (pk l)) (by omega) (by omega)
  unfold signed
  simp only [Bool.false_eq_true, if_false]
  generalize mk k <<< (pk k - min (pk k) (pk l)).toNat = a at h1 ⊢
  generalize mk l <<< (pk l - min (pk k) (pk l)).toNat = b at h2 ⊢
  have hq : 0 < 2 ^ (min (pk k) (pk l) + 4000).toNat := Nat.two_pow_pos _
  generalize 2 ^ (min (pk k) (pk l) + 4000).toNat = Q at h1 h2 hq
  have e1 : val (mk k) (pk k) = vk k := rfl
  have e2 : val (mk l) (pk l) = vk l := rfl
  rw [e1] at h1
  rw [e2] at h2
  congr 1
  rcases Nat.lt_trichotomy k l with h | h | h
  · have h3 := vk_lt hl h
    rw [← h1, ← h2] at h3
    have h4 : a < b := Nat.lt_of_mul_lt_mul_right h3
    rw [Nat.compare_eq_lt.2 h, Int.compare_eq_lt.2 (by omega)]
  · subst h
    have h4 : a = b := Nat.eq_of_mul_eq_mul_right hq (h1.trans h2.symm)
    subst h4
    rw [Nat.compare_eq_eq.2 rfl, Int.compare_eq_eq.2 rfl]
  · have h3 := vk_lt hk h
    rw [← h1, ← h2] at h3
    have h4 : b < a := Nat.lt_of_mul_lt_mul_right h3
    rw [Nat.compare_eq_gt.2 h, Int.compare_eq_gt.2 (by omega)]
end

section
variable {k : Nat} (hk : k < top)
include hk

theorem sub_zero (s t : Bool) : ∃ σ, double.sub (wd s k) (wd t 0) = some (wd σ k) ∧ (k ≠ 0 → σ = s) := by
  obtain ⟨σ, M, P, h1, h2, h3, h4⟩ := (sum_zero s (!t) (mk k) (pk_ok k) (pk_ok 0)).1
  refine ⟨σ, ?_, fun h => h4 (mk_ne h)⟩
  unfold Format.sub
  rw [read_wd s hk, read_wd t (by decide : 0 < top), mk0]
  show (Datum.sum (.number s (mk k) (pk k)) (.number (!t) 0 (pk 0))).map _ = _
  rw [h1, Option.map_some, write_num _ _ h2, h3]
  have e : val (mk k) (pk k) = vk k := rfl
  rw [e, rnd_vk hk]

theorem zero_add (s t : Bool) : ∃ σ, double.add (wd t 0) (wd s k) = some (wd σ k) ∧ (k ≠ 0 → σ = s) := by
  obtain ⟨σ, M, P, h1, h2, h3, h4⟩ := (sum_zero s t (mk k) (pk_ok k) (pk_ok 0)).2
  refine ⟨σ, ?_, fun h => h4 (mk_ne h)⟩
  unfold Format.add
  rw [read_wd s hk, read_wd t (by decide : 0 < top), mk0, h1, Option.map_some, write_num _ _ h2, h3]
  have e : val (mk k) (pk k) = vk k := rfl
  rw [e, rnd_vk hk]

theorem mul_zero (s : Bool) : double.mul (wd s k) 0 = some (wd s 0) := by
  have r2 := read_wd false (by decide : 0 < top)
  rw [wd_false, mk0] at r2
  unfold Format.mul
  rw [read_wd s hk, r2]
  show some (double.write (.number (s ^^ false) (mk k * 0) (pk k + pk 0))) = _
  rw [Bool.xor_false, Nat.mul_zero, write_num _ _ (by have := pk_ge k; have := pk_ge 0; omega)]
  have e : val 0 (pk k + pk 0) = 0 := by unfold val; rw [Nat.zero_mul]
  rw [e, rnd0]

theorem mul_c125 (s : Bool) : double.mul (wd s k) 4593671619917905920 = some (wd s (rnd (vk k / 8))) := by
  have r2 := read_wd false (by decide : 4593671619917905920 < top)
  rw [wd_false, show mk 4593671619917905920 = 2 ^ 52 by decide, show pk 4593671619917905920 = -55 by decide] at r2
  unfold Format.mul
  rw [read_wd s hk, r2]
  show some (double.write (.number (s ^^ false) (mk k * 2 ^ 52) (pk k + -55))) = _
  rw [Bool.xor_false, write_num _ _ (by have := pk_ge k; omega)]
  have e : val (mk k * 2 ^ 52) (pk k + -55) = vk k / 8 := by
    rw [vk_split k 55 (by omega), show (2 : Nat) ^ 55 = 2 ^ 52 * 8 by decide, ← Nat.mul_assoc, Nat.mul_div_cancel _ (by decide : 0 < 8)]
    unfold val
    rw [Nat.mul_right_comm]
    rfl
  rw [e]

theorem mul_c4 : double.mul 4616189618054758400 k = some (rnd (4 * vk k)) := by
  have r1 := read_wd false (by decide : 4616189618054758400 < top)
  have r2 := read_wd false hk
  rw [wd_false] at r1 r2
  rw [show mk 4616189618054758400 = 2 ^ 52 by decide, show pk 4616189618054758400 = -50 by decide] at r1
  unfold Format.mul
  rw [r1, r2]
  show some (double.write (.number (false ^^ false) (2 ^ 52 * mk k) (-50 + pk k))) = _
  rw [Bool.xor_false, write_num _ _ (by have := pk_ge k; omega)]
  have e : val (2 ^ 52 * mk k) (-50 + pk k) = 4 * vk k := by
    rw [vk_split k 50 (by omega)]
    unfold val
    rw [show (-50 + pk k + 4000 : Int).toNat = (pk k - (50 : Nat) + 4000).toNat by omega]
    rw [show (2 : Nat) ^ 52 = 2 ^ 50 * 4 by decide]
    generalize (2 : Nat) ^ 50 = A
    generalize 2 ^ (pk k - (50 : Nat) + 4000).toNat = B
    rw [Nat.mul_comm 4, Nat.mul_comm (A * 4), Nat.mul_assoc (mk k), Nat.mul_assoc (mk k), Nat.mul_assoc (mk k)]
    congr 1
    rw [Nat.mul_comm (A * 4), ← Nat.mul_assoc]
  rw [e, wd_false]

theorem div_c8 (s : Bool) : double.div (wd s k) 4620693217682128896 = some (wd s (rnd (vk k / 8))) := by
  have r2 := read_wd false (by decide : 4620693217682128896 < top)
  rw [wd_false, show mk 4620693217682128896 = 2 ^ 52 by decide, show pk 4620693217682128896 = -49 by decide] at r2
  have hlog : (mk k).log2 ≤ 52 := by
    by_cases h0 : mk k = 0
    · rw [h0]; decide
    · have h1 : (mk k).log2 < 53 := (Nat.log2_lt h0).2 (mk_lt k)
      omega
  have hq : Datum.quotient (double.fractionBits + 2) (.number s (mk k) (pk k)) (.number false (2 ^ 52) (-49)) = some (.number s (2 * ((mk k <<< (106 - (mk k).log2)) / 2 ^ 52) + ((mk k <<< (106 - (mk k).log2)) % 2 ^ 52 != 0).toNat) (pk k - -49 - ((106 - (mk k).log2 : Nat) : Int) - 1)) := by
    have e1 : (2 ^ 52 : Nat).log2 = 52 := by decide
    have e3 : double.fractionBits + 2 + 52 = 106 := rfl
    rw [quot_num _ _ _ _ _ _ (by decide), e1, e3, Bool.xor_false]
  unfold Format.div
  rw [read_wd s hk, r2, hq, Option.map_some]
  have e4 : mk k <<< (106 - (mk k).log2) = mk k * 2 ^ (54 - (mk k).log2) * 2 ^ 52 := by
    rw [Nat.shiftLeft_eq, Nat.mul_assoc, ← Nat.pow_add]
    congr 2
    omega
  rw [e4, Nat.mul_div_cancel _ (by decide : 0 < 2 ^ 52), Nat.mul_mod_left]
  rw [write_num _ _ (by have := pk_ge k; omega)]
  have e : val (2 * (mk k * 2 ^ (54 - (mk k).log2)) + (0 != 0).toNat) (pk k - -49 - ((106 - (mk k).log2 : Nat) : Int) - 1) = vk k / 8 := by
    rw [vk_split k 3 (by omega), show (2 : Nat) ^ 3 = 8 by decide, Nat.mul_div_cancel _ (by decide : 0 < 8)]
    unfold val
    rw [show (0 != 0).toNat = 0 by decide, Nat.add_zero, Nat.mul_comm 2, Nat.mul_assoc (mk k), Nat.mul_assoc (mk k), ← Nat.pow_succ, ← Nat.pow_add]
    congr 2
    have := pk_ge k
    omega
  rw [e]
end

end Go.Proofs.Ytbopmcdmahabbaa
