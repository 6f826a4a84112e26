/- What paths reckon stays a number: bounds. -/
import Derived.Test.YtbopmcdmahabbaaFn
import Derived.Test.YtbopmcdmahabbaaPbD
namespace Go.Proofs.Ytbopmcdmahabbaa
open Ieee

/- 2^(40+j). -/
def B (j : Nat) : Nat := (1063 + j) * 4503599627370496
theorem B_top {j : Nat} (h : j ≤ 900) : B j < top := by unfold B; show _ < 9218868437227405312; omega
theorem B_succ (j : Nat) : vk (B (j + 1)) = 2 * vk (B j) := by
  have : B (j + 1) = B j + 4503599627370496 := by unfold B; omega
  rw [this]
  exact vk_double (by unfold B; omega)
theorem B_le {i j : Nat} (h : i ≤ j) : B i ≤ B j := by unfold B; omega

theorem two_le {a b j : Nat} (hj : j ≤ 900) (ha : a ≤ B j) (hb : b ≤ B j) : vk a + vk b ≤ vk (B (j + 1)) := by
  have h1 := vk_le (by have := B_top hj; omega) ha (B_top hj)
  have h2 := vk_le (by have := B_top hj; omega) hb (B_top hj)
  rw [B_succ]
  omega

def unit : Nat := 2 ^ (pk 1 + 4000).toNat
theorem unit_pos : 0 < unit := Nat.two_pow_pos _
theorem pk_1 : pk 1 = -1074 := by decide
theorem vk_units (k : Nat) : ∃ c, vk k = c * unit := by
  have := pk_ge k
  have h1 := pk_1
  refine ⟨mk k * 2 ^ (pk k + 1074).toNat, ?_⟩
  unfold vk val unit
  rw [Nat.mul_assoc, ← Nat.pow_add]
  congr 2
  omega
theorem vk1 : vk 1 = unit := by
  unfold vk val unit
  rw [show mk 1 = 1 by decide, Nat.one_mul]

theorem sub_any {k l : Nat} (hk : k < top) (hl : l < top) : ∃ s n, double.sub k l = some (wd s n) ∧ (s = true → n ≤ l ∧ n ≠ 0) ∧ (s = false → n ≤ k) := by
  rcases Nat.lt_or_ge k l with h | h
  · refine ⟨true, _, sub_neg hk hl h, fun _ => ⟨rnd_le hl (Nat.sub_le _ _), ?_⟩, fun h => by cases h⟩
    have h1 := vk_lt hl h
    obtain ⟨a, ha⟩ := vk_units k
    obtain ⟨b, hb⟩ := vk_units l
    have h2 : vk 1 ≤ vk l - vk k := by
      rw [vk1]
      rw [ha, hb] at h1 ⊢
      generalize unit = U at *
      have h3 : a < b := Nat.lt_of_mul_lt_mul_right h1
      rw [← Nat.sub_mul]
      exact Nat.le_mul_of_pos_left _ (by omega)
    have := le_rnd (k := 1) (by decide) h2
    omega
  · refine ⟨false, _, by rw [wd_false]; exact sub_pos hk hl h, fun h => (by cases h), fun _ => rnd_le hk (Nat.sub_le _ _)⟩

theorem add_zero' {x : Nat} (hx : x < top) (s : Bool) : double.add x (wd s 0) = some x := by
  cases s with
  | false =>
    rw [wd_false, add_pos hx (by decide), vk0, Nat.add_zero, rnd_vk hx]
  | true =>
    rw [add_neg hx (by decide) (Nat.zero_le _), vk0, Nat.sub_zero, rnd_vk hx]

theorem x_step {x k j : Nat} {s : Bool} (hj : j ≤ 800) (hx : x ≤ B j) (hk : k ≤ B j) (hs : s = true → k ≤ x) : ∃ x', double.add x (wd s k) = some x' ∧ x' ≤ B (j + 1) := by
  have hxt : x < top := by have := B_top (j := j) (by omega); omega
  have hkt : k < top := by have := B_top (j := j) (by omega); omega
  cases s with
  | false =>
    rw [wd_false, add_pos hxt hkt]
    exact ⟨_, rfl, rnd_le (B_top (by omega)) (two_le (by omega) hx hk)⟩
  | true =>
    rw [add_neg hxt hkt (hs rfl)]
    refine ⟨_, rfl, Nat.le_trans (rnd_le hxt (Nat.sub_le _ _)) (Nat.le_trans hx (B_le (by omega)))⟩

theorem eighth_le {k : Nat} (hk : k < top) : rnd (vk k / 8) ≤ k := rnd_le hk (Nat.div_le_self _ _)

/- One step of what is smoothed: the part of a complex number, and the float of the document. -/
theorem part_step {x z j : Nat} (hj : j ≤ 800) (hx : x ≤ B j) (hz : z ≤ B j) :
    ∃ d m1 q x' n, double.sub z x = some d ∧ d = wd (d != n) n ∧ n ≤ B j ∧ double.mul d 4593671619917905920 = some m1 ∧
      (∀ (t : Bool), ∃ e, double.sub m1 (wd t 0) = some e ∧ double.add x e = some x') ∧ (∀ (t : Bool), ∃ e, double.add (wd t 0) m1 = some e ∧ double.add x e = some x') ∧
      double.mul d 0 = some (wd (d != n) 0) ∧ double.div d 4620693217682128896 = some q ∧ double.add x q = some x' ∧ x' ≤ B (j + 1) ∧ ((d != n) = true → n ≠ 0) := by
  have hBt := B_top (j := j) (by omega)
  have hxt : x < top := by omega
  have hzt : z < top := by omega
  obtain ⟨s, n, h1, h2, h3⟩ := sub_any hzt hxt
  have hn : n ≤ B j := by
    cases s with
    | false => exact Nat.le_trans (h3 rfl) hz
    | true => exact Nat.le_trans (h2 rfl).1 hx
  have hnt : n < top := by omega
  have hs : (wd s n != n) = s := by
    cases s with
    | false => rw [wd_false]; simp
    | true => rw [wd_true]; simp
  have hk1 := eighth_le hnt
  obtain ⟨x', a1, a2⟩ := x_step (s := s) hj hx (Nat.le_trans hk1 hn) (fun h => Nat.le_trans hk1 (h2 h).1)
  generalize hk : rnd (vk n / 8) = k at hk1 a1
  have key : ∀ σ, (k ≠ 0 → σ = s) → double.add x (wd σ k) = some x' := by
    intro σ hσ
    by_cases h0 : k = 0
    · subst h0
      rw [add_zero' hxt] at a1 ⊢
      exact a1
    · rw [hσ h0]; exact a1
  have hkt : k < top := by omega
  refine ⟨wd s n, wd s k, wd s k, x', n, h1, by rw [hs], hn, ?_, fun t => ?_, fun t => ?_, ?_, ?_, a1, a2, fun h => (h2 (by rw [← hs]; exact h)).2⟩
  · rw [mul_c125 hnt, hk]
  · obtain ⟨σ, b1, b2⟩ := sub_zero hkt s t
    exact ⟨_, b1, key σ b2⟩
  · obtain ⟨σ, b1, b2⟩ := zero_add hkt s t
    exact ⟨_, b1, key σ b2⟩
  · rw [mul_zero hnt, hs]
  · rw [div_c8 hnt, hk]

end Go.Proofs.Ytbopmcdmahabbaa
