/- The words' operations, where all are numbers. -/
import Derived.Test.YtbopmcdmahabbaaFm
namespace Go.Proofs.Ytbopmcdmahabbaa
open Ieee

theorem pk_ok (k : Nat) : -4000 ≤ pk k := by have := pk_ge k; omega
theorem mk_ne {k : Nat} (h : k ≠ 0) : mk k ≠ 0 := by unfold mk; split <;> omega
theorem mk_lt (k : Nat) : mk k < 9007199254740992 := by unfold mk; split <;> omega
theorem val_vk (k : Nat) : val (mk k) (pk k) = vk k := rfl
theorem quot_num (d : Nat) (s : Bool) (m : Nat) (i : Int) (N : Nat) (j : Int) (hN : N ≠ 0) : Datum.quotient d (.number s m i) (.number false N j) =
    some (.number (s ^^ false) (2 * ((m <<< (d + N.log2 - m.log2)) / N) + ((m <<< (d + N.log2 - m.log2)) % N != 0).toNat) (i - j - ((d + N.log2 - m.log2 : Nat) : Int) - 1)) := by
  simp only [Datum.quotient]
  rw [if_neg hN]
theorem vk_split (k d : Nat) (hd : d ≤ 2000) : vk k = mk k * 2 ^ (pk k - d + 4000).toNat * 2 ^ d := by
  have := pk_ge k
  unfold vk val
  rw [Nat.mul_assoc, ← Nat.pow_add]
  congr 2
  omega
theorem rnd0 : rnd 0 = 0 := by
  have := rnd_vk (k := 0) (by decide)
  rwa [vk0] at this

section
variable {k l : Nat} (hk : k < top) (hl : l < top)
include hk hl

theorem add_pos : double.add k l = some (rnd (vk k + vk l)) := by
  obtain ⟨M, P, h1, h2, h3⟩ := sum_same false (mk k) (mk l) (pk_ok k) (pk_ok l)
  have r1 := read_wd false hk
  have r2 := read_wd false hl
  rw [wd_false] at r1 r2
  unfold Format.add
  rw [r1, r2, h1, Option.map_some, write_num _ _ h2, h3, val_vk, val_vk, wd_false]

theorem add_neg (h : l ≤ k) : double.add k (wd true l) = some (rnd (vk k - vk l)) := by
  obtain ⟨M, P, h1, h2, h3⟩ := (sum_diff (mk k) (mk l) (pk_ok k) (pk_ok l)).1 (vk_le hl h hk)
  have r1 := read_wd false hk
  have r2 := read_wd true hl
  rw [wd_false] at r1
  unfold Format.add
  rw [r1, r2, h1, Option.map_some, write_num _ _ h2, h3, val_vk, val_vk, wd_false]

theorem sub_pos (h : l ≤ k) : double.sub k l = some (rnd (vk k - vk l)) := by
  obtain ⟨M, P, h1, h2, h3⟩ := (sum_diff (mk k) (mk l) (pk_ok k) (pk_ok l)).1 (vk_le hl h hk)
  have r1 := read_wd false hk
  have r2 := read_wd false hl
  rw [wd_false] at r1 r2
  unfold Format.sub
  rw [r1, r2]
  show (Datum.sum (.number false (mk k) (pk k)) (.number true (mk l) (pk l))).map _ = _
  rw [h1, Option.map_some, write_num _ _ h2, h3, val_vk, val_vk, wd_false]

theorem sub_neg (h : k < l) : double.sub k l = some (wd true (rnd (vk l - vk k))) := by
  obtain ⟨M, P, h1, h2, h3⟩ := (sum_diff (mk k) (mk l) (pk_ok k) (pk_ok l)).2 (vk_lt hl h)
  have r1 := read_wd false hk
  have r2 := read_wd false hl
  rw [wd_false] at r1 r2
  unfold Format.sub
  rw [r1, r2]
  show (Datum.sum (.number false (mk k) (pk k)) (.number true (mk l) (pk l))).map _ = _
  rw [h1, Option.map_some, write_num _ _ h2, h3, val_vk, val_vk]

theorem order_pos : double.order k l = some (compare k l) := by
  have r1 := read_wd false hk
  have r2 := read_wd false hl
  rw [wd_false] at r1 r2
  unfold Format.order
  rw [r1, r2]
  show some (compare (signed false (mk k) (pk k - min (pk k) (pk l)).toNat) (signed false (mk l) (pk l - min (pk k) (pk l)).toNat)) = _
  have g1 := pk_ge k
  have g2 := pk_ge l
  have h1 := shl_val (mk k) (p := pk k) (b := min (pk k) (pk l)) (by omega) (by omega)
  have h2 := shl_val (mk l) (p := pk l) (b := min (pk k) (pk l)) (by omega) (by omega)
  unfold signed
  simp only [Bool.false_eq_true, if_false]
  generalize mk k <<< (pk k - min (pk k) (pk l)).toNat = a at h1 ⊢
  generalize mk l <<< (pk l - min (pk k) (pk l)).toNat = b at h2 ⊢
  have hq : 0 < 2 ^ (min (pk k) (pk l) + 4000).toNat := Nat.two_pow_pos _
  generalize 2 ^ (min (pk k) (pk l) + 4000).toNat = Q at h1 h2 hq
  have e1 : val (mk k) (pk k) = vk k := rfl
  have e2 : val (mk l) (pk l) = vk l := rfl
  rw [e1] at h1
  rw [e2] at h2
  congr 1
  rcases Nat.lt_trichotomy k l with h | h | h
  · have h3 := vk_lt hl h
    rw [← h1, ← h2] at h3
    have h4 : a < b := Nat.lt_of_mul_lt_mul_right h3
    rw [Nat.compare_eq_lt.2 h, Int.compare_eq_lt.2 (by omega)]
  · subst h
    have h4 : a = b := Nat.eq_of_mul_eq_mul_right hq (h1.trans h2.symm)
    subst h4
    rw [Nat.compare_eq_eq.2 rfl, Int.compare_eq_eq.2 rfl]
  · have h3 := vk_lt hk h
    rw [← h1, ← h2] at h3
    have h4 : b < a := Nat.lt_of_mul_lt_mul_right h3
    rw [Nat.compare_eq_gt.2 h, Int.compare_eq_gt.2 (by omega)]
end

section
variable {k : Nat} (hk : k < top)
include hk

theorem sub_zero (s t : Bool) : ∃ σ, double.sub (wd s k) (wd t 0) = some (wd σ k) ∧ (k ≠ 0 → σ = s) := by
  obtain ⟨σ, M, P, h1, h2, h3, h4⟩ := (sum_zero s (!t) (mk k) (pk_ok k) (pk_ok 0)).1
  refine ⟨σ, ?_, fun h => h4 (mk_ne h)⟩
  unfold Format.sub
  rw [read_wd s hk, read_wd t (by decide : 0 < top), mk0]
  show (Datum.sum (.number s (mk k) (pk k)) (.number (!t) 0 (pk 0))).map _ = _
  rw [h1, Option.map_some, write_num _ _ h2, h3]
  have e : val (mk k) (pk k) = vk k := rfl
  rw [e, rnd_vk hk]

theorem zero_add (s t : Bool) : ∃ σ, double.add (wd t 0) (wd s k) = some (wd σ k) ∧ (k ≠ 0 → σ = s) := by
  obtain ⟨σ, M, P, h1, h2, h3, h4⟩ := (sum_zero s t (mk k) (pk_ok k) (pk_ok 0)).2
  refine ⟨σ, ?_, fun h => h4 (mk_ne h)⟩
  unfold Format.add
  rw [read_wd s hk, read_wd t (by decide : 0 < top), mk0, h1, Option.map_some, write_num _ _ h2, h3]
  have e : val (mk k) (pk k) = vk k := rfl
  rw [e, rnd_vk hk]

theorem mul_zero (s : Bool) : double.mul (wd s k) 0 = some (wd s 0) := by
  have r2 := read_wd false (by decide : 0 < top)
  rw [wd_false, mk0] at r2
  unfold Format.mul
  rw [read_wd s hk, r2]
  show some (double.write (.number (s ^^ false) (mk k * 0) (pk k + pk 0))) = _
  rw [Bool.xor_false, Nat.mul_zero, write_num _ _ (by have := pk_ge k; have := pk_ge 0; omega)]
  have e : val 0 (pk k + pk 0) = 0 := by unfold val; rw [Nat.zero_mul]
  rw [e, rnd0]

theorem mul_c125 (s : Bool) : double.mul (wd s k) 4593671619917905920 = some (wd s (rnd (vk k / 8))) := by
  have r2 := read_wd false (by decide : 4593671619917905920 < top)
  rw [wd_false, show mk 4593671619917905920 = 2 ^ 52 by decide, show pk 4593671619917905920 = -55 by decide] at r2
  unfold Format.mul
  rw [read_wd s hk, r2]
  show some (double.write (.number (s ^^ false) (mk k * 2 ^ 52) (pk k + -55))) = _
  rw [Bool.xor_false, write_num _ _ (by have := pk_ge k; omega)]
  have e : val (mk k * 2 ^ 52) (pk k + -55) = vk k / 8 := by
    rw [vk_split k 55 (by omega), show (2 : Nat) ^ 55 = 2 ^ 52 * 8 by decide, ← Nat.mul_assoc, Nat.mul_div_cancel _ (by decide : 0 < 8)]
    unfold val
    rw [Nat.mul_right_comm]
    rfl
  rw [e]

theorem mul_c4 : double.mul 4616189618054758400 k = some (rnd (4 * vk k)) := by
  have r1 := read_wd false (by decide : 4616189618054758400 < top)
  have r2 := read_wd false hk
  rw [wd_false] at r1 r2
  rw [show mk 4616189618054758400 = 2 ^ 52 by decide, show pk 4616189618054758400 = -50 by decide] at r1
  unfold Format.mul
  rw [r1, r2]
  show some (double.write (.number (false ^^ false) (2 ^ 52 * mk k) (-50 + pk k))) = _
  rw [Bool.xor_false, write_num _ _ (by have := pk_ge k; omega)]
  have e : val (2 ^ 52 * mk k) (-50 + pk k) = 4 * vk k := by
    rw [vk_split k 50 (by omega)]
    unfold val
    rw [show (-50 + pk k + 4000 : Int).toNat = (pk k - (50 : Nat) + 4000).toNat by omega]
    rw [show (2 : Nat) ^ 52 = 2 ^ 50 * 4 by decide]
    generalize (2 : Nat) ^ 50 = A
    generalize 2 ^ (pk k - (50 : Nat) + 4000).toNat = B
    rw [Nat.mul_comm 4, Nat.mul_comm (A * 4), Nat.mul_assoc (mk k), Nat.mul_assoc (mk k), Nat.mul_assoc (mk k)]
    congr 1
    rw [Nat.mul_comm (A * 4), ← Nat.mul_assoc]
  rw [e, wd_false]

theorem div_c8 (s : Bool) : double.div (wd s k) 4620693217682128896 = some (wd s (rnd (vk k / 8))) := by
  have r2 := read_wd false (by decide : 4620693217682128896 < top)
  rw [wd_false, show mk 4620693217682128896 = 2 ^ 52 by decide, show pk 4620693217682128896 = -49 by decide] at r2
  have hlog : (mk k).log2 ≤ 52 := by
    by_cases h0 : mk k = 0
    · rw [h0]; decide
    · have h1 : (mk k).log2 < 53 := (Nat.log2_lt h0).2 (mk_lt k)
      omega
  have hq : Datum.quotient (double.fractionBits + 2) (.number s (mk k) (pk k)) (.number false (2 ^ 52) (-49)) = some (.number s (2 * ((mk k <<< (106 - (mk k).log2)) / 2 ^ 52) + ((mk k <<< (106 - (mk k).log2)) % 2 ^ 52 != 0).toNat) (pk k - -49 - ((106 - (mk k).log2 : Nat) : Int) - 1)) := by
    have e1 : (2 ^ 52 : Nat).log2 = 52 := by decide
    have e3 : double.fractionBits + 2 + 52 = 106 := rfl
    rw [quot_num _ _ _ _ _ _ (by decide), e1, e3, Bool.xor_false]
  unfold Format.div
  rw [read_wd s hk, r2, hq, Option.map_some]
  have e4 : mk k <<< (106 - (mk k).log2) = mk k * 2 ^ (54 - (mk k).log2) * 2 ^ 52 := by
    rw [Nat.shiftLeft_eq, Nat.mul_assoc, ← Nat.pow_add]
    congr 2
    omega
  rw [e4, Nat.mul_div_cancel _ (by decide : 0 < 2 ^ 52), Nat.mul_mod_left]
  rw [write_num _ _ (by have := pk_ge k; omega)]
  have e : val (2 * (mk k * 2 ^ (54 - (mk k).log2)) + (0 != 0).toNat) (pk k - -49 - ((106 - (mk k).log2 : Nat) : Int) - 1) = vk k / 8 := by
    rw [vk_split k 3 (by omega), show (2 : Nat) ^ 3 = 8 by decide, Nat.mul_div_cancel _ (by decide : 0 < 8)]
    unfold val
    rw [show (0 != 0).toNat = 0 by decide, Nat.add_zero, Nat.mul_comm 2, Nat.mul_assoc (mk k), Nat.mul_assoc (mk k), ← Nat.pow_succ, ← Nat.pow_add]
    congr 2
    have := pk_ge k
    omega
  rw [e]
end

end Go.Proofs.Ytbopmcdmahabbaa
