/- What holds of a table behind any calls; one contract for each call. -/
import Derived.Test.YtbopmcdmahabbaaPcE
import Derived.Test.YtbopmcdmahabbaaFo
namespace Go.Proofs.Ytbopmcdmahabbaa
open Go.RowKit

abbrev M64 : Nat := 18446744073709551616

/- Behind j calls. -/
structure Inv (j : Nat) (t : Tab) : Prop where
  ok : t.Ok
  dis : ∀ (i k : Nat) p q, t.l[i]? = some p → t.l[k]? = some q → p.e = q.e → i = k
  x : ∀ p ∈ t.l, p.x ≤ B j
  y : ∀ p ∈ t.l, p.y ≤ B j
  last : ∀ p ∈ t.l, p.last < M64
  lost : ∀ p ∈ t.l, 0 ≤ p.lost ∧ p.lost ≤ (j : Int)
  at_ : ∀ x ∈ t.pings, x.at_ < M64
  num : t.pings.length ≤ j

theorem Inv.mono {j k : Nat} {t : Tab} (h : Inv j t) (hjk : j ≤ k) : Inv k t :=
  ⟨h.ok, h.dis, fun p hp => Nat.le_trans (h.x p hp) (B_le hjk), fun p hp => Nat.le_trans (h.y p hp) (B_le hjk), h.last, fun p hp => ⟨(h.lost p hp).1, by have := (h.lost p hp).2; omega⟩, h.at_, Nat.le_trans h.num hjk⟩

/- One path's score. -/
theorem sc_ok {p : Pth} {j : Nat} (hj : j ≤ 700) (hx : p.x ≤ B j) (hy : p.y ≤ B j) : ∃ mm, F.mul c4 p.y = some mm ∧ F.add p.x mm = some (sc p) ∧ sc p ≤ B (j + 3) := by
  have hyt : p.y < top := by have := B_top (j := j) (by omega); omega
  have hxt : p.x < top := by have := B_top (j := j) (by omega); omega
  have h1 : Ieee.double.mul 4616189618054758400 p.y = some (rnd (4 * vk p.y)) := mul_c4 hyt
  have h2 : rnd (4 * vk p.y) ≤ B (j + 2) := by
    refine rnd_le (B_top (by omega)) ?_
    have := vk_le hyt hy (B_top (by omega))
    rw [show j + 2 = (j + 1) + 1 from rfl, B_succ, B_succ]
    omega
  have h3 : rnd (4 * vk p.y) < top := by have := B_top (j := j + 2) (by omega); omega
  have h4 : Ieee.double.add p.x (rnd (4 * vk p.y)) = some (rnd (vk p.x + vk (rnd (4 * vk p.y)))) := add_pos hxt h3
  have h1' : F.mul c4 p.y = some (rnd (4 * vk p.y)) := h1
  have h4' : F.add p.x (rnd (4 * vk p.y)) = some (rnd (vk p.x + vk (rnd (4 * vk p.y)))) := h4
  have hs : sc p = rnd (vk p.x + vk (rnd (4 * vk p.y))) := by
    unfold sc
    rw [h1', Option.getD_some, h4', Option.getD_some]
  refine ⟨_, h1', ?_, ?_⟩
  · rw [hs]
    exact h4'
  · rw [hs]
    refine rnd_le (B_top (by omega)) ?_
    have a1 := Nat.le_trans hx (B_le (show j ≤ j + 2 by omega))
    exact two_le (by omega) a1 h2

theorem eighth_ok {s : Nat} (hs : s < top) : F.div s c8 = some (eighth s) ∧ eighth s ≤ s := by
  have h1 := div_c8 hs false
  rw [wd_false, wd_false] at h1
  have h1' : F.div s c8 = some (rnd (vk s / 8)) := h1
  have e : eighth s = rnd (vk s / 8) := by unfold eighth; rw [h1', Option.getD_some]
  rw [e]
  exact ⟨h1', eighth_le hs⟩

theorem plus_ok {a b : Nat} (ha : a < top) (hb : b < top) : F.add a b = some (plus a b) ∧ plus a b = rnd (vk a + vk b) := by
  have h1 : Ieee.double.add a b = some (rnd (vk a + vk b)) := add_pos ha hb
  have h1' : F.add a b = some (rnd (vk a + vk b)) := h1
  have e : plus a b = rnd (vk a + vk b) := by unfold plus; rw [h1', Option.getD_some]
  exact ⟨by rw [e]; exact h1', e⟩

theorem flt_ok {a b : Nat} (ha : a < top) (hb : b < top) : flt a b = decide (a < b) := by
  have h1 : Ieee.double.order a b = some (compare a b) := order_pos ha hb
  have h1' : F.order a b = some (compare a b) := h1
  unfold flt
  rw [h1']
  rcases Nat.lt_trichotomy a b with h | h | h
  · rw [Nat.compare_eq_lt.2 h, decide_eq_true h]; rfl
  · subst h; rw [Nat.compare_eq_eq.2 rfl, decide_eq_false (Nat.lt_irrefl _)]; rfl
  · rw [Nat.compare_eq_gt.2 h, decide_eq_false (by omega)]; rfl

theorem Inv.sc {j : Nat} {t : Tab} (h : Inv j t) (hj : j ≤ 700) : ∀ p ∈ t.l, sc p ≤ B (j + 3) := fun p hp => by
  obtain ⟨_, _, _, h3⟩ := sc_ok hj (h.x p hp) (h.y p hp)
  exact h3

theorem Inv.fin {j : Nat} {t : Tab} (h : Inv j t) (hj : j ≤ 700) : Fin t := by
  have hs := h.sc hj
  have ht := B_top (j := j + 3) (by omega)
  refine ⟨fun p hp => ?_, fun p hp => ?_, fun p hp a ha => ?_, h.last⟩
  · obtain ⟨mm, h1, h2, _⟩ := sc_ok hj (h.x p hp) (h.y p hp)
    exact ⟨mm, h1, h2⟩
  · exact (eighth_ok (by have := hs p hp; omega)).1
  · have h1 := hs p hp
    have h2 := (eighth_ok (s := Go.Proofs.Ytbopmcdmahabbaa.sc p) (by omega)).2
    have h3 : a < top := by
      rcases ha with rfl | ⟨q, hq, rfl⟩
      · decide
      · have := hs q hq; omega
    exact (plus_ok h3 (by omega)).1

/- What an answer makes of a path. -/
def docX (r x : Nat) : Nat := (F.add x ((F.div ((F.sub r x).getD 0) c8).getD 0)).getD 0
def docY (r x y : Nat) : Nat := (F.add y ((F.div ((F.sub (fabs ((F.sub r x).getD 0)) y).getD 0) c8).getD 0)).getD 0

theorem fabs_wd (s : Bool) {n : Nat} (hn : n < top) : fabs (wd s n) = n := by
  have : n < 9218868437227405312 := hn
  unfold fabs
  cases s with
  | false => rw [wd_false]; exact Nat.mod_eq_of_lt (by omega)
  | true => rw [wd_true]; omega

theorem ewma_any {r x y j : Nat} (hj : j ≤ 700) (hr : r ≤ B j) (hx : x ≤ B j) (hy : y ≤ B j) :
    Ewma r x y (docX r x) (docY r x y) ∧ docX r x ≤ B (j + 1) ∧ docY r x y ≤ B (j + 1) := by
  obtain ⟨d, m1, q, x', n, a1, a2, a3, a4, a5, a6, a7, a8, a9, a10, a11⟩ := part_step (by omega) hx hr
  have hnt : n < top := by have := B_top (j := j) (by omega); omega
  obtain ⟨d2, m4, q2, y', n2, b1, b2, b3, b4, b5, b6, b7, b8, b9, b10, b11⟩ := part_step (x := y) (z := n) (by omega) hy a3
  have fd : fabs d = n := by rw [a2]; exact fabs_wd _ hnt
  have hd64 : d < 18446744073709551616 := by
    have hn' : n < 9218868437227405312 := hnt
    rw [a2]
    cases (d != n) with
    | false => rw [wd_false]; omega
    | true => rw [wd_true]; omega
  have c1 : F.sub r x = some d := a1
  have c2 : F.div d c8 = some q := a8
  have c3 : F.add x q = some x' := a9
  have c4' : F.sub (fabs d) y = some d2 := by rw [fd]; exact b1
  have c5 : F.div d2 c8 = some q2 := b8
  have c6 : F.add y q2 = some y' := b9
  have ex : docX r x = x' := by unfold docX; rw [c1, Option.getD_some, c2, Option.getD_some, c3, Option.getD_some]
  have ey : docY r x y = y' := by unfold docY; rw [c1, Option.getD_some, c4', Option.getD_some, c5, Option.getD_some, c6, Option.getD_some]
  rw [ex, ey]
  obtain ⟨e, e1, e2⟩ := a5 (d2 != n2)
  obtain ⟨f, f1, f2⟩ := b6 (d != n)
  refine ⟨⟨d, d2, m1, wd (d2 != n2) 0, wd (d != n) 0, m4, e, f, c1, hd64, c4', a4, b7, e1, a7, b4, f1, e2, f2⟩, a10, b10⟩

theorem val_shift (m d : Nat) (p : Int) (hp : -4000 ≤ p) : val (m * 2 ^ d) p = val m (p + d) := by
  unfold val
  rw [Nat.mul_assoc, ← Nat.pow_add]
  congr 2
  omega
theorem B0 : vk (B 0) = val 1099511627776 0 := by
  have h1 := val_shift 1099511627776 12 (-12) (by decide)
  rw [show (-12 + ((12 : Nat) : Int)) = 0 by decide] at h1
  rw [← h1]
  unfold vk
  rw [show mk (B 0) = 1099511627776 * 2 ^ 12 by decide, show pk (B 0) = -12 by decide]

theorem fU_le {n : Nat} (h : n ≤ 1099511627776) : fU n ≤ B 0 := by
  have e : fU n = rnd (val n 0) := by
    have := write_num false n (p := 0) (by decide)
    rw [wd_false] at this
    rw [← this]
    unfold fU floatOfInt FloatKind.nearest
    have h1 : decide ((n : Int) < 0) = false := by rw [decide_eq_false_iff_not]; omega
    rw [h1, Int.natAbs_natCast]
    rfl
  rw [e]
  refine rnd_le (B_top (by omega)) ?_
  rw [B0]
  unfold val
  exact Nat.mul_le_mul_right _ h

end Go.Proofs.Ytbopmcdmahabbaa
