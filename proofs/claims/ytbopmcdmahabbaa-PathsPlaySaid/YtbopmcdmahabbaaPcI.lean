/- What is told is the best: the plain law. -/
import Derived.Test.YtbopmcdmahabbaaPcH
namespace Go.Proofs.Ytbopmcdmahabbaa
open Go.RowKit

section
variable {j : Nat} {t : Tab}

theorem plus_ge {a b : Nat} (ha : a < top) (hb : b < top) : a ≤ plus a b := by
  rw [(plus_ok ha hb).2]
  exact le_rnd ha (Nat.le_add_right _ _)
theorem plus_mono {a b e : Nat} (hab : a ≤ b) (hb : b < top) (he : e < top) : plus a e ≤ plus b e := by
  rw [(plus_ok (by omega) he).2, (plus_ok hb he).2]
  exact rnd_mono (Nat.add_le_add_right (vk_le (by omega) hab hb) _)

/- What the first k paths have: none, or the least. -/
def Least (t : Tab) (now k : Nat) (r : Option Nat × Nat) : Prop :=
  match r.1 with
  | none => r.2 = 0 ∧ ∀ i p, i < k → t.l[i]? = some p → there t p now = false
  | some m => ∃ q, t.l[m]? = some q ∧ there t q now = true ∧ r.2 = sc q ∧ ∀ i p, i < k → t.l[i]? = some p → there t p now = true → sc q ≤ sc p

theorem least_to (iv : Inv j t) (hj : j ≤ 600) (now : Nat) : ∀ k, k ≤ t.l.length → Least t now k (bestTo t now k) := by
  intro k
  induction k with
  | zero => intro _; exact ⟨rfl, fun i p h => by omega⟩
  | succ k ih =>
    intro hk
    have h1 := ih (by omega)
    obtain ⟨p, hp⟩ : ∃ p, t.l[k]? = some p := ⟨t.l[k], List.getElem?_eq_getElem (by omega)⟩
    rw [bestTo_succ t now k hp]
    have hpm := List.mem_of_getElem? hp
    have hst : sc p < top := by have := iv.sc (by omega) p hpm; have := B_top (j := j + 3) (by omega); omega
    generalize bestTo t now k = r at h1 ⊢
    obtain ⟨o, least⟩ := r
    unfold pick
    cases ht : there t p now with
    | false =>
      simp only [Bool.false_and, Bool.false_eq_true, if_false]
      cases o with
      | none =>
        refine ⟨h1.1, fun i q hi hq => ?_⟩
        rcases Nat.lt_or_ge i k with h | h
        · exact h1.2 i q h hq
        · obtain rfl : i = k := by omega
          rw [hp] at hq
          injection hq with hq
          rw [← hq, ht]
      | some m =>
        obtain ⟨q, a1, a2, a3, a4⟩ := h1
        refine ⟨q, a1, a2, a3, fun i r hi hr htr => ?_⟩
        rcases Nat.lt_or_ge i k with h | h
        · exact a4 i r h hr htr
        · obtain rfl : i = k := by omega
          rw [hp] at hr
          injection hr with hr
          rw [← hr, ht] at htr
          cases htr
    | true =>
      cases o with
      | none =>
        simp only [Option.isNone_none, Bool.true_or, Bool.and_true, if_true]
        refine ⟨p, hp, ht, rfl, fun i r hi hr htr => ?_⟩
        rcases Nat.lt_or_ge i k with h | h
        · have := h1.2 i r h hr
          rw [this] at htr; cases htr
        · obtain rfl : i = k := by omega
          rw [hp] at hr
          injection hr with hr
          rw [hr]
          exact Nat.le_refl _
      | some m =>
        obtain ⟨q, a1, a2, a3, a4⟩ := h1
        have hqm := List.mem_of_getElem? a1
        have hqt : sc q < top := by have := iv.sc (by omega) q hqm; have := B_top (j := j + 3) (by omega); omega
        simp only at a3
        subst a3
        simp only [Option.isNone_some, Bool.false_or, Bool.true_and]
        rw [flt_ok hst hqt]
        by_cases hlt : sc p < sc q
        · rw [decide_eq_true hlt, if_pos rfl]
          refine ⟨p, hp, ht, rfl, fun i r hi hr htr => ?_⟩
          rcases Nat.lt_or_ge i k with h | h
          · have := a4 i r h hr htr; omega
          · obtain rfl : i = k := by omega
            rw [hp] at hr
            injection hr with hr
            rw [hr]
            exact Nat.le_refl _
        · rw [decide_eq_false hlt, if_neg (by simp)]
          refine ⟨q, a1, a2, rfl, fun i r hi hr htr => ?_⟩
          rcases Nat.lt_or_ge i k with h | h
          · exact a4 i r h hr htr
          · obtain rfl : i = k := by omega
            rw [hp] at hr
            injection hr with hr
            rw [← hr]
            omega

theorem findI_own (iv : Inv j t) {i : Nat} {p : Pth} (hp : t.l[i]? = some p) : findI t.l p.e = some i := by
  cases hf : findI t.l p.e with
  | none =>
    have := List.findIdx?_eq_none_iff.1 hf p (List.mem_of_getElem? hp)
    rw [End.eqb_iff.2 rfl] at this
    cases this
  | some k =>
    obtain ⟨q, hq, hqe⟩ := findI_mem hf
    rw [iv.dis k i q p hq hp hqe]

/- The best: it is there, and none is better by more than an eighth; none only where none is there. -/
structure Told (t : Tab) (now : Nat) : Prop where
  no : bestI t now = none → ∀ p ∈ t.l, there t p now = false
  yes : ∀ m, bestI t now = some m → ∃ q, t.l[m]? = some q ∧ there t q now = true ∧ ∀ p ∈ t.l, there t p now = true → flt (plus (sc p) (eighth (sc q))) (sc q) = false
  again : bestI (t.best now) now = bestI t now

theorem told (iv : Inv j t) (hj : j ≤ 600) (now : Nat) : Told t now := by
  have hL := least_to iv hj now t.l.length (Nat.le_refl _)
  have hT := B_top (j := j + 3) (by omega)
  have hst : ∀ p ∈ t.l, sc p < top := fun p hp => by have := iv.sc (by omega) p hp; omega
  have het : ∀ p ∈ t.l, eighth (sc p) < top := fun p hp => by have := (eighth_ok (hst p hp)).2; have := hst p hp; omega
  have hpt : ∀ p ∈ t.l, ∀ q ∈ t.l, plus (sc p) (eighth (sc q)) < top := fun p hp q hq => by
    have h1 := iv.sc (by omega) p hp
    have h2 := (eighth_ok (hst q hq)).2
    have h3 := iv.sc (by omega) q hq
    rw [(plus_ok (hst p hp) (het q hq)).2]
    have := rnd_le (B_top (j := j + 3 + 1) (by omega)) (two_le (j := j + 3) (by omega) h1 (Nat.le_trans h2 h3))
    have := B_top (j := j + 3 + 1) (by omega)
    omega
  have hbt : ∀ T : Tab, T.l = t.l → T.life = t.life → T.losses = t.losses → ∀ k, bestTo T now k = bestTo t now k := by
    intro T h1 h2 h3 k
    have hth : ∀ p, there T p now = there t p now := fun p => by unfold there; rw [h2, h3]
    induction k with
    | zero => rfl
    | succ k ih =>
      simp only [bestTo, h1, ih]
      cases t.l[k]? with
      | none => rfl
      | some p => simp only [pick, hth]
  -- the used one, where it is kept
  have hI : ∀ T : Tab, T.l = t.l → T.life = t.life → T.losses = t.losses → bestI T now = match T.used with
      | none => (bestTo t now t.l.length).1
      | some e => match findI t.l e with
        | none => (bestTo t now t.l.length).1
        | some i => match t.l[i]? with
          | none => (bestTo t now t.l.length).1
          | some p => if there t p now && !flt (plus (bestTo t now t.l.length).2 (eighth (sc p))) (sc p) then some i else (bestTo t now t.l.length).1 := by
    intro T h1 h2 h3
    have hth : ∀ p, there T p now = there t p now := fun p => by unfold there; rw [h2, h3]
    unfold bestI
    simp only [h1, hbt T h1 h2 h3, hth]
    rfl
  have hIt := hI t rfl rfl rfl
  have hIb := hI (t.best now) rfl rfl rfl
  generalize hr : bestTo t now t.l.length = r at hL hIt hIb
  obtain ⟨o, least⟩ := r
  cases o with
  | none =>
    obtain ⟨h0, hno⟩ := hL
    have hall : ∀ p ∈ t.l, there t p now = false := fun p hp => by
      obtain ⟨i, hi⟩ := List.getElem?_of_mem hp
      have hlt : i < t.l.length := by
        rcases Nat.lt_or_ge i t.l.length with h | h
        · exact h
        · rw [List.getElem?_eq_none h] at hi; cases hi
      exact hno i p hlt hi
    have hnone : ∀ T : Tab, (match T.used with
      | none => (none : Option Nat)
      | some e => match findI t.l e with
        | none => none
        | some i => match t.l[i]? with
          | none => none
          | some p => if there t p now && !flt (plus least (eighth (sc p))) (sc p) then some i else none) = none := by
      intro T
      cases T.used with
      | none => rfl
      | some e =>
        simp only
        cases findI t.l e with
        | none => rfl
        | some i =>
          simp only
          cases hp : t.l[i]? with
          | none => rfl
          | some p =>
            simp only [hall p (List.mem_of_getElem? hp), Bool.false_and, Bool.false_eq_true, if_false]
    have hb1 : bestI t now = none := hIt.trans (hnone t)
    have hb2 : bestI (t.best now) now = none := hIb.trans (hnone (t.best now))
    exact ⟨fun _ => hall, (fun m hm => by rw [hb1] at hm; cases hm), by rw [hb1, hb2]⟩
  | some m =>
    obtain ⟨q, hq, hqt, hqs, hmin⟩ := hL
    simp only at hqs
    subst hqs
    have hqm := List.mem_of_getElem? hq
    have hminA : ∀ p ∈ t.l, there t p now = true → sc q ≤ sc p := fun p hp htp => by
      obtain ⟨i, hi⟩ := List.getElem?_of_mem hp
      have hlt : i < t.l.length := by
        rcases Nat.lt_or_ge i t.l.length with h | h
        · exact h
        · rw [List.getElem?_eq_none h] at hi; cases hi
      exact hmin i p hlt hi htp
    -- either the least, or the used one
    have hcase : (bestI t now = some m) ∨ ∃ i p, bestI t now = some i ∧ t.l[i]? = some p ∧ there t p now = true ∧ flt (plus (sc q) (eighth (sc p))) (sc p) = false := by
      rw [hIt]
      cases t.used with
      | none => exact .inl rfl
      | some e =>
        simp only
        cases findI t.l e with
        | none => exact .inl rfl
        | some i =>
          simp only
          cases hp : t.l[i]? with
          | none => exact .inl rfl
          | some p =>
            simp only
            cases h1 : there t p now with
            | false => exact .inl rfl
            | true =>
              cases h2 : flt (plus (sc q) (eighth (sc p))) (sc p) with
              | true => exact .inl rfl
              | false => exact .inr ⟨i, p, rfl, hp, h1, h2⟩
    rcases hcase with hb | ⟨i, p, hb, hp, htp, hfp⟩
    · refine ⟨(fun h => by rw [hb] at h; cases h), fun m' hm' => ?_, ?_⟩
      · rw [hb] at hm'
        injection hm' with hm'
        subst hm'
        refine ⟨q, hq, hqt, fun p hp htp => ?_⟩
        rw [flt_ok (hpt p hp q hqm) (hst q hqm), decide_eq_false_iff_not]
        have h1 := hminA p hp htp
        have h2 := plus_ge (hst p hp) (het q hqm)
        omega
      · have hu : (t.best now).used = some q.e := by unfold Tab.best; simp only [hb, Option.bind_some, hq, Option.map_some]
        rw [hIb, hb]
        simp only [hu, findI_own iv hq, hq, hqt, Bool.true_and]
        split <;> rfl
    · have hpm := List.mem_of_getElem? hp
      refine ⟨(fun h => by rw [hb] at h; cases h), fun m' hm' => ?_, ?_⟩
      · rw [hb] at hm'
        injection hm' with hm'
        subst hm'
        refine ⟨p, hp, htp, fun r hr htr => ?_⟩
        rw [flt_ok (hpt q hqm p hpm) (hst p hpm), decide_eq_false_iff_not] at hfp
        rw [flt_ok (hpt r hr p hpm) (hst p hpm), decide_eq_false_iff_not]
        have h1 := plus_mono (hminA r hr htr) (hst r hr) (het p hpm)
        omega
      · have hu : (t.best now).used = some p.e := by unfold Tab.best; simp only [hb, Option.bind_some, hp, Option.map_some]
        rw [hIb, hb]
        simp only [hu, findI_own iv hp, hp, htp, hfp, Bool.not_false, Bool.true_and, if_true]

end
end Go.Proofs.Ytbopmcdmahabbaa
