/- Tidy: the plain law. -/
import Derived.Test.YtbopmcdmahabbaaPaU
namespace Go.Proofs.Ytbopmcdmahabbaa
open Go.RowKit

/- Those paths lose one more that have a ping of D. -/
def bumpL (l : List Pth) (ps : List Ent) (D : Ent → Bool) : List Pth :=
  l.mapIdx fun i p => if ps.any (fun x => D x && (findI l x.e == some i)) then { p with lost := p.lost + 1 } else p

def Tab.tidyD (t : Tab) (D : Ent → Bool) : Tab := { t with l := bumpL t.l t.pings D, pings := t.pings.filter fun x => !D x }
def due (t : Tab) (now : Nat) (x : Ent) : Bool := decide (t.wait < ago now x.at_)
def Tab.tidy (t : Tab) (now : Nat) : Tab := t.tidyD (due t now)

theorem bumpL_at (l : List Pth) (ps : List Ent) (D : Ent → Bool) (i : Nat) :
    (bumpL l ps D)[i]? = (l[i]?).map fun p => if ps.any (fun x => D x && (findI l x.e == some i)) then { p with lost := p.lost + 1 } else p := by
  simp [bumpL, List.getElem?_mapIdx]

theorem bumpL_len (l : List Pth) (ps : List Ent) (D : Ent → Bool) : (bumpL l ps D).length = l.length := by simp [bumpL]

theorem any_congr' {ps : List Ent} {f g : Ent → Bool} (h : ∀ x ∈ ps, f x = g x) : ps.any f = ps.any g := by
  induction ps with
  | nil => rfl
  | cons a l ih =>
    simp only [List.any_cons]
    rw [h a (List.mem_cons_self ..), ih fun x hx => h x (List.mem_cons_of_mem _ hx)]

theorem bumpL_congr {l : List Pth} {ps : List Ent} {D D' : Ent → Bool} (h : ∀ x ∈ ps, D x = D' x) : bumpL l ps D = bumpL l ps D' := by
  refine List.ext_getElem? fun i => ?_
  rw [bumpL_at, bumpL_at, any_congr' (g := fun x => D' x && (findI l x.e == some i)) (fun x hx => by rw [h x hx])]

theorem tidyD_congr {t : Tab} {D D' : Ent → Bool} (h : ∀ x ∈ t.pings, D x = D' x) : t.tidyD D = t.tidyD D' := by
  unfold Tab.tidyD
  rw [bumpL_congr h, List.filter_congr (fun x hx => by rw [h x hx])]

theorem tidyD_none {t : Tab} {D : Ent → Bool} (h : ∀ x ∈ t.pings, D x = false) : t.tidyD D = t := by
  unfold Tab.tidyD
  have h1 : bumpL t.l t.pings D = t.l := by
    refine List.ext_getElem? fun i => ?_
    rw [bumpL_at, any_congr' (g := fun _ => false) (fun x hx => by rw [h x hx]; rfl)]
    simp
  rw [h1, List.filter_eq_self.2 (fun x hx => by simp [h x hx])]

theorem findI_map {l l' : List Pth} (h : l'.map (·.e) = l.map (·.e)) (e : End) : findI l' e = findI l e := by
  have key : ∀ L : List Pth, findI L e = (L.map (·.e)).findIdx? fun x => x.eqb e := fun L => by
    simp [findI, List.findIdx?_map, Function.comp_def]
  rw [key, key, h]

theorem bumpL_e (l : List Pth) (ps : List Ent) (D : Ent → Bool) : (bumpL l ps D).map (·.e) = l.map (·.e) := by
  refine List.ext_getElem? fun i => ?_
  rw [List.getElem?_map, List.getElem?_map, bumpL_at]
  cases l[i]? with
  | none => rfl
  | some p =>
    simp only [Option.map_some]
    split <;> rfl

theorem bumpL_find (l : List Pth) (ps : List Ent) (D : Ent → Bool) (e : End) : findI (bumpL l ps D) e = findI l e := findI_map (bumpL_e l ps D) e

theorem Tab.Ok.ofE {t : Tab} (ok : t.Ok) {l : List Pth} (h : l.map (·.e) = t.l.map (·.e)) : ({ t with l := l } : Tab).Ok := by
  refine ⟨ok.born, ok.nodup, ok.keys, ok.ends, fun x hx => ?_⟩
  obtain ⟨p, hp, he⟩ := ok.there x hx
  have : x.e ∈ l.map (·.e) := by
    rw [h]
    exact List.mem_map.2 ⟨p, hp, he⟩
  obtain ⟨q, hq, hqe⟩ := List.mem_map.1 this
  exact ⟨q, hq, hqe⟩

theorem Tab.Ok.tidyD {t : Tab} (ok : t.Ok) (D : Ent → Bool) : (t.tidyD D).Ok :=
  (ok.sub fun x => !D x).ofE (bumpL_e t.l t.pings D)

theorem Tab.Ok.findI {t : Tab} (ok : t.Ok) {x : Ent} (hx : x ∈ t.pings) : ∃ i p, Go.Proofs.Ytbopmcdmahabbaa.findI t.l x.e = some i ∧ t.l[i]? = some p := by
  obtain ⟨p, hp, he⟩ := ok.there x hx
  have hs : (Go.Proofs.Ytbopmcdmahabbaa.findI t.l x.e).isSome = true := by
    unfold Go.Proofs.Ytbopmcdmahabbaa.findI
    rw [List.findIdx?_isSome]
    exact List.any_eq_true.2 ⟨p, hp, End.eqb_iff.2 he⟩
  obtain ⟨i, hi⟩ := Option.isSome_iff_exists.1 hs
  have hlt := (List.findIdx?_eq_some_iff_getElem.1 hi).1
  exact ⟨i, t.l[i], hi, List.getElem?_eq_getElem hlt⟩

/- One more ping of those that are due. -/
theorem tidyD_step {t : Tab} (ok : t.Ok) {D D' : Ent → Bool} {y : Ent} (hy : y ∈ t.pings) (hD : D y = false) (hD' : D' y = true) (hd : ∀ x ∈ t.pings, x ≠ y → D' x = D x) {i : Nat} {p : Pth} (hf : findI t.l y.e = some i) (hp : t.l[i]? = some p) :
    (t.tidyD D).l[i]? = some p ∧ ((t.tidyD D).quiet y.e).setP i { p with lost := p.lost + 1 } = t.tidyD D' := by
  have hne : ∀ x ∈ t.pings, x ≠ y → findI t.l x.e ≠ some i := by
    intro x hx hxy hfx
    have h1 := (List.findIdx?_eq_some_iff_getElem.1 hf)
    have h2 := (List.findIdx?_eq_some_iff_getElem.1 hfx)
    obtain ⟨l1, e1, _⟩ := h1
    obtain ⟨l2, e2, _⟩ := h2
    exact hxy (ok.ends x hx y hy ((End.eqb_iff.1 e2).symm.trans (End.eqb_iff.1 e1)))
  have h1 : (t.tidyD D).l[i]? = some p := by
    show (bumpL t.l t.pings D)[i]? = some p
    rw [bumpL_at, any_congr' (g := fun _ => false) (fun x hx => ?_), hp]
    · simp
    · by_cases hxy : x = y
      · subst hxy; rw [hD]; rfl
      · simp [hne x hx hxy]
  refine ⟨h1, ?_⟩
  have hl : (bumpL t.l t.pings D).set i { p with lost := p.lost + 1 } = bumpL t.l t.pings D' := by
    refine List.ext_getElem? fun k => ?_
    by_cases hk : i = k
    · subst hk
      have hlt : i < (bumpL t.l t.pings D).length := by
        rcases Nat.lt_or_ge i (bumpL t.l t.pings D).length with h | h
        · exact h
        · have h1' : (bumpL t.l t.pings D)[i]? = some p := h1
          rw [List.getElem?_eq_none h] at h1'; cases h1'
      have hany : t.pings.any (fun x => D' x && (findI t.l x.e == some i)) = true := List.any_eq_true.2 ⟨y, hy, by rw [hD', hf]; simp⟩
      rw [bumpL_at, hp, hany, List.getElem?_set_self hlt]
      rfl
    · rw [List.getElem?_set_ne hk, bumpL_at, bumpL_at, any_congr' (g := fun x => D' x && (findI t.l x.e == some k)) (fun x hx => ?_)]
      by_cases hxy : x = y
      · subst hxy
        rw [hf]
        have : (some i == some k) = false := by simpa using hk
        rw [this]; simp
      · rw [hd x hx hxy]
  have hpg : (t.pings.filter fun x => !D x).filter (fun x => !x.e.eqb y.e) = t.pings.filter fun x => !D' x := by
    rw [List.filter_filter]
    refine List.filter_congr fun x hx => ?_
    by_cases hxy : x = y
    · subst hxy
      rw [hD', End.eqb_iff.2 rfl]
      rfl
    · have : x.e.eqb y.e = false := by
        cases h : x.e.eqb y.e with
        | false => rfl
        | true => exact absurd (ok.ends x hx y hy (End.eqb_iff.1 h)) hxy
      rw [this, hd x hx hxy]
      rfl
  unfold Tab.setP Tab.quiet Tab.tidyD
  simp only [hl, hpg]

end Go.Proofs.Ytbopmcdmahabbaa
