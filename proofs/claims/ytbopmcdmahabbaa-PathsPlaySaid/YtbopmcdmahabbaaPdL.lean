/- Both tables say the same: the plain law. -/
import Derived.Test.YtbopmcdmahabbaaPdI
import Derived.Test.YtbopmcdmahabbaaPdJ
namespace Go.Proofs.Ytbopmcdmahabbaa
open Go.RowKit

structure Sync (t : Tab) (rt : RTab) : Prop where
  wait : rt.wait = t.wait
  life : rt.life = t.life
  losses : rt.losses = t.losses
  most : rt.most = t.most
  l : rt.l.map (·.p) = t.l
  on : ∀ q ∈ rt.l, q.waits = true → ∃ x ∈ t.pings, x.e = q.p.e ∧ x.tx = q.tx ∧ x.at_ = q.at_
  off : ∀ q ∈ rt.l, q.waits = false → ∀ x ∈ t.pings, x.e ≠ q.p.e
  used : rt.used = match t.used with | none => -1 | some e => oidx (findI t.l e)
  usedIn : ∀ e, t.used = some e → ∃ i, findI t.l e = some i

theorem filterMap_same {α β : Type} {f g : α → Option β} : ∀ {l : List α}, (∀ x ∈ l, f x = g x) → l.filterMap f = l.filterMap g := by
  intro l
  induction l with
  | nil => intro _; rfl
  | cons a l ih =>
    intro h
    rw [List.filterMap_cons, List.filterMap_cons, h a (List.mem_cons_self ..), ih fun x hx => h x (List.mem_cons_of_mem _ hx)]

section
variable {t : Tab} {rt : RTab}

theorem sync_new (a b c d : Nat) : Sync (Tab.new a b c d) (RTab.new a b c d) :=
  ⟨rfl, rfl, rfl, rfl, rfl, by simp [RTab.new], by simp [RTab.new], rfl, by simp [Tab.new]⟩

theorem Sync.len (h : Sync t rt) : rt.l.length = t.l.length := by rw [← h.l, List.length_map]
theorem Sync.at_ (h : Sync t rt) {i : Nat} {q : RPth} (hq : rt.l[i]? = some q) : t.l[i]? = some q.p := by rw [← h.l, List.getElem?_map, hq]; rfl
theorem Sync.at' (h : Sync t rt) {i : Nat} {p : Pth} (hp : t.l[i]? = some p) : ∃ q, rt.l[i]? = some q ∧ q.p = p := by
  rw [← h.l, List.getElem?_map] at hp
  cases hq : rt.l[i]? with
  | none => rw [hq] at hp; cases hp
  | some q =>
    rw [hq] at hp
    injection hp with hp
    exact ⟨q, rfl, hp⟩
theorem Sync.find (h : Sync t rt) (e : End) : rfind rt e = findI t.l e := by
  unfold rfind findI
  rw [← h.l, List.findIdx?_map]
  rfl
theorem Sync.there (h : Sync t rt) (p : Pth) (now : Nat) : rthere rt p now = there t p now := by
  unfold rthere Go.Proofs.Ytbopmcdmahabbaa.there
  rw [h.life, h.losses]

theorem Sync.score (h : Sync t rt) (e : End) (now : Nat) : rscoreV rt e now = scoreV t e now := by
  unfold rscoreV scoreV
  rw [h.find]
  cases hf : findI t.l e with
  | none => rfl
  | some i =>
    simp only [Option.bind_some]
    cases hq : rt.l[i]? with
    | none =>
      have : t.l[i]? = none := by rw [← h.l, List.getElem?_map, hq]; rfl
      rw [this]
    | some q => rw [h.at_ hq]; simp only [h.there]

/- Its ping, of a path that waits. -/
theorem Sync.ping (h : Sync t rt) {j : Nat} (iv : Inv j t) {x : Ent} (hx : x ∈ t.pings) : ∃ k q, rt.l[k]? = some q ∧ findI t.l x.e = some k ∧ q.p.e = x.e ∧ q.waits = true ∧ q.tx = x.tx ∧ q.at_ = x.at_ := by
  obtain ⟨k, p, hf, hp⟩ := iv.ok.findI hx
  obtain ⟨q, hq, rfl⟩ := h.at' hp
  obtain ⟨p2, hp2, hpe⟩ := findI_mem hf
  rw [hp] at hp2
  injection hp2 with hp2
  subst hp2
  have hm := List.mem_of_getElem? hq
  cases hw : q.waits with
  | false => exact absurd hpe.symm (h.off q hm hw x hx)
  | true =>
    obtain ⟨y, hy, h1, h2, h3⟩ := h.on q hm hw
    have : y = x := iv.ok.ends y hy x hx (h1.trans hpe)
    subst this
    exact ⟨k, q, hq, hf, hpe, hw, h2.symm, h3.symm⟩

theorem rping_some {tx : ByteArray} {k : Nat} (h : rping rt tx = some k) : ∃ q, rt.l[k]? = some q ∧ q.waits = true ∧ q.tx = tx := by
  obtain ⟨hlt, h1, _⟩ := List.findIdx?_eq_some_iff_getElem.1 h
  rw [Bool.and_eq_true] at h1
  exact ⟨rt.l[k], List.getElem?_eq_getElem hlt, h1.1, (bytes_beq _ _).1 h1.2⟩

/- The ping of a tx, of both. -/
theorem Sync.tx (h : Sync t rt) {j : Nat} (iv : Inv j t) (tx : ByteArray) : match pingOf t tx with
    | none => rping rt tx = none
    | some x => ∃ k q, rping rt tx = some k ∧ rt.l[k]? = some q ∧ findI t.l x.e = some k ∧ q.p.e = x.e ∧ q.waits = true ∧ q.tx = x.tx ∧ q.at_ = x.at_ := by
  cases hp : pingOf t tx with
  | none =>
    have hno := pingOf_none hp
    cases hr : rping rt tx with
    | none => rfl
    | some k =>
      obtain ⟨q, hq, hw, ht⟩ := rping_some hr
      obtain ⟨x, hx, _, h2, _⟩ := h.on q (List.mem_of_getElem? hq) hw
      exact absurd (h2.trans ht) (hno x hx)
  | some x =>
    obtain ⟨hx, hxt⟩ := pingOf_some hp
    obtain ⟨k, q, hq, hf, h1, h2, h3, h4⟩ := h.ping iv hx
    refine ⟨k, q, ?_, hq, hf, h1, h2, h3, h4⟩
    cases hr : rping rt tx with
    | none =>
      have := List.findIdx?_eq_none_iff.1 hr q (List.mem_of_getElem? hq)
      rw [h2, h3, hxt, (bytes_beq tx tx).2 rfl] at this
      cases this
    | some k2 =>
      obtain ⟨q2, hq2, hw2, ht2⟩ := rping_some hr
      obtain ⟨y, hy, g1, g2, g3⟩ := h.on q2 (List.mem_of_getElem? hq2) hw2
      have : y = x := iv.ok.keys y hy x hx (by rw [g2, ht2, hxt])
      subst this
      rw [iv.dis k2 k q2.p q.p (h.at_ hq2) (h.at_ hq) (g1.symm.trans h1.symm)]

theorem Sync.wOf (h : Sync t rt) {j : Nat} (iv : Inv j t) {q : RPth} (hq : q ∈ rt.l) : wOf t q.p.e = if q.waits then some q.tx else none := by
  unfold Go.Proofs.Ytbopmcdmahabbaa.wOf
  cases hw : q.waits with
  | false =>
    have hno := h.off q hq hw
    have : (t.pings.find? fun x => x.e.eqb q.p.e) = none := List.find?_eq_none.2 (fun x hx he => hno x hx (End.eqb_iff.1 (by simpa using he)))
    rw [this]
    rfl
  | true =>
    obtain ⟨x, hx, h1, h2, h3⟩ := h.on q hq hw
    cases hf : t.pings.find? fun x => x.e.eqb q.p.e with
    | none => exact absurd (End.eqb_iff.2 h1) (List.find?_eq_none.1 hf x hx)
    | some y =>
      have hy := List.mem_of_find?_eq_some hf
      have hye := List.find?_some hf
      have : y = x := iv.ok.ends y hy x hx ((End.eqb_iff.1 (by simpa using hye)).trans h1.symm)
      subst this
      rw [← h2]
      rfl

theorem Sync.wl (h : Sync t rt) {j : Nat} (iv : Inv j t) : wl t = rt.l.filterMap fun q => if q.waits then some q.tx else none := by
  unfold Go.Proofs.Ytbopmcdmahabbaa.wl
  rw [← h.l, List.filterMap_map]
  exact filterMap_same fun q hq => h.wOf iv hq

/-! Add, Sent, Pong. -/
theorem findI_append {l l2 : List Pth} {e : End} {i : Nat} (h : findI l e = some i) : findI (l ++ l2) e = some i := by
  obtain ⟨hlt, h1, h2⟩ := List.findIdx?_eq_some_iff_getElem.1 h
  unfold findI
  rw [List.findIdx?_eq_some_iff_getElem]
  refine ⟨by rw [List.length_append]; omega, ?_, fun j hj => ?_⟩
  · rw [List.getElem_append_left hlt]; exact h1
  · rw [List.getElem_append_left (by omega)]; exact h2 j hj

def raddT (t : RTab) (e : End) : RTab × Int := if (rfind t e).isSome then (t, 9) else if t.most ≤ t.l.length then (t, 6) else (t.add e, 0)

theorem sync_add (h : Sync t rt) {j : Nat} (iv : Inv j t) (e : End) : Sync (addT t e).1 (raddT rt e).1 ∧ (raddT rt e).2 = (addT t e).2 := by
  unfold addT raddT
  rw [h.find, h.most, h.len]
  cases hf : findI t.l e with
  | some i => exact ⟨h, rfl⟩
  | none =>
    simp only [Option.isSome_none, Bool.false_eq_true, if_false]
    by_cases hq : t.most ≤ t.l.length
    · rw [if_pos hq, if_pos hq]; exact ⟨h, rfl⟩
    · rw [if_neg hq, if_neg hq]
      refine ⟨⟨h.wait, h.life, h.losses, h.most, ?_, fun q hq => ?_, fun q hq => ?_, ?_, fun e' he' => ?_⟩, rfl⟩
      · show (rt.l ++ [RPth.new e]).map (·.p) = t.l ++ [Pth.new e]
        rw [List.map_append, h.l]
        rfl
      · intro hw
        rcases List.mem_append.1 hq with h1 | h1
        · exact h.on q h1 hw
        · rw [List.mem_singleton.1 h1] at hw; cases hw
      · intro hw x hx
        rcases List.mem_append.1 hq with h1 | h1
        · exact h.off q h1 hw x hx
        · rw [List.mem_singleton.1 h1]
          intro hxe
          obtain ⟨p, hp, hpe⟩ := iv.ok.there x hx
          have := List.findIdx?_eq_none_iff.1 hf p hp
          rw [End.eqb_iff.2 (show p.e = e from hpe.trans hxe)] at this
          cases this
      · show rt.used = match t.used with | none => -1 | some e' => oidx (findI (t.l ++ [Pth.new e]) e')
        rw [h.used]
        cases hu : t.used with
        | none => rfl
        | some e' =>
          obtain ⟨i, hi⟩ := h.usedIn e' hu
          simp only [hi, findI_append hi]
      · obtain ⟨i, hi⟩ := h.usedIn e' he'
        exact ⟨i, findI_append hi⟩

/- One path has turned, of both; its ping too. -/
theorem sync_set (h : Sync t rt) {j : Nat} (iv : Inv j t) {k : Nat} {q q' : RPth} (hq : rt.l[k]? = some q) (he : q'.p.e = q.p.e) {L : List Ent} {c : Nat}
    (hoth : ∀ x, x.e ≠ q.p.e → (x ∈ L ↔ x ∈ t.pings)) (hon : q'.waits = true → ∃ x ∈ L, x.e = q.p.e ∧ x.tx = q'.tx ∧ x.at_ = q'.at_) (hoff : q'.waits = false → ∀ x ∈ L, x.e ≠ q.p.e) :
    Sync { t with l := t.l.set k q'.p, pings := L, clock := c } (rt.setQ k q') := by
  have hfe : ∀ e, findI (t.l.set k q'.p) e = findI t.l e := fun e => findI_map (by
    refine List.ext_getElem? fun i => ?_
    rw [List.getElem?_map, List.getElem?_map]
    by_cases hki : k = i
    · subst hki
      have hlt : k < t.l.length := by
        have := h.at_ hq
        rcases Nat.lt_or_ge k t.l.length with h1 | h1
        · exact h1
        · rw [List.getElem?_eq_none h1] at this; cases this
      rw [List.getElem?_set_self hlt, h.at_ hq]
      simp [he]
    · rw [List.getElem?_set_ne hki]) e
  have hmem : ∀ r ∈ (rt.setQ k q').l, r = q' ∨ (r ∈ rt.l ∧ r.p.e ≠ q.p.e) := by
    intro r hr
    obtain ⟨i, hi⟩ := List.getElem?_of_mem hr
    have hi' : (rt.l.set k q')[i]? = some r := hi
    by_cases hki : k = i
    · subst hki
      have hlt : k < rt.l.length := by
        rcases Nat.lt_or_ge k rt.l.length with h1 | h1
        · exact h1
        · rw [List.getElem?_eq_none h1] at hq; cases hq
      rw [List.getElem?_set_self hlt] at hi'
      injection hi' with hi'
      exact .inl hi'.symm
    · rw [List.getElem?_set_ne hki] at hi'
      refine .inr ⟨List.mem_of_getElem? hi', fun hre => hki ?_⟩
      exact (iv.dis i k r.p q.p (h.at_ hi') (h.at_ hq) hre).symm
  refine ⟨h.wait, h.life, h.losses, h.most, ?_, fun r hr hw => ?_, fun r hr hw x hx => ?_, ?_, fun e hu => ?_⟩
  · show (rt.l.set k q').map (·.p) = t.l.set k q'.p
    rw [List.map_set, h.l]
  · rcases hmem r hr with rfl | ⟨h1, h2⟩
    · rw [he]; exact hon hw
    · obtain ⟨x, hx, g1, g2, g3⟩ := h.on r h1 hw
      exact ⟨x, (hoth x (by rw [g1]; exact h2)).2 hx, g1, g2, g3⟩
  · rcases hmem r hr with rfl | ⟨h1, h2⟩
    · rw [he]; exact hoff hw x hx
    · by_cases hxe : x.e = q.p.e
      · rw [hxe]; exact fun e => h2 e.symm
      · exact h.off r h1 hw x ((hoth x hxe).1 hx)
  · show rt.used = match t.used with | none => -1 | some e => oidx (findI (t.l.set k q'.p) e)
    rw [h.used]
    cases t.used with
    | none => rfl
    | some e => simp only [hfe]
  · obtain ⟨i, hi⟩ := h.usedIn e hu
    exact ⟨i, (hfe e).trans hi⟩

theorem set_self {l : List Pth} {k : Nat} {p : Pth} (h : l[k]? = some p) : l.set k p = l := by
  refine List.ext_getElem? fun i => ?_
  by_cases hki : k = i
  · subst hki
    have hlt : k < l.length := by
      rcases Nat.lt_or_ge k l.length with h1 | h1
      · exact h1
      · rw [List.getElem?_eq_none h1] at h; cases h
    rw [List.getElem?_set_self hlt, h]
  · rw [List.getElem?_set_ne hki]

theorem sync_sent (h : Sync t rt) {j : Nat} (iv : Inv j t) (tx : ByteArray) (e : End) (now : Nat) : Sync (sentT t tx e now).1 (rsentT rt tx e now).1 ∧ (rsentT rt tx e now).2 = (sentT t tx e now).2 := by
  unfold sentT rsentT
  by_cases hs : tx.size ≠ 16
  · rw [if_pos hs, if_pos hs]; exact ⟨h, rfl⟩
  · rw [if_neg hs, if_neg hs, h.find]
    cases hf : findI t.l e with
    | none => exact ⟨h, rfl⟩
    | some k =>
      obtain ⟨p, hp, hpe⟩ := findI_mem hf
      obtain ⟨q, hq, rfl⟩ := h.at' hp
      simp only [Option.isNone_some, Bool.false_eq_true, if_false, hq]
      have ht := h.tx iv tx
      cases hpg : pingOf t tx with
      | some x =>
        rw [hpg] at ht
        obtain ⟨k2, q2, hr, _⟩ := ht
        rw [hr]
        exact ⟨h, by first | rfl | trivial⟩
      | none =>
        rw [hpg] at ht
        simp only at ht
        rw [ht]
        simp only [Option.isSome_none, Bool.false_eq_true, if_false]
        refine ⟨?_, by first | rfl | trivial⟩
        have hst := sync_set h iv hq (q' := { q with waits := true, tx := tx, at_ := now }) rfl (L := (t.quiet e).pings ++ [(⟨tx, e, now, t.clock⟩ : Ent)]) (c := t.clock + 1) ?_ ?_ ?_
        · have e1 : t.l.set k q.p = t.l := set_self hp
          rw [show ({ q with waits := true, tx := tx, at_ := now } : RPth).p = q.p from rfl, e1] at hst
          exact hst
        · intro x hxe
          rw [hpe] at hxe
          constructor
          · intro hx
            rcases List.mem_append.1 hx with h1 | h1
            · exact (List.mem_filter.1 h1).1
            · rw [List.mem_singleton.1 h1] at hxe; exact absurd rfl hxe
          · intro hx
            refine List.mem_append.2 (.inl (List.mem_filter.2 ⟨hx, ?_⟩))
            cases hb : x.e.eqb e with
            | false => rfl
            | true => exact absurd (End.eqb_iff.1 hb) hxe
        · intro _
          exact ⟨⟨tx, e, now, t.clock⟩, List.mem_append.2 (.inr (List.mem_singleton.2 rfl)), hpe.symm, rfl, rfl⟩
        · intro hw; cases hw

theorem quiet_oth {x : Ent} {e : End} (hxe : x.e ≠ e) : x ∈ (t.quiet e).pings ↔ x ∈ t.pings := by
  constructor
  · exact fun hx => (List.mem_filter.1 hx).1
  · intro hx
    refine List.mem_filter.2 ⟨hx, ?_⟩
    cases hb : x.e.eqb e with
    | false => rfl
    | true => exact absurd (End.eqb_iff.1 hb) hxe
theorem quiet_no {x : Ent} {e : End} (hx : x ∈ (t.quiet e).pings) : x.e ≠ e := by
  intro he
  have := (List.mem_filter.1 hx).2
  rw [End.eqb_iff.2 he] at this
  cases this

theorem sync_pong (h : Sync t rt) {j : Nat} (iv : Inv j t) (tx : ByteArray) (e : End) (now : Nat) : Sync (pongT t tx e now).1 (rpongT rt tx e now).1 ∧ (rpongT rt tx e now).2 = (pongT t tx e now).2 := by
  unfold pongT rpongT
  have ht := h.tx iv tx
  cases hpg : pingOf t tx with
  | none =>
    rw [hpg] at ht
    simp only at ht
    rw [ht]
    exact ⟨h, rfl⟩
  | some x =>
    rw [hpg] at ht
    obtain ⟨k, q, hr, hq, hf, h1, h2, h3, h4⟩ := ht
    simp only [hr, hq, h1]
    cases hxe : x.e.eqb e with
    | false => exact ⟨h, rfl⟩
    | true =>
      simp only [if_true, hf, h.at_ hq]
      unfold pongP rpongQ
      rw [h.wait, ← h4]
      by_cases hw : t.wait < ago now q.at_
      · rw [if_pos hw, if_pos hw]
        refine ⟨?_, rfl⟩
        exact sync_set h iv hq (q' := { q with waits := false, p := { q.p with lost := q.p.lost + 1 } }) rfl (L := (t.quiet x.e).pings) (c := t.clock) (fun y hy => quiet_oth (by rw [← h1]; exact hy)) (fun hw => by cases hw) (fun _ y hy => by rw [h1]; exact quiet_no hy)
      · rw [if_neg hw, if_neg hw]
        refine ⟨?_, rfl⟩
        have hhe : (heardP q.p (fU (ago now q.at_)) now).e = q.p.e := by unfold heardP; split <;> rfl
        exact sync_set h iv hq (q' := { q with waits := false, p := heardP q.p (fU (ago now q.at_)) now }) hhe (L := (t.quiet x.e).pings) (c := t.clock) (fun y hy => quiet_oth (by rw [← h1]; exact hy)) (fun hw => by cases hw) (fun _ y hy => by rw [h1]; exact quiet_no hy)
end
end Go.Proofs.Ytbopmcdmahabbaa

namespace Go.Proofs.Ytbopmcdmahabbaa
open Go.RowKit

theorem subset_len {α : Type} : ∀ (l1 l2 : List α), l1.Nodup → (∀ x ∈ l1, x ∈ l2) → l1.length ≤ l2.length := by
  intro l1
  induction l1 with
  | nil => intro l2 _ _; exact Nat.zero_le _
  | cons x l ih =>
    intro l2 hnd hs
    rw [List.nodup_cons] at hnd
    obtain ⟨a, b, hab⟩ := List.append_of_mem (hs x (List.mem_cons_self ..))
    subst hab
    have := ih (a ++ b) hnd.2 (fun y hy => by
      have h1 := hs y (List.mem_cons_of_mem _ hy)
      rcases List.mem_append.1 h1 with h2 | h2
      · exact List.mem_append.2 (.inl h2)
      · rcases List.mem_cons.1 h2 with h3 | h3
        · subst h3; exact absurd hy hnd.1
        · exact List.mem_append.2 (.inr h3))
    rw [List.length_append] at this
    rw [List.length_cons, List.length_append, List.length_cons]
    omega

theorem nodup_map_of {α β : Type} {f : α → β} : ∀ {l : List α}, l.Nodup → (∀ x ∈ l, ∀ y ∈ l, f x = f y → x = y) → (l.map f).Nodup := by
  intro l
  induction l with
  | nil => intro _ _; exact List.nodup_nil
  | cons a l ih =>
    intro hnd hi
    rw [List.nodup_cons] at hnd
    rw [List.map_cons, List.nodup_cons]
    refine ⟨fun h => ?_, ih hnd.2 fun x hx y hy => hi x (List.mem_cons_of_mem _ hx) y (List.mem_cons_of_mem _ hy)⟩
    obtain ⟨y, hy, hye⟩ := List.mem_map.1 h
    have := hi y (List.mem_cons_of_mem _ hy) a (List.mem_cons_self ..) hye
    subst this
    exact hnd.1 hy

theorem nodup_of_map {α β : Type} {f : α → β} : ∀ {l : List α}, (l.map f).Nodup → l.Nodup := by
  intro l
  induction l with
  | nil => intro _; exact List.nodup_nil
  | cons a l ih =>
    intro h
    rw [List.map_cons, List.nodup_cons] at h
    rw [List.nodup_cons]
    exact ⟨fun hm => h.1 (List.mem_map_of_mem hm), ih h.2⟩

theorem ite_some_ne {c : Prop} [Decidable c] {a b : Nat} : (if c then some a else some b) ≠ none := by split <;> simp

section
variable {t : Tab} {rt : RTab}

theorem Sync.nodupE (h : Sync t rt) {j : Nat} (iv : Inv j t) : (rt.l.map (·.p.e)).Nodup := by
  have e : rt.l.map (·.p.e) = t.l.map (·.e) := by rw [← h.l, List.map_map]; rfl
  rw [e]
  show List.Pairwise (· ≠ ·) _
  rw [List.pairwise_iff_getElem]
  intro i k hi hk hik he
  rw [List.getElem_map, List.getElem_map] at he
  have := iv.dis i k _ _ (List.getElem?_eq_getElem (by simpa using hi)) (List.getElem?_eq_getElem (by simpa using hk)) he
  omega

theorem due_same (h : Sync t rt) {j : Nat} (iv : Inv j t) (now : Nat) {q : RPth} (hq : q ∈ rt.l) : rdue rt now q = true ↔ ∃ x ∈ t.pings, x.e = q.p.e ∧ due t now x = true := by
  unfold rdue due
  rw [h.wait, Bool.and_eq_true]
  constructor
  · rintro ⟨hw, hd⟩
    obtain ⟨x, hx, h1, h2, h3⟩ := h.on q hq hw
    exact ⟨x, hx, h1, by rw [h3]; exact hd⟩
  · rintro ⟨x, hx, hxe, hd⟩
    cases hw : q.waits with
    | false => exact absurd hxe (h.off q hq hw x hx)
    | true =>
      obtain ⟨y, hy, h1, h2, h3⟩ := h.on q hq hw
      have : y = x := iv.ok.ends y hy x hx (h1.trans hxe.symm)
      subst this
      exact ⟨rfl, by rw [← h3]; exact hd⟩

theorem tidy_count (h : Sync t rt) {j : Nat} (iv : Inv j t) (now : Nat) : rtidyC rt now rt.l.length = tidyN t now := by
  have e1 : rtidyC rt now rt.l.length = (rt.l.filter (rdue rt now)).length := by unfold rtidyC; rw [List.take_length]
  have e2 : tidyN t now = (t.pings.filter (due t now)).length := by
    unfold tidyN
    show t.pings.length - (t.pings.filter fun x => !due t now x).length = _
    have : (t.pings.filter (due t now)).length + (t.pings.filter fun x => !due t now x).length = t.pings.length := by
      induction t.pings with
      | nil => rfl
      | cons a l ih => cases hd : due t now a <;> simp [List.filter_cons, hd] <;> omega
    omega
  rw [e1, e2]
  have n1 : ((rt.l.filter (rdue rt now)).map (·.p.e)).Nodup := (h.nodupE iv).sublist (List.filter_sublist.map _)
  have n2 : ((t.pings.filter (due t now)).map (·.e)).Nodup := nodup_map_of ((nodup_of_map iv.ok.nodup).sublist List.filter_sublist) (fun x hx y hy he => iv.ok.ends x (List.mem_filter.1 hx).1 y (List.mem_filter.1 hy).1 he)
  have l1 := subset_len _ ((t.pings.filter (due t now)).map (·.e)) n1 (fun e he => by
    obtain ⟨q, hq, rfl⟩ := List.mem_map.1 he
    obtain ⟨hq1, hq2⟩ := List.mem_filter.1 hq
    obtain ⟨x, hx, hxe, hd⟩ := (due_same h iv now hq1).1 hq2
    exact List.mem_map.2 ⟨x, List.mem_filter.2 ⟨hx, hd⟩, hxe⟩)
  have l2 := subset_len _ ((rt.l.filter (rdue rt now)).map (·.p.e)) n2 (fun e he => by
    obtain ⟨x, hx, rfl⟩ := List.mem_map.1 he
    obtain ⟨hx1, hx2⟩ := List.mem_filter.1 hx
    obtain ⟨k, q, hq, _, hqe, _⟩ := h.ping iv hx1
    have hm := List.mem_of_getElem? hq
    exact List.mem_map.2 ⟨q, List.mem_filter.2 ⟨hm, (due_same h iv now hm).2 ⟨x, hx1, hqe.symm, hx2⟩⟩, hqe⟩)
  rw [List.length_map, List.length_map] at l1 l2
  omega

theorem bump_same (h : Sync t rt) {j : Nat} (iv : Inv j t) (now : Nat) {i : Nat} {q : RPth} (hq : rt.l[i]? = some q) : t.pings.any (fun x => due t now x && (findI t.l x.e == some i)) = rdue rt now q := by
  have hm := List.mem_of_getElem? hq
  rw [Bool.eq_iff_iff, List.any_eq_true, due_same h iv now hm]
  constructor
  · rintro ⟨x, hx, hd⟩
    rw [Bool.and_eq_true] at hd
    have hf : findI t.l x.e = some i := by simpa using hd.2
    obtain ⟨p, hp, hpe⟩ := findI_mem hf
    rw [h.at_ hq] at hp
    injection hp with hp
    exact ⟨x, hx, by rw [← hpe, hp], hd.1⟩
  · rintro ⟨x, hx, hxe, hd⟩
    refine ⟨x, hx, ?_⟩
    rw [hd, hxe, findI_own iv (h.at_ hq)]
    simp

theorem sync_tidy (h : Sync t rt) {j : Nat} (iv : Inv j t) (now : Nat) : Sync (t.tidy now) (rt.tidy now) := by
  have hfe : ∀ e, findI (t.tidy now).l e = findI t.l e := fun e => bumpL_find t.l t.pings (due t now) e
  refine ⟨h.wait, h.life, h.losses, h.most, ?_, fun r hr hw => ?_, fun r hr hw x hx => ?_, ?_, fun e hu => ?_⟩
  · refine List.ext_getElem? fun i => ?_
    show ((rt.l.map (rtid rt now)).map (·.p))[i]? = (bumpL t.l t.pings (due t now))[i]?
    rw [bumpL_at, List.getElem?_map, List.getElem?_map]
    cases hq : rt.l[i]? with
    | none =>
      have : t.l[i]? = none := by rw [← h.l, List.getElem?_map, hq]; rfl
      rw [this]; rfl
    | some q =>
      rw [h.at_ hq]
      simp only [Option.map_some, bump_same h iv now hq]
      unfold rtid
      cases rdue rt now q <;> rfl
  · obtain ⟨q, hq, rfl⟩ := List.mem_map.1 hr
    have hqe : (rtid rt now q).p.e = q.p.e := by unfold rtid; split <;> rfl
    cases hd : rdue rt now q with
    | true =>
      have : (rtid rt now q).waits = false := by unfold rtid; rw [hd]; rfl
      rw [this] at hw; cases hw
    | false =>
      have he : rtid rt now q = q := by unfold rtid; rw [hd]; rfl
      rw [he] at hw ⊢
      obtain ⟨x, hx, h1, h2, h3⟩ := h.on q hq hw
      refine ⟨x, List.mem_filter.2 ⟨hx, ?_⟩, h1, h2, h3⟩
      cases hdx : due t now x with
      | false => rfl
      | true => have := (due_same h iv now hq).2 ⟨x, hx, h1, hdx⟩; rw [hd] at this; cases this
  · obtain ⟨q, hq, rfl⟩ := List.mem_map.1 hr
    have hqe : (rtid rt now q).p.e = q.p.e := by unfold rtid; split <;> rfl
    rw [hqe]
    obtain ⟨hx1, hx2⟩ := List.mem_filter.1 hx
    intro hxe
    cases hd : rdue rt now q with
    | false =>
      have he : rtid rt now q = q := by unfold rtid; rw [hd]; rfl
      rw [he] at hw
      exact h.off q hq hw x hx1 hxe
    | true =>
      obtain ⟨y, hy, h1, h2⟩ := (due_same h iv now hq).1 hd
      have : y = x := iv.ok.ends y hy x hx1 (h1.trans hxe.symm)
      subst this
      rw [h2] at hx2; cases hx2
  · show rt.used = match t.used with | none => -1 | some e => oidx (findI (t.tidy now).l e)
    rw [h.used]
    cases t.used with
    | none => rfl
    | some e => simp only [hfe]
  · obtain ⟨i, hi⟩ := h.usedIn e hu
    exact ⟨i, (hfe e).trans hi⟩

theorem findI_erase {j : Nat} (iv : Inv j t) {e u : End} {k m : Nat} (hk : findI t.l e = some k) (hm : findI t.l u = some m) (hne : m ≠ k) : findI (t.l.eraseIdx k) u = some (if m < k then m else m - 1) := by
  obtain ⟨p, hp, hpe⟩ := findI_mem hm
  have hat : (t.l.eraseIdx k)[if m < k then m else m - 1]? = some p := by
    by_cases h : m < k
    · rw [if_pos h, erase_at, if_pos h]; exact hp
    · rw [if_neg h, erase_at, if_neg (by omega), show m - 1 + 1 = m by omega]; exact hp
  cases hf : findI (t.l.eraseIdx k) u with
  | none =>
    have := List.findIdx?_eq_none_iff.1 hf p (List.mem_of_getElem? hat)
    rw [End.eqb_iff.2 hpe] at this
    cases this
  | some i =>
    obtain ⟨r, hr, hre⟩ := findI_mem hf
    rw [erase_at] at hr
    have := iv.dis _ m r p hr hp (hre.trans hpe.symm)
    by_cases h1 : i < k <;> by_cases h2 : m < k <;> simp only [h1, h2, if_true, if_false] at this ⊢ <;> (congr 1 <;> omega)

theorem sync_drop (h : Sync t rt) {j : Nat} (iv : Inv j t) (e : End) : Sync (dropT t e).1 (rdropT rt e).1 ∧ (rdropT rt e).2 = (dropT t e).2 := by
  unfold dropT rdropT
  rw [h.find]
  cases hf : findI t.l e with
  | none => exact ⟨h, rfl⟩
  | some k =>
    refine ⟨?_, rfl⟩
    obtain ⟨p0, hp0, hpe0⟩ := findI_mem hf
    have hmem : ∀ r ∈ (rt.drop k).l, r ∈ rt.l ∧ r.p.e ≠ e := by
      intro r hr
      refine ⟨List.mem_of_mem_eraseIdx hr, fun hre => ?_⟩
      obtain ⟨i, hi⟩ := List.getElem?_of_mem hr
      have hi' : (rt.l.eraseIdx k)[i]? = some r := hi
      rw [List.getElem?_eraseIdx] at hi'
      by_cases h1 : i < k
      · rw [if_pos h1] at hi'
        have := iv.dis i k r.p p0 (h.at_ hi') hp0 (hre.trans hpe0.symm)
        omega
      · rw [if_neg h1] at hi'
        have := iv.dis (i + 1) k r.p p0 (h.at_ hi') hp0 (hre.trans hpe0.symm)
        omega
    refine ⟨h.wait, h.life, h.losses, h.most, ?_, fun r hr hw => ?_, fun r hr hw x hx => ?_, ?_, fun u hu => ?_⟩
    · show (rt.l.eraseIdx k).map (·.p) = t.l.eraseIdx k
      rw [← h.l, Go.ChangeMaps.map_eraseIdx]
    · obtain ⟨h1, h2⟩ := hmem r hr
      obtain ⟨x, hx, g1, g2, g3⟩ := h.on r h1 hw
      exact ⟨x, (quiet_oth (by rw [g1]; exact h2)).2 hx, g1, g2, g3⟩
    · obtain ⟨h1, h2⟩ := hmem r hr
      exact h.off r h1 hw x (List.mem_filter.1 hx).1
    · show rdropU rt.used k = match dropUsed t.used e with | none => -1 | some u => oidx (findI (t.l.eraseIdx k) u)
      rw [h.used]
      cases hu : t.used with
      | none =>
        show rdropU (-1) k = -1
        unfold rdropU
        rw [if_neg (by omega), if_neg (by omega)]
      | some u =>
        obtain ⟨m, hm⟩ := h.usedIn u hu
        simp only [dropUsed, hm]
        cases hue : u.eqb e with
        | true =>
          have hue' := End.eqb_iff.1 hue
          subst hue'
          rw [hm] at hf
          injection hf with hf
          subst hf
          show rdropU (m : Int) m = -1
          unfold rdropU
          rw [if_pos rfl]
        | false =>
          have hne : m ≠ k := by
            rintro rfl
            obtain ⟨p, hp, hpe⟩ := findI_mem hm
            rw [hp0] at hp
            injection hp with hp
            rw [End.eqb_iff.2 (hpe.symm.trans ((congrArg Pth.e hp.symm).trans hpe0))] at hue
            cases hue
          simp only [Bool.false_eq_true, if_false, findI_erase iv hf hm hne]
          show rdropU (m : Int) k = ((if m < k then m else m - 1 : Nat) : Int)
          unfold rdropU
          rw [if_neg (by omega)]
          by_cases h1 : m < k
          · rw [if_neg (by omega), if_pos h1]
          · rw [if_pos (by omega), if_neg h1]; omega
    · have hu' : dropUsed t.used e = some u := hu
      cases htu : t.used with
      | none => rw [htu] at hu'; cases hu'
      | some u0 =>
        rw [htu] at hu'
        unfold dropUsed at hu'
        simp only at hu'
        cases hue : u0.eqb e with
        | true => rw [hue] at hu'; simp at hu'
        | false =>
          rw [hue] at hu'
          simp only [Bool.false_eq_true, if_false] at hu'
          injection hu' with hu'
          subst hu'
          obtain ⟨m, hm⟩ := h.usedIn u0 htu
          have hne : m ≠ k := by
            rintro rfl
            obtain ⟨p, hp, hpe⟩ := findI_mem hm
            rw [hp0] at hp
            injection hp with hp
            rw [End.eqb_iff.2 (hpe.symm.trans ((congrArg Pth.e hp.symm).trans hpe0))] at hue
            cases hue
          exact ⟨_, findI_erase iv hf hm hne⟩

/-! Best. -/
theorem best_to (h : Sync t rt) (now : Nat) : ∀ k, k ≤ t.l.length → (bestTo t now k).1 = rbest rt now k ∧ (bestTo t now k).2 = match rget rt (rbest rt now k) with | some q => sc q.p | none => 0 := by
  intro k
  induction k with
  | zero => intro _; exact ⟨rfl, rfl⟩
  | succ k ih =>
    intro hk
    obtain ⟨i1, i2⟩ := ih (by omega)
    obtain ⟨p, hp⟩ : ∃ p, t.l[k]? = some p := ⟨t.l[k], List.getElem?_eq_getElem (by omega)⟩
    obtain ⟨q, hq, rfl⟩ := h.at' hp
    rw [bestTo_succ t now k hp, rbest_succ hq]
    have hlt := rbest_lt rt now k (by rw [h.len]; omega)
    generalize bestTo t now k = r at i1 i2
    obtain ⟨o, least⟩ := r
    simp only at i1 i2
    subst i1
    unfold pick
    rw [h.there]
    cases hth : there t q.p now with
    | false =>
      simp only [Bool.false_and, Bool.false_eq_true, if_false]
      exact ⟨by first | rfl | trivial, i2⟩
    | true =>
      simp only [Bool.true_and]
      cases hb : rbest rt now k with
      | none =>
        have hg : rget rt none = none := rfl
        rw [hb] at i2
        simp only [hg, Option.isNone_none, Bool.true_or, if_true]
        refine ⟨trivial, ?_⟩
        have hg2 : rget rt (some k) = some q := hq
        rw [hg2]
      | some m =>
        obtain ⟨_, qm, hqm, _⟩ := hlt m hb
        have hg : rget rt (some m) = some qm := hqm
        rw [hb] at i2
        rw [hg] at i2
        simp only [hg, Option.isNone_some, Bool.false_or]
        rw [i2]
        cases hfl : flt (sc q.p) (sc qm.p) with
        | true =>
          simp only [if_true]
          refine ⟨trivial, ?_⟩
          have hg2 : rget rt (some k) = some q := hq
          rw [hg2]
        | false =>
          simp only [Bool.false_eq_true, if_false]
          refine ⟨trivial, ?_⟩
          rw [hg]

theorem best_same (h : Sync t rt) (now : Nat) : rbestI rt now = bestI t now := by
  obtain ⟨b1, b2⟩ := best_to h now t.l.length (Nat.le_refl _)
  unfold rbestI bestI
  rw [h.used, h.len]
  cases hu : t.used with
  | none =>
    have h0 : ¬ (0 : Int) ≤ -1 := by omega
    simp only [h0, if_false]
    exact b1.symm
  | some e =>
    obtain ⟨i, hi⟩ := h.usedIn e hu
    obtain ⟨p, hp, hpe⟩ := findI_mem hi
    obtain ⟨q, hq, rfl⟩ := h.at' hp
    have ho : oidx (some i) = (i : Int) := rfl
    simp only [hi, ho]
    rw [if_pos (by omega), Int.toNat_natCast]
    simp only [hq, hp, h.there]
    cases hth : there t q.p now with
    | false => simp only [Bool.false_eq_true, if_false, Bool.false_and]; exact b1.symm
    | true =>
      simp only [if_true, Bool.true_and]
      cases hb : rbest rt now t.l.length with
      | none =>
        -- the used one is there: so some path is
        exfalso
        have key : ∀ k, k ≤ t.l.length → i < k → rbest rt now k ≠ none := by
          intro k
          induction k with
          | zero => intro _ h0; omega
          | succ k ih =>
            intro hk hik hn
            obtain ⟨qk, hqk⟩ : ∃ qk, rt.l[k]? = some qk := ⟨rt.l[k]'(by rw [h.len]; omega), List.getElem?_eq_getElem _⟩
            rw [rbest_succ hqk] at hn
            rcases Nat.lt_or_ge i k with h1 | h1
            · cases hbk : rbest rt now k with
              | none => exact ih (by omega) h1 hbk
              | some m =>
                rw [hbk] at hn
                exact ite_some_ne hn
            · have : i = k := by omega
              subst this
              rw [hq] at hqk
              injection hqk with hqk
              subst hqk
              rw [h.there, hth, Bool.true_and] at hn
              cases hbk : rbest rt now i with
              | none => rw [hbk] at hn; simp [rget] at hn
              | some m =>
                rw [hbk] at hn
                exact ite_some_ne hn
        have hil : i < t.l.length := (List.findIdx?_eq_some_iff_getElem.1 hi).1
        exact key t.l.length (Nat.le_refl _) hil hb
      | some m =>
        obtain ⟨_, qm, hqm, _⟩ := rbest_lt rt now t.l.length (by rw [h.len]; exact Nat.le_refl _) m hb
        have hg : rget rt (some m) = some qm := hqm
        rw [hb] at b1 b2
        rw [hg] at b2
        simp only [hg]
        simp only at b2
        rw [b1, b2]
        cases hfl : flt (plus (sc qm.p) (eighth (sc q.p))) (sc q.p) with
        | true => simp
        | false => simp

theorem sync_best (h : Sync t rt) {j : Nat} (iv : Inv j t) (now : Nat) : Sync (t.best now) (rt.best now) ∧ rbestE rt now = bestE t now := by
  have hb := best_same h now
  have hE : rbestE rt now = bestE t now := by
    unfold rbestE bestE rget
    rw [hb]
    cases bestI t now with
    | none => rfl
    | some m =>
      simp only [Option.bind_some]
      cases hq : rt.l[m]? with
      | none =>
        have : t.l[m]? = none := by rw [← h.l, List.getElem?_map, hq]; rfl
        rw [this]; rfl
      | some q => rw [h.at_ hq]; rfl
  refine ⟨⟨h.wait, h.life, h.losses, h.most, h.l, h.on, h.off, ?_, fun e hu => ?_⟩, hE⟩
  · show oidx (rbestI rt now) = match (bestI t now).bind (fun i => (t.l[i]?).map (·.e)) with | none => -1 | some e => oidx (findI t.l e)
    rw [hb]
    cases hbi : bestI t now with
    | none => rfl
    | some m =>
      have hlt := bestI_lt t now m hbi
      have hp : t.l[m]? = some t.l[m] := List.getElem?_eq_getElem hlt
      simp only [Option.bind_some, hp, Option.map_some, findI_own iv hp]
  · have hu' : (bestI t now).bind (fun i => (t.l[i]?).map (·.e)) = some e := hu
    cases hbi : bestI t now with
    | none => rw [hbi] at hu'; cases hu'
    | some m =>
      have hlt := bestI_lt t now m hbi
      have hp : t.l[m]? = some t.l[m] := List.getElem?_eq_getElem hlt
      rw [hbi] at hu'
      simp only [Option.bind_some, hp, Option.map_some] at hu'
      injection hu' with hu'
      exact ⟨m, by rw [← hu']; exact findI_own iv hp⟩
end
end Go.Proofs.Ytbopmcdmahabbaa
