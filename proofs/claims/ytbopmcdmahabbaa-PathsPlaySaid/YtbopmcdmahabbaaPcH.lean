/- One contract for each call, whatever is asked, and what it leaves as it was. -/
import Derived.Test.YtbopmcdmahabbaaPcF
namespace Go.Proofs.Ytbopmcdmahabbaa
open Go.RowKit

def pingOf (t : Tab) (tx : ByteArray) : Option Ent := t.pings.find? fun x => x.tx == tx

def addT (t : Tab) (e : End) : Tab × Int := if (findI t.l e).isSome then (t, 9) else if t.most ≤ t.l.length then (t, 6) else (t.add e, 0)
def sentT (t : Tab) (tx : ByteArray) (e : End) (now : Nat) : Tab × Int :=
  if tx.size ≠ 16 then (t, 2) else if (findI t.l e).isNone then (t, 5) else if (pingOf t tx).isSome then (t, 9) else (t.sent tx e now, 0)
def heardP (p : Pth) (r now : Nat) : Pth := if p.heard then { p with x := docX r p.x, y := docY r p.x p.y, heard := true, last := now, lost := 0 } else { p with x := r, y := 0, heard := true, last := now, lost := 0 }
def pongP (t : Tab) (x : Ent) (now : Nat) (i : Nat) (p : Pth) : Tab × Int :=
  if t.wait < ago now x.at_ then ((t.quiet x.e).setP i { p with lost := p.lost + 1 }, 251) else ((t.quiet x.e).setP i (heardP p (fU (ago now x.at_)) now), 0)
def pongT (t : Tab) (tx : ByteArray) (e : End) (now : Nat) : Tab × Int :=
  match pingOf t tx with
  | none => (t, 5)
  | some x => if x.e.eqb e then match findI t.l x.e with
      | none => (t, 5)
      | some i => match t.l[i]? with
        | none => (t, 5)
        | some p => pongP t x now i p
    else (t, 250)
def dropT (t : Tab) (e : End) : Tab × Int := match findI t.l e with | none => (t, 5) | some i => (t.drop e i, 0)

theorem pingOf_some {t : Tab} {tx : ByteArray} {x : Ent} (h : pingOf t tx = some x) : x ∈ t.pings ∧ x.tx = tx :=
  ⟨List.mem_of_find?_eq_some h, (bytes_beq _ _).1 (by simpa using List.find?_some h)⟩
theorem pingOf_none {t : Tab} {tx : ByteArray} (h : pingOf t tx = none) : ∀ x ∈ t.pings, x.tx ≠ tx := by
  intro x hx he
  have := List.find?_eq_none.1 h x hx
  exact this ((bytes_beq _ _).2 he)

theorem ago_le {now at_ : Nat} (h : now < M64) : ago now at_ < M64 := by
  unfold ago; omega

section
variable {n b j : Nat} {t : Tab} {w : World}

theorem c_add (h : Live n b t w) (e : End) : Calls Try.prog 9 #[ptr b, .agg e.cells] w (Does n b (addT t e).1 (.int .i64 (addT t e).2) w) := by
  unfold addT
  cases hf : findI t.l e with
  | some i => exact live_add_there h e hf
  | none =>
    simp only [Option.isSome_none, Bool.false_eq_true, if_false]
    by_cases hq : t.most ≤ t.l.length
    · rw [if_pos hq]
      exact live_add_full h e hf hq
    · rw [if_neg hq]
      exact live_add_ok h e hf (by omega)

theorem c_sent (h : Live n b t w) (iv : Inv j t) (tx : ByteArray) (e : End) (now : Nat) : Calls Try.prog 11 #[ptr b, .string tx, .agg e.cells, .int .u64 (now : Int)] w (Does n b (sentT t tx e now).1 (.int .i64 (sentT t tx e now).2) w) := by
  unfold sentT
  by_cases hl : tx.size ≠ 16
  · rw [if_pos hl]
    exact live_sent_len h tx e now hl
  · rw [if_neg hl]
    have hl2 : tx.size = 16 := by omega
    cases hf : findI t.l e with
    | none => exact live_sent_none h tx e now hl2 hf
    | some i =>
      simp only [Option.isNone_some, Bool.false_eq_true, if_false]
      cases hp : pingOf t tx with
      | some x => exact live_sent_there h iv.ok tx e now hl2 hf (pingOf_some hp).1 (pingOf_some hp).2
      | none => exact live_sent_ok h iv.ok tx e now hl2 hf (pingOf_none hp)

theorem c_pong (h : Live n b t w) (iv : Inv j t) (hj : j ≤ 600) (tx : ByteArray) (e : End) (now : Nat) (hn : now < M64) : Calls Try.prog 13 #[ptr b, .string tx, .agg e.cells, .int .u64 (now : Int)] w (Does n b (pongT t tx e now).1 (.int .i64 (pongT t tx e now).2) w) := by
  unfold pongT
  cases hp : pingOf t tx with
  | none => exact live_pong_none h tx e now (pingOf_none hp)
  | some x =>
    obtain ⟨hx, hxt⟩ := pingOf_some hp
    simp only
    cases hxe : x.e.eqb e with
    | false => exact live_pong_end h iv.ok tx e now hx hxt hxe
    | true =>
      obtain rfl := End.eqb_iff.1 hxe
      obtain ⟨i, p, hf, hpi⟩ := iv.ok.findI hx
      have hmem := List.mem_of_getElem? hpi
      have hlost := iv.lost p hmem
      have hat := iv.at_ x hx
      simp only [if_true, hf, hpi]
      unfold pongP
      by_cases hw : t.wait < ago now x.at_
      · rw [if_pos hw]
        exact live_pong_late h iv.ok tx now hx hxt hn hat hf hpi ⟨hlost.1, by omega⟩ hw
      · rw [if_neg hw]
        have hin : ago now x.at_ ≤ t.wait := by omega
        unfold heardP
        cases hh : p.heard with
        | false => exact live_pong_first h iv.ok tx now hx hxt hn hat hf hpi hin hh
        | true =>
          have hr : fU (ago now x.at_) ≤ B j := Nat.le_trans (fU_le (Nat.le_trans hin h.lim.wait1)) (B_le (Nat.zero_le _))
          exact live_pong_heard h iv.ok tx now hx hxt hn hat hf hpi hin hh (ewma_any (by omega) hr (iv.x p hmem) (iv.y p hmem)).1

theorem c_tidy (h : Live n b t w) (iv : Inv j t) (hj : j ≤ 600) (now : Nat) (hn : now < M64) : Calls Try.prog 14 #[ptr b, .int .u64 (now : Int)] w (Does n b (t.tidy now) (.int .i64 (tidyN t now : Int)) w) :=
  live_tidy h iv.ok now hn iv.at_ (fun p hp => ⟨(iv.lost p hp).1, by have := (iv.lost p hp).2; omega⟩) (by have := iv.num; omega)

theorem c_best (h : Live n b t w) (iv : Inv j t) (hj : j ≤ 600) (now : Nat) (hn : now < M64) : Calls Try.prog 15 #[ptr b, .int .u64 (now : Int)] w (Does n b (t.best now) (bestV t now) w) := by
  have hL := h
  obtain ⟨base, A, cap, m, U, hm, h1, h2, h3, h4, h5⟩ := h
  have hc := hm.row.2
  rcases hc with ⟨e, h0⟩ | ⟨g, cap2, cur, e, hg, hb, hc⟩
  · have hA : A = none := by injection e
    subst hA
    refine (best_empty hm now hn).mono ?_
    rintro r w' ⟨hr, ⟨U', hm', hU⟩, hk⟩
    exact ⟨hr, ⟨base, _, cap, m, U', hm', h1, h2, Nat.le_trans h3 hk.size, h4, fun u hu => Nat.le_trans (by omega) (hU u hu)⟩, hk.below (fun k hk => by subst hk; exact h1) (by omega)⟩
  · have hA : A = some ⟨g, 0, none⟩ := by injection e
    subst hA
    refine (best_any hm (iv.fin (by omega)) now hn).mono ?_
    rintro r w' ⟨hr, ⟨U', hm', hU⟩, hk⟩
    exact ⟨hr, ⟨base, _, cap, m, U', hm', h1, h2, Nat.le_trans h3 hk.size, h4, fun u hu => Nat.le_trans (by omega) (hU u hu)⟩, hk.below (fun k hk => by subst hk; exact h1) (by omega)⟩

theorem Inv.one (iv : Inv j t) {e : End} {i : Nat} (hf : findI t.l e = some i) : ∀ k p, t.l[k]? = some p → p.e.eqb e = true → k = i := by
  intro k p hk he
  obtain ⟨q, hq, hqe⟩ := findI_mem hf
  exact iv.dis k i p q hk hq ((End.eqb_iff.1 he).trans hqe.symm)

theorem c_drop (h : Live n b t w) (iv : Inv j t) (e : End) : Calls Try.prog 16 #[ptr b, .agg e.cells] w (Does n b (dropT t e).1 (.int .i64 (dropT t e).2) w) := by
  unfold dropT
  have hL := h
  obtain ⟨base, A, cap, m, U, hm, h1, h2, h3, h4, h5⟩ := h
  cases hf : findI t.l e with
  | none => exact (drop_none hm e hf).mono fun r w' hr => hL.does hr.1 hr.2
  | some i =>
    obtain ⟨q, hq, hqe⟩ := findI_mem hf
    obtain ⟨g, rfl, hgb, _⟩ := hm.row.at_ hq
    refine (drop_ok hm iv.ok e hf (iv.one hf)).mono ?_
    rintro r w' ⟨hr, ⟨U', hm', hU⟩, hk⟩
    refine ⟨hr, ⟨base, _, cap, m, U', hm', h1, h2, Nat.le_trans h3 hk.size, h4, fun u hu => ?_⟩, hk.below (fun k hk => ?_) (by omega)⟩
    · rcases hU with rfl | rfl
      · exact h5 u hu
      · cases hu
    · rcases hk with rfl | rfl | rfl
      · exact h1
      · exact h4
      · omega

theorem c_score (h : Live n b t w) (iv : Inv j t) (hj : j ≤ 600) (e : End) (now : Nat) (hn : now < M64) : Calls Try.prog 17 #[ptr b, .agg e.cells, .int .u64 (now : Int)] w (Does n b t (scoreV t e now) w) :=
  live_score h (iv.fin (by omega)) e now hn
end

/-! What the calls leave. -/
section
variable {j : Nat} {t : Tab}

theorem inv_new (a b c d : Nat) : Inv 0 (Tab.new a b c d) :=
  ⟨Tab.Ok.new a b c d, by simp [Tab.new], by simp [Tab.new], by simp [Tab.new], by simp [Tab.new], by simp [Tab.new], by simp [Tab.new], by simp [Tab.new]⟩

theorem inv_add (iv : Inv j t) (e : End) : Inv j (addT t e).1 := by
  unfold addT
  cases hf : findI t.l e with
  | some i => exact iv
  | none =>
    simp only [Option.isSome_none, Bool.false_eq_true, if_false]
    by_cases hq : t.most ≤ t.l.length
    · rw [if_pos hq]; exact iv
    · rw [if_neg hq]
      have hno : ∀ (k : Nat) p, t.l[k]? = some p → p.e ≠ e := by
        intro k p hk he
        have := List.findIdx?_eq_none_iff.1 hf p (List.mem_of_getElem? hk)
        rw [End.eqb_iff.2 he] at this
        cases this
      have hm : ∀ p ∈ (t.add e).l, p ∈ t.l ∨ p = Pth.new e := by
        intro p hp
        rcases List.mem_append.1 hp with h | h
        · exact .inl h
        · exact .inr (List.mem_singleton.1 h)
      have hat : ∀ (k : Nat) p, (t.add e).l[k]? = some p → (k < t.l.length ∧ t.l[k]? = some p) ∨ (k = t.l.length ∧ p = Pth.new e) := by
        intro k p hk
        have hk' : (t.l ++ [Pth.new e])[k]? = some p := hk
        rcases Nat.lt_or_ge k t.l.length with h | h
        · rw [List.getElem?_append_left h] at hk'
          exact .inl ⟨h, hk'⟩
        · rw [List.getElem?_append_right h] at hk'
          have : k - t.l.length = 0 := by
            rcases Nat.eq_zero_or_pos (k - t.l.length) with h0 | h0
            · exact h0
            · rw [List.getElem?_eq_none (by simp; omega)] at hk'; cases hk'
          rw [this] at hk'
          exact .inr ⟨by omega, by simpa using hk'.symm⟩
      refine ⟨iv.ok.add e, ?_, fun p hp => ?_, fun p hp => ?_, fun p hp => ?_, fun p hp => ?_, iv.at_, iv.num⟩
      · intro i k p q hi hk he
        rcases hat i p hi with ⟨h1, h2⟩ | ⟨h1, h2⟩ <;> rcases hat k q hk with ⟨h3, h4⟩ | ⟨h3, h4⟩
        · exact iv.dis i k p q h2 h4 he
        · subst h4; exact absurd he (hno i p h2)
        · subst h2; exact absurd he.symm (hno k q h4)
        · omega
      · rcases hm p hp with h | rfl
        · exact iv.x p h
        · exact Nat.zero_le _
      · rcases hm p hp with h | rfl
        · exact iv.y p h
        · exact Nat.zero_le _
      · rcases hm p hp with h | rfl
        · exact iv.last p h
        · show 0 < 18446744073709551616; omega
      · rcases hm p hp with h | rfl
        · exact iv.lost p h
        · exact ⟨Int.le_refl _, by show (0 : Int) ≤ _; omega⟩

theorem inv_sent (iv : Inv j t) (tx : ByteArray) (e : End) (now : Nat) (hn : now < M64) : Inv (j + 1) (sentT t tx e now).1 := by
  have iv1 := iv.mono (Nat.le_succ j)
  unfold sentT
  by_cases hl : tx.size ≠ 16
  · rw [if_pos hl]; exact iv1
  · rw [if_neg hl]
    cases hf : findI t.l e with
    | none => exact iv1
    | some i =>
      simp only [Option.isNone_some, Bool.false_eq_true, if_false]
      cases hp : pingOf t tx with
      | some x => exact iv1
      | none =>
        refine ⟨iv.ok.sent tx e now hf (pingOf_none hp), iv1.dis, iv1.x, iv1.y, iv1.last, iv1.lost, fun x hx => ?_, ?_⟩
        · have hx' : x ∈ (t.quiet e).pings ++ [(⟨tx, e, now, t.clock⟩ : Ent)] := hx
          rcases List.mem_append.1 hx' with h | h
          · exact iv.at_ x (List.mem_filter.1 h).1
          · rw [List.mem_singleton.1 h]; exact hn
        · show ((t.quiet e).pings ++ [(⟨tx, e, now, t.clock⟩ : Ent)]).length ≤ j + 1
          rw [List.length_append, List.length_singleton]
          have h1 : (t.quiet e).pings.length ≤ t.pings.length := List.length_filter_le _ _
          have := iv.num
          omega

theorem inv_quiet (iv : Inv j t) (e : End) : Inv j (t.quiet e) :=
  ⟨iv.ok.quiet e, iv.dis, iv.x, iv.y, iv.last, iv.lost, fun x hx => iv.at_ x (List.mem_filter.1 hx).1, Nat.le_trans (List.length_filter_le _ _) iv.num⟩

theorem inv_setP (iv : Inv j t) {i : Nat} {p p' : Pth} (hp : t.l[i]? = some p) (he : p'.e = p.e) (hx : p'.x ≤ B (j + 1)) (hy : p'.y ≤ B (j + 1)) (hl : p'.last < M64) (ho : 0 ≤ p'.lost ∧ p'.lost ≤ (j : Int) + 1) : Inv (j + 1) (t.setP i p') := by
  have iv1 := iv.mono (Nat.le_succ j)
  have hm : ∀ q ∈ (t.setP i p').l, q ∈ t.l ∨ q = p' := fun q hq => List.mem_or_eq_of_mem_set hq
  have hat : ∀ (k : Nat) q, (t.setP i p').l[k]? = some q → ∃ q', t.l[k]? = some q' ∧ q'.e = q.e := by
    intro k q hk
    have hk' : (t.l.set i p')[k]? = some q := hk
    by_cases h : i = k
    · subst h
      rcases Nat.lt_or_ge i t.l.length with h1 | h1
      · rw [List.getElem?_set_self h1] at hk'
        injection hk' with hk'
        subst hk'
        exact ⟨p, hp, he.symm⟩
      · rw [List.getElem?_eq_none h1] at hp; cases hp
    · rw [List.getElem?_set_ne h] at hk'
      exact ⟨q, hk', rfl⟩
  refine ⟨iv.ok.setP hp he, ?_, fun q hq => ?_, fun q hq => ?_, fun q hq => ?_, fun q hq => ?_, iv1.at_, iv1.num⟩
  · intro a k q r ha hk hqr
    obtain ⟨q', h1, h2⟩ := hat a q ha
    obtain ⟨r', h3, h4⟩ := hat k r hk
    exact iv.dis a k q' r' h1 h3 (h2.trans (hqr.trans h4.symm))
  · rcases hm q hq with h | rfl
    · exact iv1.x q h
    · exact hx
  · rcases hm q hq with h | rfl
    · exact iv1.y q h
    · exact hy
  · rcases hm q hq with h | rfl
    · exact iv1.last q h
    · exact hl
  · rcases hm q hq with h | rfl
    · exact iv1.lost q h
    · exact ⟨ho.1, by have := ho.2; omega⟩

theorem heardP_ok (iv : Inv j t) (hj : j ≤ 600) {p : Pth} (hp : p ∈ t.l) {r now : Nat} (hr : r ≤ B j) (hn : now < M64) :
    (heardP p r now).e = p.e ∧ (heardP p r now).x ≤ B (j + 1) ∧ (heardP p r now).y ≤ B (j + 1) ∧ (heardP p r now).last < M64 ∧ 0 ≤ (heardP p r now).lost ∧ (heardP p r now).lost ≤ (j : Int) + 1 := by
  obtain ⟨_, h1, h2⟩ := ewma_any (by omega) hr (iv.x p hp) (iv.y p hp)
  unfold heardP
  cases p.heard with
  | true => exact ⟨rfl, h1, h2, hn, Int.le_refl _, by show (0 : Int) ≤ _; omega⟩
  | false => exact ⟨rfl, Nat.le_trans hr (B_le (Nat.le_succ _)), Nat.zero_le _, hn, Int.le_refl _, by show (0 : Int) ≤ _; omega⟩

theorem inv_pong (iv : Inv j t) (lim : t.Lim) (hj : j ≤ 600) (tx : ByteArray) (e : End) (now : Nat) (hn : now < M64) : Inv (j + 1) (pongT t tx e now).1 := by
  have iv1 := iv.mono (Nat.le_succ j)
  unfold pongT
  cases hp : pingOf t tx with
  | none => exact iv1
  | some x =>
    simp only
    cases hxe : x.e.eqb e with
    | false => exact iv1
    | true =>
      simp only [if_true]
      cases hf : findI t.l x.e with
      | none => exact iv1
      | some i =>
        simp only
        cases hpi : t.l[i]? with
        | none => exact iv1
        | some p =>
          have hmem := List.mem_of_getElem? hpi
          simp only
          unfold pongP
          by_cases hw : t.wait < ago now x.at_
          · rw [if_pos hw]
            refine inv_setP (inv_quiet iv x.e) (p := p) hpi rfl (iv1.x p hmem) (iv1.y p hmem) (iv.last p hmem) ?_
            have := iv.lost p hmem
            exact ⟨by show 0 ≤ p.lost + 1; omega, by show p.lost + 1 ≤ _; omega⟩
          · rw [if_neg hw]
            have hr : fU (ago now x.at_) ≤ B j := Nat.le_trans (fU_le (Nat.le_trans (by omega) lim.wait1)) (B_le (Nat.zero_le _))
            obtain ⟨a1, a2, a3, a4, a5, a6⟩ := heardP_ok iv hj hmem hr hn
            exact inv_setP (inv_quiet iv x.e) (p := p) hpi a1 a2 a3 a4 ⟨a5, a6⟩

theorem inv_best (iv : Inv j t) (now : Nat) : Inv j (t.best now) := ⟨iv.ok.best now, iv.dis, iv.x, iv.y, iv.last, iv.lost, iv.at_, iv.num⟩

theorem inv_tidy (iv : Inv j t) (now : Nat) : Inv (j + 1) (t.tidy now) := by
  have iv1 := iv.mono (Nat.le_succ j)
  have hat : ∀ (k : Nat) q, (t.tidy now).l[k]? = some q → ∃ q', t.l[k]? = some q' ∧ (q = q' ∨ q = { q' with lost := q'.lost + 1 }) := by
    intro k q hk
    have hk' : (bumpL t.l t.pings (due t now))[k]? = some q := hk
    rw [bumpL_at] at hk'
    cases h : t.l[k]? with
    | none => rw [h] at hk'; cases hk'
    | some q' =>
      rw [h, Option.map_some] at hk'
      injection hk' with hk'
      refine ⟨q', rfl, ?_⟩
      rw [← hk']
      split
      · exact .inr rfl
      · exact .inl rfl
  have hm : ∀ q ∈ (t.tidy now).l, ∃ q' ∈ t.l, q = q' ∨ q = { q' with lost := q'.lost + 1 } := by
    intro q hq
    obtain ⟨k, hk⟩ := List.getElem?_of_mem hq
    obtain ⟨q', h1, h2⟩ := hat k q hk
    exact ⟨q', List.mem_of_getElem? h1, h2⟩
  refine ⟨iv.ok.tidyD _, ?_, fun q hq => ?_, fun q hq => ?_, fun q hq => ?_, fun q hq => ?_, fun x hx => iv.at_ x (List.mem_filter.1 hx).1, Nat.le_trans (List.length_filter_le _ _) iv1.num⟩
  · intro a k q r ha hk hqr
    obtain ⟨q', h1, h2⟩ := hat a q ha
    obtain ⟨r', h3, h4⟩ := hat k r hk
    refine iv.dis a k q' r' h1 h3 ?_
    have e1 : q.e = q'.e := by rcases h2 with rfl | rfl <;> rfl
    have e2 : r.e = r'.e := by rcases h4 with rfl | rfl <;> rfl
    exact e1.symm.trans (hqr.trans e2)
  · obtain ⟨q', h1, h2⟩ := hm q hq
    have e1 : q.x = q'.x := by rcases h2 with rfl | rfl <;> rfl
    rw [e1]; exact iv1.x q' h1
  · obtain ⟨q', h1, h2⟩ := hm q hq
    have e1 : q.y = q'.y := by rcases h2 with rfl | rfl <;> rfl
    rw [e1]; exact iv1.y q' h1
  · obtain ⟨q', h1, h2⟩ := hm q hq
    have e1 : q.last = q'.last := by rcases h2 with rfl | rfl <;> rfl
    rw [e1]; exact iv1.last q' h1
  · obtain ⟨q', h1, h2⟩ := hm q hq
    have := iv.lost q' h1
    rcases h2 with rfl | rfl
    · exact ⟨this.1, by omega⟩
    · exact ⟨by show 0 ≤ q'.lost + 1; omega, by show q'.lost + 1 ≤ _; omega⟩

theorem erase_at (l : List Pth) (i k : Nat) : (l.eraseIdx i)[k]? = l[if k < i then k else k + 1]? := by
  rw [List.getElem?_eraseIdx]
  by_cases h : k < i
  · rw [if_pos h, if_pos h]
  · rw [if_neg h, if_neg h]

theorem inv_drop (iv : Inv j t) (e : End) : Inv j (dropT t e).1 := by
  unfold dropT
  cases hf : findI t.l e with
  | none => exact iv
  | some i =>
    have hone := iv.one hf
    obtain ⟨p0, hp0, hpe⟩ := findI_mem hf
    have hil : i < t.l.length := (List.findIdx?_eq_some_iff_getElem.1 hf).1
    have hm : ∀ q ∈ (t.drop e i).l, q ∈ t.l := fun q hq => List.mem_of_mem_eraseIdx hq
    have hmp : ∀ x ∈ (t.drop e i).pings, x ∈ t.pings ∧ x.e.eqb e = false := fun x hx => by
      obtain ⟨h1, h2⟩ := List.mem_filter.1 hx
      exact ⟨h1, by simpa using h2⟩
    refine ⟨⟨fun x hx => iv.ok.born x (hmp x hx).1, iv.ok.nodup.sublist (List.filter_sublist.map _), fun x hx y hy => iv.ok.keys x (hmp x hx).1 y (hmp y hy).1, fun x hx y hy => iv.ok.ends x (hmp x hx).1 y (hmp y hy).1, fun x hx => ?_⟩, ?_, fun q hq => iv.x q (hm q hq), fun q hq => iv.y q (hm q hq), fun q hq => iv.last q (hm q hq), fun q hq => iv.lost q (hm q hq), fun x hx => iv.at_ x (hmp x hx).1, Nat.le_trans (List.length_filter_le _ _) iv.num⟩
    · obtain ⟨h1, h2⟩ := hmp x hx
      obtain ⟨p, hp, hpx⟩ := iv.ok.there x h1
      obtain ⟨k, hk⟩ := List.getElem?_of_mem hp
      have hki : k ≠ i := by
        rintro rfl
        rw [hp0] at hk
        injection hk with hk
        subst hk
        rw [← hpx, hpe, End.eqb_iff.2 rfl] at h2
        cases h2
      refine ⟨p, ?_, hpx⟩
      rcases Nat.lt_or_ge k i with h3 | h3
      · refine List.mem_of_getElem? (i := k) ?_
        show (t.l.eraseIdx i)[k]? = some p
        rw [erase_at, if_pos h3]; exact hk
      · refine List.mem_of_getElem? (i := k - 1) ?_
        show (t.l.eraseIdx i)[k - 1]? = some p
        rw [erase_at, if_neg (by omega), show k - 1 + 1 = k by omega]; exact hk
    · intro a k q r ha hk hqr
      have ha' : (t.l.eraseIdx i)[a]? = some q := ha
      have hk' : (t.l.eraseIdx i)[k]? = some r := hk
      rw [erase_at] at ha' hk'
      have := iv.dis _ _ q r ha' hk' hqr
      by_cases h1 : a < i <;> by_cases h2 : k < i <;> simp only [h1, h2, if_true, if_false] at this <;> omega
end

end Go.Proofs.Ytbopmcdmahabbaa

namespace Go.Proofs.Ytbopmcdmahabbaa
open Go.RowKit

/- Blocks that are no table's stay. -/
def Stay (b : Nat) (w w' : World) : Prop := ∀ g ty cs, g ≠ b → ty ≠ 53 → Blk w g ty cs → Blk w' g ty cs
def Does3 (n b : Nat) (t' : Tab) (v : Value) (w : World) (r : Ending) (w' : World) : Prop := r = .returned v ∧ Live n b t' w' ∧ Below n w w' ∧ Stay b w w'
def Scored (n b : Nat) (t' : Tab) (v : Value) (w : World) (r : Ending) (w' : World) : Prop := r = .returned v ∧ Live n b t' w' ∧ Below w.heap.size w w'

theorem keep3 {T : Nat → Prop} {w w' : World} {b base cap m : Nat} {A U : Option Addr} {t : Tab} (hm : TM w b base A cap m U t) (hk : Keeps T w w') (hT : ∀ k, T k → TS b m A k) : Stay b w w' := by
  intro g ty cs hg ht hB
  refine hB.keep hk (fun h => ?_)
  rcases hT g h with h | h | h
  · exact hg h
  · subst h
    have h1 := hm.map
    unfold MBlk at h1
    unfold Blk at hB
    rw [hB] at h1
    cases h1
  · obtain ⟨cur, hc⟩ := hm.own_blk h
    unfold Blk at hB
    rw [hB] at hc
    injection hc with hc
    injection hc with _ hc
    exact ht hc

theorem Stay.of_below {b : Nat} {w w' : World} (h : Below w.heap.size w w') : Stay b w w' := fun _ _ _ _ _ hB => hB.below h hB.lt
theorem Stay.trans {b : Nat} {w w' w'' : World} (h : Stay b w w') (k : Stay b w' w'') : Stay b w w'' := fun g ty cs hg ht hB => k g ty cs hg ht (h g ty cs hg ht hB)

section
variable {n b j : Nat} {t : Tab} {w w' : World}
theorem Live.does3 {v : Value} {r : Ending} (h : Live n b t w) (hr : r = .returned v) (hb : Below w.heap.size w w') : Does3 n b t v w r w' := ⟨hr, h.below hb, hb.mono h.size, Stay.of_below hb⟩
theorem Live.scored {v : Value} {r : Ending} (h : Live n b t w) (hr : r = .returned v) (hb : Below w.heap.size w w') : Scored n b t v w r w' := ⟨hr, h.below hb, hb⟩

theorem d_add_there (h : Live n b t w) (e : End) {i : Nat} (hf : findI t.l e = some i) :
    Calls Try.prog 9 #[ptr b, .agg e.cells] w (Does3 n b t (.int .i64 9) w) := by
  have hl := h
  obtain ⟨base, A, cap, m, U, hm, h1, h2, h3, h4⟩ := h
  exact (add_there hm e hf).mono fun r w' hr => hl.does3 hr.1 hr.2
theorem d_add_full (h : Live n b t w) (e : End) (hf : findI t.l e = none) (hq : t.most ≤ t.l.length) :
    Calls Try.prog 9 #[ptr b, .agg e.cells] w (Does3 n b t (.int .i64 6) w) := by
  have hl := h
  obtain ⟨base, A, cap, m, U, hm, h1, h2, h3, h4⟩ := h
  exact (add_full hm e hf hq).mono fun r w' hr => hl.does3 hr.1 hr.2
theorem d_add_ok (h : Live n b t w) (e : End) (hf : findI t.l e = none) (hq : t.l.length < t.most) :
    Calls Try.prog 9 #[ptr b, .agg e.cells] w (Does3 n b (t.add e) (.int .i64 0) w) := by
  obtain ⟨base, A, cap, m, U, hm, h1, h2, h3, h4, h5⟩ := h
  refine (add_ok hm h3 e hf hq).mono ?_
  rintro r w' ⟨hr, ⟨A', cap', hm', hA⟩, hk⟩
  refine ⟨hr, ⟨base, A', cap', m, U, hm', h1, h2, Nat.le_trans h3 hk.size, h4, h5⟩, hk.below (fun k hk => ?_) (by omega), keep3 hm hk (fun k hk => hk)⟩
  · rcases hk with rfl | rfl | hg
    · exact h1
    · exact h4
    · have := (hm.own_lt k hg).1; omega

theorem d_sent_len (h : Live n b t w) (tx : ByteArray) (e : End) (now : Int) (hl : tx.size ≠ 16) :
    Calls Try.prog 11 #[ptr b, .string tx, .agg e.cells, .int .u64 now] w (Does3 n b t (.int .i64 2) w) := by
  have hL := h
  obtain ⟨base, A, cap, m, U, hm, h1, h2, h3, h4⟩ := h
  exact (sent_len hm tx e now hl).mono fun r w' hr => hL.does3 hr.1 hr.2
theorem d_sent_none (h : Live n b t w) (tx : ByteArray) (e : End) (now : Int) (hl : tx.size = 16) (hf : findI t.l e = none) :
    Calls Try.prog 11 #[ptr b, .string tx, .agg e.cells, .int .u64 now] w (Does3 n b t (.int .i64 5) w) := by
  have hL := h
  obtain ⟨base, A, cap, m, U, hm, h1, h2, h3, h4⟩ := h
  exact (sent_none hm tx e now hl hf).mono fun r w' hr => hL.does3 hr.1 hr.2
theorem d_sent_there (h : Live n b t w) (ok : t.Ok) (tx : ByteArray) (e : End) (now : Int) (hl : tx.size = 16) {i : Nat} (hf : findI t.l e = some i) {x : Ent} (hx : x ∈ t.pings) (hxt : x.tx = tx) :
    Calls Try.prog 11 #[ptr b, .string tx, .agg e.cells, .int .u64 now] w (Does3 n b t (.int .i64 9) w) := by
  have hL := h
  obtain ⟨base, A, cap, m, U, hm, h1, h2, h3, h4⟩ := h
  exact (sent_there hm ok tx e now hl hf hx hxt).mono fun r w' hr => hL.does3 hr.1 hr.2
theorem d_sent_ok (h : Live n b t w) (ok : t.Ok) (tx : ByteArray) (e : End) (now : Nat) (hl : tx.size = 16) {i : Nat} (hf : findI t.l e = some i) (hno : ∀ x ∈ t.pings, x.tx ≠ tx) :
    Calls Try.prog 11 #[ptr b, .string tx, .agg e.cells, .int .u64 (now : Int)] w (Does3 n b (t.sent tx e now) (.int .i64 0) w) := by
  obtain ⟨base, A, cap, m, U, hm, h1, h2, h3, h4, h5⟩ := h
  refine (sent_ok hm ok tx e now hl hf hno).mono ?_
  rintro r w' ⟨hr, hm', hk⟩
  exact ⟨hr, ⟨base, A, cap, m, U, hm', h1, h2, Nat.le_trans h3 hk.size, h4, h5⟩, hk.below (fun k hk => by subst hk; exact h4) (by omega), keep3 hm hk (fun k hk => .inr (.inl hk))⟩

theorem d_pong_none (h : Live n b t w) (tx : ByteArray) (e : End) (now : Int) (hno : ∀ x ∈ t.pings, x.tx ≠ tx) :
    Calls Try.prog 13 #[ptr b, .string tx, .agg e.cells, .int .u64 now] w (Does3 n b t (.int .i64 5) w) := by
  have hL := h
  obtain ⟨base, A, cap, m, U, hm, h1, h2, h3, h4⟩ := h
  exact (pong_none hm tx e now hno).mono fun r w' hr => hL.does3 hr.1 hr.2
theorem d_pong_end (h : Live n b t w) (ok : t.Ok) (tx : ByteArray) (e : End) (now : Int) {x : Ent} (hx : x ∈ t.pings) (hxt : x.tx = tx) (hxe : x.e.eqb e = false) :
    Calls Try.prog 13 #[ptr b, .string tx, .agg e.cells, .int .u64 now] w (Does3 n b t (.int .i64 250) w) := by
  have hL := h
  obtain ⟨base, A, cap, m, U, hm, h1, h2, h3, h4⟩ := h
  exact (pong_end hm ok tx e now hx hxt hxe).mono fun r w' hr => hL.does3 hr.1 hr.2

theorem d_ponged {base cap m g : Nat} {U : Option Addr} {t' : Tab} {v : Int} {r : Ending} (hm : TM w b base (some ⟨g, 0, none⟩) cap m U t) (h1 : n ≤ b) (h2 : n ≤ base) (h3 : base ≤ w.heap.size) (h4 : n ≤ m) (h5 : ∀ u, U = some u → n ≤ u.block) (hg : n ≤ g)
    (h : Ponged b base cap m g U t' v w r w') : Does3 n b t' (.int .i64 v) w r w' := by
  obtain ⟨hr, hm', hk⟩ := h
  exact ⟨hr, ⟨base, _, cap, m, U, hm', h1, h2, Nat.le_trans h3 hk.size, h4, h5⟩, hk.below (fun k hk => hk.elim (fun e => e ▸ h4) (fun e => e ▸ hg)) (by omega), keep3 hm hk (fun k hk => hk.elim (fun e => .inr (.inl e)) (fun e => .inr (.inr (by rw [e]; rfl))))⟩

theorem d_pong_late (h : Live n b t w) (ok : t.Ok) (tx : ByteArray) (now : Nat) {x : Ent} (hx : x ∈ t.pings) (hxt : x.tx = tx) (hn : now < 18446744073709551616) (hat : x.at_ < 18446744073709551616)
    {i : Nat} (hf : findI t.l x.e = some i) {p : Pth} (hp : t.l[i]? = some p) (hlost : 0 ≤ p.lost ∧ p.lost < 1000) (hlate : t.wait < ago now x.at_) :
    Calls Try.prog 13 #[ptr b, .string tx, .agg x.e.cells, .int .u64 (now : Int)] w (Does3 n b ((t.quiet x.e).setP i { p with lost := p.lost + 1 }) (.int .i64 251) w) := by
  obtain ⟨base, A, cap, m, U, hm, h1, h2, h3, h4, h5⟩ := h
  obtain ⟨g, rfl, hgb, _⟩ := hm.row.at_ hp
  exact (pong_late hm ok tx now hx hxt hn hat hf hp hlost hlate).mono fun r w' hr => d_ponged hm h1 h2 h3 h4 h5 (by omega) hr
theorem d_pong_first (h : Live n b t w) (ok : t.Ok) (tx : ByteArray) (now : Nat) {x : Ent} (hx : x ∈ t.pings) (hxt : x.tx = tx) (hn : now < 18446744073709551616) (hat : x.at_ < 18446744073709551616)
    {i : Nat} (hf : findI t.l x.e = some i) {p : Pth} (hp : t.l[i]? = some p) (hin : ago now x.at_ ≤ t.wait) (hh : p.heard = false) :
    Calls Try.prog 13 #[ptr b, .string tx, .agg x.e.cells, .int .u64 (now : Int)] w (Does3 n b ((t.quiet x.e).setP i { p with x := fU (ago now x.at_), y := 0, heard := true, last := now, lost := 0 }) (.int .i64 0) w) := by
  obtain ⟨base, A, cap, m, U, hm, h1, h2, h3, h4, h5⟩ := h
  obtain ⟨g, rfl, hgb, _⟩ := hm.row.at_ hp
  exact (pong_first hm ok tx now hx hxt hn hat hf hp hin hh).mono fun r w' hr => d_ponged hm h1 h2 h3 h4 h5 (by omega) hr
theorem d_pong_heard (h : Live n b t w) (ok : t.Ok) (tx : ByteArray) (now : Nat) {x : Ent} (hx : x ∈ t.pings) (hxt : x.tx = tx) (hn : now < 18446744073709551616) (hat : x.at_ < 18446744073709551616)
    {i : Nat} (hf : findI t.l x.e = some i) {p : Pth} (hp : t.l[i]? = some p) (hin : ago now x.at_ ≤ t.wait) (hh : p.heard = true) {x' y' : Nat} (hew : Ewma (fU (ago now x.at_)) p.x p.y x' y') :
    Calls Try.prog 13 #[ptr b, .string tx, .agg x.e.cells, .int .u64 (now : Int)] w (Does3 n b ((t.quiet x.e).setP i { p with x := x', y := y', heard := true, last := now, lost := 0 }) (.int .i64 0) w) := by
  obtain ⟨base, A, cap, m, U, hm, h1, h2, h3, h4, h5⟩ := h
  obtain ⟨g, rfl, hgb, _⟩ := hm.row.at_ hp
  exact (pong_heard hm ok tx now hx hxt hn hat hf hp hin hh hew).mono fun r w' hr => d_ponged hm h1 h2 h3 h4 h5 (by omega) hr

theorem d_tidy (h : Live n b t w) (ok : t.Ok) (now : Nat) (hn : now < 18446744073709551616) (hat : ∀ x ∈ t.pings, x.at_ < 18446744073709551616) (hlost : ∀ p ∈ t.l, 0 ≤ p.lost ∧ p.lost < 1000) (hpl : t.pings.length < 1000000) :
    Calls Try.prog 14 #[ptr b, .int .u64 (now : Int)] w (Does3 n b (t.tidy now) (.int .i64 (tidyN t now : Int)) w) := by
  obtain ⟨base, A, cap, m, U, hm, h1, h2, h3, h4, h5⟩ := h
  refine (tidy_any hm ok now hn hat hlost hpl).mono ?_
  rintro r w' ⟨hr, hm', hk⟩
  refine ⟨hr, ⟨base, A, cap, m, U, hm', h1, h2, Nat.le_trans h3 hk.size, h4, h5⟩, hk.below (fun k hk => ?_) (by omega), keep3 hm hk (fun k hk => hk)⟩
  rcases hk with rfl | rfl | hg
  · exact h1
  · exact h4
  · have := (hm.own_lt k hg).1; omega

theorem e_add (h : Live n b t w) (e : End) : Calls Try.prog 9 #[ptr b, .agg e.cells] w (Does3 n b (addT t e).1 (.int .i64 (addT t e).2) w) := by
  unfold addT
  cases hf : findI t.l e with
  | some i => exact d_add_there h e hf
  | none =>
    simp only [Option.isSome_none, Bool.false_eq_true, if_false]
    by_cases hq : t.most ≤ t.l.length
    · rw [if_pos hq]
      exact d_add_full h e hf hq
    · rw [if_neg hq]
      exact d_add_ok h e hf (by omega)

theorem e_sent (h : Live n b t w) (iv : Inv j t) (tx : ByteArray) (e : End) (now : Nat) : Calls Try.prog 11 #[ptr b, .string tx, .agg e.cells, .int .u64 (now : Int)] w (Does3 n b (sentT t tx e now).1 (.int .i64 (sentT t tx e now).2) w) := by
  unfold sentT
  by_cases hl : tx.size ≠ 16
  · rw [if_pos hl]
    exact d_sent_len h tx e now hl
  · rw [if_neg hl]
    have hl2 : tx.size = 16 := by omega
    cases hf : findI t.l e with
    | none => exact d_sent_none h tx e now hl2 hf
    | some i =>
      simp only [Option.isNone_some, Bool.false_eq_true, if_false]
      cases hp : pingOf t tx with
      | some x => exact d_sent_there h iv.ok tx e now hl2 hf (pingOf_some hp).1 (pingOf_some hp).2
      | none => exact d_sent_ok h iv.ok tx e now hl2 hf (pingOf_none hp)

theorem e_pong (h : Live n b t w) (iv : Inv j t) (hj : j ≤ 600) (tx : ByteArray) (e : End) (now : Nat) (hn : now < M64) : Calls Try.prog 13 #[ptr b, .string tx, .agg e.cells, .int .u64 (now : Int)] w (Does3 n b (pongT t tx e now).1 (.int .i64 (pongT t tx e now).2) w) := by
  unfold pongT
  cases hp : pingOf t tx with
  | none => exact d_pong_none h tx e now (pingOf_none hp)
  | some x =>
    obtain ⟨hx, hxt⟩ := pingOf_some hp
    simp only
    cases hxe : x.e.eqb e with
    | false => exact d_pong_end h iv.ok tx e now hx hxt hxe
    | true =>
      obtain rfl := End.eqb_iff.1 hxe
      obtain ⟨i, p, hf, hpi⟩ := iv.ok.findI hx
      have hmem := List.mem_of_getElem? hpi
      have hlost := iv.lost p hmem
      have hat := iv.at_ x hx
      simp only [if_true, hf, hpi]
      unfold pongP
      by_cases hw : t.wait < ago now x.at_
      · rw [if_pos hw]
        exact d_pong_late h iv.ok tx now hx hxt hn hat hf hpi ⟨hlost.1, by omega⟩ hw
      · rw [if_neg hw]
        have hin : ago now x.at_ ≤ t.wait := by omega
        unfold heardP
        cases hh : p.heard with
        | false => exact d_pong_first h iv.ok tx now hx hxt hn hat hf hpi hin hh
        | true =>
          have hr : fU (ago now x.at_) ≤ B j := Nat.le_trans (fU_le (Nat.le_trans hin h.lim.wait1)) (B_le (Nat.zero_le _))
          exact d_pong_heard h iv.ok tx now hx hxt hn hat hf hpi hin hh (ewma_any (by omega) hr (iv.x p hmem) (iv.y p hmem)).1

theorem e_tidy (h : Live n b t w) (iv : Inv j t) (hj : j ≤ 600) (now : Nat) (hn : now < M64) : Calls Try.prog 14 #[ptr b, .int .u64 (now : Int)] w (Does3 n b (t.tidy now) (.int .i64 (tidyN t now : Int)) w) :=
  d_tidy h iv.ok now hn iv.at_ (fun p hp => ⟨(iv.lost p hp).1, by have := (iv.lost p hp).2; omega⟩) (by have := iv.num; omega)

theorem e_best (h : Live n b t w) (iv : Inv j t) (hj : j ≤ 600) (now : Nat) (hn : now < M64) : Calls Try.prog 15 #[ptr b, .int .u64 (now : Int)] w (Does3 n b (t.best now) (bestV t now) w) := by
  have hL := h
  obtain ⟨base, A, cap, m, U, hm, h1, h2, h3, h4, h5⟩ := h
  have hc := hm.row.2
  rcases hc with ⟨e, h0⟩ | ⟨g, cap2, cur, e, hg, hb, hc⟩
  · have hA : A = none := by injection e
    subst hA
    refine (best_empty hm now hn).mono ?_
    rintro r w' ⟨hr, ⟨U', hm', hU⟩, hk⟩
    exact ⟨hr, ⟨base, _, cap, m, U', hm', h1, h2, Nat.le_trans h3 hk.size, h4, fun u hu => Nat.le_trans (by omega) (hU u hu)⟩, hk.below (fun k hk => by subst hk; exact h1) (by omega), keep3 hm hk (fun k hk => .inl hk)⟩
  · have hA : A = some ⟨g, 0, none⟩ := by injection e
    subst hA
    refine (best_any hm (iv.fin (by omega)) now hn).mono ?_
    rintro r w' ⟨hr, ⟨U', hm', hU⟩, hk⟩
    exact ⟨hr, ⟨base, _, cap, m, U', hm', h1, h2, Nat.le_trans h3 hk.size, h4, fun u hu => Nat.le_trans (by omega) (hU u hu)⟩, hk.below (fun k hk => by subst hk; exact h1) (by omega), keep3 hm hk (fun k hk => .inl hk)⟩

theorem e_drop (h : Live n b t w) (iv : Inv j t) (e : End) : Calls Try.prog 16 #[ptr b, .agg e.cells] w (Does3 n b (dropT t e).1 (.int .i64 (dropT t e).2) w) := by
  unfold dropT
  have hL := h
  obtain ⟨base, A, cap, m, U, hm, h1, h2, h3, h4, h5⟩ := h
  cases hf : findI t.l e with
  | none => exact (drop_none hm e hf).mono fun r w' hr => hL.does3 hr.1 hr.2
  | some i =>
    obtain ⟨q, hq, hqe⟩ := findI_mem hf
    obtain ⟨g, rfl, hgb, _⟩ := hm.row.at_ hq
    refine (drop_ok hm iv.ok e hf (iv.one hf)).mono ?_
    rintro r w' ⟨hr, ⟨U', hm', hU⟩, hk⟩
    refine ⟨hr, ⟨base, _, cap, m, U', hm', h1, h2, Nat.le_trans h3 hk.size, h4, fun u hu => ?_⟩, hk.below (fun k hk => ?_) (by omega), keep3 hm hk (fun k hk => hk.elim .inl (fun h => h.elim (fun h => .inr (.inl h)) (fun h => .inr (.inr (by rw [h]; rfl)))))⟩
    · rcases hU with rfl | rfl
      · exact h5 u hu
      · cases hu
    · rcases hk with rfl | rfl | rfl
      · exact h1
      · exact h4
      · omega


theorem d_score (h : Live n b t w) (fin : Fin t) (e : End) (now : Nat) (hn : now < 18446744073709551616) :
    Calls Try.prog 17 #[ptr b, .agg e.cells, .int .u64 (now : Int)] w (Scored n b t (scoreV t e now) w) := by
  have hL := h
  obtain ⟨base, A, cap, m, U, hm, h1, h2, h3, h4⟩ := h
  unfold scoreV
  cases hf : findI t.l e with
  | none => exact (tscore_none hm e now hf).mono fun r w' hr => hL.scored hr.1 hr.2
  | some i =>
    have hlt := (List.findIdx?_eq_some_iff_getElem.1 hf).1
    have hp : t.l[i]? = some t.l[i] := List.getElem?_eq_getElem hlt
    simp only [Option.bind_some, hp]
    generalize t.l[i] = p at hp
    obtain ⟨g, rfl, hgb, _⟩ := hm.row.at_ hp
    have hmem := List.mem_of_getElem? hp
    cases ht : there t p now with
    | false => exact (tscore_no hm e now hn hf hp (fin.last p hmem) ht).mono fun r w' hr => hL.scored hr.1 hr.2
    | true =>
      obtain ⟨mm, q1, q2⟩ := fin.sc p hmem
      exact (tscore_yes hm e now hn hf hp (fin.last p hmem) ht q1 q2).mono fun r w' hr => hL.scored (by simpa using hr.1) hr.2


theorem e_score (h : Live n b t w) (iv : Inv j t) (hj : j ≤ 600) (e : End) (now : Nat) (hn : now < M64) : Calls Try.prog 17 #[ptr b, .agg e.cells, .int .u64 (now : Int)] w (Scored n b t (scoreV t e now) w) :=
  d_score h (iv.fin (by omega)) e now hn
end
end Go.Proofs.Ytbopmcdmahabbaa
