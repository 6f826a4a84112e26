/- One contract for each call, and what it leaves as it was. -/
import Derived.Test.YtbopmcdmahabbaaPcG
namespace Go.Proofs.Ytbopmcdmahabbaa
open Go.RowKit

/- Blocks that are no table's stay. -/
def Stay (b : Nat) (w w' : World) : Prop := ∀ g ty cs, g ≠ b → ty ≠ 53 → Blk w g ty cs → Blk w' g ty cs
def Does3 (n b : Nat) (t' : Tab) (v : Value) (w : World) (r : Ending) (w' : World) : Prop := r = .returned v ∧ Live n b t' w' ∧ Below n w w' ∧ Stay b w w'
def Scored (n b : Nat) (t' : Tab) (v : Value) (w : World) (r : Ending) (w' : World) : Prop := r = .returned v ∧ Live n b t' w' ∧ Below w.heap.size w w'

theorem keep3 {T : Nat → Prop} {w w' : World} {b base cap m : Nat} {A U : Option Addr} {t : Tab} (hm : TM w b base A cap m U t) (hk : Keeps T w w') (hT : ∀ k, T k → TS b m A k) : Stay b w w' := by
  intro g ty cs hg ht hB
  refine hB.keep hk (fun h => ?_)
  rcases hT g h with h | h | h
  · exact hg h
  · subst h
    have h1 := hm.map
    unfold MBlk at h1
    unfold Blk at hB
    rw [hB] at h1
    cases h1
  · obtain ⟨cur, hc⟩ := hm.own_blk h
    unfold Blk at hB
    rw [hB] at hc
    injection hc with hc
    injection hc with _ hc
    exact ht hc

theorem Stay.of_below {b : Nat} {w w' : World} (h : Below w.heap.size w w') : Stay b w w' := fun _ _ _ _ _ hB => hB.below h hB.lt
theorem Stay.trans {b : Nat} {w w' w'' : World} (h : Stay b w w') (k : Stay b w' w'') : Stay b w w'' := fun g ty cs hg ht hB => k g ty cs hg ht (h g ty cs hg ht hB)

section
variable {n b j : Nat} {t : Tab} {w w' : World}
theorem Live.does3 {v : Value} {r : Ending} (h : Live n b t w) (hr : r = .returned v) (hb : Below w.heap.size w w') : Does3 n b t v w r w' := ⟨hr, h.below hb, hb.mono h.size, Stay.of_below hb⟩
theorem Live.scored {v : Value} {r : Ending} (h : Live n b t w) (hr : r = .returned v) (hb : Below w.heap.size w w') : Scored n b t v w r w' := ⟨hr, h.below hb, hb⟩

theorem d_add_there (h : Live n b t w) (e : End) {i : Nat} (hf : findI t.l e = some i) :
    Calls Try.prog 9 #[ptr b, .agg e.cells] w (Does3 n b t (.int .i64 9) w) := by
  have hl := h
  obtain ⟨base, A, cap, m, U, hm, h1, h2, h3, h4⟩ := h
  exact (add_there hm e hf).mono fun r w' hr => hl.does3 hr.1 hr.2
theorem d_add_full (h : Live n b t w) (e : End) (hf : findI t.l e = none) (hq : t.most ≤ t.l.length) :
    Calls Try.prog 9 #[ptr b, .agg e.cells] w (Does3 n b t (.int .i64 6) w) := by
  have hl := h
  obtain ⟨base, A, cap, m, U, hm, h1, h2, h3, h4⟩ := h
  exact (add_full hm e hf hq).mono fun r w' hr => hl.does3 hr.1 hr.2
theorem d_add_ok (h : Live n b t w) (e : End) (hf : findI t.l e = none) (hq : t.l.length < t.most) :
    Calls Try.prog 9 #[ptr b, .agg e.cells] w (Does3 n b (t.add e) (.int .i64 0) w) := by
  obtain ⟨base, A, cap, m, U, hm, h1, h2, h3, h4, h5⟩ := h
  refine (add_ok hm h3 e hf hq).mono ?_
  rintro r w' ⟨hr, ⟨A', cap', hm', hA⟩, hk⟩
  refine ⟨hr, ⟨base, A', cap', m, U, hm', h1, h2, Nat.le_trans h3 hk.size, h4, h5⟩, hk.below (fun k hk => ?_) (by omega), keep3 hm hk (fun k hk => hk)⟩
  · rcases hk with rfl | rfl | hg
    · exact h1
    · exact h4
    · have := (hm.own_lt k hg).1; omega

theorem d_sent_len (h : Live n b t w) (tx : ByteArray) (e : End) (now : Int) (hl : tx.size ≠ 16) :
    Calls Try.prog 11 #[ptr b, .string tx, .agg e.cells, .int .u64 now] w (Does3 n b t (.int .i64 2) w) := by
  have hL := h
  obtain ⟨base, A, cap, m, U, hm, h1, h2, h3, h4⟩ := h
  exact (sent_len hm tx e now hl).mono fun r w' hr => hL.does3 hr.1 hr.2
theorem d_sent_none (h : Live n b t w) (tx : ByteArray) (e : End) (now : Int) (hl : tx.size = 16) (hf : findI t.l e = none) :
    Calls Try.prog 11 #[ptr b, .string tx, .agg e.cells, .int .u64 now] w (Does3 n b t (.int .i64 5) w) := by
  have hL := h
  obtain ⟨base, A, cap, m, U, hm, h1, h2, h3, h4⟩ := h
  exact (sent_none hm tx e now hl hf).mono fun r w' hr => hL.does3 hr.1 hr.2
theorem d_sent_there (h : Live n b t w) (ok : t.Ok) (tx : ByteArray) (e : End) (now : Int) (hl : tx.size = 16) {i : Nat} (hf : findI t.l e = some i) {x : Ent} (hx : x ∈ t.pings) (hxt : x.tx = tx) :
    Calls Try.prog 11 #[ptr b, .string tx, .agg e.cells, .int .u64 now] w (Does3 n b t (.int .i64 9) w) := by
  have hL := h
  obtain ⟨base, A, cap, m, U, hm, h1, h2, h3, h4⟩ := h
  exact (sent_there hm ok tx e now hl hf hx hxt).mono fun r w' hr => hL.does3 hr.1 hr.2
theorem d_sent_ok (h : Live n b t w) (ok : t.Ok) (tx : ByteArray) (e : End) (now : Nat) (hl : tx.size = 16) {i : Nat} (hf : findI t.l e = some i) (hno : ∀ x ∈ t.pings, x.tx ≠ tx) :
    Calls Try.prog 11 #[ptr b, .string tx, .agg e.cells, .int .u64 (now : Int)] w (Does3 n b (t.sent tx e now) (.int .i64 0) w) := by
  obtain ⟨base, A, cap, m, U, hm, h1, h2, h3, h4, h5⟩ := h
  refine (sent_ok hm ok tx e now hl hf hno).mono ?_
  rintro r w' ⟨hr, hm', hk⟩
  exact ⟨hr, ⟨base, A, cap, m, U, hm', h1, h2, Nat.le_trans h3 hk.size, h4, h5⟩, hk.below (fun k hk => by subst hk; exact h4) (by omega), keep3 hm hk (fun k hk => .inr (.inl hk))⟩

theorem d_pong_none (h : Live n b t w) (tx : ByteArray) (e : End) (now : Int) (hno : ∀ x ∈ t.pings, x.tx ≠ tx) :
    Calls Try.prog 13 #[ptr b, .string tx, .agg e.cells, .int .u64 now] w (Does3 n b t (.int .i64 5) w) := by
  have hL := h
  obtain ⟨base, A, cap, m, U, hm, h1, h2, h3, h4⟩ := h
  exact (pong_none hm tx e now hno).mono fun r w' hr => hL.does3 hr.1 hr.2
theorem d_pong_end (h : Live n b t w) (ok : t.Ok) (tx : ByteArray) (e : End) (now : Int) {x : Ent} (hx : x ∈ t.pings) (hxt : x.tx = tx) (hxe : x.e.eqb e = false) :
    Calls Try.prog 13 #[ptr b, .string tx, .agg e.cells, .int .u64 now] w (Does3 n b t (.int .i64 250) w) := by
  have hL := h
  obtain ⟨base, A, cap, m, U, hm, h1, h2, h3, h4⟩ := h
  exact (pong_end hm ok tx e now hx hxt hxe).mono fun r w' hr => hL.does3 hr.1 hr.2

theorem d_ponged {base cap m g : Nat} {U : Option Addr} {t' : Tab} {v : Int} {r : Ending} (hm : TM w b base (some ⟨g, 0, none⟩) cap m U t) (h1 : n ≤ b) (h2 : n ≤ base) (h3 : base ≤ w.heap.size) (h4 : n ≤ m) (h5 : ∀ u, U = some u → n ≤ u.block) (hg : n ≤ g)
    (h : Ponged b base cap m g U t' v w r w') : Does3 n b t' (.int .i64 v) w r w' := by
  obtain ⟨hr, hm', hk⟩ := h
  exact ⟨hr, ⟨base, _, cap, m, U, hm', h1, h2, Nat.le_trans h3 hk.size, h4, h5⟩, hk.below (fun k hk => hk.elim (fun e => e ▸ h4) (fun e => e ▸ hg)) (by omega), keep3 hm hk (fun k hk => hk.elim (fun e => .inr (.inl e)) (fun e => .inr (.inr (by rw [e]; rfl))))⟩

theorem d_pong_late (h : Live n b t w) (ok : t.Ok) (tx : ByteArray) (now : Nat) {x : Ent} (hx : x ∈ t.pings) (hxt : x.tx = tx) (hn : now < 18446744073709551616) (hat : x.at_ < 18446744073709551616)
    {i : Nat} (hf : findI t.l x.e = some i) {p : Pth} (hp : t.l[i]? = some p) (hlost : 0 ≤ p.lost ∧ p.lost < 1000) (hlate : t.wait < ago now x.at_) :
    Calls Try.prog 13 #[ptr b, .string tx, .agg x.e.cells, .int .u64 (now : Int)] w (Does3 n b ((t.quiet x.e).setP i { p with lost := p.lost + 1 }) (.int .i64 251) w) := by
  obtain ⟨base, A, cap, m, U, hm, h1, h2, h3, h4, h5⟩ := h
  obtain ⟨g, rfl, hgb, _⟩ := hm.row.at_ hp
  exact (pong_late hm ok tx now hx hxt hn hat hf hp hlost hlate).mono fun r w' hr => d_ponged hm h1 h2 h3 h4 h5 (by omega) hr
theorem d_pong_first (h : Live n b t w) (ok : t.Ok) (tx : ByteArray) (now : Nat) {x : Ent} (hx : x ∈ t.pings) (hxt : x.tx = tx) (hn : now < 18446744073709551616) (hat : x.at_ < 18446744073709551616)
    {i : Nat} (hf : findI t.l x.e = some i) {p : Pth} (hp : t.l[i]? = some p) (hin : ago now x.at_ ≤ t.wait) (hh : p.heard = false) :
    Calls Try.prog 13 #[ptr b, .string tx, .agg x.e.cells, .int .u64 (now : Int)] w (Does3 n b ((t.quiet x.e).setP i { p with x := fU (ago now x.at_), y := 0, heard := true, last := now, lost := 0 }) (.int .i64 0) w) := by
  obtain ⟨base, A, cap, m, U, hm, h1, h2, h3, h4, h5⟩ := h
  obtain ⟨g, rfl, hgb, _⟩ := hm.row.at_ hp
  exact (pong_first hm ok tx now hx hxt hn hat hf hp hin hh).mono fun r w' hr => d_ponged hm h1 h2 h3 h4 h5 (by omega) hr
theorem d_pong_heard (h : Live n b t w) (ok : t.Ok) (tx : ByteArray) (now : Nat) {x : Ent} (hx : x ∈ t.pings) (hxt : x.tx = tx) (hn : now < 18446744073709551616) (hat : x.at_ < 18446744073709551616)
    {i : Nat} (hf : findI t.l x.e = some i) {p : Pth} (hp : t.l[i]? = some p) (hin : ago now x.at_ ≤ t.wait) (hh : p.heard = true) {x' y' : Nat} (hew : Ewma (fU (ago now x.at_)) p.x p.y x' y') :
    Calls Try.prog 13 #[ptr b, .string tx, .agg x.e.cells, .int .u64 (now : Int)] w (Does3 n b ((t.quiet x.e).setP i { p with x := x', y := y', heard := true, last := now, lost := 0 }) (.int .i64 0) w) := by
  obtain ⟨base, A, cap, m, U, hm, h1, h2, h3, h4, h5⟩ := h
  obtain ⟨g, rfl, hgb, _⟩ := hm.row.at_ hp
  exact (pong_heard hm ok tx now hx hxt hn hat hf hp hin hh hew).mono fun r w' hr => d_ponged hm h1 h2 h3 h4 h5 (by omega) hr

theorem d_tidy (h : Live n b t w) (ok : t.Ok) (now : Nat) (hn : now < 18446744073709551616) (hat : ∀ x ∈ t.pings, x.at_ < 18446744073709551616) (hlost : ∀ p ∈ t.l, 0 ≤ p.lost ∧ p.lost < 1000) (hpl : t.pings.length < 1000000) :
    Calls Try.prog 14 #[ptr b, .int .u64 (now : Int)] w (Does3 n b (t.tidy now) (.int .i64 (tidyN t now : Int)) w) := by
  obtain ⟨base, A, cap, m, U, hm, h1, h2, h3, h4, h5⟩ := h
  refine (tidy_any hm ok now hn hat hlost hpl).mono ?_
  rintro r w' ⟨hr, hm', hk⟩
  refine ⟨hr, ⟨base, A, cap, m, U, hm', h1, h2, Nat.le_trans h3 hk.size, h4, h5⟩, hk.below (fun k hk => ?_) (by omega), keep3 hm hk (fun k hk => hk)⟩
  rcases hk with rfl | rfl | hg
  · exact h1
  · exact h4
  · have := (hm.own_lt k hg).1; omega

theorem e_add (h : Live n b t w) (e : End) : Calls Try.prog 9 #[ptr b, .agg e.cells] w (Does3 n b (addT t e).1 (.int .i64 (addT t e).2) w) := by
  unfold addT
  cases hf : findI t.l e with
  | some i => exact d_add_there h e hf
  | none =>
    simp only [Option.isSome_none, Bool.false_eq_true, if_false]
    by_cases hq : t.most ≤ t.l.length
    · rw [if_pos hq]
      exact d_add_full h e hf hq
    · rw [if_neg hq]
      exact d_add_ok h e hf (by omega)

theorem e_sent (h : Live n b t w) (iv : Inv j t) (tx : ByteArray) (e : End) (now : Nat) : Calls Try.prog 11 #[ptr b, .string tx, .agg e.cells, .int .u64 (now : Int)] w (Does3 n b (sentT t tx e now).1 (.int .i64 (sentT t tx e now).2) w) := by
  unfold sentT
  by_cases hl : tx.size ≠ 16
  · rw [if_pos hl]
    exact d_sent_len h tx e now hl
  · rw [if_neg hl]
    have hl2 : tx.size = 16 := by omega
    cases hf : findI t.l e with
    | none => exact d_sent_none h tx e now hl2 hf
    | some i =>
      simp only [Option.isNone_some, Bool.false_eq_true, if_false]
      cases hp : pingOf t tx with
      | some x => exact d_sent_there h iv.ok tx e now hl2 hf (pingOf_some hp).1 (pingOf_some hp).2
      | none => exact d_sent_ok h iv.ok tx e now hl2 hf (pingOf_none hp)

theorem e_pong (h : Live n b t w) (iv : Inv j t) (hj : j ≤ 600) (tx : ByteArray) (e : End) (now : Nat) (hn : now < M64) : Calls Try.prog 13 #[ptr b, .string tx, .agg e.cells, .int .u64 (now : Int)] w (Does3 n b (pongT t tx e now).1 (.int .i64 (pongT t tx e now).2) w) := by
  unfold pongT
  cases hp : pingOf t tx with
  | none => exact d_pong_none h tx e now (pingOf_none hp)
  | some x =>
    obtain ⟨hx, hxt⟩ := pingOf_some hp
    simp only
    cases hxe : x.e.eqb e with
    | false => exact d_pong_end h iv.ok tx e now hx hxt hxe
    | true =>
      obtain rfl := End.eqb_iff.1 hxe
      obtain ⟨i, p, hf, hpi⟩ := iv.ok.findI hx
      have hmem := List.mem_of_getElem? hpi
      have hlost := iv.lost p hmem
      have hat := iv.at_ x hx
      simp only [if_true, hf, hpi]
      unfold pongP
      by_cases hw : t.wait < ago now x.at_
      · rw [if_pos hw]
        exact d_pong_late h iv.ok tx now hx hxt hn hat hf hpi ⟨hlost.1, by omega⟩ hw
      · rw [if_neg hw]
        have hin : ago now x.at_ ≤ t.wait := by omega
        unfold heardP
        cases hh : p.heard with
        | false => exact d_pong_first h iv.ok tx now hx hxt hn hat hf hpi hin hh
        | true =>
          have hr : fU (ago now x.at_) ≤ B j := Nat.le_trans (fU_le (Nat.le_trans hin h.lim.wait1)) (B_le (Nat.zero_le _))
          exact d_pong_heard h iv.ok tx now hx hxt hn hat hf hpi hin hh (ewma_any (by omega) hr (iv.x p hmem) (iv.y p hmem)).1

theorem e_tidy (h : Live n b t w) (iv : Inv j t) (hj : j ≤ 600) (now : Nat) (hn : now < M64) : Calls Try.prog 14 #[ptr b, .int .u64 (now : Int)] w (Does3 n b (t.tidy now) (.int .i64 (tidyN t now : Int)) w) :=
  d_tidy h iv.ok now hn iv.at_ (fun p hp => ⟨(iv.lost p hp).1, by have := (iv.lost p hp).2; omega⟩) (by have := iv.num; omega)

theorem e_best (h : Live n b t w) (iv : Inv j t) (hj : j ≤ 600) (now : Nat) (hn : now < M64) : Calls Try.prog 15 #[ptr b, .int .u64 (now : Int)] w (Does3 n b (t.best now) (bestV t now) w) := by
  have hL := h
  obtain ⟨base, A, cap, m, U, hm, h1, h2, h3, h4, h5⟩ := h
  have hc := hm.row.2
  rcases hc with ⟨e, h0⟩ | ⟨g, cap2, cur, e, hg, hb, hc⟩
  · have hA : A = none := by injection e
    subst hA
    refine (best_empty hm now hn).mono ?_
    rintro r w' ⟨hr, ⟨U', hm', hU⟩, hk⟩
    exact ⟨hr, ⟨base, _, cap, m, U', hm', h1, h2, Nat.le_trans h3 hk.size, h4, fun u hu => Nat.le_trans (by omega) (hU u hu)⟩, hk.below (fun k hk => by subst hk; exact h1) (by omega), keep3 hm hk (fun k hk => .inl hk)⟩
  · have hA : A = some ⟨g, 0, none⟩ := by injection e
    subst hA
    refine (best_any hm (iv.fin (by omega)) now hn).mono ?_
    rintro r w' ⟨hr, ⟨U', hm', hU⟩, hk⟩
    exact ⟨hr, ⟨base, _, cap, m, U', hm', h1, h2, Nat.le_trans h3 hk.size, h4, fun u hu => Nat.le_trans (by omega) (hU u hu)⟩, hk.below (fun k hk => by subst hk; exact h1) (by omega), keep3 hm hk (fun k hk => .inl hk)⟩

theorem e_drop (h : Live n b t w) (iv : Inv j t) (e : End) : Calls Try.prog 16 #[ptr b, .agg e.cells] w (Does3 n b (dropT t e).1 (.int .i64 (dropT t e).2) w) := by
  unfold dropT
  have hL := h
  obtain ⟨base, A, cap, m, U, hm, h1, h2, h3, h4, h5⟩ := h
  cases hf : findI t.l e with
  | none => exact (drop_none hm e hf).mono fun r w' hr => hL.does3 hr.1 hr.2
  | some i =>
    obtain ⟨q, hq, hqe⟩ := findI_mem hf
    obtain ⟨g, rfl, hgb, _⟩ := hm.row.at_ hq
    refine (drop_ok hm iv.ok e hf (iv.one hf)).mono ?_
    rintro r w' ⟨hr, ⟨U', hm', hU⟩, hk⟩
    refine ⟨hr, ⟨base, _, cap, m, U', hm', h1, h2, Nat.le_trans h3 hk.size, h4, fun u hu => ?_⟩, hk.below (fun k hk => ?_) (by omega), keep3 hm hk (fun k hk => hk.elim .inl (fun h => h.elim (fun h => .inr (.inl h)) (fun h => .inr (.inr (by rw [h]; rfl)))))⟩
    · rcases hU with rfl | rfl
      · exact h5 u hu
      · cases hu
    · rcases hk with rfl | rfl | rfl
      · exact h1
      · exact h4
      · omega


theorem d_score (h : Live n b t w) (fin : Fin t) (e : End) (now : Nat) (hn : now < 18446744073709551616) :
    Calls Try.prog 17 #[ptr b, .agg e.cells, .int .u64 (now : Int)] w (Scored n b t (scoreV t e now) w) := by
  have hL := h
  obtain ⟨base, A, cap, m, U, hm, h1, h2, h3, h4⟩ := h
  unfold scoreV
  cases hf : findI t.l e with
  | none => exact (tscore_none hm e now hf).mono fun r w' hr => hL.scored hr.1 hr.2
  | some i =>
    have hlt := (List.findIdx?_eq_some_iff_getElem.1 hf).1
    have hp : t.l[i]? = some t.l[i] := List.getElem?_eq_getElem hlt
    simp only [Option.bind_some, hp]
    generalize t.l[i] = p at hp
    obtain ⟨g, rfl, hgb, _⟩ := hm.row.at_ hp
    have hmem := List.mem_of_getElem? hp
    cases ht : there t p now with
    | false => exact (tscore_no hm e now hn hf hp (fin.last p hmem) ht).mono fun r w' hr => hL.scored hr.1 hr.2
    | true =>
      obtain ⟨mm, q1, q2⟩ := fin.sc p hmem
      exact (tscore_yes hm e now hn hf hp (fin.last p hmem) ht q1 q2).mono fun r w' hr => hL.scored (by simpa using hr.1) hr.2


theorem e_score (h : Live n b t w) (iv : Inv j t) (hj : j ≤ 600) (e : End) (now : Nat) (hn : now < M64) : Calls Try.prog 17 #[ptr b, .agg e.cells, .int .u64 (now : Int)] w (Scored n b t (scoreV t e now) w) :=
  d_score h (iv.fin (by omega)) e now hn
end
end Go.Proofs.Ytbopmcdmahabbaa
