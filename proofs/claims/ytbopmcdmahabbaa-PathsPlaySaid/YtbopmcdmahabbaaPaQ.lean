/- A table that lives, its places hidden: one contract for every call. -/
import Derived.Test.YtbopmcdmahabbaaPaP
namespace Go.Proofs.Ytbopmcdmahabbaa
open Go.RowKit

/- All blocks of the table lie at n or behind it. -/
def Live (n b : Nat) (t : Tab) (w : World) : Prop :=
  ∃ (base : Nat) (A : Option Addr) (cap m : Nat) (U : Option Addr), TM w b base A cap m U t ∧ n ≤ b ∧ n ≤ base ∧ base ≤ w.heap.size ∧ n ≤ m ∧ ∀ u, U = some u → n ≤ u.block

def Does (n b : Nat) (t' : Tab) (v : Value) (w : World) (r : Ending) (w' : World) : Prop := r = .returned v ∧ Live n b t' w' ∧ Below n w w'

abbrev ptr (b : Nat) : Value := .pointer (some ⟨b, 0, none⟩)

section
variable {n b : Nat} {t : Tab} {w w' : World}

theorem Live.size (h : Live n b t w) : n ≤ w.heap.size := by
  obtain ⟨base, A, cap, m, U, hm, h1, h2, h3, _⟩ := h
  omega
theorem Live.blt (h : Live n b t w) : b < w.heap.size := by
  obtain ⟨base, A, cap, m, U, hm, h1, h2, h3, _⟩ := h
  exact hm.blk.lt
theorem Live.below (h : Live n b t w) (hb : Below w.heap.size w w') : Live n b t w' := by
  obtain ⟨base, A, cap, m, U, hm, h1, h2, h3, h4⟩ := h
  exact ⟨base, A, cap, m, U, hm.below hb, h1, h2, Nat.le_trans h3 hb.size, h4⟩
theorem Live.drewN (h : Live n b t w) (k : Nat) : Live n b t (w.drewN k) := by
  obtain ⟨base, A, cap, m, U, hm, h1, h2, h3, h4⟩ := h
  exact ⟨base, A, cap, m, U, hm.drewN k, h1, h2, h3, h4⟩
theorem Live.does {v : Value} {r : Ending} (h : Live n b t w) (hr : r = .returned v) (hb : Below w.heap.size w w') : Does n b t v w r w' := ⟨hr, h.below hb, hb.mono h.size⟩
theorem Live.lim (h : Live n b t w) : t.Lim := by
  obtain ⟨base, A, cap, m, U, hm, h1, h2, h3, h4⟩ := h
  exact hm.lim

theorem live_new (wait life losses most : Nat) (w : World) (h : okLim wait life losses most) :
    Calls Try.prog 7 #[limVal wait life losses most] w fun e w' => e = .returned (.tuple #[ptr (w.heap.size + 2), .int .i64 0]) ∧ Live w.heap.size (w.heap.size + 2) (Tab.new wait life losses most) w' ∧ Below w.heap.size w w' := by
  refine (tnew_yes wait life losses most w h).mono ?_
  rintro r w' ⟨h1, h2, h3⟩
  exact ⟨h1, ⟨_, _, _, _, _, h2, by omega, h3.size, Nat.le_refl _, by omega, by simp⟩, h3⟩

theorem live_add_there (h : Live n b t w) (e : End) {i : Nat} (hf : findI t.l e = some i) :
    Calls Try.prog 9 #[ptr b, .agg e.cells] w (Does n b t (.int .i64 9) w) := by
  have hl := h
  obtain ⟨base, A, cap, m, U, hm, h1, h2, h3, h4⟩ := h
  exact (add_there hm e hf).mono fun r w' hr => hl.does hr.1 hr.2
theorem live_add_full (h : Live n b t w) (e : End) (hf : findI t.l e = none) (hq : t.most ≤ t.l.length) :
    Calls Try.prog 9 #[ptr b, .agg e.cells] w (Does n b t (.int .i64 6) w) := by
  have hl := h
  obtain ⟨base, A, cap, m, U, hm, h1, h2, h3, h4⟩ := h
  exact (add_full hm e hf hq).mono fun r w' hr => hl.does hr.1 hr.2
theorem live_add_ok (h : Live n b t w) (e : End) (hf : findI t.l e = none) (hq : t.l.length < t.most) :
    Calls Try.prog 9 #[ptr b, .agg e.cells] w (Does n b (t.add e) (.int .i64 0) w) := by
  obtain ⟨base, A, cap, m, U, hm, h1, h2, h3, h4, h5⟩ := h
  refine (add_ok hm h3 e hf hq).mono ?_
  rintro r w' ⟨hr, ⟨A', cap', hm', hA⟩, hk⟩
  refine ⟨hr, ⟨base, A', cap', m, U, hm', h1, h2, Nat.le_trans h3 hk.size, h4, h5⟩, hk.below (fun k hk => ?_) (by omega)⟩
  rcases hk with rfl | rfl | hg
  · exact h1
  · exact h4
  · have := (hm.own_lt k hg).1; omega

theorem live_sent_len (h : Live n b t w) (tx : ByteArray) (e : End) (now : Int) (hl : tx.size ≠ 16) :
    Calls Try.prog 11 #[ptr b, .string tx, .agg e.cells, .int .u64 now] w (Does n b t (.int .i64 2) w) := by
  have hL := h
  obtain ⟨base, A, cap, m, U, hm, h1, h2, h3, h4⟩ := h
  exact (sent_len hm tx e now hl).mono fun r w' hr => hL.does hr.1 hr.2
theorem live_sent_none (h : Live n b t w) (tx : ByteArray) (e : End) (now : Int) (hl : tx.size = 16) (hf : findI t.l e = none) :
    Calls Try.prog 11 #[ptr b, .string tx, .agg e.cells, .int .u64 now] w (Does n b t (.int .i64 5) w) := by
  have hL := h
  obtain ⟨base, A, cap, m, U, hm, h1, h2, h3, h4⟩ := h
  exact (sent_none hm tx e now hl hf).mono fun r w' hr => hL.does hr.1 hr.2
theorem live_sent_there (h : Live n b t w) (ok : t.Ok) (tx : ByteArray) (e : End) (now : Int) (hl : tx.size = 16) {i : Nat} (hf : findI t.l e = some i) {x : Ent} (hx : x ∈ t.pings) (hxt : x.tx = tx) :
    Calls Try.prog 11 #[ptr b, .string tx, .agg e.cells, .int .u64 now] w (Does n b t (.int .i64 9) w) := by
  have hL := h
  obtain ⟨base, A, cap, m, U, hm, h1, h2, h3, h4⟩ := h
  exact (sent_there hm ok tx e now hl hf hx hxt).mono fun r w' hr => hL.does hr.1 hr.2
theorem live_sent_ok (h : Live n b t w) (ok : t.Ok) (tx : ByteArray) (e : End) (now : Nat) (hl : tx.size = 16) {i : Nat} (hf : findI t.l e = some i) (hno : ∀ x ∈ t.pings, x.tx ≠ tx) :
    Calls Try.prog 11 #[ptr b, .string tx, .agg e.cells, .int .u64 (now : Int)] w (Does n b (t.sent tx e now) (.int .i64 0) w) := by
  obtain ⟨base, A, cap, m, U, hm, h1, h2, h3, h4, h5⟩ := h
  refine (sent_ok hm ok tx e now hl hf hno).mono ?_
  rintro r w' ⟨hr, hm', hk⟩
  exact ⟨hr, ⟨base, A, cap, m, U, hm', h1, h2, Nat.le_trans h3 hk.size, h4, h5⟩, hk.below (fun k hk => by subst hk; exact h4) (by omega)⟩

theorem live_pong_none (h : Live n b t w) (tx : ByteArray) (e : End) (now : Int) (hno : ∀ x ∈ t.pings, x.tx ≠ tx) :
    Calls Try.prog 13 #[ptr b, .string tx, .agg e.cells, .int .u64 now] w (Does n b t (.int .i64 5) w) := by
  have hL := h
  obtain ⟨base, A, cap, m, U, hm, h1, h2, h3, h4⟩ := h
  exact (pong_none hm tx e now hno).mono fun r w' hr => hL.does hr.1 hr.2
theorem live_pong_end (h : Live n b t w) (ok : t.Ok) (tx : ByteArray) (e : End) (now : Int) {x : Ent} (hx : x ∈ t.pings) (hxt : x.tx = tx) (hxe : x.e.eqb e = false) :
    Calls Try.prog 13 #[ptr b, .string tx, .agg e.cells, .int .u64 now] w (Does n b t (.int .i64 250) w) := by
  have hL := h
  obtain ⟨base, A, cap, m, U, hm, h1, h2, h3, h4⟩ := h
  exact (pong_end hm ok tx e now hx hxt hxe).mono fun r w' hr => hL.does hr.1 hr.2

theorem live_ponged {base cap m g : Nat} {U : Option Addr} {t' : Tab} {v : Int} {r : Ending} (h1 : n ≤ b) (h2 : n ≤ base) (h3 : base ≤ w.heap.size) (h4 : n ≤ m) (h5 : ∀ u, U = some u → n ≤ u.block) (hg : n ≤ g)
    (h : Ponged b base cap m g U t' v w r w') : Does n b t' (.int .i64 v) w r w' := by
  obtain ⟨hr, hm', hk⟩ := h
  exact ⟨hr, ⟨base, _, cap, m, U, hm', h1, h2, Nat.le_trans h3 hk.size, h4, h5⟩, hk.below (fun k hk => hk.elim (fun e => e ▸ h4) (fun e => e ▸ hg)) (by omega)⟩

theorem live_pong_late (h : Live n b t w) (ok : t.Ok) (tx : ByteArray) (now : Nat) {x : Ent} (hx : x ∈ t.pings) (hxt : x.tx = tx) (hn : now < 18446744073709551616) (hat : x.at_ < 18446744073709551616)
    {i : Nat} (hf : findI t.l x.e = some i) {p : Pth} (hp : t.l[i]? = some p) (hlost : 0 ≤ p.lost ∧ p.lost < 1000) (hlate : t.wait < ago now x.at_) :
    Calls Try.prog 13 #[ptr b, .string tx, .agg x.e.cells, .int .u64 (now : Int)] w (Does n b ((t.quiet x.e).setP i { p with lost := p.lost + 1 }) (.int .i64 251) w) := by
  obtain ⟨base, A, cap, m, U, hm, h1, h2, h3, h4, h5⟩ := h
  obtain ⟨g, rfl, hgb, _⟩ := hm.row.at_ hp
  exact (pong_late hm ok tx now hx hxt hn hat hf hp hlost hlate).mono fun r w' hr => live_ponged h1 h2 h3 h4 h5 (by omega) hr
theorem live_pong_first (h : Live n b t w) (ok : t.Ok) (tx : ByteArray) (now : Nat) {x : Ent} (hx : x ∈ t.pings) (hxt : x.tx = tx) (hn : now < 18446744073709551616) (hat : x.at_ < 18446744073709551616)
    {i : Nat} (hf : findI t.l x.e = some i) {p : Pth} (hp : t.l[i]? = some p) (hin : ago now x.at_ ≤ t.wait) (hh : p.heard = false) :
    Calls Try.prog 13 #[ptr b, .string tx, .agg x.e.cells, .int .u64 (now : Int)] w (Does n b ((t.quiet x.e).setP i { p with x := fU (ago now x.at_), y := 0, heard := true, last := now, lost := 0 }) (.int .i64 0) w) := by
  obtain ⟨base, A, cap, m, U, hm, h1, h2, h3, h4, h5⟩ := h
  obtain ⟨g, rfl, hgb, _⟩ := hm.row.at_ hp
  exact (pong_first hm ok tx now hx hxt hn hat hf hp hin hh).mono fun r w' hr => live_ponged h1 h2 h3 h4 h5 (by omega) hr
theorem live_pong_heard (h : Live n b t w) (ok : t.Ok) (tx : ByteArray) (now : Nat) {x : Ent} (hx : x ∈ t.pings) (hxt : x.tx = tx) (hn : now < 18446744073709551616) (hat : x.at_ < 18446744073709551616)
    {i : Nat} (hf : findI t.l x.e = some i) {p : Pth} (hp : t.l[i]? = some p) (hin : ago now x.at_ ≤ t.wait) (hh : p.heard = true) {x' y' : Nat} (hew : Ewma (fU (ago now x.at_)) p.x p.y x' y') :
    Calls Try.prog 13 #[ptr b, .string tx, .agg x.e.cells, .int .u64 (now : Int)] w (Does n b ((t.quiet x.e).setP i { p with x := x', y := y', heard := true, last := now, lost := 0 }) (.int .i64 0) w) := by
  obtain ⟨base, A, cap, m, U, hm, h1, h2, h3, h4, h5⟩ := h
  obtain ⟨g, rfl, hgb, _⟩ := hm.row.at_ hp
  exact (pong_heard hm ok tx now hx hxt hn hat hf hp hin hh hew).mono fun r w' hr => live_ponged h1 h2 h3 h4 h5 (by omega) hr

/- What Score answers. -/
def scoreV (t : Tab) (e : End) (now : Nat) : Value :=
  match (findI t.l e).bind fun i => t.l[i]? with
  | none => .tuple #[.float .f64 0, .bool false]
  | some p => .tuple #[.float .f64 (if there t p now then sc p else 0), .bool (there t p now)]

theorem live_score (h : Live n b t w) (fin : Fin t) (e : End) (now : Nat) (hn : now < 18446744073709551616) :
    Calls Try.prog 17 #[ptr b, .agg e.cells, .int .u64 (now : Int)] w (Does n b t (scoreV t e now) w) := by
  have hL := h
  obtain ⟨base, A, cap, m, U, hm, h1, h2, h3, h4⟩ := h
  unfold scoreV
  cases hf : findI t.l e with
  | none => exact (tscore_none hm e now hf).mono fun r w' hr => hL.does hr.1 hr.2
  | some i =>
    have hlt := (List.findIdx?_eq_some_iff_getElem.1 hf).1
    have hp : t.l[i]? = some t.l[i] := List.getElem?_eq_getElem hlt
    simp only [Option.bind_some, hp]
    generalize t.l[i] = p at hp
    obtain ⟨g, rfl, hgb, _⟩ := hm.row.at_ hp
    have hmem := List.mem_of_getElem? hp
    cases ht : there t p now with
    | false => exact (tscore_no hm e now hn hf hp (fin.last p hmem) ht).mono fun r w' hr => hL.does hr.1 hr.2
    | true =>
      obtain ⟨mm, q1, q2⟩ := fin.sc p hmem
      exact (tscore_yes hm e now hn hf hp (fin.last p hmem) ht q1 q2).mono fun r w' hr => hL.does (by simpa using hr.1) hr.2

theorem live_best (h : Live n b t w) (fin : Fin t) (now : Nat) (hn : now < 18446744073709551616) (hne : t.l ≠ []) :
    Calls Try.prog 15 #[ptr b, .int .u64 (now : Int)] w (Does n b (t.best now) (bestV t now) w) := by
  obtain ⟨base, A, cap, m, U, hm, h1, h2, h3, h4, h5⟩ := h
  have hp : t.l[0]? = some (t.l[0]'(List.length_pos_iff.2 hne)) := List.getElem?_eq_getElem _
  obtain ⟨g, rfl, hgb, _⟩ := hm.row.at_ hp
  refine (best_any hm fin now hn).mono ?_
  rintro r w' ⟨hr, ⟨U', hm', hU⟩, hk⟩
  exact ⟨hr, ⟨base, _, cap, m, U', hm', h1, h2, Nat.le_trans h3 hk.size, h4, fun u hu => Nat.le_trans (by omega) (hU u hu)⟩, hk.below (fun k hk => by subst hk; exact h1) (by omega)⟩

end

end Go.Proofs.Ytbopmcdmahabbaa
