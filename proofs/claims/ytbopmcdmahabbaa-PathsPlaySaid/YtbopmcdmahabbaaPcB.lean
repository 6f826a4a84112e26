/- Drop: DeleteFunc, its rows. -/
import Derived.Test.YtbopmcdmahabbaaPcA
import Derived.Laws.IdiomCopy
namespace Go.Proofs.Ytbopmcdmahabbaa
open Go.RowKit

/- The row behind so many shifts. -/
def LL (l : List Pth) (k i : Nat) : List Pth := (l.eraseIdx k).take i ++ l.drop i

theorem LL_at (l : List Pth) (k i r : Nat) (hi : i < l.length) (hk : k ≤ i) : (LL l k i)[r]? = if k ≤ r ∧ r < i then l[r + 1]? else l[r]? := by
  have hel : k < l.length := by omega
  have hlen : ((l.eraseIdx k).take i).length = i := by
    rw [List.length_take, List.length_eraseIdx]
    simp [hel]
    omega
  unfold LL
  rcases Nat.lt_or_ge r i with h | h
  · rw [List.getElem?_append_left (by omega), List.getElem?_take, if_pos h, List.getElem?_eraseIdx]
    by_cases h2 : r < k
    · rw [if_pos h2, if_neg (by omega)]
    · rw [if_neg h2, if_pos (by omega)]
  · rw [List.getElem?_append_right (by omega), hlen, List.getElem?_drop, if_neg (by omega)]
    congr 1
    omega

theorem LL_len (l : List Pth) (k i : Nat) (hi : i < l.length) (hk : k ≤ i) : (LL l k i).length = l.length := by
  have hel : k < l.length := by omega
  unfold LL
  rw [List.length_append, List.length_take, List.length_eraseIdx, List.length_drop]
  simp [hel]
  omega

theorem LL_start (l : List Pth) (k : Nat) (hk : k < l.length) : LL l k k = l := by
  refine List.ext_getElem? fun r => ?_
  rw [LL_at l k k r hk (Nat.le_refl _), if_neg (by omega)]

theorem LL_step (l : List Pth) (k i : Nat) {p : Pth} (hi : i + 1 < l.length) (hk : k ≤ i) (hp : l[i + 1]? = some p) : (LL l k i).set i p = LL l k (i + 1) := by
  refine List.ext_getElem? fun r => ?_
  rw [LL_at l k (i + 1) r hi (by omega)]
  by_cases h : i = r
  · subst h
    rw [List.getElem?_set_self (by rw [LL_len l k i (by omega) hk]; omega), if_pos (by omega), hp]
  · rw [List.getElem?_set_ne h, LL_at l k i r (by omega) hk]
    by_cases h2 : k ≤ r ∧ r < i
    · rw [if_pos h2, if_pos (by omega)]
    · rw [if_neg h2, if_neg (by omega)]

theorem LL_end (l : List Pth) (k : Nat) (hk : k < l.length) : (LL l k (l.length - 1)).take (l.length - 1) = l.eraseIdx k := by
  unfold LL
  have h1 : (l.eraseIdx k).length = l.length - 1 := by rw [List.length_eraseIdx]; simp [hk]
  rw [List.take_of_length_le (l := l.eraseIdx k) (by omega), List.take_left' h1]

theorem pcells_take (l : List Pth) (n : Nat) : pcells (l.take n) = (pcells l).take (n * 8) := by
  induction l generalizing n with
  | nil => simp [pcells]
  | cons p l ih =>
    cases n with
    | zero => simp [pcells]
    | succ n =>
      have e : pcells (p :: l) = p.cells.toList ++ pcells l := rfl
      have e2 : pcells ((p :: l).take (n + 1)) = p.cells.toList ++ pcells (l.take n) := rfl
      have hl : p.cells.toList.length = 8 := rfl
      rw [e, e2, ih, show (n + 1) * 8 = p.cells.toList.length + n * 8 by omega, List.take_length_add_append]

/- A row's head is a row. -/
theorem PRow.head {w : World} {base g cap : Nat} {l : List Pth} (h : PRow w base (some ⟨g, 0, none⟩) cap l) (n : Nat) (hn : n ≤ l.length) : PRow w base (some ⟨g, 0, none⟩) cap (l.take n) := by
  obtain ⟨h1, h2⟩ := h
  have hl : (l.take n).length = n := by rw [List.length_take]; omega
  refine ⟨pcells_length _, ?_⟩
  rcases h2 with ⟨e, _⟩ | ⟨g', cap', cur, e, hb, hh, hc1, hc2, hc3, hc4⟩
  · cases e
  · have hg : g = g' := by injection e with e; injection e with e; injection e
    have hc : cap = cap' := by injection e
    subst hg hc
    refine .inr ⟨g, cap, cur, rfl, hb, hh, by omega, hc2, hc3, ?_⟩
    rw [pcells_take, ← hc4, List.take_take, hl]
    congr 1
    omega

/- What is written behind a row leaves it. -/
theorem PRow.behind {w : World} {base g cap : Nat} {l : List Pth} (h : PRow w base (some ⟨g, 0, none⟩) cap l) (j : Nat) (hj : l.length * 8 ≤ j) (v : Value) : PRow (w.setCell ⟨g, j, none⟩ v) base (some ⟨g, 0, none⟩) cap l := by
  have hs := (World.ownsRow.stored h j v).1
  have hl := pcells_length l
  rw [List.set_eq_of_length_le (by omega)] at hs
  exact hs

theorem PRow.behinds {base g cap : Nat} {l : List Pth} (vs : List Value) : ∀ (w : World) (j : Nat), PRow w base (some ⟨g, 0, none⟩) cap l → l.length * 8 ≤ j → PRow (w.setCells g j vs) base (some ⟨g, 0, none⟩) cap l := by
  induction vs with
  | nil => intro w j h _; exact h
  | cons v vs ih => intro w j h hj; exact ih _ _ (h.behind j hj v) (by omega)

theorem Keeps.setCells {g : Nat} {w0 : World} (vs : List Value) : ∀ (w : World) (j : Nat), Keeps (fun k => k = g) w0 w → Keeps (fun k => k = g) w0 (w.setCells g j vs) := by
  induction vs with
  | nil => intro w j h; exact h
  | cons v vs ih => intro w j h; exact ih _ _ (h.setCell (p := ⟨g, j, none⟩) (.inl rfl) v)

/- One path laid over another one. -/
def setP8 (w : World) (g i : Nat) (p : Pth) : World :=
  (((((((w.setCell ⟨g, i * 8, none⟩ (.bool p.e.v6)).setCell ⟨g, i * 8 + 1, none⟩ (.int .u64 (p.e.hi : Int))).setCell ⟨g, i * 8 + 2, none⟩ (.int .u64 (p.e.lo : Int))).setCell ⟨g, i * 8 + 3, none⟩ (.int .u16 (p.e.port : Int))).setCell ⟨g, i * 8 + 4, none⟩ (.complex .f64 p.x p.y)).setCell ⟨g, i * 8 + 5, none⟩ (.bool p.heard)).setCell ⟨g, i * 8 + 6, none⟩ (.int .u64 (p.last : Int))).setCell ⟨g, i * 8 + 7, none⟩ (.int .i64 p.lost)

theorem PRow.setOne {w : World} {base g cap : Nat} {l : List Pth} (h : PRow w base (some ⟨g, 0, none⟩) cap l) {i j : Nat} {p p' : Pth} {v : Value} (hi : l[i]? = some p) (hj : j < 8) (hp : p'.cells = p.cells.setIfInBounds j v) : PRow (w.setCell ⟨g, i * 8 + j, none⟩ v) base (some ⟨g, 0, none⟩) cap (l.set i p') := by
  have hst := (World.ownsRow.stored h (i * 8 + j) v).1
  unfold PRow
  rw [← pcells_set l i j p p' v hi hj hp]
  simpa using hst

theorem PRow.set8 {w : World} {base g cap : Nat} {l : List Pth} (h : PRow w base (some ⟨g, 0, none⟩) cap l) {i : Nat} (hi : i < l.length) (p : Pth) : PRow (setP8 w g i p) base (some ⟨g, 0, none⟩) cap (l.set i p) := by
  obtain ⟨q, hq⟩ : ∃ q, l[i]? = some q := ⟨l[i], List.getElem?_eq_getElem hi⟩
  have a0 := h.setOne (i := i) (j := 0) (p := q) (p' := { q with e := { q.e with v6 := p.e.v6 } }) (v := .bool p.e.v6) hq (by omega) rfl
  have a1 := a0.setOne (i := i) (j := 1) (p' := { q with e := { q.e with v6 := p.e.v6, hi := p.e.hi } }) (v := .int .u64 (p.e.hi : Int)) (List.getElem?_set_self hi) (by omega) rfl
  simp only [List.set_set] at a1
  have a2 := a1.setOne (i := i) (j := 2) (p' := { q with e := { q.e with v6 := p.e.v6, hi := p.e.hi, lo := p.e.lo } }) (v := .int .u64 (p.e.lo : Int)) (List.getElem?_set_self hi) (by omega) rfl
  simp only [List.set_set] at a2
  have a3 := a2.setOne (i := i) (j := 3) (p' := { q with e := p.e }) (v := .int .u16 (p.e.port : Int)) (List.getElem?_set_self hi) (by omega) rfl
  simp only [List.set_set] at a3
  have a4 := a3.setOne (i := i) (j := 4) (p' := { q with e := p.e, x := p.x, y := p.y }) (v := .complex .f64 p.x p.y) (List.getElem?_set_self hi) (by omega) rfl
  simp only [List.set_set] at a4
  have a5 := a4.setOne (i := i) (j := 5) (p' := { q with e := p.e, x := p.x, y := p.y, heard := p.heard }) (v := .bool p.heard) (List.getElem?_set_self hi) (by omega) rfl
  simp only [List.set_set] at a5
  have a6 := a5.setOne (i := i) (j := 6) (p' := { q with e := p.e, x := p.x, y := p.y, heard := p.heard, last := p.last }) (v := .int .u64 (p.last : Int)) (List.getElem?_set_self hi) (by omega) rfl
  simp only [List.set_set] at a6
  have a7 := a6.setOne (i := i) (j := 7) (p' := p) (v := .int .i64 p.lost) (List.getElem?_set_self hi) (by omega) rfl
  simp only [List.set_set] at a7
  exact a7

theorem Keeps.set8 {g : Nat} {w0 w : World} (h : Keeps (fun k => k = g) w0 w) (i : Nat) (p : Pth) : Keeps (fun k => k = g) w0 (setP8 w g i p) :=
  (((((((h.setCell (.inl rfl) _).setCell (.inl rfl) _).setCell (.inl rfl) _).setCell (.inl rfl) _).setCell (.inl rfl) _).setCell (.inl rfl) _).setCell (.inl rfl) _).setCell (.inl rfl) _

def zero53 : List Value := [.bool false, .int .u64 0, .int .u64 0, .int .u16 0, .complex .f64 0 0, .bool false, .int .u64 0, .int .i64 0]

theorem zeroV53 (w : World) : (zeroValue 53).run Try.prog w = .ok (.agg #[.bool false, .int .u64 0, .int .u64 0, .int .u16 0, .complex .f64 0 0, .bool false, .int .u64 0, .int .i64 0]) w := by kernel_rfl

theorem zc53 : (Builtin.zeroCells #[.bool false, .int .u64 0, .int .u64 0, .int .u16 0, .complex .f64 0 0, .bool false, .int .u64 0, .int .i64 0] 1).toList = zero53 := by kernel_rfl

/- 'clear' of the one path at a row's end. -/
theorem clear_one (ty : TypeId) (w : World) {base g cap : Nat} {l : List Pth} (h : PRow w base (some ⟨g, 0, none⟩) cap l) (n c : Nat) (hn : n + 1 = l.length) :
    (Builtin.clear_ #[49] ty #[.slice (some ⟨g, n * 8, none⟩) 1 c]).run Try.prog w = .ok (.tuple #[]) (w.setCells g (n * 8) zero53) := by
  have hst := run_storeCells_cells (P := Try.prog) g (n * 8) zero53 0 w (fun j hj => ?_) (fun j hj => ?_) (by intro v hv; simp [zero53] at hv; rcases hv with rfl | rfl | rfl | rfl | rfl | rfl | rfl <;> rfl)
  · simp only [Nat.add_zero] at hst
    have hv := zeroV53
    have hz := zc53
    simp [Builtin.clear_, run_underlying Try.underlying49, hv, Value.cells, hz, hst]
  · obtain ⟨p, hp⟩ : ∃ p, l[n]? = some p := ⟨l[n], List.getElem?_eq_getElem (by omega)⟩
    obtain ⟨g', hg', _, _, hc⟩ := h.at_ hp
    obtain rfl : g = g' := by injection hg' with hg'; injection hg'
    have hj8 : j < 8 := hj
    rw [Nat.add_zero, hc j hj8, Array.getElem?_eq_getElem (show j < p.cells.size from hj8)]
    rfl
  · rw [Nat.add_zero]
    exact World.ownsRow.frozenAt h _

end Go.Proofs.Ytbopmcdmahabbaa
