/- The document's table: its paths as cells, its rows, the table in memory. -/
import Derived.Test.YtbopmcdmahabbaaPcJ
namespace Go.Proofs.Ytbopmcdmahabbaa
open Go.RowKit

structure RPth where
  p : Pth
  waits : Bool
  tx : ByteArray
  at_ : Nat

def RPth.cells (q : RPth) : Array Value := #[.bool q.p.e.v6, .int .u64 (q.p.e.hi : Int), .int .u64 (q.p.e.lo : Int), .int .u16 (q.p.e.port : Int), .float .f64 q.p.x, .float .f64 q.p.y, .bool q.p.heard, .int .u64 (q.p.last : Int), .int .i64 q.p.lost, .bool q.waits, .string q.tx, .int .u64 (q.at_ : Int)]

def rcells (l : List RPth) : List Value := l.flatMap fun p => p.cells.toList

theorem rcells_length (l : List RPth) : (rcells l).length = l.length * 12 := by
  induction l with
  | nil => rfl
  | cons p l ih =>
    have e : rcells (p :: l) = p.cells.toList ++ rcells l := rfl
    rw [e, List.length_append, ih, List.length_cons]
    have : p.cells.toList.length = 12 := rfl
    omega

theorem rcells_at (l : List RPth) : ∀ (i j : Nat) (p : RPth), l[i]? = some p → j < 12 → (rcells l)[i * 12 + j]? = p.cells[j]? := by
  induction l with
  | nil => intro i j p h; simp at h
  | cons q l ih =>
    intro i j p h hj
    have e : rcells (q :: l) = q.cells.toList ++ rcells l := rfl
    have hl : q.cells.toList.length = 12 := rfl
    rw [e]
    cases i with
    | zero =>
      simp at h
      subst h
      rw [List.getElem?_append_left (by omega)]
      simp
    | succ i =>
      rw [List.getElem?_append_right (by omega), hl, show (i + 1) * 12 + j - 12 = i * 12 + j by omega]
      exact ih i j p (by simpa using h) hj

/- The row of the document's paths, owned from block base on. -/
def RRow (w : World) (base : Nat) (A : Option Addr) (cap : Nat) (l : List RPth) : Prop := w.ownsRow base 90 12 (.slice A l.length cap) l.length (rcells l)

theorem RRow.at_ {w : World} {base : Nat} {A : Option Addr} {cap : Nat} {l : List RPth} (h : RRow w base A cap l) {i : Nat} {p : RPth} (hi : l[i]? = some p) :
    ∃ g, A = some ⟨g, 0, none⟩ ∧ base ≤ g ∧ g < w.heap.size ∧ ∀ j, j < 12 → w.cell? ⟨g, i * 12 + j, none⟩ = p.cells[j]? := by
  have hlt : i < l.length := by
    rcases Nat.lt_or_ge i l.length with h1 | h1
    · exact h1
    · rw [List.getElem?_eq_none h1] at hi; cases hi
  obtain ⟨g, cap', hv, hb, hg⟩ := World.ownsRow.form h (by omega)
  have hA : A = some ⟨g, 0, none⟩ := by injection hv
  refine ⟨g, hA, hb, hg, fun j hj => ?_⟩
  subst hA
  have hp := rcells_at l i j p hi hj
  have hs : p.cells[j]? = some (p.cells[j]'hj) := Array.getElem?_eq_getElem hj
  have hc := World.ownsRow.cells h (g := g) rfl (i * 12 + j) _ (hp.trans hs)
  have e : (⟨g, 0, none⟩ : Addr).add (i * 12 + j) = ⟨g, i * 12 + j, none⟩ := by unfold Addr.add; split <;> simp_all
  rw [e] at hc
  rw [hc, hs]

theorem RRow.below {w w' : World} {base : Nat} {A : Option Addr} {cap : Nat} {l : List RPth} (h : RRow w base A cap l) (hb : Below w.heap.size w w') : RRow w' base A cap l := by
  unfold RRow at h ⊢
  obtain ⟨h1, h2⟩ := h
  refine ⟨h1, ?_⟩
  rcases h2 with h2 | ⟨g, cap, cur, hv, hg, hh, r⟩
  · exact .inl h2
  · refine .inr ⟨g, cap, cur, hv, hg, ?_, r⟩
    have hlt : g < w.heap.size := by
      rcases Nat.lt_or_ge g w.heap.size with hlt | hge
      · exact hlt
      · rw [Array.getElem?_eq_none hge] at hh; cases hh
    rw [hb.block g hlt]
    exact hh

theorem RRow.keep {S : Nat → Prop} {w w' : World} {base : Nat} {A : Option Addr} {cap : Nat} {l : List RPth} (h : RRow w base A cap l) (hk : Keeps S w w') (hS : ∀ g, (Value.slice A 0 0).ownBlock = some g → ¬ S g) : RRow w' base A cap l := by
  unfold RRow at h ⊢
  obtain ⟨h1, h2⟩ := h
  refine ⟨h1, ?_⟩
  rcases h2 with h2 | ⟨g, cap, cur, hv, hg, hh, r⟩
  · exact .inl h2
  · refine .inr ⟨g, cap, cur, hv, hg, ?_, r⟩
    have hlt : g < w.heap.size := by
      rcases Nat.lt_or_ge g w.heap.size with hlt | hge
      · exact hlt
      · rw [Array.getElem?_eq_none hge] at hh; cases hh
    have hA : A = some ⟨g, 0, none⟩ := by injection hv
    rw [hk.block g hlt (hS g (by rw [hA]; rfl))]
    exact hh

section
variable {w w' : World} {base cap : Nat} {A : Option Addr}
theorem RRow.own_lt {l : List RPth} (h : RRow w base A cap l) : ∀ g, (Value.slice A 0 0).ownBlock = some g → base ≤ g ∧ g < w.heap.size := by
  intro g hg
  refine World.ownsRow.lt h g ?_
  cases A with
  | none => cases hg
  | some a => exact hg

end

theorem rcells_set (l : List RPth) : ∀ (i j : Nat) (p p' : RPth) (v : Value), l[i]? = some p → j < 12 → p'.cells = p.cells.setIfInBounds j v → (rcells l).set (i * 12 + j) v = rcells (l.set i p') := by
  induction l with
  | nil => intro i j p p' v h; simp at h
  | cons q l ih =>
    intro i j p p' v h hj hp
    have e : rcells (q :: l) = q.cells.toList ++ rcells l := rfl
    have hl : q.cells.toList.length = 12 := rfl
    rw [e]
    cases i with
    | zero =>
      have hq : q = p := by simpa using h
      subst hq
      have e2 : rcells ((q :: l).set 0 p') = p'.cells.toList ++ rcells l := rfl
      rw [e2, List.set_append_left _ _ (by omega), hp]
      simp
    | succ i =>
      have e2 : rcells ((q :: l).set (i + 1) p') = q.cells.toList ++ rcells (l.set i p') := rfl
      rw [e2, List.set_append_right _ _ (by omega), hl, show (i + 1) * 12 + j - 12 = i * 12 + j by omega]
      rw [ih i j p p' v (by simpa using h) hj hp]

theorem RRow.setOne {w : World} {base g cap : Nat} {l : List RPth} (h : RRow w base (some ⟨g, 0, none⟩) cap l) {i j : Nat} {p p' : RPth} {v : Value} (hi : l[i]? = some p) (hj : j < 12) (hp : p'.cells = p.cells.setIfInBounds j v) : RRow (w.setCell ⟨g, i * 12 + j, none⟩ v) base (some ⟨g, 0, none⟩) cap (l.set i p') := by
  have hst := (World.ownsRow.stored h (i * 12 + j) v).1
  unfold RRow
  rw [← rcells_set l i j p p' v hi hj hp]
  simpa using hst

theorem rcells_snoc (l : List RPth) (p : RPth) : rcells (l ++ [p]) = rcells l ++ p.cells.toList := by simp [rcells]

theorem one_rcells (l : List RPth) : ∀ u ∈ rcells l, u.oneCell' = true := by
  intro u hu
  obtain ⟨p, _, hp⟩ := List.mem_flatMap.1 hu
  simp [RPth.cells] at hp
  rcases hp with rfl | rfl | rfl | rfl | rfl | rfl | rfl | rfl | rfl | rfl | rfl | rfl <;> rfl

theorem RRow.cap_le {w : World} {base g cap : Nat} {l : List RPth} (h : RRow w base (some ⟨g, 0, none⟩) cap l) : l.length ≤ cap := by
  rcases h.2 with ⟨e, _⟩ | ⟨g', cap', cur, e, hb, hh, hc1, _⟩
  · cases e
  · have hc : cap = cap' := by injection e
    omega


structure RTab where
  wait : Nat
  life : Nat
  losses : Nat
  most : Nat
  l : List RPth
  used : Int

structure RTab.Lim (t : RTab) : Prop where
  wait0 : 1 ≤ t.wait
  wait1 : t.wait ≤ 1099511627776
  life0 : 1 ≤ t.life
  life1 : t.life ≤ 1099511627776
  loss0 : 1 ≤ t.losses
  loss1 : t.losses ≤ 16
  most0 : 1 ≤ t.most
  most1 : t.most ≤ 64
  len : t.l.length ≤ t.most

structure RM (w : World) (b base : Nat) (A : Option Addr) (cap : Nat) (t : RTab) : Prop where
  lim : t.Lim
  blk : Blk w b 85 #[.int .u64 (t.wait : Int), .int .u64 (t.life : Int), .int .i64 (t.losses : Int), .int .i64 (t.most : Int), .slice A t.l.length cap, .int .i64 t.used]
  row : RRow w base A cap t.l

section
variable {w w' : World} {b base cap : Nat} {A : Option Addr} {t : RTab}

theorem RM.keep {S : Nat → Prop} (h : RM w b base A cap t) (hk : Keeps S w w') (h1 : ¬ S b) (h3 : ∀ g, (Value.slice A 0 0).ownBlock = some g → ¬ S g) : RM w' b base A cap t :=
  ⟨h.lim, h.blk.keep hk h1, h.row.keep hk h3⟩
theorem RM.own_blk (h : RM w b base A cap t) {g : Nat} (hg : (Value.slice A 0 0).ownBlock = some g) : ∃ cur, Blk w g 90 cur := by
  rcases h.row.2 with ⟨e2, _⟩ | ⟨g', cap', cur, e2, _, hh, _⟩
  · have hA : A = none := by injection e2
    rw [hA] at hg; cases hg
  · have hA : A = some ⟨g', 0, none⟩ := by injection e2
    rw [hA] at hg
    have : g' = g := by simpa [Value.ownBlock] using hg
    subst this
    exact ⟨cur, hh⟩
theorem RM.own_sep (h : RM w b base A cap t) {g : Nat} (hg : (Value.slice A 0 0).ownBlock = some g) : g ≠ b := by
  obtain ⟨cur, hh⟩ := h.own_blk hg
  rintro rfl
  exact Blk.ne_ (t := 90) hh h.blk (by decide) rfl
theorem RM.own_lt (h : RM w b base A cap t) : ∀ g, (Value.slice A 0 0).ownBlock = some g → base ≤ g ∧ g < w.heap.size := h.row.own_lt
theorem RM.below (h : RM w b base A cap t) (hb : Below w.heap.size w w') : RM w' b base A cap t := by
  refine h.keep (S := fun g => w.heap.size ≤ g) (Keeps.of_below hb (fun k _ hk => by omega)) ?_ ?_
  · have := h.blk.lt; omega
  · intro g hg; have := (h.own_lt g hg).2; omega
theorem RM.drewN (h : RM w b base A cap t) (n : Nat) : RM (w.drewN n) b base A cap t := ⟨h.lim, h.blk, h.row⟩
theorem RM.alloc (h : RM w b base A cap t) (o : Obj) : RM (w.alloc o) b base A cap t := h.below ((Below.refl _ _).alloc (Nat.le_refl _) o)
theorem RM.cells (h : RM w b base A cap t) : w.cell? ⟨b, 0, none⟩ = some (.int .u64 (t.wait : Int)) ∧ w.cell? ⟨b, 1, none⟩ = some (.int .u64 (t.life : Int)) ∧ w.cell? ⟨b, 2, none⟩ = some (.int .i64 (t.losses : Int)) ∧
    w.cell? ⟨b, 3, none⟩ = some (.int .i64 (t.most : Int)) ∧ w.cell? ⟨b, 4, none⟩ = some (.slice A t.l.length cap) ∧ w.cell? ⟨b, 5, none⟩ = some (.int .i64 t.used) :=
  ⟨h.blk.cell 0, h.blk.cell 1, h.blk.cell 2, h.blk.cell 3, h.blk.cell 4, h.blk.cell 5⟩
end

/- What a call of the document's may turn. -/
def RT (b : Nat) (w : World) (g : Nat) : Prop := g = b ∨ ∃ cur, Blk w g 90 cur
/- The table lives: all its blocks lie at n or behind it. -/
def RL (n b : Nat) (t : RTab) (w : World) : Prop := ∃ (base : Nat) (A : Option Addr) (cap : Nat), RM w b base A cap t ∧ n ≤ b ∧ n ≤ base ∧ base ≤ w.heap.size
def RDoes (n b : Nat) (t' : RTab) (v : Value) (w : World) (r : Ending) (w' : World) : Prop := r = .returned v ∧ RL n b t' w' ∧ Below n w w' ∧ Keeps (RT b w) w w'
def RSays (n b : Nat) (t : RTab) (v : Value) (w : World) (r : Ending) (w' : World) : Prop := r = .returned v ∧ RL n b t w' ∧ Below w.heap.size w w'

section
variable {n b : Nat} {t : RTab} {w w' : World}
theorem RL.size (h : RL n b t w) : n ≤ w.heap.size := by
  obtain ⟨base, A, cap, hm, h1, h2, h3⟩ := h
  omega
theorem RL.blt (h : RL n b t w) : b < w.heap.size := by
  obtain ⟨base, A, cap, hm, h1, h2, h3⟩ := h
  exact hm.blk.lt
theorem RL.blk (h : RL n b t w) : ∃ cs, Blk w b 85 cs := by
  obtain ⟨base, A, cap, hm, h1, h2, h3⟩ := h
  exact ⟨_, hm.blk⟩
theorem RL.lim (h : RL n b t w) : t.Lim := by
  obtain ⟨base, A, cap, hm, h1, h2, h3⟩ := h
  exact hm.lim
theorem RL.below (h : RL n b t w) (hb : Below w.heap.size w w') : RL n b t w' := by
  obtain ⟨base, A, cap, hm, h1, h2, h3⟩ := h
  exact ⟨base, A, cap, hm.below hb, h1, h2, Nat.le_trans h3 hb.size⟩
theorem RL.drewN (h : RL n b t w) (k : Nat) : RL n b t (w.drewN k) := by
  obtain ⟨base, A, cap, hm, h1, h2, h3⟩ := h
  exact ⟨base, A, cap, hm.drewN k, h1, h2, h3⟩
theorem RL.says {v : Value} {r : Ending} (h : RL n b t w) (hr : r = .returned v) (hb : Below w.heap.size w w') : RSays n b t v w r w' := ⟨hr, h.below hb, hb⟩
/- The calls of the program leave the document's table. -/
theorem RL.stay {b' : Nat} (h : RL n b t w) (hs : Stay b' w w') (hz : w.heap.size ≤ w'.heap.size) (hb : b ≠ b') (hb3 : ∀ cs, ¬ Blk w b' 90 cs) : RL n b t w' := by
  obtain ⟨base, A, cap, hm, h1, h2, h3⟩ := h
  refine ⟨base, A, cap, ⟨hm.lim, hs _ _ _ hb (by decide) hm.blk, ?_⟩, h1, h2, Nat.le_trans h3 hz⟩
  obtain ⟨k1, k2⟩ := hm.row
  refine ⟨k1, ?_⟩
  rcases k2 with k2 | ⟨g, cap', cur, hv, hg, hh, r⟩
  · exact .inl k2
  · refine .inr ⟨g, cap', cur, hv, hg, hs g 90 cur ?_ (by decide) hh, r⟩
    rintro rfl
    exact hb3 _ hh
end

/- And the document's calls leave the program's table. -/
theorem Live.rkeep {n b b' : Nat} {t : Tab} {w w' : World} (h : Live n b t w) (hk : Keeps (RT b' w) w w') (hb : ∃ cs, Blk w b' 85 cs) : Live n b t w' := by
  obtain ⟨base, A, cap, m, U, hm, h1, h2, h3, h4, h5⟩ := h
  obtain ⟨cs, hb⟩ := hb
  refine ⟨base, A, cap, m, U, hm.keep hk ?_ ?_ ?_ ?_, h1, h2, Nat.le_trans h3 hk.size, h4, h5⟩
  · rintro (rfl | ⟨cur, hc⟩)
    · exact Blk.ne_ hm.blk hb (by decide) rfl
    · exact Blk.ne_ hm.blk hc (by decide) rfl
  · have h1 := hm.map
    unfold MBlk at h1
    rintro (rfl | ⟨cur, hc⟩)
    · unfold Blk at hb; rw [hb] at h1; cases h1
    · unfold Blk at hc; rw [hc] at h1; cases h1
  · intro g hg
    obtain ⟨cur2, hh⟩ := hm.own_blk hg
    rintro (rfl | ⟨cur, hc⟩)
    · exact Blk.ne_ (t := 53) hh hb (by decide) rfl
    · exact Blk.ne_ (t := 53) hh hc (by decide) rfl
  · intro u hu
    have hus := hm.used
    cases he : t.used with
    | none => rw [he] at hus; subst hus; cases hu
    | some e =>
      rw [he] at hus
      obtain ⟨v, rfl, hbl⟩ := hus
      injection hu with hu
      subst hu
      rintro (rfl | ⟨cur, hc⟩)
      · exact Blk.ne_ hbl hb (by decide) rfl
      · exact Blk.ne_ hbl hc (by decide) rfl

def rfind (t : RTab) (e : End) : Option Nat := t.l.findIdx? fun q => q.p.e.eqb e
def rping (t : RTab) (tx : ByteArray) : Option Nat := t.l.findIdx? fun q => q.waits && (q.tx == tx)
def oidx (o : Option Nat) : Int := match o with | some i => (i : Int) | none => -1

end Go.Proofs.Ytbopmcdmahabbaa
