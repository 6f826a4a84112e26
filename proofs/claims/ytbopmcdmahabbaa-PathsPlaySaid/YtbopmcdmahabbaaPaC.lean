/- A table in memory; none, find. -/
import Derived.Test.YtbopmcdmahabbaaPaB
import Derived.Test.YtbopmcdmahabbaaSm
namespace Go.Proofs.Ytbopmcdmahabbaa
open Go.RowKit

structure Ent where
  tx : ByteArray
  e : End
  at_ : Nat
  born : Nat

structure Tab where
  wait : Nat
  life : Nat
  losses : Nat
  most : Nat
  l : List Pth
  pings : List Ent
  clock : Nat
  used : Option End

def pingVal (e : End) (n : Nat) : Value := .agg #[.bool e.v6, .int .u64 (e.hi : Int), .int .u64 (e.lo : Int), .int .u16 (e.port : Int), .int .u64 (n : Int)]
def Ent.se (x : Ent) : SE := ⟨x.tx, pingVal x.e x.at_, x.born⟩

/- A table's limits are such as New takes. -/
structure Tab.Lim (t : Tab) : Prop where
  wait0 : 1 ≤ t.wait
  wait1 : t.wait ≤ 1099511627776
  life0 : 1 ≤ t.life
  life1 : t.life ≤ 1099511627776
  loss0 : 1 ≤ t.losses
  loss1 : t.losses ≤ 16
  most0 : 1 ≤ t.most
  most1 : t.most ≤ 64
  len : t.l.length ≤ t.most

structure TM (w : World) (b base : Nat) (A : Option Addr) (cap m : Nat) (U : Option Addr) (t : Tab) : Prop where
  lim : t.Lim
  blk : Blk w b 68 #[.int .u64 (t.wait : Int), .int .u64 (t.life : Int), .int .i64 (t.losses : Int), .int .i64 (t.most : Int), .slice A t.l.length cap, .map (some m), .pointer U]
  row : PRow w base A cap t.l
  map : MBlk w m (t.pings.map Ent.se) t.clock
  used : match t.used with | none => U = none | some e => ∃ u, U = some ⟨u, 0, none⟩ ∧ Blk w u 35 e.cells

/- The blocks that a table's calls may turn. -/
def TS (b m : Nat) (A : Option Addr) (g : Nat) : Prop := g = b ∨ g = m ∨ (Value.slice A 0 0).ownBlock = some g

theorem PRow.keep {S : Nat → Prop} {w w' : World} {base : Nat} {A : Option Addr} {cap : Nat} {l : List Pth} (h : PRow w base A cap l) (hk : Keeps S w w') (hS : ∀ g, (Value.slice A 0 0).ownBlock = some g → ¬ S g) : PRow w' base A cap l := by
  unfold PRow at h ⊢
  obtain ⟨h1, h2⟩ := h
  refine ⟨h1, ?_⟩
  rcases h2 with h2 | ⟨g, cap, cur, hv, hg, hh, r⟩
  · exact .inl h2
  · refine .inr ⟨g, cap, cur, hv, hg, ?_, r⟩
    have hlt : g < w.heap.size := by
      rcases Nat.lt_or_ge g w.heap.size with hlt | hge
      · exact hlt
      · rw [Array.getElem?_eq_none hge] at hh; cases hh
    have hA : A = some ⟨g, 0, none⟩ := by injection hv
    rw [hk.block g hlt (hS g (by rw [hA]; rfl))]
    exact hh

section
variable {w w' : World} {b base cap m : Nat} {A U : Option Addr} {t : Tab}

theorem TM.keep {S : Nat → Prop} (h : TM w b base A cap m U t) (hk : Keeps S w w') (h1 : ¬ S b) (h2 : ¬ S m) (h3 : ∀ g, (Value.slice A 0 0).ownBlock = some g → ¬ S g) (h4 : ∀ u, U = some u → ¬ S u.block) : TM w' b base A cap m U t := by
  refine ⟨h.lim, h.blk.keep hk h1, h.row.keep hk h3, h.map.keep hk h2, ?_⟩
  have hu := h.used
  cases he : t.used with
  | none => rw [he] at hu; exact hu
  | some e =>
    rw [he] at hu
    obtain ⟨u, rfl, hb⟩ := hu
    exact ⟨u, rfl, hb.keep hk (h4 _ rfl)⟩

theorem PRow.own_lt {l : List Pth} (h : PRow w base A cap l) : ∀ g, (Value.slice A 0 0).ownBlock = some g → base ≤ g ∧ g < w.heap.size := by
  intro g hg
  refine World.ownsRow.lt h g ?_
  cases A with
  | none => cases hg
  | some a => exact hg

theorem TM.own_lt (h : TM w b base A cap m U t) : ∀ g, (Value.slice A 0 0).ownBlock = some g → base ≤ g ∧ g < w.heap.size := h.row.own_lt

theorem TM.used_lt (h : TM w b base A cap m U t) : ∀ u, U = some u → u.block < w.heap.size := by
  intro u hU
  have hu := h.used
  cases he : t.used with
  | none => rw [he] at hu; subst hu; cases hU
  | some e =>
    rw [he] at hu
    obtain ⟨v, rfl, hb⟩ := hu
    cases hU
    exact hb.lt

/- The blocks of a table are apart. -/
theorem TM.bm (h : TM w b base A cap m U t) : b ≠ m := by
  intro e
  have h1 := h.blk
  have h2 := h.map
  unfold Blk at h1
  unfold MBlk at h2
  rw [e, h2] at h1
  cases h1
theorem TM.own_blk (h : TM w b base A cap m U t) {g : Nat} (hg : (Value.slice A 0 0).ownBlock = some g) : ∃ cur, w.heap[g]? = some (.cells cur 53 (0, 0)) := by
  rcases h.row.2 with ⟨e2, _⟩ | ⟨g', cap', cur, e2, _, hh, _⟩
  · have hA : A = none := by injection e2
    rw [hA] at hg; cases hg
  · have hA : A = some ⟨g', 0, none⟩ := by injection e2
    rw [hA] at hg
    have : g' = g := by simpa [Value.ownBlock] using hg
    subst this
    exact ⟨cur, hh⟩
theorem TM.own_sep (h : TM w b base A cap m U t) {g : Nat} (hg : (Value.slice A 0 0).ownBlock = some g) : g ≠ b ∧ g ≠ m := by
  obtain ⟨cur, hh⟩ := h.own_blk hg
  constructor
  · rintro rfl
    exact Blk.ne_ (t := 53) hh h.blk (by decide) rfl
  · rintro rfl
    have h2 := h.map
    unfold MBlk at h2
    rw [hh] at h2
    cases h2
theorem TM.used_sep (h : TM w b base A cap m U t) {u : Addr} (hU : U = some u) : u.block ≠ b ∧ u.block ≠ m ∧ ∀ g, (Value.slice A 0 0).ownBlock = some g → u.block ≠ g := by
  have hu := h.used
  cases he : t.used with
  | none => rw [he] at hu; subst hu; cases hU
  | some e =>
    rw [he] at hu
    obtain ⟨v, rfl, hb⟩ := hu
    cases hU
    refine ⟨hb.ne_ h.blk (by decide), ?_, fun g hg => ?_⟩
    · rintro rfl
      have h2 := h.map
      unfold MBlk at h2
      unfold Blk at hb
      rw [hb] at h2
      cases h2
    · obtain ⟨cur, hh⟩ := h.own_blk hg
      exact hb.ne_ (t' := 53) hh (by decide)

theorem TM.below (h : TM w b base A cap m U t) (hb : Below w.heap.size w w') : TM w' b base A cap m U t := by
  refine h.keep (S := fun g => w.heap.size ≤ g) (Keeps.of_below hb (fun k _ hk => by omega)) ?_ ?_ ?_ ?_
  · have := h.blk.lt; omega
  · have := h.map.lt; omega
  · intro g hg; have := (h.own_lt g hg).2; omega
  · intro u hu; have := h.used_lt u hu; omega

theorem TM.drewN (h : TM w b base A cap m U t) (n : Nat) : TM (w.drewN n) b base A cap m U t := ⟨h.lim, h.blk, h.row, h.map, h.used⟩
theorem TM.alloc (h : TM w b base A cap m U t) (o : Obj) : TM (w.alloc o) b base A cap m U t := h.below ((Below.refl _ _).alloc (Nat.le_refl _) o)

theorem TM.cells (h : TM w b base A cap m U t) : w.cell? ⟨b, 0, none⟩ = some (.int .u64 (t.wait : Int)) ∧ w.cell? ⟨b, 1, none⟩ = some (.int .u64 (t.life : Int)) ∧ w.cell? ⟨b, 2, none⟩ = some (.int .i64 (t.losses : Int)) ∧
    w.cell? ⟨b, 3, none⟩ = some (.int .i64 (t.most : Int)) ∧ w.cell? ⟨b, 4, none⟩ = some (.slice A t.l.length cap) ∧ w.cell? ⟨b, 5, none⟩ = some (.map (some m)) ∧ w.cell? ⟨b, 6, none⟩ = some (.pointer U) :=
  ⟨h.blk.cell 0, h.blk.cell 1, h.blk.cell 2, h.blk.cell 3, h.blk.cell 4, h.blk.cell 5, h.blk.cell 6⟩
end

theorem q65 (w : World) (r : Option Nat) : (binOp .eql 65 (.map r) (.map none)).run Try.prog w = .ok (.bool r.isNone) w := run_eql_map_nil w _ _ _ r Try.underlying65

theorem tnone_nil (w : World) : Calls Try.prog 24 #[.pointer none] w fun e w' => e = .returned (.bool true) ∧ w = w' := by
  go_enter Try.func24, Try.ntmps24
  go_wp2
  go_ret
  exact ⟨rfl, rfl⟩

theorem tnone_some {b m : Nat} {w : World} (h : w.cell? ⟨b, 5, none⟩ = some (.map (some m))) : Calls Try.prog 24 #[.pointer (some ⟨b, 0, none⟩)] w fun e w' => e = .returned (.bool false) ∧ w = w' := by
  have q := q65
  go_enter Try.func24, Try.ntmps24
  go_wp2
  go_ret
  exact ⟨rfl, rfl⟩

def findI (l : List Pth) (e : End) : Option Nat := l.findIdx? fun p => p.e.eqb e

theorem idx_eq (l : List Pth) (e : End) : idx l e = match findI l e with | some i => (i : Int) | none => -1 := rfl

set_option maxHeartbeats 400000 in
theorem find_no {w : World} {b base cap m : Nat} {A U : Option Addr} {t : Tab} (h : TM w b base A cap m U t) (e : End) (hf : findI t.l e = none) :
    Calls Try.prog 25 #[.pointer (some ⟨b, 0, none⟩), .agg e.cells] w fun r w' => r = .returned (.pointer none) ∧ Below w.heap.size w w' := by
  obtain ⟨c0, c1, c2, c3, c4, c5, c6⟩ := h.cells
  have hlt := h.blk.lt
  have hl := h.lim.len
  have hl1 := h.lim.most1
  have hidx : idx t.l e = -1 := by rw [idx_eq, hf]
  have hix := index_any base A cap t.l e w.heap.size (w.alloc (.cells e.cells 35)) (h.alloc _).row (by omega) (Blk.new _ _ _)
  rw [hidx] at hix
  have Hix := Lib.hid hix
  clear hix hidx hf
  unfold End.cells at *
  go_enter Try.func25, Try.ntmps25
  go_wp2_with (go_at_call 44; refine Hix.out.mono ?_; rintro r w' ⟨rfl, hb⟩)
  go_ret
  exact ⟨rfl, ((Below.refl _ _).alloc (Nat.le_refl _) _).trans (hb.mono (by simp))⟩

set_option maxHeartbeats 400000 in
theorem find_yes {w : World} {b base cap m : Nat} {A U : Option Addr} {t : Tab} (h : TM w b base A cap m U t) (e : End) {i : Nat} (hf : findI t.l e = some i) {g : Nat} (hA : A = some ⟨g, 0, none⟩) :
    Calls Try.prog 25 #[.pointer (some ⟨b, 0, none⟩), .agg e.cells] w fun r w' => r = .returned (.pointer (some ⟨g, i * 8, none⟩)) ∧ Below w.heap.size w w' := by
  subst hA
  obtain ⟨c0, c1, c2, c3, c4, c5, c6⟩ := h.cells
  have hlt := h.blk.lt
  have hl := h.lim.len
  have hl1 := h.lim.most1
  have hidx : idx t.l e = (i : Int) := by rw [idx_eq, hf]
  have hil : i < t.l.length := (List.findIdx?_eq_some_iff_getElem.1 hf).1
  have hix := index_any base (some ⟨g, 0, none⟩) cap t.l e w.heap.size (w.alloc (.cells e.cells 35)) (h.alloc _).row (by omega) (Blk.new _ _ _)
  rw [hidx] at hix
  have Hix := Lib.hid hix
  clear hix hidx hf
  unfold End.cells at *
  go_enter Try.func25, Try.ntmps25
  go_wp2_with (go_at_call 44; refine Hix.out.mono ?_; rintro r w' ⟨rfl, hb⟩; have c4' := (hb.cell (p := ⟨b, 4, none⟩) (by simp; omega)).trans ((World.cell?_alloc_lt w _ ⟨b, 4, none⟩ hlt).trans c4))
  go_ret
  exact ⟨rfl, ((Below.refl _ _).alloc (Nat.le_refl _) _).trans (hb.mono (by simp))⟩

end Go.Proofs.Ytbopmcdmahabbaa
