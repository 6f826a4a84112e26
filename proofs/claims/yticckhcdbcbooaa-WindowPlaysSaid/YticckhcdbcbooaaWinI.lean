/- WindowPlays: the walk. -/
import Derived.Test.YticckhcdbcbooaaWinH
namespace Go.Proofs.Yticckhcdbcbooaa
open Go.RowKit Win

structure PState (w : World) (rb size : Nat) (s : St) (L : List Nat) (A : Option Addr) (cap b bb : Nat) (wr : World) : Prop where
  sz : s.size = size
  rep : Rep wr b bb s
  inv : Inv s L
  ref : RRep wr (rb + 1) rb size L A cap
  apart : ∀ g, (Value.slice A L.length cap).ownBlock = some g → g ≠ b ∧ g ≠ bb
  lb : w.heap.size ≤ b
  lbb : w.heap.size ≤ bb
  lrb : w.heap.size ≤ rb
  below : Below w.heap.size w wr
  size : rb + 1 ≤ wr.heap.size

def PlaysRel (w : World) (rb size len : Nat) (p i : Value) (wr : World) : Prop :=
  ∃ (k : Nat) (s : St) (L : List Nat) (A : Option Addr) (cap b bb : Nat), k ≤ len ∧ L.length ≤ k ∧ i = .int .i64 (k : Int) ∧ p = .pointer (some ⟨b, 0, none⟩) ∧ PState w rb size s L A cap b bb wr

theorem Rep.blkB {w : World} {b bb : Nat} {s : St} (h : Rep w b bb s) : ∃ cs, Blk w b 42 cs := by
  obtain ⟨nw, cap, cs, h4, h5, h6, h7, h8, h9⟩ := h.rest
  exact ⟨_, h7⟩
theorem Rep.blkBB {w : World} {b bb : Nat} {s : St} (h : Rep w b bb s) : ∃ cs, Blk w bb 28 cs := by
  obtain ⟨nw, cap, cs, h4, h5, h6, h7, h8, h9⟩ := h.rest
  exact ⟨_, h8⟩
theorem Rep.ltB {w : World} {b bb : Nat} {s : St} (h : Rep w b bb s) : b < w.heap.size := by obtain ⟨cs, h⟩ := h.blkB; exact h.lt
theorem Rep.ltBB {w : World} {b bb : Nat} {s : St} (h : Rep w b bb s) : bb < w.heap.size := by obtain ⟨cs, h⟩ := h.blkBB; exact h.lt

theorem RRep.ne {w : World} {b bb base rb size cap : Nat} {s : St} {L : List Nat} {A : Option Addr} (h : Rep w b bb s) (hr : RRep w base rb size L A cap) : rb ≠ b ∧ rb ≠ bb := by
  obtain ⟨c1, k1⟩ := h.blkB
  obtain ⟨c2, k2⟩ := h.blkBB
  exact ⟨hr.blk.ne_ k1 (by decide), hr.blk.ne_ k2 (by decide)⟩

theorem own_keeps2 {S : Nat → Prop} {w w' : World} {base size n : Nat} {e : TypeId} {v : Value} {xs : List Value} (h : w.ownsRow base e size v n xs) (hk : Keeps S w w') (hS : ∀ g, v.ownBlock = some g → ¬ S g) : w'.ownsRow base e size v n xs := by
  obtain ⟨h1, h2⟩ := h
  refine ⟨h1, ?_⟩
  rcases h2 with h2 | ⟨g, cap, cur, hv, hg, hh, r⟩
  · exact .inl h2
  · refine .inr ⟨g, cap, cur, hv, hg, ?_, r⟩
    have hlt : g < w.heap.size := by
      rcases Nat.lt_or_ge g w.heap.size with hlt | hge
      · exact hlt
      · rw [Array.getElem?_eq_none hge] at hh; cases hh
    rw [hk.block g hlt (hS g (by rw [hv]; rfl))]
    exact hh

theorem RRep.keep {S : Nat → Prop} {w w' : World} {base rb size cap : Nat} {L : List Nat} {A : Option Addr} (h : RRep w base rb size L A cap) (hk : Keeps S w w') (h1 : ¬ S rb) (h2 : ∀ g, (Value.slice A L.length cap).ownBlock = some g → ¬ S g) : RRep w' base rb size L A cap :=
  ⟨h.blk.keep hk h1, own_keeps2 h.own hk h2, h.lt⟩

theorem Keeps.cell {S : Nat → Prop} {w w' : World} {a : Addr} {v : Value} (k : Keeps S w w') (hS : ¬ S a.block) (h : w.cell? a = some v) : w'.cell? a = some v :=
  (World.cell?_of_block (k.block a.block (World.block_lt_of_cell? w a h) hS)).trans h

section
variable {w wr w2 w3 : World} {rb size cap b bb b2 bb2 n : Nat} {s : St} {L : List Nat} {A : Option Addr}

theorem PState.drewN (h : PState w rb size s L A cap b bb wr) (q : Nat) : PState w rb size s L A cap b bb (wr.drewN q) :=
  ⟨h.sz, h.rep.drewN q, h.inv, h.ref.drewN q, h.apart, h.lb, h.lbb, h.lrb, ⟨h.below.os, h.below.tape, h.below.output, h.below.size, h.below.block⟩, h.size⟩

/- A copy is gone on with, and the old one is marked. -/
theorem PState.copy (h : PState w rb size s L A cap b bb wr) (hr : Rep w2 b2 bb2 s) (hb : Below wr.heap.size wr w2) (h1 : wr.heap.size ≤ b2) (h2 : wr.heap.size ≤ bb2)
    (hk : Keeps (fun g => g = b ∨ g = bb) w2 w3) : PState w rb size s L A cap b2 bb2 w3 := by
  have l1 := h.rep.ltB
  have l2 := h.rep.ltBB
  have hne := RRep.ne h.rep h.ref
  have hz := hb.size
  have hz0 := h.below.size
  have hz1 := h.lb
  have hz2 := h.lbb
  have k1 : Keeps (fun g => g = b ∨ g = bb) wr w3 := (Keeps.of_below hb (fun k hk _ => hk)).trans hk
  refine ⟨h.sz, hr.keep hk (by omega) (by omega), h.inv, h.ref.keep k1 (by omega) (fun g hg => by have := h.apart g hg; omega), fun g hg => ?_, by omega, by omega, h.lrb,
    h.below.trans (k1.below (by rintro g (rfl | rfl) <;> omega) hz0), by have := k1.size; have := h.size; omega⟩
  have := (h.ref.own.lt g hg).2
  omega

theorem PState.own_ne (h : PState w rb size s L A cap b bb wr) : ∀ g, (Value.slice A L.length cap).ownBlock = some g → w.heap.size ≤ g := fun g hg => by have := (h.ref.own.lt g hg).1; have := h.lrb; omega

/- A round: both are marked. -/
theorem PState.mark (h : PState w rb size s L A cap b bb wr) (hr : Rep w2 b bb (s.mark n)) (hk : Keeps (fun g => g = b ∨ g = bb) wr w2) {A' : Option Addr} {cap' : Nat}
    (hr2 : RRep w3 (rb + 1) rb size (rmark size L n) A' cap') (hap : ∀ g, (Value.slice A' (rmark size L n).length cap').ownBlock = some g → (Value.slice A L.length cap).ownBlock = some g ∨ w2.heap.size ≤ g)
    (hk2 : Keeps (fun g => g = rb ∨ (Value.slice A L.length cap).ownBlock = some g) w2 w3) : PState w rb size (s.mark n) (rmark size L n) A' cap' b bb w3 := by
  have l1 := hr.ltB
  have l2 := hr.ltBB
  have hne := RRep.ne h.rep h.ref
  have hz0 := h.below.size
  have hz1 := h.lb
  have hz2 := h.lbb
  have hz3 := h.lrb
  have z1 := hk.size
  have z2 := hk2.size
  have hs : (s.mark n).size = size := by
    rw [← h.sz]
    unfold St.mark
    split <;> rfl
  have hrm := rmay_inv h.inv n
  rw [h.sz] at hrm
  refine ⟨hs, hr.keep hk2 (fun e => ?_) (fun e => ?_), ?_, hr2, fun g hg => ?_, h.lb, h.lbb, h.lrb, (h.below.trans (hk.below (by rintro g (rfl | rfl) <;> omega) hz0)).trans (hk2.below ?_ (by omega)), by have := h.size; omega⟩
  · rcases e with e | e
    · omega
    · exact (h.apart _ e).1 rfl
  · rcases e with e | e
    · omega
    · exact (h.apart _ e).2 rfl
  · unfold St.mark rmark
    rw [hrm]
    split
    · exact Win.Inv.snoc h.inv ‹_›
    · exact h.inv
  · rcases hap g hg with e | e
    · exact h.apart g e
    · omega
  · rintro g (rfl | e)
    · omega
    · have := (h.ref.own.lt g e).1; omega
end

theorem mark_some (b bb : Nat) (s : St) (m : Int) (w : World) (h0 : 0 ≤ m) (h1 : m < 18446744073709551616) (h : Rep w b bb s) :
    Calls Try.prog 8 #[.pointer (some ⟨b, 0, none⟩), .int .u64 m] w fun e w' => e = .returned (.int .i64 (s.may m.toNat)) ∧ Rep w' b bb (s.mark m.toNat) ∧ Keeps (fun g => g = b ∨ g = bb) w w' := by
  have := mark_rep b bb s m.toNat w (by omega) h
  rwa [Int.toNat_of_nonneg h0] at this

theorem wrap_u64_bd (m : Int) : 0 ≤ IntKind.u64.wrap m ∧ IntKind.u64.wrap m < 18446744073709551616 := by
  rw [IntKind.wrap_u64]
  omega

end Go.Proofs.Yticckhcdbcbooaa
