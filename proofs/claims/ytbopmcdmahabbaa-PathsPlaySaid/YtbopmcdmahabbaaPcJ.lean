/- PathsBest: steps, and what all calls keep. -/
import Derived.Test.YtbopmcdmahabbaaPcI
namespace Go.Proofs.Ytbopmcdmahabbaa
open Go.RowKit

structure Stp where
  dO : Int
  tx : Nat
  en : Nat
  now : Nat

structure Steps (w : World) (A : Option Addr) (len : Nat) (L : Nat → Stp) : Prop where
  tx : ∀ i, i < len → (L i).tx < 256
  en : ∀ i, i < len → (L i).en < 256
  now : ∀ i, i < len → (L i).now < M64
  mem : 0 < len → ∃ b off, A = some ⟨b, off, none⟩ ∧ b < w.heap.size ∧ ∀ i, i < len → w.cell? ⟨b, off + i * 4, none⟩ = some (.int .i64 (L i).dO) ∧ w.cell? ⟨b, off + i * 4 + 1, none⟩ = some (.int .u8 ((L i).tx : Int)) ∧ w.cell? ⟨b, off + i * 4 + 2, none⟩ = some (.int .u8 ((L i).en : Int)) ∧ w.cell? ⟨b, off + i * 4 + 3, none⟩ = some (.int .u64 ((L i).now : Int))

theorem Steps.below {w w' : World} {A : Option Addr} {len : Nat} {L : Nat → Stp} (h : Steps w A len L) (hb : Below w.heap.size w w') : Steps w' A len L := by
  refine ⟨h.tx, h.en, h.now, fun hp => ?_⟩
  obtain ⟨b, off, hA, hlt, hc⟩ := h.mem hp
  refine ⟨b, off, hA, Nat.lt_of_lt_of_le hlt hb.size, fun i hi => ?_⟩
  obtain ⟨h0, h1, h2, h3⟩ := hc i hi
  exact ⟨(hb.cell (p := ⟨b, off + i * 4, none⟩) hlt).trans h0, (hb.cell (p := ⟨b, off + i * 4 + 1, none⟩) hlt).trans h1, (hb.cell (p := ⟨b, off + i * 4 + 2, none⟩) hlt).trans h2, (hb.cell (p := ⟨b, off + i * 4 + 3, none⟩) hlt).trans h3⟩

/- The limits stay. -/
structure Same (t t' : Tab) : Prop where
  wait : t'.wait = t.wait
  life : t'.life = t.life
  losses : t'.losses = t.losses
  most : t'.most = t.most
theorem Same.refl (t : Tab) : Same t t := ⟨rfl, rfl, rfl, rfl⟩
theorem Same.trans {a b c : Tab} (h : Same a b) (k : Same b c) : Same a c := ⟨k.wait.trans h.wait, k.life.trans h.life, k.losses.trans h.losses, k.most.trans h.most⟩

section
variable (t : Tab)
theorem same_add (e : End) : Same t (addT t e).1 := by
  unfold addT
  split
  · exact Same.refl t
  · split
    · exact Same.refl t
    · exact ⟨rfl, rfl, rfl, rfl⟩
theorem same_sent (tx : ByteArray) (e : End) (now : Nat) : Same t (sentT t tx e now).1 := by
  unfold sentT
  split
  · exact Same.refl t
  · split
    · exact Same.refl t
    · split
      · exact Same.refl t
      · exact ⟨rfl, rfl, rfl, rfl⟩
theorem same_pong (tx : ByteArray) (e : End) (now : Nat) : Same t (pongT t tx e now).1 := by
  unfold pongT
  split
  · exact Same.refl t
  · split
    · split
      · exact Same.refl t
      · split
        · exact Same.refl t
        · unfold pongP
          split <;> exact ⟨rfl, rfl, rfl, rfl⟩
    · exact Same.refl t
theorem same_drop (e : End) : Same t (dropT t e).1 := by
  unfold dropT
  split
  · exact Same.refl t
  · exact ⟨rfl, rfl, rfl, rfl⟩
theorem same_tidy (now : Nat) : Same t (t.tidy now) := ⟨rfl, rfl, rfl, rfl⟩
theorem same_best (now : Nat) : Same t (t.best now) := ⟨rfl, rfl, rfl, rfl⟩
end

/- A table that lives, behind j calls, of these limits. -/
structure Runs (n b j : Nat) (t0 t : Tab) (w : World) : Prop where
  live : Live n b t w
  inv : Inv j t
  same : Same t0 t

end Go.Proofs.Ytbopmcdmahabbaa
