/- The window's state in memory behind a store: one lemma a store. -/
import Derived.Test.YticckhcdbcbooaaWinA
import Derived.Laws.BitsAllLaws
import Derived.Laws.CopyRow
import Derived.Lib.SliceRun
namespace Go.Proofs.Yticckhcdbcbooaa
open Go.RowKit Win

theorem wmask_lt (k : Nat) : wmask k < 18446744073709551616 := Nat.pow_lt_pow_right (by omega) (show k % 64 < 64 by omega)

theorem testBit_wmask (k j : Nat) : (wmask k).testBit j = decide (k % 64 = j) := by unfold wmask; rw [Nat.testBit_two_pow]

/- The word with the slot's bit set, and struck. -/
theorem or_wmask (x k : Nat) (hx : x < 2 ^ 64) : bits .or .u64 (x : Int) (wmask k : Int) = ((x ||| wmask k : Nat) : Int) := bits_or_u64_nat x (wmask k) hx (wmask_lt k)
theorem or_wmask_lt (x k : Nat) (hx : x < 2 ^ 64) : x ||| wmask k < 2 ^ 64 := Nat.or_lt_two_pow hx (wmask_lt k)

def strike (x k : Nat) : Nat := x &&& (18446744073709551615 - wmask k)
theorem andNot_wmask (x k : Nat) (hx : x < 2 ^ 64) : bits .andNot .u64 (x : Int) (wmask k : Int) = ((strike x k : Nat) : Int) := u64_andNot_nat x (wmask k) hx (wmask_lt k)
theorem strike_lt (x k : Nat) (hx : x < 2 ^ 64) : strike x k < 2 ^ 64 := Nat.lt_of_le_of_lt Nat.and_le_left hx
theorem strike_bit (x k j : Nat) (hj : j < 64) : (strike x k).testBit j = (x.testBit j && !decide (k % 64 = j)) := by
  unfold strike
  rw [Nat.testBit_and]
  have h1 : 18446744073709551615 - wmask k = 2 ^ 64 - (wmask k + 1) := by have := wmask_lt k; omega
  rw [h1, Nat.testBit_two_pow_sub_succ (wmask_lt k), testBit_wmask]
  simp [hj]

theorem Bits.set {size : Nat} {f g : Nat → Bool} {cs : Array Value} (h : Bits size f cs) (k y : Nat) (hk : k < size) (hy : y < 2 ^ 64)
    (hyb : ∀ j, j < 64 → k / 64 * 64 + j < size → y.testBit j = g (k / 64 * 64 + j)) (ho : ∀ m, m < size → m / 64 ≠ k / 64 → g m = f m) : Bits size g (cs.setIfInBounds (k / 64) (.int .u64 (y : Int))) := by
  intro i hi
  obtain ⟨x, hx, hcx, hb⟩ := h i hi
  have hin : i < cs.size := by
    rcases Nat.lt_or_ge i cs.size with h1 | h1
    · exact h1
    · rw [Array.getElem?_eq_none h1] at hcx; cases hcx
  by_cases he : k / 64 = i
  · subst he
    refine ⟨y, hy, by simp [hin], hyb⟩
  · refine ⟨x, hx, by rw [Array.getElem?_setIfInBounds_ne he]; exact hcx, fun j hj hs => ?_⟩
    rw [hb j hj hs, ho _ hs (by omega)]

theorem Rep.ne {w : World} {b bb : Nat} {s : St} (h : Rep w b bb s) : b ≠ bb := by
  obtain ⟨nw, cap, cs, h4, h5, h6, h7, h8, h9⟩ := h.rest
  exact h7.ne_ h8 (by decide)

theorem Rep.frozenB {w : World} {b bb : Nat} {s : St} (h : Rep w b bb s) (i : Nat) : w.frozen? ⟨b, i, none⟩ = false := by
  obtain ⟨nw, cap, cs, h4, h5, h6, h7, h8, h9⟩ := h.rest
  exact h7.frozen i
theorem Rep.frozenBB {w : World} {b bb : Nat} {s : St} (h : Rep w b bb s) (i : Nat) : w.frozen? ⟨bb, i, none⟩ = false := by
  obtain ⟨nw, cap, cs, h4, h5, h6, h7, h8, h9⟩ := h.rest
  exact h8.frozen i

/- A slot's bit set. -/
theorem Rep.orBit {w : World} {b bb : Nat} {s : St} (h : Rep w b bb s) (k x : Nat) (hk : k < s.size) (hx : x < 2 ^ 64) (hc : w.cell? ⟨bb, k / 64, none⟩ = some (.int .u64 (x : Int))) :
    Rep (w.setCell ⟨bb, k / 64, none⟩ (.int .u64 ((x ||| wmask k : Nat) : Int))) b bb { s with set := fun m => s.set m || m == k } := by
  obtain ⟨nw, cap, cs, h4, h5, h6, h7, h8, h9⟩ := h.rest
  refine ⟨h.lo, h.hi, h.hb, nw, cap, _, h4, h5, ?_, h7.far (p := ⟨bb, k / 64, none⟩) h.ne _, h8.set_ _ _, h9.set k _ hk (or_wmask_lt x k hx) (fun j hj hs => ?_) (fun m _ hm => ?_)⟩
  · simpa using h6
  · obtain ⟨y, hy, hcy, hb⟩ := h9 (k / 64) (by omega)
    have : y = x := by
      have h10 := (h8.cell (k / 64)).symm.trans hc
      rw [hcy] at h10
      simp at h10
      omega
    subst this
    rw [Nat.testBit_or, hb j hj hs, testBit_wmask]
    congr 1
    rw [Bool.eq_iff_iff]
    simp
    omega
  · have : ¬ m = k := fun e => hm (by rw [e])
    simp [this]

/- A slot's bit struck. -/
theorem Rep.strikeBit {w : World} {b bb : Nat} {s : St} (h : Rep w b bb s) (k x : Nat) (hk : k < s.size) (hx : x < 2 ^ 64) (hc : w.cell? ⟨bb, k / 64, none⟩ = some (.int .u64 (x : Int))) :
    Rep (w.setCell ⟨bb, k / 64, none⟩ (.int .u64 (strike x k : Int))) b bb { s with set := fun m => s.set m && !(k == m) } := by
  obtain ⟨nw, cap, cs, h4, h5, h6, h7, h8, h9⟩ := h.rest
  refine ⟨h.lo, h.hi, h.hb, nw, cap, _, h4, h5, ?_, h7.far (p := ⟨bb, k / 64, none⟩) h.ne _, h8.set_ _ _, h9.set k _ hk (strike_lt x k hx) (fun j hj hs => ?_) (fun m _ hm => ?_)⟩
  · simpa using h6
  · obtain ⟨y, hy, hcy, hb⟩ := h9 (k / 64) (by omega)
    have : y = x := by
      have h10 := (h8.cell (k / 64)).symm.trans hc
      rw [hcy] at h10
      simp at h10
      omega
    subst this
    rw [strike_bit _ _ _ hj, hb j hj hs]
    congr 2
    rw [Bool.eq_iff_iff]
    simp
    omega
  · have : ¬ k = m := fun e => hm (by rw [e])
    simp [this]

theorem Rep.setHigh {w : World} {b bb : Nat} {s : St} (h : Rep w b bb s) (n : Nat) (hn : n < 18446744073709551616) : Rep (w.setCell ⟨b, 2, none⟩ (.int .u64 (n : Int))) b bb { s with high := n } := by
  obtain ⟨nw, cap, cs, h4, h5, h6, h7, h8, h9⟩ := h.rest
  exact ⟨h.lo, h.hi, hn, nw, cap, cs, h4, h5, h6, h7.set_ 2 _, h8.far (p := ⟨b, 2, none⟩) h.ne.symm _, h9⟩

theorem Rep.setAny {w : World} {b bb : Nat} {s : St} (h : Rep w b bb s) (t : Bool) : Rep (w.setCell ⟨b, 3, none⟩ (.bool t)) b bb { s with any := t } := by
  obtain ⟨nw, cap, cs, h4, h5, h6, h7, h8, h9⟩ := h.rest
  exact ⟨h.lo, h.hi, h.hb, nw, cap, cs, h4, h5, h6, h7.set_ 3 _, h8.far (p := ⟨b, 3, none⟩) h.ne.symm _, h9⟩

theorem zero28 (w : World) : (zeroValue 28).run Try.prog w = .ok (.int .u64 0) w := by kernel_rfl

/- clear(w.bits) -/
theorem Rep.clear {w : World} {b bb : Nat} {s : St} (h : Rep w b bb s) : ∃ W, (∀ (k : Nat) (ty : TypeId) (nw cap : Nat), w.cell? ⟨b, 1, none⟩ = some (.slice (some ⟨bb, 0, none⟩) nw cap) → (Builtin.clear_ #[22] ty #[.slice (some ⟨bb, 0, none⟩) nw cap]).run Try.prog (w.drewN k) = .ok (.tuple #[]) (W.drewN k)) ∧
    Keeps (fun g => g = b ∨ g = bb) w W ∧ Rep W b bb { s with set := fun _ => false } := by
  obtain ⟨nw, cap, cs, h4, h5, h6, h7, h8, h9⟩ := h.rest
  have hlo := h.lo
  have hl : (List.replicate nw (Value.int .u64 0) ++ cs.toList.drop nw).length = cap := by simp; omega
  refine ⟨w.setRow bb (List.replicate nw (Value.int .u64 0) ++ cs.toList.drop nw).toArray, fun k ty nw' cap' hc => ?_, ?_, h.lo, h.hi, h.hb, nw, cap, _, h4, h5, ?_, ?_, setRow_heap w bb cs _ 28 (0, 0) h8, ?_⟩
  · have h10 := (h7.cell 1).symm.trans hc
    simp at h10
    obtain ⟨rfl, rfl⟩ := h10
    have hz : (Builtin.zeroCells (Value.int .u64 0).cells nw).toList = List.replicate nw (Value.int .u64 0) := by
      apply List.ext_getElem
      · simp [Value.cells, Builtin.zeroCells]
      · intro i h1 h2
        simp [Value.cells, Builtin.zeroCells, Nat.mod_one]
    have hs := run_storeCells_at (P := Try.prog) bb 0 28 (List.replicate nw (Value.int .u64 0)) 0 cs (w.drewN k) h8 (by simp; omega) (fun v hv => by rw [(List.mem_replicate.1 hv).2]; rfl)
    have hr : (w.drewN k).setRow bb (List.replicate nw (Value.int .u64 0) ++ cs.toList.drop nw).toArray = (w.setRow bb (List.replicate nw (Value.int .u64 0) ++ cs.toList.drop nw).toArray).drewN k := rfl
    simp only [Nat.add_zero, List.take_zero, List.nil_append, List.length_replicate, Nat.zero_add] at hs
    rw [hr] at hs
    obtain ⟨j, rfl⟩ : ∃ j, nw = j + 1 := ⟨nw - 1, by omega⟩
    simp [Builtin.clear_, run_underlying Try.underlying22, zero28, hz, hs]
  · exact ⟨rfl, rfl, rfl, by simp, fun g _ hg => setRow_other w bb g _ (fun e => hg (.inr e))⟩
  · simpa using hl
  · exact (setRow_other w bb b _ h.ne).trans h7
  · intro i hi
    refine ⟨0, by omega, ?_, fun j _ _ => by simp⟩
    have hi1 : i * 64 < s.size := hi
    have hi2 : i < nw := by omega
    simp [List.getElem?_append, hi2]

end Go.Proofs.Yticckhcdbcbooaa
