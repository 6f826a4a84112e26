/- A map with string keys in memory, known whole: its operations as equations of the run. -/
import Derived.Test.YtbopmcdmahabbaaW
import Derived.Maps.RangeRun
namespace Go.Proofs.Ytbopmcdmahabbaa
open Go.RowKit
open Go.ChangeMaps (setBlock)

/- An entry: its key, its value, its stamp. -/
structure SE where
  tx : ByteArray
  val : Value
  born : Nat

def SE.entry (x : SE) : MapEntry := { key := .string x.tx, val := x.val, born := x.born }
def ents (L : List SE) : Array MapEntry := (L.map SE.entry).toArray
def MBlk (w : World) (m : Nat) (L : List SE) (clock : Nat) : Prop := w.heap[m]? = some (.map (ents L) clock)

theorem bytes_beq (a b : ByteArray) : (a == b) = true ↔ a = b := by
  rw [beq_toListBytes, beq_iff_eq, ByteArray.toList_eq, ByteArray.toList_eq]
  constructor
  · intro h
    obtain ⟨⟨x⟩⟩ := a
    obtain ⟨⟨y⟩⟩ := b
    simpa using h
  · rintro rfl
    rfl
theorem bytes_beq_comm (a b : ByteArray) : (a == b) = (b == a) := by
  rw [Bool.eq_iff_iff, bytes_beq, bytes_beq]
  exact ⟨Eq.symm, Eq.symm⟩

def at_ (L : List SE) (s : ByteArray) : Option Nat := L.findIdx? fun x => x.tx == s

theorem findNow_ents (s : ByteArray) (L : List SE) : ∀ i, Instr.findNow .string (.string s) (L.map SE.entry) i = some ((at_ L s).map fun j => (i + j, (L.getD j ⟨s, undef, 0⟩).val)) := by
  unfold at_
  induction L with
  | nil => intro i; rfl
  | cons x L ih =>
    intro i
    simp only [List.map_cons, Instr.findNow, SE.entry, Instr.sameNow, List.findIdx?_cons]
    rw [bytes_beq_comm s x.tx]
    cases h : x.tx == s with
    | true => simp [List.getD_cons_zero]
    | false =>
      have := ih (i + 1)
      simp only [this]
      cases L.findIdx? (fun x => x.tx == s) with
      | none => simp
      | some j => simp; omega

section
variable {P : Program} {T K E : TypeId} {w : World} {m clock : Nat} {L : List SE}

theorem MBlk.lt (h : MBlk w m L clock) : m < w.heap.size := by
  rcases Nat.lt_or_ge m w.heap.size with h1 | h1
  · exact h1
  · unfold MBlk at h; rw [Array.getElem?_eq_none h1] at h; cases h

theorem run_getObj_map {es : Array MapEntry} {c : Nat} (h : w.heap[m]? = some (.map es c)) : (getObj m).run P w = .ok (.map es c) w := by simp [getObj, Sem.run, h]
theorem run_setObj_map {es : Array MapEntry} {c : Nat} (h : w.heap[m]? = some (.map es c)) (o' : Obj) : (setObj m o').run P w = .ok () (setBlock w m o') := by simp [setObj, Sem.run, h, setBlock]

theorem run_checkKey_gen (n : Nat) (b : Bool) (s : Value) (hK : P.underlying K = some .string) : (Instr.checkKey b (n + 1) K s).run P w = .ok () w := by
  simp [Instr.checkKey, run_underlying hK]
theorem run_checkKey_string (b : Bool) (s : Value) (hK : P.underlying K = some .string) : (Instr.checkKey b 10000 K s).run P w = .ok () w := run_checkKey_gen 9999 b s hK

theorem run_findKey_sm (s : ByteArray) (hK : P.underlying K = some .string) : (Instr.findKey K (.string s) (L.map SE.entry)).run P w = .ok ((at_ L s).map fun j => (j, (L.getD j ⟨s, undef, 0⟩).val)) w := by
  simp [Instr.findKey, run_underlying hK, findNow_ents s L 0]

theorem run_lookup_sm (hT : P.underlying T = some (.map K E)) (hK : P.underlying K = some .string) (h : MBlk w m L clock) (s : ByteArray) {j : Nat} {x : SE} (hj : at_ L s = some j) (hx : L[j]? = some x) :
    (Instr.lookup T (.map (some m)) (.string s) true).run P w = .ok (.tuple #[x.val, .bool true]) w := by
  simp [Instr.lookup, run_underlying hT, run_getObj_map h, run_checkKey_string _ _ hK, ents, run_findKey_sm s hK, hj, hx, List.getD_eq_getElem?_getD]

theorem run_lookup_sm_none (hT : P.underlying T = some (.map K E)) (hK : P.underlying K = some .string) (h : MBlk w m L clock) (s : ByteArray) (hj : at_ L s = none) {z : Value} (hz : (zeroValue E).run P w = .ok z w) :
    (Instr.lookup T (.map (some m)) (.string s) true).run P w = .ok (.tuple #[z, .bool false]) w := by
  simp [Instr.lookup, run_underlying hT, run_getObj_map h, run_checkKey_string _ _ hK, ents, run_findKey_sm s hK, hj, hz]

theorem run_update_sm (hT : P.underlying T = some (.map K E)) (hK : P.underlying K = some .string) (h : MBlk w m L clock) (s : ByteArray) (hj : at_ L s = none) (v : Value) :
    (Instr.mapUpdate T (.map (some m)) (.string s) v).run P w = .ok () (setBlock w m (.map (ents (L ++ [⟨s, v, clock⟩])) (clock + 1))) := by
  simp [Instr.mapUpdate, run_underlying hT, run_getObj_map h, run_checkKey_string _ _ hK, ents, run_findKey_sm s hK, hj, run_setObj_map h, SE.entry]

theorem ents_erase (L : List SE) (j : Nat) : (ents L).eraseIdxIfInBounds j = ents (L.eraseIdx j) := by
  unfold ents
  rw [Go.ChangeMaps.map_eraseIdx]
  simp [Array.eraseIdxIfInBounds]
  intro h
  rw [List.eraseIdx_of_length_le (by simpa using h)]

theorem run_delete_sm (hT : P.underlying T = some (.map K E)) (hK : P.underlying K = some .string) (h : MBlk w m L clock) (s : ByteArray) {j : Nat} (hj : at_ L s = some j) (u : TypeId) (ty : TypeId) :
    (Builtin.delete_ #[T, u] ty #[.map (some m), .string s]).run P w = .ok (.tuple #[]) (setBlock w m (.map (ents (L.eraseIdx j)) clock)) := by
  have hf := run_findKey_sm (P := P) (w := w) (L := L) s hK
  rw [hj] at hf
  have he : (ents L).toList = L.map SE.entry := by simp [ents]
  simp [Builtin.delete_, run_underlying hT, run_getObj_map h, run_checkKey_string _ _ hK, he, hf, run_setObj_map h, ents_erase]

theorem Keeps.setBlock {S : Nat → Prop} {a : World} {r : Nat} (h : Keeps S a w) (hr : S r ∨ a.heap.size ≤ r) (o : Obj) : Keeps S a (setBlock w r o) :=
  ⟨h.os, h.tape, h.output, by simpa [Go.ChangeMaps.setBlock] using h.size, fun k hk hs => by
    have : r ≠ k := by rintro rfl; rcases hr with h1 | h1; exact hs h1; omega
    rw [← h.block k hk hs]
    simp [Go.ChangeMaps.setBlock, Array.getElem?_setIfInBounds, this]⟩

theorem MBlk.keep {S : Nat → Prop} {w' : World} (h : MBlk w m L clock) (hk : Keeps S w w') (hg : ¬ S m) : MBlk w' m L clock := (hk.block m h.lt hg).trans h
theorem MBlk.below {B : Nat} {w' : World} (h : MBlk w m L clock) (hb : Below B w w') (hg : m < B) : MBlk w' m L clock := (hb.block m hg).trans h
theorem MBlk.drewN (h : MBlk w m L clock) (n : Nat) : MBlk (w.drewN n) m L clock := h
theorem MBlk.set_ (h : MBlk w m L clock) (L' : List SE) (c' : Nat) : MBlk (setBlock w m (.map (ents L') c')) m L' c' := by
  have := h.lt
  unfold MBlk Go.ChangeMaps.setBlock
  simp [this]

/- A store at a key that is not there, and a delete of one that is: as a new world. -/
theorem update_sm (hT : P.underlying T = some (.map K E)) (hK : P.underlying K = some .string) (h : MBlk w m L clock) (s : ByteArray) (hj : at_ L s = none) (v : Value) :
    ∃ W, (Instr.mapUpdate T (.map (some m)) (.string s) v).run P w = .ok () W ∧ (Instr.mapUpdate T (.map (some m)) (.string s) v).run P w.drew = .ok () W.drew ∧ (∀ n, (Instr.mapUpdate T (.map (some m)) (.string s) v).run P (w.drewN n) = .ok () (W.drewN n)) ∧ Keeps (fun g => g = m) w W ∧ MBlk W m (L ++ [⟨s, v, clock⟩]) (clock + 1) :=
  ⟨setBlock w m (.map (ents (L ++ [(⟨s, v, clock⟩ : SE)])) (clock + 1)), run_update_sm hT hK h s hj v, run_update_sm (w := w.drew) hT hK h s hj v, fun n => run_update_sm hT hK (h.drewN n) s hj v, (Keeps.refl (fun g => g = m) w).setBlock (.inl rfl) _, h.set_ _ _⟩

theorem delete_sm (hT : P.underlying T = some (.map K E)) (hK : P.underlying K = some .string) (h : MBlk w m L clock) (s : ByteArray) {j : Nat} (hj : at_ L s = some j) :
    ∃ W, (∀ u ty, (Builtin.delete_ #[T, u] ty #[.map (some m), .string s]).run P w = .ok (.tuple #[]) W) ∧ (∀ n u ty, (Builtin.delete_ #[T, u] ty #[.map (some m), .string s]).run P (w.drewN n) = .ok (.tuple #[]) (W.drewN n)) ∧ Keeps (fun g => g = m) w W ∧ MBlk W m (L.eraseIdx j) clock :=
  ⟨setBlock w m (.map (ents (L.eraseIdx j)) clock), fun u ty => run_delete_sm hT hK h s hj u ty, fun n u ty => run_delete_sm hT hK (h.drewN n) s hj u ty, (Keeps.refl (fun g => g = m) w).setBlock (.inl rfl) _, h.set_ _ _⟩

def Iter (w : World) (r m since : Nat) (seen : Array Nat) (last : Nat) : Prop := w.heap[r]? = some (.mapIter (some m) since seen last)

theorem Iter.lt {r since last : Nat} {seen : Array Nat} (h : Iter w r m since seen last) : r < w.heap.size := by
  rcases Nat.lt_or_ge r w.heap.size with h1 | h1
  · exact h1
  · unfold Iter at h; rw [Array.getElem?_eq_none h1] at h; cases h

theorem run_range_sm (hT : P.underlying T = some (.map K E)) (h : MBlk w m L clock) : (Instr.range T (.map (some m))).run P w = .ok (.pointer (some ⟨w.heap.size, 0, none⟩)) (w.alloc (.mapIter (some m) clock #[] clock)) := by
  simp [Instr.range, run_underlying hT, run_getObj_map h]
theorem iter_new (w : World) (m clock : Nat) : Iter (w.alloc (.mapIter (some m) clock #[] clock)) w.heap.size m clock #[] clock := heap_alloc_new w _

/- One step of a range: nothing is left; or an entry that was not seen comes, and is seen. -/
theorem next_sm (ty : TypeId) {r since last : Nat} {seen : Array Nat} (hi : Iter w r m since seen last) (h : MBlk w m L clock) (hold : ∀ x ∈ L, x.born < since) (hsl : since ≤ last) (hn : (L.map (·.born)).Nodup) :
    ((∀ x ∈ L, x.born ∈ seen) ∧ (Instr.next (.pointer (some ⟨r, 0, none⟩)) false ty).run P w = .ok (.tuple #[.bool false]) w) ∨
    ∃ x ∈ L, x.born ∉ seen ∧ ∃ W, (Instr.next (.pointer (some ⟨r, 0, none⟩)) false ty).run P w = .ok (.tuple #[.bool true, .string x.tx, x.val]) W ∧
      (Instr.entry (.pointer (some ⟨r, 0, none⟩))).run P W = .ok (.tuple #[.string x.tx, x.val]) W ∧ Keeps (fun g => g = r) w W ∧ Iter W r m since (seen.push x.born) clock ∧ MBlk W m L clock := by
  have hmem : ∀ x ∈ (ents L).toList, ∃ y ∈ L, x = y.entry := by
    intro x hx
    simp only [ents, List.mem_map] at hx
    obtain ⟨y, hy, rfl⟩ := hx
    exact ⟨y, hy, rfl⟩
  have hold' : ∀ x ∈ (ents L).toList, x.born < since := by
    intro x hx
    obtain ⟨y, hy, rfl⟩ := hmem x hx
    exact hold y hy
  have hrm : r ≠ m := by
    rintro rfl
    unfold Iter at hi
    unfold MBlk at h
    rw [hi] at h
    cases h
  rcases run_next_at (P := P) w ty r m since last seen (ents L) clock hi h hold' hsl with ⟨h0, hrun⟩ | ⟨e, he, w1, hw1, hrun⟩
  · refine .inl ⟨fun x hx => ?_, hrun⟩
    have h1 : leftOf (ents L) seen = #[] := Array.eq_empty_of_size_eq_zero h0
    unfold leftOf at h1
    rw [Array.filter_eq_empty_iff] at h1
    have := h1 x.entry (by simp only [ents, List.mem_toArray]; exact List.mem_map_of_mem hx)
    simpa [SE.entry] using this
  · right
    have he' : e ∈ (ents L).toList ∧ e.born ∉ seen := by
      unfold leftOf at he
      simpa using he
    obtain ⟨y, hy, rfl⟩ := hmem e he'.1
    refine ⟨y, hy, he'.2, setBlock w1 r (.mapIter (some m) since (seen.push y.born) clock), hrun, ?_, ?_, ?_, ?_⟩
    all_goals
      have hw : w1.heap = w.heap := by rcases hw1 with rfl | rfl <;> rfl
      have hlt : r < w1.heap.size := by rw [hw]; exact hi.lt
    · refine run_entry_at _ r m since seen (ents L) clock y.entry ?_ ?_ he'.1 ?_
      · simp [Go.ChangeMaps.setBlock, hlt, SE.entry]
      · have : w1.heap[m]? = some (.map (ents L) clock) := by rw [hw]; exact h
        simpa [Go.ChangeMaps.setBlock, Array.getElem?_setIfInBounds, hrm] using this
      · have e1 : (ents L).toList.map (fun x => x.born) = L.map (fun x => x.born) := by simp [ents, SE.entry, Function.comp_def]
        rw [e1]
        exact hn
    · have k0 : Keeps (fun g => g = r) w w1 := by
        rcases hw1 with rfl | rfl
        · exact Keeps.refl _ _
        · exact (Keeps.refl _ _).drew
      exact k0.setBlock (.inl rfl) _
    · simp [Iter, Go.ChangeMaps.setBlock, hlt]
    · have : w1.heap[m]? = some (.map (ents L) clock) := by rw [hw]; exact h
      simpa [MBlk, Go.ChangeMaps.setBlock, Array.getElem?_setIfInBounds, hrm] using this

/- How many entries the iterator in block r has not seen. -/
def unseen (L : List SE) (r : Nat) (w : World) : Nat :=
  match w.heap[r]? with
  | some (.mapIter _ _ seen _) => (L.filter fun x => !seen.contains x.born).length
  | _ => 0
theorem unseen_eq {r since last : Nat} {seen : Array Nat} (h : Iter w r m since seen last) (L : List SE) : unseen L r w = (L.filter fun x => !seen.contains x.born).length := by
  unfold Iter at h
  unfold unseen
  rw [h]

theorem filter_len_lt {α : Type} (p q : α → Bool) (L : List α) (hpq : ∀ x, q x = true → p x = true) {a : α} (ha : a ∈ L) (hp : p a = true) (hq : q a = false) : (L.filter q).length < (L.filter p).length := by
  induction L with
  | nil => cases ha
  | cons y L ih =>
    have hle : (L.filter q).length ≤ (L.filter p).length := by
      clear ih ha
      induction L with
      | nil => simp
      | cons z L ih =>
        simp only [List.filter_cons]
        cases hz : q z with
        | true => simp [hpq z hz]; exact ih
        | false =>
          cases p z with
          | true => simp; omega
          | false => simpa using ih
    simp only [List.filter_cons]
    rcases List.mem_cons.1 ha with rfl | ha
    · simp [hp, hq]; omega
    · have := ih ha
      cases hy : q y with
      | true => simp [hpq y hy]; omega
      | false =>
        cases p y with
        | true => simp; omega
        | false => simpa using this

theorem unseen_lt {L : List SE} {seen : Array Nat} {x : SE} (hx : x ∈ L) (hn : x.born ∉ seen) : (L.filter fun y => !(seen.push x.born).contains y.born).length < (L.filter fun y => !seen.contains y.born).length := by
  refine filter_len_lt _ _ L (fun y hy => ?_) hx ?_ ?_
  · simp at hy ⊢
    exact hy.1
  · simpa using hn
  · simp

end
end Go.Proofs.Ytbopmcdmahabbaa
