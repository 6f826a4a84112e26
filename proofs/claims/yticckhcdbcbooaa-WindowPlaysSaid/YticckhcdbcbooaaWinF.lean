/- What comes in: a slice of numbers, read as a list; the window over what else is made. -/
import Derived.Test.YticckhcdbcbooaaWinE
import Derived.OpenShut
import Derived.Deep.AppendLies
namespace Go.Proofs.Yticckhcdbcbooaa
open Go.RowKit Win

/- The slice's elements are xs. -/
structure Nums (w : World) (A : Option Addr) (len : Nat) (xs : List Nat) : Prop where
  sz : xs.length = len
  lt : ∀ x ∈ xs, x < 18446744073709551616
  mem : 0 < len → ∃ b off, A = some ⟨b, off, none⟩ ∧ b < w.heap.size ∧ ∀ i, i < len → w.cell? ⟨b, off + i, none⟩ = some (.int .u64 (xs.getD i 0 : Int))

theorem wf_u64 {n : Int} (h : (Lit.int .u64 n).wf = true) : 0 ≤ n ∧ n < 18446744073709551616 := by
  have := bounds_u64 h
  omega

theorem Nums.of_row {w : World} {a : Option Addr} {len cap : Nat} {zs : List Int}
    (h : (a = none ∧ len = 0 ∧ cap = 0 ∧ zs = []) ∨ ∃ x, a = some x ∧ len ≤ cap ∧ cap ≤ maxLen ∧ zs.length = cap ∧ (∀ i, i < zs.length → w.cell? (x.add i) = some (.int .u64 (zs.getD i 0))) ∧ ∀ n ∈ zs, (Lit.int .u64 n).wf = true) :
    ∃ xs, Nums w a len xs := by
  rcases h with ⟨rfl, rfl, rfl, rfl⟩ | ⟨x, rfl, hl, hm, hz, hcell, hwf⟩
  · exact ⟨[], rfl, by simp, fun h => absurd h (by omega)⟩
  · refine ⟨(zs.take len).map Int.toNat, by simp; omega, fun y hy => ?_, fun hpos => ?_⟩
    · obtain ⟨n, hn, rfl⟩ := List.mem_map.1 hy
      have := wf_u64 (hwf n (List.mem_of_mem_take hn))
      omega
    · obtain ⟨b, off, spot⟩ := x
      have hc := hcell 0 (by omega)
      have hspot : spot = none := by simpa [Addr.add] using World.cell?_spot hc
      subst hspot
      refine ⟨b, off, rfl, ?_, fun i hi => ?_⟩
      · have := World.block_lt_of_cell? w _ hc
        simpa [Addr.add] using this
      · have hc := hcell i (by omega)
        have e : (⟨b, off, none⟩ : Addr).add i = ⟨b, off + i, none⟩ := by unfold Addr.add; split <;> simp_all
        rw [e] at hc
        rw [hc]
        have hzi : zs[i]? = some (zs.getD i 0) := by rw [List.getD_eq_getElem?_getD, List.getElem?_eq_getElem (by omega)]; rfl
        have hw := wf_u64 (hwf (zs.getD i 0) (List.mem_of_getElem? hzi))
        have e2 : ((zs.take len).map Int.toNat).getD i 0 = (zs.getD i 0).toNat := by
          rw [List.getD_eq_getElem?_getD, List.getElem?_map, List.getElem?_take, if_pos hi, hzi]
          rfl
        rw [e2, Int.toNat_of_nonneg hw.1]

theorem Nums.below {w w' : World} {A : Option Addr} {len : Nat} {xs : List Nat} (h : Nums w A len xs) (hb : Below w.heap.size w w') : Nums w' A len xs :=
  ⟨h.sz, h.lt, fun hp => by
    obtain ⟨b, off, hA, hlt, hc⟩ := h.mem hp
    exact ⟨b, off, hA, Nat.lt_of_lt_of_le hlt hb.size, fun i hi => (hb.cell (p := ⟨b, off + i, none⟩) hlt).trans (hc i hi)⟩⟩

theorem Rep.below {w w' : World} {b bb B : Nat} {s : St} (h : Rep w b bb s) (hb : Below B w w') (h1 : b < B) (h2 : bb < B) : Rep w' b bb s := by
  obtain ⟨nw, cap, cs, h4, h5, h6, h7, h8, h9⟩ := h.rest
  exact ⟨h.lo, h.hi, h.hb, nw, cap, cs, h4, h5, h6, h7.below hb h1, h8.below hb h2, h9⟩

def cellsU (L : List Nat) : List Value := L.map fun n : Nat => Value.int .u64 (n : Int)

theorem Win.Inv.mem {s : St} {L L' : List Nat} (h : Inv s L) (hm : ∀ x, x ∈ L ↔ x ∈ L') : Inv s L' := by
  have he : L.isEmpty = L'.isEmpty := by
    cases L with
    | nil =>
      cases L' with
      | nil => rfl
      | cons a l => exact absurd ((hm a).2 (by simp)) (by simp)
    | cons a l =>
      cases L' with
      | nil => exact absurd ((hm a).1 (by simp)) (by simp)
      | cons b l' => rfl
  exact ⟨h.pos, by rw [h.any, he], fun ha => (hm _).1 (h.high ha), h.none, fun m hx => h.le m ((hm m).2 hx), fun ha m h1 h2 => (h.bits ha m h1 h2).trans (hm m)⟩

theorem Win.Inv.snoc {s : St} {L : List Nat} (h : Inv s L) {n : Nat} (h0 : s.may n = 0) : Inv (s.put n) (L ++ [n]) := (h.put h0).mem (fun x => by simp [or_comm])

theorem Win.Inv.new (size : Nat) (h : 1 ≤ size) : Inv (St.new size) [] := ⟨h, rfl, fun h => by simp [St.new] at h, fun _ => rfl, by simp, fun h => by simp [St.new] at h⟩

theorem Win.St.put_high (s : St) (n : Nat) (h : s.any = false → s.high = 0) : (s.put n).high = max s.high n := by
  cases ha : s.any with
  | false => simp [St.put, ha, h ha]
  | true => simp [St.put, ha]

theorem own_keeps {S : Nat → Prop} {w w' : World} {base size n : Nat} {e : TypeId} {v : Value} {xs : List Value} (h : w.ownsRow base e size v n xs) (hk : Keeps S w w') (hS : ∀ g, S g → g < base) : w'.ownsRow base e size v n xs := by
  obtain ⟨h1, h2⟩ := h
  refine ⟨h1, ?_⟩
  rcases h2 with h2 | ⟨g, cap, cur, hv, hg, hh, r⟩
  · exact .inl h2
  · refine .inr ⟨g, cap, cur, hv, hg, ?_, r⟩
    have hlt : g < w.heap.size := by
      rcases Nat.lt_or_ge g w.heap.size with hlt | hge
      · exact hlt
      · rw [Array.getElem?_eq_none hge] at hh; cases hh
    rw [hk.block g hlt (fun hs => by have := hS g hs; omega)]
    exact hh

theorem own_slice {w : World} {base size n : Nat} {e : TypeId} {v : Value} {xs : List Value} (h : w.ownsRow base e size v n xs) : ∃ A cap, v = .slice A n cap := by
  rcases h.2 with ⟨rfl, rfl⟩ | ⟨g, cap, cur, rfl, _⟩
  · exact ⟨none, 0, rfl⟩
  · exact ⟨_, _, rfl⟩

/- The cell of a number of a row of the call's own. -/
theorem own_cell {w : World} {base : Nat} {A : Option Addr} {cap : Nat} {L : List Nat} (h : w.ownsRow base 28 1 (.slice A L.length cap) L.length (cellsU L)) {i : Nat} (hi : i < L.length) :
    ∃ g, A = some ⟨g, 0, none⟩ ∧ w.cell? ⟨g, i, none⟩ = some (.int .u64 (L.getD i 0 : Int)) := by
  obtain ⟨g, cap', hv, _, hlt⟩ := h.form (by omega)
  have hA : A = some ⟨g, 0, none⟩ := by injection hv
  refine ⟨g, hA, ?_⟩
  subst hA
  have hc := h.cells (g := g) rfl i (.int .u64 (L.getD i 0 : Int)) (by simp [cellsU, List.getElem?_map, List.getElem?_eq_getElem hi, List.getD_eq_getElem?_getD])
  have e : (⟨g, 0, none⟩ : Addr).add i = ⟨g, i, none⟩ := by unfold Addr.add; split <;> simp_all
  rwa [e] at hc

def seenB (L : List Nat) (i n : Nat) : Bool := decide (n ∈ L.take i)
theorem seenB_zero (L : List Nat) (n : Nat) : seenB L 0 n = false := by simp [seenB]
theorem seenB_succ (L : List Nat) (i n : Nat) (hi : i < L.length) : seenB L (i + 1) n = (seenB L i n || (L.getD i 0 == n)) := by
  unfold seenB
  rw [List.take_succ_eq_append_getElem hi, List.getD_eq_getElem?_getD, List.getElem?_eq_getElem hi]
  rw [Bool.eq_iff_iff]
  simp only [List.mem_append, List.mem_singleton, decide_eq_true_eq, Bool.or_eq_true, beq_iff_eq, Option.getD_some]
  constructor
  · rintro (h | h)
    · exact .inl h
    · exact .inr h.symm
  · rintro (h | h)
    · exact .inl h
    · exact .inr h.symm
theorem seenB_all (L : List Nat) (n : Nat) : seenB L L.length n = decide (n ∈ L) := by simp [seenB]

/- What Mark answers, and what the law reckons beside it: seven ways. -/
theorem once_cases (s : St) (L : List Nat) (n : Nat) (h : Inv s L) :
    (s.any = false ∧ n ∉ L ∧ s.may n = 0) ∨
    (s.any = true ∧ s.high ≤ n ∧ n ∉ L ∧ s.may n = 0) ∨ (s.any = true ∧ s.high ≤ n ∧ n ∈ L ∧ s.may n = 9) ∨
    (s.any = true ∧ n < s.high ∧ s.size ≤ s.high - n ∧ s.may n = 170) ∨
    (s.any = true ∧ n < s.high ∧ s.high - n < s.size ∧ n ∉ L ∧ s.may n = 0) ∨ (s.any = true ∧ n < s.high ∧ s.high - n < s.size ∧ n ∈ L ∧ s.may n = 9) := by
  have hm := h.may n
  cases ha : s.any with
  | false =>
    have he : L = [] := by have := h.any; rw [ha] at this; simpa using this.symm
    subst he
    exact .inl ⟨rfl, by simp, by simpa using hm⟩
  | true =>
    have hne : L ≠ [] := by have := h.any; rw [ha] at this; intro e; subst e; simp at this
    by_cases h1 : s.high ≤ n
    · have h2 : ¬ n < s.high := by omega
      by_cases h3 : n ∈ L
      · exact .inr (.inr (.inl ⟨rfl, h1, h3, by simpa [h2, h3] using hm⟩))
      · exact .inr (.inl ⟨rfl, h1, h3, by simpa [h2, h3] using hm⟩)
    · have h2 : n < s.high := by omega
      by_cases h4 : s.size ≤ s.high - n
      · exact .inr (.inr (.inr (.inl ⟨rfl, h2, h4, by simpa [h2, h4, hne] using hm⟩)))
      · have h5 : s.high - n < s.size := by omega
        by_cases h3 : n ∈ L
        · exact .inr (.inr (.inr (.inr (.inr ⟨rfl, h2, h5, h3, by simpa [h2, h4, h3] using hm⟩))))
        · exact .inr (.inr (.inr (.inr (.inl ⟨rfl, h2, h5, h3, by simpa [h2, h4, h3] using hm⟩))))

end Go.Proofs.Yticckhcdbcbooaa
