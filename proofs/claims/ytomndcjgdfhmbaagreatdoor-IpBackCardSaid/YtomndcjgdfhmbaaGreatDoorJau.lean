/- Joined out of: FrB. -/
import Derived.Test.YtomndcjgdfhmbaaGreatDoorJat
set_option linter.unusedVariables false
set_option linter.unusedSimpArgs false

/- The frame of the Ip laws: addresses, packets and prefixes as they come in. -/
namespace Go.Proofs.YtomndcjgdfhmbaaGreatDoor
open Go.ChangeShapes Go.WideShapes Go.ChangeAt Go.RowKit

section
variable {H : Type} {enc : TypeId × Value → H} {w : World} {base : Nat} {sp : Nat → Bool} {held : Bool}
theorem nat_of {k : IntKind} {z : Int} (h : (Lit.int k z).wf = true) (hk : k = .u64 ∨ k = .u8) : ∃ n : Nat, z = (n : Int) ∧ (k = .u64 → n < 18446744073709551616) ∧ (k = .u8 → n < 256) := by
  rcases hk with rfl | rfl
  · have hx : 0 ≤ z ∧ z ≤ 18446744073709551615 := by simpa [Lit.wf, IntKind.min, IntKind.max, IntKind.signed, IntKind.bits] using h
    exact ⟨z.toNat, by omega, fun _ => by omega, fun e => (by cases e)⟩
  · have hx : 0 ≤ z ∧ z ≤ 255 := by simpa [Lit.wf, IntKind.min, IntKind.max, IntKind.signed, IntKind.bits] using h
    exact ⟨z.toNat, by omega, fun e => (by cases e), fun _ => by omega⟩
theorem c24 : Tryz.prog.cellsOf 24 = 3 := by kernel_rfl
theorem c26 : Tryz.prog.cellsOf 26 = 9 := by kernel_rfl
theorem c39 : Tryz.prog.cellsOf 39 = 4 := by kernel_rfl
theorem c4 : Tryz.prog.cellsOf 4 = 1 := by kernel_rfl
theorem c5 : Tryz.prog.cellsOf 5 = 1 := by kernel_rfl
theorem c9 : Tryz.prog.cellsOf 9 = 1 := by kernel_rfl
theorem c22 : Tryz.prog.cellsOf 22 = 1 := by kernel_rfl

set_option maxRecDepth 100000 in
theorem ad_of {fuel : Nat} {cs : List Value} {x : DataW H × List MemPlace} (h : DataW.trod enc Tryz.prog w base sp held fuel 24 cs = some x) : ∃ a : Ad, a.Ok ∧ cs = a.cells.toList := by
  obtain ⟨xs, n, _, rfl, hl, hlen, hf⟩ := DataW.trod_struct Tryz.underlying24 h
  rw [c24] at hl
  match cs, hl with
  | [v0, v1, v2], _ =>
    have h0 := hf 0 _ rfl
    have h1 := hf 1 _ rfl
    have h2 := hf 2 _ rfl
    rw [List.getElem?_eq_getElem (show 0 < xs.length by rw [hlen]; decide)] at h0
    rw [List.getElem?_eq_getElem (show 1 < xs.length by rw [hlen]; decide)] at h1
    rw [List.getElem?_eq_getElem (show 2 < xs.length by rw [hlen]; decide)] at h2
    obtain ⟨b, e0, _⟩ := DataW.trod_bool Tryz.underlying4 h0
    obtain ⟨z1, e1, _, w1⟩ := DataW.trod_int Tryz.underlying22 h1
    obtain ⟨z2, e2, _, w2⟩ := DataW.trod_int Tryz.underlying22 h2
    simp [c4, c22] at e0 e1 e2
    subst e0 e1 e2
    obtain ⟨n1, rfl, k1, _⟩ := nat_of w1 (Or.inl rfl)
    obtain ⟨n2, rfl, k2, _⟩ := nat_of w2 (Or.inl rfl)
    exact ⟨⟨b, n1, n2⟩, ⟨k1 rfl, k2 rfl⟩, rfl⟩
set_option maxRecDepth 100000 in
theorem pk_of {fuel : Nat} {cs : List Value} {x : DataW H × List MemPlace} (h : DataW.trod enc Tryz.prog w base sp held fuel 26 cs = some x) : ∃ p : Pk, p.Pre ∧ cs = p.cells.toList := by
  obtain ⟨xs, n, _, rfl, hl, hlen, hf⟩ := DataW.trod_struct Tryz.underlying26 h
  rw [c26] at hl
  match cs, hl with
  | [v0, v1, v2, v3, v4, v5, v6, v7, v8], _ =>
    have h0 := hf 0 _ rfl
    have h1 := hf 1 _ rfl
    have h2 := hf 2 _ rfl
    have h3 := hf 3 _ rfl
    have h4 := hf 4 _ rfl
    rw [List.getElem?_eq_getElem (show 0 < xs.length by rw [hlen]; decide)] at h0
    rw [List.getElem?_eq_getElem (show 1 < xs.length by rw [hlen]; decide)] at h1
    rw [List.getElem?_eq_getElem (show 2 < xs.length by rw [hlen]; decide)] at h2
    rw [List.getElem?_eq_getElem (show 3 < xs.length by rw [hlen]; decide)] at h3
    rw [List.getElem?_eq_getElem (show 4 < xs.length by rw [hlen]; decide)] at h4
    obtain ⟨a, ha, e0⟩ := ad_of h0
    obtain ⟨b, hb, e1⟩ := ad_of h1
    obtain ⟨z2, e2, _, w2⟩ := DataW.trod_int Tryz.underlying5 h2
    obtain ⟨z3, e3, _, w3⟩ := DataW.trod_int Tryz.underlying5 h3
    obtain ⟨s, e4, _, _⟩ := DataW.trod_string Tryz.underlying9 h4
    simp [c24, c5, c9, Ad.cells] at e0 e1 e2 e3 e4
    obtain ⟨rfl, rfl, rfl⟩ := e0
    obtain ⟨rfl, rfl, rfl⟩ := e1
    subst e2 e3 e4
    obtain ⟨n2, rfl, _, k2⟩ := nat_of w2 (Or.inr rfl)
    obtain ⟨n3, rfl, _, k3⟩ := nat_of w3 (Or.inr rfl)
    exact ⟨⟨a, b, n2, n3, s⟩, ⟨ha, hb, k2 rfl, k3 rfl⟩, rfl⟩
set_option maxRecDepth 100000 in
theorem pf_of {fuel : Nat} {cs : List Value} {x : DataW H × List MemPlace} (h : DataW.trod enc Tryz.prog w base sp held fuel 39 cs = some x) : ∃ p : Pf, p.Ok ∧ cs = p.cells.toList := by
  obtain ⟨xs, n, _, rfl, hl, hlen, hf⟩ := DataW.trod_struct Tryz.underlying39 h
  rw [c39] at hl
  match cs, hl with
  | [v0, v1, v2, v3], _ =>
    have h0 := hf 0 _ rfl
    have h1 := hf 1 _ rfl
    rw [List.getElem?_eq_getElem (show 0 < xs.length by rw [hlen]; decide)] at h0
    rw [List.getElem?_eq_getElem (show 1 < xs.length by rw [hlen]; decide)] at h1
    obtain ⟨a, ha, e0⟩ := ad_of h0
    obtain ⟨z1, e1, _, w1⟩ := DataW.trod_int Tryz.underlying5 h1
    simp [c24, c5, Ad.cells] at e0 e1
    obtain ⟨rfl, rfl, rfl⟩ := e0
    subst e1
    obtain ⟨n1, rfl, _, k1⟩ := nat_of w1 (Or.inr rfl)
    exact ⟨⟨a, n1⟩, ⟨ha, k1 rfl⟩, rfl⟩
end
section
variable {H : Type} {enc : TypeId × Value → H} {W : World} {base b0 : Nat} {sp : Nat → Bool} {held : Bool} {v : Value} {d : DataW H} {p : List MemPlace}
set_option maxRecDepth 100000 in
theorem open_ad (hv : Value.okWide Tryz.prog W .any b0 24 v) (h : DataW.Trod enc Tryz.prog W base sp held 24 v d p) : ∃ a : Ad, a.Ok ∧ v = .agg a.cells := by
  obtain ⟨cs, rfl, _⟩ := okWide_struct Tryz.underlying24 hv
  obtain ⟨fuel, hf⟩ := h
  obtain ⟨a, ok, e⟩ := ad_of hf
  exact ⟨a, ok, congrArg Value.agg (Array.ext' e)⟩
set_option maxRecDepth 100000 in
theorem open_pk (hv : Value.okWide Tryz.prog W .any b0 26 v) (h : DataW.Trod enc Tryz.prog W base sp held 26 v d p) : ∃ a : Pk, a.Pre ∧ v = .agg a.cells := by
  obtain ⟨cs, rfl, _⟩ := okWide_struct Tryz.underlying26 hv
  obtain ⟨fuel, hf⟩ := h
  obtain ⟨a, ok, e⟩ := pk_of hf
  exact ⟨a, ok, congrArg Value.agg (Array.ext' e)⟩
set_option maxRecDepth 100000 in
theorem open_pf (hv : Value.okWide Tryz.prog W .any b0 39 v) (h : DataW.Trod enc Tryz.prog W base sp held 39 v d p) : ∃ a : Pf, a.Ok ∧ v = .agg a.cells := by
  obtain ⟨cs, rfl, _⟩ := okWide_struct Tryz.underlying39 hv
  obtain ⟨fuel, hf⟩ := h
  obtain ⟨a, ok, e⟩ := pf_of hf
  exact ⟨a, ok, congrArg Value.agg (Array.ext' e)⟩
end
theorem laidOut : laidOutB Tryz.prog = true := by kernel_rfl
end Go.Proofs.YtomndcjgdfhmbaaGreatDoor
