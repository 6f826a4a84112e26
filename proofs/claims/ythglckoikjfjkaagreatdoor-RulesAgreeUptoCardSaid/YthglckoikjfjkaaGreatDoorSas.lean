/- Joined out of: PzD SoA SoC OwA. -/
import Derived.Test.YthglckoikjfjkaaGreatDoorSal
import Derived.Test.YthglckoikjfjkaaGreatDoorSar
import Derived.Test.YthglckoikjfjkaaGreatDoorSan
import Derived.Sort.Grow
import Derived.Deep.Draws
import Derived.Test.YthglckoikjfjkaaGreatDoorSag
import Derived.Test.YthglckoikjfjkaaGreatDoorSao
import Derived.Test.YthglckoikjfjkaaGreatDoorSaq
import Derived.Laws.OwnMore
set_option linter.unusedVariables false
set_option linter.unusedSimpArgs false

/- The frame of the rules laws: nodes, a head, flows as they come in. -/
namespace Go.Proofs.YthglckoikjfjkaaGreatDoor
open Go.ChangeShapes Go.WideShapes Go.ChangeAt Go.RowKit Go.Deep

theorem d30 : Tryz.prog.cellsOf 290 = 4 := by kernel_rfl
theorem d31 : Tryz.prog.cellsOf 53 = 8 := by kernel_rfl
theorem d32 : Tryz.prog.cellsOf 28 = 1 := by kernel_rfl
theorem d33 : Tryz.prog.cellsOf 51 = 1 := by kernel_rfl
theorem d35 : Tryz.prog.cellsOf 43 = 9 := by kernel_rfl
def enList (x : Ad × Nat) : List Value := [.bool x.1.v6, .int .u64 (x.1.hi : Int), .int .u64 (x.1.lo : Int), .int .u16 (x.2 : Int)]
def enCells (l : List (Ad × Nat)) : List Value := l.flatMap enList
theorem en_one (l : List (Ad × Nat)) : ∀ u ∈ enCells l, u.oneCell' = true := by
  intro u hu
  obtain ⟨s, _, hs⟩ := List.mem_flatMap.1 hu
  simp [enList] at hs
  rcases hs with rfl | rfl | rfl | rfl <;> rfl
/- A node as it comes in. -/
structure PeIn (w : World) (X : PeV) : Prop where
  mem : PeMem w X
  ends : ∃ es : List (Ad × Nat), RowR w X.en es.length 4 (enCells es) ∧ es.length ≤ 1048576
  ok : ∀ b ∈ X.x.addrs, b.Ok
  tl : X.x.tags.length ≤ 1048576
  al : X.x.addrs.length ≤ 1048576
theorem PeIn.below {w w' : World} {X : PeV} (h : PeIn w X) (hb : Below w.heap.size w w') : PeIn w' X := by
  obtain ⟨es, h1, h2⟩ := h.ends
  exact ⟨h.mem.below hb, ⟨es, h1.below hb, h2⟩, h.ok, h.tl, h.al⟩
section
variable {H : Type} {enc : TypeId × Value → H} {w : World} {base : Nat} {sp : Nat → Bool} {held : Bool}
theorem el_addr : ∀ n cs y, DataW.trod enc Tryz.prog w base sp held n 40 cs = some y → ∃ x : Ad, cs = x.cells.toList ∧ x.Ok := by
  intro n cs y h
  obtain ⟨a, ha, rfl⟩ := el_ad h
  exact ⟨a, rfl, ha⟩
theorem el_u16 : ∀ n cs y, DataW.trod enc Tryz.prog w base sp held n 41 cs = some y → ∃ x : Nat, cs = [.int .u16 (x : Int)] ∧ x < 65536 := by
  intro n cs y h
  obtain ⟨z, rfl, _, hw⟩ := DataW.trod_int Tryz.underlying41 h
  obtain ⟨m, rfl, hm⟩ := nat_k (b := 65535) hw ⟨by decide, by decide⟩
  exact ⟨m, rfl, by omega⟩
theorem el_u64 : ∀ n cs y, DataW.trod enc Tryz.prog w base sp held n 38 cs = some y → ∃ x : Nat, cs = [.int .u64 (x : Int)] ∧ x < 18446744073709551616 := by
  intro n cs y h
  obtain ⟨z, rfl, _, hw⟩ := DataW.trod_int Tryz.underlying38 h
  obtain ⟨m, rfl, hm⟩ := nat_k (b := 18446744073709551615) hw ⟨by decide, by decide⟩
  exact ⟨m, rfl, by omega⟩
set_option maxRecDepth 100000 in
theorem el_en : ∀ n cs y, DataW.trod enc Tryz.prog w base sp held n 290 cs = some y → ∃ x : Ad × Nat, cs = enList x ∧ True := by
  intro n cs y h
  obtain ⟨xs, n, _, rfl, hl, hlen, hf⟩ := DataW.trod_struct Tryz.underlying290 h
  rw [d30] at hl
  match cs, hl with
  | [v0, v1, v2, v3], _ =>
    have h0 := hf 0 _ rfl
    have h1 := hf 1 _ rfl
    rw [List.getElem?_eq_getElem (show 0 < xs.length by rw [hlen]; decide)] at h0
    rw [List.getElem?_eq_getElem (show 1 < xs.length by rw [hlen]; decide)] at h1
    obtain ⟨a, ha, e0⟩ := el_ad h0
    obtain ⟨m, e1, k1⟩ := el_u16 _ _ _ h1
    simp [d11, d6, Ad.cells] at e0 e1
    obtain ⟨rfl, rfl, rfl⟩ := e0
    subst e1
    exact ⟨(a, m), rfl, trivial⟩
set_option maxRecDepth 100000 in
theorem el_pe : ∀ n cs y, DataW.trod enc Tryz.prog w base sp held n 53 cs = some y → ∃ X : PeV, cs = X.cells.toList ∧ (Rows.uptoBulk y.1 ≤ 1048576 → PeIn w X) := by
  intro n cs y h
  obtain ⟨xs, n, _, rfl, hl, hlen, hf⟩ := DataW.trod_struct Tryz.underlying53 h
  rw [d31] at hl
  match cs, hl with
  | [v0, v1, v2, v3, v4, v5, v6, v7], _ =>
    have h0 := hf 0 _ rfl
    have h1 := hf 1 _ rfl
    have h2 := hf 2 _ rfl
    have h3 := hf 3 _ rfl
    have h4 := hf 4 _ rfl
    have h5 := hf 5 _ rfl
    have h6 := hf 6 _ rfl
    have h7 := hf 7 _ rfl
    obtain ⟨y3, g3⟩ : ∃ z, xs[3]? = some z := ⟨_, List.getElem?_eq_getElem (show 3 < xs.length by rw [hlen]; decide)⟩
    obtain ⟨y4, g4⟩ : ∃ z, xs[4]? = some z := ⟨_, List.getElem?_eq_getElem (show 4 < xs.length by rw [hlen]; decide)⟩
    obtain ⟨y7, g7⟩ : ∃ z, xs[7]? = some z := ⟨_, List.getElem?_eq_getElem (show 7 < xs.length by rw [hlen]; decide)⟩
    rw [List.getElem?_eq_getElem (show 0 < xs.length by rw [hlen]; decide)] at h0
    rw [List.getElem?_eq_getElem (show 1 < xs.length by rw [hlen]; decide)] at h1
    rw [List.getElem?_eq_getElem (show 2 < xs.length by rw [hlen]; decide)] at h2
    rw [List.getElem?_eq_getElem (show 5 < xs.length by rw [hlen]; decide)] at h5
    rw [List.getElem?_eq_getElem (show 6 < xs.length by rw [hlen]; decide)] at h6
    rw [g3] at h3
    rw [g4] at h4
    rw [g7] at h7
    obtain ⟨s0, e0, _⟩ := el_str _ _ _ h0
    obtain ⟨s1, e1, _⟩ := el_str _ _ _ h1
    obtain ⟨s2, e2, _⟩ := el_str _ _ _ h2
    obtain ⟨l3, u3, e3, r3, q3, b3, c3⟩ := open_row Tryz.underlying50 1 (by decide) d9 (fun x => [Value.string x]) (fun _ => rfl) (fun D x => x.size < Rows.uptoBulk D) el_str h3
    obtain ⟨l4, u4, e4, r4, q4, b4, c4⟩ := open_row Tryz.underlying28 3 (by decide) d11 (fun x : Ad => x.cells.toList) (fun _ => rfl) (fun _ x => x.Ok) el_addr h4
    obtain ⟨n5, e5, _⟩ := el_u64 _ _ _ h5
    obtain ⟨n6, e6, _⟩ := el_u8 _ _ _ h6
    obtain ⟨l7, u7, e7, r7, q7, b7, c7⟩ := open_row Tryz.underlying51 4 (by decide) d30 enList (fun _ => rfl) (fun _ _ => True) el_en h7
    rw [str_flat] at r3
    simp [d9, d19, d32, d10, d5, d33] at e0 e1 e2 e3 e4 e5 e6 e7
    subst e0 e1 e2 e3 e4 e5 e6 e7
    refine ⟨⟨⟨s2, l3, l4⟩, s0, s1, v3, v4, n5, n6, v7⟩, rfl, fun hk' => ?_⟩
    have hk : Rows.uptoBulk (DataW.agg (xs.map (·.1))) ≤ 1048576 := hk'
    have k3 := bulk_agg g3
    have k4 := bulk_agg g4
    have k7 := bulk_agg g7
    obtain ⟨A7, c7', e7'⟩ := r7.shape
    refine ⟨⟨r3, r4, ⟨A7, _, c7', e7'⟩, by show l3.length ≤ _; omega, by show l4.length ≤ _; omega⟩, ⟨l7, r7, by omega⟩, fun b hb => ?_, by show l3.length ≤ _; omega, by show l4.length ≤ _; omega⟩
    obtain ⟨D, h5, _⟩ := q4 b hb
    exact h5
/- The nodes that come in. -/
set_option maxRecDepth 100000 in
theorem open_pes {b0 : Nat} {v : Value} {d : DataW H} {p : List MemPlace} (hv : Value.okWide Tryz.prog w .any b0 27 v) (h : DataW.Trod enc Tryz.prog w base sp held 27 v d p) (hk : Rows.uptoBulk d ≤ 1048576) :
    ∃ xs : List PeV, RowR w v xs.length 8 (peCells xs) ∧ (∀ X ∈ xs, PeIn w X) ∧ xs.length ≤ 1048576 ∧ ∀ A n c, v = .slice A n c → n ≤ c := by
  obtain ⟨fuel, hfu⟩ := h
  obtain ⟨l, u, e, r, q, b, c⟩ := open_row Tryz.underlying27 8 (by decide) d31 (fun X : PeV => X.cells.toList) (fun _ => rfl) (fun D X => Rows.uptoBulk D ≤ 1048576 → PeIn w X) el_pe hfu
  obtain ⟨a, n, cc, rfl⟩ := okWide_slice Tryz.underlying27 hv
  simp [Value.cells] at e
  subst e
  simp only at b q
  exact ⟨l, r, fun X hX => by obtain ⟨D, h5, h6⟩ := q X hX; exact h5 (by omega), by omega, c⟩
end
end Go.Proofs.YthglckoikjfjkaaGreatDoor

/- Contracts that say what a function lays and draws (for a sort): the walks. -/
namespace Go.Proofs.YthglckoikjfjkaaGreatDoor
open Go.RowKit
attribute [local go_sem ↓] Go.wp_at_zero Go.wp_at_succ

/-- Some draws, some blocks behind. -/
def Grew (w w' : World) : Prop := ∃ (q : Nat) (os : Array Obj), w' = Sort.grow (w.drewN q) os
theorem Grew.below {w w' : World} (h : Grew w w') : Below w.heap.size w w' := by
  obtain ⟨q, os, rfl⟩ := h
  exact ⟨rfl, rfl, rfl, by simp [Sort.grow, World.drewN], fun k hk => by simp [Sort.grow, World.drewN, Array.getElem?_append, hk]⟩
theorem Grew.alloc (w : World) (o : Obj) : Grew w (w.alloc o) := ⟨0, #[o], by rw [Sort.alloc_eq_grow]; rfl⟩
theorem Grew.trans {a b c : World} (h : Grew a b) (k : Grew b c) : Grew a c := by
  obtain ⟨q, os, rfl⟩ := h
  obtain ⟨q', os', rfl⟩ := k
  exact ⟨q + q', os ++ os', by simp [Sort.grow, World.drewN, Nat.add_assoc, Array.append_assoc]⟩
theorem two_grew (w : World) (o o' : Obj) : Grew w ((w.alloc o).alloc o') := (Grew.alloc w o).trans (Grew.alloc _ o')
def GotG (v : Value) (w : World) (r : Ending) (w' : World) : Prop := r = .returned v ∧ Grew w w'
set_option maxHeartbeats 2000000 in
theorem lessG_any (a b : Ad) (w : World) : Calls Tryz.prog 55 #[.agg a.cells, .agg b.cells] w (GotG (.bool (lessA a b)) w) := by
  obtain ⟨v, x, l⟩ := a
  obtain ⟨v', x', l'⟩ := b
  unfold Ad.cells lessA
  simp only
  cases v
  all_goals cases v'
  case false.true | true.false =>
    go_enter Tryz.func55, Tryz.ntmps55
    go_wp2_with fail
    go_ret
    exact ⟨rfl, two_grew _ _ _⟩
  all_goals
    by_cases e : x = x'
    · subst e
      rw [if_neg (by decide), if_neg (by simp)]
      go_enter Tryz.func55, Tryz.ntmps55
      go_wp2_with fail
      go_ret
      exact ⟨rfl, two_grew _ _ _⟩
    · have e1 : ((x : Int) != (x' : Int)) = true := by simp; omega
      rw [if_neg (by decide), if_pos e]
      have He := Lib.hid e
      clear e
      go_enter Tryz.func55, Tryz.ntmps55
      go_wp2_with fail
      go_ret
      exact ⟨rfl, two_grew _ _ _⟩
set_option maxHeartbeats 2000000 in
theorem compareG_any (a b : Ad) (w : World) : Calls Tryz.prog 25 #[.agg a.cells, .agg b.cells] w (GotG (.int .i64 (cmpA a b)) w) := by
  have h1 := fun u => lessG_any a b u
  have h2 := fun u => lessG_any b a u
  unfold cmpA
  generalize lessA a b = L at h1 ⊢
  generalize lessA b a = L' at h2 ⊢
  obtain ⟨v, x, l⟩ := a
  obtain ⟨v', x', l'⟩ := b
  unfold Ad.cells at h1 h2 ⊢
  simp only at h1 h2 ⊢
  have H1 := Lib.hid h1
  have H2 := Lib.hid h2
  clear h1 h2
  have HB := Lib.hid (two_grew w (.cells #[.bool v, .int .u64 (x : Int), .int .u64 (l : Int)] 40) (.cells #[.bool v', .int .u64 (x' : Int), .int .u64 (l' : Int)] 40))
  have A0 := Blk.new w 40 #[.bool v, .int .u64 (x : Int), .int .u64 (l : Int)]
  have B0 := Blk.new (w.alloc (.cells #[.bool v, .int .u64 (x : Int), .int .u64 (l : Int)] 40)) 40 #[.bool v', .int .u64 (x' : Int), .int .u64 (l' : Int)]
  have A1 := A0.below (boxed _ (.cells #[.bool v', .int .u64 (x' : Int), .int .u64 (l' : Int)] 40)) A0.lt
  rw [show (w.alloc (.cells #[.bool v, .int .u64 (x : Int), .int .u64 (l : Int)] 40)).heap.size = w.heap.size + 1 by simp] at B0
  go_enter Tryz.func25, Tryz.ntmps25
  go_upto_region 1 with fail
  generalize (w.alloc (.cells #[.bool v, .int .u64 (x : Int), .int .u64 (l : Int)] 40)).alloc (.cells #[.bool v', .int .u64 (x' : Int), .int .u64 (l' : Int)] 40) = w1 at A1 B0 HB ⊢
  generalize w.heap.size + 1 = B at B0 ⊢
  have HA1 := Lib.hid A1
  have HB1 := Lib.hid B0
  clear A0 A1 B0
  have a0 := HA1.out.cell 0
  have a1 := HA1.out.cell 1
  have a2 := HA1.out.cell 2
  have b0 := HB1.out.cell 0
  have b1 := HB1.out.cell 1
  have b2 := HB1.out.cell 2
  simp at a0 a1 a2 b0 b1 b2
  cases L with
  | true =>
    go_wp2_with (go_at_call 55; (with_reducible refine (H1.out _).mono ?_); rintro r w2 ⟨rfl, d2⟩)
    go_ret
    exact ⟨rfl, HB.out.trans d2⟩
  | false =>
    go_upto_region 3 with (go_at_call 55; (with_reducible refine (H1.out _).mono ?_); rintro r w2 ⟨rfl, d2⟩)
    have HA2 := Lib.hid (HA1.out.below d2.below HA1.out.lt)
    have HB2 := Lib.hid (HB1.out.below d2.below HB1.out.lt)
    have HW2 := Lib.hid (HB.out.trans d2)
    clear a0 a1 a2 b0 b1 b2 HA1 HB1 HB d2
    have a0 := HA2.out.cell 0
    have a1 := HA2.out.cell 1
    have a2 := HA2.out.cell 2
    have b0 := HB2.out.cell 0
    have b1 := HB2.out.cell 1
    have b2 := HB2.out.cell 2
    simp at a0 a1 a2 b0 b1 b2
    cases L' with
    | true =>
      go_wp2_with (go_at_call 55; (with_reducible refine (H2.out _).mono ?_); rintro r w3 ⟨rfl, d3⟩)
      go_ret
      exact ⟨rfl, HW2.out.trans d3⟩
    | false =>
      go_wp2_with (go_at_call 55; (with_reducible refine (H2.out _).mono ?_); rintro r w3 ⟨rfl, d3⟩)
      go_ret
      exact ⟨rfl, HW2.out.trans d3⟩

set_option maxHeartbeats 4000000 in
theorem norm2_any (a b : Sp) (w : World) : Calls Tryz.prog 44 #[.agg a.cells, .agg b.cells] w (GotG (.int .i64 (cmpA a.1 b.1)) w) := by
  have h1 := fun u => compareG_any a.1 b.1 u
  generalize cmpA a.1 b.1 = R at h1 ⊢
  obtain ⟨⟨v, x, l⟩, ⟨y1, y2, y3⟩⟩ := a
  obtain ⟨⟨v', x', l'⟩, ⟨z1, z2, z3⟩⟩ := b
  unfold Ad.cells at h1
  unfold Sp.cells
  simp only at h1 ⊢
  have H1 := Lib.hid h1
  clear h1
  have HB := Lib.hid (two_grew w (.cells #[.bool v, .int .u64 (x : Int), .int .u64 (l : Int), .bool y1, .int .u64 (y2 : Int), .int .u64 (y3 : Int)] 73) (.cells #[.bool v', .int .u64 (x' : Int), .int .u64 (l' : Int), .bool z1, .int .u64 (z2 : Int), .int .u64 (z3 : Int)] 73))
  have A0 := Blk.new w 73 #[.bool v, .int .u64 (x : Int), .int .u64 (l : Int), .bool y1, .int .u64 (y2 : Int), .int .u64 (y3 : Int)]
  have B0 := new2 w (.cells #[.bool v, .int .u64 (x : Int), .int .u64 (l : Int), .bool y1, .int .u64 (y2 : Int), .int .u64 (y3 : Int)] 73) 73 #[.bool v', .int .u64 (x' : Int), .int .u64 (l' : Int), .bool z1, .int .u64 (z2 : Int), .int .u64 (z3 : Int)]
  have A1 := A0.below (boxed _ (.cells #[.bool v', .int .u64 (x' : Int), .int .u64 (l' : Int), .bool z1, .int .u64 (z2 : Int), .int .u64 (z3 : Int)] 73)) A0.lt
  clear A0
  go_enter Tryz.func44, Tryz.ntmps44
  go_upto_region 1 with fail
  generalize (w.alloc (.cells #[.bool v, .int .u64 (x : Int), .int .u64 (l : Int), .bool y1, .int .u64 (y2 : Int), .int .u64 (y3 : Int)] 73)).alloc (.cells #[.bool v', .int .u64 (x' : Int), .int .u64 (l' : Int), .bool z1, .int .u64 (z2 : Int), .int .u64 (z3 : Int)] 73) = w1 at A1 B0 HB ⊢
  generalize w.heap.size + 1 = B at B0 ⊢
  generalize w.heap.size = A at A1 ⊢
  have a0 := A1.cell 0
  have a1 := A1.cell 1
  have a2 := A1.cell 2
  have b0 := B0.cell 0
  have b1 := B0.cell 1
  have b2 := B0.cell 2
  simp at a0 a1 a2 b0 b1 b2
  clear A1 B0
  go_wp2_with (go_at_call 25; (with_reducible refine (H1.out _).mono ?_); rintro r w2 ⟨rfl, d2⟩)
  go_ret
  exact ⟨rfl, HB.out.trans d2⟩

def cmpN (a b : Nat) : Int := if a < b then -1 else if b < a then 1 else 0
theorem isNaN_any (x : Nat) (w : World) : Calls Tryz.prog 85 #[.int .u16 (x : Int)] w fun r w' => r = .returned (.bool false) ∧ w' = w := by
  go_enter Tryz.func85, Tryz.ntmps85
  go_wp2_with fail
  go_ret
  exact ⟨by simp, rfl⟩
set_option maxHeartbeats 4000000 in
theorem cmpU16_any (a b : Nat) (w : World) : Calls Tryz.prog 50 #[.int .u16 (a : Int), .int .u16 (b : Int)] w fun r w' => r = .returned (.int .i64 (cmpN a b)) ∧ w' = w := by
  have H1 := Lib.hid (fun x => isNaN_any x w)
  obtain ⟨R, hR⟩ : ∃ R, R = cmpN a b := ⟨_, rfl⟩
  rw [← hR]
  unfold cmpN at hR
  by_cases h1 : a < b
  · rw [if_pos h1] at hR
    have HR := Lib.hid hR
    have q1 : (a : Int) < (b : Int) := by omega
    clear h1 hR
    go_enter Tryz.func50, Tryz.ntmps50
    go_wp2_with (go_at_call 85; (with_reducible refine (H1.out _).mono ?_); rintro r w2 ⟨rfl, rfl⟩)
    go_ret
    exact ⟨by rw [HR.out]; rfl, rfl⟩
  · rw [if_neg h1] at hR
    have q1 : ¬ (a : Int) < (b : Int) := by omega
    by_cases h2 : b < a
    · rw [if_pos h2] at hR
      have HR := Lib.hid hR
      have q2 : (b : Int) < (a : Int) := by omega
      clear h1 h2 hR
      go_enter Tryz.func50, Tryz.ntmps50
      go_wp2_with (go_at_call 85; (with_reducible refine (H1.out _).mono ?_); rintro r w2 ⟨rfl, rfl⟩)
      go_ret
      exact ⟨by rw [HR.out]; rfl, rfl⟩
    · rw [if_neg h2] at hR
      have HR := Lib.hid hR
      have q2 : ¬ (b : Int) < (a : Int) := by omega
      clear h1 h2 hR
      go_enter Tryz.func50, Tryz.ntmps50
      go_wp2_with (go_at_call 85; (with_reducible refine (H1.out _).mono ?_); rintro r w2 ⟨rfl, rfl⟩)
      go_ret
      exact ⟨by rw [HR.out]; rfl, rfl⟩
set_option maxHeartbeats 4000000 in
theorem ports1_any (a b : Nat × Nat) (w : World) : Calls Tryz.prog 49 #[.agg #[.int .u16 (a.1 : Int), .int .u16 (a.2 : Int)], .agg #[.int .u16 (b.1 : Int), .int .u16 (b.2 : Int)]] w (GotG (.int .i64 (cmpN a.1 b.1)) w) := by
  have h1 := fun u => cmpU16_any a.1 b.1 u
  generalize cmpN a.1 b.1 = R at h1 ⊢
  obtain ⟨x, y⟩ := a
  obtain ⟨x', y'⟩ := b
  simp only at h1 ⊢
  have H1 := Lib.hid h1
  clear h1
  have HB := Lib.hid (two_grew w (.cells #[.int .u16 (x : Int), .int .u16 (y : Int)] 68) (.cells #[.int .u16 (x' : Int), .int .u16 (y' : Int)] 68))
  go_enter Tryz.func49, Tryz.ntmps49
  go_wp2_with (go_at_call 50; (with_reducible refine (H1.out _).mono ?_); rintro r w2 ⟨rfl, rfl⟩)
  go_ret
  exact ⟨rfl, HB.out⟩
end Go.Proofs.YthglckoikjfjkaaGreatDoor

/- What merges ranges and ports (the closures of Norm, ports): the walks. -/
namespace Go.Proofs.YthglckoikjfjkaaGreatDoor
open Go.RowKit
attribute [local go_sem ↓] Go.wp_at_zero Go.wp_at_succ

set_option maxHeartbeats 4000000 in
set_option maxRecDepth 100000 in
theorem norm1_any {w : World} (env : Env w) (s : Sp) (ok : s.Ok) : Calls Tryz.prog 42 #[.agg s.cells] w (Got (.bool (!maySp s)) w) := by
  have hm := fun u (hu : Below w.heap.size w u) => maySpan_any (env.below hu) s ok
  generalize maySp s = R at hm ⊢
  obtain ⟨⟨v, x, l⟩, ⟨y1, y2, y3⟩⟩ := s
  unfold Sp.cells at hm ⊢
  simp only at hm ⊢
  have HM := Lib.hid hm
  clear hm env ok
  go_enter Tryz.func42, Tryz.ntmps42
  go_wp2_with (go_at_call 24; (with_reducible refine (HM.out _ (boxed _ _)).mono ?_); rintro r w2 ⟨rfl, d2⟩)
  go_ret
  exact ⟨rfl, after (boxed _ _) d2⟩

set_option maxHeartbeats 8000000 in
set_option maxRecDepth 100000 in
theorem norm3_any (a b : Sp) (oa : a.Ok) (ob : b.Ok) (w : World) : Calls Tryz.prog 45 #[.agg a.cells, .agg b.cells] w (Got (.bool (touchS a b)) w) := by
  have hbh := fun u => behind_any a.2 oa.2 u
  have hcp := fun u => compare_any b.1 (behindA a.2) u
  have hle := cmp_le ob.1 (behind_ok oa.2)
  obtain ⟨R, hR⟩ : ∃ r, r = touchS a b := ⟨_, rfl⟩
  rw [← hR]
  unfold touchS at hR
  rw [← hle] at hR
  generalize cmpA b.1 (behindA a.2) = Z at hcp hR
  generalize behindA a.2 = H at hbh hcp
  clear hle oa ob
  obtain ⟨⟨v, x, l⟩, ⟨y1, y2, y3⟩⟩ := a
  obtain ⟨⟨v', x', l'⟩, ⟨z1, z2, z3⟩⟩ := b
  obtain ⟨hv, hh, hl⟩ := H
  unfold Ad.cells at hbh hcp
  unfold Sp.cells
  simp only at hbh hcp hR ⊢
  have HBh := Lib.hid hbh
  have HCp := Lib.hid hcp
  have HR := Lib.hid hR
  clear hbh hcp hR
  have HB := Lib.hid (two_boxed w (.cells #[.bool v, .int .u64 (x : Int), .int .u64 (l : Int), .bool y1, .int .u64 (y2 : Int), .int .u64 (y3 : Int)] 73) (.cells #[.bool v', .int .u64 (x' : Int), .int .u64 (l' : Int), .bool z1, .int .u64 (z2 : Int), .int .u64 (z3 : Int)] 73))
  have A0 := Blk.new w 73 #[.bool v, .int .u64 (x : Int), .int .u64 (l : Int), .bool y1, .int .u64 (y2 : Int), .int .u64 (y3 : Int)]
  have B1 := new2 w (.cells #[.bool v, .int .u64 (x : Int), .int .u64 (l : Int), .bool y1, .int .u64 (y2 : Int), .int .u64 (y3 : Int)] 73) 73 #[.bool v', .int .u64 (x' : Int), .int .u64 (l' : Int), .bool z1, .int .u64 (z2 : Int), .int .u64 (z3 : Int)]
  have A1 := A0.below (boxed _ (.cells #[.bool v', .int .u64 (x' : Int), .int .u64 (l' : Int), .bool z1, .int .u64 (z2 : Int), .int .u64 (z3 : Int)] 73)) A0.lt
  clear A0
  go_enter Tryz.func45, Tryz.ntmps45
  go_upto_region 1 with fail
  generalize (w.alloc (.cells #[.bool v, .int .u64 (x : Int), .int .u64 (l : Int), .bool y1, .int .u64 (y2 : Int), .int .u64 (y3 : Int)] 73)).alloc (.cells #[.bool v', .int .u64 (x' : Int), .int .u64 (l' : Int), .bool z1, .int .u64 (z2 : Int), .int .u64 (z3 : Int)] 73) = w1 at A1 B1 HB ⊢
  generalize w.heap.size + 1 = B at B1 ⊢
  generalize w.heap.size = A at A1 ⊢
  have a0 := A1.cell 0
  have a3 := A1.cell 3
  have a4 := A1.cell 4
  have a5 := A1.cell 5
  have b0 := B1.cell 0
  have b1 := B1.cell 1
  have b2 := B1.cell 2
  simp at a0 a3 a4 a5 b0 b1 b2
  clear A1 B1
  by_cases hvv : v = v'
  · have q0 : (v == v') = true := by simp [hvv]
    have HRf : RowKit.Hid (R = decide (Z ≤ 0)) := Lib.hid (by rw [HR.out, q0, Bool.true_and])
    clear hvv
    refine wp_region_held_drew (S := (fun w' => w'.cell? ⟨A, 0, none⟩ = some (.bool v) ∧ w'.cell? ⟨A, 3, none⟩ = some (.bool y1) ∧ w'.cell? ⟨A, 4, none⟩ = some (.int .u64 (y2 : Int)) ∧ w'.cell? ⟨A, 5, none⟩ = some (.int .u64 (y3 : Int)) ∧ w'.cell? ⟨B, 0, none⟩ = some (.bool v') ∧ w'.cell? ⟨B, 1, none⟩ = some (.int .u64 (x' : Int)) ∧ w'.cell? ⟨B, 2, none⟩ = some (.int .u64 (l' : Int)))) (by kernel_rfl) (⟨a0, a3, a4, a5, b0, b1, b2⟩) (fun hHeld => ?_)
    refine' wpAnyH_take (i := 0) (v := _) rfl (by kernel_rfl) (by kernel_rfl) (by kernel_rfl) (fun _ _ _ h => h) (Or.inl ⟨by rfl, ?ly1⟩) (by assumption) ?lrest1
    case ly1 =>
      intro w hSw
      try dsimp only at hSw
      go_simp
      try with_reducible rfl
    try simp only [Act.put, List.setIfInBounds_toArray, List.set_cons_zero, List.set_cons_succ, List.getElem_toArray, List.getElem_cons_zero, List.getElem_cons_succ]
    refine' wpAnyH_take (i := 1) (v := _) rfl (by kernel_rfl) (by kernel_rfl) (by kernel_rfl) (fun _ _ _ h => h) (Or.inl ⟨by rfl, ?ly2⟩) (by assumption) ?lrest2
    case ly2 =>
      intro w hSw
      try dsimp only at hSw
      go_simp
      try with_reducible rfl
    try simp only [Act.put, List.setIfInBounds_toArray, List.set_cons_zero, List.set_cons_succ, List.getElem_toArray, List.getElem_cons_zero, List.getElem_cons_succ]
    refine' wpAnyH_take (i := 2) (v := _) rfl (by kernel_rfl) (by kernel_rfl) (by kernel_rfl) (fun _ _ _ h => h) (Or.inl ⟨by rfl, ?ly3⟩) (by assumption) ?lrest3
    case ly3 =>
      intro w hSw
      try dsimp only at hSw
      go_simp
      try with_reducible rfl
    try simp only [Act.put, List.setIfInBounds_toArray, List.set_cons_zero, List.set_cons_succ, List.getElem_toArray, List.getElem_cons_zero, List.getElem_cons_succ]
    refine' wpAnyH_take (i := 3) (v := _) rfl (by kernel_rfl) (by kernel_rfl) (by kernel_rfl) (fun _ _ _ h => h) (Or.inl ⟨by rfl, ?ly4⟩) (by assumption) ?lrest4
    case ly4 =>
      intro w hSw
      try dsimp only at hSw
      go_simp
      try with_reducible rfl
    try simp only [Act.put, List.setIfInBounds_toArray, List.set_cons_zero, List.set_cons_succ, List.getElem_toArray, List.getElem_cons_zero, List.getElem_cons_succ]
    refine' wpAnyH_take (i := 4) (v := _) rfl (by kernel_rfl) (by kernel_rfl) (by kernel_rfl) (fun _ _ _ h => h) (Or.inl ⟨by rfl, ?ly5⟩) (by assumption) ?lrest5
    case ly5 =>
      intro w hSw
      try dsimp only at hSw
      go_simp
      try with_reducible rfl
    try simp only [Act.put, List.setIfInBounds_toArray, List.set_cons_zero, List.set_cons_succ, List.getElem_toArray, List.getElem_cons_zero, List.getElem_cons_succ]
    refine' wpAnyH_take (i := 5) (v := _) rfl (by kernel_rfl) (by kernel_rfl) (by kernel_rfl) (fun _ _ _ h => h) (Or.inl ⟨by rfl, ?ly6⟩) (by assumption) ?lrest6
    case ly6 =>
      intro w hSw
      try dsimp only at hSw
      go_simp
      try with_reducible rfl
    try simp only [Act.put, List.setIfInBounds_toArray, List.set_cons_zero, List.set_cons_succ, List.getElem_toArray, List.getElem_cons_zero, List.getElem_cons_succ]
    refine' wpAnyH_take (i := 6) (v := _) rfl (by kernel_rfl) (by kernel_rfl) (by kernel_rfl) (fun _ _ _ h => h) (Or.inl ⟨by rfl, ?ly7⟩) (by assumption) ?lrest7
    case ly7 =>
      intro w hSw
      try dsimp only at hSw
      go_simp
      try with_reducible rfl
    try simp only [Act.put, List.setIfInBounds_toArray, List.set_cons_zero, List.set_cons_succ, List.getElem_toArray, List.getElem_cons_zero, List.getElem_cons_succ]
    refine' wpAnyH_take (i := 7) (v := _) rfl (by kernel_rfl) (by kernel_rfl) (by kernel_rfl) (fun _ _ _ h => h) (Or.inl ⟨by rfl, ?ly8⟩) (by assumption) ?lrest8
    case ly8 =>
      intro w hSw
      try dsimp only at hSw
      go_simp
      try with_reducible rfl
    try simp only [Act.put, List.setIfInBounds_toArray, List.set_cons_zero, List.set_cons_succ, List.getElem_toArray, List.getElem_cons_zero, List.getElem_cons_succ]
    refine' wpAnyH_take (i := 8) (v := _) rfl (by kernel_rfl) (by kernel_rfl) (by kernel_rfl) (fun _ _ _ h => h) (Or.inl ⟨by rfl, ?ly9⟩) (by assumption) ?lrest9
    case ly9 =>
      intro w hSw
      try dsimp only at hSw
      go_simp
      try with_reducible rfl
    try simp only [Act.put, List.setIfInBounds_toArray, List.set_cons_zero, List.set_cons_succ, List.getElem_toArray, List.getElem_cons_zero, List.getElem_cons_succ]
    refine' wpAnyH_take (i := 9) (v := _) rfl (by kernel_rfl) (by kernel_rfl) (by kernel_rfl) (fun _ _ _ h => h) (Or.inl ⟨by rfl, ?ly10⟩) (by assumption) ?lrest10
    case ly10 =>
      intro w hSw
      try dsimp only at hSw
      go_simp
      try with_reducible rfl
    try simp only [Act.put, List.setIfInBounds_toArray, List.set_cons_zero, List.set_cons_succ, List.getElem_toArray, List.getElem_cons_zero, List.getElem_cons_succ]
    refine' wpAnyH_take (i := 10) (v := _) rfl (by kernel_rfl) (by kernel_rfl) (by kernel_rfl) (fun _ _ _ h => h) (Or.inl ⟨by rfl, ?ly11⟩) (by assumption) ?lrest11
    case ly11 =>
      intro w hSw
      try dsimp only at hSw
      go_simp
      try with_reducible rfl
    try simp only [Act.put, List.setIfInBounds_toArray, List.set_cons_zero, List.set_cons_succ, List.getElem_toArray, List.getElem_cons_zero, List.getElem_cons_succ]
    refine' wpAnyH_take (i := 11) (v := _) rfl (by kernel_rfl) (by kernel_rfl) (by kernel_rfl) (fun _ _ _ h => h) (Or.inl ⟨by rfl, ?ly12⟩) (by assumption) ?lrest12
    case ly12 =>
      intro w hSw
      try dsimp only at hSw
      go_simp
      try with_reducible rfl
    try simp only [Act.put, List.setIfInBounds_toArray, List.set_cons_zero, List.set_cons_succ, List.getElem_toArray, List.getElem_cons_zero, List.getElem_cons_succ]
    refine wpAnyH_ready (rs := [12]) (by kernel_rfl) (by simp) ?_
    refine AllReadyH.cons rfl (fun K hK => ?_) AllReadyH.nil
    go_simp
    refine (HBh.out _).mono ?_
    rintro r wb ⟨rfl, db⟩
    have eb := Below.of_drew db
    clear db
    refine hK.out _ _ (⟨cellB a0 eb, cellB a3 eb, cellB a4 eb, cellB a5 eb, cellB b0 eb, cellB b1 eb, cellB b2 eb⟩) (fun hHeld => ?_)
    clear hK K
    try simp only [Act.put, List.setIfInBounds_toArray, List.set_cons_zero, List.set_cons_succ, List.getElem_toArray, List.getElem_cons_zero, List.getElem_cons_succ]
    refine wpAnyH_ready (rs := [13]) (by kernel_rfl) (by simp) ?_
    refine AllReadyH.cons rfl (fun K hK => ?_) AllReadyH.nil
    go_simp
    refine (HCp.out _).mono ?_
    rintro r wc ⟨rfl, dc⟩
    have ec := after eb dc
    clear dc
    refine hK.out _ _ (⟨cellB a0 ec, cellB a3 ec, cellB a4 ec, cellB a5 ec, cellB b0 ec, cellB b1 ec, cellB b2 ec⟩) (fun hHeld => ?_)
    clear hK K
    try simp only [Act.put, List.setIfInBounds_toArray, List.set_cons_zero, List.set_cons_succ, List.getElem_toArray, List.getElem_cons_zero, List.getElem_cons_succ]
    refine' wpAnyH_take (i := 14) (v := _) rfl (by kernel_rfl) (by kernel_rfl) (by kernel_rfl) (fun _ _ _ h => h) (Or.inl ⟨by rfl, ?ly15⟩) (by assumption) ?lrest15
    case ly15 =>
      intro w hSw
      try dsimp only at hSw
      go_simp
      try with_reducible rfl
    try simp only [Act.put, List.setIfInBounds_toArray, List.set_cons_zero, List.set_cons_succ, List.getElem_toArray, List.getElem_cons_zero, List.getElem_cons_succ]
    refine' wpAnyH_take (i := 15) (v := _) rfl (by kernel_rfl) (by kernel_rfl) (by kernel_rfl) (fun _ _ _ h => h) (Or.inl ⟨by rfl, ?ly16⟩) (by assumption) ?lrest16
    case ly16 =>
      intro w hSw
      try dsimp only at hSw
      go_simp
      try with_reducible rfl
    try simp only [Act.put, List.setIfInBounds_toArray, List.set_cons_zero, List.set_cons_succ, List.getElem_toArray, List.getElem_cons_zero, List.getElem_cons_succ]
    refine' wpAnyH_take (i := 16) (v := _) rfl (by kernel_rfl) (by kernel_rfl) (by kernel_rfl) (fun _ _ _ h => h) (Or.inl ⟨by rfl, ?ly17⟩) (by assumption) ?lrest17
    case ly17 =>
      intro w hSw
      try dsimp only at hSw
      go_simp
      try with_reducible rfl
    try simp only [Act.put, List.setIfInBounds_toArray, List.set_cons_zero, List.set_cons_succ, List.getElem_toArray, List.getElem_cons_zero, List.getElem_cons_succ]
    refine wpAnyH_done (by kernel_rfl) ?_ _
    go_wp2_with fail
    go_ret
    exact ⟨by rw [HRf.out]; rfl, after HB.out ec⟩
  · have q0 : (v == v') = false := by simp [hvv]
    have HRf : RowKit.Hid (R = false) := Lib.hid (by rw [HR.out, q0, Bool.false_and])
    clear hvv
    refine wp_region_held_drew (S := (fun w' => w'.cell? ⟨A, 0, none⟩ = some (.bool v) ∧ w'.cell? ⟨A, 3, none⟩ = some (.bool y1) ∧ w'.cell? ⟨A, 4, none⟩ = some (.int .u64 (y2 : Int)) ∧ w'.cell? ⟨A, 5, none⟩ = some (.int .u64 (y3 : Int)) ∧ w'.cell? ⟨B, 0, none⟩ = some (.bool v') ∧ w'.cell? ⟨B, 1, none⟩ = some (.int .u64 (x' : Int)) ∧ w'.cell? ⟨B, 2, none⟩ = some (.int .u64 (l' : Int)))) (by kernel_rfl) (⟨a0, a3, a4, a5, b0, b1, b2⟩) (fun hHeld => ?_)
    refine' wpAnyH_take (i := 0) (v := _) rfl (by kernel_rfl) (by kernel_rfl) (by kernel_rfl) (fun _ _ _ h => h) (Or.inl ⟨by rfl, ?ly18⟩) (by assumption) ?lrest18
    case ly18 =>
      intro w hSw
      try dsimp only at hSw
      go_simp
      try with_reducible rfl
    try simp only [Act.put, List.setIfInBounds_toArray, List.set_cons_zero, List.set_cons_succ, List.getElem_toArray, List.getElem_cons_zero, List.getElem_cons_succ]
    refine' wpAnyH_take (i := 1) (v := _) rfl (by kernel_rfl) (by kernel_rfl) (by kernel_rfl) (fun _ _ _ h => h) (Or.inl ⟨by rfl, ?ly19⟩) (by assumption) ?lrest19
    case ly19 =>
      intro w hSw
      try dsimp only at hSw
      go_simp
      try with_reducible rfl
    try simp only [Act.put, List.setIfInBounds_toArray, List.set_cons_zero, List.set_cons_succ, List.getElem_toArray, List.getElem_cons_zero, List.getElem_cons_succ]
    refine' wpAnyH_take (i := 2) (v := _) rfl (by kernel_rfl) (by kernel_rfl) (by kernel_rfl) (fun _ _ _ h => h) (Or.inl ⟨by rfl, ?ly20⟩) (by assumption) ?lrest20
    case ly20 =>
      intro w hSw
      try dsimp only at hSw
      go_simp
      try with_reducible rfl
    try simp only [Act.put, List.setIfInBounds_toArray, List.set_cons_zero, List.set_cons_succ, List.getElem_toArray, List.getElem_cons_zero, List.getElem_cons_succ]
    refine' wpAnyH_take (i := 3) (v := _) rfl (by kernel_rfl) (by kernel_rfl) (by kernel_rfl) (fun _ _ _ h => h) (Or.inl ⟨by rfl, ?ly21⟩) (by assumption) ?lrest21
    case ly21 =>
      intro w hSw
      try dsimp only at hSw
      go_simp
      try with_reducible rfl
    try simp only [Act.put, List.setIfInBounds_toArray, List.set_cons_zero, List.set_cons_succ, List.getElem_toArray, List.getElem_cons_zero, List.getElem_cons_succ]
    refine' wpAnyH_take (i := 4) (v := _) rfl (by kernel_rfl) (by kernel_rfl) (by kernel_rfl) (fun _ _ _ h => h) (Or.inl ⟨by rfl, ?ly22⟩) (by assumption) ?lrest22
    case ly22 =>
      intro w hSw
      try dsimp only at hSw
      go_simp
      try with_reducible rfl
    try simp only [Act.put, List.setIfInBounds_toArray, List.set_cons_zero, List.set_cons_succ, List.getElem_toArray, List.getElem_cons_zero, List.getElem_cons_succ]
    refine' wpAnyH_take (i := 5) (v := _) rfl (by kernel_rfl) (by kernel_rfl) (by kernel_rfl) (fun _ _ _ h => h) (Or.inl ⟨by rfl, ?ly23⟩) (by assumption) ?lrest23
    case ly23 =>
      intro w hSw
      try dsimp only at hSw
      go_simp
      try with_reducible rfl
    try simp only [Act.put, List.setIfInBounds_toArray, List.set_cons_zero, List.set_cons_succ, List.getElem_toArray, List.getElem_cons_zero, List.getElem_cons_succ]
    refine' wpAnyH_take (i := 6) (v := _) rfl (by kernel_rfl) (by kernel_rfl) (by kernel_rfl) (fun _ _ _ h => h) (Or.inl ⟨by rfl, ?ly24⟩) (by assumption) ?lrest24
    case ly24 =>
      intro w hSw
      try dsimp only at hSw
      go_simp
      try with_reducible rfl
    try simp only [Act.put, List.setIfInBounds_toArray, List.set_cons_zero, List.set_cons_succ, List.getElem_toArray, List.getElem_cons_zero, List.getElem_cons_succ]
    refine' wpAnyH_take (i := 7) (v := _) rfl (by kernel_rfl) (by kernel_rfl) (by kernel_rfl) (fun _ _ _ h => h) (Or.inl ⟨by rfl, ?ly25⟩) (by assumption) ?lrest25
    case ly25 =>
      intro w hSw
      try dsimp only at hSw
      go_simp
      try with_reducible rfl
    try simp only [Act.put, List.setIfInBounds_toArray, List.set_cons_zero, List.set_cons_succ, List.getElem_toArray, List.getElem_cons_zero, List.getElem_cons_succ]
    refine' wpAnyH_take (i := 8) (v := undef) rfl (by kernel_rfl) (by kernel_rfl) (by kernel_rfl) (fun _ _ _ h => h) (Or.inr ⟨by rfl, rfl⟩) (by assumption) ?lrest26
    try simp only [Act.put, List.setIfInBounds_toArray, List.set_cons_zero, List.set_cons_succ, List.getElem_toArray, List.getElem_cons_zero, List.getElem_cons_succ]
    refine' wpAnyH_take (i := 9) (v := undef) rfl (by kernel_rfl) (by kernel_rfl) (by kernel_rfl) (fun _ _ _ h => h) (Or.inr ⟨by rfl, rfl⟩) (by assumption) ?lrest27
    try simp only [Act.put, List.setIfInBounds_toArray, List.set_cons_zero, List.set_cons_succ, List.getElem_toArray, List.getElem_cons_zero, List.getElem_cons_succ]
    refine' wpAnyH_take (i := 10) (v := undef) rfl (by kernel_rfl) (by kernel_rfl) (by kernel_rfl) (fun _ _ _ h => h) (Or.inr ⟨by rfl, rfl⟩) (by assumption) ?lrest28
    try simp only [Act.put, List.setIfInBounds_toArray, List.set_cons_zero, List.set_cons_succ, List.getElem_toArray, List.getElem_cons_zero, List.getElem_cons_succ]
    refine' wpAnyH_take (i := 11) (v := undef) rfl (by kernel_rfl) (by kernel_rfl) (by kernel_rfl) (fun _ _ _ h => h) (Or.inr ⟨by rfl, rfl⟩) (by assumption) ?lrest29
    try simp only [Act.put, List.setIfInBounds_toArray, List.set_cons_zero, List.set_cons_succ, List.getElem_toArray, List.getElem_cons_zero, List.getElem_cons_succ]
    refine' wpAnyH_take (i := 12) (v := undef) rfl (by kernel_rfl) (by kernel_rfl) (by kernel_rfl) (fun _ _ _ h => h) (Or.inr ⟨by rfl, rfl⟩) (by assumption) ?lrest30
    try simp only [Act.put, List.setIfInBounds_toArray, List.set_cons_zero, List.set_cons_succ, List.getElem_toArray, List.getElem_cons_zero, List.getElem_cons_succ]
    refine' wpAnyH_take (i := 13) (v := undef) rfl (by kernel_rfl) (by kernel_rfl) (by kernel_rfl) (fun _ _ _ h => h) (Or.inr ⟨by rfl, rfl⟩) (by assumption) ?lrest31
    try simp only [Act.put, List.setIfInBounds_toArray, List.set_cons_zero, List.set_cons_succ, List.getElem_toArray, List.getElem_cons_zero, List.getElem_cons_succ]
    refine' wpAnyH_take (i := 14) (v := undef) rfl (by kernel_rfl) (by kernel_rfl) (by kernel_rfl) (fun _ _ _ h => h) (Or.inr ⟨by rfl, rfl⟩) (by assumption) ?lrest32
    try simp only [Act.put, List.setIfInBounds_toArray, List.set_cons_zero, List.set_cons_succ, List.getElem_toArray, List.getElem_cons_zero, List.getElem_cons_succ]
    refine' wpAnyH_take (i := 15) (v := _) rfl (by kernel_rfl) (by kernel_rfl) (by kernel_rfl) (fun _ _ _ h => h) (Or.inl ⟨by rfl, ?ly33⟩) (by assumption) ?lrest33
    case ly33 =>
      intro w hSw
      try dsimp only at hSw
      go_simp
      try with_reducible rfl
    try simp only [Act.put, List.setIfInBounds_toArray, List.set_cons_zero, List.set_cons_succ, List.getElem_toArray, List.getElem_cons_zero, List.getElem_cons_succ]
    refine' wpAnyH_take (i := 16) (v := _) rfl (by kernel_rfl) (by kernel_rfl) (by kernel_rfl) (fun _ _ _ h => h) (Or.inl ⟨by rfl, ?ly34⟩) (by assumption) ?lrest34
    case ly34 =>
      intro w hSw
      try dsimp only at hSw
      go_simp
      try with_reducible rfl
    try simp only [Act.put, List.setIfInBounds_toArray, List.set_cons_zero, List.set_cons_succ, List.getElem_toArray, List.getElem_cons_zero, List.getElem_cons_succ]
    refine wpAnyH_done (by kernel_rfl) ?_ _
    go_wp2_with fail
    go_ret
    exact ⟨by rw [HRf.out]; rfl, Below.drew_ HB.out⟩

set_option maxHeartbeats 8000000 in
set_option maxRecDepth 100000 in
theorem norm4_any (a b : Sp) (w : World) : Calls Tryz.prog 47 #[.agg a.cells, .agg b.cells] w (Got (.agg (joinS a b).cells) w) := by
  have hcp := fun u => compare_any a.2 b.2 u
  have hlt := cmp_lt a.2 b.2
  obtain ⟨R, hR⟩ : ∃ r, r = joinS a b := ⟨_, rfl⟩
  rw [← hR]
  unfold joinS at hR
  rw [← hlt] at hR
  generalize cmpA a.2 b.2 = Z at hcp hR
  clear hlt
  obtain ⟨⟨v, x, l⟩, ⟨y1, y2, y3⟩⟩ := a
  obtain ⟨⟨v', x', l'⟩, ⟨z1, z2, z3⟩⟩ := b
  unfold Ad.cells at hcp
  rw [show Sp.cells ((⟨v, x, l⟩, ⟨y1, y2, y3⟩) : Ad × Ad) = #[.bool v, .int .u64 (x : Int), .int .u64 (l : Int), .bool y1, .int .u64 (y2 : Int), .int .u64 (y3 : Int)] from rfl, show Sp.cells ((⟨v', x', l'⟩, ⟨z1, z2, z3⟩) : Ad × Ad) = #[.bool v', .int .u64 (x' : Int), .int .u64 (l' : Int), .bool z1, .int .u64 (z2 : Int), .int .u64 (z3 : Int)] from rfl]
  simp only at hcp hR
  have HCp := Lib.hid hcp
  have HR := Lib.hid hR
  clear hcp hR
  have HB := Lib.hid (two_boxed w (.cells #[.bool v, .int .u64 (x : Int), .int .u64 (l : Int), .bool y1, .int .u64 (y2 : Int), .int .u64 (y3 : Int)] 73) (.cells #[.bool v', .int .u64 (x' : Int), .int .u64 (l' : Int), .bool z1, .int .u64 (z2 : Int), .int .u64 (z3 : Int)] 73))
  have A0 := Blk.new w 73 #[.bool v, .int .u64 (x : Int), .int .u64 (l : Int), .bool y1, .int .u64 (y2 : Int), .int .u64 (y3 : Int)]
  have B1 := new2 w (.cells #[.bool v, .int .u64 (x : Int), .int .u64 (l : Int), .bool y1, .int .u64 (y2 : Int), .int .u64 (y3 : Int)] 73) 73 #[.bool v', .int .u64 (x' : Int), .int .u64 (l' : Int), .bool z1, .int .u64 (z2 : Int), .int .u64 (z3 : Int)]
  have A1 := A0.below (boxed _ (.cells #[.bool v', .int .u64 (x' : Int), .int .u64 (l' : Int), .bool z1, .int .u64 (z2 : Int), .int .u64 (z3 : Int)] 73)) A0.lt
  clear A0
  have HB3 := Lib.hid (after HB.out (boxed _ (.cells #[.bool false, .int .u64 0, .int .u64 0, .bool false, .int .u64 0, .int .u64 0] 73)))
  have HA3 := Lib.hid (A1.below (boxed _ (.cells #[.bool false, .int .u64 0, .int .u64 0, .bool false, .int .u64 0, .int .u64 0] 73)) A1.lt)
  have HBb := Lib.hid (B1.below (boxed _ (.cells #[.bool false, .int .u64 0, .int .u64 0, .bool false, .int .u64 0, .int .u64 0] 73)) B1.lt)
  have hc := Blk.new ((w.alloc (.cells #[.bool v, .int .u64 (x : Int), .int .u64 (l : Int), .bool y1, .int .u64 (y2 : Int), .int .u64 (y3 : Int)] 73)).alloc (.cells #[.bool v', .int .u64 (x' : Int), .int .u64 (l' : Int), .bool z1, .int .u64 (z2 : Int), .int .u64 (z3 : Int)] 73)) 73 #[.bool false, .int .u64 0, .int .u64 0, .bool false, .int .u64 0, .int .u64 0]
  rw [show ((w.alloc (.cells #[.bool v, .int .u64 (x : Int), .int .u64 (l : Int), .bool y1, .int .u64 (y2 : Int), .int .u64 (y3 : Int)] 73)).alloc (.cells #[.bool v', .int .u64 (x' : Int), .int .u64 (l' : Int), .bool z1, .int .u64 (z2 : Int), .int .u64 (z3 : Int)] 73)).heap.size = w.heap.size + 1 + 1 by simp] at hc
  have HC3 := Lib.hid hc
  clear A1 B1 hc HB
  obtain ⟨C, hC⟩ : ∃ c, c = w.heap.size + 1 + 1 := ⟨_, rfl⟩
  rw [← hC] at HC3
  have GA := Lib.hid (show w.heap.size ≤ w.heap.size ∧ w.heap.size ≠ C ∧ w.heap.size ≤ C by omega)
  go_enter Tryz.func47, Tryz.ntmps47
  go_upto_region 1 with fail
  generalize ((w.alloc (.cells #[.bool v, .int .u64 (x : Int), .int .u64 (l : Int), .bool y1, .int .u64 (y2 : Int), .int .u64 (y3 : Int)] 73)).alloc (.cells #[.bool v', .int .u64 (x' : Int), .int .u64 (l' : Int), .bool z1, .int .u64 (z2 : Int), .int .u64 (z3 : Int)] 73)).alloc (.cells #[.bool false, .int .u64 0, .int .u64 0, .bool false, .int .u64 0, .int .u64 0] 73) = w3 at HA3 HBb HC3 HB3 ⊢
  rw [← hC]
  clear hC
  generalize w.heap.size + 1 = B at HBb ⊢
  obtain ⟨A, hA⟩ : ∃ q, q = w.heap.size := ⟨_, rfl⟩
  have HA3' : RowKit.Hid (Blk w3 A 73 #[.bool v, .int .u64 (x : Int), .int .u64 (l : Int), .bool y1, .int .u64 (y2 : Int), .int .u64 (y3 : Int)]) := Lib.hid (by rw [hA]; exact HA3.out)
  have GA' : RowKit.Hid (w.heap.size ≤ A ∧ A ≠ C ∧ w.heap.size ≤ C) := Lib.hid (by rw [hA]; exact GA.out)
  rw [← hA]
  clear HA3 GA hA
  have a3 := HA3'.out.cell 3
  have a4 := HA3'.out.cell 4
  have a5 := HA3'.out.cell 5
  have b3 := HBb.out.cell 3
  have b4 := HBb.out.cell 4
  have b5 := HBb.out.cell 5
  simp at a3 a4 a5 b3 b4 b5
  by_cases hZ : Z < 0
  · have q0 : decide (Z < 0) = true := decide_eq_true hZ
    have HRf : RowKit.Hid (R = ((⟨v, x, l⟩, ⟨z1, z2, z3⟩) : Ad × Ad)) := Lib.hid (by rw [HR.out, if_pos q0])
    clear HR
    go_upto_region 2 with (go_at_call 25; (with_reducible refine (HCp.out _).mono ?_); rintro r w4 ⟨rfl, d4⟩)
    have HB4' := Lib.hid (after HB3.out d4)
    have HA4' := Lib.hid (HA3'.out.below d4 HA3'.out.lt)
    have HBb4 := Lib.hid (HBb.out.below d4 HBb.out.lt)
    have HC4' := Lib.hid (HC3.out.below d4 HC3.out.lt)
    clear a3 a4 a5 b3 b4 b5 HB3 HA3' HBb HC3 d4 hZ q0
    have a3 := HA4'.out.cell 3
    have a4 := HA4'.out.cell 4
    have a5 := HA4'.out.cell 5
    have b3 := HBb4.out.cell 3
    have b4 := HBb4.out.cell 4
    have b5 := HBb4.out.cell 5
    simp at a3 a4 a5 b3 b4 b5
    have f3 := HA4'.out.frozen 3
    have f4 := HA4'.out.frozen 4
    have f5 := HA4'.out.frozen 5
    go_upto_region 3 with fail
    have HA4 := Lib.hid (((HA4'.out.set_ 3 (.bool z1)).set_ 4 (.int .u64 (z2 : Int))).set_ 5 (.int .u64 (z3 : Int)))
    have HC4 := Lib.hid (((HC4'.out.far (p := ⟨A, 3, none⟩) (Ne.symm GA'.out.2.1) (.bool z1)).far (p := ⟨A, 4, none⟩) (Ne.symm GA'.out.2.1) (.int .u64 (z2 : Int))).far (p := ⟨A, 5, none⟩) (Ne.symm GA'.out.2.1) (.int .u64 (z3 : Int)))
    have HB4 := Lib.hid (((HB4'.out.setCell (p := ⟨A, 3, none⟩) GA'.out.1 (.bool z1)).setCell (p := ⟨A, 4, none⟩) GA'.out.1 (.int .u64 (z2 : Int))).setCell (p := ⟨A, 5, none⟩) GA'.out.1 (.int .u64 (z3 : Int)))
    clear a3 a4 a5 b3 b4 b5 f3 f4 f5 HA4' HC4' HB4' HBb4
    generalize ((w4.setCell ⟨A, 3, none⟩ (.bool z1)).setCell ⟨A, 4, none⟩ (.int .u64 (z2 : Int))).setCell ⟨A, 5, none⟩ (.int .u64 (z3 : Int)) = w5 at HA4 HC4 HB4 ⊢
    have HE := Lib.hid ((((((HC4.out.set_ 0 (.bool v)).set_ 1 (.int .u64 (x : Int))).set_ 2 (.int .u64 (l : Int))).set_ 3 (.bool z1)).set_ 4 (.int .u64 (z2 : Int))).set_ 5 (.int .u64 (z3 : Int)))
    have HBE := Lib.hid ((((((HB4.out.setCell (p := ⟨C, 0, none⟩) GA'.out.2.2 (.bool v)).setCell (p := ⟨C, 1, none⟩) GA'.out.2.2 (.int .u64 (x : Int))).setCell (p := ⟨C, 2, none⟩) GA'.out.2.2 (.int .u64 (l : Int))).setCell (p := ⟨C, 3, none⟩) GA'.out.2.2 (.bool z1)).setCell (p := ⟨C, 4, none⟩) GA'.out.2.2 (.int .u64 (z2 : Int))).setCell (p := ⟨C, 5, none⟩) GA'.out.2.2 (.int .u64 (z3 : Int)))
    have a0 := HA4.out.cell 0
    have a1 := HA4.out.cell 1
    have a2 := HA4.out.cell 2
    have a3 := HA4.out.cell 3
    have a4 := HA4.out.cell 4
    have a5 := HA4.out.cell 5
    have c0 := HC4.out.cell 0
    have c1 := HC4.out.cell 1
    have c2 := HC4.out.cell 2
    have c3 := HC4.out.cell 3
    have c4 := HC4.out.cell 4
    have c5 := HC4.out.cell 5
    simp at a0 a1 a2 a3 a4 a5 c0 c1 c2 c3 c4 c5
    have f0 := HC4.out.frozen 0
    have f1 := HC4.out.frozen 1
    have f2 := HC4.out.frozen 2
    have f3 := HC4.out.frozen 3
    have f4 := HC4.out.frozen 4
    have f5 := HC4.out.frozen 5
    go_wp2_with fail
    try simp only [Exit.inBlock, Exit.then]
    exact bodyPost_ret (results_c (x := 4) rfl rfl (loadSp HE.out)) rfl ⟨by rw [HRf.out]; rfl, HBE.out⟩
  · have q0 : decide (Z < 0) = false := decide_eq_false hZ
    have HRf : RowKit.Hid (R = ((⟨v, x, l⟩, ⟨y1, y2, y3⟩) : Ad × Ad)) := Lib.hid (by rw [HR.out, q0]; rfl)
    clear HR
    go_upto_region 3 with (go_at_call 25; (with_reducible refine (HCp.out _).mono ?_); rintro r w4 ⟨rfl, d4⟩)
    have HB4 := Lib.hid (after HB3.out d4)
    have HA4 := Lib.hid (HA3'.out.below d4 HA3'.out.lt)
    have HC4 := Lib.hid (HC3.out.below d4 HC3.out.lt)
    clear a3 a4 a5 b3 b4 b5 HB3 HA3' HBb HC3 d4 hZ q0
    have HE := Lib.hid ((((((HC4.out.set_ 0 (.bool v)).set_ 1 (.int .u64 (x : Int))).set_ 2 (.int .u64 (l : Int))).set_ 3 (.bool y1)).set_ 4 (.int .u64 (y2 : Int))).set_ 5 (.int .u64 (y3 : Int)))
    have HBE := Lib.hid ((((((HB4.out.setCell (p := ⟨C, 0, none⟩) GA'.out.2.2 (.bool v)).setCell (p := ⟨C, 1, none⟩) GA'.out.2.2 (.int .u64 (x : Int))).setCell (p := ⟨C, 2, none⟩) GA'.out.2.2 (.int .u64 (l : Int))).setCell (p := ⟨C, 3, none⟩) GA'.out.2.2 (.bool y1)).setCell (p := ⟨C, 4, none⟩) GA'.out.2.2 (.int .u64 (y2 : Int))).setCell (p := ⟨C, 5, none⟩) GA'.out.2.2 (.int .u64 (y3 : Int)))
    have a0 := HA4.out.cell 0
    have a1 := HA4.out.cell 1
    have a2 := HA4.out.cell 2
    have a3 := HA4.out.cell 3
    have a4 := HA4.out.cell 4
    have a5 := HA4.out.cell 5
    have c0 := HC4.out.cell 0
    have c1 := HC4.out.cell 1
    have c2 := HC4.out.cell 2
    have c3 := HC4.out.cell 3
    have c4 := HC4.out.cell 4
    have c5 := HC4.out.cell 5
    simp at a0 a1 a2 a3 a4 a5 c0 c1 c2 c3 c4 c5
    have f0 := HC4.out.frozen 0
    have f1 := HC4.out.frozen 1
    have f2 := HC4.out.frozen 2
    have f3 := HC4.out.frozen 3
    have f4 := HC4.out.frozen 4
    have f5 := HC4.out.frozen 5
    go_wp2_with fail
    try simp only [Exit.inBlock, Exit.then]
    exact bodyPost_ret (results_c (x := 4) rfl rfl (loadSp HE.out)) rfl ⟨by rw [HRf.out]; rfl, HBE.out⟩

set_option maxHeartbeats 4000000 in
set_option maxRecDepth 100000 in
theorem ports2_any (a b : Nat × Nat) (ha : a.2 < 65536) (hb : b.1 < 65536) (w : World) : Calls Tryz.prog 51 #[.agg #[.int .u16 (a.1 : Int), .int .u16 (a.2 : Int)], .agg #[.int .u16 (b.1 : Int), .int .u16 (b.2 : Int)]] w (Got (.bool (touchO a b)) w) := by
  obtain ⟨R, hR⟩ : ∃ r, r = touchO a b := ⟨_, rfl⟩
  rw [← hR]
  unfold touchO at hR
  obtain ⟨x, y⟩ := a
  obtain ⟨x', y'⟩ := b
  simp only at ha hb hR ⊢
  have q1 : IntKind.i64.wrap (y : Int) = (y : Int) := by rw [IntKind.wrap_i64]; omega
  have q2 : IntKind.i64.wrap (x' : Int) = (x' : Int) := by rw [IntKind.wrap_i64]; omega
  have q3 : IntKind.i64.wrap ((y : Int) + 1) = (y : Int) + 1 := by rw [IntKind.wrap_i64]; omega
  have HR : RowKit.Hid (R = decide ((x' : Int) ≤ (y : Int) + 1)) := Lib.hid (by rw [hR, Bool.eq_iff_iff, decide_eq_true_eq, decide_eq_true_eq]; omega)
  clear hR
  go_enter Tryz.func51, Tryz.ntmps51
  go_wp2_with fail
  go_ret
  exact ⟨by rw [HR.out]; rfl, two_boxed _ _ _⟩
theorem new3 (w : World) (o o' : Obj) (t : TypeId) (cs : Array Value) : Blk (((w.alloc o).alloc o').alloc (.cells cs t)) (w.heap.size + 1 + 1) t cs := by
  have h := Blk.new ((w.alloc o).alloc o') t cs
  rwa [show ((w.alloc o).alloc o').heap.size = w.heap.size + 1 + 1 by simp] at h
theorem loadPo {w : World} {g : Nat} {v0 v1 : Value} (h : Blk w g 68 #[v0, v1]) : (loadVar 68 ⟨g, 0, none⟩).run Tryz.prog w = .ok (.agg #[v0, v1]) w := by
  have c0 := h.cell 0
  have c1 := h.cell 1
  simp at c0 c1
  simp [loadVar, go_sem, c0, c1]
set_option maxHeartbeats 4000000 in
set_option maxRecDepth 100000 in
theorem ports3_any (a b : Nat × Nat) (w : World) : Calls Tryz.prog 52 #[.agg #[.int .u16 (a.1 : Int), .int .u16 (a.2 : Int)], .agg #[.int .u16 (b.1 : Int), .int .u16 (b.2 : Int)]] w (Got (.agg #[.int .u16 ((joinO a b).1 : Int), .int .u16 ((joinO a b).2 : Int)]) w) := by
  obtain ⟨x, y⟩ := a
  obtain ⟨x', y'⟩ := b
  unfold joinO
  simp only
  obtain ⟨M, hM⟩ : ∃ m : Int, m = ((max y y' : Nat) : Int) := ⟨_, rfl⟩
  have hM2 : max (y : Int) (y' : Int) = M := by rw [hM]; omega
  rw [← hM]
  clear hM
  go_enter Tryz.func52, Tryz.ntmps52
  go_wp2_with fail
  try simp only [Exit.inBlock, Exit.then]
  exact bodyPost_ret (results_c (x := 4) rfl rfl (loadPo (new3 _ _ _ _ _))) rfl ⟨by rfl, three_boxed _ _ _ _⟩
end Go.Proofs.YthglckoikjfjkaaGreatDoor

/- Own rows of structs: one element laid anew, a head, noughts behind; merging step by step. -/
namespace Go.Proofs.YthglckoikjfjkaaGreatDoor
open Go.RowKit

section
variable {α : Type} (t : α → α → Bool) (j : α → α → α)
def mergeO (S : List α) (k : Nat) : List α := (S.take k).foldl (mergeStep t j) []
theorem mergeO_succ {S : List α} {k : Nat} {x : α} (h : S[k]? = some x) : mergeO t j S (k + 1) = mergeStep t j (mergeO t j S k) x := by
  have hk := (List.getElem?_eq_some_iff.1 h).1
  unfold mergeO
  rw [List.take_succ_eq_append_getElem hk, List.foldl_append, (List.getElem?_eq_some_iff.1 h).2]
  rfl
theorem mergeO_end (S : List α) : mergeO t j S S.length = mergeL t j S := by
  unfold mergeO mergeL
  rw [List.take_of_length_le (Nat.le_refl _)]
theorem step_nil (x : α) : mergeStep t j [] x = [x] := rfl
theorem step_join {L : List α} {y x : α} (h : t y x = true) : mergeStep t j (L ++ [y]) x = L ++ [j y x] := by
  unfold mergeStep
  simp [h]
theorem step_more {L : List α} {y x : α} (h : t y x = false) : mergeStep t j (L ++ [y]) x = L ++ [y] ++ [x] := by
  unfold mergeStep
  simp [h]
theorem step_len (L : List α) (x : α) : (mergeStep t j L x).length ≤ L.length + 1 := by
  rcases List.eq_nil_or_concat L with rfl | ⟨L', y, rfl⟩
  · exact Nat.le_refl _
  · rw [List.concat_eq_append]
    cases h : t y x with
    | true => rw [step_join t j h]; simp
    | false => rw [step_more t j h]; simp
theorem mergeO_len (S : List α) (k : Nat) : (mergeO t j S k).length ≤ k := by
  induction k with
  | zero => exact Nat.le_refl _
  | succ k ih =>
    by_cases hk : k < S.length
    · rw [mergeO_succ t j (List.getElem?_eq_getElem hk)]
      have := step_len t j (mergeO t j S k) S[k]
      omega
    · have e : mergeO t j S (k + 1) = mergeO t j S k := by
        unfold mergeO
        rw [List.take_of_length_le (by omega), List.take_of_length_le (by omega)]
      rw [e]
      omega
theorem step_ok (ok : α → Prop) (hj : ∀ a b, ok a → ok b → ok (j a b)) {L : List α} (hL : ∀ s ∈ L, ok s) {x : α} (hx : ok x) : ∀ s ∈ mergeStep t j L x, ok s := by
  rcases List.eq_nil_or_concat L with rfl | ⟨L', y, rfl⟩
  · intro s hs
    rw [step_nil] at hs
    rw [List.mem_singleton.1 hs]
    exact hx
  · rw [List.concat_eq_append] at hL ⊢
    have hy := hL y (List.mem_append_right _ (List.mem_singleton_self y))
    have h' := fun s hs => hL s (List.mem_append_left _ hs)
    cases h : t y x with
    | true =>
      rw [step_join t j h]
      intro s hs
      rcases List.mem_append.1 hs with hs | hs
      · exact h' s hs
      · rw [List.mem_singleton.1 hs]; exact hj y x hy hx
    | false =>
      rw [step_more t j h]
      intro s hs
      rcases List.mem_append.1 hs with hs | hs
      · exact hL s hs
      · rw [List.mem_singleton.1 hs]; exact hx
theorem mergeO_ok (ok : α → Prop) (hj : ∀ a b, ok a → ok b → ok (j a b)) {S : List α} (hS : ∀ s ∈ S, ok s) (k : Nat) : ∀ s ∈ mergeO t j S k, ok s := by
  induction k with
  | zero => intro s hs; cases hs
  | succ k ih =>
    by_cases hk : k < S.length
    · rw [mergeO_succ t j (List.getElem?_eq_getElem hk)]
      exact step_ok t j ok hj ih (hS _ (List.getElem_mem hk))
    · have e : mergeO t j S (k + 1) = mergeO t j S k := by
        unfold mergeO
        rw [List.take_of_length_le (by omega), List.take_of_length_le (by omega)]
      rw [e]
      exact ih
end
theorem join_ok (a b : Sp) (ha : a.Ok) (hb : b.Ok) : (joinS a b).Ok := by
  unfold joinS
  split
  · exact ⟨ha.1, hb.2⟩
  · exact ha
def poOk (x : Nat × Nat) : Prop := x.1 < 65536 ∧ x.2 < 65536
theorem joinO_ok (a b : Nat × Nat) (ha : poOk a) (hb : poOk b) : poOk (joinO a b) := ⟨ha.1, by
  have h1 := ha.2
  have h2 := hb.2
  show max a.2 b.2 < 65536
  omega⟩

/- Cells laid one behind the other. -/
def setsL (xs : List Value) (j : Nat) : List Value → List Value
  | [] => xs
  | v :: r => setsL (xs.set j v) (j + 1) r
theorem setsL_at : ∀ (vs : List Value) (xs : List Value) (j t : Nat), (setsL xs j vs)[t]? = if j ≤ t ∧ t < j + vs.length ∧ t < xs.length then vs[t - j]? else xs[t]? := by
  intro vs
  induction vs with
  | nil =>
    intro xs j t
    rw [if_neg (by simp; omega)]
    rfl
  | cons v r ih =>
    intro xs j t
    rw [setsL, ih, List.length_set, List.length_cons]
    by_cases h1 : t = j
    · subst h1
      rw [if_neg (by omega)]
      by_cases h2 : t < xs.length
      · rw [List.getElem?_set_self h2, if_pos ⟨Nat.le_refl _, by omega, h2⟩, Nat.sub_self]; rfl
      · rw [if_neg (by omega), List.getElem?_eq_none (by rw [List.length_set]; omega), List.getElem?_eq_none (by omega)]
    · rw [List.getElem?_set_ne (Ne.symm h1)]
      by_cases h2 : j + 1 ≤ t ∧ t < j + 1 + r.length ∧ t < xs.length
      · rw [if_pos h2, if_pos ⟨by omega, by omega, h2.2.2⟩, show t - j = (t - (j + 1)) + 1 by omega]; rfl
      · rw [if_neg h2, if_neg (by omega)]
theorem sets_flat {α : Type} (enc : α → List Value) (k : Nat) (hk : ∀ x, (enc x).length = k) (hk0 : 0 < k) (l : List α) {i : Nat} (hi : i < l.length) (x : α) : setsL (l.flatMap enc) (i * k) (enc x) = (l.set i x).flatMap enc := by
  have hlen : ∀ l : List α, (l.flatMap enc).length = l.length * k := by
    intro l
    induction l with
    | nil => simp
    | cons y r ih => rw [List.flatMap_cons, List.length_append, ih, hk, List.length_cons, Nat.succ_mul, Nat.add_comm]
  have hb : i * k + k ≤ l.length * k := by
    have := Nat.mul_le_mul_right k (show i + 1 ≤ l.length from hi)
    rw [Nat.succ_mul] at this
    exact this
  apply List.ext_getElem?
  intro t
  rw [setsL_at, hk, hlen]
  by_cases ht : t < l.length * k
  · have hq : t / k < l.length := (Nat.div_lt_iff_lt_mul hk0).2 ht
    have hr : t % k < k := Nat.mod_lt _ hk0
    have hdm : t / k * k + t % k = t := by rw [Nat.mul_comm]; exact Nat.div_add_mod t k
    have key : ∀ (m : List α) (y : α), m[t / k]? = some y → (m.flatMap enc)[t]? = (enc y)[t % k]? := by
      intro m y hy
      have h1 := flat_at enc k hk hy (List.getElem?_eq_getElem (show t % k < (enc y).length by rw [hk]; exact hr))
      rw [hdm] at h1
      rw [h1]
      exact (List.getElem?_eq_getElem (show t % k < (enc y).length by rw [hk]; exact hr)).symm
    by_cases hti : t / k = i
    · have h2 : i * k ≤ t ∧ t < i * k + k ∧ t < l.length * k := by rw [← hti]; exact ⟨by omega, by omega, ht⟩
      rw [if_pos h2, key (l.set i x) x (by rw [hti]; exact List.getElem?_set_self hi)]
      congr 1
      rw [← hti]
      omega
    · have h2 : ¬ (i * k ≤ t ∧ t < i * k + k ∧ t < l.length * k) := by
        rintro ⟨h3, h4, _⟩
        apply hti
        exact Nat.div_eq_of_lt_le (by rw [Nat.mul_comm] at h3 ⊢; exact (by rw [Nat.mul_comm]; rw [Nat.mul_comm] at h3; exact h3)) (by rw [Nat.succ_mul]; exact h4)
      rw [if_neg h2, key l _ (List.getElem?_eq_getElem hq), key (l.set i x) l[t / k] (by rw [List.getElem?_set_ne (Ne.symm hti)]; exact List.getElem?_eq_getElem hq)]
  · rw [if_neg (by omega), List.getElem?_eq_none (by rw [hlen]; omega), List.getElem?_eq_none (by rw [hlen, List.length_set]; omega)]
theorem own_sets {base g cap n size : Nat} {e : TypeId} : ∀ (vs : List Value) (w : World) (j : Nat) (xs : List Value), w.ownsRow base e size (.slice (some ⟨g, 0, none⟩) n cap) n xs → (w.setCells g j vs).ownsRow base e size (.slice (some ⟨g, 0, none⟩) n cap) n (setsL xs j vs) := by
  intro vs
  induction vs with
  | nil => intro w j xs h; exact h
  | cons v r ih => intro w j xs h; exact ih _ _ _ (World.ownsRow.stored h j v).1
theorem below_sets {B g : Nat} {a : World} (hg : B ≤ g) : ∀ (vs : List Value) (w : World) (j : Nat), Below B a w → Below B a (w.setCells g j vs) := by
  intro vs
  induction vs with
  | nil => intro w j h; exact h
  | cons v r ih => intro w j h; exact ih _ _ (h.setCell (p := ⟨g, j, none⟩) hg v)
theorem own_block {w : World} {base n cap size : Nat} {A : Option Addr} {e : TypeId} {xs : List Value} (h : w.ownsRow base e size (.slice A n cap) n xs) (hn : 0 < n) : ∃ g, A = some ⟨g, 0, none⟩ ∧ base ≤ g ∧ g < w.heap.size ∧ ∀ j u, xs[j]? = some u → w.cell? ⟨g, j, none⟩ = some u := by
  have h0 := h
  rcases h.2 with ⟨e0, e1⟩ | ⟨g, cap', cur, e0, hb, hg, _⟩
  · omega
  · injection e0 with e0 e2 e3
    subst e0
    refine ⟨g, rfl, hb, (Array.getElem?_eq_some_iff.1 hg).1, fun j u hu => ?_⟩
    have hj := (List.getElem?_eq_some_iff.1 hu).1
    rw [h0.1] at hj
    rw [World.ownsRow.cellAt h0 j hj]
    exact hu

theorem sp_len' (s : Sp) : s.cells.toList.length = 6 := rfl
def spCells (l : List Sp) : List Value := l.flatMap fun s => s.cells.toList
theorem spCells_at {l : List Sp} {k : Nat} {x : Sp} (h : l[k]? = some x) : (spCells l)[k * 6]? = some (.bool x.1.v6) ∧ (spCells l)[k * 6 + 1]? = some (.int .u64 (x.1.hi : Int)) ∧ (spCells l)[k * 6 + 2]? = some (.int .u64 (x.1.lo : Int)) ∧ (spCells l)[k * 6 + 3]? = some (.bool x.2.v6) ∧ (spCells l)[k * 6 + 4]? = some (.int .u64 (x.2.hi : Int)) ∧ (spCells l)[k * 6 + 5]? = some (.int .u64 (x.2.lo : Int)) :=
  ⟨flat_at _ 6 sp_len' h (r := 0) rfl, flat_at _ 6 sp_len' h (r := 1) rfl, flat_at _ 6 sp_len' h (r := 2) rfl, flat_at _ 6 sp_len' h (r := 3) rfl, flat_at _ 6 sp_len' h (r := 4) rfl, flat_at _ 6 sp_len' h (r := 5) rfl⟩
theorem sp_one (l : List Sp) : ∀ u ∈ spCells l, u.oneCell' = true := by
  intro u hu
  obtain ⟨s, _, hs⟩ := List.mem_flatMap.1 hu
  simp [Sp.cells] at hs
  rcases hs with rfl | rfl | rfl | rfl | rfl | rfl <;> rfl
theorem po_one (l : List (Nat × Nat)) : ∀ u ∈ portCells l, u.oneCell' = true := by
  intro u hu
  obtain ⟨s, _, hs⟩ := List.mem_flatMap.1 hu
  simp at hs
  rcases hs with rfl | rfl <;> rfl
theorem spCells_snoc (l : List Sp) (x : Sp) : spCells (l ++ [x]) = spCells l ++ x.cells.toList := by simp [spCells]
theorem info_sp : (Tryz.prog.info? 73).map (fun i => (i.zero, i.size, i.bytes)) = some (some (.agg #[.bool false, .int .u64 0, .int .u64 0, .bool false, .int .u64 0, .int .u64 0]), 6, 48) := by kernel_rfl
end Go.Proofs.YthglckoikjfjkaaGreatDoor
