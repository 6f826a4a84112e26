/- Joined out of: IpH. -/
import Derived.Test.YtomndcjgdfhmbaaGreatDoorJaq
import Derived.BigRegion
import Derived.Lib.BufferWrite
import Derived.Laws.CopyOwn
import Derived.Lib.SlBuf
set_option linter.unusedVariables false
set_option linter.unusedSimpArgs false

/- A packet of IPv4 as bytes: the walk. -/
namespace Go.Proofs.YtomndcjgdfhmbaaGreatDoor
open Go.RowKit
attribute [local go_sem ↓] Go.wp_at_zero Go.wp_at_succ
attribute [local go_sem] be_size

/- One step of a region: a copy whose run is known. -/
theorem step_copy_run {P : Program} {ops : Array Oper} {o : Oper} {a : Act} {w : World} {K : Act → World → Prop} {Q : Exit → Act → World → Prop} {E : Prop} (hg : o.guard = none) (d s : Operand) (t t' : TypeId)
    (ho : o.op = .call { callee := .builtin .copy, args := #[d, s], argTypes := #[t, t'] }) (v u : Value) (hd : a.eval d = v) (hs : a.eval s = u) {v' : Value} {w' : World}
    (hr : (Builtin.copy_ #[t, t'] o.type #[v, u]).run P w = .ok v' w') (h : K (a.put o.dst v') w') : if Region.wanted o (yielded ops a.tmps) = true then Oper.wp P o a w K Q else E := by
  rw [if_pos (by simp [Region.wanted, hg])]
  exact Lib.wp_copy_run w d s t t' ho v u hd hs hr h

theorem size_u8 : (Tryz.prog.info? 5).map (·.size) = some 1 := by kernel_rfl

/- A block of bytes. -/
def Bts (w : World) (g : Nat) (t : TypeId) (L : List UInt8) : Prop := Blk w g t (Lib.byteCells L).toArray
theorem Bts.conv {w : World} {g : Nat} {t : TypeId} {L : List UInt8} (h : Bts w g t L) (n cap : Nat) (hn : L.length = n) : (convert 49 9 (.slice (some ⟨g, 0, none⟩) n cap)).run Tryz.prog w = .ok (.string ⟨L.toArray⟩) w := by
  subst hn
  refine run_convert_bytes_back (P := Tryz.prog) w 49 9 5 ⟨g, 0, none⟩ cap L Tryz.underlying49 Tryz.underlying5 Tryz.underlying9 ?_
  intro j hj
  have e : (⟨g, 0, none⟩ : Addr).add j = ⟨g, j, none⟩ := by unfold Addr.add; split <;> simp_all
  rw [e, h.cell j]
  simp [Lib.byteCells, hj]
theorem Bts.below {w w' : World} {g : Nat} {t : TypeId} {L : List UInt8} (h : Bts w g t L) (hb : Below w.heap.size w w') : Bts w' g t L := Blk.below h hb h.lt
def spl (L : List UInt8) (o : Nat) (x : List UInt8) : List UInt8 := L.take o ++ x ++ L.drop (o + x.length)
theorem spl_length {L x : List UInt8} {o : Nat} (h : o + x.length ≤ L.length) : (spl L o x).length = L.length := by unfold spl; simp; omega
/- A text copied into a block of bytes. -/
theorem Bts.copy {w : World} {g : Nat} {t : TypeId} {L : List UInt8} (h : Bts w g t L) (o dLen dCap : Nat) (x : ByteArray) (ty : TypeId) (h1 : x.size ≤ dLen) (h2 : o + x.size ≤ L.length) :
    ∃ w', (Builtin.copy_ #[49, 9] ty #[.slice (some ⟨g, o, none⟩) dLen dCap, .string x]).run Tryz.prog w = .ok (goInt x.size) w' ∧ Bts w' g t (spl L o x.data.toList) ∧ (∀ B, B ≤ g → Below B w w') ∧ (∀ g' t' cs, g' ≠ g → Blk w g' t' cs → Blk w' g' t' cs) := by
  refine ⟨_, Lib.run_copy_row_string (P := Tryz.prog) w 49 9 ty 5 g o dLen dCap x _ t Tryz.underlying49 size_u8 h h1 (by simpa [Lib.byteCells] using h2), ?_, ?_, ?_⟩
  · have := setRow_heap w g _ ((Lib.byteCells L).take o ++ Lib.byteCells x.data.toList ++ (Lib.byteCells L).drop (o + x.size)).toArray t (0, 0) h
    unfold Bts Blk
    rw [this]
    congr 3
    unfold spl Lib.byteCells
    rw [List.map_append, List.map_append, List.map_take, List.map_drop, Lib.size_eq]
  · intro B hB
    exact below_setRow (Below.refl B w) hB _
  · intro g' t' cs hne hb
    exact (setRow_other w g g' _ hne).trans hb

def front4 (n tt pr : Nat) : ByteArray := ⟨#[69, 0]⟩ ++ be 2 (20 + n) ++ ⟨#[0, 0, 0, 0]⟩ ++ ⟨#[UInt8.ofNat tt, UInt8.ofNat pr]⟩
def enc4 (p : Pk) : ByteArray := front4 p.data.size p.ttl p.proto ++ be 2 (sumB (front4 p.data.size p.ttl p.proto ++ ⟨#[0, 0]⟩ ++ (addrB p.a ++ addrB p.b))) ++ (addrB p.a ++ addrB p.b) ++ p.data
theorem mayE_v6 {p : Pk} (h : p.mayE = 0) : p.b.v6 = p.a.v6 := by
  unfold Pk.mayE at h
  split at h
  · cases h
  · next hn =>
    simp only [Bool.not_eq_true, Bool.or_eq_false_iff, bne_eq_false_iff_eq] at hn
    exact hn.2.symm

def L0 (tt pr : Nat) : List UInt8 := [69, 0, 0, 0, 0, 0, 0, 0, UInt8.ofNat tt, UInt8.ofNat pr, 0, 0, 0, 0, 0, 0, 0, 0, 0, 0]
def L2 (n tt pr l l' : Nat) : List UInt8 := spl (spl (L0 tt pr) 2 (be 2 (20 + n)).data.toList) 12 (be 4 l ++ be 4 l').data.toList
theorem L2_eq (n tt pr l l' : Nat) : (⟨(L2 n tt pr l l').toArray⟩ : ByteArray) = front4 n tt pr ++ ⟨#[0, 0]⟩ ++ (be 4 l ++ be 4 l') := by
  apply ByteArray.ext
  simp [L2, L0, spl, front4, be, beL, ByteArray.data_append, List.range_succ]
theorem L3_eq (n tt pr l l' x : Nat) : (⟨(spl (L2 n tt pr l l') 10 (be 2 x).data.toList).toArray⟩ : ByteArray) = front4 n tt pr ++ be 2 x ++ (be 4 l ++ be 4 l') := by
  apply ByteArray.ext
  simp [L2, L0, spl, front4, be, beL, ByteArray.data_append, List.range_succ]
theorem L2_length (n tt pr l l' : Nat) : (L2 n tt pr l l').length = 20 := by simp [L2, L0, spl, be, beL, ByteArray.data_append, List.range_succ]

set_option maxHeartbeats 8000000 in
set_option maxRecDepth 100000 in
theorem encode4 (p : Pk) (ok : p.Ok) (hm : p.mayE = 0) (h6 : p.a.v6 = false) (w : World) : Calls Tryz.prog 10 #[.agg p.cells] w (Got (.tuple #[.string (enc4 p), .int .i64 0]) w) := by
  have Hm := Lib.hid (may_any p ok)
  have Ha := Lib.hid (bytesA_any p.a ok.a)
  have Hb := Lib.hid (bytesA_any p.b ok.b)
  have hv := mayE_v6 hm
  rw [hm] at Hm
  obtain ⟨⟨v, h, l⟩, ⟨v', h', l'⟩, pr, tt, s⟩ := p
  simp only at h6 hv
  subst h6
  subst hv
  have hs := ok.data
  have hpr := ok.proto
  have htt := ok.ttl
  simp only at hs hpr htt
  have ea : addrB ⟨false, h, l⟩ = be 4 l := rfl
  have eb : addrB ⟨false, h', l'⟩ = be 4 l' := rfl
  unfold Pk.cells enc4 at *
  unfold Ad.cells at *
  simp only [ea, eb] at Hm Ha Hb ⊢
  rw [← L2_eq]
  have H3 := Lib.hid (L3_eq s.size tt pr l l')
  have Hl2 := Lib.hid (L2_length s.size tt pr l l')
  obtain ⟨n16, hn16⟩ : ∃ n, n = 20 + s.size := ⟨_, rfl⟩
  have H16 := Lib.hid (u16_any n16 (by omega))
  have Hsum := Lib.hid (sum_any ⟨(L2 s.size tt pr l l').toArray⟩ (by show (L2 s.size tt pr l l').toArray.size ≤ 65536; simp [L2_length]))
  have Hs16 := Lib.hid (u16_any (sumB ⟨(L2 s.size tt pr l l').toArray⟩) (by unfold sumB sum16; omega))
  have hw16 : IntKind.u16.wrap (20 + (s.size : Int)) = (n16 : Int) := by rw [IntKind.wrap_u16]; omega
  have Hn16 := Lib.hid hn16
  clear hn16
  have hw64 : IntKind.i64.wrap (20 + (s.size : Int)) = 20 + (s.size : Int) := IntWalk.i64_in _ (by omega)
  clear ok hm ea eb
  have hC0 := Blk.new w 26 #[.bool false, .int .u64 (h : Int), .int .u64 (l : Int), .bool false, .int .u64 (h' : Int), .int .u64 (l' : Int), .int .u8 (pr : Int), .int .u8 (tt : Int), .string s]
  have hc0 := boxed w (.cells #[.bool false, .int .u64 (h : Int), .int .u64 (l : Int), .bool false, .int .u64 (h' : Int), .int .u64 (l' : Int), .int .u8 (pr : Int), .int .u8 (tt : Int), .string s] 26)
  go_enter Tryz.func10, Tryz.ntmps10
  go_wp2_with (go_at_call 12; refine (Hm.out _).mono ?_; rintro r w1 ⟨rfl, hb1⟩; have hC1 := hC0.below hb1 hC0.lt; have x0 := hC1.cell 0; have x1 := hC1.cell 1; have x2 := hC1.cell 2; have x3 := hC1.cell 3; have x4 := hC1.cell 4; have x5 := hC1.cell 5; have x6 := hC1.cell 6; have x7 := hC1.cell 7; have x8 := hC1.cell 8; simp at x0 x1 x2 x3 x4 x5 x6 x7 x8)
  have hb0 := after hc0 hb1
  clear hc0 hC0 hb1
  have hlt := hC1.lt
  go_region
  go_wp2_with fail
  have hG2 : Bts ((w1.alloc (.cells #[.int .u8 69, .int .u8 0, .int .u8 0, .int .u8 0, .int .u8 0, .int .u8 0, .int .u8 0, .int .u8 0, .int .u8 (tt : Int), .int .u8 (pr : Int), .int .u8 0, .int .u8 0, .int .u8 0, .int .u8 0, .int .u8 0, .int .u8 0, .int .u8 0, .int .u8 0, .int .u8 0, .int .u8 0] 57)).drew) w1.heap.size 57 (L0 tt pr) := by
    unfold Bts
    have e : (Lib.byteCells (L0 tt pr)).toArray = #[.int .u8 69, .int .u8 0, .int .u8 0, .int .u8 0, .int .u8 0, .int .u8 0, .int .u8 0, .int .u8 0, .int .u8 (tt : Int), .int .u8 (pr : Int), .int .u8 0, .int .u8 0, .int .u8 0, .int .u8 0, .int .u8 0, .int .u8 0, .int .u8 0, .int .u8 0, .int .u8 0, .int .u8 0] := by simp [Lib.byteCells, L0, Nat.mod_eq_of_lt htt, Nat.mod_eq_of_lt hpr]
    rw [e]
    exact (Blk.new w1 _ _).drew
  have hC2 := (hC1.alloc (.cells #[.int .u8 69, .int .u8 0, .int .u8 0, .int .u8 0, .int .u8 0, .int .u8 0, .int .u8 0, .int .u8 0, .int .u8 (tt : Int), .int .u8 (pr : Int), .int .u8 0, .int .u8 0, .int .u8 0, .int .u8 0, .int .u8 0, .int .u8 0, .int .u8 0, .int .u8 0, .int .u8 0, .int .u8 0] 57)).drew
  have hb2 := (after hb0 (boxed w1 (.cells #[.int .u8 69, .int .u8 0, .int .u8 0, .int .u8 0, .int .u8 0, .int .u8 0, .int .u8 0, .int .u8 0, .int .u8 (tt : Int), .int .u8 (pr : Int), .int .u8 0, .int .u8 0, .int .u8 0, .int .u8 0, .int .u8 0, .int .u8 0, .int .u8 0, .int .u8 0, .int .u8 0, .int .u8 0] 57))).drew
  have hge : w.heap.size ≤ w1.heap.size := hb0.size
  have hgne : w.heap.size ≠ w1.heap.size := by omega
  clear x0 x1 x2 x3 x4 x5 x6 x7 x8 hC1 hb0
  generalize (w1.alloc (.cells #[.int .u8 69, .int .u8 0, .int .u8 0, .int .u8 0, .int .u8 0, .int .u8 0, .int .u8 0, .int .u8 0, .int .u8 (tt : Int), .int .u8 (pr : Int), .int .u8 0, .int .u8 0, .int .u8 0, .int .u8 0, .int .u8 0, .int .u8 0, .int .u8 0, .int .u8 0, .int .u8 0, .int .u8 0] 57)).drew = v0 at hG2 hC2 hb2 ⊢
  generalize w1.heap.size = g at *
  have hge' := hge
  have x8 := hC2.cell 8
  simp at x8
  go_region_held3 (fun w' => w'.cell? ⟨w.heap.size, 8, none⟩ = some (.string s))
    (first | exact x8 | exact y8 | exact z8)
    (first
      | (go_at_call 33; (with_reducible refine (H16.out _).mono ?_); rintro r v1 ⟨rfl, d1⟩; have hC3 := hC2.drew.below d1 hC2.lt; have hG3 := Bts.below (show Bts v0.drew _ _ _ from hG2) d1; have hb3 := after hb2.drew d1; have y8 := hC3.cell 8; simp at y8)
      | (obtain ⟨v2, hr, hG4, q1, q2⟩ := hG3.copy 2 18 18 (be 2 n16) 3 (by rw [be_size]; omega) (by rw [be_size]; show 2 + 2 ≤ 20; decide); (refine step_copy_run (by rfl) _ _ 49 9 (by rfl) _ _ (by rfl) (by rfl) hr ?_); have hC4 := q2 _ _ _ hgne hC3; have z8 := hC4.cell 8; simp at z8))
  have hb4 := hb3.trans (q1 _ hge)
  clear hr q1 q2 hG2 hC2 hb2 hC3 hG3 hb3 d1 x8 y8 z8
  go_wp2_with fail
  have x0 := hC4.cell 0
  have x1 := hC4.cell 1
  have x2 := hC4.cell 2
  have x3 := hC4.cell 3
  have x4 := hC4.cell 4
  have x5 := hC4.cell 5
  simp at x0 x1 x2 x3 x4 x5
  go_region_held3 (fun w' => w'.cell? ⟨w.heap.size, 0, none⟩ = some (.bool false) ∧ w'.cell? ⟨w.heap.size, 1, none⟩ = some (.int .u64 (h : Int)) ∧ w'.cell? ⟨w.heap.size, 2, none⟩ = some (.int .u64 (l : Int)) ∧ w'.cell? ⟨w.heap.size, 3, none⟩ = some (.bool false) ∧ w'.cell? ⟨w.heap.size, 4, none⟩ = some (.int .u64 (h' : Int)) ∧ w'.cell? ⟨w.heap.size, 5, none⟩ = some (.int .u64 (l' : Int)))
    (first | exact ⟨x0, x1, x2, x3, x4, x5⟩ | exact ⟨y0, y1, y2, y3, y4, y5⟩ | exact ⟨z0, z1, z2, z3, z4, z5⟩ | exact ⟨u0, u1, u2, u3, u4, u5⟩)
    (first
      | (go_at_call 34; (with_reducible refine (Ha.out _).mono ?_); rintro r v3 ⟨rfl, d3⟩; have hC5 := hC4.drew.below d3 hC4.lt; have hG5 := Bts.below (show Bts v2.drew _ _ _ from hG4) d3; have hb5 := after hb4.drew d3; have y0 := hC5.cell 0; have y1 := hC5.cell 1; have y2 := hC5.cell 2; have y3 := hC5.cell 3; have y4 := hC5.cell 4; have y5 := hC5.cell 5; simp at y0 y1 y2 y3 y4 y5)
      | (go_at_call 34; (with_reducible refine (Hb.out _).mono ?_); rintro r v4 ⟨rfl, d4⟩; have hC6 := hC5.below d4 hC5.lt; have hG6 := hG5.below d4; have hb6 := after hb5 d4; have z0 := hC6.cell 0; have z1 := hC6.cell 1; have z2 := hC6.cell 2; have z3 := hC6.cell 3; have z4 := hC6.cell 4; have z5 := hC6.cell 5; simp at z0 z1 z2 z3 z4 z5)
      | (obtain ⟨v5, hr, hG7, q1, q2⟩ := hG6.copy 12 8 8 (be 4 l ++ be 4 l') 3 (by rw [ByteArray.size_append, be_size, be_size]; omega) (by rw [ByteArray.size_append, be_size, be_size, spl_length (by rw [← Lib.size_eq, be_size]; show 2 + 2 ≤ 20; decide)]; show 12 + (4 + 4) ≤ 20; decide); (refine step_copy_run (by rfl) _ _ 49 9 (by rfl) _ _ (by rfl) (by rfl) hr ?_); have hC7 := q2 _ _ _ hgne hC6; have u0 := hC7.cell 0; have u1 := hC7.cell 1; have u2 := hC7.cell 2; have u3 := hC7.cell 3; have u4 := hC7.cell 4; have u5 := hC7.cell 5; simp at u0 u1 u2 u3 u4 u5))
  have hb7 := hb6.trans (q1 _ hge)
  have hG8 : Bts v5 g 57 (L2 s.size tt pr l l') := by
    have e : spl (spl (L0 tt pr) 2 (be 2 n16).data.toList) 12 (be 4 l ++ be 4 l').data.toList = L2 s.size tt pr l l' := by rw [Hn16.out]; rfl
    rw [← e]
    exact hG7
  clear hr q1 q2 hG4 hC4 hb4 hC5 hG5 hb5 hC6 hG6 hb6 hG7 d3 d4 x0 x1 x2 x3 x4 x5 y0 y1 y2 y3 y4 y5 z0 z1 z2 z3 z4 z5 u0 u1 u2 u3 u4 u5
  go_wp2_with fail
  generalize hL2 : L2 s.size tt pr l l' = L at *
  refine wp_region_held_drew (S := fun _ => True) (by kernel_rfl) trivial (fun hHeld => ?_)
  have x1 : (convert 49 9 (.slice (some ⟨g, 0, none⟩) 20 20)).run Tryz.prog v5.drew = .ok (.string ⟨L.toArray⟩) v5.drew := Bts.conv (show Bts v5.drew _ _ _ from hG8) 20 20 Hl2.out
  refine' wpAnyH_take (i := 0) (oi := { dst := some 62, op := Go.Op.slice 57 (Go.Operand.tmp 5) (some (Go.Operand.const (Go.Value.int Go.IntKind.i64 10))) none none, type := 49, pos := "ip.go:63", after := #[], guard := none }) (v := _) rfl (by kernel_rfl) (by kernel_rfl) (by kernel_rfl) (fun _ _ _ h => h) (Or.inl ⟨by rfl, ?hy1⟩) (by assumption) ?hrest1
  case hy1 =>
    intro w hSw
    try dsimp only at hSw
    go_simp
    try with_reducible rfl
  try simp only [Act.put, List.setIfInBounds_toArray, List.set_cons_zero, List.set_cons_succ]
  refine' wpAnyH_take (i := 1) (oi := { dst := some 63, op := Go.Op.slice 57 (Go.Operand.tmp 5) none none none, type := 49, pos := "ip.go:63", after := #[], guard := none }) (v := _) rfl (by kernel_rfl) (by kernel_rfl) (by kernel_rfl) (fun _ _ _ h => h) (Or.inl ⟨by rfl, ?hy2⟩) (by assumption) ?hrest2
  case hy2 =>
    intro w hSw
    try dsimp only at hSw
    go_simp
    try with_reducible rfl
  try simp only [Act.put, List.setIfInBounds_toArray, List.set_cons_zero, List.set_cons_succ]
  refine wpAnyH_ready (rs := [2]) (by kernel_rfl) (by simp) ?_
  refine AllReadyH.cons (o := { dst := some 64, op := Go.Op.convert 49 9 (Go.Operand.tmp 63), type := 9, pos := "ip.go:63", after := #[{ on := 1, ground := Go.Ground.data }], guard := none }) rfl (fun K hK => ?_) AllReadyH.nil
  go_simp
  refine hK.out _ _ trivial (fun hHeld => ?_)
  clear hK K
  try simp only [Act.put, List.setIfInBounds_toArray, List.set_cons_zero, List.set_cons_succ]
  refine wpAnyH_ready (rs := [3]) (by kernel_rfl) (by simp) ?_
  refine AllReadyH.cons (o := { dst := some 65, op := Go.Op.call { callee := Go.Callee.value (Go.Operand.func 14), args := #[Go.Operand.tmp 64], argTypes := #[9] }, type := 32, pos := "ip.go:63", after := #[{ on := 2, ground := Go.Ground.data }], guard := none }) rfl (fun K hK => ?_) AllReadyH.nil
  go_simp
  refine (Hsum.out _).mono ?_
  rintro r v6 ⟨rfl, d6⟩
  have hC9 := hC7.drew.below d6 hC7.lt
  have hG9 := Bts.below (show Bts v5.drew _ _ _ from hG8) d6
  have hb9 := after hb7.drew d6
  refine hK.out _ _ trivial (fun hHeld => ?_)
  clear hK K
  try simp only [Act.put, List.setIfInBounds_toArray, List.set_cons_zero, List.set_cons_succ]
  refine wpAnyH_ready (rs := [4]) (by kernel_rfl) (by simp) ?_
  refine AllReadyH.cons (o := { dst := some 66, op := Go.Op.call { callee := Go.Callee.value (Go.Operand.func 33), args := #[Go.Operand.tmp 65], argTypes := #[32] }, type := 9, pos := "ip.go:63", after := #[{ on := 3, ground := Go.Ground.data }, { on := 3, ground := Go.Ground.chain }], guard := none }) rfl (fun K hK => ?_) AllReadyH.nil
  go_simp
  refine (Hs16.out _).mono ?_
  rintro r v7 ⟨rfl, d7⟩
  have hC10 := hC9.below d7 hC9.lt
  have hG10 := hG9.below d7
  have hb10 := after hb9 d7
  refine hK.out _ _ trivial (fun hHeld => ?_)
  clear hK K
  try simp only [Act.put, List.setIfInBounds_toArray, List.set_cons_zero, List.set_cons_succ]
  refine wpAnyH_ready (rs := [5]) (by kernel_rfl) (by simp) ?_
  refine AllReadyH.cons (o := { dst := some 67, op := Go.Op.call { callee := Go.Callee.builtin Go.Builtin.copy, args := #[Go.Operand.tmp 62, Go.Operand.tmp 66], argTypes := #[49, 9] }, type := 3, pos := "ip.go:63", after := #[{ on := 0, ground := Go.Ground.data }, { on := 4, ground := Go.Ground.data }, { on := 4, ground := Go.Ground.chain }], guard := none }) rfl (fun K hK => ?_) AllReadyH.nil
  obtain ⟨v8, hr, hG11, q1, q2⟩ := hG10.copy 10 10 10 (be 2 (sumB ⟨L.toArray⟩)) 3 (by rw [be_size]; omega) (by rw [be_size, Hl2.out]; decide)
  refine step_copy_run (by rfl) _ _ 49 9 (by rfl) _ _ (by rfl) (by rfl) hr ?_
  have hC11 := q2 _ _ _ hgne hC10
  refine hK.out _ _ trivial (fun hHeld => ?_)
  clear hK K
  try simp only [Act.put, List.setIfInBounds_toArray, List.set_cons_zero, List.set_cons_succ]
  refine wpAnyH_done (by kernel_rfl) ?_ _
  have hb11 := hb10.trans (q1 _ hge)
  clear hr q1 q2 hG8 hC7 hb7 hC9 hG9 hb9 hC10 hG10 hb10 d6 d7 x1
  go_wp2_with fail
  have Hl3 : Hid ((spl L 10 (be 2 (sumB ⟨L.toArray⟩)).data.toList).length = 20) := Lib.hid (by rw [spl_length (by rw [← Lib.size_eq, be_size, Hl2.out]; decide)]; exact Hl2.out)
  have H4 := H3.out (sumB ⟨L.toArray⟩)
  have n1 : ¬ 9223372036854775807 < 20 + s.size := by omega
  have hR : (convert 49 9 (.slice (some ⟨g, 0, none⟩) 20 20)).run Tryz.prog v8.drew = .ok (.string (front4 s.size tt pr ++ be 2 (sumB ⟨L.toArray⟩) ++ (be 4 l ++ be 4 l'))) v8.drew := by
    rw [← H4]
    exact Bts.conv (show Bts v8.drew _ _ _ from hG11) 20 20 Hl3.out
  have hsz : (front4 s.size tt pr ++ be 2 (sumB ⟨L.toArray⟩) ++ (be 4 l ++ be 4 l')).size = 20 := by
    rw [← H4]
    show (spl L 10 (be 2 (sumB ⟨L.toArray⟩)).data.toList).toArray.size = 20
    rw [List.size_toArray]
    exact Hl3.out
  generalize front4 s.size tt pr ++ be 2 (sumB ⟨L.toArray⟩) ++ (be 4 l ++ be 4 l') = HD at *
  have x8 := hC11.drew.cell 8
  simp at x8
  have n2 : ¬ 9223372036854775807 < HD.size + s.size := by omega
  have Hsz := Lib.hid hsz
  have H4' := Lib.hid H4
  clear hsz H4
  go_region_held3 (fun w' => w'.cell? ⟨w.heap.size, 8, none⟩ = some (.string s) ∧ (convert 49 9 (.slice (some ⟨g, 0, none⟩) 20 20)).run Tryz.prog w' = .ok (.string HD) w')
    (exact ⟨x8, hR⟩)
    (fail)
  go_wp2_with fail
  go_ret2
  exact ⟨rfl, hb11.drew⟩
end Go.Proofs.YtomndcjgdfhmbaaGreatDoor
