/- Joined out of: IpI WkA LwA. -/
import Derived.Test.YtomndcjgdfhmbaaGreatDoorJar
import Derived.Test.YtomndcjgdfhmbaaGreatDoorJam
import Derived.Test.YtomndcjgdfhmbaaGreatDoorJao
import Derived.Test.YtomndcjgdfhmbaaGreatDoorJac
set_option linter.unusedVariables false
set_option linter.unusedSimpArgs false

/- A packet of IPv4 as bytes: the document's, walked. (The walk of a region is printed by ip_renc4.py.) Both Encodes whole. -/
namespace Go.Proofs.YtomndcjgdfhmbaaGreatDoor
open Go.RowKit
attribute [local go_sem ↓] Go.wp_at_zero Go.wp_at_succ
attribute [local go_sem] be_size

set_option maxHeartbeats 8000000 in
set_option maxRecDepth 100000 in
theorem rencode4 (p : Pk) (ok : p.Ok) (hm : p.mayE = 0) (h6 : p.a.v6 = false) (w : World) : Calls Tryz.prog 11 #[.agg p.cells] w (Got (.tuple #[.string (enc4 p), .int .i64 0]) w) := by
  have Hm := Lib.hid (rmay_any p ok)
  have Ha := Lib.hid (rbytes_any p.a ok.a)
  have Hb := Lib.hid (rbytes_any p.b ok.b)
  have hv := mayE_v6 hm
  rw [hm] at Hm
  obtain ⟨⟨v, h, l⟩, ⟨v', h', l'⟩, pr, tt, s⟩ := p
  simp only at h6 hv
  subst h6
  subst hv
  have hs := ok.data
  simp only at hs
  have hback := two_back tt pr ok.ttl ok.proto
  have ea : addrB ⟨false, h, l⟩ = be 4 l := rfl
  have eb : addrB ⟨false, h', l'⟩ = be 4 l' := rfl
  unfold Pk.cells enc4 front4 at *
  unfold Ad.cells at *
  simp only [ea, eb] at Hm Ha Hb hback ⊢
  obtain ⟨n16, hn16⟩ : ∃ n, n = 20 + s.size := ⟨_, rfl⟩
  rw [← hn16]
  have H16 := Lib.hid (num2_any n16 (by omega))
  have hw16 : IntKind.u64.wrap (20 + (s.size : Int)) = (n16 : Int) := by rw [IntKind.wrap_u64]; omega
  have hw64 : IntKind.i64.wrap (20 + (s.size : Int)) = 20 + (s.size : Int) := IntWalk.i64_in _ (by omega)
  have Hsum := Lib.hid (rsum_any (⟨#[69, 0]⟩ ++ be 2 n16 ++ ⟨#[0, 0, 0, 0]⟩ ++ ⟨#[UInt8.ofNat tt, UInt8.ofNat pr]⟩ ++ ⟨#[0, 0]⟩ ++ (be 4 l ++ be 4 l')) (by simp only [ByteArray.size_append, be_size]; show 2 + 2 + 4 + 2 + 2 + (4 + 4) ≤ 65536; decide))
  have hss : sumB (⟨#[69, 0]⟩ ++ be 2 n16 ++ ⟨#[0, 0, 0, 0]⟩ ++ ⟨#[UInt8.ofNat tt, UInt8.ofNat pr]⟩ ++ ⟨#[0, 0]⟩ ++ (be 4 l ++ be 4 l')) < 65536 := by unfold sumB sum16; omega
  have Hs16 := Lib.hid (num2_any (sumB (⟨#[69, 0]⟩ ++ be 2 n16 ++ ⟨#[0, 0, 0, 0]⟩ ++ ⟨#[UInt8.ofNat tt, UInt8.ofNat pr]⟩ ++ ⟨#[0, 0]⟩ ++ (be 4 l ++ be 4 l'))) (by omega))
  generalize sumB (⟨#[69, 0]⟩ ++ be 2 n16 ++ ⟨#[0, 0, 0, 0]⟩ ++ ⟨#[UInt8.ofNat tt, UInt8.ofNat pr]⟩ ++ ⟨#[0, 0]⟩ ++ (be 4 l ++ be 4 l')) = sm at *
  have Hn16 := Lib.hid hn16
  have hsw : IntKind.u64.wrap (sm : Int) = (sm : Int) := by rw [IntKind.wrap_u64]; omega
  have n1 : ¬ 9223372036854775807 < 20 + s.size := by omega
  clear ok hm ea eb hn16 hss
  have hC0 := Blk.new w 26 #[.bool false, .int .u64 (h : Int), .int .u64 (l : Int), .bool false, .int .u64 (h' : Int), .int .u64 (l' : Int), .int .u8 (pr : Int), .int .u8 (tt : Int), .string s]
  have hc0 := boxed w (.cells #[.bool false, .int .u64 (h : Int), .int .u64 (l : Int), .bool false, .int .u64 (h' : Int), .int .u64 (l' : Int), .int .u8 (pr : Int), .int .u8 (tt : Int), .string s] 26)
  go_enter Tryz.func11, Tryz.ntmps11
  go_wp2_with (go_at_call 13; refine (Hm.out _).mono ?_; rintro r w1 ⟨rfl, hb1⟩; have hC1 := hC0.below hb1 hC0.lt; have x0 := hC1.cell 0; have x1 := hC1.cell 1; have x2 := hC1.cell 2; have x3 := hC1.cell 3; have x4 := hC1.cell 4; have x5 := hC1.cell 5; have x6 := hC1.cell 6; have x7 := hC1.cell 7; have x8 := hC1.cell 8; simp at x0 x1 x2 x3 x4 x5 x6 x7 x8)
  have hb0 := (after hc0 hb1).drew
  have hB0 := hC1.drew
  clear hC0 hc0 hb1 x0 x1 x2 x3 x4 x5 x6 x7 x8 hC1
  generalize w.heap.size = b at hB0 ⊢
  refine wp_region_held_drew (S := fun w' => (w'.cell? ⟨b, 0, none⟩ = some (.bool false) ∧ w'.cell? ⟨b, 1, none⟩ = some (.int .u64 (h : Int)) ∧ w'.cell? ⟨b, 2, none⟩ = some (.int .u64 (l : Int)) ∧ w'.cell? ⟨b, 3, none⟩ = some (.bool false) ∧ w'.cell? ⟨b, 4, none⟩ = some (.int .u64 (h' : Int)) ∧ w'.cell? ⟨b, 5, none⟩ = some (.int .u64 (l' : Int)) ∧ w'.cell? ⟨b, 6, none⟩ = some (.int .u8 (pr : Int)) ∧ w'.cell? ⟨b, 7, none⟩ = some (.int .u8 (tt : Int)) ∧ w'.cell? ⟨b, 8, none⟩ = some (.string s))) (by kernel_rfl) ⟨hB0.cell 0, hB0.cell 1, hB0.cell 2, hB0.cell 3, hB0.cell 4, hB0.cell 5, hB0.cell 6, hB0.cell 7, hB0.cell 8⟩ (fun hHeld => ?_)
  generalize w1.drew = v0 at hB0 hb0 hHeld ⊢
  refine' wpAnyH_take (i := 0) (oi := { dst := some 39, op := Go.Op.fieldAddr 26 (Go.Operand.tmp 1) 4, type := 0, pos := "ref.go:62", after := #[], guard := none }) (v := _) rfl (by kernel_rfl) (by kernel_rfl) (by kernel_rfl) (fun _ _ _ h => h) (Or.inl ⟨by rfl, ?hy1⟩) (by assumption) ?hrest1
  case hy1 =>
    intro w hSw
    try dsimp only at hSw
    go_simp
    try with_reducible rfl
  try simp only [Act.put, List.setIfInBounds_toArray, List.set_cons_zero, List.set_cons_succ]
  refine' wpAnyH_take (i := 1) (oi := { dst := some 40, op := Go.Op.load 9 (Go.Operand.tmp 39), type := 9, pos := "ref.go:62", after := #[{ on := 0, ground := Go.Ground.data }], guard := none }) (v := _) rfl (by kernel_rfl) (by kernel_rfl) (by kernel_rfl) (fun _ _ _ h => h) (Or.inl ⟨by rfl, ?hy2⟩) (by assumption) ?hrest2
  case hy2 =>
    intro w hSw
    try dsimp only at hSw
    go_simp
    try with_reducible rfl
  try simp only [Act.put, List.setIfInBounds_toArray, List.set_cons_zero, List.set_cons_succ]
  refine' wpAnyH_take (i := 2) (oi := { dst := some 41, op := Go.Op.call { callee := Go.Callee.builtin Go.Builtin.len, args := #[Go.Operand.tmp 40], argTypes := #[9] }, type := 3, pos := "ref.go:62", after := #[{ on := 1, ground := Go.Ground.data }], guard := none }) (v := _) rfl (by kernel_rfl) (by kernel_rfl) (by kernel_rfl) (fun _ _ _ h => h) (Or.inl ⟨by rfl, ?hy3⟩) (by assumption) ?hrest3
  case hy3 =>
    intro w hSw
    try dsimp only at hSw
    go_simp
    try with_reducible rfl
  try simp only [Act.put, List.setIfInBounds_toArray, List.set_cons_zero, List.set_cons_succ]
  refine' wpAnyH_take (i := 3) (oi := { dst := some 42, op := Go.Op.binOp Go.BinOp.add 3 (Go.Operand.const (Go.Value.int Go.IntKind.i64 20)) (Go.Operand.tmp 41) 3, type := 3, pos := "ref.go:62", after := #[{ on := 2, ground := Go.Ground.data }], guard := none }) (v := _) rfl (by kernel_rfl) (by kernel_rfl) (by kernel_rfl) (fun _ _ _ h => h) (Or.inl ⟨by rfl, ?hy4⟩) (by assumption) ?hrest4
  case hy4 =>
    intro w hSw
    try dsimp only at hSw
    go_simp
    try with_reducible rfl
  try simp only [Act.put, List.setIfInBounds_toArray, List.set_cons_zero, List.set_cons_succ]
  refine' wpAnyH_take (i := 4) (oi := { dst := some 43, op := Go.Op.convert 3 22 (Go.Operand.tmp 42), type := 22, pos := "ref.go:62", after := #[{ on := 3, ground := Go.Ground.data }], guard := none }) (v := _) rfl (by kernel_rfl) (by kernel_rfl) (by kernel_rfl) (fun _ _ _ h => h) (Or.inl ⟨by rfl, ?hy5⟩) (by assumption) ?hrest5
  case hy5 =>
    intro w hSw
    try dsimp only at hSw
    go_simp
    try with_reducible rfl
  try simp only [Act.put, List.setIfInBounds_toArray, List.set_cons_zero, List.set_cons_succ]
  refine' wpAnyH_take (i := 8) (oi := { dst := some 47, op := Go.Op.fieldAddr 26 (Go.Operand.tmp 1) 3, type := 0, pos := "ref.go:62", after := #[], guard := none }) (v := _) rfl (by kernel_rfl) (by kernel_rfl) (by kernel_rfl) (fun _ _ _ h => h) (Or.inl ⟨by rfl, ?hy6⟩) (by assumption) ?hrest6
  case hy6 =>
    intro w hSw
    try dsimp only at hSw
    go_simp
    try with_reducible rfl
  try simp only [Act.put, List.setIfInBounds_toArray, List.set_cons_zero, List.set_cons_succ]
  refine' wpAnyH_take (i := 9) (oi := { dst := some 48, op := Go.Op.load 5 (Go.Operand.tmp 47), type := 5, pos := "ref.go:62", after := #[{ on := 8, ground := Go.Ground.data }], guard := none }) (v := _) rfl (by kernel_rfl) (by kernel_rfl) (by kernel_rfl) (fun _ _ _ h => h) (Or.inl ⟨by rfl, ?hy7⟩) (by assumption) ?hrest7
  case hy7 =>
    intro w hSw
    try dsimp only at hSw
    go_simp
    try with_reducible rfl
  try simp only [Act.put, List.setIfInBounds_toArray, List.set_cons_zero, List.set_cons_succ]
  refine' wpAnyH_take (i := 10) (oi := { dst := some 49, op := Go.Op.fieldAddr 26 (Go.Operand.tmp 1) 2, type := 0, pos := "ref.go:62", after := #[], guard := none }) (v := _) rfl (by kernel_rfl) (by kernel_rfl) (by kernel_rfl) (fun _ _ _ h => h) (Or.inl ⟨by rfl, ?hy8⟩) (by assumption) ?hrest8
  case hy8 =>
    intro w hSw
    try dsimp only at hSw
    go_simp
    try with_reducible rfl
  try simp only [Act.put, List.setIfInBounds_toArray, List.set_cons_zero, List.set_cons_succ]
  refine' wpAnyH_take (i := 11) (oi := { dst := some 50, op := Go.Op.load 5 (Go.Operand.tmp 49), type := 5, pos := "ref.go:62", after := #[{ on := 10, ground := Go.Ground.data }], guard := none }) (v := _) rfl (by kernel_rfl) (by kernel_rfl) (by kernel_rfl) (fun _ _ _ h => h) (Or.inl ⟨by rfl, ?hy9⟩) (by assumption) ?hrest9
  case hy9 =>
    intro w hSw
    try dsimp only at hSw
    go_simp
    try with_reducible rfl
  try simp only [Act.put, List.setIfInBounds_toArray, List.set_cons_zero, List.set_cons_succ]
  refine wpAnyH_ready (rs := [5, 12]) (by kernel_rfl) (by simp) ?_
  refine AllReadyH.cons (o := { dst := some 44, op := Go.Op.call { callee := Go.Callee.value (Go.Operand.func 35), args := #[Go.Operand.tmp 43, Go.Operand.const (Go.Value.int Go.IntKind.i64 2)], argTypes := #[22, 3] }, type := 9, pos := "ref.go:62", after := #[{ on := 4, ground := Go.Ground.data }], guard := none }) rfl (fun K hK => ?_) ?_
  · go_simp
    refine (H16.out _).mono ?_
    rintro r v1 ⟨rfl, d1⟩
    have hb1 := after hb0 d1
    have hB1 := hB0.below d1 hB0.lt
    refine hK.out _ _ ⟨hB1.cell 0, hB1.cell 1, hB1.cell 2, hB1.cell 3, hB1.cell 4, hB1.cell 5, hB1.cell 6, hB1.cell 7, hB1.cell 8⟩ (fun hHeld => ?_)
    clear hK K
    try simp only [Act.put, List.setIfInBounds_toArray, List.set_cons_zero, List.set_cons_succ]
    refine' wpAnyH_take (i := 6) (oi := { dst := some 45, op := Go.Op.binOp Go.BinOp.add 9 (Go.Operand.const (Go.Value.string { data := #[69, 0] })) (Go.Operand.tmp 44) 9, type := 9, pos := "ref.go:62", after := #[{ on := 5, ground := Go.Ground.data }], guard := none }) (v := _) rfl (by kernel_rfl) (by kernel_rfl) (by kernel_rfl) (fun _ _ _ h => h) (Or.inl ⟨by rfl, ?hy10⟩) (by assumption) ?hrest10
    case hy10 =>
      intro w hSw
      try dsimp only at hSw
      go_simp
      try with_reducible rfl
    try simp only [Act.put, List.setIfInBounds_toArray, List.set_cons_zero, List.set_cons_succ]
    refine' wpAnyH_take (i := 7) (oi := { dst := some 46, op := Go.Op.binOp Go.BinOp.add 9 (Go.Operand.tmp 45) (Go.Operand.const (Go.Value.string { data := #[0, 0, 0, 0] })) 9, type := 9, pos := "ref.go:62", after := #[{ on := 6, ground := Go.Ground.data }], guard := none }) (v := _) rfl (by kernel_rfl) (by kernel_rfl) (by kernel_rfl) (fun _ _ _ h => h) (Or.inl ⟨by rfl, ?hy11⟩) (by assumption) ?hrest11
    case hy11 =>
      intro w hSw
      try dsimp only at hSw
      go_simp
      try with_reducible rfl
    try simp only [Act.put, List.setIfInBounds_toArray, List.set_cons_zero, List.set_cons_succ]
    refine wpAnyH_ready (rs := [12]) (by kernel_rfl) (by simp) ?_
    refine AllReadyH.cons (o := { dst := some 51, op := Go.Op.buildSlice 49 2 #[(0, Go.Operand.tmp 48), (1, Go.Operand.tmp 50)], type := 49, pos := "ref.go:62", after := #[{ on := 9, ground := Go.Ground.data }, { on := 11, ground := Go.Ground.data }], guard := none }) rfl (fun K hK => ?_) AllReadyH.nil
    go_simp
    have hb2 := after hb1 (boxed v1 (.cells #[.int .u8 (tt : Int), .int .u8 (pr : Int)] 5))
    have hB2 := hB1.alloc (.cells #[.int .u8 (tt : Int), .int .u8 (pr : Int)] 5)
    have hG2 := Blk.new v1 5 #[.int .u8 (tt : Int), .int .u8 (pr : Int)]
    generalize v1.alloc (.cells #[.int .u8 (tt : Int), .int .u8 (pr : Int)] 5) = v2 at hb2 hB2 hG2 ⊢
    generalize v1.heap.size = g2 at hG2 ⊢
    refine hK.out _ _ ⟨hB2.cell 0, hB2.cell 1, hB2.cell 2, hB2.cell 3, hB2.cell 4, hB2.cell 5, hB2.cell 6, hB2.cell 7, hB2.cell 8⟩ (fun hHeld => ?_)
    clear hK K
    try simp only [Act.put, List.setIfInBounds_toArray, List.set_cons_zero, List.set_cons_succ]
    refine wpAnyH_switch (S' := (fun w' => (w'.cell? ⟨b, 0, none⟩ = some (.bool false) ∧ w'.cell? ⟨b, 1, none⟩ = some (.int .u64 (h : Int)) ∧ w'.cell? ⟨b, 2, none⟩ = some (.int .u64 (l : Int)) ∧ w'.cell? ⟨b, 3, none⟩ = some (.bool false) ∧ w'.cell? ⟨b, 4, none⟩ = some (.int .u64 (h' : Int)) ∧ w'.cell? ⟨b, 5, none⟩ = some (.int .u64 (l' : Int)) ∧ w'.cell? ⟨b, 6, none⟩ = some (.int .u8 (pr : Int)) ∧ w'.cell? ⟨b, 7, none⟩ = some (.int .u8 (tt : Int)) ∧ w'.cell? ⟨b, 8, none⟩ = some (.string s)) ∧ w'.cell? ⟨g2, 0, none⟩ = some (.int .u8 (tt : Int)) ∧ w'.cell? ⟨g2, 1, none⟩ = some (.int .u8 (pr : Int)))) (fun _ h => h.1) _ _ _ _ ?_
    have hHeld2 : (fun w' => (w'.cell? ⟨b, 0, none⟩ = some (.bool false) ∧ w'.cell? ⟨b, 1, none⟩ = some (.int .u64 (h : Int)) ∧ w'.cell? ⟨b, 2, none⟩ = some (.int .u64 (l : Int)) ∧ w'.cell? ⟨b, 3, none⟩ = some (.bool false) ∧ w'.cell? ⟨b, 4, none⟩ = some (.int .u64 (h' : Int)) ∧ w'.cell? ⟨b, 5, none⟩ = some (.int .u64 (l' : Int)) ∧ w'.cell? ⟨b, 6, none⟩ = some (.int .u8 (pr : Int)) ∧ w'.cell? ⟨b, 7, none⟩ = some (.int .u8 (tt : Int)) ∧ w'.cell? ⟨b, 8, none⟩ = some (.string s)) ∧ w'.cell? ⟨g2, 0, none⟩ = some (.int .u8 (tt : Int)) ∧ w'.cell? ⟨g2, 1, none⟩ = some (.int .u8 (pr : Int))) v2 := ⟨hHeld, hG2.cell 0, hG2.cell 1⟩
    clear hHeld
    refine' wpAnyH_take (i := 13) (oi := { dst := some 52, op := Go.Op.convert 49 9 (Go.Operand.tmp 51), type := 9, pos := "ref.go:62", after := #[{ on := 12, ground := Go.Ground.data }], guard := none }) (v := _) rfl (by kernel_rfl) (by kernel_rfl) (by kernel_rfl) (fun _ _ _ h => h) (Or.inl ⟨by rfl, ?hy12⟩) (by assumption) ?hrest12
    case hy12 =>
      intro w hSw
      try dsimp only at hSw
      go_simp
      try with_reducible rfl
    try simp only [Act.put, List.setIfInBounds_toArray, List.set_cons_zero, List.set_cons_succ]
    refine' wpAnyH_take (i := 14) (oi := { dst := some 53, op := Go.Op.binOp Go.BinOp.add 9 (Go.Operand.tmp 46) (Go.Operand.tmp 52) 9, type := 9, pos := "ref.go:62", after := #[{ on := 7, ground := Go.Ground.data }, { on := 13, ground := Go.Ground.data }], guard := none }) (v := _) rfl (by kernel_rfl) (by kernel_rfl) (by kernel_rfl) (fun _ _ _ h => h) (Or.inl ⟨by rfl, ?hy13⟩) (by assumption) ?hrest13
    case hy13 =>
      intro w hSw
      try dsimp only at hSw
      go_simp
      try with_reducible rfl
    try simp only [Act.put, List.setIfInBounds_toArray, List.set_cons_zero, List.set_cons_succ]
    refine' wpAnyH_take (i := 15) (oi := { dst := some 5, op := Go.Op.assign (Go.Operand.tmp 53), type := 9, pos := "ref.go:62", after := #[{ on := 14, ground := Go.Ground.data }, { on := 5, ground := Go.Ground.chain }, { on := 0, ground := Go.Ground.phase }, { on := 1, ground := Go.Ground.phase }, { on := 2, ground := Go.Ground.phase }, { on := 3, ground := Go.Ground.phase }, { on := 4, ground := Go.Ground.phase }, { on := 5, ground := Go.Ground.phase }, { on := 6, ground := Go.Ground.phase }, { on := 7, ground := Go.Ground.phase }, { on := 8, ground := Go.Ground.phase }, { on := 9, ground := Go.Ground.phase }, { on := 10, ground := Go.Ground.phase }, { on := 11, ground := Go.Ground.phase }, { on := 12, ground := Go.Ground.phase }, { on := 13, ground := Go.Ground.phase }, { on := 14, ground := Go.Ground.phase }], guard := none }) (v := _) rfl (by kernel_rfl) (by kernel_rfl) (by kernel_rfl) (fun _ _ _ h => h) (Or.inl ⟨by rfl, ?hy14⟩) (by assumption) ?hrest14
    case hy14 =>
      intro w hSw
      try dsimp only at hSw
      go_simp
      try with_reducible rfl
    try simp only [Act.put, List.setIfInBounds_toArray, List.set_cons_zero, List.set_cons_succ]
    refine wpAnyH_done (by kernel_rfl) ?_ _
    go_wp2_with fail
    have hBs := hB2
    have hbs := hb2
    have x0 := hBs.cell 0
    have x1 := hBs.cell 1
    have x2 := hBs.cell 2
    have x3 := hBs.cell 3
    have x4 := hBs.cell 4
    have x5 := hBs.cell 5
    simp at x0 x1 x2 x3 x4 x5
    go_region_held3 (fun w' => w'.cell? ⟨b, 0, none⟩ = some (.bool false) ∧ w'.cell? ⟨b, 1, none⟩ = some (.int .u64 (h : Int)) ∧ w'.cell? ⟨b, 2, none⟩ = some (.int .u64 (l : Int)) ∧ w'.cell? ⟨b, 3, none⟩ = some (.bool false) ∧ w'.cell? ⟨b, 4, none⟩ = some (.int .u64 (h' : Int)) ∧ w'.cell? ⟨b, 5, none⟩ = some (.int .u64 (l' : Int)))
      (first | exact ⟨x0, x1, x2, x3, x4, x5⟩ | exact ⟨y0, y1, y2, y3, y4, y5⟩ | exact ⟨z0, z1, z2, z3, z4, z5⟩)
      (first
        | (go_at_call 36; (with_reducible refine (Ha.out _).mono ?_); rintro r u1 ⟨rfl, e1⟩; have hD1 := hBs.drew.below e1 hBs.lt; have hd1 := after hbs.drew e1; have y0 := hD1.cell 0; have y1 := hD1.cell 1; have y2 := hD1.cell 2; have y3 := hD1.cell 3; have y4 := hD1.cell 4; have y5 := hD1.cell 5; simp at y0 y1 y2 y3 y4 y5)
        | (go_at_call 36; (with_reducible refine (Hb.out _).mono ?_); rintro r u2 ⟨rfl, e2⟩; have hD2 := hD1.below e2 hD1.lt; have hd2 := after hd1 e2; have z0 := hD2.cell 0; have z1 := hD2.cell 1; have z2 := hD2.cell 2; have z3 := hD2.cell 3; have z4 := hD2.cell 4; have z5 := hD2.cell 5; simp at z0 z1 z2 z3 z4 z5))
    go_wp2_with fail
    have q8 := hD2.cell 8
    simp at q8
    go_region_held3 (fun w' => w'.cell? ⟨b, 8, none⟩ = some (.string s))
      (first | exact q8 | exact p8)
      (first
        | (go_at_call 15; (with_reducible refine (Hsum.out _).mono ?_); rintro r u3 ⟨rfl, rfl⟩)
        | (go_at_call 35; (with_reducible refine (Hs16.out _).mono ?_); rintro r u4 ⟨rfl, e4⟩; have hD4 := hD2.drew.below e4 hD2.lt; have hd4 := after hd2.drew e4; have p8 := hD4.cell 8; simp at p8))
    go_wp2_with fail
    go_ret2
    exact ⟨rfl, hd4⟩
  refine AllReadyH.cons (o := { dst := some 51, op := Go.Op.buildSlice 49 2 #[(0, Go.Operand.tmp 48), (1, Go.Operand.tmp 50)], type := 49, pos := "ref.go:62", after := #[{ on := 9, ground := Go.Ground.data }, { on := 11, ground := Go.Ground.data }], guard := none }) rfl (fun K hK => ?_) AllReadyH.nil
  go_simp
  have hb1 := after hb0 (boxed v0 (.cells #[.int .u8 (tt : Int), .int .u8 (pr : Int)] 5))
  have hB1 := hB0.alloc (.cells #[.int .u8 (tt : Int), .int .u8 (pr : Int)] 5)
  have hG1 := Blk.new v0 5 #[.int .u8 (tt : Int), .int .u8 (pr : Int)]
  generalize v0.alloc (.cells #[.int .u8 (tt : Int), .int .u8 (pr : Int)] 5) = v1 at hb1 hB1 hG1 ⊢
  generalize v0.heap.size = g1 at hG1 ⊢
  refine hK.out _ _ ⟨hB1.cell 0, hB1.cell 1, hB1.cell 2, hB1.cell 3, hB1.cell 4, hB1.cell 5, hB1.cell 6, hB1.cell 7, hB1.cell 8⟩ (fun hHeld => ?_)
  clear hK K
  try simp only [Act.put, List.setIfInBounds_toArray, List.set_cons_zero, List.set_cons_succ]
  refine wpAnyH_switch (S' := (fun w' => (w'.cell? ⟨b, 0, none⟩ = some (.bool false) ∧ w'.cell? ⟨b, 1, none⟩ = some (.int .u64 (h : Int)) ∧ w'.cell? ⟨b, 2, none⟩ = some (.int .u64 (l : Int)) ∧ w'.cell? ⟨b, 3, none⟩ = some (.bool false) ∧ w'.cell? ⟨b, 4, none⟩ = some (.int .u64 (h' : Int)) ∧ w'.cell? ⟨b, 5, none⟩ = some (.int .u64 (l' : Int)) ∧ w'.cell? ⟨b, 6, none⟩ = some (.int .u8 (pr : Int)) ∧ w'.cell? ⟨b, 7, none⟩ = some (.int .u8 (tt : Int)) ∧ w'.cell? ⟨b, 8, none⟩ = some (.string s)) ∧ w'.cell? ⟨g1, 0, none⟩ = some (.int .u8 (tt : Int)) ∧ w'.cell? ⟨g1, 1, none⟩ = some (.int .u8 (pr : Int)))) (fun _ h => h.1) _ _ _ _ ?_
  have hHeld2 : (fun w' => (w'.cell? ⟨b, 0, none⟩ = some (.bool false) ∧ w'.cell? ⟨b, 1, none⟩ = some (.int .u64 (h : Int)) ∧ w'.cell? ⟨b, 2, none⟩ = some (.int .u64 (l : Int)) ∧ w'.cell? ⟨b, 3, none⟩ = some (.bool false) ∧ w'.cell? ⟨b, 4, none⟩ = some (.int .u64 (h' : Int)) ∧ w'.cell? ⟨b, 5, none⟩ = some (.int .u64 (l' : Int)) ∧ w'.cell? ⟨b, 6, none⟩ = some (.int .u8 (pr : Int)) ∧ w'.cell? ⟨b, 7, none⟩ = some (.int .u8 (tt : Int)) ∧ w'.cell? ⟨b, 8, none⟩ = some (.string s)) ∧ w'.cell? ⟨g1, 0, none⟩ = some (.int .u8 (tt : Int)) ∧ w'.cell? ⟨g1, 1, none⟩ = some (.int .u8 (pr : Int))) v1 := ⟨hHeld, hG1.cell 0, hG1.cell 1⟩
  clear hHeld
  refine' wpAnyH_take (i := 13) (oi := { dst := some 52, op := Go.Op.convert 49 9 (Go.Operand.tmp 51), type := 9, pos := "ref.go:62", after := #[{ on := 12, ground := Go.Ground.data }], guard := none }) (v := _) rfl (by kernel_rfl) (by kernel_rfl) (by kernel_rfl) (fun _ _ _ h => h) (Or.inl ⟨by rfl, ?hy15⟩) (by assumption) ?hrest15
  case hy15 =>
    intro w hSw
    try dsimp only at hSw
    go_simp
    try with_reducible rfl
  try simp only [Act.put, List.setIfInBounds_toArray, List.set_cons_zero, List.set_cons_succ]
  refine wpAnyH_ready (rs := [5]) (by kernel_rfl) (by simp) ?_
  refine AllReadyH.cons (o := { dst := some 44, op := Go.Op.call { callee := Go.Callee.value (Go.Operand.func 35), args := #[Go.Operand.tmp 43, Go.Operand.const (Go.Value.int Go.IntKind.i64 2)], argTypes := #[22, 3] }, type := 9, pos := "ref.go:62", after := #[{ on := 4, ground := Go.Ground.data }], guard := none }) rfl (fun K hK => ?_) AllReadyH.nil
  go_simp
  refine (H16.out _).mono ?_
  rintro r v2 ⟨rfl, d2⟩
  have hb2 := after hb1 d2
  have hB2 := hB1.below d2 hB1.lt
  have hG2 := hG1.below d2 hG1.lt
  refine hK.out _ _ ⟨⟨hB2.cell 0, hB2.cell 1, hB2.cell 2, hB2.cell 3, hB2.cell 4, hB2.cell 5, hB2.cell 6, hB2.cell 7, hB2.cell 8⟩, hG2.cell 0, hG2.cell 1⟩ (fun hHeld => ?_)
  clear hK K
  try simp only [Act.put, List.setIfInBounds_toArray, List.set_cons_zero, List.set_cons_succ]
  refine' wpAnyH_take (i := 6) (oi := { dst := some 45, op := Go.Op.binOp Go.BinOp.add 9 (Go.Operand.const (Go.Value.string { data := #[69, 0] })) (Go.Operand.tmp 44) 9, type := 9, pos := "ref.go:62", after := #[{ on := 5, ground := Go.Ground.data }], guard := none }) (v := _) rfl (by kernel_rfl) (by kernel_rfl) (by kernel_rfl) (fun _ _ _ h => h) (Or.inl ⟨by rfl, ?hy16⟩) (by assumption) ?hrest16
  case hy16 =>
    intro w hSw
    try dsimp only at hSw
    go_simp
    try with_reducible rfl
  try simp only [Act.put, List.setIfInBounds_toArray, List.set_cons_zero, List.set_cons_succ]
  refine' wpAnyH_take (i := 7) (oi := { dst := some 46, op := Go.Op.binOp Go.BinOp.add 9 (Go.Operand.tmp 45) (Go.Operand.const (Go.Value.string { data := #[0, 0, 0, 0] })) 9, type := 9, pos := "ref.go:62", after := #[{ on := 6, ground := Go.Ground.data }], guard := none }) (v := _) rfl (by kernel_rfl) (by kernel_rfl) (by kernel_rfl) (fun _ _ _ h => h) (Or.inl ⟨by rfl, ?hy17⟩) (by assumption) ?hrest17
  case hy17 =>
    intro w hSw
    try dsimp only at hSw
    go_simp
    try with_reducible rfl
  try simp only [Act.put, List.setIfInBounds_toArray, List.set_cons_zero, List.set_cons_succ]
  refine' wpAnyH_take (i := 14) (oi := { dst := some 53, op := Go.Op.binOp Go.BinOp.add 9 (Go.Operand.tmp 46) (Go.Operand.tmp 52) 9, type := 9, pos := "ref.go:62", after := #[{ on := 7, ground := Go.Ground.data }, { on := 13, ground := Go.Ground.data }], guard := none }) (v := _) rfl (by kernel_rfl) (by kernel_rfl) (by kernel_rfl) (fun _ _ _ h => h) (Or.inl ⟨by rfl, ?hy18⟩) (by assumption) ?hrest18
  case hy18 =>
    intro w hSw
    try dsimp only at hSw
    go_simp
    try with_reducible rfl
  try simp only [Act.put, List.setIfInBounds_toArray, List.set_cons_zero, List.set_cons_succ]
  refine' wpAnyH_take (i := 15) (oi := { dst := some 5, op := Go.Op.assign (Go.Operand.tmp 53), type := 9, pos := "ref.go:62", after := #[{ on := 14, ground := Go.Ground.data }, { on := 5, ground := Go.Ground.chain }, { on := 0, ground := Go.Ground.phase }, { on := 1, ground := Go.Ground.phase }, { on := 2, ground := Go.Ground.phase }, { on := 3, ground := Go.Ground.phase }, { on := 4, ground := Go.Ground.phase }, { on := 5, ground := Go.Ground.phase }, { on := 6, ground := Go.Ground.phase }, { on := 7, ground := Go.Ground.phase }, { on := 8, ground := Go.Ground.phase }, { on := 9, ground := Go.Ground.phase }, { on := 10, ground := Go.Ground.phase }, { on := 11, ground := Go.Ground.phase }, { on := 12, ground := Go.Ground.phase }, { on := 13, ground := Go.Ground.phase }, { on := 14, ground := Go.Ground.phase }], guard := none }) (v := _) rfl (by kernel_rfl) (by kernel_rfl) (by kernel_rfl) (fun _ _ _ h => h) (Or.inl ⟨by rfl, ?hy19⟩) (by assumption) ?hrest19
  case hy19 =>
    intro w hSw
    try dsimp only at hSw
    go_simp
    try with_reducible rfl
  try simp only [Act.put, List.setIfInBounds_toArray, List.set_cons_zero, List.set_cons_succ]
  refine wpAnyH_done (by kernel_rfl) ?_ _
  go_wp2_with fail
  have hBs := hB2
  have hbs := hb2
  have x0 := hBs.cell 0
  have x1 := hBs.cell 1
  have x2 := hBs.cell 2
  have x3 := hBs.cell 3
  have x4 := hBs.cell 4
  have x5 := hBs.cell 5
  simp at x0 x1 x2 x3 x4 x5
  go_region_held3 (fun w' => w'.cell? ⟨b, 0, none⟩ = some (.bool false) ∧ w'.cell? ⟨b, 1, none⟩ = some (.int .u64 (h : Int)) ∧ w'.cell? ⟨b, 2, none⟩ = some (.int .u64 (l : Int)) ∧ w'.cell? ⟨b, 3, none⟩ = some (.bool false) ∧ w'.cell? ⟨b, 4, none⟩ = some (.int .u64 (h' : Int)) ∧ w'.cell? ⟨b, 5, none⟩ = some (.int .u64 (l' : Int)))
    (first | exact ⟨x0, x1, x2, x3, x4, x5⟩ | exact ⟨y0, y1, y2, y3, y4, y5⟩ | exact ⟨z0, z1, z2, z3, z4, z5⟩)
    (first
      | (go_at_call 36; (with_reducible refine (Ha.out _).mono ?_); rintro r u1 ⟨rfl, e1⟩; have hD1 := hBs.drew.below e1 hBs.lt; have hd1 := after hbs.drew e1; have y0 := hD1.cell 0; have y1 := hD1.cell 1; have y2 := hD1.cell 2; have y3 := hD1.cell 3; have y4 := hD1.cell 4; have y5 := hD1.cell 5; simp at y0 y1 y2 y3 y4 y5)
      | (go_at_call 36; (with_reducible refine (Hb.out _).mono ?_); rintro r u2 ⟨rfl, e2⟩; have hD2 := hD1.below e2 hD1.lt; have hd2 := after hd1 e2; have z0 := hD2.cell 0; have z1 := hD2.cell 1; have z2 := hD2.cell 2; have z3 := hD2.cell 3; have z4 := hD2.cell 4; have z5 := hD2.cell 5; simp at z0 z1 z2 z3 z4 z5))
  go_wp2_with fail
  have q8 := hD2.cell 8
  simp at q8
  go_region_held3 (fun w' => w'.cell? ⟨b, 8, none⟩ = some (.string s))
    (first | exact q8 | exact p8)
    (first
      | (go_at_call 15; (with_reducible refine (Hsum.out _).mono ?_); rintro r u3 ⟨rfl, rfl⟩)
      | (go_at_call 35; (with_reducible refine (Hs16.out _).mono ?_); rintro r u4 ⟨rfl, e4⟩; have hD4 := hD2.drew.below e4 hD2.lt; have hd4 := after hd2.drew e4; have p8 := hD4.cell 8; simp at p8))
  go_wp2_with fail
  go_ret2
  exact ⟨rfl, hd4⟩

theorem encode_no (p : Pk) (ok : p.Ok) (hm : p.mayE ≠ 0) (w : World) : Calls Tryz.prog 10 #[.agg p.cells] w (Got (.tuple #[.string ByteArray.empty, .int .i64 (p.mayE : Int)]) w) := by
  have Hm := Lib.hid (may_any p ok)
  have hne : ¬ (p.mayE : Int) = 0 := by omega
  have hc0 := boxed w (.cells p.cells 26)
  have hz : (w.alloc (.cells p.cells 26)).heap.size = w.heap.size + 1 := by simp
  obtain ⟨⟨v, h, l⟩, ⟨v', h', l'⟩, pr, tt, s⟩ := p
  generalize Pk.mayE _ = E at *
  unfold Pk.cells at *
  simp only at *
  clear ok hm
  have Hz := Lib.hid hz
  clear hz
  go_enter Tryz.func10, Tryz.ntmps10
  go_wp2_with (go_at_call 12; refine (Hm.out _).mono ?_; rintro r w1 ⟨rfl, hb1⟩)
  go_ret2
  exact ⟨rfl, after hc0 hb1⟩
theorem rencode_no (p : Pk) (ok : p.Ok) (hm : p.mayE ≠ 0) (w : World) : Calls Tryz.prog 11 #[.agg p.cells] w (Got (.tuple #[.string ByteArray.empty, .int .i64 (p.mayE : Int)]) w) := by
  have Hm := Lib.hid (rmay_any p ok)
  have hne : ¬ (p.mayE : Int) = 0 := by omega
  have hc0 := boxed w (.cells p.cells 26)
  obtain ⟨⟨v, h, l⟩, ⟨v', h', l'⟩, pr, tt, s⟩ := p
  generalize Pk.mayE _ = E at *
  unfold Pk.cells at *
  simp only at *
  clear ok hm
  go_enter Tryz.func11, Tryz.ntmps11
  go_wp2_with (go_at_call 13; refine (Hm.out _).mono ?_; rintro r w1 ⟨rfl, hb1⟩)
  go_ret2
  exact ⟨rfl, after hc0 hb1⟩

def encB (p : Pk) : ByteArray := if p.mayE ≠ 0 then ByteArray.empty else if p.a.v6 = true then enc6 p else enc4 p
theorem encode_any (p : Pk) (ok : p.Ok) (w : World) : Calls Tryz.prog 10 #[.agg p.cells] w (Got (.tuple #[.string (encB p), .int .i64 (p.mayE : Int)]) w) := by
  unfold encB
  by_cases hm : p.mayE = 0
  · rw [if_neg (by simpa using hm), hm]
    cases h6 : p.a.v6 with
    | true => exact encode6 p ok hm h6 w
    | false => exact encode4 p ok hm h6 w
  · rw [if_pos hm]
    exact encode_no p ok hm w
theorem rencode_any (p : Pk) (ok : p.Ok) (w : World) : Calls Tryz.prog 11 #[.agg p.cells] w (Got (.tuple #[.string (encB p), .int .i64 (p.mayE : Int)]) w) := by
  unfold encB
  by_cases hm : p.mayE = 0
  · rw [if_neg (by simpa using hm), hm]
    cases h6 : p.a.v6 with
    | true => exact rencode6 p ok hm h6 w
    | false => exact rencode4 p ok hm h6 w
  · rw [if_pos hm]
    exact rencode_no p ok hm w
end Go.Proofs.YtomndcjgdfhmbaaGreatDoor

/- The law's small known run: the walk. -/
namespace Go.Proofs.YtomndcjgdfhmbaaGreatDoor
open Go.RowKit

def wkP : Pk := ⟨⟨false, 0, 167772161⟩, ⟨false, 0, 167772162⟩, 17, 64, ⟨#[97, 98]⟩⟩
def wkS : ByteArray := ⟨#[69, 0, 0, 22, 0, 0, 0, 0, 64, 17, 102, 213, 10, 0, 0, 1, 10, 0, 0, 2, 97, 98]⟩
theorem wk_enc : encB wkP = wkS := by kernel_rfl
theorem wk_decE : decE wkS = 0 := by kernel_rfl
theorem wk_decP : decP wkS = wkP := by kernel_rfl
theorem wk_rp : preadL [49, 48, 46, 48, 46, 48, 46, 48, 47, 56] = some ⟨⟨false, 0, 167772160⟩, 8⟩ := by kernel_rfl
theorem wk_rd : readL [48, 49, 48, 46, 48, 46, 48, 46, 49] = none := by kernel_rfl
theorem wk_tx : textL ⟨true, 0, 1⟩ = [58, 58, 49] := by kernel_rfl
theorem wk_h : holdsP ⟨⟨false, 0, 167772160⟩, 8⟩ ⟨false, 0, 167772161⟩ = true := by kernel_rfl
theorem wk_ok : wkP.Ok := ⟨⟨by decide, by decide⟩, ⟨by decide, by decide⟩, by decide, by decide, by decide⟩

theorem wk_c1 (v : World) : Calls Tryz.prog 10 #[.agg #[.bool false, .int .u64 0, .int .u64 167772161, .bool false, .int .u64 0, .int .u64 167772162, .int .u8 17, .int .u8 64, .string ⟨#[97, 98]⟩]] v (Got (.tuple #[.string wkS, .int .i64 0]) v) := by
  have h := encode_any wkP wk_ok v
  rw [wk_enc] at h
  exact h
theorem wk_c2 (v : World) : Calls Tryz.prog 16 #[.string wkS] v (Got (.tuple #[.agg #[.bool false, .int .u64 0, .int .u64 167772161, .bool false, .int .u64 0, .int .u64 167772162, .int .u8 17, .int .u8 64, .string ⟨#[97, 98]⟩], .int .i64 0]) v) := by
  have h := decode_any wkS (by decide) v
  rw [wk_decE, wk_decP] at h
  exact h
theorem wk_c3 {v : World} (env : Env v) : Calls Tryz.prog 20 #[.string ⟨#[49, 48, 46, 48, 46, 48, 46, 48, 47, 56]⟩] v (Got (.tuple #[.agg #[.bool false, .int .u64 0, .int .u64 167772160, .int .u8 8], .int .i64 0]) v) := by
  have h := readPrefix_any env ⟨#[49, 48, 46, 48, 46, 48, 46, 48, 47, 56]⟩ (by decide)
  rw [show (⟨#[49, 48, 46, 48, 46, 48, 46, 48, 47, 56]⟩ : ByteArray).data.toList = [49, 48, 46, 48, 46, 48, 46, 48, 47, 56] from rfl, wk_rp] at h
  exact h
theorem wk_c4 {v : World} (env : Env v) : Calls Tryz.prog 18 #[.string ⟨#[48, 49, 48, 46, 48, 46, 48, 46, 49]⟩] v (Got (.tuple #[.agg #[.bool false, .int .u64 0, .int .u64 0], .int .i64 8]) v) := by
  have h := read_any env ⟨#[48, 49, 48, 46, 48, 46, 48, 46, 49]⟩ (by decide)
  rw [show (⟨#[48, 49, 48, 46, 48, 46, 48, 46, 49]⟩ : ByteArray).data.toList = [48, 49, 48, 46, 48, 46, 48, 46, 49] from rfl, wk_rd] at h
  exact h
theorem wk_c5 (v : World) : Calls Tryz.prog 28 #[.agg #[.bool false, .int .u64 0, .int .u64 167772160, .int .u8 8], .agg #[.bool false, .int .u64 0, .int .u64 167772161]] v (Got (.bool true) v) := by
  have h := holds_any ⟨⟨false, 0, 167772160⟩, 8⟩ ⟨false, 0, 167772161⟩ ⟨⟨by decide, by decide⟩, by decide⟩ ⟨by decide, by decide⟩ v
  rw [wk_h] at h
  exact h
theorem wk_c6 {v : World} (env : Env v) : Calls Tryz.prog 19 #[.agg #[.bool true, .int .u64 0, .int .u64 1]] v (Got (.string ⟨#[58, 58, 49]⟩) v) := by
  have h := text_any env ⟨true, 0, 1⟩ ⟨by decide, by decide⟩
  unfold textB at h
  rw [wk_tx] at h
  exact h

set_option maxHeartbeats 4000000 in
set_option maxRecDepth 100000 in
theorem works_any {w : World} (env : Env w) : Calls Tryz.prog 9 #[] w (Got (.bool true) w) := by
  have c1 := wk_c1
  have c2 := wk_c2
  have hsz : wkS.size = 22 := rfl
  have h10 : ∀ h : 10 < wkS.size, (wkS[10]'h).toNat = 102 := fun _ => rfl
  have h11 : ∀ h : 11 < wkS.size, (wkS[11]'h).toNat = 213 := fun _ => rfl
  generalize wkS = S at c1 c2 hsz h10 h11
  have C1 := Lib.hid c1
  have C2 := Lib.hid c2
  have Henv := Lib.hid env
  clear c1 c2 env
  have hB1 := Blk.new w 26 #[.bool false, .int .u64 0, .int .u64 167772161, .bool false, .int .u64 0, .int .u64 167772162, .int .u8 17, .int .u8 64, .string ⟨#[97, 98]⟩]
  have hb1 := boxed w (.cells #[.bool false, .int .u64 0, .int .u64 167772161, .bool false, .int .u64 0, .int .u64 167772162, .int .u8 17, .int .u8 64, .string ⟨#[97, 98]⟩] 26)
  go_enter Tryz.func9, Tryz.ntmps9
  go_upto_region 2 with fail
  generalize w.alloc (.cells #[.bool false, .int .u64 0, .int .u64 167772161, .bool false, .int .u64 0, .int .u64 167772162, .int .u8 17, .int .u8 64, .string ⟨#[97, 98]⟩] 26) = w1 at hB1 hb1 ⊢
  have a0 := hB1.cell 0
  have a1 := hB1.cell 1
  have a2 := hB1.cell 2
  have a3 := hB1.cell 3
  have a4 := hB1.cell 4
  have a5 := hB1.cell 5
  have a6 := hB1.cell 6
  have a7 := hB1.cell 7
  have a8 := hB1.cell 8
  simp at a0 a1 a2 a3 a4 a5 a6 a7 a8
  have HB1 := Lib.hid hB1
  have Hb1 := Lib.hid hb1
  clear hB1 hb1
  go_wp2_with fail
  go_at_call 10
  refine (C1.out _).mono ?_
  rintro r w2 ⟨rfl, d2⟩
  have HB2 := Lib.hid (HB1.out.below d2 HB1.out.lt)
  have Hb2 := Lib.hid (after Hb1.out d2)
  clear a0 a1 a2 a3 a4 a5 a6 a7 a8 d2 HB1 Hb1
  go_wp2_with fail
  go_at_call 16
  refine (C2.out _).mono ?_
  rintro r w3 ⟨rfl, d3⟩
  have HB4 := Lib.hid ((HB2.out.below d3 HB2.out.lt).alloc (.cells #[.bool false, .int .u64 0, .int .u64 167772161, .bool false, .int .u64 0, .int .u64 167772162, .int .u8 17, .int .u8 64, .string ⟨#[97, 98]⟩] 26))
  have HD4 := Lib.hid (Blk.new w3 26 #[.bool false, .int .u64 0, .int .u64 167772161, .bool false, .int .u64 0, .int .u64 167772162, .int .u8 17, .int .u8 64, .string ⟨#[97, 98]⟩])
  have Hb4 := Lib.hid (after (after Hb2.out d3) (boxed w3 (.cells #[.bool false, .int .u64 0, .int .u64 167772161, .bool false, .int .u64 0, .int .u64 167772162, .int .u8 17, .int .u8 64, .string ⟨#[97, 98]⟩] 26)))
  clear d3 HB2 Hb2
  go_upto_region 4 with fail
  generalize w3.alloc (.cells #[.bool false, .int .u64 0, .int .u64 167772161, .bool false, .int .u64 0, .int .u64 167772162, .int .u8 17, .int .u8 64, .string ⟨#[97, 98]⟩] 26) = w4 at HB4 HD4 Hb4 ⊢
  generalize w3.heap.size = g2 at HD4 ⊢
  have C3 := Lib.hid (wk_c3 (Henv.out.below Hb4.out))
  go_wp2_with fail
  go_at_call 20
  refine C3.out.mono ?_
  rintro r w5 ⟨rfl, d5⟩
  have HB6 := Lib.hid ((HB4.out.below d5 HB4.out.lt).alloc (.cells #[.bool false, .int .u64 0, .int .u64 167772160, .int .u8 8] 39))
  have HD6 := Lib.hid ((HD4.out.below d5 HD4.out.lt).alloc (.cells #[.bool false, .int .u64 0, .int .u64 167772160, .int .u8 8] 39))
  have HE6 := Lib.hid (Blk.new w5 39 #[.bool false, .int .u64 0, .int .u64 167772160, .int .u8 8])
  have Hb6 := Lib.hid (after (after Hb4.out d5) (boxed w5 (.cells #[.bool false, .int .u64 0, .int .u64 167772160, .int .u8 8] 39)))
  clear d5 HB4 HD4 Hb4
  go_upto_region 5 with fail
  generalize w5.alloc (.cells #[.bool false, .int .u64 0, .int .u64 167772160, .int .u8 8] 39) = w6 at HB6 HD6 HE6 Hb6 ⊢
  generalize w5.heap.size = g3 at HE6 ⊢
  have C4 := Lib.hid (wk_c4 (Henv.out.below Hb6.out))
  go_wp2_with fail
  go_at_call 18
  refine C4.out.mono ?_
  rintro r w7 ⟨rfl, d7⟩
  have hB8 := (HB6.out.below d7 HB6.out.lt).alloc (.cells #[.bool false, .int .u64 0, .int .u64 0] 24)
  have hD8 := (HD6.out.below d7 HD6.out.lt).alloc (.cells #[.bool false, .int .u64 0, .int .u64 0] 24)
  have hE8 := (HE6.out.below d7 HE6.out.lt).alloc (.cells #[.bool false, .int .u64 0, .int .u64 0] 24)
  have Hb8 := Lib.hid (after (after Hb6.out d7) (boxed w7 (.cells #[.bool false, .int .u64 0, .int .u64 0] 24)))
  clear d7 HB6 HD6 HE6 Hb6
  go_upto_region 6 with fail
  generalize w7.alloc (.cells #[.bool false, .int .u64 0, .int .u64 0] 24) = w8 at hB8 hD8 hE8 Hb8 ⊢
  have a0 := hB8.cell 0
  have a1 := hB8.cell 1
  have a2 := hB8.cell 2
  have a3 := hB8.cell 3
  have a4 := hB8.cell 4
  have a5 := hB8.cell 5
  have a6 := hB8.cell 6
  have a7 := hB8.cell 7
  have a8 := hB8.cell 8
  simp at a0 a1 a2 a3 a4 a5 a6 a7 a8
  have b0 := hD8.cell 0
  have b1 := hD8.cell 1
  have b2 := hD8.cell 2
  have b3 := hD8.cell 3
  have b4 := hD8.cell 4
  have b5 := hD8.cell 5
  have b6 := hD8.cell 6
  have b7 := hD8.cell 7
  have b8 := hD8.cell 8
  simp at b0 b1 b2 b3 b4 b5 b6 b7 b8
  have e0 := hE8.cell 0
  have e1 := hE8.cell 1
  have e2 := hE8.cell 2
  have e3 := hE8.cell 3
  simp at e0 e1 e2 e3
  clear hB8 hD8 hE8
  have C5 := Lib.hid (wk_c5 w8)
  go_wp2_with (go_at_call 28; (with_reducible refine C5.out.mono ?_); rintro r w9 ⟨rfl, d9⟩; have Hb9 := Lib.hid (after Hb8.out d9); clear d9; have C6 := Lib.hid (wk_c6 (Henv.out.below Hb9.out)))
  go_at_call 19
  refine C6.out.mono ?_
  rintro r wf ⟨rfl, df⟩
  have Hbf := Lib.hid (after Hb9.out df)
  clear df
  go_wp2_with fail
  go_ret
  exact ⟨rfl, Hbf.out⟩
end Go.Proofs.YtomndcjgdfhmbaaGreatDoor

/- IpWrites: the walk. (Printed by lw_ab.py.) -/
namespace Go.Proofs.YtomndcjgdfhmbaaGreatDoor
open Go.RowKit
attribute [local go_sem ↓] Go.wp_at_zero Go.wp_at_succ

structure Pk.Pre (p : Pk) : Prop where
  a : p.a.Ok
  b : p.b.Ok
  proto : p.proto < 256
  ttl : p.ttl < 256
theorem Pk.Pre.ok {p : Pk} (h : p.Pre) (hd : p.data.size ≤ 8192) : p.Ok := ⟨h.a, h.b, h.proto, h.ttl, hd⟩

set_option maxHeartbeats 8000000 in
set_option maxRecDepth 100000 in
theorem writes_any {w : World} (env : Env w) (p : Pk) (ok : p.Pre) (s : ByteArray) : Calls Tryz.prog 3 #[.agg p.cells, .string s] w (Got (.bool true) w) := by
  have hwk := fun v (hv : Below w.heap.size w v) => works_any (env.below hv)
  have HWK := Lib.hid hwk
  have hok := ok.ok
  have henc := fun hd v => encode_any p (hok hd) v
  have hrenc := fun hd v => rencode_any p (hok hd) v
  have hmay := fun hd v => may_any p (hok hd) v
  have hrmay := fun hd v => rmay_any p (hok hd) v
  generalize encB p = EB at henc hrenc
  generalize p.mayE = ME at henc hrenc hmay hrmay
  obtain ⟨⟨v, x, l⟩, ⟨v', x', l'⟩, pr, tt, D⟩ := p
  unfold Pk.cells at *
  simp only at henc hrenc hmay hrmay ⊢
  have hB0 := Blk.new w 26 #[.bool v, .int .u64 (x : Int), .int .u64 (l : Int), .bool v', .int .u64 (x' : Int), .int .u64 (l' : Int), .int .u8 (pr : Int), .int .u8 (tt : Int), .string D]
  have hb0 := boxed w (.cells #[.bool v, .int .u64 (x : Int), .int .u64 (l : Int), .bool v', .int .u64 (x' : Int), .int .u64 (l' : Int), .int .u8 (pr : Int), .int .u8 (tt : Int), .string D] 26)
  clear hwk hok ok env
  by_cases hbig : D.size ≤ 8192 ∧ s.size ≤ 8192
  · obtain ⟨h1, h2⟩ := hbig
    have q1 : ¬ (8192 : Int) < (D.size : Int) := by omega
    have q2 : ¬ (8192 : Int) < (s.size : Int) := by omega
    have HE := Lib.hid (henc h1)
    have HF := Lib.hid (hrenc h1)
    have HM := Lib.hid (hmay h1)
    have HN := Lib.hid (hrmay h1)
    have HS := Lib.hid (fun v => sum_any s (by omega) v)
    have HT := Lib.hid (fun v => rsum_any s (by omega) v)
    generalize sumB s = SM at HS HT
    have HB0 := Lib.hid hB0
    have Hb0 := Lib.hid hb0
    clear henc hrenc hmay hrmay hB0 hb0
    go_enter Tryz.func3, Tryz.ntmps3
    go_upto_region 3 with fail
    generalize w.alloc (.cells #[.bool v, .int .u64 (x : Int), .int .u64 (l : Int), .bool v', .int .u64 (x' : Int), .int .u64 (l' : Int), .int .u8 (pr : Int), .int .u8 (tt : Int), .string D] 26) = w1 at HB0 Hb0 ⊢
    have a0 := HB0.out.cell 0
    have a1 := HB0.out.cell 1
    have a2 := HB0.out.cell 2
    have a3 := HB0.out.cell 3
    have a4 := HB0.out.cell 4
    have a5 := HB0.out.cell 5
    have a6 := HB0.out.cell 6
    have a7 := HB0.out.cell 7
    have a8 := HB0.out.cell 8
    simp at a0 a1 a2 a3 a4 a5 a6 a7 a8
    go_wp2_with fail
    go_at_call 10
    refine (HE.out _).mono ?_
    rintro r w2 ⟨rfl, d2⟩
    have HB2 := Lib.hid (HB0.out.below d2 HB0.out.lt)
    have Hb2 := Lib.hid (after Hb0.out d2)
    clear a0 a1 a2 a3 a4 a5 a6 a7 a8 d2 HB0 Hb0
    have a0 := HB2.out.cell 0
    have a1 := HB2.out.cell 1
    have a2 := HB2.out.cell 2
    have a3 := HB2.out.cell 3
    have a4 := HB2.out.cell 4
    have a5 := HB2.out.cell 5
    have a6 := HB2.out.cell 6
    have a7 := HB2.out.cell 7
    have a8 := HB2.out.cell 8
    simp at a0 a1 a2 a3 a4 a5 a6 a7 a8
    go_wp2_with fail
    go_at_call 11
    refine (HF.out _).mono ?_
    rintro r w3 ⟨rfl, d3⟩
    have hB3 := HB2.out.below d3 HB2.out.lt
    have hb3 := after Hb2.out d3
    clear a0 a1 a2 a3 a4 a5 a6 a7 a8 d3 HB2 Hb2
    go_wp2_with fail
    have ht := hB3.drew
    have hv := hb3.drew
    clear hB3 hb3
    have b0 := ht.cell 0
    have b1 := ht.cell 1
    have b2 := ht.cell 2
    have b3 := ht.cell 3
    have b4 := ht.cell 4
    have b5 := ht.cell 5
    have b6 := ht.cell 6
    have b7 := ht.cell 7
    have b8 := ht.cell 8
    simp at b0 b1 b2 b3 b4 b5 b6 b7 b8
    go_region_held3 (fun w' => w'.cell? ⟨w.heap.size, 0, none⟩ = some (.bool v) ∧ w'.cell? ⟨w.heap.size, 1, none⟩ = some (.int .u64 (x : Int)) ∧ w'.cell? ⟨w.heap.size, 2, none⟩ = some (.int .u64 (l : Int)) ∧ w'.cell? ⟨w.heap.size, 3, none⟩ = some (.bool v') ∧ w'.cell? ⟨w.heap.size, 4, none⟩ = some (.int .u64 (x' : Int)) ∧ w'.cell? ⟨w.heap.size, 5, none⟩ = some (.int .u64 (l' : Int)) ∧ w'.cell? ⟨w.heap.size, 6, none⟩ = some (.int .u8 (pr : Int)) ∧ w'.cell? ⟨w.heap.size, 7, none⟩ = some (.int .u8 (tt : Int)) ∧ w'.cell? ⟨w.heap.size, 8, none⟩ = some (.string D))
      (exact ⟨b0, b1, b2, b3, b4, b5, b6, b7, b8⟩)
      (first
        | (go_at_call 12; (with_reducible refine (HM.out _).mono ?_); rintro r wq ⟨rfl, gq⟩; have hv := after hv gq; have ht := ht.below gq ht.lt; clear gq; have b0 := ht.cell 0; have b1 := ht.cell 1; have b2 := ht.cell 2; have b3 := ht.cell 3; have b4 := ht.cell 4; have b5 := ht.cell 5; have b6 := ht.cell 6; have b7 := ht.cell 7; have b8 := ht.cell 8; simp at b0 b1 b2 b3 b4 b5 b6 b7 b8)
        | (go_at_call 13; (with_reducible refine (HN.out _).mono ?_); rintro r wq ⟨rfl, gq⟩; have hv := after hv gq; have ht := ht.below gq ht.lt; clear gq; have b0 := ht.cell 0; have b1 := ht.cell 1; have b2 := ht.cell 2; have b3 := ht.cell 3; have b4 := ht.cell 4; have b5 := ht.cell 5; have b6 := ht.cell 6; have b7 := ht.cell 7; have b8 := ht.cell 8; simp at b0 b1 b2 b3 b4 b5 b6 b7 b8)
        | (go_at_call 14; (with_reducible refine (HS.out _).mono ?_); rintro r wq ⟨rfl, gq⟩; have hv := after hv gq; have ht := ht.below gq ht.lt; clear gq; have b0 := ht.cell 0; have b1 := ht.cell 1; have b2 := ht.cell 2; have b3 := ht.cell 3; have b4 := ht.cell 4; have b5 := ht.cell 5; have b6 := ht.cell 6; have b7 := ht.cell 7; have b8 := ht.cell 8; simp at b0 b1 b2 b3 b4 b5 b6 b7 b8)
        | (go_at_call 15; (with_reducible refine (HT.out _).mono ?_); rintro r wq ⟨rfl, rfl⟩)
        | (go_at_call 9; (with_reducible refine (HWK.out _ hv).mono ?_); rintro r wq ⟨rfl, gq⟩; have hv := after hv gq; have ht := ht.below gq ht.lt; clear gq; have b0 := ht.cell 0; have b1 := ht.cell 1; have b2 := ht.cell 2; have b3 := ht.cell 3; have b4 := ht.cell 4; have b5 := ht.cell 5; have b6 := ht.cell 6; have b7 := ht.cell 7; have b8 := ht.cell 8; simp at b0 b1 b2 b3 b4 b5 b6 b7 b8))
    all_goals go_wp2_with fail
    all_goals
      go_ret
      exact ⟨rfl, hv⟩
  · have HB0 := Lib.hid hB0
    have Hb0 := Lib.hid hb0
    clear henc hrenc hmay hrmay hB0 hb0
    by_cases h1 : D.size ≤ 8192
    · have h2 : ¬ s.size ≤ 8192 := fun h => hbig ⟨h1, h⟩
      have q1 : ¬ (8192 : Int) < (D.size : Int) := by omega
      have q2 : (8192 : Int) < (s.size : Int) := by omega
      clear h1 h2 hbig
      go_enter Tryz.func3, Tryz.ntmps3
      go_wp2_with (go_at_call 9; (with_reducible refine (HWK.out _ Hb0.out).mono ?_); rintro r w2 ⟨rfl, d2⟩; have hb2 := after Hb0.out d2)
      go_ret
      exact ⟨rfl, hb2⟩
    · have q1 : (8192 : Int) < (D.size : Int) := by omega
      clear h1 hbig
      go_enter Tryz.func3, Tryz.ntmps3
      go_wp2_with (go_at_call 9; (with_reducible refine (HWK.out _ Hb0.out).mono ?_); rintro r w2 ⟨rfl, d2⟩; have hb2 := after Hb0.out d2)
      go_ret
      exact ⟨rfl, hb2⟩
end Go.Proofs.YtomndcjgdfhmbaaGreatDoor
