/- Joined out of: IpF. -/
import Derived.Test.YtomndcjgdfhmbaaGreatDoorJaf
set_option linter.unusedVariables false
set_option linter.unusedSimpArgs false

/- A packet of IPv6 as bytes: the walk. (The walk of the region is printed by ip_enc6.py.) -/
namespace Go.Proofs.YtomndcjgdfhmbaaGreatDoor
open Go.RowKit
attribute [local go_sem ↓] Go.wp_at_zero Go.wp_at_succ
attribute [local go_sem] be_size

/- Another thing that is held, from here on. -/
theorem wpAnyH_switch {P : Program} {md : Region.Mode} {ops : Array Oper} {Q : Exit → Act → World → Prop} {S S' : World → Prop} (h : ∀ w, S' w → S w) : ∀ (fuel : Nat) (listed : Array Bool) (a : Act) (w : World), wpAnyH P md ops Q S' fuel listed a w → wpAnyH P md ops Q S fuel listed a w
  | 0, _, _, _, h0 => h0
  | fuel + 1, _, _, _, h0 => ⟨h0.1, fun i hi => wpOp_mono (fun a' w' h1 => ⟨h w' h1.1, wpAnyH_switch h fuel _ a' w' h1.2⟩) (h0.2 i hi)⟩

theorem addrB_size (a : Ad) : (addrB a).size ≤ 16 := by
  unfold addrB
  split
  · rw [ByteArray.size_append, be_size, be_size]; omega
  · rw [be_size]; omega
def enc6 (p : Pk) : ByteArray := ⟨#[96, 0, 0, 0]⟩ ++ be 2 p.data.size ++ ⟨#[UInt8.ofNat p.proto, UInt8.ofNat p.ttl]⟩ ++ addrB p.a ++ addrB p.b ++ p.data

theorem two_back (x y : Nat) (hx : x < 256) (hy : y < 256) : ∀ (W : World) (g : Nat), W.cell? ⟨g, 0, none⟩ = some (.int .u8 (x : Int)) → W.cell? ⟨g, 1, none⟩ = some (.int .u8 (y : Int)) → (convert 49 9 (.slice (some ⟨g, 0, none⟩) 2 2)).run Tryz.prog W = .ok (.string ⟨#[UInt8.ofNat x, UInt8.ofNat y]⟩) W := by
  intro W g h0 h1
  refine run_convert_bytes_back (P := Tryz.prog) W 49 9 5 ⟨g, 0, none⟩ 2 [UInt8.ofNat x, UInt8.ofNat y] Tryz.underlying49 Tryz.underlying5 Tryz.underlying9 ?_
  intro j hj
  have : j = 0 ∨ j = 1 := by simp at hj; omega
  rcases this with rfl | rfl
  · simp [Addr.add, h0, Nat.mod_eq_of_lt hx]
  · simp [Addr.add, h1, Nat.mod_eq_of_lt hy]

set_option maxHeartbeats 8000000 in
set_option maxRecDepth 100000 in
theorem encode6 (p : Pk) (ok : p.Ok) (hm : p.mayE = 0) (h6 : p.a.v6 = true) (w : World) : Calls Tryz.prog 10 #[.agg p.cells] w (Got (.tuple #[.string (enc6 p), .int .i64 0]) w) := by
  have Hm := Lib.hid (may_any p ok)
  have Ha := Lib.hid (bytesA_any p.a ok.a)
  have Hb := Lib.hid (bytesA_any p.b ok.b)
  rw [hm] at Hm
  obtain ⟨⟨v, h, l⟩, ⟨v', h', l'⟩, pr, tt, s⟩ := p
  simp only at h6
  subst h6
  have hs := ok.data
  simp only at hs
  have hback := two_back pr tt ok.proto ok.ttl
  have hs1 := addrB_size ⟨true, h, l⟩
  have hs2 := addrB_size ⟨v', h', l'⟩
  unfold Pk.cells enc6 at *
  unfold Ad.cells at *
  simp only at Hm Ha Hb hback ⊢
  have H16 := Lib.hid (u16_any s.size (by omega))
  have hw16 : IntKind.u16.wrap (s.size : Int) = (s.size : Int) := by rw [IntKind.wrap_u16]; omega
  generalize addrB ⟨true, h, l⟩ = A at *
  generalize addrB ⟨v', h', l'⟩ = B at *
  have n1 : ¬ 9223372036854775807 < 8 + A.size := by omega
  have n2 : ¬ 9223372036854775807 < 8 + A.size + B.size := by omega
  have n3 : ¬ 9223372036854775807 < 8 + A.size + B.size + s.size := by omega
  clear ok hm
  have hC0 := Blk.new w 26 #[.bool true, .int .u64 (h : Int), .int .u64 (l : Int), .bool v', .int .u64 (h' : Int), .int .u64 (l' : Int), .int .u8 (pr : Int), .int .u8 (tt : Int), .string s]
  have hc0 := boxed w (.cells #[.bool true, .int .u64 (h : Int), .int .u64 (l : Int), .bool v', .int .u64 (h' : Int), .int .u64 (l' : Int), .int .u8 (pr : Int), .int .u8 (tt : Int), .string s] 26)
  go_enter Tryz.func10, Tryz.ntmps10
  go_wp2_with (go_at_call 12; refine (Hm.out _).mono ?_; rintro r w1 ⟨rfl, hb1⟩; have hC1 := hC0.below hb1 hC0.lt; have x0 := hC1.cell 0; have x1 := hC1.cell 1; have x2 := hC1.cell 2; have x3 := hC1.cell 3; have x4 := hC1.cell 4; have x5 := hC1.cell 5; have x6 := hC1.cell 6; have x7 := hC1.cell 7; have x8 := hC1.cell 8; simp at x0 x1 x2 x3 x4 x5 x6 x7 x8)
  have hb0 := (after hc0 hb1).drew
  have hB0 := hC1.drew
  clear hC0 hc0 hb1 x0 x1 x2 x3 x4 x5 x6 x7 x8 hC1
  rename_i K2 a2 K1 a1
  clear a2
  generalize w.heap.size = b at hB0 ⊢
  refine wp_region_held_drew (S := fun w' => (w'.cell? ⟨b, 0, none⟩ = some (.bool true) ∧ w'.cell? ⟨b, 1, none⟩ = some (.int .u64 (h : Int)) ∧ w'.cell? ⟨b, 2, none⟩ = some (.int .u64 (l : Int)) ∧ w'.cell? ⟨b, 3, none⟩ = some (.bool v') ∧ w'.cell? ⟨b, 4, none⟩ = some (.int .u64 (h' : Int)) ∧ w'.cell? ⟨b, 5, none⟩ = some (.int .u64 (l' : Int)) ∧ w'.cell? ⟨b, 6, none⟩ = some (.int .u8 (pr : Int)) ∧ w'.cell? ⟨b, 7, none⟩ = some (.int .u8 (tt : Int)) ∧ w'.cell? ⟨b, 8, none⟩ = some (.string s))) (by kernel_rfl) ⟨hB0.cell 0, hB0.cell 1, hB0.cell 2, hB0.cell 3, hB0.cell 4, hB0.cell 5, hB0.cell 6, hB0.cell 7, hB0.cell 8⟩ (fun hHeld => ?_)
  generalize w1.drew = v0 at hB0 hb0 hHeld ⊢
  refine' wpAnyH_take (i := 0) (oi := { dst := some 14, op := Go.Op.fieldAddr 26 (Go.Operand.tmp 1) 4, type := 0, pos := "ip.go:57", after := #[], guard := none }) (v := _) rfl (by kernel_rfl) (by kernel_rfl) (by kernel_rfl) (fun _ _ _ h => h) (Or.inl ⟨by rfl, ?hy1⟩) (by assumption) ?hrest1
  case hy1 =>
    intro w hSw
    try dsimp only at hSw
    go_simp
    try with_reducible rfl
  try simp only [Act.put, List.setIfInBounds_toArray, List.set_cons_zero, List.set_cons_succ]
  refine' wpAnyH_take (i := 1) (oi := { dst := some 15, op := Go.Op.load 9 (Go.Operand.tmp 14), type := 9, pos := "ip.go:57", after := #[{ on := 0, ground := Go.Ground.data }], guard := none }) (v := _) rfl (by kernel_rfl) (by kernel_rfl) (by kernel_rfl) (fun _ _ _ h => h) (Or.inl ⟨by rfl, ?hy2⟩) (by assumption) ?hrest2
  case hy2 =>
    intro w hSw
    try dsimp only at hSw
    go_simp
    try with_reducible rfl
  try simp only [Act.put, List.setIfInBounds_toArray, List.set_cons_zero, List.set_cons_succ]
  refine' wpAnyH_take (i := 2) (oi := { dst := some 16, op := Go.Op.call { callee := Go.Callee.builtin Go.Builtin.len, args := #[Go.Operand.tmp 15], argTypes := #[9] }, type := 3, pos := "ip.go:57", after := #[{ on := 1, ground := Go.Ground.data }], guard := none }) (v := _) rfl (by kernel_rfl) (by kernel_rfl) (by kernel_rfl) (fun _ _ _ h => h) (Or.inl ⟨by rfl, ?hy3⟩) (by assumption) ?hrest3
  case hy3 =>
    intro w hSw
    try dsimp only at hSw
    go_simp
    try with_reducible rfl
  try simp only [Act.put, List.setIfInBounds_toArray, List.set_cons_zero, List.set_cons_succ]
  refine' wpAnyH_take (i := 3) (oi := { dst := some 17, op := Go.Op.convert 3 32 (Go.Operand.tmp 16), type := 32, pos := "ip.go:57", after := #[{ on := 2, ground := Go.Ground.data }], guard := none }) (v := _) rfl (by kernel_rfl) (by kernel_rfl) (by kernel_rfl) (fun _ _ _ h => h) (Or.inl ⟨by rfl, ?hy4⟩) (by assumption) ?hrest4
  case hy4 =>
    intro w hSw
    try dsimp only at hSw
    go_simp
    try with_reducible rfl
  try simp only [Act.put, List.setIfInBounds_toArray, List.set_cons_zero, List.set_cons_succ]
  refine' wpAnyH_take (i := 6) (oi := { dst := some 20, op := Go.Op.fieldAddr 26 (Go.Operand.tmp 1) 2, type := 0, pos := "ip.go:57", after := #[], guard := none }) (v := _) rfl (by kernel_rfl) (by kernel_rfl) (by kernel_rfl) (fun _ _ _ h => h) (Or.inl ⟨by rfl, ?hy5⟩) (by assumption) ?hrest5
  case hy5 =>
    intro w hSw
    try dsimp only at hSw
    go_simp
    try with_reducible rfl
  try simp only [Act.put, List.setIfInBounds_toArray, List.set_cons_zero, List.set_cons_succ]
  refine' wpAnyH_take (i := 7) (oi := { dst := some 21, op := Go.Op.load 5 (Go.Operand.tmp 20), type := 5, pos := "ip.go:57", after := #[{ on := 6, ground := Go.Ground.data }], guard := none }) (v := _) rfl (by kernel_rfl) (by kernel_rfl) (by kernel_rfl) (fun _ _ _ h => h) (Or.inl ⟨by rfl, ?hy6⟩) (by assumption) ?hrest6
  case hy6 =>
    intro w hSw
    try dsimp only at hSw
    go_simp
    try with_reducible rfl
  try simp only [Act.put, List.setIfInBounds_toArray, List.set_cons_zero, List.set_cons_succ]
  refine' wpAnyH_take (i := 8) (oi := { dst := some 22, op := Go.Op.fieldAddr 26 (Go.Operand.tmp 1) 3, type := 0, pos := "ip.go:57", after := #[], guard := none }) (v := _) rfl (by kernel_rfl) (by kernel_rfl) (by kernel_rfl) (fun _ _ _ h => h) (Or.inl ⟨by rfl, ?hy7⟩) (by assumption) ?hrest7
  case hy7 =>
    intro w hSw
    try dsimp only at hSw
    go_simp
    try with_reducible rfl
  try simp only [Act.put, List.setIfInBounds_toArray, List.set_cons_zero, List.set_cons_succ]
  refine' wpAnyH_take (i := 9) (oi := { dst := some 23, op := Go.Op.load 5 (Go.Operand.tmp 22), type := 5, pos := "ip.go:57", after := #[{ on := 8, ground := Go.Ground.data }], guard := none }) (v := _) rfl (by kernel_rfl) (by kernel_rfl) (by kernel_rfl) (fun _ _ _ h => h) (Or.inl ⟨by rfl, ?hy8⟩) (by assumption) ?hrest8
  case hy8 =>
    intro w hSw
    try dsimp only at hSw
    go_simp
    try with_reducible rfl
  try simp only [Act.put, List.setIfInBounds_toArray, List.set_cons_zero, List.set_cons_succ]
  refine' wpAnyH_take (i := 13) (oi := { dst := some 27, op := Go.Op.fieldAddr 26 (Go.Operand.tmp 1) 0, type := 0, pos := "ip.go:57", after := #[], guard := none }) (v := _) rfl (by kernel_rfl) (by kernel_rfl) (by kernel_rfl) (fun _ _ _ h => h) (Or.inl ⟨by rfl, ?hy9⟩) (by assumption) ?hrest9
  case hy9 =>
    intro w hSw
    try dsimp only at hSw
    go_simp
    try with_reducible rfl
  try simp only [Act.put, List.setIfInBounds_toArray, List.set_cons_zero, List.set_cons_succ]
  refine' wpAnyH_take (i := 14) (oi := { dst := some 28, op := Go.Op.load 24 (Go.Operand.tmp 27), type := 24, pos := "ip.go:57", after := #[{ on := 13, ground := Go.Ground.data }], guard := none }) (v := _) rfl (by kernel_rfl) (by kernel_rfl) (by kernel_rfl) (fun _ _ _ h => h) (Or.inl ⟨by rfl, ?hy10⟩) (by assumption) ?hrest10
  case hy10 =>
    intro w hSw
    try dsimp only at hSw
    go_simp
    try with_reducible rfl
  try simp only [Act.put, List.setIfInBounds_toArray, List.set_cons_zero, List.set_cons_succ]
  refine' wpAnyH_take (i := 17) (oi := { dst := some 31, op := Go.Op.fieldAddr 26 (Go.Operand.tmp 1) 1, type := 0, pos := "ip.go:57", after := #[], guard := none }) (v := _) rfl (by kernel_rfl) (by kernel_rfl) (by kernel_rfl) (fun _ _ _ h => h) (Or.inl ⟨by rfl, ?hy11⟩) (by assumption) ?hrest11
  case hy11 =>
    intro w hSw
    try dsimp only at hSw
    go_simp
    try with_reducible rfl
  try simp only [Act.put, List.setIfInBounds_toArray, List.set_cons_zero, List.set_cons_succ]
  refine' wpAnyH_take (i := 18) (oi := { dst := some 32, op := Go.Op.load 24 (Go.Operand.tmp 31), type := 24, pos := "ip.go:57", after := #[{ on := 17, ground := Go.Ground.data }], guard := none }) (v := _) rfl (by kernel_rfl) (by kernel_rfl) (by kernel_rfl) (fun _ _ _ h => h) (Or.inl ⟨by rfl, ?hy12⟩) (by assumption) ?hrest12
  case hy12 =>
    intro w hSw
    try dsimp only at hSw
    go_simp
    try with_reducible rfl
  try simp only [Act.put, List.setIfInBounds_toArray, List.set_cons_zero, List.set_cons_succ]
  refine' wpAnyH_take (i := 21) (oi := { dst := some 35, op := Go.Op.fieldAddr 26 (Go.Operand.tmp 1) 4, type := 0, pos := "ip.go:57", after := #[], guard := none }) (v := _) rfl (by kernel_rfl) (by kernel_rfl) (by kernel_rfl) (fun _ _ _ h => h) (Or.inl ⟨by rfl, ?hy13⟩) (by assumption) ?hrest13
  case hy13 =>
    intro w hSw
    try dsimp only at hSw
    go_simp
    try with_reducible rfl
  try simp only [Act.put, List.setIfInBounds_toArray, List.set_cons_zero, List.set_cons_succ]
  refine' wpAnyH_take (i := 22) (oi := { dst := some 36, op := Go.Op.load 9 (Go.Operand.tmp 35), type := 9, pos := "ip.go:57", after := #[{ on := 21, ground := Go.Ground.data }], guard := none }) (v := _) rfl (by kernel_rfl) (by kernel_rfl) (by kernel_rfl) (fun _ _ _ h => h) (Or.inl ⟨by rfl, ?hy14⟩) (by assumption) ?hrest14
  case hy14 =>
    intro w hSw
    try dsimp only at hSw
    go_simp
    try with_reducible rfl
  try simp only [Act.put, List.setIfInBounds_toArray, List.set_cons_zero, List.set_cons_succ]
  refine wpAnyH_ready (rs := [4, 10]) (by kernel_rfl) (by simp) ?_
  refine AllReadyH.cons (o := { dst := some 18, op := Go.Op.call { callee := Go.Callee.value (Go.Operand.func 33), args := #[Go.Operand.tmp 17], argTypes := #[32] }, type := 9, pos := "ip.go:57", after := #[{ on := 3, ground := Go.Ground.data }], guard := none }) rfl (fun K hK => ?_) ?_
  · go_simp
    refine (H16.out _).mono ?_
    rintro r v1 ⟨rfl, d1⟩
    have hb1 := after hb0 d1
    have hB1 := hB0.below d1 hB0.lt
    refine hK.out _ _ ⟨hB1.cell 0, hB1.cell 1, hB1.cell 2, hB1.cell 3, hB1.cell 4, hB1.cell 5, hB1.cell 6, hB1.cell 7, hB1.cell 8⟩ (fun hHeld => ?_)
    clear hK K
    try simp only [Act.put, List.setIfInBounds_toArray, List.set_cons_zero, List.set_cons_succ]
    refine' wpAnyH_take (i := 5) (oi := { dst := some 19, op := Go.Op.binOp Go.BinOp.add 9 (Go.Operand.const (Go.Value.string { data := #[96, 0, 0, 0] })) (Go.Operand.tmp 18) 9, type := 9, pos := "ip.go:57", after := #[{ on := 4, ground := Go.Ground.data }], guard := none }) (v := _) rfl (by kernel_rfl) (by kernel_rfl) (by kernel_rfl) (fun _ _ _ h => h) (Or.inl ⟨by rfl, ?hy15⟩) (by assumption) ?hrest15
    case hy15 =>
      intro w hSw
      try dsimp only at hSw
      go_simp
      try with_reducible rfl
    try simp only [Act.put, List.setIfInBounds_toArray, List.set_cons_zero, List.set_cons_succ]
    refine wpAnyH_ready (rs := [10, 15]) (by kernel_rfl) (by simp) ?_
    refine AllReadyH.cons (o := { dst := some 24, op := Go.Op.buildSlice 49 2 #[(0, Go.Operand.tmp 21), (1, Go.Operand.tmp 23)], type := 49, pos := "ip.go:57", after := #[{ on := 7, ground := Go.Ground.data }, { on := 9, ground := Go.Ground.data }], guard := none }) rfl (fun K hK => ?_) ?_
    · go_simp
      have hb2 := after hb1 (boxed v1 (.cells #[.int .u8 (pr : Int), .int .u8 (tt : Int)] 5))
      have hB2 := hB1.alloc (.cells #[.int .u8 (pr : Int), .int .u8 (tt : Int)] 5)
      have hG2 := Blk.new v1 5 #[.int .u8 (pr : Int), .int .u8 (tt : Int)]
      generalize v1.alloc (.cells #[.int .u8 (pr : Int), .int .u8 (tt : Int)] 5) = v2 at hb2 hB2 hG2 ⊢
      generalize v1.heap.size = g2 at hG2 ⊢
      refine hK.out _ _ ⟨hB2.cell 0, hB2.cell 1, hB2.cell 2, hB2.cell 3, hB2.cell 4, hB2.cell 5, hB2.cell 6, hB2.cell 7, hB2.cell 8⟩ (fun hHeld => ?_)
      clear hK K
      try simp only [Act.put, List.setIfInBounds_toArray, List.set_cons_zero, List.set_cons_succ]
      refine wpAnyH_switch (S' := (fun w' => (w'.cell? ⟨b, 0, none⟩ = some (.bool true) ∧ w'.cell? ⟨b, 1, none⟩ = some (.int .u64 (h : Int)) ∧ w'.cell? ⟨b, 2, none⟩ = some (.int .u64 (l : Int)) ∧ w'.cell? ⟨b, 3, none⟩ = some (.bool v') ∧ w'.cell? ⟨b, 4, none⟩ = some (.int .u64 (h' : Int)) ∧ w'.cell? ⟨b, 5, none⟩ = some (.int .u64 (l' : Int)) ∧ w'.cell? ⟨b, 6, none⟩ = some (.int .u8 (pr : Int)) ∧ w'.cell? ⟨b, 7, none⟩ = some (.int .u8 (tt : Int)) ∧ w'.cell? ⟨b, 8, none⟩ = some (.string s)) ∧ w'.cell? ⟨g2, 0, none⟩ = some (.int .u8 (pr : Int)) ∧ w'.cell? ⟨g2, 1, none⟩ = some (.int .u8 (tt : Int)))) (fun _ h => h.1) _ _ _ _ ?_
      have hHeld2 : (fun w' => (w'.cell? ⟨b, 0, none⟩ = some (.bool true) ∧ w'.cell? ⟨b, 1, none⟩ = some (.int .u64 (h : Int)) ∧ w'.cell? ⟨b, 2, none⟩ = some (.int .u64 (l : Int)) ∧ w'.cell? ⟨b, 3, none⟩ = some (.bool v') ∧ w'.cell? ⟨b, 4, none⟩ = some (.int .u64 (h' : Int)) ∧ w'.cell? ⟨b, 5, none⟩ = some (.int .u64 (l' : Int)) ∧ w'.cell? ⟨b, 6, none⟩ = some (.int .u8 (pr : Int)) ∧ w'.cell? ⟨b, 7, none⟩ = some (.int .u8 (tt : Int)) ∧ w'.cell? ⟨b, 8, none⟩ = some (.string s)) ∧ w'.cell? ⟨g2, 0, none⟩ = some (.int .u8 (pr : Int)) ∧ w'.cell? ⟨g2, 1, none⟩ = some (.int .u8 (tt : Int))) v2 := ⟨hHeld, hG2.cell 0, hG2.cell 1⟩
      clear hHeld
      refine' wpAnyH_take (i := 11) (oi := { dst := some 25, op := Go.Op.convert 49 9 (Go.Operand.tmp 24), type := 9, pos := "ip.go:57", after := #[{ on := 10, ground := Go.Ground.data }], guard := none }) (v := _) rfl (by kernel_rfl) (by kernel_rfl) (by kernel_rfl) (fun _ _ _ h => h) (Or.inl ⟨by rfl, ?hy16⟩) (by assumption) ?hrest16
      case hy16 =>
        intro w hSw
        try dsimp only at hSw
        go_simp
        try with_reducible rfl
      try simp only [Act.put, List.setIfInBounds_toArray, List.set_cons_zero, List.set_cons_succ]
      refine' wpAnyH_take (i := 12) (oi := { dst := some 26, op := Go.Op.binOp Go.BinOp.add 9 (Go.Operand.tmp 19) (Go.Operand.tmp 25) 9, type := 9, pos := "ip.go:57", after := #[{ on := 5, ground := Go.Ground.data }, { on := 11, ground := Go.Ground.data }], guard := none }) (v := _) rfl (by kernel_rfl) (by kernel_rfl) (by kernel_rfl) (fun _ _ _ h => h) (Or.inl ⟨by rfl, ?hy17⟩) (by assumption) ?hrest17
      case hy17 =>
        intro w hSw
        try dsimp only at hSw
        go_simp
        try with_reducible rfl
      try simp only [Act.put, List.setIfInBounds_toArray, List.set_cons_zero, List.set_cons_succ]
      refine wpAnyH_ready (rs := [15]) (by kernel_rfl) (by simp) ?_
      refine AllReadyH.cons (o := { dst := some 29, op := Go.Op.call { callee := Go.Callee.value (Go.Operand.func 34), args := #[Go.Operand.tmp 28], argTypes := #[24] }, type := 9, pos := "ip.go:57", after := #[{ on := 14, ground := Go.Ground.data }, { on := 4, ground := Go.Ground.chain }], guard := none }) rfl (fun K hK => ?_) AllReadyH.nil
      go_simp
      refine (Ha.out _).mono ?_
      rintro r v3 ⟨rfl, d3⟩
      have hb3 := after hb2 d3
      have hB3 := hB2.below d3 hB2.lt
      have hG3 := hG2.below d3 hG2.lt
      refine hK.out _ _ ⟨⟨hB3.cell 0, hB3.cell 1, hB3.cell 2, hB3.cell 3, hB3.cell 4, hB3.cell 5, hB3.cell 6, hB3.cell 7, hB3.cell 8⟩, hG3.cell 0, hG3.cell 1⟩ (fun hHeld => ?_)
      clear hK K
      try simp only [Act.put, List.setIfInBounds_toArray, List.set_cons_zero, List.set_cons_succ]
      refine' wpAnyH_take (i := 16) (oi := { dst := some 30, op := Go.Op.binOp Go.BinOp.add 9 (Go.Operand.tmp 26) (Go.Operand.tmp 29) 9, type := 9, pos := "ip.go:57", after := #[{ on := 12, ground := Go.Ground.data }, { on := 15, ground := Go.Ground.data }], guard := none }) (v := _) rfl (by kernel_rfl) (by kernel_rfl) (by kernel_rfl) (fun _ _ _ h => h) (Or.inl ⟨by rfl, ?hy18⟩) (by assumption) ?hrest18
      case hy18 =>
        intro w hSw
        try dsimp only at hSw
        go_simp
        try with_reducible rfl
      try simp only [Act.put, List.setIfInBounds_toArray, List.set_cons_zero, List.set_cons_succ]
      refine wpAnyH_ready (rs := [19]) (by kernel_rfl) (by simp) ?_
      refine AllReadyH.cons (o := { dst := some 33, op := Go.Op.call { callee := Go.Callee.value (Go.Operand.func 34), args := #[Go.Operand.tmp 32], argTypes := #[24] }, type := 9, pos := "ip.go:57", after := #[{ on := 18, ground := Go.Ground.data }, { on := 15, ground := Go.Ground.chain }], guard := none }) rfl (fun K hK => ?_) AllReadyH.nil
      go_simp
      refine (Hb.out _).mono ?_
      rintro r v4 ⟨rfl, d4⟩
      have hb4 := after hb3 d4
      have hB4 := hB3.below d4 hB3.lt
      have hG4 := hG3.below d4 hG3.lt
      refine hK.out _ _ ⟨⟨hB4.cell 0, hB4.cell 1, hB4.cell 2, hB4.cell 3, hB4.cell 4, hB4.cell 5, hB4.cell 6, hB4.cell 7, hB4.cell 8⟩, hG4.cell 0, hG4.cell 1⟩ (fun hHeld => ?_)
      clear hK K
      try simp only [Act.put, List.setIfInBounds_toArray, List.set_cons_zero, List.set_cons_succ]
      refine' wpAnyH_take (i := 20) (oi := { dst := some 34, op := Go.Op.binOp Go.BinOp.add 9 (Go.Operand.tmp 30) (Go.Operand.tmp 33) 9, type := 9, pos := "ip.go:57", after := #[{ on := 16, ground := Go.Ground.data }, { on := 19, ground := Go.Ground.data }], guard := none }) (v := _) rfl (by kernel_rfl) (by kernel_rfl) (by kernel_rfl) (fun _ _ _ h => h) (Or.inl ⟨by rfl, ?hy19⟩) (by assumption) ?hrest19
      case hy19 =>
        intro w hSw
        try dsimp only at hSw
        go_simp
        try with_reducible rfl
      try simp only [Act.put, List.setIfInBounds_toArray, List.set_cons_zero, List.set_cons_succ]
      refine' wpAnyH_take (i := 23) (oi := { dst := some 37, op := Go.Op.binOp Go.BinOp.add 9 (Go.Operand.tmp 34) (Go.Operand.tmp 36) 9, type := 9, pos := "ip.go:57", after := #[{ on := 20, ground := Go.Ground.data }, { on := 22, ground := Go.Ground.data }], guard := none }) (v := _) rfl (by kernel_rfl) (by kernel_rfl) (by kernel_rfl) (fun _ _ _ h => h) (Or.inl ⟨by rfl, ?hy20⟩) (by assumption) ?hrest20
      case hy20 =>
        intro w hSw
        try dsimp only at hSw
        go_simp
        try with_reducible rfl
      try simp only [Act.put, List.setIfInBounds_toArray, List.set_cons_zero, List.set_cons_succ]
      refine' wpAnyH_take (i := 24) (oi := { dst := some 2, op := Go.Op.assign (Go.Operand.tmp 37), type := 9, pos := "ip.go:57", after := #[{ on := 23, ground := Go.Ground.data }, { on := 19, ground := Go.Ground.chain }, { on := 0, ground := Go.Ground.phase }, { on := 1, ground := Go.Ground.phase }, { on := 2, ground := Go.Ground.phase }, { on := 3, ground := Go.Ground.phase }, { on := 4, ground := Go.Ground.phase }, { on := 5, ground := Go.Ground.phase }, { on := 6, ground := Go.Ground.phase }, { on := 7, ground := Go.Ground.phase }, { on := 8, ground := Go.Ground.phase }, { on := 9, ground := Go.Ground.phase }, { on := 10, ground := Go.Ground.phase }, { on := 11, ground := Go.Ground.phase }, { on := 12, ground := Go.Ground.phase }, { on := 13, ground := Go.Ground.phase }, { on := 14, ground := Go.Ground.phase }, { on := 15, ground := Go.Ground.phase }, { on := 16, ground := Go.Ground.phase }, { on := 17, ground := Go.Ground.phase }, { on := 18, ground := Go.Ground.phase }, { on := 19, ground := Go.Ground.phase }, { on := 20, ground := Go.Ground.phase }, { on := 21, ground := Go.Ground.phase }, { on := 22, ground := Go.Ground.phase }, { on := 23, ground := Go.Ground.phase }], guard := none }) (v := _) rfl (by kernel_rfl) (by kernel_rfl) (by kernel_rfl) (fun _ _ _ h => h) (Or.inl ⟨by rfl, ?hy21⟩) (by assumption) ?hrest21
      case hy21 =>
        intro w hSw
        try dsimp only at hSw
        go_simp
        try with_reducible rfl
      try simp only [Act.put, List.setIfInBounds_toArray, List.set_cons_zero, List.set_cons_succ]
      refine' wpAnyH_take (i := 25) (oi := { dst := some 3, op := Go.Op.assign (Go.Operand.const (Go.Value.int Go.IntKind.i64 0)), type := 28, pos := "ip.go:57", after := #[{ on := 24, ground := Go.Ground.chain }, { on := 0, ground := Go.Ground.phase }, { on := 1, ground := Go.Ground.phase }, { on := 2, ground := Go.Ground.phase }, { on := 3, ground := Go.Ground.phase }, { on := 4, ground := Go.Ground.phase }, { on := 5, ground := Go.Ground.phase }, { on := 6, ground := Go.Ground.phase }, { on := 7, ground := Go.Ground.phase }, { on := 8, ground := Go.Ground.phase }, { on := 9, ground := Go.Ground.phase }, { on := 10, ground := Go.Ground.phase }, { on := 11, ground := Go.Ground.phase }, { on := 12, ground := Go.Ground.phase }, { on := 13, ground := Go.Ground.phase }, { on := 14, ground := Go.Ground.phase }, { on := 15, ground := Go.Ground.phase }, { on := 16, ground := Go.Ground.phase }, { on := 17, ground := Go.Ground.phase }, { on := 18, ground := Go.Ground.phase }, { on := 19, ground := Go.Ground.phase }, { on := 20, ground := Go.Ground.phase }, { on := 21, ground := Go.Ground.phase }, { on := 22, ground := Go.Ground.phase }, { on := 23, ground := Go.Ground.phase }, { on := 24, ground := Go.Ground.phase }], guard := none }) (v := _) rfl (by kernel_rfl) (by kernel_rfl) (by kernel_rfl) (fun _ _ _ h => h) (Or.inl ⟨by rfl, ?hy22⟩) (by assumption) ?hrest22
      case hy22 =>
        intro w hSw
        try dsimp only at hSw
        go_simp
        try with_reducible rfl
      try simp only [Act.put, List.setIfInBounds_toArray, List.set_cons_zero, List.set_cons_succ]
      refine wpAnyH_done (by kernel_rfl) ?_ _
      go_wp2_with fail
      go_ret2
      exact ⟨rfl, hb4⟩
    refine AllReadyH.cons (o := { dst := some 29, op := Go.Op.call { callee := Go.Callee.value (Go.Operand.func 34), args := #[Go.Operand.tmp 28], argTypes := #[24] }, type := 9, pos := "ip.go:57", after := #[{ on := 14, ground := Go.Ground.data }, { on := 4, ground := Go.Ground.chain }], guard := none }) rfl (fun K hK => ?_) AllReadyH.nil
    go_simp
    refine (Ha.out _).mono ?_
    rintro r v2 ⟨rfl, d2⟩
    have hb2 := after hb1 d2
    have hB2 := hB1.below d2 hB1.lt
    refine hK.out _ _ ⟨hB2.cell 0, hB2.cell 1, hB2.cell 2, hB2.cell 3, hB2.cell 4, hB2.cell 5, hB2.cell 6, hB2.cell 7, hB2.cell 8⟩ (fun hHeld => ?_)
    clear hK K
    try simp only [Act.put, List.setIfInBounds_toArray, List.set_cons_zero, List.set_cons_succ]
    refine wpAnyH_ready (rs := [10, 19]) (by kernel_rfl) (by simp) ?_
    refine AllReadyH.cons (o := { dst := some 24, op := Go.Op.buildSlice 49 2 #[(0, Go.Operand.tmp 21), (1, Go.Operand.tmp 23)], type := 49, pos := "ip.go:57", after := #[{ on := 7, ground := Go.Ground.data }, { on := 9, ground := Go.Ground.data }], guard := none }) rfl (fun K hK => ?_) ?_
    · go_simp
      have hb3 := after hb2 (boxed v2 (.cells #[.int .u8 (pr : Int), .int .u8 (tt : Int)] 5))
      have hB3 := hB2.alloc (.cells #[.int .u8 (pr : Int), .int .u8 (tt : Int)] 5)
      have hG3 := Blk.new v2 5 #[.int .u8 (pr : Int), .int .u8 (tt : Int)]
      generalize v2.alloc (.cells #[.int .u8 (pr : Int), .int .u8 (tt : Int)] 5) = v3 at hb3 hB3 hG3 ⊢
      generalize v2.heap.size = g3 at hG3 ⊢
      refine hK.out _ _ ⟨hB3.cell 0, hB3.cell 1, hB3.cell 2, hB3.cell 3, hB3.cell 4, hB3.cell 5, hB3.cell 6, hB3.cell 7, hB3.cell 8⟩ (fun hHeld => ?_)
      clear hK K
      try simp only [Act.put, List.setIfInBounds_toArray, List.set_cons_zero, List.set_cons_succ]
      refine wpAnyH_switch (S' := (fun w' => (w'.cell? ⟨b, 0, none⟩ = some (.bool true) ∧ w'.cell? ⟨b, 1, none⟩ = some (.int .u64 (h : Int)) ∧ w'.cell? ⟨b, 2, none⟩ = some (.int .u64 (l : Int)) ∧ w'.cell? ⟨b, 3, none⟩ = some (.bool v') ∧ w'.cell? ⟨b, 4, none⟩ = some (.int .u64 (h' : Int)) ∧ w'.cell? ⟨b, 5, none⟩ = some (.int .u64 (l' : Int)) ∧ w'.cell? ⟨b, 6, none⟩ = some (.int .u8 (pr : Int)) ∧ w'.cell? ⟨b, 7, none⟩ = some (.int .u8 (tt : Int)) ∧ w'.cell? ⟨b, 8, none⟩ = some (.string s)) ∧ w'.cell? ⟨g3, 0, none⟩ = some (.int .u8 (pr : Int)) ∧ w'.cell? ⟨g3, 1, none⟩ = some (.int .u8 (tt : Int)))) (fun _ h => h.1) _ _ _ _ ?_
      have hHeld2 : (fun w' => (w'.cell? ⟨b, 0, none⟩ = some (.bool true) ∧ w'.cell? ⟨b, 1, none⟩ = some (.int .u64 (h : Int)) ∧ w'.cell? ⟨b, 2, none⟩ = some (.int .u64 (l : Int)) ∧ w'.cell? ⟨b, 3, none⟩ = some (.bool v') ∧ w'.cell? ⟨b, 4, none⟩ = some (.int .u64 (h' : Int)) ∧ w'.cell? ⟨b, 5, none⟩ = some (.int .u64 (l' : Int)) ∧ w'.cell? ⟨b, 6, none⟩ = some (.int .u8 (pr : Int)) ∧ w'.cell? ⟨b, 7, none⟩ = some (.int .u8 (tt : Int)) ∧ w'.cell? ⟨b, 8, none⟩ = some (.string s)) ∧ w'.cell? ⟨g3, 0, none⟩ = some (.int .u8 (pr : Int)) ∧ w'.cell? ⟨g3, 1, none⟩ = some (.int .u8 (tt : Int))) v3 := ⟨hHeld, hG3.cell 0, hG3.cell 1⟩
      clear hHeld
      refine' wpAnyH_take (i := 11) (oi := { dst := some 25, op := Go.Op.convert 49 9 (Go.Operand.tmp 24), type := 9, pos := "ip.go:57", after := #[{ on := 10, ground := Go.Ground.data }], guard := none }) (v := _) rfl (by kernel_rfl) (by kernel_rfl) (by kernel_rfl) (fun _ _ _ h => h) (Or.inl ⟨by rfl, ?hy23⟩) (by assumption) ?hrest23
      case hy23 =>
        intro w hSw
        try dsimp only at hSw
        go_simp
        try with_reducible rfl
      try simp only [Act.put, List.setIfInBounds_toArray, List.set_cons_zero, List.set_cons_succ]
      refine' wpAnyH_take (i := 12) (oi := { dst := some 26, op := Go.Op.binOp Go.BinOp.add 9 (Go.Operand.tmp 19) (Go.Operand.tmp 25) 9, type := 9, pos := "ip.go:57", after := #[{ on := 5, ground := Go.Ground.data }, { on := 11, ground := Go.Ground.data }], guard := none }) (v := _) rfl (by kernel_rfl) (by kernel_rfl) (by kernel_rfl) (fun _ _ _ h => h) (Or.inl ⟨by rfl, ?hy24⟩) (by assumption) ?hrest24
      case hy24 =>
        intro w hSw
        try dsimp only at hSw
        go_simp
        try with_reducible rfl
      try simp only [Act.put, List.setIfInBounds_toArray, List.set_cons_zero, List.set_cons_succ]
      refine' wpAnyH_take (i := 16) (oi := { dst := some 30, op := Go.Op.binOp Go.BinOp.add 9 (Go.Operand.tmp 26) (Go.Operand.tmp 29) 9, type := 9, pos := "ip.go:57", after := #[{ on := 12, ground := Go.Ground.data }, { on := 15, ground := Go.Ground.data }], guard := none }) (v := _) rfl (by kernel_rfl) (by kernel_rfl) (by kernel_rfl) (fun _ _ _ h => h) (Or.inl ⟨by rfl, ?hy25⟩) (by assumption) ?hrest25
      case hy25 =>
        intro w hSw
        try dsimp only at hSw
        go_simp
        try with_reducible rfl
      try simp only [Act.put, List.setIfInBounds_toArray, List.set_cons_zero, List.set_cons_succ]
      refine wpAnyH_ready (rs := [19]) (by kernel_rfl) (by simp) ?_
      refine AllReadyH.cons (o := { dst := some 33, op := Go.Op.call { callee := Go.Callee.value (Go.Operand.func 34), args := #[Go.Operand.tmp 32], argTypes := #[24] }, type := 9, pos := "ip.go:57", after := #[{ on := 18, ground := Go.Ground.data }, { on := 15, ground := Go.Ground.chain }], guard := none }) rfl (fun K hK => ?_) AllReadyH.nil
      go_simp
      refine (Hb.out _).mono ?_
      rintro r v4 ⟨rfl, d4⟩
      have hb4 := after hb3 d4
      have hB4 := hB3.below d4 hB3.lt
      have hG4 := hG3.below d4 hG3.lt
      refine hK.out _ _ ⟨⟨hB4.cell 0, hB4.cell 1, hB4.cell 2, hB4.cell 3, hB4.cell 4, hB4.cell 5, hB4.cell 6, hB4.cell 7, hB4.cell 8⟩, hG4.cell 0, hG4.cell 1⟩ (fun hHeld => ?_)
      clear hK K
      try simp only [Act.put, List.setIfInBounds_toArray, List.set_cons_zero, List.set_cons_succ]
      refine' wpAnyH_take (i := 20) (oi := { dst := some 34, op := Go.Op.binOp Go.BinOp.add 9 (Go.Operand.tmp 30) (Go.Operand.tmp 33) 9, type := 9, pos := "ip.go:57", after := #[{ on := 16, ground := Go.Ground.data }, { on := 19, ground := Go.Ground.data }], guard := none }) (v := _) rfl (by kernel_rfl) (by kernel_rfl) (by kernel_rfl) (fun _ _ _ h => h) (Or.inl ⟨by rfl, ?hy26⟩) (by assumption) ?hrest26
      case hy26 =>
        intro w hSw
        try dsimp only at hSw
        go_simp
        try with_reducible rfl
      try simp only [Act.put, List.setIfInBounds_toArray, List.set_cons_zero, List.set_cons_succ]
      refine' wpAnyH_take (i := 23) (oi := { dst := some 37, op := Go.Op.binOp Go.BinOp.add 9 (Go.Operand.tmp 34) (Go.Operand.tmp 36) 9, type := 9, pos := "ip.go:57", after := #[{ on := 20, ground := Go.Ground.data }, { on := 22, ground := Go.Ground.data }], guard := none }) (v := _) rfl (by kernel_rfl) (by kernel_rfl) (by kernel_rfl) (fun _ _ _ h => h) (Or.inl ⟨by rfl, ?hy27⟩) (by assumption) ?hrest27
      case hy27 =>
        intro w hSw
        try dsimp only at hSw
        go_simp
        try with_reducible rfl
      try simp only [Act.put, List.setIfInBounds_toArray, List.set_cons_zero, List.set_cons_succ]
      refine' wpAnyH_take (i := 24) (oi := { dst := some 2, op := Go.Op.assign (Go.Operand.tmp 37), type := 9, pos := "ip.go:57", after := #[{ on := 23, ground := Go.Ground.data }, { on := 19, ground := Go.Ground.chain }, { on := 0, ground := Go.Ground.phase }, { on := 1, ground := Go.Ground.phase }, { on := 2, ground := Go.Ground.phase }, { on := 3, ground := Go.Ground.phase }, { on := 4, ground := Go.Ground.phase }, { on := 5, ground := Go.Ground.phase }, { on := 6, ground := Go.Ground.phase }, { on := 7, ground := Go.Ground.phase }, { on := 8, ground := Go.Ground.phase }, { on := 9, ground := Go.Ground.phase }, { on := 10, ground := Go.Ground.phase }, { on := 11, ground := Go.Ground.phase }, { on := 12, ground := Go.Ground.phase }, { on := 13, ground := Go.Ground.phase }, { on := 14, ground := Go.Ground.phase }, { on := 15, ground := Go.Ground.phase }, { on := 16, ground := Go.Ground.phase }, { on := 17, ground := Go.Ground.phase }, { on := 18, ground := Go.Ground.phase }, { on := 19, ground := Go.Ground.phase }, { on := 20, ground := Go.Ground.phase }, { on := 21, ground := Go.Ground.phase }, { on := 22, ground := Go.Ground.phase }, { on := 23, ground := Go.Ground.phase }], guard := none }) (v := _) rfl (by kernel_rfl) (by kernel_rfl) (by kernel_rfl) (fun _ _ _ h => h) (Or.inl ⟨by rfl, ?hy28⟩) (by assumption) ?hrest28
      case hy28 =>
        intro w hSw
        try dsimp only at hSw
        go_simp
        try with_reducible rfl
      try simp only [Act.put, List.setIfInBounds_toArray, List.set_cons_zero, List.set_cons_succ]
      refine' wpAnyH_take (i := 25) (oi := { dst := some 3, op := Go.Op.assign (Go.Operand.const (Go.Value.int Go.IntKind.i64 0)), type := 28, pos := "ip.go:57", after := #[{ on := 24, ground := Go.Ground.chain }, { on := 0, ground := Go.Ground.phase }, { on := 1, ground := Go.Ground.phase }, { on := 2, ground := Go.Ground.phase }, { on := 3, ground := Go.Ground.phase }, { on := 4, ground := Go.Ground.phase }, { on := 5, ground := Go.Ground.phase }, { on := 6, ground := Go.Ground.phase }, { on := 7, ground := Go.Ground.phase }, { on := 8, ground := Go.Ground.phase }, { on := 9, ground := Go.Ground.phase }, { on := 10, ground := Go.Ground.phase }, { on := 11, ground := Go.Ground.phase }, { on := 12, ground := Go.Ground.phase }, { on := 13, ground := Go.Ground.phase }, { on := 14, ground := Go.Ground.phase }, { on := 15, ground := Go.Ground.phase }, { on := 16, ground := Go.Ground.phase }, { on := 17, ground := Go.Ground.phase }, { on := 18, ground := Go.Ground.phase }, { on := 19, ground := Go.Ground.phase }, { on := 20, ground := Go.Ground.phase }, { on := 21, ground := Go.Ground.phase }, { on := 22, ground := Go.Ground.phase }, { on := 23, ground := Go.Ground.phase }, { on := 24, ground := Go.Ground.phase }], guard := none }) (v := _) rfl (by kernel_rfl) (by kernel_rfl) (by kernel_rfl) (fun _ _ _ h => h) (Or.inl ⟨by rfl, ?hy29⟩) (by assumption) ?hrest29
      case hy29 =>
        intro w hSw
        try dsimp only at hSw
        go_simp
        try with_reducible rfl
      try simp only [Act.put, List.setIfInBounds_toArray, List.set_cons_zero, List.set_cons_succ]
      refine wpAnyH_done (by kernel_rfl) ?_ _
      go_wp2_with fail
      go_ret2
      exact ⟨rfl, hb4⟩
    refine AllReadyH.cons (o := { dst := some 33, op := Go.Op.call { callee := Go.Callee.value (Go.Operand.func 34), args := #[Go.Operand.tmp 32], argTypes := #[24] }, type := 9, pos := "ip.go:57", after := #[{ on := 18, ground := Go.Ground.data }, { on := 15, ground := Go.Ground.chain }], guard := none }) rfl (fun K hK => ?_) AllReadyH.nil
    go_simp
    refine (Hb.out _).mono ?_
    rintro r v3 ⟨rfl, d3⟩
    have hb3 := after hb2 d3
    have hB3 := hB2.below d3 hB2.lt
    refine hK.out _ _ ⟨hB3.cell 0, hB3.cell 1, hB3.cell 2, hB3.cell 3, hB3.cell 4, hB3.cell 5, hB3.cell 6, hB3.cell 7, hB3.cell 8⟩ (fun hHeld => ?_)
    clear hK K
    try simp only [Act.put, List.setIfInBounds_toArray, List.set_cons_zero, List.set_cons_succ]
    refine wpAnyH_ready (rs := [10]) (by kernel_rfl) (by simp) ?_
    refine AllReadyH.cons (o := { dst := some 24, op := Go.Op.buildSlice 49 2 #[(0, Go.Operand.tmp 21), (1, Go.Operand.tmp 23)], type := 49, pos := "ip.go:57", after := #[{ on := 7, ground := Go.Ground.data }, { on := 9, ground := Go.Ground.data }], guard := none }) rfl (fun K hK => ?_) AllReadyH.nil
    go_simp
    have hb4 := after hb3 (boxed v3 (.cells #[.int .u8 (pr : Int), .int .u8 (tt : Int)] 5))
    have hB4 := hB3.alloc (.cells #[.int .u8 (pr : Int), .int .u8 (tt : Int)] 5)
    have hG4 := Blk.new v3 5 #[.int .u8 (pr : Int), .int .u8 (tt : Int)]
    generalize v3.alloc (.cells #[.int .u8 (pr : Int), .int .u8 (tt : Int)] 5) = v4 at hb4 hB4 hG4 ⊢
    generalize v3.heap.size = g4 at hG4 ⊢
    refine hK.out _ _ ⟨hB4.cell 0, hB4.cell 1, hB4.cell 2, hB4.cell 3, hB4.cell 4, hB4.cell 5, hB4.cell 6, hB4.cell 7, hB4.cell 8⟩ (fun hHeld => ?_)
    clear hK K
    try simp only [Act.put, List.setIfInBounds_toArray, List.set_cons_zero, List.set_cons_succ]
    refine wpAnyH_switch (S' := (fun w' => (w'.cell? ⟨b, 0, none⟩ = some (.bool true) ∧ w'.cell? ⟨b, 1, none⟩ = some (.int .u64 (h : Int)) ∧ w'.cell? ⟨b, 2, none⟩ = some (.int .u64 (l : Int)) ∧ w'.cell? ⟨b, 3, none⟩ = some (.bool v') ∧ w'.cell? ⟨b, 4, none⟩ = some (.int .u64 (h' : Int)) ∧ w'.cell? ⟨b, 5, none⟩ = some (.int .u64 (l' : Int)) ∧ w'.cell? ⟨b, 6, none⟩ = some (.int .u8 (pr : Int)) ∧ w'.cell? ⟨b, 7, none⟩ = some (.int .u8 (tt : Int)) ∧ w'.cell? ⟨b, 8, none⟩ = some (.string s)) ∧ w'.cell? ⟨g4, 0, none⟩ = some (.int .u8 (pr : Int)) ∧ w'.cell? ⟨g4, 1, none⟩ = some (.int .u8 (tt : Int)))) (fun _ h => h.1) _ _ _ _ ?_
    have hHeld2 : (fun w' => (w'.cell? ⟨b, 0, none⟩ = some (.bool true) ∧ w'.cell? ⟨b, 1, none⟩ = some (.int .u64 (h : Int)) ∧ w'.cell? ⟨b, 2, none⟩ = some (.int .u64 (l : Int)) ∧ w'.cell? ⟨b, 3, none⟩ = some (.bool v') ∧ w'.cell? ⟨b, 4, none⟩ = some (.int .u64 (h' : Int)) ∧ w'.cell? ⟨b, 5, none⟩ = some (.int .u64 (l' : Int)) ∧ w'.cell? ⟨b, 6, none⟩ = some (.int .u8 (pr : Int)) ∧ w'.cell? ⟨b, 7, none⟩ = some (.int .u8 (tt : Int)) ∧ w'.cell? ⟨b, 8, none⟩ = some (.string s)) ∧ w'.cell? ⟨g4, 0, none⟩ = some (.int .u8 (pr : Int)) ∧ w'.cell? ⟨g4, 1, none⟩ = some (.int .u8 (tt : Int))) v4 := ⟨hHeld, hG4.cell 0, hG4.cell 1⟩
    clear hHeld
    refine' wpAnyH_take (i := 11) (oi := { dst := some 25, op := Go.Op.convert 49 9 (Go.Operand.tmp 24), type := 9, pos := "ip.go:57", after := #[{ on := 10, ground := Go.Ground.data }], guard := none }) (v := _) rfl (by kernel_rfl) (by kernel_rfl) (by kernel_rfl) (fun _ _ _ h => h) (Or.inl ⟨by rfl, ?hy30⟩) (by assumption) ?hrest30
    case hy30 =>
      intro w hSw
      try dsimp only at hSw
      go_simp
      try with_reducible rfl
    try simp only [Act.put, List.setIfInBounds_toArray, List.set_cons_zero, List.set_cons_succ]
    refine' wpAnyH_take (i := 12) (oi := { dst := some 26, op := Go.Op.binOp Go.BinOp.add 9 (Go.Operand.tmp 19) (Go.Operand.tmp 25) 9, type := 9, pos := "ip.go:57", after := #[{ on := 5, ground := Go.Ground.data }, { on := 11, ground := Go.Ground.data }], guard := none }) (v := _) rfl (by kernel_rfl) (by kernel_rfl) (by kernel_rfl) (fun _ _ _ h => h) (Or.inl ⟨by rfl, ?hy31⟩) (by assumption) ?hrest31
    case hy31 =>
      intro w hSw
      try dsimp only at hSw
      go_simp
      try with_reducible rfl
    try simp only [Act.put, List.setIfInBounds_toArray, List.set_cons_zero, List.set_cons_succ]
    refine' wpAnyH_take (i := 16) (oi := { dst := some 30, op := Go.Op.binOp Go.BinOp.add 9 (Go.Operand.tmp 26) (Go.Operand.tmp 29) 9, type := 9, pos := "ip.go:57", after := #[{ on := 12, ground := Go.Ground.data }, { on := 15, ground := Go.Ground.data }], guard := none }) (v := _) rfl (by kernel_rfl) (by kernel_rfl) (by kernel_rfl) (fun _ _ _ h => h) (Or.inl ⟨by rfl, ?hy32⟩) (by assumption) ?hrest32
    case hy32 =>
      intro w hSw
      try dsimp only at hSw
      go_simp
      try with_reducible rfl
    try simp only [Act.put, List.setIfInBounds_toArray, List.set_cons_zero, List.set_cons_succ]
    refine' wpAnyH_take (i := 20) (oi := { dst := some 34, op := Go.Op.binOp Go.BinOp.add 9 (Go.Operand.tmp 30) (Go.Operand.tmp 33) 9, type := 9, pos := "ip.go:57", after := #[{ on := 16, ground := Go.Ground.data }, { on := 19, ground := Go.Ground.data }], guard := none }) (v := _) rfl (by kernel_rfl) (by kernel_rfl) (by kernel_rfl) (fun _ _ _ h => h) (Or.inl ⟨by rfl, ?hy33⟩) (by assumption) ?hrest33
    case hy33 =>
      intro w hSw
      try dsimp only at hSw
      go_simp
      try with_reducible rfl
    try simp only [Act.put, List.setIfInBounds_toArray, List.set_cons_zero, List.set_cons_succ]
    refine' wpAnyH_take (i := 23) (oi := { dst := some 37, op := Go.Op.binOp Go.BinOp.add 9 (Go.Operand.tmp 34) (Go.Operand.tmp 36) 9, type := 9, pos := "ip.go:57", after := #[{ on := 20, ground := Go.Ground.data }, { on := 22, ground := Go.Ground.data }], guard := none }) (v := _) rfl (by kernel_rfl) (by kernel_rfl) (by kernel_rfl) (fun _ _ _ h => h) (Or.inl ⟨by rfl, ?hy34⟩) (by assumption) ?hrest34
    case hy34 =>
      intro w hSw
      try dsimp only at hSw
      go_simp
      try with_reducible rfl
    try simp only [Act.put, List.setIfInBounds_toArray, List.set_cons_zero, List.set_cons_succ]
    refine' wpAnyH_take (i := 24) (oi := { dst := some 2, op := Go.Op.assign (Go.Operand.tmp 37), type := 9, pos := "ip.go:57", after := #[{ on := 23, ground := Go.Ground.data }, { on := 19, ground := Go.Ground.chain }, { on := 0, ground := Go.Ground.phase }, { on := 1, ground := Go.Ground.phase }, { on := 2, ground := Go.Ground.phase }, { on := 3, ground := Go.Ground.phase }, { on := 4, ground := Go.Ground.phase }, { on := 5, ground := Go.Ground.phase }, { on := 6, ground := Go.Ground.phase }, { on := 7, ground := Go.Ground.phase }, { on := 8, ground := Go.Ground.phase }, { on := 9, ground := Go.Ground.phase }, { on := 10, ground := Go.Ground.phase }, { on := 11, ground := Go.Ground.phase }, { on := 12, ground := Go.Ground.phase }, { on := 13, ground := Go.Ground.phase }, { on := 14, ground := Go.Ground.phase }, { on := 15, ground := Go.Ground.phase }, { on := 16, ground := Go.Ground.phase }, { on := 17, ground := Go.Ground.phase }, { on := 18, ground := Go.Ground.phase }, { on := 19, ground := Go.Ground.phase }, { on := 20, ground := Go.Ground.phase }, { on := 21, ground := Go.Ground.phase }, { on := 22, ground := Go.Ground.phase }, { on := 23, ground := Go.Ground.phase }], guard := none }) (v := _) rfl (by kernel_rfl) (by kernel_rfl) (by kernel_rfl) (fun _ _ _ h => h) (Or.inl ⟨by rfl, ?hy35⟩) (by assumption) ?hrest35
    case hy35 =>
      intro w hSw
      try dsimp only at hSw
      go_simp
      try with_reducible rfl
    try simp only [Act.put, List.setIfInBounds_toArray, List.set_cons_zero, List.set_cons_succ]
    refine' wpAnyH_take (i := 25) (oi := { dst := some 3, op := Go.Op.assign (Go.Operand.const (Go.Value.int Go.IntKind.i64 0)), type := 28, pos := "ip.go:57", after := #[{ on := 24, ground := Go.Ground.chain }, { on := 0, ground := Go.Ground.phase }, { on := 1, ground := Go.Ground.phase }, { on := 2, ground := Go.Ground.phase }, { on := 3, ground := Go.Ground.phase }, { on := 4, ground := Go.Ground.phase }, { on := 5, ground := Go.Ground.phase }, { on := 6, ground := Go.Ground.phase }, { on := 7, ground := Go.Ground.phase }, { on := 8, ground := Go.Ground.phase }, { on := 9, ground := Go.Ground.phase }, { on := 10, ground := Go.Ground.phase }, { on := 11, ground := Go.Ground.phase }, { on := 12, ground := Go.Ground.phase }, { on := 13, ground := Go.Ground.phase }, { on := 14, ground := Go.Ground.phase }, { on := 15, ground := Go.Ground.phase }, { on := 16, ground := Go.Ground.phase }, { on := 17, ground := Go.Ground.phase }, { on := 18, ground := Go.Ground.phase }, { on := 19, ground := Go.Ground.phase }, { on := 20, ground := Go.Ground.phase }, { on := 21, ground := Go.Ground.phase }, { on := 22, ground := Go.Ground.phase }, { on := 23, ground := Go.Ground.phase }, { on := 24, ground := Go.Ground.phase }], guard := none }) (v := _) rfl (by kernel_rfl) (by kernel_rfl) (by kernel_rfl) (fun _ _ _ h => h) (Or.inl ⟨by rfl, ?hy36⟩) (by assumption) ?hrest36
    case hy36 =>
      intro w hSw
      try dsimp only at hSw
      go_simp
      try with_reducible rfl
    try simp only [Act.put, List.setIfInBounds_toArray, List.set_cons_zero, List.set_cons_succ]
    refine wpAnyH_done (by kernel_rfl) ?_ _
    go_wp2_with fail
    go_ret2
    exact ⟨rfl, hb4⟩
  refine AllReadyH.cons (o := { dst := some 24, op := Go.Op.buildSlice 49 2 #[(0, Go.Operand.tmp 21), (1, Go.Operand.tmp 23)], type := 49, pos := "ip.go:57", after := #[{ on := 7, ground := Go.Ground.data }, { on := 9, ground := Go.Ground.data }], guard := none }) rfl (fun K hK => ?_) AllReadyH.nil
  go_simp
  have hb1 := after hb0 (boxed v0 (.cells #[.int .u8 (pr : Int), .int .u8 (tt : Int)] 5))
  have hB1 := hB0.alloc (.cells #[.int .u8 (pr : Int), .int .u8 (tt : Int)] 5)
  have hG1 := Blk.new v0 5 #[.int .u8 (pr : Int), .int .u8 (tt : Int)]
  generalize v0.alloc (.cells #[.int .u8 (pr : Int), .int .u8 (tt : Int)] 5) = v1 at hb1 hB1 hG1 ⊢
  generalize v0.heap.size = g1 at hG1 ⊢
  refine hK.out _ _ ⟨hB1.cell 0, hB1.cell 1, hB1.cell 2, hB1.cell 3, hB1.cell 4, hB1.cell 5, hB1.cell 6, hB1.cell 7, hB1.cell 8⟩ (fun hHeld => ?_)
  clear hK K
  try simp only [Act.put, List.setIfInBounds_toArray, List.set_cons_zero, List.set_cons_succ]
  refine wpAnyH_switch (S' := (fun w' => (w'.cell? ⟨b, 0, none⟩ = some (.bool true) ∧ w'.cell? ⟨b, 1, none⟩ = some (.int .u64 (h : Int)) ∧ w'.cell? ⟨b, 2, none⟩ = some (.int .u64 (l : Int)) ∧ w'.cell? ⟨b, 3, none⟩ = some (.bool v') ∧ w'.cell? ⟨b, 4, none⟩ = some (.int .u64 (h' : Int)) ∧ w'.cell? ⟨b, 5, none⟩ = some (.int .u64 (l' : Int)) ∧ w'.cell? ⟨b, 6, none⟩ = some (.int .u8 (pr : Int)) ∧ w'.cell? ⟨b, 7, none⟩ = some (.int .u8 (tt : Int)) ∧ w'.cell? ⟨b, 8, none⟩ = some (.string s)) ∧ w'.cell? ⟨g1, 0, none⟩ = some (.int .u8 (pr : Int)) ∧ w'.cell? ⟨g1, 1, none⟩ = some (.int .u8 (tt : Int)))) (fun _ h => h.1) _ _ _ _ ?_
  have hHeld2 : (fun w' => (w'.cell? ⟨b, 0, none⟩ = some (.bool true) ∧ w'.cell? ⟨b, 1, none⟩ = some (.int .u64 (h : Int)) ∧ w'.cell? ⟨b, 2, none⟩ = some (.int .u64 (l : Int)) ∧ w'.cell? ⟨b, 3, none⟩ = some (.bool v') ∧ w'.cell? ⟨b, 4, none⟩ = some (.int .u64 (h' : Int)) ∧ w'.cell? ⟨b, 5, none⟩ = some (.int .u64 (l' : Int)) ∧ w'.cell? ⟨b, 6, none⟩ = some (.int .u8 (pr : Int)) ∧ w'.cell? ⟨b, 7, none⟩ = some (.int .u8 (tt : Int)) ∧ w'.cell? ⟨b, 8, none⟩ = some (.string s)) ∧ w'.cell? ⟨g1, 0, none⟩ = some (.int .u8 (pr : Int)) ∧ w'.cell? ⟨g1, 1, none⟩ = some (.int .u8 (tt : Int))) v1 := ⟨hHeld, hG1.cell 0, hG1.cell 1⟩
  clear hHeld
  refine' wpAnyH_take (i := 11) (oi := { dst := some 25, op := Go.Op.convert 49 9 (Go.Operand.tmp 24), type := 9, pos := "ip.go:57", after := #[{ on := 10, ground := Go.Ground.data }], guard := none }) (v := _) rfl (by kernel_rfl) (by kernel_rfl) (by kernel_rfl) (fun _ _ _ h => h) (Or.inl ⟨by rfl, ?hy37⟩) (by assumption) ?hrest37
  case hy37 =>
    intro w hSw
    try dsimp only at hSw
    go_simp
    try with_reducible rfl
  try simp only [Act.put, List.setIfInBounds_toArray, List.set_cons_zero, List.set_cons_succ]
  refine wpAnyH_ready (rs := [4]) (by kernel_rfl) (by simp) ?_
  refine AllReadyH.cons (o := { dst := some 18, op := Go.Op.call { callee := Go.Callee.value (Go.Operand.func 33), args := #[Go.Operand.tmp 17], argTypes := #[32] }, type := 9, pos := "ip.go:57", after := #[{ on := 3, ground := Go.Ground.data }], guard := none }) rfl (fun K hK => ?_) AllReadyH.nil
  go_simp
  refine (H16.out _).mono ?_
  rintro r v2 ⟨rfl, d2⟩
  have hb2 := after hb1 d2
  have hB2 := hB1.below d2 hB1.lt
  have hG2 := hG1.below d2 hG1.lt
  refine hK.out _ _ ⟨⟨hB2.cell 0, hB2.cell 1, hB2.cell 2, hB2.cell 3, hB2.cell 4, hB2.cell 5, hB2.cell 6, hB2.cell 7, hB2.cell 8⟩, hG2.cell 0, hG2.cell 1⟩ (fun hHeld => ?_)
  clear hK K
  try simp only [Act.put, List.setIfInBounds_toArray, List.set_cons_zero, List.set_cons_succ]
  refine' wpAnyH_take (i := 5) (oi := { dst := some 19, op := Go.Op.binOp Go.BinOp.add 9 (Go.Operand.const (Go.Value.string { data := #[96, 0, 0, 0] })) (Go.Operand.tmp 18) 9, type := 9, pos := "ip.go:57", after := #[{ on := 4, ground := Go.Ground.data }], guard := none }) (v := _) rfl (by kernel_rfl) (by kernel_rfl) (by kernel_rfl) (fun _ _ _ h => h) (Or.inl ⟨by rfl, ?hy38⟩) (by assumption) ?hrest38
  case hy38 =>
    intro w hSw
    try dsimp only at hSw
    go_simp
    try with_reducible rfl
  try simp only [Act.put, List.setIfInBounds_toArray, List.set_cons_zero, List.set_cons_succ]
  refine' wpAnyH_take (i := 12) (oi := { dst := some 26, op := Go.Op.binOp Go.BinOp.add 9 (Go.Operand.tmp 19) (Go.Operand.tmp 25) 9, type := 9, pos := "ip.go:57", after := #[{ on := 5, ground := Go.Ground.data }, { on := 11, ground := Go.Ground.data }], guard := none }) (v := _) rfl (by kernel_rfl) (by kernel_rfl) (by kernel_rfl) (fun _ _ _ h => h) (Or.inl ⟨by rfl, ?hy39⟩) (by assumption) ?hrest39
  case hy39 =>
    intro w hSw
    try dsimp only at hSw
    go_simp
    try with_reducible rfl
  try simp only [Act.put, List.setIfInBounds_toArray, List.set_cons_zero, List.set_cons_succ]
  refine wpAnyH_ready (rs := [15]) (by kernel_rfl) (by simp) ?_
  refine AllReadyH.cons (o := { dst := some 29, op := Go.Op.call { callee := Go.Callee.value (Go.Operand.func 34), args := #[Go.Operand.tmp 28], argTypes := #[24] }, type := 9, pos := "ip.go:57", after := #[{ on := 14, ground := Go.Ground.data }, { on := 4, ground := Go.Ground.chain }], guard := none }) rfl (fun K hK => ?_) AllReadyH.nil
  go_simp
  refine (Ha.out _).mono ?_
  rintro r v3 ⟨rfl, d3⟩
  have hb3 := after hb2 d3
  have hB3 := hB2.below d3 hB2.lt
  have hG3 := hG2.below d3 hG2.lt
  refine hK.out _ _ ⟨⟨hB3.cell 0, hB3.cell 1, hB3.cell 2, hB3.cell 3, hB3.cell 4, hB3.cell 5, hB3.cell 6, hB3.cell 7, hB3.cell 8⟩, hG3.cell 0, hG3.cell 1⟩ (fun hHeld => ?_)
  clear hK K
  try simp only [Act.put, List.setIfInBounds_toArray, List.set_cons_zero, List.set_cons_succ]
  refine' wpAnyH_take (i := 16) (oi := { dst := some 30, op := Go.Op.binOp Go.BinOp.add 9 (Go.Operand.tmp 26) (Go.Operand.tmp 29) 9, type := 9, pos := "ip.go:57", after := #[{ on := 12, ground := Go.Ground.data }, { on := 15, ground := Go.Ground.data }], guard := none }) (v := _) rfl (by kernel_rfl) (by kernel_rfl) (by kernel_rfl) (fun _ _ _ h => h) (Or.inl ⟨by rfl, ?hy40⟩) (by assumption) ?hrest40
  case hy40 =>
    intro w hSw
    try dsimp only at hSw
    go_simp
    try with_reducible rfl
  try simp only [Act.put, List.setIfInBounds_toArray, List.set_cons_zero, List.set_cons_succ]
  refine wpAnyH_ready (rs := [19]) (by kernel_rfl) (by simp) ?_
  refine AllReadyH.cons (o := { dst := some 33, op := Go.Op.call { callee := Go.Callee.value (Go.Operand.func 34), args := #[Go.Operand.tmp 32], argTypes := #[24] }, type := 9, pos := "ip.go:57", after := #[{ on := 18, ground := Go.Ground.data }, { on := 15, ground := Go.Ground.chain }], guard := none }) rfl (fun K hK => ?_) AllReadyH.nil
  go_simp
  refine (Hb.out _).mono ?_
  rintro r v4 ⟨rfl, d4⟩
  have hb4 := after hb3 d4
  have hB4 := hB3.below d4 hB3.lt
  have hG4 := hG3.below d4 hG3.lt
  refine hK.out _ _ ⟨⟨hB4.cell 0, hB4.cell 1, hB4.cell 2, hB4.cell 3, hB4.cell 4, hB4.cell 5, hB4.cell 6, hB4.cell 7, hB4.cell 8⟩, hG4.cell 0, hG4.cell 1⟩ (fun hHeld => ?_)
  clear hK K
  try simp only [Act.put, List.setIfInBounds_toArray, List.set_cons_zero, List.set_cons_succ]
  refine' wpAnyH_take (i := 20) (oi := { dst := some 34, op := Go.Op.binOp Go.BinOp.add 9 (Go.Operand.tmp 30) (Go.Operand.tmp 33) 9, type := 9, pos := "ip.go:57", after := #[{ on := 16, ground := Go.Ground.data }, { on := 19, ground := Go.Ground.data }], guard := none }) (v := _) rfl (by kernel_rfl) (by kernel_rfl) (by kernel_rfl) (fun _ _ _ h => h) (Or.inl ⟨by rfl, ?hy41⟩) (by assumption) ?hrest41
  case hy41 =>
    intro w hSw
    try dsimp only at hSw
    go_simp
    try with_reducible rfl
  try simp only [Act.put, List.setIfInBounds_toArray, List.set_cons_zero, List.set_cons_succ]
  refine' wpAnyH_take (i := 23) (oi := { dst := some 37, op := Go.Op.binOp Go.BinOp.add 9 (Go.Operand.tmp 34) (Go.Operand.tmp 36) 9, type := 9, pos := "ip.go:57", after := #[{ on := 20, ground := Go.Ground.data }, { on := 22, ground := Go.Ground.data }], guard := none }) (v := _) rfl (by kernel_rfl) (by kernel_rfl) (by kernel_rfl) (fun _ _ _ h => h) (Or.inl ⟨by rfl, ?hy42⟩) (by assumption) ?hrest42
  case hy42 =>
    intro w hSw
    try dsimp only at hSw
    go_simp
    try with_reducible rfl
  try simp only [Act.put, List.setIfInBounds_toArray, List.set_cons_zero, List.set_cons_succ]
  refine' wpAnyH_take (i := 24) (oi := { dst := some 2, op := Go.Op.assign (Go.Operand.tmp 37), type := 9, pos := "ip.go:57", after := #[{ on := 23, ground := Go.Ground.data }, { on := 19, ground := Go.Ground.chain }, { on := 0, ground := Go.Ground.phase }, { on := 1, ground := Go.Ground.phase }, { on := 2, ground := Go.Ground.phase }, { on := 3, ground := Go.Ground.phase }, { on := 4, ground := Go.Ground.phase }, { on := 5, ground := Go.Ground.phase }, { on := 6, ground := Go.Ground.phase }, { on := 7, ground := Go.Ground.phase }, { on := 8, ground := Go.Ground.phase }, { on := 9, ground := Go.Ground.phase }, { on := 10, ground := Go.Ground.phase }, { on := 11, ground := Go.Ground.phase }, { on := 12, ground := Go.Ground.phase }, { on := 13, ground := Go.Ground.phase }, { on := 14, ground := Go.Ground.phase }, { on := 15, ground := Go.Ground.phase }, { on := 16, ground := Go.Ground.phase }, { on := 17, ground := Go.Ground.phase }, { on := 18, ground := Go.Ground.phase }, { on := 19, ground := Go.Ground.phase }, { on := 20, ground := Go.Ground.phase }, { on := 21, ground := Go.Ground.phase }, { on := 22, ground := Go.Ground.phase }, { on := 23, ground := Go.Ground.phase }], guard := none }) (v := _) rfl (by kernel_rfl) (by kernel_rfl) (by kernel_rfl) (fun _ _ _ h => h) (Or.inl ⟨by rfl, ?hy43⟩) (by assumption) ?hrest43
  case hy43 =>
    intro w hSw
    try dsimp only at hSw
    go_simp
    try with_reducible rfl
  try simp only [Act.put, List.setIfInBounds_toArray, List.set_cons_zero, List.set_cons_succ]
  refine' wpAnyH_take (i := 25) (oi := { dst := some 3, op := Go.Op.assign (Go.Operand.const (Go.Value.int Go.IntKind.i64 0)), type := 28, pos := "ip.go:57", after := #[{ on := 24, ground := Go.Ground.chain }, { on := 0, ground := Go.Ground.phase }, { on := 1, ground := Go.Ground.phase }, { on := 2, ground := Go.Ground.phase }, { on := 3, ground := Go.Ground.phase }, { on := 4, ground := Go.Ground.phase }, { on := 5, ground := Go.Ground.phase }, { on := 6, ground := Go.Ground.phase }, { on := 7, ground := Go.Ground.phase }, { on := 8, ground := Go.Ground.phase }, { on := 9, ground := Go.Ground.phase }, { on := 10, ground := Go.Ground.phase }, { on := 11, ground := Go.Ground.phase }, { on := 12, ground := Go.Ground.phase }, { on := 13, ground := Go.Ground.phase }, { on := 14, ground := Go.Ground.phase }, { on := 15, ground := Go.Ground.phase }, { on := 16, ground := Go.Ground.phase }, { on := 17, ground := Go.Ground.phase }, { on := 18, ground := Go.Ground.phase }, { on := 19, ground := Go.Ground.phase }, { on := 20, ground := Go.Ground.phase }, { on := 21, ground := Go.Ground.phase }, { on := 22, ground := Go.Ground.phase }, { on := 23, ground := Go.Ground.phase }, { on := 24, ground := Go.Ground.phase }], guard := none }) (v := _) rfl (by kernel_rfl) (by kernel_rfl) (by kernel_rfl) (fun _ _ _ h => h) (Or.inl ⟨by rfl, ?hy44⟩) (by assumption) ?hrest44
  case hy44 =>
    intro w hSw
    try dsimp only at hSw
    go_simp
    try with_reducible rfl
  try simp only [Act.put, List.setIfInBounds_toArray, List.set_cons_zero, List.set_cons_succ]
  refine wpAnyH_done (by kernel_rfl) ?_ _
  go_wp2_with fail
  go_ret2
  exact ⟨rfl, hb4⟩
end Go.Proofs.YtomndcjgdfhmbaaGreatDoor
