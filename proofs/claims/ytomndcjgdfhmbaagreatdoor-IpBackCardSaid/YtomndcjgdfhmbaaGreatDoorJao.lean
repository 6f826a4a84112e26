/- Joined out of: IpM IpX. -/
import Derived.Test.YtomndcjgdfhmbaaGreatDoorJag
import Derived.Test.YtomndcjgdfhmbaaGreatDoorJan
import Derived.Deep.CutBlock
import Derived.ScopeJumps
import Derived.WalkMore
set_option linter.unusedVariables false
set_option linter.unusedSimpArgs false

/- Decode of IPv4: the walk. (Printed by ip_four.py.) -/
namespace Go.Proofs.YtomndcjgdfhmbaaGreatDoor
open Go.RowKit
attribute [local go_sem ↓] Go.wp_at_zero Go.wp_at_succ

theorem Take2_st {W w : World} {r b k : Nat} {s : ByteArray} {Z : Array Value} {T : TypeId} (h : St W r b s k Z T w) (hr : r ≠ b) (hB : W.heap.size ≤ b) (hs : s.size ≤ 1000000) (hk : k + 2 ≤ s.size) : Calls Tryz.prog 63 #[.pointer (some ⟨b, 0, none⟩), .int .i64 2] w fun e w' => e = .returned (.string (s.extract k (k + 2))) ∧ St W r b s (k + 2) Z T w' := Take_st h hr hB hs 2 (by omega) hk
theorem Take2_sh {W w : World} {r b k : Nat} {s : ByteArray} {Z : Array Value} {T : TypeId} (h : Sh W r b s k Z T w) (hr : r ≠ b) (hB : W.heap.size ≤ b) : Calls Tryz.prog 63 #[.pointer (some ⟨b, 0, none⟩), .int .i64 2] w fun e w' => (∃ t, e = .returned (.string t)) ∧ Sh W r b s (k + 2) Z T w' := Take_sh h hr hB 2 (by omega)

set_option maxHeartbeats 4000000 in
set_option maxRecDepth 100000 in
theorem four_short (s : ByteArray) (hs : s.size < 20) (w : World) : Calls Tryz.prog 39 #[.string s] w (Got (Res 7 Pk.zero) w) := by
  have hZ := Blk.new w 26 #[.bool false, .int .u64 0, .int .u64 0, .bool false, .int .u64 0, .int .u64 0, .int .u8 0, .int .u8 0, .string ⟨#[]⟩]
  have hz := boxed w (.cells #[.bool false, .int .u64 0, .int .u64 0, .bool false, .int .u64 0, .int .u64 0, .int .u8 0, .int .u8 0, .string ⟨#[]⟩] 26)
  go_enter Tryz.func39, Tryz.ntmps39
  go_wp2_with fail
  generalize hv : w.alloc (.cells #[.bool false, .int .u64 0, .int .u64 0, .bool false, .int .u64 0, .int .u64 0, .int .u8 0, .int .u8 0, .string ⟨#[]⟩] 26) = v at hZ hz ⊢
  have hvs : v.heap.size = w.heap.size + 1 := by rw [← hv]; simp
  clear hv
  go_at_call 62
  refine (new_any s v).mono ?_
  rintro r w1 ⟨rfl, hR, hN⟩
  generalize hb : v.heap.size = b at hR ⊢
  have hbb : w.heap.size ≤ b := by omega
  have hne : w.heap.size ≠ b := by omega
  have k0 : Sh w w.heap.size b s 0 #[.bool false, .int .u64 0, .int .u64 0, .bool false, .int .u64 0, .int .u64 0, .int .u8 0, .int .u8 0, .string ⟨#[]⟩] 26 w1 := ⟨⟨s, 0, hR, by omega, Or.inr ⟨rfl, by omega⟩⟩, hZ.below hN hZ.lt, after hz hN⟩
  have h0 := Lib.hid k0
  clear k0 hR hN hZ hz hb hvs
  go_wp2_with (first
    | (go_at_call 63; (with_reducible refine (Take2_sh h0.out hne hbb).mono ?_); rintro r w2 ⟨⟨y1, rfl⟩, g1⟩; have h1 := Lib.hid g1; clear g1)
    | (go_at_call 64; (with_reducible refine (U16_sh h1.out hne hbb).mono ?_); rintro r w3 ⟨⟨y2, rfl⟩, g2⟩; have h2 := Lib.hid g2; clear g2)
    | (go_at_call 64; (with_reducible refine (U16_sh h2.out hne hbb).mono ?_); rintro r w4 ⟨⟨y3, rfl⟩, g3⟩; have h3 := Lib.hid g3; clear g3)
    | (go_at_call 64; (with_reducible refine (U16_sh h3.out hne hbb).mono ?_); rintro r w5 ⟨⟨y4, rfl⟩, g4⟩; have h4 := Lib.hid g4; clear g4)
    | (go_at_call 65; (with_reducible refine (U8_sh h4.out hne hbb).mono ?_); rintro r w6 ⟨⟨y5, rfl⟩, g5⟩; have h5 := Lib.hid g5; clear g5)
    | (go_at_call 65; (with_reducible refine (U8_sh h5.out hne hbb).mono ?_); rintro r w7 ⟨⟨y6, rfl⟩, g6⟩; have h6 := Lib.hid g6; clear g6)
    | (go_at_call 64; (with_reducible refine (U16_sh h6.out hne hbb).mono ?_); rintro r w8 ⟨⟨y7, rfl⟩, g7⟩; have h7 := Lib.hid g7; clear g7)
    | (go_at_call 66; (with_reducible refine (U32_sh h7.out hne hbb).mono ?_); rintro r w9 ⟨⟨y8, rfl⟩, g8⟩; have h8 := Lib.hid g8; clear g8)
    | (go_at_call 66; (with_reducible refine (U32_sh h8.out hne hbb).mono ?_); rintro r w10 ⟨⟨y9, rfl⟩, g9⟩; have h9 := Lib.hid g9; clear g9))
  have c0 := h9.out.blk.cell 0
  have c1 := h9.out.blk.cell 1
  have c2 := h9.out.blk.cell 2
  have c3 := h9.out.blk.cell 3
  have c4 := h9.out.blk.cell 4
  have c5 := h9.out.blk.cell 5
  have c6 := h9.out.blk.cell 6
  have c7 := h9.out.blk.cell 7
  have c8 := h9.out.blk.cell 8
  have fr := fun i => h9.out.blk.frozen i
  simp at c0 c1 c2 c3 c4 c5 c6 c7 c8
  go_wp2_with (go_at_call 67; refine (Fault_sh h9.out (by omega)).mono ?_; rintro r wf ⟨rfl, rfl⟩)
  exact ret_pk rfl h9.out.blk h9.out.bel (Nat.le_refl _) rfl rfl rfl

set_option maxHeartbeats 4000000 in
set_option maxRecDepth 100000 in
theorem four_long (s : ByteArray) (h20 : 20 ≤ s.size) (hs : s.size ≤ 1000000) (w : World) : Calls Tryz.prog 39 #[.string s] w (Got (Res (fourA s) (fourP s)) w) := by
  obtain ⟨EA, hEA⟩ : ∃ e, e = fourA s := ⟨_, rfl⟩
  obtain ⟨PA, hPA⟩ : ∃ p, p = fourP s := ⟨_, rfl⟩
  rw [← hEA, ← hPA]
  have HEA := Lib.hid hEA
  have HPA := Lib.hid hPA
  clear hEA hPA
  have hZ := Blk.new w 26 #[.bool false, .int .u64 0, .int .u64 0, .bool false, .int .u64 0, .int .u64 0, .int .u8 0, .int .u8 0, .string ⟨#[]⟩]
  have hz := boxed w (.cells #[.bool false, .int .u64 0, .int .u64 0, .bool false, .int .u64 0, .int .u64 0, .int .u8 0, .int .u8 0, .string ⟨#[]⟩] 26)
  go_enter Tryz.func39, Tryz.ntmps39
  go_wp2_with fail
  generalize hv : w.alloc (.cells #[.bool false, .int .u64 0, .int .u64 0, .bool false, .int .u64 0, .int .u64 0, .int .u8 0, .int .u8 0, .string ⟨#[]⟩] 26) = v at hZ hz ⊢
  have hvs : v.heap.size = w.heap.size + 1 := by rw [← hv]; simp
  clear hv
  go_at_call 62
  refine (new_any s v).mono ?_
  rintro r w1 ⟨rfl, hR, hN⟩
  generalize hb : v.heap.size = b at hR ⊢
  have hbb : w.heap.size ≤ b := by omega
  have hne : w.heap.size ≠ b := by omega
  have k0 : St w w.heap.size b s 0 #[.bool false, .int .u64 0, .int .u64 0, .bool false, .int .u64 0, .int .u64 0, .int .u8 0, .int .u8 0, .string ⟨#[]⟩] 26 w1 := ⟨by rw [extract_all]; exact hR, hZ.below hN hZ.lt, after hz hN⟩
  have h0 := Lib.hid k0
  clear k0 hR hN hZ hz hb hvs
  go_wp2_with (first
    | (go_at_call 63; (with_reducible refine (Take2_st h0.out hne hbb (by omega) (by omega)).mono ?_); rintro r w2 ⟨rfl, g1⟩; have h1 := Lib.hid g1; clear g1)
    | (go_at_call 64; (with_reducible refine (U16_st h1.out hne hbb (by omega) (by omega)).mono ?_); rintro r w3 ⟨rfl, g2⟩; have h2 := Lib.hid g2; clear g2)
    | (go_at_call 64; (with_reducible refine (U16_st h2.out hne hbb (by omega) (by omega)).mono ?_); rintro r w4 ⟨rfl, g3⟩; have h3 := Lib.hid g3; clear g3)
    | (go_at_call 64; (with_reducible refine (U16_st h3.out hne hbb (by omega) (by omega)).mono ?_); rintro r w5 ⟨rfl, g4⟩; have h4 := Lib.hid g4; clear g4)
    | (go_at_call 65; (with_reducible refine (U8_st h4.out hne hbb (by omega) (by omega)).mono ?_); rintro r w6 ⟨rfl, g5⟩; have h5 := Lib.hid g5; clear g5)
    | (go_at_call 65; (with_reducible refine (U8_st h5.out hne hbb (by omega) (by omega)).mono ?_); rintro r w7 ⟨rfl, g6⟩; have h6 := Lib.hid g6; clear g6)
    | (go_at_call 64; (with_reducible refine (U16_st h6.out hne hbb (by omega) (by omega)).mono ?_); rintro r w8 ⟨rfl, g7⟩; have h7 := Lib.hid g7; clear g7)
    | (go_at_call 66; (with_reducible refine (U32_st h7.out hne hbb (by omega) (by omega)).mono ?_); rintro r w9 ⟨rfl, g8⟩; have h8 := Lib.hid g8; clear g8)
    | (go_at_call 66; (with_reducible refine (U32_st h8.out hne hbb (by omega) (by omega)).mono ?_); rintro r w10 ⟨rfl, g9⟩; have h9 := Lib.hid g9; clear g9))
  try simp only [Nat.zero_add, Nat.reduceAdd]
  clear h0 h1 h2 h3 h4 h5 h6 h7 h8
  obtain ⟨t2, ht2⟩ : ∃ t2, s.extract 0 2 = t2 := ⟨_, rfl⟩
  have hp0 : 0 < t2.size := by rw [← ht2, bsize_extract]; omega
  have hx0 : (t2[0]'hp0).toNat = valB (s.extract 0 1) := by
    subst ht2
    rw [byte_at s 0 (by omega)]
    simp [ByteArray.getElem_extract]
    rfl
  rw [ht2]
  clear ht2
  have hv2 := valB_two s 2 4 rfl
  have hv6 := valB_two s 6 8 rfl
  have ha6 := andNot16 _ hv6
  have hv12 : valB (s.extract 12 16) < 4294967296 := Nat.lt_of_lt_of_le (valB_lt _) (Nat.pow_le_pow_right (n := 256) (by decide) (show _ ≤ 4 by rw [bsize_extract]; omega))
  have hv16 : valB (s.extract 16 20) < 4294967296 := Nat.lt_of_lt_of_le (valB_lt _) (Nat.pow_le_pow_right (n := 256) (by decide) (show _ ≤ 4 by rw [bsize_extract]; omega))
  have Hsum := Lib.hid (sum_any (s.extract 0 20) (by rw [bsize_extract]; omega))
  have HA : Hid (EA = if valB (s.extract 0 1) ≠ 69 then 133 else if valB (s.extract 2 4) ≠ s.size then 8 else if sumB (s.extract 0 20) ≠ 0 then 131 else if valB (s.extract 6 8) &&& 49151 ≠ 0 then 132 else 0) := Lib.hid (HEA.out.trans rfl)
  have HP : Hid (PA = ⟨⟨false, 0, valB (s.extract 12 16)⟩, ⟨false, 0, valB (s.extract 16 20)⟩, valB (s.extract 9 10), valB (s.extract 8 9), s.extract 20 s.size⟩) := Lib.hid (HPA.out.trans rfl)
  have hlen : (20 : Int) ≤ (s.size : Int) := by omega
  clear HPA HEA
  generalize valB (s.extract 0 1) = X0 at hx0 HA
  generalize sumB (s.extract 0 20) = SM at Hsum HA
  generalize valB (s.extract 6 8) &&& 49151 = V6 at ha6 HA
  generalize valB (s.extract 6 8) = W6 at ha6 hv6 ⊢
  generalize valB (s.extract 2 4) = V2 at hv2 HA ⊢
  generalize valB (s.extract 12 16) = V12 at HP hv12 ⊢
  generalize valB (s.extract 16 20) = V16 at HP hv16 ⊢
  generalize valB (s.extract 9 10) = V9 at HP ⊢
  generalize valB (s.extract 8 9) = V8 at HP ⊢
  generalize valB (s.extract 4 6) = V4
  generalize valB (s.extract 10 12) = V10
  have hB9 := h9.out.blk
  have c0 := hB9.cell 0
  have c1 := hB9.cell 1
  have c2 := hB9.cell 2
  have c3 := hB9.cell 3
  have c4 := hB9.cell 4
  have c5 := hB9.cell 5
  have c6 := hB9.cell 6
  have c7 := hB9.cell 7
  have c8 := hB9.cell 8
  have fr := fun i => hB9.frozen i
  simp at c0 c1 c2 c3 c4 c5 c6 c7 c8
  have HB9 := Lib.hid hB9
  clear hB9
  go_wp2_with (first
    | (go_at_call 67; refine (Fault_st h9.out).mono ?_; rintro r wf ⟨rfl, rfl⟩)
    | (go_at_call 14; (with_reducible refine (Hsum.out _).mono ?_); rintro r w11 ⟨rfl, d11⟩; have hB11 := HB9.out.below d11 HB9.out.lt; have hb11 := Lib.hid (after h9.out.bel d11); have e0 := hB11.cell 0; have e1 := hB11.cell 1; have e2 := hB11.cell 2; have e3 := hB11.cell 3; have e4 := hB11.cell 4; have e5 := hB11.cell 5; have e6 := hB11.cell 6; have e7 := hB11.cell 7; have e8 := hB11.cell 8; simp at e0 e1 e2 e3 e4 e5 e6 e7 e8; have fr11 := fun i => hB11.frozen i; have HB11 := Lib.hid hB11; clear hB11 d11 c0 c1 c2 c3 c4 c5 c6 c7 c8 fr))
  · have t1 : (((X0 : Nat) : Int) != 69) = true := by with_reducible assumption
    have e : EA = 133 := by rw [HA.out, if_pos (by simp at t1; omega)]
    rw [e]
    exact ret_pk (g := w.heap.size) (x := 2) (y := 3) (e := 133) rfl HB9.out h9.out.bel (Nat.le_refl _) rfl rfl rfl
  · have t1 : (((X0 : Nat) : Int) != 69) = false := by with_reducible assumption
    have t2 : (((V2 : Nat) : Int) != (s.size : Int)) = true := by with_reducible assumption
    have e : EA = 8 := by rw [HA.out, if_neg (by simp at t1; omega), if_pos (by simp at t2; omega)]
    rw [e]
    exact ret_pk (g := w.heap.size) (x := 2) (y := 3) (e := 8) rfl HB9.out h9.out.bel (Nat.le_refl _) rfl rfl rfl
  · have t1 : (((X0 : Nat) : Int) != 69) = false := by with_reducible assumption
    have t2 : (((V2 : Nat) : Int) != (s.size : Int)) = false := by with_reducible assumption
    have t3 : (((SM : Nat) : Int) != 0) = true := by with_reducible assumption
    have e : EA = 131 := by rw [HA.out, if_neg (by simp at t1; omega), if_neg (by simp at t2; omega), if_pos (by simp at t3; omega)]
    rw [e]
    exact ret_pk (g := w.heap.size) (x := 2) (y := 3) (e := 131) rfl HB11.out hb11.out (Nat.le_refl _) rfl rfl rfl
  · have t1 : (((X0 : Nat) : Int) != 69) = false := by with_reducible assumption
    have t2 : (((V2 : Nat) : Int) != (s.size : Int)) = false := by with_reducible assumption
    have t3 : (((SM : Nat) : Int) != 0) = false := by with_reducible assumption
    have t4 : (((V6 : Nat) : Int) != 0) = true := by with_reducible assumption
    have e : EA = 132 := by rw [HA.out, if_neg (by simp at t1; omega), if_neg (by simp at t2; omega), if_neg (by simp at t3; omega), if_pos (by simp at t4; omega)]
    rw [e]
    exact ret_pk (g := w.heap.size) (x := 2) (y := 3) (e := 132) rfl HB11.out hb11.out (Nat.le_refl _) rfl rfl rfl
  · have t1 : (((X0 : Nat) : Int) != 69) = false := by with_reducible assumption
    have t2 : (((V2 : Nat) : Int) != (s.size : Int)) = false := by with_reducible assumption
    have t3 : (((SM : Nat) : Int) != 0) = false := by with_reducible assumption
    have t4 : (((V6 : Nat) : Int) != 0) = false := by with_reducible assumption
    have e : EA = 0 := by rw [HA.out, if_neg (by simp at t1; omega), if_neg (by simp at t2; omega), if_neg (by simp at t3; omega), if_neg (by simp at t4; omega)]
    rw [e, HP.out]
    exact ret_pk (g := w.heap.size) (x := 2) (y := 3) (e := 0) rfl HB11.out hb11.out (Nat.le_refl _) rfl rfl rfl

end Go.Proofs.YtomndcjgdfhmbaaGreatDoor

/- Decode, whole. (Printed by ip_dec.py.) -/
namespace Go.Proofs.YtomndcjgdfhmbaaGreatDoor
open Go.RowKit
attribute [local go_sem ↓] Go.wp_at_zero Go.wp_at_succ

theorem rfourA_eq {s : ByteArray} (h : valB (s.extract 0 1) / 16 = 4) : rfourA s = fourA s := by
  unfold rfourA fourA
  by_cases e : valB (s.extract 0 1) = 69
  · rw [if_neg (by omega), if_neg (by omega)]
  · rw [if_pos (by omega), if_pos (by omega)]
theorem four_any (s : ByteArray) (h4 : valB (s.extract 0 1) / 16 = 4) (hs : s.size ≤ 65536) (w : World) : Calls Tryz.prog 39 #[.string s] w (Got (Res (rfourE s) (fourP s)) w) := by
  unfold rfourE
  split
  · next h => rw [Res_ne (by decide) _ Pk.zero]; exact four_short s h w
  · next h => rw [rfourA_eq h4]; exact four_long s (by omega) (by omega) w
theorem six_any (s : ByteArray) (hs : s.size ≤ 65536) (w : World) : Calls Tryz.prog 40 #[.string s] w (Got (Res (rsixE s) (sixP s)) w) := by
  unfold rsixE
  split
  · next h => rw [Res_ne (by decide) _ Pk.zero]; exact six_short s h w
  · next h => exact six_long s (by omega) hs w
/- Nine stores, one behind the other. -/
theorem nine {w : World} {g : Nat} {z0 z1 z2 z3 z4 z5 z6 z7 z8 v0 v1 v2 v3 v4 v5 v6 v7 v8 : Value} {W : World} (hB : Blk w g 26 #[z0, z1, z2, z3, z4, z5, z6, z7, z8]) (hb : Below W.heap.size W w) (hg : W.heap.size ≤ g) :
    Blk (((((((((w.setCell ⟨g, 0, none⟩ v0).setCell ⟨g, 1, none⟩ v1).setCell ⟨g, 2, none⟩ v2).setCell ⟨g, 3, none⟩ v3).setCell ⟨g, 4, none⟩ v4).setCell ⟨g, 5, none⟩ v5).setCell ⟨g, 6, none⟩ v6).setCell ⟨g, 7, none⟩ v7).setCell ⟨g, 8, none⟩ v8) g 26 #[v0, v1, v2, v3, v4, v5, v6, v7, v8]
    ∧ Below W.heap.size W (((((((((w.setCell ⟨g, 0, none⟩ v0).setCell ⟨g, 1, none⟩ v1).setCell ⟨g, 2, none⟩ v2).setCell ⟨g, 3, none⟩ v3).setCell ⟨g, 4, none⟩ v4).setCell ⟨g, 5, none⟩ v5).setCell ⟨g, 6, none⟩ v6).setCell ⟨g, 7, none⟩ v7).setCell ⟨g, 8, none⟩ v8) := by
  have s0 : Blk (w.setCell ⟨g, 0, none⟩ v0) g 26 #[v0, z1, z2, z3, z4, z5, z6, z7, z8] := hB.set_ 0 v0
  have s1 : Blk ((w.setCell ⟨g, 0, none⟩ v0).setCell ⟨g, 1, none⟩ v1) g 26 #[v0, v1, z2, z3, z4, z5, z6, z7, z8] := s0.set_ 1 v1
  have s2 : Blk (((w.setCell ⟨g, 0, none⟩ v0).setCell ⟨g, 1, none⟩ v1).setCell ⟨g, 2, none⟩ v2) g 26 #[v0, v1, v2, z3, z4, z5, z6, z7, z8] := s1.set_ 2 v2
  have s3 : Blk ((((w.setCell ⟨g, 0, none⟩ v0).setCell ⟨g, 1, none⟩ v1).setCell ⟨g, 2, none⟩ v2).setCell ⟨g, 3, none⟩ v3) g 26 #[v0, v1, v2, v3, z4, z5, z6, z7, z8] := s2.set_ 3 v3
  have s4 : Blk (((((w.setCell ⟨g, 0, none⟩ v0).setCell ⟨g, 1, none⟩ v1).setCell ⟨g, 2, none⟩ v2).setCell ⟨g, 3, none⟩ v3).setCell ⟨g, 4, none⟩ v4) g 26 #[v0, v1, v2, v3, v4, z5, z6, z7, z8] := s3.set_ 4 v4
  have s5 : Blk ((((((w.setCell ⟨g, 0, none⟩ v0).setCell ⟨g, 1, none⟩ v1).setCell ⟨g, 2, none⟩ v2).setCell ⟨g, 3, none⟩ v3).setCell ⟨g, 4, none⟩ v4).setCell ⟨g, 5, none⟩ v5) g 26 #[v0, v1, v2, v3, v4, v5, z6, z7, z8] := s4.set_ 5 v5
  have s6 : Blk (((((((w.setCell ⟨g, 0, none⟩ v0).setCell ⟨g, 1, none⟩ v1).setCell ⟨g, 2, none⟩ v2).setCell ⟨g, 3, none⟩ v3).setCell ⟨g, 4, none⟩ v4).setCell ⟨g, 5, none⟩ v5).setCell ⟨g, 6, none⟩ v6) g 26 #[v0, v1, v2, v3, v4, v5, v6, z7, z8] := s5.set_ 6 v6
  have s7 : Blk ((((((((w.setCell ⟨g, 0, none⟩ v0).setCell ⟨g, 1, none⟩ v1).setCell ⟨g, 2, none⟩ v2).setCell ⟨g, 3, none⟩ v3).setCell ⟨g, 4, none⟩ v4).setCell ⟨g, 5, none⟩ v5).setCell ⟨g, 6, none⟩ v6).setCell ⟨g, 7, none⟩ v7) g 26 #[v0, v1, v2, v3, v4, v5, v6, v7, z8] := s6.set_ 7 v7
  have s8 : Blk (((((((((w.setCell ⟨g, 0, none⟩ v0).setCell ⟨g, 1, none⟩ v1).setCell ⟨g, 2, none⟩ v2).setCell ⟨g, 3, none⟩ v3).setCell ⟨g, 4, none⟩ v4).setCell ⟨g, 5, none⟩ v5).setCell ⟨g, 6, none⟩ v6).setCell ⟨g, 7, none⟩ v7).setCell ⟨g, 8, none⟩ v8) g 26 #[v0, v1, v2, v3, v4, v5, v6, v7, v8] := s7.set_ 8 v8
  exact ⟨s8, (((((((((hb.setCell (p := ⟨g, 0, none⟩) hg v0).setCell (p := ⟨g, 1, none⟩) hg v1).setCell (p := ⟨g, 2, none⟩) hg v2).setCell (p := ⟨g, 3, none⟩) hg v3).setCell (p := ⟨g, 4, none⟩) hg v4).setCell (p := ⟨g, 5, none⟩) hg v5).setCell (p := ⟨g, 6, none⟩) hg v6).setCell (p := ⟨g, 7, none⟩) hg v7).setCell (p := ⟨g, 8, none⟩) hg v8)⟩
theorem Res_bad {E : Nat} (h : E ≠ 0) (P : Pk) : Res E P = .tuple #[.agg #[.bool false, .int .u64 0, .int .u64 0, .bool false, .int .u64 0, .int .u64 0, .int .u8 0, .int .u8 0, .string ⟨#[]⟩], .int .i64 (E : Int)] := by
  unfold Res
  rw [if_neg h]
  rfl

/- What holds where the run jumps to 'wrong'. -/
def Jmp (g e : Nat) (w0 : World) (a' : Act) (w' : World) : Prop := w' = w0 ∧ ∃ u0 u1 u4 u5 u6 u7 u8 u9 u10 u11 u12 u13 u14 u15 u16 u17 u18 u19 u20 u21 u22 u23 u24 u25 u26 u27 u28 u29 u30 u31 : Value, a' = { tmps := #[u0, u1, .pointer (some ⟨g, 0, none⟩), .int .i64 (e : Int), u4, u5, u6, u7, u8, u9, u10, u11, u12, u13, u14, u15, u16, u17, u18, u19, u20, u21, u22, u23, u24, u25, u26, u27, u28, u29, u30, u31], defers := [] }
set_option maxHeartbeats 2000000 in
set_option maxRecDepth 100000 in
theorem decode_any (s : ByteArray) (hs : s.size ≤ 65536) (w : World) : Calls Tryz.prog 16 #[.string s] w (Got (Res (decE s) (decP s)) w) := by
  have hZ := Blk.new w 26 #[.bool false, .int .u64 0, .int .u64 0, .bool false, .int .u64 0, .int .u64 0, .int .u8 0, .int .u8 0, .string ⟨#[]⟩]
  have hz := boxed w (.cells #[.bool false, .int .u64 0, .int .u64 0, .bool false, .int .u64 0, .int .u64 0, .int .u8 0, .int .u8 0, .string ⟨#[]⟩] 26)
  by_cases hl : 1500 < s.size
  · rw [show decE s = 4 by unfold decE; rw [if_pos hl], Res_ne (by decide) _ Pk.zero]
    go_enter Tryz.func16, Tryz.ntmps16
    go_wp2_with fail
    refine wp_scope_jumps 0 (Jmp w.heap.size 4 (w.alloc (.cells #[.bool false, .int .u64 0, .int .u64 0, .bool false, .int .u64 0, .int .u64 0, .int .u8 0, .int .u8 0, .string ⟨#[]⟩] 26))) (fun _ _ => 0) rfl ?_ ?_
    · go_wp2_with fail
      go_step3
      exact ⟨rfl, rfl, _, _, _, _, _, _, _, _, _, _, _, _, _, _, _, _, _, _, _, _, _, _, _, _, _, _, _, _, _, _, rfl⟩
    · rintro a' w' ⟨rfl, u0, u1, u4, u5, u6, u7, u8, u9, u10, u11, u12, u13, u14, u15, u16, u17, u18, u19, u20, u21, u22, u23, u24, u25, u26, u27, u28, u29, u30, u31, rfl⟩
      go_wp2_with fail
      simp only [Exit.jump]
      exact bodyPost_ret (results_ct rfl rfl rfl (load_pk (Blk.new _ _ _))) rfl ⟨rfl, boxed _ _⟩
  by_cases hz0 : s.size = 0
  · have he : s = ByteArray.empty := by
      apply ByteArray.ext
      exact Array.eq_empty_of_size_eq_zero hz0
    rw [show decE s = 7 by unfold decE; rw [if_neg hl, if_pos hz0], Res_ne (by decide) _ Pk.zero, he]
    go_enter Tryz.func16, Tryz.ntmps16
    go_wp2_with fail
    refine wp_scope_jumps 0 (Jmp w.heap.size 7 (w.alloc (.cells #[.bool false, .int .u64 0, .int .u64 0, .bool false, .int .u64 0, .int .u64 0, .int .u8 0, .int .u8 0, .string ⟨#[]⟩] 26))) (fun _ _ => 0) rfl ?_ ?_
    · go_wp2_with fail
      go_step3
      exact ⟨rfl, rfl, _, _, _, _, _, _, _, _, _, _, _, _, _, _, _, _, _, _, _, _, _, _, _, _, _, _, _, _, _, _, rfl⟩
    · rintro a' w' ⟨rfl, u0, u1, u4, u5, u6, u7, u8, u9, u10, u11, u12, u13, u14, u15, u16, u17, u18, u19, u20, u21, u22, u23, u24, u25, u26, u27, u28, u29, u30, u31, rfl⟩
      go_wp2_with fail
      simp only [Exit.jump]
      exact bodyPost_ret (results_ct rfl rfl rfl (load_pk (Blk.new _ _ _))) rfl ⟨rfl, boxed _ _⟩
  have h0 : 0 < s.size := by omega
  have hx0 : (s[0]'h0).toNat = valB (s.extract 0 1) := (byte_at s 0 h0).symm
  have hemp : s.toList.isEmpty = false := by
    rw [← decide_eq_emptyBytes]
    exact decide_eq_false (fun h => hz0 (by rw [h]; rfl))
  by_cases h4 : valB (s.extract 0 1) / 16 = 4
  · rw [show decE s = rfourE s by unfold decE; rw [if_neg hl, if_neg hz0, if_pos h4], show decP s = fourP s by unfold decP; rw [if_pos h4]]
    have H := Lib.hid (four_any s h4 hs)
    obtain ⟨v1, v2, a1, a2, a3, a4, a5, a6, dt, e⟩ := Res_cells (rfourE s) (fourP s)
    have HE := Lib.hid (fun h => Res_bad (E := rfourE s) h (fourP s))
    rw [e] at H HE ⊢
    generalize rfourE s = E at *
    generalize valB (s.extract 0 1) = X0 at hx0 h4 
    have hq : ((X0 : Int) / 16 == 4) = true := by simp; omega
    clear h4  e
    by_cases hE : E = 0
    · subst hE
      clear HE
      go_enter Tryz.func16, Tryz.ntmps16
      go_wp2_with fail
      go_step3
      go_upto_region 11 with (go_at_call 39; (with_reducible refine (H.out _).mono ?_); rintro r w1 ⟨rfl, d1⟩; have hB1 := hZ.below d1 hZ.lt; have hb1 := after hz d1; have fr := (fun i => hB1.frozen i); have c0 := hB1.cell 0; have c1 := hB1.cell 1; have c2 := hB1.cell 2; have c3 := hB1.cell 3; have c4 := hB1.cell 4; have c5 := hB1.cell 5; have c6 := hB1.cell 6; have c7 := hB1.cell 7; have c8 := hB1.cell 8; simp at c0 c1 c2 c3 c4 c5 c6 c7 c8)
      obtain ⟨hB2, hb2⟩ := nine (v0 := .bool v1) (v1 := .int .u64 (a1 : Int)) (v2 := .int .u64 (a2 : Int)) (v3 := .bool v2) (v4 := .int .u64 (a3 : Int)) (v5 := .int .u64 (a4 : Int)) (v6 := .int .u8 (a5 : Int)) (v7 := .int .u8 (a6 : Int)) (v8 := .string dt) hB1 hb1 (Nat.le_refl _)
      generalize (((((((((w1.setCell ⟨w.heap.size, 0, none⟩ (.bool v1)).setCell ⟨w.heap.size, 1, none⟩ (.int .u64 (a1 : Int))).setCell ⟨w.heap.size, 2, none⟩ (.int .u64 (a2 : Int))).setCell ⟨w.heap.size, 3, none⟩ (.bool v2)).setCell ⟨w.heap.size, 4, none⟩ (.int .u64 (a3 : Int))).setCell ⟨w.heap.size, 5, none⟩ (.int .u64 (a4 : Int))).setCell ⟨w.heap.size, 6, none⟩ (.int .u8 (a5 : Int))).setCell ⟨w.heap.size, 7, none⟩ (.int .u8 (a6 : Int))).setCell ⟨w.heap.size, 8, none⟩ (.string dt)) = w2 at hB2 hb2 ⊢
      clear c0 c1 c2 c3 c4 c5 c6 c7 c8 fr
      have fr := (fun i => hB2.frozen i)
      have c0 := hB2.cell 0
      have c1 := hB2.cell 1
      have c2 := hB2.cell 2
      have c3 := hB2.cell 3
      have c4 := hB2.cell 4
      have c5 := hB2.cell 5
      have c6 := hB2.cell 6
      have c7 := hB2.cell 7
      have c8 := hB2.cell 8
      simp at c0 c1 c2 c3 c4 c5 c6 c7 c8
      go_wp2_with fail
      try rw [Exit.noGoto_ret]
      exact ret_pk (g := w.heap.size) (x := 2) (y := 3) (e := 0) rfl hB2 hb2 (Nat.le_refl _) rfl rfl rfl
    · rw [HE.out hE]
      have hE1 : ((E : Int) == 0) = false := by simp; omega
      have hE2 : ¬ (E : Int) = 0 := by omega
      clear HE
      go_enter Tryz.func16, Tryz.ntmps16
      go_wp2_with fail
      go_step3
      go_upto_region 11 with (go_at_call 39; (with_reducible refine (H.out _).mono ?_); rintro r w1 ⟨rfl, d1⟩; have hB1 := hZ.below d1 hZ.lt; have hb1 := after hz d1; have fr := (fun i => hB1.frozen i); have c0 := hB1.cell 0; have c1 := hB1.cell 1; have c2 := hB1.cell 2; have c3 := hB1.cell 3; have c4 := hB1.cell 4; have c5 := hB1.cell 5; have c6 := hB1.cell 6; have c7 := hB1.cell 7; have c8 := hB1.cell 8; simp at c0 c1 c2 c3 c4 c5 c6 c7 c8)
      obtain ⟨hB2, hb2⟩ := nine (v0 := .bool v1) (v1 := .int .u64 (a1 : Int)) (v2 := .int .u64 (a2 : Int)) (v3 := .bool v2) (v4 := .int .u64 (a3 : Int)) (v5 := .int .u64 (a4 : Int)) (v6 := .int .u8 (a5 : Int)) (v7 := .int .u8 (a6 : Int)) (v8 := .string dt) hB1 hb1 (Nat.le_refl _)
      generalize (((((((((w1.setCell ⟨w.heap.size, 0, none⟩ (.bool v1)).setCell ⟨w.heap.size, 1, none⟩ (.int .u64 (a1 : Int))).setCell ⟨w.heap.size, 2, none⟩ (.int .u64 (a2 : Int))).setCell ⟨w.heap.size, 3, none⟩ (.bool v2)).setCell ⟨w.heap.size, 4, none⟩ (.int .u64 (a3 : Int))).setCell ⟨w.heap.size, 5, none⟩ (.int .u64 (a4 : Int))).setCell ⟨w.heap.size, 6, none⟩ (.int .u8 (a5 : Int))).setCell ⟨w.heap.size, 7, none⟩ (.int .u8 (a6 : Int))).setCell ⟨w.heap.size, 8, none⟩ (.string dt)) = w2 at hB2 hb2 ⊢
      clear c0 c1 c2 c3 c4 c5 c6 c7 c8 fr
      have fr := (fun i => hB2.frozen i)
      have c0 := hB2.cell 0
      have c1 := hB2.cell 1
      have c2 := hB2.cell 2
      have c3 := hB2.cell 3
      have c4 := hB2.cell 4
      have c5 := hB2.cell 5
      have c6 := hB2.cell 6
      have c7 := hB2.cell 7
      have c8 := hB2.cell 8
      simp at c0 c1 c2 c3 c4 c5 c6 c7 c8
      go_wp2_with fail
      go_step3
      go_wp2_with fail
      try rw [Exit.noGoto_ret]
      exact ret_pk (g := w.heap.size) (x := 2) (y := 3) (e := E) rfl hB2 hb2 (Nat.le_refl _) rfl rfl rfl
  by_cases h6 : valB (s.extract 0 1) / 16 = 6
  · rw [show decE s = rsixE s by unfold decE; rw [if_neg hl, if_neg hz0, if_neg h4, if_pos h6], show decP s = sixP s by unfold decP; rw [if_neg h4]]
    have H := Lib.hid (six_any s hs)
    obtain ⟨v1, v2, a1, a2, a3, a4, a5, a6, dt, e⟩ := Res_cells (rsixE s) (sixP s)
    have HE := Lib.hid (fun h => Res_bad (E := rsixE s) h (sixP s))
    rw [e] at H HE ⊢
    generalize rsixE s = E at *
    generalize valB (s.extract 0 1) = X0 at hx0 h4 h6
    have hq : ((X0 : Int) / 16 == 4) = false := by simp; omega
    have hq6 : ((X0 : Int) / 16 == 6) = true := by simp; omega
    clear h4 h6 e
    by_cases hE : E = 0
    · subst hE
      clear HE
      go_enter Tryz.func16, Tryz.ntmps16
      go_wp2_with fail
      go_step3
      go_upto_region 11 with (go_at_call 40; (with_reducible refine (H.out _).mono ?_); rintro r w1 ⟨rfl, d1⟩; have hB1 := hZ.below d1 hZ.lt; have hb1 := after hz d1; have fr := (fun i => hB1.frozen i); have c0 := hB1.cell 0; have c1 := hB1.cell 1; have c2 := hB1.cell 2; have c3 := hB1.cell 3; have c4 := hB1.cell 4; have c5 := hB1.cell 5; have c6 := hB1.cell 6; have c7 := hB1.cell 7; have c8 := hB1.cell 8; simp at c0 c1 c2 c3 c4 c5 c6 c7 c8)
      obtain ⟨hB2, hb2⟩ := nine (v0 := .bool v1) (v1 := .int .u64 (a1 : Int)) (v2 := .int .u64 (a2 : Int)) (v3 := .bool v2) (v4 := .int .u64 (a3 : Int)) (v5 := .int .u64 (a4 : Int)) (v6 := .int .u8 (a5 : Int)) (v7 := .int .u8 (a6 : Int)) (v8 := .string dt) hB1 hb1 (Nat.le_refl _)
      generalize (((((((((w1.setCell ⟨w.heap.size, 0, none⟩ (.bool v1)).setCell ⟨w.heap.size, 1, none⟩ (.int .u64 (a1 : Int))).setCell ⟨w.heap.size, 2, none⟩ (.int .u64 (a2 : Int))).setCell ⟨w.heap.size, 3, none⟩ (.bool v2)).setCell ⟨w.heap.size, 4, none⟩ (.int .u64 (a3 : Int))).setCell ⟨w.heap.size, 5, none⟩ (.int .u64 (a4 : Int))).setCell ⟨w.heap.size, 6, none⟩ (.int .u8 (a5 : Int))).setCell ⟨w.heap.size, 7, none⟩ (.int .u8 (a6 : Int))).setCell ⟨w.heap.size, 8, none⟩ (.string dt)) = w2 at hB2 hb2 ⊢
      clear c0 c1 c2 c3 c4 c5 c6 c7 c8 fr
      have fr := (fun i => hB2.frozen i)
      have c0 := hB2.cell 0
      have c1 := hB2.cell 1
      have c2 := hB2.cell 2
      have c3 := hB2.cell 3
      have c4 := hB2.cell 4
      have c5 := hB2.cell 5
      have c6 := hB2.cell 6
      have c7 := hB2.cell 7
      have c8 := hB2.cell 8
      simp at c0 c1 c2 c3 c4 c5 c6 c7 c8
      go_wp2_with fail
      try rw [Exit.noGoto_ret]
      exact ret_pk (g := w.heap.size) (x := 2) (y := 3) (e := 0) rfl hB2 hb2 (Nat.le_refl _) rfl rfl rfl
    · rw [HE.out hE]
      have hE1 : ((E : Int) == 0) = false := by simp; omega
      have hE2 : ¬ (E : Int) = 0 := by omega
      clear HE
      go_enter Tryz.func16, Tryz.ntmps16
      go_wp2_with fail
      go_step3
      go_upto_region 11 with (go_at_call 40; (with_reducible refine (H.out _).mono ?_); rintro r w1 ⟨rfl, d1⟩; have hB1 := hZ.below d1 hZ.lt; have hb1 := after hz d1; have fr := (fun i => hB1.frozen i); have c0 := hB1.cell 0; have c1 := hB1.cell 1; have c2 := hB1.cell 2; have c3 := hB1.cell 3; have c4 := hB1.cell 4; have c5 := hB1.cell 5; have c6 := hB1.cell 6; have c7 := hB1.cell 7; have c8 := hB1.cell 8; simp at c0 c1 c2 c3 c4 c5 c6 c7 c8)
      obtain ⟨hB2, hb2⟩ := nine (v0 := .bool v1) (v1 := .int .u64 (a1 : Int)) (v2 := .int .u64 (a2 : Int)) (v3 := .bool v2) (v4 := .int .u64 (a3 : Int)) (v5 := .int .u64 (a4 : Int)) (v6 := .int .u8 (a5 : Int)) (v7 := .int .u8 (a6 : Int)) (v8 := .string dt) hB1 hb1 (Nat.le_refl _)
      generalize (((((((((w1.setCell ⟨w.heap.size, 0, none⟩ (.bool v1)).setCell ⟨w.heap.size, 1, none⟩ (.int .u64 (a1 : Int))).setCell ⟨w.heap.size, 2, none⟩ (.int .u64 (a2 : Int))).setCell ⟨w.heap.size, 3, none⟩ (.bool v2)).setCell ⟨w.heap.size, 4, none⟩ (.int .u64 (a3 : Int))).setCell ⟨w.heap.size, 5, none⟩ (.int .u64 (a4 : Int))).setCell ⟨w.heap.size, 6, none⟩ (.int .u8 (a5 : Int))).setCell ⟨w.heap.size, 7, none⟩ (.int .u8 (a6 : Int))).setCell ⟨w.heap.size, 8, none⟩ (.string dt)) = w2 at hB2 hb2 ⊢
      clear c0 c1 c2 c3 c4 c5 c6 c7 c8 fr
      have fr := (fun i => hB2.frozen i)
      have c0 := hB2.cell 0
      have c1 := hB2.cell 1
      have c2 := hB2.cell 2
      have c3 := hB2.cell 3
      have c4 := hB2.cell 4
      have c5 := hB2.cell 5
      have c6 := hB2.cell 6
      have c7 := hB2.cell 7
      have c8 := hB2.cell 8
      simp at c0 c1 c2 c3 c4 c5 c6 c7 c8
      go_wp2_with fail
      go_step3
      go_wp2_with fail
      try rw [Exit.noGoto_ret]
      exact ret_pk (g := w.heap.size) (x := 2) (y := 3) (e := E) rfl hB2 hb2 (Nat.le_refl _) rfl rfl rfl
  · rw [show decE s = 130 by unfold decE; rw [if_neg hl, if_neg hz0, if_neg h4, if_neg h6], Res_ne (by decide) _ Pk.zero]
    generalize valB (s.extract 0 1) = X0 at hx0 h4 h6
    have hq : ((X0 : Int) / 16 == 4) = false := by simp; omega
    have hq6 : ((X0 : Int) / 16 == 6) = false := by simp; omega
    clear h4 h6
    go_enter Tryz.func16, Tryz.ntmps16
    go_wp2_with fail
    go_step3
    go_wp2_with fail
    go_step3
    go_wp2_with fail
    try rw [Exit.noGoto_ret]
    exact bodyPost_ret (results_ct rfl rfl rfl (load_pk (Blk.new _ _ _))) rfl ⟨rfl, boxed _ _⟩
end Go.Proofs.YtomndcjgdfhmbaaGreatDoor
