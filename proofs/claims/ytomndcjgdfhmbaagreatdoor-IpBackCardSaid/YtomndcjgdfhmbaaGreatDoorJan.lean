/- Joined out of: IpP IpR IpV. -/
import Derived.Test.YtomndcjgdfhmbaaGreatDoorJam
import Derived.Deep.RegionHeld3
import Derived.Deep.CutBlock
import Derived.BigRegion
set_option linter.unusedVariables false
set_option linter.unusedSimpArgs false

/- The document's Decode of IPv6: the walk. (Printed by ip_rsix.py.) -/
namespace Go.Proofs.YtomndcjgdfhmbaaGreatDoor
open Go.RowKit
attribute [local go_sem ↓] Go.wp_at_zero Go.wp_at_succ

theorem rsix_short (s : ByteArray) (hs : s.size < 40) (w : World) : Calls Tryz.prog 42 #[.string s] w (Got (Res 7 Pk.zero) w) := by
  go_enter Tryz.func42, Tryz.ntmps42
  go_wp2_with fail
  exact bodyPost_ret (results_ct rfl rfl rfl (load_pk (Blk.new _ _ _))) rfl ⟨rfl, boxed _ _⟩

def sixP (s : ByteArray) : Pk := ⟨⟨true, valB (s.extract 8 16), valB (s.extract 16 24)⟩, ⟨true, valB (s.extract 24 32), valB (s.extract 32 40)⟩, valB (s.extract 6 7), valB (s.extract 7 8), s.extract 40 s.size⟩
def extra (x : Nat) : Bool := decide (x = 0) || decide (x = 43) || decide (x = 44) || decide (x = 50) || decide (x = 51) || decide (x = 60)
def sixE (s : ByteArray) : Nat := if valB (s.extract 4 6) ≠ s.size - 40 then 8 else if extra (valB (s.extract 6 7)) = true then 133 else 0

set_option maxHeartbeats 4000000 in
set_option maxRecDepth 100000 in
theorem rsix_long (s : ByteArray) (h40 : 40 ≤ s.size) (hs : s.size ≤ 65536) (w : World) : Calls Tryz.prog 42 #[.string s] w (Got (Res (sixE s) (sixP s)) w) := by
  have hx6 : (s[6]'(by omega)).toNat = valB (s.extract 6 7) := (byte_at s 6 (by omega)).symm
  have hx7 : (s[7]'(by omega)).toNat = valB (s.extract 7 8) := (byte_at s 7 (by omega)).symm
  have hv4 := valB_two s 4 6 rfl
  have H4 := rvalue_at s 4 6 (by omega)
  have H8 := rvalue_at s 8 16 (by omega)
  have H16 := rvalue_at s 16 24 (by omega)
  have H24 := rvalue_at s 24 32 (by omega)
  have H32 := rvalue_at s 32 40 (by omega)
  have hlen : (40 : Int) ≤ (s.size : Int) := by omega
  have hl6 : (6 : Int) ≤ (s.size : Int) := by omega
  have hl16 : (16 : Int) ≤ (s.size : Int) := by omega
  have hl24 : (24 : Int) ≤ (s.size : Int) := by omega
  have hl32 : (32 : Int) ≤ (s.size : Int) := by omega
  have hi6 : 6 < s.size := by omega
  have hi7 : 7 < s.size := by omega
  have HP : Hid (sixP s = ⟨⟨true, valB (s.extract 8 16), valB (s.extract 16 24)⟩, ⟨true, valB (s.extract 24 32), valB (s.extract 32 40)⟩, valB (s.extract 6 7), valB (s.extract 7 8), s.extract 40 s.size⟩) := Lib.hid rfl
  have HE : Hid (sixE s = if valB (s.extract 4 6) ≠ s.size - 40 then 8 else if extra (valB (s.extract 6 7)) = true then 133 else 0) := Lib.hid rfl
  generalize sixE s = EA at HE ⊢
  generalize sixP s = PA at HP ⊢
  generalize valB (s.extract 4 6) = V4 at hv4 H4 HE
  generalize valB (s.extract 8 16) = V8 at H8 HP
  generalize valB (s.extract 16 24) = V16 at H16 HP
  generalize valB (s.extract 24 32) = V24 at H24 HP
  generalize valB (s.extract 32 40) = V32 at H32 HP
  generalize valB (s.extract 6 7) = X6 at hx6 HP HE
  generalize valB (s.extract 7 8) = X7 at hx7 HP
  have hsub : ((s.size - 40 : Nat) : Int) = (s.size : Int) - 40 := by omega
  have Hsub := Lib.hid hsub
  clear hsub
  go_enter Tryz.func42, Tryz.ntmps42
  go_upto_region 13 with (go_at_call 72; (with_reducible refine (H4.out _).mono ?_); rintro r wf ⟨rfl, rfl⟩)
  all_goals first
    | (have t2 : (((V4 : Nat) : Int) != ((s.size : Nat) : Int) - 40) = true := by with_reducible assumption
       have e : EA = 8 := by rw [HE.out, if_pos (by simp at t2; omega)]
       rw [e]
       exact bodyPost_ret (results_ct rfl rfl rfl (load_pk (Blk.new _ _ _))) rfl ⟨rfl, boxed _ _⟩)
    | (have t2 : (((V4 : Nat) : Int) != ((s.size : Nat) : Int) - 40) = false := by with_reducible assumption
       have t3 : (((X6 : Nat) : Int) == 0) = true := by with_reducible assumption
       have hx : X6 = 0 := by simp at t3; omega
       have e : EA = 133 := by rw [HE.out, if_neg (by simp at t2; omega), if_pos (by rw [hx]; rfl)]
       rw [e]
       exact bodyPost_ret (results_ct rfl rfl rfl (load_pk (Blk.new _ _ _))) rfl ⟨rfl, boxed _ _⟩)
    | (have t2 : (((V4 : Nat) : Int) != ((s.size : Nat) : Int) - 40) = false := by with_reducible assumption
       have t3 : (((X6 : Nat) : Int) == 43) = true := by with_reducible assumption
       have hx : X6 = 43 := by simp at t3; omega
       have e : EA = 133 := by rw [HE.out, if_neg (by simp at t2; omega), if_pos (by rw [hx]; rfl)]
       rw [e]
       exact bodyPost_ret (results_ct rfl rfl rfl (load_pk (Blk.new _ _ _))) rfl ⟨rfl, boxed _ _⟩)
    | (have t2 : (((V4 : Nat) : Int) != ((s.size : Nat) : Int) - 40) = false := by with_reducible assumption
       have t3 : (((X6 : Nat) : Int) == 44) = true := by with_reducible assumption
       have hx : X6 = 44 := by simp at t3; omega
       have e : EA = 133 := by rw [HE.out, if_neg (by simp at t2; omega), if_pos (by rw [hx]; rfl)]
       rw [e]
       exact bodyPost_ret (results_ct rfl rfl rfl (load_pk (Blk.new _ _ _))) rfl ⟨rfl, boxed _ _⟩)
    | (have t2 : (((V4 : Nat) : Int) != ((s.size : Nat) : Int) - 40) = false := by with_reducible assumption
       have t3 : (((X6 : Nat) : Int) == 50) = true := by with_reducible assumption
       have hx : X6 = 50 := by simp at t3; omega
       have e : EA = 133 := by rw [HE.out, if_neg (by simp at t2; omega), if_pos (by rw [hx]; rfl)]
       rw [e]
       exact bodyPost_ret (results_ct rfl rfl rfl (load_pk (Blk.new _ _ _))) rfl ⟨rfl, boxed _ _⟩)
    | (have t2 : (((V4 : Nat) : Int) != ((s.size : Nat) : Int) - 40) = false := by with_reducible assumption
       have t3 : (((X6 : Nat) : Int) == 51) = true := by with_reducible assumption
       have hx : X6 = 51 := by simp at t3; omega
       have e : EA = 133 := by rw [HE.out, if_neg (by simp at t2; omega), if_pos (by rw [hx]; rfl)]
       rw [e]
       exact bodyPost_ret (results_ct rfl rfl rfl (load_pk (Blk.new _ _ _))) rfl ⟨rfl, boxed _ _⟩)
    | (have t2 : (((V4 : Nat) : Int) != ((s.size : Nat) : Int) - 40) = false := by with_reducible assumption
       have t3 : (((X6 : Nat) : Int) == 60) = true := by with_reducible assumption
       have hx : X6 = 60 := by simp at t3; omega
       have e : EA = 133 := by rw [HE.out, if_neg (by simp at t2; omega), if_pos (by rw [hx]; rfl)]
       rw [e]
       exact bodyPost_ret (results_ct rfl rfl rfl (load_pk (Blk.new _ _ _))) rfl ⟨rfl, boxed _ _⟩)
    | skip
  have t2 : (((V4 : Nat) : Int) != ((s.size : Nat) : Int) - 40) = false := by with_reducible assumption
  have t0 : (((X6 : Nat) : Int) == 0) = false := by with_reducible assumption
  have t43 : (((X6 : Nat) : Int) == 43) = false := by with_reducible assumption
  have t44 : (((X6 : Nat) : Int) == 44) = false := by with_reducible assumption
  have t50 : (((X6 : Nat) : Int) == 50) = false := by with_reducible assumption
  have t51 : (((X6 : Nat) : Int) == 51) = false := by with_reducible assumption
  have t60 : (((X6 : Nat) : Int) == 60) = false := by with_reducible assumption
  have hx : extra X6 = false := by
    simp at t0 t43 t44 t50 t51 t60
    unfold extra
    simp
    omega
  have e : EA = 0 := by rw [HE.out, if_neg (by simp at t2; omega), if_neg (by rw [hx]; decide)]
  clear hx t0 t43 t44 t50 t51 t60
  have He := Lib.hid e
  clear e
  go_cut [4] from 6 to 35 (fun s4 wx => s4 = .pointer (some ⟨w.heap.size + 1, 0, none⟩) ∧ wx = ((w.alloc (.cells #[.bool false, .int .u64 0, .int .u64 0, .bool false, .int .u64 0, .int .u64 0, .int .u8 0, .int .u8 0, .string ⟨#[]⟩] 26)).alloc (.cells #[.bool true, .int .u64 (V8 : Int), .int .u64 (V16 : Int)] 24)).drew)
  case first =>
    go_region_held3 (fun _ => True) (trivial)
      (first
        | (go_at_call 72; (with_reducible refine (H8.out _).mono ?_); rintro r wf ⟨rfl, rfl⟩)
        | (go_at_call 72; (with_reducible refine (H16.out _).mono ?_); rintro r wf ⟨rfl, rfl⟩))
    all_goals (go_wp2_with fail; go_meet; exact ⟨rfl, rfl⟩)
  case rest =>
  obtain ⟨rfl, rfl⟩ := hcut
  go_upto_region 14 with (fail)
  go_cut [5] from 6 to 42 (fun s5 wx => s5 = .pointer (some ⟨w.heap.size + 1 + 1, 0, none⟩) ∧ wx = (((w.alloc (.cells #[.bool false, .int .u64 0, .int .u64 0, .bool false, .int .u64 0, .int .u64 0, .int .u8 0, .int .u8 0, .string ⟨#[]⟩] 26)).alloc (.cells #[.bool true, .int .u64 (V8 : Int), .int .u64 (V16 : Int)] 24)).alloc (.cells #[.bool true, .int .u64 (V24 : Int), .int .u64 (V32 : Int)] 24)).drew.drew)
  case first =>
    go_region_held3 (fun _ => True) (trivial)
      (first
        | (go_at_call 72; (with_reducible refine (H24.out _).mono ?_); rintro r wf ⟨rfl, rfl⟩)
        | (go_at_call 72; (with_reducible refine (H32.out _).mono ?_); rintro r wf ⟨rfl, rfl⟩))
    all_goals (go_wp2_with fail; go_meet; exact ⟨rfl, rfl⟩)
  case rest =>
  obtain ⟨rfl, rfl⟩ := hcut
  go_wp2_with fail
  trace_state
  all_goals (
    have hB : Blk ((((w.alloc (.cells #[.bool false, .int .u64 0, .int .u64 0, .bool false, .int .u64 0, .int .u64 0, .int .u8 0, .int .u8 0, .string ⟨#[]⟩] 26)).alloc (.cells #[.bool true, .int .u64 (V8 : Int), .int .u64 (V16 : Int)] 24)).alloc (.cells #[.bool true, .int .u64 (V24 : Int), .int .u64 (V32 : Int)] 24)).drew.drew) w.heap.size 26 #[.bool false, .int .u64 0, .int .u64 0, .bool false, .int .u64 0, .int .u64 0, .int .u8 0, .int .u8 0, .string ⟨#[]⟩] := (((Blk.new w 26 #[.bool false, .int .u64 0, .int .u64 0, .bool false, .int .u64 0, .int .u64 0, .int .u8 0, .int .u8 0, .string ⟨#[]⟩]).alloc (.cells #[.bool true, .int .u64 (V8 : Int), .int .u64 (V16 : Int)] 24)).alloc (.cells #[.bool true, .int .u64 (V24 : Int), .int .u64 (V32 : Int)] 24)).drew.drew
    have hD : Blk ((((w.alloc (.cells #[.bool false, .int .u64 0, .int .u64 0, .bool false, .int .u64 0, .int .u64 0, .int .u8 0, .int .u8 0, .string ⟨#[]⟩] 26)).alloc (.cells #[.bool true, .int .u64 (V8 : Int), .int .u64 (V16 : Int)] 24)).alloc (.cells #[.bool true, .int .u64 (V24 : Int), .int .u64 (V32 : Int)] 24)).drew.drew) (w.heap.size + 1) 24 #[.bool true, .int .u64 (V8 : Int), .int .u64 (V16 : Int)] := by
      have h := (((Blk.new (w.alloc (.cells #[.bool false, .int .u64 0, .int .u64 0, .bool false, .int .u64 0, .int .u64 0, .int .u8 0, .int .u8 0, .string ⟨#[]⟩] 26)) 24 #[.bool true, .int .u64 (V8 : Int), .int .u64 (V16 : Int)]).alloc (.cells #[.bool true, .int .u64 (V24 : Int), .int .u64 (V32 : Int)] 24)).drew.drew)
      simpa using h
    have hE : Blk ((((w.alloc (.cells #[.bool false, .int .u64 0, .int .u64 0, .bool false, .int .u64 0, .int .u64 0, .int .u8 0, .int .u8 0, .string ⟨#[]⟩] 26)).alloc (.cells #[.bool true, .int .u64 (V8 : Int), .int .u64 (V16 : Int)] 24)).alloc (.cells #[.bool true, .int .u64 (V24 : Int), .int .u64 (V32 : Int)] 24)).drew.drew) (w.heap.size + 1 + 1) 24 #[.bool true, .int .u64 (V24 : Int), .int .u64 (V32 : Int)] := by
      have h := ((Blk.new ((w.alloc (.cells #[.bool false, .int .u64 0, .int .u64 0, .bool false, .int .u64 0, .int .u64 0, .int .u8 0, .int .u8 0, .string ⟨#[]⟩] 26)).alloc (.cells #[.bool true, .int .u64 (V8 : Int), .int .u64 (V16 : Int)] 24)) 24 #[.bool true, .int .u64 (V24 : Int), .int .u64 (V32 : Int)]).drew.drew)
      simpa using h
    have hb : Below w.heap.size w ((((w.alloc (.cells #[.bool false, .int .u64 0, .int .u64 0, .bool false, .int .u64 0, .int .u64 0, .int .u8 0, .int .u8 0, .string ⟨#[]⟩] 26)).alloc (.cells #[.bool true, .int .u64 (V8 : Int), .int .u64 (V16 : Int)] 24)).alloc (.cells #[.bool true, .int .u64 (V24 : Int), .int .u64 (V32 : Int)] 24)).drew.drew) := (((boxed w (.cells #[.bool false, .int .u64 0, .int .u64 0, .bool false, .int .u64 0, .int .u64 0, .int .u8 0, .int .u8 0, .string ⟨#[]⟩] 26)).alloc (by simp) _).alloc (by simp; omega) _).drew.drew
    generalize ((((w.alloc (.cells #[.bool false, .int .u64 0, .int .u64 0, .bool false, .int .u64 0, .int .u64 0, .int .u8 0, .int .u8 0, .string ⟨#[]⟩] 26)).alloc (.cells #[.bool true, .int .u64 (V8 : Int), .int .u64 (V16 : Int)] 24)).alloc (.cells #[.bool true, .int .u64 (V24 : Int), .int .u64 (V32 : Int)] 24)).drew.drew) = v at hB hD hE hb ⊢
    have c0 := hB.cell 0
    have c1 := hB.cell 1
    have c2 := hB.cell 2
    have c3 := hB.cell 3
    have c4 := hB.cell 4
    have c5 := hB.cell 5
    have c6 := hB.cell 6
    have c7 := hB.cell 7
    have c8 := hB.cell 8
    have d0 := hD.cell 0
    have d1 := hD.cell 1
    have d2 := hD.cell 2
    have e0 := hE.cell 0
    have e1 := hE.cell 1
    have e2 := hE.cell 2
    have fr := fun i => hB.frozen i
    simp at c0 c1 c2 c3 c4 c5 c6 c7 c8 d0 d1 d2 e0 e1 e2
    have HB := Lib.hid hB
    have Hb := Lib.hid hb
    clear hB hD hE hb
    go_region
    go_wp2_with fail
    rw [He.out, HP.out]
    exact ret_pkd (g := w.heap.size) (x := 2) (y := 3) (e := 0) rfl HB.out Hb.out (Nat.le_refl _) rfl rfl rfl)
end Go.Proofs.YtomndcjgdfhmbaaGreatDoor

/- The document's Decode, whole. (Printed by ip_decode.py.) -/
namespace Go.Proofs.YtomndcjgdfhmbaaGreatDoor
open Go.RowKit
attribute [local go_sem ↓] Go.wp_at_zero Go.wp_at_succ

theorem Res_ne {e : Nat} (h : e ≠ 0) (p q : Pk) : Res e p = Res e q := by unfold Res; rw [if_neg h, if_neg h]
def rfourE (s : ByteArray) : Nat := if s.size < 20 then 7 else rfourA s
def rsixE (s : ByteArray) : Nat := if s.size < 40 then 7 else sixE s
theorem rfour_any (s : ByteArray) (hs : s.size ≤ 65536) (w : World) : Calls Tryz.prog 41 #[.string s] w (Got (Res (rfourE s) (fourP s)) w) := by
  unfold rfourE
  split
  · next h => rw [Res_ne (by decide) _ Pk.zero]; exact rfour_short s h w
  · next h => exact rfour_long s (by omega) hs w
theorem rsix_any (s : ByteArray) (hs : s.size ≤ 65536) (w : World) : Calls Tryz.prog 42 #[.string s] w (Got (Res (rsixE s) (sixP s)) w) := by
  unfold rsixE
  split
  · next h => rw [Res_ne (by decide) _ Pk.zero]; exact rsix_short s h w
  · next h => exact rsix_long s (by omega) hs w
theorem Res_cells (e : Nat) (p : Pk) : ∃ (v1 v2 : Bool) (a1 a2 a3 a4 a5 a6 : Nat) (dt : ByteArray), Res e p = .tuple #[.agg #[.bool v1, .int .u64 (a1 : Int), .int .u64 (a2 : Int), .bool v2, .int .u64 (a3 : Int), .int .u64 (a4 : Int), .int .u8 (a5 : Int), .int .u8 (a6 : Int), .string dt], .int .i64 (e : Int)] := by
  unfold Res
  generalize (if e = 0 then p else Pk.zero) = q
  exact ⟨_, _, _, _, _, _, _, _, _, rfl⟩

def decE (s : ByteArray) : Nat := if 1500 < s.size then 4 else if s.size = 0 then 7 else if valB (s.extract 0 1) / 16 = 4 then rfourE s else if valB (s.extract 0 1) / 16 = 6 then rsixE s else 130
def decP (s : ByteArray) : Pk := if valB (s.extract 0 1) / 16 = 4 then fourP s else sixP s

set_option maxHeartbeats 2000000 in
set_option maxRecDepth 100000 in
theorem rdecode_any (s : ByteArray) (hs : s.size ≤ 65536) (w : World) : Calls Tryz.prog 17 #[.string s] w (Got (Res (decE s) (decP s)) w) := by
  by_cases hl : 1500 < s.size
  · rw [show decE s = 4 by unfold decE; rw [if_pos hl], Res_ne (by decide) _ Pk.zero]
    go_enter Tryz.func17, Tryz.ntmps17
    go_wp2_with fail
    exact bodyPost_ret (results_ct rfl rfl rfl (load_pk (Blk.new _ _ _))) rfl ⟨rfl, boxed _ _⟩
  by_cases hz : s.size = 0
  · have he : s = ByteArray.empty := by
      apply ByteArray.ext
      exact Array.eq_empty_of_size_eq_zero hz
    rw [show decE s = 7 by unfold decE; rw [if_neg hl, if_pos hz], Res_ne (by decide) _ Pk.zero, he]
    go_enter Tryz.func17, Tryz.ntmps17
    go_wp2_with fail
    exact bodyPost_ret (results_ct rfl rfl rfl (load_pk (Blk.new _ _ _))) rfl ⟨rfl, boxed _ _⟩
  have h0 : 0 < s.size := by omega
  have hx0 : (s[0]'h0).toNat = valB (s.extract 0 1) := (byte_at s 0 h0).symm
  have hemp : s.toList.isEmpty = false := by
    rw [← decide_eq_emptyBytes]
    exact decide_eq_false (fun h => hz (by rw [h]; rfl))
  by_cases h4 : valB (s.extract 0 1) / 16 = 4
  · rw [show decE s = rfourE s by unfold decE; rw [if_neg hl, if_neg hz, if_pos h4], show decP s = fourP s by unfold decP; rw [if_pos h4]]
    have H := Lib.hid (rfour_any s hs)
    obtain ⟨v1, v2, a1, a2, a3, a4, a5, a6, dt, e⟩ := Res_cells (rfourE s) (fourP s)
    rw [e] at H ⊢
    generalize rfourE s = E at *
    generalize valB (s.extract 0 1) = X0 at hx0 h4
    have hq : ((X0 : Int) / 16 == 4) = true := by simp; omega
    have hB0 := Blk.new w 26 #[.bool false, .int .u64 0, .int .u64 0, .bool false, .int .u64 0, .int .u64 0, .int .u8 0, .int .u8 0, .string ⟨#[]⟩]
    have hb0 := boxed w (.cells #[.bool false, .int .u64 0, .int .u64 0, .bool false, .int .u64 0, .int .u64 0, .int .u8 0, .int .u8 0, .string ⟨#[]⟩] 26)
    clear h4 e
    go_enter Tryz.func17, Tryz.ntmps17
    go_wp2_with (go_at_call 41; (with_reducible refine (H.out _).mono ?_); rintro r w1 ⟨rfl, d1⟩; have hB1 := hB0.below d1 hB0.lt; have fr := (fun i => hB1.frozen i); have c0 := hB1.cell 0; have c1 := hB1.cell 1; have c2 := hB1.cell 2; have c3 := hB1.cell 3; have c4 := hB1.cell 4; have c5 := hB1.cell 5; have c6 := hB1.cell 6; have c7 := hB1.cell 7; have c8 := hB1.cell 8; simp at c0 c1 c2 c3 c4 c5 c6 c7 c8)
    exact ret_pk (g := w.heap.size) (x := 2) (y := 3) (e := E) rfl hB1 (after hb0 d1) (Nat.le_refl _) rfl rfl rfl
  by_cases h6 : valB (s.extract 0 1) / 16 = 6
  · rw [show decE s = rsixE s by unfold decE; rw [if_neg hl, if_neg hz, if_neg h4, if_pos h6], show decP s = sixP s by unfold decP; rw [if_neg h4]]
    have H := Lib.hid (rsix_any s hs)
    obtain ⟨v1, v2, a1, a2, a3, a4, a5, a6, dt, e⟩ := Res_cells (rsixE s) (sixP s)
    rw [e] at H ⊢
    generalize rsixE s = E at *
    generalize valB (s.extract 0 1) = X0 at hx0 h4 h6
    have hq : ((X0 : Int) / 16 == 4) = false := by simp; omega
    have hq6 : ((X0 : Int) / 16 == 6) = true := by simp; omega
    have hB0 := Blk.new w 26 #[.bool false, .int .u64 0, .int .u64 0, .bool false, .int .u64 0, .int .u64 0, .int .u8 0, .int .u8 0, .string ⟨#[]⟩]
    have hb0 := boxed w (.cells #[.bool false, .int .u64 0, .int .u64 0, .bool false, .int .u64 0, .int .u64 0, .int .u8 0, .int .u8 0, .string ⟨#[]⟩] 26)
    clear h4 h6 e
    go_enter Tryz.func17, Tryz.ntmps17
    go_wp2_with (go_at_call 42; (with_reducible refine (H.out _).mono ?_); rintro r w1 ⟨rfl, d1⟩; have hB1 := hB0.below d1 hB0.lt; have fr := (fun i => hB1.frozen i); have c0 := hB1.cell 0; have c1 := hB1.cell 1; have c2 := hB1.cell 2; have c3 := hB1.cell 3; have c4 := hB1.cell 4; have c5 := hB1.cell 5; have c6 := hB1.cell 6; have c7 := hB1.cell 7; have c8 := hB1.cell 8; simp at c0 c1 c2 c3 c4 c5 c6 c7 c8)
    exact ret_pk (g := w.heap.size) (x := 2) (y := 3) (e := E) rfl hB1 (after hb0 d1) (Nat.le_refl _) rfl rfl rfl
  · rw [show decE s = 130 by unfold decE; rw [if_neg hl, if_neg hz, if_neg h4, if_neg h6], Res_ne (by decide) _ Pk.zero]
    generalize valB (s.extract 0 1) = X0 at hx0 h4 h6
    have hq : ((X0 : Int) / 16 == 4) = false := by simp; omega
    have hq6 : ((X0 : Int) / 16 == 6) = false := by simp; omega
    clear h4 h6
    go_enter Tryz.func17, Tryz.ntmps17
    go_wp2_with fail
    exact bodyPost_ret (results_ct rfl rfl rfl (load_pk (Blk.new _ _ _))) rfl ⟨rfl, boxed _ _⟩
end Go.Proofs.YtomndcjgdfhmbaaGreatDoor

/- Decode of IPv6, 40 bytes or more: the walk (begun). -/
namespace Go.Proofs.YtomndcjgdfhmbaaGreatDoor
open Go.RowKit
attribute [local go_sem ↓] Go.wp_at_zero Go.wp_at_succ

theorem extra_mem (x : Nat) : decide (x ∈ [0, 43, 44, 50, 51, 60]) = extra x := by
  unfold extra
  simp only [List.mem_cons, List.mem_nil_iff, or_false, Bool.decide_or]
  simp only [Bool.or_assoc]
theorem extra_any {w : World} {g : Nat} (hg : w.heap.size = g) (x : Nat) (E : Bool) (hE : extra x = E) : Calls Tryz.prog 71 #[.slice (some ⟨g, 0, none⟩) 6 6, .int .u8 (x : Int)] (w.alloc (.cells #[.int .u8 0, .int .u8 43, .int .u8 44, .int .u8 50, .int .u8 51, .int .u8 60] 5)) fun r w' => r = .returned (.bool E) ∧ w.alloc (.cells #[.int .u8 0, .int .u8 43, .int .u8 44, .int .u8 50, .int .u8 51, .int .u8 60] 5) = w' := by
  subst hg
  rw [← hE, ← extra_mem]
  have hb := Blk.new w 5 #[.int .u8 0, .int .u8 43, .int .u8 44, .int .u8 50, .int .u8 51, .int .u8 60]
  refine contains_u8 [0, 43, 44, 50, 51, 60] 6 (by decide) (by decide) (fun j hj => ?_) x
  rw [hb.cell j]
  have : ∀ j : Fin 6, (#[.int .u8 0, .int .u8 43, .int .u8 44, .int .u8 50, .int .u8 51, .int .u8 60] : Array Value)[j.1]? = some (.int .u8 (([0, 43, 44, 50, 51, 60] : List Nat)[j.1]'j.2 : Int)) := by
    intro j
    match j with
    | 0 => rfl
    | 1 => rfl
    | 2 => rfl
    | 3 => rfl
    | 4 => rfl
    | 5 => rfl
  exact this ⟨j, hj⟩

set_option maxHeartbeats 4000000 in
set_option maxRecDepth 100000 in
theorem six_long (s : ByteArray) (h40 : 40 ≤ s.size) (hs : s.size ≤ 65536) (w : World) : Calls Tryz.prog 40 #[.string s] w (Got (Res (sixE s) (sixP s)) w) := by
  have hs1 : s.size ≤ 1000000 := by omega
  have HP : Hid (sixP s = ⟨⟨true, valB (s.extract 8 16), valB (s.extract 16 24)⟩, ⟨true, valB (s.extract 24 32), valB (s.extract 32 40)⟩, valB (s.extract 6 7), valB (s.extract 7 8), s.extract 40 s.size⟩) := Lib.hid rfl
  have HE : Hid (sixE s = if valB (s.extract 4 6) ≠ s.size - 40 then 8 else if extra (valB (s.extract 6 7)) = true then 133 else 0) := Lib.hid rfl
  obtain ⟨L, hL⟩ : ∃ l, l = s.size - 40 := ⟨_, rfl⟩
  obtain ⟨V4, h4⟩ : ∃ v, v = valB (s.extract 4 6) := ⟨_, rfl⟩
  obtain ⟨V8, h8⟩ : ∃ v, v = valB (s.extract 8 16) := ⟨_, rfl⟩
  obtain ⟨V16, h16⟩ : ∃ v, v = valB (s.extract 16 24) := ⟨_, rfl⟩
  obtain ⟨V24, h24⟩ : ∃ v, v = valB (s.extract 24 32) := ⟨_, rfl⟩
  obtain ⟨V32, h32⟩ : ∃ v, v = valB (s.extract 32 40) := ⟨_, rfl⟩
  obtain ⟨X6, hx6⟩ : ∃ v, v = valB (s.extract 6 7) := ⟨_, rfl⟩
  obtain ⟨X7, hx7⟩ : ∃ v, v = valB (s.extract 7 8) := ⟨_, rfl⟩
  have hv4 : V4 < 65536 := by rw [h4]; exact valB_two s 4 6 rfl
  rw [← h8, ← h16, ← h24, ← h32, ← hx6, ← hx7] at HP
  rw [← h4, ← hx6, ← hL] at HE
  generalize sixE s = EA at HE ⊢
  generalize sixP s = PA at HP ⊢
  have HV4 : Hid (valB (s.extract (0 + 4) (0 + 4 + 2)) = V4) := Lib.hid h4.symm
  have HX6 : Hid (valB (s.extract (0 + 4 + 2) (0 + 4 + 2 + 1)) = X6) := Lib.hid hx6.symm
  have HX7 : Hid (valB (s.extract (0 + 4 + 2 + 1) (0 + 4 + 2 + 1 + 1)) = X7) := Lib.hid hx7.symm
  have HV8 : Hid (valB (s.extract (0 + 4 + 2 + 1 + 1) (0 + 4 + 2 + 1 + 1 + 8)) = V8) := Lib.hid h8.symm
  have HV16 : Hid (valB (s.extract (0 + 4 + 2 + 1 + 1 + 8) (0 + 4 + 2 + 1 + 1 + 8 + 8)) = V16) := Lib.hid h16.symm
  have HV24 : Hid (valB (s.extract (0 + 4 + 2 + 1 + 1 + 8 + 8) (0 + 4 + 2 + 1 + 1 + 8 + 8 + 8)) = V24) := Lib.hid h24.symm
  have HV32 : Hid (valB (s.extract (0 + 4 + 2 + 1 + 1 + 8 + 8 + 8) (0 + 4 + 2 + 1 + 1 + 8 + 8 + 8 + 8)) = V32) := Lib.hid h32.symm
  have HL : Hid (s.size - (0 + 4 + 2 + 1 + 1 + 8 + 8 + 8 + 8) = L) := Lib.hid hL.symm
  clear h4 h8 h16 h24 h32 hx6 hx7 hL
  have hZ := Blk.new w 26 #[.bool false, .int .u64 0, .int .u64 0, .bool false, .int .u64 0, .int .u64 0, .int .u8 0, .int .u8 0, .string ⟨#[]⟩]
  have hz := boxed w (.cells #[.bool false, .int .u64 0, .int .u64 0, .bool false, .int .u64 0, .int .u64 0, .int .u8 0, .int .u8 0, .string ⟨#[]⟩] 26)
  go_enter Tryz.func40, Tryz.ntmps40
  go_wp2_with fail
  generalize hv : w.alloc (.cells #[.bool false, .int .u64 0, .int .u64 0, .bool false, .int .u64 0, .int .u64 0, .int .u8 0, .int .u8 0, .string ⟨#[]⟩] 26) = v at hZ hz ⊢
  have hvs : v.heap.size = w.heap.size + 1 := by rw [← hv]; simp
  clear hv
  go_at_call 62
  refine (new_any s v).mono ?_
  rintro r w1 ⟨rfl, hR, hN⟩
  have hbl := hR.lt
  have hZ1 := hZ.below hN hZ.lt
  have hz1 := after hz hN
  generalize hb : v.heap.size = b at hR hbl ⊢
  have hbb : w.heap.size ≤ b := by omega
  have hne : w.heap.size ≠ b := by omega
  have h0 := Lib.hid (show S6 w w.heap.size b w1.heap.size s 0 _ _ (w1.alloc (.cells #[.pointer (some ⟨b, 0, none⟩)] 91)) from ⟨⟨by rw [extract_all]; exact hR.below (boxed _ _), hZ1.alloc _, after hz1 (boxed _ _)⟩, Blk.new _ _ _⟩)
  have hpb : w1.heap.size ≠ b := by omega
  clear hR hN hZ hz hb hvs hZ1 hz1 hbl
  go_wp2_with (first
    | (go_at_call 66; (with_reducible refine (U32_s6 h0.out hne hpb hbb hs1 (by omega)).mono ?_); rintro r w2 ⟨rfl, g, -⟩; have x1 := g.cell; have h1 := Lib.hid g; clear g))
  go_region_held3 (fun w' => w'.cell? ⟨w1.heap.size, 0, none⟩ = some (.pointer (some ⟨b, 0, none⟩)))
    (first | exact x1 | exact x2 | exact x3 | exact x4)
    (first
      | (go_at_call 64; (with_reducible refine (U16_s6 h1.out.drew hne hpb hbb hs1 (by omega)).mono ?_); rintro r w3 ⟨he, g, -⟩; rw [HV4.out] at he; subst he; have x2 := g.cell; have h2 := Lib.hid g; clear g)
      | (go_at_call 65; (with_reducible refine (U8_s6 h2.out hne hpb hbb hs1 (by omega)).mono ?_); rintro r w4 ⟨he, g, -⟩; rw [HX6.out] at he; subst he; have x3 := g.cell; have h3 := Lib.hid g; clear g)
      | (go_at_call 65; (with_reducible refine (U8_s6 h3.out hne hpb hbb hs1 (by omega)).mono ?_); rintro r w5 ⟨he, g, -⟩; rw [HX7.out] at he; subst he; have x4 := g.cell; have h4 := Lib.hid g; clear g))
  clear x1 x2 x3
  obtain ⟨E, hE⟩ : ∃ e, extra X6 = e := ⟨_, rfl⟩
  have HExt := Lib.hid hE
  clear hE
  by_cases hq : V4 = L
  · have t1 : ((V4 : Int) != (L : Int)) = false := by simp [hq]
    have Hq := Lib.hid hq
    clear hq
    cases E
    case false =>
      have hlen : (40 : Int) ≤ (s.size : Int) := by omega
      go_wp2_with (first
        | (go_at_call 68; (with_reducible refine (six1_s6 h4.out hne hpb hbb hs1 (by omega)).mono ?_); rintro r w6 ⟨he, g⟩; rw [HV8.out, HV16.out] at he; subst he; have x5 := g.cell; have h5 := Lib.hid g; clear g)
        | (go_at_call 68; (with_reducible refine (six1_s6 h5.out hne hpb hbb hs1 (by omega)).mono ?_); rintro r w7 ⟨he, g⟩; rw [HV24.out, HV32.out] at he; subst he; have x6 := g.cell; have q1 := g.ptr.lt; have q2 := g.st.blk.lt; have hB := g.st.blk; have c0 := hB.cell 0; have c1 := hB.cell 1; have c2 := hB.cell 2; have c3 := hB.cell 3; have c4 := hB.cell 4; have c5 := hB.cell 5; have c6 := hB.cell 6; have c7 := hB.cell 7; have c8 := hB.cell 8; simp at c0 c1 c2 c3 c4 c5 c6 c7 c8; have fr := (fun i => hB.frozen i); have HB := Lib.hid hB; clear hB; have HC := Lib.hid (fun o1 o2 => extra_any (w := (w7.alloc o1).alloc o2) (g := w7.heap.size + 1 + 1) (by simp) X6 _ HExt.out); have h6 := Lib.hid g; clear g)
        | (go_at_call 67; refine (Fault_st ((h6.out.below (boxed _ _)).below (boxed _ _)).st).mono ?_; rintro r wf ⟨rfl, rfl⟩)
        | (go_at_call 70; refine (Left_st ((h6.out.below (boxed _ _)).below (boxed _ _)).st (by omega)).mono ?_; rintro r wf ⟨he, rfl⟩; rw [HL.out] at he; subst he)
        | (go_at_call 71; have HCo := HC.out; with_reducible refine Calls.mono (HCo _ _) ?_; rintro r wf ⟨rfl, rfl⟩; clear HCo HC; have hB8 : Blk (((w7.alloc (.cells #[.bool true, .int .u64 (V8 : Int), .int .u64 (V16 : Int)] 24)).alloc (.cells #[.bool true, .int .u64 (V24 : Int), .int .u64 (V32 : Int)] 24)).alloc (.cells #[.int .u8 0, .int .u8 43, .int .u8 44, .int .u8 50, .int .u8 51, .int .u8 60] 5)) w.heap.size 26 #[.bool false, .int .u64 0, .int .u64 0, .bool false, .int .u64 0, .int .u64 0, .int .u8 0, .int .u8 0, .string ⟨#[]⟩] := ((HB.out.alloc _).alloc _).alloc _; have hD8 : Blk (((w7.alloc (.cells #[.bool true, .int .u64 (V8 : Int), .int .u64 (V16 : Int)] 24)).alloc (.cells #[.bool true, .int .u64 (V24 : Int), .int .u64 (V32 : Int)] 24)).alloc (.cells #[.int .u8 0, .int .u8 43, .int .u8 44, .int .u8 50, .int .u8 51, .int .u8 60] 5)) w7.heap.size 24 #[.bool true, .int .u64 (V8 : Int), .int .u64 (V16 : Int)] := ((Blk.new w7 24 #[.bool true, .int .u64 (V8 : Int), .int .u64 (V16 : Int)]).alloc _).alloc _; have hE8 : Blk (((w7.alloc (.cells #[.bool true, .int .u64 (V8 : Int), .int .u64 (V16 : Int)] 24)).alloc (.cells #[.bool true, .int .u64 (V24 : Int), .int .u64 (V32 : Int)] 24)).alloc (.cells #[.int .u8 0, .int .u8 43, .int .u8 44, .int .u8 50, .int .u8 51, .int .u8 60] 5)) (w7.heap.size + 1) 24 #[.bool true, .int .u64 (V24 : Int), .int .u64 (V32 : Int)] := (by have h := (Blk.new (w7.alloc (.cells #[.bool true, .int .u64 (V8 : Int), .int .u64 (V16 : Int)] 24)) 24 #[.bool true, .int .u64 (V24 : Int), .int .u64 (V32 : Int)]).alloc (.cells #[.int .u8 0, .int .u8 43, .int .u8 44, .int .u8 50, .int .u8 51, .int .u8 60] 5); simpa using h); have hb8 : Below w.heap.size w (((w7.alloc (.cells #[.bool true, .int .u64 (V8 : Int), .int .u64 (V16 : Int)] 24)).alloc (.cells #[.bool true, .int .u64 (V24 : Int), .int .u64 (V32 : Int)] 24)).alloc (.cells #[.int .u8 0, .int .u8 43, .int .u8 44, .int .u8 50, .int .u8 51, .int .u8 60] 5)) := after (after (after h6.out.st.bel (boxed _ _)) (boxed _ _)) (boxed _ _); clear c0 c1 c2 c3 c4 c5 c6 c7 c8 fr HB x5 x6 h5 h6; generalize (((w7.alloc (.cells #[.bool true, .int .u64 (V8 : Int), .int .u64 (V16 : Int)] 24)).alloc (.cells #[.bool true, .int .u64 (V24 : Int), .int .u64 (V32 : Int)] 24)).alloc (.cells #[.int .u8 0, .int .u8 43, .int .u8 44, .int .u8 50, .int .u8 51, .int .u8 60] 5)) = v8 at hB8 hD8 hE8 hb8 ⊢; have c0 := hB8.cell 0; have c1 := hB8.cell 1; have c2 := hB8.cell 2; have c3 := hB8.cell 3; have c4 := hB8.cell 4; have c5 := hB8.cell 5; have c6 := hB8.cell 6; have c7 := hB8.cell 7; have c8 := hB8.cell 8; have d0 := hD8.cell 0; have e0 := hE8.cell 0; have d1 := hD8.cell 1; have e1 := hE8.cell 1; have d2 := hD8.cell 2; have e2 := hE8.cell 2; simp at c0 c1 c2 c3 c4 c5 c6 c7 c8 d0 d1 d2 e0 e1 e2; have fr := (fun i => hB8.frozen i); have HB8 := Lib.hid hB8; have Hb8 := Lib.hid hb8; clear hB8 hb8 hD8 hE8))
      go_region
      go_wp2_with fail
      rw [HE.out, HP.out, if_neg (by have := Hq.out; omega), if_neg (by rw [HExt.out]; decide)]
      exact ret_pkd (g := w.heap.size) (x := 2) (y := 3) (e := 0) rfl HB8.out Hb8.out (Nat.le_refl _) rfl rfl rfl
    case true =>
      go_wp2_with (first
        | (go_at_call 68; (with_reducible refine (six1_s6 h4.out hne hpb hbb hs1 (by omega)).mono ?_); rintro r w6 ⟨he, g⟩; rw [HV8.out, HV16.out] at he; subst he; have x5 := g.cell; have h5 := Lib.hid g; clear g)
        | (go_at_call 68; (with_reducible refine (six1_s6 h5.out hne hpb hbb hs1 (by omega)).mono ?_); rintro r w7 ⟨he, g⟩; rw [HV24.out, HV32.out] at he; subst he; have x6 := g.cell; have q1 := g.ptr.lt; have q2 := g.st.blk.lt; have hB := g.st.blk; have c0 := hB.cell 0; have c1 := hB.cell 1; have c2 := hB.cell 2; have c3 := hB.cell 3; have c4 := hB.cell 4; have c5 := hB.cell 5; have c6 := hB.cell 6; have c7 := hB.cell 7; have c8 := hB.cell 8; simp at c0 c1 c2 c3 c4 c5 c6 c7 c8; have fr := (fun i => hB.frozen i); have HB := Lib.hid hB; clear hB; have HC := Lib.hid (fun o1 o2 => extra_any (w := (w7.alloc o1).alloc o2) (g := w7.heap.size + 1 + 1) (by simp) X6 _ HExt.out); have h6 := Lib.hid g; clear g)
        | (go_at_call 67; refine (Fault_st ((h6.out.below (boxed _ _)).below (boxed _ _)).st).mono ?_; rintro r wf ⟨rfl, rfl⟩)
        | (go_at_call 70; refine (Left_st ((h6.out.below (boxed _ _)).below (boxed _ _)).st (by omega)).mono ?_; rintro r wf ⟨he, rfl⟩; rw [HL.out] at he; subst he)
        | (go_at_call 71; have HCo := HC.out; with_reducible refine Calls.mono (HCo _ _) ?_; rintro r wf ⟨rfl, rfl⟩; clear HCo HC; have hB8 : Blk (((w7.alloc (.cells #[.bool true, .int .u64 (V8 : Int), .int .u64 (V16 : Int)] 24)).alloc (.cells #[.bool true, .int .u64 (V24 : Int), .int .u64 (V32 : Int)] 24)).alloc (.cells #[.int .u8 0, .int .u8 43, .int .u8 44, .int .u8 50, .int .u8 51, .int .u8 60] 5)) w.heap.size 26 #[.bool false, .int .u64 0, .int .u64 0, .bool false, .int .u64 0, .int .u64 0, .int .u8 0, .int .u8 0, .string ⟨#[]⟩] := ((HB.out.alloc _).alloc _).alloc _; have hD8 : Blk (((w7.alloc (.cells #[.bool true, .int .u64 (V8 : Int), .int .u64 (V16 : Int)] 24)).alloc (.cells #[.bool true, .int .u64 (V24 : Int), .int .u64 (V32 : Int)] 24)).alloc (.cells #[.int .u8 0, .int .u8 43, .int .u8 44, .int .u8 50, .int .u8 51, .int .u8 60] 5)) w7.heap.size 24 #[.bool true, .int .u64 (V8 : Int), .int .u64 (V16 : Int)] := ((Blk.new w7 24 #[.bool true, .int .u64 (V8 : Int), .int .u64 (V16 : Int)]).alloc _).alloc _; have hE8 : Blk (((w7.alloc (.cells #[.bool true, .int .u64 (V8 : Int), .int .u64 (V16 : Int)] 24)).alloc (.cells #[.bool true, .int .u64 (V24 : Int), .int .u64 (V32 : Int)] 24)).alloc (.cells #[.int .u8 0, .int .u8 43, .int .u8 44, .int .u8 50, .int .u8 51, .int .u8 60] 5)) (w7.heap.size + 1) 24 #[.bool true, .int .u64 (V24 : Int), .int .u64 (V32 : Int)] := (by have h := (Blk.new (w7.alloc (.cells #[.bool true, .int .u64 (V8 : Int), .int .u64 (V16 : Int)] 24)) 24 #[.bool true, .int .u64 (V24 : Int), .int .u64 (V32 : Int)]).alloc (.cells #[.int .u8 0, .int .u8 43, .int .u8 44, .int .u8 50, .int .u8 51, .int .u8 60] 5); simpa using h); have hb8 : Below w.heap.size w (((w7.alloc (.cells #[.bool true, .int .u64 (V8 : Int), .int .u64 (V16 : Int)] 24)).alloc (.cells #[.bool true, .int .u64 (V24 : Int), .int .u64 (V32 : Int)] 24)).alloc (.cells #[.int .u8 0, .int .u8 43, .int .u8 44, .int .u8 50, .int .u8 51, .int .u8 60] 5)) := after (after (after h6.out.st.bel (boxed _ _)) (boxed _ _)) (boxed _ _); clear c0 c1 c2 c3 c4 c5 c6 c7 c8 fr HB x5 x6 h5 h6; generalize (((w7.alloc (.cells #[.bool true, .int .u64 (V8 : Int), .int .u64 (V16 : Int)] 24)).alloc (.cells #[.bool true, .int .u64 (V24 : Int), .int .u64 (V32 : Int)] 24)).alloc (.cells #[.int .u8 0, .int .u8 43, .int .u8 44, .int .u8 50, .int .u8 51, .int .u8 60] 5)) = v8 at hB8 hD8 hE8 hb8 ⊢; have c0 := hB8.cell 0; have c1 := hB8.cell 1; have c2 := hB8.cell 2; have c3 := hB8.cell 3; have c4 := hB8.cell 4; have c5 := hB8.cell 5; have c6 := hB8.cell 6; have c7 := hB8.cell 7; have c8 := hB8.cell 8; have d0 := hD8.cell 0; have e0 := hE8.cell 0; have d1 := hD8.cell 1; have e1 := hE8.cell 1; have d2 := hD8.cell 2; have e2 := hE8.cell 2; simp at c0 c1 c2 c3 c4 c5 c6 c7 c8 d0 d1 d2 e0 e1 e2; have fr := (fun i => hB8.frozen i); have HB8 := Lib.hid hB8; have Hb8 := Lib.hid hb8; clear hB8 hb8 hD8 hE8))
      rw [HE.out, if_neg (by have := Hq.out; omega), if_pos HExt.out, Res_ne (by decide) _ Pk.zero]
      exact ret_pk (g := w.heap.size) (x := 2) (y := 3) (e := 133) rfl HB8.out Hb8.out (Nat.le_refl _) rfl rfl rfl
  · have t1 : ((V4 : Int) != (L : Int)) = true := by simp; omega
    have Hq := Lib.hid hq
    clear hq
    go_wp2_with (first
      | (go_at_call 68; (with_reducible refine (six1_s6 h4.out hne hpb hbb hs1 (by omega)).mono ?_); rintro r w6 ⟨he, g⟩; rw [HV8.out, HV16.out] at he; subst he; have x5 := g.cell; have h5 := Lib.hid g; clear g)
      | (go_at_call 68; (with_reducible refine (six1_s6 h5.out hne hpb hbb hs1 (by omega)).mono ?_); rintro r w7 ⟨he, g⟩; rw [HV24.out, HV32.out] at he; subst he; have x6 := g.cell; have q1 := g.ptr.lt; have q2 := g.st.blk.lt; have hB := g.st.blk; have c0 := hB.cell 0; have c1 := hB.cell 1; have c2 := hB.cell 2; have c3 := hB.cell 3; have c4 := hB.cell 4; have c5 := hB.cell 5; have c6 := hB.cell 6; have c7 := hB.cell 7; have c8 := hB.cell 8; simp at c0 c1 c2 c3 c4 c5 c6 c7 c8; have fr := (fun i => hB.frozen i); have HB := Lib.hid hB; clear hB; have h6 := Lib.hid g; clear g)
      | (go_at_call 67; refine (Fault_st ((h6.out.below (boxed _ _)).below (boxed _ _)).st).mono ?_; rintro r wf ⟨rfl, rfl⟩)
      | (go_at_call 70; refine (Left_st ((h6.out.below (boxed _ _)).below (boxed _ _)).st (by omega)).mono ?_; rintro r wf ⟨he, rfl⟩; rw [HL.out] at he; subst he))
    rw [HE.out, if_pos Hq.out, Res_ne (by decide) _ Pk.zero]
    exact ret_pkaa (g := w.heap.size) (x := 2) (y := 3) (e := 8) rfl HB.out h6.out.st.bel (Nat.le_refl _) rfl rfl rfl
end Go.Proofs.YtomndcjgdfhmbaaGreatDoor
