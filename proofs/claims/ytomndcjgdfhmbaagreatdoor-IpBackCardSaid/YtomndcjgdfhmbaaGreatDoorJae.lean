/- Joined out of: PfB PfC PfD. -/
import Derived.Test.YtomndcjgdfhmbaaGreatDoorJad
import Derived.Test.YtomndcjgdfhmbaaGreatDoorJac
import Derived.Laws.BitsAllLaws
import Derived.BigQuiet
import Derived.Deep.QuietTactic
import Derived.Deep.RegionHeld3
import Derived.BigRegion
import Derived.Deep.DrawnRows
import Derived.Deep.CutBlock
set_option linter.unusedVariables false
set_option linter.unusedSimpArgs false

/- Prefixes: masks, size, bit: the walks. -/
namespace Go.Proofs.YtomndcjgdfhmbaaGreatDoor
open Go.RowKit

theorem shl_mk {k : Nat} (h : k ≤ 64) : IntKind.u64.wrap (18446744073709551615 * 2 ^ k) = ((mk k : Nat) : Int) := by
  have h1 := pow_le64 h
  have h0 : 0 < 2 ^ k := Nat.pow_pos (by decide)
  rw [IntKind.wrap_u64]
  unfold mk
  rw [show (2 : Int) ^ k = ((2 ^ k : Nat) : Int) by simp]
  generalize 2 ^ k = q at h1 h0
  omega
theorem shr_nat (x k : Nat) : (x : Int) / 2 ^ k = ((x / 2 ^ k : Nat) : Int) := by simp
theorem bit_one (x k : Nat) (hx : x < 18446744073709551616) : (bits .and .u64 ((x : Int) / 2 ^ k) 1 == 1) = decide (x / 2 ^ k % 2 = 1) := by
  have h1 : x / 2 ^ k < 18446744073709551616 := Nat.lt_of_le_of_lt (Nat.div_le_self _ _) hx
  have h2 := u64_and_nat (x / 2 ^ k) 1 h1 (by decide)
  rw [shr_nat, show (1 : Int) = ((1 : Nat) : Int) from rfl, h2, Nat.and_one_is_mod]
  rw [Bool.eq_iff_iff, beq_iff_eq, decide_eq_true_iff]
  omega
theorem ret_two {i j i' j' : Int} (h : i = i') (h' : j = j') : Ending.returned (.tuple #[.int .u64 i, .int .u64 j]) = .returned (.tuple #[.int .u64 i', .int .u64 j']) := by rw [h, h']
theorem ret_b {a b : Bool} (h : a = b) : Ending.returned (.bool a) = .returned (.bool b) := by rw [h]
theorem size_any (a : Ad) (w : World) : Calls Tryz.prog 52 #[.agg a.cells] w fun r w' => r = .returned (.int .u8 (a.size : Int)) ∧ Below w.heap.size w w' := by
  obtain ⟨v, h, l⟩ := a
  unfold Ad.cells
  cases v
  all_goals
    go_enter Tryz.func52, Tryz.ntmps52
    go_wp2_with fail
    go_ret
    exact ⟨rfl, boxed _ _⟩
theorem rsize_any (a : Ad) (w : World) : Calls Tryz.prog 57 #[.agg a.cells] w fun r w' => r = .returned (.int .i64 (a.size : Int)) ∧ Below w.heap.size w w' := by
  obtain ⟨v, h, l⟩ := a
  unfold Ad.cells
  cases v
  all_goals
    go_enter Tryz.func57, Tryz.ntmps57
    go_wp2_with fail
    go_ret
    exact ⟨rfl, boxed _ _⟩
theorem masks_any (a : Ad) (n : Nat) (hn : n ≤ a.size) (w : World) : Calls Tryz.prog 53 #[.agg a.cells, .int .u8 (n : Int)] w fun r w' => r = .returned (.tuple #[.int .u64 (mk (kH a n) : Int), .int .u64 (mk (kL a n) : Int)]) ∧ Below w.heap.size w w' := by
  obtain ⟨v, h, l⟩ := a
  unfold Ad.cells Ad.size kH kL at *
  cases v with
  | false =>
    simp only [Bool.false_eq_true, if_false] at hn ⊢
    have e1 : ((32 : Int) - (n : Int)).toNat = 32 - n := by omega
    go_enter Tryz.func53, Tryz.ntmps53
    go_wp2_with fail
    go_ret2
    exact ⟨ret_two rfl (shl_mk (by omega)), boxed _ _⟩
  | true =>
    simp only [if_true] at hn ⊢
    have e1 : ((64 : Int) - (n : Int)).toNat = 64 - n := by omega
    have e2 : ((128 : Int) - (n : Int)).toNat = 128 - n := by omega
    by_cases hc : n ≤ 64
    · rw [if_pos hc]
      go_enter Tryz.func53, Tryz.ntmps53
      go_wp2_with fail
      go_ret2
      exact ⟨ret_two (shl_mk (by omega)) rfl, boxed _ _⟩
    · rw [if_neg hc]
      have e3 : mk (64 - n) = 18446744073709551615 := by rw [show 64 - n = 0 by omega]; rfl
      rw [e3]
      go_enter Tryz.func53, Tryz.ntmps53
      go_wp2_with fail
      go_ret2
      exact ⟨ret_two rfl (shl_mk (by omega)), boxed _ _⟩
theorem bit_any (a : Ad) (i : Nat) (ok : a.Ok) (hi : i < a.size) (w : World) : Calls Tryz.prog 58 #[.agg a.cells, .int .i64 (i : Int)] w fun r w' => r = .returned (.bool (bitA a i)) ∧ Below w.heap.size w w' := by
  obtain ⟨v, h, l⟩ := a
  have okh := ok.hi
  have okl := ok.lo
  simp only at okh okl
  unfold Ad.cells bitA Ad.size Ad.val at *
  cases v with
  | false =>
    simp only [Bool.false_eq_true, if_false] at hi ⊢
    have e1 : ((31 : Int) - (i : Int)).toNat = 31 - i := by omega
    go_enter Tryz.func58, Tryz.ntmps58
    go_wp2_with fail
    go_ret
    exact ⟨ret_b (bit_one l _ okl), boxed _ _⟩
  | true =>
    simp only [if_true] at hi ⊢
    have e1 : ((63 : Int) - (i : Int)).toNat = 63 - i := by omega
    have e2 : ((127 : Int) - (i : Int)).toNat = 127 - i := by omega
    by_cases hc : i < 64
    · have hb : decide ((h * 2 ^ 64 + l) / 2 ^ (128 - 1 - i) % 2 = 1) = decide (h / 2 ^ (63 - i) % 2 = 1) := by
        rw [show 128 - 1 - i = (63 - i) + 64 by omega, glue_div _ _ _ okl]
      rw [hb]
      clear hb
      go_enter Tryz.func58, Tryz.ntmps58
      go_wp2_with fail
      go_ret
      exact ⟨ret_b (bit_one h _ okh), boxed _ _⟩
    · have hb : decide ((h * 2 ^ 64 + l) / 2 ^ (128 - 1 - i) % 2 = 1) = decide (l / 2 ^ (127 - i) % 2 = 1) := by
        rw [show 128 - 1 - i = 127 - i by omega, low_div _ _ _ (by omega)]
        have : 64 - (127 - i) = (63 - (127 - i)) + 1 := by omega
        rw [this, Nat.pow_succ, ← Nat.mul_assoc]
        refine decide_eq_decide.2 ?_
        omega
      rw [hb]
      clear hb
      go_enter Tryz.func58, Tryz.ntmps58
      go_wp2_with fail
      go_ret
      exact ⟨ret_b (bit_one l _ okl), boxed _ _⟩
end Go.Proofs.YtomndcjgdfhmbaaGreatDoor

/- MayPrefix: the walks. (Printed by pf_may.py.) -/
namespace Go.Proofs.YtomndcjgdfhmbaaGreatDoor
open Go.RowKit
attribute [local go_sem ↓] Go.wp_at_zero Go.wp_at_succ

set_option maxHeartbeats 2000000 in
set_option maxRecDepth 100000 in
theorem mayPrefix_any (p : Pf) (ok : p.Ok) (w : World) : Calls Tryz.prog 22 #[.agg p.cells] w (Got (.bool (pmay p)) w) := by
  have HE := Lib.hid (pmay_eq (p := p) ok.a)
  have Hm := Lib.hid (mayAddr_any p.a ok.a)
  have Hs := Lib.hid (size_any p.a)
  have hn := ok.bits
  have hh := ok.a.hi
  have hl := ok.a.lo
  have HX : p.bits ≤ p.a.size → ∀ w, Calls Tryz.prog 53 #[.agg p.a.cells, .int .u8 (p.bits : Int)] w fun r w' => r = .returned (.tuple #[.int .u64 (mk (kH p.a p.bits) : Int), .int .u64 (mk (kL p.a p.bits) : Int)]) ∧ Below w.heap.size w w' := fun h w => masks_any p.a p.bits h w
  have eH := andNot_mk hh (kH_le p.a p.bits)
  have eL := andNot_mk hl (kL_le (a := p.a) (n := p.bits))
  generalize mk (kH p.a p.bits) = MH at HX eH
  generalize mk (kL p.a p.bits) = ML at HX eL
  generalize p.a.hi % 2 ^ kH p.a p.bits = XH at HE eH
  generalize p.a.lo % 2 ^ kL p.a p.bits = XL at HE eL
  generalize hR : pmay p = RR at HE ⊢
  clear hR
  generalize hM : p.a.may = M at Hm HE HX
  generalize hS : p.a.size = SZ at Hs HE HX
  have hS2 : SZ ≤ 128 := by rw [← hS]; exact size_le _
  clear hM hS
  obtain ⟨⟨v, h, l⟩, n⟩ := p
  unfold Pf.cells
  unfold Ad.cells at *
  simp only at hn hh hl HE Hm Hs HX eH eL ⊢
  have hB0 := Blk.new w 39 #[.bool v, .int .u64 (h : Int), .int .u64 (l : Int), .int .u8 (n : Int)]
  have hb0 := (boxed w (.cells #[.bool v, .int .u64 (h : Int), .int .u64 (l : Int), .int .u8 (n : Int)] 39)).drew
  have EH := Lib.hid eH
  have EL := Lib.hid eL
  clear eH eL
  cases M with
  | false =>
    have e : RR = false := by rw [HE.out]; rfl
    rw [e]
    go_enter Tryz.func22, Tryz.ntmps22
    go_wp2_with fail
    generalize w.alloc (.cells #[.bool v, .int .u64 (h : Int), .int .u64 (l : Int), .int .u8 (n : Int)] 39) = v0 at hB0 hb0 ⊢
    generalize hg : w.heap.size = g at hB0 ⊢
    have hB0 := hB0.drew
    refine wp_region_held_drew (S := (fun w' => w'.cell? ⟨g, 0, none⟩ = some (.bool v) ∧ w'.cell? ⟨g, 1, none⟩ = some (.int .u64 (h : Int)) ∧ w'.cell? ⟨g, 2, none⟩ = some (.int .u64 (l : Int)) ∧ w'.cell? ⟨g, 3, none⟩ = some (.int .u8 (n : Int)))) (by kernel_rfl) ⟨hB0.cell 0, hB0.cell 1, hB0.cell 2, hB0.cell 3⟩ (fun hHeld => ?_)
    refine' wpAnyH_take (i := 0) (v := _) rfl (by kernel_rfl) (by kernel_rfl) (by kernel_rfl) (fun _ _ _ h => h) (Or.inl ⟨by rfl, ?ly1⟩) (by assumption) ?lrest1
    case ly1 =>
      intro w hSw
      try dsimp only at hSw
      go_simp
      try with_reducible rfl
    try simp only [Act.put, List.setIfInBounds_toArray, List.set_cons_zero, List.set_cons_succ, List.getElem_toArray, List.getElem_cons_zero, List.getElem_cons_succ]
    refine' wpAnyH_take (i := 1) (v := _) rfl (by kernel_rfl) (by kernel_rfl) (by kernel_rfl) (fun _ _ _ h => h) (Or.inl ⟨by rfl, ?ly2⟩) (by assumption) ?lrest2
    case ly2 =>
      intro w hSw
      try dsimp only at hSw
      go_simp
      try with_reducible rfl
    try simp only [Act.put, List.setIfInBounds_toArray, List.set_cons_zero, List.set_cons_succ, List.getElem_toArray, List.getElem_cons_zero, List.getElem_cons_succ]
    refine wpAnyH_ready (rs := [2]) (by kernel_rfl) (by simp) ?_
    refine AllReadyH.cons rfl (fun K hK => ?_) AllReadyH.nil
    go_simp
    refine (Hm.out _).mono ?_
    rintro r v1 ⟨rfl, d1⟩
    have hb1 := after hb0 d1
    have hB1 := hB0.below d1 hB0.lt
    refine hK.out _ _ ⟨hB1.cell 0, hB1.cell 1, hB1.cell 2, hB1.cell 3⟩ (fun hHeld => ?_)
    clear hK K
    try simp only [Act.put, List.setIfInBounds_toArray, List.set_cons_zero, List.set_cons_succ, List.getElem_toArray, List.getElem_cons_zero, List.getElem_cons_succ]
    refine' wpAnyH_take (i := 3) (v := _) rfl (by kernel_rfl) (by kernel_rfl) (by kernel_rfl) (fun _ _ _ h => h) (Or.inl ⟨by rfl, ?ly4⟩) (by assumption) ?lrest4
    case ly4 =>
      intro w hSw
      try dsimp only at hSw
      go_simp
      try with_reducible rfl
    try simp only [Act.put, List.setIfInBounds_toArray, List.set_cons_zero, List.set_cons_succ, List.getElem_toArray, List.getElem_cons_zero, List.getElem_cons_succ]
    refine' wpAnyH_take (i := 4) (v := _) rfl (by kernel_rfl) (by kernel_rfl) (by kernel_rfl) (fun _ _ _ h => h) (Or.inl ⟨by rfl, ?ly5⟩) (by assumption) ?lrest5
    case ly5 =>
      intro w hSw
      try dsimp only at hSw
      go_simp
      try with_reducible rfl
    try simp only [Act.put, List.setIfInBounds_toArray, List.set_cons_zero, List.set_cons_succ, List.getElem_toArray, List.getElem_cons_zero, List.getElem_cons_succ]
    refine' wpAnyH_take (i := 5) (v := undef) rfl (by kernel_rfl) (by kernel_rfl) (by kernel_rfl) (fun _ _ _ h => h) (Or.inr ⟨by rfl, rfl⟩) (by assumption) ?lrest6
    try simp only [Act.put, List.setIfInBounds_toArray, List.set_cons_zero, List.set_cons_succ, List.getElem_toArray, List.getElem_cons_zero, List.getElem_cons_succ]
    refine' wpAnyH_take (i := 6) (v := undef) rfl (by kernel_rfl) (by kernel_rfl) (by kernel_rfl) (fun _ _ _ h => h) (Or.inr ⟨by rfl, rfl⟩) (by assumption) ?lrest7
    try simp only [Act.put, List.setIfInBounds_toArray, List.set_cons_zero, List.set_cons_succ, List.getElem_toArray, List.getElem_cons_zero, List.getElem_cons_succ]
    refine' wpAnyH_take (i := 7) (v := undef) rfl (by kernel_rfl) (by kernel_rfl) (by kernel_rfl) (fun _ _ _ h => h) (Or.inr ⟨by rfl, rfl⟩) (by assumption) ?lrest8
    try simp only [Act.put, List.setIfInBounds_toArray, List.set_cons_zero, List.set_cons_succ, List.getElem_toArray, List.getElem_cons_zero, List.getElem_cons_succ]
    refine' wpAnyH_take (i := 8) (v := undef) rfl (by kernel_rfl) (by kernel_rfl) (by kernel_rfl) (fun _ _ _ h => h) (Or.inr ⟨by rfl, rfl⟩) (by assumption) ?lrest9
    try simp only [Act.put, List.setIfInBounds_toArray, List.set_cons_zero, List.set_cons_succ, List.getElem_toArray, List.getElem_cons_zero, List.getElem_cons_succ]
    refine' wpAnyH_take (i := 9) (v := undef) rfl (by kernel_rfl) (by kernel_rfl) (by kernel_rfl) (fun _ _ _ h => h) (Or.inr ⟨by rfl, rfl⟩) (by assumption) ?lrest10
    try simp only [Act.put, List.setIfInBounds_toArray, List.set_cons_zero, List.set_cons_succ, List.getElem_toArray, List.getElem_cons_zero, List.getElem_cons_succ]
    refine' wpAnyH_take (i := 10) (v := undef) rfl (by kernel_rfl) (by kernel_rfl) (by kernel_rfl) (fun _ _ _ h => h) (Or.inr ⟨by rfl, rfl⟩) (by assumption) ?lrest11
    try simp only [Act.put, List.setIfInBounds_toArray, List.set_cons_zero, List.set_cons_succ, List.getElem_toArray, List.getElem_cons_zero, List.getElem_cons_succ]
    refine' wpAnyH_take (i := 11) (v := _) rfl (by kernel_rfl) (by kernel_rfl) (by kernel_rfl) (fun _ _ _ h => h) (Or.inl ⟨by rfl, ?ly12⟩) (by assumption) ?lrest12
    case ly12 =>
      intro w hSw
      try dsimp only at hSw
      go_simp
      try with_reducible rfl
    try simp only [Act.put, List.setIfInBounds_toArray, List.set_cons_zero, List.set_cons_succ, List.getElem_toArray, List.getElem_cons_zero, List.getElem_cons_succ]
    refine wpAnyH_done (by kernel_rfl) ?_ _
    go_wp2_with fail
    go_ret
    exact ⟨rfl, hb1⟩
  | true =>
    by_cases hle : n ≤ SZ
    · have HX2 := Lib.hid (HX hle)
      clear HX
      have hle' : ¬ (SZ : Int) < (n : Int) := by omega
      have hle2 : decide ((SZ : Int) < (n : Int)) = false := decide_eq_false hle'
      have hle3 : decide (SZ < n) = false := decide_eq_false (by omega)
      have e : RR = (decide (XH = 0) && decide (XL = 0)) := by rw [HE.out, decide_eq_true hle]; rfl
      have He := Lib.hid e
      clear e
      go_enter Tryz.func22, Tryz.ntmps22
      go_wp2_with fail
      generalize w.alloc (.cells #[.bool v, .int .u64 (h : Int), .int .u64 (l : Int), .int .u8 (n : Int)] 39) = v0 at hB0 hb0 ⊢
      generalize hg : w.heap.size = g at hB0 ⊢
      have hB0 := hB0.drew
      refine wp_region_held_drew (S := (fun w' => w'.cell? ⟨g, 0, none⟩ = some (.bool v) ∧ w'.cell? ⟨g, 1, none⟩ = some (.int .u64 (h : Int)) ∧ w'.cell? ⟨g, 2, none⟩ = some (.int .u64 (l : Int)) ∧ w'.cell? ⟨g, 3, none⟩ = some (.int .u8 (n : Int)))) (by kernel_rfl) ⟨hB0.cell 0, hB0.cell 1, hB0.cell 2, hB0.cell 3⟩ (fun hHeld => ?_)
      refine' wpAnyH_take (i := 0) (v := _) rfl (by kernel_rfl) (by kernel_rfl) (by kernel_rfl) (fun _ _ _ h => h) (Or.inl ⟨by rfl, ?ly13⟩) (by assumption) ?lrest13
      case ly13 =>
        intro w hSw
        try dsimp only at hSw
        go_simp
        try with_reducible rfl
      try simp only [Act.put, List.setIfInBounds_toArray, List.set_cons_zero, List.set_cons_succ, List.getElem_toArray, List.getElem_cons_zero, List.getElem_cons_succ]
      refine' wpAnyH_take (i := 1) (v := _) rfl (by kernel_rfl) (by kernel_rfl) (by kernel_rfl) (fun _ _ _ h => h) (Or.inl ⟨by rfl, ?ly14⟩) (by assumption) ?lrest14
      case ly14 =>
        intro w hSw
        try dsimp only at hSw
        go_simp
        try with_reducible rfl
      try simp only [Act.put, List.setIfInBounds_toArray, List.set_cons_zero, List.set_cons_succ, List.getElem_toArray, List.getElem_cons_zero, List.getElem_cons_succ]
      refine wpAnyH_ready (rs := [2]) (by kernel_rfl) (by simp) ?_
      refine AllReadyH.cons rfl (fun K hK => ?_) AllReadyH.nil
      go_simp
      refine (Hm.out _).mono ?_
      rintro r v1 ⟨rfl, d1⟩
      have hb1 := after hb0 d1
      have hB1 := hB0.below d1 hB0.lt
      refine hK.out _ _ ⟨hB1.cell 0, hB1.cell 1, hB1.cell 2, hB1.cell 3⟩ (fun hHeld => ?_)
      clear hK K
      try simp only [Act.put, List.setIfInBounds_toArray, List.set_cons_zero, List.set_cons_succ, List.getElem_toArray, List.getElem_cons_zero, List.getElem_cons_succ]
      refine' wpAnyH_take (i := 3) (v := _) rfl (by kernel_rfl) (by kernel_rfl) (by kernel_rfl) (fun _ _ _ h => h) (Or.inl ⟨by rfl, ?ly16⟩) (by assumption) ?lrest16
      case ly16 =>
        intro w hSw
        try dsimp only at hSw
        go_simp
        try with_reducible rfl
      try simp only [Act.put, List.setIfInBounds_toArray, List.set_cons_zero, List.set_cons_succ, List.getElem_toArray, List.getElem_cons_zero, List.getElem_cons_succ]
      refine' wpAnyH_take (i := 4) (v := _) rfl (by kernel_rfl) (by kernel_rfl) (by kernel_rfl) (fun _ _ _ h => h) (Or.inl ⟨by rfl, ?ly17⟩) (by assumption) ?lrest17
      case ly17 =>
        intro w hSw
        try dsimp only at hSw
        go_simp
        try with_reducible rfl
      try simp only [Act.put, List.setIfInBounds_toArray, List.set_cons_zero, List.set_cons_succ, List.getElem_toArray, List.getElem_cons_zero, List.getElem_cons_succ]
      refine' wpAnyH_take (i := 5) (v := _) rfl (by kernel_rfl) (by kernel_rfl) (by kernel_rfl) (fun _ _ _ h => h) (Or.inl ⟨by rfl, ?ly18⟩) (by assumption) ?lrest18
      case ly18 =>
        intro w hSw
        try dsimp only at hSw
        go_simp
        try with_reducible rfl
      try simp only [Act.put, List.setIfInBounds_toArray, List.set_cons_zero, List.set_cons_succ, List.getElem_toArray, List.getElem_cons_zero, List.getElem_cons_succ]
      refine' wpAnyH_take (i := 6) (v := _) rfl (by kernel_rfl) (by kernel_rfl) (by kernel_rfl) (fun _ _ _ h => h) (Or.inl ⟨by rfl, ?ly19⟩) (by assumption) ?lrest19
      case ly19 =>
        intro w hSw
        try dsimp only at hSw
        go_simp
        try with_reducible rfl
      try simp only [Act.put, List.setIfInBounds_toArray, List.set_cons_zero, List.set_cons_succ, List.getElem_toArray, List.getElem_cons_zero, List.getElem_cons_succ]
      refine' wpAnyH_take (i := 7) (v := _) rfl (by kernel_rfl) (by kernel_rfl) (by kernel_rfl) (fun _ _ _ h => h) (Or.inl ⟨by rfl, ?ly20⟩) (by assumption) ?lrest20
      case ly20 =>
        intro w hSw
        try dsimp only at hSw
        go_simp
        try with_reducible rfl
      try simp only [Act.put, List.setIfInBounds_toArray, List.set_cons_zero, List.set_cons_succ, List.getElem_toArray, List.getElem_cons_zero, List.getElem_cons_succ]
      refine' wpAnyH_take (i := 8) (v := _) rfl (by kernel_rfl) (by kernel_rfl) (by kernel_rfl) (fun _ _ _ h => h) (Or.inl ⟨by rfl, ?ly21⟩) (by assumption) ?lrest21
      case ly21 =>
        intro w hSw
        try dsimp only at hSw
        go_simp
        try with_reducible rfl
      try simp only [Act.put, List.setIfInBounds_toArray, List.set_cons_zero, List.set_cons_succ, List.getElem_toArray, List.getElem_cons_zero, List.getElem_cons_succ]
      refine wpAnyH_ready (rs := [9]) (by kernel_rfl) (by simp) ?_
      refine AllReadyH.cons rfl (fun K hK => ?_) AllReadyH.nil
      go_simp
      refine (Hs.out _).mono ?_
      rintro r v2 ⟨rfl, d2⟩
      have hb2 := after hb1 d2
      have hB2 := hB1.below d2 hB1.lt
      refine hK.out _ _ ⟨hB2.cell 0, hB2.cell 1, hB2.cell 2, hB2.cell 3⟩ (fun hHeld => ?_)
      clear hK K
      try simp only [Act.put, List.setIfInBounds_toArray, List.set_cons_zero, List.set_cons_succ, List.getElem_toArray, List.getElem_cons_zero, List.getElem_cons_succ]
      refine' wpAnyH_take (i := 10) (v := _) rfl (by kernel_rfl) (by kernel_rfl) (by kernel_rfl) (fun _ _ _ h => h) (Or.inl ⟨by rfl, ?ly23⟩) (by assumption) ?lrest23
      case ly23 =>
        intro w hSw
        try dsimp only at hSw
        go_simp
        try with_reducible rfl
      try simp only [Act.put, List.setIfInBounds_toArray, List.set_cons_zero, List.set_cons_succ, List.getElem_toArray, List.getElem_cons_zero, List.getElem_cons_succ]
      refine' wpAnyH_take (i := 11) (v := _) rfl (by kernel_rfl) (by kernel_rfl) (by kernel_rfl) (fun _ _ _ h => h) (Or.inl ⟨by rfl, ?ly24⟩) (by assumption) ?lrest24
      case ly24 =>
        intro w hSw
        try dsimp only at hSw
        go_simp
        try with_reducible rfl
      try simp only [Act.put, List.setIfInBounds_toArray, List.set_cons_zero, List.set_cons_succ, List.getElem_toArray, List.getElem_cons_zero, List.getElem_cons_succ]
      refine wpAnyH_done (by kernel_rfl) ?_ _
      have c0 := hB2.cell 0
      have c1 := hB2.cell 1
      have c2 := hB2.cell 2
      have c3 := hB2.cell 3
      simp at c0 c1 c2 c3
      have HB2 := Lib.hid hB2
      have Hb2 := Lib.hid hb2
      have eH := EH.out
      have eL := EL.out
      have hg2 : g < v2.heap.size := hB2.lt
      clear hB0 hb0 hB1 hb1 hB2 hb2
      by_cases h1 : XH = 0
      all_goals by_cases h2 : XL = 0
      all_goals
        have q1 : ((XH : Int) == 0) = decide (XH = 0) := by rw [Bool.eq_iff_iff, beq_iff_eq, decide_eq_true_iff]; omega
        have q2 : ((XL : Int) == 0) = decide (XL = 0) := by rw [Bool.eq_iff_iff, beq_iff_eq, decide_eq_true_iff]; omega
        first | rw [decide_eq_true h1] at q1 He | rw [decide_eq_false h1] at q1 He
        first | rw [decide_eq_true h2] at q2 He | rw [decide_eq_false h2] at q2 He
        clear h1 h2
        go_wp2_with (go_at_call 53; (with_reducible refine (HX2.out _).mono ?_); rintro r v3 ⟨rfl, d3⟩; have hc3 := (bcell d3).1)
        go_ret
        exact ⟨show Ending.returned (.bool _) = _ by rw [He.out]; rfl, after Hb2.out d3⟩
    · have hle' : (SZ : Int) < (n : Int) := by omega
      have hle2 : decide ((SZ : Int) < (n : Int)) = true := decide_eq_true hle'
      have hle3 : decide (SZ < n) = true := decide_eq_true (by omega)
      have e : RR = false := by rw [HE.out, decide_eq_false hle]; rfl
      rw [e]
      clear HX e
      go_enter Tryz.func22, Tryz.ntmps22
      go_wp2_with fail
      generalize w.alloc (.cells #[.bool v, .int .u64 (h : Int), .int .u64 (l : Int), .int .u8 (n : Int)] 39) = v0 at hB0 hb0 ⊢
      generalize hg : w.heap.size = g at hB0 ⊢
      have hB0 := hB0.drew
      refine wp_region_held_drew (S := (fun w' => w'.cell? ⟨g, 0, none⟩ = some (.bool v) ∧ w'.cell? ⟨g, 1, none⟩ = some (.int .u64 (h : Int)) ∧ w'.cell? ⟨g, 2, none⟩ = some (.int .u64 (l : Int)) ∧ w'.cell? ⟨g, 3, none⟩ = some (.int .u8 (n : Int)))) (by kernel_rfl) ⟨hB0.cell 0, hB0.cell 1, hB0.cell 2, hB0.cell 3⟩ (fun hHeld => ?_)
      refine' wpAnyH_take (i := 0) (v := _) rfl (by kernel_rfl) (by kernel_rfl) (by kernel_rfl) (fun _ _ _ h => h) (Or.inl ⟨by rfl, ?ly25⟩) (by assumption) ?lrest25
      case ly25 =>
        intro w hSw
        try dsimp only at hSw
        go_simp
        try with_reducible rfl
      try simp only [Act.put, List.setIfInBounds_toArray, List.set_cons_zero, List.set_cons_succ, List.getElem_toArray, List.getElem_cons_zero, List.getElem_cons_succ]
      refine' wpAnyH_take (i := 1) (v := _) rfl (by kernel_rfl) (by kernel_rfl) (by kernel_rfl) (fun _ _ _ h => h) (Or.inl ⟨by rfl, ?ly26⟩) (by assumption) ?lrest26
      case ly26 =>
        intro w hSw
        try dsimp only at hSw
        go_simp
        try with_reducible rfl
      try simp only [Act.put, List.setIfInBounds_toArray, List.set_cons_zero, List.set_cons_succ, List.getElem_toArray, List.getElem_cons_zero, List.getElem_cons_succ]
      refine wpAnyH_ready (rs := [2]) (by kernel_rfl) (by simp) ?_
      refine AllReadyH.cons rfl (fun K hK => ?_) AllReadyH.nil
      go_simp
      refine (Hm.out _).mono ?_
      rintro r v1 ⟨rfl, d1⟩
      have hb1 := after hb0 d1
      have hB1 := hB0.below d1 hB0.lt
      refine hK.out _ _ ⟨hB1.cell 0, hB1.cell 1, hB1.cell 2, hB1.cell 3⟩ (fun hHeld => ?_)
      clear hK K
      try simp only [Act.put, List.setIfInBounds_toArray, List.set_cons_zero, List.set_cons_succ, List.getElem_toArray, List.getElem_cons_zero, List.getElem_cons_succ]
      refine' wpAnyH_take (i := 3) (v := _) rfl (by kernel_rfl) (by kernel_rfl) (by kernel_rfl) (fun _ _ _ h => h) (Or.inl ⟨by rfl, ?ly28⟩) (by assumption) ?lrest28
      case ly28 =>
        intro w hSw
        try dsimp only at hSw
        go_simp
        try with_reducible rfl
      try simp only [Act.put, List.setIfInBounds_toArray, List.set_cons_zero, List.set_cons_succ, List.getElem_toArray, List.getElem_cons_zero, List.getElem_cons_succ]
      refine' wpAnyH_take (i := 4) (v := _) rfl (by kernel_rfl) (by kernel_rfl) (by kernel_rfl) (fun _ _ _ h => h) (Or.inl ⟨by rfl, ?ly29⟩) (by assumption) ?lrest29
      case ly29 =>
        intro w hSw
        try dsimp only at hSw
        go_simp
        try with_reducible rfl
      try simp only [Act.put, List.setIfInBounds_toArray, List.set_cons_zero, List.set_cons_succ, List.getElem_toArray, List.getElem_cons_zero, List.getElem_cons_succ]
      refine' wpAnyH_take (i := 5) (v := _) rfl (by kernel_rfl) (by kernel_rfl) (by kernel_rfl) (fun _ _ _ h => h) (Or.inl ⟨by rfl, ?ly30⟩) (by assumption) ?lrest30
      case ly30 =>
        intro w hSw
        try dsimp only at hSw
        go_simp
        try with_reducible rfl
      try simp only [Act.put, List.setIfInBounds_toArray, List.set_cons_zero, List.set_cons_succ, List.getElem_toArray, List.getElem_cons_zero, List.getElem_cons_succ]
      refine' wpAnyH_take (i := 6) (v := _) rfl (by kernel_rfl) (by kernel_rfl) (by kernel_rfl) (fun _ _ _ h => h) (Or.inl ⟨by rfl, ?ly31⟩) (by assumption) ?lrest31
      case ly31 =>
        intro w hSw
        try dsimp only at hSw
        go_simp
        try with_reducible rfl
      try simp only [Act.put, List.setIfInBounds_toArray, List.set_cons_zero, List.set_cons_succ, List.getElem_toArray, List.getElem_cons_zero, List.getElem_cons_succ]
      refine' wpAnyH_take (i := 7) (v := _) rfl (by kernel_rfl) (by kernel_rfl) (by kernel_rfl) (fun _ _ _ h => h) (Or.inl ⟨by rfl, ?ly32⟩) (by assumption) ?lrest32
      case ly32 =>
        intro w hSw
        try dsimp only at hSw
        go_simp
        try with_reducible rfl
      try simp only [Act.put, List.setIfInBounds_toArray, List.set_cons_zero, List.set_cons_succ, List.getElem_toArray, List.getElem_cons_zero, List.getElem_cons_succ]
      refine' wpAnyH_take (i := 8) (v := _) rfl (by kernel_rfl) (by kernel_rfl) (by kernel_rfl) (fun _ _ _ h => h) (Or.inl ⟨by rfl, ?ly33⟩) (by assumption) ?lrest33
      case ly33 =>
        intro w hSw
        try dsimp only at hSw
        go_simp
        try with_reducible rfl
      try simp only [Act.put, List.setIfInBounds_toArray, List.set_cons_zero, List.set_cons_succ, List.getElem_toArray, List.getElem_cons_zero, List.getElem_cons_succ]
      refine wpAnyH_ready (rs := [9]) (by kernel_rfl) (by simp) ?_
      refine AllReadyH.cons rfl (fun K hK => ?_) AllReadyH.nil
      go_simp
      refine (Hs.out _).mono ?_
      rintro r v2 ⟨rfl, d2⟩
      have hb2 := after hb1 d2
      have hB2 := hB1.below d2 hB1.lt
      refine hK.out _ _ ⟨hB2.cell 0, hB2.cell 1, hB2.cell 2, hB2.cell 3⟩ (fun hHeld => ?_)
      clear hK K
      try simp only [Act.put, List.setIfInBounds_toArray, List.set_cons_zero, List.set_cons_succ, List.getElem_toArray, List.getElem_cons_zero, List.getElem_cons_succ]
      refine' wpAnyH_take (i := 10) (v := _) rfl (by kernel_rfl) (by kernel_rfl) (by kernel_rfl) (fun _ _ _ h => h) (Or.inl ⟨by rfl, ?ly35⟩) (by assumption) ?lrest35
      case ly35 =>
        intro w hSw
        try dsimp only at hSw
        go_simp
        try with_reducible rfl
      try simp only [Act.put, List.setIfInBounds_toArray, List.set_cons_zero, List.set_cons_succ, List.getElem_toArray, List.getElem_cons_zero, List.getElem_cons_succ]
      refine' wpAnyH_take (i := 11) (v := _) rfl (by kernel_rfl) (by kernel_rfl) (by kernel_rfl) (fun _ _ _ h => h) (Or.inl ⟨by rfl, ?ly36⟩) (by assumption) ?lrest36
      case ly36 =>
        intro w hSw
        try dsimp only at hSw
        go_simp
        try with_reducible rfl
      try simp only [Act.put, List.setIfInBounds_toArray, List.set_cons_zero, List.set_cons_succ, List.getElem_toArray, List.getElem_cons_zero, List.getElem_cons_succ]
      refine wpAnyH_done (by kernel_rfl) ?_ _
      go_wp2_with fail
      go_ret
      exact ⟨rfl, hb2⟩
end Go.Proofs.YtomndcjgdfhmbaaGreatDoor

/- Holds, Less: the program's walks. -/
namespace Go.Proofs.YtomndcjgdfhmbaaGreatDoor
open Go.RowKit
attribute [local go_sem ↓] Go.wp_at_zero Go.wp_at_succ

theorem two_boxed (w : World) (o o' : Obj) : Below w.heap.size w ((w.alloc o).alloc o') := after (boxed _ _) (boxed _ _)
set_option maxHeartbeats 2000000 in
theorem less_any (a b : Ad) (w : World) : Calls Tryz.prog 30 #[.agg a.cells, .agg b.cells] w (Got (.bool (lessA a b)) w) := by
  obtain ⟨v, x, l⟩ := a
  obtain ⟨v', x', l'⟩ := b
  unfold Ad.cells lessA
  simp only
  cases v
  all_goals cases v'
  case false.true | true.false =>
    go_enter Tryz.func30, Tryz.ntmps30
    go_wp2_with fail
    go_ret
    exact ⟨rfl, two_boxed _ _ _⟩
  all_goals
    by_cases e : x = x'
    · subst e
      rw [if_neg (by decide), if_neg (by simp)]
      go_enter Tryz.func30, Tryz.ntmps30
      go_wp2_with fail
      go_ret
      exact ⟨rfl, two_boxed _ _ _⟩
    · have e1 : ((x : Int) != (x' : Int)) = true := by simp; omega
      rw [if_neg (by decide), if_pos e]
      have He := Lib.hid e
      clear e
      go_enter Tryz.func30, Tryz.ntmps30
      go_wp2_with fail
      go_ret
      exact ⟨rfl, two_boxed _ _ _⟩
set_option maxHeartbeats 2000000 in
theorem rless_any (a b : Ad) (w : World) : Calls Tryz.prog 31 #[.agg a.cells, .agg b.cells] w (Got (.bool (lessA a b)) w) := by
  obtain ⟨v, x, l⟩ := a
  obtain ⟨v', x', l'⟩ := b
  unfold Ad.cells lessA
  simp only
  cases v
  all_goals cases v'
  case false.true | true.false =>
    go_enter Tryz.func31, Tryz.ntmps31
    go_wp2_with fail
    go_ret
    exact ⟨rfl, two_boxed _ _ _⟩
  all_goals
    by_cases e : x = x'
    · subst e
      rw [if_neg (by decide), if_neg (by simp)]
      go_enter Tryz.func31, Tryz.ntmps31
      go_wp2_with fail
      go_ret
      exact ⟨rfl, two_boxed _ _ _⟩
    · have e1 : ((x : Int) == (x' : Int)) = false := by simp; omega
      rw [if_neg (by decide), if_pos e]
      have He := Lib.hid e
      clear e
      by_cases h : x < x'
      · have e2 : decide (x < x') = true := decide_eq_true h
        have e3 : decide ((x : Int) < (x' : Int)) = true := decide_eq_true (by omega)
        rw [e2]
        go_enter Tryz.func31, Tryz.ntmps31
        go_wp2_with fail
        go_ret
        exact ⟨rfl, two_boxed _ _ _⟩
      · have e2 : decide (x < x') = false := decide_eq_false h
        have e3 : decide ((x : Int) < (x' : Int)) = false := decide_eq_false (by omega)
        rw [e2]
        go_enter Tryz.func31, Tryz.ntmps31
        go_wp2_with fail
        go_ret
        exact ⟨rfl, two_boxed _ _ _⟩

/- Holds. -/
set_option maxHeartbeats 4000000 in
set_option maxRecDepth 100000 in
theorem holds_any (p : Pf) (a : Ad) (ok : p.Ok) (oa : a.Ok) (w : World) : Calls Tryz.prog 28 #[.agg p.cells, .agg a.cells] w (Got (.bool (holdsP p a)) w) := by
  have HE := Lib.hid (holdsP_eq (p := p) (a := a) ok.a oa)
  have Hp := Lib.hid (mayPrefix_any p ok)
  have Hm := Lib.hid (mayAddr_any a oa)
  have hhi := oa.hi
  have hlo := oa.lo
  have HX : pmay p = true → p.a.v6 = a.v6 → ∀ w, Calls Tryz.prog 53 #[.agg a.cells, .int .u8 (p.bits : Int)] w fun r w' => r = .returned (.tuple #[.int .u64 (mk (kH a p.bits) : Int), .int .u64 (mk (kL a p.bits) : Int)]) ∧ Below w.heap.size w w' := fun h h6 w => masks_any a p.bits (by have := (pmay_may h).2; unfold Ad.size at *; rw [← h6]; exact this) w
  have eH := and_mk hhi (kH_le a p.bits)
  have eL := and_mk hlo (kL_le (a := a) (n := p.bits))
  generalize mk (kH a p.bits) = MH at HX eH
  generalize mk (kL a p.bits) = ML at HX eL
  generalize a.hi / 2 ^ kH a p.bits * 2 ^ kH a p.bits = NH at HE eH
  generalize a.lo / 2 ^ kL a p.bits * 2 ^ kL a p.bits = NL at HE eL
  generalize hR : holdsP p a = RR at HE ⊢
  clear hR
  generalize pmay p = PM at Hp HE HX
  generalize a.may = AM at Hm HE
  obtain ⟨⟨v, x, l⟩, n⟩ := p
  obtain ⟨v', x', l'⟩ := a
  unfold Pf.cells
  unfold Pf.cells at Hp
  unfold Ad.cells at *
  simp only at hhi hlo HE Hp Hm HX eH eL ⊢
  have EH := Lib.hid eH
  have EL := Lib.hid eL
  clear eH eL ok oa
  have hB0 := (Blk.new w 39 #[.bool v, .int .u64 (x : Int), .int .u64 (l : Int), .int .u8 (n : Int)]).alloc (.cells #[.bool v', .int .u64 (x' : Int), .int .u64 (l' : Int)] 24)
  have hD0 : Blk ((w.alloc (.cells #[.bool v, .int .u64 (x : Int), .int .u64 (l : Int), .int .u8 (n : Int)] 39)).alloc (.cells #[.bool v', .int .u64 (x' : Int), .int .u64 (l' : Int)] 24)) (w.heap.size + 1) 24 #[.bool v', .int .u64 (x' : Int), .int .u64 (l' : Int)] := by
    have h := Blk.new (w.alloc (.cells #[.bool v, .int .u64 (x : Int), .int .u64 (l : Int), .int .u8 (n : Int)] 39)) 24 #[.bool v', .int .u64 (x' : Int), .int .u64 (l' : Int)]
    simpa using h
  have hb0 := two_boxed w (.cells #[.bool v, .int .u64 (x : Int), .int .u64 (l : Int), .int .u8 (n : Int)] 39) (.cells #[.bool v', .int .u64 (x' : Int), .int .u64 (l' : Int)] 24)
  cases PM with
  | false =>
    have e : RR = false := by rw [HE.out]; rfl
    rw [e]
    clear e HX
    go_enter Tryz.func28, Tryz.ntmps28
    go_wp2_with (go_at_call 22; (with_reducible refine (Hp.out _).mono ?_); rintro r w1 ⟨rfl, d1⟩; have hb1 := after hb0 d1)
    go_ret
    exact ⟨rfl, hb1⟩
  | true =>
    cases AM with
    | false =>
      have e : RR = false := by rw [HE.out]; rfl
      rw [e]
      clear e HX
      go_enter Tryz.func28, Tryz.ntmps28
      go_wp2_with (first
        | (go_at_call 22; (with_reducible refine (Hp.out _).mono ?_); rintro r w1 ⟨rfl, d1⟩; have hb1 := after hb0 d1; have hD1 := hD0.below d1 hD0.lt; have d0 := hD1.cell 0; have d1 := hD1.cell 1; have d2 := hD1.cell 2; simp at d0 d1 d2)
        | (go_at_call 37; (with_reducible refine (Hm.out _).mono ?_); rintro r w2 ⟨rfl, d2⟩; have hb2 := after hb1 d2))
      go_ret
      exact ⟨rfl, hb2⟩
    | true =>
      by_cases h6 : v = v'
      · subst h6
        have HX2 := Lib.hid (HX rfl rfl)
        clear HX
        have e : RR = (decide (NH = x) && decide (NL = l)) := by rw [HE.out]; simp
        have He := Lib.hid e
        clear e
        go_enter Tryz.func28, Tryz.ntmps28
        go_upto_region 4 with (first
          | (go_at_call 22; (with_reducible refine (Hp.out _).mono ?_); rintro r w1 ⟨rfl, d1⟩; have hb1 := after hb0 d1; have hD1 := hD0.below d1 hD0.lt; have hB1 := hB0.below d1 hB0.lt; have d0 := hD1.cell 0; have d1 := hD1.cell 1; have d2 := hD1.cell 2; simp at d0 d1 d2)
          | (go_at_call 37; (with_reducible refine (Hm.out _).mono ?_); rintro r w2 ⟨rfl, g2⟩; have hb2 := after hb1 g2; have hD2 := hD1.below g2 hD1.lt; have hB2 := hB1.below g2 hB1.lt; clear d0 d1 d2; have d0 := hD2.cell 0; have d1 := hD2.cell 1; have d2 := hD2.cell 2; simp at d0 d1 d2; have b0 := hB2.cell 0; have b3 := hB2.cell 3; simp at b0 b3)
          | (go_at_call 53; (with_reducible refine (HX2.out _).mono ?_); rintro r w3 ⟨rfl, g3⟩; have hb3 := after hb2 g3; have hD3 := hD2.below g3 hD2.lt; have hB3 := hB2.below g3 hB2.lt; clear d0 d1 d2 b0 b3; have d0 := hD3.cell 0; have d1 := hD3.cell 1; have d2 := hD3.cell 2; simp at d0 d1 d2; have b0 := hB3.cell 0; have b1 := hB3.cell 1; have b2 := hB3.cell 2; simp at b0 b1 b2; have fr := (fun i => hD3.frozen i)))
        have eH := EH.out
        have eL := EL.out
        go_upto_region 5 with (fail)
        have hD4 : Blk (w3.setCell ⟨w.heap.size + 1, 1, none⟩ (.int .u64 (NH : Int))) (w.heap.size + 1) 24 #[.bool v, .int .u64 (NH : Int), .int .u64 (l' : Int)] := hD3.set_ 1 _
        have hD5 : Blk ((w3.setCell ⟨w.heap.size + 1, 1, none⟩ (.int .u64 (NH : Int))).setCell ⟨w.heap.size + 1, 2, none⟩ (.int .u64 (NL : Int))) (w.heap.size + 1) 24 #[.bool v, .int .u64 (NH : Int), .int .u64 (NL : Int)] := hD4.set_ 2 _
        have hB5 : Blk ((w3.setCell ⟨w.heap.size + 1, 1, none⟩ (.int .u64 (NH : Int))).setCell ⟨w.heap.size + 1, 2, none⟩ (.int .u64 (NL : Int))) w.heap.size 39 #[.bool v, .int .u64 (x : Int), .int .u64 (l : Int), .int .u8 (n : Int)] := (hB3.far (p := ⟨w.heap.size + 1, 1, none⟩) (by simp) _).far (p := ⟨w.heap.size + 1, 2, none⟩) (by simp) _
        have hb5 : Below w.heap.size w ((w3.setCell ⟨w.heap.size + 1, 1, none⟩ (.int .u64 (NH : Int))).setCell ⟨w.heap.size + 1, 2, none⟩ (.int .u64 (NL : Int))) := (hb3.setCell (p := ⟨w.heap.size + 1, 1, none⟩) (by simp) _).setCell (p := ⟨w.heap.size + 1, 2, none⟩) (by simp) _
        generalize ((w3.setCell ⟨w.heap.size + 1, 1, none⟩ (.int .u64 (NH : Int))).setCell ⟨w.heap.size + 1, 2, none⟩ (.int .u64 (NL : Int))) = w5 at hD5 hB5 hb5 ⊢
        clear d0 d1 d2 b0 b1 b2 fr eH eL hD4
        have d0 := hD5.cell 0
        have d1 := hD5.cell 1
        have d2 := hD5.cell 2
        have b0 := hB5.cell 0
        have b1 := hB5.cell 1
        have b2 := hB5.cell 2
        simp at d0 d1 d2 b0 b1 b2
        have Hb5 := Lib.hid hb5
        clear hb0 hb1 hb2 hb3 hb5 hB0 hB1 hB2 hB3 hD0 hD1 hD2 hD3 hB5 hD5
        go_wp2_with fail
        all_goals
          go_ret
          exact ⟨ret_b (by rw [He.out]; simp <;> omega), Hb5.out⟩
      · have e : RR = false := by rw [HE.out, show (v == v') = false by simpa using h6]; rfl
        rw [e]
        have q : (v == v') = false := by simpa using h6
        clear e HX h6
        go_enter Tryz.func28, Tryz.ntmps28
        go_wp2_with (first
          | (go_at_call 22; (with_reducible refine (Hp.out _).mono ?_); rintro r w1 ⟨rfl, d1⟩; have hb1 := after hb0 d1; have hD1 := hD0.below d1 hD0.lt; have hB1 := hB0.below d1 hB0.lt; have d0 := hD1.cell 0; have d1 := hD1.cell 1; have d2 := hD1.cell 2; simp at d0 d1 d2)
          | (go_at_call 37; (with_reducible refine (Hm.out _).mono ?_); rintro r w2 ⟨rfl, g2⟩; have hb2 := after hb1 g2; have hD2 := hD1.below g2 hD1.lt; have hB2 := hB1.below g2 hB1.lt; clear d0 d1 d2; have d0 := hD2.cell 0; have d1 := hD2.cell 1; have d2 := hD2.cell 2; simp at d0 d1 d2; have b0 := hB2.cell 0; have b3 := hB2.cell 3; simp at b0 b3))
        go_ret
        exact ⟨rfl, hb2⟩
end Go.Proofs.YtomndcjgdfhmbaaGreatDoor
