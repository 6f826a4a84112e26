/- Joined out of: PfE PtA. -/
import Derived.Test.YtomndcjgdfhmbaaGreatDoorJae
import Derived.Test.YtomndcjgdfhmbaaGreatDoorJak
set_option linter.unusedVariables false
set_option linter.unusedSimpArgs false

/- MayPrefix, Holds: the document's walks. (Printed by pf_rmay.py.) -/
namespace Go.Proofs.YtomndcjgdfhmbaaGreatDoor
open Go.RowKit
attribute [local go_sem ↓] Go.wp_at_zero Go.wp_at_succ

theorem bitA_zero {a : Ad} {i : Nat} : bitA a i = false ↔ a.val / 2 ^ (a.size - 1 - i) % 2 = 0 := by
  unfold bitA
  rw [decide_eq_false_iff_not]
  omega
theorem pmay_bits {p : Pf} (hm : p.a.may = true) (hn : p.bits ≤ p.a.size) : (∀ i, p.bits ≤ i → i < p.a.size → bitA p.a i = false) ↔ pmay p = true := by
  have h := bits_zero p.a.val p.a.size (p.a.size - p.bits) (by omega)
  rw [show p.a.size - (p.a.size - p.bits) = p.bits by omega] at h
  have e : pmay p = decide (p.a.val % 2 ^ (p.a.size - p.bits) = 0) := by
    unfold pmay
    rw [hm, decide_eq_true hn]
    rfl
  rw [e, decide_eq_true_iff, ← h]
  constructor
  · intro q i h1 h2
    exact bitA_zero.1 (q i h1 h2)
  · intro q i h1 h2
    exact bitA_zero.2 (q i h1 h2)

set_option maxHeartbeats 4000000 in
set_option maxRecDepth 100000 in
theorem rmayPrefix_any (p : Pf) (ok : p.Ok) (w : World) : Calls Tryz.prog 27 #[.agg p.cells] w (Got (.bool (pmay p)) w) := by
  have HM : p.a.may = false → pmay p = false := fun h => by unfold pmay; rw [h]; rfl
  have HN : ¬ p.bits ≤ p.a.size → pmay p = false := fun h => by unfold pmay; rw [decide_eq_false h]; simp
  have HB := pmay_bits (p := p)
  have Hm := Lib.hid (rmayAddr_any p.a ok.a)
  have Hs := Lib.hid (rsize_any p.a)
  have Hb := fun i hi w => bit_any p.a i ok.a hi w
  have hn := ok.bits
  generalize hR : pmay p = RR at HM HN HB ⊢
  clear hR
  generalize bitA p.a = BT at HB Hb
  generalize hM : p.a.may = M at Hm HM HB
  generalize hS : p.a.size = SZ at Hs HN HB Hb
  have hS2 : SZ ≤ 128 := by rw [← hS]; exact size_le _
  clear hM hS ok
  obtain ⟨⟨v, h, l⟩, n⟩ := p
  unfold Pf.cells
  unfold Ad.cells at *
  simp only at hn HM HN HB Hm Hs Hb ⊢
  have hB0 := Blk.new w 39 #[.bool v, .int .u64 (h : Int), .int .u64 (l : Int), .int .u8 (n : Int)]
  have hb0 := (boxed w (.cells #[.bool v, .int .u64 (h : Int), .int .u64 (l : Int), .int .u8 (n : Int)] 39)).drew
  cases M with
  | false =>
    rw [HM rfl]
    clear HM HN HB Hb
    go_enter Tryz.func27, Tryz.ntmps27
    go_wp2_with fail
    generalize w.alloc (.cells #[.bool v, .int .u64 (h : Int), .int .u64 (l : Int), .int .u8 (n : Int)] 39) = v0 at hB0 hb0 ⊢
    generalize hg : w.heap.size = g at hB0 ⊢
    have hB0 := hB0.drew
    refine wp_region_held_drew (S := (fun w' => w'.cell? ⟨g, 0, none⟩ = some (.bool v) ∧ w'.cell? ⟨g, 1, none⟩ = some (.int .u64 (h : Int)) ∧ w'.cell? ⟨g, 2, none⟩ = some (.int .u64 (l : Int)) ∧ w'.cell? ⟨g, 3, none⟩ = some (.int .u8 (n : Int)))) (by kernel_rfl) ⟨hB0.cell 0, hB0.cell 1, hB0.cell 2, hB0.cell 3⟩ (fun hHeld => ?_)
    refine' wpAnyH_take (i := 0) (v := _) rfl (by kernel_rfl) (by kernel_rfl) (by kernel_rfl) (fun _ _ _ h => h) (Or.inl ⟨by rfl, ?ly1⟩) (by assumption) ?lrest1
    case ly1 =>
      intro w hSw
      try dsimp only at hSw
      go_simp
      try with_reducible rfl
    try simp only [Act.put, List.setIfInBounds_toArray, List.set_cons_zero, List.set_cons_succ, List.getElem_toArray, List.getElem_cons_zero, List.getElem_cons_succ]
    refine' wpAnyH_take (i := 1) (v := _) rfl (by kernel_rfl) (by kernel_rfl) (by kernel_rfl) (fun _ _ _ h => h) (Or.inl ⟨by rfl, ?ly2⟩) (by assumption) ?lrest2
    case ly2 =>
      intro w hSw
      try dsimp only at hSw
      go_simp
      try with_reducible rfl
    try simp only [Act.put, List.setIfInBounds_toArray, List.set_cons_zero, List.set_cons_succ, List.getElem_toArray, List.getElem_cons_zero, List.getElem_cons_succ]
    refine wpAnyH_ready (rs := [2]) (by kernel_rfl) (by simp) ?_
    refine AllReadyH.cons rfl (fun K hK => ?_) AllReadyH.nil
    go_simp
    refine (Hm.out _).mono ?_
    rintro r v1 ⟨rfl, d1⟩
    have hb1 := after hb0 d1
    have hB1 := hB0.below d1 hB0.lt
    refine hK.out _ _ ⟨hB1.cell 0, hB1.cell 1, hB1.cell 2, hB1.cell 3⟩ (fun hHeld => ?_)
    clear hK K
    try simp only [Act.put, List.setIfInBounds_toArray, List.set_cons_zero, List.set_cons_succ, List.getElem_toArray, List.getElem_cons_zero, List.getElem_cons_succ]
    refine' wpAnyH_take (i := 3) (v := _) rfl (by kernel_rfl) (by kernel_rfl) (by kernel_rfl) (fun _ _ _ h => h) (Or.inl ⟨by rfl, ?ly4⟩) (by assumption) ?lrest4
    case ly4 =>
      intro w hSw
      try dsimp only at hSw
      go_simp
      try with_reducible rfl
    try simp only [Act.put, List.setIfInBounds_toArray, List.set_cons_zero, List.set_cons_succ, List.getElem_toArray, List.getElem_cons_zero, List.getElem_cons_succ]
    refine' wpAnyH_take (i := 4) (v := _) rfl (by kernel_rfl) (by kernel_rfl) (by kernel_rfl) (fun _ _ _ h => h) (Or.inl ⟨by rfl, ?ly5⟩) (by assumption) ?lrest5
    case ly5 =>
      intro w hSw
      try dsimp only at hSw
      go_simp
      try with_reducible rfl
    try simp only [Act.put, List.setIfInBounds_toArray, List.set_cons_zero, List.set_cons_succ, List.getElem_toArray, List.getElem_cons_zero, List.getElem_cons_succ]
    refine' wpAnyH_take (i := 5) (v := undef) rfl (by kernel_rfl) (by kernel_rfl) (by kernel_rfl) (fun _ _ _ h => h) (Or.inr ⟨by rfl, rfl⟩) (by assumption) ?lrest6
    try simp only [Act.put, List.setIfInBounds_toArray, List.set_cons_zero, List.set_cons_succ, List.getElem_toArray, List.getElem_cons_zero, List.getElem_cons_succ]
    refine' wpAnyH_take (i := 6) (v := undef) rfl (by kernel_rfl) (by kernel_rfl) (by kernel_rfl) (fun _ _ _ h => h) (Or.inr ⟨by rfl, rfl⟩) (by assumption) ?lrest7
    try simp only [Act.put, List.setIfInBounds_toArray, List.set_cons_zero, List.set_cons_succ, List.getElem_toArray, List.getElem_cons_zero, List.getElem_cons_succ]
    refine' wpAnyH_take (i := 7) (v := undef) rfl (by kernel_rfl) (by kernel_rfl) (by kernel_rfl) (fun _ _ _ h => h) (Or.inr ⟨by rfl, rfl⟩) (by assumption) ?lrest8
    try simp only [Act.put, List.setIfInBounds_toArray, List.set_cons_zero, List.set_cons_succ, List.getElem_toArray, List.getElem_cons_zero, List.getElem_cons_succ]
    refine' wpAnyH_take (i := 8) (v := undef) rfl (by kernel_rfl) (by kernel_rfl) (by kernel_rfl) (fun _ _ _ h => h) (Or.inr ⟨by rfl, rfl⟩) (by assumption) ?lrest9
    try simp only [Act.put, List.setIfInBounds_toArray, List.set_cons_zero, List.set_cons_succ, List.getElem_toArray, List.getElem_cons_zero, List.getElem_cons_succ]
    refine' wpAnyH_take (i := 9) (v := undef) rfl (by kernel_rfl) (by kernel_rfl) (by kernel_rfl) (fun _ _ _ h => h) (Or.inr ⟨by rfl, rfl⟩) (by assumption) ?lrest10
    try simp only [Act.put, List.setIfInBounds_toArray, List.set_cons_zero, List.set_cons_succ, List.getElem_toArray, List.getElem_cons_zero, List.getElem_cons_succ]
    refine' wpAnyH_take (i := 10) (v := undef) rfl (by kernel_rfl) (by kernel_rfl) (by kernel_rfl) (fun _ _ _ h => h) (Or.inr ⟨by rfl, rfl⟩) (by assumption) ?lrest11
    try simp only [Act.put, List.setIfInBounds_toArray, List.set_cons_zero, List.set_cons_succ, List.getElem_toArray, List.getElem_cons_zero, List.getElem_cons_succ]
    refine' wpAnyH_take (i := 11) (v := undef) rfl (by kernel_rfl) (by kernel_rfl) (by kernel_rfl) (fun _ _ _ h => h) (Or.inr ⟨by rfl, rfl⟩) (by assumption) ?lrest12
    try simp only [Act.put, List.setIfInBounds_toArray, List.set_cons_zero, List.set_cons_succ, List.getElem_toArray, List.getElem_cons_zero, List.getElem_cons_succ]
    refine' wpAnyH_take (i := 12) (v := _) rfl (by kernel_rfl) (by kernel_rfl) (by kernel_rfl) (fun _ _ _ h => h) (Or.inl ⟨by rfl, ?ly13⟩) (by assumption) ?lrest13
    case ly13 =>
      intro w hSw
      try dsimp only at hSw
      go_simp
      try with_reducible rfl
    try simp only [Act.put, List.setIfInBounds_toArray, List.set_cons_zero, List.set_cons_succ, List.getElem_toArray, List.getElem_cons_zero, List.getElem_cons_succ]
    refine wpAnyH_done (by kernel_rfl) ?_ _
    go_wp2_with fail
    go_ret
    exact ⟨rfl, hb1⟩
  | true =>
    by_cases hle : n ≤ SZ
    · have hle' : ¬ (SZ : Int) < (n : Int) := by omega
      have hle2 : decide ((SZ : Int) < (n : Int)) = false := decide_eq_false hle'
      have hle3 : decide (SZ < n) = false := decide_eq_false (by omega)
      have HBH := Lib.hid (HB rfl hle)
      have HbH := Lib.hid Hb
      clear HM HN HB Hb
      have hwr : IntKind.i64.wrap (n : Int) = n := IntWalk.i64_in _ (by omega)
      go_enter Tryz.func27, Tryz.ntmps27
      go_wp2_with fail
      generalize w.alloc (.cells #[.bool v, .int .u64 (h : Int), .int .u64 (l : Int), .int .u8 (n : Int)] 39) = v0 at hB0 hb0 ⊢
      generalize hg : w.heap.size = g at hB0 ⊢
      have hB0 := hB0.drew
      refine wp_region_held_drew (S := (fun w' => w'.cell? ⟨g, 0, none⟩ = some (.bool v) ∧ w'.cell? ⟨g, 1, none⟩ = some (.int .u64 (h : Int)) ∧ w'.cell? ⟨g, 2, none⟩ = some (.int .u64 (l : Int)) ∧ w'.cell? ⟨g, 3, none⟩ = some (.int .u8 (n : Int)))) (by kernel_rfl) ⟨hB0.cell 0, hB0.cell 1, hB0.cell 2, hB0.cell 3⟩ (fun hHeld => ?_)
      refine' wpAnyH_take (i := 0) (v := _) rfl (by kernel_rfl) (by kernel_rfl) (by kernel_rfl) (fun _ _ _ h => h) (Or.inl ⟨by rfl, ?ly14⟩) (by assumption) ?lrest14
      case ly14 =>
        intro w hSw
        try dsimp only at hSw
        go_simp
        try with_reducible rfl
      try simp only [Act.put, List.setIfInBounds_toArray, List.set_cons_zero, List.set_cons_succ, List.getElem_toArray, List.getElem_cons_zero, List.getElem_cons_succ]
      refine' wpAnyH_take (i := 1) (v := _) rfl (by kernel_rfl) (by kernel_rfl) (by kernel_rfl) (fun _ _ _ h => h) (Or.inl ⟨by rfl, ?ly15⟩) (by assumption) ?lrest15
      case ly15 =>
        intro w hSw
        try dsimp only at hSw
        go_simp
        try with_reducible rfl
      try simp only [Act.put, List.setIfInBounds_toArray, List.set_cons_zero, List.set_cons_succ, List.getElem_toArray, List.getElem_cons_zero, List.getElem_cons_succ]
      refine wpAnyH_ready (rs := [2]) (by kernel_rfl) (by simp) ?_
      refine AllReadyH.cons rfl (fun K hK => ?_) AllReadyH.nil
      go_simp
      refine (Hm.out _).mono ?_
      rintro r v1 ⟨rfl, d1⟩
      have hb1 := after hb0 d1
      have hB1 := hB0.below d1 hB0.lt
      refine hK.out _ _ ⟨hB1.cell 0, hB1.cell 1, hB1.cell 2, hB1.cell 3⟩ (fun hHeld => ?_)
      clear hK K
      try simp only [Act.put, List.setIfInBounds_toArray, List.set_cons_zero, List.set_cons_succ, List.getElem_toArray, List.getElem_cons_zero, List.getElem_cons_succ]
      refine' wpAnyH_take (i := 3) (v := _) rfl (by kernel_rfl) (by kernel_rfl) (by kernel_rfl) (fun _ _ _ h => h) (Or.inl ⟨by rfl, ?ly17⟩) (by assumption) ?lrest17
      case ly17 =>
        intro w hSw
        try dsimp only at hSw
        go_simp
        try with_reducible rfl
      try simp only [Act.put, List.setIfInBounds_toArray, List.set_cons_zero, List.set_cons_succ, List.getElem_toArray, List.getElem_cons_zero, List.getElem_cons_succ]
      refine' wpAnyH_take (i := 4) (v := _) rfl (by kernel_rfl) (by kernel_rfl) (by kernel_rfl) (fun _ _ _ h => h) (Or.inl ⟨by rfl, ?ly18⟩) (by assumption) ?lrest18
      case ly18 =>
        intro w hSw
        try dsimp only at hSw
        go_simp
        try with_reducible rfl
      try simp only [Act.put, List.setIfInBounds_toArray, List.set_cons_zero, List.set_cons_succ, List.getElem_toArray, List.getElem_cons_zero, List.getElem_cons_succ]
      refine' wpAnyH_take (i := 5) (v := _) rfl (by kernel_rfl) (by kernel_rfl) (by kernel_rfl) (fun _ _ _ h => h) (Or.inl ⟨by rfl, ?ly19⟩) (by assumption) ?lrest19
      case ly19 =>
        intro w hSw
        try dsimp only at hSw
        go_simp
        try with_reducible rfl
      try simp only [Act.put, List.setIfInBounds_toArray, List.set_cons_zero, List.set_cons_succ, List.getElem_toArray, List.getElem_cons_zero, List.getElem_cons_succ]
      refine' wpAnyH_take (i := 6) (v := _) rfl (by kernel_rfl) (by kernel_rfl) (by kernel_rfl) (fun _ _ _ h => h) (Or.inl ⟨by rfl, ?ly20⟩) (by assumption) ?lrest20
      case ly20 =>
        intro w hSw
        try dsimp only at hSw
        go_simp
        try with_reducible rfl
      try simp only [Act.put, List.setIfInBounds_toArray, List.set_cons_zero, List.set_cons_succ, List.getElem_toArray, List.getElem_cons_zero, List.getElem_cons_succ]
      refine' wpAnyH_take (i := 7) (v := _) rfl (by kernel_rfl) (by kernel_rfl) (by kernel_rfl) (fun _ _ _ h => h) (Or.inl ⟨by rfl, ?ly21⟩) (by assumption) ?lrest21
      case ly21 =>
        intro w hSw
        try dsimp only at hSw
        go_simp
        try with_reducible rfl
      try simp only [Act.put, List.setIfInBounds_toArray, List.set_cons_zero, List.set_cons_succ, List.getElem_toArray, List.getElem_cons_zero, List.getElem_cons_succ]
      refine' wpAnyH_take (i := 8) (v := _) rfl (by kernel_rfl) (by kernel_rfl) (by kernel_rfl) (fun _ _ _ h => h) (Or.inl ⟨by rfl, ?ly22⟩) (by assumption) ?lrest22
      case ly22 =>
        intro w hSw
        try dsimp only at hSw
        go_simp
        try with_reducible rfl
      try simp only [Act.put, List.setIfInBounds_toArray, List.set_cons_zero, List.set_cons_succ, List.getElem_toArray, List.getElem_cons_zero, List.getElem_cons_succ]
      refine' wpAnyH_take (i := 9) (v := _) rfl (by kernel_rfl) (by kernel_rfl) (by kernel_rfl) (fun _ _ _ h => h) (Or.inl ⟨by rfl, ?ly23⟩) (by assumption) ?lrest23
      case ly23 =>
        intro w hSw
        try dsimp only at hSw
        go_simp
        try with_reducible rfl
      try simp only [Act.put, List.setIfInBounds_toArray, List.set_cons_zero, List.set_cons_succ, List.getElem_toArray, List.getElem_cons_zero, List.getElem_cons_succ]
      refine wpAnyH_ready (rs := [10]) (by kernel_rfl) (by simp) ?_
      refine AllReadyH.cons rfl (fun K hK => ?_) AllReadyH.nil
      go_simp
      refine (Hs.out _).mono ?_
      rintro r v2 ⟨rfl, d2⟩
      have hb2 := after hb1 d2
      have hB2 := hB1.below d2 hB1.lt
      refine hK.out _ _ ⟨hB2.cell 0, hB2.cell 1, hB2.cell 2, hB2.cell 3⟩ (fun hHeld => ?_)
      clear hK K
      try simp only [Act.put, List.setIfInBounds_toArray, List.set_cons_zero, List.set_cons_succ, List.getElem_toArray, List.getElem_cons_zero, List.getElem_cons_succ]
      refine' wpAnyH_take (i := 11) (v := _) rfl (by kernel_rfl) (by kernel_rfl) (by kernel_rfl) (fun _ _ _ h => h) (Or.inl ⟨by rfl, ?ly25⟩) (by assumption) ?lrest25
      case ly25 =>
        intro w hSw
        try dsimp only at hSw
        go_simp
        try with_reducible rfl
      try simp only [Act.put, List.setIfInBounds_toArray, List.set_cons_zero, List.set_cons_succ, List.getElem_toArray, List.getElem_cons_zero, List.getElem_cons_succ]
      refine' wpAnyH_take (i := 12) (v := _) rfl (by kernel_rfl) (by kernel_rfl) (by kernel_rfl) (fun _ _ _ h => h) (Or.inl ⟨by rfl, ?ly26⟩) (by assumption) ?lrest26
      case ly26 =>
        intro w hSw
        try dsimp only at hSw
        go_simp
        try with_reducible rfl
      try simp only [Act.put, List.setIfInBounds_toArray, List.set_cons_zero, List.set_cons_succ, List.getElem_toArray, List.getElem_cons_zero, List.getElem_cons_succ]
      refine wpAnyH_done (by kernel_rfl) ?_ _
      have HB2 := Lib.hid hB2
      have Hb2 := Lib.hid hb2
      have c0 := hB2.cell 0
      have c3 := hB2.cell 3
      simp at c0 c3
      clear hB0 hb0 hB1 hb1 hB2 hb2 hle2 hle3 hle' hwr
      go_wp2_with fail
      clear c0 c3
      go_loopw [3] (fun s3 wr => ∃ i : Nat, n ≤ i ∧ i ≤ SZ ∧ s3 = .int .i64 (i : Int) ∧ RowKit.Hid (∀ j, n ≤ j → j < i → BT j = false) ∧ RowKit.Hid (Blk wr g 39 #[.bool v, .int .u64 (h : Int), .int .u64 (l : Int), .int .u8 (n : Int)]) ∧ RowKit.Hid (Below w.heap.size w wr)) (fun s3 _ => SZ - (intOf s3).toNat)
      case atStart => exact ⟨n, Nat.le_refl _, hle, rfl, Lib.hid (fun j h1 h2 => by omega), HB2, Hb2⟩
      case round =>
        obtain ⟨i, hi1, hi2, rfl, hz, hB, hb⟩ := hrel
        have c0 := hB.out.cell 0
        have c1 := hB.out.cell 1
        have c2 := hB.out.cell 2
        simp at c0 c1 c2
        by_cases hlt : i < SZ
        · have hlt' : (i : Int) < (SZ : Int) := by omega
          have HI := Lib.hid (HbH.out i hlt)
          obtain ⟨X, hX⟩ : ∃ x, x = BT i := ⟨_, rfl⟩
          rw [← hX] at HI
          have HX := Lib.hid hX
          clear hX
          cases X
          all_goals
            go_wp2_with (first
              | (go_at_call 57; (with_reducible refine (Hs.out _).mono ?_); rintro r w1 ⟨rfl, d1⟩; have hb1 := after hb.out d1; have hB1 := hB.out.below d1 hB.out.lt; clear c0 c1 c2; have c0 := hB1.cell 0; have c1 := hB1.cell 1; have c2 := hB1.cell 2; simp at c0 c1 c2)
              | (go_at_call 58; (with_reducible refine (HI.out _).mono ?_); rintro r w2 ⟨rfl, d2⟩; have hb2 := after hb1 d2; have hB2 := hB1.below d2 hB1.lt))
          · go_roundw
            case rel => exact ⟨i + 1, by omega, by omega, by go_num, Lib.hid (fun j h1 h2 => by
                by_cases e : j = i
                · rw [e, ← HX.out]
                · exact hz.out j h1 (by omega)), Lib.hid hB2, Lib.hid hb2⟩
            case measure => simp [intOf]; omega
          · go_ret
            refine ⟨?_, hb2⟩
            cases RR with
            | false => rfl
            | true => have := HBH.out.2 rfl i hi1 hlt; rw [← HX.out] at this; cases this
        · have hlt' : ¬ (i : Int) < (SZ : Int) := by omega
          go_wp2_with (go_at_call 57; (with_reducible refine (Hs.out _).mono ?_); rintro r w1 ⟨rfl, d1⟩; have hb1 := after hb.out d1)
          go_ret
          exact ⟨show Ending.returned (.bool true) = _ by rw [HBH.out.1 (fun j h1 h2 => hz.out j h1 (by omega))], hb1⟩
    · have hle' : (SZ : Int) < (n : Int) := by omega
      have hle2 : decide ((SZ : Int) < (n : Int)) = true := decide_eq_true hle'
      have hle3 : decide (SZ < n) = true := decide_eq_true (by omega)
      rw [HN hle]
      clear HM HN HB Hb
      have hwr : IntKind.i64.wrap (n : Int) = n := IntWalk.i64_in _ (by omega)
      go_enter Tryz.func27, Tryz.ntmps27
      go_wp2_with fail
      generalize w.alloc (.cells #[.bool v, .int .u64 (h : Int), .int .u64 (l : Int), .int .u8 (n : Int)] 39) = v0 at hB0 hb0 ⊢
      generalize hg : w.heap.size = g at hB0 ⊢
      have hB0 := hB0.drew
      refine wp_region_held_drew (S := (fun w' => w'.cell? ⟨g, 0, none⟩ = some (.bool v) ∧ w'.cell? ⟨g, 1, none⟩ = some (.int .u64 (h : Int)) ∧ w'.cell? ⟨g, 2, none⟩ = some (.int .u64 (l : Int)) ∧ w'.cell? ⟨g, 3, none⟩ = some (.int .u8 (n : Int)))) (by kernel_rfl) ⟨hB0.cell 0, hB0.cell 1, hB0.cell 2, hB0.cell 3⟩ (fun hHeld => ?_)
      refine' wpAnyH_take (i := 0) (v := _) rfl (by kernel_rfl) (by kernel_rfl) (by kernel_rfl) (fun _ _ _ h => h) (Or.inl ⟨by rfl, ?ly27⟩) (by assumption) ?lrest27
      case ly27 =>
        intro w hSw
        try dsimp only at hSw
        go_simp
        try with_reducible rfl
      try simp only [Act.put, List.setIfInBounds_toArray, List.set_cons_zero, List.set_cons_succ, List.getElem_toArray, List.getElem_cons_zero, List.getElem_cons_succ]
      refine' wpAnyH_take (i := 1) (v := _) rfl (by kernel_rfl) (by kernel_rfl) (by kernel_rfl) (fun _ _ _ h => h) (Or.inl ⟨by rfl, ?ly28⟩) (by assumption) ?lrest28
      case ly28 =>
        intro w hSw
        try dsimp only at hSw
        go_simp
        try with_reducible rfl
      try simp only [Act.put, List.setIfInBounds_toArray, List.set_cons_zero, List.set_cons_succ, List.getElem_toArray, List.getElem_cons_zero, List.getElem_cons_succ]
      refine wpAnyH_ready (rs := [2]) (by kernel_rfl) (by simp) ?_
      refine AllReadyH.cons rfl (fun K hK => ?_) AllReadyH.nil
      go_simp
      refine (Hm.out _).mono ?_
      rintro r v1 ⟨rfl, d1⟩
      have hb1 := after hb0 d1
      have hB1 := hB0.below d1 hB0.lt
      refine hK.out _ _ ⟨hB1.cell 0, hB1.cell 1, hB1.cell 2, hB1.cell 3⟩ (fun hHeld => ?_)
      clear hK K
      try simp only [Act.put, List.setIfInBounds_toArray, List.set_cons_zero, List.set_cons_succ, List.getElem_toArray, List.getElem_cons_zero, List.getElem_cons_succ]
      refine' wpAnyH_take (i := 3) (v := _) rfl (by kernel_rfl) (by kernel_rfl) (by kernel_rfl) (fun _ _ _ h => h) (Or.inl ⟨by rfl, ?ly30⟩) (by assumption) ?lrest30
      case ly30 =>
        intro w hSw
        try dsimp only at hSw
        go_simp
        try with_reducible rfl
      try simp only [Act.put, List.setIfInBounds_toArray, List.set_cons_zero, List.set_cons_succ, List.getElem_toArray, List.getElem_cons_zero, List.getElem_cons_succ]
      refine' wpAnyH_take (i := 4) (v := _) rfl (by kernel_rfl) (by kernel_rfl) (by kernel_rfl) (fun _ _ _ h => h) (Or.inl ⟨by rfl, ?ly31⟩) (by assumption) ?lrest31
      case ly31 =>
        intro w hSw
        try dsimp only at hSw
        go_simp
        try with_reducible rfl
      try simp only [Act.put, List.setIfInBounds_toArray, List.set_cons_zero, List.set_cons_succ, List.getElem_toArray, List.getElem_cons_zero, List.getElem_cons_succ]
      refine' wpAnyH_take (i := 5) (v := _) rfl (by kernel_rfl) (by kernel_rfl) (by kernel_rfl) (fun _ _ _ h => h) (Or.inl ⟨by rfl, ?ly32⟩) (by assumption) ?lrest32
      case ly32 =>
        intro w hSw
        try dsimp only at hSw
        go_simp
        try with_reducible rfl
      try simp only [Act.put, List.setIfInBounds_toArray, List.set_cons_zero, List.set_cons_succ, List.getElem_toArray, List.getElem_cons_zero, List.getElem_cons_succ]
      refine' wpAnyH_take (i := 6) (v := _) rfl (by kernel_rfl) (by kernel_rfl) (by kernel_rfl) (fun _ _ _ h => h) (Or.inl ⟨by rfl, ?ly33⟩) (by assumption) ?lrest33
      case ly33 =>
        intro w hSw
        try dsimp only at hSw
        go_simp
        try with_reducible rfl
      try simp only [Act.put, List.setIfInBounds_toArray, List.set_cons_zero, List.set_cons_succ, List.getElem_toArray, List.getElem_cons_zero, List.getElem_cons_succ]
      refine' wpAnyH_take (i := 7) (v := _) rfl (by kernel_rfl) (by kernel_rfl) (by kernel_rfl) (fun _ _ _ h => h) (Or.inl ⟨by rfl, ?ly34⟩) (by assumption) ?lrest34
      case ly34 =>
        intro w hSw
        try dsimp only at hSw
        go_simp
        try with_reducible rfl
      try simp only [Act.put, List.setIfInBounds_toArray, List.set_cons_zero, List.set_cons_succ, List.getElem_toArray, List.getElem_cons_zero, List.getElem_cons_succ]
      refine' wpAnyH_take (i := 8) (v := _) rfl (by kernel_rfl) (by kernel_rfl) (by kernel_rfl) (fun _ _ _ h => h) (Or.inl ⟨by rfl, ?ly35⟩) (by assumption) ?lrest35
      case ly35 =>
        intro w hSw
        try dsimp only at hSw
        go_simp
        try with_reducible rfl
      try simp only [Act.put, List.setIfInBounds_toArray, List.set_cons_zero, List.set_cons_succ, List.getElem_toArray, List.getElem_cons_zero, List.getElem_cons_succ]
      refine' wpAnyH_take (i := 9) (v := _) rfl (by kernel_rfl) (by kernel_rfl) (by kernel_rfl) (fun _ _ _ h => h) (Or.inl ⟨by rfl, ?ly36⟩) (by assumption) ?lrest36
      case ly36 =>
        intro w hSw
        try dsimp only at hSw
        go_simp
        try with_reducible rfl
      try simp only [Act.put, List.setIfInBounds_toArray, List.set_cons_zero, List.set_cons_succ, List.getElem_toArray, List.getElem_cons_zero, List.getElem_cons_succ]
      refine wpAnyH_ready (rs := [10]) (by kernel_rfl) (by simp) ?_
      refine AllReadyH.cons rfl (fun K hK => ?_) AllReadyH.nil
      go_simp
      refine (Hs.out _).mono ?_
      rintro r v2 ⟨rfl, d2⟩
      have hb2 := after hb1 d2
      have hB2 := hB1.below d2 hB1.lt
      refine hK.out _ _ ⟨hB2.cell 0, hB2.cell 1, hB2.cell 2, hB2.cell 3⟩ (fun hHeld => ?_)
      clear hK K
      try simp only [Act.put, List.setIfInBounds_toArray, List.set_cons_zero, List.set_cons_succ, List.getElem_toArray, List.getElem_cons_zero, List.getElem_cons_succ]
      refine' wpAnyH_take (i := 11) (v := _) rfl (by kernel_rfl) (by kernel_rfl) (by kernel_rfl) (fun _ _ _ h => h) (Or.inl ⟨by rfl, ?ly38⟩) (by assumption) ?lrest38
      case ly38 =>
        intro w hSw
        try dsimp only at hSw
        go_simp
        try with_reducible rfl
      try simp only [Act.put, List.setIfInBounds_toArray, List.set_cons_zero, List.set_cons_succ, List.getElem_toArray, List.getElem_cons_zero, List.getElem_cons_succ]
      refine' wpAnyH_take (i := 12) (v := _) rfl (by kernel_rfl) (by kernel_rfl) (by kernel_rfl) (fun _ _ _ h => h) (Or.inl ⟨by rfl, ?ly39⟩) (by assumption) ?lrest39
      case ly39 =>
        intro w hSw
        try dsimp only at hSw
        go_simp
        try with_reducible rfl
      try simp only [Act.put, List.setIfInBounds_toArray, List.set_cons_zero, List.set_cons_succ, List.getElem_toArray, List.getElem_cons_zero, List.getElem_cons_succ]
      refine wpAnyH_done (by kernel_rfl) ?_ _
      go_wp2_with fail
      go_ret
      exact ⟨rfl, hb2⟩

theorem val_lt {a : Ad} (ok : a.Ok) (hm : a.may = true) : a.val < 2 ^ a.size := by
  have h1 := ok.hi
  have h2 := ok.lo
  unfold Ad.val Ad.size
  cases h6 : a.v6 with
  | true => simp only [if_true]; omega
  | false => have := (may4 hm h6).2; simp only [Bool.false_eq_true, if_false]; omega
theorem bitA_same {a b : Ad} {i : Nat} (hs : a.size = b.size) : bitA a i = bitA b i ↔ a.val / 2 ^ (a.size - 1 - i) % 2 = b.val / 2 ^ (a.size - 1 - i) % 2 := by
  unfold bitA
  rw [← hs, Bool.eq_iff_iff, decide_eq_true_iff, decide_eq_true_iff]
  omega
theorem holds_bits {p : Pf} {a : Ad} (ok : p.a.Ok) (oa : a.Ok) (hp : pmay p = true) (hm : a.may = true) (h6 : p.a.v6 = a.v6) : (∀ i, i < p.bits → bitA p.a i = bitA a i) ↔ holdsP p a = true := by
  have hb := pmay_may hp
  have hs : p.a.size = a.size := by unfold Ad.size; rw [h6]
  have h := bits_same p.a.val a.val p.a.size (val_lt ok hb.1) (by rw [hs]; exact val_lt oa hm) p.bits hb.2
  have e : holdsP p a = decide (a.val / 2 ^ (p.a.size - p.bits) = p.a.val / 2 ^ (p.a.size - p.bits)) := by
    unfold holdsP
    rw [hp, hm, h6]
    simp
  rw [e, decide_eq_true_iff, eq_comm (a := a.val / _), ← h]
  constructor
  · intro q i h1
    exact (bitA_same hs).1 (q i h1)
  · intro q i h1
    exact (bitA_same hs).2 (q i h1)

set_option maxHeartbeats 4000000 in
set_option maxRecDepth 100000 in
theorem rholds_any (p : Pf) (a : Ad) (ok : p.Ok) (oa : a.Ok) (w : World) : Calls Tryz.prog 29 #[.agg p.cells, .agg a.cells] w (Got (.bool (holdsP p a)) w) := by
  have H1 : pmay p = false → holdsP p a = false := fun h => by unfold holdsP; rw [h]; rfl
  have H2 : a.may = false → holdsP p a = false := fun h => by unfold holdsP; rw [h]; simp
  have H3 : p.a.v6 ≠ a.v6 → holdsP p a = false := fun h => by unfold holdsP; rw [show (p.a.v6 == a.v6) = false by simpa using h]; simp
  have HB := holds_bits (p := p) (a := a) ok.a oa
  have Hp := Lib.hid (rmayPrefix_any p ok)
  have Hm := Lib.hid (rmayAddr_any a oa)
  have Hb1 := fun i hi w => bit_any p.a i ok.a hi w
  have Hb2 := fun i hi w => bit_any a i oa hi w
  have hSZ : pmay p = true → p.a.v6 = a.v6 → ∀ i, i < p.bits → i < p.a.size ∧ i < a.size := fun h h6 i hi => by
    have := (pmay_may h).2
    have e : p.a.size = a.size := by unfold Ad.size; rw [h6]
    omega
  have hn := ok.bits
  generalize hR : holdsP p a = RR at H1 H2 H3 HB ⊢
  clear hR
  generalize bitA p.a = B1 at HB Hb1
  generalize bitA a = B2 at HB Hb2
  generalize pmay p = PM at Hp H1 HB hSZ
  generalize a.may = AM at Hm H2 HB
  generalize p.a.size = S1 at hSZ Hb1
  generalize a.size = S2 at hSZ Hb2
  obtain ⟨⟨v, x, l⟩, n⟩ := p
  obtain ⟨v', x', l'⟩ := a
  unfold Pf.cells
  unfold Pf.cells at Hp
  unfold Ad.cells at *
  simp only at hn H1 H2 H3 HB Hp Hm Hb1 Hb2 hSZ ⊢
  clear ok oa
  have hB0 := (Blk.new w 39 #[.bool v, .int .u64 (x : Int), .int .u64 (l : Int), .int .u8 (n : Int)]).alloc (.cells #[.bool v', .int .u64 (x' : Int), .int .u64 (l' : Int)] 24)
  have hD0 : Blk ((w.alloc (.cells #[.bool v, .int .u64 (x : Int), .int .u64 (l : Int), .int .u8 (n : Int)] 39)).alloc (.cells #[.bool v', .int .u64 (x' : Int), .int .u64 (l' : Int)] 24)) (w.heap.size + 1) 24 #[.bool v', .int .u64 (x' : Int), .int .u64 (l' : Int)] := by
    have h := Blk.new (w.alloc (.cells #[.bool v, .int .u64 (x : Int), .int .u64 (l : Int), .int .u8 (n : Int)] 39)) 24 #[.bool v', .int .u64 (x' : Int), .int .u64 (l' : Int)]
    simpa using h
  have hb0 := two_boxed w (.cells #[.bool v, .int .u64 (x : Int), .int .u64 (l : Int), .int .u8 (n : Int)] 39) (.cells #[.bool v', .int .u64 (x' : Int), .int .u64 (l' : Int)] 24)
  cases PM with
  | false =>
    rw [H1 rfl]
    clear H1 H2 H3 HB Hb1 Hb2 hSZ
    go_enter Tryz.func29, Tryz.ntmps29
    go_wp2_with (go_at_call 27; (with_reducible refine (Hp.out _).mono ?_); rintro r w1 ⟨rfl, d1⟩; have hb1 := after hb0 d1)
    go_ret
    exact ⟨rfl, hb1⟩
  | true =>
    cases AM with
    | false =>
      rw [H2 rfl]
      clear H1 H2 H3 HB Hb1 Hb2 hSZ
      go_enter Tryz.func29, Tryz.ntmps29
      go_wp2_with (first
        | (go_at_call 27; (with_reducible refine (Hp.out _).mono ?_); rintro r w1 ⟨rfl, d1⟩; have hb1 := after hb0 d1; have hD1 := hD0.below d1 hD0.lt; have d0 := hD1.cell 0; have d1 := hD1.cell 1; have d2 := hD1.cell 2; simp at d0 d1 d2)
        | (go_at_call 38; (with_reducible refine (Hm.out _).mono ?_); rintro r w2 ⟨rfl, d2⟩; have hb2 := after hb1 d2))
      go_ret
      exact ⟨rfl, hb2⟩
    | true =>
      by_cases h6 : v = v'
      · subst h6
        have HBH := Lib.hid (HB rfl rfl rfl)
        have HSZ := Lib.hid (hSZ rfl rfl)
        have HB1 := Lib.hid Hb1
        have HB2 := Lib.hid Hb2
        clear H1 H2 H3 HB Hb1 Hb2 hSZ
        go_enter Tryz.func29, Tryz.ntmps29
        go_wp2_with (first
          | (go_at_call 27; (with_reducible refine (Hp.out _).mono ?_); rintro r w1 ⟨rfl, d1⟩; have hb1 := after hb0 d1; have hD1 := hD0.below d1 hD0.lt; have hB1 := hB0.below d1 hB0.lt; have d0 := hD1.cell 0; have d1 := hD1.cell 1; have d2 := hD1.cell 2; simp at d0 d1 d2)
          | (go_at_call 38; (with_reducible refine (Hm.out _).mono ?_); rintro r w2 ⟨rfl, g2⟩; have hb2 := after hb1 g2; have hD2 := hD1.below g2 hD1.lt; have hB2 := hB1.below g2 hB1.lt; clear d0 d1 d2; have d0 := hD2.cell 0; have d1 := hD2.cell 1; have d2 := hD2.cell 2; simp at d0 d1 d2; have b0 := hB2.cell 0; have b3 := hB2.cell 3; simp at b0 b3))
        clear b0 b3 d0 d1 d2
        go_loopw [5] (fun s5 wr => ∃ i : Nat, i ≤ n ∧ s5 = .int .i64 (i : Int) ∧ RowKit.Hid (∀ j, j < i → B1 j = B2 j) ∧ RowKit.Hid (Blk wr w.heap.size 39 #[.bool v, .int .u64 (x : Int), .int .u64 (l : Int), .int .u8 (n : Int)]) ∧ RowKit.Hid (Blk wr (w.heap.size + 1) 24 #[.bool v, .int .u64 (x' : Int), .int .u64 (l' : Int)]) ∧ RowKit.Hid (Below w.heap.size w wr)) (fun s5 _ => n - (intOf s5).toNat)
        case atStart => exact ⟨0, Nat.zero_le _, rfl, Lib.hid (fun j h => by omega), Lib.hid hB2, Lib.hid hD2, Lib.hid hb2⟩
        case round =>
          obtain ⟨i, hi, rfl, hz, hB, hD, hb⟩ := hrel
          have b3 := hB.out.cell 3
          simp at b3
          have hwr : IntKind.i64.wrap (n : Int) = n := IntWalk.i64_in _ (by omega)
          by_cases hlt : i < n
          · have hlt' : (i : Int) < (n : Int) := by omega
            have HI1 := Lib.hid (HB1.out i (HSZ.out i hlt).1)
            have HI2 := Lib.hid (HB2.out i (HSZ.out i hlt).2)
            obtain ⟨X, hX⟩ : ∃ x, x = B1 i := ⟨_, rfl⟩
            obtain ⟨Y, hY⟩ : ∃ x, x = B2 i := ⟨_, rfl⟩
            rw [← hX] at HI1
            rw [← hY] at HI2
            have HX := Lib.hid hX
            have HY := Lib.hid hY
            clear hX hY
            go_wp2_with fail
            clear b3 hwr
            have ht := hB.out.drew
            have hu := hD.out.drew
            have hv := hb.out.drew
            have b0 := ht.cell 0
            have b1 := ht.cell 1
            have b2 := ht.cell 2
            have d0 := hu.cell 0
            have d1 := hu.cell 1
            have d2 := hu.cell 2
            simp at b0 b1 b2 d0 d1 d2
            cases X
            all_goals cases Y
            all_goals
              go_region_held3 (fun w' => w'.cell? ⟨w.heap.size, 0, none⟩ = some (.bool v) ∧ w'.cell? ⟨w.heap.size, 1, none⟩ = some (.int .u64 (x : Int)) ∧ w'.cell? ⟨w.heap.size, 2, none⟩ = some (.int .u64 (l : Int)) ∧ w'.cell? ⟨w.heap.size + 1, 0, none⟩ = some (.bool v) ∧ w'.cell? ⟨w.heap.size + 1, 1, none⟩ = some (.int .u64 (x' : Int)) ∧ w'.cell? ⟨w.heap.size + 1, 2, none⟩ = some (.int .u64 (l' : Int)))
                (exact ⟨b0, b1, b2, d0, d1, d2⟩)
                (first
                  | (go_at_call 58; (with_reducible refine (HI1.out _).mono ?_); rintro r wq ⟨rfl, gq⟩; have hv := after hv gq; have ht := ht.below gq ht.lt; have hu := hu.below gq hu.lt; clear gq; have b0 := ht.cell 0; have b1 := ht.cell 1; have b2 := ht.cell 2; have d0 := hu.cell 0; have d1 := hu.cell 1; have d2 := hu.cell 2; simp at b0 b1 b2 d0 d1 d2)
                  | (go_at_call 58; (with_reducible refine (HI2.out _).mono ?_); rintro r wq ⟨rfl, gq⟩; have hv := after hv gq; have ht := ht.below gq ht.lt; have hu := hu.below gq hu.lt; clear gq; have b0 := ht.cell 0; have b1 := ht.cell 1; have b2 := ht.cell 2; have d0 := hu.cell 0; have d1 := hu.cell 1; have d2 := hu.cell 2; simp at b0 b1 b2 d0 d1 d2))
            all_goals go_wp2_with fail
            all_goals first
              | (go_ret
                 refine ⟨?_, hv⟩
                 cases RR with
                 | false => rfl
                 | true => have := HBH.out.2 rfl i hlt; rw [← HX.out, ← HY.out] at this; cases this)
              | (go_roundw
                 case rel => exact ⟨i + 1, by omega, by go_num, Lib.hid (fun j h1 => by
                    by_cases e : j = i
                    · rw [e, ← HX.out, ← HY.out]
                    · exact hz.out j (by omega)), Lib.hid ht, Lib.hid hu, Lib.hid hv⟩
                 case measure => simp [intOf]; omega)
          · have hlt' : ¬ (i : Int) < (n : Int) := by omega
            go_wp2_with fail
            go_ret
            exact ⟨show Ending.returned (.bool true) = _ by rw [HBH.out.1 (fun j h => hz.out j (by omega))], hb.out⟩
      · rw [H3 h6]
        have q : (v == v') = false := by simpa using h6
        clear H1 H2 H3 HB Hb1 Hb2 hSZ h6
        go_enter Tryz.func29, Tryz.ntmps29
        go_wp2_with (first
          | (go_at_call 27; (with_reducible refine (Hp.out _).mono ?_); rintro r w1 ⟨rfl, d1⟩; have hb1 := after hb0 d1; have hD1 := hD0.below d1 hD0.lt; have hB1 := hB0.below d1 hB0.lt; have d0 := hD1.cell 0; have d1 := hD1.cell 1; have d2 := hD1.cell 2; simp at d0 d1 d2)
          | (go_at_call 38; (with_reducible refine (Hm.out _).mono ?_); rintro r w2 ⟨rfl, g2⟩; have hb2 := after hb1 g2; have hD2 := hD1.below g2 hD1.lt; have hB2 := hB1.below g2 hB1.lt; clear d0 d1 d2; have d0 := hD2.cell 0; have d1 := hD2.cell 1; have d2 := hD2.cell 2; simp at d0 d1 d2; have b0 := hB2.cell 0; have b3 := hB2.cell 3; simp at b0 b3))
        go_ret
        exact ⟨rfl, hb2⟩
end Go.Proofs.YtomndcjgdfhmbaaGreatDoor

/- PrefixText: the walks. (Printed by pt_text.py.) -/
namespace Go.Proofs.YtomndcjgdfhmbaaGreatDoor
open Go.RowKit
attribute [local go_sem ↓] Go.wp_at_zero Go.wp_at_succ

def ptextB (p : Pf) : ByteArray := ⟨(ptext p).toArray⟩
theorem ptextB_iff {p : Pf} {s : ByteArray} : ptextB p = s ↔ ptext p = s.data.toList := by
  constructor
  · intro h; rw [← h]; unfold ptextB; simp
  · intro h
    unfold ptextB
    rw [h]
theorem textB_size (a : Ad) : (textB a).size ≤ 60 := by
  have := textL_len a
  simpa [textB, ByteArray.size] using this

set_option maxHeartbeats 4000000 in
set_option maxRecDepth 100000 in
theorem prefixText_any {w : World} (env : Env w) (p : Pf) (ok : p.Ok) : Calls Tryz.prog 21 #[.agg p.cells] w (Got (.string (ptextB p)) w) := by
  have hm := mayPrefix_any p ok
  have htx := fun v (hv : Below w.heap.size w v) => text_any (env.below hv) p.a ok.a
  have hit := fun v (hv : Below w.heap.size w v) => itoa_any (env.below hv) p.bits (by have := ok.bits; omega)
  have htl := textB_size p.a
  have hn := ok.bits
  have hdl : (⟨(Lib.decDigits p.bits).toArray⟩ : ByteArray).size ≤ 3 := by
    have := decL_len p.bits (by omega)
    simpa [ByteArray.size] using this
  have hp0 : pmay p = false → ptextB p = ⟨#[]⟩ := fun h => by unfold ptextB ptext; rw [if_neg (by rw [h]; decide)]
  have hp1 : pmay p = true → ptextB p = textB p.a ++ ⟨#[47]⟩ ++ ⟨(Lib.decDigits p.bits).toArray⟩ := fun h => by
    unfold ptextB ptext textB
    rw [if_pos h]
    apply ByteArray.ext
    simp
  generalize ptextB p = PB at hp0 hp1 ⊢
  generalize pmay p = M at hm hp0 hp1
  obtain ⟨⟨v, x, l⟩, n⟩ := p
  unfold Pf.cells at *
  unfold Ad.cells at htx
  simp only at hm htx hit hn hdl hp1 ⊢
  generalize (⟨(Lib.decDigits n).toArray⟩ : ByteArray) = D at hit hdl hp1
  generalize textB ⟨v, x, l⟩ = TB at htx hp1 htl
  have Hm := Lib.hid hm
  have HTX := Lib.hid htx
  have HIT := Lib.hid hit
  have Hp0 := Lib.hid hp0
  have Hp1 := Lib.hid hp1
  have hB0 := Blk.new w 39 #[.bool v, .int .u64 (x : Int), .int .u64 (l : Int), .int .u8 (n : Int)]
  have hb0 := boxed w (.cells #[.bool v, .int .u64 (x : Int), .int .u64 (l : Int), .int .u8 (n : Int)] 39)
  clear hm htx hit hp0 hp1 env ok
  cases M with
  | false =>
    rw [Hp0.out rfl]
    go_enter Tryz.func21, Tryz.ntmps21
    go_wp2_with (go_at_call 22; (with_reducible refine (Hm.out _).mono ?_); rintro r w1 ⟨rfl, g1⟩; have hb1 := after hb0 g1)
    go_ret
    exact ⟨rfl, hb1⟩
  | true =>
    have z1 : ¬ 9223372036854775807 < TB.size + 1 := by omega
    have z2 : ¬ 9223372036854775807 < TB.size + 1 + D.size := by omega
    have hwr : IntKind.i64.wrap (n : Int) = (n : Int) := by rw [IntKind.wrap_i64]; omega
    go_enter Tryz.func21, Tryz.ntmps21
    go_wp2_with (go_at_call 22; (with_reducible refine (Hm.out _).mono ?_); rintro r w1 ⟨rfl, g1⟩; have hb1 := after hb0 g1; have hB1 := hB0.below g1 hB0.lt; clear g1)
    have ht := hB1.drew
    have hv := hb1.drew
    have b0 := ht.cell 0
    have b1 := ht.cell 1
    have b2 := ht.cell 2
    have b3 := ht.cell 3
    simp at b0 b1 b2 b3
    go_region_held3 (fun w' => w'.cell? ⟨w.heap.size, 0, none⟩ = some (.bool v) ∧ w'.cell? ⟨w.heap.size, 1, none⟩ = some (.int .u64 (x : Int)) ∧ w'.cell? ⟨w.heap.size, 2, none⟩ = some (.int .u64 (l : Int)) ∧ w'.cell? ⟨w.heap.size, 3, none⟩ = some (.int .u8 (n : Int)))
      (exact ⟨b0, b1, b2, b3⟩)
      (first
        | (go_at_call 19; (with_reducible refine (HTX.out _ hv).mono ?_); rintro r wq ⟨rfl, gq⟩; have hv := after hv gq; have ht := ht.below gq ht.lt; clear gq; have b0 := ht.cell 0; have b1 := ht.cell 1; have b2 := ht.cell 2; have b3 := ht.cell 3; simp at b0 b1 b2 b3)
        | (go_at_call 46; (with_reducible refine (HIT.out _ hv).mono ?_); rintro r wq ⟨rfl, gq⟩; have hv := after hv gq; have ht := ht.below gq ht.lt; clear gq; have b0 := ht.cell 0; have b1 := ht.cell 1; have b2 := ht.cell 2; have b3 := ht.cell 3; simp at b0 b1 b2 b3))
    all_goals go_wp2_with fail
    all_goals
      go_ret
      exact ⟨show Ending.returned (.string (TB ++ ⟨#[47]⟩ ++ D)) = _ by rw [Hp1.out (by simp)], hv⟩

set_option maxHeartbeats 4000000 in
set_option maxRecDepth 100000 in
theorem rprefixText_any {w : World} (env : Env w) (p : Pf) (ok : p.Ok) : Calls Tryz.prog 26 #[.agg p.cells] w (Got (.string (ptextB p)) w) := by
  have hm := rmayPrefix_any p ok
  have htx := fun v (hv : Below w.heap.size w v) => rtext_any (env.below hv) p.a ok.a
  have hit := fun v (hv : Below w.heap.size w v) => itoa_any (env.below hv) p.bits (by have := ok.bits; omega)
  have htl := textB_size p.a
  have hn := ok.bits
  have hdl : (⟨(Lib.decDigits p.bits).toArray⟩ : ByteArray).size ≤ 3 := by
    have := decL_len p.bits (by omega)
    simpa [ByteArray.size] using this
  have hp0 : pmay p = false → ptextB p = ⟨#[]⟩ := fun h => by unfold ptextB ptext; rw [if_neg (by rw [h]; decide)]
  have hp1 : pmay p = true → ptextB p = textB p.a ++ ⟨#[47]⟩ ++ ⟨(Lib.decDigits p.bits).toArray⟩ := fun h => by
    unfold ptextB ptext textB
    rw [if_pos h]
    apply ByteArray.ext
    simp
  generalize ptextB p = PB at hp0 hp1 ⊢
  generalize pmay p = M at hm hp0 hp1
  obtain ⟨⟨v, x, l⟩, n⟩ := p
  unfold Pf.cells at *
  unfold Ad.cells at htx
  simp only at hm htx hit hn hdl hp1 ⊢
  generalize (⟨(Lib.decDigits n).toArray⟩ : ByteArray) = D at hit hdl hp1
  generalize textB ⟨v, x, l⟩ = TB at htx hp1 htl
  have Hm := Lib.hid hm
  have HTX := Lib.hid htx
  have HIT := Lib.hid hit
  have Hp0 := Lib.hid hp0
  have Hp1 := Lib.hid hp1
  have hB0 := Blk.new w 39 #[.bool v, .int .u64 (x : Int), .int .u64 (l : Int), .int .u8 (n : Int)]
  have hb0 := boxed w (.cells #[.bool v, .int .u64 (x : Int), .int .u64 (l : Int), .int .u8 (n : Int)] 39)
  clear hm htx hit hp0 hp1 env ok
  cases M with
  | false =>
    rw [Hp0.out rfl]
    go_enter Tryz.func26, Tryz.ntmps26
    go_wp2_with (go_at_call 27; (with_reducible refine (Hm.out _).mono ?_); rintro r w1 ⟨rfl, g1⟩; have hb1 := after hb0 g1)
    go_ret
    exact ⟨rfl, hb1⟩
  | true =>
    have z1 : ¬ 9223372036854775807 < TB.size + 1 := by omega
    have z2 : ¬ 9223372036854775807 < TB.size + 1 + D.size := by omega
    have hwr : IntKind.i64.wrap (n : Int) = (n : Int) := by rw [IntKind.wrap_i64]; omega
    go_enter Tryz.func26, Tryz.ntmps26
    go_wp2_with (go_at_call 27; (with_reducible refine (Hm.out _).mono ?_); rintro r w1 ⟨rfl, g1⟩; have hb1 := after hb0 g1; have hB1 := hB0.below g1 hB0.lt; clear g1)
    have ht := hB1.drew
    have hv := hb1.drew
    have b0 := ht.cell 0
    have b1 := ht.cell 1
    have b2 := ht.cell 2
    have b3 := ht.cell 3
    simp at b0 b1 b2 b3
    go_region_held3 (fun w' => w'.cell? ⟨w.heap.size, 0, none⟩ = some (.bool v) ∧ w'.cell? ⟨w.heap.size, 1, none⟩ = some (.int .u64 (x : Int)) ∧ w'.cell? ⟨w.heap.size, 2, none⟩ = some (.int .u64 (l : Int)) ∧ w'.cell? ⟨w.heap.size, 3, none⟩ = some (.int .u8 (n : Int)))
      (exact ⟨b0, b1, b2, b3⟩)
      (first
        | (go_at_call 25; (with_reducible refine (HTX.out _ hv).mono ?_); rintro r wq ⟨rfl, gq⟩; have hv := after hv gq; have ht := ht.below gq ht.lt; clear gq; have b0 := ht.cell 0; have b1 := ht.cell 1; have b2 := ht.cell 2; have b3 := ht.cell 3; simp at b0 b1 b2 b3)
        | (go_at_call 46; (with_reducible refine (HIT.out _ hv).mono ?_); rintro r wq ⟨rfl, gq⟩; have hv := after hv gq; have ht := ht.below gq ht.lt; clear gq; have b0 := ht.cell 0; have b1 := ht.cell 1; have b2 := ht.cell 2; have b3 := ht.cell 3; simp at b0 b1 b2 b3))
    all_goals go_wp2_with fail
    all_goals
      go_ret
      exact ⟨show Ending.returned (.string (TB ++ ⟨#[47]⟩ ++ D)) = _ by rw [Hp1.out (by simp)], hv⟩
end Go.Proofs.YtomndcjgdfhmbaaGreatDoor
