/- Joined out of: SoE DeA NoA. -/
import Derived.Test.YthglckoikjfjkaaGreatDoorSat
import Derived.Test.YthglckoikjfjkaaGreatDoorSao
import Derived.Test.YthglckoikjfjkaaGreatDoorSau
import Derived.Laws.IdiomCopy
set_option linter.unusedVariables false
set_option linter.unusedSimpArgs false

/- Ports merged: the walk. (printed by merged.py) -/
namespace Go.Proofs.YthglckoikjfjkaaGreatDoor
open Go.RowKit
attribute [local go_sem ↓] Go.wp_at_zero Go.wp_at_succ

theorem sortPo_own {w : World} {base : Nat} {v : Value} {l : List (Nat × Nat)} (hl : l.length ≤ 4000000) (h : w.ownsRow base 68 2 v l.length (portCells l)) :
    Calls Tryz.prog 84 #[v, .func (.func 49) #[] #[]] w fun r w' =>
      r = .returned (.tuple #[]) ∧ ∃ S : List (Nat × Nat), S.Perm l ∧ S.Pairwise (fun x y => x.1 ≤ y.1) ∧ w'.ownsRow base 68 2 v l.length (portCells S) ∧ Below base w w' := by
  rcases h.2 with ⟨rfl, h0⟩ | ⟨g, cap, cur, rfl, _⟩
  · obtain rfl := List.eq_nil_of_length_eq_zero h0
    refine (AnyF.slices_SortFunc_none Tryz.sortPo none 0 _ w).mono ?_
    rintro r w' ⟨rfl, rfl⟩
    exact ⟨rfl, [], List.Perm.refl _, List.Pairwise.nil, h, Below.refl _ _⟩
  · exact sortPo_any hl h
set_option maxHeartbeats 16000000 in
set_option maxRecDepth 100000 in
theorem mergedPo_any {w : World} {v : Value} (l : List (Nat × Nat)) (hr : RowR w v l.length 2 (portCells l)) (hl : l.length ≤ 2000000) (ok : ∀ s ∈ l, poOk s) :
    Calls Tryz.prog 48 #[v, .func (.func 49) #[] #[], .func (.func 51) #[] #[], .func (.func 52) #[] #[]] w fun r w' =>
      (∃ (S : List (Nat × Nat)) (v' : Value), r = .returned v' ∧ S.Perm l ∧ S.Pairwise (fun x y => x.1 ≤ y.1) ∧ World.ownsRow w' w.heap.size 68 2 v' (mergeL touchO joinO S).length (portCells (mergeL touchO joinO S))) ∧ Below w.heap.size w w' := by
  have hcl := clone_po hr hl (po_one l)
  have eg3 : ∀ args w, (callFunc 51 args).run Tryz.prog w = .ok (.enter 51 args) w := enters_of Tryz.func51 (by kernel_rfl) rfl
  have eg4 : ∀ args w, (callFunc 52 args).run Tryz.prog w = .ok (.enter 52 args) w := enters_of Tryz.func52 (by kernel_rfl) rfl
  obtain ⟨i0, hi, hz0, hz1, hz2⟩ := info_parts info_po
  obtain ⟨A0, c0, rfl⟩ := hr.shape
  have HCl := Lib.hid hcl
  have hsort := fun u base v' (h : World.ownsRow u base 68 2 v' l.length (portCells l)) => sortPo_own (by omega) h
  have HSort := Lib.hid hsort
  have HOk := Lib.hid ok
  obtain ⟨N, hN⟩ : ∃ n, n = l.length := ⟨_, rfl⟩
  rw [← hN] at HCl HSort hl ⊢
  have HN := Lib.hid hN
  clear hcl hr hsort ok hN
  go_enter Tryz.func48, Tryz.ntmps48
  go_upto_region 3 with (first
    | (go_at_call 83; (with_reducible refine HCl.out.mono ?_); rintro r w2 ⟨⟨A2, c2, rfl, ho⟩, d2⟩)
    | (go_at_call 84; (with_reducible refine (HSort.out _ _ _ ho).mono ?_); rintro r w3 ⟨rfl, S, hp, hs, ho3, d3⟩))
  have Hrow := Lib.hid (RowR.of_own ho3)
  have HW := Lib.hid (d2.trans d3)
  have HP := Lib.hid hp
  have HS := Lib.hid hs
  have HNS : RowKit.Hid (N = S.length) := Lib.hid (by rw [HN.out]; exact hp.length_eq.symm)
  have HOS : RowKit.Hid (∀ s ∈ S, poOk s) := Lib.hid fun s h => HOk.out s (HP.out.mem_iff.1 h)
  clear ho ho3 d2 d3 hp hs HCl HSort
  go_wp2_with fail
  go_loopw [9, 20] (fun v9 v20 wr => ∃ (k : Nat) (A : Option Addr) (c : Nat), k ≤ N ∧ v20 = .int .i64 (k : Int) ∧ v9 = .slice A (mergeO touchO joinO S k).length c ∧ RowKit.Hid (wr.ownsRow w3.heap.size 68 2 (.slice A (mergeO touchO joinO S k).length c) (mergeO touchO joinO S k).length (portCells (mergeO touchO joinO S k))) ∧ RowKit.Hid (Below w3.heap.size w3 wr)) (fun _ v20 _ => N - (intOf v20).toNat)
  case atStart => exact ⟨0, none, 0, Nat.zero_le _, rfl, rfl, Lib.hid (World.ownsRow_nil _ _ _ _), Lib.hid (Below.refl _ _)⟩
  case round =>
    obtain ⟨k, A, c, hk, rfl, rfl, how, hb⟩ := hrel
    obtain ⟨wo, rfl⟩ : ∃ wo : World, wo = wr := ⟨_, rfl⟩
    by_cases hlt : k < N
    · have hkl : k < S.length := by have := HNS.out; omega
      have hXk : S[k]? = some S[k] := List.getElem?_eq_getElem hkl
      have hoX := HOS.out _ (List.getElem_mem hkl)
      have hsucc := mergeO_succ touchO joinO hXk
      have hLo := mergeO_ok touchO joinO poOk joinO_ok HOS.out k
      have hLl := mergeO_len touchO joinO S k
      obtain ⟨A2', c2', e2, hlen2, hcc⟩ := Hrow.out
      injection e2 with e21 _ e22
      subst e21 e22
      obtain ⟨q, o, rfl, hc⟩ := hcc (by omega)
      have hcs := portCells_at _ _ _ hXk
      generalize S[k] = X at hsucc hoX hcs
      generalize mergeO touchO joinO S k = L at hsucc hLo hLl how ⊢
      have hoXX := hoX
      obtain ⟨x1, x2⟩ := X
      obtain ⟨e0, e1⟩ := hcs
      have d0 := cellB (hc _ _ e0) hb.out
      have d1 := cellB (hc _ _ e1) hb.out
      rw [← Nat.add_assoc] at d1
      simp only at d0 d1
      clear e0 e1 hc hcc hlen2 hXk
      go_upto_region 7 with fail
      have HX := Lib.hid (Blk.new wo 68 #[.int .u16 (x1 : Int), .int .u16 (x2 : Int)])
      have how5 := Lib.hid (how.out.alloc (.cells #[.int .u16 (x1 : Int), .int .u16 (x2 : Int)] 68))
      have hb5 := Lib.hid (hb.out.alloc hb.out.size (.cells #[.int .u16 (x1 : Int), .int .u16 (x2 : Int)] 68))
      clear d0 d1 how hb
      generalize wo.alloc (.cells #[.int .u16 (x1 : Int), .int .u16 (x2 : Int)] 68) = w5 at HX how5 hb5 ⊢
      generalize wo.heap.size = XB at HX ⊢
      have a0 := HX.out.cell 0
      have a1 := HX.out.cell 1
      simp at a0 a1
      rcases List.eq_nil_or_concat L with hL | ⟨L', Y, hL⟩
      · subst hL
        have hs2 : mergeO touchO joinO S (k + 1) = [⟨x1, x2⟩] := hsucc
        have HSucc := Lib.hid hs2
        clear hsucc hs2
        simp only [List.length_nil] at how5 ⊢
        go_upto_region 8 with fail
        refine wp_region_held_drew (S := (fun _ => True)) (by kernel_rfl) (trivial) (fun hHeld => ?_)
        refine' wpAnyH_take (i := 0) (v := _) rfl (by kernel_rfl) (by kernel_rfl) (by kernel_rfl) (fun _ _ _ h => h) (Or.inl ⟨by rfl, ?ly1⟩) (by assumption) ?lrest1
        case ly1 =>
          intro w hSw
          try dsimp only at hSw
          go_simp
          try with_reducible rfl
        try simp only [Act.put, List.setIfInBounds_toArray, List.set_cons_zero, List.set_cons_succ, List.getElem_toArray, List.getElem_cons_zero, List.getElem_cons_succ]
        refine' wpAnyH_take (i := 1) (v := _) rfl (by kernel_rfl) (by kernel_rfl) (by kernel_rfl) (fun _ _ _ h => h) (Or.inl ⟨by rfl, ?ly2⟩) (by assumption) ?lrest2
        case ly2 =>
          intro w hSw
          try dsimp only at hSw
          go_simp
          try with_reducible rfl
        try simp only [Act.put, List.setIfInBounds_toArray, List.set_cons_zero, List.set_cons_succ, List.getElem_toArray, List.getElem_cons_zero, List.getElem_cons_succ]
        refine' wpAnyH_take (i := 2) (v := _) rfl (by kernel_rfl) (by kernel_rfl) (by kernel_rfl) (fun _ _ _ h => h) (Or.inl ⟨by rfl, ?ly3⟩) (by assumption) ?lrest3
        case ly3 =>
          intro w hSw
          try dsimp only at hSw
          go_simp
          try with_reducible rfl
        try simp only [Act.put, List.setIfInBounds_toArray, List.set_cons_zero, List.set_cons_succ, List.getElem_toArray, List.getElem_cons_zero, List.getElem_cons_succ]
        refine' wpAnyH_take (i := 3) (v := undef) rfl (by kernel_rfl) (by kernel_rfl) (by kernel_rfl) (fun _ _ _ h => h) (Or.inr ⟨by rfl, rfl⟩) (by assumption) ?lrest4
        try simp only [Act.put, List.setIfInBounds_toArray, List.set_cons_zero, List.set_cons_succ, List.getElem_toArray, List.getElem_cons_zero, List.getElem_cons_succ]
        refine' wpAnyH_take (i := 4) (v := undef) rfl (by kernel_rfl) (by kernel_rfl) (by kernel_rfl) (fun _ _ _ h => h) (Or.inr ⟨by rfl, rfl⟩) (by assumption) ?lrest5
        try simp only [Act.put, List.setIfInBounds_toArray, List.set_cons_zero, List.set_cons_succ, List.getElem_toArray, List.getElem_cons_zero, List.getElem_cons_succ]
        refine' wpAnyH_take (i := 5) (v := undef) rfl (by kernel_rfl) (by kernel_rfl) (by kernel_rfl) (fun _ _ _ h => h) (Or.inr ⟨by rfl, rfl⟩) (by assumption) ?lrest6
        try simp only [Act.put, List.setIfInBounds_toArray, List.set_cons_zero, List.set_cons_succ, List.getElem_toArray, List.getElem_cons_zero, List.getElem_cons_succ]
        refine' wpAnyH_take (i := 6) (v := undef) rfl (by kernel_rfl) (by kernel_rfl) (by kernel_rfl) (fun _ _ _ h => h) (Or.inr ⟨by rfl, rfl⟩) (by assumption) ?lrest7
        try simp only [Act.put, List.setIfInBounds_toArray, List.set_cons_zero, List.set_cons_succ, List.getElem_toArray, List.getElem_cons_zero, List.getElem_cons_succ]
        refine' wpAnyH_take (i := 7) (v := undef) rfl (by kernel_rfl) (by kernel_rfl) (by kernel_rfl) (fun _ _ _ h => h) (Or.inr ⟨by rfl, rfl⟩) (by assumption) ?lrest8
        try simp only [Act.put, List.setIfInBounds_toArray, List.set_cons_zero, List.set_cons_succ, List.getElem_toArray, List.getElem_cons_zero, List.getElem_cons_succ]
        refine' wpAnyH_take (i := 8) (v := undef) rfl (by kernel_rfl) (by kernel_rfl) (by kernel_rfl) (fun _ _ _ h => h) (Or.inr ⟨by rfl, rfl⟩) (by assumption) ?lrest9
        try simp only [Act.put, List.setIfInBounds_toArray, List.set_cons_zero, List.set_cons_succ, List.getElem_toArray, List.getElem_cons_zero, List.getElem_cons_succ]
        refine' wpAnyH_take (i := 9) (v := undef) rfl (by kernel_rfl) (by kernel_rfl) (by kernel_rfl) (fun _ _ _ h => h) (Or.inr ⟨by rfl, rfl⟩) (by assumption) ?lrest10
        try simp only [Act.put, List.setIfInBounds_toArray, List.set_cons_zero, List.set_cons_succ, List.getElem_toArray, List.getElem_cons_zero, List.getElem_cons_succ]
        refine' wpAnyH_take (i := 10) (v := undef) rfl (by kernel_rfl) (by kernel_rfl) (by kernel_rfl) (fun _ _ _ h => h) (Or.inr ⟨by rfl, rfl⟩) (by assumption) ?lrest11
        try simp only [Act.put, List.setIfInBounds_toArray, List.set_cons_zero, List.set_cons_succ, List.getElem_toArray, List.getElem_cons_zero, List.getElem_cons_succ]
        refine' wpAnyH_take (i := 11) (v := _) rfl (by kernel_rfl) (by kernel_rfl) (by kernel_rfl) (fun _ _ _ h => h) (Or.inl ⟨by rfl, ?ly12⟩) (by assumption) ?lrest12
        case ly12 =>
          intro w hSw
          try dsimp only at hSw
          go_simp
          try with_reducible rfl
        try simp only [Act.put, List.setIfInBounds_toArray, List.set_cons_zero, List.set_cons_succ, List.getElem_toArray, List.getElem_cons_zero, List.getElem_cons_succ]
        refine wpAnyH_done (by kernel_rfl) ?_ _
        have how6 : RowKit.Hid (w5.drew.ownsRow w3.heap.size 68 2 (.slice A 0 c) 0 (portCells [])) := how5
        have hb6 := Lib.hid (Below.drew_ hb5.out)
        replace a0 : w5.drew.cell? ⟨XB, 0, none⟩ = _ := a0
        replace a1 : w5.drew.cell? ⟨XB, 1, none⟩ = _ := a1
        generalize w5.drew = wd at how6 hb6 a0 a1 ⊢
        go_wp2_with (at_builtin; refine wpList_append_own _ rfl _ _ 59 rfl w3.heap.size 68 i0 (.agg #[.int .u16 0, .int .u16 0]) 2 4 Tryz.underlying59 hi hz0 hz1 hz2 rfl (by decide) _ 0 _ rfl (how6.out.alloc _) ⟨(wd).heap.size, 0, none⟩ 1 1 [.int .u16 (x1 : Int), .int .u16 (x2 : Int)] rfl rfl (cells_new (wd) [.int .u16 (x1 : Int), .int .u16 (x2 : Int)] 68) (by intro u hu; simp at hu; rcases hu with rfl | rfl <;> rfl) (by unfold maxLen; omega) (by omega) (by have := hb6.out.size; simp; omega) ?_; intro v' w7 hown' hgrow3 hnil3; have Ho7 := Lib.hid hown'; have hb7 := Lib.hid ((hb6.out.alloc (hb6.out.size) _).grown hgrow3 (by have := hb6.out.size; simp; omega) (fun q hq => (how6.out.lt q hq).1)); clear hown' hgrow3 hnil3)
        obtain ⟨A7, c7, rfl⟩ := own_shape Ho7.out
        go_roundw
        case rel => exact ⟨k + 1, A7, c7, by omega, by go_num, by rw [HSucc.out]; rfl, Lib.hid (by rw [HSucc.out]; exact Ho7.out), hb7⟩
        case measure => simp [intOf]; omega
      · rw [List.concat_eq_append] at hL
        subst hL
        have hoY := hLo Y (List.mem_append_right _ (List.mem_singleton_self Y))
        have hMl : (L' ++ [Y]).length = L'.length + 1 := by simp
        have hYk : (L' ++ [Y])[L'.length]? = some Y := by simp
        have HT := Lib.hid fun u => ports2_any Y ⟨x1, x2⟩ hoY.2 hoXX.1 u
        have HJ := Lib.hid fun u => ports3_any Y ⟨x1, x2⟩ u
        have hse := fun z => sets_flat poPair 2 po_len (by decide) (L' ++ [Y]) (i := L'.length) (by simp) z
        have hset : ∀ z, (L' ++ [Y]).set L'.length z = L' ++ [z] := fun z => by simp
        simp only [hset] at hse
        obtain ⟨g, rfl, hbg, hgl, hyc⟩ := own_block how5.out (by omega)
        have hcs := portCells_at _ _ _ hYk
        have hmj := fun h => step_join touchO joinO (L := L') (y := Y) (x := ⟨x1, x2⟩) h
        have hmm := fun h => step_more touchO joinO (L := L') (y := Y) (x := ⟨x1, x2⟩) h
        obtain ⟨M, hM⟩ : ∃ m, m = (L' ++ [Y]).length := ⟨_, rfl⟩
        have hM1 : L'.length = M - 1 := by omega
        have hM0 : 0 < M := by omega
        rw [hM1] at hcs hse
        rw [← hM] at how5 hLl ⊢
        have HM := Lib.hid hM
        have HHT := Lib.hid hmj
        have HHM := Lib.hid hmm
        have HSe := Lib.hid hse
        have HSucc := Lib.hid hsucc
        obtain ⟨J, hJ⟩ : ∃ z, z = joinO Y ⟨x1, x2⟩ := ⟨_, rfl⟩
        have HJJ := Lib.hid hJ
        rw [← hJ] at HJ
        obtain ⟨TT, hTT⟩ : ∃ z, z = touchO Y ⟨x1, x2⟩ := ⟨_, rfl⟩
        have HTT := Lib.hid hTT
        rw [← hTT] at HT
        have j1 : IntKind.i64.wrap ((M : Int) - 1) = ((M - 1 : Nat) : Int) := by rw [IntKind.wrap_i64]; omega
        have j2 : M - 1 < M := by omega
        clear hset hMl hYk hM hM1 hmj hmm hse hsucc hJ hTT hLo hoY hoX hoXX
        obtain ⟨e0, e1⟩ := hcs
        have b0 := hyc _ _ e0
        have b1 := hyc _ _ e1
        clear hyc e0 e1
        obtain ⟨YY, hYY⟩ : ∃ z, z = Y := ⟨_, rfl⟩
        have HYY := Lib.hid hYY
        obtain ⟨y1, y2⟩ := Y
        obtain ⟨JJ, hJ2⟩ : ∃ z, z = J := ⟨_, rfl⟩
        have HJ2 := Lib.hid hJ2
        obtain ⟨j1, j2⟩ := J
        simp only at HT HJ b0 b1
        clear hYY hJ2
        go_upto_region 8 with fail
        cases TT with
        | false =>
          refine wp_region_held_drew (S := (fun w' => w'.cell? ⟨g, (M - 1) * 2, none⟩ = some (.int .u16 (y1 : Int)) ∧ w'.cell? ⟨g, (M - 1) * 2 + 1, none⟩ = some (.int .u16 (y2 : Int)) ∧ w'.cell? ⟨XB, 0, none⟩ = some (.int .u16 (x1 : Int)) ∧ w'.cell? ⟨XB, 1, none⟩ = some (.int .u16 (x2 : Int)))) (by kernel_rfl) (⟨b0, b1, a0, a1⟩) (fun hHeld => ?_)
          refine' wpAnyH_take (i := 0) (v := _) rfl (by kernel_rfl) (by kernel_rfl) (by kernel_rfl) (fun _ _ _ h => h) (Or.inl ⟨by rfl, ?ly13⟩) (by assumption) ?lrest13
          case ly13 =>
            intro w hSw
            try dsimp only at hSw
            go_simp
            try with_reducible rfl
          try simp only [Act.put, List.setIfInBounds_toArray, List.set_cons_zero, List.set_cons_succ, List.getElem_toArray, List.getElem_cons_zero, List.getElem_cons_succ]
          refine' wpAnyH_take (i := 1) (v := _) rfl (by kernel_rfl) (by kernel_rfl) (by kernel_rfl) (fun _ _ _ h => h) (Or.inl ⟨by rfl, ?ly14⟩) (by assumption) ?lrest14
          case ly14 =>
            intro w hSw
            try dsimp only at hSw
            go_simp
            try with_reducible rfl
          try simp only [Act.put, List.setIfInBounds_toArray, List.set_cons_zero, List.set_cons_succ, List.getElem_toArray, List.getElem_cons_zero, List.getElem_cons_succ]
          refine' wpAnyH_take (i := 2) (v := _) rfl (by kernel_rfl) (by kernel_rfl) (by kernel_rfl) (fun _ _ _ h => h) (Or.inl ⟨by rfl, ?ly15⟩) (by assumption) ?lrest15
          case ly15 =>
            intro w hSw
            try dsimp only at hSw
            go_simp
            try with_reducible rfl
          try simp only [Act.put, List.setIfInBounds_toArray, List.set_cons_zero, List.set_cons_succ, List.getElem_toArray, List.getElem_cons_zero, List.getElem_cons_succ]
          refine' wpAnyH_take (i := 3) (v := _) rfl (by kernel_rfl) (by kernel_rfl) (by kernel_rfl) (fun _ _ _ h => h) (Or.inl ⟨by rfl, ?ly16⟩) (by assumption) ?lrest16
          case ly16 =>
            intro w hSw
            try dsimp only at hSw
            go_simp
            try with_reducible rfl
          try simp only [Act.put, List.setIfInBounds_toArray, List.set_cons_zero, List.set_cons_succ, List.getElem_toArray, List.getElem_cons_zero, List.getElem_cons_succ]
          refine' wpAnyH_take (i := 4) (v := _) rfl (by kernel_rfl) (by kernel_rfl) (by kernel_rfl) (fun _ _ _ h => h) (Or.inl ⟨by rfl, ?ly17⟩) (by assumption) ?lrest17
          case ly17 =>
            intro w hSw
            try dsimp only at hSw
            go_simp
            try with_reducible rfl
          try simp only [Act.put, List.setIfInBounds_toArray, List.set_cons_zero, List.set_cons_succ, List.getElem_toArray, List.getElem_cons_zero, List.getElem_cons_succ]
          refine' wpAnyH_take (i := 5) (v := _) rfl (by kernel_rfl) (by kernel_rfl) (by kernel_rfl) (fun _ _ _ h => h) (Or.inl ⟨by rfl, ?ly18⟩) (by assumption) ?lrest18
          case ly18 =>
            intro w hSw
            try dsimp only at hSw
            go_simp
            try with_reducible rfl
          try simp only [Act.put, List.setIfInBounds_toArray, List.set_cons_zero, List.set_cons_succ, List.getElem_toArray, List.getElem_cons_zero, List.getElem_cons_succ]
          refine' wpAnyH_take (i := 6) (v := _) rfl (by kernel_rfl) (by kernel_rfl) (by kernel_rfl) (fun _ _ _ h => h) (Or.inl ⟨by rfl, ?ly19⟩) (by assumption) ?lrest19
          case ly19 =>
            intro w hSw
            try dsimp only at hSw
            go_simp
            try with_reducible rfl
          try simp only [Act.put, List.setIfInBounds_toArray, List.set_cons_zero, List.set_cons_succ, List.getElem_toArray, List.getElem_cons_zero, List.getElem_cons_succ]
          refine' wpAnyH_take (i := 7) (v := _) rfl (by kernel_rfl) (by kernel_rfl) (by kernel_rfl) (fun _ _ _ h => h) (Or.inl ⟨by rfl, ?ly20⟩) (by assumption) ?lrest20
          case ly20 =>
            intro w hSw
            try dsimp only at hSw
            go_simp
            try with_reducible rfl
          try simp only [Act.put, List.setIfInBounds_toArray, List.set_cons_zero, List.set_cons_succ, List.getElem_toArray, List.getElem_cons_zero, List.getElem_cons_succ]
          refine' wpAnyH_take (i := 8) (v := _) rfl (by kernel_rfl) (by kernel_rfl) (by kernel_rfl) (fun _ _ _ h => h) (Or.inl ⟨by rfl, ?ly21⟩) (by assumption) ?lrest21
          case ly21 =>
            intro w hSw
            try dsimp only at hSw
            go_simp
            try with_reducible rfl
          try simp only [Act.put, List.setIfInBounds_toArray, List.set_cons_zero, List.set_cons_succ, List.getElem_toArray, List.getElem_cons_zero, List.getElem_cons_succ]
          refine' wpAnyH_take (i := 9) (v := _) rfl (by kernel_rfl) (by kernel_rfl) (by kernel_rfl) (fun _ _ _ h => h) (Or.inl ⟨by rfl, ?ly22⟩) (by assumption) ?lrest22
          case ly22 =>
            intro w hSw
            try dsimp only at hSw
            go_simp
            try with_reducible rfl
          try simp only [Act.put, List.setIfInBounds_toArray, List.set_cons_zero, List.set_cons_succ, List.getElem_toArray, List.getElem_cons_zero, List.getElem_cons_succ]
          refine wpAnyH_ready (rs := [10]) (by kernel_rfl) (by simp) ?_
          refine AllReadyH.cons rfl (fun K hK => ?_) AllReadyH.nil
          go_simp
          refine (HT.out _).mono ?_
          rintro r wb ⟨rfl, db⟩
          have eb := Below.of_drew db
          clear db
          refine hK.out _ _ (⟨cellB b0 eb, cellB b1 eb, cellB a0 eb, cellB a1 eb⟩) (fun hHeld => ?_)
          clear hK K
          try simp only [Act.put, List.setIfInBounds_toArray, List.set_cons_zero, List.set_cons_succ, List.getElem_toArray, List.getElem_cons_zero, List.getElem_cons_succ]
          refine' wpAnyH_take (i := 11) (v := _) rfl (by kernel_rfl) (by kernel_rfl) (by kernel_rfl) (fun _ _ _ h => h) (Or.inl ⟨by rfl, ?ly24⟩) (by assumption) ?lrest24
          case ly24 =>
            intro w hSw
            try dsimp only at hSw
            go_simp
            try with_reducible rfl
          try simp only [Act.put, List.setIfInBounds_toArray, List.set_cons_zero, List.set_cons_succ, List.getElem_toArray, List.getElem_cons_zero, List.getElem_cons_succ]
          refine wpAnyH_done (by kernel_rfl) ?_ _
          have how6 := Lib.hid (own_below how5.out eb)
          have hb6 := Lib.hid (hb5.out.trans (eb.mono hb5.out.size))
          replace a0 := cellB a0 eb
          replace a1 := cellB a1 eb
          clear b0 b1 eb
          go_wp2_with (at_builtin; refine wpList_append_own _ rfl _ _ 59 rfl w3.heap.size 68 i0 (.agg #[.int .u16 0, .int .u16 0]) 2 4 Tryz.underlying59 hi hz0 hz1 hz2 rfl (by decide) _ M _ rfl (how6.out.alloc _) ⟨(wb).heap.size, 0, none⟩ 1 1 [.int .u16 (x1 : Int), .int .u16 (x2 : Int)] rfl rfl (cells_new (wb) [.int .u16 (x1 : Int), .int .u16 (x2 : Int)] 68) (by intro u hu; simp at hu; rcases hu with rfl | rfl <;> rfl) (by unfold maxLen; omega) (by omega) (by have := hb6.out.size; simp; omega) ?_; intro v' w7 hown' hgrow3 hnil3; have Ho7 := Lib.hid hown'; have hb7 := Lib.hid ((hb6.out.alloc (hb6.out.size) _).grown hgrow3 (by have := hb6.out.size; simp; omega) (fun q hq => (how6.out.lt q hq).1)); clear hown' hgrow3 hnil3)
          obtain ⟨A7, c7, rfl⟩ := own_shape Ho7.out
          have hL2 := HSucc.out.trans (HHM.out HTT.out.symm)
          have hl2 : (mergeO touchO joinO S (k + 1)).length = M + 1 := by rw [hL2, List.length_append, ← HM.out]; rfl
          go_roundw
          case rel => exact ⟨k + 1, A7, c7, by omega, by go_num, by rw [hl2], Lib.hid (by rw [hl2, hL2, portCells_snoc]; exact Ho7.out), hb7⟩
          case measure => simp [intOf]; omega
        | true =>
          refine wp_region_held_drew (S := (fun w' => w'.cell? ⟨g, (M - 1) * 2, none⟩ = some (.int .u16 (y1 : Int)) ∧ w'.cell? ⟨g, (M - 1) * 2 + 1, none⟩ = some (.int .u16 (y2 : Int)) ∧ w'.cell? ⟨XB, 0, none⟩ = some (.int .u16 (x1 : Int)) ∧ w'.cell? ⟨XB, 1, none⟩ = some (.int .u16 (x2 : Int)))) (by kernel_rfl) (⟨b0, b1, a0, a1⟩) (fun hHeld => ?_)
          refine' wpAnyH_take (i := 0) (v := _) rfl (by kernel_rfl) (by kernel_rfl) (by kernel_rfl) (fun _ _ _ h => h) (Or.inl ⟨by rfl, ?ly25⟩) (by assumption) ?lrest25
          case ly25 =>
            intro w hSw
            try dsimp only at hSw
            go_simp
            try with_reducible rfl
          try simp only [Act.put, List.setIfInBounds_toArray, List.set_cons_zero, List.set_cons_succ, List.getElem_toArray, List.getElem_cons_zero, List.getElem_cons_succ]
          refine' wpAnyH_take (i := 1) (v := _) rfl (by kernel_rfl) (by kernel_rfl) (by kernel_rfl) (fun _ _ _ h => h) (Or.inl ⟨by rfl, ?ly26⟩) (by assumption) ?lrest26
          case ly26 =>
            intro w hSw
            try dsimp only at hSw
            go_simp
            try with_reducible rfl
          try simp only [Act.put, List.setIfInBounds_toArray, List.set_cons_zero, List.set_cons_succ, List.getElem_toArray, List.getElem_cons_zero, List.getElem_cons_succ]
          refine' wpAnyH_take (i := 2) (v := _) rfl (by kernel_rfl) (by kernel_rfl) (by kernel_rfl) (fun _ _ _ h => h) (Or.inl ⟨by rfl, ?ly27⟩) (by assumption) ?lrest27
          case ly27 =>
            intro w hSw
            try dsimp only at hSw
            go_simp
            try with_reducible rfl
          try simp only [Act.put, List.setIfInBounds_toArray, List.set_cons_zero, List.set_cons_succ, List.getElem_toArray, List.getElem_cons_zero, List.getElem_cons_succ]
          refine' wpAnyH_take (i := 3) (v := _) rfl (by kernel_rfl) (by kernel_rfl) (by kernel_rfl) (fun _ _ _ h => h) (Or.inl ⟨by rfl, ?ly28⟩) (by assumption) ?lrest28
          case ly28 =>
            intro w hSw
            try dsimp only at hSw
            go_simp
            try with_reducible rfl
          try simp only [Act.put, List.setIfInBounds_toArray, List.set_cons_zero, List.set_cons_succ, List.getElem_toArray, List.getElem_cons_zero, List.getElem_cons_succ]
          refine' wpAnyH_take (i := 4) (v := _) rfl (by kernel_rfl) (by kernel_rfl) (by kernel_rfl) (fun _ _ _ h => h) (Or.inl ⟨by rfl, ?ly29⟩) (by assumption) ?lrest29
          case ly29 =>
            intro w hSw
            try dsimp only at hSw
            go_simp
            try with_reducible rfl
          try simp only [Act.put, List.setIfInBounds_toArray, List.set_cons_zero, List.set_cons_succ, List.getElem_toArray, List.getElem_cons_zero, List.getElem_cons_succ]
          refine' wpAnyH_take (i := 5) (v := _) rfl (by kernel_rfl) (by kernel_rfl) (by kernel_rfl) (fun _ _ _ h => h) (Or.inl ⟨by rfl, ?ly30⟩) (by assumption) ?lrest30
          case ly30 =>
            intro w hSw
            try dsimp only at hSw
            go_simp
            try with_reducible rfl
          try simp only [Act.put, List.setIfInBounds_toArray, List.set_cons_zero, List.set_cons_succ, List.getElem_toArray, List.getElem_cons_zero, List.getElem_cons_succ]
          refine' wpAnyH_take (i := 6) (v := _) rfl (by kernel_rfl) (by kernel_rfl) (by kernel_rfl) (fun _ _ _ h => h) (Or.inl ⟨by rfl, ?ly31⟩) (by assumption) ?lrest31
          case ly31 =>
            intro w hSw
            try dsimp only at hSw
            go_simp
            try with_reducible rfl
          try simp only [Act.put, List.setIfInBounds_toArray, List.set_cons_zero, List.set_cons_succ, List.getElem_toArray, List.getElem_cons_zero, List.getElem_cons_succ]
          refine' wpAnyH_take (i := 7) (v := _) rfl (by kernel_rfl) (by kernel_rfl) (by kernel_rfl) (fun _ _ _ h => h) (Or.inl ⟨by rfl, ?ly32⟩) (by assumption) ?lrest32
          case ly32 =>
            intro w hSw
            try dsimp only at hSw
            go_simp
            try with_reducible rfl
          try simp only [Act.put, List.setIfInBounds_toArray, List.set_cons_zero, List.set_cons_succ, List.getElem_toArray, List.getElem_cons_zero, List.getElem_cons_succ]
          refine' wpAnyH_take (i := 8) (v := _) rfl (by kernel_rfl) (by kernel_rfl) (by kernel_rfl) (fun _ _ _ h => h) (Or.inl ⟨by rfl, ?ly33⟩) (by assumption) ?lrest33
          case ly33 =>
            intro w hSw
            try dsimp only at hSw
            go_simp
            try with_reducible rfl
          try simp only [Act.put, List.setIfInBounds_toArray, List.set_cons_zero, List.set_cons_succ, List.getElem_toArray, List.getElem_cons_zero, List.getElem_cons_succ]
          refine' wpAnyH_take (i := 9) (v := _) rfl (by kernel_rfl) (by kernel_rfl) (by kernel_rfl) (fun _ _ _ h => h) (Or.inl ⟨by rfl, ?ly34⟩) (by assumption) ?lrest34
          case ly34 =>
            intro w hSw
            try dsimp only at hSw
            go_simp
            try with_reducible rfl
          try simp only [Act.put, List.setIfInBounds_toArray, List.set_cons_zero, List.set_cons_succ, List.getElem_toArray, List.getElem_cons_zero, List.getElem_cons_succ]
          refine wpAnyH_ready (rs := [10]) (by kernel_rfl) (by simp) ?_
          refine AllReadyH.cons rfl (fun K hK => ?_) AllReadyH.nil
          go_simp
          refine (HT.out _).mono ?_
          rintro r wb ⟨rfl, db⟩
          have eb := Below.of_drew db
          clear db
          refine hK.out _ _ (⟨cellB b0 eb, cellB b1 eb, cellB a0 eb, cellB a1 eb⟩) (fun hHeld => ?_)
          clear hK K
          try simp only [Act.put, List.setIfInBounds_toArray, List.set_cons_zero, List.set_cons_succ, List.getElem_toArray, List.getElem_cons_zero, List.getElem_cons_succ]
          refine' wpAnyH_take (i := 11) (v := _) rfl (by kernel_rfl) (by kernel_rfl) (by kernel_rfl) (fun _ _ _ h => h) (Or.inl ⟨by rfl, ?ly36⟩) (by assumption) ?lrest36
          case ly36 =>
            intro w hSw
            try dsimp only at hSw
            go_simp
            try with_reducible rfl
          try simp only [Act.put, List.setIfInBounds_toArray, List.set_cons_zero, List.set_cons_succ, List.getElem_toArray, List.getElem_cons_zero, List.getElem_cons_succ]
          refine wpAnyH_done (by kernel_rfl) ?_ _
          have how6 := Lib.hid (own_below how5.out eb)
          have hb6 := Lib.hid (hb5.out.trans (eb.mono hb5.out.size))
          have hgw := eb.size
          replace b0 := cellB b0 eb
          replace b1 := cellB b1 eb
          replace a0 := cellB a0 eb
          replace a1 := cellB a1 eb
          clear eb
          go_upto_region 9 with fail
          refine wp_region_E 12 (fun w' => w'.cell? ⟨g, (M - 1) * 2, none⟩ = some (.int .u16 (y1 : Int)) ∧ w'.cell? ⟨g, (M - 1) * 2 + 1, none⟩ = some (.int .u16 (y2 : Int)) ∧ w'.cell? ⟨XB, 0, none⟩ = some (.int .u16 (x1 : Int)) ∧ w'.cell? ⟨XB, 1, none⟩ = some (.int .u16 (x2 : Int))) (by kernel_rfl) (⟨b0, b1, a0, a1⟩) (fun hHeld => ?_)
          refine' wpAnyE_take (i := 0) (v := _) rfl (by kernel_rfl) (by kernel_rfl) (by kernel_rfl) (fun _ _ _ h => h) (Or.inl ⟨by rfl, ?ly37⟩) (by assumption) (by kernel_rfl) ?lrest37
          case ly37 =>
            intro w hSw
            try dsimp only at hSw
            go_simp
            try with_reducible rfl
          try simp only [Act.put, List.setIfInBounds_toArray, List.set_cons_zero, List.set_cons_succ, List.getElem_toArray, List.getElem_cons_zero, List.getElem_cons_succ]
          refine' wpAnyE_take (i := 1) (v := _) rfl (by kernel_rfl) (by kernel_rfl) (by kernel_rfl) (fun _ _ _ h => h) (Or.inl ⟨by rfl, ?ly38⟩) (by assumption) (by kernel_rfl) ?lrest38
          case ly38 =>
            intro w hSw
            try dsimp only at hSw
            go_simp
            try with_reducible rfl
          try simp only [Act.put, List.setIfInBounds_toArray, List.set_cons_zero, List.set_cons_succ, List.getElem_toArray, List.getElem_cons_zero, List.getElem_cons_succ]
          refine' wpAnyE_take (i := 2) (v := _) rfl (by kernel_rfl) (by kernel_rfl) (by kernel_rfl) (fun _ _ _ h => h) (Or.inl ⟨by rfl, ?ly39⟩) (by assumption) (by kernel_rfl) ?lrest39
          case ly39 =>
            intro w hSw
            try dsimp only at hSw
            go_simp
            try with_reducible rfl
          try simp only [Act.put, List.setIfInBounds_toArray, List.set_cons_zero, List.set_cons_succ, List.getElem_toArray, List.getElem_cons_zero, List.getElem_cons_succ]
          refine' wpAnyE_take (i := 3) (v := _) rfl (by kernel_rfl) (by kernel_rfl) (by kernel_rfl) (fun _ _ _ h => h) (Or.inl ⟨by rfl, ?ly40⟩) (by assumption) (by kernel_rfl) ?lrest40
          case ly40 =>
            intro w hSw
            try dsimp only at hSw
            go_simp
            try with_reducible rfl
          try simp only [Act.put, List.setIfInBounds_toArray, List.set_cons_zero, List.set_cons_succ, List.getElem_toArray, List.getElem_cons_zero, List.getElem_cons_succ]
          refine' wpAnyE_take (i := 4) (v := _) rfl (by kernel_rfl) (by kernel_rfl) (by kernel_rfl) (fun _ _ _ h => h) (Or.inl ⟨by rfl, ?ly41⟩) (by assumption) (by kernel_rfl) ?lrest41
          case ly41 =>
            intro w hSw
            try dsimp only at hSw
            go_simp
            try with_reducible rfl
          try simp only [Act.put, List.setIfInBounds_toArray, List.set_cons_zero, List.set_cons_succ, List.getElem_toArray, List.getElem_cons_zero, List.getElem_cons_succ]
          refine' wpAnyE_take (i := 5) (v := _) rfl (by kernel_rfl) (by kernel_rfl) (by kernel_rfl) (fun _ _ _ h => h) (Or.inl ⟨by rfl, ?ly42⟩) (by assumption) (by kernel_rfl) ?lrest42
          case ly42 =>
            intro w hSw
            try dsimp only at hSw
            go_simp
            try with_reducible rfl
          try simp only [Act.put, List.setIfInBounds_toArray, List.set_cons_zero, List.set_cons_succ, List.getElem_toArray, List.getElem_cons_zero, List.getElem_cons_succ]
          refine' wpAnyE_take (i := 6) (v := _) rfl (by kernel_rfl) (by kernel_rfl) (by kernel_rfl) (fun _ _ _ h => h) (Or.inl ⟨by rfl, ?ly43⟩) (by assumption) (by kernel_rfl) ?lrest43
          case ly43 =>
            intro w hSw
            try dsimp only at hSw
            go_simp
            try with_reducible rfl
          try simp only [Act.put, List.setIfInBounds_toArray, List.set_cons_zero, List.set_cons_succ, List.getElem_toArray, List.getElem_cons_zero, List.getElem_cons_succ]
          refine' wpAnyE_take (i := 7) (v := _) rfl (by kernel_rfl) (by kernel_rfl) (by kernel_rfl) (fun _ _ _ h => h) (Or.inl ⟨by rfl, ?ly44⟩) (by assumption) (by kernel_rfl) ?lrest44
          case ly44 =>
            intro w hSw
            try dsimp only at hSw
            go_simp
            try with_reducible rfl
          try simp only [Act.put, List.setIfInBounds_toArray, List.set_cons_zero, List.set_cons_succ, List.getElem_toArray, List.getElem_cons_zero, List.getElem_cons_succ]
          refine' wpAnyE_take (i := 8) (v := _) rfl (by kernel_rfl) (by kernel_rfl) (by kernel_rfl) (fun _ _ _ h => h) (Or.inl ⟨by rfl, ?ly45⟩) (by assumption) (by kernel_rfl) ?lrest45
          case ly45 =>
            intro w hSw
            try dsimp only at hSw
            go_simp
            try with_reducible rfl
          try simp only [Act.put, List.setIfInBounds_toArray, List.set_cons_zero, List.set_cons_succ, List.getElem_toArray, List.getElem_cons_zero, List.getElem_cons_succ]
          refine' wpAnyE_take (i := 9) (v := _) rfl (by kernel_rfl) (by kernel_rfl) (by kernel_rfl) (fun _ _ _ h => h) (Or.inl ⟨by rfl, ?ly46⟩) (by assumption) (by kernel_rfl) ?lrest46
          case ly46 =>
            intro w hSw
            try dsimp only at hSw
            go_simp
            try with_reducible rfl
          try simp only [Act.put, List.setIfInBounds_toArray, List.set_cons_zero, List.set_cons_succ, List.getElem_toArray, List.getElem_cons_zero, List.getElem_cons_succ]
          refine wpAnyE_ready (rs := [10]) (by kernel_rfl) (by simp) ?_
          refine AllReadyE.cons rfl (fun K hK => ?_) AllReadyE.nil
          go_simp
          refine (HJ.out _).mono ?_
          rintro r wc ⟨rfl, dc⟩
          have ec := Below.of_drew dc
          clear dc
          have how7 := Lib.hid (own_below how6.out ec)
          have hb7 := Lib.hid (hb6.out.trans (ec.mono hb6.out.size))
          have f0 := World.ownsRow.frozenAt how7.out ((M - 1) * 2)
          have f1 := World.ownsRow.frozenAt how7.out ((M - 1) * 2 + 1)
          refine hK.out _ _ (fun _ => ⟨cellB b0 ec, cellB b1 ec, cellB a0 ec, cellB a1 ec⟩) (fun hHeld => ?_)
          have hHeld := hHeld (by decide)
          clear hK K
          try simp only [Act.put, List.setIfInBounds_toArray, List.set_cons_zero, List.set_cons_succ, List.getElem_toArray, List.getElem_cons_zero, List.getElem_cons_succ]
          refine' wpAnyE_take (i := 11) (v := _) rfl (by kernel_rfl) (by kernel_rfl) (by kernel_rfl) (fun _ _ _ h => h) (Or.inl ⟨by rfl, ?ly48⟩) (by assumption) (by kernel_rfl) ?lrest48
          case ly48 =>
            intro w hSw
            try dsimp only at hSw
            go_simp
            try with_reducible rfl
          try simp only [Act.put, List.setIfInBounds_toArray, List.set_cons_zero, List.set_cons_succ, List.getElem_toArray, List.getElem_cons_zero, List.getElem_cons_succ]
          refine wpAnyE_ready (rs := [12]) (by kernel_rfl) (by simp) ?_
          refine AllReadyE.cons rfl (fun K hK => ?_) AllReadyE.nil
          go_simp
          refine hK.out _ _ (fun h => absurd rfl h) (fun _ => ?_)
          clear hK K hHeld
          try simp only [Act.put, List.setIfInBounds_toArray, List.set_cons_zero, List.set_cons_succ, List.getElem_toArray, List.getElem_cons_zero, List.getElem_cons_succ]
          refine wpAnyE_done (by kernel_rfl) ?_
          have how8 := Lib.hid (own_sets [.int .u16 (j1 : Int), .int .u16 (j2 : Int)] wc ((M - 1) * 2) _ how7.out)
          have hb8 := Lib.hid (below_sets hbg [.int .u16 (j1 : Int), .int .u16 (j2 : Int)] wc ((M - 1) * 2) hb7.out)
          have hL2 := HSucc.out.trans (HHT.out HTT.out.symm)
          have hl2 : (mergeO touchO joinO S (k + 1)).length = M := by
            rw [hL2, List.length_append]
            have := HM.out
            rw [List.length_append] at this
            exact this.symm
          have hse2 := HSe.out ((⟨j1, j2⟩) : (Nat × Nat))
          have HL2 := Lib.hid hL2
          have Hl2 := Lib.hid hl2
          have HSe2 := Lib.hid hse2
          clear hL2 hl2 hse2 f0 f1
          go_wp2_with fail
          go_roundw
          case rel =>
            refine ⟨k + 1, some ⟨g, 0, none⟩, c, by omega, by go_num, by rw [Hl2.out], Lib.hid ?_, hb8⟩
            rw [Hl2.out, HL2.out, ← HJJ.out, ← HJ2.out]
            have h8 := how8.out
            rw [show (portCells (L' ++ [((⟨y1, y2⟩) : (Nat × Nat))])) = (L' ++ [((⟨y1, y2⟩) : (Nat × Nat))]).flatMap poPair from rfl] at h8
            have h9 := HSe2.out
            first | (rw [show ([.int .u16 (j1 : Int), .int .u16 (j2 : Int)] : List Value) = poPair ((⟨j1, j2⟩) : (Nat × Nat)) from rfl, h9] at h8; rw [HJ2.out]; exact h8) | (trace_state; exact h8)
          case measure => simp [intOf]; omega
    · obtain rfl : k = N := by omega
      have hE : mergeO touchO joinO S k = mergeL touchO joinO S := by rw [HNS.out, mergeO_end]
      rw [hE] at how ⊢
      have HRr := Lib.hid (World.ownsRow.mono how.out HW.out.size)
      have HBB := Lib.hid (HW.out.trans (hb.out.mono HW.out.size))
      clear hE how hb
      go_wp2_with fail
      go_ret
      exact ⟨⟨S, _, rfl, HP.out, HS.out, HRr.out⟩, HBB.out⟩
end Go.Proofs.YthglckoikjfjkaaGreatDoor

/- Rules: what may not be is left out of ranges (slices.DeleteFunc); the normal form (Norm, ports): the walks. -/
namespace Go.Proofs.YthglckoikjfjkaaGreatDoor
open Go.RowKit
attribute [local go_sem ↓] Go.wp_at_zero Go.wp_at_succ

theorem sp_take : ∀ (l : List Sp) (k : Nat), spCells (l.take k) = (spCells l).take (k * 6) := by
  intro l
  induction l with
  | nil => intro k; simp [spCells]
  | cons x r ih =>
    intro k
    cases k with
    | zero => simp [spCells]
    | succ k =>
      have e1 : spCells (x :: r) = x.cells.toList ++ spCells r := rfl
      have e2 : spCells ((x :: r).take (k + 1)) = x.cells.toList ++ spCells (r.take k) := rfl
      rw [e1, e2, ih, show (k + 1) * 6 = x.cells.toList.length + k * 6 by rw [sp_len']; omega, List.take_length_add_append]
theorem own_head {w : World} {base g n cap size : Nat} {e : TypeId} {xs : List Value} (h : w.ownsRow base e size (.slice (some ⟨g, 0, none⟩) n cap) n xs) {i : Nat} (hi : i ≤ n) : w.ownsRow base e size (.slice (some ⟨g, 0, none⟩) i cap) i (xs.take (i * size)) := by
  have hs : i * size ≤ n * size := Nat.mul_le_mul_right _ hi
  obtain ⟨h1, h2⟩ := h
  refine ⟨by rw [List.length_take, h1]; omega, ?_⟩
  rcases h2 with ⟨e0, _⟩ | ⟨g', cap', cur, e0, hb, hg, c1, c2, c3, c4⟩
  · cases e0
  · injection e0 with e0 _ e3
    subst e3
    refine .inr ⟨g', cap, cur, by rw [e0], hb, hg, by omega, c2, c3, ?_⟩
    rw [← c4, List.take_take]
    congr 1
    omega
theorem setsL_take : ∀ (vs : List Value) (xs : List Value) (j : Nat), (setsL xs j vs).take j = xs.take j := by
  intro vs xs j
  apply List.ext_getElem?
  intro t
  rw [List.getElem?_take, List.getElem?_take]
  split
  · rw [setsL_at, if_neg (by omega)]
  · rfl
theorem own_cap {w : World} {base g n cap size : Nat} {e : TypeId} {xs : List Value} (h : w.ownsRow base e size (.slice (some ⟨g, 0, none⟩) n cap) n xs) : n ≤ cap := by
  rcases h.2 with ⟨e0, _⟩ | ⟨g', cap', cur, e0, _, _, c1, _⟩
  · cases e0
  · injection e0 with _ _ e3
    omega
def zeroSp (n : Nat) : List Value := (Builtin.zeroCells #[.bool false, .int .u64 0, .int .u64 0, .bool false, .int .u64 0, .int .u64 0] n).toList
theorem zeroV_sp (w : World) : (zeroValue 73).run Tryz.prog w = .ok (.agg #[.bool false, .int .u64 0, .int .u64 0, .bool false, .int .u64 0, .int .u64 0]) w := by kernel_rfl
theorem zeroSp_len (n : Nat) : (zeroSp n).length = n * 6 := by simp [zeroSp, Builtin.zeroCells]
theorem zeroSp_one (n : Nat) : ∀ v ∈ zeroSp n, v.oneCell' = true := by
  intro v hv
  unfold zeroSp Builtin.zeroCells at hv
  rw [Array.toList_map] at hv
  obtain ⟨i, _, rfl⟩ := List.mem_map.1 hv
  have : i % 6 < 6 := Nat.mod_lt _ (by decide)
  show ((#[.bool false, .int .u64 0, .int .u64 0, .bool false, .int .u64 0, .int .u64 0] : Array Value)[i % 6]!).oneCell' = true
  generalize i % 6 = r at this
  match r, this with
  | 0, _ => rfl
  | 1, _ => rfl
  | 2, _ => rfl
  | 3, _ => rfl
  | 4, _ => rfl
  | 5, _ => rfl
theorem clear_sp (ty : TypeId) {w : World} {base g n cap : Nat} {xs : List Value} (h : w.ownsRow base 73 6 (.slice (some ⟨g, 0, none⟩) n cap) n xs) {i m c : Nat} (hn : n = i + (m + 1)) :
    (Builtin.clear_ #[70] ty #[.slice (some ⟨g, i * 6, none⟩) (m + 1) c]).run Tryz.prog w = .ok (.tuple #[]) (w.setCells g (i * 6) (zeroSp (m + 1))) := by
  have hst := run_storeCells_cells (P := Tryz.prog) g (i * 6) (zeroSp (m + 1)) 0 w (fun j hj => ?_) (fun j hj => World.ownsRow.frozenAt h _) (zeroSp_one _)
  · simp only [Nat.add_zero] at hst
    have hv := zeroV_sp
    unfold zeroSp at hst ⊢
    simp [Builtin.clear_, run_underlying Tryz.underlying70, hv, Value.cells, hst]
  · rw [zeroSp_len] at hj
    have hj2 : i * 6 + 0 + j < n * 6 := by rw [hn]; omega
    rw [World.ownsRow.cellAt h _ hj2, List.getElem?_eq_getElem (by rw [h.1]; exact hj2)]
    rfl

structure DelAt (l : List Sp) (i j : Nat) (L : List Sp) : Prop where
  ij : i < j
  jn : j ≤ l.length
  len : L.length = l.length
  head : L.take i = (l.take j).filter maySp
  tail : L.drop j = l.drop j
theorem DelAt.start {l : List Sp} {k : Nat} {x : Sp} (hx : l[k]? = some x) (hd : maySp x = false) (hn : ∀ j y, j < k → l[j]? = some y → maySp y = true) : DelAt l k (k + 1) l := by
  have hk := (List.getElem?_eq_some_iff.1 hx).1
  refine ⟨Nat.lt_succ_self k, hk, rfl, ?_, rfl⟩
  rw [List.take_succ_eq_append_getElem hk, List.filter_append, (List.getElem?_eq_some_iff.1 hx).2]
  have h1 : (l.take k).filter maySp = l.take k := by
    rw [List.filter_eq_self]
    intro y hy
    obtain ⟨j, hj⟩ := List.getElem?_of_mem hy
    rw [List.getElem?_take] at hj
    split at hj
    · next hjk => exact hn j y hjk hj
    · cases hj
  rw [h1, List.filter_cons_of_neg (by rw [hd]; decide), List.filter_nil, List.append_nil]
theorem DelAt.at_ {l L : List Sp} {i j : Nat} (h : DelAt l i j L) {x : Sp} (hx : l[j]? = some x) : L[j]? = some x := by
  have e : (L.drop j)[0]? = (l.drop j)[0]? := by rw [h.tail]
  rw [List.getElem?_drop, List.getElem?_drop, Nat.add_zero] at e
  rw [e, hx]
theorem DelAt.skip {l L : List Sp} {i j : Nat} (h : DelAt l i j L) {x : Sp} (hx : l[j]? = some x) (hd : maySp x = false) : DelAt l i (j + 1) L := by
  have hj := (List.getElem?_eq_some_iff.1 hx).1
  refine ⟨by have := h.ij; omega, hj, h.len, ?_, ?_⟩
  · rw [h.head, List.take_succ_eq_append_getElem hj, List.filter_append, (List.getElem?_eq_some_iff.1 hx).2, List.filter_cons_of_neg (by rw [hd]; decide), List.filter_nil, List.append_nil]
  · rw [← List.drop_drop, ← List.drop_drop, h.tail]
theorem DelAt.keep {l L : List Sp} {i j : Nat} (h : DelAt l i j L) {x : Sp} (hx : l[j]? = some x) (hd : maySp x = true) : DelAt l (i + 1) (j + 1) (L.set i x) := by
  have hj := (List.getElem?_eq_some_iff.1 hx).1
  have hij := h.ij
  have hil : i < L.length := by rw [h.len]; omega
  refine ⟨by omega, hj, by rw [List.length_set, h.len], ?_, ?_⟩
  · rw [List.take_succ_eq_append_getElem hj, List.filter_append, (List.getElem?_eq_some_iff.1 hx).2, List.filter_cons_of_pos hd, List.filter_nil, ← h.head]
    rw [List.take_succ_eq_append_getElem (by rw [List.length_set]; exact hil), List.getElem_set_self]
    congr 1
    rw [List.take_set_of_le (Nat.le_refl _)]
  · rw [List.drop_set_of_lt (by omega), ← List.drop_drop, ← List.drop_drop, h.tail]
theorem DelAt.done {l L : List Sp} {i : Nat} (h : DelAt l i l.length L) : L.take i = l.filter maySp := by
  rw [h.head, List.take_of_length_le (Nat.le_refl _)]

set_option maxHeartbeats 16000000 in
set_option maxRecDepth 100000 in
theorem delSp_any {w : World} {base : Nat} {v : Value} (l : List Sp) (hl : l.length ≤ 4000000) (how : w.ownsRow base 73 6 v l.length (spCells l)) (hbw : base ≤ w.heap.size) (hf : ∀ W, Below base w W → ∀ s ∈ l, Calls Tryz.prog 42 #[.agg s.cells] W (Got (.bool (!maySp s)) W)) :
    Calls Tryz.prog 40 #[v, .func (.func 42) #[] #[]] w fun r w' =>
      (∃ A n c, r = .returned (.slice A n c) ∧ n = (l.filter maySp).length ∧ w'.ownsRow base 73 6 (.slice A n c) n (spCells (l.filter maySp))) ∧ Below base w w' := by
  have eg : ∀ args w, (callFunc 42 args).run Tryz.prog w = .ok (.enter 42 args) w := enters_of Tryz.func42 (by kernel_rfl) rfl
  obtain ⟨A, cap, rfl⟩ := own_shape how
  have hix := ixSp_any (cap := cap) hl _ (fun k => match l[k]? with | some s => !maySp s | none => false) (RowR.of_own how).cellsAt 42 #[] eg (fun k hk W hW => by
    have hxk : l[k]? = some l[k] := List.getElem?_eq_getElem hk
    unfold spCells
    simp only [hxk]
    rw [flat_drop _ 6 sp_len' l k _ hxk]
    exact hf W (hW.mono hbw) _ (List.getElem_mem hk))
  obtain ⟨N, hN⟩ : ∃ n, n = l.length := ⟨_, rfl⟩
  rw [← hN] at hix hl how ⊢
  have HIx := Lib.hid hix
  have HF := Lib.hid hf
  have HOw := Lib.hid how
  have HN := Lib.hid hN
  have HBW := Lib.hid hbw
  clear hix hf how hN hbw
  go_enter Tryz.func40, Tryz.ntmps40
  go_upto_region 2 with (go_at_call 54; (with_reducible refine HIx.out.mono ?_); rintro r w1 ⟨⟨z, rfl, hz⟩, d1⟩)
  have How1 := Lib.hid (own_below HOw.out d1)
  have Hb1 := Lib.hid (d1.mono HBW.out)
  have HBW1 := Lib.hid (Nat.le_trans HBW.out d1.size)
  clear HIx HOw d1
  rcases hz with ⟨k, hk, rfl, hp, hno⟩ | ⟨rfl, hno⟩
  · have hkl : k < l.length := by have := HN.out; omega
    have hxk : l[k]? = some l[k] := List.getElem?_eq_getElem hkl
    simp only [hxk] at hp
    have hD := DelAt.start hxk (by simpa using hp) (fun j y hj hy => by have := hno j hj; simp only [hy] at this; simpa using this)
    have HD := Lib.hid hD
    have q0 : ((k : Int) == -1) = false := by rw [beq_eq_false_iff_ne]; omega
    obtain ⟨g, rfl, hbg, hgl, _⟩ := own_block How1.out (by omega)
    clear hp hno hxk hD hgl
    go_wp2_with fail
    clear q0
    go_loopw [5, 6] (fun v5 v6 wr => ∃ (i j : Nat) (L : List Sp), j ≤ N ∧ i < j ∧ v5 = .int .i64 (i : Int) ∧ v6 = .int .i64 (j : Int) ∧ RowKit.Hid (DelAt l i j L) ∧ RowKit.Hid (wr.ownsRow base 73 6 (.slice (some ⟨g, 0, none⟩) N cap) N (spCells L)) ∧ RowKit.Hid (Below base w wr ∧ base ≤ wr.heap.size)) (fun _ v6 _ => N - (intOf v6).toNat)
    case atStart => exact ⟨k, k + 1, l, hk, Nat.lt_succ_self k, rfl, by go_num, HD, How1, Lib.hid ⟨Hb1.out, HBW1.out⟩⟩
    case round =>
      obtain ⟨i, j, L, hj, hij, rfl, rfl, hd, how, hb⟩ := hrel
      obtain ⟨wo, rfl⟩ : ∃ wo : World, wo = wr := ⟨_, rfl⟩
      by_cases hlt : j < N
      · have hjl : j < l.length := by have := HN.out; omega
        have hXj : l[j]? = some l[j] := List.getElem?_eq_getElem hjl
        have hXm := List.getElem_mem hjl
        generalize l[j] = X at hXj hXm
        have hcs := spCells_at (hd.out.at_ hXj)
        have hcall := fun W hW => HF.out W hW X hXm
        have hLl : L.length = N := by rw [hd.out.len, ← HN.out]
        obtain ⟨g', e', _, hgl, hyc⟩ := own_block how.out (by omega)
        injection e' with e'
        injection e' with e'
        subst e'
        have hse := sets_flat (fun s : Sp => s.cells.toList) 6 sp_len' (by decide) L (i := i) (by omega) X
        obtain ⟨B, hB⟩ : ∃ b, b = maySp X := ⟨_, rfl⟩
        rw [← hB] at hcall
        have hkeep := fun h => hd.out.keep hXj h
        have hskip := fun h => hd.out.skip hXj h
        rw [← hB] at hkeep hskip
        obtain ⟨XX, hXX⟩ : ∃ x, x = X := ⟨_, rfl⟩
        rw [← hXX] at hkeep hse
        have HKeep := Lib.hid hkeep
        have HSkip := Lib.hid hskip
        have HXX := Lib.hid hXX
        obtain ⟨⟨x1, x2, x3⟩, ⟨x4, x5, x6⟩⟩ := X
        obtain ⟨e0, e1, e2, e3, e4, e5⟩ := hcs
        have d0 := hyc _ _ e0
        have d1 := hyc _ _ e1
        have d2 := hyc _ _ e2
        have d3 := hyc _ _ e3
        have d4 := hyc _ _ e4
        have d5 := hyc _ _ e5
        simp only at d0 d1 d2 d3 d4 d5
        unfold Sp.cells at hcall
        simp only at hcall
        have HCall := Lib.hid hcall
        have HSe := Lib.hid hse
        have hLc := hLl
        clear e0 e1 e2 e3 e4 e5 hyc hse hkeep hskip hcall hB hXX hXj hXm hd
        go_upto_region 8 with fail
        have HX := Lib.hid (Blk.new wo 73 #[.bool x1, .int .u64 (x2 : Int), .int .u64 (x3 : Int), .bool x4, .int .u64 (x5 : Int), .int .u64 (x6 : Int)])
        have how5 := Lib.hid (how.out.alloc (.cells #[.bool x1, .int .u64 (x2 : Int), .int .u64 (x3 : Int), .bool x4, .int .u64 (x5 : Int), .int .u64 (x6 : Int)] 73))
        have hb5 := Lib.hid (hb.out.1.alloc hb.out.2 (.cells #[.bool x1, .int .u64 (x2 : Int), .int .u64 (x3 : Int), .bool x4, .int .u64 (x5 : Int), .int .u64 (x6 : Int)] 73))
        have hs5 := Lib.hid (Nat.le_trans hb.out.2 (boxed wo (.cells #[.bool x1, .int .u64 (x2 : Int), .int .u64 (x3 : Int), .bool x4, .int .u64 (x5 : Int), .int .u64 (x6 : Int)] 73)).size)
        clear d0 d1 d2 d3 d4 d5 how hb
        generalize wo.alloc (.cells #[.bool x1, .int .u64 (x2 : Int), .int .u64 (x3 : Int), .bool x4, .int .u64 (x5 : Int), .int .u64 (x6 : Int)] 73) = w5 at HX how5 hb5 hs5 ⊢
        generalize wo.heap.size = XB at HX hgl ⊢
        have a0 := HX.out.cell 0
        have a1 := HX.out.cell 1
        have a2 := HX.out.cell 2
        have a3 := HX.out.cell 3
        have a4 := HX.out.cell 4
        have a5 := HX.out.cell 5
        simp at a0 a1 a2 a3 a4 a5
        cases B with
        | false =>
          have HNx := Lib.hid (HSkip.out rfl)
          go_wp2_with (go_at_fn 42; (with_reducible refine (HCall.out _ hb5.out).mono ?_); rintro r w6 ⟨rfl, d6⟩)
          go_roundw
          case rel => exact ⟨i, j + 1, L, by omega, by omega, rfl, by go_num, HNx, Lib.hid (own_below how5.out d6), Lib.hid ⟨hb5.out.trans (d6.mono hs5.out), Nat.le_trans hs5.out d6.size⟩⟩
          case measure => simp [intOf]; omega
        | true =>
          have HNx := Lib.hid (HKeep.out rfl)
          go_upto_region 9 with (go_at_fn 42; (with_reducible refine (HCall.out _ hb5.out).mono ?_); rintro r w6 ⟨rfl, d6⟩)
          have how6 := Lib.hid (own_below how5.out d6)
          have hb6 := Lib.hid (hb5.out.trans (d6.mono hs5.out))
          have hs6 := Lib.hid (Nat.le_trans hs5.out d6.size)
          replace a0 := cellB a0 d6
          replace a1 := cellB a1 d6
          replace a2 := cellB a2 d6
          replace a3 := cellB a3 d6
          replace a4 := cellB a4 d6
          replace a5 := cellB a5 d6
          clear d6 how5 hb5 hs5 HX
          have hiN : i < N := by omega
          have z := fun t (ht : t < 6) => World.ownsRow.cellAt how6.out (i * 6 + t) (by omega)
          have hcL := spCells_at (List.getElem?_eq_getElem (show i < L.length by omega))
          have z0 := (z 0 (by decide)).trans hcL.1
          have z1 := (z 1 (by decide)).trans hcL.2.1
          have z2 := (z 2 (by decide)).trans hcL.2.2.1
          have z3 := (z 3 (by decide)).trans hcL.2.2.2.1
          have z4 := (z 4 (by decide)).trans hcL.2.2.2.2.1
          have z5 := (z 5 (by decide)).trans hcL.2.2.2.2.2
          have f := fun t => World.ownsRow.frozenAt how6.out (i * 6 + t)
          have f0 := f 0
          have f1 := f 1
          have f2 := f 2
          have f3 := f 3
          have f4 := f 4
          have f5 := f 5
          simp only [Nat.add_zero] at z0 f0
          generalize L[i] = Z at z0 z1 z2 z3 z4 z5
          have how8 := Lib.hid (own_sets [.bool x1, .int .u64 (x2 : Int), .int .u64 (x3 : Int), .bool x4, .int .u64 (x5 : Int), .int .u64 (x6 : Int)] w6 (i * 6) _ how6.out)
          have hb8 := Lib.hid (below_sets hbg [.bool x1, .int .u64 (x2 : Int), .int .u64 (x3 : Int), .bool x4, .int .u64 (x5 : Int), .int .u64 (x6 : Int)] w6 (i * 6) hb6.out)
          have hs8 : RowKit.Hid (base ≤ (w6.setCells g (i * 6) [.bool x1, .int .u64 (x2 : Int), .int .u64 (x3 : Int), .bool x4, .int .u64 (x5 : Int), .int .u64 (x6 : Int)]).heap.size) := Lib.hid (Nat.le_trans hs6.out (below_sets hbg _ _ _ (Below.refl base w6)).size)
          clear z f hcL
          go_wp2_with fail
          go_roundw
          case rel =>
            refine ⟨i + 1, j + 1, L.set i XX, by omega, by omega, by go_num, by go_num, HNx, Lib.hid ?_, Lib.hid ⟨hb8.out, hs8.out⟩⟩
            have h8 := how8.out
            have h9 := HSe.out
            rw [HXX.out] at h9 ⊢
            rw [show (spCells L) = L.flatMap (fun s : Sp => s.cells.toList) from rfl, show ([.bool x1, .int .u64 (x2 : Int), .int .u64 (x3 : Int), .bool x4, .int .u64 (x5 : Int), .int .u64 (x6 : Int)] : List Value) = (fun s : Sp => s.cells.toList) ((⟨⟨x1, x2, x3⟩, ⟨x4, x5, x6⟩⟩) : Sp) from rfl, h9] at h8
            exact h8
          case measure => simp [intOf]; omega
      · obtain rfl : j = N := by omega
        have hdone := hd.out
        rw [HN.out] at hdone
        have hD := hdone.done
        have hLl : L.length = j := by rw [hd.out.len, ← HN.out]
        obtain ⟨m, hm⟩ : ∃ m, j - i = m + 1 := ⟨j - i - 1, by omega⟩
        have hclr := fun ty c => clear_sp ty how.out (i := i) (m := m) (c := c) (by omega)
        have hcap := own_cap how.out
        have how8 := own_head (own_sets (zeroSp (m + 1)) _ (i * 6) _ how.out) (show i ≤ j by omega)
        rw [setsL_take, ← sp_take, hD] at how8
        have hb8 := below_sets hbg (zeroSp (m + 1)) _ (i * 6) hb.out.1
        have hil : (l.filter maySp).length = i := by rw [← hD, List.length_take, hLl]; omega
        have How8 := Lib.hid how8
        have Hb8 := Lib.hid hb8
        have HIL := Lib.hid hil
        clear hdone hD hLl how8 hb8 hil hd how hb
        go_wp2_with fail
        go_ret
        exact ⟨⟨some ⟨g, 0, none⟩, i, cap, rfl, HIL.out.symm, How8.out⟩, Hb8.out⟩
  · have hall : l.filter maySp = l := by
      rw [List.filter_eq_self]
      intro y hy
      obtain ⟨j, hj⟩ := List.getElem?_of_mem hy
      have := hno j (by have := (List.getElem?_eq_some_iff.1 hj).1; have := HN.out; omega)
      simp only [hj] at this
      simpa using this
    have HALL := Lib.hid hall
    clear hno hall
    go_wp2_with fail
    go_ret
    exact ⟨⟨A, N, cap, rfl, by rw [HALL.out]; exact HN.out, by rw [HALL.out]; exact How1.out⟩, Hb1.out⟩
end Go.Proofs.YthglckoikjfjkaaGreatDoor

/- Rules: the normal form of ranges, of ports (Norm, ports): the walks. -/
namespace Go.Proofs.YthglckoikjfjkaaGreatDoor
open Go.RowKit
attribute [local go_sem ↓] Go.wp_at_zero Go.wp_at_succ

def NormR (l : List Sp) (w : World) (r : Ending) (w' : World) : Prop := (∃ (S : List Sp) (v' : Value), r = .returned v' ∧ S.Perm (l.filter maySp) ∧ S.Pairwise (fun x y => lessA y.1 x.1 = false) ∧ World.ownsRow w' w.heap.size 73 6 v' (mergeL touchS joinS S).length (spCells (mergeL touchS joinS S))) ∧ Below w.heap.size w w'
set_option maxHeartbeats 4000000 in
set_option maxRecDepth 100000 in
theorem norm_any {w : World} (env : Env w) {v : Value} (l : List Sp) (hr : RowR w v l.length 6 (spCells l)) (hl : l.length ≤ 2000000) (ok : ∀ s ∈ l, s.Ok) :
    Calls Tryz.prog 18 #[v] w (NormR l w) := by
  have HCl := Lib.hid (clone_sp hr hl (sp_one l))
  have HDe := Lib.hid fun u v' (hu : Below w.heap.size w u) (ho : World.ownsRow u w.heap.size 73 6 v' l.length (spCells l)) =>
    delSp_any l (by omega) ho hu.size (fun W hW s hs => norm1_any (env.below (hu.trans hW)) s (ok s hs))
  have HMe := Lib.hid fun u v' (ho : RowR u v' (l.filter maySp).length 6 (spCells (l.filter maySp))) =>
    mergedSp_any (l.filter maySp) ho (Nat.le_trans (List.length_filter_le _ _) hl) (fun s hs => ok s (List.mem_filter.1 hs).1)
  obtain ⟨A, cap, rfl⟩ := hr.shape
  clear hr env ok
  go_enter Tryz.func18, Tryz.ntmps18
  go_upto_region 2 with (first
    | (go_at_call 41; (with_reducible refine HCl.out.mono ?_); rintro r w2 ⟨⟨A2, c2, rfl, ho⟩, d2⟩)
    | (go_at_call 40; (with_reducible refine (HDe.out _ _ d2 ho).mono ?_); rintro r w3 ⟨⟨A3, n3, c3, rfl, rfl, ho3⟩, d3⟩; have hr3 := Lib.hid (RowR.of_own ho3)))
  go_wp2_with ((go_at_call 43; (with_reducible refine (HMe.out _ _ hr3.out).mono ?_); rintro r w4 ⟨⟨S, v', rfl, hp, hs, hr4⟩, d4⟩; (obtain ⟨A4, c4, rfl⟩ := own_shape hr4); have HR4 := Lib.hid hr4; have HP4 := Lib.hid hp; have HS4 := Lib.hid hs; have HB4 := Lib.hid (after (d2.trans d3) d4); have HZ4 := Lib.hid (d2.trans d3).size; clear hr4 hp hs))
  go_ret
  exact ⟨⟨S, _, rfl, HP4.out, HS4.out, HR4.out.mono HZ4.out⟩, HB4.out⟩
def PortsR (l : List (Nat × Nat)) (w : World) (r : Ending) (w' : World) : Prop := (∃ (S : List (Nat × Nat)) (v' : Value), r = .returned v' ∧ S.Perm l ∧ S.Pairwise (fun x y => x.1 ≤ y.1) ∧ World.ownsRow w' w.heap.size 68 2 v' (mergeL touchO joinO S).length (portCells (mergeL touchO joinO S))) ∧ Below w.heap.size w w'
set_option maxHeartbeats 4000000 in
set_option maxRecDepth 100000 in
theorem rports_any {w : World} {v : Value} (l : List (Nat × Nat)) (hr : RowR w v l.length 2 (portCells l)) (hl : l.length ≤ 2000000) (ok : ∀ s ∈ l, poOk s) :
    Calls Tryz.prog 19 #[v] w (PortsR l w) := by
  have HMe := Lib.hid (mergedPo_any l hr hl ok)
  obtain ⟨A, cap, rfl⟩ := hr.shape
  clear hr ok
  go_enter Tryz.func19, Tryz.ntmps19
  go_wp2_with (go_at_call 48; (with_reducible refine HMe.out.mono ?_); rintro r w4 ⟨⟨S, v', rfl, hp, hs, hr4⟩, d4⟩; (obtain ⟨A4, c4, rfl⟩ := own_shape hr4); have HR4 := Lib.hid hr4; have HP4 := Lib.hid hp; have HS4 := Lib.hid hs; have HB4 := Lib.hid d4; clear hr4 hp hs d4)
  go_ret
  exact ⟨⟨S, _, rfl, HP4.out, HS4.out, HR4.out⟩, HB4.out⟩
end Go.Proofs.YthglckoikjfjkaaGreatDoor
