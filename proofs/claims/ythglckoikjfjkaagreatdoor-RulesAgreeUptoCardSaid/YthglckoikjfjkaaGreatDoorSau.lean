/- Joined out of: SoD. -/
import Derived.Test.YthglckoikjfjkaaGreatDoorSat
import Derived.Deep.Onto
set_option linter.unusedVariables false
set_option linter.unusedSimpArgs false

/- Ranges and ports merged (merged): the walks. (printed by merged.py) -/
namespace Go.Proofs.YthglckoikjfjkaaGreatDoor
open Go.RowKit
attribute [local go_sem ↓] Go.wp_at_zero Go.wp_at_succ

set_option maxHeartbeats 8000000 in
set_option maxRecDepth 100000 in
theorem clone_sp {w : World} {v : Value} {n : Nat} {xs : List Value} (h : RowR w v n 6 xs) (hn : n ≤ 2000000) (h1 : ∀ u ∈ xs, u.oneCell' = true) : Calls Tryz.prog 41 #[v] w (ClonR 73 6 n xs w) := by
  obtain ⟨A, cap, rfl⟩ := h.shape
  cases A with
  | none =>
    obtain ⟨rfl, rfl⟩ := row_none h
    clear h
    have e1 : ∀ W, (binOp .eql 70 (.slice none 0 cap) (.slice none 0 0)).run Tryz.prog W = .ok (.bool true) W := fun _ => by kernel_rfl
    go_enter Tryz.func41, Tryz.ntmps41
    go_wp2_with fail
    go_ret
    exact ⟨⟨none, 0, rfl, World.ownsRow_nil _ _ _ _⟩, Below.refl _ _⟩
  | some a =>
    obtain ⟨hl, hnews⟩ := row_news h
    obtain ⟨i0, hi, hz0, hz1, hz2⟩ := info_parts info_sp
    have HB := Lib.hid (boxed w (.cells #[] 73))
    have HO := Lib.hid (World.ownsRow_lit (e := 73) (size := 6) (base := w.heap.size) w #[] 0 (Nat.le_refl _) (by unfold maxLen; omega) rfl)
    have HNw := Lib.hid fun j u hu => below_cell'' (hnews j u hu) HB.out
    have HL := Lib.hid hl
    have H1 := Lib.hid h1
    clear h hl hnews h1
    have e1 : ∀ W, (binOp .eql 70 (.slice (some a) n cap) (.slice none 0 0)).run Tryz.prog W = .ok (.bool false) W := fun _ => by kernel_rfl
    go_enter Tryz.func41, Tryz.ntmps41
    go_wp2_with (at_builtin; refine wpList_append_own _ rfl _ _ 70 rfl w.heap.size 73 i0 (.agg #[.bool false, .int .u64 0, .int .u64 0, .bool false, .int .u64 0, .int .u64 0]) 6 48 Tryz.underlying70 hi hz0 hz1 hz2 rfl (by decide) _ 0 [] rfl HO.out a n cap xs rfl HL.out HNw.out H1.out (by unfold maxLen; omega) (by omega) (by simp) ?_; intro v' w' ho hg hnil; obtain ⟨A5, c5, rfl⟩ := own_shape ho; rw [Nat.zero_add] at ho; have HOw := Lib.hid ho; have HBz := Lib.hid (HB.out.grown hg HB.out.size (fun q hq => (HO.out.lt q hq).1)); clear ho hg hnil)
    go_ret
    exact ⟨⟨A5, c5, rfl, by have := HOw.out; rw [List.nil_append] at this; exact this⟩, HBz.out⟩
theorem sortSp_own {w : World} {base : Nat} {v : Value} {l : List Sp} (hl : l.length ≤ 4000000) (h : w.ownsRow base 73 6 v l.length (spCells l)) :
    Calls Tryz.prog 82 #[v, .func (.func 44) #[] #[]] w fun r w' =>
      r = .returned (.tuple #[]) ∧ ∃ S : List Sp, S.Perm l ∧ S.Pairwise (fun x y => lessA y.1 x.1 = false) ∧ w'.ownsRow base 73 6 v l.length (spCells S) ∧ Below base w w' := by
  rcases h.2 with ⟨rfl, h0⟩ | ⟨g, cap, cur, rfl, _⟩
  · obtain rfl := List.eq_nil_of_length_eq_zero h0
    refine (AnyF.slices_SortFunc_none Tryz.sortSp none 0 _ w).mono ?_
    rintro r w' ⟨rfl, rfl⟩
    exact ⟨rfl, [], List.Perm.refl _, List.Pairwise.nil, h, Below.refl _ _⟩
  · exact sortSp_any hl h
set_option maxHeartbeats 16000000 in
set_option maxRecDepth 100000 in
theorem mergedSp_any {w : World} {v : Value} (l : List Sp) (hr : RowR w v l.length 6 (spCells l)) (hl : l.length ≤ 2000000) (ok : ∀ s ∈ l, Sp.Ok s) :
    Calls Tryz.prog 43 #[v, .func (.func 44) #[] #[], .func (.func 45) #[] #[], .func (.func 47) #[] #[]] w fun r w' =>
      (∃ (S : List Sp) (v' : Value), r = .returned v' ∧ S.Perm l ∧ S.Pairwise (fun x y => lessA y.1 x.1 = false) ∧ World.ownsRow w' w.heap.size 73 6 v' (mergeL touchS joinS S).length (spCells (mergeL touchS joinS S))) ∧ Below w.heap.size w w' := by
  have hcl := clone_sp hr hl (sp_one l)
  have eg3 : ∀ args w, (callFunc 45 args).run Tryz.prog w = .ok (.enter 45 args) w := enters_of Tryz.func45 (by kernel_rfl) rfl
  have eg4 : ∀ args w, (callFunc 47 args).run Tryz.prog w = .ok (.enter 47 args) w := enters_of Tryz.func47 (by kernel_rfl) rfl
  obtain ⟨i0, hi, hz0, hz1, hz2⟩ := info_parts info_sp
  obtain ⟨A0, c0, rfl⟩ := hr.shape
  have HCl := Lib.hid hcl
  have hsort := fun u base v' (h : World.ownsRow u base 73 6 v' l.length (spCells l)) => sortSp_own (by omega) h
  have HSort := Lib.hid hsort
  have HOk := Lib.hid ok
  obtain ⟨N, hN⟩ : ∃ n, n = l.length := ⟨_, rfl⟩
  rw [← hN] at HCl HSort hl ⊢
  have HN := Lib.hid hN
  clear hcl hr hsort ok hN
  go_enter Tryz.func43, Tryz.ntmps43
  go_upto_region 3 with (first
    | (go_at_call 41; (with_reducible refine HCl.out.mono ?_); rintro r w2 ⟨⟨A2, c2, rfl, ho⟩, d2⟩)
    | (go_at_call 82; (with_reducible refine (HSort.out _ _ _ ho).mono ?_); rintro r w3 ⟨rfl, S, hp, hs, ho3, d3⟩))
  have Hrow := Lib.hid (RowR.of_own ho3)
  have HW := Lib.hid (d2.trans d3)
  have HP := Lib.hid hp
  have HS := Lib.hid hs
  have HNS : RowKit.Hid (N = S.length) := Lib.hid (by rw [HN.out]; exact hp.length_eq.symm)
  have HOS : RowKit.Hid (∀ s ∈ S, Sp.Ok s) := Lib.hid fun s h => HOk.out s (HP.out.mem_iff.1 h)
  clear ho ho3 d2 d3 hp hs HCl HSort
  go_wp2_with fail
  go_loopw [9, 20] (fun v9 v20 wr => ∃ (k : Nat) (A : Option Addr) (c : Nat), k ≤ N ∧ v20 = .int .i64 (k : Int) ∧ v9 = .slice A (mergeO touchS joinS S k).length c ∧ RowKit.Hid (wr.ownsRow w3.heap.size 73 6 (.slice A (mergeO touchS joinS S k).length c) (mergeO touchS joinS S k).length (spCells (mergeO touchS joinS S k))) ∧ RowKit.Hid (Below w3.heap.size w3 wr)) (fun _ v20 _ => N - (intOf v20).toNat)
  case atStart => exact ⟨0, none, 0, Nat.zero_le _, rfl, rfl, Lib.hid (World.ownsRow_nil _ _ _ _), Lib.hid (Below.refl _ _)⟩
  case round =>
    obtain ⟨k, A, c, hk, rfl, rfl, how, hb⟩ := hrel
    obtain ⟨wo, rfl⟩ : ∃ wo : World, wo = wr := ⟨_, rfl⟩
    by_cases hlt : k < N
    · have hkl : k < S.length := by have := HNS.out; omega
      have hXk : S[k]? = some S[k] := List.getElem?_eq_getElem hkl
      have hoX := HOS.out _ (List.getElem_mem hkl)
      have hsucc := mergeO_succ touchS joinS hXk
      have hLo := mergeO_ok touchS joinS Sp.Ok join_ok HOS.out k
      have hLl := mergeO_len touchS joinS S k
      obtain ⟨A2', c2', e2, hlen2, hcc⟩ := Hrow.out
      injection e2 with e21 _ e22
      subst e21 e22
      obtain ⟨q, o, rfl, hc⟩ := hcc (by omega)
      have hcs := spCells_at hXk
      generalize S[k] = X at hsucc hoX hcs
      generalize mergeO touchS joinS S k = L at hsucc hLo hLl how ⊢
      have hoXX := hoX
      obtain ⟨⟨x1, x2, x3⟩, ⟨x4, x5, x6⟩⟩ := X
      obtain ⟨e0, e1, e2, e3, e4, e5⟩ := hcs
      have d0 := cellB (hc _ _ e0) hb.out
      have d1 := cellB (hc _ _ e1) hb.out
      have d2 := cellB (hc _ _ e2) hb.out
      have d3 := cellB (hc _ _ e3) hb.out
      have d4 := cellB (hc _ _ e4) hb.out
      have d5 := cellB (hc _ _ e5) hb.out
      rw [← Nat.add_assoc] at d1 d2 d3 d4 d5
      simp only at d0 d1 d2 d3 d4 d5
      clear e0 e1 e2 e3 e4 e5 hc hcc hlen2 hXk
      go_upto_region 7 with fail
      have HX := Lib.hid (Blk.new wo 73 #[.bool x1, .int .u64 (x2 : Int), .int .u64 (x3 : Int), .bool x4, .int .u64 (x5 : Int), .int .u64 (x6 : Int)])
      have how5 := Lib.hid (how.out.alloc (.cells #[.bool x1, .int .u64 (x2 : Int), .int .u64 (x3 : Int), .bool x4, .int .u64 (x5 : Int), .int .u64 (x6 : Int)] 73))
      have hb5 := Lib.hid (hb.out.alloc hb.out.size (.cells #[.bool x1, .int .u64 (x2 : Int), .int .u64 (x3 : Int), .bool x4, .int .u64 (x5 : Int), .int .u64 (x6 : Int)] 73))
      clear d0 d1 d2 d3 d4 d5 how hb
      generalize wo.alloc (.cells #[.bool x1, .int .u64 (x2 : Int), .int .u64 (x3 : Int), .bool x4, .int .u64 (x5 : Int), .int .u64 (x6 : Int)] 73) = w5 at HX how5 hb5 ⊢
      generalize wo.heap.size = XB at HX ⊢
      have a0 := HX.out.cell 0
      have a1 := HX.out.cell 1
      have a2 := HX.out.cell 2
      have a3 := HX.out.cell 3
      have a4 := HX.out.cell 4
      have a5 := HX.out.cell 5
      simp at a0 a1 a2 a3 a4 a5
      rcases List.eq_nil_or_concat L with hL | ⟨L', Y, hL⟩
      · subst hL
        have hs2 : mergeO touchS joinS S (k + 1) = [⟨⟨x1, x2, x3⟩, ⟨x4, x5, x6⟩⟩] := hsucc
        have HSucc := Lib.hid hs2
        clear hsucc hs2
        simp only [List.length_nil] at how5 ⊢
        go_upto_region 8 with fail
        refine wp_region_held_drew (S := (fun _ => True)) (by kernel_rfl) (trivial) (fun hHeld => ?_)
        refine' wpAnyH_take (i := 0) (v := _) rfl (by kernel_rfl) (by kernel_rfl) (by kernel_rfl) (fun _ _ _ h => h) (Or.inl ⟨by rfl, ?ly1⟩) (by assumption) ?lrest1
        case ly1 =>
          intro w hSw
          try dsimp only at hSw
          go_simp
          try with_reducible rfl
        try simp only [Act.put, List.setIfInBounds_toArray, List.set_cons_zero, List.set_cons_succ, List.getElem_toArray, List.getElem_cons_zero, List.getElem_cons_succ]
        refine' wpAnyH_take (i := 1) (v := _) rfl (by kernel_rfl) (by kernel_rfl) (by kernel_rfl) (fun _ _ _ h => h) (Or.inl ⟨by rfl, ?ly2⟩) (by assumption) ?lrest2
        case ly2 =>
          intro w hSw
          try dsimp only at hSw
          go_simp
          try with_reducible rfl
        try simp only [Act.put, List.setIfInBounds_toArray, List.set_cons_zero, List.set_cons_succ, List.getElem_toArray, List.getElem_cons_zero, List.getElem_cons_succ]
        refine' wpAnyH_take (i := 2) (v := _) rfl (by kernel_rfl) (by kernel_rfl) (by kernel_rfl) (fun _ _ _ h => h) (Or.inl ⟨by rfl, ?ly3⟩) (by assumption) ?lrest3
        case ly3 =>
          intro w hSw
          try dsimp only at hSw
          go_simp
          try with_reducible rfl
        try simp only [Act.put, List.setIfInBounds_toArray, List.set_cons_zero, List.set_cons_succ, List.getElem_toArray, List.getElem_cons_zero, List.getElem_cons_succ]
        refine' wpAnyH_take (i := 3) (v := undef) rfl (by kernel_rfl) (by kernel_rfl) (by kernel_rfl) (fun _ _ _ h => h) (Or.inr ⟨by rfl, rfl⟩) (by assumption) ?lrest4
        try simp only [Act.put, List.setIfInBounds_toArray, List.set_cons_zero, List.set_cons_succ, List.getElem_toArray, List.getElem_cons_zero, List.getElem_cons_succ]
        refine' wpAnyH_take (i := 4) (v := undef) rfl (by kernel_rfl) (by kernel_rfl) (by kernel_rfl) (fun _ _ _ h => h) (Or.inr ⟨by rfl, rfl⟩) (by assumption) ?lrest5
        try simp only [Act.put, List.setIfInBounds_toArray, List.set_cons_zero, List.set_cons_succ, List.getElem_toArray, List.getElem_cons_zero, List.getElem_cons_succ]
        refine' wpAnyH_take (i := 5) (v := undef) rfl (by kernel_rfl) (by kernel_rfl) (by kernel_rfl) (fun _ _ _ h => h) (Or.inr ⟨by rfl, rfl⟩) (by assumption) ?lrest6
        try simp only [Act.put, List.setIfInBounds_toArray, List.set_cons_zero, List.set_cons_succ, List.getElem_toArray, List.getElem_cons_zero, List.getElem_cons_succ]
        refine' wpAnyH_take (i := 6) (v := undef) rfl (by kernel_rfl) (by kernel_rfl) (by kernel_rfl) (fun _ _ _ h => h) (Or.inr ⟨by rfl, rfl⟩) (by assumption) ?lrest7
        try simp only [Act.put, List.setIfInBounds_toArray, List.set_cons_zero, List.set_cons_succ, List.getElem_toArray, List.getElem_cons_zero, List.getElem_cons_succ]
        refine' wpAnyH_take (i := 7) (v := undef) rfl (by kernel_rfl) (by kernel_rfl) (by kernel_rfl) (fun _ _ _ h => h) (Or.inr ⟨by rfl, rfl⟩) (by assumption) ?lrest8
        try simp only [Act.put, List.setIfInBounds_toArray, List.set_cons_zero, List.set_cons_succ, List.getElem_toArray, List.getElem_cons_zero, List.getElem_cons_succ]
        refine' wpAnyH_take (i := 8) (v := undef) rfl (by kernel_rfl) (by kernel_rfl) (by kernel_rfl) (fun _ _ _ h => h) (Or.inr ⟨by rfl, rfl⟩) (by assumption) ?lrest9
        try simp only [Act.put, List.setIfInBounds_toArray, List.set_cons_zero, List.set_cons_succ, List.getElem_toArray, List.getElem_cons_zero, List.getElem_cons_succ]
        refine' wpAnyH_take (i := 9) (v := undef) rfl (by kernel_rfl) (by kernel_rfl) (by kernel_rfl) (fun _ _ _ h => h) (Or.inr ⟨by rfl, rfl⟩) (by assumption) ?lrest10
        try simp only [Act.put, List.setIfInBounds_toArray, List.set_cons_zero, List.set_cons_succ, List.getElem_toArray, List.getElem_cons_zero, List.getElem_cons_succ]
        refine' wpAnyH_take (i := 10) (v := undef) rfl (by kernel_rfl) (by kernel_rfl) (by kernel_rfl) (fun _ _ _ h => h) (Or.inr ⟨by rfl, rfl⟩) (by assumption) ?lrest11
        try simp only [Act.put, List.setIfInBounds_toArray, List.set_cons_zero, List.set_cons_succ, List.getElem_toArray, List.getElem_cons_zero, List.getElem_cons_succ]
        refine' wpAnyH_take (i := 11) (v := _) rfl (by kernel_rfl) (by kernel_rfl) (by kernel_rfl) (fun _ _ _ h => h) (Or.inl ⟨by rfl, ?ly12⟩) (by assumption) ?lrest12
        case ly12 =>
          intro w hSw
          try dsimp only at hSw
          go_simp
          try with_reducible rfl
        try simp only [Act.put, List.setIfInBounds_toArray, List.set_cons_zero, List.set_cons_succ, List.getElem_toArray, List.getElem_cons_zero, List.getElem_cons_succ]
        refine wpAnyH_done (by kernel_rfl) ?_ _
        have how6 : RowKit.Hid (w5.drew.ownsRow w3.heap.size 73 6 (.slice A 0 c) 0 (spCells [])) := how5
        have hb6 := Lib.hid (Below.drew_ hb5.out)
        replace a0 : w5.drew.cell? ⟨XB, 0, none⟩ = _ := a0
        replace a1 : w5.drew.cell? ⟨XB, 1, none⟩ = _ := a1
        replace a2 : w5.drew.cell? ⟨XB, 2, none⟩ = _ := a2
        replace a3 : w5.drew.cell? ⟨XB, 3, none⟩ = _ := a3
        replace a4 : w5.drew.cell? ⟨XB, 4, none⟩ = _ := a4
        replace a5 : w5.drew.cell? ⟨XB, 5, none⟩ = _ := a5
        generalize w5.drew = wd at how6 hb6 a0 a1 a2 a3 a4 a5 ⊢
        go_wp2_with (at_builtin; refine wpList_append_own _ rfl _ _ 70 rfl w3.heap.size 73 i0 (.agg #[.bool false, .int .u64 0, .int .u64 0, .bool false, .int .u64 0, .int .u64 0]) 6 48 Tryz.underlying70 hi hz0 hz1 hz2 rfl (by decide) _ 0 _ rfl (how6.out.alloc _) ⟨(wd).heap.size, 0, none⟩ 1 1 [.bool x1, .int .u64 (x2 : Int), .int .u64 (x3 : Int), .bool x4, .int .u64 (x5 : Int), .int .u64 (x6 : Int)] rfl rfl (cells_new (wd) [.bool x1, .int .u64 (x2 : Int), .int .u64 (x3 : Int), .bool x4, .int .u64 (x5 : Int), .int .u64 (x6 : Int)] 73) (by intro u hu; simp at hu; rcases hu with rfl | rfl | rfl | rfl | rfl | rfl <;> rfl) (by unfold maxLen; omega) (by omega) (by have := hb6.out.size; simp; omega) ?_; intro v' w7 hown' hgrow3 hnil3; have Ho7 := Lib.hid hown'; have hb7 := Lib.hid ((hb6.out.alloc (hb6.out.size) _).grown hgrow3 (by have := hb6.out.size; simp; omega) (fun q hq => (how6.out.lt q hq).1)); clear hown' hgrow3 hnil3)
        obtain ⟨A7, c7, rfl⟩ := own_shape Ho7.out
        go_roundw
        case rel => exact ⟨k + 1, A7, c7, by omega, by go_num, by rw [HSucc.out]; rfl, Lib.hid (by rw [HSucc.out]; exact Ho7.out), hb7⟩
        case measure => simp [intOf]; omega
      · rw [List.concat_eq_append] at hL
        subst hL
        have hoY := hLo Y (List.mem_append_right _ (List.mem_singleton_self Y))
        have hMl : (L' ++ [Y]).length = L'.length + 1 := by simp
        have hYk : (L' ++ [Y])[L'.length]? = some Y := by simp
        have HT := Lib.hid fun u => norm3_any Y ⟨⟨x1, x2, x3⟩, ⟨x4, x5, x6⟩⟩ hoY hoXX u
        have HJ := Lib.hid fun u => norm4_any Y ⟨⟨x1, x2, x3⟩, ⟨x4, x5, x6⟩⟩ u
        have hse := fun z => sets_flat (fun s : Sp => s.cells.toList) 6 sp_len' (by decide) (L' ++ [Y]) (i := L'.length) (by simp) z
        have hset : ∀ z, (L' ++ [Y]).set L'.length z = L' ++ [z] := fun z => by simp
        simp only [hset] at hse
        obtain ⟨g, rfl, hbg, hgl, hyc⟩ := own_block how5.out (by omega)
        have hcs := spCells_at hYk
        have hmj := fun h => step_join touchS joinS (L := L') (y := Y) (x := ⟨⟨x1, x2, x3⟩, ⟨x4, x5, x6⟩⟩) h
        have hmm := fun h => step_more touchS joinS (L := L') (y := Y) (x := ⟨⟨x1, x2, x3⟩, ⟨x4, x5, x6⟩⟩) h
        obtain ⟨M, hM⟩ : ∃ m, m = (L' ++ [Y]).length := ⟨_, rfl⟩
        have hM1 : L'.length = M - 1 := by omega
        have hM0 : 0 < M := by omega
        rw [hM1] at hcs hse
        rw [← hM] at how5 hLl ⊢
        have HM := Lib.hid hM
        have HHT := Lib.hid hmj
        have HHM := Lib.hid hmm
        have HSe := Lib.hid hse
        have HSucc := Lib.hid hsucc
        obtain ⟨J, hJ⟩ : ∃ z, z = joinS Y ⟨⟨x1, x2, x3⟩, ⟨x4, x5, x6⟩⟩ := ⟨_, rfl⟩
        have HJJ := Lib.hid hJ
        rw [← hJ] at HJ
        obtain ⟨TT, hTT⟩ : ∃ z, z = touchS Y ⟨⟨x1, x2, x3⟩, ⟨x4, x5, x6⟩⟩ := ⟨_, rfl⟩
        have HTT := Lib.hid hTT
        rw [← hTT] at HT
        have j1 : IntKind.i64.wrap ((M : Int) - 1) = ((M - 1 : Nat) : Int) := by rw [IntKind.wrap_i64]; omega
        have j2 : M - 1 < M := by omega
        clear hset hMl hYk hM hM1 hmj hmm hse hsucc hJ hTT hLo hoY hoX hoXX
        obtain ⟨e0, e1, e2, e3, e4, e5⟩ := hcs
        have b0 := hyc _ _ e0
        have b1 := hyc _ _ e1
        have b2 := hyc _ _ e2
        have b3 := hyc _ _ e3
        have b4 := hyc _ _ e4
        have b5 := hyc _ _ e5
        clear hyc e0 e1 e2 e3 e4 e5
        obtain ⟨YY, hYY⟩ : ∃ z, z = Y := ⟨_, rfl⟩
        have HYY := Lib.hid hYY
        obtain ⟨⟨y1, y2, y3⟩, ⟨y4, y5, y6⟩⟩ := Y
        obtain ⟨JJ, hJ2⟩ : ∃ z, z = J := ⟨_, rfl⟩
        have HJ2 := Lib.hid hJ2
        obtain ⟨⟨j1, j2, j3⟩, ⟨j4, j5, j6⟩⟩ := J
        unfold Sp.cells at HT HJ
        simp only at HT HJ b0 b1 b2 b3 b4 b5
        clear hYY hJ2
        go_upto_region 8 with fail
        cases TT with
        | false =>
          refine wp_region_held_drew (S := (fun w' => w'.cell? ⟨g, (M - 1) * 6, none⟩ = some (.bool y1) ∧ w'.cell? ⟨g, (M - 1) * 6 + 1, none⟩ = some (.int .u64 (y2 : Int)) ∧ w'.cell? ⟨g, (M - 1) * 6 + 2, none⟩ = some (.int .u64 (y3 : Int)) ∧ w'.cell? ⟨g, (M - 1) * 6 + 3, none⟩ = some (.bool y4) ∧ w'.cell? ⟨g, (M - 1) * 6 + 4, none⟩ = some (.int .u64 (y5 : Int)) ∧ w'.cell? ⟨g, (M - 1) * 6 + 5, none⟩ = some (.int .u64 (y6 : Int)) ∧ w'.cell? ⟨XB, 0, none⟩ = some (.bool x1) ∧ w'.cell? ⟨XB, 1, none⟩ = some (.int .u64 (x2 : Int)) ∧ w'.cell? ⟨XB, 2, none⟩ = some (.int .u64 (x3 : Int)) ∧ w'.cell? ⟨XB, 3, none⟩ = some (.bool x4) ∧ w'.cell? ⟨XB, 4, none⟩ = some (.int .u64 (x5 : Int)) ∧ w'.cell? ⟨XB, 5, none⟩ = some (.int .u64 (x6 : Int)))) (by kernel_rfl) (⟨b0, b1, b2, b3, b4, b5, a0, a1, a2, a3, a4, a5⟩) (fun hHeld => ?_)
          refine' wpAnyH_take (i := 0) (v := _) rfl (by kernel_rfl) (by kernel_rfl) (by kernel_rfl) (fun _ _ _ h => h) (Or.inl ⟨by rfl, ?ly13⟩) (by assumption) ?lrest13
          case ly13 =>
            intro w hSw
            try dsimp only at hSw
            go_simp
            try with_reducible rfl
          try simp only [Act.put, List.setIfInBounds_toArray, List.set_cons_zero, List.set_cons_succ, List.getElem_toArray, List.getElem_cons_zero, List.getElem_cons_succ]
          refine' wpAnyH_take (i := 1) (v := _) rfl (by kernel_rfl) (by kernel_rfl) (by kernel_rfl) (fun _ _ _ h => h) (Or.inl ⟨by rfl, ?ly14⟩) (by assumption) ?lrest14
          case ly14 =>
            intro w hSw
            try dsimp only at hSw
            go_simp
            try with_reducible rfl
          try simp only [Act.put, List.setIfInBounds_toArray, List.set_cons_zero, List.set_cons_succ, List.getElem_toArray, List.getElem_cons_zero, List.getElem_cons_succ]
          refine' wpAnyH_take (i := 2) (v := _) rfl (by kernel_rfl) (by kernel_rfl) (by kernel_rfl) (fun _ _ _ h => h) (Or.inl ⟨by rfl, ?ly15⟩) (by assumption) ?lrest15
          case ly15 =>
            intro w hSw
            try dsimp only at hSw
            go_simp
            try with_reducible rfl
          try simp only [Act.put, List.setIfInBounds_toArray, List.set_cons_zero, List.set_cons_succ, List.getElem_toArray, List.getElem_cons_zero, List.getElem_cons_succ]
          refine' wpAnyH_take (i := 3) (v := _) rfl (by kernel_rfl) (by kernel_rfl) (by kernel_rfl) (fun _ _ _ h => h) (Or.inl ⟨by rfl, ?ly16⟩) (by assumption) ?lrest16
          case ly16 =>
            intro w hSw
            try dsimp only at hSw
            go_simp
            try with_reducible rfl
          try simp only [Act.put, List.setIfInBounds_toArray, List.set_cons_zero, List.set_cons_succ, List.getElem_toArray, List.getElem_cons_zero, List.getElem_cons_succ]
          refine' wpAnyH_take (i := 4) (v := _) rfl (by kernel_rfl) (by kernel_rfl) (by kernel_rfl) (fun _ _ _ h => h) (Or.inl ⟨by rfl, ?ly17⟩) (by assumption) ?lrest17
          case ly17 =>
            intro w hSw
            try dsimp only at hSw
            go_simp
            try with_reducible rfl
          try simp only [Act.put, List.setIfInBounds_toArray, List.set_cons_zero, List.set_cons_succ, List.getElem_toArray, List.getElem_cons_zero, List.getElem_cons_succ]
          refine' wpAnyH_take (i := 5) (v := _) rfl (by kernel_rfl) (by kernel_rfl) (by kernel_rfl) (fun _ _ _ h => h) (Or.inl ⟨by rfl, ?ly18⟩) (by assumption) ?lrest18
          case ly18 =>
            intro w hSw
            try dsimp only at hSw
            go_simp
            try with_reducible rfl
          try simp only [Act.put, List.setIfInBounds_toArray, List.set_cons_zero, List.set_cons_succ, List.getElem_toArray, List.getElem_cons_zero, List.getElem_cons_succ]
          refine' wpAnyH_take (i := 6) (v := _) rfl (by kernel_rfl) (by kernel_rfl) (by kernel_rfl) (fun _ _ _ h => h) (Or.inl ⟨by rfl, ?ly19⟩) (by assumption) ?lrest19
          case ly19 =>
            intro w hSw
            try dsimp only at hSw
            go_simp
            try with_reducible rfl
          try simp only [Act.put, List.setIfInBounds_toArray, List.set_cons_zero, List.set_cons_succ, List.getElem_toArray, List.getElem_cons_zero, List.getElem_cons_succ]
          refine' wpAnyH_take (i := 7) (v := _) rfl (by kernel_rfl) (by kernel_rfl) (by kernel_rfl) (fun _ _ _ h => h) (Or.inl ⟨by rfl, ?ly20⟩) (by assumption) ?lrest20
          case ly20 =>
            intro w hSw
            try dsimp only at hSw
            go_simp
            try with_reducible rfl
          try simp only [Act.put, List.setIfInBounds_toArray, List.set_cons_zero, List.set_cons_succ, List.getElem_toArray, List.getElem_cons_zero, List.getElem_cons_succ]
          refine' wpAnyH_take (i := 8) (v := _) rfl (by kernel_rfl) (by kernel_rfl) (by kernel_rfl) (fun _ _ _ h => h) (Or.inl ⟨by rfl, ?ly21⟩) (by assumption) ?lrest21
          case ly21 =>
            intro w hSw
            try dsimp only at hSw
            go_simp
            try with_reducible rfl
          try simp only [Act.put, List.setIfInBounds_toArray, List.set_cons_zero, List.set_cons_succ, List.getElem_toArray, List.getElem_cons_zero, List.getElem_cons_succ]
          refine' wpAnyH_take (i := 9) (v := _) rfl (by kernel_rfl) (by kernel_rfl) (by kernel_rfl) (fun _ _ _ h => h) (Or.inl ⟨by rfl, ?ly22⟩) (by assumption) ?lrest22
          case ly22 =>
            intro w hSw
            try dsimp only at hSw
            go_simp
            try with_reducible rfl
          try simp only [Act.put, List.setIfInBounds_toArray, List.set_cons_zero, List.set_cons_succ, List.getElem_toArray, List.getElem_cons_zero, List.getElem_cons_succ]
          refine wpAnyH_ready (rs := [10]) (by kernel_rfl) (by simp) ?_
          refine AllReadyH.cons rfl (fun K hK => ?_) AllReadyH.nil
          go_simp
          refine (HT.out _).mono ?_
          rintro r wb ⟨rfl, db⟩
          have eb := Below.of_drew db
          clear db
          refine hK.out _ _ (⟨cellB b0 eb, cellB b1 eb, cellB b2 eb, cellB b3 eb, cellB b4 eb, cellB b5 eb, cellB a0 eb, cellB a1 eb, cellB a2 eb, cellB a3 eb, cellB a4 eb, cellB a5 eb⟩) (fun hHeld => ?_)
          clear hK K
          try simp only [Act.put, List.setIfInBounds_toArray, List.set_cons_zero, List.set_cons_succ, List.getElem_toArray, List.getElem_cons_zero, List.getElem_cons_succ]
          refine' wpAnyH_take (i := 11) (v := _) rfl (by kernel_rfl) (by kernel_rfl) (by kernel_rfl) (fun _ _ _ h => h) (Or.inl ⟨by rfl, ?ly24⟩) (by assumption) ?lrest24
          case ly24 =>
            intro w hSw
            try dsimp only at hSw
            go_simp
            try with_reducible rfl
          try simp only [Act.put, List.setIfInBounds_toArray, List.set_cons_zero, List.set_cons_succ, List.getElem_toArray, List.getElem_cons_zero, List.getElem_cons_succ]
          refine wpAnyH_done (by kernel_rfl) ?_ _
          have how6 := Lib.hid (own_below how5.out eb)
          have hb6 := Lib.hid (hb5.out.trans (eb.mono hb5.out.size))
          replace a0 := cellB a0 eb
          replace a1 := cellB a1 eb
          replace a2 := cellB a2 eb
          replace a3 := cellB a3 eb
          replace a4 := cellB a4 eb
          replace a5 := cellB a5 eb
          clear b0 b1 b2 b3 b4 b5 eb
          go_wp2_with (at_builtin; refine wpList_append_own _ rfl _ _ 70 rfl w3.heap.size 73 i0 (.agg #[.bool false, .int .u64 0, .int .u64 0, .bool false, .int .u64 0, .int .u64 0]) 6 48 Tryz.underlying70 hi hz0 hz1 hz2 rfl (by decide) _ M _ rfl (how6.out.alloc _) ⟨(wb).heap.size, 0, none⟩ 1 1 [.bool x1, .int .u64 (x2 : Int), .int .u64 (x3 : Int), .bool x4, .int .u64 (x5 : Int), .int .u64 (x6 : Int)] rfl rfl (cells_new (wb) [.bool x1, .int .u64 (x2 : Int), .int .u64 (x3 : Int), .bool x4, .int .u64 (x5 : Int), .int .u64 (x6 : Int)] 73) (by intro u hu; simp at hu; rcases hu with rfl | rfl | rfl | rfl | rfl | rfl <;> rfl) (by unfold maxLen; omega) (by omega) (by have := hb6.out.size; simp; omega) ?_; intro v' w7 hown' hgrow3 hnil3; have Ho7 := Lib.hid hown'; have hb7 := Lib.hid ((hb6.out.alloc (hb6.out.size) _).grown hgrow3 (by have := hb6.out.size; simp; omega) (fun q hq => (how6.out.lt q hq).1)); clear hown' hgrow3 hnil3)
          obtain ⟨A7, c7, rfl⟩ := own_shape Ho7.out
          have hL2 := HSucc.out.trans (HHM.out HTT.out.symm)
          have hl2 : (mergeO touchS joinS S (k + 1)).length = M + 1 := by rw [hL2, List.length_append, ← HM.out]; rfl
          go_roundw
          case rel => exact ⟨k + 1, A7, c7, by omega, by go_num, by rw [hl2], Lib.hid (by rw [hl2, hL2, spCells_snoc]; exact Ho7.out), hb7⟩
          case measure => simp [intOf]; omega
        | true =>
          refine wp_region_held_drew (S := (fun w' => w'.cell? ⟨g, (M - 1) * 6, none⟩ = some (.bool y1) ∧ w'.cell? ⟨g, (M - 1) * 6 + 1, none⟩ = some (.int .u64 (y2 : Int)) ∧ w'.cell? ⟨g, (M - 1) * 6 + 2, none⟩ = some (.int .u64 (y3 : Int)) ∧ w'.cell? ⟨g, (M - 1) * 6 + 3, none⟩ = some (.bool y4) ∧ w'.cell? ⟨g, (M - 1) * 6 + 4, none⟩ = some (.int .u64 (y5 : Int)) ∧ w'.cell? ⟨g, (M - 1) * 6 + 5, none⟩ = some (.int .u64 (y6 : Int)) ∧ w'.cell? ⟨XB, 0, none⟩ = some (.bool x1) ∧ w'.cell? ⟨XB, 1, none⟩ = some (.int .u64 (x2 : Int)) ∧ w'.cell? ⟨XB, 2, none⟩ = some (.int .u64 (x3 : Int)) ∧ w'.cell? ⟨XB, 3, none⟩ = some (.bool x4) ∧ w'.cell? ⟨XB, 4, none⟩ = some (.int .u64 (x5 : Int)) ∧ w'.cell? ⟨XB, 5, none⟩ = some (.int .u64 (x6 : Int)))) (by kernel_rfl) (⟨b0, b1, b2, b3, b4, b5, a0, a1, a2, a3, a4, a5⟩) (fun hHeld => ?_)
          refine' wpAnyH_take (i := 0) (v := _) rfl (by kernel_rfl) (by kernel_rfl) (by kernel_rfl) (fun _ _ _ h => h) (Or.inl ⟨by rfl, ?ly25⟩) (by assumption) ?lrest25
          case ly25 =>
            intro w hSw
            try dsimp only at hSw
            go_simp
            try with_reducible rfl
          try simp only [Act.put, List.setIfInBounds_toArray, List.set_cons_zero, List.set_cons_succ, List.getElem_toArray, List.getElem_cons_zero, List.getElem_cons_succ]
          refine' wpAnyH_take (i := 1) (v := _) rfl (by kernel_rfl) (by kernel_rfl) (by kernel_rfl) (fun _ _ _ h => h) (Or.inl ⟨by rfl, ?ly26⟩) (by assumption) ?lrest26
          case ly26 =>
            intro w hSw
            try dsimp only at hSw
            go_simp
            try with_reducible rfl
          try simp only [Act.put, List.setIfInBounds_toArray, List.set_cons_zero, List.set_cons_succ, List.getElem_toArray, List.getElem_cons_zero, List.getElem_cons_succ]
          refine' wpAnyH_take (i := 2) (v := _) rfl (by kernel_rfl) (by kernel_rfl) (by kernel_rfl) (fun _ _ _ h => h) (Or.inl ⟨by rfl, ?ly27⟩) (by assumption) ?lrest27
          case ly27 =>
            intro w hSw
            try dsimp only at hSw
            go_simp
            try with_reducible rfl
          try simp only [Act.put, List.setIfInBounds_toArray, List.set_cons_zero, List.set_cons_succ, List.getElem_toArray, List.getElem_cons_zero, List.getElem_cons_succ]
          refine' wpAnyH_take (i := 3) (v := _) rfl (by kernel_rfl) (by kernel_rfl) (by kernel_rfl) (fun _ _ _ h => h) (Or.inl ⟨by rfl, ?ly28⟩) (by assumption) ?lrest28
          case ly28 =>
            intro w hSw
            try dsimp only at hSw
            go_simp
            try with_reducible rfl
          try simp only [Act.put, List.setIfInBounds_toArray, List.set_cons_zero, List.set_cons_succ, List.getElem_toArray, List.getElem_cons_zero, List.getElem_cons_succ]
          refine' wpAnyH_take (i := 4) (v := _) rfl (by kernel_rfl) (by kernel_rfl) (by kernel_rfl) (fun _ _ _ h => h) (Or.inl ⟨by rfl, ?ly29⟩) (by assumption) ?lrest29
          case ly29 =>
            intro w hSw
            try dsimp only at hSw
            go_simp
            try with_reducible rfl
          try simp only [Act.put, List.setIfInBounds_toArray, List.set_cons_zero, List.set_cons_succ, List.getElem_toArray, List.getElem_cons_zero, List.getElem_cons_succ]
          refine' wpAnyH_take (i := 5) (v := _) rfl (by kernel_rfl) (by kernel_rfl) (by kernel_rfl) (fun _ _ _ h => h) (Or.inl ⟨by rfl, ?ly30⟩) (by assumption) ?lrest30
          case ly30 =>
            intro w hSw
            try dsimp only at hSw
            go_simp
            try with_reducible rfl
          try simp only [Act.put, List.setIfInBounds_toArray, List.set_cons_zero, List.set_cons_succ, List.getElem_toArray, List.getElem_cons_zero, List.getElem_cons_succ]
          refine' wpAnyH_take (i := 6) (v := _) rfl (by kernel_rfl) (by kernel_rfl) (by kernel_rfl) (fun _ _ _ h => h) (Or.inl ⟨by rfl, ?ly31⟩) (by assumption) ?lrest31
          case ly31 =>
            intro w hSw
            try dsimp only at hSw
            go_simp
            try with_reducible rfl
          try simp only [Act.put, List.setIfInBounds_toArray, List.set_cons_zero, List.set_cons_succ, List.getElem_toArray, List.getElem_cons_zero, List.getElem_cons_succ]
          refine' wpAnyH_take (i := 7) (v := _) rfl (by kernel_rfl) (by kernel_rfl) (by kernel_rfl) (fun _ _ _ h => h) (Or.inl ⟨by rfl, ?ly32⟩) (by assumption) ?lrest32
          case ly32 =>
            intro w hSw
            try dsimp only at hSw
            go_simp
            try with_reducible rfl
          try simp only [Act.put, List.setIfInBounds_toArray, List.set_cons_zero, List.set_cons_succ, List.getElem_toArray, List.getElem_cons_zero, List.getElem_cons_succ]
          refine' wpAnyH_take (i := 8) (v := _) rfl (by kernel_rfl) (by kernel_rfl) (by kernel_rfl) (fun _ _ _ h => h) (Or.inl ⟨by rfl, ?ly33⟩) (by assumption) ?lrest33
          case ly33 =>
            intro w hSw
            try dsimp only at hSw
            go_simp
            try with_reducible rfl
          try simp only [Act.put, List.setIfInBounds_toArray, List.set_cons_zero, List.set_cons_succ, List.getElem_toArray, List.getElem_cons_zero, List.getElem_cons_succ]
          refine' wpAnyH_take (i := 9) (v := _) rfl (by kernel_rfl) (by kernel_rfl) (by kernel_rfl) (fun _ _ _ h => h) (Or.inl ⟨by rfl, ?ly34⟩) (by assumption) ?lrest34
          case ly34 =>
            intro w hSw
            try dsimp only at hSw
            go_simp
            try with_reducible rfl
          try simp only [Act.put, List.setIfInBounds_toArray, List.set_cons_zero, List.set_cons_succ, List.getElem_toArray, List.getElem_cons_zero, List.getElem_cons_succ]
          refine wpAnyH_ready (rs := [10]) (by kernel_rfl) (by simp) ?_
          refine AllReadyH.cons rfl (fun K hK => ?_) AllReadyH.nil
          go_simp
          refine (HT.out _).mono ?_
          rintro r wb ⟨rfl, db⟩
          have eb := Below.of_drew db
          clear db
          refine hK.out _ _ (⟨cellB b0 eb, cellB b1 eb, cellB b2 eb, cellB b3 eb, cellB b4 eb, cellB b5 eb, cellB a0 eb, cellB a1 eb, cellB a2 eb, cellB a3 eb, cellB a4 eb, cellB a5 eb⟩) (fun hHeld => ?_)
          clear hK K
          try simp only [Act.put, List.setIfInBounds_toArray, List.set_cons_zero, List.set_cons_succ, List.getElem_toArray, List.getElem_cons_zero, List.getElem_cons_succ]
          refine' wpAnyH_take (i := 11) (v := _) rfl (by kernel_rfl) (by kernel_rfl) (by kernel_rfl) (fun _ _ _ h => h) (Or.inl ⟨by rfl, ?ly36⟩) (by assumption) ?lrest36
          case ly36 =>
            intro w hSw
            try dsimp only at hSw
            go_simp
            try with_reducible rfl
          try simp only [Act.put, List.setIfInBounds_toArray, List.set_cons_zero, List.set_cons_succ, List.getElem_toArray, List.getElem_cons_zero, List.getElem_cons_succ]
          refine wpAnyH_done (by kernel_rfl) ?_ _
          have how6 := Lib.hid (own_below how5.out eb)
          have hb6 := Lib.hid (hb5.out.trans (eb.mono hb5.out.size))
          have hgw := eb.size
          replace b0 := cellB b0 eb
          replace b1 := cellB b1 eb
          replace b2 := cellB b2 eb
          replace b3 := cellB b3 eb
          replace b4 := cellB b4 eb
          replace b5 := cellB b5 eb
          replace a0 := cellB a0 eb
          replace a1 := cellB a1 eb
          replace a2 := cellB a2 eb
          replace a3 := cellB a3 eb
          replace a4 := cellB a4 eb
          replace a5 := cellB a5 eb
          clear eb
          go_upto_region 9 with fail
          refine wp_region_E 12 (fun w' => w'.cell? ⟨g, (M - 1) * 6, none⟩ = some (.bool y1) ∧ w'.cell? ⟨g, (M - 1) * 6 + 1, none⟩ = some (.int .u64 (y2 : Int)) ∧ w'.cell? ⟨g, (M - 1) * 6 + 2, none⟩ = some (.int .u64 (y3 : Int)) ∧ w'.cell? ⟨g, (M - 1) * 6 + 3, none⟩ = some (.bool y4) ∧ w'.cell? ⟨g, (M - 1) * 6 + 4, none⟩ = some (.int .u64 (y5 : Int)) ∧ w'.cell? ⟨g, (M - 1) * 6 + 5, none⟩ = some (.int .u64 (y6 : Int)) ∧ w'.cell? ⟨XB, 0, none⟩ = some (.bool x1) ∧ w'.cell? ⟨XB, 1, none⟩ = some (.int .u64 (x2 : Int)) ∧ w'.cell? ⟨XB, 2, none⟩ = some (.int .u64 (x3 : Int)) ∧ w'.cell? ⟨XB, 3, none⟩ = some (.bool x4) ∧ w'.cell? ⟨XB, 4, none⟩ = some (.int .u64 (x5 : Int)) ∧ w'.cell? ⟨XB, 5, none⟩ = some (.int .u64 (x6 : Int))) (by kernel_rfl) (⟨b0, b1, b2, b3, b4, b5, a0, a1, a2, a3, a4, a5⟩) (fun hHeld => ?_)
          refine' wpAnyE_take (i := 0) (v := _) rfl (by kernel_rfl) (by kernel_rfl) (by kernel_rfl) (fun _ _ _ h => h) (Or.inl ⟨by rfl, ?ly37⟩) (by assumption) (by kernel_rfl) ?lrest37
          case ly37 =>
            intro w hSw
            try dsimp only at hSw
            go_simp
            try with_reducible rfl
          try simp only [Act.put, List.setIfInBounds_toArray, List.set_cons_zero, List.set_cons_succ, List.getElem_toArray, List.getElem_cons_zero, List.getElem_cons_succ]
          refine' wpAnyE_take (i := 1) (v := _) rfl (by kernel_rfl) (by kernel_rfl) (by kernel_rfl) (fun _ _ _ h => h) (Or.inl ⟨by rfl, ?ly38⟩) (by assumption) (by kernel_rfl) ?lrest38
          case ly38 =>
            intro w hSw
            try dsimp only at hSw
            go_simp
            try with_reducible rfl
          try simp only [Act.put, List.setIfInBounds_toArray, List.set_cons_zero, List.set_cons_succ, List.getElem_toArray, List.getElem_cons_zero, List.getElem_cons_succ]
          refine' wpAnyE_take (i := 2) (v := _) rfl (by kernel_rfl) (by kernel_rfl) (by kernel_rfl) (fun _ _ _ h => h) (Or.inl ⟨by rfl, ?ly39⟩) (by assumption) (by kernel_rfl) ?lrest39
          case ly39 =>
            intro w hSw
            try dsimp only at hSw
            go_simp
            try with_reducible rfl
          try simp only [Act.put, List.setIfInBounds_toArray, List.set_cons_zero, List.set_cons_succ, List.getElem_toArray, List.getElem_cons_zero, List.getElem_cons_succ]
          refine' wpAnyE_take (i := 3) (v := _) rfl (by kernel_rfl) (by kernel_rfl) (by kernel_rfl) (fun _ _ _ h => h) (Or.inl ⟨by rfl, ?ly40⟩) (by assumption) (by kernel_rfl) ?lrest40
          case ly40 =>
            intro w hSw
            try dsimp only at hSw
            go_simp
            try with_reducible rfl
          try simp only [Act.put, List.setIfInBounds_toArray, List.set_cons_zero, List.set_cons_succ, List.getElem_toArray, List.getElem_cons_zero, List.getElem_cons_succ]
          refine' wpAnyE_take (i := 4) (v := _) rfl (by kernel_rfl) (by kernel_rfl) (by kernel_rfl) (fun _ _ _ h => h) (Or.inl ⟨by rfl, ?ly41⟩) (by assumption) (by kernel_rfl) ?lrest41
          case ly41 =>
            intro w hSw
            try dsimp only at hSw
            go_simp
            try with_reducible rfl
          try simp only [Act.put, List.setIfInBounds_toArray, List.set_cons_zero, List.set_cons_succ, List.getElem_toArray, List.getElem_cons_zero, List.getElem_cons_succ]
          refine' wpAnyE_take (i := 5) (v := _) rfl (by kernel_rfl) (by kernel_rfl) (by kernel_rfl) (fun _ _ _ h => h) (Or.inl ⟨by rfl, ?ly42⟩) (by assumption) (by kernel_rfl) ?lrest42
          case ly42 =>
            intro w hSw
            try dsimp only at hSw
            go_simp
            try with_reducible rfl
          try simp only [Act.put, List.setIfInBounds_toArray, List.set_cons_zero, List.set_cons_succ, List.getElem_toArray, List.getElem_cons_zero, List.getElem_cons_succ]
          refine' wpAnyE_take (i := 6) (v := _) rfl (by kernel_rfl) (by kernel_rfl) (by kernel_rfl) (fun _ _ _ h => h) (Or.inl ⟨by rfl, ?ly43⟩) (by assumption) (by kernel_rfl) ?lrest43
          case ly43 =>
            intro w hSw
            try dsimp only at hSw
            go_simp
            try with_reducible rfl
          try simp only [Act.put, List.setIfInBounds_toArray, List.set_cons_zero, List.set_cons_succ, List.getElem_toArray, List.getElem_cons_zero, List.getElem_cons_succ]
          refine' wpAnyE_take (i := 7) (v := _) rfl (by kernel_rfl) (by kernel_rfl) (by kernel_rfl) (fun _ _ _ h => h) (Or.inl ⟨by rfl, ?ly44⟩) (by assumption) (by kernel_rfl) ?lrest44
          case ly44 =>
            intro w hSw
            try dsimp only at hSw
            go_simp
            try with_reducible rfl
          try simp only [Act.put, List.setIfInBounds_toArray, List.set_cons_zero, List.set_cons_succ, List.getElem_toArray, List.getElem_cons_zero, List.getElem_cons_succ]
          refine' wpAnyE_take (i := 8) (v := _) rfl (by kernel_rfl) (by kernel_rfl) (by kernel_rfl) (fun _ _ _ h => h) (Or.inl ⟨by rfl, ?ly45⟩) (by assumption) (by kernel_rfl) ?lrest45
          case ly45 =>
            intro w hSw
            try dsimp only at hSw
            go_simp
            try with_reducible rfl
          try simp only [Act.put, List.setIfInBounds_toArray, List.set_cons_zero, List.set_cons_succ, List.getElem_toArray, List.getElem_cons_zero, List.getElem_cons_succ]
          refine' wpAnyE_take (i := 9) (v := _) rfl (by kernel_rfl) (by kernel_rfl) (by kernel_rfl) (fun _ _ _ h => h) (Or.inl ⟨by rfl, ?ly46⟩) (by assumption) (by kernel_rfl) ?lrest46
          case ly46 =>
            intro w hSw
            try dsimp only at hSw
            go_simp
            try with_reducible rfl
          try simp only [Act.put, List.setIfInBounds_toArray, List.set_cons_zero, List.set_cons_succ, List.getElem_toArray, List.getElem_cons_zero, List.getElem_cons_succ]
          refine wpAnyE_ready (rs := [10]) (by kernel_rfl) (by simp) ?_
          refine AllReadyE.cons rfl (fun K hK => ?_) AllReadyE.nil
          go_simp
          refine (HJ.out _).mono ?_
          rintro r wc ⟨rfl, dc⟩
          have ec := Below.of_drew dc
          clear dc
          have how7 := Lib.hid (own_below how6.out ec)
          have hb7 := Lib.hid (hb6.out.trans (ec.mono hb6.out.size))
          have f0 := World.ownsRow.frozenAt how7.out ((M - 1) * 6)
          have f1 := World.ownsRow.frozenAt how7.out ((M - 1) * 6 + 1)
          have f2 := World.ownsRow.frozenAt how7.out ((M - 1) * 6 + 2)
          have f3 := World.ownsRow.frozenAt how7.out ((M - 1) * 6 + 3)
          have f4 := World.ownsRow.frozenAt how7.out ((M - 1) * 6 + 4)
          have f5 := World.ownsRow.frozenAt how7.out ((M - 1) * 6 + 5)
          refine hK.out _ _ (fun _ => ⟨cellB b0 ec, cellB b1 ec, cellB b2 ec, cellB b3 ec, cellB b4 ec, cellB b5 ec, cellB a0 ec, cellB a1 ec, cellB a2 ec, cellB a3 ec, cellB a4 ec, cellB a5 ec⟩) (fun hHeld => ?_)
          have hHeld := hHeld (by decide)
          clear hK K
          try simp only [Act.put, List.setIfInBounds_toArray, List.set_cons_zero, List.set_cons_succ, List.getElem_toArray, List.getElem_cons_zero, List.getElem_cons_succ]
          refine' wpAnyE_take (i := 11) (v := _) rfl (by kernel_rfl) (by kernel_rfl) (by kernel_rfl) (fun _ _ _ h => h) (Or.inl ⟨by rfl, ?ly48⟩) (by assumption) (by kernel_rfl) ?lrest48
          case ly48 =>
            intro w hSw
            try dsimp only at hSw
            go_simp
            try with_reducible rfl
          try simp only [Act.put, List.setIfInBounds_toArray, List.set_cons_zero, List.set_cons_succ, List.getElem_toArray, List.getElem_cons_zero, List.getElem_cons_succ]
          refine wpAnyE_ready (rs := [12]) (by kernel_rfl) (by simp) ?_
          refine AllReadyE.cons rfl (fun K hK => ?_) AllReadyE.nil
          go_simp
          refine hK.out _ _ (fun h => absurd rfl h) (fun _ => ?_)
          clear hK K hHeld
          try simp only [Act.put, List.setIfInBounds_toArray, List.set_cons_zero, List.set_cons_succ, List.getElem_toArray, List.getElem_cons_zero, List.getElem_cons_succ]
          refine wpAnyE_done (by kernel_rfl) ?_
          have how8 := Lib.hid (own_sets [.bool j1, .int .u64 (j2 : Int), .int .u64 (j3 : Int), .bool j4, .int .u64 (j5 : Int), .int .u64 (j6 : Int)] wc ((M - 1) * 6) _ how7.out)
          have hb8 := Lib.hid (below_sets hbg [.bool j1, .int .u64 (j2 : Int), .int .u64 (j3 : Int), .bool j4, .int .u64 (j5 : Int), .int .u64 (j6 : Int)] wc ((M - 1) * 6) hb7.out)
          have hL2 := HSucc.out.trans (HHT.out HTT.out.symm)
          have hl2 : (mergeO touchS joinS S (k + 1)).length = M := by
            rw [hL2, List.length_append]
            have := HM.out
            rw [List.length_append] at this
            exact this.symm
          have hse2 := HSe.out ((⟨⟨j1, j2, j3⟩, ⟨j4, j5, j6⟩⟩) : Sp)
          have HL2 := Lib.hid hL2
          have Hl2 := Lib.hid hl2
          have HSe2 := Lib.hid hse2
          clear hL2 hl2 hse2 f0 f1 f2 f3 f4 f5
          go_wp2_with fail
          go_roundw
          case rel =>
            refine ⟨k + 1, some ⟨g, 0, none⟩, c, by omega, by go_num, by rw [Hl2.out], Lib.hid ?_, hb8⟩
            rw [Hl2.out, HL2.out, ← HJJ.out, ← HJ2.out]
            have h8 := how8.out
            rw [show (spCells (L' ++ [((⟨⟨y1, y2, y3⟩, ⟨y4, y5, y6⟩⟩) : Sp)])) = (L' ++ [((⟨⟨y1, y2, y3⟩, ⟨y4, y5, y6⟩⟩) : Sp)]).flatMap (fun s : Sp => s.cells.toList) from rfl] at h8
            have h9 := HSe2.out
            first | (rw [show ([.bool j1, .int .u64 (j2 : Int), .int .u64 (j3 : Int), .bool j4, .int .u64 (j5 : Int), .int .u64 (j6 : Int)] : List Value) = (fun s : Sp => s.cells.toList) ((⟨⟨j1, j2, j3⟩, ⟨j4, j5, j6⟩⟩) : Sp) from rfl, h9] at h8; rw [HJ2.out]; exact h8) | (trace_state; exact h8)
          case measure => simp [intOf]; omega
    · obtain rfl : k = N := by omega
      have hE : mergeO touchS joinS S k = mergeL touchS joinS S := by rw [HNS.out, mergeO_end]
      rw [hE] at how ⊢
      have HRr := Lib.hid (World.ownsRow.mono how.out HW.out.size)
      have HBB := Lib.hid (HW.out.trans (hb.out.mono HW.out.size))
      clear hE how hb
      go_wp2_with fail
      go_ret
      exact ⟨⟨S, _, rfl, HP.out, HS.out, HRr.out⟩, HBB.out⟩
end Go.Proofs.YthglckoikjfjkaaGreatDoor
