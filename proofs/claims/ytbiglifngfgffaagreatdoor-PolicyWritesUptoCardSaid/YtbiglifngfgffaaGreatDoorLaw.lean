/- Joined out of: RwL. -/
import Derived.Test.YtbiglifngfgffaaGreatDoorLaa
import Derived.Test.YtbiglifngfgffaaGreatDoorLav
set_option linter.unusedVariables false
set_option linter.unusedSimpArgs false

/- The program's copies of rows (slices.Clone, Copy$1): the walks. -/
namespace Go.Proofs.YtbiglifngfgffaaGreatDoor
open Go.RowKit
attribute [local go_sem ↓] Go.wp_at_zero Go.wp_at_succ

def ClonR (e : TypeId) (size n : Nat) (xs : List Value) (w : World) (r : Ending) (w' : World) : Prop := (∃ A c, r = .returned (.slice A n c) ∧ w'.ownsRow w.heap.size e size (.slice A n c) n xs) ∧ Below w.heap.size w w'
theorem row_news {w : World} {a : Addr} {n cap size : Nat} {xs : List Value} (h : RowR w (.slice (some a) n cap) n size xs) : xs.length = n * size ∧ ∀ j u, xs[j]? = some u → w.cell? (a.add j) = some u := by
  obtain ⟨A', cap', e, hl, hc⟩ := h
  injection e with e1 _ e2
  subst e1
  refine ⟨hl, fun j u hu => ?_⟩
  rcases Nat.eq_zero_or_pos n with h | h
  · subst h
    have hx : xs = [] := List.eq_nil_of_length_eq_zero (by simpa using hl)
    rw [hx] at hu
    cases hu
  · obtain ⟨g, o, e1, hcc⟩ := hc h
    injection e1 with e1
    subst e1
    rw [addr_add]
    exact hcc j u hu
theorem row_none {w : World} {n cap size : Nat} {xs : List Value} (h : RowR w (.slice none n cap) n size xs) : n = 0 ∧ xs = [] := by
  obtain ⟨A', cap', e, hl, hc⟩ := h
  injection e with e1 _ e2
  subst e1
  rcases Nat.eq_zero_or_pos n with h | h
  · subst h
    exact ⟨rfl, List.eq_nil_of_length_eq_zero (by simpa using hl)⟩
  · obtain ⟨g, o, e1, _⟩ := hc h
    cases e1
theorem below_cell'' {w u : World} {a : Addr} {v : Value} (h : w.cell? a = some v) (hb : Below w.heap.size w u) : u.cell? a = some v := (hb.cell (World.block_lt_of_cell? w _ h)).trans h
set_option maxHeartbeats 8000000 in
set_option maxRecDepth 100000 in
theorem clone_str {w : World} {v : Value} {n : Nat} {xs : List Value} (h : RowR w v n 1 xs) (hn : n ≤ 2000000) (h1 : ∀ u ∈ xs, u.oneCell' = true) : Calls Tryz.prog 37 #[v] w (ClonR 9 1 n xs w) := by
  obtain ⟨A, cap, rfl⟩ := h.shape
  cases A with
  | none =>
    obtain ⟨rfl, rfl⟩ := row_none h
    clear h
    have e1 : ∀ W, (binOp .eql 44 (.slice none 0 cap) (.slice none 0 0)).run Tryz.prog W = .ok (.bool true) W := fun _ => by kernel_rfl
    go_enter Tryz.func37, Tryz.ntmps37
    go_wp2_with fail
    go_ret
    exact ⟨⟨none, 0, rfl, World.ownsRow_nil _ _ _ _⟩, Below.refl _ _⟩
  | some a =>
    obtain ⟨hl, hnews⟩ := row_news h
    obtain ⟨i0, hi, hz0, hz1, hz2⟩ := info_parts info_str
    have HB := Lib.hid (boxed w (.cells #[] 9))
    have HO := Lib.hid (World.ownsRow_lit (e := 9) (size := 1) (base := w.heap.size) w #[] 0 (Nat.le_refl _) (by unfold maxLen; omega) rfl)
    have HNw := Lib.hid fun j u hu => below_cell'' (hnews j u hu) HB.out
    have HL := Lib.hid hl
    have H1 := Lib.hid h1
    clear h hl hnews h1
    have e1 : ∀ W, (binOp .eql 44 (.slice (some a) n cap) (.slice none 0 0)).run Tryz.prog W = .ok (.bool false) W := fun _ => by kernel_rfl
    go_enter Tryz.func37, Tryz.ntmps37
    go_wp2_with (at_builtin; refine wpList_append_own _ rfl _ _ 44 rfl w.heap.size 9 i0 (.string ByteArray.empty) 1 16 Tryz.underlying44 hi hz0 hz1 hz2 rfl (by decide) _ 0 [] rfl HO.out a n cap xs rfl HL.out HNw.out H1.out (by unfold maxLen; omega) (by omega) (by simp) ?_; intro v' w' ho hg hnil; obtain ⟨A5, c5, rfl⟩ := own_shape ho; rw [Nat.zero_add] at ho; have HOw := Lib.hid ho; have HBz := Lib.hid (HB.out.grown hg HB.out.size (fun q hq => (HO.out.lt q hq).1)); clear ho hg hnil)
    go_ret
    exact ⟨⟨A5, c5, rfl, by have := HOw.out; rw [List.nil_append] at this; exact this⟩, HBz.out⟩
set_option maxHeartbeats 8000000 in
set_option maxRecDepth 100000 in
theorem clone_hs {w : World} {v : Value} {n : Nat} {xs : List Value} (h : RowR w v n 5 xs) (hn : n ≤ 2000000) (h1 : ∀ u ∈ xs, u.oneCell' = true) : Calls Tryz.prog 38 #[v] w (ClonR 53 5 n xs w) := by
  obtain ⟨A, cap, rfl⟩ := h.shape
  cases A with
  | none =>
    obtain ⟨rfl, rfl⟩ := row_none h
    clear h
    have e1 : ∀ W, (binOp .eql 23 (.slice none 0 cap) (.slice none 0 0)).run Tryz.prog W = .ok (.bool true) W := fun _ => by kernel_rfl
    go_enter Tryz.func38, Tryz.ntmps38
    go_wp2_with fail
    go_ret
    exact ⟨⟨none, 0, rfl, World.ownsRow_nil _ _ _ _⟩, Below.refl _ _⟩
  | some a =>
    obtain ⟨hl, hnews⟩ := row_news h
    obtain ⟨i0, hi, hz0, hz1, hz2⟩ := info_parts info_hs
    have HB := Lib.hid (boxed w (.cells #[] 53))
    have HO := Lib.hid (World.ownsRow_lit (e := 53) (size := 5) (base := w.heap.size) w #[] 0 (Nat.le_refl _) (by unfold maxLen; omega) rfl)
    have HNw := Lib.hid fun j u hu => below_cell'' (hnews j u hu) HB.out
    have HL := Lib.hid hl
    have H1 := Lib.hid h1
    clear h hl hnews h1
    have e1 : ∀ W, (binOp .eql 23 (.slice (some a) n cap) (.slice none 0 0)).run Tryz.prog W = .ok (.bool false) W := fun _ => by kernel_rfl
    go_enter Tryz.func38, Tryz.ntmps38
    go_wp2_with (at_builtin; refine wpList_append_own _ rfl _ _ 23 rfl w.heap.size 53 i0 (.agg #[.string ⟨#[]⟩, .bool false, .int .u64 0, .int .u64 0, .int .u8 0]) 5 48 Tryz.underlying23 hi hz0 hz1 hz2 rfl (by decide) _ 0 [] rfl HO.out a n cap xs rfl HL.out HNw.out H1.out (by unfold maxLen; omega) (by omega) (by simp) ?_; intro v' w' ho hg hnil; obtain ⟨A5, c5, rfl⟩ := own_shape ho; rw [Nat.zero_add] at ho; have HOw := Lib.hid ho; have HBz := Lib.hid (HB.out.grown hg HB.out.size (fun q hq => (HO.out.lt q hq).1)); clear ho hg hnil)
    go_ret
    exact ⟨⟨A5, c5, rfl, by have := HOw.out; rw [List.nil_append] at this; exact this⟩, HBz.out⟩
set_option maxHeartbeats 8000000 in
set_option maxRecDepth 100000 in
theorem clone_u8 {w : World} {v : Value} {n : Nat} {xs : List Value} (h : RowR w v n 1 xs) (hn : n ≤ 2000000) (h1 : ∀ u ∈ xs, u.oneCell' = true) : Calls Tryz.prog 39 #[v] w (ClonR 5 1 n xs w) := by
  obtain ⟨A, cap, rfl⟩ := h.shape
  cases A with
  | none =>
    obtain ⟨rfl, rfl⟩ := row_none h
    clear h
    have e1 : ∀ W, (binOp .eql 40 (.slice none 0 cap) (.slice none 0 0)).run Tryz.prog W = .ok (.bool true) W := fun _ => by kernel_rfl
    go_enter Tryz.func39, Tryz.ntmps39
    go_wp2_with fail
    go_ret
    exact ⟨⟨none, 0, rfl, World.ownsRow_nil _ _ _ _⟩, Below.refl _ _⟩
  | some a =>
    obtain ⟨hl, hnews⟩ := row_news h
    obtain ⟨i0, hi, hz0, hz1, hz2⟩ := info_parts info_u8p
    have HB := Lib.hid (boxed w (.cells #[] 5))
    have HO := Lib.hid (World.ownsRow_lit (e := 5) (size := 1) (base := w.heap.size) w #[] 0 (Nat.le_refl _) (by unfold maxLen; omega) rfl)
    have HNw := Lib.hid fun j u hu => below_cell'' (hnews j u hu) HB.out
    have HL := Lib.hid hl
    have H1 := Lib.hid h1
    clear h hl hnews h1
    have e1 : ∀ W, (binOp .eql 40 (.slice (some a) n cap) (.slice none 0 0)).run Tryz.prog W = .ok (.bool false) W := fun _ => by kernel_rfl
    go_enter Tryz.func39, Tryz.ntmps39
    go_wp2_with (at_builtin; refine wpList_append_own _ rfl _ _ 40 rfl w.heap.size 5 i0 (.int .u8 0) 1 1 Tryz.underlying40 hi hz0 hz1 hz2 rfl (by decide) _ 0 [] rfl HO.out a n cap xs rfl HL.out HNw.out H1.out (by unfold maxLen; omega) (by omega) (by simp) ?_; intro v' w' ho hg hnil; obtain ⟨A5, c5, rfl⟩ := own_shape ho; rw [Nat.zero_add] at ho; have HOw := Lib.hid ho; have HBz := Lib.hid (HB.out.grown hg HB.out.size (fun q hq => (HO.out.lt q hq).1)); clear ho hg hnil)
    go_ret
    exact ⟨⟨A5, c5, rfl, by have := HOw.out; rw [List.nil_append] at this; exact this⟩, HBz.out⟩
set_option maxHeartbeats 8000000 in
set_option maxRecDepth 100000 in
theorem clone_sel {w : World} {v : Value} {n : Nat} {xs : List Value} (h : RowR w v n 6 xs) (hn : n ≤ 2000000) (h1 : ∀ u ∈ xs, u.oneCell' = true) : Calls Tryz.prog 40 #[v] w (ClonR 59 6 n xs w) := by
  obtain ⟨A, cap, rfl⟩ := h.shape
  cases A with
  | none =>
    obtain ⟨rfl, rfl⟩ := row_none h
    clear h
    have e1 : ∀ W, (binOp .eql 54 (.slice none 0 cap) (.slice none 0 0)).run Tryz.prog W = .ok (.bool true) W := fun _ => by kernel_rfl
    go_enter Tryz.func40, Tryz.ntmps40
    go_wp2_with fail
    go_ret
    exact ⟨⟨none, 0, rfl, World.ownsRow_nil _ _ _ _⟩, Below.refl _ _⟩
  | some a =>
    obtain ⟨hl, hnews⟩ := row_news h
    obtain ⟨i0, hi, hz0, hz1, hz2⟩ := info_parts info_sel
    have HB := Lib.hid (boxed w (.cells #[] 59))
    have HO := Lib.hid (World.ownsRow_lit (e := 59) (size := 6) (base := w.heap.size) w #[] 0 (Nat.le_refl _) (by unfold maxLen; omega) rfl)
    have HNw := Lib.hid fun j u hu => below_cell'' (hnews j u hu) HB.out
    have HL := Lib.hid hl
    have H1 := Lib.hid h1
    clear h hl hnews h1
    have e1 : ∀ W, (binOp .eql 54 (.slice (some a) n cap) (.slice none 0 0)).run Tryz.prog W = .ok (.bool false) W := fun _ => by kernel_rfl
    go_enter Tryz.func40, Tryz.ntmps40
    go_wp2_with (at_builtin; refine wpList_append_own _ rfl _ _ 54 rfl w.heap.size 59 i0 (.agg #[.int .u8 0, .string ⟨#[]⟩, .bool false, .int .u64 0, .int .u64 0, .int .u8 0]) 6 56 Tryz.underlying54 hi hz0 hz1 hz2 rfl (by decide) _ 0 [] rfl HO.out a n cap xs rfl HL.out HNw.out H1.out (by unfold maxLen; omega) (by omega) (by simp) ?_; intro v' w' ho hg hnil; obtain ⟨A5, c5, rfl⟩ := own_shape ho; rw [Nat.zero_add] at ho; have HOw := Lib.hid ho; have HBz := Lib.hid (HB.out.grown hg HB.out.size (fun q hq => (HO.out.lt q hq).1)); clear ho hg hnil)
    go_ret
    exact ⟨⟨A5, c5, rfl, by have := HOw.out; rw [List.nil_append] at this; exact this⟩, HBz.out⟩
set_option maxHeartbeats 8000000 in
set_option maxRecDepth 100000 in
theorem clone_po {w : World} {v : Value} {n : Nat} {xs : List Value} (h : RowR w v n 2 xs) (hn : n ≤ 2000000) (h1 : ∀ u ∈ xs, u.oneCell' = true) : Calls Tryz.prog 41 #[v] w (ClonR 104 2 n xs w) := by
  obtain ⟨A, cap, rfl⟩ := h.shape
  cases A with
  | none =>
    obtain ⟨rfl, rfl⟩ := row_none h
    clear h
    have e1 : ∀ W, (binOp .eql 55 (.slice none 0 cap) (.slice none 0 0)).run Tryz.prog W = .ok (.bool true) W := fun _ => by kernel_rfl
    go_enter Tryz.func41, Tryz.ntmps41
    go_wp2_with fail
    go_ret
    exact ⟨⟨none, 0, rfl, World.ownsRow_nil _ _ _ _⟩, Below.refl _ _⟩
  | some a =>
    obtain ⟨hl, hnews⟩ := row_news h
    obtain ⟨i0, hi, hz0, hz1, hz2⟩ := info_parts info_po
    have HB := Lib.hid (boxed w (.cells #[] 104))
    have HO := Lib.hid (World.ownsRow_lit (e := 104) (size := 2) (base := w.heap.size) w #[] 0 (Nat.le_refl _) (by unfold maxLen; omega) rfl)
    have HNw := Lib.hid fun j u hu => below_cell'' (hnews j u hu) HB.out
    have HL := Lib.hid hl
    have H1 := Lib.hid h1
    clear h hl hnews h1
    have e1 : ∀ W, (binOp .eql 55 (.slice (some a) n cap) (.slice none 0 0)).run Tryz.prog W = .ok (.bool false) W := fun _ => by kernel_rfl
    go_enter Tryz.func41, Tryz.ntmps41
    go_wp2_with (at_builtin; refine wpList_append_own _ rfl _ _ 55 rfl w.heap.size 104 i0 (.agg #[.int .u16 0, .int .u16 0]) 2 4 Tryz.underlying55 hi hz0 hz1 hz2 rfl (by decide) _ 0 [] rfl HO.out a n cap xs rfl HL.out HNw.out H1.out (by unfold maxLen; omega) (by omega) (by simp) ?_; intro v' w' ho hg hnil; obtain ⟨A5, c5, rfl⟩ := own_shape ho; rw [Nat.zero_add] at ho; have HOw := Lib.hid ho; have HBz := Lib.hid (HB.out.grown hg HB.out.size (fun q hq => (HO.out.lt q hq).1)); clear ho hg hnil)
    go_ret
    exact ⟨⟨A5, c5, rfl, by have := HOw.out; rw [List.nil_append] at this; exact this⟩, HBz.out⟩
set_option maxHeartbeats 16000000 in
set_option maxRecDepth 100000 in
theorem copyNames_any {w : World} {v : Value} (l : List Nm) (h : NmRd w v l) (hl : l.length ≤ 2000000) (hf : ∀ n ∈ l, NmFit n) : Calls Tryz.prog 36 #[v] w fun r w' => (∃ A c, r = .returned (.slice A l.length c) ∧ NmRow w' w.heap.size (.slice A l.length c) l) ∧ Below w.heap.size w w' := by
  obtain ⟨A, cap, rfl⟩ := h.shape
  obtain ⟨xs, hxs, hrow, hin⟩ := h
  obtain ⟨N, hN⟩ : ∃ n, n = l.length := ⟨_, rfl⟩
  rw [← hN] at hrow hl ⊢
  obtain ⟨j0, hj, hj0, hj1, hj2⟩ := info_parts info_nm
  have H := Lib.hid hrow
  have HI := Lib.hid hin
  have HXs := Lib.hid hxs
  have HF := Lib.hid hf
  have HN := Lib.hid hN
  clear hrow hin hxs hf hN
  go_enter Tryz.func36, Tryz.ntmps36
  go_wp2_with fail
  go_loopw [2, 7] (fun v2 v7 wr => ∃ (k : Nat) (T : Option Addr) (ct : Nat), k ≤ N ∧ v7 = .int .i64 (k : Int) ∧ v2 = .slice T k ct ∧ RowKit.Hid (NmRow wr w.heap.size (.slice T k ct) (l.take k)) ∧ RowKit.Hid (Below w.heap.size w wr)) (fun _ v7 _ => N - (intOf v7).toNat)
  case atStart => exact ⟨0, none, 0, Nat.zero_le _, rfl, rfl, Lib.hid (NmRow.nil _ _), Lib.hid (Below.refl _ _)⟩
  case round =>
    obtain ⟨k, T, ct, hk, rfl, rfl, HNr, HB⟩ := hrel
    by_cases hlt : k < N
    case pos =>
      obtain ⟨wo, rfl⟩ : ∃ wo : World, wo = wr := ⟨_, rfl⟩
      have hlx := congrArg List.length HXs.out
      rw [List.length_map] at hlx
      have hkl : k < l.length := by have := HN.out; omega
      obtain ⟨X, hX⟩ : ∃ X, xs[k]? = some X := ⟨_, List.getElem?_eq_getElem (by omega)⟩
      have hXl : l[k]? = some X.1 := by rw [← HXs.out, List.getElem?_map, hX]; rfl
      have hXg : l[k] = X.1 := (List.getElem?_eq_some_iff.1 hXl).2
      have htk := List.take_succ_eq_append_getElem hkl
      rw [hXg] at htk
      have htl : (l.take k).length = k := by rw [List.length_take]; omega
      have hcx := nmCells_at (xs.map nmPair) k (nmPair X) (by rw [List.getElem?_map, hX]; rfl)
      obtain ⟨q, o, rfl, hc⟩ := H.out.cell HB.out (by omega)
      have d0 := hc _ _ hcx.1
      have d1 := hc _ _ hcx.2
      rw [← Nat.add_assoc] at d1
      have rX := HI.out X (List.mem_of_getElem? hX)
      have hXf := HF.out X.1 (List.mem_of_getElem? hXl)
      obtain ⟨⟨nm, ls⟩, lv⟩ := X
      unfold nmPair at d0 d1
      simp only at d0 d1 rX hXf htk
      have hcl := fun u (hu : Below w.heap.size w u) => clone_str (rX.below hu) hXf.len (one_str _)
      obtain ⟨A2, c2, rfl⟩ := rX.shape
      obtain ⟨n2, hn2⟩ : ∃ n, n = ls.length := ⟨_, rfl⟩
      rw [← hn2] at d1 hcl
      unfold ClonR at hcl
      have HN2 := Lib.hid hn2
      have HCl := Lib.hid hcl
      have HTk := Lib.hid htk
      have HTl := Lib.hid htl
      clear hlx hkl hX hXl hXg htk htl hcx hc rX hXf hn2 hcl
      go_upto_region 4 with fail
      have M1 := Lib.hid (Blk.new wo 46 #[.string nm, .slice A2 n2 c2])
      have q1 := boxed wo (.cells #[.string nm, .slice A2 n2 c2] 46)
      have HB1 := Lib.hid (after HB.out q1)
      have HN1 := Lib.hid (HNr.out.below q1)
      have hMT : RowKit.Hid (∀ g, (Value.slice T k ct).ownBlock = some g → g ≠ wo.heap.size) := Lib.hid (by
        obtain ⟨zs, _, hoz, _⟩ := HNr.out
        intro g hg e
        have := (hoz.lt _ hg).2
        omega)
      generalize wo.alloc (.cells #[.string nm, .slice A2 n2 c2] 46) = wa at M1 HB1 HN1 q1 ⊢
      generalize wo.heap.size = M at M1 hMT ⊢
      clear q1 HB HNr d0 d1
      have m0 := M1.out.cell 0
      have m1 := M1.out.cell 1
      simp at m0 m1
      refine wp_region_held_drew (S := (fun w' => w'.cell? ⟨M, 0, none⟩ = some (.string nm) ∧ w'.cell? ⟨M, 1, none⟩ = some (.slice A2 n2 c2))) (by kernel_rfl) (⟨m0, m1⟩) (fun hHeld => ?_)
      refine tH 0 ?_; try simp only [Ap]
      refine tH 1 ?_; try simp only [Ap]
      refine tH 2 ?_; try simp only [Ap]
      refine tH 3 ?_; try simp only [Ap]
      refine tH 4 ?_; try simp only [Ap]
      refine wpAnyH_ready (rs := [5]) (by kernel_rfl) (by simp) ?_
      refine AllReadyH.cons rfl (fun K hK => ?_) AllReadyH.nil
      go_simp
      refine (HCl.out _ HB1.out.drew).mono ?_
      rintro r wb ⟨⟨A3, c3, rfl, ho⟩, db⟩
      have eb : Below wa.heap.size wa wb := ⟨db.os, db.tape, db.output, db.size, db.block⟩
      have HO3 : RowKit.Hid (wb.ownsRow wa.heap.size 9 1 (.slice A3 n2 c3) n2 (strCells ls)) := Lib.hid ho
      have HBb := Lib.hid (after HB1.out eb)
      have HNb := Lib.hid (HN1.out.below eb)
      have Mb := Lib.hid (M1.out.below eb M1.out.lt)
      have hsz : wa.heap.size ≤ wb.heap.size := eb.size
      clear db ho
      refine hK.out _ _ (⟨below_cell m0 eb, below_cell m1 eb⟩) (fun hHeld => ?_)
      clear hK K
      try simp only [Ap]
      refine tH 6 ?_; try simp only [Ap]
      refine wpAnyH_ready (rs := [7]) (by kernel_rfl) (by simp) ?_
      refine AllReadyH.cons rfl (fun K hK => ?_) AllReadyH.nil
      go_simp
      have bc := boxed wb (.cells #[.string nm, .slice A3 n2 c3] 46)
      obtain ⟨ys, hys, hoy, hiy⟩ := HNb.out
      rw [HTl.out] at hoy
      have HYs := Lib.hid hys
      have HOX := Lib.hid (hoy.alloc (.cells #[.string nm, .slice A3 n2 c3] 46))
      have HIy := Lib.hid hiy
      have HNew := Lib.hid (cells_new wb [.string nm, .slice A3 n2 c3] 46)
      have HOc := Lib.hid (own_below HO3.out bc)
      have HBc := Lib.hid (after HBb.out bc)
      have Mc := Lib.hid (Mb.out.below bc Mb.out.lt)
      have f0 := Mc.out.cell 0
      have f1 := Mc.out.cell 1
      simp at f0 f1
      clear bc hys hoy hiy
      refine hK.out _ _ (⟨f0, f1⟩) (fun hHeld => ?_)
      clear hK K
      try simp only [Ap]
      refine wpAnyH_ready (rs := [8]) (by kernel_rfl) (by simp) ?_
      refine AllReadyH.cons rfl (fun K hK => ?_) AllReadyH.nil
      refine step_append_lies _ (by rfl) _ _ _ (by rfl) w.heap.size 46 j0 (.agg #[.string ⟨#[]⟩, .slice none 0 0]) 2 40 Tryz.underlying22 hj hj0 hj1 hj2 rfl (by decide) _ k _ (by rfl) HOX.out ⟨wb.heap.size, 0, none⟩ 1 1 [.string nm, .slice A3 n2 c3] (by rfl) rfl HNew.out (by intro u hu; simp at hu; rcases hu with rfl | rfl <;> rfl) (by decide) (by unfold maxLen; omega) (by omega) (by have := HBb.out.size; simp; omega) (wb.heap.size + 1) (by simp) ?_
      intro g' cap' wd hown' hgrow hat hglt
      have BM := Mc.out.grown hgrow (fun e => hMT.out _ e.symm rfl)
      have HBd := Lib.hid (HBc.out.grown hgrow HBc.out.size (fun x hx => (HOX.out.lt x hx).1))
      have x0 := BM.cell 0
      have x1 := BM.cell 1
      simp at x0 x1
      have Hown := Lib.hid hown'
      have Hgrow := Lib.hid hgrow
      clear hown' hgrow hat hglt BM
      refine hK.out _ _ (⟨x0, x1⟩) (fun hHeld => ?_)
      clear hK K
      try simp only [Ap]
      refine tH 9 ?_; try simp only [Ap]
      refine wpAnyH_done (by kernel_rfl) ?_ _
      have HNz : RowKit.Hid (NmRow wd w.heap.size (.slice (some ⟨g', 0, none⟩) (k + 1) cap') (l.take (k + 1))) := by
        refine Lib.hid ⟨ys ++ [(⟨nm, ls⟩, .slice A3 n2 c3)], by rw [List.map_append, HYs.out, HTk.out]; rfl, ?_, ?_⟩
        · rw [HTk.out, List.length_append, HTl.out, List.map_append, show List.map nmPair [((⟨nm, ls⟩ : Nm), Value.slice A3 n2 c3)] = [(nm, .slice A3 n2 c3)] from rfl, nmCells_snoc]
          exact Hown.out
        · intro x hx
          rcases List.mem_append.1 hx with hx | hx
          · exact own_off ((HIy.out x hx).alloc _) (Keeps.row Hgrow.out) (ownOff HOX.out) (by decide)
          · rw [List.mem_singleton.1 hx]
            have := own_off (HOc.out.mono HB1.out.size) (Keeps.row Hgrow.out) (ownOff HOX.out) (by decide)
            rw [HN2.out] at this ⊢
            exact this
      clear HOX HIy HYs HOc HNew HBc HBb HNb HO3 Mb Mc Hown Hgrow hMT M1 m0 m1 f0 f1 x0 x1 hHeld
      go_wp2_with fail
      go_roundw
      case rel => exact ⟨k + 1, some ⟨g', 0, none⟩, cap', by omega, by go_num, rfl, HNz, HBd⟩
      case measure => simp [intOf]; omega
    obtain rfl : N = k := by omega
    have HNz : RowKit.Hid (NmRow wr w.heap.size (.slice T N ct) l) := Lib.hid (by have := HNr.out; rw [List.take_of_length_le (by have := HN.out; omega)] at this; exact this)
    go_wp2_with fail
    go_ret
    exact ⟨⟨T, ct, rfl, HNz.out⟩, HB.out⟩
end Go.Proofs.YtbiglifngfgffaaGreatDoor
