/- Joined out of: IxA CnA RuA RuB. -/
import Derived.Test.YthglckoikjfjkaaGreatDoorSac
import Derived.Test.YthglckoikjfjkaaGreatDoorSai
import Derived.Test.YthglckoikjfjkaaGreatDoorSab
import Derived.Test.YthglckoikjfjkaaGreatDoorSad
set_option linter.unusedVariables false
set_option linter.unusedSimpArgs false

/- slices.IndexFunc, slices.ContainsFunc of rows of structs: the walks. (printed by ixf.py) -/
namespace Go.Proofs.YthglckoikjfjkaaGreatDoor
open Go.RowKit
attribute [local go_sem ↓] Go.wp_at_zero Go.wp_at_succ

/-- The first place below n at which p holds, or -1. -/
def IxR (p : Nat → Bool) (n : Nat) (z : Int) : Prop := (∃ k : Nat, k < n ∧ z = (k : Int) ∧ p k = true ∧ ∀ j, j < k → p j = false) ∨ (z = -1 ∧ ∀ j, j < n → p j = false)
theorem IxR.any {p : Nat → Bool} {n : Nat} {z : Int} (h : IxR p n z) : decide (0 ≤ z) = (List.range n).any p := by
  rcases h with ⟨k, hk, rfl, hp, _⟩ | ⟨rfl, hp⟩
  · rw [decide_eq_true (by omega)]
    exact (List.any_eq_true.2 ⟨k, List.mem_range.2 hk, hp⟩).symm
  · rw [decide_eq_false (by omega)]
    symm
    rw [List.any_eq_false]
    intro j hj
    rw [hp j (List.mem_range.1 hj)]
    decide
/- The cells of an element: its place in the row. -/
def CellsAt (w : World) (A : Option Addr) (n K : Nat) (cs : Nat → List Value) : Prop := ∀ k, k < n → (cs k).length = K ∧ ∃ g o, A = some ⟨g, o, none⟩ ∧ ∀ j u, (cs k)[j]? = some u → w.cell? ⟨g, o + k * K + j, none⟩ = some u
theorem RowR.cellsAt {w : World} {A : Option Addr} {n cap K : Nat} {xs : List Value} (h : RowR w (.slice A n cap) n K xs) : CellsAt w A n K fun k => (xs.drop (k * K)).take K := by
  obtain ⟨A', cap', e, hl, hc⟩ := h
  injection e with e1 _ e2
  subst e1 e2
  intro k hk
  have hb : k * K + K ≤ n * K := by
    have := Nat.mul_le_mul_right K (show k + 1 ≤ n from hk)
    rw [Nat.succ_mul] at this
    exact this
  refine ⟨by rw [List.length_take, List.length_drop, hl]; omega, ?_⟩
  obtain ⟨g, o, ha, hcc⟩ := hc (by omega)
  refine ⟨g, o, ha, fun j u hu => ?_⟩
  rw [Nat.add_assoc]
  refine hcc _ u ?_
  rw [List.getElem?_take] at hu
  split at hu
  · rw [List.getElem?_drop] at hu; exact hu
  · cases hu

set_option maxHeartbeats 4000000 in
set_option maxRecDepth 100000 in
theorem ixNm_any {w : World} {A : Option Addr} {N cap : Nat} (hN : N ≤ 4000000) (cs : Nat → List Value) (p : Nat → Bool) (hc : CellsAt w A N 2 cs) (f : Nat) (lb : Array Value) (eg : ∀ args w, (callFunc f args).run Tryz.prog w = .ok (.enter f args) w)
    (hf : ∀ k, k < N → ∀ W, Below w.heap.size w W → Calls Tryz.prog f (#[.agg (cs k).toArray] ++ lb) W (Got (.bool (p k)) W)) :
    Calls Tryz.prog 78 #[.slice A N cap, .func (.func f) #[] lb] w fun r w' => (∃ z : Int, r = .returned (.int .i64 z) ∧ IxR p N z) ∧ Below w.heap.size w w' := by
  have HC := Lib.hid hc
  have HF := Lib.hid hf
  clear hc hf
  go_enter Tryz.func78, Tryz.ntmps78
  go_wp2_with fail
  go_loopw [8] (fun v8 wr => ∃ k : Nat, k ≤ N ∧ v8 = .int .i64 (k : Int) ∧ RowKit.Hid (Below w.heap.size w wr) ∧ RowKit.Hid (∀ j, j < k → p j = false)) (fun v8 _ => N - (intOf v8).toNat)
  case atStart => exact ⟨0, Nat.zero_le _, rfl, Lib.hid (Below.refl _ _), Lib.hid (fun j hj => absurd hj (Nat.not_lt_zero j))⟩
  case round =>
    obtain ⟨k, hk, rfl, hb, hno⟩ := hrel
    by_cases hlt : k < N
    · obtain ⟨hlen, q, o, rfl, hcell⟩ := HC.out k hlt
      have hcall := HF.out k hlt wr hb.out
      generalize hcs : cs k = L at hlen hcell hcall
      clear hcs
      obtain ⟨c0, c1, hL⟩ : ∃ c0 c1, L = [c0, c1] := by
        match L, hlen with
        | [c0, c1], _ => exact ⟨c0, c1, rfl⟩
      subst hL
      have d0 := (hb.out.cell (World.block_lt_of_cell? w _ (hcell 0 _ rfl))).trans (hcell 0 _ rfl)
      have d1 := (hb.out.cell (World.block_lt_of_cell? w _ (hcell 1 _ rfl))).trans (hcell 1 _ rfl)
      rw [Nat.add_zero] at d0
      have HCall := Lib.hid hcall
      clear hcall hcell hlen
      cases hp : p k with
      | true =>
        rw [hp] at HCall
        have HP := Lib.hid hp
        clear hp
        go_wp2_with (go_at_fn f; (with_reducible refine HCall.out.mono ?_); rintro r w2 ⟨rfl, e2⟩)
        go_ret
        exact ⟨⟨_, rfl, .inl ⟨k, hlt, rfl, HP.out, hno.out⟩⟩, after hb.out e2⟩
      | false =>
        rw [hp] at HCall
        have HP := Lib.hid hp
        clear hp
        go_wp2_with (go_at_fn f; (with_reducible refine HCall.out.mono ?_); rintro r w2 ⟨rfl, e2⟩)
        go_roundw
        case rel =>
          refine ⟨k + 1, by omega, by go_num, Lib.hid (after hb.out e2), Lib.hid (fun j hj => ?_)⟩
          by_cases e : j = k
          · rw [e]; exact HP.out
          · exact hno.out j (by omega)
        case measure => simp [intOf]; omega
    · obtain rfl : k = N := by omega
      go_wp2_with fail
      go_ret
      exact ⟨⟨_, rfl, .inr ⟨rfl, hno.out⟩⟩, hb.out⟩

set_option maxHeartbeats 4000000 in
set_option maxRecDepth 100000 in
theorem ixHs_any {w : World} {A : Option Addr} {N cap : Nat} (hN : N ≤ 4000000) (cs : Nat → List Value) (p : Nat → Bool) (hc : CellsAt w A N 5 cs) (f : Nat) (lb : Array Value) (eg : ∀ args w, (callFunc f args).run Tryz.prog w = .ok (.enter f args) w)
    (hf : ∀ k, k < N → ∀ W, Below w.heap.size w W → Calls Tryz.prog f (#[.agg (cs k).toArray] ++ lb) W (Got (.bool (p k)) W)) :
    Calls Tryz.prog 73 #[.slice A N cap, .func (.func f) #[] lb] w fun r w' => (∃ z : Int, r = .returned (.int .i64 z) ∧ IxR p N z) ∧ Below w.heap.size w w' := by
  have HC := Lib.hid hc
  have HF := Lib.hid hf
  clear hc hf
  go_enter Tryz.func73, Tryz.ntmps73
  go_wp2_with fail
  go_loopw [8] (fun v8 wr => ∃ k : Nat, k ≤ N ∧ v8 = .int .i64 (k : Int) ∧ RowKit.Hid (Below w.heap.size w wr) ∧ RowKit.Hid (∀ j, j < k → p j = false)) (fun v8 _ => N - (intOf v8).toNat)
  case atStart => exact ⟨0, Nat.zero_le _, rfl, Lib.hid (Below.refl _ _), Lib.hid (fun j hj => absurd hj (Nat.not_lt_zero j))⟩
  case round =>
    obtain ⟨k, hk, rfl, hb, hno⟩ := hrel
    by_cases hlt : k < N
    · obtain ⟨hlen, q, o, rfl, hcell⟩ := HC.out k hlt
      have hcall := HF.out k hlt wr hb.out
      generalize hcs : cs k = L at hlen hcell hcall
      clear hcs
      obtain ⟨c0, c1, c2, c3, c4, hL⟩ : ∃ c0 c1 c2 c3 c4, L = [c0, c1, c2, c3, c4] := by
        match L, hlen with
        | [c0, c1, c2, c3, c4], _ => exact ⟨c0, c1, c2, c3, c4, rfl⟩
      subst hL
      have d0 := (hb.out.cell (World.block_lt_of_cell? w _ (hcell 0 _ rfl))).trans (hcell 0 _ rfl)
      have d1 := (hb.out.cell (World.block_lt_of_cell? w _ (hcell 1 _ rfl))).trans (hcell 1 _ rfl)
      have d2 := (hb.out.cell (World.block_lt_of_cell? w _ (hcell 2 _ rfl))).trans (hcell 2 _ rfl)
      have d3 := (hb.out.cell (World.block_lt_of_cell? w _ (hcell 3 _ rfl))).trans (hcell 3 _ rfl)
      have d4 := (hb.out.cell (World.block_lt_of_cell? w _ (hcell 4 _ rfl))).trans (hcell 4 _ rfl)
      rw [Nat.add_zero] at d0
      have HCall := Lib.hid hcall
      clear hcall hcell hlen
      cases hp : p k with
      | true =>
        rw [hp] at HCall
        have HP := Lib.hid hp
        clear hp
        go_wp2_with (go_at_fn f; (with_reducible refine HCall.out.mono ?_); rintro r w2 ⟨rfl, e2⟩)
        go_ret
        exact ⟨⟨_, rfl, .inl ⟨k, hlt, rfl, HP.out, hno.out⟩⟩, after hb.out e2⟩
      | false =>
        rw [hp] at HCall
        have HP := Lib.hid hp
        clear hp
        go_wp2_with (go_at_fn f; (with_reducible refine HCall.out.mono ?_); rintro r w2 ⟨rfl, e2⟩)
        go_roundw
        case rel =>
          refine ⟨k + 1, by omega, by go_num, Lib.hid (after hb.out e2), Lib.hid (fun j hj => ?_)⟩
          by_cases e : j = k
          · rw [e]; exact HP.out
          · exact hno.out j (by omega)
        case measure => simp [intOf]; omega
    · obtain rfl : k = N := by omega
      go_wp2_with fail
      go_ret
      exact ⟨⟨_, rfl, .inr ⟨rfl, hno.out⟩⟩, hb.out⟩

set_option maxHeartbeats 4000000 in
set_option maxRecDepth 100000 in
theorem ixAc_any {w : World} {A : Option Addr} {N cap : Nat} (hN : N ≤ 4000000) (cs : Nat → List Value) (p : Nat → Bool) (hc : CellsAt w A N 4 cs) (f : Nat) (lb : Array Value) (eg : ∀ args w, (callFunc f args).run Tryz.prog w = .ok (.enter f args) w)
    (hf : ∀ k, k < N → ∀ W, Below w.heap.size w W → Calls Tryz.prog f (#[.agg (cs k).toArray] ++ lb) W (Got (.bool (p k)) W)) :
    Calls Tryz.prog 58 #[.slice A N cap, .func (.func f) #[] lb] w fun r w' => (∃ z : Int, r = .returned (.int .i64 z) ∧ IxR p N z) ∧ Below w.heap.size w w' := by
  have HC := Lib.hid hc
  have HF := Lib.hid hf
  clear hc hf
  go_enter Tryz.func58, Tryz.ntmps58
  go_wp2_with fail
  go_loopw [8] (fun v8 wr => ∃ k : Nat, k ≤ N ∧ v8 = .int .i64 (k : Int) ∧ RowKit.Hid (Below w.heap.size w wr) ∧ RowKit.Hid (∀ j, j < k → p j = false)) (fun v8 _ => N - (intOf v8).toNat)
  case atStart => exact ⟨0, Nat.zero_le _, rfl, Lib.hid (Below.refl _ _), Lib.hid (fun j hj => absurd hj (Nat.not_lt_zero j))⟩
  case round =>
    obtain ⟨k, hk, rfl, hb, hno⟩ := hrel
    by_cases hlt : k < N
    · obtain ⟨hlen, q, o, rfl, hcell⟩ := HC.out k hlt
      have hcall := HF.out k hlt wr hb.out
      generalize hcs : cs k = L at hlen hcell hcall
      clear hcs
      obtain ⟨c0, c1, c2, c3, hL⟩ : ∃ c0 c1 c2 c3, L = [c0, c1, c2, c3] := by
        match L, hlen with
        | [c0, c1, c2, c3], _ => exact ⟨c0, c1, c2, c3, rfl⟩
      subst hL
      have d0 := (hb.out.cell (World.block_lt_of_cell? w _ (hcell 0 _ rfl))).trans (hcell 0 _ rfl)
      have d1 := (hb.out.cell (World.block_lt_of_cell? w _ (hcell 1 _ rfl))).trans (hcell 1 _ rfl)
      have d2 := (hb.out.cell (World.block_lt_of_cell? w _ (hcell 2 _ rfl))).trans (hcell 2 _ rfl)
      have d3 := (hb.out.cell (World.block_lt_of_cell? w _ (hcell 3 _ rfl))).trans (hcell 3 _ rfl)
      rw [Nat.add_zero] at d0
      have HCall := Lib.hid hcall
      clear hcall hcell hlen
      cases hp : p k with
      | true =>
        rw [hp] at HCall
        have HP := Lib.hid hp
        clear hp
        go_wp2_with (go_at_fn f; (with_reducible refine HCall.out.mono ?_); rintro r w2 ⟨rfl, e2⟩)
        go_ret
        exact ⟨⟨_, rfl, .inl ⟨k, hlt, rfl, HP.out, hno.out⟩⟩, after hb.out e2⟩
      | false =>
        rw [hp] at HCall
        have HP := Lib.hid hp
        clear hp
        go_wp2_with (go_at_fn f; (with_reducible refine HCall.out.mono ?_); rintro r w2 ⟨rfl, e2⟩)
        go_roundw
        case rel =>
          refine ⟨k + 1, by omega, by go_num, Lib.hid (after hb.out e2), Lib.hid (fun j hj => ?_)⟩
          by_cases e : j = k
          · rw [e]; exact HP.out
          · exact hno.out j (by omega)
        case measure => simp [intOf]; omega
    · obtain rfl : k = N := by omega
      go_wp2_with fail
      go_ret
      exact ⟨⟨_, rfl, .inr ⟨rfl, hno.out⟩⟩, hb.out⟩

set_option maxHeartbeats 4000000 in
set_option maxRecDepth 100000 in
theorem coAc_any {w : World} {A : Option Addr} {N cap : Nat} (hN : N ≤ 4000000) (cs : Nat → List Value) (p : Nat → Bool) (hc : CellsAt w A N 4 cs) (f : Nat) (lb : Array Value) (eg : ∀ args w, (callFunc f args).run Tryz.prog w = .ok (.enter f args) w)
    (hf : ∀ k, k < N → ∀ W, Below w.heap.size w W → Calls Tryz.prog f (#[.agg (cs k).toArray] ++ lb) W (Got (.bool (p k)) W)) :
    Calls Tryz.prog 29 #[.slice A N cap, .func (.func f) #[] lb] w (Got (.bool ((List.range N).any p)) w) := by
  have HI := Lib.hid (ixAc_any (cap := cap) hN cs p hc f lb eg hf)
  clear hc hf
  generalize hR : (List.range N).any p = R
  have HR := Lib.hid hR
  clear hR
  go_enter Tryz.func29, Tryz.ntmps29
  go_wp2_with (go_at_call 58; (with_reducible refine HI.out.mono ?_); rintro r w2 ⟨⟨z, rfl, hz⟩, e2⟩)
  go_ret
  exact ⟨by rw [← HR.out, ← hz.any]; rfl, e2⟩

set_option maxHeartbeats 4000000 in
set_option maxRecDepth 100000 in
theorem ixSe_any {w : World} {A : Option Addr} {N cap : Nat} (hN : N ≤ 4000000) (cs : Nat → List Value) (p : Nat → Bool) (hc : CellsAt w A N 6 cs) (f : Nat) (lb : Array Value) (eg : ∀ args w, (callFunc f args).run Tryz.prog w = .ok (.enter f args) w)
    (hf : ∀ k, k < N → ∀ W, Below w.heap.size w W → Calls Tryz.prog f (#[.agg (cs k).toArray] ++ lb) W (Got (.bool (p k)) W)) :
    Calls Tryz.prog 67 #[.slice A N cap, .func (.func f) #[] lb] w fun r w' => (∃ z : Int, r = .returned (.int .i64 z) ∧ IxR p N z) ∧ Below w.heap.size w w' := by
  have HC := Lib.hid hc
  have HF := Lib.hid hf
  clear hc hf
  go_enter Tryz.func67, Tryz.ntmps67
  go_wp2_with fail
  go_loopw [8] (fun v8 wr => ∃ k : Nat, k ≤ N ∧ v8 = .int .i64 (k : Int) ∧ RowKit.Hid (Below w.heap.size w wr) ∧ RowKit.Hid (∀ j, j < k → p j = false)) (fun v8 _ => N - (intOf v8).toNat)
  case atStart => exact ⟨0, Nat.zero_le _, rfl, Lib.hid (Below.refl _ _), Lib.hid (fun j hj => absurd hj (Nat.not_lt_zero j))⟩
  case round =>
    obtain ⟨k, hk, rfl, hb, hno⟩ := hrel
    by_cases hlt : k < N
    · obtain ⟨hlen, q, o, rfl, hcell⟩ := HC.out k hlt
      have hcall := HF.out k hlt wr hb.out
      generalize hcs : cs k = L at hlen hcell hcall
      clear hcs
      obtain ⟨c0, c1, c2, c3, c4, c5, hL⟩ : ∃ c0 c1 c2 c3 c4 c5, L = [c0, c1, c2, c3, c4, c5] := by
        match L, hlen with
        | [c0, c1, c2, c3, c4, c5], _ => exact ⟨c0, c1, c2, c3, c4, c5, rfl⟩
      subst hL
      have d0 := (hb.out.cell (World.block_lt_of_cell? w _ (hcell 0 _ rfl))).trans (hcell 0 _ rfl)
      have d1 := (hb.out.cell (World.block_lt_of_cell? w _ (hcell 1 _ rfl))).trans (hcell 1 _ rfl)
      have d2 := (hb.out.cell (World.block_lt_of_cell? w _ (hcell 2 _ rfl))).trans (hcell 2 _ rfl)
      have d3 := (hb.out.cell (World.block_lt_of_cell? w _ (hcell 3 _ rfl))).trans (hcell 3 _ rfl)
      have d4 := (hb.out.cell (World.block_lt_of_cell? w _ (hcell 4 _ rfl))).trans (hcell 4 _ rfl)
      have d5 := (hb.out.cell (World.block_lt_of_cell? w _ (hcell 5 _ rfl))).trans (hcell 5 _ rfl)
      rw [Nat.add_zero] at d0
      have HCall := Lib.hid hcall
      clear hcall hcell hlen
      cases hp : p k with
      | true =>
        rw [hp] at HCall
        have HP := Lib.hid hp
        clear hp
        go_wp2_with (go_at_fn f; (with_reducible refine HCall.out.mono ?_); rintro r w2 ⟨rfl, e2⟩)
        go_ret
        exact ⟨⟨_, rfl, .inl ⟨k, hlt, rfl, HP.out, hno.out⟩⟩, after hb.out e2⟩
      | false =>
        rw [hp] at HCall
        have HP := Lib.hid hp
        clear hp
        go_wp2_with (go_at_fn f; (with_reducible refine HCall.out.mono ?_); rintro r w2 ⟨rfl, e2⟩)
        go_roundw
        case rel =>
          refine ⟨k + 1, by omega, by go_num, Lib.hid (after hb.out e2), Lib.hid (fun j hj => ?_)⟩
          by_cases e : j = k
          · rw [e]; exact HP.out
          · exact hno.out j (by omega)
        case measure => simp [intOf]; omega
    · obtain rfl : k = N := by omega
      go_wp2_with fail
      go_ret
      exact ⟨⟨_, rfl, .inr ⟨rfl, hno.out⟩⟩, hb.out⟩

set_option maxHeartbeats 4000000 in
set_option maxRecDepth 100000 in
theorem coSe_any {w : World} {A : Option Addr} {N cap : Nat} (hN : N ≤ 4000000) (cs : Nat → List Value) (p : Nat → Bool) (hc : CellsAt w A N 6 cs) (f : Nat) (lb : Array Value) (eg : ∀ args w, (callFunc f args).run Tryz.prog w = .ok (.enter f args) w)
    (hf : ∀ k, k < N → ∀ W, Below w.heap.size w W → Calls Tryz.prog f (#[.agg (cs k).toArray] ++ lb) W (Got (.bool (p k)) W)) :
    Calls Tryz.prog 32 #[.slice A N cap, .func (.func f) #[] lb] w (Got (.bool ((List.range N).any p)) w) := by
  have HI := Lib.hid (ixSe_any (cap := cap) hN cs p hc f lb eg hf)
  clear hc hf
  generalize hR : (List.range N).any p = R
  have HR := Lib.hid hR
  clear hR
  go_enter Tryz.func32, Tryz.ntmps32
  go_wp2_with (go_at_call 67; (with_reducible refine HI.out.mono ?_); rintro r w2 ⟨⟨z, rfl, hz⟩, e2⟩)
  go_ret
  exact ⟨by rw [← HR.out, ← hz.any]; rfl, e2⟩

set_option maxHeartbeats 4000000 in
set_option maxRecDepth 100000 in
theorem ixPe_any {w : World} {A : Option Addr} {N cap : Nat} (hN : N ≤ 4000000) (cs : Nat → List Value) (p : Nat → Bool) (hc : CellsAt w A N 8 cs) (f : Nat) (lb : Array Value) (eg : ∀ args w, (callFunc f args).run Tryz.prog w = .ok (.enter f args) w)
    (hf : ∀ k, k < N → ∀ W, Below w.heap.size w W → Calls Tryz.prog f (#[.agg (cs k).toArray] ++ lb) W (Got (.bool (p k)) W)) :
    Calls Tryz.prog 102 #[.slice A N cap, .func (.func f) #[] lb] w fun r w' => (∃ z : Int, r = .returned (.int .i64 z) ∧ IxR p N z) ∧ Below w.heap.size w w' := by
  have HC := Lib.hid hc
  have HF := Lib.hid hf
  clear hc hf
  go_enter Tryz.func102, Tryz.ntmps102
  go_wp2_with fail
  go_loopw [8] (fun v8 wr => ∃ k : Nat, k ≤ N ∧ v8 = .int .i64 (k : Int) ∧ RowKit.Hid (Below w.heap.size w wr) ∧ RowKit.Hid (∀ j, j < k → p j = false)) (fun v8 _ => N - (intOf v8).toNat)
  case atStart => exact ⟨0, Nat.zero_le _, rfl, Lib.hid (Below.refl _ _), Lib.hid (fun j hj => absurd hj (Nat.not_lt_zero j))⟩
  case round =>
    obtain ⟨k, hk, rfl, hb, hno⟩ := hrel
    by_cases hlt : k < N
    · obtain ⟨hlen, q, o, rfl, hcell⟩ := HC.out k hlt
      have hcall := HF.out k hlt wr hb.out
      generalize hcs : cs k = L at hlen hcell hcall
      clear hcs
      obtain ⟨c0, c1, c2, c3, c4, c5, c6, c7, hL⟩ : ∃ c0 c1 c2 c3 c4 c5 c6 c7, L = [c0, c1, c2, c3, c4, c5, c6, c7] := by
        match L, hlen with
        | [c0, c1, c2, c3, c4, c5, c6, c7], _ => exact ⟨c0, c1, c2, c3, c4, c5, c6, c7, rfl⟩
      subst hL
      have d0 := (hb.out.cell (World.block_lt_of_cell? w _ (hcell 0 _ rfl))).trans (hcell 0 _ rfl)
      have d1 := (hb.out.cell (World.block_lt_of_cell? w _ (hcell 1 _ rfl))).trans (hcell 1 _ rfl)
      have d2 := (hb.out.cell (World.block_lt_of_cell? w _ (hcell 2 _ rfl))).trans (hcell 2 _ rfl)
      have d3 := (hb.out.cell (World.block_lt_of_cell? w _ (hcell 3 _ rfl))).trans (hcell 3 _ rfl)
      have d4 := (hb.out.cell (World.block_lt_of_cell? w _ (hcell 4 _ rfl))).trans (hcell 4 _ rfl)
      have d5 := (hb.out.cell (World.block_lt_of_cell? w _ (hcell 5 _ rfl))).trans (hcell 5 _ rfl)
      have d6 := (hb.out.cell (World.block_lt_of_cell? w _ (hcell 6 _ rfl))).trans (hcell 6 _ rfl)
      have d7 := (hb.out.cell (World.block_lt_of_cell? w _ (hcell 7 _ rfl))).trans (hcell 7 _ rfl)
      rw [Nat.add_zero] at d0
      have HCall := Lib.hid hcall
      clear hcall hcell hlen
      cases hp : p k with
      | true =>
        rw [hp] at HCall
        have HP := Lib.hid hp
        clear hp
        go_wp2_with (go_at_fn f; (with_reducible refine HCall.out.mono ?_); rintro r w2 ⟨rfl, e2⟩)
        go_ret
        exact ⟨⟨_, rfl, .inl ⟨k, hlt, rfl, HP.out, hno.out⟩⟩, after hb.out e2⟩
      | false =>
        rw [hp] at HCall
        have HP := Lib.hid hp
        clear hp
        go_wp2_with (go_at_fn f; (with_reducible refine HCall.out.mono ?_); rintro r w2 ⟨rfl, e2⟩)
        go_roundw
        case rel =>
          refine ⟨k + 1, by omega, by go_num, Lib.hid (after hb.out e2), Lib.hid (fun j hj => ?_)⟩
          by_cases e : j = k
          · rw [e]; exact HP.out
          · exact hno.out j (by omega)
        case measure => simp [intOf]; omega
    · obtain rfl : k = N := by omega
      go_wp2_with fail
      go_ret
      exact ⟨⟨_, rfl, .inr ⟨rfl, hno.out⟩⟩, hb.out⟩

set_option maxHeartbeats 4000000 in
set_option maxRecDepth 100000 in
theorem coPe_any {w : World} {A : Option Addr} {N cap : Nat} (hN : N ≤ 4000000) (cs : Nat → List Value) (p : Nat → Bool) (hc : CellsAt w A N 8 cs) (f : Nat) (lb : Array Value) (eg : ∀ args w, (callFunc f args).run Tryz.prog w = .ok (.enter f args) w)
    (hf : ∀ k, k < N → ∀ W, Below w.heap.size w W → Calls Tryz.prog f (#[.agg (cs k).toArray] ++ lb) W (Got (.bool (p k)) W)) :
    Calls Tryz.prog 69 #[.slice A N cap, .func (.func f) #[] lb] w (Got (.bool ((List.range N).any p)) w) := by
  have HI := Lib.hid (ixPe_any (cap := cap) hN cs p hc f lb eg hf)
  clear hc hf
  generalize hR : (List.range N).any p = R
  have HR := Lib.hid hR
  clear hR
  go_enter Tryz.func69, Tryz.ntmps69
  go_wp2_with (go_at_call 102; (with_reducible refine HI.out.mono ?_); rintro r w2 ⟨⟨z, rfl, hz⟩, e2⟩)
  go_ret
  exact ⟨by rw [← HR.out, ← hz.any]; rfl, e2⟩

set_option maxHeartbeats 4000000 in
set_option maxRecDepth 100000 in
theorem ixSp_any {w : World} {A : Option Addr} {N cap : Nat} (hN : N ≤ 4000000) (cs : Nat → List Value) (p : Nat → Bool) (hc : CellsAt w A N 6 cs) (f : Nat) (lb : Array Value) (eg : ∀ args w, (callFunc f args).run Tryz.prog w = .ok (.enter f args) w)
    (hf : ∀ k, k < N → ∀ W, Below w.heap.size w W → Calls Tryz.prog f (#[.agg (cs k).toArray] ++ lb) W (Got (.bool (p k)) W)) :
    Calls Tryz.prog 54 #[.slice A N cap, .func (.func f) #[] lb] w fun r w' => (∃ z : Int, r = .returned (.int .i64 z) ∧ IxR p N z) ∧ Below w.heap.size w w' := by
  have HC := Lib.hid hc
  have HF := Lib.hid hf
  clear hc hf
  go_enter Tryz.func54, Tryz.ntmps54
  go_wp2_with fail
  go_loopw [8] (fun v8 wr => ∃ k : Nat, k ≤ N ∧ v8 = .int .i64 (k : Int) ∧ RowKit.Hid (Below w.heap.size w wr) ∧ RowKit.Hid (∀ j, j < k → p j = false)) (fun v8 _ => N - (intOf v8).toNat)
  case atStart => exact ⟨0, Nat.zero_le _, rfl, Lib.hid (Below.refl _ _), Lib.hid (fun j hj => absurd hj (Nat.not_lt_zero j))⟩
  case round =>
    obtain ⟨k, hk, rfl, hb, hno⟩ := hrel
    by_cases hlt : k < N
    · obtain ⟨hlen, q, o, rfl, hcell⟩ := HC.out k hlt
      have hcall := HF.out k hlt wr hb.out
      generalize hcs : cs k = L at hlen hcell hcall
      clear hcs
      obtain ⟨c0, c1, c2, c3, c4, c5, hL⟩ : ∃ c0 c1 c2 c3 c4 c5, L = [c0, c1, c2, c3, c4, c5] := by
        match L, hlen with
        | [c0, c1, c2, c3, c4, c5], _ => exact ⟨c0, c1, c2, c3, c4, c5, rfl⟩
      subst hL
      have d0 := (hb.out.cell (World.block_lt_of_cell? w _ (hcell 0 _ rfl))).trans (hcell 0 _ rfl)
      have d1 := (hb.out.cell (World.block_lt_of_cell? w _ (hcell 1 _ rfl))).trans (hcell 1 _ rfl)
      have d2 := (hb.out.cell (World.block_lt_of_cell? w _ (hcell 2 _ rfl))).trans (hcell 2 _ rfl)
      have d3 := (hb.out.cell (World.block_lt_of_cell? w _ (hcell 3 _ rfl))).trans (hcell 3 _ rfl)
      have d4 := (hb.out.cell (World.block_lt_of_cell? w _ (hcell 4 _ rfl))).trans (hcell 4 _ rfl)
      have d5 := (hb.out.cell (World.block_lt_of_cell? w _ (hcell 5 _ rfl))).trans (hcell 5 _ rfl)
      rw [Nat.add_zero] at d0
      have HCall := Lib.hid hcall
      clear hcall hcell hlen
      cases hp : p k with
      | true =>
        rw [hp] at HCall
        have HP := Lib.hid hp
        clear hp
        go_wp2_with (go_at_fn f; (with_reducible refine HCall.out.mono ?_); rintro r w2 ⟨rfl, e2⟩)
        go_ret
        exact ⟨⟨_, rfl, .inl ⟨k, hlt, rfl, HP.out, hno.out⟩⟩, after hb.out e2⟩
      | false =>
        rw [hp] at HCall
        have HP := Lib.hid hp
        clear hp
        go_wp2_with (go_at_fn f; (with_reducible refine HCall.out.mono ?_); rintro r w2 ⟨rfl, e2⟩)
        go_roundw
        case rel =>
          refine ⟨k + 1, by omega, by go_num, Lib.hid (after hb.out e2), Lib.hid (fun j hj => ?_)⟩
          by_cases e : j = k
          · rw [e]; exact HP.out
          · exact hno.out j (by omega)
        case measure => simp [intOf]; omega
    · obtain rfl : k = N := by omega
      go_wp2_with fail
      go_ret
      exact ⟨⟨_, rfl, .inr ⟨rfl, hno.out⟩⟩, hb.out⟩

set_option maxHeartbeats 4000000 in
set_option maxRecDepth 100000 in
theorem coSp_any {w : World} {A : Option Addr} {N cap : Nat} (hN : N ≤ 4000000) (cs : Nat → List Value) (p : Nat → Bool) (hc : CellsAt w A N 6 cs) (f : Nat) (lb : Array Value) (eg : ∀ args w, (callFunc f args).run Tryz.prog w = .ok (.enter f args) w)
    (hf : ∀ k, k < N → ∀ W, Below w.heap.size w W → Calls Tryz.prog f (#[.agg (cs k).toArray] ++ lb) W (Got (.bool (p k)) W)) :
    Calls Tryz.prog 22 #[.slice A N cap, .func (.func f) #[] lb] w (Got (.bool ((List.range N).any p)) w) := by
  have HI := Lib.hid (ixSp_any (cap := cap) hN cs p hc f lb eg hf)
  clear hc hf
  generalize hR : (List.range N).any p = R
  have HR := Lib.hid hR
  clear hR
  go_enter Tryz.func22, Tryz.ntmps22
  go_wp2_with (go_at_call 54; (with_reducible refine HI.out.mono ?_); rintro r w2 ⟨⟨z, rfl, hz⟩, e2⟩)
  go_ret
  exact ⟨by rw [← HR.out, ← hz.any]; rfl, e2⟩

set_option maxHeartbeats 4000000 in
set_option maxRecDepth 100000 in
theorem ixPo_any {w : World} {A : Option Addr} {N cap : Nat} (hN : N ≤ 4000000) (cs : Nat → List Value) (p : Nat → Bool) (hc : CellsAt w A N 2 cs) (f : Nat) (lb : Array Value) (eg : ∀ args w, (callFunc f args).run Tryz.prog w = .ok (.enter f args) w)
    (hf : ∀ k, k < N → ∀ W, Below w.heap.size w W → Calls Tryz.prog f (#[.agg (cs k).toArray] ++ lb) W (Got (.bool (p k)) W)) :
    Calls Tryz.prog 91 #[.slice A N cap, .func (.func f) #[] lb] w fun r w' => (∃ z : Int, r = .returned (.int .i64 z) ∧ IxR p N z) ∧ Below w.heap.size w w' := by
  have HC := Lib.hid hc
  have HF := Lib.hid hf
  clear hc hf
  go_enter Tryz.func91, Tryz.ntmps91
  go_wp2_with fail
  go_loopw [8] (fun v8 wr => ∃ k : Nat, k ≤ N ∧ v8 = .int .i64 (k : Int) ∧ RowKit.Hid (Below w.heap.size w wr) ∧ RowKit.Hid (∀ j, j < k → p j = false)) (fun v8 _ => N - (intOf v8).toNat)
  case atStart => exact ⟨0, Nat.zero_le _, rfl, Lib.hid (Below.refl _ _), Lib.hid (fun j hj => absurd hj (Nat.not_lt_zero j))⟩
  case round =>
    obtain ⟨k, hk, rfl, hb, hno⟩ := hrel
    by_cases hlt : k < N
    · obtain ⟨hlen, q, o, rfl, hcell⟩ := HC.out k hlt
      have hcall := HF.out k hlt wr hb.out
      generalize hcs : cs k = L at hlen hcell hcall
      clear hcs
      obtain ⟨c0, c1, hL⟩ : ∃ c0 c1, L = [c0, c1] := by
        match L, hlen with
        | [c0, c1], _ => exact ⟨c0, c1, rfl⟩
      subst hL
      have d0 := (hb.out.cell (World.block_lt_of_cell? w _ (hcell 0 _ rfl))).trans (hcell 0 _ rfl)
      have d1 := (hb.out.cell (World.block_lt_of_cell? w _ (hcell 1 _ rfl))).trans (hcell 1 _ rfl)
      rw [Nat.add_zero] at d0
      have HCall := Lib.hid hcall
      clear hcall hcell hlen
      cases hp : p k with
      | true =>
        rw [hp] at HCall
        have HP := Lib.hid hp
        clear hp
        go_wp2_with (go_at_fn f; (with_reducible refine HCall.out.mono ?_); rintro r w2 ⟨rfl, e2⟩)
        go_ret
        exact ⟨⟨_, rfl, .inl ⟨k, hlt, rfl, HP.out, hno.out⟩⟩, after hb.out e2⟩
      | false =>
        rw [hp] at HCall
        have HP := Lib.hid hp
        clear hp
        go_wp2_with (go_at_fn f; (with_reducible refine HCall.out.mono ?_); rintro r w2 ⟨rfl, e2⟩)
        go_roundw
        case rel =>
          refine ⟨k + 1, by omega, by go_num, Lib.hid (after hb.out e2), Lib.hid (fun j hj => ?_)⟩
          by_cases e : j = k
          · rw [e]; exact HP.out
          · exact hno.out j (by omega)
        case measure => simp [intOf]; omega
    · obtain rfl : k = N := by omega
      go_wp2_with fail
      go_ret
      exact ⟨⟨_, rfl, .inr ⟨rfl, hno.out⟩⟩, hb.out⟩

set_option maxHeartbeats 4000000 in
set_option maxRecDepth 100000 in
theorem coPo_any {w : World} {A : Option Addr} {N cap : Nat} (hN : N ≤ 4000000) (cs : Nat → List Value) (p : Nat → Bool) (hc : CellsAt w A N 2 cs) (f : Nat) (lb : Array Value) (eg : ∀ args w, (callFunc f args).run Tryz.prog w = .ok (.enter f args) w)
    (hf : ∀ k, k < N → ∀ W, Below w.heap.size w W → Calls Tryz.prog f (#[.agg (cs k).toArray] ++ lb) W (Got (.bool (p k)) W)) :
    Calls Tryz.prog 56 #[.slice A N cap, .func (.func f) #[] lb] w (Got (.bool ((List.range N).any p)) w) := by
  have HI := Lib.hid (ixPo_any (cap := cap) hN cs p hc f lb eg hf)
  clear hc hf
  generalize hR : (List.range N).any p = R
  have HR := Lib.hid hR
  clear hR
  go_enter Tryz.func56, Tryz.ntmps56
  go_wp2_with (go_at_call 91; (with_reducible refine HI.out.mono ?_); rintro r w2 ⟨⟨z, rfl, hz⟩, e2⟩)
  go_ret
  exact ⟨by rw [← HR.out, ← hz.any]; rfl, e2⟩

set_option maxHeartbeats 4000000 in
set_option maxRecDepth 100000 in
theorem ixRu_any {w : World} {A : Option Addr} {N cap : Nat} (hN : N ≤ 4000000) (cs : Nat → List Value) (p : Nat → Bool) (hc : CellsAt w A N 4 cs) (f : Nat) (lb : Array Value) (eg : ∀ args w, (callFunc f args).run Tryz.prog w = .ok (.enter f args) w)
    (hf : ∀ k, k < N → ∀ W, Below w.heap.size w W → Calls Tryz.prog f (#[.agg (cs k).toArray] ++ lb) W (Got (.bool (p k)) W)) :
    Calls Tryz.prog 26 #[.slice A N cap, .func (.func f) #[] lb] w fun r w' => (∃ z : Int, r = .returned (.int .i64 z) ∧ IxR p N z) ∧ Below w.heap.size w w' := by
  have HC := Lib.hid hc
  have HF := Lib.hid hf
  clear hc hf
  go_enter Tryz.func26, Tryz.ntmps26
  go_wp2_with fail
  go_loopw [8] (fun v8 wr => ∃ k : Nat, k ≤ N ∧ v8 = .int .i64 (k : Int) ∧ RowKit.Hid (Below w.heap.size w wr) ∧ RowKit.Hid (∀ j, j < k → p j = false)) (fun v8 _ => N - (intOf v8).toNat)
  case atStart => exact ⟨0, Nat.zero_le _, rfl, Lib.hid (Below.refl _ _), Lib.hid (fun j hj => absurd hj (Nat.not_lt_zero j))⟩
  case round =>
    obtain ⟨k, hk, rfl, hb, hno⟩ := hrel
    by_cases hlt : k < N
    · obtain ⟨hlen, q, o, rfl, hcell⟩ := HC.out k hlt
      have hcall := HF.out k hlt wr hb.out
      generalize hcs : cs k = L at hlen hcell hcall
      clear hcs
      obtain ⟨c0, c1, c2, c3, hL⟩ : ∃ c0 c1 c2 c3, L = [c0, c1, c2, c3] := by
        match L, hlen with
        | [c0, c1, c2, c3], _ => exact ⟨c0, c1, c2, c3, rfl⟩
      subst hL
      have d0 := (hb.out.cell (World.block_lt_of_cell? w _ (hcell 0 _ rfl))).trans (hcell 0 _ rfl)
      have d1 := (hb.out.cell (World.block_lt_of_cell? w _ (hcell 1 _ rfl))).trans (hcell 1 _ rfl)
      have d2 := (hb.out.cell (World.block_lt_of_cell? w _ (hcell 2 _ rfl))).trans (hcell 2 _ rfl)
      have d3 := (hb.out.cell (World.block_lt_of_cell? w _ (hcell 3 _ rfl))).trans (hcell 3 _ rfl)
      rw [Nat.add_zero] at d0
      have HCall := Lib.hid hcall
      clear hcall hcell hlen
      cases hp : p k with
      | true =>
        rw [hp] at HCall
        have HP := Lib.hid hp
        clear hp
        go_wp2_with (go_at_fn f; (with_reducible refine HCall.out.mono ?_); rintro r w2 ⟨rfl, e2⟩)
        go_ret
        exact ⟨⟨_, rfl, .inl ⟨k, hlt, rfl, HP.out, hno.out⟩⟩, after hb.out e2⟩
      | false =>
        rw [hp] at HCall
        have HP := Lib.hid hp
        clear hp
        go_wp2_with (go_at_fn f; (with_reducible refine HCall.out.mono ?_); rintro r w2 ⟨rfl, e2⟩)
        go_roundw
        case rel =>
          refine ⟨k + 1, by omega, by go_num, Lib.hid (after hb.out e2), Lib.hid (fun j hj => ?_)⟩
          by_cases e : j = k
          · rw [e]; exact HP.out
          · exact hno.out j (by omega)
        case measure => simp [intOf]; omega
    · obtain rfl : k = N := by omega
      go_wp2_with fail
      go_ret
      exact ⟨⟨_, rfl, .inr ⟨rfl, hno.out⟩⟩, hb.out⟩
end Go.Proofs.YthglckoikjfjkaaGreatDoor

/- slices.Index, slices.Contains of rows of bytes and of strings: the walks. (printed by cnf.py) -/
namespace Go.Proofs.YthglckoikjfjkaaGreatDoor
open Go.RowKit
attribute [local go_sem ↓] Go.wp_at_zero Go.wp_at_succ

theorem eqU (x y : Nat) : ((x : Int) == (y : Int)) = decide (y = x) := by
  rw [Bool.eq_iff_iff, beq_iff_eq, decide_eq_true_eq]
  omega
theorem eqS (x y : ByteArray) : (x.toList == y.toList) = decide (y = x) := by
  rw [Bool.eq_iff_iff, beq_iff_eq, decide_eq_true_eq]
  constructor
  · intro h; exact (tl_inj h).symm
  · rintro rfl; rfl

set_option maxHeartbeats 4000000 in
set_option maxRecDepth 100000 in
theorem ixqU_any {w : World} (l : List Nat) {v : Value} (hl : l.length ≤ 4000000) (hr : RowR w v l.length 1 (protoCells l)) (x : Nat) :
    Calls Tryz.prog 72 #[v, (Value.int .u8 (x : Int))] w fun r w' => (∃ z : Int, r = .returned (.int .i64 z) ∧ decide (0 ≤ z) = l.any fun y => decide (y = x)) ∧ Below w.heap.size w w' := by
  obtain ⟨A, cap, rfl, hlen, hA⟩ := hr
  obtain ⟨N, hN⟩ : ∃ n, n = l.length := ⟨_, rfl⟩
  obtain ⟨R, hR⟩ : ∃ r, r = l.any fun y => decide (y = x) := ⟨_, rfl⟩
  rw [← hN] at hA hl ⊢
  rw [← hR]
  have HA := Lib.hid hA
  have HN := Lib.hid hN
  have HR := Lib.hid hR
  clear hA hN hlen hR
  go_enter Tryz.func72, Tryz.ntmps72
  go_wp2_with fail
  go_loopw [8] (fun v8 wr => ∃ k : Nat, k ≤ N ∧ v8 = .int .i64 (k : Int) ∧ RowKit.Hid (Below w.heap.size w wr) ∧ RowKit.Hid (((l.take k).any fun y => decide (y = x)) = false)) (fun v8 _ => N - (intOf v8).toNat)
  case atStart => exact ⟨0, Nat.zero_le _, rfl, Lib.hid (Below.refl _ _), Lib.hid rfl⟩
  case round =>
    obtain ⟨k, hk, rfl, hb, hno⟩ := hrel
    by_cases hlt : k < N
    · have hkl : k < l.length := by have := HN.out; omega
      obtain ⟨q, o, rfl, hc⟩ := HA.out (by omega)
      have htk := List.take_succ_eq_append_getElem hkl
      have hx : l[k]? = some l[k] := List.getElem?_eq_getElem hkl
      have c0 := hc _ _ (protoCells_at hx)
      generalize l[k] = X at htk c0
      have d0 := (hb.out.cell (World.block_lt_of_cell? w _ c0)).trans c0
      have hq : ((x : Int) == (X : Int)) = decide (X = x) := eqU x X
      clear c0 hx hc
      cases hD : decide (X = x) with
      | true =>
        rw [hD] at hq
        have hres : R = true := by
          rw [HR.out]
          have : (l.take (k + 1)).any (fun y => decide (y = x)) = true := by rw [htk, List.any_append]; simp [hD]
          obtain ⟨y, hy, hys⟩ := List.any_eq_true.1 this
          exact List.any_eq_true.2 ⟨y, List.mem_of_mem_take hy, hys⟩
        have Hres := Lib.hid hres
        clear hres htk hD
        go_wp2_with fail
        go_ret
        exact ⟨⟨_, rfl, by rw [Hres.out]; exact decide_eq_true (by omega)⟩, hb.out⟩
      | false =>
        rw [hD] at hq
        have Hno2 : RowKit.Hid (((l.take (k + 1)).any fun y => decide (y = x)) = false) := Lib.hid (by rw [htk, List.any_append, hno.out]; simp [hD])
        clear htk hD
        go_wp2_with fail
        go_roundw
        case rel => exact ⟨k + 1, by omega, by go_num, hb, Hno2⟩
        case measure => simp [intOf]; omega
    · obtain rfl : k = N := by omega
      have hres : R = false := by
        have := hno.out
        rw [List.take_of_length_le (by have := HN.out; omega)] at this
        rw [HR.out]
        exact this
      have Hres := Lib.hid hres
      clear hres
      go_wp2_with fail
      go_ret
      exact ⟨⟨_, rfl, by rw [Hres.out]; rfl⟩, hb.out⟩
set_option maxHeartbeats 4000000 in
set_option maxRecDepth 100000 in
theorem cnU_any {w : World} (l : List Nat) {v : Value} (hl : l.length ≤ 4000000) (hr : RowR w v l.length 1 (protoCells l)) (x : Nat) :
    Calls Tryz.prog 36 #[v, (Value.int .u8 (x : Int))] w (Got (.bool (l.any fun y => decide (y = x))) w) := by
  have HI := Lib.hid (ixqU_any l hl hr x)
  obtain ⟨A, cap, rfl, _, _⟩ := hr
  generalize (l.any fun y => decide (y = x)) = R at HI ⊢
  generalize l.length = N at HI ⊢
  go_enter Tryz.func36, Tryz.ntmps36
  go_wp2_with (go_at_call 72; (with_reducible refine HI.out.mono ?_); rintro r w2 ⟨⟨z, rfl, hz⟩, e2⟩)
  go_ret
  exact ⟨by rw [← hz]; rfl, e2⟩

set_option maxHeartbeats 4000000 in
set_option maxRecDepth 100000 in
theorem ixqS_any {w : World} (l : List ByteArray) {v : Value} (hl : l.length ≤ 4000000) (hr : RowR w v l.length 1 (strCells l)) (x : ByteArray) :
    Calls Tryz.prog 104 #[v, (Value.string x)] w fun r w' => (∃ z : Int, r = .returned (.int .i64 z) ∧ decide (0 ≤ z) = l.any fun y => decide (y = x)) ∧ Below w.heap.size w w' := by
  obtain ⟨A, cap, rfl, hlen, hA⟩ := hr
  obtain ⟨N, hN⟩ : ∃ n, n = l.length := ⟨_, rfl⟩
  obtain ⟨R, hR⟩ : ∃ r, r = l.any fun y => decide (y = x) := ⟨_, rfl⟩
  rw [← hN] at hA hl ⊢
  rw [← hR]
  have HA := Lib.hid hA
  have HN := Lib.hid hN
  have HR := Lib.hid hR
  clear hA hN hlen hR
  go_enter Tryz.func104, Tryz.ntmps104
  go_wp2_with fail
  go_loopw [8] (fun v8 wr => ∃ k : Nat, k ≤ N ∧ v8 = .int .i64 (k : Int) ∧ RowKit.Hid (Below w.heap.size w wr) ∧ RowKit.Hid (((l.take k).any fun y => decide (y = x)) = false)) (fun v8 _ => N - (intOf v8).toNat)
  case atStart => exact ⟨0, Nat.zero_le _, rfl, Lib.hid (Below.refl _ _), Lib.hid rfl⟩
  case round =>
    obtain ⟨k, hk, rfl, hb, hno⟩ := hrel
    by_cases hlt : k < N
    · have hkl : k < l.length := by have := HN.out; omega
      obtain ⟨q, o, rfl, hc⟩ := HA.out (by omega)
      have htk := List.take_succ_eq_append_getElem hkl
      have hx : l[k]? = some l[k] := List.getElem?_eq_getElem hkl
      have c0 := hc _ _ (strCells_at hx)
      generalize l[k] = X at htk c0
      have d0 := (hb.out.cell (World.block_lt_of_cell? w _ c0)).trans c0
      have hq : (x.toList == X.toList) = decide (X = x) := eqS x X
      clear c0 hx hc
      cases hD : decide (X = x) with
      | true =>
        rw [hD] at hq
        have hres : R = true := by
          rw [HR.out]
          have : (l.take (k + 1)).any (fun y => decide (y = x)) = true := by rw [htk, List.any_append]; simp [hD]
          obtain ⟨y, hy, hys⟩ := List.any_eq_true.1 this
          exact List.any_eq_true.2 ⟨y, List.mem_of_mem_take hy, hys⟩
        have Hres := Lib.hid hres
        clear hres htk hD
        go_wp2_with fail
        go_ret
        exact ⟨⟨_, rfl, by rw [Hres.out]; exact decide_eq_true (by omega)⟩, hb.out⟩
      | false =>
        rw [hD] at hq
        have Hno2 : RowKit.Hid (((l.take (k + 1)).any fun y => decide (y = x)) = false) := Lib.hid (by rw [htk, List.any_append, hno.out]; simp [hD])
        clear htk hD
        go_wp2_with fail
        go_roundw
        case rel => exact ⟨k + 1, by omega, by go_num, hb, Hno2⟩
        case measure => simp [intOf]; omega
    · obtain rfl : k = N := by omega
      have hres : R = false := by
        have := hno.out
        rw [List.take_of_length_le (by have := HN.out; omega)] at this
        rw [HR.out]
        exact this
      have Hres := Lib.hid hres
      clear hres
      go_wp2_with fail
      go_ret
      exact ⟨⟨_, rfl, by rw [Hres.out]; rfl⟩, hb.out⟩
set_option maxHeartbeats 4000000 in
set_option maxRecDepth 100000 in
theorem cnS_any {w : World} (l : List ByteArray) {v : Value} (hl : l.length ≤ 4000000) (hr : RowR w v l.length 1 (strCells l)) (x : ByteArray) :
    Calls Tryz.prog 77 #[v, (Value.string x)] w (Got (.bool (l.any fun y => decide (y = x))) w) := by
  have HI := Lib.hid (ixqS_any l hl hr x)
  obtain ⟨A, cap, rfl, _, _⟩ := hr
  generalize (l.any fun y => decide (y = x)) = R at HI ⊢
  generalize l.length = N at HI ⊢
  go_enter Tryz.func77, Tryz.ntmps77
  go_wp2_with (go_at_call 104; (with_reducible refine HI.out.mono ?_); rintro r w2 ⟨⟨z, rfl, hz⟩, e2⟩)
  go_ret
  exact ⟨by rw [← hz]; rfl, e2⟩
end Go.Proofs.YthglckoikjfjkaaGreatDoor

/- Rules: what a policy permits, and what is made ready of it: the plain law. -/
namespace Go.Proofs.YthglckoikjfjkaaGreatDoor

/- A node as the law reads it; a flow. -/
structure Pe where
  user : ByteArray
  tags : List ByteArray
  addrs : List Ad
structure Fw where
  proto : Nat
  src : Ad
  dst : Ad
  sent : Nat
  dport : Nat
def findG (p : Po) (s : ByteArray) : Option Nm := p.groups.find? fun n => decide (n.name = s)
def findH (p : Po) (s : ByteArray) : Option Hs := p.hosts.find? fun h => decide (h.name = s)
def picksP (p : Po) (s : Sel) (x : Pe) : Bool :=
  if s.kind = 2 then decide (x.user = s.name)
  else if s.kind = 4 then x.tags.any fun t => decide (t = s.name)
  else if s.kind = 3 then match findG p s.name with
    | some n => n.list.any fun t => decide (t = x.user)
    | none => false
  else false
def hasP (p : Po) (l : List Pe) (s : Sel) (a : Ad) : Bool :=
  a.may && (if s.kind = 1 then true
  else if s.kind = 5 then match findH p s.name with
    | some h => holdsP h.net a
    | none => false
  else if s.kind = 6 then holdsP s.net a
  else l.any fun x => picksP p s x && x.addrs.any fun b => decide (b = a))
def someP (p : Po) (l : List Pe) (ss : List Sel) (a : Ad) : Bool := ss.any fun s => hasP p l s a
def protosR (l : List Nat) : List Nat := if 1 ∈ l then l ++ [58] else l
def counts (f : Fw) : Bool := decide (f.proto = 6) || decide (f.proto = 17)
def inPort (f : Fw) (o : Nat × Nat) : Bool := counts f && decide (o.1 ≤ f.dport) && decide (f.dport ≤ o.2)
def byP (ps : List Nat) (os : List (Nat × Nat)) (f : Fw) : Bool := (ps.isEmpty || ps.any fun x => decide (x = f.proto)) && (os.isEmpty || os.any (inPort f))
def okP (p : Po) : Bool := mayP p && decide ((textP p).length ≤ 8192)
def acP' (p : Po) (l : List Pe) (f : Fw) (a : Ac) : Bool := byP (protosR a.protos) a.ports f && (someP p l a.src f.src && someP p l a.dst f.dst)
def permitsP (p : Po) (l : List Pe) (f : Fw) : Bool := okP p && p.acls.any (acP' p l f)

/- The order of nodes is nothing. -/
theorem any_mem {α : Type} {l m : List α} (h : ∀ x, x ∈ l ↔ x ∈ m) (q : α → Bool) : l.any q = m.any q := by
  rw [Bool.eq_iff_iff]
  simp only [List.any_eq_true]
  constructor
  · rintro ⟨x, hx, e⟩; exact ⟨x, (h x).1 hx, e⟩
  · rintro ⟨x, hx, e⟩; exact ⟨x, (h x).2 hx, e⟩
/- Addresses as numbers in their order. -/
def Ad.key (a : Ad) : Nat := (if a.v6 then 2 ^ 128 else 0) + (a.hi * 2 ^ 64 + a.lo)
theorem less_key {a b : Ad} (oa : a.Ok) (ob : b.Ok) : lessA a b = decide (a.key < b.key) := by
  have h1 := oa.hi
  have h2 := oa.lo
  have h3 := ob.hi
  have h4 := ob.lo
  obtain ⟨v, x, l⟩ := a
  obtain ⟨v', x', l'⟩ := b
  unfold lessA Ad.key
  simp only at h1 h2 h3 h4 ⊢
  rw [Bool.eq_iff_iff]
  cases v <;> cases v' <;> simp
  · by_cases hx : x = x'
    · subst hx; simp
    · simp only [if_neg hx, decide_eq_true_eq]; omega
  · omega
  · omega
  · by_cases hx : x = x'
    · subst hx; simp
    · simp only [if_neg hx, decide_eq_true_eq]; omega
theorem key_inj {a b : Ad} (oa : a.Ok) (ob : b.Ok) (h : a.key = b.key) : a = b := by
  have h1 := oa.hi
  have h2 := oa.lo
  have h3 := ob.hi
  have h4 := ob.lo
  obtain ⟨v, x, l⟩ := a
  obtain ⟨v', x', l'⟩ := b
  unfold Ad.key at h
  simp only at h1 h2 h3 h4 h
  cases v <;> cases v' <;> simp at h ⊢ <;> omega
abbrev Sp := Ad × Ad
def Sp.Ok (s : Sp) : Prop := s.1.Ok ∧ s.2.Ok
def maySp (s : Sp) : Bool := s.1.may && s.2.may && (s.1.v6 == s.2.v6) && !lessA s.2 s.1
def inSp (a : Ad) (s : Sp) : Bool := maySp s && (s.1.v6 == a.v6) && !lessA a s.1 && !lessA s.2 a
def inP (L : List Sp) (a : Ad) : Bool := a.may && L.any (inSp a)
/- The address behind one; ranges that lie over or next to one another as one. -/
def behindA (a : Ad) : Ad := if (!a.v6 && decide (a.lo < 4294967295)) || (a.v6 && decide (a.lo ≠ 18446744073709551615)) then ⟨a.v6, a.hi, a.lo + 1⟩ else if a.v6 && decide (a.hi ≠ 18446744073709551615) then ⟨a.v6, a.hi + 1, 0⟩ else a
theorem behind_ok {a : Ad} (oa : a.Ok) : (behindA a).Ok := by
  have h1 := oa.hi
  have h2 := oa.lo
  unfold behindA
  split
  · next h =>
    refine ⟨h1, ?_⟩
    cases hv : a.v6 <;> simp [hv] at h <;> show a.lo + 1 < _ <;> omega
  · split
    · next h =>
      simp at h
      exact ⟨by show a.hi + 1 < _; omega, by show 0 < _; omega⟩
    · exact oa
theorem behind_key {a : Ad} (oa : a.Ok) : a.key ≤ (behindA a).key ∧ (behindA a).key ≤ a.key + 1 := by
  have h1 := oa.hi
  have h2 := oa.lo
  unfold behindA
  split
  · unfold Ad.key; simp only; omega
  · next hn =>
    split
    · next h =>
      have hv : a.v6 = true := by cases hv : a.v6 <;> simp [hv] at h ⊢
      simp [hv] at hn h
      unfold Ad.key
      simp only [hv, if_true]
      omega
    · omega
def touchS (a b : Sp) : Bool := (a.1.v6 == b.1.v6) && !lessA (behindA a.2) b.1
def joinS (a b : Sp) : Sp := if lessA a.2 b.2 then (a.1, b.2) else a
def touchO (a b : Nat × Nat) : Bool := decide (b.1 ≤ a.2 + 1)
def joinO (a b : Nat × Nat) : Nat × Nat := (a.1, max a.2 b.2)
def mergeStep {α : Type} (touch : α → α → Bool) (join : α → α → α) (out : List α) (x : α) : List α :=
  match out.getLast? with
  | some y => if touch y x then out.dropLast ++ [join y x] else out ++ [x]
  | none => out ++ [x]
def mergeL {α : Type} (touch : α → α → Bool) (join : α → α → α) (l : List α) : List α := l.foldl (mergeStep touch join) []

/-- What is merged holds what was there: for any test that a join keeps. -/
theorem merge_any {α : Type} (touch : α → α → Bool) (join : α → α → α) (le : α → α → Prop) (ok : α → Prop) (q : α → Bool)
    (hj : ∀ a b, ok a → ok b → le a b → touch a b = true → ok (join a b) ∧ q (join a b) = (q a || q b) ∧ (∀ c, le b c → le (join a b) c)) :
    ∀ (l out : List α), (∀ x ∈ l, ok x) → (∀ x ∈ out, ok x) → l.Pairwise le → (∀ y, out.getLast? = some y → ∀ x ∈ l, le y x) →
    (∀ x ∈ l.foldl (mergeStep touch join) out, ok x) ∧ (l.foldl (mergeStep touch join) out).any q = (out.any q || l.any q) ∧ (l.foldl (mergeStep touch join) out = [] ↔ out = [] ∧ l = []) := by
  intro l
  induction l with
  | nil => intro out _ ho _ _; exact ⟨ho, by simp, by simp⟩
  | cons x r ih =>
    intro out hl ho hp hy
    have hx := hl x (List.mem_cons_self ..)
    have hr := fun z hz => hl z (List.mem_cons_of_mem x hz)
    obtain ⟨hxr, hpr⟩ := List.pairwise_cons.1 hp
    have plain : (mergeStep touch join out x = out ++ [x]) → (∀ z ∈ mergeStep touch join out x, ok z) ∧ ((mergeStep touch join out x).any q = (out.any q || q x)) ∧ (∀ y, (mergeStep touch join out x).getLast? = some y → ∀ z ∈ r, le y z) ∧ mergeStep touch join out x ≠ [] := by
      intro e
      rw [e]
      refine ⟨fun z hz => ?_, by simp, fun y hy' z hz => ?_, by simp⟩
      · rcases List.mem_append.1 hz with hz | hz
        · exact ho z hz
        · rw [List.mem_singleton.1 hz]; exact hx
      · rw [List.getLast?_append] at hy'
        simp at hy'
        subst hy'
        exact hxr z hz
    have key : (∀ z ∈ mergeStep touch join out x, ok z) ∧ ((mergeStep touch join out x).any q = (out.any q || q x)) ∧ (∀ y, (mergeStep touch join out x).getLast? = some y → ∀ z ∈ r, le y z) ∧ mergeStep touch join out x ≠ [] := by
      cases hg : out.getLast? with
      | none => exact plain (by unfold mergeStep; rw [hg])
      | some y =>
        cases ht : touch y x with
        | false => exact plain (by unfold mergeStep; rw [hg]; simp [ht])
        | true =>
          have hym : y ∈ out := List.mem_of_getLast? hg
          have e : out = out.dropLast ++ [y] := by
            have hne : out ≠ [] := by intro h; rw [h] at hg; cases hg
            have := List.dropLast_concat_getLast hne
            rw [List.getLast?_eq_some_getLast hne] at hg
            injection hg with hg
            rw [hg] at this
            exact this.symm
          obtain ⟨j1, j2, j3⟩ := hj y x (ho y hym) hx (hy y hg x (List.mem_cons_self ..)) ht
          have em : mergeStep touch join out x = out.dropLast ++ [join y x] := by unfold mergeStep; rw [hg]; simp [ht]
          rw [em]
          refine ⟨fun z hz => ?_, ?_, fun y' hy' z hz => ?_, by simp⟩
          · rcases List.mem_append.1 hz with hz | hz
            · exact ho z (List.dropLast_subset _ hz)
            · rw [List.mem_singleton.1 hz]; exact j1
          · rw [List.any_append, List.any_cons, List.any_nil, Bool.or_false, j2]
            conv => rhs; rw [e]
            rw [List.any_append, List.any_cons, List.any_nil, Bool.or_false, Bool.or_assoc]
          · rw [List.getLast?_append] at hy'
            simp at hy'
            subst hy'
            exact j3 z (hxr z hz)
    obtain ⟨k1, k2, k3, k4⟩ := key
    obtain ⟨i1, i2, i3⟩ := ih _ hr k1 hpr k3
    rw [List.foldl_cons]
    refine ⟨i1, ?_, ?_⟩
    · rw [i2, k2, List.any_cons, Bool.or_assoc]
    · rw [i3]
      constructor
      · rintro ⟨h, _⟩; exact absurd h k4
      · rintro ⟨_, h⟩; cases h
theorem inPort_join (f : Fw) {a b : Nat × Nat} (h : a.1 ≤ b.1) (ht : touchO a b = true) : inPort f (joinO a b) = (inPort f a || inPort f b) := by
  unfold touchO at ht
  simp only [decide_eq_true_eq] at ht
  unfold inPort joinO
  cases counts f with
  | false => simp
  | true =>
    simp only [Bool.true_and]
    rw [Bool.eq_iff_iff]
    simp only [Bool.and_eq_true, Bool.or_eq_true, decide_eq_true_eq]
    omega
theorem merge_ports (f : Fw) {l : List (Nat × Nat)} (hs : l.Pairwise fun a b => a.1 ≤ b.1) : (mergeL touchO joinO l).any (inPort f) = l.any (inPort f) ∧ (mergeL touchO joinO l = [] ↔ l = []) := by
  obtain ⟨_, h2, h3⟩ := merge_any touchO joinO (fun a b => a.1 ≤ b.1) (fun _ => True) (inPort f) (fun a b _ _ hle ht => ⟨trivial, inPort_join f hle ht, fun c hc => by
    have : a.1 ≤ b.1 := hle
    have : b.1 ≤ c.1 := hc
    show a.1 ≤ c.1
    omega⟩) l [] (fun _ _ => trivial) (fun _ h => by cases h) hs (fun _ h => by cases h)
  exact ⟨by unfold mergeL; rw [h2]; simp, by unfold mergeL; rw [h3]; simp⟩
end Go.Proofs.YthglckoikjfjkaaGreatDoor

/- Rules: ranges of addresses in their normal form; what was made ready says what the policy says: the plain law. -/
namespace Go.Proofs.YthglckoikjfjkaaGreatDoor

theorem maySp_iff {s : Sp} (ok : s.Ok) : maySp s = true ↔ s.1.may = true ∧ s.2.may = true ∧ s.1.v6 = s.2.v6 ∧ s.1.key ≤ s.2.key := by
  unfold maySp
  rw [less_key ok.2 ok.1]
  simp only [Bool.and_eq_true, beq_iff_eq, Bool.not_eq_true', decide_eq_false_iff_not]
  constructor
  · rintro ⟨⟨⟨h1, h2⟩, h3⟩, h4⟩; exact ⟨h1, h2, h3, by omega⟩
  · rintro ⟨h1, h2, h3, h4⟩; exact ⟨⟨⟨h1, h2⟩, h3⟩, by omega⟩
theorem inSp_iff {s : Sp} {a : Ad} (ok : s.Ok) (oa : a.Ok) (hm : maySp s = true) : inSp a s = true ↔ s.1.v6 = a.v6 ∧ s.1.key ≤ a.key ∧ a.key ≤ s.2.key := by
  unfold inSp
  rw [hm, less_key oa ok.1, less_key ok.2 oa]
  simp only [Bool.true_and, Bool.and_eq_true, beq_iff_eq, Bool.not_eq_true', decide_eq_false_iff_not]
  constructor
  · rintro ⟨⟨h1, h2⟩, h3⟩; exact ⟨h1, by omega, by omega⟩
  · rintro ⟨h1, h2, h3⟩; exact ⟨⟨h1, by omega⟩, by omega⟩
theorem join_sp {a b : Sp} {c : Ad} (oc : c.Ok) (oa : a.Ok) (ob : b.Ok) (ma : maySp a = true) (mb : maySp b = true) (hle : a.1.key ≤ b.1.key) (ht : touchS a b = true) :
    (joinS a b).Ok ∧ maySp (joinS a b) = true ∧ inSp c (joinS a b) = (inSp c a || inSp c b) ∧ (joinS a b).1 = a.1 := by
  obtain ⟨a1, a2, a3, a4⟩ := (maySp_iff oa).1 ma
  obtain ⟨b1, b2, b3, b4⟩ := (maySp_iff ob).1 mb
  unfold touchS at ht
  rw [less_key (behind_ok oa.2) ob.1] at ht
  simp only [Bool.and_eq_true, beq_iff_eq, Bool.not_eq_true', decide_eq_false_iff_not] at ht
  obtain ⟨t1, t2⟩ := ht
  have hbk := (behind_key oa.2).2
  unfold joinS
  rw [less_key oa.2 ob.2]
  by_cases h : a.2.key < b.2.key
  · rw [decide_eq_true h]
    simp only [if_true]
    have oj : Sp.Ok (a.1, b.2) := ⟨oa.1, ob.2⟩
    have mj : maySp (a.1, b.2) = true := (maySp_iff oj).2 ⟨a1, b2, by rw [t1, b3], by show a.1.key ≤ b.2.key; omega⟩
    refine ⟨oj, mj, ?_, trivial⟩
    rw [Bool.eq_iff_iff, Bool.or_eq_true, inSp_iff oj oc mj, inSp_iff oa oc ma, inSp_iff ob oc mb]
    show a.1.v6 = c.v6 ∧ a.1.key ≤ c.key ∧ c.key ≤ b.2.key ↔ _
    constructor
    · rintro ⟨h1, h2, h3⟩
      by_cases hc : c.key ≤ a.2.key
      · exact Or.inl ⟨h1, h2, hc⟩
      · exact Or.inr ⟨by rw [← t1, h1], by omega, h3⟩
    · rintro (⟨h1, h2, h3⟩ | ⟨h1, h2, h3⟩)
      · exact ⟨h1, h2, by omega⟩
      · exact ⟨by rw [t1, h1], by omega, h3⟩
  · rw [decide_eq_false h]
    simp only [Bool.false_eq_true, if_false]
    refine ⟨oa, ma, ?_, trivial⟩
    cases hc : inSp c a with
    | true => rfl
    | false =>
      cases hd : inSp c b with
      | false => rfl
      | true =>
        obtain ⟨h1, h2, h3⟩ := (inSp_iff ob oc mb).1 hd
        have := (inSp_iff oa oc ma).2 ⟨by rw [t1, h1], by omega, by omega⟩
        rw [hc] at this
        exact absurd this (by decide)
/-- The normal form holds what was there. -/
theorem norm_in {l S : List Sp} {a : Ad} (oa : a.Ok) (ol : ∀ s ∈ l, s.Ok) (hp : S.Perm (l.filter maySp)) (hs : S.Pairwise fun x y => lessA y.1 x.1 = false) :
    inP (mergeL touchS joinS S) a = inP l a ∧ ∀ s ∈ mergeL touchS joinS S, s.Ok := by
  have hS : ∀ x ∈ S, x.Ok ∧ maySp x = true := fun x hx => by
    have := List.mem_filter.1 (hp.mem_iff.1 hx)
    exact ⟨ol x this.1, this.2⟩
  have hs' : S.Pairwise fun x y => x.1.key ≤ y.1.key := by
    refine List.Pairwise.imp_of_mem (fun {x y} hx hy h => ?_) hs
    rw [less_key (hS y hy).1.1 (hS x hx).1.1, decide_eq_false_iff_not] at h
    omega
  obtain ⟨h1, h2, _⟩ := merge_any touchS joinS (fun x y : Sp => x.1.key ≤ y.1.key) (fun x => x.Ok ∧ maySp x = true) (inSp a) (fun x y ox oy hle ht => by
    obtain ⟨j1, j2, j3, j4⟩ := join_sp oa ox.1 oy.1 ox.2 oy.2 hle ht
    refine ⟨⟨j1, j2⟩, j3, fun c hc => ?_⟩
    have h1 : x.1.key ≤ y.1.key := hle
    have h2 : y.1.key ≤ c.1.key := hc
    show (joinS x y).1.key ≤ c.1.key
    rw [j4]
    omega) S [] hS (fun _ h => by cases h) hs' (fun _ h => by cases h)
  refine ⟨?_, fun s hs => (h1 s hs).1⟩
  unfold inP mergeL
  rw [h2]
  congr 1
  rw [List.any_nil, Bool.false_or, any_mem (fun x => hp.mem_iff), Bool.eq_iff_iff, List.any_eq_true, List.any_eq_true]
  constructor
  · rintro ⟨x, hx, e⟩; exact ⟨x, (List.mem_filter.1 hx).1, e⟩
  · rintro ⟨x, hx, e⟩
    refine ⟨x, List.mem_filter.2 ⟨hx, ?_⟩, e⟩
    unfold inSp at e
    simp only [Bool.and_eq_true] at e
    exact e.1.1.1

/- All addresses that selectors have. -/
theorem one_in {a b : Ad} (oa : a.Ok) (ob : b.Ok) (hm : a.may = true) : inSp a (b, b) = decide (b = a) := by
  rw [Bool.eq_iff_iff, decide_eq_true_eq]
  constructor
  · intro h
    have hmb : maySp (b, b) = true := by
      unfold inSp at h
      simp only [Bool.and_eq_true] at h
      exact h.1.1.1
    obtain ⟨_, h2, h3⟩ := (inSp_iff (s := (b, b)) ⟨ob, ob⟩ oa hmb).1 h
    exact key_inj ob oa (Nat.le_antisymm h2 h3)
  · rintro rfl
    have hmb : maySp (b, b) = true := (maySp_iff (s := (b, b)) ⟨ob, ob⟩).2 ⟨hm, hm, rfl, Nat.le_refl _⟩
    exact (inSp_iff (s := (b, b)) ⟨ob, ob⟩ ob hmb).2 ⟨rfl, Nat.le_refl _, Nat.le_refl _⟩
def wholeA (p : Pf) : Ad := if p.a.v6 = false then ⟨false, p.a.hi, p.a.lo + (2 ^ (32 - p.bits) - 1)⟩ else if 64 ≤ p.bits then ⟨true, p.a.hi, p.a.lo + (2 ^ (128 - p.bits) - 1)⟩ else ⟨true, p.a.hi + (2 ^ (64 - p.bits) - 1), 18446744073709551615⟩
def wholeP (p : Pf) : Sp := (p.a, wholeA p)
def spansL (p : Po) (l : List Pe) (s : Sel) : List Sp :=
  if s.kind = 1 then [(⟨false, 0, 0⟩, ⟨false, 0, 4294967295⟩), (⟨true, 0, 0⟩, ⟨true, 18446744073709551615, 18446744073709551615⟩)]
  else if s.kind = 5 then match findH p s.name with
    | some h => [wholeP h.net]
    | none => []
  else if s.kind = 6 then [wholeP s.net]
  else l.flatMap fun x => if picksP p s x then x.addrs.map fun b => (b, b) else []
theorem pow_dvd {x k n : Nat} (h : x % 2 ^ k = 0) (hx : x < 2 ^ n) (hk : k ≤ n) : x + (2 ^ k - 1) < 2 ^ n := by
  obtain ⟨q, rfl⟩ : ∃ q, x = 2 ^ k * q := ⟨x / 2 ^ k, by have := Nat.div_add_mod x (2 ^ k); omega⟩
  have hp : 0 < 2 ^ k := Nat.pow_pos (by decide)
  obtain ⟨d, rfl⟩ : ∃ d, n = k + d := ⟨n - k, by omega⟩
  rw [Nat.pow_add] at hx ⊢
  have hq : q < 2 ^ d := Nat.lt_of_mul_lt_mul_left hx
  have : 2 ^ k * (q + 1) ≤ 2 ^ k * 2 ^ d := Nat.mul_le_mul_left _ hq
  rw [Nat.mul_add, Nat.mul_one] at this
  omega
theorem div_range {x y k : Nat} (hy : y % 2 ^ k = 0) : x / 2 ^ k = y / 2 ^ k ↔ y ≤ x ∧ x ≤ y + (2 ^ k - 1) := by
  have hp : 0 < 2 ^ k := Nat.pow_pos (by decide)
  have e1 := Nat.div_add_mod y (2 ^ k)
  have e2 := Nat.div_add_mod x (2 ^ k)
  have e3 := Nat.mod_lt x hp
  rw [hy] at e1
  constructor
  · intro h
    rw [h] at e2
    omega
  · rintro ⟨h1, h2⟩
    rw [← e1, Nat.add_zero] at h1 h2
    have a1 : y / 2 ^ k ≤ x / 2 ^ k := by rw [Nat.le_div_iff_mul_le hp, Nat.mul_comm]; exact h1
    have a2 : x / 2 ^ k < y / 2 ^ k + 1 := by rw [Nat.div_lt_iff_lt_mul hp, Nat.add_mul, Nat.one_mul, Nat.mul_comm]; omega
    omega
theorem whole_key {p : Pf} (ok : p.Ok) (hm : pmay p = true) : (wholeA p).Ok ∧ (wholeA p).may = true ∧ (wholeA p).v6 = p.a.v6 ∧ (wholeA p).key = p.a.key + (2 ^ (p.a.size - p.bits) - 1) ∧ p.a.val % 2 ^ (p.a.size - p.bits) = 0 := by
  have hmm := hm
  unfold pmay at hm
  simp only [Bool.and_eq_true, decide_eq_true_eq] at hm
  obtain ⟨⟨h1, h2⟩, h3⟩ := hm
  have hH := ok.a.hi
  have hL := ok.a.lo
  obtain ⟨⟨v, hi, lo⟩, n⟩ := p
  simp only at h1 h2 h3 hH hL ⊢
  cases v with
  | false =>
    obtain ⟨e1, e2⟩ := may4 h1 rfl
    simp only at e1 e2
    subst e1
    unfold Ad.val Ad.size at *
    simp only [Bool.false_eq_true, if_false] at h2 h3 ⊢
    have hb := pow_dvd (n := 32) h3 e2 (by omega)
    unfold wholeA
    simp only [if_true]
    refine ⟨⟨by show 0 < _; omega, by show lo + _ < _; omega⟩, ?_, (by first | rfl | trivial), ?_, h3⟩
    · unfold Ad.may
      simp
      omega
    · unfold Ad.key
      simp
  | true =>
    unfold Ad.val Ad.size at *
    simp only [if_true] at h2 h3 ⊢
    unfold wholeA
    simp only [Bool.true_eq_false, if_false]
    by_cases hn : 64 ≤ n
    · simp only [if_pos hn]
      have h4 : lo % 2 ^ (128 - n) = 0 := by rw [low_mod _ _ _ (by omega)] at h3; exact h3
      have hb := pow_dvd (n := 64) h4 (by omega) (by omega)
      refine ⟨⟨hH, by show lo + _ < _; omega⟩, rfl, (by first | rfl | trivial), ?_, h3⟩
      unfold Ad.key
      simp only [if_true]
      omega
    · simp only [if_neg hn]
      have e : 128 - n = (64 - n) + 64 := by omega
      rw [e, glue_mod _ _ _ hL] at h3
      have h4 : hi % 2 ^ (64 - n) = 0 := by omega
      have h5 : lo = 0 := by omega
      subst h5
      have hb := pow_dvd (n := 64) h4 (by omega) (by omega)
      refine ⟨⟨by show hi + _ < _; omega, by show 18446744073709551615 < _; omega⟩, rfl, (by first | rfl | trivial), ?_, by rw [e, glue_mod _ _ _ hL]; omega⟩
      unfold Ad.key
      simp only [if_true]
      have hp : 0 < 2 ^ (64 - n) := Nat.pow_pos (by decide)
      rw [e, Nat.pow_add]
      generalize 2 ^ (64 - n) = z at hp ⊢
      omega
theorem val_key {a : Ad} (hm : a.may = true) : a.key = (if a.v6 then 2 ^ 128 else 0) + a.val := by
  obtain ⟨v, hi, lo⟩ := a
  cases v with
  | false => obtain ⟨e1, _⟩ := may4 hm rfl; simp only at e1; subst e1; unfold Ad.key Ad.val; simp
  | true => unfold Ad.key Ad.val; simp
theorem whole_in {p : Pf} {a : Ad} (ok : p.Ok) (oa : a.Ok) (hm : pmay p = true) (ha : a.may = true) : inSp a (wholeP p) = holdsP p a := by
  obtain ⟨w1, w2, w3, w4, w5⟩ := whole_key ok hm
  have hpm := (pmay_may hm).1
  have os : Sp.Ok (wholeP p) := ⟨ok.a, w1⟩
  have ms : maySp (wholeP p) = true := (maySp_iff os).2 ⟨hpm, w2, w3.symm, by show p.a.key ≤ (wholeA p).key; omega⟩
  rw [Bool.eq_iff_iff, inSp_iff os oa ms]
  unfold holdsP
  rw [hm, ha]
  simp only [Bool.true_and, Bool.and_eq_true, beq_iff_eq, decide_eq_true_eq]
  show p.a.v6 = a.v6 ∧ p.a.key ≤ a.key ∧ a.key ≤ (wholeA p).key ↔ _
  rw [w4, div_range w5, val_key ha, val_key hpm]
  constructor
  · rintro ⟨h1, h2, h3⟩; rw [h1] at h2 h3; exact ⟨h1, by omega, by omega⟩
  · rintro ⟨h1, h2, h3⟩; rw [h1]; exact ⟨rfl, by omega, by omega⟩
end Go.Proofs.YthglckoikjfjkaaGreatDoor
