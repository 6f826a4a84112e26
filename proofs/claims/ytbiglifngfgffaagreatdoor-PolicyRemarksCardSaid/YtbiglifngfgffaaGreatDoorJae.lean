/- Joined out of: PlD PlE PlF PlG Sm GsA. -/
import Derived.Test.YtbiglifngfgffaaGreatDoorJad
import Derived.BigRegion
import Derived.Deep.RegionHeld3
import Derived.Test.YtbiglifngfgffaaGreatDoorJaa
import Derived.Maps.RangeRun
import Derived.Test.YtbiglifngfgffaaGreatDoorJab
set_option linter.unusedVariables false
set_option linter.unusedSimpArgs false

/- The reader of a line: how it gives up, and its next word: the walks. -/
namespace Go.Proofs.YtbiglifngfgffaaGreatDoor
open Go.RowKit
attribute [local go_sem ↓] Go.wp_at_zero Go.wp_at_succ

/- A row of words in memory. -/
def WRow (w : World) (lv : Value) (ws : List ByteArray) (n : Nat) : Prop := ∃ base, w.ownsRow base 89 3 lv ws.length (wcells n 0 ws)
theorem WRow.shape {w : World} {lv : Value} {ws : List ByteArray} {n : Nat} (h : WRow w lv ws n) (hne : ws ≠ []) : ∃ g cap, lv = .slice (some ⟨g, 0, none⟩) ws.length cap ∧ ws.length ≤ cap ∧ (∃ cur, Blk w g 89 cur) ∧ ∀ j, j < ws.length * 3 → w.cell? ⟨g, j, none⟩ = (wcells n 0 ws)[j]? := by
  obtain ⟨base, h⟩ := h
  rcases h.2 with ⟨_, e⟩ | ⟨g, cap, cur, e, hb, hg, hc, _⟩
  · exact absurd (List.eq_nil_of_length_eq_zero e) hne
  · subst e
    exact ⟨g, cap, rfl, hc, ⟨cur, hg⟩, fun j hj => h.cellAt j hj⟩
theorem own_keep {w w' : World} {base size n : Nat} {e : TypeId} {v : Value} {xs : List Value} {S : Nat → Prop} (h : w.ownsRow base e size v n xs) (hk : Keeps S w w') (hS : ∀ g, v.ownBlock = some g → ¬ S g) : w'.ownsRow base e size v n xs := by
  refine ⟨h.1, ?_⟩
  rcases h.2 with h2 | ⟨g, cap, cur, e1, hb, hg, rest⟩
  · exact .inl h2
  · subst e1
    exact .inr ⟨g, cap, cur, rfl, hb, (hk.block g (Array.getElem?_eq_some_iff.1 hg).1 (hS g rfl)).trans hg, rest⟩
theorem WRow.keep {w w' : World} {lv : Value} {ws : List ByteArray} {n : Nat} {S : Nat → Prop} (h : WRow w lv ws n) (hk : Keeps S w w') (hS : ∀ g, lv.ownBlock = some g → ¬ S g) : WRow w' lv ws n := by
  obtain ⟨base, h⟩ := h
  exact ⟨base, own_keep h hk hS⟩
def RdB (w : World) (b : Nat) (lv : Value) (k P : Nat) (uv : Value) : Prop := Blk w b 81 #[lv, .int .i64 (k : Int), .pointer (some ⟨P, 0, none⟩), uv]
abbrev PanicAt (e n i : Nat) : Ending := .panicked [{ v := .iface 74 (.agg #[.int .i64 (e : Int), .int .i64 (n : Int), .int .i64 (i : Int)]), recovered := false }]

set_option maxHeartbeats 4000000 in
set_option maxRecDepth 100000 in
theorem wrong_any {w : World} {b P k n : Nat} {lv uv : Value} {ws : List ByteArray} (h : RdB w b lv k P uv) (hr : WRow w lv ws n) (hne : ws ≠ []) (hws : ws.length ≤ 4000000) (hk1 : 1 ≤ k) (hk : k ≤ 4000001) (e : Nat) : Calls Tryz.prog 61 #[.pointer (some ⟨b, 0, none⟩), .int .i64 (e : Int)] w fun r w' => r = PanicAt e n (if k ≤ ws.length then k - 1 else ws.length) ∧ Below w.heap.size w w' := by
  obtain ⟨g, cap, rfl, hcap, hg, hc⟩ := hr.shape hne
  obtain ⟨s0, hs0⟩ : ∃ s0, ws[0]? = some s0 := by
    cases ws with
    | nil => exact absurd rfl hne
    | cons x r => exact ⟨x, rfl⟩
  have hl : 0 < ws.length := by
    cases ws with
    | nil => exact absurd rfl hne
    | cons x r => simp
  obtain ⟨_, w1, _⟩ := wcells_at n ws 0 0 s0 hs0
  have c1 := (hc 1 (by omega)).trans w1
  have r0 := h.cell 0
  have r1 := h.cell 1
  simp at r0 r1
  generalize ws.length = N at r0 hl hws hcap h ⊢
  have i1 : (0 : Int) < (N : Int) := by omega
  have hbx := boxed w.drew (.cells #[.int .i64 (e : Int), .int .i64 (n : Int), .int .i64 (N : Int)] 34)
  obtain ⟨I, hI⟩ : ∃ I, I = if k ≤ N then k - 1 else N := ⟨_, rfl⟩
  rw [← hI]
  have HI := Lib.hid hI
  clear hc hs0 w1 hr hI
  go_enter Tryz.func61, Tryz.ntmps61
  go_upto_region 0 with fail
  go_region_held3 (fun w' => w'.cell? ⟨b, 0, none⟩ = some (.slice (some ⟨g, 0, none⟩) N cap) ∧ w'.cell? ⟨b, 1, none⟩ = some (.int .i64 (k : Int)) ∧ w'.cell? ⟨g, 1, none⟩ = some (.int .i64 (n : Int))) (go_keep) (fail)
  have hF := (Blk.new w 34 #[.int .i64 (e : Int), .int .i64 (n : Int), .int .i64 (N : Int)]).drew
  have hb1 := (boxed w (.cells #[.int .i64 (e : Int), .int .i64 (n : Int), .int .i64 (N : Int)] 34)).drew
  have hR := (h.alloc (.cells #[.int .i64 (e : Int), .int .i64 (n : Int), .int .i64 (N : Int)] 34)).drew
  clear r0 r1 c1 hbx h
  generalize (w.alloc (.cells #[.int .i64 (e : Int), .int .i64 (n : Int), .int .i64 (N : Int)] 34)).drew = W1 at hF hb1 hR ⊢
  generalize hgF : w.heap.size = gF at hF ⊢
  have r0 := hR.cell 0
  have r1 := hR.cell 1
  have f0 := hF.cell 0
  have f1 := hF.cell 1
  have f2 := hF.cell 2
  have z2 := hF.frozen 2
  simp at r0 r1 f0 f1 f2
  by_cases hkN : k ≤ N
  · have q1 : (k : Int) ≤ (N : Int) := by omega
    have hI := HI.out
    rw [if_pos hkN] at hI
    have Hi := Lib.hid hI
    clear hI HI
    have i2 : IntKind.i64.wrap ((k : Int) - 1) = (k : Int) - 1 := by rw [IntKind.wrap_i64]; omega
    go_upto_region 1 with fail
    go_quiet (fail)
    go_wp2_with fail
    all_goals
      rw [Hi.out]
      refine ⟨rfl, ?_, (show Below w.heap.size w (W1.drewN nq) from ⟨hb1.os, hb1.tape, hb1.output, hb1.size, hb1.block⟩).setCell (Nat.le_of_eq hgF) _⟩
      unfold PanicAt
      rw [show ((k - 1 : Nat) : Int) = (k : Int) - 1 by omega]
  · have q1 : ¬ (k : Int) ≤ (N : Int) := by omega
    have hI := HI.out
    rw [if_neg hkN] at hI
    have Hi := Lib.hid hI
    clear hI HI
    go_upto_region 1 with fail
    go_quiet (fail)
    go_wp2_with fail
    all_goals
      rw [Hi.out]
      refine ⟨rfl, rfl, ?_⟩
      have hB : Below w.heap.size w (W1.drewN nq) := ⟨hb1.os, hb1.tape, hb1.output, hb1.size, hb1.block⟩
      first | exact hB | exact hgF ▸ hB
theorem keeps_then {S : Nat → Prop} {a w w' : World} (h : Keeps S a w) (k : Below w.heap.size w w') : Keeps S a w' := h.trans (Keeps.of_below k fun q hq _ => hq)
theorem setRow_keeps {w : World} {b : Nat} (p : Nat) (v : Value) : Keeps (fun x => x = b) w (w.setCell ⟨b, p, none⟩ v) := by
  refine Keeps.setCell (Keeps.refl (fun x => x = b) w) (p := ⟨b, p, none⟩) ?_ v
  exact Or.inl rfl

/- What a word that is taken comes to. -/
def TakeR (ws : List ByteArray) (k n : Nat) (r : Ending) : Prop := match ws[k]? with
  | some s => r = .returned (.string s)
  | none => r = PanicAt 190 n ws.length
theorem TakeR.some {ws : List ByteArray} {k n : Nat} {s : ByteArray} (h : ws[k]? = some s) : TakeR ws k n (.returned (.string s)) := by unfold TakeR; rw [h]
theorem TakeR.none {ws : List ByteArray} {k n N : Nat} (h : ws[k]? = none) (hN : ws.length = N) : TakeR ws k n (PanicAt 190 n N) := by unfold TakeR; rw [h, hN]

set_option maxHeartbeats 4000000 in
set_option maxRecDepth 100000 in
theorem take_any {w : World} {b P k n : Nat} {lv uv : Value} {ws : List ByteArray} (h : RdB w b lv k P uv) (hr : WRow w lv ws n) (hne : ws ≠ []) (hws : ws.length ≤ 4000000) (hk : k ≤ ws.length) : Calls Tryz.prog 29 #[.pointer (some ⟨b, 0, none⟩)] w fun r w' => Keeps (fun x => x = b) w w' ∧ RdB w' b lv (k + 1) P uv ∧ TakeR ws k n r := by
  obtain ⟨g, cap, rfl, hcap, hg, hc⟩ := hr.shape hne
  have hw := fun (w' : World) (h' : RdB w' b (.slice (some ⟨g, 0, none⟩) ws.length cap) (k + 1) P uv) (hr' : WRow w' (.slice (some ⟨g, 0, none⟩) ws.length cap) ws n) => wrong_any h' hr' hne hws (by omega) (by omega) 190
  have i1 : IntKind.i64.wrap ((k : Int) + 1) = (k : Int) + 1 := by rw [IntKind.wrap_i64]; omega
  have r0 := h.cell 0
  have r1 := h.cell 1
  have z1 := h.frozen 1
  simp at r0 r1
  obtain ⟨cur, hgB⟩ := hg
  have hgb : g ≠ b := hgB.ne_ h (by decide)
  have hK := @setRow_keeps w b 1 (.int .i64 ((k : Int) + 1))
  have hS := h.set_ 1 (.int .i64 ((k : Int) + 1))
  have hr2 := hr.keep hK (fun q hq => by injection hq with hq; rw [← hq]; exact hgb)
  have hS2 : RdB (w.setCell ⟨b, 1, none⟩ (.int .i64 ((k : Int) + 1))) b (.slice (some ⟨g, 0, none⟩) ws.length cap) (k + 1) P uv := hS
  have hw2 : k = ws.length → ∀ q, Calls Tryz.prog 61 #[.pointer (some ⟨b, 0, none⟩), .int .i64 190] ((w.setCell ⟨b, 1, none⟩ (.int .i64 ((k : Int) + 1))).drewN q) fun r w' => r = PanicAt 190 n ws.length ∧ Below ((w.setCell ⟨b, 1, none⟩ (.int .i64 ((k : Int) + 1))).drewN q).heap.size ((w.setCell ⟨b, 1, none⟩ (.int .i64 ((k : Int) + 1))).drewN q) w' := fun hkk q =>
    (hw ((w.setCell ⟨b, 1, none⟩ (.int .i64 ((k : Int) + 1))).drewN q) hS2 hr2).mono (by rintro r w' ⟨h1, h2⟩; rw [if_neg (by omega)] at h1; exact ⟨h1, h2⟩)
  clear hw
  have HS2 := Lib.hid hS2
  have HK := Lib.hid hK
  have Hgw := Lib.hid (fun j hj => (((hgB.far (p := ⟨b, 1, none⟩) hgb (.int .i64 ((k : Int) + 1))).cell j).trans (hgB.cell j).symm).trans (hc j hj))
  by_cases hkN : k < ws.length
  · obtain ⟨s, hs⟩ : ∃ s, ws[k]? = some s := ⟨_, List.getElem?_eq_getElem hkN⟩
    have c0 := (Hgw.out (k * 3) (by omega)).trans (wcells_at n ws 0 k s hs).1
    have Hs := Lib.hid hs
    have s0 := hS.cell 0
    have s1 := hS.cell 1
    simp at s0 s1
    clear hw2
    generalize hN : ws.length = N at *
    have q1 : ¬ (N : Int) < (k : Int) + 1 := by omega
    have q2 : IntKind.i64.wrap ((k : Int) + 1 - 1) = (k : Int) := by rw [IntKind.wrap_i64]; omega
    clear hr2 hS hS2 hK hc hs h hr hgB
    go_enter Tryz.func29, Tryz.ntmps29
    go_upto_region 2 with fail
    generalize w.setCell ⟨b, 1, none⟩ (.int .i64 ((k : Int) + 1)) = w1 at *
    go_quiet (fail)
    go_upto_region 4 with fail
    go_quiet (fail)
    go_wp2_with fail
    refine bodyPost_ret (results_tmp rfl _ _ _) rfl ?_
    exact ⟨⟨HK.out.os, HK.out.tape, HK.out.output, HK.out.size, HK.out.block⟩, HS2.out, TakeR.some Hs.out⟩
  · have hkN' : k = ws.length := by omega
    have hs : ws[k]? = none := List.getElem?_eq_none (by omega)
    have Hs := Lib.hid hs
    have s0 := hS.cell 0
    have s1 := hS.cell 1
    simp at s0 s1
    have HW := Lib.hid (hw2 hkN')
    clear hw2
    generalize hN : ws.length = N at *
    have q1 : (N : Int) < (k : Int) + 1 := by omega
    clear hkN' hkN hk hr2 hS hS2 hK hc hs h hr hgB
    go_enter Tryz.func29, Tryz.ntmps29
    go_upto_region 2 with fail
    generalize w.setCell ⟨b, 1, none⟩ (.int .i64 ((k : Int) + 1)) = w1 at *
    go_quiet (fail)
    go_wp2_with (go_at_call 61; (with_reducible refine (HW.out _).mono ?_); rintro r w2 ⟨rfl, d2⟩; unfold PanicAt)
    refine ⟨rfl, ?_, ?_, TakeR.none Hs.out hN⟩
    · exact keeps_then (HK.out.drewN nq) d2
    · refine Blk.below ?_ d2 ?_
      · exact HS2.out
      · exact HS2.out.lt
end Go.Proofs.YtbiglifngfgffaaGreatDoor

/- The reader's small words: the walks. -/
namespace Go.Proofs.YtbiglifngfgffaaGreatDoor
open Go.RowKit

/- A reader at its next word. -/
structure Rs (w : World) (b P k n : Nat) (lv uv : Value) (ws : List ByteArray) : Prop where
  blk : RdB w b lv k P uv
  row : WRow w lv ws n
  ne : ws ≠ []
  len : ws.length ≤ 2000000
  sizes : ∀ s ∈ ws, s.size ≤ 2000000
theorem Rs.sep {w : World} {b P k n : Nat} {lv uv : Value} {ws : List ByteArray} (h : Rs w b P k n lv uv ws) : ∀ g, lv.ownBlock = some g → g ≠ b := by
  obtain ⟨g, cap, e, _, ⟨cur, hg⟩, _⟩ := h.row.shape h.ne
  intro q hq
  rw [e] at hq
  injection hq with hq
  rw [← hq]
  exact hg.ne_ h.blk (by decide)
theorem Rs.step {w w' : World} {b P k k' n : Nat} {lv uv uv' : Value} {ws : List ByteArray} (h : Rs w b P k n lv uv ws) (hk : Keeps (fun x => x = b) w w') (hb : RdB w' b lv k' P uv') : Rs w' b P k' n lv uv' ws :=
  ⟨hb, h.row.keep hk fun g hg e => h.sep g hg e, h.ne, h.len, h.sizes⟩
theorem Rs.below {w w' : World} {b P k n : Nat} {lv uv : Value} {ws : List ByteArray} (h : Rs w b P k n lv uv ws) (hb : Below w.heap.size w w') : Rs w' b P k n lv uv ws :=
  h.step (Keeps.of_below hb fun q hq _ => hq) (h.blk.below hb h.blk.lt)
/- Where a reader that gives up says that it stands. -/
def atW (k : Nat) (ws : List ByteArray) : Nat := if k ≤ ws.length then k - 1 else ws.length
def UnlessR (is : Bool) (e n i : Nat) (r : Ending) : Prop := match is with
  | true => r = .returned (.tuple #[])
  | false => r = PanicAt e n i

theorem Rs.wrong {w : World} {b P k n : Nat} {lv uv : Value} {ws : List ByteArray} (h : Rs w b P k n lv uv ws) (hk1 : 1 ≤ k) (hk : k ≤ ws.length + 1) (e : Nat) : Calls Tryz.prog 61 #[.pointer (some ⟨b, 0, none⟩), .int .i64 (e : Int)] w fun r w' => r = PanicAt e n (atW k ws) ∧ Below w.heap.size w w' :=
  wrong_any h.blk h.row h.ne (by have := h.len; omega) hk1 (by have := h.len; omega) e

set_option maxHeartbeats 2000000 in
set_option maxRecDepth 100000 in
theorem Rs.unless {w : World} {b P k n : Nat} {lv uv : Value} {ws : List ByteArray} (h : Rs w b P k n lv uv ws) (hk1 : 1 ≤ k) (hk : k ≤ ws.length + 1) (is : Bool) (e : Nat) : Calls Tryz.prog 30 #[.pointer (some ⟨b, 0, none⟩), .bool is, .int .i64 (e : Int)] w fun r w' => UnlessR is e n (atW k ws) r ∧ Below w.heap.size w w' := by
  have HW := Lib.hid (h.wrong hk1 hk e)
  have hb0 := Below.refl w.heap.size w
  clear h hk1 hk
  cases is with
  | true =>
    go_enter Tryz.func30, Tryz.ntmps30
    go_wp2_with fail
    refine ⟨rfl, _, results_none rfl _ _ _, rfl, hb0⟩
  | false =>
    go_enter Tryz.func30, Tryz.ntmps30
    go_wp2_with (go_at_call 61; (with_reducible refine HW.out.mono ?_); rintro r w2 ⟨rfl, d2⟩; unfold PanicAt)
    exact ⟨rfl, rfl, d2⟩

set_option maxHeartbeats 2000000 in
set_option maxRecDepth 100000 in
theorem Rs.room {w : World} {b P k n : Nat} {lv uv : Value} {ws : List ByteArray} (h : Rs w b P k n lv uv ws) (hk1 : 1 ≤ k) (hk : k ≤ ws.length + 1) (m : Nat) : Calls Tryz.prog 91 #[.pointer (some ⟨b, 0, none⟩), .int .i64 (m : Int)] w fun r w' => UnlessR (decide (m < 64)) 198 n (atW k ws) r ∧ Below w.heap.size w w' := by
  have hu := h.unless hk1 hk (decide (m < 64)) 198
  clear h hk1 hk
  by_cases hm : m < 64
  · have q : (m : Int) < 64 := by omega
    rw [decide_eq_true hm] at hu ⊢
    have HU : RowKit.Hid (Calls Tryz.prog 30 #[.pointer (some ⟨b, 0, none⟩), .bool true, .int .i64 198] w fun r w' => UnlessR true 198 n (atW k ws) r ∧ Below w.heap.size w w') := Lib.hid hu
    clear hu hm
    go_enter Tryz.func91, Tryz.ntmps91
    go_wp2_with (go_at_call 30; (with_reducible refine HU.out.mono ?_); rintro r w2 ⟨h1, d2⟩; unfold UnlessR at h1; subst h1)
    refine ⟨rfl, _, results_none rfl _ _ _, rfl, d2⟩
  · have q : ¬ (m : Int) < 64 := by omega
    rw [decide_eq_false hm] at hu ⊢
    have HU : RowKit.Hid (Calls Tryz.prog 30 #[.pointer (some ⟨b, 0, none⟩), .bool false, .int .i64 198] w fun r w' => UnlessR false 198 n (atW k ws) r ∧ Below w.heap.size w w') := Lib.hid hu
    clear hu hm
    go_enter Tryz.func91, Tryz.ntmps91
    go_wp2_with (go_at_call 30; (with_reducible refine HU.out.mono ?_); rintro r w2 ⟨h1, d2⟩; unfold UnlessR at h1; subst h1; unfold PanicAt)
    exact ⟨rfl, rfl, d2⟩

set_option maxHeartbeats 2000000 in
set_option maxRecDepth 100000 in
theorem Rs.more {w : World} {b P k n : Nat} {lv uv : Value} {ws : List ByteArray} (h : Rs w b P k n lv uv ws) : Calls Tryz.prog 94 #[.pointer (some ⟨b, 0, none⟩)] w (Got (.bool (decide (k < ws.length))) w) := by
  obtain ⟨g, cap, e, hcap, _, _⟩ := h.row.shape h.ne
  have hB := h.blk
  rw [e] at hB
  have r0 := hB.cell 0
  have r1 := hB.cell 1
  simp at r0 r1
  have hl := h.len
  have hb0 := Below.refl w.heap.size w
  generalize ws.length = N at *
  have qd : decide ((k : Int) < (N : Int)) = decide (k < N) := by simp
  obtain ⟨D, hD⟩ : ∃ d, d = decide (k < N) := ⟨_, rfl⟩
  rw [← hD] at qd ⊢
  have HD := Lib.hid hD
  clear hB h e hD
  go_enter Tryz.func94, Tryz.ntmps94
  go_upto_region 1 with fail
  go_quiet (fail)
  go_wp2_with fail
  refine bodyPost_ret (results_tmp rfl _ _ _) rfl ⟨?_, ⟨rfl, rfl, rfl, Nat.le_refl _, fun _ _ => rfl⟩⟩
  rw [HD.out]
  rfl

/- A name; a word that must be one. -/
def NameR (ws : List ByteArray) (k n : Nat) (r : Ending) : Prop := match ws[k]? with
  | none => r = PanicAt 190 n ws.length
  | some s => if labelB s = true then r = .returned (.string s) else r = PanicAt 191 n k
def MustR (ws : List ByteArray) (t : ByteArray) (k n : Nat) (r : Ending) : Prop := match ws[k]? with
  | none => r = PanicAt 190 n ws.length
  | some s => if s = t then r = .returned (.tuple #[]) else r = PanicAt 190 n k
theorem Rs.take {w : World} {b P k n : Nat} {lv uv : Value} {ws : List ByteArray} (h : Rs w b P k n lv uv ws) (hk : k ≤ ws.length) : Calls Tryz.prog 29 #[.pointer (some ⟨b, 0, none⟩)] w fun r w' => (Keeps (fun x => x = b) w w' ∧ Rs w' b P (k + 1) n lv uv ws) ∧ TakeR ws k n r :=
  (take_any h.blk h.row h.ne (by have := h.len; omega) hk).mono fun r w' ⟨h1, h2, h3⟩ => ⟨⟨h1, h.step h1 h2⟩, h3⟩
theorem atW_take {k : Nat} {ws : List ByteArray} (h : k < ws.length) : atW (k + 1) ws = k := by unfold atW; rw [if_pos (by omega)]; omega

set_option maxHeartbeats 2000000 in
set_option maxRecDepth 100000 in
theorem Rs.name {w : World} {b P k n : Nat} {lv uv : Value} {ws : List ByteArray} (h : Rs w b P k n lv uv ws) (hk : k ≤ ws.length) : Calls Tryz.prog 92 #[.pointer (some ⟨b, 0, none⟩)] w fun r w' => (Keeps (fun x => x = b) w w' ∧ Rs w' b P (k + 1) n lv uv ws) ∧ NameR ws k n r := by
  have HT := Lib.hid (h.take hk)
  unfold TakeR at HT
  cases hs : ws[k]? with
  | none =>
    have hpost : ∀ r, NameR ws k n r ↔ r = PanicAt 190 n ws.length := fun r => by unfold NameR; rw [hs]
    simp only [hpost]
    rw [hs] at HT
    have HT' : RowKit.Hid (Calls Tryz.prog 29 #[.pointer (some ⟨b, 0, none⟩)] w fun r w' => (Keeps (fun x => x = b) w w' ∧ Rs w' b P (k + 1) n lv uv ws) ∧ r = PanicAt 190 n ws.length) := HT
    clear HT hs hpost h hk
    go_enter Tryz.func92, Tryz.ntmps92
    go_wp2_with (go_at_call 29; (with_reducible refine HT'.out.mono ?_); rintro r w2 ⟨d2, rfl⟩; unfold PanicAt)
    exact ⟨rfl, d2, rfl⟩
  | some s =>
    have hlt : k < ws.length := (List.getElem?_eq_some_iff.1 hs).1
    have hsz := h.sizes s (List.mem_of_getElem? hs)
    have hpost : ∀ r, NameR ws k n r ↔ (if labelB s = true then r = .returned (.string s) else r = PanicAt 191 n k) := fun r => by unfold NameR; rw [hs]
    simp only [hpost]
    rw [hs] at HT
    have HT' : RowKit.Hid (Calls Tryz.prog 29 #[.pointer (some ⟨b, 0, none⟩)] w fun r w' => (Keeps (fun x => x = b) w w' ∧ Rs w' b P (k + 1) n lv uv ws) ∧ r = .returned (.string s)) := HT
    have HL := Lib.hid fun u => label_any s (by omega) u
    have hu := fun (u : World) (hr : Rs u b P (k + 1) n lv uv ws) => hr.unless (by omega) (by omega) (labelB s) 191
    rw [atW_take hlt] at hu
    generalize labelB s = LB at *
    cases LB with
    | true =>
      simp only [if_true]
      have HU : RowKit.Hid (∀ (u : World), Rs u b P (k + 1) n lv uv ws → Calls Tryz.prog 30 #[.pointer (some ⟨b, 0, none⟩), .bool true, .int .i64 191] u fun r w' => r = .returned (.tuple #[]) ∧ Below u.heap.size u w') := Lib.hid hu
      clear HT hs hpost h hk hu hlt hsz
      go_enter Tryz.func92, Tryz.ntmps92
      go_wp2_with (first
        | (go_at_call 29; (with_reducible refine HT'.out.mono ?_); rintro r w2 ⟨⟨d2, e2⟩, rfl⟩)
        | (go_at_call 16; (with_reducible refine (HL.out _).mono ?_); rintro r w3 ⟨rfl, d3⟩)
        | (go_at_call 30; (with_reducible refine (HU.out _ (e2.below d3)).mono ?_); rintro r w4 ⟨rfl, d4⟩))
      refine bodyPost_ret (results_tmp rfl _ _ _) rfl ⟨⟨keeps_then (keeps_then d2 d3) d4, (e2.below d3).below d4⟩, rfl⟩
    | false =>
      simp only [Bool.false_eq_true, if_false]
      have HU : RowKit.Hid (∀ (u : World), Rs u b P (k + 1) n lv uv ws → Calls Tryz.prog 30 #[.pointer (some ⟨b, 0, none⟩), .bool false, .int .i64 191] u fun r w' => r = PanicAt 191 n k ∧ Below u.heap.size u w') := Lib.hid hu
      clear HT hs hpost h hk hu hlt hsz
      go_enter Tryz.func92, Tryz.ntmps92
      go_wp2_with (first
        | (go_at_call 29; (with_reducible refine HT'.out.mono ?_); rintro r w2 ⟨⟨d2, e2⟩, rfl⟩)
        | (go_at_call 16; (with_reducible refine (HL.out _).mono ?_); rintro r w3 ⟨rfl, d3⟩)
        | (go_at_call 30; (with_reducible refine (HU.out _ (e2.below d3)).mono ?_); rintro r w4 ⟨rfl, d4⟩; unfold PanicAt))
      exact ⟨rfl, ⟨keeps_then (keeps_then d2 d3) d4, (e2.below d3).below d4⟩, rfl⟩

set_option maxHeartbeats 2000000 in
set_option maxRecDepth 100000 in
theorem Rs.must {w : World} {b P k n : Nat} {lv uv : Value} {ws : List ByteArray} (h : Rs w b P k n lv uv ws) (hk : k ≤ ws.length) (t : ByteArray) : Calls Tryz.prog 93 #[.pointer (some ⟨b, 0, none⟩), .string t] w fun r w' => (Keeps (fun x => x = b) w w' ∧ Rs w' b P (k + 1) n lv uv ws) ∧ MustR ws t k n r := by
  have HT := Lib.hid (h.take hk)
  unfold TakeR at HT
  cases hs : ws[k]? with
  | none =>
    have hpost : ∀ r, MustR ws t k n r ↔ r = PanicAt 190 n ws.length := fun r => by unfold MustR; rw [hs]
    simp only [hpost]
    rw [hs] at HT
    have HT' : RowKit.Hid (Calls Tryz.prog 29 #[.pointer (some ⟨b, 0, none⟩)] w fun r w' => (Keeps (fun x => x = b) w w' ∧ Rs w' b P (k + 1) n lv uv ws) ∧ r = PanicAt 190 n ws.length) := HT
    clear HT hs hpost h hk
    go_enter Tryz.func93, Tryz.ntmps93
    go_wp2_with (go_at_call 29; (with_reducible refine HT'.out.mono ?_); rintro r w2 ⟨d2, rfl⟩; unfold PanicAt)
    exact ⟨rfl, d2, rfl⟩
  | some s =>
    have hlt : k < ws.length := (List.getElem?_eq_some_iff.1 hs).1
    have hpost : ∀ r, MustR ws t k n r ↔ (if s = t then r = .returned (.tuple #[]) else r = PanicAt 190 n k) := fun r => by unfold MustR; rw [hs]
    simp only [hpost]
    rw [hs] at HT
    have HT' : RowKit.Hid (Calls Tryz.prog 29 #[.pointer (some ⟨b, 0, none⟩)] w fun r w' => (Keeps (fun x => x = b) w w' ∧ Rs w' b P (k + 1) n lv uv ws) ∧ r = .returned (.string s)) := HT
    have hu := fun (u : World) (hr : Rs u b P (k + 1) n lv uv ws) => hr.wrong (by omega) (by omega) 190
    rw [atW_take hlt] at hu
    by_cases e : s = t
    · subst e
      simp only [if_true]
      have hss : (s.toList == s.toList) = true := by simp
      clear HT hs hpost h hk hu hlt
      go_enter Tryz.func93, Tryz.ntmps93
      go_wp2_with (go_at_call 29; (with_reducible refine HT'.out.mono ?_); rintro r w2 ⟨⟨d2, e2⟩, rfl⟩)
      refine ⟨rfl, _, results_none rfl _ _ _, ⟨d2, e2⟩, rfl⟩
    · simp only [if_neg e]
      have hss : (s.toList == t.toList) = false := by
        rw [beq_eq_false_iff_ne]
        intro h
        rw [ByteArray.toList_eq, ByteArray.toList_eq] at h
        exact e (ByteArray.ext (Array.ext' h))
      have HU : RowKit.Hid (∀ (u : World), Rs u b P (k + 1) n lv uv ws → Calls Tryz.prog 61 #[.pointer (some ⟨b, 0, none⟩), .int .i64 190] u fun r w' => r = PanicAt 190 n k ∧ Below u.heap.size u w') := Lib.hid hu
      clear HT hs hpost h hk hu hlt e
      go_enter Tryz.func93, Tryz.ntmps93
      go_wp2_with (first
        | (go_at_call 29; (with_reducible refine HT'.out.mono ?_); rintro r w2 ⟨⟨d2, e2⟩, rfl⟩)
        | (go_at_call 61; (with_reducible refine (HU.out _ e2).mono ?_); rintro r w4 ⟨rfl, d4⟩; unfold PanicAt))
      exact ⟨rfl, ⟨keeps_then d2 d4, e2.below d4⟩, rfl⟩
end Go.Proofs.YtbiglifngfgffaaGreatDoor

/- Is a name told? (has, hasHost): the walks. -/
namespace Go.Proofs.YtbiglifngfgffaaGreatDoor
open Go.RowKit
attribute [local go_sem ↓] Go.wp_at_zero Go.wp_at_succ

/- A row as it is read: cell by cell. -/
def RowR (w : World) (v : Value) (n size : Nat) (xs : List Value) : Prop := ∃ A cap, v = .slice A n cap ∧ xs.length = n * size ∧ (0 < n → ∃ g o, A = some ⟨g, o, none⟩ ∧ ∀ j u, xs[j]? = some u → w.cell? ⟨g, o + j, none⟩ = some u)
theorem RowR.of_own {w : World} {base size n : Nat} {e : TypeId} {v : Value} {xs : List Value} (h : w.ownsRow base e size v n xs) : RowR w v n size xs := by
  rcases h.2 with ⟨e1, e2⟩ | ⟨g, cap, cur, e1, hb, hg, rest⟩
  · subst e1 e2
    exact ⟨none, 0, rfl, h.1, fun h => absurd h (by decide)⟩
  · subst e1
    refine ⟨_, cap, rfl, h.1, fun _ => ⟨g, 0, rfl, fun j u hu => ?_⟩⟩
    have hj : j < n * size := by rw [← h.1]; exact (List.getElem?_eq_some_iff.1 hu).1
    rw [Nat.zero_add, h.cellAt j hj]
    exact hu
theorem RowR.below {w w' : World} {v : Value} {n size : Nat} {xs : List Value} (h : RowR w v n size xs) (hb : Below w.heap.size w w') : RowR w' v n size xs := by
  obtain ⟨A, cap, h1, h2, h3⟩ := h
  refine ⟨A, cap, h1, h2, fun hn => ?_⟩
  obtain ⟨g, o, ha, hc⟩ := h3 hn
  exact ⟨g, o, ha, fun j u hu => (hb.cell (World.block_lt_of_cell? w _ (hc j u hu))).trans (hc j u hu)⟩
/- A row of groups as its names tell it; lv: where each one's names lie. -/
def nmCells (l : List (ByteArray × Value)) : List Value := l.flatMap fun x => [Value.string x.1, x.2]
theorem nmCells_at : ∀ (l : List (ByteArray × Value)) (k : Nat) (x : ByteArray × Value), l[k]? = some x → (nmCells l)[k * 2]? = some (.string x.1) ∧ (nmCells l)[k * 2 + 1]? = some x.2 := by
  intro l
  induction l with
  | nil => intro k x h; cases h
  | cons y r ih =>
    intro k x h
    cases k with
    | zero => injection h with h; subst h; exact ⟨rfl, rfl⟩
    | succ k =>
      obtain ⟨h1, h2⟩ := ih k x h
      rw [show (k + 1) * 2 = k * 2 + 1 + 1 by omega]
      exact ⟨h1, h2⟩

set_option maxHeartbeats 2000000 in
set_option maxRecDepth 100000 in
theorem has1_any {w : World} (g : Nat) (s x : ByteArray) (v : Value) (hg : w.cell? ⟨g, 0, none⟩ = some (.string s)) : Calls Tryz.prog 100 #[.agg #[.string x, v], .pointer (some ⟨g, 0, none⟩)] w (Got (.bool (decide (x = s))) w) := by
  have hx := Blk.new w 46 #[.string x, v]
  have hb := boxed w (.cells #[.string x, v] 46)
  have hg2 := (hb.cell (p := ⟨g, 0, none⟩) (World.block_lt_of_cell? w _ hg)).trans hg
  have x0 := hx.cell 0
  simp at x0
  have hd : (x.toList == s.toList) = decide (x = s) := by
    by_cases e : x = s
    · subst e; simp
    · rw [decide_eq_false e, beq_eq_false_iff_ne]
      intro h
      rw [ByteArray.toList_eq, ByteArray.toList_eq] at h
      exact e (ByteArray.ext (Array.ext' h))
  obtain ⟨D, hD⟩ : ∃ D, D = decide (x = s) := ⟨_, rfl⟩
  rw [← hD] at hd ⊢
  clear hD hx
  go_enter Tryz.func100, Tryz.ntmps100
  go_wp2_with fail
  go_ret
  exact ⟨rfl, hb⟩

def IxGot (b : Bool) (w : World) (r : Ending) (w' : World) : Prop := (∃ i : Int, r = .returned (.int .i64 i) ∧ decide (0 ≤ i) = b) ∧ Below w.heap.size w w'

set_option maxHeartbeats 4000000 in
set_option maxRecDepth 100000 in
theorem indexN_any {w : World} (l : List (ByteArray × Value)) (hl : l.length ≤ 4000000) (lv : Value) (hr : RowR w lv l.length 2 (nmCells l)) (g : Nat) (s : ByteArray) (hg : w.cell? ⟨g, 0, none⟩ = some (.string s)) :
    Calls Tryz.prog 127 #[lv, .func (.func 100) #[] #[.pointer (some ⟨g, 0, none⟩)]] w (IxGot (l.any fun x => decide (x.1 = s)) w) := by
  obtain ⟨A, cap, rfl, hlen, hA⟩ := hr
  obtain ⟨N, hN⟩ : ∃ n, n = l.length := ⟨_, rfl⟩
  obtain ⟨R, hR⟩ : ∃ r, r = l.any fun x => decide (x.1 = s) := ⟨_, rfl⟩
  rw [← hN] at hA hl ⊢
  rw [← hR]
  have HA := Lib.hid hA
  have HN := Lib.hid hN
  have HR := Lib.hid hR
  have Hg := Lib.hid hg
  clear hA hN hlen hR hg
  go_enter Tryz.func127, Tryz.ntmps127
  go_wp2_with fail
  go_loopw [8] (fun v8 wr => ∃ k : Nat, k ≤ N ∧ v8 = .int .i64 (k : Int) ∧ RowKit.Hid (Below w.heap.size w wr) ∧ RowKit.Hid (((l.take k).any fun x => decide (x.1 = s)) = false)) (fun v8 _ => N - (intOf v8).toNat)
  case atStart => exact ⟨0, Nat.zero_le _, rfl, Lib.hid (Below.refl _ _), Lib.hid rfl⟩
  case round =>
    obtain ⟨k, hk, rfl, hb, hno⟩ := hrel
    by_cases hlt : k < N
    · have hkl : k < l.length := by have := HN.out; omega
      obtain ⟨q, o, rfl, hc⟩ := HA.out (by omega)
      have htk := List.take_succ_eq_append_getElem hkl
      have hx : l[k]? = some l[k] := List.getElem?_eq_getElem hkl
      have hcell := nmCells_at l k _ hx
      have c0 := hc _ _ hcell.1
      have c1 := hc _ _ hcell.2
      generalize l[k] = X at htk c0 c1
      have d0 := (hb.out.cell (World.block_lt_of_cell? w _ c0)).trans c0
      have d1 := (hb.out.cell (World.block_lt_of_cell? w _ c1)).trans c1
      rw [← Nat.add_assoc] at d1
      have hgw := (hb.out.cell (World.block_lt_of_cell? w _ Hg.out)).trans Hg.out
      have HF := Lib.hid (has1_any (w := wr) g s X.1 X.2 hgw)
      obtain ⟨X1, X2⟩ := X
      simp only at d0 d1 HF
      clear c0 c1 hx hcell hgw hc
      by_cases he : X1 = s
      · have hres : R = true := by
          rw [HR.out]
          have : (l.take (k + 1)).any (fun x => decide (x.1 = s)) = true := by rw [htk, List.any_append]; simp [he]
          obtain ⟨y, hy, hys⟩ := List.any_eq_true.1 this
          exact List.any_eq_true.2 ⟨y, List.mem_of_mem_take hy, hys⟩
        have Hres := Lib.hid hres
        rw [decide_eq_true he] at HF
        clear hres htk he
        go_wp2_with (go_at_call 100; (with_reducible refine HF.out.mono ?_); rintro r w2 ⟨rfl, e2⟩)
        go_ret
        exact ⟨⟨_, rfl, by rw [Hres.out]; exact decide_eq_true (by omega)⟩, after hb.out e2⟩
      · have hno2 : ((l.take (k + 1)).any fun x => decide (x.1 = s)) = false := by rw [htk, List.any_append, hno.out]; simp [he]
        have Hno2 := Lib.hid hno2
        rw [decide_eq_false he] at HF
        clear hno2 htk he
        go_wp2_with (go_at_call 100; (with_reducible refine HF.out.mono ?_); rintro r w2 ⟨rfl, e2⟩)
        go_roundw
        case rel => exact ⟨k + 1, by omega, by go_num, Lib.hid (after hb.out e2), Hno2⟩
        case measure => simp [intOf]; omega
    · obtain rfl : k = N := by omega
      have hres : R = false := by
        have := hno.out
        rw [List.take_of_length_le (by have := HN.out; omega)] at this
        rw [HR.out]
        exact this
      have Hres := Lib.hid hres
      clear hres
      go_wp2_with fail
      go_ret
      exact ⟨⟨_, rfl, by rw [Hres.out]; rfl⟩, hb.out⟩

set_option maxHeartbeats 4000000 in
set_option maxRecDepth 100000 in
theorem containsN_any {w : World} (l : List (ByteArray × Value)) (hl : l.length ≤ 4000000) (lv : Value) (hr : RowR w lv l.length 2 (nmCells l)) (g : Nat) (s : ByteArray) (hg : w.cell? ⟨g, 0, none⟩ = some (.string s)) :
    Calls Tryz.prog 99 #[lv, .func (.func 100) #[] #[.pointer (some ⟨g, 0, none⟩)]] w (Got (.bool (l.any fun x => decide (x.1 = s))) w) := by
  have HI := Lib.hid (indexN_any l hl lv hr g s hg)
  generalize (l.any fun x => decide (x.1 = s)) = R at HI ⊢
  clear hg hr
  go_enter Tryz.func99, Tryz.ntmps99
  go_wp2_with (go_at_call 127; (with_reducible refine HI.out.mono ?_); rintro r w2 ⟨⟨i, rfl, hi⟩, e2⟩)
  refine bodyPost_ret (results_tmp rfl _ _ _) rfl ⟨?_, e2⟩
  rw [← hi]
  rfl

set_option maxHeartbeats 4000000 in
set_option maxRecDepth 100000 in
theorem has_any {w : World} (l : List (ByteArray × Value)) (hl : l.length ≤ 4000000) (lv : Value) (hr : RowR w lv l.length 2 (nmCells l)) (s : ByteArray) :
    Calls Tryz.prog 62 #[lv, .string s] w (Got (.bool (l.any fun x => decide (x.1 = s))) w) := by
  have hb0 := boxed w (.cells #[.string s] 9)
  have hg : (w.alloc (.cells #[.string s] 9)).cell? ⟨w.heap.size, 0, none⟩ = some (.string s) := (Blk.new w 9 #[.string s]).cell 0
  have HI := Lib.hid (containsN_any l hl lv (hr.below hb0) w.heap.size s hg)
  generalize (l.any fun x => decide (x.1 = s)) = R at HI ⊢
  have hmf : ∀ (fn : Fn) (first cap : Array Value) (w : World), (Instr.makeFunc fn first cap).run Tryz.prog w = .ok (.func fn first cap) w := fun _ _ _ _ => rfl
  clear hg hr
  go_enter Tryz.func62, Tryz.ntmps62
  go_wp2_with (go_at_call 99; (with_reducible refine HI.out.mono ?_); rintro r w2 ⟨rfl, e2⟩)
  go_ret
  exact ⟨rfl, after hb0 e2⟩
end Go.Proofs.YtbiglifngfgffaaGreatDoor

/- Is a host told? (Printed by pl_hosts.py.) -/
namespace Go.Proofs.YtbiglifngfgffaaGreatDoor
open Go.RowKit
attribute [local go_sem ↓] Go.wp_at_zero Go.wp_at_succ

/- A row of hosts. -/
def hsCells (l : List Hs) : List Value := l.flatMap fun x => [Value.string x.name, .bool x.net.a.v6, .int .u64 (x.net.a.hi : Int), .int .u64 (x.net.a.lo : Int), .int .u8 (x.net.bits : Int)]
theorem hsCells_at : ∀ (l : List Hs) (k : Nat) (x : Hs), l[k]? = some x → (hsCells l)[k * 5]? = some (.string x.name) ∧ (hsCells l)[k * 5 + 1]? = some (.bool x.net.a.v6) ∧ (hsCells l)[k * 5 + 2]? = some (.int .u64 (x.net.a.hi : Int)) ∧ (hsCells l)[k * 5 + 3]? = some (.int .u64 (x.net.a.lo : Int)) ∧ (hsCells l)[k * 5 + 4]? = some (.int .u8 (x.net.bits : Int)) := by
  intro l
  induction l with
  | nil => intro k x h; cases h
  | cons y r ih =>
    intro k x h
    cases k with
    | zero => injection h with h; subst h; exact ⟨rfl, rfl, rfl, rfl, rfl⟩
    | succ k =>
      rw [show (k + 1) * 5 = k * 5 + 1 + 1 + 1 + 1 + 1 by omega]
      exact ih k x h

set_option maxHeartbeats 2000000 in
set_option maxRecDepth 100000 in
theorem hasH1_any {w : World} (g : Nat) (s x : ByteArray) (v1 : Bool) (v2 v3 v4 : Int) (hg : w.cell? ⟨g, 0, none⟩ = some (.string s)) : Calls Tryz.prog 102 #[.agg #[.string x, .bool v1, .int .u64 v2, .int .u64 v3, .int .u8 v4], .pointer (some ⟨g, 0, none⟩)] w (Got (.bool (decide (x = s))) w) := by
  have hx := Blk.new w 53 #[.string x, .bool v1, .int .u64 v2, .int .u64 v3, .int .u8 v4]
  have hb := boxed w (.cells #[.string x, .bool v1, .int .u64 v2, .int .u64 v3, .int .u8 v4] 53)
  have hg2 := (hb.cell (p := ⟨g, 0, none⟩) (World.block_lt_of_cell? w _ hg)).trans hg
  have x0 := hx.cell 0
  simp at x0
  have hd : (x.toList == s.toList) = decide (x = s) := by
    by_cases e : x = s
    · subst e; simp
    · rw [decide_eq_false e, beq_eq_false_iff_ne]
      intro h
      rw [ByteArray.toList_eq, ByteArray.toList_eq] at h
      exact e (ByteArray.ext (Array.ext' h))
  obtain ⟨D, hD⟩ : ∃ D, D = decide (x = s) := ⟨_, rfl⟩
  rw [← hD] at hd ⊢
  clear hD hx
  go_enter Tryz.func102, Tryz.ntmps102
  go_wp2_with fail
  go_ret
  exact ⟨rfl, hb⟩


set_option maxHeartbeats 4000000 in
set_option maxRecDepth 100000 in
theorem indexH_any {w : World} (l : List Hs) (hl : l.length ≤ 4000000) (lv : Value) (hr : RowR w lv l.length 5 (hsCells l)) (g : Nat) (s : ByteArray) (hg : w.cell? ⟨g, 0, none⟩ = some (.string s)) :
    Calls Tryz.prog 128 #[lv, .func (.func 102) #[] #[.pointer (some ⟨g, 0, none⟩)]] w (IxGot (l.any fun x => decide (x.name = s)) w) := by
  obtain ⟨A, cap, rfl, hlen, hA⟩ := hr
  obtain ⟨N, hN⟩ : ∃ n, n = l.length := ⟨_, rfl⟩
  obtain ⟨R, hR⟩ : ∃ r, r = l.any fun x => decide (x.name = s) := ⟨_, rfl⟩
  rw [← hN] at hA hl ⊢
  rw [← hR]
  have HA := Lib.hid hA
  have HN := Lib.hid hN
  have HR := Lib.hid hR
  have Hg := Lib.hid hg
  clear hA hN hlen hR hg
  go_enter Tryz.func128, Tryz.ntmps128
  go_wp2_with fail
  go_loopw [8] (fun v8 wr => ∃ k : Nat, k ≤ N ∧ v8 = .int .i64 (k : Int) ∧ RowKit.Hid (Below w.heap.size w wr) ∧ RowKit.Hid (((l.take k).any fun x => decide (x.name = s)) = false)) (fun v8 _ => N - (intOf v8).toNat)
  case atStart => exact ⟨0, Nat.zero_le _, rfl, Lib.hid (Below.refl _ _), Lib.hid rfl⟩
  case round =>
    obtain ⟨k, hk, rfl, hb, hno⟩ := hrel
    by_cases hlt : k < N
    · have hkl : k < l.length := by have := HN.out; omega
      obtain ⟨q, o, rfl, hc⟩ := HA.out (by omega)
      have htk := List.take_succ_eq_append_getElem hkl
      have hx : l[k]? = some l[k] := List.getElem?_eq_getElem hkl
      have hcell := hsCells_at l k _ hx
      have c0 := hc _ _ hcell.1
      have c1 := hc _ _ hcell.2.1
      have c2 := hc _ _ hcell.2.2.1
      have c3 := hc _ _ hcell.2.2.2.1
      have c4 := hc _ _ hcell.2.2.2.2
      generalize l[k] = X at htk c0 c1 c2 c3 c4
      have d0 := (hb.out.cell (World.block_lt_of_cell? w _ c0)).trans c0
      have d1 := (hb.out.cell (World.block_lt_of_cell? w _ c1)).trans c1
      have d2 := (hb.out.cell (World.block_lt_of_cell? w _ c2)).trans c2
      have d3 := (hb.out.cell (World.block_lt_of_cell? w _ c3)).trans c3
      have d4 := (hb.out.cell (World.block_lt_of_cell? w _ c4)).trans c4
      rw [← Nat.add_assoc] at d1 d2 d3 d4
      have hgw := (hb.out.cell (World.block_lt_of_cell? w _ Hg.out)).trans Hg.out
      have HF := Lib.hid (hasH1_any (w := wr) g s X.name X.net.a.v6 X.net.a.hi X.net.a.lo X.net.bits hgw)
      obtain ⟨X1, ⟨⟨X2, X3, X4⟩, X5⟩⟩ := X
      simp only at d0 d1 d2 d3 d4 HF
      clear c0 c1 c2 c3 c4 hx hcell hgw hc
      by_cases he : X1 = s
      · have hres : R = true := by
          rw [HR.out]
          have : (l.take (k + 1)).any (fun x => decide (x.name = s)) = true := by rw [htk, List.any_append]; simp [he]
          obtain ⟨y, hy, hys⟩ := List.any_eq_true.1 this
          exact List.any_eq_true.2 ⟨y, List.mem_of_mem_take hy, hys⟩
        have Hres := Lib.hid hres
        rw [decide_eq_true he] at HF
        clear hres htk he
        go_wp2_with (go_at_call 102; (with_reducible refine HF.out.mono ?_); rintro r w2 ⟨rfl, e2⟩)
        go_ret
        exact ⟨⟨_, rfl, by rw [Hres.out]; exact decide_eq_true (by omega)⟩, after hb.out e2⟩
      · have hno2 : ((l.take (k + 1)).any fun x => decide (x.name = s)) = false := by rw [htk, List.any_append, hno.out]; simp [he]
        have Hno2 := Lib.hid hno2
        rw [decide_eq_false he] at HF
        clear hno2 htk he
        go_wp2_with (go_at_call 102; (with_reducible refine HF.out.mono ?_); rintro r w2 ⟨rfl, e2⟩)
        go_roundw
        case rel => exact ⟨k + 1, by omega, by go_num, Lib.hid (after hb.out e2), Hno2⟩
        case measure => simp [intOf]; omega
    · obtain rfl : k = N := by omega
      have hres : R = false := by
        have := hno.out
        rw [List.take_of_length_le (by have := HN.out; omega)] at this
        rw [HR.out]
        exact this
      have Hres := Lib.hid hres
      clear hres
      go_wp2_with fail
      go_ret
      exact ⟨⟨_, rfl, by rw [Hres.out]; rfl⟩, hb.out⟩

set_option maxHeartbeats 4000000 in
set_option maxRecDepth 100000 in
theorem containsH_any {w : World} (l : List Hs) (hl : l.length ≤ 4000000) (lv : Value) (hr : RowR w lv l.length 5 (hsCells l)) (g : Nat) (s : ByteArray) (hg : w.cell? ⟨g, 0, none⟩ = some (.string s)) :
    Calls Tryz.prog 101 #[lv, .func (.func 102) #[] #[.pointer (some ⟨g, 0, none⟩)]] w (Got (.bool (l.any fun x => decide (x.name = s))) w) := by
  have HI := Lib.hid (indexH_any l hl lv hr g s hg)
  generalize (l.any fun x => decide (x.name = s)) = R at HI ⊢
  clear hg hr
  go_enter Tryz.func101, Tryz.ntmps101
  go_wp2_with (go_at_call 128; (with_reducible refine HI.out.mono ?_); rintro r w2 ⟨⟨i, rfl, hi⟩, e2⟩)
  refine bodyPost_ret (results_tmp rfl _ _ _) rfl ⟨?_, e2⟩
  rw [← hi]
  rfl

set_option maxHeartbeats 4000000 in
set_option maxRecDepth 100000 in
theorem hasHost_any {w : World} (l : List Hs) (hl : l.length ≤ 4000000) (lv : Value) (hr : RowR w lv l.length 5 (hsCells l)) (s : ByteArray) :
    Calls Tryz.prog 63 #[lv, .string s] w (Got (.bool (l.any fun x => decide (x.name = s))) w) := by
  have hb0 := boxed w (.cells #[.string s] 9)
  have hg : (w.alloc (.cells #[.string s] 9)).cell? ⟨w.heap.size, 0, none⟩ = some (.string s) := (Blk.new w 9 #[.string s]).cell 0
  have HI := Lib.hid (containsH_any l hl lv (hr.below hb0) w.heap.size s hg)
  generalize (l.any fun x => decide (x.name = s)) = R at HI ⊢
  have hmf : ∀ (fn : Fn) (first cap : Array Value) (w : World), (Instr.makeFunc fn first cap).run Tryz.prog w = .ok (.func fn first cap) w := fun _ _ _ _ => rfl
  clear hg hr
  go_enter Tryz.func63, Tryz.ntmps63
  go_wp2_with (go_at_call 101; (with_reducible refine HI.out.mono ?_); rintro r w2 ⟨rfl, e2⟩)
  go_ret
  exact ⟨rfl, after hb0 e2⟩
end Go.Proofs.YtbiglifngfgffaaGreatDoor

/- A map with string keys in memory, known whole: its operations as equations of the run. -/
namespace Go.Proofs.YtbiglifngfgffaaGreatDoor
open Go.RowKit
open Go.ChangeMaps (setBlock)

/- An entry: its key, its value, its stamp. -/
structure SE where
  tx : ByteArray
  val : Value
  born : Nat

def SE.entry (x : SE) : MapEntry := { key := .string x.tx, val := x.val, born := x.born }
def ents (L : List SE) : Array MapEntry := (L.map SE.entry).toArray
def MBlk (w : World) (m : Nat) (L : List SE) (clock : Nat) : Prop := w.heap[m]? = some (.map (ents L) clock)

theorem bytes_beq (a b : ByteArray) : (a == b) = true ↔ a = b := by
  rw [beq_toListBytes, beq_iff_eq, ByteArray.toList_eq, ByteArray.toList_eq]
  constructor
  · intro h
    obtain ⟨⟨x⟩⟩ := a
    obtain ⟨⟨y⟩⟩ := b
    simpa using h
  · rintro rfl
    rfl
theorem bytes_beq_comm (a b : ByteArray) : (a == b) = (b == a) := by
  rw [Bool.eq_iff_iff, bytes_beq, bytes_beq]
  exact ⟨Eq.symm, Eq.symm⟩

def at_ (L : List SE) (s : ByteArray) : Option Nat := L.findIdx? fun x => x.tx == s

theorem findNow_ents (s : ByteArray) (L : List SE) : ∀ i, Instr.findNow .string (.string s) (L.map SE.entry) i = some ((at_ L s).map fun j => (i + j, (L.getD j ⟨s, undef, 0⟩).val)) := by
  unfold at_
  induction L with
  | nil => intro i; rfl
  | cons x L ih =>
    intro i
    simp only [List.map_cons, Instr.findNow, SE.entry, Instr.sameNow, List.findIdx?_cons]
    rw [bytes_beq_comm s x.tx]
    cases h : x.tx == s with
    | true => simp [List.getD_cons_zero]
    | false =>
      have := ih (i + 1)
      simp only [this]
      cases L.findIdx? (fun x => x.tx == s) with
      | none => simp
      | some j => simp; omega

section
variable {P : Program} {T K E : TypeId} {w : World} {m clock : Nat} {L : List SE}

theorem MBlk.lt (h : MBlk w m L clock) : m < w.heap.size := by
  rcases Nat.lt_or_ge m w.heap.size with h1 | h1
  · exact h1
  · unfold MBlk at h; rw [Array.getElem?_eq_none h1] at h; cases h

theorem run_getObj_map {es : Array MapEntry} {c : Nat} (h : w.heap[m]? = some (.map es c)) : (getObj m).run P w = .ok (.map es c) w := by simp [getObj, Sem.run, h]
theorem run_setObj_map {es : Array MapEntry} {c : Nat} (h : w.heap[m]? = some (.map es c)) (o' : Obj) : (setObj m o').run P w = .ok () (setBlock w m o') := by simp [setObj, Sem.run, h, setBlock]

theorem run_checkKey_gen (n : Nat) (b : Bool) (s : Value) (hK : P.underlying K = some .string) : (Instr.checkKey b (n + 1) K s).run P w = .ok () w := by
  simp [Instr.checkKey, run_underlying hK]
theorem run_checkKey_string (b : Bool) (s : Value) (hK : P.underlying K = some .string) : (Instr.checkKey b 10000 K s).run P w = .ok () w := run_checkKey_gen 9999 b s hK

theorem run_findKey_sm (s : ByteArray) (hK : P.underlying K = some .string) : (Instr.findKey K (.string s) (L.map SE.entry)).run P w = .ok ((at_ L s).map fun j => (j, (L.getD j ⟨s, undef, 0⟩).val)) w := by
  simp [Instr.findKey, run_underlying hK, findNow_ents s L 0]

theorem run_lookup_sm (hT : P.underlying T = some (.map K E)) (hK : P.underlying K = some .string) (h : MBlk w m L clock) (s : ByteArray) {j : Nat} {x : SE} (hj : at_ L s = some j) (hx : L[j]? = some x) :
    (Instr.lookup T (.map (some m)) (.string s) true).run P w = .ok (.tuple #[x.val, .bool true]) w := by
  simp [Instr.lookup, run_underlying hT, run_getObj_map h, run_checkKey_string _ _ hK, ents, run_findKey_sm s hK, hj, hx, List.getD_eq_getElem?_getD]

theorem run_lookup_sm_none (hT : P.underlying T = some (.map K E)) (hK : P.underlying K = some .string) (h : MBlk w m L clock) (s : ByteArray) (hj : at_ L s = none) {z : Value} (hz : (zeroValue E).run P w = .ok z w) :
    (Instr.lookup T (.map (some m)) (.string s) true).run P w = .ok (.tuple #[z, .bool false]) w := by
  simp [Instr.lookup, run_underlying hT, run_getObj_map h, run_checkKey_string _ _ hK, ents, run_findKey_sm s hK, hj, hz]

theorem run_update_sm (hT : P.underlying T = some (.map K E)) (hK : P.underlying K = some .string) (h : MBlk w m L clock) (s : ByteArray) (hj : at_ L s = none) (v : Value) :
    (Instr.mapUpdate T (.map (some m)) (.string s) v).run P w = .ok () (setBlock w m (.map (ents (L ++ [⟨s, v, clock⟩])) (clock + 1))) := by
  simp [Instr.mapUpdate, run_underlying hT, run_getObj_map h, run_checkKey_string _ _ hK, ents, run_findKey_sm s hK, hj, run_setObj_map h, SE.entry]

theorem ents_erase (L : List SE) (j : Nat) : (ents L).eraseIdxIfInBounds j = ents (L.eraseIdx j) := by
  unfold ents
  rw [Go.ChangeMaps.map_eraseIdx]
  simp [Array.eraseIdxIfInBounds]
  intro h
  rw [List.eraseIdx_of_length_le (by simpa using h)]

theorem run_delete_sm (hT : P.underlying T = some (.map K E)) (hK : P.underlying K = some .string) (h : MBlk w m L clock) (s : ByteArray) {j : Nat} (hj : at_ L s = some j) (u : TypeId) (ty : TypeId) :
    (Builtin.delete_ #[T, u] ty #[.map (some m), .string s]).run P w = .ok (.tuple #[]) (setBlock w m (.map (ents (L.eraseIdx j)) clock)) := by
  have hf := run_findKey_sm (P := P) (w := w) (L := L) s hK
  rw [hj] at hf
  have he : (ents L).toList = L.map SE.entry := by simp [ents]
  simp [Builtin.delete_, run_underlying hT, run_getObj_map h, run_checkKey_string _ _ hK, he, hf, run_setObj_map h, ents_erase]

theorem Keeps.setBlock {S : Nat → Prop} {a : World} {r : Nat} (h : Keeps S a w) (hr : S r ∨ a.heap.size ≤ r) (o : Obj) : Keeps S a (setBlock w r o) :=
  ⟨h.os, h.tape, h.output, by simpa [Go.ChangeMaps.setBlock] using h.size, fun k hk hs => by
    have : r ≠ k := by rintro rfl; rcases hr with h1 | h1; exact hs h1; omega
    rw [← h.block k hk hs]
    simp [Go.ChangeMaps.setBlock, Array.getElem?_setIfInBounds, this]⟩

theorem MBlk.keep {S : Nat → Prop} {w' : World} (h : MBlk w m L clock) (hk : Keeps S w w') (hg : ¬ S m) : MBlk w' m L clock := (hk.block m h.lt hg).trans h
theorem MBlk.below {B : Nat} {w' : World} (h : MBlk w m L clock) (hb : Below B w w') (hg : m < B) : MBlk w' m L clock := (hb.block m hg).trans h
theorem MBlk.drewN (h : MBlk w m L clock) (n : Nat) : MBlk (w.drewN n) m L clock := h
theorem MBlk.set_ (h : MBlk w m L clock) (L' : List SE) (c' : Nat) : MBlk (setBlock w m (.map (ents L') c')) m L' c' := by
  have := h.lt
  unfold MBlk Go.ChangeMaps.setBlock
  simp [this]

/- A store at a key that is not there, and a delete of one that is: as a new world. -/
theorem update_sm (hT : P.underlying T = some (.map K E)) (hK : P.underlying K = some .string) (h : MBlk w m L clock) (s : ByteArray) (hj : at_ L s = none) (v : Value) :
    ∃ W, (Instr.mapUpdate T (.map (some m)) (.string s) v).run P w = .ok () W ∧ (Instr.mapUpdate T (.map (some m)) (.string s) v).run P w.drew = .ok () W.drew ∧ (∀ n, (Instr.mapUpdate T (.map (some m)) (.string s) v).run P (w.drewN n) = .ok () (W.drewN n)) ∧ Keeps (fun g => g = m) w W ∧ MBlk W m (L ++ [⟨s, v, clock⟩]) (clock + 1) :=
  ⟨setBlock w m (.map (ents (L ++ [(⟨s, v, clock⟩ : SE)])) (clock + 1)), run_update_sm hT hK h s hj v, run_update_sm (w := w.drew) hT hK h s hj v, fun n => run_update_sm hT hK (h.drewN n) s hj v, (Keeps.refl (fun g => g = m) w).setBlock (.inl rfl) _, h.set_ _ _⟩

theorem delete_sm (hT : P.underlying T = some (.map K E)) (hK : P.underlying K = some .string) (h : MBlk w m L clock) (s : ByteArray) {j : Nat} (hj : at_ L s = some j) :
    ∃ W, (∀ u ty, (Builtin.delete_ #[T, u] ty #[.map (some m), .string s]).run P w = .ok (.tuple #[]) W) ∧ (∀ n u ty, (Builtin.delete_ #[T, u] ty #[.map (some m), .string s]).run P (w.drewN n) = .ok (.tuple #[]) (W.drewN n)) ∧ Keeps (fun g => g = m) w W ∧ MBlk W m (L.eraseIdx j) clock :=
  ⟨setBlock w m (.map (ents (L.eraseIdx j)) clock), fun u ty => run_delete_sm hT hK h s hj u ty, fun n u ty => run_delete_sm hT hK (h.drewN n) s hj u ty, (Keeps.refl (fun g => g = m) w).setBlock (.inl rfl) _, h.set_ _ _⟩

def Iter (w : World) (r m since : Nat) (seen : Array Nat) (last : Nat) : Prop := w.heap[r]? = some (.mapIter (some m) since seen last)

theorem Iter.lt {r since last : Nat} {seen : Array Nat} (h : Iter w r m since seen last) : r < w.heap.size := by
  rcases Nat.lt_or_ge r w.heap.size with h1 | h1
  · exact h1
  · unfold Iter at h; rw [Array.getElem?_eq_none h1] at h; cases h

theorem run_range_sm (hT : P.underlying T = some (.map K E)) (h : MBlk w m L clock) : (Instr.range T (.map (some m))).run P w = .ok (.pointer (some ⟨w.heap.size, 0, none⟩)) (w.alloc (.mapIter (some m) clock #[] clock)) := by
  simp [Instr.range, run_underlying hT, run_getObj_map h]
theorem iter_new (w : World) (m clock : Nat) : Iter (w.alloc (.mapIter (some m) clock #[] clock)) w.heap.size m clock #[] clock := heap_alloc_new w _

/- One step of a range: nothing is left; or an entry that was not seen comes, and is seen. -/
theorem next_sm (ty : TypeId) {r since last : Nat} {seen : Array Nat} (hi : Iter w r m since seen last) (h : MBlk w m L clock) (hold : ∀ x ∈ L, x.born < since) (hsl : since ≤ last) (hn : (L.map (·.born)).Nodup) :
    ((∀ x ∈ L, x.born ∈ seen) ∧ (Instr.next (.pointer (some ⟨r, 0, none⟩)) false ty).run P w = .ok (.tuple #[.bool false]) w) ∨
    ∃ x ∈ L, x.born ∉ seen ∧ ∃ W, (Instr.next (.pointer (some ⟨r, 0, none⟩)) false ty).run P w = .ok (.tuple #[.bool true, .string x.tx, x.val]) W ∧
      (Instr.entry (.pointer (some ⟨r, 0, none⟩))).run P W = .ok (.tuple #[.string x.tx, x.val]) W ∧ Keeps (fun g => g = r) w W ∧ Iter W r m since (seen.push x.born) clock ∧ MBlk W m L clock := by
  have hmem : ∀ x ∈ (ents L).toList, ∃ y ∈ L, x = y.entry := by
    intro x hx
    simp only [ents, List.mem_map] at hx
    obtain ⟨y, hy, rfl⟩ := hx
    exact ⟨y, hy, rfl⟩
  have hold' : ∀ x ∈ (ents L).toList, x.born < since := by
    intro x hx
    obtain ⟨y, hy, rfl⟩ := hmem x hx
    exact hold y hy
  have hrm : r ≠ m := by
    rintro rfl
    unfold Iter at hi
    unfold MBlk at h
    rw [hi] at h
    cases h
  rcases run_next_at (P := P) w ty r m since last seen (ents L) clock hi h hold' hsl with ⟨h0, hrun⟩ | ⟨e, he, w1, hw1, hrun⟩
  · refine .inl ⟨fun x hx => ?_, hrun⟩
    have h1 : leftOf (ents L) seen = #[] := Array.eq_empty_of_size_eq_zero h0
    unfold leftOf at h1
    rw [Array.filter_eq_empty_iff] at h1
    have := h1 x.entry (by simp only [ents, List.mem_toArray]; exact List.mem_map_of_mem hx)
    simpa [SE.entry] using this
  · right
    have he' : e ∈ (ents L).toList ∧ e.born ∉ seen := by
      unfold leftOf at he
      simpa using he
    obtain ⟨y, hy, rfl⟩ := hmem e he'.1
    refine ⟨y, hy, he'.2, setBlock w1 r (.mapIter (some m) since (seen.push y.born) clock), hrun, ?_, ?_, ?_, ?_⟩
    all_goals
      have hw : w1.heap = w.heap := by rcases hw1 with rfl | rfl <;> rfl
      have hlt : r < w1.heap.size := by rw [hw]; exact hi.lt
    · refine run_entry_at _ r m since seen (ents L) clock y.entry ?_ ?_ he'.1 ?_
      · simp [Go.ChangeMaps.setBlock, hlt, SE.entry]
      · have : w1.heap[m]? = some (.map (ents L) clock) := by rw [hw]; exact h
        simpa [Go.ChangeMaps.setBlock, Array.getElem?_setIfInBounds, hrm] using this
      · have e1 : (ents L).toList.map (fun x => x.born) = L.map (fun x => x.born) := by simp [ents, SE.entry, Function.comp_def]
        rw [e1]
        exact hn
    · have k0 : Keeps (fun g => g = r) w w1 := by
        rcases hw1 with rfl | rfl
        · exact Keeps.refl _ _
        · exact (Keeps.refl _ _).drew
      exact k0.setBlock (.inl rfl) _
    · simp [Iter, Go.ChangeMaps.setBlock, hlt]
    · have : w1.heap[m]? = some (.map (ents L) clock) := by rw [hw]; exact h
      simpa [MBlk, Go.ChangeMaps.setBlock, Array.getElem?_setIfInBounds, hrm] using this

/- How many entries the iterator in block r has not seen. -/
def unseen (L : List SE) (r : Nat) (w : World) : Nat :=
  match w.heap[r]? with
  | some (.mapIter _ _ seen _) => (L.filter fun x => !seen.contains x.born).length
  | _ => 0
theorem unseen_eq {r since last : Nat} {seen : Array Nat} (h : Iter w r m since seen last) (L : List SE) : unseen L r w = (L.filter fun x => !seen.contains x.born).length := by
  unfold Iter at h
  unfold unseen
  rw [h]

theorem filter_len_lt {α : Type} (p q : α → Bool) (L : List α) (hpq : ∀ x, q x = true → p x = true) {a : α} (ha : a ∈ L) (hp : p a = true) (hq : q a = false) : (L.filter q).length < (L.filter p).length := by
  induction L with
  | nil => cases ha
  | cons y L ih =>
    have hle : (L.filter q).length ≤ (L.filter p).length := by
      clear ih ha
      induction L with
      | nil => simp
      | cons z L ih =>
        simp only [List.filter_cons]
        cases hz : q z with
        | true => simp [hpq z hz]; exact ih
        | false =>
          cases p z with
          | true => simp; omega
          | false => simpa using ih
    simp only [List.filter_cons]
    rcases List.mem_cons.1 ha with rfl | ha
    · simp [hp, hq]; omega
    · have := ih ha
      cases hy : q y with
      | true => simp [hpq y hy]; omega
      | false =>
        cases p y with
        | true => simp; omega
        | false => simpa using this

theorem unseen_lt {L : List SE} {seen : Array Nat} {x : SE} (hx : x ∈ L) (hn : x.born ∉ seen) : (L.filter fun y => !(seen.push x.born).contains y.born).length < (L.filter fun y => !seen.contains y.born).length := by
  refine filter_len_lt _ _ L (fun y hy => ?_) hx ?_ ?_
  · simp at hy ⊢
    exact hy.1
  · simpa using hn
  · simp

end
end Go.Proofs.YtbiglifngfgffaaGreatDoor

/- The document's guess, step by step: the plain law. -/
namespace Go.Proofs.YtbiglifngfgffaaGreatDoor

theorem fold16_app0 (l : List Nat) : ∀ m, fold16 (l ++ List.replicate m 0) = fold16 l * 65536 ^ m := by
  intro m
  induction m with
  | zero => simp
  | succ m ih =>
    rw [List.replicate_succ', ← List.append_assoc]
    unfold fold16 at ih ⊢
    rw [List.foldl_append, ih]
    simp [Nat.pow_succ, Nat.mul_assoc]
theorem lor_shift {A x m : Nat} (hx : x < 65536) : A * 65536 ^ (m + 1) ||| x * 65536 ^ m = (A * 65536 + x) * 65536 ^ m := by
  have e : (65536 : Nat) ^ m = 2 ^ (16 * m) := by rw [Nat.pow_mul]
  have h := Nat.shiftLeft_add_eq_or_of_lt (i := 16) (b := x) (by omega) A
  rw [Nat.shiftLeft_eq, show (2 : Nat) ^ 16 = 65536 from rfl] at h
  rw [Nat.pow_succ, Nat.mul_comm (65536 ^ m) 65536, ← Nat.mul_assoc, h, e, ← Nat.shiftLeft_eq, ← Nat.shiftLeft_eq, ← Nat.shiftLeft_eq, Nat.shiftLeft_or_distrib]
/- How far the halves are, behind i numbers. -/
def hiAt (p : List Nat) (i : Nat) : Nat := fold16 ((p.take i).take 4) * 65536 ^ (4 - i)
def loAt (p : List Nat) (i : Nat) : Nat := fold16 ((p.take i).drop 4) * 65536 ^ (8 - (if i < 4 then 4 else i))
theorem fold16_last (l : List Nat) (x : Nat) : fold16 (l ++ [x]) = fold16 l * 65536 + x := by unfold fold16; rw [List.foldl_append]; rfl
theorem take_snoc_nat {p : List Nat} {i : Nat} (hi : i < p.length) : p.take (i + 1) = p.take i ++ [p.getD i 0] := by
  rw [List.take_succ_eq_append_getElem hi, List.getD_eq_getElem?_getD, List.getElem?_eq_getElem hi]
  rfl
theorem fold16_pow {l : List Nat} (h : ∀ x ∈ l, x < 65536) : fold16 l < 65536 ^ l.length := by
  have := fold16_lt l 0 1 h (by decide)
  rwa [Nat.one_mul] at this
theorem hi_step {p : List Nat} {i : Nat} (hp : ∀ x ∈ p, x < 65536) (hi : i < p.length) (h4 : i < 4) : hiAt p i ||| p.getD i 0 * 65536 ^ (3 - i) = hiAt p (i + 1) ∧ loAt p i = loAt p (i + 1) ∧ hiAt p i < 18446744073709551616 ∧ p.getD i 0 * 65536 ^ (3 - i) < 18446744073709551616 := by
  have hx : p.getD i 0 < 65536 := by
    rw [List.getD_eq_getElem?_getD, List.getElem?_eq_getElem hi]
    exact hp _ (List.getElem_mem hi)
  have hl : (p.take i).length = i := by rw [List.length_take]; omega
  have hb := fold16_pow (take_lt hp (k := i))
  rw [hl] at hb
  have e1 : (p.take i).take 4 = p.take i := List.take_of_length_le (by omega)
  have e2 : (p.take (i + 1)).take 4 = p.take (i + 1) := List.take_of_length_le (by rw [List.length_take]; omega)
  have h2 : fold16 (p.take i) * 65536 ^ (4 - i) < 18446744073709551616 := by
    have : fold16 (p.take i) * 65536 ^ (4 - i) < 65536 ^ i * 65536 ^ (4 - i) := Nat.mul_lt_mul_of_pos_right hb (Nat.pow_pos (by decide))
    rw [← Nat.pow_add, show i + (4 - i) = 4 by omega] at this
    exact this
  refine ⟨?_, ?_, by unfold hiAt; rw [e1]; exact h2, ?_⟩
  · unfold hiAt
    rw [e1, e2, show 4 - i = (3 - i) + 1 by omega, lor_shift hx, take_snoc_nat hi, fold16_last, show 4 - (i + 1) = 3 - i by omega]
  · unfold loAt
    rw [List.drop_of_length_le (by omega), List.drop_of_length_le (by rw [List.length_take]; omega)]
    simp [fold16]
  · have : p.getD i 0 * 65536 ^ (3 - i) < 65536 * 65536 ^ (3 - i) := Nat.mul_lt_mul_of_pos_right hx (Nat.pow_pos (by decide))
    have h3 : 65536 * 65536 ^ (3 - i) ≤ 65536 * 65536 ^ 3 := Nat.mul_le_mul_left _ (Nat.pow_le_pow_right (by decide) (by omega))
    omega
theorem lo_step {p : List Nat} {i : Nat} (hp : ∀ x ∈ p, x < 65536) (hi : i < p.length) (h4 : 4 ≤ i) (h8 : i < 8) : loAt p i ||| p.getD i 0 * 65536 ^ (7 - i) = loAt p (i + 1) ∧ hiAt p i = hiAt p (i + 1) ∧ loAt p i < 18446744073709551616 ∧ p.getD i 0 * 65536 ^ (7 - i) < 18446744073709551616 := by
  have hx : p.getD i 0 < 65536 := by
    rw [List.getD_eq_getElem?_getD, List.getElem?_eq_getElem hi]
    exact hp _ (List.getElem_mem hi)
  have hl : ((p.take i).drop 4).length = i - 4 := by rw [List.length_drop, List.length_take]; omega
  have hb := fold16_pow (drop_lt (take_lt hp (k := i)) (k := 4))
  rw [hl] at hb
  have h2 : fold16 ((p.take i).drop 4) * 65536 ^ (8 - i) < 18446744073709551616 := by
    have : fold16 ((p.take i).drop 4) * 65536 ^ (8 - i) < 65536 ^ (i - 4) * 65536 ^ (8 - i) := Nat.mul_lt_mul_of_pos_right hb (Nat.pow_pos (by decide))
    rw [← Nat.pow_add, show i - 4 + (8 - i) = 4 by omega] at this
    exact this
  refine ⟨?_, ?_, by unfold loAt; rw [if_neg (by omega)]; exact h2, ?_⟩
  · unfold loAt
    rw [if_neg (by omega), if_neg (by omega), show 8 - i = (7 - i) + 1 by omega, lor_shift hx, take_snoc_nat hi, List.drop_append_of_le_length (by rw [List.length_take]; omega), fold16_last, show 8 - (i + 1) = 7 - i by omega]
  · unfold hiAt
    rw [take_snoc_nat hi, List.take_append_of_le_length (by rw [List.length_take]; omega), show 4 - (i + 1) = 4 - i by omega]
  · have : p.getD i 0 * 65536 ^ (7 - i) < 65536 * 65536 ^ (7 - i) := Nat.mul_lt_mul_of_pos_right hx (Nat.pow_pos (by decide))
    have h3 : 65536 * 65536 ^ (7 - i) ≤ 65536 * 65536 ^ 3 := Nat.mul_le_mul_left _ (Nat.pow_le_pow_right (by decide) (by omega))
    omega
theorem at_end (p : List Nat) (i : Nat) (hi : i ≤ 8) (hip : i ≤ p.length) (he : i = 8 ∨ p.length ≤ i) : hiAt p i = fold16 ((padR p).take 4) ∧ loAt p i = fold16 ((padR p).drop 4) := by
  have hl : (p.take i).length = i := by rw [List.length_take]; omega
  have hpad : padR p = p.take i ++ List.replicate (8 - i) 0 := by
    unfold padR
    rw [List.take_append, List.take_replicate]
    rcases he with rfl | he
    · rw [show min (8 - p.length) 8 = 8 - 8 by omega]
    · have : i = p.length := by omega
      subst this
      rw [List.take_of_length_le (show p.length ≤ 8 by omega), List.take_of_length_le (Nat.le_refl _), show min (8 - p.length) 8 = 8 - p.length by omega]
  rw [hpad]
  unfold hiAt loAt
  generalize p.take i = q at hl ⊢
  constructor
  · rw [List.take_append, hl, List.take_replicate]
    by_cases h : i ≤ 4
    · rw [List.take_of_length_le (show q.length ≤ 4 by omega), fold16_app0, show min (4 - i) (8 - i) = 4 - i by omega]
    · rw [show min (4 - i) (8 - i) = 0 by omega, show 4 - i = 0 by omega]
      simp
  · rw [List.drop_append, hl, List.drop_replicate, fold16_app0]
    split
    · next h =>
      rw [List.drop_of_length_le (by omega)]
      simp [fold16]
    · next h => rw [show 8 - i - (4 - i) = 8 - i by omega]
end Go.Proofs.YtbiglifngfgffaaGreatDoor
