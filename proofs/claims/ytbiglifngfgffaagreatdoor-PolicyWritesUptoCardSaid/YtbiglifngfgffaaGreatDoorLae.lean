/- Joined out of: PlD PlE PlF PlG Sm TwB PfA PfB. -/
import Derived.Test.YtbiglifngfgffaaGreatDoorLad
import Derived.BigRegion
import Derived.Deep.RegionHeld3
import Derived.Test.YtbiglifngfgffaaGreatDoorLab
import Derived.Maps.RangeRun
import Derived.Laws.BitsAllLaws
import Derived.BigQuiet
import Derived.Deep.QuietTactic
set_option linter.unusedVariables false
set_option linter.unusedSimpArgs false

/- The reader of a line: how it gives up, and its next word: the walks. -/
namespace Go.Proofs.YtbiglifngfgffaaGreatDoor
open Go.RowKit
attribute [local go_sem ↓] Go.wp_at_zero Go.wp_at_succ

/- A row of words in memory. -/
def WRow (w : World) (lv : Value) (ws : List ByteArray) (n : Nat) : Prop := ∃ base, w.ownsRow base 89 3 lv ws.length (wcells n 0 ws)
theorem WRow.shape {w : World} {lv : Value} {ws : List ByteArray} {n : Nat} (h : WRow w lv ws n) (hne : ws ≠ []) : ∃ g cap, lv = .slice (some ⟨g, 0, none⟩) ws.length cap ∧ ws.length ≤ cap ∧ (∃ cur, Blk w g 89 cur) ∧ ∀ j, j < ws.length * 3 → w.cell? ⟨g, j, none⟩ = (wcells n 0 ws)[j]? := by
  obtain ⟨base, h⟩ := h
  rcases h.2 with ⟨_, e⟩ | ⟨g, cap, cur, e, hb, hg, hc, _⟩
  · exact absurd (List.eq_nil_of_length_eq_zero e) hne
  · subst e
    exact ⟨g, cap, rfl, hc, ⟨cur, hg⟩, fun j hj => h.cellAt j hj⟩
theorem own_keep {w w' : World} {base size n : Nat} {e : TypeId} {v : Value} {xs : List Value} {S : Nat → Prop} (h : w.ownsRow base e size v n xs) (hk : Keeps S w w') (hS : ∀ g, v.ownBlock = some g → ¬ S g) : w'.ownsRow base e size v n xs := by
  refine ⟨h.1, ?_⟩
  rcases h.2 with h2 | ⟨g, cap, cur, e1, hb, hg, rest⟩
  · exact .inl h2
  · subst e1
    exact .inr ⟨g, cap, cur, rfl, hb, (hk.block g (Array.getElem?_eq_some_iff.1 hg).1 (hS g rfl)).trans hg, rest⟩
theorem WRow.keep {w w' : World} {lv : Value} {ws : List ByteArray} {n : Nat} {S : Nat → Prop} (h : WRow w lv ws n) (hk : Keeps S w w') (hS : ∀ g, lv.ownBlock = some g → ¬ S g) : WRow w' lv ws n := by
  obtain ⟨base, h⟩ := h
  exact ⟨base, own_keep h hk hS⟩
def RdB (w : World) (b : Nat) (lv : Value) (k P : Nat) (uv : Value) : Prop := Blk w b 81 #[lv, .int .i64 (k : Int), .pointer (some ⟨P, 0, none⟩), uv]
abbrev PanicAt (e n i : Nat) : Ending := .panicked [{ v := .iface 74 (.agg #[.int .i64 (e : Int), .int .i64 (n : Int), .int .i64 (i : Int)]), recovered := false }]

set_option maxHeartbeats 4000000 in
set_option maxRecDepth 100000 in
theorem wrong_any {w : World} {b P k n : Nat} {lv uv : Value} {ws : List ByteArray} (h : RdB w b lv k P uv) (hr : WRow w lv ws n) (hne : ws ≠ []) (hws : ws.length ≤ 4000000) (hk1 : 1 ≤ k) (hk : k ≤ 4000001) (e : Nat) : Calls Tryz.prog 61 #[.pointer (some ⟨b, 0, none⟩), .int .i64 (e : Int)] w fun r w' => r = PanicAt e n (if k ≤ ws.length then k - 1 else ws.length) ∧ Below w.heap.size w w' := by
  obtain ⟨g, cap, rfl, hcap, hg, hc⟩ := hr.shape hne
  obtain ⟨s0, hs0⟩ : ∃ s0, ws[0]? = some s0 := by
    cases ws with
    | nil => exact absurd rfl hne
    | cons x r => exact ⟨x, rfl⟩
  have hl : 0 < ws.length := by
    cases ws with
    | nil => exact absurd rfl hne
    | cons x r => simp
  obtain ⟨_, w1, _⟩ := wcells_at n ws 0 0 s0 hs0
  have c1 := (hc 1 (by omega)).trans w1
  have r0 := h.cell 0
  have r1 := h.cell 1
  simp at r0 r1
  generalize ws.length = N at r0 hl hws hcap h ⊢
  have i1 : (0 : Int) < (N : Int) := by omega
  have hbx := boxed w.drew (.cells #[.int .i64 (e : Int), .int .i64 (n : Int), .int .i64 (N : Int)] 34)
  obtain ⟨I, hI⟩ : ∃ I, I = if k ≤ N then k - 1 else N := ⟨_, rfl⟩
  rw [← hI]
  have HI := Lib.hid hI
  clear hc hs0 w1 hr hI
  go_enter Tryz.func61, Tryz.ntmps61
  go_upto_region 0 with fail
  go_region_held3 (fun w' => w'.cell? ⟨b, 0, none⟩ = some (.slice (some ⟨g, 0, none⟩) N cap) ∧ w'.cell? ⟨b, 1, none⟩ = some (.int .i64 (k : Int)) ∧ w'.cell? ⟨g, 1, none⟩ = some (.int .i64 (n : Int))) (go_keep) (fail)
  have hF := (Blk.new w 34 #[.int .i64 (e : Int), .int .i64 (n : Int), .int .i64 (N : Int)]).drew
  have hb1 := (boxed w (.cells #[.int .i64 (e : Int), .int .i64 (n : Int), .int .i64 (N : Int)] 34)).drew
  have hR := (h.alloc (.cells #[.int .i64 (e : Int), .int .i64 (n : Int), .int .i64 (N : Int)] 34)).drew
  clear r0 r1 c1 hbx h
  generalize (w.alloc (.cells #[.int .i64 (e : Int), .int .i64 (n : Int), .int .i64 (N : Int)] 34)).drew = W1 at hF hb1 hR ⊢
  generalize hgF : w.heap.size = gF at hF ⊢
  have r0 := hR.cell 0
  have r1 := hR.cell 1
  have f0 := hF.cell 0
  have f1 := hF.cell 1
  have f2 := hF.cell 2
  have z2 := hF.frozen 2
  simp at r0 r1 f0 f1 f2
  by_cases hkN : k ≤ N
  · have q1 : (k : Int) ≤ (N : Int) := by omega
    have hI := HI.out
    rw [if_pos hkN] at hI
    have Hi := Lib.hid hI
    clear hI HI
    have i2 : IntKind.i64.wrap ((k : Int) - 1) = (k : Int) - 1 := by rw [IntKind.wrap_i64]; omega
    go_upto_region 1 with fail
    go_quiet (fail)
    go_wp2_with fail
    all_goals
      rw [Hi.out]
      refine ⟨rfl, ?_, (show Below w.heap.size w (W1.drewN nq) from ⟨hb1.os, hb1.tape, hb1.output, hb1.size, hb1.block⟩).setCell (Nat.le_of_eq hgF) _⟩
      unfold PanicAt
      rw [show ((k - 1 : Nat) : Int) = (k : Int) - 1 by omega]
  · have q1 : ¬ (k : Int) ≤ (N : Int) := by omega
    have hI := HI.out
    rw [if_neg hkN] at hI
    have Hi := Lib.hid hI
    clear hI HI
    go_upto_region 1 with fail
    go_quiet (fail)
    go_wp2_with fail
    all_goals
      rw [Hi.out]
      refine ⟨rfl, rfl, ?_⟩
      have hB : Below w.heap.size w (W1.drewN nq) := ⟨hb1.os, hb1.tape, hb1.output, hb1.size, hb1.block⟩
      first | exact hB | exact hgF ▸ hB
theorem keeps_then {S : Nat → Prop} {a w w' : World} (h : Keeps S a w) (k : Below w.heap.size w w') : Keeps S a w' := h.trans (Keeps.of_below k fun q hq _ => hq)
theorem setRow_keeps {w : World} {b : Nat} (p : Nat) (v : Value) : Keeps (fun x => x = b) w (w.setCell ⟨b, p, none⟩ v) := by
  refine Keeps.setCell (Keeps.refl (fun x => x = b) w) (p := ⟨b, p, none⟩) ?_ v
  exact Or.inl rfl

/- What a word that is taken comes to. -/
def TakeR (ws : List ByteArray) (k n : Nat) (r : Ending) : Prop := match ws[k]? with
  | some s => r = .returned (.string s)
  | none => r = PanicAt 190 n ws.length
theorem TakeR.some {ws : List ByteArray} {k n : Nat} {s : ByteArray} (h : ws[k]? = some s) : TakeR ws k n (.returned (.string s)) := by unfold TakeR; rw [h]
theorem TakeR.none {ws : List ByteArray} {k n N : Nat} (h : ws[k]? = none) (hN : ws.length = N) : TakeR ws k n (PanicAt 190 n N) := by unfold TakeR; rw [h, hN]

set_option maxHeartbeats 4000000 in
set_option maxRecDepth 100000 in
theorem take_any {w : World} {b P k n : Nat} {lv uv : Value} {ws : List ByteArray} (h : RdB w b lv k P uv) (hr : WRow w lv ws n) (hne : ws ≠ []) (hws : ws.length ≤ 4000000) (hk : k ≤ ws.length) : Calls Tryz.prog 29 #[.pointer (some ⟨b, 0, none⟩)] w fun r w' => Keeps (fun x => x = b) w w' ∧ RdB w' b lv (k + 1) P uv ∧ TakeR ws k n r := by
  obtain ⟨g, cap, rfl, hcap, hg, hc⟩ := hr.shape hne
  have hw := fun (w' : World) (h' : RdB w' b (.slice (some ⟨g, 0, none⟩) ws.length cap) (k + 1) P uv) (hr' : WRow w' (.slice (some ⟨g, 0, none⟩) ws.length cap) ws n) => wrong_any h' hr' hne hws (by omega) (by omega) 190
  have i1 : IntKind.i64.wrap ((k : Int) + 1) = (k : Int) + 1 := by rw [IntKind.wrap_i64]; omega
  have r0 := h.cell 0
  have r1 := h.cell 1
  have z1 := h.frozen 1
  simp at r0 r1
  obtain ⟨cur, hgB⟩ := hg
  have hgb : g ≠ b := hgB.ne_ h (by decide)
  have hK := @setRow_keeps w b 1 (.int .i64 ((k : Int) + 1))
  have hS := h.set_ 1 (.int .i64 ((k : Int) + 1))
  have hr2 := hr.keep hK (fun q hq => by injection hq with hq; rw [← hq]; exact hgb)
  have hS2 : RdB (w.setCell ⟨b, 1, none⟩ (.int .i64 ((k : Int) + 1))) b (.slice (some ⟨g, 0, none⟩) ws.length cap) (k + 1) P uv := hS
  have hw2 : k = ws.length → ∀ q, Calls Tryz.prog 61 #[.pointer (some ⟨b, 0, none⟩), .int .i64 190] ((w.setCell ⟨b, 1, none⟩ (.int .i64 ((k : Int) + 1))).drewN q) fun r w' => r = PanicAt 190 n ws.length ∧ Below ((w.setCell ⟨b, 1, none⟩ (.int .i64 ((k : Int) + 1))).drewN q).heap.size ((w.setCell ⟨b, 1, none⟩ (.int .i64 ((k : Int) + 1))).drewN q) w' := fun hkk q =>
    (hw ((w.setCell ⟨b, 1, none⟩ (.int .i64 ((k : Int) + 1))).drewN q) hS2 hr2).mono (by rintro r w' ⟨h1, h2⟩; rw [if_neg (by omega)] at h1; exact ⟨h1, h2⟩)
  clear hw
  have HS2 := Lib.hid hS2
  have HK := Lib.hid hK
  have Hgw := Lib.hid (fun j hj => (((hgB.far (p := ⟨b, 1, none⟩) hgb (.int .i64 ((k : Int) + 1))).cell j).trans (hgB.cell j).symm).trans (hc j hj))
  by_cases hkN : k < ws.length
  · obtain ⟨s, hs⟩ : ∃ s, ws[k]? = some s := ⟨_, List.getElem?_eq_getElem hkN⟩
    have c0 := (Hgw.out (k * 3) (by omega)).trans (wcells_at n ws 0 k s hs).1
    have Hs := Lib.hid hs
    have s0 := hS.cell 0
    have s1 := hS.cell 1
    simp at s0 s1
    clear hw2
    generalize hN : ws.length = N at *
    have q1 : ¬ (N : Int) < (k : Int) + 1 := by omega
    have q2 : IntKind.i64.wrap ((k : Int) + 1 - 1) = (k : Int) := by rw [IntKind.wrap_i64]; omega
    clear hr2 hS hS2 hK hc hs h hr hgB
    go_enter Tryz.func29, Tryz.ntmps29
    go_upto_region 2 with fail
    generalize w.setCell ⟨b, 1, none⟩ (.int .i64 ((k : Int) + 1)) = w1 at *
    go_quiet (fail)
    go_upto_region 4 with fail
    go_quiet (fail)
    go_wp2_with fail
    refine bodyPost_ret (results_tmp rfl _ _ _) rfl ?_
    exact ⟨⟨HK.out.os, HK.out.tape, HK.out.output, HK.out.size, HK.out.block⟩, HS2.out, TakeR.some Hs.out⟩
  · have hkN' : k = ws.length := by omega
    have hs : ws[k]? = none := List.getElem?_eq_none (by omega)
    have Hs := Lib.hid hs
    have s0 := hS.cell 0
    have s1 := hS.cell 1
    simp at s0 s1
    have HW := Lib.hid (hw2 hkN')
    clear hw2
    generalize hN : ws.length = N at *
    have q1 : (N : Int) < (k : Int) + 1 := by omega
    clear hkN' hkN hk hr2 hS hS2 hK hc hs h hr hgB
    go_enter Tryz.func29, Tryz.ntmps29
    go_upto_region 2 with fail
    generalize w.setCell ⟨b, 1, none⟩ (.int .i64 ((k : Int) + 1)) = w1 at *
    go_quiet (fail)
    go_wp2_with (go_at_call 61; (with_reducible refine (HW.out _).mono ?_); rintro r w2 ⟨rfl, d2⟩; unfold PanicAt)
    refine ⟨rfl, ?_, ?_, TakeR.none Hs.out hN⟩
    · exact keeps_then (HK.out.drewN nq) d2
    · refine Blk.below ?_ d2 ?_
      · exact HS2.out
      · exact HS2.out.lt
end Go.Proofs.YtbiglifngfgffaaGreatDoor

/- The reader's small words: the walks. -/
namespace Go.Proofs.YtbiglifngfgffaaGreatDoor
open Go.RowKit

/- A reader at its next word. -/
structure Rs (w : World) (b P k n : Nat) (lv uv : Value) (ws : List ByteArray) : Prop where
  blk : RdB w b lv k P uv
  row : WRow w lv ws n
  ne : ws ≠ []
  len : ws.length ≤ 2000000
  sizes : ∀ s ∈ ws, s.size ≤ 2000000
theorem Rs.sep {w : World} {b P k n : Nat} {lv uv : Value} {ws : List ByteArray} (h : Rs w b P k n lv uv ws) : ∀ g, lv.ownBlock = some g → g ≠ b := by
  obtain ⟨g, cap, e, _, ⟨cur, hg⟩, _⟩ := h.row.shape h.ne
  intro q hq
  rw [e] at hq
  injection hq with hq
  rw [← hq]
  exact hg.ne_ h.blk (by decide)
theorem Rs.step {w w' : World} {b P k k' n : Nat} {lv uv uv' : Value} {ws : List ByteArray} (h : Rs w b P k n lv uv ws) (hk : Keeps (fun x => x = b) w w') (hb : RdB w' b lv k' P uv') : Rs w' b P k' n lv uv' ws :=
  ⟨hb, h.row.keep hk fun g hg e => h.sep g hg e, h.ne, h.len, h.sizes⟩
theorem Rs.below {w w' : World} {b P k n : Nat} {lv uv : Value} {ws : List ByteArray} (h : Rs w b P k n lv uv ws) (hb : Below w.heap.size w w') : Rs w' b P k n lv uv ws :=
  h.step (Keeps.of_below hb fun q hq _ => hq) (h.blk.below hb h.blk.lt)
/- Where a reader that gives up says that it stands. -/
def atW (k : Nat) (ws : List ByteArray) : Nat := if k ≤ ws.length then k - 1 else ws.length
def UnlessR (is : Bool) (e n i : Nat) (r : Ending) : Prop := match is with
  | true => r = .returned (.tuple #[])
  | false => r = PanicAt e n i

theorem Rs.wrong {w : World} {b P k n : Nat} {lv uv : Value} {ws : List ByteArray} (h : Rs w b P k n lv uv ws) (hk1 : 1 ≤ k) (hk : k ≤ ws.length + 1) (e : Nat) : Calls Tryz.prog 61 #[.pointer (some ⟨b, 0, none⟩), .int .i64 (e : Int)] w fun r w' => r = PanicAt e n (atW k ws) ∧ Below w.heap.size w w' :=
  wrong_any h.blk h.row h.ne (by have := h.len; omega) hk1 (by have := h.len; omega) e

set_option maxHeartbeats 2000000 in
set_option maxRecDepth 100000 in
theorem Rs.unless {w : World} {b P k n : Nat} {lv uv : Value} {ws : List ByteArray} (h : Rs w b P k n lv uv ws) (hk1 : 1 ≤ k) (hk : k ≤ ws.length + 1) (is : Bool) (e : Nat) : Calls Tryz.prog 30 #[.pointer (some ⟨b, 0, none⟩), .bool is, .int .i64 (e : Int)] w fun r w' => UnlessR is e n (atW k ws) r ∧ Below w.heap.size w w' := by
  have HW := Lib.hid (h.wrong hk1 hk e)
  have hb0 := Below.refl w.heap.size w
  clear h hk1 hk
  cases is with
  | true =>
    go_enter Tryz.func30, Tryz.ntmps30
    go_wp2_with fail
    refine ⟨rfl, _, results_none rfl _ _ _, rfl, hb0⟩
  | false =>
    go_enter Tryz.func30, Tryz.ntmps30
    go_wp2_with (go_at_call 61; (with_reducible refine HW.out.mono ?_); rintro r w2 ⟨rfl, d2⟩; unfold PanicAt)
    exact ⟨rfl, rfl, d2⟩

set_option maxHeartbeats 2000000 in
set_option maxRecDepth 100000 in
theorem Rs.room {w : World} {b P k n : Nat} {lv uv : Value} {ws : List ByteArray} (h : Rs w b P k n lv uv ws) (hk1 : 1 ≤ k) (hk : k ≤ ws.length + 1) (m : Nat) : Calls Tryz.prog 91 #[.pointer (some ⟨b, 0, none⟩), .int .i64 (m : Int)] w fun r w' => UnlessR (decide (m < 64)) 198 n (atW k ws) r ∧ Below w.heap.size w w' := by
  have hu := h.unless hk1 hk (decide (m < 64)) 198
  clear h hk1 hk
  by_cases hm : m < 64
  · have q : (m : Int) < 64 := by omega
    rw [decide_eq_true hm] at hu ⊢
    have HU : RowKit.Hid (Calls Tryz.prog 30 #[.pointer (some ⟨b, 0, none⟩), .bool true, .int .i64 198] w fun r w' => UnlessR true 198 n (atW k ws) r ∧ Below w.heap.size w w') := Lib.hid hu
    clear hu hm
    go_enter Tryz.func91, Tryz.ntmps91
    go_wp2_with (go_at_call 30; (with_reducible refine HU.out.mono ?_); rintro r w2 ⟨h1, d2⟩; unfold UnlessR at h1; subst h1)
    refine ⟨rfl, _, results_none rfl _ _ _, rfl, d2⟩
  · have q : ¬ (m : Int) < 64 := by omega
    rw [decide_eq_false hm] at hu ⊢
    have HU : RowKit.Hid (Calls Tryz.prog 30 #[.pointer (some ⟨b, 0, none⟩), .bool false, .int .i64 198] w fun r w' => UnlessR false 198 n (atW k ws) r ∧ Below w.heap.size w w') := Lib.hid hu
    clear hu hm
    go_enter Tryz.func91, Tryz.ntmps91
    go_wp2_with (go_at_call 30; (with_reducible refine HU.out.mono ?_); rintro r w2 ⟨h1, d2⟩; unfold UnlessR at h1; subst h1; unfold PanicAt)
    exact ⟨rfl, rfl, d2⟩

set_option maxHeartbeats 2000000 in
set_option maxRecDepth 100000 in
theorem Rs.more {w : World} {b P k n : Nat} {lv uv : Value} {ws : List ByteArray} (h : Rs w b P k n lv uv ws) : Calls Tryz.prog 94 #[.pointer (some ⟨b, 0, none⟩)] w (Got (.bool (decide (k < ws.length))) w) := by
  obtain ⟨g, cap, e, hcap, _, _⟩ := h.row.shape h.ne
  have hB := h.blk
  rw [e] at hB
  have r0 := hB.cell 0
  have r1 := hB.cell 1
  simp at r0 r1
  have hl := h.len
  have hb0 := Below.refl w.heap.size w
  generalize ws.length = N at *
  have qd : decide ((k : Int) < (N : Int)) = decide (k < N) := by simp
  obtain ⟨D, hD⟩ : ∃ d, d = decide (k < N) := ⟨_, rfl⟩
  rw [← hD] at qd ⊢
  have HD := Lib.hid hD
  clear hB h e hD
  go_enter Tryz.func94, Tryz.ntmps94
  go_upto_region 1 with fail
  go_quiet (fail)
  go_wp2_with fail
  refine bodyPost_ret (results_tmp rfl _ _ _) rfl ⟨?_, ⟨rfl, rfl, rfl, Nat.le_refl _, fun _ _ => rfl⟩⟩
  rw [HD.out]
  rfl

/- A name; a word that must be one. -/
def NameR (ws : List ByteArray) (k n : Nat) (r : Ending) : Prop := match ws[k]? with
  | none => r = PanicAt 190 n ws.length
  | some s => if labelB s = true then r = .returned (.string s) else r = PanicAt 191 n k
def MustR (ws : List ByteArray) (t : ByteArray) (k n : Nat) (r : Ending) : Prop := match ws[k]? with
  | none => r = PanicAt 190 n ws.length
  | some s => if s = t then r = .returned (.tuple #[]) else r = PanicAt 190 n k
theorem Rs.take {w : World} {b P k n : Nat} {lv uv : Value} {ws : List ByteArray} (h : Rs w b P k n lv uv ws) (hk : k ≤ ws.length) : Calls Tryz.prog 29 #[.pointer (some ⟨b, 0, none⟩)] w fun r w' => (Keeps (fun x => x = b) w w' ∧ Rs w' b P (k + 1) n lv uv ws) ∧ TakeR ws k n r :=
  (take_any h.blk h.row h.ne (by have := h.len; omega) hk).mono fun r w' ⟨h1, h2, h3⟩ => ⟨⟨h1, h.step h1 h2⟩, h3⟩
theorem atW_take {k : Nat} {ws : List ByteArray} (h : k < ws.length) : atW (k + 1) ws = k := by unfold atW; rw [if_pos (by omega)]; omega

set_option maxHeartbeats 2000000 in
set_option maxRecDepth 100000 in
theorem Rs.name {w : World} {b P k n : Nat} {lv uv : Value} {ws : List ByteArray} (h : Rs w b P k n lv uv ws) (hk : k ≤ ws.length) : Calls Tryz.prog 92 #[.pointer (some ⟨b, 0, none⟩)] w fun r w' => (Keeps (fun x => x = b) w w' ∧ Rs w' b P (k + 1) n lv uv ws) ∧ NameR ws k n r := by
  have HT := Lib.hid (h.take hk)
  unfold TakeR at HT
  cases hs : ws[k]? with
  | none =>
    have hpost : ∀ r, NameR ws k n r ↔ r = PanicAt 190 n ws.length := fun r => by unfold NameR; rw [hs]
    simp only [hpost]
    rw [hs] at HT
    have HT' : RowKit.Hid (Calls Tryz.prog 29 #[.pointer (some ⟨b, 0, none⟩)] w fun r w' => (Keeps (fun x => x = b) w w' ∧ Rs w' b P (k + 1) n lv uv ws) ∧ r = PanicAt 190 n ws.length) := HT
    clear HT hs hpost h hk
    go_enter Tryz.func92, Tryz.ntmps92
    go_wp2_with (go_at_call 29; (with_reducible refine HT'.out.mono ?_); rintro r w2 ⟨d2, rfl⟩; unfold PanicAt)
    exact ⟨rfl, d2, rfl⟩
  | some s =>
    have hlt : k < ws.length := (List.getElem?_eq_some_iff.1 hs).1
    have hsz := h.sizes s (List.mem_of_getElem? hs)
    have hpost : ∀ r, NameR ws k n r ↔ (if labelB s = true then r = .returned (.string s) else r = PanicAt 191 n k) := fun r => by unfold NameR; rw [hs]
    simp only [hpost]
    rw [hs] at HT
    have HT' : RowKit.Hid (Calls Tryz.prog 29 #[.pointer (some ⟨b, 0, none⟩)] w fun r w' => (Keeps (fun x => x = b) w w' ∧ Rs w' b P (k + 1) n lv uv ws) ∧ r = .returned (.string s)) := HT
    have HL := Lib.hid fun u => label_any s (by omega) u
    have hu := fun (u : World) (hr : Rs u b P (k + 1) n lv uv ws) => hr.unless (by omega) (by omega) (labelB s) 191
    rw [atW_take hlt] at hu
    generalize labelB s = LB at *
    cases LB with
    | true =>
      simp only [if_true]
      have HU : RowKit.Hid (∀ (u : World), Rs u b P (k + 1) n lv uv ws → Calls Tryz.prog 30 #[.pointer (some ⟨b, 0, none⟩), .bool true, .int .i64 191] u fun r w' => r = .returned (.tuple #[]) ∧ Below u.heap.size u w') := Lib.hid hu
      clear HT hs hpost h hk hu hlt hsz
      go_enter Tryz.func92, Tryz.ntmps92
      go_wp2_with (first
        | (go_at_call 29; (with_reducible refine HT'.out.mono ?_); rintro r w2 ⟨⟨d2, e2⟩, rfl⟩)
        | (go_at_call 16; (with_reducible refine (HL.out _).mono ?_); rintro r w3 ⟨rfl, d3⟩)
        | (go_at_call 30; (with_reducible refine (HU.out _ (e2.below d3)).mono ?_); rintro r w4 ⟨rfl, d4⟩))
      refine bodyPost_ret (results_tmp rfl _ _ _) rfl ⟨⟨keeps_then (keeps_then d2 d3) d4, (e2.below d3).below d4⟩, rfl⟩
    | false =>
      simp only [Bool.false_eq_true, if_false]
      have HU : RowKit.Hid (∀ (u : World), Rs u b P (k + 1) n lv uv ws → Calls Tryz.prog 30 #[.pointer (some ⟨b, 0, none⟩), .bool false, .int .i64 191] u fun r w' => r = PanicAt 191 n k ∧ Below u.heap.size u w') := Lib.hid hu
      clear HT hs hpost h hk hu hlt hsz
      go_enter Tryz.func92, Tryz.ntmps92
      go_wp2_with (first
        | (go_at_call 29; (with_reducible refine HT'.out.mono ?_); rintro r w2 ⟨⟨d2, e2⟩, rfl⟩)
        | (go_at_call 16; (with_reducible refine (HL.out _).mono ?_); rintro r w3 ⟨rfl, d3⟩)
        | (go_at_call 30; (with_reducible refine (HU.out _ (e2.below d3)).mono ?_); rintro r w4 ⟨rfl, d4⟩; unfold PanicAt))
      exact ⟨rfl, ⟨keeps_then (keeps_then d2 d3) d4, (e2.below d3).below d4⟩, rfl⟩

set_option maxHeartbeats 2000000 in
set_option maxRecDepth 100000 in
theorem Rs.must {w : World} {b P k n : Nat} {lv uv : Value} {ws : List ByteArray} (h : Rs w b P k n lv uv ws) (hk : k ≤ ws.length) (t : ByteArray) : Calls Tryz.prog 93 #[.pointer (some ⟨b, 0, none⟩), .string t] w fun r w' => (Keeps (fun x => x = b) w w' ∧ Rs w' b P (k + 1) n lv uv ws) ∧ MustR ws t k n r := by
  have HT := Lib.hid (h.take hk)
  unfold TakeR at HT
  cases hs : ws[k]? with
  | none =>
    have hpost : ∀ r, MustR ws t k n r ↔ r = PanicAt 190 n ws.length := fun r => by unfold MustR; rw [hs]
    simp only [hpost]
    rw [hs] at HT
    have HT' : RowKit.Hid (Calls Tryz.prog 29 #[.pointer (some ⟨b, 0, none⟩)] w fun r w' => (Keeps (fun x => x = b) w w' ∧ Rs w' b P (k + 1) n lv uv ws) ∧ r = PanicAt 190 n ws.length) := HT
    clear HT hs hpost h hk
    go_enter Tryz.func93, Tryz.ntmps93
    go_wp2_with (go_at_call 29; (with_reducible refine HT'.out.mono ?_); rintro r w2 ⟨d2, rfl⟩; unfold PanicAt)
    exact ⟨rfl, d2, rfl⟩
  | some s =>
    have hlt : k < ws.length := (List.getElem?_eq_some_iff.1 hs).1
    have hpost : ∀ r, MustR ws t k n r ↔ (if s = t then r = .returned (.tuple #[]) else r = PanicAt 190 n k) := fun r => by unfold MustR; rw [hs]
    simp only [hpost]
    rw [hs] at HT
    have HT' : RowKit.Hid (Calls Tryz.prog 29 #[.pointer (some ⟨b, 0, none⟩)] w fun r w' => (Keeps (fun x => x = b) w w' ∧ Rs w' b P (k + 1) n lv uv ws) ∧ r = .returned (.string s)) := HT
    have hu := fun (u : World) (hr : Rs u b P (k + 1) n lv uv ws) => hr.wrong (by omega) (by omega) 190
    rw [atW_take hlt] at hu
    by_cases e : s = t
    · subst e
      simp only [if_true]
      have hss : (s.toList == s.toList) = true := by simp
      clear HT hs hpost h hk hu hlt
      go_enter Tryz.func93, Tryz.ntmps93
      go_wp2_with (go_at_call 29; (with_reducible refine HT'.out.mono ?_); rintro r w2 ⟨⟨d2, e2⟩, rfl⟩)
      refine ⟨rfl, _, results_none rfl _ _ _, ⟨d2, e2⟩, rfl⟩
    · simp only [if_neg e]
      have hss : (s.toList == t.toList) = false := by
        rw [beq_eq_false_iff_ne]
        intro h
        rw [ByteArray.toList_eq, ByteArray.toList_eq] at h
        exact e (ByteArray.ext (Array.ext' h))
      have HU : RowKit.Hid (∀ (u : World), Rs u b P (k + 1) n lv uv ws → Calls Tryz.prog 61 #[.pointer (some ⟨b, 0, none⟩), .int .i64 190] u fun r w' => r = PanicAt 190 n k ∧ Below u.heap.size u w') := Lib.hid hu
      clear HT hs hpost h hk hu hlt e
      go_enter Tryz.func93, Tryz.ntmps93
      go_wp2_with (first
        | (go_at_call 29; (with_reducible refine HT'.out.mono ?_); rintro r w2 ⟨⟨d2, e2⟩, rfl⟩)
        | (go_at_call 61; (with_reducible refine (HU.out _ e2).mono ?_); rintro r w4 ⟨rfl, d4⟩; unfold PanicAt))
      exact ⟨rfl, ⟨keeps_then d2 d4, e2.below d4⟩, rfl⟩
end Go.Proofs.YtbiglifngfgffaaGreatDoor

/- Is a name told? (has, hasHost): the walks. -/
namespace Go.Proofs.YtbiglifngfgffaaGreatDoor
open Go.RowKit
attribute [local go_sem ↓] Go.wp_at_zero Go.wp_at_succ

/- A row as it is read: cell by cell. -/
def RowR (w : World) (v : Value) (n size : Nat) (xs : List Value) : Prop := ∃ A cap, v = .slice A n cap ∧ xs.length = n * size ∧ (0 < n → ∃ g o, A = some ⟨g, o, none⟩ ∧ ∀ j u, xs[j]? = some u → w.cell? ⟨g, o + j, none⟩ = some u)
theorem RowR.of_own {w : World} {base size n : Nat} {e : TypeId} {v : Value} {xs : List Value} (h : w.ownsRow base e size v n xs) : RowR w v n size xs := by
  rcases h.2 with ⟨e1, e2⟩ | ⟨g, cap, cur, e1, hb, hg, rest⟩
  · subst e1 e2
    exact ⟨none, 0, rfl, h.1, fun h => absurd h (by decide)⟩
  · subst e1
    refine ⟨_, cap, rfl, h.1, fun _ => ⟨g, 0, rfl, fun j u hu => ?_⟩⟩
    have hj : j < n * size := by rw [← h.1]; exact (List.getElem?_eq_some_iff.1 hu).1
    rw [Nat.zero_add, h.cellAt j hj]
    exact hu
theorem RowR.below {w w' : World} {v : Value} {n size : Nat} {xs : List Value} (h : RowR w v n size xs) (hb : Below w.heap.size w w') : RowR w' v n size xs := by
  obtain ⟨A, cap, h1, h2, h3⟩ := h
  refine ⟨A, cap, h1, h2, fun hn => ?_⟩
  obtain ⟨g, o, ha, hc⟩ := h3 hn
  exact ⟨g, o, ha, fun j u hu => (hb.cell (World.block_lt_of_cell? w _ (hc j u hu))).trans (hc j u hu)⟩
/- A row of groups as its names tell it; lv: where each one's names lie. -/
def nmCells (l : List (ByteArray × Value)) : List Value := l.flatMap fun x => [Value.string x.1, x.2]
theorem nmCells_at : ∀ (l : List (ByteArray × Value)) (k : Nat) (x : ByteArray × Value), l[k]? = some x → (nmCells l)[k * 2]? = some (.string x.1) ∧ (nmCells l)[k * 2 + 1]? = some x.2 := by
  intro l
  induction l with
  | nil => intro k x h; cases h
  | cons y r ih =>
    intro k x h
    cases k with
    | zero => injection h with h; subst h; exact ⟨rfl, rfl⟩
    | succ k =>
      obtain ⟨h1, h2⟩ := ih k x h
      rw [show (k + 1) * 2 = k * 2 + 1 + 1 by omega]
      exact ⟨h1, h2⟩

set_option maxHeartbeats 2000000 in
set_option maxRecDepth 100000 in
theorem has1_any {w : World} (g : Nat) (s x : ByteArray) (v : Value) (hg : w.cell? ⟨g, 0, none⟩ = some (.string s)) : Calls Tryz.prog 100 #[.agg #[.string x, v], .pointer (some ⟨g, 0, none⟩)] w (Got (.bool (decide (x = s))) w) := by
  have hx := Blk.new w 46 #[.string x, v]
  have hb := boxed w (.cells #[.string x, v] 46)
  have hg2 := (hb.cell (p := ⟨g, 0, none⟩) (World.block_lt_of_cell? w _ hg)).trans hg
  have x0 := hx.cell 0
  simp at x0
  have hd : (x.toList == s.toList) = decide (x = s) := by
    by_cases e : x = s
    · subst e; simp
    · rw [decide_eq_false e, beq_eq_false_iff_ne]
      intro h
      rw [ByteArray.toList_eq, ByteArray.toList_eq] at h
      exact e (ByteArray.ext (Array.ext' h))
  obtain ⟨D, hD⟩ : ∃ D, D = decide (x = s) := ⟨_, rfl⟩
  rw [← hD] at hd ⊢
  clear hD hx
  go_enter Tryz.func100, Tryz.ntmps100
  go_wp2_with fail
  go_ret
  exact ⟨rfl, hb⟩

def IxGot (b : Bool) (w : World) (r : Ending) (w' : World) : Prop := (∃ i : Int, r = .returned (.int .i64 i) ∧ decide (0 ≤ i) = b) ∧ Below w.heap.size w w'

set_option maxHeartbeats 4000000 in
set_option maxRecDepth 100000 in
theorem indexN_any {w : World} (l : List (ByteArray × Value)) (hl : l.length ≤ 4000000) (lv : Value) (hr : RowR w lv l.length 2 (nmCells l)) (g : Nat) (s : ByteArray) (hg : w.cell? ⟨g, 0, none⟩ = some (.string s)) :
    Calls Tryz.prog 127 #[lv, .func (.func 100) #[] #[.pointer (some ⟨g, 0, none⟩)]] w (IxGot (l.any fun x => decide (x.1 = s)) w) := by
  obtain ⟨A, cap, rfl, hlen, hA⟩ := hr
  obtain ⟨N, hN⟩ : ∃ n, n = l.length := ⟨_, rfl⟩
  obtain ⟨R, hR⟩ : ∃ r, r = l.any fun x => decide (x.1 = s) := ⟨_, rfl⟩
  rw [← hN] at hA hl ⊢
  rw [← hR]
  have HA := Lib.hid hA
  have HN := Lib.hid hN
  have HR := Lib.hid hR
  have Hg := Lib.hid hg
  clear hA hN hlen hR hg
  go_enter Tryz.func127, Tryz.ntmps127
  go_wp2_with fail
  go_loopw [8] (fun v8 wr => ∃ k : Nat, k ≤ N ∧ v8 = .int .i64 (k : Int) ∧ RowKit.Hid (Below w.heap.size w wr) ∧ RowKit.Hid (((l.take k).any fun x => decide (x.1 = s)) = false)) (fun v8 _ => N - (intOf v8).toNat)
  case atStart => exact ⟨0, Nat.zero_le _, rfl, Lib.hid (Below.refl _ _), Lib.hid rfl⟩
  case round =>
    obtain ⟨k, hk, rfl, hb, hno⟩ := hrel
    by_cases hlt : k < N
    · have hkl : k < l.length := by have := HN.out; omega
      obtain ⟨q, o, rfl, hc⟩ := HA.out (by omega)
      have htk := List.take_succ_eq_append_getElem hkl
      have hx : l[k]? = some l[k] := List.getElem?_eq_getElem hkl
      have hcell := nmCells_at l k _ hx
      have c0 := hc _ _ hcell.1
      have c1 := hc _ _ hcell.2
      generalize l[k] = X at htk c0 c1
      have d0 := (hb.out.cell (World.block_lt_of_cell? w _ c0)).trans c0
      have d1 := (hb.out.cell (World.block_lt_of_cell? w _ c1)).trans c1
      rw [← Nat.add_assoc] at d1
      have hgw := (hb.out.cell (World.block_lt_of_cell? w _ Hg.out)).trans Hg.out
      have HF := Lib.hid (has1_any (w := wr) g s X.1 X.2 hgw)
      obtain ⟨X1, X2⟩ := X
      simp only at d0 d1 HF
      clear c0 c1 hx hcell hgw hc
      by_cases he : X1 = s
      · have hres : R = true := by
          rw [HR.out]
          have : (l.take (k + 1)).any (fun x => decide (x.1 = s)) = true := by rw [htk, List.any_append]; simp [he]
          obtain ⟨y, hy, hys⟩ := List.any_eq_true.1 this
          exact List.any_eq_true.2 ⟨y, List.mem_of_mem_take hy, hys⟩
        have Hres := Lib.hid hres
        rw [decide_eq_true he] at HF
        clear hres htk he
        go_wp2_with (go_at_call 100; (with_reducible refine HF.out.mono ?_); rintro r w2 ⟨rfl, e2⟩)
        go_ret
        exact ⟨⟨_, rfl, by rw [Hres.out]; exact decide_eq_true (by omega)⟩, after hb.out e2⟩
      · have hno2 : ((l.take (k + 1)).any fun x => decide (x.1 = s)) = false := by rw [htk, List.any_append, hno.out]; simp [he]
        have Hno2 := Lib.hid hno2
        rw [decide_eq_false he] at HF
        clear hno2 htk he
        go_wp2_with (go_at_call 100; (with_reducible refine HF.out.mono ?_); rintro r w2 ⟨rfl, e2⟩)
        go_roundw
        case rel => exact ⟨k + 1, by omega, by go_num, Lib.hid (after hb.out e2), Hno2⟩
        case measure => simp [intOf]; omega
    · obtain rfl : k = N := by omega
      have hres : R = false := by
        have := hno.out
        rw [List.take_of_length_le (by have := HN.out; omega)] at this
        rw [HR.out]
        exact this
      have Hres := Lib.hid hres
      clear hres
      go_wp2_with fail
      go_ret
      exact ⟨⟨_, rfl, by rw [Hres.out]; rfl⟩, hb.out⟩

set_option maxHeartbeats 4000000 in
set_option maxRecDepth 100000 in
theorem containsN_any {w : World} (l : List (ByteArray × Value)) (hl : l.length ≤ 4000000) (lv : Value) (hr : RowR w lv l.length 2 (nmCells l)) (g : Nat) (s : ByteArray) (hg : w.cell? ⟨g, 0, none⟩ = some (.string s)) :
    Calls Tryz.prog 99 #[lv, .func (.func 100) #[] #[.pointer (some ⟨g, 0, none⟩)]] w (Got (.bool (l.any fun x => decide (x.1 = s))) w) := by
  have HI := Lib.hid (indexN_any l hl lv hr g s hg)
  generalize (l.any fun x => decide (x.1 = s)) = R at HI ⊢
  clear hg hr
  go_enter Tryz.func99, Tryz.ntmps99
  go_wp2_with (go_at_call 127; (with_reducible refine HI.out.mono ?_); rintro r w2 ⟨⟨i, rfl, hi⟩, e2⟩)
  refine bodyPost_ret (results_tmp rfl _ _ _) rfl ⟨?_, e2⟩
  rw [← hi]
  rfl

set_option maxHeartbeats 4000000 in
set_option maxRecDepth 100000 in
theorem has_any {w : World} (l : List (ByteArray × Value)) (hl : l.length ≤ 4000000) (lv : Value) (hr : RowR w lv l.length 2 (nmCells l)) (s : ByteArray) :
    Calls Tryz.prog 62 #[lv, .string s] w (Got (.bool (l.any fun x => decide (x.1 = s))) w) := by
  have hb0 := boxed w (.cells #[.string s] 9)
  have hg : (w.alloc (.cells #[.string s] 9)).cell? ⟨w.heap.size, 0, none⟩ = some (.string s) := (Blk.new w 9 #[.string s]).cell 0
  have HI := Lib.hid (containsN_any l hl lv (hr.below hb0) w.heap.size s hg)
  generalize (l.any fun x => decide (x.1 = s)) = R at HI ⊢
  have hmf : ∀ (fn : Fn) (first cap : Array Value) (w : World), (Instr.makeFunc fn first cap).run Tryz.prog w = .ok (.func fn first cap) w := fun _ _ _ _ => rfl
  clear hg hr
  go_enter Tryz.func62, Tryz.ntmps62
  go_wp2_with (go_at_call 99; (with_reducible refine HI.out.mono ?_); rintro r w2 ⟨rfl, e2⟩)
  go_ret
  exact ⟨rfl, after hb0 e2⟩
end Go.Proofs.YtbiglifngfgffaaGreatDoor

/- Is a host told? (Printed by pl_hosts.py.) -/
namespace Go.Proofs.YtbiglifngfgffaaGreatDoor
open Go.RowKit
attribute [local go_sem ↓] Go.wp_at_zero Go.wp_at_succ

/- A row of hosts. -/
def hsCells (l : List Hs) : List Value := l.flatMap fun x => [Value.string x.name, .bool x.net.a.v6, .int .u64 (x.net.a.hi : Int), .int .u64 (x.net.a.lo : Int), .int .u8 (x.net.bits : Int)]
theorem hsCells_at : ∀ (l : List Hs) (k : Nat) (x : Hs), l[k]? = some x → (hsCells l)[k * 5]? = some (.string x.name) ∧ (hsCells l)[k * 5 + 1]? = some (.bool x.net.a.v6) ∧ (hsCells l)[k * 5 + 2]? = some (.int .u64 (x.net.a.hi : Int)) ∧ (hsCells l)[k * 5 + 3]? = some (.int .u64 (x.net.a.lo : Int)) ∧ (hsCells l)[k * 5 + 4]? = some (.int .u8 (x.net.bits : Int)) := by
  intro l
  induction l with
  | nil => intro k x h; cases h
  | cons y r ih =>
    intro k x h
    cases k with
    | zero => injection h with h; subst h; exact ⟨rfl, rfl, rfl, rfl, rfl⟩
    | succ k =>
      rw [show (k + 1) * 5 = k * 5 + 1 + 1 + 1 + 1 + 1 by omega]
      exact ih k x h

set_option maxHeartbeats 2000000 in
set_option maxRecDepth 100000 in
theorem hasH1_any {w : World} (g : Nat) (s x : ByteArray) (v1 : Bool) (v2 v3 v4 : Int) (hg : w.cell? ⟨g, 0, none⟩ = some (.string s)) : Calls Tryz.prog 102 #[.agg #[.string x, .bool v1, .int .u64 v2, .int .u64 v3, .int .u8 v4], .pointer (some ⟨g, 0, none⟩)] w (Got (.bool (decide (x = s))) w) := by
  have hx := Blk.new w 53 #[.string x, .bool v1, .int .u64 v2, .int .u64 v3, .int .u8 v4]
  have hb := boxed w (.cells #[.string x, .bool v1, .int .u64 v2, .int .u64 v3, .int .u8 v4] 53)
  have hg2 := (hb.cell (p := ⟨g, 0, none⟩) (World.block_lt_of_cell? w _ hg)).trans hg
  have x0 := hx.cell 0
  simp at x0
  have hd : (x.toList == s.toList) = decide (x = s) := by
    by_cases e : x = s
    · subst e; simp
    · rw [decide_eq_false e, beq_eq_false_iff_ne]
      intro h
      rw [ByteArray.toList_eq, ByteArray.toList_eq] at h
      exact e (ByteArray.ext (Array.ext' h))
  obtain ⟨D, hD⟩ : ∃ D, D = decide (x = s) := ⟨_, rfl⟩
  rw [← hD] at hd ⊢
  clear hD hx
  go_enter Tryz.func102, Tryz.ntmps102
  go_wp2_with fail
  go_ret
  exact ⟨rfl, hb⟩

set_option maxHeartbeats 4000000 in
set_option maxRecDepth 100000 in
theorem indexH_any {w : World} (l : List Hs) (hl : l.length ≤ 4000000) (lv : Value) (hr : RowR w lv l.length 5 (hsCells l)) (g : Nat) (s : ByteArray) (hg : w.cell? ⟨g, 0, none⟩ = some (.string s)) :
    Calls Tryz.prog 128 #[lv, .func (.func 102) #[] #[.pointer (some ⟨g, 0, none⟩)]] w (IxGot (l.any fun x => decide (x.name = s)) w) := by
  obtain ⟨A, cap, rfl, hlen, hA⟩ := hr
  obtain ⟨N, hN⟩ : ∃ n, n = l.length := ⟨_, rfl⟩
  obtain ⟨R, hR⟩ : ∃ r, r = l.any fun x => decide (x.name = s) := ⟨_, rfl⟩
  rw [← hN] at hA hl ⊢
  rw [← hR]
  have HA := Lib.hid hA
  have HN := Lib.hid hN
  have HR := Lib.hid hR
  have Hg := Lib.hid hg
  clear hA hN hlen hR hg
  go_enter Tryz.func128, Tryz.ntmps128
  go_wp2_with fail
  go_loopw [8] (fun v8 wr => ∃ k : Nat, k ≤ N ∧ v8 = .int .i64 (k : Int) ∧ RowKit.Hid (Below w.heap.size w wr) ∧ RowKit.Hid (((l.take k).any fun x => decide (x.name = s)) = false)) (fun v8 _ => N - (intOf v8).toNat)
  case atStart => exact ⟨0, Nat.zero_le _, rfl, Lib.hid (Below.refl _ _), Lib.hid rfl⟩
  case round =>
    obtain ⟨k, hk, rfl, hb, hno⟩ := hrel
    by_cases hlt : k < N
    · have hkl : k < l.length := by have := HN.out; omega
      obtain ⟨q, o, rfl, hc⟩ := HA.out (by omega)
      have htk := List.take_succ_eq_append_getElem hkl
      have hx : l[k]? = some l[k] := List.getElem?_eq_getElem hkl
      have hcell := hsCells_at l k _ hx
      have c0 := hc _ _ hcell.1
      have c1 := hc _ _ hcell.2.1
      have c2 := hc _ _ hcell.2.2.1
      have c3 := hc _ _ hcell.2.2.2.1
      have c4 := hc _ _ hcell.2.2.2.2
      generalize l[k] = X at htk c0 c1 c2 c3 c4
      have d0 := (hb.out.cell (World.block_lt_of_cell? w _ c0)).trans c0
      have d1 := (hb.out.cell (World.block_lt_of_cell? w _ c1)).trans c1
      have d2 := (hb.out.cell (World.block_lt_of_cell? w _ c2)).trans c2
      have d3 := (hb.out.cell (World.block_lt_of_cell? w _ c3)).trans c3
      have d4 := (hb.out.cell (World.block_lt_of_cell? w _ c4)).trans c4
      rw [← Nat.add_assoc] at d1 d2 d3 d4
      have hgw := (hb.out.cell (World.block_lt_of_cell? w _ Hg.out)).trans Hg.out
      have HF := Lib.hid (hasH1_any (w := wr) g s X.name X.net.a.v6 X.net.a.hi X.net.a.lo X.net.bits hgw)
      obtain ⟨X1, ⟨⟨X2, X3, X4⟩, X5⟩⟩ := X
      simp only at d0 d1 d2 d3 d4 HF
      clear c0 c1 c2 c3 c4 hx hcell hgw hc
      by_cases he : X1 = s
      · have hres : R = true := by
          rw [HR.out]
          have : (l.take (k + 1)).any (fun x => decide (x.name = s)) = true := by rw [htk, List.any_append]; simp [he]
          obtain ⟨y, hy, hys⟩ := List.any_eq_true.1 this
          exact List.any_eq_true.2 ⟨y, List.mem_of_mem_take hy, hys⟩
        have Hres := Lib.hid hres
        rw [decide_eq_true he] at HF
        clear hres htk he
        go_wp2_with (go_at_call 102; (with_reducible refine HF.out.mono ?_); rintro r w2 ⟨rfl, e2⟩)
        go_ret
        exact ⟨⟨_, rfl, by rw [Hres.out]; exact decide_eq_true (by omega)⟩, after hb.out e2⟩
      · have hno2 : ((l.take (k + 1)).any fun x => decide (x.name = s)) = false := by rw [htk, List.any_append, hno.out]; simp [he]
        have Hno2 := Lib.hid hno2
        rw [decide_eq_false he] at HF
        clear hno2 htk he
        go_wp2_with (go_at_call 102; (with_reducible refine HF.out.mono ?_); rintro r w2 ⟨rfl, e2⟩)
        go_roundw
        case rel => exact ⟨k + 1, by omega, by go_num, Lib.hid (after hb.out e2), Hno2⟩
        case measure => simp [intOf]; omega
    · obtain rfl : k = N := by omega
      have hres : R = false := by
        have := hno.out
        rw [List.take_of_length_le (by have := HN.out; omega)] at this
        rw [HR.out]
        exact this
      have Hres := Lib.hid hres
      clear hres
      go_wp2_with fail
      go_ret
      exact ⟨⟨_, rfl, by rw [Hres.out]; rfl⟩, hb.out⟩

set_option maxHeartbeats 4000000 in
set_option maxRecDepth 100000 in
theorem containsH_any {w : World} (l : List Hs) (hl : l.length ≤ 4000000) (lv : Value) (hr : RowR w lv l.length 5 (hsCells l)) (g : Nat) (s : ByteArray) (hg : w.cell? ⟨g, 0, none⟩ = some (.string s)) :
    Calls Tryz.prog 101 #[lv, .func (.func 102) #[] #[.pointer (some ⟨g, 0, none⟩)]] w (Got (.bool (l.any fun x => decide (x.name = s))) w) := by
  have HI := Lib.hid (indexH_any l hl lv hr g s hg)
  generalize (l.any fun x => decide (x.name = s)) = R at HI ⊢
  clear hg hr
  go_enter Tryz.func101, Tryz.ntmps101
  go_wp2_with (go_at_call 128; (with_reducible refine HI.out.mono ?_); rintro r w2 ⟨⟨i, rfl, hi⟩, e2⟩)
  refine bodyPost_ret (results_tmp rfl _ _ _) rfl ⟨?_, e2⟩
  rw [← hi]
  rfl

set_option maxHeartbeats 4000000 in
set_option maxRecDepth 100000 in
theorem hasHost_any {w : World} (l : List Hs) (hl : l.length ≤ 4000000) (lv : Value) (hr : RowR w lv l.length 5 (hsCells l)) (s : ByteArray) :
    Calls Tryz.prog 63 #[lv, .string s] w (Got (.bool (l.any fun x => decide (x.name = s))) w) := by
  have hb0 := boxed w (.cells #[.string s] 9)
  have hg : (w.alloc (.cells #[.string s] 9)).cell? ⟨w.heap.size, 0, none⟩ = some (.string s) := (Blk.new w 9 #[.string s]).cell 0
  have HI := Lib.hid (containsH_any l hl lv (hr.below hb0) w.heap.size s hg)
  generalize (l.any fun x => decide (x.name = s)) = R at HI ⊢
  have hmf : ∀ (fn : Fn) (first cap : Array Value) (w : World), (Instr.makeFunc fn first cap).run Tryz.prog w = .ok (.func fn first cap) w := fun _ _ _ _ => rfl
  clear hg hr
  go_enter Tryz.func63, Tryz.ntmps63
  go_wp2_with (go_at_call 101; (with_reducible refine HI.out.mono ?_); rintro r w2 ⟨rfl, e2⟩)
  go_ret
  exact ⟨rfl, after hb0 e2⟩
end Go.Proofs.YtbiglifngfgffaaGreatDoor

/- A map with string keys in memory, known whole: its operations as equations of the run. -/
namespace Go.Proofs.YtbiglifngfgffaaGreatDoor
open Go.RowKit
open Go.ChangeMaps (setBlock)

/- An entry: its key, its value, its stamp. -/
structure SE where
  tx : ByteArray
  val : Value
  born : Nat

def SE.entry (x : SE) : MapEntry := { key := .string x.tx, val := x.val, born := x.born }
def ents (L : List SE) : Array MapEntry := (L.map SE.entry).toArray
def MBlk (w : World) (m : Nat) (L : List SE) (clock : Nat) : Prop := w.heap[m]? = some (.map (ents L) clock)

theorem bytes_beq (a b : ByteArray) : (a == b) = true ↔ a = b := by
  rw [beq_toListBytes, beq_iff_eq, ByteArray.toList_eq, ByteArray.toList_eq]
  constructor
  · intro h
    obtain ⟨⟨x⟩⟩ := a
    obtain ⟨⟨y⟩⟩ := b
    simpa using h
  · rintro rfl
    rfl
theorem bytes_beq_comm (a b : ByteArray) : (a == b) = (b == a) := by
  rw [Bool.eq_iff_iff, bytes_beq, bytes_beq]
  exact ⟨Eq.symm, Eq.symm⟩

def at_ (L : List SE) (s : ByteArray) : Option Nat := L.findIdx? fun x => x.tx == s

theorem findNow_ents (s : ByteArray) (L : List SE) : ∀ i, Instr.findNow .string (.string s) (L.map SE.entry) i = some ((at_ L s).map fun j => (i + j, (L.getD j ⟨s, undef, 0⟩).val)) := by
  unfold at_
  induction L with
  | nil => intro i; rfl
  | cons x L ih =>
    intro i
    simp only [List.map_cons, Instr.findNow, SE.entry, Instr.sameNow, List.findIdx?_cons]
    rw [bytes_beq_comm s x.tx]
    cases h : x.tx == s with
    | true => simp [List.getD_cons_zero]
    | false =>
      have := ih (i + 1)
      simp only [this]
      cases L.findIdx? (fun x => x.tx == s) with
      | none => simp
      | some j => simp; omega

section
variable {P : Program} {T K E : TypeId} {w : World} {m clock : Nat} {L : List SE}

theorem MBlk.lt (h : MBlk w m L clock) : m < w.heap.size := by
  rcases Nat.lt_or_ge m w.heap.size with h1 | h1
  · exact h1
  · unfold MBlk at h; rw [Array.getElem?_eq_none h1] at h; cases h

theorem run_getObj_map {es : Array MapEntry} {c : Nat} (h : w.heap[m]? = some (.map es c)) : (getObj m).run P w = .ok (.map es c) w := by simp [getObj, Sem.run, h]
theorem run_setObj_map {es : Array MapEntry} {c : Nat} (h : w.heap[m]? = some (.map es c)) (o' : Obj) : (setObj m o').run P w = .ok () (setBlock w m o') := by simp [setObj, Sem.run, h, setBlock]

theorem run_checkKey_gen (n : Nat) (b : Bool) (s : Value) (hK : P.underlying K = some .string) : (Instr.checkKey b (n + 1) K s).run P w = .ok () w := by
  simp [Instr.checkKey, run_underlying hK]
theorem run_checkKey_string (b : Bool) (s : Value) (hK : P.underlying K = some .string) : (Instr.checkKey b 10000 K s).run P w = .ok () w := run_checkKey_gen 9999 b s hK

theorem run_findKey_sm (s : ByteArray) (hK : P.underlying K = some .string) : (Instr.findKey K (.string s) (L.map SE.entry)).run P w = .ok ((at_ L s).map fun j => (j, (L.getD j ⟨s, undef, 0⟩).val)) w := by
  simp [Instr.findKey, run_underlying hK, findNow_ents s L 0]

theorem run_lookup_sm (hT : P.underlying T = some (.map K E)) (hK : P.underlying K = some .string) (h : MBlk w m L clock) (s : ByteArray) {j : Nat} {x : SE} (hj : at_ L s = some j) (hx : L[j]? = some x) :
    (Instr.lookup T (.map (some m)) (.string s) true).run P w = .ok (.tuple #[x.val, .bool true]) w := by
  simp [Instr.lookup, run_underlying hT, run_getObj_map h, run_checkKey_string _ _ hK, ents, run_findKey_sm s hK, hj, hx, List.getD_eq_getElem?_getD]

theorem run_lookup_sm_none (hT : P.underlying T = some (.map K E)) (hK : P.underlying K = some .string) (h : MBlk w m L clock) (s : ByteArray) (hj : at_ L s = none) {z : Value} (hz : (zeroValue E).run P w = .ok z w) :
    (Instr.lookup T (.map (some m)) (.string s) true).run P w = .ok (.tuple #[z, .bool false]) w := by
  simp [Instr.lookup, run_underlying hT, run_getObj_map h, run_checkKey_string _ _ hK, ents, run_findKey_sm s hK, hj, hz]

theorem run_update_sm (hT : P.underlying T = some (.map K E)) (hK : P.underlying K = some .string) (h : MBlk w m L clock) (s : ByteArray) (hj : at_ L s = none) (v : Value) :
    (Instr.mapUpdate T (.map (some m)) (.string s) v).run P w = .ok () (setBlock w m (.map (ents (L ++ [⟨s, v, clock⟩])) (clock + 1))) := by
  simp [Instr.mapUpdate, run_underlying hT, run_getObj_map h, run_checkKey_string _ _ hK, ents, run_findKey_sm s hK, hj, run_setObj_map h, SE.entry]

theorem Keeps.setBlock {S : Nat → Prop} {a : World} {r : Nat} (h : Keeps S a w) (hr : S r ∨ a.heap.size ≤ r) (o : Obj) : Keeps S a (setBlock w r o) :=
  ⟨h.os, h.tape, h.output, by simpa [Go.ChangeMaps.setBlock] using h.size, fun k hk hs => by
    have : r ≠ k := by rintro rfl; rcases hr with h1 | h1; exact hs h1; omega
    rw [← h.block k hk hs]
    simp [Go.ChangeMaps.setBlock, Array.getElem?_setIfInBounds, this]⟩

theorem MBlk.keep {S : Nat → Prop} {w' : World} (h : MBlk w m L clock) (hk : Keeps S w w') (hg : ¬ S m) : MBlk w' m L clock := (hk.block m h.lt hg).trans h
theorem MBlk.below {B : Nat} {w' : World} (h : MBlk w m L clock) (hb : Below B w w') (hg : m < B) : MBlk w' m L clock := (hb.block m hg).trans h
theorem MBlk.drewN (h : MBlk w m L clock) (n : Nat) : MBlk (w.drewN n) m L clock := h
theorem MBlk.set_ (h : MBlk w m L clock) (L' : List SE) (c' : Nat) : MBlk (setBlock w m (.map (ents L') c')) m L' c' := by
  have := h.lt
  unfold MBlk Go.ChangeMaps.setBlock
  simp [this]

/- A store at a key that is not there, and a delete of one that is: as a new world. -/
theorem update_sm (hT : P.underlying T = some (.map K E)) (hK : P.underlying K = some .string) (h : MBlk w m L clock) (s : ByteArray) (hj : at_ L s = none) (v : Value) :
    ∃ W, (Instr.mapUpdate T (.map (some m)) (.string s) v).run P w = .ok () W ∧ (Instr.mapUpdate T (.map (some m)) (.string s) v).run P w.drew = .ok () W.drew ∧ (∀ n, (Instr.mapUpdate T (.map (some m)) (.string s) v).run P (w.drewN n) = .ok () (W.drewN n)) ∧ Keeps (fun g => g = m) w W ∧ MBlk W m (L ++ [⟨s, v, clock⟩]) (clock + 1) :=
  ⟨setBlock w m (.map (ents (L ++ [(⟨s, v, clock⟩ : SE)])) (clock + 1)), run_update_sm hT hK h s hj v, run_update_sm (w := w.drew) hT hK h s hj v, fun n => run_update_sm hT hK (h.drewN n) s hj v, (Keeps.refl (fun g => g = m) w).setBlock (.inl rfl) _, h.set_ _ _⟩

def Iter (w : World) (r m since : Nat) (seen : Array Nat) (last : Nat) : Prop := w.heap[r]? = some (.mapIter (some m) since seen last)

theorem Iter.lt {r since last : Nat} {seen : Array Nat} (h : Iter w r m since seen last) : r < w.heap.size := by
  rcases Nat.lt_or_ge r w.heap.size with h1 | h1
  · exact h1
  · unfold Iter at h; rw [Array.getElem?_eq_none h1] at h; cases h

end
end Go.Proofs.YtbiglifngfgffaaGreatDoor

/- Texts of addresses, the program's: numbers joined: the walk. -/
namespace Go.Proofs.YtbiglifngfgffaaGreatDoor
open Go.RowKit

def hexs (L : List Nat) : List (List UInt8) := L.map hexL
theorem hexs_take {L : List Nat} {k : Nat} (hk : k < L.length) : hexs (L.take (k + 1)) = hexs (L.take k) ++ [hexL (L.getD k 0)] := by
  unfold hexs
  rw [List.take_succ_eq_append_getElem hk, List.map_append, List.getD_eq_getElem?_getD, List.getElem?_eq_getElem hk]
  rfl
theorem strs_snoc (L : List (List UInt8)) (x : List UInt8) : (strs (L ++ [x])).map Value.string = (strs L).map Value.string ++ [.string ⟨x.toArray⟩] := by
  unfold strs
  simp
theorem joinH_len8 {L : List Nat} (h : ∀ x ∈ L, x < 65536) (hl : L.length ≤ 8) : (joinH L).length ≤ 40 := by
  have := joinH_len L h
  omega

set_option maxHeartbeats 1000000 in
theorem tjoin_any {w : World} (env : Env w) (g o c : Nat) (L : List Nat) (hL : ∀ x ∈ L, x < 65536) (hl : L.length ≤ 8) (hg : g < w.heap.size) (hc : ∀ j, j < L.length → w.cell? ⟨g, o + j, none⟩ = some (.int .u16 (L.getD j 0 : Int))) : Calls Tryz.prog 85 #[.slice (some ⟨g, o, none⟩) L.length c] w (Got (.string ⟨(joinH L).toArray⟩) w) := by
  obtain ⟨i0, hi, hz0, hz1, hz2⟩ := info_parts info_str
  have Henv := Lib.hid env
  have Hc := Lib.hid hc
  have HL := Lib.hid hL
  clear env hc hL
  obtain ⟨n, hn⟩ : ∃ n, n = L.length := ⟨_, rfl⟩
  rw [← hn] at hl ⊢
  have Hn := Lib.hid hn
  clear hn
  go_enter Tryz.func85, Tryz.ntmps85
  go_wp2_with fail
  go_loopw [3, 8] (fun v i wr => ∃ k : Nat, k ≤ n ∧ i = .int .i64 (k : Int) ∧ RowKit.Hid (wr.ownsRow w.heap.size 9 1 v k ((strs (hexs (L.take k))).map Value.string)) ∧ RowKit.Hid (Below w.heap.size w wr)) (fun _ i _ => n - (intOf i).toNat)
  case atStart => exact ⟨0, Nat.zero_le _, rfl, Lib.hid (World.ownsRow_nil _ _ _ _), Lib.hid (Below.refl _ _)⟩
  case round =>
    obtain ⟨k, hk, rfl, hown, hb⟩ := hrel
    by_cases hlt : k < n
    · have hkl : k < L.length := by have := Hn.out; omega
      have cx := (hb.out.cell (p := ⟨g, o + k, none⟩) hg).trans (Hc.out k hkl)
      have hx : L.getD k 0 < 65536 := by
        rw [List.getD_eq_getElem?_getD, List.getElem?_eq_getElem hkl]
        exact HL.out _ (List.getElem_mem hkl)
      have hs := hexs_take hkl
      have hq : (strs (hexs (L.take (k + 1)))).map Value.string = (strs (hexs (L.take k))).map Value.string ++ [.string ⟨(hexL (L.getD k 0)).toArray⟩] := by rw [hs, strs_snoc]
      have Hq := Lib.hid hq
      clear hs hq
      generalize L.getD k 0 = X at cx hx Hq
      have HF := Lib.hid (fmt16 (w := wr) X hx (Henv.out.below hb.out).db)
      go_wp2_with (first
        | (go_at_call 86; (with_reducible refine HF.out.mono ?_); rintro r w2 ⟨rfl, g2⟩; have ho2 := Lib.hid (own_below hown.out g2); have hb2 := Lib.hid (after hb.out g2); clear g2)
        | (at_builtin; refine wpList_append_own _ rfl _ _ 44 rfl w.heap.size 9 i0 (.string ByteArray.empty) 1 16 Tryz.underlying44 hi hz0 hz1 hz2 rfl (by decide) _ k _ rfl (ho2.out.alloc _) ⟨w2.heap.size, 0, none⟩ 1 1 [.string ⟨(hexL X).toArray⟩] rfl rfl (cell_one_new _ _ _) (fun x hx => by simp at hx; subst hx; rfl) (by unfold maxLen; omega) (by omega) (by have := hb2.out.size; simp; omega) ?_; intro v' w3 hown' hgrow3 hnil3; have Ho3 := Lib.hid hown'; have hb3 := Lib.hid ((hb2.out.alloc (hb2.out.size) _).grown hgrow3 (by have := hb2.out.size; simp; omega) (fun q hq => (ho2.out.lt q hq).1)); clear hown' hgrow3 hnil3))
      go_roundw
      case rel => exact ⟨k + 1, by omega, by go_num, Lib.hid (by rw [Hq.out]; exact Ho3.out), hb3⟩
      case measure => simp [intOf]; omega
    · obtain rfl : k = n := by omega
      have hown := hown.out
      rw [show L.take k = L by rw [Hn.out, List.take_length]] at hown
      have hlen : (hexs L).length = k := by rw [Hn.out]; simp [hexs]
      rw [← hlen] at hown
      have HJ := Lib.hid (join_own (w := wr) 58 hown (by omega) (by have := joinH_len8 HL.out (by have := Hn.out; omega); exact Nat.le_trans this (by decide)))
      clear hown hlen
      go_wp2_with (go_at_call 20; (with_reducible refine HJ.out.mono ?_); rintro r w2 ⟨rfl, g2⟩; have hb2 := Lib.hid (after hb.out g2); clear g2)
      go_ret
      exact ⟨rfl, hb2.out⟩
end Go.Proofs.YtbiglifngfgffaaGreatDoor

/- Prefixes: masks and bits, the plain law. -/
namespace Go.Proofs.YtbiglifngfgffaaGreatDoor
open Go.RowKit

/- 64 ones, moved up by k. -/
def mk (k : Nat) : Nat := 18446744073709551616 - 2 ^ k
theorem pow_le64 {k : Nat} (h : k ≤ 64) : 2 ^ k ≤ 18446744073709551616 := Nat.le_trans (Nat.pow_le_pow_right (by decide) h) (by decide)
theorem mk_lt (k : Nat) : mk k < 18446744073709551616 := by
  have : 0 < 2 ^ k := Nat.pow_pos (by decide)
  unfold mk
  omega
theorem not_mk {k : Nat} (h : k ≤ 64) : 18446744073709551615 - mk k = 2 ^ k - 1 := by
  have := pow_le64 h
  have : 0 < 2 ^ k := Nat.pow_pos (by decide)
  unfold mk
  omega
theorem andNot_mk {x k : Nat} (hx : x < 18446744073709551616) (h : k ≤ 64) : bits .andNot .u64 (x : Int) ((mk k : Nat) : Int) = ((x % 2 ^ k : Nat) : Int) := by
  rw [u64_andNot_nat x _ hx (mk_lt k), not_mk h, Nat.and_two_pow_sub_one_eq_mod]
/- Which masks the program takes: of the high half, of the low half. -/
def kH (a : Ad) (n : Nat) : Nat := if a.v6 then 64 - n else 0
def kL (a : Ad) (n : Nat) : Nat := if a.v6 then (if n ≤ 64 then 64 else 128 - n) else 32 - n
theorem kH_le (a : Ad) (n : Nat) : kH a n ≤ 64 := by unfold kH; split <;> omega
theorem kL_le {a : Ad} {n : Nat} : kL a n ≤ 64 := by
  unfold kL
  split
  · split <;> omega
  · omega

/- x y as one number of k + 64 bits; cut below. -/
theorem glue_mod (hi lo k : Nat) (hl : lo < 18446744073709551616) : (hi * 2 ^ 64 + lo) % 2 ^ (k + 64) = hi % 2 ^ k * 2 ^ 64 + lo := by
  rw [Nat.pow_add, Nat.mul_comm (2 ^ k), Nat.mod_mul]
  have e1 : (hi * 2 ^ 64 + lo) % 2 ^ 64 = lo := by omega
  have e2 : (hi * 2 ^ 64 + lo) / 2 ^ 64 = hi := by omega
  rw [e1, e2, Nat.mul_comm (2 ^ 64)]
  omega
theorem glue_div (hi lo k : Nat) (hl : lo < 18446744073709551616) : (hi * 2 ^ 64 + lo) / 2 ^ (k + 64) = hi / 2 ^ k := by
  rw [Nat.pow_add, Nat.mul_comm (2 ^ k), ← Nat.div_div_eq_div_mul]
  have e2 : (hi * 2 ^ 64 + lo) / 2 ^ 64 = hi := by omega
  rw [e2]
theorem low_mod (hi lo k : Nat) (hk : k ≤ 64) : (hi * 2 ^ 64 + lo) % 2 ^ k = lo % 2 ^ k := by
  have : hi * 2 ^ 64 = 2 ^ k * (hi * 2 ^ (64 - k)) := by
    rw [Nat.mul_left_comm, ← Nat.pow_add, show k + (64 - k) = 64 by omega]
  rw [this, Nat.mul_add_mod]
theorem low_div (hi lo k : Nat) (hk : k ≤ 64) : (hi * 2 ^ 64 + lo) / 2 ^ k = hi * 2 ^ (64 - k) + lo / 2 ^ k := by
  have : hi * 2 ^ 64 = 2 ^ k * (hi * 2 ^ (64 - k)) := by
    rw [Nat.mul_left_comm, ← Nat.pow_add, show k + (64 - k) = 64 by omega]
  rw [this, Nat.mul_add_div (Nat.pow_pos (by decide))]
theorem val_mod {a : Ad} (ok : a.Ok) {n : Nat} (hn : n ≤ a.size) (h4 : a.v6 = false → a.hi = 0) : a.val % 2 ^ (a.size - n) = 0 ↔ a.hi % 2 ^ kH a n = 0 ∧ a.lo % 2 ^ kL a n = 0 := by
  have hl := ok.lo
  unfold Ad.val Ad.size kH kL at *
  cases h6 : a.v6 with
  | true =>
    rw [h6] at hn
    simp only [if_true] at hn ⊢
    by_cases h : n ≤ 64
    · rw [show 128 - n = (64 - n) + 64 by omega, glue_mod _ _ _ hl, if_pos h, Nat.mod_eq_of_lt (a := a.lo) (by omega)]
      omega
    · rw [low_mod _ _ _ (by omega), if_neg h, show 64 - n = 0 by omega, Nat.pow_zero, Nat.mod_one]
      simp
  | false =>
    rw [h6] at hn
    simp only [Bool.false_eq_true, if_false] at hn ⊢
    rw [h4 h6]
    simp
theorem may_hi {a : Ad} (h : a.may = true) : a.v6 = false → a.hi = 0 := fun h6 => (may4 h h6).1
theorem pmay_eq {p : Pf} (ok : p.a.Ok) : pmay p = (p.a.may && decide (p.bits ≤ p.a.size) && (decide (p.a.hi % 2 ^ kH p.a p.bits = 0) && decide (p.a.lo % 2 ^ kL p.a p.bits = 0))) := by
  unfold pmay
  cases hm : p.a.may with
  | false => rfl
  | true =>
    by_cases hn : p.bits ≤ p.a.size
    · rw [decide_eq_true hn, Bool.true_and, Bool.true_and, Bool.true_and, ← Bool.decide_and]
      exact decide_eq_decide.2 (val_mod ok hn (may_hi hm))
    · rw [decide_eq_false hn]; rfl
/- Bits, from the highest on. -/
def bitA (a : Ad) (i : Nat) : Bool := decide (a.val / 2 ^ (a.size - 1 - i) % 2 = 1)
theorem bits_zero (v n : Nat) : ∀ m, m ≤ n → ((∀ i, n - m ≤ i → i < n → v / 2 ^ (n - 1 - i) % 2 = 0) ↔ v % 2 ^ m = 0) := by
  intro m
  induction m with
  | zero => intro _; rw [Nat.pow_zero, Nat.mod_one]; exact ⟨fun _ => rfl, fun _ i h1 h2 => by omega⟩
  | succ m ih =>
    intro hm
    rw [Nat.pow_succ, Nat.mod_mul]
    have hp : 0 < 2 ^ m := Nat.pow_pos (by decide)
    constructor
    · intro h
      have h1 := (ih (by omega)).1 fun i h1 h2 => h i (by omega) h2
      have h2 := h (n - (m + 1)) (by omega) (by omega)
      rw [show n - 1 - (n - (m + 1)) = m by omega] at h2
      rw [h1, h2, Nat.mul_zero]
    · intro h i h1 h2
      have h3 : v % 2 ^ m = 0 := by omega
      have h4 : 2 ^ m * (v / 2 ^ m % 2) = 0 := by omega
      have h5 : v / 2 ^ m % 2 = 0 := by
        rcases Nat.mul_eq_zero.1 h4 with h | h
        · omega
        · exact h
      by_cases e : i = n - (m + 1)
      · rw [e, show n - 1 - (n - (m + 1)) = m by omega]; exact h5
      · exact (ih (by omega)).2 h3 i (by omega) h2
end Go.Proofs.YtbiglifngfgffaaGreatDoor

/- Prefixes: masks, size, bit: the walks. -/
namespace Go.Proofs.YtbiglifngfgffaaGreatDoor
open Go.RowKit

theorem shl_mk {k : Nat} (h : k ≤ 64) : IntKind.u64.wrap (18446744073709551615 * 2 ^ k) = ((mk k : Nat) : Int) := by
  have h1 := pow_le64 h
  have h0 : 0 < 2 ^ k := Nat.pow_pos (by decide)
  rw [IntKind.wrap_u64]
  unfold mk
  rw [show (2 : Int) ^ k = ((2 ^ k : Nat) : Int) by simp]
  generalize 2 ^ k = q at h1 h0
  omega
theorem shr_nat (x k : Nat) : (x : Int) / 2 ^ k = ((x / 2 ^ k : Nat) : Int) := by simp
theorem bit_one (x k : Nat) (hx : x < 18446744073709551616) : (bits .and .u64 ((x : Int) / 2 ^ k) 1 == 1) = decide (x / 2 ^ k % 2 = 1) := by
  have h1 : x / 2 ^ k < 18446744073709551616 := Nat.lt_of_le_of_lt (Nat.div_le_self _ _) hx
  have h2 := u64_and_nat (x / 2 ^ k) 1 h1 (by decide)
  rw [shr_nat, show (1 : Int) = ((1 : Nat) : Int) from rfl, h2, Nat.and_one_is_mod]
  rw [Bool.eq_iff_iff, beq_iff_eq, decide_eq_true_iff]
  omega
theorem ret_two {i j i' j' : Int} (h : i = i') (h' : j = j') : Ending.returned (.tuple #[.int .u64 i, .int .u64 j]) = .returned (.tuple #[.int .u64 i', .int .u64 j']) := by rw [h, h']
theorem ret_b {a b : Bool} (h : a = b) : Ending.returned (.bool a) = .returned (.bool b) := by rw [h]
theorem size_any (a : Ad) (w : World) : Calls Tryz.prog 79 #[.agg a.cells] w fun r w' => r = .returned (.int .u8 (a.size : Int)) ∧ Below w.heap.size w w' := by
  obtain ⟨v, h, l⟩ := a
  unfold Ad.cells
  cases v
  all_goals
    go_enter Tryz.func79, Tryz.ntmps79
    go_wp2_with fail
    go_ret
    exact ⟨rfl, boxed _ _⟩
theorem rsize_any (a : Ad) (w : World) : Calls Tryz.prog 106 #[.agg a.cells] w fun r w' => r = .returned (.int .i64 (a.size : Int)) ∧ Below w.heap.size w w' := by
  obtain ⟨v, h, l⟩ := a
  unfold Ad.cells
  cases v
  all_goals
    go_enter Tryz.func106, Tryz.ntmps106
    go_wp2_with fail
    go_ret
    exact ⟨rfl, boxed _ _⟩
theorem masks_any (a : Ad) (n : Nat) (hn : n ≤ a.size) (w : World) : Calls Tryz.prog 80 #[.agg a.cells, .int .u8 (n : Int)] w fun r w' => r = .returned (.tuple #[.int .u64 (mk (kH a n) : Int), .int .u64 (mk (kL a n) : Int)]) ∧ Below w.heap.size w w' := by
  obtain ⟨v, h, l⟩ := a
  unfold Ad.cells Ad.size kH kL at *
  cases v with
  | false =>
    simp only [Bool.false_eq_true, if_false] at hn ⊢
    have e1 : ((32 : Int) - (n : Int)).toNat = 32 - n := by omega
    go_enter Tryz.func80, Tryz.ntmps80
    go_wp2_with fail
    go_ret2
    exact ⟨ret_two rfl (shl_mk (by omega)), boxed _ _⟩
  | true =>
    simp only [if_true] at hn ⊢
    have e1 : ((64 : Int) - (n : Int)).toNat = 64 - n := by omega
    have e2 : ((128 : Int) - (n : Int)).toNat = 128 - n := by omega
    by_cases hc : n ≤ 64
    · rw [if_pos hc]
      go_enter Tryz.func80, Tryz.ntmps80
      go_wp2_with fail
      go_ret2
      exact ⟨ret_two (shl_mk (by omega)) rfl, boxed _ _⟩
    · rw [if_neg hc]
      have e3 : mk (64 - n) = 18446744073709551615 := by rw [show 64 - n = 0 by omega]; rfl
      rw [e3]
      go_enter Tryz.func80, Tryz.ntmps80
      go_wp2_with fail
      go_ret2
      exact ⟨ret_two rfl (shl_mk (by omega)), boxed _ _⟩
theorem bit_any (a : Ad) (i : Nat) (ok : a.Ok) (hi : i < a.size) (w : World) : Calls Tryz.prog 107 #[.agg a.cells, .int .i64 (i : Int)] w fun r w' => r = .returned (.bool (bitA a i)) ∧ Below w.heap.size w w' := by
  obtain ⟨v, h, l⟩ := a
  have okh := ok.hi
  have okl := ok.lo
  simp only at okh okl
  unfold Ad.cells bitA Ad.size Ad.val at *
  cases v with
  | false =>
    simp only [Bool.false_eq_true, if_false] at hi ⊢
    have e1 : ((31 : Int) - (i : Int)).toNat = 31 - i := by omega
    go_enter Tryz.func107, Tryz.ntmps107
    go_wp2_with fail
    go_ret
    exact ⟨ret_b (bit_one l _ okl), boxed _ _⟩
  | true =>
    simp only [if_true] at hi ⊢
    have e1 : ((63 : Int) - (i : Int)).toNat = 63 - i := by omega
    have e2 : ((127 : Int) - (i : Int)).toNat = 127 - i := by omega
    by_cases hc : i < 64
    · have hb : decide ((h * 2 ^ 64 + l) / 2 ^ (128 - 1 - i) % 2 = 1) = decide (h / 2 ^ (63 - i) % 2 = 1) := by
        rw [show 128 - 1 - i = (63 - i) + 64 by omega, glue_div _ _ _ okl]
      rw [hb]
      clear hb
      go_enter Tryz.func107, Tryz.ntmps107
      go_wp2_with fail
      go_ret
      exact ⟨ret_b (bit_one h _ okh), boxed _ _⟩
    · have hb : decide ((h * 2 ^ 64 + l) / 2 ^ (128 - 1 - i) % 2 = 1) = decide (l / 2 ^ (127 - i) % 2 = 1) := by
        rw [show 128 - 1 - i = 127 - i by omega, low_div _ _ _ (by omega)]
        have : 64 - (127 - i) = (63 - (127 - i)) + 1 := by omega
        rw [this, Nat.pow_succ, ← Nat.mul_assoc]
        refine decide_eq_decide.2 ?_
        omega
      rw [hb]
      clear hb
      go_enter Tryz.func107, Tryz.ntmps107
      go_wp2_with fail
      go_ret
      exact ⟨ret_b (bit_one l _ okl), boxed _ _⟩
end Go.Proofs.YtbiglifngfgffaaGreatDoor
