/- stands: both look the same. -/
import Derived.Test.YtbopmcdmahabbaaPdL
namespace Go.Proofs.Ytbopmcdmahabbaa
open Go.RowKit
attribute [local go_sem] run_store_float run_store_complex

def wtx (q : RPth) : Option ByteArray := if q.waits then some q.tx else none

theorem filterMap_at {α β : Type} {l : List α} {f : α → Option β} {i : Nat} {q : α} {s : β} (hq : l[i]? = some q) (hs : f q = some s) : (l.filterMap f)[((l.take i).filterMap f).length]? = some s := by
  have hlt : i < l.length := by
    rcases Nat.lt_or_ge i l.length with h | h
    · exact h
    · rw [List.getElem?_eq_none h] at hq; cases hq
  rw [List.getElem?_eq_getElem hlt] at hq
  injection hq with hq
  have e : l = l.take i ++ q :: l.drop (i + 1) := by
    rw [← hq, ← List.drop_eq_getElem_cons hlt, List.take_append_drop]
  have e2 : l.filterMap f = (l.take i).filterMap f ++ s :: (l.drop (i + 1)).filterMap f := by
    rw [e, List.filterMap_append, List.filterMap_cons, hs, ← e]
  rw [e2, List.getElem?_append_right (Nat.le_refl _), Nat.sub_self]
  rfl

def wcnt (rt : RTab) (i : Nat) : Nat := ((rt.l.take i).filterMap wtx).length
theorem wcnt_succ {rt : RTab} {i : Nat} {q : RPth} (hq : rt.l[i]? = some q) : wcnt rt (i + 1) = wcnt rt i + (if q.waits then 1 else 0) := by
  have hlt : i < rt.l.length := by
    rcases Nat.lt_or_ge i rt.l.length with h | h
    · exact h
    · rw [List.getElem?_eq_none h] at hq; cases hq
  rw [List.getElem?_eq_getElem hlt] at hq
  injection hq with hq
  unfold wcnt
  rw [List.take_succ_eq_append_getElem hlt, List.filterMap_append, List.length_append, hq]
  unfold wtx
  cases h : q.waits <;> simp [h]
theorem wcnt_le (rt : RTab) (i : Nat) : wcnt rt i ≤ i := by
  unfold wcnt
  have h1 := List.length_filterMap_le wtx (rt.l.take i)
  rw [List.length_take] at h1
  omega

theorem PCells.under {w w' : World} {B : Nat} {A : Option Addr} {l : List Pth} (h : PCells w B A l) (hb : Below w.heap.size w w') : PCells w' B A l := by
  intro i p hi
  obtain ⟨g, e, h1, h2, h3⟩ := h i p hi
  exact ⟨g, e, h1, Nat.lt_of_lt_of_le h2 hb.size, fun j hj => (hb.cell (p := ⟨g, i * 8 + j, none⟩) h2).trans (h3 j hj)⟩
theorem SCells.under {w w' : World} {B : Nat} {A : Option Addr} {l : List ByteArray} (h : SCells w B A l) (hb : Below w.heap.size w w') : SCells w' B A l := by
  intro i p hi
  obtain ⟨g, e, h1, h2, h3⟩ := h i p hi
  exact ⟨g, e, h1, Nat.lt_of_lt_of_le h2 hb.size, (hb.cell (p := ⟨g, i, none⟩) h2).trans h3⟩

theorem bits_any (x : Nat) (w : World) : Calls Try.prog 40 #[.float .f64 x, .float .f64 x] w fun e w' => e = .returned (.bool true) ∧ w = w' := by
  have h1 := call47 x
  go_enter Try.func40, Try.ntmps40
  go_wp2
  go_ret
  exact ⟨by simp, rfl⟩

set_option maxHeartbeats 8000000 in
set_option maxRecDepth 100000 in
theorem stands_any {n b rb j : Nat} {t : Tab} {rt : RTab} {w : World} (h : Live n b t w) (hr : RL n rb rt w) (hs : Sync t rt) (iv : Inv j t) :
    Calls Try.prog 21 #[ptr b, ptr rb] w fun r w' => r = .returned (.bool true) ∧ Below w.heap.size w w' := by
  have hwl := hs.wl iv
  have hlen := hs.len
  have hl64 : t.l.length ≤ 64 := Nat.le_trans h.lim.len h.lim.most1
  have Hwl := Lib.hid hwl
  have Hlen := Lib.hid hlen
  clear hwl hlen
  go_enter Try.func21, Try.ntmps21
  go_wp2_with fail
  go_at_call 18
  refine (live_paths h).mono ?_
  rintro r v1 ⟨A1, rfl, pc, l1, e1⟩
  go_wp2_with fail
  go_at_call 22
  refine (live_waiting l1 iv.ok).mono ?_
  rintro r v2 ⟨A2, rfl, sc2, l2, e2⟩
  have e12 := e1.trans (e2.mono e1.size)
  have r2 := hr.below e12
  obtain ⟨base, A, cap, hm, _, _, _⟩ := r2
  have d4 := hm.cells.2.2.2.2.1
  rw [Hlen.out] at d4
  have hwll : (wl t).length = wcnt rt rt.l.length := by
    rw [Hwl.out]
    unfold wcnt
    rw [List.take_length]
    rfl
  have hwl64 : (wl t).length ≤ 64 := by
    rw [hwll]
    have := wcnt_le rt rt.l.length
    rw [Hlen.out] at this ⊢
    omega
  have Hwll := Lib.hid hwll
  clear hwll
  go_wp2_with fail
  go_loopw [7, 8] (fun v7 v8 wr => ∃ i : Nat, i ≤ t.l.length ∧ v7 = .int .i64 (wcnt rt i : Int) ∧ v8 = .int .i64 (i : Int) ∧ Below v2.heap.size v2 wr) (fun _ v8 _ => t.l.length - (intOf v8).toNat)
  case atStart => exact ⟨0, Nat.zero_le _, rfl, rfl, Below.refl _ _⟩
  case round =>
    obtain ⟨i, hi, rfl, rfl, br⟩ := hrel
    have hi0 : (0 : Int) ≤ (i : Int) := by omega
    have hcn := wcnt_le rt i
    by_cases hlt : i < t.l.length
    · have hiL : (i : Int) < (t.l.length : Int) := by omega
      obtain ⟨q, hq⟩ : ∃ q, rt.l[i]? = some q := ⟨rt.l[i]'(by rw [Hlen.out]; exact hlt), List.getElem?_eq_getElem _⟩
      have hp := hs.at_ hq
      have hmr := hm.below br
      have d4r := hmr.cells.2.2.2.2.1
      rw [Hlen.out] at d4r
      obtain ⟨g, rfl, hg0, hgl, hc⟩ := hmr.row.at_ hq
      have q0 := hc 0 (by omega)
      have q1 := hc 1 (by omega)
      have q2 := hc 2 (by omega)
      have q3 := hc 3 (by omega)
      have q4 := hc 4 (by omega)
      have q5 := hc 5 (by omega)
      have q6 := hc 6 (by omega)
      have q7 := hc 7 (by omega)
      have q8 := hc 8 (by omega)
      have q9 := hc 9 (by omega)
      have q10 := hc 10 (by omega)
      have q11 := hc 11 (by omega)
      simp [RPth.cells] at q0 q1 q2 q3 q4 q5 q6 q7 q8 q9 q10 q11
      obtain ⟨g1, rfl, hg10, hg1l, hc1⟩ := (PCells.under pc (e2.trans (br.mono e2.size))) i q.p hp
      have p0 := hc1 0 (by omega)
      have p1 := hc1 1 (by omega)
      have p2 := hc1 2 (by omega)
      have p3 := hc1 3 (by omega)
      have p4 := hc1 4 (by omega)
      have p5 := hc1 5 (by omega)
      have p6 := hc1 6 (by omega)
      have p7 := hc1 7 (by omega)
      simp [Pth.cells] at p0 p1 p2 p3 p4 p5 p6 p7
      have hne := neq35 q.p.e q.p.e
      rw [End.eqb_iff.2 rfl] at hne
      have ei : ((i + 1 : Nat) : Int) = (i : Int) + 1 := by omega
      have Ei := Lib.hid ei
      have hcs := wcnt_succ hq
      have Hq := Lib.hid hq
      have Hcs := Lib.hid hcs
      have hc0 : (0 : Int) ≤ (wcnt rt i : Int) := by omega
      have hc64 : (wcnt rt i : Int) ≤ 64 := by omega
      clear hc hc1 hq hp ei hcs
      go_wp2_with fail
      have hQ := Blk.new wr 90 #[.bool q.p.e.v6, .int .u64 (q.p.e.hi : Int), .int .u64 (q.p.e.lo : Int), .int .u16 (q.p.e.port : Int), .float .f64 q.p.x, .float .f64 q.p.y, .bool q.p.heard, .int .u64 (q.p.last : Int), .int .i64 q.p.lost, .bool q.waits, .string q.tx, .int .u64 (q.at_ : Int)]
      have b3 := br.alloc br.size (.cells #[.bool q.p.e.v6, .int .u64 (q.p.e.hi : Int), .int .u64 (q.p.e.lo : Int), .int .u16 (q.p.e.port : Int), .float .f64 q.p.x, .float .f64 q.p.y, .bool q.p.heard, .int .u64 (q.p.last : Int), .int .i64 q.p.lost, .bool q.waits, .string q.tx, .int .u64 (q.at_ : Int)] 90)
      clear p0 p1 p2 p3 p4 p5 p6 p7 q0 q1 q2 q3 q4 q5 q6 q7 q8 q9 q10 q11 d4r
      generalize wr.alloc (.cells #[.bool q.p.e.v6, .int .u64 (q.p.e.hi : Int), .int .u64 (q.p.e.lo : Int), .int .u16 (q.p.e.port : Int), .float .f64 q.p.x, .float .f64 q.p.y, .bool q.p.heard, .int .u64 (q.p.last : Int), .int .i64 q.p.lost, .bool q.waits, .string q.tx, .int .u64 (q.at_ : Int)] 90) = v3 at hQ b3 ⊢
      generalize hvb : wr.heap.size = vb at hQ ⊢
      obtain ⟨g1', hg1', _, _, hc1⟩ := (PCells.under pc (e2.trans (b3.mono e2.size))) i q.p (hs.at_ Hq.out)
      obtain rfl : g1 = g1' := by injection hg1' with hg1'; injection hg1'
      have p0 := hc1 0 (by omega)
      have p1 := hc1 1 (by omega)
      have p2 := hc1 2 (by omega)
      have p3 := hc1 3 (by omega)
      have p4 := hc1 4 (by omega)
      have p5 := hc1 5 (by omega)
      have p6 := hc1 6 (by omega)
      have p7 := hc1 7 (by omega)
      simp [Pth.cells] at p0 p1 p2 p3 p4 p5 p6 p7
      have z0 := hQ.cell 0
      have z1 := hQ.cell 1
      have z2 := hQ.cell 2
      have z3 := hQ.cell 3
      have z4 := hQ.cell 4
      have z5 := hQ.cell 5
      have z6 := hQ.cell 6
      have z7 := hQ.cell 7
      have z8 := hQ.cell 8
      have z9 := hQ.cell 9
      have z10 := hQ.cell 10
      simp at z0 z1 z2 z3 z4 z5 z6 z7 z8 z9 z10
      clear hc1 hg1' hvb hmr
      cases hqw : q.waits with
      | false =>
        rw [hqw] at z9
        have hcs := Hcs.out
        rw [hqw] at hcs
        simp only [Bool.false_eq_true, if_false, Nat.add_zero] at hcs
        have Hcs2 := Lib.hid hcs
        clear hcs hqw hQ
        go_quiet ((go_at_call 40; exact quiet_left (bits_any _ _)))
        go_wp2_with fail
        go_roundw
        case rel => exact ⟨i + 1, by omega, by rw [Hcs2.out], by rw [Ei.out], ⟨b3.os, b3.tape, b3.output, b3.size, b3.block⟩⟩
        case measure => simp [intOf]; omega
      | true =>
        rw [hqw] at z9
        have hcs := Hcs.out
        rw [hqw] at hcs
        simp only [if_true] at hcs
        have Hcs2 := Lib.hid hcs
        have hwat : (wl t)[wcnt rt i]? = some q.tx := by
          rw [Hwl.out]
          exact filterMap_at (f := wtx) Hq.out (by unfold wtx; rw [hqw]; rfl)
        obtain ⟨g2, rfl, _, hg2l, w0⟩ := (SCells.under sc2 b3) _ _ hwat
        have hcl : wcnt rt i < (wl t).length := by
          rcases Nat.lt_or_ge (wcnt rt i) (wl t).length with h1 | h1
          · exact h1
          · rw [List.getElem?_eq_none h1] at hwat; cases hwat
        have hd : decide ((wl t).length ≤ wcnt rt i) = false := by rw [decide_eq_false_iff_not]; omega
        have hcl' : (wcnt rt i : Int) < ((wl t).length : Int) := by omega
        clear hcs hqw hQ hwat
        go_quiet ((go_at_call 40; exact quiet_left (bits_any _ _)))
        go_wp2_with fail
        go_quiet (fail)
        go_wp2_with fail
        go_roundw
        case rel => exact ⟨i + 1, by omega, by rw [Hcs2.out]; rfl, by rw [Ei.out], ⟨b3.os, b3.tape, b3.output, b3.size, b3.block⟩⟩
        case measure => simp [intOf]; omega
    · obtain rfl : i = t.l.length := by omega
      have hiL : decide ((t.l.length : Int) < (t.l.length : Int)) = false := by simp
      have he : (wcnt rt t.l.length : Int) = ((wl t).length : Int) := by rw [Hwll.out, Hlen.out]
      rw [he]
      have hbb : ((((wl t).length : Int) == ((wl t).length : Int))) = true := by simp
      clear he
      go_wp2_with fail
      go_ret
      exact ⟨rfl, e12.trans (br.mono e12.size)⟩
end Go.Proofs.Ytbopmcdmahabbaa
