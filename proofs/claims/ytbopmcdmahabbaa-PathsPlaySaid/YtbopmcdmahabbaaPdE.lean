/- The document's answer: Sent, Score; what an answer makes of a path, in floats. -/
import Derived.Test.YtbopmcdmahabbaaPdC
namespace Go.Proofs.Ytbopmcdmahabbaa
open Go.RowKit

theorem RM.setQ {w : World} {b base cap g : Nat} {t : RTab} (h : RM w b base (some ⟨g, 0, none⟩) cap t) {i j : Nat} {q q' : RPth} {v : Value} (hi : t.l[i]? = some q) (hj : j < 12) (hq : q'.cells = q.cells.setIfInBounds j v) :
    RM (w.setCell ⟨g, i * 12 + j, none⟩ v) b base (some ⟨g, 0, none⟩) cap (t.setQ i q') := by
  have hk : Keeps (fun k => k = g) w (w.setCell ⟨g, i * 12 + j, none⟩ v) := (Keeps.refl (fun k => k = g) w).setCell (p := ⟨g, i * 12 + j, none⟩) (.inl rfl) v
  have hs := h.own_sep (g := g) rfl
  refine ⟨⟨h.lim.wait0, h.lim.wait1, h.lim.life0, h.lim.life1, h.lim.loss0, h.lim.loss1, h.lim.most0, h.lim.most1, by simpa [RTab.setQ] using h.lim.len⟩, ?_, h.row.setOne hi hj hq⟩
  have := h.blk.keep hk (fun e => hs e.symm)
  simpa [RTab.setQ] using this

theorem setQ_setQ (t : RTab) (i : Nat) (q q' : RPth) : (t.setQ i q).setQ i q' = t.setQ i q' := by
  unfold RTab.setQ
  simp only [List.set_set]
theorem setQ_at {t : RTab} {i : Nat} {q q' : RPth} (h : t.l[i]? = some q) : (t.setQ i q').l[i]? = some q' := by
  have hlt : i < t.l.length := by
    rcases Nat.lt_or_ge i t.l.length with h1 | h1
    · exact h1
    · rw [List.getElem?_eq_none h1] at h; cases h
  exact List.getElem?_set_self hlt

def rsentT (t : RTab) (tx : ByteArray) (e : End) (now : Nat) : RTab × Int :=
  if tx.size ≠ 16 then (t, 2) else match rfind t e with
    | none => (t, 5)
    | some k => if (rping t tx).isSome then (t, 9) else match t.l[k]? with
      | none => (t, 5)
      | some q => (t.setQ k { q with waits := true, tx := tx, at_ := now }, 0)

def rscoreV (t : RTab) (e : End) (now : Nat) : Value :=
  match (rfind t e).bind fun i => t.l[i]? with
  | none => .tuple #[.float .f64 0, .bool false]
  | some q => .tuple #[.float .f64 (if rthere t q.p now then sc q.p else 0), .bool (rthere t q.p now)]

section
variable {n b : Nat} {t : RTab} {w : World}

set_option maxHeartbeats 2000000 in
set_option maxRecDepth 100000 in
theorem c_rsent (h : RL n b t w) (tx : ByteArray) (e : End) (now : Nat) :
    Calls Try.prog 41 #[ptr b, .string tx, .agg e.cells, .int .u64 (now : Int)] w (RDoes n b (rsentT t tx e now).1 (.int .i64 (rsentT t tx e now).2) w) := by
  have hL := h
  obtain ⟨base, A, cap, hm, h1, h2, h3⟩ := h
  have hm1 := hm.alloc (.cells #[.bool e.v6, .int .u64 (e.hi : Int), .int .u64 (e.lo : Int), .int .u16 (e.port : Int)] 35)
  have b1 := (Below.refl w.heap.size w).alloc (Nat.le_refl _) (.cells #[.bool e.v6, .int .u64 (e.hi : Int), .int .u64 (e.lo : Int), .int .u16 (e.port : Int)] 35)
  have hl := hm.lim.len
  have hl1 := hm.lim.most1
  unfold rsentT
  by_cases hs : tx.size ≠ 16
  · rw [if_pos hs]
    have hd : ((tx.size : Int) == 16) = false := by simp; omega
    have hd2 : ((tx.size : Int) != 16) = true := by simp; omega
    clear hs
    rw [cellsE]
    go_enter Try.func41, Try.ntmps41
    go_wp2_with fail
    go_ret
    exact ⟨rfl, hL.below b1, b1.mono hL.size, Keeps.of_below b1 (fun k hk _ => hk)⟩
  · rw [if_neg hs]
    have hd : ((tx.size : Int) == 16) = true := by simp; omega
    have hd2 : ((tx.size : Int) != 16) = false := by simp; omega
    have hfy := rfind_any hm1 e
    cases hf : rfind t e with
    | none =>
      rw [hf] at hfy
      have Hfy := Lib.hid hfy
      clear hs hf hfy
      rw [cellsE] at *
      go_enter Try.func41, Try.ntmps41
      go_wp2_with fail
      refine Hfy.out.mono ?_
      rintro r w1 ⟨rfl, hb⟩
      unfold oidx
      go_wp2_with fail
      go_ret
      have bb := b1.trans (hb.mono (by simp))
      exact ⟨rfl, hL.below bb, bb.mono hL.size, Keeps.of_below bb (fun k hk _ => hk)⟩
    | some k =>
      have hkl : k < t.l.length := (List.findIdx?_eq_some_iff_getElem.1 hf).1
      obtain ⟨q, hq⟩ : ∃ q, t.l[k]? = some q := ⟨t.l[k], List.getElem?_eq_getElem hkl⟩
      rw [hf] at hfy
      have Hfy := Lib.hid hfy
      have hk0 : (0 : Int) ≤ (k : Int) := by omega
      simp only [hq]
      clear hs hf hfy
      rw [cellsE] at *
      cases hp : rping t tx with
      | some j =>
        simp only [Option.isSome_some, if_true]
        go_enter Try.func41, Try.ntmps41
        go_wp2_with fail
        refine Hfy.out.mono ?_
        rintro r w1 ⟨rfl, hb⟩
        have hm2 := hm1.below hb
        have bb := b1.trans (hb.mono (by simp))
        have hpy := rping_any hm2 tx
        unfold oidx
        rw [hp] at hpy
        have hj0 : (0 : Int) ≤ (j : Int) := by omega
        have Hpy := Lib.hid hpy
        clear hpy hp
        go_wp2_with fail
        refine Hpy.out.mono ?_
        rintro r w2 ⟨rfl, rfl⟩
        unfold oidx
        go_wp2_with fail
        go_ret
        exact ⟨rfl, hL.below bb, bb.mono hL.size, Keeps.of_below bb (fun k hk _ => hk)⟩
      | none =>
        simp only [Option.isSome_none, Bool.false_eq_true, if_false]
        go_enter Try.func41, Try.ntmps41
        go_wp2_with fail
        refine Hfy.out.mono ?_
        rintro r w1 ⟨rfl, hb⟩
        have hm2 := hm1.below hb
        have bb := b1.trans (hb.mono (by simp))
        have hpy := rping_any hm2 tx
        unfold oidx
        rw [hp] at hpy
        have Hpy := Lib.hid hpy
        obtain ⟨g, rfl, hbg, hgl, hc⟩ := hm2.row.at_ hq
        have q9 := hc 9 (by omega)
        have q10 := hc 10 (by omega)
        have q11 := hc 11 (by omega)
        simp [RPth.cells] at q9 q10 q11
        have f9 := World.ownsRow.frozenAt hm2.row (k * 12 + 9)
        have f10 := World.ownsRow.frozenAt hm2.row (k * 12 + 10)
        have f11 := World.ownsRow.frozenAt hm2.row (k * 12 + 11)
        have d4 := hm2.cells.2.2.2.2.1
        have hgb : g ≠ b := hm2.own_sep (g := g) rfl
        have hgb2 : b ≠ g := fun e => hgb e.symm
        have a9 := hm2.setQ (i := k) (j := 9) (q' := { q with waits := true }) (v := .bool true) hq (by omega) rfl
        have a10 := a9.setQ (i := k) (j := 10) (q' := { q with waits := true, tx := tx }) (v := .string tx) (setQ_at hq) (by omega) rfl
        have a11 := a10.setQ (i := k) (j := 11) (q' := { q with waits := true, tx := tx, at_ := now }) (v := .int .u64 (now : Int)) (setQ_at (setQ_at hq)) (by omega) rfl
        simp only [setQ_setQ] at a11
        have k1 : Keeps (fun x => x = b ∨ (Value.slice (some ⟨g, 0, none⟩) 0 0).ownBlock = some x) w w1 := Keeps.of_below bb (fun k hk _ => hk)
        have k4 := ((k1.setCell (p := ⟨g, k * 12 + 9, none⟩) (.inl (.inr rfl)) (.bool true)).setCell (p := ⟨g, k * 12 + 10, none⟩) (.inl (.inr rfl)) (.string tx)).setCell (p := ⟨g, k * 12 + 11, none⟩) (.inl (.inr rfl)) (.int .u64 (now : Int))
        have A11 := Lib.hid a11
        have K4 := Lib.hid k4
        clear hpy hp hc hq a9 a10 a11 k1 k4
        go_wp2_with fail
        refine Hpy.out.mono ?_
        rintro r w2 ⟨rfl, rfl⟩
        unfold oidx
        go_wp2_with fail
        go_ret
        obtain ⟨p1, p2⟩ := hm.done K4.out h1 h2 h3
        exact ⟨rfl, ⟨base, _, _, A11.out, h1, h2, Nat.le_trans h3 K4.out.size⟩, p1, p2⟩

set_option maxHeartbeats 2000000 in
set_option maxRecDepth 100000 in
theorem c_rscore (h : RL n b t w) (e : End) (now : Nat) (hn : now < M64) (hlast : ∀ q ∈ t.l, q.p.last < M64) (hfin : ∀ q ∈ t.l, ∃ mm, F.mul c4 q.p.y = some mm ∧ F.add q.p.x mm = some (sc q.p)) :
    Calls Try.prog 39 #[ptr b, .agg e.cells, .int .u64 (now : Int)] w (RSays n b t (rscoreV t e now) w) := by
  have hL := h
  obtain ⟨base, A, cap, hm, h1, h2, h3⟩ := h
  have hm1 := hm.alloc (.cells #[.bool e.v6, .int .u64 (e.hi : Int), .int .u64 (e.lo : Int), .int .u16 (e.port : Int)] 35)
  have b1 := (Below.refl w.heap.size w).alloc (Nat.le_refl _) (.cells #[.bool e.v6, .int .u64 (e.hi : Int), .int .u64 (e.lo : Int), .int .u16 (e.port : Int)] 35)
  have hl := hm.lim.len
  have hl1 := hm.lim.most1
  have hfy := rfind_any hm1 e
  unfold rscoreV
  cases hf : rfind t e with
  | none =>
    rw [hf] at hfy
    have Hfy := Lib.hid hfy
    clear hf hfy
    rw [cellsE] at *
    go_enter Try.func39, Try.ntmps39
    go_wp2_with fail
    refine Hfy.out.mono ?_
    rintro r w1 ⟨rfl, hb⟩
    unfold oidx
    go_wp2_with fail
    go_ret2
    exact hL.says rfl (b1.trans (hb.mono (by simp)))
  | some k =>
    have hkl : k < t.l.length := (List.findIdx?_eq_some_iff_getElem.1 hf).1
    obtain ⟨q, hq⟩ : ∃ q, t.l[k]? = some q := ⟨t.l[k], List.getElem?_eq_getElem hkl⟩
    rw [hf] at hfy
    have Hfy := Lib.hid hfy
    have hk0 : (0 : Int) ≤ (k : Int) := by omega
    have hmem := List.mem_of_getElem? hq
    obtain ⟨mm, m1, m2⟩ := hfin q hmem
    have hla := hlast q hmem
    simp only [Option.bind_some, hq]
    have M1 := Lib.hid m1
    have M2 := Lib.hid m2
    have Hq := Lib.hid hq
    clear hf hfy m1 m2 hmem hlast hfin hq
    rw [cellsE] at *
    cases hth : rthere t q.p now with
    | false =>
      simp only [Bool.false_eq_true, if_false]
      have Hth := Lib.hid hth
      clear hth
      go_enter Try.func39, Try.ntmps39
      go_wp2_with fail
      refine Hfy.out.mono ?_
      rintro r w1 ⟨rfl, hb⟩
      have hm2 := hm1.below hb
      have bb := b1.trans (hb.mono (by simp))
      obtain ⟨g, rfl, hbg, hgl, hc⟩ := hm2.row.at_ Hq.out
      have q0 := hc 0 (by omega)
      have q1 := hc 1 (by omega)
      have q2 := hc 2 (by omega)
      have q3 := hc 3 (by omega)
      have q4 := hc 4 (by omega)
      have q5 := hc 5 (by omega)
      have q6 := hc 6 (by omega)
      have q7 := hc 7 (by omega)
      have q8 := hc 8 (by omega)
      have q9 := hc 9 (by omega)
      have q10 := hc 10 (by omega)
      have q11 := hc 11 (by omega)
      simp [RPth.cells] at q0 q1 q2 q3 q4 q5 q6 q7 q8 q9 q10 q11
      have d4 := hm2.cells.2.2.2.2.1
      have hth := rthere_any hm2 q now hn hla false Hth.out
      unfold RPth.cells at hth
      have HT := Lib.hid hth
      clear hc hth
      unfold oidx
      go_wp2_with (go_at_call 50; refine HT.out.mono ?_; rintro r w2 ⟨rfl, hb2⟩)
      go_ret2
      exact hL.says rfl (bb.trans (hb2.mono bb.size))
    | true =>
      simp only [if_true]
      have Hth := Lib.hid hth
      clear hth
      go_enter Try.func39, Try.ntmps39
      go_wp2_with fail
      refine Hfy.out.mono ?_
      rintro r w1 ⟨rfl, hb⟩
      have hm2 := hm1.below hb
      have bb := b1.trans (hb.mono (by simp))
      obtain ⟨g, rfl, hbg, hgl, hc⟩ := hm2.row.at_ Hq.out
      have q0 := hc 0 (by omega)
      have q1 := hc 1 (by omega)
      have q2 := hc 2 (by omega)
      have q3 := hc 3 (by omega)
      have q4 := hc 4 (by omega)
      have q5 := hc 5 (by omega)
      have q6 := hc 6 (by omega)
      have q7 := hc 7 (by omega)
      have q8 := hc 8 (by omega)
      have q9 := hc 9 (by omega)
      have q10 := hc 10 (by omega)
      have q11 := hc 11 (by omega)
      simp [RPth.cells] at q0 q1 q2 q3 q4 q5 q6 q7 q8 q9 q10 q11
      have d4 := hm2.cells.2.2.2.2.1
      have hth := rthere_any hm2 q now hn hla true Hth.out
      unfold RPth.cells at hth
      have HT := Lib.hid hth
      clear hth
      unfold oidx
      have Hc := Lib.hid hc
      clear hc
      go_wp2_with fail
      go_at_call 50
      refine HT.out.mono ?_
      rintro r w2 ⟨rfl, hb2⟩
      have hm3 := hm2.below hb2
      obtain ⟨g', hg', _, _, hc⟩ := hm3.row.at_ Hq.out
      obtain rfl : g = g' := by injection hg' with hg'; injection hg'
      have p0 := hc 0 (by omega)
      have p1 := hc 1 (by omega)
      have p2 := hc 2 (by omega)
      have p3 := hc 3 (by omega)
      have p4 := hc 4 (by omega)
      have p5 := hc 5 (by omega)
      have p6 := hc 6 (by omega)
      have p7 := hc 7 (by omega)
      have p8 := hc 8 (by omega)
      have p9 := hc 9 (by omega)
      have p10 := hc 10 (by omega)
      have p11 := hc 11 (by omega)
      simp [RPth.cells] at p0 p1 p2 p3 p4 p5 p6 p7 p8 p9 p10 p11
      have d4' := hm3.cells.2.2.2.2.1
      have hsc := rscore_any q w2 M1.out M2.out
      unfold RPth.cells at hsc
      have HS := Lib.hid hsc
      clear hsc hc hg'
      go_wp2_with fail
      go_at_call 51
      refine HS.out.mono ?_
      rintro r w3 ⟨rfl, hb3⟩
      go_wp2_with fail
      go_ret2
      exact hL.says rfl ((bb.trans (hb2.mono bb.size)).trans (hb3.mono (by have := hb2.size; have := bb.size; omega)))
end
end Go.Proofs.Ytbopmcdmahabbaa

namespace Go.Proofs.Ytbopmcdmahabbaa
open Go.RowKit

theorem xor_sign {n : Nat} (h : n < 9223372036854775808) : (9223372036854775808 + n) ^^^ 9223372036854775808 = n := by
  have e : (9223372036854775808 : Nat) = 2 ^ 63 := by decide
  rw [e] at h ⊢
  apply Nat.eq_of_testBit_eq
  intro i
  rw [Nat.testBit_xor, Nat.testBit_two_pow]
  rcases Nat.lt_trichotomy i 63 with hi | hi | hi
  · rw [Nat.testBit_two_pow_add_gt hi, decide_eq_false (by omega), Bool.xor_false]
  · subst hi
    rw [Nat.testBit_two_pow_add_eq, decide_eq_true rfl, Nat.testBit_lt_two_pow h]
    rfl
  · have h1 : 2 ^ 63 + n < 2 ^ i := by
      have : 2 ^ (63 + 1) ≤ 2 ^ i := Nat.pow_le_pow_right (by omega) (by omega)
      have e2 : (2 : Nat) ^ (63 + 1) = 2 * 2 ^ 63 := by rw [Nat.pow_succ, Nat.mul_comm]
      omega
    have h2 : n < 2 ^ i := by omega
    rw [Nat.testBit_lt_two_pow h1, decide_eq_false (by omega), Nat.testBit_lt_two_pow h2]
    rfl

theorem negF {n : Nat} (h : n < top) : Op.negFloat .f64 (wd true n) = n := by
  have h2 : n < 9218868437227405312 := h
  rw [wd_true]
  show (9223372036854775808 + n) ^^^ 2 ^ (11 + 52) = n
  rw [show (2 : Nat) ^ (11 + 52) = 9223372036854775808 by decide]
  exact xor_sign (by omega)

/- A number below nought is told by its sign. -/
theorem flt_wd (s : Bool) {n : Nat} (hn : n < top) (h : s = true → n ≠ 0) : flt (wd s n) 0 = s := by
  cases s with
  | false =>
    rw [wd_false, flt_ok hn (by decide), decide_eq_false (by omega)]
  | true =>
    have r1 := read_wd true hn
    have r2 := read_wd false (k := 0) (by decide)
    rw [wd_false, mk0] at r2
    have h1 : Ieee.double.order (wd true n) 0 = some .lt := by
      unfold Ieee.Format.order
      rw [r1, r2]
      show some (compare (Ieee.signed true (mk n) (pk n - min (pk n) (pk 0)).toNat) (Ieee.signed false 0 (pk 0 - min (pk n) (pk 0)).toNat)) = _
      have g1 := pk_ge n
      have g0 := pk_ge 0
      have e1 := shl_val (mk n) (p := pk n) (b := min (pk n) (pk 0)) (by omega) (by omega)
      have hpos : 0 < mk n <<< (pk n - min (pk n) (pk 0)).toNat := by
        rcases Nat.eq_zero_or_pos (mk n <<< (pk n - min (pk n) (pk 0)).toNat) with h0 | h0
        · rw [h0, Nat.zero_mul] at e1
          have : 0 < val (mk n) (pk n) := Nat.mul_pos (Nat.pos_of_ne_zero (mk_ne (h rfl))) (Nat.two_pow_pos _)
          omega
        · exact h0
      unfold Ieee.signed
      simp only [if_true, Bool.false_eq_true, if_false, Nat.zero_shiftLeft]
      congr 1
      rw [Int.compare_eq_lt]
      omega
    have h1' : F.order (wd true n) 0 = some .lt := h1
    unfold flt
    rw [h1']
    rfl

/- The document's steps: all are numbers. -/
structure DocStep (r x y : Nat) : Prop where
  out : ∃ d s n q b q2, F.sub r x = some d ∧ flt d 0 = s ∧ (s = true → Op.negFloat .f64 d = n) ∧ (s = false → d = n) ∧ F.div d c8 = some q ∧ F.add x q = some (docX r x) ∧ F.sub n y = some b ∧ F.div b c8 = some q2 ∧ F.add y q2 = some (docY r x y)

theorem doc_step {r x y j : Nat} (hj : j ≤ 700) (hr : r ≤ B j) (hx : x ≤ B j) (hy : y ≤ B j) : DocStep r x y := by
  obtain ⟨d, m1, q, x', n, a1, a2, a3, a4, a5, a6, a7, a8, a9, a10, a11⟩ := part_step (by omega) hx hr
  have hnt : n < top := by have := B_top (j := j) (by omega); omega
  obtain ⟨d2, m4, q2, y', n2, b1, b2, b3, b4, b5, b6, b7, b8, b9, b10, b11⟩ := part_step (x := y) (z := n) (by omega) hy a3
  have fd : fabs d = n := by rw [a2]; exact fabs_wd _ hnt
  have c1 : F.sub r x = some d := a1
  have c2 : F.div d c8 = some q := a8
  have c3 : F.add x q = some x' := a9
  have c4' : F.sub n y = some d2 := b1
  have c5 : F.div d2 c8 = some q2 := b8
  have c6 : F.add y q2 = some y' := b9
  have ex : docX r x = x' := by unfold docX; rw [c1, Option.getD_some, c2, Option.getD_some, c3, Option.getD_some]
  have ey : docY r x y = y' := by unfold docY; rw [c1, Option.getD_some, fd, c4', Option.getD_some, c5, Option.getD_some, c6, Option.getD_some]
  refine ⟨d, (d != n), n, q, d2, q2, c1, ?_, fun h => ?_, fun h => ?_, c2, by rw [ex]; exact c3, c4', c5, by rw [ey]; exact c6⟩
  · have h1 := flt_wd (d != n) hnt a11
    rw [← a2] at h1
    exact h1
  · rw [h] at a2
    rw [a2]
    exact negF hnt
  · rw [h, wd_false] at a2
    exact a2

end Go.Proofs.Ytbopmcdmahabbaa
