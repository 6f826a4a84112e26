/- The document's answer: Pong. -/
import Derived.Test.YtbopmcdmahabbaaPdE
namespace Go.Proofs.Ytbopmcdmahabbaa
open Go.RowKit
theorem unary_negF (b : Nat) : Op.unary .neg (.float .f64 b) = pure (.float .f64 (Op.negFloat .f64 b)) := rfl
attribute [local go_sem] run_store_float run_store_complex unary_negF

/- One path laid over another one. -/
def setQ12 (w : World) (g i : Nat) (q : RPth) : World :=
  ((((((((((((w.setCell ⟨g, i * 12, none⟩ (.bool q.p.e.v6)).setCell ⟨g, i * 12 + 1, none⟩ (.int .u64 (q.p.e.hi : Int))).setCell ⟨g, i * 12 + 2, none⟩ (.int .u64 (q.p.e.lo : Int))).setCell ⟨g, i * 12 + 3, none⟩ (.int .u16 (q.p.e.port : Int))).setCell ⟨g, i * 12 + 4, none⟩ (.float .f64 q.p.x)).setCell ⟨g, i * 12 + 5, none⟩ (.float .f64 q.p.y)).setCell ⟨g, i * 12 + 6, none⟩ (.bool q.p.heard)).setCell ⟨g, i * 12 + 7, none⟩ (.int .u64 (q.p.last : Int))).setCell ⟨g, i * 12 + 8, none⟩ (.int .i64 q.p.lost)).setCell ⟨g, i * 12 + 9, none⟩ (.bool q.waits)).setCell ⟨g, i * 12 + 10, none⟩ (.string q.tx)).setCell ⟨g, i * 12 + 11, none⟩ (.int .u64 (q.at_ : Int)))

theorem RM.set12 {w : World} {b base cap g : Nat} {t : RTab} (h : RM w b base (some ⟨g, 0, none⟩) cap t) {i : Nat} {q0 : RPth} (hq : t.l[i]? = some q0) (q : RPth) : RM (setQ12 w g i q) b base (some ⟨g, 0, none⟩) cap (t.setQ i q) := by
  have a0 := h.setQ (i := i) (j := 0) (q' := { q0 with p := { q0.p with e := { q0.p.e with v6 := q.p.e.v6 } } }) (v := .bool q.p.e.v6) hq (by omega) rfl
  have a1 := a0.setQ (i := i) (j := 1) (q' := { q0 with p := { q0.p with e := { q0.p.e with v6 := q.p.e.v6, hi := q.p.e.hi } } }) (v := .int .u64 (q.p.e.hi : Int)) (setQ_at hq) (by omega) rfl
  rw [setQ_setQ] at a1
  have a2 := a1.setQ (i := i) (j := 2) (q' := { q0 with p := { q0.p with e := { q0.p.e with v6 := q.p.e.v6, hi := q.p.e.hi, lo := q.p.e.lo } } }) (v := .int .u64 (q.p.e.lo : Int)) (setQ_at hq) (by omega) rfl
  rw [setQ_setQ] at a2
  have a3 := a2.setQ (i := i) (j := 3) (q' := { q0 with p := { q0.p with e := q.p.e } }) (v := .int .u16 (q.p.e.port : Int)) (setQ_at hq) (by omega) rfl
  rw [setQ_setQ] at a3
  have a4 := a3.setQ (i := i) (j := 4) (q' := { q0 with p := { q0.p with e := q.p.e, x := q.p.x } }) (v := .float .f64 q.p.x) (setQ_at hq) (by omega) rfl
  rw [setQ_setQ] at a4
  have a5 := a4.setQ (i := i) (j := 5) (q' := { q0 with p := { q0.p with e := q.p.e, x := q.p.x, y := q.p.y } }) (v := .float .f64 q.p.y) (setQ_at hq) (by omega) rfl
  rw [setQ_setQ] at a5
  have a6 := a5.setQ (i := i) (j := 6) (q' := { q0 with p := { q0.p with e := q.p.e, x := q.p.x, y := q.p.y, heard := q.p.heard } }) (v := .bool q.p.heard) (setQ_at hq) (by omega) rfl
  rw [setQ_setQ] at a6
  have a7 := a6.setQ (i := i) (j := 7) (q' := { q0 with p := { q0.p with e := q.p.e, x := q.p.x, y := q.p.y, heard := q.p.heard, last := q.p.last } }) (v := .int .u64 (q.p.last : Int)) (setQ_at hq) (by omega) rfl
  rw [setQ_setQ] at a7
  have a8 := a7.setQ (i := i) (j := 8) (q' := { q0 with p := q.p }) (v := .int .i64 q.p.lost) (setQ_at hq) (by omega) rfl
  rw [setQ_setQ] at a8
  have a9 := a8.setQ (i := i) (j := 9) (q' := { q0 with p := q.p, waits := q.waits }) (v := .bool q.waits) (setQ_at hq) (by omega) rfl
  rw [setQ_setQ] at a9
  have a10 := a9.setQ (i := i) (j := 10) (q' := { q0 with p := q.p, waits := q.waits, tx := q.tx }) (v := .string q.tx) (setQ_at hq) (by omega) rfl
  rw [setQ_setQ] at a10
  have a11 := a10.setQ (i := i) (j := 11) (q' := q) (v := .int .u64 (q.at_ : Int)) (setQ_at hq) (by omega) rfl
  rw [setQ_setQ] at a11
  exact a11

theorem Keeps.set12 {S : Nat → Prop} {g : Nat} {w0 w : World} (h : Keeps S w0 w) (hg : S g) (i : Nat) (q : RPth) : Keeps S w0 (setQ12 w g i q) :=
  (((((((((((h.setCell (.inl hg) _).setCell (.inl hg) _).setCell (.inl hg) _).setCell (.inl hg) _).setCell (.inl hg) _).setCell (.inl hg) _).setCell (.inl hg) _).setCell (.inl hg) _).setCell (.inl hg) _).setCell (.inl hg) _).setCell (.inl hg) _).setCell (.inl hg) _

theorem drewN_one (x : World) : x.drewN 1 = x.drew := rfl

def rpongQ (t : RTab) (q : RPth) (now : Nat) : RPth × Int :=
  if t.wait < ago now q.at_ then ({ q with waits := false, p := { q.p with lost := q.p.lost + 1 } }, 251) else ({ q with waits := false, p := heardP q.p (fU (ago now q.at_)) now }, 0)
def rpongT (t : RTab) (tx : ByteArray) (e : End) (now : Nat) : RTab × Int :=
  match rping t tx with
  | none => (t, 5)
  | some k => match t.l[k]? with
    | none => (t, 5)
    | some q => if q.p.e.eqb e then (t.setQ k (rpongQ t q now).1, (rpongQ t q now).2) else (t, 250)

theorem setBelow {n b base cap : Nat} {A : Option Addr} {t t' : RTab} {w w' : World} {r : Ending} {v : Int} {A' : Option Addr} {cap' : Nat} (hm : RM w b base A cap t) (K : Keeps (fun k => k = b ∨ (Value.slice A 0 0).ownBlock = some k) w w') (h1 : n ≤ b) (h2 : n ≤ base) (h3 : base ≤ w.heap.size) (hr : r = .returned (.int .i64 v)) (hm' : RM w' b base A' cap' t') : RDoes n b t' (.int .i64 v) w r w' := by
  obtain ⟨p1, p2⟩ := hm.done K h1 h2 h3
  exact ⟨hr, ⟨base, _, _, hm', h1, h2, Nat.le_trans h3 K.size⟩, p1, p2⟩

section
variable {n b : Nat} {t : RTab} {w : World}

set_option maxHeartbeats 4000000 in
set_option maxRecDepth 100000 in
theorem c_rpong (h : RL n b t w) (tx : ByteArray) (e : End) (now : Nat) (hn : now < M64) (hat : ∀ q ∈ t.l, q.at_ < M64) (hlost : ∀ q ∈ t.l, 0 ≤ q.p.lost ∧ q.p.lost < 1000) {j : Nat} (hj : j ≤ 600) (hx : ∀ q ∈ t.l, q.p.x ≤ B j) (hy : ∀ q ∈ t.l, q.p.y ≤ B j) :
    Calls Try.prog 34 #[ptr b, .string tx, .agg e.cells, .int .u64 (now : Int)] w (RDoes n b (rpongT t tx e now).1 (.int .i64 (rpongT t tx e now).2) w) := by
  have hL := h
  obtain ⟨base, A, cap, hm, h1, h2, h3⟩ := h
  have hm1 := hm.alloc (.cells #[.bool e.v6, .int .u64 (e.hi : Int), .int .u64 (e.lo : Int), .int .u16 (e.port : Int)] 35)
  have b1 := (Below.refl w.heap.size w).alloc (Nat.le_refl _) (.cells #[.bool e.v6, .int .u64 (e.hi : Int), .int .u64 (e.lo : Int), .int .u16 (e.port : Int)] 35)
  have hE := Blk.new w 35 #[.bool e.v6, .int .u64 (e.hi : Int), .int .u64 (e.lo : Int), .int .u16 (e.port : Int)]
  have x0 := hE.cell 0
  have x1 := hE.cell 1
  have x2 := hE.cell 2
  have x3 := hE.cell 3
  simp at x0 x1 x2 x3
  have hl := hm.lim.len
  have hl1 := hm.lim.most1
  have hlw := hm.lim.wait1
  have hpy := rping_any hm1 tx
  have d0 := hm1.cells.1
  have d4 := hm1.cells.2.2.2.2.1
  have hbl := hm.blk.lt
  unfold rpongT
  cases hp : rping t tx with
  | none =>
    rw [hp] at hpy
    have Hpy := Lib.hid hpy
    clear hp hpy hE
    rw [cellsE] at *
    go_enter Try.func34, Try.ntmps34
    go_wp2_with fail
    refine Hpy.out.mono ?_
    rintro r w1 ⟨rfl, rfl⟩
    unfold oidx
    go_wp2_with fail
    go_ret
    exact ⟨rfl, hL.below b1, b1.mono hL.size, Keeps.of_below b1 (fun k hk _ => hk)⟩
  | some k =>
    have hkl : k < t.l.length := (List.findIdx?_eq_some_iff_getElem.1 hp).1
    obtain ⟨q, hq⟩ : ∃ q, t.l[k]? = some q := ⟨t.l[k], List.getElem?_eq_getElem hkl⟩
    rw [hp] at hpy
    have Hpy := Lib.hid hpy
    have hk0 : (0 : Int) ≤ (k : Int) := by omega
    have hmem := List.mem_of_getElem? hq
    have hqat := hat q hmem
    obtain ⟨hl0, hl9⟩ := hlost q hmem
    have hqx := hx q hmem
    have hqy := hy q hmem
    obtain ⟨g, rfl, hbg, hgl, hc⟩ := hm1.row.at_ hq
    have q0 := hc 0 (by omega)
    have q1 := hc 1 (by omega)
    have q2 := hc 2 (by omega)
    have q3 := hc 3 (by omega)
    have q4 := hc 4 (by omega)
    have q5 := hc 5 (by omega)
    have q6 := hc 6 (by omega)
    have q7 := hc 7 (by omega)
    have q8 := hc 8 (by omega)
    have q9 := hc 9 (by omega)
    have q10 := hc 10 (by omega)
    have q11 := hc 11 (by omega)
    simp [RPth.cells] at q0 q1 q2 q3 q4 q5 q6 q7 q8 q9 q10 q11
    have f0 := World.ownsRow.frozenAt hm1.row (k * 12 + 0)
    have f1 := World.ownsRow.frozenAt hm1.row (k * 12 + 1)
    have f2 := World.ownsRow.frozenAt hm1.row (k * 12 + 2)
    have f3 := World.ownsRow.frozenAt hm1.row (k * 12 + 3)
    have f4 := World.ownsRow.frozenAt hm1.row (k * 12 + 4)
    have f5 := World.ownsRow.frozenAt hm1.row (k * 12 + 5)
    have f6 := World.ownsRow.frozenAt hm1.row (k * 12 + 6)
    have f7 := World.ownsRow.frozenAt hm1.row (k * 12 + 7)
    have f8 := World.ownsRow.frozenAt hm1.row (k * 12 + 8)
    have f9 := World.ownsRow.frozenAt hm1.row (k * 12 + 9)
    have f10 := World.ownsRow.frozenAt hm1.row (k * 12 + 10)
    have f11 := World.ownsRow.frozenAt hm1.row (k * 12 + 11)
    simp only [Nat.add_zero] at f0
    have hgb : g ≠ b := hm.own_sep (g := g) rfl
    have hgb2 : b ≠ g := fun e => hgb e.symm
    have hne := neq35 q.p.e e
    simp only [hq]
    have Hq := Lib.hid hq
    have Hm := Lib.hid hm
    have Hm1 := Lib.hid hm1
    clear hc hq hp hpy hE hat hlost hx hy hmem hm hm1
    rw [cellsE] at *
    cases hqe : q.p.e.eqb e with
    | false =>
      rw [hqe] at hne
      simp only [Bool.false_eq_true, if_false]
      clear hqe
      go_enter Try.func34, Try.ntmps34
      go_wp2_with fail
      refine Hpy.out.mono ?_
      rintro r w1 ⟨rfl, rfl⟩
      unfold oidx
      go_wp2_with fail
      go_quiet (fail)
      go_wp2_with fail
      go_ret
      have b2 : Below w.heap.size w ((w.alloc (.cells #[.bool e.v6, .int .u64 (e.hi : Int), .int .u64 (e.lo : Int), .int .u16 (e.port : Int)] 35)).drewN nq) := ⟨b1.os, b1.tape, b1.output, b1.size, b1.block⟩
      exact ⟨rfl, hL.below b2, b2.mono hL.size, Keeps.of_below b2 (fun k hk _ => hk)⟩
    | true =>
      rw [hqe] at hne
      simp only [if_true]
      clear hqe
      unfold rpongQ
      by_cases hlate : t.wait < ago now q.at_
      · rw [if_pos hlate]
        have hla : decide (t.wait < ago now q.at_) = true := decide_eq_true hlate
        clear hlate
        go_enter Try.func34, Try.ntmps34
        go_wp2_with fail
        refine Hpy.out.mono ?_
        rintro r w1 ⟨rfl, rfl⟩
        unfold oidx
        go_wp2_with fail
        go_quiet (fail)
        go_wp2_with fail
        go_at_call 49
        refine (rago_any now q.at_ _ hn hqat).mono ?_
        rintro r w2 ⟨rfl, rfl⟩
        go_wp2_with fail
        have hm3 := (Hm1.out.drewN nq).alloc (.cells #[.bool q.p.e.v6, .int .u64 (q.p.e.hi : Int), .int .u64 (q.p.e.lo : Int), .int .u16 (q.p.e.port : Int), .float .f64 q.p.x, .float .f64 q.p.y, .bool q.p.heard, .int .u64 (q.p.last : Int), .int .i64 (q.p.lost + 1), .bool false, .string q.tx, .int .u64 (q.at_ : Int)] 90)
        have hP := Blk.new ((w.alloc (.cells #[.bool e.v6, .int .u64 (e.hi : Int), .int .u64 (e.lo : Int), .int .u16 (e.port : Int)] 35)).drewN nq) 90 #[.bool q.p.e.v6, .int .u64 (q.p.e.hi : Int), .int .u64 (q.p.e.lo : Int), .int .u16 (q.p.e.port : Int), .float .f64 q.p.x, .float .f64 q.p.y, .bool q.p.heard, .int .u64 (q.p.last : Int), .int .i64 (q.p.lost + 1), .bool false, .string q.tx, .int .u64 (q.at_ : Int)]
        have k3 : Keeps (fun x => x = b ∨ (Value.slice (some ⟨g, 0, none⟩) 0 0).ownBlock = some x) w (((w.alloc (.cells #[.bool e.v6, .int .u64 (e.hi : Int), .int .u64 (e.lo : Int), .int .u16 (e.port : Int)] 35)).drewN nq).alloc (.cells #[.bool q.p.e.v6, .int .u64 (q.p.e.hi : Int), .int .u64 (q.p.e.lo : Int), .int .u16 (q.p.e.port : Int), .float .f64 q.p.x, .float .f64 q.p.y, .bool q.p.heard, .int .u64 (q.p.last : Int), .int .i64 (q.p.lost + 1), .bool false, .string q.tx, .int .u64 (q.at_ : Int)] 90)) := (((Keeps.refl _ w).alloc _).drewN nq).alloc _
        generalize ((w.alloc (.cells #[.bool e.v6, .int .u64 (e.hi : Int), .int .u64 (e.lo : Int), .int .u16 (e.port : Int)] 35)).drewN nq).alloc (.cells #[.bool q.p.e.v6, .int .u64 (q.p.e.hi : Int), .int .u64 (q.p.e.lo : Int), .int .u16 (q.p.e.port : Int), .float .f64 q.p.x, .float .f64 q.p.y, .bool q.p.heard, .int .u64 (q.p.last : Int), .int .i64 (q.p.lost + 1), .bool false, .string q.tx, .int .u64 (q.at_ : Int)] 90) = v2 at hm3 hP k3 ⊢
        simp only [World.heap_drewN, World.size_alloc] at hP
        clear q0 q1 q2 q3 q4 q5 q6 q7 q8 q9 q10 q11 f0 f1 f2 f3 f4 f5 f6 f7 f8 f9 f10 f11 x0 x1 x2 x3 d0 d4
        have p0 := hP.cell 0
        have p1 := hP.cell 1
        have p2 := hP.cell 2
        have p3 := hP.cell 3
        have p4 := hP.cell 4
        have p5 := hP.cell 5
        have p6 := hP.cell 6
        have p7 := hP.cell 7
        have p8 := hP.cell 8
        have p9 := hP.cell 9
        have p10 := hP.cell 10
        have p11 := hP.cell 11
        simp at p0 p1 p2 p3 p4 p5 p6 p7 p8 p9 p10 p11
        obtain ⟨g', hg', _, _, hc⟩ := hm3.row.at_ Hq.out
        obtain rfl : g = g' := by injection hg' with hg'; injection hg'
        have q0 := hc 0 (by omega)
        have q1 := hc 1 (by omega)
        have q2 := hc 2 (by omega)
        have q3 := hc 3 (by omega)
        have q4 := hc 4 (by omega)
        have q5 := hc 5 (by omega)
        have q6 := hc 6 (by omega)
        have q7 := hc 7 (by omega)
        have q8 := hc 8 (by omega)
        have q9 := hc 9 (by omega)
        have q10 := hc 10 (by omega)
        have q11 := hc 11 (by omega)
        simp [RPth.cells] at q0 q1 q2 q3 q4 q5 q6 q7 q8 q9 q10 q11
        have f0 := World.ownsRow.frozenAt hm3.row (k * 12 + 0)
        have f1 := World.ownsRow.frozenAt hm3.row (k * 12 + 1)
        have f2 := World.ownsRow.frozenAt hm3.row (k * 12 + 2)
        have f3 := World.ownsRow.frozenAt hm3.row (k * 12 + 3)
        have f4 := World.ownsRow.frozenAt hm3.row (k * 12 + 4)
        have f5 := World.ownsRow.frozenAt hm3.row (k * 12 + 5)
        have f6 := World.ownsRow.frozenAt hm3.row (k * 12 + 6)
        have f7 := World.ownsRow.frozenAt hm3.row (k * 12 + 7)
        have f8 := World.ownsRow.frozenAt hm3.row (k * 12 + 8)
        have f9 := World.ownsRow.frozenAt hm3.row (k * 12 + 9)
        have f10 := World.ownsRow.frozenAt hm3.row (k * 12 + 10)
        have f11 := World.ownsRow.frozenAt hm3.row (k * 12 + 11)
        simp only [Nat.add_zero] at f0
        have d4 := hm3.cells.2.2.2.2.1
        have hfin := (hm3.set12 Hq.out { q with waits := false, p := { q.p with lost := q.p.lost + 1 } }).drewN 1
        have hkf := (k3.set12 (.inr rfl) k { q with waits := false, p := { q.p with lost := q.p.lost + 1 } }).drewN 1
        rw [drewN_one] at hfin hkf
        unfold setQ12 at hfin hkf
        have Hfin := Lib.hid hfin
        have Hkf := Lib.hid hkf
        clear hc hg' hfin hkf hm3 hP k3
        go_region
        all_goals go_wp2_with fail
        all_goals go_ret
        all_goals exact setBelow Hm.out Hkf.out h1 h2 h3 rfl Hfin.out
      · rw [if_neg hlate]
        have hla : decide (t.wait < ago now q.at_) = false := decide_eq_false hlate
        have hrB : fU (ago now q.at_) ≤ B j := Nat.le_trans (fU_le (by omega)) (B_le (Nat.zero_le _))
        clear hlate
        unfold heardP
        cases hqh : q.p.heard with
        | false =>
          simp only [Bool.false_eq_true, if_false]
          rw [hqh] at q6
          clear hqh hrB
          go_enter Try.func34, Try.ntmps34
          go_wp2_with fail
          refine Hpy.out.mono ?_
          rintro r w1 ⟨rfl, rfl⟩
          unfold oidx
          go_wp2_with fail
          go_quiet (fail)
          go_wp2_with fail
          go_at_call 49
          refine (rago_any now q.at_ _ hn hqat).mono ?_
          rintro r w2 ⟨rfl, rfl⟩
          go_wp2_with fail
          have hm3 := (Hm1.out.drewN nq).alloc (.cells #[.bool q.p.e.v6, .int .u64 (q.p.e.hi : Int), .int .u64 (q.p.e.lo : Int), .int .u16 (q.p.e.port : Int), .float .f64 (floatOfInt .f64 ((ago now q.at_ : Nat) : Int)), .float .f64 0, .bool true, .int .u64 (now : Int), .int .i64 0, .bool false, .string q.tx, .int .u64 (q.at_ : Int)] 90)
          have hP := Blk.new ((w.alloc (.cells #[.bool e.v6, .int .u64 (e.hi : Int), .int .u64 (e.lo : Int), .int .u16 (e.port : Int)] 35)).drewN nq) 90 #[.bool q.p.e.v6, .int .u64 (q.p.e.hi : Int), .int .u64 (q.p.e.lo : Int), .int .u16 (q.p.e.port : Int), .float .f64 (floatOfInt .f64 ((ago now q.at_ : Nat) : Int)), .float .f64 0, .bool true, .int .u64 (now : Int), .int .i64 0, .bool false, .string q.tx, .int .u64 (q.at_ : Int)]
          have k3 : Keeps (fun x => x = b ∨ (Value.slice (some ⟨g, 0, none⟩) 0 0).ownBlock = some x) w (((w.alloc (.cells #[.bool e.v6, .int .u64 (e.hi : Int), .int .u64 (e.lo : Int), .int .u16 (e.port : Int)] 35)).drewN nq).alloc (.cells #[.bool q.p.e.v6, .int .u64 (q.p.e.hi : Int), .int .u64 (q.p.e.lo : Int), .int .u16 (q.p.e.port : Int), .float .f64 (floatOfInt .f64 ((ago now q.at_ : Nat) : Int)), .float .f64 0, .bool true, .int .u64 (now : Int), .int .i64 0, .bool false, .string q.tx, .int .u64 (q.at_ : Int)] 90)) := (((Keeps.refl _ w).alloc _).drewN nq).alloc _
          generalize ((w.alloc (.cells #[.bool e.v6, .int .u64 (e.hi : Int), .int .u64 (e.lo : Int), .int .u16 (e.port : Int)] 35)).drewN nq).alloc (.cells #[.bool q.p.e.v6, .int .u64 (q.p.e.hi : Int), .int .u64 (q.p.e.lo : Int), .int .u16 (q.p.e.port : Int), .float .f64 (floatOfInt .f64 ((ago now q.at_ : Nat) : Int)), .float .f64 0, .bool true, .int .u64 (now : Int), .int .i64 0, .bool false, .string q.tx, .int .u64 (q.at_ : Int)] 90) = v2 at hm3 hP k3 ⊢
          simp only [World.heap_drewN, World.size_alloc] at hP
          clear q0 q1 q2 q3 q4 q5 q6 q7 q8 q9 q10 q11 f0 f1 f2 f3 f4 f5 f6 f7 f8 f9 f10 f11 x0 x1 x2 x3 d0 d4
          have p0 := hP.cell 0
          have p1 := hP.cell 1
          have p2 := hP.cell 2
          have p3 := hP.cell 3
          have p4 := hP.cell 4
          have p5 := hP.cell 5
          have p6 := hP.cell 6
          have p7 := hP.cell 7
          have p8 := hP.cell 8
          have p9 := hP.cell 9
          have p10 := hP.cell 10
          have p11 := hP.cell 11
          simp at p0 p1 p2 p3 p4 p5 p6 p7 p8 p9 p10 p11
          obtain ⟨g', hg', _, _, hc⟩ := hm3.row.at_ Hq.out
          obtain rfl : g = g' := by injection hg' with hg'; injection hg'
          have q0 := hc 0 (by omega)
          have q1 := hc 1 (by omega)
          have q2 := hc 2 (by omega)
          have q3 := hc 3 (by omega)
          have q4 := hc 4 (by omega)
          have q5 := hc 5 (by omega)
          have q6 := hc 6 (by omega)
          have q7 := hc 7 (by omega)
          have q8 := hc 8 (by omega)
          have q9 := hc 9 (by omega)
          have q10 := hc 10 (by omega)
          have q11 := hc 11 (by omega)
          simp [RPth.cells] at q0 q1 q2 q3 q4 q5 q6 q7 q8 q9 q10 q11
          have f0 := World.ownsRow.frozenAt hm3.row (k * 12 + 0)
          have f1 := World.ownsRow.frozenAt hm3.row (k * 12 + 1)
          have f2 := World.ownsRow.frozenAt hm3.row (k * 12 + 2)
          have f3 := World.ownsRow.frozenAt hm3.row (k * 12 + 3)
          have f4 := World.ownsRow.frozenAt hm3.row (k * 12 + 4)
          have f5 := World.ownsRow.frozenAt hm3.row (k * 12 + 5)
          have f6 := World.ownsRow.frozenAt hm3.row (k * 12 + 6)
          have f7 := World.ownsRow.frozenAt hm3.row (k * 12 + 7)
          have f8 := World.ownsRow.frozenAt hm3.row (k * 12 + 8)
          have f9 := World.ownsRow.frozenAt hm3.row (k * 12 + 9)
          have f10 := World.ownsRow.frozenAt hm3.row (k * 12 + 10)
          have f11 := World.ownsRow.frozenAt hm3.row (k * 12 + 11)
          simp only [Nat.add_zero] at f0
          have d4 := hm3.cells.2.2.2.2.1
          have hfin := (hm3.set12 Hq.out { q with waits := false, p := { q.p with x := fU (ago now q.at_), y := 0, heard := true, last := now, lost := 0 } }).drewN 1
          have hkf := (k3.set12 (.inr rfl) k { q with waits := false, p := { q.p with x := fU (ago now q.at_), y := 0, heard := true, last := now, lost := 0 } }).drewN 1
          rw [drewN_one] at hfin hkf
          unfold setQ12 at hfin hkf
          have Hfin := Lib.hid hfin
          have Hkf := Lib.hid hkf
          clear hc hg' hfin hkf hm3 hP k3
          go_region
          all_goals go_wp2_with fail
          all_goals go_ret
          all_goals exact setBelow Hm.out Hkf.out h1 h2 h3 rfl Hfin.out
        | true =>
          simp only [if_true]
          obtain ⟨d, s, n2, qq, bb, qq2, s1, s2, s3, s4, s5, s6, s7, s8, s9⟩ := (doc_step (by omega) hrB hqx hqy).out
          rw [hqh] at q6
          unfold fU at s1
          have r1 := fun (w : World) => run_fsub (P := Try.prog) w 46 s1
          have r5 := fun (w : World) => run_fquo (P := Try.prog) w 46 s5
          have r6 := fun (w : World) => run_fadd (P := Try.prog) w 46 s6
          have r7 := fun (w : World) => run_fsub (P := Try.prog) w 46 s7
          have r8 := fun (w : World) => run_fquo (P := Try.prog) w 46 s8
          have r9 := fun (w : World) => run_fadd (P := Try.prog) w 46 s9
          have r2 : (FloatKind.f64.format.order d 0 == some Ordering.lt) = s := s2
          clear hqh hrB s1 s2 s5 s6 s7 s8 s9
          cases s with
          | false =>
            obtain rfl := s4 rfl
            clear s3 s4
            go_enter Try.func34, Try.ntmps34
            go_wp2_with fail
            refine Hpy.out.mono ?_
            rintro r w1 ⟨rfl, rfl⟩
            unfold oidx
            go_wp2_with fail
            go_quiet (fail)
            go_wp2_with fail
            go_at_call 49
            refine (rago_any now q.at_ _ hn hqat).mono ?_
            rintro r w2 ⟨rfl, rfl⟩
            go_wp2_with fail
            have hm3 := (Hm1.out.drewN nq).alloc (.cells #[.bool q.p.e.v6, .int .u64 (q.p.e.hi : Int), .int .u64 (q.p.e.lo : Int), .int .u16 (q.p.e.port : Int), .float .f64 (docX (fU (ago now q.at_)) q.p.x), .float .f64 (docY (fU (ago now q.at_)) q.p.x q.p.y), .bool true, .int .u64 (now : Int), .int .i64 0, .bool false, .string q.tx, .int .u64 (q.at_ : Int)] 90)
            have hP := Blk.new ((w.alloc (.cells #[.bool e.v6, .int .u64 (e.hi : Int), .int .u64 (e.lo : Int), .int .u16 (e.port : Int)] 35)).drewN nq) 90 #[.bool q.p.e.v6, .int .u64 (q.p.e.hi : Int), .int .u64 (q.p.e.lo : Int), .int .u16 (q.p.e.port : Int), .float .f64 (docX (fU (ago now q.at_)) q.p.x), .float .f64 (docY (fU (ago now q.at_)) q.p.x q.p.y), .bool true, .int .u64 (now : Int), .int .i64 0, .bool false, .string q.tx, .int .u64 (q.at_ : Int)]
            have k3 : Keeps (fun x => x = b ∨ (Value.slice (some ⟨g, 0, none⟩) 0 0).ownBlock = some x) w (((w.alloc (.cells #[.bool e.v6, .int .u64 (e.hi : Int), .int .u64 (e.lo : Int), .int .u16 (e.port : Int)] 35)).drewN nq).alloc (.cells #[.bool q.p.e.v6, .int .u64 (q.p.e.hi : Int), .int .u64 (q.p.e.lo : Int), .int .u16 (q.p.e.port : Int), .float .f64 (docX (fU (ago now q.at_)) q.p.x), .float .f64 (docY (fU (ago now q.at_)) q.p.x q.p.y), .bool true, .int .u64 (now : Int), .int .i64 0, .bool false, .string q.tx, .int .u64 (q.at_ : Int)] 90)) := (((Keeps.refl _ w).alloc _).drewN nq).alloc _
            generalize ((w.alloc (.cells #[.bool e.v6, .int .u64 (e.hi : Int), .int .u64 (e.lo : Int), .int .u16 (e.port : Int)] 35)).drewN nq).alloc (.cells #[.bool q.p.e.v6, .int .u64 (q.p.e.hi : Int), .int .u64 (q.p.e.lo : Int), .int .u16 (q.p.e.port : Int), .float .f64 (docX (fU (ago now q.at_)) q.p.x), .float .f64 (docY (fU (ago now q.at_)) q.p.x q.p.y), .bool true, .int .u64 (now : Int), .int .i64 0, .bool false, .string q.tx, .int .u64 (q.at_ : Int)] 90) = v2 at hm3 hP k3 ⊢
            simp only [World.heap_drewN, World.size_alloc] at hP
            clear q0 q1 q2 q3 q4 q5 q6 q7 q8 q9 q10 q11 f0 f1 f2 f3 f4 f5 f6 f7 f8 f9 f10 f11 x0 x1 x2 x3 d0 d4
            have p0 := hP.cell 0
            have p1 := hP.cell 1
            have p2 := hP.cell 2
            have p3 := hP.cell 3
            have p4 := hP.cell 4
            have p5 := hP.cell 5
            have p6 := hP.cell 6
            have p7 := hP.cell 7
            have p8 := hP.cell 8
            have p9 := hP.cell 9
            have p10 := hP.cell 10
            have p11 := hP.cell 11
            simp at p0 p1 p2 p3 p4 p5 p6 p7 p8 p9 p10 p11
            obtain ⟨g', hg', _, _, hc⟩ := hm3.row.at_ Hq.out
            obtain rfl : g = g' := by injection hg' with hg'; injection hg'
            have q0 := hc 0 (by omega)
            have q1 := hc 1 (by omega)
            have q2 := hc 2 (by omega)
            have q3 := hc 3 (by omega)
            have q4 := hc 4 (by omega)
            have q5 := hc 5 (by omega)
            have q6 := hc 6 (by omega)
            have q7 := hc 7 (by omega)
            have q8 := hc 8 (by omega)
            have q9 := hc 9 (by omega)
            have q10 := hc 10 (by omega)
            have q11 := hc 11 (by omega)
            simp [RPth.cells] at q0 q1 q2 q3 q4 q5 q6 q7 q8 q9 q10 q11
            have f0 := World.ownsRow.frozenAt hm3.row (k * 12 + 0)
            have f1 := World.ownsRow.frozenAt hm3.row (k * 12 + 1)
            have f2 := World.ownsRow.frozenAt hm3.row (k * 12 + 2)
            have f3 := World.ownsRow.frozenAt hm3.row (k * 12 + 3)
            have f4 := World.ownsRow.frozenAt hm3.row (k * 12 + 4)
            have f5 := World.ownsRow.frozenAt hm3.row (k * 12 + 5)
            have f6 := World.ownsRow.frozenAt hm3.row (k * 12 + 6)
            have f7 := World.ownsRow.frozenAt hm3.row (k * 12 + 7)
            have f8 := World.ownsRow.frozenAt hm3.row (k * 12 + 8)
            have f9 := World.ownsRow.frozenAt hm3.row (k * 12 + 9)
            have f10 := World.ownsRow.frozenAt hm3.row (k * 12 + 10)
            have f11 := World.ownsRow.frozenAt hm3.row (k * 12 + 11)
            simp only [Nat.add_zero] at f0
            have d4 := hm3.cells.2.2.2.2.1
            have hfin := (hm3.set12 Hq.out { q with waits := false, p := { q.p with x := docX (fU (ago now q.at_)) q.p.x, y := docY (fU (ago now q.at_)) q.p.x q.p.y, heard := true, last := now, lost := 0 } }).drewN 1
            have hkf := (k3.set12 (.inr rfl) k { q with waits := false, p := { q.p with x := docX (fU (ago now q.at_)) q.p.x, y := docY (fU (ago now q.at_)) q.p.x q.p.y, heard := true, last := now, lost := 0 } }).drewN 1
            rw [drewN_one] at hfin hkf
            unfold setQ12 at hfin hkf
            have Hfin := Lib.hid hfin
            have Hkf := Lib.hid hkf
            clear hc hg' hfin hkf hm3 hP k3
            go_region
            all_goals go_wp2_with fail
            all_goals go_ret
            all_goals exact setBelow Hm.out Hkf.out h1 h2 h3 rfl Hfin.out
          | true =>
            have hng := s3 rfl
            clear s3 s4
            go_enter Try.func34, Try.ntmps34
            go_wp2_with fail
            refine Hpy.out.mono ?_
            rintro r w1 ⟨rfl, rfl⟩
            unfold oidx
            go_wp2_with fail
            go_quiet (fail)
            go_wp2_with fail
            go_at_call 49
            refine (rago_any now q.at_ _ hn hqat).mono ?_
            rintro r w2 ⟨rfl, rfl⟩
            go_wp2_with fail
            have hm3 := (Hm1.out.drewN nq).alloc (.cells #[.bool q.p.e.v6, .int .u64 (q.p.e.hi : Int), .int .u64 (q.p.e.lo : Int), .int .u16 (q.p.e.port : Int), .float .f64 (docX (fU (ago now q.at_)) q.p.x), .float .f64 (docY (fU (ago now q.at_)) q.p.x q.p.y), .bool true, .int .u64 (now : Int), .int .i64 0, .bool false, .string q.tx, .int .u64 (q.at_ : Int)] 90)
            have hP := Blk.new ((w.alloc (.cells #[.bool e.v6, .int .u64 (e.hi : Int), .int .u64 (e.lo : Int), .int .u16 (e.port : Int)] 35)).drewN nq) 90 #[.bool q.p.e.v6, .int .u64 (q.p.e.hi : Int), .int .u64 (q.p.e.lo : Int), .int .u16 (q.p.e.port : Int), .float .f64 (docX (fU (ago now q.at_)) q.p.x), .float .f64 (docY (fU (ago now q.at_)) q.p.x q.p.y), .bool true, .int .u64 (now : Int), .int .i64 0, .bool false, .string q.tx, .int .u64 (q.at_ : Int)]
            have k3 : Keeps (fun x => x = b ∨ (Value.slice (some ⟨g, 0, none⟩) 0 0).ownBlock = some x) w (((w.alloc (.cells #[.bool e.v6, .int .u64 (e.hi : Int), .int .u64 (e.lo : Int), .int .u16 (e.port : Int)] 35)).drewN nq).alloc (.cells #[.bool q.p.e.v6, .int .u64 (q.p.e.hi : Int), .int .u64 (q.p.e.lo : Int), .int .u16 (q.p.e.port : Int), .float .f64 (docX (fU (ago now q.at_)) q.p.x), .float .f64 (docY (fU (ago now q.at_)) q.p.x q.p.y), .bool true, .int .u64 (now : Int), .int .i64 0, .bool false, .string q.tx, .int .u64 (q.at_ : Int)] 90)) := (((Keeps.refl _ w).alloc _).drewN nq).alloc _
            generalize ((w.alloc (.cells #[.bool e.v6, .int .u64 (e.hi : Int), .int .u64 (e.lo : Int), .int .u16 (e.port : Int)] 35)).drewN nq).alloc (.cells #[.bool q.p.e.v6, .int .u64 (q.p.e.hi : Int), .int .u64 (q.p.e.lo : Int), .int .u16 (q.p.e.port : Int), .float .f64 (docX (fU (ago now q.at_)) q.p.x), .float .f64 (docY (fU (ago now q.at_)) q.p.x q.p.y), .bool true, .int .u64 (now : Int), .int .i64 0, .bool false, .string q.tx, .int .u64 (q.at_ : Int)] 90) = v2 at hm3 hP k3 ⊢
            simp only [World.heap_drewN, World.size_alloc] at hP
            clear q0 q1 q2 q3 q4 q5 q6 q7 q8 q9 q10 q11 f0 f1 f2 f3 f4 f5 f6 f7 f8 f9 f10 f11 x0 x1 x2 x3 d0 d4
            have p0 := hP.cell 0
            have p1 := hP.cell 1
            have p2 := hP.cell 2
            have p3 := hP.cell 3
            have p4 := hP.cell 4
            have p5 := hP.cell 5
            have p6 := hP.cell 6
            have p7 := hP.cell 7
            have p8 := hP.cell 8
            have p9 := hP.cell 9
            have p10 := hP.cell 10
            have p11 := hP.cell 11
            simp at p0 p1 p2 p3 p4 p5 p6 p7 p8 p9 p10 p11
            obtain ⟨g', hg', _, _, hc⟩ := hm3.row.at_ Hq.out
            obtain rfl : g = g' := by injection hg' with hg'; injection hg'
            have q0 := hc 0 (by omega)
            have q1 := hc 1 (by omega)
            have q2 := hc 2 (by omega)
            have q3 := hc 3 (by omega)
            have q4 := hc 4 (by omega)
            have q5 := hc 5 (by omega)
            have q6 := hc 6 (by omega)
            have q7 := hc 7 (by omega)
            have q8 := hc 8 (by omega)
            have q9 := hc 9 (by omega)
            have q10 := hc 10 (by omega)
            have q11 := hc 11 (by omega)
            simp [RPth.cells] at q0 q1 q2 q3 q4 q5 q6 q7 q8 q9 q10 q11
            have f0 := World.ownsRow.frozenAt hm3.row (k * 12 + 0)
            have f1 := World.ownsRow.frozenAt hm3.row (k * 12 + 1)
            have f2 := World.ownsRow.frozenAt hm3.row (k * 12 + 2)
            have f3 := World.ownsRow.frozenAt hm3.row (k * 12 + 3)
            have f4 := World.ownsRow.frozenAt hm3.row (k * 12 + 4)
            have f5 := World.ownsRow.frozenAt hm3.row (k * 12 + 5)
            have f6 := World.ownsRow.frozenAt hm3.row (k * 12 + 6)
            have f7 := World.ownsRow.frozenAt hm3.row (k * 12 + 7)
            have f8 := World.ownsRow.frozenAt hm3.row (k * 12 + 8)
            have f9 := World.ownsRow.frozenAt hm3.row (k * 12 + 9)
            have f10 := World.ownsRow.frozenAt hm3.row (k * 12 + 10)
            have f11 := World.ownsRow.frozenAt hm3.row (k * 12 + 11)
            simp only [Nat.add_zero] at f0
            have d4 := hm3.cells.2.2.2.2.1
            have hfin := (hm3.set12 Hq.out { q with waits := false, p := { q.p with x := docX (fU (ago now q.at_)) q.p.x, y := docY (fU (ago now q.at_)) q.p.x q.p.y, heard := true, last := now, lost := 0 } }).drewN 1
            have hkf := (k3.set12 (.inr rfl) k { q with waits := false, p := { q.p with x := docX (fU (ago now q.at_)) q.p.x, y := docY (fU (ago now q.at_)) q.p.x q.p.y, heard := true, last := now, lost := 0 } }).drewN 1
            rw [drewN_one] at hfin hkf
            unfold setQ12 at hfin hkf
            have Hfin := Lib.hid hfin
            have Hkf := Lib.hid hkf
            clear hc hg' hfin hkf hm3 hP k3
            go_region
            all_goals go_wp2_with fail
            all_goals go_ret
            all_goals exact setBelow Hm.out Hkf.out h1 h2 h3 rfl Hfin.out
end
end Go.Proofs.Ytbopmcdmahabbaa
