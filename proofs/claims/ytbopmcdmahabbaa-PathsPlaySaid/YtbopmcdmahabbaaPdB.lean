/- The document's answer: Find, ping, ago, there, score. -/
import Derived.Test.YtbopmcdmahabbaaPdA
namespace Go.Proofs.Ytbopmcdmahabbaa
open Go.RowKit

theorem findIdx_at {α : Type} {l : List α} {p : α → Bool} {k : Nat} {q : α} (hq : l[k]? = some q) (hp : p q = true) (hno : ∀ x ∈ l.take k, p x = false) : l.findIdx? p = some k := by
  have hlt : k < l.length := by
    rcases Nat.lt_or_ge k l.length with h | h
    · exact h
    · rw [List.getElem?_eq_none h] at hq; cases hq
  rw [List.findIdx?_eq_some_iff_getElem]
  rw [List.getElem?_eq_getElem hlt] at hq
  injection hq with hq
  refine ⟨hlt, by rw [hq]; exact hp, fun j hj => ?_⟩
  have := hno (l[j]) (List.mem_take_iff_getElem.2 ⟨j, by omega, rfl⟩)
  simp [this]
theorem findIdx_no {α : Type} {l : List α} {p : α → Bool} (hno : ∀ x ∈ l.take l.length, p x = false) : l.findIdx? p = none := by
  rw [List.findIdx?_eq_none_iff]
  intro x hx
  exact hno x (by rw [List.take_of_length_le (Nat.le_refl _)]; exact hx)
theorem take_next {α : Type} {l : List α} {p : α → Bool} {k : Nat} {q : α} (hq : l[k]? = some q) (hp : p q = false) (hno : ∀ x ∈ l.take k, p x = false) : ∀ x ∈ l.take (k + 1), p x = false := by
  intro x hx
  have hlt : k < l.length := by
    rcases Nat.lt_or_ge k l.length with h | h
    · exact h
    · rw [List.getElem?_eq_none h] at hq; cases hq
  rw [List.take_succ_eq_append_getElem hlt] at hx
  rw [List.getElem?_eq_getElem hlt] at hq
  injection hq with hq
  rcases List.mem_append.1 hx with h1 | h1
  · exact hno x h1
  · rw [List.mem_singleton.1 h1, hq]; exact hp

section
variable {w : World} {b base cap : Nat} {A : Option Addr} {t : RTab}

set_option maxHeartbeats 1000000 in
set_option maxRecDepth 100000 in
theorem rfind_any (h : RM w b base A cap t) (e : End) :
    Calls Try.prog 52 #[ptr b, .agg e.cells] w fun r w' => r = .returned (.int .i64 (oidx (rfind t e))) ∧ Below w.heap.size w w' := by
  have h1 := h.alloc (.cells #[.bool e.v6, .int .u64 (e.hi : Int), .int .u64 (e.lo : Int), .int .u16 (e.port : Int)] 35)
  have hE := Blk.new w 35 #[.bool e.v6, .int .u64 (e.hi : Int), .int .u64 (e.lo : Int), .int .u16 (e.port : Int)]
  have x0 := hE.cell 0
  have x1 := hE.cell 1
  have x2 := hE.cell 2
  have x3 := hE.cell 3
  simp at x0 x1 x2 x3
  have hl := h.lim.len
  have hl1 := h.lim.most1
  have c4 := h1.cells.2.2.2.2.1
  have b1 := (Below.refl w.heap.size w).alloc (Nat.le_refl _) (.cells #[.bool e.v6, .int .u64 (e.hi : Int), .int .u64 (e.lo : Int), .int .u16 (e.port : Int)] 35)
  rw [cellsE]
  go_enter Try.func52, Try.ntmps52
  go_wp2_with fail
  go_loopw [5] (fun v5 wr => ∃ k n : Nat, k ≤ t.l.length ∧ v5 = .int .i64 (k : Int) ∧ (∀ q ∈ t.l.take k, (fun q : RPth => q.p.e.eqb e) q = false) ∧ wr = (w.alloc (.cells #[.bool e.v6, .int .u64 (e.hi : Int), .int .u64 (e.lo : Int), .int .u16 (e.port : Int)] 35)).drewN n) (fun v5 _ => t.l.length - (intOf v5).toNat)
  case atStart => exact ⟨0, 0, Nat.zero_le _, rfl, by simp, rfl⟩
  case round =>
    obtain ⟨k, n, hk, rfl, hno, rfl⟩ := hrel
    by_cases hlt : k < t.l.length
    · obtain ⟨q, hq⟩ : ∃ q, t.l[k]? = some q := ⟨t.l[k], List.getElem?_eq_getElem hlt⟩
      obtain ⟨g, rfl, hbg, hgl, hc⟩ := h1.row.at_ hq
      have q0 := hc 0 (by omega)
      have q1 := hc 1 (by omega)
      have q2 := hc 2 (by omega)
      have q3 := hc 3 (by omega)
      simp [RPth.cells] at q0 q1 q2 q3
      have he := eq35 q.p.e e
      have hk0 : (0 : Int) ≤ (k : Int) := by omega
      cases hqe : q.p.e.eqb e with
      | true =>
        have hidx : rfind t e = some k := findIdx_at (p := fun q : RPth => q.p.e.eqb e) hq hqe hno
        rw [hqe] at he
        have Hidx := Lib.hid hidx
        clear hc hq hno hqe hidx
        go_wp2_with fail
        go_quiet (fail)
        go_wp2_with fail
        go_ret
        exact ⟨by rw [Hidx.out]; rfl, ⟨b1.os, b1.tape, b1.output, b1.size, b1.block⟩⟩
      | false =>
        have hno2 := take_next (p := fun q : RPth => q.p.e.eqb e) hq hqe hno
        rw [hqe] at he
        have Hno := Lib.hid hno2
        clear hc hq hno hqe hno2
        go_wp2_with fail
        go_quiet (fail)
        go_wp2_with fail
        go_roundw
        case rel => exact ⟨k + 1, _, by omega, by go_num, Hno.out, rfl⟩
        case measure => simp [intOf]; omega
    · obtain rfl : k = t.l.length := by omega
      have hidx : rfind t e = none := findIdx_no hno
      have Hidx := Lib.hid hidx
      clear hno hidx
      go_wp2_with fail
      go_ret
      exact ⟨by rw [Hidx.out]; rfl, ⟨b1.os, b1.tape, b1.output, b1.size, b1.block⟩⟩

set_option maxHeartbeats 1000000 in
set_option maxRecDepth 100000 in
theorem rping_any (h : RM w b base A cap t) (tx : ByteArray) :
    Calls Try.prog 48 #[ptr b, .string tx] w fun r w' => r = .returned (.int .i64 (oidx (rping t tx))) ∧ w = w' := by
  have hl := h.lim.len
  have hl1 := h.lim.most1
  have c4 := h.cells.2.2.2.2.1
  go_enter Try.func48, Try.ntmps48
  go_wp2_with fail
  go_loopw [5] (fun v5 wr => ∃ k : Nat, k ≤ t.l.length ∧ v5 = .int .i64 (k : Int) ∧ (∀ q ∈ t.l.take k, (fun q : RPth => q.waits && (q.tx == tx)) q = false) ∧ w = wr) (fun v5 _ => t.l.length - (intOf v5).toNat)
  case atStart => exact ⟨0, Nat.zero_le _, rfl, by simp, rfl⟩
  case round =>
    obtain ⟨k, hk, rfl, hno, rfl⟩ := hrel
    by_cases hlt : k < t.l.length
    · obtain ⟨q, hq⟩ : ∃ q, t.l[k]? = some q := ⟨t.l[k], List.getElem?_eq_getElem hlt⟩
      obtain ⟨g, rfl, hbg, hgl, hc⟩ := h.row.at_ hq
      have q9 := hc 9 (by omega)
      have q10 := hc 10 (by omega)
      simp [RPth.cells] at q9 q10
      have hk0 : (0 : Int) ≤ (k : Int) := by omega
      cases hqw : q.waits with
      | false =>
        have hno2 := take_next (p := fun q : RPth => q.waits && (q.tx == tx)) hq (by simp [hqw]) hno
        rw [hqw] at q9
        have Hno := Lib.hid hno2
        clear hc hq hno hqw hno2
        go_wp2_with fail
        go_roundw
        case rel => exact ⟨k + 1, by omega, by go_num, Hno.out, (by first | rfl | trivial)⟩
        case measure => simp [intOf]; omega
      | true =>
        by_cases htx : q.tx = tx
        · have hidx : rping t tx = some k := findIdx_at (p := fun q : RPth => q.waits && (q.tx == tx)) hq (by simp [hqw, (bytes_beq q.tx tx).2 htx]) hno
          rw [hqw] at q9
          rw [htx] at q10
          have hb : (tx == tx) = true := (bytes_beq tx tx).2 rfl
          have Hidx := Lib.hid hidx
          clear hc hq hno hqw hidx htx
          go_wp2_with fail
          go_ret
          exact ⟨by rw [Hidx.out]; rfl, rfl⟩
        · have hb : (q.tx == tx) = false := by
            cases hbb : q.tx == tx with
            | false => rfl
            | true => exact absurd ((bytes_beq _ _).1 hbb) htx
          have hno2 := take_next (p := fun q : RPth => q.waits && (q.tx == tx)) hq (by simp [hb]) hno
          have hbl : (q.tx.toList == tx.toList) = false := by
            rw [beq_eq_false_iff_ne]
            intro h
            rw [ByteArray.toList_eq, ByteArray.toList_eq] at h
            exact htx (ByteArray.ext (Array.toList_inj.1 h))
          rw [hqw] at q9
          have Hno := Lib.hid hno2
          clear hc hq hno hqw hno2
          go_wp2_with fail
          go_roundw
          case rel => exact ⟨k + 1, by omega, by go_num, Hno.out, (by first | rfl | trivial)⟩
          case measure => simp [intOf]; omega
    · obtain rfl : k = t.l.length := by omega
      have hidx : rping t tx = none := findIdx_no hno
      have Hidx := Lib.hid hidx
      clear hno hidx
      go_wp2_with fail
      go_ret
      exact ⟨by rw [Hidx.out]; rfl, rfl⟩

theorem rago_any (now at_ : Nat) (w : World) (hn : now < M64) (ha : at_ < M64) : Calls Try.prog 49 #[.int .u64 (now : Int), .int .u64 (at_ : Int)] w fun e w' => e = .returned (.int .u64 (ago now at_ : Int)) ∧ w = w' := by
  have hn2 : now < 18446744073709551616 := hn
  have ha2 : at_ < 18446744073709551616 := ha
  by_cases h : now < at_
  · have h1 : (now : Int) < (at_ : Int) := by omega
    have e : ago now at_ = 0 := by unfold ago; omega
    rw [e]
    clear e
    go_enter Try.func49, Try.ntmps49
    go_wp2
    go_ret
    exact ⟨rfl, rfl⟩
  · have h1 : (at_ : Int) ≤ (now : Int) := by omega
    have e : ((ago now at_ : Nat) : Int) = (now : Int) - (at_ : Int) := by unfold ago; omega
    rw [e]
    clear e
    go_enter Try.func49, Try.ntmps49
    go_wp2
    go_ret
    exact ⟨rfl, rfl⟩

def rthere (t : RTab) (p : Pth) (now : Nat) : Bool := p.heard && (decide (ago now p.last ≤ t.life) && decide (p.lost < (t.losses : Int)))

set_option maxHeartbeats 1000000 in
set_option maxRecDepth 100000 in
theorem rthere_any (h : RM w b base A cap t) (q : RPth) (now : Nat) (hn : now < M64) (hl : q.p.last < M64) (bo : Bool) (hb : rthere t q.p now = bo) :
    Calls Try.prog 50 #[ptr b, .agg q.cells, .int .u64 (now : Int)] w fun r w' => r = .returned (.bool bo) ∧ Below w.heap.size w w' := by
  have c1 := (h.alloc (.cells q.cells 90)).cells.2.1
  have c2 := (h.alloc (.cells q.cells 90)).cells.2.2.1
  obtain ⟨⟨e, x, y, heard, last, lost⟩, waits, tx, at_⟩ := q
  unfold RPth.cells at *
  unfold rthere at hb
  simp only at hb hl c1 c2 ⊢
  clear h
  cases heard with
  | false =>
    simp only [Bool.false_and] at hb
    subst hb
    have b1 := (Below.refl w.heap.size w).alloc (Nat.le_refl _) (.cells #[.bool e.v6, .int .u64 (e.hi : Int), .int .u64 (e.lo : Int), .int .u16 (e.port : Int), .float .f64 x, .float .f64 y, .bool false, .int .u64 (last : Int), .int .i64 lost, .bool waits, .string tx, .int .u64 (at_ : Int)] 90)
    go_enter Try.func50, Try.ntmps50
    go_wp2_with fail
    go_quiet (fail)
    go_wp2_with fail
    go_ret
    exact ⟨rfl, ⟨b1.os, b1.tape, b1.output, b1.size, b1.block⟩⟩
  | true =>
    by_cases k2 : ago now last ≤ t.life
    · by_cases k3 : lost < (t.losses : Int)
      · have hd : decide (ago now last ≤ t.life) = true := by simpa using k2
        have hd2 : decide (lost < (t.losses : Int)) = true := by simpa using k3
        simp only [hd, hd2, Bool.and_self] at hb
        subst hb
        clear k2 k3
        have b1 := (Below.refl w.heap.size w).alloc (Nat.le_refl _) (.cells #[.bool e.v6, .int .u64 (e.hi : Int), .int .u64 (e.lo : Int), .int .u16 (e.port : Int), .float .f64 x, .float .f64 y, .bool true, .int .u64 (last : Int), .int .i64 lost, .bool waits, .string tx, .int .u64 (at_ : Int)] 90)
        go_enter Try.func50, Try.ntmps50
        go_wp2_with fail
        go_quiet ((go_at_call 49; exact quiet_left (rago_any now last _ hn hl)))
        go_wp2_with fail
        go_ret
        exact ⟨rfl, ⟨b1.os, b1.tape, b1.output, b1.size, b1.block⟩⟩
      · have hd : decide (ago now last ≤ t.life) = true := by simpa using k2
        have hd2 : decide (lost < (t.losses : Int)) = false := by simpa using k3
        simp only [hd, hd2, Bool.and_false, Bool.and_true] at hb
        subst hb
        clear k2 k3
        have b1 := (Below.refl w.heap.size w).alloc (Nat.le_refl _) (.cells #[.bool e.v6, .int .u64 (e.hi : Int), .int .u64 (e.lo : Int), .int .u16 (e.port : Int), .float .f64 x, .float .f64 y, .bool true, .int .u64 (last : Int), .int .i64 lost, .bool waits, .string tx, .int .u64 (at_ : Int)] 90)
        go_enter Try.func50, Try.ntmps50
        go_wp2_with fail
        go_quiet ((go_at_call 49; exact quiet_left (rago_any now last _ hn hl)))
        go_wp2_with fail
        go_ret
        exact ⟨rfl, ⟨b1.os, b1.tape, b1.output, b1.size, b1.block⟩⟩
    · have hd : decide (ago now last ≤ t.life) = false := by simpa using k2
      simp only [hd, Bool.false_and, Bool.and_false] at hb
      subst hb
      clear k2
      have b1 := (Below.refl w.heap.size w).alloc (Nat.le_refl _) (.cells #[.bool e.v6, .int .u64 (e.hi : Int), .int .u64 (e.lo : Int), .int .u16 (e.port : Int), .float .f64 x, .float .f64 y, .bool true, .int .u64 (last : Int), .int .i64 lost, .bool waits, .string tx, .int .u64 (at_ : Int)] 90)
      go_enter Try.func50, Try.ntmps50
      go_wp2_with fail
      go_quiet ((go_at_call 49; exact quiet_left (rago_any now last _ hn hl)))
      go_wp2_with fail
      go_ret
      exact ⟨rfl, ⟨b1.os, b1.tape, b1.output, b1.size, b1.block⟩⟩

set_option maxHeartbeats 1000000 in
theorem rscore_any (q : RPth) (w : World) {mm : Nat} (hm : F.mul c4 q.p.y = some mm) (hs : F.add q.p.x mm = some (sc q.p)) :
    Calls Try.prog 51 #[.agg q.cells] w fun r w' => r = .returned (.float .f64 (sc q.p)) ∧ Below w.heap.size w w' := by
  unfold RPth.cells at *
  have r1 := fun (w : World) => run_fmul (P := Try.prog) w 46 hm
  have r2 := fun (w : World) => run_fadd (P := Try.prog) w 46 hs
  clear hm hs
  go_enter Try.func51, Try.ntmps51
  go_wp2_with fail
  go_ret
  exact ⟨rfl, (Below.refl _ _).alloc (Nat.le_refl _) _⟩
end
end Go.Proofs.Ytbopmcdmahabbaa
