/- Joined out of: LwG. -/
import Derived.Test.YtomndcjgdfhmbaaGreatDoorJay
import Derived.Test.YtomndcjgdfhmbaaGreatDoorJaz
set_option linter.unusedVariables false
set_option linter.unusedSimpArgs false

/- IpHolds: the law, whole. (Printed by lw_close.py.) -/
namespace Go.Proofs.YtomndcjgdfhmbaaGreatDoor
open Go.RowKit

set_option maxHeartbeats 8000000 in
set_option maxRecDepth 100000 in
theorem holds_unlike {w : World} (env : Env w) (v v' : Bool) (ah al bh bl : Nat) (oka : (Ad.mk v ah al).Ok) (okb : (Ad.mk v' bh bl).Ok) (hne : v ≠ v') (n m : Nat) : Calls Tryz.prog 8 #[.agg #[.bool v, .int .u64 (ah : Int), .int .u64 (al : Int)], .agg #[.bool v', .int .u64 (bh : Int), .int .u64 (bl : Int)], .int .u8 (n : Int), .int .u8 (m : Int)] w (Got (.bool true) w) := by
  have HWK := Lib.hid fun v (hv : Below w.heap.size w v) => works_any (env.below hv)
  have htx := fun u (hv : Below w.heap.size w u) => text_any (env.below hv) ⟨v, ah, al⟩ oka
  have hty := fun u (hv : Below w.heap.size w u) => text_any (env.below hv) ⟨v', bh, bl⟩ okb
  have e1 := text_emp ⟨v, ah, al⟩
  have e2 := text_emp ⟨v', bh, bl⟩
  clear e1 e2; have e1 : True := trivial; have e2 : True := trivial
  unfold Ad.cells at htx hty
  simp only at htx hty
  generalize textB ⟨v, ah, al⟩ = TXA at htx
  generalize textB ⟨v', bh, bl⟩ = TXB at hty
  have HTX := Lib.hid htx
  have HTY := Lib.hid hty
  clear htx hty env
  have ha := (Blk.new w 24 #[.bool v, .int .u64 (ah : Int), .int .u64 (al : Int)]).alloc (.cells #[.bool v', .int .u64 (bh : Int), .int .u64 (bl : Int)] 24)
  have hb : Blk ((w.alloc (.cells #[.bool v, .int .u64 (ah : Int), .int .u64 (al : Int)] 24)).alloc (.cells #[.bool v', .int .u64 (bh : Int), .int .u64 (bl : Int)] 24)) (w.heap.size + 1) 24 #[.bool v', .int .u64 (bh : Int), .int .u64 (bl : Int)] := by
    have h := Blk.new (w.alloc (.cells #[.bool v, .int .u64 (ah : Int), .int .u64 (al : Int)] 24)) 24 #[.bool v', .int .u64 (bh : Int), .int .u64 (bl : Int)]
    simpa using h
  have hv := two_boxed w (.cells #[.bool v, .int .u64 (ah : Int), .int .u64 (al : Int)] 24) (.cells #[.bool v', .int .u64 (bh : Int), .int .u64 (bl : Int)] 24)
  go_enter Tryz.func8, Tryz.ntmps8
  go_upto_region 1 with fail
  generalize (w.alloc (.cells #[.bool v, .int .u64 (ah : Int), .int .u64 (al : Int)] 24)).alloc (.cells #[.bool v', .int .u64 (bh : Int), .int .u64 (bl : Int)] 24) = w0 at ha hb hv ⊢
  have a0 := ha.cell 0; have a1 := ha.cell 1; have a2 := ha.cell 2; have b0 := hb.cell 0; have b1 := hb.cell 1; have b2 := hb.cell 2; simp at a0 a1 a2 b0 b1 b2
  cases v <;> cases v' <;> first | exact absurd rfl hne | skip
  all_goals
    go_wp2_with (first
      | (go_at_call 19; (with_reducible refine (HTX.out _ hv).mono ?_); rintro r wq ⟨rfl, gq⟩; have hv := after hv gq; have ha := ha.below gq ha.lt; have hb := hb.below gq hb.lt; clear gq; have a0 := ha.cell 0; have a1 := ha.cell 1; have a2 := ha.cell 2; have b0 := hb.cell 0; have b1 := hb.cell 1; have b2 := hb.cell 2; simp at a0 a1 a2 b0 b1 b2)
      | (go_at_call 19; (with_reducible refine (HTY.out _ hv).mono ?_); rintro r wq ⟨rfl, gq⟩; have hv := after hv gq; have ha := ha.below gq ha.lt; have hb := hb.below gq hb.lt; clear gq; have a0 := ha.cell 0; have a1 := ha.cell 1; have a2 := ha.cell 2; have b0 := hb.cell 0; have b1 := hb.cell 1; have b2 := hb.cell 2; simp at a0 a1 a2 b0 b1 b2)
      | (go_at_call 9; (with_reducible refine (HWK.out _ hv).mono ?_); rintro r wq ⟨rfl, gq⟩; have hv := after hv gq; clear gq))
    go_ret
    exact ⟨rfl, hv⟩

set_option maxHeartbeats 8000000 in
set_option maxRecDepth 100000 in
theorem holds_first {w : World} (env : Env w) (v : Bool) (ah al bh bl : Nat) (oka : (Ad.mk v ah al).Ok) (okb : (Ad.mk v bh bl).Ok) (hma : (Ad.mk v ah al).may = false) (n m : Nat) : Calls Tryz.prog 8 #[.agg #[.bool v, .int .u64 (ah : Int), .int .u64 (al : Int)], .agg #[.bool v, .int .u64 (bh : Int), .int .u64 (bl : Int)], .int .u8 (n : Int), .int .u8 (m : Int)] w (Got (.bool true) w) := by
  have HWK := Lib.hid fun v (hv : Below w.heap.size w v) => works_any (env.below hv)
  have htx := fun u (hv : Below w.heap.size w u) => text_any (env.below hv) ⟨v, ah, al⟩ oka
  have hty := fun u (hv : Below w.heap.size w u) => text_any (env.below hv) ⟨v, bh, bl⟩ okb
  have e1 := text_emp ⟨v, ah, al⟩
  have e2 := text_emp ⟨v, bh, bl⟩
  rw [hma] at e1
  unfold Ad.cells at htx hty
  simp only at htx hty
  generalize textB ⟨v, ah, al⟩ = TXA at htx e1
  generalize textB ⟨v, bh, bl⟩ = TXB at hty e2
  have HTX := Lib.hid htx
  have HTY := Lib.hid hty
  clear htx hty env
  simp only [Bool.not_true, Bool.not_false] at e1
  clear e2 hma
  have ha := (Blk.new w 24 #[.bool v, .int .u64 (ah : Int), .int .u64 (al : Int)]).alloc (.cells #[.bool v, .int .u64 (bh : Int), .int .u64 (bl : Int)] 24)
  have hb : Blk ((w.alloc (.cells #[.bool v, .int .u64 (ah : Int), .int .u64 (al : Int)] 24)).alloc (.cells #[.bool v, .int .u64 (bh : Int), .int .u64 (bl : Int)] 24)) (w.heap.size + 1) 24 #[.bool v, .int .u64 (bh : Int), .int .u64 (bl : Int)] := by
    have h := Blk.new (w.alloc (.cells #[.bool v, .int .u64 (ah : Int), .int .u64 (al : Int)] 24)) 24 #[.bool v, .int .u64 (bh : Int), .int .u64 (bl : Int)]
    simpa using h
  have hv := two_boxed w (.cells #[.bool v, .int .u64 (ah : Int), .int .u64 (al : Int)] 24) (.cells #[.bool v, .int .u64 (bh : Int), .int .u64 (bl : Int)] 24)
  go_enter Tryz.func8, Tryz.ntmps8
  go_upto_region 1 with fail
  generalize (w.alloc (.cells #[.bool v, .int .u64 (ah : Int), .int .u64 (al : Int)] 24)).alloc (.cells #[.bool v, .int .u64 (bh : Int), .int .u64 (bl : Int)] 24) = w0 at ha hb hv ⊢
  have a0 := ha.cell 0; have a1 := ha.cell 1; have a2 := ha.cell 2; have b0 := hb.cell 0; have b1 := hb.cell 1; have b2 := hb.cell 2; simp at a0 a1 a2 b0 b1 b2
  go_wp2_with (first
    | (go_at_call 19; (with_reducible refine (HTX.out _ hv).mono ?_); rintro r wq ⟨rfl, gq⟩; have hv := after hv gq; have ha := ha.below gq ha.lt; have hb := hb.below gq hb.lt; clear gq; have a0 := ha.cell 0; have a1 := ha.cell 1; have a2 := ha.cell 2; have b0 := hb.cell 0; have b1 := hb.cell 1; have b2 := hb.cell 2; simp at a0 a1 a2 b0 b1 b2)
    | (go_at_call 19; (with_reducible refine (HTY.out _ hv).mono ?_); rintro r wq ⟨rfl, gq⟩; have hv := after hv gq; have ha := ha.below gq ha.lt; have hb := hb.below gq hb.lt; clear gq; have a0 := ha.cell 0; have a1 := ha.cell 1; have a2 := ha.cell 2; have b0 := hb.cell 0; have b1 := hb.cell 1; have b2 := hb.cell 2; simp at a0 a1 a2 b0 b1 b2)
    | (go_at_call 9; (with_reducible refine (HWK.out _ hv).mono ?_); rintro r wq ⟨rfl, gq⟩; have hv := after hv gq; clear gq))
  all_goals
    go_ret
    exact ⟨rfl, hv⟩

set_option maxHeartbeats 8000000 in
set_option maxRecDepth 100000 in
theorem holds_second {w : World} (env : Env w) (v : Bool) (ah al bh bl : Nat) (oka : (Ad.mk v ah al).Ok) (okb : (Ad.mk v bh bl).Ok) (hma : (Ad.mk v ah al).may = true) (hmb : (Ad.mk v bh bl).may = false) (n m : Nat) : Calls Tryz.prog 8 #[.agg #[.bool v, .int .u64 (ah : Int), .int .u64 (al : Int)], .agg #[.bool v, .int .u64 (bh : Int), .int .u64 (bl : Int)], .int .u8 (n : Int), .int .u8 (m : Int)] w (Got (.bool true) w) := by
  have HWK := Lib.hid fun v (hv : Below w.heap.size w v) => works_any (env.below hv)
  have htx := fun u (hv : Below w.heap.size w u) => text_any (env.below hv) ⟨v, ah, al⟩ oka
  have hty := fun u (hv : Below w.heap.size w u) => text_any (env.below hv) ⟨v, bh, bl⟩ okb
  have e1 := text_emp ⟨v, ah, al⟩
  have e2 := text_emp ⟨v, bh, bl⟩
  rw [hma] at e1
  rw [hmb] at e2
  unfold Ad.cells at htx hty
  simp only at htx hty
  generalize textB ⟨v, ah, al⟩ = TXA at htx e1
  generalize textB ⟨v, bh, bl⟩ = TXB at hty e2
  have HTX := Lib.hid htx
  have HTY := Lib.hid hty
  clear htx hty env
  simp only [Bool.not_true, Bool.not_false] at e1 e2
  clear hma hmb
  have ha := (Blk.new w 24 #[.bool v, .int .u64 (ah : Int), .int .u64 (al : Int)]).alloc (.cells #[.bool v, .int .u64 (bh : Int), .int .u64 (bl : Int)] 24)
  have hb : Blk ((w.alloc (.cells #[.bool v, .int .u64 (ah : Int), .int .u64 (al : Int)] 24)).alloc (.cells #[.bool v, .int .u64 (bh : Int), .int .u64 (bl : Int)] 24)) (w.heap.size + 1) 24 #[.bool v, .int .u64 (bh : Int), .int .u64 (bl : Int)] := by
    have h := Blk.new (w.alloc (.cells #[.bool v, .int .u64 (ah : Int), .int .u64 (al : Int)] 24)) 24 #[.bool v, .int .u64 (bh : Int), .int .u64 (bl : Int)]
    simpa using h
  have hv := two_boxed w (.cells #[.bool v, .int .u64 (ah : Int), .int .u64 (al : Int)] 24) (.cells #[.bool v, .int .u64 (bh : Int), .int .u64 (bl : Int)] 24)
  go_enter Tryz.func8, Tryz.ntmps8
  go_upto_region 1 with fail
  generalize (w.alloc (.cells #[.bool v, .int .u64 (ah : Int), .int .u64 (al : Int)] 24)).alloc (.cells #[.bool v, .int .u64 (bh : Int), .int .u64 (bl : Int)] 24) = w0 at ha hb hv ⊢
  have a0 := ha.cell 0; have a1 := ha.cell 1; have a2 := ha.cell 2; have b0 := hb.cell 0; have b1 := hb.cell 1; have b2 := hb.cell 2; simp at a0 a1 a2 b0 b1 b2
  go_wp2_with (first
    | (go_at_call 19; (with_reducible refine (HTX.out _ hv).mono ?_); rintro r wq ⟨rfl, gq⟩; have hv := after hv gq; have ha := ha.below gq ha.lt; have hb := hb.below gq hb.lt; clear gq; have a0 := ha.cell 0; have a1 := ha.cell 1; have a2 := ha.cell 2; have b0 := hb.cell 0; have b1 := hb.cell 1; have b2 := hb.cell 2; simp at a0 a1 a2 b0 b1 b2)
    | (go_at_call 19; (with_reducible refine (HTY.out _ hv).mono ?_); rintro r wq ⟨rfl, gq⟩; have hv := after hv gq; have ha := ha.below gq ha.lt; have hb := hb.below gq hb.lt; clear gq; have a0 := ha.cell 0; have a1 := ha.cell 1; have a2 := ha.cell 2; have b0 := hb.cell 0; have b1 := hb.cell 1; have b2 := hb.cell 2; simp at a0 a1 a2 b0 b1 b2)
    | (go_at_call 9; (with_reducible refine (HWK.out _ hv).mono ?_); rintro r wq ⟨rfl, gq⟩; have hv := after hv gq; clear gq))
  all_goals
    go_ret
    exact ⟨rfl, hv⟩

theorem holds_law {w : World} (env : Env w) (a : Ad) (oka : a.Ok) (b : Ad) (okb : b.Ok) (n : Nat) (hn : n < 256) (m : Nat) (hm : m < 256) : Calls Tryz.prog 8 #[.agg a.cells, .agg b.cells, .int .u8 (n : Int), .int .u8 (m : Int)] w (Got (.bool true) w) := by
  obtain ⟨v, ah, al⟩ := a
  obtain ⟨v', bh, bl⟩ := b
  by_cases h6 : v = v'
  · subst h6
    cases hma : (Ad.mk v ah al).may with
    | false => exact holds_first env v ah al bh bl oka okb hma n m
    | true =>
      cases hmb : (Ad.mk v bh bl).may with
      | false => exact holds_second env v ah al bh bl oka okb hma hmb n m
      | true =>
        cases v with
        | false => exact holds_four env ah al bh bl oka okb hma hmb n m hn hm
        | true => exact holds_six env ah al bh bl oka okb hma hmb n m hn hm
  · exact holds_unlike env v v' ah al bh bl oka okb h6 n m
end Go.Proofs.YtomndcjgdfhmbaaGreatDoor
