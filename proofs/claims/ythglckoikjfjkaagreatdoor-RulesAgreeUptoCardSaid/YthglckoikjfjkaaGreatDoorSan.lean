/- Joined out of: RxA RxB RxC RxD RxE RxF RxG MyA RxH RxI RxJ. -/
import Derived.Test.YthglckoikjfjkaaGreatDoorSae
import Derived.Test.YthglckoikjfjkaaGreatDoorSad
import Derived.Test.YthglckoikjfjkaaGreatDoorSam
import Derived.Test.YthglckoikjfjkaaGreatDoorSag
import Derived.Test.YthglckoikjfjkaaGreatDoorSak
set_option linter.unusedVariables false
set_option linter.unusedSimpArgs false

/- Rules: which addresses may be, their order, the address behind one, ranges: the walks. -/
namespace Go.Proofs.YthglckoikjfjkaaGreatDoor
open Go.RowKit
attribute [local go_sem ↓] Go.wp_at_zero Go.wp_at_succ

theorem textB_empty (a : Ad) : (textB a).toList.isEmpty = !a.may := by
  have e : (textB a).toList = textL a := by
    unfold textB
    rw [ByteArray.toList_eq]
  rw [e]
  cases hm : a.may with
  | false => rw [textL_nil hm]; rfl
  | true =>
    cases h : textL a with
    | nil => exact absurd h (textL_ne hm)
    | cons x r => rfl

set_option maxHeartbeats 2000000 in
theorem mayQ_any {w : World} (env : Env w) (a : Ad) (ok : a.Ok) : Calls Tryz.prog 21 #[.agg a.cells] w (Got (.bool a.may) w) := by
  have htx := fun u (hu : Below w.heap.size w u) => text_any (env.below hu) a ok
  have he := textB_empty a
  obtain ⟨M, hM⟩ : ∃ M, M = a.may := ⟨_, rfl⟩
  rw [← hM] at he ⊢
  generalize textB a = T at htx he
  obtain ⟨v, x, l⟩ := a
  unfold Ad.cells at htx ⊢
  have HTx := Lib.hid htx
  clear htx env ok hM
  go_enter Tryz.func21, Tryz.ntmps21
  go_wp2_with (go_at_call 53; (with_reducible refine (HTx.out _ (boxed _ _)).mono ?_); rintro r w2 ⟨rfl, d2⟩)
  go_ret
  exact ⟨by simp, after (boxed _ _) d2⟩

def cmpA (a b : Ad) : Int := if lessA a b = true then -1 else if lessA b a = true then 1 else 0
theorem cmp_le {a b : Ad} (oa : a.Ok) (ob : b.Ok) : decide (cmpA a b ≤ 0) = !lessA b a := by
  unfold cmpA
  rw [less_key oa ob, less_key ob oa]
  by_cases h1 : a.key < b.key
  · simp [h1]; omega
  · by_cases h2 : b.key < a.key
    · simp [h1, h2]
    · simp [h1, h2]
theorem cmp_lt (a b : Ad) : decide (cmpA a b < 0) = lessA a b := by
  unfold cmpA
  cases lessA a b
  · cases lessA b a <;> rfl
  · rfl

set_option maxHeartbeats 2000000 in
theorem compare_any (a b : Ad) (w : World) : Calls Tryz.prog 25 #[.agg a.cells, .agg b.cells] w (Got (.int .i64 (cmpA a b)) w) := by
  have h1 := fun u => less_any a b u
  have h2 := fun u => less_any b a u
  unfold cmpA
  generalize lessA a b = L at h1 ⊢
  generalize lessA b a = L' at h2 ⊢
  obtain ⟨v, x, l⟩ := a
  obtain ⟨v', x', l'⟩ := b
  unfold Ad.cells at h1 h2 ⊢
  simp only at h1 h2 ⊢
  have H1 := Lib.hid h1
  have H2 := Lib.hid h2
  clear h1 h2
  have HB := Lib.hid (two_boxed w (.cells #[.bool v, .int .u64 (x : Int), .int .u64 (l : Int)] 40) (.cells #[.bool v', .int .u64 (x' : Int), .int .u64 (l' : Int)] 40))
  have A0 := Blk.new w 40 #[.bool v, .int .u64 (x : Int), .int .u64 (l : Int)]
  have B0 := Blk.new (w.alloc (.cells #[.bool v, .int .u64 (x : Int), .int .u64 (l : Int)] 40)) 40 #[.bool v', .int .u64 (x' : Int), .int .u64 (l' : Int)]
  have A1 := A0.below (boxed _ (.cells #[.bool v', .int .u64 (x' : Int), .int .u64 (l' : Int)] 40)) A0.lt
  rw [show (w.alloc (.cells #[.bool v, .int .u64 (x : Int), .int .u64 (l : Int)] 40)).heap.size = w.heap.size + 1 by simp] at B0
  go_enter Tryz.func25, Tryz.ntmps25
  go_upto_region 1 with fail
  generalize (w.alloc (.cells #[.bool v, .int .u64 (x : Int), .int .u64 (l : Int)] 40)).alloc (.cells #[.bool v', .int .u64 (x' : Int), .int .u64 (l' : Int)] 40) = w1 at A1 B0 HB ⊢
  generalize w.heap.size + 1 = B at B0 ⊢
  have HA1 := Lib.hid A1
  have HB1 := Lib.hid B0
  clear A0 A1 B0
  have a0 := HA1.out.cell 0
  have a1 := HA1.out.cell 1
  have a2 := HA1.out.cell 2
  have b0 := HB1.out.cell 0
  have b1 := HB1.out.cell 1
  have b2 := HB1.out.cell 2
  simp at a0 a1 a2 b0 b1 b2
  cases L with
  | true =>
    go_wp2_with (go_at_call 55; (with_reducible refine (H1.out _).mono ?_); rintro r w2 ⟨rfl, d2⟩)
    go_ret
    exact ⟨rfl, after HB.out d2⟩
  | false =>
    go_upto_region 3 with (go_at_call 55; (with_reducible refine (H1.out _).mono ?_); rintro r w2 ⟨rfl, d2⟩)
    have HA2 := Lib.hid (HA1.out.below d2 HA1.out.lt)
    have HB2 := Lib.hid (HB1.out.below d2 HB1.out.lt)
    have HW2 := Lib.hid (after HB.out d2)
    clear a0 a1 a2 b0 b1 b2 HA1 HB1 HB d2
    have a0 := HA2.out.cell 0
    have a1 := HA2.out.cell 1
    have a2 := HA2.out.cell 2
    have b0 := HB2.out.cell 0
    have b1 := HB2.out.cell 1
    have b2 := HB2.out.cell 2
    simp at a0 a1 a2 b0 b1 b2
    cases L' with
    | true =>
      go_wp2_with (go_at_call 55; (with_reducible refine (H2.out _).mono ?_); rintro r w3 ⟨rfl, d3⟩)
      go_ret
      exact ⟨rfl, after HW2.out d3⟩
    | false =>
      go_wp2_with (go_at_call 55; (with_reducible refine (H2.out _).mono ?_); rintro r w3 ⟨rfl, d3⟩)
      go_ret
      exact ⟨rfl, after HW2.out d3⟩
end Go.Proofs.YthglckoikjfjkaaGreatDoor

/- Rules: which ranges may be, the address behind one: the walks. -/
namespace Go.Proofs.YthglckoikjfjkaaGreatDoor
open Go.RowKit
attribute [local go_sem ↓] Go.wp_at_zero Go.wp_at_succ

def Sp.cells (s : Sp) : Array Value := #[.bool s.1.v6, .int .u64 (s.1.hi : Int), .int .u64 (s.1.lo : Int), .bool s.2.v6, .int .u64 (s.2.hi : Int), .int .u64 (s.2.lo : Int)]

set_option maxHeartbeats 4000000 in
set_option maxRecDepth 100000 in
theorem maySpan_any {w : World} (env : Env w) (s : Sp) (ok : s.Ok) : Calls Tryz.prog 24 #[.agg s.cells] w (Got (.bool (maySp s)) w) := by
  have hm1 := fun u (hu : Below w.heap.size w u) => mayQ_any (env.below hu) s.1 ok.1
  have hm2 := fun u (hu : Below w.heap.size w u) => mayQ_any (env.below hu) s.2 ok.2
  have hc := fun u => compare_any s.1 s.2 u
  unfold maySp
  rw [← cmp_le ok.1 ok.2]
  generalize s.1.may = M1 at hm1 ⊢
  generalize s.2.may = M2 at hm2 ⊢
  generalize cmpA s.1 s.2 = C at hc ⊢
  obtain ⟨⟨v, x, l⟩, ⟨v', x', l'⟩⟩ := s
  unfold Ad.cells at hm1 hm2 hc
  unfold Sp.cells
  simp only at hm1 hm2 hc ⊢
  have H1 := Lib.hid hm1
  have H2 := Lib.hid hm2
  have H3 := Lib.hid hc
  clear hm1 hm2 hc env ok
  have HP := Lib.hid (Blk.new w 73 #[.bool v, .int .u64 (x : Int), .int .u64 (l : Int), .bool v', .int .u64 (x' : Int), .int .u64 (l' : Int)])
  have HB := Lib.hid (boxed w (.cells #[.bool v, .int .u64 (x : Int), .int .u64 (l : Int), .bool v', .int .u64 (x' : Int), .int .u64 (l' : Int)] 73))
  go_enter Tryz.func24, Tryz.ntmps24
  go_upto_region 1 with fail
  generalize w.alloc (.cells #[.bool v, .int .u64 (x : Int), .int .u64 (l : Int), .bool v', .int .u64 (x' : Int), .int .u64 (l' : Int)] 73) = w1 at HP HB ⊢
  generalize w.heap.size = B at HP ⊢
  have p0 := HP.out.cell 0
  have p1 := HP.out.cell 1
  have p2 := HP.out.cell 2
  have p3 := HP.out.cell 3
  have p4 := HP.out.cell 4
  have p5 := HP.out.cell 5
  simp at p0 p1 p2 p3 p4 p5
  cases M1 with
  | false =>
    go_wp2_with (go_at_call 21; (with_reducible refine (H1.out _ HB.out).mono ?_); rintro r w2 ⟨rfl, d2⟩)
    go_ret
    exact ⟨rfl, after HB.out d2⟩
  | true =>
    cases M2 with
    | false =>
      go_wp2_with (first | (go_at_call 21; (with_reducible refine (H1.out _ HB.out).mono ?_); rintro r w2 ⟨rfl, d2⟩; have HB2 := Lib.hid (after HB.out d2); have HP2 := Lib.hid (HP.out.below d2 HP.out.lt); have q0 := HP2.out.cell 0; have q1 := HP2.out.cell 1; have q2 := HP2.out.cell 2; have q3 := HP2.out.cell 3; have q4 := HP2.out.cell 4; have q5 := HP2.out.cell 5; simp at q0 q1 q2 q3 q4 q5; clear p0 p1 p2 p3 p4 p5 d2) | (go_at_call 21; (with_reducible refine (H2.out _ HB2.out).mono ?_); rintro r w3 ⟨rfl, d3⟩))
      go_ret
      exact ⟨rfl, after HB2.out d3⟩
    | true =>
      by_cases hv : v = v'
      · subst hv
        go_wp2_with (first | (go_at_call 21; (with_reducible refine (H1.out _ HB.out).mono ?_); rintro r w2 ⟨rfl, d2⟩; have HB2 := Lib.hid (after HB.out d2); have HP2 := Lib.hid (HP.out.below d2 HP.out.lt); have q0 := HP2.out.cell 0; have q1 := HP2.out.cell 1; have q2 := HP2.out.cell 2; have q3 := HP2.out.cell 3; have q4 := HP2.out.cell 4; have q5 := HP2.out.cell 5; simp at q0 q1 q2 q3 q4 q5; clear p0 p1 p2 p3 p4 p5 d2) | (go_at_call 21; (with_reducible refine (H2.out _ HB2.out).mono ?_); rintro r w3 ⟨rfl, d3⟩; have HB3 := Lib.hid (after HB2.out d3); have HP3 := Lib.hid (HP2.out.below d3 HP2.out.lt); have t0 := HP3.out.cell 0; have t1 := HP3.out.cell 1; have t2 := HP3.out.cell 2; have t3 := HP3.out.cell 3; have t4 := HP3.out.cell 4; have t5 := HP3.out.cell 5; simp at t0 t1 t2 t3 t4 t5; clear q0 q1 q2 q3 q4 q5 d3) | (go_at_call 25; (with_reducible refine (H3.out _).mono ?_); rintro r w4 ⟨rfl, d4⟩))
        go_ret
        exact ⟨by simp, after HB3.out d4⟩
      · have hv2 : (v == v') = false := by simpa using hv
        clear hv
        rw [hv2]
        go_wp2_with (first | (go_at_call 21; (with_reducible refine (H1.out _ HB.out).mono ?_); rintro r w2 ⟨rfl, d2⟩; have HB2 := Lib.hid (after HB.out d2); have HP2 := Lib.hid (HP.out.below d2 HP.out.lt); have q0 := HP2.out.cell 0; have q1 := HP2.out.cell 1; have q2 := HP2.out.cell 2; have q3 := HP2.out.cell 3; have q4 := HP2.out.cell 4; have q5 := HP2.out.cell 5; simp at q0 q1 q2 q3 q4 q5; clear p0 p1 p2 p3 p4 p5 d2) | (go_at_call 21; (with_reducible refine (H2.out _ HB2.out).mono ?_); rintro r w3 ⟨rfl, d3⟩; have HB3 := Lib.hid (after HB2.out d3); have HP3 := Lib.hid (HP2.out.below d3 HP2.out.lt); have t0 := HP3.out.cell 0; have t1 := HP3.out.cell 1; have t2 := HP3.out.cell 2; have t3 := HP3.out.cell 3; have t4 := HP3.out.cell 4; have t5 := HP3.out.cell 5; simp at t0 t1 t2 t3 t4 t5; clear q0 q1 q2 q3 q4 q5 d3))
        go_ret
        exact ⟨by simp; intro h; subst h; simp at hv2, HB3.out⟩

end Go.Proofs.YthglckoikjfjkaaGreatDoor

/- Rules: the address behind one: the walk. -/
namespace Go.Proofs.YthglckoikjfjkaaGreatDoor
open Go.RowKit
attribute [local go_sem ↓] Go.wp_at_zero Go.wp_at_succ

theorem wrap_succ {l : Nat} (h : l + 1 < 18446744073709551616) : IntKind.u64.wrap ((l : Int) + 1) = ((l + 1 : Nat) : Int) := by
  rw [show (l : Int) + 1 = ((l + 1 : Nat) : Int) by omega, IntKind.wrap_u64]
  omega
theorem loadAd {w : World} {g : Nat} {v0 v1 v2 : Value} (h : Blk w g 40 #[v0, v1, v2]) : (loadVar 40 ⟨g, 0, none⟩).run Tryz.prog w = .ok (.agg #[v0, v1, v2]) w := by
  have c0 := h.cell 0
  have c1 := h.cell 1
  have c2 := h.cell 2
  simp at c0 c1 c2
  simp [loadVar, go_sem, c0, c1, c2]
theorem new2 (w : World) (o : Obj) (t : TypeId) (cs : Array Value) : Blk ((w.alloc o).alloc (.cells cs t)) (w.heap.size + 1) t cs := by
  have h := Blk.new (w.alloc o) t cs
  rwa [show (w.alloc o).heap.size = w.heap.size + 1 by simp] at h
set_option maxHeartbeats 4000000 in
set_option maxRecDepth 100000 in
theorem behind_low (x l : Nat) (h1 : l < 4294967295) (w : World) : Calls Tryz.prog 46 #[.agg #[.bool false, .int .u64 (x : Int), .int .u64 (l : Int)]] w (Got (.agg #[.bool false, .int .u64 (x : Int), .int .u64 ((l + 1 : Nat) : Int)]) w) := by
  have e1 : decide ((l : Int) < 4294967295) = true := decide_eq_true (by omega)
  have e2 := wrap_succ (l := l) (by omega)
  obtain ⟨L, hL⟩ : ∃ L : Int, L = ((l + 1 : Nat) : Int) := ⟨_, rfl⟩
  rw [← hL] at e2 ⊢
  clear hL h1
  go_enter Tryz.func46, Tryz.ntmps46
  go_upto_region 1 with fail
  go_upto_region 3 with fail
  go_upto_region 6 with fail
  go_wp2_with fail
  try simp only [Exit.inBlock, Exit.then]
  exact bodyPost_ret (results_c (x := 2) rfl rfl (loadAd (new2 _ _ _ _))) rfl ⟨rfl, two_boxed _ _ _⟩
set_option maxHeartbeats 4000000 in
set_option maxRecDepth 100000 in
theorem behind_top (x l : Nat) (h1 : ¬ l < 4294967295) (w : World) : Calls Tryz.prog 46 #[.agg #[.bool false, .int .u64 (x : Int), .int .u64 (l : Int)]] w (Got (.agg #[.bool false, .int .u64 (x : Int), .int .u64 (l : Int)]) w) := by
  have e1 : decide ((l : Int) < 4294967295) = false := decide_eq_false (by omega)
  clear h1
  go_enter Tryz.func46, Tryz.ntmps46
  go_upto_region 1 with fail
  go_upto_region 2 with fail
  go_upto_region 4 with fail
  go_upto_region 6 with fail
  go_wp2_with fail
  try simp only [Exit.inBlock, Exit.then]
  exact bodyPost_ret (results_c (x := 2) rfl rfl (loadAd (new2 _ _ _ _))) rfl ⟨rfl, two_boxed _ _ _⟩
set_option maxHeartbeats 4000000 in
set_option maxRecDepth 100000 in
theorem behind_six (x l : Nat) (hl : l < 18446744073709551616) (h1 : l ≠ 18446744073709551615) (w : World) : Calls Tryz.prog 46 #[.agg #[.bool true, .int .u64 (x : Int), .int .u64 (l : Int)]] w (Got (.agg #[.bool true, .int .u64 (x : Int), .int .u64 ((l + 1 : Nat) : Int)]) w) := by
  have e1 : ((l : Int) != 18446744073709551615) = true := by simp; omega
  have e2 := wrap_succ (l := l) (by omega)
  obtain ⟨L, hL⟩ : ∃ L : Int, L = ((l + 1 : Nat) : Int) := ⟨_, rfl⟩
  rw [← hL] at e2 ⊢
  clear hL h1 hl
  go_enter Tryz.func46, Tryz.ntmps46
  go_upto_region 1 with fail
  go_upto_region 2 with fail
  go_upto_region 3 with fail
  go_upto_region 6 with fail
  go_wp2_with fail
  try simp only [Exit.inBlock, Exit.then]
  exact bodyPost_ret (results_c (x := 2) rfl rfl (loadAd (new2 _ _ _ _))) rfl ⟨rfl, two_boxed _ _ _⟩
set_option maxHeartbeats 4000000 in
set_option maxRecDepth 100000 in
theorem behind_next (x l : Nat) (hx : x < 18446744073709551616) (h1 : l = 18446744073709551615) (h2 : x ≠ 18446744073709551615) (w : World) : Calls Tryz.prog 46 #[.agg #[.bool true, .int .u64 (x : Int), .int .u64 (l : Int)]] w (Got (.agg #[.bool true, .int .u64 ((x + 1 : Nat) : Int), .int .u64 0]) w) := by
  have e1 : ((l : Int) != 18446744073709551615) = false := by simp; omega
  have e3 : ((x : Int) != 18446744073709551615) = true := by simp; omega
  have e2 := wrap_succ (l := x) (by omega)
  obtain ⟨L, hL⟩ : ∃ L : Int, L = ((x + 1 : Nat) : Int) := ⟨_, rfl⟩
  rw [← hL] at e2 ⊢
  clear hL h1 h2 hx
  go_enter Tryz.func46, Tryz.ntmps46
  go_upto_region 1 with fail
  go_upto_region 2 with fail
  go_upto_region 4 with fail
  go_upto_region 5 with fail
  go_upto_region 6 with fail
  go_wp2_with fail
  try simp only [Exit.inBlock, Exit.then]
  exact bodyPost_ret (results_c (x := 2) rfl rfl (loadAd (new2 _ _ _ _))) rfl ⟨rfl, two_boxed _ _ _⟩
set_option maxHeartbeats 4000000 in
set_option maxRecDepth 100000 in
theorem behind_last (x l : Nat) (h1 : l = 18446744073709551615) (h2 : x = 18446744073709551615) (w : World) : Calls Tryz.prog 46 #[.agg #[.bool true, .int .u64 (x : Int), .int .u64 (l : Int)]] w (Got (.agg #[.bool true, .int .u64 (x : Int), .int .u64 (l : Int)]) w) := by
  have e1 : ((l : Int) != 18446744073709551615) = false := by simp; omega
  have e3 : ((x : Int) != 18446744073709551615) = false := by simp; omega
  clear h1 h2
  go_enter Tryz.func46, Tryz.ntmps46
  go_upto_region 1 with fail
  go_upto_region 2 with fail
  go_upto_region 4 with fail
  go_upto_region 6 with fail
  go_wp2_with fail
  try simp only [Exit.inBlock, Exit.then]
  exact bodyPost_ret (results_c (x := 2) rfl rfl (loadAd (new2 _ _ _ _))) rfl ⟨rfl, two_boxed _ _ _⟩
theorem behind_any (a : Ad) (ok : a.Ok) (w : World) : Calls Tryz.prog 46 #[.agg a.cells] w (Got (.agg (behindA a).cells) w) := by
  have hh := ok.hi
  have hl := ok.lo
  obtain ⟨v, x, l⟩ := a
  simp only at hh hl
  cases v with
  | false =>
    by_cases h1 : l < 4294967295
    · have hb : behindA ⟨false, x, l⟩ = ⟨false, x, l + 1⟩ := by unfold behindA; simp [h1]
      rw [hb]
      exact behind_low x l h1 w
    · have hb : behindA ⟨false, x, l⟩ = ⟨false, x, l⟩ := by unfold behindA; simp [h1]
      rw [hb]
      exact behind_top x l h1 w
  | true =>
    by_cases h1 : l = 18446744073709551615
    · by_cases h2 : x = 18446744073709551615
      · have hb : behindA ⟨true, x, l⟩ = ⟨true, x, l⟩ := by unfold behindA; simp [h1, h2]
        rw [hb]
        exact behind_last x l h1 h2 w
      · have hb : behindA ⟨true, x, l⟩ = ⟨true, x + 1, 0⟩ := by unfold behindA; simp [h1, h2]
        rw [hb]
        exact behind_next x l hh h1 h2 w
    · have hb : behindA ⟨true, x, l⟩ = ⟨true, x, l + 1⟩ := by unfold behindA; simp [h1]
      rw [hb]
      exact behind_six x l hl h1 w
end Go.Proofs.YthglckoikjfjkaaGreatDoor

/- Rules: all addresses of a prefix: the walk. -/
namespace Go.Proofs.YthglckoikjfjkaaGreatDoor
open Go.RowKit
attribute [local go_sem ↓] Go.wp_at_zero Go.wp_at_succ

theorem loadSp {w : World} {g : Nat} {v0 v1 v2 v3 v4 v5 : Value} (h : Blk w g 73 #[v0, v1, v2, v3, v4, v5]) : (loadVar 73 ⟨g, 0, none⟩).run Tryz.prog w = .ok (.agg #[v0, v1, v2, v3, v4, v5]) w := by
  have c0 := h.cell 0
  have c1 := h.cell 1
  have c2 := h.cell 2
  have c3 := h.cell 3
  have c4 := h.cell 4
  have c5 := h.cell 5
  simp at c0 c1 c2 c3 c4 c5
  simp [loadVar, go_sem, c0, c1, c2, c3, c4, c5]
theorem or_low {x k : Nat} (h : x % 2 ^ k = 0) : x ||| (2 ^ k - 1) = x + (2 ^ k - 1) := by
  have hp : 0 < 2 ^ k := Nat.pow_pos (by decide)
  have e : x = 2 ^ k * (x / 2 ^ k) := by have := Nat.div_add_mod x (2 ^ k); omega
  rw [e, Nat.two_pow_add_eq_or_of_lt (by omega)]
theorem low_ones {k : Nat} (h : k ≤ 64) : IntKind.u64.wrap (IntKind.u64.wrap (2 ^ k) - 1) = ((2 ^ k - 1 : Nat) : Int) := by
  have h1 := pow_le64 h
  have hp : 0 < 2 ^ k := Nat.pow_pos (by decide)
  rw [IntKind.wrap_u64, IntKind.wrap_u64, show (2 : Int) ^ k = ((2 ^ k : Nat) : Int) by simp]
  generalize 2 ^ k = q at h1 hp
  omega
theorem mid3 (w : World) (o o' : Obj) (t : TypeId) (cs : Array Value) : Blk (((w.alloc o).alloc (.cells cs t)).alloc o') (w.heap.size + 1) t cs := by
  have h := new2 w o t cs
  exact h.below (boxed _ o') h.lt
theorem three_boxed (w : World) (o o' o'' : Obj) : Below w.heap.size w (((w.alloc o).alloc o').alloc o'') := after (two_boxed _ _ _) (boxed _ _)
theorem or_ones {x k : Nat} (hx : x < 18446744073709551616) (h : k ≤ 64) (hm : x % 2 ^ k = 0) : bits .or .u64 (x : Int) (IntKind.u64.wrap (IntKind.u64.wrap (2 ^ k) - 1)) = ((x + (2 ^ k - 1) : Nat) : Int) := by
  have h1 := pow_le64 h
  rw [low_ones h, u64_or_nat _ _ hx (by omega), or_low hm]
set_option maxHeartbeats 4000000 in
set_option maxRecDepth 100000 in
theorem whole_four (x l n : Nat) (hn : n ≤ 32) (hl : l < 18446744073709551616) (hm : l % 2 ^ (32 - n) = 0) (w : World) : Calls Tryz.prog 37 #[.agg #[.bool false, .int .u64 (x : Int), .int .u64 (l : Int), .int .u8 (n : Int)]] w (Got (.agg #[.bool false, .int .u64 (x : Int), .int .u64 (l : Int), .bool false, .int .u64 (x : Int), .int .u64 ((l + (2 ^ (32 - n) - 1) : Nat) : Int)]) w) := by
  have e1 : ((32 : Int) - (n : Int)).toNat = 32 - n := by omega
  have Eo := Lib.hid (or_ones hl (by omega) hm)
  clear hm hl
  go_enter Tryz.func37, Tryz.ntmps37
  go_upto_region 1 with fail
  go_upto_region 4 with fail
  go_upto_region 5 with fail
  go_upto_region 8 with fail
  go_wp2_with fail
  try simp only [Exit.inBlock, Exit.then]
  exact bodyPost_ret (results_c (x := 2) rfl rfl (loadSp (mid3 _ _ _ _ _))) rfl ⟨by rw [Eo.out], three_boxed _ _ _ _⟩
set_option maxHeartbeats 4000000 in
set_option maxRecDepth 100000 in
theorem whole_low (x l n : Nat) (hn : n ≤ 128) (h64 : 64 ≤ n) (hl : l < 18446744073709551616) (hm : l % 2 ^ (128 - n) = 0) (w : World) : Calls Tryz.prog 37 #[.agg #[.bool true, .int .u64 (x : Int), .int .u64 (l : Int), .int .u8 (n : Int)]] w (Got (.agg #[.bool true, .int .u64 (x : Int), .int .u64 (l : Int), .bool true, .int .u64 (x : Int), .int .u64 ((l + (2 ^ (128 - n) - 1) : Nat) : Int)]) w) := by
  have e1 : ((128 : Int) - (n : Int)).toNat = 128 - n := by omega
  have e2 : decide ((64 : Int) ≤ (n : Int)) = true := decide_eq_true (by omega)
  have Eo := Lib.hid (or_ones hl (by omega) hm)
  clear hm hl
  go_enter Tryz.func37, Tryz.ntmps37
  go_upto_region 1 with fail
  go_upto_region 4 with fail
  go_upto_region 6 with fail
  go_upto_region 7 with fail
  go_upto_region 8 with fail
  go_wp2_with fail
  try simp only [Exit.inBlock, Exit.then]
  exact bodyPost_ret (results_c (x := 2) rfl rfl (loadSp (mid3 _ _ _ _ _))) rfl ⟨by rw [Eo.out], three_boxed _ _ _ _⟩
set_option maxHeartbeats 4000000 in
set_option maxRecDepth 100000 in
theorem whole_high (x l n : Nat) (h64 : ¬ 64 ≤ n) (hx : x < 18446744073709551616) (hm : x % 2 ^ (64 - n) = 0) (w : World) : Calls Tryz.prog 37 #[.agg #[.bool true, .int .u64 (x : Int), .int .u64 (l : Int), .int .u8 (n : Int)]] w (Got (.agg #[.bool true, .int .u64 (x : Int), .int .u64 (l : Int), .bool true, .int .u64 ((x + (2 ^ (64 - n) - 1) : Nat) : Int), .int .u64 18446744073709551615]) w) := by
  have e1 : ((64 : Int) - (n : Int)).toNat = 64 - n := by omega
  have e2 : decide ((64 : Int) ≤ (n : Int)) = false := decide_eq_false (by omega)
  have Eo := Lib.hid (or_ones hx (by omega) hm)
  clear hm hx
  go_enter Tryz.func37, Tryz.ntmps37
  go_upto_region 1 with fail
  go_upto_region 4 with fail
  go_upto_region 6 with fail
  go_upto_region 2 with fail
  go_upto_region 3 with fail
  go_upto_region 8 with fail
  go_wp2_with fail
  try simp only [Exit.inBlock, Exit.then]
  exact bodyPost_ret (results_c (x := 2) rfl rfl (loadSp (mid3 _ _ _ _ _))) rfl ⟨by rw [Eo.out], three_boxed _ _ _ _⟩
theorem wholePf_any (p : Pf) (ok : p.Ok) (hm : pmay p = true) (w : World) : Calls Tryz.prog 37 #[.agg p.cells] w (Got (.agg (wholeP p).cells) w) := by
  have h := hm
  rw [pmay_eq ok.a] at h
  simp only [Bool.and_eq_true, decide_eq_true_eq] at h
  obtain ⟨⟨h1, h2⟩, h3, h4⟩ := h
  have hH := ok.a.hi
  have hL := ok.a.lo
  obtain ⟨⟨v, x, l⟩, n⟩ := p
  unfold wholeP wholeA Sp.cells Pf.cells
  unfold Ad.size at h2
  unfold kH at h3
  unfold kL at h4
  simp only at h2 h3 h4 hH hL ⊢
  cases v with
  | false =>
    simp only [Bool.false_eq_true, if_false, if_true] at h2 h3 h4 ⊢
    exact whole_four x l n h2 hL h4 w
  | true =>
    simp only [if_true, Bool.true_eq_false, if_false] at h2 h3 h4 ⊢
    by_cases hn : 64 ≤ n
    · simp only [if_pos hn]
      refine whole_low x l n h2 hn hL ?_ w
      by_cases e : n ≤ 64
      · rw [if_pos e] at h4
        rw [show 128 - n = 64 by omega]
        exact h4
      · rw [if_neg e] at h4
        exact h4
    · simp only [if_neg hn]
      exact whole_high x l n hn hH h3 w
end Go.Proofs.YthglckoikjfjkaaGreatDoor

/- Rules: nodes in memory; whom a selector means (the closures of picks, host): the walks. -/
namespace Go.Proofs.YthglckoikjfjkaaGreatDoor
open Go.RowKit
attribute [local go_sem ↓] Go.wp_at_zero Go.wp_at_succ

def adCells (l : List Ad) : List Value := l.flatMap fun a => a.cells.toList
/- A node as it lies in memory. -/
structure PeV where
  x : Pe
  key : ByteArray
  disco : ByteArray
  tg : Value
  ad : Value
  exp : Nat
  relay : Nat
  en : Value
def PeV.cells (X : PeV) : Array Value := #[.string X.key, .string X.disco, .string X.x.user, X.tg, X.ad, .int .u64 (X.exp : Int), .int .u8 (X.relay : Int), X.en]
structure PeMem (w : World) (X : PeV) : Prop where
  tags : RowR w X.tg X.x.tags.length 1 (strCells X.x.tags)
  addrs : RowR w X.ad X.x.addrs.length 3 (adCells X.x.addrs)
  ends : ∃ A n c, X.en = .slice A n c
  tl : X.x.tags.length ≤ 4000000
  al : X.x.addrs.length ≤ 4000000
theorem PeMem.below {w w' : World} {X : PeV} (h : PeMem w X) (hb : Below w.heap.size w w') : PeMem w' X := ⟨h.tags.below hb, h.addrs.below hb, h.ends, h.tl, h.al⟩

set_option maxHeartbeats 4000000 in
set_option maxRecDepth 100000 in
theorem picks1_any {w : World} (g : Nat) (s : Sel) (hg : Blk w g 66 s.cells) {X : PeV} (hx : PeMem w X) : Calls Tryz.prog 75 #[.agg X.cells, .pointer (some ⟨g, 0, none⟩)] w (Got (.bool (decide (X.x.user = s.name))) w) := by
  have hq := eqS X.x.user s.name
  rw [show decide (s.name = X.x.user) = decide (X.x.user = s.name) by rw [Bool.eq_iff_iff, decide_eq_true_eq, decide_eq_true_eq]; exact ⟨Eq.symm, Eq.symm⟩] at hq
  generalize decide (X.x.user = s.name) = D at hq ⊢
  obtain ⟨A1, c1, e1, _, _⟩ := hx.tags
  obtain ⟨A2, c2, e2, _, _⟩ := hx.addrs
  obtain ⟨A3, n3, c3, e3⟩ := hx.ends
  obtain ⟨⟨us, tags, addrs⟩, key, disco, tg, ad, ex, relay, en⟩ := X
  simp only at *
  subst e1 e2 e3
  unfold PeV.cells
  simp only
  generalize tags.length = TL at *
  generalize addrs.length = AL at *
  have HG := Lib.hid (hg.below (boxed w (.cells #[.string key, .string disco, .string us, .slice A1 TL c1, .slice A2 AL c2, .int .u64 (ex : Int), .int .u8 (relay : Int), .slice A3 n3 c3] 53)) hg.lt)
  clear hg
  have HP := Lib.hid (Blk.new w 53 #[.string key, .string disco, .string us, .slice A1 TL c1, .slice A2 AL c2, .int .u64 (ex : Int), .int .u8 (relay : Int), .slice A3 n3 c3])
  have HB := Lib.hid (boxed w (.cells #[.string key, .string disco, .string us, .slice A1 TL c1, .slice A2 AL c2, .int .u64 (ex : Int), .int .u8 (relay : Int), .slice A3 n3 c3] 53))
  clear hx
  go_enter Tryz.func75, Tryz.ntmps75
  go_upto_region 1 with fail
  generalize w.alloc (.cells #[.string key, .string disco, .string us, .slice A1 TL c1, .slice A2 AL c2, .int .u64 (ex : Int), .int .u8 (relay : Int), .slice A3 n3 c3] 53) = w1 at * 
  generalize w.heap.size = B at HP ⊢
  have p2 := HP.out.cell 2
  have s1 := HG.out.cell 1
  simp [Sel.cells] at p2 s1
  go_wp2_with fail
  go_ret
  exact ⟨rfl, HB.out⟩
set_option maxHeartbeats 4000000 in
set_option maxRecDepth 100000 in
theorem picks2_any {w : World} (g : Nat) (s : Sel) (hg : Blk w g 66 s.cells) {X : PeV} (hx : PeMem w X) : Calls Tryz.prog 76 #[.agg X.cells, .pointer (some ⟨g, 0, none⟩)] w (Got (.bool (X.x.tags.any fun t => decide (t = s.name))) w) := by
  have hc := fun u (hu : Below w.heap.size w u) => cnS_any X.x.tags hx.tl (hx.tags.below hu) s.name
  generalize (X.x.tags.any fun t => decide (t = s.name)) = D at hc ⊢
  have HC := Lib.hid hc
  clear hc
  obtain ⟨A1, c1, e1, _, _⟩ := hx.tags
  obtain ⟨A2, c2, e2, _, _⟩ := hx.addrs
  obtain ⟨A3, n3, c3, e3⟩ := hx.ends
  obtain ⟨⟨us, tags, addrs⟩, key, disco, tg, ad, ex, relay, en⟩ := X
  simp only at *
  subst e1 e2 e3
  unfold PeV.cells
  simp only
  generalize tags.length = TL at *
  generalize addrs.length = AL at *
  have HG := Lib.hid (hg.below (boxed w (.cells #[.string key, .string disco, .string us, .slice A1 TL c1, .slice A2 AL c2, .int .u64 (ex : Int), .int .u8 (relay : Int), .slice A3 n3 c3] 53)) hg.lt)
  clear hg
  have HP := Lib.hid (Blk.new w 53 #[.string key, .string disco, .string us, .slice A1 TL c1, .slice A2 AL c2, .int .u64 (ex : Int), .int .u8 (relay : Int), .slice A3 n3 c3])
  have HB := Lib.hid (boxed w (.cells #[.string key, .string disco, .string us, .slice A1 TL c1, .slice A2 AL c2, .int .u64 (ex : Int), .int .u8 (relay : Int), .slice A3 n3 c3] 53))
  clear hx
  go_enter Tryz.func76, Tryz.ntmps76
  go_upto_region 1 with fail
  generalize w.alloc (.cells #[.string key, .string disco, .string us, .slice A1 TL c1, .slice A2 AL c2, .int .u64 (ex : Int), .int .u8 (relay : Int), .slice A3 n3 c3] 53) = w1 at * 
  generalize w.heap.size = B at HP ⊢
  have p3 := HP.out.cell 3
  have s1 := HG.out.cell 1
  simp [Sel.cells] at p3 s1
  go_wp2_with (go_at_call 77; (with_reducible refine (HC.out _ HB.out).mono ?_); rintro r w2 ⟨rfl, d2⟩)
  go_ret
  exact ⟨rfl, after HB.out d2⟩
set_option maxHeartbeats 4000000 in
set_option maxRecDepth 100000 in
theorem picks5_any {w : World}  {X : PeV} (hx : PeMem w X) : Calls Tryz.prog 81 #[.agg X.cells] w (Got (.bool (false)) w) := by

  obtain ⟨A1, c1, e1, _, _⟩ := hx.tags
  obtain ⟨A2, c2, e2, _, _⟩ := hx.addrs
  obtain ⟨A3, n3, c3, e3⟩ := hx.ends
  obtain ⟨⟨us, tags, addrs⟩, key, disco, tg, ad, ex, relay, en⟩ := X
  simp only at *
  subst e1 e2 e3
  unfold PeV.cells
  simp only
  generalize tags.length = TL at *
  generalize addrs.length = AL at *
  have HP := Lib.hid (Blk.new w 53 #[.string key, .string disco, .string us, .slice A1 TL c1, .slice A2 AL c2, .int .u64 (ex : Int), .int .u8 (relay : Int), .slice A3 n3 c3])
  have HB := Lib.hid (boxed w (.cells #[.string key, .string disco, .string us, .slice A1 TL c1, .slice A2 AL c2, .int .u64 (ex : Int), .int .u8 (relay : Int), .slice A3 n3 c3] 53))
  clear hx
  go_enter Tryz.func81, Tryz.ntmps81
  go_upto_region 1 with fail
  generalize w.alloc (.cells #[.string key, .string disco, .string us, .slice A1 TL c1, .slice A2 AL c2, .int .u64 (ex : Int), .int .u8 (relay : Int), .slice A3 n3 c3] 53) = w1 at * 
  generalize w.heap.size = B at HP ⊢

  go_wp2_with fail
  go_ret
  exact ⟨rfl, HB.out⟩
end Go.Proofs.YthglckoikjfjkaaGreatDoor

/- Rules: is it this group, this host? (closures): the walks. -/
namespace Go.Proofs.YthglckoikjfjkaaGreatDoor
open Go.RowKit
attribute [local go_sem ↓] Go.wp_at_zero Go.wp_at_succ

theorem eqS' (x y : ByteArray) : (x.toList == y.toList) = decide (x = y) := by
  rw [eqS, Bool.eq_iff_iff, decide_eq_true_eq, decide_eq_true_eq]
  exact ⟨Eq.symm, Eq.symm⟩
set_option maxHeartbeats 4000000 in
set_option maxRecDepth 100000 in
theorem picks3_any {w : World} (g : Nat) (s : Sel) (hg : Blk w g 66 s.cells) (x : ByteArray) (A : Option Addr) (n c : Nat) : Calls Tryz.prog 79 #[.agg #[.string x, .slice A n c], .pointer (some ⟨g, 0, none⟩)] w (Got (.bool (decide (x = s.name))) w) := by
  have hq := eqS' x s.name
  generalize decide (x = s.name) = D at hq ⊢
  have HG := Lib.hid (hg.below (boxed w (.cells #[.string x, .slice A n c] 56)) hg.lt)
  have HP := Lib.hid (Blk.new w 56 #[.string x, .slice A n c])
  have HB := Lib.hid (boxed w (.cells #[.string x, .slice A n c] 56))
  clear hg
  go_enter Tryz.func79, Tryz.ntmps79
  go_upto_region 1 with fail
  generalize w.alloc (.cells #[.string x, .slice A n c] 56) = w1 at *
  generalize w.heap.size = B at HP ⊢
  have p0 := HP.out.cell 0
  have s1 := HG.out.cell 1
  simp [Sel.cells] at p0 s1
  go_wp2_with fail
  go_ret
  exact ⟨rfl, HB.out⟩
set_option maxHeartbeats 4000000 in
set_option maxRecDepth 100000 in
theorem host1_any {w : World} (g : Nat) (s : ByteArray) (hg : w.cell? ⟨g, 0, none⟩ = some (.string s)) (x : ByteArray) (v : Bool) (hi lo b : Nat) : Calls Tryz.prog 74 #[.agg #[.string x, .bool v, .int .u64 (hi : Int), .int .u64 (lo : Int), .int .u8 (b : Int)], .pointer (some ⟨g, 0, none⟩)] w (Got (.bool (decide (x = s))) w) := by
  have hq := eqS' x s
  generalize decide (x = s) = D at hq ⊢
  have hb := boxed w (.cells #[.string x, .bool v, .int .u64 (hi : Int), .int .u64 (lo : Int), .int .u8 (b : Int)] 127)
  have hg2 := (hb.cell (p := ⟨g, 0, none⟩) (World.block_lt_of_cell? w _ hg)).trans hg
  have HP := Lib.hid (Blk.new w 127 #[.string x, .bool v, .int .u64 (hi : Int), .int .u64 (lo : Int), .int .u8 (b : Int)])
  have HB := Lib.hid hb
  clear hg hb
  go_enter Tryz.func74, Tryz.ntmps74
  go_upto_region 1 with fail
  generalize w.alloc (.cells #[.string x, .bool v, .int .u64 (hi : Int), .int .u64 (lo : Int), .int .u8 (b : Int)] 127) = w1 at *
  generalize w.heap.size = B at HP ⊢
  have p0 := HP.out.cell 0
  simp at p0
  go_wp2_with fail
  go_ret
  exact ⟨rfl, HB.out⟩
end Go.Proofs.YthglckoikjfjkaaGreatDoor

/- Rules: the prefix of a host that is told (host): the walk. -/
namespace Go.Proofs.YthglckoikjfjkaaGreatDoor
open Go.RowKit
attribute [local go_sem ↓] Go.wp_at_zero Go.wp_at_succ

theorem find_at {α : Type} {q : α → Bool} {l : List α} {k : Nat} {x : α} (hx : l[k]? = some x) (hq : q x = true) (hn : ∀ (j : Nat) (y : α), j < k → l[j]? = some y → q y = false) : l.find? q = some x := by
  induction l generalizing k with
  | nil => cases hx
  | cons a r ih =>
    cases k with
    | zero =>
      injection hx with hx
      subst hx
      exact List.find?_cons_of_pos hq
    | succ k =>
      have h0 := hn 0 a (Nat.succ_pos _) rfl
      rw [List.find?_cons_of_neg (by rw [h0]; decide)]
      exact ih hx (fun j y hj hy => hn (j + 1) y (Nat.succ_lt_succ hj) hy)
theorem find_none {α : Type} {q : α → Bool} {l : List α} (hn : ∀ (j : Nat) (y : α), l[j]? = some y → q y = false) : l.find? q = none := by
  rw [List.find?_eq_none]
  intro x hx
  obtain ⟨j, hj⟩ := List.getElem?_of_mem hx
  rw [hn j x hj]
  decide
theorem hs_at : ∀ (l : List Hs) (k : Nat) (x : Hs), l[k]? = some x → ((hsCells l).drop (k * 5)).take 5 = [Value.string x.name, .bool x.net.a.v6, .int .u64 (x.net.a.hi : Int), .int .u64 (x.net.a.lo : Int), .int .u8 (x.net.bits : Int)] := by
  intro l
  induction l with
  | nil => intro k x h; cases h
  | cons y r ih =>
    intro k x h
    cases k with
    | zero => injection h with h; subst h; rfl
    | succ k =>
      rw [show (k + 1) * 5 = k * 5 + 1 + 1 + 1 + 1 + 1 by omega]
      exact ih k x h
theorem nm_at : ∀ (l : List (ByteArray × Value)) (k : Nat) (x : ByteArray × Value), l[k]? = some x → ((nmCells l).drop (k * 2)).take 2 = [Value.string x.1, x.2] := by
  intro l
  induction l with
  | nil => intro k x h; cases h
  | cons y r ih =>
    intro k x h
    cases k with
    | zero => injection h with h; subst h; rfl
    | succ k =>
      rw [show (k + 1) * 2 = k * 2 + 1 + 1 by omega]
      exact ih k x h
/-- The place of a host that is told. -/
theorem ixHost {w : World} {A : Option Addr} {l : List Hs} {cap : Nat} (hl : l.length ≤ 4000000) (hr : RowR w (.slice A l.length cap) l.length 5 (hsCells l)) (g : Nat) (s : ByteArray) (hg : w.cell? ⟨g, 0, none⟩ = some (.string s)) :
    Calls Tryz.prog 73 #[.slice A l.length cap, .func (.func 74) #[] #[.pointer (some ⟨g, 0, none⟩)]] w fun r w' =>
      (∃ z : Int, r = .returned (.int .i64 z) ∧ ((∃ (k : Nat) (x : Hs), z = (k : Int) ∧ l[k]? = some x ∧ l.find? (fun h => decide (h.name = s)) = some x) ∨ (z = -1 ∧ l.find? (fun h => decide (h.name = s)) = none))) ∧ Below w.heap.size w w' := by
  have eg : ∀ args w, (callFunc 74 args).run Tryz.prog w = .ok (.enter 74 args) w := enters_of Tryz.func74 (by kernel_rfl) rfl
  have h := ixHs_any (cap := cap) hl _ (fun k => match l[k]? with | some x => decide (x.name = s) | none => false) hr.cellsAt 74 #[.pointer (some ⟨g, 0, none⟩)] eg (fun k hk W hW => by
    have hx : l[k]? = some l[k] := List.getElem?_eq_getElem hk
    simp only [hx]
    rw [hs_at l k _ hx]
    exact host1_any g s ((hW.cell (p := ⟨g, 0, none⟩) (World.block_lt_of_cell? w _ hg)).trans hg) _ _ _ _ _)
  refine h.mono ?_
  rintro r w' ⟨⟨z, rfl, hz⟩, hb⟩
  refine ⟨⟨z, rfl, ?_⟩, hb⟩
  rcases hz with ⟨k, hk, rfl, hp, hn⟩ | ⟨rfl, hn⟩
  · have hx : l[k]? = some l[k] := List.getElem?_eq_getElem hk
    simp only [hx] at hp
    refine .inl ⟨k, l[k], rfl, hx, find_at hx hp (fun j y hj hy => ?_)⟩
    have := hn j hj
    simp only [hy] at this
    exact this
  · refine .inr ⟨rfl, find_none (fun j y hy => ?_)⟩
    have := hn j (List.getElem?_eq_some_iff.1 hy).1
    simp only [hy] at this
    exact this
/-- The place of a group that is told. -/
theorem ixGroup {w : World} {A : Option Addr} {xs : List (Nm × Value)} {cap : Nat} (hl : xs.length ≤ 4000000) (hr : RowR w (.slice A xs.length cap) xs.length 2 (nmCells (xs.map nmPair))) (hv : ∀ x ∈ xs, ∃ B n c, x.2 = .slice B n c) (g : Nat) (s : Sel) (hg : Blk w g 66 s.cells) :
    Calls Tryz.prog 78 #[.slice A xs.length cap, .func (.func 79) #[] #[.pointer (some ⟨g, 0, none⟩)]] w fun r w' =>
      (∃ z : Int, r = .returned (.int .i64 z) ∧ ((∃ (k : Nat) (x : Nm × Value), z = (k : Int) ∧ xs[k]? = some x ∧ xs.find? (fun h => decide (h.1.name = s.name)) = some x) ∨ (z = -1 ∧ xs.find? (fun h => decide (h.1.name = s.name)) = none))) ∧ Below w.heap.size w w' := by
  have eg : ∀ args w, (callFunc 79 args).run Tryz.prog w = .ok (.enter 79 args) w := enters_of Tryz.func79 (by kernel_rfl) rfl
  have h := ixNm_any (cap := cap) hl _ (fun k => match xs[k]? with | some x => decide (x.1.name = s.name) | none => false) hr.cellsAt 79 #[.pointer (some ⟨g, 0, none⟩)] eg (fun k hk W hW => by
    have hx : xs[k]? = some xs[k] := List.getElem?_eq_getElem hk
    obtain ⟨B, n, c, e⟩ := hv xs[k] (List.getElem_mem hk)
    have hm : (xs.map nmPair)[k]? = some (nmPair xs[k]) := by rw [List.getElem?_map, hx]; rfl
    simp only [hx]
    rw [nm_at _ k _ hm]
    unfold nmPair
    simp only
    rw [e]
    exact picks3_any g s (hg.below hW hg.lt) _ B n c)
  refine h.mono ?_
  rintro r w' ⟨⟨z, rfl, hz⟩, hb⟩
  refine ⟨⟨z, rfl, ?_⟩, hb⟩
  rcases hz with ⟨k, hk, rfl, hp, hn⟩ | ⟨rfl, hn⟩
  · have hx : xs[k]? = some xs[k] := List.getElem?_eq_getElem hk
    simp only [hx] at hp
    refine .inl ⟨k, xs[k], rfl, hx, find_at hx hp (fun j y hj hy => ?_)⟩
    have := hn j hj
    simp only [hy] at this
    exact this
  · refine .inr ⟨rfl, find_none (fun j y hy => ?_)⟩
    have := hn j (List.getElem?_eq_some_iff.1 hy).1
    simp only [hy] at this
    exact this
end Go.Proofs.YthglckoikjfjkaaGreatDoor

/- Whether a policy may be, as the program says it (May): the walk. -/
namespace Go.Proofs.YthglckoikjfjkaaGreatDoor
open Go.RowKit
attribute [local go_sem ↓] Go.wp_at_zero Go.wp_at_succ

theorem copied {w : World} {V : PoV} {p : Po} (h : PoRd w V p) : ∃ (Ag At Ah Aa : Option Addr) (cg ct ch ca : Nat), V = ⟨.slice Ag p.groups.length cg, .slice At p.tags.length ct, .slice Ah p.hosts.length ch, .slice Aa p.acls.length ca⟩ := by
  obtain ⟨gv, tv, hv, av⟩ := V
  obtain ⟨Ag, cg, eg⟩ := h.g.shape
  obtain ⟨At, ct, et⟩ := h.t.shape
  obtain ⟨Ah, ch, eh⟩ := h.h.shape
  obtain ⟨Aa, ca, ea⟩ := h.a.shape
  simp only at eg et eh ea
  subst eg et eh ea
  exact ⟨Ag, At, Ah, Aa, cg, ct, ch, ca, rfl⟩

set_option maxHeartbeats 8000000 in
set_option maxRecDepth 100000 in
theorem pmay_any {w : World} (env : Env w) {V : PoV} {p : Po} (h : PoRd w V p) (hf : PoFit p) {T : ByteArray} {E : Nat} (ht : textR p = .tuple #[.string T, .int .i64 (E : Int)]) :
    Calls Tryz.prog 14 #[.agg #[V.g, V.t, V.h, V.a]] w (Got (.int .i64 (E : Int)) w) := by
  have htx := fun u (hu : Below w.heap.size w u) => policyText_any (env.below hu) (h.below hu) hf
  rw [ht] at htx
  obtain ⟨Ag, At, Ah, Aa, cg, ct, ch, ca, rfl⟩ := copied h
  simp only at htx ⊢
  generalize p.groups.length = NG at *
  generalize p.tags.length = NT at *
  generalize p.hosts.length = NH at *
  generalize p.acls.length = NA at *
  have HTx := Lib.hid htx
  clear h hf ht htx env
  have HQ := Lib.hid (Blk.new w 26 #[.slice Ag NG cg, .slice At NT ct, .slice Ah NH ch, .slice Aa NA ca])
  have HB := Lib.hid (boxed w (.cells #[.slice Ag NG cg, .slice At NT ct, .slice Ah NH ch, .slice Aa NA ca] 26))
  go_enter Tryz.func14, Tryz.ntmps14
  go_upto_region 1 with fail
  generalize w.alloc (.cells #[.slice Ag NG cg, .slice At NT ct, .slice Ah NH ch, .slice Aa NA ca] 26) = w1 at HQ HB ⊢
  generalize w.heap.size = Q at HQ ⊢
  have p0 := HQ.out.cell 0
  have p1 := HQ.out.cell 1
  have p2 := HQ.out.cell 2
  have p3 := HQ.out.cell 3
  simp at p0 p1 p2 p3
  go_wp2_with (go_at_call 31; (with_reducible refine (HTx.out _ HB.out).mono ?_); rintro r w2 ⟨rfl, d2⟩)
  go_ret
  exact ⟨rfl, after HB.out d2⟩

end Go.Proofs.YthglckoikjfjkaaGreatDoor

/- Rules: the prefix of a host that is told (host): the walk. -/
namespace Go.Proofs.YthglckoikjfjkaaGreatDoor
open Go.RowKit
attribute [local go_sem ↓] Go.wp_at_zero Go.wp_at_succ

theorem load4p {w : World} {g : Nat} {v0 v1 v2 v3 : Value} (h : Blk w g 64 #[v0, v1, v2, v3]) : (loadVar 64 ⟨g, 0, none⟩).run Tryz.prog w = .ok (.agg #[v0, v1, v2, v3]) w := by
  have c0 := h.cell 0
  have c1 := h.cell 1
  have c2 := h.cell 2
  have c3 := h.cell 3
  simp at c0 c1 c2 c3
  simp [loadVar, go_sem, c0, c1, c2, c3]
set_option maxHeartbeats 4000000 in
set_option maxRecDepth 100000 in
theorem host_any {w : World} {V : PoV} {p : Po} (h : PoRd w V p) (hl : p.hosts.length ≤ 4000000) (s : ByteArray) : Calls Tryz.prog 38 #[.agg #[V.g, V.t, V.h, V.a], .string s] w fun r w' => (∃ n : Pf, r = .returned (.tuple #[.agg n.cells, .bool (findH p s).isSome]) ∧ ∀ x, findH p s = some x → n = x.net) ∧ Below w.heap.size w w' := by
  have hr := h.h
  obtain ⟨Xg, Xt, Xh, Xa, ag, at', ah, aa, rfl⟩ := copied h
  simp only at hr ⊢
  have hix := fun u (hu : Below w.heap.size w u) g hg => ixHost (w := u) hl (hr.below hu) g s hg
  unfold findH
  generalize p.groups.length = NG
  generalize p.tags.length = NT
  generalize p.acls.length = NA
  generalize hL : p.hosts = l at *
  obtain ⟨NH, hNH⟩ : ∃ n, n = l.length := ⟨_, rfl⟩
  rw [← hNH] at hix ⊢
  have HI := Lib.hid hix
  have HR := Lib.hid hr
  have HN := Lib.hid hNH
  clear hix hr hNH h hl hL
  have HB := Lib.hid (three_boxed w (.cells #[.slice Xg NG ag, .slice Xt NT at', .slice Xh NH ah, .slice Xa NA aa] 26) (.cells #[.string s] 9) (.cells #[.bool false, .int .u64 0, .int .u64 0, .int .u8 0] 64))
  have hp := Blk.new w 26 #[.slice Xg NG ag, .slice Xt NT at', .slice Xh NH ah, .slice Xa NA aa]
  have HP := Lib.hid (hp.below (two_boxed _ (.cells #[.string s] 9) (.cells #[.bool false, .int .u64 0, .int .u64 0, .int .u8 0] 64)) hp.lt)
  have HS := Lib.hid (mid3 w (.cells #[.slice Xg NG ag, .slice Xt NT at', .slice Xh NH ah, .slice Xa NA aa] 26) (.cells #[.bool false, .int .u64 0, .int .u64 0, .int .u8 0] 64) 9 #[.string s])
  have hz := Blk.new ((w.alloc (.cells #[.slice Xg NG ag, .slice Xt NT at', .slice Xh NH ah, .slice Xa NA aa] 26)).alloc (.cells #[.string s] 9)) 64 #[.bool false, .int .u64 0, .int .u64 0, .int .u8 0]
  rw [show ((w.alloc (.cells #[.slice Xg NG ag, .slice Xt NT at', .slice Xh NH ah, .slice Xa NA aa] 26)).alloc (.cells #[.string s] 9)).heap.size = w.heap.size + 1 + 1 by simp] at hz
  have HZ := Lib.hid hz
  have GZ := Lib.hid (show w.heap.size ≤ w.heap.size + 1 + 1 by omega)
  clear hp hz
  go_enter Tryz.func38, Tryz.ntmps38
  go_upto_region 1 with fail
  generalize ((w.alloc (.cells #[.slice Xg NG ag, .slice Xt NT at', .slice Xh NH ah, .slice Xa NA aa] 26)).alloc (.cells #[.string s] 9)).alloc (.cells #[.bool false, .int .u64 0, .int .u64 0, .int .u8 0] 64) = w3 at HB HP HS HZ ⊢
  generalize w.heap.size + 1 + 1 = Z at HZ GZ ⊢
  generalize w.heap.size + 1 = G at HS ⊢
  generalize hP : w.heap.size = P at HP ⊢
  have HPe := Lib.hid hP
  clear hP
  have p2 := HP.out.cell 2
  simp at p2
  have hs0 := HS.out.cell 0
  simp at hs0
  have HS0 := Lib.hid hs0
  clear hs0
  go_upto_region 2 with (go_at_call 73; (with_reducible refine (HI.out _ HB.out _ HS0.out).mono ?_); rintro r w4 ⟨⟨z, rfl, hz⟩, d4⟩)
  have HB4 := Lib.hid (after HB.out d4)
  have HP4 := Lib.hid (HP.out.below d4 HP.out.lt)
  have HZ4 := Lib.hid (HZ.out.below d4 HZ.out.lt)
  clear p2 HP HS HZ HB HS0 d4
  have z0 := HZ4.out.cell 0
  have z1 := HZ4.out.cell 1
  have z2 := HZ4.out.cell 2
  have z3 := HZ4.out.cell 3
  simp at z0 z1 z2 z3
  have f0 := HZ4.out.frozen 0
  have f1 := HZ4.out.frozen 1
  have f2 := HZ4.out.frozen 2
  have f3 := HZ4.out.frozen 3
  rcases hz with ⟨k, x, rfl, hx, hf⟩ | ⟨rfl, hf⟩
  · have HF := Lib.hid hf
    have hk : k < l.length := (List.getElem?_eq_some_iff.1 hx).1
    obtain ⟨A', cap', e, hlen, hc⟩ := HR.out
    injection e with e1 e2 e3
    subst e1 e3
    obtain ⟨q, o, rfl, hcell⟩ := hc (by omega)
    obtain ⟨c0, c1, c2, c3, c4⟩ := hsCells_at l k x hx
    have y1 := hcell _ _ c1
    have y2 := hcell _ _ c2
    have y3 := hcell _ _ c3
    have y4 := hcell _ _ c4
    have d1 := (HB4.out.cell (World.block_lt_of_cell? w _ y1)).trans y1
    have d2 := (HB4.out.cell (World.block_lt_of_cell? w _ y2)).trans y2
    have d3 := (HB4.out.cell (World.block_lt_of_cell? w _ y3)).trans y3
    have d4 := (HB4.out.cell (World.block_lt_of_cell? w _ y4)).trans y4
    rw [← Nat.add_assoc] at d1 d2 d3 d4
    have p2 := HP4.out.cell 2
    simp at p2
    have hkN : k < NH := by have := HN.out; omega
    clear hf hx c0 c1 c2 c3 c4 y1 y2 y3 y4 hc hcell hlen hk
    obtain ⟨nm, ⟨⟨v6, xh, xl⟩, nb⟩⟩ := x
    simp only at d1 d2 d3 d4
    have HE := Lib.hid ((((HZ4.out.set_ 0 (.bool v6)).set_ 1 (.int .u64 (xh : Int))).set_ 2 (.int .u64 (xl : Int))).set_ 3 (.int .u8 (nb : Int)))
    have HBE := Lib.hid ((((HB4.out.setCell (p := ⟨Z, 0, none⟩) GZ.out (.bool v6)).setCell (p := ⟨Z, 1, none⟩) GZ.out (.int .u64 (xh : Int))).setCell (p := ⟨Z, 2, none⟩) GZ.out (.int .u64 (xl : Int))).setCell (p := ⟨Z, 3, none⟩) GZ.out (.int .u8 (nb : Int)))
    go_wp2_with fail
    try simp only [Exit.inBlock, Exit.then]
    exact bodyPost_ret (results_ct rfl rfl rfl (load4p HE.out)) rfl ⟨⟨⟨⟨v6, xh, xl⟩, nb⟩, by rw [HF.out]; rfl, fun y hy => by rw [HF.out] at hy; injection hy with hy; rw [← hy]⟩, HBE.out⟩
  · have HF := Lib.hid hf
    clear hf
    have HE := Lib.hid ((((HZ4.out.set_ 0 (.bool false)).set_ 1 (.int .u64 0)).set_ 2 (.int .u64 0)).set_ 3 (.int .u8 0))
    have HBE := Lib.hid ((((HB4.out.setCell (p := ⟨Z, 0, none⟩) GZ.out (.bool false)).setCell (p := ⟨Z, 1, none⟩) GZ.out (.int .u64 0)).setCell (p := ⟨Z, 2, none⟩) GZ.out (.int .u64 0)).setCell (p := ⟨Z, 3, none⟩) GZ.out (.int .u8 0))
    go_wp2_with fail
    try simp only [Exit.inBlock, Exit.then]
    exact bodyPost_ret (results_ct rfl rfl rfl (load4p HE.out)) rfl ⟨⟨Pf.zero, by rw [HF.out]; rfl, fun y hy => by rw [HF.out] at hy; cases hy⟩, HBE.out⟩
end Go.Proofs.YthglckoikjfjkaaGreatDoor

/- Rules: is a port meant? (the closure of by): the walk. -/
namespace Go.Proofs.YthglckoikjfjkaaGreatDoor
open Go.RowKit
attribute [local go_sem ↓] Go.wp_at_zero Go.wp_at_succ

set_option maxHeartbeats 4000000 in
set_option maxRecDepth 100000 in
theorem by1_any {w : World} (g f : Nat) (C : Bool) (hg : w.cell? ⟨g, 0, none⟩ = some (.bool C)) (z : Nat) (hf : w.cell? ⟨f, 8, none⟩ = some (.int .u16 (z : Int))) (a b : Nat) :
    Calls Tryz.prog 57 #[.agg #[.int .u16 (a : Int), .int .u16 (b : Int)], .pointer (some ⟨g, 0, none⟩), .pointer (some ⟨f, 0, none⟩)] w (Got (.bool (C && decide (a ≤ z) && decide (z ≤ b))) w) := by
  have hb := boxed w (.cells #[.int .u16 (a : Int), .int .u16 (b : Int)] 68)
  have g0 := (hb.cell (p := ⟨g, 0, none⟩) (World.block_lt_of_cell? w _ hg)).trans hg
  have t0 := (hb.cell (p := ⟨f, 8, none⟩) (World.block_lt_of_cell? w _ hf)).trans hf
  have HP := Lib.hid (Blk.new w 68 #[.int .u16 (a : Int), .int .u16 (b : Int)])
  have HB := Lib.hid hb
  clear hg hf hb
  go_enter Tryz.func57, Tryz.ntmps57
  go_upto_region 1 with fail
  generalize w.alloc (.cells #[.int .u16 (a : Int), .int .u16 (b : Int)] 68) = w1 at *
  generalize w.heap.size = B at HP ⊢
  have p0 := HP.out.cell 0
  have p1 := HP.out.cell 1
  simp at p0 p1
  by_cases h1 : a ≤ z <;> by_cases h2 : z ≤ b <;> cases C
  all_goals
    go_wp2_with fail
    go_ret
    exact ⟨by simp_all, HB.out⟩
end Go.Proofs.YthglckoikjfjkaaGreatDoor

/- Rules: whom a selector means (picks): the walks. -/
namespace Go.Proofs.YthglckoikjfjkaaGreatDoor
open Go.RowKit
attribute [local go_sem ↓] Go.wp_at_zero Go.wp_at_succ

theorem cellB {w u : World} {a : Addr} {v : Value} (h : w.cell? a = some v) (hb : Below w.heap.size w u) : u.cell? a = some v := (hb.cell (World.block_lt_of_cell? w _ h)).trans h
theorem Below.drew_ {n : Nat} {w u : World} (h : Below n w u) : Below n w u.drew := ⟨h.os, h.tape, h.output, h.size, h.block⟩
theorem Below.of_drew {w u : World} (h : Below w.drew.heap.size w.drew u) : Below w.heap.size w u := ⟨h.os, h.tape, h.output, h.size, h.block⟩

set_option maxHeartbeats 4000000 in
set_option maxRecDepth 100000 in
theorem picks4_any {w : World} {V : PoV} (gp gi : Nat) {xs : List (Nm × Value)} (hp : Blk w gp 26 V.cells) {A : Option Addr} {cap : Nat} (hV : V.g = .slice A xs.length cap) (hr : RowR w V.g xs.length 2 (nmCells (xs.map nmPair)))
    (hxs : ∀ x ∈ xs, RowR w x.2 x.1.list.length 1 (strCells x.1.list)) (hll : ∀ x ∈ xs, x.1.list.length ≤ 4000000) (hxl : xs.length ≤ 4000000) (k : Nat) {x : Nm × Value} (hk : xs[k]? = some x) (hi : w.cell? ⟨gi, 0, none⟩ = some (.int .i64 (k : Int))) {X : PeV} (hX : PeMem w X) :
    Calls Tryz.prog 80 #[.agg X.cells, .pointer (some ⟨gp, 0, none⟩), .pointer (some ⟨gi, 0, none⟩)] w (Got (.bool (x.1.list.any fun t => decide (t = X.x.user))) w) := by
  have hm := List.mem_of_getElem? hk
  have hc := fun u (hu : Below w.heap.size w u) => cnS_any x.1.list (hll x hm) ((hxs x hm).below hu) X.x.user
  generalize (x.1.list.any fun t => decide (t = X.x.user)) = D at hc ⊢
  obtain ⟨B, bc, eB⟩ := (hxs x hm).shape
  rw [hV] at hr
  obtain ⟨A', cap', e, hlen, hcell⟩ := hr
  injection e with e1 _ e3
  subst e1 e3
  have hkl := (List.getElem?_eq_some_iff.1 hk).1
  obtain ⟨q, o, rfl, hcc⟩ := hcell (by omega)
  have hmm : (xs.map nmPair)[k]? = some (nmPair x) := by rw [List.getElem?_map, hk]; rfl
  have c1 := hcc _ _ (nmCells_at _ k _ hmm).2
  rw [show (nmPair x).2 = x.2 from rfl, eB, ← Nat.add_assoc] at c1
  have a0 := hp.cell 0
  simp [PoV.cells] at a0
  rw [hV] at a0
  rw [eB] at hc
  clear hmm hcc hcell hlen hxs hll hV hm hk hp eB
  generalize xs.length = N at *
  generalize x.1.list.length = NB at *
  have HC := Lib.hid hc
  clear hc
  obtain ⟨A1, c1', e1, _, _⟩ := hX.tags
  obtain ⟨A2, c2', e2, _, _⟩ := hX.addrs
  obtain ⟨A3, n3, c3', e3⟩ := hX.ends
  obtain ⟨⟨us, tags, addrs⟩, key, disco, tg, ad, ex, relay, en⟩ := X
  simp only at *
  subst e1 e2 e3
  unfold PeV.cells
  simp only
  generalize tags.length = TL at *
  generalize addrs.length = AL at *
  clear hX
  have HP := Lib.hid (Blk.new w 53 #[.string key, .string disco, .string us, .slice A1 TL c1', .slice A2 AL c2', .int .u64 (ex : Int), .int .u8 (relay : Int), .slice A3 n3 c3'])
  have hb := boxed w (.cells #[.string key, .string disco, .string us, .slice A1 TL c1', .slice A2 AL c2', .int .u64 (ex : Int), .int .u8 (relay : Int), .slice A3 n3 c3'] 53)
  replace a0 := cellB a0 hb
  have a1 := cellB hi hb
  have a2 := cellB c1 hb
  have HB := Lib.hid hb
  clear hi c1 hb
  go_enter Tryz.func80, Tryz.ntmps80
  go_upto_region 1 with fail
  generalize w.alloc (.cells #[.string key, .string disco, .string us, .slice A1 TL c1', .slice A2 AL c2', .int .u64 (ex : Int), .int .u8 (relay : Int), .slice A3 n3 c3'] 53) = w1 at HP HB a0 a1 a2 ⊢
  generalize w.heap.size = P at HP ⊢
  have a3 := HP.out.cell 2
  simp at a3
  refine wp_region_held_drew (S := (fun w' => w'.cell? ⟨gp, 0, none⟩ = some (.slice (some ⟨q, o, none⟩) N cap) ∧ w'.cell? ⟨gi, 0, none⟩ = some (.int .i64 (k : Int)) ∧ w'.cell? ⟨q, o + k * 2 + 1, none⟩ = some (.slice B NB bc) ∧ w'.cell? ⟨P, 2, none⟩ = some (.string us))) (by kernel_rfl) (⟨a0, a1, a2, a3⟩) (fun hHeld => ?_)
  refine' wpAnyH_take (i := 0) (v := _) rfl (by kernel_rfl) (by kernel_rfl) (by kernel_rfl) (fun _ _ _ h => h) (Or.inl ⟨by rfl, ?ly1⟩) (by assumption) ?lrest1
  case ly1 =>
    intro w hSw
    try dsimp only at hSw
    go_simp
    try with_reducible rfl
  try simp only [Act.put, List.setIfInBounds_toArray, List.set_cons_zero, List.set_cons_succ, List.getElem_toArray, List.getElem_cons_zero, List.getElem_cons_succ]
  refine' wpAnyH_take (i := 1) (v := _) rfl (by kernel_rfl) (by kernel_rfl) (by kernel_rfl) (fun _ _ _ h => h) (Or.inl ⟨by rfl, ?ly2⟩) (by assumption) ?lrest2
  case ly2 =>
    intro w hSw
    try dsimp only at hSw
    go_simp
    try with_reducible rfl
  try simp only [Act.put, List.setIfInBounds_toArray, List.set_cons_zero, List.set_cons_succ, List.getElem_toArray, List.getElem_cons_zero, List.getElem_cons_succ]
  refine' wpAnyH_take (i := 2) (v := _) rfl (by kernel_rfl) (by kernel_rfl) (by kernel_rfl) (fun _ _ _ h => h) (Or.inl ⟨by rfl, ?ly3⟩) (by assumption) ?lrest3
  case ly3 =>
    intro w hSw
    try dsimp only at hSw
    go_simp
    try with_reducible rfl
  try simp only [Act.put, List.setIfInBounds_toArray, List.set_cons_zero, List.set_cons_succ, List.getElem_toArray, List.getElem_cons_zero, List.getElem_cons_succ]
  refine' wpAnyH_take (i := 3) (v := _) rfl (by kernel_rfl) (by kernel_rfl) (by kernel_rfl) (fun _ _ _ h => h) (Or.inl ⟨by rfl, ?ly4⟩) (by assumption) ?lrest4
  case ly4 =>
    intro w hSw
    try dsimp only at hSw
    go_simp
    try with_reducible rfl
  try simp only [Act.put, List.setIfInBounds_toArray, List.set_cons_zero, List.set_cons_succ, List.getElem_toArray, List.getElem_cons_zero, List.getElem_cons_succ]
  refine' wpAnyH_take (i := 4) (v := _) rfl (by kernel_rfl) (by kernel_rfl) (by kernel_rfl) (fun _ _ _ h => h) (Or.inl ⟨by rfl, ?ly5⟩) (by assumption) ?lrest5
  case ly5 =>
    intro w hSw
    try dsimp only at hSw
    go_simp
    try with_reducible rfl
  try simp only [Act.put, List.setIfInBounds_toArray, List.set_cons_zero, List.set_cons_succ, List.getElem_toArray, List.getElem_cons_zero, List.getElem_cons_succ]
  refine' wpAnyH_take (i := 5) (v := _) rfl (by kernel_rfl) (by kernel_rfl) (by kernel_rfl) (fun _ _ _ h => h) (Or.inl ⟨by rfl, ?ly6⟩) (by assumption) ?lrest6
  case ly6 =>
    intro w hSw
    try dsimp only at hSw
    go_simp
    try with_reducible rfl
  try simp only [Act.put, List.setIfInBounds_toArray, List.set_cons_zero, List.set_cons_succ, List.getElem_toArray, List.getElem_cons_zero, List.getElem_cons_succ]
  refine' wpAnyH_take (i := 6) (v := _) rfl (by kernel_rfl) (by kernel_rfl) (by kernel_rfl) (fun _ _ _ h => h) (Or.inl ⟨by rfl, ?ly7⟩) (by assumption) ?lrest7
  case ly7 =>
    intro w hSw
    try dsimp only at hSw
    go_simp
    try with_reducible rfl
  try simp only [Act.put, List.setIfInBounds_toArray, List.set_cons_zero, List.set_cons_succ, List.getElem_toArray, List.getElem_cons_zero, List.getElem_cons_succ]
  refine' wpAnyH_take (i := 7) (v := _) rfl (by kernel_rfl) (by kernel_rfl) (by kernel_rfl) (fun _ _ _ h => h) (Or.inl ⟨by rfl, ?ly8⟩) (by assumption) ?lrest8
  case ly8 =>
    intro w hSw
    try dsimp only at hSw
    go_simp
    try with_reducible rfl
  try simp only [Act.put, List.setIfInBounds_toArray, List.set_cons_zero, List.set_cons_succ, List.getElem_toArray, List.getElem_cons_zero, List.getElem_cons_succ]
  refine wpAnyH_ready (rs := [8]) (by kernel_rfl) (by simp) ?_
  refine AllReadyH.cons rfl (fun K hK => ?_) AllReadyH.nil
  go_simp
  refine (HC.out _ (Below.drew_ HB.out)).mono ?_
  rintro r wb ⟨rfl, db⟩
  have eb := Below.of_drew db
  clear db
  refine hK.out _ _ (⟨cellB a0 eb, cellB a1 eb, cellB a2 eb, cellB a3 eb⟩) (fun hHeld => ?_)
  clear hK K
  try simp only [Act.put, List.setIfInBounds_toArray, List.set_cons_zero, List.set_cons_succ, List.getElem_toArray, List.getElem_cons_zero, List.getElem_cons_succ]
  refine' wpAnyH_take (i := 9) (v := _) rfl (by kernel_rfl) (by kernel_rfl) (by kernel_rfl) (fun _ _ _ h => h) (Or.inl ⟨by rfl, ?ly10⟩) (by assumption) ?lrest10
  case ly10 =>
    intro w hSw
    try dsimp only at hSw
    go_simp
    try with_reducible rfl
  try simp only [Act.put, List.setIfInBounds_toArray, List.set_cons_zero, List.set_cons_succ, List.getElem_toArray, List.getElem_cons_zero, List.getElem_cons_succ]
  refine wpAnyH_done (by kernel_rfl) ?_ _
  go_wp2_with fail
  go_ret
  exact ⟨rfl, after HB.out eb⟩

/-- A test of nodes as a value: what it says of a node that lies in memory. -/
def PicksAt (w : World) (p : Po) (s : Sel) (v : Value) : Prop := ∃ (f : Nat) (lb : Array Value), v = .func (.func f) #[] lb ∧ (∀ args w, (callFunc f args).run Tryz.prog w = .ok (.enter f args) w) ∧
  ∀ W, Below w.heap.size w W → ∀ X : PeV, PeMem W X → Calls Tryz.prog f (#[.agg X.cells] ++ lb) W (Got (.bool (picksP p s X.x)) W)
theorem PicksAt.below {w u : World} {p : Po} {s : Sel} {v : Value} (h : PicksAt w p s v) (hb : Below w.heap.size w u) : PicksAt u p s v := by
  obtain ⟨f, lb, e, eg, hc⟩ := h
  exact ⟨f, lb, e, eg, fun W hW => hc W (after hb hW)⟩
theorem picksAt1 {w : World} {p : Po} {s : Sel} {g : Nat} (hg : Blk w g 66 s.cells) (hk : s.kind = 2) : PicksAt w p s (.func (.func 75) #[] #[.pointer (some ⟨g, 0, none⟩)]) :=
  ⟨_, _, rfl, enters_of Tryz.func75 (by kernel_rfl) rfl, fun W hW X hX => by
    have := picks1_any g s (hg.below hW hg.lt) hX
    rw [show picksP p s X.x = decide (X.x.user = s.name) by unfold picksP; rw [if_pos hk]]
    exact this⟩
theorem picksAt2 {w : World} {p : Po} {s : Sel} {g : Nat} (hg : Blk w g 66 s.cells) (hk : s.kind = 4) : PicksAt w p s (.func (.func 76) #[] #[.pointer (some ⟨g, 0, none⟩)]) :=
  ⟨_, _, rfl, enters_of Tryz.func76 (by kernel_rfl) rfl, fun W hW X hX => by
    have := picks2_any g s (hg.below hW hg.lt) hX
    rw [show picksP p s X.x = X.x.tags.any fun t => decide (t = s.name) by unfold picksP; rw [if_neg (by omega), if_pos hk]]
    exact this⟩
theorem picksAt5 {w : World} {p : Po} {s : Sel} (hk : ∀ x, picksP p s x = false) : PicksAt w p s (.func (.func 81) #[] #[]) :=
  ⟨_, _, rfl, enters_of Tryz.func81 (by kernel_rfl) rfl, fun W hW X hX => by
    have := picks5_any hX
    rw [hk X.x]
    exact this⟩
end Go.Proofs.YthglckoikjfjkaaGreatDoor
