/- Joined out of: RwL RxO. -/
import Derived.Test.YthglckoikjfjkaaGreatDoorSap
import Derived.Test.YthglckoikjfjkaaGreatDoorSao
set_option linter.unusedVariables false
set_option linter.unusedSimpArgs false

/- The program's copies of rows (slices.Clone, Copy$1): the walks. -/
namespace Go.Proofs.YthglckoikjfjkaaGreatDoor
open Go.RowKit
attribute [local go_sem ↓] Go.wp_at_zero Go.wp_at_succ

def ClonR (e : TypeId) (size n : Nat) (xs : List Value) (w : World) (r : Ending) (w' : World) : Prop := (∃ A c, r = .returned (.slice A n c) ∧ w'.ownsRow w.heap.size e size (.slice A n c) n xs) ∧ Below w.heap.size w w'
theorem row_news {w : World} {a : Addr} {n cap size : Nat} {xs : List Value} (h : RowR w (.slice (some a) n cap) n size xs) : xs.length = n * size ∧ ∀ j u, xs[j]? = some u → w.cell? (a.add j) = some u := by
  obtain ⟨A', cap', e, hl, hc⟩ := h
  injection e with e1 _ e2
  subst e1
  refine ⟨hl, fun j u hu => ?_⟩
  rcases Nat.eq_zero_or_pos n with h | h
  · subst h
    have hx : xs = [] := List.eq_nil_of_length_eq_zero (by simpa using hl)
    rw [hx] at hu
    cases hu
  · obtain ⟨g, o, e1, hcc⟩ := hc h
    injection e1 with e1
    subst e1
    rw [addr_add]
    exact hcc j u hu
theorem row_none {w : World} {n cap size : Nat} {xs : List Value} (h : RowR w (.slice none n cap) n size xs) : n = 0 ∧ xs = [] := by
  obtain ⟨A', cap', e, hl, hc⟩ := h
  injection e with e1 _ e2
  subst e1
  rcases Nat.eq_zero_or_pos n with h | h
  · subst h
    exact ⟨rfl, List.eq_nil_of_length_eq_zero (by simpa using hl)⟩
  · obtain ⟨g, o, e1, _⟩ := hc h
    cases e1
theorem below_cell'' {w u : World} {a : Addr} {v : Value} (h : w.cell? a = some v) (hb : Below w.heap.size w u) : u.cell? a = some v := (hb.cell (World.block_lt_of_cell? w _ h)).trans h
set_option maxHeartbeats 8000000 in
set_option maxRecDepth 100000 in
theorem clone_u8 {w : World} {v : Value} {n : Nat} {xs : List Value} (h : RowR w v n 1 xs) (hn : n ≤ 2000000) (h1 : ∀ u ∈ xs, u.oneCell' = true) : Calls Tryz.prog 35 #[v] w (ClonR 5 1 n xs w) := by
  obtain ⟨A, cap, rfl⟩ := h.shape
  cases A with
  | none =>
    obtain ⟨rfl, rfl⟩ := row_none h
    clear h
    have e1 : ∀ W, (binOp .eql 57 (.slice none 0 cap) (.slice none 0 0)).run Tryz.prog W = .ok (.bool true) W := fun _ => by kernel_rfl
    go_enter Tryz.func35, Tryz.ntmps35
    go_wp2_with fail
    go_ret
    exact ⟨⟨none, 0, rfl, World.ownsRow_nil _ _ _ _⟩, Below.refl _ _⟩
  | some a =>
    obtain ⟨hl, hnews⟩ := row_news h
    obtain ⟨i0, hi, hz0, hz1, hz2⟩ := info_parts info_u8p
    have HB := Lib.hid (boxed w (.cells #[] 5))
    have HO := Lib.hid (World.ownsRow_lit (e := 5) (size := 1) (base := w.heap.size) w #[] 0 (Nat.le_refl _) (by unfold maxLen; omega) rfl)
    have HNw := Lib.hid fun j u hu => below_cell'' (hnews j u hu) HB.out
    have HL := Lib.hid hl
    have H1 := Lib.hid h1
    clear h hl hnews h1
    have e1 : ∀ W, (binOp .eql 57 (.slice (some a) n cap) (.slice none 0 0)).run Tryz.prog W = .ok (.bool false) W := fun _ => by kernel_rfl
    go_enter Tryz.func35, Tryz.ntmps35
    go_wp2_with (at_builtin; refine wpList_append_own _ rfl _ _ 57 rfl w.heap.size 5 i0 (.int .u8 0) 1 1 Tryz.underlying57 hi hz0 hz1 hz2 rfl (by decide) _ 0 [] rfl HO.out a n cap xs rfl HL.out HNw.out H1.out (by unfold maxLen; omega) (by omega) (by simp) ?_; intro v' w' ho hg hnil; obtain ⟨A5, c5, rfl⟩ := own_shape ho; rw [Nat.zero_add] at ho; have HOw := Lib.hid ho; have HBz := Lib.hid (HB.out.grown hg HB.out.size (fun q hq => (HO.out.lt q hq).1)); clear ho hg hnil)
    go_ret
    exact ⟨⟨A5, c5, rfl, by have := HOw.out; rw [List.nil_append] at this; exact this⟩, HBz.out⟩
set_option maxHeartbeats 8000000 in
set_option maxRecDepth 100000 in
theorem clone_po {w : World} {v : Value} {n : Nat} {xs : List Value} (h : RowR w v n 2 xs) (hn : n ≤ 2000000) (h1 : ∀ u ∈ xs, u.oneCell' = true) : Calls Tryz.prog 83 #[v] w (ClonR 68 2 n xs w) := by
  obtain ⟨A, cap, rfl⟩ := h.shape
  cases A with
  | none =>
    obtain ⟨rfl, rfl⟩ := row_none h
    clear h
    have e1 : ∀ W, (binOp .eql 59 (.slice none 0 cap) (.slice none 0 0)).run Tryz.prog W = .ok (.bool true) W := fun _ => by kernel_rfl
    go_enter Tryz.func83, Tryz.ntmps83
    go_wp2_with fail
    go_ret
    exact ⟨⟨none, 0, rfl, World.ownsRow_nil _ _ _ _⟩, Below.refl _ _⟩
  | some a =>
    obtain ⟨hl, hnews⟩ := row_news h
    obtain ⟨i0, hi, hz0, hz1, hz2⟩ := info_parts info_po
    have HB := Lib.hid (boxed w (.cells #[] 68))
    have HO := Lib.hid (World.ownsRow_lit (e := 68) (size := 2) (base := w.heap.size) w #[] 0 (Nat.le_refl _) (by unfold maxLen; omega) rfl)
    have HNw := Lib.hid fun j u hu => below_cell'' (hnews j u hu) HB.out
    have HL := Lib.hid hl
    have H1 := Lib.hid h1
    clear h hl hnews h1
    have e1 : ∀ W, (binOp .eql 59 (.slice (some a) n cap) (.slice none 0 0)).run Tryz.prog W = .ok (.bool false) W := fun _ => by kernel_rfl
    go_enter Tryz.func83, Tryz.ntmps83
    go_wp2_with (at_builtin; refine wpList_append_own _ rfl _ _ 59 rfl w.heap.size 68 i0 (.agg #[.int .u16 0, .int .u16 0]) 2 4 Tryz.underlying59 hi hz0 hz1 hz2 rfl (by decide) _ 0 [] rfl HO.out a n cap xs rfl HL.out HNw.out H1.out (by unfold maxLen; omega) (by omega) (by simp) ?_; intro v' w' ho hg hnil; obtain ⟨A5, c5, rfl⟩ := own_shape ho; rw [Nat.zero_add] at ho; have HOw := Lib.hid ho; have HBz := Lib.hid (HB.out.grown hg HB.out.size (fun q hq => (HO.out.lt q hq).1)); clear ho hg hnil)
    go_ret
    exact ⟨⟨A5, c5, rfl, by have := HOw.out; rw [List.nil_append] at this; exact this⟩, HBz.out⟩
end Go.Proofs.YthglckoikjfjkaaGreatDoor

/- Rules: an accept's numbers (protos); is a protocol meant, and a port? (by): the walks. -/
namespace Go.Proofs.YthglckoikjfjkaaGreatDoor
open Go.RowKit
attribute [local go_sem ↓] Go.wp_at_zero Go.wp_at_succ

theorem proto_one (l : List Nat) : ∀ u ∈ protoCells l, u.oneCell' = true := by
  intro u hu
  obtain ⟨x, _, rfl⟩ := List.mem_map.1 hu
  rfl
set_option maxHeartbeats 4000000 in
set_option maxRecDepth 100000 in
theorem rprotos_any {w : World} {v : Value} (l : List Nat) (hr : RowR w v l.length 1 (protoCells l)) (hl : l.length ≤ 2000000) :
    Calls Tryz.prog 16 #[v] w fun r w' => (∃ v', r = .returned v' ∧ World.ownsRow w' w.heap.size 5 1 v' (protosR l).length (protoCells (protosR l))) ∧ Below w.heap.size w w' := by
  have hcl := clone_u8 hr (by omega) (proto_one l)
  have hcn : ∀ u, Below w.heap.size w u → Calls Tryz.prog 36 #[v, .int .u8 1] u (Got (.bool (l.any fun y => decide (y = 1))) u) := fun u hu => cnU_any l (by omega) (hr.below hu) 1
  obtain ⟨A, cap, rfl⟩ := hr.shape
  have HCl := Lib.hid hcl
  obtain ⟨i0, hi, hz0, hz1, hz2⟩ := info_parts info_u8p
  by_cases h1 : 1 ∈ l
  · have ha : (l.any fun y => decide (y = 1)) = true := List.any_eq_true.2 ⟨1, h1, by decide⟩
    rw [ha] at hcn
    have hP : protosR l = l ++ [58] := by unfold protosR; rw [if_pos h1]
    rw [hP]
    have HCn := Lib.hid hcn
    obtain ⟨NL, hNL⟩ : ∃ n, n = l.length := ⟨_, rfl⟩
    rw [← hNL] at hl HCl HCn ⊢
    have HNL := Lib.hid hNL
    clear hcl hcn hr ha hP h1 hNL
    go_enter Tryz.func16, Tryz.ntmps16
    go_upto_region 3 with (first
      | (go_at_call 35; (with_reducible refine HCl.out.mono ?_); rintro r w2 ⟨⟨A2, c2, rfl, ho⟩, d2⟩)
      | (go_at_call 36; (with_reducible refine (HCn.out _ d2).mono ?_); rintro r w3 ⟨rfl, d3⟩))
    have hown := Lib.hid (own_below ho d3)
    have HB := Lib.hid (after d2 d3)
    have hsz := d3.size
    have hsz2 := d2.size
    clear ho d2 d3 HCl HCn
    go_wp2_with (at_builtin; refine wpList_append_own _ rfl _ _ 57 rfl w.heap.size 5 i0 (.int .u8 0) 1 1 Tryz.underlying57 hi hz0 hz1 hz2 rfl (by decide) _ NL _ rfl (hown.out.alloc _) ⟨w3.heap.size, 0, none⟩ 1 1 [.int .u8 58] rfl rfl (cell_one_new _ _ _) (fun x hx => by simp at hx; subst hx; rfl) (by unfold maxLen; omega) (by omega) (by have := HB.out.size; simp; omega) ?_; intro v' w4 hown' hgrow3 hnil3; have Ho4 := Lib.hid hown'; have hbW := Lib.hid ((HB.out.alloc (HB.out.size) _).grown hgrow3 (by have := HB.out.size; simp; omega) (fun q hq => (hown.out.lt q hq).1)); clear hown' hgrow3 hnil3)
    go_ret
    refine ⟨⟨_, rfl, ?_⟩, hbW.out⟩
    rw [protoCells_snoc, List.length_append, ← HNL.out]
    exact Ho4.out
  · have ha : (l.any fun y => decide (y = 1)) = false := by
      rw [List.any_eq_false]
      intro y hy e
      rw [decide_eq_true_eq] at e
      rw [e] at hy
      exact h1 hy
    rw [ha] at hcn
    have hP : protosR l = l := by unfold protosR; rw [if_neg h1]
    rw [hP]
    have HCn := Lib.hid hcn
    clear hcl hcn hr ha hP h1
    go_enter Tryz.func16, Tryz.ntmps16
    go_wp2_with (first
      | (go_at_call 35; (with_reducible refine HCl.out.mono ?_); rintro r w2 ⟨⟨A2, c2, rfl, ho⟩, d2⟩)
      | (go_at_call 36; (with_reducible refine (HCn.out _ d2).mono ?_); rintro r w3 ⟨rfl, d3⟩))
    go_ret
    exact ⟨⟨_, rfl, own_below ho d3⟩, after d2 d3⟩

/- A flow's cells. -/
def Fw.cells (f : Fw) : Array Value := #[.int .u8 (f.proto : Int), .bool f.src.v6, .int .u64 (f.src.hi : Int), .int .u64 (f.src.lo : Int), .bool f.dst.v6, .int .u64 (f.dst.hi : Int), .int .u64 (f.dst.lo : Int), .int .u16 (f.sent : Int), .int .u16 (f.dport : Int)]
set_option maxHeartbeats 8000000 in
set_option maxRecDepth 100000 in
theorem by_any {w : World} {pv ov : Value} (ps : List Nat) (os : List (Nat × Nat)) (hp : RowR w pv ps.length 1 (protoCells ps)) (ho : RowR w ov os.length 2 (portCells os)) (hpl : ps.length ≤ 4000000) (hol : os.length ≤ 4000000) (f : Fw) :
    Calls Tryz.prog 28 #[pv, ov, .agg f.cells] w (Got (.bool (byP ps os f)) w) := by
  have hcn := fun u (hu : Below w.heap.size w u) => cnU_any ps hpl (hp.below hu) f.proto
  have hco := fun u (hu : Below w.heap.size w u) g q (hg : u.cell? ⟨g, 0, none⟩ = some (.bool (counts f))) (hq : u.cell? ⟨q, 8, none⟩ = some (.int .u16 (f.dport : Int))) =>
    coPo_of (ho.below hu) hol (inPort f) 57 #[.pointer (some ⟨g, 0, none⟩), .pointer (some ⟨q, 0, none⟩)] (enters_of Tryz.func57 (by kernel_rfl) rfl)
      fun W hW x _ => by1_any g q (counts f) (cellB hg hW) f.dport (cellB hq hW) x.1 x.2
  obtain ⟨R, hR⟩ : ∃ r, r = byP ps os f := ⟨_, rfl⟩
  rw [← hR]
  unfold byP at hR
  have hC : counts f = (decide (f.proto = 6) || decide (f.proto = 17)) := rfl
  rw [show ps.isEmpty = decide (ps.length = 0) by cases ps <;> simp, show os.isEmpty = decide (os.length = 0) by cases os <;> simp] at hR
  generalize (ps.any fun x => decide (x = f.proto)) = D1 at hR hcn
  generalize os.any (inPort f) = D2 at hR hco
  generalize counts f = C at hC hco
  obtain ⟨Ap, cp, rfl⟩ := hp.shape
  obtain ⟨Ao, co, rfl⟩ := ho.shape
  generalize ps.length = NP at *
  generalize os.length = NO at *
  clear hp ho
  obtain ⟨pr, ⟨sv, sh, sl⟩, ⟨dv, dh, dl⟩, fs, ft⟩ := f
  unfold Fw.cells
  simp only at hcn hco hC ⊢
  have HCn := Lib.hid hcn
  have HCo := Lib.hid hco
  have HR := Lib.hid hR
  have hb := boxed w (.cells #[.int .u8 (pr : Int), .bool sv, .int .u64 (sh : Int), .int .u64 (sl : Int), .bool dv, .int .u64 (dh : Int), .int .u64 (dl : Int), .int .u16 (fs : Int), .int .u16 (ft : Int)] 43)
  have HF := Lib.hid (Blk.new w 43 #[.int .u8 (pr : Int), .bool sv, .int .u64 (sh : Int), .int .u64 (sl : Int), .bool dv, .int .u64 (dh : Int), .int .u64 (dl : Int), .int .u16 (fs : Int), .int .u16 (ft : Int)])
  have HB := Lib.hid hb
  clear hcn hco hR hb
  go_enter Tryz.func28, Tryz.ntmps28
  go_upto_region 1 with fail
  generalize w.alloc (.cells #[.int .u8 (pr : Int), .bool sv, .int .u64 (sh : Int), .int .u64 (sl : Int), .bool dv, .int .u64 (dh : Int), .int .u64 (dl : Int), .int .u16 (fs : Int), .int .u16 (ft : Int)] 43) = w1 at HF HB ⊢
  generalize w.heap.size = Q at HF ⊢
  have f0 := HF.out.cell 0
  simp at f0
  by_cases h6 : pr = 6
  · have e6 : ((pr : Int) == 6) = true := by simp; omega
    rw [decide_eq_true h6, Bool.true_or] at hC
    subst hC
    clear h6
    go_upto_region 2 with fail
    have hb2 := boxed w1 (.cells #[.bool true] 4)
    have HC0 := Lib.hid (show (w1.alloc (.cells #[.bool true] 4)).cell? ⟨w1.heap.size, 0, none⟩ = some (.bool true) from (Blk.new w1 4 #[.bool true]).cell 0)
    have HB2 := Lib.hid (after HB.out hb2)
    have HF2 := Lib.hid (HF.out.below hb2 HF.out.lt)
    clear f0 hb2 HF HB
    generalize w1.alloc (.cells #[.bool true] 4) = w2 at HC0 HB2 HF2 ⊢
    generalize w1.heap.size = G at HC0 ⊢
    go_upto_region 3 with (go_at_call 56; (with_reducible refine (HCo.out _ HB2.out _ _ HC0.out (HF2.out.cell 8)).mono ?_); rintro r w3 ⟨rfl, d3⟩)
    have HB3 := Lib.hid (after HB2.out d3)
    have f0 := (HF2.out.below d3 HF2.out.lt).cell 0
    simp at f0
    clear HC0 HB2 HF2 d3 HCo
    have HRR := HR.out
    by_cases hp0 : NP = 0
    · have q0 : ((NP : Int) == 0) = true := by simp; omega
      rw [decide_eq_true hp0, Bool.true_or, Bool.true_and] at HRR
      clear HR hp0
      by_cases ho0 : NO = 0
      · have q1 : ((NO : Int) == 0) = true := by simp; omega
        rw [decide_eq_true ho0, Bool.true_or] at HRR
        have HRZ := Lib.hid HRR
        clear ho0 HRR
        go_wp2_with fail
        go_ret
        exact ⟨by rw [HRZ.out]; rfl, HB3.out⟩
      · have q1 : ((NO : Int) == 0) = false := by simp; omega
        rw [decide_eq_false ho0, Bool.false_or] at HRR
        have HRZ := Lib.hid HRR
        clear ho0 HRR
        go_wp2_with fail
        go_ret
        exact ⟨by rw [HRZ.out]; rfl, HB3.out⟩
    · have q0 : ((NP : Int) == 0) = false := by simp; omega
      rw [decide_eq_false hp0, Bool.false_or] at HRR
      clear HR hp0
      cases D1 with
      | false =>
        rw [Bool.false_and] at HRR
        have HRZ := Lib.hid HRR
        clear HRR
        go_wp2_with (go_at_call 36; (with_reducible refine (HCn.out _ HB3.out).mono ?_); rintro r w4 ⟨rfl, d4⟩)
        go_ret
        exact ⟨by rw [HRZ.out]; rfl, after HB3.out d4⟩
      | true =>
        rw [Bool.true_and] at HRR
        by_cases ho0 : NO = 0
        · have q1 : ((NO : Int) == 0) = true := by simp; omega
          rw [decide_eq_true ho0, Bool.true_or] at HRR
          have HRZ := Lib.hid HRR
          clear ho0 HRR
          go_wp2_with (go_at_call 36; (with_reducible refine (HCn.out _ HB3.out).mono ?_); rintro r w4 ⟨rfl, d4⟩)
          go_ret
          exact ⟨by rw [HRZ.out]; rfl, after HB3.out d4⟩
        · have q1 : ((NO : Int) == 0) = false := by simp; omega
          rw [decide_eq_false ho0, Bool.false_or] at HRR
          have HRZ := Lib.hid HRR
          clear ho0 HRR
          go_wp2_with (go_at_call 36; (with_reducible refine (HCn.out _ HB3.out).mono ?_); rintro r w4 ⟨rfl, d4⟩)
          go_ret
          exact ⟨by rw [HRZ.out]; rfl, after HB3.out d4⟩
  have e6 : ((pr : Int) == 6) = false := by simp; omega
  rw [decide_eq_false h6, Bool.false_or] at hC
  by_cases h17 : pr = 17
  · have e17 : ((pr : Int) == 17) = true := by simp; omega
    rw [decide_eq_true h17] at hC
    subst hC
    clear h6 h17
    go_upto_region 2 with fail
    have hb2 := boxed w1 (.cells #[.bool true] 4)
    have HC0 := Lib.hid (show (w1.alloc (.cells #[.bool true] 4)).cell? ⟨w1.heap.size, 0, none⟩ = some (.bool true) from (Blk.new w1 4 #[.bool true]).cell 0)
    have HB2 := Lib.hid (after HB.out hb2)
    have HF2 := Lib.hid (HF.out.below hb2 HF.out.lt)
    clear f0 hb2 HF HB
    generalize w1.alloc (.cells #[.bool true] 4) = w2 at HC0 HB2 HF2 ⊢
    generalize w1.heap.size = G at HC0 ⊢
    go_upto_region 3 with (go_at_call 56; (with_reducible refine (HCo.out _ HB2.out _ _ HC0.out (HF2.out.cell 8)).mono ?_); rintro r w3 ⟨rfl, d3⟩)
    have HB3 := Lib.hid (after HB2.out d3)
    have f0 := (HF2.out.below d3 HF2.out.lt).cell 0
    simp at f0
    clear HC0 HB2 HF2 d3 HCo
    have HRR := HR.out
    by_cases hp0 : NP = 0
    · have q0 : ((NP : Int) == 0) = true := by simp; omega
      rw [decide_eq_true hp0, Bool.true_or, Bool.true_and] at HRR
      clear HR hp0
      by_cases ho0 : NO = 0
      · have q1 : ((NO : Int) == 0) = true := by simp; omega
        rw [decide_eq_true ho0, Bool.true_or] at HRR
        have HRZ := Lib.hid HRR
        clear ho0 HRR
        go_wp2_with fail
        go_ret
        exact ⟨by rw [HRZ.out]; rfl, HB3.out⟩
      · have q1 : ((NO : Int) == 0) = false := by simp; omega
        rw [decide_eq_false ho0, Bool.false_or] at HRR
        have HRZ := Lib.hid HRR
        clear ho0 HRR
        go_wp2_with fail
        go_ret
        exact ⟨by rw [HRZ.out]; rfl, HB3.out⟩
    · have q0 : ((NP : Int) == 0) = false := by simp; omega
      rw [decide_eq_false hp0, Bool.false_or] at HRR
      clear HR hp0
      cases D1 with
      | false =>
        rw [Bool.false_and] at HRR
        have HRZ := Lib.hid HRR
        clear HRR
        go_wp2_with (go_at_call 36; (with_reducible refine (HCn.out _ HB3.out).mono ?_); rintro r w4 ⟨rfl, d4⟩)
        go_ret
        exact ⟨by rw [HRZ.out]; rfl, after HB3.out d4⟩
      | true =>
        rw [Bool.true_and] at HRR
        by_cases ho0 : NO = 0
        · have q1 : ((NO : Int) == 0) = true := by simp; omega
          rw [decide_eq_true ho0, Bool.true_or] at HRR
          have HRZ := Lib.hid HRR
          clear ho0 HRR
          go_wp2_with (go_at_call 36; (with_reducible refine (HCn.out _ HB3.out).mono ?_); rintro r w4 ⟨rfl, d4⟩)
          go_ret
          exact ⟨by rw [HRZ.out]; rfl, after HB3.out d4⟩
        · have q1 : ((NO : Int) == 0) = false := by simp; omega
          rw [decide_eq_false ho0, Bool.false_or] at HRR
          have HRZ := Lib.hid HRR
          clear ho0 HRR
          go_wp2_with (go_at_call 36; (with_reducible refine (HCn.out _ HB3.out).mono ?_); rintro r w4 ⟨rfl, d4⟩)
          go_ret
          exact ⟨by rw [HRZ.out]; rfl, after HB3.out d4⟩
  have e17 : ((pr : Int) == 17) = false := by simp; omega
  rw [decide_eq_false h17] at hC
  subst hC
  clear h6 h17
  go_upto_region 2 with fail
  have hb2 := boxed w1 (.cells #[.bool false] 4)
  have HC0 := Lib.hid (show (w1.alloc (.cells #[.bool false] 4)).cell? ⟨w1.heap.size, 0, none⟩ = some (.bool false) from (Blk.new w1 4 #[.bool false]).cell 0)
  have HB2 := Lib.hid (after HB.out hb2)
  have HF2 := Lib.hid (HF.out.below hb2 HF.out.lt)
  clear f0 hb2 HF HB
  generalize w1.alloc (.cells #[.bool false] 4) = w2 at HC0 HB2 HF2 ⊢
  generalize w1.heap.size = G at HC0 ⊢
  go_upto_region 3 with (go_at_call 56; (with_reducible refine (HCo.out _ HB2.out _ _ HC0.out (HF2.out.cell 8)).mono ?_); rintro r w3 ⟨rfl, d3⟩)
  have HB3 := Lib.hid (after HB2.out d3)
  have f0 := (HF2.out.below d3 HF2.out.lt).cell 0
  simp at f0
  clear HC0 HB2 HF2 d3 HCo
  have HRR := HR.out
  by_cases hp0 : NP = 0
  · have q0 : ((NP : Int) == 0) = true := by simp; omega
    rw [decide_eq_true hp0, Bool.true_or, Bool.true_and] at HRR
    clear HR hp0
    by_cases ho0 : NO = 0
    · have q1 : ((NO : Int) == 0) = true := by simp; omega
      rw [decide_eq_true ho0, Bool.true_or] at HRR
      have HRZ := Lib.hid HRR
      clear ho0 HRR
      go_wp2_with fail
      go_ret
      exact ⟨by rw [HRZ.out]; rfl, HB3.out⟩
    · have q1 : ((NO : Int) == 0) = false := by simp; omega
      rw [decide_eq_false ho0, Bool.false_or] at HRR
      have HRZ := Lib.hid HRR
      clear ho0 HRR
      go_wp2_with fail
      go_ret
      exact ⟨by rw [HRZ.out]; rfl, HB3.out⟩
  · have q0 : ((NP : Int) == 0) = false := by simp; omega
    rw [decide_eq_false hp0, Bool.false_or] at HRR
    clear HR hp0
    cases D1 with
    | false =>
      rw [Bool.false_and] at HRR
      have HRZ := Lib.hid HRR
      clear HRR
      go_wp2_with (go_at_call 36; (with_reducible refine (HCn.out _ HB3.out).mono ?_); rintro r w4 ⟨rfl, d4⟩)
      go_ret
      exact ⟨by rw [HRZ.out]; rfl, after HB3.out d4⟩
    | true =>
      rw [Bool.true_and] at HRR
      by_cases ho0 : NO = 0
      · have q1 : ((NO : Int) == 0) = true := by simp; omega
        rw [decide_eq_true ho0, Bool.true_or] at HRR
        have HRZ := Lib.hid HRR
        clear ho0 HRR
        go_wp2_with (go_at_call 36; (with_reducible refine (HCn.out _ HB3.out).mono ?_); rintro r w4 ⟨rfl, d4⟩)
        go_ret
        exact ⟨by rw [HRZ.out]; rfl, after HB3.out d4⟩
      · have q1 : ((NO : Int) == 0) = false := by simp; omega
        rw [decide_eq_false ho0, Bool.false_or] at HRR
        have HRZ := Lib.hid HRR
        clear ho0 HRR
        go_wp2_with (go_at_call 36; (with_reducible refine (HCn.out _ HB3.out).mono ?_); rintro r w4 ⟨rfl, d4⟩)
        go_ret
        exact ⟨by rw [HRZ.out]; rfl, after HB3.out d4⟩
end Go.Proofs.YthglckoikjfjkaaGreatDoor
