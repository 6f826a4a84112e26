/- The document's answer: New, Add, Sent, Score. -/
import Derived.Test.YtbopmcdmahabbaaPdB
namespace Go.Proofs.Ytbopmcdmahabbaa
open Go.RowKit

theorem info90 : (Try.prog.info? 90).map (fun i => (i.zero, i.size, i.bytes)) = some (some (.agg #[.bool false, .int .u64 0, .int .u64 0, .int .u16 0, .float .f64 0, .float .f64 0, .bool false, .int .u64 0, .int .i64 0, .bool false, .string ⟨#[]⟩, .int .u64 0]), 12, 104) := by kernel_rfl

def RPth.new (e : End) : RPth := ⟨Pth.new e, false, ⟨#[]⟩, 0⟩
def RTab.new (wait life losses most : Nat) : RTab := ⟨wait, life, losses, most, [], -1⟩
def RTab.add (t : RTab) (e : End) : RTab := { t with l := t.l ++ [RPth.new e] }
def RTab.setQ (t : RTab) (i : Nat) (q : RPth) : RTab := { t with l := t.l.set i q }

theorem RM.done {n b base cap : Nat} {A : Option Addr} {t : RTab} {w w' : World} (hm : RM w b base A cap t) (K : Keeps (fun k => k = b ∨ (Value.slice A 0 0).ownBlock = some k) w w') (h1 : n ≤ b) (h2 : n ≤ base) (h3 : base ≤ w.heap.size) : Below n w w' ∧ Keeps (RT b w) w w' := by
  refine ⟨K.below (fun k hk => ?_) (by omega), K.mono (fun k _ hk => ?_)⟩
  · rcases hk with rfl | hg
    · exact h1
    · have := (hm.own_lt k hg).1; omega
  · rcases hk with rfl | hg
    · exact .inl rfl
    · exact .inr (hm.own_blk hg)

set_option maxHeartbeats 1000000 in
set_option maxRecDepth 100000 in
theorem rnew_no (wait life : Nat) (losses most : Int) (w : World) (h : ¬ okLim wait life losses most) :
    Calls Try.prog 19 #[.agg #[.int .u64 (wait : Int), .int .u64 (life : Int), .int .i64 losses, .int .i64 most]] w fun e w' => e = .returned (.tuple #[.pointer none, .int .i64 2]) ∧ Below w.heap.size w w' := by
  have hz := Blk.new w 24 #[.int .u64 (wait : Int), .int .u64 (life : Int), .int .i64 losses, .int .i64 most]
  have z0 := hz.cell 0
  have z1 := hz.cell 1
  have z2 := hz.cell 2
  have z3 := hz.cell 3
  simp at z0 z1 z2 z3
  have hr : (wait < 1) ∨ (1 ≤ wait ∧ 1099511627776 < wait) ∨ ((1 ≤ wait ∧ wait ≤ 1099511627776) ∧ life < 1) ∨ ((1 ≤ wait ∧ wait ≤ 1099511627776) ∧ 1 ≤ life ∧ 1099511627776 < life) ∨ ((1 ≤ wait ∧ wait ≤ 1099511627776) ∧ (1 ≤ life ∧ life ≤ 1099511627776) ∧ losses < 1) ∨ ((1 ≤ wait ∧ wait ≤ 1099511627776) ∧ (1 ≤ life ∧ life ≤ 1099511627776) ∧ 1 ≤ losses ∧ 16 < losses) ∨
      ((1 ≤ wait ∧ wait ≤ 1099511627776) ∧ (1 ≤ life ∧ life ≤ 1099511627776) ∧ (1 ≤ losses ∧ losses ≤ 16) ∧ most < 1) ∨ ((1 ≤ wait ∧ wait ≤ 1099511627776) ∧ (1 ≤ life ∧ life ≤ 1099511627776) ∧ (1 ≤ losses ∧ losses ≤ 16) ∧ 1 ≤ most ∧ 64 < most) := by
    unfold okLim at h
    omega
  clear h hz
  have e1 : 1 ≤ wait → decide ((wait : Int) < 1) = false := fun h => by rw [decide_eq_false_iff_not]; omega
  have e2 : wait ≤ 1099511627776 → decide (1099511627776 < (wait : Int)) = false := fun h => by rw [decide_eq_false_iff_not]; omega
  have e3 : 1 ≤ life → decide ((life : Int) < 1) = false := fun h => by rw [decide_eq_false_iff_not]; omega
  have e4 : life ≤ 1099511627776 → decide (1099511627776 < (life : Int)) = false := fun h => by rw [decide_eq_false_iff_not]; omega
  have e5 : 1 ≤ losses → decide (losses < 1) = false := fun h => by rw [decide_eq_false_iff_not]; omega
  have e6 : losses ≤ 16 → decide (16 < losses) = false := fun h => by rw [decide_eq_false_iff_not]; omega
  have e7 : 1 ≤ most → decide (most < 1) = false := fun h => by rw [decide_eq_false_iff_not]; omega
  have fin : Below w.heap.size w (w.alloc (.cells #[.int .u64 (wait : Int), .int .u64 (life : Int), .int .i64 losses, .int .i64 most] 24)) := (Below.refl _ _).alloc (Nat.le_refl _) _
  have Fin := Lib.hid fin
  clear fin
  rcases hr with k | ⟨k1, k⟩ | ⟨⟨k1, k2⟩, k⟩ | ⟨⟨k1, k2⟩, k3, k⟩ | ⟨⟨k1, k2⟩, ⟨k3, k4⟩, k⟩ | ⟨⟨k1, k2⟩, ⟨k3, k4⟩, k5, k⟩ | ⟨⟨k1, k2⟩, ⟨k3, k4⟩, ⟨k5, k6⟩, k⟩ | ⟨⟨k1, k2⟩, ⟨k3, k4⟩, ⟨k5, k6⟩, k7, k⟩
  · have f1 : decide ((wait : Int) < 1) = true := by rw [decide_eq_true_eq]; omega
    clear e1 e2 e3 e4 e5 e6 e7 k
    go_enter Try.func19, Try.ntmps19
    go_wp2_with fail
    go_ret2
    exact ⟨rfl, Fin.out⟩
  · have f1 := e1 k1
    have f2 : decide (1099511627776 < (wait : Int)) = true := by rw [decide_eq_true_eq]; omega
    clear e1 e2 e3 e4 e5 e6 e7 k k1
    go_enter Try.func19, Try.ntmps19
    go_wp2_with fail
    go_ret2
    exact ⟨rfl, Fin.out⟩
  · have f1 := e1 k1
    have f2 := e2 k2
    have f3 : decide ((life : Int) < 1) = true := by rw [decide_eq_true_eq]; omega
    clear e1 e2 e3 e4 e5 e6 e7 k k1 k2
    go_enter Try.func19, Try.ntmps19
    go_wp2_with fail
    go_ret2
    exact ⟨rfl, Fin.out⟩
  · have f1 := e1 k1
    have f2 := e2 k2
    have f3 := e3 k3
    have f4 : decide (1099511627776 < (life : Int)) = true := by rw [decide_eq_true_eq]; omega
    clear e1 e2 e3 e4 e5 e6 e7 k k1 k2 k3
    go_enter Try.func19, Try.ntmps19
    go_wp2_with fail
    go_ret2
    exact ⟨rfl, Fin.out⟩
  · have f1 := e1 k1
    have f2 := e2 k2
    have f3 := e3 k3
    have f4 := e4 k4
    have f5 : decide (losses < 1) = true := by rw [decide_eq_true_eq]; omega
    clear e1 e2 e3 e4 e5 e6 e7 k k1 k2 k3 k4
    go_enter Try.func19, Try.ntmps19
    go_wp2_with fail
    go_ret2
    exact ⟨rfl, Fin.out⟩
  · have f1 := e1 k1
    have f2 := e2 k2
    have f3 := e3 k3
    have f4 := e4 k4
    have f5 := e5 k5
    have f6 : decide (16 < losses) = true := by rw [decide_eq_true_eq]; omega
    clear e1 e2 e3 e4 e5 e6 e7 k k1 k2 k3 k4 k5
    go_enter Try.func19, Try.ntmps19
    go_wp2_with fail
    go_ret2
    exact ⟨rfl, Fin.out⟩
  · have f1 := e1 k1
    have f2 := e2 k2
    have f3 := e3 k3
    have f4 := e4 k4
    have f5 := e5 k5
    have f6 := e6 k6
    have f7 : decide (most < 1) = true := by rw [decide_eq_true_eq]; omega
    clear e1 e2 e3 e4 e5 e6 e7 k k1 k2 k3 k4 k5 k6
    go_enter Try.func19, Try.ntmps19
    go_wp2_with fail
    go_ret2
    exact ⟨rfl, Fin.out⟩
  · have f1 := e1 k1
    have f2 := e2 k2
    have f3 := e3 k3
    have f4 := e4 k4
    have f5 := e5 k5
    have f6 := e6 k6
    have f7 := e7 k7
    have f8 : decide (64 < most) = true := by rw [decide_eq_true_eq]; omega
    clear e1 e2 e3 e4 e5 e6 e7 k k1 k2 k3 k4 k5 k6 k7
    go_enter Try.func19, Try.ntmps19
    go_wp2_with fail
    go_ret2
    exact ⟨rfl, Fin.out⟩

set_option maxHeartbeats 1000000 in
set_option maxRecDepth 100000 in
theorem rnew_yes (wait life losses most : Nat) (w : World) (h : okLim wait life losses most) :
    Calls Try.prog 19 #[.agg #[.int .u64 (wait : Int), .int .u64 (life : Int), .int .i64 (losses : Int), .int .i64 (most : Int)]] w fun e w' => e = .returned (.tuple #[ptr (w.heap.size + 1), .int .i64 0]) ∧ RL w.heap.size (w.heap.size + 1) (RTab.new wait life losses most) w' ∧ Below w.heap.size w w' := by
  obtain ⟨⟨h1, h2⟩, ⟨h3, h4⟩, ⟨h5, h6⟩, ⟨h7, h8⟩⟩ := h
  have hz := Blk.new w 24 #[.int .u64 (wait : Int), .int .u64 (life : Int), .int .i64 (losses : Int), .int .i64 (most : Int)]
  have z0 := hz.cell 0
  have z1 := hz.cell 1
  have z2 := hz.cell 2
  have z3 := hz.cell 3
  simp at z0 z1 z2 z3
  have f1 : decide ((wait : Int) < 1) = false := by rw [decide_eq_false_iff_not]; omega
  have f2 : decide (1099511627776 < (wait : Int)) = false := by rw [decide_eq_false_iff_not]; omega
  have f3 : decide ((life : Int) < 1) = false := by rw [decide_eq_false_iff_not]; omega
  have f4 : decide (1099511627776 < (life : Int)) = false := by rw [decide_eq_false_iff_not]; omega
  have f5 : decide ((losses : Int) < 1) = false := by rw [decide_eq_false_iff_not]; omega
  have f6 : decide (16 < (losses : Int)) = false := by rw [decide_eq_false_iff_not]; omega
  have f7 : decide ((most : Int) < 1) = false := by rw [decide_eq_false_iff_not]; omega
  have f8 : decide (64 < (most : Int)) = false := by rw [decide_eq_false_iff_not]; omega
  clear hz
  go_enter Try.func19, Try.ntmps19
  go_wp2_with fail
  go_ret2
  have hb := Blk.new (w.alloc (.cells #[.int .u64 (wait : Int), .int .u64 (life : Int), .int .i64 (losses : Int), .int .i64 (most : Int)] 24)) 85 #[.int .u64 (wait : Int), .int .u64 (life : Int), .int .i64 (losses : Int), .int .i64 (most : Int), .slice none 0 0, .int .i64 (-1)]
  refine ⟨by simp, ⟨w.heap.size, none, 0, ⟨⟨h1, h2, h3, h4, by show 1 ≤ losses; omega, by show losses ≤ 16; omega, by show 1 ≤ most; omega, by show most ≤ 64; omega, Nat.zero_le _⟩, ?_, ⟨rfl, .inl ⟨rfl, rfl⟩⟩⟩, by omega, Nat.le_refl _, by simp; omega⟩, ((Below.refl _ _).alloc (Nat.le_refl _) _).alloc (by simp) _⟩
  simp only [World.size_alloc] at hb
  exact hb

section
variable {n b : Nat} {t : RTab} {w : World}

set_option maxHeartbeats 1000000 in
set_option maxRecDepth 100000 in
theorem radd_there (h : RL n b t w) (e : End) {i : Nat} (hf : rfind t e = some i) :
    Calls Try.prog 37 #[ptr b, .agg e.cells] w (RDoes n b t (.int .i64 9) w) := by
  have hL := h
  obtain ⟨base, A, cap, hm, h1, h2, h3⟩ := h
  have hm1 := hm.alloc (.cells #[.bool e.v6, .int .u64 (e.hi : Int), .int .u64 (e.lo : Int), .int .u16 (e.port : Int)] 35)
  have hfy := rfind_any hm1 e
  rw [hf] at hfy
  have Hfy := Lib.hid hfy
  have hi0 : (0 : Int) ≤ (i : Int) := by omega
  clear hf hfy
  rw [cellsE] at *
  go_enter Try.func37, Try.ntmps37
  go_wp2_with fail
  refine Hfy.out.mono ?_
  rintro r w1 ⟨rfl, hb⟩
  unfold oidx
  go_wp2_with fail
  go_ret
  have bb := ((Below.refl w.heap.size w).alloc (Nat.le_refl _) (.cells #[.bool e.v6, .int .u64 (e.hi : Int), .int .u64 (e.lo : Int), .int .u16 (e.port : Int)] 35)).trans (hb.mono (by simp))
  exact ⟨rfl, hL.below bb, bb.mono hL.size, Keeps.of_below bb (fun k hk _ => hk)⟩

set_option maxHeartbeats 1000000 in
set_option maxRecDepth 100000 in
theorem radd_full (h : RL n b t w) (e : End) (hf : rfind t e = none) (hq : t.most ≤ t.l.length) :
    Calls Try.prog 37 #[ptr b, .agg e.cells] w (RDoes n b t (.int .i64 6) w) := by
  have hL := h
  obtain ⟨base, A, cap, hm, h1, h2, h3⟩ := h
  have hm1 := hm.alloc (.cells #[.bool e.v6, .int .u64 (e.hi : Int), .int .u64 (e.lo : Int), .int .u16 (e.port : Int)] 35)
  have hfy := rfind_any hm1 e
  rw [hf] at hfy
  have Hfy := Lib.hid hfy
  have hd : decide (t.most ≤ t.l.length) = true := by simpa using hq
  clear hf hfy
  rw [cellsE] at *
  go_enter Try.func37, Try.ntmps37
  go_wp2_with fail
  refine Hfy.out.mono ?_
  rintro r w1 ⟨rfl, hb⟩
  have hm2 := hm1.below hb
  have d3 := hm2.cells.2.2.2.1
  have d4 := hm2.cells.2.2.2.2.1
  unfold oidx
  go_wp2_with fail
  go_quiet (fail)
  go_wp2_with fail
  go_ret
  have bb := ((Below.refl w.heap.size w).alloc (Nat.le_refl _) (.cells #[.bool e.v6, .int .u64 (e.hi : Int), .int .u64 (e.lo : Int), .int .u16 (e.port : Int)] 35)).trans (hb.mono (by simp))
  have b2 : Below w.heap.size w (w1.drewN nq) := ⟨bb.os, bb.tape, bb.output, bb.size, bb.block⟩
  exact ⟨rfl, hL.below b2, b2.mono hL.size, Keeps.of_below b2 (fun k hk _ => hk)⟩

set_option maxHeartbeats 2000000 in
set_option maxRecDepth 100000 in
theorem radd_ok (h : RL n b t w) (e : End) (hf : rfind t e = none) (hl : t.l.length < t.most) :
    Calls Try.prog 37 #[ptr b, .agg e.cells] w (RDoes n b (t.add e) (.int .i64 0) w) := by
  obtain ⟨base, A, cap, hm, h1, h2, h3⟩ := h
  have hm1 := hm.alloc (.cells #[.bool e.v6, .int .u64 (e.hi : Int), .int .u64 (e.lo : Int), .int .u16 (e.port : Int)] 35)
  have hfy := rfind_any hm1 e
  rw [hf] at hfy
  have Hfy := Lib.hid hfy
  have hd : decide (t.most ≤ t.l.length) = false := by rw [decide_eq_false_iff_not]; omega
  have hl1 := hm.lim.most1
  have hlt := hm.blk.lt
  have hnb : (Value.slice A t.l.length cap).ownBlock ≠ some b := by
    intro e
    rcases hm.row.2 with ⟨e2, _⟩ | ⟨g, cap', cur, e2, _, hh, _⟩
    · rw [e2] at e; cases e
    · rw [e2] at e
      have : g = b := by simpa [Value.ownBlock] using e
      subst this
      exact Blk.ne_ (t := 90) hh hm.blk (by decide) rfl
  have hown0 : (Value.slice A t.l.length cap).ownBlock = (Value.slice A 0 0).ownBlock := by cases A <;> rfl
  obtain ⟨i0, hi0, hz0, hz1, hz2⟩ := info_parts info90
  clear hf hfy
  rw [cellsE] at *
  go_enter Try.func37, Try.ntmps37
  go_wp2_with fail
  refine Hfy.out.mono ?_
  rintro r w1 ⟨rfl, hb⟩
  have hm2 := hm1.below hb
  have d3 := hm2.cells.2.2.2.1
  have d4 := hm2.cells.2.2.2.2.1
  have f4 := hm2.blk.frozen 4
  have hE := (Blk.new w 35 #[.bool e.v6, .int .u64 (e.hi : Int), .int .u64 (e.lo : Int), .int .u16 (e.port : Int)]).below hb (by simp)
  have e0 := hE.cell 0
  have e1 := hE.cell 1
  have e2 := hE.cell 2
  have e3 := hE.cell 3
  simp at e0 e1 e2 e3
  have hw1 := hb.size
  simp at hw1
  have hlt1 := hm2.blk.lt
  have d4' : ∀ (k : Nat) (o : Obj), ((w1.drewN k).alloc o).cell? ⟨b, 4, none⟩ = some (.slice A t.l.length cap) := fun k o => (World.cell?_alloc_lt (w1.drewN k) o ⟨b, 4, none⟩ hlt1).trans d4
  unfold oidx
  go_wp2_with fail
  go_quiet (fail)
  go_wp2_with fail
  go_region_law (refine step_append_lies _ (by rfl) _ _ _ (by rfl) base 90 i0 _ 12 104 Try.underlying83 hi0 hz0 hz1 hz2 rfl (by omega) (.slice A t.l.length cap) t.l.length (rcells t.l) (by rfl) ((hm2.row.below ((Below.refl _ w1).alloc (Nat.le_refl _) _)).drew) ⟨w1.heap.size, 0, none⟩ 1 1 (RPth.new e).cells.toList (by rfl) (by rfl) (World.news_of_block (cs := (RPth.new e).cells) (t := 90) (fr := (0, 0)) (heap_alloc_new w1 _)) (by simp [Value.oneCell', RPth.new, Pth.new, RPth.cells]) (by omega) (by simp only [maxLen]; omega) (by omega) (by simp; omega) (w1.heap.size + 1) (by simp) ?_; intro gg cap2 w2 hown2 hgrow hat hlt2; have b2 : Blk w2 b 85 _ := (hgrow.block b (by simp; omega) (fun e => hnb e.symm)).trans (hm2.blk.alloc (.cells (RPth.new e).cells 90)); have x4 := b2.cell 4; have x5 := b2.frozen 4; simp at x4)
  all_goals go_wp2_with fail
  all_goals go_ret
  all_goals
    have hgb : gg ≠ b := by
      rintro rfl
      obtain ⟨cur, hh⟩ := own_block_of hown2
      exact Blk.ne_ (t := 90) hh b2 (by decide) rfl
    have hrow2 : RRow w2 base (some ⟨gg, 0, none⟩) cap2 (t.add e).l := by
      unfold RRow RTab.add
      rw [rcells_snoc]
      simpa using hown2
    have kk : Keeps (fun g => (Value.slice A 0 0).ownBlock = some g) w1 w2 := (((Keeps.refl _ w1).drewN _).alloc _).trans (Keeps.of_grown hgrow (fun g hg => by rw [← hown0]; exact hg))
    have k3 := (Keeps.refl (fun g => g = b) w2).setCell (p := ⟨b, 4, none⟩) (.inl rfl) (.slice (some ⟨gg, 0, none⟩) (t.l.length + 1) cap2)
    have hRM : RM (w2.setCell ⟨b, 4, none⟩ (.slice (some ⟨gg, 0, none⟩) (t.l.length + 1) cap2)) b base (some ⟨gg, 0, none⟩) cap2 (t.add e) := by
      refine ⟨⟨hm.lim.wait0, hm.lim.wait1, hm.lim.life0, hm.lim.life1, hm.lim.loss0, hm.lim.loss1, hm.lim.most0, hm.lim.most1, by simp [RTab.add]; omega⟩, ?_, ?_⟩
      · have := b2.set_ 4 (.slice (some ⟨gg, 0, none⟩) (t.l.length + 1) cap2)
        simpa [RTab.add] using this
      · exact hrow2.keep k3 (fun g hg => by simp [Value.ownBlock] at hg; omega)
    have k0 : Keeps (fun k => k = b ∨ (Value.slice A 0 0).ownBlock = some k) w w1 := ((Keeps.refl _ w).alloc _).trans (Keeps.of_below hb (fun k hk _ => hk))
    have k5 := (k0.trans (kk.mono (T := fun k => k = b ∨ (Value.slice A 0 0).ownBlock = some k) (fun k _ hk => .inr hk))).setCell (p := ⟨b, 4, none⟩) (.inl (.inl rfl)) (.slice (some ⟨gg, 0, none⟩) (t.l.length + 1) cap2)
    obtain ⟨q1, q2⟩ := hm.done k5 h1 h2 h3
    exact ⟨rfl, ⟨base, _, _, hRM, h1, h2, Nat.le_trans h3 k5.size⟩, q1, q2⟩
end
end Go.Proofs.Ytbopmcdmahabbaa
