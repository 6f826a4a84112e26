/- Joined out of: PtB PtC IpU IpN IpO. -/
import Derived.Test.YtomndcjgdfhmbaaGreatDoorJal
import Derived.Test.YtomndcjgdfhmbaaGreatDoorJah
import Derived.Test.YtomndcjgdfhmbaaGreatDoorJag
import Derived.StillTailTactics
set_option linter.unusedVariables false
set_option linter.unusedSimpArgs false

/- ReadPrefix, the program's: the walk. (Printed by pt_read.py.) -/
namespace Go.Proofs.YtomndcjgdfhmbaaGreatDoor
open Go.RowKit

theorem load_pf {w : World} {g : Nat} {v0 v1 v2 v3 : Value} (h : Blk w g 39 #[v0, v1, v2, v3]) : (loadVar 39 ⟨g, 0, none⟩).run Tryz.prog w = .ok (.agg #[v0, v1, v2, v3]) w := by
  have c0 := h.cell 0
  have c1 := h.cell 1
  have c2 := h.cell 2
  have c3 := h.cell 3
  simp at c0 c1 c2 c3
  simp [loadVar, go_sem, c0, c1, c2, c3]
theorem four {W w : World} {g : Nat} {z0 z1 z2 z3 v0 v1 v2 v3 : Value} (hB : Blk w g 39 #[z0, z1, z2, z3]) (hb : Below W.heap.size W w) (hg : W.heap.size ≤ g) : Blk ((((w.setCell ⟨g, 0, none⟩ v0).setCell ⟨g, 1, none⟩ v1).setCell ⟨g, 2, none⟩ v2).setCell ⟨g, 3, none⟩ v3) g 39 #[v0, v1, v2, v3] ∧ Below W.heap.size W ((((w.setCell ⟨g, 0, none⟩ v0).setCell ⟨g, 1, none⟩ v1).setCell ⟨g, 2, none⟩ v2).setCell ⟨g, 3, none⟩ v3) := by
  have s0 : Blk (w.setCell ⟨g, 0, none⟩ v0) g 39 #[v0, z1, z2, z3] := hB.set_ 0 v0
  have s1 : Blk ((w.setCell ⟨g, 0, none⟩ v0).setCell ⟨g, 1, none⟩ v1) g 39 #[v0, v1, z2, z3] := s0.set_ 1 v1
  have s2 : Blk (((w.setCell ⟨g, 0, none⟩ v0).setCell ⟨g, 1, none⟩ v1).setCell ⟨g, 2, none⟩ v2) g 39 #[v0, v1, v2, z3] := s1.set_ 2 v2
  have s3 : Blk ((((w.setCell ⟨g, 0, none⟩ v0).setCell ⟨g, 1, none⟩ v1).setCell ⟨g, 2, none⟩ v2).setCell ⟨g, 3, none⟩ v3) g 39 #[v0, v1, v2, v3] := s2.set_ 3 v3
  exact ⟨s3, (((hb.setCell (p := ⟨g, 0, none⟩) hg v0).setCell (p := ⟨g, 1, none⟩) hg v1).setCell (p := ⟨g, 2, none⟩) hg v2).setCell (p := ⟨g, 3, none⟩) hg v3⟩
theorem ret_pf {fn : Func} {a : Act} {W w : World} {g x y : Nat} {v0 v1 v2 v3 u : Value} (hres : fn.results = #[.cell x 39, .tmp y]) (hB : Blk w g 39 #[v0, v1, v2, v3]) (hb : Below W.heap.size W w) (h1 : a.tmps.getD x undef = .pointer (some ⟨g, 0, none⟩)) (h2 : a.tmps.getD y undef = u) (hd : a.defers = []) : bodyPost Tryz.prog fn (Got (.tuple #[.agg #[v0, v1, v2, v3], u]) W) .ret a w :=
  bodyPost_ret (results_ct hres h1 h2 (load_pf hB)) hd ⟨rfl, hb⟩
theorem ret_pf4 {fn : Func} {a : Act} {W w : World} {g x y : Nat} {z0 z1 z2 z3 v0 v1 v2 v3 u : Value} (hres : fn.results = #[.cell x 39, .tmp y]) (hB : Blk w g 39 #[z0, z1, z2, z3]) (hb : Below W.heap.size W w) (hg : W.heap.size ≤ g) (h1 : a.tmps.getD x undef = .pointer (some ⟨g, 0, none⟩)) (h2 : a.tmps.getD y undef = u) (hd : a.defers = []) : bodyPost Tryz.prog fn (Got (.tuple #[.agg #[v0, v1, v2, v3], u]) W) .ret a ((((w.setCell ⟨g, 0, none⟩ v0).setCell ⟨g, 1, none⟩ v1).setCell ⟨g, 2, none⟩ v2).setCell ⟨g, 3, none⟩ v3) :=
  ret_pf hres (four hB hb hg).1 (four hB hb hg).2 h1 h2 hd
def preadV (o : Option Pf) : Value := match o with
  | none => .tuple #[.agg #[.bool false, .int .u64 0, .int .u64 0, .int .u8 0], .int .i64 8]
  | some p => .tuple #[.agg p.cells, .int .i64 0]
/- What Read answers, in one form. -/
theorem readV_form (o : Option Ad) (ho : ∀ a, o = some a → a.Ok) : ∃ (a : Ad) (e : Nat), a.Ok ∧ readV o = .tuple #[.agg #[.bool a.v6, .int .u64 (a.hi : Int), .int .u64 (a.lo : Int)], .int .i64 (e : Int)] ∧ ((e = 0 ∧ o = some a) ∨ (e = 8 ∧ o = none)) := by
  cases o with
  | none => exact ⟨⟨false, 0, 0⟩, 8, ⟨by decide, by decide⟩, rfl, Or.inr ⟨rfl, rfl⟩⟩
  | some a => exact ⟨a, 0, ho a rfl, rfl, Or.inl ⟨rfl, rfl⟩⟩

set_option maxHeartbeats 8000000 in
set_option maxRecDepth 100000 in
theorem readPrefix_any {w : World} (env : Env w) (s : ByteArray) (hs : s.size ≤ 100000) : Calls Tryz.prog 20 #[.string s] w (Got (preadV (preadL s.data.toList)) w) := by
  obtain ⟨RL, hRL⟩ : ∃ r, r = preadL s.data.toList := ⟨_, rfl⟩
  rw [← hRL]
  have hB0 := Blk.new w 39 #[.bool false, .int .u64 0, .int .u64 0, .int .u8 0]
  have hb0 := boxed w (.cells #[.bool false, .int .u64 0, .int .u64 0, .int .u8 0] 39)
  obtain ⟨m, hm⟩ := (env.below hb0).mx
  have hcut := Tryz.strings_Cut s ⟨#[47]⟩ m (w.alloc (.cells #[.bool false, .int .u64 0, .int .u64 0, .int .u8 0] 39)) (by omega) hm
  have hcl := cut_len s.data.toList [47]
  rw [show (⟨#[47]⟩ : ByteArray).data.toList = [47] from rfl] at hcut
  unfold preadL at hRL
  generalize Lib.cut s.data.toList [47] = C at hcl hcut hRL
  obtain ⟨c1, c2, gap⟩ := C
  simp only at hcl hcut hRL
  rw [show s.data.toList.length = s.size from (Lib.size_eq s).symm] at hcl
  have hrd := fun v (hv : Below w.heap.size w v) => read_any (env.below hv) ⟨c1.toArray⟩ (by rw [show (⟨c1.toArray⟩ : ByteArray).size = c1.length by simp [ByteArray.size]]; omega)
  have hpu := fun v (hv : Below w.heap.size w v) => pu10_8 (env.below hv) ⟨c2.toArray⟩ (by rw [show (⟨c2.toArray⟩ : ByteArray).size = c2.length by simp [ByteArray.size]]; omega)
  rw [show (⟨c1.toArray⟩ : ByteArray).data.toList = c1 by simp] at hrd
  rw [show (⟨c2.toArray⟩ : ByteArray).data.toList = c2 by simp] at hpu
  obtain ⟨A, er, hA, hv, hro⟩ := readV_form (readL c1) (fun a h => (readL_some h).2.1)
  rw [hv] at hrd
  generalize readL c1 = RO at hRL hro
  clear hv
  have hnl : ∀ n, num1 10 256 c2 = some n → n < 256 := fun n h => num1_lt h
  unfold PuGot PuRes at hpu
  generalize num1 10 256 c2 = NO at hRL hpu hnl
  have hptx := fun n (hn : n < 256) v (hv : Below w.heap.size w v) => prefixText_any (env.below hv) ⟨A, n⟩ ⟨hA, hn⟩
  have hiff : ∀ n, ptextB ⟨A, n⟩ = s ↔ ptext ⟨A, n⟩ = s.data.toList := fun n => ptextB_iff
  have hcells : ∀ n, Pf.cells ⟨A, n⟩ = #[.bool A.v6, .int .u64 (A.hi : Int), .int .u64 (A.lo : Int), .int .u8 (n : Int)] := fun _ => rfl
  simp only [hcells] at hptx
  obtain ⟨T1, hT1⟩ : ∃ t, t = (⟨c1.toArray⟩ : ByteArray) := ⟨_, rfl⟩
  obtain ⟨T2, hT2⟩ : ∃ t, t = (⟨c2.toArray⟩ : ByteArray) := ⟨_, rfl⟩
  rw [← hT1] at hrd hcut
  rw [← hT2] at hpu hcut
  have hr0 : gap = false → RL = none := fun h => by rw [hRL, h]; rfl
  have hr1 : er = 8 → RL = none := fun h => by
    rcases hro with ⟨e, _⟩ | ⟨_, e⟩
    · omega
    · rw [hRL, e]; split <;> rfl
  have hr2 : NO = none → RL = none := fun h => by
    rw [hRL, h]
    split
    · rfl
    · cases RO <;> rfl
  have hr3 : gap = true → er = 0 → ∀ n, NO = some n → RL = if ptextB ⟨A, n⟩ = s then some ⟨A, n⟩ else none := fun h1 h2 n h3 => by
    rcases hro with ⟨_, e⟩ | ⟨e, _⟩
    · rw [hRL, h1, h3, e]
      simp only
      rw [if_neg (by decide)]
      by_cases h : ptextB ⟨A, n⟩ = s
      · rw [if_pos h, if_pos ((hiff n).1 h)]
      · rw [if_neg h, if_neg (fun e => h ((hiff n).2 e))]
    · omega
  have her : er = 0 ∨ er = 8 := by rcases hro with ⟨e, _⟩ | ⟨e, _⟩ <;> omega
  obtain ⟨PB, hPB⟩ : ∃ f : Nat → ByteArray, f = fun n => ptextB ⟨A, n⟩ := ⟨_, rfl⟩
  have hPB1 : ∀ n, ptextB ⟨A, n⟩ = PB n := fun n => by rw [hPB]
  simp only [hPB1] at hr3 hptx
  generalize A.v6 = av at hrd hptx hcells
  generalize A.hi = ahi at hrd hptx hcells
  generalize A.lo = alo at hrd hptx hcells
  have HCut := Lib.hid hcut
  have HRD := Lib.hid hrd
  have HPU := Lib.hid hpu
  have HPT := Lib.hid hptx
  have Hr0 := Lib.hid hr0
  have Hr1 := Lib.hid hr1
  have Hr2 := Lib.hid hr2
  have Hr3 := Lib.hid hr3
  have Hnl := Lib.hid hnl
  have Hcells := Lib.hid hcells
  have HB0 := Lib.hid hB0
  have Hb0 := Lib.hid hb0
  clear hcut hrd hpu hptx hr0 hr1 hr2 hr3 hnl hcells hB0 hb0 hiff hro hRL hT1 hT2 hPB hPB1 hA hm hcl env
  go_enter Tryz.func20, Tryz.ntmps20
  go_wp2_with (go_at_call 44; (with_reducible refine HCut.out.mono ?_); rintro r w2 ⟨rfl, n2, rfl⟩)
  go_at_call 18
  refine (HRD.out _ (after Hb0.out (below_drewN _ n2))).mono ?_
  rintro r w3 ⟨rfl, g3⟩
  have hB3 := (HB0.out.drewN n2).below g3 (HB0.out.drewN n2).lt
  have hb3 := after (after Hb0.out (below_drewN _ n2)) g3
  have hB4 := hB3.alloc (.cells #[.bool av, .int .u64 (ahi : Int), .int .u64 (alo : Int)] 24)
  have hD4 := Blk.new w3 24 #[.bool av, .int .u64 (ahi : Int), .int .u64 (alo : Int)]
  have hb4 := after hb3 (boxed w3 (.cells #[.bool av, .int .u64 (ahi : Int), .int .u64 (alo : Int)] 24))
  have hw3 : w.heap.size < w3.heap.size := hB3.lt
  clear hB3 hb3 g3
  go_upto_region 3 with fail
  generalize w3.alloc (.cells #[.bool av, .int .u64 (ahi : Int), .int .u64 (alo : Int)] 24) = w4 at hB4 hD4 hb4 ⊢
  generalize w3.heap.size = g1 at hD4 hw3 ⊢
  have HB4 := Lib.hid hB4
  have HD4 := Lib.hid hD4
  have Hb4 := Lib.hid hb4
  have HPU4 := Lib.hid (HPU.out w4 hb4)
  clear hB4 hD4 hb4
  go_wp2_with fail
  go_at_call 51
  refine HPU4.out.mono ?_
  rintro e w5 ⟨hres, g5⟩
  have hB5 := HB4.out.below g5 HB4.out.lt
  have hD5 := HD4.out.below g5 HD4.out.lt
  have hb5 := after Hb4.out g5
  have a0 := hD5.cell 0
  have a1 := hD5.cell 1
  have a2 := hD5.cell 2
  simp at a0 a1 a2
  have HB5 := Lib.hid hB5
  have Hb5 := Lib.hid hb5
  clear hB5 hD5 hb5 g5
  rcases hres with ⟨n, hNO, rfl⟩ | ⟨hNO, n, tp, p, hn64, rfl⟩
  · have hn := Hnl.out n hNO
    have hwr : IntKind.u8.wrap (n : Int) = (n : Int) := by rw [IntKind.wrap_u8]; omega
    go_upto_region 5 with fail
    have hB6 := HB5.out.alloc (.cells #[.bool av, .int .u64 (ahi : Int), .int .u64 (alo : Int), .int .u8 (n : Int)] 39)
    have hD6 := Blk.new w5 39 #[.bool av, .int .u64 (ahi : Int), .int .u64 (alo : Int), .int .u8 (n : Int)]
    have hb6 := after Hb5.out (boxed w5 (.cells #[.bool av, .int .u64 (ahi : Int), .int .u64 (alo : Int), .int .u8 (n : Int)] 39))
    have hw5 : w.heap.size < w5.heap.size := HB5.out.lt
    generalize w5.alloc (.cells #[.bool av, .int .u64 (ahi : Int), .int .u64 (alo : Int), .int .u8 (n : Int)] 39) = w6 at hB6 hD6 hb6 ⊢
    generalize w5.heap.size = g2 at hD6 hw5 ⊢
    clear a0 a1 a2
    have b0 := hD6.cell 0
    have b1 := hD6.cell 1
    have b2 := hD6.cell 2
    have b3 := hD6.cell 3
    simp at b0 b1 b2 b3
    have c0 := hB6.cell 0
    have c1 := hB6.cell 1
    have c2 := hB6.cell 2
    have c3 := hB6.cell 3
    simp at c0 c1 c2 c3
    have fr := fun i => hB6.frozen i
    have HB6 := Lib.hid hB6
    have HD6 := Lib.hid hD6
    have Hb6 := Lib.hid hb6
    clear hB6 hD6 hb6
    have HPT6 := Lib.hid (HPT.out n hn w6 Hb6.out)
    cases gap with
    | false =>
      have Hrn := Lib.hid (Hr0.out rfl)
      go_wp2_with fail
      rw [Hrn.out]
      show bodyPost _ _ (Got (.tuple #[.agg #[.bool false, .int .u64 0, .int .u64 0, .int .u8 0], .int .i64 8]) w) _ _ _
      exact ret_pf4 (g := w.heap.size) (x := 2) (y := 3) rfl HB6.out Hb6.out (Nat.le_refl _) rfl rfl rfl
    | true =>
      rcases her with rfl | rfl
      · have hrl := Hr3.out rfl rfl n hNO
        by_cases hts : PB n = s
        · have hq := str_same hts
          rw [if_pos hts] at hrl
          have Hrl := Lib.hid hrl
          clear hrl hts
          go_wp2_with (go_at_call 21; (with_reducible refine HPT6.out.mono ?_); rintro r w7 ⟨rfl, g7⟩; have hb7 := Lib.hid (after Hb6.out g7); have hB7 := HB6.out.below g7 HB6.out.lt; have hD7 := HD6.out.below g7 HD6.out.lt; clear b0 b1 b2 b3 c0 c1 c2 c3 fr; have b0 := hD7.cell 0; have b1 := hD7.cell 1; have b2 := hD7.cell 2; have b3 := hD7.cell 3; simp at b0 b1 b2 b3; have c0 := hB7.cell 0; have c1 := hB7.cell 1; have c2 := hB7.cell 2; have c3 := hB7.cell 3; simp at c0 c1 c2 c3; have fr := (fun i => hB7.frozen i); have HB7 := Lib.hid hB7; clear hB7 hD7 g7)
          rw [Hrl.out]
          show bodyPost _ _ (Got (.tuple #[.agg (Pf.cells ⟨A, n⟩), .int .i64 0]) w) _ _ _
          rw [Hcells.out]
          exact ret_pf4 (g := w.heap.size) (x := 2) (y := 3) rfl HB7.out hb7.out (Nat.le_refl _) rfl rfl rfl
        · have hq := str_diff hts
          rw [if_neg hts] at hrl
          have Hrl := Lib.hid hrl
          clear hrl hts
          go_wp2_with (go_at_call 21; (with_reducible refine HPT6.out.mono ?_); rintro r w7 ⟨rfl, g7⟩; have hb7 := Lib.hid (after Hb6.out g7); have hB7 := HB6.out.below g7 HB6.out.lt; have hD7 := HD6.out.below g7 HD6.out.lt; clear b0 b1 b2 b3 c0 c1 c2 c3 fr; have b0 := hD7.cell 0; have b1 := hD7.cell 1; have b2 := hD7.cell 2; have b3 := hD7.cell 3; simp at b0 b1 b2 b3; have c0 := hB7.cell 0; have c1 := hB7.cell 1; have c2 := hB7.cell 2; have c3 := hB7.cell 3; simp at c0 c1 c2 c3; have fr := (fun i => hB7.frozen i); have HB7 := Lib.hid hB7; clear hB7 hD7 g7)
          rw [Hrl.out]
          show bodyPost _ _ (Got (.tuple #[.agg #[.bool false, .int .u64 0, .int .u64 0, .int .u8 0], .int .i64 8]) w) _ _ _
          exact ret_pf4 (g := w.heap.size) (x := 2) (y := 3) rfl HB7.out hb7.out (Nat.le_refl _) rfl rfl rfl
      · have Hrn := Lib.hid (Hr1.out rfl)
        go_wp2_with fail
        rw [Hrn.out]
        show bodyPost _ _ (Got (.tuple #[.agg #[.bool false, .int .u64 0, .int .u64 0, .int .u8 0], .int .i64 8]) w) _ _ _
        exact ret_pf4 (g := w.heap.size) (x := 2) (y := 3) rfl HB6.out Hb6.out (Nat.le_refl _) rfl rfl rfl
  · have Hrn := Lib.hid (Hr2.out hNO)
    clear hNO
    go_upto_region 5 with fail
    have hB6 := HB5.out.alloc (.cells #[.bool av, .int .u64 (ahi : Int), .int .u64 (alo : Int), .int .u8 ((n : Int) % 256)] 39)
    have hD6 := Blk.new w5 39 #[.bool av, .int .u64 (ahi : Int), .int .u64 (alo : Int), .int .u8 ((n : Int) % 256)]
    have hb6 := after Hb5.out (boxed w5 (.cells #[.bool av, .int .u64 (ahi : Int), .int .u64 (alo : Int), .int .u8 ((n : Int) % 256)] 39))
    have hw5 : w.heap.size < w5.heap.size := HB5.out.lt
    generalize w5.alloc (.cells #[.bool av, .int .u64 (ahi : Int), .int .u64 (alo : Int), .int .u8 ((n : Int) % 256)] 39) = w6 at hB6 hD6 hb6 ⊢
    generalize w5.heap.size = g2 at hD6 hw5 ⊢
    clear a0 a1 a2
    have b0 := hD6.cell 0
    have b1 := hD6.cell 1
    have b2 := hD6.cell 2
    have b3 := hD6.cell 3
    simp at b0 b1 b2 b3
    have c0 := hB6.cell 0
    have c1 := hB6.cell 1
    have c2 := hB6.cell 2
    have c3 := hB6.cell 3
    simp at c0 c1 c2 c3
    have fr := fun i => hB6.frozen i
    have HB6 := Lib.hid hB6
    have HD6 := Lib.hid hD6
    have Hb6 := Lib.hid hb6
    clear hB6 hD6 hb6
    rcases her with rfl | rfl
    all_goals cases gap
    all_goals
      go_wp2_with fail
      rw [Hrn.out]
      show bodyPost _ _ (Got (.tuple #[.agg #[.bool false, .int .u64 0, .int .u64 0, .int .u8 0], .int .i64 8]) w) _ _ _
      exact ret_pf4 (g := w.heap.size) (x := 2) (y := 3) rfl HB6.out Hb6.out (Nat.le_refl _) rfl rfl rfl
end Go.Proofs.YtomndcjgdfhmbaaGreatDoor

/- ReadPrefix, the document's: the walk. (Printed by pt_rread.py.) -/
namespace Go.Proofs.YtomndcjgdfhmbaaGreatDoor
open Go.RowKit

set_option maxHeartbeats 8000000 in
set_option maxRecDepth 100000 in
theorem rreadPrefix_any {w : World} (env : Env w) (s : ByteArray) (hs : s.size ≤ 100000) : Calls Tryz.prog 24 #[.string s] w (Got (preadV (preadL s.data.toList)) w) := by
  rw [← preadR_eq]
  obtain ⟨RL, hRL⟩ : ∃ r, r = preadR s.data.toList := ⟨_, rfl⟩
  rw [← hRL]
  have hB0 := Blk.new w 39 #[.bool false, .int .u64 0, .int .u64 0, .int .u8 0]
  have hb0 := boxed w (.cells #[.bool false, .int .u64 0, .int .u64 0, .int .u8 0] 39)
  have hsp := split47 (w := w.alloc (.cells #[.bool false, .int .u64 0, .int .u64 0, .int .u8 0] 39)) s hs
  have hpl : ∀ t ∈ split1 47 s.data.toList, t.length ≤ 100000 := fun t ht => by
    have := split1_size ht
    have h2 : s.data.toList.length = s.size := (Lib.size_eq s).symm
    omega
  unfold preadR at hRL
  generalize split1 47 s.data.toList = Q at hsp hpl hRL
  by_cases h2 : Q.length = 2
  · rw [if_neg (by omega)] at hRL
    rw [h2] at hsp
    have hp0 : (Q.getD 0 []).length ≤ 100000 := by
      rw [List.getD_eq_getElem?_getD, List.getElem?_eq_getElem (show 0 < Q.length by omega)]
      exact hpl _ (List.getElem_mem _)
    have hp1 : (Q.getD 1 []).length ≤ 100000 := by
      rw [List.getD_eq_getElem?_getD, List.getElem?_eq_getElem (show 1 < Q.length by omega)]
      exact hpl _ (List.getElem_mem _)
    have hot : ∀ (v : World) (g cap : Nat), v.ownsRow (w.alloc (.cells #[.bool false, .int .u64 0, .int .u64 0, .int .u8 0] 39)).heap.size 9 1 (.slice (some ⟨g, 0, none⟩) 2 cap) 2 ((strs Q).map Value.string) → v.cell? ⟨g, 0, none⟩ = some (.string ⟨(Q.getD 0 []).toArray⟩) ∧ v.cell? ⟨g, 1, none⟩ = some (.string ⟨(Q.getD 1 []).toArray⟩) := fun v g cap h => ⟨own_text h 0 (by omega) h2, own_text h 1 (by omega) h2⟩
    have hrd := fun v (hv : Below w.heap.size w v) => rread_any (env.below hv) ⟨(Q.getD 0 []).toArray⟩ (by rw [show (⟨(Q.getD 0 []).toArray⟩ : ByteArray).size = (Q.getD 0 []).length by simp [ByteArray.size]]; exact hp0)
    have hdg := fun v => digits10 (w := v) (Q.getD 1 []) hp1
    rw [show (⟨(Q.getD 0 []).toArray⟩ : ByteArray).data.toList = Q.getD 0 [] by simp] at hrd
    obtain ⟨A, er, hA, hv, hro⟩ := readV_form (readL (Q.getD 0 [])) (fun a h => (readL_some h).2.1)
    rw [hv] at hrd
    generalize readL (Q.getD 0 []) = RO at hRL hro
    clear hv
    unfold digI at hdg
    generalize digL 10 (Q.getD 1 []) = NO at hRL hdg
    have hptx := fun n (hn : n < 256) v (hv : Below w.heap.size w v) => rprefixText_any (env.below hv) ⟨A, n⟩ ⟨hA, hn⟩
    have hiff : ∀ n, ptextB ⟨A, n⟩ = s ↔ ptext ⟨A, n⟩ = s.data.toList := fun n => ptextB_iff
    have hcells : ∀ n, Pf.cells ⟨A, n⟩ = #[.bool A.v6, .int .u64 (A.hi : Int), .int .u64 (A.lo : Int), .int .u8 (n : Int)] := fun _ => rfl
    simp only [hcells] at hptx
    have hr1 : er = 8 → RL = none := fun h => by
      rcases hro with ⟨e, _⟩ | ⟨_, e⟩
      · omega
      · rw [hRL, e]
    have hr2 : NO = none → RL = none := fun h => by
      rw [hRL, h]
      cases RO <;> rfl
    have hr4 : ∀ n, NO = some n → 128 < n → RL = none := fun n h h1 => by
      rw [hRL, h]
      cases RO with
      | none => rfl
      | some a => simp only; rw [if_pos h1]
    have hr3 : er = 0 → ∀ n, NO = some n → ¬ 128 < n → RL = if ptextB ⟨A, n⟩ = s then some ⟨A, n⟩ else none := fun h2 n h3 h4 => by
      rcases hro with ⟨_, e⟩ | ⟨e, _⟩
      · rw [hRL, h3, e]
        simp only
        rw [if_neg h4]
        by_cases h : ptextB ⟨A, n⟩ = s
        · rw [if_pos h, if_pos ((hiff n).1 h)]
        · rw [if_neg h, if_neg (fun e => h ((hiff n).2 e))]
      · omega
    have her : er = 0 ∨ er = 8 := by rcases hro with ⟨e, _⟩ | ⟨e, _⟩ <;> omega
    obtain ⟨PB, hPB⟩ : ∃ f : Nat → ByteArray, f = fun n => ptextB ⟨A, n⟩ := ⟨_, rfl⟩
    have hPB1 : ∀ n, ptextB ⟨A, n⟩ = PB n := fun n => by rw [hPB]
    simp only [hPB1] at hr3 hptx
    obtain ⟨T1, hT1⟩ : ∃ t, t = (⟨(Q.getD 0 []).toArray⟩ : ByteArray) := ⟨_, rfl⟩
    obtain ⟨T2, hT2⟩ : ∃ t, t = (⟨(Q.getD 1 []).toArray⟩ : ByteArray) := ⟨_, rfl⟩
    rw [← hT1] at hrd hot
    rw [← hT2] at hdg hot
    generalize A.v6 = av at hrd hptx hcells
    generalize A.hi = ahi at hrd hptx hcells
    generalize A.lo = alo at hrd hptx hcells
    have Hsp := Lib.hid hsp
    have Hot := Lib.hid hot
    have HRD := Lib.hid hrd
    have HDG := Lib.hid hdg
    have HPT := Lib.hid hptx
    have Hr1 := Lib.hid hr1
    have Hr2 := Lib.hid hr2
    have Hr3 := Lib.hid hr3
    have Hr4 := Lib.hid hr4
    have Hcells := Lib.hid hcells
    have HB0 := Lib.hid hB0
    have Hb0 := Lib.hid hb0
    clear hsp hot hrd hdg hptx hr1 hr2 hr3 hr4 hcells hB0 hb0 hiff hro hRL hT1 hT2 hPB hPB1 hA hpl hp0 hp1 h2 env
    go_enter Tryz.func24, Tryz.ntmps24
    go_wp2_with fail
    go_at_call 55
    refine Hsp.out.mono ?_
    rintro r w2 ⟨⟨v2, rfl, ho2⟩, d2⟩
    obtain ⟨g, cap, rfl⟩ := own_form ho2
    obtain ⟨t0, t1⟩ := Hot.out _ _ _ ho2
    have hgl := (ho2.lt g rfl).2
    have hB2 := HB0.out.below d2 HB0.out.lt
    have hb2 := after Hb0.out d2
    have HRD2 := Lib.hid (HRD.out w2 hb2)
    have HB2 := Lib.hid hB2
    have Hb2 := Lib.hid hb2
    clear hB2 hb2 d2 ho2
    go_wp2_with fail
    go_at_call 23
    refine HRD2.out.mono ?_
    rintro r w3 ⟨rfl, g3⟩
    have hB3 := HB2.out.below g3 HB2.out.lt
    have hb3 := after Hb2.out g3
    have hB4 := hB3.alloc (.cells #[.bool av, .int .u64 (ahi : Int), .int .u64 (alo : Int)] 24)
    have hD4 := Blk.new w3 24 #[.bool av, .int .u64 (ahi : Int), .int .u64 (alo : Int)]
    have hb4 := after hb3 (boxed w3 (.cells #[.bool av, .int .u64 (ahi : Int), .int .u64 (alo : Int)] 24))
    have hw3 : w.heap.size < w3.heap.size := hB3.lt
    have t2 := (World.cell?_alloc_lt w3 (.cells #[.bool av, .int .u64 (ahi : Int), .int .u64 (alo : Int)] 24) ⟨g, 1, none⟩ (by show g < _; have := g3.size; omega)).trans ((g3.cell (p := ⟨g, 1, none⟩) (by show g < _; exact hgl)).trans t1)
    clear hB3 hb3 g3 t0 t1
    go_upto_region 5 with fail
    generalize w3.alloc (.cells #[.bool av, .int .u64 (ahi : Int), .int .u64 (alo : Int)] 24) = w4 at hB4 hD4 hb4 t2 ⊢
    generalize w3.heap.size = g1 at hD4 hw3 ⊢
    have a0 := hD4.cell 0
    have a1 := hD4.cell 1
    have a2 := hD4.cell 2
    simp at a0 a1 a2
    have c0 := hB4.cell 0
    have c1 := hB4.cell 1
    have c2 := hB4.cell 2
    have c3 := hB4.cell 3
    simp at c0 c1 c2 c3
    have fr := fun i => hB4.frozen i
    have HB4 := Lib.hid hB4
    have Hb4 := Lib.hid hb4
    have HDG4 := Lib.hid (HDG.out w4)
    clear hB4 hD4 hb4
    go_wp2_with fail
    go_at_call 56
    refine HDG4.out.mono ?_
    rintro r w5 ⟨rfl, rfl⟩
    clear t2
    cases hNO : NO with
    | none =>
      have Hrn := Lib.hid (Hr2.out hNO)
      clear hNO
      rcases her with rfl | rfl
      all_goals
        go_wp2_with fail
        rw [Hrn.out]
        show bodyPost _ _ (Got (.tuple #[.agg #[.bool false, .int .u64 0, .int .u64 0, .int .u8 0], .int .i64 8]) w) _ _ _
        exact ret_pf4 (g := w.heap.size) (x := 2) (y := 3) rfl HB4.out Hb4.out (Nat.le_refl _) rfl rfl rfl
    | some n =>
      simp only
      by_cases hq : 128 < n
      · have Hrn := Lib.hid (Hr4.out n hNO hq)
        have hq1 : ¬ (n : Int) < 0 := by omega
        have hq2 : (128 : Int) < (n : Int) := by omega
        clear hNO
        rcases her with rfl | rfl
        all_goals
          go_wp2_with fail
          rw [Hrn.out]
          show bodyPost _ _ (Got (.tuple #[.agg #[.bool false, .int .u64 0, .int .u64 0, .int .u8 0], .int .i64 8]) w) _ _ _
          exact ret_pf4 (g := w.heap.size) (x := 2) (y := 3) rfl HB4.out Hb4.out (Nat.le_refl _) rfl rfl rfl
      · have hq1 : ¬ (n : Int) < 0 := by omega
        have hq2 : ¬ (128 : Int) < (n : Int) := by omega
        have hwr : IntKind.u8.wrap (n : Int) = (n : Int) := by rw [IntKind.wrap_u8]; omega
        rcases her with rfl | rfl
        · have hrl := Hr3.out rfl n hNO hq
          clear hNO
          go_upto_region 9 with fail
          have hB6 := HB4.out.alloc (.cells #[.bool av, .int .u64 (ahi : Int), .int .u64 (alo : Int), .int .u8 (n : Int)] 39)
          have hD6 := Blk.new w4 39 #[.bool av, .int .u64 (ahi : Int), .int .u64 (alo : Int), .int .u8 (n : Int)]
          have hb6 := after Hb4.out (boxed w4 (.cells #[.bool av, .int .u64 (ahi : Int), .int .u64 (alo : Int), .int .u8 (n : Int)] 39))
          have hw5 : w.heap.size < w4.heap.size := HB4.out.lt
          generalize w4.alloc (.cells #[.bool av, .int .u64 (ahi : Int), .int .u64 (alo : Int), .int .u8 (n : Int)] 39) = w6 at hB6 hD6 hb6 ⊢
          generalize w4.heap.size = g2 at hD6 hw5 ⊢
          clear a0 a1 a2 c0 c1 c2 c3 fr
          have b0 := hD6.cell 0
          have b1 := hD6.cell 1
          have b2 := hD6.cell 2
          have b3 := hD6.cell 3
          simp at b0 b1 b2 b3
          have c0 := hB6.cell 0
          have c1 := hB6.cell 1
          have c2 := hB6.cell 2
          have c3 := hB6.cell 3
          simp at c0 c1 c2 c3
          have fr := fun i => hB6.frozen i
          have HB6 := Lib.hid hB6
          have HD6 := Lib.hid hD6
          have Hb6 := Lib.hid hb6
          clear hB6 hD6 hb6
          have HPT6 := Lib.hid (HPT.out n (by omega) w6 Hb6.out)
          by_cases hts : PB n = s
          · have hq := str_same hts
            rw [if_pos hts] at hrl
            have Hrl := Lib.hid hrl
            clear hrl hts
            go_wp2_with (go_at_call 26; (with_reducible refine HPT6.out.mono ?_); rintro r w7 ⟨rfl, g7⟩; have hb7 := Lib.hid (after Hb6.out g7); have hB7 := HB6.out.below g7 HB6.out.lt; have hD7 := HD6.out.below g7 HD6.out.lt; clear b0 b1 b2 b3 c0 c1 c2 c3 fr; have b0 := hD7.cell 0; have b1 := hD7.cell 1; have b2 := hD7.cell 2; have b3 := hD7.cell 3; simp at b0 b1 b2 b3; have c0 := hB7.cell 0; have c1 := hB7.cell 1; have c2 := hB7.cell 2; have c3 := hB7.cell 3; simp at c0 c1 c2 c3; have fr := (fun i => hB7.frozen i); have HB7 := Lib.hid hB7; clear hB7 hD7 g7)
            rw [Hrl.out]
            show bodyPost _ _ (Got (.tuple #[.agg (Pf.cells ⟨A, n⟩), .int .i64 0]) w) _ _ _
            rw [Hcells.out]
            exact ret_pf4 (g := w.heap.size) (x := 2) (y := 3) rfl HB7.out hb7.out (Nat.le_refl _) rfl rfl rfl
          · have hq := str_diff hts
            rw [if_neg hts] at hrl
            have Hrl := Lib.hid hrl
            clear hrl hts
            go_wp2_with (go_at_call 26; (with_reducible refine HPT6.out.mono ?_); rintro r w7 ⟨rfl, g7⟩; have hb7 := Lib.hid (after Hb6.out g7); have hB7 := HB6.out.below g7 HB6.out.lt; have hD7 := HD6.out.below g7 HD6.out.lt; clear b0 b1 b2 b3 c0 c1 c2 c3 fr; have b0 := hD7.cell 0; have b1 := hD7.cell 1; have b2 := hD7.cell 2; have b3 := hD7.cell 3; simp at b0 b1 b2 b3; have c0 := hB7.cell 0; have c1 := hB7.cell 1; have c2 := hB7.cell 2; have c3 := hB7.cell 3; simp at c0 c1 c2 c3; have fr := (fun i => hB7.frozen i); have HB7 := Lib.hid hB7; clear hB7 hD7 g7)
            rw [Hrl.out]
            show bodyPost _ _ (Got (.tuple #[.agg #[.bool false, .int .u64 0, .int .u64 0, .int .u8 0], .int .i64 8]) w) _ _ _
            exact ret_pf4 (g := w.heap.size) (x := 2) (y := 3) rfl HB7.out hb7.out (Nat.le_refl _) rfl rfl rfl
        · have Hrn := Lib.hid (Hr1.out rfl)
          clear hNO
          go_wp2_with fail
          rw [Hrn.out]
          show bodyPost _ _ (Got (.tuple #[.agg #[.bool false, .int .u64 0, .int .u64 0, .int .u8 0], .int .i64 8]) w) _ _ _
          exact ret_pf4 (g := w.heap.size) (x := 2) (y := 3) rfl HB4.out Hb4.out (Nat.le_refl _) rfl rfl rfl
  · rw [if_pos h2] at hRL
    subst hRL
    have hq : ((Q.length : Int) == 2) = false := by simp; omega
    have Hsp := Lib.hid hsp
    have HB0 := Lib.hid hB0
    have Hb0 := Lib.hid hb0
    clear hsp hpl hB0 hb0
    go_enter Tryz.func24, Tryz.ntmps24
    go_wp2_with fail
    go_at_call 55
    refine Hsp.out.mono ?_
    rintro r w2 ⟨⟨v2, rfl, ho2⟩, d2⟩
    obtain ⟨A2, cap2, rfl⟩ := own_shape ho2
    have hB4 := HB0.out.below d2 HB0.out.lt
    have hb4 := after Hb0.out d2
    have c0 := hB4.cell 0
    have c1 := hB4.cell 1
    have c2 := hB4.cell 2
    have c3 := hB4.cell 3
    simp at c0 c1 c2 c3
    have fr := fun i => hB4.frozen i
    have HB4 := Lib.hid hB4
    have Hb4 := Lib.hid hb4
    clear hB4 hb4 d2 ho2
    go_wp2_with fail
    show bodyPost _ _ (Got (.tuple #[.agg #[.bool false, .int .u64 0, .int .u64 0, .int .u8 0], .int .i64 8]) w) _ _ _
    exact ret_pf4 (g := w.heap.size) (x := 2) (y := 3) rfl HB4.out Hb4.out (Nat.le_refl _) rfl rfl rfl
end Go.Proofs.YtomndcjgdfhmbaaGreatDoor

/- Decode of IPv6: the walk. -/
namespace Go.Proofs.YtomndcjgdfhmbaaGreatDoor
open Go.RowKit
attribute [local go_sem ↓] Go.wp_at_zero Go.wp_at_succ

theorem ret_pkaa {fn : Func} {a : Act} {W w : World} {g x y : Nat} {z0 z1 z2 z3 z4 z5 z6 z7 z8 v0 v1 v2 v3 v4 v5 v6 v7 v8 : Value} {e : Nat} {o1 o2 : Obj} (hres : fn.results = #[.cell x 26, .tmp y]) (hB : Blk w g 26 #[z0, z1, z2, z3, z4, z5, z6, z7, z8]) (hb : Below W.heap.size W w) (hg : W.heap.size ≤ g) (h1 : a.tmps.getD x undef = .pointer (some ⟨g, 0, none⟩)) (h2 : a.tmps.getD y undef = .int .i64 (e : Int)) (hd : a.defers = []) :
    bodyPost Tryz.prog fn (Got (.tuple #[.agg #[v0, v1, v2, v3, v4, v5, v6, v7, v8], .int .i64 (e : Int)]) W) .ret a (((((((((((w.setCell ⟨g, 0, none⟩ v0).setCell ⟨g, 1, none⟩ v1).setCell ⟨g, 2, none⟩ v2).setCell ⟨g, 3, none⟩ v3).setCell ⟨g, 4, none⟩ v4).setCell ⟨g, 5, none⟩ v5).setCell ⟨g, 6, none⟩ v6).setCell ⟨g, 7, none⟩ v7).setCell ⟨g, 8, none⟩ v8).alloc o1).alloc o2) := by
  have s0 : Blk (w.setCell ⟨g, 0, none⟩ v0) g 26 #[v0, z1, z2, z3, z4, z5, z6, z7, z8] := hB.set_ 0 v0
  have s1 : Blk ((w.setCell ⟨g, 0, none⟩ v0).setCell ⟨g, 1, none⟩ v1) g 26 #[v0, v1, z2, z3, z4, z5, z6, z7, z8] := s0.set_ 1 v1
  have s2 : Blk (((w.setCell ⟨g, 0, none⟩ v0).setCell ⟨g, 1, none⟩ v1).setCell ⟨g, 2, none⟩ v2) g 26 #[v0, v1, v2, z3, z4, z5, z6, z7, z8] := s1.set_ 2 v2
  have s3 : Blk ((((w.setCell ⟨g, 0, none⟩ v0).setCell ⟨g, 1, none⟩ v1).setCell ⟨g, 2, none⟩ v2).setCell ⟨g, 3, none⟩ v3) g 26 #[v0, v1, v2, v3, z4, z5, z6, z7, z8] := s2.set_ 3 v3
  have s4 : Blk (((((w.setCell ⟨g, 0, none⟩ v0).setCell ⟨g, 1, none⟩ v1).setCell ⟨g, 2, none⟩ v2).setCell ⟨g, 3, none⟩ v3).setCell ⟨g, 4, none⟩ v4) g 26 #[v0, v1, v2, v3, v4, z5, z6, z7, z8] := s3.set_ 4 v4
  have s5 : Blk ((((((w.setCell ⟨g, 0, none⟩ v0).setCell ⟨g, 1, none⟩ v1).setCell ⟨g, 2, none⟩ v2).setCell ⟨g, 3, none⟩ v3).setCell ⟨g, 4, none⟩ v4).setCell ⟨g, 5, none⟩ v5) g 26 #[v0, v1, v2, v3, v4, v5, z6, z7, z8] := s4.set_ 5 v5
  have s6 : Blk (((((((w.setCell ⟨g, 0, none⟩ v0).setCell ⟨g, 1, none⟩ v1).setCell ⟨g, 2, none⟩ v2).setCell ⟨g, 3, none⟩ v3).setCell ⟨g, 4, none⟩ v4).setCell ⟨g, 5, none⟩ v5).setCell ⟨g, 6, none⟩ v6) g 26 #[v0, v1, v2, v3, v4, v5, v6, z7, z8] := s5.set_ 6 v6
  have s7 : Blk ((((((((w.setCell ⟨g, 0, none⟩ v0).setCell ⟨g, 1, none⟩ v1).setCell ⟨g, 2, none⟩ v2).setCell ⟨g, 3, none⟩ v3).setCell ⟨g, 4, none⟩ v4).setCell ⟨g, 5, none⟩ v5).setCell ⟨g, 6, none⟩ v6).setCell ⟨g, 7, none⟩ v7) g 26 #[v0, v1, v2, v3, v4, v5, v6, v7, z8] := s6.set_ 7 v7
  have s8 : Blk (((((((((w.setCell ⟨g, 0, none⟩ v0).setCell ⟨g, 1, none⟩ v1).setCell ⟨g, 2, none⟩ v2).setCell ⟨g, 3, none⟩ v3).setCell ⟨g, 4, none⟩ v4).setCell ⟨g, 5, none⟩ v5).setCell ⟨g, 6, none⟩ v6).setCell ⟨g, 7, none⟩ v7).setCell ⟨g, 8, none⟩ v8) g 26 #[v0, v1, v2, v3, v4, v5, v6, v7, v8] := s7.set_ 8 v8
  exact bodyPost_ret (results_ct hres h1 h2 (load_pk ((s8.alloc o1).alloc o2))) hd ⟨rfl, after (after (((((((((hb.setCell (p := ⟨g, 0, none⟩) hg v0).setCell (p := ⟨g, 1, none⟩) hg v1).setCell (p := ⟨g, 2, none⟩) hg v2).setCell (p := ⟨g, 3, none⟩) hg v3).setCell (p := ⟨g, 4, none⟩) hg v4).setCell (p := ⟨g, 5, none⟩) hg v5).setCell (p := ⟨g, 6, none⟩) hg v6).setCell (p := ⟨g, 7, none⟩) hg v7).setCell (p := ⟨g, 8, none⟩) hg v8) (boxed _ _)) (boxed _ _)⟩

set_option maxHeartbeats 4000000 in
set_option maxRecDepth 100000 in
theorem six_short (s : ByteArray) (hs : s.size < 40) (w : World) : Calls Tryz.prog 40 #[.string s] w (Got (Res 7 Pk.zero) w) := by
  have hZ := Blk.new w 26 #[.bool false, .int .u64 0, .int .u64 0, .bool false, .int .u64 0, .int .u64 0, .int .u8 0, .int .u8 0, .string ⟨#[]⟩]
  have hz := boxed w (.cells #[.bool false, .int .u64 0, .int .u64 0, .bool false, .int .u64 0, .int .u64 0, .int .u8 0, .int .u8 0, .string ⟨#[]⟩] 26)
  go_enter Tryz.func40, Tryz.ntmps40
  go_wp2_with fail
  generalize hv : w.alloc (.cells #[.bool false, .int .u64 0, .int .u64 0, .bool false, .int .u64 0, .int .u64 0, .int .u8 0, .int .u8 0, .string ⟨#[]⟩] 26) = v at hZ hz ⊢
  have hvs : v.heap.size = w.heap.size + 1 := by rw [← hv]; simp
  clear hv
  go_at_call 62
  refine (new_any s v).mono ?_
  rintro r w1 ⟨rfl, hR, hN⟩
  have hbl := hR.lt
  have hZ1 := hZ.below hN hZ.lt
  have hz1 := after hz hN
  generalize hb : v.heap.size = b at hR hbl ⊢
  have hbb : w.heap.size ≤ b := by omega
  have hne : w.heap.size ≠ b := by omega
  have h0 := Lib.hid (show H6 w w.heap.size b w1.heap.size s 0 _ _ (w1.alloc (.cells #[.pointer (some ⟨b, 0, none⟩)] 91)) from ⟨⟨⟨s, 0, hR.below (boxed _ _), by omega, Or.inr ⟨rfl, by omega⟩⟩, hZ1.alloc _, after hz1 (boxed _ _)⟩, Blk.new _ _ _⟩)
  have hpb : w1.heap.size ≠ b := by omega
  clear hR hN hZ hz hb hvs hZ1 hz1 hbl

  go_wp2_with (first
    | (go_at_call 66; (with_reducible refine (U32_h6 h0.out hne hpb hbb).mono ?_); rintro r w2 ⟨⟨y1, rfl⟩, g, -⟩; have x1 := g.cell; have h1 := Lib.hid g; clear g))
  go_region_held3 (fun w' => w'.cell? ⟨w1.heap.size, 0, none⟩ = some (.pointer (some ⟨b, 0, none⟩)))
    (first | exact x1 | exact x2 | exact x3 | exact x4)
    (first
      | (go_at_call 64; (with_reducible refine (U16_h6 h1.out.drew hne hpb hbb).mono ?_); rintro r w3 ⟨⟨y2, rfl⟩, g, -⟩; have x2 := g.cell; have h2 := Lib.hid g; clear g)
      | (go_at_call 65; (with_reducible refine (U8_h6 h2.out hne hpb hbb).mono ?_); rintro r w4 ⟨⟨y3, rfl⟩, g, -⟩; have x3 := g.cell; have h3 := Lib.hid g; clear g)
      | (go_at_call 65; (with_reducible refine (U8_h6 h3.out hne hpb hbb).mono ?_); rintro r w5 ⟨⟨y4, rfl⟩, g, -⟩; have x4 := g.cell; have h4 := Lib.hid g; clear g))
  go_wp2_with (first
    | (go_at_call 68; (with_reducible refine (six1_h6 h4.out hne hpb hbb).mono ?_); rintro r w6 ⟨⟨z1, z2, rfl⟩, g⟩; have x5 := g.cell; have h5 := Lib.hid g; clear g)
    | (go_at_call 68; (with_reducible refine (six1_h6 h5.out hne hpb hbb).mono ?_); rintro r w7 ⟨⟨z3, z4, rfl⟩, g⟩; have x6 := g.cell; have q1 := g.ptr.lt; have q2 := g.sh.blk.lt; have hB := g.sh.blk; have c0 := hB.cell 0; have c1 := hB.cell 1; have c2 := hB.cell 2; have c3 := hB.cell 3; have c4 := hB.cell 4; have c5 := hB.cell 5; have c6 := hB.cell 6; have c7 := hB.cell 7; have c8 := hB.cell 8; simp at c0 c1 c2 c3 c4 c5 c6 c7 c8; have fr := (fun i => hB.frozen i); have HB := Lib.hid hB; clear hB; have h6 := Lib.hid g; clear g)
    | (go_at_call 67; refine (Fault_sh ((h6.out.below (boxed _ _)).below (boxed _ _)).sh (by omega)).mono ?_; rintro r wf ⟨rfl, rfl⟩))
  exact ret_pkaa (g := w.heap.size) (x := 2) (y := 3) (e := 7) rfl HB.out h6.out.sh.bel (Nat.le_refl _) rfl rfl rfl
end Go.Proofs.YtomndcjgdfhmbaaGreatDoor

/- The document's Decode: the walks. -/
namespace Go.Proofs.YtomndcjgdfhmbaaGreatDoor
open Go.RowKit
attribute [local go_sem ↓] Go.wp_at_zero Go.wp_at_succ

set_option maxHeartbeats 1000000 in
theorem rvalue_any (t : ByteArray) (ht : t.size ≤ 8) (w : World) : Calls Tryz.prog 72 #[.string t] w fun r w' => r = .returned (.int .u64 (valB t : Int)) ∧ w = w' := by
  go_enter Tryz.func72, Tryz.ntmps72
  go_wp2_with fail
  go_loopw [3, 4] (fun v3 v4 wr => ∃ k x : Nat, k ≤ t.size ∧ v3 = .int .u64 (x : Int) ∧ v4 = .int .i64 (k : Int) ∧ x = valL ((nats t).take k) ∧ wr = w) (fun _ v4 _ => t.size - (intOf v4).toNat)
  case atStart => exact ⟨0, 0, Nat.zero_le _, rfl, rfl, rfl, rfl⟩
  case round =>
    obtain ⟨k, x, hk, rfl, rfl, hx, rfl⟩ := hrel
    by_cases hlt : k < t.size
    · have hx0 := val_take_lt t k hk
      have hp : 256 ^ k ≤ 256 ^ 7 := Nat.pow_le_pow_right (by decide) (by omega)
      have hx1 : x < 256 ^ 7 := by rw [hx]; omega
      have hsucc := val_take t k hlt
      rw [← hx] at hsucc
      have hb : (t[k]'hlt).toNat < 256 := (t.data[k]'hlt).toNat_lt
      have hx2 : x < 2 ^ 56 := by simp at hx1; omega
      have hw2 : IntKind.u64.wrap ((x : Int) * 256) = (x : Int) * 256 := by rw [IntKind.wrap_u64]; omega
      have hw3 : IntKind.u64.wrap ((x : Int) * 256 + ((t[k]'hlt).toNat : Int)) = (x : Int) * 256 + ((t[k]'hlt).toNat : Int) := by rw [IntKind.wrap_u64]; omega
      have Hx := Lib.hid hx
      have Hs := Lib.hid hsucc
      have Hx0 := Lib.hid hx0
      have Hp := Lib.hid hp
      clear hx hsucc hx0 hp hx1 hx2
      go_wp2_with fail
      go_roundw
      case rel => exact ⟨k + 1, x * 256 + (t[k]'hlt).toNat, by omega, by first | rfl | go_num, by go_num, Hs.out.symm, (by first | rfl | trivial)⟩
      case measure => simp [intOf]; omega
    · have hks : k = t.size := by omega
      subst hks
      have e : (nats t).take t.size = nats t := by rw [← nats_length, List.take_length]
      rw [e] at hx
      have Hx := Lib.hid hx
      clear hx e
      go_wp2_with fail
      go_ret
      exact ⟨ret_int (by rw [Hx.out]; rfl), rfl⟩
end Go.Proofs.YtomndcjgdfhmbaaGreatDoor

/- The document's Decode: the walks. (Printed by ip_rdec.py.) -/
namespace Go.Proofs.YtomndcjgdfhmbaaGreatDoor
open Go.RowKit
attribute [local go_sem ↓] Go.wp_at_zero Go.wp_at_succ

theorem rfour_short (s : ByteArray) (hs : s.size < 20) (w : World) : Calls Tryz.prog 41 #[.string s] w (Got (Res 7 Pk.zero) w) := by
  go_enter Tryz.func41, Tryz.ntmps41
  go_wp2_with fail
  exact bodyPost_ret (results_ct rfl rfl rfl (load_pk (Blk.new _ _ _))) rfl ⟨rfl, boxed _ _⟩

def rfourA (s : ByteArray) : Nat := if valB (s.extract 0 1) % 16 ≠ 5 then 133 else fourE s
theorem and15 (x : Nat) (hx : x < 256) : bits .and .u8 (x : Int) 15 = ((x % 16 : Nat) : Int) := by
  have h : bits .and .u8 (x : Int) 15 = ((x &&& 15 : Nat) : Int) := u8_and_nat x 15 hx (by decide)
  rw [h, show (15 : Nat) = 2 ^ 4 - 1 from rfl, Nat.and_two_pow_sub_one_eq_mod]
theorem rvalue_at (s : ByteArray) (i j : Nat) (h : j ≤ i + 8) : Hid (∀ w, Calls Tryz.prog 72 #[.string (s.extract i j)] w fun r w' => r = .returned (.int .u64 (valB (s.extract i j) : Int)) ∧ w = w') := Lib.hid fun w => rvalue_any (s.extract i j) (by rw [bsize_extract]; omega) w

set_option maxHeartbeats 4000000 in
set_option maxRecDepth 100000 in
theorem rfour_long (s : ByteArray) (h20 : 20 ≤ s.size) (hs : s.size ≤ 65536) (w : World) : Calls Tryz.prog 41 #[.string s] w (Got (Res (rfourA s) (fourP s)) w) := by
  have hx0 : (s[0]'(by omega)).toNat = valB (s.extract 0 1) := (byte_at s 0 (by omega)).symm
  have hx9 : (s[9]'(by omega)).toNat = valB (s.extract 9 10) := (byte_at s 9 (by omega)).symm
  have hx8 : (s[8]'(by omega)).toNat = valB (s.extract 8 9) := (byte_at s 8 (by omega)).symm
  have hv0 : valB (s.extract 0 1) < 256 := by rw [← hx0]; exact UInt8.toNat_lt _
  have ha0 := and15 _ hv0
  have hv2 := valB_two s 2 4 rfl
  have hv6 := valB_two s 6 8 rfl
  have ha6 : bits .and .u64 ((valB (s.extract 6 8) : Nat) : Int) 49151 = ((valB (s.extract 6 8) &&& 49151 : Nat) : Int) := u64_and_nat (valB (s.extract 6 8)) 49151 (by omega) (by decide)
  have H2 := rvalue_at s 2 4 (by omega)
  have H6 := rvalue_at s 6 8 (by omega)
  have H12 := rvalue_at s 12 16 (by omega)
  have H16 := rvalue_at s 16 20 (by omega)
  have Hsum := Lib.hid (rsum_any (s.extract 0 20) (by rw [bsize_extract]; omega))
  have hlen : (20 : Int) ≤ (s.size : Int) := by omega
  have hl2 : (4 : Int) ≤ (s.size : Int) := by omega
  have hl6 : (8 : Int) ≤ (s.size : Int) := by omega
  have hl16 : (16 : Int) ≤ (s.size : Int) := by omega
  have hi9 : 9 < s.size := by omega
  have hi8 : 8 < s.size := by omega
  have hj9 : (9 : Int) < (s.size : Int) := by omega
  have hj8 : (8 : Int) < (s.size : Int) := by omega
  have HP : Hid (fourP s = ⟨⟨false, 0, valB (s.extract 12 16)⟩, ⟨false, 0, valB (s.extract 16 20)⟩, valB (s.extract 9 10), valB (s.extract 8 9), s.extract 20 s.size⟩) := Lib.hid rfl
  have HA : Hid (rfourA s = if valB (s.extract 0 1) % 16 ≠ 5 then 133 else if valB (s.extract 2 4) ≠ s.size then 8 else if sumB (s.extract 0 20) ≠ 0 then 131 else if valB (s.extract 6 8) &&& 49151 ≠ 0 then 132 else 0) := Lib.hid rfl
  generalize rfourA s = EA at HA ⊢
  generalize fourP s = PA at HP ⊢
  generalize valB (s.extract 0 1) % 16 = N0 at ha0 HA
  generalize valB (s.extract 0 1) = X0 at hx0 hv0 ha0 HA
  generalize valB (s.extract 6 8) &&& 49151 = V6 at ha6 HA
  generalize valB (s.extract 6 8) = W6 at hv6 ha6 H6
  generalize valB (s.extract 2 4) = V2 at hv2 H2 HA
  generalize valB (s.extract 12 16) = V12 at H12 HP
  generalize valB (s.extract 16 20) = V16 at H16 HP
  generalize valB (s.extract 9 10) = V9 at hx9 HP
  generalize valB (s.extract 8 9) = V8 at hx8 HP
  generalize sumB (s.extract 0 20) = SM at Hsum HA
  go_enter Tryz.func41, Tryz.ntmps41
  go_wp2_with (first
    | (go_at_call 72; first
      | (with_reducible refine (H2.out _).mono ?_; rintro r wf ⟨rfl, rfl⟩)
      | (with_reducible refine (H6.out _).mono ?_; rintro r wf ⟨rfl, rfl⟩))
    | (go_at_call 15; with_reducible refine (Hsum.out _).mono ?_; rintro r wf ⟨rfl, rfl⟩))
  all_goals first
    | (have t1 : (((N0 : Nat) : Int) != 5) = true := by with_reducible assumption
       have e : EA = 133 := by rw [HA.out, if_pos (by simp at t1; omega)]
       rw [e]
       exact bodyPost_ret (results_ct rfl rfl rfl (load_pk (Blk.new _ _ _))) rfl ⟨rfl, boxed _ _⟩)
    | (have t1 : (((N0 : Nat) : Int) != 5) = false := by with_reducible assumption
       have t2 : (((V2 : Nat) : Int) != (s.size : Int)) = true := by with_reducible assumption
       have e : EA = 8 := by rw [HA.out, if_neg (by simp at t1; omega), if_pos (by simp at t2; omega)]
       rw [e]
       exact bodyPost_ret (results_ct rfl rfl rfl (load_pk (Blk.new _ _ _))) rfl ⟨rfl, boxed _ _⟩)
    | (have t1 : (((N0 : Nat) : Int) != 5) = false := by with_reducible assumption
       have t2 : (((V2 : Nat) : Int) != (s.size : Int)) = false := by with_reducible assumption
       have t3 : (((SM : Nat) : Int) != 0) = true := by with_reducible assumption
       have e : EA = 131 := by rw [HA.out, if_neg (by simp at t1; omega), if_neg (by simp at t2; omega), if_pos (by simp at t3; omega)]
       rw [e]
       exact bodyPost_ret (results_ct rfl rfl rfl (load_pk (Blk.new _ _ _))) rfl ⟨rfl, boxed _ _⟩)
    | (have t1 : (((N0 : Nat) : Int) != 5) = false := by with_reducible assumption
       have t2 : (((V2 : Nat) : Int) != (s.size : Int)) = false := by with_reducible assumption
       have t3 : (((SM : Nat) : Int) != 0) = false := by with_reducible assumption
       have t4 : (((V6 : Nat) : Int) != 0) = true := by with_reducible assumption
       have e : EA = 132 := by rw [HA.out, if_neg (by simp at t1; omega), if_neg (by simp at t2; omega), if_neg (by simp at t3; omega), if_pos (by simp at t4; omega)]
       rw [e]
       exact bodyPost_ret (results_ct rfl rfl rfl (load_pk (Blk.new _ _ _))) rfl ⟨rfl, boxed _ _⟩)
    | skip
  have t1 : (((N0 : Nat) : Int) != 5) = false := by with_reducible assumption
  have t2 : (((V2 : Nat) : Int) != (s.size : Int)) = false := by with_reducible assumption
  have t3 : (((SM : Nat) : Int) != 0) = false := by with_reducible assumption
  have t4 : (((V6 : Nat) : Int) != 0) = false := by with_reducible assumption
  have e : EA = 0 := by rw [HA.out, if_neg (by simp at t1; omega), if_neg (by simp at t2; omega), if_neg (by simp at t3; omega), if_neg (by simp at t4; omega)]
  refine wp_region_still_tail 15 (by kernel_rfl) (by kernel_rfl) ?_
  simp only [List.take_succ_cons, List.take_zero, List.drop_succ_cons, List.drop_zero]
  repeat still_step
  still_call ((H12.out _).mono fun _ _ h => ⟨h.1, h.2.symm⟩)
  repeat still_step
  still_call ((H16.out _).mono fun _ _ h => ⟨h.1, h.2.symm⟩)
  repeat still_step
  refine wpStill_nil ?_
  change wpList _ _ _ _ _ (w.alloc (.cells #[.bool false, .int .u64 0, .int .u64 0, .bool false, .int .u64 0, .int .u64 0, .int .u8 0, .int .u8 0, .string ⟨#[]⟩] 26)).drew
  go_wp2_with fail
  all_goals go_ways
  all_goals rw [e, HP.out]
  all_goals exact bodyPost_ret (results_ct rfl rfl rfl (load_pk (Blk.drew (Blk.new _ _ _)))) rfl ⟨rfl, (boxed _ _).drew⟩
end Go.Proofs.YtomndcjgdfhmbaaGreatDoor
