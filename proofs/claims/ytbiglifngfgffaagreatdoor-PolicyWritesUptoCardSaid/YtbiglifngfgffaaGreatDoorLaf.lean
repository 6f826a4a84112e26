/- Joined out of: PfC PfD WhA IpL IpLb IpQ IpT WhB TwC TxF. -/
import Derived.Test.YtbiglifngfgffaaGreatDoorLaa
import Derived.Test.YtbiglifngfgffaaGreatDoorLae
import Derived.Deep.RegionHeld3
import Derived.BigRegion
import Derived.Deep.DrawnRows
import Derived.Deep.CutBlock
import Derived.Test.YtbiglifngfgffaaGreatDoorLad
import Derived.Test.YtbiglifngfgffaaGreatDoorLab
import Derived.Laws.CopyOwn
import Derived.Deep.Onto
set_option linter.unusedVariables false
set_option linter.unusedSimpArgs false

/- MayPrefix: the walks. (Printed by pf_may.py.) -/
namespace Go.Proofs.YtbiglifngfgffaaGreatDoor
open Go.RowKit
attribute [local go_sem ↓] Go.wp_at_zero Go.wp_at_succ

set_option maxHeartbeats 2000000 in
set_option maxRecDepth 100000 in
theorem mayPrefix_any (p : Pf) (ok : p.Ok) (w : World) : Calls Tryz.prog 44 #[.agg p.cells] w (Got (.bool (pmay p)) w) := by
  have HE := Lib.hid (pmay_eq (p := p) ok.a)
  have Hm := Lib.hid (mayAddr_any p.a ok.a)
  have Hs := Lib.hid (size_any p.a)
  have hn := ok.bits
  have hh := ok.a.hi
  have hl := ok.a.lo
  have HX : p.bits ≤ p.a.size → ∀ w, Calls Tryz.prog 80 #[.agg p.a.cells, .int .u8 (p.bits : Int)] w fun r w' => r = .returned (.tuple #[.int .u64 (mk (kH p.a p.bits) : Int), .int .u64 (mk (kL p.a p.bits) : Int)]) ∧ Below w.heap.size w w' := fun h w => masks_any p.a p.bits h w
  have eH := andNot_mk hh (kH_le p.a p.bits)
  have eL := andNot_mk hl (kL_le (a := p.a) (n := p.bits))
  generalize mk (kH p.a p.bits) = MH at HX eH
  generalize mk (kL p.a p.bits) = ML at HX eL
  generalize p.a.hi % 2 ^ kH p.a p.bits = XH at HE eH
  generalize p.a.lo % 2 ^ kL p.a p.bits = XL at HE eL
  generalize hR : pmay p = RR at HE ⊢
  clear hR
  generalize hM : p.a.may = M at Hm HE HX
  generalize hS : p.a.size = SZ at Hs HE HX
  have hS2 : SZ ≤ 128 := by rw [← hS]; exact size_le _
  clear hM hS
  obtain ⟨⟨v, h, l⟩, n⟩ := p
  unfold Pf.cells
  unfold Ad.cells at *
  simp only at hn hh hl HE Hm Hs HX eH eL ⊢
  have hB0 := Blk.new w 51 #[.bool v, .int .u64 (h : Int), .int .u64 (l : Int), .int .u8 (n : Int)]
  have hb0 := (boxed w (.cells #[.bool v, .int .u64 (h : Int), .int .u64 (l : Int), .int .u8 (n : Int)] 51)).drew
  have EH := Lib.hid eH
  have EL := Lib.hid eL
  clear eH eL
  cases M with
  | false =>
    have e : RR = false := by rw [HE.out]; rfl
    rw [e]
    go_enter Tryz.func44, Tryz.ntmps44
    go_wp2_with fail
    generalize w.alloc (.cells #[.bool v, .int .u64 (h : Int), .int .u64 (l : Int), .int .u8 (n : Int)] 51) = v0 at hB0 hb0 ⊢
    generalize hg : w.heap.size = g at hB0 ⊢
    have hB0 := hB0.drew
    refine wp_region_held_drew (S := (fun w' => w'.cell? ⟨g, 0, none⟩ = some (.bool v) ∧ w'.cell? ⟨g, 1, none⟩ = some (.int .u64 (h : Int)) ∧ w'.cell? ⟨g, 2, none⟩ = some (.int .u64 (l : Int)) ∧ w'.cell? ⟨g, 3, none⟩ = some (.int .u8 (n : Int)))) (by kernel_rfl) ⟨hB0.cell 0, hB0.cell 1, hB0.cell 2, hB0.cell 3⟩ (fun hHeld => ?_)
    refine tH 0 ?_; try simp only [Ap]
    refine tH 1 ?_; try simp only [Ap]
    refine wpAnyH_ready (rs := [2]) (by kernel_rfl) (by simp) ?_
    refine AllReadyH.cons rfl (fun K hK => ?_) AllReadyH.nil
    go_simp
    refine (Hm.out _).mono ?_
    rintro r v1 ⟨rfl, d1⟩
    have hb1 := after hb0 d1
    have hB1 := hB0.below d1 hB0.lt
    refine hK.out _ _ ⟨hB1.cell 0, hB1.cell 1, hB1.cell 2, hB1.cell 3⟩ (fun hHeld => ?_)
    clear hK K
    try simp only [Ap]
    refine tH 3 ?_; try simp only [Ap]
    refine tH 4 ?_; try simp only [Ap]
    refine tU 5 ?_; try simp only [Ap]
    refine tU 6 ?_; try simp only [Ap]
    refine tU 7 ?_; try simp only [Ap]
    refine tU 8 ?_; try simp only [Ap]
    refine tU 9 ?_; try simp only [Ap]
    refine tU 10 ?_; try simp only [Ap]
    refine tH 11 ?_; try simp only [Ap]
    refine wpAnyH_done (by kernel_rfl) ?_ _
    go_wp2_with fail
    go_ret
    exact ⟨rfl, hb1⟩
  | true =>
    by_cases hle : n ≤ SZ
    · have HX2 := Lib.hid (HX hle)
      clear HX
      have hle' : ¬ (SZ : Int) < (n : Int) := by omega
      have hle2 : decide ((SZ : Int) < (n : Int)) = false := decide_eq_false hle'
      have hle3 : decide (SZ < n) = false := decide_eq_false (by omega)
      have e : RR = (decide (XH = 0) && decide (XL = 0)) := by rw [HE.out, decide_eq_true hle]; rfl
      have He := Lib.hid e
      clear e
      go_enter Tryz.func44, Tryz.ntmps44
      go_wp2_with fail
      generalize w.alloc (.cells #[.bool v, .int .u64 (h : Int), .int .u64 (l : Int), .int .u8 (n : Int)] 51) = v0 at hB0 hb0 ⊢
      generalize hg : w.heap.size = g at hB0 ⊢
      have hB0 := hB0.drew
      refine wp_region_held_drew (S := (fun w' => w'.cell? ⟨g, 0, none⟩ = some (.bool v) ∧ w'.cell? ⟨g, 1, none⟩ = some (.int .u64 (h : Int)) ∧ w'.cell? ⟨g, 2, none⟩ = some (.int .u64 (l : Int)) ∧ w'.cell? ⟨g, 3, none⟩ = some (.int .u8 (n : Int)))) (by kernel_rfl) ⟨hB0.cell 0, hB0.cell 1, hB0.cell 2, hB0.cell 3⟩ (fun hHeld => ?_)
      refine tH 0 ?_; try simp only [Ap]
      refine tH 1 ?_; try simp only [Ap]
      refine wpAnyH_ready (rs := [2]) (by kernel_rfl) (by simp) ?_
      refine AllReadyH.cons rfl (fun K hK => ?_) AllReadyH.nil
      go_simp
      refine (Hm.out _).mono ?_
      rintro r v1 ⟨rfl, d1⟩
      have hb1 := after hb0 d1
      have hB1 := hB0.below d1 hB0.lt
      refine hK.out _ _ ⟨hB1.cell 0, hB1.cell 1, hB1.cell 2, hB1.cell 3⟩ (fun hHeld => ?_)
      clear hK K
      try simp only [Ap]
      refine tH 3 ?_; try simp only [Ap]
      refine tH 4 ?_; try simp only [Ap]
      refine tH 5 ?_; try simp only [Ap]
      refine tH 6 ?_; try simp only [Ap]
      refine tH 7 ?_; try simp only [Ap]
      refine tH 8 ?_; try simp only [Ap]
      refine wpAnyH_ready (rs := [9]) (by kernel_rfl) (by simp) ?_
      refine AllReadyH.cons rfl (fun K hK => ?_) AllReadyH.nil
      go_simp
      refine (Hs.out _).mono ?_
      rintro r v2 ⟨rfl, d2⟩
      have hb2 := after hb1 d2
      have hB2 := hB1.below d2 hB1.lt
      refine hK.out _ _ ⟨hB2.cell 0, hB2.cell 1, hB2.cell 2, hB2.cell 3⟩ (fun hHeld => ?_)
      clear hK K
      try simp only [Ap]
      refine tH 10 ?_; try simp only [Ap]
      refine tH 11 ?_; try simp only [Ap]
      refine wpAnyH_done (by kernel_rfl) ?_ _
      have c0 := hB2.cell 0
      have c1 := hB2.cell 1
      have c2 := hB2.cell 2
      have c3 := hB2.cell 3
      simp at c0 c1 c2 c3
      have HB2 := Lib.hid hB2
      have Hb2 := Lib.hid hb2
      have eH := EH.out
      have eL := EL.out
      have hg2 : g < v2.heap.size := hB2.lt
      clear hB0 hb0 hB1 hb1 hB2 hb2
      by_cases h1 : XH = 0
      all_goals by_cases h2 : XL = 0
      all_goals
        have q1 : ((XH : Int) == 0) = decide (XH = 0) := by rw [Bool.eq_iff_iff, beq_iff_eq, decide_eq_true_iff]; omega
        have q2 : ((XL : Int) == 0) = decide (XL = 0) := by rw [Bool.eq_iff_iff, beq_iff_eq, decide_eq_true_iff]; omega
        first | rw [decide_eq_true h1] at q1 He | rw [decide_eq_false h1] at q1 He
        first | rw [decide_eq_true h2] at q2 He | rw [decide_eq_false h2] at q2 He
        clear h1 h2
        go_wp2_with (go_at_call 80; (with_reducible refine (HX2.out _).mono ?_); rintro r v3 ⟨rfl, d3⟩; have hc3 := (bcell d3).1)
        go_ret
        exact ⟨show Ending.returned (.bool _) = _ by rw [He.out]; rfl, after Hb2.out d3⟩
    · have hle' : (SZ : Int) < (n : Int) := by omega
      have hle2 : decide ((SZ : Int) < (n : Int)) = true := decide_eq_true hle'
      have hle3 : decide (SZ < n) = true := decide_eq_true (by omega)
      have e : RR = false := by rw [HE.out, decide_eq_false hle]; rfl
      rw [e]
      clear HX e
      go_enter Tryz.func44, Tryz.ntmps44
      go_wp2_with fail
      generalize w.alloc (.cells #[.bool v, .int .u64 (h : Int), .int .u64 (l : Int), .int .u8 (n : Int)] 51) = v0 at hB0 hb0 ⊢
      generalize hg : w.heap.size = g at hB0 ⊢
      have hB0 := hB0.drew
      refine wp_region_held_drew (S := (fun w' => w'.cell? ⟨g, 0, none⟩ = some (.bool v) ∧ w'.cell? ⟨g, 1, none⟩ = some (.int .u64 (h : Int)) ∧ w'.cell? ⟨g, 2, none⟩ = some (.int .u64 (l : Int)) ∧ w'.cell? ⟨g, 3, none⟩ = some (.int .u8 (n : Int)))) (by kernel_rfl) ⟨hB0.cell 0, hB0.cell 1, hB0.cell 2, hB0.cell 3⟩ (fun hHeld => ?_)
      refine tH 0 ?_; try simp only [Ap]
      refine tH 1 ?_; try simp only [Ap]
      refine wpAnyH_ready (rs := [2]) (by kernel_rfl) (by simp) ?_
      refine AllReadyH.cons rfl (fun K hK => ?_) AllReadyH.nil
      go_simp
      refine (Hm.out _).mono ?_
      rintro r v1 ⟨rfl, d1⟩
      have hb1 := after hb0 d1
      have hB1 := hB0.below d1 hB0.lt
      refine hK.out _ _ ⟨hB1.cell 0, hB1.cell 1, hB1.cell 2, hB1.cell 3⟩ (fun hHeld => ?_)
      clear hK K
      try simp only [Ap]
      refine tH 3 ?_; try simp only [Ap]
      refine tH 4 ?_; try simp only [Ap]
      refine tH 5 ?_; try simp only [Ap]
      refine tH 6 ?_; try simp only [Ap]
      refine tH 7 ?_; try simp only [Ap]
      refine tH 8 ?_; try simp only [Ap]
      refine wpAnyH_ready (rs := [9]) (by kernel_rfl) (by simp) ?_
      refine AllReadyH.cons rfl (fun K hK => ?_) AllReadyH.nil
      go_simp
      refine (Hs.out _).mono ?_
      rintro r v2 ⟨rfl, d2⟩
      have hb2 := after hb1 d2
      have hB2 := hB1.below d2 hB1.lt
      refine hK.out _ _ ⟨hB2.cell 0, hB2.cell 1, hB2.cell 2, hB2.cell 3⟩ (fun hHeld => ?_)
      clear hK K
      try simp only [Ap]
      refine tH 10 ?_; try simp only [Ap]
      refine tH 11 ?_; try simp only [Ap]
      refine wpAnyH_done (by kernel_rfl) ?_ _
      go_wp2_with fail
      go_ret
      exact ⟨rfl, hb2⟩
end Go.Proofs.YtbiglifngfgffaaGreatDoor

/- Holds, Less: the program's walks. -/
namespace Go.Proofs.YtbiglifngfgffaaGreatDoor
open Go.RowKit
attribute [local go_sem ↓] Go.wp_at_zero Go.wp_at_succ

theorem two_boxed (w : World) (o o' : Obj) : Below w.heap.size w ((w.alloc o).alloc o') := after (boxed _ _) (boxed _ _)
end Go.Proofs.YtbiglifngfgffaaGreatDoor

/- append of noughts ('append(x, make([]T, k)...)'), of nothing; slices.Clone: the laws, the walk. -/
namespace Go.Proofs.YtbiglifngfgffaaGreatDoor
open Go.RowKit

theorem zeroCells_one (z : Value) (hz : z.cells = #[z]) (k : Nat) : Builtin.zeroCells z.cells k = (List.replicate k z).toArray := by
  unfold Builtin.zeroCells
  rw [hz]
  apply Array.ext
  · simp
  · intro i h1 h2
    simp
    have : i % 1 = 0 := Nat.mod_one i
    simp [this]

section
variable {P : Program} (w : World)
theorem run_append_make (base : Nat) (t tx ty e : TypeId) (i : TypeInfo) (z : Value) (ht : P.underlying t = some (.slice e)) (hx : P.underlying tx = some (.int .i64)) (hi : P.info? e = some i) (hz : i.zero = some z)
    (hsize : i.size = 1) (hby : i.bytes = 8) (hzc : z.cells = #[z]) (hz1 : z.oneCell' = true)
    (v : Value) (n : Nat) (xs : List Value) (hown : w.ownsRow base e 1 v n xs) (k : Nat) (hk : k ≤ 1000) (hn : n ≤ 1000) (hbase : base ≤ w.heap.size) :
    ∃ v' w', (Builtin.append_ #[t, tx] ty #[v, .int .i64 (k : Int)]).run P w = .ok v' w' ∧ w'.ownsRow base e 1 v' (n + k) (xs ++ List.replicate k z) ∧ w.grownBy w' v.ownBlock := by
  have hwr : IntKind.i64.wrap (k : Int) = (k : Int) := by rw [IntKind.wrap_i64]; omega
  have hw0 : IntKind.i64.wrap 0 = 0 := by rw [IntKind.wrap_i64]; decide
  have hneg : ¬ ((k : Int) < 0) := by omega
  have hbig : ¬ (281474976710656 < (k : Int) * 8) := by omega
  have hlen : (xs ++ List.replicate k z).length = (n + k) * 1 := by rw [List.length_append, hown.1, List.length_replicate]; omega
  have grown : ∀ (old : Nat), old < n + k → ∀ (row : Option Nat),
      (w.drew.alloc (.cells (xs.toArray ++ (List.replicate k z).toArray ++ Builtin.zeroCells z.cells (grownCap w (n + k) old e - (n + k))) e)).ownsRow base e 1
        (.slice (some ⟨w.heap.size, 0, none⟩) (n + k) (grownCap w (n + k) old e)) (n + k) (xs ++ List.replicate k z) ∧
      w.grownBy (w.drew.alloc (.cells (xs.toArray ++ (List.replicate k z).toArray ++ Builtin.zeroCells z.cells (grownCap w (n + k) old e - (n + k))) e)) row := by
    intro old ho row
    have hge := grownCap_ge w (n + k) old e
    have hcm : grownCap w (n + k) old e ≤ maxLen := grownCap_le_maxLen w (n + k) old e (by simp only [maxLen]; omega)
    refine ⟨⟨hlen, .inr ⟨w.heap.size, _, _, rfl, hbase, heap_alloc_new w.drew _, hge, hcm, ?_, ?_⟩⟩, ⟨rfl, rfl, rfl, by simp, fun q hq _ => (Below.heap_alloc w.drew _ q hq)⟩⟩
    · simp only [Array.size_append, List.size_toArray, size_zeroCells, hzc, hown.1, List.length_replicate]
      simp
      omega
    · simp only [Array.toList_append, List.append_assoc]
      rw [← List.append_assoc, ← hlen]
      exact List.take_left
  have h63 : ¬ (9223372036854775807 < ((n : Int) + (k : Int))) := by omega
  rcases hown.2 with ⟨rfl, rfl⟩ | ⟨g, cap, cur, rfl, hbg, hg, hnc, hcm, hcs, htake⟩
  · have hx0 : xs = [] := List.eq_nil_of_length_eq_zero (by simpa using hown.1)
    subst hx0
    by_cases hm : k = 0
    · subst hm
      refine ⟨.slice none 0 0, w, ?_, World.ownsRow_nil w base e 1, ⟨rfl, rfl, rfl, Nat.le_refl _, fun _ _ _ => rfl⟩⟩
      simp [Builtin.append_, run_underlying ht, run_underlying hx, sizeOf, typeInfo, hi, asInt, asIntOf, hwr, hw0]
    · have hm0 : ¬ k ≤ 0 := by omega
      have h48' : ¬ (281474976710656 < Builtin.nextslicecap k 0 * 8) := by rw [nextslicecap_zero (by omega)]; omega
      have h63' : ¬ (9223372036854775807 < (k : Int)) := by omega
      have hgr := grown 0 (by omega) (Value.ownBlock (.slice none 0 0))
      simp only [Nat.zero_add, List.nil_append, Array.empty_append] at hgr ⊢
      refine ⟨_, _, ?_, hgr.1, hgr.2⟩
      simp [Builtin.append_, run_underlying ht, run_underlying hx, sizeOf, typeInfo, zeroValue, hi, hz, hsize, hby, asInt, asIntOf, hwr, hneg, hbig, hm, h63', h48', Question.forced, run_firstCells_none, newRow, grownCap, zeroCells_one z hzc]
  · by_cases hroom : n + k ≤ cap
    · have hst := run_storeCells_at P g n e (List.replicate k z) 0 cur w hg (by simp only [List.length_replicate]; omega) (fun u hu => by rw [(List.mem_replicate.1 hu).2]; exact hz1)
      simp only [Nat.add_zero] at hst
      have hadd : (⟨g, 0, none⟩ : Addr).add n = ⟨g, n, none⟩ := by unfold Addr.add; split <;> simp_all
      refine ⟨.slice (some ⟨g, 0, none⟩) (n + k) cap, _, ?_, ⟨hlen, .inr ⟨g, cap, _, rfl, hbg, setRow_heap w g cur (cur.toList.take n ++ List.replicate k z ++ cur.toList.drop (n + (List.replicate k z).length)).toArray e _ hg, hroom, hcm, ?_, ?_⟩⟩, ⟨rfl, rfl, rfl, by simp, fun q _ hq => setRow_other w g q _ (fun e => hq (by simp [Value.ownBlock, e]))⟩⟩
      · by_cases hm : k = 0
        · subst hm
          simp at hst
          simp [Builtin.append_, run_underlying ht, run_underlying hx, sizeOf, typeInfo, zeroValue, hi, hz, hsize, hby, asInt, asIntOf, hw0, hroom, hadd, hst]
          intro h
          omega
        · simp [Builtin.append_, run_underlying ht, run_underlying hx, sizeOf, typeInfo, zeroValue, hi, hz, hsize, hby, asInt, asIntOf, hwr, hneg, hbig, hm, hroom, hadd, zeroCells_one z hzc, hst]
      · simp only [List.size_toArray, List.length_append, List.length_take, List.length_drop, Array.length_toList, List.length_replicate]
        omega
      · have e : cur.toList.take n = xs := by rw [← htake, Nat.mul_one]
        rw [e, ← hlen]
        exact List.take_left
    · have holds : ∀ j u, xs[j]? = some u → w.cell? ((⟨g, 0, none⟩ : Addr).add j) = some u := hown.cells (g := g) rfl
      have hm : k ≠ 0 := by omega
      have hfit := growslice_fits (old := cap) (need := n + k) (bytes := 8) (by omega) (by omega)
      have h48' : ¬ (281474976710656 < Builtin.nextslicecap (n + k) cap * 8) := by omega
      have hfo := run_firstCells_some (P := P) w.drew 1 n ⟨g, 0, none⟩ n cap xs hown.1 (by simpa using holds)
      have hgr := grown cap (by omega) (Value.ownBlock (.slice (some ⟨g, 0, none⟩) n cap))
      refine ⟨_, _, ?_, hgr.1, hgr.2⟩
      simp [Builtin.append_, run_underlying ht, run_underlying hx, sizeOf, typeInfo, zeroValue, hi, hz, hsize, hby, asInt, asIntOf, hwr, hneg, hbig, hm, hroom, h63, h48', Question.forced, hfo, newRow, grownCap, zeroCells_one z hzc]

theorem run_append_none (base : Nat) (t ty e : TypeId) (i : TypeInfo) (ht : P.underlying t = some (.slice e)) (hi : P.info? e = some i) (hsize : i.size = 1)
    (v : Value) (n : Nat) (xs : List Value) (hown : w.ownsRow base e 1 v n xs) : (Builtin.append_ #[t, t] ty #[v, .slice none 0 0]).run P w = .ok v w := by
  rcases hown.2 with ⟨rfl, rfl⟩ | ⟨g, cap, cur, rfl, hbg, hg, hnc, hcm, hcs, htake⟩
  · simp [Builtin.append_, run_underlying ht, sizeOf, typeInfo, hi, Builtin.lenOf, Builtin.firstCells]
  · simp [Builtin.append_, run_underlying ht, sizeOf, typeInfo, hi, hsize, Builtin.lenOf, Builtin.firstCells, storeCells, hnc]
theorem run_append_two (base base2 : Nat) (t ty e : TypeId) (i : TypeInfo) (z : Value) (ht : P.underlying t = some (.slice e)) (hi : P.info? e = some i) (hz : i.zero = some z)
    (hsize : i.size = 1) (hby : i.bytes = 8) (hzs : z.cells.size = 1)
    (v : Value) (n : Nat) (xs : List Value) (hown : w.ownsRow base e 1 v n xs) (u : Value) (m : Nat) (ys : List Value) (hown2 : w.ownsRow base2 e 1 u m ys) (h1 : ∀ y ∈ ys, y.oneCell' = true) (hn : n ≤ 1000) (hm : m ≤ 1000) (hbase : base ≤ w.heap.size) :
    ∃ v' w', (Builtin.append_ #[t, t] ty #[v, u]).run P w = .ok v' w' ∧ w'.ownsRow base e 1 v' (n + m) (xs ++ ys) ∧ w.grownBy w' v.ownBlock := by
  rcases hown2.2 with ⟨rfl, rfl⟩ | ⟨g, cap, cur, rfl, hbg, hg, hnc, hcm, hcs, htake⟩
  · have hy : ys = [] := List.eq_nil_of_length_eq_zero (by simpa using hown2.1)
    subst hy
    exact ⟨v, w, run_append_none w base t ty e i ht hi hsize v n xs hown, by rw [List.append_nil]; exact hown, ⟨rfl, rfl, rfl, Nat.le_refl _, fun _ _ _ => rfl⟩⟩
  · obtain ⟨v', w', hr, ho, hgr, _⟩ := run_append_own (P := P) w base t ty e i z 1 8 ht hi hz hsize hby hzs (by decide) v n xs hown ⟨g, 0, none⟩ m cap ys hown2.1 (fun j u hu => hown2.cells (g := g) rfl j u hu) h1 (by unfold maxLen; omega) (by omega) hbase
    exact ⟨v', w', hr, ho, hgr⟩
end
theorem step_append {P : Program} {w : World} {ops : Array Oper} {rest : List Oper} {o : Oper} {a : Act} {Q : Exit → Act → World → Prop} (hgd : o.guard = none) (s x : Operand) (t u : TypeId)
    (ho : o.op = .call { callee := .builtin .append, args := #[s, x], argTypes := #[t, u] }) {v y v' : Value} {w' : World} (hs : a.eval s = v) (hx : a.eval x = y)
    (hr : (Builtin.append_ #[t, u] o.type #[v, y]).run P w = .ok v' w') (h : wpList P ops Q rest (a.put o.dst v') w') : wpList P ops Q (o :: rest) a w :=
  wpList_plain hgd fun _ hK => by
    unfold Oper.wp execOp
    simp only [ho, resolve, invoke, builtin, Sem.run_bind, Sem.run_pure, Result.andThen_ok, List.map_toArray, List.map_cons, List.map_nil, hs, hx, hr]
    exact hK _ _ h

/- slices.Clone of what is owned. -/
theorem own_here {w : World} {base n : Nat} {e : TypeId} {g cap : Nat} {xs : List Value} (h : w.ownsRow base e 1 (.slice (some ⟨g, 0, none⟩) n cap) n xs) : ∀ j u, xs[j]? = some u → w.cell? ((⟨g, 0, none⟩ : Addr).add j) = some u := fun j u hu => h.cells (g := g) rfl j u hu
set_option maxHeartbeats 1000000 in
set_option maxRecDepth 100000 in
theorem clone_any {w : World} {base : Nat} {v : Value} (L : List Nat) (h : w.ownsRow base 47 1 v L.length (cellsU L)) (hl : L.length ≤ 1000) : Calls Tryz.prog 154 #[v] w fun r w' => (∃ v', r = .returned v' ∧ w'.ownsRow w.heap.size 47 1 v' L.length (cellsU L)) ∧ Below w.heap.size w w' := by
  obtain ⟨i0, hi, hz0, hz1, hz2⟩ := info_parts info_u64
  rcases own_shape h with ⟨A, cap, rfl⟩
  cases A with
  | none =>
    have hn : L = [] := by
      rcases h.2 with ⟨_, h⟩ | ⟨g, cap, cur, h, _⟩
      · exact List.eq_nil_of_length_eq_zero h
      · cases h
    subst hn
    have hc : cap = 0 := by
      rcases h.2 with ⟨h, _⟩ | ⟨g, cap, cur, h, _⟩
      · cases h; rfl
      · cases h
    subst hc
    clear h
    have hb := Below.refl w.heap.size w
    have e1 : ∀ W, (binOp .eql 197 (.slice none 0 0) (.slice none 0 0)).run Tryz.prog W = .ok (.bool true) W := fun _ => by kernel_rfl
    go_enter Tryz.func154, Tryz.ntmps154
    go_wp2_with fail
    go_ret
    exact ⟨⟨.slice none 0 0, rfl, World.ownsRow_nil _ _ _ _⟩, hb⟩
  | some ad =>
    obtain ⟨g, rfl⟩ : ∃ g, ad = ⟨g, 0, none⟩ := by
      rcases h.2 with ⟨h, _⟩ | ⟨g, cap, cur, h, _⟩
      · cases h
      · cases h; exact ⟨g, rfl⟩
    have Hcells := Lib.hid (own_here h)
    have hg := (h.lt g rfl).2
    clear h
    have hE : (w.alloc (.cells #[] 47)).ownsRow w.heap.size 47 1 (.slice (some ⟨w.heap.size, 0, none⟩) 0 0) 0 [] := ⟨rfl, .inr ⟨w.heap.size, 0, #[], rfl, Nat.le_refl _, heap_alloc_new w _, Nat.le_refl _, by decide, rfl, rfl⟩⟩
    have HE := Lib.hid hE
    obtain ⟨n, hn⟩ : ∃ n, n = L.length := ⟨_, rfl⟩
    rw [← hn] at hl ⊢
    have Hn := Lib.hid hn
    have hb := boxed w (.cells #[] 47)
    have Hb := Lib.hid hb
    clear hE hn hb
    have e1 : ∀ W, (binOp .eql 197 (.slice (some ⟨g, 0, none⟩) n cap) (.slice none 0 0)).run Tryz.prog W = .ok (.bool false) W := fun _ => by kernel_rfl
    go_enter Tryz.func154, Tryz.ntmps154
    go_wp2_with (at_builtin; refine wpList_append_own _ rfl _ _ 197 rfl w.heap.size 47 i0 (.int .u64 0) 1 8 Tryz.underlying197 hi hz0 hz1 hz2 rfl (by decide) _ 0 [] rfl HE.out ⟨g, 0, none⟩ n cap (cellsU L) rfl (by rw [Hn.out]; simp [cellsU]) (fun j u hu => (World.cell?_alloc_lt w _ _ (by unfold Addr.add; split <;> simpa using hg)).trans (Hcells.out j u hu)) (fun x hx => by obtain ⟨y, _, rfl⟩ := List.mem_map.1 hx; rfl) (by unfold maxLen; omega) (by omega) (by simp) ?_; intro v' w3 hown' hgrow3 hnil3; have Ho3 := Lib.hid hown'; have hb3 := Lib.hid (Hb.out.grown hgrow3 (by simp) (fun q hq => (HE.out.lt q hq).1)); clear hown' hgrow3 hnil3)
    go_ret
    refine ⟨⟨v', rfl, ?_⟩, hb3.out⟩
    have := Ho3.out
    rwa [Nat.zero_add, List.nil_append] at this
end Go.Proofs.YtbiglifngfgffaaGreatDoor

/- Decode of IPv4: the walk. -/
namespace Go.Proofs.YtbiglifngfgffaaGreatDoor
open Go.RowKit
attribute [local go_sem ↓] Go.wp_at_zero Go.wp_at_succ

section
variable {W w w' : World} {r b k : Nat} {s : ByteArray} {Z : Array Value} {T : TypeId}
end

def Pk.zero : Pk := ⟨⟨false, 0, 0⟩, ⟨false, 0, 0⟩, 0, 0, ByteArray.empty⟩
def bt (s : ByteArray) (j : Nat) : Nat := (nats s).getD j 0
end Go.Proofs.YtbiglifngfgffaaGreatDoor

/- Decode's words: a packet as a result; bytes as numbers. -/
namespace Go.Proofs.YtbiglifngfgffaaGreatDoor
open Go.RowKit
attribute [local go_sem ↓] Go.wp_at_zero Go.wp_at_succ

theorem results_ct {P : Program} {fn : Func} {tmps : Array Value} {w : World} {x y : Nat} {T : TypeId} {g : Nat} {V v2 : Value} (hres : fn.results = #[.cell x T, .tmp y]) (h1 : tmps.getD x undef = .pointer (some ⟨g, 0, none⟩)) (h2 : tmps.getD y undef = v2) (hl : (loadVar T ⟨g, 0, none⟩).run P w = .ok V w) : (results fn tmps).run P w = .ok (.tuple #[V, v2]) w := by
  have h1' : tmps[x]?.getD undef = .pointer (some ⟨g, 0, none⟩) := by simpa using h1
  have h2' : tmps[y]?.getD undef = v2 := by simpa using h2
  simp [results, hres, h1', h2', asAddr, hl]
end Go.Proofs.YtbiglifngfgffaaGreatDoor

/- Whether a number stands among some: the walks. -/
namespace Go.Proofs.YtbiglifngfgffaaGreatDoor
open Go.RowKit
attribute [local go_sem ↓] Go.wp_at_zero Go.wp_at_succ

def At (i : Int) (P : Prop) : Prop := 0 ≤ i ↔ P
end Go.Proofs.YtbiglifngfgffaaGreatDoor

/- Decode of IPv6: the closure. -/
namespace Go.Proofs.YtbiglifngfgffaaGreatDoor
open Go.RowKit
attribute [local go_sem ↓] Go.wp_at_zero Go.wp_at_succ

theorem load_ad {w : World} {g : Nat} {v0 v1 v2 : Value} (h : Blk w g 49 #[v0, v1, v2]) : (loadVar 49 ⟨g, 0, none⟩).run Tryz.prog w = .ok (.agg #[v0, v1, v2]) w := by
  have c0 := h.cell 0
  have c1 := h.cell 1
  have c2 := h.cell 2
  simp at c0 c1 c2
  simp [loadVar, go_sem, c0, c1, c2]
theorem results_c {P : Program} {fn : Func} {tmps : Array Value} {w : World} {x : Nat} {T : TypeId} {g : Nat} {V : Value} (hres : fn.results = #[.cell x T]) (h1 : tmps.getD x undef = .pointer (some ⟨g, 0, none⟩)) (hl : (loadVar T ⟨g, 0, none⟩).run P w = .ok V w) : (results fn tmps).run P w = .ok V w := by
  have h1' : tmps[x]?.getD undef = .pointer (some ⟨g, 0, none⟩) := by simpa using h1
  simp [results, hres, h1', asAddr, hl]

end Go.Proofs.YtbiglifngfgffaaGreatDoor

/- Eight numbers as an address: the walk. -/
namespace Go.Proofs.YtbiglifngfgffaaGreatDoor
open Go.RowKit

theorem ret_ad {fn : Func} {a : Act} {W w : World} {g x y : Nat} {v0 v1 v2 u : Value} (hres : fn.results = #[.cell x 49, .tmp y]) (hB : Blk w g 49 #[v0, v1, v2]) (hb : Below W.heap.size W w) (h1 : a.tmps.getD x undef = .pointer (some ⟨g, 0, none⟩)) (h2 : a.tmps.getD y undef = u) (hd : a.defers = []) : bodyPost Tryz.prog fn (Got (.tuple #[.agg #[v0, v1, v2], u]) W) .ret a w :=
  bodyPost_ret (results_ct hres h1 h2 (load_ad hB)) hd ⟨rfl, hb⟩
theorem three {W w : World} {g : Nat} {z0 z1 z2 v0 v1 v2 : Value} (hB : Blk w g 49 #[z0, z1, z2]) (hb : Below W.heap.size W w) (hg : W.heap.size ≤ g) : Blk (((w.setCell ⟨g, 0, none⟩ v0).setCell ⟨g, 1, none⟩ v1).setCell ⟨g, 2, none⟩ v2) g 49 #[v0, v1, v2] ∧ Below W.heap.size W (((w.setCell ⟨g, 0, none⟩ v0).setCell ⟨g, 1, none⟩ v1).setCell ⟨g, 2, none⟩ v2) := by
  have s0 : Blk (w.setCell ⟨g, 0, none⟩ v0) g 49 #[v0, z1, z2] := hB.set_ 0 v0
  have s1 : Blk ((w.setCell ⟨g, 0, none⟩ v0).setCell ⟨g, 1, none⟩ v1) g 49 #[v0, v1, z2] := s0.set_ 1 v1
  have s2 : Blk (((w.setCell ⟨g, 0, none⟩ v0).setCell ⟨g, 1, none⟩ v1).setCell ⟨g, 2, none⟩ v2) g 49 #[v0, v1, v2] := s1.set_ 2 v2
  exact ⟨s2, ((hb.setCell (p := ⟨g, 0, none⟩) hg v0).setCell (p := ⟨g, 1, none⟩) hg v1).setCell (p := ⟨g, 2, none⟩) hg v2⟩
theorem ret_ad3 {fn : Func} {a : Act} {W w : World} {g x y : Nat} {z0 z1 z2 v0 v1 v2 u : Value} (hres : fn.results = #[.cell x 49, .tmp y]) (hB : Blk w g 49 #[z0, z1, z2]) (hb : Below W.heap.size W w) (hg : W.heap.size ≤ g) (h1 : a.tmps.getD x undef = .pointer (some ⟨g, 0, none⟩)) (h2 : a.tmps.getD y undef = u) (hd : a.defers = []) : bodyPost Tryz.prog fn (Got (.tuple #[.agg #[v0, v1, v2], u]) W) .ret a (((w.setCell ⟨g, 0, none⟩ v0).setCell ⟨g, 1, none⟩ v1).setCell ⟨g, 2, none⟩ v2) :=
  ret_ad hres (three hB hb hg).1 (three hB hb hg).2 h1 h2 hd

theorem or16 {h x : Nat} (hh : h < 281474976710656) (hx : x < 65536) : bits .or .u64 ((h : Int) * 65536) (x : Int) = ((h * 65536 + x : Nat) : Int) := by
  have e := u64_or_nat (h * 65536) x (by omega) (by omega)
  rw [show (h : Int) * 65536 = ((h * 65536 : Nat) : Int) by omega, e]
  have := Nat.shiftLeft_add_eq_or_of_lt (i := 16) (b := x) (by omega) h
  rw [Nat.shiftLeft_eq] at this
  rw [show (65536 : Nat) = 2 ^ 16 from rfl, ← this]

theorem fold16_snoc (l : List Nat) (x : Nat) : fold16 (l ++ [x]) = fold16 l * 65536 + x := by unfold fold16; rw [List.foldl_append]; rfl
theorem fold16_bound {l : List Nat} (h : ∀ x ∈ l, x < 65536) (hl : l.length ≤ 3) : fold16 l < 281474976710656 := by
  have := fold16_lt l 0 1 h (by decide)
  have h2 : 65536 ^ l.length ≤ 65536 ^ 3 := Nat.pow_le_pow_right (by decide) hl
  unfold fold16
  omega
theorem fold_step16 {A : List Nat} {k : Nat} (hk : k < A.length) (hA : ∀ x ∈ A, x < 65536) :
    (if k < 4 then fold16 ((A.take (k + 1)).take 4) = fold16 ((A.take k).take 4) * 65536 + A.getD k 0 ∧ fold16 ((A.take (k + 1)).drop 4) = fold16 ((A.take k).drop 4)
     else fold16 ((A.take (k + 1)).take 4) = fold16 ((A.take k).take 4) ∧ (k < 8 → fold16 ((A.take (k + 1)).drop 4) = fold16 ((A.take k).drop 4) * 65536 + A.getD k 0))
    ∧ (k < 4 → fold16 ((A.take k).take 4) < 281474976710656) ∧ (k < 8 → fold16 ((A.take k).drop 4) < 281474976710656) := by
  have hs : A.take (k + 1) = A.take k ++ [A.getD k 0] := by
    rw [List.take_succ_eq_append_getElem hk, List.getD_eq_getElem?_getD, List.getElem?_eq_getElem hk]
    rfl
  have hkl : (A.take k).length = k := by rw [List.length_take]; omega
  refine ⟨?_, fun h => fold16_bound (take_lt (take_lt hA)) (by rw [List.length_take, hkl]; omega), fun h => fold16_bound (drop_lt (take_lt hA)) (by rw [List.length_drop, hkl]; omega)⟩
  split
  · next h =>
    rw [hs, List.take_of_length_le (l := A.take k) (by omega), List.take_of_length_le (by rw [List.length_append, hkl]; simp; omega), fold16_snoc]
    refine ⟨rfl, ?_⟩
    rw [List.drop_of_length_le (by rw [List.length_append, hkl]; simp; omega), List.drop_of_length_le (by omega)]
  · next h =>
    rw [hs, List.take_append_of_le_length (by omega), List.drop_append_of_le_length (by omega), fold16_snoc]
    exact ⟨rfl, fun _ => rfl⟩

def wholeV (o : Option Ad) : Value := match o with
  | none => .tuple #[.agg #[.bool false, .int .u64 0, .int .u64 0], .bool false]
  | some a => .tuple #[.agg a.cells, .bool true]

set_option maxHeartbeats 4000000 in
set_option maxRecDepth 100000 in
theorem whole_any {w : World} {bf bb : Nat} {vf vb : Value} (f b : List Nat) (gap : Bool) (hof : w.ownsRow bf 47 1 vf f.length (cellsU f)) (hob : w.ownsRow bb 47 1 vb b.length (cellsU b)) (hf : f.length ≤ 9) (hb9 : b.length ≤ 9) (hfx : ∀ x ∈ f, x < 65536) (hbx : ∀ x ∈ b, x < 65536) : Calls Tryz.prog 142 #[vf, vb, .bool gap] w (Got (wholeV (wholeL f b gap)) w) := by
  obtain ⟨i0, hi, hz0, hz1, hz2⟩ := info_parts info_u64
  obtain ⟨Af, capf, rfl⟩ := own_shape hof
  obtain ⟨Ab, capb, rfl⟩ := own_shape hob
  have hB0 := Blk.new w 49 #[.bool false, .int .u64 0, .int .u64 0]
  have hb0 := boxed w (.cells #[.bool false, .int .u64 0, .int .u64 0] 49)
  obtain ⟨WL, hWL⟩ : ∃ o, o = wholeL f b gap := ⟨_, rfl⟩
  have hWL2 := hWL
  unfold wholeL at hWL2
  rw [← hWL]
  have HFL : Hid (f.length = f.length) := Lib.hid rfl
  obtain ⟨F, hF⟩ : ∃ n, n = f.length := ⟨_, rfl⟩
  obtain ⟨G, hG⟩ : ∃ n, n = b.length := ⟨_, rfl⟩
  rw [← hF, ← hG] at hWL2
  rw [← hF] at hof hf
  rw [← hG] at hob hb9
  rw [← hF, ← hG]
  have Hof := Lib.hid hof
  have Hob := Lib.hid hob
  have HF := Lib.hid hF
  have HG := Lib.hid hG
  clear hof hob hWL hF hG HFL
  by_cases hbad : (gap = false ∧ F + G ≠ 8) ∨ (gap = true ∧ 7 < F + G)
  · rw [if_pos hbad] at hWL2
    rw [hWL2]
    clear hWL2
    show Calls _ _ _ w (Got (.tuple #[.agg #[.bool false, .int .u64 0, .int .u64 0], .bool false]) w)
    cases gap with
    | false =>
      have hne : ¬ F + G = 8 := by rcases hbad with ⟨_, h⟩ | ⟨h, _⟩ <;> simp_all
      have h1 : ((F : Int) + (G : Int) != 8) = true := by simp; omega
      have h2 : ((F : Int) + (G : Int) == 8) = false := by simp; omega
      clear hbad hne
      go_enter Tryz.func142, Tryz.ntmps142
      go_wp2_with fail
      exact bodyPost_ret (results_ct rfl rfl rfl (load_ad (Blk.new _ _ _))) rfl ⟨rfl, boxed _ _⟩
    | true =>
      have hne : 7 < F + G := by rcases hbad with ⟨h, _⟩ | ⟨_, h⟩ <;> simp_all
      have h1 : (7 : Int) < (F : Int) + (G : Int) := by omega
      clear hbad hne
      go_enter Tryz.func142, Tryz.ntmps142
      go_wp2_with fail
      exact bodyPost_ret (results_ct rfl rfl rfl (load_ad (Blk.new _ _ _))) rfl ⟨rfl, boxed _ _⟩
  · rw [if_neg hbad] at hWL2
    have hFG : F + G ≤ 8 := by cases gap <;> simp at hbad <;> omega
    have h1 : gap = false → ((F : Int) + (G : Int) != 8) = false := fun h => by subst h; simp at hbad; simp; omega
    have h2 : gap = true → ¬ (7 : Int) < (F : Int) + (G : Int) := fun h => by subst h; simp at hbad; omega
    obtain ⟨K, hK⟩ : ∃ k, k = 8 - (F + G) := ⟨_, rfl⟩
    have hall : ∃ A : List Nat, A = f ++ List.replicate K 0 ++ b ∧ A.length = 8 ∧ (∀ x ∈ A, x < 65536) ∧ cellsU A = cellsU f ++ List.replicate K (.int .u64 0) ++ cellsU b := by
      refine ⟨_, rfl, ?_, ?_, ?_⟩
      · rw [List.length_append, List.length_append, List.length_replicate, ← HF.out, ← HG.out]
        omega
      · intro x hx
        rcases List.mem_append.1 hx with hx | hx
        · rcases List.mem_append.1 hx with hx | hx
          · exact hfx x hx
          · rw [(List.mem_replicate.1 hx).2]; decide
        · exact hbx x hx
      · simp [cellsU]
    rw [← hK] at hWL2
    obtain ⟨ALL, hA, hA8, hAx, hAc⟩ := hall
    rw [← hA] at hWL2
    rw [hWL2]
    show Calls _ _ _ w (Got (.tuple #[.agg #[.bool true, .int .u64 (fold16 (ALL.take 4) : Int), .int .u64 (fold16 (ALL.drop 4) : Int)], .bool true]) w)
    have eK : (8 : Int) - ((F : Int) + (G : Int)) = (K : Int) := by omega
    have HAc := Lib.hid hAc
    have HA8 := Lib.hid hA8
    have HAx := Lib.hid hAx
    have HK := Lib.hid hK
    have hz3 : (Value.int IntKind.u64 0).cells = #[.int .u64 0] := rfl
    have HZ3 := Lib.hid hz3
    clear hWL2 hA hA8 hAx hAc hK hbad hz3
    have hclone := fun o => clone_any (w := w.alloc o) f (by rw [← HF.out]; exact Hof.out.alloc o) (by rw [← HF.out]; omega)
    rw [← HF.out] at hclone
    have HCl := Lib.hid hclone
    clear hclone
    obtain ⟨v0, hv0⟩ : ∃ v, v = w.alloc (.cells #[.bool false, .int .u64 0, .int .u64 0] 49) := ⟨_, rfl⟩
    rw [← hv0] at hB0 hb0
    have hsz0 : v0.heap.size = w.heap.size + 1 := by rw [hv0]; simp
    have HCl := Lib.hid (HCl.out (.cells #[.bool false, .int .u64 0, .int .u64 0] 49))
    rw [← hv0] at HCl
    have HB0 := Lib.hid hB0
    have Hb0 := Lib.hid hb0
    have Hv0 := Lib.hid hv0
    clear hB0 hb0 hv0
    cases gap
    all_goals
      first
        | (have h3 := h1 rfl)
        | (have h3 := h2 rfl)
      clear h1 h2
      go_enter Tryz.func142, Tryz.ntmps142
      go_wp2_with (go_at_call 154; fail)
      rw [← Hv0.out]
      refine HCl.out.mono ?_
      rintro r w1 ⟨⟨v1, rfl, ho1⟩, hb1⟩
      have Ho1 := Lib.hid ho1
      have HB1 := Lib.hid (HB0.out.below hb1 HB0.out.lt)
      have Hb1 := Lib.hid (after Hb0.out hb1)
      have hsz1 : w.heap.size + 1 ≤ w1.heap.size := by have := hb1.size; omega
      clear ho1 hb1
      go_upto_region 5 with (first
        | (at_builtin; obtain ⟨v2, w2, hr2, ho2, hg2⟩ := run_append_make (P := Tryz.prog) w1 v0.heap.size 197 3 197 47 i0 (.int .u64 0) Tryz.underlying197 Tryz.underlying3 hi hz0 hz1 hz2 HZ3.out rfl v1 F (cellsU f) Ho1.out K (by omega) (by omega) (by omega); refine step_append rfl _ _ _ _ rfl rfl rfl hr2 ?_; have HB2 := Lib.hid (HB1.out.grown hg2 (fun e => by have := (Ho1.out.lt _ e.symm).1; omega)); have Hb2 := Lib.hid (Hb1.out.grown hg2 (by omega) (fun q hq => by have := (Ho1.out.lt q hq).1; omega)); have hsz2 : w.heap.size + 1 ≤ w2.heap.size := Nat.le_trans hsz1 hg2.size; have Ho2 := Lib.hid ho2; clear hr2 ho2 hg2)
        | (at_builtin; obtain ⟨v3, w3, hr3, ho3, hg3⟩ := run_append_two (P := Tryz.prog) w2 v0.heap.size bb 197 197 47 i0 (.int .u64 0) Tryz.underlying197 hi hz0 hz1 hz2 rfl v2 (F + K) _ Ho2.out (.slice Ab G capb) G (cellsU b) (own_below Hob.out Hb2.out) (fun x hx => by obtain ⟨y, _, rfl⟩ := List.mem_map.1 hx; rfl) (by omega) (by omega) (by omega); refine step_append rfl _ _ _ _ rfl rfl rfl hr3 ?_; have HB3 := Lib.hid (HB2.out.grown hg3 (fun e => by have := (Ho2.out.lt _ e.symm).1; omega)); have Hb3 := Lib.hid (Hb2.out.grown hg3 (by omega) (fun q hq => by have := (Ho2.out.lt q hq).1; omega)); have hsz3 : w.heap.size + 1 ≤ w3.heap.size := Nat.le_trans hsz2 hg3.size; have Ho3 := Lib.hid ho3; clear hr3 ho3 hg3))
      have hrow : w3.ownsRow v0.heap.size 47 1 v3 (7 + 1) (cellsU ALL) := by
        have h := Ho3.out
        rw [show F + K + G = 7 + 1 by omega] at h
        rw [HAc.out]
        exact h
      obtain ⟨ga, cap, rfl⟩ := own_form hrow
      have hga := hrow.lt ga rfl
      have c0 := HB3.out.cell 0
      have f0 := HB3.out.frozen 0
      simp at c0
      have Hrow := Lib.hid hrow
      clear hrow
      go_wp2_with fail
      have hB4 : Blk (w3.setCell ⟨w.heap.size, 0, none⟩ (.bool true)) w.heap.size 49 #[.bool true, .int .u64 0, .int .u64 0] := HB3.out.set_ 0 _
      have hb4 := Hb3.out.setCell (p := ⟨w.heap.size, 0, none⟩) (Nat.le_refl _) (.bool true)
      have hr4 : ∀ j (hj : j < 8), (w3.setCell ⟨w.heap.size, 0, none⟩ (.bool true)).cell? ⟨ga, j, none⟩ = some (.int .u64 (ALL.getD j 0 : Int)) := by
        intro j hj
        rw [cell_far (by show w.heap.size ≠ ga; omega), Hrow.out.cellAt (g := ga) (cap := cap) j (by omega)]
        unfold cellsU
        have hjl : j < ALL.length := by have := HA8.out; omega
        rw [List.getElem?_map, List.getElem?_eq_getElem hjl, List.getD_eq_getElem?_getD, List.getElem?_eq_getElem hjl]
        rfl
      generalize w3.setCell ⟨w.heap.size, 0, none⟩ (.bool true) = w4 at hB4 hb4 hr4 ⊢
      have HB4 := Lib.hid hB4
      have Hb4 := Lib.hid hb4
      have Hr4 := Lib.hid hr4
      clear hB4 hb4 hr4 c0 f0
      go_loopw [41] (fun v41 wr => ∃ k : Nat, k ≤ 8 ∧ v41 = .int .i64 (k : Int) ∧ RowKit.Hid (Blk wr w.heap.size 49 #[.bool true, .int .u64 (fold16 ((ALL.take k).take 4) : Int), .int .u64 (fold16 ((ALL.take k).drop 4) : Int)]) ∧ RowKit.Hid (∀ j (hj : j < 8), wr.cell? ⟨ga, j, none⟩ = some (.int .u64 (ALL.getD j 0 : Int))) ∧ RowKit.Hid (Below w.heap.size w wr)) (fun v41 _ => 8 - (intOf v41).toNat)
      case atStart => exact ⟨0, by omega, rfl, HB4, Hr4, Hb4⟩
      case round =>
        obtain ⟨k, hk, rfl, hB, hr, hb⟩ := hrel
        by_cases hlt : k < 8
        · have hkl : k < ALL.length := by have := HA8.out; omega
          have cx := hr.out k hlt
          have hX : ALL.getD k 0 < 65536 := by
            rw [List.getD_eq_getElem?_getD, List.getElem?_eq_getElem hkl]
            exact HAx.out _ (List.getElem_mem hkl)
          have a1 := hB.out.cell 1
          have a2 := hB.out.cell 2
          have fr := fun i => hB.out.frozen i
          simp at a1 a2
          have hfold := fold_step16 (A := ALL) hkl HAx.out
          generalize ALL.getD k 0 = X at cx hX hfold
          obtain ⟨hnx, hh, hl⟩ := hfold
          have Hnx := Lib.hid hnx
          have Hc := Lib.hid hr.out
          have hr' := fun (u : Value) (i : Nat) j (hj : j < 8) => (cell_far (w := wr) (a := ⟨w.heap.size, i, none⟩) (c := ⟨ga, j, none⟩) (u := u) (by show w.heap.size ≠ ga; omega)).trans (hr.out j hj)
          have Hr' := Lib.hid hr'
          clear hnx hr'
          obtain ⟨H0, hH0⟩ : ∃ n, n = fold16 ((ALL.take k).take 4) := ⟨_, rfl⟩
          obtain ⟨L0, hL0⟩ : ∃ n, n = fold16 ((ALL.take k).drop 4) := ⟨_, rfl⟩
          rw [← hH0] at hh a1
          rw [← hL0] at hl a2
          have HH0 := Lib.hid hH0
          have HL0 := Lib.hid hL0
          clear hH0 hL0
          by_cases h4 : k < 4
          · have hb48 := hh h4
            have ho := or16 hb48 hX
            have hw : IntKind.u64.wrap ((H0 : Int) * 65536) = (H0 : Int) * 65536 := by rw [IntKind.wrap_u64]; omega
            have h4' : (k : Int) < 4 := by omega
            clear hh hl
            go_wp2_with fail
            go_roundw
            case rel =>
              have hs := hB.out.set_ 1 (.int .u64 ((H0 * 65536 + X : Nat) : Int))
              have hn := Hnx.out
              rw [if_pos h4, ← HH0.out] at hn
              exact ⟨k + 1, by omega, by go_num, Lib.hid (by rw [hn.1, hn.2]; exact hs), Lib.hid (Hr'.out _ 1), Lib.hid (hb.out.setCell (p := ⟨w.heap.size, 1, none⟩) (Nat.le_refl _) _)⟩
            case measure => simp [intOf]; omega
          · have hb48 := hl hlt
            have ho := or16 hb48 hX
            have hw : IntKind.u64.wrap ((L0 : Int) * 65536) = (L0 : Int) * 65536 := by rw [IntKind.wrap_u64]; omega
            have h4' : ¬ (k : Int) < 4 := by omega
            clear hh hl
            go_wp2_with fail
            go_roundw
            case rel =>
              have hs := hB.out.set_ 2 (.int .u64 ((L0 * 65536 + X : Nat) : Int))
              have hn := Hnx.out
              rw [if_neg h4, ← HL0.out] at hn
              exact ⟨k + 1, by omega, by go_num, Lib.hid (by rw [hn.1, hn.2 hlt]; exact hs), Lib.hid (Hr'.out _ 2), Lib.hid (hb.out.setCell (p := ⟨w.heap.size, 2, none⟩) (Nat.le_refl _) _)⟩
            case measure => simp [intOf]; omega
        · obtain rfl : k = 8 := by omega
          have hB8 := hB.out
          rw [show ALL.take 8 = ALL from List.take_of_length_le (by have := HA8.out; omega)] at hB8
          have c0 := hB8.cell 0
          have c1 := hB8.cell 1
          have c2 := hB8.cell 2
          simp at c0 c1 c2
          have fr := fun i => hB8.frozen i
          have HB8 := Lib.hid hB8
          clear hB8
          go_wp2_with fail
          exact ret_ad3 (g := w.heap.size) (x := 6) (y := 7) rfl HB8.out hb.out (Nat.le_refl _) rfl rfl rfl
end Go.Proofs.YtbiglifngfgffaaGreatDoor

/- Texts of addresses, the program's: the eight numbers of an address of IPv6; an address of IPv4: the walks. -/
namespace Go.Proofs.YtbiglifngfgffaaGreatDoor
open Go.RowKit

def halfOf (a : Ad) (k : Nat) : Nat := if k < 4 then a.hi else a.lo
theorem piece_at (a : Ad) (k : Nat) (hk : k < 8) : (pieceL a).getD k 0 = halfOf a k / 2 ^ (48 - 16 * (k % 4)) % 65536 := by
  unfold halfOf pieceL
  rcases (show k = 0 ∨ k = 1 ∨ k = 2 ∨ k = 3 ∨ k = 4 ∨ k = 5 ∨ k = 6 ∨ k = 7 by omega) with rfl | rfl | rfl | rfl | rfl | rfl | rfl | rfl <;> simp
theorem and3 (k : Nat) (hk : k < 8) : bits .and .i64 (k : Int) 3 = ((k % 4 : Nat) : Int) := by
  rcases (show k = 0 ∨ k = 1 ∨ k = 2 ∨ k = 3 ∨ k = 4 ∨ k = 5 ∨ k = 6 ∨ k = 7 by omega) with rfl | rfl | rfl | rfl | rfl | rfl | rfl | rfl <;> kernel_rfl

/- Eight numbers, the first k of them laid. -/
def prow (K : IntKind) (L : List Nat) (k : Nat) : Array Value := ((List.range 8).map fun j => Value.int K (if j < k then (L.getD j 0 : Int) else 0)).toArray
theorem prow_zero (K : IntKind) (L : List Nat) : prow K L 0 = Array.replicate 8 (.int K 0) := by
  unfold prow
  apply Array.ext
  · simp
  · intro i h1 h2
    simp
theorem prow_set (K : IntKind) (L : List Nat) (k : Nat) (hk : k < 8) : (prow K L k).setIfInBounds k (.int K (L.getD k 0 : Int)) = prow K L (k + 1) := by
  unfold prow
  apply Array.ext
  · simp
  · intro i h1 h2
    simp only [Array.size_setIfInBounds, List.size_toArray, List.length_map, List.length_range] at h1
    rw [Array.getElem_setIfInBounds (by simpa using h1)]
    simp only [List.getElem_toArray, List.getElem_map, List.getElem_range]
    by_cases h : k = i
    · subst h
      rw [if_pos rfl, if_pos (by omega)]
    · rw [if_neg h]
      by_cases h3 : i < k
      · rw [if_pos h3, if_pos (by omega)]
      · rw [if_neg h3, if_neg (by omega)]
theorem prow_at (K : IntKind) (L : List Nat) (k j : Nat) (hj : j < 8) : (prow K L k)[j]? = some (.int K (if j < k then (L.getD j 0 : Int) else 0)) := by
  unfold prow
  rw [Array.getElem?_eq_getElem (by simpa using hj)]
  simp
theorem prow_eight (K : IntKind) (L : List Nat) : prow K L 8 = #[.int K (L.getD 0 0 : Int), .int K (L.getD 1 0 : Int), .int K (L.getD 2 0 : Int), .int K (L.getD 3 0 : Int), .int K (L.getD 4 0 : Int), .int K (L.getD 5 0 : Int), .int K (L.getD 6 0 : Int), .int K (L.getD 7 0 : Int)] := rfl

theorem load_eight {w : World} {g : Nat} {v0 v1 v2 v3 v4 v5 v6 v7 : Value} (h : Blk w g 141 #[v0, v1, v2, v3, v4, v5, v6, v7]) : (loadVar 141 ⟨g, 0, none⟩).run Tryz.prog w = .ok (.agg #[v0, v1, v2, v3, v4, v5, v6, v7]) w := by
  have c0 := h.cell 0
  have c1 := h.cell 1
  have c2 := h.cell 2
  have c3 := h.cell 3
  have c4 := h.cell 4
  have c5 := h.cell 5
  have c6 := h.cell 6
  have c7 := h.cell 7
  simp at c0 c1 c2 c3 c4 c5 c6 c7
  simp [loadVar, go_sem, c0, c1, c2, c3, c4, c5, c6, c7]
theorem ret_eight {fn : Func} {a : Act} {W w : World} {g x : Nat} {z0 z1 z2 z3 z4 z5 z6 z7 v0 v1 v2 v3 v4 v5 v6 v7 : Value} (hres : fn.results = #[.cell x 141]) (hB : Blk w g 141 #[z0, z1, z2, z3, z4, z5, z6, z7]) (hb : Below W.heap.size W w) (hg : W.heap.size ≤ g) (h1 : a.tmps.getD x undef = .pointer (some ⟨g, 0, none⟩)) (hd : a.defers = []) :
    bodyPost Tryz.prog fn (Got (.agg #[v0, v1, v2, v3, v4, v5, v6, v7]) W) .ret a ((((((((w.setCell ⟨g, 0, none⟩ v0).setCell ⟨g, 1, none⟩ v1).setCell ⟨g, 2, none⟩ v2).setCell ⟨g, 3, none⟩ v3).setCell ⟨g, 4, none⟩ v4).setCell ⟨g, 5, none⟩ v5).setCell ⟨g, 6, none⟩ v6).setCell ⟨g, 7, none⟩ v7) := by
  have s0 : Blk (w.setCell ⟨g, 0, none⟩ v0) g 141 #[v0, z1, z2, z3, z4, z5, z6, z7] := hB.set_ 0 v0
  have s1 : Blk ((w.setCell ⟨g, 0, none⟩ v0).setCell ⟨g, 1, none⟩ v1) g 141 #[v0, v1, z2, z3, z4, z5, z6, z7] := s0.set_ 1 v1
  have s2 : Blk (((w.setCell ⟨g, 0, none⟩ v0).setCell ⟨g, 1, none⟩ v1).setCell ⟨g, 2, none⟩ v2) g 141 #[v0, v1, v2, z3, z4, z5, z6, z7] := s1.set_ 2 v2
  have s3 : Blk ((((w.setCell ⟨g, 0, none⟩ v0).setCell ⟨g, 1, none⟩ v1).setCell ⟨g, 2, none⟩ v2).setCell ⟨g, 3, none⟩ v3) g 141 #[v0, v1, v2, v3, z4, z5, z6, z7] := s2.set_ 3 v3
  have s4 : Blk (((((w.setCell ⟨g, 0, none⟩ v0).setCell ⟨g, 1, none⟩ v1).setCell ⟨g, 2, none⟩ v2).setCell ⟨g, 3, none⟩ v3).setCell ⟨g, 4, none⟩ v4) g 141 #[v0, v1, v2, v3, v4, z5, z6, z7] := s3.set_ 4 v4
  have s5 : Blk ((((((w.setCell ⟨g, 0, none⟩ v0).setCell ⟨g, 1, none⟩ v1).setCell ⟨g, 2, none⟩ v2).setCell ⟨g, 3, none⟩ v3).setCell ⟨g, 4, none⟩ v4).setCell ⟨g, 5, none⟩ v5) g 141 #[v0, v1, v2, v3, v4, v5, z6, z7] := s4.set_ 5 v5
  have s6 : Blk (((((((w.setCell ⟨g, 0, none⟩ v0).setCell ⟨g, 1, none⟩ v1).setCell ⟨g, 2, none⟩ v2).setCell ⟨g, 3, none⟩ v3).setCell ⟨g, 4, none⟩ v4).setCell ⟨g, 5, none⟩ v5).setCell ⟨g, 6, none⟩ v6) g 141 #[v0, v1, v2, v3, v4, v5, v6, z7] := s5.set_ 6 v6
  have s7 : Blk ((((((((w.setCell ⟨g, 0, none⟩ v0).setCell ⟨g, 1, none⟩ v1).setCell ⟨g, 2, none⟩ v2).setCell ⟨g, 3, none⟩ v3).setCell ⟨g, 4, none⟩ v4).setCell ⟨g, 5, none⟩ v5).setCell ⟨g, 6, none⟩ v6).setCell ⟨g, 7, none⟩ v7) g 141 #[v0, v1, v2, v3, v4, v5, v6, v7] := s6.set_ 7 v7
  exact bodyPost_ret (results_c hres h1 (load_eight s7)) hd ⟨rfl, ((((((((hb.setCell (p := ⟨g, 0, none⟩) hg v0).setCell (p := ⟨g, 1, none⟩) hg v1).setCell (p := ⟨g, 2, none⟩) hg v2).setCell (p := ⟨g, 3, none⟩) hg v3).setCell (p := ⟨g, 4, none⟩) hg v4).setCell (p := ⟨g, 5, none⟩) hg v5).setCell (p := ⟨g, 6, none⟩) hg v6).setCell (p := ⟨g, 7, none⟩) hg v7)⟩

set_option maxHeartbeats 1000000 in
theorem pieces_any (a : Ad) (ok : a.Ok) (w : World) : Calls Tryz.prog 84 #[.agg a.cells] w (Got (.agg (prow .u16 (pieceL a) 8)) w) := by
  have HP := fun k hk => piece_at a k hk
  have hh := ok.hi
  have hl := ok.lo
  have HS : ∀ k, prow .u16 (pieceL a) k = prow .u16 (pieceL a) k := fun _ => rfl
  have hset := fun k hk => prow_set .u16 (pieceL a) k hk
  generalize pieceL a = L at HP hset ⊢
  obtain ⟨RV, hRV⟩ : ∃ r, r = prow .u16 L 8 := ⟨_, rfl⟩
  rw [← hRV]
  have HRV := Lib.hid hRV
  clear hRV
  clear HS ok
  have HP := Lib.hid HP
  have Hset := Lib.hid hset
  clear hset
  unfold halfOf at HP
  obtain ⟨v, x, l⟩ := a
  unfold Ad.cells
  simp only at hh hl HP ⊢
  go_enter Tryz.func84, Tryz.ntmps84
  go_wp2_with fail
  go_loopw [5] (fun i wr => ∃ k : Nat, k ≤ 8 ∧ i = .int .i64 (k : Int) ∧ RowKit.Hid (Blk wr w.heap.size 49 #[.bool v, .int .u64 (x : Int), .int .u64 (l : Int)]) ∧ RowKit.Hid (Blk wr (w.heap.size + 1) 141 (prow .u16 L k)) ∧ RowKit.Hid (Below w.heap.size w wr)) (fun i _ => 8 - (intOf i).toNat)
  case atStart =>
    have hz : (#[.int .u16 0, .int .u16 0, .int .u16 0, .int .u16 0, .int .u16 0, .int .u16 0, .int .u16 0, .int .u16 0] : Array Value) = Array.replicate 8 (.int .u16 0) := rfl
    have hz0 : Blk ((w.alloc (.cells #[.bool v, .int .u64 (x : Int), .int .u64 (l : Int)] 49)).alloc (.cells #[.int .u16 0, .int .u16 0, .int .u16 0, .int .u16 0, .int .u16 0, .int .u16 0, .int .u16 0, .int .u16 0] 141)) (w.heap.size + 1) 141 (prow .u16 L 0) := by
      rw [prow_zero, ← hz]
      have h := Blk.new (w.alloc (.cells #[.bool v, .int .u64 (x : Int), .int .u64 (l : Int)] 49)) 141 #[.int .u16 0, .int .u16 0, .int .u16 0, .int .u16 0, .int .u16 0, .int .u16 0, .int .u16 0, .int .u16 0]
      simpa using h
    exact ⟨0, by omega, rfl, Lib.hid ((Blk.new _ _ _).alloc _), Lib.hid hz0, Lib.hid (two_boxed _ _ _)⟩
  case round =>
    obtain ⟨k, hk, rfl, hA, hR, hb⟩ := hrel
    by_cases hlt : k < 8
    · have e1 := and3 k hlt
      obtain ⟨q, hq, hq3⟩ : ∃ q, q = k % 4 ∧ q < 4 := ⟨_, rfl, Nat.mod_lt _ (by decide)⟩
      rw [← hq] at e1
      have e2 : ((48 : Int) - 16 * (q : Int)).toNat = 48 - 16 * q := by omega
      have hp := HP.out k hlt
      rw [← hq] at hp
      have a1 := hA.out.cell 1
      have a2 := hA.out.cell 2
      have hcell := (hR.out.cell k).trans (prow_at .u16 L k k hlt)
      have hfr := hR.out.frozen k
      simp at a1 a2
      have hset := Hset.out k hlt
      have wv : ∀ y : Nat, IntKind.u16.wrap ((y : Int) / 2 ^ (48 - 16 * q)) = ((y / 2 ^ (48 - 16 * q) % 65536 : Nat) : Int) := by
        intro y
        rw [shr_nat]
        generalize y / 2 ^ (48 - 16 * q) = Y
        simp [IntKind.wrap_u16]
      by_cases h4 : k < 4
      all_goals
        first | rw [if_pos h4] at hp | rw [if_neg h4] at hp
        first
          | (have h4' : ¬ (3 : Int) < (k : Int) := by omega)
          | (have h4' : (3 : Int) < (k : Int) := by omega)
        have Hp := Lib.hid hp
        have Hset1 := Lib.hid hset
        have Wv := Lib.hid wv
        clear hp hq hset wv
        go_wp2_with fail
        go_roundw
        case rel =>
          rw [Wv.out, ← Hp.out]
          exact ⟨k + 1, by omega, by go_num, Lib.hid (hA.out.far (p := ⟨w.heap.size + 1, k, none⟩) (by simp) _), Lib.hid (by rw [← Hset1.out]; exact hR.out.set_ k _), Lib.hid (hb.out.setCell (p := ⟨w.heap.size + 1, k, none⟩) (by simp) _)⟩
        case measure => simp [intOf]; omega
    · obtain rfl : k = 8 := by omega
      have hR8 := hR.out
      have hRV := HRV.out
      rw [prow_eight] at hR8 hRV
      generalize L.getD 0 0 = p0 at hR8 hRV
      generalize L.getD 1 0 = p1 at hR8 hRV
      generalize L.getD 2 0 = p2 at hR8 hRV
      generalize L.getD 3 0 = p3 at hR8 hRV
      generalize L.getD 4 0 = p4 at hR8 hRV
      generalize L.getD 5 0 = p5 at hR8 hRV
      generalize L.getD 6 0 = p6 at hR8 hRV
      generalize L.getD 7 0 = p7 at hR8 hRV
      have c0 := hR8.cell 0
      have c1 := hR8.cell 1
      have c2 := hR8.cell 2
      have c3 := hR8.cell 3
      have c4 := hR8.cell 4
      have c5 := hR8.cell 5
      have c6 := hR8.cell 6
      have c7 := hR8.cell 7
      simp at c0 c1 c2 c3 c4 c5 c6 c7
      have fr := fun i => hR8.frozen i
      have HR8 := Lib.hid hR8
      have HRV2 := Lib.hid hRV
      clear hR8 hRV
      go_wp2_with fail
      rw [HRV2.out]
      exact ret_eight (g := w.heap.size + 1) (x := 2) rfl HR8.out hb.out (by simp) rfl rfl
end Go.Proofs.YtbiglifngfgffaaGreatDoor

/- Texts of addresses, step by step: the plain law. -/
namespace Go.Proofs.YtbiglifngfgffaaGreatDoor

theorem itoa_nat (x : Nat) : Lib.itoa (x : Int) = Lib.decDigits x := by
  unfold Lib.itoa
  rw [if_neg (by omega), show ((x : Int)).toNat = x by omega]

/- The longest row of noughts, as far as k numbers are looked at. -/
def bestK (L : List Nat) : Nat → Int × Nat
  | 0 => (-1, 1)
  | k + 1 => if (bestK L k).2 < run0 (L.drop k) then ((k : Int), run0 (L.drop k)) else bestK L k
theorem bestK_go (L : List Nat) : ∀ k, k ≤ L.length → bestGo k (L.drop k) (bestK L k) = best L := by
  intro k
  induction k with
  | zero => intro _; rfl
  | succ k ih =>
    intro h
    have e := ih (by omega)
    rw [List.drop_eq_getElem_cons (show k < L.length by omega)] at e
    unfold bestGo at e
    unfold bestK
    rw [List.drop_eq_getElem_cons (show k < L.length by omega)]
    exact e
theorem bestK_all (L : List Nat) : bestK L L.length = best L := by
  have := bestK_go L L.length (Nat.le_refl _)
  rwa [List.drop_of_length_le (Nat.le_refl _)] at this
theorem bestK_range (L : List Nat) (k : Nat) (h : k ≤ L.length) : -1 ≤ (bestK L k).1 ∧ (bestK L k).1 < (L.length : Int) ∧ (bestK L k).2 ≤ L.length + 1 := by
  induction k with
  | zero => exact ⟨show (-1 : Int) ≤ -1 by decide, by show (-1 : Int) < _; omega, by show 1 ≤ _; omega⟩
  | succ k ih =>
    have hr := run0_le (L.drop k)
    rw [List.length_drop] at hr
    unfold bestK
    split
    · exact ⟨by show (-1 : Int) ≤ (k : Int); omega, by show (k : Int) < _; omega, by show run0 _ ≤ _; omega⟩
    · exact ih (by omega)

/- How many noughts stand from i on. -/
theorem run0_at (L : List Nat) (i n : Nat) (hn : i + n ≤ L.length) (hz : ∀ j, j < n → L.getD (i + j) 0 = 0) (he : i + n = L.length ∨ L.getD (i + n) 0 ≠ 0) : run0 (L.drop i) = n := by
  induction n generalizing i with
  | zero =>
    rcases he with he | he
    · rw [Nat.add_zero] at he
      rw [List.drop_of_length_le (by omega)]
      rfl
    · rcases Nat.lt_or_ge i L.length with h | h
      · rw [List.drop_eq_getElem_cons h]
        unfold run0
        rw [Nat.add_zero, List.getD_eq_getElem?_getD, List.getElem?_eq_getElem h] at he
        exact if_neg he
      · rw [List.drop_of_length_le h]; rfl
  | succ n ih =>
    have h : i < L.length := by omega
    have h0 := hz 0 (by omega)
    rw [Nat.add_zero, List.getD_eq_getElem?_getD, List.getElem?_eq_getElem h] at h0
    rw [List.drop_eq_getElem_cons h]
    unfold run0
    rw [if_pos (show L[i] = 0 from h0), ih (i + 1) (by omega) (fun j hj => by rw [show i + 1 + j = i + (j + 1) by omega]; exact hz (j + 1) (by omega)) (by rw [show i + 1 + n = i + (n + 1) by omega]; exact he)]

/- Joined numbers, one more behind them. -/
theorem joinH_snoc (x : Nat) : ∀ {M : List Nat}, M ≠ [] → joinH (M ++ [x]) = joinH M ++ 58 :: hexL x := by
  intro M
  induction M with
  | nil => intro h; exact absurd rfl h
  | cons y r ih =>
    intro _
    cases r with
    | nil => rw [List.singleton_append, joinH_cons, joinH_one, joinH_one]
    | cons z r =>
      rw [List.cons_append, List.cons_append, joinH_cons, joinH_cons, ← List.cons_append, ih (by simp), List.append_assoc, List.cons_append]
theorem joinH_take {L : List Nat} {k : Nat} (hk : k < L.length) (h0 : 0 < k) : joinH (L.take (k + 1)) = joinH (L.take k) ++ 58 :: hexL (L.getD k 0) := by
  rw [List.take_succ_eq_append_getElem hk, joinH_snoc _ (by
    intro e
    have := congrArg List.length e
    rw [List.length_take, List.length_nil] at this
    omega), List.getD_eq_getElem?_getD, List.getElem?_eq_getElem hk]
  rfl

/- The document's way: one number behind the other. -/
def refStep (at_ : Int) (most : Nat) (L : List Nat) (i : Nat) (s : List UInt8) : List UInt8 :=
  if 0 ≤ at_ ∧ at_ ≤ i ∧ (i : Int) < at_ + most then (if (i : Int) = at_ then s ++ [58, 58] else s)
  else (if 0 < i ∧ ¬ (0 ≤ at_ ∧ (i : Int) = at_ + most) then s ++ [58] else s) ++ hexL (L.getD i 0)
def refK (at_ : Int) (most : Nat) (L : List Nat) : Nat → List UInt8
  | 0 => []
  | k + 1 => refStep at_ most L k (refK at_ most L k)
theorem refK_none (L : List Nat) (m : Nat) : ∀ k, k ≤ L.length → refK (-1) m L k = joinH (L.take k) := by
  intro k
  induction k with
  | zero => intro _; rfl
  | succ k ih =>
    intro h
    unfold refK refStep
    rw [if_neg (by omega), ih (by omega)]
    by_cases h0 : 0 < k
    · rw [if_pos ⟨h0, by omega⟩, joinH_take (by omega) h0, List.append_assoc]
      rfl
    · obtain rfl : k = 0 := by omega
      rw [if_neg (by omega), List.take_succ_eq_append_getElem (by omega), List.getD_eq_getElem?_getD, List.getElem?_eq_getElem (by omega)]
      simp [joinH_nil, joinH_one]
theorem refK_low (L : List Nat) (a m : Nat) : ∀ k, k ≤ L.length → k ≤ a → refK (a : Int) m L k = joinH (L.take k) := by
  intro k
  induction k with
  | zero => intro _ _; rfl
  | succ k ih =>
    intro h ha
    unfold refK refStep
    rw [if_neg (by omega), ih (by omega) (by omega)]
    by_cases h0 : 0 < k
    · rw [if_pos ⟨h0, by omega⟩, joinH_take (by omega) h0, List.append_assoc]
      rfl
    · obtain rfl : k = 0 := by omega
      rw [if_neg (by omega), List.take_succ_eq_append_getElem (by omega), List.getD_eq_getElem?_getD, List.getElem?_eq_getElem (by omega)]
      simp [joinH_nil, joinH_one]
theorem refK_mid (L : List Nat) (a m : Nat) (hm : 1 ≤ m) : ∀ j, j < m → a + j < L.length → refK (a : Int) m L (a + j + 1) = joinH (L.take a) ++ [58, 58] := by
  intro j
  induction j with
  | zero =>
    intro _ h
    unfold refK refStep
    rw [if_pos (by omega), if_pos (by omega), refK_low L a m _ (by omega) (by omega)]
  | succ j ih =>
    intro hj h
    have e := ih (by omega) (by omega)
    unfold refK refStep
    rw [if_pos (by omega), if_neg (by omega), show a + (j + 1) = a + j + 1 by omega, e]
theorem refK_high (L : List Nat) (a m : Nat) (hm : 1 ≤ m) : ∀ j, a + m + j ≤ L.length → refK (a : Int) m L (a + m + j) = joinH (L.take a) ++ 58 :: 58 :: joinH ((L.drop (a + m)).take j) := by
  intro j
  induction j with
  | zero =>
    intro h
    have e := refK_mid L a m hm (m - 1) (by omega) (by omega)
    rw [show a + (m - 1) + 1 = a + m by omega] at e
    rw [Nat.add_zero, e, List.take_zero, joinH_nil]
  | succ j ih =>
    intro h
    have e := ih (by omega)
    have hd : j < (L.drop (a + m)).length := by rw [List.length_drop]; omega
    have hg : (L.drop (a + m)).getD j 0 = L.getD (a + m + j) 0 := by
      rw [List.getD_eq_getElem?_getD, List.getD_eq_getElem?_getD, List.getElem?_drop]
    rw [show a + m + (j + 1) = (a + m + j) + 1 by omega]
    unfold refK refStep
    rw [if_neg (by omega), e]
    by_cases h0 : 0 < j
    · rw [if_pos ⟨by omega, by omega⟩, joinH_take hd h0, hg]
      simp
    · obtain rfl : j = 0 := by omega
      rw [if_neg (by omega), List.take_succ_eq_append_getElem hd, ← hg, List.getD_eq_getElem?_getD, List.getElem?_eq_getElem hd]
      simp [joinH_nil, joinH_one]
theorem refK_text (L : List Nat) : refK (best L).1 (best L).2 L L.length = text6 L := by
  have ok := best_ok L
  unfold text6
  split
  · next h =>
    have hr := bestK_range L L.length (Nat.le_refl _)
    rw [bestK_all] at hr
    have e : (best L).1 = -1 := by omega
    rw [e, refK_none L _ _ (Nat.le_refl _), List.take_length]
  · next h =>
    have h0 : 0 ≤ (best L).1 := by omega
    have h1 := ok.le h0
    obtain ⟨a, ha⟩ : ∃ a : Nat, (best L).1 = (a : Int) := ⟨(best L).1.toNat, by omega⟩
    rw [ha] at h1 ⊢
    rw [show ((a : Int)).toNat = a by omega] at h1 ⊢
    have e := refK_high L a (best L).2 ok.one (L.length - (a + (best L).2)) (by omega)
    rw [show a + (best L).2 + (L.length - (a + (best L).2)) = L.length by omega] at e
    rw [e, List.take_of_length_le (i := L.length - (a + (best L).2)) (by rw [List.length_drop]; omega)]
theorem refStep_len (at_ : Int) (m : Nat) (L : List Nat) (i : Nat) (s : List UInt8) (h : L.getD i 0 < 65536) : (refStep at_ m L i s).length ≤ s.length + 6 := by
  have := hexL_len _ h
  unfold refStep
  generalize L.getD i 0 = X at this
  clear h
  split
  · split <;> simp
  · rw [List.length_append]
    split <;> simp <;> omega
theorem refK_len (at_ : Int) (m : Nat) (L : List Nat) (h : ∀ x ∈ L, x < 65536) : ∀ k, (refK at_ m L k).length ≤ 6 * k := by
  intro k
  induction k with
  | zero => simp [refK]
  | succ k ih =>
    have hx : L.getD k 0 < 65536 := by
      rcases Nat.lt_or_ge k L.length with hk | hk
      · rw [List.getD_eq_getElem?_getD, List.getElem?_eq_getElem hk]
        exact h _ (List.getElem_mem hk)
      · rw [List.getD_eq_getElem?_getD, List.getElem?_eq_none hk]
        decide
    have := refStep_len at_ m L k (refK at_ m L k) hx
    unfold refK
    omega

/- The document's way of IPv4. -/
def ref4 (lo : Nat) : Nat → List UInt8
  | 0 => []
  | k + 1 => ref4 lo k ++ Lib.decDigits ((lo4 lo).getD k 0) ++ (if k < 3 then [46] else [])
theorem ref4_text (lo : Nat) : ref4 lo 4 = text4 lo := by
  unfold text4 lo4
  simp only [ref4, lo4, List.map_cons, List.map_nil]
  rw [join_two, join_two, join_two, Lib.join_one]
  simp [dot]
theorem lo4_at (lo k : Nat) (hk : k < 4) : (lo4 lo).getD k 0 = lo / 2 ^ (24 - 8 * k) % 256 := by
  unfold lo4
  rcases (show k = 0 ∨ k = 1 ∨ k = 2 ∨ k = 3 by omega) with rfl | rfl | rfl | rfl <;> simp
theorem ref4_len (lo : Nat) : ∀ k, (ref4 lo k).length ≤ 4 * k := by
  intro k
  induction k with
  | zero => simp [ref4]
  | succ k ih =>
    have h : (lo4 lo).getD k 0 < 1000 := by
      rcases Nat.lt_or_ge k 4 with hk | hk
      · rw [lo4_at lo k hk]; omega
      · rw [List.getD_eq_getElem?_getD, List.getElem?_eq_none (by simp [lo4]; omega)]; decide
    have := decL_len _ h
    unfold ref4
    generalize (lo4 lo).getD k 0 = X at this
    clear h
    rw [List.length_append, List.length_append]
    split <;> simp <;> omega
end Go.Proofs.YtbiglifngfgffaaGreatDoor
