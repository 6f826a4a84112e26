/- Joined out of: WhB TwC TxF TwD TwE RdA. -/
import Derived.Test.YthglckoikjfjkaaGreatDoorSad
import Derived.Deep.Onto
import Derived.Deep.CutBlock
import Derived.Test.YthglckoikjfjkaaGreatDoorSac
import Derived.Test.YthglckoikjfjkaaGreatDoorSab
import Derived.Deep.RegionHeld3
set_option linter.unusedVariables false
set_option linter.unusedSimpArgs false

/- Eight numbers as an address: the walk. -/
namespace Go.Proofs.YthglckoikjfjkaaGreatDoor
open Go.RowKit

theorem ret_ad {fn : Func} {a : Act} {W w : World} {g x y : Nat} {v0 v1 v2 u : Value} (hres : fn.results = #[.cell x 40, .tmp y]) (hB : Blk w g 40 #[v0, v1, v2]) (hb : Below W.heap.size W w) (h1 : a.tmps.getD x undef = .pointer (some ⟨g, 0, none⟩)) (h2 : a.tmps.getD y undef = u) (hd : a.defers = []) : bodyPost Tryz.prog fn (Got (.tuple #[.agg #[v0, v1, v2], u]) W) .ret a w :=
  bodyPost_ret (results_ct hres h1 h2 (load_ad hB)) hd ⟨rfl, hb⟩
theorem three {W w : World} {g : Nat} {z0 z1 z2 v0 v1 v2 : Value} (hB : Blk w g 40 #[z0, z1, z2]) (hb : Below W.heap.size W w) (hg : W.heap.size ≤ g) : Blk (((w.setCell ⟨g, 0, none⟩ v0).setCell ⟨g, 1, none⟩ v1).setCell ⟨g, 2, none⟩ v2) g 40 #[v0, v1, v2] ∧ Below W.heap.size W (((w.setCell ⟨g, 0, none⟩ v0).setCell ⟨g, 1, none⟩ v1).setCell ⟨g, 2, none⟩ v2) := by
  have s0 : Blk (w.setCell ⟨g, 0, none⟩ v0) g 40 #[v0, z1, z2] := hB.set_ 0 v0
  have s1 : Blk ((w.setCell ⟨g, 0, none⟩ v0).setCell ⟨g, 1, none⟩ v1) g 40 #[v0, v1, z2] := s0.set_ 1 v1
  have s2 : Blk (((w.setCell ⟨g, 0, none⟩ v0).setCell ⟨g, 1, none⟩ v1).setCell ⟨g, 2, none⟩ v2) g 40 #[v0, v1, v2] := s1.set_ 2 v2
  exact ⟨s2, ((hb.setCell (p := ⟨g, 0, none⟩) hg v0).setCell (p := ⟨g, 1, none⟩) hg v1).setCell (p := ⟨g, 2, none⟩) hg v2⟩
theorem ret_ad3 {fn : Func} {a : Act} {W w : World} {g x y : Nat} {z0 z1 z2 v0 v1 v2 u : Value} (hres : fn.results = #[.cell x 40, .tmp y]) (hB : Blk w g 40 #[z0, z1, z2]) (hb : Below W.heap.size W w) (hg : W.heap.size ≤ g) (h1 : a.tmps.getD x undef = .pointer (some ⟨g, 0, none⟩)) (h2 : a.tmps.getD y undef = u) (hd : a.defers = []) : bodyPost Tryz.prog fn (Got (.tuple #[.agg #[v0, v1, v2], u]) W) .ret a (((w.setCell ⟨g, 0, none⟩ v0).setCell ⟨g, 1, none⟩ v1).setCell ⟨g, 2, none⟩ v2) :=
  ret_ad hres (three hB hb hg).1 (three hB hb hg).2 h1 h2 hd

theorem or16 {h x : Nat} (hh : h < 281474976710656) (hx : x < 65536) : bits .or .u64 ((h : Int) * 65536) (x : Int) = ((h * 65536 + x : Nat) : Int) := by
  have e := u64_or_nat (h * 65536) x (by omega) (by omega)
  rw [show (h : Int) * 65536 = ((h * 65536 : Nat) : Int) by omega, e]
  have := Nat.shiftLeft_add_eq_or_of_lt (i := 16) (b := x) (by omega) h
  rw [Nat.shiftLeft_eq] at this
  rw [show (65536 : Nat) = 2 ^ 16 from rfl, ← this]

theorem fold16_snoc (l : List Nat) (x : Nat) : fold16 (l ++ [x]) = fold16 l * 65536 + x := by unfold fold16; rw [List.foldl_append]; rfl
theorem fold16_bound {l : List Nat} (h : ∀ x ∈ l, x < 65536) (hl : l.length ≤ 3) : fold16 l < 281474976710656 := by
  have := fold16_lt l 0 1 h (by decide)
  have h2 : 65536 ^ l.length ≤ 65536 ^ 3 := Nat.pow_le_pow_right (by decide) hl
  unfold fold16
  omega
theorem fold_step16 {A : List Nat} {k : Nat} (hk : k < A.length) (hA : ∀ x ∈ A, x < 65536) :
    (if k < 4 then fold16 ((A.take (k + 1)).take 4) = fold16 ((A.take k).take 4) * 65536 + A.getD k 0 ∧ fold16 ((A.take (k + 1)).drop 4) = fold16 ((A.take k).drop 4)
     else fold16 ((A.take (k + 1)).take 4) = fold16 ((A.take k).take 4) ∧ (k < 8 → fold16 ((A.take (k + 1)).drop 4) = fold16 ((A.take k).drop 4) * 65536 + A.getD k 0))
    ∧ (k < 4 → fold16 ((A.take k).take 4) < 281474976710656) ∧ (k < 8 → fold16 ((A.take k).drop 4) < 281474976710656) := by
  have hs : A.take (k + 1) = A.take k ++ [A.getD k 0] := by
    rw [List.take_succ_eq_append_getElem hk, List.getD_eq_getElem?_getD, List.getElem?_eq_getElem hk]
    rfl
  have hkl : (A.take k).length = k := by rw [List.length_take]; omega
  refine ⟨?_, fun h => fold16_bound (take_lt (take_lt hA)) (by rw [List.length_take, hkl]; omega), fun h => fold16_bound (drop_lt (take_lt hA)) (by rw [List.length_drop, hkl]; omega)⟩
  split
  · next h =>
    rw [hs, List.take_of_length_le (l := A.take k) (by omega), List.take_of_length_le (by rw [List.length_append, hkl]; simp; omega), fold16_snoc]
    refine ⟨rfl, ?_⟩
    rw [List.drop_of_length_le (by rw [List.length_append, hkl]; simp; omega), List.drop_of_length_le (by omega)]
  · next h =>
    rw [hs, List.take_append_of_le_length (by omega), List.drop_append_of_le_length (by omega), fold16_snoc]
    exact ⟨rfl, fun _ => rfl⟩

def wholeV (o : Option Ad) : Value := match o with
  | none => .tuple #[.agg #[.bool false, .int .u64 0, .int .u64 0], .bool false]
  | some a => .tuple #[.agg a.cells, .bool true]

set_option maxHeartbeats 4000000 in
set_option maxRecDepth 100000 in
theorem whole_any {w : World} {bf bb : Nat} {vf vb : Value} (f b : List Nat) (gap : Bool) (hof : w.ownsRow bf 38 1 vf f.length (cellsU f)) (hob : w.ownsRow bb 38 1 vb b.length (cellsU b)) (hf : f.length ≤ 9) (hb9 : b.length ≤ 9) (hfx : ∀ x ∈ f, x < 65536) (hbx : ∀ x ∈ b, x < 65536) : Calls Tryz.prog 188 #[vf, vb, .bool gap] w (Got (wholeV (wholeL f b gap)) w) := by
  obtain ⟨i0, hi, hz0, hz1, hz2⟩ := info_parts info_u64
  obtain ⟨Af, capf, rfl⟩ := own_shape hof
  obtain ⟨Ab, capb, rfl⟩ := own_shape hob
  have hB0 := Blk.new w 40 #[.bool false, .int .u64 0, .int .u64 0]
  have hb0 := boxed w (.cells #[.bool false, .int .u64 0, .int .u64 0] 40)
  obtain ⟨WL, hWL⟩ : ∃ o, o = wholeL f b gap := ⟨_, rfl⟩
  have hWL2 := hWL
  unfold wholeL at hWL2
  rw [← hWL]
  have HFL : Hid (f.length = f.length) := Lib.hid rfl
  obtain ⟨F, hF⟩ : ∃ n, n = f.length := ⟨_, rfl⟩
  obtain ⟨G, hG⟩ : ∃ n, n = b.length := ⟨_, rfl⟩
  rw [← hF, ← hG] at hWL2
  rw [← hF] at hof hf
  rw [← hG] at hob hb9
  rw [← hF, ← hG]
  have Hof := Lib.hid hof
  have Hob := Lib.hid hob
  have HF := Lib.hid hF
  have HG := Lib.hid hG
  clear hof hob hWL hF hG HFL
  by_cases hbad : (gap = false ∧ F + G ≠ 8) ∨ (gap = true ∧ 7 < F + G)
  · rw [if_pos hbad] at hWL2
    rw [hWL2]
    clear hWL2
    show Calls _ _ _ w (Got (.tuple #[.agg #[.bool false, .int .u64 0, .int .u64 0], .bool false]) w)
    cases gap with
    | false =>
      have hne : ¬ F + G = 8 := by rcases hbad with ⟨_, h⟩ | ⟨h, _⟩ <;> simp_all
      have h1 : ((F : Int) + (G : Int) != 8) = true := by simp; omega
      have h2 : ((F : Int) + (G : Int) == 8) = false := by simp; omega
      clear hbad hne
      go_enter Tryz.func188, Tryz.ntmps188
      go_wp2_with fail
      exact bodyPost_ret (results_ct rfl rfl rfl (load_ad (Blk.new _ _ _))) rfl ⟨rfl, boxed _ _⟩
    | true =>
      have hne : 7 < F + G := by rcases hbad with ⟨h, _⟩ | ⟨_, h⟩ <;> simp_all
      have h1 : (7 : Int) < (F : Int) + (G : Int) := by omega
      clear hbad hne
      go_enter Tryz.func188, Tryz.ntmps188
      go_wp2_with fail
      exact bodyPost_ret (results_ct rfl rfl rfl (load_ad (Blk.new _ _ _))) rfl ⟨rfl, boxed _ _⟩
  · rw [if_neg hbad] at hWL2
    have hFG : F + G ≤ 8 := by cases gap <;> simp at hbad <;> omega
    have h1 : gap = false → ((F : Int) + (G : Int) != 8) = false := fun h => by subst h; simp at hbad; simp; omega
    have h2 : gap = true → ¬ (7 : Int) < (F : Int) + (G : Int) := fun h => by subst h; simp at hbad; omega
    obtain ⟨K, hK⟩ : ∃ k, k = 8 - (F + G) := ⟨_, rfl⟩
    have hall : ∃ A : List Nat, A = f ++ List.replicate K 0 ++ b ∧ A.length = 8 ∧ (∀ x ∈ A, x < 65536) ∧ cellsU A = cellsU f ++ List.replicate K (.int .u64 0) ++ cellsU b := by
      refine ⟨_, rfl, ?_, ?_, ?_⟩
      · rw [List.length_append, List.length_append, List.length_replicate, ← HF.out, ← HG.out]
        omega
      · intro x hx
        rcases List.mem_append.1 hx with hx | hx
        · rcases List.mem_append.1 hx with hx | hx
          · exact hfx x hx
          · rw [(List.mem_replicate.1 hx).2]; decide
        · exact hbx x hx
      · simp [cellsU]
    rw [← hK] at hWL2
    obtain ⟨ALL, hA, hA8, hAx, hAc⟩ := hall
    rw [← hA] at hWL2
    rw [hWL2]
    show Calls _ _ _ w (Got (.tuple #[.agg #[.bool true, .int .u64 (fold16 (ALL.take 4) : Int), .int .u64 (fold16 (ALL.drop 4) : Int)], .bool true]) w)
    have eK : (8 : Int) - ((F : Int) + (G : Int)) = (K : Int) := by omega
    have HAc := Lib.hid hAc
    have HA8 := Lib.hid hA8
    have HAx := Lib.hid hAx
    have HK := Lib.hid hK
    have hz3 : (Value.int IntKind.u64 0).cells = #[.int .u64 0] := rfl
    have HZ3 := Lib.hid hz3
    clear hWL2 hA hA8 hAx hAc hK hbad hz3
    have hclone := fun o => clone_any (w := w.alloc o) f (by rw [← HF.out]; exact Hof.out.alloc o) (by rw [← HF.out]; omega)
    rw [← HF.out] at hclone
    have HCl := Lib.hid hclone
    clear hclone
    obtain ⟨v0, hv0⟩ : ∃ v, v = w.alloc (.cells #[.bool false, .int .u64 0, .int .u64 0] 40) := ⟨_, rfl⟩
    rw [← hv0] at hB0 hb0
    have hsz0 : v0.heap.size = w.heap.size + 1 := by rw [hv0]; simp
    have HCl := Lib.hid (HCl.out (.cells #[.bool false, .int .u64 0, .int .u64 0] 40))
    rw [← hv0] at HCl
    have HB0 := Lib.hid hB0
    have Hb0 := Lib.hid hb0
    have Hv0 := Lib.hid hv0
    clear hB0 hb0 hv0
    cases gap
    all_goals
      first
        | (have h3 := h1 rfl)
        | (have h3 := h2 rfl)
      clear h1 h2
      go_enter Tryz.func188, Tryz.ntmps188
      go_wp2_with (go_at_call 194; fail)
      rw [← Hv0.out]
      refine HCl.out.mono ?_
      rintro r w1 ⟨⟨v1, rfl, ho1⟩, hb1⟩
      have Ho1 := Lib.hid ho1
      have HB1 := Lib.hid (HB0.out.below hb1 HB0.out.lt)
      have Hb1 := Lib.hid (after Hb0.out hb1)
      have hsz1 : w.heap.size + 1 ≤ w1.heap.size := by have := hb1.size; omega
      clear ho1 hb1
      go_upto_region 5 with (first
        | (at_builtin; obtain ⟨v2, w2, hr2, ho2, hg2⟩ := run_append_make (P := Tryz.prog) w1 v0.heap.size 252 3 252 38 i0 (.int .u64 0) Tryz.underlying252 Tryz.underlying3 hi hz0 hz1 hz2 HZ3.out rfl v1 F (cellsU f) Ho1.out K (by omega) (by omega) (by omega); refine step_append rfl _ _ _ _ rfl rfl rfl hr2 ?_; have HB2 := Lib.hid (HB1.out.grown hg2 (fun e => by have := (Ho1.out.lt _ e.symm).1; omega)); have Hb2 := Lib.hid (Hb1.out.grown hg2 (by omega) (fun q hq => by have := (Ho1.out.lt q hq).1; omega)); have hsz2 : w.heap.size + 1 ≤ w2.heap.size := Nat.le_trans hsz1 hg2.size; have Ho2 := Lib.hid ho2; clear hr2 ho2 hg2)
        | (at_builtin; obtain ⟨v3, w3, hr3, ho3, hg3⟩ := run_append_two (P := Tryz.prog) w2 v0.heap.size bb 252 252 38 i0 (.int .u64 0) Tryz.underlying252 hi hz0 hz1 hz2 rfl v2 (F + K) _ Ho2.out (.slice Ab G capb) G (cellsU b) (own_below Hob.out Hb2.out) (fun x hx => by obtain ⟨y, _, rfl⟩ := List.mem_map.1 hx; rfl) (by omega) (by omega) (by omega); refine step_append rfl _ _ _ _ rfl rfl rfl hr3 ?_; have HB3 := Lib.hid (HB2.out.grown hg3 (fun e => by have := (Ho2.out.lt _ e.symm).1; omega)); have Hb3 := Lib.hid (Hb2.out.grown hg3 (by omega) (fun q hq => by have := (Ho2.out.lt q hq).1; omega)); have hsz3 : w.heap.size + 1 ≤ w3.heap.size := Nat.le_trans hsz2 hg3.size; have Ho3 := Lib.hid ho3; clear hr3 ho3 hg3))
      have hrow : w3.ownsRow v0.heap.size 38 1 v3 (7 + 1) (cellsU ALL) := by
        have h := Ho3.out
        rw [show F + K + G = 7 + 1 by omega] at h
        rw [HAc.out]
        exact h
      obtain ⟨ga, cap, rfl⟩ := own_form hrow
      have hga := hrow.lt ga rfl
      have c0 := HB3.out.cell 0
      have f0 := HB3.out.frozen 0
      simp at c0
      have Hrow := Lib.hid hrow
      clear hrow
      go_wp2_with fail
      have hB4 : Blk (w3.setCell ⟨w.heap.size, 0, none⟩ (.bool true)) w.heap.size 40 #[.bool true, .int .u64 0, .int .u64 0] := HB3.out.set_ 0 _
      have hb4 := Hb3.out.setCell (p := ⟨w.heap.size, 0, none⟩) (Nat.le_refl _) (.bool true)
      have hr4 : ∀ j (hj : j < 8), (w3.setCell ⟨w.heap.size, 0, none⟩ (.bool true)).cell? ⟨ga, j, none⟩ = some (.int .u64 (ALL.getD j 0 : Int)) := by
        intro j hj
        rw [cell_far (by show w.heap.size ≠ ga; omega), Hrow.out.cellAt (g := ga) (cap := cap) j (by omega)]
        unfold cellsU
        have hjl : j < ALL.length := by have := HA8.out; omega
        rw [List.getElem?_map, List.getElem?_eq_getElem hjl, List.getD_eq_getElem?_getD, List.getElem?_eq_getElem hjl]
        rfl
      generalize w3.setCell ⟨w.heap.size, 0, none⟩ (.bool true) = w4 at hB4 hb4 hr4 ⊢
      have HB4 := Lib.hid hB4
      have Hb4 := Lib.hid hb4
      have Hr4 := Lib.hid hr4
      clear hB4 hb4 hr4 c0 f0
      go_loopw [41] (fun v41 wr => ∃ k : Nat, k ≤ 8 ∧ v41 = .int .i64 (k : Int) ∧ RowKit.Hid (Blk wr w.heap.size 40 #[.bool true, .int .u64 (fold16 ((ALL.take k).take 4) : Int), .int .u64 (fold16 ((ALL.take k).drop 4) : Int)]) ∧ RowKit.Hid (∀ j (hj : j < 8), wr.cell? ⟨ga, j, none⟩ = some (.int .u64 (ALL.getD j 0 : Int))) ∧ RowKit.Hid (Below w.heap.size w wr)) (fun v41 _ => 8 - (intOf v41).toNat)
      case atStart => exact ⟨0, by omega, rfl, HB4, Hr4, Hb4⟩
      case round =>
        obtain ⟨k, hk, rfl, hB, hr, hb⟩ := hrel
        by_cases hlt : k < 8
        · have hkl : k < ALL.length := by have := HA8.out; omega
          have cx := hr.out k hlt
          have hX : ALL.getD k 0 < 65536 := by
            rw [List.getD_eq_getElem?_getD, List.getElem?_eq_getElem hkl]
            exact HAx.out _ (List.getElem_mem hkl)
          have a1 := hB.out.cell 1
          have a2 := hB.out.cell 2
          have fr := fun i => hB.out.frozen i
          simp at a1 a2
          have hfold := fold_step16 (A := ALL) hkl HAx.out
          generalize ALL.getD k 0 = X at cx hX hfold
          obtain ⟨hnx, hh, hl⟩ := hfold
          have Hnx := Lib.hid hnx
          have Hc := Lib.hid hr.out
          have hr' := fun (u : Value) (i : Nat) j (hj : j < 8) => (cell_far (w := wr) (a := ⟨w.heap.size, i, none⟩) (c := ⟨ga, j, none⟩) (u := u) (by show w.heap.size ≠ ga; omega)).trans (hr.out j hj)
          have Hr' := Lib.hid hr'
          clear hnx hr'
          obtain ⟨H0, hH0⟩ : ∃ n, n = fold16 ((ALL.take k).take 4) := ⟨_, rfl⟩
          obtain ⟨L0, hL0⟩ : ∃ n, n = fold16 ((ALL.take k).drop 4) := ⟨_, rfl⟩
          rw [← hH0] at hh a1
          rw [← hL0] at hl a2
          have HH0 := Lib.hid hH0
          have HL0 := Lib.hid hL0
          clear hH0 hL0
          by_cases h4 : k < 4
          · have hb48 := hh h4
            have ho := or16 hb48 hX
            have hw : IntKind.u64.wrap ((H0 : Int) * 65536) = (H0 : Int) * 65536 := by rw [IntKind.wrap_u64]; omega
            have h4' : (k : Int) < 4 := by omega
            clear hh hl
            go_wp2_with fail
            go_roundw
            case rel =>
              have hs := hB.out.set_ 1 (.int .u64 ((H0 * 65536 + X : Nat) : Int))
              have hn := Hnx.out
              rw [if_pos h4, ← HH0.out] at hn
              exact ⟨k + 1, by omega, by go_num, Lib.hid (by rw [hn.1, hn.2]; exact hs), Lib.hid (Hr'.out _ 1), Lib.hid (hb.out.setCell (p := ⟨w.heap.size, 1, none⟩) (Nat.le_refl _) _)⟩
            case measure => simp [intOf]; omega
          · have hb48 := hl hlt
            have ho := or16 hb48 hX
            have hw : IntKind.u64.wrap ((L0 : Int) * 65536) = (L0 : Int) * 65536 := by rw [IntKind.wrap_u64]; omega
            have h4' : ¬ (k : Int) < 4 := by omega
            clear hh hl
            go_wp2_with fail
            go_roundw
            case rel =>
              have hs := hB.out.set_ 2 (.int .u64 ((L0 * 65536 + X : Nat) : Int))
              have hn := Hnx.out
              rw [if_neg h4, ← HL0.out] at hn
              exact ⟨k + 1, by omega, by go_num, Lib.hid (by rw [hn.1, hn.2 hlt]; exact hs), Lib.hid (Hr'.out _ 2), Lib.hid (hb.out.setCell (p := ⟨w.heap.size, 2, none⟩) (Nat.le_refl _) _)⟩
            case measure => simp [intOf]; omega
        · obtain rfl : k = 8 := by omega
          have hB8 := hB.out
          rw [show ALL.take 8 = ALL from List.take_of_length_le (by have := HA8.out; omega)] at hB8
          have c0 := hB8.cell 0
          have c1 := hB8.cell 1
          have c2 := hB8.cell 2
          simp at c0 c1 c2
          have fr := fun i => hB8.frozen i
          have HB8 := Lib.hid hB8
          clear hB8
          go_wp2_with fail
          exact ret_ad3 (g := w.heap.size) (x := 6) (y := 7) rfl HB8.out hb.out (Nat.le_refl _) rfl rfl rfl
end Go.Proofs.YthglckoikjfjkaaGreatDoor

/- Texts of addresses, the program's: the eight numbers of an address of IPv6; an address of IPv4: the walks. -/
namespace Go.Proofs.YthglckoikjfjkaaGreatDoor
open Go.RowKit

def halfOf (a : Ad) (k : Nat) : Nat := if k < 4 then a.hi else a.lo
theorem piece_at (a : Ad) (k : Nat) (hk : k < 8) : (pieceL a).getD k 0 = halfOf a k / 2 ^ (48 - 16 * (k % 4)) % 65536 := by
  unfold halfOf pieceL
  rcases (show k = 0 ∨ k = 1 ∨ k = 2 ∨ k = 3 ∨ k = 4 ∨ k = 5 ∨ k = 6 ∨ k = 7 by omega) with rfl | rfl | rfl | rfl | rfl | rfl | rfl | rfl <;> simp
theorem and3 (k : Nat) (hk : k < 8) : bits .and .i64 (k : Int) 3 = ((k % 4 : Nat) : Int) := by
  rcases (show k = 0 ∨ k = 1 ∨ k = 2 ∨ k = 3 ∨ k = 4 ∨ k = 5 ∨ k = 6 ∨ k = 7 by omega) with rfl | rfl | rfl | rfl | rfl | rfl | rfl | rfl <;> kernel_rfl

/- Eight numbers, the first k of them laid. -/
def prow (K : IntKind) (L : List Nat) (k : Nat) : Array Value := ((List.range 8).map fun j => Value.int K (if j < k then (L.getD j 0 : Int) else 0)).toArray
theorem prow_zero (K : IntKind) (L : List Nat) : prow K L 0 = Array.replicate 8 (.int K 0) := by
  unfold prow
  apply Array.ext
  · simp
  · intro i h1 h2
    simp
theorem prow_set (K : IntKind) (L : List Nat) (k : Nat) (hk : k < 8) : (prow K L k).setIfInBounds k (.int K (L.getD k 0 : Int)) = prow K L (k + 1) := by
  unfold prow
  apply Array.ext
  · simp
  · intro i h1 h2
    simp only [Array.size_setIfInBounds, List.size_toArray, List.length_map, List.length_range] at h1
    rw [Array.getElem_setIfInBounds (by simpa using h1)]
    simp only [List.getElem_toArray, List.getElem_map, List.getElem_range]
    by_cases h : k = i
    · subst h
      rw [if_pos rfl, if_pos (by omega)]
    · rw [if_neg h]
      by_cases h3 : i < k
      · rw [if_pos h3, if_pos (by omega)]
      · rw [if_neg h3, if_neg (by omega)]
theorem prow_at (K : IntKind) (L : List Nat) (k j : Nat) (hj : j < 8) : (prow K L k)[j]? = some (.int K (if j < k then (L.getD j 0 : Int) else 0)) := by
  unfold prow
  rw [Array.getElem?_eq_getElem (by simpa using hj)]
  simp
theorem prow_eight (K : IntKind) (L : List Nat) : prow K L 8 = #[.int K (L.getD 0 0 : Int), .int K (L.getD 1 0 : Int), .int K (L.getD 2 0 : Int), .int K (L.getD 3 0 : Int), .int K (L.getD 4 0 : Int), .int K (L.getD 5 0 : Int), .int K (L.getD 6 0 : Int), .int K (L.getD 7 0 : Int)] := rfl

theorem load_eight {w : World} {g : Nat} {v0 v1 v2 v3 v4 v5 v6 v7 : Value} (h : Blk w g 146 #[v0, v1, v2, v3, v4, v5, v6, v7]) : (loadVar 146 ⟨g, 0, none⟩).run Tryz.prog w = .ok (.agg #[v0, v1, v2, v3, v4, v5, v6, v7]) w := by
  have c0 := h.cell 0
  have c1 := h.cell 1
  have c2 := h.cell 2
  have c3 := h.cell 3
  have c4 := h.cell 4
  have c5 := h.cell 5
  have c6 := h.cell 6
  have c7 := h.cell 7
  simp at c0 c1 c2 c3 c4 c5 c6 c7
  simp [loadVar, go_sem, c0, c1, c2, c3, c4, c5, c6, c7]
theorem ret_eight {fn : Func} {a : Act} {W w : World} {g x : Nat} {z0 z1 z2 z3 z4 z5 z6 z7 v0 v1 v2 v3 v4 v5 v6 v7 : Value} (hres : fn.results = #[.cell x 146]) (hB : Blk w g 146 #[z0, z1, z2, z3, z4, z5, z6, z7]) (hb : Below W.heap.size W w) (hg : W.heap.size ≤ g) (h1 : a.tmps.getD x undef = .pointer (some ⟨g, 0, none⟩)) (hd : a.defers = []) :
    bodyPost Tryz.prog fn (Got (.agg #[v0, v1, v2, v3, v4, v5, v6, v7]) W) .ret a ((((((((w.setCell ⟨g, 0, none⟩ v0).setCell ⟨g, 1, none⟩ v1).setCell ⟨g, 2, none⟩ v2).setCell ⟨g, 3, none⟩ v3).setCell ⟨g, 4, none⟩ v4).setCell ⟨g, 5, none⟩ v5).setCell ⟨g, 6, none⟩ v6).setCell ⟨g, 7, none⟩ v7) := by
  have s0 : Blk (w.setCell ⟨g, 0, none⟩ v0) g 146 #[v0, z1, z2, z3, z4, z5, z6, z7] := hB.set_ 0 v0
  have s1 : Blk ((w.setCell ⟨g, 0, none⟩ v0).setCell ⟨g, 1, none⟩ v1) g 146 #[v0, v1, z2, z3, z4, z5, z6, z7] := s0.set_ 1 v1
  have s2 : Blk (((w.setCell ⟨g, 0, none⟩ v0).setCell ⟨g, 1, none⟩ v1).setCell ⟨g, 2, none⟩ v2) g 146 #[v0, v1, v2, z3, z4, z5, z6, z7] := s1.set_ 2 v2
  have s3 : Blk ((((w.setCell ⟨g, 0, none⟩ v0).setCell ⟨g, 1, none⟩ v1).setCell ⟨g, 2, none⟩ v2).setCell ⟨g, 3, none⟩ v3) g 146 #[v0, v1, v2, v3, z4, z5, z6, z7] := s2.set_ 3 v3
  have s4 : Blk (((((w.setCell ⟨g, 0, none⟩ v0).setCell ⟨g, 1, none⟩ v1).setCell ⟨g, 2, none⟩ v2).setCell ⟨g, 3, none⟩ v3).setCell ⟨g, 4, none⟩ v4) g 146 #[v0, v1, v2, v3, v4, z5, z6, z7] := s3.set_ 4 v4
  have s5 : Blk ((((((w.setCell ⟨g, 0, none⟩ v0).setCell ⟨g, 1, none⟩ v1).setCell ⟨g, 2, none⟩ v2).setCell ⟨g, 3, none⟩ v3).setCell ⟨g, 4, none⟩ v4).setCell ⟨g, 5, none⟩ v5) g 146 #[v0, v1, v2, v3, v4, v5, z6, z7] := s4.set_ 5 v5
  have s6 : Blk (((((((w.setCell ⟨g, 0, none⟩ v0).setCell ⟨g, 1, none⟩ v1).setCell ⟨g, 2, none⟩ v2).setCell ⟨g, 3, none⟩ v3).setCell ⟨g, 4, none⟩ v4).setCell ⟨g, 5, none⟩ v5).setCell ⟨g, 6, none⟩ v6) g 146 #[v0, v1, v2, v3, v4, v5, v6, z7] := s5.set_ 6 v6
  have s7 : Blk ((((((((w.setCell ⟨g, 0, none⟩ v0).setCell ⟨g, 1, none⟩ v1).setCell ⟨g, 2, none⟩ v2).setCell ⟨g, 3, none⟩ v3).setCell ⟨g, 4, none⟩ v4).setCell ⟨g, 5, none⟩ v5).setCell ⟨g, 6, none⟩ v6).setCell ⟨g, 7, none⟩ v7) g 146 #[v0, v1, v2, v3, v4, v5, v6, v7] := s6.set_ 7 v7
  exact bodyPost_ret (results_c hres h1 (load_eight s7)) hd ⟨rfl, ((((((((hb.setCell (p := ⟨g, 0, none⟩) hg v0).setCell (p := ⟨g, 1, none⟩) hg v1).setCell (p := ⟨g, 2, none⟩) hg v2).setCell (p := ⟨g, 3, none⟩) hg v3).setCell (p := ⟨g, 4, none⟩) hg v4).setCell (p := ⟨g, 5, none⟩) hg v5).setCell (p := ⟨g, 6, none⟩) hg v6).setCell (p := ⟨g, 7, none⟩) hg v7)⟩

set_option maxHeartbeats 1000000 in
theorem pieces_any (a : Ad) (ok : a.Ok) (w : World) : Calls Tryz.prog 88 #[.agg a.cells] w (Got (.agg (prow .u16 (pieceL a) 8)) w) := by
  have HP := fun k hk => piece_at a k hk
  have hh := ok.hi
  have hl := ok.lo
  have HS : ∀ k, prow .u16 (pieceL a) k = prow .u16 (pieceL a) k := fun _ => rfl
  have hset := fun k hk => prow_set .u16 (pieceL a) k hk
  generalize pieceL a = L at HP hset ⊢
  obtain ⟨RV, hRV⟩ : ∃ r, r = prow .u16 L 8 := ⟨_, rfl⟩
  rw [← hRV]
  have HRV := Lib.hid hRV
  clear hRV
  clear HS ok
  have HP := Lib.hid HP
  have Hset := Lib.hid hset
  clear hset
  unfold halfOf at HP
  obtain ⟨v, x, l⟩ := a
  unfold Ad.cells
  simp only at hh hl HP ⊢
  go_enter Tryz.func88, Tryz.ntmps88
  go_wp2_with fail
  go_loopw [5] (fun i wr => ∃ k : Nat, k ≤ 8 ∧ i = .int .i64 (k : Int) ∧ RowKit.Hid (Blk wr w.heap.size 40 #[.bool v, .int .u64 (x : Int), .int .u64 (l : Int)]) ∧ RowKit.Hid (Blk wr (w.heap.size + 1) 146 (prow .u16 L k)) ∧ RowKit.Hid (Below w.heap.size w wr)) (fun i _ => 8 - (intOf i).toNat)
  case atStart =>
    have hz : (#[.int .u16 0, .int .u16 0, .int .u16 0, .int .u16 0, .int .u16 0, .int .u16 0, .int .u16 0, .int .u16 0] : Array Value) = Array.replicate 8 (.int .u16 0) := rfl
    have hz0 : Blk ((w.alloc (.cells #[.bool v, .int .u64 (x : Int), .int .u64 (l : Int)] 40)).alloc (.cells #[.int .u16 0, .int .u16 0, .int .u16 0, .int .u16 0, .int .u16 0, .int .u16 0, .int .u16 0, .int .u16 0] 146)) (w.heap.size + 1) 146 (prow .u16 L 0) := by
      rw [prow_zero, ← hz]
      have h := Blk.new (w.alloc (.cells #[.bool v, .int .u64 (x : Int), .int .u64 (l : Int)] 40)) 146 #[.int .u16 0, .int .u16 0, .int .u16 0, .int .u16 0, .int .u16 0, .int .u16 0, .int .u16 0, .int .u16 0]
      simpa using h
    exact ⟨0, by omega, rfl, Lib.hid ((Blk.new _ _ _).alloc _), Lib.hid hz0, Lib.hid (two_boxed _ _ _)⟩
  case round =>
    obtain ⟨k, hk, rfl, hA, hR, hb⟩ := hrel
    by_cases hlt : k < 8
    · have e1 := and3 k hlt
      obtain ⟨q, hq, hq3⟩ : ∃ q, q = k % 4 ∧ q < 4 := ⟨_, rfl, Nat.mod_lt _ (by decide)⟩
      rw [← hq] at e1
      have e2 : ((48 : Int) - 16 * (q : Int)).toNat = 48 - 16 * q := by omega
      have hp := HP.out k hlt
      rw [← hq] at hp
      have a1 := hA.out.cell 1
      have a2 := hA.out.cell 2
      have hcell := (hR.out.cell k).trans (prow_at .u16 L k k hlt)
      have hfr := hR.out.frozen k
      simp at a1 a2
      have hset := Hset.out k hlt
      have wv : ∀ y : Nat, IntKind.u16.wrap ((y : Int) / 2 ^ (48 - 16 * q)) = ((y / 2 ^ (48 - 16 * q) % 65536 : Nat) : Int) := by
        intro y
        rw [shr_nat]
        generalize y / 2 ^ (48 - 16 * q) = Y
        simp [IntKind.wrap_u16]
      by_cases h4 : k < 4
      all_goals
        first | rw [if_pos h4] at hp | rw [if_neg h4] at hp
        first
          | (have h4' : ¬ (3 : Int) < (k : Int) := by omega)
          | (have h4' : (3 : Int) < (k : Int) := by omega)
        have Hp := Lib.hid hp
        have Hset1 := Lib.hid hset
        have Wv := Lib.hid wv
        clear hp hq hset wv
        go_wp2_with fail
        go_roundw
        case rel =>
          rw [Wv.out, ← Hp.out]
          exact ⟨k + 1, by omega, by go_num, Lib.hid (hA.out.far (p := ⟨w.heap.size + 1, k, none⟩) (by simp) _), Lib.hid (by rw [← Hset1.out]; exact hR.out.set_ k _), Lib.hid (hb.out.setCell (p := ⟨w.heap.size + 1, k, none⟩) (by simp) _)⟩
        case measure => simp [intOf]; omega
    · obtain rfl : k = 8 := by omega
      have hR8 := hR.out
      have hRV := HRV.out
      rw [prow_eight] at hR8 hRV
      generalize L.getD 0 0 = p0 at hR8 hRV
      generalize L.getD 1 0 = p1 at hR8 hRV
      generalize L.getD 2 0 = p2 at hR8 hRV
      generalize L.getD 3 0 = p3 at hR8 hRV
      generalize L.getD 4 0 = p4 at hR8 hRV
      generalize L.getD 5 0 = p5 at hR8 hRV
      generalize L.getD 6 0 = p6 at hR8 hRV
      generalize L.getD 7 0 = p7 at hR8 hRV
      have c0 := hR8.cell 0
      have c1 := hR8.cell 1
      have c2 := hR8.cell 2
      have c3 := hR8.cell 3
      have c4 := hR8.cell 4
      have c5 := hR8.cell 5
      have c6 := hR8.cell 6
      have c7 := hR8.cell 7
      simp at c0 c1 c2 c3 c4 c5 c6 c7
      have fr := fun i => hR8.frozen i
      have HR8 := Lib.hid hR8
      have HRV2 := Lib.hid hRV
      clear hR8 hRV
      go_wp2_with fail
      rw [HRV2.out]
      exact ret_eight (g := w.heap.size + 1) (x := 2) rfl HR8.out hb.out (by simp) rfl rfl
end Go.Proofs.YthglckoikjfjkaaGreatDoor

/- Texts of addresses, step by step: the plain law. -/
namespace Go.Proofs.YthglckoikjfjkaaGreatDoor

theorem itoa_nat (x : Nat) : Lib.itoa (x : Int) = Lib.decDigits x := by
  unfold Lib.itoa
  rw [if_neg (by omega), show ((x : Int)).toNat = x by omega]

/- The longest row of noughts, as far as k numbers are looked at. -/
def bestK (L : List Nat) : Nat → Int × Nat
  | 0 => (-1, 1)
  | k + 1 => if (bestK L k).2 < run0 (L.drop k) then ((k : Int), run0 (L.drop k)) else bestK L k
theorem bestK_go (L : List Nat) : ∀ k, k ≤ L.length → bestGo k (L.drop k) (bestK L k) = best L := by
  intro k
  induction k with
  | zero => intro _; rfl
  | succ k ih =>
    intro h
    have e := ih (by omega)
    rw [List.drop_eq_getElem_cons (show k < L.length by omega)] at e
    unfold bestGo at e
    unfold bestK
    rw [List.drop_eq_getElem_cons (show k < L.length by omega)]
    exact e
theorem bestK_all (L : List Nat) : bestK L L.length = best L := by
  have := bestK_go L L.length (Nat.le_refl _)
  rwa [List.drop_of_length_le (Nat.le_refl _)] at this
theorem bestK_range (L : List Nat) (k : Nat) (h : k ≤ L.length) : -1 ≤ (bestK L k).1 ∧ (bestK L k).1 < (L.length : Int) ∧ (bestK L k).2 ≤ L.length + 1 := by
  induction k with
  | zero => exact ⟨show (-1 : Int) ≤ -1 by decide, by show (-1 : Int) < _; omega, by show 1 ≤ _; omega⟩
  | succ k ih =>
    have hr := run0_le (L.drop k)
    rw [List.length_drop] at hr
    unfold bestK
    split
    · exact ⟨by show (-1 : Int) ≤ (k : Int); omega, by show (k : Int) < _; omega, by show run0 _ ≤ _; omega⟩
    · exact ih (by omega)

/- How many noughts stand from i on. -/
theorem run0_at (L : List Nat) (i n : Nat) (hn : i + n ≤ L.length) (hz : ∀ j, j < n → L.getD (i + j) 0 = 0) (he : i + n = L.length ∨ L.getD (i + n) 0 ≠ 0) : run0 (L.drop i) = n := by
  induction n generalizing i with
  | zero =>
    rcases he with he | he
    · rw [Nat.add_zero] at he
      rw [List.drop_of_length_le (by omega)]
      rfl
    · rcases Nat.lt_or_ge i L.length with h | h
      · rw [List.drop_eq_getElem_cons h]
        unfold run0
        rw [Nat.add_zero, List.getD_eq_getElem?_getD, List.getElem?_eq_getElem h] at he
        exact if_neg he
      · rw [List.drop_of_length_le h]; rfl
  | succ n ih =>
    have h : i < L.length := by omega
    have h0 := hz 0 (by omega)
    rw [Nat.add_zero, List.getD_eq_getElem?_getD, List.getElem?_eq_getElem h] at h0
    rw [List.drop_eq_getElem_cons h]
    unfold run0
    rw [if_pos (show L[i] = 0 from h0), ih (i + 1) (by omega) (fun j hj => by rw [show i + 1 + j = i + (j + 1) by omega]; exact hz (j + 1) (by omega)) (by rw [show i + 1 + n = i + (n + 1) by omega]; exact he)]

/- The document's way of IPv4. -/
def ref4 (lo : Nat) : Nat → List UInt8
  | 0 => []
  | k + 1 => ref4 lo k ++ Lib.decDigits ((lo4 lo).getD k 0) ++ (if k < 3 then [46] else [])
theorem ref4_text (lo : Nat) : ref4 lo 4 = text4 lo := by
  unfold text4 lo4
  simp only [ref4, lo4, List.map_cons, List.map_nil]
  rw [join_two, join_two, join_two, Lib.join_one]
  simp [dot]
theorem lo4_at (lo k : Nat) (hk : k < 4) : (lo4 lo).getD k 0 = lo / 2 ^ (24 - 8 * k) % 256 := by
  unfold lo4
  rcases (show k = 0 ∨ k = 1 ∨ k = 2 ∨ k = 3 by omega) with rfl | rfl | rfl | rfl <;> simp
theorem ref4_len (lo : Nat) : ∀ k, (ref4 lo k).length ≤ 4 * k := by
  intro k
  induction k with
  | zero => simp [ref4]
  | succ k ih =>
    have h : (lo4 lo).getD k 0 < 1000 := by
      rcases Nat.lt_or_ge k 4 with hk | hk
      · rw [lo4_at lo k hk]; omega
      · rw [List.getD_eq_getElem?_getD, List.getElem?_eq_none (by simp [lo4]; omega)]; decide
    have := decL_len _ h
    unfold ref4
    generalize (lo4 lo).getD k 0 = X at this
    clear h
    rw [List.length_append, List.length_append]
    split <;> simp <;> omega
end Go.Proofs.YthglckoikjfjkaaGreatDoor

/- Texts of addresses of IPv4, the program's and the document's: the walks. -/
namespace Go.Proofs.YthglckoikjfjkaaGreatDoor
open Go.RowKit

theorem itoa_any {w : World} (env : Env w) (x : Nat) (hx : x < 1000) : Calls Tryz.prog 87 #[.int .i64 (x : Int)] w fun r w' => r = .returned (.string ⟨(Lib.decDigits x).toArray⟩) ∧ Below w.heap.size w w' := by
  refine (Tryz.strconv_Itoa (x : Int) (by omega) (by omega) w env.pow).mono ?_
  rintro r w' ⟨rfl, k, os, rfl⟩
  rw [itoa_nat]
  exact ⟨rfl, Lib.below_grow _ _ (Nat.le_refl _) _ _⟩

def decs (L : List Nat) : List (List UInt8) := L.map Lib.decDigits
theorem decs_take {L : List Nat} {k : Nat} (hk : k < L.length) : decs (L.take (k + 1)) = decs (L.take k) ++ [Lib.decDigits (L.getD k 0)] := by
  unfold decs
  rw [List.take_succ_eq_append_getElem hk, List.map_append, List.getD_eq_getElem?_getD, List.getElem?_eq_getElem hk]
  rfl
theorem and255 (y : Nat) (hy : y < 18446744073709551616) : bits .and .u64 (y : Int) 255 = ((y % 256 : Nat) : Int) := by
  have h := u64_and_nat y 255 hy (by decide)
  rw [show ((255 : Nat) : Int) = 255 from rfl] at h
  rw [h, show (255 : Nat) = 2 ^ 8 - 1 from rfl, Nat.and_two_pow_sub_one_eq_mod]
theorem text4_len (lo : Nat) : (text4 lo).length ≤ 16 := by
  have := ref4_len lo 4
  rwa [ref4_text] at this

set_option maxHeartbeats 2000000 in
set_option maxRecDepth 100000 in
theorem text_v4 {w : World} (env : Env w) (a : Ad) (ok : a.Ok) (hm : a.may = true) (h6 : a.v6 = false) : Calls Tryz.prog 53 #[.agg a.cells] w (Got (.string ⟨(text4 a.lo).toArray⟩) w) := by
  obtain ⟨i0, hi, hz0, hz1, hz2⟩ := info_parts info_str
  have Hm := Lib.hid (mayAddr_any a ok)
  rw [hm] at Hm
  have hl := ok.lo
  obtain ⟨v, x, l⟩ := a
  simp only at h6 hl
  subst h6
  unfold Ad.cells at *
  simp only at Hm ⊢
  clear hm ok
  obtain ⟨RV, hRV⟩ : ∃ r, r = text4 l := ⟨_, rfl⟩
  rw [← hRV]
  have HRV := Lib.hid hRV
  have Henv := Lib.hid env
  clear hRV env
  have hB0 := Blk.new w 40 #[.bool false, .int .u64 (x : Int), .int .u64 (l : Int)]
  have hb0 := boxed w (.cells #[.bool false, .int .u64 (x : Int), .int .u64 (l : Int)] 40)
  go_enter Tryz.func53, Tryz.ntmps53
  go_wp2_with (go_at_call 86; (with_reducible refine (Hm.out _).mono ?_); rintro r w1 ⟨rfl, g1⟩; have hb1 := after hb0 g1; have hB1 := hB0.below g1 hB0.lt; have a0 := hB1.cell 0; simp at a0)
  clear a0
  have HB1 := Lib.hid hB1
  have Hb1 := Lib.hid hb1
  clear hB0 hb0 hB1 hb1
  go_loopw [3, 19] (fun v i wr => ∃ k : Nat, k ≤ 4 ∧ i = .int .i64 (k : Int) ∧ RowKit.Hid (wr.ownsRow (w.heap.size + 1) 9 1 v k ((strs (decs ((lo4 l).take k))).map Value.string)) ∧ RowKit.Hid (Blk wr w.heap.size 40 #[.bool false, .int .u64 (x : Int), .int .u64 (l : Int)]) ∧ RowKit.Hid (Below w.heap.size w wr)) (fun _ i _ => 4 - (intOf i).toNat)
  case atStart => exact ⟨0, by omega, rfl, Lib.hid (World.ownsRow_nil _ _ _ _), HB1, Hb1⟩
  case round =>
    obtain ⟨k, hk, rfl, hown, hB, hb⟩ := hrel
    have hsz := hB.out.lt
    by_cases hlt : k < 4
    · have hp := lo4_at l k hlt
      have hs := decs_take (L := lo4 l) (k := k) hlt
      have hq : (strs (decs ((lo4 l).take (k + 1)))).map Value.string = (strs (decs ((lo4 l).take k))).map Value.string ++ [.string ⟨(Lib.decDigits ((lo4 l).getD k 0)).toArray⟩] := by rw [hs, strs_snoc]
      rw [hp] at hq
      have Hq := Lib.hid hq
      clear hs hq hp
      have e1 : ((24 : Int) - 8 * (k : Int)).toNat = 24 - 8 * k := by omega
      have e2 := shr_nat l (24 - 8 * k)
      have hy : l / 2 ^ (24 - 8 * k) < 18446744073709551616 := Nat.lt_of_le_of_lt (Nat.div_le_self _ _) hl
      have e3 := and255 _ hy
      generalize l / 2 ^ (24 - 8 * k) = Y at Hq e2 hy e3
      have hX : Y % 256 < 1000 := by omega
      have hX2 : Y % 256 < 256 := by omega
      generalize Y % 256 = X at Hq e3 hX hX2
      clear hy
      have HF := Lib.hid (itoa_any (w := wr) (Henv.out.below hb.out) X hX)
      have a2 := hB.out.cell 2
      simp at a2
      go_wp2_with (first
        | (go_at_call 87; (with_reducible refine HF.out.mono ?_); rintro r w2 ⟨rfl, g2⟩; have ho2 := Lib.hid (own_below hown.out g2); have hB2 := Lib.hid (hB.out.below g2 hsz); have hb2 := Lib.hid (after hb.out g2); clear g2 a2)
        | (at_builtin; refine wpList_append_own _ rfl _ _ 50 rfl (w.heap.size + 1) 9 i0 (.string ByteArray.empty) 1 16 Tryz.underlying50 hi hz0 hz1 hz2 rfl (by decide) _ k _ rfl (ho2.out.alloc _) ⟨w2.heap.size, 0, none⟩ 1 1 [.string ⟨(Lib.decDigits X).toArray⟩] rfl rfl (cell_one_new _ _ _) (fun x hx => by simp at hx; subst hx; rfl) (by unfold maxLen; omega) (by omega) (by have := hB2.out.lt; simp; omega) ?_; intro v' w3 hown' hgrow3 hnil3; have Ho3 := Lib.hid hown'; have hB3 := Lib.hid ((hB2.out.alloc _).grown hgrow3 (fun e => by have := (ho2.out.lt _ e.symm).1; omega)); have hb3 := Lib.hid ((hb2.out.alloc (hb2.out.size) _).grown hgrow3 (by have := hb2.out.size; simp; omega) (fun q hq => by have := (ho2.out.lt q hq).1; omega)); clear hown' hgrow3 hnil3))
      go_roundw
      case rel => exact ⟨k + 1, by omega, by go_num, Lib.hid (by rw [Hq.out]; exact Ho3.out), hB3, hb3⟩
      case measure => simp [intOf]; omega
    · obtain rfl : k = 4 := by omega
      have hown := hown.out
      rw [show (lo4 l).take 4 = lo4 l from rfl] at hown
      have HJ := Lib.hid (join_own (w := wr) (L := decs (lo4 l)) 46 hown (by simp [decs, lo4]) (by have := text4_len l; unfold text4 at this; exact Nat.le_trans this (by decide)))
      clear hown
      go_wp2_with (go_at_call 62; (with_reducible refine HJ.out.mono ?_); rintro r w2 ⟨rfl, g2⟩; have hb2 := Lib.hid (after hb.out g2); clear g2)
      go_ret
      exact ⟨by rw [HRV.out]; rfl, hb2.out⟩
end Go.Proofs.YthglckoikjfjkaaGreatDoor

/- Texts of addresses of IPv6, the program's: the walk. -/
namespace Go.Proofs.YthglckoikjfjkaaGreatDoor
open Go.RowKit
attribute [local go_sem ↓] Go.wp_at_zero Go.wp_at_succ

theorem slice8_all (g : Nat) (W : World) : (Instr.sliceAt 146 (.pointer (some ⟨g, 0, none⟩)) none none none).run Tryz.prog W = .ok (.slice (some ⟨g, 0, none⟩) 8 8) W := by
  have ha : Tryz.prog.arrayLen 146 = 8 := by kernel_rfl
  have hu : Tryz.prog.underlying 146 = some (.array (Tryz.prog.arrayLen 146) (Tryz.prog.elem 146)) := by kernel_rfl
  have hs : (sizeOf (Tryz.prog.elem 146)).run Tryz.prog W = .ok 1 W := by kernel_rfl
  rw [run_sliceAt_array_all W _ _ hu, hs, ha]
  rfl
theorem slice8_to (g n : Nat) (hn : n ≤ 8) (W : World) : (Instr.sliceAt 146 (.pointer (some ⟨g, 0, none⟩)) none (some (.int .i64 (n : Int))) none).run Tryz.prog W = .ok (.slice (some ⟨g, 0, none⟩) n 8) W := by
  have ha : Tryz.prog.arrayLen 146 = 8 := by kernel_rfl
  have hu : Tryz.prog.underlying 146 = some (.array (Tryz.prog.arrayLen 146) (Tryz.prog.elem 146)) := by kernel_rfl
  have hs : (sizeOf (Tryz.prog.elem 146)).run Tryz.prog W = .ok 1 W := by kernel_rfl
  rw [run_sliceAt_array_h W _ _ hu .i64 (n : Int) (by omega) (by rw [ha]; omega), hs, ha]
  rfl
theorem slice8_from (g n : Nat) (hn : n ≤ 8) (W : World) : (Instr.sliceAt 146 (.pointer (some ⟨g, 0, none⟩)) (some (.int .i64 (n : Int))) none none).run Tryz.prog W = .ok (.slice (some ⟨g, if n = 8 then 0 else n, none⟩) (8 - n) (8 - n)) W := by
  have ha : Tryz.prog.arrayLen 146 = 8 := by kernel_rfl
  have hu : Tryz.prog.underlying 146 = some (.array (Tryz.prog.arrayLen 146) (Tryz.prog.elem 146)) := by kernel_rfl
  have hs : (sizeOf (Tryz.prog.elem 146)).run Tryz.prog W = .ok 1 W := by kernel_rfl
  rw [run_sliceAt_array_l W _ _ hu .i64 (n : Int) (by omega) (by rw [ha]; omega), hs, ha]
  show Result.ok (Value.slice (some (if 8 = n then (⟨g, 0, none⟩ : Addr) else (⟨g, 0, none⟩ : Addr).add (n * 1))) (8 - n) (8 - n)) W = _
  by_cases e : n = 8
  · subst e; rfl
  · rw [if_neg (fun h => e h.symm), if_neg e]
    have e2 : (⟨g, 0, none⟩ : Addr).add (n * 1) = ⟨g, n, none⟩ := by unfold Addr.add; split <;> simp_all
    rw [e2]

theorem tjoin_row {W v : World} {g : Nat} {L : List Nat} (hL8 : L.length = 8) (hL : ∀ x ∈ L, x < 65536) (env : Env W) (hB : Blk W g 146 (prow .u16 L 8)) (hv : Below W.heap.size W v) (o n c : Nat) (hn : o + n ≤ 8) (M : List Nat) (hM : M = (L.drop o).take n) : Calls Tryz.prog 89 #[.slice (some ⟨g, o, none⟩) n c] v (Got (.string ⟨(joinH M).toArray⟩) v) := by
  have hlen : M.length = n := by rw [hM, List.length_take, List.length_drop]; omega
  have := tjoin_any (w := v) (env.below hv) g o c M (fun x hx => hL x (by rw [hM] at hx; exact List.mem_of_mem_drop (List.mem_of_mem_take hx))) (by omega) (Nat.lt_of_lt_of_le hB.lt hv.size) (fun j hj => by
    have h := (Blk.below hB hv hB.lt).cell (o + j)
    rw [h, prow_at _ _ _ _ (by omega), if_pos (by omega), hM, List.getD_eq_getElem?_getD, List.getD_eq_getElem?_getD, List.getElem?_take, if_pos (by omega), List.getElem?_drop])
  rw [hlen] at this
  exact this

set_option maxHeartbeats 4000000 in
set_option maxRecDepth 100000 in
theorem text_v6 {w : World} (env : Env w) (a : Ad) (ok : a.Ok) (h6 : a.v6 = true) : Calls Tryz.prog 53 #[.agg a.cells] w (Got (.string ⟨(text6 (pieceL a)).toArray⟩) w) := by
  have Hm := Lib.hid (mayAddr_any a ok)
  rw [may6 h6] at Hm
  have HP := Lib.hid (pieces_any a ok)
  have hL8 := pieceL_length a
  have hL := pieceL_lt a
  generalize pieceL a = L at HP hL8 hL ⊢
  have HL8 := Lib.hid hL8
  have HL := Lib.hid hL
  clear hL8 hL ok
  obtain ⟨v, x, l⟩ := a
  simp only at h6
  subst h6
  unfold Ad.cells at *
  simp only at Hm HP ⊢
  obtain ⟨RV, hRV⟩ : ∃ r, r = (⟨(text6 L).toArray⟩ : ByteArray) := ⟨_, rfl⟩
  rw [← hRV]
  have HRV := Lib.hid hRV
  have Henv := Lib.hid env
  clear hRV env
  have hB0 := Blk.new w 40 #[.bool true, .int .u64 (x : Int), .int .u64 (l : Int)]
  have hb0 := boxed w (.cells #[.bool true, .int .u64 (x : Int), .int .u64 (l : Int)] 40)
  have e8 := prow_eight .u16 L
  generalize L.getD 0 0 = p0 at e8
  generalize L.getD 1 0 = p1 at e8
  generalize L.getD 2 0 = p2 at e8
  generalize L.getD 3 0 = p3 at e8
  generalize L.getD 4 0 = p4 at e8
  generalize L.getD 5 0 = p5 at e8
  generalize L.getD 6 0 = p6 at e8
  generalize L.getD 7 0 = p7 at e8
  rw [e8] at HP
  have E8 := Lib.hid e8
  clear e8
  go_enter Tryz.func53, Tryz.ntmps53
  go_wp2_with (first
    | (go_at_call 86; (with_reducible refine (Hm.out _).mono ?_); rintro r w1 ⟨rfl, g1⟩; have hb1 := after hb0 g1; have hB1 := hB0.below g1 hB0.lt; have a0 := hB1.cell 0; have a1 := hB1.cell 1; have a2 := hB1.cell 2; simp at a0 a1 a2)
    | (go_at_call 88; (with_reducible refine (HP.out _).mono ?_); rintro r w2 ⟨rfl, g2⟩; have hb2 := after hb1 g2; clear a0 a1 a2))
  have hR0 : Blk (w2.alloc (.cells #[.int .u16 (p0 : Int), .int .u16 (p1 : Int), .int .u16 (p2 : Int), .int .u16 (p3 : Int), .int .u16 (p4 : Int), .int .u16 (p5 : Int), .int .u16 (p6 : Int), .int .u16 (p7 : Int)] 146)) w2.heap.size 146 (prow .u16 L 8) := by
    rw [E8.out]
    exact Blk.new _ _ _
  have hb3 := after hb2 (boxed w2 (.cells #[.int .u16 (p0 : Int), .int .u16 (p1 : Int), .int .u16 (p2 : Int), .int .u16 (p3 : Int), .int .u16 (p4 : Int), .int .u16 (p5 : Int), .int .u16 (p6 : Int), .int .u16 (p7 : Int)] 146))
  generalize w2.alloc (.cells #[.int .u16 (p0 : Int), .int .u16 (p1 : Int), .int .u16 (p2 : Int), .int .u16 (p3 : Int), .int .u16 (p4 : Int), .int .u16 (p5 : Int), .int .u16 (p6 : Int), .int .u16 (p7 : Int)] 146) = W0 at hR0 hb3 ⊢
  generalize w2.heap.size = g at hR0 ⊢
  have HR0 := Lib.hid hR0
  have Hb3 := Lib.hid hb3
  clear hB0 hb0 hB1 hb1 hb2 hR0 hb3
  have hcell := fun i (hi : i < 8) => (HR0.out.cell i).trans (prow_at .u16 L 8 i hi)
  have Hcell := Lib.hid hcell
  clear hcell
  go_loop [6, 7, 39] (fun v6 v7 v39 => ∃ k : Nat, k ≤ 8 ∧ v39 = .int .i64 (k : Int) ∧ v6 = .int .i64 (bestK L k).1 ∧ v7 = .int .i64 ((bestK L k).2 : Int)) (fun _ _ v39 => 8 - (intOf v39).toNat)
  case atStart => exact ⟨0, by omega, rfl, rfl, rfl⟩
  case round =>
    obtain ⟨k, hk, rfl, rfl, rfl⟩ := hrel
    by_cases hlt : k < 8
    · obtain ⟨B, hB⟩ : ∃ b, b = bestK L k := ⟨_, rfl⟩
      have hnext : bestK L (k + 1) = if B.2 < run0 (L.drop k) then ((k : Int), run0 (L.drop k)) else B := by rw [hB]; rfl
      rw [← hB]
      have Hnext := Lib.hid hnext
      have HB := Lib.hid hB
      clear hB hnext
      obtain ⟨b1, b2⟩ := B
      go_wp2_with fail
      go_loop [9] (fun v9 => ∃ n : Nat, k + n ≤ 8 ∧ v9 = .int .i64 (n : Int) ∧ RowKit.Hid (∀ j, j < n → L.getD (k + j) 0 = 0)) (fun v9 => 8 - (intOf v9).toNat)
      case atStart => exact ⟨0, by omega, rfl, Lib.hid (fun j h => by omega)⟩
      case round =>
        obtain ⟨n, hn, rfl, hz⟩ := hrel
        have e1 : ((k : Int) + (n : Int)).toNat = k + n := by omega
        by_cases hgo : k + n < 8 ∧ L.getD (k + n) 0 = 0
        · obtain ⟨hs, h0⟩ := hgo
          have cx := Hcell.out (k + n) hs
          rw [if_pos hs, h0] at cx
          have H0 := Lib.hid h0
          have hs' : (k : Int) + (n : Int) < 8 := by omega
          clear h0
          go_wp2_with fail
          go_round
          case rel => exact ⟨n + 1, by omega, by go_num, Lib.hid (fun j hj => by
              by_cases e : j = n
              · rw [e]; exact H0.out
              · exact hz.out j (by omega))⟩
          case measure => simp [intOf]; omega
        · have hrun : run0 (L.drop k) = n := run0_at L k n (by have := HL8.out; omega) hz.out (by
            have := HL8.out
            rcases Nat.lt_or_ge (k + n) 8 with h | h
            · exact Or.inr (fun h0 => hgo ⟨h, h0⟩)
            · exact Or.inl (by omega))
          have hnx := Hnext.out
          rw [hrun] at hnx
          have Hnx := Lib.hid hnx
          clear hrun hnx
          by_cases hs : k + n < 8
          · have cx := Hcell.out (k + n) hs
            rw [if_pos hs] at cx
            have h0 : L.getD (k + n) 0 ≠ 0 := fun h0 => hgo ⟨hs, h0⟩
            have hs' : (k : Int) + (n : Int) < 8 := by omega
            clear hgo
            generalize L.getD (k + n) 0 = X at cx h0
            have hq : ((X : Int) == 0) = false := by simp; omega
            clear h0
            by_cases hgt : b2 < n
            all_goals
              have Hg := Lib.hid hgt
              go_wp2_with fail
              go_round
              case rel =>
                refine ⟨k + 1, by omega, by go_num, ?_, ?_⟩
                all_goals (rw [Hnx.out]; first | rw [if_pos Hg.out] | rw [if_neg Hg.out])
              case measure => simp [intOf]; omega
          · have hs' : ¬ (k : Int) + (n : Int) < 8 := by omega
            clear hgo
            by_cases hgt : b2 < n
            all_goals
              have Hg := Lib.hid hgt
              go_wp2_with fail
              go_round
              case rel =>
                refine ⟨k + 1, by omega, by go_num, ?_, ?_⟩
                all_goals (rw [Hnx.out]; first | rw [if_pos Hg.out] | rw [if_neg Hg.out])
              case measure => simp [intOf]; omega
    · obtain rfl : k = 8 := by omega
      have hall : bestK L 8 = best L := by have := bestK_all L; rwa [HL8.out] at this
      have hrg := bestK_range L 8 (by have := HL8.out; omega)
      have hok := best_ok L
      have htx : RV = ⟨(if (best L).1 < 0 then joinH L else joinH (L.take (best L).1.toNat) ++ (58 :: 58 :: joinH (L.drop ((best L).1.toNat + (best L).2)))).toArray⟩ := HRV.out
      have h1 := hok.le
      have h2 := hok.one
      rw [hall] at hrg
      rw [hall]
      rw [HL8.out] at hrg h1
      clear hall hok
      generalize best L = B at hrg htx h1 h2 ⊢
      obtain ⟨b1, b2⟩ := B
      simp only at hrg htx h1 h2 ⊢
      by_cases hneg : b1 < 0
      · rw [if_pos hneg] at htx
        have Htx := Lib.hid htx
        clear htx h1 hrg
        have HJ := Lib.hid (tjoin_row HL8.out HL.out (Henv.out.below Hb3.out) HR0.out (Below.refl _ _) 0 8 8 (by omega) L (by rw [List.drop_zero]; exact (List.take_of_length_le (by have := HL8.out; omega)).symm))
        have hsl := slice8_all g
        go_wp2_with (go_at_call 89; (with_reducible refine HJ.out.mono ?_); rintro r w9 ⟨rfl, g9⟩; have hb9 := Lib.hid (after Hb3.out g9); clear g9)
        go_ret
        exact ⟨show Ending.returned (.string ⟨(joinH L).toArray⟩) = _ by rw [Htx.out], hb9.out⟩
      · rw [if_neg hneg] at htx
        obtain ⟨A, rfl⟩ : ∃ A : Nat, b1 = (A : Int) := ⟨b1.toNat, by omega⟩
        have h3 := h1 (by omega)
        rw [show ((A : Int)).toNat = A by omega] at h3 htx
        have HJ1 := fun v hv => tjoin_row (v := v) HL8.out HL.out (Henv.out.below Hb3.out) HR0.out hv 0 A 8 (by omega) (L.take A) (by rw [List.drop_zero])
        have HJ2 := fun v hv => tjoin_row (v := v) HL8.out HL.out (Henv.out.below Hb3.out) HR0.out hv (if A + b2 = 8 then 0 else A + b2) (8 - (A + b2)) (8 - (A + b2)) (by split <;> omega) (L.drop (A + b2)) (by
          have h8 := HL8.out
          split
          · next e => rw [e, List.take_zero, List.drop_of_length_le (by omega)]
          · exact (List.take_of_length_le (by rw [List.length_drop]; omega)).symm)
        have l1 := joinH_len8 (L := L.take A) (take_lt HL.out) (by rw [List.length_take]; have := HL8.out; omega)
        have l2 := joinH_len8 (L := L.drop (A + b2)) (drop_lt HL.out) (by rw [List.length_drop]; have := HL8.out; omega)
        have hsl1 := slice8_to g A (by omega)
        have hsl2 := slice8_from g (A + b2) (by omega)
        rw [show ((A + b2 : Nat) : Int) = (A : Int) + (b2 : Int) by omega] at hsl2
        have hwr : IntKind.i64.wrap ((A : Int) + (b2 : Int)) = (A : Int) + (b2 : Int) := IntWalk.i64_in _ (by omega)
        generalize (if A + b2 = 8 then 0 else A + b2) = O at HJ2 hsl2
        generalize 8 - (A + b2) = N at HJ2 hsl2
        generalize joinH (L.take A) = J1 at HJ1 l1 htx
        generalize joinH (L.drop (A + b2)) = J2 at HJ2 l2 htx
        obtain ⟨S1, hS1⟩ : ∃ S, S = (⟨J1.toArray⟩ : ByteArray) := ⟨_, rfl⟩
        obtain ⟨S2, hS2⟩ : ∃ S, S = (⟨J2.toArray⟩ : ByteArray) := ⟨_, rfl⟩
        have s1 : S1.size ≤ 40 := by rw [hS1]; simpa [ByteArray.size] using l1
        have s2 : S2.size ≤ 40 := by rw [hS2]; simpa [ByteArray.size] using l2
        have hrv : RV = S1 ++ ⟨#[58, 58]⟩ ++ S2 := by
          rw [htx, hS1, hS2]
          apply ByteArray.ext
          simp
        rw [← hS1] at HJ1
        rw [← hS2] at HJ2
        have Hrv := Lib.hid hrv
        have HJA := Lib.hid HJ1
        have HJB := Lib.hid HJ2
        clear htx hS1 hS2 hrv HJ1 HJ2 l1 l2 h1 hrg hneg
        go_wp2_with fail
        have hv := (Below.refl W0.heap.size W0).drew
        have z1 : ¬ 9223372036854775807 < S1.size + 2 := by omega
        have z2 : ¬ 9223372036854775807 < S1.size + 2 + S2.size := by omega
        go_region_held3 (fun _ => True) (trivial)
          (first
            | (go_at_call 89; (with_reducible refine (HJA.out _ hv).mono ?_); rintro r w8 ⟨rfl, g8⟩; have hv8 := after hv g8; have hv := hv8)
            | (go_at_call 89; (with_reducible refine (HJB.out _ hv).mono ?_); rintro r w9 ⟨rfl, g9⟩; have hv9 := after hv g9; have hv := hv9))
        all_goals go_wp2_with fail
        go_ret
        exact ⟨show Ending.returned (.string (S1 ++ ⟨#[58, 58]⟩ ++ S2)) = _ by rw [Hrv.out], after Hb3.out hv⟩

/- The text of an address. -/
def textB (a : Ad) : ByteArray := ⟨(textL a).toArray⟩
theorem text_any {w : World} (env : Env w) (a : Ad) (ok : a.Ok) : Calls Tryz.prog 53 #[.agg a.cells] w (Got (.string (textB a)) w) := by
  cases hm : a.may with
  | false =>
    have Hm := Lib.hid (mayAddr_any a ok)
    rw [hm] at Hm
    have e : textB a = ⟨#[]⟩ := by unfold textB; rw [textL_nil hm]
    rw [e]
    obtain ⟨v, x, l⟩ := a
    unfold Ad.cells at *
    simp only at Hm ⊢
    clear e hm ok env
    have hb0 := boxed w (.cells #[.bool v, .int .u64 (x : Int), .int .u64 (l : Int)] 40)
    go_enter Tryz.func53, Tryz.ntmps53
    go_wp2_with (go_at_call 86; (with_reducible refine (Hm.out _).mono ?_); rintro r w1 ⟨rfl, g1⟩; have hb1 := after hb0 g1)
    go_ret
    exact ⟨rfl, hb1⟩
  | true =>
    cases h6 : a.v6 with
    | false =>
      have := text_v4 env a ok hm h6
      unfold textB
      rwa [textL_4 hm h6]
    | true =>
      have := text_v6 env a ok h6
      unfold textB
      rwa [textL_6 h6]
end Go.Proofs.YthglckoikjfjkaaGreatDoor

/- Read: words. -/
namespace Go.Proofs.YthglckoikjfjkaaGreatDoor
open Go.RowKit

theorem NumGot.any {Lo : Option (List Nat)} {W w' : World} {r : Ending} (h : NumGot Lo W r w') : ∃ (v : Value) (L : List Nat), r = .returned (.tuple #[v, .bool Lo.isSome]) ∧ w'.ownsRow W.heap.size 38 1 v L.length (cellsU L) ∧ (Lo = some L ∨ (Lo = none ∧ L = [])) ∧ Below W.heap.size W w' := by
  unfold NumGot at h
  cases Lo with
  | none => exact ⟨.slice none 0 0, [], h.1, World.ownsRow_nil _ _ _ _, Or.inr ⟨rfl, rfl⟩, h.2⟩
  | some L =>
    obtain ⟨⟨v, hr, ho⟩, hb⟩ := h
    exact ⟨v, L, hr, ho, Or.inl rfl, hb⟩
theorem below_drewN (w : World) (n : Nat) : Below w.heap.size w (w.drewN n) := ⟨rfl, rfl, rfl, Nat.le_refl _, fun _ _ => rfl⟩
theorem cut_len (s sep : List UInt8) : (Lib.cut s sep).1.length ≤ s.length ∧ (Lib.cut s sep).2.1.length ≤ s.length := by
  unfold Lib.cut
  split
  · simp
    omega
  · simp
theorem orb8 {h x : Nat} (hh : h < 72057594037927936) (hx : x < 256) : bits .or .u64 ((h : Int) * 256) (x : Int) = ((h * 256 + x : Nat) : Int) := by
  have e := u64_or_nat (h * 256) x (by omega) (by omega)
  rw [show (h : Int) * 256 = ((h * 256 : Nat) : Int) by omega, e]
  have := Nat.shiftLeft_add_eq_or_of_lt (i := 8) (b := x) (by omega) h
  rw [Nat.shiftLeft_eq] at this
  rw [show (256 : Nat) = 2 ^ 8 from rfl, ← this]
theorem fold8_snoc (l : List Nat) (x : Nat) : fold8 (l ++ [x]) = fold8 l * 256 + x := by unfold fold8; rw [List.foldl_append]; rfl
theorem fold8_bound {l : List Nat} (h : ∀ x ∈ l, x < 256) (hl : l.length ≤ 4) : fold8 l < 4294967296 := by
  have := fold8_lt l 0 1 h (by decide)
  have h2 : 256 ^ l.length ≤ 256 ^ 4 := Nat.pow_le_pow_right (by decide) hl
  unfold fold8
  omega
def readV (o : Option Ad) : Value := match o with
  | none => .tuple #[.agg #[.bool false, .int .u64 0, .int .u64 0], .int .i64 8]
  | some a => .tuple #[.agg a.cells, .int .i64 0]
theorem textB_iff {a : Ad} {s : ByteArray} : textB a = s ↔ textL a = s.data.toList := by
  constructor
  · intro h; rw [← h]; unfold textB; simp
  · intro h
    unfold textB
    rw [h]
theorem num10 {v : World} (env : Env v) (s : ByteArray) (hs : s.size ≤ 2000000) (c : UInt8) : Calls Tryz.prog 187 #[.string s, .string ⟨#[c]⟩, .int .i64 10, .int .u64 255] v (NumGot (numbersL c 10 256 s.data.toList) v) := numbers_any env s hs c 10 255 (by decide) (by decide) (fun v e t ht => pu10_64 e t ht)
theorem num16w {v : World} (env : Env v) (s : ByteArray) (hs : s.size ≤ 2000000) (c : UInt8) : Calls Tryz.prog 187 #[.string s, .string ⟨#[c]⟩, .int .i64 16, .int .u64 65535] v (NumGot (numbersL c 16 65536 s.data.toList) v) := numbers_any env s hs c 16 65535 (by decide) (by decide) (fun v e t ht => pu16 e t ht)
end Go.Proofs.YthglckoikjfjkaaGreatDoor
