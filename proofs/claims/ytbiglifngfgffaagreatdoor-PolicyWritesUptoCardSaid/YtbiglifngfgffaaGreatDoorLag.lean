/- Joined out of: TwD TwE RdA RdB TwF. -/
import Derived.Test.YtbiglifngfgffaaGreatDoorLaf
import Derived.Deep.RegionHeld3
import Derived.Deep.CutBlock
set_option linter.unusedVariables false
set_option linter.unusedSimpArgs false

/- Texts of addresses of IPv4, the program's and the document's: the walks. -/
namespace Go.Proofs.YtbiglifngfgffaaGreatDoor
open Go.RowKit

theorem itoa_any {w : World} (env : Env w) (x : Nat) (hx : x < 1000) : Calls Tryz.prog 50 #[.int .i64 (x : Int)] w fun r w' => r = .returned (.string ⟨(Lib.decDigits x).toArray⟩) ∧ Below w.heap.size w w' := by
  refine (Tryz.strconv_Itoa (x : Int) (by omega) (by omega) w env.pow).mono ?_
  rintro r w' ⟨rfl, k, os, rfl⟩
  rw [itoa_nat]
  exact ⟨rfl, Lib.below_grow _ _ (Nat.le_refl _) _ _⟩

def decs (L : List Nat) : List (List UInt8) := L.map Lib.decDigits
theorem decs_take {L : List Nat} {k : Nat} (hk : k < L.length) : decs (L.take (k + 1)) = decs (L.take k) ++ [Lib.decDigits (L.getD k 0)] := by
  unfold decs
  rw [List.take_succ_eq_append_getElem hk, List.map_append, List.getD_eq_getElem?_getD, List.getElem?_eq_getElem hk]
  rfl
theorem and255 (y : Nat) (hy : y < 18446744073709551616) : bits .and .u64 (y : Int) 255 = ((y % 256 : Nat) : Int) := by
  have h := u64_and_nat y 255 hy (by decide)
  rw [show ((255 : Nat) : Int) = 255 from rfl] at h
  rw [h, show (255 : Nat) = 2 ^ 8 - 1 from rfl, Nat.and_two_pow_sub_one_eq_mod]
theorem text4_len (lo : Nat) : (text4 lo).length ≤ 16 := by
  have := ref4_len lo 4
  rwa [ref4_text] at this

set_option maxHeartbeats 2000000 in
set_option maxRecDepth 100000 in
theorem text_v4 {w : World} (env : Env w) (a : Ad) (ok : a.Ok) (hm : a.may = true) (h6 : a.v6 = false) : Calls Tryz.prog 49 #[.agg a.cells] w (Got (.string ⟨(text4 a.lo).toArray⟩) w) := by
  obtain ⟨i0, hi, hz0, hz1, hz2⟩ := info_parts info_str
  have Hm := Lib.hid (mayAddr_any a ok)
  rw [hm] at Hm
  have hl := ok.lo
  obtain ⟨v, x, l⟩ := a
  simp only at h6 hl
  subst h6
  unfold Ad.cells at *
  simp only at Hm ⊢
  clear hm ok
  obtain ⟨RV, hRV⟩ : ∃ r, r = text4 l := ⟨_, rfl⟩
  rw [← hRV]
  have HRV := Lib.hid hRV
  have Henv := Lib.hid env
  clear hRV env
  have hB0 := Blk.new w 49 #[.bool false, .int .u64 (x : Int), .int .u64 (l : Int)]
  have hb0 := boxed w (.cells #[.bool false, .int .u64 (x : Int), .int .u64 (l : Int)] 49)
  go_enter Tryz.func49, Tryz.ntmps49
  go_wp2_with (go_at_call 78; (with_reducible refine (Hm.out _).mono ?_); rintro r w1 ⟨rfl, g1⟩; have hb1 := after hb0 g1; have hB1 := hB0.below g1 hB0.lt; have a0 := hB1.cell 0; simp at a0)
  clear a0
  have HB1 := Lib.hid hB1
  have Hb1 := Lib.hid hb1
  clear hB0 hb0 hB1 hb1
  go_loopw [3, 19] (fun v i wr => ∃ k : Nat, k ≤ 4 ∧ i = .int .i64 (k : Int) ∧ RowKit.Hid (wr.ownsRow (w.heap.size + 1) 9 1 v k ((strs (decs ((lo4 l).take k))).map Value.string)) ∧ RowKit.Hid (Blk wr w.heap.size 49 #[.bool false, .int .u64 (x : Int), .int .u64 (l : Int)]) ∧ RowKit.Hid (Below w.heap.size w wr)) (fun _ i _ => 4 - (intOf i).toNat)
  case atStart => exact ⟨0, by omega, rfl, Lib.hid (World.ownsRow_nil _ _ _ _), HB1, Hb1⟩
  case round =>
    obtain ⟨k, hk, rfl, hown, hB, hb⟩ := hrel
    have hsz := hB.out.lt
    by_cases hlt : k < 4
    · have hp := lo4_at l k hlt
      have hs := decs_take (L := lo4 l) (k := k) hlt
      have hq : (strs (decs ((lo4 l).take (k + 1)))).map Value.string = (strs (decs ((lo4 l).take k))).map Value.string ++ [.string ⟨(Lib.decDigits ((lo4 l).getD k 0)).toArray⟩] := by rw [hs, strs_snoc]
      rw [hp] at hq
      have Hq := Lib.hid hq
      clear hs hq hp
      have e1 : ((24 : Int) - 8 * (k : Int)).toNat = 24 - 8 * k := by omega
      have e2 := shr_nat l (24 - 8 * k)
      have hy : l / 2 ^ (24 - 8 * k) < 18446744073709551616 := Nat.lt_of_le_of_lt (Nat.div_le_self _ _) hl
      have e3 := and255 _ hy
      generalize l / 2 ^ (24 - 8 * k) = Y at Hq e2 hy e3
      have hX : Y % 256 < 1000 := by omega
      have hX2 : Y % 256 < 256 := by omega
      generalize Y % 256 = X at Hq e3 hX hX2
      clear hy
      have HF := Lib.hid (itoa_any (w := wr) (Henv.out.below hb.out) X hX)
      have a2 := hB.out.cell 2
      simp at a2
      go_wp2_with (first
        | (go_at_call 50; (with_reducible refine HF.out.mono ?_); rintro r w2 ⟨rfl, g2⟩; have ho2 := Lib.hid (own_below hown.out g2); have hB2 := Lib.hid (hB.out.below g2 hsz); have hb2 := Lib.hid (after hb.out g2); clear g2 a2)
        | (at_builtin; refine wpList_append_own _ rfl _ _ 44 rfl (w.heap.size + 1) 9 i0 (.string ByteArray.empty) 1 16 Tryz.underlying44 hi hz0 hz1 hz2 rfl (by decide) _ k _ rfl (ho2.out.alloc _) ⟨w2.heap.size, 0, none⟩ 1 1 [.string ⟨(Lib.decDigits X).toArray⟩] rfl rfl (cell_one_new _ _ _) (fun x hx => by simp at hx; subst hx; rfl) (by unfold maxLen; omega) (by omega) (by have := hB2.out.lt; simp; omega) ?_; intro v' w3 hown' hgrow3 hnil3; have Ho3 := Lib.hid hown'; have hB3 := Lib.hid ((hB2.out.alloc _).grown hgrow3 (fun e => by have := (ho2.out.lt _ e.symm).1; omega)); have hb3 := Lib.hid ((hb2.out.alloc (hb2.out.size) _).grown hgrow3 (by have := hb2.out.size; simp; omega) (fun q hq => by have := (ho2.out.lt q hq).1; omega)); clear hown' hgrow3 hnil3))
      go_roundw
      case rel => exact ⟨k + 1, by omega, by go_num, Lib.hid (by rw [Hq.out]; exact Ho3.out), hB3, hb3⟩
      case measure => simp [intOf]; omega
    · obtain rfl : k = 4 := by omega
      have hown := hown.out
      rw [show (lo4 l).take 4 = lo4 l from rfl] at hown
      have HJ := Lib.hid (join_own (w := wr) (L := decs (lo4 l)) 46 hown (by simp [decs, lo4]) (by have := text4_len l; unfold text4 at this; exact Nat.le_trans this (by decide)))
      clear hown
      go_wp2_with (go_at_call 20; (with_reducible refine HJ.out.mono ?_); rintro r w2 ⟨rfl, g2⟩; have hb2 := Lib.hid (after hb.out g2); clear g2)
      go_ret
      exact ⟨by rw [HRV.out]; rfl, hb2.out⟩
end Go.Proofs.YtbiglifngfgffaaGreatDoor

/- Texts of addresses of IPv6, the program's: the walk. -/
namespace Go.Proofs.YtbiglifngfgffaaGreatDoor
open Go.RowKit
attribute [local go_sem ↓] Go.wp_at_zero Go.wp_at_succ

theorem slice8_all (g : Nat) (W : World) : (Instr.sliceAt 141 (.pointer (some ⟨g, 0, none⟩)) none none none).run Tryz.prog W = .ok (.slice (some ⟨g, 0, none⟩) 8 8) W := by
  have ha : Tryz.prog.arrayLen 141 = 8 := by kernel_rfl
  have hu : Tryz.prog.underlying 141 = some (.array (Tryz.prog.arrayLen 141) (Tryz.prog.elem 141)) := by kernel_rfl
  have hs : (sizeOf (Tryz.prog.elem 141)).run Tryz.prog W = .ok 1 W := by kernel_rfl
  rw [run_sliceAt_array_all W _ _ hu, hs, ha]
  rfl
theorem slice8_to (g n : Nat) (hn : n ≤ 8) (W : World) : (Instr.sliceAt 141 (.pointer (some ⟨g, 0, none⟩)) none (some (.int .i64 (n : Int))) none).run Tryz.prog W = .ok (.slice (some ⟨g, 0, none⟩) n 8) W := by
  have ha : Tryz.prog.arrayLen 141 = 8 := by kernel_rfl
  have hu : Tryz.prog.underlying 141 = some (.array (Tryz.prog.arrayLen 141) (Tryz.prog.elem 141)) := by kernel_rfl
  have hs : (sizeOf (Tryz.prog.elem 141)).run Tryz.prog W = .ok 1 W := by kernel_rfl
  rw [run_sliceAt_array_h W _ _ hu .i64 (n : Int) (by omega) (by rw [ha]; omega), hs, ha]
  rfl
theorem slice8_from (g n : Nat) (hn : n ≤ 8) (W : World) : (Instr.sliceAt 141 (.pointer (some ⟨g, 0, none⟩)) (some (.int .i64 (n : Int))) none none).run Tryz.prog W = .ok (.slice (some ⟨g, if n = 8 then 0 else n, none⟩) (8 - n) (8 - n)) W := by
  have ha : Tryz.prog.arrayLen 141 = 8 := by kernel_rfl
  have hu : Tryz.prog.underlying 141 = some (.array (Tryz.prog.arrayLen 141) (Tryz.prog.elem 141)) := by kernel_rfl
  have hs : (sizeOf (Tryz.prog.elem 141)).run Tryz.prog W = .ok 1 W := by kernel_rfl
  rw [run_sliceAt_array_l W _ _ hu .i64 (n : Int) (by omega) (by rw [ha]; omega), hs, ha]
  show Result.ok (Value.slice (some (if 8 = n then (⟨g, 0, none⟩ : Addr) else (⟨g, 0, none⟩ : Addr).add (n * 1))) (8 - n) (8 - n)) W = _
  by_cases e : n = 8
  · subst e; rfl
  · rw [if_neg (fun h => e h.symm), if_neg e]
    have e2 : (⟨g, 0, none⟩ : Addr).add (n * 1) = ⟨g, n, none⟩ := by unfold Addr.add; split <;> simp_all
    rw [e2]

theorem tjoin_row {W v : World} {g : Nat} {L : List Nat} (hL8 : L.length = 8) (hL : ∀ x ∈ L, x < 65536) (env : Env W) (hB : Blk W g 141 (prow .u16 L 8)) (hv : Below W.heap.size W v) (o n c : Nat) (hn : o + n ≤ 8) (M : List Nat) (hM : M = (L.drop o).take n) : Calls Tryz.prog 85 #[.slice (some ⟨g, o, none⟩) n c] v (Got (.string ⟨(joinH M).toArray⟩) v) := by
  have hlen : M.length = n := by rw [hM, List.length_take, List.length_drop]; omega
  have := tjoin_any (w := v) (env.below hv) g o c M (fun x hx => hL x (by rw [hM] at hx; exact List.mem_of_mem_drop (List.mem_of_mem_take hx))) (by omega) (Nat.lt_of_lt_of_le hB.lt hv.size) (fun j hj => by
    have h := (Blk.below hB hv hB.lt).cell (o + j)
    rw [h, prow_at _ _ _ _ (by omega), if_pos (by omega), hM, List.getD_eq_getElem?_getD, List.getD_eq_getElem?_getD, List.getElem?_take, if_pos (by omega), List.getElem?_drop])
  rw [hlen] at this
  exact this

set_option maxHeartbeats 4000000 in
set_option maxRecDepth 100000 in
theorem text_v6 {w : World} (env : Env w) (a : Ad) (ok : a.Ok) (h6 : a.v6 = true) : Calls Tryz.prog 49 #[.agg a.cells] w (Got (.string ⟨(text6 (pieceL a)).toArray⟩) w) := by
  have Hm := Lib.hid (mayAddr_any a ok)
  rw [may6 h6] at Hm
  have HP := Lib.hid (pieces_any a ok)
  have hL8 := pieceL_length a
  have hL := pieceL_lt a
  generalize pieceL a = L at HP hL8 hL ⊢
  have HL8 := Lib.hid hL8
  have HL := Lib.hid hL
  clear hL8 hL ok
  obtain ⟨v, x, l⟩ := a
  simp only at h6
  subst h6
  unfold Ad.cells at *
  simp only at Hm HP ⊢
  obtain ⟨RV, hRV⟩ : ∃ r, r = (⟨(text6 L).toArray⟩ : ByteArray) := ⟨_, rfl⟩
  rw [← hRV]
  have HRV := Lib.hid hRV
  have Henv := Lib.hid env
  clear hRV env
  have hB0 := Blk.new w 49 #[.bool true, .int .u64 (x : Int), .int .u64 (l : Int)]
  have hb0 := boxed w (.cells #[.bool true, .int .u64 (x : Int), .int .u64 (l : Int)] 49)
  have e8 := prow_eight .u16 L
  generalize L.getD 0 0 = p0 at e8
  generalize L.getD 1 0 = p1 at e8
  generalize L.getD 2 0 = p2 at e8
  generalize L.getD 3 0 = p3 at e8
  generalize L.getD 4 0 = p4 at e8
  generalize L.getD 5 0 = p5 at e8
  generalize L.getD 6 0 = p6 at e8
  generalize L.getD 7 0 = p7 at e8
  rw [e8] at HP
  have E8 := Lib.hid e8
  clear e8
  go_enter Tryz.func49, Tryz.ntmps49
  go_wp2_with (first
    | (go_at_call 78; (with_reducible refine (Hm.out _).mono ?_); rintro r w1 ⟨rfl, g1⟩; have hb1 := after hb0 g1; have hB1 := hB0.below g1 hB0.lt; have a0 := hB1.cell 0; have a1 := hB1.cell 1; have a2 := hB1.cell 2; simp at a0 a1 a2)
    | (go_at_call 84; (with_reducible refine (HP.out _).mono ?_); rintro r w2 ⟨rfl, g2⟩; have hb2 := after hb1 g2; clear a0 a1 a2))
  have hR0 : Blk (w2.alloc (.cells #[.int .u16 (p0 : Int), .int .u16 (p1 : Int), .int .u16 (p2 : Int), .int .u16 (p3 : Int), .int .u16 (p4 : Int), .int .u16 (p5 : Int), .int .u16 (p6 : Int), .int .u16 (p7 : Int)] 141)) w2.heap.size 141 (prow .u16 L 8) := by
    rw [E8.out]
    exact Blk.new _ _ _
  have hb3 := after hb2 (boxed w2 (.cells #[.int .u16 (p0 : Int), .int .u16 (p1 : Int), .int .u16 (p2 : Int), .int .u16 (p3 : Int), .int .u16 (p4 : Int), .int .u16 (p5 : Int), .int .u16 (p6 : Int), .int .u16 (p7 : Int)] 141))
  generalize w2.alloc (.cells #[.int .u16 (p0 : Int), .int .u16 (p1 : Int), .int .u16 (p2 : Int), .int .u16 (p3 : Int), .int .u16 (p4 : Int), .int .u16 (p5 : Int), .int .u16 (p6 : Int), .int .u16 (p7 : Int)] 141) = W0 at hR0 hb3 ⊢
  generalize w2.heap.size = g at hR0 ⊢
  have HR0 := Lib.hid hR0
  have Hb3 := Lib.hid hb3
  clear hB0 hb0 hB1 hb1 hb2 hR0 hb3
  have hcell := fun i (hi : i < 8) => (HR0.out.cell i).trans (prow_at .u16 L 8 i hi)
  have Hcell := Lib.hid hcell
  clear hcell
  go_loop [6, 7, 39] (fun v6 v7 v39 => ∃ k : Nat, k ≤ 8 ∧ v39 = .int .i64 (k : Int) ∧ v6 = .int .i64 (bestK L k).1 ∧ v7 = .int .i64 ((bestK L k).2 : Int)) (fun _ _ v39 => 8 - (intOf v39).toNat)
  case atStart => exact ⟨0, by omega, rfl, rfl, rfl⟩
  case round =>
    obtain ⟨k, hk, rfl, rfl, rfl⟩ := hrel
    by_cases hlt : k < 8
    · obtain ⟨B, hB⟩ : ∃ b, b = bestK L k := ⟨_, rfl⟩
      have hnext : bestK L (k + 1) = if B.2 < run0 (L.drop k) then ((k : Int), run0 (L.drop k)) else B := by rw [hB]; rfl
      rw [← hB]
      have Hnext := Lib.hid hnext
      have HB := Lib.hid hB
      clear hB hnext
      obtain ⟨b1, b2⟩ := B
      go_wp2_with fail
      go_loop [9] (fun v9 => ∃ n : Nat, k + n ≤ 8 ∧ v9 = .int .i64 (n : Int) ∧ RowKit.Hid (∀ j, j < n → L.getD (k + j) 0 = 0)) (fun v9 => 8 - (intOf v9).toNat)
      case atStart => exact ⟨0, by omega, rfl, Lib.hid (fun j h => by omega)⟩
      case round =>
        obtain ⟨n, hn, rfl, hz⟩ := hrel
        have e1 : ((k : Int) + (n : Int)).toNat = k + n := by omega
        by_cases hgo : k + n < 8 ∧ L.getD (k + n) 0 = 0
        · obtain ⟨hs, h0⟩ := hgo
          have cx := Hcell.out (k + n) hs
          rw [if_pos hs, h0] at cx
          have H0 := Lib.hid h0
          have hs' : (k : Int) + (n : Int) < 8 := by omega
          clear h0
          go_wp2_with fail
          go_round
          case rel => exact ⟨n + 1, by omega, by go_num, Lib.hid (fun j hj => by
              by_cases e : j = n
              · rw [e]; exact H0.out
              · exact hz.out j (by omega))⟩
          case measure => simp [intOf]; omega
        · have hrun : run0 (L.drop k) = n := run0_at L k n (by have := HL8.out; omega) hz.out (by
            have := HL8.out
            rcases Nat.lt_or_ge (k + n) 8 with h | h
            · exact Or.inr (fun h0 => hgo ⟨h, h0⟩)
            · exact Or.inl (by omega))
          have hnx := Hnext.out
          rw [hrun] at hnx
          have Hnx := Lib.hid hnx
          clear hrun hnx
          by_cases hs : k + n < 8
          · have cx := Hcell.out (k + n) hs
            rw [if_pos hs] at cx
            have h0 : L.getD (k + n) 0 ≠ 0 := fun h0 => hgo ⟨hs, h0⟩
            have hs' : (k : Int) + (n : Int) < 8 := by omega
            clear hgo
            generalize L.getD (k + n) 0 = X at cx h0
            have hq : ((X : Int) == 0) = false := by simp; omega
            clear h0
            by_cases hgt : b2 < n
            all_goals
              have Hg := Lib.hid hgt
              go_wp2_with fail
              go_round
              case rel =>
                refine ⟨k + 1, by omega, by go_num, ?_, ?_⟩
                all_goals (rw [Hnx.out]; first | rw [if_pos Hg.out] | rw [if_neg Hg.out])
              case measure => simp [intOf]; omega
          · have hs' : ¬ (k : Int) + (n : Int) < 8 := by omega
            clear hgo
            by_cases hgt : b2 < n
            all_goals
              have Hg := Lib.hid hgt
              go_wp2_with fail
              go_round
              case rel =>
                refine ⟨k + 1, by omega, by go_num, ?_, ?_⟩
                all_goals (rw [Hnx.out]; first | rw [if_pos Hg.out] | rw [if_neg Hg.out])
              case measure => simp [intOf]; omega
    · obtain rfl : k = 8 := by omega
      have hall : bestK L 8 = best L := by have := bestK_all L; rwa [HL8.out] at this
      have hrg := bestK_range L 8 (by have := HL8.out; omega)
      have hok := best_ok L
      have htx : RV = ⟨(if (best L).1 < 0 then joinH L else joinH (L.take (best L).1.toNat) ++ (58 :: 58 :: joinH (L.drop ((best L).1.toNat + (best L).2)))).toArray⟩ := HRV.out
      have h1 := hok.le
      have h2 := hok.one
      rw [hall] at hrg
      rw [hall]
      rw [HL8.out] at hrg h1
      clear hall hok
      generalize best L = B at hrg htx h1 h2 ⊢
      obtain ⟨b1, b2⟩ := B
      simp only at hrg htx h1 h2 ⊢
      by_cases hneg : b1 < 0
      · rw [if_pos hneg] at htx
        have Htx := Lib.hid htx
        clear htx h1 hrg
        have HJ := Lib.hid (tjoin_row HL8.out HL.out (Henv.out.below Hb3.out) HR0.out (Below.refl _ _) 0 8 8 (by omega) L (by rw [List.drop_zero]; exact (List.take_of_length_le (by have := HL8.out; omega)).symm))
        have hsl := slice8_all g
        go_wp2_with (go_at_call 85; (with_reducible refine HJ.out.mono ?_); rintro r w9 ⟨rfl, g9⟩; have hb9 := Lib.hid (after Hb3.out g9); clear g9)
        go_ret
        exact ⟨show Ending.returned (.string ⟨(joinH L).toArray⟩) = _ by rw [Htx.out], hb9.out⟩
      · rw [if_neg hneg] at htx
        obtain ⟨A, rfl⟩ : ∃ A : Nat, b1 = (A : Int) := ⟨b1.toNat, by omega⟩
        have h3 := h1 (by omega)
        rw [show ((A : Int)).toNat = A by omega] at h3 htx
        have HJ1 := fun v hv => tjoin_row (v := v) HL8.out HL.out (Henv.out.below Hb3.out) HR0.out hv 0 A 8 (by omega) (L.take A) (by rw [List.drop_zero])
        have HJ2 := fun v hv => tjoin_row (v := v) HL8.out HL.out (Henv.out.below Hb3.out) HR0.out hv (if A + b2 = 8 then 0 else A + b2) (8 - (A + b2)) (8 - (A + b2)) (by split <;> omega) (L.drop (A + b2)) (by
          have h8 := HL8.out
          split
          · next e => rw [e, List.take_zero, List.drop_of_length_le (by omega)]
          · exact (List.take_of_length_le (by rw [List.length_drop]; omega)).symm)
        have l1 := joinH_len8 (L := L.take A) (take_lt HL.out) (by rw [List.length_take]; have := HL8.out; omega)
        have l2 := joinH_len8 (L := L.drop (A + b2)) (drop_lt HL.out) (by rw [List.length_drop]; have := HL8.out; omega)
        have hsl1 := slice8_to g A (by omega)
        have hsl2 := slice8_from g (A + b2) (by omega)
        rw [show ((A + b2 : Nat) : Int) = (A : Int) + (b2 : Int) by omega] at hsl2
        have hwr : IntKind.i64.wrap ((A : Int) + (b2 : Int)) = (A : Int) + (b2 : Int) := IntWalk.i64_in _ (by omega)
        generalize (if A + b2 = 8 then 0 else A + b2) = O at HJ2 hsl2
        generalize 8 - (A + b2) = N at HJ2 hsl2
        generalize joinH (L.take A) = J1 at HJ1 l1 htx
        generalize joinH (L.drop (A + b2)) = J2 at HJ2 l2 htx
        obtain ⟨S1, hS1⟩ : ∃ S, S = (⟨J1.toArray⟩ : ByteArray) := ⟨_, rfl⟩
        obtain ⟨S2, hS2⟩ : ∃ S, S = (⟨J2.toArray⟩ : ByteArray) := ⟨_, rfl⟩
        have s1 : S1.size ≤ 40 := by rw [hS1]; simpa [ByteArray.size] using l1
        have s2 : S2.size ≤ 40 := by rw [hS2]; simpa [ByteArray.size] using l2
        have hrv : RV = S1 ++ ⟨#[58, 58]⟩ ++ S2 := by
          rw [htx, hS1, hS2]
          apply ByteArray.ext
          simp
        rw [← hS1] at HJ1
        rw [← hS2] at HJ2
        have Hrv := Lib.hid hrv
        have HJA := Lib.hid HJ1
        have HJB := Lib.hid HJ2
        clear htx hS1 hS2 hrv HJ1 HJ2 l1 l2 h1 hrg hneg
        go_wp2_with fail
        have hv := (Below.refl W0.heap.size W0).drew
        have z1 : ¬ 9223372036854775807 < S1.size + 2 := by omega
        have z2 : ¬ 9223372036854775807 < S1.size + 2 + S2.size := by omega
        go_region_held3 (fun _ => True) (trivial)
          (first
            | (go_at_call 85; (with_reducible refine (HJA.out _ hv).mono ?_); rintro r w8 ⟨rfl, g8⟩; have hv8 := after hv g8; have hv := hv8)
            | (go_at_call 85; (with_reducible refine (HJB.out _ hv).mono ?_); rintro r w9 ⟨rfl, g9⟩; have hv9 := after hv g9; have hv := hv9))
        all_goals go_wp2_with fail
        go_ret
        exact ⟨show Ending.returned (.string (S1 ++ ⟨#[58, 58]⟩ ++ S2)) = _ by rw [Hrv.out], after Hb3.out hv⟩

/- The text of an address. -/
def textB (a : Ad) : ByteArray := ⟨(textL a).toArray⟩
theorem text_any {w : World} (env : Env w) (a : Ad) (ok : a.Ok) : Calls Tryz.prog 49 #[.agg a.cells] w (Got (.string (textB a)) w) := by
  cases hm : a.may with
  | false =>
    have Hm := Lib.hid (mayAddr_any a ok)
    rw [hm] at Hm
    have e : textB a = ⟨#[]⟩ := by unfold textB; rw [textL_nil hm]
    rw [e]
    obtain ⟨v, x, l⟩ := a
    unfold Ad.cells at *
    simp only at Hm ⊢
    clear e hm ok env
    have hb0 := boxed w (.cells #[.bool v, .int .u64 (x : Int), .int .u64 (l : Int)] 49)
    go_enter Tryz.func49, Tryz.ntmps49
    go_wp2_with (go_at_call 78; (with_reducible refine (Hm.out _).mono ?_); rintro r w1 ⟨rfl, g1⟩; have hb1 := after hb0 g1)
    go_ret
    exact ⟨rfl, hb1⟩
  | true =>
    cases h6 : a.v6 with
    | false =>
      have := text_v4 env a ok hm h6
      unfold textB
      rwa [textL_4 hm h6]
    | true =>
      have := text_v6 env a ok h6
      unfold textB
      rwa [textL_6 h6]
end Go.Proofs.YtbiglifngfgffaaGreatDoor

/- Read: words. -/
namespace Go.Proofs.YtbiglifngfgffaaGreatDoor
open Go.RowKit

theorem NumGot.any {Lo : Option (List Nat)} {W w' : World} {r : Ending} (h : NumGot Lo W r w') : ∃ (v : Value) (L : List Nat), r = .returned (.tuple #[v, .bool Lo.isSome]) ∧ w'.ownsRow W.heap.size 47 1 v L.length (cellsU L) ∧ (Lo = some L ∨ (Lo = none ∧ L = [])) ∧ Below W.heap.size W w' := by
  unfold NumGot at h
  cases Lo with
  | none => exact ⟨.slice none 0 0, [], h.1, World.ownsRow_nil _ _ _ _, Or.inr ⟨rfl, rfl⟩, h.2⟩
  | some L =>
    obtain ⟨⟨v, hr, ho⟩, hb⟩ := h
    exact ⟨v, L, hr, ho, Or.inl rfl, hb⟩
theorem below_drewN (w : World) (n : Nat) : Below w.heap.size w (w.drewN n) := ⟨rfl, rfl, rfl, Nat.le_refl _, fun _ _ => rfl⟩
theorem cut_len (s sep : List UInt8) : (Lib.cut s sep).1.length ≤ s.length ∧ (Lib.cut s sep).2.1.length ≤ s.length := by
  unfold Lib.cut
  split
  · simp
    omega
  · simp
theorem orb8 {h x : Nat} (hh : h < 72057594037927936) (hx : x < 256) : bits .or .u64 ((h : Int) * 256) (x : Int) = ((h * 256 + x : Nat) : Int) := by
  have e := u64_or_nat (h * 256) x (by omega) (by omega)
  rw [show (h : Int) * 256 = ((h * 256 : Nat) : Int) by omega, e]
  have := Nat.shiftLeft_add_eq_or_of_lt (i := 8) (b := x) (by omega) h
  rw [Nat.shiftLeft_eq] at this
  rw [show (256 : Nat) = 2 ^ 8 from rfl, ← this]
theorem fold8_snoc (l : List Nat) (x : Nat) : fold8 (l ++ [x]) = fold8 l * 256 + x := by unfold fold8; rw [List.foldl_append]; rfl
theorem fold8_bound {l : List Nat} (h : ∀ x ∈ l, x < 256) (hl : l.length ≤ 4) : fold8 l < 4294967296 := by
  have := fold8_lt l 0 1 h (by decide)
  have h2 : 256 ^ l.length ≤ 256 ^ 4 := Nat.pow_le_pow_right (by decide) hl
  unfold fold8
  omega
def readV (o : Option Ad) : Value := match o with
  | none => .tuple #[.agg #[.bool false, .int .u64 0, .int .u64 0], .int .i64 8]
  | some a => .tuple #[.agg a.cells, .int .i64 0]
theorem textB_iff {a : Ad} {s : ByteArray} : textB a = s ↔ textL a = s.data.toList := by
  constructor
  · intro h; rw [← h]; unfold textB; simp
  · intro h
    unfold textB
    rw [h]
theorem num10 {v : World} (env : Env v) (s : ByteArray) (hs : s.size ≤ 2000000) (c : UInt8) : Calls Tryz.prog 141 #[.string s, .string ⟨#[c]⟩, .int .i64 10, .int .u64 255] v (NumGot (numbersL c 10 256 s.data.toList) v) := numbers_any env s hs c 10 255 (by decide) (by decide) (fun v e t ht => pu10_64 e t ht)
theorem num16w {v : World} (env : Env v) (s : ByteArray) (hs : s.size ≤ 2000000) (c : UInt8) : Calls Tryz.prog 141 #[.string s, .string ⟨#[c]⟩, .int .i64 16, .int .u64 65535] v (NumGot (numbersL c 16 65536 s.data.toList) v) := numbers_any env s hs c 16 65535 (by decide) (by decide) (fun v e t ht => pu16 e t ht)
end Go.Proofs.YtbiglifngfgffaaGreatDoor

/- Read: the walk. (Printed by rd_read.py.) -/
namespace Go.Proofs.YtbiglifngfgffaaGreatDoor
open Go.RowKit

theorem str_same {a b : ByteArray} (h : a = b) : (a.toList == b.toList) = true := by rw [h]; simp
theorem str_diff {a b : ByteArray} (h : a ≠ b) : (a.toList == b.toList) = false := by
  rw [beq_eq_false_iff_ne]
  intro e
  apply h
  apply ByteArray.ext
  rw [ByteArray.toList_eq, ByteArray.toList_eq] at e
  exact Array.ext' e

set_option maxHeartbeats 8000000 in
set_option maxRecDepth 100000 in
theorem read_any {w : World} (env : Env w) (s : ByteArray) (hs : s.size ≤ 2000000) : Calls Tryz.prog 124 #[.string s] w (Got (readV (readL s.data.toList)) w) := by
  obtain ⟨RL, hRL⟩ : ∃ r, r = readL s.data.toList := ⟨_, rfl⟩
  rw [← hRL]
  have hB0 := (Blk.new w 49 #[.bool false, .int .u64 0, .int .u64 0]).alloc (.cells #[.bool false, .int .u64 0, .int .u64 0] 49)
  have hD0 : Blk ((w.alloc (.cells #[.bool false, .int .u64 0, .int .u64 0] 49)).alloc (.cells #[.bool false, .int .u64 0, .int .u64 0] 49)) (w.heap.size + 1) 49 #[.bool false, .int .u64 0, .int .u64 0] := by
    have h := Blk.new (w.alloc (.cells #[.bool false, .int .u64 0, .int .u64 0] 49)) 49 #[.bool false, .int .u64 0, .int .u64 0]
    simpa using h
  have hb0 := two_boxed w (.cells #[.bool false, .int .u64 0, .int .u64 0] 49) (.cells #[.bool false, .int .u64 0, .int .u64 0] 49)
  have HN1 := Lib.hid (num10 (env.below hb0) s hs 46)
  unfold readL guessP at hRL
  have hrd : ∀ l, numbersL 46 10 256 s.data.toList = some l → l.length = 4 → (RL = if textL ⟨false, 0, fold8 l⟩ = s.data.toList then some ⟨false, 0, fold8 l⟩ else none) := fun l h1 h2 => by rw [hRL, h1]; simp only; rw [if_pos h2]; rfl
  have hrd6 : ((numbersL 46 10 256 s.data.toList = none) ∨ (∃ l, numbersL 46 10 256 s.data.toList = some l ∧ l.length ≠ 4)) → RL = (guess6 s.data.toList).bind fun a => if textL a = s.data.toList then some a else none := fun h => by
    rcases h with h | ⟨l, h, hl⟩
    · rw [hRL, h]
    · rw [hRL, h]; simp only; rw [if_neg hl]
  have hnl : ∀ l, numbersL 46 10 256 s.data.toList = some l → (∀ x ∈ l, x < 256) ∧ l.length ≤ 9 := fun l h => numbersL_lt h
  clear hRL
  generalize hO1 : numbersL 46 10 256 s.data.toList = O1 at HN1 hrd hrd6 hnl
  clear hO1
  have HB0 := Lib.hid hB0
  have HD0 := Lib.hid hD0
  have Hb0 := Lib.hid hb0
  have Henv := Lib.hid env
  have Hrd := Lib.hid hrd
  have Hrd6 := Lib.hid hrd6
  have Hnl := Lib.hid hnl
  clear hB0 hD0 hb0 env hrd hrd6 hnl
  generalize hW0 : (w.alloc (.cells #[.bool false, .int .u64 0, .int .u64 0] 49)).alloc (.cells #[.bool false, .int .u64 0, .int .u64 0] 49) = W0 at HN1 HB0 HD0 Hb0
  have HW0 := Lib.hid hW0
  clear hW0
  go_enter Tryz.func124, Tryz.ntmps124
  go_wp2_with fail
  rw [HW0.out]
  go_at_call 141
  refine HN1.out.mono ?_
  intro r w1 hg1
  obtain ⟨v1, L1, rfl, ho1, hL1, hb1⟩ := hg1.any
  have Ho1 := Lib.hid ho1
  have HL1 := Lib.hid hL1
  have HB1 := Lib.hid (HB0.out.below hb1 HB0.out.lt)
  have HD1 := Lib.hid (HD0.out.below hb1 HD0.out.lt)
  have Hb1 := Lib.hid (after Hb0.out hb1)
  have hsz0 : w.heap.size + 1 < W0.heap.size := HD0.out.lt
  have hsz1 : w.heap.size + 1 < w1.heap.size := HD1.out.lt
  clear hg1 ho1 hL1 hb1
  obtain ⟨A1, cap1, rfl⟩ := own_shape Ho1.out
  by_cases h4 : O1.isSome = true ∧ L1.length = 4
  · obtain ⟨his, hlen⟩ := h4
    have hO1 : O1 = some L1 := by rcases HL1.out with h | ⟨h, _⟩; exact h; rw [h] at his; cases his
    have hrl := Hrd.out L1 hO1 hlen
    have hlx := (Hnl.out L1 hO1).1
    have Hrl := Lib.hid hrl
    have Hlx := Lib.hid hlx
    rw [his]
    have ho4 := Ho1.out
    rw [hlen] at ho4 ⊢
    obtain ⟨g, cap, hv⟩ := own_form ho4
    rw [hv]
    rw [hv] at ho4
    have hg := ho4.lt g rfl
    have hcell : ∀ j, j < 4 → w1.cell? ⟨g, j, none⟩ = some (.int .u64 (L1.getD j 0 : Int)) := by
      intro j hj
      rw [ho4.cellAt (g := g) j (by omega)]
      unfold cellsU
      have hjl : j < L1.length := by omega
      rw [List.getElem?_map, List.getElem?_eq_getElem hjl, List.getD_eq_getElem?_getD, List.getElem?_eq_getElem hjl]
      rfl
    have Hcell := Lib.hid hcell
    have Hlen := Lib.hid hlen
    clear hcell hrl hlx hO1 his ho4 hv hlen
    go_wp2_with fail
    go_loopw [30] (fun v30 wr => ∃ k : Nat, k ≤ 4 ∧ v30 = .int .i64 (k : Int) ∧ RowKit.Hid (Blk wr (w.heap.size + 1) 49 #[.bool false, .int .u64 0, .int .u64 (fold8 (L1.take k) : Int)]) ∧ RowKit.Hid (Blk wr w.heap.size 49 #[.bool false, .int .u64 0, .int .u64 0]) ∧ RowKit.Hid (∀ j, j < 4 → wr.cell? ⟨g, j, none⟩ = some (.int .u64 (L1.getD j 0 : Int))) ∧ RowKit.Hid (Below w.heap.size w wr)) (fun v30 _ => 4 - (intOf v30).toNat)
    case atStart => exact ⟨0, by omega, rfl, HD1, HB1, Hcell, Hb1⟩
    case round =>
      obtain ⟨k, hk, rfl, hD, hB, hr, hb⟩ := hrel
      by_cases hlt : k < 4
      · have hkl : k < L1.length := by have := Hlen.out; omega
        have cx := hr.out k hlt
        have hX : L1.getD k 0 < 256 := by
          rw [List.getD_eq_getElem?_getD, List.getElem?_eq_getElem hkl]
          exact Hlx.out _ (List.getElem_mem hkl)
        have hs : fold8 (L1.take (k + 1)) = fold8 (L1.take k) * 256 + L1.getD k 0 := by
          rw [List.take_succ_eq_append_getElem hkl, fold8_snoc, List.getD_eq_getElem?_getD, List.getElem?_eq_getElem hkl]
          rfl
        have hbd : fold8 (L1.take k) < 4294967296 := fold8_bound (take_lt Hlx.out) (by rw [List.length_take]; omega)
        have a2 := hD.out.cell 2
        have fr := fun i => hD.out.frozen i
        simp at a2
        have hr' := fun (u : Value) j (hj : j < 4) => (cell_far (w := wr) (a := ⟨w.heap.size + 1, 2, none⟩) (c := ⟨g, j, none⟩) (u := u) (by show w.heap.size + 1 ≠ g; omega)).trans (hr.out j hj)
        have Hr' := Lib.hid hr'
        have Hs := Lib.hid hs
        generalize L1.getD k 0 = X at cx hX Hs
        obtain ⟨H0, hH0⟩ : ∃ n, n = fold8 (L1.take k) := ⟨_, rfl⟩
        rw [← hH0] at a2 hbd
        have HH0 := Lib.hid hH0
        have ho := orb8 (h := H0) (x := X) (by omega) hX
        have hw : IntKind.u64.wrap ((H0 : Int) * 256) = (H0 : Int) * 256 := by rw [IntKind.wrap_u64]; omega
        clear hr' hs hH0
        go_wp2_with fail
        go_roundw
        case rel =>
          have hset := hD.out.set_ 2 (.int .u64 ((H0 * 256 + X : Nat) : Int))
          exact ⟨k + 1, by omega, by go_num, Lib.hid (by rw [Hs.out, ← HH0.out]; exact hset), Lib.hid (hB.out.far (p := ⟨w.heap.size + 1, 2, none⟩) (by simp) _), Lib.hid (Hr'.out _), Lib.hid (hb.out.setCell (p := ⟨w.heap.size + 1, 2, none⟩) (by simp) _)⟩
        case measure => simp [intOf]; omega
      · obtain rfl : k = 4 := by omega
        have htk : L1.take 4 = L1 := List.take_of_length_le (by have := Hlen.out; omega)
        have hDD := hD.out
        rw [htk] at hDD
        have hok : (Ad.mk false 0 (fold8 L1)).Ok := ⟨by show (0 : Nat) < _; omega, by show fold8 L1 < _; have := fold8_bound Hlx.out (by have := Hlen.out; omega); omega⟩
        have HDD := Lib.hid hDD
        have htx := text_any (Henv.out.below hb.out) ⟨false, 0, fold8 L1⟩ hok
        have hcmp : RL = if textB ⟨false, 0, fold8 L1⟩ = s then some ⟨false, 0, fold8 L1⟩ else none := by
          rw [Hrl.out]
          by_cases h : textB ⟨false, 0, fold8 L1⟩ = s
          · rw [if_pos h, if_pos (textB_iff.1 h)]
          · rw [if_neg h, if_neg (fun e => h (textB_iff.2 e))]
        generalize fold8 L1 = LO at HDD htx hcmp
        have hcells : Ad.cells ⟨false, 0, LO⟩ = #[.bool false, .int .u64 0, .int .u64 (LO : Int)] := rfl
        generalize (Ad.mk false 0 LO) = AD at htx hcmp hcells
        rw [hcells] at htx
        have HTX := Lib.hid htx
        clear htx
        obtain ⟨TB, hTB⟩ : ∃ t, t = textB AD := ⟨_, rfl⟩
        rw [← hTB] at HTX hcmp
        have Hcells := Lib.hid hcells
        clear hTB hcells
        have a0 := HDD.out.cell 0
        have a1 := HDD.out.cell 1
        have a2 := HDD.out.cell 2
        simp at a0 a1 a2
        by_cases hts : TB = s
        · have hq := str_same hts
          rw [if_pos hts] at hcmp
          have Hcmp := Lib.hid hcmp
          clear hts hcmp
          go_wp2_with (go_at_call 49; (with_reducible refine HTX.out.mono ?_); rintro r w7 ⟨rfl, g7⟩; have hb7 := Lib.hid (after hb.out g7); have hB7 := hB.out.below g7 hB.out.lt; have hD7 := HDD.out.below g7 HDD.out.lt; clear a0 a1 a2; have a0 := hD7.cell 0; have a1 := hD7.cell 1; have a2 := hD7.cell 2; simp at a0 a1 a2; have c0 := hB7.cell 0; have c1 := hB7.cell 1; have c2 := hB7.cell 2; simp at c0 c1 c2; have fr := (fun i => hB7.frozen i); have HB7 := Lib.hid hB7; clear hB7 hD7 g7)
          rw [Hcmp.out]
          show bodyPost _ _ (Got (.tuple #[.agg AD.cells, .int .i64 0]) w) _ _ _
          rw [Hcells.out]
          exact ret_ad3 (g := w.heap.size) (x := 2) (y := 3) rfl HB7.out hb7.out (Nat.le_refl _) rfl rfl rfl
        · have hq := str_diff hts
          rw [if_neg hts] at hcmp
          have Hcmp := Lib.hid hcmp
          clear hts hcmp
          go_wp2_with (go_at_call 49; (with_reducible refine HTX.out.mono ?_); rintro r w7 ⟨rfl, g7⟩; have hb7 := Lib.hid (after hb.out g7); have hB7 := hB.out.below g7 hB.out.lt; have hD7 := HDD.out.below g7 HDD.out.lt; clear a0 a1 a2; have a0 := hD7.cell 0; have a1 := hD7.cell 1; have a2 := hD7.cell 2; simp at a0 a1 a2; have c0 := hB7.cell 0; have c1 := hB7.cell 1; have c2 := hB7.cell 2; simp at c0 c1 c2; have fr := (fun i => hB7.frozen i); have HB7 := Lib.hid hB7; clear hB7 hD7 g7)
          rw [Hcmp.out]
          exact ret_ad3 (g := w.heap.size) (x := 2) (y := 3) rfl HB7.out hb7.out (Nat.le_refl _) rfl rfl rfl
  · have hin : O1.isSome = false ∨ (O1.isSome = true ∧ ((L1.length : Int) == 4) = false) := by
      cases h : O1.isSome with
      | false => exact Or.inl rfl
      | true => exact Or.inr ⟨rfl, by rw [h] at h4; simp at h4; simp; omega⟩
    have hrl := Hrd6.out (by
      rcases HL1.out with h | ⟨h, _⟩
      · exact Or.inr ⟨L1, h, fun e => h4 ⟨by rw [h]; rfl, e⟩⟩
      · exact Or.inl h)
    have hcl := cut_len s.data.toList [58, 58]
    obtain ⟨m, hm⟩ := (Henv.out.below Hb1.out).mx
    have hcut := Tryz.strings_Cut s ⟨#[58, 58]⟩ m w1 (by omega) hm
    unfold guess6 at hrl
    rw [show (⟨#[58, 58]⟩ : ByteArray).data.toList = [58, 58] from rfl] at hcut
    generalize Lib.cut s.data.toList [58, 58] = C at hcl hcut hrl
    obtain ⟨c1, c2, gap⟩ := C
    simp only at hcl hcut hrl
    have hsl : s.data.toList.length = s.size := (Lib.size_eq s).symm
    rw [hsl] at hcl
    have Hcl := Lib.hid hcl
    have HCut := Lib.hid hcut
    have Hrl := Lib.hid hrl
    clear h4 hm hcut hrl hsl hcl
    have hz1 : (⟨c1.toArray⟩ : ByteArray).size ≤ 2000000 := by have := Hcl.out.1; rw [show (⟨c1.toArray⟩ : ByteArray).size = c1.length by simp [ByteArray.size]]; omega
    have hz2 : (⟨c2.toArray⟩ : ByteArray).size ≤ 2000000 := by have := Hcl.out.2; rw [show (⟨c2.toArray⟩ : ByteArray).size = c2.length by simp [ByteArray.size]]; omega
    have HNX := Lib.hid (fun v hv => num16w (v := v) ((Henv.out.below Hb1.out).below hv) ⟨c1.toArray⟩ hz1 58)
    have HNY := Lib.hid (fun v hv => num16w (v := v) ((Henv.out.below Hb1.out).below hv) ⟨c2.toArray⟩ hz2 58)
    rw [show (⟨c1.toArray⟩ : ByteArray).data.toList = c1 by simp] at HNX
    rw [show (⟨c2.toArray⟩ : ByteArray).data.toList = c2 by simp] at HNY
    have hx2 : ∀ L, numbersL 58 16 65536 c1 = some L → (∀ x ∈ L, x < 65536) ∧ L.length ≤ 9 := fun L h => numbersL_lt h
    have hx3 : ∀ L, numbersL 58 16 65536 c2 = some L → (∀ x ∈ L, x < 65536) ∧ L.length ≤ 9 := fun L h => numbersL_lt h
    generalize numbersL 58 16 65536 c1 = O2 at HNX hx2 Hrl
    generalize numbersL 58 16 65536 c2 = O3 at HNY hx3 Hrl
    obtain ⟨T1, hT1⟩ : ∃ t, t = (⟨c1.toArray⟩ : ByteArray) := ⟨_, rfl⟩
    obtain ⟨T2, hT2⟩ : ∃ t, t = (⟨c2.toArray⟩ : ByteArray) := ⟨_, rfl⟩
    rw [← hT1] at HNX
    rw [← hT2] at HNY
    rw [← hT1, ← hT2] at HCut
    have Hx2 := Lib.hid hx2
    have Hx3 := Lib.hid hx3
    clear hx2 hx3 hT1 hT2 hz1 hz2
    obtain ⟨I1, hI1⟩ : ∃ b, b = O1.isSome := ⟨_, rfl⟩
    rw [← hI1] at hin ⊢
    clear hI1
    rcases hin with rfl | ⟨rfl, hq4⟩
    all_goals
      go_wp2_with (go_at_call 123; (with_reducible refine HCut.out.mono ?_); rintro r w2 ⟨rfl, n2, rfl⟩)
      go_at_call 141
      refine (HNX.out _ (below_drewN _ _)).mono ?_
      intro r w3 hg3
      obtain ⟨v2, L2, rfl, ho2, hL2, hb3⟩ := hg3.any
      have hbn : Below w1.heap.size w1 w3 := after (below_drewN w1 n2) hb3
      have Hbn := Lib.hid hbn
      have Ho2 := Lib.hid ho2
      have HL2 := Lib.hid hL2
      clear hg3 ho2 hL2 hb3 hbn
      go_wp2_with fail
      go_at_call 141
      refine (HNY.out _ Hbn.out).mono ?_
      intro r w4 hg4
      obtain ⟨v3, L3, rfl, ho3, hL3, hb4⟩ := hg4.any
      have Ho3 := Lib.hid ho3
      have HL3 := Lib.hid hL3
      have Ho2b := Lib.hid (own_below Ho2.out hb4)
      have Hbm := Lib.hid (after Hbn.out hb4)
      clear hg4 ho3 hL3 hb4
      have h2 : (∀ x ∈ L2, x < 65536) ∧ L2.length ≤ 9 := by
        rcases HL2.out with h | ⟨_, h⟩
        · exact Hx2.out L2 h
        · rw [h]; simp
      have h3 : (∀ x ∈ L3, x < 65536) ∧ L3.length ≤ 9 := by
        rcases HL3.out with h | ⟨_, h⟩
        · exact Hx3.out L3 h
        · rw [h]; simp
      have hwh := whole_any L2 L3 gap Ho2b.out Ho3.out h2.2 h3.2 h2.1 h3.1
      have hwok : ∀ a, wholeL L2 L3 gap = some a → a.Ok ∧ a.v6 = true := fun a h => wholeL_ok h h2.1 h3.1
      have hrl : RL = if O2.isSome = true ∧ O3.isSome = true then (wholeL L2 L3 gap).bind (fun a => if textL a = s.data.toList then some a else none) else none := by
        rw [Hrl.out]
        rcases HL2.out with h | ⟨h, _⟩
        · rcases HL3.out with h' | ⟨h', _⟩
          · rw [h, h']; rfl
          · rw [h, h']; rfl
        · rw [h]; rfl
      generalize wholeL L2 L3 gap = WO at hwh hwok hrl
      have HB4 := HB1.out.below Hbm.out HB1.out.lt
      have HD4 := HD1.out.below Hbm.out HD1.out.lt
      have Hb4 := after Hb1.out Hbm.out
      generalize O2.isSome = i2 at hrl ⊢
      generalize O3.isSome = i3 at hrl ⊢
      cases WO with
      | none =>
        have hrn : RL = none := by rw [hrl]; split <;> rfl
        have HWH := Lib.hid (show Calls _ _ _ w4 (Got (.tuple #[.agg #[.bool false, .int .u64 0, .int .u64 0], .bool false]) w4) from hwh)
        have Hrn := Lib.hid hrn
        have HB4h := Lib.hid HB4
        have HD4h := Lib.hid HD4
        have Hb4h := Lib.hid Hb4
        clear hrn hrl hwh hwok h2 h3 HB4 HD4 Hb4
        go_upto_region 14 with (go_at_call 142; (with_reducible refine HWH.out.mono ?_); rintro r w5 ⟨rfl, g5⟩; have hB5 := HB4h.out.below g5 HB4h.out.lt; have hD5 := HD4h.out.below g5 HD4h.out.lt; have hb5 := after Hb4h.out g5; have d0 := hD5.cell 0; have d1 := hD5.cell 1; have d2 := hD5.cell 2; simp at d0 d1 d2; have fr := (fun i => hD5.frozen i))
        obtain ⟨hD6, hb6⟩ := three (v0 := .bool false) (v1 := .int .u64 0) (v2 := .int .u64 0) hD5 hb5 (by omega)
        have hB6 : Blk (((w5.setCell ⟨w.heap.size + 1, 0, none⟩ (.bool false)).setCell ⟨w.heap.size + 1, 1, none⟩ (.int .u64 0)).setCell ⟨w.heap.size + 1, 2, none⟩ (.int .u64 0)) w.heap.size 49 #[.bool false, .int .u64 0, .int .u64 0] := ((hB5.far (p := ⟨w.heap.size + 1, 0, none⟩) (by simp) _).far (p := ⟨w.heap.size + 1, 1, none⟩) (by simp) _).far (p := ⟨w.heap.size + 1, 2, none⟩) (by simp) _
        generalize (((w5.setCell ⟨w.heap.size + 1, 0, none⟩ (.bool false)).setCell ⟨w.heap.size + 1, 1, none⟩ (.int .u64 0)).setCell ⟨w.heap.size + 1, 2, none⟩ (.int .u64 0)) = w6 at hD6 hb6 hB6 ⊢
        clear d0 d1 d2 fr hB5 hD5 hb5 g5
        have c0 := hB6.cell 0
        have c1 := hB6.cell 1
        have c2 := hB6.cell 2
        simp at c0 c1 c2
        have fr := fun i => hB6.frozen i
        have HB6 := Lib.hid hB6
        have HD6 := Lib.hid hD6
        have Hb6 := Lib.hid hb6
        clear hB6 hD6 hb6
        cases i2
        all_goals cases i3
        all_goals
          go_wp2_with fail
          rw [Hrn.out]
          exact ret_ad3 (g := w.heap.size) (x := 2) (y := 3) rfl HB6.out Hb6.out (Nat.le_refl _) rfl rfl rfl
      | some a =>
        obtain ⟨hok, h6⟩ := hwok a rfl
        have htx := fun v (hv : Below w.heap.size w v) => text_any (Henv.out.below hv) a hok
        have hcells : a.cells = #[.bool a.v6, .int .u64 (a.hi : Int), .int .u64 (a.lo : Int)] := rfl
        have hcmp : i2 = true → i3 = true → RL = if textB a = s then some a else none := fun e1 e2 => by
          rw [hrl, if_pos ⟨e1, e2⟩]
          show (if textL a = s.data.toList then some a else none) = _
          by_cases h : textB a = s
          · rw [if_pos h, if_pos (textB_iff.1 h)]
          · rw [if_neg h, if_neg (fun e => h (textB_iff.2 e))]
        have hrn : ¬ (i2 = true ∧ i3 = true) → RL = none := fun h => by rw [hrl, if_neg h]
        have hwh2 : Calls _ _ _ w4 (Got (.tuple #[.agg a.cells, .bool true]) w4) := hwh
        rw [hcells] at hwh2 htx
        obtain ⟨TB, hTB⟩ : ∃ t, t = textB a := ⟨_, rfl⟩
        rw [← hTB] at htx hcmp
        generalize a.v6 = av at htx hwh2 hcells
        generalize a.hi = ahi at htx hwh2 hcells
        generalize a.lo = alo at htx hwh2 hcells
        have HTX := Lib.hid htx
        have HWH := Lib.hid hwh2
        have Hcells := Lib.hid hcells
        have Hcmp := Lib.hid hcmp
        have Hrn := Lib.hid hrn
        have HB4h := Lib.hid HB4
        have HD4h := Lib.hid HD4
        have Hb4h := Lib.hid Hb4
        clear hrn hrl hwh hwok h2 h3 HB4 HD4 Hb4 htx hwh2 hcells hcmp hTB hok h6
        go_upto_region 14 with (go_at_call 142; (with_reducible refine HWH.out.mono ?_); rintro r w5 ⟨rfl, g5⟩; have hB5 := HB4h.out.below g5 HB4h.out.lt; have hD5 := HD4h.out.below g5 HD4h.out.lt; have hb5 := after Hb4h.out g5; have d0 := hD5.cell 0; have d1 := hD5.cell 1; have d2 := hD5.cell 2; simp at d0 d1 d2; have fr := (fun i => hD5.frozen i))
        obtain ⟨hD6, hb6⟩ := three (v0 := .bool av) (v1 := .int .u64 (ahi : Int)) (v2 := .int .u64 (alo : Int)) hD5 hb5 (by omega)
        have hB6 : Blk (((w5.setCell ⟨w.heap.size + 1, 0, none⟩ (.bool av)).setCell ⟨w.heap.size + 1, 1, none⟩ (.int .u64 (ahi : Int))).setCell ⟨w.heap.size + 1, 2, none⟩ (.int .u64 (alo : Int))) w.heap.size 49 #[.bool false, .int .u64 0, .int .u64 0] := ((hB5.far (p := ⟨w.heap.size + 1, 0, none⟩) (by simp) _).far (p := ⟨w.heap.size + 1, 1, none⟩) (by simp) _).far (p := ⟨w.heap.size + 1, 2, none⟩) (by simp) _
        generalize (((w5.setCell ⟨w.heap.size + 1, 0, none⟩ (.bool av)).setCell ⟨w.heap.size + 1, 1, none⟩ (.int .u64 (ahi : Int))).setCell ⟨w.heap.size + 1, 2, none⟩ (.int .u64 (alo : Int))) = w6 at hD6 hb6 hB6 ⊢
        clear d0 d1 d2 fr hB5 hD5 hb5 g5
        have c0 := hB6.cell 0
        have c1 := hB6.cell 1
        have c2 := hB6.cell 2
        simp at c0 c1 c2
        have fr := fun i => hB6.frozen i
        have HB6 := Lib.hid hB6
        have HD6 := Lib.hid hD6
        have Hb6 := Lib.hid hb6
        clear hB6 hD6 hb6
        cases i2
        all_goals cases i3
        case true.true =>
          have hcmp := Hcmp.out rfl rfl
          have a0 := HD6.out.cell 0
          have a1 := HD6.out.cell 1
          have a2 := HD6.out.cell 2
          simp at a0 a1 a2
          have HTX2 := Lib.hid (HTX.out w6 Hb6.out)
          by_cases hts : TB = s
          · have hq := str_same hts
            rw [if_pos hts] at hcmp
            have Hcmp2 := Lib.hid hcmp
            clear hts hcmp c0 c1 c2 fr
            go_wp2_with (go_at_call 49; (with_reducible refine HTX2.out.mono ?_); rintro r w7 ⟨rfl, g7⟩; have hb7 := Lib.hid (after Hb6.out g7); have hB7 := HB6.out.below g7 HB6.out.lt; have hD7 := HD6.out.below g7 HD6.out.lt; clear a0 a1 a2; have a0 := hD7.cell 0; have a1 := hD7.cell 1; have a2 := hD7.cell 2; simp at a0 a1 a2; have c0 := hB7.cell 0; have c1 := hB7.cell 1; have c2 := hB7.cell 2; simp at c0 c1 c2; have fr := (fun i => hB7.frozen i); have HB7 := Lib.hid hB7; clear hB7 hD7 g7)
            rw [Hcmp2.out]
            show bodyPost _ _ (Got (.tuple #[.agg a.cells, .int .i64 0]) w) _ _ _
            rw [Hcells.out]
            exact ret_ad3 (g := w.heap.size) (x := 2) (y := 3) rfl HB7.out hb7.out (Nat.le_refl _) rfl rfl rfl
          · have hq := str_diff hts
            rw [if_neg hts] at hcmp
            have Hcmp2 := Lib.hid hcmp
            clear hts hcmp c0 c1 c2 fr
            go_wp2_with (go_at_call 49; (with_reducible refine HTX2.out.mono ?_); rintro r w7 ⟨rfl, g7⟩; have hb7 := Lib.hid (after Hb6.out g7); have hB7 := HB6.out.below g7 HB6.out.lt; have hD7 := HD6.out.below g7 HD6.out.lt; clear a0 a1 a2; have a0 := hD7.cell 0; have a1 := hD7.cell 1; have a2 := hD7.cell 2; simp at a0 a1 a2; have c0 := hB7.cell 0; have c1 := hB7.cell 1; have c2 := hB7.cell 2; simp at c0 c1 c2; have fr := (fun i => hB7.frozen i); have HB7 := Lib.hid hB7; clear hB7 hD7 g7)
            rw [Hcmp2.out]
            exact ret_ad3 (g := w.heap.size) (x := 2) (y := 3) rfl HB7.out hb7.out (Nat.le_refl _) rfl rfl rfl
        all_goals
          have hrn := Hrn.out (by decide)
          have Hrn2 := Lib.hid hrn
          clear hrn
          go_wp2_with fail
          rw [Hrn2.out]
          exact ret_ad3 (g := w.heap.size) (x := 2) (y := 3) rfl HB6.out Hb6.out (Nat.le_refl _) rfl rfl rfl
end Go.Proofs.YtbiglifngfgffaaGreatDoor

/- Texts of addresses of IPv4, the document's: the walk. -/
namespace Go.Proofs.YtbiglifngfgffaaGreatDoor
open Go.RowKit

theorem str_size (x : List UInt8) : (⟨x.toArray⟩ : ByteArray).size = x.length := by simp [ByteArray.size]

set_option maxHeartbeats 2000000 in
set_option maxRecDepth 100000 in
theorem rtext_v4 {w : World} (env : Env w) (a : Ad) (ok : a.Ok) (hm : a.may = true) (h6 : a.v6 = false) : Calls Tryz.prog 110 #[.agg a.cells] w (Got (.string ⟨(text4 a.lo).toArray⟩) w) := by
  have Hm := Lib.hid (rmayAddr_any a ok)
  rw [hm] at Hm
  have hl := ok.lo
  obtain ⟨v, x, l⟩ := a
  simp only at h6 hl
  subst h6
  unfold Ad.cells at *
  simp only at Hm ⊢
  clear hm ok
  obtain ⟨RV, hRV⟩ : ∃ r, r = text4 l := ⟨_, rfl⟩
  rw [← hRV]
  have HRV := Lib.hid hRV
  have Henv := Lib.hid env
  clear hRV env
  have hB0 := Blk.new w 49 #[.bool false, .int .u64 (x : Int), .int .u64 (l : Int)]
  have hb0 := boxed w (.cells #[.bool false, .int .u64 (x : Int), .int .u64 (l : Int)] 49)
  go_enter Tryz.func110, Tryz.ntmps110
  go_wp2_with (go_at_call 105; (with_reducible refine (Hm.out _).mono ?_); rintro r w1 ⟨rfl, g1⟩; have hb1 := after hb0 g1; have hB1 := hB0.below g1 hB0.lt; have a0 := hB1.cell 0; simp at a0)
  clear a0
  have HB1 := Lib.hid hB1
  have Hb1 := Lib.hid hb1
  clear hB0 hb0 hB1 hb1
  go_loopw [3, 4] (fun v i wr => ∃ k : Nat, k ≤ 4 ∧ i = .int .i64 ((3 : Int) - (k : Int)) ∧ v = .string ⟨(ref4 l k).toArray⟩ ∧ RowKit.Hid (Blk wr w.heap.size 49 #[.bool false, .int .u64 (x : Int), .int .u64 (l : Int)]) ∧ RowKit.Hid (Below w.heap.size w wr)) (fun _ i _ => (intOf i + 1).toNat)
  case atStart => exact ⟨0, by omega, rfl, rfl, HB1, Hb1⟩
  case round =>
    obtain ⟨k, hk, rfl, rfl, hB, hb⟩ := hrel
    have hsz := hB.out.lt
    by_cases hlt : k < 4
    · have hp := lo4_at l k hlt
      have hnx : ref4 l (k + 1) = ref4 l k ++ Lib.decDigits ((lo4 l).getD k 0) ++ (if k < 3 then [46] else []) := rfl
      rw [hp] at hnx
      have hsl := ref4_len l k
      clear hp
      have e1 : ((8 : Int) * ((3 : Int) - (k : Int))).toNat = 24 - 8 * k := by omega
      have e0 : (0 : Int) ≤ (3 : Int) - (k : Int) := by omega
      have e2 := shr_nat l (24 - 8 * k)
      have hy : l / 2 ^ (24 - 8 * k) < 18446744073709551616 := Nat.lt_of_le_of_lt (Nat.div_le_self _ _) hl
      have e3 := and255 _ hy
      generalize l / 2 ^ (24 - 8 * k) = Y at hnx e2 hy e3
      have hX : Y % 256 < 1000 := by omega
      have hX2 : Y % 256 < 256 := by omega
      generalize Y % 256 = X at hnx e3 hX hX2
      clear hy
      have hdl := decL_len X hX
      have HF := Lib.hid (itoa_any (w := wr) (Henv.out.below hb.out) X hX)
      have hn3 : k < 3 → (⟨(ref4 l (k + 1)).toArray⟩ : ByteArray) = (⟨(ref4 l k).toArray⟩ : ByteArray) ++ ⟨(Lib.decDigits X).toArray⟩ ++ ⟨#[46]⟩ := fun h => by rw [hnx, if_pos h]; apply ByteArray.ext; simp
      have hn4 : ¬ k < 3 → (⟨(ref4 l (k + 1)).toArray⟩ : ByteArray) = (⟨(ref4 l k).toArray⟩ : ByteArray) ++ ⟨(Lib.decDigits X).toArray⟩ := fun h => by rw [hnx, if_neg h]; apply ByteArray.ext; simp
      clear hnx
      obtain ⟨R1, hR1⟩ : ∃ r, r = (⟨(ref4 l (k + 1)).toArray⟩ : ByteArray) := ⟨_, rfl⟩
      rw [← hR1] at hn3 hn4
      have HR1 := Lib.hid hR1
      clear hR1
      generalize ref4 l k = R0 at hn3 hn4 hsl ⊢
      generalize Lib.decDigits X = D at hn3 hn4 hdl HF
      obtain ⟨S0, hS0⟩ : ∃ S, S = (⟨R0.toArray⟩ : ByteArray) := ⟨_, rfl⟩
      obtain ⟨SD, hSD⟩ : ∃ S, S = (⟨D.toArray⟩ : ByteArray) := ⟨_, rfl⟩
      rw [← hS0]
      rw [← hSD] at HF
      rw [← hS0, ← hSD] at hn3 hn4
      have z0 : S0.size ≤ 16 := by rw [hS0, str_size]; omega
      have zD : SD.size ≤ 3 := by rw [hSD, str_size]; omega
      have z1 : ¬ 9223372036854775807 < S0.size + SD.size := by omega
      have z2 : ¬ 9223372036854775807 < S0.size + SD.size + 1 := by omega
      have a2 := hB.out.cell 2
      simp at a2
      have Hn3 := Lib.hid hn3
      have Hn4 := Lib.hid hn4
      clear hn3 hn4 hS0 hSD hsl hdl
      by_cases h3 : k < 3
      · have h3' : (0 : Int) < (3 : Int) - (k : Int) := by omega
        go_wp2_with (go_at_call 50; (with_reducible refine HF.out.mono ?_); rintro r w2 ⟨rfl, g2⟩; have hB2 := Lib.hid (hB.out.below g2 hsz); have hb2 := Lib.hid (after hb.out g2); clear g2 a2)
        go_roundw
        case rel => exact ⟨k + 1, by omega, by congr 1; omega, by rw [← HR1.out, Hn3.out h3], hB2, hb2⟩
        case measure => simp [intOf]; omega
      · have h3' : ¬ (0 : Int) < (3 : Int) - (k : Int) := by omega
        go_wp2_with (go_at_call 50; (with_reducible refine HF.out.mono ?_); rintro r w2 ⟨rfl, g2⟩; have hB2 := Lib.hid (hB.out.below g2 hsz); have hb2 := Lib.hid (after hb.out g2); clear g2 a2)
        go_roundw
        case rel => exact ⟨k + 1, by omega, by congr 1; omega, by rw [← HR1.out, Hn4.out h3], hB2, hb2⟩
        case measure => simp [intOf]; omega
    · obtain rfl : k = 4 := by omega
      have e0 : ¬ (0 : Int) ≤ (3 : Int) - ((4 : Nat) : Int) := by omega
      go_wp2_with fail
      go_ret
      exact ⟨show Ending.returned (.string ⟨(ref4 l 4).toArray⟩) = _ by rw [HRV.out, ref4_text], hb.out⟩
end Go.Proofs.YtbiglifngfgffaaGreatDoor
