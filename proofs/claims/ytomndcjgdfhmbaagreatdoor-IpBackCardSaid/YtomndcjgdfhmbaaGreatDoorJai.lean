/- Joined out of: TxF TwD TwE RdA GsB. -/
import Derived.Test.YtomndcjgdfhmbaaGreatDoorJab
import Derived.Test.YtomndcjgdfhmbaaGreatDoorJah
import Derived.Deep.RegionHeld3
import Derived.Deep.CutBlock
import Derived.Test.YtomndcjgdfhmbaaGreatDoorJaf
set_option linter.unusedVariables false
set_option linter.unusedSimpArgs false

/- Texts of addresses, step by step: the plain law. -/
namespace Go.Proofs.YtomndcjgdfhmbaaGreatDoor

theorem itoa_nat (x : Nat) : Lib.itoa (x : Int) = Lib.decDigits x := by
  unfold Lib.itoa
  rw [if_neg (by omega), show ((x : Int)).toNat = x by omega]

/- The longest row of noughts, as far as k numbers are looked at. -/
def bestK (L : List Nat) : Nat → Int × Nat
  | 0 => (-1, 1)
  | k + 1 => if (bestK L k).2 < run0 (L.drop k) then ((k : Int), run0 (L.drop k)) else bestK L k
theorem bestK_go (L : List Nat) : ∀ k, k ≤ L.length → bestGo k (L.drop k) (bestK L k) = best L := by
  intro k
  induction k with
  | zero => intro _; rfl
  | succ k ih =>
    intro h
    have e := ih (by omega)
    rw [List.drop_eq_getElem_cons (show k < L.length by omega)] at e
    unfold bestGo at e
    unfold bestK
    rw [List.drop_eq_getElem_cons (show k < L.length by omega)]
    exact e
theorem bestK_all (L : List Nat) : bestK L L.length = best L := by
  have := bestK_go L L.length (Nat.le_refl _)
  rwa [List.drop_of_length_le (Nat.le_refl _)] at this
theorem bestK_ok (L : List Nat) : ∀ k, k ≤ L.length → BestOk L (bestK L k) := by
  intro k
  induction k with
  | zero =>
    intro _
    have h0 : ¬ (0 : Int) ≤ (bestK L 0).1 := show ¬ (0 : Int) ≤ -1 by decide
    exact ⟨fun h => absurd h h0, fun h => absurd h h0, fun h => absurd h h0, show 1 ≤ 1 by decide⟩
  | succ k ih =>
    intro h
    have hk := ih (by omega)
    have hr := run0_le (L.drop k)
    rw [List.length_drop] at hr
    unfold bestK
    split
    · next hgt =>
      have h1 := hk.one
      refine ⟨fun _ => ?_, fun _ => ?_, fun _ => ?_, ?_⟩
      · show 2 ≤ run0 (L.drop k)
        omega
      · show (k : Int).toNat + run0 (L.drop k) ≤ L.length
        omega
      · show (L.drop (k : Int).toNat).take (run0 (L.drop k)) = _
        rw [show (k : Int).toNat = k by omega]
        exact run0_take _
      · show 1 ≤ run0 (L.drop k)
        omega
    · exact hk
theorem bestK_range (L : List Nat) (k : Nat) (h : k ≤ L.length) : -1 ≤ (bestK L k).1 ∧ (bestK L k).1 < (L.length : Int) ∧ (bestK L k).2 ≤ L.length + 1 := by
  induction k with
  | zero => exact ⟨show (-1 : Int) ≤ -1 by decide, by show (-1 : Int) < _; omega, by show 1 ≤ _; omega⟩
  | succ k ih =>
    have hr := run0_le (L.drop k)
    rw [List.length_drop] at hr
    unfold bestK
    split
    · exact ⟨by show (-1 : Int) ≤ (k : Int); omega, by show (k : Int) < _; omega, by show run0 _ ≤ _; omega⟩
    · exact ih (by omega)

/- How many noughts stand from i on. -/
theorem run0_at (L : List Nat) (i n : Nat) (hn : i + n ≤ L.length) (hz : ∀ j, j < n → L.getD (i + j) 0 = 0) (he : i + n = L.length ∨ L.getD (i + n) 0 ≠ 0) : run0 (L.drop i) = n := by
  induction n generalizing i with
  | zero =>
    rcases he with he | he
    · rw [Nat.add_zero] at he
      rw [List.drop_of_length_le (by omega)]
      rfl
    · rcases Nat.lt_or_ge i L.length with h | h
      · rw [List.drop_eq_getElem_cons h]
        unfold run0
        rw [Nat.add_zero, List.getD_eq_getElem?_getD, List.getElem?_eq_getElem h] at he
        exact if_neg he
      · rw [List.drop_of_length_le h]; rfl
  | succ n ih =>
    have h : i < L.length := by omega
    have h0 := hz 0 (by omega)
    rw [Nat.add_zero, List.getD_eq_getElem?_getD, List.getElem?_eq_getElem h] at h0
    rw [List.drop_eq_getElem_cons h]
    unfold run0
    rw [if_pos (show L[i] = 0 from h0), ih (i + 1) (by omega) (fun j hj => by rw [show i + 1 + j = i + (j + 1) by omega]; exact hz (j + 1) (by omega)) (by rw [show i + 1 + n = i + (n + 1) by omega]; exact he)]

/- Joined numbers, one more behind them. -/
theorem joinH_snoc (x : Nat) : ∀ {M : List Nat}, M ≠ [] → joinH (M ++ [x]) = joinH M ++ 58 :: hexL x := by
  intro M
  induction M with
  | nil => intro h; exact absurd rfl h
  | cons y r ih =>
    intro _
    cases r with
    | nil => rw [List.singleton_append, joinH_cons, joinH_one, joinH_one]
    | cons z r =>
      rw [List.cons_append, List.cons_append, joinH_cons, joinH_cons, ← List.cons_append, ih (by simp), List.append_assoc, List.cons_append]
theorem joinH_take {L : List Nat} {k : Nat} (hk : k < L.length) (h0 : 0 < k) : joinH (L.take (k + 1)) = joinH (L.take k) ++ 58 :: hexL (L.getD k 0) := by
  rw [List.take_succ_eq_append_getElem hk, joinH_snoc _ (by
    intro e
    have := congrArg List.length e
    rw [List.length_take, List.length_nil] at this
    omega), List.getD_eq_getElem?_getD, List.getElem?_eq_getElem hk]
  rfl

/- The document's way: one number behind the other. -/
def refStep (at_ : Int) (most : Nat) (L : List Nat) (i : Nat) (s : List UInt8) : List UInt8 :=
  if 0 ≤ at_ ∧ at_ ≤ i ∧ (i : Int) < at_ + most then (if (i : Int) = at_ then s ++ [58, 58] else s)
  else (if 0 < i ∧ ¬ (0 ≤ at_ ∧ (i : Int) = at_ + most) then s ++ [58] else s) ++ hexL (L.getD i 0)
def refK (at_ : Int) (most : Nat) (L : List Nat) : Nat → List UInt8
  | 0 => []
  | k + 1 => refStep at_ most L k (refK at_ most L k)
theorem refK_none (L : List Nat) (m : Nat) : ∀ k, k ≤ L.length → refK (-1) m L k = joinH (L.take k) := by
  intro k
  induction k with
  | zero => intro _; rfl
  | succ k ih =>
    intro h
    unfold refK refStep
    rw [if_neg (by omega), ih (by omega)]
    by_cases h0 : 0 < k
    · rw [if_pos ⟨h0, by omega⟩, joinH_take (by omega) h0, List.append_assoc]
      rfl
    · obtain rfl : k = 0 := by omega
      rw [if_neg (by omega), List.take_succ_eq_append_getElem (by omega), List.getD_eq_getElem?_getD, List.getElem?_eq_getElem (by omega)]
      simp [joinH_nil, joinH_one]
theorem refK_low (L : List Nat) (a m : Nat) : ∀ k, k ≤ L.length → k ≤ a → refK (a : Int) m L k = joinH (L.take k) := by
  intro k
  induction k with
  | zero => intro _ _; rfl
  | succ k ih =>
    intro h ha
    unfold refK refStep
    rw [if_neg (by omega), ih (by omega) (by omega)]
    by_cases h0 : 0 < k
    · rw [if_pos ⟨h0, by omega⟩, joinH_take (by omega) h0, List.append_assoc]
      rfl
    · obtain rfl : k = 0 := by omega
      rw [if_neg (by omega), List.take_succ_eq_append_getElem (by omega), List.getD_eq_getElem?_getD, List.getElem?_eq_getElem (by omega)]
      simp [joinH_nil, joinH_one]
theorem refK_mid (L : List Nat) (a m : Nat) (hm : 1 ≤ m) : ∀ j, j < m → a + j < L.length → refK (a : Int) m L (a + j + 1) = joinH (L.take a) ++ [58, 58] := by
  intro j
  induction j with
  | zero =>
    intro _ h
    unfold refK refStep
    rw [if_pos (by omega), if_pos (by omega), refK_low L a m _ (by omega) (by omega)]
  | succ j ih =>
    intro hj h
    have e := ih (by omega) (by omega)
    unfold refK refStep
    rw [if_pos (by omega), if_neg (by omega), show a + (j + 1) = a + j + 1 by omega, e]
theorem refK_high (L : List Nat) (a m : Nat) (hm : 1 ≤ m) : ∀ j, a + m + j ≤ L.length → refK (a : Int) m L (a + m + j) = joinH (L.take a) ++ 58 :: 58 :: joinH ((L.drop (a + m)).take j) := by
  intro j
  induction j with
  | zero =>
    intro h
    have e := refK_mid L a m hm (m - 1) (by omega) (by omega)
    rw [show a + (m - 1) + 1 = a + m by omega] at e
    rw [Nat.add_zero, e, List.take_zero, joinH_nil]
  | succ j ih =>
    intro h
    have e := ih (by omega)
    have hd : j < (L.drop (a + m)).length := by rw [List.length_drop]; omega
    have hg : (L.drop (a + m)).getD j 0 = L.getD (a + m + j) 0 := by
      rw [List.getD_eq_getElem?_getD, List.getD_eq_getElem?_getD, List.getElem?_drop]
    rw [show a + m + (j + 1) = (a + m + j) + 1 by omega]
    unfold refK refStep
    rw [if_neg (by omega), e]
    by_cases h0 : 0 < j
    · rw [if_pos ⟨by omega, by omega⟩, joinH_take hd h0, hg]
      simp
    · obtain rfl : j = 0 := by omega
      rw [if_neg (by omega), List.take_succ_eq_append_getElem hd, ← hg, List.getD_eq_getElem?_getD, List.getElem?_eq_getElem hd]
      simp [joinH_nil, joinH_one]
theorem refK_text (L : List Nat) : refK (best L).1 (best L).2 L L.length = text6 L := by
  have ok := best_ok L
  unfold text6
  split
  · next h =>
    have hr := bestK_range L L.length (Nat.le_refl _)
    rw [bestK_all] at hr
    have e : (best L).1 = -1 := by omega
    rw [e, refK_none L _ _ (Nat.le_refl _), List.take_length]
  · next h =>
    have h0 : 0 ≤ (best L).1 := by omega
    have h1 := ok.le h0
    obtain ⟨a, ha⟩ : ∃ a : Nat, (best L).1 = (a : Int) := ⟨(best L).1.toNat, by omega⟩
    rw [ha] at h1 ⊢
    rw [show ((a : Int)).toNat = a by omega] at h1 ⊢
    have e := refK_high L a (best L).2 ok.one (L.length - (a + (best L).2)) (by omega)
    rw [show a + (best L).2 + (L.length - (a + (best L).2)) = L.length by omega] at e
    rw [e, List.take_of_length_le (i := L.length - (a + (best L).2)) (by rw [List.length_drop]; omega)]
theorem refStep_len (at_ : Int) (m : Nat) (L : List Nat) (i : Nat) (s : List UInt8) (h : L.getD i 0 < 65536) : (refStep at_ m L i s).length ≤ s.length + 6 := by
  have := hexL_len _ h
  unfold refStep
  generalize L.getD i 0 = X at this
  clear h
  split
  · split <;> simp
  · rw [List.length_append]
    split <;> simp <;> omega
theorem refK_len (at_ : Int) (m : Nat) (L : List Nat) (h : ∀ x ∈ L, x < 65536) : ∀ k, (refK at_ m L k).length ≤ 6 * k := by
  intro k
  induction k with
  | zero => simp [refK]
  | succ k ih =>
    have hx : L.getD k 0 < 65536 := by
      rcases Nat.lt_or_ge k L.length with hk | hk
      · rw [List.getD_eq_getElem?_getD, List.getElem?_eq_getElem hk]
        exact h _ (List.getElem_mem hk)
      · rw [List.getD_eq_getElem?_getD, List.getElem?_eq_none hk]
        decide
    have := refStep_len at_ m L k (refK at_ m L k) hx
    unfold refK
    omega

/- The document's way of IPv4. -/
def ref4 (lo : Nat) : Nat → List UInt8
  | 0 => []
  | k + 1 => ref4 lo k ++ Lib.decDigits ((lo4 lo).getD k 0) ++ (if k < 3 then [46] else [])
theorem ref4_text (lo : Nat) : ref4 lo 4 = text4 lo := by
  unfold text4 lo4
  simp only [ref4, lo4, List.map_cons, List.map_nil]
  rw [join_two, join_two, join_two, Lib.join_one]
  simp [dot]
theorem lo4_at (lo k : Nat) (hk : k < 4) : (lo4 lo).getD k 0 = lo / 2 ^ (24 - 8 * k) % 256 := by
  unfold lo4
  rcases (show k = 0 ∨ k = 1 ∨ k = 2 ∨ k = 3 by omega) with rfl | rfl | rfl | rfl <;> simp
theorem ref4_len (lo : Nat) : ∀ k, (ref4 lo k).length ≤ 4 * k := by
  intro k
  induction k with
  | zero => simp [ref4]
  | succ k ih =>
    have h : (lo4 lo).getD k 0 < 1000 := by
      rcases Nat.lt_or_ge k 4 with hk | hk
      · rw [lo4_at lo k hk]; omega
      · rw [List.getD_eq_getElem?_getD, List.getElem?_eq_none (by simp [lo4]; omega)]; decide
    have := decL_len _ h
    unfold ref4
    generalize (lo4 lo).getD k 0 = X at this
    clear h
    rw [List.length_append, List.length_append]
    split <;> simp <;> omega
end Go.Proofs.YtomndcjgdfhmbaaGreatDoor

/- Texts of addresses of IPv4, the program's and the document's: the walks. -/
namespace Go.Proofs.YtomndcjgdfhmbaaGreatDoor
open Go.RowKit

theorem itoa_any {w : World} (env : Env w) (x : Nat) (hx : x < 1000) : Calls Tryz.prog 46 #[.int .i64 (x : Int)] w fun r w' => r = .returned (.string ⟨(Lib.decDigits x).toArray⟩) ∧ Below w.heap.size w w' := by
  refine (Tryz.strconv_Itoa (x : Int) (by omega) (by omega) w env.pow).mono ?_
  rintro r w' ⟨rfl, k, os, rfl⟩
  rw [itoa_nat]
  exact ⟨rfl, Lib.below_grow _ _ (Nat.le_refl _) _ _⟩

def decs (L : List Nat) : List (List UInt8) := L.map Lib.decDigits
theorem decs_take {L : List Nat} {k : Nat} (hk : k < L.length) : decs (L.take (k + 1)) = decs (L.take k) ++ [Lib.decDigits (L.getD k 0)] := by
  unfold decs
  rw [List.take_succ_eq_append_getElem hk, List.map_append, List.getD_eq_getElem?_getD, List.getElem?_eq_getElem hk]
  rfl
theorem and255 (y : Nat) (hy : y < 18446744073709551616) : bits .and .u64 (y : Int) 255 = ((y % 256 : Nat) : Int) := by
  have h := u64_and_nat y 255 hy (by decide)
  rw [show ((255 : Nat) : Int) = 255 from rfl] at h
  rw [h, show (255 : Nat) = 2 ^ 8 - 1 from rfl, Nat.and_two_pow_sub_one_eq_mod]
theorem text4_len (lo : Nat) : (text4 lo).length ≤ 16 := by
  have := ref4_len lo 4
  rwa [ref4_text] at this

set_option maxHeartbeats 2000000 in
set_option maxRecDepth 100000 in
theorem text_v4 {w : World} (env : Env w) (a : Ad) (ok : a.Ok) (hm : a.may = true) (h6 : a.v6 = false) : Calls Tryz.prog 19 #[.agg a.cells] w (Got (.string ⟨(text4 a.lo).toArray⟩) w) := by
  obtain ⟨i0, hi, hz0, hz1, hz2⟩ := info_parts info_str
  have Hm := Lib.hid (mayAddr_any a ok)
  rw [hm] at Hm
  have hl := ok.lo
  obtain ⟨v, x, l⟩ := a
  simp only at h6 hl
  subst h6
  unfold Ad.cells at *
  simp only at Hm ⊢
  clear hm ok
  obtain ⟨RV, hRV⟩ : ∃ r, r = text4 l := ⟨_, rfl⟩
  rw [← hRV]
  have HRV := Lib.hid hRV
  have Henv := Lib.hid env
  clear hRV env
  have hB0 := Blk.new w 24 #[.bool false, .int .u64 (x : Int), .int .u64 (l : Int)]
  have hb0 := boxed w (.cells #[.bool false, .int .u64 (x : Int), .int .u64 (l : Int)] 24)
  go_enter Tryz.func19, Tryz.ntmps19
  go_wp2_with (go_at_call 37; (with_reducible refine (Hm.out _).mono ?_); rintro r w1 ⟨rfl, g1⟩; have hb1 := after hb0 g1; have hB1 := hB0.below g1 hB0.lt; have a0 := hB1.cell 0; simp at a0)
  clear a0
  have HB1 := Lib.hid hB1
  have Hb1 := Lib.hid hb1
  clear hB0 hb0 hB1 hb1
  go_loopw [3, 19] (fun v i wr => ∃ k : Nat, k ≤ 4 ∧ i = .int .i64 (k : Int) ∧ RowKit.Hid (wr.ownsRow (w.heap.size + 1) 9 1 v k ((strs (decs ((lo4 l).take k))).map Value.string)) ∧ RowKit.Hid (Blk wr w.heap.size 24 #[.bool false, .int .u64 (x : Int), .int .u64 (l : Int)]) ∧ RowKit.Hid (Below w.heap.size w wr)) (fun _ i _ => 4 - (intOf i).toNat)
  case atStart => exact ⟨0, by omega, rfl, Lib.hid (World.ownsRow_nil _ _ _ _), HB1, Hb1⟩
  case round =>
    obtain ⟨k, hk, rfl, hown, hB, hb⟩ := hrel
    have hsz := hB.out.lt
    by_cases hlt : k < 4
    · have hp := lo4_at l k hlt
      have hs := decs_take (L := lo4 l) (k := k) hlt
      have hq : (strs (decs ((lo4 l).take (k + 1)))).map Value.string = (strs (decs ((lo4 l).take k))).map Value.string ++ [.string ⟨(Lib.decDigits ((lo4 l).getD k 0)).toArray⟩] := by rw [hs, strs_snoc]
      rw [hp] at hq
      have Hq := Lib.hid hq
      clear hs hq hp
      have e1 : ((24 : Int) - 8 * (k : Int)).toNat = 24 - 8 * k := by omega
      have e2 := shr_nat l (24 - 8 * k)
      have hy : l / 2 ^ (24 - 8 * k) < 18446744073709551616 := Nat.lt_of_le_of_lt (Nat.div_le_self _ _) hl
      have e3 := and255 _ hy
      generalize l / 2 ^ (24 - 8 * k) = Y at Hq e2 hy e3
      have hX : Y % 256 < 1000 := by omega
      have hX2 : Y % 256 < 256 := by omega
      generalize Y % 256 = X at Hq e3 hX hX2
      clear hy
      have HF := Lib.hid (itoa_any (w := wr) (Henv.out.below hb.out) X hX)
      have a2 := hB.out.cell 2
      simp at a2
      go_wp2_with (first
        | (go_at_call 46; (with_reducible refine HF.out.mono ?_); rintro r w2 ⟨rfl, g2⟩; have ho2 := Lib.hid (own_below hown.out g2); have hB2 := Lib.hid (hB.out.below g2 hsz); have hb2 := Lib.hid (after hb.out g2); clear g2 a2)
        | (at_builtin; refine wpList_append_own _ rfl _ _ 68 rfl (w.heap.size + 1) 9 i0 (.string ByteArray.empty) 1 16 Tryz.underlying68 hi hz0 hz1 hz2 rfl (by decide) _ k _ rfl (ho2.out.alloc _) ⟨w2.heap.size, 0, none⟩ 1 1 [.string ⟨(Lib.decDigits X).toArray⟩] rfl rfl (cell_one_new _ _ _) (fun x hx => by simp at hx; subst hx; rfl) (by unfold maxLen; omega) (by omega) (by have := hB2.out.lt; simp; omega) ?_; intro v' w3 hown' hgrow3 hnil3; have Ho3 := Lib.hid hown'; have hB3 := Lib.hid ((hB2.out.alloc _).grown hgrow3 (fun e => by have := (ho2.out.lt _ e.symm).1; omega)); have hb3 := Lib.hid ((hb2.out.alloc (hb2.out.size) _).grown hgrow3 (by have := hb2.out.size; simp; omega) (fun q hq => by have := (ho2.out.lt q hq).1; omega)); clear hown' hgrow3 hnil3))
      go_roundw
      case rel => exact ⟨k + 1, by omega, by go_num, Lib.hid (by rw [Hq.out]; exact Ho3.out), hB3, hb3⟩
      case measure => simp [intOf]; omega
    · obtain rfl : k = 4 := by omega
      have hown := hown.out
      rw [show (lo4 l).take 4 = lo4 l from rfl] at hown
      have HJ := Lib.hid (join_own (w := wr) (L := decs (lo4 l)) 46 hown (by simp [decs, lo4]) (by have := text4_len l; unfold text4 at this; exact Nat.le_trans this (by decide)))
      clear hown
      go_wp2_with (go_at_call 47; (with_reducible refine HJ.out.mono ?_); rintro r w2 ⟨rfl, g2⟩; have hb2 := Lib.hid (after hb.out g2); clear g2)
      go_ret
      exact ⟨by rw [HRV.out]; rfl, hb2.out⟩
end Go.Proofs.YtomndcjgdfhmbaaGreatDoor

/- Texts of addresses of IPv6, the program's: the walk. -/
namespace Go.Proofs.YtomndcjgdfhmbaaGreatDoor
open Go.RowKit
attribute [local go_sem ↓] Go.wp_at_zero Go.wp_at_succ

theorem slice8_all (g : Nat) (W : World) : (Instr.sliceAt 71 (.pointer (some ⟨g, 0, none⟩)) none none none).run Tryz.prog W = .ok (.slice (some ⟨g, 0, none⟩) 8 8) W := by
  have ha : Tryz.prog.arrayLen 71 = 8 := by kernel_rfl
  have hu : Tryz.prog.underlying 71 = some (.array (Tryz.prog.arrayLen 71) (Tryz.prog.elem 71)) := by kernel_rfl
  have hs : (sizeOf (Tryz.prog.elem 71)).run Tryz.prog W = .ok 1 W := by kernel_rfl
  rw [run_sliceAt_array_all W _ _ hu, hs, ha]
  rfl
theorem slice8_to (g n : Nat) (hn : n ≤ 8) (W : World) : (Instr.sliceAt 71 (.pointer (some ⟨g, 0, none⟩)) none (some (.int .i64 (n : Int))) none).run Tryz.prog W = .ok (.slice (some ⟨g, 0, none⟩) n 8) W := by
  have ha : Tryz.prog.arrayLen 71 = 8 := by kernel_rfl
  have hu : Tryz.prog.underlying 71 = some (.array (Tryz.prog.arrayLen 71) (Tryz.prog.elem 71)) := by kernel_rfl
  have hs : (sizeOf (Tryz.prog.elem 71)).run Tryz.prog W = .ok 1 W := by kernel_rfl
  rw [run_sliceAt_array_h W _ _ hu .i64 (n : Int) (by omega) (by rw [ha]; omega), hs, ha]
  rfl
theorem slice8_from (g n : Nat) (hn : n ≤ 8) (W : World) : (Instr.sliceAt 71 (.pointer (some ⟨g, 0, none⟩)) (some (.int .i64 (n : Int))) none none).run Tryz.prog W = .ok (.slice (some ⟨g, if n = 8 then 0 else n, none⟩) (8 - n) (8 - n)) W := by
  have ha : Tryz.prog.arrayLen 71 = 8 := by kernel_rfl
  have hu : Tryz.prog.underlying 71 = some (.array (Tryz.prog.arrayLen 71) (Tryz.prog.elem 71)) := by kernel_rfl
  have hs : (sizeOf (Tryz.prog.elem 71)).run Tryz.prog W = .ok 1 W := by kernel_rfl
  rw [run_sliceAt_array_l W _ _ hu .i64 (n : Int) (by omega) (by rw [ha]; omega), hs, ha]
  show Result.ok (Value.slice (some (if 8 = n then (⟨g, 0, none⟩ : Addr) else (⟨g, 0, none⟩ : Addr).add (n * 1))) (8 - n) (8 - n)) W = _
  by_cases e : n = 8
  · subst e; rfl
  · rw [if_neg (fun h => e h.symm), if_neg e]
    have e2 : (⟨g, 0, none⟩ : Addr).add (n * 1) = ⟨g, n, none⟩ := by unfold Addr.add; split <;> simp_all
    rw [e2]

theorem tjoin_row {W v : World} {g : Nat} {L : List Nat} (hL8 : L.length = 8) (hL : ∀ x ∈ L, x < 65536) (env : Env W) (hB : Blk W g 71 (prow .u16 L 8)) (hv : Below W.heap.size W v) (o n c : Nat) (hn : o + n ≤ 8) (M : List Nat) (hM : M = (L.drop o).take n) : Calls Tryz.prog 49 #[.slice (some ⟨g, o, none⟩) n c] v (Got (.string ⟨(joinH M).toArray⟩) v) := by
  have hlen : M.length = n := by rw [hM, List.length_take, List.length_drop]; omega
  have := tjoin_any (w := v) (env.below hv) g o c M (fun x hx => hL x (by rw [hM] at hx; exact List.mem_of_mem_drop (List.mem_of_mem_take hx))) (by omega) (Nat.lt_of_lt_of_le hB.lt hv.size) (fun j hj => by
    have h := (Blk.below hB hv hB.lt).cell (o + j)
    rw [h, prow_at _ _ _ _ (by omega), if_pos (by omega), hM, List.getD_eq_getElem?_getD, List.getD_eq_getElem?_getD, List.getElem?_take, if_pos (by omega), List.getElem?_drop])
  rw [hlen] at this
  exact this

set_option maxHeartbeats 4000000 in
set_option maxRecDepth 100000 in
theorem text_v6 {w : World} (env : Env w) (a : Ad) (ok : a.Ok) (h6 : a.v6 = true) : Calls Tryz.prog 19 #[.agg a.cells] w (Got (.string ⟨(text6 (pieceL a)).toArray⟩) w) := by
  have Hm := Lib.hid (mayAddr_any a ok)
  rw [may6 h6] at Hm
  have HP := Lib.hid (pieces_any a ok)
  have hL8 := pieceL_length a
  have hL := pieceL_lt a
  generalize pieceL a = L at HP hL8 hL ⊢
  have HL8 := Lib.hid hL8
  have HL := Lib.hid hL
  clear hL8 hL ok
  obtain ⟨v, x, l⟩ := a
  simp only at h6
  subst h6
  unfold Ad.cells at *
  simp only at Hm HP ⊢
  obtain ⟨RV, hRV⟩ : ∃ r, r = (⟨(text6 L).toArray⟩ : ByteArray) := ⟨_, rfl⟩
  rw [← hRV]
  have HRV := Lib.hid hRV
  have Henv := Lib.hid env
  clear hRV env
  have hB0 := Blk.new w 24 #[.bool true, .int .u64 (x : Int), .int .u64 (l : Int)]
  have hb0 := boxed w (.cells #[.bool true, .int .u64 (x : Int), .int .u64 (l : Int)] 24)
  have e8 := prow_eight .u16 L
  generalize L.getD 0 0 = p0 at e8
  generalize L.getD 1 0 = p1 at e8
  generalize L.getD 2 0 = p2 at e8
  generalize L.getD 3 0 = p3 at e8
  generalize L.getD 4 0 = p4 at e8
  generalize L.getD 5 0 = p5 at e8
  generalize L.getD 6 0 = p6 at e8
  generalize L.getD 7 0 = p7 at e8
  rw [e8] at HP
  have E8 := Lib.hid e8
  clear e8
  go_enter Tryz.func19, Tryz.ntmps19
  go_wp2_with (first
    | (go_at_call 37; (with_reducible refine (Hm.out _).mono ?_); rintro r w1 ⟨rfl, g1⟩; have hb1 := after hb0 g1; have hB1 := hB0.below g1 hB0.lt; have a0 := hB1.cell 0; have a1 := hB1.cell 1; have a2 := hB1.cell 2; simp at a0 a1 a2)
    | (go_at_call 48; (with_reducible refine (HP.out _).mono ?_); rintro r w2 ⟨rfl, g2⟩; have hb2 := after hb1 g2; clear a0 a1 a2))
  have hR0 : Blk (w2.alloc (.cells #[.int .u16 (p0 : Int), .int .u16 (p1 : Int), .int .u16 (p2 : Int), .int .u16 (p3 : Int), .int .u16 (p4 : Int), .int .u16 (p5 : Int), .int .u16 (p6 : Int), .int .u16 (p7 : Int)] 71)) w2.heap.size 71 (prow .u16 L 8) := by
    rw [E8.out]
    exact Blk.new _ _ _
  have hb3 := after hb2 (boxed w2 (.cells #[.int .u16 (p0 : Int), .int .u16 (p1 : Int), .int .u16 (p2 : Int), .int .u16 (p3 : Int), .int .u16 (p4 : Int), .int .u16 (p5 : Int), .int .u16 (p6 : Int), .int .u16 (p7 : Int)] 71))
  generalize w2.alloc (.cells #[.int .u16 (p0 : Int), .int .u16 (p1 : Int), .int .u16 (p2 : Int), .int .u16 (p3 : Int), .int .u16 (p4 : Int), .int .u16 (p5 : Int), .int .u16 (p6 : Int), .int .u16 (p7 : Int)] 71) = W0 at hR0 hb3 ⊢
  generalize w2.heap.size = g at hR0 ⊢
  have HR0 := Lib.hid hR0
  have Hb3 := Lib.hid hb3
  clear hB0 hb0 hB1 hb1 hb2 hR0 hb3
  have hcell := fun i (hi : i < 8) => (HR0.out.cell i).trans (prow_at .u16 L 8 i hi)
  have Hcell := Lib.hid hcell
  clear hcell
  go_loop [6, 7, 39] (fun v6 v7 v39 => ∃ k : Nat, k ≤ 8 ∧ v39 = .int .i64 (k : Int) ∧ v6 = .int .i64 (bestK L k).1 ∧ v7 = .int .i64 ((bestK L k).2 : Int)) (fun _ _ v39 => 8 - (intOf v39).toNat)
  case atStart => exact ⟨0, by omega, rfl, rfl, rfl⟩
  case round =>
    obtain ⟨k, hk, rfl, rfl, rfl⟩ := hrel
    by_cases hlt : k < 8
    · obtain ⟨B, hB⟩ : ∃ b, b = bestK L k := ⟨_, rfl⟩
      have hnext : bestK L (k + 1) = if B.2 < run0 (L.drop k) then ((k : Int), run0 (L.drop k)) else B := by rw [hB]; rfl
      rw [← hB]
      have Hnext := Lib.hid hnext
      have HB := Lib.hid hB
      clear hB hnext
      obtain ⟨b1, b2⟩ := B
      go_wp2_with fail
      go_loop [9] (fun v9 => ∃ n : Nat, k + n ≤ 8 ∧ v9 = .int .i64 (n : Int) ∧ RowKit.Hid (∀ j, j < n → L.getD (k + j) 0 = 0)) (fun v9 => 8 - (intOf v9).toNat)
      case atStart => exact ⟨0, by omega, rfl, Lib.hid (fun j h => by omega)⟩
      case round =>
        obtain ⟨n, hn, rfl, hz⟩ := hrel
        have e1 : ((k : Int) + (n : Int)).toNat = k + n := by omega
        by_cases hgo : k + n < 8 ∧ L.getD (k + n) 0 = 0
        · obtain ⟨hs, h0⟩ := hgo
          have cx := Hcell.out (k + n) hs
          rw [if_pos hs, h0] at cx
          have H0 := Lib.hid h0
          have hs' : (k : Int) + (n : Int) < 8 := by omega
          clear h0
          go_wp2_with fail
          go_round
          case rel => exact ⟨n + 1, by omega, by go_num, Lib.hid (fun j hj => by
              by_cases e : j = n
              · rw [e]; exact H0.out
              · exact hz.out j (by omega))⟩
          case measure => simp [intOf]; omega
        · have hrun : run0 (L.drop k) = n := run0_at L k n (by have := HL8.out; omega) hz.out (by
            have := HL8.out
            rcases Nat.lt_or_ge (k + n) 8 with h | h
            · exact Or.inr (fun h0 => hgo ⟨h, h0⟩)
            · exact Or.inl (by omega))
          have hnx := Hnext.out
          rw [hrun] at hnx
          have Hnx := Lib.hid hnx
          clear hrun hnx
          by_cases hs : k + n < 8
          · have cx := Hcell.out (k + n) hs
            rw [if_pos hs] at cx
            have h0 : L.getD (k + n) 0 ≠ 0 := fun h0 => hgo ⟨hs, h0⟩
            have hs' : (k : Int) + (n : Int) < 8 := by omega
            clear hgo
            generalize L.getD (k + n) 0 = X at cx h0
            have hq : ((X : Int) == 0) = false := by simp; omega
            clear h0
            by_cases hgt : b2 < n
            all_goals
              have Hg := Lib.hid hgt
              go_wp2_with fail
              go_round
              case rel =>
                refine ⟨k + 1, by omega, by go_num, ?_, ?_⟩
                all_goals (rw [Hnx.out]; first | rw [if_pos Hg.out] | rw [if_neg Hg.out])
              case measure => simp [intOf]; omega
          · have hs' : ¬ (k : Int) + (n : Int) < 8 := by omega
            clear hgo
            by_cases hgt : b2 < n
            all_goals
              have Hg := Lib.hid hgt
              go_wp2_with fail
              go_round
              case rel =>
                refine ⟨k + 1, by omega, by go_num, ?_, ?_⟩
                all_goals (rw [Hnx.out]; first | rw [if_pos Hg.out] | rw [if_neg Hg.out])
              case measure => simp [intOf]; omega
    · obtain rfl : k = 8 := by omega
      have hall : bestK L 8 = best L := by have := bestK_all L; rwa [HL8.out] at this
      have hrg := bestK_range L 8 (by have := HL8.out; omega)
      have hok := best_ok L
      have htx : RV = ⟨(if (best L).1 < 0 then joinH L else joinH (L.take (best L).1.toNat) ++ (58 :: 58 :: joinH (L.drop ((best L).1.toNat + (best L).2)))).toArray⟩ := HRV.out
      have h1 := hok.le
      have h2 := hok.one
      rw [hall] at hrg
      rw [hall]
      rw [HL8.out] at hrg h1
      clear hall hok
      generalize best L = B at hrg htx h1 h2 ⊢
      obtain ⟨b1, b2⟩ := B
      simp only at hrg htx h1 h2 ⊢
      by_cases hneg : b1 < 0
      · rw [if_pos hneg] at htx
        have Htx := Lib.hid htx
        clear htx h1 hrg
        have HJ := Lib.hid (tjoin_row HL8.out HL.out (Henv.out.below Hb3.out) HR0.out (Below.refl _ _) 0 8 8 (by omega) L (by rw [List.drop_zero]; exact (List.take_of_length_le (by have := HL8.out; omega)).symm))
        have hsl := slice8_all g
        go_wp2_with (go_at_call 49; (with_reducible refine HJ.out.mono ?_); rintro r w9 ⟨rfl, g9⟩; have hb9 := Lib.hid (after Hb3.out g9); clear g9)
        go_ret
        exact ⟨show Ending.returned (.string ⟨(joinH L).toArray⟩) = _ by rw [Htx.out], hb9.out⟩
      · rw [if_neg hneg] at htx
        obtain ⟨A, rfl⟩ : ∃ A : Nat, b1 = (A : Int) := ⟨b1.toNat, by omega⟩
        have h3 := h1 (by omega)
        rw [show ((A : Int)).toNat = A by omega] at h3 htx
        have HJ1 := fun v hv => tjoin_row (v := v) HL8.out HL.out (Henv.out.below Hb3.out) HR0.out hv 0 A 8 (by omega) (L.take A) (by rw [List.drop_zero])
        have HJ2 := fun v hv => tjoin_row (v := v) HL8.out HL.out (Henv.out.below Hb3.out) HR0.out hv (if A + b2 = 8 then 0 else A + b2) (8 - (A + b2)) (8 - (A + b2)) (by split <;> omega) (L.drop (A + b2)) (by
          have h8 := HL8.out
          split
          · next e => rw [e, List.take_zero, List.drop_of_length_le (by omega)]
          · exact (List.take_of_length_le (by rw [List.length_drop]; omega)).symm)
        have l1 := joinH_len8 (L := L.take A) (take_lt HL.out) (by rw [List.length_take]; have := HL8.out; omega)
        have l2 := joinH_len8 (L := L.drop (A + b2)) (drop_lt HL.out) (by rw [List.length_drop]; have := HL8.out; omega)
        have hsl1 := slice8_to g A (by omega)
        have hsl2 := slice8_from g (A + b2) (by omega)
        rw [show ((A + b2 : Nat) : Int) = (A : Int) + (b2 : Int) by omega] at hsl2
        have hwr : IntKind.i64.wrap ((A : Int) + (b2 : Int)) = (A : Int) + (b2 : Int) := IntWalk.i64_in _ (by omega)
        generalize (if A + b2 = 8 then 0 else A + b2) = O at HJ2 hsl2
        generalize 8 - (A + b2) = N at HJ2 hsl2
        generalize joinH (L.take A) = J1 at HJ1 l1 htx
        generalize joinH (L.drop (A + b2)) = J2 at HJ2 l2 htx
        obtain ⟨S1, hS1⟩ : ∃ S, S = (⟨J1.toArray⟩ : ByteArray) := ⟨_, rfl⟩
        obtain ⟨S2, hS2⟩ : ∃ S, S = (⟨J2.toArray⟩ : ByteArray) := ⟨_, rfl⟩
        have s1 : S1.size ≤ 40 := by rw [hS1]; simpa [ByteArray.size] using l1
        have s2 : S2.size ≤ 40 := by rw [hS2]; simpa [ByteArray.size] using l2
        have hrv : RV = S1 ++ ⟨#[58, 58]⟩ ++ S2 := by
          rw [htx, hS1, hS2]
          apply ByteArray.ext
          simp
        rw [← hS1] at HJ1
        rw [← hS2] at HJ2
        have Hrv := Lib.hid hrv
        have HJA := Lib.hid HJ1
        have HJB := Lib.hid HJ2
        clear htx hS1 hS2 hrv HJ1 HJ2 l1 l2 h1 hrg hneg
        go_wp2_with fail
        have hv := (Below.refl W0.heap.size W0).drew
        have z1 : ¬ 9223372036854775807 < S1.size + 2 := by omega
        have z2 : ¬ 9223372036854775807 < S1.size + 2 + S2.size := by omega
        go_region_held3 (fun _ => True) (trivial)
          (first
            | (go_at_call 49; (with_reducible refine (HJA.out _ hv).mono ?_); rintro r w8 ⟨rfl, g8⟩; have hv8 := after hv g8; have hv := hv8)
            | (go_at_call 49; (with_reducible refine (HJB.out _ hv).mono ?_); rintro r w9 ⟨rfl, g9⟩; have hv9 := after hv g9; have hv := hv9))
        all_goals go_wp2_with fail
        go_ret
        exact ⟨show Ending.returned (.string (S1 ++ ⟨#[58, 58]⟩ ++ S2)) = _ by rw [Hrv.out], after Hb3.out hv⟩

/- The text of an address. -/
def textB (a : Ad) : ByteArray := ⟨(textL a).toArray⟩
theorem text_any {w : World} (env : Env w) (a : Ad) (ok : a.Ok) : Calls Tryz.prog 19 #[.agg a.cells] w (Got (.string (textB a)) w) := by
  cases hm : a.may with
  | false =>
    have Hm := Lib.hid (mayAddr_any a ok)
    rw [hm] at Hm
    have e : textB a = ⟨#[]⟩ := by unfold textB; rw [textL_nil hm]
    rw [e]
    obtain ⟨v, x, l⟩ := a
    unfold Ad.cells at *
    simp only at Hm ⊢
    clear e hm ok env
    have hb0 := boxed w (.cells #[.bool v, .int .u64 (x : Int), .int .u64 (l : Int)] 24)
    go_enter Tryz.func19, Tryz.ntmps19
    go_wp2_with (go_at_call 37; (with_reducible refine (Hm.out _).mono ?_); rintro r w1 ⟨rfl, g1⟩; have hb1 := after hb0 g1)
    go_ret
    exact ⟨rfl, hb1⟩
  | true =>
    cases h6 : a.v6 with
    | false =>
      have := text_v4 env a ok hm h6
      unfold textB
      rwa [textL_4 hm h6]
    | true =>
      have := text_v6 env a ok h6
      unfold textB
      rwa [textL_6 h6]
end Go.Proofs.YtomndcjgdfhmbaaGreatDoor

/- Read: words. -/
namespace Go.Proofs.YtomndcjgdfhmbaaGreatDoor
open Go.RowKit

theorem NumGot.any {Lo : Option (List Nat)} {W w' : World} {r : Ending} (h : NumGot Lo W r w') : ∃ (v : Value) (L : List Nat), r = .returned (.tuple #[v, .bool Lo.isSome]) ∧ w'.ownsRow W.heap.size 22 1 v L.length (cellsU L) ∧ (Lo = some L ∨ (Lo = none ∧ L = [])) ∧ Below W.heap.size W w' := by
  unfold NumGot at h
  cases Lo with
  | none => exact ⟨.slice none 0 0, [], h.1, World.ownsRow_nil _ _ _ _, Or.inr ⟨rfl, rfl⟩, h.2⟩
  | some L =>
    obtain ⟨⟨v, hr, ho⟩, hb⟩ := h
    exact ⟨v, L, hr, ho, Or.inl rfl, hb⟩
theorem below_drewN (w : World) (n : Nat) : Below w.heap.size w (w.drewN n) := ⟨rfl, rfl, rfl, Nat.le_refl _, fun _ _ => rfl⟩
theorem cut_len (s sep : List UInt8) : (Lib.cut s sep).1.length ≤ s.length ∧ (Lib.cut s sep).2.1.length ≤ s.length := by
  unfold Lib.cut
  split
  · simp
    omega
  · simp
theorem orb8 {h x : Nat} (hh : h < 72057594037927936) (hx : x < 256) : bits .or .u64 ((h : Int) * 256) (x : Int) = ((h * 256 + x : Nat) : Int) := by
  have e := u64_or_nat (h * 256) x (by omega) (by omega)
  rw [show (h : Int) * 256 = ((h * 256 : Nat) : Int) by omega, e]
  have := Nat.shiftLeft_add_eq_or_of_lt (i := 8) (b := x) (by omega) h
  rw [Nat.shiftLeft_eq] at this
  rw [show (256 : Nat) = 2 ^ 8 from rfl, ← this]
theorem fold8_snoc (l : List Nat) (x : Nat) : fold8 (l ++ [x]) = fold8 l * 256 + x := by unfold fold8; rw [List.foldl_append]; rfl
theorem fold8_bound {l : List Nat} (h : ∀ x ∈ l, x < 256) (hl : l.length ≤ 4) : fold8 l < 4294967296 := by
  have := fold8_lt l 0 1 h (by decide)
  have h2 : 256 ^ l.length ≤ 256 ^ 4 := Nat.pow_le_pow_right (by decide) hl
  unfold fold8
  omega
def readV (o : Option Ad) : Value := match o with
  | none => .tuple #[.agg #[.bool false, .int .u64 0, .int .u64 0], .int .i64 8]
  | some a => .tuple #[.agg a.cells, .int .i64 0]
theorem textB_iff {a : Ad} {s : ByteArray} : textB a = s ↔ textL a = s.data.toList := by
  constructor
  · intro h; rw [← h]; unfold textB; simp
  · intro h
    unfold textB
    rw [h]
theorem num10 {v : World} (env : Env v) (s : ByteArray) (hs : s.size ≤ 100000) (c : UInt8) : Calls Tryz.prog 43 #[.string s, .string ⟨#[c]⟩, .int .i64 10, .int .u64 255] v (NumGot (numbersL c 10 256 s.data.toList) v) := numbers_any env s hs c 10 255 (by decide) (by decide) (fun v e t ht => pu10_64 e t ht)
theorem num16w {v : World} (env : Env v) (s : ByteArray) (hs : s.size ≤ 100000) (c : UInt8) : Calls Tryz.prog 43 #[.string s, .string ⟨#[c]⟩, .int .i64 16, .int .u64 65535] v (NumGot (numbersL c 16 65536 s.data.toList) v) := numbers_any env s hs c 16 65535 (by decide) (by decide) (fun v e t ht => pu16 e t ht)
end Go.Proofs.YtomndcjgdfhmbaaGreatDoor

/- The document's guess of IPv4: the walk. -/
namespace Go.Proofs.YtomndcjgdfhmbaaGreatDoor
open Go.RowKit

theorem split46 {w : World} (s : ByteArray) (hs : s.size ≤ 100000) : Calls Tryz.prog 55 #[.string s, .int .u8 46] w fun r w' => (∃ v, r = .returned v ∧ w'.ownsRow w.heap.size 9 1 v (split1 46 s.data.toList).length ((strs (split1 46 s.data.toList)).map Value.string)) ∧ Below w.heap.size w w' := split_any s hs 46 46 rfl
theorem split58 {w : World} (s : ByteArray) (hs : s.size ≤ 100000) : Calls Tryz.prog 55 #[.string s, .int .u8 58] w fun r w' => (∃ v, r = .returned v ∧ w'.ownsRow w.heap.size 9 1 v (split1 58 s.data.toList).length ((strs (split1 58 s.data.toList)).map Value.string)) ∧ Below w.heap.size w w' := split_any s hs 58 58 rfl
theorem split47 {w : World} (s : ByteArray) (hs : s.size ≤ 100000) : Calls Tryz.prog 55 #[.string s, .int .u8 47] w fun r w' => (∃ v, r = .returned v ∧ w'.ownsRow w.heap.size 9 1 v (split1 47 s.data.toList).length ((strs (split1 47 s.data.toList)).map Value.string)) ∧ Below w.heap.size w w' := split_any s hs 47 47 rfl
theorem digits10 {w : World} (t : List UInt8) (ht : t.length ≤ 100000) : Calls Tryz.prog 56 #[.string ⟨t.toArray⟩, .int .i64 10] w fun r w' => r = .returned (.int .i64 (digI 10 t)) ∧ w = w' := by
  have := digits_any (w := w) ⟨t.toArray⟩ (by rw [show (⟨t.toArray⟩ : ByteArray).size = t.length by simp [ByteArray.size]]; exact ht) 10 (by decide) (by decide)
  rw [show (⟨t.toArray⟩ : ByteArray).data.toList = t by simp] at this
  exact this
theorem digits16 {w : World} (t : List UInt8) (ht : t.length ≤ 100000) : Calls Tryz.prog 56 #[.string ⟨t.toArray⟩, .int .i64 16] w fun r w' => r = .returned (.int .i64 (digI 16 t)) ∧ w = w' := by
  have := digits_any (w := w) ⟨t.toArray⟩ (by rw [show (⟨t.toArray⟩ : ByteArray).size = t.length by simp [ByteArray.size]]; exact ht) 16 (by decide) (by decide)
  rw [show (⟨t.toArray⟩ : ByteArray).data.toList = t by simp] at this
  exact this
theorem digI_cases (base : Nat) (t : List UInt8) : (digI base t = -1 ∧ digV base t = 0) ∨ (∃ n : Nat, digI base t = (n : Int) ∧ digV base t = n) := by
  unfold digI digV
  cases digL base t with
  | none => exact Or.inl ⟨rfl, rfl⟩
  | some n => exact Or.inr ⟨n, rfl, rfl⟩
/- What a row of texts reads as. -/
theorem own_text {w : World} {base n g cap : Nat} {L : List (List UInt8)} (h : w.ownsRow base 9 1 (.slice (some ⟨g, 0, none⟩) n cap) n ((strs L).map Value.string)) (j : Nat) (hj : j < L.length) (hn : L.length = n) : w.cell? ⟨g, j, none⟩ = some (.string ⟨(L.getD j []).toArray⟩) := by
  rw [h.cellAt (g := g) j (by omega)]
  unfold strs
  rw [List.map_map, List.getElem?_map, List.getElem?_eq_getElem hj, List.getD_eq_getElem?_getD, List.getElem?_eq_getElem hj]
  rfl
theorem foldl_snoc {α β : Type} (f : α → β → α) (a : α) (l : List β) (k : Nat) (d : β) (hk : k < l.length) : (l.take (k + 1)).foldl f a = f ((l.take k).foldl f a) (l.getD k d) := by
  rw [List.take_succ_eq_append_getElem hk, List.foldl_append, List.getD_eq_getElem?_getD, List.getElem?_eq_getElem hk]
  rfl
def lo4R (l : List (List UInt8)) : Nat := l.foldl (fun h t => h * 256 + digV 10 t % 256) 0
theorem lo4R_lt (l : List (List UInt8)) : ∀ k, k ≤ l.length → lo4R (l.take k) < 256 ^ k := by
  intro k
  induction k with
  | zero => intro _; simp [lo4R]
  | succ k ih =>
    intro hk
    have := ih (by omega)
    unfold lo4R at this ⊢
    rw [foldl_snoc _ _ l k [] (by omega), Nat.pow_succ]
    have hm : digV 10 (l.getD k []) % 256 < 256 := Nat.mod_lt _ (by decide)
    omega

set_option maxHeartbeats 4000000 in
set_option maxRecDepth 100000 in
theorem guess_v4 {w : World} (s : ByteArray) (hs : s.size ≤ 100000) (h4 : (split1 46 s.data.toList).length = 4) : Calls Tryz.prog 54 #[.string s] w (Got (.agg #[.bool false, .int .u64 0, .int .u64 (lo4R (split1 46 s.data.toList) : Int)]) w) := by
  have hsp := fun v => split46 (w := v) s hs
  have hpl : ∀ t ∈ split1 46 s.data.toList, t.length ≤ 100000 := fun t ht => by
    have := split1_size ht
    have h2 : s.data.toList.length = s.size := (Lib.size_eq s).symm
    omega
  have hlt := lo4R_lt (split1 46 s.data.toList)
  generalize split1 46 s.data.toList = Q at hsp hpl h4 hlt ⊢
  obtain ⟨RV, hRV⟩ : ∃ v, v = lo4R Q := ⟨_, rfl⟩
  rw [← hRV]
  rw [h4] at hsp
  have Hsp := Lib.hid hsp
  have Hpl := Lib.hid hpl
  have H4 := Lib.hid h4
  have Hlt := Lib.hid hlt
  have HRV := Lib.hid hRV
  clear hsp hpl h4 hlt hRV
  have hB0 := Blk.new w 24 #[.bool false, .int .u64 0, .int .u64 0]
  have hb0 := boxed w (.cells #[.bool false, .int .u64 0, .int .u64 0] 24)
  go_enter Tryz.func54, Tryz.ntmps54
  go_wp2_with fail
  go_at_call 55
  refine (Hsp.out _).mono ?_
  rintro r w1 ⟨⟨v1, rfl, ho1⟩, g1⟩
  obtain ⟨g, cap, rfl⟩ := own_form ho1
  have hB1 := hB0.below g1 hB0.lt
  have hb1 := after hb0 g1
  have hgl := ho1.lt g rfl
  rw [show (w.alloc (.cells #[.bool false, .int .u64 0, .int .u64 0] 24)).heap.size = w.heap.size + 1 by simp] at hgl
  have hcell : ∀ j, j < 4 → w1.cell? ⟨g, j, none⟩ = some (.string ⟨(Q.getD j []).toArray⟩) := fun j hj => own_text ho1 j (by rw [H4.out]; exact hj) H4.out
  have hB2 := hB1.alloc (.cells #[.bool false, .int .u64 0, .int .u64 0] 24)
  have hD2 := Blk.new w1 24 #[.bool false, .int .u64 0, .int .u64 0]
  have hb2 := after hb1 (boxed w1 (.cells #[.bool false, .int .u64 0, .int .u64 0] 24))
  have hcell2 : ∀ j, j < 4 → (w1.alloc (.cells #[.bool false, .int .u64 0, .int .u64 0] 24)).cell? ⟨g, j, none⟩ = some (.string ⟨(Q.getD j []).toArray⟩) := fun j hj => (World.cell?_alloc_lt w1 _ _ (by show g < _; omega)).trans (hcell j hj)
  have hw1 : w.heap.size < w1.heap.size := hB1.lt
  have HB2 := Lib.hid hB2
  have HD2 := Lib.hid hD2
  have Hb2 := Lib.hid hb2
  have Hcell := Lib.hid hcell2
  clear hB0 hb0 hB1 hb1 hB2 hD2 hb2 hcell hcell2 ho1 g1
  go_wp2_with fail
  go_loopw [5] (fun v5 wr => ∃ k : Nat, k ≤ 4 ∧ v5 = .int .i64 (k : Int) ∧ RowKit.Hid (Blk wr w.heap.size 24 #[.bool false, .int .u64 0, .int .u64 0]) ∧ RowKit.Hid (Blk wr w1.heap.size 24 #[.bool false, .int .u64 0, .int .u64 (lo4R (Q.take k) : Int)]) ∧ RowKit.Hid (∀ j, j < 4 → wr.cell? ⟨g, j, none⟩ = some (.string ⟨(Q.getD j []).toArray⟩)) ∧ RowKit.Hid (Below w.heap.size w wr)) (fun v5 _ => 4 - (intOf v5).toNat)
  case atStart => exact ⟨0, by omega, rfl, HB2, HD2, Hcell, Hb2⟩
  case round =>
    obtain ⟨k, hk, rfl, hB, hD, hr, hb⟩ := hrel
    by_cases hlt : k < 4
    · have hkl : k < Q.length := by have := H4.out; omega
      have cx := hr.out k hlt
      have hnx : lo4R (Q.take (k + 1)) = lo4R (Q.take k) * 256 + digV 10 (Q.getD k []) % 256 := foldl_snoc _ _ Q k [] hkl
      have hbd := Hlt.out k (by omega)
      have hbd2 : lo4R (Q.take k) < 16777216 := Nat.lt_of_lt_of_le hbd (Nat.le_trans (Nat.pow_le_pow_right (by decide) (show k ≤ 3 by omega)) (by decide))
      have htl : (Q.getD k []).length ≤ 100000 := by
        rw [List.getD_eq_getElem?_getD, List.getElem?_eq_getElem hkl]
        exact Hpl.out _ (List.getElem_mem hkl)
      have hdc := digI_cases 10 (Q.getD k [])
      have HD10 := Lib.hid (digits10 (w := wr) (Q.getD k []) htl)
      have hr' := fun (u : Value) j (hj : j < 4) => (cell_far (w := wr) (a := ⟨w1.heap.size, 2, none⟩) (c := ⟨g, j, none⟩) (u := u) (by show w1.heap.size ≠ g; omega)).trans (hr.out j hj)
      have Hr' := Lib.hid hr'
      obtain ⟨LO, hLO⟩ : ∃ n, n = lo4R (Q.take k) := ⟨_, rfl⟩
      have hD' := hD.out
      rw [← hLO] at hnx hbd2 hD'
      have a2 := hD'.cell 2
      have fr := fun i => hD'.frozen i
      simp at a2
      have HD' := Lib.hid hD'
      have HLO := Lib.hid hLO
      have hdv : digV 10 (Q.getD k []) < 65536 := Nat.lt_of_lt_of_le (digV_lt 10 (by decide) _) (by decide)
      generalize digI 10 (Q.getD k []) = DI at HD10 hdc
      generalize digV 10 (Q.getD k []) = DV at hnx hdc hdv
      generalize (Q.getD k []) = T at cx HD10
      have hw : IntKind.u64.wrap ((LO : Int) * 256) = (LO : Int) * 256 := by rw [IntKind.wrap_u64]; omega
      clear hbd htl hr' hD' hLO
      rcases hdc with ⟨rfl, rfl⟩ | ⟨n, rfl, rfl⟩
      · have hval : IntKind.u64.wrap ((LO : Int) * 256 + bits .and .u64 (max (-1) 0) 255) = ((LO * 256 + 0 % 256 : Nat) : Int) := by
          have hand : bits .and .u64 (max (-1) 0) 255 = 0 := by kernel_rfl
          rw [hand, IntKind.wrap_u64]
          omega
        have Hnx := Lib.hid hnx
        have Hval := Lib.hid hval
        clear hnx hval
        go_wp2_with (go_at_call 56; (with_reducible refine HD10.out.mono ?_); rintro r wf ⟨rfl, rfl⟩)
        go_roundw
        case rel =>
          rw [Hval.out]
          exact ⟨k + 1, by omega, by go_num, Lib.hid (hB.out.far (p := ⟨w1.heap.size, 2, none⟩) (by show w.heap.size ≠ w1.heap.size; omega) _), Lib.hid (by rw [Hnx.out]; exact HD'.out.set_ 2 _), Lib.hid (Hr'.out _), Lib.hid (hb.out.setCell (p := ⟨w1.heap.size, 2, none⟩) (by show w.heap.size ≤ w1.heap.size; omega) _)⟩
        case measure => simp [intOf]; omega
      · have hmax : max (DV : Int) 0 = (DV : Int) := by omega
        have hval : IntKind.u64.wrap ((LO : Int) * 256 + bits .and .u64 (DV : Int) 255) = ((LO * 256 + DV % 256 : Nat) : Int) := by
          rw [and255 DV (by omega), IntKind.wrap_u64]
          omega
        have Hnx := Lib.hid hnx
        have Hval := Lib.hid hval
        clear hnx hval
        go_wp2_with (go_at_call 56; (with_reducible refine HD10.out.mono ?_); rintro r wf ⟨rfl, rfl⟩)
        go_roundw
        case rel =>
          rw [Hval.out]
          exact ⟨k + 1, by omega, by go_num, Lib.hid (hB.out.far (p := ⟨w1.heap.size, 2, none⟩) (by show w.heap.size ≠ w1.heap.size; omega) _), Lib.hid (by rw [Hnx.out]; exact HD'.out.set_ 2 _), Lib.hid (Hr'.out _), Lib.hid (hb.out.setCell (p := ⟨w1.heap.size, 2, none⟩) (by show w.heap.size ≤ w1.heap.size; omega) _)⟩
        case measure => simp [intOf]; omega
    · obtain rfl : k = 4 := by omega
      have hDD := hD.out
      rw [show Q.take 4 = Q from List.take_of_length_le (by have := H4.out; omega), ← HRV.out] at hDD
      have a0 := hDD.cell 0
      have a1 := hDD.cell 1
      have a2 := hDD.cell 2
      simp at a0 a1 a2
      have c0 := hB.out.cell 0
      have c1 := hB.out.cell 1
      have c2 := hB.out.cell 2
      simp at c0 c1 c2
      have fr := fun i => hB.out.frozen i
      clear hDD
      go_wp2_with fail
      exact bodyPost_ret (results_c (x := 2) rfl rfl (load_ad (three hB.out hb.out (Nat.le_refl _)).1)) rfl ⟨rfl, (three hB.out hb.out (Nat.le_refl _)).2⟩
end Go.Proofs.YtomndcjgdfhmbaaGreatDoor
