/- Joined out of: SpR WhA IpE IpJ. -/
import Derived.Test.YtomndcjgdfhmbaaGreatDoorJac
import Derived.Test.YtomndcjgdfhmbaaGreatDoorJad
import Derived.Test.YtomndcjgdfhmbaaGreatDoorJae
import Derived.Deep.RegionHeld3
import Derived.Deep.DrawnRows
import Derived.Laws.CopyOwn
set_option linter.unusedVariables false
set_option linter.unusedSimpArgs false

/- The document's split, digits: the walks. -/
namespace Go.Proofs.YtomndcjgdfhmbaaGreatDoor
open Go.RowKit

def glue (cur : List UInt8) : List (List UInt8) → List (List UInt8)
  | [] => [cur]
  | h :: t => (cur ++ h) :: t
theorem glue_nil (l : List (List UInt8)) (h : l ≠ []) : glue [] l = l := by
  cases l with
  | nil => exact absurd rfl h
  | cons a t => rfl
theorem glue_hit (c : UInt8) (cur l : List UInt8) : glue cur (split1 c (c :: l)) = [cur] ++ glue [] (split1 c l) := by
  rw [glue_nil _ (split1_ne c l)]
  conv => lhs; arg 2; unfold split1
  rw [if_pos rfl]
  simp [glue]
theorem glue_miss {c b : UInt8} (h : b ≠ c) (cur l : List UInt8) : glue cur (split1 c (b :: l)) = glue (cur ++ [b]) (split1 c l) := by
  conv => lhs; arg 2; unfold split1
  rw [if_neg h]
  cases e : split1 c l with
  | nil => exact absurd e (split1_ne c l)
  | cons a t => simp [glue]
theorem glue_end (c : UInt8) (cur : List UInt8) : glue cur (split1 c []) = [cur] := by simp [split1, glue]

theorem strs_app (L : List (List UInt8)) (x : ByteArray) (l : List UInt8) (h : x.data.toList = l) : (strs (L ++ [l])).map Value.string = (strs L).map Value.string ++ [.string x] := by
  rw [strs_snoc, ← h]

set_option maxHeartbeats 4000000 in
set_option maxRecDepth 100000 in
theorem split_any {w : World} (s : ByteArray) (hs : s.size ≤ 100000) (c : UInt8) (cn : Nat) (hcn : c.toNat = cn) : Calls Tryz.prog 55 #[.string s, .int .u8 (cn : Int)] w fun r w' => (∃ v, r = .returned v ∧ w'.ownsRow w.heap.size 9 1 v (split1 c s.data.toList).length ((strs (split1 c s.data.toList)).map Value.string)) ∧ Below w.heap.size w w' := by
  obtain ⟨i0, hi, hz0, hz1, hz2⟩ := info_parts info_str
  have hsl : s.data.toList.length = s.size := (Lib.size_eq s).symm
  obtain ⟨SP, hSP⟩ : ∃ l, l = split1 c s.data.toList := ⟨_, rfl⟩
  rw [← hSP]
  have HSP := Lib.hid hSP
  have Hcn := Lib.hid hcn
  have Hsl := Lib.hid hsl
  clear hSP hcn hsl
  go_enter Tryz.func55, Tryz.ntmps55
  go_wp2_with fail
  go_loopw [5, 6, 7] (fun v5 v6 v7 wr => ∃ (k from_ : Nat) (done : List (List UInt8)) (A : Option Addr) (cap : Nat), k ≤ s.size + 1 ∧ v7 = .int .i64 (k : Int) ∧ v6 = .int .i64 (from_ : Int) ∧ v5 = .slice A done.length cap ∧ done.length ≤ k ∧ from_ ≤ k ∧ RowKit.Hid (k ≤ s.size → SP = done ++ glue ((s.data.toList.take k).drop from_) (split1 c (s.data.toList.drop k))) ∧ RowKit.Hid (k = s.size + 1 → SP = done) ∧ RowKit.Hid (wr.ownsRow w.heap.size 9 1 (.slice A done.length cap) done.length ((strs done).map Value.string)) ∧ RowKit.Hid (Below w.heap.size w wr)) (fun _ _ v7 _ => s.size + 1 - (intOf v7).toNat)
  case atStart => exact ⟨0, 0, [], none, 0, by omega, rfl, rfl, rfl, by simp, by omega, Lib.hid (fun _ => by rw [HSP.out]; simp [glue_nil _ (split1_ne _ _)]), Lib.hid (fun h => by omega), Lib.hid (World.ownsRow_nil _ _ _ _), Lib.hid (Below.refl _ _)⟩
  case round =>
    obtain ⟨k, from_, done, A, cap, hk, rfl, rfl, rfl, hdl, hfk, hin, hend, hown, hb⟩ := hrel
    by_cases hlt : k ≤ s.size
    · have hlt' : (k : Int) ≤ (s.size : Int) := by omega
      have hsz := hb.out.size
      have hpiece : (s.extract from_ k).data.toList = (s.data.toList.take k).drop from_ := by
        rw [ByteArray.data_extract, Array.toList_extract, List.extract_eq_take_drop, List.take_drop]
        congr 2
        omega
      have hsnoc := strs_app done (s.extract from_ k) _ hpiece
      have hinn := hin.out hlt
      have Hsn := Lib.hid hsnoc
      have Hin := Lib.hid hinn
      clear hin hend hpiece hsnoc hinn
      have hfk' : (from_ : Int) ≤ (k : Int) := by omega
      by_cases he : k = s.size
      · subst he
        have hsnext : SP = (done ++ [(s.data.toList.take s.size).drop from_]) := by
          rw [Hin.out]
          have hd : s.data.toList.drop s.size = [] := List.drop_of_length_le (by have := Hsl.out; omega)
          rw [hd, glue_end]
        have Hnext := Lib.hid hsnext
        clear hsnext
        go_wp2_with (at_builtin; refine wpList_append_own _ rfl _ _ 68 rfl w.heap.size 9 i0 (.string ByteArray.empty) 1 16 Tryz.underlying68 hi hz0 hz1 hz2 rfl (by decide) _ done.length _ rfl (hown.out.alloc _) ⟨wr.heap.size, 0, none⟩ 1 1 [.string (s.extract from_ s.size)] rfl rfl (cell_one_new _ _ _) (fun x hx => by simp at hx; subst hx; rfl) (by unfold maxLen; omega) (by omega) (by simp; omega) ?_; intro v' w3 hown' hgrow3 hnil3; have Ho3 := Lib.hid hown'; have hb3 := Lib.hid ((hb.out.alloc (hb.out.size) _).grown hgrow3 (by simp; omega) (fun q hq => (hown.out.lt q hq).1)); clear hown' hgrow3 hnil3)
        obtain ⟨A', cap', rfl⟩ := own_shape Ho3.out
        go_roundw
        case rel => exact ⟨s.size + 1, s.size + 1, done ++ [(s.data.toList.take s.size).drop from_], A', cap', by omega, by go_num, by go_num, by rw [List.length_append]; rfl, by rw [List.length_append, List.length_singleton]; omega, by omega, Lib.hid (fun h => by omega), Lib.hid (fun _ => Hnext.out), Lib.hid (by rw [List.length_append, Hsn.out]; exact Ho3.out), hb3⟩
        case measure => simp [intOf]
      · have he' : ((k : Int) == (s.size : Int)) = false := by simp; omega
        have hks : k < s.size := by omega
        have hkl : k < s.data.toList.length := by have := Hsl.out; omega
        have hdrop : s.data.toList.drop k = (s[k]'hks) :: s.data.toList.drop (k + 1) := by
          rw [List.drop_eq_getElem_cons hkl]
          rfl
        have htake : (s.data.toList.take (k + 1)).drop from_ = (s.data.toList.take k).drop from_ ++ [s[k]'hks] := by
          rw [List.take_succ_eq_append_getElem hkl, List.drop_append_of_le_length (by rw [List.length_take]; omega)]
          rfl
        obtain ⟨b, hbk⟩ : ∃ b, b = s[k]'hks := ⟨_, rfl⟩
        rw [← hbk] at hdrop htake
        have hx : (s[k]'hks).toNat = b.toNat := by rw [hbk]
        have Hdrop := Lib.hid hdrop
        have Htake := Lib.hid htake
        clear hdrop htake hbk
        by_cases hc : b.toNat = cn
        · have hcc : b = c := by apply UInt8.toNat_inj.1; rw [hc, Hcn.out]
          have hq : ((b.toNat : Int) == (cn : Int)) = true := by simp; omega
          have Hcc := Lib.hid hcc
          clear hc hcc
          generalize b.toNat = X at hx hq
          have hsnext : SP = (done ++ [(s.data.toList.take k).drop from_]) ++ glue [] (split1 c (s.data.toList.drop (k + 1))) := by
            rw [Hin.out]
            rw [Hdrop.out, Hcc.out, glue_hit, List.append_assoc]
          have Hnext := Lib.hid hsnext
          clear hsnext
          go_wp2_with (at_builtin; refine wpList_append_own _ rfl _ _ 68 rfl w.heap.size 9 i0 (.string ByteArray.empty) 1 16 Tryz.underlying68 hi hz0 hz1 hz2 rfl (by decide) _ done.length _ rfl (hown.out.alloc _) ⟨wr.heap.size, 0, none⟩ 1 1 [.string (s.extract from_ k)] rfl rfl (cell_one_new _ _ _) (fun x hx => by simp at hx; subst hx; rfl) (by unfold maxLen; omega) (by omega) (by simp; omega) ?_; intro v' w3 hown' hgrow3 hnil3; have Ho3 := Lib.hid hown'; have hb3 := Lib.hid ((hb.out.alloc (hb.out.size) _).grown hgrow3 (by simp; omega) (fun q hq => (hown.out.lt q hq).1)); clear hown' hgrow3 hnil3)
          obtain ⟨A', cap', rfl⟩ := own_shape Ho3.out
          go_roundw
          case rel => exact ⟨k + 1, k + 1, done ++ [(s.data.toList.take k).drop from_], A', cap', by omega, by go_num, by go_num, by rw [List.length_append]; rfl, by rw [List.length_append, List.length_singleton]; omega, by omega, Lib.hid (fun h => by
            have hd2 : (s.data.toList.take (k + 1)).drop (k + 1) = [] := List.drop_of_length_le (by rw [List.length_take]; omega)
            rw [hd2]; exact Hnext.out), Lib.hid (fun h => by omega), Lib.hid (by rw [List.length_append, Hsn.out]; exact Ho3.out), hb3⟩
          case measure => simp [intOf]; omega
        · have hcc : b ≠ c := fun e => hc (by rw [e]; exact Hcn.out)
          have hq : ((b.toNat : Int) == (cn : Int)) = false := by simp; omega
          have hnext : SP = done ++ glue ((s.data.toList.take (k + 1)).drop from_) (split1 c (s.data.toList.drop (k + 1))) := by
            rw [Hin.out, Hdrop.out, glue_miss hcc, Htake.out]
          have Hnext := Lib.hid hnext
          clear hc hcc hnext
          generalize b.toNat = X at hx hq
          go_wp2_with fail
          go_roundw
          case rel => exact ⟨k + 1, from_, done, A, cap, by omega, by go_num, rfl, rfl, by omega, by omega, Lib.hid (fun _ => Hnext.out), Lib.hid (fun h => by omega), hown, hb⟩
          case measure => simp [intOf]; omega
    · have hlt' : ¬ (k : Int) ≤ (s.size : Int) := by omega
      have hend2 := hend.out (by omega)
      have Hend := Lib.hid hend2
      clear hend hin hend2
      go_wp2_with fail
      go_ret
      exact ⟨⟨.slice A done.length cap, rfl, by rw [Hend.out]; exact hown.out⟩, hb.out⟩

/- digits. -/
def digI (base : Nat) (l : List UInt8) : Int := match digL base l with
  | none => -1
  | some n => (n : Int)
theorem pval_cons (dv : UInt8 → Option Nat) (base acc : Nat) (c : UInt8) (r : List UInt8) : pval dv base acc (c :: r) = match dv c with
    | none => none
    | some d => pval dv base (acc * base + d) r := by
  conv => lhs; unfold pval
  cases dv c <;> rfl
theorem dvalR_cases (base : Nat) (c : UInt8) : dvalR base c = if 48 ≤ c.toNat ∧ c.toNat ≤ 57 then (if c.toNat - 48 < base then some (c.toNat - 48) else none) else if 97 ≤ c.toNat ∧ c.toNat ≤ 102 then (if c.toNat - 87 < base then some (c.toNat - 87) else none) else none := rfl

set_option maxHeartbeats 4000000 in
set_option maxRecDepth 100000 in
theorem digits_any {w : World} (s : ByteArray) (hs : s.size ≤ 100000) (base : Nat) (hbase : base ≤ 16) (hb10 : 10 ≤ base) : Calls Tryz.prog 56 #[.string s, .int .i64 (base : Int)] w fun r w' => r = .returned (.int .i64 (digI base s.data.toList)) ∧ w = w' := by
  have hsl : s.data.toList.length = s.size := (Lib.size_eq s).symm
  by_cases hbad : s.size < 1 ∨ 4 < s.size
  · have e : digI base s.data.toList = -1 := by unfold digI digL; rw [hsl, if_pos hbad]
    rw [e]
    clear e hsl
    by_cases h1 : s.size < 1
    · have h1' : (s.size : Int) < 1 := by omega
      clear hbad
      go_enter Tryz.func56, Tryz.ntmps56
      go_wp2_with fail
      go_ret
      exact ⟨rfl, rfl⟩
    · have h1' : ¬ (s.size : Int) < 1 := by omega
      have h2' : (4 : Int) < (s.size : Int) := by omega
      clear hbad
      go_enter Tryz.func56, Tryz.ntmps56
      go_wp2_with fail
      go_ret
      exact ⟨rfl, rfl⟩
  have hp : digL base s.data.toList = pval (dvalR base) base 0 s.data.toList := by unfold digL; rw [hsl, if_neg hbad]
  obtain ⟨DI, hDI⟩ : ∃ d, d = digI base s.data.toList := ⟨_, rfl⟩
  rw [← hDI]
  unfold digI at hDI
  rw [hp] at hDI
  have HDI := Lib.hid hDI
  have Hsl := Lib.hid hsl
  have h1' : ¬ (s.size : Int) < 1 := by omega
  have h2' : ¬ (4 : Int) < (s.size : Int) := by omega
  have h4 : s.size ≤ 4 := by omega
  clear hDI hp hsl hbad
  go_enter Tryz.func56, Tryz.ntmps56
  go_wp2_with fail
  go_loop [5, 6] (fun v5 v6 => ∃ k n : Nat, k ≤ s.size ∧ v6 = .int .i64 (k : Int) ∧ v5 = .int .i64 (n : Int) ∧ n < 16 ^ k ∧ RowKit.Hid (pval (dvalR base) base 0 s.data.toList = pval (dvalR base) base n (s.data.toList.drop k))) (fun _ v6 => s.size - (intOf v6).toNat)
  case atStart => exact ⟨0, 0, by omega, rfl, rfl, by decide, Lib.hid rfl⟩
  case round =>
    obtain ⟨k, n, hk, rfl, rfl, hn, hd⟩ := hrel
    have hn16 : n < 65536 := Nat.lt_of_lt_of_le hn (Nat.le_trans (Nat.pow_le_pow_right (by decide) (show k ≤ 4 by omega)) (by decide))
    by_cases hlt : k < s.size
    · have hkl : k < s.data.toList.length := by have := Hsl.out; omega
      have hdrop : s.data.toList.drop k = (s[k]'hlt) :: s.data.toList.drop (k + 1) := by
        rw [List.drop_eq_getElem_cons hkl]
        rfl
      have hd2 := hd.out
      rw [hdrop, pval_cons] at hd2
      obtain ⟨b, hbk⟩ : ∃ b, b = s[k]'hlt := ⟨_, rfl⟩
      rw [← hbk, dvalR_cases] at hd2
      have hx : (s[k]'hlt).toNat = b.toNat := by rw [hbk]
      have hb256 := b.toNat_lt
      generalize b.toNat = X at hx hd2 hb256
      obtain ⟨P, hP⟩ : ∃ p, p = n * base := ⟨_, rfl⟩
      have hPi : (n : Int) * (base : Int) = (P : Int) := by rw [hP]; simp
      have hPb : P + 16 ≤ 16 ^ (k + 1) := by
        have h1 : n * base ≤ n * 16 := Nat.mul_le_mul_left _ hbase
        rw [Nat.pow_succ, hP]
        omega
      have hP2 : P ≤ 1048576 := by
        have h1 : n * base ≤ n * 16 := Nat.mul_le_mul_left _ hbase
        omega
      rw [← hP] at hd2
      clear hP hdrop hbk hd
      by_cases hd1 : 48 ≤ X ∧ X ≤ 57
      · rw [if_pos hd1, if_pos (by omega)] at hd2
        simp only at hd2
        have Hd2 := Lib.hid hd2
        obtain ⟨g1, g2⟩ := hd1
        have g3 : (X : Int) - 48 < (base : Int) := by omega
        have g4 : ¬ 97 ≤ X := by omega
        have HPb := Lib.hid hPb
        clear hd2 hPb
        go_wp2_with fail
        go_round
        case rel => exact ⟨k + 1, P + (X - 48), by omega, by go_num, by congr 1; omega, by have := HPb.out; omega, Hd2⟩
        case measure => simp [intOf]; omega
      · rw [if_neg hd1] at hd2
        have g0 : ¬ 48 ≤ X ∨ (48 ≤ X ∧ ¬ X ≤ 57) := by omega
        clear hd1
        by_cases hd1 : 97 ≤ X ∧ X ≤ 102
        · rw [if_pos hd1] at hd2
          obtain ⟨g1, g2⟩ := hd1
          have g5 : 48 ≤ X := by omega
          have g6 : ¬ X ≤ 57 := by omega
          clear g0
          by_cases hb : X - 87 < base
          · rw [if_pos hb] at hd2
            simp only at hd2
            have Hd2 := Lib.hid hd2
            have g3 : (X : Int) - 97 + 10 < (base : Int) := by omega
            have HPb := Lib.hid hPb
            clear hd2 hPb hb
            go_wp2_with fail
            go_round
            case rel => exact ⟨k + 1, P + (X - 87), by omega, by go_num, by congr 1; omega, by have := HPb.out; omega, Hd2⟩
            case measure => simp [intOf]; omega
          · rw [if_neg hb] at hd2
            have hbad : DI = -1 := by rw [HDI.out, hd2]
            have Hbad := Lib.hid hbad
            have g3 : ¬ (X : Int) - 97 + 10 < (base : Int) := by omega
            have g7 : (base : Int) ≤ (X : Int) - 97 + 10 := by omega
            clear hd2 hPb hb hbad
            go_wp2_with fail
            go_ret
            exact ⟨show Ending.returned (.int .i64 (-1)) = _ by rw [Hbad.out], rfl⟩
        · rw [if_neg hd1] at hd2
          have hbad : DI = -1 := by rw [HDI.out, hd2]
          have Hbad := Lib.hid hbad
          have g1 : ¬ 97 ≤ X ∨ (97 ≤ X ∧ ¬ X ≤ 102) := by omega
          clear hd2 hPb hd1 hbad
          rcases g0 with g0 | ⟨g0, g0'⟩
          all_goals rcases g1 with g1 | ⟨g1, g1'⟩
          all_goals first
            | (exfalso; omega)
            | (go_wp2_with fail
               go_ret
               exact ⟨show Ending.returned (.int .i64 (-1)) = _ by rw [Hbad.out], rfl⟩)
    · have hkk : k = s.size := by omega
      have hend : DI = (n : Int) := by
        rw [HDI.out, hd.out, List.drop_of_length_le (by have := Hsl.out; omega)]
        rfl
      have Hend := Lib.hid hend
      clear hend hd hkk
      go_wp2_with fail
      go_ret
      exact ⟨show Ending.returned (.int .i64 (n : Int)) = _ by rw [Hend.out], rfl⟩
end Go.Proofs.YtomndcjgdfhmbaaGreatDoor

/- append of noughts ('append(x, make([]T, k)...)'), of nothing; slices.Clone: the laws, the walk. -/
namespace Go.Proofs.YtomndcjgdfhmbaaGreatDoor
open Go.RowKit

theorem zeroCells_one (z : Value) (hz : z.cells = #[z]) (k : Nat) : Builtin.zeroCells z.cells k = (List.replicate k z).toArray := by
  unfold Builtin.zeroCells
  rw [hz]
  apply Array.ext
  · simp
  · intro i h1 h2
    simp
    have : i % 1 = 0 := Nat.mod_one i
    simp [this]

section
variable {P : Program} (w : World)
theorem run_append_make (base : Nat) (t tx ty e : TypeId) (i : TypeInfo) (z : Value) (ht : P.underlying t = some (.slice e)) (hx : P.underlying tx = some (.int .i64)) (hi : P.info? e = some i) (hz : i.zero = some z)
    (hsize : i.size = 1) (hby : i.bytes = 8) (hzc : z.cells = #[z]) (hz1 : z.oneCell' = true)
    (v : Value) (n : Nat) (xs : List Value) (hown : w.ownsRow base e 1 v n xs) (k : Nat) (hk : k ≤ 1000) (hn : n ≤ 1000) (hbase : base ≤ w.heap.size) :
    ∃ v' w', (Builtin.append_ #[t, tx] ty #[v, .int .i64 (k : Int)]).run P w = .ok v' w' ∧ w'.ownsRow base e 1 v' (n + k) (xs ++ List.replicate k z) ∧ w.grownBy w' v.ownBlock := by
  have hwr : IntKind.i64.wrap (k : Int) = (k : Int) := by rw [IntKind.wrap_i64]; omega
  have hw0 : IntKind.i64.wrap 0 = 0 := by rw [IntKind.wrap_i64]; decide
  have hneg : ¬ ((k : Int) < 0) := by omega
  have hbig : ¬ (281474976710656 < (k : Int) * 8) := by omega
  have hlen : (xs ++ List.replicate k z).length = (n + k) * 1 := by rw [List.length_append, hown.1, List.length_replicate]; omega
  have grown : ∀ (old : Nat), old < n + k → ∀ (row : Option Nat),
      (w.drew.alloc (.cells (xs.toArray ++ (List.replicate k z).toArray ++ Builtin.zeroCells z.cells (grownCap w (n + k) old e - (n + k))) e)).ownsRow base e 1
        (.slice (some ⟨w.heap.size, 0, none⟩) (n + k) (grownCap w (n + k) old e)) (n + k) (xs ++ List.replicate k z) ∧
      w.grownBy (w.drew.alloc (.cells (xs.toArray ++ (List.replicate k z).toArray ++ Builtin.zeroCells z.cells (grownCap w (n + k) old e - (n + k))) e)) row := by
    intro old ho row
    have hge := grownCap_ge w (n + k) old e
    have hcm : grownCap w (n + k) old e ≤ maxLen := grownCap_le_maxLen w (n + k) old e (by simp only [maxLen]; omega)
    refine ⟨⟨hlen, .inr ⟨w.heap.size, _, _, rfl, hbase, heap_alloc_new w.drew _, hge, hcm, ?_, ?_⟩⟩, ⟨rfl, rfl, rfl, by simp, fun q hq _ => (Below.heap_alloc w.drew _ q hq)⟩⟩
    · simp only [Array.size_append, List.size_toArray, size_zeroCells, hzc, hown.1, List.length_replicate]
      simp
      omega
    · simp only [Array.toList_append, List.append_assoc]
      rw [← List.append_assoc, ← hlen]
      exact List.take_left
  have h63 : ¬ (9223372036854775807 < ((n : Int) + (k : Int))) := by omega
  rcases hown.2 with ⟨rfl, rfl⟩ | ⟨g, cap, cur, rfl, hbg, hg, hnc, hcm, hcs, htake⟩
  · have hx0 : xs = [] := List.eq_nil_of_length_eq_zero (by simpa using hown.1)
    subst hx0
    by_cases hm : k = 0
    · subst hm
      refine ⟨.slice none 0 0, w, ?_, World.ownsRow_nil w base e 1, ⟨rfl, rfl, rfl, Nat.le_refl _, fun _ _ _ => rfl⟩⟩
      simp [Builtin.append_, run_underlying ht, run_underlying hx, sizeOf, typeInfo, hi, asInt, asIntOf, hwr, hw0]
    · have hm0 : ¬ k ≤ 0 := by omega
      have h48' : ¬ (281474976710656 < Builtin.nextslicecap k 0 * 8) := by rw [nextslicecap_zero (by omega)]; omega
      have h63' : ¬ (9223372036854775807 < (k : Int)) := by omega
      have hgr := grown 0 (by omega) (Value.ownBlock (.slice none 0 0))
      simp only [Nat.zero_add, List.nil_append, Array.empty_append] at hgr ⊢
      refine ⟨_, _, ?_, hgr.1, hgr.2⟩
      simp [Builtin.append_, run_underlying ht, run_underlying hx, sizeOf, typeInfo, zeroValue, hi, hz, hsize, hby, asInt, asIntOf, hwr, hneg, hbig, hm, h63', h48', Question.forced, run_firstCells_none, newRow, grownCap, zeroCells_one z hzc]
  · by_cases hroom : n + k ≤ cap
    · have hst := run_storeCells_at P g n e (List.replicate k z) 0 cur w hg (by simp only [List.length_replicate]; omega) (fun u hu => by rw [(List.mem_replicate.1 hu).2]; exact hz1)
      simp only [Nat.add_zero] at hst
      have hadd : (⟨g, 0, none⟩ : Addr).add n = ⟨g, n, none⟩ := by unfold Addr.add; split <;> simp_all
      refine ⟨.slice (some ⟨g, 0, none⟩) (n + k) cap, _, ?_, ⟨hlen, .inr ⟨g, cap, _, rfl, hbg, setRow_heap w g cur (cur.toList.take n ++ List.replicate k z ++ cur.toList.drop (n + (List.replicate k z).length)).toArray e _ hg, hroom, hcm, ?_, ?_⟩⟩, ⟨rfl, rfl, rfl, by simp, fun q _ hq => setRow_other w g q _ (fun e => hq (by simp [Value.ownBlock, e]))⟩⟩
      · by_cases hm : k = 0
        · subst hm
          simp at hst
          simp [Builtin.append_, run_underlying ht, run_underlying hx, sizeOf, typeInfo, zeroValue, hi, hz, hsize, hby, asInt, asIntOf, hw0, hroom, hadd, hst]
          intro h
          omega
        · simp [Builtin.append_, run_underlying ht, run_underlying hx, sizeOf, typeInfo, zeroValue, hi, hz, hsize, hby, asInt, asIntOf, hwr, hneg, hbig, hm, hroom, hadd, zeroCells_one z hzc, hst]
      · simp only [List.size_toArray, List.length_append, List.length_take, List.length_drop, Array.length_toList, List.length_replicate]
        omega
      · have e : cur.toList.take n = xs := by rw [← htake, Nat.mul_one]
        rw [e, ← hlen]
        exact List.take_left
    · have holds : ∀ j u, xs[j]? = some u → w.cell? ((⟨g, 0, none⟩ : Addr).add j) = some u := hown.cells (g := g) rfl
      have hm : k ≠ 0 := by omega
      have hfit := growslice_fits (old := cap) (need := n + k) (bytes := 8) (by omega) (by omega)
      have h48' : ¬ (281474976710656 < Builtin.nextslicecap (n + k) cap * 8) := by omega
      have hfo := run_firstCells_some (P := P) w.drew 1 n ⟨g, 0, none⟩ n cap xs hown.1 (by simpa using holds)
      have hgr := grown cap (by omega) (Value.ownBlock (.slice (some ⟨g, 0, none⟩) n cap))
      refine ⟨_, _, ?_, hgr.1, hgr.2⟩
      simp [Builtin.append_, run_underlying ht, run_underlying hx, sizeOf, typeInfo, zeroValue, hi, hz, hsize, hby, asInt, asIntOf, hwr, hneg, hbig, hm, hroom, h63, h48', Question.forced, hfo, newRow, grownCap, zeroCells_one z hzc]

theorem run_append_none (base : Nat) (t ty e : TypeId) (i : TypeInfo) (ht : P.underlying t = some (.slice e)) (hi : P.info? e = some i) (hsize : i.size = 1)
    (v : Value) (n : Nat) (xs : List Value) (hown : w.ownsRow base e 1 v n xs) : (Builtin.append_ #[t, t] ty #[v, .slice none 0 0]).run P w = .ok v w := by
  rcases hown.2 with ⟨rfl, rfl⟩ | ⟨g, cap, cur, rfl, hbg, hg, hnc, hcm, hcs, htake⟩
  · simp [Builtin.append_, run_underlying ht, sizeOf, typeInfo, hi, Builtin.lenOf, Builtin.firstCells]
  · simp [Builtin.append_, run_underlying ht, sizeOf, typeInfo, hi, hsize, Builtin.lenOf, Builtin.firstCells, storeCells, hnc]
theorem run_append_two (base base2 : Nat) (t ty e : TypeId) (i : TypeInfo) (z : Value) (ht : P.underlying t = some (.slice e)) (hi : P.info? e = some i) (hz : i.zero = some z)
    (hsize : i.size = 1) (hby : i.bytes = 8) (hzs : z.cells.size = 1)
    (v : Value) (n : Nat) (xs : List Value) (hown : w.ownsRow base e 1 v n xs) (u : Value) (m : Nat) (ys : List Value) (hown2 : w.ownsRow base2 e 1 u m ys) (h1 : ∀ y ∈ ys, y.oneCell' = true) (hn : n ≤ 1000) (hm : m ≤ 1000) (hbase : base ≤ w.heap.size) :
    ∃ v' w', (Builtin.append_ #[t, t] ty #[v, u]).run P w = .ok v' w' ∧ w'.ownsRow base e 1 v' (n + m) (xs ++ ys) ∧ w.grownBy w' v.ownBlock := by
  rcases hown2.2 with ⟨rfl, rfl⟩ | ⟨g, cap, cur, rfl, hbg, hg, hnc, hcm, hcs, htake⟩
  · have hy : ys = [] := List.eq_nil_of_length_eq_zero (by simpa using hown2.1)
    subst hy
    exact ⟨v, w, run_append_none w base t ty e i ht hi hsize v n xs hown, by rw [List.append_nil]; exact hown, ⟨rfl, rfl, rfl, Nat.le_refl _, fun _ _ _ => rfl⟩⟩
  · obtain ⟨v', w', hr, ho, hgr, _⟩ := run_append_own (P := P) w base t ty e i z 1 8 ht hi hz hsize hby hzs (by decide) v n xs hown ⟨g, 0, none⟩ m cap ys hown2.1 (fun j u hu => hown2.cells (g := g) rfl j u hu) h1 (by unfold maxLen; omega) (by omega) hbase
    exact ⟨v', w', hr, ho, hgr⟩
end
theorem step_append {P : Program} {w : World} {ops : Array Oper} {rest : List Oper} {o : Oper} {a : Act} {Q : Exit → Act → World → Prop} (hgd : o.guard = none) (s x : Operand) (t u : TypeId)
    (ho : o.op = .call { callee := .builtin .append, args := #[s, x], argTypes := #[t, u] }) {v y v' : Value} {w' : World} (hs : a.eval s = v) (hx : a.eval x = y)
    (hr : (Builtin.append_ #[t, u] o.type #[v, y]).run P w = .ok v' w') (h : wpList P ops Q rest (a.put o.dst v') w') : wpList P ops Q (o :: rest) a w :=
  wpList_plain hgd fun _ hK => by
    unfold Oper.wp execOp
    simp only [ho, resolve, invoke, builtin, Sem.run_bind, Sem.run_pure, Result.andThen_ok, List.map_toArray, List.map_cons, List.map_nil, hs, hx, hr]
    exact hK _ _ h

/- slices.Clone of what is owned. -/
theorem own_here {w : World} {base n : Nat} {e : TypeId} {g cap : Nat} {xs : List Value} (h : w.ownsRow base e 1 (.slice (some ⟨g, 0, none⟩) n cap) n xs) : ∀ j u, xs[j]? = some u → w.cell? ((⟨g, 0, none⟩ : Addr).add j) = some u := fun j u hu => h.cells (g := g) rfl j u hu
set_option maxHeartbeats 1000000 in
set_option maxRecDepth 100000 in
theorem clone_any {w : World} {base : Nat} {v : Value} (L : List Nat) (h : w.ownsRow base 22 1 v L.length (cellsU L)) (hl : L.length ≤ 1000) : Calls Tryz.prog 75 #[v] w fun r w' => (∃ v', r = .returned v' ∧ w'.ownsRow w.heap.size 22 1 v' L.length (cellsU L)) ∧ Below w.heap.size w w' := by
  obtain ⟨i0, hi, hz0, hz1, hz2⟩ := info_parts info_u64
  rcases own_shape h with ⟨A, cap, rfl⟩
  cases A with
  | none =>
    have hn : L = [] := by
      rcases h.2 with ⟨_, h⟩ | ⟨g, cap, cur, h, _⟩
      · exact List.eq_nil_of_length_eq_zero h
      · cases h
    subst hn
    have hc : cap = 0 := by
      rcases h.2 with ⟨h, _⟩ | ⟨g, cap, cur, h, _⟩
      · cases h; rfl
      · cases h
    subst hc
    clear h
    have hb := Below.refl w.heap.size w
    have e1 : ∀ W, (binOp .eql 61 (.slice none 0 0) (.slice none 0 0)).run Tryz.prog W = .ok (.bool true) W := fun _ => by kernel_rfl
    go_enter Tryz.func75, Tryz.ntmps75
    go_wp2_with fail
    go_ret
    exact ⟨⟨.slice none 0 0, rfl, World.ownsRow_nil _ _ _ _⟩, hb⟩
  | some ad =>
    obtain ⟨g, rfl⟩ : ∃ g, ad = ⟨g, 0, none⟩ := by
      rcases h.2 with ⟨h, _⟩ | ⟨g, cap, cur, h, _⟩
      · cases h
      · cases h; exact ⟨g, rfl⟩
    have Hcells := Lib.hid (own_here h)
    have hg := (h.lt g rfl).2
    clear h
    have hE : (w.alloc (.cells #[] 22)).ownsRow w.heap.size 22 1 (.slice (some ⟨w.heap.size, 0, none⟩) 0 0) 0 [] := ⟨rfl, .inr ⟨w.heap.size, 0, #[], rfl, Nat.le_refl _, heap_alloc_new w _, Nat.le_refl _, by decide, rfl, rfl⟩⟩
    have HE := Lib.hid hE
    obtain ⟨n, hn⟩ : ∃ n, n = L.length := ⟨_, rfl⟩
    rw [← hn] at hl ⊢
    have Hn := Lib.hid hn
    have hb := boxed w (.cells #[] 22)
    have Hb := Lib.hid hb
    clear hE hn hb
    have e1 : ∀ W, (binOp .eql 61 (.slice (some ⟨g, 0, none⟩) n cap) (.slice none 0 0)).run Tryz.prog W = .ok (.bool false) W := fun _ => by kernel_rfl
    go_enter Tryz.func75, Tryz.ntmps75
    go_wp2_with (at_builtin; refine wpList_append_own _ rfl _ _ 61 rfl w.heap.size 22 i0 (.int .u64 0) 1 8 Tryz.underlying61 hi hz0 hz1 hz2 rfl (by decide) _ 0 [] rfl HE.out ⟨g, 0, none⟩ n cap (cellsU L) rfl (by rw [Hn.out]; simp [cellsU]) (fun j u hu => (World.cell?_alloc_lt w _ _ (by unfold Addr.add; split <;> simpa using hg)).trans (Hcells.out j u hu)) (fun x hx => by obtain ⟨y, _, rfl⟩ := List.mem_map.1 hx; rfl) (by unfold maxLen; omega) (by omega) (by simp) ?_; intro v' w3 hown' hgrow3 hnil3; have Ho3 := Lib.hid hown'; have hb3 := Lib.hid (Hb.out.grown hgrow3 (by simp) (fun q hq => (HE.out.lt q hq).1)); clear hown' hgrow3 hnil3)
    go_ret
    refine ⟨⟨v', rfl, ?_⟩, hb3.out⟩
    have := Ho3.out
    rwa [Nat.zero_add, List.nil_append] at this
end Go.Proofs.YtomndcjgdfhmbaaGreatDoor

/- Addresses as bytes: the walks. -/
namespace Go.Proofs.YtomndcjgdfhmbaaGreatDoor
open Go.RowKit
attribute [local go_sem ↓] Go.wp_at_zero Go.wp_at_succ
attribute [local go_sem] be_size

def addrB (a : Ad) : ByteArray := if a.v6 = true then be 8 a.hi ++ be 8 a.lo else be 4 a.lo

theorem be_mod (x : Nat) : be 4 (x % 4294967296) = be 4 x := by
  unfold be beL
  congr 2
  apply List.map_congr_left
  intro j hj
  have := List.mem_range.1 hj
  have h : j = 0 ∨ j = 1 ∨ j = 2 ∨ j = 3 := by omega
  rcases h with rfl | rfl | rfl | rfl <;> simp <;> congr 1 <;> omega

set_option maxHeartbeats 1000000 in
set_option maxRecDepth 100000 in
theorem bytesA_any (a : Ad) (ok : a.Ok) (w : World) : Calls Tryz.prog 34 #[.agg a.cells] w fun r w' => r = .returned (.string (addrB a)) ∧ Below w.heap.size w w' := by
  obtain ⟨v, h, l⟩ := a
  have h1 := ok.hi
  have h2 := ok.lo
  simp only at h1 h2
  unfold Ad.cells addrB
  simp only
  cases v with
  | true =>
    have H1 := Lib.hid h1
    have H2 := Lib.hid h2
    clear h1 h2 ok
    go_enter Tryz.func34, Tryz.ntmps34
    go_wp2_with fail
    have hB0 := Blk.new w 24 #[.bool true, .int .u64 (h : Int), .int .u64 (l : Int)]
    have hb0 := boxed w (.cells #[.bool true, .int .u64 (h : Int), .int .u64 (l : Int)] 24)
    generalize w.alloc (.cells #[.bool true, .int .u64 (h : Int), .int .u64 (l : Int)] 24) = W at *
    have z1 := hB0.cell 1
    have z2 := hB0.cell 2
    simp at z1 z2
    go_region_held3 (fun w' => w'.cell? ⟨w.heap.size, 1, none⟩ = some (.int .u64 (h : Int)) ∧ w'.cell? ⟨w.heap.size, 2, none⟩ = some (.int .u64 (l : Int)))
      (first | exact ⟨z1, z2⟩ | exact ⟨x1, x2⟩ | exact ⟨y1, y2⟩ | go_keep)
      (first
        | (go_at_call 60; refine (u64_any h H1.out _).mono ?_; rintro r w2 ⟨rfl, hb2⟩; have hB2 := Blk.below hB0.drew hb2 hB0.lt; have x1 := hB2.cell 1; have x2 := hB2.cell 2; simp at x1 x2)
        | (go_at_call 60; refine (u64_any l H2.out _).mono ?_; rintro r w3 ⟨rfl, hb3⟩; have hB3 := hB2.below hb3 hB2.lt; have y1 := hB3.cell 1; have y2 := hB3.cell 2; simp at y1 y2))
    go_wp2_with fail
    go_ret
    exact ⟨rfl, after (after hb0 (show Below W.heap.size W _ from ⟨hb2.os, hb2.tape, hb2.output, hb2.size, hb2.block⟩)) hb3⟩
  | false =>
    go_enter Tryz.func34, Tryz.ntmps34
    have h3 : l % 4294967296 < 4294967296 := by omega
    go_wp2_with (go_at_call 61; refine (u32_any (l % 4294967296) h3 _).mono ?_; rintro r w2 ⟨rfl, hb2⟩)
    go_ret
    exact ⟨by rw [be_mod]; rfl, after (boxed _ _) hb2⟩
end Go.Proofs.YtomndcjgdfhmbaaGreatDoor

/- The reader of bytes (package code): the walks. -/
namespace Go.Proofs.YtomndcjgdfhmbaaGreatDoor
open Go.RowKit
attribute [local go_sem ↓] Go.wp_at_zero Go.wp_at_succ

/- A reader in memory: what is left of the text, its first fault. -/
def Rd (w : World) (b : Nat) (s : ByteArray) (f : Nat) : Prop := Blk w b 114 #[.string s, .int .i64 (f : Int)]
theorem Rd.lt {w : World} {b : Nat} {s : ByteArray} {f : Nat} (h : Rd w b s f) : b < w.heap.size := Blk.lt h
theorem Rd.cells {w : World} {b : Nat} {s : ByteArray} {f : Nat} (h : Rd w b s f) : w.cell? ⟨b, 0, none⟩ = some (.string s) ∧ w.cell? ⟨b, 1, none⟩ = some (.int .i64 (f : Int)) := ⟨h.cell 0, h.cell 1⟩
theorem Rd.free {w : World} {b : Nat} {s : ByteArray} {f : Nat} (h : Rd w b s f) : w.frozen? ⟨b, 0, none⟩ = false ∧ w.frozen? ⟨b, 1, none⟩ = false := ⟨h.frozen 0, h.frozen 1⟩

theorem new_any (s : ByteArray) (w : World) : Calls Tryz.prog 62 #[.string s] w fun r w' => r = .returned (.pointer (some ⟨w.heap.size, 0, none⟩)) ∧ Rd w' w.heap.size s 0 ∧ Below w.heap.size w w' := by
  go_enter Tryz.func62, Tryz.ntmps62
  go_wp2_with fail
  go_ret
  exact ⟨rfl, Blk.new _ _ _, boxed _ _⟩

/- take: so many bytes; a fault, if they are not there. -/
def tkS (s : ByteArray) (f n : Nat) : ByteArray := if f = 0 ∧ n ≤ s.size then s.extract 0 n else ByteArray.empty
def tkR (s : ByteArray) (f n : Nat) : ByteArray := if f = 0 ∧ n ≤ s.size then s.extract n s.size else s
def tkF (s : ByteArray) (f n : Nat) : Nat := if f = 0 then (if n ≤ s.size then 0 else 7) else f

theorem take_any {w : World} {b : Nat} {s : ByteArray} {f : Nat} (h : Rd w b s f) (n : Nat) (hs : s.size ≤ 1000000) (hn : n ≤ 1000000) : Calls Tryz.prog 85 #[.pointer (some ⟨b, 0, none⟩), .int .i64 (n : Int)] w fun r w' => r = .returned (.tuple #[.string (tkS s f n), .bool (decide (f = 0 ∧ n ≤ s.size))]) ∧ Rd w' b (tkR s f n) (tkF s f n) ∧ Keeps (fun k => k = b) w w' := by
  obtain ⟨c0, c1⟩ := h.cells
  obtain ⟨f0, f1⟩ := h.free
  by_cases hf : f = 0
  · subst hf
    by_cases hl : n ≤ s.size
    · have e1 : tkS s 0 n = s.extract 0 n := by unfold tkS; rw [if_pos ⟨rfl, hl⟩]
      have e2 : tkR s 0 n = s.extract n s.size := by unfold tkR; rw [if_pos ⟨rfl, hl⟩]
      have e3 : tkF s 0 n = 0 := by unfold tkF; rw [if_pos rfl, if_pos hl]
      have e4 : decide ((0 : Nat) = 0 ∧ n ≤ s.size) = true := by simp [hl]
      rw [e1, e2, e3, e4]
      have hset := h.set_ 0 (.string (s.extract n s.size))
      have hk := (Keeps.refl (fun k => k = b) w).setCell (p := ⟨b, 0, none⟩) (.inl rfl) (.string (s.extract n s.size))
      have hl' : ¬ s.size < n := by omega
      clear e1 e2 e3 e4
      have Hset := Lib.hid hset
      have Hk := Lib.hid hk
      clear hset hk h
      go_enter Tryz.func85, Tryz.ntmps85
      go_wp2_with fail
      go_ret2
      exact ⟨rfl, Hset.out, Hk.out⟩
    · have e1 : tkS s 0 n = ByteArray.empty := by unfold tkS; rw [if_neg (by omega)]
      have e2 : tkR s 0 n = s := by unfold tkR; rw [if_neg (by omega)]
      have e3 : tkF s 0 n = 7 := by unfold tkF; rw [if_pos rfl, if_neg hl]
      have e4 : decide ((0 : Nat) = 0 ∧ n ≤ s.size) = false := by simp; omega
      rw [e1, e2, e3, e4]
      have hset := h.set_ 1 (.int .i64 7)
      have hk := (Keeps.refl (fun k => k = b) w).setCell (p := ⟨b, 1, none⟩) (.inl rfl) (.int .i64 7)
      have hl' : s.size < n := by omega
      clear e1 e2 e3 e4
      have Hset := Lib.hid hset
      have Hk := Lib.hid hk
      clear hset hk h
      go_enter Tryz.func85, Tryz.ntmps85
      go_wp2_with fail
      go_ret2
      exact ⟨rfl, Hset.out, Hk.out⟩
  · have e1 : tkS s f n = ByteArray.empty := by unfold tkS; rw [if_neg (by omega)]
    have e2 : tkR s f n = s := by unfold tkR; rw [if_neg (by omega)]
    have e3 : tkF s f n = f := by unfold tkF; rw [if_neg hf]
    have e4 : decide (f = 0 ∧ n ≤ s.size) = false := by simp; omega
    rw [e1, e2, e3, e4]
    have hf' : ¬ (f : Int) = 0 := by omega
    clear e1 e2 e3 e4
    have H := Lib.hid h
    clear h
    go_enter Tryz.func85, Tryz.ntmps85
    go_wp2_with fail
    go_ret2
    exact ⟨rfl, H.out, Keeps.refl _ _⟩
end Go.Proofs.YtomndcjgdfhmbaaGreatDoor
