/- Joined out of: GsC RdB. -/
import Derived.Test.YtomndcjgdfhmbaaGreatDoorJai
import Derived.BigRegion
import Derived.Deep.DrawnRows
import Derived.Deep.CutBlock
set_option linter.unusedVariables false
set_option linter.unusedSimpArgs false

/- The document's guess of IPv6: the walk. -/
namespace Go.Proofs.YtomndcjgdfhmbaaGreatDoor
open Go.RowKit
attribute [local go_sem ↓] Go.wp_at_zero Go.wp_at_succ

theorem wideR_one (x : List UInt8) : wideR [x] = if x.isEmpty then 0 else 1 := by cases x <;> rfl
theorem wideR_take {Q : List (List UInt8)} {k : Nat} (hk : k < Q.length) : wideR (Q.take (k + 1)) = wideR (Q.take k) + (if (Q.getD k []).isEmpty then 0 else 1) := by
  rw [List.take_succ_eq_append_getElem hk, wideR_append, List.getD_eq_getElem?_getD, List.getElem?_eq_getElem hk, wideR_one]
  rfl
theorem emp_iff (t : List UInt8) : (⟨t.toArray⟩ : ByteArray).toList.isEmpty = t.isEmpty := by
  rw [ByteArray.toList_eq]

theorem fillR_ge (wide : Nat) : ∀ (l : List (List UInt8)) (f : Bool), wideR l ≤ (fillR wide l f).length := by
  intro l
  induction l with
  | nil => intro f; simp [wideR]
  | cons x r ih =>
    intro f
    have e : wideR (x :: r) = wideR [x] + wideR r := wideR_append [x] r
    rw [e, wideR_one]
    unfold fillR
    cases x with
    | nil =>
      have := ih true
      simp
      omega
    | cons a x =>
      have := ih f
      simp
      omega
theorem fillR_ne {l : List (List UInt8)} (h : 0 < l.length) : 0 < (fillR (wideR l) l false).length := by
  by_cases hw : 0 < wideR l
  · have := fillR_ge (wideR l) l false
    omega
  · cases l with
    | nil => simp at h
    | cons x r =>
      have e : wideR (x :: r) = wideR [x] + wideR r := wideR_append [x] r
      cases x with
      | cons a x =>
        rw [wideR_one] at e
        simp at e
        omega
      | nil =>
        rw [show wideR ([] :: r) = 0 by omega]
        unfold fillR
        simp

theorem shl_hi (X m e : Nat) (he : e = 16 * m) (hb : X * 65536 ^ m < 18446744073709551616) : IntKind.u64.wrap ((X : Int) * 2 ^ e) = ((X * 65536 ^ m : Nat) : Int) := by
  have h : (X : Int) * 2 ^ e = ((X * 65536 ^ m : Nat) : Int) := by
    have e2 : (65536 : Nat) ^ m = 2 ^ e := by rw [he, Nat.pow_mul]
    rw [e2]
    push_cast
    rfl
  rw [h, IntKind.wrap_u64]
  omega

set_option maxHeartbeats 8000000 in
set_option maxRecDepth 100000 in
theorem guess_v6 {w : World} (s : ByteArray) (hs : s.size ≤ 100000) (h4 : (split1 46 s.data.toList).length ≠ 4) (PT : List Nat) (hPT : PT = fillR (wideR (split1 58 s.data.toList)) (split1 58 s.data.toList) false) : Calls Tryz.prog 54 #[.string s] w (Got (.agg #[.bool true, .int .u64 (fold16 ((padR PT).take 4) : Int), .int .u64 (fold16 ((padR PT).drop 4) : Int)]) w) := by
  obtain ⟨i0, hi, hz0, hz1, hz2⟩ := info_parts info_u64
  have hsp := fun v => split46 (w := v) s hs
  have hsp2 := fun v => split58 (w := v) s hs
  have hln : s.data.toList.length = s.size := (Lib.size_eq s).symm
  have hpl : ∀ t ∈ split1 58 s.data.toList, t.length ≤ 100000 := fun t ht => by have := split1_size ht; omega
  have hql := split1_length 58 s.data.toList
  have hqn := split1_ne 58 s.data.toList
  have hPx : ∀ x ∈ PT, x < 65536 := by rw [hPT]; exact fillR_lt _ _ _
  generalize split1 58 s.data.toList = Q at hsp2 hpl hql hqn hPT
  generalize split1 46 s.data.toList = Q4 at hsp h4
  obtain ⟨N, hN⟩ : ∃ n, Q.length = n + 1 := by
    cases Q with
    | nil => exact absurd rfl hqn
    | cons a t => exact ⟨t.length, rfl⟩
  have hN1 : N ≤ 100000 := by omega
  rw [hN] at hsp2
  have Hsp := Lib.hid hsp
  have Hsp2 := Lib.hid hsp2
  have Hpl := Lib.hid hpl
  have HN := Lib.hid hN
  have HPT := Lib.hid hPT
  have HPx := Lib.hid hPx
  clear hsp hsp2 hpl hN hql hqn hln hPT hPx
  have hB0 := Blk.new w 24 #[.bool false, .int .u64 0, .int .u64 0]
  have hb0 := boxed w (.cells #[.bool false, .int .u64 0, .int .u64 0] 24)
  have h4' : ((Q4.length : Int) == 4) = false := by simp; omega
  go_enter Tryz.func54, Tryz.ntmps54
  go_wp2_with fail
  go_at_call 55
  refine (Hsp.out _).mono ?_
  rintro r w1 ⟨⟨v1, rfl, ho1⟩, g1⟩
  obtain ⟨A1, cap1, rfl⟩ := own_shape ho1
  have hB1 := hB0.below g1 hB0.lt
  have hb1 := after hb0 g1
  clear hB0 hb0 ho1 g1
  go_wp2_with fail
  have hB2 := hB1.alloc (.cells #[.bool true, .int .u64 0, .int .u64 0] 24)
  have hD2 := Blk.new w1 24 #[.bool true, .int .u64 0, .int .u64 0]
  have hb2 := after hb1 (boxed w1 (.cells #[.bool true, .int .u64 0, .int .u64 0] 24))
  have hw1 : w.heap.size < w1.heap.size := hB1.lt
  have hsz2 : (w1.alloc (.cells #[.bool true, .int .u64 0, .int .u64 0] 24)).heap.size = w1.heap.size + 1 := by simp
  generalize w1.alloc (.cells #[.bool true, .int .u64 0, .int .u64 0] 24) = w2 at hB2 hD2 hb2 hsz2 ⊢
  generalize w1.heap.size = ga at hD2 hw1 hsz2 ⊢
  clear hB1 hb1
  go_at_call 55
  refine (Hsp2.out _).mono ?_
  rintro r w3 ⟨⟨v3, rfl, ho3⟩, g3⟩
  obtain ⟨g, cap, rfl⟩ := own_form ho3
  have hgl := ho3.lt g rfl
  have hB3 := hB2.below g3 hB2.lt
  have hD3 := hD2.below g3 hD2.lt
  have hb3 := after hb2 g3
  have hcell : ∀ j, j < N + 1 → w3.cell? ⟨g, j, none⟩ = some (.string ⟨(Q.getD j []).toArray⟩) := fun j hj => own_text ho3 j (by rw [HN.out]; exact hj) HN.out
  have HB3 := Lib.hid hB3
  have HD3 := Lib.hid hD3
  have Hb3 := Lib.hid hb3
  have Hcell := Lib.hid hcell
  have hw3 : ga < w3.heap.size := hD3.lt
  clear hB2 hb2 hD2 hB3 hD3 hb3 hcell ho3 g3
  go_wp2_with fail
  go_loop [8, 9] (fun v8 v9 => ∃ k : Nat, k ≤ N + 1 ∧ v9 = .int .i64 (k : Int) ∧ v8 = .int .i64 (wideR (Q.take k) : Int) ∧ wideR (Q.take k) ≤ k) (fun _ v9 => N + 1 - (intOf v9).toNat)
  case atStart => exact ⟨0, by omega, rfl, rfl, by simp [wideR]⟩
  case round =>
    obtain ⟨k, hk, rfl, rfl, hwk⟩ := hrel
    by_cases hlt : k < N + 1
    · have hkl : k < Q.length := by have := HN.out; omega
      have cx := Hcell.out k hlt
      have hnx := wideR_take hkl
      have hem := emp_iff (Q.getD k [])
      have hlt' : (k : Int) < (N : Int) + 1 := by omega
      generalize Q.getD k [] = T at cx hnx hem
      obtain ⟨TB, hTB⟩ : ∃ b, b = (⟨T.toArray⟩ : ByteArray) := ⟨_, rfl⟩
      rw [← hTB] at cx hem
      have Hnx := Lib.hid hnx
      clear hTB hnx
      generalize hWk : wideR (Q.take k) = WK at hwk Hnx ⊢
      have HWk := Lib.hid hWk
      clear hWk
      cases hE : T.isEmpty
      all_goals
        rw [hE] at hem Hnx
        clear hE
        go_wp2_with fail
        go_round
      case rel => exact ⟨k + 1, by omega, by go_num, by rw [Hnx.out]; go_num, by rw [Hnx.out]; simp; omega⟩
      case measure => simp [intOf]; omega
      case rel => exact ⟨k + 1, by omega, by go_num, by rw [Hnx.out]; simp, by rw [Hnx.out]; simp; omega⟩
      case measure => simp [intOf]; omega
    · obtain rfl : k = N + 1 := by omega
      have hQt : Q.take (N + 1) = Q := List.take_of_length_le (by have := HN.out; omega)
      rw [hQt] at hwk ⊢
      obtain ⟨WD, hWD⟩ : ∃ n, n = wideR Q := ⟨_, rfl⟩
      rw [← hWD] at hwk ⊢
      have HPT' := Lib.hid (show PT = fillR WD Q false by rw [hWD]; exact HPT.out)
      have HWD := Lib.hid hWD
      clear hWD hQt
      go_wp2_with fail
      go_loopw [10, 11, 12] (fun v10 v11 v12 wr => ∃ (k : Nat) (fl : Bool) (P : List Nat) (A : Option Addr) (cap : Nat), k ≤ N + 1 ∧ v12 = .int .i64 (k : Int) ∧ v11 = .bool fl ∧ v10 = .slice A P.length cap ∧ P.length ≤ k + 8 ∧ (fl = false → P.length ≤ k) ∧ RowKit.Hid (PT = P ++ fillR WD (Q.drop k) fl) ∧ RowKit.Hid (wr.ownsRow w3.heap.size 22 1 (.slice A P.length cap) P.length (cellsU P)) ∧ RowKit.Hid (Below w3.heap.size w3 wr)) (fun _ _ v12 _ => N + 1 - (intOf v12).toNat)
      case atStart => exact ⟨0, false, [], none, 0, by omega, rfl, rfl, rfl, by simp, fun _ => by simp, HPT', Lib.hid (World.ownsRow_nil _ _ _ _), Lib.hid (Below.refl _ _)⟩
      case round =>
        obtain ⟨k, fl, P, A, cap, hk, rfl, rfl, rfl, hPl, hPf, hPT, hown, hb⟩ := hrel
        by_cases hlt : k < N + 1
        · have hkl : k < Q.length := by have := HN.out; omega
          have cx := (hb.out.cell (p := ⟨g, k, none⟩) (show g < w3.heap.size by omega)).trans (Hcell.out k hlt)
          have htl : (Q.getD k []).length ≤ 100000 := by
            rw [List.getD_eq_getElem?_getD, List.getElem?_eq_getElem hkl]
            exact Hpl.out _ (List.getElem_mem hkl)
          have hdr : Q.drop k = Q.getD k [] :: Q.drop (k + 1) := by
            rw [List.drop_eq_getElem_cons hkl, List.getD_eq_getElem?_getD, List.getElem?_eq_getElem hkl]
            rfl
          have hPT' := hPT.out
          rw [hdr] at hPT'
          have hem := emp_iff (Q.getD k [])
          have hlt' : (k : Int) < (N : Int) + 1 := by omega
          have hdc := digI_cases 16 (Q.getD k [])
          have HD16 := Lib.hid (digits16 (w := wr) (Q.getD k []) htl)
          have hws := hb.out.size
          clear hdr hPT
          by_cases hT : Q.getD k [] = []
          · rw [hT] at cx hem hPT'
            have hnx : PT = (P ++ (if fl then [] else List.replicate (8 - WD) 0)) ++ fillR WD (Q.drop (k + 1)) true := by
              rw [hPT', List.append_assoc]
              conv => lhs; rhs; unfold fillR
              rw [if_pos rfl]
            have Hnx := Lib.hid hnx
            clear HD16 hdc htl hPT' hT hnx
            obtain ⟨TB, hTB⟩ : ∃ b, b = (⟨([] : List UInt8).toArray⟩ : ByteArray) := ⟨_, rfl⟩
            rw [← hTB] at cx hem
            clear hTB
            obtain ⟨wo, rfl⟩ : ∃ wo : World, wo = wr := ⟨_, rfl⟩
            go_wp2_with fail
            go_loopw [10, 13] (fun v10 v13 wr => ∃ (j : Nat) (A : Option Addr) (cap : Nat), v13 = .int .i64 ((WD + j : Nat) : Int) ∧ v10 = .slice A (P.length + j) cap ∧ (fl = true → j = 0) ∧ j ≤ 8 - WD ∧ RowKit.Hid (wr.ownsRow w3.heap.size 22 1 (.slice A (P.length + j) cap) (P.length + j) (cellsU (P ++ List.replicate j 0))) ∧ RowKit.Hid (Below w3.heap.size w3 wr)) (fun _ v13 _ => 8 - (intOf v13).toNat)
            case atStart => exact ⟨0, A, cap, rfl, rfl, fun _ => rfl, by omega, Lib.hid (by simpa using hown.out), hb⟩
            case round =>
              obtain ⟨j, A2, cap2, rfl, rfl, hfj, hj8, hown2, hb2⟩ := hrel
              have hws2 := hb2.out.size
              by_cases hgo : WD + j < 8 ∧ fl = false
              · obtain ⟨hlt8, rfl⟩ := hgo
                have hlt8' : ((WD + j : Nat) : Int) < 8 := by omega
                have hPl2 := hPf rfl
                go_wp2_with (at_builtin; refine wpList_append_own _ rfl _ _ 61 rfl w3.heap.size 22 i0 (.int .u64 0) 1 8 Tryz.underlying61 hi hz0 hz1 hz2 rfl (by decide) _ (P.length + j) _ rfl (hown2.out.alloc _) ⟨wr.heap.size, 0, none⟩ 1 1 [.int .u64 0] rfl rfl (cell_one_new _ _ _) (fun x hx => by simp at hx; subst hx; rfl) (by unfold maxLen; omega) (by omega) (by simp; omega) ?_; intro v' w4 hown' hgrow3 hnil3; have Ho4 := Lib.hid hown'; have hbW := Lib.hid ((hb2.out.alloc (hb2.out.size) _).grown hgrow3 (by simp; omega) (fun q hq => (hown2.out.lt q hq).1)); clear hown' hgrow3 hnil3)
                obtain ⟨A', cap', rfl⟩ := own_shape Ho4.out
                go_roundw
                case rel => exact ⟨j + 1, A', cap', by go_num, rfl, fun h => (by cases h), by omega, Lib.hid (by rw [← Nat.add_assoc, List.replicate_succ', ← List.append_assoc, cellsU_snoc]; exact Ho4.out), hbW⟩
                case measure => simp [intOf]; omega
              · cases fl with
                | true =>
                  obtain rfl : j = 0 := hfj rfl
                  by_cases hlt8 : WD < 8
                  · have hlt8' : ((WD + 0 : Nat) : Int) < 8 := by omega
                    go_wp2_with fail
                    go_roundw
                    case rel => exact ⟨k + 1, true, P, A2, cap2, by omega, by go_num, rfl, rfl, by omega, fun h => (by cases h), Lib.hid (by rw [Hnx.out]; simp), Lib.hid (by have := hown2.out; simpa using this), hb2⟩
                    case measure => simp [intOf]; omega
                  · have hlt8' : ¬ ((WD + 0 : Nat) : Int) < 8 := by omega
                    go_wp2_with fail
                    go_roundw
                    case rel => exact ⟨k + 1, true, P, A2, cap2, by omega, by go_num, rfl, rfl, by omega, fun h => (by cases h), Lib.hid (by rw [Hnx.out]; simp), Lib.hid (by have := hown2.out; simpa using this), hb2⟩
                    case measure => simp [intOf]; omega
                | false =>
                  have hlt8 : ¬ WD + j < 8 := fun h => hgo ⟨h, rfl⟩
                  obtain rfl : j = 8 - WD := by omega
                  have hlt8' : ¬ ((WD + (8 - WD) : Nat) : Int) < 8 := by omega
                  have hPl2 := hPf rfl
                  have hll : (P ++ List.replicate (8 - WD) 0).length = P.length + (8 - WD) := by rw [List.length_append, List.length_replicate]
                  go_wp2_with fail
                  go_roundw
                  case rel => exact ⟨k + 1, true, P ++ List.replicate (8 - WD) 0, A2, cap2, by omega, by go_num, rfl, by rw [hll], by rw [hll]; omega, fun h => (by cases h), Lib.hid (by rw [Hnx.out]; simp), Lib.hid (by rw [hll]; exact hown2.out), hb2⟩
                  case measure => simp [intOf]; omega
          · have hE : (Q.getD k []).isEmpty = false := by
              cases e : Q.getD k [] with
              | nil => exact absurd e hT
              | cons _ _ => rfl
            rw [hE] at hem
            have hnx : PT = P ++ (digV 16 (Q.getD k []) :: fillR WD (Q.drop (k + 1)) fl) := by
              rw [hPT']
              conv => lhs; rhs; unfold fillR
              rw [if_neg hT]
            clear hPT' hT hE htl
            have hdv : digV 16 (Q.getD k []) < 65536 := digV_lt 16 (by decide) _
            generalize digI 16 (Q.getD k []) = DI at HD16 hdc
            generalize digV 16 (Q.getD k []) = DV at hnx hdc hdv
            generalize Q.getD k [] = T at cx hem HD16
            obtain ⟨TB, hTB⟩ : ∃ b, b = (⟨T.toArray⟩ : ByteArray) := ⟨_, rfl⟩
            rw [← hTB] at cx hem HD16
            have Hnx := Lib.hid hnx
            clear hTB hnx
            have hval : IntKind.u64.wrap (max DI 0) = (DV : Int) := by rcases hdc with ⟨rfl, rfl⟩ | ⟨n, rfl, rfl⟩ <;> rw [IntKind.wrap_u64] <;> omega
            clear hdc
            go_wp2_with (first | (go_at_call 56; (with_reducible refine HD16.out.mono ?_); rintro r wf ⟨rfl, rfl⟩) | (at_builtin; refine wpList_append_own _ rfl _ _ 61 rfl w3.heap.size 22 i0 (.int .u64 0) 1 8 Tryz.underlying61 hi hz0 hz1 hz2 rfl (by decide) _ P.length _ rfl (hown.out.alloc _) ⟨wr.heap.size, 0, none⟩ 1 1 [.int .u64 (DV : Int)] rfl rfl (cell_one_new _ _ _) (fun x hx => by simp at hx; subst hx; rfl) (by unfold maxLen; omega) (by omega) (by simp; omega) ?_; intro v' w4 hown' hgrow3 hnil3; have Ho4 := Lib.hid hown'; have hbW := Lib.hid ((hb.out.alloc (hb.out.size) _).grown hgrow3 (by simp; omega) (fun q hq => (hown.out.lt q hq).1)); clear hown' hgrow3 hnil3))
            obtain ⟨A', cap', rfl⟩ := own_shape Ho4.out
            go_roundw
            case rel => exact ⟨k + 1, fl, P ++ [DV], A', cap', by omega, by go_num, rfl, by rw [List.length_append]; rfl, by rw [List.length_append, List.length_singleton]; omega, fun h => by rw [List.length_append, List.length_singleton]; have := hPf h; omega, Lib.hid (by rw [Hnx.out]; simp), Lib.hid (by rw [cellsU_snoc, List.length_append]; exact Ho4.out), hbW⟩
            case measure => simp [intOf]; omega
        · obtain rfl : k = N + 1 := by omega
          have hPE : PT = P := by
            rw [hPT.out, List.drop_of_length_le (by have := HN.out; omega)]
            unfold fillR
            simp
          have hPn := fillR_ne (l := Q) (by have := HN.out; omega)
          rw [← HPT.out, hPE] at hPn
          have Hend := Lib.hid (at_end PT)
          have hown' := hown.out
          obtain ⟨n, hn⟩ : ∃ n, P.length = n + 1 := ⟨P.length - 1, by omega⟩
          rw [hn] at hown'
          obtain ⟨gp, capp, hv⟩ := own_form hown'
          rw [hn, hv]
          rw [hv] at hown'
          have hcp : ∀ j, j < n + 1 → wr.cell? ⟨gp, j, none⟩ = some (.int .u64 (PT.getD j 0 : Int)) := by
            intro j hj
            rw [hPE]
            rw [hown'.cellAt (g := gp) j (by omega)]
            unfold cellsU
            have hjl : j < P.length := by omega
            rw [List.getElem?_map, List.getElem?_eq_getElem hjl, List.getD_eq_getElem?_getD, List.getElem?_eq_getElem hjl]
            rfl
          have hgp := hown'.lt gp rfl
          have HB5 := Lib.hid (HB3.out.below hb.out HB3.out.lt)
          have HD5 := Lib.hid (HD3.out.below hb.out HD3.out.lt)
          have Hb5 := Lib.hid (after Hb3.out hb.out)
          have Hcp := Lib.hid hcp
          have Hn := Lib.hid (show PT.length = n + 1 by rw [hPE]; exact hn)
          clear hcp hn hown' hPT hown hPl hPf hPn hPE hv hb HB3 HD3 Hb3
          obtain ⟨w5, rfl⟩ : ∃ wo : World, wo = wr := ⟨_, rfl⟩
          go_wp2_with fail
          go_loopw [14] (fun v14 wr => ∃ i : Nat, i ≤ 8 ∧ i ≤ n + 1 ∧ v14 = .int .i64 (i : Int) ∧ RowKit.Hid (Blk wr w.heap.size 24 #[.bool false, .int .u64 0, .int .u64 0]) ∧ RowKit.Hid (Blk wr ga 24 #[.bool true, .int .u64 (hiAt PT i : Int), .int .u64 (loAt PT i : Int)]) ∧ RowKit.Hid (∀ j, j < n + 1 → wr.cell? ⟨gp, j, none⟩ = some (.int .u64 (PT.getD j 0 : Int))) ∧ RowKit.Hid (Below w.heap.size w wr)) (fun v14 _ => 8 - (intOf v14).toNat)
          case atStart => exact ⟨0, by omega, by omega, rfl, HB5, Lib.hid (by simpa [hiAt, loAt, fold16] using HD5.out), Hcp, Hb5⟩
          case round =>
            obtain ⟨i, hi8, hin, rfl, hB, hD, hr, hb⟩ := hrel
            by_cases hgo : i < 8 ∧ i < n + 1
            · obtain ⟨h8, hin2⟩ := hgo
              have hil : i < PT.length := by have := Hn.out; omega
              have cx := hr.out i hin2
              have h8' : (i : Int) < 8 := by omega
              have hn' : (i : Int) < (n : Int) + 1 := by omega
              have hw1 : IntKind.i64.wrap (16 * (i : Int)) = 16 * (i : Int) := by rw [IntKind.wrap_i64]; omega
              have a1 := hD.out.cell 1
              have a2 := hD.out.cell 2
              have fr := fun i => hD.out.frozen i
              simp at a1 a2
              have hr' := fun (q : Nat) (u : Value) j (hj : j < n + 1) => (cell_far (w := wr) (a := ⟨ga, q, none⟩) (c := ⟨gp, j, none⟩) (u := u) (by show ga ≠ gp; omega)).trans (hr.out j hj)
              have Hr' := Lib.hid hr'
              clear hr'
              by_cases h4 : i < 4
              · obtain ⟨ho, hlo, hb1, hb2⟩ := hi_step HPx.out hil h4
                have h4' : (i : Int) < 4 := by omega
                have hw2 : IntKind.i64.wrap (48 - 16 * (i : Int)) = 48 - 16 * (i : Int) := by rw [IntKind.wrap_i64]; omega
                have hw3 : IntKind.u64.wrap (48 - 16 * (i : Int)) = 48 - 16 * (i : Int) := by rw [IntKind.wrap_u64]; omega
                have hw4 : ((48 : Int) - 16 * (i : Int)).toNat = 48 - 16 * i := by omega
                have hws := shl_hi _ (3 - i) (48 - 16 * i) (by omega) hb2
                have hor := u64_or_nat _ _ hb1 hb2
                rw [ho] at hor
                obtain ⟨X, hX⟩ : ∃ x, x = PT.getD i 0 := ⟨_, rfl⟩
                rw [← hX] at hws cx hor
                have Hlo := Lib.hid hlo
                have Hws := Lib.hid hws
                have Hor := Lib.hid hor
                clear hr ho hlo hb1 hb2 hX hws hor
                go_wp2_with fail
                go_region
                go_wp2_with fail
                go_roundw
                case rel =>
                  rw [Hws.out, Hor.out]
                  exact ⟨i + 1, by omega, by omega, by go_num, Lib.hid (hB.out.far (p := ⟨ga, 1, none⟩) (by show w.heap.size ≠ ga; omega) _).drew, Lib.hid (by rw [← Hlo.out]; exact (hD.out.set_ 1 _).drew), Lib.hid (Hr'.out 1 _), Lib.hid ((hb.out.setCell (p := ⟨ga, 1, none⟩) (by show w.heap.size ≤ ga; omega) _).drew)⟩
                case measure => simp [intOf]; omega
              · obtain ⟨ho, hlo, hb1, hb2⟩ := lo_step HPx.out hil (by omega) h8
                have h4' : ¬ (i : Int) < 4 := by omega
                have hw2 : IntKind.i64.wrap (112 - 16 * (i : Int)) = 112 - 16 * (i : Int) := by rw [IntKind.wrap_i64]; omega
                have hw3 : IntKind.u64.wrap (112 - 16 * (i : Int)) = 112 - 16 * (i : Int) := by rw [IntKind.wrap_u64]; omega
                have hw4 : ((112 : Int) - 16 * (i : Int)).toNat = 112 - 16 * i := by omega
                have hws := shl_hi _ (7 - i) (112 - 16 * i) (by omega) hb2
                have hor := u64_or_nat _ _ hb1 hb2
                rw [ho] at hor
                obtain ⟨X, hX⟩ : ∃ x, x = PT.getD i 0 := ⟨_, rfl⟩
                rw [← hX] at hws cx hor
                have Hlo := Lib.hid hlo
                have Hws := Lib.hid hws
                have Hor := Lib.hid hor
                clear hr ho hlo hb1 hb2 hX hws hor
                go_wp2_with fail
                go_region
                go_wp2_with fail
                go_roundw
                case rel =>
                  (repeat apply Exists.intro)
                  refine And.intro ?rr ?eqs
                  case eqs => (repeat' (first | exact rfl | apply And.intro))
                  case rr =>
                    rw [Hws.out, Hor.out]
                    exact ⟨i + 1, by omega, by omega, by go_num, Lib.hid (hB.out.far (p := ⟨ga, 2, none⟩) (by show w.heap.size ≠ ga; omega) _).drew, Lib.hid (by rw [← Hlo.out]; exact (hD.out.set_ 2 _).drew), Lib.hid (Hr'.out 2 _), Lib.hid ((hb.out.setCell (p := ⟨ga, 2, none⟩) (by show w.heap.size ≤ ga; omega) _).drew)⟩
                case measure => simp [intOf]; omega
            · have hDD := hD.out
              have hat := Hend.out i hi8 (by have := Hn.out; omega) (by have := Hn.out; omega)
              rw [hat.1, hat.2] at hDD
              have a0 := hDD.cell 0
              have a1 := hDD.cell 1
              have a2 := hDD.cell 2
              simp at a0 a1 a2
              have c0 := hB.out.cell 0
              have c1 := hB.out.cell 1
              have c2 := hB.out.cell 2
              simp at c0 c1 c2
              have fr := fun i => hB.out.frozen i
              clear hDD hat
              by_cases h8 : i < 8
              · have h8' : (i : Int) < 8 := by omega
                have hn' : ¬ (i : Int) < (n : Int) + 1 := by omega
                go_wp2_with fail
                exact bodyPost_ret (results_c (x := 2) rfl rfl (load_ad (three hB.out hb.out (Nat.le_refl _)).1)) rfl ⟨rfl, (three hB.out hb.out (Nat.le_refl _)).2⟩
              · have h8' : ¬ (i : Int) < 8 := by omega
                go_wp2_with fail
                exact bodyPost_ret (results_c (x := 2) rfl rfl (load_ad (three hB.out hb.out (Nat.le_refl _)).1)) rfl ⟨rfl, (three hB.out hb.out (Nat.le_refl _)).2⟩
end Go.Proofs.YtomndcjgdfhmbaaGreatDoor

/- Read: the walk. (Printed by rd_read.py.) -/
namespace Go.Proofs.YtomndcjgdfhmbaaGreatDoor
open Go.RowKit

theorem str_same {a b : ByteArray} (h : a = b) : (a.toList == b.toList) = true := by rw [h]; simp
theorem str_diff {a b : ByteArray} (h : a ≠ b) : (a.toList == b.toList) = false := by
  rw [beq_eq_false_iff_ne]
  intro e
  apply h
  apply ByteArray.ext
  rw [ByteArray.toList_eq, ByteArray.toList_eq] at e
  exact Array.ext' e

set_option maxHeartbeats 8000000 in
set_option maxRecDepth 100000 in
theorem read_any {w : World} (env : Env w) (s : ByteArray) (hs : s.size ≤ 100000) : Calls Tryz.prog 18 #[.string s] w (Got (readV (readL s.data.toList)) w) := by
  obtain ⟨RL, hRL⟩ : ∃ r, r = readL s.data.toList := ⟨_, rfl⟩
  rw [← hRL]
  have hB0 := (Blk.new w 24 #[.bool false, .int .u64 0, .int .u64 0]).alloc (.cells #[.bool false, .int .u64 0, .int .u64 0] 24)
  have hD0 : Blk ((w.alloc (.cells #[.bool false, .int .u64 0, .int .u64 0] 24)).alloc (.cells #[.bool false, .int .u64 0, .int .u64 0] 24)) (w.heap.size + 1) 24 #[.bool false, .int .u64 0, .int .u64 0] := by
    have h := Blk.new (w.alloc (.cells #[.bool false, .int .u64 0, .int .u64 0] 24)) 24 #[.bool false, .int .u64 0, .int .u64 0]
    simpa using h
  have hb0 := two_boxed w (.cells #[.bool false, .int .u64 0, .int .u64 0] 24) (.cells #[.bool false, .int .u64 0, .int .u64 0] 24)
  have HN1 := Lib.hid (num10 (env.below hb0) s hs 46)
  unfold readL guessP at hRL
  have hrd : ∀ l, numbersL 46 10 256 s.data.toList = some l → l.length = 4 → (RL = if textL ⟨false, 0, fold8 l⟩ = s.data.toList then some ⟨false, 0, fold8 l⟩ else none) := fun l h1 h2 => by rw [hRL, h1]; simp only; rw [if_pos h2]; rfl
  have hrd6 : ((numbersL 46 10 256 s.data.toList = none) ∨ (∃ l, numbersL 46 10 256 s.data.toList = some l ∧ l.length ≠ 4)) → RL = (guess6 s.data.toList).bind fun a => if textL a = s.data.toList then some a else none := fun h => by
    rcases h with h | ⟨l, h, hl⟩
    · rw [hRL, h]
    · rw [hRL, h]; simp only; rw [if_neg hl]
  have hnl : ∀ l, numbersL 46 10 256 s.data.toList = some l → (∀ x ∈ l, x < 256) ∧ l.length ≤ 9 := fun l h => numbersL_lt h
  clear hRL
  generalize hO1 : numbersL 46 10 256 s.data.toList = O1 at HN1 hrd hrd6 hnl
  clear hO1
  have HB0 := Lib.hid hB0
  have HD0 := Lib.hid hD0
  have Hb0 := Lib.hid hb0
  have Henv := Lib.hid env
  have Hrd := Lib.hid hrd
  have Hrd6 := Lib.hid hrd6
  have Hnl := Lib.hid hnl
  clear hB0 hD0 hb0 env hrd hrd6 hnl
  generalize hW0 : (w.alloc (.cells #[.bool false, .int .u64 0, .int .u64 0] 24)).alloc (.cells #[.bool false, .int .u64 0, .int .u64 0] 24) = W0 at HN1 HB0 HD0 Hb0
  have HW0 := Lib.hid hW0
  clear hW0
  go_enter Tryz.func18, Tryz.ntmps18
  go_wp2_with fail
  rw [HW0.out]
  go_at_call 43
  refine HN1.out.mono ?_
  intro r w1 hg1
  obtain ⟨v1, L1, rfl, ho1, hL1, hb1⟩ := hg1.any
  have Ho1 := Lib.hid ho1
  have HL1 := Lib.hid hL1
  have HB1 := Lib.hid (HB0.out.below hb1 HB0.out.lt)
  have HD1 := Lib.hid (HD0.out.below hb1 HD0.out.lt)
  have Hb1 := Lib.hid (after Hb0.out hb1)
  have hsz0 : w.heap.size + 1 < W0.heap.size := HD0.out.lt
  have hsz1 : w.heap.size + 1 < w1.heap.size := HD1.out.lt
  clear hg1 ho1 hL1 hb1
  obtain ⟨A1, cap1, rfl⟩ := own_shape Ho1.out
  by_cases h4 : O1.isSome = true ∧ L1.length = 4
  · obtain ⟨his, hlen⟩ := h4
    have hO1 : O1 = some L1 := by rcases HL1.out with h | ⟨h, _⟩; exact h; rw [h] at his; cases his
    have hrl := Hrd.out L1 hO1 hlen
    have hlx := (Hnl.out L1 hO1).1
    have Hrl := Lib.hid hrl
    have Hlx := Lib.hid hlx
    rw [his]
    have ho4 := Ho1.out
    rw [hlen] at ho4 ⊢
    obtain ⟨g, cap, hv⟩ := own_form ho4
    rw [hv]
    rw [hv] at ho4
    have hg := ho4.lt g rfl
    have hcell : ∀ j, j < 4 → w1.cell? ⟨g, j, none⟩ = some (.int .u64 (L1.getD j 0 : Int)) := by
      intro j hj
      rw [ho4.cellAt (g := g) j (by omega)]
      unfold cellsU
      have hjl : j < L1.length := by omega
      rw [List.getElem?_map, List.getElem?_eq_getElem hjl, List.getD_eq_getElem?_getD, List.getElem?_eq_getElem hjl]
      rfl
    have Hcell := Lib.hid hcell
    have Hlen := Lib.hid hlen
    clear hcell hrl hlx hO1 his ho4 hv hlen
    go_wp2_with fail
    go_loopw [30] (fun v30 wr => ∃ k : Nat, k ≤ 4 ∧ v30 = .int .i64 (k : Int) ∧ RowKit.Hid (Blk wr (w.heap.size + 1) 24 #[.bool false, .int .u64 0, .int .u64 (fold8 (L1.take k) : Int)]) ∧ RowKit.Hid (Blk wr w.heap.size 24 #[.bool false, .int .u64 0, .int .u64 0]) ∧ RowKit.Hid (∀ j, j < 4 → wr.cell? ⟨g, j, none⟩ = some (.int .u64 (L1.getD j 0 : Int))) ∧ RowKit.Hid (Below w.heap.size w wr)) (fun v30 _ => 4 - (intOf v30).toNat)
    case atStart => exact ⟨0, by omega, rfl, HD1, HB1, Hcell, Hb1⟩
    case round =>
      obtain ⟨k, hk, rfl, hD, hB, hr, hb⟩ := hrel
      by_cases hlt : k < 4
      · have hkl : k < L1.length := by have := Hlen.out; omega
        have cx := hr.out k hlt
        have hX : L1.getD k 0 < 256 := by
          rw [List.getD_eq_getElem?_getD, List.getElem?_eq_getElem hkl]
          exact Hlx.out _ (List.getElem_mem hkl)
        have hs : fold8 (L1.take (k + 1)) = fold8 (L1.take k) * 256 + L1.getD k 0 := by
          rw [List.take_succ_eq_append_getElem hkl, fold8_snoc, List.getD_eq_getElem?_getD, List.getElem?_eq_getElem hkl]
          rfl
        have hbd : fold8 (L1.take k) < 4294967296 := fold8_bound (take_lt Hlx.out) (by rw [List.length_take]; omega)
        have a2 := hD.out.cell 2
        have fr := fun i => hD.out.frozen i
        simp at a2
        have hr' := fun (u : Value) j (hj : j < 4) => (cell_far (w := wr) (a := ⟨w.heap.size + 1, 2, none⟩) (c := ⟨g, j, none⟩) (u := u) (by show w.heap.size + 1 ≠ g; omega)).trans (hr.out j hj)
        have Hr' := Lib.hid hr'
        have Hs := Lib.hid hs
        generalize L1.getD k 0 = X at cx hX Hs
        obtain ⟨H0, hH0⟩ : ∃ n, n = fold8 (L1.take k) := ⟨_, rfl⟩
        rw [← hH0] at a2 hbd
        have HH0 := Lib.hid hH0
        have ho := orb8 (h := H0) (x := X) (by omega) hX
        have hw : IntKind.u64.wrap ((H0 : Int) * 256) = (H0 : Int) * 256 := by rw [IntKind.wrap_u64]; omega
        clear hr' hs hH0
        go_wp2_with fail
        go_roundw
        case rel =>
          have hset := hD.out.set_ 2 (.int .u64 ((H0 * 256 + X : Nat) : Int))
          exact ⟨k + 1, by omega, by go_num, Lib.hid (by rw [Hs.out, ← HH0.out]; exact hset), Lib.hid (hB.out.far (p := ⟨w.heap.size + 1, 2, none⟩) (by simp) _), Lib.hid (Hr'.out _), Lib.hid (hb.out.setCell (p := ⟨w.heap.size + 1, 2, none⟩) (by simp) _)⟩
        case measure => simp [intOf]; omega
      · obtain rfl : k = 4 := by omega
        have htk : L1.take 4 = L1 := List.take_of_length_le (by have := Hlen.out; omega)
        have hDD := hD.out
        rw [htk] at hDD
        have hok : (Ad.mk false 0 (fold8 L1)).Ok := ⟨by show (0 : Nat) < _; omega, by show fold8 L1 < _; have := fold8_bound Hlx.out (by have := Hlen.out; omega); omega⟩
        have HDD := Lib.hid hDD
        have htx := text_any (Henv.out.below hb.out) ⟨false, 0, fold8 L1⟩ hok
        have hcmp : RL = if textB ⟨false, 0, fold8 L1⟩ = s then some ⟨false, 0, fold8 L1⟩ else none := by
          rw [Hrl.out]
          by_cases h : textB ⟨false, 0, fold8 L1⟩ = s
          · rw [if_pos h, if_pos (textB_iff.1 h)]
          · rw [if_neg h, if_neg (fun e => h (textB_iff.2 e))]
        generalize fold8 L1 = LO at HDD htx hcmp
        have hcells : Ad.cells ⟨false, 0, LO⟩ = #[.bool false, .int .u64 0, .int .u64 (LO : Int)] := rfl
        generalize (Ad.mk false 0 LO) = AD at htx hcmp hcells
        rw [hcells] at htx
        have HTX := Lib.hid htx
        clear htx
        obtain ⟨TB, hTB⟩ : ∃ t, t = textB AD := ⟨_, rfl⟩
        rw [← hTB] at HTX hcmp
        have Hcells := Lib.hid hcells
        clear hTB hcells
        have a0 := HDD.out.cell 0
        have a1 := HDD.out.cell 1
        have a2 := HDD.out.cell 2
        simp at a0 a1 a2
        by_cases hts : TB = s
        · have hq := str_same hts
          rw [if_pos hts] at hcmp
          have Hcmp := Lib.hid hcmp
          clear hts hcmp
          go_wp2_with (go_at_call 19; (with_reducible refine HTX.out.mono ?_); rintro r w7 ⟨rfl, g7⟩; have hb7 := Lib.hid (after hb.out g7); have hB7 := hB.out.below g7 hB.out.lt; have hD7 := HDD.out.below g7 HDD.out.lt; clear a0 a1 a2; have a0 := hD7.cell 0; have a1 := hD7.cell 1; have a2 := hD7.cell 2; simp at a0 a1 a2; have c0 := hB7.cell 0; have c1 := hB7.cell 1; have c2 := hB7.cell 2; simp at c0 c1 c2; have fr := (fun i => hB7.frozen i); have HB7 := Lib.hid hB7; clear hB7 hD7 g7)
          rw [Hcmp.out]
          show bodyPost _ _ (Got (.tuple #[.agg AD.cells, .int .i64 0]) w) _ _ _
          rw [Hcells.out]
          exact ret_ad3 (g := w.heap.size) (x := 2) (y := 3) rfl HB7.out hb7.out (Nat.le_refl _) rfl rfl rfl
        · have hq := str_diff hts
          rw [if_neg hts] at hcmp
          have Hcmp := Lib.hid hcmp
          clear hts hcmp
          go_wp2_with (go_at_call 19; (with_reducible refine HTX.out.mono ?_); rintro r w7 ⟨rfl, g7⟩; have hb7 := Lib.hid (after hb.out g7); have hB7 := hB.out.below g7 hB.out.lt; have hD7 := HDD.out.below g7 HDD.out.lt; clear a0 a1 a2; have a0 := hD7.cell 0; have a1 := hD7.cell 1; have a2 := hD7.cell 2; simp at a0 a1 a2; have c0 := hB7.cell 0; have c1 := hB7.cell 1; have c2 := hB7.cell 2; simp at c0 c1 c2; have fr := (fun i => hB7.frozen i); have HB7 := Lib.hid hB7; clear hB7 hD7 g7)
          rw [Hcmp.out]
          exact ret_ad3 (g := w.heap.size) (x := 2) (y := 3) rfl HB7.out hb7.out (Nat.le_refl _) rfl rfl rfl
  · have hin : O1.isSome = false ∨ (O1.isSome = true ∧ ((L1.length : Int) == 4) = false) := by
      cases h : O1.isSome with
      | false => exact Or.inl rfl
      | true => exact Or.inr ⟨rfl, by rw [h] at h4; simp at h4; simp; omega⟩
    have hrl := Hrd6.out (by
      rcases HL1.out with h | ⟨h, _⟩
      · exact Or.inr ⟨L1, h, fun e => h4 ⟨by rw [h]; rfl, e⟩⟩
      · exact Or.inl h)
    have hcl := cut_len s.data.toList [58, 58]
    obtain ⟨m, hm⟩ := (Henv.out.below Hb1.out).mx
    have hcut := Tryz.strings_Cut s ⟨#[58, 58]⟩ m w1 (by omega) hm
    unfold guess6 at hrl
    rw [show (⟨#[58, 58]⟩ : ByteArray).data.toList = [58, 58] from rfl] at hcut
    generalize Lib.cut s.data.toList [58, 58] = C at hcl hcut hrl
    obtain ⟨c1, c2, gap⟩ := C
    simp only at hcl hcut hrl
    have hsl : s.data.toList.length = s.size := (Lib.size_eq s).symm
    rw [hsl] at hcl
    have Hcl := Lib.hid hcl
    have HCut := Lib.hid hcut
    have Hrl := Lib.hid hrl
    clear h4 hm hcut hrl hsl hcl
    have hz1 : (⟨c1.toArray⟩ : ByteArray).size ≤ 100000 := by have := Hcl.out.1; rw [show (⟨c1.toArray⟩ : ByteArray).size = c1.length by simp [ByteArray.size]]; omega
    have hz2 : (⟨c2.toArray⟩ : ByteArray).size ≤ 100000 := by have := Hcl.out.2; rw [show (⟨c2.toArray⟩ : ByteArray).size = c2.length by simp [ByteArray.size]]; omega
    have HNX := Lib.hid (fun v hv => num16w (v := v) ((Henv.out.below Hb1.out).below hv) ⟨c1.toArray⟩ hz1 58)
    have HNY := Lib.hid (fun v hv => num16w (v := v) ((Henv.out.below Hb1.out).below hv) ⟨c2.toArray⟩ hz2 58)
    rw [show (⟨c1.toArray⟩ : ByteArray).data.toList = c1 by simp] at HNX
    rw [show (⟨c2.toArray⟩ : ByteArray).data.toList = c2 by simp] at HNY
    have hx2 : ∀ L, numbersL 58 16 65536 c1 = some L → (∀ x ∈ L, x < 65536) ∧ L.length ≤ 9 := fun L h => numbersL_lt h
    have hx3 : ∀ L, numbersL 58 16 65536 c2 = some L → (∀ x ∈ L, x < 65536) ∧ L.length ≤ 9 := fun L h => numbersL_lt h
    generalize numbersL 58 16 65536 c1 = O2 at HNX hx2 Hrl
    generalize numbersL 58 16 65536 c2 = O3 at HNY hx3 Hrl
    obtain ⟨T1, hT1⟩ : ∃ t, t = (⟨c1.toArray⟩ : ByteArray) := ⟨_, rfl⟩
    obtain ⟨T2, hT2⟩ : ∃ t, t = (⟨c2.toArray⟩ : ByteArray) := ⟨_, rfl⟩
    rw [← hT1] at HNX
    rw [← hT2] at HNY
    rw [← hT1, ← hT2] at HCut
    have Hx2 := Lib.hid hx2
    have Hx3 := Lib.hid hx3
    clear hx2 hx3 hT1 hT2 hz1 hz2
    obtain ⟨I1, hI1⟩ : ∃ b, b = O1.isSome := ⟨_, rfl⟩
    rw [← hI1] at hin ⊢
    clear hI1
    rcases hin with rfl | ⟨rfl, hq4⟩
    all_goals
      go_wp2_with (go_at_call 44; (with_reducible refine HCut.out.mono ?_); rintro r w2 ⟨rfl, n2, rfl⟩)
      go_at_call 43
      refine (HNX.out _ (below_drewN _ _)).mono ?_
      intro r w3 hg3
      obtain ⟨v2, L2, rfl, ho2, hL2, hb3⟩ := hg3.any
      have hbn : Below w1.heap.size w1 w3 := after (below_drewN w1 n2) hb3
      have Hbn := Lib.hid hbn
      have Ho2 := Lib.hid ho2
      have HL2 := Lib.hid hL2
      clear hg3 ho2 hL2 hb3 hbn
      go_wp2_with fail
      go_at_call 43
      refine (HNY.out _ Hbn.out).mono ?_
      intro r w4 hg4
      obtain ⟨v3, L3, rfl, ho3, hL3, hb4⟩ := hg4.any
      have Ho3 := Lib.hid ho3
      have HL3 := Lib.hid hL3
      have Ho2b := Lib.hid (own_below Ho2.out hb4)
      have Hbm := Lib.hid (after Hbn.out hb4)
      clear hg4 ho3 hL3 hb4
      have h2 : (∀ x ∈ L2, x < 65536) ∧ L2.length ≤ 9 := by
        rcases HL2.out with h | ⟨_, h⟩
        · exact Hx2.out L2 h
        · rw [h]; simp
      have h3 : (∀ x ∈ L3, x < 65536) ∧ L3.length ≤ 9 := by
        rcases HL3.out with h | ⟨_, h⟩
        · exact Hx3.out L3 h
        · rw [h]; simp
      have hwh := whole_any L2 L3 gap Ho2b.out Ho3.out h2.2 h3.2 h2.1 h3.1
      have hwok : ∀ a, wholeL L2 L3 gap = some a → a.Ok ∧ a.v6 = true := fun a h => wholeL_ok h h2.1 h3.1
      have hrl : RL = if O2.isSome = true ∧ O3.isSome = true then (wholeL L2 L3 gap).bind (fun a => if textL a = s.data.toList then some a else none) else none := by
        rw [Hrl.out]
        rcases HL2.out with h | ⟨h, _⟩
        · rcases HL3.out with h' | ⟨h', _⟩
          · rw [h, h']; rfl
          · rw [h, h']; rfl
        · rw [h]; rfl
      generalize wholeL L2 L3 gap = WO at hwh hwok hrl
      have HB4 := HB1.out.below Hbm.out HB1.out.lt
      have HD4 := HD1.out.below Hbm.out HD1.out.lt
      have Hb4 := after Hb1.out Hbm.out
      generalize O2.isSome = i2 at hrl ⊢
      generalize O3.isSome = i3 at hrl ⊢
      cases WO with
      | none =>
        have hrn : RL = none := by rw [hrl]; split <;> rfl
        have HWH := Lib.hid (show Calls _ _ _ w4 (Got (.tuple #[.agg #[.bool false, .int .u64 0, .int .u64 0], .bool false]) w4) from hwh)
        have Hrn := Lib.hid hrn
        have HB4h := Lib.hid HB4
        have HD4h := Lib.hid HD4
        have Hb4h := Lib.hid Hb4
        clear hrn hrl hwh hwok h2 h3 HB4 HD4 Hb4
        go_upto_region 14 with (go_at_call 45; (with_reducible refine HWH.out.mono ?_); rintro r w5 ⟨rfl, g5⟩; have hB5 := HB4h.out.below g5 HB4h.out.lt; have hD5 := HD4h.out.below g5 HD4h.out.lt; have hb5 := after Hb4h.out g5; have d0 := hD5.cell 0; have d1 := hD5.cell 1; have d2 := hD5.cell 2; simp at d0 d1 d2; have fr := (fun i => hD5.frozen i))
        obtain ⟨hD6, hb6⟩ := three (v0 := .bool false) (v1 := .int .u64 0) (v2 := .int .u64 0) hD5 hb5 (by omega)
        have hB6 : Blk (((w5.setCell ⟨w.heap.size + 1, 0, none⟩ (.bool false)).setCell ⟨w.heap.size + 1, 1, none⟩ (.int .u64 0)).setCell ⟨w.heap.size + 1, 2, none⟩ (.int .u64 0)) w.heap.size 24 #[.bool false, .int .u64 0, .int .u64 0] := ((hB5.far (p := ⟨w.heap.size + 1, 0, none⟩) (by simp) _).far (p := ⟨w.heap.size + 1, 1, none⟩) (by simp) _).far (p := ⟨w.heap.size + 1, 2, none⟩) (by simp) _
        generalize (((w5.setCell ⟨w.heap.size + 1, 0, none⟩ (.bool false)).setCell ⟨w.heap.size + 1, 1, none⟩ (.int .u64 0)).setCell ⟨w.heap.size + 1, 2, none⟩ (.int .u64 0)) = w6 at hD6 hb6 hB6 ⊢
        clear d0 d1 d2 fr hB5 hD5 hb5 g5
        have c0 := hB6.cell 0
        have c1 := hB6.cell 1
        have c2 := hB6.cell 2
        simp at c0 c1 c2
        have fr := fun i => hB6.frozen i
        have HB6 := Lib.hid hB6
        have HD6 := Lib.hid hD6
        have Hb6 := Lib.hid hb6
        clear hB6 hD6 hb6
        cases i2
        all_goals cases i3
        all_goals
          go_wp2_with fail
          rw [Hrn.out]
          exact ret_ad3 (g := w.heap.size) (x := 2) (y := 3) rfl HB6.out Hb6.out (Nat.le_refl _) rfl rfl rfl
      | some a =>
        obtain ⟨hok, h6⟩ := hwok a rfl
        have htx := fun v (hv : Below w.heap.size w v) => text_any (Henv.out.below hv) a hok
        have hcells : a.cells = #[.bool a.v6, .int .u64 (a.hi : Int), .int .u64 (a.lo : Int)] := rfl
        have hcmp : i2 = true → i3 = true → RL = if textB a = s then some a else none := fun e1 e2 => by
          rw [hrl, if_pos ⟨e1, e2⟩]
          show (if textL a = s.data.toList then some a else none) = _
          by_cases h : textB a = s
          · rw [if_pos h, if_pos (textB_iff.1 h)]
          · rw [if_neg h, if_neg (fun e => h (textB_iff.2 e))]
        have hrn : ¬ (i2 = true ∧ i3 = true) → RL = none := fun h => by rw [hrl, if_neg h]
        have hwh2 : Calls _ _ _ w4 (Got (.tuple #[.agg a.cells, .bool true]) w4) := hwh
        rw [hcells] at hwh2 htx
        obtain ⟨TB, hTB⟩ : ∃ t, t = textB a := ⟨_, rfl⟩
        rw [← hTB] at htx hcmp
        generalize a.v6 = av at htx hwh2 hcells
        generalize a.hi = ahi at htx hwh2 hcells
        generalize a.lo = alo at htx hwh2 hcells
        have HTX := Lib.hid htx
        have HWH := Lib.hid hwh2
        have Hcells := Lib.hid hcells
        have Hcmp := Lib.hid hcmp
        have Hrn := Lib.hid hrn
        have HB4h := Lib.hid HB4
        have HD4h := Lib.hid HD4
        have Hb4h := Lib.hid Hb4
        clear hrn hrl hwh hwok h2 h3 HB4 HD4 Hb4 htx hwh2 hcells hcmp hTB hok h6
        go_upto_region 14 with (go_at_call 45; (with_reducible refine HWH.out.mono ?_); rintro r w5 ⟨rfl, g5⟩; have hB5 := HB4h.out.below g5 HB4h.out.lt; have hD5 := HD4h.out.below g5 HD4h.out.lt; have hb5 := after Hb4h.out g5; have d0 := hD5.cell 0; have d1 := hD5.cell 1; have d2 := hD5.cell 2; simp at d0 d1 d2; have fr := (fun i => hD5.frozen i))
        obtain ⟨hD6, hb6⟩ := three (v0 := .bool av) (v1 := .int .u64 (ahi : Int)) (v2 := .int .u64 (alo : Int)) hD5 hb5 (by omega)
        have hB6 : Blk (((w5.setCell ⟨w.heap.size + 1, 0, none⟩ (.bool av)).setCell ⟨w.heap.size + 1, 1, none⟩ (.int .u64 (ahi : Int))).setCell ⟨w.heap.size + 1, 2, none⟩ (.int .u64 (alo : Int))) w.heap.size 24 #[.bool false, .int .u64 0, .int .u64 0] := ((hB5.far (p := ⟨w.heap.size + 1, 0, none⟩) (by simp) _).far (p := ⟨w.heap.size + 1, 1, none⟩) (by simp) _).far (p := ⟨w.heap.size + 1, 2, none⟩) (by simp) _
        generalize (((w5.setCell ⟨w.heap.size + 1, 0, none⟩ (.bool av)).setCell ⟨w.heap.size + 1, 1, none⟩ (.int .u64 (ahi : Int))).setCell ⟨w.heap.size + 1, 2, none⟩ (.int .u64 (alo : Int))) = w6 at hD6 hb6 hB6 ⊢
        clear d0 d1 d2 fr hB5 hD5 hb5 g5
        have c0 := hB6.cell 0
        have c1 := hB6.cell 1
        have c2 := hB6.cell 2
        simp at c0 c1 c2
        have fr := fun i => hB6.frozen i
        have HB6 := Lib.hid hB6
        have HD6 := Lib.hid hD6
        have Hb6 := Lib.hid hb6
        clear hB6 hD6 hb6
        cases i2
        all_goals cases i3
        case true.true =>
          have hcmp := Hcmp.out rfl rfl
          have a0 := HD6.out.cell 0
          have a1 := HD6.out.cell 1
          have a2 := HD6.out.cell 2
          simp at a0 a1 a2
          have HTX2 := Lib.hid (HTX.out w6 Hb6.out)
          by_cases hts : TB = s
          · have hq := str_same hts
            rw [if_pos hts] at hcmp
            have Hcmp2 := Lib.hid hcmp
            clear hts hcmp c0 c1 c2 fr
            go_wp2_with (go_at_call 19; (with_reducible refine HTX2.out.mono ?_); rintro r w7 ⟨rfl, g7⟩; have hb7 := Lib.hid (after Hb6.out g7); have hB7 := HB6.out.below g7 HB6.out.lt; have hD7 := HD6.out.below g7 HD6.out.lt; clear a0 a1 a2; have a0 := hD7.cell 0; have a1 := hD7.cell 1; have a2 := hD7.cell 2; simp at a0 a1 a2; have c0 := hB7.cell 0; have c1 := hB7.cell 1; have c2 := hB7.cell 2; simp at c0 c1 c2; have fr := (fun i => hB7.frozen i); have HB7 := Lib.hid hB7; clear hB7 hD7 g7)
            rw [Hcmp2.out]
            show bodyPost _ _ (Got (.tuple #[.agg a.cells, .int .i64 0]) w) _ _ _
            rw [Hcells.out]
            exact ret_ad3 (g := w.heap.size) (x := 2) (y := 3) rfl HB7.out hb7.out (Nat.le_refl _) rfl rfl rfl
          · have hq := str_diff hts
            rw [if_neg hts] at hcmp
            have Hcmp2 := Lib.hid hcmp
            clear hts hcmp c0 c1 c2 fr
            go_wp2_with (go_at_call 19; (with_reducible refine HTX2.out.mono ?_); rintro r w7 ⟨rfl, g7⟩; have hb7 := Lib.hid (after Hb6.out g7); have hB7 := HB6.out.below g7 HB6.out.lt; have hD7 := HD6.out.below g7 HD6.out.lt; clear a0 a1 a2; have a0 := hD7.cell 0; have a1 := hD7.cell 1; have a2 := hD7.cell 2; simp at a0 a1 a2; have c0 := hB7.cell 0; have c1 := hB7.cell 1; have c2 := hB7.cell 2; simp at c0 c1 c2; have fr := (fun i => hB7.frozen i); have HB7 := Lib.hid hB7; clear hB7 hD7 g7)
            rw [Hcmp2.out]
            exact ret_ad3 (g := w.heap.size) (x := 2) (y := 3) rfl HB7.out hb7.out (Nat.le_refl _) rfl rfl rfl
        all_goals
          have hrn := Hrn.out (by decide)
          have Hrn2 := Lib.hid hrn
          clear hrn
          go_wp2_with fail
          rw [Hrn2.out]
          exact ret_ad3 (g := w.heap.size) (x := 2) (y := 3) rfl HB6.out Hb6.out (Nat.le_refl _) rfl rfl rfl
end Go.Proofs.YtomndcjgdfhmbaaGreatDoor
