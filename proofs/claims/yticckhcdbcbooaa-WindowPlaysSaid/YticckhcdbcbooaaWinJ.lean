/- WindowPlays: the walk. -/
import Derived.Test.YticckhcdbcbooaaWinI
namespace Go.Proofs.Yticckhcdbcbooaa
open Go.RowKit Win

set_option maxHeartbeats 2000000 in
set_option maxRecDepth 100000 in
theorem plays_main (size len cap0 : Nat) (A0 : Option Addr) (xs : List Nat) (c : Int) (w : World) (h1 : 1 ≤ size) (h2 : size ≤ 4096) (hlen : len ≤ 300) (hx : Nums w A0 len xs) (hc0 : 0 ≤ c) (hc1 : c < 18446744073709551616) :
    Calls Try.prog 4 #[.int .i64 (size : Int), .slice A0 len cap0, .int .u64 c] w fun e w' => e = .returned (.bool true) ∧ Below w.heap.size w w' := by
  go_enter Try.func4, Try.ntmps4
  go_wp2_with fail
  refine (new_yes size w h1 h2).mono ?_
  rintro e w1 ⟨rfl, r0, b1, hs⟩
  have S := Lib.hid hs
  clear hs
  have hst0 : PState w w1.heap.size size (St.new size) [] none 0 (w.heap.size + 1) w.heap.size (w1.alloc (.cells #[.int .i64 (size : Int), .slice none 0 0] 33)) := by
    have e := S.out
    refine ⟨rfl, ?_, Win.Inv.new size h1, ⟨Blk.new w1 33 _, ⟨rfl, .inl ⟨rfl, rfl⟩⟩, by simp⟩, by simp [Value.ownBlock], by omega, by omega, by omega, b1.alloc b1.size _, by simp⟩
    exact r0.below ((Below.refl w1.heap.size w1).alloc (Nat.le_refl _) _) (by omega) (by omega)
  go_wp2_with fail
  go_loopw [7, 10] (fun p i wr => PlaysRel w w1.heap.size size len p i wr) (fun _ i _ => len - (intOf i).toNat)
  case atStart => exact ⟨0, St.new size, [], none, 0, w.heap.size + 1, w.heap.size, by omega, by simp, rfl, rfl, hst0⟩
  case round =>
    clear hst0 r0 b1 S
    obtain ⟨k, s, L, A, cap, b, bb, hk, hLk, rfl, rfl, hst⟩ := hrel
    by_cases hlt : k < len
    · obtain ⟨ab, off, rfl, hab, hc⟩ := hx.mem (by omega)
      have hcell := (hst.below.cell (p := ⟨ab, off + k, none⟩) hab).trans (hc k hlt)
      obtain ⟨n, hn⟩ : ∃ n, n = xs.getD k 0 := ⟨_, rfl⟩
      have hn2 : n < 18446744073709551616 := by
        rw [hn, List.getD_eq_getElem?_getD, List.getElem?_eq_getElem (by have := hx.sz; omega)]
        exact hx.lt _ (List.getElem_mem _)
      rw [← hn] at hcell
      have Hc := Lib.hid hc
      have Hn := Lib.hid hn
      clear hn hc
      go_upto_if 61 with fail
      go_cut [7] (fun p wx => ∃ (b2 bb2 : Nat), p = .pointer (some ⟨b2, 0, none⟩) ∧ PState w w1.heap.size size s L A cap b2 bb2 wx)
      case first =>
        cases hbit : (bits BinOp.and IntKind.u64 (c / 2 ^ (k % 64)) 1 == 1) with
        | false =>
          go_wp2_with fail
          go_meet
          exact ⟨b, bb, rfl, hst⟩
        | true =>
          go_wp2_with fail
          refine (copy_rep b bb s _ hst.rep).mono ?_
          rintro e w2 ⟨b2, bb2, rfl, hR2, hB2, l1, l2⟩
          have hcell2 := (hB2.cell (p := ⟨ab, off + k, none⟩) (show ab < wr.heap.size by have := hst.below.size; omega)).trans hcell
          have hRo := hst.rep.below hB2 hst.rep.ltB hst.rep.ltBB
          have hwr := wrap_u64_bd ((n : Int) + 1)
          go_wp2_with fail
          refine (mark_some b bb s _ _ ?_ ?_ hRo).mono ?_
          · first | exact hwr.1 | omega
          · first | exact hwr.2 | omega
          rintro e w3 ⟨rfl, hR3, k3⟩
          go_wp2_with fail
          refine (mark_some b bb _ 0 _ (by omega) (by omega) hR3).mono ?_
          rintro e w4 ⟨rfl, hR4, k4⟩
          go_wp2_with fail
          go_meet
          exact ⟨b2, bb2, rfl, hst.copy hR2 hB2 l1 l2 (k3.trans k4)⟩
      case rest =>
        obtain ⟨b2, bb2, rfl, hst2⟩ := hcut
        have hcell := (hst2.below.cell (p := ⟨ab, off + k, none⟩) hab).trans (Hc.out k hlt)
        rw [← Hn.out] at hcell
        have hrm := rmay_inv hst2.inv n
        rw [hst2.sz] at hrm
        have hi0 : (0 : Int) ≤ (k : Int) := by omega
        have hL3 : L.length < 300 := by omega
        have hw8 := hst2.size
        have Hrm := Lib.hid hrm
        clear hrm
        go_wp2_with fail
        go_region_held3 (fun w' => w'.cell? ⟨ab, off + k, none⟩ = some (.int .u64 (n : Int))) (first | exact hcell | assumption | go_keep)
          (first
            | (go_at_call 10; refine (may_rep b2 bb2 s n _ ?_).mono ?_; (first | exact hst2.rep | exact (hst2.drewN _).rep); rintro e w5 ⟨rfl, q1, rfl⟩)
            | (go_at_call 11; refine (rmay_any (w1.heap.size + 1) w1.heap.size size n L A cap _ ?_ ?_ ?_ ?_).mono ?_; (exact (hst2.drewN _).ref); (omega); (omega); (exact hn2); rw [Hrm.out]; rintro e w5 ⟨rfl, q2, rfl⟩)
            | (go_at_call 8; refine (mark_rep b2 bb2 s n _ hn2 ?_).mono ?_; (exact (hst2.drewN _).rep); rintro e w5 ⟨rfl, hR5, k5⟩; have hcell5 := k5.cell (a := ⟨ab, off + k, none⟩) (by have := hst2.lb; have := hst2.lbb; rintro (e | e) <;> simp at e <;> omega) hcell)
            | (go_at_call 12; refine (rmark_any (w1.heap.size + 1) w1.heap.size size n L A cap _ ?_ ?_ ?_ ?_ ?_ ?_).mono ?_; (exact (hst2.drewN _).ref.keep k5 (by have := RRep.ne hst2.rep hst2.ref; omega) (fun g hg => by have := hst2.apart g hg; omega)); (omega); (omega); (exact hn2); (omega); (have := k5.size; simp at this; omega); rintro e w6 ⟨rfl, ⟨A', cap', hR6, hap6⟩, k6⟩; have hcell6 := k6.cell (a := ⟨ab, off + k, none⟩) (by have := hst2.lrb; rintro (e | e); (simp at e; omega); (have := hst2.own_ne _ e; simp at this; omega)) hcell5; rw [Hrm.out]))
        have hst6 := (hst2.drewN _).mark hR5 k5 hR6 hap6 k6
        have hL6 : (rmark size L n).length ≤ k + 1 := by
          unfold rmark
          split
          · simp; omega
          · omega
        have hh := rhigh_any (w1.heap.size + 1) w1.heap.size size (rmark size L n) A' cap'
        rw [hiL_inv hst6.inv, ← hst6.inv.any] at hh
        have HH := Lib.hid hh
        clear hh
        go_wp2_with (first
          | (go_at_call 13; refine (highest_rep b2 bb2 (s.mark n) _ ?_).mono ?_; (first | exact hst6.rep | exact (hst6.drewN _).rep); rintro e w7 ⟨rfl, q3, rfl⟩)
          | (go_at_call 14; refine (HH.out _ ?_ ?_).mono ?_; (first | exact hst6.ref | exact (hst6.drewN _).ref); (omega); rintro e w7 ⟨rfl, q4, rfl⟩))
        go_roundw
        case rel => exact ⟨k + 1, _, _, A', cap', b2, bb2, by omega, hL6, by go_num, rfl, hst6.drewN _⟩
        case measure => simp [intOf]; omega
    · obtain rfl : k = len := by omega
      go_wp2_with fail
      refine (alive_any _).mono ?_
      rintro e w4 ⟨rfl, hb4⟩
      go_wp2_with fail
      go_ret
      exact ⟨rfl, hst.below.trans (hb4.mono hst.below.size)⟩

theorem plays_err (size : Int) (A : Option Addr) (len cap : Nat) (c : Int) (w : World) (hl : len ≤ 300) (h : size < 1 ∨ 4096 < size) :
    Calls Try.prog 4 #[.int .i64 size, .slice A len cap, .int .u64 c] w fun e w' => e = .returned (.bool true) ∧ Below w.heap.size w w' := by
  by_cases h1 : size < 1
  · go_enter Try.func4, Try.ntmps4
    go_wp2_with fail
    refine (new_no size w h).mono ?_
    rintro e w1 ⟨rfl, rfl⟩
    go_wp2_with fail
    refine (alive_any _).mono ?_
    rintro e w1 ⟨rfl, hb⟩
    go_wp2_with fail
    go_ret
    exact ⟨rfl, hb⟩
  · have h2 : 4096 < size := by omega
    go_enter Try.func4, Try.ntmps4
    go_wp2_with fail
    refine (new_no size w h).mono ?_
    rintro e w1 ⟨rfl, rfl⟩
    go_wp2_with fail
    refine (alive_any _).mono ?_
    rintro e w1 ⟨rfl, hb⟩
    go_wp2_with fail
    go_ret
    exact ⟨rfl, hb⟩

theorem plays_long (size : Int) (A : Option Addr) (len cap : Nat) (c : Int) (w : World) (hlen : 300 < len) :
    Calls Try.prog 4 #[.int .i64 size, .slice A len cap, .int .u64 c] w fun e w' => e = .returned (.bool true) ∧ Below w.heap.size w w' := by
  have hl : (300 : Int) < (len : Int) := by omega
  go_enter Try.func4, Try.ntmps4
  go_wp2_with fail
  refine (alive_any _).mono ?_
  rintro e w2 ⟨rfl, hb⟩
  go_wp2_with fail
  go_ret
  exact ⟨rfl, hb⟩

theorem plays_all (size : Int) (A : Option Addr) (len cap : Nat) (c : Int) (w : World) (hx : ∃ xs, Nums w A len xs) (hc : (Lit.int .u64 c).wf = true) :
    Calls Try.prog 4 #[.int .i64 size, .slice A len cap, .int .u64 c] w fun e w' => e = .returned (.bool true) ∧ Below w.heap.size w w' := by
  by_cases hl : 300 < len
  · exact plays_long size A len cap c w hl
  · by_cases h : size < 1 ∨ 4096 < size
    · exact plays_err size A len cap c w (by omega) h
    · obtain ⟨n, rfl⟩ := Int.eq_ofNat_of_zero_le (show 0 ≤ size by omega)
      obtain ⟨xs, hx⟩ := hx
      exact plays_main n len cap A xs c w (by omega) (by omega) (by omega) hx (wf_u64 hc).1 (wf_u64 hc).2

end Go.Proofs.Yticckhcdbcbooaa
