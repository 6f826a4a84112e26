/- WindowOnce: the walk. -/
import Derived.Test.YticckhcdbcbooaaWinF
namespace Go.Proofs.Yticckhcdbcbooaa
open Go.RowKit Win

def OnceRel (w : World) (size len : Nat) (hi an ma i : Value) (wr : World) : Prop :=
  ∃ (k : Nat) (s : St) (L : List Nat) (A : Option Addr) (cap : Nat), k ≤ len ∧ L.length ≤ k ∧ i = .int .i64 (k : Int) ∧ hi = .int .u64 (s.high : Int) ∧ an = .bool s.any ∧ ma = .slice A L.length cap ∧
    s.size = size ∧ Rep wr (w.heap.size + 1) w.heap.size s ∧ Inv s L ∧ wr.ownsRow (w.heap.size + 2) 28 1 (.slice A L.length cap) L.length (cellsU L) ∧ Below w.heap.size w wr ∧ w.heap.size + 2 ≤ wr.heap.size

theorem beq_cast (x n : Nat) : ((x : Int) == (n : Int)) = (x == n) := by
  rw [Bool.eq_iff_iff, beq_iff_eq, beq_iff_eq]
  omega

theorem once_no {w wr w2 : World} {size len k n q : Nat} {s : St} {L : List Nat} {A : Option Addr} {cap : Nat} (hlt : k < len) (hLk : L.length ≤ k) (hsz : s.size = size) (hI : Inv s L)
    (hown : wr.ownsRow (w.heap.size + 2) 28 1 (.slice A L.length cap) L.length (cellsU L)) (hb : Below w.heap.size w wr) (hsize : w.heap.size + 2 ≤ wr.heap.size) (hm : (s.may n == 0) = false) {t : Bool} (ht : s.any = t)
    (hR2 : Rep w2 (w.heap.size + 1) w.heap.size (s.mark n)) (k2 : Keeps (fun g => g = w.heap.size + 1 ∨ g = w.heap.size) (wr.drewN q) w2) :
    OnceRel w size len (.int .u64 (s.high : Int)) (.bool t) (.slice A L.length cap) (.int .i64 ((k : Int) + 1)) w2 := by
  subst ht
  have hmk : s.mark n = s := by
    have : ¬ s.may n = 0 := by simpa using hm
    simp [St.mark, this]
  rw [hmk] at hR2
  have hz : wr.heap.size ≤ w2.heap.size := k2.size
  exact ⟨k + 1, s, L, A, cap, by omega, by omega, by go_num, rfl, rfl, rfl, hsz, hR2, hI, own_keeps (w := wr.drewN q) hown k2 (by rintro g (rfl | rfl) <;> omega),
    hb.trans ((k2.below_drewN (B := w.heap.size) (by rintro g (rfl | rfl) <;> omega) (show w.heap.size ≤ wr.heap.size by omega))), by omega⟩

theorem once_yes {w wr w2 w3 : World} {size len k n q : Nat} {s : St} {L : List Nat} {A : Option Addr} {cap : Nat} {v' : Value} {o : Obj} (hlt : k < len) (hLk : L.length ≤ k) (hsz : s.size = size) (hI : Inv s L)
    (hb : Below w.heap.size w wr) (hsize : w.heap.size + 2 ≤ wr.heap.size) (hm : s.may n = 0)
    (hown : wr.ownsRow (w.heap.size + 2) 28 1 (.slice A L.length cap) L.length (cellsU L))
    (hR2 : Rep w2 (w.heap.size + 1) w.heap.size (s.mark n)) (k2 : Keeps (fun g => g = w.heap.size + 1 ∨ g = w.heap.size) (wr.drewN q) w2)
    (hown3 : w3.ownsRow (w.heap.size + 2) 28 1 v' (L.length + 1) (cellsU L ++ [.int .u64 (n : Int)])) (hg : (w2.alloc o).grownBy w3 (Value.slice A L.length cap).ownBlock) {hi : Int} (hhi : hi = ((max s.high n : Nat) : Int)) :
    OnceRel w size len (.int .u64 hi) (.bool true) v' (.int .i64 ((k : Int) + 1)) w3 := by
  have hmk : s.mark n = s.put n := by simp [St.mark, hm]
  rw [hmk] at hR2
  have hz : wr.heap.size ≤ w2.heap.size := k2.size
  obtain ⟨A', cap', rfl⟩ := own_slice hown3
  have hrow : ∀ g, (Value.slice A L.length cap).ownBlock = some g → w.heap.size + 2 ≤ g := fun g hg => (hown.lt g hg).1
  have hb2 : Below w.heap.size w w2 := hb.trans ((k2.below_drewN (B := w.heap.size) (by rintro g (rfl | rfl) <;> omega) (show w.heap.size ≤ wr.heap.size by omega)))
  have hb3 : Below (w.heap.size + 2) w2 w3 := ((Below.refl _ _).alloc (by omega) o).grown hg (by simp; omega) hrow
  refine ⟨k + 1, s.put n, L ++ [n], A', cap', by omega, by simp; omega, by go_num, ?_, rfl, by simp, by rw [← hsz]; rfl, hR2.below hb3 (by omega) (by omega), hI.snoc hm, ?_, hb2.trans (hb3.mono (by omega)), ?_⟩
  · rw [Win.St.put_high s n hI.none]
    rw [hhi]
  · simpa [cellsU] using hown3
  · have := hb3.size
    omega

set_option maxHeartbeats 1000000 in
set_option maxRecDepth 100000 in
theorem once_main (size len cap : Nat) (A : Option Addr) (xs : List Nat) (w : World) (h1 : 1 ≤ size) (h2 : size ≤ 4096) (hlen : len ≤ 300) (hx : Nums w A len xs) :
    Calls Try.prog 3 #[.int .i64 (size : Int), .slice A len cap] w fun e w' => e = .returned (.bool true) ∧ Below w.heap.size w w' := by
  go_enter Try.func3, Try.ntmps3
  go_wp2_with fail
  refine (new_yes size w h1 h2).mono ?_
  rintro e w1 ⟨rfl, r0, b1, hs⟩
  have S := Lib.hid hs
  clear hs
  obtain ⟨i0, hi0, hz0, hz1, hz2⟩ := info_parts info28
  go_wp2_with fail
  go_loopw [7, 8, 9, 10] (fun hi an ma i wr => OnceRel w size len hi an ma i wr) (fun _ _ _ i _ => len - (intOf i).toNat)
  case atStart => exact ⟨0, St.new size, [], none, 0, by omega, by simp, rfl, rfl, rfl, rfl, rfl, r0, Win.Inv.new size h1, ⟨rfl, .inl ⟨rfl, rfl⟩⟩, b1, by have := S.out; omega⟩
  case round =>
    obtain ⟨k, s, L, A2, cap2, hk, hLk, rfl, rfl, rfl, rfl, hsz, hR, hI, hown, hb, hsize⟩ := hrel
    by_cases hlt : k < len
    · obtain ⟨ab, off, rfl, hab, hc⟩ := hx.mem (by omega)
      have hcell := (hb.cell (p := ⟨ab, off + k, none⟩) hab).trans (hc k hlt)
      obtain ⟨n, hn⟩ : ∃ n, n = xs.getD k 0 := ⟨_, rfl⟩
      have hn2 : n < 18446744073709551616 := by
        rw [hn, List.getD_eq_getElem?_getD, List.getElem?_eq_getElem (by have := hx.sz; omega)]
        exact hx.lt _ (List.getElem_mem _)
      rw [← hn] at hcell
      have hone : ∀ u ∈ [Value.int .u64 (n : Int)], u.oneCell' = true := by
        intro u hu
        rw [List.mem_singleton.1 hu]
        rfl
      clear hn hc
      go_wp2_with fail
      go_loopw [11, 12] (fun sn j wr2 => ∃ (i q : Nat), i ≤ L.length ∧ j = .int .i64 (i : Int) ∧ sn = .bool (seenB L i n) ∧ wr2 = wr.drewN q) (fun _ j _ => L.length - (intOf j).toNat)
      case atStart => exact ⟨0, 0, Nat.zero_le _, rfl, by rw [seenB_zero], rfl⟩
      case round =>
        obtain ⟨i, q, hi, rfl, rfl, rfl⟩ := hrel
        by_cases hil : i < L.length
        · obtain ⟨g, rfl, hg⟩ := own_cell hown hil
          have hsucc := seenB_succ L i n hil
          obtain ⟨x, hxx⟩ : ∃ x, x = L.getD i 0 := ⟨_, rfl⟩
          rw [← hxx] at hg hsucc
          have Hsucc := Lib.hid hsucc
          clear hsucc hxx
          have hi0 : (0 : Int) ≤ (i : Int) := by omega
          have hk0 : (0 : Int) ≤ (k : Int) := by omega
          cases hs : seenB L i n with
          | true =>
            have Hs := Lib.hid hs
            clear hs
            go_wp2_with fail
            go_quiet (fail)
            go_wp2_with fail
            go_roundw
            case rel => exact ⟨i + 1, _, by omega, by go_num, by rw [Hsucc.out, Hs.out]; rfl, rfl⟩
            case measure => simp [intOf]; omega
          | false =>
            have Hs := Lib.hid hs
            clear hs
            go_wp2_with fail
            go_quiet (fail)
            go_wp2_with fail
            go_roundw
            case rel => exact ⟨i + 1, _, by omega, by go_num, by rw [Hsucc.out, Hs.out, Bool.false_or, beq_cast], rfl⟩
            case measure => simp [intOf]; omega
        · obtain rfl : i = L.length := by omega
          clear hi hil
          have hall := seenB_all L n
          have hR' := hR.drewN q
          have hhb := hR.hb
          rcases once_cases s L n hI with ⟨ha, hm, hv⟩ | ⟨ha, hn1, hm, hv⟩ | ⟨ha, hn1, hm, hv⟩ | ⟨ha, hn1, ho, hv⟩ | ⟨ha, hn1, ho, hm, hv⟩ | ⟨ha, hn1, ho, hm, hv⟩
          all_goals try rw [hsz] at ho
          · have hs : seenB L L.length n = false := by simpa [hall] using hm
            clear hall hm
            have Hv := Lib.hid hv
            go_wp2_with fail
            refine (mark_rep _ _ s n _ hn2 hR').mono ?_
            rintro e w2 ⟨rfl, hR2, k2⟩
            have hcell2 := (k2.below_drewN (B := w.heap.size) (by rintro g (rfl | rfl) <;> omega) (show w.heap.size ≤ wr.heap.size by omega)).cell (p := ⟨ab, off + k, none⟩) hab
            have hcell3 : w2.cell? ⟨ab, off + k, none⟩ = some (.int .u64 (n : Int)) := hcell2.trans hcell
            have hab2 : ab < w2.heap.size := by have h5 : wr.heap.size ≤ w2.heap.size := k2.size; have := hb.size; omega
            clear hcell2
            have hown2 := own_keeps (w := wr.drewN q) hown k2 (by rintro g (rfl | rfl) <;> omega)
            have Hown2 := Lib.hid hown2
            clear hown2
            have hsz2 : w.heap.size + 2 ≤ w2.heap.size := by have h5 : wr.heap.size ≤ w2.heap.size := k2.size; omega
            go_wp2_with (at_builtin; refine wpList_append_own _ rfl (.tmp 86) (.tmp 91) _ rfl (w.heap.size + 2) 28 i0 _ 1 8 Try.underlying22 hi0 hz0 hz1 hz2 rfl (by omega) (.slice A2 L.length cap2) L.length (cellsU L) rfl (Hown2.out.alloc _) ⟨w2.heap.size, 0, none⟩ 1 1 [.int .u64 (n : Int)] rfl rfl (cell_one_new _ _ _) hone (by simp only [maxLen]; omega) (by omega) (by simp; omega) ?_; intro v' w3 hown3 hgrow _; have hcell4 := append_cell Hown2.out hgrow hcell3 (show ab < w.heap.size + 2 by omega))
            go_roundw
            case rel => exact once_yes hlt hLk hsz hI hb hsize Hv.out hown hR2 k2 hown3 hgrow (by first | omega | (split <;> omega))
            case measure => simp [intOf]; omega
          · have hs : seenB L L.length n = false := by simpa [hall] using hm
            clear hall hm
            have Hv := Lib.hid hv
            go_wp2_with fail
            refine (mark_rep _ _ s n _ hn2 hR').mono ?_
            rintro e w2 ⟨rfl, hR2, k2⟩
            have hcell2 := (k2.below_drewN (B := w.heap.size) (by rintro g (rfl | rfl) <;> omega) (show w.heap.size ≤ wr.heap.size by omega)).cell (p := ⟨ab, off + k, none⟩) hab
            have hcell3 : w2.cell? ⟨ab, off + k, none⟩ = some (.int .u64 (n : Int)) := hcell2.trans hcell
            have hab2 : ab < w2.heap.size := by have h5 : wr.heap.size ≤ w2.heap.size := k2.size; have := hb.size; omega
            clear hcell2
            have hown2 := own_keeps (w := wr.drewN q) hown k2 (by rintro g (rfl | rfl) <;> omega)
            have Hown2 := Lib.hid hown2
            clear hown2
            have hsz2 : w.heap.size + 2 ≤ w2.heap.size := by have h5 : wr.heap.size ≤ w2.heap.size := k2.size; omega
            go_wp2_with (at_builtin; refine wpList_append_own _ rfl (.tmp 86) (.tmp 91) _ rfl (w.heap.size + 2) 28 i0 _ 1 8 Try.underlying22 hi0 hz0 hz1 hz2 rfl (by omega) (.slice A2 L.length cap2) L.length (cellsU L) rfl (Hown2.out.alloc _) ⟨w2.heap.size, 0, none⟩ 1 1 [.int .u64 (n : Int)] rfl rfl (cell_one_new _ _ _) hone (by simp only [maxLen]; omega) (by omega) (by simp; omega) ?_; intro v' w3 hown3 hgrow _; have hcell4 := append_cell Hown2.out hgrow hcell3 (show ab < w.heap.size + 2 by omega))
            go_roundw
            case rel => exact once_yes hlt hLk hsz hI hb hsize Hv.out hown hR2 k2 hown3 hgrow (by first | omega | (split <;> omega))
            case measure => simp [intOf]; omega
          · have hs : seenB L L.length n = true := by simpa [hall] using hm
            clear hall hm
            go_wp2_with fail
            refine (mark_rep _ _ s n _ hn2 hR').mono ?_
            rintro e w2 ⟨rfl, hR2, k2⟩
            go_wp2_with fail
            go_roundw
            case rel => exact once_no hlt hLk hsz hI hown hb hsize (by rw [hv]; rfl) ha hR2 k2
            case measure => simp [intOf]; omega
          · clear hall
            have hd : decide ((size : Int) ≤ (s.high : Int) - (n : Int)) = true := by simp; omega
            cases hs : seenB L L.length n
            all_goals
              have Hs := Lib.hid hs
              clear hs
              go_wp2_with fail
              refine (mark_rep _ _ s n _ hn2 hR').mono ?_
              rintro e w2 ⟨rfl, hR2, k2⟩
              go_wp2_with fail
              go_roundw
              case rel => exact once_no hlt hLk hsz hI hown hb hsize (by rw [hv]; rfl) ha hR2 k2
              case measure => simp [intOf]; omega
          · have hs : seenB L L.length n = false := by simpa [hall] using hm
            clear hall hm
            have Hv := Lib.hid hv
            go_wp2_with fail
            refine (mark_rep _ _ s n _ hn2 hR').mono ?_
            rintro e w2 ⟨rfl, hR2, k2⟩
            have hcell2 := (k2.below_drewN (B := w.heap.size) (by rintro g (rfl | rfl) <;> omega) (show w.heap.size ≤ wr.heap.size by omega)).cell (p := ⟨ab, off + k, none⟩) hab
            have hcell3 : w2.cell? ⟨ab, off + k, none⟩ = some (.int .u64 (n : Int)) := hcell2.trans hcell
            have hab2 : ab < w2.heap.size := by have h5 : wr.heap.size ≤ w2.heap.size := k2.size; have := hb.size; omega
            clear hcell2
            have hown2 := own_keeps (w := wr.drewN q) hown k2 (by rintro g (rfl | rfl) <;> omega)
            have Hown2 := Lib.hid hown2
            clear hown2
            have hsz2 : w.heap.size + 2 ≤ w2.heap.size := by have h5 : wr.heap.size ≤ w2.heap.size := k2.size; omega
            go_wp2_with (at_builtin; refine wpList_append_own _ rfl (.tmp 86) (.tmp 91) _ rfl (w.heap.size + 2) 28 i0 _ 1 8 Try.underlying22 hi0 hz0 hz1 hz2 rfl (by omega) (.slice A2 L.length cap2) L.length (cellsU L) rfl (Hown2.out.alloc _) ⟨w2.heap.size, 0, none⟩ 1 1 [.int .u64 (n : Int)] rfl rfl (cell_one_new _ _ _) hone (by simp only [maxLen]; omega) (by omega) (by simp; omega) ?_; intro v' w3 hown3 hgrow _; have hcell4 := append_cell Hown2.out hgrow hcell3 (show ab < w.heap.size + 2 by omega))
            go_roundw
            case rel => exact once_yes hlt hLk hsz hI hb hsize Hv.out hown hR2 k2 hown3 hgrow (by first | omega | (split <;> omega))
            case measure => simp [intOf]; omega
          · have hs : seenB L L.length n = true := by simpa [hall] using hm
            clear hall hm
            go_wp2_with fail
            refine (mark_rep _ _ s n _ hn2 hR').mono ?_
            rintro e w2 ⟨rfl, hR2, k2⟩
            go_wp2_with fail
            go_roundw
            case rel => exact once_no hlt hLk hsz hI hown hb hsize (by rw [hv]; rfl) ha hR2 k2
            case measure => simp [intOf]; omega
    · obtain rfl : k = len := by omega
      go_wp2_with fail
      refine (alive_any _).mono ?_
      rintro e w4 ⟨rfl, hb4⟩
      go_wp2_with fail
      go_ret
      exact ⟨rfl, hb.trans (hb4.mono hb.size)⟩

theorem once_err (size : Int) (A : Option Addr) (len cap : Nat) (w : World) (h : size < 1 ∨ 4096 < size) :
    Calls Try.prog 3 #[.int .i64 size, .slice A len cap] w fun e w' => e = .returned (.bool true) ∧ Below w.heap.size w w' := by
  go_enter Try.func3, Try.ntmps3
  go_wp2_with fail
  refine (new_no size w h).mono ?_
  rintro e w1 ⟨rfl, rfl⟩
  go_wp2_with fail
  refine (alive_any _).mono ?_
  rintro e w1 ⟨rfl, hb⟩
  go_wp2_with fail
  go_ret
  exact ⟨rfl, hb⟩

theorem once_long (size : Nat) (A : Option Addr) (len cap : Nat) (w : World) (h1 : 1 ≤ size) (h2 : size ≤ 4096) (hlen : 300 < len) :
    Calls Try.prog 3 #[.int .i64 (size : Int), .slice A len cap] w fun e w' => e = .returned (.bool true) ∧ Below w.heap.size w w' := by
  have hl : (300 : Int) < (len : Int) := by omega
  go_enter Try.func3, Try.ntmps3
  go_wp2_with fail
  refine (new_yes size w h1 h2).mono ?_
  rintro e w1 ⟨rfl, r0, b1, hs⟩
  clear hs
  go_wp2_with fail
  refine (alive_any _).mono ?_
  rintro e w2 ⟨rfl, hb⟩
  go_wp2_with fail
  go_ret
  exact ⟨rfl, b1.trans (hb.mono b1.size)⟩

theorem once_all (size : Int) (A : Option Addr) (len cap : Nat) (w : World) (hx : ∃ xs, Nums w A len xs) :
    Calls Try.prog 3 #[.int .i64 size, .slice A len cap] w fun e w' => e = .returned (.bool true) ∧ Below w.heap.size w w' := by
  by_cases h : size < 1 ∨ 4096 < size
  · exact once_err size A len cap w h
  · obtain ⟨n, rfl⟩ := Int.eq_ofNat_of_zero_le (show 0 ≤ size by omega)
    by_cases hl : 300 < len
    · exact once_long n A len cap w (by omega) (by omega) hl
    · obtain ⟨xs, hx⟩ := hx
      exact once_main n len cap A xs w (by omega) (by omega) (by omega) hx

end Go.Proofs.Yticckhcdbcbooaa
