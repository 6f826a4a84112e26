/- The reference's window: its walks. -/
import Derived.Test.YticckhcdbcbooaaWinG
import Derived.Deep.RegionLaw
import Derived.Deep.RegionHeld3
import Derived.Deep.DeepCutAuto
import Derived.Maps.AppendAt
namespace Go.Proofs.Yticckhcdbcbooaa
open Go.RowKit Win

def hiL (L : List Nat) : Nat := L.foldl max 0

theorem foldl_max_ge (L : List Nat) : ∀ a, a ≤ L.foldl max a ∧ ∀ x ∈ L, x ≤ L.foldl max a := by
  induction L with
  | nil => intro a; simp
  | cons y L ih =>
    intro a
    have h := ih (max a y)
    simp only [List.foldl_cons]
    refine ⟨by omega, fun x hx => ?_⟩
    rcases List.mem_cons.1 hx with rfl | hx
    · omega
    · exact h.2 x hx
theorem foldl_max_le (L : List Nat) : ∀ a b, a ≤ b → (∀ x ∈ L, x ≤ b) → L.foldl max a ≤ b := by
  induction L with
  | nil => intro a b h _; simpa using h
  | cons y L ih =>
    intro a b h hx
    simp only [List.foldl_cons]
    exact ih _ _ (by have := hx y (by simp); omega) (fun x h => hx x (by simp [h]))

theorem hiL_inv {s : St} {L : List Nat} (h : Inv s L) : hiL L = s.high := by
  unfold hiL
  cases ha : s.any with
  | false =>
    have he : L = [] := by have := h.any; rw [ha] at this; simpa using this.symm
    subst he
    simp [h.none ha]
  | true =>
    have h1 := (foldl_max_ge L 0).2 _ (h.high ha)
    have h2 := foldl_max_le L 0 s.high (Nat.zero_le _) h.le
    omega

def rmay (size : Nat) (L : List Nat) (n : Nat) : Int :=
  if L ≠ [] ∧ n < hiL L ∧ size ≤ hiL L - n then 170 else if n ∈ L then 9 else 0

theorem rmay_inv {s : St} {L : List Nat} (h : Inv s L) (n : Nat) : rmay s.size L n = s.may n := by
  rw [h.may n, rmay, hiL_inv h]

/- The reference's window in memory. -/
structure RRep (w : World) (base rb : Nat) (size : Nat) (L : List Nat) (A : Option Addr) (cap : Nat) : Prop where
  blk : Blk w rb 33 #[.int .i64 (size : Int), .slice A L.length cap]
  own : w.ownsRow base 28 1 (.slice A L.length cap) L.length (cellsU L)
  lt : ∀ x ∈ L, x < 18446744073709551616

theorem hiL_take (L : List Nat) (i : Nat) (hi : i < L.length) : hiL (L.take (i + 1)) = max (hiL (L.take i)) (L.getD i 0) := by
  unfold hiL
  rw [List.take_succ_eq_append_getElem hi, List.foldl_append, List.getD_eq_getElem?_getD, List.getElem?_eq_getElem hi]
  rfl

set_option maxHeartbeats 400000 in
theorem rhigh_any (base rb size : Nat) (L : List Nat) (A : Option Addr) (cap : Nat) (w : World) (h : RRep w base rb size L A cap) (hl : L.length ≤ 300) :
    Calls Try.prog 14 #[.pointer (some ⟨rb, 0, none⟩)] w fun e w' => e = .returned (.tuple #[.int .u64 (hiL L : Int), .bool (!L.isEmpty)]) ∧ ∃ k, w.drewN k = w' := by
  have c1 : w.cell? ⟨rb, 1, none⟩ = some (.slice A L.length cap) := h.blk.cell 1
  go_enter Try.func14, Try.ntmps14
  go_wp2_with fail
  go_loop [4, 5] (fun n i => ∃ j : Nat, j ≤ L.length ∧ i = .int .i64 (j : Int) ∧ n = .int .u64 (hiL (L.take j) : Int)) (fun _ i => L.length - (intOf i).toNat)
  case atStart => exact ⟨0, Nat.zero_le _, rfl, rfl⟩
  case round =>
    obtain ⟨j, hj, rfl, rfl⟩ := hrel
    by_cases hlt : j < L.length
    · obtain ⟨g, rfl, hg⟩ := own_cell h.own hlt
      have hs := hiL_take L j hlt
      obtain ⟨x, hx⟩ : ∃ x, x = L.getD j 0 := ⟨_, rfl⟩
      obtain ⟨y, hy⟩ : ∃ y, y = hiL (L.take j) := ⟨_, rfl⟩
      rw [← hx] at hg hs
      rw [← hy] at hs ⊢
      have Hs := Lib.hid hs
      clear hs hx hy
      go_wp2_with fail
      go_round
      case rel => exact ⟨j + 1, by omega, by go_num, by rw [Hs.out]; congr 1; first | omega | (split <;> omega)⟩
      case measure => simp [intOf]; omega
    · obtain rfl : j = L.length := by omega
      have he : (decide (0 < L.length)) = !L.isEmpty := by cases L <;> simp
      have He := Lib.hid he
      clear he
      go_wp2_with fail
      go_quiet (fail)
      go_wp2_with fail
      go_ret2
      exact ⟨by rw [← He.out]; rfl, _, rfl⟩

theorem rmay_old {size n : Nat} {L : List Nat} (h1 : L ≠ []) (h2 : n < hiL L) (h3 : size ≤ hiL L - n) : rmay size L n = 170 := by unfold rmay; rw [if_pos ⟨h1, h2, h3⟩]
theorem rmay_in {size n : Nat} {L : List Nat} (h : ¬ (L ≠ [] ∧ n < hiL L ∧ size ≤ hiL L - n)) (hm : n ∈ L) : rmay size L n = 9 := by unfold rmay; rw [if_neg h, if_pos hm]
theorem rmay_out {size n : Nat} {L : List Nat} (h : ¬ (L ≠ [] ∧ n < hiL L ∧ size ≤ hiL L - n)) (hm : n ∉ L) : rmay size L n = 0 := by unfold rmay; rw [if_neg h, if_neg hm]

theorem hiL_lt {L : List Nat} (h : ∀ x ∈ L, x < 18446744073709551616) : hiL L < 18446744073709551616 := by
  have := foldl_max_le L 0 18446744073709551615 (by omega) (fun x hx => by have := h x hx; omega)
  unfold hiL
  omega

set_option maxHeartbeats 1000000 in
theorem rmay_any (base rb size n : Nat) (L : List Nat) (A : Option Addr) (cap : Nat) (w : World) (h : RRep w base rb size L A cap) (hl : L.length ≤ 300) (hs : size ≤ 4096) (hn : n < 18446744073709551616) :
    Calls Try.prog 11 #[.pointer (some ⟨rb, 0, none⟩), .int .u64 (n : Int)] w fun e w' => e = .returned (.int .i64 (rmay size L n)) ∧ ∃ k, w.drewN k = w' := by
  have c0 : w.cell? ⟨rb, 0, none⟩ = some (.int .i64 (size : Int)) := h.blk.cell 0
  have c1 : w.cell? ⟨rb, 1, none⟩ = some (.slice A L.length cap) := h.blk.cell 1
  have hh := hiL_lt h.lt
  by_cases hold : L ≠ [] ∧ n < hiL L ∧ size ≤ hiL L - n
  · obtain ⟨h1, h2, h3⟩ := hold
    have he : L.isEmpty = false := by simpa using h1
    have hd : decide ((size : Int) ≤ (hiL L : Int) - (n : Int)) = true := by simp; omega
    rw [rmay_old h1 h2 h3]
    go_enter Try.func11, Try.ntmps11
    go_wp2_with (go_at_call 14; refine (rhigh_any base rb size L A cap w h hl).mono ?_; rintro e w' ⟨rfl, q, rfl⟩)
    go_ret
    exact ⟨rfl, _, rfl⟩
  · have hno : ∀ t : Bool, (L.isEmpty = true ∨ L.isEmpty = false ∧ hiL L ≤ n ∨ L.isEmpty = false ∧ n < hiL L ∧ hiL L - n < size) := by
      intro _
      by_cases h1 : L = []
      · exact .inl (by simpa using h1)
      · have he : L.isEmpty = false := by simpa using h1
        by_cases h2 : hiL L ≤ n
        · exact .inr (.inl ⟨he, h2⟩)
        · refine .inr (.inr ⟨he, by omega, ?_⟩)
          rcases Nat.lt_or_ge (hiL L - n) size with h3 | h3
          · exact h3
          · exact absurd ⟨h1, by omega, h3⟩ hold
    rcases hno true with he | ⟨he, h2⟩ | ⟨he, h2, h3⟩
    all_goals
      have Hold := Lib.hid hold
      clear hold hno
      go_enter Try.func11, Try.ntmps11
      go_wp2_with (go_at_call 14; refine (rhigh_any base rb size L A cap w h hl).mono ?_; rintro e w' ⟨rfl, q, rfl⟩)
      go_loop [7] (fun i => ∃ j : Nat, j ≤ L.length ∧ i = .int .i64 (j : Int) ∧ n ∉ L.take j) (fun i => L.length - (intOf i).toNat)
      case atStart => exact ⟨0, Nat.zero_le _, rfl, by simp⟩
      case round =>
        obtain ⟨j, hj, rfl, hnot⟩ := hrel
        by_cases hlt : j < L.length
        · obtain ⟨g, rfl, hg⟩ := own_cell h.own hlt
          have ht := List.take_succ_eq_append_getElem hlt
          have hx0 : L.getD j 0 = L[j] := by rw [List.getD_eq_getElem?_getD, List.getElem?_eq_getElem hlt]; rfl
          have hmem : L[j] ∈ L := List.getElem_mem hlt
          rw [hx0] at hg
          obtain ⟨x, hx⟩ : ∃ x, x = L[j] := ⟨_, rfl⟩
          rw [← hx] at hg ht hmem
          have Ht := Lib.hid ht
          have Hnot := Lib.hid hnot
          clear ht hx hx0 hnot
          by_cases hxn : x = n
          · have hb : ((x : Int) == (n : Int)) = true := by simp [hxn]
            rw [hxn] at hmem
            have Hm := Lib.hid hmem
            clear hxn hmem
            go_wp2_with fail
            go_ret
            exact ⟨by rw [rmay_in Hold.out Hm.out]; rfl, _, rfl⟩
          · have hb : ((x : Int) == (n : Int)) = false := by simp; omega
            have Hx := Lib.hid hxn
            clear hxn hmem
            go_wp2_with fail
            go_round
            case rel => exact ⟨j + 1, by omega, by go_num, by rw [Ht.out]; intro hm; rcases List.mem_append.1 hm with h1 | h1; exact Hnot.out h1; exact Hx.out (List.mem_singleton.1 h1).symm⟩
            case measure => simp [intOf]; omega
        · obtain rfl : j = L.length := by omega
          rw [List.take_of_length_le (Nat.le_refl _)] at hnot
          have Hnot := Lib.hid hnot
          clear hnot
          go_wp2_with fail
          go_ret
          exact ⟨by rw [rmay_out Hold.out Hnot.out]; rfl, _, rfl⟩

theorem RRep.drewN {w : World} {base rb size : Nat} {L : List Nat} {A : Option Addr} {cap : Nat} (h : RRep w base rb size L A cap) (n : Nat) : RRep (w.drewN n) base rb size L A cap := ⟨h.blk, h.own, h.lt⟩

def rmark (size : Nat) (L : List Nat) (n : Nat) : List Nat := if rmay size L n = 0 then L ++ [n] else L

/- What the reference's Mark leaves. -/
def RMarked (base rb size : Nat) (L : List Nat) (n : Nat) (A : Option Addr) (cap : Nat) (w : World) (e : Ending) (w' : World) : Prop :=
  e = .returned (.int .i64 (rmay size L n)) ∧ (∃ A' cap', RRep w' base rb size (rmark size L n) A' cap' ∧ ∀ g, (Value.slice A' (rmark size L n).length cap').ownBlock = some g → (Value.slice A L.length cap).ownBlock = some g ∨ w.heap.size ≤ g) ∧ Keeps (fun g => g = rb ∨ (Value.slice A L.length cap).ownBlock = some g) w w'

set_option maxHeartbeats 400000 in
theorem rmark_any (base rb size n : Nat) (L : List Nat) (A : Option Addr) (cap : Nat) (w : World) (h : RRep w base rb size L A cap) (hl : L.length < 300) (hs : size ≤ 4096) (hn : n < 18446744073709551616) (hrb : rb < base) (hbase : base ≤ w.heap.size) :
    Calls Try.prog 12 #[.pointer (some ⟨rb, 0, none⟩), .int .u64 (n : Int)] w (RMarked base rb size L n A cap w) := by
  have c1 : w.cell? ⟨rb, 1, none⟩ = some (.slice A L.length cap) := h.blk.cell 1
  have hlt := h.blk.lt
  by_cases hm : rmay size L n = 0
  · have hmk : rmark size L n = L ++ [n] := by simp [rmark, hm]
    have hone : ∀ u ∈ [Value.int .u64 (n : Int)], u.oneCell' = true := by
      intro u hu
      rw [List.mem_singleton.1 hu]
      rfl
    obtain ⟨i0, hi0, hz0, hz1, hz2⟩ := info_parts info28
    have Hmk := Lib.hid hmk
    clear hmk
    go_enter Try.func12, Try.ntmps12
    have hnb : some rb ≠ (Value.slice A L.length cap).ownBlock := fun e => by have := (h.own.lt _ e.symm).1; omega
    go_wp2_with (first
      | (go_at_call 11; refine (rmay_any base rb size n L A cap w h (by omega) hs hn).mono ?_; rintro e w' ⟨rfl, q, rfl⟩)
      | (at_builtin; go_loud (refine wpList_append_own_at _ rfl (.tmp 15) (.tmp 17) _ rfl base 28 i0 _ 1 8 Try.underlying22 hi0 hz0 hz1 hz2 rfl (by omega) (.slice A L.length cap) L.length (cellsU L) rfl (by exact (h.drewN q).own.alloc _) ⟨w.heap.size, 0, none⟩ 1 1 [.int .u64 (n : Int)] rfl rfl (by exact cell_one_new _ _ _) hone (by simp only [maxLen]; omega) (by omega) (by simp; omega) ?_); intro v' w3 hown3 hgrow _ hat; have b3 := ((h.blk.drewN q).alloc (.cells #[.int .u64 (n : Int)] 28)).grown hgrow hnb; have d1 := b3.cell 1; have d2 := b3.frozen 1; simp at d1; obtain ⟨A', cap', hv'⟩ := own_slice hown3; rw [hv']))
    go_ret
    refine ⟨by rw [hm]; rfl, ⟨A', cap', ?_, ?_⟩, ?_⟩
    · rw [Hmk.out]
      have hb4 := b3.set_ 1 (.slice A' (L.length + 1) cap')
      rw [hv'] at hown3
      refine ⟨by simpa using hb4, ?_, ?_⟩
      · have := own_keeps hown3 ((Keeps.refl (fun g => g = rb) w3).setCell (p := ⟨rb, 1, none⟩) (.inl rfl) (.slice A' (L.length + 1) cap')) (by rintro g rfl; omega)
        simpa [cellsU] using this
      · intro x hx
        rcases List.mem_append.1 hx with h1 | h1
        · exact h.lt x h1
        · rw [List.mem_singleton.1 h1]; exact hn
    · intro g hg
      have e : (Value.slice A' (rmark size L n).length cap').ownBlock = v'.ownBlock := by rw [hv']; cases A' <;> rfl
      rw [e] at hg
      rcases hat with h1 | h1
      · exact .inl (h1.symm.trans hg)
      · refine .inr ?_
        rw [h1] at hg
        simp at hg
        omega
    · exact ((((Keeps.refl _ w).drewN q).alloc _).trans (Keeps.of_grown hgrow (fun g hg => .inr hg))).setCell (.inl (.inl rfl)) _
  · have hmk : rmark size L n = L := by simp [rmark, hm]
    have hm2 : (rmay size L n == 0) = false := by simpa using hm
    have Hmk := Lib.hid hmk
    clear hmk hm
    go_enter Try.func12, Try.ntmps12
    go_wp2_with (go_at_call 11; refine (rmay_any base rb size n L A cap w h (by omega) hs hn).mono ?_; rintro e w' ⟨rfl, q, rfl⟩)
    go_ret
    exact ⟨rfl, ⟨A, cap, by rw [Hmk.out]; exact h.drewN q, fun g hg => .inl (by cases A <;> exact hg)⟩, (Keeps.refl _ _).drewN q⟩

end Go.Proofs.Yticckhcdbcbooaa
