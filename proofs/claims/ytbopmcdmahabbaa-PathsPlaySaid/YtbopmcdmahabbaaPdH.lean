/- The document's answer: Drop. -/
import Derived.Test.YtbopmcdmahabbaaPdG
namespace Go.Proofs.Ytbopmcdmahabbaa
open Go.RowKit

def rdropU (u : Int) (k : Nat) : Int := if u = (k : Int) then -1 else if (k : Int) < u then u - 1 else u
def RTab.drop (t : RTab) (k : Nat) : RTab := { t with l := t.l.eraseIdx k, used := rdropU t.used k }
def rdropT (t : RTab) (e : End) : RTab × Int := match rfind t e with | none => (t, 5) | some k => (t.drop k, 0)
def rdropL (t : RTab) (k i : Nat) : List RPth := (t.l.take i).eraseIdx k

theorem rdropL_skip {t : RTab} {k : Nat} (hk : k < t.l.length) : rdropL t k (k + 1) = rdropL t k k := by
  unfold rdropL
  rw [List.take_succ_eq_append_getElem hk]
  have hlen : (t.l.take k).length = k := by rw [List.length_take]; omega
  rw [List.eraseIdx_append_of_length_le (by omega), hlen, Nat.sub_self, List.eraseIdx_of_length_le (l := t.l.take k) (by omega)]
  simp
theorem rdropL_next {t : RTab} {k i : Nat} {q : RPth} (hq : t.l[i]? = some q) (hi : i ≠ k) : rdropL t k (i + 1) = rdropL t k i ++ [q] := by
  have hlt : i < t.l.length := by
    rcases Nat.lt_or_ge i t.l.length with h | h
    · exact h
    · rw [List.getElem?_eq_none h] at hq; cases hq
  rw [List.getElem?_eq_getElem hlt] at hq
  injection hq with hq
  have hlen : (t.l.take i).length = i := by rw [List.length_take]; omega
  unfold rdropL
  rw [List.take_succ_eq_append_getElem hlt, hq]
  rcases Nat.lt_or_ge k i with h | h
  · rw [List.eraseIdx_append_of_lt_length (by omega)]
  · rw [List.eraseIdx_of_length_le (l := t.l.take i) (by omega), List.eraseIdx_of_length_le (by simp; omega)]
theorem rdropL_all (t : RTab) (k : Nat) : rdropL t k t.l.length = t.l.eraseIdx k := by
  unfold rdropL
  rw [List.take_length]
theorem rdropL_len (t : RTab) (k i : Nat) : (rdropL t k i).length ≤ i := by
  unfold rdropL
  have h1 := List.length_eraseIdx_le (t.l.take i) k
  rw [List.length_take] at h1
  omega

section
variable {n b : Nat} {t : RTab} {w : World}

set_option maxHeartbeats 4000000 in
set_option maxRecDepth 100000 in
theorem c_rdrop (h : RL n b t w) (e : End) (hu0 : -1 ≤ t.used) (hu1 : t.used < 1000) : Calls Try.prog 38 #[ptr b, .agg e.cells] w (RDoes n b (rdropT t e).1 (.int .i64 (rdropT t e).2) w) := by
  have hL := h
  obtain ⟨base, A, cap, hm, h1, h2, h3⟩ := h
  have hm1 := hm.alloc (.cells #[.bool e.v6, .int .u64 (e.hi : Int), .int .u64 (e.lo : Int), .int .u16 (e.port : Int)] 35)
  have b1 := (Below.refl w.heap.size w).alloc (Nat.le_refl _) (.cells #[.bool e.v6, .int .u64 (e.hi : Int), .int .u64 (e.lo : Int), .int .u16 (e.port : Int)] 35)
  have hl := hm.lim.len
  have hl1 := hm.lim.most1
  have hfy := rfind_any hm1 e
  unfold rdropT
  cases hf : rfind t e with
  | none =>
    rw [hf] at hfy
    have Hfy := Lib.hid hfy
    clear hf hfy
    rw [cellsE] at *
    go_enter Try.func38, Try.ntmps38
    go_wp2_with fail
    refine Hfy.out.mono ?_
    rintro r w1 ⟨rfl, hb⟩
    unfold oidx
    go_wp2_with fail
    go_ret
    have bb := b1.trans (hb.mono (by simp))
    exact ⟨rfl, hL.below bb, bb.mono hL.size, Keeps.of_below bb (fun k hk _ => hk)⟩
  | some k =>
    have hkl : k < t.l.length := (List.findIdx?_eq_some_iff_getElem.1 hf).1
    rw [hf] at hfy
    have Hfy := Lib.hid hfy
    have hk0 : (0 : Int) ≤ (k : Int) := by omega
    have hk9 : (k : Int) < 64 := by omega
    obtain ⟨i0, hi0, hz0, hz1, hz2⟩ := info_parts info90
    clear hf hfy
    rw [cellsE] at *
    go_enter Try.func38, Try.ntmps38
    go_wp2_with fail
    refine Hfy.out.mono ?_
    rintro r w1 ⟨rfl, hb⟩
    have hm2 := hm1.below hb
    have bb := b1.trans (hb.mono (by simp))
    have hbl := hm2.blk.lt
    unfold oidx
    go_wp2_with fail
    go_loopw [6, 7] (fun v6 v7 wr => ∃ (i : Nat) (A' : Option Addr) (cap' : Nat), i ≤ t.l.length ∧ v7 = .int .i64 (i : Int) ∧ v6 = .slice A' (rdropL t k i).length cap' ∧ RRow wr w1.heap.size A' cap' (rdropL t k i) ∧ Below w1.heap.size w1 wr) (fun _ v7 _ => t.l.length - (intOf v7).toNat)
    case atStart => exact ⟨0, none, 0, Nat.zero_le _, rfl, by simp [rdropL], ⟨by simp [rdropL, rcells], .inl ⟨by simp [rdropL], by simp [rdropL]⟩⟩, Below.refl _ _⟩
    case round =>
      obtain ⟨i, A', cap', hi, rfl, rfl, hrow, br⟩ := hrel
      have hR := hm2.below br
      have d4 := hR.cells.2.2.2.2.1
      have hi0' : (0 : Int) ≤ (i : Int) := by omega
      by_cases hlt : i < t.l.length
      · obtain ⟨q, hq⟩ : ∃ q, t.l[i]? = some q := ⟨t.l[i], List.getElem?_eq_getElem hlt⟩
        have hiL : (i : Int) < (t.l.length : Int) := by omega
        have ei : ((i + 1 : Nat) : Int) = (i : Int) + 1 := by omega
        have Ei := Lib.hid ei
        clear ei
        by_cases hik : i = k
        · have hne : ((i : Int) != (k : Int)) = false := by simp [hik]
          have hls : rdropL t k (i + 1) = rdropL t k i := by rw [hik]; exact rdropL_skip hkl
          have Hls := Lib.hid hls
          clear hls hik hq
          go_wp2_with fail
          go_roundw
          case rel => exact ⟨i + 1, A', cap', by omega, by rw [Ei.out], by rw [Hls.out], by rw [Hls.out]; exact hrow, br⟩
          case measure => simp [intOf]; omega
        · have hne : ((i : Int) != (k : Int)) = true := by simp; omega
          have hls := rdropL_next hq hik
          obtain ⟨g, rfl, hbg, hgl, hc⟩ := hR.row.at_ hq
          have q0 := hc 0 (by omega)
          have q1 := hc 1 (by omega)
          have q2 := hc 2 (by omega)
          have q3 := hc 3 (by omega)
          have q4 := hc 4 (by omega)
          have q5 := hc 5 (by omega)
          have q6 := hc 6 (by omega)
          have q7 := hc 7 (by omega)
          have q8 := hc 8 (by omega)
          have q9 := hc 9 (by omega)
          have q10 := hc 10 (by omega)
          have q11 := hc 11 (by omega)
          simp [RPth.cells] at q0 q1 q2 q3 q4 q5 q6 q7 q8 q9 q10 q11
          have Hls := Lib.hid hls
          have hll := rdropL_len t k i
          clear hls hik hc hq
          have hown := (hrow.below ((Below.refl wr.heap.size wr).alloc (Nat.le_refl _) (.cells q.cells 90)))
          have hnews := World.news_of_block (cs := q.cells) (t := 90) (fr := (0, 0)) (heap_alloc_new wr (.cells q.cells 90))
          have hone : ∀ u ∈ q.cells.toList, u.oneCell' = true := by simp [Value.oneCell', RPth.cells]
          have hbw := br.size
          have Hnews := Lib.hid hnews
          have Hone := Lib.hid hone
          have Hown := Lib.hid hown
          clear hown hnews hone
          go_wp2_with (at_builtin; refine wpList_append_own _ rfl (.tmp 25) (.tmp 33) _ rfl w1.heap.size 90 i0 _ 12 104 Try.underlying83 hi0 hz0 hz1 hz2 rfl (by omega) (.slice A' (rdropL t k i).length cap') (rdropL t k i).length (rcells (rdropL t k i)) rfl Hown.out ⟨wr.heap.size, 0, none⟩ 1 1 q.cells.toList rfl rfl Hnews.out Hone.out (by simp only [maxLen]; omega) (by omega) (by simp; omega) ?_; intro v' w2 hown2 hgrow _)
          obtain ⟨A2, cap2, hv⟩ : ∃ A2 cap2, v' = .slice A2 ((rdropL t k i).length + 1) cap2 := by
            rcases hown2.2 with ⟨e2, h0⟩ | ⟨g2, cap2, cur, e2, _⟩
            · omega
            · exact ⟨some ⟨g2, 0, none⟩, cap2, e2⟩
          subst hv
          refine ⟨⟨i + 1, A2, cap2, by omega, by rw [Ei.out], ?_, ?_, ?_⟩, ?_⟩
          · rw [Hls.out, List.length_append]; rfl
          · unfold RRow
            rw [Hls.out, rcells_snoc, List.length_append]
            exact hown2
          · refine (br.alloc hbw _).grown hgrow (by simp; omega) (fun x hx => ?_)
            have : (Value.slice A' 0 0).ownBlock = some x := by
              cases A' with
              | none => cases hx
              | some a => exact hx
            exact (hrow.own_lt x this).1
          · simp [intOf]; omega
      · obtain rfl : i = t.l.length := by omega
        have hiL : decide ((t.l.length : Int) < (t.l.length : Int)) = false := by simp
        rw [rdropL_all] at hrow
        simp only [rdropL_all]
        have hel : (t.l.eraseIdx k).length ≤ t.l.length := List.length_eraseIdx_le _ _
        have kw : Keeps (fun x => x = b ∨ (Value.slice A 0 0).ownBlock = some x) w wr := (Keeps.of_below bb (fun k hk _ => hk)).trans (Keeps.of_below br (fun k hk _ => hk))
        have b6 := hR.blk.set_ 4 (.slice A' (t.l.eraseIdx k).length cap')
        have k6 := (Keeps.refl (fun g => g = b) wr).setCell (p := ⟨b, 4, none⟩) (.inl rfl) (.slice A' (t.l.eraseIdx k).length cap')
        have hrb : ∀ g, (Value.slice A' 0 0).ownBlock = some g → ¬ g = b := by
          intro g hg
          have h1 := (hrow.own_lt g hg).1
          omega
        have r6 := hrow.keep k6 hrb
        have kw6 := kw.setCell (p := ⟨b, 4, none⟩) (.inl (.inl rfl)) (.slice A' (t.l.eraseIdx k).length cap')
        simp only [List.setIfInBounds_toArray, List.set_cons_succ, List.set_cons_zero] at b6
        have fz4 := hR.blk.frozen 4
        have fz5 := hR.blk.frozen 5
        have d5 := hR.cells.2.2.2.2.2
        have hbs := br.size
        have fin : ∀ (u : Int) (W : World), Blk W b 85 #[.int .u64 (t.wait : Int), .int .u64 (t.life : Int), .int .i64 (t.losses : Int), .int .i64 (t.most : Int), .slice A' (t.l.eraseIdx k).length cap', .int .i64 u] → RRow W w1.heap.size A' cap' (t.l.eraseIdx k) → Keeps (fun x => x = b ∨ (Value.slice A 0 0).ownBlock = some x) w W → w1.heap.size ≤ W.heap.size → u = rdropU t.used k → RDoes n b (t.drop k) (.int .i64 0) w (.returned (.int .i64 0)) W := by
          intro u W q1 q2 q3 q5 q4
          obtain ⟨p1, p2⟩ := hm.done q3 h1 h2 h3
          refine ⟨rfl, ⟨w1.heap.size, A', cap', ⟨⟨hm.lim.wait0, hm.lim.wait1, hm.lim.life0, hm.lim.life1, hm.lim.loss0, hm.lim.loss1, hm.lim.most0, hm.lim.most1, Nat.le_trans hel hl⟩, ?_, q2⟩, h1, ?_, ?_⟩, p1, p2⟩
          · unfold RTab.drop
            rw [← q4]
            exact q1
          · have := bb.size; omega
          · exact q5
        have Fin := Lib.hid fin
        have B6 := Lib.hid b6
        have R6 := Lib.hid r6
        have K6 := Lib.hid kw6
        have hs6 : w1.heap.size ≤ (wr.setCell ⟨b, 4, none⟩ (.slice A' (t.l.eraseIdx k).length cap')).heap.size := by simp; omega
        have Hs6 := Lib.hid hs6
        clear fin b6 r6 kw6 k6 kw hrow hs6
        by_cases hu : t.used = (k : Int)
        · have hq1 : (t.used == (k : Int)) = true := by rw [beq_iff_eq]; exact hu
          have hq2 : decide ((k : Int) < -1) = false := by rw [decide_eq_false_iff_not]; omega
          have hru : -1 = rdropU t.used k := by unfold rdropU; rw [if_pos hu]
          have Hru := Lib.hid hru
          clear hu hru
          go_wp2_with fail
          go_ret
          have b7 := B6.out.set_ 5 (.int .i64 (-1))
          simp only [List.setIfInBounds_toArray, List.set_cons_succ, List.set_cons_zero] at b7
          exact Fin.out (-1) _ b7 (R6.out.keep ((Keeps.refl (fun g => g = b) _).setCell (p := ⟨b, 5, none⟩) (.inl rfl) (.int .i64 (-1))) hrb) (K6.out.setCell (p := ⟨b, 5, none⟩) (.inl (.inl rfl)) (.int .i64 (-1))) (by simpa using Hs6.out) Hru.out
        · have hq1 : (t.used == (k : Int)) = false := by rw [beq_eq_false_iff_ne]; exact hu
          by_cases hgt : (k : Int) < t.used
          · have hq2 : decide ((k : Int) < t.used) = true := decide_eq_true hgt
            have hru : t.used - 1 = rdropU t.used k := by unfold rdropU; rw [if_neg hu, if_pos hgt]
            have Hru := Lib.hid hru
            clear hu hru
            go_wp2_with fail
            go_ret
            have b7 := B6.out.set_ 5 (.int .i64 (t.used - 1))
            simp only [List.setIfInBounds_toArray, List.set_cons_succ, List.set_cons_zero] at b7
            exact Fin.out (t.used - 1) _ b7 (R6.out.keep ((Keeps.refl (fun g => g = b) _).setCell (p := ⟨b, 5, none⟩) (.inl rfl) (.int .i64 (t.used - 1))) hrb) (K6.out.setCell (p := ⟨b, 5, none⟩) (.inl (.inl rfl)) (.int .i64 (t.used - 1))) (by simpa using Hs6.out) Hru.out
          · have hq2 : decide ((k : Int) < t.used) = false := decide_eq_false hgt
            have hru : t.used = rdropU t.used k := by unfold rdropU; rw [if_neg hu, if_neg hgt]
            have Hru := Lib.hid hru
            clear hu hgt hru
            go_wp2_with fail
            go_ret
            exact Fin.out _ _ B6.out R6.out K6.out Hs6.out Hru.out
end
end Go.Proofs.Ytbopmcdmahabbaa
