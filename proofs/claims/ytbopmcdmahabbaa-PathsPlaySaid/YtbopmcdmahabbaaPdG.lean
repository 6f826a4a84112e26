/- The document's answer: Tidy. -/
import Derived.Test.YtbopmcdmahabbaaPdF
namespace Go.Proofs.Ytbopmcdmahabbaa
open Go.RowKit

def rdue (t : RTab) (now : Nat) (q : RPth) : Bool := q.waits && decide (t.wait < ago now q.at_)
def rtid (t : RTab) (now : Nat) (q : RPth) : RPth := if rdue t now q then { q with waits := false, p := { q.p with lost := q.p.lost + 1 } } else q
def rtidyL (t : RTab) (now k : Nat) : List RPth := (t.l.take k).map (rtid t now) ++ t.l.drop k
def rtidyC (t : RTab) (now k : Nat) : Nat := ((t.l.take k).filter (rdue t now)).length
def RTab.tidy (t : RTab) (now : Nat) : RTab := { t with l := t.l.map (rtid t now) }

theorem rtidyL_zero (t : RTab) (now : Nat) : rtidyL t now 0 = t.l := by simp [rtidyL]
theorem rtidyL_len (t : RTab) (now k : Nat) : (rtidyL t now k).length = t.l.length := by
  simp [rtidyL]
  omega
theorem rtidyL_at {t : RTab} {now k : Nat} {q : RPth} (hq : t.l[k]? = some q) : (rtidyL t now k)[k]? = some q := by
  have hlt : k < t.l.length := by
    rcases Nat.lt_or_ge k t.l.length with h | h
    · exact h
    · rw [List.getElem?_eq_none h] at hq; cases hq
  have hlen : ((t.l.take k).map (rtid t now)).length = k := by simp; omega
  unfold rtidyL
  rw [List.getElem?_append_right (by omega), hlen, Nat.sub_self, List.getElem?_drop, Nat.add_zero]
  exact hq
theorem rtidyL_succ {t : RTab} {now k : Nat} {q : RPth} (hq : t.l[k]? = some q) : rtidyL t now (k + 1) = (rtidyL t now k).set k (rtid t now q) := by
  have hlt : k < t.l.length := by
    rcases Nat.lt_or_ge k t.l.length with h | h
    · exact h
    · rw [List.getElem?_eq_none h] at hq; cases hq
  have hlen : ((t.l.take k).map (rtid t now)).length = k := by simp; omega
  rw [List.getElem?_eq_getElem hlt] at hq
  injection hq with hq
  unfold rtidyL
  rw [List.take_succ_eq_append_getElem hlt, List.map_append, List.set_append_right _ _ (by omega), hlen, Nat.sub_self, List.drop_eq_getElem_cons hlt, hq]
  simp
theorem rtidyL_same {t : RTab} {now k : Nat} {q : RPth} (hq : t.l[k]? = some q) (hd : rdue t now q = false) : rtidyL t now (k + 1) = rtidyL t now k := by
  rw [rtidyL_succ hq]
  have h1 := rtidyL_at (now := now) hq
  have h2 : rtid t now q = q := by unfold rtid; rw [hd]; rfl
  rw [h2]
  refine List.ext_getElem? fun i => ?_
  by_cases h : k = i
  · subst h
    have hlt : k < (rtidyL t now k).length := by
      rcases Nat.lt_or_ge k (rtidyL t now k).length with h | h
      · exact h
      · rw [List.getElem?_eq_none h] at h1; cases h1
    rw [List.getElem?_set_self hlt, h1]
  · rw [List.getElem?_set_ne h]
theorem rtidyC_succ {t : RTab} {now k : Nat} {q : RPth} (hq : t.l[k]? = some q) : rtidyC t now (k + 1) = rtidyC t now k + (if rdue t now q then 1 else 0) := by
  have hlt : k < t.l.length := by
    rcases Nat.lt_or_ge k t.l.length with h | h
    · exact h
    · rw [List.getElem?_eq_none h] at hq; cases hq
  rw [List.getElem?_eq_getElem hlt] at hq
  injection hq with hq
  unfold rtidyC
  rw [List.take_succ_eq_append_getElem hlt, List.filter_append, List.length_append, hq]
  cases h : rdue t now q <;> simp [List.filter_cons, h]
theorem rtidyL_all (t : RTab) (now : Nat) : rtidyL t now t.l.length = (t.tidy now).l := by
  simp [rtidyL, RTab.tidy]

theorem RM.withL {w : World} {b base cap : Nat} {A : Option Addr} {t : RTab} {l : List RPth} (h : RM w b base A cap { t with l := l }) (hl : l.length = t.l.length) : w.cell? ⟨b, 4, none⟩ = some (.slice A t.l.length cap) := by
  have := h.cells.2.2.2.2.1
  simp only [hl] at this
  exact this

section
variable {n b : Nat} {t : RTab} {w : World}

set_option maxHeartbeats 4000000 in
set_option maxRecDepth 100000 in
theorem c_rtidy (h : RL n b t w) (now : Nat) (hn : now < M64) (hat : ∀ q ∈ t.l, q.at_ < M64) (hlost : ∀ q ∈ t.l, 0 ≤ q.p.lost ∧ q.p.lost < 1000) :
    Calls Try.prog 36 #[ptr b, .int .u64 (now : Int)] w (RDoes n b (t.tidy now) (.int .i64 (rtidyC t now t.l.length : Int)) w) := by
  obtain ⟨base, A, cap, hm, h1, h2, h3⟩ := h
  have hl := hm.lim.len
  have hl1 := hm.lim.most1
  have c4 := hm.cells.2.2.2.2.1
  have hbl := hm.blk.lt
  go_enter Try.func36, Try.ntmps36
  go_wp2_with fail
  go_loopw [5, 6] (fun v5 v6 wr => ∃ k : Nat, k ≤ t.l.length ∧ v5 = .int .i64 (rtidyC t now k : Int) ∧ v6 = .int .i64 (k : Int) ∧ RM wr b base A cap { t with l := rtidyL t now k } ∧ Keeps (fun x => x = b ∨ (Value.slice A 0 0).ownBlock = some x) w wr) (fun _ v6 _ => t.l.length - (intOf v6).toNat)
  case atStart => exact ⟨0, Nat.zero_le _, rfl, rfl, by rw [rtidyL_zero]; exact hm, Keeps.refl _ w⟩
  case round =>
    obtain ⟨k, hk, rfl, rfl, hR, hK⟩ := hrel
    have d4 := hR.withL (rtidyL_len t now k)
    have d0 : wr.cell? ⟨b, 0, none⟩ = some (.int .u64 (t.wait : Int)) := hR.cells.1
    have hcn : rtidyC t now k ≤ 64 := by
      have h1 : rtidyC t now k ≤ (t.l.take k).length := List.length_filter_le _ _
      rw [List.length_take] at h1
      omega
    by_cases hlt : k < t.l.length
    · obtain ⟨q, hq⟩ : ∃ q, t.l[k]? = some q := ⟨t.l[k], List.getElem?_eq_getElem hlt⟩
      have hqk := rtidyL_at (now := now) hq
      have hmem := List.mem_of_getElem? hq
      have hqat := hat q hmem
      obtain ⟨hl0, hl9⟩ := hlost q hmem
      obtain ⟨g, rfl, hbg, hgl, hc⟩ := hR.row.at_ hqk
      have q8 := hc 8 (by omega)
      have q9 := hc 9 (by omega)
      have q11 := hc 11 (by omega)
      simp [RPth.cells] at q8 q9 q11
      have f8 := World.ownsRow.frozenAt hR.row (k * 12 + 8)
      have f9 := World.ownsRow.frozenAt hR.row (k * 12 + 9)
      have hgb : g ≠ b := hR.own_sep (g := g) rfl
      have hgb2 : b ≠ g := fun e => hgb e.symm
      have hk0 : (0 : Int) ≤ (k : Int) := by omega
      have hc0 : (0 : Int) ≤ (rtidyC t now k : Int) := by omega
      have hc1 : (rtidyC t now k : Int) ≤ 64 := by omega
      have hkL : (k : Int) < (t.l.length : Int) := by omega
      have ek : ((k + 1 : Nat) : Int) = (k : Int) + 1 := by omega
      have hcs := rtidyC_succ (now := now) hq
      have Ek := Lib.hid ek
      cases hd : rdue t now q with
      | false =>
        have hls := rtidyL_same hq hd
        rw [hd] at hcs
        simp only [Bool.false_eq_true, if_false, Nat.add_zero] at hcs
        have Hcs := Lib.hid hcs
        have Hls := Lib.hid hls
        have HR := Lib.hid hR
        unfold rdue at hd
        clear hc hq hqk hmem ek hcs hls hR
        cases hqw : q.waits with
        | false =>
          rw [hqw] at q9
          clear hd hqw
          go_wp2_with fail
          go_quiet (fail)
          go_wp2_with fail
          go_roundw
          case rel => exact ⟨k + 1, by omega, by rw [Hcs.out], by rw [Ek.out], by rw [Hls.out]; exact HR.out.drewN _, hK.drewN _⟩
          case measure => simp [intOf]; omega
        | true =>
          rw [hqw] at q9 hd
          rw [Bool.true_and] at hd
          clear hqw
          go_wp2_with fail
          go_quiet ((go_at_call 49; exact quiet_left (rago_any now q.at_ _ hn hqat)))
          go_wp2_with fail
          go_roundw
          case rel => exact ⟨k + 1, by omega, by rw [Hcs.out], by rw [Ek.out], by rw [Hls.out]; exact HR.out.drewN _, hK.drewN _⟩
          case measure => simp [intOf]; omega
      | true =>
        have hls := rtidyL_succ (now := now) hq
        have hti : rtid t now q = { q with waits := false, p := { q.p with lost := q.p.lost + 1 } } := by unfold rtid; rw [hd]; rfl
        rw [hd] at hcs
        simp only [if_true] at hcs
        unfold rdue at hd
        rw [Bool.and_eq_true] at hd
        obtain ⟨hqw, hd⟩ := hd
        rw [hqw] at q9
        have a9 := hR.setQ (i := k) (j := 9) (q' := { q with waits := false }) (v := .bool false) hqk (by omega) rfl
        have a8 := a9.setQ (i := k) (j := 8) (q' := { q with waits := false, p := { q.p with lost := q.p.lost + 1 } }) (v := .int .i64 (q.p.lost + 1)) (setQ_at hqk) (by omega) rfl
        rw [setQ_setQ] at a8
        have a7 : RM ((wr.setCell ⟨g, k * 12 + 9, none⟩ (.bool false)).setCell ⟨g, k * 12 + 8, none⟩ (.int .i64 (q.p.lost + 1))) b base (some ⟨g, 0, none⟩) cap { t with l := rtidyL t now (k + 1) } := by
          rw [hls, hti]
          exact a8
        have k4 := (hK.setCell (p := ⟨g, k * 12 + 9, none⟩) (.inl (.inr rfl)) (.bool false)).setCell (p := ⟨g, k * 12 + 8, none⟩) (.inl (.inr rfl)) (.int .i64 (q.p.lost + 1))
        have Hcs := Lib.hid hcs
        have A7 := Lib.hid a7
        have K4 := Lib.hid k4
        clear hc hq hqk hmem ek hcs hls hti hqw hR a9 a8 a7 k4
        go_wp2_with fail
        go_quiet ((go_at_call 49; exact quiet_left (rago_any now q.at_ _ hn hqat)))
        go_wp2_with fail
        go_roundw
        case rel =>
          refine ⟨k + 1, by omega, ?_, by rw [Ek.out], A7.out.drewN nq, K4.out.drewN nq⟩
          rw [Hcs.out]
          rfl
        case measure => simp [intOf]; omega
    · obtain rfl : k = t.l.length := by omega
      rw [rtidyL_all] at hR
      have HR := Lib.hid hR
      have hkL : decide ((t.l.length : Int) < (t.l.length : Int)) = false := by simp
      clear hR
      go_wp2_with fail
      go_ret
      exact setBelow hm hK h1 h2 h3 rfl HR.out
end
end Go.Proofs.Ytbopmcdmahabbaa
