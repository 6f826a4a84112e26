/- Best of a table that has no row. -/
import Derived.Test.YtbopmcdmahabbaaPcD
namespace Go.Proofs.Ytbopmcdmahabbaa
open Go.RowKit

set_option maxHeartbeats 2000000 in
set_option maxRecDepth 100000 in
theorem best_empty {w : World} {b base cap m : Nat} {U : Option Addr} {t : Tab} (h : TM w b base none cap m U t) (now : Nat) (hn : now < 18446744073709551616) :
    Calls Try.prog 15 #[.pointer (some ⟨b, 0, none⟩), .int .u64 (now : Int)] w (Bested b base cap m none t now w) := by
  have h1 := h.alloc (.cells #[.bool false, .int .u64 0, .int .u64 0, .int .u16 0] 35)
  obtain ⟨c0, c1, c2, c3, c4', c5, c6⟩ := h1.cells
  have hl0 : t.l = [] := by
    rcases h.row.2 with ⟨_, h0⟩ | ⟨g', cap', cur, e, _⟩
    · exact List.eq_nil_of_length_eq_zero h0
    · cases e
  have hl00 : t.l.length ≤ 0 := by rw [hl0]; exact Nat.le_refl _
  have HL := Lib.hid hl0
  clear hl0
  have hl := h.lim.len
  have hl1 := h.lim.most1
  have hq66 := neq66 U
  clear c0 c1 c2 c3
  go_enter Try.func15, Try.ntmps15
  go_wp2_with (go_at_call 24; refine (tnone_some c5).mono ?_; rintro r w' ⟨rfl, rfl⟩)
  go_loopw [6, 7, 23] (fun v6 v7 v23 wr => BLoop t now 0 (w.alloc (.cells #[.bool false, .int .u64 0, .int .u64 0, .int .u16 0] 35)) v6 v7 v23 wr) (fun _ _ i _ => t.l.length - (intOf i).toNat)
  case atStart => exact ⟨0, 0, Nat.zero_le _, rfl, rfl, rfl, rfl⟩
  case round =>
    obtain ⟨k, n, hk, rfl, rfl, rfl, rfl⟩ := hrel
    by_cases hlt : k < t.l.length
    · exact absurd hlt (by omega)
    · obtain rfl : k = t.l.length := by omega
      have hbest : bestI t now = match t.used with
        | none => (bestTo t now t.l.length).1
        | some e => match findI t.l e with
          | none => (bestTo t now t.l.length).1
          | some i => match t.l[i]? with
            | none => (bestTo t now t.l.length).1
            | some p => if there t p now && !flt (plus (bestTo t now t.l.length).2 (eighth (sc p))) (sc p) then some i else (bestTo t now t.l.length).1 := rfl
      have hle := bestTo_least t now t.l.length
      have hu := h.used
      generalize hr : bestTo t now t.l.length = r at hbest hle
      obtain ⟨o, least⟩ := r
      go_upto_if 60 with fail
      go_cut [6] (fun v6 wx => v6 = bptr 0 (bestI t now) ∧ Below (w.heap.size + 1) (w.alloc (.cells #[.bool false, .int .u64 0, .int .u64 0, .int .u16 0] 35)) wx)
      case first =>
        have hb0 : Below (w.heap.size + 1) (w.alloc (.cells #[.bool false, .int .u64 0, .int .u64 0, .int .u16 0] 35)) ((w.alloc (.cells #[.bool false, .int .u64 0, .int .u64 0, .int .u16 0] 35)).drewN n) := ⟨rfl, rfl, rfl, Nat.le_refl _, fun _ _ => rfl⟩
        cases hus : t.used with
        | none =>
          rw [hus] at hu hbest
          simp only at hu hbest
          subst hu
          have Hb := Lib.hid hbest
          clear hbest hle hr hus
          go_wp2_with fail
          go_meet
          exact ⟨by rw [Hb.out], hb0⟩
        | some e =>
          rw [hus] at hu hbest
          simp only at hu hbest
          obtain ⟨u, rfl, hub⟩ := hu
          have hub1 := hub.alloc (.cells #[.bool false, .int .u64 0, .int .u64 0, .int .u16 0] 35)
          have x0 := hub1.cell 0
          have x1 := hub1.cell 1
          have x2 := hub1.cell 2
          have x3 := hub1.cell 3
          simp [End.cells] at x0 x1 x2 x3
          cases hf : findI t.l e with
          | none =>
            rw [hf] at hbest
            simp only at hbest
            have hfd := find_no (h1.drewN n) e hf
            rw [cellsE] at hfd
            have Hfd := Lib.hid hfd
            have Hb := Lib.hid hbest
            clear hbest hle hr hus hf hfd
            go_wp2_with (first | (go_at_call 25; refine Hfd.out.mono ?_; rintro r w2 ⟨rfl, hb2⟩) | (go_at_call 29; refine (score_nil _ _ _).mono ?_; rintro r w' ⟨rfl, q, rfl⟩))
            go_meet
            have hb3 := hb0.trans (hb2.mono (by simp))
            exact ⟨by rw [Hb.out], ⟨hb3.os, hb3.tape, hb3.output, hb3.size, hb3.block⟩⟩
          | some i =>
            have hil : i < t.l.length := (List.findIdx?_eq_some_iff_getElem.1 hf).1
            exact absurd hil (by omega)
      case rest =>
        obtain ⟨rfl, hbc⟩ := hcut
        have h5 : TM wc b base (none) cap m U t := h1.below (by simpa using hbc)
        have f6 := h5.blk.frozen 6
        have y6 := h5.cells.2.2.2.2.2.2
        have hR := (Blk.new w 35 #[.bool false, .int .u64 0, .int .u64 0, .int .u16 0]).below hbc (by omega)
        have r0 := hR.cell 0
        have r1 := hR.cell 1
        have r2 := hR.cell 2
        have r3 := hR.cell 3
        simp at r0 r1 r2 r3
        have g0 := hR.frozen 0
        have g1 := hR.frozen 1
        have g2 := hR.frozen 2
        have g3 := hR.frozen 3
        have hbw := h.blk.lt
        have hbne : b ≠ w.heap.size := by omega
        have hbne2 : w.heap.size ≠ b := by omega
        have hblt := h5.blk.lt
        have hbne3 : b ≠ wc.heap.size := by omega
        have hbne4 : wc.heap.size ≠ b := by omega
        have hRlt := hR.lt
        clear hq66 hr hle
        cases hbi : bestI t now with
        | none =>
          have hbp : bptr 0 none = .pointer none := rfl
          have Hbi := Lib.hid hbi
          clear hbi hbest
          go_wp2_with fail
          have hE : bestE t now = none := by unfold bestE; rw [Hbi.out]; rfl
          have hT : t.best now = { t with used := none } := by unfold Tab.best; rw [Hbi.out]; rfl
          have h6 := h5.setUsed none none rfl
          have hRf := ((((hR.far (p := ⟨b, 6, none⟩) hbne2 (.pointer none)).set_ 0 (.bool false)).set_ 1 (.int .u64 0)).set_ 2 (.int .u64 0)).set_ 3 (.int .u16 0)
          have z0 := hRf.cell 0
          have z1 := hRf.cell 1
          have z2 := hRf.cell 2
          have z3 := hRf.cell 3
          simp only [List.setIfInBounds_toArray] at z0 z1 z2 z3
          refine bodyPost_ret (v := .tuple #[.agg #[.bool false, .int .u64 0, .int .u64 0, .int .u16 0], .bool false]) (by simp [results, Try.results15, go_sem, z0, z1, z2, z3]) rfl ⟨by unfold bestV; rw [hE]; rfl, ⟨none, ?_, by simp⟩, ?_⟩
          · rw [hT]
            refine h6.keep (S := fun k => k = w.heap.size) (((((Keeps.refl (fun k => k = w.heap.size) _).setCell (.inl rfl) _).setCell (.inl rfl) _).setCell (.inl rfl) _).setCell (.inl rfl) _) hbne ?_ ?_ (by simp)
            · have := h.map.lt; omega
            · intro k hk; have := (h.own_lt k hk).2; omega
          · have k1 : Keeps (fun k => k = b) w wc := ((Keeps.refl _ w).alloc _).trans (Keeps.of_below hbc (fun k hk _ => by simpa using hk))
            exact ((((k1.setCell (.inl rfl) _).setCell (.inr (Nat.le_refl _)) _).setCell (.inr (Nat.le_refl _)) _).setCell (.inr (Nat.le_refl _)) _).setCell (.inr (Nat.le_refl _)) _
        | some i => exact absurd (bestI_lt t now i hbi) (by omega)

end Go.Proofs.Ytbopmcdmahabbaa
