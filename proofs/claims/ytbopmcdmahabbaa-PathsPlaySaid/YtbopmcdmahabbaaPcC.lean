/- Drop: DeleteFunc, its walk. -/
import Derived.Test.YtbopmcdmahabbaaPcB
namespace Go.Proofs.Ytbopmcdmahabbaa
open Go.RowKit
attribute [local go_sem] run_store_float run_store_complex

theorem PRow.cap_le {w : World} {base g cap : Nat} {l : List Pth} (h : PRow w base (some ⟨g, 0, none⟩) cap l) : l.length ≤ cap := by
  rcases h.2 with ⟨e, _⟩ | ⟨g', cap', cur, e, hb, hh, hc1, _⟩
  · cases e
  · have hc : cap = cap' := by injection e
    omega

set_option maxHeartbeats 2000000 in
set_option maxRecDepth 100000 in
theorem delete_any (base g cap : Nat) (l : List Pth) (e : End) (eb : Nat) (w : World) (hr : PRow w base (some ⟨g, 0, none⟩) cap l) (hl : l.length ≤ 64) (he : Blk w eb 35 e.cells) (hgb : eb ≠ g) {k : Nat} (hf : findI l e = some k) (hd : ∀ j p, l[j]? = some p → p.e.eqb e = true → j = k) :
    Calls Try.prog 30 #[.slice (some ⟨g, 0, none⟩) l.length cap, .func (.func 31) #[] #[.pointer (some ⟨eb, 0, none⟩)]] w fun r w' => r = .returned (.slice (some ⟨g, 0, none⟩) (l.length - 1) cap) ∧ PRow w' base (some ⟨g, 0, none⟩) cap (l.eraseIdx k) ∧ Keeps (fun x => x = g) w w' := by
  have hkl : k < l.length := (List.findIdx?_eq_some_iff_getElem.1 hf).1
  have hix := dindex_any base (some ⟨g, 0, none⟩) cap l e eb w hr (by omega) he
  have hidx : idx l e = (k : Int) := by rw [idx_eq, hf]
  rw [hidx] at hix
  have Hix := Lib.hid hix
  have Hd := Lib.hid hd
  clear hix hidx hf hd
  go_enter Try.func30, Try.ntmps30
  go_wp2_with fail
  refine Hix.out.mono ?_
  rintro r w1 ⟨rfl, hb1⟩
  have r1 := hr.below hb1
  have hk1 : ((k : Int) == -1) = false := by rw [beq_eq_false_iff_ne]; omega
  go_wp2_with fail
  clear hk1
  go_loopw [5, 6] (fun i5 i6 wr => ∃ i : Nat, k ≤ i ∧ i < l.length ∧ i5 = .int .i64 (i : Int) ∧ i6 = .int .i64 ((i : Int) + 1) ∧ PRow wr base (some ⟨g, 0, none⟩) cap (LL l k i) ∧ Keeps (fun x => x = g) w wr) (fun _ i _ => l.length - (intOf i).toNat)
  case atStart => exact ⟨k, Nat.le_refl _, hkl, rfl, rfl, by rw [LL_start l k hkl]; exact r1, Keeps.of_below hb1 (fun x hx _ => hx)⟩
  case round =>
    obtain ⟨i, hki, hil, rfl, rfl, hrow, hK⟩ := hrel
    by_cases hlt : i + 1 < l.length
    · have hlt2 := hlt
      have hlt' : (i : Int) + 1 < (l.length : Int) := by omega
      obtain ⟨p, hp⟩ : ∃ p, l[i + 1]? = some p := ⟨l[i + 1], List.getElem?_eq_getElem hlt⟩
      have hpe : p.e.eqb e = false := by
        cases hq : p.e.eqb e with
        | false => rfl
        | true => have := Hd.out (i + 1) p hp hq; omega
      have hpL : (LL l k i)[i + 1]? = some p := by rw [LL_at l k i (i + 1) hil hki, if_neg (by omega)]; exact hp
      obtain ⟨g', hg', hbg, hgl, hc⟩ := hrow.at_ hpL
      obtain rfl : g = g' := by injection hg' with hg'; injection hg'
      have c0 := hc 0 (by omega)
      have c1 := hc 1 (by omega)
      have c2 := hc 2 (by omega)
      have c3 := hc 3 (by omega)
      have c4 := hc 4 (by omega)
      have c5 := hc 5 (by omega)
      have c6 := hc 6 (by omega)
      have c7 := hc 7 (by omega)
      simp [Pth.cells] at c0 c1 c2 c3 c4 c5 c6 c7
      have Hc := Lib.hid hc
      have Hp := Lib.hid hp
      have HpL := Lib.hid hpL
      have Hrow := Lib.hid hrow
      have Hpe := Lib.hid hpe
      clear hc hp hpL hg' hpe hlt
      obtain ⟨q, hq⟩ : ∃ q, (LL l k i)[i]? = some q := ⟨(LL l k i)[i]'(by rw [LL_len l k i hil hki]; exact hil), List.getElem?_eq_getElem _⟩
      obtain ⟨g', hg', _, _, hd⟩ := Hrow.out.at_ hq
      obtain rfl : g = g' := by injection hg' with hg'; injection hg'
      have d0 := hd 0 (by omega)
      have d1 := hd 1 (by omega)
      have d2 := hd 2 (by omega)
      have d3 := hd 3 (by omega)
      have d4 := hd 4 (by omega)
      have d5 := hd 5 (by omega)
      have d6 := hd 6 (by omega)
      have d7 := hd 7 (by omega)
      simp [Pth.cells] at d0 d1 d2 d3 d4 d5 d6 d7
      have f0 := World.ownsRow.frozenAt Hrow.out (i * 8 + 0)
      have f1 := World.ownsRow.frozenAt Hrow.out (i * 8 + 1)
      have f2 := World.ownsRow.frozenAt Hrow.out (i * 8 + 2)
      have f3 := World.ownsRow.frozenAt Hrow.out (i * 8 + 3)
      have f4 := World.ownsRow.frozenAt Hrow.out (i * 8 + 4)
      have f5 := World.ownsRow.frozenAt Hrow.out (i * 8 + 5)
      have f6 := World.ownsRow.frozenAt Hrow.out (i * 8 + 6)
      have f7 := World.ownsRow.frozenAt Hrow.out (i * 8 + 7)
      simp only [Nat.add_zero] at f0
      clear hd hq hg'
      have hgne : wr.heap.size ≠ g := by omega
      have hewr : Blk wr eb 35 e.cells := he.keep hK hgb
      go_wp2_with fail
      refine (dropc_any p e eb _ (hewr.alloc _)).mono ?_
      rintro r w' ⟨rfl, rfl⟩
      rw [Hpe.out]
      have r1 := Hrow.out.set8 (i := i) (by rw [LL_len l k i hil hki]; exact hil) p
      rw [LL_step l k i hlt2 hki Hp.out] at r1
      have r2 := r1.below (((Below.refl _ (setP8 wr g i p)).alloc (Nat.le_refl _) (.cells p.cells 53)).alloc (by simp) (.cells p.cells 53))
      have k2 := ((hK.set8 i p).alloc (.cells p.cells 53)).alloc (.cells p.cells 53)
      have ei : ((i + 1 : Nat) : Int) = (i : Int) + 1 := by omega
      unfold setP8 Pth.cells at r2 k2
      have Ei := Lib.hid ei
      clear ei
      have R2 := Lib.hid r2
      have K2 := Lib.hid k2
      clear r2 k2
      go_wp2_with fail
      go_roundw
      case rel =>
        refine ⟨i + 1, by omega, hlt2, ?_, ?_, R2.out, K2.out⟩
        · rw [Ei.out]
        · rw [Ei.out]
      case measure => simp [intOf]; omega
    · have hgt : decide ((i : Int) + 1 < (l.length : Int)) = false := by rw [decide_eq_false_iff_not]; omega
      have hlen := LL_len l k i hil hki
      have hone : l.length - i = 1 := by omega
      have hclr := clear_one 0 wr hrow i (cap - i) (by omega)
      rw [← hone] at hclr
      have hcap : i < cap := by have := hrow.cap_le; omega
      have hcap2 : ¬ cap = i := by omega
      have hge : l.length ≤ i + 1 := by omega
      have Hrow := Lib.hid hrow
      clear hlen hone hrow hlt
      go_wp2_with fail
      · go_ret
        have h9 := (Hrow.out.head i (by rw [LL_len l k i hil hki]; omega))
        have h8 := LL_end l k hkl
        rw [show l.length - 1 = i by omega] at h8 ⊢
        rw [h8] at h9
        exact ⟨rfl, h9.behinds zero53 _ _ (by rw [← h8, List.length_take]; omega), hK.setCells zero53 _ _⟩
end Go.Proofs.Ytbopmcdmahabbaa
