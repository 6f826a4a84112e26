/- Joined out of: RwM RwA RwB. -/
import Derived.Test.YtbiglifngfgffaaGreatDoorLaa
import Derived.Test.YtbiglifngfgffaaGreatDoorLaw
import Derived.Deep.Cut
import Derived.Test.YtbiglifngfgffaaGreatDoorLac
import Derived.Test.YtbiglifngfgffaaGreatDoorLab
import Derived.Laws.CopyOwn
import Derived.Deep.RegionHeld3
import Derived.Deep.DrawnRows
set_option linter.unusedVariables false
set_option linter.unusedSimpArgs false

/- The program's copy of a policy (Copy), and May: the walks. -/
namespace Go.Proofs.YtbiglifngfgffaaGreatDoor
open Go.RowKit
attribute [local go_sem ↓] Go.wp_at_zero Go.wp_at_succ

theorem new_of {B : Nat} {a u : World} (_ : Below B a u) (t : TypeId) (cs : Array Value) : Blk (u.alloc (.cells cs t)) u.heap.size t cs := Blk.new u t cs
theorem box_of {B : Nat} {a u : World} (_ : Below B a u) (o : Obj) : Below u.heap.size u (u.alloc o) := boxed u o
theorem ex_below {w w' : World} {v : Value} {l : List Nm} (h : ∃ b, NmRow w b v l) (hb : Below w.heap.size w w') : ∃ b, NmRow w' b v l := h.elim fun b h => ⟨b, h.below hb⟩
theorem ex_own {w w' : World} {e : TypeId} {size n : Nat} {v : Value} {xs : List Value} (h : ∃ b, w.ownsRow b e size v n xs) (hb : Below w.heap.size w w') : ∃ b, w'.ownsRow b e size v n xs := h.elim fun b h => ⟨b, own_below h hb⟩
theorem putP4 {w0 w : World} {P n : Nat} {vg vt vo : Value} {lg lt : List Nm} {xs : List Value} (HP : Blk w P 26 #[.slice none 0 0, .slice none 0 0, .slice none 0 0, .slice none 0 0]) (E : Below w0.heap.size w0 w) (hP : w0.heap.size ≤ P) (HG : ∃ b, NmRow w b vg lg) (HT : ∃ b, NmRow w b vt lt) (HO : ∃ b, w.ownsRow b 53 5 vo n xs) (g t h a : Value) :
    Blk ((((w.setCell ⟨P, 0, none⟩ g).setCell ⟨P, 1, none⟩ t).setCell ⟨P, 2, none⟩ h).setCell ⟨P, 3, none⟩ a) P 26 #[g, t, h, a] ∧ (∃ b, NmRow ((((w.setCell ⟨P, 0, none⟩ g).setCell ⟨P, 1, none⟩ t).setCell ⟨P, 2, none⟩ h).setCell ⟨P, 3, none⟩ a) b vg lg) ∧ (∃ b, NmRow ((((w.setCell ⟨P, 0, none⟩ g).setCell ⟨P, 1, none⟩ t).setCell ⟨P, 2, none⟩ h).setCell ⟨P, 3, none⟩ a) b vt lt) ∧ (∃ b, ((((w.setCell ⟨P, 0, none⟩ g).setCell ⟨P, 1, none⟩ t).setCell ⟨P, 2, none⟩ h).setCell ⟨P, 3, none⟩ a).ownsRow b 53 5 vo n xs) ∧ Below w0.heap.size w0 ((((w.setCell ⟨P, 0, none⟩ g).setCell ⟨P, 1, none⟩ t).setCell ⟨P, 2, none⟩ h).setCell ⟨P, 3, none⟩ a) := by
  have K := ((((Keeps.refl (fun x => x = P) w).setCell (p := ⟨P, 0, none⟩) (Or.inl rfl) g).setCell (p := ⟨P, 1, none⟩) (Or.inl rfl) t).setCell (p := ⟨P, 2, none⟩) (Or.inl rfl) h).setCell (p := ⟨P, 3, none⟩) (Or.inl rfl) a
  have O : Off (fun x => x = P) w [26] := fun x hx => ⟨_, _, _, by subst hx; exact HP, by simp⟩
  exact ⟨(((HP.set_ 0 g).set_ 1 t).set_ 2 h).set_ 3 a, HG.elim fun b h => ⟨b, h.off K O (by decide) (by decide)⟩, HT.elim fun b h => ⟨b, h.off K O (by decide) (by decide)⟩, HO.elim fun b h => ⟨b, own_off h K O (by decide)⟩, E.trans (K.low (fun x hx => by subst hx; exact hP) E.size)⟩
set_option maxHeartbeats 16000000 in
set_option maxRecDepth 100000 in
theorem pcopy_any {w : World} (p : Po) {V : PoV} (h : PoRd w V p) (hf : PoFit p) :
    Calls Tryz.prog 14 #[.agg #[V.g, V.t, V.h, V.a]] w fun r w' => (∃ V' : PoV, r = .returned (.agg #[V'.g, V'.t, V'.h, V'.a]) ∧ PoRd w' V' p) ∧ Below w.heap.size w w' := by
  have hcg := fun u (hu : Below w.heap.size w u) => copyNames_any p.groups (h.g.below hu) hf.gl hf.g
  have hct := fun u (hu : Below w.heap.size w u) => copyNames_any p.tags (h.t.below hu) hf.tl hf.t
  have hch := fun u (hu : Below w.heap.size w u) => clone_hs (h.h.below hu) hf.hl (one_hs _)
  obtain ⟨xa, hxa, h4, i4⟩ := h.a
  obtain ⟨Ag, cg, eg⟩ := h.g.shape
  obtain ⟨At, ct', et⟩ := h.t.shape
  obtain ⟨Ah, ch, eh⟩ := h.h.shape
  obtain ⟨Aa, ca, ea⟩ := h4.shape
  obtain ⟨gv, tv, hv, av⟩ := V
  simp only at eg et eh ea h4 hcg hct hch ⊢
  subst eg et eh ea
  obtain ⟨NG, hNG⟩ : ∃ n, n = p.groups.length := ⟨_, rfl⟩
  obtain ⟨NT, hNT⟩ : ∃ n, n = p.tags.length := ⟨_, rfl⟩
  obtain ⟨NH, hNH⟩ : ∃ n, n = p.hosts.length := ⟨_, rfl⟩
  obtain ⟨NA, hNA⟩ : ∃ n, n = p.acls.length := ⟨_, rfl⟩
  have l4 := hf.al
  unfold ClonR at hch
  rw [← hNG] at hcg ⊢
  rw [← hNT] at hct ⊢
  rw [← hNH] at hch ⊢
  rw [← hNA] at h4 l4 ⊢
  have HCg := Lib.hid hcg
  have HCt := Lib.hid hct
  have HCh := Lib.hid hch
  have H4 := Lib.hid h4
  have I4 := Lib.hid i4
  have HXa := Lib.hid hxa
  have HNH := Lib.hid hNH
  have HNA := Lib.hid hNA
  have HFit := Lib.hid hf
  clear h h4 i4 hxa hNG hNT hNH hNA hf hcg hct hch
  obtain ⟨a0, ha, ha0, ha1, ha2⟩ := info_parts info_ac
  go_enter Tryz.func14, Tryz.ntmps14
  go_upto_region 2 with fail
  have HQ := Lib.hid ((Blk.new w 26 #[.slice Ag NG cg, .slice At NT ct', .slice Ah NH ch, .slice Aa NA ca]).alloc (.cells #[.slice none 0 0, .slice none 0 0, .slice none 0 0, .slice none 0 0] 26))
  have hR := Blk.new (w.alloc (.cells #[.slice Ag NG cg, .slice At NT ct', .slice Ah NH ch, .slice Aa NA ca] 26)) 26 #[.slice none 0 0, .slice none 0 0, .slice none 0 0, .slice none 0 0]
  rw [show (w.alloc (.cells #[.slice Ag NG cg, .slice At NT ct', .slice Ah NH ch, .slice Aa NA ca] 26)).heap.size = w.heap.size + 1 by simp] at hR
  have HR := Lib.hid hR
  have HD := Lib.hid (after (boxed w (.cells #[.slice Ag NG cg, .slice At NT ct', .slice Ah NH ch, .slice Aa NA ca] 26)) (boxed _ (.cells #[.slice none 0 0, .slice none 0 0, .slice none 0 0, .slice none 0 0] 26)))
  have hRs : w.heap.size + 1 < ((w.alloc (.cells #[.slice Ag NG cg, .slice At NT ct', .slice Ah NH ch, .slice Aa NA ca] 26)).alloc (.cells #[.slice none 0 0, .slice none 0 0, .slice none 0 0, .slice none 0 0] 26)).heap.size := by simp
  clear hR
  generalize (w.alloc (.cells #[.slice Ag NG cg, .slice At NT ct', .slice Ah NH ch, .slice Aa NA ca] 26)).alloc (.cells #[.slice none 0 0, .slice none 0 0, .slice none 0 0, .slice none 0 0] 26) = w0 at HQ HR HD hRs ⊢
  obtain ⟨R, hRe⟩ : ∃ R, R = w.heap.size + 1 := ⟨_, rfl⟩
  obtain ⟨Q, hQe⟩ : ∃ Q, Q = w.heap.size := ⟨_, rfl⟩
  have hRw : RowKit.Hid (w.heap.size ≤ R) := Lib.hid (by omega)
  rw [← hRe] at HR hRs ⊢
  rw [← hQe] at HQ ⊢
  clear hRe hQe
  have q0 := HQ.out.cell 0
  have q1 := HQ.out.cell 1
  have q2 := HQ.out.cell 2
  simp at q0 q1 q2
  go_cut [4] from 7 (fun v4 wx => ∃ (P : Nat) (Tg Tt A5 : Option Addr) (tg tt c5 : Nat), v4 = .pointer (some ⟨P, 0, none⟩) ∧ w0.heap.size ≤ P ∧ RowKit.Hid (Blk wx P 26 #[.slice Tg NG tg, .slice Tt NT tt, .slice A5 NH c5, .slice none 0 0]) ∧ RowKit.Hid (∃ b, NmRow wx b (.slice Tg NG tg) p.groups) ∧ RowKit.Hid (∃ b, NmRow wx b (.slice Tt NT tt) p.tags) ∧ RowKit.Hid (∃ b, wx.ownsRow b 53 5 (.slice A5 NH c5) NH (hsCells p.hosts)) ∧ RowKit.Hid (Below w0.heap.size w0 wx))
  case first =>
    have E := (Below.refl w0.heap.size w0).drew
    refine wp_region_E 13 (fun w' => w'.cell? ⟨Q, 0, none⟩ = some (.slice Ag NG cg) ∧ w'.cell? ⟨Q, 1, none⟩ = some (.slice At NT ct') ∧ w'.cell? ⟨Q, 2, none⟩ = some (.slice Ah NH ch)) (by kernel_rfl) (⟨q0, q1, q2⟩) (fun hHeld => ?_)
    refine tE 0 ?_; try simp only [Ap]
    refine tE 1 ?_; try simp only [Ap]
    refine tE 2 ?_; try simp only [Ap]
    refine tE 4 ?_; try simp only [Ap]
    refine tE 5 ?_; try simp only [Ap]
    refine tE 6 ?_; try simp only [Ap]
    refine tE 8 ?_; try simp only [Ap]
    refine tE 9 ?_; try simp only [Ap]
    refine wpAnyE_ready (rs := [3, 12]) (by kernel_rfl) (by simp) ?_
    refine AllReadyE.cons rfl (fun K hK => ?_) (AllReadyE.cons rfl (fun K hK => ?_) AllReadyE.nil)
    · go_simp
      refine (HCg.out _ (after HD.out E)).mono ?_
      rintro r w1 ⟨⟨Tg, tg, rfl, ho⟩, d⟩
      try have HP := Lib.hid (HP.out.below d HP.out.lt)
      have E := after E d
      have HG : RowKit.Hid (∃ b, NmRow w1 b (.slice Tg NG tg) p.groups) := Lib.hid ⟨_, ho⟩
      clear d ho
      refine hK.out _ _ (fun _ => ⟨below_cell q0 E, below_cell q1 E, below_cell q2 E⟩) (fun hHeld => ?_)
      have hHeld := hHeld (by decide)
      clear hK K
      try simp only [Ap]
      refine wpAnyE_ready (rs := [7, 12]) (by kernel_rfl) (by simp) ?_
      refine AllReadyE.cons rfl (fun K hK => ?_) (AllReadyE.cons rfl (fun K hK => ?_) AllReadyE.nil)
      · go_simp
        refine (HCt.out _ (after HD.out E)).mono ?_
        rintro r w2 ⟨⟨Tt, tt, rfl, ho⟩, d⟩
        try have HP := Lib.hid (HP.out.below d HP.out.lt)
        have HG := Lib.hid (ex_below HG.out d)
        have E := after E d
        have HT : RowKit.Hid (∃ b, NmRow w2 b (.slice Tt NT tt) p.tags) := Lib.hid ⟨_, ho⟩
        clear d ho
        refine hK.out _ _ (fun _ => ⟨below_cell q0 E, below_cell q1 E, below_cell q2 E⟩) (fun hHeld => ?_)
        have hHeld := hHeld (by decide)
        clear hK K
        try simp only [Ap]
        refine wpAnyE_ready (rs := [10, 12]) (by kernel_rfl) (by simp) ?_
        refine AllReadyE.cons rfl (fun K hK => ?_) (AllReadyE.cons rfl (fun K hK => ?_) AllReadyE.nil)
        · go_simp
          refine (HCh.out _ (after HD.out E)).mono ?_
          rintro r w3 ⟨⟨A5, c5, rfl, ho⟩, d⟩
          try have HP := Lib.hid (HP.out.below d HP.out.lt)
          have HG := Lib.hid (ex_below HG.out d)
          have HT := Lib.hid (ex_below HT.out d)
          have E := after E d
          have HO : RowKit.Hid (∃ b, w3.ownsRow b 53 5 (.slice A5 NH c5) NH (hsCells p.hosts)) := Lib.hid ⟨_, ho⟩
          clear d ho
          have HGw := HG
          have HTw := HT
          have HOw := HO
          have Ew := E
          try have z0 := HP.out.frozen 0
          try have z1 := HP.out.frozen 1
          try have z2 := HP.out.frozen 2
          try have z3 := HP.out.frozen 3
          try have x0 := HP.out.cell 0
          try have x1 := HP.out.cell 1
          try have x2 := HP.out.cell 2
          try have x3 := HP.out.cell 3
          try simp at x0 x1 x2 x3
          refine hK.out _ _ (fun _ => ⟨below_cell q0 E, below_cell q1 E, below_cell q2 E⟩) (fun hHeld => ?_)
          have hHeld := hHeld (by decide)
          clear hK K
          try simp only [Ap]
          refine tE 11 ?_; try simp only [Ap]
          refine wpAnyE_ready (rs := [12]) (by kernel_rfl) (by simp) ?_
          refine AllReadyE.cons rfl (fun K hK => ?_) AllReadyE.nil
          go_simp
          have HPs := Lib.hid E.size
          have HP := Lib.hid (new_of E 26 #[.slice none 0 0, .slice none 0 0, .slice none 0 0, .slice none 0 0])
          try (have HP : RowKit.Hid (Blk _ w0.heap.size _ _) := HP)
          try have HG := Lib.hid (ex_below HG.out (box_of E (.cells #[.slice none 0 0, .slice none 0 0, .slice none 0 0, .slice none 0 0] 26)))
          try have HT := Lib.hid (ex_below HT.out (box_of E (.cells #[.slice none 0 0, .slice none 0 0, .slice none 0 0, .slice none 0 0] 26)))
          try have HO := Lib.hid (ex_own HO.out (box_of E (.cells #[.slice none 0 0, .slice none 0 0, .slice none 0 0, .slice none 0 0] 26)))
          have E := after E (box_of E (.cells #[.slice none 0 0, .slice none 0 0, .slice none 0 0, .slice none 0 0] 26))
          have z0 := HP.out.frozen 0
          have z1 := HP.out.frozen 1
          have z2 := HP.out.frozen 2
          have z3 := HP.out.frozen 3
          have x0 := HP.out.cell 0
          have x1 := HP.out.cell 1
          have x2 := HP.out.cell 2
          have x3 := HP.out.cell 3
          simp at x0 x1 x2 x3
          refine hK.out _ _ (fun _ => ⟨below_cell q0 E, below_cell q1 E, below_cell q2 E⟩) (fun hHeld => ?_)
          have hHeld := hHeld (by decide)
          clear hK K
          try simp only [Ap]
          refine wpAnyE_ready (rs := [13]) (by kernel_rfl) (by simp) ?_
          refine AllReadyE.cons rfl (fun K hK => ?_) AllReadyE.nil
          go_simp
          refine hK.out _ _ (fun h => absurd rfl h) (fun _ => ?_)
          clear hK K hHeld
          try simp only [Ap]
          refine wpAnyE_done (by kernel_rfl) ?_
          go_wp2_with fail
          go_meet
          first
            | (obtain ⟨f1, f2, f3, f4, f5⟩ := putP4 HP.out E HPs.out HG.out HT.out HO.out (.slice Tg NG tg) (.slice Tt NT tt) (.slice A5 NH c5) (.slice none 0 0)
               exact ⟨_, Tg, Tt, A5, tg, tt, c5, rfl, HPs.out, Lib.hid f1, Lib.hid f2, Lib.hid f3, Lib.hid f4, Lib.hid f5⟩)
            | exact ⟨_, Tg, Tt, A5, tg, tt, c5, rfl, HPs.out, Lib.hid (new_of Ew 26 #[.slice Tg NG tg, .slice Tt NT tt, .slice A5 NH c5, .slice none 0 0]), Lib.hid (ex_below HGw.out (box_of Ew (.cells #[.slice Tg NG tg, .slice Tt NT tt, .slice A5 NH c5, .slice none 0 0] 26))), Lib.hid (ex_below HTw.out (box_of Ew (.cells #[.slice Tg NG tg, .slice Tt NT tt, .slice A5 NH c5, .slice none 0 0] 26))), Lib.hid (ex_own HOw.out (box_of Ew (.cells #[.slice Tg NG tg, .slice Tt NT tt, .slice A5 NH c5, .slice none 0 0] 26))), Lib.hid (after Ew (box_of Ew (.cells #[.slice Tg NG tg, .slice Tt NT tt, .slice A5 NH c5, .slice none 0 0] 26)))⟩
        · go_simp
          have HPs := Lib.hid E.size
          have HP := Lib.hid (new_of E 26 #[.slice none 0 0, .slice none 0 0, .slice none 0 0, .slice none 0 0])
          try (have HP : RowKit.Hid (Blk _ w0.heap.size _ _) := HP)
          try have HG := Lib.hid (ex_below HG.out (box_of E (.cells #[.slice none 0 0, .slice none 0 0, .slice none 0 0, .slice none 0 0] 26)))
          try have HT := Lib.hid (ex_below HT.out (box_of E (.cells #[.slice none 0 0, .slice none 0 0, .slice none 0 0, .slice none 0 0] 26)))
          try have HO := Lib.hid (ex_own HO.out (box_of E (.cells #[.slice none 0 0, .slice none 0 0, .slice none 0 0, .slice none 0 0] 26)))
          have E := after E (box_of E (.cells #[.slice none 0 0, .slice none 0 0, .slice none 0 0, .slice none 0 0] 26))
          have z0 := HP.out.frozen 0
          have z1 := HP.out.frozen 1
          have z2 := HP.out.frozen 2
          have z3 := HP.out.frozen 3
          have x0 := HP.out.cell 0
          have x1 := HP.out.cell 1
          have x2 := HP.out.cell 2
          have x3 := HP.out.cell 3
          simp at x0 x1 x2 x3
          refine hK.out _ _ (fun _ => ⟨below_cell q0 E, below_cell q1 E, below_cell q2 E⟩) (fun hHeld => ?_)
          have hHeld := hHeld (by decide)
          clear hK K
          try simp only [Ap]
          refine wpAnyE_ready (rs := [10]) (by kernel_rfl) (by simp) ?_
          refine AllReadyE.cons rfl (fun K hK => ?_) AllReadyE.nil
          go_simp
          refine (HCh.out _ (after HD.out E)).mono ?_
          rintro r w3 ⟨⟨A5, c5, rfl, ho⟩, d⟩
          try have HP := Lib.hid (HP.out.below d HP.out.lt)
          have HG := Lib.hid (ex_below HG.out d)
          have HT := Lib.hid (ex_below HT.out d)
          have E := after E d
          have HO : RowKit.Hid (∃ b, w3.ownsRow b 53 5 (.slice A5 NH c5) NH (hsCells p.hosts)) := Lib.hid ⟨_, ho⟩
          clear d ho
          have HGw := HG
          have HTw := HT
          have HOw := HO
          have Ew := E
          try have z0 := HP.out.frozen 0
          try have z1 := HP.out.frozen 1
          try have z2 := HP.out.frozen 2
          try have z3 := HP.out.frozen 3
          try have x0 := HP.out.cell 0
          try have x1 := HP.out.cell 1
          try have x2 := HP.out.cell 2
          try have x3 := HP.out.cell 3
          try simp at x0 x1 x2 x3
          refine hK.out _ _ (fun _ => ⟨below_cell q0 E, below_cell q1 E, below_cell q2 E⟩) (fun hHeld => ?_)
          have hHeld := hHeld (by decide)
          clear hK K
          try simp only [Ap]
          refine tE 11 ?_; try simp only [Ap]
          refine wpAnyE_ready (rs := [13]) (by kernel_rfl) (by simp) ?_
          refine AllReadyE.cons rfl (fun K hK => ?_) AllReadyE.nil
          go_simp
          refine hK.out _ _ (fun h => absurd rfl h) (fun _ => ?_)
          clear hK K hHeld
          try simp only [Ap]
          refine wpAnyE_done (by kernel_rfl) ?_
          go_wp2_with fail
          go_meet
          first
            | (obtain ⟨f1, f2, f3, f4, f5⟩ := putP4 HP.out E HPs.out HG.out HT.out HO.out (.slice Tg NG tg) (.slice Tt NT tt) (.slice A5 NH c5) (.slice none 0 0)
               exact ⟨_, Tg, Tt, A5, tg, tt, c5, rfl, HPs.out, Lib.hid f1, Lib.hid f2, Lib.hid f3, Lib.hid f4, Lib.hid f5⟩)
            | exact ⟨_, Tg, Tt, A5, tg, tt, c5, rfl, HPs.out, Lib.hid (new_of Ew 26 #[.slice Tg NG tg, .slice Tt NT tt, .slice A5 NH c5, .slice none 0 0]), Lib.hid (ex_below HGw.out (box_of Ew (.cells #[.slice Tg NG tg, .slice Tt NT tt, .slice A5 NH c5, .slice none 0 0] 26))), Lib.hid (ex_below HTw.out (box_of Ew (.cells #[.slice Tg NG tg, .slice Tt NT tt, .slice A5 NH c5, .slice none 0 0] 26))), Lib.hid (ex_own HOw.out (box_of Ew (.cells #[.slice Tg NG tg, .slice Tt NT tt, .slice A5 NH c5, .slice none 0 0] 26))), Lib.hid (after Ew (box_of Ew (.cells #[.slice Tg NG tg, .slice Tt NT tt, .slice A5 NH c5, .slice none 0 0] 26)))⟩
      · go_simp
        have HPs := Lib.hid E.size
        have HP := Lib.hid (new_of E 26 #[.slice none 0 0, .slice none 0 0, .slice none 0 0, .slice none 0 0])
        try (have HP : RowKit.Hid (Blk _ w0.heap.size _ _) := HP)
        try have HG := Lib.hid (ex_below HG.out (box_of E (.cells #[.slice none 0 0, .slice none 0 0, .slice none 0 0, .slice none 0 0] 26)))
        try have HT := Lib.hid (ex_below HT.out (box_of E (.cells #[.slice none 0 0, .slice none 0 0, .slice none 0 0, .slice none 0 0] 26)))
        try have HO := Lib.hid (ex_own HO.out (box_of E (.cells #[.slice none 0 0, .slice none 0 0, .slice none 0 0, .slice none 0 0] 26)))
        have E := after E (box_of E (.cells #[.slice none 0 0, .slice none 0 0, .slice none 0 0, .slice none 0 0] 26))
        have z0 := HP.out.frozen 0
        have z1 := HP.out.frozen 1
        have z2 := HP.out.frozen 2
        have z3 := HP.out.frozen 3
        have x0 := HP.out.cell 0
        have x1 := HP.out.cell 1
        have x2 := HP.out.cell 2
        have x3 := HP.out.cell 3
        simp at x0 x1 x2 x3
        refine hK.out _ _ (fun _ => ⟨below_cell q0 E, below_cell q1 E, below_cell q2 E⟩) (fun hHeld => ?_)
        have hHeld := hHeld (by decide)
        clear hK K
        try simp only [Ap]
        refine wpAnyE_ready (rs := [7]) (by kernel_rfl) (by simp) ?_
        refine AllReadyE.cons rfl (fun K hK => ?_) AllReadyE.nil
        go_simp
        refine (HCt.out _ (after HD.out E)).mono ?_
        rintro r w2 ⟨⟨Tt, tt, rfl, ho⟩, d⟩
        try have HP := Lib.hid (HP.out.below d HP.out.lt)
        have HG := Lib.hid (ex_below HG.out d)
        have E := after E d
        have HT : RowKit.Hid (∃ b, NmRow w2 b (.slice Tt NT tt) p.tags) := Lib.hid ⟨_, ho⟩
        clear d ho
        refine hK.out _ _ (fun _ => ⟨below_cell q0 E, below_cell q1 E, below_cell q2 E⟩) (fun hHeld => ?_)
        have hHeld := hHeld (by decide)
        clear hK K
        try simp only [Ap]
        refine wpAnyE_ready (rs := [10]) (by kernel_rfl) (by simp) ?_
        refine AllReadyE.cons rfl (fun K hK => ?_) AllReadyE.nil
        go_simp
        refine (HCh.out _ (after HD.out E)).mono ?_
        rintro r w3 ⟨⟨A5, c5, rfl, ho⟩, d⟩
        try have HP := Lib.hid (HP.out.below d HP.out.lt)
        have HG := Lib.hid (ex_below HG.out d)
        have HT := Lib.hid (ex_below HT.out d)
        have E := after E d
        have HO : RowKit.Hid (∃ b, w3.ownsRow b 53 5 (.slice A5 NH c5) NH (hsCells p.hosts)) := Lib.hid ⟨_, ho⟩
        clear d ho
        have HGw := HG
        have HTw := HT
        have HOw := HO
        have Ew := E
        try have z0 := HP.out.frozen 0
        try have z1 := HP.out.frozen 1
        try have z2 := HP.out.frozen 2
        try have z3 := HP.out.frozen 3
        try have x0 := HP.out.cell 0
        try have x1 := HP.out.cell 1
        try have x2 := HP.out.cell 2
        try have x3 := HP.out.cell 3
        try simp at x0 x1 x2 x3
        refine hK.out _ _ (fun _ => ⟨below_cell q0 E, below_cell q1 E, below_cell q2 E⟩) (fun hHeld => ?_)
        have hHeld := hHeld (by decide)
        clear hK K
        try simp only [Ap]
        refine tE 11 ?_; try simp only [Ap]
        refine wpAnyE_ready (rs := [13]) (by kernel_rfl) (by simp) ?_
        refine AllReadyE.cons rfl (fun K hK => ?_) AllReadyE.nil
        go_simp
        refine hK.out _ _ (fun h => absurd rfl h) (fun _ => ?_)
        clear hK K hHeld
        try simp only [Ap]
        refine wpAnyE_done (by kernel_rfl) ?_
        go_wp2_with fail
        go_meet
        first
          | (obtain ⟨f1, f2, f3, f4, f5⟩ := putP4 HP.out E HPs.out HG.out HT.out HO.out (.slice Tg NG tg) (.slice Tt NT tt) (.slice A5 NH c5) (.slice none 0 0)
             exact ⟨_, Tg, Tt, A5, tg, tt, c5, rfl, HPs.out, Lib.hid f1, Lib.hid f2, Lib.hid f3, Lib.hid f4, Lib.hid f5⟩)
          | exact ⟨_, Tg, Tt, A5, tg, tt, c5, rfl, HPs.out, Lib.hid (new_of Ew 26 #[.slice Tg NG tg, .slice Tt NT tt, .slice A5 NH c5, .slice none 0 0]), Lib.hid (ex_below HGw.out (box_of Ew (.cells #[.slice Tg NG tg, .slice Tt NT tt, .slice A5 NH c5, .slice none 0 0] 26))), Lib.hid (ex_below HTw.out (box_of Ew (.cells #[.slice Tg NG tg, .slice Tt NT tt, .slice A5 NH c5, .slice none 0 0] 26))), Lib.hid (ex_own HOw.out (box_of Ew (.cells #[.slice Tg NG tg, .slice Tt NT tt, .slice A5 NH c5, .slice none 0 0] 26))), Lib.hid (after Ew (box_of Ew (.cells #[.slice Tg NG tg, .slice Tt NT tt, .slice A5 NH c5, .slice none 0 0] 26)))⟩
    · go_simp
      have HPs := Lib.hid E.size
      have HP := Lib.hid (new_of E 26 #[.slice none 0 0, .slice none 0 0, .slice none 0 0, .slice none 0 0])
      try (have HP : RowKit.Hid (Blk _ w0.heap.size _ _) := HP)
      try have HG := Lib.hid (ex_below HG.out (box_of E (.cells #[.slice none 0 0, .slice none 0 0, .slice none 0 0, .slice none 0 0] 26)))
      try have HT := Lib.hid (ex_below HT.out (box_of E (.cells #[.slice none 0 0, .slice none 0 0, .slice none 0 0, .slice none 0 0] 26)))
      try have HO := Lib.hid (ex_own HO.out (box_of E (.cells #[.slice none 0 0, .slice none 0 0, .slice none 0 0, .slice none 0 0] 26)))
      have E := after E (box_of E (.cells #[.slice none 0 0, .slice none 0 0, .slice none 0 0, .slice none 0 0] 26))
      have z0 := HP.out.frozen 0
      have z1 := HP.out.frozen 1
      have z2 := HP.out.frozen 2
      have z3 := HP.out.frozen 3
      have x0 := HP.out.cell 0
      have x1 := HP.out.cell 1
      have x2 := HP.out.cell 2
      have x3 := HP.out.cell 3
      simp at x0 x1 x2 x3
      refine hK.out _ _ (fun _ => ⟨below_cell q0 E, below_cell q1 E, below_cell q2 E⟩) (fun hHeld => ?_)
      have hHeld := hHeld (by decide)
      clear hK K
      try simp only [Ap]
      refine wpAnyE_ready (rs := [3]) (by kernel_rfl) (by simp) ?_
      refine AllReadyE.cons rfl (fun K hK => ?_) AllReadyE.nil
      go_simp
      refine (HCg.out _ (after HD.out E)).mono ?_
      rintro r w1 ⟨⟨Tg, tg, rfl, ho⟩, d⟩
      try have HP := Lib.hid (HP.out.below d HP.out.lt)
      have E := after E d
      have HG : RowKit.Hid (∃ b, NmRow w1 b (.slice Tg NG tg) p.groups) := Lib.hid ⟨_, ho⟩
      clear d ho
      refine hK.out _ _ (fun _ => ⟨below_cell q0 E, below_cell q1 E, below_cell q2 E⟩) (fun hHeld => ?_)
      have hHeld := hHeld (by decide)
      clear hK K
      try simp only [Ap]
      refine wpAnyE_ready (rs := [7]) (by kernel_rfl) (by simp) ?_
      refine AllReadyE.cons rfl (fun K hK => ?_) AllReadyE.nil
      go_simp
      refine (HCt.out _ (after HD.out E)).mono ?_
      rintro r w2 ⟨⟨Tt, tt, rfl, ho⟩, d⟩
      try have HP := Lib.hid (HP.out.below d HP.out.lt)
      have HG := Lib.hid (ex_below HG.out d)
      have E := after E d
      have HT : RowKit.Hid (∃ b, NmRow w2 b (.slice Tt NT tt) p.tags) := Lib.hid ⟨_, ho⟩
      clear d ho
      refine hK.out _ _ (fun _ => ⟨below_cell q0 E, below_cell q1 E, below_cell q2 E⟩) (fun hHeld => ?_)
      have hHeld := hHeld (by decide)
      clear hK K
      try simp only [Ap]
      refine wpAnyE_ready (rs := [10]) (by kernel_rfl) (by simp) ?_
      refine AllReadyE.cons rfl (fun K hK => ?_) AllReadyE.nil
      go_simp
      refine (HCh.out _ (after HD.out E)).mono ?_
      rintro r w3 ⟨⟨A5, c5, rfl, ho⟩, d⟩
      try have HP := Lib.hid (HP.out.below d HP.out.lt)
      have HG := Lib.hid (ex_below HG.out d)
      have HT := Lib.hid (ex_below HT.out d)
      have E := after E d
      have HO : RowKit.Hid (∃ b, w3.ownsRow b 53 5 (.slice A5 NH c5) NH (hsCells p.hosts)) := Lib.hid ⟨_, ho⟩
      clear d ho
      have HGw := HG
      have HTw := HT
      have HOw := HO
      have Ew := E
      try have z0 := HP.out.frozen 0
      try have z1 := HP.out.frozen 1
      try have z2 := HP.out.frozen 2
      try have z3 := HP.out.frozen 3
      try have x0 := HP.out.cell 0
      try have x1 := HP.out.cell 1
      try have x2 := HP.out.cell 2
      try have x3 := HP.out.cell 3
      try simp at x0 x1 x2 x3
      refine hK.out _ _ (fun _ => ⟨below_cell q0 E, below_cell q1 E, below_cell q2 E⟩) (fun hHeld => ?_)
      have hHeld := hHeld (by decide)
      clear hK K
      try simp only [Ap]
      refine tE 11 ?_; try simp only [Ap]
      refine wpAnyE_ready (rs := [13]) (by kernel_rfl) (by simp) ?_
      refine AllReadyE.cons rfl (fun K hK => ?_) AllReadyE.nil
      go_simp
      refine hK.out _ _ (fun h => absurd rfl h) (fun _ => ?_)
      clear hK K hHeld
      try simp only [Ap]
      refine wpAnyE_done (by kernel_rfl) ?_
      go_wp2_with fail
      go_meet
      first
        | (obtain ⟨f1, f2, f3, f4, f5⟩ := putP4 HP.out E HPs.out HG.out HT.out HO.out (.slice Tg NG tg) (.slice Tt NT tt) (.slice A5 NH c5) (.slice none 0 0)
           exact ⟨_, Tg, Tt, A5, tg, tt, c5, rfl, HPs.out, Lib.hid f1, Lib.hid f2, Lib.hid f3, Lib.hid f4, Lib.hid f5⟩)
        | exact ⟨_, Tg, Tt, A5, tg, tt, c5, rfl, HPs.out, Lib.hid (new_of Ew 26 #[.slice Tg NG tg, .slice Tt NT tt, .slice A5 NH c5, .slice none 0 0]), Lib.hid (ex_below HGw.out (box_of Ew (.cells #[.slice Tg NG tg, .slice Tt NT tt, .slice A5 NH c5, .slice none 0 0] 26))), Lib.hid (ex_below HTw.out (box_of Ew (.cells #[.slice Tg NG tg, .slice Tt NT tt, .slice A5 NH c5, .slice none 0 0] 26))), Lib.hid (ex_own HOw.out (box_of Ew (.cells #[.slice Tg NG tg, .slice Tt NT tt, .slice A5 NH c5, .slice none 0 0] 26))), Lib.hid (after Ew (box_of Ew (.cells #[.slice Tg NG tg, .slice Tt NT tt, .slice A5 NH c5, .slice none 0 0] 26)))⟩
  case rest =>
  obtain ⟨P, Tg, Tt, A5, tg, tt, c5, rfl, hPs, HPi, HGi, HTi, HOi, HBi⟩ := hcut
  obtain ⟨wi, rfl⟩ : ∃ wi : World, wi = wc := ⟨_, rfl⟩
  have HQi := Lib.hid (HQ.out.below HBi.out HQ.out.lt)
  have HRi := Lib.hid (HR.out.below HBi.out HR.out.lt)
  have HDi := Lib.hid (after HD.out HBi.out)
  have hPw : RowKit.Hid (w.heap.size ≤ P) := Lib.hid (Nat.le_trans HD.out.size hPs)
  have hQP : RowKit.Hid (¬ Q = P) := Lib.hid (by have := HQ.out.lt; omega)
  have hRP : RowKit.Hid (¬ R = P) := Lib.hid (by omega)
  clear HQ HR HD HBi hPs hRs q0 q1 q2
  have q3 := HQi.out.cell 3
  simp at q3
  go_wp2_with fail
  clear q3
  go_loopw [22] (fun vi wr => ∃ (k : Nat) (T : Option Addr) (ct : Nat), k ≤ NA ∧ vi = .int .i64 (k : Int) ∧ RowKit.Hid (Blk wr P 26 #[.slice Tg NG tg, .slice Tt NT tt, .slice A5 NH c5, .slice T k ct]) ∧ RowKit.Hid (AcRow wr wi.heap.size (.slice T k ct) (p.acls.take k)) ∧ RowKit.Hid (Keeps (fun x => x = P) wi wr)) (fun vi _ => NA - (intOf vi).toNat)
  case atStart => exact ⟨0, none, 0, Nat.zero_le _, rfl, HPi, Lib.hid (AcRow.nil _ _), Lib.hid (Keeps.refl _ _)⟩
  case round =>
    obtain ⟨k, T, ct, hk', rfl, HPr, HAr, HKr⟩ := hrel
    have HBr := Lib.hid (HDi.out.trans (HKr.out.low (fun x hx => by subst hx; exact hPw.out) HDi.out.size))
    have HQr := Lib.hid (HQi.out.keep HKr.out hQP.out)
    by_cases hlt : k < NA
    case pos =>
      obtain ⟨wo, rfl⟩ : ∃ wo : World, wo = wr := ⟨_, rfl⟩
      have hlx := congrArg List.length HXa.out
      rw [List.length_map] at hlx
      have hkl : k < p.acls.length := by have := HNA.out; omega
      obtain ⟨X, hX⟩ : ∃ X, xa[k]? = some X := ⟨_, List.getElem?_eq_getElem (by omega)⟩
      have hXl : p.acls[k]? = some X.a := by rw [← HXa.out, List.getElem?_map, hX]; rfl
      have hXg : p.acls[k] = X.a := (List.getElem?_eq_some_iff.1 hXl).2
      have htk := List.take_succ_eq_append_getElem hkl
      rw [hXg] at htk
      have htl : (p.acls.take k).length = k := by rw [List.length_take]; omega
      obtain ⟨q, o, rfl, hc⟩ := H4.out.cell HBr.out (by omega)
      obtain ⟨e0, e1, e2, e3⟩ := acCells_at xa k X hX
      have d0 := hc _ _ e0
      have d1 := hc _ _ e1
      have d2 := hc _ _ e2
      have d3 := hc _ _ e3
      rw [← Nat.add_assoc] at d1 d2 d3
      have hxm := I4.out X (List.mem_of_getElem? hX)
      have hXf := HFit.out.a X.a (List.mem_of_getElem? hXl)
      obtain ⟨⟨ps, ss, ds, os⟩, pv, sv, dv, ov⟩ := X
      obtain ⟨A1, c1, f1⟩ := hxm.p.shape
      obtain ⟨A2, c2, f2⟩ := hxm.s.shape
      obtain ⟨A3, c3, f3⟩ := hxm.d.shape
      obtain ⟨A4, c4, f4⟩ := hxm.o.shape
      obtain ⟨x1, x2, x3, x4⟩ := hxm
      have g1 := hXf.pl
      have g2 := hXf.sl
      have g3 := hXf.dl
      have g4 := hXf.ol
      simp only at f1 f2 f3 f4 d0 d1 d2 d3 x1 x2 x3 x4 htk g1 g2 g3 g4
      subst f1 f2 f3 f4
      obtain ⟨n1, hn1⟩ : ∃ n, n = ps.length := ⟨_, rfl⟩
      obtain ⟨n2, hn2⟩ : ∃ n, n = ss.length := ⟨_, rfl⟩
      obtain ⟨n3, hn3⟩ : ∃ n, n = ds.length := ⟨_, rfl⟩
      obtain ⟨n4, hn4⟩ : ∃ n, n = os.length := ⟨_, rfl⟩
      rw [← hn1] at d0 x1 g1
      rw [← hn2] at d1 x2 g2
      rw [← hn3] at d2 x3 g3
      rw [← hn4] at d3 x4 g4
      have HN1 := Lib.hid hn1
      have HN2 := Lib.hid hn2
      have HN3 := Lib.hid hn3
      have HN4 := Lib.hid hn4
      have X1 := Lib.hid x1
      have X2 := Lib.hid x2
      have X3 := Lib.hid x3
      have X4 := Lib.hid x4
      have HTk := Lib.hid htk
      have HTl := Lib.hid htl
      clear hlx hkl hX hXl hXg htk htl hc e0 e1 e2 e3 hXf hn1 hn2 hn3 hn4 x1 x2 x3 x4
      go_upto_region 6 with fail
      have M1 := Lib.hid (Blk.new wo 57 #[.slice A1 n1 c1, .slice A2 n2 c2, .slice A3 n3 c3, .slice A4 n4 c4])
      have q1 := boxed wo (.cells #[.slice A1 n1 c1, .slice A2 n2 c2, .slice A3 n3 c3, .slice A4 n4 c4] 57)
      have HBa := Lib.hid (after HBr.out q1)
      have HPa := Lib.hid (HPr.out.below q1 HPr.out.lt)
      have HQa := Lib.hid (HQr.out.below q1 HQr.out.lt)
      have HKa := Lib.hid (HKr.out.alloc (.cells #[.slice A1 n1 c1, .slice A2 n2 c2, .slice A3 n3 c3, .slice A4 n4 c4] 57))
      have HAa := Lib.hid (HAr.out.below q1)
      generalize wo.alloc (.cells #[.slice A1 n1 c1, .slice A2 n2 c2, .slice A3 n3 c3, .slice A4 n4 c4] 57) = wa at M1 HBa HPa HQa HKa HAa q1 ⊢
      have hMP : RowKit.Hid ((Value.slice T k ct).ownBlock ≠ some wo.heap.size) := Lib.hid (by
        obtain ⟨zs, _, hoz, _⟩ := HAr.out
        intro e
        have := (hoz.lt _ e).2
        omega)
      generalize wo.heap.size = M at M1 hMP ⊢
      clear q1 HBr HPr HQr HKr HAr d0 d1 d2 d3
      have hc1 := fun u (hu : Below w.heap.size w u) => clone_u8 (X1.out.below hu) g1 (one_proto _)
      have hc2 := fun u (hu : Below w.heap.size w u) => clone_sel (X2.out.below hu) g2 (one_sel _)
      have hc3 := fun u (hu : Below w.heap.size w u) => clone_sel (X3.out.below hu) g3 (one_sel _)
      have hc4 := fun u (hu : Below w.heap.size w u) => clone_po (X4.out.below hu) g4 (one_port _)
      unfold ClonR at hc1 hc2 hc3 hc4
      have C1 := Lib.hid hc1
      have C2 := Lib.hid hc2
      have C3 := Lib.hid hc3
      have C4 := Lib.hid hc4
      have hbs : RowKit.Hid (wi.heap.size ≤ wa.heap.size) := Lib.hid HKa.out.size
      have y0 := HPa.out.cell 3
      have y1 := M1.out.cell 0
      have y2 := M1.out.cell 1
      have y3 := M1.out.cell 2
      have y4 := M1.out.cell 3
      simp at y0 y1 y2 y3 y4
      clear hc1 hc2 hc3 hc4 X1 X2 X3 X4 HQa
      refine wp_region_E 18 (fun w' => w'.cell? ⟨P, 3, none⟩ = some (.slice T k ct) ∧ w'.cell? ⟨M, 0, none⟩ = some (.slice A1 n1 c1) ∧ w'.cell? ⟨M, 1, none⟩ = some (.slice A2 n2 c2) ∧ w'.cell? ⟨M, 2, none⟩ = some (.slice A3 n3 c3) ∧ w'.cell? ⟨M, 3, none⟩ = some (.slice A4 n4 c4)) (by kernel_rfl) (⟨y0, y1, y2, y3, y4⟩) (fun hHeld => ?_)
      refine tE 0 ?_; try simp only [Ap]
      refine tE 1 ?_; try simp only [Ap]
      refine tE 2 ?_; try simp only [Ap]
      refine tE 3 ?_; try simp only [Ap]
      refine tE 5 ?_; try simp only [Ap]
      refine tE 6 ?_; try simp only [Ap]
      refine tE 8 ?_; try simp only [Ap]
      refine tE 9 ?_; try simp only [Ap]
      refine tE 11 ?_; try simp only [Ap]
      refine tE 12 ?_; try simp only [Ap]
      refine wpAnyE_ready (rs := [4]) (by kernel_rfl) (by simp) ?_
      refine AllReadyE.cons rfl (fun K hK => ?_) AllReadyE.nil
      go_simp
      refine (C1.out _ HBa.out.drew).mono ?_
      rintro r w1 ⟨⟨B1, m1, rfl, hw⟩, db⟩
      have eb1 : Below wa.heap.size wa w1 := ⟨db.os, db.tape, db.output, db.size, db.block⟩
      have HW1 := Lib.hid hw
      have DB1 := Lib.hid db
      clear db hw
      refine hK.out _ _ (fun _ => ⟨below_cell y0 eb1, below_cell y1 eb1, below_cell y2 eb1, below_cell y3 eb1, below_cell y4 eb1⟩) (fun hHeld => ?_)
      have hHeld := hHeld (by decide)
      clear hK K
      try simp only [Ap]
      refine wpAnyE_ready (rs := [7]) (by kernel_rfl) (by simp) ?_
      refine AllReadyE.cons rfl (fun K hK => ?_) AllReadyE.nil
      go_simp
      refine (C2.out _ (after HBa.out eb1)).mono ?_
      rintro r w2 ⟨⟨B2, m2, rfl, hw⟩, db⟩
      have eb2 : Below wa.heap.size wa w2 := after eb1 db
      have HW2 := Lib.hid hw
      have DB2 := Lib.hid db
      clear db hw
      refine hK.out _ _ (fun _ => ⟨below_cell y0 eb2, below_cell y1 eb2, below_cell y2 eb2, below_cell y3 eb2, below_cell y4 eb2⟩) (fun hHeld => ?_)
      have hHeld := hHeld (by decide)
      clear hK K
      try simp only [Ap]
      refine wpAnyE_ready (rs := [10]) (by kernel_rfl) (by simp) ?_
      refine AllReadyE.cons rfl (fun K hK => ?_) AllReadyE.nil
      go_simp
      refine (C3.out _ (after HBa.out eb2)).mono ?_
      rintro r w4 ⟨⟨B3, m3, rfl, hw⟩, db⟩
      have eb3 : Below wa.heap.size wa w4 := after eb2 db
      have HW3 := Lib.hid hw
      have DB3 := Lib.hid db
      clear db hw
      refine hK.out _ _ (fun _ => ⟨below_cell y0 eb3, below_cell y1 eb3, below_cell y2 eb3, below_cell y3 eb3, below_cell y4 eb3⟩) (fun hHeld => ?_)
      have hHeld := hHeld (by decide)
      clear hK K
      try simp only [Ap]
      refine wpAnyE_ready (rs := [13]) (by kernel_rfl) (by simp) ?_
      refine AllReadyE.cons rfl (fun K hK => ?_) AllReadyE.nil
      go_simp
      refine (C4.out _ (after HBa.out eb3)).mono ?_
      rintro r w5 ⟨⟨B4, m4, rfl, hw⟩, db⟩
      have eb4 : Below wa.heap.size wa w5 := after eb3 db
      have HW4 := Lib.hid hw
      have DB4 := Lib.hid db
      clear db hw
      refine hK.out _ _ (fun _ => ⟨below_cell y0 eb4, below_cell y1 eb4, below_cell y2 eb4, below_cell y3 eb4, below_cell y4 eb4⟩) (fun hHeld => ?_)
      have hHeld := hHeld (by decide)
      clear hK K
      try simp only [Ap]
      refine tE 14 ?_; try simp only [Ap]
      refine wpAnyE_ready (rs := [15]) (by kernel_rfl) (by simp) ?_
      refine AllReadyE.cons rfl (fun K hK => ?_) AllReadyE.nil
      go_simp
      have bc := boxed w5 (.cells #[.slice B1 n1 m1, .slice B2 n2 m2, .slice B3 n3 m3, .slice B4 n4 m4] 57)
      have eb5 := after eb4 bc
      have HK5 := Lib.hid (HKa.out.trans (Keeps.of_below eb5 fun x hx _ => hx))
      have HP5 := Lib.hid (HPa.out.below eb5 HPa.out.lt)
      have HM5 := Lib.hid (M1.out.below eb5 M1.out.lt)
      have z1 := (own_below HW1.out (after (after (after DB2.out DB3.out) DB4.out) bc)).mono hbs.out
      have z2 := (own_below HW2.out (after (after DB3.out DB4.out) bc)).mono (Nat.le_trans hbs.out eb1.size)
      have z3 := (own_below HW3.out (after DB4.out bc)).mono (Nat.le_trans hbs.out eb2.size)
      have z4 := (own_below HW4.out bc).mono (Nat.le_trans hbs.out eb3.size)
      have HMem : RowKit.Hid (AcMem (w5.alloc (.cells #[.slice B1 n1 m1, .slice B2 n2 m2, .slice B3 n3 m3, .slice B4 n4 m4] 57)) wi.heap.size ⟨⟨ps, ss, ds, os⟩, .slice B1 n1 m1, .slice B2 n2 m2, .slice B3 n3 m3, .slice B4 n4 m4⟩) := Lib.hid ⟨by rw [HN1.out] at z1 ⊢; exact z1, by rw [HN2.out] at z2 ⊢; exact z2, by rw [HN3.out] at z3 ⊢; exact z3, by rw [HN4.out] at z4 ⊢; exact z4⟩
      have hbw : RowKit.Hid (wi.heap.size ≤ w5.heap.size) := Lib.hid (Nat.le_trans hbs.out eb4.size)
      obtain ⟨ys, hys, hoy, hiy⟩ := HAa.out.below eb5
      rw [HTl.out] at hoy
      have HYs := Lib.hid hys
      have HOX := Lib.hid hoy
      have HIy := Lib.hid hiy
      have HNew := Lib.hid (cells_new w5 [.slice B1 n1 m1, .slice B2 n2 m2, .slice B3 n3 m3, .slice B4 n4 m4] 57)
      clear z1 z2 z3 z4 hys hoy hiy bc
      refine hK.out _ _ (fun _ => ⟨below_cell y0 eb5, below_cell y1 eb5, below_cell y2 eb5, below_cell y3 eb5, below_cell y4 eb5⟩) (fun hHeld => ?_)
      have hHeld := hHeld (by decide)
      clear hK K
      try simp only [Ap]
      refine wpAnyE_ready (rs := [16]) (by kernel_rfl) (by simp) ?_
      refine AllReadyE.cons rfl (fun K hK => ?_) AllReadyE.nil
      refine step_append_lies _ (by rfl) _ _ _ (by rfl) wi.heap.size 57 a0 (.agg #[.slice none 0 0, .slice none 0 0, .slice none 0 0, .slice none 0 0]) 4 96 Tryz.underlying24 ha ha0 ha1 ha2 rfl (by decide) _ k _ (by rfl) HOX.out ⟨w5.heap.size, 0, none⟩ 1 1 [.slice B1 n1 m1, .slice B2 n2 m2, .slice B3 n3 m3, .slice B4 n4 m4] (by rfl) rfl HNew.out (by intro u hu; simp at hu; rcases hu with rfl | rfl | rfl | rfl <;> rfl) (by decide) (by unfold maxLen; omega) (by omega) (by have := hbw.out; simp; omega) (w5.heap.size + 1) (by simp) ?_
      intro g' cap' wd hown' hgrow hat hglt
      have BP := Lib.hid (HP5.out.off (Keeps.row hgrow) (ownOff HOX.out) (by decide))
      have BM := HM5.out
      have hMg : (Value.slice T k ct).ownBlock ≠ some M := hMP.out
      have BM2 := BM.grown hgrow (fun e => hMg e.symm)
      have x0 := BP.out.cell 3
      have x1 := BM2.cell 0
      have x2 := BM2.cell 1
      have x3 := BM2.cell 2
      have x4 := BM2.cell 3
      simp at x0 x1 x2 x3 x4
      have z3 := BP.out.frozen 3
      have Hown := Lib.hid hown'
      have Hgrow := Lib.hid hgrow
      clear hown' hgrow hat hglt BM BM2
      refine hK.out _ _ (fun _ => ⟨x0, x1, x2, x3, x4⟩) (fun hHeld => ?_)
      have hHeld := hHeld (by decide)
      clear hK K
      try simp only [Ap]
      refine tE 17 ?_; try simp only [Ap]
      refine wpAnyE_ready (rs := [18]) (by kernel_rfl) (by simp) ?_
      refine AllReadyE.cons rfl (fun K hK => ?_) AllReadyE.nil
      go_simp
      refine hK.out _ _ (fun h => absurd rfl h) (fun _ => ?_)
      clear hK K hHeld
      try simp only [Ap]
      refine wpAnyE_done (by kernel_rfl) ?_
      have KQ := (Keeps.refl (fun x => x = P) wd).setCell (p := ⟨P, 3, none⟩) (Or.inl rfl) (.slice (some ⟨g', 0, none⟩) (k + 1) cap')
      have OQ : Off (fun x => x = P) wd [26] := fun x hx => ⟨_, _, _, by subst hx; exact BP.out, by simp⟩
      have HKz := Lib.hid ((Keeps.grown HK5.out Hgrow.out fun x hx => Or.inr (HOX.out.lt x hx).1).trans KQ)
      have HPz : RowKit.Hid (Blk (wd.setCell ⟨P, 3, none⟩ (.slice (some ⟨g', 0, none⟩) (k + 1) cap')) P 26 #[.slice Tg NG tg, .slice Tt NT tt, .slice A5 NH c5, .slice (some ⟨g', 0, none⟩) (k + 1) cap']) := Lib.hid (BP.out.set_ 3 _)
      have HAz : RowKit.Hid (AcRow (wd.setCell ⟨P, 3, none⟩ (.slice (some ⟨g', 0, none⟩) (k + 1) cap')) wi.heap.size (.slice (some ⟨g', 0, none⟩) (k + 1) cap') (p.acls.take (k + 1))) := by
        refine Lib.hid ⟨ys ++ [⟨⟨ps, ss, ds, os⟩, .slice B1 n1 m1, .slice B2 n2 m2, .slice B3 n3 m3, .slice B4 n4 m4⟩], by rw [List.map_append, HYs.out, HTk.out]; rfl, ?_, ?_⟩
        · rw [HTk.out, List.length_append, HTl.out, acCells_snoc]
          exact own_off Hown.out KQ OQ (by decide)
        · intro x hx
          rcases List.mem_append.1 hx with hx | hx
          · exact ((HIy.out x hx).keep (Keeps.row Hgrow.out) (ownOff HOX.out) (by decide) (by decide) (by decide)).keep KQ OQ (by decide) (by decide) (by decide)
          · rw [List.mem_singleton.1 hx]
            exact (HMem.out.keep (Keeps.row Hgrow.out) (ownOff HOX.out) (by decide) (by decide) (by decide)).keep KQ OQ (by decide) (by decide) (by decide)
      clear KQ OQ BP Hown Hgrow HK5 HP5 HM5 HOX HIy HYs HMem HNew M1 HBa HPa z3 x0 x1 x2 x3 x4 y0 y1 y2 y3 y4 eb1 eb2 eb3 eb4 eb5 HW1 HW2 HW3 HW4 DB1 DB2 DB3 DB4 C1 C2 C3 C4 HAa HKa hbs hbw
      generalize wd.setCell ⟨P, 3, none⟩ (.slice (some ⟨g', 0, none⟩) (k + 1) cap') = we at HKz HPz HAz ⊢
      go_wp2_with fail
      go_roundw
      case rel => exact ⟨k + 1, some ⟨g', 0, none⟩, cap', by omega, by go_num, HPz, HAz, HKz⟩
      case measure => simp [intOf]; omega
    obtain rfl : NA = k := by omega
    obtain ⟨wz, rfl⟩ : ∃ wz : World, wz = wr := ⟨_, rfl⟩
    have HAz : RowKit.Hid (AcRow wz wi.heap.size (.slice T NA ct) p.acls) := Lib.hid (by have := HAr.out; rw [List.take_of_length_le (by have := HNA.out; omega)] at this; exact this)
    have OP : Off (fun x => x = P) wi [26] := fun x hx => ⟨_, _, _, by subst hx; exact HPi.out, List.mem_singleton.2 rfl⟩
    obtain ⟨bg, hg⟩ := HGi.out
    obtain ⟨bt, ht⟩ := HTi.out
    obtain ⟨bo, ho⟩ := HOi.out
    have HGz := Lib.hid (hg.off HKr.out OP (by decide) (by decide))
    have HTz := Lib.hid (ht.off HKr.out OP (by decide) (by decide))
    have HOz := Lib.hid (own_off ho HKr.out OP (by decide))
    clear hg ht ho
    have HRz := Lib.hid (HRi.out.keep HKr.out hRP.out)
    clear OP HAr HKr HPi HQi HRi HGi HTi HOi HDi
    have x0 := HPr.out.cell 0
    have x1 := HPr.out.cell 1
    have x2 := HPr.out.cell 2
    have x3 := HPr.out.cell 3
    have r0 := HRz.out.cell 0
    have r1 := HRz.out.cell 1
    have r2 := HRz.out.cell 2
    have r3 := HRz.out.cell 3
    simp at x0 x1 x2 x3 r0 r1 r2 r3
    have z0 := HRz.out.frozen 0
    have z1 := HRz.out.frozen 1
    have z2 := HRz.out.frozen 2
    have z3 := HRz.out.frozen 3
    go_wp2_with fail
    have KR := ((((Keeps.refl (fun x => x = R) wz).setCell (p := ⟨R, 0, none⟩) (Or.inl rfl) (.slice Tg NG tg)).setCell (p := ⟨R, 1, none⟩) (Or.inl rfl) (.slice Tt NT tt)).setCell (p := ⟨R, 2, none⟩) (Or.inl rfl) (.slice A5 NH c5)).setCell (p := ⟨R, 3, none⟩) (Or.inl rfl) (.slice T NA ct)
    have OR : Off (fun x => x = R) wz [26] := fun x hx => ⟨_, _, _, by subst hx; exact HRz.out, by simp⟩
    have BR := (((HRz.out.set_ 0 (.slice Tg NG tg)).set_ 1 (.slice Tt NT tt)).set_ 2 (.slice A5 NH c5)).set_ 3 (.slice T NA ct)
    have hbb := HBr.out.trans (KR.low (fun x hx => by subst hx; exact hRw.out) HBr.out.size)
    refine bodyPost_ret (results_c (x := 2) rfl rfl (load4 BR)) rfl ⟨⟨⟨.slice Tg NG tg, .slice Tt NT tt, .slice A5 NH c5, .slice T NA ct⟩, rfl, ⟨(HGz.out.off KR OR (by decide) (by decide)).rd, (HTz.out.off KR OR (by decide) (by decide)).rd, RowR.of_own' (own_off HOz.out KR OR (by decide)) HNH.out.symm, (HAz.out.off KR OR (by decide) (by decide) (by decide) (by decide)).rd⟩⟩, hbb⟩
end Go.Proofs.YtbiglifngfgffaaGreatDoor

/- Which policies may be, as the document says: the plain law. -/
namespace Go.Proofs.YtbiglifngfgffaaGreatDoor
open Go.RowKit

def rmaySel (s : Sel) : Bool := if s.kind = 1 then decide (s.name = ByteArray.empty) && decide (s.net = Pf.zero) else if s.kind = 2 ∨ s.kind = 3 ∨ s.kind = 4 ∨ s.kind = 5 then labelB s.name && decide (s.net = Pf.zero) else if s.kind = 6 then decide (s.name = ByteArray.empty) && pmay s.net else false
theorem ptext_not {p : Pf} (h : ¬ pmay p = true) : ptext p = [] := by unfold ptext; rw [if_neg h]
theorem selP_word {k nm : List UInt8} (hk : (58 : UInt8) ∉ k) (hs : ofL (k ++ 58 :: nm) ≠ W_star) : selP (ofL (k ++ 58 :: nm)) = if kindN k = 6 then (preadL nm).map fun n => ⟨6, ByteArray.empty, n⟩ else if 0 < kindN k ∧ labelL nm = true then some ⟨kindN k, ofL nm, Pf.zero⟩ else none := by
  unfold selP
  rw [if_neg hs, ofL_toList, cut_one_hit nm hk]
theorem word_star {k nm : List UInt8} (hk : k ≠ []) : ofL (k ++ 58 :: nm) ≠ W_star := by
  intro e
  have := congrArg (fun b : ByteArray => b.data.toList.length) e
  rw [ofL_toList, List.length_append, List.length_cons] at this
  have hs : W_star.data.toList.length = 1 := rfl
  rw [hs] at this
  cases k with
  | nil => exact hk rfl
  | cons x r => simp at this; omega
theorem rmaySel_eq {s : Sel} (ok : s.net.Ok) : decide (selP (ofL (selT s)) = some s) = rmaySel s := by
  obtain ⟨k, nm, net⟩ := s
  rw [Bool.eq_iff_iff, decide_eq_true_eq]
  have hname : ofL nm.data.toList = nm := ofL_back nm
  unfold selT rmaySel
  simp only
  by_cases h1 : k = 1
  · subst h1
    have e : selP (ofL [42]) = some ⟨1, ByteArray.empty, Pf.zero⟩ := rfl
    simp only [if_pos rfl]
    rw [if_pos trivial, if_pos trivial, e]
    constructor
    · intro h
      injection h with h
      injection h with _ h2 h3
      rw [← h2, ← h3]
      rfl
    · intro h
      simp only [Bool.and_eq_true, decide_eq_true_eq] at h
      rw [h.1, h.2]
  rw [if_neg h1, if_neg h1]
  have named : ∀ (kk : Nat) (W : ByteArray), kindN W.data.toList = kk → kk ≠ 6 → 0 < kk → (58 : UInt8) ∉ W.data.toList → W.data.toList ≠ [] → (selP (ofL (W.data.toList ++ 58 :: nm.data.toList)) = some ⟨kk, nm, net⟩ ↔ (labelB nm && decide (net = Pf.zero)) = true) := by
    intro kk W e1 e2 e3 e4 e5
    rw [selP_word e4 (word_star e5), e1, if_neg e2]
    by_cases hl : labelL nm.data.toList = true
    · rw [if_pos ⟨e3, hl⟩, hname, Bool.and_eq_true, decide_eq_true_eq]
      constructor
      · intro h
        injection h with h
        injection h with _ _ h3
        exact ⟨hl, h3.symm⟩
      · intro h
        rw [h.2]
    · rw [if_neg (fun h => hl h.2)]
      constructor
      · intro h; cases h
      · intro h
        rw [Bool.and_eq_true] at h
        exact absurd h.1 hl
  by_cases h2 : k = 2
  · subst h2
    rw [if_pos rfl, if_pos (Or.inl rfl)]
    exact named 2 W_user rfl (by decide) (by decide) (by decide) (by decide)
  rw [if_neg h2]
  by_cases h3 : k = 3
  · subst h3
    rw [if_pos rfl, if_pos (Or.inr (Or.inl rfl))]
    exact named 3 W_group rfl (by decide) (by decide) (by decide) (by decide)
  rw [if_neg h3]
  by_cases h4 : k = 4
  · subst h4
    rw [if_pos rfl, if_pos (Or.inr (Or.inr (Or.inl rfl)))]
    exact named 4 W_tag rfl (by decide) (by decide) (by decide) (by decide)
  rw [if_neg h4]
  by_cases h5 : k = 5
  · subst h5
    rw [if_pos rfl, if_pos (Or.inr (Or.inr (Or.inr rfl)))]
    exact named 5 W_host rfl (by decide) (by decide) (by decide) (by decide)
  rw [if_neg h5, if_neg (show ¬ (k = 2 ∨ k = 3 ∨ k = 4 ∨ k = 5) by omega)]
  by_cases h6 : k = 6
  · subst h6
    rw [if_pos rfl, if_pos rfl, selP_word (by decide) (word_star (by decide)), show kindN W_net.data.toList = 6 from rfl, if_pos rfl]
    by_cases hp : pmay net = true
    · rw [preadL_text ok hp, Option.map_some, Bool.and_eq_true, decide_eq_true_eq]
      constructor
      · intro h
        injection h with h
        injection h with _ h3 _
        exact ⟨h3.symm, hp⟩
      · intro h
        rw [h.1]
    · rw [ptext_not hp, preadL_nil']
      constructor
      · intro h; cases h
      · intro h
        rw [Bool.and_eq_true] at h
        exact absurd h.2 hp
  rw [if_neg h6, if_neg h6]
  have e : selP (ofL []) = none := rfl
  rw [e]
  constructor
  · intro h; cases h
  · intro h; cases h
/- A name that is told twice, step by step. -/
theorem distinct_take : ∀ (l : List ByteArray), distinct l = true → ∀ k, distinct (l.take k) = true := by
  intro l
  induction l with
  | nil => intro _ k; rw [List.take_nil]; rfl
  | cons x r ih =>
    intro h k
    unfold distinct at h
    rw [Bool.and_eq_true] at h
    cases k with
    | zero => rfl
    | succ k =>
      rw [List.take_succ_cons]
      unfold distinct
      rw [Bool.and_eq_true]
      refine ⟨?_, ih h.2 k⟩
      have h1 := h.1
      simp only [Bool.not_eq_true', List.any_eq_false, decide_eq_true_eq] at h1 ⊢
      exact fun y hy => h1 y (List.mem_of_mem_take hy)
theorem distinct_not {l : List ByteArray} {k : Nat} {x : ByteArray} (hx : l[k]? = some x) (h : x ∈ l.take k) : distinct l = false := by
  rw [Bool.eq_false_iff]
  intro e
  have hk : k < l.length := (List.getElem?_eq_some_iff.1 hx).1
  have h1 := distinct_take l e (k + 1)
  rw [List.take_succ_eq_append_getElem hk, show l[k] = x from (List.getElem?_eq_some_iff.1 hx).2] at h1
  exact distinct_mid h1 h
theorem rising_len : ∀ (l : List Nat), rising 0 l = true → (∀ x ∈ l, protoOk x = true) → l.length ≤ 3 := by
  intro l h hp
  match l, h, hp with
  | [], _, _ => decide
  | [_], _, _ => show 1 ≤ 3; decide
  | [_, _], _, _ => show 2 ≤ 3; decide
  | [_, _, _], _, _ => show 3 ≤ 3; decide
  | a :: b :: c :: d :: r, h, hp =>
    exfalso
    unfold rising at h
    unfold rising at h
    unfold rising at h
    unfold rising at h
    simp only [Bool.and_eq_true, decide_eq_true_eq] at h
    have ha := protoOk_cases (hp a (by simp))
    have hb := protoOk_cases (hp b (by simp))
    have hc := protoOk_cases (hp c (by simp))
    have hd := protoOk_cases (hp d (by simp))
    omega
end Go.Proofs.YtbiglifngfgffaaGreatDoor

/- Names, as the document says (Label): the walk. -/
namespace Go.Proofs.YtbiglifngfgffaaGreatDoor
open Go.RowKit
attribute [local go_sem ↓] Go.wp_at_zero Go.wp_at_succ

def labAt (j : Nat) (c : UInt8) : Bool := if j = 0 then az c else labc c
theorem label_not {s : ByteArray} {i : Nat} (hi : i < s.size) (h : labAt i (s[i]'hi) = false) : labelB s = false := by
  have hkl : i < s.data.toList.length := by rw [← Lib.size_eq]; exact hi
  have hx : s.data.toList[i]'hkl = s[i]'hi := rfl
  rw [← hx] at h
  unfold labelB labelL
  generalize s.data.toList = l at hkl h
  match l, hkl, h with
  | c :: r, hk, h =>
    simp only
    unfold labAt at h
    cases i with
    | zero =>
      rw [if_pos rfl] at h
      have h' : az c = false := h
      rw [h', Bool.and_false, Bool.false_and]
    | succ i =>
      rw [if_neg (by omega)] at h
      have hk' : i < r.length := by simpa using hk
      have h' : labc r[i] = false := h
      have : r.all labc = false := by
        rw [Bool.eq_false_iff]
        intro e
        rw [List.all_eq_true] at e
        rw [e _ (List.getElem_mem hk')] at h'
        cases h'
      rw [this, Bool.and_false]
theorem label_is {s : ByteArray} (h1 : 1 ≤ s.size) (h2 : s.size ≤ 32) (h : ∀ i, (hi : i < s.size) → labAt i (s[i]'hi) = true) : labelB s = true := by
  have h' : ∀ i, (hi : i < s.data.toList.length) → labAt i (s.data.toList[i]'hi) = true := fun i hi => h i (by rw [Lib.size_eq]; exact hi)
  rw [Lib.size_eq] at h1 h2
  unfold labelB labelL
  generalize s.data.toList = l at h1 h2 h'
  match l, h1, h2, h' with
  | c :: r, _, h2, h' =>
    simp only
    have e0 : az c = true := h' 0 (by simp)
    have e1 : r.all labc = true := by
      rw [List.all_eq_true]
      intro x hx
      obtain ⟨i, hi, rfl⟩ := List.mem_iff_getElem.1 hx
      exact h' (i + 1) (by simpa using hi)
    rw [e0, e1, decide_eq_true (show r.length < 32 by simp at h2; omega)]
    rfl
theorem label_len {s : ByteArray} (h : s.size < 1 ∨ 32 < s.size) : labelB s = false := by
  rw [Lib.size_eq] at h
  unfold labelB labelL
  generalize s.data.toList = l at h
  match l with
  | [] => rfl
  | c :: r =>
    simp only
    have : ¬ r.length < 32 := by
      rcases h with h | h
      · simp at h
      · simp at h; omega
    rw [decide_eq_false this, Bool.false_and, Bool.false_and]

set_option maxHeartbeats 8000000 in
set_option maxRecDepth 100000 in
theorem rlabel_any (s : ByteArray) (hs : s.size ≤ 2000000) (w : World) : Calls Tryz.prog 65 #[.string s] w (Got (.bool (labelB s)) w) := by
  obtain ⟨R, hR⟩ : ∃ r, r = labelB s := ⟨_, rfl⟩
  rw [← hR]
  have HR := Lib.hid hR
  clear hR
  by_cases h1 : s.size < 1
  · have q1 : (s.size : Int) < 1 := by omega
    have HRf : RowKit.Hid (R = false) := Lib.hid (HR.out.trans (label_len (Or.inl h1)))
    clear h1
    go_enter Tryz.func65, Tryz.ntmps65
    go_wp2_with fail
    go_ret
    exact ⟨by rw [HRf.out]; rfl, Below.refl _ _⟩
  have q1 : ¬ (s.size : Int) < 1 := by omega
  by_cases h32 : 32 < s.size
  · have q2 : (32 : Int) < (s.size : Int) := by omega
    have HRf : RowKit.Hid (R = false) := Lib.hid (HR.out.trans (label_len (Or.inr h32)))
    clear h1 h32
    go_enter Tryz.func65, Tryz.ntmps65
    go_wp2_with fail
    go_ret
    exact ⟨by rw [HRf.out]; rfl, Below.refl _ _⟩
  have q2 : ¬ (32 : Int) < (s.size : Int) := by omega
  go_enter Tryz.func65, Tryz.ntmps65
  go_wp2_with fail
  clear q1 q2
  go_loopw [3] (fun v3 wr => ∃ k : Nat, k ≤ s.size ∧ v3 = .int .i64 (k : Int) ∧ RowKit.Hid (Below w.heap.size w wr) ∧ RowKit.Hid (∀ i, (hi : i < s.size) → i < k → labAt i (s[i]'hi) = true)) (fun v3 _ => s.size - (intOf v3).toNat)
  case atStart => exact ⟨0, Nat.zero_le _, rfl, Lib.hid (Below.refl _ _), Lib.hid (fun i _ h => by omega)⟩
  case round =>
    obtain ⟨k, hk, rfl, HB, HA⟩ := hrel
    by_cases hlt : k < s.size
    · obtain ⟨b, hbk⟩ : ∃ b, b = s[k]'hlt := ⟨_, rfl⟩
      have hx : (s[k]'hlt).toNat = b.toNat := by rw [hbk]
      have hb8 : b.toNat < 256 := b.toNat_lt
      by_cases haz : 97 ≤ b.toNat ∧ b.toNat ≤ 122
      · have hazb : az b = true := by unfold az; exact decide_eq_true haz
        have HA2 : RowKit.Hid (∀ i, (hi : i < s.size) → i < k + 1 → labAt i (s[i]'hi) = true) := Lib.hid fun i hi h => by
          by_cases e : i < k
          · exact HA.out i hi e
          · obtain rfl : i = k := by omega
            rw [← hbk]
            unfold labAt
            (split; exact hazb; exact az_labc hazb)
        have q1 : (97 : Int) ≤ (b.toNat : Int) := by omega
        have q2 : (b.toNat : Int) ≤ 122 := by omega
        clear hazb haz hbk
        generalize b.toNat = X at *
        clear HA
        go_wp2_with fail
        go_roundw
        case rel => exact ⟨k + 1, by omega, by go_num, HB, HA2⟩
        case measure => simp [intOf]; omega
      have hazb : az b = false := by unfold az; exact decide_eq_false haz
      by_cases hk0 : k = 0
      · subst hk0
        have HRf : RowKit.Hid (R = false) := Lib.hid (HR.out.trans (label_not hlt (by rw [← hbk]; exact hazb)))
        clear hbk hazb
        generalize b.toNat = X at *
        by_cases h97 : X < 97
        · have q1 : ¬ (97 : Int) ≤ (X : Int) := by omega
          clear HA
          go_wp2_with fail
          go_ret
          exact ⟨by rw [HRf.out]; rfl, HB.out⟩
        · have q1 : (97 : Int) ≤ (X : Int) := by omega
          have q2 : ¬ (X : Int) ≤ 122 := by omega
          clear HA
          go_wp2_with fail
          go_ret
          exact ⟨by rw [HRf.out]; rfl, HB.out⟩
      have qk : ((k : Int) == 0) = false := by simp; omega
      have hin : ∀ n : Nat, b.toNat = n → n < 256 → b = UInt8.ofNat n := fun n e hn => UInt8.toNat_inj.1 (by rw [e, UInt8.toNat_ofNat']; omega)
      by_cases hl : labc b = true
      · skip
        have HA2 : RowKit.Hid (∀ i, (hi : i < s.size) → i < k + 1 → labAt i (s[i]'hi) = true) := Lib.hid fun i hi h => by
          by_cases e : i < k
          · exact HA.out i hi e
          · obtain rfl : i = k := by omega
            rw [← hbk]
            unfold labAt
            (rw [if_neg hk0]; exact hl)
        have hcs : (48 ≤ b.toNat ∧ b.toNat ≤ 57) ∨ b.toNat = 46 ∨ b.toNat = 95 ∨ b.toNat = 45 := by
          unfold labc at hl
          rw [hazb] at hl
          simp only [Bool.false_or, Bool.or_eq_true, decide_eq_true_eq] at hl
          rcases hl with ((h | h) | h) | h
          · exact Or.inl h
          · exact Or.inr (Or.inl (by rw [h]; rfl))
          · exact Or.inr (Or.inr (Or.inl (by rw [h]; rfl)))
          · exact Or.inr (Or.inr (Or.inr (by rw [h]; rfl)))
        clear hbk hazb hl hin
        generalize b.toNat = X at *
        clear HA
        rcases hcs with ⟨h48, h57⟩ | rfl | rfl | rfl
        · have q1 : ¬ (97 : Int) ≤ (X : Int) := by omega
          have q3 : (48 : Int) ≤ (X : Int) := by omega
          have q4 : (X : Int) ≤ 57 := by omega
          go_wp2_with fail
          go_roundw
          case rel => exact ⟨k + 1, by omega, by go_num, HB, HA2⟩
          case measure => simp [intOf]; omega
        · skip
          go_wp2_with fail
          go_roundw
          case rel => exact ⟨k + 1, by omega, by go_num, HB, HA2⟩
          case measure => simp [intOf]; omega
        · skip
          go_wp2_with fail
          go_roundw
          case rel => exact ⟨k + 1, by omega, by go_num, HB, HA2⟩
          case measure => simp [intOf]; omega
        · skip
          go_wp2_with fail
          go_roundw
          case rel => exact ⟨k + 1, by omega, by go_num, HB, HA2⟩
          case measure => simp [intOf]; omega
      · have HRf : RowKit.Hid (R = false) := Lib.hid (HR.out.trans (label_not hlt (by rw [← hbk]; unfold labAt; rw [if_neg hk0]; simpa using hl)))
        have n46 : ((b.toNat : Int) != 46) = true := by
          have : b.toNat ≠ 46 := fun e => hl (by rw [hin 46 e (by decide)]; decide)
          simp; omega
        have n95 : ((b.toNat : Int) != 95) = true := by
          have : b.toNat ≠ 95 := fun e => hl (by rw [hin 95 e (by decide)]; decide)
          simp; omega
        have n45 : ((b.toNat : Int) != 45) = true := by
          have : b.toNat ≠ 45 := fun e => hl (by rw [hin 45 e (by decide)]; decide)
          simp; omega
        have hnd : ¬ (48 ≤ b.toNat ∧ b.toNat ≤ 57) := fun e => hl (by unfold labc; rw [decide_eq_true e]; simp)
        clear hbk hazb hl hin
        generalize b.toNat = X at *
        by_cases h97 : X < 97
        · have q1 : ¬ (97 : Int) ≤ (X : Int) := by omega
          by_cases h48 : X < 48
          · have q3 : ¬ (48 : Int) ≤ (X : Int) := by omega
            clear HA
            go_wp2_with fail
            go_ret
            exact ⟨by rw [HRf.out]; rfl, HB.out⟩
          · have q3 : (48 : Int) ≤ (X : Int) := by omega
            have q4 : ¬ (X : Int) ≤ 57 := by omega
            clear HA
            go_wp2_with fail
            go_ret
            exact ⟨by rw [HRf.out]; rfl, HB.out⟩
        · have q1 : (97 : Int) ≤ (X : Int) := by omega
          have q2 : ¬ (X : Int) ≤ 122 := by omega
          have q3 : (48 : Int) ≤ (X : Int) := by omega
          have q4 : ¬ (X : Int) ≤ 57 := by omega
          clear HA
          go_wp2_with fail
          go_ret
          exact ⟨by rw [HRf.out]; rfl, HB.out⟩
    · obtain rfl : s.size = k := by omega
      have HRt : RowKit.Hid (R = true) := Lib.hid (HR.out.trans (label_is (by omega) (by omega) fun i hi => HA.out i hi hi))
      clear HA
      go_wp2_with fail
      go_ret
      exact ⟨by rw [HRt.out]; rfl, HB.out⟩
end Go.Proofs.YtbiglifngfgffaaGreatDoor
