/- Drop. -/
import Derived.Test.YtbopmcdmahabbaaPcC
namespace Go.Proofs.Ytbopmcdmahabbaa
open Go.RowKit

def dropUsed (u : Option End) (e : End) : Option End := match u with | none => none | some x => if x.eqb e then none else some x
def Tab.drop (t : Tab) (e : End) (i : Nat) : Tab := { t with l := t.l.eraseIdx i, pings := (t.quiet e).pings, used := dropUsed t.used e }

/- The row has turned, and the slice that tells it. -/
theorem TM.shrunk {w w' : World} {b base cap m g : Nat} {U : Option Addr} {t : Tab} (h : TM w b base (some ⟨g, 0, none⟩) cap m U t) {l' : List Pth} (hr : PRow w' base (some ⟨g, 0, none⟩) cap l') (hk : Keeps (fun x => x = g) w w') (hl : l'.length ≤ t.l.length) :
    TM (w'.setCell ⟨b, 4, none⟩ (.slice (some ⟨g, 0, none⟩) l'.length cap)) b base (some ⟨g, 0, none⟩) cap m U { t with l := l' } := by
  have hs := h.own_sep (g := g) rfl
  have k3 := (Keeps.refl (fun g => g = b) w').setCell (p := ⟨b, 4, none⟩) (.inl rfl) (.slice (some ⟨g, 0, none⟩) l'.length cap)
  have b2 := h.blk.keep hk (fun e => hs.1 e.symm)
  refine ⟨⟨h.lim.wait0, h.lim.wait1, h.lim.life0, h.lim.life1, h.lim.loss0, h.lim.loss1, h.lim.most0, h.lim.most1, Nat.le_trans hl h.lim.len⟩, ?_, ?_, ?_, ?_⟩
  · have := b2.set_ 4 (.slice (some ⟨g, 0, none⟩) l'.length cap)
    simpa using this
  · exact hr.keep k3 (fun g' hg => by simp [Value.ownBlock] at hg; omega)
  · exact (h.map.keep hk (fun e => hs.2 e.symm)).keep k3 (fun e => h.bm e.symm)
  · have hu := h.used
    show match t.used with | none => U = none | some e => ∃ u, U = some ⟨u, 0, none⟩ ∧ Blk _ u 35 e.cells
    cases he : t.used with
    | none => rw [he] at hu; exact hu
    | some e5 =>
      rw [he] at hu
      obtain ⟨u, rfl, hbu⟩ := hu
      have hs2 := h.used_sep rfl
      exact ⟨u, rfl, (hbu.keep hk (fun e => hs2.2.2 g rfl e)).keep k3 hs2.1⟩

section
variable {w : World} {b base cap m : Nat} {A U : Option Addr} {t : Tab}

set_option maxHeartbeats 1000000 in
theorem drop_none (h : TM w b base A cap m U t) (e : End) (hf : findI t.l e = none) :
    Calls Try.prog 16 #[.pointer (some ⟨b, 0, none⟩), .agg e.cells] w fun r w' => r = .returned (.int .i64 5) ∧ Below w.heap.size w w' := by
  have h1 := h.alloc (.cells #[.bool e.v6, .int .u64 (e.hi : Int), .int .u64 (e.lo : Int), .int .u16 (e.port : Int)] 35)
  obtain ⟨c0, c1, c2, c3, c4, c5, c6⟩ := h1.cells
  have hfy := find_no h1 e hf
  have Hfy := Lib.hid hfy
  clear hf hfy
  rw [cellsE] at *
  go_enter Try.func16, Try.ntmps16
  go_wp2_with (first | (go_at_call 24; refine (tnone_some c5).mono ?_; rintro r w' ⟨rfl, rfl⟩) | (go_at_call 25; refine Hfy.out.mono ?_; rintro r w' ⟨rfl, hb⟩))
  go_ret
  exact ⟨rfl, ((Below.refl _ _).alloc (Nat.le_refl _) _).trans (hb.mono (by simp))⟩

/- What Drop leaves. -/
def Dropped (b base cap m g : Nat) (U : Option Addr) (t' : Tab) (w : World) (r : Ending) (w' : World) : Prop :=
  r = .returned (.int .i64 0) ∧ (∃ U', TM w' b base (some ⟨g, 0, none⟩) cap m U' t' ∧ (U' = U ∨ U' = none)) ∧ Keeps (fun k => k = b ∨ k = m ∨ k = g) w w'

set_option maxHeartbeats 2000000 in
set_option maxRecDepth 100000 in
theorem drop_ok {g : Nat} (h : TM w b base (some ⟨g, 0, none⟩) cap m U t) (ok : t.Ok) (e : End) {i : Nat} (hf : findI t.l e = some i) (hd : ∀ j p, t.l[j]? = some p → p.e.eqb e = true → j = i) :
    Calls Try.prog 16 #[.pointer (some ⟨b, 0, none⟩), .agg e.cells] w (Dropped b base cap m g U (t.drop e i) w) := by
  have hil : i < t.l.length := (List.findIdx?_eq_some_iff_getElem.1 hf).1
  have hl := h.lim.len
  have hl1 := h.lim.most1
  have h1 := h.alloc (.cells #[.bool e.v6, .int .u64 (e.hi : Int), .int .u64 (e.lo : Int), .int .u16 (e.port : Int)] 35)
  have hE1 := Blk.new w 35 #[.bool e.v6, .int .u64 (e.hi : Int), .int .u64 (e.lo : Int), .int .u16 (e.port : Int)]
  obtain ⟨c0, c1, c2, c3, c4, c5, c6⟩ := h1.cells
  clear c0 c1 c2 c3 c4 c6
  have hfy := find_yes h1 e hf rfl
  have Hfy := Lib.hid hfy
  have Hf := Lib.hid hf
  have Hd := Lib.hid hd
  have HE1 := Lib.hid hE1
  have hmlt := h.map.lt
  have hblt := h.blk.lt
  have hglt := (h.own_lt g rfl).2
  have hsep := h.own_sep (g := g) rfl
  clear hf hfy hd hE1
  rw [cellsE] at *
  go_enter Try.func16, Try.ntmps16
  go_wp2_with (first | (go_at_call 24; refine (tnone_some c5).mono ?_; rintro r w' ⟨rfl, rfl⟩) | (go_at_call 25; refine Hfy.out.mono ?_; rintro r w1 ⟨rfl, hb⟩; have h2 := h1.below hb; have hE2 := HE1.out.below hb (by simp); have x0 := hE2.cell 0; have x1 := hE2.cell 1; have x2 := hE2.cell 2; have x3 := hE2.cell 3; simp at x0 x1 x2 x3))
  have hqc := quiet_any h2 ok e
  rw [cellsE] at hqc
  refine hqc.mono ?_
  rintro r w2 ⟨rfl, h3, k3⟩
  have hE3 := hE2.keep k3 (by omega)
  obtain ⟨y0, y1, y2, y3, y4, y5, y6⟩ := h3.cells
  replace y4 : w2.cell? ⟨b, 4, none⟩ = some (.slice (some ⟨g, 0, none⟩) t.l.length cap) := y4
  have fz4 := h3.blk.frozen 4
  have H3 := Lib.hid h3
  clear hqc x0 x1 x2 x3 y0 y1 y2 y3 y5 y6 h3
  have hbs : b ≠ g := fun e => hsep.1 e.symm
  have hrow3 : PRow w2 base (some ⟨g, 0, none⟩) cap t.l := H3.out.row
  have hdl := delete_any base g cap t.l e w.heap.size w2 hrow3 (by omega) hE3 (by omega) Hf.out Hd.out
  have Hdl := Lib.hid hdl
  clear hdl
  go_wp2_with fail
  refine Hdl.out.mono ?_
  rintro r w3 ⟨rfl, hrow4, k4⟩
  have y4' : (w3.cell? ⟨b, 4, none⟩) = some (.slice (some ⟨g, 0, none⟩) t.l.length cap) := (H3.out.blk.keep k4 (fun e => hsep.1 e.symm)).cell 4
  have fz4' : w3.frozen? ⟨b, 4, none⟩ = false := (H3.out.blk.keep k4 (fun e => hsep.1 e.symm)).frozen 4
  have hll : (t.l.eraseIdx i).length = t.l.length - 1 := by rw [List.length_eraseIdx]; simp [hil]
  have h5 := H3.out.shrunk hrow4 k4 (by rw [hll]; exact Nat.sub_le _ _)
  rw [hll] at h5
  have hE4 := (hE3.keep k4 (by omega)).far (p := ⟨b, 4, none⟩) (show w.heap.size ≠ b by omega) (.slice (some ⟨g, 0, none⟩) (t.l.length - 1) cap)
  have kw1 : Keeps (fun k => k = b ∨ k = m ∨ k = g) w w1 := ((Keeps.refl _ w).alloc _).trans (Keeps.of_below hb (fun k hk _ => hk))
  have kw := (((kw1.trans (k3.mono (T := fun k => k = b ∨ k = m ∨ k = g) (fun k _ hk => .inr (.inl hk)))).trans (k4.mono (T := fun k => k = b ∨ k = m ∨ k = g) (fun k _ hk => .inr (.inr hk)))).setCell (p := ⟨b, 4, none⟩) (.inl (.inl rfl)) (.slice (some ⟨g, 0, none⟩) (t.l.length - 1) cap))
  have H5 := Lib.hid h5
  have HE4 := Lib.hid hE4
  have Kw := Lib.hid kw
  have u6 := h5.cells.2.2.2.2.2.2
  have hx0 := hE4.cell 0
  have hx1 := hE4.cell 1
  have hx2 := hE4.cell 2
  have hx3 := hE4.cell 3
  simp at hx0 hx1 hx2 hx3
  have fz6 := h5.blk.frozen 6
  have hu := h5.used
  clear h5 hE4 kw kw1 hll hrow4 Hdl hrow3 y4 fz4
  have hq66 := neq66 U
  cases hus : t.used with
  | none =>
    rw [show ({ t.quiet e with l := t.l.eraseIdx i } : Tab).used = none from hus] at hu
    simp only at hu
    subst hu
    have hdr : t.drop e i = { t.quiet e with l := t.l.eraseIdx i } := by
      unfold Tab.drop Tab.quiet dropUsed
      rw [hus]
    have Hdr := Lib.hid hdr
    clear hdr hus
    go_wp2_with fail
    go_quiet (fail)
    go_wp2_with fail
    go_ret
    refine ⟨rfl, ⟨none, ?_, .inr rfl⟩, Kw.out.drewN _⟩
    rw [Hdr.out]
    exact H5.out.drewN _
  | some u =>
    rw [show ({ t.quiet e with l := t.l.eraseIdx i } : Tab).used = some u from hus] at hu
    simp only at hu
    obtain ⟨ua, rfl, hub⟩ := hu
    have v0 := hub.cell 0
    have v1 := hub.cell 1
    have v2 := hub.cell 2
    have v3 := hub.cell 3
    simp [End.cells] at v0 v1 v2 v3
    have hq := eq35 u e
    cases hue : u.eqb e with
    | false =>
      have hdr : t.drop e i = { t.quiet e with l := t.l.eraseIdx i } := by
        unfold Tab.drop Tab.quiet dropUsed
        simp only [hus, hue, Bool.false_eq_true, if_false]
      rw [hue] at hq
      have Hdr := Lib.hid hdr
      clear hdr hus hue
      go_wp2_with fail
      go_quiet (fail)
      go_wp2_with fail
      go_ret
      refine ⟨rfl, ⟨_, ?_, .inl rfl⟩, Kw.out.drewN _⟩
      rw [Hdr.out]
      exact H5.out.drewN _
    | true =>
      have hdr : t.drop e i = { { t.quiet e with l := t.l.eraseIdx i } with used := none } := by
        unfold Tab.drop Tab.quiet dropUsed
        simp only [hus, hue, if_true]
      rw [hue] at hq
      have Hdr := Lib.hid hdr
      clear hdr hus hue
      go_wp2_with fail
      go_quiet (fail)
      go_wp2_with fail
      go_ret
      refine ⟨rfl, ⟨none, ?_, .inr rfl⟩, ((Kw.out.drewN _).setCell (p := ⟨b, 6, none⟩) (.inl (.inl rfl)) (.pointer none))⟩
      rw [Hdr.out]
      exact (H5.out.drewN _).setUsed none none rfl
end
end Go.Proofs.Ytbopmcdmahabbaa
