/- Add. -/
import Derived.Test.YtbopmcdmahabbaaPaD
import Derived.Deep.RegionLaw
import Derived.Deep.RegionHeld3
import Derived.Deep.DeepCutAuto
namespace Go.Proofs.Ytbopmcdmahabbaa
open Go.RowKit

theorem cellsE (e : End) : Value.agg e.cells = .agg #[.bool e.v6, .int .u64 (e.hi : Int), .int .u64 (e.lo : Int), .int .u16 (e.port : Int)] := rfl

theorem add_nil (e : End) (w : World) : Calls Try.prog 9 #[.pointer none, .agg e.cells] w fun r w' => r = .returned (.int .i64 1) ∧ Below w.heap.size w w' := by
  rw [cellsE]
  go_enter Try.func9, Try.ntmps9
  go_wp2_with (go_at_call 24; refine (tnone_nil _).mono ?_; rintro r w' ⟨rfl, rfl⟩)
  go_ret
  exact ⟨rfl, (Below.refl _ _).alloc (Nat.le_refl _) _⟩

set_option maxHeartbeats 1000000 in
theorem add_there {w : World} {b base cap m : Nat} {A U : Option Addr} {t : Tab} (h : TM w b base A cap m U t) (e : End) {i : Nat} (hf : findI t.l e = some i) :
    Calls Try.prog 9 #[.pointer (some ⟨b, 0, none⟩), .agg e.cells] w fun r w' => r = .returned (.int .i64 9) ∧ Below w.heap.size w w' := by
  have hil : i < t.l.length := (List.findIdx?_eq_some_iff_getElem.1 hf).1
  obtain ⟨g, rfl, _⟩ := h.row.at_ (List.getElem?_eq_getElem hil)
  have h1 := h.alloc (.cells #[.bool e.v6, .int .u64 (e.hi : Int), .int .u64 (e.lo : Int), .int .u16 (e.port : Int)] 35)
  obtain ⟨c0, c1, c2, c3, c4, c5, c6⟩ := h1.cells
  have hfy := find_yes h1 e hf rfl
  have Hfy := Lib.hid hfy
  clear hfy hf
  rw [cellsE] at *
  go_enter Try.func9, Try.ntmps9
  go_wp2_with (first | (go_at_call 24; refine (tnone_some c5).mono ?_; rintro r w' ⟨rfl, rfl⟩) | (go_at_call 25; refine Hfy.out.mono ?_; rintro r w' ⟨rfl, hb⟩))
  go_ret
  exact ⟨rfl, ((Below.refl _ _).alloc (Nat.le_refl _) _).trans (hb.mono (by simp))⟩

set_option maxHeartbeats 1000000 in
theorem add_full {w : World} {b base cap m : Nat} {A U : Option Addr} {t : Tab} (h : TM w b base A cap m U t) (e : End) (hf : findI t.l e = none) (hl : t.most ≤ t.l.length) :
    Calls Try.prog 9 #[.pointer (some ⟨b, 0, none⟩), .agg e.cells] w fun r w' => r = .returned (.int .i64 6) ∧ Below w.heap.size w w' := by
  have h1 := h.alloc (.cells #[.bool e.v6, .int .u64 (e.hi : Int), .int .u64 (e.lo : Int), .int .u16 (e.port : Int)] 35)
  obtain ⟨c0, c1, c2, c3, c4, c5, c6⟩ := h1.cells
  have hfy := find_no h1 e hf
  have Hfy := Lib.hid hfy
  have hd : decide (t.most ≤ t.l.length) = true := by simpa using hl
  clear hfy hf
  rw [cellsE] at *
  go_enter Try.func9, Try.ntmps9
  go_wp2_with (first | (go_at_call 24; refine (tnone_some c5).mono ?_; rintro r w' ⟨rfl, rfl⟩) | (go_at_call 25; refine Hfy.out.mono ?_; rintro r w1 ⟨rfl, hb⟩; have h2 := h1.below hb; obtain ⟨d0, d1, d2, d3, d4, d5, d6⟩ := h2.cells))
  go_quiet (fail)
  go_wp2_with fail
  go_ret
  exact ⟨rfl, ⟨hb.os, hb.tape, hb.output, by have := hb.size; simp at this; show w.heap.size ≤ w1.heap.size; omega, fun k hk => (hb.block k (by simp; omega)).trans (Below.heap_alloc _ _ _ hk)⟩⟩

theorem info53 : (Try.prog.info? 53).map (fun i => (i.zero, i.size, i.bytes)) = some (some (.agg #[.bool false, .int .u64 0, .int .u64 0, .int .u16 0, .complex .f64 0 0, .bool false, .int .u64 0, .int .i64 0]), 8, 72) := by kernel_rfl

def Pth.new (e : End) : Pth := { e := e, x := 0, y := 0, heard := false, last := 0, lost := 0 }
def Tab.add (t : Tab) (e : End) : Tab := { t with l := t.l ++ [Pth.new e] }

theorem pcells_snoc (l : List Pth) (p : Pth) : pcells (l ++ [p]) = pcells l ++ p.cells.toList := by simp [pcells]

theorem own_block_of {w : World} {base g n c size : Nat} {e : TypeId} {xs : List Value} (h : w.ownsRow base e size (.slice (some ⟨g, 0, none⟩) n c) n xs) : ∃ cur, w.heap[g]? = some (.cells cur e (0, 0)) := by
  rcases h.2 with ⟨e2, _⟩ | ⟨g', cap', cur, e2, _, hh, _⟩
  · cases e2
  · have : g = g' := by injection e2 with e2; injection e2 with e2; injection e2
    subst this
    exact ⟨cur, hh⟩

/- What Add leaves. -/
def Added (b base m : Nat) (A U : Option Addr) (t t' : Tab) (v : Int) (w : World) (r : Ending) (w' : World) : Prop :=
  r = .returned (.int .i64 v) ∧ (∃ A' cap', TM w' b base A' cap' m U t' ∧ ∀ g, (Value.slice A' 0 0).ownBlock = some g → (Value.slice A 0 0).ownBlock = some g ∨ w.heap.size ≤ g) ∧ Keeps (TS b m A) w w'

set_option maxHeartbeats 2000000 in
theorem add_ok {w : World} {b base cap m : Nat} {A U : Option Addr} {t : Tab} (h : TM w b base A cap m U t) (hbase : base ≤ w.heap.size) (e : End) (hf : findI t.l e = none) (hl : t.l.length < t.most) :
    Calls Try.prog 9 #[.pointer (some ⟨b, 0, none⟩), .agg e.cells] w (Added b base m A U t (t.add e) 0 w) := by
  have h1 := h.alloc (.cells #[.bool e.v6, .int .u64 (e.hi : Int), .int .u64 (e.lo : Int), .int .u16 (e.port : Int)] 35)
  obtain ⟨c0, c1, c2, c3, c4, c5, c6⟩ := h1.cells
  have hfy := find_no h1 e hf
  have Hfy := Lib.hid hfy
  have hd : decide (t.most ≤ t.l.length) = false := by rw [decide_eq_false_iff_not]; omega
  have hl1 := h.lim.most1
  have hlt := h.blk.lt
  have hnb : (Value.slice A t.l.length cap).ownBlock ≠ some b := by
    intro e
    rcases h.row.2 with ⟨e2, _⟩ | ⟨g, cap', cur, e2, _, hh, _⟩
    · rw [e2] at e; cases e
    · rw [e2] at e
      have : g = b := by simpa [Value.ownBlock] using e
      subst this
      exact Blk.ne_ (t := 53) hh h.blk (by decide) rfl
  have hown0 : (Value.slice A t.l.length cap).ownBlock = (Value.slice A 0 0).ownBlock := by cases A <;> rfl
  obtain ⟨i0, hi0, hz0, hz1, hz2⟩ := info_parts info53
  clear hfy hf
  rw [cellsE] at *
  go_enter Try.func9, Try.ntmps9
  go_wp2_with (first | (go_at_call 24; refine (tnone_some c5).mono ?_; rintro r w' ⟨rfl, rfl⟩) | (go_at_call 25; refine Hfy.out.mono ?_; rintro r w1 ⟨rfl, hb⟩; have h2 := h1.below hb; obtain ⟨d0, d1, d2, d3, d4, d5, d6⟩ := h2.cells; have f4 := h2.blk.frozen 4; have hE := (Blk.new w 35 #[.bool e.v6, .int .u64 (e.hi : Int), .int .u64 (e.lo : Int), .int .u16 (e.port : Int)]).below hb (by simp); have e0 := hE.cell 0; have e1 := hE.cell 1; have e2 := hE.cell 2; have e3 := hE.cell 3; simp at e0 e1 e2 e3; have hw1 := hb.size; simp at hw1; have hlt1 := h2.blk.lt; have d4' : ∀ (n : Nat) (o : Obj), ((w1.drewN n).alloc o).cell? ⟨b, 4, none⟩ = some (.slice A t.l.length cap) := fun n o => (World.cell?_alloc_lt (w1.drewN n) o ⟨b, 4, none⟩ hlt1).trans d4))
  go_quiet (fail)
  go_wp2_with fail
  go_region_law (refine step_append_lies _ (by rfl) _ _ _ (by rfl) base 53 i0 _ 8 72 Try.underlying49 hi0 hz0 hz1 hz2 rfl (by omega) (.slice A t.l.length cap) t.l.length (pcells t.l) (by rfl) ((h2.row.alloc _).drew) ⟨w1.heap.size, 0, none⟩ 1 1 (Pth.new e).cells.toList (by rfl) (by rfl) (World.news_of_block (cs := (Pth.new e).cells) (t := 53) (fr := (0, 0)) (heap_alloc_new w1 _)) (by simp [Value.oneCell', Pth.new, Pth.cells]) (by omega) (by simp only [maxLen]; omega) (by omega) (by simp; omega) (w1.heap.size + 1) (by simp) ?_; intro gg cap2 w2 hown2 hgrow hat hlt2; have b2 : Blk w2 b 68 _ := (hgrow.block b (by simp; omega) (fun e => hnb e.symm)).trans (h2.blk.alloc (.cells (Pth.new e).cells 53)); have x4 := b2.cell 4; have x5 := b2.frozen 4; simp at x4)
  all_goals go_wp2_with fail
  all_goals go_ret
  all_goals
    refine ⟨rfl, ⟨some ⟨gg, 0, none⟩, cap2, ?_, ?_⟩, ?_⟩
    · have hgb : gg ≠ b := by
        rintro rfl
        obtain ⟨cur, hh⟩ := own_block_of hown2
        exact Blk.ne_ (t := 53) hh b2 (by decide) rfl
      have hrow2 : PRow w2 base (some ⟨gg, 0, none⟩) cap2 (t.add e).l := by
        unfold PRow Tab.add
        rw [pcells_snoc]
        simpa using hown2
      have kk : Keeps (fun g => (Value.slice A 0 0).ownBlock = some g) w1 w2 := (((Keeps.refl _ w1).drewN _).alloc _).trans (Keeps.of_grown hgrow (fun g hg => by rw [← hown0]; exact hg))
      have k3 := (Keeps.refl (fun g => g = b) w2).setCell (p := ⟨b, 4, none⟩) (.inl rfl) (.slice (some ⟨gg, 0, none⟩) (t.l.length + 1) cap2)
      have hm2 : MBlk w2 m (t.pings.map Ent.se) t.clock := h2.map.keep kk (fun e => (h2.own_sep e).2 rfl)
      refine ⟨⟨h.lim.wait0, h.lim.wait1, h.lim.life0, h.lim.life1, h.lim.loss0, h.lim.loss1, h.lim.most0, h.lim.most1, by simp [Tab.add]; omega⟩, ?_, ?_, ?_, ?_⟩
      · have := b2.set_ 4 (.slice (some ⟨gg, 0, none⟩) (t.l.length + 1) cap2)
        simpa [Tab.add] using this
      · exact hrow2.keep k3 (fun g hg => by simp [Value.ownBlock] at hg; omega)
      · exact hm2.keep k3 (fun e => h.bm e.symm)
      · have hu := h2.used
        show match t.used with | none => U = none | some e => ∃ u, U = some ⟨u, 0, none⟩ ∧ Blk _ u 35 e.cells
        cases he : t.used with
        | none => rw [he] at hu; exact hu
        | some e5 =>
          rw [he] at hu
          obtain ⟨u, rfl, hbu⟩ := hu
          have hs := h2.used_sep rfl
          exact ⟨u, rfl, (hbu.keep kk (fun e => hs.2.2 u e rfl)).keep k3 hs.1⟩
    · intro g hg
      have : gg = g := by simpa [Value.ownBlock] using hg
      subst this
      rcases hat with h5 | h5
      · exact .inl (by rw [← hown0]; exact h5)
      · exact .inr (by omega)
    · have k0 : Keeps (TS b m A) w w1 := ((Keeps.refl _ w).alloc _).trans (Keeps.of_below hb (fun k hk _ => hk))
      have kk : Keeps (TS b m A) w1 w2 := (((Keeps.refl _ w1).drewN _).alloc _).trans (Keeps.of_grown hgrow (fun g hg => .inr (.inr (by rw [← hown0]; exact hg))))
      exact (k0.trans kk).setCell (.inl (.inl rfl)) _

end Go.Proofs.Ytbopmcdmahabbaa
