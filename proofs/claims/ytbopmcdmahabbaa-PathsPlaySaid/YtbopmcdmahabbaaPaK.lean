/- Pong: an answer in time. -/
import Derived.Test.YtbopmcdmahabbaaPaJ
namespace Go.Proofs.Ytbopmcdmahabbaa
open Go.RowKit
attribute [local go_sem] run_store_float run_store_complex

def fU (n : Nat) : Nat := floatOfInt .f64 (n : Int)

section
variable {w : World} {b base cap m g : Nat} {U : Option Addr} {t : Tab}

set_option maxHeartbeats 2000000 in
set_option maxRecDepth 100000 in
theorem pong_first (h : TM w b base (some ⟨g, 0, none⟩) cap m U t) (ok : t.Ok) (tx : ByteArray) (now : Nat) {x : Ent} (hx : x ∈ t.pings) (hxt : x.tx = tx) (hn : now < 18446744073709551616) (hat : x.at_ < 18446744073709551616)
    {i : Nat} (hf : findI t.l x.e = some i) {p : Pth} (hp : t.l[i]? = some p) (hin : ago now x.at_ ≤ t.wait) (hh : p.heard = false) :
    Calls Try.prog 13 #[.pointer (some ⟨b, 0, none⟩), .string tx, .agg x.e.cells, .int .u64 (now : Int)] w (Ponged b base cap m g U ((t.quiet x.e).setP i { p with x := fU (ago now x.at_), y := 0, heard := true, last := now, lost := 0 }) 0 w) := by
  have h1 := h.alloc (.cells #[.bool x.e.v6, .int .u64 (x.e.hi : Int), .int .u64 (x.e.lo : Int), .int .u16 (x.e.port : Int)] 35)
  have hE1 := Blk.new w 35 #[.bool x.e.v6, .int .u64 (x.e.hi : Int), .int .u64 (x.e.lo : Int), .int .u16 (x.e.port : Int)]
  have h2 := h1.alloc (.cells #[.bool x.e.v6, .int .u64 (x.e.hi : Int), .int .u64 (x.e.lo : Int), .int .u16 (x.e.port : Int), .int .u64 (x.at_ : Int)] 73)
  have hE2 := hE1.alloc (.cells #[.bool x.e.v6, .int .u64 (x.e.hi : Int), .int .u64 (x.e.lo : Int), .int .u16 (x.e.port : Int), .int .u64 (x.at_ : Int)] 73)
  have hP2 := Blk.new (w.alloc (.cells #[.bool x.e.v6, .int .u64 (x.e.hi : Int), .int .u64 (x.e.lo : Int), .int .u16 (x.e.port : Int)] 35)) 73 #[.bool x.e.v6, .int .u64 (x.e.hi : Int), .int .u64 (x.e.lo : Int), .int .u16 (x.e.port : Int), .int .u64 (x.at_ : Int)]
  obtain ⟨c0, c1, c2, c3, c4, c5, c6⟩ := h1.cells
  obtain ⟨d0, d1, d2, d3, d4, d5, d6⟩ := h2.cells
  clear c0 c1 c2 c3 c4 c6 d0 d1 d2 d3 d4 d6
  obtain ⟨j, hj, hjx⟩ := ok.at_ hx
  rw [hxt] at hj
  have hlk := run_lookup_sm (P := Try.prog) Try.underlying65 Try.underlying9 h1.map tx hj (x := x.se) (by rw [List.getElem?_map, hjx]; rfl)
  have hq := fun w => neq35 x.e x.e w
  rw [show x.e.eqb x.e = true from End.eqb_iff.2 rfl] at hq
  obtain ⟨W, hdel, _, hk, hm⟩ := delete_sm (P := Try.prog) Try.underlying65 Try.underlying9 h2.map tx hj
  rw [map_erase, ok.erase_end hjx] at hm
  have h3 := h2.turned hk hm
  have hmlt := h.map.lt
  have hE3 := hE2.keep hk (by omega)
  simp only [World.size_alloc] at hP2
  have hP3 := hP2.keep hk (by omega)
  have z0 := hE3.cell 0
  have z1 := hE3.cell 1
  have z2 := hE3.cell 2
  have z3 := hE3.cell 3
  have z4 := hP3.cell 4
  simp at z0 z1 z2 z3 z4
  unfold Ent.se pingVal at hlk
  simp only at hlk
  have HFD : ∀ n, Calls Try.prog 25 #[.pointer (some ⟨b, 0, none⟩), .agg x.e.cells] (W.drewN n) fun r w' => r = .returned (.pointer (some ⟨g, i * 8, none⟩)) ∧ Below W.heap.size W w' := by
    intro n
    refine (find_yes (h3.drewN n) x.e (show findI t.l x.e = some i from hf) rfl).mono ?_
    rintro r w' ⟨hr, hb⟩
    exact ⟨hr, ⟨hb.os, hb.tape, hb.output, hb.size, hb.block⟩⟩
  have Hk := Lib.hid hk
  have H3 := Lib.hid h3
  have Hp := Lib.hid hp
  have Hf := Lib.hid hf
  clear hj hjx hxt hx hf hm hk h3 hp
  rw [cellsE] at *
  go_enter Try.func13, Try.ntmps13
  go_wp2_with (go_at_call 24; refine (tnone_some c5).mono ?_; rintro r w' ⟨rfl, rfl⟩)
  go_region_held3 (fun w' => w'.cell? ⟨w.heap.size, 0, none⟩ = some (.bool x.e.v6) ∧ w'.cell? ⟨w.heap.size, 1, none⟩ = some (.int .u64 (x.e.hi : Int)) ∧ w'.cell? ⟨w.heap.size, 2, none⟩ = some (.int .u64 (x.e.lo : Int)) ∧ w'.cell? ⟨w.heap.size, 3, none⟩ = some (.int .u16 (x.e.port : Int)) ∧ w'.cell? ⟨w.heap.size + 1, 4, none⟩ = some (.int .u64 (x.at_ : Int)))
    (first | exact ⟨z0, z1, z2, z3, z4⟩ | exact ⟨y0, y1, y2, y3, y4⟩ | go_keep)
    (first
      | (go_at_call 25; refine (HFD _).mono ?_; rintro r w3 ⟨rfl, hb3⟩; have hE4 := hE3.below (w' := w3) ⟨hb3.os, hb3.tape, hb3.output, hb3.size, hb3.block⟩ hE3.lt; have hP4 := hP3.below (w' := w3) ⟨hb3.os, hb3.tape, hb3.output, hb3.size, hb3.block⟩ hP3.lt; have y0 := hE4.cell 0; have y1 := hE4.cell 1; have y2 := hE4.cell 2; have y3 := hE4.cell 3; have y4 := hP4.cell 4; simp at y0 y1 y2 y3 y4)
      | (go_at_call 27; refine (ago_any now x.at_ _ hn hat).mono ?_; rintro r w4 ⟨rfl, rfl⟩))
  have h4 : TM w3 b base (some ⟨g, 0, none⟩) cap m U (t.quiet x.e) := H3.out.below ⟨hb3.os, hb3.tape, hb3.output, hb3.size, hb3.block⟩
  obtain ⟨e0, e1, e2, e3, e4, e5, e6⟩ := h4.cells
  obtain ⟨g', hg', _, hg2, hgc⟩ := h4.row.at_ (show (t.quiet x.e).l[i]? = some p from Hp.out)
  obtain rfl : g = g' := by injection hg' with hg'; injection hg'
  have q4 := hgc 4 (by omega)
  have q5 := hgc 5 (by omega)
  have q6 := hgc 6 (by omega)
  have q7 := hgc 7 (by omega)
  simp [Pth.cells] at q4 q5 q6 q7
  have f4 := h4.pfrozen (i * 8 + 4)
  have f5 := h4.pfrozen (i * 8 + 5)
  have f6 := h4.pfrozen (i * 8 + 6)
  have f7 := h4.pfrozen (i * 8 + 7)
  have hne : ∀ k, ⟨g, i * 8 + k, none⟩ ≠ (⟨b, 0, none⟩ : Addr) := fun k e => (h4.own_sep (g := g) rfl).1 (by injection e)
  rw [hh] at q5
  have hd : ¬ (t.quiet x.e).wait < ago now x.at_ := by show ¬ t.wait < _; omega
  have hil : i < t.l.length := (List.findIdx?_eq_some_iff_getElem.1 Hf.out).1
  have Hil := Lib.hid hil
  clear hgc hg' hg2 hin hh hil
  go_wp2_with fail
  go_ret
  have hil := Hil.out
  have hil2 : i < (t.quiet x.e).l.length := hil
  have hs4 := (h4.drewN 0).setPath (i := i) (j := 4) (p := p) (p' := ({ p with x := fU (ago now x.at_), y := 0 } : Pth)) (v := (.complex .f64 (fU (ago now x.at_)) 0)) (show (t.quiet x.e).l[i]? = some p from Hp.out) (by omega) rfl
  have hs5 := hs4.1.setPath (i := i) (j := 5) (p := ({ p with x := fU (ago now x.at_), y := 0 } : Pth)) (p' := { ({ p with x := fU (ago now x.at_), y := 0 } : Pth) with heard := true }) (v := .bool true) (by simp [List.getElem?_set, hil2]) (by omega) rfl
  have hs6 := hs5.1.setPath (i := i) (j := 6) (p := { ({ p with x := fU (ago now x.at_), y := 0 } : Pth) with heard := true }) (p' := { ({ p with x := fU (ago now x.at_), y := 0 } : Pth) with heard := true, last := now }) (v := .int .u64 (now : Int)) (by simp [List.getElem?_set, hil2]) (by omega) rfl
  have hs7 := hs6.1.setPath (i := i) (j := 7) (p := { ({ p with x := fU (ago now x.at_), y := 0 } : Pth) with heard := true, last := now }) (p' := { ({ p with x := fU (ago now x.at_), y := 0 } : Pth) with heard := true, last := now, lost := 0 }) (v := .int .i64 0) (by simp [List.getElem?_set, hil2]) (by omega) rfl
  have k1 : Keeps (fun k => k = m ∨ k = g) w W := (((Keeps.refl _ w).alloc _).alloc _).trans (Hk.out.mono (fun k _ hk => .inl hk))
  have k2 : Keeps (fun k => k = m ∨ k = g) W w3 := Keeps.of_below hb3 (fun k hk _ => hk)
  have k0 : Keeps (fun k => k = m ∨ k = g) w3 (w3.drewN 0) := (Keeps.refl _ w3).drewN 0
  have kk := fun (a b : World) (hk : Keeps (fun k => k = g) a b) => hk.mono (T := fun k => k = m ∨ k = g) (fun k _ hk => .inr hk)
  have k4 := ((((((k1.trans k2).trans k0).trans (kk _ _ hs4.2)).trans (kk _ _ hs5.2)).trans (kk _ _ hs6.2)).trans (kk _ _ hs7.2))
  have hT := hs7.1
  simp only [List.set_set] at hT
  exact ⟨rfl, ⟨hT.lim, hT.blk, hT.row, hT.map, hT.used⟩, ⟨k4.os, k4.tape, k4.output, k4.size, k4.block⟩⟩
end
end Go.Proofs.Ytbopmcdmahabbaa
