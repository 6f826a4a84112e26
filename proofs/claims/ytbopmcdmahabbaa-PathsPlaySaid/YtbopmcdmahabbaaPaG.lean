/- Sent. -/
import Derived.Test.YtbopmcdmahabbaaPaF
namespace Go.Proofs.Ytbopmcdmahabbaa
open Go.RowKit

theorem zero73 (w : World) : (zeroValue 73).run Try.prog w = .ok (.agg #[.bool false, .int .u64 0, .int .u64 0, .int .u16 0, .int .u64 0]) w := by kernel_rfl

theorem sent_nil (tx : ByteArray) (e : End) (now : Int) (w : World) : Calls Try.prog 11 #[.pointer none, .string tx, .agg e.cells, .int .u64 now] w fun r w' => r = .returned (.int .i64 1) ∧ Below w.heap.size w w' := by
  rw [cellsE]
  go_enter Try.func11, Try.ntmps11
  go_wp2_with (go_at_call 24; refine (tnone_nil _).mono ?_; rintro r w' ⟨rfl, rfl⟩)
  go_ret
  exact ⟨rfl, (Below.refl _ _).alloc (Nat.le_refl _) _⟩

def Tab.sent (t : Tab) (tx : ByteArray) (e : End) (now : Nat) : Tab := { t with pings := (t.quiet e).pings ++ [(⟨tx, e, now, t.clock⟩ : Ent)], clock := t.clock + 1 }

section
variable {w : World} {b base cap m : Nat} {A U : Option Addr} {t : Tab}

set_option maxHeartbeats 1000000 in
theorem sent_len (h : TM w b base A cap m U t) (tx : ByteArray) (e : End) (now : Int) (hl : tx.size ≠ 16) :
    Calls Try.prog 11 #[.pointer (some ⟨b, 0, none⟩), .string tx, .agg e.cells, .int .u64 now] w fun r w' => r = .returned (.int .i64 2) ∧ Below w.heap.size w w' := by
  have h1 := h.alloc (.cells #[.bool e.v6, .int .u64 (e.hi : Int), .int .u64 (e.lo : Int), .int .u16 (e.port : Int)] 35)
  obtain ⟨c0, c1, c2, c3, c4, c5, c6⟩ := h1.cells
  have hd : ((tx.size : Int) == 16) = false := by simp; omega
  have hd2 : ((tx.size : Int) != 16) = true := by simp; omega
  clear hl
  rw [cellsE]
  go_enter Try.func11, Try.ntmps11
  go_wp2_with (go_at_call 24; refine (tnone_some c5).mono ?_; rintro r w' ⟨rfl, rfl⟩)
  go_ret
  exact ⟨rfl, (Below.refl _ _).alloc (Nat.le_refl _) _⟩

set_option maxHeartbeats 1000000 in
theorem sent_none (h : TM w b base A cap m U t) (tx : ByteArray) (e : End) (now : Int) (hl : tx.size = 16) (hf : findI t.l e = none) :
    Calls Try.prog 11 #[.pointer (some ⟨b, 0, none⟩), .string tx, .agg e.cells, .int .u64 now] w fun r w' => r = .returned (.int .i64 5) ∧ Below w.heap.size w w' := by
  have h1 := h.alloc (.cells #[.bool e.v6, .int .u64 (e.hi : Int), .int .u64 (e.lo : Int), .int .u16 (e.port : Int)] 35)
  obtain ⟨c0, c1, c2, c3, c4, c5, c6⟩ := h1.cells
  have hd : ((tx.size : Int) == 16) = true := by simp; omega
  have hd2 : ((tx.size : Int) != 16) = false := by simp; omega
  have hfy := find_no h1 e hf
  have Hfy := Lib.hid hfy
  clear hl hf hfy
  rw [cellsE] at *
  go_enter Try.func11, Try.ntmps11
  go_wp2_with (first | (go_at_call 24; refine (tnone_some c5).mono ?_; rintro r w' ⟨rfl, rfl⟩) | (go_at_call 25; refine Hfy.out.mono ?_; rintro r w' ⟨rfl, hb⟩))
  go_ret
  exact ⟨rfl, ((Below.refl _ _).alloc (Nat.le_refl _) _).trans (hb.mono (by simp))⟩

set_option maxHeartbeats 1000000 in
theorem sent_there (h : TM w b base A cap m U t) (ok : t.Ok) (tx : ByteArray) (e : End) (now : Int) (hl : tx.size = 16) {i : Nat} (hf : findI t.l e = some i) {x : Ent} (hx : x ∈ t.pings) (hxt : x.tx = tx) :
    Calls Try.prog 11 #[.pointer (some ⟨b, 0, none⟩), .string tx, .agg e.cells, .int .u64 now] w fun r w' => r = .returned (.int .i64 9) ∧ Below w.heap.size w w' := by
  have hil : i < t.l.length := (List.findIdx?_eq_some_iff_getElem.1 hf).1
  obtain ⟨g, rfl, _⟩ := h.row.at_ (List.getElem?_eq_getElem hil)
  have h1 := h.alloc (.cells #[.bool e.v6, .int .u64 (e.hi : Int), .int .u64 (e.lo : Int), .int .u16 (e.port : Int)] 35)
  obtain ⟨c0, c1, c2, c3, c4, c5, c6⟩ := h1.cells
  have hd : ((tx.size : Int) == 16) = true := by simp; omega
  have hd2 : ((tx.size : Int) != 16) = false := by simp; omega
  have hfy := find_yes h1 e hf rfl
  obtain ⟨j, hj, hjx⟩ := ok.at_ hx
  rw [hxt] at hj
  have Hfy := Lib.hid hfy
  have Hj := Lib.hid hj
  have Hjx := Lib.hid hjx
  clear hl hf hfy hxt hj hjx
  rw [cellsE] at *
  go_enter Try.func11, Try.ntmps11
  go_wp2_with (first | (go_at_call 24; refine (tnone_some c5).mono ?_; rintro r w' ⟨rfl, rfl⟩) | (go_at_call 25; refine Hfy.out.mono ?_; rintro r w1 ⟨rfl, hb⟩; have h2 := h1.below hb; obtain ⟨d0, d1, d2, d3, d4, d5, d6⟩ := h2.cells; have hlk := run_lookup_sm (P := Try.prog) Try.underlying65 Try.underlying9 h2.map tx Hj.out (x := x.se) (by rw [List.getElem?_map, Hjx.out]; rfl); unfold Ent.se pingVal at hlk; simp only at hlk))
  go_ret
  exact ⟨rfl, (((Below.refl _ _).alloc (Nat.le_refl _) _).trans (hb.mono (by simp))).alloc (by have := hb.size; simp at this; omega) _⟩

theorem se_mem' {L : List Ent} {x : SE} (h : x ∈ L.map Ent.se) : ∃ y ∈ L, x = y.se := by
  obtain ⟨y, hy, rfl⟩ := List.mem_map.1 h
  exact ⟨y, hy, rfl⟩

theorem at_none {L : List Ent} {s : ByteArray} (h : ∀ x ∈ L, x.tx ≠ s) : Go.Proofs.Ytbopmcdmahabbaa.at_ (L.map Ent.se) s = none := by
  unfold Go.Proofs.Ytbopmcdmahabbaa.at_
  rw [List.findIdx?_eq_none_iff]
  intro y hy
  obtain ⟨x, hx, rfl⟩ := se_mem' hy
  cases hb : (Ent.se x).tx == s with
  | false => rfl
  | true => exact absurd ((bytes_beq _ _).1 hb) (h x hx)

def Sented (b base cap m : Nat) (A U : Option Addr) (t' : Tab) (w : World) (r : Ending) (w' : World) : Prop :=
  r = .returned (.int .i64 0) ∧ TM w' b base A cap m U t' ∧ Keeps (fun g => g = m) w w'

theorem Tab.Ok.quiet (ok : t.Ok) (e : End) : (t.quiet e).Ok := ok.sub _

set_option maxHeartbeats 2000000 in
theorem sent_ok (h : TM w b base A cap m U t) (ok : t.Ok) (tx : ByteArray) (e : End) (now : Nat) (hl : tx.size = 16) {i : Nat} (hf : findI t.l e = some i) (hno : ∀ x ∈ t.pings, x.tx ≠ tx) :
    Calls Try.prog 11 #[.pointer (some ⟨b, 0, none⟩), .string tx, .agg e.cells, .int .u64 (now : Int)] w (Sented b base cap m A U (t.sent tx e now) w) := by
  have hil : i < t.l.length := (List.findIdx?_eq_some_iff_getElem.1 hf).1
  obtain ⟨g, rfl, _⟩ := h.row.at_ (List.getElem?_eq_getElem hil)
  have h1 := h.alloc (.cells #[.bool e.v6, .int .u64 (e.hi : Int), .int .u64 (e.lo : Int), .int .u16 (e.port : Int)] 35)
  have hE1 := Blk.new w 35 #[.bool e.v6, .int .u64 (e.hi : Int), .int .u64 (e.lo : Int), .int .u16 (e.port : Int)]
  obtain ⟨c0, c1, c2, c3, c4, c5, c6⟩ := h1.cells
  have hd : ((tx.size : Int) == 16) = true := by simp; omega
  have hd2 : ((tx.size : Int) != 16) = false := by simp; omega
  have hfy := find_yes h1 e hf rfl
  have hn1 := at_none hno
  have hn2 : Go.Proofs.Ytbopmcdmahabbaa.at_ ((t.quiet e).pings.map Ent.se) tx = none := at_none (fun x hx => hno x (List.mem_filter.1 hx).1)
  have hz := zero73
  have Hfy := Lib.hid hfy
  have Hn1 := Lib.hid hn1
  have Hn2 := Lib.hid hn2
  clear hl hf hfy hn1 hn2 hno
  rw [cellsE] at *
  go_enter Try.func11, Try.ntmps11
  go_wp2_with (first | (go_at_call 24; refine (tnone_some c5).mono ?_; rintro r w' ⟨rfl, rfl⟩) | (go_at_call 25; refine Hfy.out.mono ?_; rintro r w1 ⟨rfl, hb⟩; have h2 := h1.below hb; have hE2 := hE1.below hb (by simp); obtain ⟨d0, d1, d2, d3, d4, d5, d6⟩ := h2.cells; have x0 := hE2.cell 0; have x1 := hE2.cell 1; have x2 := hE2.cell 2; have x3 := hE2.cell 3; simp at x0 x1 x2 x3; have hltE := hE2.lt; have hlk := run_lookup_sm_none (P := Try.prog) Try.underlying65 Try.underlying9 h2.map tx Hn1.out (hz w1)))
  have hqc := quiet_any (h2.alloc (.cells #[.bool false, .int .u64 0, .int .u64 0, .int .u16 0, .int .u64 0] 73)) ok e
  rw [cellsE] at hqc
  refine hqc.mono ?_
  rintro r w2 ⟨rfl, h3, k3⟩
  have hmlt := h.map.lt
  have hE3 := (hE2.alloc (.cells #[.bool false, .int .u64 0, .int .u64 0, .int .u16 0, .int .u64 0] 73)).keep k3 (by omega)
  obtain ⟨y0, y1, y2, y3, y4, y5, y6⟩ := h3.cells
  have z0 := hE3.cell 0
  have z1 := hE3.cell 1
  have z2 := hE3.cell 2
  have z3 := hE3.cell 3
  simp at z0 z1 z2 z3
  obtain ⟨W, hu1, hu2, hu3, k4, hm4⟩ := update_sm (P := Try.prog) Try.underlying65 Try.underlying9 h3.map tx Hn2.out (pingVal e now)
  unfold pingVal at hu1 hu2 hu3
  have K4 := Lib.hid k4
  have Hm4 := Lib.hid hm4
  have H3 := Lib.hid h3
  clear hqc k4 hm4 h3
  go_wp2_with fail
  go_region
  all_goals go_wp2_with fail
  all_goals go_ret
  all_goals
    have hm5 : MBlk W m (((t.quiet e).pings ++ [(⟨tx, e, now, t.clock⟩ : Ent)]).map Ent.se) (t.clock + 1) := by
      rw [List.map_append]
      exact Hm4.out
    have h5 := H3.out.turned K4.out hm5
    refine ⟨rfl, ⟨h5.lim, h5.blk, h5.row, h5.map, h5.used⟩, ?_⟩
    have k1 : Keeps (fun g => g = m) w w1 := ((Keeps.refl _ w).alloc _).trans (Keeps.of_below hb (fun k hk _ => hk))
    have k5 : Keeps (fun g => g = m) w1 w2 := ((Keeps.refl _ w1).alloc _).trans k3
    exact ((k1.trans k5).trans K4.out).drew

end
end Go.Proofs.Ytbopmcdmahabbaa
