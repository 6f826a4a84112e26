/- score, Score. -/
import Derived.Test.YtbopmcdmahabbaaPaL
namespace Go.Proofs.Ytbopmcdmahabbaa
open Go.RowKit

theorem quiet_left {P : Program} {f : FuncId} {args : Array Value} {w : World} {n : Nat} {v : Value}
    (h : Calls P f args (w.drewN n) fun e w' => e = .returned v ∧ w.drewN n = w') : Calls P f args (w.drewN n) fun e w'' => e = .returned v ∧ ∃ m, w'' = w.drewN m :=
  h.mono fun _ _ ⟨he, hm⟩ => ⟨he, n, hm.symm⟩

def there (t : Tab) (p : Pth) (now : Nat) : Bool := p.heard && (decide (ago now p.last ≤ t.life) && decide (p.lost < (t.losses : Int)))

section
variable {w : World} {b base cap m g : Nat} {A U : Option Addr} {t : Tab}

set_option maxHeartbeats 1000000 in
theorem score_nil (now : Int) (w : World) (P : Value) : Calls Try.prog 29 #[P, .pointer none, .int .u64 now] w fun r w' => r = .returned (.tuple #[.float .f64 0, .bool false]) ∧ ∃ n, w.drewN n = w' := by
  go_enter Try.func29, Try.ntmps29
  go_wp2_with fail
  go_quiet (fail)
  go_wp2_with fail
  go_ret2
  exact ⟨rfl, _, rfl⟩

set_option maxHeartbeats 1000000 in
theorem score_no (h : TM w b base (some ⟨g, 0, none⟩) cap m U t) (now : Nat) (hn : now < 18446744073709551616) {i : Nat} {p : Pth} (hp : t.l[i]? = some p) (hl : p.last < 18446744073709551616) (ht : there t p now = false) :
    Calls Try.prog 29 #[.pointer (some ⟨b, 0, none⟩), .pointer (some ⟨g, i * 8, none⟩), .int .u64 (now : Int)] w fun r w' => r = .returned (.tuple #[.float .f64 0, .bool false]) ∧ ∃ n, w.drewN n = w' := by
  obtain ⟨c0, c1, c2, c3, c4, c5, c6⟩ := h.cells
  obtain ⟨g', hg', _, hg2, hgc⟩ := h.row.at_ hp
  obtain rfl : g = g' := by injection hg' with hg'; injection hg'
  have q5 := hgc 5 (by omega)
  have q6 := hgc 6 (by omega)
  have q7 := hgc 7 (by omega)
  simp [Pth.cells] at q5 q6 q7
  unfold there at ht
  clear hgc hg' hg2 c0 c3 c4 c5 c6 hp
  by_cases h1 : p.heard = true
  · rw [h1] at q5 ht
    clear h1
    by_cases h2 : ago now p.last ≤ t.life
    · have h3 : (t.losses : Int) ≤ p.lost := by
        simp [h2] at ht
        omega
      have hd : decide (t.life < ago now p.last) = false := by rw [decide_eq_false_iff_not]; omega
      have hd2 : decide ((t.losses : Int) ≤ p.lost) = true := by simpa using h3
      clear ht h2 h3
      go_enter Try.func29, Try.ntmps29
      go_wp2_with fail
      go_quiet ((go_at_call 27; exact quiet_left (ago_any now p.last _ hn hl)))
      go_wp2_with fail
      go_ret2
      exact ⟨rfl, _, rfl⟩
    · have hd : decide (t.life < ago now p.last) = true := by simpa using h2
      clear ht h2
      go_enter Try.func29, Try.ntmps29
      go_wp2_with fail
      go_quiet ((go_at_call 27; exact quiet_left (ago_any now p.last _ hn hl)))
      go_wp2_with fail
      go_ret2
      exact ⟨rfl, _, rfl⟩
  · rw [show p.heard = false by simpa using h1] at q5
    clear ht h1
    go_enter Try.func29, Try.ntmps29
    go_wp2_with fail
    go_quiet (fail)
    go_wp2_with fail
    go_ret2
    exact ⟨rfl, _, rfl⟩

set_option maxHeartbeats 1000000 in
theorem score_yes (h : TM w b base (some ⟨g, 0, none⟩) cap m U t) (now : Nat) (hn : now < 18446744073709551616) {i : Nat} {p : Pth} (hp : t.l[i]? = some p) (hl : p.last < 18446744073709551616) (ht : there t p now = true)
    {mm s : Nat} (hm : F.mul c4 p.y = some mm) (hs : F.add p.x mm = some s) :
    Calls Try.prog 29 #[.pointer (some ⟨b, 0, none⟩), .pointer (some ⟨g, i * 8, none⟩), .int .u64 (now : Int)] w fun r w' => r = .returned (.tuple #[.float .f64 s, .bool true]) ∧ ∃ n, w.drewN n = w' := by
  obtain ⟨c0, c1, c2, c3, c4', c5, c6⟩ := h.cells
  obtain ⟨g', hg', _, hg2, hgc⟩ := h.row.at_ hp
  obtain rfl : g = g' := by injection hg' with hg'; injection hg'
  have q4 := hgc 4 (by omega)
  have q5 := hgc 5 (by omega)
  have q6 := hgc 6 (by omega)
  have q7 := hgc 7 (by omega)
  simp [Pth.cells] at q4 q5 q6 q7
  have r1 := fun (w : World) => run_fmul (P := Try.prog) w 46 hm
  have r2 := fun (w : World) => run_fadd (P := Try.prog) w 46 hs
  unfold there at ht
  simp only [Bool.and_eq_true, decide_eq_true_eq] at ht
  obtain ⟨h1, h2, h3⟩ := ht
  rw [h1] at q5
  have hd : decide (t.life < ago now p.last) = false := by rw [decide_eq_false_iff_not]; omega
  have hd2 : decide ((t.losses : Int) ≤ p.lost) = false := by rw [decide_eq_false_iff_not]; omega
  clear hgc hg' hg2 c0 c3 c4' c5 c6 hp h1 h2 h3 hm hs
  go_enter Try.func29, Try.ntmps29
  go_wp2_with fail
  go_quiet ((go_at_call 27; exact quiet_left (ago_any now p.last _ hn hl)))
  go_wp2_with fail
  go_quiet (fail)
  go_wp2_with fail
  go_ret2
  exact ⟨rfl, _, (World.drewN_drewN _ _ _).symm⟩

theorem tscore_nil (e : End) (now : Int) (w : World) : Calls Try.prog 17 #[.pointer none, .agg e.cells, .int .u64 now] w fun r w' => r = .returned (.tuple #[.float .f64 0, .bool false]) ∧ Below w.heap.size w w' := by
  rw [cellsE]
  go_enter Try.func17, Try.ntmps17
  go_wp2_with (go_at_call 24; refine (tnone_nil _).mono ?_; rintro r w' ⟨rfl, rfl⟩)
  go_ret2
  exact ⟨rfl, (Below.refl _ _).alloc (Nat.le_refl _) _⟩

/- Score, where there is no path to the end. -/
set_option maxHeartbeats 1000000 in
theorem tscore_none (h : TM w b base A cap m U t) (e : End) (now : Int) (hf : findI t.l e = none) :
    Calls Try.prog 17 #[.pointer (some ⟨b, 0, none⟩), .agg e.cells, .int .u64 now] w fun r w' => r = .returned (.tuple #[.float .f64 0, .bool false]) ∧ Below w.heap.size w w' := by
  have h1 := h.alloc (.cells #[.bool e.v6, .int .u64 (e.hi : Int), .int .u64 (e.lo : Int), .int .u16 (e.port : Int)] 35)
  obtain ⟨c0, c1, c2, c3, c4', c5, c6⟩ := h1.cells
  have hfy := find_no h1 e hf
  have Hfy := Lib.hid hfy
  clear hf hfy
  rw [cellsE] at *
  go_enter Try.func17, Try.ntmps17
  go_wp2_with (first | (go_at_call 24; refine (tnone_some c5).mono ?_; rintro r w' ⟨rfl, rfl⟩) | (go_at_call 25; refine Hfy.out.mono ?_; rintro r w1 ⟨rfl, hb⟩) | (go_at_call 29; refine (score_nil _ _ _).mono ?_; rintro r w' ⟨rfl, n, rfl⟩))
  go_ret2
  have hb2 := ((Below.refl w.heap.size w).alloc (Nat.le_refl _) _).trans (hb.mono (by simp))
  exact ⟨rfl, ⟨hb2.os, hb2.tape, hb2.output, hb2.size, hb2.block⟩⟩

set_option maxHeartbeats 1000000 in
theorem tscore_no (h : TM w b base (some ⟨g, 0, none⟩) cap m U t) (e : End) (now : Nat) (hn : now < 18446744073709551616) {i : Nat} (hf : findI t.l e = some i) {p : Pth} (hp : t.l[i]? = some p) (hl : p.last < 18446744073709551616) (ht : there t p now = false) :
    Calls Try.prog 17 #[.pointer (some ⟨b, 0, none⟩), .agg e.cells, .int .u64 (now : Int)] w fun r w' => r = .returned (.tuple #[.float .f64 0, .bool false]) ∧ Below w.heap.size w w' := by
  have h1 := h.alloc (.cells #[.bool e.v6, .int .u64 (e.hi : Int), .int .u64 (e.lo : Int), .int .u16 (e.port : Int)] 35)
  obtain ⟨c0, c1, c2, c3, c4', c5, c6⟩ := h1.cells
  have hfy := find_yes h1 e hf rfl
  have Hfy := Lib.hid hfy
  have Hp := Lib.hid hp
  have Ht := Lib.hid ht
  clear hf hfy hp ht
  rw [cellsE] at *
  go_enter Try.func17, Try.ntmps17
  go_wp2_with (first | (go_at_call 24; refine (tnone_some c5).mono ?_; rintro r w' ⟨rfl, rfl⟩) | (go_at_call 25; refine Hfy.out.mono ?_; rintro r w1 ⟨rfl, hb⟩; have h2 := h1.below hb) | (go_at_call 29; refine (score_no h2 now hn Hp.out hl Ht.out).mono ?_; rintro r w' ⟨rfl, n, rfl⟩))
  go_ret2
  have hb2 := ((Below.refl w.heap.size w).alloc (Nat.le_refl _) _).trans (hb.mono (by simp))
  exact ⟨rfl, ⟨hb2.os, hb2.tape, hb2.output, hb2.size, hb2.block⟩⟩

set_option maxHeartbeats 1000000 in
theorem tscore_yes (h : TM w b base (some ⟨g, 0, none⟩) cap m U t) (e : End) (now : Nat) (hn : now < 18446744073709551616) {i : Nat} (hf : findI t.l e = some i) {p : Pth} (hp : t.l[i]? = some p) (hl : p.last < 18446744073709551616) (ht : there t p now = true)
    {mm s : Nat} (hm : F.mul c4 p.y = some mm) (hs : F.add p.x mm = some s) :
    Calls Try.prog 17 #[.pointer (some ⟨b, 0, none⟩), .agg e.cells, .int .u64 (now : Int)] w fun r w' => r = .returned (.tuple #[.float .f64 s, .bool true]) ∧ Below w.heap.size w w' := by
  have h1 := h.alloc (.cells #[.bool e.v6, .int .u64 (e.hi : Int), .int .u64 (e.lo : Int), .int .u16 (e.port : Int)] 35)
  obtain ⟨c0, c1, c2, c3, c4', c5, c6⟩ := h1.cells
  have hfy := find_yes h1 e hf rfl
  have Hfy := Lib.hid hfy
  have Hp := Lib.hid hp
  have Ht := Lib.hid ht
  have Hm := Lib.hid hm
  have Hs := Lib.hid hs
  clear hf hfy hp ht hm hs
  rw [cellsE] at *
  go_enter Try.func17, Try.ntmps17
  go_wp2_with (first | (go_at_call 24; refine (tnone_some c5).mono ?_; rintro r w' ⟨rfl, rfl⟩) | (go_at_call 25; refine Hfy.out.mono ?_; rintro r w1 ⟨rfl, hb⟩; have h2 := h1.below hb) | (go_at_call 29; refine (score_yes h2 now hn Hp.out hl Ht.out Hm.out Hs.out).mono ?_; rintro r w' ⟨rfl, n, rfl⟩))
  go_ret2
  have hb2 := ((Below.refl w.heap.size w).alloc (Nat.le_refl _) _).trans (hb.mono (by simp))
  exact ⟨rfl, ⟨hb2.os, hb2.tape, hb2.output, hb2.size, hb2.block⟩⟩

end
end Go.Proofs.Ytbopmcdmahabbaa
