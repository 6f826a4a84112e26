/- Pong. -/
import Derived.Test.YtbopmcdmahabbaaPaG
import Derived.Laws.BitsAllLaws
namespace Go.Proofs.Ytbopmcdmahabbaa
open Go.RowKit

def fabs (x : Nat) : Nat := x % 9223372036854775808

theorem call47 (x : Nat) (w : World) : (callFunc 47 #[.float .f64 x]).run Try.prog w = .ok (.value (.int .u64 (x : Int))) w := by kernel_rfl
theorem call46 (x : Int) (w : World) : (callFunc 46 #[.int .u64 x]).run Try.prog w = .ok (.value (.float .f64 x.toNat)) w := by kernel_rfl

theorem andNot_sign (x : Nat) (hx : x < 18446744073709551616) : bits .andNot .u64 (x : Int) 9223372036854775808 = (fabs x : Int) := by
  have h := u64_andNot_nat x 9223372036854775808 hx (by omega)
  rw [show ((9223372036854775808 : Nat) : Int) = 9223372036854775808 from rfl] at h
  rw [h]
  congr 1
  unfold fabs
  rw [show (18446744073709551615 - 9223372036854775808 : Nat) = 2 ^ 63 - 1 from by decide, Nat.and_two_pow_sub_one_eq_mod]

set_option maxHeartbeats 400000 in
theorem abs_any (x : Nat) (w : World) (hx : x < 18446744073709551616) : Calls Try.prog 28 #[.float .f64 x] w fun e w' => e = .returned (.float .f64 (fabs x)) ∧ w = w' := by
  have h1 := call47 x
  have h2 := call46 (fabs x : Int)
  have h3 := andNot_sign x hx
  clear hx
  go_enter Try.func28, Try.ntmps28
  go_wp2
  go_ret
  exact ⟨rfl, rfl⟩

theorem pcells_set (l : List Pth) : ∀ (i j : Nat) (p p' : Pth) (v : Value), l[i]? = some p → j < 8 → p'.cells = p.cells.setIfInBounds j v → (pcells l).set (i * 8 + j) v = pcells (l.set i p') := by
  induction l with
  | nil => intro i j p p' v h; simp at h
  | cons q l ih =>
    intro i j p p' v h hj hp
    have e : pcells (q :: l) = q.cells.toList ++ pcells l := rfl
    have hl : q.cells.toList.length = 8 := rfl
    rw [e]
    cases i with
    | zero =>
      have hq : q = p := by simpa using h
      subst hq
      have e2 : pcells ((q :: l).set 0 p') = p'.cells.toList ++ pcells l := rfl
      rw [e2, List.set_append_left _ _ (by omega), hp]
      simp
    | succ i =>
      have e2 : pcells ((q :: l).set (i + 1) p') = q.cells.toList ++ pcells (l.set i p') := rfl
      rw [e2, List.set_append_right _ _ (by omega), hl, show (i + 1) * 8 + j - 8 = i * 8 + j by omega]
      rw [ih i j p p' v (by simpa using h) hj hp]

section
variable {w w' : World} {b base cap m g : Nat} {U : Option Addr} {t : Tab}

/- One cell of one path has turned. -/
theorem TM.setPath (h : TM w b base (some ⟨g, 0, none⟩) cap m U t) {i j : Nat} {p p' : Pth} {v : Value} (hi : t.l[i]? = some p) (hj : j < 8) (hp : p'.cells = p.cells.setIfInBounds j v) :
    TM (w.setCell ⟨g, i * 8 + j, none⟩ v) b base (some ⟨g, 0, none⟩) cap m U { t with l := t.l.set i p' } ∧ Keeps (fun k => k = g) w (w.setCell ⟨g, i * 8 + j, none⟩ v) := by
  have hk : Keeps (fun k => k = g) w (w.setCell ⟨g, i * 8 + j, none⟩ v) := (Keeps.refl (fun k => k = g) w).setCell (p := ⟨g, i * 8 + j, none⟩) (.inl rfl) v
  have hs := h.own_sep (g := g) rfl
  refine ⟨⟨⟨h.lim.wait0, h.lim.wait1, h.lim.life0, h.lim.life1, h.lim.loss0, h.lim.loss1, h.lim.most0, h.lim.most1, by simpa using h.lim.len⟩, ?_, ?_, h.map.keep hk (fun e => hs.2 e.symm), ?_⟩, hk⟩
  · have := h.blk.keep hk (fun e => hs.1 e.symm)
    simpa using this
  · have hst := (World.ownsRow.stored h.row (i * 8 + j) v).1
    unfold PRow
    rw [← pcells_set t.l i j p p' v hi hj hp]
    simpa using hst
  · have hu := h.used
    show match t.used with | none => U = none | some e => ∃ u, U = some ⟨u, 0, none⟩ ∧ Blk _ u 35 e.cells
    cases he : t.used with
    | none => rw [he] at hu; exact hu
    | some e =>
      rw [he] at hu
      obtain ⟨u, rfl, hb⟩ := hu
      exact ⟨u, rfl, hb.keep hk (fun e => (h.used_sep rfl).2.2 g rfl e)⟩

theorem TM.pfrozen (h : TM w b base (some ⟨g, 0, none⟩) cap m U t) (j : Nat) : w.frozen? ⟨g, j, none⟩ = false := World.ownsRow.frozenAt h.row j
end

theorem pong_nil (tx : ByteArray) (e : End) (now : Int) (w : World) : Calls Try.prog 13 #[.pointer none, .string tx, .agg e.cells, .int .u64 now] w fun r w' => r = .returned (.int .i64 1) ∧ Below w.heap.size w w' := by
  rw [cellsE]
  go_enter Try.func13, Try.ntmps13
  go_wp2_with (go_at_call 24; refine (tnone_nil _).mono ?_; rintro r w' ⟨rfl, rfl⟩)
  go_ret
  exact ⟨rfl, (Below.refl _ _).alloc (Nat.le_refl _) _⟩

section
variable {w : World} {b base cap m : Nat} {A U : Option Addr} {t : Tab}

set_option maxHeartbeats 1000000 in
theorem pong_none (h : TM w b base A cap m U t) (tx : ByteArray) (e : End) (now : Int) (hno : ∀ x ∈ t.pings, x.tx ≠ tx) :
    Calls Try.prog 13 #[.pointer (some ⟨b, 0, none⟩), .string tx, .agg e.cells, .int .u64 now] w fun r w' => r = .returned (.int .i64 5) ∧ Below w.heap.size w w' := by
  have h1 := h.alloc (.cells #[.bool e.v6, .int .u64 (e.hi : Int), .int .u64 (e.lo : Int), .int .u16 (e.port : Int)] 35)
  obtain ⟨c0, c1, c2, c3, c4, c5, c6⟩ := h1.cells
  have hlk := run_lookup_sm_none (P := Try.prog) Try.underlying65 Try.underlying9 h1.map tx (at_none hno) (zero73 _)
  clear hno
  rw [cellsE] at *
  go_enter Try.func13, Try.ntmps13
  go_wp2_with (go_at_call 24; refine (tnone_some c5).mono ?_; rintro r w' ⟨rfl, rfl⟩)
  go_ret
  exact ⟨rfl, ((Below.refl _ _).alloc (Nat.le_refl _) _).alloc (by simp) _⟩

set_option maxHeartbeats 1000000 in
theorem pong_end (h : TM w b base A cap m U t) (ok : t.Ok) (tx : ByteArray) (e : End) (now : Int) {x : Ent} (hx : x ∈ t.pings) (hxt : x.tx = tx) (hxe : x.e.eqb e = false) :
    Calls Try.prog 13 #[.pointer (some ⟨b, 0, none⟩), .string tx, .agg e.cells, .int .u64 now] w fun r w' => r = .returned (.int .i64 250) ∧ Below w.heap.size w w' := by
  have h1 := h.alloc (.cells #[.bool e.v6, .int .u64 (e.hi : Int), .int .u64 (e.lo : Int), .int .u16 (e.port : Int)] 35)
  obtain ⟨c0, c1, c2, c3, c4, c5, c6⟩ := h1.cells
  obtain ⟨j, hj, hjx⟩ := ok.at_ hx
  rw [hxt] at hj
  have hlk := run_lookup_sm (P := Try.prog) Try.underlying65 Try.underlying9 h1.map tx hj (x := x.se) (by rw [List.getElem?_map, hjx]; rfl)
  have hq := fun w => neq35 x.e e w
  rw [hxe] at hq
  unfold Ent.se pingVal at hlk
  simp only at hlk
  clear hj hjx hxt hx hxe
  rw [cellsE] at *
  go_enter Try.func13, Try.ntmps13
  go_wp2_with (go_at_call 24; refine (tnone_some c5).mono ?_; rintro r w' ⟨rfl, rfl⟩)
  go_ret
  exact ⟨rfl, ((Below.refl _ _).alloc (Nat.le_refl _) _).alloc (by simp) _⟩
end

end Go.Proofs.Ytbopmcdmahabbaa
