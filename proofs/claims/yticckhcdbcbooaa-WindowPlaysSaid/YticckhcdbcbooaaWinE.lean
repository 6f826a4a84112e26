/- alive: the small known run. -/
import Derived.Test.YticckhcdbcbooaaWinD
namespace Go.Proofs.Yticckhcdbcbooaa
open Go.RowKit Win

theorem mark_at (b bb : Nat) (s : St) (m v : Int) (w : World) (h : Rep w b bb s) (h0 : 0 ≤ m) (h1 : m < 18446744073709551616) (hv : s.may m.toNat = v) :
    Calls Try.prog 8 #[.pointer (some ⟨b, 0, none⟩), .int .u64 m] w fun e w' => e = .returned (.int .i64 v) ∧ Rep w' b bb (s.mark m.toNat) ∧ Keeps (fun g => g = b ∨ g = bb) w w' := by
  have := mark_rep b bb s m.toNat w (by omega) h
  rwa [hv, Int.toNat_of_nonneg h0] at this

theorem may_at (b bb : Nat) (s : St) (m v : Int) (w : World) (h : Rep w b bb s) (h0 : 0 ≤ m) (hv : s.may m.toNat = v) :
    Calls Try.prog 10 #[.pointer (some ⟨b, 0, none⟩), .int .u64 m] w fun e w' => e = .returned (.int .i64 v) ∧ ∃ k, w.drewN k = w' := by
  have := may_rep b bb s m.toNat w h
  rwa [hv, Int.toNat_of_nonneg h0] at this

theorem highest_at (b bb : Nat) (s : St) (w : World) (h : Rep w b bb s) (m : Int) (t : Bool) (hm : (s.high : Int) = m) (ht : s.any = t) : Calls Try.prog 13 #[.pointer (some ⟨b, 0, none⟩)] w fun e w' => e = .returned (.tuple #[.int .u64 m, .bool t]) ∧ ∃ k, w.drewN k = w' := by
  subst hm ht
  exact highest_rep b bb s w h

def t0 : St := St.new 3
def t1 : St := t0.mark (5 : Int).toNat
def t2 : St := t1.mark (5 : Int).toNat
def t3 : St := t2.mark (3 : Int).toNat
def t4 : St := t3.mark (2 : Int).toNat
def t5 : St := t4.mark (9 : Int).toNat

theorem new3 (w : World) : Calls Try.prog 6 #[.int .i64 3] w fun e w' => e = .returned (.tuple #[.pointer (some ⟨w.heap.size + 1, 0, none⟩), .int .i64 0]) ∧ Rep w' (w.heap.size + 1) w.heap.size t0 ∧ Below w.heap.size w w' ∧ w'.heap.size = w.heap.size + 2 := new_yes 3 w (by omega) (by omega)
theorem new0 (w : World) : Calls Try.prog 6 #[.int .i64 0] w fun e w' => e = .returned (.tuple #[.pointer none, .int .i64 2]) ∧ w = w' := new_no 0 w (by omega)

set_option maxHeartbeats 1000000 in
theorem alive_any (w : World) : Calls Try.prog 7 #[] w fun e w' => e = .returned (.bool true) ∧ Below w.heap.size w w' := by
  go_enter Try.func7, Try.ntmps7
  go_wp2_with fail
  refine (new3 w).mono ?_
  rintro e w1 ⟨rfl, r0, b1, hs⟩
  have S := Lib.hid hs
  clear hs
  go_wp2_with fail
  refine (mark_at _ _ t0 5 0 w1 r0 (by omega) (by omega) (by decide)).mono ?_
  rintro e w2 ⟨rfl, r1, k1⟩
  go_wp2_with fail
  refine (mark_at _ _ t1 5 9 w2 r1 (by omega) (by omega) (by decide)).mono ?_
  rintro e w3 ⟨rfl, r2, k2⟩
  go_wp2_with fail
  refine (mark_at _ _ t2 3 0 w3 r2 (by omega) (by omega) (by decide)).mono ?_
  rintro e w4 ⟨rfl, r3, k3⟩
  go_wp2_with fail
  refine (mark_at _ _ t3 2 170 w4 r3 (by omega) (by omega) (by decide)).mono ?_
  rintro e w5 ⟨rfl, r4, k4⟩
  go_wp2_with fail
  refine (mark_at _ _ t4 9 0 w5 r4 (by omega) (by omega) (by decide)).mono ?_
  rintro e w6 ⟨rfl, r5, k5⟩
  go_wp2_with fail
  refine (may_at _ _ t5 7 0 w6 r5 (by omega) (by decide)).mono ?_
  rintro e w7 ⟨rfl, n1, rfl⟩
  go_wp2_with fail
  refine (may_at _ _ t5 6 170 _ (r5.drewN _) (by omega) (by decide)).mono ?_
  rintro e w7 ⟨rfl, n2, rfl⟩
  go_wp2_with fail
  refine (highest_at _ _ t5 _ (r5.drewN _) 9 true (by decide) (by decide)).mono ?_
  rintro e w7 ⟨rfl, n3, rfl⟩
  go_wp2_with fail
  refine (new0 _).mono ?_
  rintro e w7 ⟨rfl, rfl⟩
  go_wp2_with fail
  go_ret
  refine ⟨rfl, ?_⟩
  have K := ((((k1.trans k2).trans k3).trans k4).trans k5)
  have hb := b1.trans ((K.below (B := w.heap.size) (by rintro k (rfl | rfl) <;> omega) (by have := S.out; omega)))
  exact ⟨hb.os, hb.tape, hb.output, hb.size, hb.block⟩

end Go.Proofs.Yticckhcdbcbooaa
