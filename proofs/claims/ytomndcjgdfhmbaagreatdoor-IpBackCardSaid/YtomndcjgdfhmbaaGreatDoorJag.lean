/- Joined out of: IpK IpL IpLb. -/
import Derived.Test.YtomndcjgdfhmbaaGreatDoorJaf
set_option linter.unusedVariables false
set_option linter.unusedSimpArgs false

/- Numbers taken off the front of bytes: the walks. (Printed by ip_number.py.) -/
namespace Go.Proofs.YtomndcjgdfhmbaaGreatDoor
open Go.RowKit
attribute [local go_sem ↓] Go.wp_at_zero Go.wp_at_succ

theorem ret_int {k : IntKind} {a b : Int} (h : a = b) : Ending.returned (.int k a) = Ending.returned (.int k b) := by rw [h]
def valL (l : List Nat) : Nat := l.foldl (fun x c => x * 256 + c) 0
def valB (t : ByteArray) : Nat := valL (nats t)
theorem valL_snoc (l : List Nat) (c : Nat) : valL (l ++ [c]) = valL l * 256 + c := by simp [valL]
theorem valL_lt : ∀ (l : List Nat), (∀ c ∈ l, c < 256) → valL l < 256 ^ l.length := by
  intro l h
  have : ∀ (l : List Nat) (x B : Nat), (∀ c ∈ l, c < 256) → x < B → l.foldl (fun x c => x * 256 + c) x < B * 256 ^ l.length := by
    intro l
    induction l with
    | nil => intro x B _ h; simpa using h
    | cons c r ih =>
      intro x B hc h
      have := ih (x * 256 + c) (B * 256) (fun y hy => hc y (List.mem_cons_of_mem _ hy)) (by have := hc c (List.mem_cons_self ..); omega)
      rw [List.foldl_cons, List.length_cons, Nat.pow_succ, Nat.mul_comm (256 ^ r.length), ← Nat.mul_assoc]
      exact this
  simpa [valL] using this l 0 1 h (by decide)
theorem val_take (t : ByteArray) (k : Nat) (hk : k < t.size) : valL ((nats t).take (k + 1)) = valL ((nats t).take k) * 256 + t.data[k].toNat := by
  have h1 : k < (nats t).length := by rw [nats_length]; exact hk
  rw [List.take_succ_eq_append_getElem h1, valL_snoc]
  simp [nats]
theorem val_take_lt (t : ByteArray) (k : Nat) (hk : k ≤ t.size) : valL ((nats t).take k) < 256 ^ k := by
  have := valL_lt ((nats t).take k) (fun c hc => nats_lt t c (List.mem_of_mem_take hc))
  rwa [List.length_take_of_le (by rw [nats_length]; exact hk)] at this
theorem valB_lt (t : ByteArray) : valB t < 256 ^ t.size := by
  have := val_take_lt t t.size (Nat.le_refl _)
  rwa [show (nats t).take t.size = nats t by rw [← nats_length, List.take_length]] at this

theorem or8 (x c : Nat) (hx : x < 2 ^ 56) (hc : c < 256) : bits .or .u64 ((x * 256 : Nat) : Int) (c : Int) = ((x * 256 + c : Nat) : Int) := by
  show IntKind.u64.wrap ((BitVec.ofInt 64 ((x * 256 : Nat) : Int) ||| BitVec.ofInt 64 (c : Int)).toNat : Int) = _
  rw [BitVec.toNat_or, ofInt_u64 _ (by omega), ofInt_u64 _ (by omega)]
  have : x * 256 ||| c = x * 256 + c := by
    have := Nat.shiftLeft_add_eq_or_of_lt (b := c) (i := 8) (by omega) x
    rw [Nat.shiftLeft_eq] at this
    exact this.symm
  rw [this, IntKind.wrap_u64]
  omega
theorem shl64 (x : Nat) (hx : x < 2 ^ 56) (w : World) : (Op.shift .shl .u64 (x : Int) .u64 8).run Tryz.prog w = .ok (.int .u64 ((x * 256 : Nat) : Int)) w := by
  rw [shift_shl_any _ _ _ _ (by omega)]
  simp [IntKind.wrap, IntKind.bits, IntKind.signed]
  omega

theorem tkS_size (s : ByteArray) (f n : Nat) : (tkS s f n).size ≤ n := by
  unfold tkS
  split
  · rw [ByteArray.size_extract]; omega
  · show 0 ≤ n; omega
def numV (s : ByteArray) (f n : Nat) : Nat := valB (tkS s f n)
theorem numV_lt (s : ByteArray) (f n : Nat) : numV s f n < 256 ^ n := Nat.lt_of_lt_of_le (valB_lt _) (Nat.pow_le_pow_right (by decide) (tkS_size s f n))
theorem Rd.keep {w w' : World} {b : Nat} {s : ByteArray} {f : Nat} {S : Nat → Prop} (h : Rd w b s f) (k : Keeps S w w') (hS : ¬ S b) : Rd w' b s f := Blk.keep h k hS
theorem Rd.below {w w' : World} {b : Nat} {s : ByteArray} {f : Nat} (h : Rd w b s f) (k : Below w.heap.size w w') : Rd w' b s f := Blk.below h k h.lt
theorem keeps_of_below {S : Nat → Prop} {a w w' : World} (h : Keeps S a w) (k : Below w.heap.size w w') : Keeps S a w' :=
  h.trans (Keeps.of_below k fun _ h _ => h)

set_option maxHeartbeats 2000000 in
set_option maxRecDepth 100000 in
theorem number_u8 {w : World} {b : Nat} {s : ByteArray} {f : Nat} (h : Rd w b s f) (hs : s.size ≤ 1000000) : Calls Tryz.prog 87 #[.pointer (some ⟨b, 0, none⟩), .int .i64 1] w fun r w' => r = .returned (.int .u8 (numV s f 1 : Int)) ∧ Rd w' b (tkR s f 1) (tkF s f 1) ∧ Keeps (fun k => k = b) w w' := by
  unfold numV
  have ht := tkS_size s f 1
  have Ht := Lib.hid (take_any h 1 hs (by omega))
  have hconv := fun w => run_bytes_of_string (P := Tryz.prog) w 9 49 5 (tkS s f 1) Tryz.underlying9 Tryz.underlying49 Tryz.underlying5
  clear h
  generalize tkS s f 1 = t at *
  go_enter Tryz.func87, Tryz.ntmps87
  go_wp2_with (go_at_call 85; refine Ht.out.mono ?_; rintro r w1 ⟨rfl, hR1, hK1⟩)
  have hcell : ∀ j (hj : j < t.size), ((w1.alloc (Obj.cells (bytesRow t (grownCap w1 t.size 0 5)) 5 ((bytesRow t (grownCap w1 t.size 0 5)).size, (bytesRow t (grownCap w1 t.size 0 5)).size + 1))).drew).cell? ⟨w1.heap.size, j, none⟩ = some (.int .u8 ((t.data[j]'hj).toNat : Int)) := by
    intro j hj
    rw [World.cell?_drew, World.cell?_alloc_mark]
    exact bytesRow_at t _ j hj
  have hB : Below w1.heap.size w1 ((w1.alloc (Obj.cells (bytesRow t (grownCap w1 t.size 0 5)) 5 ((bytesRow t (grownCap w1 t.size 0 5)).size, (bytesRow t (grownCap w1 t.size 0 5)).size + 1))).drew) := ((Below.refl _ _).alloc (Nat.le_refl _) _).drew
  generalize hW : ((w1.alloc (Obj.cells (bytesRow t (grownCap w1 t.size 0 5)) 5 ((bytesRow t (grownCap w1 t.size 0 5)).size, (bytesRow t (grownCap w1 t.size 0 5)).size + 1))).drew) = W at hcell hB ⊢
  generalize grownCap w1 t.size 0 5 = cap
  have hR2 := hR1.below hB
  have hK2 := keeps_of_below hK1 hB
  clear hW hconv Ht
  have Hcell := Lib.hid hcell
  have HR := Lib.hid hR2
  have HK := Lib.hid hK2
  clear hcell hB hR1 hK1 hR2 hK2
  go_loopw [4, 18] (fun v4 v18 wr => ∃ k x : Nat, k ≤ t.size ∧ v4 = .int .u8 (x : Int) ∧ v18 = .int .i64 (k : Int) ∧ x = valL ((nats t).take k) ∧ wr = W) (fun _ v18 _ => t.size - (intOf v18).toNat)
  case atStart => exact ⟨0, 0, Nat.zero_le _, rfl, rfl, rfl, rfl⟩
  case round =>
    obtain ⟨k, x, hk, rfl, rfl, hx, rfl⟩ := hrel
    by_cases hlt : k < t.size
    · have hx0 := val_take_lt t k hk
      have hp : 256 ^ k ≤ 256 ^ (1 - 1) := Nat.pow_le_pow_right (by decide) (by omega)
      have hx1 : x < 256 ^ (1 - 1) := by rw [hx]; omega
      have hc := Hcell.out k hlt
      have hsucc := val_take t k hlt
      rw [← hx] at hsucc
      have hb := (t.data[k]'hlt).toNat_lt
      generalize (t.data[k]'hlt).toNat = c at hc hsucc hb
      have hx2 : x < 2 ^ 56 := by simp at hx1; omega
      have hor : bits .or .u64 ((x : Int) * 256) (c : Int) = ((x * 256 + c : Nat) : Int) := by
        have := or8 x c hx2 hb
        rwa [Int.natCast_mul] at this
      have hw1 : IntKind.u64.wrap (x : Int) = (x : Int) := by rw [IntKind.wrap_u64]; omega
      have hw2 : IntKind.u64.wrap ((x : Int) * 256) = (x : Int) * 256 := by rw [IntKind.wrap_u64]; omega
      have hx3 : x * 256 + c < 256 := by simp at hx1; omega
      have Hx := Lib.hid hx
      have Hs := Lib.hid hsucc
      have Hx0 := Lib.hid hx0
      have Hp := Lib.hid hp
      have hx4 : x * 256 + c < 18446744073709551616 := by omega
      have hwk : IntKind.u8.wrap ((x * 256 + c : Nat) : Int) = ((x * 256 + c : Nat) : Int) := by rw [IntKind.wrap_u8]; omega
      generalize hy : x * 256 + c = y at *
      have Hy := Lib.hid hy
      clear hx hsucc hx0 hp hx1 hx2 hx4 hy
      have Hx3 := Lib.hid hx3
      clear hx3
      go_wp2_with fail
      go_roundw
      case rel => exact ⟨k + 1, y, by omega, by first | rfl | go_num, by go_num, Hs.out.symm, (by first | rfl | trivial)⟩
      case measure => simp [intOf]; omega
    · have hks : k = t.size := by omega
      subst hks
      have e : (nats t).take t.size = nats t := by rw [← nats_length, List.take_length]
      rw [e] at hx
      have Hx := Lib.hid hx
      clear hx e
      go_wp2_with fail
      go_ret
      exact ⟨ret_int (by rw [Hx.out]; rfl), HR.out, HK.out⟩
theorem U8_read {w : World} {b : Nat} {s : ByteArray} {f : Nat} (h : Rd w b s f) (hs : s.size ≤ 1000000) : Calls Tryz.prog 65 #[.pointer (some ⟨b, 0, none⟩)] w fun r w' => r = .returned (.int .u8 (numV s f 1 : Int)) ∧ Rd w' b (tkR s f 1) (tkF s f 1) ∧ Keeps (fun k => k = b) w w' := by
  have Hn := Lib.hid (number_u8 h hs)
  clear h
  go_enter Tryz.func65, Tryz.ntmps65
  go_wp2_with (go_at_call 87; refine Hn.out.mono ?_; rintro r w1 ⟨rfl, hR, hK⟩)
  go_ret
  exact ⟨rfl, hR, hK⟩

set_option maxHeartbeats 2000000 in
set_option maxRecDepth 100000 in
theorem number_u16 {w : World} {b : Nat} {s : ByteArray} {f : Nat} (h : Rd w b s f) (hs : s.size ≤ 1000000) : Calls Tryz.prog 86 #[.pointer (some ⟨b, 0, none⟩), .int .i64 2] w fun r w' => r = .returned (.int .u16 (numV s f 2 : Int)) ∧ Rd w' b (tkR s f 2) (tkF s f 2) ∧ Keeps (fun k => k = b) w w' := by
  unfold numV
  have ht := tkS_size s f 2
  have Ht := Lib.hid (take_any h 2 hs (by omega))
  have hconv := fun w => run_bytes_of_string (P := Tryz.prog) w 9 49 5 (tkS s f 2) Tryz.underlying9 Tryz.underlying49 Tryz.underlying5
  clear h
  generalize tkS s f 2 = t at *
  go_enter Tryz.func86, Tryz.ntmps86
  go_wp2_with (go_at_call 85; refine Ht.out.mono ?_; rintro r w1 ⟨rfl, hR1, hK1⟩)
  have hcell : ∀ j (hj : j < t.size), ((w1.alloc (Obj.cells (bytesRow t (grownCap w1 t.size 0 5)) 5 ((bytesRow t (grownCap w1 t.size 0 5)).size, (bytesRow t (grownCap w1 t.size 0 5)).size + 1))).drew).cell? ⟨w1.heap.size, j, none⟩ = some (.int .u8 ((t.data[j]'hj).toNat : Int)) := by
    intro j hj
    rw [World.cell?_drew, World.cell?_alloc_mark]
    exact bytesRow_at t _ j hj
  have hB : Below w1.heap.size w1 ((w1.alloc (Obj.cells (bytesRow t (grownCap w1 t.size 0 5)) 5 ((bytesRow t (grownCap w1 t.size 0 5)).size, (bytesRow t (grownCap w1 t.size 0 5)).size + 1))).drew) := ((Below.refl _ _).alloc (Nat.le_refl _) _).drew
  generalize hW : ((w1.alloc (Obj.cells (bytesRow t (grownCap w1 t.size 0 5)) 5 ((bytesRow t (grownCap w1 t.size 0 5)).size, (bytesRow t (grownCap w1 t.size 0 5)).size + 1))).drew) = W at hcell hB ⊢
  generalize grownCap w1 t.size 0 5 = cap
  have hR2 := hR1.below hB
  have hK2 := keeps_of_below hK1 hB
  clear hW hconv Ht
  have Hcell := Lib.hid hcell
  have HR := Lib.hid hR2
  have HK := Lib.hid hK2
  clear hcell hB hR1 hK1 hR2 hK2
  go_loopw [4, 18] (fun v4 v18 wr => ∃ k x : Nat, k ≤ t.size ∧ v4 = .int .u16 (x : Int) ∧ v18 = .int .i64 (k : Int) ∧ x = valL ((nats t).take k) ∧ wr = W) (fun _ v18 _ => t.size - (intOf v18).toNat)
  case atStart => exact ⟨0, 0, Nat.zero_le _, rfl, rfl, rfl, rfl⟩
  case round =>
    obtain ⟨k, x, hk, rfl, rfl, hx, rfl⟩ := hrel
    by_cases hlt : k < t.size
    · have hx0 := val_take_lt t k hk
      have hp : 256 ^ k ≤ 256 ^ (2 - 1) := Nat.pow_le_pow_right (by decide) (by omega)
      have hx1 : x < 256 ^ (2 - 1) := by rw [hx]; omega
      have hc := Hcell.out k hlt
      have hsucc := val_take t k hlt
      rw [← hx] at hsucc
      have hb := (t.data[k]'hlt).toNat_lt
      generalize (t.data[k]'hlt).toNat = c at hc hsucc hb
      have hx2 : x < 2 ^ 56 := by simp at hx1; omega
      have hor : bits .or .u64 ((x : Int) * 256) (c : Int) = ((x * 256 + c : Nat) : Int) := by
        have := or8 x c hx2 hb
        rwa [Int.natCast_mul] at this
      have hw1 : IntKind.u64.wrap (x : Int) = (x : Int) := by rw [IntKind.wrap_u64]; omega
      have hw2 : IntKind.u64.wrap ((x : Int) * 256) = (x : Int) * 256 := by rw [IntKind.wrap_u64]; omega
      have hx3 : x * 256 + c < 65536 := by simp at hx1; omega
      have Hx := Lib.hid hx
      have Hs := Lib.hid hsucc
      have Hx0 := Lib.hid hx0
      have Hp := Lib.hid hp
      have hx4 : x * 256 + c < 18446744073709551616 := by omega
      have hwk : IntKind.u16.wrap ((x * 256 + c : Nat) : Int) = ((x * 256 + c : Nat) : Int) := by rw [IntKind.wrap_u16]; omega
      generalize hy : x * 256 + c = y at *
      have Hy := Lib.hid hy
      clear hx hsucc hx0 hp hx1 hx2 hx4 hy
      have Hx3 := Lib.hid hx3
      clear hx3
      go_wp2_with fail
      go_roundw
      case rel => exact ⟨k + 1, y, by omega, by first | rfl | go_num, by go_num, Hs.out.symm, (by first | rfl | trivial)⟩
      case measure => simp [intOf]; omega
    · have hks : k = t.size := by omega
      subst hks
      have e : (nats t).take t.size = nats t := by rw [← nats_length, List.take_length]
      rw [e] at hx
      have Hx := Lib.hid hx
      clear hx e
      go_wp2_with fail
      go_ret
      exact ⟨ret_int (by rw [Hx.out]; rfl), HR.out, HK.out⟩
theorem U16_read {w : World} {b : Nat} {s : ByteArray} {f : Nat} (h : Rd w b s f) (hs : s.size ≤ 1000000) : Calls Tryz.prog 64 #[.pointer (some ⟨b, 0, none⟩)] w fun r w' => r = .returned (.int .u16 (numV s f 2 : Int)) ∧ Rd w' b (tkR s f 2) (tkF s f 2) ∧ Keeps (fun k => k = b) w w' := by
  have Hn := Lib.hid (number_u16 h hs)
  clear h
  go_enter Tryz.func64, Tryz.ntmps64
  go_wp2_with (go_at_call 86; refine Hn.out.mono ?_; rintro r w1 ⟨rfl, hR, hK⟩)
  go_ret
  exact ⟨rfl, hR, hK⟩

set_option maxHeartbeats 2000000 in
set_option maxRecDepth 100000 in
theorem number_u32 {w : World} {b : Nat} {s : ByteArray} {f : Nat} (h : Rd w b s f) (hs : s.size ≤ 1000000) : Calls Tryz.prog 88 #[.pointer (some ⟨b, 0, none⟩), .int .i64 4] w fun r w' => r = .returned (.int .u32 (numV s f 4 : Int)) ∧ Rd w' b (tkR s f 4) (tkF s f 4) ∧ Keeps (fun k => k = b) w w' := by
  unfold numV
  have ht := tkS_size s f 4
  have Ht := Lib.hid (take_any h 4 hs (by omega))
  have hconv := fun w => run_bytes_of_string (P := Tryz.prog) w 9 49 5 (tkS s f 4) Tryz.underlying9 Tryz.underlying49 Tryz.underlying5
  clear h
  generalize tkS s f 4 = t at *
  go_enter Tryz.func88, Tryz.ntmps88
  go_wp2_with (go_at_call 85; refine Ht.out.mono ?_; rintro r w1 ⟨rfl, hR1, hK1⟩)
  have hcell : ∀ j (hj : j < t.size), ((w1.alloc (Obj.cells (bytesRow t (grownCap w1 t.size 0 5)) 5 ((bytesRow t (grownCap w1 t.size 0 5)).size, (bytesRow t (grownCap w1 t.size 0 5)).size + 1))).drew).cell? ⟨w1.heap.size, j, none⟩ = some (.int .u8 ((t.data[j]'hj).toNat : Int)) := by
    intro j hj
    rw [World.cell?_drew, World.cell?_alloc_mark]
    exact bytesRow_at t _ j hj
  have hB : Below w1.heap.size w1 ((w1.alloc (Obj.cells (bytesRow t (grownCap w1 t.size 0 5)) 5 ((bytesRow t (grownCap w1 t.size 0 5)).size, (bytesRow t (grownCap w1 t.size 0 5)).size + 1))).drew) := ((Below.refl _ _).alloc (Nat.le_refl _) _).drew
  generalize hW : ((w1.alloc (Obj.cells (bytesRow t (grownCap w1 t.size 0 5)) 5 ((bytesRow t (grownCap w1 t.size 0 5)).size, (bytesRow t (grownCap w1 t.size 0 5)).size + 1))).drew) = W at hcell hB ⊢
  generalize grownCap w1 t.size 0 5 = cap
  have hR2 := hR1.below hB
  have hK2 := keeps_of_below hK1 hB
  clear hW hconv Ht
  have Hcell := Lib.hid hcell
  have HR := Lib.hid hR2
  have HK := Lib.hid hK2
  clear hcell hB hR1 hK1 hR2 hK2
  go_loopw [4, 18] (fun v4 v18 wr => ∃ k x : Nat, k ≤ t.size ∧ v4 = .int .u32 (x : Int) ∧ v18 = .int .i64 (k : Int) ∧ x = valL ((nats t).take k) ∧ wr = W) (fun _ v18 _ => t.size - (intOf v18).toNat)
  case atStart => exact ⟨0, 0, Nat.zero_le _, rfl, rfl, rfl, rfl⟩
  case round =>
    obtain ⟨k, x, hk, rfl, rfl, hx, rfl⟩ := hrel
    by_cases hlt : k < t.size
    · have hx0 := val_take_lt t k hk
      have hp : 256 ^ k ≤ 256 ^ (4 - 1) := Nat.pow_le_pow_right (by decide) (by omega)
      have hx1 : x < 256 ^ (4 - 1) := by rw [hx]; omega
      have hc := Hcell.out k hlt
      have hsucc := val_take t k hlt
      rw [← hx] at hsucc
      have hb := (t.data[k]'hlt).toNat_lt
      generalize (t.data[k]'hlt).toNat = c at hc hsucc hb
      have hx2 : x < 2 ^ 56 := by simp at hx1; omega
      have hor : bits .or .u64 ((x : Int) * 256) (c : Int) = ((x * 256 + c : Nat) : Int) := by
        have := or8 x c hx2 hb
        rwa [Int.natCast_mul] at this
      have hw1 : IntKind.u64.wrap (x : Int) = (x : Int) := by rw [IntKind.wrap_u64]; omega
      have hw2 : IntKind.u64.wrap ((x : Int) * 256) = (x : Int) * 256 := by rw [IntKind.wrap_u64]; omega
      have hx3 : x * 256 + c < 4294967296 := by simp at hx1; omega
      have Hx := Lib.hid hx
      have Hs := Lib.hid hsucc
      have Hx0 := Lib.hid hx0
      have Hp := Lib.hid hp
      have hx4 : x * 256 + c < 18446744073709551616 := by omega
      have hwk : IntKind.u32.wrap ((x * 256 + c : Nat) : Int) = ((x * 256 + c : Nat) : Int) := by rw [IntKind.wrap_u32]; omega
      generalize hy : x * 256 + c = y at *
      have Hy := Lib.hid hy
      clear hx hsucc hx0 hp hx1 hx2 hx4 hy
      have Hx3 := Lib.hid hx3
      clear hx3
      go_wp2_with fail
      go_roundw
      case rel => exact ⟨k + 1, y, by omega, by first | rfl | go_num, by go_num, Hs.out.symm, (by first | rfl | trivial)⟩
      case measure => simp [intOf]; omega
    · have hks : k = t.size := by omega
      subst hks
      have e : (nats t).take t.size = nats t := by rw [← nats_length, List.take_length]
      rw [e] at hx
      have Hx := Lib.hid hx
      clear hx e
      go_wp2_with fail
      go_ret
      exact ⟨ret_int (by rw [Hx.out]; rfl), HR.out, HK.out⟩
theorem U32_read {w : World} {b : Nat} {s : ByteArray} {f : Nat} (h : Rd w b s f) (hs : s.size ≤ 1000000) : Calls Tryz.prog 66 #[.pointer (some ⟨b, 0, none⟩)] w fun r w' => r = .returned (.int .u32 (numV s f 4 : Int)) ∧ Rd w' b (tkR s f 4) (tkF s f 4) ∧ Keeps (fun k => k = b) w w' := by
  have Hn := Lib.hid (number_u32 h hs)
  clear h
  go_enter Tryz.func66, Tryz.ntmps66
  go_wp2_with (go_at_call 88; refine Hn.out.mono ?_; rintro r w1 ⟨rfl, hR, hK⟩)
  go_ret
  exact ⟨rfl, hR, hK⟩

set_option maxHeartbeats 2000000 in
set_option maxRecDepth 100000 in
theorem number_u64 {w : World} {b : Nat} {s : ByteArray} {f : Nat} (h : Rd w b s f) (hs : s.size ≤ 1000000) : Calls Tryz.prog 89 #[.pointer (some ⟨b, 0, none⟩), .int .i64 8] w fun r w' => r = .returned (.int .u64 (numV s f 8 : Int)) ∧ Rd w' b (tkR s f 8) (tkF s f 8) ∧ Keeps (fun k => k = b) w w' := by
  unfold numV
  have ht := tkS_size s f 8
  have Ht := Lib.hid (take_any h 8 hs (by omega))
  have hconv := fun w => run_bytes_of_string (P := Tryz.prog) w 9 49 5 (tkS s f 8) Tryz.underlying9 Tryz.underlying49 Tryz.underlying5
  clear h
  generalize tkS s f 8 = t at *
  go_enter Tryz.func89, Tryz.ntmps89
  go_wp2_with (go_at_call 85; refine Ht.out.mono ?_; rintro r w1 ⟨rfl, hR1, hK1⟩)
  have hcell : ∀ j (hj : j < t.size), ((w1.alloc (Obj.cells (bytesRow t (grownCap w1 t.size 0 5)) 5 ((bytesRow t (grownCap w1 t.size 0 5)).size, (bytesRow t (grownCap w1 t.size 0 5)).size + 1))).drew).cell? ⟨w1.heap.size, j, none⟩ = some (.int .u8 ((t.data[j]'hj).toNat : Int)) := by
    intro j hj
    rw [World.cell?_drew, World.cell?_alloc_mark]
    exact bytesRow_at t _ j hj
  have hB : Below w1.heap.size w1 ((w1.alloc (Obj.cells (bytesRow t (grownCap w1 t.size 0 5)) 5 ((bytesRow t (grownCap w1 t.size 0 5)).size, (bytesRow t (grownCap w1 t.size 0 5)).size + 1))).drew) := ((Below.refl _ _).alloc (Nat.le_refl _) _).drew
  generalize hW : ((w1.alloc (Obj.cells (bytesRow t (grownCap w1 t.size 0 5)) 5 ((bytesRow t (grownCap w1 t.size 0 5)).size, (bytesRow t (grownCap w1 t.size 0 5)).size + 1))).drew) = W at hcell hB ⊢
  generalize grownCap w1 t.size 0 5 = cap
  have hR2 := hR1.below hB
  have hK2 := keeps_of_below hK1 hB
  clear hW hconv Ht
  have Hcell := Lib.hid hcell
  have HR := Lib.hid hR2
  have HK := Lib.hid hK2
  clear hcell hB hR1 hK1 hR2 hK2
  go_loopw [4, 18] (fun v4 v18 wr => ∃ k x : Nat, k ≤ t.size ∧ v4 = .int .u64 (x : Int) ∧ v18 = .int .i64 (k : Int) ∧ x = valL ((nats t).take k) ∧ wr = W) (fun _ v18 _ => t.size - (intOf v18).toNat)
  case atStart => exact ⟨0, 0, Nat.zero_le _, rfl, rfl, rfl, rfl⟩
  case round =>
    obtain ⟨k, x, hk, rfl, rfl, hx, rfl⟩ := hrel
    by_cases hlt : k < t.size
    · have hx0 := val_take_lt t k hk
      have hp : 256 ^ k ≤ 256 ^ (8 - 1) := Nat.pow_le_pow_right (by decide) (by omega)
      have hx1 : x < 256 ^ (8 - 1) := by rw [hx]; omega
      have hc := Hcell.out k hlt
      have hsucc := val_take t k hlt
      rw [← hx] at hsucc
      have hb := (t.data[k]'hlt).toNat_lt
      generalize (t.data[k]'hlt).toNat = c at hc hsucc hb
      have hx2 : x < 2 ^ 56 := by simp at hx1; omega
      have hor : bits .or .u64 ((x : Int) * 256) (c : Int) = ((x * 256 + c : Nat) : Int) := by
        have := or8 x c hx2 hb
        rwa [Int.natCast_mul] at this
      have hw1 : IntKind.u64.wrap (x : Int) = (x : Int) := by rw [IntKind.wrap_u64]; omega
      have hw2 : IntKind.u64.wrap ((x : Int) * 256) = (x : Int) * 256 := by rw [IntKind.wrap_u64]; omega
      have hx3 : x * 256 + c < 18446744073709551616 := by simp at hx1; omega
      have Hx := Lib.hid hx
      have Hs := Lib.hid hsucc
      have Hx0 := Lib.hid hx0
      have Hp := Lib.hid hp
      have hx4 : x * 256 + c < 18446744073709551616 := by omega
      have hwk : IntKind.u64.wrap ((x * 256 + c : Nat) : Int) = ((x * 256 + c : Nat) : Int) := by rw [IntKind.wrap_u64]; omega
      generalize hy : x * 256 + c = y at *
      have Hy := Lib.hid hy
      clear hx hsucc hx0 hp hx1 hx2 hx4 hy
      have Hx3 := Lib.hid hx3
      clear hx3
      go_wp2_with fail
      go_roundw
      case rel => exact ⟨k + 1, y, by omega, by first | rfl | go_num, by go_num, Hs.out.symm, (by first | rfl | trivial)⟩
      case measure => simp [intOf]; omega
    · have hks : k = t.size := by omega
      subst hks
      have e : (nats t).take t.size = nats t := by rw [← nats_length, List.take_length]
      rw [e] at hx
      have Hx := Lib.hid hx
      clear hx e
      go_wp2_with fail
      go_ret
      exact ⟨ret_int (by rw [Hx.out]; rfl), HR.out, HK.out⟩
theorem U64_read {w : World} {b : Nat} {s : ByteArray} {f : Nat} (h : Rd w b s f) (hs : s.size ≤ 1000000) : Calls Tryz.prog 69 #[.pointer (some ⟨b, 0, none⟩)] w fun r w' => r = .returned (.int .u64 (numV s f 8 : Int)) ∧ Rd w' b (tkR s f 8) (tkF s f 8) ∧ Keeps (fun k => k = b) w w' := by
  have Hn := Lib.hid (number_u64 h hs)
  clear h
  go_enter Tryz.func69, Tryz.ntmps69
  go_wp2_with (go_at_call 89; refine Hn.out.mono ?_; rintro r w1 ⟨rfl, hR, hK⟩)
  go_ret
  exact ⟨rfl, hR, hK⟩

theorem Take_read {w : World} {b : Nat} {s : ByteArray} {f : Nat} (h : Rd w b s f) (n : Nat) (hs : s.size ≤ 1000000) (hn : n ≤ 1000000) : Calls Tryz.prog 63 #[.pointer (some ⟨b, 0, none⟩), .int .i64 (n : Int)] w fun r w' => r = .returned (.string (tkS s f n)) ∧ Rd w' b (tkR s f n) (tkF s f n) ∧ Keeps (fun k => k = b) w w' := by
  have Hn := Lib.hid (take_any h n hs hn)
  clear h
  go_enter Tryz.func63, Tryz.ntmps63
  go_wp2_with (go_at_call 85; refine Hn.out.mono ?_; rintro r w1 ⟨rfl, hR, hK⟩)
  go_ret
  exact ⟨rfl, hR, hK⟩
theorem Fault_read {w : World} {b : Nat} {s : ByteArray} {f : Nat} (h : Rd w b s f) : Calls Tryz.prog 67 #[.pointer (some ⟨b, 0, none⟩)] w fun r w' => r = .returned (.int .i64 (f : Int)) ∧ w = w' := by
  obtain ⟨c0, c1⟩ := h.cells
  clear h
  go_enter Tryz.func67, Tryz.ntmps67
  go_wp2_with fail
  go_ret
  exact ⟨rfl, rfl⟩
theorem Left_read {w : World} {b : Nat} {s : ByteArray} {f : Nat} (h : Rd w b s f) : Calls Tryz.prog 70 #[.pointer (some ⟨b, 0, none⟩)] w fun r w' => r = .returned (.int .i64 (s.size : Int)) ∧ w = w' := by
  obtain ⟨c0, c1⟩ := h.cells
  clear h
  go_enter Tryz.func70, Tryz.ntmps70
  go_wp2_with fail
  go_ret
  exact ⟨rfl, rfl⟩
end Go.Proofs.YtomndcjgdfhmbaaGreatDoor

/- Decode of IPv4: the walk. -/
namespace Go.Proofs.YtomndcjgdfhmbaaGreatDoor
open Go.RowKit
attribute [local go_sem ↓] Go.wp_at_zero Go.wp_at_succ

theorem bsize_extract (s : ByteArray) (i j : Nat) : (s.extract i j).size = min j s.size - i := by rw [ByteArray.size_extract]
theorem tk_ok {s : ByteArray} {k n : Nat} (h : k + n ≤ s.size) : tkS (s.extract k s.size) 0 n = s.extract k (k + n) ∧ tkR (s.extract k s.size) 0 n = s.extract (k + n) s.size ∧ tkF (s.extract k s.size) 0 n = 0 := by
  have hs : n ≤ (s.extract k s.size).size := by rw [bsize_extract]; omega
  refine ⟨?_, ?_, ?_⟩
  · unfold tkS
    rw [if_pos ⟨rfl, hs⟩, ByteArray.extract_extract]
    congr 1
    omega
  · unfold tkR
    rw [if_pos ⟨rfl, hs⟩, ByteArray.extract_extract, bsize_extract]
    congr 1
    omega
  · unfold tkF
    rw [if_pos rfl, if_pos hs]

/- A result's place, a reader, and all that was: as far as k bytes are read, and there are. -/
structure St (W : World) (r b : Nat) (s : ByteArray) (k : Nat) (Z : Array Value) (T : TypeId) (w : World) : Prop where
  rd : Rd w b (s.extract k s.size) 0
  blk : Blk w r T Z
  bel : Below W.heap.size W w
/- .. or there are not. -/
structure Sh (W : World) (r b : Nat) (s : ByteArray) (k : Nat) (Z : Array Value) (T : TypeId) (w : World) : Prop where
  rd : ∃ s' f, Rd w b s' f ∧ s'.size ≤ 1000000 ∧ (f = 7 ∨ (f = 0 ∧ s'.size + k = s.size))
  blk : Blk w r T Z
  bel : Below W.heap.size W w

section
variable {W w w' : World} {r b k : Nat} {s : ByteArray} {Z : Array Value} {T : TypeId}
theorem St.step (h : St W r b s k Z T w) (hr : r ≠ b) (hB : W.heap.size ≤ b) {n : Nat} (hk : k + n ≤ s.size) (h1 : Rd w' b (tkR (s.extract k s.size) 0 n) (tkF (s.extract k s.size) 0 n)) (hK : Keeps (fun k => k = b) w w') : St W r b s (k + n) Z T w' := by
  obtain ⟨_, e2, e3⟩ := tk_ok hk
  rw [e2, e3] at h1
  exact ⟨h1, h.blk.keep hK hr, h.bel.trans (hK.below (fun k hk => by rw [hk]; exact hB) h.bel.size)⟩
theorem Sh.step (h : Sh W r b s k Z T w) (hr : r ≠ b) (hB : W.heap.size ≤ b) {n : Nat} {s' : ByteArray} {f : Nat} (hs : s'.size ≤ 1000000) (hf : f = 7 ∨ (f = 0 ∧ s'.size + k = s.size)) (h1 : Rd w' b (tkR s' f n) (tkF s' f n)) (hK : Keeps (fun k => k = b) w w') : Sh W r b s (k + n) Z T w' := by
  refine ⟨⟨_, _, h1, ?_, ?_⟩, h.blk.keep hK hr, h.bel.trans (hK.below (fun k hk => by rw [hk]; exact hB) h.bel.size)⟩
  · unfold tkR
    split
    · rw [bsize_extract]; omega
    · exact hs
  · rcases hf with rfl | ⟨rfl, hf⟩
    · exact Or.inl (by unfold tkF; rw [if_neg (by decide)])
    · by_cases hn : n ≤ s'.size
      · refine Or.inr ⟨by unfold tkF; rw [if_pos rfl, if_pos hn], ?_⟩
        unfold tkR
        rw [if_pos ⟨rfl, hn⟩, bsize_extract]
        omega
      · exact Or.inl (by unfold tkF; rw [if_pos rfl, if_neg hn])
theorem ext_le (s : ByteArray) (k : Nat) (h : s.size ≤ 1000000) : (s.extract k s.size).size ≤ 1000000 := by rw [bsize_extract]; omega

theorem U8_st (h : St W r b s k Z T w) (hr : r ≠ b) (hB : W.heap.size ≤ b) (hs : s.size ≤ 1000000) (hk : k + 1 ≤ s.size) : Calls Tryz.prog 65 #[.pointer (some ⟨b, 0, none⟩)] w fun e w' => e = .returned (.int .u8 (valB (s.extract k (k + 1)) : Int)) ∧ St W r b s (k + 1) Z T w' := by
  refine (U8_read h.rd (ext_le s k hs)).mono fun e w' ⟨he, h1, hK⟩ => ⟨?_, h.step hr hB hk h1 hK⟩
  rw [he]
  unfold numV
  rw [(tk_ok hk).1]
theorem U8_sh (h : Sh W r b s k Z T w) (hr : r ≠ b) (hB : W.heap.size ≤ b) : Calls Tryz.prog 65 #[.pointer (some ⟨b, 0, none⟩)] w fun e w' => (∃ n : Nat, e = .returned (.int .u8 (n : Int))) ∧ Sh W r b s (k + 1) Z T w' := by
  obtain ⟨s', f, h0, hs, hf⟩ := h.rd
  exact (U8_read h0 hs).mono fun e w' ⟨he, h1, hK⟩ => ⟨⟨_, he⟩, h.step hr hB hs hf h1 hK⟩
theorem U16_st (h : St W r b s k Z T w) (hr : r ≠ b) (hB : W.heap.size ≤ b) (hs : s.size ≤ 1000000) (hk : k + 2 ≤ s.size) : Calls Tryz.prog 64 #[.pointer (some ⟨b, 0, none⟩)] w fun e w' => e = .returned (.int .u16 (valB (s.extract k (k + 2)) : Int)) ∧ St W r b s (k + 2) Z T w' := by
  refine (U16_read h.rd (ext_le s k hs)).mono fun e w' ⟨he, h1, hK⟩ => ⟨?_, h.step hr hB hk h1 hK⟩
  rw [he]
  unfold numV
  rw [(tk_ok hk).1]
theorem U16_sh (h : Sh W r b s k Z T w) (hr : r ≠ b) (hB : W.heap.size ≤ b) : Calls Tryz.prog 64 #[.pointer (some ⟨b, 0, none⟩)] w fun e w' => (∃ n : Nat, e = .returned (.int .u16 (n : Int))) ∧ Sh W r b s (k + 2) Z T w' := by
  obtain ⟨s', f, h0, hs, hf⟩ := h.rd
  exact (U16_read h0 hs).mono fun e w' ⟨he, h1, hK⟩ => ⟨⟨_, he⟩, h.step hr hB hs hf h1 hK⟩
theorem U32_st (h : St W r b s k Z T w) (hr : r ≠ b) (hB : W.heap.size ≤ b) (hs : s.size ≤ 1000000) (hk : k + 4 ≤ s.size) : Calls Tryz.prog 66 #[.pointer (some ⟨b, 0, none⟩)] w fun e w' => e = .returned (.int .u32 (valB (s.extract k (k + 4)) : Int)) ∧ St W r b s (k + 4) Z T w' := by
  refine (U32_read h.rd (ext_le s k hs)).mono fun e w' ⟨he, h1, hK⟩ => ⟨?_, h.step hr hB hk h1 hK⟩
  rw [he]
  unfold numV
  rw [(tk_ok hk).1]
theorem U32_sh (h : Sh W r b s k Z T w) (hr : r ≠ b) (hB : W.heap.size ≤ b) : Calls Tryz.prog 66 #[.pointer (some ⟨b, 0, none⟩)] w fun e w' => (∃ n : Nat, e = .returned (.int .u32 (n : Int))) ∧ Sh W r b s (k + 4) Z T w' := by
  obtain ⟨s', f, h0, hs, hf⟩ := h.rd
  exact (U32_read h0 hs).mono fun e w' ⟨he, h1, hK⟩ => ⟨⟨_, he⟩, h.step hr hB hs hf h1 hK⟩
theorem U64_st (h : St W r b s k Z T w) (hr : r ≠ b) (hB : W.heap.size ≤ b) (hs : s.size ≤ 1000000) (hk : k + 8 ≤ s.size) : Calls Tryz.prog 69 #[.pointer (some ⟨b, 0, none⟩)] w fun e w' => e = .returned (.int .u64 (valB (s.extract k (k + 8)) : Int)) ∧ St W r b s (k + 8) Z T w' := by
  refine (U64_read h.rd (ext_le s k hs)).mono fun e w' ⟨he, h1, hK⟩ => ⟨?_, h.step hr hB hk h1 hK⟩
  rw [he]
  unfold numV
  rw [(tk_ok hk).1]
theorem U64_sh (h : Sh W r b s k Z T w) (hr : r ≠ b) (hB : W.heap.size ≤ b) : Calls Tryz.prog 69 #[.pointer (some ⟨b, 0, none⟩)] w fun e w' => (∃ n : Nat, e = .returned (.int .u64 (n : Int))) ∧ Sh W r b s (k + 8) Z T w' := by
  obtain ⟨s', f, h0, hs, hf⟩ := h.rd
  exact (U64_read h0 hs).mono fun e w' ⟨he, h1, hK⟩ => ⟨⟨_, he⟩, h.step hr hB hs hf h1 hK⟩
theorem Take_st (h : St W r b s k Z T w) (hr : r ≠ b) (hB : W.heap.size ≤ b) (hs : s.size ≤ 1000000) (n : Nat) (hn : n ≤ 1000000) (hk : k + n ≤ s.size) : Calls Tryz.prog 63 #[.pointer (some ⟨b, 0, none⟩), .int .i64 (n : Int)] w fun e w' => e = .returned (.string (s.extract k (k + n))) ∧ St W r b s (k + n) Z T w' := by
  refine (Take_read h.rd n (ext_le s k hs) hn).mono fun e w' ⟨he, h1, hK⟩ => ⟨?_, h.step hr hB hk h1 hK⟩
  rw [he, (tk_ok hk).1]
theorem Take_sh (h : Sh W r b s k Z T w) (hr : r ≠ b) (hB : W.heap.size ≤ b) (n : Nat) (hn : n ≤ 1000000) : Calls Tryz.prog 63 #[.pointer (some ⟨b, 0, none⟩), .int .i64 (n : Int)] w fun e w' => (∃ t, e = .returned (.string t)) ∧ Sh W r b s (k + n) Z T w' := by
  obtain ⟨s', f, h0, hs, hf⟩ := h.rd
  exact (Take_read h0 n hs hn).mono fun e w' ⟨he, h1, hK⟩ => ⟨⟨_, he⟩, h.step hr hB hs hf h1 hK⟩
theorem Fault_st (h : St W r b s k Z T w) : Calls Tryz.prog 67 #[.pointer (some ⟨b, 0, none⟩)] w fun e w' => e = .returned (.int .i64 0) ∧ w = w' := Fault_read h.rd
theorem Fault_sh (h : Sh W r b s k Z T w) (hk : s.size < k) : Calls Tryz.prog 67 #[.pointer (some ⟨b, 0, none⟩)] w fun e w' => e = .returned (.int .i64 7) ∧ w = w' := by
  obtain ⟨s', f, h0, hs, hf⟩ := h.rd
  rcases hf with rfl | ⟨_, hf⟩
  · exact Fault_read h0
  · omega
theorem Left_st (h : St W r b s k Z T w) (hk : k ≤ s.size) : Calls Tryz.prog 70 #[.pointer (some ⟨b, 0, none⟩)] w fun e w' => e = .returned (.int .i64 ((s.size - k : Nat) : Int)) ∧ w = w' := by
  have := Left_read h.rd
  rwa [bsize_extract, Nat.min_self] at this
end

def Pk.zero : Pk := ⟨⟨false, 0, 0⟩, ⟨false, 0, 0⟩, 0, 0, ByteArray.empty⟩
def bt (s : ByteArray) (j : Nat) : Nat := (nats s).getD j 0
def fourP (s : ByteArray) : Pk := ⟨⟨false, 0, valB (s.extract 12 16)⟩, ⟨false, 0, valB (s.extract 16 20)⟩, valB (s.extract 9 10), valB (s.extract 8 9), s.extract 20 s.size⟩
/- What is wrong behind the first byte. -/
def fourE (s : ByteArray) : Nat := if valB (s.extract 2 4) ≠ s.size then 8 else if sumB (s.extract 0 20) ≠ 0 then 131 else if valB (s.extract 6 8) &&& 49151 ≠ 0 then 132 else 0
/- A packet, or what is wrong. -/
def Res (e : Nat) (p : Pk) : Value := .tuple #[.agg (if e = 0 then p else Pk.zero).cells, .int .i64 (e : Int)]

theorem andNot16 (x : Nat) (hx : x < 65536) : bits .andNot .u16 (x : Int) 16384 = ((x &&& 49151 : Nat) : Int) := by
  have h : bits .andNot .u16 (x : Int) 16384 = bits .and .u16 (x : Int) 49151 := by
    unfold bits
    rfl
  rw [h]
  exact u16_and_nat x 49151 hx (by decide)
end Go.Proofs.YtomndcjgdfhmbaaGreatDoor

/- Decode's words: a packet as a result; bytes as numbers. -/
namespace Go.Proofs.YtomndcjgdfhmbaaGreatDoor
open Go.RowKit
attribute [local go_sem ↓] Go.wp_at_zero Go.wp_at_succ

theorem extract_all (s : ByteArray) : s.extract 0 s.size = s := ByteArray.extract_zero_size

theorem load_pk {w : World} {g : Nat} {v0 v1 v2 v3 v4 v5 v6 v7 v8 : Value} (h : Blk w g 26 #[v0, v1, v2, v3, v4, v5, v6, v7, v8]) : (loadVar 26 ⟨g, 0, none⟩).run Tryz.prog w = .ok (.agg #[v0, v1, v2, v3, v4, v5, v6, v7, v8]) w := by
  have c0 := h.cell 0
  have c1 := h.cell 1
  have c2 := h.cell 2
  have c3 := h.cell 3
  have c4 := h.cell 4
  have c5 := h.cell 5
  have c6 := h.cell 6
  have c7 := h.cell 7
  have c8 := h.cell 8
  simp at c0 c1 c2 c3 c4 c5 c6 c7 c8
  simp [loadVar, go_sem, c0, c1, c2, c3, c4, c5, c6, c7, c8]
theorem results_ct {P : Program} {fn : Func} {tmps : Array Value} {w : World} {x y : Nat} {T : TypeId} {g : Nat} {V v2 : Value} (hres : fn.results = #[.cell x T, .tmp y]) (h1 : tmps.getD x undef = .pointer (some ⟨g, 0, none⟩)) (h2 : tmps.getD y undef = v2) (hl : (loadVar T ⟨g, 0, none⟩).run P w = .ok V w) : (results fn tmps).run P w = .ok (.tuple #[V, v2]) w := by
  have h1' : tmps[x]?.getD undef = .pointer (some ⟨g, 0, none⟩) := by simpa using h1
  have h2' : tmps[y]?.getD undef = v2 := by simpa using h2
  simp [results, hres, h1', h2', asAddr, hl]
theorem ret_pk {fn : Func} {a : Act} {W w : World} {g x y : Nat} {z0 z1 z2 z3 z4 z5 z6 z7 z8 v0 v1 v2 v3 v4 v5 v6 v7 v8 : Value} {e : Nat} (hres : fn.results = #[.cell x 26, .tmp y]) (hB : Blk w g 26 #[z0, z1, z2, z3, z4, z5, z6, z7, z8]) (hb : Below W.heap.size W w) (hg : W.heap.size ≤ g) (h1 : a.tmps.getD x undef = .pointer (some ⟨g, 0, none⟩)) (h2 : a.tmps.getD y undef = .int .i64 (e : Int)) (hd : a.defers = []) :
    bodyPost Tryz.prog fn (Got (.tuple #[.agg #[v0, v1, v2, v3, v4, v5, v6, v7, v8], .int .i64 (e : Int)]) W) .ret a (((((((((w.setCell ⟨g, 0, none⟩ v0).setCell ⟨g, 1, none⟩ v1).setCell ⟨g, 2, none⟩ v2).setCell ⟨g, 3, none⟩ v3).setCell ⟨g, 4, none⟩ v4).setCell ⟨g, 5, none⟩ v5).setCell ⟨g, 6, none⟩ v6).setCell ⟨g, 7, none⟩ v7).setCell ⟨g, 8, none⟩ v8) := by
  have s0 : Blk (w.setCell ⟨g, 0, none⟩ v0) g 26 #[v0, z1, z2, z3, z4, z5, z6, z7, z8] := hB.set_ 0 v0
  have s1 : Blk ((w.setCell ⟨g, 0, none⟩ v0).setCell ⟨g, 1, none⟩ v1) g 26 #[v0, v1, z2, z3, z4, z5, z6, z7, z8] := s0.set_ 1 v1
  have s2 : Blk (((w.setCell ⟨g, 0, none⟩ v0).setCell ⟨g, 1, none⟩ v1).setCell ⟨g, 2, none⟩ v2) g 26 #[v0, v1, v2, z3, z4, z5, z6, z7, z8] := s1.set_ 2 v2
  have s3 : Blk ((((w.setCell ⟨g, 0, none⟩ v0).setCell ⟨g, 1, none⟩ v1).setCell ⟨g, 2, none⟩ v2).setCell ⟨g, 3, none⟩ v3) g 26 #[v0, v1, v2, v3, z4, z5, z6, z7, z8] := s2.set_ 3 v3
  have s4 : Blk (((((w.setCell ⟨g, 0, none⟩ v0).setCell ⟨g, 1, none⟩ v1).setCell ⟨g, 2, none⟩ v2).setCell ⟨g, 3, none⟩ v3).setCell ⟨g, 4, none⟩ v4) g 26 #[v0, v1, v2, v3, v4, z5, z6, z7, z8] := s3.set_ 4 v4
  have s5 : Blk ((((((w.setCell ⟨g, 0, none⟩ v0).setCell ⟨g, 1, none⟩ v1).setCell ⟨g, 2, none⟩ v2).setCell ⟨g, 3, none⟩ v3).setCell ⟨g, 4, none⟩ v4).setCell ⟨g, 5, none⟩ v5) g 26 #[v0, v1, v2, v3, v4, v5, z6, z7, z8] := s4.set_ 5 v5
  have s6 : Blk (((((((w.setCell ⟨g, 0, none⟩ v0).setCell ⟨g, 1, none⟩ v1).setCell ⟨g, 2, none⟩ v2).setCell ⟨g, 3, none⟩ v3).setCell ⟨g, 4, none⟩ v4).setCell ⟨g, 5, none⟩ v5).setCell ⟨g, 6, none⟩ v6) g 26 #[v0, v1, v2, v3, v4, v5, v6, z7, z8] := s5.set_ 6 v6
  have s7 : Blk ((((((((w.setCell ⟨g, 0, none⟩ v0).setCell ⟨g, 1, none⟩ v1).setCell ⟨g, 2, none⟩ v2).setCell ⟨g, 3, none⟩ v3).setCell ⟨g, 4, none⟩ v4).setCell ⟨g, 5, none⟩ v5).setCell ⟨g, 6, none⟩ v6).setCell ⟨g, 7, none⟩ v7) g 26 #[v0, v1, v2, v3, v4, v5, v6, v7, z8] := s6.set_ 7 v7
  have s8 : Blk (((((((((w.setCell ⟨g, 0, none⟩ v0).setCell ⟨g, 1, none⟩ v1).setCell ⟨g, 2, none⟩ v2).setCell ⟨g, 3, none⟩ v3).setCell ⟨g, 4, none⟩ v4).setCell ⟨g, 5, none⟩ v5).setCell ⟨g, 6, none⟩ v6).setCell ⟨g, 7, none⟩ v7).setCell ⟨g, 8, none⟩ v8) g 26 #[v0, v1, v2, v3, v4, v5, v6, v7, v8] := s7.set_ 8 v8
  exact bodyPost_ret (results_ct hres h1 h2 (load_pk s8)) hd ⟨rfl, (((((((((hb.setCell (p := ⟨g, 0, none⟩) hg v0).setCell (p := ⟨g, 1, none⟩) hg v1).setCell (p := ⟨g, 2, none⟩) hg v2).setCell (p := ⟨g, 3, none⟩) hg v3).setCell (p := ⟨g, 4, none⟩) hg v4).setCell (p := ⟨g, 5, none⟩) hg v5).setCell (p := ⟨g, 6, none⟩) hg v6).setCell (p := ⟨g, 7, none⟩) hg v7).setCell (p := ⟨g, 8, none⟩) hg v8)⟩

theorem ret_pkd {fn : Func} {a : Act} {W w : World} {g x y : Nat} {z0 z1 z2 z3 z4 z5 z6 z7 z8 v0 v1 v2 v3 v4 v5 v6 v7 v8 : Value} {e : Nat} (hres : fn.results = #[.cell x 26, .tmp y]) (hB : Blk w g 26 #[z0, z1, z2, z3, z4, z5, z6, z7, z8]) (hb : Below W.heap.size W w) (hg : W.heap.size ≤ g) (h1 : a.tmps.getD x undef = .pointer (some ⟨g, 0, none⟩)) (h2 : a.tmps.getD y undef = .int .i64 (e : Int)) (hd : a.defers = []) :
    bodyPost Tryz.prog fn (Got (.tuple #[.agg #[v0, v1, v2, v3, v4, v5, v6, v7, v8], .int .i64 (e : Int)]) W) .ret a ((((((((((w.setCell ⟨g, 0, none⟩ v0).setCell ⟨g, 1, none⟩ v1).setCell ⟨g, 2, none⟩ v2).setCell ⟨g, 3, none⟩ v3).setCell ⟨g, 4, none⟩ v4).setCell ⟨g, 5, none⟩ v5).setCell ⟨g, 6, none⟩ v6).setCell ⟨g, 7, none⟩ v7).setCell ⟨g, 8, none⟩ v8)).drew := by
  have s0 : Blk (w.setCell ⟨g, 0, none⟩ v0) g 26 #[v0, z1, z2, z3, z4, z5, z6, z7, z8] := hB.set_ 0 v0
  have s1 : Blk ((w.setCell ⟨g, 0, none⟩ v0).setCell ⟨g, 1, none⟩ v1) g 26 #[v0, v1, z2, z3, z4, z5, z6, z7, z8] := s0.set_ 1 v1
  have s2 : Blk (((w.setCell ⟨g, 0, none⟩ v0).setCell ⟨g, 1, none⟩ v1).setCell ⟨g, 2, none⟩ v2) g 26 #[v0, v1, v2, z3, z4, z5, z6, z7, z8] := s1.set_ 2 v2
  have s3 : Blk ((((w.setCell ⟨g, 0, none⟩ v0).setCell ⟨g, 1, none⟩ v1).setCell ⟨g, 2, none⟩ v2).setCell ⟨g, 3, none⟩ v3) g 26 #[v0, v1, v2, v3, z4, z5, z6, z7, z8] := s2.set_ 3 v3
  have s4 : Blk (((((w.setCell ⟨g, 0, none⟩ v0).setCell ⟨g, 1, none⟩ v1).setCell ⟨g, 2, none⟩ v2).setCell ⟨g, 3, none⟩ v3).setCell ⟨g, 4, none⟩ v4) g 26 #[v0, v1, v2, v3, v4, z5, z6, z7, z8] := s3.set_ 4 v4
  have s5 : Blk ((((((w.setCell ⟨g, 0, none⟩ v0).setCell ⟨g, 1, none⟩ v1).setCell ⟨g, 2, none⟩ v2).setCell ⟨g, 3, none⟩ v3).setCell ⟨g, 4, none⟩ v4).setCell ⟨g, 5, none⟩ v5) g 26 #[v0, v1, v2, v3, v4, v5, z6, z7, z8] := s4.set_ 5 v5
  have s6 : Blk (((((((w.setCell ⟨g, 0, none⟩ v0).setCell ⟨g, 1, none⟩ v1).setCell ⟨g, 2, none⟩ v2).setCell ⟨g, 3, none⟩ v3).setCell ⟨g, 4, none⟩ v4).setCell ⟨g, 5, none⟩ v5).setCell ⟨g, 6, none⟩ v6) g 26 #[v0, v1, v2, v3, v4, v5, v6, z7, z8] := s5.set_ 6 v6
  have s7 : Blk ((((((((w.setCell ⟨g, 0, none⟩ v0).setCell ⟨g, 1, none⟩ v1).setCell ⟨g, 2, none⟩ v2).setCell ⟨g, 3, none⟩ v3).setCell ⟨g, 4, none⟩ v4).setCell ⟨g, 5, none⟩ v5).setCell ⟨g, 6, none⟩ v6).setCell ⟨g, 7, none⟩ v7) g 26 #[v0, v1, v2, v3, v4, v5, v6, v7, z8] := s6.set_ 7 v7
  have s8 : Blk (((((((((w.setCell ⟨g, 0, none⟩ v0).setCell ⟨g, 1, none⟩ v1).setCell ⟨g, 2, none⟩ v2).setCell ⟨g, 3, none⟩ v3).setCell ⟨g, 4, none⟩ v4).setCell ⟨g, 5, none⟩ v5).setCell ⟨g, 6, none⟩ v6).setCell ⟨g, 7, none⟩ v7).setCell ⟨g, 8, none⟩ v8) g 26 #[v0, v1, v2, v3, v4, v5, v6, v7, v8] := s7.set_ 8 v8
  exact bodyPost_ret (results_ct hres h1 h2 (load_pk s8.drew)) hd ⟨rfl, ((((((((((hb.setCell (p := ⟨g, 0, none⟩) hg v0).setCell (p := ⟨g, 1, none⟩) hg v1).setCell (p := ⟨g, 2, none⟩) hg v2).setCell (p := ⟨g, 3, none⟩) hg v3).setCell (p := ⟨g, 4, none⟩) hg v4).setCell (p := ⟨g, 5, none⟩) hg v5).setCell (p := ⟨g, 6, none⟩) hg v6).setCell (p := ⟨g, 7, none⟩) hg v7).setCell (p := ⟨g, 8, none⟩) hg v8)).drew⟩

def fourA (s : ByteArray) : Nat := if valB (s.extract 0 1) ≠ 69 then 133 else fourE s
theorem valB_two (s : ByteArray) (i j : Nat) (hj : j = i + 2) : valB (s.extract i j) < 65536 := by
  have := valB_lt (s.extract i j)
  have h : 256 ^ (s.extract i j).size ≤ 256 ^ 2 := Nat.pow_le_pow_right (by decide) (by rw [bsize_extract]; omega)
  omega
theorem byte_at (s : ByteArray) (i : Nat) (h : i < s.size) : valB (s.extract i (i + 1)) = s.data[i].toNat := by
  have e : nats (s.extract i (i + 1)) = [s.data[i].toNat] := by
    unfold nats
    rw [ByteArray.data_extract, Array.toList_extract]
    have hl : i < s.data.toList.length := by rw [Array.length_toList]; exact h
    rw [List.extract_eq_take_drop, List.drop_eq_getElem_cons hl, show i + 1 - i = 1 by omega]
    simp
  unfold valB
  rw [e]
  simp [valL]


theorem size_pk {v0 v1 v2 v3 v4 v5 v6 v7 v8 : Value} : (Tryz.prog.info? 26).map (·.size) = some (#[v0, v1, v2, v3, v4, v5, v6, v7, v8] : Array Value).size := by kernel_rfl
theorem ret_row {fn : Func} {a : Act} {W w : World} {g x y : Nat} {old : Array Value} {v0 v1 v2 v3 v4 v5 v6 v7 v8 : Value} {e : Nat} (hres : fn.results = #[.cell x 26, .tmp y]) (hB : Blk w g 26 old) (hb : Below W.heap.size W w) (hg : W.heap.size ≤ g) (h1 : a.tmps.getD x undef = .pointer (some ⟨g, 0, none⟩)) (h2 : a.tmps.getD y undef = .int .i64 (e : Int)) (hd : a.defers = []) :
    bodyPost Tryz.prog fn (Got (.tuple #[.agg #[v0, v1, v2, v3, v4, v5, v6, v7, v8], .int .i64 (e : Int)]) W) .ret a (w.setRow g #[v0, v1, v2, v3, v4, v5, v6, v7, v8]) :=
  bodyPost_ret (results_ct hres h1 h2 (load_pk (setRow_heap w g _ _ _ _ hB))) hd ⟨rfl, below_setRow hb hg _⟩

end Go.Proofs.YtomndcjgdfhmbaaGreatDoor
