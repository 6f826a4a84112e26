/- Joined out of: SuA IpA IpB IpC IpD TwA TwB. -/
import Derived.WalkKit
import Derived.Test.YtomndcjgdfhmbaaGreatDoorRows
import Derived.Test.YtomndcjgdfhmbaaGreatDoorJab
import Derived.BigQuiet
import Derived.Deep.QuietTactic
import Derived.Laws.IdiomStrings
import Derived.Laws.BitsAllLaws
import Derived.IntWalk
import Derived.Test.YtomndcjgdfhmbaaGreatDoorJaa
import Derived.Test.YtomndcjgdfhmbaaGreatDoorShelf
import Derived.Maps.AppendAt
set_option linter.unusedVariables false
set_option linter.unusedSimpArgs false

/- The sum of the internet's packets: the plain law. -/
namespace Go.Proofs.YtomndcjgdfhmbaaGreatDoor

/- What the bytes weigh; odd: the next one is the lower of its pair. -/
def ns : Bool → List Nat → Nat
  | _, [] => 0
  | odd, a :: l => (if odd then a else 256 * a) + ns (!odd) l

theorem ns_append (l2 : List Nat) : ∀ (l1 : List Nat) (o : Bool), ns o (l1 ++ l2) = ns o l1 + ns (o ^^ decide (l1.length % 2 = 1)) l2 := by
  intro l1
  induction l1 with
  | nil => intro o; simp [ns]
  | cons a l ih =>
    intro o
    rw [List.cons_append]
    simp only [ns]
    rw [ih]
    have e : ((!o) ^^ decide (l.length % 2 = 1)) = (o ^^ decide ((a :: l).length % 2 = 1)) := by
      rw [List.length_cons]
      by_cases h : l.length % 2 = 1
      · have h2 : ¬ (l.length + 1) % 2 = 1 := by omega
        rw [decide_eq_true h, decide_eq_false h2]
        cases o <;> rfl
      · have h2 : (l.length + 1) % 2 = 1 := by omega
        rw [decide_eq_false h, decide_eq_true h2]
        cases o <;> rfl
    rw [e]
    omega

theorem ns_even {l1 : List Nat} (h : l1.length % 2 = 0) (l2 : List Nat) : ns false (l1 ++ l2) = ns false l1 + ns false l2 := by
  rw [ns_append, decide_eq_false (by omega)]
  rfl

theorem ns_le : ∀ (l : List Nat) (o : Bool), (∀ c ∈ l, c < 256) → ns o l ≤ 65280 * l.length := by
  intro l
  induction l with
  | nil => intro o _; simp [ns]
  | cons a l ih =>
    intro o h
    have h1 := h a (List.mem_cons_self ..)
    have h2 := ih (!o) fun c hc => h c (List.mem_cons_of_mem _ hc)
    simp only [ns, List.length_cons]
    cases o with
    | false => rw [Bool.not_false] at h2; rw [Bool.not_false, if_neg (by simp)]; omega
    | true => rw [Bool.not_true] at h2; rw [Bool.not_true, if_pos rfl]; omega

/- Sixteen bits, carries brought in again. -/
def fold (n : Nat) : Nat := if n = 0 then 0 else (n - 1) % 65535 + 1

theorem fold_small {n : Nat} (h : n < 65536) : fold n = n := by
  unfold fold
  split
  · omega
  · omega
theorem fold_step {n : Nat} (h : 65536 ≤ n) : fold (n % 65536 + n / 65536) = fold n := by
  unfold fold
  rw [if_neg (by omega), if_neg (by omega)]
  omega
theorem fold_lt (n : Nat) : fold n < 65536 := by
  unfold fold
  split <;> omega
theorem step_lt {n : Nat} (h : 65536 ≤ n) : n % 65536 + n / 65536 < n := by omega

def sum16 (l : List Nat) : Nat := 65535 - fold (ns false l)

/- Bytes with their sum behind them. -/
def tail2 (l : List Nat) : List Nat := [sum16 l / 256, sum16 l % 256]

theorem ns_tail (l : List Nat) : ns false (tail2 l) = sum16 l := by
  unfold tail2
  simp only [ns]
  simp
  omega

theorem sum_closed {n : Nat} : fold (n + (65535 - fold n)) = 65535 := by
  have h := fold_lt n
  unfold fold at h ⊢
  by_cases h0 : n = 0
  · subst h0; rfl
  · rw [if_neg h0] at h ⊢
    rw [if_neg (by omega)]
    omega

theorem sum_behind {l : List Nat} (h : l.length % 2 = 0) : sum16 (l ++ tail2 l) = 0 := by
  unfold sum16
  rw [ns_even h, ns_tail]
  unfold sum16
  rw [sum_closed]
theorem sum_ahead (l : List Nat) : sum16 (tail2 l ++ l) = 0 := by
  unfold sum16
  rw [ns_even (show (tail2 l).length % 2 = 0 by simp [tail2]), ns_tail, Nat.add_comm]
  unfold sum16
  rw [sum_closed]
theorem sum_turned {l : List Nat} {k : Nat} (h : l.length % 2 = 0) (hk : k % 2 = 0) (hkl : k ≤ l.length) : sum16 (l.drop k ++ l.take k) = sum16 l := by
  have h1 : (l.drop k).length % 2 = 0 := by rw [List.length_drop]; omega
  have h2 : (l.take k).length % 2 = 0 := by rw [List.length_take]; omega
  have e : l = l.take k ++ l.drop k := (List.take_append_drop k l).symm
  unfold sum16
  rw [ns_even h1]
  have : ns false l = ns false (l.take k) + ns false (l.drop k) := by
    rw [← ns_even h2, ← e]
  rw [this, Nat.add_comm]
theorem sum_noughts {l : List Nat} (h : l.length % 2 = 0) : sum16 (l ++ [0, 0]) = sum16 l := by
  unfold sum16
  rw [ns_even h]
  rfl

end Go.Proofs.YtomndcjgdfhmbaaGreatDoor

/- Sum: the walks. -/
namespace Go.Proofs.YtomndcjgdfhmbaaGreatDoor
open Go.RowKit

def nats (s : ByteArray) : List Nat := s.data.toList.map UInt8.toNat
def sumB (s : ByteArray) : Nat := sum16 (nats s)

theorem nats_length (s : ByteArray) : (nats s).length = s.size := by unfold nats; rw [List.length_map, Array.length_toList]; rfl
theorem nats_lt (s : ByteArray) : ∀ c ∈ nats s, c < 256 := by
  intro c hc
  obtain ⟨b, _, rfl⟩ := List.mem_map.1 hc
  exact b.toNat_lt

theorem ns_take_succ (s : ByteArray) (k : Nat) (hk : k < s.size) : ns false ((nats s).take (k + 1)) = ns false ((nats s).take k) + (if k % 2 = 1 then s.data[k].toNat else 256 * s.data[k].toNat) := by
  have h1 : k < (nats s).length := by rw [nats_length]; exact hk
  have hkk : k < s.data.size := hk
  rw [List.take_succ_eq_append_getElem h1, ns_append, List.length_take_of_le (Nat.le_of_lt h1)]
  have e : (nats s)[k] = s.data[k].toNat := by simp [nats]
  rw [e]
  by_cases h : k % 2 = 1
  · rw [if_pos h, decide_eq_true h]; simp [ns]
  · rw [if_neg h, decide_eq_false h]; simp [ns]

theorem sumB_of {s : ByteArray} {m : Nat} (h1 : fold m = fold (ns false (nats s))) (h2 : m < 65536) : sumB s = 65535 - m := by
  unfold sumB sum16
  rw [← h1, fold_small h2]

theorem ns_take_le (s : ByteArray) (k : Nat) (hk : k ≤ s.size) : ns false ((nats s).take k) ≤ 65280 * k := by
  have := ns_le ((nats s).take k) false (fun c hc => nats_lt s c (List.mem_of_mem_take hc))
  rwa [List.length_take_of_le (by rw [nats_length]; exact hk)] at this

theorem and1 (k : Nat) (hk : k < 9223372036854775808) : bits .and .i64 (k : Int) 1 = ((k % 2 : Nat) : Int) := by
  show IntKind.i64.wrap ((BitVec.ofInt 64 (k : Int) &&& BitVec.ofInt 64 ((1 : Nat) : Int)).toNat : Int) = _
  rw [BitVec.toNat_and, ofInt_u64 k (by omega), ofInt_u64 1 (by omega), Nat.and_one_is_mod]
  simp [IntKind.wrap, IntKind.bits, IntKind.signed]
  omega
theorem and16 (m : Nat) (hm : m < 4294967296) : bits .and .u32 (m : Int) 65535 = ((m % 65536 : Nat) : Int) := by
  have h := u32_and_nat m (2 ^ 16 - 1) hm (by omega)
  rw [Nat.and_two_pow_sub_one_eq_mod] at h
  exact h
theorem xor16 (m : Nat) (hm : m < 65536) : bits .xor .u16 IntKind.u16.max (m : Int) = ((65535 - m : Nat) : Int) := by
  have h := u16_xor_nat 65535 m (by omega) hm
  have e : 65535 ^^^ m = 65535 - m := by
    have : ∀ m : BitVec 16, (65535#16 ^^^ m).toNat = 65535 - m.toNat := by
      intro m
      have : 65535#16 ^^^ m = ~~~ m := by
        exact BitVec.allOnes_xor
      rw [this, BitVec.toNat_not]
    have := this (BitVec.ofNat 16 m)
    rw [BitVec.toNat_xor, BitVec.toNat_ofNat, BitVec.toNat_ofNat, Nat.mod_eq_of_lt hm] at this
    exact this
  rw [e] at h
  exact h
theorem shl0 (c : Nat) (hc : c < 256) (w : World) : (Op.shift .shl .u32 (c : Int) .i64 0).run Tryz.prog w = .ok (.int .u32 (c : Int)) w := by
  rw [shift_shl_any _ _ _ _ (by omega)]
  simp [IntKind.wrap, IntKind.bits, IntKind.signed]
  omega
theorem shl8 (c : Nat) (hc : c < 256) (w : World) : (Op.shift .shl .u32 (c : Int) .i64 8).run Tryz.prog w = .ok (.int .u32 ((256 * c : Nat) : Int)) w := by
  rw [shift_shl_any _ _ _ _ (by omega)]
  simp [IntKind.wrap, IntKind.bits, IntKind.signed]
  omega

set_option maxHeartbeats 1000000 in
theorem sum_any (s : ByteArray) (hs : s.size ≤ 65536) (w : World) : Calls Tryz.prog 14 #[.string s] w fun r w' => r = .returned (.int .u16 (sumB s : Int)) ∧ Below w.heap.size w w' := by
  have hconv := fun w => run_bytes_of_string (P := Tryz.prog) w 9 49 5 s Tryz.underlying9 Tryz.underlying49 Tryz.underlying5
  go_enter Tryz.func14, Tryz.ntmps14
  go_wp2_with fail
  have hcell : ∀ j (hj : j < s.size), ((w.alloc (Obj.cells (bytesRow s (grownCap w s.size 0 5)) 5 ((bytesRow s (grownCap w s.size 0 5)).size, (bytesRow s (grownCap w s.size 0 5)).size + 1))).drew).cell? ⟨w.heap.size, j, none⟩ = some (.int .u8 ((s.data[j]'hj).toNat : Int)) := by
    intro j hj
    rw [World.cell?_drew, World.cell?_alloc_mark]
    exact bytesRow_at s _ j hj
  have hB : Below w.heap.size w ((w.alloc (Obj.cells (bytesRow s (grownCap w s.size 0 5)) 5 ((bytesRow s (grownCap w s.size 0 5)).size, (bytesRow s (grownCap w s.size 0 5)).size + 1))).drew) := ((Below.refl _ _).alloc (Nat.le_refl _) _).drew
  generalize hW : ((w.alloc (Obj.cells (bytesRow s (grownCap w s.size 0 5)) 5 ((bytesRow s (grownCap w s.size 0 5)).size, (bytesRow s (grownCap w s.size 0 5)).size + 1))).drew) = W at hcell hB ⊢
  generalize grownCap w s.size 0 5 = cap
  clear hW hconv
  have Hcell := Lib.hid hcell
  have HB := Lib.hid hB
  clear hcell hB
  go_loopw [3, 9] (fun v3 v9 wr => ∃ k n : Nat, k ≤ s.size ∧ v3 = .int .u32 (n : Int) ∧ v9 = .int .i64 (k : Int) ∧ n = ns false ((nats s).take k) ∧ wr = W) (fun _ v9 _ => s.size - (intOf v9).toNat)
  case atStart => exact ⟨0, 0, Nat.zero_le _, rfl, rfl, rfl, rfl⟩
  case round =>
    obtain ⟨k, n, hk, rfl, rfl, hn, rfl⟩ := hrel
    by_cases hlt : k < s.size
    · have hn0 := ns_take_le s k hk
      rw [← hn] at hn0
      have hc := Hcell.out k hlt
      have hsucc := ns_take_succ s k hlt
      rw [← hn] at hsucc
      have hb := (s.data[k]'hlt).toNat_lt
      generalize (s.data[k]'hlt).toNat = c at hc hsucc hb
      have ha := and1 k (by omega)
      have h0 := shl0 c hb
      have h8 := shl8 c hb
      have hn1 : n + 256 * c < 4294967296 := by omega
      have Hn := Lib.hid hn
      clear hn
      by_cases hp : k % 2 = 1
      · rw [if_pos hp] at hsucc
        rw [hp] at ha
        have ha2 : bits .and .i64 (k : Int) 1 = 1 := ha
        have Hs := Lib.hid hsucc
        have Hp := Lib.hid hp
        clear hsucc hp ha
        go_wp2_with fail
        go_roundw
        case rel => exact ⟨k + 1, n + c, by omega, by go_num, by go_num, Hs.out.symm, (by first | rfl | trivial)⟩
        case measure => simp [intOf]; omega
      · rw [if_neg hp] at hsucc
        rw [show k % 2 = 0 by omega] at ha
        have ha2 : bits .and .i64 (k : Int) 1 = 0 := ha
        have Hs := Lib.hid hsucc
        have Hp := Lib.hid hp
        clear hsucc hp ha
        go_wp2_with fail
        go_roundw
        case rel => exact ⟨k + 1, n + 256 * c, by omega, by go_num, by go_num, Hs.out.symm, (by first | rfl | trivial)⟩
        case measure => simp [intOf]; omega
    · have hks : k = s.size := by omega
      subst hks
      have e : (nats s).take s.size = nats s := by rw [← nats_length, List.take_length]
      rw [e] at hn
      have hn0 := ns_le (nats s) false (nats_lt s)
      rw [nats_length, ← hn] at hn0
      have Hn := Lib.hid hn
      clear hn e
      go_wp2_with fail
      go_loopw [3] (fun v3 wx => ∃ m : Nat, m < 4294967296 ∧ v3 = .int .u32 (m : Int) ∧ fold m = fold (ns false (nats s)) ∧ wx = wr) (fun v3 _ => (intOf v3).toNat)
      case atStart => exact ⟨n, by omega, rfl, by rw [Hn.out], rfl⟩
      case round =>
        obtain ⟨m, hm, rfl, hf, rfl⟩ := hrel
        by_cases hsm : m < 65536
        · have hq : ((m : Int) / 65536) = 0 := by omega
          have Hf := Lib.hid hf
          have hxr := xor16 m hsm
          have hsg : IntKind.u16.signed = false := rfl
          have hres := sumB_of Hf.out hsm
          have Hres := Lib.hid hres
          clear hf hn0 hres
          go_wp2_with fail
          go_ret
          refine ⟨?_, HB.out⟩
          rw [Hres.out]
          rfl
        · have Hf := Lib.hid hf
          have hq : ¬ ((m : Int) / 65536) = 0 := by omega
          have ham := and16 m hm
          clear hf hn0
          go_wp2_with fail
          go_roundw
          case rel =>
            refine ⟨m % 65536 + m / 65536, by omega, by go_num, ?_, (by first | rfl | trivial)⟩
            rw [fold_step (by omega)]
            exact Hf.out
          case measure => simp [intOf]; omega
end Go.Proofs.YtomndcjgdfhmbaaGreatDoor

/- A number as bytes; the document's sum: the walks. -/
namespace Go.Proofs.YtomndcjgdfhmbaaGreatDoor
open Go.RowKit

/- A number as so many bytes, the highest first. -/
def beL (n x : Nat) : List UInt8 := (List.range n).map fun j => UInt8.ofNat (x / 256 ^ (n - 1 - j) % 256)
def be (n x : Nat) : ByteArray := ⟨(beL n x).toArray⟩
theorem beL_length (n x : Nat) : (beL n x).length = n := by simp [beL]
theorem be_size (n x : Nat) : (be n x).size = n := by simp [be, ByteArray.size, beL]

def beRow (n x k : Nat) : Array Value := ((List.range n).map fun j => Value.int .u8 (if n - 1 - j < k then ((x / 256 ^ (n - 1 - j) % 256 : Nat) : Int) else 0)).toArray

theorem beRow_zero (n x : Nat) : beRow n x 0 = Array.replicate n (.int .u8 0) := by
  unfold beRow
  apply Array.ext
  · simp
  · intro i h1 h2
    simp
theorem beRow_set (n x k : Nat) (hk : k < n) : (beRow n x k).setIfInBounds (n - 1 - k) (.int .u8 ((x / 256 ^ k % 256 : Nat) : Int)) = beRow n x (k + 1) := by
  unfold beRow
  apply Array.ext
  · simp
  · intro i h1 h2
    simp only [Array.size_setIfInBounds, List.size_toArray, List.length_map, List.length_range] at h1
    rw [Array.getElem_setIfInBounds (by simpa using h1)]
    simp only [List.getElem_toArray, List.getElem_map, List.getElem_range]
    by_cases h : n - 1 - k = i
    · rw [if_pos h, if_pos (by omega), show n - 1 - i = k by omega]
    · rw [if_neg h]
      by_cases h3 : n - 1 - i < k
      · rw [if_pos h3, if_pos (by omega)]
      · rw [if_neg h3, if_neg (by omega)]
theorem beRow_at (n x k j : Nat) (hj : j < n) : ∃ v, (beRow n x k)[j]? = some v := by
  unfold beRow
  exact ⟨_, Array.getElem?_eq_getElem (by simpa using hj)⟩
theorem beL_at (n x j : Nat) (hj : j < (beL n x).length) : (beL n x)[j] = UInt8.ofNat (x / 256 ^ (n - 1 - j) % 256) := by simp [beL]
theorem beRow_full (n x j : Nat) (hj : j < (beL n x).length) : (beRow n x n)[j]? = some (.int .u8 (((beL n x)[j]'hj).toNat : Int)) := by
  rw [beL_at]
  rw [beL_length] at hj
  unfold beRow
  rw [Array.getElem?_eq_getElem (by simpa using hj)]
  simp only [List.getElem_toArray, List.getElem_map, List.getElem_range]
  rw [if_pos (by omega)]
  have : x / 256 ^ (n - 1 - j) % 256 < 256 := Nat.mod_lt _ (by omega)
  rw [UInt8.toNat_ofNat_of_lt' (by simpa using this)]

theorem mkN (n : Nat) (hn : n = 2 ∨ n = 4 ∨ n = 8) (w : World) : (Instr.makeSlice 49 (.int .i64 (n : Int)) (.int .i64 (n : Int))).run Tryz.prog w = .ok (.slice (some ⟨w.heap.size, 0, none⟩) n n) (w.alloc (.cells (Array.replicate n (.int .u8 0)) 5)) := by
  rcases hn with rfl | rfl | rfl
  · kernel_rfl
  · kernel_rfl
  · kernel_rfl

theorem shrv (x k : Nat) : (x : Int) / 2 ^ (8 * k) % 256 = ((x / 256 ^ k % 256 : Nat) : Int) := by
  rw [show (2 : Int) ^ (8 * k) = ((256 ^ k : Nat) : Int) by rw [Int.pow_mul]; simp]
  simp
set_option maxHeartbeats 1000000 in
set_option maxRecDepth 100000 in
theorem bytes16 (x n : Nat) (hx : x < 65536) (hn : n = 2 ∨ n = 4 ∨ n = 8) (w : World) : Calls Tryz.prog 59 #[.int .u16 (x : Int), .int .i64 (n : Int)] w fun r w' => r = .returned (.string (be n x)) ∧ Below w.heap.size w w' := by
  have hmk := mkN n hn
  have hn0 : 1 ≤ n := by omega
  have hn8 : n ≤ 8 := by omega
  clear hn
  go_enter Tryz.func59, Tryz.ntmps59
  go_wp2_with fail
  go_loopw [11] (fun v11 wr => ∃ k : Nat, k ≤ n ∧ v11 = .int .i64 (k : Int) ∧ Blk wr w.heap.size 5 (beRow n x k) ∧ Below w.heap.size w wr) (fun v11 _ => n - (intOf v11).toNat)
  case atStart => exact ⟨0, Nat.zero_le _, rfl, by rw [beRow_zero]; exact Blk.new _ _ _, (Below.refl _ _).alloc (Nat.le_refl _) _⟩
  case round =>
    obtain ⟨k, hk, rfl, hb, hB⟩ := hrel
    by_cases hlt : k < n
    · obtain ⟨u, hu⟩ := beRow_at n x k (n - 1 - k) (by omega)
      have hc := (hb.cell (n - 1 - k)).trans hu
      have hf := hb.frozen (n - 1 - k)
      have hnx := hb.set_ (n - 1 - k) (.int .u8 ((x / 256 ^ k % 256 : Nat) : Int))
      rw [beRow_set n x k hlt] at hnx
      have e1 : ((n : Int) - 1 - (k : Int)).toNat = n - 1 - k := by omega
      have h0 : (0 : Int) ≤ (n : Int) - 1 - (k : Int) := by omega
      have HB := Lib.hid hB
      have Hnx := Lib.hid hnx
      have hlt2 := hb.lt
      clear hB hnx hu hb hmk
      go_wp2_with fail
      go_roundw
      case rel =>
        rw [shrv x k]
        exact ⟨k + 1, by omega, by go_num, Hnx.out, HB.out.setCell (Nat.le_refl _) _⟩
      case measure => simp [intOf]; omega
    · obtain rfl : k = n := by omega
      have hback := run_convert_bytes_back (P := Tryz.prog) wr 49 9 5 ⟨w.heap.size, 0, none⟩ k (beL k x) Tryz.underlying49 Tryz.underlying5 Tryz.underlying9 (fun j hj => by
        have e : (⟨w.heap.size, 0, none⟩ : Addr).add j = ⟨w.heap.size, j, none⟩ := by unfold Addr.add; split <;> simp_all
        rw [e]
        exact (hb.cell j).trans (beRow_full k x j hj))
      rw [beL_length] at hback
      have HB := Lib.hid hB
      clear hB hb hmk
      go_wp2_with fail
      go_ret
      exact ⟨rfl, HB.out⟩

set_option maxHeartbeats 1000000 in
set_option maxRecDepth 100000 in
theorem bytes64 (x n : Nat) (hx : x < 18446744073709551616) (hn : n = 2 ∨ n = 4 ∨ n = 8) (w : World) : Calls Tryz.prog 83 #[.int .u64 (x : Int), .int .i64 (n : Int)] w fun r w' => r = .returned (.string (be n x)) ∧ Below w.heap.size w w' := by
  have hmk := mkN n hn
  have hn0 : 1 ≤ n := by omega
  have hn8 : n ≤ 8 := by omega
  clear hn
  go_enter Tryz.func83, Tryz.ntmps83
  go_wp2_with fail
  go_loopw [11] (fun v11 wr => ∃ k : Nat, k ≤ n ∧ v11 = .int .i64 (k : Int) ∧ Blk wr w.heap.size 5 (beRow n x k) ∧ Below w.heap.size w wr) (fun v11 _ => n - (intOf v11).toNat)
  case atStart => exact ⟨0, Nat.zero_le _, rfl, by rw [beRow_zero]; exact Blk.new _ _ _, (Below.refl _ _).alloc (Nat.le_refl _) _⟩
  case round =>
    obtain ⟨k, hk, rfl, hb, hB⟩ := hrel
    by_cases hlt : k < n
    · obtain ⟨u, hu⟩ := beRow_at n x k (n - 1 - k) (by omega)
      have hc := (hb.cell (n - 1 - k)).trans hu
      have hf := hb.frozen (n - 1 - k)
      have hnx := hb.set_ (n - 1 - k) (.int .u8 ((x / 256 ^ k % 256 : Nat) : Int))
      rw [beRow_set n x k hlt] at hnx
      have e1 : ((n : Int) - 1 - (k : Int)).toNat = n - 1 - k := by omega
      have h0 : (0 : Int) ≤ (n : Int) - 1 - (k : Int) := by omega
      have HB := Lib.hid hB
      have Hnx := Lib.hid hnx
      have hlt2 := hb.lt
      clear hB hnx hu hb hmk
      go_wp2_with fail
      go_roundw
      case rel =>
        rw [shrv x k]
        exact ⟨k + 1, by omega, by go_num, Hnx.out, HB.out.setCell (Nat.le_refl _) _⟩
      case measure => simp [intOf]; omega
    · obtain rfl : k = n := by omega
      have hback := run_convert_bytes_back (P := Tryz.prog) wr 49 9 5 ⟨w.heap.size, 0, none⟩ k (beL k x) Tryz.underlying49 Tryz.underlying5 Tryz.underlying9 (fun j hj => by
        have e : (⟨w.heap.size, 0, none⟩ : Addr).add j = ⟨w.heap.size, j, none⟩ := by unfold Addr.add; split <;> simp_all
        rw [e]
        exact (hb.cell j).trans (beRow_full k x j hj))
      rw [beL_length] at hback
      have HB := Lib.hid hB
      clear hB hb hmk
      go_wp2_with fail
      go_ret
      exact ⟨rfl, HB.out⟩

set_option maxHeartbeats 1000000 in
set_option maxRecDepth 100000 in
theorem bytes32 (x n : Nat) (hx : x < 4294967296) (hn : n = 2 ∨ n = 4 ∨ n = 8) (w : World) : Calls Tryz.prog 84 #[.int .u32 (x : Int), .int .i64 (n : Int)] w fun r w' => r = .returned (.string (be n x)) ∧ Below w.heap.size w w' := by
  have hmk := mkN n hn
  have hn0 : 1 ≤ n := by omega
  have hn8 : n ≤ 8 := by omega
  clear hn
  go_enter Tryz.func84, Tryz.ntmps84
  go_wp2_with fail
  go_loopw [11] (fun v11 wr => ∃ k : Nat, k ≤ n ∧ v11 = .int .i64 (k : Int) ∧ Blk wr w.heap.size 5 (beRow n x k) ∧ Below w.heap.size w wr) (fun v11 _ => n - (intOf v11).toNat)
  case atStart => exact ⟨0, Nat.zero_le _, rfl, by rw [beRow_zero]; exact Blk.new _ _ _, (Below.refl _ _).alloc (Nat.le_refl _) _⟩
  case round =>
    obtain ⟨k, hk, rfl, hb, hB⟩ := hrel
    by_cases hlt : k < n
    · obtain ⟨u, hu⟩ := beRow_at n x k (n - 1 - k) (by omega)
      have hc := (hb.cell (n - 1 - k)).trans hu
      have hf := hb.frozen (n - 1 - k)
      have hnx := hb.set_ (n - 1 - k) (.int .u8 ((x / 256 ^ k % 256 : Nat) : Int))
      rw [beRow_set n x k hlt] at hnx
      have e1 : ((n : Int) - 1 - (k : Int)).toNat = n - 1 - k := by omega
      have h0 : (0 : Int) ≤ (n : Int) - 1 - (k : Int) := by omega
      have HB := Lib.hid hB
      have Hnx := Lib.hid hnx
      have hlt2 := hb.lt
      clear hB hnx hu hb hmk
      go_wp2_with fail
      go_roundw
      case rel =>
        rw [shrv x k]
        exact ⟨k + 1, by omega, by go_num, Hnx.out, HB.out.setCell (Nat.le_refl _) _⟩
      case measure => simp [intOf]; omega
    · obtain rfl : k = n := by omega
      have hback := run_convert_bytes_back (P := Tryz.prog) wr 49 9 5 ⟨w.heap.size, 0, none⟩ k (beL k x) Tryz.underlying49 Tryz.underlying5 Tryz.underlying9 (fun j hj => by
        have e : (⟨w.heap.size, 0, none⟩ : Addr).add j = ⟨w.heap.size, j, none⟩ := by unfold Addr.add; split <;> simp_all
        rw [e]
        exact (hb.cell j).trans (beRow_full k x j hj))
      rw [beL_length] at hback
      have HB := Lib.hid hB
      clear hB hb hmk
      go_wp2_with fail
      go_ret
      exact ⟨rfl, HB.out⟩

end Go.Proofs.YtomndcjgdfhmbaaGreatDoor

/- Numbers as bytes, both ways; the document's sum; addresses. -/
namespace Go.Proofs.YtomndcjgdfhmbaaGreatDoor
open Go.RowKit

theorem u16_any (x : Nat) (hx : x < 65536) (w : World) : Calls Tryz.prog 33 #[.int .u16 (x : Int)] w fun r w' => r = .returned (.string (be 2 x)) ∧ Below w.heap.size w w' := by
  go_enter Tryz.func33, Tryz.ntmps33
  go_wp2_with (go_at_call 59; refine (bytes16 x 2 hx (by omega) _).mono ?_; rintro r w' ⟨rfl, hb⟩)
  go_ret
  exact ⟨rfl, hb⟩
theorem u64_any (x : Nat) (hx : x < 18446744073709551616) (w : World) : Calls Tryz.prog 60 #[.int .u64 (x : Int)] w fun r w' => r = .returned (.string (be 8 x)) ∧ Below w.heap.size w w' := by
  go_enter Tryz.func60, Tryz.ntmps60
  go_wp2_with (go_at_call 83; refine (bytes64 x 8 hx (by omega) _).mono ?_; rintro r w' ⟨rfl, hb⟩)
  go_ret
  exact ⟨rfl, hb⟩
theorem u32_any (x : Nat) (hx : x < 4294967296) (w : World) : Calls Tryz.prog 61 #[.int .u32 (x : Int)] w fun r w' => r = .returned (.string (be 4 x)) ∧ Below w.heap.size w w' := by
  go_enter Tryz.func61, Tryz.ntmps61
  go_wp2_with (go_at_call 84; refine (bytes32 x 4 hx (by omega) _).mono ?_; rintro r w' ⟨rfl, hb⟩)
  go_ret
  exact ⟨rfl, hb⟩

theorem div_step (x k : Nat) : x / 256 ^ k / 256 = x / 256 ^ (k + 1) := by rw [Nat.div_div_eq_div_mul, Nat.pow_succ]

set_option maxHeartbeats 1000000 in
set_option maxRecDepth 100000 in
theorem num_any (x n : Nat) (hx : x < 18446744073709551616) (hn : n = 2 ∨ n = 4 ∨ n = 8) (w : World) : Calls Tryz.prog 35 #[.int .u64 (x : Int), .int .i64 (n : Int)] w fun r w' => r = .returned (.string (be n x)) ∧ Below w.heap.size w w' := by
  have hmk := mkN n hn
  have hn0 : 1 ≤ n := by omega
  have hn8 : n ≤ 8 := by omega
  clear hn
  go_enter Tryz.func35, Tryz.ntmps35
  go_wp2_with fail
  go_loopw [0, 6] (fun v0 v6 wr => ∃ k : Nat, k ≤ n ∧ v0 = .int .u64 ((x / 256 ^ k : Nat) : Int) ∧ v6 = .int .i64 ((n : Int) - 1 - (k : Int)) ∧ Blk wr w.heap.size 5 (beRow n x k) ∧ Below w.heap.size w wr) (fun _ v6 _ => (intOf v6 + 1).toNat)
  case atStart => exact ⟨0, Nat.zero_le _, by simp, by go_num, by rw [beRow_zero]; exact Blk.new _ _ _, (Below.refl _ _).alloc (Nat.le_refl _) _⟩
  case round =>
    obtain ⟨k, hk, rfl, rfl, hb, hB⟩ := hrel
    by_cases hlt : k < n
    · obtain ⟨u, hu⟩ := beRow_at n x k (n - 1 - k) (by omega)
      have hc := (hb.cell (n - 1 - k)).trans hu
      have hf := hb.frozen (n - 1 - k)
      have hnx := hb.set_ (n - 1 - k) (.int .u8 ((x / 256 ^ k % 256 : Nat) : Int))
      rw [beRow_set n x k hlt] at hnx
      have hy : x / 256 ^ k < 18446744073709551616 := Nat.lt_of_le_of_lt (Nat.div_le_self _ _) hx
      have hstep := div_step x k
      generalize x / 256 ^ k = y at *
      have e1 : ((n : Int) - 1 - (k : Int)).toNat = n - 1 - k := by omega
      have h0 : (0 : Int) ≤ (n : Int) - 1 - (k : Int) := by omega
      have HB := Lib.hid hB
      have Hnx := Lib.hid hnx
      have Hst := Lib.hid hstep
      have hlt2 := hb.lt
      clear hB hnx hu hb hmk hstep
      go_wp2_with fail
      go_roundw
      case rel =>
        rw [show (y : Int) % 256 = ((y % 256 : Nat) : Int) by omega]
        exact ⟨k + 1, by omega, by rw [← Hst.out]; go_num, by go_num, Hnx.out, HB.out.setCell (Nat.le_refl _) _⟩
      case measure => simp [intOf]; omega
    · obtain rfl : k = n := by omega
      have hback := run_convert_bytes_back (P := Tryz.prog) wr 49 9 5 ⟨w.heap.size, 0, none⟩ k (beL k x) Tryz.underlying49 Tryz.underlying5 Tryz.underlying9 (fun j hj => by
        have e : (⟨w.heap.size, 0, none⟩ : Addr).add j = ⟨w.heap.size, j, none⟩ := by unfold Addr.add; split <;> simp_all
        rw [e]
        exact (hb.cell j).trans (beRow_full k x j hj))
      rw [beL_length] at hback
      have HB := Lib.hid hB
      have hneg : ¬ (0 : Int) ≤ (k : Int) - 1 - (k : Int) := by omega
      clear hB hb hmk
      go_wp2_with fail
      go_ret
      exact ⟨rfl, HB.out⟩

set_option maxHeartbeats 1000000 in
theorem rsum_any (s : ByteArray) (hs : s.size ≤ 65536) (w : World) : Calls Tryz.prog 15 #[.string s] w fun r w' => r = .returned (.int .u16 (sumB s : Int)) ∧ w = w' := by
  go_enter Tryz.func15, Tryz.ntmps15
  go_wp2_with fail
  go_loopw [3, 4] (fun v3 v4 wr => ∃ k n : Nat, k ≤ s.size ∧ v3 = .int .i64 (n : Int) ∧ v4 = .int .i64 (k : Int) ∧ n = ns false ((nats s).take k) ∧ wr = w) (fun _ v4 _ => s.size - (intOf v4).toNat)
  case atStart => exact ⟨0, 0, Nat.zero_le _, rfl, rfl, rfl, rfl⟩
  case round =>
    obtain ⟨k, n, hk, rfl, rfl, hn, rfl⟩ := hrel
    by_cases hlt : k < s.size
    · have hn0 := ns_take_le s k hk
      rw [← hn] at hn0
      have hsucc := ns_take_succ s k hlt
      rw [← hn] at hsucc
      have hb : (s[k]'hlt).toNat < 256 := (s.data[k]'hlt).toNat_lt
      have Hn := Lib.hid hn
      clear hn
      by_cases hp : k % 2 = 1
      · rw [if_pos hp] at hsucc
        have Hs := Lib.hid hsucc
        clear hsucc
        have hp2 : ¬ ((k : Int) % 2 = 0) := by omega
        go_wp2_with fail
        go_roundw
        case rel => exact ⟨k + 1, _, by omega, by go_num, by go_num, Hs.out.symm, (by first | rfl | trivial)⟩
        case measure => simp [intOf]; omega
      · rw [if_neg hp] at hsucc
        have Hs := Lib.hid hsucc
        clear hsucc
        have hp2 : ((k : Int) % 2 = 0) := by omega
        go_wp2_with fail
        go_roundw
        case rel => exact ⟨k + 1, _, by omega, by go_num, by go_num, Hs.out.symm, (by first | rfl | trivial)⟩
        case measure => simp [intOf]; omega
    · have hks : k = s.size := by omega
      subst hks
      have e : (nats s).take s.size = nats s := by rw [← nats_length, List.take_length]
      rw [e] at hn
      have hn0 := ns_le (nats s) false (nats_lt s)
      rw [nats_length, ← hn] at hn0
      have Hn := Lib.hid hn
      clear hn e
      go_wp2_with fail
      go_loopw [3] (fun v3 wx => ∃ m : Nat, m < 4294967296 ∧ v3 = .int .i64 (m : Int) ∧ fold m = fold (ns false (nats s)) ∧ wx = wr) (fun v3 _ => (intOf v3).toNat)
      case atStart => exact ⟨n, by omega, rfl, by rw [Hn.out], rfl⟩
      case round =>
        obtain ⟨m, hm, rfl, hf, rfl⟩ := hrel
        by_cases hsm : m < 65536
        · have Hf := Lib.hid hf
          have hres := sumB_of Hf.out hsm
          have Hres := Lib.hid hres
          clear hf hn0 hres
          go_wp2_with fail
          go_ret
          refine ⟨?_, rfl⟩
          rw [Hres.out]
          show Ending.returned (Value.int IntKind.u16 (65535 - (m : Int))) = _
          rw [show (65535 - (m : Int)) = ((65535 - m : Nat) : Int) by omega]
        · have Hf := Lib.hid hf
          clear hf hn0
          go_wp2_with fail
          go_roundw
          case rel =>
            refine ⟨m % 65536 + m / 65536, by omega, by go_num, ?_, (by first | rfl | trivial)⟩
            rw [fold_step (by omega)]
            exact Hf.out
          case measure => simp [intOf]; omega
end Go.Proofs.YtomndcjgdfhmbaaGreatDoor

/- Addresses and packets as data; which may be: the walks. -/
namespace Go.Proofs.YtomndcjgdfhmbaaGreatDoor
open Go.RowKit

theorem mayAddr_any (a : Ad) (ok : a.Ok) (w : World) : Calls Tryz.prog 37 #[.agg a.cells] w fun r w' => r = .returned (.bool a.may) ∧ Below w.heap.size w w' := by
  obtain ⟨v, h, l⟩ := a
  have h1 := ok.hi
  have h2 := ok.lo
  simp only at h1 h2
  unfold Ad.cells
  cases v with
  | true =>
    go_enter Tryz.func37, Tryz.ntmps37
    go_wp2_with fail
    go_ret
    exact ⟨by simp [Ad.may], (Below.refl _ _).alloc (Nat.le_refl _) _⟩
  | false =>
    by_cases hz : h = 0
    · subst hz
      by_cases hl : l < 4294967296
      · have hq : (l : Int) / 4294967296 = 0 := by omega
        go_enter Tryz.func37, Tryz.ntmps37
        go_wp2_with fail
        go_ret
        exact ⟨by simp [Ad.may, hl], (Below.refl _ _).alloc (Nat.le_refl _) _⟩
      · have hq : ¬ (l : Int) / 4294967296 = 0 := by omega
        go_enter Tryz.func37, Tryz.ntmps37
        go_wp2_with fail
        go_ret
        exact ⟨by simp [Ad.may, hl]; exact hq, (Below.refl _ _).alloc (Nat.le_refl _) _⟩
    · have hq : ¬ (h : Int) = 0 := by omega
      go_enter Tryz.func37, Tryz.ntmps37
      go_wp2_with fail
      go_ret
      exact ⟨by simp [Ad.may, hz], (Below.refl _ _).alloc (Nat.le_refl _) _⟩

theorem rmayAddr_any (a : Ad) (ok : a.Ok) (w : World) : Calls Tryz.prog 38 #[.agg a.cells] w fun r w' => r = .returned (.bool a.may) ∧ Below w.heap.size w w' := by
  obtain ⟨v, h, l⟩ := a
  have h1 := ok.hi
  have h2 := ok.lo
  simp only at h1 h2
  unfold Ad.cells
  cases v with
  | true =>
    go_enter Tryz.func38, Tryz.ntmps38
    go_wp2_with fail
    go_ret
    exact ⟨by simp [Ad.may], (Below.refl _ _).alloc (Nat.le_refl _) _⟩
  | false =>
    by_cases hz : h = 0
    · subst hz
      by_cases hl : l < 4294967296
      · have hq : (l : Int) < 4294967296 := by omega
        go_enter Tryz.func38, Tryz.ntmps38
        go_wp2_with fail
        go_ret
        exact ⟨by simp [Ad.may, hl], (Below.refl _ _).alloc (Nat.le_refl _) _⟩
      · have hq : ¬ (l : Int) < 4294967296 := by omega
        go_enter Tryz.func38, Tryz.ntmps38
        go_wp2_with fail
        go_ret
        exact ⟨by simp [Ad.may, hl], (Below.refl _ _).alloc (Nat.le_refl _) _⟩
    · have hq : ¬ (h : Int) = 0 := by omega
      go_enter Tryz.func38, Tryz.ntmps38
      go_wp2_with fail
      go_ret
      exact ⟨by simp [Ad.may, hz], (Below.refl _ _).alloc (Nat.le_refl _) _⟩

theorem bcell {W w1 : World} (hb : Below W.heap.size W w1) : (∀ b o, b < W.heap.size → w1.cell? ⟨b, o, none⟩ = W.cell? ⟨b, o, none⟩) ∧ (∀ b o, b < W.heap.size → w1.frozen? ⟨b, o, none⟩ = W.frozen? ⟨b, o, none⟩) :=
  ⟨fun b o h => hb.cell (p := ⟨b, o, none⟩) h, fun b o h => hb.frozen (p := ⟨b, o, none⟩) h⟩

theorem after {w w1 w2 : World} (h : Below w.heap.size w w1) (h2 : Below w1.heap.size w1 w2) : Below w.heap.size w w2 := h.trans (h2.mono h.size)
theorem boxed (w : World) (o : Obj) : Below w.heap.size w (w.alloc o) := (Below.refl _ _).alloc (Nat.le_refl _) o

def Got (v : Value) (w : World) (r : Ending) (w' : World) : Prop := r = .returned v ∧ Below w.heap.size w w'

set_option maxHeartbeats 4000000 in
theorem may_any_core (v v' A B : Bool) (h l h' l' pr tt : Nat) (s : ByteArray) (h1 : s.size ≤ 9223372036854770000) (w : World)
    (ha : ∀ w, Calls Tryz.prog 37 #[.agg #[.bool v, .int .u64 (h : Int), .int .u64 (l : Int)]] w fun r w' => r = .returned (.bool A) ∧ Below w.heap.size w w')
    (hb : ∀ w, Calls Tryz.prog 37 #[.agg #[.bool v', .int .u64 (h' : Int), .int .u64 (l' : Int)]] w fun r w' => r = .returned (.bool B) ∧ Below w.heap.size w w')
    (E : Nat) (hE : (if (!A || !B || (v != v')) = true then 2 else if (if v then 40 else 20) + s.size > 1500 then 4 else 0) = E) :
    Calls Tryz.prog 12 #[.agg #[.bool v, .int .u64 (h : Int), .int .u64 (l : Int), .bool v', .int .u64 (h' : Int), .int .u64 (l' : Int), .int .u8 (pr : Int), .int .u8 (tt : Int), .string s]] w (Got (.int .i64 (E : Int)) w) := by
  have Hsz : RowKit.Hid ((w.alloc (.cells #[.bool v, .int .u64 (h : Int), .int .u64 (l : Int), .bool v', .int .u64 (h' : Int), .int .u64 (l' : Int), .int .u8 (pr : Int), .int .u8 (tt : Int), .string s] 26)).heap.size = w.heap.size + 1) := Lib.hid (by simp)
  have Ha := Lib.hid ha
  have Hb := Lib.hid hb
  clear ha hb
  cases v <;> cases v' <;> cases A <;> cases B <;> simp at hE
  all_goals (try (split at hE))
  all_goals subst hE
  all_goals (

    go_enter Tryz.func12, Tryz.ntmps12
    go_wp2_with (go_at_call 37; first
      | (with_reducible refine (Ha.out _).mono ?_; rintro r w1 ⟨rfl, hb1⟩; have hc1 := (bcell hb1).1; have hz1 : w.heap.size < w1.heap.size := (by have := hb1.size; rw [Hsz.out] at this; omega))
      | (with_reducible refine (Hb.out _).mono ?_; rintro r w2 ⟨rfl, hb2⟩; have hc2 := (bcell hb2).1))
    go_ret
    first
      | exact ⟨rfl, after (after (boxed _ _) hb1) hb2⟩
      | exact ⟨rfl, after (boxed _ _) hb1⟩

)

theorem may_any (p : Pk) (ok : p.Ok) (w : World) : Calls Tryz.prog 12 #[.agg p.cells] w (Got (.int .i64 (p.mayE : Int)) w) := by
  have h1 := ok.data
  exact may_any_core p.a.v6 p.b.v6 p.a.may p.b.may p.a.hi p.a.lo p.b.hi p.b.lo p.proto p.ttl p.data (by omega) w (mayAddr_any p.a ok.a) (mayAddr_any p.b ok.b) _ rfl

set_option maxHeartbeats 4000000 in
theorem rmay_any_core (v v' A B : Bool) (h l h' l' pr tt : Nat) (s : ByteArray) (h1 : s.size ≤ 9223372036854770000) (w : World)
    (ha : ∀ w, Calls Tryz.prog 38 #[.agg #[.bool v, .int .u64 (h : Int), .int .u64 (l : Int)]] w fun r w' => r = .returned (.bool A) ∧ Below w.heap.size w w')
    (hb : ∀ w, Calls Tryz.prog 38 #[.agg #[.bool v', .int .u64 (h' : Int), .int .u64 (l' : Int)]] w fun r w' => r = .returned (.bool B) ∧ Below w.heap.size w w')
    (E : Nat) (hE : (if (!A || !B || (v != v')) = true then 2 else if (if v then 40 else 20) + s.size > 1500 then 4 else 0) = E) :
    Calls Tryz.prog 13 #[.agg #[.bool v, .int .u64 (h : Int), .int .u64 (l : Int), .bool v', .int .u64 (h' : Int), .int .u64 (l' : Int), .int .u8 (pr : Int), .int .u8 (tt : Int), .string s]] w (Got (.int .i64 (E : Int)) w) := by
  have Hsz : RowKit.Hid ((w.alloc (.cells #[.bool v, .int .u64 (h : Int), .int .u64 (l : Int), .bool v', .int .u64 (h' : Int), .int .u64 (l' : Int), .int .u8 (pr : Int), .int .u8 (tt : Int), .string s] 26)).heap.size = w.heap.size + 1) := Lib.hid (by simp)
  have Ha := Lib.hid ha
  have Hb := Lib.hid hb
  clear ha hb
  cases v <;> cases v' <;> cases A <;> cases B <;> simp at hE
  all_goals (try (split at hE))
  all_goals subst hE
  all_goals (

    go_enter Tryz.func13, Tryz.ntmps13
    go_wp2_with (go_at_call 38; first
      | (with_reducible refine (Ha.out _).mono ?_; rintro r w1 ⟨rfl, hb1⟩; have hc1 := (bcell hb1).1; have hz1 : w.heap.size < w1.heap.size := (by have := hb1.size; rw [Hsz.out] at this; omega))
      | (with_reducible refine (Hb.out _).mono ?_; rintro r w2 ⟨rfl, hb2⟩; have hc2 := (bcell hb2).1))
    go_ret
    first
      | exact ⟨rfl, after (after (boxed _ _) hb1) hb2⟩
      | exact ⟨rfl, after (boxed _ _) hb1⟩

)

theorem rmay_any (p : Pk) (ok : p.Ok) (w : World) : Calls Tryz.prog 13 #[.agg p.cells] w (Got (.int .i64 (p.mayE : Int)) w) := by
  have h1 := ok.data
  exact rmay_any_core p.a.v6 p.b.v6 p.a.may p.b.may p.a.hi p.a.lo p.b.hi p.b.lo p.proto p.ttl p.data (by omega) w (rmayAddr_any p.a ok.a) (rmayAddr_any p.b ok.b) _ rfl

end Go.Proofs.YtomndcjgdfhmbaaGreatDoor

/- Texts of addresses, the program's: numbers joined; an address of IPv4; the eight numbers of IPv6: the walks. -/
namespace Go.Proofs.YtomndcjgdfhmbaaGreatDoor
open Go.RowKit

theorem info_str : (Tryz.prog.info? 9).map (fun i => (i.zero, i.size, i.bytes)) = some (some (.string ByteArray.empty), 1, 16) := by kernel_rfl
theorem own_below {w w' : World} {base size n : Nat} {e : TypeId} {v : Value} {xs : List Value} (h : w.ownsRow base e size v n xs) (hb : Below w.heap.size w w') : w'.ownsRow base e size v n xs :=
  h.kept (row := none) ⟨hb.os, hb.tape, hb.output, hb.size, fun k hk _ => hb.block k hk⟩ (by
    cases hv : v.ownBlock with
    | none => exact Or.inl rfl
    | some k => exact Or.inr (by simp))
/- The texts that are owned. -/
def strs (L : List (List UInt8)) : List ByteArray := L.map fun l => ⟨l.toArray⟩
theorem strs_lists (L : List (List UInt8)) : (strs L).map (·.data.toList) = L := by
  unfold strs
  rw [List.map_map]
  conv => rhs; rw [← List.map_id L]
  exact List.map_congr_left fun l _ => by simp
theorem own_form {w : World} {base n : Nat} {e : TypeId} {v : Value} {xs : List Value} (h : w.ownsRow base e 1 v (n + 1) xs) : ∃ g cap, v = .slice (some ⟨g, 0, none⟩) (n + 1) cap := by
  rcases h.2 with ⟨_, h⟩ | ⟨g, cap, _, h, _⟩
  · omega
  · exact ⟨g, cap, h⟩
/- strings.Join of what is owned. -/
theorem join_own {w : World} {base : Nat} {v : Value} {L : List (List UInt8)} (c : UInt8) (h : w.ownsRow base 9 1 v L.length ((strs L).map Value.string)) (hl : L.length ≤ 1000) (hj : (Lib.join L [c]).length ≤ 1000000) : Calls Tryz.prog 47 #[v, .string ⟨#[c]⟩] w fun r w' => r = .returned (.string ⟨(Lib.join L [c]).toArray⟩) ∧ Below w.heap.size w w' := by
  have hl2 : (strs L).length = L.length := by simp [strs]
  rcases h.2 with ⟨rfl, hn⟩ | ⟨g, cap, cur, rfl, hg, hh, hcap, _, hsz, htake⟩
  · have : L = [] := List.eq_nil_of_length_eq_zero hn
    subst this
    exact (Tryz.strings_Join_none none 0 ⟨#[c]⟩ w).mono fun r w' hq => ⟨hq.1.trans rfl, by obtain ⟨_, hb⟩ := hq; first | exact hb | (subst hb; exact Below.refl _ _)⟩
  · have hcell := fun j hj => h.cellAt (g := g) (cap := cap) j hj
    have := Tryz.strings_Join g 0 cap (strs L) ⟨#[c]⟩ w (fun j x hx => by
      have hj : j < (strs L).length := (List.getElem?_eq_some_iff.1 hx).1
      rw [Nat.zero_add]
      refine (hcell j (by omega)).trans ?_
      rw [List.getElem?_map, hx]
      rfl) (h.lt g rfl).2 (by omega) (by omega) (by rw [strs_lists]; simpa using (show (Lib.join L [c]).length ≤ 140737488355328 by omega))
    rw [hl2, strs_lists] at this
    exact this
end Go.Proofs.YtomndcjgdfhmbaaGreatDoor

/- Texts of addresses, the program's: numbers joined: the walk. -/
namespace Go.Proofs.YtomndcjgdfhmbaaGreatDoor
open Go.RowKit

def hexs (L : List Nat) : List (List UInt8) := L.map hexL
theorem hexs_take {L : List Nat} {k : Nat} (hk : k < L.length) : hexs (L.take (k + 1)) = hexs (L.take k) ++ [hexL (L.getD k 0)] := by
  unfold hexs
  rw [List.take_succ_eq_append_getElem hk, List.map_append, List.getD_eq_getElem?_getD, List.getElem?_eq_getElem hk]
  rfl
theorem strs_snoc (L : List (List UInt8)) (x : List UInt8) : (strs (L ++ [x])).map Value.string = (strs L).map Value.string ++ [.string ⟨x.toArray⟩] := by
  unfold strs
  simp
theorem hexs_len (L : List Nat) (k : Nat) (hk : k ≤ L.length) : (hexs (L.take k)).length = k := by
  unfold hexs
  rw [List.length_map, List.length_take]
  omega
theorem joinH_len8 {L : List Nat} (h : ∀ x ∈ L, x < 65536) (hl : L.length ≤ 8) : (joinH L).length ≤ 40 := by
  have := joinH_len L h
  omega

set_option maxHeartbeats 1000000 in
theorem tjoin_any {w : World} (env : Env w) (g o c : Nat) (L : List Nat) (hL : ∀ x ∈ L, x < 65536) (hl : L.length ≤ 8) (hg : g < w.heap.size) (hc : ∀ j, j < L.length → w.cell? ⟨g, o + j, none⟩ = some (.int .u16 (L.getD j 0 : Int))) : Calls Tryz.prog 49 #[.slice (some ⟨g, o, none⟩) L.length c] w (Got (.string ⟨(joinH L).toArray⟩) w) := by
  obtain ⟨i0, hi, hz0, hz1, hz2⟩ := info_parts info_str
  have Henv := Lib.hid env
  have Hc := Lib.hid hc
  have HL := Lib.hid hL
  clear env hc hL
  obtain ⟨n, hn⟩ : ∃ n, n = L.length := ⟨_, rfl⟩
  rw [← hn] at hl ⊢
  have Hn := Lib.hid hn
  clear hn
  go_enter Tryz.func49, Tryz.ntmps49
  go_wp2_with fail
  go_loopw [3, 8] (fun v i wr => ∃ k : Nat, k ≤ n ∧ i = .int .i64 (k : Int) ∧ RowKit.Hid (wr.ownsRow w.heap.size 9 1 v k ((strs (hexs (L.take k))).map Value.string)) ∧ RowKit.Hid (Below w.heap.size w wr)) (fun _ i _ => n - (intOf i).toNat)
  case atStart => exact ⟨0, Nat.zero_le _, rfl, Lib.hid (World.ownsRow_nil _ _ _ _), Lib.hid (Below.refl _ _)⟩
  case round =>
    obtain ⟨k, hk, rfl, hown, hb⟩ := hrel
    by_cases hlt : k < n
    · have hkl : k < L.length := by have := Hn.out; omega
      have cx := (hb.out.cell (p := ⟨g, o + k, none⟩) hg).trans (Hc.out k hkl)
      have hx : L.getD k 0 < 65536 := by
        rw [List.getD_eq_getElem?_getD, List.getElem?_eq_getElem hkl]
        exact HL.out _ (List.getElem_mem hkl)
      have hs := hexs_take hkl
      have hq : (strs (hexs (L.take (k + 1)))).map Value.string = (strs (hexs (L.take k))).map Value.string ++ [.string ⟨(hexL (L.getD k 0)).toArray⟩] := by rw [hs, strs_snoc]
      have Hq := Lib.hid hq
      clear hs hq
      generalize L.getD k 0 = X at cx hx Hq
      have HF := Lib.hid (fmt16 (w := wr) X hx (Henv.out.below hb.out).db)
      go_wp2_with (first
        | (go_at_call 50; (with_reducible refine HF.out.mono ?_); rintro r w2 ⟨rfl, g2⟩; have ho2 := Lib.hid (own_below hown.out g2); have hb2 := Lib.hid (after hb.out g2); clear g2)
        | (at_builtin; refine wpList_append_own _ rfl _ _ 68 rfl w.heap.size 9 i0 (.string ByteArray.empty) 1 16 Tryz.underlying68 hi hz0 hz1 hz2 rfl (by decide) _ k _ rfl (ho2.out.alloc _) ⟨w2.heap.size, 0, none⟩ 1 1 [.string ⟨(hexL X).toArray⟩] rfl rfl (cell_one_new _ _ _) (fun x hx => by simp at hx; subst hx; rfl) (by unfold maxLen; omega) (by omega) (by have := hb2.out.size; simp; omega) ?_; intro v' w3 hown' hgrow3 hnil3; have Ho3 := Lib.hid hown'; have hb3 := Lib.hid ((hb2.out.alloc (hb2.out.size) _).grown hgrow3 (by have := hb2.out.size; simp; omega) (fun q hq => (ho2.out.lt q hq).1)); clear hown' hgrow3 hnil3))
      go_roundw
      case rel => exact ⟨k + 1, by omega, by go_num, Lib.hid (by rw [Hq.out]; exact Ho3.out), hb3⟩
      case measure => simp [intOf]; omega
    · obtain rfl : k = n := by omega
      have hown := hown.out
      rw [show L.take k = L by rw [Hn.out, List.take_length]] at hown
      have hlen : (hexs L).length = k := by rw [Hn.out]; simp [hexs]
      rw [← hlen] at hown
      have HJ := Lib.hid (join_own (w := wr) 58 hown (by omega) (by have := joinH_len8 HL.out (by have := Hn.out; omega); exact Nat.le_trans this (by decide)))
      clear hown hlen
      go_wp2_with (go_at_call 47; (with_reducible refine HJ.out.mono ?_); rintro r w2 ⟨rfl, g2⟩; have hb2 := Lib.hid (after hb.out g2); clear g2)
      go_ret
      exact ⟨rfl, hb2.out⟩
end Go.Proofs.YtomndcjgdfhmbaaGreatDoor
