/- What the statements make: endpoints, txs; the answers of no table. -/
import Derived.Test.YtbopmcdmahabbaaPaN
import Derived.Laws.BytesArg
namespace Go.Proofs.Ytbopmcdmahabbaa
open Go.RowKit

def endOf (c : Nat) : End := ⟨false, 0, 167772160 + c / 16, c % 16⟩

theorem or_end (k : Nat) (h : k < 16) : bits .or .u64 167772160 (k : Int) = ((167772160 + k : Nat) : Int) := by
  have h1 := bits_or_u64_nat 167772160 k (by omega) (by omega)
  rw [show ((167772160 : Nat) : Int) = 167772160 from rfl] at h1
  rw [h1]
  congr 1
  have : ∀ j, j < 16 → 167772160 ||| j = 167772160 + j := by decide
  exact this k h

set_option maxHeartbeats 1000000 in
theorem end_any (c : Nat) (hc : c < 256) (w : World) : Calls Try.prog 10 #[.int .u8 (c : Int)] w fun r w' => r = .returned (.agg (endOf c).cells) ∧ Below w.heap.size w w' := by
  have h1 := or_end (c / 16) (by omega)
  rw [show ((c / 16 : Nat) : Int) = (c : Int) / 16 from by omega] at h1
  have e1 : Value.agg (endOf c).cells = .agg #[.bool false, .int .u64 0, .int .u64 ((167772160 + c / 16 : Nat) : Int), .int .u16 ((c : Int) % 16)] := by
    simp [endOf, End.cells]
  have E1 := Lib.hid e1
  have h2 : ((167772160 + c / 16 : Nat) : Int) = 167772160 + (c : Int) / 16 := by omega
  rw [h2] at h1 e1
  clear e1
  go_enter Try.func10, Try.ntmps10
  go_wp2
  refine bodyPost_ret (v := .agg #[.bool false, .int .u64 0, .int .u64 (167772160 + (c : Int) / 16), .int .u16 ((c : Int) % 16)]) (by simp [results, Try.results10, go_sem]) rfl ⟨by rw [E1.out, h2], (Below.refl _ _).alloc (Nat.le_refl _) _⟩

def txOf (c : Nat) : ByteArray := strOfNums [0, 0, 0, 0, 0, 0, 0, 0, 0, 0, 0, 0, 0, 0, 0] ++ strOfNums [(c : Int)]

def zero15 : Array Value := #[.int .u8 0, .int .u8 0, .int .u8 0, .int .u8 0, .int .u8 0, .int .u8 0, .int .u8 0, .int .u8 0, .int .u8 0, .int .u8 0, .int .u8 0, .int .u8 0, .int .u8 0, .int .u8 0, .int .u8 0]

theorem conv15 (W : World) (B : Nat) (h : Blk W B 5 zero15) : (convert 76 9 (.slice (some ⟨B, 0, none⟩) 15 15)).run Try.prog W = .ok (.string (strOfNums [0, 0, 0, 0, 0, 0, 0, 0, 0, 0, 0, 0, 0, 0, 0])) W := by
  refine run_convert_bytes_arg W 76 5 Try.underlying76 Try.underlying5 B 0 15 15 [0, 0, 0, 0, 0, 0, 0, 0, 0, 0, 0, 0, 0, 0, 0] rfl (fun i hi => ?_) 9 Try.underlying9
  rw [Nat.zero_add, h.cell i]
  have : ∀ i, i < 15 → zero15[i]? = some (.int .u8 (([0, 0, 0, 0, 0, 0, 0, 0, 0, 0, 0, 0, 0, 0, 0] : List Int).getD i 0)) := by
    intro i hi
    match i, hi with
    | 0, _ => rfl | 1, _ => rfl | 2, _ => rfl | 3, _ => rfl | 4, _ => rfl | 5, _ => rfl | 6, _ => rfl | 7, _ => rfl | 8, _ => rfl | 9, _ => rfl | 10, _ => rfl | 11, _ => rfl | 12, _ => rfl | 13, _ => rfl | 14, _ => rfl
  exact this i hi

theorem conv1 (c : Int) (W : World) (B : Nat) (h : Blk W B 5 #[.int .u8 c]) : (convert 76 9 (.slice (some ⟨B, 0, none⟩) 1 1)).run Try.prog W = .ok (.string (strOfNums [c])) W := by
  refine run_convert_bytes_arg W 76 5 Try.underlying76 Try.underlying5 B 0 1 1 [c] rfl (fun i hi => ?_) 9 Try.underlying9
  obtain rfl : i = 0 := by omega
  rw [Nat.zero_add, h.cell 0]
  rfl

set_option maxHeartbeats 1000000 in
theorem tx_any (c : Nat) (w : World) : Calls Try.prog 12 #[.int .u8 (c : Int)] w fun r w' => r = .returned (.string (txOf c)) ∧ Below w.heap.size w w' := by
  have hmk : ∀ w : World, (Instr.makeSlice 76 (.int .i64 15) (.int .i64 15)).run Try.prog w = .ok (.slice (some ⟨w.heap.size, 0, none⟩) 15 15) (w.alloc (.cells zero15 5)) := fun w => by kernel_rfl
  have a1 := conv15 (w.alloc (.cells zero15 5)).drew w.heap.size (Blk.new w 5 _)
  have a2 := conv15 ((w.alloc (.cells zero15 5)).alloc (.cells #[.int .u8 (c : Int)] 5)).drew w.heap.size ((Blk.new w 5 _).alloc _)
  have a3 := conv15 ((w.alloc (.cells #[.int .u8 (c : Int)] 5)).alloc (.cells zero15 5)).drew (w.heap.size + 1) (by have := Blk.new (w.alloc (.cells #[.int .u8 (c : Int)] 5)) 5 zero15; rw [World.size_alloc] at this; exact this)
  have a4 := conv1 c (w.alloc (.cells #[.int .u8 (c : Int)] 5)).drew w.heap.size (Blk.new w 5 _)
  have a5 := conv1 c ((w.alloc (.cells #[.int .u8 (c : Int)] 5)).alloc (.cells zero15 5)).drew w.heap.size ((Blk.new w 5 _).alloc _)
  have a6 := conv1 c ((w.alloc (.cells zero15 5)).alloc (.cells #[.int .u8 (c : Int)] 5)).drew (w.heap.size + 1) (by have := Blk.new (w.alloc (.cells zero15 5)) 5 #[.int .u8 (c : Int)]; rw [World.size_alloc] at this; exact this)
  have e15 : (strOfNums [0, 0, 0, 0, 0, 0, 0, 0, 0, 0, 0, 0, 0, 0, 0]).size = 15 := rfl
  have e1 : (strOfNums [(c : Int)]).size = 1 := rfl
  have ht : ∀ r, r = strOfNums [0, 0, 0, 0, 0, 0, 0, 0, 0, 0, 0, 0, 0, 0, 0] ++ strOfNums [(c : Int)] → Ending.returned (.string r) = .returned (.string (txOf c)) := fun r h => by rw [h]; rfl
  have Ht := Lib.hid ht
  clear ht
  go_enter Try.func12, Try.ntmps12
  go_wp2
  go_region
  all_goals go_wp2_with fail
  all_goals go_ret
  all_goals
    refine ⟨Ht.out _ rfl, ?_⟩
    have hb : Below w.heap.size w ((w.alloc (.cells zero15 5)).alloc (.cells #[.int .u8 (c : Int)] 5)) := ((Below.refl _ _).alloc (Nat.le_refl _) _).alloc (by simp) _
    have hb2 : Below w.heap.size w ((w.alloc (.cells #[.int .u8 (c : Int)] 5)).alloc (.cells zero15 5)) := ((Below.refl _ _).alloc (Nat.le_refl _) _).alloc (by simp) _
    first
      | exact hb.drew
      | exact hb2.drew

end Go.Proofs.Ytbopmcdmahabbaa
