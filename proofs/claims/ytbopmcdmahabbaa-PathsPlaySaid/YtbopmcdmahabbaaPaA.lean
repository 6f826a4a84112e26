/- Endpoints and paths as data; two endpoints compared; the search for a path. -/
import Derived.Test.YtbopmcdmahabbaaRows
import Derived.Test.YtbopmcdmahabbaaW
import Derived.BigQuiet
import Derived.Deep.QuietTactic
import Derived.Deep.AppendLies
import Derived.Maps.AppendAt
namespace Go.Proofs.Ytbopmcdmahabbaa
open Go.RowKit

structure End where
  v6 : Bool
  hi : Nat
  lo : Nat
  port : Nat

def End.eqb (a b : End) : Bool := a.v6 == b.v6 && (a.hi == b.hi && (a.lo == b.lo && a.port == b.port))

theorem End.eqb_iff {a b : End} : a.eqb b = true ↔ a = b := by
  cases a
  cases b
  simp [End.eqb]

def End.cells (e : End) : Array Value := #[.bool e.v6, .int .u64 (e.hi : Int), .int .u64 (e.lo : Int), .int .u16 (e.port : Int)]

structure Pth where
  e : End
  x : Nat
  y : Nat
  heard : Bool
  last : Nat
  lost : Int

def Pth.cells (p : Pth) : Array Value := #[.bool p.e.v6, .int .u64 (p.e.hi : Int), .int .u64 (p.e.lo : Int), .int .u16 (p.e.port : Int), .complex .f64 p.x p.y, .bool p.heard, .int .u64 (p.last : Int), .int .i64 p.lost]

theorem bool_beq_eqb (a b : Bool) : (a == b) = decide (a = b) := by cases a <;> cases b <;> rfl

theorem ncast_beq (a b : Nat) : ((a : Int) == (b : Int)) = (a == b) := by
  rw [Bool.eq_iff_iff, beq_iff_eq, beq_iff_eq]
  omega

theorem eq32 (u v p q : Nat) (r s : Bool) (d : Nat) (w : World) : (Op.equalIn (d + 3) 32 (.agg #[.bool r, .int .u64 (u : Int), .int .u64 (v : Int)]) (.agg #[.bool s, .int .u64 (p : Int), .int .u64 (q : Int)])).run Try.prog w = .ok (r == s && (u == p && v == q)) w := by
  have h32 : Try.prog.stoodInHeld 32 = false := by kernel_rfl
  rw [run_equalIn_struct w (d + 2) 32 _ _ (by kernel_rfl) h32]
  simp [go_sem, Try.underlying32, Try.underlying4, Try.underlying22, part, Op.equalIn]
  by_cases h1 : r = s
  · by_cases h2 : u = p
    · by_cases h3 : v = q
      · subst h1 h2 h3; simp
      · have h4 : ¬ (v : Int) = (q : Int) := by omega
        subst h1 h2; simp [h3, h4]
    · have h4 : ¬ (u : Int) = (p : Int) := by omega
      subst h1; simp [h2, h4]
  · simp [h1]

set_option maxRecDepth 4000 in
theorem eq35d (a b : End) (d : Nat) (w : World) : (Op.equalIn (d + 4) 35 (.agg #[.bool a.v6, .int .u64 (a.hi : Int), .int .u64 (a.lo : Int), .int .u16 (a.port : Int)]) (.agg #[.bool b.v6, .int .u64 (b.hi : Int), .int .u64 (b.lo : Int), .int .u16 (b.port : Int)])).run Try.prog w = .ok (a.eqb b) w := by
  have h35 : Try.prog.stoodInHeld 35 = false := by kernel_rfl
  have e32 := fun u v p q r s => eq32 u v p q r s d w
  have e33 : ∀ m n : Nat, (Op.equalIn (d + 3) 33 (.int .u16 (m : Int)) (.int .u16 (n : Int))).run Try.prog w = .ok (m == n) w := by
    intro m n
    simp [go_sem, Try.underlying33, Op.equalIn]
    rw [ncast_beq]
  rw [run_equalIn_struct w (d + 3) 35 _ _ (by kernel_rfl) h35]
  simp [go_sem, Try.underlying35, part, e32, e33]
  have c : ∀ x y : Nat, ((x : Int) = (y : Int)) = (x = y) := fun x y => propext (by omega)
  simp only [c]
  unfold End.eqb
  by_cases h1 : a.v6 = b.v6
  · by_cases h2 : a.hi = b.hi
    · by_cases h3 : a.lo = b.lo
      · by_cases h4 : a.port = b.port
        · simp [h1, h2, h3, h4]
        · simp [h1, h2, h3, h4]
      · simp [h1, h2, h3]
    · simp [h1, h2]
  · simp [h1]

theorem eq35 (a b : End) (w : World) : (binOp .eql 35 (.agg #[.bool a.v6, .int .u64 (a.hi : Int), .int .u64 (a.lo : Int), .int .u16 (a.port : Int)]) (.agg #[.bool b.v6, .int .u64 (b.hi : Int), .int .u64 (b.lo : Int), .int .u16 (b.port : Int)])).run Try.prog w = .ok (.bool (a.eqb b)) w := by
  simp only [binOp]
  simp [Op.equal, Op.maxDepth, eq35d a b 9996]

theorem neq35 (a b : End) (w : World) : (binOp .neq 35 (.agg #[.bool a.v6, .int .u64 (a.hi : Int), .int .u64 (a.lo : Int), .int .u16 (a.port : Int)]) (.agg #[.bool b.v6, .int .u64 (b.hi : Int), .int .u64 (b.lo : Int), .int .u16 (b.port : Int)])).run Try.prog w = .ok (.bool (!a.eqb b)) w := by
  simp only [binOp]
  simp [Op.equal, Op.maxDepth, eq35d a b 9996]

end Go.Proofs.Ytbopmcdmahabbaa
