/- Floats and complex numbers, as the run reckons them where nothing is no number. -/
import Derived.Test.YtbopmcdmahabbaaPaI
import Derived.Laws.Entries
namespace Go.Proofs.Ytbopmcdmahabbaa
open Go.RowKit

theorem run_store_float (P : Program) (w : World) (a : Addr) (m : Mode) (k : FloatKind) (b : Nat) : (store a (.float k b) m).run P w = stored P w a (.float k b) m := run_store P w a _ m rfl
theorem run_store_complex (P : Program) (w : World) (a : Addr) (m : Mode) (k : FloatKind) (x y : Nat) : (store a (.complex k x y) m).run P w = stored P w a (.complex k x y) m := run_store P w a _ m rfl

abbrev F := FloatKind.f64.format

section
variable {P : Program} {a b c d e f r : Nat} (w : World)
theorem run_fadd (t : TypeId) (h : F.add a b = some r) : (binOp .add t (.float .f64 a) (.float .f64 b)).run P w = .ok (.float .f64 r) w := by
  simp [binOp, Op.floatArith, h]
theorem run_fsub (t : TypeId) (h : F.sub a b = some r) : (binOp .sub t (.float .f64 a) (.float .f64 b)).run P w = .ok (.float .f64 r) w := by
  simp [binOp, Op.floatArith, h]
theorem run_fmul (t : TypeId) (h : F.mul a b = some r) : (binOp .mul t (.float .f64 a) (.float .f64 b)).run P w = .ok (.float .f64 r) w := by
  simp [binOp, Op.floatArith, h]
theorem run_fquo (t : TypeId) (h : F.div a b = some r) : (binOp .quo t (.float .f64 a) (.float .f64 b)).run P w = .ok (.float .f64 r) w := by
  simp [binOp, Op.floatArith, h]
theorem run_cadd (t : TypeId) (h1 : F.add a c = some e) (h2 : F.add b d = some f) : (binOp .add t (.complex .f64 a b) (.complex .f64 c d)).run P w = .ok (.complex .f64 e f) w := by
  simp [binOp, Op.complexOp, Op.Complex.arith, Op.floatArith, h1, h2]
theorem run_csub (t : TypeId) (h1 : F.sub a c = some e) (h2 : F.sub b d = some f) : (binOp .sub t (.complex .f64 a b) (.complex .f64 c d)).run P w = .ok (.complex .f64 e f) w := by
  simp [binOp, Op.complexOp, Op.Complex.arith, Op.floatArith, h1, h2]
theorem run_cmul (t : TypeId) {m1 m2 m3 m4 : Nat} (h1 : F.mul a c = some m1) (h2 : F.mul b d = some m2) (h3 : F.sub m1 m2 = some e) (h4 : F.mul a d = some m3) (h5 : F.mul b c = some m4) (h6 : F.add m3 m4 = some f) :
    (binOp .mul t (.complex .f64 a b) (.complex .f64 c d)).run P w = .ok (.complex .f64 e f) w := by
  simp [binOp, Op.complexOp, Op.Complex.product, Op.Complex.mul, Op.Complex.sub, Op.Complex.add, Op.Complex.conv, Op.Complex.arith, Op.floatArith, h1, h2, h3, h4, h5, h6]
end

/- 0.125, 4 and 8. -/
abbrev c125 : Nat := 4593671619917905920
abbrev c4 : Nat := 4616189618054758400
abbrev c8 : Nat := 4620693217682128896

/- What an answer makes of a quality x, y: none of it is no number. -/
structure Ewma (r x y x' y' : Nat) : Prop where
  out : ∃ d qi m1 m2 m3 m4 e f, F.sub r x = some d ∧ d < 18446744073709551616 ∧ F.sub (fabs d) y = some qi ∧ F.mul d c125 = some m1 ∧ F.mul qi 0 = some m2 ∧ F.sub m1 m2 = some e ∧ F.mul d 0 = some m3 ∧ F.mul qi c125 = some m4 ∧ F.add m3 m4 = some f ∧
    F.add x e = some x' ∧ F.add y f = some y'

end Go.Proofs.Ytbopmcdmahabbaa
