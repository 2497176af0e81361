/- Arrays of four of the program's own types: parts, and equal. -/
import Derived.Test.YtkghkkfcgegmeaaH1
import Derived.Test.YtkghkkfcgegmeaaArr
import Derived.Deep.LoopGhost
namespace Go.Proofs.Ytkghkkfcgegmeaa
open Go.RowKit Fl
set_option linter.unusedVariables false
set_option linter.unusedSimpArgs false

/-- a complex number by its bits. -/
def cx (a b : Nat) : Value := .complex .f64 a b
theorem partC0 (a b c d : Value) (w : World) : (part 24 #[a, b, c, d] 0).run Try.prog w = .ok a w := by kernel_rfl
theorem partC1 (a b c d : Value) (w : World) : (part 24 #[a, b, c, d] 1).run Try.prog w = .ok b w := by kernel_rfl
theorem partC2 (a b c d : Value) (w : World) : (part 24 #[a, b, c, d] 2).run Try.prog w = .ok c w := by kernel_rfl
theorem partC3 (a b c d : Value) (w : World) : (part 24 #[a, b, c, d] 3).run Try.prog w = .ok d w := by kernel_rfl
theorem partI0 (a b c d : Value) (w : World) : (part 3 #[a, b, c, d] 0).run Try.prog w = .ok a w := by kernel_rfl
theorem partI1 (a b c d : Value) (w : World) : (part 3 #[a, b, c, d] 1).run Try.prog w = .ok b w := by kernel_rfl
theorem partI2 (a b c d : Value) (w : World) : (part 3 #[a, b, c, d] 2).run Try.prog w = .ok c w := by kernel_rfl
theorem partI3 (a b c d : Value) (w : World) : (part 3 #[a, b, c, d] 3).run Try.prog w = .ok d w := by kernel_rfl

theorem eqc (d : Nat) (a b a' b' : Nat) (w : World) : (Op.equalIn (d + 1) 24 (.complex .f64 a b) (.complex .f64 a' b')).run Try.prog w = .ok (Op.floatEq .f64 a a' && Op.floatEq .f64 b b') w := by
  simp [Op.equalIn, run_underlying Try.underlying24]
theorem eqi (d : Nat) (a b : Int) (w : World) : (Op.equalIn (d + 1) 3 (.int .i64 a) (.int .i64 b)).run Try.prog w = .ok (a == b) w := by
  simp [Op.equalIn, run_underlying Try.underlying3]
theorem eqC4 (a0 b0 a1 b1 a2 b2 a3 b3 c0 d0 c1 d1 c2 d2 c3 d3 : Nat) (w : World) :
    (Op.equalIn 10000 48 (.agg #[.complex .f64 a0 b0, .complex .f64 a1 b1, .complex .f64 a2 b2, .complex .f64 a3 b3]) (.agg #[.complex .f64 c0 d0, .complex .f64 c1 d1, .complex .f64 c2 d2, .complex .f64 c3 d3])).run Try.prog w =
      .ok ((Op.floatEq .f64 a0 c0 && Op.floatEq .f64 b0 d0) && (Op.floatEq .f64 a1 c1 && Op.floatEq .f64 b1 d1) && (Op.floatEq .f64 a2 c2 && Op.floatEq .f64 b2 d2) && (Op.floatEq .f64 a3 c3 && Op.floatEq .f64 b3 d3)) w :=
  equalIn_arr4 9999 Try.underlying48 (fun _ => by kernel_rfl) partC0 partC1 partC2 partC3 (eqc 9998 _ _ _ _) (eqc 9998 _ _ _ _) (eqc 9998 _ _ _ _) (eqc 9998 _ _ _ _) w
theorem eqI4 (a0 a1 a2 a3 c0 c1 c2 c3 : Int) (w : World) :
    (Op.equalIn 10000 50 (.agg #[.int .i64 a0, .int .i64 a1, .int .i64 a2, .int .i64 a3]) (.agg #[.int .i64 c0, .int .i64 c1, .int .i64 c2, .int .i64 c3])).run Try.prog w =
      .ok ((a0 == c0) && (a1 == c1) && (a2 == c2) && (a3 == c3)) w :=
  equalIn_arr4 9999 Try.underlying50 (fun _ => by kernel_rfl) partI0 partI1 partI2 partI3 (eqi 9998 _ _) (eqi 9998 _ _) (eqi 9998 _ _) (eqi 9998 _ _) w
theorem ixC (x0 x1 x2 x3 : Value) (w : World) : (Instr.index 48 (.agg #[x0, x1, x2, x3]) (.int .i64 0)).run Try.prog w = .ok x0 w ∧ (Instr.index 48 (.agg #[x0, x1, x2, x3]) (.int .i64 1)).run Try.prog w = .ok x1 w ∧ (Instr.index 48 (.agg #[x0, x1, x2, x3]) (.int .i64 2)).run Try.prog w = .ok x2 w ∧ (Instr.index 48 (.agg #[x0, x1, x2, x3]) (.int .i64 3)).run Try.prog w = .ok x3 w :=
  ⟨by kernel_rfl, by kernel_rfl, by kernel_rfl, by kernel_rfl⟩
end Go.Proofs.Ytkghkkfcgegmeaa
