/- Walks of layer 34 (phase): whole floats, numbers without noughts below 0, the phases of four sums. -/
import Derived.Test.YtkghkkfcgegmeaaW2
import Derived.Test.YtkghkkfcgegmeaaKept
import Derived.Deep.QuietTactic
import Derived.BigQuiet
namespace Go.Proofs.Ytkghkkfcgegmeaa
open Go.RowKit Fl
set_option linter.unusedVariables false
set_option linter.unusedSimpArgs false
@[local go_sem] theorem unary_neg_float1 (k : FloatKind) (b : Nat) : Op.unary .neg (.float k b) = pure (.float k (Op.negFloat k b)) := rfl

theorem F45n : (14033216438886465536 : Nat) = F (-35184372088832) := by decide +kernel
theorem F45 : (4809844402031689728 : Nat) = F 35184372088832 := by decide +kernel
def wh45 (x : Nat) : Bool := wh 35184372088832 x
theorem wh45_eq (x : Nat) : wh45 x = ((FloatKind.f64.format.order x 14033216438886465536 == some .gt || FloatKind.f64.format.order x 14033216438886465536 == some .eq) && (FloatKind.f64.format.order x 4809844402031689728 == some .lt || FloatKind.f64.format.order x 4809844402031689728 == some .eq) && (FloatKind.f64.format.order (floatOfInt .f64 (tr x)) x == some .eq)) := by
  rw [F45n, F45]; rfl

set_option maxRecDepth 100000 in
theorem pwhole (x : Nat) (w : World) :
    Calls Try.prog 63 #[.float .f64 x] w fun e w' => e = .returned (.bool (wh45 x)) ∧ w = w' := by
  by_cases h1 : (FloatKind.f64.format.order x 14033216438886465536 = some .gt ∨ FloatKind.f64.format.order x 14033216438886465536 = some .eq)
  · by_cases h2 : (FloatKind.f64.format.order x 4809844402031689728 = some .lt ∨ FloatKind.f64.format.order x 4809844402031689728 = some .eq)
    · have hc : ∀ w, (convert 36 3 (.float .f64 x)).run Try.prog w = .ok (.int .i64 (tr x)) w := fun w => run_convert_float_int w _ _ .f64 .i64 x (tr x) (by rw [Try.underlying36]; rfl) Try.underlying3 (conv_of (M := 35184372088832) (by decide) (by have h := h1; rw [F45n] at h; exact ge_of h) (by have h := h2; rw [F45] at h; exact le_of h))
      go_enter Try.func63, Try.ntmps63
      go_wp2
      go_ret
      exact ⟨ret_bool (by rw [wh45_eq]), rfl⟩
    · go_enter Try.func63, Try.ntmps63
      go_wp2
      go_ret
      exact ⟨ret_bool (by rw [wh45_eq]; simp [h2]), rfl⟩
  · go_enter Try.func63, Try.ntmps63
    go_wp2
    go_ret
    exact ⟨ret_bool (by rw [wh45_eq]; simp [h1]), rfl⟩

set_option maxRecDepth 100000 in
theorem pplain (a b r s : Nat) (w : World) (h1 : floatBits .add .f64 a 0 = some r) (h2 : floatBits .add .f64 b 0 = some s) :
    Calls Try.prog 67 #[.complex .f64 a b] w fun e w' => e = .returned (.complex .f64 r s) ∧ w = w' := by
  have c1 := fun t w => run_float_arith (P := Try.prog) w .add t .f64 a 0 r h1
  have c2 := fun t w => run_float_arith (P := Try.prog) w .add t .f64 b 0 s h2
  go_enter Try.func67, Try.ntmps67
  go_wp2
  go_ret
  exact ⟨rfl, rfl⟩

/-- the phases of four sums. -/
def phB (q0 q1 q2 q3 : Int) : Array Value := #[.complex .f64 (F (q0 + q2 + (q1 + q3))) 0, .complex .f64 (F (q0 - q2)) (F (q1 - q3)), .complex .f64 (F (q0 + q2 - (q1 + q3))) 0, .complex .f64 (F (q0 - q2)) (F (-(q1 - q3)))]

set_option maxRecDepth 100000 in
theorem pphases (q0 q1 q2 q3 : Int) (w : World) (h0 : q0.natAbs ≤ 2 ^ 46) (h1 : q1.natAbs ≤ 2 ^ 46) (h2 : q2.natAbs ≤ 2 ^ 46) (h3 : q3.natAbs ≤ 2 ^ 46) :
    Calls Try.prog 64 #[.agg #[.int .i64 q0, .int .i64 q1, .int .i64 q2, .int .i64 q3]] w fun e w' => e = .returned (.agg (phB q0 q1 q2 q3)) ∧ Kept [] w w' := by
  have a1 : floatBits .add .f64 (F (q0 + q2)) (F (q1 + q3)) = some (F (q0 + q2 + (q1 + q3))) := add_F (by omega) (by omega) (by omega)
  have a2 : floatBits .sub .f64 (F (q0 + q2)) (F (q1 + q3)) = some (F (q0 + q2 - (q1 + q3))) := sub_F (by omega) (by omega) (by omega)
  have a3 : floatBits .add .f64 (F (q0 - q2)) 0 = some (F (q0 - q2)) := by have := add_zero_FW (FW_F (n := q0 - q2) (by omega)) (by omega); rwa [F0] at this
  have a4 : floatBits .add .f64 (Op.negFloat .f64 (F (q1 - q3))) 0 = some (F (-(q1 - q3))) := by have := add_zero_FW (neg_FW (FW_F (n := q1 - q3) (by omega)) (by omega)) (by omega); rwa [F0] at this
  have c1 : ∀ (t : TypeId) (w : World), (binOp .add t (.float .f64 (floatOfInt .f64 (q0 + q2))) (.float .f64 (floatOfInt .f64 (q1 + q3)))).run Try.prog w = .ok (.float .f64 (F (q0 + q2 + (q1 + q3)))) w := fun t w => run_float_arith (P := Try.prog) w .add t .f64 _ _ _ a1
  have c2 : ∀ (t : TypeId) (w : World), (binOp .sub t (.float .f64 (floatOfInt .f64 (q0 + q2))) (.float .f64 (floatOfInt .f64 (q1 + q3)))).run Try.prog w = .ok (.float .f64 (F (q0 + q2 - (q1 + q3)))) w := fun t w => run_float_arith (P := Try.prog) w .sub t .f64 _ _ _ a2
  have p : ∀ w, Calls Try.prog 67 #[.complex .f64 (floatOfInt .f64 (q0 - q2)) (Op.negFloat .f64 (floatOfInt .f64 (q1 - q3)))] w fun e w' => e = .returned (.complex .f64 (F (q0 - q2)) (F (-(q1 - q3)))) ∧ w = w' := fun w => pplain _ _ _ _ w a3 a4
  have b0 : -70368744177664 ≤ q0 ∧ q0 ≤ 70368744177664 := by omega
  have b1 : -70368744177664 ≤ q1 ∧ q1 ≤ 70368744177664 := by omega
  have b2 : -70368744177664 ≤ q2 ∧ q2 ≤ 70368744177664 := by omega
  have b3 : -70368744177664 ≤ q3 ∧ q3 ≤ 70368744177664 := by omega
  obtain ⟨b0, b0'⟩ := b0
  obtain ⟨b1, b1'⟩ := b1
  obtain ⟨b2, b2'⟩ := b2
  obtain ⟨b3, b3'⟩ := b3
  have e1 : IntKind.i64.wrap (q0 - q2) = q0 - q2 := IntWalk.i64_in _ (by omega)
  have e2 : IntKind.i64.wrap (q1 - q3) = q1 - q3 := IntWalk.i64_in _ (by omega)
  have e3 : IntKind.i64.wrap (q0 + q2) = q0 + q2 := IntWalk.i64_in _ (by omega)
  have e4 : IntKind.i64.wrap (q1 + q3) = q1 + q3 := IntWalk.i64_in _ (by omega)
  clear h0 h1 h2 h3 a1 a2 a3 a4
  go_enter Try.func64, Try.ntmps64
  go_wp2_with fail
  go_quiet (fail)
  go_wp2_with fail
  go_quiet (fail)
  go_wp2_with fail
  refine (p _).mono ?_; rintro e w' ⟨rfl, rfl⟩
  go_wp2_with fail
  refine bodyPost_ret (v := .agg #[.complex .f64 (F (q0 + q2 + (q1 + q3))) 0, .complex .f64 (floatOfInt .f64 (q0 - q2)) (floatOfInt .f64 (q1 - q3)), .complex .f64 (F (q0 + q2 - (q1 + q3))) 0, .complex .f64 (F (q0 - q2)) (F (-(q1 - q3)))]) (by simp [results, Try.results64, go_sem]) rfl ⟨rfl, ?_⟩
  refine (((((Kept.refl _ _).alloc _).alloc _).drewN _).setCell (Or.inr ?_) _).setCell (Or.inr ?_) _ |>.setCell (Or.inr ?_) _ |>.setCell (Or.inr ?_) _
  all_goals simp
end Go.Proofs.Ytkghkkfcgegmeaa
