/- Walks of layer 34 (phase): the reference's whole numbers out of floats. -/
import Derived.Test.YtkghkkfcgegmeaaH7
namespace Go.Proofs.Ytkghkkfcgegmeaa
open Go.RowKit Fl
set_option linter.unusedVariables false
set_option linter.unusedSimpArgs false

theorem conv_any45 (x : Nat) (h1 : leB (FloatKind.f64.format.order x 4809844402031689728) = true) (h2 : geB (FloatKind.f64.format.order x 14033216438886465536) = true) (w : World) : (convert 36 3 (.float .f64 x)).run Try.prog w = .ok (.int .i64 (tr x)) w :=
  run_convert_float_int w _ _ .f64 .i64 x (tr x) (by rw [Try.underlying36]; rfl) Try.underlying3 (conv_of (M := 35184372088832) (by decide) (by have h := h2; rw [F45n] at h; exact h) (by have h := h1; rw [F45] at h; exact h))
theorem wh45_parts (x : Nat) : wh45 x = (geB (FloatKind.f64.format.order x 14033216438886465536) && leB (FloatKind.f64.format.order x 4809844402031689728) && (FloatKind.f64.format.order (floatOfInt .f64 (tr x)) x == some .eq)) := by
  rw [wh45_eq]; rfl

set_option maxRecDepth 100000 in
theorem rwhole45_yes (x : Nat) (w : World) (h : wh45 x = true) :
    Calls Try.prog 74 #[.float .f64 x] w fun e w' => e = .returned (.tuple #[.int .i64 (tr x), .bool true]) ∧ w = w' := by
  rw [wh45_parts] at h
  simp only [Bool.and_eq_true] at h
  obtain ⟨⟨h1, h2⟩, h3⟩ := h
  have hc := conv_any45 x h2 h1
  rw [beq_iff_eq] at h3
  rcases o1 : FloatKind.f64.format.order x 14033216438886465536 with _ | (_ | _ | _) <;> rw [o1] at h1 <;> simp [geB] at h1 <;> rcases o2 : FloatKind.f64.format.order x 4809844402031689728 with _ | (_ | _ | _) <;> rw [o2] at h2 <;> simp [leB] at h2 <;>
  · go_enter Try.func74, Try.ntmps74
    go_wp2
    go_ret2
    exact ⟨rfl, rfl⟩

set_option maxRecDepth 100000 in
theorem rwhole45_no (x : Nat) (w : World) (h : wh45 x = false) :
    Calls Try.prog 74 #[.float .f64 x] w fun e w' => e = .returned (.tuple #[.int .i64 0, .bool false]) ∧ w = w' := by
  rw [wh45_parts] at h
  by_cases hb : leB (FloatKind.f64.format.order x 4809844402031689728) = true ∧ geB (FloatKind.f64.format.order x 14033216438886465536) = true
  · have hc := conv_any45 x hb.1 hb.2
    obtain ⟨h2, h1⟩ := hb
    have h3 : (FloatKind.f64.format.order (floatOfInt .f64 (tr x)) x == some .eq) = false := by simpa [h1, h2] using h
    have h4 : (FloatKind.f64.format.order (floatOfInt .f64 (tr x)) x != some .eq) = true := by simpa [bne] using h3
    clear h h3
    rcases o1 : FloatKind.f64.format.order x 14033216438886465536 with _ | (_ | _ | _) <;> rw [o1] at h1 <;> simp [geB] at h1 <;> rcases o2 : FloatKind.f64.format.order x 4809844402031689728 with _ | (_ | _ | _) <;> rw [o2] at h2 <;> simp [leB] at h2 <;>
    · go_enter Try.func74, Try.ntmps74
      go_wp2
      go_ret2
      exact ⟨rfl, rfl⟩
  · clear h
    rcases o1 : FloatKind.f64.format.order x 14033216438886465536 with _ | (_ | _ | _) <;> rcases o2 : FloatKind.f64.format.order x 4809844402031689728 with _ | (_ | _ | _) <;> rw [o1, o2] at hb <;> simp [leB, geB] at hb <;>
    · go_enter Try.func74, Try.ntmps74
      go_wp2
      go_ret2
      exact ⟨rfl, rfl⟩

end Go.Proofs.Ytkghkkfcgegmeaa
