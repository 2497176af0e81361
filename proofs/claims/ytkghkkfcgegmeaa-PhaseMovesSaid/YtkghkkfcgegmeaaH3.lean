/- Walks of layer 34 (phase): the numbers whose phases these are. -/
import Derived.Test.YtkghkkfcgegmeaaH2
namespace Go.Proofs.Ytkghkkfcgegmeaa
open Go.RowKit Fl
set_option linter.unusedVariables false
set_option linter.unusedSimpArgs false
@[local go_sem] theorem unary_neg_float3 (k : FloatKind) (b : Nat) : Op.unary .neg (.float k b) = pure (.float k (Op.negFloat k b)) := rfl
attribute [local go_sem] eqC4 eqI4

/-- four complex numbers, by their bits. -/
structure P4 where
  (a0 b0 a1 b1 a2 b2 a3 b3 : Nat)
def P4.v (p : P4) : Value := .agg #[.complex .f64 p.a0 p.b0, .complex .f64 p.a1 p.b1, .complex .f64 p.a2 p.b2, .complex .f64 p.a3 p.b3]
def zero4 : Value := .agg #[.int .i64 0, .int .i64 0, .int .i64 0, .int .i64 0]
def wc (a b : Nat) : Bool := wh45 a && wh45 b
def okW (p : P4) : Bool := wc p.a0 p.b0 && wc p.a1 p.b1 && wc p.a2 p.b2 && wc p.a3 p.b3

theorem conv_FW {x : Nat} {n : Int} (h : FW x n) (hn : n.natAbs ≤ 2 ^ 53) : floatToIntVal .f64 x .i64 = some n := by
  unfold floatToIntVal
  rw [toInt_FW h hn]
  have : IntKind.i64.min ≤ n ∧ n ≤ IntKind.i64.max := by
    have e1 : IntKind.i64.min = -9223372036854775808 := by decide
    have e2 : IntKind.i64.max = 9223372036854775807 := by decide
    rw [e1, e2]; omega
  simp only [this, and_self, if_true]

set_option maxRecDepth 100000 in
theorem pback_no (p : P4) (w : World) (h : okW p = false) :
    Calls Try.prog 26 #[p.v] w fun e w' => e = .returned (.tuple #[zero4, .int .i64 7]) ∧ Kept [] w w' := by
  obtain ⟨a0, b0, a1, b1, a2, b2, a3, b3⟩ := p
  simp only [P4.v] at *
  have hw := fun x w => pwhole x w
  have H := Lib.hid h
  have ix := ixC (.complex .f64 a0 b0) (.complex .f64 a1 b1) (.complex .f64 a2 b2) (.complex .f64 a3 b3)
  have ix0 := fun w => (ix w).1
  have ix1 := fun w => (ix w).2.1
  have ix2 := fun w => (ix w).2.2.1
  have ix3 := fun w => (ix w).2.2.2
  clear h ix
  go_enter Try.func26, Try.ntmps26
  go_wp2_with fail
  go_loopw [5, 12] (fun z i wr => ∃ k : Nat, k ≤ 4 ∧ i = .int .i64 k ∧ Aside ((1 ≤ k → wc a0 b0 = true) ∧ (2 ≤ k → wc a1 b1 = true) ∧ (3 ≤ k → wc a2 b2 = true) ∧ (4 ≤ k → wc a3 b3 = true)) ∧ wr = (w.alloc (.cells #[.complex .f64 a0 b0, .complex .f64 a1 b1, .complex .f64 a2 b2, .complex .f64 a3 b3] 48)).alloc (.cells #[.int .i64 0, .int .i64 0, .int .i64 0, .int .i64 0] 50)) (fun _ i _ => 4 - (intOf i).toNat)
  case atStart => exact ⟨0, by omega, rfl, ⟨fun h => by omega, fun h => by omega, fun h => by omega, fun h => by omega⟩, rfl⟩
  case round =>
    obtain ⟨k, hk, rfl, hall, rfl⟩ := hrel
    have hk5 : k = 0 ∨ k = 1 ∨ k = 2 ∨ k = 3 ∨ k = 4 := by omega
    rcases hk5 with rfl | rfl | rfl | rfl | rfl
    · go_wp2_with fail
      refine (hw _ _).mono ?_; rintro e w' ⟨rfl, rfl⟩
      cases e0 : wh45 a0
      · go_wp2_with fail
        exact bodyPost_ret (v := .tuple #[zero4, .int .i64 7]) (by simp [results, Try.results26, go_sem, zero4]) rfl ⟨rfl, ((Kept.refl _ _).alloc _).alloc _⟩
      · go_wp2_with fail
        refine (hw _ _).mono ?_; rintro e w' ⟨rfl, rfl⟩
        cases e1 : wh45 b0
        · go_wp2_with fail
          exact bodyPost_ret (v := .tuple #[zero4, .int .i64 7]) (by simp [results, Try.results26, go_sem, zero4]) rfl ⟨rfl, ((Kept.refl _ _).alloc _).alloc _⟩
        · go_wp2_with fail
          go_roundw
          case rel => exact ⟨1, by omega, rfl, ⟨fun _ => by simp [wc, e0, e1], fun h => by omega, fun h => by omega, fun h => by omega⟩, by first | rfl | trivial⟩
          case measure => simp [intOf]
    · go_wp2_with fail
      refine (hw _ _).mono ?_; rintro e w' ⟨rfl, rfl⟩
      cases e0 : wh45 a1
      · go_wp2_with fail
        exact bodyPost_ret (v := .tuple #[zero4, .int .i64 7]) (by simp [results, Try.results26, go_sem, zero4]) rfl ⟨rfl, ((Kept.refl _ _).alloc _).alloc _⟩
      · go_wp2_with fail
        refine (hw _ _).mono ?_; rintro e w' ⟨rfl, rfl⟩
        cases e1 : wh45 b1
        · go_wp2_with fail
          exact bodyPost_ret (v := .tuple #[zero4, .int .i64 7]) (by simp [results, Try.results26, go_sem, zero4]) rfl ⟨rfl, ((Kept.refl _ _).alloc _).alloc _⟩
        · go_wp2_with fail
          go_roundw
          case rel => exact ⟨2, by omega, rfl, ⟨fun h => hall.1 (by omega), fun _ => by simp [wc, e0, e1], fun h => by omega, fun h => by omega⟩, by first | rfl | trivial⟩
          case measure => simp [intOf]
    · go_wp2_with fail
      refine (hw _ _).mono ?_; rintro e w' ⟨rfl, rfl⟩
      cases e0 : wh45 a2
      · go_wp2_with fail
        exact bodyPost_ret (v := .tuple #[zero4, .int .i64 7]) (by simp [results, Try.results26, go_sem, zero4]) rfl ⟨rfl, ((Kept.refl _ _).alloc _).alloc _⟩
      · go_wp2_with fail
        refine (hw _ _).mono ?_; rintro e w' ⟨rfl, rfl⟩
        cases e1 : wh45 b2
        · go_wp2_with fail
          exact bodyPost_ret (v := .tuple #[zero4, .int .i64 7]) (by simp [results, Try.results26, go_sem, zero4]) rfl ⟨rfl, ((Kept.refl _ _).alloc _).alloc _⟩
        · go_wp2_with fail
          go_roundw
          case rel => exact ⟨3, by omega, rfl, ⟨fun h => hall.1 (by omega), fun h => hall.2.1 (by omega), fun _ => by simp [wc, e0, e1], fun h => by omega⟩, by first | rfl | trivial⟩
          case measure => simp [intOf]
    · go_wp2_with fail
      refine (hw _ _).mono ?_; rintro e w' ⟨rfl, rfl⟩
      cases e0 : wh45 a3
      · go_wp2_with fail
        exact bodyPost_ret (v := .tuple #[zero4, .int .i64 7]) (by simp [results, Try.results26, go_sem, zero4]) rfl ⟨rfl, ((Kept.refl _ _).alloc _).alloc _⟩
      · go_wp2_with fail
        refine (hw _ _).mono ?_; rintro e w' ⟨rfl, rfl⟩
        cases e1 : wh45 b3
        · go_wp2_with fail
          exact bodyPost_ret (v := .tuple #[zero4, .int .i64 7]) (by simp [results, Try.results26, go_sem, zero4]) rfl ⟨rfl, ((Kept.refl _ _).alloc _).alloc _⟩
        · go_wp2_with fail
          go_roundw
          case rel => exact ⟨4, by omega, rfl, ⟨fun h => hall.1 (by omega), fun h => hall.2.1 (by omega), fun h => hall.2.2.1 (by omega), fun _ => by simp [wc, e0, e1]⟩, by first | rfl | trivial⟩
          case measure => simp [intOf]
    · exfalso
      have h1 := H.out
      simp only [okW] at h1
      have h2 := hall
      simp only [h2.1 (by omega), h2.2.1 (by omega), h2.2.2.1 (by omega), h2.2.2.2 (by omega)] at h1
      simp at h1

end Go.Proofs.Ytkghkkfcgegmeaa
