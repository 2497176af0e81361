/- The walk of the statement on the phases of any row. -/
import Derived.Test.YtkghkkfcgegmeaaH17
import Derived.Deep.RegionWith
namespace Go.Proofs.Ytkghkkfcgegmeaa
open Go.RowKit Fl
set_option linter.unusedVariables false
set_option linter.unusedSimpArgs false
attribute [local go_sem] eqC4 eqI4 neqI4
attribute [local go_sem ↓] Go.wp_at_zero Go.wp_at_succ
@[local go_sem] theorem unary_neg_float18 (k : FloatKind) (b : Nat) : Op.unary .neg (.float k b) = pure (.float k (Op.negFloat k b)) := rfl
@[local go_sem] theorem neqC4 (a0 b0 a1 b1 a2 b2 a3 b3 c0 d0 c1 d1 c2 d2 c3 d3 : Nat) (w : World) :
    (binOp .neq 48 (.agg #[.complex .f64 a0 b0, .complex .f64 a1 b1, .complex .f64 a2 b2, .complex .f64 a3 b3]) (.agg #[.complex .f64 c0 d0, .complex .f64 c1 d1, .complex .f64 c2 d2, .complex .f64 c3 d3])).run Try.prog w =
      .ok (.bool (!((Op.floatEq .f64 a0 c0 && Op.floatEq .f64 b0 d0) && (Op.floatEq .f64 a1 c1 && Op.floatEq .f64 b1 d1) && (Op.floatEq .f64 a2 c2 && Op.floatEq .f64 b2 d2) && (Op.floatEq .f64 a3 c3 && Op.floatEq .f64 b3 d3)))) w := by
  simp only [binOp]; simp [Op.equal, Op.maxDepth, eqC4]

/-- the phases of four sums as they are handed to Back. -/
def Q4.p (q : Q4) : P4 := ⟨F (q.q0 + q.q2 + (q.q1 + q.q3)), 0, F (q.q0 - q.q2), F (q.q1 - q.q3), F (q.q0 + q.q2 - (q.q1 + q.q3)), 0, F (q.q0 - q.q2), F (-(q.q1 - q.q3))⟩
theorem Q4.p_ph (q : Q4) : q.p.v = q.ph := rfl
theorem Q4.p_isZ {q : Q4} (h : q.bd (2 ^ 43)) : IsZ q.p q.z ∧ q.z.Bd := by
  obtain ⟨a, b, c, d⟩ := h
  have f0 := F0
  refine ⟨⟨?_, ?_, ?_, ?_, ?_, ?_, ?_, ?_⟩, ⟨?_, ?_, ?_, ?_, ?_, ?_, ?_, ?_⟩⟩ <;> simp only [Q4.p, Q4.z, Q4.phat]
  · exact FW_F (by omega)
  · rw [← F0]; exact FW_F (by omega)
  · exact FW_F (by omega)
  · exact FW_F (by omega)
  · exact FW_F (by omega)
  · rw [← F0]; exact FW_F (by omega)
  · exact FW_F (by omega)
  · exact FW_F (by omega)
  all_goals omega
theorem tdiv4 (a : Int) : (4 * a).tdiv 4 = a := Int.mul_tdiv_cancel_left a (by decide)
theorem Q4.z_q (q : Q4) : q.z.q0 = q.q0 ∧ q.z.q1 = q.q1 ∧ q.z.q2 = q.q2 ∧ q.z.q3 = q.q3 := by
  refine ⟨?_, ?_, ?_, ?_⟩ <;> simp only [Z4.q0, Z4.q1, Z4.q2, Z4.q3, Q4.z, Q4.phat]
  · rw [show q.q0 + q.q2 + (q.q1 + q.q3) + (q.q0 + q.q2 - (q.q1 + q.q3)) + 2 * (q.q0 - q.q2) = 4 * q.q0 from by omega, tdiv4]
  · rw [show q.q0 + q.q2 + (q.q1 + q.q3) - (q.q0 + q.q2 - (q.q1 + q.q3)) + 2 * (q.q1 - q.q3) = 4 * q.q1 from by omega, tdiv4]
  · rw [show q.q0 + q.q2 + (q.q1 + q.q3) + (q.q0 + q.q2 - (q.q1 + q.q3)) - 2 * (q.q0 - q.q2) = 4 * q.q2 from by omega, tdiv4]
  · rw [show q.q0 + q.q2 + (q.q1 + q.q3) - (q.q0 + q.q2 - (q.q1 + q.q3)) - 2 * (q.q1 - q.q3) = 4 * q.q3 from by omega, tdiv4]
theorem Q4.z_ok (q : Q4) : q.z.ok = true := by
  obtain ⟨h0, h1, h2, h3⟩ := q.z_q
  simp only [Z4.ok, h0, h1, h2, h3]
  simp [Q4.z, Q4.phat]
theorem pback_ph {q : Q4} (h : q.bd (2 ^ 43)) (w : World) : Calls Try.prog 26 #[q.ph] w fun e w' => e = .returned (.tuple #[q.v, .int .i64 0]) ∧ Kept [] w w' := by
  obtain ⟨hz, hb⟩ := Q4.p_isZ h
  have := pback_yes q.p q.z w hz hb
  rw [q.z_ok, Q4.p_ph] at this
  refine this.mono fun e w' ⟨he, hk⟩ => ⟨?_, hk⟩
  obtain ⟨h0, h1, h2, h3⟩ := q.z_q
  rw [he]; simp [Z4.qv, Q4.v, h0, h1, h2, h3]
theorem lplain_ph {q : Q4} (h : q.bd (2 ^ 43)) (w : World) : Calls Try.prog 41 #[q.ph] w fun e w' => e = .returned (.bool true) ∧ w.alloc (.cells (phB q.q0 q.q1 q.q2 q.q3) 48) = w' := by
  obtain ⟨a, b, c, d⟩ := h
  exact lplain34 _ _ _ _ _ _ _ _ w (Pl_F (by omega)) Pl_0 (Pl_F (by omega)) (Pl_F (by omega)) (Pl_F (by omega)) Pl_0 (Pl_F (by omega)) (Pl_F (by omega))
theorem nums_ph (q : Q4) (w : World) : Calls Try.prog 39 #[.agg q.z.cells] w fun e w' => e = .returned q.ph ∧ Kept [] w w' := by
  have := lnums q.z w
  refine this.mono fun e w' ⟨he, hk⟩ => ⟨?_, hk⟩
  rw [he]; simp [Q4.ph, phB, Q4.z, Q4.phat, F0]
theorem feqF {a b : Int} (ha : a.natAbs ≤ 2 ^ 53) (hb : b.natAbs ≤ 2 ^ 53) : Op.floatEq .f64 (F a) (F b) = decide (a = b) := feq (FW_F hb) ha hb
theorem feqF0 {a : Int} (ha : a.natAbs ≤ 2 ^ 53) : Op.floatEq .f64 (F a) 0 = decide (a = 0) := by
  have := feqF (a := a) (b := 0) ha (by decide); rwa [F0] at this

set_option maxRecDepth 100000 in
set_option maxHeartbeats 8000000 in
theorem rows_no (l : List Int) (v : Value) (w : World) (h : IntsAt .i64 w v l) (hm : mayL (fewL l) = false) :
    Calls Try.prog 8 #[v] w fun e w' => e = .returned (.bool true) ∧ Below w.heap.size w w' := by
  have h1 := lfew34 l v w h
  have h2 : ∀ u w, IntsAt .i64 w u (fewL l) → Calls Try.prog 32 #[u] w fun e w' => e = .returned (.tuple #[zeroC, .int .i64 1]) ∧ Kept [] w w' := fun u w hu => by have := pof _ u w hu; unfold OfSays at this; rw [hm] at this; exact this
  have h3 : ∀ u w, IntsAt .i64 w u (fewL l) → Calls Try.prog 37 #[u] w fun e w' => e = .returned (.tuple #[zero4, .int .i64 1]) ∧ Kept [] w w' := fun u w hu => by have := pquarters _ u w hu; unfold QuartersSays at this; rw [hm] at this; exact this
  have h4 : ∀ u w, IntsAt .i64 w u (fewL l) → Calls Try.prog 38 #[u] w fun e w' => e = .returned (.tuple #[.bool false, .int .i64 1]) ∧ Kept [] w w' := fun u w hu => by have := peven _ u w hu; unfold EvenSays at this; rw [hm] at this; exact this
  have h5 : ∀ u w, IntsAt .i64 w u (fewL l) → Calls Try.prog 31 #[u] w fun e w' => e = .returned (.bool false) ∧ w = w' := fun u w hu => by have := rmay _ u w hu; unfold MaySays at this; rw [hm] at this; exact this
  have h6 := fun w => lawake34 w
  have f0 : Op.floatEq .f64 0 0 = true := by decide +kernel
  have H1 := Lib.hid h1
  have H2 := Lib.hid h2
  have H3 := Lib.hid h3
  have H4 := Lib.hid h4
  have H5 := Lib.hid h5
  have H6 := Lib.hid h6
  clear h1 h2 h3 h4 h5 h6 hm h
  simp only [zeroC, zero4] at H2 H3
  go_enter Try.func8, Try.ntmps8
  go_wp2_with fail
  refine H1.out.mono ?_; rintro e w0 ⟨u, rfl, hu, rfl⟩
  have HU := Lib.hid hu
  clear hu
  go_wp2_with fail
  refine (H2.out _ _ HU.out).mono ?_; rintro e w1 ⟨rfl, k⟩
  have kk := k
  clear k
  have HU1 := Lib.hid ((HU.out.kept kk).kept ((Kept.refl _ _).alloc (.cells #[.complex .f64 0 0, .complex .f64 0 0, .complex .f64 0 0, .complex .f64 0 0] 48)))
  go_wp2_with fail
  refine (H3.out _ _ HU1.out).mono ?_; rintro e w2 ⟨rfl, k⟩
  have op := k.own (Own.new w1 _ _) (by simp)
  have kk := (kk.alloc _).trans k
  clear k HU1
  have HU1 := Lib.hid ((HU.out.kept kk).kept ((Kept.refl _ _).alloc (.cells #[.int .i64 0, .int .i64 0, .int .i64 0, .int .i64 0] 50)))
  go_wp2_with fail
  refine (H4.out _ _ HU1.out).mono ?_; rintro e w3 ⟨rfl, k⟩
  have oq := k.own (Own.new w2 _ _) (by simp)
  have op := k.own (op.alloc _) (by simp)
  have kk := (kk.alloc _).trans k
  clear k HU1
  have HU1 := Lib.hid (HU.out.kept kk)
  go_wp2_with fail
  refine (H5.out _ _ HU1.out).mono ?_; rintro e w4 ⟨rfl, rfl⟩
  clear H1 H2 H3 H4 H5 HU HU1
  obtain ⟨p0, p1, p2, p3⟩ := op.c4
  obtain ⟨q0, q1, q2, q3⟩ := oq.c4
  have lp := op.lt
  have lq := oq.lt
  go_wp2_with fail
  refine (H6.out _).mono ?_; rintro e w5 ⟨rfl, k⟩
  have kk := kk.trans k
  go_wp2_with fail
  go_ret
  exact ⟨rfl, kk.below⟩
end Go.Proofs.Ytkghkkfcgegmeaa
