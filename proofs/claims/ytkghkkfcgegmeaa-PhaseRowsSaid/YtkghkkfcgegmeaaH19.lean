/- The walk of the statement on the phases of any row: a row that may be. -/
import Derived.Test.YtkghkkfcgegmeaaH18
import Derived.Deep.RegionWith
import Derived.Deep.RegionHeld3
namespace Go.Proofs.Ytkghkkfcgegmeaa
open Go.RowKit Fl
set_option linter.unusedVariables false
set_option linter.unusedSimpArgs false
attribute [local go_sem] eqC4 eqI4 neqI4 neqC4
attribute [local go_sem ↓] Go.wp_at_zero Go.wp_at_succ
@[local go_sem] theorem unary_neg_float19 (k : FloatKind) (b : Nat) : Op.unary .neg (.float k b) = pure (.float k (Op.negFloat k b)) := rfl

set_option maxRecDepth 100000 in
set_option maxHeartbeats 2000000 in
theorem rows_yes (l : List Int) (v : Value) (w : World) (h : IntsAt .i64 w v l) (hm : mayL (fewL l) = true) :
    Calls Try.prog 8 #[v] w fun e w' => e = .returned (.bool true) ∧ Below w.heap.size w w' := by
  have hbd := qsum_bd46 hm
  have h1 := lfew34 l v w h
  have h2 : ∀ u w, IntsAt .i64 w u (fewL l) → Calls Try.prog 32 #[u] w fun e w' => e = .returned (.tuple #[(qsum (fewL l) (fewL l).length).ph, .int .i64 0]) ∧ Kept [] w w' := fun u w hu => by have := pof _ u w hu; unfold OfSays at this; rw [hm] at this; exact this
  have h3 : ∀ u w, IntsAt .i64 w u (fewL l) → Calls Try.prog 37 #[u] w fun e w' => e = .returned (.tuple #[(qsum (fewL l) (fewL l).length).v, .int .i64 0]) ∧ Kept [] w w' := fun u w hu => by have := pquarters _ u w hu; unfold QuartersSays at this; rw [hm] at this; exact this
  have h4 : ∀ u w, IntsAt .i64 w u (fewL l) → Calls Try.prog 38 #[u] w fun e w' => e = .returned (.tuple #[.bool (((qsum (fewL l) (fewL l).length).q1 == (qsum (fewL l) (fewL l).length).q0) && ((qsum (fewL l) (fewL l).length).q2 == (qsum (fewL l) (fewL l).length).q0) && ((qsum (fewL l) (fewL l).length).q3 == (qsum (fewL l) (fewL l).length).q0)), .int .i64 0]) ∧ Kept [] w w' := fun u w hu => by have := peven _ u w hu; unfold EvenSays at this; rw [hm] at this; exact this
  have h5 : ∀ u w, IntsAt .i64 w u (fewL l) → Calls Try.prog 31 #[u] w fun e w' => e = .returned (.bool true) ∧ w = w' := fun u w hu => by have := rmay _ u w hu; unfold MaySays at this; rw [hm] at this; exact this
  have h6 := fun w => lawake34 w
  have h7 : ∀ u w, IntsAt .i64 w u (fewL l) → Calls Try.prog 40 #[u] w fun e w' => e = .returned (.agg (qsum (fewL l) (fewL l).length).z.cells) ∧ Kept [] w w' := fun u w hu => rof _ u w hu hm
  have h8 : ∀ u w, IntsAt .i64 w u (fewL l) → Calls Try.prog 42 #[u] w fun e w' => e = .returned (qsum (fewL l) (fewL l).length).v ∧ Kept [] w w' := fun u w hu => rquarters _ u w hu hm
  have h9 := fun w => pback_ph hbd w
  have h10 := fun w => lplain_ph hbd w
  have h11 := fun w => nums_ph (qsum (fewL l) (fewL l).length) w
  have H1 := Lib.hid h1
  clear h1 hm
  generalize qsum (fewL l) (fewL l).length = q at *
  obtain ⟨r0, r1, r2, r3⟩ := q
  obtain ⟨bd0, bd1, bd2, bd3⟩ := hbd
  simp only at bd0 bd1 bd2 bd3
  simp only [Q4.ph, phB, Q4.v] at h2 h3 h4 h5 h7 h8 h9 h10 h11
  have g1 : Op.floatEq .f64 (F (r0 + r2 + (r1 + r3))) (F (r0 + r2 + (r1 + r3))) = true := by rw [feqF (by omega) (by omega)]; simp
  have g2 : Op.floatEq .f64 (F (r0 - r2)) (F (r0 - r2)) = true := by rw [feqF (by omega) (by omega)]; simp
  have g3 : Op.floatEq .f64 (F (r1 - r3)) (F (r1 - r3)) = true := by rw [feqF (by omega) (by omega)]; simp
  have g4 : Op.floatEq .f64 (F (r0 + r2 - (r1 + r3))) (F (r0 + r2 - (r1 + r3))) = true := by rw [feqF (by omega) (by omega)]; simp
  have g5 : Op.floatEq .f64 (F (-(r1 - r3))) (F (-(r1 - r3))) = true := by rw [feqF (by omega) (by omega)]; simp
  have g0 : Op.floatEq .f64 0 0 = true := by decide +kernel
  have g6 : Op.floatEq .f64 (F (r1 - r3)) (Op.negFloat .f64 (F (-(r1 - r3)))) = true := by
    have := feq (a := r1 - r3) (neg_FW (FW_F (n := -(r1 - r3)) (by omega)) (by omega)) (by omega) (by omega)
    rw [this]; simp
  have t1 := feqF0 (a := r0 - r2) (by omega)
  have t2 := feqF0 (a := r1 - r3) (by omega)
  have t3 := feqF0 (a := r0 + r2 - (r1 + r3)) (by omega)
  have t4 := feqF0 (a := -(r1 - r3)) (by omega)
  have T4 := Lib.hid t4
  have T1 := Lib.hid t1
  have T2 := Lib.hid t2
  have T3 := Lib.hid t3
  have H2 := Lib.hid h2
  have H3 := Lib.hid h3
  have H4 := Lib.hid h4
  have H5 := Lib.hid h5
  have H6 := Lib.hid h6
  have H7 := Lib.hid h7
  have H8 := Lib.hid h8
  have H9 := Lib.hid h9
  have H10 := Lib.hid h10
  have H11 := Lib.hid h11
  clear t1 t2 t3 t4 h2 h3 h4 h5 h6 h7 h8 h9 h10 h11 bd0 bd1 bd2 bd3 h
  generalize F (r0 + r2 + (r1 + r3)) = A0 at *
  generalize F (r0 - r2) = A1 at *
  generalize F (r1 - r3) = B1 at *
  generalize F (r0 + r2 - (r1 + r3)) = A2 at *
  generalize F (-(r1 - r3)) = B3 at *
  go_enter Try.func8, Try.ntmps8
  go_wp2_with fail
  refine H1.out.mono ?_; rintro e w0 ⟨u, rfl, hu, rfl⟩
  have HU := Lib.hid hu
  clear hu
  go_wp2_with fail
  refine (H2.out _ _ HU.out).mono ?_; rintro e w1 ⟨rfl, k⟩
  have kk := k
  clear k
  have HU1 := Lib.hid ((HU.out.kept kk).kept ((Kept.refl _ _).alloc (.cells #[.complex .f64 A0 0, .complex .f64 A1 B1, .complex .f64 A2 0, .complex .f64 A1 B3] 48)))
  go_wp2_with fail
  refine (H3.out _ _ HU1.out).mono ?_; rintro e w2 ⟨rfl, k⟩
  have op := k.own (Own.new w1 _ _) (by simp)
  have kk := (kk.alloc _).trans k
  clear k HU1
  have HU1 := Lib.hid ((HU.out.kept kk).kept ((Kept.refl _ _).alloc (.cells #[.int .i64 r0, .int .i64 r1, .int .i64 r2, .int .i64 r3] 50)))
  go_wp2_with fail
  refine (H4.out _ _ HU1.out).mono ?_; rintro e w3 ⟨rfl, k⟩
  have oq := k.own (Own.new w2 _ _) (by simp)
  have op := k.own (op.alloc _) (by simp)
  have kk := (kk.alloc _).trans k
  clear k HU1
  have HU1 := Lib.hid (HU.out.kept kk)
  go_wp2_with fail
  refine (H5.out _ _ HU1.out).mono ?_; rintro e w4 ⟨rfl, rfl⟩
  go_wp2_with fail
  refine (H7.out _ _ HU1.out).mono ?_; rintro e w4 ⟨rfl, k⟩
  have oq := k.own oq (by simp)
  have op := k.own op (by simp)
  have kk := kk.trans k
  clear k HU1
  go_wp2_with fail
  refine (H11.out _).mono ?_; rintro e w5 ⟨rfl, k⟩
  have oq := k.own oq (by simp)
  have op := k.own op (by simp)
  have lp := op.lt
  have lq := op.lt
  have kk := kk.trans k
  clear k
  obtain ⟨p0, p1, p2, p3⟩ := op.c4
  go_wp2_with fail
  refine (H9.out _).mono ?_; rintro e w6 ⟨rfl, k⟩
  clear p0 p1 p2 p3
  have oq := k.own (oq.alloc _) (by simp)
  have op := k.own (op.alloc _) (by simp)
  have ow := k.own (Own.new w5 _ _) (by simp)
  have kk := (kk.alloc _).trans k
  clear k H1 H2 H3 H4 H5 H7 H9 H11
  have lp := op.lt
  have lq := oq.lt
  have lw := ow.lt
  obtain ⟨p0, p1, p2, p3⟩ := op.c4
  obtain ⟨q0, q1, q2, q3⟩ := oq.c4
  obtain ⟨x0, x1, x2, x3⟩ := ow.c4
  have ob : Own (w6.alloc (.cells #[.int .i64 r0, .int .i64 r1, .int .i64 r2, .int .i64 r3] 50)) w6.heap.size #[.int .i64 r0, .int .i64 r1, .int .i64 r2, .int .i64 r3] 50 := Own.new _ _ _
  clear p0 p1 p2 p3 q0 q1 q2 q3 x0 x1 x2 x3
  have P1 := op.c4
  have P2 := oq.c4
  have P3 := ow.c4
  go_wp2_with fail
  go_region_held3 (fun w' => w'.cell? ⟨w1.heap.size, 0, none⟩ = some (.complex .f64 A0 0) ∧ w'.cell? ⟨w1.heap.size, 1, none⟩ = some (.complex .f64 A1 B1) ∧ w'.cell? ⟨w1.heap.size, 2, none⟩ = some (.complex .f64 A2 0) ∧ w'.cell? ⟨w1.heap.size, 3, none⟩ = some (.complex .f64 A1 B3) ∧ w'.cell? ⟨w5.heap.size, 0, none⟩ = some (.complex .f64 A0 0) ∧ w'.cell? ⟨w5.heap.size, 1, none⟩ = some (.complex .f64 A1 B1) ∧ w'.cell? ⟨w5.heap.size, 2, none⟩ = some (.complex .f64 A2 0) ∧ w'.cell? ⟨w5.heap.size, 3, none⟩ = some (.complex .f64 A1 B3) ∧ w'.cell? ⟨w2.heap.size, 0, none⟩ = some (.int .i64 r0) ∧ w'.cell? ⟨w2.heap.size, 1, none⟩ = some (.int .i64 r1) ∧ w'.cell? ⟨w2.heap.size, 2, none⟩ = some (.int .i64 r2) ∧ w'.cell? ⟨w2.heap.size, 3, none⟩ = some (.int .i64 r3) ∧ w'.cell? ⟨w6.heap.size, 0, none⟩ = some (.int .i64 r0) ∧ w'.cell? ⟨w6.heap.size, 1, none⟩ = some (.int .i64 r1) ∧ w'.cell? ⟨w6.heap.size, 2, none⟩ = some (.int .i64 r2) ∧ w'.cell? ⟨w6.heap.size, 3, none⟩ = some (.int .i64 r3)) (go_keep) (first | (go_at_call 41; refine (H10.out _).mono ?_; rintro e w7 ⟨rfl, rfl⟩) | (go_at_call 42; refine (H8.out _ _ (HU.out.kept (by repeat' first | exact kk | refine Kept.alloc ?_ _ | refine Kept.drew ?_ | refine Kept.drewN ?_ _))).mono ?_; rintro e w7 ⟨rfl, k7⟩; have oq7 := k7.own (b := w2.heap.size) (cs := #[.int .i64 r0, .int .i64 r1, .int .i64 r2, .int .i64 r3]) (t := 50) (by repeat' first | exact oq | refine Own.alloc ?_ _ | refine Own.drew ?_ | refine Own.drewN ?_ _) (by simp); have ob7 := k7.own (b := w6.heap.size) (cs := #[.int .i64 r0, .int .i64 r1, .int .i64 r2, .int .i64 r3]) (t := 50) (by repeat' first | exact ob | refine Own.alloc ?_ _ | refine Own.drew ?_ | refine Own.drewN ?_ _) (by simp); have op7 := k7.own (b := w1.heap.size) (cs := #[.complex .f64 A0 0, .complex .f64 A1 B1, .complex .f64 A2 0, .complex .f64 A1 B3]) (t := 48) (by repeat' first | exact op | refine Own.alloc ?_ _ | refine Own.drew ?_ | refine Own.drewN ?_ _) (by simp); have ow7 := k7.own (b := w5.heap.size) (cs := #[.complex .f64 A0 0, .complex .f64 A1 B1, .complex .f64 A2 0, .complex .f64 A1 B3]) (t := 48) (by repeat' first | exact ow | refine Own.alloc ?_ _ | refine Own.drew ?_ | refine Own.drewN ?_ _) (by simp); have y1 := oq7.c4; have y2 := ob7.c4; have y3 := op7.c4; have y4 := ow7.c4; have kk7 : Kept [] w w7 := Kept.trans (by repeat' first | exact kk | refine Kept.alloc ?_ _ | refine Kept.drew ?_ | refine Kept.drewN ?_ _) k7))
  clear P1 P2 P3 ob op oq ow lp lq lw k7 H8 H10 HU
  obtain ⟨y10, y11, y12, y13⟩ := y1
  obtain ⟨y30, y31, y32, y33⟩ := y3
  clear y2 y4 ob7 ow7 op7 oq7
  have fe : ∀ x y, Op.floatEq .f64 x y = true ↔ FloatKind.f64.format.order x y = some .eq := fun x y => by simp [Op.floatEq]
  have u2 := (fe _ _).1 g2
  have u6 := (fe _ _).1 g6
  have u0 := (fe _ _).1 g0
  clear g0 g1 g2 g3 g4 g5 g6
  by_cases hs : r1 = r0 ∧ r2 = r0 ∧ r3 = r0
  · obtain ⟨rfl, rfl, rfl⟩ := hs
    have t1 : Op.floatEq .f64 A1 0 = true := by rw [T1.out]; simp
    have t2 : Op.floatEq .f64 B1 0 = true := by rw [T2.out]; simp
    have t3 : Op.floatEq .f64 A2 0 = true := by rw [T3.out]; simp
    have t4 : Op.floatEq .f64 B3 0 = true := by rw [T4.out]; simp
    have t1 := (fe _ _).1 t1
    have t2 := (fe _ _).1 t2
    have t3 := (fe _ _).1 t3
    have t4 := (fe _ _).1 t4
    clear T1 T2 T3 T4 fe
    go_wp2_with fail
    refine (H6.out _).mono ?_; rintro e w8 ⟨rfl, k⟩
    have kk := kk7.trans k
    go_wp2_with fail
    go_ret
    exact ⟨rfl, kk.below⟩
  · have hE : (r1 == r0 && r2 == r0 && r3 == r0) = false := by
      rw [Bool.eq_false_iff]; intro h; simp at h; exact hs ⟨h.1.1, h.1.2, h.2⟩
    have hn : (r0 == r1) = false ∨ ((r0 == r1) = true ∧ (r1 == r2) = false) ∨ ((r0 == r1) = true ∧ (r1 == r2) = true ∧ (r2 == r3) = false) := by
      simp only [beq_eq_false_iff_ne, beq_iff_eq]; omega
    have hm : ¬ FloatKind.f64.format.order A1 0 = some .eq ∨ (FloatKind.f64.format.order A1 0 = some .eq ∧ ¬ FloatKind.f64.format.order B1 0 = some .eq) ∨ (FloatKind.f64.format.order A1 0 = some .eq ∧ FloatKind.f64.format.order B1 0 = some .eq ∧ ¬ FloatKind.f64.format.order A2 0 = some .eq) := by
      simp only [← fe]
      rw [T1.out, T2.out, T3.out]
      simp only [decide_eq_true_eq]; omega
    clear T1 T2 T3 T4 hs fe
    rw [hE]
    clear hE
    rcases hn with n1 | ⟨n1, n2⟩ | ⟨n1, n2, n3⟩ <;> rcases hm with m1 | ⟨m1, m2⟩ | ⟨m1, m2, m3⟩
    all_goals
      go_wp2_with fail
      refine (H6.out _).mono ?_; rintro e w8 ⟨rfl, k⟩
      have kk := kk7.trans k
      go_wp2_with fail
      go_ret
      exact ⟨rfl, kk.below⟩
theorem rows_walk (v : Value) (l : List Int) (w : World) (h : IntsAt .i64 w v l) :
    Calls Try.prog 8 #[v] w fun e w' => e = .returned (.bool true) ∧ Below w.heap.size w w' := by
  cases hm : mayL (fewL l)
  · exact rows_no l v w h hm
  · exact rows_yes l v w h hm
end Go.Proofs.Ytkghkkfcgegmeaa
