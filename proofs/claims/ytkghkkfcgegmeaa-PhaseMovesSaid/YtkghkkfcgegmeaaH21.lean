/- Walks of layer 34 (phase): the reference's sums, and phases turned on. -/
import Derived.Test.YtkghkkfcgegmeaaH20
import Derived.Deep.RegionHeld3
namespace Go.Proofs.Ytkghkkfcgegmeaa
open Go.RowKit Fl
set_option linter.unusedVariables false
set_option linter.unusedSimpArgs false
attribute [local go_sem ↓] Go.wp_at_zero Go.wp_at_succ

def Z4.Bi (z : Z4) : Prop := (-35184372088832 ≤ z.n0 ∧ z.n0 ≤ 35184372088832) ∧ (-35184372088832 ≤ z.m0 ∧ z.m0 ≤ 35184372088832) ∧ (-35184372088832 ≤ z.n1 ∧ z.n1 ≤ 35184372088832) ∧ (-35184372088832 ≤ z.m1 ∧ z.m1 ≤ 35184372088832) ∧ (-35184372088832 ≤ z.n2 ∧ z.n2 ≤ 35184372088832) ∧ (-35184372088832 ≤ z.m2 ∧ z.m2 ≤ 35184372088832) ∧ (-35184372088832 ≤ z.n3 ∧ z.n3 ≤ 35184372088832) ∧ (-35184372088832 ≤ z.m3 ∧ z.m3 ≤ 35184372088832)
theorem Z4.Bd.bi {z : Z4} (h : z.Bd) : z.Bi := by
  obtain ⟨a, b, c, d, e, f, g, i⟩ := h
  unfold Z4.Bi; omega

set_option maxRecDepth 100000 in
set_option maxHeartbeats 8000000 in
theorem radd (a b : Z4) (w : World) (ha : a.Bd) (hb : b.Bd) :
    Calls Try.prog 54 #[.agg a.cells, .agg b.cells] w fun e w' => e = .returned (.agg (a.add b).cells) ∧ Kept [] w w' := by
  have ha := ha.bi
  have hb := hb.bi
  obtain ⟨a0, b0, a1, b1, a2, b2, a3, b3⟩ := a
  obtain ⟨c0, d0, c1, d1, c2, d2, c3, d3⟩ := b
  simp only [Z4.cells, Z4.add, Z4.Bi] at *
  obtain ⟨⟨l0, r0⟩, ⟨l1, r1⟩, ⟨l2, r2⟩, ⟨l3, r3⟩, ⟨l4, r4⟩, ⟨l5, r5⟩, ⟨l6, r6⟩, ⟨l7, r7⟩⟩ := ha
  obtain ⟨⟨s0, t0⟩, ⟨s1, t1⟩, ⟨s2, t2⟩, ⟨s3, t3⟩, ⟨s4, t4⟩, ⟨s5, t5⟩, ⟨s6, t6⟩, ⟨s7, t7⟩⟩ := hb
  have e0 : IntKind.i64.wrap (a0 + c0) = a0 + c0 := IntWalk.i64_in _ (by omega)
  have f0 : IntKind.i64.wrap (b0 + d0) = b0 + d0 := IntWalk.i64_in _ (by omega)
  have e1 : IntKind.i64.wrap (a1 + c1) = a1 + c1 := IntWalk.i64_in _ (by omega)
  have f1 : IntKind.i64.wrap (b1 + d1) = b1 + d1 := IntWalk.i64_in _ (by omega)
  have e2 : IntKind.i64.wrap (a2 + c2) = a2 + c2 := IntWalk.i64_in _ (by omega)
  have f2 : IntKind.i64.wrap (b2 + d2) = b2 + d2 := IntWalk.i64_in _ (by omega)
  have e3 : IntKind.i64.wrap (a3 + c3) = a3 + c3 := IntWalk.i64_in _ (by omega)
  have f3 : IntKind.i64.wrap (b3 + d3) = b3 + d3 := IntWalk.i64_in _ (by omega)
  go_enter Try.func54, Try.ntmps54
  clear l0 r0 l1 r1 l2 r2 l3 r3 l4 r4 l5 r5 l6 r6 l7 r7 s0 t0 s1 t1 s2 t2 s3 t3 s4 t4 s5 t5 s6 t6 s7 t7
  go_wp2_with fail
  refine wp_loop_rounds 5 ?_
  rw [rounds_succ]
  go_wp2_with fail
  go_region_held3 (fun w' => w'.cell? ⟨w.heap.size, 0, none⟩ = some (.int .i64 a0) ∧ w'.cell? ⟨w.heap.size, 1, none⟩ = some (.int .i64 b0) ∧ w'.cell? ⟨w.heap.size + 1, 0, none⟩ = some (.int .i64 c0) ∧ w'.cell? ⟨w.heap.size + 1, 1, none⟩ = some (.int .i64 d0)) (go_keep) (fail)
  go_wp2_with fail
  rw [rounds_succ]
  go_wp2_with fail
  go_region_held3 (fun w' => w'.cell? ⟨w.heap.size, 2, none⟩ = some (.int .i64 a1) ∧ w'.cell? ⟨w.heap.size, 3, none⟩ = some (.int .i64 b1) ∧ w'.cell? ⟨w.heap.size + 1, 2, none⟩ = some (.int .i64 c1) ∧ w'.cell? ⟨w.heap.size + 1, 3, none⟩ = some (.int .i64 d1)) (go_keep) (fail)
  go_wp2_with fail
  rw [rounds_succ]
  go_wp2_with fail
  go_region_held3 (fun w' => w'.cell? ⟨w.heap.size, 4, none⟩ = some (.int .i64 a2) ∧ w'.cell? ⟨w.heap.size, 5, none⟩ = some (.int .i64 b2) ∧ w'.cell? ⟨w.heap.size + 1, 4, none⟩ = some (.int .i64 c2) ∧ w'.cell? ⟨w.heap.size + 1, 5, none⟩ = some (.int .i64 d2)) (go_keep) (fail)
  go_wp2_with fail
  rw [rounds_succ]
  go_wp2_with fail
  go_region_held3 (fun w' => w'.cell? ⟨w.heap.size, 6, none⟩ = some (.int .i64 a3) ∧ w'.cell? ⟨w.heap.size, 7, none⟩ = some (.int .i64 b3) ∧ w'.cell? ⟨w.heap.size + 1, 6, none⟩ = some (.int .i64 c3) ∧ w'.cell? ⟨w.heap.size + 1, 7, none⟩ = some (.int .i64 d3)) (go_keep) (fail)
  go_wp2_with fail
  rw [rounds_succ]
  go_wp2_with fail
  refine bodyPost_ret (v := .agg #[.int .i64 (a0 + c0), .int .i64 (b0 + d0), .int .i64 (a1 + c1), .int .i64 (b1 + d1), .int .i64 (a2 + c2), .int .i64 (b2 + d2), .int .i64 (a3 + c3), .int .i64 (b3 + d3)]) (by simp [results, Try.results54, go_sem]) rfl ⟨rfl, ?_⟩
  exact (((((Kept.refl _ _).alloc _).alloc _).alloc _).alloc _).drew.drew.drew.drew

set_option maxRecDepth 100000 in
set_option maxHeartbeats 8000000 in
theorem rshift (a : Z4) (n : Int) (w : World) (ha : a.Bd) (hn : (Lit.int .i64 n).wf = true) :
    Calls Try.prog 53 #[.agg a.cells, .int .i64 n] w fun e w' => e = .returned (.agg (a.shift (quarter n)).cells) ∧ Kept [] w w' := by
  have ht : Hid (∀ (s : Nat) (x y : Int), s ≤ 9 → x.natAbs ≤ 2 ^ 45 → y.natAbs ≤ 2 ^ 45 → ∀ w, Calls Try.prog 66 #[.agg #[.int .i64 x, .int .i64 y], .int .i64 (s : Int)] w fun e w' => e = .returned (.agg #[.int .i64 (turnZ s (x, y)).1, .int .i64 (turnZ s (x, y)).2]) ∧ Kept [] w w') := fun s x y h1 h2 h3 w => by
    have := rturn s x y w (by omega) (by omega) (by omega)
    rwa [turnZ_mod] at this
  obtain ⟨g0, g1, g2, g3, g4, g5, g6, g7⟩ := ha
  have hb4 := tmod_bd n
  have hq : (n.tmod 4 < 0 → n.tmod 4 + 4 = (quarter n : Int)) ∧ (0 ≤ n.tmod 4 → n.tmod 4 = (quarter n : Int)) := by
    have h1 := quarter_go n
    have h2 := quarter_lt n
    constructor <;> intro h <;> omega
  have hql := quarter_lt n
  generalize quarter n = s at *
  have G0 := Lib.hid g0
  have G1 := Lib.hid g1
  have G2 := Lib.hid g2
  have G3 := Lib.hid g3
  have G4 := Lib.hid g4
  have G5 := Lib.hid g5
  have G6 := Lib.hid g6
  have G7 := Lib.hid g7
  clear g0 g1 g2 g3 g4 g5 g6 g7
  obtain ⟨a0, b0, a1, b1, a2, b2, a3, b3⟩ := a
  simp only [Z4.cells, Z4.shift] at *
  obtain ⟨hb4a, hb4b⟩ := hb4
  obtain ⟨hq1, hq2⟩ := hq
  by_cases hneg : n.tmod 4 < 0
  all_goals
    first | (have E := hq1 hneg) | (have E := hq2 (by omega))
    have HE := Lib.hid E
    clear E hq1 hq2
    go_enter Try.func53, Try.ntmps53
    go_wp2_with fail
    rw [HE.out]
    refine wp_loop_rounds 5 ?_
    have ct0 : Hid (∀ w, Calls Try.prog 66 #[.agg #[.int .i64 a0, .int .i64 b0], .int .i64 (0 : Int)] w fun e w' => e = .returned (.agg #[.int .i64 (a0), .int .i64 (b0)]) ∧ Kept [] w w') := fun w => ht.out (0) a0 b0 (by omega) G0.out G1.out w
    have ct1 : Hid (∀ w, Calls Try.prog 66 #[.agg #[.int .i64 a1, .int .i64 b1], .int .i64 (s : Int)] w fun e w' => e = .returned (.agg #[.int .i64 ((turnZ (s) (a1, b1)).1), .int .i64 ((turnZ (s) (a1, b1)).2)]) ∧ Kept [] w w') := fun w => ht.out (s) a1 b1 (by omega) G2.out G3.out w
    have ct2 : Hid (∀ w, Calls Try.prog 66 #[.agg #[.int .i64 a2, .int .i64 b2], .int .i64 (2 * (s : Int))] w fun e w' => e = .returned (.agg #[.int .i64 ((turnZ (2 * s) (a2, b2)).1), .int .i64 ((turnZ (2 * s) (a2, b2)).2)]) ∧ Kept [] w w') := fun w => ht.out (2 * s) a2 b2 (by omega) G4.out G5.out w
    have ct3 : Hid (∀ w, Calls Try.prog 66 #[.agg #[.int .i64 a3, .int .i64 b3], .int .i64 (3 * (s : Int))] w fun e w' => e = .returned (.agg #[.int .i64 ((turnZ (3 * s) (a3, b3)).1), .int .i64 ((turnZ (3 * s) (a3, b3)).2)]) ∧ Kept [] w w') := fun w => ht.out (3 * s) a3 b3 (by omega) G6.out G7.out w
    have oa := (own_three w #[.int .i64 a0, .int .i64 b0, .int .i64 a1, .int .i64 b1, .int .i64 a2, .int .i64 b2, .int .i64 a3, .int .i64 b3] #[.int .i64 0, .int .i64 0, .int .i64 0, .int .i64 0, .int .i64 0, .int .i64 0, .int .i64 0, .int .i64 0] #[.int .i64 0, .int .i64 0, .int .i64 0, .int .i64 0, .int .i64 0, .int .i64 0, .int .i64 0, .int .i64 0] 55 55 55).1
    have oR := (own_three w #[.int .i64 a0, .int .i64 b0, .int .i64 a1, .int .i64 b1, .int .i64 a2, .int .i64 b2, .int .i64 a3, .int .i64 b3] #[.int .i64 0, .int .i64 0, .int .i64 0, .int .i64 0, .int .i64 0, .int .i64 0, .int .i64 0, .int .i64 0] #[.int .i64 0, .int .i64 0, .int .i64 0, .int .i64 0, .int .i64 0, .int .i64 0, .int .i64 0, .int .i64 0] 55 55 55).2.1
    have oo : Own _ (w.heap.size + 1 + 1) _ _ := (own_three w #[.int .i64 a0, .int .i64 b0, .int .i64 a1, .int .i64 b1, .int .i64 a2, .int .i64 b2, .int .i64 a3, .int .i64 b3] #[.int .i64 0, .int .i64 0, .int .i64 0, .int .i64 0, .int .i64 0, .int .i64 0, .int .i64 0, .int .i64 0] #[.int .i64 0, .int .i64 0, .int .i64 0, .int .i64 0, .int .i64 0, .int .i64 0, .int .i64 0, .int .i64 0] 55 55 55).2.2
    have kk := (((Kept.refl [] w).alloc (.cells #[.int .i64 a0, .int .i64 b0, .int .i64 a1, .int .i64 b1, .int .i64 a2, .int .i64 b2, .int .i64 a3, .int .i64 b3] 55)).alloc (.cells #[.int .i64 0, .int .i64 0, .int .i64 0, .int .i64 0, .int .i64 0, .int .i64 0, .int .i64 0, .int .i64 0] 55)).alloc (.cells #[.int .i64 0, .int .i64 0, .int .i64 0, .int .i64 0, .int .i64 0, .int .i64 0, .int .i64 0, .int .i64 0] 55)
    generalize ((w.alloc (.cells #[.int .i64 a0, .int .i64 b0, .int .i64 a1, .int .i64 b1, .int .i64 a2, .int .i64 b2, .int .i64 a3, .int .i64 b3] 55)).alloc (.cells #[.int .i64 0, .int .i64 0, .int .i64 0, .int .i64 0, .int .i64 0, .int .i64 0, .int .i64 0, .int .i64 0] 55)).alloc (.cells #[.int .i64 0, .int .i64 0, .int .i64 0, .int .i64 0, .int .i64 0, .int .i64 0, .int .i64 0, .int .i64 0] 55) = w1 at *
    clear G0 G1 G2 G3 G4 G5 G6 G7 ht
    rw [rounds_succ]
    obtain ⟨x0, x1, x2, x3, x4, x5, x6, x7⟩ := oa.c8
    go_wp2_with fail
    clear x0 x1 x2 x3 x4 x5 x6 x7
    refine (ct0.out _).mono ?_; rintro e w2 ⟨rfl, k⟩
    have oa := k.own oa (by simp)
    have oR := k.own oR (by simp)
    have oo := k.own oo (by simp)
    have kk := kk.trans k
    clear k
    have lo := oo.lt
    obtain ⟨q0, q1, q2, q3, q4, q5, q6, q7⟩ := oo.c8
    obtain ⟨z0, z1, z2, z3, z4, z5, z6, z7⟩ := oo.z8
    go_wp2_with fail
    clear q0 q1 q2 q3 q4 q5 q6 q7 z0 z1 z2 z3 z4 z5 z6 z7
    have oo : Own ((w2.setCell ⟨w.heap.size + 1 + 1, 0, none⟩ (.int .i64 (a0))).setCell ⟨w.heap.size + 1 + 1, 1, none⟩ (.int .i64 (b0))) (w.heap.size + 1 + 1) #[.int .i64 (a0), .int .i64 (b0), .int .i64 0, .int .i64 0, .int .i64 0, .int .i64 0, .int .i64 0, .int .i64 0] 55 := by
      have := (oo.set 0 (.int .i64 (a0))).set 1 (.int .i64 (b0))
      simpa using this
    have oa := (oa.other (p := ⟨w.heap.size + 1 + 1, 0, none⟩) (by simp; omega) (.int .i64 (a0))).other (p := ⟨w.heap.size + 1 + 1, 1, none⟩) (by simp; omega) (.int .i64 (b0))
    have oR := (oR.other (p := ⟨w.heap.size + 1 + 1, 0, none⟩) (by simp) (.int .i64 (a0))).other (p := ⟨w.heap.size + 1 + 1, 1, none⟩) (by simp) (.int .i64 (b0))
    have kk := (kk.setCell (p := ⟨w.heap.size + 1 + 1, 0, none⟩) (Or.inr (by simp; omega)) (.int .i64 (a0))).setCell (p := ⟨w.heap.size + 1 + 1, 1, none⟩) (Or.inr (by simp; omega)) (.int .i64 (b0))
    clear lo
    generalize (w2.setCell ⟨w.heap.size + 1 + 1, 0, none⟩ (.int .i64 (a0))).setCell ⟨w.heap.size + 1 + 1, 1, none⟩ (.int .i64 (b0)) = w1 at *
    have lo := oo.lt
    rw [rounds_succ]
    obtain ⟨x0, x1, x2, x3, x4, x5, x6, x7⟩ := oa.c8
    go_wp2_with fail
    clear x0 x1 x2 x3 x4 x5 x6 x7
    refine (ct1.out _).mono ?_; rintro e w2 ⟨rfl, k⟩
    have oa := k.own oa (by simp)
    have oR := k.own oR (by simp)
    have oo := k.own oo (by simp)
    have kk := kk.trans k
    clear k
    have lo := oo.lt
    obtain ⟨q0, q1, q2, q3, q4, q5, q6, q7⟩ := oo.c8
    obtain ⟨z0, z1, z2, z3, z4, z5, z6, z7⟩ := oo.z8
    go_wp2_with fail
    clear q0 q1 q2 q3 q4 q5 q6 q7 z0 z1 z2 z3 z4 z5 z6 z7
    have oo : Own ((w2.setCell ⟨w.heap.size + 1 + 1, 2, none⟩ (.int .i64 ((turnZ (s) (a1, b1)).1))).setCell ⟨w.heap.size + 1 + 1, 3, none⟩ (.int .i64 ((turnZ (s) (a1, b1)).2))) (w.heap.size + 1 + 1) #[.int .i64 (a0), .int .i64 (b0), .int .i64 ((turnZ (s) (a1, b1)).1), .int .i64 ((turnZ (s) (a1, b1)).2), .int .i64 0, .int .i64 0, .int .i64 0, .int .i64 0] 55 := by
      have := (oo.set 2 (.int .i64 ((turnZ (s) (a1, b1)).1))).set 3 (.int .i64 ((turnZ (s) (a1, b1)).2))
      simpa using this
    have oa := (oa.other (p := ⟨w.heap.size + 1 + 1, 2, none⟩) (by simp; omega) (.int .i64 ((turnZ (s) (a1, b1)).1))).other (p := ⟨w.heap.size + 1 + 1, 3, none⟩) (by simp; omega) (.int .i64 ((turnZ (s) (a1, b1)).2))
    have oR := (oR.other (p := ⟨w.heap.size + 1 + 1, 2, none⟩) (by simp) (.int .i64 ((turnZ (s) (a1, b1)).1))).other (p := ⟨w.heap.size + 1 + 1, 3, none⟩) (by simp) (.int .i64 ((turnZ (s) (a1, b1)).2))
    have kk := (kk.setCell (p := ⟨w.heap.size + 1 + 1, 2, none⟩) (Or.inr (by simp; omega)) (.int .i64 ((turnZ (s) (a1, b1)).1))).setCell (p := ⟨w.heap.size + 1 + 1, 3, none⟩) (Or.inr (by simp; omega)) (.int .i64 ((turnZ (s) (a1, b1)).2))
    clear lo
    generalize (w2.setCell ⟨w.heap.size + 1 + 1, 2, none⟩ (.int .i64 ((turnZ (s) (a1, b1)).1))).setCell ⟨w.heap.size + 1 + 1, 3, none⟩ (.int .i64 ((turnZ (s) (a1, b1)).2)) = w1 at *
    have lo := oo.lt
    rw [rounds_succ]
    obtain ⟨x0, x1, x2, x3, x4, x5, x6, x7⟩ := oa.c8
    go_wp2_with fail
    clear x0 x1 x2 x3 x4 x5 x6 x7
    refine (ct2.out _).mono ?_; rintro e w2 ⟨rfl, k⟩
    have oa := k.own oa (by simp)
    have oR := k.own oR (by simp)
    have oo := k.own oo (by simp)
    have kk := kk.trans k
    clear k
    have lo := oo.lt
    obtain ⟨q0, q1, q2, q3, q4, q5, q6, q7⟩ := oo.c8
    obtain ⟨z0, z1, z2, z3, z4, z5, z6, z7⟩ := oo.z8
    go_wp2_with fail
    clear q0 q1 q2 q3 q4 q5 q6 q7 z0 z1 z2 z3 z4 z5 z6 z7
    have oo : Own ((w2.setCell ⟨w.heap.size + 1 + 1, 4, none⟩ (.int .i64 ((turnZ (2 * s) (a2, b2)).1))).setCell ⟨w.heap.size + 1 + 1, 5, none⟩ (.int .i64 ((turnZ (2 * s) (a2, b2)).2))) (w.heap.size + 1 + 1) #[.int .i64 (a0), .int .i64 (b0), .int .i64 ((turnZ (s) (a1, b1)).1), .int .i64 ((turnZ (s) (a1, b1)).2), .int .i64 ((turnZ (2 * s) (a2, b2)).1), .int .i64 ((turnZ (2 * s) (a2, b2)).2), .int .i64 0, .int .i64 0] 55 := by
      have := (oo.set 4 (.int .i64 ((turnZ (2 * s) (a2, b2)).1))).set 5 (.int .i64 ((turnZ (2 * s) (a2, b2)).2))
      simpa using this
    have oa := (oa.other (p := ⟨w.heap.size + 1 + 1, 4, none⟩) (by simp; omega) (.int .i64 ((turnZ (2 * s) (a2, b2)).1))).other (p := ⟨w.heap.size + 1 + 1, 5, none⟩) (by simp; omega) (.int .i64 ((turnZ (2 * s) (a2, b2)).2))
    have oR := (oR.other (p := ⟨w.heap.size + 1 + 1, 4, none⟩) (by simp) (.int .i64 ((turnZ (2 * s) (a2, b2)).1))).other (p := ⟨w.heap.size + 1 + 1, 5, none⟩) (by simp) (.int .i64 ((turnZ (2 * s) (a2, b2)).2))
    have kk := (kk.setCell (p := ⟨w.heap.size + 1 + 1, 4, none⟩) (Or.inr (by simp; omega)) (.int .i64 ((turnZ (2 * s) (a2, b2)).1))).setCell (p := ⟨w.heap.size + 1 + 1, 5, none⟩) (Or.inr (by simp; omega)) (.int .i64 ((turnZ (2 * s) (a2, b2)).2))
    clear lo
    generalize (w2.setCell ⟨w.heap.size + 1 + 1, 4, none⟩ (.int .i64 ((turnZ (2 * s) (a2, b2)).1))).setCell ⟨w.heap.size + 1 + 1, 5, none⟩ (.int .i64 ((turnZ (2 * s) (a2, b2)).2)) = w1 at *
    have lo := oo.lt
    rw [rounds_succ]
    obtain ⟨x0, x1, x2, x3, x4, x5, x6, x7⟩ := oa.c8
    go_wp2_with fail
    clear x0 x1 x2 x3 x4 x5 x6 x7
    refine (ct3.out _).mono ?_; rintro e w2 ⟨rfl, k⟩
    have oa := k.own oa (by simp)
    have oR := k.own oR (by simp)
    have oo := k.own oo (by simp)
    have kk := kk.trans k
    clear k
    have lo := oo.lt
    obtain ⟨q0, q1, q2, q3, q4, q5, q6, q7⟩ := oo.c8
    obtain ⟨z0, z1, z2, z3, z4, z5, z6, z7⟩ := oo.z8
    go_wp2_with fail
    clear q0 q1 q2 q3 q4 q5 q6 q7 z0 z1 z2 z3 z4 z5 z6 z7
    have oo : Own ((w2.setCell ⟨w.heap.size + 1 + 1, 6, none⟩ (.int .i64 ((turnZ (3 * s) (a3, b3)).1))).setCell ⟨w.heap.size + 1 + 1, 7, none⟩ (.int .i64 ((turnZ (3 * s) (a3, b3)).2))) (w.heap.size + 1 + 1) #[.int .i64 (a0), .int .i64 (b0), .int .i64 ((turnZ (s) (a1, b1)).1), .int .i64 ((turnZ (s) (a1, b1)).2), .int .i64 ((turnZ (2 * s) (a2, b2)).1), .int .i64 ((turnZ (2 * s) (a2, b2)).2), .int .i64 ((turnZ (3 * s) (a3, b3)).1), .int .i64 ((turnZ (3 * s) (a3, b3)).2)] 55 := by
      have := (oo.set 6 (.int .i64 ((turnZ (3 * s) (a3, b3)).1))).set 7 (.int .i64 ((turnZ (3 * s) (a3, b3)).2))
      simpa using this
    have oa := (oa.other (p := ⟨w.heap.size + 1 + 1, 6, none⟩) (by simp; omega) (.int .i64 ((turnZ (3 * s) (a3, b3)).1))).other (p := ⟨w.heap.size + 1 + 1, 7, none⟩) (by simp; omega) (.int .i64 ((turnZ (3 * s) (a3, b3)).2))
    have oR := (oR.other (p := ⟨w.heap.size + 1 + 1, 6, none⟩) (by simp) (.int .i64 ((turnZ (3 * s) (a3, b3)).1))).other (p := ⟨w.heap.size + 1 + 1, 7, none⟩) (by simp) (.int .i64 ((turnZ (3 * s) (a3, b3)).2))
    have kk := (kk.setCell (p := ⟨w.heap.size + 1 + 1, 6, none⟩) (Or.inr (by simp; omega)) (.int .i64 ((turnZ (3 * s) (a3, b3)).1))).setCell (p := ⟨w.heap.size + 1 + 1, 7, none⟩) (Or.inr (by simp; omega)) (.int .i64 ((turnZ (3 * s) (a3, b3)).2))
    clear lo
    generalize (w2.setCell ⟨w.heap.size + 1 + 1, 6, none⟩ (.int .i64 ((turnZ (3 * s) (a3, b3)).1))).setCell ⟨w.heap.size + 1 + 1, 7, none⟩ (.int .i64 ((turnZ (3 * s) (a3, b3)).2)) = w1 at *
    have lo := oo.lt
    rw [rounds_succ]
    go_wp2_with (first | (refine wpList_load_row rfl _ _ rfl _ rfl _ _ _ _ oo Try.underlying55 rfl (by kernel_rfl) ?_) | (refine wpList_store_row rfl _ _ _ rfl _ _ rfl rfl _ _ oR (by kernel_rfl) rfl (by kernel_rfl) ?_))
    refine bodyPost_ret (v := .agg #[.int .i64 (a0), .int .i64 (b0), .int .i64 ((turnZ (s) (a1, b1)).1), .int .i64 ((turnZ (s) (a1, b1)).2), .int .i64 ((turnZ (2 * s) (a2, b2)).1), .int .i64 ((turnZ (2 * s) (a2, b2)).2), .int .i64 ((turnZ (3 * s) (a3, b3)).1), .int .i64 ((turnZ (3 * s) (a3, b3)).2)]) ?_ ?_ ?_
    · exact ret_row Try.results53 rfl (oR.setRow _) Try.underlying55 rfl (by kernel_rfl)
    · rfl
    · refine ⟨rfl, kk.setRow (Or.inr ?_) _⟩; omega
end Go.Proofs.Ytkghkkfcgegmeaa
