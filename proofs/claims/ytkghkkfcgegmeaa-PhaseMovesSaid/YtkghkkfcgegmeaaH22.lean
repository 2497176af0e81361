/- The walk of the statement on sums of phases, and phases turned on. -/
import Derived.Test.YtkghkkfcgegmeaaH21
import Derived.Deep.RegionHeld3
import Derived.Deep.RegionWith
import Derived.Deep.DeepCutAuto
namespace Go.Proofs.Ytkghkkfcgegmeaa
open Go.RowKit Fl
set_option linter.unusedVariables false
set_option linter.unusedSimpArgs false
attribute [local go_sem] eqC4 eqI4 neqI4 neqC4
attribute [local go_sem ↓] Go.wp_at_zero Go.wp_at_succ

theorem kfro0 {W w1 : World} (h : Kept [] W w1) : ∀ b o, b < W.heap.size → w1.frozen? ⟨b, o, none⟩ = W.frozen? ⟨b, o, none⟩ := fun b o hb => h.frozen (a := ⟨b, o, none⟩) hb (by simp)
/-- whole numbers as complex ones, by their bits. -/
def Z4.p4 (z : Z4) : P4 := ⟨F z.n0, F z.m0, F z.n1, F z.m1, F z.n2, F z.m2, F z.n3, F z.m3⟩
theorem Z4.p4_v (z : Z4) : z.p4.v = z.ph := rfl
def P4.zero : P4 := ⟨0, 0, 0, 0, 0, 0, 0, 0⟩
def Z4.zero : Z4 := ⟨0, 0, 0, 0, 0, 0, 0, 0⟩
theorem lplain_p4 {z : Z4} (h : z.n0.natAbs ≤ 2 ^ 53 ∧ z.m0.natAbs ≤ 2 ^ 53 ∧ z.n1.natAbs ≤ 2 ^ 53 ∧ z.m1.natAbs ≤ 2 ^ 53 ∧ z.n2.natAbs ≤ 2 ^ 53 ∧ z.m2.natAbs ≤ 2 ^ 53 ∧ z.n3.natAbs ≤ 2 ^ 53 ∧ z.m3.natAbs ≤ 2 ^ 53) (w : World) :
    Calls Try.prog 41 #[z.p4.v] w fun e w' => e = .returned (.bool true) ∧ Kept [] w w' := by
  obtain ⟨a, b, c, d, e, f, g, i⟩ := h
  refine (lplain34 _ _ _ _ _ _ _ _ w (Pl_F a) (Pl_F b) (Pl_F c) (Pl_F d) (Pl_F e) (Pl_F f) (Pl_F g) (Pl_F i)).mono fun e w' ⟨he, hw⟩ => ⟨he, ?_⟩
  subst hw; exact (Kept.refl _ _).alloc _
theorem lplain_zero (w : World) :
    Calls Try.prog 41 #[P4.zero.v] w fun e w' => e = .returned (.bool true) ∧ Kept [] w w' := by
  refine (lplain34 _ _ _ _ _ _ _ _ w Pl_0 Pl_0 Pl_0 Pl_0 Pl_0 Pl_0 Pl_0 Pl_0).mono fun e w' ⟨he, hw⟩ => ⟨he, ?_⟩
  subst hw; exact (Kept.refl _ _).alloc _
theorem feq_p4 {z : Z4} (h : z.n0.natAbs ≤ 2 ^ 53 ∧ z.m0.natAbs ≤ 2 ^ 53 ∧ z.n1.natAbs ≤ 2 ^ 53 ∧ z.m1.natAbs ≤ 2 ^ 53 ∧ z.n2.natAbs ≤ 2 ^ 53 ∧ z.m2.natAbs ≤ 2 ^ 53 ∧ z.n3.natAbs ≤ 2 ^ 53 ∧ z.m3.natAbs ≤ 2 ^ 53) :
    Op.floatEq .f64 z.p4.a0 z.p4.a0 = true ∧ Op.floatEq .f64 z.p4.b0 z.p4.b0 = true ∧ Op.floatEq .f64 z.p4.a1 z.p4.a1 = true ∧ Op.floatEq .f64 z.p4.b1 z.p4.b1 = true ∧ Op.floatEq .f64 z.p4.a2 z.p4.a2 = true ∧ Op.floatEq .f64 z.p4.b2 z.p4.b2 = true ∧ Op.floatEq .f64 z.p4.a3 z.p4.a3 = true ∧ Op.floatEq .f64 z.p4.b3 z.p4.b3 = true := by
  obtain ⟨a, b, c, d, e, f, g, i⟩ := h
  have k : ∀ x : Int, x.natAbs ≤ 2 ^ 53 → Op.floatEq .f64 (F x) (F x) = true := fun x hx => by rw [feqF hx hx]; simp
  exact ⟨k _ a, k _ b, k _ c, k _ d, k _ e, k _ f, k _ g, k _ i⟩
theorem Z4.Bd.le {z : Z4} (h : z.Bd) : z.n0.natAbs ≤ 2 ^ 53 ∧ z.m0.natAbs ≤ 2 ^ 53 ∧ z.n1.natAbs ≤ 2 ^ 53 ∧ z.m1.natAbs ≤ 2 ^ 53 ∧ z.n2.natAbs ≤ 2 ^ 53 ∧ z.m2.natAbs ≤ 2 ^ 53 ∧ z.n3.natAbs ≤ 2 ^ 53 ∧ z.m3.natAbs ≤ 2 ^ 53 := by
  obtain ⟨a, b, c, d, e, f, g, i⟩ := h; omega
theorem Z4.shift_bd {z : Z4} (h : z.Bd) (n : Nat) : (z.shift n).Bd := by
  obtain ⟨a, b, c, d, e, f, g, i⟩ := h
  have h1 := turnZ_bd (k := n) c d
  have h2 := turnZ_bd (k := 2 * n) e f
  have h3 := turnZ_bd (k := 3 * n) g i
  exact ⟨a, b, h1.1, h1.2, h2.1, h2.2, h3.1, h3.2⟩
theorem le2 {x y : Int} (hx : x.natAbs ≤ 2 ^ 45) (hy : y.natAbs ≤ 2 ^ 45) : (x + y).natAbs ≤ 2 ^ 53 := by omega
theorem Z4.add_le {a b : Z4} (ha : a.Bd) (hb : b.Bd) : (a.add b).n0.natAbs ≤ 2 ^ 53 ∧ (a.add b).m0.natAbs ≤ 2 ^ 53 ∧ (a.add b).n1.natAbs ≤ 2 ^ 53 ∧ (a.add b).m1.natAbs ≤ 2 ^ 53 ∧ (a.add b).n2.natAbs ≤ 2 ^ 53 ∧ (a.add b).m2.natAbs ≤ 2 ^ 53 ∧ (a.add b).n3.natAbs ≤ 2 ^ 53 ∧ (a.add b).m3.natAbs ≤ 2 ^ 53 := by
  obtain ⟨a0, b0, c0, d0, e0, f0, g0, i0⟩ := ha
  obtain ⟨a1, b1, c1, d1, e1, f1, g1, i1⟩ := hb
  exact ⟨le2 a0 a1, le2 b0 b1, le2 c0 c1, le2 d0 d1, le2 e0 e1, le2 f0 f1, le2 g0 g1, le2 i0 i1⟩
/-- the sum and the turned ones, whatever came. -/
def sumP (p r : P4) : P4 := if p.ok && r.ok then (p.z.add r.z).p4 else P4.zero
def turnP (p : P4) (n : Int) : P4 := if p.ok then (p.z.shift (quarter n)).p4 else P4.zero
def P4.zz (p : P4) : Z4 := if p.ok then p.z else Z4.zero
theorem lread' (p : P4) (w : World) (hl : p.lt) : Calls Try.prog 27 #[p.v] w fun e w' => e = .returned (.tuple #[.agg p.zz.cells, .bool p.ok]) ∧ Kept [] w w' := by
  refine (lread p w hl).mono fun e w' ⟨he, hk⟩ => ⟨?_, hk⟩
  rw [he]; unfold P4.zz; cases p.ok <;> rfl
theorem padd' (p r : P4) (w : World) (hp : p.lt) (hr : r.lt) : Calls Try.prog 52 #[p.v, r.v] w fun e w' => e = .returned (sumP p r).v ∧ Kept [] w w' := by
  refine (padd p r w hp hr).mono fun e w' ⟨he, hk⟩ => ⟨?_, hk⟩
  rw [he]; unfold sumP; cases (p.ok && r.ok) <;> rfl
theorem pshift' (p : P4) (n : Int) (w : World) (hp : p.lt) (hn : (Lit.int .i64 n).wf = true) : Calls Try.prog 51 #[p.v, .int .i64 n] w fun e w' => e = .returned (turnP p n).v ∧ Kept [] w w' := by
  refine (pshift p n w hp hn).mono fun e w' ⟨he, hk⟩ => ⟨?_, hk⟩
  rw [he]; unfold turnP; cases p.ok <;> rfl
theorem plain_sum (p r : P4) (w : World) (hp : p.lt) (hr : r.lt) : Calls Try.prog 41 #[(sumP p r).v] w fun e w' => e = .returned (.bool true) ∧ Kept [] w w' := by
  unfold sumP
  cases h : p.ok && r.ok
  · exact lplain_zero w
  · simp only [Bool.and_eq_true] at h
    exact lplain_p4 (Z4.add_le (P4.isZ hp (P4.z_ok h.1).1).2 (P4.isZ hr (P4.z_ok h.2).1).2) w
theorem plain_turn (p : P4) (n : Int) (w : World) (hp : p.lt) : Calls Try.prog 41 #[(turnP p n).v] w fun e w' => e = .returned (.bool true) ∧ Kept [] w w' := by
  unfold turnP
  cases h : p.ok
  · exact lplain_zero w
  · exact lplain_p4 (Z4.shift_bd (P4.isZ hp (P4.z_ok h).1).2 _).le w
theorem lnums' (z : Z4) (w : World) : Calls Try.prog 39 #[.agg z.cells] w fun e w' => e = .returned z.p4.v ∧ Kept [] w w' := lnums z w
/-- what is known of the turned ones. -/
theorem turnP_no {p : P4} {n : Int} (h : p.ok = false) : turnP p n = P4.zero := by simp [turnP, h]
theorem turnP_yes {p : P4} {n : Int} (h : p.ok = true) : turnP p n = (p.zz.shift (quarter n)).p4 := by simp [turnP, P4.zz, h]
theorem sumP_no {p r : P4} (h : (p.ok && r.ok) = false) : sumP p r = P4.zero := by simp [sumP, h]
theorem sumP_yes {p r : P4} (h1 : p.ok = true) (h2 : r.ok = true) : sumP p r = (p.zz.add r.zz).p4 := by simp [sumP, P4.zz, h1, h2]
theorem zz_bd {p : P4} (hp : p.lt) (h : p.ok = true) : p.zz.Bd := by
  have := (P4.isZ hp (P4.z_ok h).1).2
  simpa [P4.zz, h] using this

def P4.partsA (p : P4) : Array Value := #[.float .f64 p.a0, .float .f64 p.a1, .float .f64 p.a2, .float .f64 p.a3, .float .f64 p.b0, .float .f64 p.b1, .float .f64 p.b2, .float .f64 p.b3]
def P4.vA (p : P4) : Array Value := #[.complex .f64 p.a0 p.b0, .complex .f64 p.a1 p.b1, .complex .f64 p.a2 p.b2, .complex .f64 p.a3 p.b3]
set_option maxRecDepth 100000 in
set_option maxHeartbeats 4000000 in
theorem lfour_exact (p : P4) (w : World) :
    Calls Try.prog 25 #[p.parts] w fun e w' => e = .returned p.v ∧ ((((((w.alloc (.cells p.partsA 47)).alloc (.cells p.vA 48)).alloc (.cells p.vA 48)).drew).drew).drew).drew = w' := by
  obtain ⟨a0, b0, a1, b1, a2, b2, a3, b3⟩ := p
  simp only [P4.parts, P4.v, P4.partsA, P4.vA]
  go_enter Try.func25, Try.ntmps25
  go_wp2_with fail
  refine wp_loop_rounds 5 ?_
  rw [rounds_succ]
  go_wp2_with fail
  go_region
  go_wp2_with fail
  rw [rounds_succ]
  go_wp2_with fail
  go_region
  go_wp2_with fail
  rw [rounds_succ]
  go_wp2_with fail
  go_region
  go_wp2_with fail
  rw [rounds_succ]
  go_wp2_with fail
  go_region
  go_wp2_with fail
  rw [rounds_succ]
  go_wp2_with fail
  refine bodyPost_ret (v := .agg #[.complex .f64 a0 b0, .complex .f64 a1 b1, .complex .f64 a2 b2, .complex .f64 a3 b3]) (by simp [results, Try.results25, go_sem]) rfl ⟨rfl, rfl⟩

theorem own_at {w : World} {n : Nat} (hn : n = w.heap.size) (cs : Array Value) (t : TypeId) : Own (w.alloc (.cells cs t)) n cs t := by subst hn; exact Own.new _ _ _
theorem own_S48 {w : World} {b c : Nat} {x0 x1 x2 x3 y0 y1 y2 y3 y4 y5 y6 y7 : Value} {t u : TypeId} (h : Own w b #[x0, x1, x2, x3] t) (k : Own w c #[y0, y1, y2, y3, y4, y5, y6, y7] u) : w.cell? ⟨b, 0, none⟩ = some x0 ∧ w.cell? ⟨b, 1, none⟩ = some x1 ∧ w.cell? ⟨b, 2, none⟩ = some x2 ∧ w.cell? ⟨b, 3, none⟩ = some x3 ∧ w.cell? ⟨c, 0, none⟩ = some y0 ∧ w.cell? ⟨c, 1, none⟩ = some y1 ∧ w.cell? ⟨c, 2, none⟩ = some y2 ∧ w.cell? ⟨c, 3, none⟩ = some y3 ∧ w.cell? ⟨c, 4, none⟩ = some y4 ∧ w.cell? ⟨c, 5, none⟩ = some y5 ∧ w.cell? ⟨c, 6, none⟩ = some y6 ∧ w.cell? ⟨c, 7, none⟩ = some y7 :=
  ⟨h.cell 0 (by simp), h.cell 1 (by simp), h.cell 2 (by simp), h.cell 3 (by simp), k.cell 0 (by simp), k.cell 1 (by simp), k.cell 2 (by simp), k.cell 3 (by simp), k.cell 4 (by simp), k.cell 5 (by simp), k.cell 6 (by simp), k.cell 7 (by simp)⟩
theorem own_S488 {w : World} {b c d : Nat} {x0 x1 x2 x3 y0 y1 y2 y3 y4 y5 y6 y7 z0 z1 z2 z3 z4 z5 z6 z7 : Value} {t u v : TypeId} (h : Own w b #[x0, x1, x2, x3] t) (k : Own w c #[y0, y1, y2, y3, y4, y5, y6, y7] u) (l : Own w d #[z0, z1, z2, z3, z4, z5, z6, z7] v) : w.cell? ⟨b, 0, none⟩ = some x0 ∧ w.cell? ⟨b, 1, none⟩ = some x1 ∧ w.cell? ⟨b, 2, none⟩ = some x2 ∧ w.cell? ⟨b, 3, none⟩ = some x3 ∧ w.cell? ⟨c, 0, none⟩ = some y0 ∧ w.cell? ⟨c, 1, none⟩ = some y1 ∧ w.cell? ⟨c, 2, none⟩ = some y2 ∧ w.cell? ⟨c, 3, none⟩ = some y3 ∧ w.cell? ⟨c, 4, none⟩ = some y4 ∧ w.cell? ⟨c, 5, none⟩ = some y5 ∧ w.cell? ⟨c, 6, none⟩ = some y6 ∧ w.cell? ⟨c, 7, none⟩ = some y7 ∧ w.cell? ⟨d, 0, none⟩ = some z0 ∧ w.cell? ⟨d, 1, none⟩ = some z1 ∧ w.cell? ⟨d, 2, none⟩ = some z2 ∧ w.cell? ⟨d, 3, none⟩ = some z3 ∧ w.cell? ⟨d, 4, none⟩ = some z4 ∧ w.cell? ⟨d, 5, none⟩ = some z5 ∧ w.cell? ⟨d, 6, none⟩ = some z6 ∧ w.cell? ⟨d, 7, none⟩ = some z7 :=
  ⟨h.cell 0 (by simp), h.cell 1 (by simp), h.cell 2 (by simp), h.cell 3 (by simp), k.cell 0 (by simp), k.cell 1 (by simp), k.cell 2 (by simp), k.cell 3 (by simp), k.cell 4 (by simp), k.cell 5 (by simp), k.cell 6 (by simp), k.cell 7 (by simp), l.cell 0 (by simp), l.cell 1 (by simp), l.cell 2 (by simp), l.cell 3 (by simp), l.cell 4 (by simp), l.cell 5 (by simp), l.cell 6 (by simp), l.cell 7 (by simp)⟩
set_option maxRecDepth 100000 in
set_option maxHeartbeats 8000000 in
theorem sums_walk (p r : P4) (n : Int) (w : World) (hp : p.lt) (hr : r.lt) (hn : (Lit.int .i64 n).wf = true) :
    Calls Try.prog 12 #[p.parts, r.parts, .int .i64 n] w fun e w' => e = .returned (.bool true) ∧ Below w.heap.size w w' := by
  have h1 := fun w => lfour_exact p w
  have h2 := fun w => lfour_exact r w
  have h3 := fun w => lread' p w hp
  have h4 := fun w => lread' r w hr
  have h5 := fun w => padd' p r w hp hr
  have h6 := fun w => pshift' p n w hp hn
  have h7 := fun w => plain_sum p r w hp hr
  have h8 := fun w => plain_turn p n w hp
  have h9 := fun w => lawake34 w
  have h10 : p.ok = false → turnP p n = P4.zero := fun h => turnP_no h
  have h11 : p.ok = true → (∀ w, Calls Try.prog 53 #[.agg p.zz.cells, .int .i64 n] w fun e w' => e = .returned (.agg (p.zz.shift (quarter n)).cells) ∧ Kept [] w w') ∧ (∀ w, Calls Try.prog 39 #[.agg (p.zz.shift (quarter n)).cells] w fun e w' => e = .returned (turnP p n).v ∧ Kept [] w w') ∧ (Op.floatEq .f64 (turnP p n).a0 (turnP p n).a0 = true ∧ Op.floatEq .f64 (turnP p n).b0 (turnP p n).b0 = true ∧ Op.floatEq .f64 (turnP p n).a1 (turnP p n).a1 = true ∧ Op.floatEq .f64 (turnP p n).b1 (turnP p n).b1 = true ∧ Op.floatEq .f64 (turnP p n).a2 (turnP p n).a2 = true ∧ Op.floatEq .f64 (turnP p n).b2 (turnP p n).b2 = true ∧ Op.floatEq .f64 (turnP p n).a3 (turnP p n).a3 = true ∧ Op.floatEq .f64 (turnP p n).b3 (turnP p n).b3 = true) := fun h => by
    have hb := zz_bd hp h
    rw [turnP_yes h]
    exact ⟨fun w => rshift p.zz n w hb hn, fun w => lnums' _ w, feq_p4 (Z4.shift_bd hb _).le⟩
  have h12 : (p.ok && r.ok) = false → sumP p r = P4.zero := fun h => sumP_no h
  have h13 : p.ok = true → r.ok = true → (∀ w, Calls Try.prog 54 #[.agg p.zz.cells, .agg r.zz.cells] w fun e w' => e = .returned (.agg (p.zz.add r.zz).cells) ∧ Kept [] w w') ∧ (∀ w, Calls Try.prog 39 #[.agg (p.zz.add r.zz).cells] w fun e w' => e = .returned (sumP p r).v ∧ Kept [] w w') ∧ (Op.floatEq .f64 (sumP p r).a0 (sumP p r).a0 = true ∧ Op.floatEq .f64 (sumP p r).b0 (sumP p r).b0 = true ∧ Op.floatEq .f64 (sumP p r).a1 (sumP p r).a1 = true ∧ Op.floatEq .f64 (sumP p r).b1 (sumP p r).b1 = true ∧ Op.floatEq .f64 (sumP p r).a2 (sumP p r).a2 = true ∧ Op.floatEq .f64 (sumP p r).b2 (sumP p r).b2 = true ∧ Op.floatEq .f64 (sumP p r).a3 (sumP p r).a3 = true ∧ Op.floatEq .f64 (sumP p r).b3 (sumP p r).b3 = true) := fun h k => by
    have hb := zz_bd hp h
    have hc := zz_bd hr k
    rw [sumP_yes h k]
    exact ⟨fun w => radd p.zz r.zz w hb hc, fun w => lnums' _ w, feq_p4 (Z4.add_le hb hc)⟩
  have f0 : Op.floatEq .f64 0 0 = true := by decide +kernel
  generalize turnP p n = T at *
  generalize sumP p r = S at *
  generalize hX : p.zz = X at *
  generalize hY : r.zz = Y at *
  generalize p.ok = okp at *
  generalize r.ok = okr at *
  generalize X.shift (quarter n) = XS at *
  generalize X.add Y = XY at *
  clear hX hY hp hr hn
  have H1 := Lib.hid h1
  have H2 := Lib.hid h2
  have H3 := Lib.hid h3
  have H4 := Lib.hid h4
  have H5 := Lib.hid h5
  have H6 := Lib.hid h6
  have H7 := Lib.hid h7
  have H8 := Lib.hid h8
  have H9 := Lib.hid h9
  have H10 := Lib.hid h10
  have H11 := Lib.hid h11
  have H12 := Lib.hid h12
  have H13 := Lib.hid h13
  clear h1 h2 h3 h4 h5 h6 h7 h8 h9 h10 h11 h12 h13
  obtain ⟨a0, b0, a1, b1, a2, b2, a3, b3⟩ := p
  obtain ⟨c0, d0, c1, d1, c2, d2, c3, d3⟩ := r
  obtain ⟨s0, s1, s2, s3, s4, s5, s6, s7⟩ := S
  obtain ⟨t0, t1, t2, t3, t4, t5, t6, t7⟩ := T
  obtain ⟨x0, x1, x2, x3, x4, x5, x6, x7⟩ := X
  obtain ⟨y0, y1, y2, y3, y4, y5, y6, y7⟩ := Y
  simp only [P4.parts, P4.partsA, P4.vA, P4.v, Z4.cells, P4.zero, P4.mk.injEq] at *
  go_enter Try.func12, Try.ntmps12
  go_upto_region 1 with fail
  go_cut [7, 8] (fun v7 v8 wx => ∃ g h : Nat, v7 = .pointer (some ⟨g, 0, none⟩) ∧ v8 = .pointer (some ⟨h, 0, none⟩) ∧ Own wx g #[.complex .f64 a0 b0, .complex .f64 a1 b1, .complex .f64 a2 b2, .complex .f64 a3 b3] 48 ∧ Own wx h #[.complex .f64 c0 d0, .complex .f64 c1 d1, .complex .f64 c2 d2, .complex .f64 c3 d3] 48 ∧ Kept [] w wx)
  case first =>
    go_region_held3 (fun w' => w'.cell? ⟨w.heap.size, 0, none⟩ = some (.float .f64 a0) ∧ w'.cell? ⟨w.heap.size, 1, none⟩ = some (.float .f64 a1) ∧ w'.cell? ⟨w.heap.size, 2, none⟩ = some (.float .f64 a2) ∧ w'.cell? ⟨w.heap.size, 3, none⟩ = some (.float .f64 a3) ∧ w'.cell? ⟨w.heap.size, 4, none⟩ = some (.float .f64 b0) ∧ w'.cell? ⟨w.heap.size, 5, none⟩ = some (.float .f64 b1) ∧ w'.cell? ⟨w.heap.size, 6, none⟩ = some (.float .f64 b2) ∧ w'.cell? ⟨w.heap.size, 7, none⟩ = some (.float .f64 b3) ∧ w'.cell? ⟨w.heap.size + 1, 0, none⟩ = some (.float .f64 c0) ∧ w'.cell? ⟨w.heap.size + 1, 1, none⟩ = some (.float .f64 c1) ∧ w'.cell? ⟨w.heap.size + 1, 2, none⟩ = some (.float .f64 c2) ∧ w'.cell? ⟨w.heap.size + 1, 3, none⟩ = some (.float .f64 c3) ∧ w'.cell? ⟨w.heap.size + 1, 4, none⟩ = some (.float .f64 d0) ∧ w'.cell? ⟨w.heap.size + 1, 5, none⟩ = some (.float .f64 d1) ∧ w'.cell? ⟨w.heap.size + 1, 6, none⟩ = some (.float .f64 d2) ∧ w'.cell? ⟨w.heap.size + 1, 7, none⟩ = some (.float .f64 d3)) (go_simp) (first | (go_at_call_of 25 (Value.float FloatKind.f64 a0); refine (H1.out _).mono ?_; rintro e w7 ⟨rfl, rfl⟩) | (go_at_call_of 25 (Value.float FloatKind.f64 c0); refine (H2.out _).mono ?_; rintro e w8 ⟨rfl, rfl⟩))
    all_goals go_wp2_with fail
    all_goals go_meet
    all_goals
      case rel =>
        refine ⟨_, _, rfl, rfl, ?_, ?_, ?_⟩
        · repeat' first | (refine own_at ?_ _ _; simp; done) | refine Own.alloc ?_ _ | refine Own.drew ?_
        · repeat' first | (refine own_at ?_ _ _; simp; done) | refine Own.alloc ?_ _ | refine Own.drew ?_
        · repeat' first | exact Kept.refl _ _ | refine Kept.alloc ?_ _ | refine Kept.drew ?_
  case rest =>
    obtain ⟨g, h, rfl, rfl, op, oq, kk⟩ := hcut
    clear H1 H2
    have lp := op.lt
    have lq := oq.lt
    obtain ⟨p0, p1, p2, p3⟩ := op.c4
    go_wp2_with fail
    refine (H3.out _).mono ?_; rintro e w2 ⟨rfl, k⟩
    clear p0 p1 p2 p3
    have op := k.own op (by simp)
    have oq := k.own oq (by simp)
    have kk := kk.trans k
    clear k lp lq
    have lq := oq.lt
    obtain ⟨q0, q1, q2, q3⟩ := oq.c4
    go_wp2_with fail
    refine (H4.out _).mono ?_; rintro e w3 ⟨rfl, k⟩
    clear q0 q1 q2 q3
    have ox := k.own (Own.new w2 _ _) (by simp)
    have op := k.own (op.alloc _) (by simp)
    have oq := k.own (oq.alloc _) (by simp)
    have kk := (kk.alloc _).trans k
    clear k lq
    have lp := op.lt
    have lq := oq.lt
    obtain ⟨p0, p1, p2, p3⟩ := op.c4
    obtain ⟨q0, q1, q2, q3⟩ := oq.c4
    go_wp2_with fail
    refine (H5.out _).mono ?_; rintro e w4 ⟨rfl, k⟩
    clear p0 p1 p2 p3 q0 q1 q2 q3
    have ox := k.own (ox.alloc _) (by simp)
    have op := k.own (op.alloc _) (by simp)
    have oy := k.own (Own.new w3 _ _) (by simp)
    have kk := (kk.alloc _).trans k
    clear k lp lq oq
    have lp := op.lt
    obtain ⟨p0, p1, p2, p3⟩ := op.c4
    go_wp2_with fail
    refine (H6.out _).mono ?_; rintro e w5 ⟨rfl, k⟩
    clear p0 p1 p2 p3
    have os := k.own (Own.new w4 _ _) (by simp)
    have ox := k.own (ox.alloc _) (by simp)
    have oy := k.own (oy.alloc _) (by simp)
    have kk := (kk.alloc _).trans k
    clear k lp op
    have ls := os.lt
    obtain ⟨p0, p1, p2, p3⟩ := os.c4
    go_wp2_with fail
    refine (H7.out _).mono ?_; rintro e w6 ⟨rfl, k⟩
    clear p0 p1 p2 p3
    have ot := k.own (Own.new w5 _ _) (by simp)
    have os := k.own (os.alloc _) (by simp)
    have ox := k.own (ox.alloc _) (by simp)
    have oy := k.own (oy.alloc _) (by simp)
    have kk := (kk.alloc _).trans k
    clear k ls
    have lt := ot.lt
    obtain ⟨p0, p1, p2, p3⟩ := ot.c4
    go_wp2_with fail
    refine (H8.out _).mono ?_; rintro e w7 ⟨rfl, k⟩
    clear p0 p1 p2 p3
    have ot := k.own ot (by simp)
    have os := k.own os (by simp)
    have ox := k.own ox (by simp)
    have oy := k.own oy (by simp)
    have kk := kk.trans k
    clear k lt
    go_wp2_with fail
    refine (H9.out _).mono ?_; rintro e w8 ⟨rfl, k⟩
    have ot := k.own ot (by simp)
    have os := k.own os (by simp)
    have ox := k.own ox (by simp)
    have oy := k.own oy (by simp)
    have kk := kk.trans k
    clear k H3 H4 H5 H6 H7 H8 H9
    have lt := ot.lt
    have ls := os.lt
    have lx := ox.lt
    have ly := oy.lt
    go_wp2_with fail
    obtain ⟨i0, i1, i2, i3⟩ := ot.c4
    obtain ⟨j0, j1, j2, j3⟩ := os.c4
    cases okp
    · obtain ⟨rfl, rfl, rfl, rfl, rfl, rfl, rfl, rfl⟩ := H10.out (by trivial)
      obtain ⟨rfl, rfl, rfl, rfl, rfl, rfl, rfl, rfl⟩ := H12.out (by first | rfl | trivial)
      clear H10 H11 H12 H13
      go_region
      all_goals go_wp2_with fail
      all_goals go_ret
      all_goals exact ⟨rfl, kk.drew.below⟩
    · obtain ⟨hsh, hnu, e0, e1, e2, e3, e4, e5, e6, e7⟩ := H11.out (by trivial)
      have HSh := Lib.hid hsh
      have HNu := Lib.hid hnu
      clear hsh hnu H10 H11
      obtain ⟨n0, n1, n2, n3, n4, n5, n6, n7⟩ := ox.c8
      first | (go_region_with (first | (go_at_call 53; refine (HSh.out _).mono ?_; rintro e w9 ⟨rfl, k9⟩; have otA := k9.own (b := w5.heap.size) (cs := #[.complex .f64 t0 t1, .complex .f64 t2 t3, .complex .f64 t4 t5, .complex .f64 t6 t7]) (t := 48) (by repeat' first | exact otB | exact otA | exact ot | refine Own.drew ?_ | refine Own.alloc ?_ _) (by simp); have osA := k9.own (b := w4.heap.size) (cs := #[.complex .f64 s0 s1, .complex .f64 s2 s3, .complex .f64 s4 s5, .complex .f64 s6 s7]) (t := 48) (by repeat' first | exact osB | exact osA | exact os | refine Own.drew ?_ | refine Own.alloc ?_ _) (by simp); have oxA := k9.own (b := w2.heap.size) (cs := #[.int .i64 x0, .int .i64 x1, .int .i64 x2, .int .i64 x3, .int .i64 x4, .int .i64 x5, .int .i64 x6, .int .i64 x7]) (t := 55) (by repeat' first | exact oxB | exact oxA | exact ox | refine Own.drew ?_ | refine Own.alloc ?_ _) (by simp); have oyA := k9.own (b := w3.heap.size) (cs := #[.int .i64 y0, .int .i64 y1, .int .i64 y2, .int .i64 y3, .int .i64 y4, .int .i64 y5, .int .i64 y6, .int .i64 y7]) (t := 55) (by repeat' first | exact oyB | exact oyA | exact oy | refine Own.drew ?_ | refine Own.alloc ?_ _) (by simp); have fA := otA.c4; have kkA : Kept [] w w9 := Kept.trans (by repeat' first | exact kkB | exact kkA | exact kk | refine Kept.drew ?_ | refine Kept.alloc ?_ _) k9) | (go_at_call 39; refine (HNu.out _).mono ?_; rintro e w10 ⟨rfl, k10⟩; have otB := k10.own (b := w5.heap.size) (cs := #[.complex .f64 t0 t1, .complex .f64 t2 t3, .complex .f64 t4 t5, .complex .f64 t6 t7]) (t := 48) (by repeat' first | exact otB | exact otA | exact ot | refine Own.drew ?_ | refine Own.alloc ?_ _) (by simp); have osB := k10.own (b := w4.heap.size) (cs := #[.complex .f64 s0 s1, .complex .f64 s2 s3, .complex .f64 s4 s5, .complex .f64 s6 s7]) (t := 48) (by repeat' first | exact osB | exact osA | exact os | refine Own.drew ?_ | refine Own.alloc ?_ _) (by simp); have oxB := k10.own (b := w2.heap.size) (cs := #[.int .i64 x0, .int .i64 x1, .int .i64 x2, .int .i64 x3, .int .i64 x4, .int .i64 x5, .int .i64 x6, .int .i64 x7]) (t := 55) (by repeat' first | exact oxB | exact oxA | exact ox | refine Own.drew ?_ | refine Own.alloc ?_ _) (by simp); have oyB := k10.own (b := w3.heap.size) (cs := #[.int .i64 y0, .int .i64 y1, .int .i64 y2, .int .i64 y3, .int .i64 y4, .int .i64 y5, .int .i64 y6, .int .i64 y7]) (t := 55) (by repeat' first | exact oyB | exact oyA | exact oy | refine Own.drew ?_ | refine Own.alloc ?_ _) (by simp); have fB := otB.c4; have kkB : Kept [] w w10 := Kept.trans (by repeat' first | exact kkB | exact kkA | exact kk | refine Kept.drew ?_ | refine Kept.alloc ?_ _) k10))) | fail
      all_goals
        clear HSh HNu
        have js := osB.c4
        have jx := oxB.c8
        have jy := oyB.c8
        have ls2 := osB.lt
        have lx2 := oxB.lt
        have ly2 := oyB.lt
        have os := osB
        have ox := oxB
        have oy := oyB
        have kk := kkB
        clear fA fB i0 i1 i2 i3 j0 j1 j2 j3 n0 n1 n2 n3 n4 n5 n6 n7 otA osA oxA oyA otB osB oxB oyB kkA kkB k9 k10 ot e0 e1 e2 e3 e4 e5 e6 e7
        obtain ⟨j0, j1, j2, j3⟩ := js
        obtain ⟨n0, n1, n2, n3, n4, n5, n6, n7⟩ := jx
        obtain ⟨m0, m1, m2, m3, m4, m5, m6, m7⟩ := jy
        cases okr
        · obtain ⟨rfl, rfl, rfl, rfl, rfl, rfl, rfl, rfl⟩ := H12.out (by first | rfl | trivial)
          clear H12 H13
          go_wp2_with fail
          go_ret
          exact ⟨rfl, kk.below⟩
        · obtain ⟨had, hna, e0, e1, e2, e3, e4, e5, e6, e7⟩ := H13.out (by trivial) (by trivial)
          have HAd := Lib.hid had
          have HNa := Lib.hid hna
          clear had hna H12 H13
          go_wp2_with fail
          go_region_held3 (fun w' => w'.cell? ⟨w4.heap.size, 0, none⟩ = some (.complex .f64 s0 s1) ∧ w'.cell? ⟨w4.heap.size, 1, none⟩ = some (.complex .f64 s2 s3) ∧ w'.cell? ⟨w4.heap.size, 2, none⟩ = some (.complex .f64 s4 s5) ∧ w'.cell? ⟨w4.heap.size, 3, none⟩ = some (.complex .f64 s6 s7) ∧ w'.cell? ⟨w2.heap.size, 0, none⟩ = some (.int .i64 x0) ∧ w'.cell? ⟨w2.heap.size, 1, none⟩ = some (.int .i64 x1) ∧ w'.cell? ⟨w2.heap.size, 2, none⟩ = some (.int .i64 x2) ∧ w'.cell? ⟨w2.heap.size, 3, none⟩ = some (.int .i64 x3) ∧ w'.cell? ⟨w2.heap.size, 4, none⟩ = some (.int .i64 x4) ∧ w'.cell? ⟨w2.heap.size, 5, none⟩ = some (.int .i64 x5) ∧ w'.cell? ⟨w2.heap.size, 6, none⟩ = some (.int .i64 x6) ∧ w'.cell? ⟨w2.heap.size, 7, none⟩ = some (.int .i64 x7) ∧ w'.cell? ⟨w3.heap.size, 0, none⟩ = some (.int .i64 y0) ∧ w'.cell? ⟨w3.heap.size, 1, none⟩ = some (.int .i64 y1) ∧ w'.cell? ⟨w3.heap.size, 2, none⟩ = some (.int .i64 y2) ∧ w'.cell? ⟨w3.heap.size, 3, none⟩ = some (.int .i64 y3) ∧ w'.cell? ⟨w3.heap.size, 4, none⟩ = some (.int .i64 y4) ∧ w'.cell? ⟨w3.heap.size, 5, none⟩ = some (.int .i64 y5) ∧ w'.cell? ⟨w3.heap.size, 6, none⟩ = some (.int .i64 y6) ∧ w'.cell? ⟨w3.heap.size, 7, none⟩ = some (.int .i64 y7)) ((refine own_S488 (t := 48) (u := 55) (v := 55) ?_ ?_ ?_ <;> (repeat' first | exact otB | exact oxB | exact osB | exact oyB | exact otA | exact oxA | exact osA | exact oyA | exact ot | exact ox | exact os | exact oy | refine Own.drew ?_ | refine Own.alloc ?_ _))) (first | (go_at_call 54; refine (HAd.out _).mono ?_; rintro e w13 ⟨rfl, k13⟩; have osA := k13.own (b := w4.heap.size) (cs := #[.complex .f64 s0 s1, .complex .f64 s2 s3, .complex .f64 s4 s5, .complex .f64 s6 s7]) (t := 48) (by repeat' first | exact osB | exact osA | exact os | refine Own.drew ?_ | refine Own.alloc ?_ _) (by simp); have oxA := k13.own (b := w2.heap.size) (cs := #[.int .i64 x0, .int .i64 x1, .int .i64 x2, .int .i64 x3, .int .i64 x4, .int .i64 x5, .int .i64 x6, .int .i64 x7]) (t := 55) (by repeat' first | exact oxB | exact oxA | exact ox | refine Own.drew ?_ | refine Own.alloc ?_ _) (by simp); have oyA := k13.own (b := w3.heap.size) (cs := #[.int .i64 y0, .int .i64 y1, .int .i64 y2, .int .i64 y3, .int .i64 y4, .int .i64 y5, .int .i64 y6, .int .i64 y7]) (t := 55) (by repeat' first | exact oyB | exact oyA | exact oy | refine Own.drew ?_ | refine Own.alloc ?_ _) (by simp); have kkA : Kept [] w w13 := Kept.trans (by repeat' first | exact kkB | exact kkA | exact kk | refine Kept.drew ?_ | refine Kept.alloc ?_ _) k13) | (go_at_call 39; refine (HNa.out _).mono ?_; rintro e w14 ⟨rfl, k14⟩; have osB := k14.own (b := w4.heap.size) (cs := #[.complex .f64 s0 s1, .complex .f64 s2 s3, .complex .f64 s4 s5, .complex .f64 s6 s7]) (t := 48) (by repeat' first | exact osB | exact osA | exact os | refine Own.drew ?_ | refine Own.alloc ?_ _) (by simp); have oxB := k14.own (b := w2.heap.size) (cs := #[.int .i64 x0, .int .i64 x1, .int .i64 x2, .int .i64 x3, .int .i64 x4, .int .i64 x5, .int .i64 x6, .int .i64 x7]) (t := 55) (by repeat' first | exact oxB | exact oxA | exact ox | refine Own.drew ?_ | refine Own.alloc ?_ _) (by simp); have oyB := k14.own (b := w3.heap.size) (cs := #[.int .i64 y0, .int .i64 y1, .int .i64 y2, .int .i64 y3, .int .i64 y4, .int .i64 y5, .int .i64 y6, .int .i64 y7]) (t := 55) (by repeat' first | exact oyB | exact oyA | exact oy | refine Own.drew ?_ | refine Own.alloc ?_ _) (by simp); have kkB : Kept [] w w14 := Kept.trans (by repeat' first | exact kkB | exact kkA | exact kk | refine Kept.drew ?_ | refine Kept.alloc ?_ _) k14))
          all_goals
            go_wp2_with fail
            go_ret
            exact ⟨rfl, kkB.below⟩
end Go.Proofs.Ytkghkkfcgegmeaa
