/- Walks of layer 34 (phase): the numbers whose phases these are: where all parts are whole. -/
import Derived.Test.YtkghkkfcgegmeaaH3
import Derived.Deep.RegionWith
import Derived.BigRegion
namespace Go.Proofs.Ytkghkkfcgegmeaa
open Go.RowKit Fl
set_option linter.unusedVariables false
set_option linter.unusedSimpArgs false
@[local go_sem] theorem unary_neg_float4 (k : FloatKind) (b : Nat) : Op.unary .neg (.float k b) = pure (.float k (Op.negFloat k b)) := rfl

theorem kcell0 {W w1 : World} (h : Kept [] W w1) : ∀ b o, b < W.heap.size → w1.cell? ⟨b, o, none⟩ = W.cell? ⟨b, o, none⟩ := fun b o hb => h.cell (a := ⟨b, o, none⟩) hb (by simp)
/-- four complex numbers whose parts are whole. -/
structure Z4 where
  (n0 m0 n1 m1 n2 m2 n3 m3 : Int)
structure IsZ (p : P4) (z : Z4) : Prop where
  f0 : FW p.a0 z.n0
  g0 : FW p.b0 z.m0
  f1 : FW p.a1 z.n1
  g1 : FW p.b1 z.m1
  f2 : FW p.a2 z.n2
  g2 : FW p.b2 z.m2
  f3 : FW p.a3 z.n3
  g3 : FW p.b3 z.m3
structure Z4.Bd (z : Z4) : Prop where
  f0 : z.n0.natAbs ≤ 2 ^ 45
  g0 : z.m0.natAbs ≤ 2 ^ 45
  f1 : z.n1.natAbs ≤ 2 ^ 45
  g1 : z.m1.natAbs ≤ 2 ^ 45
  f2 : z.n2.natAbs ≤ 2 ^ 45
  g2 : z.m2.natAbs ≤ 2 ^ 45
  f3 : z.n3.natAbs ≤ 2 ^ 45
  g3 : z.m3.natAbs ≤ 2 ^ 45
/-- the four numbers. -/
def Z4.q0 (z : Z4) : Int := (z.n0 + z.n2 + 2 * z.n1).tdiv 4
def Z4.q1 (z : Z4) : Int := (z.n0 - z.n2 + 2 * z.m1).tdiv 4
def Z4.q2 (z : Z4) : Int := (z.n0 + z.n2 - 2 * z.n1).tdiv 4
def Z4.q3 (z : Z4) : Int := (z.n0 - z.n2 - 2 * z.m1).tdiv 4
/-- are these their phases? -/
def Z4.ok (z : Z4) : Bool := decide (z.q0 + z.q2 + (z.q1 + z.q3) = z.n0) && decide (0 = z.m0) && (decide (z.q0 - z.q2 = z.n1) && decide (z.q1 - z.q3 = z.m1)) && (decide (z.q0 + z.q2 - (z.q1 + z.q3) = z.n2) && decide (0 = z.m2)) && (decide (z.q0 - z.q2 = z.n3) && decide (-(z.q1 - z.q3) = z.m3))
def Z4.qv (z : Z4) : Value := .agg #[.int .i64 z.q0, .int .i64 z.q1, .int .i64 z.q2, .int .i64 z.q3]

theorem tdiv4_bd {a : Int} (h : a.natAbs ≤ 2 ^ 47) : (a.tdiv 4).natAbs ≤ 2 ^ 45 := by
  rw [Int.natAbs_tdiv]; exact Nat.div_le_of_le_mul (by simpa using h)
theorem Z4.qbd {z : Z4} (h : z.Bd) : z.q0.natAbs ≤ 2 ^ 45 ∧ z.q1.natAbs ≤ 2 ^ 45 ∧ z.q2.natAbs ≤ 2 ^ 45 ∧ z.q3.natAbs ≤ 2 ^ 45 := by
  obtain ⟨a, b, c, d, e, f, g, i⟩ := h
  refine ⟨tdiv4_bd ?_, tdiv4_bd ?_, tdiv4_bd ?_, tdiv4_bd ?_⟩ <;> omega
theorem feq {x : Nat} {a b : Int} (h : FW x b) (ha : a.natAbs ≤ 2 ^ 53) (hb : b.natAbs ≤ 2 ^ 53) : Op.floatEq .f64 (F a) x = decide (a = b) := by
  show (Ieee.double.order (F a) x == some .eq) = _
  rw [order_FW (FW_F ha) h ha hb, compare_int]
  by_cases h1 : a = b
  · subst h1; simp
  · by_cases h2 : a < b <;> simp [h1, h2]
theorem feq0 {x : Nat} {b : Int} (h : FW x b) (hb : b.natAbs ≤ 2 ^ 53) : Op.floatEq .f64 0 x = decide (0 = b) := by
  have := feq (a := 0) h (by simp) hb
  rwa [F0] at this
def eqB (p : P4) (r0 r1 i1 r2 r3 i3 : Nat) : Bool := (Op.floatEq .f64 r0 p.a0 && Op.floatEq .f64 0 p.b0) && (Op.floatEq .f64 r1 p.a1 && Op.floatEq .f64 i1 p.b1) && (Op.floatEq .f64 r2 p.a2 && Op.floatEq .f64 0 p.b2) && (Op.floatEq .f64 r3 p.a3 && Op.floatEq .f64 i3 p.b3)
/-- what == tells of the phases of the four numbers and of what came. -/
theorem eq_gen {p : P4} {z : Z4} (h : IsZ p z) (hb : z.Bd) {r0 r1 i1 r2 r3 i3 : Int} (c0 : r0.natAbs ≤ 2 ^ 53) (c1 : r1.natAbs ≤ 2 ^ 53) (c2 : i1.natAbs ≤ 2 ^ 53) (c3 : r2.natAbs ≤ 2 ^ 53) (c4 : r3.natAbs ≤ 2 ^ 53) (c5 : i3.natAbs ≤ 2 ^ 53) :
    eqB p (F r0) (F r1) (F i1) (F r2) (F r3) (F i3) = ((decide (r0 = z.n0) && decide (0 = z.m0)) && (decide (r1 = z.n1) && decide (i1 = z.m1)) && (decide (r2 = z.n2) && decide (0 = z.m2)) && (decide (r3 = z.n3) && decide (i3 = z.m3))) := by
  obtain ⟨a, b, c, d, e, f, g, i⟩ := hb
  unfold eqB
  rw [feq h.f0 c0 (by omega), feq0 h.g0 (by omega), feq h.f1 c1 (by omega), feq h.g1 c2 (by omega), feq h.f2 c3 (by omega), feq0 h.g2 (by omega), feq h.f3 c4 (by omega), feq h.g3 c5 (by omega)]
theorem eq_ok {p : P4} {z : Z4} (h : IsZ p z) (hb : z.Bd) :
    eqB p (F (z.q0 + z.q2 + (z.q1 + z.q3))) (F (z.q0 - z.q2)) (F (z.q1 - z.q3)) (F (z.q0 + z.q2 - (z.q1 + z.q3))) (F (z.q0 - z.q2)) (F (-(z.q1 - z.q3))) = z.ok := by
  obtain ⟨q0, q1, q2, q3⟩ := z.qbd hb
  rw [eq_gen h hb (by omega) (by omega) (by omega) (by omega) (by omega) (by omega)]
  rfl

theorem isZ_of {p : P4} (hlt : p.a0 < 2 ^ 64 ∧ p.b0 < 2 ^ 64 ∧ p.a1 < 2 ^ 64 ∧ p.b1 < 2 ^ 64 ∧ p.a2 < 2 ^ 64 ∧ p.b2 < 2 ^ 64 ∧ p.a3 < 2 ^ 64 ∧ p.b3 < 2 ^ 64) (h : okW p = true) : ∃ z, IsZ p z ∧ z.Bd := by
  obtain ⟨l0, k0, l1, k1, l2, k2, l3, k3⟩ := hlt
  simp only [okW, wc, Bool.and_eq_true] at h
  obtain ⟨⟨⟨⟨h0, j0⟩, ⟨h1, j1⟩⟩, ⟨h2, j2⟩⟩, ⟨h3, j3⟩⟩ := h
  obtain ⟨n0, c0, e0⟩ := wh_true (M := 35184372088832) (by decide) l0 h0
  obtain ⟨m0, d0, f0⟩ := wh_true (M := 35184372088832) (by decide) k0 j0
  obtain ⟨n1, c1, e1⟩ := wh_true (M := 35184372088832) (by decide) l1 h1
  obtain ⟨m1, d1, f1⟩ := wh_true (M := 35184372088832) (by decide) k1 j1
  obtain ⟨n2, c2, e2⟩ := wh_true (M := 35184372088832) (by decide) l2 h2
  obtain ⟨m2, d2, f2⟩ := wh_true (M := 35184372088832) (by decide) k2 j2
  obtain ⟨n3, c3, e3⟩ := wh_true (M := 35184372088832) (by decide) l3 h3
  obtain ⟨m3, d3, f3⟩ := wh_true (M := 35184372088832) (by decide) k3 j3
  exact ⟨⟨n0, m0, n1, m1, n2, m2, n3, m3⟩, ⟨e0, f0, e1, f1, e2, f2, e3, f3⟩, ⟨c0, d0, c1, d1, c2, d2, c3, d3⟩⟩
theorem okW_of {p : P4} {z : Z4} (h : IsZ p z) (hb : z.Bd) : okW p = true := by
  have k : ∀ {x : Nat} {n : Int}, FW x n → n.natAbs ≤ 2 ^ 45 → wh45 x = true := fun hx hn => wh_FW (M := 35184372088832) (by decide) (by omega) hx
  simp only [okW, wc, k h.f0 hb.f0, k h.g0 hb.g0, k h.f1 hb.f1, k h.g1 hb.g1, k h.f2 hb.f2, k h.g2 hb.g2, k h.f3 hb.f3, k h.g3 hb.g3, Bool.and_self]

set_option maxRecDepth 100000 in
set_option maxHeartbeats 4000000 in
theorem pback_yes (p : P4) (z : Z4) (w : World) (h : IsZ p z) (hb : z.Bd) :
    Calls Try.prog 26 #[p.v] w fun e w' => e = .returned (.tuple #[if z.ok then z.qv else zero4, .int .i64 (if z.ok then 0 else 7)]) ∧ Kept [] w w' := by
  have k : ∀ {x : Nat} {n : Int}, FW x n → n.natAbs ≤ 2 ^ 45 → wh45 x = true := fun hx hn => wh_FW (M := 35184372088832) (by decide) (by omega) hx
  have hok := eq_ok h hb
  have hq := z.qbd hb
  have hw : ∀ {x : Nat} {n : Int}, FW x n → n.natAbs ≤ 2 ^ 45 → ∀ w, Calls Try.prog 63 #[.float .f64 x] w fun e w' => e = .returned (.bool true) ∧ w = w' := fun {x n} hx hn w => by
    have := pwhole x w; rw [k hx hn] at this; exact this
  have hc : ∀ {x : Nat} {n : Int}, FW x n → n.natAbs ≤ 2 ^ 45 → ∀ w, (convert 36 3 (.float .f64 x)).run Try.prog w = .ok (.int .i64 n) w := fun {x n} hx hn w => run_convert_float_int w _ _ .f64 .i64 x n (by rw [Try.underlying36]; rfl) Try.underlying3 (conv_FW hx (by omega))
  have wa0 := hw h.f0 hb.f0
  have wb0 := hw h.g0 hb.g0
  have wa1 := hw h.f1 hb.f1
  have wb1 := hw h.g1 hb.g1
  have wa2 := hw h.f2 hb.f2
  have wb2 := hw h.g2 hb.g2
  have wa3 := hw h.f3 hb.f3
  have wb3 := hw h.g3 hb.g3
  have ca0 := hc h.f0 hb.f0
  have ca1 := hc h.f1 hb.f1
  have cb1 := hc h.g1 hb.g1
  have ca2 := hc h.f2 hb.f2
  have hp := fun w => pphases z.q0 z.q1 z.q2 z.q3 w (by omega) (by omega) (by omega) (by omega)
  simp only [phB] at hp
  obtain ⟨a0, b0, a1, b1, a2, b2, a3, b3⟩ := p
  simp only [P4.v] at *
  have ix := ixC (.complex .f64 a0 b0) (.complex .f64 a1 b1) (.complex .f64 a2 b2) (.complex .f64 a3 b3)
  have ix0 := fun w => (ix w).1
  have ix1 := fun w => (ix w).2.1
  have ix2 := fun w => (ix w).2.2.1
  have ix3 := fun w => (ix w).2.2.2
  clear ix hw hc k h
  go_enter Try.func26, Try.ntmps26
  go_wp2_with fail
  go_loopw [5, 12] (fun z i wr => ∃ k : Nat, k ≤ 4 ∧ i = .int .i64 k ∧ wr = (w.alloc (.cells #[.complex .f64 a0 b0, .complex .f64 a1 b1, .complex .f64 a2 b2, .complex .f64 a3 b3] 48)).alloc (.cells #[.int .i64 0, .int .i64 0, .int .i64 0, .int .i64 0] 50)) (fun _ i _ => 4 - (intOf i).toNat)
  case atStart => exact ⟨0, by omega, rfl, rfl⟩
  case round =>
    obtain ⟨k, hk, rfl, rfl⟩ := hrel
    have hk5 : k = 0 ∨ k = 1 ∨ k = 2 ∨ k = 3 ∨ k = 4 := by omega
    rcases hk5 with rfl | rfl | rfl | rfl | rfl
    · go_wp2_with fail
      refine (wa0 _).mono ?_; rintro e w' ⟨rfl, rfl⟩
      go_wp2_with fail
      refine (wb0 _).mono ?_; rintro e w' ⟨rfl, rfl⟩
      go_wp2_with fail
      go_roundw
      case rel => exact ⟨1, by omega, rfl, by first | rfl | trivial⟩
      case measure => simp [intOf]
    · go_wp2_with fail
      refine (wa1 _).mono ?_; rintro e w' ⟨rfl, rfl⟩
      go_wp2_with fail
      refine (wb1 _).mono ?_; rintro e w' ⟨rfl, rfl⟩
      go_wp2_with fail
      go_roundw
      case rel => exact ⟨2, by omega, rfl, by first | rfl | trivial⟩
      case measure => simp [intOf]
    · go_wp2_with fail
      refine (wa2 _).mono ?_; rintro e w' ⟨rfl, rfl⟩
      go_wp2_with fail
      refine (wb2 _).mono ?_; rintro e w' ⟨rfl, rfl⟩
      go_wp2_with fail
      go_roundw
      case rel => exact ⟨3, by omega, rfl, by first | rfl | trivial⟩
      case measure => simp [intOf]
    · go_wp2_with fail
      refine (wa3 _).mono ?_; rintro e w' ⟨rfl, rfl⟩
      go_wp2_with fail
      refine (wb3 _).mono ?_; rintro e w' ⟨rfl, rfl⟩
      go_wp2_with fail
      go_roundw
      case rel => exact ⟨4, by omega, rfl, by first | rfl | trivial⟩
      case measure => simp [intOf]
    · go_wp2_with fail
      clear wa0 wb0 wa1 wb1 wa2 wb2 wa3 wb3 ix0 ix1 ix2 ix3
      have bd := hb
      obtain ⟨d0, d1, d2, d3, d4, d5, d6, d7⟩ := bd
      have f0 : -35184372088832 ≤ z.n0 ∧ z.n0 ≤ 35184372088832 := by omega
      have f1 : -35184372088832 ≤ z.n1 ∧ z.n1 ≤ 35184372088832 := by omega
      have f2 : -35184372088832 ≤ z.n2 ∧ z.n2 ≤ 35184372088832 := by omega
      have f3 : -35184372088832 ≤ z.m1 ∧ z.m1 ≤ 35184372088832 := by omega
      clear d0 d1 d2 d3 d4 d5 d6 d7
      obtain ⟨f0, f0'⟩ := f0
      obtain ⟨f1, f1'⟩ := f1
      obtain ⟨f2, f2'⟩ := f2
      obtain ⟨f3, f3'⟩ := f3
      have e1 : IntKind.i64.wrap (z.n0 + z.n2) = z.n0 + z.n2 := IntWalk.i64_in _ (by omega)
      have e2 : IntKind.i64.wrap (z.n0 - z.n2) = z.n0 - z.n2 := IntWalk.i64_in _ (by omega)
      have e3 : IntKind.i64.wrap (2 * z.n1) = 2 * z.n1 := IntWalk.i64_in _ (by omega)
      have e4 : IntKind.i64.wrap (2 * z.m1) = 2 * z.m1 := IntWalk.i64_in _ (by omega)
      go_quiet (fail)
      go_wp2_with fail
      go_quiet (fail)
      clear ca0 ca1 ca2 cb1
      go_wp2_with fail
      rw [show (z.n0 + z.n2 + 2 * z.n1).tdiv 4 = z.q0 from rfl, show (z.n0 - z.n2 + 2 * z.m1).tdiv 4 = z.q1 from rfl, show (z.n0 + z.n2 - 2 * z.n1).tdiv 4 = z.q2 from rfl, show (z.n0 - z.n2 - 2 * z.m1).tdiv 4 = z.q3 from rfl]
      have heq : ∀ w, (Op.equalIn 10000 48 (.agg #[.complex .f64 (F (z.q0 + z.q2 + (z.q1 + z.q3))) 0, .complex .f64 (F (z.q0 - z.q2)) (F (z.q1 - z.q3)), .complex .f64 (F (z.q0 + z.q2 - (z.q1 + z.q3))) 0, .complex .f64 (F (z.q0 - z.q2)) (F (-(z.q1 - z.q3)))]) (.agg #[.complex .f64 a0 b0, .complex .f64 a1 b1, .complex .f64 a2 b2, .complex .f64 a3 b3])).run Try.prog w = .ok z.ok w := fun w => by
        rw [eqC4, ← hok]; rfl
      clear hb hok hq f0 f0' f1 f1' f2 f2' f3 f3' e1 e2 e3 e4
      cases hz : z.ok
      · rw [hz] at heq
        go_region_with (go_at_call 64; refine (hp _).mono ?_; rintro e w2 ⟨rfl, kk⟩; have hkc := kcell0 kk)
        all_goals
          have o2 : Own w2 (w.heap.size + 1) #[.int .i64 0, .int .i64 0, .int .i64 0, .int .i64 0] 50 := kk.own (Own.drew (Own.alloc (Own.drewN (own_two w _ _ _ _).2 _) _)) (by simp)
          have z0 := o2.free 0
          have z1 := o2.free 1
          have z2 := o2.free 2
          have z3 := o2.free 3
          have kw : Kept [] w w2 := (((((Kept.refl _ _).alloc _).alloc _).drewN _).alloc _).drew.trans kk
          clear kk
          go_wp2_with fail
          all_goals refine bodyPost_ret (v := .tuple #[zero4, .int .i64 7]) (by simp [results, Try.results26, go_sem, zero4, o2.cell 0, o2.cell 1, o2.cell 2, o2.cell 3]) rfl ⟨rfl, ?_⟩
          all_goals refine (((kw.setCell (Or.inr ?_) _).setCell (Or.inr ?_) _).setCell (Or.inr ?_) _).setCell (Or.inr ?_) _
          all_goals exact Nat.le_succ _
      · rw [hz] at heq
        go_region_with (go_at_call 64; refine (hp _).mono ?_; rintro e w2 ⟨rfl, kk⟩; have hkc := kcell0 kk)
        all_goals
          have o2 : Own w2 (w.heap.size + 1) #[.int .i64 0, .int .i64 0, .int .i64 0, .int .i64 0] 50 := kk.own (Own.drew (Own.alloc (Own.drewN (own_two w _ _ _ _).2 _) _)) (by simp)
          have z0 := o2.free 0
          have z1 := o2.free 1
          have z2 := o2.free 2
          have z3 := o2.free 3
          have kw : Kept [] w w2 := (((((Kept.refl _ _).alloc _).alloc _).drewN _).alloc _).drew.trans kk
          clear kk
          go_wp2_with fail
          all_goals refine bodyPost_ret (v := .tuple #[z.qv, .int .i64 0]) (by simp [results, Try.results26, go_sem, Z4.qv, o2.cell 0, o2.cell 1, o2.cell 2, o2.cell 3]) rfl ⟨rfl, ?_⟩
          all_goals refine (((kw.setCell (Or.inr ?_) _).setCell (Or.inr ?_) _).setCell (Or.inr ?_) _).setCell (Or.inr ?_) _
          all_goals exact Nat.le_succ _
end Go.Proofs.Ytkghkkfcgegmeaa
