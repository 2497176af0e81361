/- Walks of layer 34 (phase): sums of phases; phases that are turned on. -/
import Derived.Test.YtkghkkfcgegmeaaH18
import Derived.Deep.RegionHeld3
namespace Go.Proofs.Ytkghkkfcgegmeaa
open Go.RowKit Fl
set_option linter.unusedVariables false
set_option linter.unusedSimpArgs false
attribute [local go_sem ↓] Go.wp_at_zero Go.wp_at_succ
@[local go_sem] theorem unary_neg_float20 (k : FloatKind) (b : Nat) : Op.unary .neg (.float k b) = pure (.float k (Op.negFloat k b)) := rfl

/-- the numbers of z as complex ones. -/
def Z4.ph (z : Z4) : Value := .agg #[.complex .f64 (F z.n0) (F z.m0), .complex .f64 (F z.n1) (F z.m1), .complex .f64 (F z.n2) (F z.m2), .complex .f64 (F z.n3) (F z.m3)]
def Z4.add (a b : Z4) : Z4 := ⟨a.n0 + b.n0, a.m0 + b.m0, a.n1 + b.n1, a.m1 + b.m1, a.n2 + b.n2, a.m2 + b.m2, a.n3 + b.n3, a.m3 + b.m3⟩
theorem P4.z_ok {p : P4} (h : p.ok = true) : okW p = true ∧ p.z.ok = true := by simpa [P4.ok] using h
/-- the sum of two complex whole numbers, without a nought below 0. -/
theorem sum_plain {a b c d : Nat} {p q r s : Int} (ha : FW a p) (hb : FW b q) (hc : FW c r) (hd : FW d s) (h1 : p.natAbs ≤ 2 ^ 45) (h2 : q.natAbs ≤ 2 ^ 45) (h3 : r.natAbs ≤ 2 ^ 45) (h4 : s.natAbs ≤ 2 ^ 45) :
    ∃ e f, (∀ t w, (binOp .add t (.complex .f64 a b) (.complex .f64 c d)).run Try.prog w = .ok (.complex .f64 e f) w) ∧ ∀ w, Calls Try.prog 67 #[.complex .f64 e f] w fun e w' => e = .returned (.complex .f64 (F (p + r)) (F (q + s))) ∧ w = w' := by
  obtain ⟨e, f, h, fe, ff⟩ := csum_FW ha hb hc hd (by omega) (by omega) (by omega) (by omega) (by omega) (by omega)
  refine ⟨e, f, fun t w => run_complex_sum (P := Try.prog) w .add (Or.inl rfl) t _ _ _ _ _ _ _ h, fun w => ?_⟩
  exact pplain _ _ _ _ w (by have := add_zero_FW fe (by omega); rwa [F0] at this) (by have := add_zero_FW ff (by omega); rwa [F0] at this)

def zeroCells : Array Value := #[.complex .f64 0 0, .complex .f64 0 0, .complex .f64 0 0, .complex .f64 0 0]
def AddSays (p r : P4) (w : World) (e : Ending) (w' : World) : Prop := e = .returned (if p.ok && r.ok then (p.z.add r.z).ph else zeroC) ∧ Kept [] w w'
theorem addSays_no {p r : P4} {w w' : World} (h : (p.ok && r.ok) = false) (k : Kept [] w w') : AddSays p r w (.returned zeroC) w' := ⟨by rw [h]; rfl, k⟩
theorem addSays_yes {p r : P4} {w w' : World} (h : (p.ok && r.ok) = true) (k : Kept [] w w') : AddSays p r w (.returned (p.z.add r.z).ph) w' := ⟨by rw [h]; rfl, k⟩

set_option maxRecDepth 100000 in
set_option maxHeartbeats 8000000 in
theorem padd (p r : P4) (w : World) (hp : p.lt) (hr : r.lt) :
    Calls Try.prog 52 #[p.v, r.v] w (AddSays p r w) := by
  have hi1 := fun w => pis p w hp
  have hi2 := fun w => pis r w hr
  have hgo : p.ok = true → r.ok = true → IsZ p p.z ∧ p.z.Bd ∧ IsZ r r.z ∧ r.z.Bd := fun h1 h2 => by
    obtain ⟨a, b⟩ := P4.isZ hp (P4.z_ok h1).1
    obtain ⟨c, d⟩ := P4.isZ hr (P4.z_ok h2).1
    exact ⟨a, b, c, d⟩
  have hno : (p.ok && r.ok) = false → ∀ w', Kept [] w w' → AddSays p r w (.returned zeroC) w' := fun h w' k => addSays_no h k
  have hyes : (p.ok && r.ok) = true → ∀ w', Kept [] w w' → AddSays p r w (.returned (p.z.add r.z).ph) w' := fun h w' k => addSays_yes h k
  simp only [Z4.ph, Z4.add] at hyes
  generalize AddSays p r w = Post at *
  generalize p.z = zp at *
  generalize r.z = zr at *
  generalize p.ok = okp at *
  generalize r.ok = okr at *
  clear hp hr
  obtain ⟨a0, b0, a1, b1, a2, b2, a3, b3⟩ := p
  obtain ⟨c0, d0, c1, d1, c2, d2, c3, d3⟩ := r
  simp only [P4.v] at *
  have H1 := Lib.hid hi1
  have H2 := Lib.hid hi2
  have H3 := Lib.hid hgo
  have H4 := Lib.hid hno
  have H5 := Lib.hid hyes
  clear hi1 hi2 hgo hno hyes
  go_enter Try.func52, Try.ntmps52
  go_wp2_with fail
  refine (H1.out _).mono ?_; rintro e w1 ⟨rfl, k⟩
  have oa := k.own (own_four w _ _ _ _ _ _ _ _).1 (by simp)
  have ob := k.own (own_four w _ _ _ _ _ _ _ _).2.1 (by simp)
  have oR := k.own (own_four w _ _ _ _ _ _ _ _).2.2.1 (by simp)
  have oo := k.own (own_four w _ _ _ _ _ _ _ _).2.2.2 (by simp)
  have kk := ((((Kept.refl [] w).alloc _).alloc _).alloc _).alloc _ |>.trans k
  clear k
  have lR := oR.lt
  have lo := oo.lt
  cases okp
  · go_wp2_with (first | (refine wpList_load_row rfl _ _ rfl _ rfl _ _ _ _ oo Try.underlying48 rfl (by kernel_rfl) ?_) | (refine wpList_store_row rfl _ _ _ rfl _ _ rfl rfl _ _ oR (by kernel_rfl) rfl (by kernel_rfl) ?_))
    refine bodyPost_ret (v := zeroC) ?_ ?_ ?_
    · exact ret_row Try.results52 rfl (oR.setRow _) Try.underlying48 rfl (by kernel_rfl)
    · rfl
    · refine H4.out (by trivial) _ (kk.setRow (Or.inr ?_) _); omega
  · obtain ⟨y0, y1, y2, y3⟩ := ob.c4
    go_wp2_with fail
    clear y0 y1 y2 y3
    refine (H2.out _).mono ?_; rintro e w2 ⟨rfl, k⟩
    have oa := k.own oa (by simp)
    have ob := k.own ob (by simp)
    have oR := k.own oR (by simp)
    have oo := k.own oo (by simp)
    have kk := kk.trans k
    clear k
    have lR := oR.lt
    have lo := oo.lt
    cases okr
    · go_wp2_with (first | (refine wpList_load_row rfl _ _ rfl _ rfl _ _ _ _ oo Try.underlying48 rfl (by kernel_rfl) ?_) | (refine wpList_store_row rfl _ _ _ rfl _ _ rfl rfl _ _ oR (by kernel_rfl) rfl (by kernel_rfl) ?_))
      refine bodyPost_ret (v := zeroC) ?_ ?_ ?_
      · exact ret_row Try.results52 rfl (oR.setRow _) Try.underlying48 rfl (by kernel_rfl)
      · rfl
      · refine H4.out (by trivial) _ (kk.setRow (Or.inr ?_) _); omega
    · obtain ⟨⟨f0, g0, f1, g1, f2, g2, f3, g3⟩, ⟨x0, y0, x1, y1, x2, y2, x3, y3⟩, ⟨f0', g0', f1', g1', f2', g2', f3', g3'⟩, ⟨x0', y0', x1', y1', x2', y2', x3', y3'⟩⟩ := H3.out (by trivial) (by trivial)
      obtain ⟨e0, h0, s0, p0⟩ := sum_plain f0 g0 f0' g0' x0 y0 x0' y0'
      have P0 := Lib.hid p0
      obtain ⟨e1, h1, s1, p1⟩ := sum_plain f1 g1 f1' g1' x1 y1 x1' y1'
      have P1 := Lib.hid p1
      obtain ⟨e2, h2, s2, p2⟩ := sum_plain f2 g2 f2' g2' x2 y2 x2' y2'
      have P2 := Lib.hid p2
      obtain ⟨e3, h3, s3, p3⟩ := sum_plain f3 g3 f3' g3' x3 y3 x3' y3'
      have P3 := Lib.hid p3
      clear p0 p1 p2 p3 x0 x1 x2 x3 y0 y1 y2 y3 x0' x1' x2' x3' y0' y1' y2' y3' f0 f1 f2 f3 g0 g1 g2 g3 f0' f1' f2' f3' g0' g1' g2' g3'
      go_wp2_with fail
      refine wp_loop_rounds 5 ?_
      rw [rounds_succ]
      obtain ⟨x0, x1, x2, x3⟩ := oa.c4
      obtain ⟨y0, y1, y2, y3⟩ := ob.c4
      obtain ⟨q0, q1, q2, q3⟩ := oo.c4
      obtain ⟨z0, z1, z2, z3⟩ := oo.z4
      have kx : ∀ v, (w2.setCell ⟨w.heap.size + 1 + 1 + 1, 0, none⟩ v).cell? ⟨w.heap.size, 0, none⟩ = some (.complex .f64 a0 b0) := fun v => by rw [World.cell?_setCell_far _ _ _ _ (by show w.heap.size + 1 + 1 + 1 ≠ w.heap.size; omega)]; exact x0
      have ky : ∀ v, (w2.setCell ⟨w.heap.size + 1 + 1 + 1, 0, none⟩ v).cell? ⟨w.heap.size + 1, 0, none⟩ = some (.complex .f64 c0 d0) := fun v => by rw [World.cell?_setCell_far _ _ _ _ (by show w.heap.size + 1 + 1 + 1 ≠ w.heap.size + 1; omega)]; exact y0
      go_wp2_with fail
      go_region_held3 (fun w' => w'.cell? ⟨w.heap.size, 0, none⟩ = some (.complex .f64 a0 b0) ∧ w'.cell? ⟨w.heap.size + 1, 0, none⟩ = some (.complex .f64 c0 d0)) (go_keep) (first | (go_at_call 67; refine (P0.out _).mono ?_; rintro e w9 ⟨rfl, rfl⟩))
      go_wp2_with fail
      have oo : Own ((w2.setCell ⟨w.heap.size + 1 + 1 + 1, 0, none⟩ (.complex .f64 (F (zp.n0 + zr.n0)) (F (zp.m0 + zr.m0)))).drew) (w.heap.size + 1 + 1 + 1) #[.complex .f64 (F (zp.n0 + zr.n0)) (F (zp.m0 + zr.m0)), .complex .f64 0 0, .complex .f64 0 0, .complex .f64 0 0] 48 := by
        have := oo.set 0 (.complex .f64 (F (zp.n0 + zr.n0)) (F (zp.m0 + zr.m0)))
        refine Own.drew ?_
        simpa using this
      have oa := Own.drew (oa.other (p := ⟨w.heap.size + 1 + 1 + 1, 0, none⟩) (by simp; omega) (.complex .f64 (F (zp.n0 + zr.n0)) (F (zp.m0 + zr.m0))))
      have ob := Own.drew (ob.other (p := ⟨w.heap.size + 1 + 1 + 1, 0, none⟩) (by simp) (.complex .f64 (F (zp.n0 + zr.n0)) (F (zp.m0 + zr.m0))))
      have oR := Own.drew (oR.other (p := ⟨w.heap.size + 1 + 1 + 1, 0, none⟩) (by simp) (.complex .f64 (F (zp.n0 + zr.n0)) (F (zp.m0 + zr.m0))))
      have kk := Kept.drew (kk.setCell (p := ⟨w.heap.size + 1 + 1 + 1, 0, none⟩) (Or.inr (by simp; omega)) (.complex .f64 (F (zp.n0 + zr.n0)) (F (zp.m0 + zr.m0))))
      clear kx ky x0 x1 x2 x3 y0 y1 y2 y3 q0 q1 q2 q3 z0 z1 z2 z3 lo lR
      generalize (w2.setCell ⟨w.heap.size + 1 + 1 + 1, 0, none⟩ (.complex .f64 (F (zp.n0 + zr.n0)) (F (zp.m0 + zr.m0)))).drew = w2 at *
      have lR := oR.lt
      have lo := oo.lt
      rw [rounds_succ]
      obtain ⟨x0, x1, x2, x3⟩ := oa.c4
      obtain ⟨y0, y1, y2, y3⟩ := ob.c4
      obtain ⟨q0, q1, q2, q3⟩ := oo.c4
      obtain ⟨z0, z1, z2, z3⟩ := oo.z4
      have kx : ∀ v, (w2.setCell ⟨w.heap.size + 1 + 1 + 1, 1, none⟩ v).cell? ⟨w.heap.size, 1, none⟩ = some (.complex .f64 a1 b1) := fun v => by rw [World.cell?_setCell_far _ _ _ _ (by show w.heap.size + 1 + 1 + 1 ≠ w.heap.size; omega)]; exact x1
      have ky : ∀ v, (w2.setCell ⟨w.heap.size + 1 + 1 + 1, 1, none⟩ v).cell? ⟨w.heap.size + 1, 1, none⟩ = some (.complex .f64 c1 d1) := fun v => by rw [World.cell?_setCell_far _ _ _ _ (by show w.heap.size + 1 + 1 + 1 ≠ w.heap.size + 1; omega)]; exact y1
      go_wp2_with fail
      go_region_held3 (fun w' => w'.cell? ⟨w.heap.size, 1, none⟩ = some (.complex .f64 a1 b1) ∧ w'.cell? ⟨w.heap.size + 1, 1, none⟩ = some (.complex .f64 c1 d1)) (go_keep) (first | (go_at_call 67; refine (P1.out _).mono ?_; rintro e w9 ⟨rfl, rfl⟩))
      go_wp2_with fail
      have oo : Own ((w2.setCell ⟨w.heap.size + 1 + 1 + 1, 1, none⟩ (.complex .f64 (F (zp.n1 + zr.n1)) (F (zp.m1 + zr.m1)))).drew) (w.heap.size + 1 + 1 + 1) #[.complex .f64 (F (zp.n0 + zr.n0)) (F (zp.m0 + zr.m0)), .complex .f64 (F (zp.n1 + zr.n1)) (F (zp.m1 + zr.m1)), .complex .f64 0 0, .complex .f64 0 0] 48 := by
        have := oo.set 1 (.complex .f64 (F (zp.n1 + zr.n1)) (F (zp.m1 + zr.m1)))
        refine Own.drew ?_
        simpa using this
      have oa := Own.drew (oa.other (p := ⟨w.heap.size + 1 + 1 + 1, 1, none⟩) (by simp; omega) (.complex .f64 (F (zp.n1 + zr.n1)) (F (zp.m1 + zr.m1))))
      have ob := Own.drew (ob.other (p := ⟨w.heap.size + 1 + 1 + 1, 1, none⟩) (by simp) (.complex .f64 (F (zp.n1 + zr.n1)) (F (zp.m1 + zr.m1))))
      have oR := Own.drew (oR.other (p := ⟨w.heap.size + 1 + 1 + 1, 1, none⟩) (by simp) (.complex .f64 (F (zp.n1 + zr.n1)) (F (zp.m1 + zr.m1))))
      have kk := Kept.drew (kk.setCell (p := ⟨w.heap.size + 1 + 1 + 1, 1, none⟩) (Or.inr (by simp; omega)) (.complex .f64 (F (zp.n1 + zr.n1)) (F (zp.m1 + zr.m1))))
      clear kx ky x0 x1 x2 x3 y0 y1 y2 y3 q0 q1 q2 q3 z0 z1 z2 z3 lo lR
      generalize (w2.setCell ⟨w.heap.size + 1 + 1 + 1, 1, none⟩ (.complex .f64 (F (zp.n1 + zr.n1)) (F (zp.m1 + zr.m1)))).drew = w2 at *
      have lR := oR.lt
      have lo := oo.lt
      rw [rounds_succ]
      obtain ⟨x0, x1, x2, x3⟩ := oa.c4
      obtain ⟨y0, y1, y2, y3⟩ := ob.c4
      obtain ⟨q0, q1, q2, q3⟩ := oo.c4
      obtain ⟨z0, z1, z2, z3⟩ := oo.z4
      have kx : ∀ v, (w2.setCell ⟨w.heap.size + 1 + 1 + 1, 2, none⟩ v).cell? ⟨w.heap.size, 2, none⟩ = some (.complex .f64 a2 b2) := fun v => by rw [World.cell?_setCell_far _ _ _ _ (by show w.heap.size + 1 + 1 + 1 ≠ w.heap.size; omega)]; exact x2
      have ky : ∀ v, (w2.setCell ⟨w.heap.size + 1 + 1 + 1, 2, none⟩ v).cell? ⟨w.heap.size + 1, 2, none⟩ = some (.complex .f64 c2 d2) := fun v => by rw [World.cell?_setCell_far _ _ _ _ (by show w.heap.size + 1 + 1 + 1 ≠ w.heap.size + 1; omega)]; exact y2
      go_wp2_with fail
      go_region_held3 (fun w' => w'.cell? ⟨w.heap.size, 2, none⟩ = some (.complex .f64 a2 b2) ∧ w'.cell? ⟨w.heap.size + 1, 2, none⟩ = some (.complex .f64 c2 d2)) (go_keep) (first | (go_at_call 67; refine (P2.out _).mono ?_; rintro e w9 ⟨rfl, rfl⟩))
      go_wp2_with fail
      have oo : Own ((w2.setCell ⟨w.heap.size + 1 + 1 + 1, 2, none⟩ (.complex .f64 (F (zp.n2 + zr.n2)) (F (zp.m2 + zr.m2)))).drew) (w.heap.size + 1 + 1 + 1) #[.complex .f64 (F (zp.n0 + zr.n0)) (F (zp.m0 + zr.m0)), .complex .f64 (F (zp.n1 + zr.n1)) (F (zp.m1 + zr.m1)), .complex .f64 (F (zp.n2 + zr.n2)) (F (zp.m2 + zr.m2)), .complex .f64 0 0] 48 := by
        have := oo.set 2 (.complex .f64 (F (zp.n2 + zr.n2)) (F (zp.m2 + zr.m2)))
        refine Own.drew ?_
        simpa using this
      have oa := Own.drew (oa.other (p := ⟨w.heap.size + 1 + 1 + 1, 2, none⟩) (by simp; omega) (.complex .f64 (F (zp.n2 + zr.n2)) (F (zp.m2 + zr.m2))))
      have ob := Own.drew (ob.other (p := ⟨w.heap.size + 1 + 1 + 1, 2, none⟩) (by simp) (.complex .f64 (F (zp.n2 + zr.n2)) (F (zp.m2 + zr.m2))))
      have oR := Own.drew (oR.other (p := ⟨w.heap.size + 1 + 1 + 1, 2, none⟩) (by simp) (.complex .f64 (F (zp.n2 + zr.n2)) (F (zp.m2 + zr.m2))))
      have kk := Kept.drew (kk.setCell (p := ⟨w.heap.size + 1 + 1 + 1, 2, none⟩) (Or.inr (by simp; omega)) (.complex .f64 (F (zp.n2 + zr.n2)) (F (zp.m2 + zr.m2))))
      clear kx ky x0 x1 x2 x3 y0 y1 y2 y3 q0 q1 q2 q3 z0 z1 z2 z3 lo lR
      generalize (w2.setCell ⟨w.heap.size + 1 + 1 + 1, 2, none⟩ (.complex .f64 (F (zp.n2 + zr.n2)) (F (zp.m2 + zr.m2)))).drew = w2 at *
      have lR := oR.lt
      have lo := oo.lt
      rw [rounds_succ]
      obtain ⟨x0, x1, x2, x3⟩ := oa.c4
      obtain ⟨y0, y1, y2, y3⟩ := ob.c4
      obtain ⟨q0, q1, q2, q3⟩ := oo.c4
      obtain ⟨z0, z1, z2, z3⟩ := oo.z4
      have kx : ∀ v, (w2.setCell ⟨w.heap.size + 1 + 1 + 1, 3, none⟩ v).cell? ⟨w.heap.size, 3, none⟩ = some (.complex .f64 a3 b3) := fun v => by rw [World.cell?_setCell_far _ _ _ _ (by show w.heap.size + 1 + 1 + 1 ≠ w.heap.size; omega)]; exact x3
      have ky : ∀ v, (w2.setCell ⟨w.heap.size + 1 + 1 + 1, 3, none⟩ v).cell? ⟨w.heap.size + 1, 3, none⟩ = some (.complex .f64 c3 d3) := fun v => by rw [World.cell?_setCell_far _ _ _ _ (by show w.heap.size + 1 + 1 + 1 ≠ w.heap.size + 1; omega)]; exact y3
      go_wp2_with fail
      go_region_held3 (fun w' => w'.cell? ⟨w.heap.size, 3, none⟩ = some (.complex .f64 a3 b3) ∧ w'.cell? ⟨w.heap.size + 1, 3, none⟩ = some (.complex .f64 c3 d3)) (go_keep) (first | (go_at_call 67; refine (P3.out _).mono ?_; rintro e w9 ⟨rfl, rfl⟩))
      go_wp2_with fail
      have oo : Own ((w2.setCell ⟨w.heap.size + 1 + 1 + 1, 3, none⟩ (.complex .f64 (F (zp.n3 + zr.n3)) (F (zp.m3 + zr.m3)))).drew) (w.heap.size + 1 + 1 + 1) #[.complex .f64 (F (zp.n0 + zr.n0)) (F (zp.m0 + zr.m0)), .complex .f64 (F (zp.n1 + zr.n1)) (F (zp.m1 + zr.m1)), .complex .f64 (F (zp.n2 + zr.n2)) (F (zp.m2 + zr.m2)), .complex .f64 (F (zp.n3 + zr.n3)) (F (zp.m3 + zr.m3))] 48 := by
        have := oo.set 3 (.complex .f64 (F (zp.n3 + zr.n3)) (F (zp.m3 + zr.m3)))
        refine Own.drew ?_
        simpa using this
      have oa := Own.drew (oa.other (p := ⟨w.heap.size + 1 + 1 + 1, 3, none⟩) (by simp; omega) (.complex .f64 (F (zp.n3 + zr.n3)) (F (zp.m3 + zr.m3))))
      have ob := Own.drew (ob.other (p := ⟨w.heap.size + 1 + 1 + 1, 3, none⟩) (by simp) (.complex .f64 (F (zp.n3 + zr.n3)) (F (zp.m3 + zr.m3))))
      have oR := Own.drew (oR.other (p := ⟨w.heap.size + 1 + 1 + 1, 3, none⟩) (by simp) (.complex .f64 (F (zp.n3 + zr.n3)) (F (zp.m3 + zr.m3))))
      have kk := Kept.drew (kk.setCell (p := ⟨w.heap.size + 1 + 1 + 1, 3, none⟩) (Or.inr (by simp; omega)) (.complex .f64 (F (zp.n3 + zr.n3)) (F (zp.m3 + zr.m3))))
      clear kx ky x0 x1 x2 x3 y0 y1 y2 y3 q0 q1 q2 q3 z0 z1 z2 z3 lo lR
      generalize (w2.setCell ⟨w.heap.size + 1 + 1 + 1, 3, none⟩ (.complex .f64 (F (zp.n3 + zr.n3)) (F (zp.m3 + zr.m3)))).drew = w2 at *
      have lR := oR.lt
      have lo := oo.lt
      rw [rounds_succ]
      clear s0 s1 s2 s3 P0 P1 P2 P3 H1 H2 H3 H4 oa ob
      go_wp2_with (first | (refine wpList_load_row rfl _ _ rfl _ rfl _ _ _ _ oo Try.underlying48 rfl (by kernel_rfl) ?_) | (refine wpList_store_row rfl _ _ _ rfl _ _ rfl rfl _ _ oR (by kernel_rfl) rfl (by kernel_rfl) ?_))
      refine bodyPost_ret (v := .agg #[.complex .f64 (F (zp.n0 + zr.n0)) (F (zp.m0 + zr.m0)), .complex .f64 (F (zp.n1 + zr.n1)) (F (zp.m1 + zr.m1)), .complex .f64 (F (zp.n2 + zr.n2)) (F (zp.m2 + zr.m2)), .complex .f64 (F (zp.n3 + zr.n3)) (F (zp.m3 + zr.m3))]) ?_ ?_ ?_
      · exact ret_row Try.results52 rfl (oR.setRow _) Try.underlying48 rfl (by kernel_rfl)
      · rfl
      · refine H5.out (by trivial) _ (kk.setRow (Or.inr ?_) _); omega

/-- z, its k-th number turned k times n. -/
def Z4.shift (z : Z4) (n : Nat) : Z4 := ⟨z.n0, z.m0, (turnZ n (z.n1, z.m1)).1, (turnZ n (z.n1, z.m1)).2, (turnZ (2 * n) (z.n2, z.m2)).1, (turnZ (2 * n) (z.n2, z.m2)).2, (turnZ (3 * n) (z.n3, z.m3)).1, (turnZ (3 * n) (z.n3, z.m3)).2⟩
theorem turnZ_succ' (k : Nat) (z : Int × Int) : turnZ (k + 1) z = (-(turnZ k z).2, (turnZ k z).1) := by
  induction k generalizing z with
  | zero => rfl
  | succ k ih => rw [turnZ, ih (-z.2, z.1), turnZ]
theorem turnZ_four (k : Nat) (z : Int × Int) : turnZ (k + 4) z = turnZ k z := by
  rw [turnZ_succ', turnZ_succ', turnZ_succ', turnZ_succ']; simp
theorem turnZ_mod (k : Nat) (z : Int × Int) : turnZ (k % 4) z = turnZ k z := by
  have h : ∀ m r, turnZ (r + 4 * m) z = turnZ r z := fun m r => by
    induction m with
    | zero => rfl
    | succ m ih => rw [show r + 4 * (m + 1) = (r + 4 * m) + 4 from by omega, turnZ_four, ih]
  have := h (k / 4) (k % 4)
  rw [show k % 4 + 4 * (k / 4) = k from by omega] at this
  exact this.symm
def ShiftSays (p : P4) (n : Int) (w : World) (e : Ending) (w' : World) : Prop := e = .returned (if p.ok then (p.z.shift (quarter n)).ph else zeroC) ∧ Kept [] w w'
theorem shiftSays_no {p : P4} {n : Int} {w w' : World} (h : p.ok = false) (k : Kept [] w w') : ShiftSays p n w (.returned zeroC) w' := ⟨by rw [h]; rfl, k⟩
theorem shiftSays_yes {p : P4} {n : Int} {w w' : World} (h : p.ok = true) (k : Kept [] w w') : ShiftSays p n w (.returned (p.z.shift (quarter n)).ph) w' := ⟨by rw [h]; rfl, k⟩
/-- a complex whole number, turned so many times, the last nought's sign struck. -/
theorem turned_plain {x y : Nat} {j : Nat} {n m : Int} (hx : FW x (turnZ j (n, m)).1) (hy : FW y (turnZ j (n, m)).2) (hn : n.natAbs ≤ 2 ^ 45) (hm : m.natAbs ≤ 2 ^ 45) (w : World) :
    Calls Try.prog 67 #[.complex .f64 x y] w fun e w' => e = .returned (.complex .f64 (F (turnZ j (n, m)).1) (F (turnZ j (n, m)).2)) ∧ w = w' := by
  obtain ⟨b1, b2⟩ := turnZ_bd (k := j) hn hm
  exact pplain _ _ _ _ w (by have := add_zero_FW hx (by omega); rwa [F0] at this) (by have := add_zero_FW hy (by omega); rwa [F0] at this)

set_option maxRecDepth 100000 in
set_option maxHeartbeats 8000000 in
theorem pshift (p : P4) (n : Int) (w : World) (hp : p.lt) (hn : (Lit.int .i64 n).wf = true) :
    Calls Try.prog 51 #[p.v, .int .i64 n] w (ShiftSays p n w) := by
  have hi1 := fun w => pis p w hp
  have hgo : p.ok = true → IsZ p p.z ∧ p.z.Bd := fun h1 => P4.isZ hp (P4.z_ok h1).1
  have hno : p.ok = false → ∀ w', Kept [] w w' → ShiftSays p n w (.returned zeroC) w' := fun h w' k => shiftSays_no h k
  have hyes : p.ok = true → ∀ w', Kept [] w w' → ShiftSays p n w (.returned (p.z.shift (quarter n)).ph) w' := fun h w' k => shiftSays_yes h k
  simp only [Z4.ph, Z4.shift] at hyes
  have hq := quarter_go n
  have hql := quarter_lt n
  have hb4 := tmod_bd n
  generalize ShiftSays p n w = Post at *
  generalize p.z = zp at *
  generalize p.ok = okp at *
  generalize quarter n = s at *
  clear hp
  obtain ⟨a0, b0, a1, b1, a2, b2, a3, b3⟩ := p
  simp only [P4.v] at *
  have ix := ixC (.complex .f64 a0 b0) (.complex .f64 a1 b1) (.complex .f64 a2 b2) (.complex .f64 a3 b3)
  have ix0 := fun w => (ix w).1
  have ix1 := fun w => (ix w).2.1
  have ix2 := fun w => (ix w).2.2.1
  have ix3 := fun w => (ix w).2.2.2
  clear ix
  have H1 := Lib.hid hi1
  have H3 := Lib.hid hgo
  have H4 := Lib.hid hno
  have H5 := Lib.hid hyes
  clear hi1 hgo hno hyes
  obtain ⟨hb4a, hb4b⟩ := hb4
  go_enter Try.func51, Try.ntmps51
  go_wp2_with fail
  refine (H1.out _).mono ?_; rintro e w1 ⟨rfl, k⟩
  have oa := k.own (own_three w _ _ _ _ _ _).1 (by simp)
  have oR := k.own (own_three w _ _ _ _ _ _).2.1 (by simp)
  have oo : Own w1 (w.heap.size + 1 + 1) #[.complex .f64 0 0, .complex .f64 0 0, .complex .f64 0 0, .complex .f64 0 0] 48 := k.own (own_three w _ _ _ _ _ _).2.2 (by simp)
  have kk := (((Kept.refl [] w).alloc _).alloc _).alloc _ |>.trans k
  clear k
  have lR := oR.lt
  have lo := oo.lt
  cases okp
  · go_wp2_with (first | (refine wpList_load_row rfl _ _ rfl _ rfl _ _ _ _ oo Try.underlying48 rfl (by kernel_rfl) ?_) | (refine wpList_store_row rfl _ _ _ rfl _ _ rfl rfl _ _ oR (by kernel_rfl) rfl (by kernel_rfl) ?_))
    refine bodyPost_ret (v := zeroC) ?_ ?_ ?_
    · exact ret_row Try.results51 rfl (oR.setRow _) Try.underlying48 rfl (by kernel_rfl)
    · rfl
    · refine H4.out (by trivial) _ (kk.setRow (Or.inr ?_) _); omega
  · obtain ⟨⟨f0, g0, f1, g1, f2, g2, f3, g3⟩, ⟨x0, y0, x1, y1, x2, y2, x3, y3⟩⟩ := H3.out (by trivial)
    have P0 : Hid (FW a0 zp.n0 ∧ FW b0 zp.m0 ∧ zp.n0.natAbs ≤ 2 ^ 45 ∧ zp.m0.natAbs ≤ 2 ^ 45) := ⟨f0, g0, x0, y0⟩
    have P1 : Hid (FW a1 zp.n1 ∧ FW b1 zp.m1 ∧ zp.n1.natAbs ≤ 2 ^ 45 ∧ zp.m1.natAbs ≤ 2 ^ 45) := ⟨f1, g1, x1, y1⟩
    have P2 : Hid (FW a2 zp.n2 ∧ FW b2 zp.m2 ∧ zp.n2.natAbs ≤ 2 ^ 45 ∧ zp.m2.natAbs ≤ 2 ^ 45) := ⟨f2, g2, x2, y2⟩
    have P3 : Hid (FW a3 zp.n3 ∧ FW b3 zp.m3 ∧ zp.n3.natAbs ≤ 2 ^ 45 ∧ zp.m3.natAbs ≤ 2 ^ 45) := ⟨f3, g3, x3, y3⟩
    clear f0 f1 f2 f3 g0 g1 g2 g3 x0 x1 x2 x3 y0 y1 y2 y3
    obtain ⟨x0, x1, x2, x3⟩ := oa.c4
    clear oa H1 H3 H4
    go_wp2_with fail
    rw [hq]
    clear x0 x1 x2 x3 hq hb4a hb4b hn
    refine wp_loop_rounds 5 ?_
    rw [rounds_succ]
    go_wp2_with fail
    go_loop [7, 24] (fun z i => ∃ (j : Nat) (x y : Nat), j ≤ 0 ∧ i = .int .i64 j ∧ z = .complex .f64 x y ∧ Aside (FW x (turnZ j (zp.n0, zp.m0)).1 ∧ FW y (turnZ j (zp.n0, zp.m0)).2)) (fun _ i => 0 - (intOf i).toNat)
    case atStart => exact ⟨0, _, _, Nat.zero_le _, rfl, rfl, P0.out.1, P0.out.2.1⟩
    case round =>
      obtain ⟨j, x, y, hj, rfl, rfl, hxy⟩ := hrel
      by_cases hlt : j < 0
      · have hxy2 : Aside (FW (Op.negFloat .f64 y) (turnZ (j + 1) (zp.n0, zp.m0)).1 ∧ FW x (turnZ (j + 1) (zp.n0, zp.m0)).2) := by
          obtain ⟨b1, b2⟩ := turnZ_bd (k := j) P0.out.2.2.1 P0.out.2.2.2
          rw [turnZ_succ']
          exact ⟨neg_FW hxy.2 (by omega), hxy.1⟩
        exact absurd hlt (Nat.not_lt_zero _)
      · obtain rfl : 0 = j := by omega
        have hpl : Hid (∀ w, Calls Try.prog 67 #[.complex .f64 x y] w fun e w' => e = .returned (.complex .f64 (F zp.n0) (F zp.m0)) ∧ w = w') := fun w => by
          have := turned_plain hxy.1 hxy.2 P0.out.2.2.1 P0.out.2.2.2 w
          simpa [turnZ] using this
        clear hxy hj hlt
        obtain ⟨q0, q1, q2, q3⟩ := oo.c4
        obtain ⟨z0, z1, z2, z3⟩ := oo.z4
        go_wp2_with fail
        refine (hpl.out _).mono ?_; rintro e w9 ⟨rfl, rfl⟩
        go_wp2_with fail
        have oo : Own (w1.setCell ⟨w.heap.size + 1 + 1, 0, none⟩ (.complex .f64 (F zp.n0) (F zp.m0))) (w.heap.size + 1 + 1) #[.complex .f64 (F zp.n0) (F zp.m0), .complex .f64 0 0, .complex .f64 0 0, .complex .f64 0 0] 48 := by
          have := oo.set 0 (.complex .f64 (F zp.n0) (F zp.m0))
          simpa using this
        have oR := oR.other (p := ⟨w.heap.size + 1 + 1, 0, none⟩) (by simp) (.complex .f64 (F zp.n0) (F zp.m0))
        have kk := kk.setCell (p := ⟨w.heap.size + 1 + 1, 0, none⟩) (Or.inr (by simp; omega)) (.complex .f64 (F zp.n0) (F zp.m0))
        clear q0 q1 q2 q3 z0 z1 z2 z3 lo lR hpl
        generalize w1.setCell ⟨w.heap.size + 1 + 1, 0, none⟩ (.complex .f64 (F zp.n0) (F zp.m0)) = w1 at *
        have lR := oR.lt
        have lo := oo.lt
        rw [rounds_succ]
        go_wp2_with fail
        go_loop [7, 24] (fun z i => ∃ (j : Nat) (x y : Nat), j ≤ s ∧ i = .int .i64 j ∧ z = .complex .f64 x y ∧ Aside (FW x (turnZ j (zp.n1, zp.m1)).1 ∧ FW y (turnZ j (zp.n1, zp.m1)).2)) (fun _ i => s - (intOf i).toNat)
        case atStart => exact ⟨0, _, _, Nat.zero_le _, rfl, rfl, P1.out.1, P1.out.2.1⟩
        case round =>
          obtain ⟨j, x, y, hj, rfl, rfl, hxy⟩ := hrel
          by_cases hlt : j < s
          · have hxy2 : Aside (FW (Op.negFloat .f64 y) (turnZ (j + 1) (zp.n1, zp.m1)).1 ∧ FW x (turnZ (j + 1) (zp.n1, zp.m1)).2) := by
              obtain ⟨b1, b2⟩ := turnZ_bd (k := j) P1.out.2.2.1 P1.out.2.2.2
              rw [turnZ_succ']
              exact ⟨neg_FW hxy.2 (by omega), hxy.1⟩
            go_wp2_with fail
            go_round
            case rel => exact ⟨j + 1, _, _, by omega, by go_num, rfl, hxy2⟩
            case measure => simp [intOf]; omega
          · obtain rfl : s = j := by omega
            have hpl : Hid (∀ w, Calls Try.prog 67 #[.complex .f64 x y] w fun e w' => e = .returned (.complex .f64 (F (turnZ (s) (zp.n1, zp.m1)).1) (F (turnZ (s) (zp.n1, zp.m1)).2)) ∧ w = w') := fun w => by
              have := turned_plain hxy.1 hxy.2 P1.out.2.2.1 P1.out.2.2.2 w
              simpa [turnZ] using this
            clear hxy hj hlt
            obtain ⟨q0, q1, q2, q3⟩ := oo.c4
            obtain ⟨z0, z1, z2, z3⟩ := oo.z4
            go_wp2_with fail
            refine (hpl.out _).mono ?_; rintro e w9 ⟨rfl, rfl⟩
            go_wp2_with fail
            have oo : Own (w1.setCell ⟨w.heap.size + 1 + 1, 1, none⟩ (.complex .f64 (F (turnZ (s) (zp.n1, zp.m1)).1) (F (turnZ (s) (zp.n1, zp.m1)).2))) (w.heap.size + 1 + 1) #[.complex .f64 (F zp.n0) (F zp.m0), .complex .f64 (F (turnZ (s) (zp.n1, zp.m1)).1) (F (turnZ (s) (zp.n1, zp.m1)).2), .complex .f64 0 0, .complex .f64 0 0] 48 := by
              have := oo.set 1 (.complex .f64 (F (turnZ (s) (zp.n1, zp.m1)).1) (F (turnZ (s) (zp.n1, zp.m1)).2))
              simpa using this
            have oR := oR.other (p := ⟨w.heap.size + 1 + 1, 1, none⟩) (by simp) (.complex .f64 (F (turnZ (s) (zp.n1, zp.m1)).1) (F (turnZ (s) (zp.n1, zp.m1)).2))
            have kk := kk.setCell (p := ⟨w.heap.size + 1 + 1, 1, none⟩) (Or.inr (by simp; omega)) (.complex .f64 (F (turnZ (s) (zp.n1, zp.m1)).1) (F (turnZ (s) (zp.n1, zp.m1)).2))
            clear q0 q1 q2 q3 z0 z1 z2 z3 lo lR hpl
            generalize w1.setCell ⟨w.heap.size + 1 + 1, 1, none⟩ (.complex .f64 (F (turnZ (s) (zp.n1, zp.m1)).1) (F (turnZ (s) (zp.n1, zp.m1)).2)) = w1 at *
            have lR := oR.lt
            have lo := oo.lt
            rw [rounds_succ]
            go_wp2_with fail
            go_loop [7, 24] (fun z i => ∃ (j : Nat) (x y : Nat), j ≤ 2 * s ∧ i = .int .i64 j ∧ z = .complex .f64 x y ∧ Aside (FW x (turnZ j (zp.n2, zp.m2)).1 ∧ FW y (turnZ j (zp.n2, zp.m2)).2)) (fun _ i => 2 * s - (intOf i).toNat)
            case atStart => exact ⟨0, _, _, Nat.zero_le _, rfl, rfl, P2.out.1, P2.out.2.1⟩
            case round =>
              obtain ⟨j, x, y, hj, rfl, rfl, hxy⟩ := hrel
              by_cases hlt : j < 2 * s
              · have hxy2 : Aside (FW (Op.negFloat .f64 y) (turnZ (j + 1) (zp.n2, zp.m2)).1 ∧ FW x (turnZ (j + 1) (zp.n2, zp.m2)).2) := by
                  obtain ⟨b1, b2⟩ := turnZ_bd (k := j) P2.out.2.2.1 P2.out.2.2.2
                  rw [turnZ_succ']
                  exact ⟨neg_FW hxy.2 (by omega), hxy.1⟩
                go_wp2_with fail
                go_round
                case rel => exact ⟨j + 1, _, _, by omega, by go_num, rfl, hxy2⟩
                case measure => simp [intOf]; omega
              · obtain rfl : 2 * s = j := by omega
                have hpl : Hid (∀ w, Calls Try.prog 67 #[.complex .f64 x y] w fun e w' => e = .returned (.complex .f64 (F (turnZ (2 * s) (zp.n2, zp.m2)).1) (F (turnZ (2 * s) (zp.n2, zp.m2)).2)) ∧ w = w') := fun w => by
                  have := turned_plain hxy.1 hxy.2 P2.out.2.2.1 P2.out.2.2.2 w
                  simpa [turnZ] using this
                clear hxy hj hlt
                obtain ⟨q0, q1, q2, q3⟩ := oo.c4
                obtain ⟨z0, z1, z2, z3⟩ := oo.z4
                go_wp2_with fail
                refine (hpl.out _).mono ?_; rintro e w9 ⟨rfl, rfl⟩
                go_wp2_with fail
                have oo : Own (w1.setCell ⟨w.heap.size + 1 + 1, 2, none⟩ (.complex .f64 (F (turnZ (2 * s) (zp.n2, zp.m2)).1) (F (turnZ (2 * s) (zp.n2, zp.m2)).2))) (w.heap.size + 1 + 1) #[.complex .f64 (F zp.n0) (F zp.m0), .complex .f64 (F (turnZ (s) (zp.n1, zp.m1)).1) (F (turnZ (s) (zp.n1, zp.m1)).2), .complex .f64 (F (turnZ (2 * s) (zp.n2, zp.m2)).1) (F (turnZ (2 * s) (zp.n2, zp.m2)).2), .complex .f64 0 0] 48 := by
                  have := oo.set 2 (.complex .f64 (F (turnZ (2 * s) (zp.n2, zp.m2)).1) (F (turnZ (2 * s) (zp.n2, zp.m2)).2))
                  simpa using this
                have oR := oR.other (p := ⟨w.heap.size + 1 + 1, 2, none⟩) (by simp) (.complex .f64 (F (turnZ (2 * s) (zp.n2, zp.m2)).1) (F (turnZ (2 * s) (zp.n2, zp.m2)).2))
                have kk := kk.setCell (p := ⟨w.heap.size + 1 + 1, 2, none⟩) (Or.inr (by simp; omega)) (.complex .f64 (F (turnZ (2 * s) (zp.n2, zp.m2)).1) (F (turnZ (2 * s) (zp.n2, zp.m2)).2))
                clear q0 q1 q2 q3 z0 z1 z2 z3 lo lR hpl
                generalize w1.setCell ⟨w.heap.size + 1 + 1, 2, none⟩ (.complex .f64 (F (turnZ (2 * s) (zp.n2, zp.m2)).1) (F (turnZ (2 * s) (zp.n2, zp.m2)).2)) = w1 at *
                have lR := oR.lt
                have lo := oo.lt
                rw [rounds_succ]
                go_wp2_with fail
                go_loop [7, 24] (fun z i => ∃ (j : Nat) (x y : Nat), j ≤ 3 * s ∧ i = .int .i64 j ∧ z = .complex .f64 x y ∧ Aside (FW x (turnZ j (zp.n3, zp.m3)).1 ∧ FW y (turnZ j (zp.n3, zp.m3)).2)) (fun _ i => 3 * s - (intOf i).toNat)
                case atStart => exact ⟨0, _, _, Nat.zero_le _, rfl, rfl, P3.out.1, P3.out.2.1⟩
                case round =>
                  obtain ⟨j, x, y, hj, rfl, rfl, hxy⟩ := hrel
                  by_cases hlt : j < 3 * s
                  · have hxy2 : Aside (FW (Op.negFloat .f64 y) (turnZ (j + 1) (zp.n3, zp.m3)).1 ∧ FW x (turnZ (j + 1) (zp.n3, zp.m3)).2) := by
                      obtain ⟨b1, b2⟩ := turnZ_bd (k := j) P3.out.2.2.1 P3.out.2.2.2
                      rw [turnZ_succ']
                      exact ⟨neg_FW hxy.2 (by omega), hxy.1⟩
                    go_wp2_with fail
                    go_round
                    case rel => exact ⟨j + 1, _, _, by omega, by go_num, rfl, hxy2⟩
                    case measure => simp [intOf]; omega
                  · obtain rfl : 3 * s = j := by omega
                    have hpl : Hid (∀ w, Calls Try.prog 67 #[.complex .f64 x y] w fun e w' => e = .returned (.complex .f64 (F (turnZ (3 * s) (zp.n3, zp.m3)).1) (F (turnZ (3 * s) (zp.n3, zp.m3)).2)) ∧ w = w') := fun w => by
                      have := turned_plain hxy.1 hxy.2 P3.out.2.2.1 P3.out.2.2.2 w
                      simpa [turnZ] using this
                    clear hxy hj hlt
                    obtain ⟨q0, q1, q2, q3⟩ := oo.c4
                    obtain ⟨z0, z1, z2, z3⟩ := oo.z4
                    go_wp2_with fail
                    refine (hpl.out _).mono ?_; rintro e w9 ⟨rfl, rfl⟩
                    go_wp2_with fail
                    have oo : Own (w1.setCell ⟨w.heap.size + 1 + 1, 3, none⟩ (.complex .f64 (F (turnZ (3 * s) (zp.n3, zp.m3)).1) (F (turnZ (3 * s) (zp.n3, zp.m3)).2))) (w.heap.size + 1 + 1) #[.complex .f64 (F zp.n0) (F zp.m0), .complex .f64 (F (turnZ (s) (zp.n1, zp.m1)).1) (F (turnZ (s) (zp.n1, zp.m1)).2), .complex .f64 (F (turnZ (2 * s) (zp.n2, zp.m2)).1) (F (turnZ (2 * s) (zp.n2, zp.m2)).2), .complex .f64 (F (turnZ (3 * s) (zp.n3, zp.m3)).1) (F (turnZ (3 * s) (zp.n3, zp.m3)).2)] 48 := by
                      have := oo.set 3 (.complex .f64 (F (turnZ (3 * s) (zp.n3, zp.m3)).1) (F (turnZ (3 * s) (zp.n3, zp.m3)).2))
                      simpa using this
                    have oR := oR.other (p := ⟨w.heap.size + 1 + 1, 3, none⟩) (by simp) (.complex .f64 (F (turnZ (3 * s) (zp.n3, zp.m3)).1) (F (turnZ (3 * s) (zp.n3, zp.m3)).2))
                    have kk := kk.setCell (p := ⟨w.heap.size + 1 + 1, 3, none⟩) (Or.inr (by simp; omega)) (.complex .f64 (F (turnZ (3 * s) (zp.n3, zp.m3)).1) (F (turnZ (3 * s) (zp.n3, zp.m3)).2))
                    clear q0 q1 q2 q3 z0 z1 z2 z3 lo lR hpl
                    generalize w1.setCell ⟨w.heap.size + 1 + 1, 3, none⟩ (.complex .f64 (F (turnZ (3 * s) (zp.n3, zp.m3)).1) (F (turnZ (3 * s) (zp.n3, zp.m3)).2)) = w1 at *
                    have lR := oR.lt
                    have lo := oo.lt
                    rw [rounds_succ]
                    go_wp2_with (first | (refine wpList_load_row rfl _ _ rfl _ rfl _ _ _ _ oo Try.underlying48 rfl (by kernel_rfl) ?_) | (refine wpList_store_row rfl _ _ _ rfl _ _ rfl rfl _ _ oR (by kernel_rfl) rfl (by kernel_rfl) ?_))
                    refine bodyPost_ret (v := .agg #[.complex .f64 (F zp.n0) (F zp.m0), .complex .f64 (F (turnZ (s) (zp.n1, zp.m1)).1) (F (turnZ (s) (zp.n1, zp.m1)).2), .complex .f64 (F (turnZ (2 * s) (zp.n2, zp.m2)).1) (F (turnZ (2 * s) (zp.n2, zp.m2)).2), .complex .f64 (F (turnZ (3 * s) (zp.n3, zp.m3)).1) (F (turnZ (3 * s) (zp.n3, zp.m3)).2)]) ?_ ?_ ?_
                    · exact ret_row Try.results51 rfl (oR.setRow _) Try.underlying48 rfl (by kernel_rfl)
                    · rfl
                    · refine H5.out (by trivial) _ (kk.setRow (Or.inr ?_) _); omega
end Go.Proofs.Ytkghkkfcgegmeaa
