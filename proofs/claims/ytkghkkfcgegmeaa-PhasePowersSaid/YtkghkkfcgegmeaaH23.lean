/- Walks of layer 34 (phase): how strong phases are, by the program and by the reference. -/
import Derived.Test.YtkghkkfcgegmeaaH20
import Derived.Test.YtkghkkfcgegmeaaFlt3
namespace Go.Proofs.Ytkghkkfcgegmeaa
open Go.RowKit Fl
set_option linter.unusedVariables false
set_option linter.unusedSimpArgs false

/-- four floats by their bits. -/
structure W4 where
  (w0 w1 w2 w3 : Nat)
def W4.v (p : W4) : Value := .agg #[.float .f64 p.w0, .float .f64 p.w1, .float .f64 p.w2, .float .f64 p.w3]
def W4.zero : W4 := ⟨0, 0, 0, 0⟩
/-- the powers of whole complex numbers. -/
def Z4.pow (z : Z4) : W4 := ⟨pw z.n0 z.m0, pw z.n1 z.m1, pw z.n2 z.m2, pw z.n3 z.m3⟩
def powP (p : P4) : W4 := if p.ok then p.z.pow else W4.zero
def W4.bd (p : W4) : Prop := p.w0 ≤ INF ∧ p.w1 ≤ INF ∧ p.w2 ≤ INF ∧ p.w3 ≤ INF
theorem Z4.pow_bd {z : Z4} (h : z.Bd) : z.pow.bd := by
  obtain ⟨a, b, c, d, e, f, g, i⟩ := h
  have k : ∀ {n m : Int}, n.natAbs ≤ 2 ^ 45 → m.natAbs ≤ 2 ^ 45 → pw n m ≤ INF := fun {n m} hn hm => (pw_spec (FW_F (n := n) (by omega)) (FW_F (n := m) (by omega)) (by omega) (by omega)).1
  exact ⟨k a b, k c d, k e f, k g i⟩
theorem powP_bd {p : P4} (hl : p.lt) : (powP p).bd := by
  unfold powP
  cases h : p.ok
  · exact ⟨Nat.zero_le _, Nat.zero_le _, Nat.zero_le _, Nat.zero_le _⟩
  · exact Z4.pow_bd (P4.isZ hl (by simpa [P4.ok] using h : okW p = true ∧ _).1).2
/-- the runs of a square, and of a sum of squares. -/
theorem pw_runs {x y : Nat} {n m : Int} (hx : FW x n) (hy : FW y m) (hn : n.natAbs ≤ 2 ^ 45) (hm : m.natAbs ≤ 2 ^ 45) : ∃ A B : Nat,
    (∀ t w, (binOp .mul t (.float .f64 x) (.float .f64 x)).run Try.prog w = .ok (.float .f64 A) w) ∧ (∀ t w, (binOp .mul t (.float .f64 y) (.float .f64 y)).run Try.prog w = .ok (.float .f64 B) w) ∧ (∀ t w, (binOp .add t (.float .f64 A) (.float .f64 B)).run Try.prog w = .ok (.float .f64 (pw n m)) w) := by
  obtain ⟨_, A, B, h1, h2, h3⟩ := pw_spec hx hy (by omega) (by omega)
  exact ⟨A, B, fun t w => run_float_arith (P := Try.prog) w .mul t .f64 _ _ _ h1, fun t w => run_float_arith (P := Try.prog) w .mul t .f64 _ _ _ h2, fun t w => run_float_arith (P := Try.prog) w .add t .f64 _ _ _ h3⟩

set_option maxRecDepth 100000 in
set_option maxHeartbeats 8000000 in
theorem ppower (p : P4) (w : World) (hp : p.lt) :
    Calls Try.prog 47 #[p.v] w fun e w' => e = .returned (powP p).v ∧ Kept [] w w' := by
  have hi1 := fun w => pis p w hp
  have hgo : p.ok = true → IsZ p p.z ∧ p.z.Bd := fun h1 => P4.isZ hp (P4.z_ok h1).1
  have hno : p.ok = false → powP p = W4.zero := fun h => by simp [powP, h]
  have hyes : p.ok = true → powP p = p.z.pow := fun h => by simp [powP, h]
  generalize powP p = Q at *
  generalize p.z = zp at *
  generalize p.ok = okp at *
  clear hp
  obtain ⟨a0, b0, a1, b1, a2, b2, a3, b3⟩ := p
  simp only [P4.v] at *
  have ix := ixC (.complex .f64 a0 b0) (.complex .f64 a1 b1) (.complex .f64 a2 b2) (.complex .f64 a3 b3)
  have ix0 := fun w => (ix w).1
  have ix1 := fun w => (ix w).2.1
  have ix2 := fun w => (ix w).2.2.1
  have ix3 := fun w => (ix w).2.2.2
  clear ix
  have H1 := Lib.hid hi1
  have H3 := Lib.hid hgo
  have H4 := Lib.hid hno
  have H5 := Lib.hid hyes
  clear hi1 hgo hno hyes
  go_enter Try.func47, Try.ntmps47
  go_wp2_with fail
  refine (H1.out _).mono ?_; rintro e w1 ⟨rfl, k⟩
  have oa := k.own (own_three w _ _ _ _ _ _).1 (by simp)
  have oR := k.own (own_three w _ _ _ _ _ _).2.1 (by simp)
  have oo : Own w1 (w.heap.size + 1 + 1) #[.float .f64 0, .float .f64 0, .float .f64 0, .float .f64 0] 45 := k.own (own_three w _ _ _ _ _ _).2.2 (by simp)
  have kk := (((Kept.refl [] w).alloc _).alloc _).alloc _ |>.trans k
  clear k
  have lR := oR.lt
  have lo := oo.lt
  cases okp
  · go_wp2_with (first | (refine wpList_load_row rfl _ _ rfl _ rfl _ _ _ _ oo Try.underlying45 rfl (by kernel_rfl) ?_) | (refine wpList_store_row rfl _ _ _ rfl _ _ rfl rfl _ _ oR (by kernel_rfl) rfl (by kernel_rfl) ?_))
    refine bodyPost_ret (v := W4.zero.v) ?_ ?_ ?_
    · exact ret_row Try.results47 rfl (oR.setRow _) Try.underlying45 rfl (by kernel_rfl)
    · rfl
    · rw [H4.out (by trivial)]; refine ⟨rfl, kk.setRow (Or.inr ?_) _⟩; omega
  · obtain ⟨⟨f0, g0, f1, g1, f2, g2, f3, g3⟩, ⟨x0, y0, x1, y1, x2, y2, x3, y3⟩⟩ := H3.out (by trivial)
    obtain ⟨A0, B0, r0, s0, t0⟩ := pw_runs f0 g0 x0 y0
    obtain ⟨A1, B1, r1, s1, t1⟩ := pw_runs f1 g1 x1 y1
    obtain ⟨A2, B2, r2, s2, t2⟩ := pw_runs f2 g2 x2 y2
    obtain ⟨A3, B3, r3, s3, t3⟩ := pw_runs f3 g3 x3 y3
    clear f0 f1 f2 f3 g0 g1 g2 g3 x0 x1 x2 x3 y0 y1 y2 y3 H1 H3 H4
    obtain ⟨x0, x1, x2, x3⟩ := oa.c4
    clear oa
    go_wp2_with fail
    clear x0 x1 x2 x3
    refine wp_loop_rounds 5 ?_
    rw [rounds_succ]
    obtain ⟨q0, q1, q2, q3⟩ := oo.c4
    obtain ⟨z0, z1, z2, z3⟩ := oo.z4
    go_wp2_with fail
    have oo : Own (w1.setCell ⟨w.heap.size + 1 + 1, 0, none⟩ (.float .f64 (pw zp.n0 zp.m0))) (w.heap.size + 1 + 1) #[.float .f64 (pw zp.n0 zp.m0), .float .f64 0, .float .f64 0, .float .f64 0] 45 := by
      have := oo.set 0 (.float .f64 (pw zp.n0 zp.m0))
      simpa using this
    have oR := oR.other (p := ⟨w.heap.size + 1 + 1, 0, none⟩) (by simp) (.float .f64 (pw zp.n0 zp.m0))
    have kk := kk.setCell (p := ⟨w.heap.size + 1 + 1, 0, none⟩) (Or.inr (by simp; omega)) (.float .f64 (pw zp.n0 zp.m0))
    clear q0 q1 q2 q3 z0 z1 z2 z3 lo lR
    generalize w1.setCell ⟨w.heap.size + 1 + 1, 0, none⟩ (.float .f64 (pw zp.n0 zp.m0)) = w1 at *
    have lR := oR.lt
    have lo := oo.lt
    rw [rounds_succ]
    obtain ⟨q0, q1, q2, q3⟩ := oo.c4
    obtain ⟨z0, z1, z2, z3⟩ := oo.z4
    go_wp2_with fail
    have oo : Own (w1.setCell ⟨w.heap.size + 1 + 1, 1, none⟩ (.float .f64 (pw zp.n1 zp.m1))) (w.heap.size + 1 + 1) #[.float .f64 (pw zp.n0 zp.m0), .float .f64 (pw zp.n1 zp.m1), .float .f64 0, .float .f64 0] 45 := by
      have := oo.set 1 (.float .f64 (pw zp.n1 zp.m1))
      simpa using this
    have oR := oR.other (p := ⟨w.heap.size + 1 + 1, 1, none⟩) (by simp) (.float .f64 (pw zp.n1 zp.m1))
    have kk := kk.setCell (p := ⟨w.heap.size + 1 + 1, 1, none⟩) (Or.inr (by simp; omega)) (.float .f64 (pw zp.n1 zp.m1))
    clear q0 q1 q2 q3 z0 z1 z2 z3 lo lR
    generalize w1.setCell ⟨w.heap.size + 1 + 1, 1, none⟩ (.float .f64 (pw zp.n1 zp.m1)) = w1 at *
    have lR := oR.lt
    have lo := oo.lt
    rw [rounds_succ]
    obtain ⟨q0, q1, q2, q3⟩ := oo.c4
    obtain ⟨z0, z1, z2, z3⟩ := oo.z4
    go_wp2_with fail
    have oo : Own (w1.setCell ⟨w.heap.size + 1 + 1, 2, none⟩ (.float .f64 (pw zp.n2 zp.m2))) (w.heap.size + 1 + 1) #[.float .f64 (pw zp.n0 zp.m0), .float .f64 (pw zp.n1 zp.m1), .float .f64 (pw zp.n2 zp.m2), .float .f64 0] 45 := by
      have := oo.set 2 (.float .f64 (pw zp.n2 zp.m2))
      simpa using this
    have oR := oR.other (p := ⟨w.heap.size + 1 + 1, 2, none⟩) (by simp) (.float .f64 (pw zp.n2 zp.m2))
    have kk := kk.setCell (p := ⟨w.heap.size + 1 + 1, 2, none⟩) (Or.inr (by simp; omega)) (.float .f64 (pw zp.n2 zp.m2))
    clear q0 q1 q2 q3 z0 z1 z2 z3 lo lR
    generalize w1.setCell ⟨w.heap.size + 1 + 1, 2, none⟩ (.float .f64 (pw zp.n2 zp.m2)) = w1 at *
    have lR := oR.lt
    have lo := oo.lt
    rw [rounds_succ]
    obtain ⟨q0, q1, q2, q3⟩ := oo.c4
    obtain ⟨z0, z1, z2, z3⟩ := oo.z4
    go_wp2_with fail
    have oo : Own (w1.setCell ⟨w.heap.size + 1 + 1, 3, none⟩ (.float .f64 (pw zp.n3 zp.m3))) (w.heap.size + 1 + 1) #[.float .f64 (pw zp.n0 zp.m0), .float .f64 (pw zp.n1 zp.m1), .float .f64 (pw zp.n2 zp.m2), .float .f64 (pw zp.n3 zp.m3)] 45 := by
      have := oo.set 3 (.float .f64 (pw zp.n3 zp.m3))
      simpa using this
    have oR := oR.other (p := ⟨w.heap.size + 1 + 1, 3, none⟩) (by simp) (.float .f64 (pw zp.n3 zp.m3))
    have kk := kk.setCell (p := ⟨w.heap.size + 1 + 1, 3, none⟩) (Or.inr (by simp; omega)) (.float .f64 (pw zp.n3 zp.m3))
    clear q0 q1 q2 q3 z0 z1 z2 z3 lo lR
    generalize w1.setCell ⟨w.heap.size + 1 + 1, 3, none⟩ (.float .f64 (pw zp.n3 zp.m3)) = w1 at *
    have lR := oR.lt
    have lo := oo.lt
    rw [rounds_succ]
    go_wp2_with (first | (refine wpList_load_row rfl _ _ rfl _ rfl _ _ _ _ oo Try.underlying45 rfl (by kernel_rfl) ?_) | (refine wpList_store_row rfl _ _ _ rfl _ _ rfl rfl _ _ oR (by kernel_rfl) rfl (by kernel_rfl) ?_))
    refine bodyPost_ret (v := .agg #[.float .f64 (pw zp.n0 zp.m0), .float .f64 (pw zp.n1 zp.m1), .float .f64 (pw zp.n2 zp.m2), .float .f64 (pw zp.n3 zp.m3)]) ?_ ?_ ?_
    · exact ret_row Try.results47 rfl (oR.setRow _) Try.underlying45 rfl (by kernel_rfl)
    · rfl
    · rw [H5.out (by trivial)]; refine ⟨rfl, kk.setRow (Or.inr ?_) _⟩; omega

set_option maxRecDepth 100000 in
set_option maxHeartbeats 8000000 in
theorem rpower (z : Z4) (w : World) (hb : z.Bd) :
    Calls Try.prog 49 #[.agg z.cells] w fun e w' => e = .returned z.pow.v ∧ Kept [] w w' := by
  unfold Z4.cells
  have hc : ∀ (n : Int) w, (convert 3 36 (.int .i64 n)).run Try.prog w = .ok (.float .f64 (F n)) w := fun n w => run_convert_int_float w _ _ .i64 .f64 n (by rw [Try.underlying3]; rfl) Try.underlying36
  obtain ⟨x0, y0, x1, y1, x2, y2, x3, y3⟩ := hb
  obtain ⟨A0, B0, r0, s0, t0⟩ := pw_runs (FW_F (n := z.n0) (by omega)) (FW_F (n := z.m0) (by omega)) x0 y0
  obtain ⟨A1, B1, r1, s1, t1⟩ := pw_runs (FW_F (n := z.n1) (by omega)) (FW_F (n := z.m1) (by omega)) x1 y1
  obtain ⟨A2, B2, r2, s2, t2⟩ := pw_runs (FW_F (n := z.n2) (by omega)) (FW_F (n := z.m2) (by omega)) x2 y2
  obtain ⟨A3, B3, r3, s3, t3⟩ := pw_runs (FW_F (n := z.n3) (by omega)) (FW_F (n := z.m3) (by omega)) x3 y3
  clear x0 x1 x2 x3 y0 y1 y2 y3
  go_enter Try.func49, Try.ntmps49
  go_wp2_with fail
  refine wp_loop_rounds 5 ?_
  rw [rounds_succ]
  go_wp2_with fail
  rw [rounds_succ]
  go_wp2_with fail
  rw [rounds_succ]
  go_wp2_with fail
  rw [rounds_succ]
  go_wp2_with fail
  rw [rounds_succ]
  go_wp2_with fail
  refine bodyPost_ret (v := .agg #[.float .f64 (pw z.n0 z.m0), .float .f64 (pw z.n1 z.m1), .float .f64 (pw z.n2 z.m2), .float .f64 (pw z.n3 z.m3)]) (by simp [results, Try.results49, go_sem]) rfl ⟨rfl, ?_⟩
  repeat' first | exact Kept.refl _ _ | refine Kept.alloc ?_ _ | refine Kept.drew ?_
end Go.Proofs.Ytkghkkfcgegmeaa
