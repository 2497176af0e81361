/- Walks of layer 34 (phase): the reference's Row. -/
import Derived.Test.YtkghkkfcgegmeaaH5
namespace Go.Proofs.Ytkghkkfcgegmeaa
open Go.RowKit Fl
set_option linter.unusedVariables false
set_option linter.unusedSimpArgs false

def Z4.at_ (z : Z4) : Nat → Int × Int
  | 0 => (z.n0, z.m0)
  | 1 => (z.n1, z.m1)
  | 2 => (z.n2, z.m2)
  | _ => (z.n3, z.m3)
def Z4.cells (z : Z4) : Array Value := #[.int .i64 z.n0, .int .i64 z.m0, .int .i64 z.n1, .int .i64 z.m1, .int .i64 z.n2, .int .i64 z.m2, .int .i64 z.n3, .int .i64 z.m3]
/-- the sum for the n-th number, so many phases in. -/
def Z4.T (z : Z4) (n : Nat) : Nat → Int × Int
  | 0 => (0, 0)
  | k + 1 => ((z.T n k).1 + (turnZ (3 * k * n % 4) (z.at_ k)).1, (z.T n k).2 + (turnZ (3 * k * n % 4) (z.at_ k)).2)
theorem turnZ_bd {k : Nat} {a b : Int} (ha : a.natAbs ≤ 2 ^ 45) (hb : b.natAbs ≤ 2 ^ 45) : (turnZ k (a, b)).1.natAbs ≤ 2 ^ 45 ∧ (turnZ k (a, b)).2.natAbs ≤ 2 ^ 45 := by
  induction k generalizing a b with
  | zero => exact ⟨ha, hb⟩
  | succ k ih => exact ih (by simpa using hb) ha
theorem Z4.at_bd {z : Z4} (h : z.Bd) (k : Nat) : (z.at_ k).1.natAbs ≤ 2 ^ 45 ∧ (z.at_ k).2.natAbs ≤ 2 ^ 45 := by
  unfold Z4.at_; split
  · exact ⟨h.f0, h.g0⟩
  · exact ⟨h.f1, h.g1⟩
  · exact ⟨h.f2, h.g2⟩
  · exact ⟨h.f3, h.g3⟩
theorem Z4.T_bd {z : Z4} (h : z.Bd) (n k : Nat) : (z.T n k).1.natAbs ≤ k * 2 ^ 45 ∧ (z.T n k).2.natAbs ≤ k * 2 ^ 45 := by
  induction k with
  | zero => simp [Z4.T]
  | succ k ih =>
    have h1 : (turnZ (3 * k * n % 4) (z.at_ k)).1.natAbs ≤ 2 ^ 45 ∧ (turnZ (3 * k * n % 4) (z.at_ k)).2.natAbs ≤ 2 ^ 45 := turnZ_bd (k := 3 * k * n % 4) (z.at_bd h k).1 (z.at_bd h k).2
    simp only [Z4.T]
    omega
theorem four_of (a : Int) : 4 * a.tdiv 4 + a.tmod 4 = a ∧ -3 ≤ a.tmod 4 ∧ a.tmod 4 ≤ 3 := ⟨Int.mul_tdiv_add_tmod a 4, tmod_bd a⟩
theorem Z4.T4 (z : Z4) : z.T 0 4 = (z.n0 + z.n1 + z.n2 + z.n3, z.m0 + z.m1 + z.m2 + z.m3) ∧ z.T 1 4 = (z.n0 + z.m1 - z.n2 - z.m3, z.m0 - z.n1 - z.m2 + z.n3) ∧ z.T 2 4 = (z.n0 - z.n1 + z.n2 - z.n3, z.m0 - z.m1 + z.m2 - z.m3) ∧ z.T 3 4 = (z.n0 - z.m1 - z.n2 + z.m3, z.m0 + z.n1 - z.m2 - z.n3) := by
  refine ⟨?_, ?_, ?_, ?_⟩ <;> simp only [Z4.T, Z4.at_, turnZ, Nat.reduceMul, Nat.reduceMod, Nat.zero_mul, Nat.mul_zero, Nat.zero_mod] <;> ext <;> simp <;> omega
/-- is the n-th sum one of a number? -/
def Z4.okR (z : Z4) (n : Nat) : Prop := (z.T n 4).1.tmod 4 = 0 ∧ (z.T n 4).2 = 0
theorem tmod_zero {a q : Int} (h : a = 4 * q) : a.tmod 4 = 0 := by
  have := four_of a; omega
theorem ok_law {n0 m0 n1 m1 n2 m2 n3 m3 c0 c1 c2 c3 r0 r1 r2 r3 s0 s1 s2 s3 d0 d1 d2 d3 : Int}
    (a0 : 4 * c0 + r0 = n0 + n2 + 2 * n1 ∧ -3 ≤ r0 ∧ r0 ≤ 3) (a1 : 4 * c1 + r1 = n0 - n2 + 2 * m1 ∧ -3 ≤ r1 ∧ r1 ≤ 3) (a2 : 4 * c2 + r2 = n0 + n2 - 2 * n1 ∧ -3 ≤ r2 ∧ r2 ≤ 3) (a3 : 4 * c3 + r3 = n0 - n2 - 2 * m1 ∧ -3 ≤ r3 ∧ r3 ≤ 3)
    (b0 : 4 * d0 + s0 = n0 + n1 + n2 + n3) (b1 : 4 * d1 + s1 = n0 + m1 - n2 - m3) (b2 : 4 * d2 + s2 = n0 - n1 + n2 - n3) (b3 : 4 * d3 + s3 = n0 - m1 - n2 + m3)
    (h0 : s0 = 0) (g0 : m0 + m1 + m2 + m3 = 0) (h1 : s1 = 0) (g1 : m0 - n1 - m2 + n3 = 0) (h2 : s2 = 0) (g2 : m0 - m1 + m2 - m3 = 0) (h3 : s3 = 0) (g3 : m0 + n1 - m2 - n3 = 0) :
    (((c0 + c2 + (c1 + c3) = n0 ∧ 0 = m0) ∧ (c0 - c2 = n1 ∧ c1 - c3 = m1)) ∧ (c0 + c2 - (c1 + c3) = n2 ∧ 0 = m2)) ∧ (c0 - c2 = n3 ∧ -(c1 - c3) = m3) := by
  have e1 : n3 = n1 := by omega
  have e2 : m3 = -m1 := by omega
  have e3 : m0 = 0 := by omega
  have e4 : m2 = 0 := by omega
  subst e1 e2 e3 e4 h0 h1 h2 h3
  have f0 : c0 = d0 := by omega
  have f1 : c1 = d1 := by omega
  have f2 : c2 = d2 := by omega
  have f3 : c3 = d3 := by omega
  refine ⟨⟨⟨⟨?_, rfl⟩, ?_, ?_⟩, ?_, rfl⟩, ?_, ?_⟩ <;> omega
theorem Z4.ok_iff (z : Z4) : z.ok = true ↔ (z.okR 0 ∧ z.okR 1 ∧ z.okR 2 ∧ z.okR 3) := by
  obtain ⟨t0, t1, t2, t3⟩ := z.T4
  simp only [Z4.okR, t0, t1, t2, t3, Z4.ok, Bool.and_eq_true, decide_eq_true_eq]
  constructor
  · rintro ⟨⟨⟨⟨h0, h1⟩, ⟨h2, h3⟩⟩, ⟨h4, h5⟩⟩, ⟨h6, h7⟩⟩
    refine ⟨⟨tmod_zero (q := z.q0) ?_, ?_⟩, ⟨tmod_zero (q := z.q1) ?_, ?_⟩, ⟨tmod_zero (q := z.q2) ?_, ?_⟩, ⟨tmod_zero (q := z.q3) ?_, ?_⟩⟩ <;> omega
  · rintro ⟨⟨h0, h1⟩, ⟨h2, h3⟩, ⟨h4, h5⟩, ⟨h6, h7⟩⟩
    exact ok_law (four_of (z.n0 + z.n2 + 2 * z.n1)) (four_of (z.n0 - z.n2 + 2 * z.m1)) (four_of (z.n0 + z.n2 - 2 * z.n1)) (four_of (z.n0 - z.n2 - 2 * z.m1)) (four_of (z.n0 + z.n1 + z.n2 + z.n3)).1 (four_of (z.n0 + z.m1 - z.n2 - z.m3)).1 (four_of (z.n0 - z.n1 + z.n2 - z.n3)).1 (four_of (z.n0 - z.m1 - z.n2 + z.m3)).1 h0 h1 h2 h3 h4 h5 h6 h7
theorem Z4.ok_q {z : Z4} (h : z.ok = true) : (z.T 0 4).1.tdiv 4 = z.q0 ∧ (z.T 1 4).1.tdiv 4 = z.q1 ∧ (z.T 2 4).1.tdiv 4 = z.q2 ∧ (z.T 3 4).1.tdiv 4 = z.q3 := by
  obtain ⟨t0, t1, t2, t3⟩ := z.T4
  have h2 := h
  simp only [Z4.ok, Bool.and_eq_true, decide_eq_true_eq] at h2
  obtain ⟨⟨⟨⟨h0, h1⟩, ⟨h2, h3⟩⟩, ⟨h4, h5⟩⟩, ⟨h6, h7⟩⟩ := h2
  have e3 : z.n3 = z.n1 := by rw [← h6, h2]
  have e4 : z.m3 = -z.m1 := by rw [← h7, h3]
  simp only [t0, t1, t2, t3, Z4.q0, Z4.q1, Z4.q2, Z4.q3, e3, e4]
  refine ⟨?_, ?_, ?_, ?_⟩ <;> congr 1 <;> omega
end Go.Proofs.Ytkghkkfcgegmeaa
