/- What a walk is told of four complex numbers that came in by their parts. -/
import Derived.Test.YtkghkkfcgegmeaaH10
import Derived.ProofKit
import Derived.OpenShut
import Derived.Lib.SmallJoins
namespace Go.Proofs.Ytkghkkfcgegmeaa
open Go.ChangeShapes Go.WideShapes Go.ChangeAt Go.RowKit Go.Joins

section
variable {H : Type} {enc : TypeId × Value → H} {w : World} {base : Nat} {spare : Nat → Bool} {held : Bool} {r : Reach} {b0 : Nat}
set_option maxRecDepth 100000 in
theorem row_floats {fuel : Nat} {c0 c1 c2 c3 : Value} {x : DataW H × List MemPlace} (h : DataW.trod enc Try.prog w base spare held fuel 45 [c0, c1, c2, c3] = some x) :
    ∃ a b c d, c0 = .float .f64 a ∧ c1 = .float .f64 b ∧ c2 = .float .f64 c ∧ c3 = .float .f64 d ∧ a < 2 ^ 64 ∧ b < 2 ^ 64 ∧ c < 2 ^ 64 ∧ d < 2 ^ 64 := by
  obtain ⟨xs, m, _, _, _, hlen, hi⟩ := DataW.trod_array Try.underlying45 h
  have hc : Try.prog.cellsOf 36 = 1 := by kernel_rfl
  match xs, hlen with
  | [y0, y1, y2, y3], _ =>
    have g0 := hi 0 (by decide)
    have g1 := hi 1 (by decide)
    have g2 := hi 2 (by decide)
    have g3 := hi 3 (by decide)
    rw [hc] at g0 g1 g2 g3
    obtain ⟨a, rfl, ha⟩ := float_of_trod (y := y0) Try.underlying36 (by simpa using g0)
    obtain ⟨b, rfl, hb⟩ := float_of_trod (y := y1) Try.underlying36 (by simpa using g1)
    obtain ⟨c, rfl, hc⟩ := float_of_trod (y := y2) Try.underlying36 (by simpa using g2)
    obtain ⟨d, rfl, hd⟩ := float_of_trod (y := y3) Try.underlying36 (by simpa using g3)
    exact ⟨a, b, c, d, rfl, rfl, rfl, rfl, by simpa [Lit.wf] using ha, by simpa [Lit.wf] using hb, by simpa [Lit.wf] using hc, by simpa [Lit.wf] using hd⟩
set_option maxRecDepth 100000 in
theorem open_four {v : Value} {d : DataW H} {p : List MemPlace} (hv : Value.okWide Try.prog w r b0 47 v) (h : DataW.Trod enc Try.prog w base spare held 47 v d p) :
    ∃ q : P4, v = q.parts ∧ q.lt := by
  obtain ⟨cs, rfl, hsz⟩ := okWide_struct Try.underlying47 hv
  have hc : Try.prog.cellsOf 47 = 8 := by kernel_rfl
  have hc4 : Try.prog.cellsOf 45 = 4 := by kernel_rfl
  rw [hc] at hsz
  obtain ⟨l⟩ := cs
  match l, hsz with
  | [c0, c1, c2, c3, c4, c5, c6, c7], _ =>
    obtain ⟨fuel, hf⟩ := h
    obtain ⟨y0, y1, n, hx, _, h0, h1⟩ := trod_struct2 Try.underlying47 hf
    simp only [hc4] at h0 h1
    obtain ⟨a0, a1, a2, a3, rfl, rfl, rfl, rfl, l0, l1, l2, l3⟩ := row_floats (c0 := c0) (c1 := c1) (c2 := c2) (c3 := c3) (x := y0) (by simpa [Value.cells] using h0)
    obtain ⟨b0, b1, b2, b3, rfl, rfl, rfl, rfl, k0, k1, k2, k3⟩ := row_floats (c0 := c4) (c1 := c5) (c2 := c6) (c3 := c7) (x := y1) (by simpa [Value.cells] using h1)
    exact ⟨⟨a0, b0, a1, b1, a2, b2, a3, b3⟩, rfl, l0, k0, l1, k1, l2, k2, l3, k3⟩
end
end Go.Proofs.Ytkghkkfcgegmeaa
