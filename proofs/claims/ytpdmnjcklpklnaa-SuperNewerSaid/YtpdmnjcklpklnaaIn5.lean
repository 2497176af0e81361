/- What a walk is told of a superblock that came in. -/
import Derived.Test.YtpdmnjcklpklnaaR3
import Derived.Deep.SlicePairs
import Derived.ProofKit
import Derived.OpenShut
namespace Go.Proofs.Ytpdmnjcklpklnaa
open Go.ChangeShapes Go.WideShapes Go.ChangeAt Go.RowKit Go.Deep
set_option linter.unusedVariables false
set_option linter.unusedSimpArgs false

section
variable {H : Type} {enc : TypeId × Value → H} {w : World} {base : Nat} {held : Bool} {r : Reach} {b0 : Nat}
set_option maxRecDepth 100000 in
theorem runs_of_trod {fuel : Nat} {c : Value} {x : DataW H × List MemPlace} (h : DataW.trod enc Try.prog w base (fun _ => true) held fuel 23 [c] = some x) :
    ∃ l, RunsIn w c l 0 w.heap.size := by
  rcases open_slice_pairs Try.underlying23 Try.underlying48 (by kernel_rfl) rfl rfl (by kernel_rfl) (by kernel_rfl) h with ⟨e, _⟩ | ⟨a, len, cap, m, n, V0, V1, D0, D1, P0, P1, e, _, hl, hm, hz, _, hx⟩
  · injection e with e
    exact ⟨[], Or.inl ⟨rfl, _, _, e⟩⟩
  · injection e with e
    subst e
    simp only [if_true] at hz
    by_cases h0 : len = 0
    · subst h0; exact ⟨[], Or.inl ⟨rfl, _, _, rfl⟩⟩
    · obtain ⟨b, off, spot⟩ := a
      have hspot : spot = none := by simpa [Addr.add] using World.cell?_spot (hx 0 (by omega)).1
      subst hspot
      have hb : b < w.heap.size := by
        have := (hx 0 (by omega)).1
        rw [Go.WideShapes.add_plain] at this
        exact World.block_lt_of_cell? _ _ this
      refine ⟨(List.range len).map fun i => (intOf (V0 i), intOf (V1 i)), Or.inr ⟨b, off, cap, by simp, fun i hi => ?_, Nat.zero_le _, hb, Nat.le_refl _, fun e => ?_, by simpa using hl, hm⟩⟩
      · have hi' : i < len := by simpa using hi
        obtain ⟨q0, q1, q2, q3⟩ := hx i (by omega)
        obtain ⟨y0, e0, _⟩ := DataW.trod_int Try.underlying3 q2
        obtain ⟨y1, e1, _⟩ := DataW.trod_int Try.underlying3 q3
        injection e0 with e0
        injection e1 with e1
        rw [Go.WideShapes.add_plain] at q0 q1
        rw [show off + i * 2 + 1 = off + (i * 2 + 1) from rfl, q0, q1]
        simp [e0, e1, intOf]
      · have := congrArg List.length e
        simp at this; omega
set_option maxRecDepth 100000 in
theorem open_super {v : Value} {d : DataW H} {p : List MemPlace} (hv : Value.okWide Try.prog w r b0 25 v) (h : DataW.Trod enc Try.prog w base (fun _ => true) held 25 v d p) :
    ∃ (s : SB) (u : Value), v = .agg (s.cells u) ∧ RunsIn w u s.runs 0 w.heap.size ∧ s.fits := by
  obtain ⟨cs, rfl, hsz⟩ := okWide_struct Try.underlying25 hv
  have hc : Try.prog.cellsOf 25 = 6 := by kernel_rfl
  have hc1 : Try.prog.cellsOf 3 = 1 := by kernel_rfl
  have hc2 : Try.prog.cellsOf 22 = 1 := by kernel_rfl
  have hc3 : Try.prog.cellsOf 23 = 1 := by kernel_rfl
  rw [hc] at hsz
  obtain ⟨l⟩ := cs
  match l, hsz with
  | [c0, c1, c2, c3, c4, c5], _ =>
    obtain ⟨fuel, hf⟩ := h
    obtain ⟨xs, n, _, _, _, hlen, hi⟩ := DataW.trod_struct Try.underlying25 hf
    match xs, hlen with
    | [y0, y1, y2, y3, y4, y5], _ =>
      have g0 := hi 0 _ rfl
      have g1 := hi 1 _ rfl
      have g2 := hi 2 _ rfl
      have g3 := hi 3 _ rfl
      have g4 := hi 4 _ rfl
      have g5 := hi 5 _ rfl
      simp only [hc1, hc2, hc3, Value.cells, List.getElem?_cons_succ, List.getElem?_cons_zero, List.drop_succ_cons, List.drop_zero, List.take_succ_cons, List.take_zero] at g0 g1 g2 g3 g4 g5
      obtain ⟨a0, e0, _, w0⟩ := DataW.trod_int Try.underlying22 g0
      obtain ⟨a1, e1, _, w1⟩ := DataW.trod_int Try.underlying3 g1
      obtain ⟨a2, e2, _, w2⟩ := DataW.trod_int Try.underlying3 g2
      obtain ⟨a3, e3, _, w3⟩ := DataW.trod_int Try.underlying3 g3
      obtain ⟨a4, e4, _, w4⟩ := DataW.trod_int Try.underlying3 g4
      obtain ⟨rs, hr⟩ := runs_of_trod g5
      injection e0 with e0; injection e1 with e1; injection e2 with e2; injection e3 with e3; injection e4 with e4
      subst e0 e1 e2 e3 e4
      have hw0 : 0 ≤ a0 ∧ a0 ≤ 18446744073709551615 := by
        simp only [Lit.wf, Bool.and_eq_true, decide_eq_true_eq] at w0
        exact ⟨by have := w0.1; exact this, by have := w0.2; exact this⟩
      obtain ⟨q, rfl⟩ := Int.eq_ofNat_of_zero_le hw0.1
      exact ⟨⟨q, a1, a2, a3, a4, rs⟩, c5, rfl, hr, by show q < 18446744073709551616; omega, w1, w2, w3, w4⟩
end
end Go.Proofs.Ytpdmnjcklpklnaa
