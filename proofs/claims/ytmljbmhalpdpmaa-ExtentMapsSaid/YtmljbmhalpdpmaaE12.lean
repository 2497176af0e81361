/- Layer 10 (extent): same lists; not more runs than are looked at; the page's examples; ExtentLowest's walk. -/
import Derived.Test.YtmljbmhalpdpmaaE11
import Derived.Deep.SlicePairs
import Derived.ProofKit
import Derived.OpenShut
namespace Go.Proofs.Ytmljbmhalpdpmaa
open Go.ChangeShapes Go.WideShapes Go.ChangeAt Go.RowKit Go.Deep
set_option linter.unusedVariables false
set_option linter.unusedSimpArgs false

section
variable {H : Type} {enc : TypeId × Value → H} {w : World} {base : Nat} {held : Bool} {r : Reach} {b0 : Nat}
set_option maxRecDepth 100000 in
theorem runsW_of_trod {fuel : Nat} {c : Value} {x : DataW H × List MemPlace} (h : DataW.trod enc Try.prog w base (fun _ => true) held fuel 22 [c] = some x) :
    ∃ l, RunsIn w c l 0 w.heap.size ∧ ∀ a ∈ l, WfRun a := by
  rcases open_slice_pairs Try.underlying22 Try.underlying57 (by kernel_rfl) rfl rfl (by kernel_rfl) (by kernel_rfl) h with ⟨e, _⟩ | ⟨a, len, cap, m, n, V0, V1, D0, D1, P0, P1, e, _, hl, hm, hz, _, hx⟩
  · injection e with e
    exact ⟨[], Or.inl ⟨rfl, _, _, e⟩, fun a ha => by cases ha⟩
  · injection e with e
    subst e
    simp only [if_true] at hz
    by_cases h0 : len = 0
    · subst h0; exact ⟨[], Or.inl ⟨rfl, _, _, rfl⟩, fun a ha => by cases ha⟩
    · obtain ⟨b, off, spot⟩ := a
      have hspot : spot = none := by simpa [Addr.add] using World.cell?_spot (hx 0 (by omega)).1
      subst hspot
      have hb : b < w.heap.size := by
        have := (hx 0 (by omega)).1
        rw [Go.WideShapes.add_plain] at this
        exact World.block_lt_of_cell? _ _ this
      refine ⟨(List.range len).map fun i => (intOf (V0 i), intOf (V1 i)), Or.inr ⟨b, off, cap, by simp, fun i hi => ?_, Nat.zero_le _, hb, Nat.le_refl _, fun e => ?_, by simpa using hl, hm⟩, fun a ha => ?_⟩
      · have hi' : i < len := by simpa using hi
        obtain ⟨q0, q1, q2, q3⟩ := hx i (by omega)
        obtain ⟨y0, e0, _⟩ := DataW.trod_int Try.underlying3 q2
        obtain ⟨y1, e1, _⟩ := DataW.trod_int Try.underlying3 q3
        injection e0 with e0
        injection e1 with e1
        rw [Go.WideShapes.add_plain] at q0 q1
        rw [show off + i * 2 + 1 = off + (i * 2 + 1) from rfl, q0, q1]
        simp [e0, e1, intOf]
      · have := congrArg List.length e
        simp at this; omega
      · rw [List.mem_map] at ha
        obtain ⟨i, hi, rfl⟩ := ha
        have hi' : i < len := List.mem_range.1 hi
        obtain ⟨q0, q1, q2, q3⟩ := hx i (by omega)
        obtain ⟨y0, e0, _, u0⟩ := DataW.trod_int Try.underlying3 q2
        obtain ⟨y1, e1, _, u1⟩ := DataW.trod_int Try.underlying3 q3
        injection e0 with e0
        injection e1 with e1
        rw [e0, e1]
        simp only [Lit.wf, Bool.and_eq_true, decide_eq_true_eq] at u0 u1
        exact ⟨u0.1, u0.2, u1.1, u1.2⟩
theorem open_runs {v : Value} {d : DataW H} {p : List MemPlace} (hv : Value.okWide Try.prog w r b0 22 v) (h : DataW.Trod enc Try.prog w base (fun _ => true) held 22 v d p) : ∃ l, RunsIn w v l 0 w.heap.size ∧ ∀ a ∈ l, WfRun a := by
  obtain ⟨a0, len, cap, rfl⟩ := okWide_slice Try.underlying22 hv
  obtain ⟨fuel, hf⟩ := h
  exact runsW_of_trod (by simpa [Value.cells] using hf)
end
theorem RunsIn.take {w : World} {p : Option Addr} {n c : Nat} {l : List (Int × Int)} {lo hi : Nat} (h : RunsIn w (.slice p n c) l lo hi) (k : Nat) (h0 : 0 < k) (hk : k ≤ l.length) : RunsIn w (.slice p k c) (l.take k) lo hi := by
  rcases h with ⟨rfl, _⟩ | ⟨b, off, c', e, h2, h3, h4, h5, h6, h7, h8⟩
  · simp at hk; omega
  · simp at e
    obtain ⟨rfl, rfl, rfl⟩ := e
    have hl : (l.take k).length = k := by rw [List.length_take]; omega
    refine Or.inr ⟨b, off, c, by rw [hl], fun i hi => ?_, h3, h4, h5, fun e => by rw [e] at hl; simp at hl; omega, by rw [hl]; omega, h8⟩
    rw [List.getElem_take]
    exact h2 i (by omega)
theorem RunsIn.lenle {w : World} {p : Option Addr} {n c : Nat} {l : List (Int × Int)} {lo hi : Nat} (h : RunsIn w (.slice p n c) l lo hi) (h0 : l ≠ []) : l.length ≤ c := by
  rcases h with ⟨rfl, _⟩ | ⟨b, off, c', e, h2, h3, h4, h5, h6, h7, h8⟩
  · exact absurd rfl h0
  · simp at e
    obtain ⟨rfl, rfl, rfl⟩ := e
    exact h7
set_option maxRecDepth 100000 in
set_option maxHeartbeats 2000000 in
theorem xfew (v : Value) (l : List (Int × Int)) (lo hi : Nat) (w : World) (h : RunsIn w v l lo hi) :
    Calls Try.prog 9 #[v] w fun e w' => (∃ v', e = .returned v' ∧ RunsIn w v' (l.take 30) lo hi) ∧ w = w' := by
  obtain ⟨p, c, rfl⟩ := h.shape
  by_cases hl : l.length ≤ 30
  · rw [List.take_of_length_le hl]
    have hl' : (l.length : Int) ≤ 30 := by omega
    have H := Lib.hid h
    clear h
    generalize l.length = ll at *
    go_enter Try.func9, Try.ntmps9
    go_wp2_with fail
    go_ret
    exact ⟨⟨_, rfl, H.out⟩, rfl⟩
  · have hl' : 30 < (l.length : Int) := by omega
    have hc := h.lenle (fun e => by rw [e] at hl; simp at hl)
    have ht := h.take 30 (by omega) (by omega)
    have hm := hc
    have hcm : 30 ≤ c := by omega
    have hcm' : (30 : Int) ≤ (c : Int) := by omega
    have H := Lib.hid ht
    clear h ht hm
    generalize l.length = ll at *
    go_enter Try.func9, Try.ntmps9
    go_wp2_with fail
    go_ret
    exact ⟨⟨_, rfl, H.out⟩, rfl⟩
set_option maxRecDepth 100000 in
set_option maxHeartbeats 2000000 in
theorem zsame (va vb : Value) (l : List (Int × Int)) (loa hia lob hib : Nat) (w : World) (ha : RunsIn w va l loa hia) (hb : RunsIn w vb l lob hib) (hl : l.length ≤ 1000000) :
    Calls Try.prog 12 #[va, vb] w fun e w' => e = .returned (.bool true) ∧ Kept [] w w' := by
  obtain ⟨pa, ca, rfl⟩ := ha.shape
  obtain ⟨pb, cb, rfl⟩ := hb.shape
  have HA := Lib.hid ha
  have HB := Lib.hid hb
  have hl' : (l.length : Int) ≤ 1000000 := by omega
  clear ha hb hl
  go_enter Try.func12, Try.ntmps12
  go_wp2_with fail
  go_loopw [5] (fun i wr => ∃ k : Nat, k ≤ l.length ∧ i = .int .i64 k ∧ Kept [] w wr) (fun i _ => l.length - (intOf i).toNat)
  case atStart => exact ⟨0, by omega, rfl, Kept.refl _ _⟩
  case round =>
    obtain ⟨k, hk, rfl, hK⟩ := hrel
    by_cases hlt : k < l.length
    · obtain ⟨b, off, rfl, c0, c1, hb, hlc, hcm⟩ := (HA.out.kept0 hK).at_ k hlt
      obtain ⟨b', off', rfl, c0', c1', hb', hlc', hcm'⟩ := (HB.out.kept0 hK).at_ k hlt
      have i1 : (k : Int) < l.length := by omega
      have HLT := Lib.hid hlt
      generalize l[k].1 = X0 at *
      generalize l[k].2 = Xn at *
      go_wp2_with fail
      go_quiet (fail)
      go_wp2_with fail
      go_roundw
      case rel => exact ⟨k + 1, HLT.out, by go_num, hK.drewN _⟩
      case measure => (have hh := HLT.out; simp [intOf]; omega)
    · obtain rfl : k = l.length := by omega
      go_wp2_with fail
      go_ret
      exact ⟨rfl, hK⟩
end Go.Proofs.Ytmljbmhalpdpmaa
