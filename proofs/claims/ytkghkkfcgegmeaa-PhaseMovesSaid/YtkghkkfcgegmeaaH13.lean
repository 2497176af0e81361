/- Walks of layer 34 (phase): the page's example; which rows may be; a row of few numbers; numbers as complex ones. -/
import Derived.Test.YtkghkkfcgegmeaaH12
namespace Go.Proofs.Ytkghkkfcgegmeaa
open Go.RowKit Fl
set_option linter.unusedVariables false
set_option linter.unusedSimpArgs false
attribute [local go_sem] eqC4 eqI4

/-- a slice just made of integers. -/
theorem IntsAt.new {k : IntKind} (w : World) (l : List Int) (t : TypeId) (hwf : ∀ n ∈ l, (Lit.int k n).wf = true) (hl : l.length ≤ maxLen) (h0 : l ≠ []) :
    IntsAt k (w.alloc (.cells (l.map (Value.int k)).toArray t)) (.slice (some ⟨w.heap.size, 0, none⟩) l.length l.length) l := by
  refine ⟨hwf, Or.inr ⟨w.heap.size, 0, l.length, rfl, Nat.le_refl _, hl, fun i hi => ?_, by simp, h0⟩⟩
  rw [Nat.zero_add]
  have o : Own (w.alloc (.cells (l.map (Value.int k)).toArray t)) w.heap.size (l.map (Value.int k)).toArray t := Own.new _ _ _
  have := o.cell i (by simpa using hi)
  rw [this]; simp
theorem IntsAt.drew {k : IntKind} {w : World} {v : Value} {l : List Int} (h : IntsAt k w v l) : IntsAt k w.drew v l := h.kept (Kept.drew (Kept.refl _ _))

/-- the page's phases. -/
def exP : P4 := ⟨4621819117588971520, 0, 13835058055282163712, 13835058055282163712, 13835058055282163712, 0, 13835058055282163712, 4611686018427387904⟩
theorem exP_ph : (qsum [1, 2, 3, 4] 4).ph = exP.v := by
  have h10 : F 10 = 4621819117588971520 := by decide +kernel
  show Value.agg (phB 1 2 3 4) = _
  simp only [phB, P4.v, exP]
  rw [show (1 : Int) + 3 + (2 + 4) = 10 from rfl, show (1 : Int) - 3 = -2 from rfl, show (2 : Int) - 4 = -2 from rfl, show (1 : Int) + 3 - (2 + 4) = -2 from rfl, show -(-2 : Int) = 2 from rfl, h10, Fm2, F2]
theorem exP_lt : exP.lt := by unfold exP P4.lt; decide
theorem exP_ok : exP.ok = true := by decide +kernel
theorem exP_q : exP.z.q0 = 1 ∧ exP.z.q1 = 2 ∧ exP.z.q2 = 3 ∧ exP.z.q3 = 4 := by decide +kernel
theorem pof_ex (v : Value) (w : World) (h : IntsAt .i64 w v [1, 2, 3, 4]) :
    Calls Try.prog 32 #[v] w fun e w' => e = .returned (.tuple #[exP.v, .int .i64 0]) ∧ Kept [] w w' := by
  refine (pof [1, 2, 3, 4] v w h).mono fun e w' ⟨he, hk⟩ => ⟨?_, hk⟩
  rw [he, show mayL [1, 2, 3, 4] = true from by decide, ← exP_ph]; rfl
theorem pback_ex (w : World) : Calls Try.prog 26 #[exP.v] w fun e w' => e = .returned (.tuple #[.agg #[.int .i64 1, .int .i64 2, .int .i64 3, .int .i64 4], .int .i64 0]) ∧ Kept [] w w' := by
  refine (pback exP w exP_lt).mono fun e w' ⟨he, hk⟩ => ⟨?_, hk⟩
  obtain ⟨h0, h1, h2, h3⟩ := exP_q
  rw [he, exP_ok]
  simp [Z4.qv, h0, h1, h2, h3]
theorem feq_self (x : Nat) (h : (FloatKind.f64.format.order x x == some .eq) = true) : Op.floatEq .f64 x x = true := h

set_option maxRecDepth 100000 in
set_option maxHeartbeats 4000000 in
theorem lawake34 (w : World) :
    Calls Try.prog 29 #[] w fun e w' => e = .returned (.bool true) ∧ Kept [] w w' := by
  have hof := fun v w h => pof_ex v w h
  have hback := fun w => pback_ex w
  have H1 := Lib.hid hof
  have H2 := Lib.hid hback
  have f1 : Op.floatEq .f64 4621819117588971520 4621819117588971520 = true := by decide +kernel
  have f2 : Op.floatEq .f64 13835058055282163712 13835058055282163712 = true := by decide +kernel
  have f3 : Op.floatEq .f64 4611686018427387904 4611686018427387904 = true := by decide +kernel
  have f4 : Op.floatEq .f64 0 0 = true := by decide +kernel
  clear hof hback
  have hin := IntsAt.new (k := .i64) w [1, 2, 3, 4] 3 (by decide) (by decide) (by simp)
  have H3 := Lib.hid hin
  clear hin
  go_enter Try.func29, Try.ntmps29
  go_wp2_with fail
  refine (H1.out _ _ H3.out).mono ?_; rintro e w1 ⟨rfl, k1⟩
  have kk := ((Kept.refl [] w).alloc _).trans k1
  clear k1 H1 H3
  unfold exP P4.v
  go_wp2_with fail
  refine (H2.out _).mono ?_; rintro e w2 ⟨rfl, k2⟩
  have kk2 := (kk.alloc _).trans k2
  have o2 := k2.own (Own.new w1 _ _) (by simp)
  have l2 := o2.lt
  clear k2 kk H2
  obtain ⟨x0, x1, x2, x3⟩ := o2.c4
  go_wp2_with fail
  go_ret
  exact ⟨rfl, kk2.alloc _⟩
end Go.Proofs.Ytkghkkfcgegmeaa
