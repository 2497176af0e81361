/- Walks of layer 34 (phase): noughts without signs; whether a row is even; a row of which few numbers are looked at; whole numbers as complex ones. -/
import Derived.Test.YtkghkkfcgegmeaaH15
namespace Go.Proofs.Ytkghkkfcgegmeaa
open Go.RowKit Fl
set_option linter.unusedVariables false
set_option linter.unusedSimpArgs false
attribute [local go_sem] eqC4 eqI4

theorem float64bits_run34 (x : Nat) (w : World) : (callFunc 72 #[.float .f64 x]).run Try.prog w = .ok (.value (.int .u64 x)) w := by
  rw [run_callFunc_extern (e := Extern.MathFloatBits.float64bits) Try.func72 (by kernel_rfl) (by kernel_rfl) (by kernel_rfl) (by kernel_rfl)]
  rfl
set_option maxRecDepth 100000 in
theorem signbit34 (x : Nat) (w : World) :
    Calls Try.prog 60 #[.float .f64 x] w fun e w' => e = .returned (.bool (decide (wrap64 x < 0))) ∧ w = w' := by
  have hf := float64bits_run34 x
  go_enter Try.func60, Try.ntmps60
  go_wp2
  go_ret
  exact ⟨rfl, rfl⟩
theorem signbit0 (w : World) : Calls Try.prog 60 #[.float .f64 0] w fun e w' => e = .returned (.bool false) ∧ w = w' := by
  have h := signbit34 0 w; rwa [show decide (wrap64 ((0 : Nat) : Int) < 0) = false from by simp [wrap64]] at h
theorem eqF034 (a : Int) (ha : a.natAbs ≤ 2 ^ 53) : (FloatKind.f64.format.order (F a) 0 == some .eq) = decide (a = 0) := by
  have := eqF a 0 ha (by decide)
  rwa [F0] at this
/-- a part that is no nought with a sign. -/
def Pl (x : Nat) : Prop := (FloatKind.f64.format.order x 0 == some .eq) = false ∨ x = 0
theorem Pl_F {a : Int} (ha : a.natAbs ≤ 2 ^ 53) : Pl (F a) := by
  by_cases h : a = 0
  · subst h; exact Or.inr F0
  · left; rw [eqF034 a ha]; simp [h]
theorem Pl_0 : Pl 0 := Or.inr rfl
theorem ord00 : (FloatKind.f64.format.order 0 0 == some .eq) = true := by decide +kernel

set_option maxRecDepth 100000 in
set_option maxHeartbeats 4000000 in
theorem lplain34 (a0 b0 a1 b1 a2 b2 a3 b3 : Nat) (w : World) (l0 : Pl a0) (m0 : Pl b0) (l1 : Pl a1) (m1 : Pl b1) (l2 : Pl a2) (m2 : Pl b2) (l3 : Pl a3) (m3 : Pl b3) :
    Calls Try.prog 41 #[.agg #[.complex .f64 a0 b0, .complex .f64 a1 b1, .complex .f64 a2 b2, .complex .f64 a3 b3]] w fun e w' => e = .returned (.bool true) ∧ w.alloc (.cells #[.complex .f64 a0 b0, .complex .f64 a1 b1, .complex .f64 a2 b2, .complex .f64 a3 b3] 48) = w' := by
  have hs := signbit0
  have h00 := ord00
  go_enter Try.func41, Try.ntmps41
  go_wp2_with fail
  go_loop [3] (fun i => ∃ k : Nat, k ≤ 4 ∧ i = .int .i64 k) (fun i => 4 - (intOf i).toNat)
  case atStart => exact ⟨0, by omega, rfl⟩
  case round =>
    obtain ⟨k, hk, rfl⟩ := hrel
    have hk5 : k = 0 ∨ k = 1 ∨ k = 2 ∨ k = 3 ∨ k = 4 := by omega
    rcases hk5 with rfl | rfl | rfl | rfl | rfl
    · rcases l0 with l | rfl <;> rcases m0 with m | rfl
      all_goals
        go_wp2_with (go_at_call 60; refine (hs _).mono ?_; rintro e w' ⟨rfl, rfl⟩)
        go_round
        case rel => exact ⟨1, by omega, rfl⟩
        case measure => simp [intOf]
    · rcases l1 with l | rfl <;> rcases m1 with m | rfl
      all_goals
        go_wp2_with (go_at_call 60; refine (hs _).mono ?_; rintro e w' ⟨rfl, rfl⟩)
        go_round
        case rel => exact ⟨2, by omega, rfl⟩
        case measure => simp [intOf]
    · rcases l2 with l | rfl <;> rcases m2 with m | rfl
      all_goals
        go_wp2_with (go_at_call 60; refine (hs _).mono ?_; rintro e w' ⟨rfl, rfl⟩)
        go_round
        case rel => exact ⟨3, by omega, rfl⟩
        case measure => simp [intOf]
    · rcases l3 with l | rfl <;> rcases m3 with m | rfl
      all_goals
        go_wp2_with (go_at_call 60; refine (hs _).mono ?_; rintro e w' ⟨rfl, rfl⟩)
        go_round
        case rel => exact ⟨4, by omega, rfl⟩
        case measure => simp [intOf]
    · go_wp2_with fail
      go_ret
      exact ⟨rfl, rfl⟩

/-- what Even says of a row. -/
def EvenSays (l : List Int) (w : World) (e : Ending) (w' : World) : Prop :=
  e = .returned (.tuple #[.bool (mayL l && (((qsum l l.length).q1 == (qsum l l.length).q0) && ((qsum l l.length).q2 == (qsum l l.length).q0) && ((qsum l l.length).q3 == (qsum l l.length).q0))), .int .i64 (if mayL l then 0 else 1)]) ∧ Kept [] w w'
theorem evenSays_no {l : List Int} {w w' : World} (h : mayL l = false) (k : Kept [] w w') : EvenSays l w (.returned (.tuple #[.bool false, .int .i64 1])) w' := ⟨by rw [h]; rfl, k⟩
theorem evenSays_yes {l : List Int} {w w' : World} {b : Bool} (h : mayL l = true) (hb : b = (((qsum l l.length).q1 == (qsum l l.length).q0) && ((qsum l l.length).q2 == (qsum l l.length).q0) && ((qsum l l.length).q3 == (qsum l l.length).q0))) (k : Kept [] w w') : EvenSays l w (.returned (.tuple #[.bool b, .int .i64 0])) w' := ⟨by rw [h, hb]; rfl, k⟩

set_option maxRecDepth 100000 in
set_option maxHeartbeats 4000000 in
theorem peven (l : List Int) (v : Value) (w : World) (h : IntsAt .i64 w v l) :
    Calls Try.prog 38 #[v] w (EvenSays l w) := by
  have hq := pquarters l v w h
  have H := Lib.hid hq
  clear hq h
  go_enter Try.func38, Try.ntmps38
  go_wp2_with fail
  refine H.out.mono ?_; rintro e w1 ⟨rfl, kk⟩
  clear H
  cases hm : mayL l
  · have H := Lib.hid hm
    clear hm
    simp only [Bool.false_eq_true, if_false, Q4.zero, Q4.v]
    go_wp2_with fail
    go_ret2
    exact evenSays_no H.out (kk.alloc _)
  · have H := Lib.hid hm
    have E := fun b h w' k => evenSays_yes (l := l) (w := w) (w' := w') (b := b) hm h k
    have HE := Lib.hid E
    clear hm E
    simp only [if_true, Q4.v]
    generalize (qsum l l.length).q0 = q0 at *
    generalize (qsum l l.length).q1 = q1 at *
    generalize (qsum l l.length).q2 = q2 at *
    generalize (qsum l l.length).q3 = q3 at *
    go_wp2_with fail
    go_ret2
    exact HE.out _ (by simp) _ (kk.alloc _)

/-- the numbers of a row that are looked at. -/
def fewL (l : List Int) : List Int := l.take 4100
theorem IntsAt.take {k : IntKind} {w : World} {b off c n : Nat} {l : List Int} (h : IntsAt k w (.slice (some ⟨b, off, none⟩) l.length c) l) (hn : n ≤ l.length) (h0 : 0 < n) :
    IntsAt k w (.slice (some ⟨b, off, none⟩) n c) (l.take n) := by
  obtain ⟨hw, ⟨rfl, _⟩ | ⟨b2, off2, c2, he, h1, h2, h3, h4, h5⟩⟩ := h
  · simp at hn; omega
  · injection he with e1 e2 e3
    injection e1 with e1
    injection e1 with e1 e4
    subst e1 e4 e3
    refine ⟨fun x hx => hw x (List.mem_of_mem_take hx), Or.inr ⟨b, off, c, ?_, ?_, h2, ?_, h4, ?_⟩⟩
    · congr 1; simp; omega
    · simp; omega
    · intro i hi
      rw [List.getElem_take]
      exact h3 i (by simp at hi; omega)
    · intro e; have h6 := congrArg List.length e; rw [List.length_take] at h6; simp only [List.length_nil] at h6; omega
set_option maxRecDepth 100000 in
theorem lfew34 (l : List Int) (v : Value) (w : World) (h : IntsAt .i64 w v l) :
    Calls Try.prog 36 #[v] w fun e w' => ∃ u, e = .returned u ∧ IntsAt .i64 w u (fewL l) ∧ w = w' := by
  by_cases hbig : 4100 < l.length
  · obtain ⟨hw, ⟨rfl, _⟩ | ⟨b, off, c, rfl, h1, h2, h3, h4, h5⟩⟩ := h
    · simp at hbig
    · have h' : IntsAt .i64 w (.slice (some ⟨b, off, none⟩) l.length c) l := ⟨hw, Or.inr ⟨b, off, c, rfl, h1, h2, h3, h4, h5⟩⟩
      have hR := IntsAt.take (n := 4100) h' (by omega) (by omega)
      have HR := Lib.hid hR
      clear hR h' h3 hw h5
      unfold maxLen at h2
      have hc1 : (4100 : Int) ≤ (c : Int) := by omega
      go_enter Try.func36, Try.ntmps36
      go_wp2_with fail
      go_ret
      exact ⟨_, rfl, HR.out, rfl⟩
  · obtain ⟨a, c, b, off, rfl, hlen, hab, hcell⟩ := h.any
    have hR : IntsAt .i64 w (.slice a l.length c) (fewL l) := by
      unfold fewL; rw [List.take_of_length_le (by omega)]; exact h
    have HR := Lib.hid hR
    clear hR h hab hcell
    unfold maxLen at hlen
    go_enter Try.func36, Try.ntmps36
    go_wp2_with fail
    go_ret
    exact ⟨_, rfl, HR.out, rfl⟩

set_option maxRecDepth 100000 in
set_option maxHeartbeats 4000000 in
theorem lnums (z : Z4) (w : World) :
    Calls Try.prog 39 #[.agg z.cells] w fun e w' => e = .returned (.agg #[.complex .f64 (F z.n0) (F z.m0), .complex .f64 (F z.n1) (F z.m1), .complex .f64 (F z.n2) (F z.m2), .complex .f64 (F z.n3) (F z.m3)]) ∧ Kept [] w w' := by
  unfold Z4.cells
  have hc : ∀ (n : Int) w, (convert 3 36 (.int .i64 n)).run Try.prog w = .ok (.float .f64 (F n)) w := fun n w => run_convert_int_float w _ _ .i64 .f64 n (by rw [Try.underlying3]; rfl) Try.underlying36
  go_enter Try.func39, Try.ntmps39
  go_wp2_with fail
  refine wp_loop_rounds 5 ?_
  rw [rounds_succ]
  go_wp2_with fail
  go_region
  go_wp2_with fail
  rw [rounds_succ]
  go_wp2_with fail
  go_region
  go_wp2_with fail
  rw [rounds_succ]
  go_wp2_with fail
  go_region
  go_wp2_with fail
  rw [rounds_succ]
  go_wp2_with fail
  go_region
  go_wp2_with fail
  rw [rounds_succ]
  go_wp2_with fail
  refine bodyPost_ret (v := .agg #[.complex .f64 (F z.n0) (F z.m0), .complex .f64 (F z.n1) (F z.m1), .complex .f64 (F z.n2) (F z.m2), .complex .f64 (F z.n3) (F z.m3)]) (by simp [results, Try.results39, go_sem]) rfl ⟨rfl, ?_⟩
  exact ((((Kept.refl _ _).alloc _).alloc _).alloc _).drew.drew.drew.drew
end Go.Proofs.Ytkghkkfcgegmeaa
