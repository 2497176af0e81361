/- Walks: whole numbers out of floats, the reference's turns and sums. -/
import Derived.Test.YtkghkkfcgegmeaaW5
import Derived.Test.YtkghkkfcgegmeaaFlt2
namespace Go.Proofs.Ytkghkkfcgegmeaa
open Go.RowKit Fl
set_option linter.unusedVariables false
set_option linter.unusedSimpArgs false

theorem conv_any (x : Nat) (h1 : leB (FloatKind.f64.format.order x 4845873199050653696) = true) (h2 : geB (FloatKind.f64.format.order x 14069245235905429504) = true) (w : World) : (convert 36 3 (.float .f64 x)).run Try.prog w = .ok (.int .i64 (tr x)) w :=
  run_convert_float_int w _ _ .f64 .i64 x (tr x) (by rw [Try.underlying36]; rfl) Try.underlying3 (conv_of (M := 9007199254740992) (by decide) (by have h := h2; rw [F53n] at h; exact h) (by have h := h1; rw [F53] at h; exact h))
theorem wh53_parts (x : Nat) : wh53 x = (geB (FloatKind.f64.format.order x 14069245235905429504) && leB (FloatKind.f64.format.order x 4845873199050653696) && (FloatKind.f64.format.order (floatOfInt .f64 (tr x)) x == some .eq)) := by
  rw [wh53_eq]; rfl

set_option maxRecDepth 100000 in
theorem rwhole_yes (x : Nat) (w : World) (h : wh53 x = true) :
    Calls Try.prog 62 #[.float .f64 x] w fun e w' => e = .returned (.tuple #[.int .i64 (tr x), .bool true]) ∧ w = w' := by
  rw [wh53_parts] at h
  simp only [Bool.and_eq_true] at h
  obtain ⟨⟨h1, h2⟩, h3⟩ := h
  have hc := conv_any x h2 h1
  rw [beq_iff_eq] at h3
  rcases o1 : FloatKind.f64.format.order x 14069245235905429504 with _ | (_ | _ | _) <;> rw [o1] at h1 <;> simp [geB] at h1 <;> rcases o2 : FloatKind.f64.format.order x 4845873199050653696 with _ | (_ | _ | _) <;> rw [o2] at h2 <;> simp [leB] at h2 <;>
  · go_enter Try.func62, Try.ntmps62
    go_wp2
    go_ret2
    exact ⟨rfl, rfl⟩

set_option maxRecDepth 100000 in
theorem rwhole_no (x : Nat) (w : World) (h : wh53 x = false) :
    Calls Try.prog 62 #[.float .f64 x] w fun e w' => e = .returned (.tuple #[.int .i64 0, .bool false]) ∧ w = w' := by
  rw [wh53_parts] at h
  by_cases hb : leB (FloatKind.f64.format.order x 4845873199050653696) = true ∧ geB (FloatKind.f64.format.order x 14069245235905429504) = true
  · have hc := conv_any x hb.1 hb.2
    obtain ⟨h2, h1⟩ := hb
    have h3 : (FloatKind.f64.format.order (floatOfInt .f64 (tr x)) x == some .eq) = false := by simpa [h1, h2] using h
    have h4 : (FloatKind.f64.format.order (floatOfInt .f64 (tr x)) x != some .eq) = true := by simpa [bne] using h3
    clear h h3
    rcases o1 : FloatKind.f64.format.order x 14069245235905429504 with _ | (_ | _ | _) <;> rw [o1] at h1 <;> simp [geB] at h1 <;> rcases o2 : FloatKind.f64.format.order x 4845873199050653696 with _ | (_ | _ | _) <;> rw [o2] at h2 <;> simp [leB] at h2 <;>
    · go_enter Try.func62, Try.ntmps62
      go_wp2
      go_ret2
      exact ⟨rfl, rfl⟩
  · clear h
    rcases o1 : FloatKind.f64.format.order x 14069245235905429504 with _ | (_ | _ | _) <;> rcases o2 : FloatKind.f64.format.order x 4845873199050653696 with _ | (_ | _ | _) <;> rw [o1, o2] at hb <;> simp [leB, geB] at hb <;>
    · go_enter Try.func62, Try.ntmps62
      go_wp2
      go_ret2
      exact ⟨rfl, rfl⟩

/-- the parts of a number that may be a weight. -/
def okParts (a b : Nat) : Int × Int := if mayB a b then (tr a, tr b) else (0, 0)
theorem okParts_CW {a b : Nat} {z : Int × Int} (h : CW a b z) (hz : Bd (2 ^ 53) z) : okParts a b = z := by
  unfold okParts; rw [may_true h hz, if_pos rfl, tr_FW h.1 hz.1, tr_FW h.2 hz.2]

set_option maxRecDepth 100000 in
theorem parts_yes (a b : Nat) (w : World) (h1 : wh53 a = true) (h2 : wh53 b = true) :
    Calls Try.prog 21 #[.complex .f64 a b] w fun e w' => e = .returned (.tuple #[.agg #[.int .i64 (tr a), .int .i64 (tr b)], .bool true]) ∧ Below w.heap.size w w' := by
  have c1 := fun w => rwhole_yes a w h1
  have c2 := fun w => rwhole_yes b w h2
  clear h1 h2
  go_enter Try.func21, Try.ntmps21
  go_wp2_with fail
  refine (c1 _).mono ?_; rintro e w' ⟨rfl, rfl⟩
  go_wp2_with fail
  refine (c2 _).mono ?_; rintro e w' ⟨rfl, rfl⟩
  go_wp2_with fail
  exact bodyPost_ret (v := .tuple #[.agg #[.int .i64 (tr a), .int .i64 (tr b)], .bool true]) (by simp [results, Try.results21, go_sem]) rfl ⟨rfl, (Below.refl _ _).alloc (Nat.le_refl _) _⟩

set_option maxRecDepth 100000 in
theorem parts_no (a b : Nat) (w : World) (h : mayB a b = false) :
    Calls Try.prog 21 #[.complex .f64 a b] w fun e w' => e = .returned (.tuple #[.agg #[.int .i64 0, .int .i64 0], .bool false]) ∧ Below w.heap.size w w' := by
  cases h1 : wh53 a
  · have c1 := fun w => rwhole_no a w h1
    cases h2 : wh53 b
    · have c2 := fun w => rwhole_no b w h2
      clear h1 h2 h
      go_enter Try.func21, Try.ntmps21
      go_wp2_with fail
      refine (c1 _).mono ?_; rintro e w' ⟨rfl, rfl⟩
      go_wp2_with fail
      refine (c2 _).mono ?_; rintro e w' ⟨rfl, rfl⟩
      go_wp2_with fail
      exact bodyPost_ret (v := .tuple #[.agg #[.int .i64 0, .int .i64 0], .bool false]) (by simp [results, Try.results21, go_sem]) rfl ⟨rfl, (Below.refl _ _).alloc (Nat.le_refl _) _⟩
    · have c2 := fun w => rwhole_yes b w h2
      clear h1 h2 h
      go_enter Try.func21, Try.ntmps21
      go_wp2_with fail
      refine (c1 _).mono ?_; rintro e w' ⟨rfl, rfl⟩
      go_wp2_with fail
      refine (c2 _).mono ?_; rintro e w' ⟨rfl, rfl⟩
      go_wp2_with fail
      exact bodyPost_ret (v := .tuple #[.agg #[.int .i64 0, .int .i64 0], .bool false]) (by simp [results, Try.results21, go_sem]) rfl ⟨rfl, (Below.refl _ _).alloc (Nat.le_refl _) _⟩
  · have c1 := fun w => rwhole_yes a w h1
    have h2 : wh53 b = false := by simpa [mayB, h1] using h
    have c2 := fun w => rwhole_no b w h2
    clear h1 h2 h
    go_enter Try.func21, Try.ntmps21
    go_wp2_with fail
    refine (c1 _).mono ?_; rintro e w' ⟨rfl, rfl⟩
    go_wp2_with fail
    refine (c2 _).mono ?_; rintro e w' ⟨rfl, rfl⟩
    go_wp2_with fail
    exact bodyPost_ret (v := .tuple #[.agg #[.int .i64 0, .int .i64 0], .bool false]) (by simp [results, Try.results21, go_sem]) rfl ⟨rfl, (Below.refl _ _).alloc (Nat.le_refl _) _⟩

set_option maxRecDepth 100000 in
theorem rturn_any (z : Int × Int) (n : Int) (w : World) (hz : Bd (2 ^ 53) z) :
    Calls Try.prog 23 #[.agg #[.int .i64 z.1, .int .i64 z.2], .int .i64 n] w fun e w' => e = .returned (.agg #[.int .i64 (rot (quarter n) z).1, .int .i64 (rot (quarter n) z).2]) ∧ Below w.heap.size w w' := by
  obtain ⟨hq1, hq2⟩ := tmod_bd n
  have hq' := quarter_go n
  have hq4 := quarter_lt n
  generalize quarter n = q at *
  have hr := rot_bd hz
  by_cases hneg : n.tmod 4 < 0
  · have hq : n.tmod 4 + 4 = (q : Int) := by omega
    clear hq'
    go_enter Try.func23, Try.ntmps23
    go_wp2_with fail
    go_loopw [1] (fun i wr => ∃ k : Nat, k ≤ q ∧ i = .int .i64 (((q - k : Nat)) : Int) ∧ Own wr w.heap.size #[.int .i64 (rot k z).1, .int .i64 (rot k z).2] 31 ∧ Own wr (w.heap.size + 1) #[.int .i64 0, .int .i64 0] 31 ∧ Below w.heap.size w wr) (fun i _ => (intOf i).toNat)
    case atStart =>
      refine ⟨0, Nat.zero_le _, rfl, (Own.new _ _ _).alloc _, ?_, ((Below.refl _ _).alloc (Nat.le_refl _) _).alloc (by simp) _⟩
      have := Own.new (w.alloc (.cells #[.int .i64 z.1, .int .i64 z.2] 31)) #[.int .i64 0, .int .i64 0] 31
      simp only [World.size_alloc] at this
      exact this
    case round =>
      obtain ⟨k, hk, rfl, h1, h2, hb⟩ := hrel
      have c0 : wr.cell? ⟨w.heap.size, 0, none⟩ = some (.int .i64 (rot k z).1) := h1.cell 0 (by simp)
      have c1 : wr.cell? ⟨w.heap.size, 1, none⟩ = some (.int .i64 (rot k z).2) := h1.cell 1 (by simp)
      have d0 : wr.cell? ⟨w.heap.size + 1, 0, none⟩ = some (.int .i64 0) := h2.cell 0 (by simp)
      have d1 : wr.cell? ⟨w.heap.size + 1, 1, none⟩ = some (.int .i64 0) := h2.cell 1 (by simp)
      have z0 := h1.free 0
      have z1 := h1.free 1
      have y0 := h2.free 0
      have y1 := h2.free 1
      obtain ⟨r1, r2⟩ := hr k
      by_cases hlt : k < q
      · go_wp2_with fail
        go_roundw
        case rel =>
          refine ⟨k + 1, by omega, by simp; omega, ?_, (h2.other (by simp) _).other (by simp) _, (hb.setCell (Nat.le_refl _) _).setCell (Nat.le_refl _) _⟩
          have := (h1.set 0 (.int .i64 (-(rot k z).2))).set 1 (.int .i64 (rot k z).1)
          simpa [rot] using this
        case measure => simp [intOf]; omega
      · have hkq : k = q := by omega
        subst hkq
        simp only [Nat.sub_self] at *
        go_wp2_with fail
        refine bodyPost_ret (v := .agg #[.int .i64 (rot k z).1, .int .i64 (rot k z).2]) (by simp [results, Try.results23, go_sem, d0, d1]) rfl ⟨rfl, (hb.setCell (by simp) _).setCell (by simp) _⟩
  · have hq : n.tmod 4 = (q : Int) := by omega
    have hq0 : 0 ≤ n.tmod 4 := by omega
    clear hq' hq1 hq2 hneg
    go_enter Try.func23, Try.ntmps23
    go_wp2_with fail
    go_loopw [1] (fun i wr => ∃ k : Nat, k ≤ q ∧ i = .int .i64 (((q - k : Nat)) : Int) ∧ Own wr w.heap.size #[.int .i64 (rot k z).1, .int .i64 (rot k z).2] 31 ∧ Own wr (w.heap.size + 1) #[.int .i64 0, .int .i64 0] 31 ∧ Below w.heap.size w wr) (fun i _ => (intOf i).toNat)
    case atStart =>
      refine ⟨0, Nat.zero_le _, rfl, (Own.new _ _ _).alloc _, ?_, ((Below.refl _ _).alloc (Nat.le_refl _) _).alloc (by simp) _⟩
      have := Own.new (w.alloc (.cells #[.int .i64 z.1, .int .i64 z.2] 31)) #[.int .i64 0, .int .i64 0] 31
      simp only [World.size_alloc] at this
      exact this
    case round =>
      obtain ⟨k, hk, rfl, h1, h2, hb⟩ := hrel
      have c0 : wr.cell? ⟨w.heap.size, 0, none⟩ = some (.int .i64 (rot k z).1) := h1.cell 0 (by simp)
      have c1 : wr.cell? ⟨w.heap.size, 1, none⟩ = some (.int .i64 (rot k z).2) := h1.cell 1 (by simp)
      have d0 : wr.cell? ⟨w.heap.size + 1, 0, none⟩ = some (.int .i64 0) := h2.cell 0 (by simp)
      have d1 : wr.cell? ⟨w.heap.size + 1, 1, none⟩ = some (.int .i64 0) := h2.cell 1 (by simp)
      have z0 := h1.free 0
      have z1 := h1.free 1
      have y0 := h2.free 0
      have y1 := h2.free 1
      obtain ⟨r1, r2⟩ := hr k
      by_cases hlt : k < q
      · go_wp2_with fail
        go_roundw
        case rel =>
          refine ⟨k + 1, by omega, by simp; omega, ?_, (h2.other (by simp) _).other (by simp) _, (hb.setCell (Nat.le_refl _) _).setCell (Nat.le_refl _) _⟩
          have := (h1.set 0 (.int .i64 (-(rot k z).2))).set 1 (.int .i64 (rot k z).1)
          simpa [rot] using this
        case measure => simp [intOf]; omega
      · have hkq : k = q := by omega
        subst hkq
        simp only [Nat.sub_self] at *
        go_wp2_with fail
        refine bodyPost_ret (v := .agg #[.int .i64 (rot k z).1, .int .i64 (rot k z).2]) (by simp [results, Try.results23, go_sem, d0, d1]) rfl ⟨rfl, (hb.setCell (by simp) _).setCell (by simp) _⟩
end Go.Proofs.Ytkghkkfcgegmeaa
