/- Walks: the reference's weight of a text; numbers as complex numbers; the text's weight against it. -/
import Derived.Test.YtkghkkfcgegmeaaW3
import Derived.Test.YtkghkkfcgegmeaaMem
namespace Go.Proofs.Ytkghkkfcgegmeaa
open Go.RowKit Fl
set_option linter.unusedVariables false
set_option linter.unusedSimpArgs false

/-- the sum of the bytes at the places that are r modulo 4. -/
def sum4 (r : Nat) : Nat → List UInt8 → Int
  | _, [] => 0
  | k, c :: l => (if k % 4 = r then (c.toNat : Int) else 0) + sum4 r (k + 1) l
theorem sum4_snoc (r k : Nat) (l : List UInt8) (c : UInt8) : sum4 r k (l ++ [c]) = sum4 r k l + (if (k + l.length) % 4 = r then (c.toNat : Int) else 0) := by
  induction l generalizing k with
  | nil => simp [sum4]
  | cons d l ih =>
    simp only [List.cons_append, sum4, ih, List.length_cons]
    rw [show k + 1 + l.length = k + (l.length + 1) from by omega]
    omega
theorem sum4_bd (r k : Nat) (l : List UInt8) : 0 ≤ sum4 r k l ∧ sum4 r k l ≤ 255 * l.length := by
  induction l generalizing k with
  | nil => simp [sum4]
  | cons c l ih =>
    have h1 := ih (k + 1)
    have hc : c.toNat ≤ 255 := by have := c.toNat_lt; omega
    simp only [sum4, List.length_cons]
    split <;> omega
theorem wgt_sum4 (k : Nat) (l : List UInt8) : wgt k l = (sum4 0 k l - sum4 2 k l, sum4 1 k l - sum4 3 k l) := by
  induction l generalizing k with
  | nil => simp [wgt, sum4]
  | cons c l ih =>
    simp only [wgt, sum4, ih]
    have h : k % 4 = 0 ∨ k % 4 = 1 ∨ k % 4 = 2 ∨ k % 4 = 3 := by omega
    rcases h with h | h | h | h <;> simp [h, unit] <;> omega

theorem maxl (n : Nat) (h : n ≤ 1000000) (x : Int) (h0 : 0 ≤ x) (h1 : x ≤ 255 * n) : wrap64 x = x := IntWalk.wrap64_in x ⟨by omega, by omega⟩

/-- the array of the four sums behind k bytes. -/
def sums (s : ByteArray) (k : Nat) : Array Value := #[.int .i64 (sum4 0 0 (s.data.toList.take k)), .int .i64 (sum4 1 0 (s.data.toList.take k)), .int .i64 (sum4 2 0 (s.data.toList.take k)), .int .i64 (sum4 3 0 (s.data.toList.take k))]
def A4 (w : World) (b : Nat) (s : ByteArray) (k : Nat) : Prop := Own w b (sums s k) 50
theorem a4_step {w : World} {b : Nat} {s : ByteArray} {k : Nat} (h : A4 w b s k) (hs : s.size ≤ 1000000) (hlt : k < s.size) (r : Nat) (hr : k % 4 = r) :
    A4 (w.setCell ⟨b, r, none⟩ (.int .i64 (wrap64 (sum4 r 0 (s.data.toList.take k) + wrap64 (s[k].toNat : Int))))).drew b s (k + 1) := by
  have hlk : (s.data.toList.take k).length = k := by simp; omega
  have hbd := sum4_bd r 0 (s.data.toList.take k)
  rw [hlk] at hbd
  have hts : s.data.toList.take (k + 1) = s.data.toList.take k ++ [s[k]] := by
    rw [List.take_succ_eq_append_getElem (by simpa using hlt)]; rfl
  have hbyte : s[k].toNat ≤ 255 := by have := s[k].toNat_lt; omega
  have hw1 : wrap64 (s[k].toNat : Int) = (s[k].toNat : Int) := IntWalk.wrap64_in _ ⟨by omega, by omega⟩
  have hw2 : wrap64 (sum4 r 0 (s.data.toList.take k) + (s[k].toNat : Int)) = sum4 r 0 (s.data.toList.take k) + (s[k].toNat : Int) := IntWalk.wrap64_in _ ⟨by omega, by omega⟩
  rw [hw1, hw2]
  have h2 := (Own.set h r (.int .i64 (sum4 r 0 (s.data.toList.take k) + (s[k].toNat : Int)))).drew
  have e : (sums s k).setIfInBounds r (.int .i64 (sum4 r 0 (s.data.toList.take k) + (s[k].toNat : Int))) = sums s (k + 1) := by
    simp only [sums, hts, sum4_snoc, hlk, Nat.zero_add]
    subst hr
    have h : k % 4 = 0 ∨ k % 4 = 1 ∨ k % 4 = 2 ∨ k % 4 = 3 := by omega
    rcases h with h | h | h | h <;> simp [h]
  rw [e] at h2
  exact h2

set_option maxRecDepth 100000 in
theorem refOf_any (s : ByteArray) (w : World) (hs : s.size ≤ 1000000) :
    Calls Try.prog 18 #[.string s] w fun e w' => e = .returned (.agg #[.int .i64 (wgt 0 s.data.toList).1, .int .i64 (wgt 0 s.data.toList).2]) ∧ Below w.heap.size w w' := by
  go_enter Try.func18, Try.ntmps18
  go_wp2
  go_loopw [4] (fun i wr => ∃ k : Nat, k ≤ s.size ∧ i = .int .i64 k ∧ Own wr w.heap.size #[.int .i64 0, .int .i64 0] 31 ∧ A4 wr (w.heap.size + 1) s k ∧ Below w.heap.size w wr) (fun i _ => s.size - (intOf i).toNat)
  case atStart =>
    refine ⟨0, Nat.zero_le _, rfl, (Own.new _ _ _).alloc _, ?_, ((Below.refl _ _).alloc (Nat.le_refl _) _).alloc (by simp) _⟩
    have := Own.new (w.alloc (.cells #[.int .i64 0, .int .i64 0] 31)) (sums s 0) 50
    simp only [World.size_alloc] at this
    exact this
  case round =>
    obtain ⟨k, hk, rfl, h1, h2, hb⟩ := hrel
    have c0 : wr.cell? ⟨w.heap.size + 1, 0, none⟩ = some (.int .i64 (sum4 0 0 (s.data.toList.take k))) := Own.cell h2 0 (by simp [sums])
    have c1 : wr.cell? ⟨w.heap.size + 1, 1, none⟩ = some (.int .i64 (sum4 1 0 (s.data.toList.take k))) := Own.cell h2 1 (by simp [sums])
    have c2 : wr.cell? ⟨w.heap.size + 1, 2, none⟩ = some (.int .i64 (sum4 2 0 (s.data.toList.take k))) := Own.cell h2 2 (by simp [sums])
    have c3 : wr.cell? ⟨w.heap.size + 1, 3, none⟩ = some (.int .i64 (sum4 3 0 (s.data.toList.take k))) := Own.cell h2 3 (by simp [sums])
    have z : ∀ j, wr.frozen? ⟨w.heap.size + 1, j, none⟩ = false := fun j => Own.free h2 j
    by_cases hlt : k < s.size
    · have hr : k % 4 = 0 ∨ k % 4 = 1 ∨ k % 4 = 2 ∨ k % 4 = 3 := by omega
      have z0 := z 0
      have z1 := z 1
      have z2 := z 2
      have z3 := z 3
      rcases hr with hr | hr | hr | hr
      · have hr' : (k : Int) % 4 = 0 := by omega
        have hN : A4 (wr.setCell ⟨w.heap.size + 1, 0, none⟩ (.int .i64 (wrap64 (sum4 0 0 (s.data.toList.take k) + wrap64 (s[k].toNat : Int))))).drew (w.heap.size + 1) s (k + 1) := a4_step h2 hs hlt 0 hr
        clear c1 c2 c3 z hr
        go_wp2
        go_region
        go_wp2
        go_roundw
        case rel => exact ⟨k + 1, by omega, by go_num, (h1.other (by simp) _).drew, hN, (hb.setCell (by simp) _).drew⟩
        case measure => simp [intOf]; omega
      · have hr' : (k : Int) % 4 = 1 := by omega
        have hN : A4 (wr.setCell ⟨w.heap.size + 1, 1, none⟩ (.int .i64 (wrap64 (sum4 1 0 (s.data.toList.take k) + wrap64 (s[k].toNat : Int))))).drew (w.heap.size + 1) s (k + 1) := a4_step h2 hs hlt 1 hr
        clear c0 c2 c3 z hr
        go_wp2
        go_region
        go_wp2
        go_roundw
        case rel => exact ⟨k + 1, by omega, by go_num, (h1.other (by simp) _).drew, hN, (hb.setCell (by simp) _).drew⟩
        case measure => simp [intOf]; omega
      · have hr' : (k : Int) % 4 = 2 := by omega
        have hN : A4 (wr.setCell ⟨w.heap.size + 1, 2, none⟩ (.int .i64 (wrap64 (sum4 2 0 (s.data.toList.take k) + wrap64 (s[k].toNat : Int))))).drew (w.heap.size + 1) s (k + 1) := a4_step h2 hs hlt 2 hr
        clear c0 c1 c3 z hr
        go_wp2
        go_region
        go_wp2
        go_roundw
        case rel => exact ⟨k + 1, by omega, by go_num, (h1.other (by simp) _).drew, hN, (hb.setCell (by simp) _).drew⟩
        case measure => simp [intOf]; omega
      · have hr' : (k : Int) % 4 = 3 := by omega
        have hN : A4 (wr.setCell ⟨w.heap.size + 1, 3, none⟩ (.int .i64 (wrap64 (sum4 3 0 (s.data.toList.take k) + wrap64 (s[k].toNat : Int))))).drew (w.heap.size + 1) s (k + 1) := a4_step h2 hs hlt 3 hr
        clear c0 c1 c2 z hr
        go_wp2
        go_region
        go_wp2
        go_roundw
        case rel => exact ⟨k + 1, by omega, by go_num, (h1.other (by simp) _).drew, hN, (hb.setCell (by simp) _).drew⟩
        case measure => simp [intOf]; omega
    · have hk' : k = s.size := by omega
      have g0 : wr.cell? ⟨w.heap.size, 0, none⟩ = some (.int .i64 0) := Own.cell h1 0 (by simp)
      have g1 : wr.cell? ⟨w.heap.size, 1, none⟩ = some (.int .i64 0) := Own.cell h1 1 (by simp)
      have y0 := h1.free 0
      have y1 := h1.free 1
      have hlk : (s.data.toList.take k).length = k := by simp; omega
      have b0 := sum4_bd 0 0 (s.data.toList.take k)
      have b1 := sum4_bd 1 0 (s.data.toList.take k)
      have b2 := sum4_bd 2 0 (s.data.toList.take k)
      have b3 := sum4_bd 3 0 (s.data.toList.take k)
      rw [hlk] at b0 b1 b2 b3
      have hfin := Lib.hid (wgt_sum4 0 (s.data.toList.take k))
      have htk := Lib.hid (show s.data.toList.take k = s.data.toList from List.take_of_length_le (by simp; omega))
      clear hk' hlk
      go_wp2
      refine bodyPost_ret (v := .agg #[.int .i64 (sum4 0 0 (s.data.toList.take k) - sum4 2 0 (s.data.toList.take k)), .int .i64 (sum4 1 0 (s.data.toList.take k) - sum4 3 0 (s.data.toList.take k))]) (by simp [results, Try.results18, go_sem, g0, g1]) rfl ⟨?_, (hb.setCell (Nat.le_refl _) _).setCell (Nat.le_refl _) _⟩
      have e := hfin.out
      rw [htk.out] at e ⊢
      rw [e]

set_option maxRecDepth 100000 in
theorem num_any (a b : Int) (w : World) :
    Calls Try.prog 17 #[.agg #[.int .i64 a, .int .i64 b]] w fun e w' => e = .returned (.complex .f64 (F a) (F b)) ∧ Below w.heap.size w w' := by
  go_enter Try.func17, Try.ntmps17
  go_wp2
  go_ret
  exact ⟨rfl, (Below.refl _ _).alloc (Nat.le_refl _) _⟩

theorem float64bits_run (x : Nat) (w : World) : (callFunc 72 #[.float .f64 x]).run Try.prog w = .ok (.value (.int .u64 x)) w := by
  rw [run_callFunc_extern (e := Extern.MathFloatBits.float64bits) Try.func72 (by kernel_rfl) (by kernel_rfl) (by kernel_rfl) (by kernel_rfl)]
  rfl

set_option maxRecDepth 100000 in
theorem signbit_any (x : Nat) (w : World) :
    Calls Try.prog 60 #[.float .f64 x] w fun e w' => e = .returned (.bool (decide (wrap64 x < 0))) ∧ w = w' := by
  have hf := float64bits_run x
  go_enter Try.func60, Try.ntmps60
  go_wp2
  go_ret
  exact ⟨rfl, rfl⟩

/-- a number whose noughts have no sign is plain. -/
theorem eqF0 (a : Int) (ha : a.natAbs ≤ 2 ^ 53) : (FloatKind.f64.format.order (F a) 0 == some .eq) = decide (a = 0) := by
  have := eqF a 0 ha (by decide)
  rwa [F0] at this

set_option maxRecDepth 100000 in
theorem lplain_F (a b : Int) (w : World) (ha : a.natAbs ≤ 2 ^ 53) (hb : b.natAbs ≤ 2 ^ 53) :
    Calls Try.prog 19 #[.complex .f64 (F a) (F b)] w fun e w' => e = .returned (.bool true) ∧ w = w' := by
  have hs : ∀ w, Calls Try.prog 60 #[.float .f64 0] w fun e w' => e = .returned (.bool false) ∧ w = w' := fun w => by have h := signbit_any 0 w; rwa [show decide (wrap64 ((0 : Nat) : Int) < 0) = false from by simp [wrap64]] at h
  have e1 := eqF0 a ha
  have e2 := eqF0 b hb
  by_cases h1 : a = 0
  · subst h1
    by_cases h2 : b = 0
    · subst h2
      simp only [F0] at *
      simp at e1
      go_enter Try.func19, Try.ntmps19
      go_wp2_with (go_at_call 60; refine (hs _).mono ?_; rintro e w' ⟨rfl, rfl⟩)
      go_ret
      exact ⟨rfl, rfl⟩
    · simp only [h2, decide_false] at e2
      simp only [F0] at *
      simp at e1
      generalize F b = y at *
      clear hb h2
      go_enter Try.func19, Try.ntmps19
      go_wp2_with (go_at_call 60; refine (hs _).mono ?_; rintro e w' ⟨rfl, rfl⟩)
      go_ret
      exact ⟨rfl, rfl⟩
  · simp only [h1, decide_false] at e1
    by_cases h2 : b = 0
    · subst h2
      simp only [F0] at *
      simp at e2
      generalize F a = y at *
      clear ha h1
      go_enter Try.func19, Try.ntmps19
      go_wp2_with (go_at_call 60; refine (hs _).mono ?_; rintro e w' ⟨rfl, rfl⟩)
      go_ret
      exact ⟨rfl, rfl⟩
    · simp only [h2, decide_false] at e2
      generalize F a = x at *
      generalize F b = y at *
      clear ha h1 hb h2
      go_enter Try.func19, Try.ntmps19
      go_wp2_with (go_at_call 60; refine (hs _).mono ?_; rintro e w' ⟨rfl, rfl⟩)
      go_ret
      exact ⟨rfl, rfl⟩
end Go.Proofs.Ytkghkkfcgegmeaa
