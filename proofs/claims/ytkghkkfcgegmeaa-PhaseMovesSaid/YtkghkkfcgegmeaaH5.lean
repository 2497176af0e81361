/- Walks of layer 34 (phase): whether four numbers are phases; the reference's small functions. -/
import Derived.Test.YtkghkkfcgegmeaaH4
namespace Go.Proofs.Ytkghkkfcgegmeaa
open Go.RowKit Fl
set_option linter.unusedVariables false
set_option linter.unusedSimpArgs false

set_option maxRecDepth 100000 in
theorem pis_no (p : P4) (w : World) (h : okW p = false) :
    Calls Try.prog 28 #[p.v] w fun e w' => e = .returned (.bool false) ∧ Kept [] w w' := by
  have hb := fun w => pback_no p w h
  clear h
  obtain ⟨a0, b0, a1, b1, a2, b2, a3, b3⟩ := p
  simp only [P4.v, zero4] at *
  go_enter Try.func28, Try.ntmps28
  go_wp2_with fail
  refine (hb _).mono ?_; rintro e w1 ⟨rfl, k⟩
  have kk := ((Kept.refl [] w).alloc _).trans k
  clear k
  go_wp2_with fail
  go_ret
  exact ⟨rfl, kk.alloc _⟩

set_option maxRecDepth 100000 in
theorem pis_yes (p : P4) (z : Z4) (w : World) (h : IsZ p z) (hz : z.Bd) :
    Calls Try.prog 28 #[p.v] w fun e w' => e = .returned (.bool z.ok) ∧ Kept [] w w' := by
  have hb := fun w => pback_yes p z w h hz
  clear h hz
  obtain ⟨a0, b0, a1, b1, a2, b2, a3, b3⟩ := p
  simp only [P4.v, zero4, Z4.qv] at *
  cases hk : z.ok
  · simp only [hk, Bool.false_eq_true, if_false] at hb
    clear hk
    go_enter Try.func28, Try.ntmps28
    go_wp2_with fail
    refine (hb _).mono ?_; rintro e w1 ⟨rfl, k⟩
    have kk := ((Kept.refl [] w).alloc _).trans k
    clear k
    go_wp2_with fail
    go_ret
    exact ⟨rfl, kk.alloc _⟩
  · simp only [hk, if_true] at hb
    clear hk
    go_enter Try.func28, Try.ntmps28
    go_wp2_with fail
    refine (hb _).mono ?_; rintro e w1 ⟨rfl, k⟩
    have kk := ((Kept.refl [] w).alloc _).trans k
    clear k
    go_wp2_with fail
    go_ret
    exact ⟨rfl, kk.alloc _⟩

/-- a number, multiplied by i so many times. -/
def turnZ : Nat → Int × Int → Int × Int
  | 0, z => z
  | k + 1, z => turnZ k (-z.2, z.1)

set_option maxRecDepth 100000 in
theorem rturn (k : Nat) (a b : Int) (w : World) (hk : k ≤ 1000000) (ha : a.natAbs ≤ 2 ^ 60) (hb : b.natAbs ≤ 2 ^ 60) :
    Calls Try.prog 66 #[.agg #[.int .i64 a, .int .i64 b], .int .i64 k] w fun e w' => e = .returned (.agg #[.int .i64 (turnZ (k % 4) (a, b)).1, .int .i64 (turnZ (k % 4) (a, b)).2]) ∧ Kept [] w w' := by
  have hm : ((k : Int)).tmod 4 = ((k % 4 : Nat) : Int) := by rw [Int.tmod_eq_emod_of_nonneg (by omega)]; rfl
  have hm4 : k % 4 < 4 := Nat.mod_lt _ (by decide)
  have a1 : -1152921504606846976 ≤ a ∧ a ≤ 1152921504606846976 := by omega
  have b1 : -1152921504606846976 ≤ b ∧ b ≤ 1152921504606846976 := by omega
  obtain ⟨a1, a2⟩ := a1
  obtain ⟨b1, b2⟩ := b1
  clear ha hb
  generalize k % 4 = m at *
  go_enter Try.func66, Try.ntmps66
  go_wp2_with fail
  go_loopw [5] (fun n wr => ∃ (j : Nat) (c d : Int), j ≤ m ∧ n = .int .i64 j ∧ turnZ j (c, d) = turnZ m (a, b) ∧ -1152921504606846976 ≤ c ∧ c ≤ 1152921504606846976 ∧ -1152921504606846976 ≤ d ∧ d ≤ 1152921504606846976 ∧ Own wr w.heap.size #[.int .i64 c, .int .i64 d] 54 ∧ Own wr (w.heap.size + 1) #[.int .i64 0, .int .i64 0] 54 ∧ Kept [] w wr) (fun n _ => (intOf n).toNat)
  case atStart => exact ⟨m, a, b, Nat.le_refl _, rfl, rfl, a1, a2, b1, b2, (own_two w _ _ _ _).1, (own_two w _ _ _ _).2, ((Kept.refl _ _).alloc _).alloc _⟩
  case round =>
    obtain ⟨j, c, d, hj, rfl, ht, c1, c2, d1, d2, ho, ho2, hk⟩ := hrel
    have x0 : wr.cell? ⟨w.heap.size, 0, none⟩ = some (.int .i64 c) := ho.cell 0 (by simp)
    have x1 : wr.cell? ⟨w.heap.size, 1, none⟩ = some (.int .i64 d) := ho.cell 1 (by simp)
    have z0 := ho.free 0
    have z1 := ho.free 1
    by_cases h0 : 0 < j
    · obtain ⟨i, rfl⟩ : ∃ i, j = i + 1 := ⟨j - 1, by omega⟩
      rw [turnZ] at ht
      have H := Lib.hid ht
      clear ht
      go_wp2_with fail
      go_roundw
      case rel =>
        refine ⟨i, -d, c, by omega, by go_num, H.out, by omega, by omega, by omega, by omega, ?_, ?_, ?_⟩
        · have := (ho.set 0 (.int .i64 (-d))).set 1 (.int .i64 c)
          simpa using this
        · exact (ho2.other (by simp) _).other (by simp) _
        · exact (hk.setCell (Or.inr (Nat.le_refl _)) _).setCell (Or.inr (Nat.le_refl _)) _
      case measure => simp [intOf]
    · obtain rfl : j = 0 := by omega
      have H : Hid ((c, d) = turnZ m (a, b)) := ht
      have y0 := ho2.cell 0 (by simp)
      have y1 := ho2.cell 1 (by simp)
      have v0 := ho2.free 0
      have v1 := ho2.free 1
      clear ht
      go_wp2_with fail
      refine bodyPost_ret (v := .agg #[.int .i64 c, .int .i64 d]) (by simp [results, Try.results66, go_sem, y0, y1, x0, x1]) rfl ⟨?_, ?_⟩
      · rw [← H.out]
      · exact (hk.setCell (Or.inr (by simp)) _).setCell (Or.inr (by simp)) _
end Go.Proofs.Ytkghkkfcgegmeaa
