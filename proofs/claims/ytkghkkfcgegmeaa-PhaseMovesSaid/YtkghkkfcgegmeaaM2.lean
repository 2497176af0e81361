/- The law of rows that are moved, and added: plain. -/
import Derived.Test.YtkghkkfcgegmeaaH22
namespace Go.Proofs.Ytkghkkfcgegmeaa
open Go.RowKit Fl
set_option linter.unusedVariables false
set_option linter.unusedSimpArgs false

theorem turnZ_add (n : Nat) (a b c d : Int) : turnZ n (a + c, b + d) = ((turnZ n (a, b)).1 + (turnZ n (c, d)).1, (turnZ n (a, b)).2 + (turnZ n (c, d)).2) := by
  induction n generalizing a b c d with
  | zero => rfl
  | succ n ih => simp only [turnZ]; rw [show -(b + d) = -b + -d from by omega, ih]
theorem turnZ_zero (n : Nat) : turnZ n (0, 0) = (0, 0) := by
  induction n with
  | zero => rfl
  | succ n ih => simpa [turnZ] using ih
theorem turnZ_turnZ (m n : Nat) (z : Int × Int) : turnZ m (turnZ n z) = turnZ (n + m) z := by
  induction n generalizing z with
  | zero => simp [turnZ]
  | succ n ih => rw [turnZ, ih, show n + 1 + m = (n + m) + 1 from by omega, turnZ]
/-- the sums over noughts, then over a row. -/
theorem qsum_zeros (s : Nat) (A : List Int) (k : Nat) (hk : k ≤ s) (j : Nat) (hj : j < 4) : (qsum (List.replicate s 0 ++ A) k).phat j = (0, 0) := by
  induction k with
  | zero => have h4 : j = 0 ∨ j = 1 ∨ j = 2 ∨ j = 3 := by omega
            rcases h4 with rfl | rfl | rfl | rfl <;> rfl
  | succ k ih =>
    have h0 : (List.replicate s (0 : Int) ++ A).getD k 0 = 0 := by
      rw [List.getD_eq_getElem?_getD, List.getElem?_append_left (by simp; omega), List.getElem?_replicate]
      split <;> rfl
    rw [qsum, h0, phat_step _ _ _ _ (Nat.mod_lt _ (by decide)) hj, ih (by omega), turnZ_zero]; rfl
theorem qsum_moved (s : Nat) (A : List Int) (k : Nat) (hk : k ≤ A.length) (j : Nat) (hj : j < 4) : (qsum (List.replicate s 0 ++ A) (s + k)).phat j = turnZ (j * s) ((qsum A k).phat j) := by
  induction k with
  | zero =>
    rw [Nat.add_zero, qsum_zeros s A s (Nat.le_refl _) j hj]
    have h4 : j = 0 ∨ j = 1 ∨ j = 2 ∨ j = 3 := by omega
    have : (qsum A 0).phat j = (0, 0) := by rcases h4 with rfl | rfl | rfl | rfl <;> rfl
    rw [this, turnZ_zero]
  | succ k ih =>
    have h0 : (List.replicate s (0 : Int) ++ A).getD (s + k) 0 = A.getD k 0 := by
      rw [List.getD_eq_getElem?_getD, List.getElem?_append_right (by simp), List.getD_eq_getElem?_getD]; simp
    rw [show s + (k + 1) = (s + k) + 1 from by omega, qsum, h0, phat_step _ _ _ _ (Nat.mod_lt _ (by decide)) hj, ih (by omega), qsum, phat_step _ _ _ _ (Nat.mod_lt _ (by decide)) hj]
    rw [turnZ_add]
    have e : turnZ (j * ((s + k) % 4) % 4) (A.getD k 0, 0) = turnZ (j * s) (turnZ (j * (k % 4) % 4) (A.getD k 0, 0)) := by
      rw [turnZ_turnZ, ← turnZ_mod (j * (k % 4) % 4 + j * s)]
      congr 1
      have h4 : j = 0 ∨ j = 1 ∨ j = 2 ∨ j = 3 := by omega
      rcases h4 with rfl | rfl | rfl | rfl <;> omega
    rw [e]
/-- the moved row's phases are the row's, turned. -/
theorem moved_z (s : Nat) (A : List Int) : (qsum (List.replicate s 0 ++ A) (List.replicate s (0 : Int) ++ A).length).z = (qsum A A.length).z.shift (s % 4) := by
  have hl : (List.replicate s (0 : Int) ++ A).length = s + A.length := by simp
  rw [hl]
  have h := fun j hj => qsum_moved s A A.length (Nat.le_refl _) j hj
  have hm : ∀ j, turnZ (j * s) ((qsum A A.length).phat j) = turnZ (j * (s % 4)) ((qsum A A.length).phat j) := fun j => by
    rw [← turnZ_mod (j * s), ← turnZ_mod (j * (s % 4)), Nat.mul_mod_mod]
  have h1 := h 1 (by decide)
  have h2 := h 2 (by decide)
  have h3 := h 3 (by decide)
  have h0 := h 0 (by decide)
  rw [hm] at h0 h1 h2 h3
  simp only [Q4.z, Z4.shift, h0, h1, h2, h3]
  simp [turnZ]
theorem phat_add (A B C : List Int) (k : Nat) (h : ∀ i, i < k → C.getD i 0 = A.getD i 0 + B.getD i 0) : qsum C k = ⟨(qsum A k).q0 + (qsum B k).q0, (qsum A k).q1 + (qsum B k).q1, (qsum A k).q2 + (qsum B k).q2, (qsum A k).q3 + (qsum B k).q3⟩ := by
  induction k with
  | zero => rfl
  | succ k ih =>
    rw [qsum, qsum, qsum, ih (fun i hi => h i (by omega)), h k (by omega)]
    have h4 : k % 4 = 0 ∨ k % 4 = 1 ∨ k % 4 = 2 ∨ k % 4 = 3 := by omega
    rcases h4 with e | e | e | e <;> rw [e] <;> simp [Q4.bump] <;> omega
theorem added_z (A B C : List Int) (h : ∀ i, i < C.length → C.getD i 0 = A.getD i 0 + B.getD i 0) (ha : A.length = C.length) (hb : B.length = C.length) : (qsum C C.length).z = (qsum A A.length).z.add (qsum B B.length).z := by
  rw [phat_add A B C C.length h, ha, hb]
  simp only [Q4.z, Z4.add, Q4.phat, Z4.mk.injEq]
  refine ⟨?_, ?_, ?_, ?_, ?_, ?_, ?_, ?_⟩ <;> omega
end Go.Proofs.Ytkghkkfcgegmeaa
