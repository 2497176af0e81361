/- Numbers as digits, and digits as numbers: plain laws. -/
import Derived.Test.YtkghkkfcgegmeaaKept
namespace Go.Proofs.Ytkghkkfcgegmeaa
open Go.RowKit
set_option linter.unusedVariables false
set_option linter.unusedSimpArgs false

/-- the last digit of a number. -/
def dg (n : Nat) : UInt8 := UInt8.ofNat (48 + n % 10)
theorem dg_nat (n : Nat) : (dg n).toNat = 48 + n % 10 := by
  unfold dg; rw [UInt8.toNat_ofNat']; omega
/-- the digits of a number, at most f of them. -/
def digsF : Nat → Nat → List UInt8
  | 0, _ => []
  | f + 1, n => (if n < 10 then [] else digsF f (n / 10)) ++ [dg n]
def digs (n : Nat) : List UInt8 := digsF 20 n
def isD (c : UInt8) : Bool := 48 ≤ c.toNat && c.toNat ≤ 57
theorem isD_iff {c : UInt8} : isD c = true ↔ 48 ≤ c.toNat ∧ c.toNat ≤ 57 := by simp [isD]
theorem isD_dg (n : Nat) : isD (dg n) = true := by rw [isD_iff, dg_nat]; omega
/-- the number that digits say. -/
def val (l : List UInt8) : Nat := l.foldl (fun a c => 10 * a + (c.toNat - 48)) 0
theorem val_snoc (l : List UInt8) (c : UInt8) : val (l ++ [c]) = 10 * val l + (c.toNat - 48) := by simp [val, List.foldl_append]
theorem val_nil : val [] = 0 := rfl
theorem digsF_isD (f n : Nat) : ∀ c ∈ digsF f n, isD c = true := by
  induction f generalizing n with
  | zero => intro c hc; cases hc
  | succ f ih =>
    intro c hc
    rw [digsF, List.mem_append] at hc
    rcases hc with hc | hc
    · split at hc
      · cases hc
      · exact ih _ _ hc
    · simp at hc; subst hc; exact isD_dg n
theorem digsF_val (f n : Nat) (h : n < 10 ^ f) (hf : 0 < f) : val (digsF f n) = n := by
  induction f generalizing n with
  | zero => omega
  | succ f ih =>
    rw [digsF, val_snoc, dg_nat]
    by_cases h10 : n < 10
    · rw [if_pos h10, val_nil]; omega
    · rw [if_neg h10]
      have hp : n / 10 < 10 ^ f := by rw [Nat.div_lt_iff_lt_mul (by decide)]; rw [Nat.pow_succ] at h; exact h
      have hf0 : 0 < f := by
        rcases Nat.eq_zero_or_pos f with rfl | h0
        · simp at h; omega
        · exact h0
      rw [ih _ hp hf0]; omega
theorem digsF_len (f n k : Nat) (h : n < 10 ^ k) (hk : 0 < k) : (digsF f n).length ≤ k := by
  induction f generalizing n k with
  | zero => simp [digsF]
  | succ f ih =>
    rw [digsF, List.length_append]
    by_cases h10 : n < 10
    · rw [if_pos h10]; simp; omega
    · rw [if_neg h10]
      obtain ⟨j, rfl⟩ : ∃ j, k = j + 1 := ⟨k - 1, by omega⟩
      have hp : n / 10 < 10 ^ j := by rw [Nat.div_lt_iff_lt_mul (by decide)]; rw [Nat.pow_succ] at h; exact h
      have hj : 0 < j := by
        rcases Nat.eq_zero_or_pos j with rfl | h0
        · simp at h; omega
        · exact h0
      have := ih _ _ hp hj
      simp; omega
theorem digsF_pos (f n : Nat) (hf : 0 < f) : 0 < (digsF f n).length := by
  obtain ⟨j, rfl⟩ : ∃ j, f = j + 1 := ⟨f - 1, by omega⟩
  rw [digsF]; simp
/-- no nought ahead. -/
theorem digsF_head (f n : Nat) (h : 10 ≤ n) (hf : n < 10 ^ f) : ∃ c l, digsF f n = c :: l ∧ c.toNat ≠ 48 := by
  induction f generalizing n with
  | zero => simp at hf; omega
  | succ f ih =>
    rw [digsF, if_neg (by omega)]
    have hp : n / 10 < 10 ^ f := by rw [Nat.div_lt_iff_lt_mul (by decide)]; rw [Nat.pow_succ] at hf; exact hf
    by_cases h10 : n / 10 < 10
    · obtain ⟨j, rfl⟩ : ∃ j, f = j + 1 := ⟨f - 1, by
        rcases Nat.eq_zero_or_pos f with rfl | h0
        · simp at hp; omega
        · omega⟩
      rw [digsF, if_pos h10]
      exact ⟨dg (n / 10), [dg n], by simp, by rw [dg_nat]; omega⟩
    · obtain ⟨c, l, e, hc⟩ := ih (n / 10) (by omega) hp
      exact ⟨c, l ++ [dg n], by rw [e]; rfl, hc⟩
/-- the digits with which a text begins, at most 17 of them. -/
def pre (l : List UInt8) : List UInt8 := (l.take 17).takeWhile isD
theorem pre_of {l : List UInt8} {k : Nat} (hk : k ≤ l.length) (h17 : k ≤ 17) (hall : ∀ c ∈ l.take k, isD c = true) (hend : k = 17 ∨ k = l.length ∨ ∃ h : k < l.length, isD l[k] = false) : pre l = l.take k := by
  unfold pre
  have e : l.take 17 = l.take k ++ (l.take 17).drop k := by
    have := (List.take_append_drop k (l.take 17)).symm
    rw [List.take_take, Nat.min_eq_left h17] at this
    exact this
  rw [e, List.takeWhile_append_of_pos hall]
  have : ((l.take 17).drop k).takeWhile isD = [] := by
    rcases hend with rfl | rfl | ⟨hl, hd⟩
    · rw [List.drop_of_length_le (by simp; omega)]; rfl
    · rw [List.drop_of_length_le (by simp; omega)]; rfl
    · by_cases h : k < 17
      · rw [List.drop_eq_getElem_cons (by simp; omega), List.getElem_take, List.takeWhile_cons_of_neg (by simp [hd])]
      · rw [List.drop_of_length_le (by simp; omega)]; rfl
  rw [this, List.append_nil]
/-- the digits of a number, read again. -/
theorem pre_digs (n : Nat) (hn : n < 10 ^ 16) (rest : List UInt8) (hr : rest = [] ∨ ∃ c t, rest = c :: t ∧ isD c = false) : pre (digs n ++ rest) = digs n := by
  have hl := digsF_len 20 n 16 hn (by decide)
  have hd := digsF_isD 20 n
  have := pre_of (l := digs n ++ rest) (k := (digs n).length) (by simp) (by unfold digs; omega) (by rw [List.take_left]; exact hd) (by
    rcases hr with rfl | ⟨c, t, rfl, hc⟩
    · right; left; simp
    · right; right; exact ⟨by simp, by simp [hc]⟩)
  rwa [List.take_left] at this
end Go.Proofs.Ytkghkkfcgegmeaa
