/- Floats that are not below 0: their order is that of their bits; squares and sums of squares are such. Plain laws over Ieee. -/
import Derived.Test.YtkghkkfcgegmeaaFlt2
namespace Go.Proofs.Ytkghkkfcgegmeaa.Fl
open Ieee

/-- the bits of the infinity above all. -/
def INF : Nat := 2047 * 2 ^ 52
theorem read_pos {r : Nat} (h : r ≤ INF) : double.read r = if r < 2 ^ 52 then .number false r (-1074) else if r < INF then .number false (2 ^ 52 + r % 2 ^ 52) (-1074 + ((r / 2 ^ 52 - 1 : Nat) : Int)) else .infinity false := by
  have e0 : double.signWeight = 2 ^ 63 := rfl
  have e3 : double.binade = 2 ^ 52 := rfl
  have e4 : double.infRung = 2047 * 2 ^ 52 := by decide
  have e2 : double.leastPlace = -1074 := by decide
  have hI : INF = 2047 * 2 ^ 52 := rfl
  have h1 : (r / 2 ^ 63 % 2 == 1) = false := by rw [Nat.div_eq_of_lt (by omega)]; rfl
  have h2 : r % 2 ^ 63 = r := by omega
  unfold Format.read
  simp only [e0, e3, e4, e2, h1, h2, hI]
  by_cases a : r < 2 ^ 52
  · simp only [a, if_true]
  · by_cases b : r < 2047 * 2 ^ 52
    · simp only [a, b, if_true, if_false]
    · simp only [a, b, if_false]; rw [if_pos (by omega)]
/-- the size of a number by its bits. -/
def V (r : Nat) : Nat := if r < 2 ^ 52 then r else (2 ^ 52 + r % 2 ^ 52) * 2 ^ (r / 2 ^ 52 - 1)
theorem V_lt {r t : Nat} (h : r < t) : V r < V t := by
  unfold V
  by_cases a : r < 2 ^ 52
  · rw [if_pos a]
    by_cases b : t < 2 ^ 52
    · rw [if_pos b]; exact h
    · rw [if_neg b]
      have := Nat.two_pow_pos (t / 2 ^ 52 - 1)
      exact Nat.lt_of_lt_of_le a (Nat.le_trans (Nat.le_add_right _ _) (Nat.le_mul_of_pos_right _ this))
  · rw [if_neg a, if_neg (by omega)]
    have hr := Nat.div_add_mod r (2 ^ 52)
    have ht := Nat.div_add_mod t (2 ^ 52)
    have mr := Nat.mod_lt r (Nat.two_pow_pos 52)
    have mt := Nat.mod_lt t (Nat.two_pow_pos 52)
    have dr : 1 ≤ r / 2 ^ 52 := by omega
    have hd : r / 2 ^ 52 ≤ t / 2 ^ 52 := Nat.div_le_div_right (Nat.le_of_lt h)
    generalize r / 2 ^ 52 = E at *
    generalize t / 2 ^ 52 = E' at *
    generalize r % 2 ^ 52 = f at *
    generalize t % 2 ^ 52 = f' at *
    by_cases he : E = E'
    · subst he
      exact (Nat.mul_lt_mul_right (Nat.two_pow_pos _)).2 (by omega)
    · have h1 : (2 ^ 52 + f) * 2 ^ (E - 1) < 2 ^ 53 * 2 ^ (E - 1) := (Nat.mul_lt_mul_right (Nat.two_pow_pos _)).2 (by omega)
      have h2 : 2 ^ 53 * 2 ^ (E - 1) ≤ 2 ^ 52 * 2 ^ (E' - 1) := by
        rw [← Nat.pow_add, ← Nat.pow_add]; exact Nat.pow_le_pow_right (by decide) (by omega)
      have h3 : 2 ^ 52 * 2 ^ (E' - 1) ≤ (2 ^ 52 + f') * 2 ^ (E' - 1) := Nat.mul_le_mul_right _ (by omega)
      omega
theorem sgn_false (m : Nat) : sgn false m = (m : Int) := rfl
theorem order_V {r t : Nat} (hr : r < INF) (ht : t < INF) : double.order r t = some (compare (V r : Int) (V t : Int)) := by
  have h : ∀ x, x < INF → ∃ m i, double.read x = .number false m i ∧ 0 ≤ i + 1074 ∧ (m : Int) * 2 ^ (i + (1074 : Nat)).toNat = (V x : Int) := fun x hx => by
    rw [read_pos (Nat.le_of_lt hx)]
    by_cases a : x < 2 ^ 52
    · refine ⟨x, -1074, by rw [if_pos a], by omega, ?_⟩
      have : V x = x := by unfold V; rw [if_pos a]
      rw [this, show (-1074 + ((1074 : Nat) : Int)).toNat = 0 from by decide]; simp
    · refine ⟨_, _, by rw [if_neg a, if_pos hx], by omega, ?_⟩
      have : V x = (2 ^ 52 + x % 2 ^ 52) * 2 ^ (x / 2 ^ 52 - 1) := by unfold V; rw [if_neg a]
      rw [this, show (-1074 + ((x / 2 ^ 52 - 1 : Nat) : Int) + ((1074 : Nat) : Int)).toNat = x / 2 ^ 52 - 1 from by omega]
      generalize 2 ^ 52 + x % 2 ^ 52 = M
      generalize x / 2 ^ 52 - 1 = k
      rw [Int.natCast_mul, Int.natCast_pow]; rfl
  obtain ⟨m, i, e1, a1, b1⟩ := h r hr
  obtain ⟨n, j, e2, a2, b2⟩ := h t ht
  show (double.read r).order (double.read t) = _
  rw [e1, e2, order_scaled false false m n i j 1074 (by omega) (by omega), sgn_false, sgn_false, b1, b2]
/-- the order of two floats that are not below 0. -/
theorem INF1 : ¬ INF < 2 ^ 52 := by unfold INF; omega
theorem INF2 : ¬ INF < INF := Nat.lt_irrefl _
theorem order_pos {r t : Nat} (hr : r ≤ INF) (ht : t ≤ INF) : double.order r t = some (if r < t then .lt else if r = t then .eq else .gt) := by
  by_cases a : r < INF
  · by_cases b : t < INF
    · rw [order_V a b, compare_int]
      congr 1
      by_cases h1 : r < t
      · have := V_lt h1
        rw [if_pos (by omega), if_pos h1]
      · by_cases h2 : r = t
        · subst h2; simp
        · have := V_lt (show t < r by omega)
          rw [if_neg (by omega), if_neg (by omega), if_neg h1, if_neg h2]
    · have : t = INF := by omega
      subst this
      show (double.read r).order (double.read INF) = _
      rw [read_pos hr, read_pos ht]
      by_cases c : r < 2 ^ 52
      · rw [if_pos c, if_neg INF1, if_neg INF2, if_pos a]; rfl
      · rw [if_neg c, if_pos a, if_neg INF1, if_neg INF2, if_pos a]; rfl
  · have : r = INF := by omega
    subst this
    show (double.read INF).order (double.read t) = _
    rw [read_pos hr, read_pos ht, if_neg INF1, if_neg INF2]
    by_cases b : t < INF
    · rw [if_neg (show ¬ INF < t by omega), if_neg (show ¬ INF = t by omega)]
      by_cases c : t < 2 ^ 52
      · rw [if_pos c]; rfl
      · rw [if_neg c, if_pos b]; rfl
    · have : t = INF := by omega
      subst this
      rw [if_neg INF1, if_neg INF2, if_pos rfl]; rfl
theorem word_le (k : Nat) : double.word false (min k (2047 * 2 ^ 52)) ≤ INF := by
  simp only [Format.word, Bool.false_eq_true, if_false]
  exact Nat.min_le_right _ _
theorem nearest_pos (m : Nat) (i : Int) : double.nearest false m i ≤ INF := by
  by_cases h : m = 0
  · subst h; simp [Format.nearest, Format.word]
  · rw [nearest_def false i h]
    exact word_le _
theorem sum_pos {A B : Nat} (hA : A ≤ INF) (hB : B ≤ INF) : ∃ W, W ≤ INF ∧ floatBits .add .f64 A B = some W := by
  have e4 : double.write (.infinity false) = INF := by decide
  have h : ∀ x, x ≤ INF → (∃ m i, double.read x = .number false m i) ∨ double.read x = .infinity false := fun x hx => by
    rw [read_pos hx]
    by_cases a : x < 2 ^ 52
    · rw [if_pos a]; exact Or.inl ⟨_, _, rfl⟩
    · rw [if_neg a]
      by_cases b : x < INF
      · rw [if_pos b]; exact Or.inl ⟨_, _, rfl⟩
      · rw [if_neg b]; exact Or.inr rfl
  have hf : floatBits .add .f64 A B = ((double.read A).sum (double.read B)).map double.write := rfl
  rw [hf]
  rcases h A hA with ⟨m, i, e1⟩ | e1 <;> rcases h B hB with ⟨n, j, e2⟩ | e2 <;> rw [e1, e2]
  · let base := min i j
    let total := signed false m (i - base).toNat + signed false n (j - base).toNat
    have ht : 0 ≤ total := by
      have : 0 ≤ signed false m (i - base).toNat := Int.natCast_nonneg _
      have : 0 ≤ signed false n (j - base).toNat := Int.natCast_nonneg _
      omega
    have hs : (if total = 0 then (false && false) else decide (total < 0)) = false := by
      by_cases h0 : total = 0
      · rw [if_pos h0]; rfl
      · rw [if_neg h0]; exact decide_eq_false (by omega)
    refine ⟨double.nearest false total.natAbs base, nearest_pos _ _, ?_⟩
    show some (double.write (.number (if total = 0 then (false && false) else decide (total < 0)) total.natAbs base)) = _
    rw [hs]; rfl
  · exact ⟨INF, Nat.le_refl _, congrArg some e4⟩
  · exact ⟨INF, Nat.le_refl _, congrArg some e4⟩
  · exact ⟨INF, Nat.le_refl _, congrArg some e4⟩
/-- a whole number's square: the same whichever sign its nought has. -/
theorem mul_self_FW {x : Nat} {n : Int} (hx : FW x n) (hn : n.natAbs ≤ 2 ^ 53) : ∃ W, W ≤ INF ∧ floatBits .mul .f64 x x = some W ∧ floatBits .mul .f64 (F n) (F n) = some W := by
  have hgen : ∃ W, W ≤ INF ∧ floatBits .mul .f64 x x = some W := by
    obtain ⟨s, ⟨m, i, e, _⟩, _⟩ := FW_sgn hx hn
    refine ⟨double.nearest false (m * m) (i + i), nearest_pos _ _, ?_⟩
    show ((double.read x).product (double.read x)).map double.write = _
    rw [e]
    show some (double.nearest (s ^^ s) (m * m) (i + i)) = _
    rw [Bool.xor_self]
  by_cases h0 : n = 0
  · subst h0
    obtain ⟨s, e, _⟩ := hx
    have r0 : rung (0 : Int).natAbs = 0 := rfl
    rw [r0] at e
    have f0 : F 0 = 0 := by rw [F_eq (by decide)]; rfl
    rw [f0]
    refine ⟨0, Nat.zero_le _, ?_, by decide +kernel⟩
    cases s
    · rw [e]; decide +kernel
    · rw [e]; decide +kernel
  · obtain ⟨W, h1, h2⟩ := hgen
    have : x = F n := by
      obtain ⟨s, e, hs⟩ := hx
      rw [e, F_eq hn, hs h0]
    rw [← this]
    exact ⟨W, h1, h2, h2⟩
/-- the bits of the power of a whole complex number. -/
def pw (n m : Int) : Nat := (floatBits .add .f64 ((floatBits .mul .f64 (F n) (F n)).getD 0) ((floatBits .mul .f64 (F m) (F m)).getD 0)).getD 0
theorem pw_spec {x y : Nat} {n m : Int} (hx : FW x n) (hy : FW y m) (hn : n.natAbs ≤ 2 ^ 53) (hm : m.natAbs ≤ 2 ^ 53) :
    pw n m ≤ INF ∧ ∃ A B, floatBits .mul .f64 x x = some A ∧ floatBits .mul .f64 y y = some B ∧ floatBits .add .f64 A B = some (pw n m) := by
  obtain ⟨A, a1, a2, a3⟩ := mul_self_FW hx hn
  obtain ⟨B, b1, b2, b3⟩ := mul_self_FW hy hm
  obtain ⟨W, w1, w2⟩ := sum_pos a1 b1
  have e : pw n m = W := by simp [pw, a3, b3, w2]
  rw [e]; exact ⟨w1, A, B, a2, b2, w2⟩
end Go.Proofs.Ytkghkkfcgegmeaa.Fl
