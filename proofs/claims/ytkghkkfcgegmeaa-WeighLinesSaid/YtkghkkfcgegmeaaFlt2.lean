/- Sums that are rounded: the float of a whole number of any size; '+ 0'. Plain laws over Ieee. -/
import Derived.Test.YtkghkkfcgegmeaaFlt
namespace Go.Proofs.Ytkghkkfcgegmeaa.Fl
open Ieee

theorem cut_scale (s : Bool) (n d j : Nat) (h0 : n ≠ 0) (h : d ≤ n.log2 + 2) : Toward.even.cut s (n * 2 ^ j) (d + j) = Toward.even.cut s n d := by
  have e1 : min (d + j) ((n * 2 ^ j).log2 + 2) = d + j := by rw [log2_mul_two_pow _ _ h0]; omega
  have e2 : min d (n.log2 + 2) = d := by omega
  have hj : 0 < 2 ^ j := Nat.two_pow_pos j
  simp only [Toward.cut]
  rw [e1, e2, shl, shl, Nat.one_mul, Nat.one_mul, Nat.pow_add, Nat.mul_div_mul_right _ _ hj, Nat.mul_mod_mul_right]
  have c1 : (2 ^ d * 2 ^ j < 2 * (n % 2 ^ d * 2 ^ j)) = (2 ^ d < 2 * (n % 2 ^ d)) := by
    rw [← Nat.mul_assoc]; exact propext (Nat.mul_lt_mul_right hj)
  have c2 : (2 ^ d * 2 ^ j == 2 * (n % 2 ^ d * 2 ^ j)) = (2 ^ d == 2 * (n % 2 ^ d)) := by
    rw [← Nat.mul_assoc, Bool.eq_iff_iff, beq_iff_eq, beq_iff_eq]
    exact ⟨fun h => Nat.eq_of_mul_eq_mul_right hj h, fun h => congrArg (· * 2 ^ j) h⟩
  rw [c2]
  simp only [c1]

theorem cut_none (s : Bool) (n : Nat) : Toward.even.cut s n 0 = n := by
  have hg : (1 : Nat) <<< min 0 (n.log2 + 2) = 1 := by simp
  simp only [Toward.cut]
  rw [hg]
  simp [Nat.mod_one]

theorem nearest_def (s : Bool) {m : Nat} (i : Int) (hm : m ≠ 0) : double.nearest s m i = double.word s (min (((max (i + m.log2 - 52) (-1074)) + 1074).toNat * 2 ^ 52 + Toward.even.cut s (m <<< (i - max (i + m.log2 - 52) (-1074)).toNat) (max (i + m.log2 - 52) (-1074) - i).toNat) (2047 * 2 ^ 52)) := by
  have e1 : (double.fractionBits : Int) = 52 := rfl
  have e2 : double.leastPlace = -1074 := by decide
  have e3 : double.binade = 2 ^ 52 := rfl
  have e4 : double.infRung = 2047 * 2 ^ 52 := by decide
  simp only [Format.nearest, hm, if_false, e1, e2, e3, e4]
  rw [show ∀ z : Int, z - -1074 = z + 1074 from fun z => by omega]

theorem nearest_scale (s : Bool) {m : Nat} (i : Int) (j : Nat) (hm : m ≠ 0) (h : -1074 - i ≤ (m.log2 : Int) + 2) : double.nearest s (m * 2 ^ j) (i - j) = double.nearest s m i := by
  have hp : 0 < 2 ^ j := Nat.two_pow_pos j
  have hm' : m * 2 ^ j ≠ 0 := by
    intro h0; rcases Nat.mul_eq_zero.1 h0 with h0 | h0
    · exact hm h0
    · omega
  rw [nearest_def s _ hm', nearest_def s _ hm]
  have el : (i - (j : Int)) + ((m * 2 ^ j).log2 : Nat) - 52 = i + (m.log2 : Int) - 52 := by rw [log2_mul_two_pow _ _ hm]; omega
  rw [el]
  generalize hl : max (i + (m.log2 : Int) - 52) (-1074) = last
  have key : Toward.even.cut s ((m * 2 ^ j) <<< (i - (j : Int) - last).toNat) (last - (i - (j : Int))).toNat = Toward.even.cut s (m <<< (i - last).toNat) (last - i).toNat := by
    by_cases h1 : last ≤ i
    · have z1 : (last - i).toNat = 0 := by omega
      rw [z1, cut_none, shl, shl]
      by_cases h2 : last ≤ i - j
      · have z2 : (last - (i - (j : Int))).toNat = 0 := by omega
        rw [z2, cut_none, Nat.mul_assoc, ← Nat.pow_add]
        congr 2; omega
      · have z2 : (i - (j : Int) - last).toNat = 0 := by omega
        rw [z2, Nat.pow_zero, Nat.mul_one]
        have e : m * 2 ^ j = (m * 2 ^ (i - last).toNat) * 2 ^ (last - (i - (j : Int))).toNat := by
          rw [Nat.mul_assoc, ← Nat.pow_add]; congr 2; omega
        have hne : m * 2 ^ (i - last).toNat ≠ 0 := by
          intro h0; rcases Nat.mul_eq_zero.1 h0 with h0 | h0
          · exact hm h0
          · have := Nat.two_pow_pos (i - last).toNat; omega
        have hc := cut_scale s (m * 2 ^ (i - last).toNat) 0 (last - (i - (j : Int))).toNat hne (by omega)
        rw [Nat.zero_add, cut_none] at hc
        rw [e, hc]
    · have z1 : (i - last).toNat = 0 := by omega
      have z2 : (i - (j : Int) - last).toNat = 0 := by omega
      rw [z1, z2, shl, shl, Nat.pow_zero, Nat.mul_one, Nat.mul_one]
      have e : (last - (i - (j : Int))).toNat = (last - i).toNat + j := by omega
      rw [e]
      exact cut_scale s m _ j hm (by omega)
  rw [key]

/-- what is rounded is the number, however it is written. -/
theorem nearest_val (s : Bool) {m : Nat} {i : Int} {N : Nat} (h : Val m i N) (hN : N ≠ 0) : double.nearest s m i = double.nearest s N 0 := by
  have hm : m ≠ 0 := fun e => hN (h.zero_iff.1 e)
  have hlog := h.log2 hN
  obtain ⟨K, h1, h2⟩ := h
  have a := nearest_scale s i (i + (K : Int)).toNat hm (by omega)
  have b := nearest_scale s (m := N) 0 K hN (by omega)
  rw [← a, ← b, h2]
  congr 1; omega

/-- the sum of two whole numbers, rounded. -/
theorem add_round {x y : Nat} {a b : Int} (hx : FW x a) (hy : FW y b) (ha : a.natAbs ≤ 2 ^ 53) (hb : b.natAbs ≤ 2 ^ 53) :
    ∃ r, floatBits .add .f64 x y = some r ∧ ((a + b ≠ 0 ∧ r = F (a + b)) ∨ (a + b = 0 ∧ FW r 0)) := by
  obtain ⟨s, hs, es⟩ := FW_sgn hx ha
  obtain ⟨t, ht, et⟩ := FW_sgn hy hb
  obtain ⟨f, hf, hI⟩ := sum_whole hs ht
  rw [es, et] at hI
  have e : floatBits .add .f64 x y = some (double.write f) := by
    show ((double.read x).sum (double.read y)).map double.write = _
    rw [hf, Option.map_some]
  refine ⟨_, e, ?_⟩
  by_cases h0 : a + b = 0
  · right
    rw [if_pos h0, h0] at hI
    refine ⟨h0, _, write_whole hI (by decide), fun h => absurd rfl h⟩
  · left
    refine ⟨h0, ?_⟩
    rw [if_neg h0] at hI
    obtain ⟨m, i, rfl, hv⟩ := hI
    exact nearest_val _ hv (by omega)

/-- the float of a whole number that is not too great: a number, not nought if the number isn't. -/
theorem F_finite (c : Int) (hc : c.natAbs < 2 ^ 60) : F c < 2 ^ 64 ∧ ∃ s m i, double.read (F c) = .number s m i ∧ (c ≠ 0 → m ≠ 0) ∧ double.nearest s m i = F c ∧ -1074 ≤ i := by
  have e0 : double.signWeight = 2 ^ 63 := rfl
  have e3 : double.binade = 2 ^ 52 := rfl
  have e4 : double.infRung = 2047 * 2 ^ 52 := by decide
  have e2 : double.leastPlace = -1074 := by decide
  have hF : ∃ sg r, F c = double.word sg r ∧ r < 2047 * 2 ^ 52 ∧ (c ≠ 0 → r ≠ 0) ∧ (c = 0 → sg = false) := by
    by_cases h0 : c = 0
    · subst h0
      exact ⟨false, 0, by rw [F_eq (by decide)]; rfl, by decide, fun h => absurd rfl h, fun _ => rfl⟩
    · by_cases h53 : c.natAbs ≤ 2 ^ 53
      · refine ⟨_, _, F_eq h53, rung_lt h53, fun _ => ?_, fun h => absurd h h0⟩
        have := sig_bd (N := c.natAbs) (by omega) h53
        have e : rung c.natAbs = (c.natAbs.log2 + 1022) * 2 ^ 52 + sig c.natAbs := by simp [rung, h0]
        rw [e]; omega
      · have hm : c.natAbs ≠ 0 := by omega
        have hd := nearest_def (decide (c < 0)) (m := c.natAbs) 0 hm
        have hl : c.natAbs.log2 < 60 := (Nat.log2_lt hm).2 hc
        have hl2 : 53 ≤ c.natAbs.log2 := (Nat.le_log2 hm).2 (by omega)
        have hlast : max (0 + (c.natAbs.log2 : Int) - 52) (-1074) = (c.natAbs.log2 : Int) - 52 := by omega
        rw [hlast] at hd
        have z1 : (0 - ((c.natAbs.log2 : Int) - 52)).toNat = 0 := by omega
        have z2 : ((c.natAbs.log2 : Int) - 52 - 0).toNat = c.natAbs.log2 - 52 := by omega
        rw [z1, z2, shl, Nat.pow_zero, Nat.mul_one] at hd
        have hk : Toward.even.cut (decide (c < 0)) c.natAbs (c.natAbs.log2 - 52) ≤ 2 ^ 53 := by
          simp only [Toward.cut]
          rw [show min (c.natAbs.log2 - 52) (c.natAbs.log2 + 2) = c.natAbs.log2 - 52 from by omega, shl, Nat.one_mul]
          have hlt : c.natAbs < 2 ^ (c.natAbs.log2 + 1) := Nat.lt_log2_self
          have hd : c.natAbs / 2 ^ (c.natAbs.log2 - 52) < 2 ^ 53 := by
            rw [Nat.div_lt_iff_lt_mul (Nat.two_pow_pos _), ← Nat.pow_add]
            rw [show 53 + (c.natAbs.log2 - 52) = c.natAbs.log2 + 1 from by omega]
            exact hlt
          have : ∀ b : Bool, b.toNat ≤ 1 := fun b => by cases b <;> decide
          have := this (decide (2 ^ (c.natAbs.log2 - 52) < 2 * (c.natAbs % 2 ^ (c.natAbs.log2 - 52))) || 2 ^ (c.natAbs.log2 - 52) == 2 * (c.natAbs % 2 ^ (c.natAbs.log2 - 52)) && c.natAbs / 2 ^ (c.natAbs.log2 - 52) % 2 == 1)
          omega
        refine ⟨_, _, hd, ?_, fun _ => ?_, fun h => absurd h h0⟩
        · rw [Nat.min_eq_left (by omega)]
          omega
        · rw [Nat.min_eq_left (by omega)]
          omega
  obtain ⟨sg, r, hw, hr, hr0, hsg⟩ := hF
  rw [hw]
  have h1 : (double.word sg r / 2 ^ 63 % 2 == 1) = sg := by
    cases sg
    · simp only [Format.word, Bool.false_eq_true, if_false]
      rw [Nat.div_eq_of_lt (by omega)]; rfl
    · simp only [Format.word, if_true, e0]
      rw [show (2 ^ 63 + r) / 2 ^ 63 = 1 from by omega]; rfl
  have h2 : double.word sg r % 2 ^ 63 = r := by
    cases sg
    · simp only [Format.word, Bool.false_eq_true, if_false]; omega
    · simp only [Format.word, if_true, e0]; omega
  have h3 : double.word sg r < 2 ^ 64 := by
    cases sg
    · simp only [Format.word, Bool.false_eq_true, if_false]; omega
    · simp only [Format.word, if_true, e0]; omega
  refine ⟨h3, ?_⟩
  unfold Format.read
  simp only [e0, e3, e4, e2, h1, h2]
  by_cases hb : r < 2 ^ 52
  · rw [if_pos hb]
    refine ⟨sg, r, -1074, rfl, hr0, ?_, by omega⟩
    by_cases hz : r = 0
    · subst hz; simp [Format.nearest]
    · have hlg : r.log2 < 52 := (Nat.log2_lt hz).2 hb
      rw [nearest_def sg _ hz]
      have hlast : max (-1074 + (r.log2 : Int) - 52) (-1074) = -1074 := by omega
      rw [hlast]
      have z : ((-1074 : Int) - -1074).toNat = 0 := by decide
      have z' : ((-1074 : Int) + 1074).toNat = 0 := by decide
      rw [z, z', cut_none, shl, Nat.pow_zero, Nat.mul_one, Nat.zero_mul, Nat.zero_add, Nat.min_eq_left (by omega)]
  · rw [if_neg hb, if_pos hr]
    refine ⟨sg, _, _, rfl, fun _ => by omega, ?_, by omega⟩
    have hm : 2 ^ 52 + r % 2 ^ 52 ≠ 0 := by omega
    have hlg : (2 ^ 52 + r % 2 ^ 52).log2 = 52 := (Nat.log2_eq_iff hm).2 ⟨by omega, by omega⟩
    rw [nearest_def sg _ hm, hlg]
    generalize hE : r / 2 ^ 52 = E
    have hE1 : 1 ≤ E := by omega
    have hlast : max (-1074 + ((E - 1 : Nat) : Int) + ((52 : Nat) : Int) - 52) (-1074) = -1074 + ((E - 1 : Nat) : Int) := by omega
    rw [hlast]
    have z : (-1074 + ((E - 1 : Nat) : Int) - (-1074 + ((E - 1 : Nat) : Int))).toNat = 0 := by omega
    have z' : (-1074 + ((E - 1 : Nat) : Int) + 1074).toNat = E - 1 := by omega
    rw [z, z', cut_none, shl, Nat.pow_zero, Nat.mul_one]
    have hdm := Nat.div_add_mod r (2 ^ 52)
    have e : (E - 1) * 2 ^ 52 + (2 ^ 52 + r % 2 ^ 52) = r := by omega
    rw [e, Nat.min_eq_left (by omega)]

theorem order_self {x : Nat} {s : Bool} {m : Nat} {i : Int} (h : double.read x = .number s m i) : (double.order x x == some .eq) = true := by
  show ((double.read x).order (double.read x) == some .eq) = true
  rw [h, order_scaled s s m m i i (-i).toNat (by omega) (by omega), compare_int]
  simp

theorem order_zero {x : Nat} {s : Bool} {m : Nat} {i : Int} (h : double.read x = .number s m i) (hm : m ≠ 0) : (double.order x (F 0) == some .eq) = false := by
  have h0 : double.read (F 0) = .number false 0 (-1074) := by rw [F_eq (by decide)]; decide +kernel
  show ((double.read x).order (double.read (F 0)) == some .eq) = false
  rw [h, h0, order_scaled s false m 0 i (-1074) ((-i).toNat + 1074) (by omega) (by omega), compare_int]
  have hp : (0 : Int) < 2 ^ (i + (((-i).toNat + 1074 : Nat) : Int)).toNat := Int.pow_pos (by decide)
  have hz : sgn s m * 2 ^ (i + (((-i).toNat + 1074 : Nat) : Int)).toNat ≠ 0 := by
    intro h
    rcases Int.mul_eq_zero.1 h with h | h
    · cases s <;> simp [sgn] at h <;> omega
    · omega
  generalize sgn s m * 2 ^ (i + (((-i).toNat + 1074 : Nat) : Int)).toNat = X at *
  have : sgn false 0 = 0 := rfl
  rw [this, Int.zero_mul]
  simp only [hz, if_false]
  split <;> rfl

/-- '+ 0' leaves a number that is not nought as it is. -/
theorem add_zero_num {x : Nat} {s : Bool} {m : Nat} {i : Int} (h : double.read x = .number s m i) (hm : m ≠ 0) (hi : -1074 ≤ i) (hn : double.nearest s m i = x) : floatBits .add .f64 x (F 0) = some x := by
  have h0 : double.read (F 0) = .number false 0 (-1074) := by rw [F_eq (by decide)]; decide +kernel
  show ((double.read x).sum (double.read (F 0))).map double.write = _
  rw [h, h0]
  have hb : min i (-1074) = -1074 := by omega
  show some (double.write (let base := min i (-1074); let total := signed s m (i - base).toNat + signed false 0 (-1074 - base).toNat; Datum.number (if total = 0 then s && false else total < 0) total.natAbs base)) = _
  simp only [hb]
  have ht : signed s m (i - -1074).toNat + signed false 0 (-1074 - -1074).toNat = sgn s (m * 2 ^ (i + 1074).toNat) := by
    rw [signed_eq, signed_eq, sgn_mul]
    have : sgn false 0 = 0 := rfl
    rw [this, Int.zero_mul, Int.add_zero]
    rw [show i - -1074 = i + 1074 from by omega]
    congr 1
  rw [ht]
  have hp : 0 < m * 2 ^ (i + 1074).toNat := Nat.mul_pos (by omega) (Nat.two_pow_pos _)
  have hs : sgn s (m * 2 ^ (i + 1074).toNat) ≠ 0 := by cases s <;> simp only [sgn, Bool.false_eq_true, if_false, if_true] <;> omega
  have hd : decide (sgn s (m * 2 ^ (i + 1074).toNat) < 0) = s := by
    cases s
    · simp only [sgn, Bool.false_eq_true, if_false]; exact decide_eq_false (by omega)
    · simp only [sgn, if_true]; exact decide_eq_true (by omega)
  rw [if_neg hs, hd, sgn_natAbs]
  show some (double.nearest s (m * 2 ^ (i + 1074).toNat) (-1074)) = some x
  have := nearest_scale s i (i + 1074).toNat hm (by omega)
  rw [show i - ((i + 1074).toNat : Int) = -1074 from by omega] at this
  rw [this, hn]

/-- a sum of whole numbers, rounded, its nought without a sign: the float of the sum. -/
theorem add_plain {x y : Nat} {a b : Int} (hx : FW x a) (hy : FW y b) (ha : a.natAbs ≤ 2 ^ 53) (hb : b.natAbs ≤ 2 ^ 53) :
    ∃ r, floatBits .add .f64 x y = some r ∧ floatBits .add .f64 r (F 0) = some (F (a + b)) := by
  obtain ⟨r, hr, h⟩ := add_round hx hy ha hb
  refine ⟨r, hr, ?_⟩
  rcases h with ⟨h0, rfl⟩ | ⟨h0, h⟩
  · obtain ⟨_, s, m, i, e1, e2, e3, e4⟩ := F_finite (a + b) (by omega)
    exact add_zero_num e1 (e2 h0) e4 e3
  · rw [h0]; exact add_zero_FW h (by decide)
end Go.Proofs.Ytkghkkfcgegmeaa.Fl
