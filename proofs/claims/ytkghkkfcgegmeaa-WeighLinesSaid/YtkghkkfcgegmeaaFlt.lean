/- The floats that stand for whole numbers: what sums, products, comparisons and conversions of them give. Plain laws over Ieee. -/
import Derived.Laws.FloatArith
import Derived.Laws.ComplexArith
namespace Go.Proofs.Ytkghkkfcgegmeaa.Fl
open Ieee

theorem shl (a b : Nat) : a <<< b = a * 2 ^ b := Nat.shiftLeft_eq a b

theorem log2_mul_two_pow (m p : Nat) (h : m ≠ 0) : (m * 2 ^ p).log2 = m.log2 + p := by
  have hp : 0 < 2 ^ p := Nat.two_pow_pos p
  have hne : m * 2 ^ p ≠ 0 := by
    intro h0; rcases Nat.mul_eq_zero.1 h0 with h0 | h0
    · exact h h0
    · omega
  refine (Nat.log2_eq_iff hne).2 ⟨?_, ?_⟩
  · rw [Nat.pow_add]
    exact Nat.mul_le_mul_right _ (Nat.log2_self_le h)
  · rw [show m.log2 + p + 1 = (m.log2 + 1) + p from by omega, Nat.pow_add]
    exact Nat.mul_lt_mul_of_pos_right Nat.lt_log2_self hp

/-- the significand of a whole number: 53 digits. -/
def sig (N : Nat) : Nat := N * 2 ^ 52 / 2 ^ N.log2
/-- the rung of a whole number. -/
def rung (N : Nat) : Nat := if N = 0 then 0 else (N.log2 + 1022) * 2 ^ 52 + sig N

theorem log2_le53 {N : Nat} (h : N ≤ 2 ^ 53) : N.log2 ≤ 53 := by
  by_cases h0 : N = 0
  · subst h0; decide
  · have := (Nat.log2_lt h0 (k := 54)).2 (by have : (2:Nat)^53 < 2^54 := by decide
                                             omega)
    omega

theorem sig_mul {N : Nat} (h0 : N ≠ 0) (h : N ≤ 2 ^ 53) : sig N * 2 ^ N.log2 = N * 2 ^ 52 := by
  have hl := log2_le53 h
  unfold sig
  refine Nat.div_mul_cancel ?_
  by_cases h52 : N.log2 ≤ 52
  · exact Nat.dvd_trans (Nat.pow_dvd_pow 2 h52) (Nat.dvd_mul_left _ _)
  · have e : N.log2 = 53 := by omega
    have h1 := Nat.log2_self_le h0
    rw [e] at h1
    have e2 : N = 2 ^ 53 := by omega
    rw [e, e2]
    exact Nat.dvd_mul_right _ _

theorem sig_bd {N : Nat} (h0 : N ≠ 0) (h : N ≤ 2 ^ 53) : 2 ^ 52 ≤ sig N ∧ sig N < 2 ^ 53 := by
  have hm := sig_mul h0 h
  have h1 := Nat.log2_self_le h0
  have h2 : N < 2 ^ (N.log2 + 1) := Nat.lt_log2_self
  have hp : 0 < 2 ^ N.log2 := Nat.two_pow_pos _
  rw [Nat.pow_succ] at h2
  generalize 2 ^ N.log2 = P at *
  constructor
  · refine Nat.le_of_mul_le_mul_right ?_ hp
    rw [hm, Nat.mul_comm]; exact Nat.mul_le_mul_right _ h1
  · refine Nat.lt_of_mul_lt_mul_right (a := P) ?_
    rw [hm]
    have : N * 2 ^ 52 < P * 2 * 2 ^ 52 := Nat.mul_lt_mul_of_pos_right h2 (by decide)
    have e : P * 2 * 2 ^ 52 = 2 ^ 53 * P := by rw [Nat.mul_assoc, Nat.mul_comm]
    omega

theorem rung_lt {N : Nat} (h : N ≤ 2 ^ 53) : rung N < 2047 * 2 ^ 52 := by
  by_cases h0 : N = 0
  · simp [rung, h0]
  · have := sig_bd h0 h
    have := log2_le53 h
    simp only [rung, h0, if_false]
    omega

/-- 'mag * 2 ^ place = N'. -/
def Val (mag : Nat) (place : Int) (N : Nat) : Prop := ∃ K : Nat, 0 ≤ place + K ∧ mag * 2 ^ (place + K).toNat = N * 2 ^ K

theorem Val.more {mag : Nat} {place : Int} {N : Nat} (h : Val mag place N) : ∃ K0 : Nat, ∀ K, K0 ≤ K → 0 ≤ place + K ∧ mag * 2 ^ (place + K).toNat = N * 2 ^ K := by
  obtain ⟨K, h1, h2⟩ := h
  refine ⟨K, fun J hJ => ⟨by omega, ?_⟩⟩
  rw [show (place + (J : Int)).toNat = (place + (K : Int)).toNat + (J - K) from by omega, Nat.pow_add, ← Nat.mul_assoc, h2, Nat.mul_assoc, ← Nat.pow_add, show K + (J - K) = J from by omega]

theorem Val.zero_iff {mag : Nat} {place : Int} {N : Nat} (h : Val mag place N) : mag = 0 ↔ N = 0 := by
  obtain ⟨K, h1, h2⟩ := h
  have a : 0 < 2 ^ (place + (K : Int)).toNat := Nat.two_pow_pos _
  have b : 0 < 2 ^ K := Nat.two_pow_pos _
  constructor
  · intro e; subst e; rw [Nat.zero_mul] at h2
    rcases Nat.mul_eq_zero.1 h2.symm with h | h <;> omega
  · intro e; subst e; rw [Nat.zero_mul] at h2
    rcases Nat.mul_eq_zero.1 h2 with h | h <;> omega

theorem Val.log2 {mag : Nat} {place : Int} {N : Nat} (h : Val mag place N) (h0 : N ≠ 0) : place + mag.log2 = N.log2 := by
  have hm : mag ≠ 0 := fun e => h0 (h.zero_iff.1 e)
  obtain ⟨K, h1, h2⟩ := h
  have := congrArg Nat.log2 h2
  rw [log2_mul_two_pow _ _ hm, log2_mul_two_pow _ _ h0] at this
  omega

theorem pow_cancel {a b c : Nat} (h : a * 2 ^ c = b * 2 ^ c) : a = b :=
  Nat.eq_of_mul_eq_mul_right (Nat.two_pow_pos c) h

/-- what a number that is whole and not too great is rounded to. -/
theorem nearest_whole (neg : Bool) {mag : Nat} {place : Int} {N : Nat} (h : Val mag place N) (hN : N ≤ 2 ^ 53) : double.nearest neg mag place = double.word neg (rung N) := by
  by_cases h0 : N = 0
  · have : mag = 0 := h.zero_iff.2 h0
    simp [Format.nearest, this, rung, h0]
  have hm : mag ≠ 0 := fun e => h0 (h.zero_iff.1 e)
  have hlog := h.log2 h0
  have hL := log2_le53 hN
  have hsig := sig_mul h0 hN
  have hbd := sig_bd h0 hN
  have hlast : max (place + mag.log2 - (double.fractionBits : Int)) double.leastPlace = (N.log2 : Int) - 52 := by
    rw [hlog]
    have e1 : (double.fractionBits : Int) = 52 := rfl
    have e2 : double.leastPlace = -1074 := by decide
    rw [e1, e2]; omega
  have hkept : Toward.even.cut neg (mag <<< (place - ((N.log2 : Int) - 52)).toNat) (((N.log2 : Int) - 52) - place).toNat = sig N := by
    obtain ⟨K, h1, h2⟩ := h
    by_cases hle : (N.log2 : Int) - 52 ≤ place
    · obtain ⟨s, hs⟩ : ∃ s : Nat, place - ((N.log2 : Int) - 52) = s := ⟨_, (Int.toNat_of_nonneg (by omega)).symm⟩
      have hd : (((N.log2 : Int) - 52) - place).toNat = 0 := by omega
      rw [hs, hd, shl, Int.toNat_natCast]
      have e : mag * 2 ^ s = sig N := by
        refine pow_cancel (c := N.log2 + K) ?_
        have hh : mag * 2 ^ s * 2 ^ (N.log2 + K) = mag * 2 ^ (place + (K : Int)).toNat * 2 ^ 52 := by
          rw [Nat.mul_assoc, Nat.mul_assoc, ← Nat.pow_add, ← Nat.pow_add]
          congr 2
          omega
        rw [hh, h2, Nat.pow_add, ← Nat.mul_assoc (sig N), hsig, Nat.mul_assoc, Nat.mul_assoc, Nat.mul_comm (2 ^ K)]
      rw [e]
      have hg : (1 : Nat) <<< min 0 ((sig N).log2 + 2) = 1 := by simp
      simp only [Toward.cut]
      rw [hg]
      simp [Nat.mod_one]
    · obtain ⟨d, hd⟩ : ∃ d : Nat, ((N.log2 : Int) - 52) - place = d := ⟨_, (Int.toNat_of_nonneg (by omega)).symm⟩
      have hz : (place - ((N.log2 : Int) - 52)).toNat = 0 := by omega
      rw [hd, hz, Int.toNat_natCast, shl, Nat.pow_zero, Nat.mul_one]
      have e : mag = sig N * 2 ^ d := by
        refine pow_cancel (c := (place + K).toNat) ?_
        rw [h2]
        refine pow_cancel (c := 52) ?_
        rw [Nat.mul_assoc N, Nat.mul_comm (2 ^ K), ← Nat.mul_assoc N, ← hsig]
        rw [Nat.mul_assoc, Nat.mul_assoc, Nat.mul_assoc, ← Nat.pow_add, ← Nat.pow_add, ← Nat.pow_add]
        congr 2
        omega
      have hmin : min d (mag.log2 + 2) = d := by omega
      simp only [Toward.cut]
      rw [hmin, shl, Nat.one_mul, e]
      have hp : 0 < 2 ^ d := Nat.two_pow_pos d
      rw [Nat.mul_div_cancel _ hp, Nat.mul_mod_left]
      have e0 : (2 ^ d == 2 * 0) = false := by simp
      simp
  have hdef : double.nearest neg mag place = double.word neg (min (((max (place + mag.log2 - (double.fractionBits : Int)) double.leastPlace) - double.leastPlace).toNat * double.binade + Toward.even.cut neg (mag <<< (place - (max (place + mag.log2 - (double.fractionBits : Int)) double.leastPlace)).toNat) ((max (place + mag.log2 - (double.fractionBits : Int)) double.leastPlace) - place).toNat) double.infRung) := by
    simp [Format.nearest, hm]
  rw [hdef, hlast, hkept]
  have e2 : double.leastPlace = -1074 := by decide
  have e3 : double.binade = 2 ^ 52 := rfl
  have e4 : double.infRung = 2047 * 2 ^ 52 := by decide
  rw [e2, e3, e4, show ((N.log2 : Int) - 52 - -1074).toNat = N.log2 + 1022 from by omega]
  have : rung N = (N.log2 + 1022) * 2 ^ 52 + sig N := by simp [rung, h0]
  rw [← this, Nat.min_eq_left (Nat.le_of_lt (rung_lt hN))]

/-- a datum that is a whole number, with a sign. -/
def Is (d : Datum) (s : Bool) (N : Nat) : Prop := ∃ mag place, d = .number s mag place ∧ Val mag place N

theorem read_word (s : Bool) {N : Nat} (h : N ≤ 2 ^ 53) : Is (double.read (double.word s (rung N))) s N := by
  have hr := rung_lt h
  have e0 : double.signWeight = 2 ^ 63 := rfl
  have e3 : double.binade = 2 ^ 52 := rfl
  have e4 : double.infRung = 2047 * 2 ^ 52 := by decide
  have e2 : double.leastPlace = -1074 := by decide
  have h1 : (double.word s (rung N) / 2 ^ 63 % 2 == 1) = s := by
    cases s
    · simp only [Format.word, Bool.false_eq_true, if_false]
      rw [Nat.div_eq_of_lt (by omega)]; rfl
    · simp only [Format.word, if_true, e0]
      rw [show (2 ^ 63 + rung N) / 2 ^ 63 = 1 from by omega]; rfl
  have h2 : double.word s (rung N) % 2 ^ 63 = rung N := by
    cases s
    · simp only [Format.word, Bool.false_eq_true, if_false]; omega
    · simp only [Format.word, if_true, e0]; omega
  unfold Format.read
  simp only [e0, e3, e4, e2, h1, h2]
  by_cases h0 : N = 0
  · subst h0
    have : rung 0 = 0 := rfl
    rw [this, if_pos (by decide)]
    have hv : ∀ p, Val 0 p 0 := fun p => ⟨(-p).toNat, by omega, (Nat.zero_mul _).trans (Nat.zero_mul _).symm⟩
    exact ⟨0, -1074, rfl, hv _⟩
  · have hb := sig_bd h0 h
    have hs := sig_mul h0 h
    have hl := log2_le53 h
    have hu : rung N = (N.log2 + 1022) * 2 ^ 52 + sig N := by simp [rung, h0]
    rw [if_neg (by omega), if_pos hr]
    refine ⟨_, _, rfl, ?_⟩
    have ed : rung N / 2 ^ 52 = N.log2 + 1023 := by omega
    have em : 2 ^ 52 + rung N % 2 ^ 52 = sig N := by omega
    rw [em, ed]
    have hv : Val (sig N) (-1074 + ((N.log2 + 1023 - 1 : Nat) : Int)) N := by
      refine ⟨52, by omega, ?_⟩
      have e : ((-1074 + ((N.log2 + 1023 - 1 : Nat) : Int)) + ((52 : Nat) : Int)).toNat = N.log2 := by omega
      rw [e]
      exact hs
    exact hv

/-- the bits x stand for the whole number n; a nought may have a sign. -/
def FW (x : Nat) (n : Int) : Prop := ∃ s : Bool, x = double.word s (rung n.natAbs) ∧ (n ≠ 0 → s = decide (n < 0))
/-- the bits of a whole number, the nought without a sign. -/
def F (n : Int) : Nat := FloatKind.f64.nearest n

theorem F_eq {n : Int} (h : n.natAbs ≤ 2 ^ 53) : F n = double.word (decide (n < 0)) (rung n.natAbs) := by
  show double.nearest (decide (n < 0)) n.natAbs 0 = _
  exact nearest_whole _ ⟨0, by decide, by simp⟩ h

theorem FW_F {n : Int} (h : n.natAbs ≤ 2 ^ 53) : FW (F n) n := ⟨_, F_eq h, fun _ => rfl⟩

theorem FW_lt {x : Nat} {n : Int} (h : FW x n) (hn : n.natAbs ≤ 2 ^ 53) : x < 2 ^ 64 := by
  obtain ⟨s, rfl, _⟩ := h
  have := rung_lt hn
  have e0 : double.signWeight = 2 ^ 63 := rfl
  cases s <;> simp only [Format.word, e0, Bool.false_eq_true, if_false, if_true] <;> omega

/-- the signed number of a datum that is whole. -/
def sgn (s : Bool) (N : Nat) : Int := if s then -(N : Int) else N

theorem FW_sgn {x : Nat} {n : Int} (h : FW x n) (hn : n.natAbs ≤ 2 ^ 53) : ∃ s, Is (double.read x) s n.natAbs ∧ sgn s n.natAbs = n := by
  obtain ⟨s, rfl, hs⟩ := h
  refine ⟨s, read_word s hn, ?_⟩
  by_cases h0 : n = 0
  · subst h0; cases s <;> rfl
  · rw [hs h0]
    by_cases hneg : n < 0
    · simp [sgn, hneg]; omega
    · simp [sgn, hneg]; omega

theorem signed_eq (s : Bool) (m up : Nat) : signed s m up = sgn s m * 2 ^ up := by
  unfold signed sgn
  rw [shl]
  cases s
  · simp
  · simp [Int.neg_mul]

theorem sgn_mul (s : Bool) (m k : Nat) : sgn s (m * k) = sgn s m * k := by
  cases s <;> simp [sgn, Int.neg_mul]

theorem sum_whole {d e : Datum} {s t : Bool} {A B : Nat} (hd : Is d s A) (he : Is e t B) :
    ∃ f, d.sum e = some f ∧ Is f (if sgn s A + sgn t B = 0 then s && t else decide (sgn s A + sgn t B < 0)) (sgn s A + sgn t B).natAbs := by
  obtain ⟨m, i, rfl, hv⟩ := hd
  obtain ⟨n, j, rfl, hw⟩ := he
  obtain ⟨K1, h1⟩ := hv.more
  obtain ⟨K2, h2⟩ := hw.more
  obtain ⟨K, hK1, hK2⟩ : ∃ K : Nat, K1 ≤ K ∧ K2 ≤ K := ⟨K1 + K2, by omega, by omega⟩
  obtain ⟨a1, a2⟩ := h1 K hK1
  obtain ⟨b1, b2⟩ := h2 K hK2
  refine ⟨_, rfl, ?_⟩
  generalize hb : min i j = base
  have hbK : 0 ≤ base + K := by omega
  -- the total, scaled
  have key : (signed s m (i - base).toNat + signed t n (j - base).toNat) * (2 ^ (base + K).toNat : Nat) = (sgn s A + sgn t B) * (2 ^ K : Nat) := by
    rw [Int.add_mul, Int.add_mul, signed_eq, signed_eq]
    have x1 : sgn s m * 2 ^ (i - base).toNat * (2 ^ (base + K).toNat : Nat) = sgn s A * (2 ^ K : Nat) := by
      rw [← sgn_mul s A, ← a2, sgn_mul, Int.mul_assoc]
      congr 1
      rw [show (i + (K : Int)).toNat = (i - base).toNat + (base + K).toNat from by omega, Nat.pow_add, Int.natCast_mul]
      congr 1
    have x2 : sgn t n * 2 ^ (j - base).toNat * (2 ^ (base + K).toNat : Nat) = sgn t B * (2 ^ K : Nat) := by
      rw [← sgn_mul t B, ← b2, sgn_mul, Int.mul_assoc]
      congr 1
      rw [show (j + (K : Int)).toNat = (j - base).toNat + (base + K).toNat from by omega, Nat.pow_add, Int.natCast_mul]
      congr 1
    rw [x1, x2]
  generalize signed s m (i - base).toNat + signed t n (j - base).toNat = T at *
  generalize sgn s A + sgn t B = S at *
  have p1 : (0 : Int) < (2 ^ (base + K).toNat : Nat) := by exact_mod_cast Nat.two_pow_pos _
  have p2 : (0 : Int) < (2 ^ K : Nat) := by exact_mod_cast Nat.two_pow_pos _
  have hz : T = 0 ↔ S = 0 := by
    constructor
    · intro h; rw [h, Int.zero_mul] at key
      rcases Int.mul_eq_zero.1 key.symm with h | h <;> omega
    · intro h; rw [h, Int.zero_mul] at key
      rcases Int.mul_eq_zero.1 key with h | h <;> omega
  have hneg : T < 0 ↔ S < 0 := by
    constructor
    · intro h
      have := Int.mul_neg_of_neg_of_pos h p1
      rw [key, Int.mul_comm] at this
      exact Int.neg_of_mul_neg_right this (by omega)
    · intro h
      have := Int.mul_neg_of_neg_of_pos h p2
      rw [← key, Int.mul_comm] at this
      exact Int.neg_of_mul_neg_right this (by omega)
  refine ⟨T.natAbs, base, ?_, K, hbK, ?_⟩
  · by_cases h0 : S = 0
    · simp [hz.2 h0, h0]
    · have : T ≠ 0 := fun h => h0 (hz.1 h)
      simp only [this, h0, if_false]
      congr 1
      by_cases hn : S < 0
      · simp [hn, hneg.2 hn]
      · have : ¬ T < 0 := fun h => hn (hneg.1 h)
        simp [hn, this]
  · have := congrArg Int.natAbs key
    rw [Int.natAbs_mul, Int.natAbs_mul, Int.natAbs_natCast, Int.natAbs_natCast] at this
    exact this


theorem product_whole {d e : Datum} {s t : Bool} {A B : Nat} (hd : Is d s A) (he : Is e t B) :
    ∃ f, d.product e = some f ∧ Is f (s ^^ t) (A * B) := by
  obtain ⟨m, i, rfl, K1, h1, h2⟩ := hd
  obtain ⟨n, j, rfl, K2, h3, h4⟩ := he
  refine ⟨_, rfl, m * n, i + j, rfl, K1 + K2, by omega, ?_⟩
  rw [show (i + j + ((K1 + K2 : Nat) : Int)).toNat = (i + (K1 : Int)).toNat + (j + (K2 : Int)).toNat from by omega, Nat.pow_add, Nat.pow_add]
  calc m * n * (2 ^ (i + (K1 : Int)).toNat * 2 ^ (j + (K2 : Int)).toNat) = (m * 2 ^ (i + (K1 : Int)).toNat) * (n * 2 ^ (j + (K2 : Int)).toNat) := by ac_rfl
    _ = A * B * (2 ^ K1 * 2 ^ K2) := by rw [h2, h4]; ac_rfl

theorem write_whole {d : Datum} {s : Bool} {N : Nat} (h : Is d s N) (hN : N ≤ 2 ^ 53) : double.write d = double.word s (rung N) := by
  obtain ⟨m, i, rfl, hv⟩ := h
  exact nearest_whole s hv hN

theorem sgn_natAbs (s : Bool) (N : Nat) : (sgn s N).natAbs = N := by cases s <;> simp [sgn]

theorem add_bits {x y : Nat} {s t : Bool} {A B : Nat} (hx : Is (double.read x) s A) (hy : Is (double.read y) t B) (h : (sgn s A + sgn t B).natAbs ≤ 2 ^ 53) :
    floatBits .add .f64 x y = some (double.word (if sgn s A + sgn t B = 0 then s && t else decide (sgn s A + sgn t B < 0)) (rung (sgn s A + sgn t B).natAbs)) := by
  obtain ⟨f, hf, hI⟩ := sum_whole hx hy
  show ((double.read x).sum (double.read y)).map double.write = _
  rw [hf, Option.map_some, write_whole hI h]

theorem opposite_is {d : Datum} {s : Bool} {A : Nat} (h : Is d s A) : Is d.opposite (!s) A := by
  obtain ⟨m, i, rfl, hv⟩ := h
  exact ⟨m, i, rfl, hv⟩

theorem sgn_not (s : Bool) (N : Nat) : sgn (!s) N = - sgn s N := by cases s <;> simp [sgn]

theorem sub_bits {x y : Nat} {s t : Bool} {A B : Nat} (hx : Is (double.read x) s A) (hy : Is (double.read y) t B) (h : (sgn s A - sgn t B).natAbs ≤ 2 ^ 53) :
    floatBits .sub .f64 x y = some (double.word (if sgn s A - sgn t B = 0 then s && !t else decide (sgn s A - sgn t B < 0)) (rung (sgn s A - sgn t B).natAbs)) := by
  obtain ⟨f, hf, hI⟩ := sum_whole hx (opposite_is hy)
  have e : sgn s A + sgn (!t) B = sgn s A - sgn t B := by rw [sgn_not]; omega
  rw [e] at hI
  show ((double.read x).sum (double.read y).opposite).map double.write = _
  rw [hf, Option.map_some, write_whole hI h]

theorem add_FW {x y : Nat} {a b : Int} (hx : FW x a) (hy : FW y b) (ha : a.natAbs ≤ 2 ^ 53) (hb : b.natAbs ≤ 2 ^ 53) (h : (a + b).natAbs ≤ 2 ^ 53) :
    ∃ r, floatBits .add .f64 x y = some r ∧ FW r (a + b) := by
  obtain ⟨s, hs, es⟩ := FW_sgn hx ha
  obtain ⟨t, ht, et⟩ := FW_sgn hy hb
  have := add_bits hs ht (by rw [es, et]; exact h)
  rw [es, et] at this
  exact ⟨_, this, _, rfl, fun h0 => by simp [h0]⟩

theorem sub_FW {x y : Nat} {a b : Int} (hx : FW x a) (hy : FW y b) (ha : a.natAbs ≤ 2 ^ 53) (hb : b.natAbs ≤ 2 ^ 53) (h : (a - b).natAbs ≤ 2 ^ 53) :
    ∃ r, floatBits .sub .f64 x y = some r ∧ FW r (a - b) := by
  obtain ⟨s, hs, es⟩ := FW_sgn hx ha
  obtain ⟨t, ht, et⟩ := FW_sgn hy hb
  have := sub_bits hs ht (by rw [es, et]; exact h)
  rw [es, et] at this
  exact ⟨_, this, _, rfl, fun h0 => by simp [h0]⟩

theorem mul_FW {x y : Nat} {a b : Int} (hx : FW x a) (hy : FW y b) (ha : a.natAbs ≤ 2 ^ 53) (hb : b.natAbs ≤ 2 ^ 53) (h : (a * b).natAbs ≤ 2 ^ 53) :
    ∃ r, floatBits .mul .f64 x y = some r ∧ FW r (a * b) := by
  obtain ⟨s, hs, es⟩ := FW_sgn hx ha
  obtain ⟨t, ht, et⟩ := FW_sgn hy hb
  obtain ⟨f, hf, hI⟩ := product_whole hs ht
  rw [Int.natAbs_mul] at h
  refine ⟨_, (show ((double.read x).product (double.read y)).map double.write = _ from by rw [hf, Option.map_some, write_whole hI h]), _, by rw [Int.natAbs_mul], fun h0 => ?_⟩
  rw [← es, ← et]
  have hA : 0 < a.natAbs := by
    apply Nat.pos_of_ne_zero; intro e; apply h0; rw [Int.natAbs_eq_zero.1 e, Int.zero_mul]
  have hB : 0 < b.natAbs := by
    apply Nat.pos_of_ne_zero; intro e; apply h0; rw [Int.natAbs_eq_zero.1 e, Int.mul_zero]
  generalize a.natAbs = A at hA
  generalize b.natAbs = B at hB
  have hp : (0 : Int) < (A : Int) * B := Int.mul_pos (by omega) (by omega)
  cases s <;> cases t <;> simp [sgn, Int.neg_mul, Int.mul_neg] <;> omega

/-- of noughts without a sign come noughts without a sign. -/
theorem add_F {a b : Int} (ha : a.natAbs ≤ 2 ^ 53) (hb : b.natAbs ≤ 2 ^ 53) (h : (a + b).natAbs ≤ 2 ^ 53) : floatBits .add .f64 (F a) (F b) = some (F (a + b)) := by
  have hs : Is (double.read (F a)) (decide (a < 0)) a.natAbs := by rw [F_eq ha]; exact read_word _ ha
  have ht : Is (double.read (F b)) (decide (b < 0)) b.natAbs := by rw [F_eq hb]; exact read_word _ hb
  have es : sgn (decide (a < 0)) a.natAbs = a := by by_cases hn : a < 0 <;> simp [sgn, hn] <;> omega
  have et : sgn (decide (b < 0)) b.natAbs = b := by by_cases hn : b < 0 <;> simp [sgn, hn] <;> omega
  have := add_bits hs ht (by rw [es, et]; exact h)
  rw [es, et] at this
  rw [this, F_eq h]
  congr 2
  by_cases h0 : a + b = 0
  · rw [if_pos h0, h0]
    by_cases h1 : a < 0
    · have : ¬ b < 0 := by omega
      simp [this]
    · simp [h1]
  · rw [if_neg h0]

theorem sub_F {a b : Int} (ha : a.natAbs ≤ 2 ^ 53) (hb : b.natAbs ≤ 2 ^ 53) (h : (a - b).natAbs ≤ 2 ^ 53) : floatBits .sub .f64 (F a) (F b) = some (F (a - b)) := by
  have hs : Is (double.read (F a)) (decide (a < 0)) a.natAbs := by rw [F_eq ha]; exact read_word _ ha
  have ht : Is (double.read (F b)) (decide (b < 0)) b.natAbs := by rw [F_eq hb]; exact read_word _ hb
  have es : sgn (decide (a < 0)) a.natAbs = a := by by_cases hn : a < 0 <;> simp [sgn, hn] <;> omega
  have et : sgn (decide (b < 0)) b.natAbs = b := by by_cases hn : b < 0 <;> simp [sgn, hn] <;> omega
  have := sub_bits hs ht (by rw [es, et]; exact h)
  rw [es, et] at this
  rw [this, F_eq h]
  congr 2
  by_cases h0 : a - b = 0
  · rw [if_pos h0, h0]
    by_cases h1 : a < 0
    · have : b < 0 := by omega
      simp [this]
    · simp [h1]
  · rw [if_neg h0]

/-- '+ 0' takes a nought's sign away. -/
theorem add_zero_FW {x : Nat} {a : Int} (hx : FW x a) (ha : a.natAbs ≤ 2 ^ 53) : floatBits .add .f64 x (F 0) = some (F a) := by
  obtain ⟨s, hs, es⟩ := FW_sgn hx ha
  have ht : Is (double.read (F 0)) false 0 := by rw [F_eq (by decide)]; exact read_word _ (by decide)
  have h0 : sgn false 0 = 0 := rfl
  have := add_bits hs ht (by rw [es, h0, Int.add_zero]; exact ha)
  rw [es, h0, Int.add_zero] at this
  rw [this, F_eq ha]
  congr 2
  by_cases h0 : a = 0
  · simp [h0]
  · rw [if_neg h0]

theorem xor_top {x : Nat} (h : x < 2 ^ 63) : x ^^^ 2 ^ 63 = 2 ^ 63 + x := by
  have e := Nat.two_pow_add_eq_or_of_lt h 1
  rw [Nat.mul_one] at e
  rw [e]
  apply Nat.eq_of_testBit_eq
  intro i
  rw [Nat.testBit_xor, Nat.testBit_or]
  by_cases hi : i < 63
  · have : (2 ^ 63).testBit i = false := by rw [Nat.testBit_two_pow]; simp; omega
    rw [this]; simp
  · have : x.testBit i = false := Nat.testBit_lt_two_pow (Nat.lt_of_lt_of_le h (Nat.pow_le_pow_right (by decide) (by omega)))
    rw [this]; simp

theorem neg_word (s : Bool) {N : Nat} (h : N ≤ 2 ^ 53) : Op.negFloat .f64 (double.word s (rung N)) = double.word (!s) (rung N) := by
  have hr := rung_lt h
  have e0 : double.signWeight = 2 ^ 63 := rfl
  have hl : rung N < 2 ^ 63 := by omega
  have hx := xor_top hl
  show double.word s (rung N) ^^^ 2 ^ 63 = _
  cases s
  · simp only [Format.word, e0, Bool.false_eq_true, if_false, Bool.not_false, if_true]
    exact hx
  · simp only [Format.word, e0, if_true, Bool.not_true, Bool.false_eq_true, if_false]
    rw [← hx, Nat.xor_assoc, Nat.xor_self, Nat.xor_zero]

theorem neg_FW {x : Nat} {a : Int} (hx : FW x a) (ha : a.natAbs ≤ 2 ^ 53) : FW (Op.negFloat .f64 x) (-a) := by
  obtain ⟨s, rfl, hs⟩ := hx
  refine ⟨!s, ?_, fun h0 => ?_⟩
  · rw [neg_word s ha, Int.natAbs_neg]
  · have h1 : a ≠ 0 := by omega
    rw [hs h1]
    by_cases h2 : a < 0
    · have : decide (-a < 0) = false := decide_eq_false (by omega)
      rw [this, decide_eq_true h2]; rfl
    · have : decide (-a < 0) = true := decide_eq_true (by omega)
      rw [this, decide_eq_false h2]; rfl

theorem compare_int (a b : Int) : compare a b = if a < b then .lt else if a = b then .eq else .gt := rfl

theorem order_scaled (s t : Bool) (m n : Nat) (i j : Int) (K : Nat) (hi : 0 ≤ i + K) (hj : 0 ≤ j + K) :
    (Datum.number s m i).order (.number t n j) = some (compare (sgn s m * 2 ^ (i + (K : Int)).toNat) (sgn t n * 2 ^ (j + (K : Int)).toNat)) := by
  show some (compare (signed s m (i - min i j).toNat) (signed t n (j - min i j).toNat)) = _
  generalize hb : min i j = base
  have hbK : 0 ≤ base + K := by omega
  rw [signed_eq, signed_eq]
  have e1 : sgn s m * 2 ^ (i + (K : Int)).toNat = sgn s m * 2 ^ (i - base).toNat * 2 ^ (base + (K : Int)).toNat := by
    rw [Int.mul_assoc, ← Int.pow_add]; congr 2; omega
  have e2 : sgn t n * 2 ^ (j + (K : Int)).toNat = sgn t n * 2 ^ (j - base).toNat * 2 ^ (base + (K : Int)).toNat := by
    rw [Int.mul_assoc, ← Int.pow_add]; congr 2; omega
  rw [e1, e2]
  generalize sgn s m * 2 ^ (i - base).toNat = X
  generalize sgn t n * 2 ^ (j - base).toNat = Y
  have hp : (0 : Int) < 2 ^ (base + (K : Int)).toNat := Int.pow_pos (by decide)
  generalize (2 : Int) ^ (base + (K : Int)).toNat = P at *
  congr 1
  rw [compare_int, compare_int]
  have c1 : X * P < Y * P ↔ X < Y := ⟨fun h => Int.lt_of_mul_lt_mul_right h (Int.le_of_lt hp), fun h => Int.mul_lt_mul_of_pos_right h hp⟩
  have c2 : X * P = Y * P ↔ X = Y := ⟨fun h => Int.eq_of_mul_eq_mul_right (by omega) h, fun h => by rw [h]⟩
  simp only [c1, c2]

theorem order_is {d e : Datum} {s t : Bool} {A B : Nat} (hd : Is d s A) (he : Is e t B) : d.order e = some (compare (sgn s A) (sgn t B)) := by
  obtain ⟨m, i, rfl, hv⟩ := hd
  obtain ⟨n, j, rfl, hw⟩ := he
  obtain ⟨K1, h1⟩ := hv.more
  obtain ⟨K2, h2⟩ := hw.more
  obtain ⟨K, hK1, hK2⟩ : ∃ K : Nat, K1 ≤ K ∧ K2 ≤ K := ⟨K1 + K2, by omega, by omega⟩
  obtain ⟨a1, a2⟩ := h1 K hK1
  obtain ⟨b1, b2⟩ := h2 K hK2
  rw [order_scaled s t m n i j K a1 b1]
  have e1 : sgn s m * 2 ^ (i + (K : Int)).toNat = sgn s A * 2 ^ K := by
    have := sgn_mul s m (2 ^ (i + (K : Int)).toNat)
    rw [a2, sgn_mul] at this
    simpa using this.symm
  have e2 : sgn t n * 2 ^ (j + (K : Int)).toNat = sgn t B * 2 ^ K := by
    have := sgn_mul t n (2 ^ (j + (K : Int)).toNat)
    rw [b2, sgn_mul] at this
    simpa using this.symm
  rw [e1, e2]
  have hp : (0 : Int) < 2 ^ K := Int.pow_pos (by decide)
  generalize (2 : Int) ^ K = P at *
  generalize sgn s A = X
  generalize sgn t B = Y
  congr 1
  rw [compare_int, compare_int]
  have c1 : X * P < Y * P ↔ X < Y := ⟨fun h => Int.lt_of_mul_lt_mul_right h (Int.le_of_lt hp), fun h => Int.mul_lt_mul_of_pos_right h hp⟩
  have c2 : X * P = Y * P ↔ X = Y := ⟨fun h => Int.eq_of_mul_eq_mul_right (by omega) h, fun h => by rw [h]⟩
  simp only [c1, c2]

theorem order_FW {x y : Nat} {a b : Int} (hx : FW x a) (hy : FW y b) (ha : a.natAbs ≤ 2 ^ 53) (hb : b.natAbs ≤ 2 ^ 53) : double.order x y = some (compare a b) := by
  obtain ⟨s, hs, es⟩ := FW_sgn hx ha
  obtain ⟨t, ht, et⟩ := FW_sgn hy hb
  have := order_is hs ht
  rw [es, et] at this
  exact this

/-- the whole part, towards nought. -/
theorem toInt_is {d : Datum} {s : Bool} {N : Nat} (h : Is d s N) : d.toInt .zero = some (sgn s N) := by
  obtain ⟨m, i, rfl, hv⟩ := h
  have key : Toward.zero.cut s (m <<< i.toNat) (-i).toNat = N := by
    by_cases h0 : N = 0
    · have : m = 0 := hv.zero_iff.2 h0
      subst this; subst h0
      simp [Toward.cut, shl]
    · have hlog := hv.log2 h0
      have hm : m ≠ 0 := fun e => h0 (hv.zero_iff.1 e)
      obtain ⟨K, h1, h2⟩ := hv
      by_cases hi : 0 ≤ i
      · have e1 : (-i).toNat = 0 := by omega
        rw [e1]
        have e2 : m * 2 ^ i.toNat = N := by
          refine pow_cancel (c := K) ?_
          rw [Nat.mul_assoc, ← Nat.pow_add, ← h2]
          congr 2; omega
        rw [shl, e2]
        simp [Toward.cut]
      · have e1 : i.toNat = 0 := by omega
        obtain ⟨d, hd⟩ : ∃ d : Nat, i = -(d : Int) := ⟨(-i).toNat, by omega⟩
        subst hd
        have e2 : (-(-(d : Int))).toNat = d := by omega
        rw [e1, e2, shl, Nat.pow_zero, Nat.mul_one]
        have e3 : m = N * 2 ^ d := by
          refine pow_cancel (c := (-(d : Int) + (K : Int)).toNat) ?_
          rw [h2, Nat.mul_assoc, ← Nat.pow_add]
          congr 2; omega
        have hmin : min d (m.log2 + 2) = d := by omega
        have hp : 0 < 2 ^ d := Nat.two_pow_pos d
        simp only [Toward.cut]
        rw [hmin, shl, Nat.one_mul, e3, Nat.mul_div_cancel _ hp]
        rfl
  show (match Datum.number s (Toward.zero.cut s (m <<< i.toNat) (-i).toNat) 0 with | .number s m _ => some (signed s m 0) | _ => none) = _
  rw [key]
  show some (signed s N 0) = _
  rw [signed_eq]; simp

theorem toInt_FW {x : Nat} {a : Int} (hx : FW x a) (ha : a.natAbs ≤ 2 ^ 53) : (FloatKind.f64.decode x).toInt .zero = some a := by
  obtain ⟨s, hs, es⟩ := FW_sgn hx ha
  have := toInt_is hs
  rw [es] at this
  exact this


/-- whatever datum it is: equal to a whole number, it is one. -/
theorem is_of_order {d e : Datum} {t : Bool} {B : Nat} (he : Is e t B) (h : d.order e = some .eq) : ∃ s, Is d s B ∧ sgn s B = sgn t B := by
  obtain ⟨n, j, rfl, hw⟩ := he
  match d, h with
  | .number s m i, h =>
    obtain ⟨K0, h2⟩ := hw.more
    obtain ⟨K, hK1, hK2⟩ : ∃ K : Nat, K0 ≤ K ∧ 0 ≤ i + K := ⟨K0 + (-i).toNat, by omega, by omega⟩
    obtain ⟨b1, b2⟩ := h2 K hK1
    rw [order_scaled s t m n i j K hK2 b1] at h
    have e2 : sgn t n * 2 ^ (j + (K : Int)).toNat = sgn t B * 2 ^ K := by
      have := sgn_mul t n (2 ^ (j + (K : Int)).toNat)
      rw [b2, sgn_mul] at this
      simpa using this.symm
    have heq : sgn s m * 2 ^ (i + (K : Int)).toNat = sgn t B * 2 ^ K := by
      rw [← e2]
      have h' := Option.some.inj h
      rw [compare_int] at h'
      split at h'
      · cases h'
      · split at h'
        · assumption
        · cases h'
    have hv : Val m i B := by
      refine ⟨K, hK2, ?_⟩
      have := congrArg Int.natAbs heq
      rw [Int.natAbs_mul, Int.natAbs_mul, sgn_natAbs, sgn_natAbs, Int.natAbs_pow, Int.natAbs_pow] at this
      exact this
    refine ⟨s, ⟨m, i, rfl, hv⟩, ?_⟩
    have e1 : sgn s m * 2 ^ (i + (K : Int)).toNat = sgn s B * 2 ^ K := by
      obtain ⟨K1, h1⟩ := hv.more
      have hv' : m * 2 ^ (i + (K : Int)).toNat = B * 2 ^ K := by
        have := congrArg Int.natAbs heq
        rw [Int.natAbs_mul, Int.natAbs_mul, sgn_natAbs, sgn_natAbs, Int.natAbs_pow, Int.natAbs_pow] at this
        exact this
      have := sgn_mul s m (2 ^ (i + (K : Int)).toNat)
      rw [hv', sgn_mul] at this
      simpa using this.symm
    have hp : (2 : Int) ^ K ≠ 0 := Int.ne_of_gt (Int.pow_pos (by decide))
    exact Int.eq_of_mul_eq_mul_right hp (e1.symm.trans heq)

theorem word_parts (x : Nat) (h : x < 2 ^ 64) : x = double.word (x / 2 ^ 63 % 2 == 1) (x % 2 ^ 63) := by
  have e0 : double.signWeight = 2 ^ 63 := rfl
  have hd := Nat.div_add_mod x (2 ^ 63)
  by_cases hs : x < 2 ^ 63
  · have e1 : x / 2 ^ 63 = 0 := Nat.div_eq_of_lt hs
    rw [e1]
    simp only [Format.word, Nat.zero_mod]
    rw [Nat.mod_eq_of_lt hs]; rfl
  · have e1 : x / 2 ^ 63 = 1 := by omega
    rw [e1]
    simp only [Format.word, e0]
    have : (1 % 2 == 1) = true := rfl
    rw [this, if_pos rfl]; omega

/-- a word that stands for a whole number is that number's. -/
theorem word_of_is {x : Nat} (h : x < 2 ^ 64) {s : Bool} {N : Nat} (hN : N ≤ 2 ^ 53) (hI : Is (double.read x) s N) : x = double.word s (rung N) := by
  have e0 : double.signWeight = 2 ^ 63 := rfl
  have e3 : double.binade = 2 ^ 52 := rfl
  have e4 : double.infRung = 2047 * 2 ^ 52 := by decide
  have e2 : double.leastPlace = -1074 := by decide
  have hw := word_parts x h
  obtain ⟨m, i, hd, hv⟩ := hI
  unfold Format.read at hd
  simp only [e0, e3, e4, e2] at hd
  generalize (x / 2 ^ 63 % 2 == 1) = sg at *
  generalize x % 2 ^ 63 = r at *
  have hlog := fun h0 => hv.log2 h0
  by_cases hN0 : N = 0
  · have hm : m = 0 := hv.zero_iff.2 hN0
    subst hm; subst hN0
    split at hd
    · cases hd; rw [hw]; rfl
    · split at hd
      · injection hd with a b c; omega
      · split at hd <;> cases hd
  · have hl := hlog hN0
    have hb := sig_bd hN0 hN
    have hs := sig_mul hN0 hN
    have hL := log2_le53 hN
    have hm : m ≠ 0 := fun e => hN0 (hv.zero_iff.1 e)
    split at hd
    · rename_i hlt
      injection hd with a b c
      have : m.log2 < 52 := (Nat.log2_lt hm).2 (by omega)
      omega
    · split at hd
      · rename_i h1 h2
        injection hd with a b c
        have hm1 : 2 ^ 52 ≤ m := by omega
        have hm2 : m < 2 ^ 53 := by
          have := Nat.mod_lt r (show 0 < 2 ^ 52 by decide)
          omega
        have hlm : m.log2 = 52 := (Nat.log2_eq_iff hm).2 ⟨hm1, hm2⟩
        have hms : m = sig N := by
          obtain ⟨K, k1, k2⟩ := hv
          refine pow_cancel (c := N.log2 + K) ?_
          have hh : m * 2 ^ (N.log2 + K) = m * 2 ^ (i + (K : Int)).toNat * 2 ^ 52 := by
            rw [Nat.mul_assoc, ← Nat.pow_add]
            congr 2
            omega
          rw [hh, k2, Nat.pow_add, ← Nat.mul_assoc (sig N), hs, Nat.mul_assoc, Nat.mul_assoc, Nat.mul_comm (2 ^ K)]
        have hr : r = rung N := by
          simp only [rung, hN0, if_false]
          have hd := Nat.div_add_mod r (2 ^ 52)
          have : r / 2 ^ 52 = N.log2 + 1023 := by omega
          omega
        rw [hw, a, hr]
      · split at hd <;> cases hd

/-- is the order of x and a whole number 'at most', 'at least'? -/
def leB (o : Option Ordering) : Bool := o == some .lt || o == some .eq
def geB (o : Option Ordering) : Bool := o == some .gt || o == some .eq

theorem FW_of_order {x : Nat} (h : x < 2 ^ 64) {n : Int} (hn : n.natAbs ≤ 2 ^ 53) (he : double.order (F n) x = some .eq ∨ double.order x (F n) = some .eq) : FW x n := by
  obtain ⟨t, ht, et⟩ := FW_sgn (FW_F hn) hn
  have h' : (double.read x).order (double.read (F n)) = some .eq := by
    rcases he with he | he
    · obtain ⟨mm, i, hd, hv⟩ := ht
      have he' : (double.read (F n)).order (double.read x) = some .eq := he
      rw [hd] at he' ⊢
      match hx : double.read x, he' with
      | .number s' m' i', he' =>
        obtain ⟨K, hK1, hK2⟩ : ∃ K : Nat, 0 ≤ i + K ∧ 0 ≤ i' + K := ⟨(-i).toNat + (-i').toNat, by omega, by omega⟩
        rw [order_scaled _ _ _ _ _ _ K hK1 hK2] at he'
        rw [order_scaled _ _ _ _ _ _ K hK2 hK1]
        congr 1
        have h' := Option.some.inj he'
        rw [compare_int] at h' ⊢
        split at h'
        · cases h'
        · split at h'
          · rename_i e; rw [e]; simp
          · cases h'
    · exact he
  obtain ⟨s, hI, es⟩ := is_of_order ht h'
  refine ⟨s, word_of_is h hn hI, fun h0 => ?_⟩
  rw [et] at es
  cases s
  · simp only [sgn, Bool.false_eq_true, if_false] at es
    exact (decide_eq_false (by omega)).symm
  · simp only [sgn, if_true] at es
    exact (decide_eq_true (by omega)).symm

/-- between two whole numbers: cut towards nought it is a whole number of that size. -/
theorem toInt_between {x : Nat} {M : Nat} (hM : M ≤ 2 ^ 53) (h1 : geB (double.order x (F (-(M : Int)))) = true) (h2 : leB (double.order x (F M)) = true) :
    ∃ t : Int, (FloatKind.f64.decode x).toInt .zero = some t ∧ t.natAbs ≤ M := by
  obtain ⟨s1, i1, e1⟩ := FW_sgn (FW_F (n := -(M : Int)) (by omega)) (by omega)
  obtain ⟨s2, i2, e2⟩ := FW_sgn (FW_F (n := (M : Int)) (by omega)) (by omega)
  have h1' : geB ((double.read x).order (double.read (F (-(M : Int))))) = true := h1
  have h2' : leB ((double.read x).order (double.read (F M))) = true := h2
  show ∃ t : Int, (double.read x).toInt .zero = some t ∧ t.natAbs ≤ M
  obtain ⟨n1, j1, d1, v1⟩ := i1
  obtain ⟨n2, j2, d2, v2⟩ := i2
  rw [d1] at h1'
  rw [d2] at h2'
  match hx : double.read x, h1', h2' with
  | .nan _ _, h1', _ => simp [Datum.order, geB] at h1'
  | .infinity false, _, h2' => simp [Datum.order, leB] at h2'
  | .infinity true, h1', _ => simp [Datum.order, geB] at h1'
  | .number s m i, h1', h2' =>
    obtain ⟨K1, k1⟩ := v1.more
    obtain ⟨K2, k2⟩ := v2.more
    obtain ⟨K, c1, c2, c3⟩ : ∃ K : Nat, K1 ≤ K ∧ K2 ≤ K ∧ 0 ≤ i + K := ⟨K1 + K2 + (-i).toNat, by omega, by omega, by omega⟩
    obtain ⟨a1, a2⟩ := k1 K c1
    obtain ⟨b1, b2⟩ := k2 K c2
    rw [order_scaled _ _ _ _ _ _ K c3 a1] at h1'
    rw [order_scaled _ _ _ _ _ _ K c3 b1] at h2'
    have q1 : sgn s1 n1 * 2 ^ (j1 + (K : Int)).toNat = -(M : Int) * 2 ^ K := by
      have := sgn_mul s1 n1 (2 ^ (j1 + (K : Int)).toNat)
      rw [a2, sgn_mul, e1] at this
      simpa using this.symm
    have q2 : sgn s2 n2 * 2 ^ (j2 + (K : Int)).toNat = (M : Int) * 2 ^ K := by
      have := sgn_mul s2 n2 (2 ^ (j2 + (K : Int)).toNat)
      rw [b2, sgn_mul, e2] at this
      simpa using this.symm
    rw [q1] at h1'
    rw [q2] at h2'
    have l1 : -(M : Int) * 2 ^ K ≤ sgn s m * 2 ^ (i + (K : Int)).toNat := by
      rw [compare_int] at h1'
      split at h1'
      · simp [geB] at h1'
      · omega
    have l2 : sgn s m * 2 ^ (i + (K : Int)).toNat ≤ (M : Int) * 2 ^ K := by
      rw [compare_int] at h2'
      split at h2'
      · omega
      · split at h2'
        · omega
        · simp [leB] at h2'
    have hm : m * 2 ^ (i + (K : Int)).toNat ≤ M * 2 ^ K := by
      have w := sgn_mul s m (2 ^ (i + (K : Int)).toNat)
      have w' : sgn s (m * 2 ^ (i + (K : Int)).toNat) = sgn s m * 2 ^ (i + (K : Int)).toNat := by simpa using w
      rw [← w'] at l1 l2
      have z : ((M * 2 ^ K : Nat) : Int) = (M : Int) * 2 ^ K := by simp
      rw [Int.neg_mul, ← z] at l1
      rw [← z] at l2
      generalize m * 2 ^ (i + (K : Int)).toNat = A at *
      generalize M * 2 ^ K = B at *
      cases s <;> simp only [sgn, Bool.false_eq_true, if_false, if_true] at l1 l2 <;> omega
    refine ⟨_, rfl, ?_⟩
    rw [signed_eq, Int.pow_zero, Int.mul_one, sgn_natAbs]
    simp only [Toward.cut]
    show (m <<< i.toNat) / (1 <<< min (-i).toNat ((m <<< i.toNat).log2 + 2)) + 0 ≤ M
    rw [Nat.add_zero]
    by_cases hi : 0 ≤ i
    · have z1 : (-i).toNat = 0 := by omega
      rw [z1, shl]
      have : min 0 ((m * 2 ^ i.toNat).log2 + 2) = 0 := by omega
      rw [this, shl, Nat.pow_zero, Nat.mul_one, Nat.div_one]
      refine Nat.le_of_mul_le_mul_right (c := 2 ^ K) ?_ (Nat.two_pow_pos K)
      rw [Nat.mul_assoc, ← Nat.pow_add]
      rw [show i.toNat + K = (i + (K : Int)).toNat from by omega]
      exact hm
    · have z1 : i.toNat = 0 := by omega
      obtain ⟨d, hd⟩ : ∃ d : Nat, i = -(d : Int) := ⟨(-i).toNat, by omega⟩
      subst hd
      have z2 : (-(-(d : Int))).toNat = d := by omega
      rw [z1, z2, shl, Nat.pow_zero, Nat.mul_one, shl, Nat.one_mul]
      by_cases hdl : d ≤ m.log2 + 2
      · rw [show min d (m.log2 + 2) = d from by omega]
        refine Nat.div_le_of_le_mul ?_
        refine Nat.le_of_mul_le_mul_right (c := 2 ^ (-(d : Int) + (K : Int)).toNat) ?_ (Nat.two_pow_pos _)
        refine Nat.le_trans hm (Nat.le_of_eq ?_)
        rw [Nat.mul_comm (2 ^ d), Nat.mul_assoc, ← Nat.pow_add]
        congr 2; omega
      · rw [show min d (m.log2 + 2) = m.log2 + 2 from by omega]
        have : m < 2 ^ (m.log2 + 2) := Nat.lt_trans Nat.lt_log2_self (Nat.pow_lt_pow_right (by decide) (by omega))
        rw [Nat.div_eq_of_lt this]; omega

end Go.Proofs.Ytkghkkfcgegmeaa.Fl
