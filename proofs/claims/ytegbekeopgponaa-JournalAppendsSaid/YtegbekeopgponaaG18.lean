/- Sums of 32 bits: by steps, and by long division: plain laws. -/
import Derived.Test.YtegbekeopgponaaG01
import Derived.Test.YtegbekeopgponaaG02
import Derived.Laws.BitsAllLaws
namespace Go.Proofs.Ytegbekeopgponaa
open Go.RowKit
set_option linter.unusedVariables false
set_option linter.unusedSimpArgs false

/-- a number, stepped. -/
def stp (x : Nat) : Nat := if x % 2 = 1 then x / 2 ^^^ 3988292384 else x / 2
def stpN : Nat → Nat → Nat
  | 0, x => x
  | k + 1, x => stp (stpN k x)
def crcB (x : Nat) (b : UInt8) : Nat := stpN 8 (x ^^^ b.toNat)
def crcX (x : Nat) (l : List UInt8) : Nat := l.foldl crcB x
/-- the sum of bytes. -/
def crc (l : List UInt8) : Nat := 4294967295 - crcX 4294967295 l

theorem stp_bit (x k : Nat) : (stp x).testBit k = (x.testBit (k + 1) ^^ (x.testBit 0 && Nat.testBit 3988292384 k)) := by
  unfold stp
  rw [Nat.testBit_succ, Nat.testBit_zero]
  by_cases h : x % 2 = 1
  · rw [if_pos h, Nat.testBit_xor, decide_eq_true h, Bool.true_and]
  · rw [if_neg h, decide_eq_false h, Bool.false_and, Bool.xor_false]
theorem stp_lt {x : Nat} (h : x < 2 ^ 32) : stp x < 2 ^ 32 := by
  unfold stp
  split
  · exact Nat.xor_lt_two_pow (by omega) (by decide)
  · omega
theorem stpN_lt {x : Nat} (k : Nat) (h : x < 2 ^ 32) : stpN k x < 2 ^ 32 := by
  induction k with
  | zero => exact h
  | succ k ih => exact stp_lt ih
theorem u8_lt (b : UInt8) : b.toNat < 2 ^ 32 := Nat.lt_trans b.toNat_lt (by decide)
theorem crcB_lt {x : Nat} (b : UInt8) (h : x < 2 ^ 32) : crcB x b < 2 ^ 32 := stpN_lt 8 (Nat.xor_lt_two_pow h (u8_lt b))
theorem crcX_lt {x : Nat} (l : List UInt8) (h : x < 2 ^ 32) : crcX x l < 2 ^ 32 := by
  induction l generalizing x with
  | nil => exact h
  | cons b l ih => exact ih (crcB_lt b h)
theorem crc_lt (l : List UInt8) : crc l < 4294967296 := by unfold crc; omega
theorem crcX_snoc (x : Nat) (l : List UInt8) (b : UInt8) : crcX x (l ++ [b]) = crcB (crcX x l) b := by simp [crcX, List.foldl_append]

theorem stp_xor (a c : Nat) : stp (a ^^^ 2 * c) = stp a ^^^ c := by
  apply Nat.eq_of_testBit_eq
  intro k
  rw [stp_bit, Nat.testBit_xor, Nat.testBit_xor, Nat.testBit_xor, stp_bit]
  have e1 : (2 * c).testBit (k + 1) = c.testBit k := by rw [Nat.testBit_succ]; congr 1; omega
  have e2 : (2 * c).testBit 0 = false := by rw [Nat.testBit_zero]; simp
  rw [e1, e2, Bool.xor_false]
  cases a.testBit (k + 1) <;> cases c.testBit k <;> simp

/-! ### bits of a text -/
/-- the bits of a text, the lowest of each byte first; behind it: none. -/
def mb (l : List UInt8) (i : Nat) : Bool := match l[i / 8]? with | some b => b.toNat.testBit (i % 8) | none => false
theorem mb_out (l : List UInt8) (i : Nat) (h : 8 * l.length ≤ i) : mb l i = false := by
  unfold mb; rw [List.getElem?_eq_none (by omega)]
/-- the register, bit by bit. -/
def reg (l : List UInt8) : Nat → Nat
  | 0 => 4294967295
  | i + 1 => stp (reg l i ^^^ (mb l i).toNat)
theorem reg_lt (l : List UInt8) (i : Nat) : reg l i < 2 ^ 32 := by
  induction i with
  | zero => unfold reg; decide
  | succ i ih => exact stp_lt (Nat.xor_lt_two_pow ih (by cases mb l i <;> decide))
theorem half_bit (b t : Nat) : b / 2 ^ t ^^^ (b.testBit t).toNat = 2 * (b / 2 ^ (t + 1)) := by
  apply Nat.eq_of_testBit_eq
  intro k
  rw [Nat.testBit_xor, Nat.testBit_div_two_pow]
  cases k with
  | zero =>
    have e : (2 * (b / 2 ^ (t + 1))).testBit 0 = false := by rw [Nat.testBit_zero]; simp
    rw [e]; cases h : b.testBit t <;> simp [h]
  | succ k =>
    have e : (2 * (b / 2 ^ (t + 1))).testBit (k + 1) = (b / 2 ^ (t + 1)).testBit k := by rw [Nat.testBit_succ]; congr 1; omega
    rw [e, Nat.testBit_div_two_pow]
    have e2 : (b.testBit t).toNat.testBit (k + 1) = false := by cases b.testBit t <;> simp [Nat.testBit_succ]
    rw [e2, Bool.xor_false]; congr 1; omega
theorem reg_byte (l : List UInt8) (j : Nat) (hj : j < l.length) (t : Nat) (ht : t ≤ 8) : reg l (8 * j + t) = stpN t (reg l (8 * j) ^^^ l[j].toNat) ^^^ l[j].toNat / 2 ^ t := by
  induction t with
  | zero =>
    show reg l (8 * j) = (reg l (8 * j) ^^^ l[j].toNat) ^^^ _
    rw [Nat.pow_zero, Nat.div_one, Nat.xor_assoc, Nat.xor_self, Nat.xor_zero]
  | succ t ih =>
    have hm : mb l (8 * j + t) = l[j].toNat.testBit t := by
      unfold mb
      have e1 : (8 * j + t) / 8 = j := by omega
      have e2 : (8 * j + t) % 8 = t := by omega
      rw [e1, e2, List.getElem?_eq_getElem hj]
    show stp (reg l (8 * j + t) ^^^ (mb l (8 * j + t)).toNat) = stp (stpN t _) ^^^ _
    rw [ih (by omega), hm, Nat.xor_assoc, half_bit, stp_xor]
theorem reg_end (l : List UInt8) (j : Nat) (hj : j ≤ l.length) : reg l (8 * j) = crcX 4294967295 (l.take j) := by
  induction j with
  | zero => rfl
  | succ j ih =>
    have h := reg_byte l j (by omega) 8 (by omega)
    have e : l[j].toNat / 2 ^ 8 = 0 := Nat.div_eq_of_lt l[j].toNat_lt
    rw [e, Nat.xor_zero] at h
    rw [List.take_succ_eq_append_getElem (by omega), crcX_snoc, ← ih (by omega)]
    exact h
/-! ### long division -/
/-- the polynomial's bits, the highest first. -/
def pb (j : Nat) : Bool := Nat.testBit 4374732215 (32 - j)
theorem pb_poly (k : Nat) : (decide (k + 1 ≤ 32) && pb (k + 1)) = Nat.testBit 3988292384 k := by
  by_cases h : k + 1 ≤ 32
  · rw [decide_eq_true h, Bool.true_and]
    have : ∀ k : Fin 32, pb (k.val + 1) = Nat.testBit 3988292384 k.val := by decide +kernel
    exact this ⟨k, by omega⟩
  · rw [decide_eq_false h, Bool.false_and]
    symm
    apply Nat.testBit_lt_two_pow
    exact Nat.lt_of_lt_of_le (show 3988292384 < 2 ^ 32 by decide) (Nat.pow_le_pow_right (by decide) (by omega))
/-- what stands in the reference's row behind so many places. -/
def fs (l : List UInt8) : Nat → Nat → Bool
  | 0, i => if i < 32 then !(mb l i) else mb l i
  | a + 1, i => if fs l a a && decide (a ≤ i ∧ i < a + 33) then (fs l a i != pb (i - a)) else fs l a i
theorem fs_reg (l : List UInt8) (a i : Nat) (h : a ≤ i) : fs l a i = (mb l i ^^ (reg l a).testBit (i - a)) := by
  induction a generalizing i with
  | zero =>
    show (if i < 32 then _ else _) = _
    have e : (reg l 0).testBit (i - 0) = decide (i < 32) := Nat.testBit_two_pow_sub_one 32 i
    rw [e]
    by_cases h32 : i < 32
    · rw [if_pos h32, decide_eq_true h32]; cases mb l i <;> rfl
    · rw [if_neg h32, decide_eq_false h32]; cases mb l i <;> rfl
  | succ a ih =>
    obtain ⟨k, rfl⟩ : ∃ k, i = a + 1 + k := ⟨i - (a + 1), by omega⟩
    have i1 := ih a (Nat.le_refl _)
    have i2 := ih (a + 1 + k) (by omega)
    have e1 : a + 1 + k - a = k + 1 := by omega
    have e2 : a + 1 + k - (a + 1) = k := by omega
    rw [Nat.sub_self] at i1
    rw [e1] at i2
    show (if fs l a a && decide (a ≤ a + 1 + k ∧ a + 1 + k < a + 33) then (fs l a (a + 1 + k) != pb (a + 1 + k - a)) else fs l a (a + 1 + k)) = (mb l (a + 1 + k) ^^ (stp (reg l a ^^^ (mb l a).toNat)).testBit (a + 1 + k - (a + 1)))
    rw [e1, e2, i2, i1, stp_bit, Nat.testBit_xor, Nat.testBit_xor, ← pb_poly]
    have e3 : (mb l a).toNat.testBit (k + 1) = false := by cases mb l a <;> simp [Nat.testBit_succ]
    have e4 : (mb l a).toNat.testBit 0 = mb l a := by cases mb l a <;> rfl
    have e5 : decide (a ≤ a + 1 + k ∧ a + 1 + k < a + 33) = decide (k + 1 ≤ 32) := by
      rw [decide_eq_decide]; omega
    rw [e3, e4, e5]
    cases mb l a <;> cases (reg l a).testBit 0 <;> cases mb l (a + 1 + k) <;> cases (reg l a).testBit (k + 1) <;> cases decide (k + 1 ≤ 32) <;> cases pb (k + 1) <;> rfl
theorem fs_last (l : List UInt8) (k : Nat) : fs l (8 * l.length) (8 * l.length + k) = (crcX 4294967295 l).testBit k := by
  rw [fs_reg l _ _ (by omega), mb_out l _ (by omega), reg_end l _ (Nat.le_refl _), List.take_length, Bool.false_xor]
  congr 1; omega
theorem crc_bit (l : List UInt8) (k : Nat) : (crc l).testBit k = (decide (k < 32) && !(crcX 4294967295 l).testBit k) := by
  have h := Nat.testBit_two_pow_sub_succ (n := 32) (crcX_lt l (show 4294967295 < 2 ^ 32 by decide)) k
  have e : crc l = 2 ^ 32 - (crcX 4294967295 l + 1) := by unfold crc; omega
  rw [e]; exact h
/-- the sum's digits, the highest first. -/
theorem crc_digit (l : List UInt8) (k : Nat) (h : k < 32) : crc l / 2 ^ k = 2 * (crc l / 2 ^ (k + 1)) + (if fs l (8 * l.length) (8 * l.length + k) = false then 1 else 0) := by
  have hb := crc_bit l k
  rw [decide_eq_true h, Bool.true_and, ← fs_last] at hb
  have e1 : crc l / 2 ^ (k + 1) = crc l / 2 ^ k / 2 := by rw [Nat.pow_succ, Nat.div_div_eq_div_mul]
  have e2 : (crc l).testBit k = decide (crc l / 2 ^ k % 2 = 1) := by rw [Nat.testBit_eq_decide_div_mod_eq]
  rw [e2] at hb
  rw [e1]
  cases hf : fs l (8 * l.length) (8 * l.length + k)
  · rw [hf] at hb
    have : crc l / 2 ^ k % 2 = 1 := by simpa using hb
    simp; omega
  · rw [hf] at hb
    have : ¬ crc l / 2 ^ k % 2 = 1 := by simpa using hb
    simp; omega
end Go.Proofs.Ytegbekeopgponaa

/- Walks of layer 2 (crc): sums by steps. -/
namespace Go.Proofs.Ytegbekeopgponaa
open Go.RowKit
set_option linter.unusedVariables false
set_option linter.unusedSimpArgs false

theorem stp_bits (x : Nat) (hx : x < 4294967296) : bits .xor .u32 (x / 2 : Int) (bits .and .u32 3988292384 (IntKind.u32.wrap (-(bits .and .u32 x 1)))) = (stp x : Int) := by
  have e1 : bits .and .u32 (x : Int) 1 = ((x % 2 : Nat) : Int) := by
    have := u32_and_nat x 1 hx (by decide)
    rw [Nat.and_one_is_mod] at this
    exact this
  rw [e1, IntKind.wrap_u32]
  have e2 : ((x : Int) / 2) = ((x / 2 : Nat) : Int) := by omega
  rw [e2]
  unfold stp
  by_cases h : x % 2 = 1
  · rw [if_pos h, h]
    have e3 : (-((1 : Nat) : Int)) % 4294967296 = ((4294967295 : Nat) : Int) := by decide
    rw [e3, show (3988292384 : Int) = ((3988292384 : Nat) : Int) from rfl, u32_and_nat _ _ (by decide) (by decide)]
    rw [show 3988292384 &&& 4294967295 = 3988292384 from by decide, u32_xor_nat _ _ (by omega) (by decide)]
  · have h0 : x % 2 = 0 := by omega
    rw [if_neg h, h0]
    have e3 : (-((0 : Nat) : Int)) % 4294967296 = ((0 : Nat) : Int) := by decide
    rw [e3, show (3988292384 : Int) = ((3988292384 : Nat) : Int) from rfl, u32_and_nat _ _ (by decide) (by decide)]
    rw [show 3988292384 &&& 0 = 0 from by decide, u32_xor_nat _ _ (by omega) (by decide), Nat.xor_zero]

theorem ret_u32 {a b : Int} (h : a = b) : Ending.returned (.int .u32 a) = .returned (.int .u32 b) := by rw [h]

set_option maxRecDepth 100000 in
theorem cstep (x : Nat) (w : World) (hx : x < 4294967296) :
    Calls Try.prog 110 #[.int .u32 x] w fun e w' => e = .returned (.int .u32 (stp x)) ∧ w = w' := by
  have H := Lib.hid (stp_bits x hx)
  go_enter Try.func110, Try.ntmps110
  go_wp2_with fail
  go_ret
  exact ⟨ret_u32 H.out, rfl⟩

theorem xor_ones (x : Nat) (h : x < 4294967296) : 4294967295 ^^^ x = 4294967295 - x := by
  apply Nat.eq_of_testBit_eq
  intro k
  have h1 := Nat.testBit_two_pow_sub_succ (n := 32) (show x < 2 ^ 32 from h) k
  have e : 2 ^ 32 - (x + 1) = 4294967295 - x := by omega
  rw [e] at h1
  have h2 : Nat.testBit 4294967295 k = decide (k < 32) := Nat.testBit_two_pow_sub_one 32 k
  rw [Nat.testBit_xor, h1, h2]
  by_cases hk : k < 32
  · rw [decide_eq_true hk]; cases x.testBit k <;> rfl
  · rw [decide_eq_false hk]
    have : x.testBit k = false := Nat.testBit_lt_two_pow (Nat.lt_of_lt_of_le (show x < 2 ^ 32 from h) (Nat.pow_le_pow_right (by decide) (by omega)))
    rw [this]; rfl
theorem not_u32 (x : Nat) (h : x < 4294967296) : bits .xor .u32 IntKind.u32.max (x : Int) = ((4294967295 - x : Nat) : Int) := by
  rw [show IntKind.u32.max = ((4294967295 : Nat) : Int) from rfl, u32_xor_nat _ _ (by decide) h, xor_ones x h]

set_option maxRecDepth 100000 in
theorem cmore (s0 : Nat) (s : ByteArray) (w : World) (h0 : s0 < 4294967296) (hs : s.size ≤ maxLen) :
    Calls Try.prog 87 #[.int .u32 s0, .string s] w fun e w' => e = .returned (.int .u32 ((4294967295 - crcX (4294967295 - s0) s.data.toList : Nat) : Int)) ∧ w = w' := by
  unfold maxLen at hs
  have hsl : s.data.toList.length = s.size := by simp
  have HSL := Lib.hid hsl
  clear hsl
  have e0 := not_u32 s0 h0
  have hlt : 4294967295 - s0 < 4294967296 := by omega
  generalize 4294967295 - s0 = x0 at *
  go_enter Try.func87, Try.ntmps87
  go_wp2_with fail
  go_loop [5, 11] (fun x i => ∃ k : Nat, k ≤ s.size ∧ i = .int .i64 k ∧ x = .int .u32 (crcX x0 (s.data.toList.take k))) (fun _ i => s.size - (intOf i).toNat)
  case atStart => exact ⟨0, by omega, rfl, rfl⟩
  case round =>
    obtain ⟨k, hk, rfl, rfl⟩ := hrel
    have hb : crcX x0 (s.data.toList.take k) < 4294967296 := crcX_lt _ hlt
    by_cases hlt : k < s.size
    · have hg : s.data.toList[k]'(by rw [HSL.out]; exact hlt) = s[k] := rfl
      have hv : Hid (crcX x0 (s.data.toList.take (k + 1)) = stpN 8 (crcX x0 (s.data.toList.take k) ^^^ s[k].toNat)) := by
        show _ = _
        rw [List.take_succ_eq_append_getElem (by rw [HSL.out]; exact hlt), crcX_snoc, hg]; rfl
      have hc : s[k].toNat < 256 := s[k].toNat_lt
      have e1 : bits .xor .u32 (crcX x0 (s.data.toList.take k)) (s[k].toNat : Int) = ((crcX x0 (s.data.toList.take k) ^^^ s[k].toNat : Nat) : Int) := u32_xor_nat _ _ hb (by omega)
      have hb2 : (crcX x0 (s.data.toList.take k) ^^^ s[k].toNat) < 2 ^ 32 := Nat.xor_lt_two_pow (n := 32) hb (by omega)
      generalize crcX x0 (s.data.toList.take k) ^^^ s[k].toNat = y at *
      generalize crcX x0 (s.data.toList.take k) = x at *
      clear hg
      go_wp2_with fail
      go_loop [5, 20] (fun x j => ∃ m : Nat, m ≤ 8 ∧ j = .int .i64 m ∧ x = .int .u32 (stpN m y)) (fun _ j => 8 - (intOf j).toNat)
      case atStart => exact ⟨0, by omega, rfl, rfl⟩
      case round =>
        obtain ⟨m, hm, rfl, rfl⟩ := hrel
        have hb3 : stpN m y < 4294967296 := stpN_lt m hb2
        by_cases hm8 : m < 8
        · have hv2 : Hid (stpN (m + 1) y = stp (stpN m y)) := rfl
          generalize stpN m y = z at *
          go_wp2_with fail
          refine (cstep _ _ hb3).mono ?_; rintro e w' ⟨rfl, rfl⟩
          go_wp2_with fail
          go_round
          case rel => exact ⟨m + 1, by omega, by go_num, by rw [hv2.out]⟩
          case measure => simp [intOf]; omega
        · obtain rfl : m = 8 := by omega
          go_wp2_with fail
          go_round
          case rel => exact ⟨k + 1, by omega, by go_num, by rw [hv.out]⟩
          case measure => simp [intOf]; omega
    · obtain rfl : k = s.size := by omega
      have hw : s.data.toList.take s.size = s.data.toList := List.take_of_length_le (by rw [HSL.out]; exact Nat.le_refl _)
      have HW := Lib.hid hw
      clear hw
      have e2 := not_u32 _ hb
      have HF : Hid (((4294967295 - crcX x0 (s.data.toList.take s.size) : Nat) : Int) = ((4294967295 - crcX x0 s.data.toList : Nat) : Int)) := by show _ = _; rw [HW.out]
      generalize 4294967295 - crcX x0 (s.data.toList.take s.size) = r at *
      go_wp2_with fail
      go_ret
      exact ⟨ret_u32 HF.out, rfl⟩

set_option maxRecDepth 100000 in
theorem csum (s : ByteArray) (w : World) (hs : s.size ≤ maxLen) :
    Calls Try.prog 44 #[.string s] w fun e w' => e = .returned (.int .u32 (crc s.data.toList)) ∧ w = w' := by
  have h := fun w => cmore 0 s w (by omega) hs
  have e : 4294967295 - crcX (4294967295 - 0) s.data.toList = crc s.data.toList := rfl
  rw [e] at h
  go_enter Try.func44, Try.ntmps44
  go_wp2_with fail
  refine (h _).mono ?_; rintro e w' ⟨rfl, rfl⟩
  go_wp2_with fail
  go_ret
  exact ⟨rfl, rfl⟩

/-- a text with its sum behind it. -/
def sealL (l : List UInt8) : List UInt8 := l ++ numL (crc l) 4
end Go.Proofs.Ytegbekeopgponaa
