/- Walks of layer 2 (crc): sums by steps. -/
import Derived.Test.YtpdmnjcklpklnaaC1
import Derived.Test.YtpdmnjcklpklnaaP1
import Derived.Laws.BitsAllLaws
namespace Go.Proofs.Ytpdmnjcklpklnaa
open Go.RowKit
set_option linter.unusedVariables false
set_option linter.unusedSimpArgs false

theorem stp_bits (x : Nat) (hx : x < 4294967296) : bits .xor .u32 (x / 2 : Int) (bits .and .u32 3988292384 (IntKind.u32.wrap (-(bits .and .u32 x 1)))) = (stp x : Int) := by
  have e1 : bits .and .u32 (x : Int) 1 = ((x % 2 : Nat) : Int) := by
    have := u32_and_nat x 1 hx (by decide)
    rw [Nat.and_one_is_mod] at this
    exact this
  rw [e1, IntKind.wrap_u32]
  have e2 : ((x : Int) / 2) = ((x / 2 : Nat) : Int) := by omega
  rw [e2]
  unfold stp
  by_cases h : x % 2 = 1
  · rw [if_pos h, h]
    have e3 : (-((1 : Nat) : Int)) % 4294967296 = ((4294967295 : Nat) : Int) := by decide
    rw [e3, show (3988292384 : Int) = ((3988292384 : Nat) : Int) from rfl, u32_and_nat _ _ (by decide) (by decide)]
    rw [show 3988292384 &&& 4294967295 = 3988292384 from by decide, u32_xor_nat _ _ (by omega) (by decide)]
  · have h0 : x % 2 = 0 := by omega
    rw [if_neg h, h0]
    have e3 : (-((0 : Nat) : Int)) % 4294967296 = ((0 : Nat) : Int) := by decide
    rw [e3, show (3988292384 : Int) = ((3988292384 : Nat) : Int) from rfl, u32_and_nat _ _ (by decide) (by decide)]
    rw [show 3988292384 &&& 0 = 0 from by decide, u32_xor_nat _ _ (by omega) (by decide), Nat.xor_zero]

theorem ret_u32 {a b : Int} (h : a = b) : Ending.returned (.int .u32 a) = .returned (.int .u32 b) := by rw [h]

set_option maxRecDepth 100000 in
theorem cstep (x : Nat) (w : World) (hx : x < 4294967296) :
    Calls Try.prog 68 #[.int .u32 x] w fun e w' => e = .returned (.int .u32 (stp x)) ∧ w = w' := by
  have H := Lib.hid (stp_bits x hx)
  go_enter Try.func68, Try.ntmps68
  go_wp2_with fail
  go_ret
  exact ⟨ret_u32 H.out, rfl⟩

theorem xor_ones (x : Nat) (h : x < 4294967296) : 4294967295 ^^^ x = 4294967295 - x := by
  apply Nat.eq_of_testBit_eq
  intro k
  have h1 := Nat.testBit_two_pow_sub_succ (n := 32) (show x < 2 ^ 32 from h) k
  have e : 2 ^ 32 - (x + 1) = 4294967295 - x := by omega
  rw [e] at h1
  have h2 : Nat.testBit 4294967295 k = decide (k < 32) := Nat.testBit_two_pow_sub_one 32 k
  rw [Nat.testBit_xor, h1, h2]
  by_cases hk : k < 32
  · rw [decide_eq_true hk]; cases x.testBit k <;> rfl
  · rw [decide_eq_false hk]
    have : x.testBit k = false := Nat.testBit_lt_two_pow (Nat.lt_of_lt_of_le (show x < 2 ^ 32 from h) (Nat.pow_le_pow_right (by decide) (by omega)))
    rw [this]; rfl
theorem not_u32 (x : Nat) (h : x < 4294967296) : bits .xor .u32 IntKind.u32.max (x : Int) = ((4294967295 - x : Nat) : Int) := by
  rw [show IntKind.u32.max = ((4294967295 : Nat) : Int) from rfl, u32_xor_nat _ _ (by decide) h, xor_ones x h]

set_option maxRecDepth 100000 in
theorem cmore (s0 : Nat) (s : ByteArray) (w : World) (h0 : s0 < 4294967296) (hs : s.size ≤ maxLen) :
    Calls Try.prog 61 #[.int .u32 s0, .string s] w fun e w' => e = .returned (.int .u32 ((4294967295 - crcX (4294967295 - s0) s.data.toList : Nat) : Int)) ∧ w = w' := by
  unfold maxLen at hs
  have hsl : s.data.toList.length = s.size := by simp
  have HSL := Lib.hid hsl
  clear hsl
  have e0 := not_u32 s0 h0
  have hlt : 4294967295 - s0 < 4294967296 := by omega
  generalize 4294967295 - s0 = x0 at *
  go_enter Try.func61, Try.ntmps61
  go_wp2_with fail
  go_loop [5, 11] (fun x i => ∃ k : Nat, k ≤ s.size ∧ i = .int .i64 k ∧ x = .int .u32 (crcX x0 (s.data.toList.take k))) (fun _ i => s.size - (intOf i).toNat)
  case atStart => exact ⟨0, by omega, rfl, rfl⟩
  case round =>
    obtain ⟨k, hk, rfl, rfl⟩ := hrel
    have hb : crcX x0 (s.data.toList.take k) < 4294967296 := crcX_lt _ hlt
    by_cases hlt : k < s.size
    · have hg : s.data.toList[k]'(by rw [HSL.out]; exact hlt) = s[k] := rfl
      have hv : Hid (crcX x0 (s.data.toList.take (k + 1)) = stpN 8 (crcX x0 (s.data.toList.take k) ^^^ s[k].toNat)) := by
        show _ = _
        rw [List.take_succ_eq_append_getElem (by rw [HSL.out]; exact hlt), crcX_snoc, hg]; rfl
      have hc : s[k].toNat < 256 := s[k].toNat_lt
      have e1 : bits .xor .u32 (crcX x0 (s.data.toList.take k)) (s[k].toNat : Int) = ((crcX x0 (s.data.toList.take k) ^^^ s[k].toNat : Nat) : Int) := u32_xor_nat _ _ hb (by omega)
      have hb2 : (crcX x0 (s.data.toList.take k) ^^^ s[k].toNat) < 2 ^ 32 := Nat.xor_lt_two_pow (n := 32) hb (by omega)
      generalize crcX x0 (s.data.toList.take k) ^^^ s[k].toNat = y at *
      generalize crcX x0 (s.data.toList.take k) = x at *
      clear hg
      go_wp2_with fail
      go_loop [5, 20] (fun x j => ∃ m : Nat, m ≤ 8 ∧ j = .int .i64 m ∧ x = .int .u32 (stpN m y)) (fun _ j => 8 - (intOf j).toNat)
      case atStart => exact ⟨0, by omega, rfl, rfl⟩
      case round =>
        obtain ⟨m, hm, rfl, rfl⟩ := hrel
        have hb3 : stpN m y < 4294967296 := stpN_lt m hb2
        by_cases hm8 : m < 8
        · have hv2 : Hid (stpN (m + 1) y = stp (stpN m y)) := rfl
          generalize stpN m y = z at *
          go_wp2_with fail
          refine (cstep _ _ hb3).mono ?_; rintro e w' ⟨rfl, rfl⟩
          go_wp2_with fail
          go_round
          case rel => exact ⟨m + 1, by omega, by go_num, by rw [hv2.out]⟩
          case measure => simp [intOf]; omega
        · obtain rfl : m = 8 := by omega
          go_wp2_with fail
          go_round
          case rel => exact ⟨k + 1, by omega, by go_num, by rw [hv.out]⟩
          case measure => simp [intOf]; omega
    · obtain rfl : k = s.size := by omega
      have hw : s.data.toList.take s.size = s.data.toList := List.take_of_length_le (by rw [HSL.out]; exact Nat.le_refl _)
      have HW := Lib.hid hw
      clear hw
      have e2 := not_u32 _ hb
      have HF : Hid (((4294967295 - crcX x0 (s.data.toList.take s.size) : Nat) : Int) = ((4294967295 - crcX x0 s.data.toList : Nat) : Int)) := by show _ = _; rw [HW.out]
      generalize 4294967295 - crcX x0 (s.data.toList.take s.size) = r at *
      go_wp2_with fail
      go_ret
      exact ⟨ret_u32 HF.out, rfl⟩

set_option maxRecDepth 100000 in
theorem csum (s : ByteArray) (w : World) (hs : s.size ≤ maxLen) :
    Calls Try.prog 51 #[.string s] w fun e w' => e = .returned (.int .u32 (crc s.data.toList)) ∧ w = w' := by
  have h := fun w => cmore 0 s w (by omega) hs
  have e : 4294967295 - crcX (4294967295 - 0) s.data.toList = crc s.data.toList := rfl
  rw [e] at h
  go_enter Try.func51, Try.ntmps51
  go_wp2_with fail
  refine (h _).mono ?_; rintro e w' ⟨rfl, rfl⟩
  go_wp2_with fail
  go_ret
  exact ⟨rfl, rfl⟩

/-- a text with its sum behind it. -/
def sealL (l : List UInt8) : List UInt8 := l ++ numL (crc l) 4
set_option maxRecDepth 100000 in
theorem cseal (l : List UInt8) (w : World) (hs : l.length ≤ 1000000) :
    Calls Try.prog 25 #[.string (bs l)] w fun e w' => e = .returned (.string (bs (sealL l))) ∧ Kept [] w w' := by
  have hz : (bs l).size = l.length := bs_size l
  have h := fun w => csum (bs l) w (by unfold maxLen; omega)
  rw [bs_data] at h
  have hc := crc_lt l
  have hu := fun w => packU32 (crc l) w hc
  have hz2 : (bs (numL (crc l) 4)).size ≤ 4 := by rw [bs_size, numL_len]; omega
  have hfin : Hid (bs l ++ bs (numL (crc l) 4) = bs (sealL l)) := by show bs l ++ bs _ = _; rw [bs_append]; rfl
  generalize crc l = c at *
  go_enter Try.func25, Try.ntmps25
  go_wp2_with fail
  refine (h _).mono ?_; rintro e w' ⟨rfl, rfl⟩
  go_wp2_with fail
  refine (hu _).mono ?_; rintro e w1 ⟨rfl, hk⟩
  go_wp2_with fail
  go_ret
  exact ⟨by rw [← hfin.out]; rfl, hk⟩
end Go.Proofs.Ytpdmnjcklpklnaa
