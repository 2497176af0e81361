/- Walks of layer 2 (crc): sums by steps. -/
import Derived.Test.YtakdnchmehmdhaaGreatG01
import Derived.Test.YtakdnchmehmdhaaGreatG03
import Derived.Test.YtakdnchmehmdhaaGreatG11
import Derived.Test.YtakdnchmehmdhaaGreatG18
import Derived.Laws.BitsAllLaws
import Derived.Lib.AppendZerosOnto
import Derived.ProofKit
import Derived.OpenShut
namespace Go.Proofs.YtakdnchmehmdhaaGreat
open Go.RowKit
set_option linter.unusedVariables false
set_option linter.unusedSimpArgs false

theorem stp_bits (x : Nat) (hx : x < 4294967296) : bits .xor .u32 (x / 2 : Int) (bits .and .u32 3988292384 (IntKind.u32.wrap (-(bits .and .u32 x 1)))) = (stp x : Int) := by
  have e1 : bits .and .u32 (x : Int) 1 = ((x % 2 : Nat) : Int) := by
    have := u32_and_nat x 1 hx (by decide)
    rw [Nat.and_one_is_mod] at this
    exact this
  rw [e1, IntKind.wrap_u32]
  have e2 : ((x : Int) / 2) = ((x / 2 : Nat) : Int) := by omega
  rw [e2]
  unfold stp
  by_cases h : x % 2 = 1
  · rw [if_pos h, h]
    have e3 : (-((1 : Nat) : Int)) % 4294967296 = ((4294967295 : Nat) : Int) := by decide
    rw [e3, show (3988292384 : Int) = ((3988292384 : Nat) : Int) from rfl, u32_and_nat _ _ (by decide) (by decide)]
    rw [show 3988292384 &&& 4294967295 = 3988292384 from by decide, u32_xor_nat _ _ (by omega) (by decide)]
  · have h0 : x % 2 = 0 := by omega
    rw [if_neg h, h0]
    have e3 : (-((0 : Nat) : Int)) % 4294967296 = ((0 : Nat) : Int) := by decide
    rw [e3, show (3988292384 : Int) = ((3988292384 : Nat) : Int) from rfl, u32_and_nat _ _ (by decide) (by decide)]
    rw [show 3988292384 &&& 0 = 0 from by decide, u32_xor_nat _ _ (by omega) (by decide), Nat.xor_zero]

theorem ret_u32 {a b : Int} (h : a = b) : Ending.returned (.int .u32 a) = .returned (.int .u32 b) := by rw [h]

set_option maxRecDepth 100000 in
theorem cstep (x : Nat) (w : World) (hx : x < 4294967296) :
    Calls Tryz.prog 139 #[.int .u32 x] w fun e w' => e = .returned (.int .u32 (stp x)) ∧ w = w' := by
  have H := Lib.hid (stp_bits x hx)
  go_enter Tryz.func139, Tryz.ntmps139
  go_wp2_with fail
  go_ret
  exact ⟨ret_u32 H.out, rfl⟩

theorem xor_ones (x : Nat) (h : x < 4294967296) : 4294967295 ^^^ x = 4294967295 - x := by
  apply Nat.eq_of_testBit_eq
  intro k
  have h1 := Nat.testBit_two_pow_sub_succ (n := 32) (show x < 2 ^ 32 from h) k
  have e : 2 ^ 32 - (x + 1) = 4294967295 - x := by omega
  rw [e] at h1
  have h2 : Nat.testBit 4294967295 k = decide (k < 32) := Nat.testBit_two_pow_sub_one 32 k
  rw [Nat.testBit_xor, h1, h2]
  by_cases hk : k < 32
  · rw [decide_eq_true hk]; cases x.testBit k <;> rfl
  · rw [decide_eq_false hk]
    have : x.testBit k = false := Nat.testBit_lt_two_pow (Nat.lt_of_lt_of_le (show x < 2 ^ 32 from h) (Nat.pow_le_pow_right (by decide) (by omega)))
    rw [this]; rfl
theorem not_u32 (x : Nat) (h : x < 4294967296) : bits .xor .u32 IntKind.u32.max (x : Int) = ((4294967295 - x : Nat) : Int) := by
  rw [show IntKind.u32.max = ((4294967295 : Nat) : Int) from rfl, u32_xor_nat _ _ (by decide) h, xor_ones x h]

set_option maxRecDepth 100000 in
theorem cmore (s0 : Nat) (s : ByteArray) (w : World) (h0 : s0 < 4294967296) (hs : s.size ≤ maxLen) :
    Calls Tryz.prog 110 #[.int .u32 s0, .string s] w fun e w' => e = .returned (.int .u32 ((4294967295 - crcX (4294967295 - s0) s.data.toList : Nat) : Int)) ∧ w = w' := by
  unfold maxLen at hs
  have hsl : s.data.toList.length = s.size := by simp
  have HSL := Lib.hid hsl
  clear hsl
  have e0 := not_u32 s0 h0
  have hlt : 4294967295 - s0 < 4294967296 := by omega
  generalize 4294967295 - s0 = x0 at *
  go_enter Tryz.func110, Tryz.ntmps110
  go_wp2_with fail
  go_loop [5, 11] (fun x i => ∃ k : Nat, k ≤ s.size ∧ i = .int .i64 k ∧ x = .int .u32 (crcX x0 (s.data.toList.take k))) (fun _ i => s.size - (intOf i).toNat)
  case atStart => exact ⟨0, by omega, rfl, rfl⟩
  case round =>
    obtain ⟨k, hk, rfl, rfl⟩ := hrel
    have hb : crcX x0 (s.data.toList.take k) < 4294967296 := crcX_lt _ hlt
    by_cases hlt : k < s.size
    · have hg : s.data.toList[k]'(by rw [HSL.out]; exact hlt) = s[k] := rfl
      have hv : Hid (crcX x0 (s.data.toList.take (k + 1)) = stpN 8 (crcX x0 (s.data.toList.take k) ^^^ s[k].toNat)) := by
        show _ = _
        rw [List.take_succ_eq_append_getElem (by rw [HSL.out]; exact hlt), crcX_snoc, hg]; rfl
      have hc : s[k].toNat < 256 := s[k].toNat_lt
      have e1 : bits .xor .u32 (crcX x0 (s.data.toList.take k)) (s[k].toNat : Int) = ((crcX x0 (s.data.toList.take k) ^^^ s[k].toNat : Nat) : Int) := u32_xor_nat _ _ hb (by omega)
      have hb2 : (crcX x0 (s.data.toList.take k) ^^^ s[k].toNat) < 2 ^ 32 := Nat.xor_lt_two_pow (n := 32) hb (by omega)
      generalize crcX x0 (s.data.toList.take k) ^^^ s[k].toNat = y at *
      generalize crcX x0 (s.data.toList.take k) = x at *
      clear hg
      go_wp2_with fail
      go_loop [5, 20] (fun x j => ∃ m : Nat, m ≤ 8 ∧ j = .int .i64 m ∧ x = .int .u32 (stpN m y)) (fun _ j => 8 - (intOf j).toNat)
      case atStart => exact ⟨0, by omega, rfl, rfl⟩
      case round =>
        obtain ⟨m, hm, rfl, rfl⟩ := hrel
        have hb3 : stpN m y < 4294967296 := stpN_lt m hb2
        by_cases hm8 : m < 8
        · have hv2 : Hid (stpN (m + 1) y = stp (stpN m y)) := rfl
          generalize stpN m y = z at *
          go_wp2_with fail
          refine (cstep _ _ hb3).mono ?_; rintro e w' ⟨rfl, rfl⟩
          go_wp2_with fail
          go_round
          case rel => exact ⟨m + 1, by omega, by go_num, by rw [hv2.out]⟩
          case measure => simp [intOf]; omega
        · obtain rfl : m = 8 := by omega
          go_wp2_with fail
          go_round
          case rel => exact ⟨k + 1, by omega, by go_num, by rw [hv.out]⟩
          case measure => simp [intOf]; omega
    · obtain rfl : k = s.size := by omega
      have hw : s.data.toList.take s.size = s.data.toList := List.take_of_length_le (by rw [HSL.out]; exact Nat.le_refl _)
      have HW := Lib.hid hw
      clear hw
      have e2 := not_u32 _ hb
      have HF : Hid (((4294967295 - crcX x0 (s.data.toList.take s.size) : Nat) : Int) = ((4294967295 - crcX x0 s.data.toList : Nat) : Int)) := by show _ = _; rw [HW.out]
      generalize 4294967295 - crcX x0 (s.data.toList.take s.size) = r at *
      go_wp2_with fail
      go_ret
      exact ⟨ret_u32 HF.out, rfl⟩

set_option maxRecDepth 100000 in
theorem csum (s : ByteArray) (w : World) (hs : s.size ≤ maxLen) :
    Calls Tryz.prog 76 #[.string s] w fun e w' => e = .returned (.int .u32 (crc s.data.toList)) ∧ w = w' := by
  have h := fun w => cmore 0 s w (by omega) hs
  have e : 4294967295 - crcX (4294967295 - 0) s.data.toList = crc s.data.toList := rfl
  rw [e] at h
  go_enter Tryz.func76, Tryz.ntmps76
  go_wp2_with fail
  refine (h _).mono ?_; rintro e w' ⟨rfl, rfl⟩
  go_wp2_with fail
  go_ret
  exact ⟨rfl, rfl⟩

/-- a text with its sum behind it. -/
def sealL (l : List UInt8) : List UInt8 := l ++ numL (crc l) 4
set_option maxRecDepth 100000 in
theorem cseal (l : List UInt8) (w : World) (hs : l.length ≤ 1000000) :
    Calls Tryz.prog 39 #[.string (bs l)] w fun e w' => e = .returned (.string (bs (sealL l))) ∧ Kept [] w w' := by
  have hz : (bs l).size = l.length := bs_size l
  have h := fun w => csum (bs l) w (by unfold maxLen; omega)
  rw [bs_data] at h
  have hc := crc_lt l
  have hu := fun w => packU32 (crc l) w hc
  have hz2 : (bs (numL (crc l) 4)).size ≤ 4 := by rw [bs_size, numL_len]; omega
  have hfin : Hid (bs l ++ bs (numL (crc l) 4) = bs (sealL l)) := by show bs l ++ bs _ = _; rw [bs_append]; rfl
  generalize crc l = c at *
  go_enter Tryz.func39, Tryz.ntmps39
  go_wp2_with fail
  refine (h _).mono ?_; rintro e w' ⟨rfl, rfl⟩
  go_wp2_with fail
  refine (hu _).mono ?_; rintro e w1 ⟨rfl, hk⟩
  go_wp2_with fail
  go_ret
  exact ⟨by rw [← hfin.out]; rfl, hk⟩
theorem infoBool : ∃ i, Tryz.prog.info? 4 = some i ∧ i.zero = some (.bool false) ∧ i.size = 1 ∧ i.bytes = 1 := by
  have hi : (Tryz.prog.info? 4).map (fun i => (i.zero, i.size, i.bytes)) = some (some (.bool false), 1, 1) := by kernel_rfl
  obtain ⟨i0, hi0, hz0, hz1, hz2⟩ := info_parts hi
  exact ⟨i0, hi0, hz0, hz1, hz2⟩
theorem run_make_bools (n : Nat) (hn : n ≤ 1000000000) (w : World) : (Instr.makeSlice 126 (.int .i64 n) (.int .i64 n)).run Tryz.prog w = .ok (.slice (some ⟨w.heap.size, 0, none⟩) n n) (w.alloc (.cells (Array.replicate n (.bool false)) 4)) := by
  obtain ⟨i0, h1, h2, h3, h4⟩ := infoBool
  exact run_make_rep _ _ i0 _ Tryz.underlying126 h1 h2 h3 rfl n (by rw [h4]; omega) (by omega) w
/-- the bits found so far. -/
def bitsTo (l : List UInt8) (m : Nat) : Nat → Value := fun j => .bool (decide (j < m) && mb l j)
theorem bitsTo_step (l : List UInt8) (k m : Nat) (hk : k < l.length) (hm : m < 8) : bitsTo l (8 * k + m + 1) (8 * k + m) = .bool (((l[k].toNat / 2 ^ m : Nat) : Int) % 2 == 1) := by
  unfold bitsTo mb
  have e1 : (8 * k + m) / 8 = k := by omega
  have e2 : (8 * k + m) % 8 = m := by omega
  rw [e1, e2, List.getElem?_eq_getElem hk]
  simp only [Nat.testBit_eq_decide_div_mod_eq]
  rw [decide_eq_true (by omega), Bool.true_and]
  congr 1
  by_cases h : l[k].toNat / 2 ^ m % 2 = 1
  · rw [decide_eq_true h]; symm; simp only [beq_iff_eq]; omega
  · rw [decide_eq_false h]; symm; simp only [beq_eq_false_iff_ne, ne_eq]; omega
set_option maxRecDepth 100000 in
theorem rbits (s : ByteArray) (w : World) (hs : s.size ≤ 1000000) :
    Calls Tryz.prog 93 #[.string s] w fun e w' => e = .returned (.slice (some ⟨w.heap.size, 0, none⟩) (8 * s.size) (8 * s.size)) ∧ Rw w' w.heap.size 4 (8 * s.size) (fun j => .bool (mb s.data.toList j)) ∧ Kept [] w w' := by
  have hsl : s.data.toList.length = s.size := by simp
  have HSL := Lib.hid hsl
  clear hsl
  have hmk := run_make_bools (8 * s.size) (by omega)
  have e8 : ((8 * s.size : Nat) : Int) = 8 * (s.size : Int) := by omega
  rw [e8] at hmk
  have r0 := Rw.made w 4 (8 * s.size) (.bool false)
  clear e8
  go_enter Tryz.func93, Tryz.ntmps93
  go_wp2_with fail
  go_loopw [4] (fun i wr => ∃ k : Nat, k ≤ s.size ∧ i = .int .i64 k ∧ Rw wr w.heap.size 4 (8 * s.size) (bitsTo s.data.toList (8 * k)) ∧ Kept [] w wr) (fun i _ => s.size - (intOf i).toNat)
  case atStart => exact ⟨0, by omega, rfl, r0.congr (fun j _ => by unfold bitsTo; simp), (Kept.refl _ _).alloc _⟩
  case round =>
    obtain ⟨k, hk, rfl, hR, hK⟩ := hrel
    by_cases hlt : k < s.size
    · obtain ⟨wo, rfl⟩ : ∃ wo : World, wo = wr := ⟨_, rfl⟩
      have hg : s.data.toList[k]'(by rw [HSL.out]; exact hlt) = s[k] := rfl
      have hst := fun m hm => bitsTo_step s.data.toList k m (by rw [HSL.out]; exact hlt) hm
      rw [hg] at hst
      have HST := Lib.hid hst
      have hc : s[k].toNat < 256 := s[k].toNat_lt
      clear hst hg
      generalize hcc : s[k].toNat = c at *
      go_wp2_with fail
      clear hcc
      go_loopw [5, 6] (fun b j wr => ∃ m : Nat, m ≤ 8 ∧ j = .int .i64 m ∧ b = .int .u8 ((c / 2 ^ m : Nat) : Int) ∧ Rw wr w.heap.size 4 (8 * s.size) (bitsTo s.data.toList (8 * k + m)) ∧ Kept [] w wr) (fun _ j _ => 8 - (intOf j).toNat)
      case atStart => exact ⟨0, by omega, rfl, by simp, hR, hK⟩
      case round =>
        obtain ⟨m, hm, rfl, rfl, hR, hK⟩ := hrel
        by_cases hm8 : m < 8
        · have hix : 8 * k + m < 8 * s.size := by omega
          have c0 := hR.cell (8 * k + m) hix
          have f0 := hR.free (8 * k + m)
          have hn := hR.set (8 * k + m) hix (.bool (((c / 2 ^ m : Nat) : Int) % 2 == 1)) (bitsTo s.data.toList (8 * k + (m + 1))) (HST.out m hm8) (fun j _ hj => by unfold bitsTo; congr 2; rw [decide_eq_decide]; omega)
          have hk2 : Kept [] w (wr.setCell ⟨w.heap.size, 8 * k + m, none⟩ (.bool (((c / 2 ^ m : Nat) : Int) % 2 == 1))) := hK.setCell (Or.inr (Nat.le_refl _)) _
          have hd : c / 2 ^ (m + 1) = c / 2 ^ m / 2 := by rw [Nat.pow_succ, Nat.div_div_eq_div_mul]
          have HD := Lib.hid hd
          have hb : c / 2 ^ m < 256 := Nat.lt_of_le_of_lt (Nat.div_le_self _ _) hc
          generalize bitsTo s.data.toList (8 * k + m) (8 * k + m) = v at *
          clear hR hK hd
          generalize c / 2 ^ m = d at *
          go_wp2_with fail
          go_roundw
          case rel => exact ⟨m + 1, by omega, by go_num, by rw [HD.out]; rfl, hn, hk2⟩
          case measure => simp [intOf]; omega
        · obtain rfl : m = 8 := by omega
          go_wp2_with fail
          go_roundw
          case rel => exact ⟨k + 1, by omega, by go_num, hR.congr (fun j _ => by rw [show 8 * (k + 1) = 8 * k + 8 from by omega]), hK⟩
          case measure => simp [intOf]; omega
    · obtain rfl : k = s.size := by omega
      have hf : Rw wr w.heap.size 4 (8 * s.size) (fun j => .bool (mb s.data.toList j)) := hR.congr (fun j hj => by unfold bitsTo; rw [decide_eq_true hj, Bool.true_and])
      go_wp2_with fail
      go_ret
      exact ⟨rfl, hf, hK⟩
/-- the polynomial's bits found so far: those behind a place. -/
def polyTo (i : Nat) : Nat → Value := fun j => .bool (decide (i ≤ j) && pb j)
theorem polyTo_step (i : Nat) (h : i ≤ 32) : polyTo i i = .bool (((4374732215 / 2 ^ (32 - i) : Nat) : Int) % 2 == 1) := by
  unfold polyTo pb
  rw [decide_eq_true (Nat.le_refl _), Bool.true_and, Nat.testBit_eq_decide_div_mod_eq]
  congr 1
  by_cases h : 4374732215 / 2 ^ (32 - i) % 2 = 1
  · rw [decide_eq_true h]; symm; simp only [beq_iff_eq]; omega
  · rw [decide_eq_false h]; symm; simp only [beq_eq_false_iff_ne, ne_eq]; omega
theorem polyN (i : Nat) : 4374732215 / 2 ^ i ≤ 4374732215 := Nat.div_le_self _ _
def PolyRel (w : World) (n i : Value) (wr : World) : Prop :=
  ((∃ k : Nat, k ≤ 32 ∧ i = .int .i64 k ∧ n = .int .u64 ((4374732215 / 2 ^ (32 - k) : Nat) : Int) ∧ Rw wr w.heap.size 4 33 (polyTo (k + 1))) ∨ (i = .int .i64 (-1) ∧ Rw wr w.heap.size 4 33 (polyTo 0))) ∧ Kept [] w wr
set_option maxRecDepth 100000 in
theorem rpoly (w : World) :
    Calls Tryz.prog 94 #[] w fun e w' => e = .returned (.slice (some ⟨w.heap.size, 0, none⟩) 33 33) ∧ Rw w' w.heap.size 4 33 (fun j => .bool (pb j)) ∧ Kept [] w w' := by
  have hmk := run_make_bools 33 (by omega)
  have r0 := Rw.made w 4 33 (.bool false)
  generalize Array.replicate 33 (Value.bool false) = cs at *
  have e8 : ((33 : Nat) : Int) = 33 := rfl
  rw [e8] at hmk
  clear e8
  go_enter Tryz.func94, Tryz.ntmps94
  go_wp2_with fail
  go_loopw [1, 3] (PolyRel w) (fun _ i _ => (intOf i + 1).toNat)
  case atStart => exact ⟨Or.inl ⟨32, by omega, rfl, rfl, r0.congr (fun j hj => by unfold polyTo; rw [decide_eq_false (by omega)]; rfl)⟩, (Kept.refl _ _).alloc _⟩
  case round =>
    obtain ⟨⟨k, hk, rfl, rfl, hR⟩ | ⟨rfl, hR⟩, hK⟩ := hrel
    · have hix : k < 33 := by omega
      have c0 := hR.cell k hix
      have f0 := hR.free k
      have hn := hR.set k hix (.bool (((4374732215 / 2 ^ (32 - k) : Nat) : Int) % 2 == 1)) (polyTo k) (polyTo_step k hk) (fun j _ hj => by unfold polyTo; congr 2; rw [decide_eq_decide]; omega)
      have hk2 : Kept [] w (wr.setCell ⟨w.heap.size, k, none⟩ (.bool (((4374732215 / 2 ^ (32 - k) : Nat) : Int) % 2 == 1))) := hK.setCell (Or.inr (Nat.le_refl _)) _
      have hb := polyN (32 - k)
      have hd : ∀ m, k = m + 1 → 4374732215 / 2 ^ (32 - m) = 4374732215 / 2 ^ (32 - k) / 2 := fun m hm => by rw [show 32 - m = (32 - k) + 1 from by omega, Nat.pow_succ, Nat.div_div_eq_div_mul]
      have HD := Lib.hid hd
      generalize polyTo (k + 1) k = v at *
      clear hR hK hd
      generalize 4374732215 / 2 ^ (32 - k) = d at *
      have hd : d < 4374732216 := by omega
      clear hb
      go_wp2_with fail
      go_roundw
      case rel =>
        cases k with
        | zero => exact ⟨Or.inr ⟨rfl, hn⟩, hk2⟩
        | succ m => exact ⟨Or.inl ⟨m, by omega, by go_num, by rw [HD.out m rfl]; rfl, hn⟩, hk2⟩
      case measure => simp [intOf]
    · have hf : Rw wr w.heap.size 4 33 (fun j => .bool (pb j)) := hR.congr (fun j hj => by unfold polyTo; rw [decide_eq_true (Nat.zero_le _), Bool.true_and])
      go_wp2_with fail
      go_ret
      exact ⟨rfl, hf, hK⟩
theorem zeroCells_one (z : Value) (n : Nat) : Builtin.zeroCells #[z] n = Array.replicate n z := by
  apply Array.ext
  · simp [Builtin.zeroCells]
  · intro i h1 h2; simp [Builtin.zeroCells, Nat.mod_one]
theorem bits_zeros (w : World) (g n : Nat) (f : Nat → Value) (hR : Rw w g 4 n f) (hn : n ≤ 8000000) :
    ∃ cap W', (Builtin.append_ #[126, 3] 126 #[.slice (some ⟨g, 0, none⟩) n n, .int .i64 32]).run Tryz.prog w = .ok (.slice (some ⟨w.heap.size, 0, none⟩) (n + 32) cap) W' ∧ Rw W' w.heap.size 4 (n + 32) (fun j => if j < n then f j else .bool false) ∧ Kept [] w W' := by
  obtain ⟨i0, h1, h2, h3, h4⟩ := infoBool
  have hold := run_firstCells_some (P := Tryz.prog) (w := w.drew) i0.size n ⟨g, 0, none⟩ n n ((List.range n).map f) (by rw [h3]; simp) (fun j v hj => by
    have hjn : j < n := by
      rcases Nat.lt_or_ge j n with h | h
      · exact h
      · rw [List.getElem?_eq_none (by simpa using h)] at hj; cases hj
    have hv : v = f j := by simpa [hjn] using hj.symm
    rw [Go.WideShapes.add_plain, Nat.zero_add, hv]
    exact hR.cell j hjn)
  have hfit : Builtin.nextslicecap (n + 32) n ≤ 2 * (n + 32) := nextslicecap_le (by omega)
  have h := Lib.run_append_grow_zeros (P := Tryz.prog) w 126 3 126 4 i0 (.bool false) .i64 .i64 Tryz.underlying126 Tryz.underlying3 h1 h2 (some ⟨g, 0, none⟩) n n _ hold 32 (by omega) (by rw [h3]; omega) (by omega) (by omega) (by rw [h4]; omega) (by rw [h4]; omega)
  refine ⟨_, _, h, ⟨_, Own.new w.drew _ 4, ?_⟩, (Kept.refl _ _).drew.alloc _⟩
  · intro i hi
    rw [show (Value.bool false).cells = #[.bool false] from rfl, zeroCells_one, zeroCells_one, Array.append_assoc]
    show _ = some (if i < n then f i else Value.bool false)
    by_cases hin : i < n
    · rw [Array.getElem?_append_left (by simpa using hin), if_pos hin]; simp [hin]
    · rw [Array.getElem?_append_right (by simpa using hin), if_neg hin, Array.getElem?_append_left (by simp; omega), Array.getElem?_replicate, if_pos (by simp; omega)]
/-- a row of truths that stands in a block. -/
def LB (f : Nat → Bool) : Nat → Value := fun j => .bool (f j)
/-- the row, part of the polynomial laid over it. -/
def part (l : List UInt8) (a j : Nat) : Nat → Bool := fun i => if decide (a ≤ i ∧ i < a + j) then (fs l a i != pb (i - a)) else fs l a i
theorem part_zero (l : List UInt8) (a i : Nat) : part l a 0 i = fs l a i := by unfold part; rw [decide_eq_false (by omega)]; rfl
theorem part_at (l : List UInt8) (a j : Nat) : LB (part l a (j + 1)) (a + j) = .bool (fs l a (a + j) != pb j) := by
  unfold LB part; rw [decide_eq_true (by omega), if_pos rfl, Nat.add_sub_cancel_left]
theorem part_far (l : List UInt8) (a j i : Nat) (h : i ≠ a + j) : LB (part l a (j + 1)) i = LB (part l a j) i := by
  have e : decide (a ≤ i ∧ i < a + (j + 1)) = decide (a ≤ i ∧ i < a + j) := by rw [decide_eq_decide]; omega
  unfold LB part; rw [e]
theorem part_all (l : List UInt8) (a : Nat) (h : fs l a a = true) (i : Nat) : part l a 33 i = fs l (a + 1) i := by
  show (if decide (a ≤ i ∧ i < a + 33) = true then _ else _) = (if fs l a a && decide (a ≤ i ∧ i < a + 33) then _ else _)
  rw [h, Bool.true_and]
theorem fs_skip (l : List UInt8) (a : Nat) (h : fs l a a = false) (i : Nat) : fs l a i = fs l (a + 1) i := by
  show _ = (if fs l a a && decide (a ≤ i ∧ i < a + 33) then _ else _)
  rw [h, Bool.false_and]; rfl
/-- the first bits, turned so far. -/
def flip (l : List UInt8) (k : Nat) : Nat → Bool := fun j => if j < k then !(mb l j) else mb l j
set_option maxRecDepth 100000 in
set_option maxHeartbeats 1600000 in
theorem rsum (s : ByteArray) (w : World) (hs : s.size ≤ 1000000) :
    Calls Tryz.prog 57 #[.string s] w fun e w' => e = .returned (.int .u32 (crc s.data.toList)) ∧ Kept [] w w' := by
  have hb := fun w => rbits s w hs
  have hfin := crc_digit s.data.toList
  rw [show s.data.toList.length = s.size by simp] at hfin
  have hend : ∀ i, 8 * s.size ≤ i → mb s.data.toList i = false := fun i hi => mb_out _ _ (by simpa using hi)
  have hcl := crc_lt s.data.toList
  generalize s.data.toList = l at *
  generalize hn : 8 * s.size = n at *
  have hn2 : n ≤ 8000000 := by omega
  clear hn hs
  have HF := Lib.hid hfin
  have HE := Lib.hid hend
  clear hfin hend
  go_enter Tryz.func57, Tryz.ntmps57
  go_wp2_with fail
  refine (hb _).mono ?_; rintro e w1 ⟨rfl, hR1, hk1⟩
  obtain ⟨cap, w2, happ, hR2, hk2⟩ := bits_zeros w1 _ n _ hR1 hn2
  have hR3 : Rw w2 w1.heap.size 4 (n + 32) (LB (mb l)) := hR2.congr (fun j hj => by
    unfold LB
    by_cases h : j < n
    · rw [if_pos h]
    · rw [if_neg h, HE.out j (by omega)])
  have hk3 := hk1.trans hk2
  have hs1 : w.heap.size ≤ w1.heap.size := hk1.size
  clear hR1 hR2 hk1 hk2 hb
  go_wp2_with (at_builtin; refine wpList_append_run rfl _ _ _ rfl _ _ rfl rfl _ _ happ ?_)
  refine (rpoly _).mono ?_; rintro e w3 ⟨rfl, hP, hk4⟩
  have hR4 := hR3.kept hk4 (by simp)
  have hk5 := hk3.trans hk4
  have hs2 : w1.heap.size < w2.heap.size := hR3.lt
  have hGP : w1.heap.size ≠ w2.heap.size := by omega
  clear hR3 hk3 hk4 happ
  generalize w2.heap.size = P at *
  generalize w1.heap.size = G at *
  go_wp2_with fail
  go_loopw [5] (fun i wr => ∃ k : Nat, k ≤ 32 ∧ i = .int .i64 k ∧ Rw wr G 4 (n + 32) (LB (flip l k)) ∧ Rw wr P 4 33 (LB pb) ∧ Kept [] w wr) (fun i _ => 32 - (intOf i).toNat)
  case atStart => exact ⟨0, by omega, rfl, hR4, hP, hk5⟩
  case round =>
    obtain ⟨k, hk, rfl, hR, hP, hK⟩ := hrel
    by_cases hlt : k < 32
    · have hix : k < n + 32 := by omega
      have c0 := hR.cell k hix
      have f0 := hR.free k
      have ev : LB (flip l k) k = .bool (mb l k) := by unfold LB flip; rw [if_neg (by omega)]
      rw [ev] at c0
      have hn' := hR.set k hix (.bool (!(mb l k))) (LB (flip l (k + 1))) (by unfold LB flip; rw [if_pos (by omega)]) (fun j _ hj => by unfold LB flip; by_cases h : j < k; rw [if_pos h, if_pos (by omega)]; rw [if_neg h, if_neg (by omega)])
      have hP' := hP.other (p := ⟨G, k, none⟩) (Ne.symm hGP) (.bool (!(mb l k)))
      have hK' := hK.setCell (p := ⟨G, k, none⟩) (Or.inr hs1) (.bool (!(mb l k)))
      clear hR hP hK ev
      generalize mb l k = b at *
      go_wp2_with fail
      go_roundw
      case rel => exact ⟨k + 1, by omega, by go_num, hn', hP', hK'⟩
      case measure => simp [intOf]; omega
    · obtain rfl : k = 32 := by omega
      have hR0 : Rw wr G 4 (n + 32) (LB (fs l 0)) := hR
      clear hR hR4
      go_wp2_with fail
      go_loopw [6] (fun i wr => ∃ k : Nat, k ≤ n ∧ i = .int .i64 k ∧ Rw wr G 4 (n + 32) (LB (fs l k)) ∧ Rw wr P 4 33 (LB pb) ∧ Kept [] w wr) (fun i _ => n - (intOf i).toNat)
      case atStart => exact ⟨0, by omega, rfl, hR0, hP, hK⟩
      case round =>
        obtain ⟨k, hk, rfl, hR, hP, hK⟩ := hrel
        by_cases hlt : k < n
        · have c0 := hR.cell k (by omega)
          have hix : (k : Int) < n + 32 := by omega
          cases hb : fs l k k
          · have ev : LB (fs l k) k = .bool false := by unfold LB; rw [hb]
            rw [ev] at c0
            have hR' : Rw wr G 4 (n + 32) (LB (fs l (k + 1))) := hR.congr (fun j _ => by unfold LB; rw [fs_skip l k hb])
            clear hR hb ev
            go_wp2_with fail
            go_roundw
            case rel => exact ⟨k + 1, by omega, by go_num, hR', hP, hK⟩
            case measure => simp [intOf]; omega
          · have ev : LB (fs l k) k = .bool true := by unfold LB; rw [hb]
            rw [ev] at c0
            have hR' : Rw wr G 4 (n + 32) (LB (part l k 0)) := hR.congr (fun j _ => by unfold LB; rw [part_zero])
            have HB := Lib.hid hb
            clear hR hb ev
            go_wp2_with fail
            clear c0
            obtain ⟨wo, rfl⟩ : ∃ wo : World, wo = wr := ⟨_, rfl⟩
            go_loopw [7] (fun i wr => ∃ j : Nat, j ≤ 33 ∧ i = .int .i64 j ∧ Rw wr G 4 (n + 32) (LB (part l k j)) ∧ Rw wr P 4 33 (LB pb) ∧ Kept [] w wr) (fun i _ => 33 - (intOf i).toNat)
            case atStart => exact ⟨0, by omega, rfl, hR', hP, hK⟩
            case round =>
              obtain ⟨j, hj, rfl, hR, hP, hK⟩ := hrel
              by_cases hj3 : j < 33
              · have hix2 : k + j < n + 32 := by omega
                have c1 := hR.cell (k + j) hix2
                have f1 := hR.free (k + j)
                have c2 := hP.cell j hj3
                have e1 : LB (part l k j) (k + j) = .bool (fs l k (k + j)) := by unfold LB part; rw [decide_eq_false (by omega)]; rfl
                have e2 : LB pb j = .bool (pb j) := rfl
                rw [e1] at c1
                rw [e2] at c2
                have hn' := hR.set (k + j) hix2 (.bool (fs l k (k + j) != pb j)) (LB (part l k (j + 1))) (part_at l k j) (fun i _ hi => part_far l k j i hi)
                have hP' := hP.other (p := ⟨G, k + j, none⟩) (Ne.symm hGP) (.bool (fs l k (k + j) != pb j))
                have hK' := hK.setCell (p := ⟨G, k + j, none⟩) (Or.inr hs1) (.bool (fs l k (k + j) != pb j))
                clear hR hP hK e1 e2
                generalize fs l k (k + j) = b1 at *
                generalize pb j = b2 at *
                go_wp2_with fail
                go_region
                go_wp2_with fail
                go_roundw
                case rel => exact ⟨j + 1, by omega, by go_num, hn'.drew, hP'.drew, hK'.drew⟩
                case measure => simp [intOf]; omega
              · obtain rfl : j = 33 := by omega
                have hR' : Rw wr G 4 (n + 32) (LB (fs l (k + 1))) := hR.congr (fun i _ => by unfold LB; rw [part_all l k HB.out])
                clear hR
                go_wp2_with fail
                go_roundw
                case rel => exact ⟨k + 1, by omega, by go_num, hR', hP, hK⟩
                case measure => simp [intOf]; omega
        · obtain rfl : n = k := by omega
          have hcl2 : crc l < 4294967296 := hcl
          clear hlt
          go_wp2_with fail
          obtain ⟨wo, rfl⟩ : ∃ wo : World, wo = wr := ⟨_, rfl⟩
          go_loopw [8, 9] (fun v i wr => ((∃ k : Nat, k ≤ 31 ∧ i = .int .i64 k ∧ v = .int .u32 ((crc l / 2 ^ (k + 1) : Nat) : Int)) ∨ (i = .int .i64 (-1) ∧ v = .int .u32 (crc l))) ∧ wr = wo) (fun _ i _ => (intOf i + 1).toNat)
          case atStart => exact ⟨Or.inl ⟨31, by omega, rfl, by rw [Nat.div_eq_of_lt (show crc l < 2 ^ (31 + 1) from hcl)]; rfl⟩, rfl⟩
          case round =>
            obtain ⟨⟨k, hk, rfl, rfl⟩ | ⟨rfl, rfl⟩, rfl⟩ := hrel
            · have c0 := hR.cell (n + k) (by omega)
              have hix : (n : Int) + k < n + 32 := by omega
              have hd := HF.out k (by omega)
              have hle : crc l / 2 ^ k ≤ crc l := Nat.div_le_self _ _
              cases hb : fs l n (n + k)
              · have ev : LB (fs l n) (n + k) = .bool false := by unfold LB; rw [hb]
                rw [ev] at c0
                rw [hb, if_pos rfl] at hd
                have hd2 : ∀ m, k = m + 1 → 2 * (crc l / 2 ^ (k + 1)) + 1 = crc l / 2 ^ (m + 1) := fun m hm => by subst hm; exact hd.symm
                have hd3 : k = 0 → 2 * (crc l / 2 ^ (k + 1)) + 1 = crc l := fun hm => by subst hm; rw [← hd]; simp
                have hx : 2 * (crc l / 2 ^ (k + 1)) + 1 < 4294967296 := by omega
                have HD2 := Lib.hid hd2
                have HD3 := Lib.hid hd3
                clear hd hd2 hd3 hle hb ev
                generalize crc l / 2 ^ (k + 1) = d at *
                go_wp2_with fail
                go_roundw
                case rel =>
                  cases k with
                  | zero => exact ⟨Or.inr ⟨rfl, by rw [← HD3.out rfl]; congr 1; omega⟩, trivial⟩
                  | succ m => exact ⟨Or.inl ⟨m, by omega, by go_num, by rw [← HD2.out m rfl]; congr 1; omega⟩, trivial⟩
                case measure => simp [intOf]
              · have ev : LB (fs l n) (n + k) = .bool true := by unfold LB; rw [hb]
                rw [ev] at c0
                rw [hb, if_neg (by simp), Nat.add_zero] at hd
                have hd2 : ∀ m, k = m + 1 → 2 * (crc l / 2 ^ (k + 1)) = crc l / 2 ^ (m + 1) := fun m hm => by subst hm; exact hd.symm
                have hd3 : k = 0 → 2 * (crc l / 2 ^ (k + 1)) = crc l := fun hm => by subst hm; rw [← hd]; simp
                have hx : 2 * (crc l / 2 ^ (k + 1)) < 4294967296 := by omega
                have HD2 := Lib.hid hd2
                have HD3 := Lib.hid hd3
                clear hd hd2 hd3 hle hb ev
                generalize crc l / 2 ^ (k + 1) = d at *
                go_wp2_with fail
                go_roundw
                case rel =>
                  cases k with
                  | zero => exact ⟨Or.inr ⟨rfl, by rw [← HD3.out rfl]; congr 1; omega⟩, trivial⟩
                  | succ m => exact ⟨Or.inl ⟨m, by omega, by go_num, by rw [← HD2.out m rfl]; congr 1; omega⟩, trivial⟩
                case measure => simp [intOf]
            · go_wp2_with fail
              go_ret
              exact ⟨rfl, hK⟩
end Go.Proofs.YtakdnchmehmdhaaGreat

/- Layer 13 (journal): lists of records; a transaction's bytes: both sides. -/
namespace Go.Proofs.YtakdnchmehmdhaaGreat
open Go.ChangeShapes Go.WideShapes Go.ChangeAt Go.RowKit Go.Deep
set_option linter.unusedVariables false
set_option linter.unusedSimpArgs false

/-- a record's cells. -/
def RecCells (lo hi : Nat) (w : World) (cs : List Value) (a : JRec) : Prop := ∃ kv, cs = [.int .i64 a.kind, .int .u32 a.id, .string (bs a.name), .int .i64 a.size, kv] ∧ RunsIn w kv a.runs lo hi ∧ a.fits
def RecsIn (w : World) (v : Value) (l : List JRec) (lo hi : Nat) : Prop := RowsOf 5 (RecCells lo hi) w v l lo hi
theorem RecsIn.kept {S : List Nat} {w w' : World} {v : Value} {l : List JRec} {lo hi : Nat} (h : RecsIn w v l lo hi) (k : Kept S w w') (hS : ∀ x ∈ S, x < lo ∨ hi ≤ x) : RecsIn w' v l lo hi :=
  RowsOf.kept h k hS (fun cs a ⟨kv, e1, e2, e3⟩ => ⟨kv, e1, e2.kept k hS, e3⟩)
theorem RecsIn.kept0 {w w' : World} {v : Value} {l : List JRec} {lo hi : Nat} (h : RecsIn w v l lo hi) (k : Kept [] w w') : RecsIn w' v l lo hi := h.kept k (fun x hx => by cases hx)
theorem RecsIn.at_ {w : World} {p : Option Addr} {n c : Nat} {l : List JRec} {lo hi : Nat} (h : RecsIn w (.slice p n c) l lo hi) (i : Nat) (hi' : i < l.length) :
    ∃ b off kv, p = some ⟨b, off, none⟩ ∧ w.cell? ⟨b, off + i * 5, none⟩ = some (.int .i64 l[i].kind) ∧ w.cell? ⟨b, off + i * 5 + 1, none⟩ = some (.int .u32 l[i].id) ∧ w.cell? ⟨b, off + i * 5 + 2, none⟩ = some (.string (bs l[i].name)) ∧ w.cell? ⟨b, off + i * 5 + 3, none⟩ = some (.int .i64 l[i].size) ∧ w.cell? ⟨b, off + i * 5 + 4, none⟩ = some kv ∧ RunsIn w kv l[i].runs lo hi ∧ l[i].fits ∧ lo ≤ b ∧ b < hi ∧ hi ≤ w.heap.size := by
  obtain ⟨b, off, cs, e1, e2, ⟨kv, rfl, e4, e5⟩, e6, e7⟩ := RowsOf.at_ h i hi'
  exact ⟨b, off, kv, e1, e6 0 _ rfl, e6 1 _ rfl, e6 2 _ rfl, e6 3 _ rfl, e6 4 _ rfl, e4, e5, e7⟩
section
variable {H : Type} {enc : TypeId × Value → H} {w : World} {base : Nat} {held : Bool} {r : Reach} {b0 : Nat}
end
/-- a transaction's records, and its bytes. -/
def bodyL (l : List JRec) : List UInt8 := numL l.length 2 ++ (l.map recL).flatten
def txL (l : List JRec) : List UInt8 := numL (bodyL l).length 4 ++ (numL (crc (bodyL l)) 4 ++ bodyL l)
theorem recL_len {r : JRec} (h : RecOk r) : (recL r).length ≤ 200 := by
  obtain ⟨_, _, _, _, nm, _, _, rf⟩ := h
  have := rf.1
  unfold recL
  rw [List.length_append, List.length_append, List.length_append, numL_len]
  split <;> split <;> split <;> simp [numL_len, textL_len, qrunsL_len] <;> omega
theorem recs_len {l : List JRec} (h : ∀ r ∈ l, RecOk r) : (l.map recL).flatten.length ≤ 200 * l.length := by
  induction l with
  | nil => simp
  | cons a t ih =>
    have h1 := recL_len (h a List.mem_cons_self)
    have h2 := ih (fun r hr => h r (List.mem_cons_of_mem _ hr))
    rw [List.map_cons, List.flatten_cons, List.length_append, List.length_cons]; omega
theorem recs_take (l : List JRec) (k : Nat) (h : k < l.length) : ((l.take (k + 1)).map recL).flatten = ((l.take k).map recL).flatten ++ recL l[k] := by
  rw [List.take_succ_eq_append_getElem h, List.map_append, List.flatten_append]
  congr 1
  simp
end Go.Proofs.YtakdnchmehmdhaaGreat
