/- Walks of layer 1 (pack): the reader. -/
import Derived.Test.YtpdmnjcklpklnaaP1
namespace Go.Proofs.Ytpdmnjcklpklnaa
open Go.RowKit
set_option linter.unusedVariables false
set_option linter.unusedSimpArgs false

/-- the next n bytes; and the reader behind it. -/
def takeR (n : Int) (l : List UInt8) (x : Int) : List UInt8 × List UInt8 × Int :=
  if x ≠ 0 then ([], l, x) else if n < 0 then ([], [], 1) else if (l.length : Int) < n then ([], [], 10) else (l.take n.toNat, l.drop n.toNat, 0)

theorem ret_str {a b : List UInt8} (h : a = b) : Ending.returned (.string (bs a)) = .returned (.string (bs b)) := by rw [h]

set_option maxRecDepth 100000 in
theorem packTake (b : Nat) (l : List UInt8) (x n : Int) (w : World) (hR : RdAt w b l x) :
    Calls Try.prog 33 #[.pointer (some ⟨b, 0, none⟩), .int .i64 n] w fun r w' => r = .returned (.string (bs (takeR n l x).1)) ∧ RdAt w' b (takeR n l x).2.1 (takeR n l x).2.2 ∧ Kept [b] w w' := by
  have c0 : w.cell? ⟨b, 0, none⟩ = some (.string (bs l)) := Own.cell hR 0 (by simp)
  have c1 : w.cell? ⟨b, 1, none⟩ = some (.int .i64 x) := Own.cell hR 1 (by simp)
  have z0 := Own.free hR 0
  have z1 := Own.free hR 1
  by_cases hx : x = 0
  · have hf := fun e => packFail b l x e w hR
    subst hx
    simp only [keepErr_zero] at hf
    by_cases hn : n < 0
    · have ht : takeR n l 0 = ([], [], 1) := by simp [takeR, hn]
      rw [ht]
      clear ht
      go_enter Try.func33, Try.ntmps33
      go_wp2_with fail
      refine (hf 1).mono ?_; rintro e w1 ⟨rfl, hR1, hk⟩
      go_wp2_with fail
      go_ret
      exact ⟨rfl, hR1, hk⟩
    · have hn0 : 0 ≤ n := by omega
      have hsz : ((bs l).size : Int) = l.length := by rw [bs_size]
      by_cases hl : (l.length : Int) < n
      · have ht : takeR n l 0 = ([], [], 10) := by simp [takeR, hn, hl]
        rw [ht]
        have hl' : ((bs l).size : Int) < n := by rw [hsz]; exact hl
        clear ht hsz
        go_enter Try.func33, Try.ntmps33
        go_wp2_with fail
        refine (hf 10).mono ?_; rintro e w1 ⟨rfl, hR1, hk⟩
        go_wp2_with fail
        go_ret
        exact ⟨rfl, hR1, hk⟩
      · have ht : takeR n l 0 = (l.take n.toNat, l.drop n.toNat, 0) := by simp [takeR, hn, hl]
        rw [ht]
        obtain ⟨k, rfl⟩ := Int.eq_ofNat_of_zero_le hn0
        have hl' : (k : Int) ≤ ((bs l).size : Int) := by rw [hsz]; omega
        have hl2 : k ≤ (bs l).size := by omega
        have e1 := Lib.hid (bs_extract l 0 k)
        have e2 := Lib.hid (bs_extract l k (bs l).size)
        clear ht hsz hf
        go_enter Try.func33, Try.ntmps33
        go_wp2_with fail
        go_ret
        have e1' : (bs l).extract 0 k = bs (l.take k) := by rw [e1.out]; simp
        have e2' : (bs l).extract k (bs l).size = bs (l.drop k) := by rw [e2.out, List.take_of_length_le (by rw [bs_size]; simp)]
        refine ⟨?_, ?_, (Kept.refl _ _).setCell (Or.inl (by simp)) _⟩
        · show Ending.returned (Value.string ((bs l).extract 0 k)) = _
          rw [e1']
        · have h2 := Own.set hR 0 (.string ((bs l).extract k (bs l).size))
          unfold RdAt
          rw [e2'] at h2 ⊢
          simpa using h2
  · have ht : takeR n l x = ([], l, x) := by simp [takeR, hx]
    rw [ht]
    have hd : (x == 0) = false := by simpa using hx
    have hd2 : (x != 0) = true := by simpa using hx
    clear ht
    go_enter Try.func33, Try.ntmps33
    go_wp2_with fail
    go_ret
    exact ⟨rfl, hR, Kept.refl _ _⟩

set_option maxRecDepth 100000 in
theorem packTake_nil (n : Int) (w : World) :
    Calls Try.prog 33 #[.pointer none, .int .i64 n] w fun r w' => r = .returned (.string { data := #[] }) ∧ w = w' := by
  go_enter Try.func33, Try.ntmps33
  go_wp2_with fail
  go_ret
  exact ⟨rfl, rfl⟩

/-- the number of bytes, the lowest first. -/
def leL : List UInt8 → Nat
  | [] => 0
  | c :: l => c.toNat + 256 * leL l
theorem leL_lt (l : List UInt8) : leL l < 256 ^ l.length := by
  induction l with
  | nil => simp [leL]
  | cons c l ih =>
    have := c.toNat_lt
    simp only [leL, List.length_cons, Nat.pow_succ]
    omega
theorem leL_snoc (l : List UInt8) (c : UInt8) : leL (l ++ [c]) = leL l + 256 ^ l.length * c.toNat := by
  induction l with
  | nil => simp [leL]
  | cons d l ih =>
    simp only [List.cons_append, leL, ih, List.length_cons, Nat.pow_succ]
    rw [Nat.mul_add, ← Nat.mul_assoc, Nat.mul_comm 256 (256 ^ l.length)]; omega
theorem leL_numL (n k : Nat) : leL (numL n k) = n % 256 ^ k := by
  induction k generalizing n with
  | zero => simp [numL, leL, Nat.mod_one]
  | succ k ih =>
    have e : (UInt8.ofNat n).toNat = n % 256 := by rw [UInt8.toNat_ofNat']
    simp only [numL, leL, ih]
    rw [e, Nat.pow_succ, Nat.mul_comm (256 ^ k) 256, Nat.mod_mul]
theorem numL_leL (l : List UInt8) : numL (leL l) l.length = l := by
  induction l with
  | nil => rfl
  | cons c l ih =>
    have hc := c.toNat_lt
    simp only [leL, List.length_cons, numL]
    have e1 : UInt8.ofNat (c.toNat + 256 * leL l) = c := by
      apply UInt8.toNat_inj.1
      rw [UInt8.toNat_ofNat']; omega
    have e2 : (c.toNat + 256 * leL l) / 256 = leL l := by omega
    rw [e1, e2, ih]

def numR (k : Nat) (l : List UInt8) (x : Int) : Nat × List UInt8 × Int := (leL (takeR k l x).1, (takeR k l x).2)
theorem takeR_len (n : Int) (l : List UInt8) (x : Int) : (takeR n l x).1.length ≤ n.toNat := by
  unfold takeR; split
  · simp
  · split
    · simp
    · split
      · simp
      · simp; omega

theorem or_step (t : List UInt8) (j : Nat) (hj : j < t.length) (hl : t.length ≤ 8) (hb : j < (bs t).size) :
    bits .or .u64 (leL (t.take j)) (IntKind.u64.wrap (IntKind.u64.wrap ((bs t)[j].toNat : Int) * 2 ^ (8 * j))) = (leL (t.take (j + 1)) : Int) := by
  have hc : (bs t)[j].toNat < 256 := by have := (bs t)[j].toNat_lt; omega
  have hlt := leL_lt (t.take j)
  have hlj : (t.take j).length = j := by simp; omega
  rw [hlj] at hlt
  have hp : (256 : Nat) ^ j = 2 ^ (8 * j) := by rw [Nat.pow_mul]
  have hpj : (2 : Nat) ^ (8 * j) ≤ 2 ^ 56 := Nat.pow_le_pow_right (by decide) (by omega)
  have hm : (bs t)[j].toNat * 2 ^ (8 * j) < 2 ^ 64 := by
    have := Nat.mul_le_mul (Nat.le_of_lt_succ hc) hpj
    omega
  have hts : t.take (j + 1) = t.take j ++ [t[j]] := by rw [List.take_succ_eq_append_getElem hj]; rfl
  have hg : (bs t)[j] = t[j] := rfl
  have w1 : IntKind.u64.wrap ((bs t)[j].toNat : Int) = ((bs t)[j].toNat : Int) := by simp [IntKind.wrap, IntKind.signed, IntKind.bits]; omega
  have w2 : IntKind.u64.wrap (((bs t)[j].toNat * 2 ^ (8 * j) : Nat) : Int) = (((bs t)[j].toNat * 2 ^ (8 * j) : Nat) : Int) := by
    have h : (((bs t)[j].toNat * 2 ^ (8 * j) : Nat) : Int) < 18446744073709551616 := by omega
    have h0 : (0 : Int) ≤ (((bs t)[j].toNat * 2 ^ (8 * j) : Nat) : Int) := by omega
    generalize (((bs t)[j].toNat * 2 ^ (8 * j) : Nat) : Int) = X at *
    simp [IntKind.wrap, IntKind.signed, IntKind.bits]; omega
  have e : ((bs t)[j].toNat : Int) * 2 ^ (8 * j) = (((bs t)[j].toNat * 2 ^ (8 * j) : Nat) : Int) := by simp
  rw [w1, e, w2, bits_or_u64_nat _ _ (by omega) (by omega)]
  congr 1
  rw [hts, leL_snoc, hlj, hp, Nat.or_comm, Nat.mul_comm (bs t)[j].toNat, ← Nat.two_pow_add_eq_or_of_lt (by omega), hg]
  omega

set_option maxRecDepth 100000 in
theorem packNumber (b k : Nat) (l : List UInt8) (x : Int) (w : World) (hR : RdAt w b l x) (hk : k ≤ 8) :
    Calls Try.prog 54 #[.pointer (some ⟨b, 0, none⟩), .int .i64 k] w fun r w' => r = .returned (.int .u64 (numR k l x).1) ∧ RdAt w' b (numR k l x).2.1 (numR k l x).2.2 ∧ Kept [b] w w' := by
  have ht := packTake b l x k w hR
  have htl := takeR_len k l x
  unfold numR
  generalize takeR (k : Int) l x = t at *
  have hlen : t.1.length ≤ 8 := by omega
  have hsz : ((bs t.1).size : Int) = t.1.length := by rw [bs_size]
  have hsz2 : (bs t.1).size = t.1.length := by rw [bs_size]
  go_enter Try.func54, Try.ntmps54
  go_wp2_with fail
  refine ht.mono ?_; rintro e w1 ⟨rfl, hR1, hk1⟩
  go_wp2_with fail
  go_loop [6, 13] (fun v i => ∃ j : Nat, j ≤ t.1.length ∧ i = .int .i64 j ∧ v = .int .u64 (leL (t.1.take j))) (fun _ i => t.1.length - (intOf i).toNat)
  case atStart => exact ⟨0, Nat.zero_le _, rfl, rfl⟩
  case round =>
    obtain ⟨j, hj, rfl, rfl⟩ := hrel
    by_cases hlt : j < t.1.length
    · have hstep := Lib.hid (or_step t.1 j hlt hlen (by rw [bs_size]; exact hlt))
      go_wp2_with fail
      go_round
      case rel => exact ⟨j + 1, by omega, by go_num, by rw [← hstep.out]⟩
      case measure => simp [intOf]; omega
    · have hfin := Lib.hid (show t.1.take j = t.1 from List.take_of_length_le (by omega))
      go_wp2_with fail
      go_ret
      exact ⟨by show Ending.returned (Value.int .u64 (leL (t.1.take j))) = _; rw [hfin.out], hR1, hk1⟩

theorem numR_lt (k : Nat) (l : List UInt8) (x : Int) : (numR k l x).1 < 256 ^ k := by
  have h1 := leL_lt (takeR k l x).1
  have h2 := takeR_len k l x
  have h3 : (256 : Nat) ^ (takeR k l x).1.length ≤ 256 ^ k := Nat.pow_le_pow_right (by decide) (by omega)
  show leL _ < _
  omega

set_option maxRecDepth 100000 in
theorem packNumber_nil (n : Int) (w : World) :
    Calls Try.prog 54 #[.pointer none, .int .i64 n] w fun r w' => r = .returned (.int .u64 0) ∧ w = w' := by
  go_enter Try.func54, Try.ntmps54
  go_wp2_with fail
  refine (packTake_nil _ _).mono ?_; rintro e w1 ⟨rfl, rfl⟩
  go_wp2_with fail
  go_loop [6, 13] (fun v i => i = .int .i64 0 ∧ v = .int .u64 0) (fun _ _ => 0)
  case atStart => exact ⟨rfl, rfl⟩
  case round =>
    obtain ⟨rfl, rfl⟩ := hrel
    go_wp2_with fail
    go_ret
    exact ⟨rfl, rfl⟩

set_option maxRecDepth 100000 in
theorem rdU16 (b : Nat) (l : List UInt8) (x : Int) (w : World) (hR : RdAt w b l x) :
    Calls Try.prog 56 #[.pointer (some ⟨b, 0, none⟩)] w fun r w' => r = .returned (.int .u16 (numR 2 l x).1) ∧ RdAt w' b (numR 2 l x).2.1 (numR 2 l x).2.2 ∧ Kept [b] w w' := by
  have hn : Calls Try.prog 54 #[.pointer (some ⟨b, 0, none⟩), .int .i64 2] w fun r w' => r = .returned (.int .u64 (numR 2 l x).1) ∧ RdAt w' b (numR 2 l x).2.1 (numR 2 l x).2.2 ∧ Kept [b] w w' := packNumber b 2 l x w hR (by omega)
  have hb := numR_lt 2 l x
  have hb' : ((numR 2 l x).1 : Int) < 65536 := by omega
  clear hb
  generalize numR 2 l x = u at *
  go_enter Try.func56, Try.ntmps56
  go_wp2_with fail
  refine hn.mono ?_; rintro e w1 ⟨rfl, hR1, hk1⟩
  go_wp2_with fail
  go_ret
  exact ⟨rfl, hR1, hk1⟩

set_option maxRecDepth 100000 in
theorem rdU32 (b : Nat) (l : List UInt8) (x : Int) (w : World) (hR : RdAt w b l x) :
    Calls Try.prog 55 #[.pointer (some ⟨b, 0, none⟩)] w fun r w' => r = .returned (.int .u32 (numR 4 l x).1) ∧ RdAt w' b (numR 4 l x).2.1 (numR 4 l x).2.2 ∧ Kept [b] w w' := by
  have hn : Calls Try.prog 54 #[.pointer (some ⟨b, 0, none⟩), .int .i64 4] w fun r w' => r = .returned (.int .u64 (numR 4 l x).1) ∧ RdAt w' b (numR 4 l x).2.1 (numR 4 l x).2.2 ∧ Kept [b] w w' := packNumber b 4 l x w hR (by omega)
  have hb := numR_lt 4 l x
  have hb' : ((numR 4 l x).1 : Int) < 4294967296 := by omega
  clear hb
  generalize numR 4 l x = u at *
  go_enter Try.func55, Try.ntmps55
  go_wp2_with fail
  refine hn.mono ?_; rintro e w1 ⟨rfl, hR1, hk1⟩
  go_wp2_with fail
  go_ret
  exact ⟨rfl, hR1, hk1⟩

set_option maxRecDepth 100000 in
theorem rdU64 (b : Nat) (l : List UInt8) (x : Int) (w : World) (hR : RdAt w b l x) :
    Calls Try.prog 34 #[.pointer (some ⟨b, 0, none⟩)] w fun r w' => r = .returned (.int .u64 (numR 8 l x).1) ∧ RdAt w' b (numR 8 l x).2.1 (numR 8 l x).2.2 ∧ Kept [b] w w' := by
  have hn : Calls Try.prog 54 #[.pointer (some ⟨b, 0, none⟩), .int .i64 8] w fun r w' => r = .returned (.int .u64 (numR 8 l x).1) ∧ RdAt w' b (numR 8 l x).2.1 (numR 8 l x).2.2 ∧ Kept [b] w w' := packNumber b 8 l x w hR (by omega)
  have hb := numR_lt 8 l x
  have hb' : ((numR 8 l x).1 : Int) < 18446744073709551616 := by omega
  clear hb
  generalize numR 8 l x = u at *
  go_enter Try.func34, Try.ntmps34
  go_wp2_with fail
  refine hn.mono ?_; rintro e w1 ⟨rfl, hR1, hk1⟩
  go_wp2_with fail
  go_ret
  exact ⟨rfl, hR1, hk1⟩

set_option maxRecDepth 100000 in
theorem rdU16_nil (w : World) :
    Calls Try.prog 56 #[.pointer none] w fun r w' => r = .returned (.int .u16 0) ∧ w = w' := by
  have hn : ∀ w, Calls Try.prog 54 #[.pointer none, .int .i64 2] w fun r w' => r = .returned (.int .u64 0) ∧ w = w' := fun w => packNumber_nil 2 w
  go_enter Try.func56, Try.ntmps56
  go_wp2_with fail
  refine (hn _).mono ?_; rintro e w1 ⟨rfl, rfl⟩
  go_wp2_with fail
  go_ret
  exact ⟨rfl, rfl⟩

set_option maxRecDepth 100000 in
theorem rdU32_nil (w : World) :
    Calls Try.prog 55 #[.pointer none] w fun r w' => r = .returned (.int .u32 0) ∧ w = w' := by
  have hn : ∀ w, Calls Try.prog 54 #[.pointer none, .int .i64 4] w fun r w' => r = .returned (.int .u64 0) ∧ w = w' := fun w => packNumber_nil 4 w
  go_enter Try.func55, Try.ntmps55
  go_wp2_with fail
  refine (hn _).mono ?_; rintro e w1 ⟨rfl, rfl⟩
  go_wp2_with fail
  go_ret
  exact ⟨rfl, rfl⟩

set_option maxRecDepth 100000 in
theorem rdU64_nil (w : World) :
    Calls Try.prog 34 #[.pointer none] w fun r w' => r = .returned (.int .u64 0) ∧ w = w' := by
  have hn : ∀ w, Calls Try.prog 54 #[.pointer none, .int .i64 8] w fun r w' => r = .returned (.int .u64 0) ∧ w = w' := fun w => packNumber_nil 8 w
  go_enter Try.func34, Try.ntmps34
  go_wp2_with fail
  refine (hn _).mono ?_; rintro e w1 ⟨rfl, rfl⟩
  go_wp2_with fail
  go_ret
  exact ⟨rfl, rfl⟩

/-- a length that is not above a greatest one. -/
def lenR (most : Nat) (l : List UInt8) (x : Int) : Nat × List UInt8 × Int :=
  let u := numR 4 l x
  if most < u.1 then (0, [], keepErr 2 u.2.2) else u

/-- the next text. -/
def textR (l : List UInt8) (x : Int) : List UInt8 × List UInt8 × Int :=
  let u := lenR 65536 l x
  takeR u.1 u.2.1 u.2.2

/-- what End tells. -/
def endR (l : List UInt8) (x : Int) : Int := if x = 0 ∧ l ≠ [] then 7 else x

end Go.Proofs.Ytpdmnjcklpklnaa
