/- Walks of layer 1 (pack): numbers as bytes. -/
import Derived.Test.YtdnbddhjdokbfaaRows
import Derived.Test.YtdnbddhjdokbfaaShelf
import Derived.Test.YtdnbddhjdokbfaaG01
import Derived.Lib.ConvBytes
import Derived.Lib.SlBytesRow
import Derived.Deep.LoopGhost
import Derived.Lib.Builder
namespace Go.Proofs.Ytdnbddhjdokbfaa
open Go.RowKit
set_option linter.unusedVariables false
set_option linter.unusedSimpArgs false

/-- a number's bytes, so many, the lowest first. -/
def numL : Nat → Nat → List UInt8
  | _, 0 => []
  | n, k + 1 => UInt8.ofNat n :: numL (n / 256) k
theorem numL_len (n k : Nat) : (numL n k).length = k := by
  induction k generalizing n with
  | zero => rfl
  | succ k ih => simp [numL, ih]
theorem numL_snoc (n k : Nat) : numL n (k + 1) = numL n k ++ [UInt8.ofNat (n / 256 ^ k)] := by
  induction k generalizing n with
  | zero => simp [numL]
  | succ k ih =>
    rw [numL, ih (n / 256), numL, Nat.div_div_eq_div_mul, Nat.pow_succ, Nat.mul_comm 256]
    rfl

/-- the cells of bytes. -/
def bcells (l : List UInt8) : Array Value := (l.map fun b => Value.int .u8 (b.toNat : Int)).toArray
theorem bcells_size (l : List UInt8) : (bcells l).size = l.length := by simp [bcells]
theorem bcells_set (l : List UInt8) (i : Nat) (c : UInt8) : (bcells l).setIfInBounds i (.int .u8 (c.toNat : Int)) = bcells (l.set i c) := by
  apply Array.toList_inj.1
  simp [bcells]
theorem own_bytes {w : World} {b : Nat} {l : List UInt8} {t : TypeId} (h : Own w b (bcells l) t) : Lib.Bytes w b 0 (bs l) := by
  intro i hi
  rw [bs_size] at hi
  rw [Nat.zero_add, h.cell i (by rw [bcells_size]; exact hi)]
  simp only [bcells, List.getElem_toArray, List.getElem_map]
  rfl

theorem num_step {w : World} {b n k i : Nat} {t : TypeId} (ho : Own w b (bcells (numL n i ++ List.replicate (k - i) 0)) t) (hlt : i < k) :
    Own (w.setCell ⟨b, i, none⟩ (.int .u8 ((n : Int) / 2 ^ (8 * i) % 256))) b (bcells (numL n (i + 1) ++ List.replicate (k - (i + 1)) 0)) t := by
  have h := ho.set i (.int .u8 ((UInt8.ofNat (n / 256 ^ i)).toNat : Int))
  rw [bcells_set] at h
  have e1 : ((UInt8.ofNat (n / 256 ^ i)).toNat : Int) = (n : Int) / 2 ^ (8 * i) % 256 := by
    rw [UInt8.toNat_ofNat']
    have : (2 : Nat) ^ (8 * i) = 256 ^ i := by rw [Nat.pow_mul]
    rw [← this]
    simp
  have e2 : (numL n i ++ List.replicate (k - i) 0).set i (UInt8.ofNat (n / 256 ^ i)) = numL n (i + 1) ++ List.replicate (k - (i + 1)) 0 := by
    obtain ⟨d, hd⟩ : ∃ d, k - i = d + 1 := ⟨k - i - 1, by omega⟩
    have hd' : k - (i + 1) = d := by omega
    rw [hd, hd', List.replicate_succ, numL_snoc, List.set_append_right _ _ (by rw [numL_len]; exact Nat.le_refl _), numL_len, Nat.sub_self]
    simp
  rw [e1, e2] at h
  exact h

/-- a text's bytes. -/
def textL (l : List UInt8) : List UInt8 := numL l.length 4 ++ l
theorem bs_append' (a : List UInt8) (s : ByteArray) : bs a ++ s = bs (a ++ s.data.toList) := by
  apply ByteArray.ext; apply Array.toList_inj.1; simp [bs, ByteArray.data_append]
theorem size_data (s : ByteArray) : s.data.toList.length = s.size := by simp

/-! ### the reader -/
/-- the first error stays. -/
def keepErr (e x : Int) : Int := if x = 0 then e else x
theorem keepErr_zero (e : Int) : keepErr e 0 = e := rfl
theorem keepErr_ne {e x : Int} (h : x ≠ 0) : keepErr e x = x := if_neg h

end Go.Proofs.Ytdnbddhjdokbfaa

/- Walks of layer 1 (pack): the reader. -/
namespace Go.Proofs.Ytdnbddhjdokbfaa
open Go.RowKit
set_option linter.unusedVariables false
set_option linter.unusedSimpArgs false

/-- the next n bytes; and the reader behind it. -/
def takeR (n : Int) (l : List UInt8) (x : Int) : List UInt8 × List UInt8 × Int :=
  if x ≠ 0 then ([], l, x) else if n < 0 then ([], [], 1) else if (l.length : Int) < n then ([], [], 10) else (l.take n.toNat, l.drop n.toNat, 0)

theorem ret_str {a b : List UInt8} (h : a = b) : Ending.returned (.string (bs a)) = .returned (.string (bs b)) := by rw [h]

/-- the number of bytes, the lowest first. -/
def leL : List UInt8 → Nat
  | [] => 0
  | c :: l => c.toNat + 256 * leL l
theorem leL_lt (l : List UInt8) : leL l < 256 ^ l.length := by
  induction l with
  | nil => simp [leL]
  | cons c l ih =>
    have := c.toNat_lt
    simp only [leL, List.length_cons, Nat.pow_succ]
    omega
theorem leL_snoc (l : List UInt8) (c : UInt8) : leL (l ++ [c]) = leL l + 256 ^ l.length * c.toNat := by
  induction l with
  | nil => simp [leL]
  | cons d l ih =>
    simp only [List.cons_append, leL, ih, List.length_cons, Nat.pow_succ]
    rw [Nat.mul_add, ← Nat.mul_assoc, Nat.mul_comm 256 (256 ^ l.length)]; omega
theorem leL_numL (n k : Nat) : leL (numL n k) = n % 256 ^ k := by
  induction k generalizing n with
  | zero => simp [numL, leL, Nat.mod_one]
  | succ k ih =>
    have e : (UInt8.ofNat n).toNat = n % 256 := by rw [UInt8.toNat_ofNat']
    simp only [numL, leL, ih]
    rw [e, Nat.pow_succ, Nat.mul_comm (256 ^ k) 256, Nat.mod_mul]
theorem numL_leL (l : List UInt8) : numL (leL l) l.length = l := by
  induction l with
  | nil => rfl
  | cons c l ih =>
    have hc := c.toNat_lt
    simp only [leL, List.length_cons, numL]
    have e1 : UInt8.ofNat (c.toNat + 256 * leL l) = c := by
      apply UInt8.toNat_inj.1
      rw [UInt8.toNat_ofNat']; omega
    have e2 : (c.toNat + 256 * leL l) / 256 = leL l := by omega
    rw [e1, e2, ih]

def numR (k : Nat) (l : List UInt8) (x : Int) : Nat × List UInt8 × Int := (leL (takeR k l x).1, (takeR k l x).2)
theorem takeR_len (n : Int) (l : List UInt8) (x : Int) : (takeR n l x).1.length ≤ n.toNat := by
  unfold takeR; split
  · simp
  · split
    · simp
    · split
      · simp
      · simp; omega

theorem or_step (t : List UInt8) (j : Nat) (hj : j < t.length) (hl : t.length ≤ 8) (hb : j < (bs t).size) :
    bits .or .u64 (leL (t.take j)) (IntKind.u64.wrap (IntKind.u64.wrap ((bs t)[j].toNat : Int) * 2 ^ (8 * j))) = (leL (t.take (j + 1)) : Int) := by
  have hc : (bs t)[j].toNat < 256 := by have := (bs t)[j].toNat_lt; omega
  have hlt := leL_lt (t.take j)
  have hlj : (t.take j).length = j := by simp; omega
  rw [hlj] at hlt
  have hp : (256 : Nat) ^ j = 2 ^ (8 * j) := by rw [Nat.pow_mul]
  have hpj : (2 : Nat) ^ (8 * j) ≤ 2 ^ 56 := Nat.pow_le_pow_right (by decide) (by omega)
  have hm : (bs t)[j].toNat * 2 ^ (8 * j) < 2 ^ 64 := by
    have := Nat.mul_le_mul (Nat.le_of_lt_succ hc) hpj
    omega
  have hts : t.take (j + 1) = t.take j ++ [t[j]] := by rw [List.take_succ_eq_append_getElem hj]; rfl
  have hg : (bs t)[j] = t[j] := rfl
  have w1 : IntKind.u64.wrap ((bs t)[j].toNat : Int) = ((bs t)[j].toNat : Int) := by simp [IntKind.wrap, IntKind.signed, IntKind.bits]; omega
  have w2 : IntKind.u64.wrap (((bs t)[j].toNat * 2 ^ (8 * j) : Nat) : Int) = (((bs t)[j].toNat * 2 ^ (8 * j) : Nat) : Int) := by
    have h : (((bs t)[j].toNat * 2 ^ (8 * j) : Nat) : Int) < 18446744073709551616 := by omega
    have h0 : (0 : Int) ≤ (((bs t)[j].toNat * 2 ^ (8 * j) : Nat) : Int) := by omega
    generalize (((bs t)[j].toNat * 2 ^ (8 * j) : Nat) : Int) = X at *
    simp [IntKind.wrap, IntKind.signed, IntKind.bits]; omega
  have e : ((bs t)[j].toNat : Int) * 2 ^ (8 * j) = (((bs t)[j].toNat * 2 ^ (8 * j) : Nat) : Int) := by simp
  rw [w1, e, w2, bits_or_u64_nat _ _ (by omega) (by omega)]
  congr 1
  rw [hts, leL_snoc, hlj, hp, Nat.or_comm, Nat.mul_comm (bs t)[j].toNat, ← Nat.two_pow_add_eq_or_of_lt (by omega), hg]
  omega

theorem numR_lt (k : Nat) (l : List UInt8) (x : Int) : (numR k l x).1 < 256 ^ k := by
  have h1 := leL_lt (takeR k l x).1
  have h2 := takeR_len k l x
  have h3 : (256 : Nat) ^ (takeR k l x).1.length ≤ 256 ^ k := Nat.pow_le_pow_right (by decide) (by omega)
  show leL _ < _
  omega

/-- a length that is not above a greatest one. -/
def lenR (most : Nat) (l : List UInt8) (x : Int) : Nat × List UInt8 × Int :=
  let u := numR 4 l x
  if most < u.1 then (0, [], keepErr 2 u.2.2) else u

/-- the next text. -/
def textR (l : List UInt8) (x : Int) : List UInt8 × List UInt8 × Int :=
  let u := lenR 65536 l x
  takeR u.1 u.2.1 u.2.2

/-- what End tells. -/
def endR (l : List UInt8) (x : Int) : Int := if x = 0 ∧ l ≠ [] then 7 else x

end Go.Proofs.Ytdnbddhjdokbfaa

/- Walks of layer 1 (pack): a builder written; lists as bytes; texts filled up. -/
namespace Go.Proofs.Ytdnbddhjdokbfaa
open Go.RowKit
set_option linter.unusedVariables false
set_option linter.unusedSimpArgs false

/-- a text, filled up with noughts. -/
def fillL (l : List UInt8) (n : Int) : List UInt8 := l ++ List.replicate (n - l.length).toNat 0
theorem repeat_zero (k : Nat) : Lib.repeatL [0] k = List.replicate k 0 := by
  induction k with
  | zero => rfl
  | succ k ih => rw [Lib.repeatL, ih]; rfl

set_option maxRecDepth 100000 in
theorem packFill (s : ByteArray) (n : Int) (w : World) (hs : s.size ≤ 1000000) (hn : n ≤ 1000000) :
    Calls Try.prog 39 #[.string s, .int .i64 n] w fun e w' => e = .returned (.string (bs (fillL s.data.toList n))) ∧ Kept [] w w' := by
  by_cases hle : n ≤ s.size
  · have e : fillL s.data.toList n = s.data.toList := by
      unfold fillL; rw [size_data, show (n - (s.size : Int)).toNat = 0 from by omega]; simp
    rw [e, bs_of]
    clear e
    go_enter Try.func39, Try.ntmps39
    go_wp2_with fail
    go_ret
    exact ⟨rfl, Kept.refl _ _⟩
  · obtain ⟨d, hd⟩ : ∃ d : Nat, n - (s.size : Int) = d := ⟨(n - s.size).toNat, by omega⟩
    have e : fillL s.data.toList n = s.data.toList ++ List.replicate d 0 := by
      unfold fillL; rw [size_data, show (n - (s.size : Int)).toNat = d from by omega]
    have hrep : ∀ w, Calls Try.prog 49 #[.string { data := #[0] }, .int .i64 d] w fun e w' => e = .returned (.string (bs (List.replicate d 0))) ∧ Below w.heap.size w w' := fun w => by
      have h := Try.strings_Repeat { data := #[0] } d w (by omega) (by show 1 * d ≤ _; omega)
      have e : (⟨(Lib.repeatL (ByteArray.mk #[0]).data.toList d).toArray⟩ : ByteArray) = bs (List.replicate d 0) := by
        show bs (Lib.repeatL [0] d) = _
        rw [repeat_zero]
      rw [e] at h
      exact h
    have hz : (bs (List.replicate d 0)).size ≤ 1000000 := by rw [bs_size]; simp; omega
    have hfin : Hid (s ++ bs (List.replicate d 0) = bs (s.data.toList ++ List.replicate d 0)) := by
      show s ++ bs (List.replicate d 0) = _
      rw [← bs_append, bs_of]
    rw [e]
    have hlt : (s.size : Int) < n := by omega
    clear e hle
    go_enter Try.func39, Try.ntmps39
    go_wp2_with fail
    refine (hrep _).mono ?_; rintro e w1 ⟨rfl, hb⟩
    go_wp2_with fail
    go_ret
    exact ⟨by show Ending.returned (Value.string (s ++ bs (List.replicate d 0))) = _; rw [hfin.out], Kept.of_below hb⟩
end Go.Proofs.Ytdnbddhjdokbfaa
