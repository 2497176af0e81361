/- Walks of layer 1 (pack): numbers as bytes. -/
import Derived.Test.YtpdmnjcklpklnaaRows
import Derived.Test.YtpdmnjcklpklnaaKept
import Derived.Lib.ConvBytes
import Derived.Lib.SlBytesRow
namespace Go.Proofs.Ytpdmnjcklpklnaa
open Go.RowKit
set_option linter.unusedVariables false
set_option linter.unusedSimpArgs false

/-- a number's bytes, so many, the lowest first. -/
def numL : Nat → Nat → List UInt8
  | _, 0 => []
  | n, k + 1 => UInt8.ofNat n :: numL (n / 256) k
theorem numL_len (n k : Nat) : (numL n k).length = k := by
  induction k generalizing n with
  | zero => rfl
  | succ k ih => simp [numL, ih]
theorem numL_snoc (n k : Nat) : numL n (k + 1) = numL n k ++ [UInt8.ofNat (n / 256 ^ k)] := by
  induction k generalizing n with
  | zero => simp [numL]
  | succ k ih =>
    rw [numL, ih (n / 256), numL, Nat.div_div_eq_div_mul, Nat.pow_succ, Nat.mul_comm 256]
    rfl

/-- the cells of bytes. -/
def bcells (l : List UInt8) : Array Value := (l.map fun b => Value.int .u8 (b.toNat : Int)).toArray
theorem bcells_size (l : List UInt8) : (bcells l).size = l.length := by simp [bcells]
theorem bcells_set (l : List UInt8) (i : Nat) (c : UInt8) : (bcells l).setIfInBounds i (.int .u8 (c.toNat : Int)) = bcells (l.set i c) := by
  apply Array.toList_inj.1
  simp [bcells]
theorem own_bytes {w : World} {b : Nat} {l : List UInt8} {t : TypeId} (h : Own w b (bcells l) t) : Lib.Bytes w b 0 (bs l) := by
  intro i hi
  rw [bs_size] at hi
  rw [Nat.zero_add, h.cell i (by rw [bcells_size]; exact hi)]
  simp only [bcells, List.getElem_toArray, List.getElem_map]
  rfl

theorem num_step {w : World} {b n k i : Nat} {t : TypeId} (ho : Own w b (bcells (numL n i ++ List.replicate (k - i) 0)) t) (hlt : i < k) :
    Own (w.setCell ⟨b, i, none⟩ (.int .u8 ((n : Int) / 2 ^ (8 * i) % 256))) b (bcells (numL n (i + 1) ++ List.replicate (k - (i + 1)) 0)) t := by
  have h := ho.set i (.int .u8 ((UInt8.ofNat (n / 256 ^ i)).toNat : Int))
  rw [bcells_set] at h
  have e1 : ((UInt8.ofNat (n / 256 ^ i)).toNat : Int) = (n : Int) / 2 ^ (8 * i) % 256 := by
    rw [UInt8.toNat_ofNat']
    have : (2 : Nat) ^ (8 * i) = 256 ^ i := by rw [Nat.pow_mul]
    rw [← this]
    simp
  have e2 : (numL n i ++ List.replicate (k - i) 0).set i (UInt8.ofNat (n / 256 ^ i)) = numL n (i + 1) ++ List.replicate (k - (i + 1)) 0 := by
    obtain ⟨d, hd⟩ : ∃ d, k - i = d + 1 := ⟨k - i - 1, by omega⟩
    have hd' : k - (i + 1) = d := by omega
    rw [hd, hd', List.replicate_succ, numL_snoc, List.set_append_right _ _ (by rw [numL_len]; exact Nat.le_refl _), numL_len, Nat.sub_self]
    simp
  rw [e1, e2] at h
  exact h

set_option maxRecDepth 100000 in
theorem packnum (n k : Nat) (w : World) (hn : n < 2 ^ 64) (hk : k ≤ 8) :
    Calls Try.prog 60 #[.int .u64 n, .int .i64 k] w fun e w' => e = .returned (.string (bs (numL n k))) ∧ Kept [] w w' := by
  have hi : (Try.prog.info? 5).map (fun i => (i.zero, i.size, i.bytes)) = some (some (.int .u8 0), 1, 1) := by kernel_rfl
  obtain ⟨i0, hi0, hz0, hz1, hz2⟩ := info_parts hi
  have hmk : ∀ w : World, (Instr.makeSlice 85 (.int .i64 k) (.int .i64 k)).run Try.prog w = .ok (.slice (some ⟨w.heap.size, 0, none⟩) k k) (w.alloc (.cells (bcells (List.replicate k 0)) 5)) := fun w => by
    have h := run_make (P := Try.prog) w 85 5 i0 (.int .u8 0) Try.underlying85 hi0 hz0 .i64 .i64 k k (by omega) (by omega) (by rw [hz2]; omega) (by omega)
    rw [h, hz1]
    congr 3
    apply Array.toList_inj.1
    simp [bcells, Value.cells, toList_madeCells_one]
  go_enter Try.func60, Try.ntmps60
  go_wp2_with fail
  go_loopw [11] (fun x wr => ∃ i : Nat, i ≤ k ∧ x = .int .i64 i ∧ Own wr w.heap.size (bcells (numL n i ++ List.replicate (k - i) 0)) 5 ∧ Kept [] w wr) (fun x _ => k - (intOf x).toNat)
  case atStart => exact ⟨0, Nat.zero_le _, rfl, Own.new _ _ _, (Kept.refl _ _).alloc _⟩
  case round =>
    obtain ⟨i, hik, rfl, ho, hkp⟩ := hrel
    by_cases hlt : i < k
    · have c0 : ∃ v, wr.cell? ⟨w.heap.size, i, none⟩ = some v := ⟨_, ho.cell i (by rw [bcells_size]; simp [numL_len]; omega)⟩
      obtain ⟨v, c0⟩ := c0
      have z0 := ho.free i
      go_wp2_with fail
      go_roundw
      case rel => exact ⟨i + 1, by omega, by go_num, num_step ho hlt, hkp.setCell (Or.inr (Nat.le_refl _)) _⟩
      case measure => simp [intOf]; omega
    · obtain rfl : i = k := by omega
      have hb := own_bytes ho
      have e : numL n i ++ List.replicate (i - i) 0 = numL n i := by rw [Nat.sub_self]; simp
      rw [e] at hb
      have hconv := Lib.run_convert_whole (P := Try.prog) wr 85 5 9 Try.underlying85 Try.underlying5 Try.underlying9 _ _ _ hb i
      rw [bs_size, numL_len] at hconv
      go_wp2_with fail
      go_ret
      exact ⟨rfl, hkp⟩


set_option maxRecDepth 100000 in
theorem packU16 (n : Nat) (w : World) (hn : n < 65536) :
    Calls Try.prog 48 #[.int .u16 n] w fun e w' => e = .returned (.string (bs (numL n 2))) ∧ Kept [] w w' := by
  have h : ∀ w, Calls Try.prog 60 #[.int .u64 n, .int .i64 2] w fun e w' => e = .returned (.string (bs (numL n 2))) ∧ Kept [] w w' := fun w => packnum n 2 w (by omega) (by omega)
  go_enter Try.func48, Try.ntmps48
  go_wp2_with fail
  refine (h _).mono ?_; rintro e w1 ⟨rfl, hk⟩
  go_wp2_with fail
  go_ret
  exact ⟨rfl, hk⟩

set_option maxRecDepth 100000 in
theorem packU32 (n : Nat) (w : World) (hn : n < 4294967296) :
    Calls Try.prog 45 #[.int .u32 n] w fun e w' => e = .returned (.string (bs (numL n 4))) ∧ Kept [] w w' := by
  have h : ∀ w, Calls Try.prog 60 #[.int .u64 n, .int .i64 4] w fun e w' => e = .returned (.string (bs (numL n 4))) ∧ Kept [] w w' := fun w => packnum n 4 w (by omega) (by omega)
  go_enter Try.func45, Try.ntmps45
  go_wp2_with fail
  refine (h _).mono ?_; rintro e w1 ⟨rfl, hk⟩
  go_wp2_with fail
  go_ret
  exact ⟨rfl, hk⟩

set_option maxRecDepth 100000 in
theorem packU64 (n : Nat) (w : World) (hn : n < 18446744073709551616) :
    Calls Try.prog 50 #[.int .u64 n] w fun e w' => e = .returned (.string (bs (numL n 8))) ∧ Kept [] w w' := by
  have h : ∀ w, Calls Try.prog 60 #[.int .u64 n, .int .i64 8] w fun e w' => e = .returned (.string (bs (numL n 8))) ∧ Kept [] w w' := fun w => packnum n 8 w (by omega) (by omega)
  go_enter Try.func50, Try.ntmps50
  go_wp2_with fail
  refine (h _).mono ?_; rintro e w1 ⟨rfl, hk⟩
  go_wp2_with fail
  go_ret
  exact ⟨rfl, hk⟩

/-- a text's bytes. -/
def textL (l : List UInt8) : List UInt8 := numL l.length 4 ++ l
theorem bs_append' (a : List UInt8) (s : ByteArray) : bs a ++ s = bs (a ++ s.data.toList) := by
  apply ByteArray.ext; apply Array.toList_inj.1; simp [bs, ByteArray.data_append]
theorem size_data (s : ByteArray) : s.data.toList.length = s.size := by simp

/-! ### the reader -/
/-- a reader stands at b: what is left, and the first error. -/
def RdAt (w : World) (b : Nat) (l : List UInt8) (e : Int) : Prop := Own w b #[.string (bs l), .int .i64 e] 81

set_option maxRecDepth 100000 in
theorem packRead (s : ByteArray) (w : World) :
    Calls Try.prog 32 #[.string s] w fun e w' => e = .returned (.pointer (some ⟨w.heap.size, 0, none⟩)) ∧ RdAt w' w.heap.size s.data.toList 0 ∧ Kept [] w w' := by
  go_enter Try.func32, Try.ntmps32
  go_wp2_with fail
  go_ret
  refine ⟨rfl, ?_, (Kept.refl _ _).alloc _⟩
  have h := Own.new w #[.string s, .int .i64 0] 81
  unfold RdAt
  rw [bs_of]
  exact h

/-- the first error stays. -/
def keepErr (e x : Int) : Int := if x = 0 then e else x
theorem keepErr_zero (e : Int) : keepErr e 0 = e := rfl
theorem keepErr_ne {e x : Int} (h : x ≠ 0) : keepErr e x = x := if_neg h

set_option maxRecDepth 100000 in
theorem packFail (b : Nat) (l : List UInt8) (x e : Int) (w : World) (hR : RdAt w b l x) :
    Calls Try.prog 53 #[.pointer (some ⟨b, 0, none⟩), .int .i64 e] w fun r w' => r = .returned (.tuple #[]) ∧ RdAt w' b [] (keepErr e x) ∧ Kept [b] w w' := by
  have c0 : w.cell? ⟨b, 0, none⟩ = some (.string (bs l)) := Own.cell hR 0 (by simp)
  have c1 : w.cell? ⟨b, 1, none⟩ = some (.int .i64 x) := Own.cell hR 1 (by simp)
  have z0 := Own.free hR 0
  have z1 := Own.free hR 1
  by_cases hx : x = 0
  · subst hx
    rw [keepErr_zero]
    go_enter Try.func53, Try.ntmps53
    go_wp2_with fail
    go_end0
    refine ⟨rfl, ?_, ((Kept.refl _ _).setCell (Or.inl (by simp)) _).setCell (Or.inl (by simp)) _⟩
    have h2 := (Own.set hR 0 (.string { data := #[] })).set 1 (.int .i64 e)
    unfold RdAt
    simpa [bs] using h2
  · have hd : (x == 0) = false := by simpa using hx
    rw [keepErr_ne hx]
    go_enter Try.func53, Try.ntmps53
    go_wp2_with fail
    go_end0
    refine ⟨rfl, ?_, (Kept.refl _ _).setCell (Or.inl (by simp)) _⟩
    have h2 := Own.set hR 0 (.string { data := #[] })
    unfold RdAt

    simpa [bs] using h2
end Go.Proofs.Ytpdmnjcklpklnaa
