/- Walks of layer 9 (disk): an image loaded. -/
import Derived.Test.YtkhbobjfmedimaaD13
namespace Go.Proofs.Ytkhbobjfmedimaa
open Go.RowKit Go.Maps
set_option linter.unusedVariables false
set_option linter.unusedSimpArgs false

/-- the i-th sector of an image. -/
def cutS (img : List UInt8) (i : Nat) : List UInt8 := (img.drop (128 * i)).take 128
/-- the first k sectors of n. -/
def loadTo (img : List UInt8) (n k : Nat) : List (List UInt8) := (List.range k).map (cutS img) ++ List.replicate (n - k) []
theorem loadTo_len (img : List UInt8) (n k : Nat) (h : k ≤ n) : (loadTo img n k).length = n := by unfold loadTo; rw [List.length_append, List.length_map, List.length_range, List.length_replicate]; omega
theorem loadTo_succ (img : List UInt8) (n k : Nat) (h : k < n) : (loadTo img n k).set k (cutS img k) = loadTo img n (k + 1) := by
  unfold loadTo
  rw [List.set_append_right _ _ (by simp)]
  have e : n - k = (n - (k + 1)) + 1 := by omega
  rw [e, List.replicate_succ, List.length_map, List.length_range, Nat.sub_self, List.set_cons_zero, List.range_succ, List.map_append]
  simp
theorem extract_cut (img : List UInt8) (k : Nat) : (bs img).extract (128 * k) (128 * k + 128) = bs (cutS img k) := by
  apply ByteArray.ext
  unfold cutS
  simp [bs, ByteArray.data_extract, List.take_drop]
set_option maxRecDepth 100000 in
set_option maxHeartbeats 1000000 in
theorem dLoad (img : List UInt8) (n : Nat) (w : World) (hl : img.length = 128 * n) (h1 : 1 ≤ n) (h2 : n ≤ 8192) :
    Calls Try.prog 14 #[.string (bs img)] w fun e w' => ∃ b sb mb lo, e = .returned (.tuple #[.pointer (some ⟨b, 0, none⟩), .int .i64 0]) ∧ DiskAt w' b sb mb lo (newD (loadTo img n n)) ∧ w.heap.size ≤ sb ∧ w.heap.size ≤ mb ∧ w.heap.size ≤ b ∧ Kept [] w w' := by
  have hz : (bs img).size = 128 * n := by rw [bs_size, hl]
  have hmk := run_make_strs n h2
  have e0 : fillTo n 0 = loadTo img n 0 := rfl
  rw [e0] at hmk
  have o := Own.new w (scells (loadTo img n 0)) 9
  have i1 : (1 : Int) ≤ n := by omega
  have i2 : (n : Int) ≤ 8192 := by omega
  have hq : ((128 * n : Nat) : Int) = 128 * (n : Int) := by omega
  go_enter Try.func14, Try.ntmps14
  go_wp2_with fail
  go_loopw [26] (fun i wr => ∃ k : Nat, k ≤ n ∧ i = .int .i64 k ∧ Own wr w.heap.size (scells (loadTo img n k)) 9 ∧ Kept [] w wr) (fun i _ => n - (intOf i).toNat)
  case atStart => exact ⟨0, by omega, rfl, o, (Kept.refl _ _).alloc _⟩
  case round =>
    obtain ⟨k, hk, rfl, os, hK⟩ := hrel
    by_cases hlt : k < n
    · have HLT := Lib.hid hlt
      have hsize : k < (scells (loadTo img n k)).size := by simp [scells, loadTo_len img n k hk]; exact hlt
      obtain ⟨v0, s0⟩ : ∃ v0, wr.cell? ⟨w.heap.size, k, none⟩ = some v0 := ⟨_, os.cell k hsize⟩
      have zs := os.free k
      have hfin : Own (wr.setCell ⟨w.heap.size, k, none⟩ (.string (bs (cutS img k)))) w.heap.size (scells (loadTo img n (k + 1))) 9 := by
        rw [← loadTo_succ img n k hlt, ← scells_set]
        exact os.set k _
      have hkf := hK.setCell (p := ⟨w.heap.size, k, none⟩) (Or.inr (Nat.le_refl _)) (.string (bs (cutS img k)))
      have hx := extract_cut img k
      have hx2 : (bs img).extract (128 * k) (128 * (k + 1)) = bs (cutS img k) := hx
      have t1 : (128 * (k : Int)).toNat = 128 * k := by omega
      have t2 : (128 * ((k : Int) + 1)).toNat = 128 * (k + 1) := by omega
      have b1 : 128 * ((k : Int) + 1) ≤ 128 * (n : Int) := by omega
      have b2 : 128 * (k : Int) ≤ 128 * ((k : Int) + 1) := by omega
      have HF := Lib.hid hfin
      clear hfin os hsize o hx
      generalize bs (cutS img k) = C at *
      go_wp2_with fail
      go_roundw
      case rel => exact ⟨k + 1, HLT.out, by go_num, HF.out, hkf⟩
      case measure => (have hh := HLT.out; simp [intOf]; omega)
    · obtain rfl : k = n := by omega
      have hlen := loadTo_len img k k (Nat.le_refl _)
      have hmd := dMade w.heap.size (loadTo img k k) wr os (by rw [hlen]; exact h1) (by rw [hlen]; exact h2)
      rw [hlen] at hmd
      have hsz := hK.size
      have HM := Lib.hid hmd
      clear hmd os
      go_wp2_with fail
      refine HM.out.mono ?_; rintro e w2 ⟨rfl, hD, k2⟩
      go_wp2_with fail
      go_ret2
      exact ⟨_, _, _, _, rfl, hD, Nat.le_refl _, hsz, by omega, hK.trans k2⟩
end Go.Proofs.Ytkhbobjfmedimaa
