/- Walks of layer 9 (disk): a new disk. -/
import Derived.Test.YtkhbobjfmedimaaD7
import Derived.Test.YtkhbobjfmedimaaRw
import Derived.Test.YtkhbobjfmedimaaShelf
import Derived.Lib.Builder
namespace Go.Proofs.Ytkhbobjfmedimaa
open Go.RowKit Go.Maps
set_option linter.unusedVariables false
set_option linter.unusedSimpArgs false

theorem rep_zero (k : Nat) : Lib.repeatL [0] k = List.replicate k 0 := by
  induction k with
  | zero => rfl
  | succ k ih => rw [Lib.repeatL, ih]; rfl
/-- a sector of noughts. -/
def zeroS : List UInt8 := List.replicate 128 0
theorem dRep (w : World) : Calls Try.prog 26 #[.string { data := #[0] }, .int .i64 128] w fun e w' => e = .returned (.string (bs zeroS)) ∧ Kept [] w w' := by
  have h := Try.strings_Repeat { data := #[0] } 128 w (by omega) (by show 1 * 128 ≤ _; omega)
  have e : (⟨(Lib.repeatL (ByteArray.mk #[0]).data.toList 128).toArray⟩ : ByteArray) = bs zeroS := by
    show bs (Lib.repeatL [0] 128) = _
    rw [rep_zero]; rfl
  rw [e] at h
  exact h.mono fun e w' hh => ⟨hh.1, Kept.of_below hh.2⟩
def newD (st : List (List UInt8)) : DK := ⟨st, [], -1, 0, false⟩
theorem dMade (sb : Nat) (st : List (List UInt8)) (w : World) (o : Own w sb (scells st) 9) (h1 : 1 ≤ st.length) (h2 : st.length ≤ 8192) :
    Calls Try.prog 27 #[.slice (some ⟨sb, 0, none⟩) st.length st.length] w fun e w' => e = .returned (.pointer (some ⟨w.heap.size + 1, 0, none⟩)) ∧ DiskAt w' (w.heap.size + 1) sb w.heap.size (w.heap.size + 2) (newD st) ∧ Kept [] w w' := by
  have hmm := @run_makeMap Try.prog
  have hlt := o.lt
  have hm := (MapAt.made w).alloc (.cells #[.slice (some ⟨sb, 0, none⟩) st.length st.length, .slice none 0 0, .map (some w.heap.size), .int .i64 (-1), .int .i64 0, .bool false] 56)
  have ob := Own.new (w.alloc (.map #[] 0)) #[.slice (some ⟨sb, 0, none⟩) st.length st.length, .slice none 0 0, .map (some w.heap.size), .int .i64 (-1), .int .i64 0, .bool false] 56
  rw [World.size_alloc] at ob
  have os := (o.alloc (.map #[] 0)).alloc (.cells #[.slice (some ⟨sb, 0, none⟩) st.length st.length, .slice none 0 0, .map (some w.heap.size), .int .i64 (-1), .int .i64 0, .bool false] 56)
  go_enter Try.func27, Try.ntmps27
  go_wp2_with fail
  go_ret
  refine ⟨rfl, ⟨.slice none 0 0, 0, ob, os, World.ownsRow_nil _ _ _ _, hm, Nat.le_refl _, ?_, ?_, ?_, ?_, ?_, h1, h2, ?_, ?_, ?_⟩, ((Kept.refl _ _).alloc _).alloc _⟩
  · omega
  · omega
  · omega
  · omega
  · simp
  · show (-1 : Int) ≤ -1; omega
  · show (-1 : Int) ≤ 9223372036854775807; omega
  · exact Nat.zero_le _
/-- the first k sectors are noughts. -/
def fillTo (n k : Nat) : List (List UInt8) := List.replicate k zeroS ++ List.replicate (n - k) []
theorem fillTo_len (n k : Nat) (h : k ≤ n) : (fillTo n k).length = n := by unfold fillTo; rw [List.length_append, List.length_replicate, List.length_replicate]; omega
theorem fillTo_succ (n k : Nat) (h : k < n) : (fillTo n k).set k zeroS = fillTo n (k + 1) := by
  unfold fillTo
  rw [List.set_append_right _ _ (by simp)]
  have e : n - k = (n - (k + 1)) + 1 := by omega
  rw [e, List.replicate_succ, List.length_replicate, Nat.sub_self, List.set_cons_zero, List.replicate_succ']
  simp
theorem infoStr : ∃ i, Try.prog.info? 9 = some i ∧ i.zero = some (.string ⟨#[]⟩) ∧ i.size = 1 ∧ i.bytes = 16 := by
  have hi : (Try.prog.info? 9).map (fun i => (i.zero, i.size, i.bytes)) = some (some (.string ⟨#[]⟩), 1, 16) := by kernel_rfl
  obtain ⟨i0, hi0, hz0, hz1, hz2⟩ := info_parts hi
  exact ⟨i0, hi0, hz0, hz1, hz2⟩
theorem run_make_strs (n : Nat) (hn : n ≤ 8192) (w : World) : (Instr.makeSlice 49 (.int .i64 n) (.int .i64 n)).run Try.prog w = .ok (.slice (some ⟨w.heap.size, 0, none⟩) n n) (w.alloc (.cells (scells (fillTo n 0)) 9)) := by
  obtain ⟨i0, h1, h2, h3, h4⟩ := infoStr
  rw [run_make_rep (P := Try.prog) 49 9 i0 (.string ⟨#[]⟩) Try.underlying49 h1 h2 h3 rfl n (by rw [h4]; omega) (by omega) w]
  have e : Array.replicate n (Value.string ⟨#[]⟩) = scells (fillTo n 0) := by
    unfold scells fillTo
    apply Array.toList_inj.1
    simp [bs]
  rw [e]
set_option maxRecDepth 100000 in
set_option maxHeartbeats 1000000 in
theorem dNew (n : Nat) (w : World) (h1 : 1 ≤ n) (h2 : n ≤ 8192) :
    Calls Try.prog 7 #[.int .i64 n] w fun e w' => ∃ b sb mb lo, e = .returned (.tuple #[.pointer (some ⟨b, 0, none⟩), .int .i64 0]) ∧ DiskAt w' b sb mb lo (newD (List.replicate n zeroS)) ∧ w.heap.size ≤ sb ∧ w.heap.size ≤ mb ∧ w.heap.size ≤ b ∧ Kept [] w w' := by
  have hmk := run_make_strs n h2
  have o := Own.new w (scells (fillTo n 0)) 9
  have i1 : (1 : Int) ≤ n := by omega
  have i2 : (n : Int) ≤ 8192 := by omega
  go_enter Try.func7, Try.ntmps7
  go_wp2_with fail
  go_loopw [16] (fun i wr => ∃ k : Nat, k ≤ n ∧ i = .int .i64 k ∧ Own wr w.heap.size (scells (fillTo n k)) 9 ∧ Kept [] w wr) (fun i _ => n - (intOf i).toNat)
  case atStart => exact ⟨0, by omega, rfl, o, (Kept.refl _ _).alloc _⟩
  case round =>
    obtain ⟨k, hk, rfl, os, hK⟩ := hrel
    by_cases hlt : k < n
    · have HLT := Lib.hid hlt
      go_wp2_with fail
      refine (dRep _).mono ?_; rintro e w1 ⟨rfl, k1⟩
      have os1 := k1.own os (by simp)
      have hsize : k < (scells (fillTo n k)).size := by simp [scells, fillTo_len n k hk]; exact hlt
      obtain ⟨v0, s0⟩ : ∃ v0, w1.cell? ⟨w.heap.size, k, none⟩ = some v0 := ⟨_, os1.cell k hsize⟩
      have zs := os1.free k
      have hfin : Own (w1.setCell ⟨w.heap.size, k, none⟩ (.string (bs zeroS))) w.heap.size (scells (fillTo n (k + 1))) 9 := by
        rw [← fillTo_succ n k hlt, ← scells_set]
        exact os1.set k _
      have hkf := (hK.trans k1).setCell (p := ⟨w.heap.size, k, none⟩) (Or.inr (Nat.le_refl _)) (.string (bs zeroS))
      have HF := Lib.hid hfin
      clear hfin os os1 hsize o
      generalize zeroS = Z at *
      go_wp2_with fail
      go_roundw
      case rel => exact ⟨k + 1, HLT.out, by go_num, HF.out, hkf⟩
      case measure => (have hh := HLT.out; simp [intOf]; omega)
    · obtain rfl : k = n := by omega
      have e0 : fillTo k k = List.replicate k zeroS := by unfold fillTo; rw [Nat.sub_self]; simp
      rw [e0] at os
      have hmd := dMade w.heap.size (List.replicate k zeroS) wr os (by rw [List.length_replicate]; exact h1) (by rw [List.length_replicate]; exact h2)
      rw [List.length_replicate] at hmd
      have hsz := hK.size
      have HM := Lib.hid hmd
      clear hmd os
      go_wp2_with fail
      refine HM.out.mono ?_; rintro e w2 ⟨rfl, hD, k2⟩
      go_wp2_with fail
      go_ret2
      exact ⟨_, _, _, _, rfl, hD, Nat.le_refl _, hsz, by omega, hK.trans k2⟩
end Go.Proofs.Ytkhbobjfmedimaa
