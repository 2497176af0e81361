/- Walks of layer 1 (pack): a builder written; lists as bytes; texts filled up. -/
import Derived.Test.YtegbekeopgponaaShelf
import Derived.Test.YtegbekeopgponaaG01
import Derived.Test.YtegbekeopgponaaG13
import Derived.Deep.LoopGhost
import Derived.Lib.Builder
import Derived.Deep.RegionWith
import Derived.BigRegion
namespace Go.Proofs.Ytegbekeopgponaa
open Go.RowKit
set_option linter.unusedVariables false
set_option linter.unusedSimpArgs false

/-- a text, filled up with noughts. -/
def fillL (l : List UInt8) (n : Int) : List UInt8 := l ++ List.replicate (n - l.length).toNat 0
theorem repeat_zero (k : Nat) : Lib.repeatL [0] k = List.replicate k 0 := by
  induction k with
  | zero => rfl
  | succ k ih => rw [Lib.repeatL, ih]; rfl

set_option maxRecDepth 100000 in
theorem packFill (s : ByteArray) (n : Int) (w : World) (hs : s.size ≤ 1000000) (hn : n ≤ 1000000) :
    Calls Try.prog 57 #[.string s, .int .i64 n] w fun e w' => e = .returned (.string (bs (fillL s.data.toList n))) ∧ Kept [] w w' := by
  by_cases hle : n ≤ s.size
  · have e : fillL s.data.toList n = s.data.toList := by
      unfold fillL; rw [size_data, show (n - (s.size : Int)).toNat = 0 from by omega]; simp
    rw [e, bs_of]
    clear e
    go_enter Try.func57, Try.ntmps57
    go_wp2_with fail
    go_ret
    exact ⟨rfl, Kept.refl _ _⟩
  · obtain ⟨d, hd⟩ : ∃ d : Nat, n - (s.size : Int) = d := ⟨(n - s.size).toNat, by omega⟩
    have e : fillL s.data.toList n = s.data.toList ++ List.replicate d 0 := by
      unfold fillL; rw [size_data, show (n - (s.size : Int)).toNat = d from by omega]
    have hrep : ∀ w, Calls Try.prog 80 #[.string { data := #[0] }, .int .i64 d] w fun e w' => e = .returned (.string (bs (List.replicate d 0))) ∧ Below w.heap.size w w' := fun w => by
      have h := Try.strings_Repeat { data := #[0] } d w (by omega) (by show 1 * d ≤ _; omega)
      have e : (⟨(Lib.repeatL (ByteArray.mk #[0]).data.toList d).toArray⟩ : ByteArray) = bs (List.replicate d 0) := by
        show bs (Lib.repeatL [0] d) = _
        rw [repeat_zero]
      rw [e] at h
      exact h
    have hz : (bs (List.replicate d 0)).size ≤ 1000000 := by rw [bs_size]; simp; omega
    have hfin : Hid (s ++ bs (List.replicate d 0) = bs (s.data.toList ++ List.replicate d 0)) := by
      show s ++ bs (List.replicate d 0) = _
      rw [← bs_append, bs_of]
    rw [e]
    have hlt : (s.size : Int) < n := by omega
    clear e hle
    go_enter Try.func57, Try.ntmps57
    go_wp2_with fail
    refine (hrep _).mono ?_; rintro e w1 ⟨rfl, hb⟩
    go_wp2_with fail
    go_ret
    exact ⟨by show Ending.returned (Value.string (s ++ bs (List.replicate d 0))) = _; rw [hfin.out], Kept.of_below hb⟩
end Go.Proofs.Ytegbekeopgponaa

/- Walks of the reference of layer 1 (pack). -/
namespace Go.Proofs.Ytegbekeopgponaa
open Go.RowKit
set_option linter.unusedVariables false
set_option linter.unusedSimpArgs false


theorem kcell {S : List Nat} {W w1 : World} (h : Kept S W w1) : ∀ b o, b < W.heap.size → b ∉ S → w1.cell? ⟨b, o, none⟩ = W.cell? ⟨b, o, none⟩ := fun b o hb hS => h.cell (a := ⟨b, o, none⟩) hb hS
theorem kcell0 {W w1 : World} (h : Kept [] W w1) : ∀ b o, b < W.heap.size → w1.cell? ⟨b, o, none⟩ = W.cell? ⟨b, o, none⟩ := fun b o hb => h.cell (a := ⟨b, o, none⟩) hb (by simp)

theorem conv_one (c : UInt8) (B : Nat) (W : World) (h : W.cell? ⟨B, 0, none⟩ = some (.int .u8 (c.toNat : Int))) : (convert 36 9 (.slice (some ⟨B, 0, none⟩) 1 1)).run Try.prog W = .ok (.string (bs [c])) W := by
  have hb : Lib.Bytes W B 0 (bs [c]) := by
    intro i hi
    rw [bs_size] at hi
    have : i = 0 := by simp at hi; exact hi
    subst this
    rw [Nat.zero_add, h]; rfl
  have := Lib.run_convert_whole (P := Try.prog) W 36 5 9 Try.underlying36 Try.underlying5 Try.underlying9 B 0 (bs [c]) hb 1
  rw [bs_size] at this
  exact this

set_option maxRecDepth 100000 in
set_option maxHeartbeats 400000 in
theorem rNum (k : Nat) : ∀ (n : Nat) (w : World), n < 18446744073709551616 → k ≤ 8 →
    Calls Try.prog 66 #[.int .u64 n, .int .i64 k] w fun e w' => e = .returned (.string (bs (numL n k))) ∧ Kept [] w w' := by
  induction k with
  | zero =>
    intro n w hn hk
    go_enter Try.func66, Try.ntmps66
    go_wp2_with fail
    go_ret
    exact ⟨rfl, Kept.refl _ _⟩
  | succ k ih =>
    intro n w hn hk
    have H := fun w => ih (n / 256) w (by omega) (by omega)
    have hc0 : ((UInt8.ofNat n).toNat : Int) = (n : Int) % 256 := by rw [UInt8.toNat_ofNat']; rfl
    have e1 : IntKind.u8.wrap ((n : Int).tmod 256) = ((UInt8.ofNat n).toNat : Int) := by
      rw [hc0, Int.tmod_eq_emod_of_nonneg (by omega), IntKind.wrap_u8]; omega
    have e2 : IntKind.u64.wrap ((n : Int) / 256) = ((n / 256 : Nat) : Int) := by rw [IntKind.wrap_u64]; omega
    have e3 : IntKind.i64.wrap (k : Int) = (k : Int) := IntWalk.i64_in _ (by omega)
    have hconv := fun (B : Nat) (W : World) (h : W.cell? ⟨B, 0, none⟩ = some (.int .u8 ((UInt8.ofNat n).toNat : Int))) => conv_one (UInt8.ofNat n) B W h
    have hz : (bs (numL (n / 256) k)).size ≤ 8 := by rw [bs_size, numL_len]; omega
    have hz1 : (bs [UInt8.ofNat n]).size ≤ 1 := by rw [bs_size]; simp
    have hz2 : ¬ ((bs [UInt8.ofNat n]).size + (bs (numL (n / 256) k)).size > 9223372036854775807) := by omega
    have hfin : Hid (bs [UInt8.ofNat n] ++ bs (numL (n / 256) k) = bs (numL n (k + 1))) := by
      show bs [UInt8.ofNat n] ++ bs (numL (n / 256) k) = _
      rw [bs_append]; rfl
    clear hc0
    generalize bs [UInt8.ofNat n] = c0 at *
    generalize ((UInt8.ofNat n).toNat : Int) = c1 at *
    generalize numL n (k + 1) = N at *
    generalize numL (n / 256) k = M at *
    generalize n / 256 = m at *
    clear ih
    go_enter Try.func66, Try.ntmps66
    go_wp2_with fail
    go_region_with ((go_at_call 66; refine (H _).mono ?_; rintro e w1 ⟨rfl, hk1⟩; have hkc := kcell0 hk1))
    all_goals go_wp2_with fail
    all_goals go_ret
    all_goals refine ⟨by show Ending.returned (Value.string (c0 ++ bs M)) = _; rw [hfin.out], ?_⟩
    all_goals first | exact (((Kept.refl _ _).alloc _).drew).trans hk1 | exact ((Kept.refl _ _).drew.trans hk1).alloc _

set_option maxRecDepth 100000 in
theorem rText (s : ByteArray) (w : World) (hs : s.size < 4294967296) :
    Calls Try.prog 98 #[.string s] w fun e w' => e = .returned (.string (bs (textL s.data.toList))) ∧ Kept [] w w' := by
  have h : ∀ w, Calls Try.prog 66 #[.int .u64 s.size, .int .i64 4] w fun e w' => e = .returned (.string (bs (numL s.size 4))) ∧ Kept [] w w' := fun w => rNum 4 s.size w (by omega) (by omega)
  have hz : (bs (numL s.size 4)).size ≤ 4 := by rw [bs_size, numL_len]; omega
  have hfin := Lib.hid (bs_append' (numL s.size 4) s)
  go_enter Try.func98, Try.ntmps98
  go_wp2_with fail
  refine (h _).mono ?_; rintro e w1 ⟨rfl, hk⟩
  go_wp2_with fail
  go_ret
  refine ⟨?_, hk⟩
  show Ending.returned (Value.string (bs (numL s.size 4) ++ s)) = _
  rw [hfin.out, textL, size_data]

set_option maxRecDepth 100000 in
theorem rFill (s : ByteArray) (n : Int) (w : World) (hs : s.size ≤ 1000000) (hn : n ≤ 1000000) :
    Calls Try.prog 77 #[.string s, .int .i64 n] w fun e w' => e = .returned (.string (bs (fillL s.data.toList n))) ∧ Kept [] w w' := by
  by_cases hle : n ≤ s.size
  · have e : fillL s.data.toList n = s.data.toList := by
      unfold fillL; rw [size_data, show (n - (s.size : Int)).toNat = 0 from by omega]; simp
    rw [e, bs_of]
    clear e
    go_enter Try.func77, Try.ntmps77
    go_wp2_with fail
    go_ret
    exact ⟨rfl, Kept.refl _ _⟩
  · obtain ⟨d, hd⟩ : ∃ d : Nat, n - (s.size : Int) = d := ⟨(n - s.size).toNat, by omega⟩
    have e : fillL s.data.toList n = s.data.toList ++ List.replicate d 0 := by
      unfold fillL; rw [size_data, show (n - (s.size : Int)).toNat = d from by omega]
    have hi : (Try.prog.info? 5).map (fun i => (i.zero, i.size, i.bytes)) = some (some (.int .u8 0), 1, 1) := by kernel_rfl
    obtain ⟨i0, hi0, hz0, hz1, hz2⟩ := info_parts hi
    have hmk : ∀ w : World, (Instr.makeSlice 36 (.int .i64 d) (.int .i64 d)).run Try.prog w = .ok (.slice (some ⟨w.heap.size, 0, none⟩) d d) (w.alloc (.cells (bcells (List.replicate d 0)) 5)) := fun w => by
      have h := run_make (P := Try.prog) w 36 5 i0 (.int .u8 0) Try.underlying36 hi0 hz0 .i64 .i64 d d (by omega) (by omega) (by rw [hz2]; omega) (by omega)
      rw [h, hz1]
      congr 3
      apply Array.toList_inj.1
      simp [bcells, Value.cells, toList_madeCells_one]
    have hconv := Lib.run_convert_whole (P := Try.prog) _ 36 5 9 Try.underlying36 Try.underlying5 Try.underlying9 _ _ _ (own_bytes (Own.new w (bcells (List.replicate d 0)) 5)) d
    rw [bs_size, List.length_replicate] at hconv
    have hz : (bs (List.replicate d 0)).size ≤ 1000000 := by rw [bs_size]; simp; omega
    have hfin : Hid (s ++ bs (List.replicate d 0) = bs (s.data.toList ++ List.replicate d 0)) := by
      show s ++ bs (List.replicate d 0) = _
      rw [← bs_append, bs_of]
    rw [e]
    have hlt : (s.size : Int) < n := by omega
    generalize List.replicate d (0 : UInt8) = R at *
    clear e hle
    go_enter Try.func77, Try.ntmps77
    go_wp2_with fail
    go_ret
    exact ⟨by show Ending.returned (Value.string (s ++ bs R)) = _; rw [hfin.out], (Kept.refl _ _).alloc _⟩
end Go.Proofs.Ytegbekeopgponaa
