/- Walks of layer 1 (pack): a builder written; lists as bytes; texts filled up. -/
import Derived.Test.YtpdmnjcklpklnaaP2
import Derived.Test.YtpdmnjcklpklnaaIn2
import Derived.Deep.LoopGhost
import Derived.Test.YtpdmnjcklpklnaaShelf
import Derived.Lib.Builder
namespace Go.Proofs.Ytpdmnjcklpklnaa
open Go.RowKit
set_option linter.unusedVariables false
set_option linter.unusedSimpArgs false

theorem Kept.then_below {a w w' : World} (h : Kept [] a w) (hb : Below a.heap.size w w') : Kept [] a w' :=
  ⟨hb.os.trans h.os, hb.tape.trans h.tape, hb.output.trans h.output, Nat.le_trans h.size hb.size, fun k hk _ => (hb.block k hk).trans (h.block k hk (by simp))⟩
/-- a text, filled up with noughts. -/
def fillL (l : List UInt8) (n : Int) : List UInt8 := l ++ List.replicate (n - l.length).toNat 0
theorem repeat_zero (k : Nat) : Lib.repeatL [0] k = List.replicate k 0 := by
  induction k with
  | zero => rfl
  | succ k ih => rw [Lib.repeatL, ih]; rfl

set_option maxRecDepth 100000 in
theorem packFill (s : ByteArray) (n : Int) (w : World) (hs : s.size ≤ 1000000) (hn : n ≤ 1000000) :
    Calls Try.prog 26 #[.string s, .int .i64 n] w fun e w' => e = .returned (.string (bs (fillL s.data.toList n))) ∧ Kept [] w w' := by
  by_cases hle : n ≤ s.size
  · have e : fillL s.data.toList n = s.data.toList := by
      unfold fillL; rw [size_data, show (n - (s.size : Int)).toNat = 0 from by omega]; simp
    rw [e, bs_of]
    clear e
    go_enter Try.func26, Try.ntmps26
    go_wp2_with fail
    go_ret
    exact ⟨rfl, Kept.refl _ _⟩
  · obtain ⟨d, hd⟩ : ∃ d : Nat, n - (s.size : Int) = d := ⟨(n - s.size).toNat, by omega⟩
    have e : fillL s.data.toList n = s.data.toList ++ List.replicate d 0 := by
      unfold fillL; rw [size_data, show (n - (s.size : Int)).toNat = d from by omega]
    have hrep : ∀ w, Calls Try.prog 52 #[.string { data := #[0] }, .int .i64 d] w fun e w' => e = .returned (.string (bs (List.replicate d 0))) ∧ Below w.heap.size w w' := fun w => by
      have h := Try.strings_Repeat { data := #[0] } d w (by omega) (by show 1 * d ≤ _; omega)
      have e : (⟨(Lib.repeatL (ByteArray.mk #[0]).data.toList d).toArray⟩ : ByteArray) = bs (List.replicate d 0) := by
        show bs (Lib.repeatL [0] d) = _
        rw [repeat_zero]
      rw [e] at h
      exact h
    have hz : (bs (List.replicate d 0)).size ≤ 1000000 := by rw [bs_size]; simp; omega
    have hfin : Hid (s ++ bs (List.replicate d 0) = bs (s.data.toList ++ List.replicate d 0)) := by
      show s ++ bs (List.replicate d 0) = _
      rw [← bs_append, bs_of]
    rw [e]
    have hlt : (s.size : Int) < n := by omega
    clear e hle
    go_enter Try.func26, Try.ntmps26
    go_wp2_with fail
    refine (hrep _).mono ?_; rintro e w1 ⟨rfl, hb⟩
    go_wp2_with fail
    go_ret
    exact ⟨by show Ending.returned (Value.string (s ++ bs (List.replicate d 0))) = _; rw [hfin.out], Kept.of_below hb⟩
end Go.Proofs.Ytpdmnjcklpklnaa
