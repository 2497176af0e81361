/- Walk of chapter 9's statement: which images are disks. -/
import Derived.Test.YtkhbobjfmedimaaD14
namespace Go.Proofs.Ytkhbobjfmedimaa
open Go.RowKit Go.Maps
set_option linter.unusedVariables false
set_option linter.unusedSimpArgs false

theorem cuts_flat (img : List UInt8) (k : Nat) : ((List.range k).map (cutS img)).flatten = img.take (128 * k) := by
  induction k with
  | zero => simp
  | succ k ih =>
    rw [List.range_succ, List.map_append, List.flatten_append, ih]
    have e : 128 * (k + 1) = 128 * k + 128 := by omega
    rw [e, List.take_add]
    simp [cutS]
theorem load_flat (img : List UInt8) (n : Nat) (h : img.length = 128 * n) : (loadTo img n n).flatten = img := by
  unfold loadTo
  rw [Nat.sub_self, List.replicate_zero, List.append_nil, cuts_flat, ← h, List.take_length]
theorem load_get (img : List UInt8) (n i : Nat) (h : i < n) : (loadTo img n n).getD i [] = cutS img i := by
  unfold loadTo
  rw [Nat.sub_self, List.replicate_zero, List.append_nil, List.getD_eq_getElem?_getD]
  simp [h]
theorem load_fine (img : List UInt8) (n : Nat) : ∀ s ∈ loadTo img n n, s.length ≤ 128 := by
  intro s hs
  unfold loadTo at hs
  rw [Nat.sub_self, List.replicate_zero, List.append_nil, List.mem_map] at hs
  obtain ⟨i, _, rfl⟩ := hs
  unfold cutS; rw [List.length_take]; omega
set_option maxRecDepth 100000 in
theorem dLoad_no (s : ByteArray) (w : World) (h : (s.size : Int) % 128 ≠ 0 ∨ s.size = 0) (hs : s.size ≤ 5000) :
    Calls Try.prog 14 #[.string s] w fun e w' => e = .returned (.tuple #[.pointer none, .int .i64 1]) ∧ w = w' := by
  obtain ⟨n, hn⟩ : ∃ n, s.size = n := ⟨_, rfl⟩
  rw [hn] at h hs
  rcases h with h | h
  · have hb : ((n : Int) % 128 == 0) = false := by rw [beq_eq_false_iff_ne]; exact h
    go_enter Try.func14, Try.ntmps14
    go_wp2_with fail
    go_ret2
    exact ⟨rfl, rfl⟩
  · subst h
    go_enter Try.func14, Try.ntmps14
    go_wp2_with fail
    go_ret2
    exact ⟨rfl, rfl⟩
end Go.Proofs.Ytkhbobjfmedimaa
