/- Layer 10 (extent): whether a list may be: plain laws, and the reference's over. -/
import Derived.Test.YtmljbmhalpdpmaaE18
import Derived.Test.YtmljbmhalpdpmaaMem3
namespace Go.Proofs.Ytmljbmhalpdpmaa
open Go.RowKit
set_option linter.unusedVariables false
set_option linter.unusedSimpArgs false

def OkX (f s : Int) (a : Int × Int) : Prop := f ≤ a.1 ∧ 1 ≤ a.2 ∧ a.1 < s ∧ a.1 + a.2 ≤ s
def ApartX (a b : Int × Int) : Prop := a.1 + a.2 ≤ b.1 ∨ b.1 + b.2 ≤ a.1
theorem ApartX.symm {a b : Int × Int} (h : ApartX a b) : ApartX b a := Or.symm h
/-- may a list be? -/
def MayX (f s : Int) (l : List (Int × Int)) : Prop := (∀ a ∈ l, OkX f s a) ∧ l.Pairwise ApartX
theorem mayX_perm {f s : Int} {l l' : List (Int × Int)} (h : l'.Perm l) : MayX f s l' ↔ MayX f s l := by
  unfold MayX
  rw [List.Perm.pairwise_iff (fun h => ApartX.symm h) h]
  constructor
  · rintro ⟨h1, h2⟩; exact ⟨fun a ha => h1 a (h.mem_iff.2 ha), h2⟩
  · rintro ⟨h1, h2⟩; exact ⟨fun a ha => h1 a (h.mem_iff.1 ha), h2⟩
theorem mayX_take {f s : Int} {l : List (Int × Int)} (k : Nat) (h : MayX f s l) : MayX f s (l.take k) :=
  ⟨fun a ha => h.1 a (List.mem_of_mem_take ha), h.2.sublist (List.take_sublist k l)⟩
theorem mayX_succ {f s : Int} {l : List (Int × Int)} {k : Nat} (hk : k < l.length) (h : MayX f s (l.take k)) (h1 : OkX f s l[k]) (h2 : ∀ j (hj : j < k), ApartX l[k] (l[j]'(by omega))) : MayX f s (l.take (k + 1)) := by
  rw [List.take_succ_eq_append_getElem hk]
  refine ⟨fun a ha => ?_, ?_⟩
  · rcases List.mem_append.1 ha with ha | ha
    · exact h.1 a ha
    · obtain rfl : a = l[k] := by simpa using ha
      exact h1
  · rw [List.pairwise_append]
    refine ⟨h.2, List.pairwise_singleton _ _, fun a ha b hb => ?_⟩
    obtain rfl : b = l[k] := by simpa using hb
    rw [List.mem_take_iff_getElem] at ha
    obtain ⟨j, hj, rfl⟩ := ha
    exact (h2 j (by omega)).symm
theorem mayX_no1 {f s : Int} {l : List (Int × Int)} {k : Nat} (hk : k < l.length) (h : ¬ OkX f s l[k]) : ¬ MayX f s l := fun hm => h (hm.1 _ (List.getElem_mem hk))
theorem mayX_no2 {f s : Int} {l : List (Int × Int)} {k j : Nat} (hk : k < l.length) (hj : j < k) (h : ¬ ApartX l[k] (l[j]'(by omega))) : ¬ MayX f s l := fun hm => h ((List.pairwise_iff_getElem.1 hm.2 j k (by omega) hk hj).symm)
theorem mayX_nil (f s : Int) : MayX f s [] := ⟨fun a ha => (by cases ha), List.Pairwise.nil⟩
set_option maxRecDepth 100000 in
set_option maxHeartbeats 2000000 in
theorem zover (a1 a2 b1 b2 : Int) (w : World) (wa : WfRun (a1, a2)) (wb : WfRun (b1, b2)) (ha : 1 ≤ a2) :
    Calls Try.prog 47 #[.agg #[.int .i64 a1, .int .i64 a2], .agg #[.int .i64 b1, .int .i64 b2]] w fun e w' => e = .returned (.bool (decide (a1 ≤ b1 ∧ b1 < a1 + a2))) ∧ (w.alloc (.cells #[.int .i64 a1, .int .i64 a2] 57)).alloc (.cells #[.int .i64 b1, .int .i64 b2] 57) = w' := by
  obtain ⟨w1, w2, w3, w4⟩ := wa
  obtain ⟨w5, w6, w7, w8⟩ := wb
  simp only at w1 w2 w3 w4 w5 w6 w7 w8
  rcases (by omega : b1 < a1 ∨ (a1 ≤ b1 ∧ 0 ≤ a1 ∧ b1 - a1 < a2) ∨ (a1 ≤ b1 ∧ 0 ≤ a1 ∧ a2 ≤ b1 - a1) ∨ (a1 ≤ b1 ∧ a1 < 0 ∧ b1 < a1 + a2) ∨ (a1 ≤ b1 ∧ a1 < 0 ∧ a1 + a2 ≤ b1)) with h | ⟨h, h2, h3⟩ | ⟨h, h2, h3⟩ | ⟨h, h2, h3⟩ | ⟨h, h2, h3⟩
  · have e : decide (a1 ≤ b1 ∧ b1 < a1 + a2) = false := decide_eq_false (by omega)
    rw [e]; clear e
    go_enter Try.func47, Try.ntmps47
    go_wp2_with fail
    go_ret
    exact ⟨rfl, rfl⟩
  · have e : decide (a1 ≤ b1 ∧ b1 < a1 + a2) = true := decide_eq_true (by omega)
    rw [e]; clear e
    go_enter Try.func47, Try.ntmps47
    go_wp2_with fail
    go_ret
    exact ⟨rfl, rfl⟩
  · have e : decide (a1 ≤ b1 ∧ b1 < a1 + a2) = false := decide_eq_false (by omega)
    rw [e]; clear e
    go_enter Try.func47, Try.ntmps47
    go_wp2_with fail
    go_ret
    exact ⟨by have e : decide (b1 - a1 < a2) = false := decide_eq_false (by omega)
              rw [← e]; rfl, rfl⟩
  · have e : decide (a1 ≤ b1 ∧ b1 < a1 + a2) = true := decide_eq_true (by omega)
    rw [e]; clear e
    go_enter Try.func47, Try.ntmps47
    go_wp2_with fail
    go_ret
    exact ⟨rfl, rfl⟩
  · have e : decide (a1 ≤ b1 ∧ b1 < a1 + a2) = false := decide_eq_false (by omega)
    rw [e]; clear e
    go_enter Try.func47, Try.ntmps47
    go_wp2_with fail
    go_ret
    exact ⟨by have e : decide (b1 < a1 + a2) = false := decide_eq_false (by omega)
              rw [← e]; rfl, rfl⟩
end Go.Proofs.Ytmljbmhalpdpmaa
