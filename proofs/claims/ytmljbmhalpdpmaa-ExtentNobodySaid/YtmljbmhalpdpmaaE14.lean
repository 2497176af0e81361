/- Layer 10 (extent): a map that nobody made; ExtentNobody's walk. -/
import Derived.Test.YtmljbmhalpdpmaaE13
namespace Go.Proofs.Ytmljbmhalpdpmaa
open Go.RowKit
set_option linter.unusedVariables false
set_option linter.unusedSimpArgs false

theorem count_nil : countL [] = 0 := by
  have h := plain_sum []
  rw [plain_self (p := []) trivial] at h
  have e : sumLen [] = 0 := rfl
  omega
set_option maxRecDepth 100000 in
theorem mok_nil (w : World) : Calls Try.prog 50 #[.pointer none] w fun e w' => e = .returned (.bool false) ∧ w = w' := by
  go_enter Try.func50, Try.ntmps50
  go_wp2_with fail
  go_ret
  exact ⟨rfl, rfl⟩
set_option maxRecDepth 100000 in
theorem mtake_nil (n : Int) (w : World) : Calls Try.prog 28 #[.pointer none, .int .i64 n] w fun e w' => e = .returned (.tuple #[.slice none 0 0, .int .i64 4]) ∧ w = w' := by
  go_enter Try.func28, Try.ntmps28
  go_wp2_with fail
  refine (mok_nil _).mono ?_; rintro e w' ⟨rfl, rfl⟩
  go_wp2_with fail
  refine bodyPost_ret (v := .tuple #[.slice none 0 0, .int .i64 4]) ?_ ?_ ?_
  · kernel_rfl
  · rfl
  · exact ⟨rfl, rfl⟩
set_option maxRecDepth 100000 in
theorem mhold_nil (v : Value) (w : World) : Calls Try.prog 29 #[.pointer none, v] w fun e w' => e = .returned (.int .i64 4) ∧ w = w' := by
  go_enter Try.func29, Try.ntmps29
  go_wp2_with fail
  refine (mok_nil _).mono ?_; rintro e w' ⟨rfl, rfl⟩
  go_wp2_with fail
  go_ret
  exact ⟨rfl, rfl⟩
set_option maxRecDepth 100000 in
theorem mgive_nil (v : Value) (w : World) : Calls Try.prog 30 #[.pointer none, v] w fun e w' => e = .returned (.int .i64 4) ∧ w = w' := by
  go_enter Try.func30, Try.ntmps30
  go_wp2_with fail
  refine (mok_nil _).mono ?_; rintro e w' ⟨rfl, rfl⟩
  go_wp2_with fail
  go_ret
  exact ⟨rfl, rfl⟩
set_option maxRecDepth 100000 in
theorem mfree_nil (w : World) : Calls Try.prog 31 #[.pointer none] w fun e w' => e = .returned (.slice none 0 0) ∧ w = w' := by
  go_enter Try.func31, Try.ntmps31
  go_wp2_with fail
  refine (mok_nil _).mono ?_; rintro e w' ⟨rfl, rfl⟩
  go_wp2_with fail
  go_ret
  exact ⟨rfl, rfl⟩
set_option maxRecDepth 100000 in
theorem mroom_nil (w : World) : Calls Try.prog 32 #[.pointer none] w fun e w' => e = .returned (.int .i64 0) ∧ Kept [] w w' := by
  have hc := fun W => xcount (.slice none 0 0) [] 0 0 W (Or.inl ⟨rfl, _, _, rfl⟩) (by decide) (fun a ha => by cases ha)
  rw [count_nil] at hc
  go_enter Try.func32, Try.ntmps32
  go_wp2_with fail
  refine (mfree_nil _).mono ?_; rintro e w' ⟨rfl, rfl⟩
  go_wp2_with fail
  refine (hc _).mono ?_; rintro e w1 ⟨rfl, k1⟩
  go_wp2_with fail
  go_ret
  exact ⟨rfl, k1⟩
set_option maxRecDepth 100000 in
set_option maxHeartbeats 2000000 in
theorem nobodyLaw (n : Int) (v : Value) (l : List (Int × Int)) (w : World) (hn : (Lit.int .i64 n).wf = true) (h0 : RunsIn w v l 0 w.heap.size) (hwf0 : ∀ a ∈ l, WfRun a) :
    Calls Try.prog 6 #[.int .i64 n, v] w fun e w' => e = .returned (.bool true) ∧ Below w.heap.size w w' := by
  clear h0 hwf0 hn
  go_enter Try.func6, Try.ntmps6
  go_wp2_with fail
  refine (mtake_nil _ _).mono ?_; rintro e w' ⟨rfl, rfl⟩
  go_wp2_with fail
  refine (mhold_nil _ _).mono ?_; rintro e w' ⟨rfl, rfl⟩
  go_wp2_with fail
  refine (mgive_nil _ _).mono ?_; rintro e w' ⟨rfl, rfl⟩
  go_wp2_with fail
  refine (mfree_nil _).mono ?_; rintro e w' ⟨rfl, rfl⟩
  go_wp2_with fail
  refine (mroom_nil _).mono ?_; rintro e w1 ⟨rfl, k1⟩
  go_wp2_with fail
  refine (xawake _).mono ?_; rintro e w2 ⟨rfl, k2⟩
  go_wp2_with fail
  go_ret
  exact ⟨rfl, (k1.trans k2).below⟩
end Go.Proofs.Ytmljbmhalpdpmaa
