/- -/
import Derived.Test.YtdkimcnlhmhpgaaGreatProg
import Derived.Test.YtdkimcnlhmhpgaaGreatH01
import Derived.Test.YtdkimcnlhmhpgaaGreatH02
import Derived.RegionTactic
set_option linter.unusedVariables false
set_option linter.unusedSimpArgs false
namespace Go.Proofs.YtdkimcnlhmhpgaaGreat
open Go.RowKit
def clipOf (a : Int × Int) : (Int × Int) × Bool :=
 if a.2 < 1 ∨ 8192 ≤ a.1 then ((0, 0), false)
 else if a.1 < 0 then ((0, min (a.2 + a.1) 8192), decide (0 < min (a.2 + a.1) 8192))
 else ((a.1, min a.2 (8192 - a.1)), decide (0 < min a.2 (8192 - a.1)))
def ClipSays (a : Int × Int) (w : World) (e : Ending) (w' : World) : Prop :=
 e = .returned (.tuple #[.agg #[.int .i64 (clipOf a).1.1, .int .i64 (clipOf a).1.2], .bool (clipOf a).2]) ∧ Kept [] w w'
set_option maxRecDepth 100000 in
set_option maxHeartbeats 1000000 in
theorem xclip (a : Int × Int) (w : World) (hw : WfRun a) : Calls Tryz.prog 183 #[.agg #[.int .i64 a.1, .int .i64 a.2]] w (ClipSays a w) := by
 obtain ⟨x, n⟩ := a
 obtain ⟨w1, w2, w3, w4⟩ := hw
 simp only at w1 w2 w3 w4 ⊢
 unfold ClipSays
 have hk : Kept [] w ((w.alloc (.cells #[.int .i64 x, .int .i64 n] 128)).alloc (.cells #[.int .i64 0, .int .i64 0] 128)) := ((Kept.refl _ _).alloc _).alloc _
 rcases (by omega : n < 1 ∨ (1 ≤ n ∧ 8192 ≤ x) ∨ (1 ≤ n ∧ x < 8192 ∧ x < 0) ∨ (1 ≤ n ∧ x < 8192 ∧ 0 ≤ x)) with h1 | ⟨h1, h2⟩ | ⟨h1, h2, h3⟩ | ⟨h1, h2, h3⟩
 ·have e : clipOf (x, n) = ((0, 0), false) := by unfold clipOf; rw [if_pos (Or.inl h1)]
  rw [e]
  go_enter Tryz.func183, Tryz.ntmps183
  go_wp2_with fail
  refine bodyPost_ret (v := .tuple #[.agg #[.int .i64 0, .int .i64 0], .bool false]) ?_ ?_ ?_
  ·exact ret_row_tmp Tryz.results183 rfl rfl (own_two w _ _ _ _).2 Tryz.underlying128 rfl (by kernel_rfl)
  ·rfl
  ·exact ⟨rfl, hk⟩
 ·have e : clipOf (x, n) = ((0, 0), false) := by unfold clipOf; rw [if_pos (Or.inr h2)]
  rw [e]
  go_enter Tryz.func183, Tryz.ntmps183
  go_wp2_with fail
  refine bodyPost_ret (v := .tuple #[.agg #[.int .i64 0, .int .i64 0], .bool false]) ?_ ?_ ?_
  ·exact ret_row_tmp Tryz.results183 rfl rfl (own_two w _ _ _ _).2 Tryz.underlying128 rfl (by kernel_rfl)
  ·rfl
  ·exact ⟨rfl, hk⟩
 ·have e : clipOf (x, n) = ((0, min (n + x) 8192), decide (0 < min (n + x) 8192)) := by unfold clipOf; rw [if_neg (by simp only; omega), if_pos h3]
  rw [e]
  obtain ⟨m, hm⟩ : ∃ m, min (n + x) 8192 = m := ⟨_, rfl⟩
  rw [hm]
  clear e hk
  go_enter Tryz.func183, Tryz.ntmps183
  go_wp2_with fail
  ·go_region
   go_wp2_with fail
   obtain rfl : m = 8192 := by omega
   rw [show decide (0 < (8192 : Int)) = true from decide_eq_true (by omega)]
   refine bodyPost_ret (v := .tuple #[.agg #[.int .i64 0, .int .i64 (8192)], .bool true]) ?_ ?_ ?_
   ·exact ret_row_tmp Tryz.results183 rfl rfl (Own.drew (own_two w _ _ _ _).2) Tryz.underlying128 rfl (by kernel_rfl)
   ·rfl
   ·exact ⟨rfl, (((Kept.refl _ _).alloc _).alloc _).drew⟩
  ·go_region
   go_wp2_with fail
   obtain rfl : m = n + x := by omega
   refine bodyPost_ret (v := .tuple #[.agg #[.int .i64 0, .int .i64 (n + x)], .bool (decide (0 < (n + x : Int)))]) ?_ ?_ ?_
   ·exact ret_row_tmp Tryz.results183 rfl rfl (Own.drew (own_two w _ _ _ _).2) Tryz.underlying128 rfl (by kernel_rfl)
   ·rfl
   ·exact ⟨rfl, (((Kept.refl _ _).alloc _).alloc _).drew⟩
 ·have e : clipOf (x, n) = ((x, min n (8192 - x)), decide (0 < min n (8192 - x))) := by unfold clipOf; rw [if_neg (by simp only; omega), if_neg (by simp only; omega)]
  rw [e]
  obtain ⟨m, hm⟩ : ∃ m, min n (8192 - x) = m := ⟨_, rfl⟩
  rw [hm]
  clear e hk
  go_enter Tryz.func183, Tryz.ntmps183
  go_wp2_with fail
  ·go_region
   go_wp2_with fail
   obtain rfl : m = 8192 - x := by omega
   rw [show decide (0 < (8192 - x : Int)) = true from decide_eq_true (by omega)]
   refine bodyPost_ret (v := .tuple #[.agg #[.int .i64 x, .int .i64 (8192 - x)], .bool true]) ?_ ?_ ?_
   ·exact ret_row_tmp Tryz.results183 rfl rfl (Own.drew (own_two w _ _ _ _).2) Tryz.underlying128 rfl (by kernel_rfl)
   ·rfl
   ·exact ⟨rfl, (((Kept.refl _ _).alloc _).alloc _).drew⟩
  ·go_region
   go_wp2_with fail
   obtain rfl : m = n := by omega
   refine bodyPost_ret (v := .tuple #[.agg #[.int .i64 x, .int .i64 (m)], .bool (decide (0 < (m : Int)))]) ?_ ?_ ?_
   ·exact ret_row_tmp Tryz.results183 rfl rfl (Own.drew (own_two w _ _ _ _).2) Tryz.underlying128 rfl (by kernel_rfl)
   ·rfl
   ·exact ⟨rfl, (((Kept.refl _ _).alloc _).alloc _).drew⟩
theorem xnan (x : Int) (w : World) : Calls Tryz.prog 241 #[.int .i64 x] w fun e w' => e = .returned (.bool false) ∧ w = w' := by
 go_enter Tryz.func241, Tryz.ntmps241
 go_wp2_with fail
 go_ret
 exact ⟨rfl, rfl⟩
def cmpI (x y : Int) : Int := if x < y then -1 else if y < x then 1 else 0
theorem xcmp (x y : Int) (w : World) : Calls Tryz.prog 186 #[.int .i64 x, .int .i64 y] w fun e w' => e = .returned (.int .i64 (cmpI x y)) ∧ w = w' := by
 unfold cmpI
 rcases (by omega : x < y ∨ (¬ x < y ∧ y < x) ∨ (¬ x < y ∧ ¬ y < x)) with h1 | ⟨h1, h2⟩ | ⟨h1, h2⟩
 ·rw [if_pos h1]
  go_enter Tryz.func186, Tryz.ntmps186
  go_wp2_with (go_at_call 241; refine (xnan _ _).mono ?_; rintro e w' ⟨rfl, rfl⟩)
  go_ret
  exact ⟨rfl, rfl⟩
 ·rw [if_neg h1, if_pos h2]
  go_enter Tryz.func186, Tryz.ntmps186
  go_wp2_with (go_at_call 241; refine (xnan _ _).mono ?_; rintro e w' ⟨rfl, rfl⟩)
  go_ret
  exact ⟨rfl, rfl⟩
 ·rw [if_neg h1, if_neg h2]
  go_enter Tryz.func186, Tryz.ntmps186
  go_wp2_with (go_at_call 241; refine (xnan _ _).mono ?_; rintro e w' ⟨rfl, rfl⟩)
  go_ret
  exact ⟨rfl, rfl⟩
end Go.Proofs.YtdkimcnlhmhpgaaGreat
