/- Walks of chapter 9's statement: any calls of a disk, wherever its power goes. -/
import Derived.Test.YtdnbddhjdokbfaaG19
import Derived.Test.YtdnbddhjdokbfaaG40
namespace Go.Proofs.Ytdnbddhjdokbfaa
open Go.RowKit Go.Maps
set_option linter.unusedVariables false
set_option linter.unusedSimpArgs false

theorem aNext_bd (d : DK) (a : DAct) : (aNext d a).ops ≤ d.ops + 1 ∧ (aNext d a).waits.length ≤ d.waits.length + 1 := by
  unfold aNext
  repeat' split
  · omega
  · unfold fNext
    split
    · omega
    · split
      · exact ⟨Nat.le_refl _, Nat.le_succ _⟩
      · exact ⟨Nat.le_refl _, Nat.zero_le _⟩
  · exact ⟨Nat.le_succ _, Nat.le_succ _⟩
  · exact ⟨Nat.le_succ _, Nat.zero_le _⟩
  · unfold sNext
    split
    · exact ⟨Nat.le_succ _, Nat.le_succ _⟩
    · omega
  · unfold wNext
    split
    · refine ⟨Nat.le_refl _, ?_⟩
      show (d.waits ++ [_]).length ≤ _
      rw [List.length_append, List.length_singleton]; omega
    · omega
theorem aNew_no (n : Int) (w : World) (h : n < 1 ∨ 8192 < n) :
    Calls Try.prog 23 #[.int .i64 n] w fun e w' => e = .returned (.tuple #[.pointer none, .int .i64 5]) ∧ w = w' := by
  rcases (by omega : n < 1 ∨ (1 ≤ n ∧ 8192 < n)) with h1 | ⟨h1, h2⟩
  all_goals
    clear h
    go_enter Try.func23, Try.ntmps23
    go_wp2_with fail
    go_ret2
    exact ⟨rfl, rfl⟩
end Go.Proofs.Ytdnbddhjdokbfaa
