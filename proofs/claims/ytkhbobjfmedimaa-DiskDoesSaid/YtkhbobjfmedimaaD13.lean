/- Walks of layer 9 (disk): which images are disks. -/
import Derived.Test.YtkhbobjfmedimaaD12
namespace Go.Proofs.Ytkhbobjfmedimaa
open Go.RowKit Go.Maps
set_option linter.unusedVariables false
set_option linter.unusedSimpArgs false

/-- may an image be? -/
def mayImg (n : Nat) : Bool := decide (128 ≤ n ∧ n % 128 = 0 ∧ n ≤ 1048576)
set_option maxRecDepth 100000 in
theorem rMay (s : ByteArray) (w : World) : Calls Try.prog 15 #[.string s] w fun e w' => e = .returned (.bool (mayImg s.size)) ∧ w = w' := by
  have hz : ∃ n, s.size = n := ⟨_, rfl⟩
  obtain ⟨n, hn⟩ := hz
  unfold mayImg
  rw [hn]
  rcases (by omega : ¬ (128 ≤ (n : Int)) ∨ (128 ≤ (n : Int) ∧ (n : Int) % 128 ≠ 0) ∨ (128 ≤ (n : Int) ∧ (n : Int) % 128 = 0 ∧ n ≤ 1048576) ∨ (128 ≤ (n : Int) ∧ (n : Int) % 128 = 0 ∧ ¬ ((n : Int) ≤ 1048576))) with h | ⟨h, h1⟩ | ⟨h, h1, h2⟩ | ⟨h, h1, h2⟩
  · rw [decide_eq_false (by omega)]
    go_enter Try.func15, Try.ntmps15
    go_wp2_with fail
    go_ret
    exact ⟨rfl, rfl⟩
  · rw [decide_eq_false (by omega)]
    have hb : ((n : Int) % 128 == 0) = false := by rw [beq_eq_false_iff_ne]; exact h1
    go_enter Try.func15, Try.ntmps15
    go_wp2_with fail
    go_ret
    exact ⟨rfl, rfl⟩
  · rw [decide_eq_true (by omega)]
    have h3 : (n : Int) ≤ 1048576 := by omega
    go_enter Try.func15, Try.ntmps15
    go_wp2_with fail
    go_ret
    exact ⟨rfl, rfl⟩
  · rw [decide_eq_false (by omega)]
    go_enter Try.func15, Try.ntmps15
    go_wp2_with fail
    go_ret
    exact ⟨rfl, rfl⟩
end Go.Proofs.Ytkhbobjfmedimaa
