/- Walks of layer 34 (phase): which rows may be; what the first statement (which numbers are phases) comes to. -/
import Derived.Test.YtkghkkfcgegmeaaH13
namespace Go.Proofs.Ytkghkkfcgegmeaa
open Go.RowKit Fl
set_option linter.unusedVariables false
set_option linter.unusedSimpArgs false
attribute [local go_sem] eqC4 eqI4

/-- what May says of a row. -/
def MaySays (l : List Int) (w : World) (e : Ending) (w' : World) : Prop := e = .returned (.bool (mayL l)) ∧ w = w'
theorem maySays {l : List Int} {w : World} {b : Bool} (h : mayL l = b) : MaySays l w (.returned (.bool b)) w := ⟨by rw [h], rfl⟩

set_option maxRecDepth 100000 in
set_option maxHeartbeats 4000000 in
theorem rmay (l : List Int) (v : Value) (w : World) (h : IntsAt .i64 w v l) :
    Calls Try.prog 31 #[v] w (MaySays l w) := by
  obtain ⟨a, c, b, off, rfl, hlen, hab, hcell⟩ := h.any
  clear h
  unfold maxLen at hlen
  go_enter Try.func31, Try.ntmps31
  go_wp2_with fail
  go_loop [3] (fun i => ∃ k : Nat, k ≤ l.length ∧ i = .int .i64 k ∧ Aside (∀ i, i < k → inR (l.getD i 0) = true)) (fun i => l.length - (intOf i).toNat)
  case atStart => exact ⟨0, Nat.zero_le _, rfl, fun i hi => absurd hi (Nat.not_lt_zero _)⟩
  case round =>
    obtain ⟨k, hk, rfl, hall⟩ := hrel
    by_cases hlt : k < l.length
    · obtain ⟨rfl, hbw⟩ := hab (by omega)
      have hc : w.cell? ⟨b, off + k, none⟩ = some (.int .i64 (l.getD k 0)) := by rw [hcell k hlt, getD_of hlt]
      cases hin : inR (l.getD k 0)
      · have H := Lib.hid (mayL_bad hlt hin)
        have hno : ¬ (-2147483648 ≤ l.getD k 0 ∧ l.getD k 0 ≤ 2147483648) := fun h => by rw [inR_iff.2 h] at hin; cases hin
        clear hin hall hcell
        generalize l.getD k 0 = x at *
        go_wp2_with fail
        all_goals
          go_ret
          exact maySays H.out
      · obtain ⟨hx1, hx2⟩ := inR_iff.1 hin
        have hall2 : Aside (∀ i, i < k + 1 → inR (l.getD i 0) = true) := fun i hi => by
          by_cases e : i = k
          · subst e; exact hin
          · exact hall i (by omega)
        clear hall hcell hin
        generalize l.getD k 0 = x at *
        go_wp2_with fail
        go_round
        case rel => exact ⟨k + 1, by omega, by go_num, hall2⟩
        case measure => simp [intOf]; omega
    · obtain rfl : k = l.length := by omega
      have hm : mayL l = decide ((l.length : Int) ≤ 4096) := by
        simp only [mayL, mayL_all hall, Bool.and_true, decide_eq_decide]; omega
      have H := Lib.hid hm
      clear hm hall hcell hab
      go_wp2_with fail
      go_ret
      exact maySays H.out
end Go.Proofs.Ytkghkkfcgegmeaa
