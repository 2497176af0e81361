/- Plain laws of layer 11 (super): which of two sectors counts. -/
import Derived.Test.YtpdmnjcklpklnaaR13
import Derived.Test.YtpdmnjcklpklnaaR8
namespace Go.Proofs.Ytpdmnjcklpklnaa
open Go.RowKit
set_option linter.unusedVariables false
set_option linter.unusedSimpArgs false

/-- the cells of a superblock of noughts. -/
def zeroSB : SB := ⟨0, 0, 0, 0, 0, []⟩
def cnt0 (l : List UInt8) : Prop := isSB l ∧ (dec l).seq % 2 = 0
def cnt1 (l : List UInt8) : Prop := isSB l ∧ (dec l).seq % 2 = 1
/-- which of two sectors counts. -/
def PickOf (a b : List UInt8) (o : Option (List UInt8)) : Prop :=
  (o = none ∧ ¬ cnt0 a ∧ ¬ cnt1 b) ∨ (o = some a ∧ cnt0 a ∧ ¬ (cnt1 b ∧ (dec a).seq < (dec b).seq)) ∨ (o = some b ∧ cnt1 b ∧ ¬ (cnt0 a ∧ (dec b).seq < (dec a).seq))
theorem PickOf.uniq {a b : List UInt8} {o o' : Option (List UInt8)} (h : PickOf a b o) (h' : PickOf a b o') : o = o' := by
  rcases h with ⟨rfl, h1, h2⟩ | ⟨rfl, h1, h2⟩ | ⟨rfl, h1, h2⟩ <;> rcases h' with ⟨rfl, k1, k2⟩ | ⟨rfl, k1, k2⟩ | ⟨rfl, k1, k2⟩ <;> first | rfl | (exact absurd h1 k1) | (exact absurd h1 k2) | (exact absurd k1 h1) | (exact absurd k1 h2) | skip
  · have e1 := h1.2
    have e2 := k1.2
    exact absurd (show cnt1 b ∧ (dec a).seq < (dec b).seq from ⟨k1, by
      rcases Nat.lt_trichotomy (dec a).seq (dec b).seq with h | h | h
      · exact h
      · omega
      · exact absurd ⟨h1, h⟩ k2⟩) h2
  · have e1 := h1.2
    have e2 := k1.2
    exact absurd (show cnt0 a ∧ (dec b).seq < (dec a).seq from ⟨k1, by
      rcases Nat.lt_trichotomy (dec a).seq (dec b).seq with h | h | h
      · exact absurd ⟨h1, h⟩ k2
      · omega
      · exact h⟩) h2
def pickSB : Option (List UInt8) → SB
  | none => zeroSB
  | some l => dec l
theorem SB.same_self (s : SB) : s.same s = true := by
  unfold SB.same; simp
/-- what Pick says of two sectors. -/
def PickSays (ok bad : Value) (a b : List UInt8) (w : World) (e : Ending) (w' : World) : Prop :=
  (∃ o v, PickOf a b o ∧ e = .returned (.tuple #[.agg ((pickSB o).cells v), if o.isSome then ok else bad]) ∧ RunsIn w' v (pickSB o).runs w.heap.size w'.heap.size) ∧ Kept [] w w'
/-- what Get says of a sector. -/
def GetSays (ok bad : Value) (l : List UInt8) (w : World) (e : Ending) (w' : World) : Prop :=
  ((isSB l ∧ ∃ v, e = .returned (.tuple #[.agg ((dec l).cells v), ok]) ∧ RunsIn w' v (dec l).runs w.heap.size w'.heap.size) ∨ (¬ isSB l ∧ e = .returned (.tuple #[.agg (zeroSB.cells (.slice none 0 0)), bad]))) ∧ Kept [] w w'
theorem getSays_no {ok bad : Value} {l : List UInt8} {w w' : World} (h : ¬ isSB l) (hk : Kept [] w w') : GetSays ok bad l w (.returned (.tuple #[.agg #[.int .u64 0, .int .i64 0, .int .i64 0, .int .i64 0, .int .i64 0, .slice none 0 0], bad])) w' := ⟨Or.inr ⟨h, rfl⟩, hk⟩
theorem dec_runs_ok (l : List UInt8) : (dec l).runs = decRuns l (le l 32 2) := rfl
end Go.Proofs.Ytpdmnjcklpklnaa
