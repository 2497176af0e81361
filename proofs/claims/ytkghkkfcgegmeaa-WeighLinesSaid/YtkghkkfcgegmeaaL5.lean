/- Weights as texts: plain laws. -/
import Derived.Test.YtkghkkfcgegmeaaL1
import Derived.Test.YtkghkkfcgegmeaaW2
namespace Go.Proofs.Ytkghkkfcgegmeaa
open Go.RowKit
set_option linter.unusedVariables false
set_option linter.unusedSimpArgs false

/-- a size with its sign. -/
def sgn (b : Bool) (n : Nat) : Int := if b then -(n : Int) else n
theorem sgn_abs (z : Int) : sgn (decide (z < 0)) z.natAbs = z := by
  unfold sgn
  by_cases h : z < 0
  · rw [decide_eq_true h, if_pos rfl]; omega
  · rw [decide_eq_false h]; simp; omega
theorem sgn_bd (b : Bool) (n : Nat) : (sgn b n).natAbs = n := by unfold sgn; split <;> omega
/-- a weight's text. -/
def tail1 (n : Int) : List UInt8 := (if n < 0 then 45 else 43) :: (digs n.natAbs ++ [105])
def txt (z : Int × Int) : List UInt8 := (if z.1 < 0 then [45] else []) ++ (digs z.1.natAbs ++ tail1 z.2)
def negB (l : List UInt8) : Bool := l.head? == some 45
def r0 (l : List UInt8) : List UInt8 := if negB l then l.tail else l
def r1 (l : List UInt8) : List UInt8 := (r0 l).drop (pre (r0 l)).length
def cand (l : List UInt8) : Int × Int := (sgn (negB l) (val (pre (r0 l))), sgn (negB (r1 l)) (val (pre (r1 l).tail)))

theorem digs_val (n : Nat) (hn : n ≤ 2 ^ 53) : val (digs n) = n := digsF_val 20 n (by omega) (by decide)
theorem digs_len (n : Nat) (hn : n ≤ 2 ^ 53) : 0 < (digs n).length ∧ (digs n).length ≤ 16 := ⟨digsF_pos 20 n (by decide), digsF_len 20 n 16 (by omega) (by decide)⟩
theorem digs_ne45 (n : Nat) (r : List UInt8) : negB (digs n ++ r) = false := by
  have h := digsF_isD 20 n
  have hp := digsF_pos 20 n (by decide)
  unfold negB digs
  cases e : digsF 20 n with
  | nil => rw [e] at hp; simp at hp
  | cons c t =>
    have := isD_iff.1 (h c (by rw [e]; simp))
    have hc : c ≠ 45 := by rintro rfl; simp at this
    simpa using hc
theorem tail1_neg (n : Int) : negB (tail1 n) = decide (n < 0) := by
  unfold negB tail1
  by_cases h : n < 0
  · simp [h]
  · simp [h]
theorem txt_neg (z : Int × Int) : negB (txt z) = decide (z.1 < 0) := by
  unfold txt
  by_cases h : z.1 < 0
  · rw [if_pos h, decide_eq_true h]; rfl
  · rw [if_neg h, decide_eq_false h, List.nil_append]; exact digs_ne45 _ _
theorem txt_r0 (z : Int × Int) : r0 (txt z) = digs z.1.natAbs ++ tail1 z.2 := by
  unfold r0
  rw [txt_neg]
  unfold txt
  by_cases h : z.1 < 0
  · rw [if_pos h, decide_eq_true h]; rfl
  · rw [if_neg h, decide_eq_false h]; rfl
theorem txt_pre (z : Int × Int) (hz : Bd (2 ^ 53) z) : pre (r0 (txt z)) = digs z.1.natAbs := by
  rw [txt_r0]
  refine pre_digs _ (by have := hz.1; omega) _ (Or.inr ⟨_, _, rfl, ?_⟩)
  split <;> decide
theorem txt_r1 (z : Int × Int) (hz : Bd (2 ^ 53) z) : r1 (txt z) = tail1 z.2 := by
  unfold r1
  rw [txt_pre z hz, txt_r0, List.drop_left]
theorem tail1_pre (n : Int) (hn : n.natAbs ≤ 2 ^ 53) : pre (tail1 n).tail = digs n.natAbs :=
  pre_digs _ (by omega) _ (Or.inr ⟨_, _, rfl, by decide⟩)
theorem txt_cand (z : Int × Int) (hz : Bd (2 ^ 53) z) : cand (txt z) = z := by
  unfold cand
  rw [txt_neg, txt_pre z hz, txt_r1 z hz, tail1_neg, tail1_pre _ hz.2, digs_val _ hz.1, digs_val _ hz.2, sgn_abs, sgn_abs]
theorem txt_inj {y z : Int × Int} (hy : Bd (2 ^ 53) y) (hz : Bd (2 ^ 53) z) (h : txt y = txt z) : y = z := by
  rw [← txt_cand y hy, h, txt_cand z hz]
theorem tail1_len (n : Int) (hn : n.natAbs ≤ 2 ^ 53) : 3 ≤ (tail1 n).length ∧ (tail1 n).length ≤ 18 := by
  have := digs_len n.natAbs hn
  unfold tail1; simp; omega
theorem txt_len (z : Int × Int) (hz : Bd (2 ^ 53) z) : (txt z).length ≤ 35 := by
  have h1 := digs_len z.1.natAbs hz.1
  have h2 := tail1_len z.2 hz.2
  unfold txt
  split <;> simp <;> omega
end Go.Proofs.Ytkghkkfcgegmeaa
