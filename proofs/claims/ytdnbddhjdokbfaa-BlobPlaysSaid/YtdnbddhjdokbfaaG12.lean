/- Layer 10 (extent): the lowest sectors, so many: plain laws. -/
import Derived.Test.YtdnbddhjdokbfaaG05
import Derived.Test.YtdnbddhjdokbfaaG10
import Derived.Test.YtdnbddhjdokbfaaG11
import Derived.Deep.SlicePairs
import Derived.ProofKit
import Derived.OpenShut
import Derived.LoopN
import Derived.Lib.AppendZerosOnto
import Derived.Lib.Walk
import Derived.Lib.SliceRun
namespace Go.Proofs.Ytdnbddhjdokbfaa
open Go.RowKit
set_option linter.unusedVariables false
set_option linter.unusedSimpArgs false

/-- how many sectors of a list are below one. -/
def bel (l : List (Int × Int)) (j : Int) : Int := (l.map fun r => max 0 (min r.2 (j - r.1))).sum
theorem bel_append (a b : List (Int × Int)) (j : Int) : bel (a ++ b) j = bel a j + bel b j := by unfold bel; rw [List.map_append, List.sum_append]
theorem bel_cons (r : Int × Int) (t : List (Int × Int)) (j : Int) : bel (r :: t) j = max 0 (min r.2 (j - r.1)) + bel t j := by unfold bel; rw [List.map_cons, List.sum_cons]
theorem bel_nil (j : Int) : bel [] j = 0 := rfl
theorem bel_zero {a : Int} {l : List (Int × Int)} (h : Pl a l) (j : Int) (hj : j ≤ a) : bel l j = 0 := by
  induction l generalizing a with
  | nil => rfl
  | cons r t ih =>
    obtain ⟨h1, h2, h3, h4⟩ := h
    rw [bel_cons, ih h4 (by omega)]; omega
theorem bel_all {l : List (Int × Int)} (j : Int) (h : ∀ x ∈ l, 1 ≤ x.2 ∧ x.1 + x.2 ≤ j) : bel l j = sumLen l := by
  induction l with
  | nil => rfl
  | cons r t ih =>
    have h1 := h r List.mem_cons_self
    have e : sumLen (r :: t) = r.2 + sumLen t := by simp [sumLen]
    rw [bel_cons, ih (fun x hx => h x (List.mem_cons_of_mem _ hx)), e]; omega
theorem bel_step {a : Int} {l : List (Int × Int)} (h : Pl a l) (m : Nat) : bel l ((m : Int) + 1) = bel l m + if hasB l m = true then 1 else 0 := by
  induction l generalizing a with
  | nil => simp [bel, hasB]
  | cons r t ih =>
    obtain ⟨h1, h2, h3, h4⟩ := h
    rw [bel_cons, bel_cons, ih h4]
    have e : hasB (r :: t) m = ((decide (r.1 ≤ m) && decide ((m : Int) < r.1 + r.2)) || hasB t m) := by simp [hasB]
    rw [e]
    by_cases hin : r.1 ≤ m ∧ (m : Int) < r.1 + r.2
    · have ht : hasB t m = false := by
        cases hx : hasB t m
        · rfl
        · have := (h4.ge (hasB_iff.1 hx)).1; omega
      rw [ht, decide_eq_true hin.1, decide_eq_true hin.2]
      simp
      omega
    · have e2 : (decide (r.1 ≤ m) && decide ((m : Int) < r.1 + r.2)) = false := by simp; omega
      rw [e2, Bool.false_or]
      have : max 0 (min r.2 ((m : Int) + 1 - r.1)) = max 0 (min r.2 ((m : Int) - r.1)) := by omega
      rw [this]; omega
theorem bel_cnt (f : Nat → Bool) (m : Nat) (hm : m ≤ 8192) : bel (canon f) m = cntF f m := by
  induction m with
  | zero => rw [bel_zero (canon_pl f) _ (by omega)]; rfl
  | succ m ih =>
    have := bel_step (canon_pl f) m
    rw [canon_has f m (by omega)] at this
    rw [show ((m + 1 : Nat) : Int) = (m : Int) + 1 by omega, this, ih (by omega), cntF]
    split <;> omega
/-- one run taken, as far as so many are asked. -/
def lstep (s : List (Int × Int) × Int) (r : Int × Int) : List (Int × Int) × Int := if s.2 = 0 then s else (s.1 ++ [(r.1, min r.2 s.2)], s.2 - min r.2 s.2)
def lowTo (p : List (Int × Int)) (n : Int) (k : Nat) : List (Int × Int) × Int := (p.take k).foldl lstep ([], n)
theorem lowTo_succ (p : List (Int × Int)) (n : Int) (k : Nat) (h : k < p.length) : lowTo p n (k + 1) = lstep (lowTo p n k) p[k] := by
  unfold lowTo; rw [List.take_succ_eq_append_getElem h, List.foldl_append]; rfl
theorem lowTo_stop (p : List (Int × Int)) (n : Int) (k : Nat) (hk : k ≤ p.length) (h : (lowTo p n k).2 = 0) (j : Nat) (hj : k ≤ j) (hj2 : j ≤ p.length) : lowTo p n j = lowTo p n k := by
  induction j with
  | zero => obtain rfl : k = 0 := by omega
            rfl
  | succ j ih =>
    by_cases e : k = j + 1
    · rw [e]
    · have h2 := ih (by omega) (by omega)
      rw [lowTo_succ p n j (by omega), h2]
      unfold lstep
      rw [if_pos h]
structure LowOk (p : List (Int × Int)) (n : Int) (k : Nat) : Prop where
  pl : Pl 0 (lowTo p n k).1
  is : ∀ j, inS (lowTo p n k).1 j ↔ inS (p.take k) j ∧ bel (p.take k) j < n
  rem : (lowTo p n k).2 = max 0 (n - sumLen (p.take k))
  low : ∀ x ∈ (lowTo p n k).1, ∃ y ∈ p.take k, x.1 = y.1 ∧ x.2 ≤ y.2
theorem low_ok {p : List (Int × Int)} (hp : Pl 0 p) (n : Int) (hn : 0 ≤ n) (k : Nat) (hk : k ≤ p.length) : LowOk p n k := by
  induction k with
  | zero => exact ⟨trivial, fun j => ⟨fun h => absurd h (inS_nil j), fun h => absurd h.1 (inS_nil j)⟩, by show n = max 0 (n - 0); omega, fun x hx => by cases hx⟩
  | succ k ih =>
    obtain ⟨h1, h2, h3, h4⟩ := ih (by omega)
    have hlt : k < p.length := by omega
    obtain ⟨p1, p2, p3⟩ := pl_at hp hlt
    have htk : p.take (k + 1) = p.take k ++ [p[k]] := List.take_succ_eq_append_getElem hlt
    have hpk := hp.take (k + 1)
    rw [htk] at hpk
    obtain ⟨g1, _, _, _, g5⟩ := hpk.init
    have hall : ∀ j, p[k].1 ≤ j → bel (p.take k) j = sumLen (p.take k) := fun j hj => bel_all j (fun x hx => ⟨(g1.mem hx).2.1, by have := g5 x hx; omega⟩)
    have hbel : ∀ j, bel (p.take (k + 1)) j = bel (p.take k) j + max 0 (min p[k].2 (j - p[k].1)) := fun j => by rw [htk, bel_append, bel_cons, bel_nil]; omega
    have hin : ∀ j, inS (p.take (k + 1)) j ↔ inS (p.take k) j ∨ (p[k].1 ≤ j ∧ j < p[k].1 + p[k].2) := fun j => by rw [htk, inS_append, inS_one]
    have hbefore : ∀ j, inS (p.take k) j → j < p[k].1 := fun j ⟨x, hx, _, hx2⟩ => by have := g5 x hx; omega
    have hsum : sumLen (p.take (k + 1)) = sumLen (p.take k) + p[k].2 := sumLen_take p k hlt
    have hs := lowTo_succ p n k hlt
    unfold lstep at hs
    by_cases h0 : (lowTo p n k).2 = 0
    · rw [if_pos h0] at hs
      refine ⟨by rw [hs]; exact h1, fun j => ?_, by rw [hs, h3, hsum]; omega, fun x hx => ?_⟩
      · rw [hs, h2, hin, hbel]
        constructor
        · rintro ⟨a, b⟩
          have := hbefore j a
          exact ⟨Or.inl a, by omega⟩
        · rintro ⟨a | a, b⟩
          · have := hbefore j a
            exact ⟨a, by omega⟩
          · have := hall j a.1; omega
      · rw [hs] at hx
        obtain ⟨y, hy, e⟩ := h4 x hx
        exact ⟨y, by rw [htk]; exact List.mem_append_left _ hy, e⟩
    · rw [if_neg h0] at hs
      generalize (lowTo p n k).2 = m at *
      generalize (lowTo p n k).1 = o at *
      refine ⟨?_, fun j => ?_, ?_, fun x hx => ?_⟩
      · rw [hs]
        refine h1.snoc p1 (by show 1 ≤ min p[k].2 m; omega) (by show p[k].1 + min p[k].2 m ≤ 8192; omega) (fun x hx => ?_)
        obtain ⟨y, hy, e1, e2⟩ := h4 x hx
        have := g5 y hy
        show x.1 + x.2 + 1 ≤ p[k].1
        omega
      · rw [hs]
        show inS (o ++ [(p[k].1, min p[k].2 m)]) j ↔ _
        rw [inS_append, inS_one, h2, hin, hbel]
        constructor
        · rintro (⟨a, b⟩ | ⟨a, b⟩)
          · have := hbefore j a
            exact ⟨Or.inl a, by omega⟩
          · have a : p[k].1 ≤ j := a
            have b : j < p[k].1 + min p[k].2 m := b
            have := hall j a
            exact ⟨Or.inr ⟨a, by omega⟩, by omega⟩
        · rintro ⟨a | a, b⟩
          · have := hbefore j a
            exact Or.inl ⟨a, by omega⟩
          · have := hall j a.1
            refine Or.inr ⟨a.1, ?_⟩
            show j < p[k].1 + min p[k].2 m
            omega
      · rw [hs, hsum]
        show m - min p[k].2 m = _
        omega
      · rw [hs] at hx
        rcases List.mem_append.1 hx with hx | hx
        · obtain ⟨y, hy, e⟩ := h4 x hx
          exact ⟨y, by rw [htk]; exact List.mem_append_left _ hy, e⟩
        · have hx : x = (p[k].1, min p[k].2 m) := by simpa using hx
          subst hx
          exact ⟨p[k], by rw [htk]; exact List.mem_append_right _ (List.mem_singleton.2 rfl), rfl, by show min p[k].2 m ≤ p[k].2; omega⟩
/-- the lowest sectors of a list, so many. -/
def lowF (l : List (Int × Int)) (n : Int) (m : Nat) : Bool := hasB l m && decide ((cntF (hasB l) m : Int) < n)
def lowestL (l : List (Int × Int)) (n : Int) : List (Int × Int) := canon (lowF l n)
theorem low_final (l : List (Int × Int)) (n : Int) (hn : 0 ≤ n) : (lowTo (plainL l) n (plainL l).length).1 = lowestL l n ∧ (lowTo (plainL l) n (plainL l).length).2 = max 0 (n - countL l) := by
  have h := low_ok (canon_pl (hasB l)) n hn (plainL l).length (Nat.le_refl _)
  constructor
  · refine canon_eq h.pl (fun m hm => ?_)
    have h2 := h.is m
    rw [show (canon (hasB l)).take (plainL l).length = canon (hasB l) from List.take_length] at h2
    rw [show plainL l = canon (hasB l) from rfl] at *
    rw [h2, bel_cnt _ m (by omega), ← hasB_iff, canon_has _ m hm]
    unfold lowF
    simp
  · have h3 := h.rem
    rw [show (canon (hasB l)).take (plainL l).length = canon (hasB l) from List.take_length, canon_sum] at h3
    exact h3
theorem lowTo_len (p : List (Int × Int)) (n : Int) (k : Nat) : (lowTo p n k).1.length ≤ k := by
  induction k with
  | zero => exact Nat.le_refl _
  | succ k ih =>
    by_cases h : k < p.length
    · rw [lowTo_succ p n k h]
      unfold lstep
      split
      · omega
      · show (_ ++ [_]).length ≤ _
        rw [List.length_append, List.length_singleton]; omega
    · have e : lowTo p n (k + 1) = lowTo p n k := by unfold lowTo; rw [List.take_of_length_le (by omega), List.take_of_length_le (by omega)]
      rw [e]; omega
/-- which error; which list. -/
def lowCode (l : List (Int × Int)) (n : Int) : Int := if n < 0 then 1 else if (countL l : Int) < n ∨ 16 < (lowestL l n).length then 100 else 0
def lowRes (l : List (Int × Int)) (n : Int) : List (Int × Int) := if lowCode l n = 0 then lowestL l n else []
def LowSays (l : List (Int × Int)) (n : Int) (w : World) (e : Ending) (w' : World) : Prop :=
  ∃ v, e = .returned (.tuple #[v, .int .i64 (lowCode l n)]) ∧ w'.ownsRow w.heap.size 66 2 v (lowRes l n).length (rcells (lowRes l n)) ∧ Kept [] w w'
theorem low_neg {l : List (Int × Int)} {n : Int} (h : n < 0) : lowCode l n = 1 ∧ lowRes l n = [] := by
  have e : lowCode l n = 1 := by unfold lowCode; rw [if_pos h]
  exact ⟨e, by unfold lowRes; rw [e, if_neg (by omega)]⟩
theorem low_full {l : List (Int × Int)} {n : Int} (h : 0 ≤ n) (hf : (countL l : Int) < n ∨ 16 < (lowestL l n).length) : lowCode l n = 100 ∧ lowRes l n = [] := by
  have e : lowCode l n = 100 := by unfold lowCode; rw [if_neg (by omega), if_pos hf]
  exact ⟨e, by unfold lowRes; rw [e, if_neg (by omega)]⟩
theorem low_ok2 {l : List (Int × Int)} {n : Int} (h : 0 ≤ n) (h1 : n ≤ countL l) (h2 : (lowestL l n).length ≤ 16) : lowCode l n = 0 ∧ lowRes l n = lowestL l n := by
  have e : lowCode l n = 0 := by unfold lowCode; rw [if_neg (by omega), if_neg (by omega)]
  exact ⟨e, by unfold lowRes; rw [if_pos e]⟩
end Go.Proofs.Ytdnbddhjdokbfaa

/- Walks of layer 10 (extent): the lowest sectors, so many. -/
namespace Go.Proofs.Ytdnbddhjdokbfaa
open Go.RowKit
set_option linter.unusedVariables false
set_option linter.unusedSimpArgs false

theorem lowF_at (l : List (Int × Int)) (n : Int) (k : Nat) : lowF l n k = (hasB l k && decide ((cntF (hasB l) k : Int) < n)) := rfl
/-- the row behind k sectors: the lowest ones of those, and the others as they were. -/
def lowRow (l : List (Int × Int)) (n : Int) (k m : Nat) : Bool := if m < k then lowF l n m else hasB l m
theorem lowRow_zero (l : List (Int × Int)) (n : Int) (m : Nat) : lowRow l n 0 m = hasB l m := by unfold lowRow; rw [if_neg (by omega)]
theorem lowRow_self (l : List (Int × Int)) (n : Int) (k : Nat) : lowRow l n k k = hasB l k := by unfold lowRow; rw [if_neg (by omega)]
theorem lowRow_next (l : List (Int × Int)) (n : Int) (k m : Nat) (h : m ≠ k) : lowRow l n (k + 1) m = lowRow l n k m := by
  unfold lowRow
  by_cases e : m < k
  · rw [if_pos e, if_pos (by omega)]
  · rw [if_neg e, if_neg (by omega)]
theorem lowRow_at (l : List (Int × Int)) (n : Int) (k : Nat) : lowRow l n (k + 1) k = lowF l n k := by unfold lowRow; rw [if_pos (by omega)]
end Go.Proofs.Ytdnbddhjdokbfaa

/- Layer 10 (extent): same lists; not more runs than are looked at; the page's examples; ExtentLowest's walk. -/
namespace Go.Proofs.Ytdnbddhjdokbfaa
open Go.ChangeShapes Go.WideShapes Go.ChangeAt Go.RowKit Go.Deep
set_option linter.unusedVariables false
set_option linter.unusedSimpArgs false

theorem RunsIn.take {w : World} {p : Option Addr} {n c : Nat} {l : List (Int × Int)} {lo hi : Nat} (h : RunsIn w (.slice p n c) l lo hi) (k : Nat) (h0 : 0 < k) (hk : k ≤ l.length) : RunsIn w (.slice p k c) (l.take k) lo hi := by
  rcases h with ⟨rfl, _⟩ | ⟨b, off, c', e, h2, h3, h4, h5, h6, h7, h8⟩
  · simp at hk; omega
  · simp at e
    obtain ⟨rfl, rfl, rfl⟩ := e
    have hl : (l.take k).length = k := by rw [List.length_take]; omega
    refine Or.inr ⟨b, off, c, by rw [hl], fun i hi => ?_, h3, h4, h5, fun e => by rw [e] at hl; simp at hl; omega, by rw [hl]; omega, h8⟩
    rw [List.getElem_take]
    exact h2 i (by omega)
theorem RunsIn.lenle {w : World} {p : Option Addr} {n c : Nat} {l : List (Int × Int)} {lo hi : Nat} (h : RunsIn w (.slice p n c) l lo hi) (h0 : l ≠ []) : l.length ≤ c := by
  rcases h with ⟨rfl, _⟩ | ⟨b, off, c', e, h2, h3, h4, h5, h6, h7, h8⟩
  · exact absurd rfl h0
  · simp at e
    obtain ⟨rfl, rfl, rfl⟩ := e
    exact h7
end Go.Proofs.Ytdnbddhjdokbfaa

/- Layer 10 (extent): the page's examples; ExtentLowest's walk. -/
namespace Go.Proofs.Ytdnbddhjdokbfaa
open Go.RowKit
set_option linter.unusedVariables false
set_option linter.unusedSimpArgs false

theorem plain_ex : plainL [(4, 2), (0, 2), (2, 2)] = [(0, 6)] := by
  refine (canon_eq (p := [(0, 6)]) ⟨by decide, by decide, by decide, trivial⟩ (fun m hm => ?_)).symm
  rw [hasB_iff]
  unfold inS
  simp
  omega
theorem minus_ex : minusL [(0, 10)] [(3, 2)] = [(0, 3), (5, 5)] := by
  refine (canon_eq (p := [(0, 3), (5, 5)]) ⟨by decide, by decide, by decide, by decide, by decide, by decide, trivial⟩ (fun m hm => ?_)).symm
  rw [Bool.and_eq_true, Bool.not_eq_true', ← Bool.not_eq_true, hasB_iff, hasB_iff]
  unfold inS
  simp
  omega
theorem runs_lit1 (w : World) (x n : Int) : RunsIn (w.alloc (.cells #[.int .i64 x, .int .i64 n] 66)) (.slice (some ⟨w.heap.size, 0, none⟩) 1 1) [(x, n)] w.heap.size (w.heap.size + 1) := by
  have hc := (Own.new w #[.int .i64 x, .int .i64 n] 66)
  refine Or.inr ⟨w.heap.size, 0, 1, rfl, fun i hi => ?_, Nat.le_refl _, Nat.lt_succ_self _, by simp, by simp, Nat.le_refl _, by unfold maxLen; omega⟩
  obtain rfl : i = 0 := by simpa using hi
  exact ⟨hc.cell 0 (by simp), hc.cell 1 (by simp)⟩
theorem runs_lit2 (w : World) (x n x2 n2 : Int) : RunsIn (w.alloc (.cells #[.int .i64 x, .int .i64 n, .int .i64 x2, .int .i64 n2] 66)) (.slice (some ⟨w.heap.size, 0, none⟩) 2 2) [(x, n), (x2, n2)] w.heap.size (w.heap.size + 1) := by
  have hc := (Own.new w #[.int .i64 x, .int .i64 n, .int .i64 x2, .int .i64 n2] 66)
  refine Or.inr ⟨w.heap.size, 0, 2, rfl, fun i hi => ?_, Nat.le_refl _, Nat.lt_succ_self _, by simp, by simp, Nat.le_refl _, by unfold maxLen; omega⟩
  rcases (by simp at hi; omega : i = 0 ∨ i = 1) with rfl | rfl
  · exact ⟨hc.cell 0 (by simp), hc.cell 1 (by simp)⟩
  · exact ⟨hc.cell 2 (by simp), hc.cell 3 (by simp)⟩
theorem runs_lit3 (w : World) (x n x2 n2 x3 n3 : Int) : RunsIn (w.alloc (.cells #[.int .i64 x, .int .i64 n, .int .i64 x2, .int .i64 n2, .int .i64 x3, .int .i64 n3] 66)) (.slice (some ⟨w.heap.size, 0, none⟩) 3 3) [(x, n), (x2, n2), (x3, n3)] w.heap.size (w.heap.size + 1) := by
  have hc := (Own.new w #[.int .i64 x, .int .i64 n, .int .i64 x2, .int .i64 n2, .int .i64 x3, .int .i64 n3] 66)
  refine Or.inr ⟨w.heap.size, 0, 3, rfl, fun i hi => ?_, Nat.le_refl _, Nat.lt_succ_self _, by simp, by simp, Nat.le_refl _, by unfold maxLen; omega⟩
  rcases (by simp at hi; omega : i = 0 ∨ i = 1 ∨ i = 2) with rfl | rfl | rfl
  · exact ⟨hc.cell 0 (by simp), hc.cell 1 (by simp)⟩
  · exact ⟨hc.cell 2 (by simp), hc.cell 3 (by simp)⟩
  · exact ⟨hc.cell 4 (by simp), hc.cell 5 (by simp)⟩
theorem wf_small {l : List (Int × Int)} (h : ∀ a ∈ l, 0 ≤ a.1 ∧ a.1 ≤ 8192 ∧ 0 ≤ a.2 ∧ a.2 ≤ 8192) : ∀ a ∈ l, WfRun a := fun a ha => by
  obtain ⟨h1, h2, h3, h4⟩ := h a ha
  exact ⟨by omega, by omega, by omega, by omega⟩
theorem pl_wf {l : List (Int × Int)} {a : Int} (ha : 0 ≤ a) (h : Pl a l) : ∀ x ∈ l, WfRun x := by
  induction l generalizing a with
  | nil => intro x hx; cases hx
  | cons r t ih =>
    obtain ⟨h1, h2, h3, h4⟩ := h
    intro x hx
    rcases List.mem_cons.1 hx with rfl | hx
    · exact ⟨by omega, by omega, by omega, by omega⟩
    · exact ih (by omega) h4 x hx
theorem cnt_low (l : List (Int × Int)) (n : Int) (hn : 0 ≤ n) (k : Nat) : (cntF (lowF l n) k : Int) = min n (cntF (hasB l) k) := by
  induction k with
  | zero => show ((0 : Nat) : Int) = min n ((0 : Nat) : Int); omega
  | succ k ih =>
    rw [cntF, cntF]
    have e := lowF_at l n k
    by_cases hb : hasB l k = true
    · rw [hb, Bool.true_and] at e
      by_cases hlt : (cntF (hasB l) k : Int) < n
      · rw [decide_eq_true hlt] at e
        rw [if_pos e, if_pos hb]; omega
      · rw [decide_eq_false hlt] at e
        rw [e, if_neg (by simp), if_pos hb]; omega
    · have hb' : hasB l k = false := by simpa using hb
      rw [hb', Bool.false_and] at e
      rw [e, if_neg (by simp), if_neg hb]; omega
theorem count_canon (f : Nat → Bool) : countL (canon f) = cntF f 8192 := by
  have h1 := plain_sum (canon f)
  rw [plain_self (canon_pl f), canon_sum] at h1
  omega
theorem low_count {l : List (Int × Int)} {n : Int} (h : lowCode l n = 0) : (countL (lowRes l n) : Int) = n := by
  unfold lowRes
  rw [if_pos h]
  unfold lowCode at h
  by_cases h0 : n < 0
  · rw [if_pos h0] at h; omega
  · rw [if_neg h0] at h
    by_cases h1 : (countL l : Int) < n ∨ 16 < (lowestL l n).length
    · rw [if_pos h1] at h; omega
    · unfold lowestL
      rw [count_canon, cnt_low l n (by omega)]
      have e : countL l = cntF (hasB l) 8192 := rfl
      omega
theorem canon_none {f : Nat → Bool} (h : ∀ m, m < 8192 → f m = false) : canon f = [] := (canon_eq (p := []) trivial (fun m hm => by rw [h m hm]; exact ⟨fun h => absurd h (inS_nil _), fun h => by cases h⟩)).symm
theorem low_within (l : List (Int × Int)) (n : Int) : minusL (lowRes l n) l = [] := by
  unfold minusL
  refine canon_none (fun m hm => ?_)
  unfold lowRes
  split
  · unfold lowestL
    rw [canon_has _ m hm, lowF_at]
    cases hasB l m <;> simp
  · rfl
theorem lowRes_pl (l : List (Int × Int)) (n : Int) : Pl 0 (lowRes l n) := by
  unfold lowRes
  split
  · exact canon_pl _
  · trivial
theorem LowSays.out {l : List (Int × Int)} {n : Int} {w w' : World} {e : Ending} (h : LowSays l n w e w') : ∃ v, e = .returned (.tuple #[v, .int .i64 (lowCode l n)]) ∧ RunsIn w' v (lowRes l n) w.heap.size w'.heap.size ∧ Kept [] w w' := by
  obtain ⟨v, h1, h2, h3⟩ := h
  exact ⟨v, h1, RunsIn.of_own h2, h3⟩
end Go.Proofs.Ytdnbddhjdokbfaa

/- Layer 10 (extent): runs of two lists one behind the other; Join, on both sides. -/
namespace Go.Proofs.Ytdnbddhjdokbfaa
open Go.RowKit
set_option linter.unusedVariables false
set_option linter.unusedSimpArgs false

theorem run_append_none_any {P : Program} {w : World} (base : Nat) (t ty e : TypeId) (i : TypeInfo) (size : Nat) (ht : P.underlying t = some (.slice e)) (hi : P.info? e = some i)
    (v : Value) (n c : Nat) (xs : List Value) (hown : w.ownsRow base e size v n xs) :
    (Builtin.append_ #[t, t] ty #[v, .slice none 0 c]).run P w = .ok v w := by
  rcases hown.2 with ⟨rfl, rfl⟩ | ⟨g, cap, cur, rfl, _, _, hnc, _⟩
  · simp [Builtin.append_, run_underlying ht, sizeOf, typeInfo, hi, Builtin.lenOf, Builtin.firstCells]
  · simp [Builtin.append_, run_underlying ht, sizeOf, typeInfo, hi, Builtin.lenOf, Builtin.firstCells, hnc, storeCells]
theorem wpList_append_runs {w : World} {ops : Array Oper} {rest : List Oper} {o : Oper} {a : Act} {Q : Exit → Act → World → Prop} (hgd : o.guard = none) (s x : Operand)
    (ho : o.op = .call { callee := .builtin .append, args := #[s, x], argTypes := #[22, 22] })
    (base : Nat) (v : Value) (n : Nat) (xs : List Value) (hs : a.eval s = v) (hown : w.ownsRow base 66 2 v n xs)
    (u : Value) (l : List (Int × Int)) (lo hi : Nat) (hx : a.eval x = u) (hsrc : RunsIn w u l lo hi)
    (h63 : n + l.length ≤ maxLen) (hbytes : (n + l.length) * 16 ≤ 140737488355328) (hbase : base ≤ w.heap.size)
    (h : ∀ v' w', w'.ownsRow base 66 2 v' (n + l.length) (xs ++ rcells l) → w.grownBy w' v.ownBlock → wpList Try.prog ops Q rest (a.put o.dst v') w') :
    wpList Try.prog ops Q (o :: rest) a w := by
  obtain ⟨i0, q0, q1, q2, q3⟩ := infoRun
  obtain ⟨p, c, rfl⟩ := hsrc.shape
  cases p with
  | none =>
    have hl0 : l = [] := by
      rcases hsrc with ⟨h, _⟩ | ⟨b, off, c', e, _⟩
      · exact h
      · simp at e
    subst hl0
    refine wpList_plain hgd fun K hK => ?_
    have hrun := run_append_none_any (P := Try.prog) (w := w) base 22 o.type 66 i0 2 Try.underlying22 q0 v n c xs hown
    have hx' : a.eval x = .slice none 0 c := hx
    unfold Oper.wp
    simp [execOp, ho, resolve, invoke, builtin, hs, hx', hrun, Result.andThen]
    exact hK _ _ (h v w (by simpa [rcells] using hown) (grownBy_refl _ _))
  | some ad =>
    have hcell : ∀ j u, (rcells l)[j]? = some u → w.cell? (ad.add j) = some u := by
      rcases hsrc with ⟨rfl, _⟩ | ⟨b, off, c', e, h2⟩
      · intro j u hj; simp [rcells] at hj
      · simp at e
        obtain ⟨rfl, rfl⟩ := e
        have hh : RunsIn w (.slice (some ⟨b, off, none⟩) l.length c) l lo hi := Or.inr ⟨b, off, c, rfl, h2⟩
        intro j u hj
        rw [Go.WideShapes.add_plain]
        exact hh.cells j u hj
    refine wpList_append_own_at w hgd s x 22 ho base 66 i0 _ 2 16 Try.underlying22 q0 q1 q2 q3 rfl (by decide) v n xs hs hown ad l.length c (rcells l) hx (rcells_len l) hcell (rcells_one l) h63 hbytes hbase ?_
    intro v' w' h2 h3 _ _
    exact h v' w' h2 h3
end Go.Proofs.Ytdnbddhjdokbfaa

/- Layer 10 (extent): Join, on both sides; the reference's Plain. -/
namespace Go.Proofs.Ytdnbddhjdokbfaa
open Go.RowKit
set_option linter.unusedVariables false
set_option linter.unusedSimpArgs false

theorem wf_append {la lb : List (Int × Int)} (h1 : ∀ a ∈ la, WfRun a) (h2 : ∀ a ∈ lb, WfRun a) : ∀ a ∈ la ++ lb, WfRun a := fun a ha => (List.mem_append.1 ha).elim (h1 a) (h2 a)
end Go.Proofs.Ytdnbddhjdokbfaa
