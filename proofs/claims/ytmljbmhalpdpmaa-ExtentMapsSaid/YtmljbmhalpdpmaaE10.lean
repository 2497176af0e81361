/- Layer 10 (extent): the lowest sectors, so many: plain laws. -/
import Derived.Test.YtmljbmhalpdpmaaE8
namespace Go.Proofs.Ytmljbmhalpdpmaa
open Go.RowKit
set_option linter.unusedVariables false
set_option linter.unusedSimpArgs false

/-- how many sectors of a list are below one. -/
def bel (l : List (Int × Int)) (j : Int) : Int := (l.map fun r => max 0 (min r.2 (j - r.1))).sum
theorem bel_append (a b : List (Int × Int)) (j : Int) : bel (a ++ b) j = bel a j + bel b j := by unfold bel; rw [List.map_append, List.sum_append]
theorem bel_cons (r : Int × Int) (t : List (Int × Int)) (j : Int) : bel (r :: t) j = max 0 (min r.2 (j - r.1)) + bel t j := by unfold bel; rw [List.map_cons, List.sum_cons]
theorem bel_nil (j : Int) : bel [] j = 0 := rfl
theorem bel_zero {a : Int} {l : List (Int × Int)} (h : Pl a l) (j : Int) (hj : j ≤ a) : bel l j = 0 := by
  induction l generalizing a with
  | nil => rfl
  | cons r t ih =>
    obtain ⟨h1, h2, h3, h4⟩ := h
    rw [bel_cons, ih h4 (by omega)]; omega
theorem bel_all {l : List (Int × Int)} (j : Int) (h : ∀ x ∈ l, 1 ≤ x.2 ∧ x.1 + x.2 ≤ j) : bel l j = sumLen l := by
  induction l with
  | nil => rfl
  | cons r t ih =>
    have h1 := h r List.mem_cons_self
    have e : sumLen (r :: t) = r.2 + sumLen t := by simp [sumLen]
    rw [bel_cons, ih (fun x hx => h x (List.mem_cons_of_mem _ hx)), e]; omega
theorem bel_step {a : Int} {l : List (Int × Int)} (h : Pl a l) (m : Nat) : bel l ((m : Int) + 1) = bel l m + if hasB l m = true then 1 else 0 := by
  induction l generalizing a with
  | nil => simp [bel, hasB]
  | cons r t ih =>
    obtain ⟨h1, h2, h3, h4⟩ := h
    rw [bel_cons, bel_cons, ih h4]
    have e : hasB (r :: t) m = ((decide (r.1 ≤ m) && decide ((m : Int) < r.1 + r.2)) || hasB t m) := by simp [hasB]
    rw [e]
    by_cases hin : r.1 ≤ m ∧ (m : Int) < r.1 + r.2
    · have ht : hasB t m = false := by
        cases hx : hasB t m
        · rfl
        · have := (h4.ge (hasB_iff.1 hx)).1; omega
      rw [ht, decide_eq_true hin.1, decide_eq_true hin.2]
      simp
      omega
    · have e2 : (decide (r.1 ≤ m) && decide ((m : Int) < r.1 + r.2)) = false := by simp; omega
      rw [e2, Bool.false_or]
      have : max 0 (min r.2 ((m : Int) + 1 - r.1)) = max 0 (min r.2 ((m : Int) - r.1)) := by omega
      rw [this]; omega
theorem bel_cnt (f : Nat → Bool) (m : Nat) (hm : m ≤ 8192) : bel (canon f) m = cntF f m := by
  induction m with
  | zero => rw [bel_zero (canon_pl f) _ (by omega)]; rfl
  | succ m ih =>
    have := bel_step (canon_pl f) m
    rw [canon_has f m (by omega)] at this
    rw [show ((m + 1 : Nat) : Int) = (m : Int) + 1 by omega, this, ih (by omega), cntF]
    split <;> omega
/-- one run taken, as far as so many are asked. -/
def lstep (s : List (Int × Int) × Int) (r : Int × Int) : List (Int × Int) × Int := if s.2 = 0 then s else (s.1 ++ [(r.1, min r.2 s.2)], s.2 - min r.2 s.2)
def lowTo (p : List (Int × Int)) (n : Int) (k : Nat) : List (Int × Int) × Int := (p.take k).foldl lstep ([], n)
theorem lowTo_succ (p : List (Int × Int)) (n : Int) (k : Nat) (h : k < p.length) : lowTo p n (k + 1) = lstep (lowTo p n k) p[k] := by
  unfold lowTo; rw [List.take_succ_eq_append_getElem h, List.foldl_append]; rfl
theorem lowTo_stop (p : List (Int × Int)) (n : Int) (k : Nat) (hk : k ≤ p.length) (h : (lowTo p n k).2 = 0) (j : Nat) (hj : k ≤ j) (hj2 : j ≤ p.length) : lowTo p n j = lowTo p n k := by
  induction j with
  | zero => obtain rfl : k = 0 := by omega
            rfl
  | succ j ih =>
    by_cases e : k = j + 1
    · rw [e]
    · have h2 := ih (by omega) (by omega)
      rw [lowTo_succ p n j (by omega), h2]
      unfold lstep
      rw [if_pos h]
structure LowOk (p : List (Int × Int)) (n : Int) (k : Nat) : Prop where
  pl : Pl 0 (lowTo p n k).1
  is : ∀ j, inS (lowTo p n k).1 j ↔ inS (p.take k) j ∧ bel (p.take k) j < n
  rem : (lowTo p n k).2 = max 0 (n - sumLen (p.take k))
  low : ∀ x ∈ (lowTo p n k).1, ∃ y ∈ p.take k, x.1 = y.1 ∧ x.2 ≤ y.2
theorem low_ok {p : List (Int × Int)} (hp : Pl 0 p) (n : Int) (hn : 0 ≤ n) (k : Nat) (hk : k ≤ p.length) : LowOk p n k := by
  induction k with
  | zero => exact ⟨trivial, fun j => ⟨fun h => absurd h (inS_nil j), fun h => absurd h.1 (inS_nil j)⟩, by show n = max 0 (n - 0); omega, fun x hx => by cases hx⟩
  | succ k ih =>
    obtain ⟨h1, h2, h3, h4⟩ := ih (by omega)
    have hlt : k < p.length := by omega
    obtain ⟨p1, p2, p3⟩ := pl_at hp hlt
    have htk : p.take (k + 1) = p.take k ++ [p[k]] := List.take_succ_eq_append_getElem hlt
    have hpk := hp.take (k + 1)
    rw [htk] at hpk
    obtain ⟨g1, _, _, _, g5⟩ := hpk.init
    have hall : ∀ j, p[k].1 ≤ j → bel (p.take k) j = sumLen (p.take k) := fun j hj => bel_all j (fun x hx => ⟨(g1.mem hx).2.1, by have := g5 x hx; omega⟩)
    have hbel : ∀ j, bel (p.take (k + 1)) j = bel (p.take k) j + max 0 (min p[k].2 (j - p[k].1)) := fun j => by rw [htk, bel_append, bel_cons, bel_nil]; omega
    have hin : ∀ j, inS (p.take (k + 1)) j ↔ inS (p.take k) j ∨ (p[k].1 ≤ j ∧ j < p[k].1 + p[k].2) := fun j => by rw [htk, inS_append, inS_one]
    have hbefore : ∀ j, inS (p.take k) j → j < p[k].1 := fun j ⟨x, hx, _, hx2⟩ => by have := g5 x hx; omega
    have hsum : sumLen (p.take (k + 1)) = sumLen (p.take k) + p[k].2 := sumLen_take p k hlt
    have hs := lowTo_succ p n k hlt
    unfold lstep at hs
    by_cases h0 : (lowTo p n k).2 = 0
    · rw [if_pos h0] at hs
      refine ⟨by rw [hs]; exact h1, fun j => ?_, by rw [hs, h3, hsum]; omega, fun x hx => ?_⟩
      · rw [hs, h2, hin, hbel]
        constructor
        · rintro ⟨a, b⟩
          have := hbefore j a
          exact ⟨Or.inl a, by omega⟩
        · rintro ⟨a | a, b⟩
          · have := hbefore j a
            exact ⟨a, by omega⟩
          · have := hall j a.1; omega
      · rw [hs] at hx
        obtain ⟨y, hy, e⟩ := h4 x hx
        exact ⟨y, by rw [htk]; exact List.mem_append_left _ hy, e⟩
    · rw [if_neg h0] at hs
      generalize (lowTo p n k).2 = m at *
      generalize (lowTo p n k).1 = o at *
      refine ⟨?_, fun j => ?_, ?_, fun x hx => ?_⟩
      · rw [hs]
        refine h1.snoc p1 (by show 1 ≤ min p[k].2 m; omega) (by show p[k].1 + min p[k].2 m ≤ 8192; omega) (fun x hx => ?_)
        obtain ⟨y, hy, e1, e2⟩ := h4 x hx
        have := g5 y hy
        show x.1 + x.2 + 1 ≤ p[k].1
        omega
      · rw [hs]
        show inS (o ++ [(p[k].1, min p[k].2 m)]) j ↔ _
        rw [inS_append, inS_one, h2, hin, hbel]
        constructor
        · rintro (⟨a, b⟩ | ⟨a, b⟩)
          · have := hbefore j a
            exact ⟨Or.inl a, by omega⟩
          · have a : p[k].1 ≤ j := a
            have b : j < p[k].1 + min p[k].2 m := b
            have := hall j a
            exact ⟨Or.inr ⟨a, by omega⟩, by omega⟩
        · rintro ⟨a | a, b⟩
          · have := hbefore j a
            exact Or.inl ⟨a, by omega⟩
          · have := hall j a.1
            refine Or.inr ⟨a.1, ?_⟩
            show j < p[k].1 + min p[k].2 m
            omega
      · rw [hs, hsum]
        show m - min p[k].2 m = _
        omega
      · rw [hs] at hx
        rcases List.mem_append.1 hx with hx | hx
        · obtain ⟨y, hy, e⟩ := h4 x hx
          exact ⟨y, by rw [htk]; exact List.mem_append_left _ hy, e⟩
        · have hx : x = (p[k].1, min p[k].2 m) := by simpa using hx
          subst hx
          exact ⟨p[k], by rw [htk]; exact List.mem_append_right _ (List.mem_singleton.2 rfl), rfl, by show min p[k].2 m ≤ p[k].2; omega⟩
/-- the lowest sectors of a list, so many. -/
def lowF (l : List (Int × Int)) (n : Int) (m : Nat) : Bool := hasB l m && decide ((cntF (hasB l) m : Int) < n)
def lowestL (l : List (Int × Int)) (n : Int) : List (Int × Int) := canon (lowF l n)
theorem low_final (l : List (Int × Int)) (n : Int) (hn : 0 ≤ n) : (lowTo (plainL l) n (plainL l).length).1 = lowestL l n ∧ (lowTo (plainL l) n (plainL l).length).2 = max 0 (n - countL l) := by
  have h := low_ok (canon_pl (hasB l)) n hn (plainL l).length (Nat.le_refl _)
  constructor
  · refine canon_eq h.pl (fun m hm => ?_)
    have h2 := h.is m
    rw [show (canon (hasB l)).take (plainL l).length = canon (hasB l) from List.take_length] at h2
    rw [show plainL l = canon (hasB l) from rfl] at *
    rw [h2, bel_cnt _ m (by omega), ← hasB_iff, canon_has _ m hm]
    unfold lowF
    simp
  · have h3 := h.rem
    rw [show (canon (hasB l)).take (plainL l).length = canon (hasB l) from List.take_length, canon_sum] at h3
    exact h3
theorem lowTo_len (p : List (Int × Int)) (n : Int) (k : Nat) : (lowTo p n k).1.length ≤ k := by
  induction k with
  | zero => exact Nat.le_refl _
  | succ k ih =>
    by_cases h : k < p.length
    · rw [lowTo_succ p n k h]
      unfold lstep
      split
      · omega
      · show (_ ++ [_]).length ≤ _
        rw [List.length_append, List.length_singleton]; omega
    · have e : lowTo p n (k + 1) = lowTo p n k := by unfold lowTo; rw [List.take_of_length_le (by omega), List.take_of_length_le (by omega)]
      rw [e]; omega
/-- which error; which list. -/
def lowCode (l : List (Int × Int)) (n : Int) : Int := if n < 0 then 1 else if (countL l : Int) < n ∨ 16 < (lowestL l n).length then 100 else 0
def lowRes (l : List (Int × Int)) (n : Int) : List (Int × Int) := if lowCode l n = 0 then lowestL l n else []
def LowSays (l : List (Int × Int)) (n : Int) (w : World) (e : Ending) (w' : World) : Prop :=
  ∃ v, e = .returned (.tuple #[v, .int .i64 (lowCode l n)]) ∧ w'.ownsRow w.heap.size 57 2 v (lowRes l n).length (rcells (lowRes l n)) ∧ Kept [] w w'
theorem low_neg {l : List (Int × Int)} {n : Int} (h : n < 0) : lowCode l n = 1 ∧ lowRes l n = [] := by
  have e : lowCode l n = 1 := by unfold lowCode; rw [if_pos h]
  exact ⟨e, by unfold lowRes; rw [e, if_neg (by omega)]⟩
theorem low_full {l : List (Int × Int)} {n : Int} (h : 0 ≤ n) (hf : (countL l : Int) < n ∨ 16 < (lowestL l n).length) : lowCode l n = 100 ∧ lowRes l n = [] := by
  have e : lowCode l n = 100 := by unfold lowCode; rw [if_neg (by omega), if_pos hf]
  exact ⟨e, by unfold lowRes; rw [e, if_neg (by omega)]⟩
theorem low_ok2 {l : List (Int × Int)} {n : Int} (h : 0 ≤ n) (h1 : n ≤ countL l) (h2 : (lowestL l n).length ≤ 16) : lowCode l n = 0 ∧ lowRes l n = lowestL l n := by
  have e : lowCode l n = 0 := by unfold lowCode; rw [if_neg (by omega), if_neg (by omega)]
  exact ⟨e, by unfold lowRes; rw [if_pos e]⟩
end Go.Proofs.Ytmljbmhalpdpmaa
