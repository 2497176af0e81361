/- Layer 10 (extent): clipped, sorted and merged: the plain list: plain laws. -/
import Derived.Test.YtdnbddhjdokbfaaG05
namespace Go.Proofs.Ytdnbddhjdokbfaa
open Go.RowKit
set_option linter.unusedVariables false
set_option linter.unusedSimpArgs false

/-- the sectors that may be, run by run. -/
def clipL (l : List (Int × Int)) : List (Int × Int) := l.filterMap fun a => if (clipOf a).2 = true then some (clipOf a).1 else none
theorem clipL_snoc (l : List (Int × Int)) (a : Int × Int) : clipL (l ++ [a]) = clipL l ++ (if (clipOf a).2 = true then [(clipOf a).1] else []) := by
  unfold clipL
  rw [List.filterMap_append]
  congr 1
  by_cases h : (clipOf a).2 = true
  · simp [h]
  · simp [h]
theorem clipL_len (l : List (Int × Int)) : (clipL l).length ≤ l.length := List.length_filterMap_le _ _
theorem clip_ok {a : Int × Int} (h : (clipOf a).2 = true) : 0 ≤ (clipOf a).1.1 ∧ 1 ≤ (clipOf a).1.2 ∧ (clipOf a).1.1 + (clipOf a).1.2 ≤ 8192 := by
  unfold clipOf at *
  by_cases h1 : a.2 < 1 ∨ 8192 ≤ a.1
  · rw [if_pos h1] at h; cases h
  · rw [if_neg h1] at h ⊢
    by_cases h2 : a.1 < 0
    · rw [if_pos h2] at h ⊢
      have h := of_decide_eq_true h
      simp only
      omega
    · rw [if_neg h2] at h ⊢
      have h := of_decide_eq_true h
      simp only
      omega
/-- a run's sectors, from 0 to the last one that may be. -/
theorem clip_is (a : Int × Int) (k : Nat) (hk : k < 8192) : ((clipOf a).2 = true ∧ (clipOf a).1.1 ≤ k ∧ (k : Int) < (clipOf a).1.1 + (clipOf a).1.2) ↔ (a.1 ≤ k ∧ (k : Int) < a.1 + a.2) := by
  unfold clipOf
  by_cases h1 : a.2 < 1 ∨ 8192 ≤ a.1
  · rw [if_pos h1]; simp; omega
  · rw [if_neg h1]
    by_cases h2 : a.1 < 0
    · rw [if_pos h2]; simp; omega
    · rw [if_neg h2]; simp; omega
theorem clipL_mem {l : List (Int × Int)} {r : Int × Int} (h : r ∈ clipL l) : 0 ≤ r.1 ∧ 1 ≤ r.2 ∧ r.1 + r.2 ≤ 8192 := by
  unfold clipL at h
  rw [List.mem_filterMap] at h
  obtain ⟨a, _, ha⟩ := h
  by_cases hc : (clipOf a).2 = true
  · rw [if_pos hc] at ha
    injection ha with ha
    subst ha
    exact clip_ok hc
  · rw [if_neg hc] at ha; cases ha
theorem clipL_is (l : List (Int × Int)) (k : Nat) (hk : k < 8192) : inS (clipL l) k ↔ hasB l k = true := by
  rw [hasB_iff]
  unfold inS clipL
  constructor
  · rintro ⟨r, hr, h1, h2⟩
    rw [List.mem_filterMap] at hr
    obtain ⟨a, ha, hx⟩ := hr
    by_cases hc : (clipOf a).2 = true
    · rw [if_pos hc] at hx
      injection hx with hx
      subst hx
      exact ⟨a, ha, (clip_is a k hk).1 ⟨hc, h1, h2⟩⟩
    · rw [if_neg hc] at hx; cases hx
  · rintro ⟨a, ha, h⟩
    obtain ⟨h1, h2, h3⟩ := (clip_is a k hk).2 h
    exact ⟨(clipOf a).1, List.mem_filterMap.2 ⟨a, ha, by rw [if_pos h1]⟩, h2, h3⟩

/-- a run laid behind those that are merged. -/
def mstep (o : List (Int × Int)) (r : Int × Int) : List (Int × Int) :=
  match o.getLast? with
  | some q => if r.1 ≤ q.1 + q.2 then o.dropLast ++ [(q.1, max q.2 (r.1 + r.2 - q.1))] else o ++ [r]
  | none => [r]
theorem mstep_nil (r : Int × Int) : mstep [] r = [r] := rfl
theorem mstep_le {i : List (Int × Int)} {q r : Int × Int} (h : r.1 ≤ q.1 + q.2) : mstep (i ++ [q]) r = i ++ [(q.1, max q.2 (r.1 + r.2 - q.1))] := by
  unfold mstep
  rw [List.getLast?_append, List.dropLast_concat]
  show (if r.1 ≤ q.1 + q.2 then _ else _) = _
  rw [if_pos h]
  rfl
theorem mstep_gt {i : List (Int × Int)} {q r : Int × Int} (h : ¬ r.1 ≤ q.1 + q.2) : mstep (i ++ [q]) r = i ++ [q] ++ [r] := by
  unfold mstep
  rw [List.getLast?_append]
  show (if r.1 ≤ q.1 + q.2 then _ else _) = _
  rw [if_neg h]
def mergeTo (s : List (Int × Int)) (k : Nat) : List (Int × Int) := (s.take k).foldl mstep []
theorem mergeTo_succ (s : List (Int × Int)) (k : Nat) (h : k < s.length) : mergeTo s (k + 1) = mstep (mergeTo s k) s[k] := by
  unfold mergeTo; rw [List.take_succ_eq_append_getElem h, List.foldl_append]; rfl
structure MergeOk (s : List (Int × Int)) (k : Nat) : Prop where
  pl : Pl 0 (mergeTo s k)
  is : ∀ j : Int, inS (mergeTo s k) j ↔ inS (s.take k) j
  low : ∀ x ∈ mergeTo s k, ∃ y ∈ s.take k, x.1 = y.1
theorem merge_ok (s : List (Int × Int)) (hs : Rising s) (hr : ∀ r ∈ s, 0 ≤ r.1 ∧ 1 ≤ r.2 ∧ r.1 + r.2 ≤ 8192) (k : Nat) (hk : k ≤ s.length) : MergeOk s k := by
  induction k with
  | zero => exact ⟨trivial, fun j => Iff.rfl, fun x hx => by cases hx⟩
  | succ k ih =>
    obtain ⟨h1, h2, h3⟩ := ih (by omega)
    have hlt : k < s.length := by omega
    obtain ⟨r1, r2, r3⟩ := hr s[k] (List.getElem_mem _)
    have htk : s.take (k + 1) = s.take k ++ [s[k]] := List.take_succ_eq_append_getElem hlt
    have hlow : ∀ x ∈ mergeTo s k, x.1 ≤ s[k].1 := fun x hx => by
      obtain ⟨y, hy, e⟩ := h3 x hx
      rw [e]
      rw [List.mem_take_iff_getElem] at hy
      obtain ⟨i, hi, rfl⟩ := hy
      exact (List.pairwise_iff_getElem.1 hs) i k (by omega) hlt (by omega)
    have hms := mergeTo_succ s k hlt
    rcases List.eq_nil_or_concat (mergeTo s k) with e | ⟨i, q, e⟩
    · rw [e, mstep_nil] at hms
      refine ⟨by rw [hms]; exact ⟨r1, r2, r3, trivial⟩, fun j => ?_, fun x hx => ?_⟩
      · rw [hms, htk, inS_append, ← h2 j, e]
        exact ⟨fun h => Or.inr h, fun h => h.elim (fun h => absurd h (inS_nil j)) id⟩
      · rw [hms] at hx
        have hx : x = s[k] := by simpa using hx
        exact ⟨s[k], by rw [htk]; exact List.mem_append_right _ (List.mem_singleton.2 rfl), by rw [hx]⟩
    · rw [List.concat_eq_append] at e
      rw [e] at h1 hlow
      obtain ⟨q1, q2, q3, q4, q5⟩ := h1.init
      have hq := hlow q (by simp)
      by_cases hc : s[k].1 ≤ q.1 + q.2
      · rw [e, mstep_le hc] at hms
        refine ⟨?_, fun j => ?_, fun x hx => ?_⟩
        · rw [hms]
          exact q1.snoc q2 (by show 1 ≤ max q.2 _; omega) (by show q.1 + max q.2 _ ≤ 8192; omega) q5
        · rw [hms, htk, inS_append, inS_append, ← h2 j, e, inS_append, inS_one, inS_one, inS_one, or_assoc]
          refine or_congr Iff.rfl ?_
          show (q.1 ≤ j ∧ j < q.1 + max q.2 (s[k].1 + s[k].2 - q.1)) ↔ _
          omega
        · rw [hms] at hx
          rcases List.mem_append.1 hx with hx | hx
          · obtain ⟨y, hy, e2⟩ := h3 x (by rw [e]; exact List.mem_append_left _ hx)
            exact ⟨y, by rw [htk]; exact List.mem_append_left _ hy, e2⟩
          · obtain ⟨y, hy, e2⟩ := h3 q (by rw [e]; simp)
            have hx : x = (q.1, max q.2 (s[k].1 + s[k].2 - q.1)) := by simpa using hx
            exact ⟨y, by rw [htk]; exact List.mem_append_left _ hy, by rw [hx]; exact e2⟩
      · rw [e, mstep_gt hc] at hms
        refine ⟨?_, fun j => ?_, fun x hx => ?_⟩
        · rw [hms]
          refine h1.snoc r1 r2 r3 (fun x hx => ?_)
          rcases List.mem_append.1 hx with hx | hx
          · have := q5 x hx; omega
          · have hx : x = q := by simpa using hx
            subst hx; omega
        · have h2j := h2 j
          rw [e] at h2j
          rw [hms, htk, inS_append, inS_append (a := s.take k), ← h2j]
        · rw [hms] at hx
          rcases List.mem_append.1 hx with hx | hx
          · obtain ⟨y, hy, e2⟩ := h3 x (by rw [e]; exact hx)
            exact ⟨y, by rw [htk]; exact List.mem_append_left _ hy, e2⟩
          · have hx : x = s[k] := by simpa using hx
            exact ⟨s[k], by rw [htk]; exact List.mem_append_right _ (List.mem_singleton.2 rfl), by rw [hx]⟩
theorem merge_plain {l s : List (Int × Int)} (hp : s.Perm (clipL l)) (hs : Rising s) : mergeTo s s.length = plainL l := by
  have hr : ∀ r ∈ s, 0 ≤ r.1 ∧ 1 ≤ r.2 ∧ r.1 + r.2 ≤ 8192 := fun r h => clipL_mem (hp.mem_iff.1 h)
  have h := merge_ok s hs hr s.length (Nat.le_refl _)
  refine canon_eq h.pl (fun m hm => ?_)
  rw [h.is, List.take_length, ← clipL_is l m hm]
  unfold inS
  exact ⟨fun ⟨r, h1, h2⟩ => ⟨r, hp.mem_iff.1 h1, h2⟩, fun ⟨r, h1, h2⟩ => ⟨r, hp.mem_iff.2 h1, h2⟩⟩
theorem mergeTo_len (s : List (Int × Int)) (k : Nat) : (mergeTo s k).length ≤ k := by
  induction k with
  | zero => exact Nat.le_refl _
  | succ k ih =>
    by_cases h : k < s.length
    · rw [mergeTo_succ s k h]
      rcases List.eq_nil_or_concat (mergeTo s k) with e | ⟨i, q, e⟩
      · rw [e, mstep_nil]; simp
      · rw [List.concat_eq_append] at e
        rw [e] at ih ⊢
        by_cases hc : s[k].1 ≤ q.1 + q.2
        · rw [mstep_le hc]; simp at ih ⊢; omega
        · rw [mstep_gt hc]; simp at ih ⊢; omega
    · have e : mergeTo s (k + 1) = mergeTo s k := by unfold mergeTo; rw [List.take_of_length_le (by omega), List.take_of_length_le (by omega)]
      rw [e]; omega
end Go.Proofs.Ytdnbddhjdokbfaa
