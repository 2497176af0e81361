/- Layer 10 (extent): a map, the program's and the document's, side by side: plain laws. -/
import Derived.Test.YtmljbmhalpdpmaaE24
import Derived.Test.YtmljbmhalpdpmaaE26
import Derived.Test.YtmljbmhalpdpmaaE28
namespace Go.Proofs.Ytmljbmhalpdpmaa
open Go.RowKit
set_option linter.unusedVariables false
set_option linter.unusedSimpArgs false

theorem canon_nil_iff (g : Nat → Bool) : canon g = [] ↔ ∀ m, m < 8192 → g m = false :=
  ⟨fun h m hm => by
    have := canon_has g m hm
    rw [h] at this
    rw [← this]; rfl, canon_none⟩
theorem cnt_zero_iff (g : Nat → Bool) (k : Nat) : cntF g k = 0 ↔ ∀ m, m < k → g m = false := by
  induction k with
  | zero => exact ⟨fun _ m hm => absurd hm (by omega), fun _ => rfl⟩
  | succ k ih =>
    rw [cntF]
    constructor
    · intro h m hm
      by_cases hg : g k = true
      · rw [if_pos hg] at h; omega
      · rw [if_neg hg] at h
        by_cases e : m = k
        · subst e; simpa using hg
        · exact ih.1 (by omega) m (by omega)
    · intro h
      rw [if_neg (by rw [h k (by omega)]; simp), ih.2 (fun m hm => h m (by omega))]
theorem countL_zero_iff (g : Nat → Bool) : countL (canon g) = 0 ↔ ∀ m, m < 8192 → g m = false := by rw [count_canon, cnt_zero_iff]
theorem free_has (f s : Int) (T : List (Int × Int)) {m : Nat} (hm : m < 8192) : hasB (freeL f s T) m = (decide (f ≤ (m : Int) ∧ (m : Int) < s) && !hasB T m) := by
  unfold freeL minusL
  rw [canon_has _ m hm]
  congr 1
  rw [Bool.eq_iff_iff, hasB_iff, inS_one, decide_eq_true_eq]
  constructor
  · rintro ⟨h1, h2⟩
    have h1 : f ≤ (m : Int) := h1
    have h2 : (m : Int) < f + (s - f) := h2
    omega
  · rintro ⟨h1, h2⟩
    exact ⟨h1, by show (m : Int) < f + (s - f); omega⟩
theorem may_within {f s : Int} {l : List (Int × Int)} (h : MayX f s l) : Within f s l := fun m hm hh => by
  obtain ⟨r, hr, h1, h2⟩ := hasB_iff.1 hh
  obtain ⟨g1, g2, g3, g4⟩ := h.1 r hr
  omega
theorem within_join {f s : Int} {a b : List (Int × Int)} (ha : Within f s a) (hb : Within f s b) : Within f s (joinL a b) := fun m hm hh => by
  unfold joinL at hh
  rw [canon_has _ m hm, Bool.or_eq_true] at hh
  exact hh.elim (ha m hm) (hb m hm)
theorem within_taket {f s : Int} {T : List (Int × Int)} (h : Within f s T) (n : Int) : Within f s (takeT f s T n) := by
  unfold takeT
  split
  · exact within_join h (within_low (within_free f s T) n)
  · exact h
theorem taket_pl {f s : Int} {T : List (Int × Int)} (h : Pl 0 T) (n : Int) : Pl 0 (takeT f s T n) := by
  unfold takeT
  split
  · exact canon_pl _
  · exact h
/-- a Take leaves the two maps side by side. -/
theorem take_side (f s : Int) (T : List (Int × Int)) (n : Int) : takeF (freeL f s T) n = freeL f s (takeT f s T n) := by
  unfold takeF takeT
  by_cases h : lowCode (freeL f s T) n = 0
  · rw [if_pos h, if_pos h]
    refine Eq.trans (canon_eq (p := minusL (freeL f s T) (lowRes (freeL f s T) n)) (f := fun m => hasB [(f, s - f)] m && !hasB (joinL T (lowRes (freeL f s T) n)) m) (canon_pl _) (fun m hm => ?_)) rfl
    rw [← hasB_iff]
    have e1 : hasB (minusL (freeL f s T) (lowRes (freeL f s T) n)) m = (hasB (freeL f s T) m && !hasB (lowRes (freeL f s T) n) m) := by unfold minusL; rw [canon_has _ m hm]
    have e2 : hasB (joinL T (lowRes (freeL f s T) n)) m = (hasB T m || hasB (lowRes (freeL f s T) n) m) := by unfold joinL; rw [canon_has _ m hm]
    have e3 : hasB [(f, s - f)] m = decide (f ≤ (m : Int) ∧ (m : Int) < s) := by
      rw [Bool.eq_iff_iff, hasB_iff, inS_one, decide_eq_true_eq]
      constructor
      · rintro ⟨h1, h2⟩
        have h1 : f ≤ (m : Int) := h1
        have h2 : (m : Int) < f + (s - f) := h2
        omega
      · rintro ⟨h1, h2⟩
        exact ⟨h1, by show (m : Int) < f + (s - f); omega⟩
    rw [e1, e2, e3, free_has f s T hm]
    generalize hasB T m = x
    generalize hasB (lowRes (freeL f s T) n) m = y
    generalize decide (f ≤ (m : Int) ∧ (m : Int) < s) = z
    cases x <;> cases y <;> cases z <;> simp
  · rw [if_neg h, if_neg h]
/-- what the two maps tell of a list is the same, and they stay side by side. -/
structure SideBy (f s : Int) (C C' : Int) (F' T' : List (Int × Int)) : Prop where
  code : C = C'
  free : F' = freeL f s T'
  pl : Pl 0 T'
  win : Within f s T'
theorem side_has (f s : Int) (m : Nat) : hasB [(f, s - f)] m = decide (f ≤ (m : Int) ∧ (m : Int) < s) := by
  rw [Bool.eq_iff_iff, hasB_iff, inS_one, decide_eq_true_eq]
  constructor
  · rintro ⟨h1, h2⟩
    have h1 : f ≤ (m : Int) := h1
    have h2 : (m : Int) < f + (s - f) := h2
    omega
  · rintro ⟨h1, h2⟩
    exact ⟨h1, by show (m : Int) < f + (s - f); omega⟩
theorem range_of {f s : Int} {l : List (Int × Int)} (h : Within f s l) {m : Nat} (hm : m < 8192) : hasB l m = true → decide (f ≤ (m : Int) ∧ (m : Int) < s) = true := fun hh => decide_eq_true (h m hm hh)
theorem hold_side {f s : Int} {l T : List (Int × Int)} {C C' : Int} {F' T' : List (Int × Int)} (h : HoldIs f s l (freeL f s T) C F') (k : HoldIsR f s l T C' T') (hp : Pl 0 T) (hw : Within f s T) : SideBy f s C C' F' T' := by
  by_cases hM : MayX f s l
  · have hl := may_within hM
    have key : minusL l (freeL f s T) = [] ↔ countL (commonL T l) = 0 := by
      unfold minusL commonL
      rw [canon_nil_iff, countL_zero_iff]
      refine forall_congr' fun m => forall_congr' fun hm => ?_
      rw [free_has f s T hm]
      have h1 := range_of hl hm
      generalize hasB T m = x at *
      generalize hasB l m = y at *
      generalize decide (f ≤ (m : Int) ∧ (m : Int) < s) = z at *
      cases x <;> cases y <;> cases z <;> simp at *
    rcases h with ⟨h1, _⟩ | ⟨_, h1, rfl, rfl⟩ | ⟨_, h1, rfl, rfl⟩
    · exact absurd hM h1
    · rcases k with ⟨k1, _⟩ | ⟨_, k1, rfl, rfl⟩ | ⟨_, k1, rfl, rfl⟩
      · exact absurd hM k1
      · exact ⟨rfl, rfl, hp, hw⟩
      · exact absurd (key.2 k1) h1
    · rcases k with ⟨k1, _⟩ | ⟨_, k1, rfl, rfl⟩ | ⟨_, k1, rfl, rfl⟩
      · exact absurd hM k1
      · exact absurd (key.1 h1) k1
      · refine ⟨rfl, ?_, canon_pl _, within_join hw hl⟩
        unfold freeL
        refine canon_congr (fun m hm => ?_)
        have e1 : hasB (minusL [(f, s - f)] T) m = (hasB [(f, s - f)] m && !hasB T m) := by unfold minusL; rw [canon_has _ m hm]
        have e2 : hasB (joinL T l) m = (hasB T m || hasB l m) := by unfold joinL; rw [canon_has _ m hm]
        rw [e1, e2]
        generalize hasB T m = x
        generalize hasB l m = y
        generalize hasB [(f, s - f)] m = z
        cases x <;> cases y <;> cases z <;> rfl
  · rcases h with ⟨_, rfl, rfl⟩ | ⟨h1, _⟩ | ⟨h1, _⟩
    · rcases k with ⟨_, rfl, rfl⟩ | ⟨k1, _⟩ | ⟨k1, _⟩
      · exact ⟨rfl, rfl, hp, hw⟩
      · exact absurd k1 hM
      · exact absurd k1 hM
    · exact absurd h1 hM
    · exact absurd h1 hM
theorem give_side {f s : Int} {l T : List (Int × Int)} {C C' : Int} {F' T' : List (Int × Int)} (h : GiveIs f s l (freeL f s T) C F') (k : GiveIsR f s l T C' T') (hp : Pl 0 T) (hw : Within f s T) : SideBy f s C C' F' T' := by
  by_cases hM : MayX f s l
  · have hl := may_within hM
    have key : commonL l (freeL f s T) = [] ↔ countL (minusL l T) = 0 := by
      unfold minusL commonL
      rw [canon_nil_iff, countL_zero_iff]
      refine forall_congr' fun m => forall_congr' fun hm => ?_
      rw [free_has f s T hm]
      have h1 := range_of hl hm
      generalize hasB T m = x at *
      generalize hasB l m = y at *
      generalize decide (f ≤ (m : Int) ∧ (m : Int) < s) = z at *
      cases x <;> cases y <;> cases z <;> simp at *
    rcases h with ⟨h1, _⟩ | ⟨_, h1, rfl, rfl⟩ | ⟨_, h1, rfl, rfl⟩
    · exact absurd hM h1
    · rcases k with ⟨k1, _⟩ | ⟨_, k1, rfl, rfl⟩ | ⟨_, k1, rfl, rfl⟩
      · exact absurd hM k1
      · exact ⟨rfl, rfl, hp, hw⟩
      · exact absurd (key.2 k1) h1
    · rcases k with ⟨k1, _⟩ | ⟨_, k1, rfl, rfl⟩ | ⟨_, k1, rfl, rfl⟩
      · exact absurd hM k1
      · exact absurd (key.1 h1) k1
      · refine ⟨rfl, ?_, canon_pl _, within_minus hw l⟩
        refine Eq.trans (canon_eq (p := joinL (freeL f s T) l) (f := fun m => hasB [(f, s - f)] m && !hasB (minusL T l) m) (canon_pl _) (fun m hm => ?_)) rfl
        rw [← hasB_iff]
        have e1 : hasB (joinL (freeL f s T) l) m = (hasB (freeL f s T) m || hasB l m) := by unfold joinL; rw [canon_has _ m hm]
        have e2 : hasB (minusL T l) m = (hasB T m && !hasB l m) := by unfold minusL; rw [canon_has _ m hm]
        rw [e1, e2, free_has f s T hm, side_has]
        have h1 := range_of hl hm
        generalize hasB T m = x at *
        generalize hasB l m = y at *
        generalize decide (f ≤ (m : Int) ∧ (m : Int) < s) = z at *
        cases x <;> cases y <;> cases z <;> simp at *
  · rcases h with ⟨_, rfl, rfl⟩ | ⟨h1, _⟩ | ⟨h1, _⟩
    · rcases k with ⟨_, rfl, rfl⟩ | ⟨k1, _⟩ | ⟨k1, _⟩
      · exact ⟨rfl, rfl, hp, hw⟩
      · exact absurd k1 hM
      · exact absurd k1 hM
    · exact absurd h1 hM
    · exact absurd h1 hM
end Go.Proofs.Ytmljbmhalpdpmaa
