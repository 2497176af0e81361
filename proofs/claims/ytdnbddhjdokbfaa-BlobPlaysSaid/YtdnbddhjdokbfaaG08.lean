/- Layer 10 (extent): what both of two lists have: plain laws. -/
import Derived.Test.YtdnbddhjdokbfaaG03
namespace Go.Proofs.Ytdnbddhjdokbfaa
open Go.RowKit
set_option linter.unusedVariables false
set_option linter.unusedSimpArgs false

/-- two plain lists, looked at up to two places: what both have so far. -/
structure ComInv (x y out : List (Int × Int)) (i k : Nat) : Prop where
  hi : i ≤ x.length
  hk : k ≤ y.length
  pl : Pl 0 out
  is : ∃ T : Int, (∀ j, inS out j ↔ inS x j ∧ inS y j ∧ j < T) ∧ (∀ j, T ≤ j → inS x j → inS (x.drop i) j) ∧ (∀ j, T ≤ j → inS y j → inS (y.drop k) j)
  gap : ∀ r ∈ out, (∀ q ∈ x.drop i, r.1 + r.2 + 1 ≤ q.1) ∨ (∀ q ∈ y.drop k, r.1 + r.2 + 1 ≤ q.1)
theorem com_start {x y : List (Int × Int)} (hx : Pl 0 x) (hy : Pl 0 y) : ComInv x y [] 0 0 :=
  ⟨Nat.zero_le _, Nat.zero_le _, trivial, ⟨0, fun j => ⟨fun h => absurd h (inS_nil j), fun ⟨h1, _, h2⟩ => by have := (hx.ge h1).1; omega⟩, fun j _ h => h, fun j _ h => h⟩, fun r hr => by cases hr⟩
theorem mem_drop_le {l : List (Int × Int)} {i : Nat} {q : Int × Int} (h : q ∈ l.drop (i + 1)) : q ∈ l.drop i := by
  rw [← List.drop_drop] at h
  exact List.mem_of_mem_drop h
theorem drop_ge {x : List (Int × Int)} (hx : Pl 0 x) {i : Nat} (hi : i < x.length) {q : Int × Int} (h : q ∈ x.drop (i + 1)) : x[i].1 + x[i].2 + 1 ≤ q.1 := ((hx.next i hi).mem h).1
theorem in_drop {x : List (Int × Int)} {i : Nat} (hi : i < x.length) (j : Int) : inS (x.drop i) j ↔ (x[i].1 ≤ j ∧ j < x[i].1 + x[i].2) ∨ inS (x.drop (i + 1)) j := by
  rw [List.drop_eq_getElem_cons hi, inS_cons]
theorem pl_at {x : List (Int × Int)} (hx : Pl 0 x) {i : Nat} (hi : i < x.length) : 0 ≤ x[i].1 ∧ 1 ≤ x[i].2 ∧ x[i].1 + x[i].2 ≤ 8192 := hx.mem (List.getElem_mem hi)
/-- one step. -/
theorem com_step {x y out : List (Int × Int)} {i k : Nat} (hx : Pl 0 x) (hy : Pl 0 y) (h : ComInv x y out i k) (hi : i < x.length) (hk : k < y.length) (lo hi' : Int) (elo : lo = max x[i].1 y[k].1) (ehi : hi' = min (x[i].1 + x[i].2) (y[k].1 + y[k].2)) (i' k' : Nat)
    (hik : (x[i].1 + x[i].2 = hi' ∧ i' = i + 1 ∧ k' = k) ∨ (x[i].1 + x[i].2 ≠ hi' ∧ i' = i ∧ k' = k + 1)) : ComInv x y (if lo < hi' then out ++ [(lo, hi' - lo)] else out) i' k' := by
  obtain ⟨a1, a2, a3⟩ := pl_at hx hi
  obtain ⟨b1, b2, b3⟩ := pl_at hy hk
  obtain ⟨_, _, pl, ⟨T, h1, h2, h3⟩, gap⟩ := h
  have dx := fun j => in_drop hi j
  have dy := fun j => in_drop hk j
  have gx : ∀ j, inS (x.drop (i + 1)) j → x[i].1 + x[i].2 + 1 ≤ j := fun j hj => ((hx.next i hi).ge hj).1
  have gy : ∀ j, inS (y.drop (k + 1)) j → y[k].1 + y[k].2 + 1 ≤ j := fun j hj => ((hy.next k hk).ge hj).1
  have hxm : ∀ j, x[i].1 ≤ j → j < x[i].1 + x[i].2 → inS x j := fun j p q => ⟨x[i], List.getElem_mem hi, p, q⟩
  have hym : ∀ j, y[k].1 ≤ j → j < y[k].1 + y[k].2 → inS y j := fun j p q => ⟨y[k], List.getElem_mem hk, p, q⟩
  have xi0 : x[i] ∈ x.drop i := by rw [List.drop_eq_getElem_cons hi]; exact List.mem_cons_self
  have yk0 : y[k] ∈ y.drop k := by rw [List.drop_eq_getElem_cons hk]; exact List.mem_cons_self
  have mx : ∀ q, q ∈ x.drop i' → q ∈ x.drop i := by
    rcases hik with ⟨_, rfl, _⟩ | ⟨_, rfl, _⟩
    · exact fun q hq => mem_drop_le hq
    · exact fun q hq => hq
  have my : ∀ q, q ∈ y.drop k' → q ∈ y.drop k := by
    rcases hik with ⟨_, _, rfl⟩ | ⟨_, _, rfl⟩
    · exact fun q hq => hq
    · exact fun q hq => mem_drop_le hq
  have ngap : (∀ q ∈ x.drop i', hi' + 1 ≤ q.1) ∨ (∀ q ∈ y.drop k', hi' + 1 ≤ q.1) := by
    rcases hik with ⟨e, rfl, _⟩ | ⟨e, _, rfl⟩
    · exact Or.inl (fun q hq => by have := drop_ge hx hi hq; omega)
    · exact Or.inr (fun q hq => by have := drop_ge hy hk hq; omega)
  have ex : ∀ j, max T hi' ≤ j → inS x j → inS (x.drop i') j := by
    intro j hj hin
    have hd := h2 j (by omega) hin
    rcases hik with ⟨e, rfl, _⟩ | ⟨e, rfl, _⟩
    · rcases (dx j).1 hd with ⟨_, q⟩ | q
      · omega
      · exact q
    · exact hd
  have ey : ∀ j, max T hi' ≤ j → inS y j → inS (y.drop k') j := by
    intro j hj hin
    have hd := h3 j (by omega) hin
    rcases hik with ⟨e, _, rfl⟩ | ⟨e, _, rfl⟩
    · exact hd
    · rcases (dy j).1 hd with ⟨_, q⟩ | q
      · omega
      · exact q
  have hii : i' ≤ x.length ∧ k' ≤ y.length := by rcases hik with ⟨_, rfl, rfl⟩ | ⟨_, rfl, rfl⟩ <;> omega
  have back : ∀ j, inS x j → inS y j → T ≤ j → j < hi' → lo ≤ j := by
    intro j p q r s
    have p2 := h2 j r p
    have q2 := h3 j r q
    have p3 : x[i].1 ≤ j := by
      rcases (dx j).1 p2 with ⟨p3, _⟩ | p3
      · exact p3
      · have := gx j p3; omega
    have q3 : y[k].1 ≤ j := by
      rcases (dy j).1 q2 with ⟨q3, _⟩ | q3
      · exact q3
      · have := gy j q3; omega
    omega
  by_cases hlt : lo < hi'
  · rw [if_pos hlt]
    refine ⟨hii.1, hii.2, ?_, ⟨max T hi', fun j => ?_, ex, ey⟩, ?_⟩
    · refine pl.snoc (by show (0 : Int) ≤ lo; omega) (by show 1 ≤ hi' - lo; omega) (by show lo + (hi' - lo) ≤ 8192; omega) (fun r hr => ?_)
      show r.1 + r.2 + 1 ≤ lo
      rcases gap r hr with g | g
      · have := g _ xi0; omega
      · have := g _ yk0; omega
    · rw [inS_append, inS_one, h1 j]
      constructor
      · rintro (⟨p, q, r⟩ | ⟨p, q⟩)
        · exact ⟨p, q, by omega⟩
        · have p : lo ≤ j := p
          have q : j < lo + (hi' - lo) := q
          exact ⟨hxm j (by omega) (by omega), hym j (by omega) (by omega), by omega⟩
      · rintro ⟨p, q, r⟩
        by_cases hT : j < T
        · exact Or.inl ⟨p, q, hT⟩
        · refine Or.inr ⟨?_, ?_⟩
          · show lo ≤ j; exact back j p q (by omega) (by omega)
          · show j < lo + (hi' - lo); omega
    · intro r hr
      rcases List.mem_append.1 hr with hr | hr
      · rcases gap r hr with g | g
        · exact Or.inl (fun q hq => g q (mx q hq))
        · exact Or.inr (fun q hq => g q (my q hq))
      · have hr : r = (lo, hi' - lo) := by simpa using hr
        subst hr
        rcases ngap with g | g
        · exact Or.inl (fun q hq => by have := g q hq; show lo + (hi' - lo) + 1 ≤ q.1; omega)
        · exact Or.inr (fun q hq => by have := g q hq; show lo + (hi' - lo) + 1 ≤ q.1; omega)
  · rw [if_neg hlt]
    refine ⟨hii.1, hii.2, pl, ⟨max T hi', fun j => ?_, ex, ey⟩, ?_⟩
    · rw [h1 j]
      constructor
      · rintro ⟨p, q, r⟩; exact ⟨p, q, by omega⟩
      · rintro ⟨p, q, r⟩
        by_cases hT : j < T
        · exact ⟨p, q, hT⟩
        · have := back j p q (by omega) (by omega); omega
    · intro r hr
      rcases gap r hr with g | g
      · exact Or.inl (fun q hq => g q (mx q hq))
      · exact Or.inr (fun q hq => g q (my q hq))
/-- where one is at its end all is told. -/
theorem com_end {a b out : List (Int × Int)} {i k : Nat} (h : ComInv (plainL a) (plainL b) out i k) (he : i = (plainL a).length ∨ k = (plainL b).length) : out = commonL a b := by
  obtain ⟨_, _, pl, ⟨T, h1, h2, h3⟩, _⟩ := h
  refine canon_eq pl (fun m hm => ?_)
  rw [h1]
  have ea : inS (plainL a) m ↔ hasB a m = true := by rw [← hasB_iff]; unfold plainL; rw [canon_has _ m hm]
  have eb : inS (plainL b) m ↔ hasB b m = true := by rw [← hasB_iff]; unfold plainL; rw [canon_has _ m hm]
  rw [Bool.and_eq_true, ← ea, ← eb]
  constructor
  · rintro ⟨p, q, _⟩; exact ⟨p, q⟩
  · rintro ⟨p, q⟩
    refine ⟨p, q, ?_⟩
    by_cases hT : (m : Int) < T
    · exact hT
    · exfalso
      rcases he with he | he
      · have := h2 m (by omega) p
        rw [he, List.drop_length] at this
        exact inS_nil _ this
      · have := h3 m (by omega) q
        rw [he, List.drop_length] at this
        exact inS_nil _ this
end Go.Proofs.Ytdnbddhjdokbfaa
