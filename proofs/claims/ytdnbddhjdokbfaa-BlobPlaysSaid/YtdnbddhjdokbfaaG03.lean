/- Layer 10 (extent): plain lists of runs, and the sectors that they have: plain laws. -/
import Derived.Test.YtdnbddhjdokbfaaG01
import Derived.Test.YtdnbddhjdokbfaaG02
import Derived.Laws.MakeOwn
import Derived.Maps.AppendAt
import Derived.Deep.AppendLies
import Derived.RegionTactic
import Derived.OwnWalk
namespace Go.Proofs.Ytdnbddhjdokbfaa
open Go.RowKit
set_option linter.unusedVariables false
set_option linter.unusedSimpArgs false

/-- a plain list from a sector on: rising, apart by one at least. -/
def Pl : Int → List (Int × Int) → Prop
  | _, [] => True
  | a, r :: t => a ≤ r.1 ∧ 1 ≤ r.2 ∧ r.1 + r.2 ≤ 8192 ∧ Pl (r.1 + r.2 + 1) t
/-- has a list a sector? -/
def inS (l : List (Int × Int)) (k : Int) : Prop := ∃ r ∈ l, r.1 ≤ k ∧ k < r.1 + r.2
theorem inS_nil (k : Int) : ¬ inS [] k := fun ⟨r, hr, _⟩ => by cases hr
theorem inS_cons {r : Int × Int} {l : List (Int × Int)} {k : Int} : inS (r :: l) k ↔ (r.1 ≤ k ∧ k < r.1 + r.2) ∨ inS l k := by
  unfold inS
  constructor
  · rintro ⟨x, hx, h⟩
    rcases List.mem_cons.1 hx with rfl | hx
    · exact Or.inl h
    · exact Or.inr ⟨x, hx, h⟩
  · rintro (h | ⟨x, hx, h⟩)
    · exact ⟨r, List.mem_cons_self, h⟩
    · exact ⟨x, List.mem_cons_of_mem _ hx, h⟩
theorem inS_append {a b : List (Int × Int)} {k : Int} : inS (a ++ b) k ↔ inS a k ∨ inS b k := by
  induction a with
  | nil => simp [inS_nil]
  | cons r a ih => rw [List.cons_append, inS_cons, inS_cons, ih, or_assoc]
theorem inS_one {r : Int × Int} {k : Int} : inS [r] k ↔ r.1 ≤ k ∧ k < r.1 + r.2 := by
  rw [inS_cons]; simp [inS_nil]
theorem Pl.mono {a b : Int} {l : List (Int × Int)} (h : Pl a l) (hb : b ≤ a) : Pl b l := by
  cases l with
  | nil => trivial
  | cons r t => exact ⟨by have := h.1; omega, h.2⟩
theorem Pl.ge {a k : Int} {l : List (Int × Int)} (h : Pl a l) (hk : inS l k) : a ≤ k ∧ k < 8192 := by
  induction l generalizing a with
  | nil => exact absurd hk (inS_nil k)
  | cons r t ih =>
    obtain ⟨h1, h2, h3, h4⟩ := h
    rcases inS_cons.1 hk with hk | hk
    · omega
    · have := ih h4 hk; omega
theorem Pl.head {a : Int} {r : Int × Int} {t : List (Int × Int)} (h : Pl a (r :: t)) : inS (r :: t) r.1 := inS_cons.2 (Or.inl ⟨Int.le_refl _, by have := h.2.1; omega⟩)
/-- the same sectors: the same plain list. -/
theorem Pl.uniq {a b : Int} {l m : List (Int × Int)} (h : Pl a l) (k : Pl b m) (e : ∀ i, inS l i ↔ inS m i) : l = m := by
  induction l generalizing a b m with
  | nil =>
    cases m with
    | nil => rfl
    | cons s u => exact absurd ((e _).2 k.head) (inS_nil _)
  | cons r t ih =>
    cases m with
    | nil => exact absurd ((e _).1 h.head) (inS_nil _)
    | cons s u =>
      have g1 := ((k.mono (Int.le_refl _)).1)
      have h1 : s.1 ≤ r.1 := by
        have := (e _).1 h.head
        rcases inS_cons.1 this with hh | hh
        · exact hh.1
        · have := (Pl.ge k.2.2.2 hh).1; have := k.2.1; omega
      have h2 : r.1 ≤ s.1 := by
        have := (e _).2 k.head
        rcases inS_cons.1 this with hh | hh
        · exact hh.1
        · have := (Pl.ge h.2.2.2 hh).1; have := h.2.1; omega
      have e1 : r.1 = s.1 := by omega
      have e2 : r.2 = s.2 := by
        rcases Int.lt_trichotomy r.2 s.2 with hlt | heq | hgt
        · exfalso
          have h3 : inS (s :: u) (r.1 + r.2) := inS_cons.2 (Or.inl ⟨by have := h.2.1; omega, by omega⟩)
          rcases inS_cons.1 ((e _).2 h3) with hh | hh
          · omega
          · have := (Pl.ge h.2.2.2 hh).1; omega
        · exact heq
        · exfalso
          have h3 : inS (r :: t) (s.1 + s.2) := inS_cons.2 (Or.inl ⟨by have := k.2.1; omega, by omega⟩)
          rcases inS_cons.1 ((e _).1 h3) with hh | hh
          · omega
          · have := (Pl.ge k.2.2.2 hh).1; omega
      have er : r = s := Prod.ext e1 e2
      subst er
      rw [ih h.2.2.2 k.2.2.2 (fun i => ⟨fun hi => by
        have g := (Pl.ge h.2.2.2 hi).1
        rcases inS_cons.1 ((e i).1 (inS_cons.2 (Or.inr hi))) with hh | hh
        · omega
        · exact hh, fun hi => by
        have g := (Pl.ge k.2.2.2 hi).1
        rcases inS_cons.1 ((e i).2 (inS_cons.2 (Or.inr hi))) with hh | hh
        · omega
        · exact hh⟩)]
theorem Pl.snoc {a : Int} {l : List (Int × Int)} {r : Int × Int} (h : Pl a l) (ha : a ≤ r.1) (h1 : 1 ≤ r.2) (h2 : r.1 + r.2 ≤ 8192) (hl : ∀ x ∈ l, x.1 + x.2 + 1 ≤ r.1) : Pl a (l ++ [r]) := by
  induction l generalizing a with
  | nil => exact ⟨ha, h1, h2, trivial⟩
  | cons x t ih =>
    obtain ⟨g1, g2, g3, g4⟩ := h
    exact ⟨g1, g2, g3, ih g4 (by have := hl x List.mem_cons_self; omega) (fun y hy => hl y (List.mem_cons_of_mem _ hy))⟩
theorem Pl.init {a : Int} {l : List (Int × Int)} {r : Int × Int} (h : Pl a (l ++ [r])) : Pl a l ∧ a ≤ r.1 ∧ 1 ≤ r.2 ∧ r.1 + r.2 ≤ 8192 ∧ ∀ x ∈ l, x.1 + x.2 + 1 ≤ r.1 := by
  induction l generalizing a with
  | nil => obtain ⟨h1, h2, h3, _⟩ := h; exact ⟨trivial, h1, h2, h3, fun x hx => by cases hx⟩
  | cons x t ih =>
    obtain ⟨g1, g2, g3, g4⟩ := h
    obtain ⟨k1, k2, k3, k4, k5⟩ := ih g4
    exact ⟨⟨g1, g2, g3, k1⟩, by omega, k3, k4, fun y hy => by
      rcases List.mem_cons.1 hy with rfl | hy
      · omega
      · exact k5 y hy⟩
theorem Pl.mem {a : Int} {l : List (Int × Int)} (h : Pl a l) {x : Int × Int} (hx : x ∈ l) : a ≤ x.1 ∧ 1 ≤ x.2 ∧ x.1 + x.2 ≤ 8192 := by
  induction l generalizing a with
  | nil => cases hx
  | cons r t ih =>
    obtain ⟨h1, h2, h3, h4⟩ := h
    rcases List.mem_cons.1 hx with rfl | hx
    · exact ⟨h1, h2, h3⟩
    · have := ih h4 hx; exact ⟨by omega, this.2⟩
theorem Pl.drop {a : Int} {l : List (Int × Int)} (h : Pl a l) (i : Nat) : Pl a (l.drop i) := by
  induction i generalizing l a with
  | zero => exact h
  | succ i ih =>
    cases l with
    | nil => trivial
    | cons r t => obtain ⟨h1, h2, h3, h4⟩ := h; exact (ih h4).mono (by omega)
theorem Pl.next {a : Int} {l : List (Int × Int)} (h : Pl a l) (i : Nat) (hi : i < l.length) : Pl (l[i].1 + l[i].2 + 1) (l.drop (i + 1)) := by
  have := h.drop i
  rw [List.drop_eq_getElem_cons hi] at this
  exact this.2.2.2
theorem Pl.len {a : Int} {l : List (Int × Int)} (h : Pl a l) : 2 * (l.length : Int) + min a 8194 ≤ 8194 := by
  induction l generalizing a with
  | nil => simp; omega
  | cons r t ih =>
    obtain ⟨h1, h2, h3, h4⟩ := h
    have := ih h4
    rw [List.length_cons]; omega
theorem Pl.len0 {l : List (Int × Int)} (h : Pl 0 l) : l.length ≤ 4097 := by have := h.len; omega

/-! ### the plain list of a row of truths -/
/-- has a list a sector? -/
def hasB (l : List (Int × Int)) (k : Nat) : Bool := l.any fun r => decide (r.1 ≤ k) && decide ((k : Int) < r.1 + r.2)
theorem hasB_iff {l : List (Int × Int)} {k : Nat} : hasB l k = true ↔ inS l k := by
  unfold hasB inS
  rw [List.any_eq_true]
  simp
/-- the last run, longer by one. -/
def bump (l : List (Int × Int)) : List (Int × Int) := l.dropLast ++ (match l.getLast? with | some r => [(r.1, r.2 + 1)] | none => [])
theorem bump_snoc (l : List (Int × Int)) (r : Int × Int) : bump (l ++ [r]) = l ++ [(r.1, r.2 + 1)] := by
  unfold bump
  rw [List.getLast?_append, List.dropLast_concat]
  rfl
theorem snoc_of {l : List (Int × Int)} (h : l ≠ []) : ∃ (i : List (Int × Int)) (r : Int × Int), l = i ++ [r] := ⟨l.dropLast, l.getLast h, (List.dropLast_concat_getLast h).symm⟩
/-- the runs of the first k truths. -/
def runsF (f : Nat → Bool) : Nat → List (Int × Int)
  | 0 => []
  | k + 1 => if f k = true then (if k ≠ 0 ∧ f (k - 1) = true then bump (runsF f k) else runsF f k ++ [((k : Int), 1)]) else runsF f k
/-- how many of the first k are true. -/
def cntF (f : Nat → Bool) : Nat → Nat
  | 0 => 0
  | k + 1 => cntF f k + if f k = true then 1 else 0
structure RunsOk (f : Nat → Bool) (k : Nat) : Prop where
  pl : Pl 0 (runsF f k)
  is : ∀ j : Int, inS (runsF f k) j ↔ ∃ m : Nat, j = m ∧ m < k ∧ f m = true
  sum : sumLen (runsF f k) = cntF f k
theorem sumLen_append (a b : List (Int × Int)) : sumLen (a ++ b) = sumLen a + sumLen b := by unfold sumLen; rw [List.map_append, List.sum_append]
/-- where a true one is the last, the last run ends there. -/
theorem runs_last {f : Nat → Bool} {k : Nat} (h : RunsOk f k) (hk : k ≠ 0) (hf : f (k - 1) = true) : ∃ (i : List (Int × Int)) (r : Int × Int), runsF f k = i ++ [r] ∧ r.1 + r.2 = (k : Int) := by
  have hin : inS (runsF f k) ((k - 1 : Nat) : Int) := (h.is _).2 ⟨k - 1, rfl, by omega, hf⟩
  have hne : runsF f k ≠ [] := fun e => by rw [e] at hin; exact inS_nil _ hin
  obtain ⟨i, r, e⟩ := snoc_of hne
  refine ⟨i, r, e, ?_⟩
  have hp := h.pl
  rw [e] at hp hin
  obtain ⟨q1, q2, q3, q4, q5⟩ := hp.init
  have hend : r.1 + r.2 - 1 < k := by
    have : inS (runsF f k) (r.1 + r.2 - 1) := by rw [e]; exact inS_append.2 (Or.inr (inS_one.2 (by omega)))
    obtain ⟨m, hm, hm2, _⟩ := (h.is _).1 this
    omega
  rcases inS_append.1 hin with ⟨x, hx, h1, h2⟩ | hh
  · have := q5 x hx; omega
  · have := inS_one.1 hh; omega
theorem runs_ok (f : Nat → Bool) (k : Nat) (hk : k ≤ 8192) : RunsOk f k := by
  induction k with
  | zero => exact ⟨trivial, fun j => ⟨fun h => absurd h (inS_nil j), fun ⟨m, _, h, _⟩ => by omega⟩, rfl⟩
  | succ k ih =>
    have ih := ih (by omega)
    by_cases hf : f k = true
    · by_cases hadj : k ≠ 0 ∧ f (k - 1) = true
      · obtain ⟨i, r, e, hr⟩ := runs_last ih hadj.1 hadj.2
        have e1 : runsF f (k + 1) = i ++ [(r.1, r.2 + 1)] := by rw [runsF, if_pos hf, if_pos hadj, e, bump_snoc]
        have hp := ih.pl
        rw [e] at hp
        obtain ⟨q1, q2, q3, q4, q5⟩ := hp.init
        refine ⟨?_, fun j => ?_, ?_⟩
        · rw [e1]; exact q1.snoc q2 (by show 1 ≤ r.2 + 1; omega) (by show r.1 + (r.2 + 1) ≤ 8192; omega) q5
        · rw [e1, inS_append, inS_one]
          have h1 := ih.is j
          rw [e, inS_append, inS_one] at h1
          constructor
          · rintro (h | ⟨h2, h3⟩)
            · obtain ⟨m, g1, g2, g3⟩ := h1.1 (Or.inl h)
              exact ⟨m, g1, by omega, g3⟩
            · by_cases hj : j < r.1 + r.2
              · obtain ⟨m, g1, g2, g3⟩ := h1.1 (Or.inr ⟨h2, hj⟩)
                exact ⟨m, g1, by omega, g3⟩
              · have h3 : j < r.1 + (r.2 + 1) := h3
                exact ⟨k, by omega, by omega, hf⟩
          · rintro ⟨m, g1, g2, g3⟩
            by_cases hm : m = k
            · refine Or.inr ⟨?_, ?_⟩
              · show r.1 ≤ j; omega
              · show j < r.1 + (r.2 + 1); omega
            · rcases h1.2 ⟨m, g1, by omega, g3⟩ with h | ⟨h2, h3⟩
              · exact Or.inl h
              · exact Or.inr ⟨h2, by show j < r.1 + (r.2 + 1); omega⟩
        · have := ih.sum
          rw [e, sumLen_append] at this
          rw [e1, sumLen_append, cntF, if_pos hf]
          have e2 : sumLen [(r.1, r.2 + 1)] = sumLen [r] + 1 := by simp [sumLen]
          rw [e2]; omega
      · have e1 : runsF f (k + 1) = runsF f k ++ [((k : Int), 1)] := by rw [runsF, if_pos hf, if_neg hadj]
        refine ⟨?_, fun j => ?_, ?_⟩
        · rw [e1]
          refine ih.pl.snoc (by show (0 : Int) ≤ k; omega) (by show (1 : Int) ≤ 1; omega) (by show (k : Int) + 1 ≤ 8192; omega) (fun x hx => ?_)
          have hx2 := ih.pl.mem hx
          obtain ⟨m, g1, g2, g3⟩ := (ih.is (x.1 + x.2 - 1)).1 ⟨x, hx, by omega, by omega⟩
          show x.1 + x.2 + 1 ≤ (k : Int)
          by_cases hm : m = k - 1
          · subst hm
            exact absurd ⟨by omega, g3⟩ hadj
          · omega
        · rw [e1, inS_append, inS_one, ih.is j]
          constructor
          · rintro (⟨m, g1, g2, g3⟩ | ⟨h2, h3⟩)
            · exact ⟨m, g1, by omega, g3⟩
            · have h2 : (k : Int) ≤ j := h2
              have h3 : j < (k : Int) + 1 := h3
              exact ⟨k, by omega, by omega, hf⟩
          · rintro ⟨m, g1, g2, g3⟩
            by_cases hm : m = k
            · refine Or.inr ⟨?_, ?_⟩
              · show (k : Int) ≤ j; omega
              · show j < (k : Int) + 1; omega
            · exact Or.inl ⟨m, g1, by omega, g3⟩
        · rw [e1, sumLen_append, ih.sum, cntF, if_pos hf]
          simp [sumLen]
    · have e1 : runsF f (k + 1) = runsF f k := by rw [runsF, if_neg hf]
      refine ⟨by rw [e1]; exact ih.pl, fun j => ?_, by rw [e1, ih.sum, cntF, if_neg hf]; omega⟩
      rw [e1, ih.is j]
      constructor
      · rintro ⟨m, g1, g2, g3⟩; exact ⟨m, g1, by omega, g3⟩
      · rintro ⟨m, g1, g2, g3⟩
        refine ⟨m, g1, ?_, g3⟩
        by_cases hm : m = k
        · subst hm; exact absurd g3 hf
        · omega
/-- the plain list of all sectors of which something is true. -/
def canon (f : Nat → Bool) : List (Int × Int) := runsF f 8192
theorem canon_ok (f : Nat → Bool) : RunsOk f 8192 := runs_ok f 8192 (Nat.le_refl _)
theorem canon_pl (f : Nat → Bool) : Pl 0 (canon f) := (canon_ok f).pl
theorem canon_is (f : Nat → Bool) (j : Int) : inS (canon f) j ↔ ∃ m : Nat, j = m ∧ m < 8192 ∧ f m = true := (canon_ok f).is j
theorem canon_sum (f : Nat → Bool) : sumLen (canon f) = cntF f 8192 := (canon_ok f).sum
theorem canon_eq {p : List (Int × Int)} {f : Nat → Bool} (h : Pl 0 p) (e : ∀ m : Nat, m < 8192 → (inS p m ↔ f m = true)) : p = canon f := by
  refine Pl.uniq h (canon_pl f) (fun i => ?_)
  rw [canon_is]
  constructor
  · intro hi
    have := h.ge hi
    obtain ⟨m, rfl⟩ := Int.eq_ofNat_of_zero_le this.1
    exact ⟨m, rfl, by omega, (e m (by omega)).1 hi⟩
  · rintro ⟨m, rfl, h1, h2⟩
    exact (e m h1).2 h2
theorem canon_has (f : Nat → Bool) (m : Nat) (hm : m < 8192) : hasB (canon f) m = f m := by
  rw [Bool.eq_iff_iff, hasB_iff, canon_is]
  constructor
  · rintro ⟨k, h1, _, h2⟩
    obtain rfl : m = k := by omega
    exact h2
  · intro h; exact ⟨m, rfl, hm, h⟩
theorem cntF_congr {f g : Nat → Bool} (k : Nat) (h : ∀ m, m < k → f m = g m) : cntF f k = cntF g k := by
  induction k with
  | zero => rfl
  | succ k ih => rw [cntF, cntF, ih (fun m hm => h m (by omega)), h k (by omega)]
theorem runsF_congr {f g : Nat → Bool} (k : Nat) (h : ∀ m, m < k → f m = g m) : runsF f k = runsF g k := by
  induction k with
  | zero => rfl
  | succ k ih =>
    rw [runsF, runsF, ih (fun m hm => h m (by omega)), h k (by omega)]
    by_cases hk : k = 0
    · subst hk; simp
    · rw [h (k - 1) (by omega)]
theorem canon_congr {f g : Nat → Bool} (h : ∀ m, m < 8192 → f m = g m) : canon f = canon g := runsF_congr 8192 h

/-! ### what the layer's functions give -/
def plainL (l : List (Int × Int)) : List (Int × Int) := canon (hasB l)
def commonL (a b : List (Int × Int)) : List (Int × Int) := canon (fun k => hasB a k && hasB b k)
def minusL (a b : List (Int × Int)) : List (Int × Int) := canon (fun k => hasB a k && !hasB b k)
def joinL (a b : List (Int × Int)) : List (Int × Int) := canon (fun k => hasB a k || hasB b k)
def countL (l : List (Int × Int)) : Nat := cntF (hasB l) 8192
theorem plain_sum (l : List (Int × Int)) : sumLen (plainL l) = countL l := canon_sum _
theorem plain_self {p : List (Int × Int)} (h : Pl 0 p) : plainL p = p := (canon_eq h (fun m _ => hasB_iff.symm)).symm
theorem hasB_append (a b : List (Int × Int)) (k : Nat) : hasB (a ++ b) k = (hasB a k || hasB b k) := by unfold hasB; rw [List.any_append]
theorem plain_append (a b : List (Int × Int)) : plainL (a ++ b) = joinL a b := canon_congr (fun m _ => hasB_append a b m)
end Go.Proofs.Ytdnbddhjdokbfaa

/- A row of one-cell elements in a block of the call's own, element by element. -/
namespace Go.Proofs.Ytdnbddhjdokbfaa
open Go.RowKit
set_option linter.unusedVariables false
set_option linter.unusedSimpArgs false

/-- block g holds elements of type t; its first n cells are those of f. -/
def Rw (w : World) (g : Nat) (t : TypeId) (n : Nat) (f : Nat → Value) : Prop := ∃ cs, Own w g cs t ∧ ∀ i, i < n → cs[i]? = some (f i)
section
variable {w w' : World} {g n : Nat} {t : TypeId} {f : Nat → Value}
theorem Rw.lt (h : Rw w g t n f) : g < w.heap.size := by obtain ⟨cs, o, _⟩ := h; exact o.lt
theorem Rw.cell (h : Rw w g t n f) (i : Nat) (hi : i < n) : w.cell? ⟨g, i, none⟩ = some (f i) := by
  obtain ⟨cs, o, hc⟩ := h
  have h1 := hc i hi
  obtain ⟨hlt, e⟩ := Array.getElem?_eq_some_iff.1 h1
  rw [o.cell i hlt, e]
theorem Rw.free (h : Rw w g t n f) (i : Nat) : w.frozen? ⟨g, i, none⟩ = false := by obtain ⟨cs, o, _⟩ := h; exact o.free i
theorem Rw.drew (h : Rw w g t n f) : Rw w.drew g t n f := h
theorem Rw.drewN (h : Rw w g t n f) (k : Nat) : Rw (w.drewN k) g t n f := h
theorem Rw.alloc (h : Rw w g t n f) (o : Obj) : Rw (w.alloc o) g t n f := by obtain ⟨cs, ho, hc⟩ := h; exact ⟨cs, ho.alloc o, hc⟩
theorem Rw.kept {S : List Nat} (h : Rw w g t n f) (k : Kept S w w') (hg : g ∉ S) : Rw w' g t n f := by obtain ⟨cs, ho, hc⟩ := h; exact ⟨cs, k.own ho hg, hc⟩
theorem Rw.other (h : Rw w g t n f) {p : Addr} (hp : g ≠ p.block) (u : Value) : Rw (w.setCell p u) g t n f := by obtain ⟨cs, ho, hc⟩ := h; exact ⟨cs, ho.other hp u, hc⟩
theorem Rw.congr (h : Rw w g t n f) {f' : Nat → Value} (e : ∀ i, i < n → f i = f' i) : Rw w g t n f' := by
  obtain ⟨cs, ho, hc⟩ := h; exact ⟨cs, ho, fun i hi => by rw [hc i hi, e i hi]⟩
theorem Rw.set (h : Rw w g t n f) (i : Nat) (hi : i < n) (u : Value) (f' : Nat → Value) (e1 : f' i = u) (e2 : ∀ j, j < n → j ≠ i → f' j = f j) : Rw (w.setCell ⟨g, i, none⟩ u) g t n f' := by
  obtain ⟨cs, ho, hc⟩ := h
  refine ⟨_, ho.set i u, fun j hj => ?_⟩
  obtain ⟨hlt, _⟩ := Array.getElem?_eq_some_iff.1 (hc i hi)
  by_cases hji : i = j
  · subst hji; rw [Array.getElem?_setIfInBounds_self_of_lt hlt, e1]
  · rw [Array.getElem?_setIfInBounds_ne hji, hc j hj, e2 j hj (fun e => hji e.symm)]
theorem Rw.le (h : Rw w g t n f) {m : Nat} (hm : m ≤ n) : Rw w g t m f := by
  obtain ⟨cs, ho, hc⟩ := h; exact ⟨cs, ho, fun i hi => hc i (by omega)⟩
end
theorem Rw.made (w : World) (t : TypeId) (n : Nat) (z : Value) : Rw (w.alloc (.cells (Array.replicate n z) t)) w.heap.size t n (fun _ => z) :=
  ⟨_, Own.new _ _ _, fun i hi => by simp [hi]⟩
/-- a row made, of one-cell elements. -/
theorem run_make_rep {P : Program} (t e : TypeId) (i : TypeInfo) (z : Value) (ht : P.underlying t = some (.slice e)) (hi : P.info? e = some i) (hz : i.zero = some z) (hsize : i.size = 1) (hzc : z.cells = #[z])
    (n : Nat) (hb : i.bytes * n ≤ 281474976710656) (hn : n ≤ 9223372036854775807) (w : World) :
    (Instr.makeSlice t (.int .i64 n) (.int .i64 n)).run P w = .ok (.slice (some ⟨w.heap.size, 0, none⟩) n n) (w.alloc (.cells (Array.replicate n z) e)) := by
  have hb' : (i.bytes : Int) * (n : Int) ≤ 281474976710656 := by
    have h : ((i.bytes * n : Nat) : Int) ≤ 281474976710656 := by omega
    rwa [Int.natCast_mul] at h
  have h := run_make (P := P) w t e i z ht hi hz .i64 .i64 n n (by omega) (by omega) hb' (by omega)
  rw [h, hsize, hzc]
  simp only [Int.toNat_natCast, Nat.mul_one]
  congr 3
  apply Array.toList_inj.1
  rw [toList_madeCells_one]
  simp
/-- append, by its run. -/
theorem wp_append_run {P : Program} {w : World} {o : Oper} {a : Act} {K : Act → World → Prop} {Q : Exit → Act → World → Prop} (s x : Operand) (ts : Array TypeId)
    (ho : o.op = .call { callee := .builtin .append, args := #[s, x], argTypes := ts }) (v u : Value) (hs : a.eval s = v) (hx : a.eval x = u) (v' : Value) (w' : World)
    (hrun : (Builtin.append_ ts o.type #[v, u]).run P w = .ok v' w') (h : K (a.put o.dst v') w') : o.wp P a w K Q := by
  unfold Oper.wp execOp
  simp only [ho, resolve, invoke, builtin, Sem.run_bind, Sem.run_pure, Result.andThen_ok, List.map_toArray, List.map_cons, List.map_nil, hs, hx, hrun]
  exact h
theorem wpList_append_run {P : Program} {w : World} {ops : Array Oper} {rest : List Oper} {o : Oper} {a : Act} {Q : Exit → Act → World → Prop} (hgd : o.guard = none) (s x : Operand) (ts : Array TypeId)
    (ho : o.op = .call { callee := .builtin .append, args := #[s, x], argTypes := ts }) (v u : Value) (hs : a.eval s = v) (hx : a.eval x = u) (v' : Value) (w' : World)
    (hrun : (Builtin.append_ ts o.type #[v, u]).run P w = .ok v' w') (h : wpList P ops Q rest (a.put o.dst v') w') : wpList P ops Q (o :: rest) a w :=
  wpList_plain hgd fun _ hK => wp_append_run s x ts ho v u hs hx v' w' hrun (hK _ _ h)
end Go.Proofs.Ytdnbddhjdokbfaa
