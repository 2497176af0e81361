/- A slice of structs that came in: each element's cells, one behind another, read as an element of a list. -/
import Derived.Test.YtmljbmhalpdpmaaKept
import Derived.Test.YtmljbmhalpdpmaaIn
import Derived.Deep.Slices
import Derived.ChangeSame
namespace Go.Proofs.Ytmljbmhalpdpmaa
open Go.ChangeShapes Go.WideShapes Go.ChangeAt Go.RowKit Go.Deep
set_option linter.unusedVariables false
set_option linter.unusedSimpArgs false

/-- the slice v of elements of k cells reads as l; R: these cells are those of an element. -/
def RowsOf {α : Type} (k : Nat) (R : World → List Value → α → Prop) (w : World) (v : Value) (l : List α) (lo hi : Nat) : Prop :=
  (l = [] ∧ ∃ a c, v = .slice a 0 c) ∨
  ∃ b off c, v = .slice (some ⟨b, off, none⟩) l.length c ∧ (∀ i (h : i < l.length), ∃ cs, cs.length = k ∧ R w cs l[i] ∧ ∀ j u, cs[j]? = some u → w.cell? ⟨b, off + (i * k + j), none⟩ = some u) ∧ lo ≤ b ∧ b < hi ∧ hi ≤ w.heap.size ∧ l ≠ [] ∧ l.length ≤ c ∧ c ≤ maxLen
section
variable {α : Type} {k : Nat} {R : World → List Value → α → Prop} {w w' : World} {v : Value} {l : List α} {lo hi : Nat}
theorem RowsOf.kept {S : List Nat} (h : RowsOf k R w v l lo hi) (kk : Kept S w w') (hS : ∀ x ∈ S, x < lo ∨ hi ≤ x) (hR : ∀ cs a, R w cs a → R w' cs a) : RowsOf k R w' v l lo hi := by
  rcases h with h | ⟨b, off, c, h1, h2, h3, h4, h5, h6, h7, h8⟩
  · exact Or.inl h
  · refine Or.inr ⟨b, off, c, h1, fun i hi => ?_, h3, h4, Nat.le_trans h5 kk.size, h6, h7, h8⟩
    have hb : b ∉ S := fun hb => by have := hS b hb; omega
    obtain ⟨cs, e1, e2, e3⟩ := h2 i hi
    refine ⟨cs, e1, hR _ _ e2, fun j u hu => ?_⟩
    rw [kk.cell (by show b < _; omega) hb]
    exact e3 j u hu
theorem RowsOf.shape (h : RowsOf k R w v l lo hi) : ∃ p c, v = .slice p l.length c := by
  rcases h with ⟨rfl, a, c, rfl⟩ | ⟨b, off, c, rfl, _⟩
  · exact ⟨a, c, rfl⟩
  · exact ⟨_, c, rfl⟩
theorem RowsOf.len (h : RowsOf k R w v l lo hi) : l.length ≤ maxLen := by
  rcases h with ⟨rfl, a, c, rfl⟩ | ⟨b, off, c, rfl, _, _, _, _, _, h7, h8⟩
  · exact Nat.zero_le _
  · omega
theorem RowsOf.at_ {p : Option Addr} {n c : Nat} (h : RowsOf k R w (.slice p n c) l lo hi) (i : Nat) (hi' : i < l.length) :
    ∃ b off cs, p = some ⟨b, off, none⟩ ∧ cs.length = k ∧ R w cs l[i] ∧ (∀ j u, cs[j]? = some u → w.cell? ⟨b, off + (i * k + j), none⟩ = some u) ∧ lo ≤ b ∧ b < hi ∧ hi ≤ w.heap.size := by
  rcases h with ⟨rfl, _⟩ | ⟨b, off, c', e, h2, h3, h4, h5, _, h6, h7⟩
  · simp at hi'
  · simp at e
    obtain ⟨e1, rfl, rfl⟩ := e
    obtain ⟨cs, q1, q2, q3⟩ := h2 i hi'
    exact ⟨b, off, cs, e1, q1, q2, q3, h3, h4, h5⟩
end
theorem rows_of_trod {H : Type} {enc : TypeId × Value → H} {P : Program} {w : World} {base : Nat} {held : Bool} {α : Type} [Inhabited α] {k : Nat} {R : World → List Value → α → Prop} {t e : TypeId} {fuel : Nat} {c : Value} {x : DataW H × List MemPlace}
    (ht : P.underlying t = some (.slice e)) (hk : P.cellsOf e = k) (hk0 : 0 < k)
    (hR : ∀ n cs y, DataW.trod enc P w base (fun _ => true) held n e cs = some y → cs.length = k → ∃ a, R w cs a)
    (h : DataW.trod enc P w base (fun _ => true) held fuel t [c] = some x) : ∃ l, RowsOf k R w c l 0 w.heap.size := by
  rcases open_slice ht h with ⟨e1, _⟩ | ⟨a, len, cap, m, n, D, Pl, e1, hb, hl, hm, hmm, _, hx⟩
  · injection e1 with e1
    exact ⟨[], Or.inl ⟨rfl, _, _, e1⟩⟩
  · injection e1 with e1
    subst e1
    simp only [if_true] at hmm
    subst hmm
    rw [hk] at hx
    by_cases h0 : len = 0
    · subst h0; exact ⟨[], Or.inl ⟨rfl, _, _, rfl⟩⟩
    · obtain ⟨q, hq⟩ := choose_lt (α := α × List Value) (n := len) (p := fun i q => q.2.length = k ∧ R w q.2 q.1 ∧ ∀ j, j < k → w.cell? ((a.add (i * k)).add j) = q.2[j]?) (fun i hi => by
        obtain ⟨cs', q1, q2⟩ := hx i (by omega)
        obtain ⟨_, q3, q4⟩ := World.cells?_some q1
        obtain ⟨z, hz⟩ := hR _ _ _ q2 q3
        exact ⟨(z, cs'), q3, hz, q4⟩)
      obtain ⟨b, off, spot⟩ := a
      have hc0 : ∃ u, w.cell? (((⟨b, off, spot⟩ : Addr).add (0 * k)).add 0) = some u := by
        obtain ⟨e1, _, e2⟩ := hq 0 (by omega)
        rw [e2 0 hk0]
        exact ⟨_, List.getElem?_eq_getElem (by omega)⟩
      obtain ⟨u0, hu0⟩ := hc0
      have hspot : spot = none := by simpa [Addr.add] using World.cell?_spot hu0
      subst hspot
      have hblt : b < w.heap.size := by
        rw [Go.WideShapes.add_plain, Go.WideShapes.add_plain] at hu0
        exact World.block_lt_of_cell? _ _ hu0
      refine ⟨(List.range len).map fun i => (q i).1, Or.inr ⟨b, off, m, by simp, fun i hi => ?_, Nat.zero_le _, hblt, Nat.le_refl _, fun e => ?_, by simpa using hl, hm⟩⟩
      · have hi' : i < len := by simpa using hi
        obtain ⟨e1, e2, e3⟩ := hq i hi'
        refine ⟨(q i).2, e1, by simpa using e2, fun j u hu => ?_⟩
        have hj : j < k := by
          have := (List.getElem?_eq_some_iff.1 hu).1; omega
        have := e3 j hj
        rw [Go.WideShapes.add_plain, Go.WideShapes.add_plain, Nat.add_assoc] at this
        rw [this, hu]
      · have := congrArg List.length e
        simp at this; omega
end Go.Proofs.Ytmljbmhalpdpmaa
