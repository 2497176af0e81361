/- A slice of strings whose block lies between two numbers: what it reads as, and that calls that turn other blocks leave it. -/
import Derived.Test.YtmljbmhalpdpmaaKept
import Derived.Test.YtmljbmhalpdpmaaIn
namespace Go.Proofs.Ytmljbmhalpdpmaa
open Go.RowKit

/-- the slice v reads as the strings l; its block is from lo on, below hi. -/
def StrsIn (w : World) (v : Value) (l : List ByteArray) (lo hi : Nat) : Prop :=
  (l = [] ∧ ∃ a c, v = .slice a 0 c) ∨
  ∃ b off c, v = .slice (some ⟨b, off, none⟩) l.length c ∧ (∀ i (h : i < l.length), w.cell? ⟨b, off + i, none⟩ = some (.string l[i])) ∧ lo ≤ b ∧ b < hi ∧ hi ≤ w.heap.size ∧ l ≠ []

theorem StrsIn.of {w : World} {v : Value} {l : List ByteArray} (h : StrsAt w v l) : StrsIn w v l 0 w.heap.size := by
  rcases h with h | ⟨b, off, c, h1, h2, h3, h4⟩
  · exact Or.inl h
  · exact Or.inr ⟨b, off, c, h1, h2, Nat.zero_le _, h3, Nat.le_refl _, h4⟩
theorem StrsIn.kept {S : List Nat} {w w' : World} {v : Value} {l : List ByteArray} {lo hi : Nat} (h : StrsIn w v l lo hi) (k : Kept S w w') (hS : ∀ x ∈ S, x < lo ∨ hi ≤ x) : StrsIn w' v l lo hi := by
  rcases h with h | ⟨b, off, c, h1, h2, h3, h4, h5, h6⟩
  · exact Or.inl h
  · refine Or.inr ⟨b, off, c, h1, fun i hi => ?_, h3, h4, Nat.le_trans h5 k.size, h6⟩
    rw [k.cell (by show b < _; omega) (fun hb => by have := hS b hb; omega)]
    exact h2 i hi
theorem StrsIn.weaken {w : World} {v : Value} {l : List ByteArray} {lo hi lo' hi' : Nat} (h : StrsIn w v l lo hi) (h1 : lo' ≤ lo) (h2 : hi ≤ hi') (h3 : hi' ≤ w.heap.size) : StrsIn w v l lo' hi' := by
  rcases h with h | ⟨b, off, c, e1, e2, e3, e4, e5, e6⟩
  · exact Or.inl h
  · exact Or.inr ⟨b, off, c, e1, e2, by omega, by omega, h3, e6⟩
theorem ownsRow_kept {S : List Nat} {w w' : World} {base : Nat} {e : TypeId} {size : Nat} {v : Value} {n : Nat} {xs : List Value} (h : w.ownsRow base e size v n xs) (k : Kept S w w') (hS : ∀ x ∈ S, x < base) : w'.ownsRow base e size v n xs := by
  obtain ⟨h1, h2⟩ := h
  refine ⟨h1, ?_⟩
  rcases h2 with h2 | ⟨g, cap, cur, hv, hg, hh, r⟩
  · exact Or.inl h2
  · exact Or.inr ⟨g, cap, cur, hv, hg, (k.block g (lt_of_block hh) (fun hx => by have := hS g hx; omega)).trans hh, r⟩
theorem own_shape {w : World} {base : Nat} {e : TypeId} {size : Nat} {v : Value} {n : Nat} {xs : List Value} (h : w.ownsRow base e size v n xs) : ∃ p cap, v = .slice p n cap := by
  obtain ⟨_, ⟨rfl, rfl⟩ | ⟨g, cap, cur, rfl, _⟩⟩ := h
  · exact ⟨_, _, rfl⟩
  · exact ⟨_, _, rfl⟩
/-- texts as values. -/
def strs (l : List (List UInt8)) : List Value := (l.map bs).map Value.string
theorem strs_snoc (l : List (List UInt8)) (x : List UInt8) : strs l ++ [Value.string (bs x)] = strs (l ++ [x]) := by simp [strs]
/-- of a row that the call owns. -/
theorem StrsIn.of_own {w : World} {base : Nat} {e : TypeId} {v : Value} {n : Nat} {l : List ByteArray} (h : w.ownsRow base e 1 v n (l.map Value.string)) : StrsIn w v l base w.heap.size := by
  obtain ⟨hlen, h⟩ := h
  have hn : l.length = n := by simpa using hlen
  rcases h with ⟨rfl, rfl⟩ | ⟨g, cap, cur, rfl, hb, hg, hnc, hcm, hcs, htake⟩
  · exact Or.inl ⟨List.eq_nil_of_length_eq_zero hn, _, _, rfl⟩
  · by_cases h0 : n = 0
    · subst h0
      exact Or.inl ⟨List.eq_nil_of_length_eq_zero hn, _, _, rfl⟩
    · refine Or.inr ⟨g, 0, cap, by rw [hn], fun i hi => ?_, hb, lt_of_block hg, Nat.le_refl _, fun h => by rw [h] at hn; simp at hn; omega⟩
      have hi' : i < cur.toList.length := by rw [Array.length_toList, hcs]; omega
      have hc : cur.toList[i]? = some (.string l[i]) := by
        have := congrArg (fun x => x[i]?) htake
        simp only [Nat.mul_one] at this
        rw [List.getElem?_take_of_lt (by omega)] at this
        rw [this]
        simp [hi]
      rw [Nat.zero_add, cell_of_row w g i cur e (0, 0) hg]
      rw [← hc]; simp
end Go.Proofs.Ytmljbmhalpdpmaa
