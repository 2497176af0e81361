/- Rows that a call owns, and blocks of other elements. -/
import Derived.Test.YtkhbobjfmedimaaKept
import Derived.Test.YtkhbobjfmedimaaIn2
import Derived.Laws.MakeOwn
import Derived.Maps.AppendAt
namespace Go.Proofs.Ytkhbobjfmedimaa
open Go.RowKit

/-- a row and a block of other elements are apart; what becomes of them. -/
theorem own_row_ne {w : World} {base : Nat} {e t : TypeId} {size n g : Nat} {v : Value} {xs : List Value} {cs : Array Value} (h : w.ownsRow base e size v n xs) (o : Own w g cs t) (hne : e ≠ t) : v.ownBlock ≠ some g := by
  rcases h.2 with ⟨rfl, _⟩ | ⟨g', cap, cur, rfl, _, hh, _⟩
  · simp [Value.ownBlock]
  · intro he
    have e1 : g' = g := by simpa [Value.ownBlock] using he
    subst e1
    have o' : w.heap[g']? = some (.cells cs t (0, 0)) := o
    rw [o'] at hh
    injection hh with hh
    injection hh with _ ht
    exact hne ht.symm
theorem own_grown {w w' : World} {base : Nat} {e t : TypeId} {size n g : Nat} {v : Value} {xs : List Value} {cs : Array Value} (h : w.ownsRow base e size v n xs) (hg : w.grownBy w' v.ownBlock) (o : Own w g cs t) (hne : e ≠ t) : Own w' g cs t :=
  Eq.trans (hg.block g o.lt (fun he => own_row_ne h o hne he.symm)) o
theorem ownsRow_other {w : World} {base : Nat} {e : TypeId} {size n : Nat} {v : Value} {xs : List Value} (h : w.ownsRow base e size v n xs) {p : Addr} (hp : v.ownBlock ≠ some p.block) (u : Value) : (w.setCell p u).ownsRow base e size v n xs := by
  obtain ⟨h1, h2⟩ := h
  refine ⟨h1, ?_⟩
  rcases h2 with h2 | ⟨g, cap, cur, rfl, hg, hh, r⟩
  · exact Or.inl h2
  · refine Or.inr ⟨g, cap, cur, rfl, hg, (Below.heap_setCell w p u g (fun e => hp (by simp [Value.ownBlock, e]))).trans hh, r⟩
end Go.Proofs.Ytkhbobjfmedimaa
