/- A block of the call's own, known whole: what its cells hold, that they may be written, what it is behind a store. -/
import Derived.WalkKit
import Derived.WalkSpells
import Derived.WalkLawsBesides
import Derived.Lib.Hide
namespace Go.Proofs.Ytkghkkfcgegmeaa
open Go.RowKit

/-- block b holds just these cells, none of them frozen. -/
def Own (w : World) (b : Nat) (cs : Array Value) (t : TypeId) : Prop := w.heap[b]? = some (.cells cs t (0, 0))
theorem Own.lt {w : World} {b : Nat} {cs : Array Value} {t : TypeId} (h : Own w b cs t) : b < w.heap.size := lt_of_block h
theorem Own.cell {w : World} {b : Nat} {cs : Array Value} {t : TypeId} (h : Own w b cs t) (j : Nat) (hj : j < cs.size) : w.cell? ⟨b, j, none⟩ = some cs[j] := by
  have h' : w.heap[b]? = some (.cells cs t (0, 0)) := h
  simp [World.cell?, h', hj]
theorem Own.free {w : World} {b : Nat} {cs : Array Value} {t : TypeId} (h : Own w b cs t) (j : Nat) : w.frozen? ⟨b, j, none⟩ = false := by
  have h' : w.heap[b]? = some (.cells cs t (0, 0)) := h
  simp [World.frozen?, h']
theorem Own.set {w : World} {b : Nat} {cs : Array Value} {t : TypeId} (h : Own w b cs t) (j : Nat) (u : Value) : Own (w.setCell ⟨b, j, none⟩ u) b (cs.setIfInBounds j u) t :=
  heap_setCell_same w b j cs t u h
theorem Own.other {w : World} {b : Nat} {cs : Array Value} {t : TypeId} (h : Own w b cs t) {p : Addr} (hp : b ≠ p.block) (u : Value) : Own (w.setCell p u) b cs t :=
  (Below.heap_setCell w p u b hp).trans h
theorem Own.drew {w : World} {b : Nat} {cs : Array Value} {t : TypeId} (h : Own w b cs t) : Own w.drew b cs t := h
theorem Own.drewN {w : World} {b : Nat} {cs : Array Value} {t : TypeId} (h : Own w b cs t) (n : Nat) : Own (w.drewN n) b cs t := h
theorem Own.alloc {w : World} {b : Nat} {cs : Array Value} {t : TypeId} (h : Own w b cs t) (o : Obj) : Own (w.alloc o) b cs t :=
  (Below.heap_alloc w o b h.lt).trans h
theorem Own.new (w : World) (cs : Array Value) (t : TypeId) : Own (w.alloc (.cells cs t)) w.heap.size cs t := heap_alloc_new w _
theorem Own.below {B : Nat} {w w' : World} {b : Nat} {cs : Array Value} {t : TypeId} (h : Own w b cs t) (hb : Below B w w') (hlt : b < B) : Own w' b cs t :=
  (hb.block b hlt).trans h
end Go.Proofs.Ytkghkkfcgegmeaa
