/- A block of the call's own, known whole: what its cells hold, that they may be written, what it is behind a store. -/
import Derived.WalkKit
import Derived.WalkSpells
import Derived.WalkLawsBesides
import Derived.Lib.Hide
namespace Go.Proofs.Ytmljbmhalpdpmaa
open Go.RowKit

/-- stores that the walk's own set lacks: floats and complex numbers. -/
@[go_sem] theorem run_store_float (P : Program) (w : World) (a : Addr) (m : Mode) (k : FloatKind) (b : Nat) : (store a (.float k b) m).run P w = stored P w a (.float k b) m := run_store P w a _ m rfl
@[go_sem] theorem run_store_complex (P : Program) (w : World) (a : Addr) (m : Mode) (k : FloatKind) (b c : Nat) : (store a (.complex k b c) m).run P w = stored P w a (.complex k b c) m := run_store P w a _ m rfl

/-- block b holds just these cells, none of them frozen. -/
def Own (w : World) (b : Nat) (cs : Array Value) (t : TypeId) : Prop := w.heap[b]? = some (.cells cs t (0, 0))
theorem Own.lt {w : World} {b : Nat} {cs : Array Value} {t : TypeId} (h : Own w b cs t) : b < w.heap.size := lt_of_block h
theorem Own.cell {w : World} {b : Nat} {cs : Array Value} {t : TypeId} (h : Own w b cs t) (j : Nat) (hj : j < cs.size) : w.cell? ⟨b, j, none⟩ = some cs[j] := by
  have h' : w.heap[b]? = some (.cells cs t (0, 0)) := h
  simp [World.cell?, h', hj]
theorem Own.free {w : World} {b : Nat} {cs : Array Value} {t : TypeId} (h : Own w b cs t) (j : Nat) : w.frozen? ⟨b, j, none⟩ = false := by
  have h' : w.heap[b]? = some (.cells cs t (0, 0)) := h
  simp [World.frozen?, h']
theorem Own.set {w : World} {b : Nat} {cs : Array Value} {t : TypeId} (h : Own w b cs t) (j : Nat) (u : Value) : Own (w.setCell ⟨b, j, none⟩ u) b (cs.setIfInBounds j u) t :=
  heap_setCell_same w b j cs t u h
theorem Own.other {w : World} {b : Nat} {cs : Array Value} {t : TypeId} (h : Own w b cs t) {p : Addr} (hp : b ≠ p.block) (u : Value) : Own (w.setCell p u) b cs t :=
  (Below.heap_setCell w p u b hp).trans h
theorem Own.drew {w : World} {b : Nat} {cs : Array Value} {t : TypeId} (h : Own w b cs t) : Own w.drew b cs t := h
theorem Own.drewN {w : World} {b : Nat} {cs : Array Value} {t : TypeId} (h : Own w b cs t) (n : Nat) : Own (w.drewN n) b cs t := h
theorem Own.alloc {w : World} {b : Nat} {cs : Array Value} {t : TypeId} (h : Own w b cs t) (o : Obj) : Own (w.alloc o) b cs t :=
  (Below.heap_alloc w o b h.lt).trans h
theorem Own.new (w : World) (cs : Array Value) (t : TypeId) : Own (w.alloc (.cells cs t)) w.heap.size cs t := heap_alloc_new w _
theorem Own.below {B : Nat} {w w' : World} {b : Nat} {cs : Array Value} {t : TypeId} (h : Own w b cs t) (hb : Below B w w') (hlt : b < B) : Own w' b cs t :=
  (hb.block b hlt).trans h
/-- two, three, four new blocks. -/
theorem own_two (w : World) (A B : Array Value) (s t : TypeId) : Own ((w.alloc (.cells A s)).alloc (.cells B t)) w.heap.size A s ∧ Own ((w.alloc (.cells A s)).alloc (.cells B t)) (w.heap.size + 1) B t := by
  refine ⟨(Own.new _ _ _).alloc _, ?_⟩
  have := Own.new (w.alloc (.cells A s)) B t
  simpa only [World.size_alloc] using this
theorem own_three (w : World) (A B C : Array Value) (s t u : TypeId) : Own (((w.alloc (.cells A s)).alloc (.cells B t)).alloc (.cells C u)) w.heap.size A s ∧ Own (((w.alloc (.cells A s)).alloc (.cells B t)).alloc (.cells C u)) (w.heap.size + 1) B t ∧ Own (((w.alloc (.cells A s)).alloc (.cells B t)).alloc (.cells C u)) (w.heap.size + 2) C u := by
  obtain ⟨a, b⟩ := own_two w A B s t
  refine ⟨a.alloc _, b.alloc _, ?_⟩
  have := Own.new ((w.alloc (.cells A s)).alloc (.cells B t)) C u
  simpa only [World.size_alloc] using this
/-- what was there stands behind a call that leaves all as it was. -/
theorem Own.past {w w' : World} {b : Nat} {cs : Array Value} {t : TypeId} (h : Own w b cs t) (hb : Below w.heap.size w w') : Own w' b cs t := h.below hb h.lt
/-- 'Below' over one call more. -/
theorem Below.call {B : Nat} {a w w' : World} (h : Below B a w) (hb : Below w.heap.size w w') (hB : B ≤ w.heap.size) : Below B a w' := h.trans (hb.mono hB)
/-- a float's cell, opened. -/
theorem float_of_trod {H : Type} {enc : TypeId × Value → H} {P : Program} {w : World} {base : Nat} {spare : Nat → Bool} {held : Bool} {fuel : Nat} {t : TypeId} {k : FloatKind} {c : Value} {y : DataW H × List MemPlace}
    (ht : P.underlying t = some (.float k)) (h : DataW.trod enc P w base spare held fuel t [c] = some y) : ∃ b, c = .float k b ∧ (Lit.float k b).wf = true := by
  cases fuel with
  | zero => simp [DataW.trod] at h
  | succ n =>
    simp only [DataW.trod, ht] at h
    cases c <;> simp at h
    rename_i k' b
    obtain ⟨⟨rfl, hw⟩, _⟩ := h
    exact ⟨b, rfl, hw⟩
end Go.Proofs.Ytmljbmhalpdpmaa
