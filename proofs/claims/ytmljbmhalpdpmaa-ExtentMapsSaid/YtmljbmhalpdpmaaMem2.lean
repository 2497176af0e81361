/- Blocks of the call's own: cell by cell; results that lie in such a block. -/
import Derived.Test.YtmljbmhalpdpmaaMem
import Derived.Laws.Rows
import Derived.Test.YtmljbmhalpdpmaaKept
import Derived.Laws.ResultCell
namespace Go.Proofs.Ytmljbmhalpdpmaa
open Go.RowKit
set_option linter.unusedVariables false
set_option linter.unusedSimpArgs false

theorem Own.c2 {w : World} {b : Nat} {x0 x1 : Value} {t : TypeId} (h : Own w b #[x0, x1] t) : w.cell? ⟨b, 0, none⟩ = some x0 ∧ w.cell? ⟨b, 1, none⟩ = some x1 :=
  ⟨h.cell 0 (by simp), h.cell 1 (by simp)⟩
theorem Own.z2 {w : World} {b : Nat} {x0 x1 : Value} {t : TypeId} (h : Own w b #[x0, x1] t) : w.frozen? ⟨b, 0, none⟩ = false ∧ w.frozen? ⟨b, 1, none⟩ = false :=
  ⟨h.free 0, h.free 1⟩
theorem Own.c4 {w : World} {b : Nat} {x0 x1 x2 x3 : Value} {t : TypeId} (h : Own w b #[x0, x1, x2, x3] t) : w.cell? ⟨b, 0, none⟩ = some x0 ∧ w.cell? ⟨b, 1, none⟩ = some x1 ∧ w.cell? ⟨b, 2, none⟩ = some x2 ∧ w.cell? ⟨b, 3, none⟩ = some x3 :=
  ⟨h.cell 0 (by simp), h.cell 1 (by simp), h.cell 2 (by simp), h.cell 3 (by simp)⟩
theorem Own.z4 {w : World} {b : Nat} {x0 x1 x2 x3 : Value} {t : TypeId} (h : Own w b #[x0, x1, x2, x3] t) : w.frozen? ⟨b, 0, none⟩ = false ∧ w.frozen? ⟨b, 1, none⟩ = false ∧ w.frozen? ⟨b, 2, none⟩ = false ∧ w.frozen? ⟨b, 3, none⟩ = false :=
  ⟨h.free 0, h.free 1, h.free 2, h.free 3⟩
theorem Own.c8 {w : World} {b : Nat} {x0 x1 x2 x3 x4 x5 x6 x7 : Value} {t : TypeId} (h : Own w b #[x0, x1, x2, x3, x4, x5, x6, x7] t) : w.cell? ⟨b, 0, none⟩ = some x0 ∧ w.cell? ⟨b, 1, none⟩ = some x1 ∧ w.cell? ⟨b, 2, none⟩ = some x2 ∧ w.cell? ⟨b, 3, none⟩ = some x3 ∧ w.cell? ⟨b, 4, none⟩ = some x4 ∧ w.cell? ⟨b, 5, none⟩ = some x5 ∧ w.cell? ⟨b, 6, none⟩ = some x6 ∧ w.cell? ⟨b, 7, none⟩ = some x7 :=
  ⟨h.cell 0 (by simp), h.cell 1 (by simp), h.cell 2 (by simp), h.cell 3 (by simp), h.cell 4 (by simp), h.cell 5 (by simp), h.cell 6 (by simp), h.cell 7 (by simp)⟩
theorem Own.z8 {w : World} {b : Nat} {x0 x1 x2 x3 x4 x5 x6 x7 : Value} {t : TypeId} (h : Own w b #[x0, x1, x2, x3, x4, x5, x6, x7] t) : w.frozen? ⟨b, 0, none⟩ = false ∧ w.frozen? ⟨b, 1, none⟩ = false ∧ w.frozen? ⟨b, 2, none⟩ = false ∧ w.frozen? ⟨b, 3, none⟩ = false ∧ w.frozen? ⟨b, 4, none⟩ = false ∧ w.frozen? ⟨b, 5, none⟩ = false ∧ w.frozen? ⟨b, 6, none⟩ = false ∧ w.frozen? ⟨b, 7, none⟩ = false :=
  ⟨h.free 0, h.free 1, h.free 2, h.free 3, h.free 4, h.free 5, h.free 6, h.free 7⟩
theorem own_four (w : World) (A B C D : Array Value) (s t u v : TypeId) : Own ((((w.alloc (.cells A s)).alloc (.cells B t)).alloc (.cells C u)).alloc (.cells D v)) w.heap.size A s ∧ Own ((((w.alloc (.cells A s)).alloc (.cells B t)).alloc (.cells C u)).alloc (.cells D v)) (w.heap.size + 1) B t ∧ Own ((((w.alloc (.cells A s)).alloc (.cells B t)).alloc (.cells C u)).alloc (.cells D v)) (w.heap.size + 1 + 1) C u ∧ Own ((((w.alloc (.cells A s)).alloc (.cells B t)).alloc (.cells C u)).alloc (.cells D v)) (w.heap.size + 1 + 1 + 1) D v := by
  obtain ⟨a, b, c⟩ := own_three w A B C s t u
  refine ⟨a.alloc _, b.alloc _, c.alloc _, ?_⟩
  have := Own.new (((w.alloc (.cells A s)).alloc (.cells B t)).alloc (.cells C u)) D v
  simpa only [World.size_alloc] using this
/-- a result that lies in a block of the call's own, and one in a slot. -/
theorem ret_row_tmp {P : Program} {fn : Func} {p u : Tmp} {ty : TypeId} (h : fn.results = #[.cell p ty, .tmp u]) {tmps : Array Value} {w : World} {g : Nat} {t : TypeId} {cs : Array Value} {d : TypeDesc} {x : Value}
    (hp : tmps.getD p undef = .pointer (some ⟨g, 0, none⟩)) (hx : tmps.getD u undef = x) (o : Own w g cs t) (hu : P.underlying ty = some d) (hd : (match d with | .struct _ | .array _ _ => true | _ => false) = true) (hi : (P.info? ty).map (·.size) = some cs.size) :
    (results fn tmps).run P w = .ok (.tuple #[.agg cs, x]) w := by
  rw [results_cell_tmp h, hp, hx]
  simp [asAddr, run_loadVar_row w g t ty cs (0, 0) d o hu hd hi]
theorem ret_row {P : Program} {fn : Func} {p : Tmp} {ty : TypeId} (h : fn.results = #[.cell p ty]) {tmps : Array Value} {w : World} {g : Nat} {t : TypeId} {cs : Array Value} {d : TypeDesc}
    (hp : tmps.getD p undef = .pointer (some ⟨g, 0, none⟩)) (o : Own w g cs t) (hu : P.underlying ty = some d) (hd : (match d with | .struct _ | .array _ _ => true | _ => false) = true) (hi : (P.info? ty).map (·.size) = some cs.size) :
    (results fn tmps).run P w = .ok (.agg cs) w := results_cell_row h tmps w g t cs (0, 0) d hp o hu hd hi
/-- all the cells of a block, written in turn. -/
theorem Own.set4 {w : World} {b : Nat} {x0 x1 x2 x3 : Value} {t : TypeId} (h : Own w b #[x0, x1, x2, x3] t) (y0 y1 y2 y3 : Value) :
    Own ((((w.setCell ⟨b, 0, none⟩ y0).setCell ⟨b, 1, none⟩ y1).setCell ⟨b, 2, none⟩ y2).setCell ⟨b, 3, none⟩ y3) b #[y0, y1, y2, y3] t := by
  have := (((h.set 0 y0).set 1 y1).set 2 y2).set 3 y3
  simpa using this
theorem Own.set8 {w : World} {b : Nat} {x0 x1 x2 x3 x4 x5 x6 x7 : Value} {t : TypeId} (h : Own w b #[x0, x1, x2, x3, x4, x5, x6, x7] t) (y0 y1 y2 y3 y4 y5 y6 y7 : Value) :
    Own ((((((((w.setCell ⟨b, 0, none⟩ y0).setCell ⟨b, 1, none⟩ y1).setCell ⟨b, 2, none⟩ y2).setCell ⟨b, 3, none⟩ y3).setCell ⟨b, 4, none⟩ y4).setCell ⟨b, 5, none⟩ y5).setCell ⟨b, 6, none⟩ y6).setCell ⟨b, 7, none⟩ y7) b #[y0, y1, y2, y3, y4, y5, y6, y7] t := by
  have := (((((((h.set 0 y0).set 1 y1).set 2 y2).set 3 y3).set 4 y4).set 5 y5).set 6 y6).set 7 y7
  simpa using this
/-- a whole row, written at once. -/
theorem Own.setRow {w : World} {b : Nat} {cs : Array Value} {t : TypeId} (h : Own w b cs t) (ds : Array Value) : Own (w.setRow b ds) b ds t := by
  have h' : w.heap[b]? = some (.cells cs t (0, 0)) := h
  exact setRow_heap w b cs ds t (0, 0) h'
theorem setRow_other (w : World) (b : Nat) (ds : Array Value) (k : Nat) (hk : k ≠ b) : (w.setRow b ds).heap[k]? = w.heap[k]? := by
  simp only [World.setRow, Array.getElem?_modify]
  rw [if_neg (fun e => hk e.symm)]
theorem Own.otherRow {w : World} {b g : Nat} {cs : Array Value} {t : TypeId} (h : Own w b cs t) (hb : b ≠ g) (ds : Array Value) : Own (w.setRow g ds) b cs t :=
  (setRow_other w g ds b hb).trans h
theorem Kept.setRow {S : List Nat} {a w : World} (h : Kept S a w) {g : Nat} (hp : g ∈ S ∨ a.heap.size ≤ g) (ds : Array Value) : Kept S a (w.setRow g ds) :=
  ⟨h.os, h.tape, h.output, by simpa using h.size, fun k hk hS => (setRow_other w g ds k (fun e => by
    rcases hp with hp | hp
    · exact hS (e ▸ hp)
    · omega)).trans (h.block k hk hS)⟩
end Go.Proofs.Ytmljbmhalpdpmaa
