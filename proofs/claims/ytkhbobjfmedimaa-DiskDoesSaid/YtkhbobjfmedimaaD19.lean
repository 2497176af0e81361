/- Layer 9: what the document's disk is in memory. -/
import Derived.Test.YtkhbobjfmedimaaD17
import Derived.Test.YtkhbobjfmedimaaRowApp
namespace Go.Proofs.Ytkhbobjfmedimaa
open Go.RowKit Go.Maps
set_option linter.unusedVariables false
set_option linter.unusedSimpArgs false

def svals (l : List (List UInt8)) : List Value := l.map fun s => Value.string (bs s)
theorem svals_len (l : List (List UInt8)) : (svals l).length = l.length := by simp [svals]
theorem svals_get (l : List (List UInt8)) (i : Nat) (h : i < l.length) : (svals l)[i]? = some (.string (bs l[i])) := by simp [svals, h]
theorem svals_one (l : List (List UInt8)) : ∀ u ∈ svals l, u.oneCell' = true := by
  intro u hu; simp only [svals, List.mem_map] at hu; obtain ⟨s, _, rfl⟩ := hu; rfl
theorem wcells_len (l : List (Nat × List UInt8)) : (wcells l).length = l.length * 2 := by
  induction l with
  | nil => rfl
  | cons a l ih =>
    have e : wcells (a :: l) = Value.int .i64 (a.1 : Int) :: Value.string (bs a.2) :: wcells l := rfl
    rw [e, List.length_cons, List.length_cons, ih, List.length_cons]; omega
theorem wcells_one (l : List (Nat × List UInt8)) : ∀ u ∈ wcells l, u.oneCell' = true := by
  induction l with
  | nil => intro u hu; cases hu
  | cons a l ih =>
    have e : wcells (a :: l) = Value.int .i64 (a.1 : Int) :: Value.string (bs a.2) :: wcells l := rfl
    rw [e]; intro u hu
    simp only [List.mem_cons] at hu
    rcases hu with rfl | rfl | hu
    · rfl
    · rfl
    · exact ih u hu
/-- the document's disk stands at r; its rows from lo on. -/
def RAt (w : World) (r lo : Nat) (d : DK) : Prop :=
  ∃ sv wv, Own w r #[sv, wv, .int .i64 d.fuse, .int .i64 d.ops, .bool d.down] 67 ∧
    w.ownsRow lo 9 1 sv d.stand.length (svals d.stand) ∧ w.ownsRow lo 81 2 wv d.waits.length (wcells d.waits) ∧
    lo ≤ w.heap.size ∧ lo ≤ r ∧ 1 ≤ d.stand.length ∧ d.stand.length ≤ 8192 ∧ (Lit.int .i64 d.fuse).wf = true ∧ d.ops ≤ 100000 ∧ d.waits.length ≤ 20000
theorem Own.c5 {w : World} {b : Nat} {x0 x1 x2 x3 x4 : Value} {t : TypeId} (h : Own w b #[x0, x1, x2, x3, x4] t) : w.cell? ⟨b, 0, none⟩ = some x0 ∧ w.cell? ⟨b, 1, none⟩ = some x1 ∧ w.cell? ⟨b, 2, none⟩ = some x2 ∧ w.cell? ⟨b, 3, none⟩ = some x3 ∧ w.cell? ⟨b, 4, none⟩ = some x4 :=
  ⟨h.cell 0 (by simp), h.cell 1 (by simp), h.cell 2 (by simp), h.cell 3 (by simp), h.cell 4 (by simp)⟩
theorem Own.z5 {w : World} {b : Nat} {x0 x1 x2 x3 x4 : Value} {t : TypeId} (h : Own w b #[x0, x1, x2, x3, x4] t) : w.frozen? ⟨b, 0, none⟩ = false ∧ w.frozen? ⟨b, 1, none⟩ = false ∧ w.frozen? ⟨b, 2, none⟩ = false ∧ w.frozen? ⟨b, 3, none⟩ = false ∧ w.frozen? ⟨b, 4, none⟩ = false :=
  ⟨h.free 0, h.free 1, h.free 2, h.free 3, h.free 4⟩
theorem RAt.five {w : World} {r lo : Nat} {d : DK} (h : RAt w r lo d) : ∃ p c p' c', w.cell? ⟨r, 0, none⟩ = some (.slice p d.stand.length c) ∧ w.cell? ⟨r, 1, none⟩ = some (.slice p' d.waits.length c') ∧ w.cell? ⟨r, 2, none⟩ = some (.int .i64 d.fuse) ∧ w.cell? ⟨r, 3, none⟩ = some (.int .i64 d.ops) ∧ w.cell? ⟨r, 4, none⟩ = some (.bool d.down) ∧
    w.ownsRow lo 9 1 (.slice p d.stand.length c) d.stand.length (svals d.stand) ∧ w.ownsRow lo 81 2 (.slice p' d.waits.length c') d.waits.length (wcells d.waits) ∧ 1 ≤ d.stand.length ∧ d.stand.length ≤ 8192 ∧ d.ops ≤ 100000 ∧ d.waits.length ≤ 20000 ∧ lo ≤ w.heap.size := by
  obtain ⟨sv, wv, o, hs, hw, h1, h2, h3, h4, h5, h6, h7⟩ := h
  obtain ⟨p, c, rfl⟩ := own_shape hs
  obtain ⟨p', c', rfl⟩ := own_shape hw
  obtain ⟨c0, c1, c2, c3, c4⟩ := o.c5
  exact ⟨p, c, p', c', c0, c1, c2, c3, c4, hs, hw, h3, h4, h6, h7, h1⟩
theorem RAt.own {w : World} {r lo : Nat} {d : DK} (h : RAt w r lo d) : ∃ v0 v1, Own w r #[v0, v1, .int .i64 d.fuse, .int .i64 d.ops, .bool d.down] 67 := by
  obtain ⟨sv, wv, o, _⟩ := h; exact ⟨sv, wv, o⟩
theorem RAt.drew {w : World} {r lo : Nat} {d : DK} (h : RAt w r lo d) : RAt w.drew r lo d := h
theorem DiskAt.own {w : World} {b sb mb lo : Nat} {d : DK} (h : DiskAt w b sb mb lo d) : ∃ cs, Own w b cs 56 := by obtain ⟨wv, n, o, _⟩ := h; exact ⟨_, o⟩
/-- behind calls of a disk the document's stands as it did. -/
theorem RAt.dkept {w w' : World} {r lo b sb mb dlo : Nat} {d e : DK} (h : RAt w r lo d) (hD : DiskAt w b sb mb dlo e) (k : DKept b sb mb dlo w w') (hs : sb < lo) : RAt w' r lo d := by
  obtain ⟨sv, wv, o, hsr, hwr, h1, h2, r3⟩ := h
  obtain ⟨a1, a2, a3, a4, a5⟩ := k
  obtain ⟨wv2, n, ob, os, hw, hm, hn, g2, g3, g4, g5, g6, g7⟩ := hD
  have obs := ob
  unfold Own at obs
  have key : ∀ g cs t, lo ≤ g → t ≠ 56 → t ≠ 58 → w.heap[g]? = some (.cells cs t (0, 0)) → w'.heap[g]? = w.heap[g]? := by
    intro g cs t hg ht1 ht2 hc
    refine a5 g (lt_of_block hc) ?_ (by omega) ?_ (Or.inr ?_)
    · intro e; subst e
      rw [obs] at hc
      injection hc with hc
      injection hc with _ ht
      exact ht1 ht.symm
    · intro e; subst e
      obtain ⟨D, ⟨es, clock, hh, _⟩, _⟩ := hm
      rw [hh] at hc
      cases hc
    · intro cs2 f hc2
      rw [hc] at hc2
      injection hc2 with hc2
      injection hc2 with _ ht
      exact ht2 ht
  have or' : Own w' r #[sv, wv, .int .i64 d.fuse, .int .i64 d.ops, .bool d.down] 67 := (key r _ _ h2 (by decide) (by decide) o).trans o
  exact ⟨sv, wv, or', ownsRow_same hsr (fun g cs hg hc => key g cs _ hg (by decide) (by decide) hc), ownsRow_same hwr (fun g cs hg hc => key g cs _ hg (by decide) (by decide) hc), Nat.le_trans h1 a4, h2, r3⟩
theorem RAt.kept {S : List Nat} {w w' : World} {r lo : Nat} {d : DK} (h : RAt w r lo d) (k : Kept S w w') (hS : ∀ x ∈ S, x < lo) : RAt w' r lo d := by
  obtain ⟨sv, wv, o, hsr, hwr, h1, h2, r3⟩ := h
  exact ⟨sv, wv, k.own o (fun hx => by have := hS r hx; omega), ownsRow_kept hsr k hS, ownsRow_kept hwr k hS, Nat.le_trans h1 k.size, h2, r3⟩
/-- behind calls of the document's disk the disk stands as it did. -/
theorem DiskAt.rkept {w w' : World} {r lo b sb mb dlo : Nat} {d e : DK} (hD : DiskAt w b sb mb dlo e) (h : RAt w r lo d) (k : Kept [r] w w') : DiskAt w' b sb mb dlo e := by
  obtain ⟨sv, wv, o, hsr, hwr, h1, h2, r3⟩ := h
  obtain ⟨wv2, n, ob, os, hw, hm, hn, g2, g3, g4, g5, g6, g7⟩ := hD
  have o' : w.heap[r]? = some (.cells _ 67 (0, 0)) := o
  have ne : ∀ g cs t, t ≠ 67 → w.heap[g]? = some (.cells cs t (0, 0)) → g ∉ [r] := by
    intro g cs t ht hc hx
    have hx : g = r := by simpa using hx
    subst hx
    rw [o'] at hc
    injection hc with hc
    injection hc with _ e
    exact ht e.symm
  refine ⟨wv2, n, k.own ob (ne b _ _ (by decide) ob), k.own os (ne sb _ _ (by decide) os), ownsRow_keptO hw k o (by decide), hm.kept k ?_, hn, g2, g3, g4, g5, Nat.le_trans g6 k.size, g7⟩
  intro hx
  have hx : mb = r := by simpa using hx
  subst hx
  obtain ⟨D, ⟨es, clock, hh, _⟩, _⟩ := hm
  rw [hh] at o'
  cases o'
end Go.Proofs.Ytkhbobjfmedimaa
