/- What a walk is told of a slice of strings, or of integers, that came in. -/
import Derived.Test.YtmljbmhalpdpmaaMem
import Derived.ProofKit
import Derived.OpenShut
import Derived.SliceStrings
namespace Go.Proofs.Ytmljbmhalpdpmaa
open Go.ChangeShapes Go.WideShapes Go.ChangeAt Go.RowKit

/-- the slice v reads as the strings l. -/
def StrsAt (w : World) (v : Value) (l : List ByteArray) : Prop :=
  (l = [] ∧ ∃ a c, v = .slice a 0 c) ∨
  ∃ b off c, v = .slice (some ⟨b, off, none⟩) l.length c ∧ (∀ i (h : i < l.length), w.cell? ⟨b, off + i, none⟩ = some (.string l[i])) ∧ b < w.heap.size ∧ l ≠ []

/-- the slice v reads as the integers l, of kind k. -/
def IntsAt (k : IntKind) (w : World) (v : Value) (l : List Int) : Prop :=
  (∀ n ∈ l, (Lit.int k n).wf = true) ∧ ((l = [] ∧ ∃ a c, v = .slice a 0 c) ∨
  ∃ b off c, v = .slice (some ⟨b, off, none⟩) l.length c ∧ l.length ≤ c ∧ c ≤ maxLen ∧ (∀ i (h : i < l.length), w.cell? ⟨b, off + i, none⟩ = some (.int k l[i])) ∧ b < w.heap.size ∧ l ≠ [])

section
variable {H : Type} {enc : TypeId × Value → H} {P : Program} {w : World} {base : Nat} {spare : Nat → Bool} {held : Bool} {r : Reach} {b0 : Nat}
theorem open_strs {t e : TypeId} {v : Value} {d : DataW H} {p : List MemPlace} (ht : P.underlying t = some (.slice e)) (he : P.underlying e = some .string) (hc : P.cellsOf e = 1)
    (hv : Value.okWide P w r b0 t v) (h : DataW.Trod enc P w base (fun _ => true) held t v d p) : ∃ l, StrsAt w v l ∧ (∀ s ∈ l, s.size ≤ maxLen) := by
  obtain ⟨a0, len, cap, rfl⟩ := okWide_slice ht hv
  obtain ⟨fuel, hf⟩ := h
  rcases open_strings ht he hc hf with ⟨hcs, _⟩ | ⟨x, l, c, ss, hcs, _, hl, hm, hz, _, hcell, hwz⟩
  · simp [Value.cells] at hcs
    obtain ⟨rfl, rfl, rfl⟩ := hcs
    exact ⟨[], .inl ⟨rfl, _, _, rfl⟩, fun s hs => by cases hs⟩
  · simp [Value.cells] at hcs
    obtain ⟨rfl, rfl, rfl⟩ := hcs
    simp only [if_true] at hz
    refine ⟨ss.take len, ?_, fun s hs => hwz s (List.mem_of_mem_take hs)⟩
    by_cases h0 : len = 0
    · subst h0; exact .inl ⟨by simp, _, _, rfl⟩
    · right
      obtain ⟨b, off, spot⟩ := x
      have hspot : spot = none := by simpa [Addr.add] using World.cell?_spot (hcell 0 (by omega))
      subst hspot
      have hlen : (ss.take len).length = len := by simp; omega
      refine ⟨b, off, cap, by rw [hlen], fun i hi => ?_, ?_, fun h => by rw [h] at hlen; simp at hlen; omega⟩
      · rw [← Go.WideShapes.add_plain, hcell i (by rw [hlen] at hi; omega)]
        rw [List.getElem_take]
        simp [List.getD, List.getElem?_eq_getElem (show i < ss.length by rw [hlen] at hi; omega)]
      · have := hcell 0 (by omega)
        rw [Go.WideShapes.add_plain] at this
        exact World.block_lt_of_cell? _ _ this

theorem open_intl {t e : TypeId} {k : IntKind} {v : Value} {d : DataW H} {p : List MemPlace} (ht : P.underlying t = some (.slice e)) (he : P.underlying e = some (.int k)) (hc : P.cellsOf e = 1)
    (hv : Value.okWide P w r b0 t v) (h : DataW.Trod enc P w base (fun _ => true) held t v d p) : ∃ l, IntsAt k w v l := by
  obtain ⟨a0, len, cap, rfl⟩ := okWide_slice ht hv
  obtain ⟨fuel, hf⟩ := h
  rcases open_ints ht he hc hf with ⟨hcs, _⟩ | ⟨x, l, c, ss, hcs, _, hl, hm, hz, _, hcell, hwz⟩
  · simp [Value.cells] at hcs
    obtain ⟨rfl, rfl, rfl⟩ := hcs
    exact ⟨[], ⟨(fun n hn => by cases hn), Or.inl ⟨rfl, _, _, rfl⟩⟩⟩
  · simp [Value.cells] at hcs
    obtain ⟨rfl, rfl, rfl⟩ := hcs
    simp only [if_true] at hz
    refine ⟨ss.take len, ⟨(fun s hs => hwz s (List.mem_of_mem_take hs)), ?_⟩⟩
    by_cases h0 : len = 0
    · subst h0; exact .inl ⟨by simp, _, _, rfl⟩
    · right
      obtain ⟨b, off, spot⟩ := x
      have hspot : spot = none := by simpa [Addr.add] using World.cell?_spot (hcell 0 (by omega))
      subst hspot
      have hlen : (ss.take len).length = len := by simp; omega
      refine ⟨b, off, cap, by rw [hlen], by rw [hlen]; exact hl, hm, fun i hi => ?_, ?_, fun h => by rw [h] at hlen; simp at hlen; omega⟩
      · rw [← Go.WideShapes.add_plain, hcell i (by rw [hlen] at hi; omega)]
        rw [List.getElem_take]
        simp [List.getD, List.getElem?_eq_getElem (show i < ss.length by rw [hlen] at hi; omega)]
      · have := hcell 0 (by omega)
        rw [Go.WideShapes.add_plain] at this
        exact World.block_lt_of_cell? _ _ this
end
end Go.Proofs.Ytmljbmhalpdpmaa
