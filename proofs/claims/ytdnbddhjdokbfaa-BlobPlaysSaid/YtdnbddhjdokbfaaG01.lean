/- A block of the call's own, known whole: what its cells hold, that they may be written, what it is behind a store. -/
import Derived.WalkKit
import Derived.WalkSpells
import Derived.WalkLawsBesides
import Derived.Lib.Hide
import Derived.ProofKit
import Derived.OpenShut
import Derived.SliceStrings
namespace Go.Proofs.Ytdnbddhjdokbfaa
open Go.RowKit

/-- stores that the walk's own set lacks: floats and complex numbers. -/
@[go_sem] theorem run_store_float (P : Program) (w : World) (a : Addr) (m : Mode) (k : FloatKind) (b : Nat) : (store a (.float k b) m).run P w = stored P w a (.float k b) m := run_store P w a _ m rfl
@[go_sem] theorem run_store_complex (P : Program) (w : World) (a : Addr) (m : Mode) (k : FloatKind) (b c : Nat) : (store a (.complex k b c) m).run P w = stored P w a (.complex k b c) m := run_store P w a _ m rfl

/-- block b holds just these cells, none of them frozen. -/
def Own (w : World) (b : Nat) (cs : Array Value) (t : TypeId) : Prop := w.heap[b]? = some (.cells cs t (0, 0))
theorem Own.lt {w : World} {b : Nat} {cs : Array Value} {t : TypeId} (h : Own w b cs t) : b < w.heap.size := lt_of_block h
theorem Own.cell {w : World} {b : Nat} {cs : Array Value} {t : TypeId} (h : Own w b cs t) (j : Nat) (hj : j < cs.size) : w.cell? ⟨b, j, none⟩ = some cs[j] := by
  have h' : w.heap[b]? = some (.cells cs t (0, 0)) := h
  simp [World.cell?, h', hj]
theorem Own.free {w : World} {b : Nat} {cs : Array Value} {t : TypeId} (h : Own w b cs t) (j : Nat) : w.frozen? ⟨b, j, none⟩ = false := by
  have h' : w.heap[b]? = some (.cells cs t (0, 0)) := h
  simp [World.frozen?, h']
theorem Own.set {w : World} {b : Nat} {cs : Array Value} {t : TypeId} (h : Own w b cs t) (j : Nat) (u : Value) : Own (w.setCell ⟨b, j, none⟩ u) b (cs.setIfInBounds j u) t :=
  heap_setCell_same w b j cs t u h
theorem Own.other {w : World} {b : Nat} {cs : Array Value} {t : TypeId} (h : Own w b cs t) {p : Addr} (hp : b ≠ p.block) (u : Value) : Own (w.setCell p u) b cs t :=
  (Below.heap_setCell w p u b hp).trans h
theorem Own.drew {w : World} {b : Nat} {cs : Array Value} {t : TypeId} (h : Own w b cs t) : Own w.drew b cs t := h
theorem Own.drewN {w : World} {b : Nat} {cs : Array Value} {t : TypeId} (h : Own w b cs t) (n : Nat) : Own (w.drewN n) b cs t := h
theorem Own.alloc {w : World} {b : Nat} {cs : Array Value} {t : TypeId} (h : Own w b cs t) (o : Obj) : Own (w.alloc o) b cs t :=
  (Below.heap_alloc w o b h.lt).trans h
theorem Own.new (w : World) (cs : Array Value) (t : TypeId) : Own (w.alloc (.cells cs t)) w.heap.size cs t := heap_alloc_new w _
theorem Own.below {B : Nat} {w w' : World} {b : Nat} {cs : Array Value} {t : TypeId} (h : Own w b cs t) (hb : Below B w w') (hlt : b < B) : Own w' b cs t :=
  (hb.block b hlt).trans h
/-- two, three, four new blocks. -/
theorem own_two (w : World) (A B : Array Value) (s t : TypeId) : Own ((w.alloc (.cells A s)).alloc (.cells B t)) w.heap.size A s ∧ Own ((w.alloc (.cells A s)).alloc (.cells B t)) (w.heap.size + 1) B t := by
  refine ⟨(Own.new _ _ _).alloc _, ?_⟩
  have := Own.new (w.alloc (.cells A s)) B t
  simpa only [World.size_alloc] using this
theorem own_three (w : World) (A B C : Array Value) (s t u : TypeId) : Own (((w.alloc (.cells A s)).alloc (.cells B t)).alloc (.cells C u)) w.heap.size A s ∧ Own (((w.alloc (.cells A s)).alloc (.cells B t)).alloc (.cells C u)) (w.heap.size + 1) B t ∧ Own (((w.alloc (.cells A s)).alloc (.cells B t)).alloc (.cells C u)) (w.heap.size + 2) C u := by
  obtain ⟨a, b⟩ := own_two w A B s t
  refine ⟨a.alloc _, b.alloc _, ?_⟩
  have := Own.new ((w.alloc (.cells A s)).alloc (.cells B t)) C u
  simpa only [World.size_alloc] using this
/-- what was there stands behind a call that leaves all as it was. -/
theorem Own.past {w w' : World} {b : Nat} {cs : Array Value} {t : TypeId} (h : Own w b cs t) (hb : Below w.heap.size w w') : Own w' b cs t := h.below hb h.lt
/-- 'Below' over one call more. -/
theorem Below.call {B : Nat} {a w w' : World} (h : Below B a w) (hb : Below w.heap.size w w') (hB : B ≤ w.heap.size) : Below B a w' := h.trans (hb.mono hB)
/-- a float's cell, opened. -/
theorem float_of_trod {H : Type} {enc : TypeId × Value → H} {P : Program} {w : World} {base : Nat} {spare : Nat → Bool} {held : Bool} {fuel : Nat} {t : TypeId} {k : FloatKind} {c : Value} {y : DataW H × List MemPlace}
    (ht : P.underlying t = some (.float k)) (h : DataW.trod enc P w base spare held fuel t [c] = some y) : ∃ b, c = .float k b ∧ (Lit.float k b).wf = true := by
  cases fuel with
  | zero => simp [DataW.trod] at h
  | succ n =>
    simp only [DataW.trod, ht] at h
    cases c <;> simp at h
    rename_i k' b
    obtain ⟨⟨rfl, hw⟩, _⟩ := h
    exact ⟨b, rfl, hw⟩
end Go.Proofs.Ytdnbddhjdokbfaa

/- What a call leaves as it was: all blocks that were there, but those of a list. -/
namespace Go.Proofs.Ytdnbddhjdokbfaa
open Go.RowKit

/-- all blocks of w but those of S are in w' as they were; the streams too; no block has gone. -/
structure Kept (S : List Nat) (w w' : World) : Prop where
  os : w'.os = w.os
  tape : w'.tape = w.tape
  output : w'.output = w.output
  size : w.heap.size ≤ w'.heap.size
  block : ∀ k, k < w.heap.size → k ∉ S → w'.heap[k]? = w.heap[k]?

theorem Kept.refl (S : List Nat) (w : World) : Kept S w w := ⟨rfl, rfl, rfl, Nat.le_refl _, fun _ _ _ => rfl⟩
theorem Kept.trans {S : List Nat} {a b c : World} (h : Kept S a b) (k : Kept S b c) : Kept S a c :=
  ⟨k.os.trans h.os, k.tape.trans h.tape, k.output.trans h.output, Nat.le_trans h.size k.size, fun i hi hS => (k.block i (Nat.lt_of_lt_of_le hi h.size) hS).trans (h.block i hi hS)⟩
theorem Kept.mono {S T : List Nat} {a b : World} (h : Kept S a b) (hST : ∀ x ∈ S, x ∈ T) : Kept T a b :=
  ⟨h.os, h.tape, h.output, h.size, fun k hk hT => h.block k hk (fun hS => hT (hST k hS))⟩
theorem Kept.drew {S : List Nat} {a w : World} (h : Kept S a w) : Kept S a w.drew := ⟨h.os, h.tape, h.output, h.size, h.block⟩
theorem Kept.drewN {S : List Nat} {a w : World} (h : Kept S a w) (n : Nat) : Kept S a (w.drewN n) := ⟨h.os, h.tape, h.output, h.size, h.block⟩
theorem Kept.alloc {S : List Nat} {a w : World} (h : Kept S a w) (o : Obj) : Kept S a (w.alloc o) :=
  h.trans ⟨rfl, rfl, rfl, by simp, fun k hk _ => Below.heap_alloc _ _ _ hk⟩
/-- a store into a block of S, or into one that was not there. -/
theorem Kept.setCell {S : List Nat} {a w : World} (h : Kept S a w) {p : Addr} (hp : p.block ∈ S ∨ a.heap.size ≤ p.block) (u : Value) : Kept S a (w.setCell p u) :=
  ⟨h.os, h.tape, h.output, by simpa [World.setCell] using h.size, fun k hk hS => (Below.heap_setCell w p u k (fun e => by
    rcases hp with hp | hp
    · exact hS (e ▸ hp)
    · omega)).trans (h.block k hk hS)⟩
/-- a call that turned blocks of T alone, each of S or not there at the beginning. -/
theorem Kept.call {S T : List Nat} {a w w' : World} (h : Kept S a w) (k : Kept T w w') (hT : ∀ x ∈ T, x ∈ S ∨ a.heap.size ≤ x) : Kept S a w' :=
  ⟨k.os.trans h.os, k.tape.trans h.tape, k.output.trans h.output, Nat.le_trans h.size k.size, fun i hi hS => (k.block i (Nat.lt_of_lt_of_le hi h.size) (fun hiT => by
    rcases hT i hiT with h1 | h1
    · exact hS h1
    · omega)).trans (h.block i hi hS)⟩
theorem Kept.of_below {w w' : World} (h : Below w.heap.size w w') : Kept [] w w' := ⟨h.os, h.tape, h.output, h.size, fun k hk _ => h.block k hk⟩
theorem Kept.below {w w' : World} (h : Kept [] w w') : Below w.heap.size w w' := ⟨h.os, h.tape, h.output, h.size, fun k hk => h.block k hk (by simp)⟩
theorem Kept.belowB {S : List Nat} {B : Nat} {w w' : World} (h : Kept S w w') (hB : B ≤ w.heap.size) (hS : ∀ x ∈ S, B ≤ x) : Below B w w' :=
  ⟨h.os, h.tape, h.output, h.size, fun k hk => h.block k (by omega) (fun hx => by have := hS k hx; omega)⟩
theorem Kept.own {S : List Nat} {w w' : World} {b : Nat} {cs : Array Value} {t : TypeId} (h : Kept S w w') (o : Own w b cs t) (hb : b ∉ S) : Own w' b cs t :=
  (h.block b o.lt hb).trans o
theorem Kept.cell {S : List Nat} {w w' : World} (h : Kept S w w') {a : Addr} (ha : a.block < w.heap.size) (hb : a.block ∉ S) : w'.cell? a = w.cell? a :=
  World.cell?_of_block (w := w) (h.block a.block ha hb)
theorem Kept.frozen {S : List Nat} {w w' : World} (h : Kept S w w') {a : Addr} (ha : a.block < w.heap.size) (hb : a.block ∉ S) : w'.frozen? a = w.frozen? a :=
  World.frozen?_of_block (w := w) (h.block a.block ha hb)
/-- behind an append or a make by the kit's laws. -/
theorem Kept.grown {S : List Nat} {a w w' : World} {row : Option Nat} (h : Kept S a w) (hg : w.grownBy w' row) (hr : ∀ k, row = some k → k ∈ S ∨ a.heap.size ≤ k) : Kept S a w' :=
  ⟨hg.os.trans h.os, hg.tape.trans h.tape, hg.output.trans h.output, Nat.le_trans h.size hg.size, fun k hk hS => (hg.block k (Nat.lt_of_lt_of_le hk h.size) (fun e => by
    rcases hr k e.symm with h1 | h1
    · exact hS h1
    · omega)).trans (h.block k hk hS)⟩

/-! ### texts as lists of bytes -/
/-- the text of a list of bytes. -/
def bs (l : List UInt8) : ByteArray := ⟨l.toArray⟩
theorem bs_data (l : List UInt8) : (bs l).data.toList = l := rfl
theorem bs_size (l : List UInt8) : (bs l).size = l.length := by show l.toArray.size = _; simp
theorem bs_of (s : ByteArray) : bs s.data.toList = s := by apply ByteArray.ext; rfl
theorem bs_append (a b : List UInt8) : bs a ++ bs b = bs (a ++ b) := by
  apply ByteArray.ext; simp [bs, ByteArray.data_append]
theorem bs_extract (l : List UInt8) (a b : Nat) : (bs l).extract a b = bs ((l.drop a).take (b - a)) := by
  apply ByteArray.ext
  apply Array.toList_inj.1
  simp [bs]
theorem bs_inj {a b : List UInt8} (h : bs a = bs b) : a = b := by
  have := congrArg (fun s : ByteArray => s.data.toList) h
  exact this
theorem bs_toList (l : List UInt8) : (bs l).toList = l := by rw [ByteArray.toList_eq]; rfl
theorem bs_beq (a b : List UInt8) : (bs a == bs b) = (a == b) := by rw [beq_toListBytes, bs_toList, bs_toList]
theorem bs_nil : bs [] = { data := #[] } := rfl
end Go.Proofs.Ytdnbddhjdokbfaa

/- What a walk is told of a slice of strings, or of integers, that came in. -/
namespace Go.Proofs.Ytdnbddhjdokbfaa
open Go.ChangeShapes Go.WideShapes Go.ChangeAt Go.RowKit

/-- the slice v reads as the strings l. -/
def StrsAt (w : World) (v : Value) (l : List ByteArray) : Prop :=
  (l = [] ∧ ∃ a c, v = .slice a 0 c) ∨
  ∃ b off c, v = .slice (some ⟨b, off, none⟩) l.length c ∧ (∀ i (h : i < l.length), w.cell? ⟨b, off + i, none⟩ = some (.string l[i])) ∧ b < w.heap.size ∧ l ≠ []

/-- the slice v reads as the integers l, of kind k. -/
def IntsAt (k : IntKind) (w : World) (v : Value) (l : List Int) : Prop :=
  (∀ n ∈ l, (Lit.int k n).wf = true) ∧ ((l = [] ∧ ∃ a c, v = .slice a 0 c) ∨
  ∃ b off c, v = .slice (some ⟨b, off, none⟩) l.length c ∧ l.length ≤ c ∧ c ≤ maxLen ∧ (∀ i (h : i < l.length), w.cell? ⟨b, off + i, none⟩ = some (.int k l[i])) ∧ b < w.heap.size ∧ l ≠ [])

section
variable {H : Type} {enc : TypeId × Value → H} {P : Program} {w : World} {base : Nat} {spare : Nat → Bool} {held : Bool} {r : Reach} {b0 : Nat}
theorem open_strs {t e : TypeId} {v : Value} {d : DataW H} {p : List MemPlace} (ht : P.underlying t = some (.slice e)) (he : P.underlying e = some .string) (hc : P.cellsOf e = 1)
    (hv : Value.okWide P w r b0 t v) (h : DataW.Trod enc P w base (fun _ => true) held t v d p) : ∃ l, StrsAt w v l ∧ (∀ s ∈ l, s.size ≤ maxLen) := by
  obtain ⟨a0, len, cap, rfl⟩ := okWide_slice ht hv
  obtain ⟨fuel, hf⟩ := h
  rcases open_strings ht he hc hf with ⟨hcs, _⟩ | ⟨x, l, c, ss, hcs, _, hl, hm, hz, _, hcell, hwz⟩
  · simp [Value.cells] at hcs
    obtain ⟨rfl, rfl, rfl⟩ := hcs
    exact ⟨[], .inl ⟨rfl, _, _, rfl⟩, fun s hs => by cases hs⟩
  · simp [Value.cells] at hcs
    obtain ⟨rfl, rfl, rfl⟩ := hcs
    simp only [if_true] at hz
    refine ⟨ss.take len, ?_, fun s hs => hwz s (List.mem_of_mem_take hs)⟩
    by_cases h0 : len = 0
    · subst h0; exact .inl ⟨by simp, _, _, rfl⟩
    · right
      obtain ⟨b, off, spot⟩ := x
      have hspot : spot = none := by simpa [Addr.add] using World.cell?_spot (hcell 0 (by omega))
      subst hspot
      have hlen : (ss.take len).length = len := by simp; omega
      refine ⟨b, off, cap, by rw [hlen], fun i hi => ?_, ?_, fun h => by rw [h] at hlen; simp at hlen; omega⟩
      · rw [← Go.WideShapes.add_plain, hcell i (by rw [hlen] at hi; omega)]
        rw [List.getElem_take]
        simp [List.getD, List.getElem?_eq_getElem (show i < ss.length by rw [hlen] at hi; omega)]
      · have := hcell 0 (by omega)
        rw [Go.WideShapes.add_plain] at this
        exact World.block_lt_of_cell? _ _ this

theorem open_intl {t e : TypeId} {k : IntKind} {v : Value} {d : DataW H} {p : List MemPlace} (ht : P.underlying t = some (.slice e)) (he : P.underlying e = some (.int k)) (hc : P.cellsOf e = 1)
    (hv : Value.okWide P w r b0 t v) (h : DataW.Trod enc P w base (fun _ => true) held t v d p) : ∃ l, IntsAt k w v l := by
  obtain ⟨a0, len, cap, rfl⟩ := okWide_slice ht hv
  obtain ⟨fuel, hf⟩ := h
  rcases open_ints ht he hc hf with ⟨hcs, _⟩ | ⟨x, l, c, ss, hcs, _, hl, hm, hz, _, hcell, hwz⟩
  · simp [Value.cells] at hcs
    obtain ⟨rfl, rfl, rfl⟩ := hcs
    exact ⟨[], ⟨(fun n hn => by cases hn), Or.inl ⟨rfl, _, _, rfl⟩⟩⟩
  · simp [Value.cells] at hcs
    obtain ⟨rfl, rfl, rfl⟩ := hcs
    simp only [if_true] at hz
    refine ⟨ss.take len, ⟨(fun s hs => hwz s (List.mem_of_mem_take hs)), ?_⟩⟩
    by_cases h0 : len = 0
    · subst h0; exact .inl ⟨by simp, _, _, rfl⟩
    · right
      obtain ⟨b, off, spot⟩ := x
      have hspot : spot = none := by simpa [Addr.add] using World.cell?_spot (hcell 0 (by omega))
      subst hspot
      have hlen : (ss.take len).length = len := by simp; omega
      refine ⟨b, off, cap, by rw [hlen], by rw [hlen]; exact hl, hm, fun i hi => ?_, ?_, fun h => by rw [h] at hlen; simp at hlen; omega⟩
      · rw [← Go.WideShapes.add_plain, hcell i (by rw [hlen] at hi; omega)]
        rw [List.getElem_take]
        simp [List.getD, List.getElem?_eq_getElem (show i < ss.length by rw [hlen] at hi; omega)]
      · have := hcell 0 (by omega)
        rw [Go.WideShapes.add_plain] at this
        exact World.block_lt_of_cell? _ _ this
end
end Go.Proofs.Ytdnbddhjdokbfaa

/- A slice of strings whose block lies between two numbers: what it reads as, and that calls that turn other blocks leave it. -/
namespace Go.Proofs.Ytdnbddhjdokbfaa
open Go.RowKit

/-- the slice v reads as the strings l; its block is from lo on, below hi. -/
def StrsIn (w : World) (v : Value) (l : List ByteArray) (lo hi : Nat) : Prop :=
  (l = [] ∧ ∃ a c, v = .slice a 0 c) ∨
  ∃ b off c, v = .slice (some ⟨b, off, none⟩) l.length c ∧ (∀ i (h : i < l.length), w.cell? ⟨b, off + i, none⟩ = some (.string l[i])) ∧ lo ≤ b ∧ b < hi ∧ hi ≤ w.heap.size ∧ l ≠ []

theorem StrsIn.of {w : World} {v : Value} {l : List ByteArray} (h : StrsAt w v l) : StrsIn w v l 0 w.heap.size := by
  rcases h with h | ⟨b, off, c, h1, h2, h3, h4⟩
  · exact Or.inl h
  · exact Or.inr ⟨b, off, c, h1, h2, Nat.zero_le _, h3, Nat.le_refl _, h4⟩
theorem StrsIn.kept {S : List Nat} {w w' : World} {v : Value} {l : List ByteArray} {lo hi : Nat} (h : StrsIn w v l lo hi) (k : Kept S w w') (hS : ∀ x ∈ S, x < lo ∨ hi ≤ x) : StrsIn w' v l lo hi := by
  rcases h with h | ⟨b, off, c, h1, h2, h3, h4, h5, h6⟩
  · exact Or.inl h
  · refine Or.inr ⟨b, off, c, h1, fun i hi => ?_, h3, h4, Nat.le_trans h5 k.size, h6⟩
    rw [k.cell (by show b < _; omega) (fun hb => by have := hS b hb; omega)]
    exact h2 i hi
theorem StrsIn.weaken {w : World} {v : Value} {l : List ByteArray} {lo hi lo' hi' : Nat} (h : StrsIn w v l lo hi) (h1 : lo' ≤ lo) (h2 : hi ≤ hi') (h3 : hi' ≤ w.heap.size) : StrsIn w v l lo' hi' := by
  rcases h with h | ⟨b, off, c, e1, e2, e3, e4, e5, e6⟩
  · exact Or.inl h
  · exact Or.inr ⟨b, off, c, e1, e2, by omega, by omega, h3, e6⟩
theorem ownsRow_kept {S : List Nat} {w w' : World} {base : Nat} {e : TypeId} {size : Nat} {v : Value} {n : Nat} {xs : List Value} (h : w.ownsRow base e size v n xs) (k : Kept S w w') (hS : ∀ x ∈ S, x < base) : w'.ownsRow base e size v n xs := by
  obtain ⟨h1, h2⟩ := h
  refine ⟨h1, ?_⟩
  rcases h2 with h2 | ⟨g, cap, cur, hv, hg, hh, r⟩
  · exact Or.inl h2
  · exact Or.inr ⟨g, cap, cur, hv, hg, (k.block g (lt_of_block hh) (fun hx => by have := hS g hx; omega)).trans hh, r⟩
theorem own_shape {w : World} {base : Nat} {e : TypeId} {size : Nat} {v : Value} {n : Nat} {xs : List Value} (h : w.ownsRow base e size v n xs) : ∃ p cap, v = .slice p n cap := by
  obtain ⟨_, ⟨rfl, rfl⟩ | ⟨g, cap, cur, rfl, _⟩⟩ := h
  · exact ⟨_, _, rfl⟩
  · exact ⟨_, _, rfl⟩
/-- texts as values. -/
def strs (l : List (List UInt8)) : List Value := (l.map bs).map Value.string
theorem strs_snoc (l : List (List UInt8)) (x : List UInt8) : strs l ++ [Value.string (bs x)] = strs (l ++ [x]) := by simp [strs]
/-- of a row that the call owns. -/
theorem StrsIn.of_own {w : World} {base : Nat} {e : TypeId} {v : Value} {n : Nat} {l : List ByteArray} (h : w.ownsRow base e 1 v n (l.map Value.string)) : StrsIn w v l base w.heap.size := by
  obtain ⟨hlen, h⟩ := h
  have hn : l.length = n := by simpa using hlen
  rcases h with ⟨rfl, rfl⟩ | ⟨g, cap, cur, rfl, hb, hg, hnc, hcm, hcs, htake⟩
  · exact Or.inl ⟨List.eq_nil_of_length_eq_zero hn, _, _, rfl⟩
  · by_cases h0 : n = 0
    · subst h0
      exact Or.inl ⟨List.eq_nil_of_length_eq_zero hn, _, _, rfl⟩
    · refine Or.inr ⟨g, 0, cap, by rw [hn], fun i hi => ?_, hb, lt_of_block hg, Nat.le_refl _, fun h => by rw [h] at hn; simp at hn; omega⟩
      have hi' : i < cur.toList.length := by rw [Array.length_toList, hcs]; omega
      have hc : cur.toList[i]? = some (.string l[i]) := by
        have := congrArg (fun x => x[i]?) htake
        simp only [Nat.mul_one] at this
        rw [List.getElem?_take_of_lt (by omega)] at this
        rw [this]
        simp [hi]
      rw [Nat.zero_add, cell_of_row w g i cur e (0, 0) hg]
      rw [← hc]; simp
end Go.Proofs.Ytdnbddhjdokbfaa
