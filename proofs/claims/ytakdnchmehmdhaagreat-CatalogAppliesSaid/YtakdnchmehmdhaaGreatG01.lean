/- A block of the call's own, known whole: what its cells hold, that they may be written, what it is behind a store. -/
import Derived.Test.YtakdnchmehmdhaaGreatRows
import Derived.WalkKit
import Derived.WalkSpells
import Derived.WalkLawsBesides
import Derived.Lib.Hide
import Derived.ProofKit
import Derived.OpenShut
import Derived.SliceStrings
import Derived.Deep.LoopGhost
import Derived.Laws.Rows
import Derived.Laws.ResultCell
import Derived.Lib.ConvBytes
import Derived.Lib.SlBytesRow
namespace Go.Proofs.YtakdnchmehmdhaaGreat
open Go.RowKit

@[go_sem] theorem run_store_complex (P : Program) (w : World) (a : Addr) (m : Mode) (k : FloatKind) (b c : Nat) : (store a (.complex k b c) m).run P w = stored P w a (.complex k b c) m := run_store P w a _ m rfl

/-- block b holds just these cells, none of them frozen. -/
def Own (w : World) (b : Nat) (cs : Array Value) (t : TypeId) : Prop := w.heap[b]? = some (.cells cs t (0, 0))
theorem Own.lt {w : World} {b : Nat} {cs : Array Value} {t : TypeId} (h : Own w b cs t) : b < w.heap.size := lt_of_block h
theorem Own.cell {w : World} {b : Nat} {cs : Array Value} {t : TypeId} (h : Own w b cs t) (j : Nat) (hj : j < cs.size) : w.cell? ⟨b, j, none⟩ = some cs[j] := by
  have h' : w.heap[b]? = some (.cells cs t (0, 0)) := h
  simp [World.cell?, h', hj]
theorem Own.free {w : World} {b : Nat} {cs : Array Value} {t : TypeId} (h : Own w b cs t) (j : Nat) : w.frozen? ⟨b, j, none⟩ = false := by
  have h' : w.heap[b]? = some (.cells cs t (0, 0)) := h
  simp [World.frozen?, h']
theorem Own.set {w : World} {b : Nat} {cs : Array Value} {t : TypeId} (h : Own w b cs t) (j : Nat) (u : Value) : Own (w.setCell ⟨b, j, none⟩ u) b (cs.setIfInBounds j u) t :=
  heap_setCell_same w b j cs t u h
theorem Own.other {w : World} {b : Nat} {cs : Array Value} {t : TypeId} (h : Own w b cs t) {p : Addr} (hp : b ≠ p.block) (u : Value) : Own (w.setCell p u) b cs t :=
  (Below.heap_setCell w p u b hp).trans h
theorem Own.drew {w : World} {b : Nat} {cs : Array Value} {t : TypeId} (h : Own w b cs t) : Own w.drew b cs t := h
theorem Own.drewN {w : World} {b : Nat} {cs : Array Value} {t : TypeId} (h : Own w b cs t) (n : Nat) : Own (w.drewN n) b cs t := h
theorem Own.alloc {w : World} {b : Nat} {cs : Array Value} {t : TypeId} (h : Own w b cs t) (o : Obj) : Own (w.alloc o) b cs t :=
  (Below.heap_alloc w o b h.lt).trans h
theorem Own.new (w : World) (cs : Array Value) (t : TypeId) : Own (w.alloc (.cells cs t)) w.heap.size cs t := heap_alloc_new w _
theorem Own.below {B : Nat} {w w' : World} {b : Nat} {cs : Array Value} {t : TypeId} (h : Own w b cs t) (hb : Below B w w') (hlt : b < B) : Own w' b cs t :=
  (hb.block b hlt).trans h
/-- two, three, four new blocks. -/
theorem own_two (w : World) (A B : Array Value) (s t : TypeId) : Own ((w.alloc (.cells A s)).alloc (.cells B t)) w.heap.size A s ∧ Own ((w.alloc (.cells A s)).alloc (.cells B t)) (w.heap.size + 1) B t := by
  refine ⟨(Own.new _ _ _).alloc _, ?_⟩
  have := Own.new (w.alloc (.cells A s)) B t
  simpa only [World.size_alloc] using this
theorem own_three (w : World) (A B C : Array Value) (s t u : TypeId) : Own (((w.alloc (.cells A s)).alloc (.cells B t)).alloc (.cells C u)) w.heap.size A s ∧ Own (((w.alloc (.cells A s)).alloc (.cells B t)).alloc (.cells C u)) (w.heap.size + 1) B t ∧ Own (((w.alloc (.cells A s)).alloc (.cells B t)).alloc (.cells C u)) (w.heap.size + 2) C u := by
  obtain ⟨a, b⟩ := own_two w A B s t
  refine ⟨a.alloc _, b.alloc _, ?_⟩
  have := Own.new ((w.alloc (.cells A s)).alloc (.cells B t)) C u
  simpa only [World.size_alloc] using this
/-- 'Below' over one call more. -/
theorem Below.call {B : Nat} {a w w' : World} (h : Below B a w) (hb : Below w.heap.size w w') (hB : B ≤ w.heap.size) : Below B a w' := h.trans (hb.mono hB)
/-- all blocks of w but those of S are in w' as they were; the streams too; no block has gone. -/
structure Kept (S : List Nat) (w w' : World) : Prop where
  os : w'.os = w.os
  tape : w'.tape = w.tape
  output : w'.output = w.output
  size : w.heap.size ≤ w'.heap.size
  block : ∀ k, k < w.heap.size → k ∉ S → w'.heap[k]? = w.heap[k]?
theorem Kept.refl (S : List Nat) (w : World) : Kept S w w := ⟨rfl, rfl, rfl, Nat.le_refl _, fun _ _ _ => rfl⟩
theorem Kept.trans {S : List Nat} {a b c : World} (h : Kept S a b) (k : Kept S b c) : Kept S a c :=
  ⟨k.os.trans h.os, k.tape.trans h.tape, k.output.trans h.output, Nat.le_trans h.size k.size, fun i hi hS => (k.block i (Nat.lt_of_lt_of_le hi h.size) hS).trans (h.block i hi hS)⟩
theorem Kept.mono {S T : List Nat} {a b : World} (h : Kept S a b) (hST : ∀ x ∈ S, x ∈ T) : Kept T a b :=
  ⟨h.os, h.tape, h.output, h.size, fun k hk hT => h.block k hk (fun hS => hT (hST k hS))⟩
theorem Kept.drew {S : List Nat} {a w : World} (h : Kept S a w) : Kept S a w.drew := ⟨h.os, h.tape, h.output, h.size, h.block⟩
theorem Kept.drewN {S : List Nat} {a w : World} (h : Kept S a w) (n : Nat) : Kept S a (w.drewN n) := ⟨h.os, h.tape, h.output, h.size, h.block⟩
theorem Kept.alloc {S : List Nat} {a w : World} (h : Kept S a w) (o : Obj) : Kept S a (w.alloc o) :=
  h.trans ⟨rfl, rfl, rfl, by simp, fun k hk _ => Below.heap_alloc _ _ _ hk⟩
/-- a store into a block of S, or into one that was not there. -/
theorem Kept.setCell {S : List Nat} {a w : World} (h : Kept S a w) {p : Addr} (hp : p.block ∈ S ∨ a.heap.size ≤ p.block) (u : Value) : Kept S a (w.setCell p u) :=
  ⟨h.os, h.tape, h.output, by simpa [World.setCell] using h.size, fun k hk hS => (Below.heap_setCell w p u k (fun e => by
    rcases hp with hp | hp
    · exact hS (e ▸ hp)
    · omega)).trans (h.block k hk hS)⟩
/-- a call that turned blocks of T alone, each of S or not there at the beginning. -/
theorem Kept.call {S T : List Nat} {a w w' : World} (h : Kept S a w) (k : Kept T w w') (hT : ∀ x ∈ T, x ∈ S ∨ a.heap.size ≤ x) : Kept S a w' :=
  ⟨k.os.trans h.os, k.tape.trans h.tape, k.output.trans h.output, Nat.le_trans h.size k.size, fun i hi hS => (k.block i (Nat.lt_of_lt_of_le hi h.size) (fun hiT => by
    rcases hT i hiT with h1 | h1
    · exact hS h1
    · omega)).trans (h.block i hi hS)⟩
theorem Kept.below {w w' : World} (h : Kept [] w w') : Below w.heap.size w w' := ⟨h.os, h.tape, h.output, h.size, fun k hk => h.block k hk (by simp)⟩
theorem Kept.own {S : List Nat} {w w' : World} {b : Nat} {cs : Array Value} {t : TypeId} (h : Kept S w w') (o : Own w b cs t) (hb : b ∉ S) : Own w' b cs t :=
  (h.block b o.lt hb).trans o
theorem Kept.cell {S : List Nat} {w w' : World} (h : Kept S w w') {a : Addr} (ha : a.block < w.heap.size) (hb : a.block ∉ S) : w'.cell? a = w.cell? a :=
  World.cell?_of_block (w := w) (h.block a.block ha hb)
/-- behind an append or a make by the kit's laws. -/
theorem Kept.grown {S : List Nat} {a w w' : World} {row : Option Nat} (h : Kept S a w) (hg : w.grownBy w' row) (hr : ∀ k, row = some k → k ∈ S ∨ a.heap.size ≤ k) : Kept S a w' :=
  ⟨hg.os.trans h.os, hg.tape.trans h.tape, hg.output.trans h.output, Nat.le_trans h.size hg.size, fun k hk hS => (hg.block k (Nat.lt_of_lt_of_le hk h.size) (fun e => by
    rcases hr k e.symm with h1 | h1
    · exact hS h1
    · omega)).trans (h.block k hk hS)⟩
/-! ### texts as lists of bytes -/
/-- the text of a list of bytes. -/
def bs (l : List UInt8) : ByteArray := ⟨l.toArray⟩
theorem bs_data (l : List UInt8) : (bs l).data.toList = l := rfl
theorem bs_size (l : List UInt8) : (bs l).size = l.length := by show l.toArray.size = _; simp
theorem bs_of (s : ByteArray) : bs s.data.toList = s := by apply ByteArray.ext; rfl
theorem bs_append (a b : List UInt8) : bs a ++ bs b = bs (a ++ b) := by
  apply ByteArray.ext; simp [bs, ByteArray.data_append]
theorem bs_extract (l : List UInt8) (a b : Nat) : (bs l).extract a b = bs ((l.drop a).take (b - a)) := by
  apply ByteArray.ext
  apply Array.toList_inj.1
  simp [bs]
theorem bs_toList (l : List UInt8) : (bs l).toList = l := by rw [ByteArray.toList_eq]; rfl
theorem bs_beq (a b : List UInt8) : (bs a == bs b) = (a == b) := by rw [beq_toListBytes, bs_toList, bs_toList]
/-- the slice v reads as the strings l; its block is from lo on, below hi. -/
def StrsIn (w : World) (v : Value) (l : List ByteArray) (lo hi : Nat) : Prop :=
  (l = [] ∧ ∃ a c, v = .slice a 0 c) ∨
  ∃ b off c, v = .slice (some ⟨b, off, none⟩) l.length c ∧ (∀ i (h : i < l.length), w.cell? ⟨b, off + i, none⟩ = some (.string l[i])) ∧ lo ≤ b ∧ b < hi ∧ hi ≤ w.heap.size ∧ l ≠ []
theorem StrsIn.kept {S : List Nat} {w w' : World} {v : Value} {l : List ByteArray} {lo hi : Nat} (h : StrsIn w v l lo hi) (k : Kept S w w') (hS : ∀ x ∈ S, x < lo ∨ hi ≤ x) : StrsIn w' v l lo hi := by
  rcases h with h | ⟨b, off, c, h1, h2, h3, h4, h5, h6⟩
  · exact Or.inl h
  · refine Or.inr ⟨b, off, c, h1, fun i hi => ?_, h3, h4, Nat.le_trans h5 k.size, h6⟩
    rw [k.cell (by show b < _; omega) (fun hb => by have := hS b hb; omega)]
    exact h2 i hi
theorem StrsIn.weaken {w : World} {v : Value} {l : List ByteArray} {lo hi lo' hi' : Nat} (h : StrsIn w v l lo hi) (h1 : lo' ≤ lo) (h2 : hi ≤ hi') (h3 : hi' ≤ w.heap.size) : StrsIn w v l lo' hi' := by
  rcases h with h | ⟨b, off, c, e1, e2, e3, e4, e5, e6⟩
  · exact Or.inl h
  · exact Or.inr ⟨b, off, c, e1, e2, by omega, by omega, h3, e6⟩
theorem ownsRow_kept {S : List Nat} {w w' : World} {base : Nat} {e : TypeId} {size : Nat} {v : Value} {n : Nat} {xs : List Value} (h : w.ownsRow base e size v n xs) (k : Kept S w w') (hS : ∀ x ∈ S, x < base) : w'.ownsRow base e size v n xs := by
  obtain ⟨h1, h2⟩ := h
  refine ⟨h1, ?_⟩
  rcases h2 with h2 | ⟨g, cap, cur, hv, hg, hh, r⟩
  · exact Or.inl h2
  · exact Or.inr ⟨g, cap, cur, hv, hg, (k.block g (lt_of_block hh) (fun hx => by have := hS g hx; omega)).trans hh, r⟩
theorem own_shape {w : World} {base : Nat} {e : TypeId} {size : Nat} {v : Value} {n : Nat} {xs : List Value} (h : w.ownsRow base e size v n xs) : ∃ p cap, v = .slice p n cap := by
  obtain ⟨_, ⟨rfl, rfl⟩ | ⟨g, cap, cur, rfl, _⟩⟩ := h
  · exact ⟨_, _, rfl⟩
  · exact ⟨_, _, rfl⟩
/-- of a row that the call owns. -/
theorem StrsIn.of_own {w : World} {base : Nat} {e : TypeId} {v : Value} {n : Nat} {l : List ByteArray} (h : w.ownsRow base e 1 v n (l.map Value.string)) : StrsIn w v l base w.heap.size := by
  obtain ⟨hlen, h⟩ := h
  have hn : l.length = n := by simpa using hlen
  rcases h with ⟨rfl, rfl⟩ | ⟨g, cap, cur, rfl, hb, hg, hnc, hcm, hcs, htake⟩
  · exact Or.inl ⟨List.eq_nil_of_length_eq_zero hn, _, _, rfl⟩
  · by_cases h0 : n = 0
    · subst h0
      exact Or.inl ⟨List.eq_nil_of_length_eq_zero hn, _, _, rfl⟩
    · refine Or.inr ⟨g, 0, cap, by rw [hn], fun i hi => ?_, hb, lt_of_block hg, Nat.le_refl _, fun h => by rw [h] at hn; simp at hn; omega⟩
      have hi' : i < cur.toList.length := by rw [Array.length_toList, hcs]; omega
      have hc : cur.toList[i]? = some (.string l[i]) := by
        have := congrArg (fun x => x[i]?) htake
        simp only [Nat.mul_one] at this
        rw [List.getElem?_take_of_lt (by omega)] at this
        rw [this]
        simp [hi]
      rw [Nat.zero_add, cell_of_row w g i cur e (0, 0) hg]
      rw [← hc]; simp
end Go.Proofs.YtakdnchmehmdhaaGreat

/- Slices of runs: what they read as; whether runs lie apart: plain laws. -/
namespace Go.Proofs.YtakdnchmehmdhaaGreat
open Go.RowKit
set_option linter.unusedVariables false
set_option linter.unusedSimpArgs false

/-- the slice v reads as the runs l; its block is from lo on, below hi. -/
def RunsIn (w : World) (v : Value) (l : List (Int × Int)) (lo hi : Nat) : Prop :=
  (l = [] ∧ ∃ a c, v = .slice a 0 c) ∨
  ∃ b off c, v = .slice (some ⟨b, off, none⟩) l.length c ∧ (∀ i (h : i < l.length), w.cell? ⟨b, off + i * 2, none⟩ = some (.int .i64 l[i].1) ∧ w.cell? ⟨b, off + i * 2 + 1, none⟩ = some (.int .i64 l[i].2)) ∧ lo ≤ b ∧ b < hi ∧ hi ≤ w.heap.size ∧ l ≠ [] ∧ l.length ≤ c ∧ c ≤ maxLen

theorem RunsIn.kept {S : List Nat} {w w' : World} {v : Value} {l : List (Int × Int)} {lo hi : Nat} (h : RunsIn w v l lo hi) (k : Kept S w w') (hS : ∀ x ∈ S, x < lo ∨ hi ≤ x) : RunsIn w' v l lo hi := by
  rcases h with h | ⟨b, off, c, h1, h2, h3, h4, h5, h6, h7, h8⟩
  · exact Or.inl h
  · refine Or.inr ⟨b, off, c, h1, fun i hi => ?_, h3, h4, Nat.le_trans h5 k.size, h6, h7, h8⟩
    have hb : b ∉ S := fun hb => by have := hS b hb; omega
    rw [k.cell (by show b < _; omega) hb, k.cell (by show b < _; omega) hb]
    exact h2 i hi
theorem RunsIn.kept0 {w w' : World} {v : Value} {l : List (Int × Int)} {lo hi : Nat} (h : RunsIn w v l lo hi) (k : Kept [] w w') : RunsIn w' v l lo hi := h.kept k (fun x hx => by cases hx)
theorem RunsIn.shape {w : World} {v : Value} {l : List (Int × Int)} {lo hi : Nat} (h : RunsIn w v l lo hi) : ∃ p c, v = .slice p l.length c := by
  rcases h with ⟨rfl, a, c, rfl⟩ | ⟨b, off, c, rfl, _⟩
  · exact ⟨a, c, rfl⟩
  · exact ⟨_, c, rfl⟩
theorem RunsIn.at_ {w : World} {p : Option Addr} {n c : Nat} {l : List (Int × Int)} {lo hi : Nat} (h : RunsIn w (.slice p n c) l lo hi) (i : Nat) (hi' : i < l.length) :
    ∃ b off, p = some ⟨b, off, none⟩ ∧ w.cell? ⟨b, off + i * 2, none⟩ = some (.int .i64 l[i].1) ∧ w.cell? ⟨b, off + i * 2 + 1, none⟩ = some (.int .i64 l[i].2) ∧ b < w.heap.size ∧ l.length ≤ c ∧ c ≤ maxLen := by
  rcases h with ⟨rfl, _⟩ | ⟨b, off, c', e, h2, h3, h4, h5, _, h6, h7⟩
  · simp at hi'
  · simp at e
    obtain ⟨e1, rfl, rfl⟩ := e
    exact ⟨b, off, e1, (h2 i hi').1, (h2 i hi').2, by omega, h6, h7⟩

/-- may a run be, between a first sector and a number of them? -/
def okRun (f s : Int) (a : Int × Int) : Bool := !(decide (a.1 < f) || decide (a.2 < 1) || decide (s < a.1) || decide (s - a.1 < a.2))
/-- do two runs lie apart? -/
def apart (a b : Int × Int) : Bool := !(decide (a.1 < b.1 + b.2) && decide (b.1 < a.1 + a.2))
/-- do the first so many runs lie as they may? -/
def lieTo (f s : Int) (l : List (Int × Int)) : Nat → Bool
  | 0 => true
  | i + 1 => lieTo f s l i && (match l[i]? with | some a => okRun f s a && (l.take i).all (apart a) | none => true)
def lies (f s : Int) (l : List (Int × Int)) : Bool := lieTo f s l l.length
def sumLen (l : List (Int × Int)) : Int := (l.map (·.2)).sum
theorem lieTo_succ (f s : Int) (l : List (Int × Int)) (i : Nat) (h : i < l.length) : lieTo f s l (i + 1) = (lieTo f s l i && (okRun f s l[i] && (l.take i).all (apart l[i]))) := by
  rw [lieTo, List.getElem?_eq_getElem h]
theorem lieTo_false (f s : Int) (l : List (Int × Int)) (i j : Nat) (hij : i ≤ j) (h : lieTo f s l i = false) : lieTo f s l j = false := by
  induction j with
  | zero => obtain rfl : i = 0 := by omega
            exact h
  | succ j ih =>
    by_cases he : i = j + 1
    · subst he; exact h
    · rw [lieTo, ih (by omega), Bool.false_and]
theorem lies_no (f s : Int) (l : List (Int × Int)) (i : Nat) (h : i < l.length) (hno : (okRun f s l[i] && (l.take i).all (apart l[i])) = false) : lies f s l = false :=
  lieTo_false f s l (i + 1) l.length (by omega) (by rw [lieTo_succ f s l i h, hno, Bool.and_false])
theorem all_take_succ (a : Int × Int) (l : List (Int × Int)) (m : Nat) (h : m < l.length) : (l.take (m + 1)).all (apart a) = ((l.take m).all (apart a) && apart a l[m]) := by
  rw [List.take_succ_eq_append_getElem h, List.all_append]; simp
theorem all_take_no (a : Int × Int) (l : List (Int × Int)) (m k : Nat) (h : m < l.length) (hmk : m < k) (hno : apart a l[m] = false) : (l.take k).all (apart a) = false := by
  rw [List.all_eq_false]
  refine ⟨l[m], ?_, by simp [hno]⟩
  rw [List.mem_take_iff_getElem]
  exact ⟨m, by omega, rfl⟩
theorem okRun_iff {f s : Int} {a : Int × Int} : okRun f s a = true ↔ f ≤ a.1 ∧ 1 ≤ a.2 ∧ a.1 ≤ s ∧ a.2 ≤ s - a.1 := by
  unfold okRun; simp; omega
theorem apart_iff {a b : Int × Int} : apart a b = true ↔ a.1 + a.2 ≤ b.1 ∨ b.1 + b.2 ≤ a.1 := by
  unfold apart; simp; omega
theorem lieTo_ok {f s : Int} {l : List (Int × Int)} {i : Nat} (hi : i ≤ l.length) (h : lieTo f s l i = true) : ∀ k (hk : k < i), okRun f s (l[k]'(by omega)) = true := by
  induction i with
  | zero => intro k hk; omega
  | succ i ih =>
    intro k hk
    rw [lieTo_succ f s l i (by omega), Bool.and_eq_true, Bool.and_eq_true] at h
    by_cases e : k = i
    · subst e; exact h.2.1
    · exact ih (by omega) h.1 k (by omega)
theorem sumLen_take (l : List (Int × Int)) (i : Nat) (h : i < l.length) : sumLen (l.take (i + 1)) = sumLen (l.take i) + l[i].2 := by
  unfold sumLen; rw [List.take_succ_eq_append_getElem h, List.map_append, List.sum_append]; simp
theorem sumLen_bd {f s : Int} {l : List (Int × Int)} {i : Nat} (hi : i ≤ l.length) (h : lieTo f s l i = true) (h0 : 0 ≤ f) (hs : s ≤ 8192) : 0 ≤ sumLen (l.take i) ∧ sumLen (l.take i) ≤ 8192 * i := by
  induction i with
  | zero => simp [sumLen]
  | succ i ih =>
    have h1 := okRun_iff.1 (lieTo_ok hi h i (by omega))
    rw [lieTo_succ f s l i (by omega), Bool.and_eq_true] at h
    have h2 := ih (by omega) h.1
    rw [sumLen_take l i (by omega)]
    omega
theorem Own.c2 {w : World} {b : Nat} {x0 x1 : Value} {t : TypeId} (h : Own w b #[x0, x1] t) : w.cell? ⟨b, 0, none⟩ = some x0 ∧ w.cell? ⟨b, 1, none⟩ = some x1 :=
  ⟨h.cell 0 (by simp), h.cell 1 (by simp)⟩
theorem Own.c4 {w : World} {b : Nat} {x0 x1 x2 x3 : Value} {t : TypeId} (h : Own w b #[x0, x1, x2, x3] t) : w.cell? ⟨b, 0, none⟩ = some x0 ∧ w.cell? ⟨b, 1, none⟩ = some x1 ∧ w.cell? ⟨b, 2, none⟩ = some x2 ∧ w.cell? ⟨b, 3, none⟩ = some x3 :=
  ⟨h.cell 0 (by simp), h.cell 1 (by simp), h.cell 2 (by simp), h.cell 3 (by simp)⟩
theorem Own.z4 {w : World} {b : Nat} {x0 x1 x2 x3 : Value} {t : TypeId} (h : Own w b #[x0, x1, x2, x3] t) : w.frozen? ⟨b, 0, none⟩ = false ∧ w.frozen? ⟨b, 1, none⟩ = false ∧ w.frozen? ⟨b, 2, none⟩ = false ∧ w.frozen? ⟨b, 3, none⟩ = false :=
  ⟨h.free 0, h.free 1, h.free 2, h.free 3⟩
/-- a result that lies in a block of the call's own, and one in a slot. -/
theorem ret_row_tmp {P : Program} {fn : Func} {p u : Tmp} {ty : TypeId} (h : fn.results = #[.cell p ty, .tmp u]) {tmps : Array Value} {w : World} {g : Nat} {t : TypeId} {cs : Array Value} {d : TypeDesc} {x : Value}
    (hp : tmps.getD p undef = .pointer (some ⟨g, 0, none⟩)) (hx : tmps.getD u undef = x) (o : Own w g cs t) (hu : P.underlying ty = some d) (hd : (match d with | .struct _ | .array _ _ => true | _ => false) = true) (hi : (P.info? ty).map (·.size) = some cs.size) :
    (results fn tmps).run P w = .ok (.tuple #[.agg cs, x]) w := by
  rw [results_cell_tmp h, hp, hx]
  simp [asAddr, run_loadVar_row w g t ty cs (0, 0) d o hu hd hi]
theorem ret_row {P : Program} {fn : Func} {p : Tmp} {ty : TypeId} (h : fn.results = #[.cell p ty]) {tmps : Array Value} {w : World} {g : Nat} {t : TypeId} {cs : Array Value} {d : TypeDesc}
    (hp : tmps.getD p undef = .pointer (some ⟨g, 0, none⟩)) (o : Own w g cs t) (hu : P.underlying ty = some d) (hd : (match d with | .struct _ | .array _ _ => true | _ => false) = true) (hi : (P.info? ty).map (·.size) = some cs.size) :
    (results fn tmps).run P w = .ok (.agg cs) w := results_cell_row h tmps w g t cs (0, 0) d hp o hu hd hi
/-- all the cells of a block, written in turn. -/
theorem Own.set4 {w : World} {b : Nat} {x0 x1 x2 x3 : Value} {t : TypeId} (h : Own w b #[x0, x1, x2, x3] t) (y0 y1 y2 y3 : Value) :
    Own ((((w.setCell ⟨b, 0, none⟩ y0).setCell ⟨b, 1, none⟩ y1).setCell ⟨b, 2, none⟩ y2).setCell ⟨b, 3, none⟩ y3) b #[y0, y1, y2, y3] t := by
  have := (((h.set 0 y0).set 1 y1).set 2 y2).set 3 y3
  simpa using this
/-- a number's bytes, so many, the lowest first. -/
def numL : Nat → Nat → List UInt8
  | _, 0 => []
  | n, k + 1 => UInt8.ofNat n :: numL (n / 256) k
theorem numL_len (n k : Nat) : (numL n k).length = k := by
  induction k generalizing n with
  | zero => rfl
  | succ k ih => simp [numL, ih]
theorem numL_snoc (n k : Nat) : numL n (k + 1) = numL n k ++ [UInt8.ofNat (n / 256 ^ k)] := by
  induction k generalizing n with
  | zero => simp [numL]
  | succ k ih =>
    rw [numL, ih (n / 256), numL, Nat.div_div_eq_div_mul, Nat.pow_succ, Nat.mul_comm 256]
    rfl
/-- the cells of bytes. -/
def bcells (l : List UInt8) : Array Value := (l.map fun b => Value.int .u8 (b.toNat : Int)).toArray
theorem bcells_size (l : List UInt8) : (bcells l).size = l.length := by simp [bcells]
theorem bcells_set (l : List UInt8) (i : Nat) (c : UInt8) : (bcells l).setIfInBounds i (.int .u8 (c.toNat : Int)) = bcells (l.set i c) := by
  apply Array.toList_inj.1
  simp [bcells]
theorem own_bytes {w : World} {b : Nat} {l : List UInt8} {t : TypeId} (h : Own w b (bcells l) t) : Lib.Bytes w b 0 (bs l) := by
  intro i hi
  rw [bs_size] at hi
  rw [Nat.zero_add, h.cell i (by rw [bcells_size]; exact hi)]
  simp only [bcells, List.getElem_toArray, List.getElem_map]
  rfl
theorem num_step {w : World} {b n k i : Nat} {t : TypeId} (ho : Own w b (bcells (numL n i ++ List.replicate (k - i) 0)) t) (hlt : i < k) :
    Own (w.setCell ⟨b, i, none⟩ (.int .u8 ((n : Int) / 2 ^ (8 * i) % 256))) b (bcells (numL n (i + 1) ++ List.replicate (k - (i + 1)) 0)) t := by
  have h := ho.set i (.int .u8 ((UInt8.ofNat (n / 256 ^ i)).toNat : Int))
  rw [bcells_set] at h
  have e1 : ((UInt8.ofNat (n / 256 ^ i)).toNat : Int) = (n : Int) / 2 ^ (8 * i) % 256 := by
    rw [UInt8.toNat_ofNat']
    have : (2 : Nat) ^ (8 * i) = 256 ^ i := by rw [Nat.pow_mul]
    rw [← this]
    simp
  have e2 : (numL n i ++ List.replicate (k - i) 0).set i (UInt8.ofNat (n / 256 ^ i)) = numL n (i + 1) ++ List.replicate (k - (i + 1)) 0 := by
    obtain ⟨d, hd⟩ : ∃ d, k - i = d + 1 := ⟨k - i - 1, by omega⟩
    have hd' : k - (i + 1) = d := by omega
    rw [hd, hd', List.replicate_succ, numL_snoc, List.set_append_right _ _ (by rw [numL_len]; exact Nat.le_refl _), numL_len, Nat.sub_self]
    simp
  rw [e1, e2] at h
  exact h
set_option maxRecDepth 100000 in
theorem packnum (n k : Nat) (w : World) (hn : n < 2 ^ 64) (hk : k ≤ 8) :
    Calls Tryz.prog 71 #[.int .u64 n, .int .i64 k] w fun e w' => e = .returned (.string (bs (numL n k))) ∧ Kept [] w w' := by
  have hi : (Tryz.prog.info? 5).map (fun i => (i.zero, i.size, i.bytes)) = some (some (.int .u8 0), 1, 1) := by kernel_rfl
  obtain ⟨i0, hi0, hz0, hz1, hz2⟩ := info_parts hi
  have hmk : ∀ w : World, (Instr.makeSlice 125 (.int .i64 k) (.int .i64 k)).run Tryz.prog w = .ok (.slice (some ⟨w.heap.size, 0, none⟩) k k) (w.alloc (.cells (bcells (List.replicate k 0)) 5)) := fun w => by
    have h := run_make (P := Tryz.prog) w 125 5 i0 (.int .u8 0) Tryz.underlying125 hi0 hz0 .i64 .i64 k k (by omega) (by omega) (by rw [hz2]; omega) (by omega)
    rw [h, hz1]
    congr 3
    apply Array.toList_inj.1
    simp [bcells, Value.cells, toList_madeCells_one]
  go_enter Tryz.func71, Tryz.ntmps71
  go_wp2_with fail
  go_loopw [11] (fun x wr => ∃ i : Nat, i ≤ k ∧ x = .int .i64 i ∧ Own wr w.heap.size (bcells (numL n i ++ List.replicate (k - i) 0)) 5 ∧ Kept [] w wr) (fun x _ => k - (intOf x).toNat)
  case atStart => exact ⟨0, Nat.zero_le _, rfl, Own.new _ _ _, (Kept.refl _ _).alloc _⟩
  case round =>
    obtain ⟨i, hik, rfl, ho, hkp⟩ := hrel
    by_cases hlt : i < k
    · have c0 : ∃ v, wr.cell? ⟨w.heap.size, i, none⟩ = some v := ⟨_, ho.cell i (by rw [bcells_size]; simp [numL_len]; omega)⟩
      obtain ⟨v, c0⟩ := c0
      have z0 := ho.free i
      go_wp2_with fail
      go_roundw
      case rel => exact ⟨i + 1, by omega, by go_num, num_step ho hlt, hkp.setCell (Or.inr (Nat.le_refl _)) _⟩
      case measure => simp [intOf]; omega
    · obtain rfl : i = k := by omega
      have hb := own_bytes ho
      have e : numL n i ++ List.replicate (i - i) 0 = numL n i := by rw [Nat.sub_self]; simp
      rw [e] at hb
      have hconv := Lib.run_convert_whole (P := Tryz.prog) wr 125 5 9 Tryz.underlying125 Tryz.underlying5 Tryz.underlying9 _ _ _ hb i
      rw [bs_size, numL_len] at hconv
      go_wp2_with fail
      go_ret
      exact ⟨rfl, hkp⟩
set_option maxRecDepth 100000 in
theorem packU8 (n : Nat) (w : World) (hn : n < 256) :
    Calls Tryz.prog 108 #[.int .u8 n] w fun e w' => e = .returned (.string (bs (numL n 1))) ∧ Kept [] w w' := by
  have h : ∀ w, Calls Tryz.prog 71 #[.int .u64 n, .int .i64 1] w fun e w' => e = .returned (.string (bs (numL n 1))) ∧ Kept [] w w' := fun w => packnum n 1 w (by omega) (by omega)
  go_enter Tryz.func108, Tryz.ntmps108
  go_wp2_with fail
  refine (h _).mono ?_; rintro e w1 ⟨rfl, hk⟩
  go_wp2_with fail
  go_ret
  exact ⟨rfl, hk⟩
set_option maxRecDepth 100000 in
theorem packU16 (n : Nat) (w : World) (hn : n < 65536) :
    Calls Tryz.prog 74 #[.int .u16 n] w fun e w' => e = .returned (.string (bs (numL n 2))) ∧ Kept [] w w' := by
  have h : ∀ w, Calls Tryz.prog 71 #[.int .u64 n, .int .i64 2] w fun e w' => e = .returned (.string (bs (numL n 2))) ∧ Kept [] w w' := fun w => packnum n 2 w (by omega) (by omega)
  go_enter Tryz.func74, Tryz.ntmps74
  go_wp2_with fail
  refine (h _).mono ?_; rintro e w1 ⟨rfl, hk⟩
  go_wp2_with fail
  go_ret
  exact ⟨rfl, hk⟩
set_option maxRecDepth 100000 in
theorem packU32 (n : Nat) (w : World) (hn : n < 4294967296) :
    Calls Tryz.prog 36 #[.int .u32 n] w fun e w' => e = .returned (.string (bs (numL n 4))) ∧ Kept [] w w' := by
  have h : ∀ w, Calls Tryz.prog 71 #[.int .u64 n, .int .i64 4] w fun e w' => e = .returned (.string (bs (numL n 4))) ∧ Kept [] w w' := fun w => packnum n 4 w (by omega) (by omega)
  go_enter Tryz.func36, Tryz.ntmps36
  go_wp2_with fail
  refine (h _).mono ?_; rintro e w1 ⟨rfl, hk⟩
  go_wp2_with fail
  go_ret
  exact ⟨rfl, hk⟩
/-- a text's bytes. -/
def textL (l : List UInt8) : List UInt8 := numL l.length 4 ++ l
theorem bs_append' (a : List UInt8) (s : ByteArray) : bs a ++ s = bs (a ++ s.data.toList) := by
  apply ByteArray.ext; apply Array.toList_inj.1; simp [bs, ByteArray.data_append]
theorem size_data (s : ByteArray) : s.data.toList.length = s.size := by simp
set_option maxRecDepth 100000 in
theorem packText (s : ByteArray) (w : World) (hs : s.size < 4294967296) :
    Calls Tryz.prog 109 #[.string s] w fun e w' => e = .returned (.string (bs (textL s.data.toList))) ∧ Kept [] w w' := by
  have h := fun w => packU32 s.size w (by omega)
  have hz : (bs (numL s.size 4)).size ≤ 4 := by rw [bs_size, numL_len]; omega
  have hfin := Lib.hid (bs_append' (numL s.size 4) s)
  go_enter Tryz.func109, Tryz.ntmps109
  go_wp2_with fail
  refine (h _).mono ?_; rintro e w1 ⟨rfl, hk⟩
  go_wp2_with fail
  go_ret
  refine ⟨?_, hk⟩
  show Ending.returned (Value.string (bs (numL s.size 4) ++ s)) = _
  rw [hfin.out, textL, size_data]
/-! ### the reader -/
/-- a reader stands at b: what is left, and the first error. -/
def RdAt (w : World) (b : Nat) (l : List UInt8) (e : Int) : Prop := Own w b #[.string (bs l), .int .i64 e] 117
set_option maxRecDepth 100000 in
theorem packRead (s : ByteArray) (w : World) :
    Calls Tryz.prog 50 #[.string s] w fun e w' => e = .returned (.pointer (some ⟨w.heap.size, 0, none⟩)) ∧ RdAt w' w.heap.size s.data.toList 0 ∧ Kept [] w w' := by
  go_enter Tryz.func50, Tryz.ntmps50
  go_wp2_with fail
  go_ret
  refine ⟨rfl, ?_, (Kept.refl _ _).alloc _⟩
  have h := Own.new w #[.string s, .int .i64 0] 117
  unfold RdAt
  rw [bs_of]
  exact h
/-- the first error stays. -/
def keepErr (e x : Int) : Int := if x = 0 then e else x
theorem keepErr_zero (e : Int) : keepErr e 0 = e := rfl
theorem keepErr_ne {e x : Int} (h : x ≠ 0) : keepErr e x = x := if_neg h
set_option maxRecDepth 100000 in
theorem packFail (b : Nat) (l : List UInt8) (x e : Int) (w : World) (hR : RdAt w b l x) :
    Calls Tryz.prog 114 #[.pointer (some ⟨b, 0, none⟩), .int .i64 e] w fun r w' => r = .returned (.tuple #[]) ∧ RdAt w' b [] (keepErr e x) ∧ Kept [b] w w' := by
  have c0 : w.cell? ⟨b, 0, none⟩ = some (.string (bs l)) := Own.cell hR 0 (by simp)
  have c1 : w.cell? ⟨b, 1, none⟩ = some (.int .i64 x) := Own.cell hR 1 (by simp)
  have z0 := Own.free hR 0
  have z1 := Own.free hR 1
  by_cases hx : x = 0
  · subst hx
    rw [keepErr_zero]
    go_enter Tryz.func114, Tryz.ntmps114
    go_wp2_with fail
    go_end0
    refine ⟨rfl, ?_, ((Kept.refl _ _).setCell (Or.inl (by simp)) _).setCell (Or.inl (by simp)) _⟩
    have h2 := (Own.set hR 0 (.string { data := #[] })).set 1 (.int .i64 e)
    unfold RdAt
    simpa [bs] using h2
  · have hd : (x == 0) = false := by simpa using hx
    rw [keepErr_ne hx]
    go_enter Tryz.func114, Tryz.ntmps114
    go_wp2_with fail
    go_end0
    refine ⟨rfl, ?_, (Kept.refl _ _).setCell (Or.inl (by simp)) _⟩
    have h2 := Own.set hR 0 (.string { data := #[] })
    unfold RdAt
    simpa [bs] using h2
theorem bd64 {n : Int} (h : (Lit.int .i64 n).wf = true) : -9223372036854775808 ≤ n ∧ n ≤ 9223372036854775807 := by
  simp only [Lit.wf, Bool.and_eq_true, decide_eq_true_eq] at h
  exact h
/-- how many sectors so many bytes need. -/
def need (n : Int) : Int := if n < 1 then 0 else (n - 1) / 128 + 1
set_option maxRecDepth 100000 in
theorem pneed (n : Int) (w : World) (hn : (Lit.int .i64 n).wf = true) :
    Calls Tryz.prog 122 #[.int .i64 n] w fun e w' => e = .returned (.int .i64 (need n)) ∧ w = w' := by
  have hb := bd64 hn
  unfold need
  by_cases h : n < 1
  · rw [if_pos h]
    go_enter Tryz.func122, Tryz.ntmps122
    go_wp2_with fail
    go_ret
    exact ⟨rfl, rfl⟩
  · rw [if_neg h]
    go_enter Tryz.func122, Tryz.ntmps122
    go_wp2_with fail
    go_ret
    exact ⟨rfl, rfl⟩
theorem okRun_cases {f s : Int} {a : Int × Int} : (okRun f s a = false ∧ (a.1 < f ∨ (f ≤ a.1 ∧ a.2 < 1) ∨ (f ≤ a.1 ∧ 1 ≤ a.2 ∧ s < a.1) ∨ (f ≤ a.1 ∧ 1 ≤ a.2 ∧ a.1 ≤ s ∧ s - a.1 < a.2))) ∨ (okRun f s a = true ∧ f ≤ a.1 ∧ 1 ≤ a.2 ∧ a.1 ≤ s ∧ a.2 ≤ s - a.1) := by
  cases h : okRun f s a
  · refine Or.inl ⟨rfl, ?_⟩
    have h' : ¬ (f ≤ a.1 ∧ 1 ≤ a.2 ∧ a.1 ≤ s ∧ a.2 ≤ s - a.1) := fun hh => by rw [okRun_iff.2 hh] at h; cases h
    omega
  · exact Or.inr ⟨rfl, okRun_iff.1 h⟩
theorem apart_cases {a b : Int × Int} : (apart a b = false ∧ a.1 < b.1 + b.2 ∧ b.1 < a.1 + a.2) ∨ (apart a b = true ∧ (b.1 + b.2 ≤ a.1 ∨ (a.1 < b.1 + b.2 ∧ a.1 + a.2 ≤ b.1))) := by
  cases h : apart a b
  · refine Or.inl ⟨rfl, ?_⟩
    have h' : ¬ (a.1 + a.2 ≤ b.1 ∨ b.1 + b.2 ≤ a.1) := fun hh => by rw [apart_iff.2 hh] at h; cases h
    omega
  · have := apart_iff.1 h
    exact Or.inr ⟨rfl, by omega⟩
/-- a superblock. -/
structure SB where
  seq : Nat
  sectors : Int
  journal : Int
  used : Int
  size : Int
  runs : List (Int × Int)
/-- its cells, where v is its slice of runs. -/
def SB.cells (s : SB) (v : Value) : Array Value := #[.int .u64 s.seq, .int .i64 s.sectors, .int .i64 s.journal, .int .i64 s.used, .int .i64 s.size, v]
/-- are its numbers such as may be? -/
def SB.numOk (s : SB) : Prop := 1 ≤ s.seq ∧ 4 ≤ s.sectors ∧ s.sectors ≤ 8192 ∧ 1 ≤ s.journal ∧ s.journal ≤ s.sectors - 2 ∧ 0 ≤ s.used ∧ s.used ≤ s.journal * 128 ∧ 0 ≤ s.size ∧ s.size ≤ 1048576 ∧ s.runs.length ≤ 16
/-- may it be? -/
def SB.may (s : SB) : Prop := s.numOk ∧ lies (2 + s.journal) s.sectors s.runs = true ∧ sumLen s.runs = need s.size
def SB.fits (s : SB) : Prop := s.seq < 18446744073709551616 ∧ (Lit.int .i64 s.sectors).wf = true ∧ (Lit.int .i64 s.journal).wf = true ∧ (Lit.int .i64 s.used).wf = true ∧ (Lit.int .i64 s.size).wf = true
end Go.Proofs.YtakdnchmehmdhaaGreat
