/- -/
import Derived.Test.YtdkimcnlhmhpgaaGreatProg
import Derived.WalkKit
import Derived.WalkSpells
import Derived.WalkLawsBesides
import Derived.Lib.Hide
import Derived.ProofKit
import Derived.OpenShut
import Derived.SliceStrings
import Derived.Deep.LoopGhost
import Derived.Deep.SlicePairs
import Derived.Laws.MakeOwn
import Derived.Maps.AppendAt
import Derived.Deep.AppendLies
import Derived.RegionTactic
import Derived.OwnWalk
set_option linter.unusedVariables false
set_option linter.unusedSimpArgs false
namespace Go.Proofs.YtdkimcnlhmhpgaaGreat
open Go.RowKit
@[go_sem] theorem run_store_complex (P : Program) (w : World) (a : Addr) (m : Mode) (k : FloatKind) (b c : Nat) : (store a (.complex k b c) m).run P w = stored P w a (.complex k b c) m := run_store P w a _ m rfl
def Own (w : World) (b : Nat) (cs : Array Value) (t : TypeId) : Prop := w.heap[b]? = some (.cells cs t (0, 0))
theorem Own.lt {w : World} {b : Nat} {cs : Array Value} {t : TypeId} (h : Own w b cs t) : b < w.heap.size := lt_of_block h
theorem Own.cell {w : World} {b : Nat} {cs : Array Value} {t : TypeId} (h : Own w b cs t) (j : Nat) (hj : j < cs.size) : w.cell? ⟨b, j, none⟩ = some cs[j] := by
 have h' : w.heap[b]? = some (.cells cs t (0, 0)) := h
 simp [World.cell?, h', hj]
theorem Own.free {w : World} {b : Nat} {cs : Array Value} {t : TypeId} (h : Own w b cs t) (j : Nat) : w.frozen? ⟨b, j, none⟩ = false := by
 have h' : w.heap[b]? = some (.cells cs t (0, 0)) := h
 simp [World.frozen?, h']
theorem Own.set {w : World} {b : Nat} {cs : Array Value} {t : TypeId} (h : Own w b cs t) (j : Nat) (u : Value) : Own (w.setCell ⟨b, j, none⟩ u) b (cs.setIfInBounds j u) t :=
 heap_setCell_same w b j cs t u h
theorem Own.other {w : World} {b : Nat} {cs : Array Value} {t : TypeId} (h : Own w b cs t) {p : Addr} (hp : b ≠ p.block) (u : Value) : Own (w.setCell p u) b cs t :=
 (Below.heap_setCell w p u b hp).trans h
theorem Own.drew {w : World} {b : Nat} {cs : Array Value} {t : TypeId} (h : Own w b cs t) : Own w.drew b cs t := h
theorem Own.alloc {w : World} {b : Nat} {cs : Array Value} {t : TypeId} (h : Own w b cs t) (o : Obj) : Own (w.alloc o) b cs t :=
 (Below.heap_alloc w o b h.lt).trans h
theorem Own.new (w : World) (cs : Array Value) (t : TypeId) : Own (w.alloc (.cells cs t)) w.heap.size cs t := heap_alloc_new w _
theorem own_two (w : World) (A B : Array Value) (s t : TypeId) : Own ((w.alloc (.cells A s)).alloc (.cells B t)) w.heap.size A s ∧ Own ((w.alloc (.cells A s)).alloc (.cells B t)) (w.heap.size + 1) B t := by
 refine ⟨(Own.new _ _ _).alloc _, ?_⟩
 have := Own.new (w.alloc (.cells A s)) B t
 simpa only [World.size_alloc] using this
theorem own_three (w : World) (A B C : Array Value) (s t u : TypeId) : Own (((w.alloc (.cells A s)).alloc (.cells B t)).alloc (.cells C u)) w.heap.size A s ∧ Own (((w.alloc (.cells A s)).alloc (.cells B t)).alloc (.cells C u)) (w.heap.size + 1) B t ∧ Own (((w.alloc (.cells A s)).alloc (.cells B t)).alloc (.cells C u)) (w.heap.size + 2) C u := by
 obtain ⟨a, b⟩ := own_two w A B s t
 refine ⟨a.alloc _, b.alloc _, ?_⟩
 have := Own.new ((w.alloc (.cells A s)).alloc (.cells B t)) C u
 simpa only [World.size_alloc] using this
structure Kept (S : List Nat) (w w' : World) : Prop where
 os : w'.os = w.os
 tape : w'.tape = w.tape
 output : w'.output = w.output
 size : w.heap.size ≤ w'.heap.size
 block : ∀ k, k < w.heap.size → k ∉ S → w'.heap[k]? = w.heap[k]?
theorem Kept.refl (S : List Nat) (w : World) : Kept S w w := ⟨rfl, rfl, rfl, Nat.le_refl _, fun _ _ _ => rfl⟩
theorem Kept.trans {S : List Nat} {a b c : World} (h : Kept S a b) (k : Kept S b c) : Kept S a c :=
 ⟨k.os.trans h.os, k.tape.trans h.tape, k.output.trans h.output, Nat.le_trans h.size k.size, fun i hi hS => (k.block i (Nat.lt_of_lt_of_le hi h.size) hS).trans (h.block i hi hS)⟩
theorem Kept.mono {S T : List Nat} {a b : World} (h : Kept S a b) (hST : ∀ x ∈ S, x ∈ T) : Kept T a b :=
 ⟨h.os, h.tape, h.output, h.size, fun k hk hT => h.block k hk (fun hS => hT (hST k hS))⟩
theorem Kept.drew {S : List Nat} {a w : World} (h : Kept S a w) : Kept S a w.drew := ⟨h.os, h.tape, h.output, h.size, h.block⟩
theorem Kept.drewN {S : List Nat} {a w : World} (h : Kept S a w) (n : Nat) : Kept S a (w.drewN n) := ⟨h.os, h.tape, h.output, h.size, h.block⟩
theorem Kept.alloc {S : List Nat} {a w : World} (h : Kept S a w) (o : Obj) : Kept S a (w.alloc o) :=
 h.trans ⟨rfl, rfl, rfl, by simp, fun k hk _ => Below.heap_alloc _ _ _ hk⟩
theorem Kept.setCell {S : List Nat} {a w : World} (h : Kept S a w) {p : Addr} (hp : p.block ∈ S ∨ a.heap.size ≤ p.block) (u : Value) : Kept S a (w.setCell p u) :=
 ⟨h.os, h.tape, h.output, by simpa [World.setCell] using h.size, fun k hk hS => (Below.heap_setCell w p u k (fun e => by
  rcases hp with hp | hp
  ·exact hS (e ▸ hp)
  ·omega)).trans (h.block k hk hS)⟩
theorem Kept.call {S T : List Nat} {a w w' : World} (h : Kept S a w) (k : Kept T w w') (hT : ∀ x ∈ T, x ∈ S ∨ a.heap.size ≤ x) : Kept S a w' :=
 ⟨k.os.trans h.os, k.tape.trans h.tape, k.output.trans h.output, Nat.le_trans h.size k.size, fun i hi hS => (k.block i (Nat.lt_of_lt_of_le hi h.size) (fun hiT => by
  rcases hT i hiT with h1 | h1
  ·exact hS h1
  ·omega)).trans (h.block i hi hS)⟩
theorem Kept.of_below {w w' : World} (h : Below w.heap.size w w') : Kept [] w w' := ⟨h.os, h.tape, h.output, h.size, fun k hk _ => h.block k hk⟩
theorem Kept.below {w w' : World} (h : Kept [] w w') : Below w.heap.size w w' := ⟨h.os, h.tape, h.output, h.size, fun k hk => h.block k hk (by simp)⟩
theorem Kept.own {S : List Nat} {w w' : World} {b : Nat} {cs : Array Value} {t : TypeId} (h : Kept S w w') (o : Own w b cs t) (hb : b ∉ S) : Own w' b cs t :=
 (h.block b o.lt hb).trans o
theorem Kept.cell {S : List Nat} {w w' : World} (h : Kept S w w') {a : Addr} (ha : a.block < w.heap.size) (hb : a.block ∉ S) : w'.cell? a = w.cell? a :=
 World.cell?_of_block (w := w) (h.block a.block ha hb)
theorem Kept.grown {S : List Nat} {a w w' : World} {row : Option Nat} (h : Kept S a w) (hg : w.grownBy w' row) (hr : ∀ k, row = some k → k ∈ S ∨ a.heap.size ≤ k) : Kept S a w' :=
 ⟨hg.os.trans h.os, hg.tape.trans h.tape, hg.output.trans h.output, Nat.le_trans h.size hg.size, fun k hk hS => (hg.block k (Nat.lt_of_lt_of_le hk h.size) (fun e => by
  rcases hr k e.symm with h1 | h1
  ·exact hS h1
  ·omega)).trans (h.block k hk hS)⟩
def bs (l : List UInt8) : ByteArray := ⟨l.toArray⟩
theorem bs_data (l : List UInt8) : (bs l).data.toList = l := rfl
theorem bs_size (l : List UInt8) : (bs l).size = l.length := by show l.toArray.size = _; simp
theorem bs_of (s : ByteArray) : bs s.data.toList = s := by apply ByteArray.ext; rfl
theorem bs_append (a b : List UInt8) : bs a ++ bs b = bs (a ++ b) := by
 apply ByteArray.ext; simp [bs, ByteArray.data_append]
theorem bs_extract (l : List UInt8) (a b : Nat) : (bs l).extract a b = bs ((l.drop a).take (b - a)) := by
 apply ByteArray.ext
 apply Array.toList_inj.1
 simp [bs]
theorem bs_toList (l : List UInt8) : (bs l).toList = l := by rw [ByteArray.toList_eq]; rfl
theorem bs_beq (a b : List UInt8) : (bs a == bs b) = (a == b) := by rw [beq_toListBytes, bs_toList, bs_toList]
theorem bs_nil : bs [] = { data := #[] } := rfl
theorem ownsRow_kept {S : List Nat} {w w' : World} {base : Nat} {e : TypeId} {size : Nat} {v : Value} {n : Nat} {xs : List Value} (h : w.ownsRow base e size v n xs) (k : Kept S w w') (hS : ∀ x ∈ S, x < base) : w'.ownsRow base e size v n xs := by
 obtain ⟨h1, h2⟩ := h
 refine ⟨h1, ?_⟩
 rcases h2 with h2 | ⟨g, cap, cur, hv, hg, hh, r⟩
 ·exact Or.inl h2
 ·exact Or.inr ⟨g, cap, cur, hv, hg, (k.block g (lt_of_block hh) (fun hx => by have := hS g hx; omega)).trans hh, r⟩
theorem own_shape {w : World} {base : Nat} {e : TypeId} {size : Nat} {v : Value} {n : Nat} {xs : List Value} (h : w.ownsRow base e size v n xs) : ∃ p cap, v = .slice p n cap := by
 obtain ⟨_, ⟨rfl, rfl⟩ | ⟨g, cap, cur, rfl, _⟩⟩ := h
 ·exact ⟨_, _, rfl⟩
 ·exact ⟨_, _, rfl⟩
def RunsIn (w : World) (v : Value) (l : List (Int × Int)) (lo hi : Nat) : Prop :=
 (l = [] ∧ ∃ a c, v = .slice a 0 c) ∨
 ∃ b off c, v = .slice (some ⟨b, off, none⟩) l.length c ∧ (∀ i (h : i < l.length), w.cell? ⟨b, off + i * 2, none⟩ = some (.int .i64 l[i].1) ∧ w.cell? ⟨b, off + i * 2 + 1, none⟩ = some (.int .i64 l[i].2)) ∧ lo ≤ b ∧ b < hi ∧ hi ≤ w.heap.size ∧ l ≠ [] ∧ l.length ≤ c ∧ c ≤ maxLen
theorem RunsIn.kept {S : List Nat} {w w' : World} {v : Value} {l : List (Int × Int)} {lo hi : Nat} (h : RunsIn w v l lo hi) (k : Kept S w w') (hS : ∀ x ∈ S, x < lo ∨ hi ≤ x) : RunsIn w' v l lo hi := by
 rcases h with h | ⟨b, off, c, h1, h2, h3, h4, h5, h6, h7, h8⟩
 ·exact Or.inl h
 ·refine Or.inr ⟨b, off, c, h1, fun i hi => ?_, h3, h4, Nat.le_trans h5 k.size, h6, h7, h8⟩
  have hb : b ∉ S := fun hb => by have := hS b hb; omega
  rw [k.cell (by show b < _; omega) hb, k.cell (by show b < _; omega) hb]
  exact h2 i hi
theorem RunsIn.kept0 {w w' : World} {v : Value} {l : List (Int × Int)} {lo hi : Nat} (h : RunsIn w v l lo hi) (k : Kept [] w w') : RunsIn w' v l lo hi := h.kept k (fun x hx => by cases hx)
theorem RunsIn.shape {w : World} {v : Value} {l : List (Int × Int)} {lo hi : Nat} (h : RunsIn w v l lo hi) : ∃ p c, v = .slice p l.length c := by
 rcases h with ⟨rfl, a, c, rfl⟩ | ⟨b, off, c, rfl, _⟩
 ·exact ⟨a, c, rfl⟩
 ·exact ⟨_, c, rfl⟩
theorem RunsIn.at_ {w : World} {p : Option Addr} {n c : Nat} {l : List (Int × Int)} {lo hi : Nat} (h : RunsIn w (.slice p n c) l lo hi) (i : Nat) (hi' : i < l.length) :
  ∃ b off, p = some ⟨b, off, none⟩ ∧ w.cell? ⟨b, off + i * 2, none⟩ = some (.int .i64 l[i].1) ∧ w.cell? ⟨b, off + i * 2 + 1, none⟩ = some (.int .i64 l[i].2) ∧ b < w.heap.size ∧ l.length ≤ c ∧ c ≤ maxLen := by
 rcases h with ⟨rfl, _⟩ | ⟨b, off, c', e, h2, h3, h4, h5, _, h6, h7⟩
 ·simp at hi'
 ·simp at e
  obtain ⟨e1, rfl, rfl⟩ := e
  exact ⟨b, off, e1, (h2 i hi').1, (h2 i hi').2, by omega, h6, h7⟩
def okRun (f s : Int) (a : Int × Int) : Bool := !(decide (a.1 < f) || decide (a.2 < 1) || decide (s < a.1) || decide (s - a.1 < a.2))
def apart (a b : Int × Int) : Bool := !(decide (a.1 < b.1 + b.2) && decide (b.1 < a.1 + a.2))
def lieTo (f s : Int) (l : List (Int × Int)) : Nat → Bool
 | 0 => true
 | i + 1 => lieTo f s l i && (match l[i]? with | some a => okRun f s a && (l.take i).all (apart a) | none => true)
def lies (f s : Int) (l : List (Int × Int)) : Bool := lieTo f s l l.length
def sumLen (l : List (Int × Int)) : Int := (l.map (·.2)).sum
theorem lieTo_succ (f s : Int) (l : List (Int × Int)) (i : Nat) (h : i < l.length) : lieTo f s l (i + 1) = (lieTo f s l i && (okRun f s l[i] && (l.take i).all (apart l[i]))) := by
 rw [lieTo, List.getElem?_eq_getElem h]
theorem lieTo_false (f s : Int) (l : List (Int × Int)) (i j : Nat) (hij : i ≤ j) (h : lieTo f s l i = false) : lieTo f s l j = false := by
 induction j with
 | zero =>
   obtain rfl : i = 0 := by omega
   exact h
 | succ j ih =>
  by_cases he : i = j + 1
  ·subst he; exact h
  ·rw [lieTo, ih (by omega), Bool.false_and]
theorem lies_no (f s : Int) (l : List (Int × Int)) (i : Nat) (h : i < l.length) (hno : (okRun f s l[i] && (l.take i).all (apart l[i])) = false) : lies f s l = false :=
 lieTo_false f s l (i + 1) l.length (by omega) (by rw [lieTo_succ f s l i h, hno, Bool.and_false])
theorem all_take_succ (a : Int × Int) (l : List (Int × Int)) (m : Nat) (h : m < l.length) : (l.take (m + 1)).all (apart a) = ((l.take m).all (apart a) && apart a l[m]) := by
 rw [List.take_succ_eq_append_getElem h, List.all_append]; simp
theorem all_take_no (a : Int × Int) (l : List (Int × Int)) (m k : Nat) (h : m < l.length) (hmk : m < k) (hno : apart a l[m] = false) : (l.take k).all (apart a) = false := by
 rw [List.all_eq_false]
 refine ⟨l[m], ?_, by simp [hno]⟩
 rw [List.mem_take_iff_getElem]
 exact ⟨m, by omega, rfl⟩
theorem okRun_iff {f s : Int} {a : Int × Int} : okRun f s a = true ↔ f ≤ a.1 ∧ 1 ≤ a.2 ∧ a.1 ≤ s ∧ a.2 ≤ s - a.1 := by
 unfold okRun; simp; omega
theorem apart_iff {a b : Int × Int} : apart a b = true ↔ a.1 + a.2 ≤ b.1 ∨ b.1 + b.2 ≤ a.1 := by
 unfold apart; simp; omega
theorem lieTo_ok {f s : Int} {l : List (Int × Int)} {i : Nat} (hi : i ≤ l.length) (h : lieTo f s l i = true) : ∀ k (hk : k < i), okRun f s (l[k]'(by omega)) = true := by
 induction i with
 | zero => intro k hk; omega
 | succ i ih =>
  intro k hk
  rw [lieTo_succ f s l i (by omega), Bool.and_eq_true, Bool.and_eq_true] at h
  by_cases e : k = i
  ·subst e; exact h.2.1
  ·exact ih (by omega) h.1 k (by omega)
theorem sumLen_take (l : List (Int × Int)) (i : Nat) (h : i < l.length) : sumLen (l.take (i + 1)) = sumLen (l.take i) + l[i].2 := by
 unfold sumLen; rw [List.take_succ_eq_append_getElem h, List.map_append, List.sum_append]; simp
theorem sumLen_bd {f s : Int} {l : List (Int × Int)} {i : Nat} (hi : i ≤ l.length) (h : lieTo f s l i = true) (h0 : 0 ≤ f) (hs : s ≤ 8192) : 0 ≤ sumLen (l.take i) ∧ sumLen (l.take i) ≤ 8192 * i := by
 induction i with
 | zero => simp [sumLen]
 | succ i ih =>
  have h1 := okRun_iff.1 (lieTo_ok hi h i (by omega))
  rw [lieTo_succ f s l i (by omega), Bool.and_eq_true] at h
  have h2 := ih (by omega) h.1
  rw [sumLen_take l i (by omega)]
  omega
end Go.Proofs.YtdkimcnlhmhpgaaGreat

/- -/
namespace Go.Proofs.YtdkimcnlhmhpgaaGreat
open Go.ChangeShapes Go.WideShapes Go.ChangeAt Go.RowKit Go.Deep
def WfRun (a : Int × Int) : Prop := -9223372036854775808 ≤ a.1 ∧ a.1 ≤ 9223372036854775807 ∧ -9223372036854775808 ≤ a.2 ∧ a.2 ≤ 9223372036854775807
section
variable {H : Type} {enc : TypeId × Value → H} {w : World} {base : Nat} {held : Bool} {r : Reach} {b0 : Nat}
end
end Go.Proofs.YtdkimcnlhmhpgaaGreat

/- -/
namespace Go.Proofs.YtdkimcnlhmhpgaaGreat
open Go.RowKit
def Pl : Int → List (Int × Int) → Prop
 | _, [] => True
 | a, r :: t => a ≤ r.1 ∧ 1 ≤ r.2 ∧ r.1 + r.2 ≤ 8192 ∧ Pl (r.1 + r.2 + 1) t
def inS (l : List (Int × Int)) (k : Int) : Prop := ∃ r ∈ l, r.1 ≤ k ∧ k < r.1 + r.2
theorem inS_nil (k : Int) : ¬ inS [] k := fun ⟨r, hr, _⟩ => by cases hr
theorem inS_cons {r : Int × Int} {l : List (Int × Int)} {k : Int} : inS (r :: l) k ↔ (r.1 ≤ k ∧ k < r.1 + r.2) ∨ inS l k := by
 unfold inS
 constructor
 ·rintro ⟨x, hx, h⟩
  rcases List.mem_cons.1 hx with rfl | hx
  ·exact Or.inl h
  ·exact Or.inr ⟨x, hx, h⟩
 ·rintro (h | ⟨x, hx, h⟩)
  ·exact ⟨r, List.mem_cons_self, h⟩
  ·exact ⟨x, List.mem_cons_of_mem _ hx, h⟩
theorem inS_append {a b : List (Int × Int)} {k : Int} : inS (a ++ b) k ↔ inS a k ∨ inS b k := by
 induction a with
 | nil => simp [inS_nil]
 | cons r a ih => rw [List.cons_append, inS_cons, inS_cons, ih, or_assoc]
theorem inS_one {r : Int × Int} {k : Int} : inS [r] k ↔ r.1 ≤ k ∧ k < r.1 + r.2 := by
 rw [inS_cons]; simp [inS_nil]
theorem Pl.mono {a b : Int} {l : List (Int × Int)} (h : Pl a l) (hb : b ≤ a) : Pl b l := by
 cases l with
 | nil => trivial
 | cons r t => exact ⟨by have := h.1; omega, h.2⟩
theorem Pl.ge {a k : Int} {l : List (Int × Int)} (h : Pl a l) (hk : inS l k) : a ≤ k ∧ k < 8192 := by
 induction l generalizing a with
 | nil => exact absurd hk (inS_nil k)
 | cons r t ih =>
  obtain ⟨h1, h2, h3, h4⟩ := h
  rcases inS_cons.1 hk with hk | hk
  ·omega
  ·have := ih h4 hk; omega
theorem Pl.head {a : Int} {r : Int × Int} {t : List (Int × Int)} (h : Pl a (r :: t)) : inS (r :: t) r.1 := inS_cons.2 (Or.inl ⟨Int.le_refl _, by have := h.2.1; omega⟩)
theorem Pl.uniq {a b : Int} {l m : List (Int × Int)} (h : Pl a l) (k : Pl b m) (e : ∀ i, inS l i ↔ inS m i) : l = m := by
 induction l generalizing a b m with
 | nil =>
  cases m with
  | nil => rfl
  | cons s u => exact absurd ((e _).2 k.head) (inS_nil _)
 | cons r t ih =>
  cases m with
  | nil => exact absurd ((e _).1 h.head) (inS_nil _)
  | cons s u =>
   have g1 := ((k.mono (Int.le_refl _)).1)
   have h1 : s.1 ≤ r.1 := by
    have := (e _).1 h.head
    rcases inS_cons.1 this with hh | hh
    ·exact hh.1
    ·have := (Pl.ge k.2.2.2 hh).1; have := k.2.1; omega
   have h2 : r.1 ≤ s.1 := by
    have := (e _).2 k.head
    rcases inS_cons.1 this with hh | hh
    ·exact hh.1
    ·have := (Pl.ge h.2.2.2 hh).1; have := h.2.1; omega
   have e1 : r.1 = s.1 := by omega
   have e2 : r.2 = s.2 := by
    rcases Int.lt_trichotomy r.2 s.2 with hlt | heq | hgt
    ·exfalso
     have h3 : inS (s :: u) (r.1 + r.2) := inS_cons.2 (Or.inl ⟨by have := h.2.1; omega, by omega⟩)
     rcases inS_cons.1 ((e _).2 h3) with hh | hh
     ·omega
     ·have := (Pl.ge h.2.2.2 hh).1; omega
    ·exact heq
    ·exfalso
     have h3 : inS (r :: t) (s.1 + s.2) := inS_cons.2 (Or.inl ⟨by have := k.2.1; omega, by omega⟩)
     rcases inS_cons.1 ((e _).1 h3) with hh | hh
     ·omega
     ·have := (Pl.ge k.2.2.2 hh).1; omega
   have er : r = s := Prod.ext e1 e2
   subst er
   rw [ih h.2.2.2 k.2.2.2 (fun i => ⟨fun hi => by
    have g := (Pl.ge h.2.2.2 hi).1
    rcases inS_cons.1 ((e i).1 (inS_cons.2 (Or.inr hi))) with hh | hh
    ·omega
    ·exact hh, fun hi => by
    have g := (Pl.ge k.2.2.2 hi).1
    rcases inS_cons.1 ((e i).2 (inS_cons.2 (Or.inr hi))) with hh | hh
    ·omega
    ·exact hh⟩)]
theorem Pl.snoc {a : Int} {l : List (Int × Int)} {r : Int × Int} (h : Pl a l) (ha : a ≤ r.1) (h1 : 1 ≤ r.2) (h2 : r.1 + r.2 ≤ 8192) (hl : ∀ x ∈ l, x.1 + x.2 + 1 ≤ r.1) : Pl a (l ++ [r]) := by
 induction l generalizing a with
 | nil => exact ⟨ha, h1, h2, trivial⟩
 | cons x t ih =>
  obtain ⟨g1, g2, g3, g4⟩ := h
  exact ⟨g1, g2, g3, ih g4 (by have := hl x List.mem_cons_self; omega) (fun y hy => hl y (List.mem_cons_of_mem _ hy))⟩
theorem Pl.init {a : Int} {l : List (Int × Int)} {r : Int × Int} (h : Pl a (l ++ [r])) : Pl a l ∧ a ≤ r.1 ∧ 1 ≤ r.2 ∧ r.1 + r.2 ≤ 8192 ∧ ∀ x ∈ l, x.1 + x.2 + 1 ≤ r.1 := by
 induction l generalizing a with
 | nil => obtain ⟨h1, h2, h3, _⟩ := h; exact ⟨trivial, h1, h2, h3, fun x hx => by cases hx⟩
 | cons x t ih =>
  obtain ⟨g1, g2, g3, g4⟩ := h
  obtain ⟨k1, k2, k3, k4, k5⟩ := ih g4
  exact ⟨⟨g1, g2, g3, k1⟩, by omega, k3, k4, fun y hy => by
   rcases List.mem_cons.1 hy with rfl | hy
   ·omega
   ·exact k5 y hy⟩
theorem Pl.mem {a : Int} {l : List (Int × Int)} (h : Pl a l) {x : Int × Int} (hx : x ∈ l) : a ≤ x.1 ∧ 1 ≤ x.2 ∧ x.1 + x.2 ≤ 8192 := by
 induction l generalizing a with
 | nil => cases hx
 | cons r t ih =>
  obtain ⟨h1, h2, h3, h4⟩ := h
  rcases List.mem_cons.1 hx with rfl | hx
  ·exact ⟨h1, h2, h3⟩
  ·have := ih h4 hx; exact ⟨by omega, this.2⟩
theorem Pl.drop {a : Int} {l : List (Int × Int)} (h : Pl a l) (i : Nat) : Pl a (l.drop i) := by
 induction i generalizing l a with
 | zero => exact h
 | succ i ih =>
  cases l with
  | nil => trivial
  | cons r t => obtain ⟨h1, h2, h3, h4⟩ := h; exact (ih h4).mono (by omega)
theorem Pl.next {a : Int} {l : List (Int × Int)} (h : Pl a l) (i : Nat) (hi : i < l.length) : Pl (l[i].1 + l[i].2 + 1) (l.drop (i + 1)) := by
 have := h.drop i
 rw [List.drop_eq_getElem_cons hi] at this
 exact this.2.2.2
theorem Pl.len {a : Int} {l : List (Int × Int)} (h : Pl a l) : 2 * (l.length : Int) + min a 8194 ≤ 8194 := by
 induction l generalizing a with
 | nil => simp; omega
 | cons r t ih =>
  obtain ⟨h1, h2, h3, h4⟩ := h
  have := ih h4
  rw [List.length_cons]; omega
theorem Pl.len0 {l : List (Int × Int)} (h : Pl 0 l) : l.length ≤ 4097 := by have := h.len; omega
def hasB (l : List (Int × Int)) (k : Nat) : Bool := l.any fun r => decide (r.1 ≤ k) && decide ((k : Int) < r.1 + r.2)
theorem hasB_iff {l : List (Int × Int)} {k : Nat} : hasB l k = true ↔ inS l k := by
 unfold hasB inS
 rw [List.any_eq_true]
 simp
def bump (l : List (Int × Int)) : List (Int × Int) := l.dropLast ++ (match l.getLast? with | some r => [(r.1, r.2 + 1)] | none => [])
theorem bump_snoc (l : List (Int × Int)) (r : Int × Int) : bump (l ++ [r]) = l ++ [(r.1, r.2 + 1)] := by
 unfold bump
 rw [List.getLast?_append, List.dropLast_concat]
 rfl
theorem snoc_of {l : List (Int × Int)} (h : l ≠ []) : ∃ (i : List (Int × Int)) (r : Int × Int), l = i ++ [r] := ⟨l.dropLast, l.getLast h, (List.dropLast_concat_getLast h).symm⟩
def runsF (f : Nat → Bool) : Nat → List (Int × Int)
 | 0 => []
 | k + 1 => if f k = true then (if k ≠ 0 ∧ f (k - 1) = true then bump (runsF f k) else runsF f k ++ [((k : Int), 1)]) else runsF f k
def cntF (f : Nat → Bool) : Nat → Nat
 | 0 => 0
 | k + 1 => cntF f k + if f k = true then 1 else 0
structure RunsOk (f : Nat → Bool) (k : Nat) : Prop where
 pl : Pl 0 (runsF f k)
 is : ∀ j : Int, inS (runsF f k) j ↔ ∃ m : Nat, j = m ∧ m < k ∧ f m = true
 sum : sumLen (runsF f k) = cntF f k
theorem sumLen_append (a b : List (Int × Int)) : sumLen (a ++ b) = sumLen a + sumLen b := by unfold sumLen; rw [List.map_append, List.sum_append]
theorem runs_last {f : Nat → Bool} {k : Nat} (h : RunsOk f k) (hk : k ≠ 0) (hf : f (k - 1) = true) : ∃ (i : List (Int × Int)) (r : Int × Int), runsF f k = i ++ [r] ∧ r.1 + r.2 = (k : Int) := by
 have hin : inS (runsF f k) ((k - 1 : Nat) : Int) := (h.is _).2 ⟨k - 1, rfl, by omega, hf⟩
 have hne : runsF f k ≠ [] := fun e => by rw [e] at hin; exact inS_nil _ hin
 obtain ⟨i, r, e⟩ := snoc_of hne
 refine ⟨i, r, e, ?_⟩
 have hp := h.pl
 rw [e] at hp hin
 obtain ⟨q1, q2, q3, q4, q5⟩ := hp.init
 have hend : r.1 + r.2 - 1 < k := by
  have : inS (runsF f k) (r.1 + r.2 - 1) := by rw [e]; exact inS_append.2 (Or.inr (inS_one.2 (by omega)))
  obtain ⟨m, hm, hm2, _⟩ := (h.is _).1 this
  omega
 rcases inS_append.1 hin with ⟨x, hx, h1, h2⟩ | hh
 ·have := q5 x hx; omega
 ·have := inS_one.1 hh; omega
theorem runs_ok (f : Nat → Bool) (k : Nat) (hk : k ≤ 8192) : RunsOk f k := by
 induction k with
 | zero => exact ⟨trivial, fun j => ⟨fun h => absurd h (inS_nil j), fun ⟨m, _, h, _⟩ => by omega⟩, rfl⟩
 | succ k ih =>
  have ih := ih (by omega)
  by_cases hf : f k = true
  ·by_cases hadj : k ≠ 0 ∧ f (k - 1) = true
   ·obtain ⟨i, r, e, hr⟩ := runs_last ih hadj.1 hadj.2
    have e1 : runsF f (k + 1) = i ++ [(r.1, r.2 + 1)] := by rw [runsF, if_pos hf, if_pos hadj, e, bump_snoc]
    have hp := ih.pl
    rw [e] at hp
    obtain ⟨q1, q2, q3, q4, q5⟩ := hp.init
    refine ⟨?_, fun j => ?_, ?_⟩
    ·rw [e1]; exact q1.snoc q2 (by show 1 ≤ r.2 + 1; omega) (by show r.1 + (r.2 + 1) ≤ 8192; omega) q5
    ·rw [e1, inS_append, inS_one]
     have h1 := ih.is j
     rw [e, inS_append, inS_one] at h1
     constructor
     ·rintro (h | ⟨h2, h3⟩)
      ·obtain ⟨m, g1, g2, g3⟩ := h1.1 (Or.inl h)
       exact ⟨m, g1, by omega, g3⟩
      ·by_cases hj : j < r.1 + r.2
       ·obtain ⟨m, g1, g2, g3⟩ := h1.1 (Or.inr ⟨h2, hj⟩)
        exact ⟨m, g1, by omega, g3⟩
       ·have h3 : j < r.1 + (r.2 + 1) := h3
        exact ⟨k, by omega, by omega, hf⟩
     ·rintro ⟨m, g1, g2, g3⟩
      by_cases hm : m = k
      ·refine Or.inr ⟨?_, ?_⟩
       ·show r.1 ≤ j; omega
       ·show j < r.1 + (r.2 + 1); omega
      ·rcases h1.2 ⟨m, g1, by omega, g3⟩ with h | ⟨h2, h3⟩
       ·exact Or.inl h
       ·exact Or.inr ⟨h2, by show j < r.1 + (r.2 + 1); omega⟩
    ·have := ih.sum
     rw [e, sumLen_append] at this
     rw [e1, sumLen_append, cntF, if_pos hf]
     have e2 : sumLen [(r.1, r.2 + 1)] = sumLen [r] + 1 := by simp [sumLen]
     rw [e2]; omega
   ·have e1 : runsF f (k + 1) = runsF f k ++ [((k : Int), 1)] := by rw [runsF, if_pos hf, if_neg hadj]
    refine ⟨?_, fun j => ?_, ?_⟩
    ·rw [e1]
     refine ih.pl.snoc (by show (0 : Int) ≤ k; omega) (by show (1 : Int) ≤ 1; omega) (by show (k : Int) + 1 ≤ 8192; omega) (fun x hx => ?_)
     have hx2 := ih.pl.mem hx
     obtain ⟨m, g1, g2, g3⟩ := (ih.is (x.1 + x.2 - 1)).1 ⟨x, hx, by omega, by omega⟩
     show x.1 + x.2 + 1 ≤ (k : Int)
     by_cases hm : m = k - 1
     ·subst hm
      exact absurd ⟨by omega, g3⟩ hadj
     ·omega
    ·rw [e1, inS_append, inS_one, ih.is j]
     constructor
     ·rintro (⟨m, g1, g2, g3⟩ | ⟨h2, h3⟩)
      ·exact ⟨m, g1, by omega, g3⟩
      ·have h2 : (k : Int) ≤ j := h2
       have h3 : j < (k : Int) + 1 := h3
       exact ⟨k, by omega, by omega, hf⟩
     ·rintro ⟨m, g1, g2, g3⟩
      by_cases hm : m = k
      ·refine Or.inr ⟨?_, ?_⟩
       ·show (k : Int) ≤ j; omega
       ·show j < (k : Int) + 1; omega
      ·exact Or.inl ⟨m, g1, by omega, g3⟩
    ·rw [e1, sumLen_append, ih.sum, cntF, if_pos hf]
     simp [sumLen]
  ·have e1 : runsF f (k + 1) = runsF f k := by rw [runsF, if_neg hf]
   refine ⟨by rw [e1]; exact ih.pl, fun j => ?_, by rw [e1, ih.sum, cntF, if_neg hf]; omega⟩
   rw [e1, ih.is j]
   constructor
   ·rintro ⟨m, g1, g2, g3⟩; exact ⟨m, g1, by omega, g3⟩
   ·rintro ⟨m, g1, g2, g3⟩
    refine ⟨m, g1, ?_, g3⟩
    by_cases hm : m = k
    ·subst hm; exact absurd g3 hf
    ·omega
def canon (f : Nat → Bool) : List (Int × Int) := runsF f 8192
theorem canon_ok (f : Nat → Bool) : RunsOk f 8192 := runs_ok f 8192 (Nat.le_refl _)
theorem canon_pl (f : Nat → Bool) : Pl 0 (canon f) := (canon_ok f).pl
theorem canon_is (f : Nat → Bool) (j : Int) : inS (canon f) j ↔ ∃ m : Nat, j = m ∧ m < 8192 ∧ f m = true := (canon_ok f).is j
theorem canon_sum (f : Nat → Bool) : sumLen (canon f) = cntF f 8192 := (canon_ok f).sum
theorem canon_eq {p : List (Int × Int)} {f : Nat → Bool} (h : Pl 0 p) (e : ∀ m : Nat, m < 8192 → (inS p m ↔ f m = true)) : p = canon f := by
 refine Pl.uniq h (canon_pl f) (fun i => ?_)
 rw [canon_is]
 constructor
 ·intro hi
  have := h.ge hi
  obtain ⟨m, rfl⟩ := Int.eq_ofNat_of_zero_le this.1
  exact ⟨m, rfl, by omega, (e m (by omega)).1 hi⟩
 ·rintro ⟨m, rfl, h1, h2⟩
  exact (e m h1).2 h2
theorem canon_has (f : Nat → Bool) (m : Nat) (hm : m < 8192) : hasB (canon f) m = f m := by
 rw [Bool.eq_iff_iff, hasB_iff, canon_is]
 constructor
 ·rintro ⟨k, h1, _, h2⟩
  obtain rfl : m = k := by omega
  exact h2
 ·intro h; exact ⟨m, rfl, hm, h⟩
theorem cntF_congr {f g : Nat → Bool} (k : Nat) (h : ∀ m, m < k → f m = g m) : cntF f k = cntF g k := by
 induction k with
 | zero => rfl
 | succ k ih => rw [cntF, cntF, ih (fun m hm => h m (by omega)), h k (by omega)]
theorem runsF_congr {f g : Nat → Bool} (k : Nat) (h : ∀ m, m < k → f m = g m) : runsF f k = runsF g k := by
 induction k with
 | zero => rfl
 | succ k ih =>
  rw [runsF, runsF, ih (fun m hm => h m (by omega)), h k (by omega)]
  by_cases hk : k = 0
  ·subst hk; simp
  ·rw [h (k - 1) (by omega)]
theorem canon_congr {f g : Nat → Bool} (h : ∀ m, m < 8192 → f m = g m) : canon f = canon g := runsF_congr 8192 h
def plainL (l : List (Int × Int)) : List (Int × Int) := canon (hasB l)
def commonL (a b : List (Int × Int)) : List (Int × Int) := canon (fun k => hasB a k && hasB b k)
def minusL (a b : List (Int × Int)) : List (Int × Int) := canon (fun k => hasB a k && !hasB b k)
def countL (l : List (Int × Int)) : Nat := cntF (hasB l) 8192
theorem plain_sum (l : List (Int × Int)) : sumLen (plainL l) = countL l := canon_sum _
theorem plain_self {p : List (Int × Int)} (h : Pl 0 p) : plainL p = p := (canon_eq h (fun m _ => hasB_iff.symm)).symm
theorem hasB_append (a b : List (Int × Int)) (k : Nat) : hasB (a ++ b) k = (hasB a k || hasB b k) := by unfold hasB; rw [List.any_append]
section
variable {w w' : World} {g n : Nat} {t : TypeId} {f : Nat → Value}
end
theorem run_make_rep {P : Program} (t e : TypeId) (i : TypeInfo) (z : Value) (ht : P.underlying t = some (.slice e)) (hi : P.info? e = some i) (hz : i.zero = some z) (hsize : i.size = 1) (hzc : z.cells = #[z])
  (n : Nat) (hb : i.bytes * n ≤ 281474976710656) (hn : n ≤ 9223372036854775807) (w : World) :
  (Instr.makeSlice t (.int .i64 n) (.int .i64 n)).run P w = .ok (.slice (some ⟨w.heap.size, 0, none⟩) n n) (w.alloc (.cells (Array.replicate n z) e)) := by
 have hb' : (i.bytes : Int) * (n : Int) ≤ 281474976710656 := by
  have h : ((i.bytes * n : Nat) : Int) ≤ 281474976710656 := by omega
  rwa [Int.natCast_mul] at h
 have h := run_make (P := P) w t e i z ht hi hz .i64 .i64 n n (by omega) (by omega) hb' (by omega)
 rw [h, hsize, hzc]
 simp only [Int.toNat_natCast, Nat.mul_one]
 congr 3
 apply Array.toList_inj.1
 rw [toList_madeCells_one]
 simp
end Go.Proofs.YtdkimcnlhmhpgaaGreat
