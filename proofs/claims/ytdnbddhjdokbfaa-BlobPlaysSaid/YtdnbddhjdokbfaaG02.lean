/- Slices of runs: what they read as; whether runs lie apart: plain laws. -/
import Derived.Test.YtdnbddhjdokbfaaProg
import Derived.Test.YtdnbddhjdokbfaaG01
import Derived.Deep.LoopGhost
import Derived.WalkKit
import Derived.Deep.SlicePairs
import Derived.ProofKit
import Derived.OpenShut
namespace Go.Proofs.Ytdnbddhjdokbfaa
open Go.RowKit
set_option linter.unusedVariables false
set_option linter.unusedSimpArgs false

/-- the slice v reads as the runs l; its block is from lo on, below hi. -/
def RunsIn (w : World) (v : Value) (l : List (Int × Int)) (lo hi : Nat) : Prop :=
  (l = [] ∧ ∃ a c, v = .slice a 0 c) ∨
  ∃ b off c, v = .slice (some ⟨b, off, none⟩) l.length c ∧ (∀ i (h : i < l.length), w.cell? ⟨b, off + i * 2, none⟩ = some (.int .i64 l[i].1) ∧ w.cell? ⟨b, off + i * 2 + 1, none⟩ = some (.int .i64 l[i].2)) ∧ lo ≤ b ∧ b < hi ∧ hi ≤ w.heap.size ∧ l ≠ [] ∧ l.length ≤ c ∧ c ≤ maxLen

theorem RunsIn.kept {S : List Nat} {w w' : World} {v : Value} {l : List (Int × Int)} {lo hi : Nat} (h : RunsIn w v l lo hi) (k : Kept S w w') (hS : ∀ x ∈ S, x < lo ∨ hi ≤ x) : RunsIn w' v l lo hi := by
  rcases h with h | ⟨b, off, c, h1, h2, h3, h4, h5, h6, h7, h8⟩
  · exact Or.inl h
  · refine Or.inr ⟨b, off, c, h1, fun i hi => ?_, h3, h4, Nat.le_trans h5 k.size, h6, h7, h8⟩
    have hb : b ∉ S := fun hb => by have := hS b hb; omega
    rw [k.cell (by show b < _; omega) hb, k.cell (by show b < _; omega) hb]
    exact h2 i hi
theorem RunsIn.kept0 {w w' : World} {v : Value} {l : List (Int × Int)} {lo hi : Nat} (h : RunsIn w v l lo hi) (k : Kept [] w w') : RunsIn w' v l lo hi := h.kept k (fun x hx => by cases hx)
theorem RunsIn.shape {w : World} {v : Value} {l : List (Int × Int)} {lo hi : Nat} (h : RunsIn w v l lo hi) : ∃ p c, v = .slice p l.length c := by
  rcases h with ⟨rfl, a, c, rfl⟩ | ⟨b, off, c, rfl, _⟩
  · exact ⟨a, c, rfl⟩
  · exact ⟨_, c, rfl⟩
theorem RunsIn.at_ {w : World} {p : Option Addr} {n c : Nat} {l : List (Int × Int)} {lo hi : Nat} (h : RunsIn w (.slice p n c) l lo hi) (i : Nat) (hi' : i < l.length) :
    ∃ b off, p = some ⟨b, off, none⟩ ∧ w.cell? ⟨b, off + i * 2, none⟩ = some (.int .i64 l[i].1) ∧ w.cell? ⟨b, off + i * 2 + 1, none⟩ = some (.int .i64 l[i].2) ∧ b < w.heap.size ∧ l.length ≤ c ∧ c ≤ maxLen := by
  rcases h with ⟨rfl, _⟩ | ⟨b, off, c', e, h2, h3, h4, h5, _, h6, h7⟩
  · simp at hi'
  · simp at e
    obtain ⟨e1, rfl, rfl⟩ := e
    exact ⟨b, off, e1, (h2 i hi').1, (h2 i hi').2, by omega, h6, h7⟩

/-- may a run be, between a first sector and a number of them? -/
def okRun (f s : Int) (a : Int × Int) : Bool := !(decide (a.1 < f) || decide (a.2 < 1) || decide (s < a.1) || decide (s - a.1 < a.2))
/-- do two runs lie apart? -/
def apart (a b : Int × Int) : Bool := !(decide (a.1 < b.1 + b.2) && decide (b.1 < a.1 + a.2))
/-- do the first so many runs lie as they may? -/
def lieTo (f s : Int) (l : List (Int × Int)) : Nat → Bool
  | 0 => true
  | i + 1 => lieTo f s l i && (match l[i]? with | some a => okRun f s a && (l.take i).all (apart a) | none => true)
def lies (f s : Int) (l : List (Int × Int)) : Bool := lieTo f s l l.length
def sumLen (l : List (Int × Int)) : Int := (l.map (·.2)).sum
theorem lieTo_succ (f s : Int) (l : List (Int × Int)) (i : Nat) (h : i < l.length) : lieTo f s l (i + 1) = (lieTo f s l i && (okRun f s l[i] && (l.take i).all (apart l[i]))) := by
  rw [lieTo, List.getElem?_eq_getElem h]
theorem lieTo_false (f s : Int) (l : List (Int × Int)) (i j : Nat) (hij : i ≤ j) (h : lieTo f s l i = false) : lieTo f s l j = false := by
  induction j with
  | zero => obtain rfl : i = 0 := by omega
            exact h
  | succ j ih =>
    by_cases he : i = j + 1
    · subst he; exact h
    · rw [lieTo, ih (by omega), Bool.false_and]
theorem lies_no (f s : Int) (l : List (Int × Int)) (i : Nat) (h : i < l.length) (hno : (okRun f s l[i] && (l.take i).all (apart l[i])) = false) : lies f s l = false :=
  lieTo_false f s l (i + 1) l.length (by omega) (by rw [lieTo_succ f s l i h, hno, Bool.and_false])
theorem all_take_succ (a : Int × Int) (l : List (Int × Int)) (m : Nat) (h : m < l.length) : (l.take (m + 1)).all (apart a) = ((l.take m).all (apart a) && apart a l[m]) := by
  rw [List.take_succ_eq_append_getElem h, List.all_append]; simp
theorem all_take_no (a : Int × Int) (l : List (Int × Int)) (m k : Nat) (h : m < l.length) (hmk : m < k) (hno : apart a l[m] = false) : (l.take k).all (apart a) = false := by
  rw [List.all_eq_false]
  refine ⟨l[m], ?_, by simp [hno]⟩
  rw [List.mem_take_iff_getElem]
  exact ⟨m, by omega, rfl⟩
theorem okRun_iff {f s : Int} {a : Int × Int} : okRun f s a = true ↔ f ≤ a.1 ∧ 1 ≤ a.2 ∧ a.1 ≤ s ∧ a.2 ≤ s - a.1 := by
  unfold okRun; simp; omega
theorem apart_iff {a b : Int × Int} : apart a b = true ↔ a.1 + a.2 ≤ b.1 ∨ b.1 + b.2 ≤ a.1 := by
  unfold apart; simp; omega
theorem lieTo_ok {f s : Int} {l : List (Int × Int)} {i : Nat} (hi : i ≤ l.length) (h : lieTo f s l i = true) : ∀ k (hk : k < i), okRun f s (l[k]'(by omega)) = true := by
  induction i with
  | zero => intro k hk; omega
  | succ i ih =>
    intro k hk
    rw [lieTo_succ f s l i (by omega), Bool.and_eq_true, Bool.and_eq_true] at h
    by_cases e : k = i
    · subst e; exact h.2.1
    · exact ih (by omega) h.1 k (by omega)
theorem sumLen_take (l : List (Int × Int)) (i : Nat) (h : i < l.length) : sumLen (l.take (i + 1)) = sumLen (l.take i) + l[i].2 := by
  unfold sumLen; rw [List.take_succ_eq_append_getElem h, List.map_append, List.sum_append]; simp
theorem sumLen_bd {f s : Int} {l : List (Int × Int)} {i : Nat} (hi : i ≤ l.length) (h : lieTo f s l i = true) (h0 : 0 ≤ f) (hs : s ≤ 8192) : 0 ≤ sumLen (l.take i) ∧ sumLen (l.take i) ≤ 8192 * i := by
  induction i with
  | zero => simp [sumLen]
  | succ i ih =>
    have h1 := okRun_iff.1 (lieTo_ok hi h i (by omega))
    rw [lieTo_succ f s l i (by omega), Bool.and_eq_true] at h
    have h2 := ih (by omega) h.1
    rw [sumLen_take l i (by omega)]
    omega
end Go.Proofs.Ytdnbddhjdokbfaa

/- What a walk is told of a list of runs that came in. -/
namespace Go.Proofs.Ytdnbddhjdokbfaa
open Go.ChangeShapes Go.WideShapes Go.ChangeAt Go.RowKit Go.Deep
set_option linter.unusedVariables false
set_option linter.unusedSimpArgs false

def WfRun (a : Int × Int) : Prop := -9223372036854775808 ≤ a.1 ∧ a.1 ≤ 9223372036854775807 ∧ -9223372036854775808 ≤ a.2 ∧ a.2 ≤ 9223372036854775807
section
variable {H : Type} {enc : TypeId × Value → H} {w : World} {base : Nat} {held : Bool} {r : Reach} {b0 : Nat}
set_option maxRecDepth 100000 in
theorem runsW_of_trod {fuel : Nat} {c : Value} {x : DataW H × List MemPlace} (h : DataW.trod enc Try.prog w base (fun _ => true) held fuel 22 [c] = some x) :
    ∃ l, RunsIn w c l 0 w.heap.size ∧ ∀ a ∈ l, WfRun a := by
  rcases open_slice_pairs Try.underlying22 Try.underlying66 (by kernel_rfl) rfl rfl (by kernel_rfl) (by kernel_rfl) h with ⟨e, _⟩ | ⟨a, len, cap, m, n, V0, V1, D0, D1, P0, P1, e, _, hl, hm, hz, _, hx⟩
  · injection e with e
    exact ⟨[], Or.inl ⟨rfl, _, _, e⟩, fun a ha => by cases ha⟩
  · injection e with e
    subst e
    simp only [if_true] at hz
    by_cases h0 : len = 0
    · subst h0; exact ⟨[], Or.inl ⟨rfl, _, _, rfl⟩, fun a ha => by cases ha⟩
    · obtain ⟨b, off, spot⟩ := a
      have hspot : spot = none := by simpa [Addr.add] using World.cell?_spot (hx 0 (by omega)).1
      subst hspot
      have hb : b < w.heap.size := by
        have := (hx 0 (by omega)).1
        rw [Go.WideShapes.add_plain] at this
        exact World.block_lt_of_cell? _ _ this
      refine ⟨(List.range len).map fun i => (intOf (V0 i), intOf (V1 i)), Or.inr ⟨b, off, cap, by simp, fun i hi => ?_, Nat.zero_le _, hb, Nat.le_refl _, fun e => ?_, by simpa using hl, hm⟩, fun a ha => ?_⟩
      · have hi' : i < len := by simpa using hi
        obtain ⟨q0, q1, q2, q3⟩ := hx i (by omega)
        obtain ⟨y0, e0, _⟩ := DataW.trod_int Try.underlying3 q2
        obtain ⟨y1, e1, _⟩ := DataW.trod_int Try.underlying3 q3
        injection e0 with e0
        injection e1 with e1
        rw [Go.WideShapes.add_plain] at q0 q1
        rw [show off + i * 2 + 1 = off + (i * 2 + 1) from rfl, q0, q1]
        simp [e0, e1, intOf]
      · have := congrArg List.length e
        simp at this; omega
      · rw [List.mem_map] at ha
        obtain ⟨i, hi, rfl⟩ := ha
        have hi' : i < len := List.mem_range.1 hi
        obtain ⟨q0, q1, q2, q3⟩ := hx i (by omega)
        obtain ⟨y0, e0, _, u0⟩ := DataW.trod_int Try.underlying3 q2
        obtain ⟨y1, e1, _, u1⟩ := DataW.trod_int Try.underlying3 q3
        injection e0 with e0
        injection e1 with e1
        rw [e0, e1]
        simp only [Lit.wf, Bool.and_eq_true, decide_eq_true_eq] at u0 u1
        exact ⟨u0.1, u0.2, u1.1, u1.2⟩
set_option maxRecDepth 100000 in
theorem open_runs {v : Value} {d : DataW H} {p : List MemPlace} (hv : Value.okWide Try.prog w r b0 22 v) (h : DataW.Trod enc Try.prog w base (fun _ => true) held 22 v d p) : ∃ l, RunsIn w v l 0 w.heap.size ∧ ∀ a ∈ l, WfRun a := by
  obtain ⟨a0, len, cap, rfl⟩ := okWide_slice Try.underlying22 hv
  obtain ⟨fuel, hf⟩ := h
  exact runsW_of_trod (by simpa [Value.cells] using hf)
end
end Go.Proofs.Ytdnbddhjdokbfaa
