/- What a walk is told of a list of a disk's calls that came in. -/
import Derived.Test.YtkhbobjfmedimaaD5
import Derived.Test.YtkhbobjfmedimaaRows2
import Derived.Deep.Grids
import Derived.ProofKit
import Derived.OpenShut
namespace Go.Proofs.Ytkhbobjfmedimaa
open Go.ChangeShapes Go.WideShapes Go.ChangeAt Go.RowKit Go.Deep
set_option linter.unusedVariables false
set_option linter.unusedSimpArgs false

/-- a call. -/
structure DAct where
  kind : Int
  i : Int
  s : List UInt8
  full : Bool
  keep : List Bool
deriving Inhabited
def DAct.fits (a : DAct) : Prop := (Lit.int .i64 a.kind).wf = true ∧ (Lit.int .i64 a.i).wf = true ∧ a.s.length ≤ maxLen ∧ a.keep.length ≤ maxLen
/-- its cells. -/
def ActCells (lo hi : Nat) (w : World) (cs : List Value) (a : DAct) : Prop := ∃ kv, cs = [.int .i64 a.kind, .int .i64 a.i, .string (bs a.s), .bool a.full, kv] ∧ BoolsIn w kv a.keep lo hi ∧ a.fits
def ActsIn (w : World) (v : Value) (l : List DAct) (lo hi : Nat) : Prop := RowsOf 5 (ActCells lo hi) w v l lo hi
theorem ActsIn.kept {S : List Nat} {w w' : World} {v : Value} {l : List DAct} {lo hi : Nat} (h : ActsIn w v l lo hi) (k : Kept S w w') (hS : ∀ x ∈ S, x < lo ∨ hi ≤ x) : ActsIn w' v l lo hi :=
  RowsOf.kept h k hS (fun cs a ⟨kv, e1, e2, e3⟩ => ⟨kv, e1, e2.kept k hS, e3⟩)
theorem ActsIn.at_ {w : World} {p : Option Addr} {n c : Nat} {l : List DAct} {lo hi : Nat} (h : ActsIn w (.slice p n c) l lo hi) (i : Nat) (hi' : i < l.length) :
    ∃ b off kv, p = some ⟨b, off, none⟩ ∧ w.cell? ⟨b, off + i * 5, none⟩ = some (.int .i64 l[i].kind) ∧ w.cell? ⟨b, off + i * 5 + 1, none⟩ = some (.int .i64 l[i].i) ∧ w.cell? ⟨b, off + i * 5 + 2, none⟩ = some (.string (bs l[i].s)) ∧ w.cell? ⟨b, off + i * 5 + 3, none⟩ = some (.bool l[i].full) ∧ w.cell? ⟨b, off + i * 5 + 4, none⟩ = some kv ∧ BoolsIn w kv l[i].keep lo hi ∧ l[i].fits ∧ lo ≤ b ∧ b < hi ∧ hi ≤ w.heap.size := by
  obtain ⟨b, off, cs, e1, e2, ⟨kv, rfl, e4, e5⟩, e6, e7⟩ := RowsOf.at_ h i hi'
  exact ⟨b, off, kv, e1, e6 0 _ rfl, e6 1 _ rfl, e6 2 _ rfl, e6 3 _ rfl, e6 4 _ rfl, e4, e5, e7⟩
section
variable {H : Type} {enc : TypeId × Value → H} {w : World} {base : Nat} {held : Bool} {r : Reach} {b0 : Nat}
set_option maxRecDepth 100000 in
theorem bools_of_trod {fuel : Nat} {c : Value} {x : DataW H × List MemPlace} (h : DataW.trod enc Try.prog w base (fun _ => true) held fuel 23 [c] = some x) :
    ∃ l, BoolsIn w c l 0 w.heap.size := by
  rcases Go.Deep.open_bools Try.underlying23 Try.underlying4 (by kernel_rfl) h with ⟨e, _⟩ | ⟨a, len, cap, B, e, _, hl, hm, _, hx⟩
  · injection e with e
    exact ⟨[], Or.inl ⟨rfl, _, _, e⟩⟩
  · injection e with e
    subst e
    by_cases h0 : len = 0
    · subst h0; exact ⟨[], Or.inl ⟨rfl, _, _, rfl⟩⟩
    · obtain ⟨b, off, spot⟩ := a
      have hspot : spot = none := by simpa [Addr.add] using World.cell?_spot (hx 0 (by omega))
      subst hspot
      have hb : b < w.heap.size := by
        have := hx 0 (by omega)
        rw [Go.WideShapes.add_plain] at this
        exact World.block_lt_of_cell? _ _ this
      refine ⟨(List.range len).map B, Or.inr ⟨b, off, cap, by simp, fun i hi => ?_, Nat.zero_le _, hb, Nat.le_refl _, fun e => ?_, by simpa using hl, hm⟩⟩
      · have hi' : i < len := by simpa using hi
        have := hx i (by omega)
        rw [Go.WideShapes.add_plain] at this
        rw [this]
        simp
      · have := congrArg List.length e
        simp at this; omega
theorem BoolsIn.len {w : World} {v : Value} {l : List Bool} {lo hi : Nat} (h : BoolsIn w v l lo hi) : l.length ≤ maxLen := by
  rcases h with ⟨rfl, a, c, rfl⟩ | ⟨b, off, c, rfl, _, _, _, _, _, h7, h8⟩
  · exact Nat.zero_le _
  · omega
set_option maxRecDepth 100000 in
theorem act_of_trod {fuel : Nat} {cs : List Value} {y : DataW H × List MemPlace} (h : DataW.trod enc Try.prog w base (fun _ => true) held fuel 30 cs = some y) (hl : cs.length = 5) :
    ∃ a, ActCells 0 w.heap.size w cs a := by
  have hc1 : Try.prog.cellsOf 3 = 1 := by kernel_rfl
  have hc2 : Try.prog.cellsOf 9 = 1 := by kernel_rfl
  have hc3 : Try.prog.cellsOf 4 = 1 := by kernel_rfl
  have hc4 : Try.prog.cellsOf 23 = 1 := by kernel_rfl
  match cs, hl with
  | [c0, c1, c2, c3, c4], _ =>
    obtain ⟨xs, n, _, _, _, hlen, hi⟩ := DataW.trod_struct Try.underlying30 h
    match xs, hlen with
    | [y0, y1, y2, y3, y4], _ =>
      have g0 := hi 0 _ rfl
      have g1 := hi 1 _ rfl
      have g2 := hi 2 _ rfl
      have g3 := hi 3 _ rfl
      have g4 := hi 4 _ rfl
      simp only [hc1, hc2, hc3, hc4, List.getElem?_cons_succ, List.getElem?_cons_zero, List.drop_succ_cons, List.drop_zero, List.take_succ_cons, List.take_zero] at g0 g1 g2 g3 g4
      obtain ⟨a0, e0, _, w0⟩ := DataW.trod_int Try.underlying3 g0
      obtain ⟨a1, e1, _, w1⟩ := DataW.trod_int Try.underlying3 g1
      obtain ⟨a2, e2, _, w2⟩ := DataW.trod_string Try.underlying9 g2
      obtain ⟨a3, e3, _⟩ := DataW.trod_bool Try.underlying4 g3
      obtain ⟨l, hl4⟩ := bools_of_trod g4
      injection e0 with e0; injection e1 with e1; injection e2 with e2; injection e3 with e3
      subst e0 e1 e2 e3
      refine ⟨⟨a0, a1, a2.data.toList, a3, l⟩, c4, by rw [bs_of], hl4, w0, w1, ?_, hl4.len⟩
      show a2.data.toList.length ≤ maxLen
      simpa using w2
theorem open_bools_in {v : Value} {d : DataW H} {p : List MemPlace} (hv : Value.okWide Try.prog w r b0 23 v) (h : DataW.Trod enc Try.prog w base (fun _ => true) held 23 v d p) : ∃ l, BoolsIn w v l 0 w.heap.size := by
  obtain ⟨a0, len, cap, rfl⟩ := okWide_slice Try.underlying23 hv
  obtain ⟨fuel, hf⟩ := h
  exact bools_of_trod (by simpa [Value.cells] using hf)
set_option maxRecDepth 100000 in
theorem open_acts {v : Value} {d : DataW H} {p : List MemPlace} (hv : Value.okWide Try.prog w r b0 22 v) (h : DataW.Trod enc Try.prog w base (fun _ => true) held 22 v d p) : ∃ l, ActsIn w v l 0 w.heap.size := by
  obtain ⟨a0, len, cap, rfl⟩ := okWide_slice Try.underlying22 hv
  obtain ⟨fuel, hf⟩ := h
  exact rows_of_trod (R := ActCells 0 w.heap.size) Try.underlying22 (by kernel_rfl) (by omega) (fun n cs y => act_of_trod) (by simpa [Value.cells] using hf)
end
end Go.Proofs.Ytkhbobjfmedimaa
