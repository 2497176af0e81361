/- Layer 10 (extent): a list of a map's calls that came in; what the loop of ExtentMaps keeps. -/
import Derived.Test.YtmljbmhalpdpmaaE27
import Derived.Test.YtmljbmhalpdpmaaE12
import Derived.Test.YtmljbmhalpdpmaaRows2
import Derived.ProofKit
import Derived.OpenShut
namespace Go.Proofs.Ytmljbmhalpdpmaa
open Go.ChangeShapes Go.WideShapes Go.ChangeAt Go.RowKit Go.Deep
set_option linter.unusedVariables false
set_option linter.unusedSimpArgs false

/-- a call of a map. -/
structure XAct where
  kind : Int
  n : Int
  l : List (Int × Int)
deriving Inhabited
def XAct.fits (a : XAct) : Prop := (Lit.int .u8 a.kind).wf = true ∧ (Lit.int .i64 a.n).wf = true ∧ ∀ x ∈ a.l, WfRun x
/-- its cells. -/
def XActCells (lo hi : Nat) (w : World) (cs : List Value) (a : XAct) : Prop := ∃ kv, cs = [.int .u8 a.kind, .int .i64 a.n, kv] ∧ RunsIn w kv a.l lo hi ∧ a.fits
def XActsIn (w : World) (v : Value) (l : List XAct) (lo hi : Nat) : Prop := RowsOf 3 (XActCells lo hi) w v l lo hi
theorem XActsIn.kept0 {w w' : World} {v : Value} {l : List XAct} {lo hi : Nat} (h : XActsIn w v l lo hi) (k : Kept [] w w') : XActsIn w' v l lo hi :=
  RowsOf.kept h k (fun x hx => by cases hx) (fun cs a ⟨kv, e1, e2, e3⟩ => ⟨kv, e1, e2.kept0 k, e3⟩)
theorem XActsIn.at_ {w : World} {p : Option Addr} {n c : Nat} {l : List XAct} {lo hi : Nat} (h : XActsIn w (.slice p n c) l lo hi) (i : Nat) (hi' : i < l.length) :
    ∃ b off kv, p = some ⟨b, off, none⟩ ∧ w.cell? ⟨b, off + i * 3, none⟩ = some (.int .u8 l[i].kind) ∧ w.cell? ⟨b, off + i * 3 + 1, none⟩ = some (.int .i64 l[i].n) ∧ w.cell? ⟨b, off + i * 3 + 2, none⟩ = some kv ∧ RunsIn w kv l[i].l lo hi ∧ l[i].fits ∧ lo ≤ b ∧ b < hi ∧ hi ≤ w.heap.size := by
  obtain ⟨b, off, cs, e1, e2, ⟨kv, rfl, e4, e5⟩, e6, e7⟩ := RowsOf.at_ h i hi'
  exact ⟨b, off, kv, e1, e6 0 _ rfl, e6 1 _ rfl, e6 2 _ rfl, e4, e5, e7⟩
section
variable {H : Type} {enc : TypeId × Value → H} {w : World} {base : Nat} {held : Bool} {r : Reach} {b0 : Nat}
set_option maxRecDepth 100000 in
theorem xact_of_trod {fuel : Nat} {cs : List Value} {y : DataW H × List MemPlace} (h : DataW.trod enc Try.prog w base (fun _ => true) held fuel 47 cs = some y) (hl : cs.length = 3) :
    ∃ a, XActCells 0 w.heap.size w cs a := by
  have hc1 : Try.prog.cellsOf 5 = 1 := by kernel_rfl
  have hc2 : Try.prog.cellsOf 3 = 1 := by kernel_rfl
  have hc3 : Try.prog.cellsOf 22 = 1 := by kernel_rfl
  match cs, hl with
  | [c0, c1, c2], _ =>
    obtain ⟨xs, n, _, _, _, hlen, hi⟩ := DataW.trod_struct Try.underlying47 h
    match xs, hlen with
    | [y0, y1, y2], _ =>
      have g0 := hi 0 _ rfl
      have g1 := hi 1 _ rfl
      have g2 := hi 2 _ rfl
      simp only [hc1, hc2, hc3, List.getElem?_cons_succ, List.getElem?_cons_zero, List.drop_succ_cons, List.drop_zero, List.take_succ_cons, List.take_zero] at g0 g1 g2
      obtain ⟨a0, e0, _, w0⟩ := DataW.trod_int Try.underlying5 g0
      obtain ⟨a1, e1, _, w1⟩ := DataW.trod_int Try.underlying3 g1
      obtain ⟨l, hl4, hwl⟩ := runsW_of_trod g2
      injection e0 with e0; injection e1 with e1
      subst e0 e1
      exact ⟨⟨a0, a1, l⟩, c2, rfl, hl4, w0, w1, hwl⟩
set_option maxRecDepth 100000 in
theorem open_xacts {v : Value} {d : DataW H} {p : List MemPlace} (hv : Value.okWide Try.prog w r b0 40 v) (h : DataW.Trod enc Try.prog w base (fun _ => true) held 40 v d p) : ∃ l, XActsIn w v l 0 w.heap.size := by
  obtain ⟨a0, len, cap, rfl⟩ := okWide_slice Try.underlying40 hv
  obtain ⟨fuel, hf⟩ := h
  exact rows_of_trod (R := XActCells 0 w.heap.size) Try.underlying40 (by kernel_rfl) (by omega) (fun n cs y => xact_of_trod) (by simpa [Value.cells] using hf)
end
/-- blocks of other types than runs' and lists of runs', made since w0. -/
def Aside (w0 w : World) (S : List Nat) : Prop := ∀ x ∈ S, w0.heap.size ≤ x ∧ ∃ cs t, Own w x cs t ∧ t ≠ 57 ∧ t ≠ 22
theorem Aside.noRuns {w0 w : World} {S : List Nat} (h : Aside w0 w S) : NoRuns w S := fun x hx => by
  obtain ⟨_, cs, t, o, h1, _⟩ := h x hx; exact ⟨cs, t, o, h1⟩
theorem Aside.one {w0 w : World} {b : Nat} {cs : Array Value} {t : TypeId} (h : Own w b cs t) (hb : w0.heap.size ≤ b) (h1 : t ≠ 57) (h2 : t ≠ 22) : Aside w0 w [b] := fun x hx => by
  have hx : x = b := by simpa using hx
  subst hx
  exact ⟨hb, _, _, h, h1, h2⟩
/-- what was taken so far. -/
structure Took (w0 : World) (v10 : Value) (tk : List (Value × List (Int × Int))) (wr : World) : Prop where
  row : wr.ownsRow w0.heap.size 22 1 v10 tk.length (tk.map fun x => x.1)
  each : ∀ x ∈ tk, RunsRow wr x.1 x.2 ∧ Pl 0 x.2
  kept : Kept [] w0 wr
theorem Took.step {w0 wr wx : World} {v10 : Value} {tk : List (Value × List (Int × Int))} {S : List Nat} (h : Took w0 v10 tk wr) (k : Kept S wr wx) (hS : Aside w0 wr S) : Took w0 v10 tk wx where
  row := ownsRow_keptT h.row k (fun x hx _ cs hc => by
    obtain ⟨_, cs', t, o, _, ht⟩ := hS x hx
    have o' : wr.heap[x]? = some (.cells cs' t (0, 0)) := o
    rw [o'] at hc
    injection hc with hc
    injection hc with _ e
    exact ht e)
  each := fun x hx => ⟨(h.each x hx).1.kept k hS.noRuns, (h.each x hx).2⟩
  kept := h.kept.call k (fun x hx => Or.inr (hS x hx).1)
theorem Took.step0 {w0 wr wx : World} {v10 : Value} {tk : List (Value × List (Int × Int))} (h : Took w0 v10 tk wr) (k : Kept [] wr wx) : Took w0 v10 tk wx := h.step k (fun x hx => by cases hx)
theorem Took.nil (w0 wr : World) (h : Kept [] w0 wr) : Took w0 (.slice none 0 0) [] wr := ⟨World.ownsRow_nil _ _ _ _, fun x hx => (by cases hx), h⟩
/-- the two maps side by side, at the head of a round. -/
structure MapsRel (w0 : World) (b g : Nat) (f s : Int) (T : List (Int × Int)) (vT v10 : Value) (tk : List (Value × List (Int × Int))) (wr : World) : Prop where
  map : MapAt wr b f s (freeL f s T)
  ref : Own wr g #[.int .i64 f, .int .i64 s, vT] 44
  row : RunsRow wr vT T
  pl : Pl 0 T
  win : Within f s T
  took : Took w0 v10 tk wr
  hb : w0.heap.size ≤ b
  hg : w0.heap.size ≤ g
  ne : b ≠ g
/-- what a call has told, of both. -/
structure ToldRel (w0 : World) (b g : Nat) (f s : Int) (gx : Nat) (T : List (Int × Int)) (vT v10 : Value) (tk : List (Value × List (Int × Int))) (u v : Value) (L : List (Int × Int)) (wx : World) : Prop where
  map : MapAt wx b f s (freeL f s T)
  ref : ∃ vO, Own wx g #[.int .i64 f, .int .i64 s, vO] 44
  new : Own wx gx #[.int .i64 f, .int .i64 s, vT] 44
  row : RunsRow wx vT T
  pl : Pl 0 T
  win : Within f s T
  took : Took w0 v10 tk wx
  told : RunsRow wx u L
  got : RunsRow wx v L
  few : Pl 0 L
  hb : w0.heap.size ≤ b
  hg : w0.heap.size ≤ g
  hx : w0.heap.size ≤ gx
  ne : b ≠ g
  nex : gx ≠ g
  nex2 : gx ≠ b
def Told (w0 : World) (b g : Nat) (f s : Int) (m gx : Nat) (v10 v15 u v v18 : Value) (wx : World) : Prop :=
  ∃ C T vT tk L, v15 = .int .i64 C ∧ v18 = .int .i64 C ∧ tk.length ≤ m ∧ ToldRel w0 b g f s gx T vT v10 tk u v L wx
/-- a list that came in, or one of the run's own. -/
def Src (w0 w : World) (v : Value) (l : List (Int × Int)) : Prop := RunsIn w v l 0 w0.heap.size ∨ RunsRow w v l
theorem Src.kept {w0 w w' : World} {v : Value} {l : List (Int × Int)} {S : List Nat} (h : Src w0 w v l) (k : Kept S w w') (hS : Aside w0 w S) : Src w0 w' v l :=
  h.imp (fun h => h.kept k (fun x hx => Or.inr (hS x hx).1)) (fun h => h.kept k hS.noRuns)
theorem Src.kept0 {w0 w w' : World} {v : Value} {l : List (Int × Int)} (h : Src w0 w v l) (k : Kept [] w w') : Src w0 w' v l := h.kept k (fun x hx => by cases hx)
theorem Src.in_ {w0 w : World} {v : Value} {l : List (Int × Int)} (h : Src w0 w v l) : ∃ hi, RunsIn w v l 0 hi := h.elim (fun h => ⟨_, h⟩) (fun h => ⟨_, h.in_⟩)
theorem Src.shape {w0 w : World} {v : Value} {l : List (Int × Int)} (h : Src w0 w v l) : ∃ p c, v = .slice p l.length c := h.elim (fun h => h.shape) (fun h => h.shape)
end Go.Proofs.Ytmljbmhalpdpmaa
