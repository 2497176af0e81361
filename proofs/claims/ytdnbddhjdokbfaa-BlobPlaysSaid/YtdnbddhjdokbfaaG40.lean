/- Layer 12 (blob): what a walk is told of a list of acts that came in; what an act makes of a disk: plain. -/
import Derived.Test.YtdnbddhjdokbfaaG02
import Derived.Test.YtdnbddhjdokbfaaG19
import Derived.Test.YtdnbddhjdokbfaaG23
import Derived.Test.YtdnbddhjdokbfaaG34
import Derived.Test.YtdnbddhjdokbfaaG35
import Derived.Deep.RegionHeld3
namespace Go.Proofs.Ytdnbddhjdokbfaa
open Go.ChangeShapes Go.WideShapes Go.ChangeAt Go.RowKit Go.Deep
set_option linter.unusedVariables false
set_option linter.unusedSimpArgs false

/-- an act. -/
structure BAct where
  kind : Int
  runs : List (Int × Int)
  dst : List (Int × Int)
  size : Int
  byte : Int
  fuse : Int
deriving Inhabited
def BAct.fits (a : BAct) : Prop := (Lit.int .u8 a.kind).wf = true ∧ (∀ r ∈ a.runs, WfRun r) ∧ (∀ r ∈ a.dst, WfRun r) ∧ (Lit.int .i64 a.size).wf = true ∧ (Lit.int .u8 a.byte).wf = true ∧ (Lit.int .i64 a.fuse).wf = true
/-- its cells. -/
def BActCells (lo hi : Nat) (w : World) (cs : List Value) (a : BAct) : Prop := ∃ rv tv, cs = [.int .u8 a.kind, rv, tv, .int .i64 a.size, .int .u8 a.byte, .int .i64 a.fuse] ∧ RunsIn w rv a.runs lo hi ∧ RunsIn w tv a.dst lo hi ∧ a.fits
def BActsIn (w : World) (v : Value) (l : List BAct) (lo hi : Nat) : Prop := RowsOf 6 (BActCells lo hi) w v l lo hi
set_option maxRecDepth 100000 in
theorem BActsIn.kept0 {w w' : World} {v : Value} {l : List BAct} {lo hi : Nat} (h : BActsIn w v l lo hi) (k : Kept [] w w') : BActsIn w' v l lo hi :=
  RowsOf.kept h k (fun x hx => by cases hx) (fun cs a ⟨rv, tv, e1, e2, e3, e4⟩ => ⟨rv, tv, e1, e2.kept0 k, e3.kept0 k, e4⟩)
set_option maxRecDepth 100000 in
theorem BActsIn.at_ {w : World} {p : Option Addr} {n c : Nat} {l : List BAct} {lo hi : Nat} (h : BActsIn w (.slice p n c) l lo hi) (i : Nat) (hi' : i < l.length) :
    ∃ b off rv tv, p = some ⟨b, off, none⟩ ∧ (w.cell? ⟨b, off + i * 6, none⟩ = some (.int .u8 l[i].kind) ∧ w.cell? ⟨b, off + i * 6 + 1, none⟩ = some rv ∧ w.cell? ⟨b, off + i * 6 + 2, none⟩ = some tv ∧ w.cell? ⟨b, off + i * 6 + 3, none⟩ = some (.int .i64 l[i].size) ∧ w.cell? ⟨b, off + i * 6 + 4, none⟩ = some (.int .u8 l[i].byte) ∧ w.cell? ⟨b, off + i * 6 + 5, none⟩ = some (.int .i64 l[i].fuse)) ∧ RunsIn w rv l[i].runs lo hi ∧ RunsIn w tv l[i].dst lo hi ∧ l[i].fits ∧ lo ≤ b ∧ b < hi ∧ hi ≤ w.heap.size := by
  obtain ⟨b, off, cs, e1, e2, ⟨rv, tv, rfl, e4, e5, e6⟩, e7, e8⟩ := RowsOf.at_ h i hi'
  exact ⟨b, off, rv, tv, e1, ⟨e7 0 _ rfl, e7 1 _ rfl, e7 2 _ rfl, e7 3 _ rfl, e7 4 _ rfl, e7 5 _ rfl⟩, e4, e5, e6, e8⟩
section
variable {H : Type} {enc : TypeId × Value → H} {w : World} {base : Nat} {held : Bool} {r : Reach} {b0 : Nat}
set_option maxRecDepth 100000 in
theorem bact_of_trod {fuel : Nat} {cs : List Value} {y : DataW H × List MemPlace} (h : DataW.trod enc Try.prog w base (fun _ => true) held fuel 55 cs = some y) (hl : cs.length = 6) :
    ∃ a, BActCells 0 w.heap.size w cs a := by
  have hc0 : Try.prog.cellsOf 5 = 1 := by kernel_rfl
  have hc1 : Try.prog.cellsOf 22 = 1 := by kernel_rfl
  have hc2 : Try.prog.cellsOf 3 = 1 := by kernel_rfl
  match cs, hl with
  | [c0, c1, c2, c3, c4, c5], _ =>
    obtain ⟨xs, n, _, _, _, hlen, hi⟩ := DataW.trod_struct Try.underlying55 h
    match xs, hlen with
    | [y0, y1, y2, y3, y4, y5], _ =>
      have g0 := hi 0 _ rfl
      have g1 := hi 1 _ rfl
      have g2 := hi 2 _ rfl
      have g3 := hi 3 _ rfl
      have g4 := hi 4 _ rfl
      have g5 := hi 5 _ rfl
      simp only [hc0, hc1, hc2, List.getElem?_cons_succ, List.getElem?_cons_zero, List.drop_succ_cons, List.drop_zero, List.take_succ_cons, List.take_zero] at g0 g1 g2 g3 g4 g5
      obtain ⟨a0, e0, _, w0⟩ := DataW.trod_int Try.underlying5 g0
      obtain ⟨l1, hl1, hw1⟩ := runsW_of_trod g1
      obtain ⟨l2, hl2, hw2⟩ := runsW_of_trod g2
      obtain ⟨a3, e3, _, w3⟩ := DataW.trod_int Try.underlying3 g3
      obtain ⟨a4, e4, _, w4⟩ := DataW.trod_int Try.underlying5 g4
      obtain ⟨a5, e5, _, w5⟩ := DataW.trod_int Try.underlying3 g5
      injection e0 with e0; injection e3 with e3; injection e4 with e4; injection e5 with e5
      subst e0 e3 e4 e5
      exact ⟨⟨a0, l1, l2, a3, a4, a5⟩, c1, c2, rfl, hl1, hl2, w0, hw1, hw2, w3, w4, w5⟩
set_option maxRecDepth 100000 in
theorem open_bacts {v : Value} {d : DataW H} {p : List MemPlace} (hv : Value.okWide Try.prog w r b0 49 v) (h : DataW.Trod enc Try.prog w base (fun _ => true) held 49 v d p) : ∃ l, BActsIn w v l 0 w.heap.size := by
  obtain ⟨a0, len, cap, rfl⟩ := okWide_slice Try.underlying49 hv
  obtain ⟨fuel, hf⟩ := h
  exact rows_of_trod (R := BActCells 0 w.heap.size) Try.underlying49 (by kernel_rfl) (by omega) (fun n cs y => bact_of_trod) (by simpa [Value.cells] using hf)
end
/-! ### what stands on a disk whose fuse is told otherwise -/
theorem getL_nrm (d : DK) (al : List Nat) : getL (nrm d) al = getL d al := by
  unfold getL
  congr 1
theorem putL_nrm (al : List Nat) : ∀ (d : DK) (s : List UInt8), putL al (nrm d) s = (nrm (putL al d s).1, (putL al d s).2) := by
  induction al with
  | nil => intro d s; rfl
  | cons a t ih =>
    intro d s
    unfold putL
    rw [wCode_nrm, wNext_nrm]
    by_cases h : wCode d a (chunk s) = 0
    · rw [if_pos h, if_pos h, ih]
    · rw [if_neg h, if_neg h]
theorem putX_nrm (d : DK) (l : List (Int × Int)) (s : List UInt8) : putX (nrm d) l s = (nrm (putX d l s).1, (putX d l s).2) := by
  unfold putX
  by_cases h : FitX l d.stand.length s.length
  · rw [if_pos (show FitX l (nrm d).stand.length s.length from h), if_pos h]
    by_cases h2 : d.down = true
    · rw [if_pos (show (nrm d).down = true from h2), if_pos h2]
    · rw [if_neg (show ¬ (nrm d).down = true from h2), if_neg h2, putL_nrm]
  · rw [if_neg (show ¬ FitX l (nrm d).stand.length s.length from h), if_neg h]
theorem getCode_nrm (d : DK) (l : List (Int × Int)) (n : Int) : getCode (nrm d) l n = getCode d l n := rfl
theorem getX_nrm (d : DK) (l : List (Int × Int)) (n : Int) : getX (nrm d) l n = getX d l n := by
  unfold getX
  rw [getCode_nrm, getL_nrm]
theorem copyX_nrm (d : DK) (l m : List (Int × Int)) (n : Int) : copyX (nrm d) l m n = (nrm (copyX d l m n).1, (copyX d l m n).2) := by
  unfold copyX
  by_cases h : FitX l d.stand.length n ∧ FitX m d.stand.length n ∧ countL (commonL l m) = 0
  · rw [if_pos (show FitX l (nrm d).stand.length n ∧ FitX m (nrm d).stand.length n ∧ countL (commonL l m) = 0 from h), if_pos h, getCode_nrm, getX_nrm]
    by_cases h2 : getCode d l n = 0
    · rw [if_pos h2, if_pos h2, putX_nrm]
    · rw [if_neg h2, if_neg h2]
  · rw [if_neg (show ¬ (FitX l (nrm d).stand.length n ∧ FitX m (nrm d).stand.length n ∧ countL (commonL l m) = 0) from h), if_neg h]
/-! ### how many calls a disk has behind what is put -/
theorem putL_ops (al : List Nat) : ∀ (d : DK) (s : List UInt8), (putL al d s).1.ops ≤ d.ops + al.length ∧ (putL al d s).1.waits.length ≤ d.waits.length + al.length ∧ (putL al d s).1.stand.length = d.stand.length := by
  induction al with
  | nil => intro d s; exact ⟨Nat.le_refl _, Nat.le_refl _, rfl⟩
  | cons a t ih =>
    intro d s
    have h1 := wNext_ops d a (chunk s)
    unfold putL
    rw [List.length_cons]
    split
    · have h2 := ih (wNext d a (chunk s)) (s.drop 128)
      exact ⟨by (try dsimp only); omega, by (try dsimp only); omega, by rw [h2.2.2, h1.2.2]⟩
    · exact ⟨by (try dsimp only); omega, by (try dsimp only); omega, h1.2.2⟩
theorem nodup_le (n : Nat) : ∀ l : List Nat, l.Nodup → (∀ m ∈ l, m < n) → l.length ≤ n := by
  induction n with
  | zero => intro l _ h; cases l with
    | nil => exact Nat.le_refl _
    | cons a t => exact absurd (h a List.mem_cons_self) (by omega)
  | succ n ih =>
    intro l hn h
    have h1 := ih (l.erase n) (hn.erase n) (fun m hm => by
      have h2 := hn.mem_erase_iff.1 hm
      have := h m h2.2
      omega)
    by_cases hm : n ∈ l
    · have := List.length_erase_of_mem hm
      omega
    · rw [List.erase_of_not_mem hm] at h1
      omega
theorem fitX_few {l : List (Int × Int)} {n : Nat} {size : Int} (h : FitX l n size) : (secsL l).length ≤ n :=
  nodup_le n _ (secsL_nodup h.2.2.1) (fun m hm => by have := (h.lt hm).1; omega)
theorem putX_ops (d : DK) (l : List (Int × Int)) (s : List UInt8) : (putX d l s).1.ops ≤ d.ops + d.stand.length ∧ (putX d l s).1.waits.length ≤ d.waits.length + d.stand.length ∧ (putX d l s).1.stand.length = d.stand.length := by
  unfold putX
  split
  · rename_i h
    have hf := fitX_few h
    split
    · exact ⟨by (try dsimp only); omega, by (try dsimp only); omega, rfl⟩
    · have := putL_ops (secsL l) d s
      exact ⟨by (try dsimp only); omega, by (try dsimp only); omega, this.2.2⟩
  · exact ⟨by (try dsimp only); omega, by (try dsimp only); omega, rfl⟩
theorem copyX_ops (d : DK) (l m : List (Int × Int)) (n : Int) : (copyX d l m n).1.ops ≤ d.ops + d.stand.length ∧ (copyX d l m n).1.waits.length ≤ d.waits.length + d.stand.length ∧ (copyX d l m n).1.stand.length = d.stand.length := by
  unfold copyX
  split
  · split
    · exact putX_ops d m _
    · exact ⟨by (try dsimp only); omega, by (try dsimp only); omega, rfl⟩
  · exact ⟨by (try dsimp only); omega, by (try dsimp only); omega, rfl⟩
/-- the text that an act puts. -/
def BAct.text (a : BAct) : List UInt8 := fillB (min (max a.size 0) 3000).toNat (UInt8.ofNat a.byte.toNat)
/-- a disk behind an act. -/
noncomputable def bNext (d0 : DK) (a : BAct) : DK :=
  let d := if 0 ≤ a.fuse then fuseR d0 a.fuse else d0
  if a.kind % 6 = 0 ∨ a.kind % 6 = 1 then (putX d (a.runs.take 20) a.text).1
  else if a.kind % 6 = 2 then d
  else if a.kind % 6 = 3 then (copyX d (a.runs.take 20) (a.dst.take 20) a.size).1
  else if a.kind % 6 = 4 then fNext d
  else powerD d []
theorem fNext_ops (d : DK) : (fNext d).ops ≤ d.ops + 1 ∧ (fNext d).waits.length ≤ d.waits.length ∧ (fNext d).stand.length = d.stand.length := by
  unfold fNext
  split
  · exact ⟨by (try dsimp only); omega, by (try dsimp only); omega, rfl⟩
  · split
    · exact ⟨Nat.le_refl _, Nat.le_refl _, rfl⟩
    · exact ⟨Nat.le_refl _, Nat.zero_le _, settle_len _ _⟩
theorem bNext_ops (d0 : DK) (a : BAct) : (bNext d0 a).ops ≤ d0.ops + d0.stand.length + 1 ∧ (bNext d0 a).waits.length ≤ d0.waits.length + d0.stand.length ∧ (bNext d0 a).stand.length = d0.stand.length := by
  obtain ⟨d, hd, e1, e2, e3⟩ : ∃ d, (if 0 ≤ a.fuse then fuseR d0 a.fuse else d0) = d ∧ d.ops = d0.ops ∧ d.waits = d0.waits ∧ d.stand = d0.stand := by
    by_cases h : 0 ≤ a.fuse
    · exact ⟨_, if_pos h, rfl, rfl, rfl⟩
    · exact ⟨_, if_neg h, rfl, rfl, rfl⟩
  unfold bNext
  simp only [hd]
  rw [← e1, ← e2, ← e3]
  split
  · have := putX_ops d (a.runs.take 20) a.text
    exact ⟨by (try dsimp only); omega, by (try dsimp only); omega, this.2.2⟩
  · split
    · exact ⟨by (try dsimp only); omega, by (try dsimp only); omega, rfl⟩
    · split
      · have := copyX_ops d (a.runs.take 20) (a.dst.take 20) a.size
        exact ⟨by (try dsimp only); omega, by (try dsimp only); omega, this.2.2⟩
      · split
        · have := fNext_ops d
          exact ⟨by (try dsimp only); omega, by (try dsimp only); omega, this.2.2⟩
        · refine ⟨?_, Nat.zero_le _, power_len d []⟩
          show d.ops ≤ _
          omega
end Go.Proofs.Ytdnbddhjdokbfaa

/- Walks of chapter 9's law: an act, done to both disks. -/
namespace Go.Proofs.Ytdnbddhjdokbfaa
open Go.RowKit Go.Maps
set_option linter.unusedVariables false
set_option linter.unusedSimpArgs false

theorem BKept.own {b sb mb lo r : Nat} {w w' : World} {g : Nat} {cs : Array Value} {t : TypeId} (k : BKept b sb mb lo r w w') (o : Own w g cs t) (h1 : b < g) (h2 : sb < g) (h3 : mb < g) (h4 : r < g) (ht : t ≠ 97) : Own w' g cs t :=
  Eq.trans (k.2.2.2.2 g o.lt (by omega) (by omega) (by omega) (by omega) (Or.inr (fun cs2 f hc => by
    have o' : w.heap[g]? = some (.cells cs t (0, 0)) := o
    rw [o'] at hc
    injection hc with hc
    injection hc with _ e
    exact ht e))) o
theorem Both.lt {W0 w : World} {b sb mb lo r rlo : Nat} {d rd : DK} (h : Both W0 w b sb mb lo r rlo d rd) : b < w.heap.size ∧ sb < w.heap.size ∧ mb < w.heap.size ∧ r < w.heap.size := by
  obtain ⟨wv, n, o, os, hwr, hm, _⟩ := h.alone.disk
  obtain ⟨v0, v1, o2⟩ := h.ref.own
  exact ⟨o.lt, os.lt, hm.lt, o2.lt⟩
/-- what an act writes. -/
def dtextL (a : DAct) : List UInt8 := if a.full = true then sectorL a.s else a.s
def actArr (a : DAct) (kv : Value) : Array Value := #[.int .i64 a.kind, .int .i64 a.i, .string (bs a.s), .bool a.full, kv]
/-- what an act leaves. -/
def aNext (d : DK) (a : DAct) : DK :=
  if a.kind = 1 then d else if a.kind = 2 then fNext d else if a.kind = 3 then fuseR d a.i else if a.kind = 4 then powerD d a.keep else if a.kind = 5 then sNext d a.i a.s else wNext d a.i (dtextL a)
def DoesSays (W0 : World) (b sb mb lo r rlo : Nat) (d : DK) (a : DAct) (e : Ending) (w' : World) : Prop := e = .returned (.bool true) ∧ Both W0 w' b sb mb lo r rlo (nrm (aNext d a)) (aNext d a)
end Go.Proofs.Ytdnbddhjdokbfaa
