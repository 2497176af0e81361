/- -/
import Derived.Test.YtdkimcnlhmhpgaaGreatG01
import Derived.Test.YtdkimcnlhmhpgaaGreatG04
import Derived.Test.YtdkimcnlhmhpgaaGreatG09
import Derived.Deep.Slices
import Derived.ChangeSame
import Derived.Deep.Grids
import Derived.ProofKit
import Derived.OpenShut
import Derived.Deep.RegionLaw
import Derived.Laws.BitsAllLaws
set_option linter.unusedVariables false
set_option linter.unusedSimpArgs false
namespace Go.Proofs.YtdkimcnlhmhpgaaGreat
open Go.ChangeShapes Go.WideShapes Go.ChangeAt Go.RowKit Go.Deep
def RowsOf {α : Type} (k : Nat) (R : World → List Value → α → Prop) (w : World) (v : Value) (l : List α) (lo hi : Nat) : Prop :=
  (l = [] ∧ ∃ a c, v = .slice a 0 c) ∨
  ∃ b off c, v = .slice (some ⟨b, off, none⟩) l.length c ∧ (∀ i (h : i < l.length), ∃ cs, cs.length = k ∧ R w cs l[i] ∧ ∀ j u, cs[j]? = some u → w.cell? ⟨b, off + (i * k + j), none⟩ = some u) ∧ lo ≤ b ∧ b < hi ∧ hi ≤ w.heap.size ∧ l ≠ [] ∧ l.length ≤ c ∧ c ≤ maxLen
section
variable {α : Type} {k : Nat} {R : World → List Value → α → Prop} {w w' : World} {v : Value} {l : List α} {lo hi : Nat}
theorem RowsOf.kept {S : List Nat} (h : RowsOf k R w v l lo hi) (kk : Kept S w w') (hS : ∀ x ∈ S, x < lo ∨ hi ≤ x) (hR : ∀ cs a, R w cs a → R w' cs a) : RowsOf k R w' v l lo hi := by
  rcases h with h | ⟨b, off, c, h1, h2, h3, h4, h5, h6, h7, h8⟩
  · exact Or.inl h
  · refine Or.inr ⟨b, off, c, h1, fun i hi => ?_, h3, h4, Nat.le_trans h5 kk.size, h6, h7, h8⟩
    have hb : b ∉ S := fun hb => by have := hS b hb; omega
    obtain ⟨cs, e1, e2, e3⟩ := h2 i hi
    refine ⟨cs, e1, hR _ _ e2, fun j u hu => ?_⟩
    rw [kk.cell (by show b < _; omega) hb]
    exact e3 j u hu
theorem RowsOf.shape (h : RowsOf k R w v l lo hi) : ∃ p c, v = .slice p l.length c := by
  rcases h with ⟨rfl, a, c, rfl⟩ | ⟨b, off, c, rfl, _⟩
  · exact ⟨a, c, rfl⟩
  · exact ⟨_, c, rfl⟩
theorem RowsOf.len (h : RowsOf k R w v l lo hi) : l.length ≤ maxLen := by
  rcases h with ⟨rfl, a, c, rfl⟩ | ⟨b, off, c, rfl, _, _, _, _, _, h7, h8⟩
  · exact Nat.zero_le _
  · omega
theorem RowsOf.at_ {p : Option Addr} {n c : Nat} (h : RowsOf k R w (.slice p n c) l lo hi) (i : Nat) (hi' : i < l.length) :
    ∃ b off cs, p = some ⟨b, off, none⟩ ∧ cs.length = k ∧ R w cs l[i] ∧ (∀ j u, cs[j]? = some u → w.cell? ⟨b, off + (i * k + j), none⟩ = some u) ∧ lo ≤ b ∧ b < hi ∧ hi ≤ w.heap.size := by
  rcases h with ⟨rfl, _⟩ | ⟨b, off, c', e, h2, h3, h4, h5, _, h6, h7⟩
  · simp at hi'
  · simp at e
    obtain ⟨e1, rfl, rfl⟩ := e
    obtain ⟨cs, q1, q2, q3⟩ := h2 i hi'
    exact ⟨b, off, cs, e1, q1, q2, q3, h3, h4, h5⟩
end
structure DAct where
  kind : Int
  i : Int
  s : List UInt8
  full : Bool
  keep : List Bool
deriving Inhabited
def DAct.fits (a : DAct) : Prop := (Lit.int .i64 a.kind).wf = true ∧ (Lit.int .i64 a.i).wf = true ∧ a.s.length ≤ maxLen ∧ a.keep.length ≤ maxLen
def ActCells (lo hi : Nat) (w : World) (cs : List Value) (a : DAct) : Prop := ∃ kv, cs = [.int .i64 a.kind, .int .i64 a.i, .string (bs a.s), .bool a.full, kv] ∧ BoolsIn w kv a.keep lo hi ∧ a.fits
def ActsIn (w : World) (v : Value) (l : List DAct) (lo hi : Nat) : Prop := RowsOf 5 (ActCells lo hi) w v l lo hi
set_option maxRecDepth 100000 in
theorem ActsIn.kept {S : List Nat} {w w' : World} {v : Value} {l : List DAct} {lo hi : Nat} (h : ActsIn w v l lo hi) (k : Kept S w w') (hS : ∀ x ∈ S, x < lo ∨ hi ≤ x) : ActsIn w' v l lo hi :=
  RowsOf.kept h k hS (fun cs a ⟨kv, e1, e2, e3⟩ => ⟨kv, e1, e2.kept k hS, e3⟩)
set_option maxRecDepth 100000 in
theorem ActsIn.at_ {w : World} {p : Option Addr} {n c : Nat} {l : List DAct} {lo hi : Nat} (h : ActsIn w (.slice p n c) l lo hi) (i : Nat) (hi' : i < l.length) :
    ∃ b off kv, p = some ⟨b, off, none⟩ ∧ w.cell? ⟨b, off + i * 5, none⟩ = some (.int .i64 l[i].kind) ∧ w.cell? ⟨b, off + i * 5 + 1, none⟩ = some (.int .i64 l[i].i) ∧ w.cell? ⟨b, off + i * 5 + 2, none⟩ = some (.string (bs l[i].s)) ∧ w.cell? ⟨b, off + i * 5 + 3, none⟩ = some (.bool l[i].full) ∧ w.cell? ⟨b, off + i * 5 + 4, none⟩ = some kv ∧ BoolsIn w kv l[i].keep lo hi ∧ l[i].fits ∧ lo ≤ b ∧ b < hi ∧ hi ≤ w.heap.size := by
  obtain ⟨b, off, cs, e1, e2, ⟨kv, rfl, e4, e5⟩, e6, e7⟩ := RowsOf.at_ h i hi'
  exact ⟨b, off, kv, e1, e6 0 _ rfl, e6 1 _ rfl, e6 2 _ rfl, e6 3 _ rfl, e6 4 _ rfl, e4, e5, e7⟩
section
variable {H : Type} {enc : TypeId × Value → H} {w : World} {base : Nat} {held : Bool} {r : Reach} {b0 : Nat}
set_option maxRecDepth 100000 in
theorem BoolsIn.len {w : World} {v : Value} {l : List Bool} {lo hi : Nat} (h : BoolsIn w v l lo hi) : l.length ≤ maxLen := by
  rcases h with ⟨rfl, a, c, rfl⟩ | ⟨b, off, c, rfl, _, _, _, _, _, h7, h8⟩
  · exact Nat.zero_le _
  · omega
end
end Go.Proofs.YtdkimcnlhmhpgaaGreat

/- -/
namespace Go.Proofs.YtdkimcnlhmhpgaaGreat
open Go.RowKit Go.Maps
theorem DiskAt.lo_ {w : World} {b sb mb lo : Nat} {d : DK} (h : DiskAt w b sb mb lo d) : b < lo ∧ lo ≤ w.heap.size ∧ d.stand.length ≤ 8192 := by
  obtain ⟨_, _, _, _, _, _, _, _, _, _, h5, h6, h7, h8, _⟩ := h
  exact ⟨h5, h6, h8⟩
theorem DiskAt.drew {w : World} {b sb mb lo : Nat} {d : DK} (h : DiskAt w b sb mb lo d) : DiskAt w.drew b sb mb lo d := h
def putD (d : DK) (i : Int) (s : List UInt8) : DK := if 0 ≤ i ∧ i < d.stand.length then ⟨d.stand, d.waits ++ [(i.toNat, s)], d.fuse, d.ops + 1, d.down⟩ else d
theorem sk_all {p : List UInt8 → Prop} (st : List (List UInt8)) (ws : List (Nat × List UInt8)) (keep : Nat → Bool) (hs : ∀ s ∈ st, p s) (hw : ∀ x ∈ ws, p x.2) (n : Nat) (hn : n ≤ ws.length) : ∀ s ∈ sk st ws keep n, p s := by
  induction n with
  | zero => exact hs
  | succ n ih =>
    rw [sk_succ st ws keep n (by omega)]
    intro s h
    split at h
    · rcases List.mem_or_eq_of_mem_set h with h | h
      · exact ih (by omega) s h
      · subst h; exact hw _ (List.getElem_mem _)
    · exact ih (by omega) s h
def svals (l : List (List UInt8)) : List Value := l.map fun s => Value.string (bs s)
def RAt (w : World) (r lo : Nat) (d : DK) : Prop :=
  ∃ sv wv, Own w r #[sv, wv, .int .i64 d.fuse, .int .i64 d.ops, .bool d.down] 134 ∧
    w.ownsRow lo 9 1 sv d.stand.length (svals d.stand) ∧ w.ownsRow lo 208 2 wv d.waits.length (wcells d.waits) ∧
    lo ≤ w.heap.size ∧ lo ≤ r ∧ 1 ≤ d.stand.length ∧ d.stand.length ≤ 8192 ∧ (Lit.int .i64 d.fuse).wf = true ∧ d.ops ≤ 100000 ∧ d.waits.length ≤ 20000
theorem Own.c5 {w : World} {b : Nat} {x0 x1 x2 x3 x4 : Value} {t : TypeId} (h : Own w b #[x0, x1, x2, x3, x4] t) : w.cell? ⟨b, 0, none⟩ = some x0 ∧ w.cell? ⟨b, 1, none⟩ = some x1 ∧ w.cell? ⟨b, 2, none⟩ = some x2 ∧ w.cell? ⟨b, 3, none⟩ = some x3 ∧ w.cell? ⟨b, 4, none⟩ = some x4 :=
  ⟨h.cell 0 (by simp), h.cell 1 (by simp), h.cell 2 (by simp), h.cell 3 (by simp), h.cell 4 (by simp)⟩
theorem RAt.five {w : World} {r lo : Nat} {d : DK} (h : RAt w r lo d) : ∃ p c p' c', w.cell? ⟨r, 0, none⟩ = some (.slice p d.stand.length c) ∧ w.cell? ⟨r, 1, none⟩ = some (.slice p' d.waits.length c') ∧ w.cell? ⟨r, 2, none⟩ = some (.int .i64 d.fuse) ∧ w.cell? ⟨r, 3, none⟩ = some (.int .i64 d.ops) ∧ w.cell? ⟨r, 4, none⟩ = some (.bool d.down) ∧
    w.ownsRow lo 9 1 (.slice p d.stand.length c) d.stand.length (svals d.stand) ∧ w.ownsRow lo 208 2 (.slice p' d.waits.length c') d.waits.length (wcells d.waits) ∧ 1 ≤ d.stand.length ∧ d.stand.length ≤ 8192 ∧ d.ops ≤ 100000 ∧ d.waits.length ≤ 20000 ∧ lo ≤ w.heap.size := by
  obtain ⟨sv, wv, o, hs, hw, h1, h2, h3, h4, h5, h6, h7⟩ := h
  obtain ⟨p, c, rfl⟩ := own_shape hs
  obtain ⟨p', c', rfl⟩ := own_shape hw
  obtain ⟨c0, c1, c2, c3, c4⟩ := o.c5
  exact ⟨p, c, p', c', c0, c1, c2, c3, c4, hs, hw, h3, h4, h6, h7, h1⟩
theorem RAt.own {w : World} {r lo : Nat} {d : DK} (h : RAt w r lo d) : ∃ v0 v1, Own w r #[v0, v1, .int .i64 d.fuse, .int .i64 d.ops, .bool d.down] 134 := by
  obtain ⟨sv, wv, o, _⟩ := h; exact ⟨sv, wv, o⟩
theorem RAt.drew {w : World} {r lo : Nat} {d : DK} (h : RAt w r lo d) : RAt w.drew r lo d := h
theorem DiskAt.own {w : World} {b sb mb lo : Nat} {d : DK} (h : DiskAt w b sb mb lo d) : ∃ cs, Own w b cs 138 := by obtain ⟨wv, n, o, _⟩ := h; exact ⟨_, o⟩
theorem RAt.dkept {w w' : World} {r lo b sb mb dlo : Nat} {d e : DK} (h : RAt w r lo d) (hD : DiskAt w b sb mb dlo e) (k : DKept b sb mb dlo w w') (hs : sb < lo) : RAt w' r lo d := by
  obtain ⟨sv, wv, o, hsr, hwr, h1, h2, r3⟩ := h
  obtain ⟨a1, a2, a3, a4, a5⟩ := k
  obtain ⟨wv2, n, ob, os, hw, hm, hn, g2, g3, g4, g5, g6, g7⟩ := hD
  have obs := ob
  unfold Own at obs
  have key : ∀ g cs t, lo ≤ g → t ≠ 138 → t ≠ 206 → w.heap[g]? = some (.cells cs t (0, 0)) → w'.heap[g]? = w.heap[g]? := by
    intro g cs t hg ht1 ht2 hc
    refine a5 g (lt_of_block hc) ?_ (by omega) ?_ (Or.inr ?_)
    · intro e; subst e
      rw [obs] at hc
      injection hc with hc
      injection hc with _ ht
      exact ht1 ht.symm
    · intro e; subst e
      obtain ⟨D, ⟨es, clock, hh, _⟩, _⟩ := hm
      rw [hh] at hc
      cases hc
    · intro cs2 f hc2
      rw [hc] at hc2
      injection hc2 with hc2
      injection hc2 with _ ht
      exact ht2 ht
  have or' : Own w' r #[sv, wv, .int .i64 d.fuse, .int .i64 d.ops, .bool d.down] 134 := (key r _ _ h2 (by decide) (by decide) o).trans o
  exact ⟨sv, wv, or', ownsRow_same hsr (fun g cs hg hc => key g cs _ hg (by decide) (by decide) hc), ownsRow_same hwr (fun g cs hg hc => key g cs _ hg (by decide) (by decide) hc), Nat.le_trans h1 a4, h2, r3⟩
theorem RAt.kept {S : List Nat} {w w' : World} {r lo : Nat} {d : DK} (h : RAt w r lo d) (k : Kept S w w') (hS : ∀ x ∈ S, x < lo) : RAt w' r lo d := by
  obtain ⟨sv, wv, o, hsr, hwr, h1, h2, r3⟩ := h
  exact ⟨sv, wv, k.own o (fun hx => by have := hS r hx; omega), ownsRow_kept hsr k hS, ownsRow_kept hwr k hS, Nat.le_trans h1 k.size, h2, r3⟩
theorem RAt.nums {w w' : World} {r lo : Nat} {d d' : DK} (h : RAt w r lo d) (k : Kept [r] w w') (hs : d'.stand = d.stand) (hw : d'.waits = d.waits) (hf : (Lit.int .i64 d'.fuse).wf = true) (ho : d'.ops ≤ 100000)
    (hown : ∀ v0 v1, Own w r #[v0, v1, .int .i64 d.fuse, .int .i64 d.ops, .bool d.down] 134 → Own w' r #[v0, v1, .int .i64 d'.fuse, .int .i64 d'.ops, .bool d'.down] 134) : RAt w' r lo d' := by
  obtain ⟨sv, wv, o, hsr, hwr, h1, h2, h3, h4, h5, h6, h7⟩ := h
  exact ⟨sv, wv, hown _ _ o, by rw [hs]; exact ownsRow_keptO hsr k o (by decide), by rw [hw]; exact ownsRow_keptO hwr k o (by decide), Nat.le_trans h1 k.size, h2, by rw [hs]; exact h3, by rw [hs]; exact h4, hf, ho, by rw [hw]; exact h7⟩
def fuseR (d : DK) (n : Int) : DK := ⟨d.stand, d.waits, n, d.ops, d.down⟩
theorem RAt.fuse {w : World} {r lo : Nat} {d : DK} (h : RAt w r lo d) (n : Int) (hn : (Lit.int .i64 n).wf = true) : RAt (w.setCell ⟨r, 2, none⟩ (.int .i64 n)) r lo (fuseR d n) ∧ Kept [r] w (w.setCell ⟨r, 2, none⟩ (.int .i64 n)) := by
  have kk := (Kept.refl [r] w).setCell (p := ⟨r, 2, none⟩) (Or.inl (by simp)) (.int .i64 n)
  have ho : d.ops ≤ 100000 := by obtain ⟨_, _, _, _, _, _, _, _, _, _, _, _, _, h3, _⟩ := h.five; exact h3
  exact ⟨RAt.nums (d' := fuseR d n) h kk rfl rfl hn ho (fun v0 v1 o => o.set 2 _), kk⟩
def BytesAt (w : World) (g : Nat) (l : List UInt8) : Prop :=
  ∃ cs fr, w.heap[g]? = some (.cells cs 5 fr) ∧ l.length ≤ cs.size ∧ (fr.2 = 0 ∨ cs.size ≤ fr.1) ∧ ∀ j (h : j < l.length), cs[j]? = some (.int .u8 (l[j].toNat : Int))
section
variable {w w' : World} {g : Nat} {l : List UInt8}
theorem BytesAt.lt (h : BytesAt w g l) : g < w.heap.size := by obtain ⟨cs, fr, h1, _⟩ := h; exact lt_of_block h1
theorem BytesAt.cell (h : BytesAt w g l) (j : Nat) (hj : j < l.length) : w.cell? ⟨g, j, none⟩ = some (.int .u8 (l[j].toNat : Int)) := by
  obtain ⟨cs, fr, h1, h2, h3, h4⟩ := h
  have := h4 j hj
  simp [World.cell?, h1, this]
theorem BytesAt.free (h : BytesAt w g l) (j : Nat) (hj : j < l.length) : w.frozen? ⟨g, j, none⟩ = false := by
  obtain ⟨cs, fr, h1, h2, h3, h4⟩ := h
  simp [World.frozen?, h1]
  omega
theorem BytesAt.drew (h : BytesAt w g l) : BytesAt w.drew g l := h
theorem BytesAt.kept {S : List Nat} (h : BytesAt w g l) (k : Kept S w w') (hS : g ∉ S) : BytesAt w' g l := by
  obtain ⟨cs, fr, h1, r⟩ := h
  exact ⟨cs, fr, (k.block g (lt_of_block h1) hS).trans h1, r⟩
theorem BytesAt.set (h : BytesAt w g l) (j : Nat) (hj : j < l.length) (c : UInt8) : BytesAt (w.setCell ⟨g, j, none⟩ (.int .u8 (c.toNat : Int))) g (l.set j c) := by
  obtain ⟨cs, fr, h1, h2, h3, h4⟩ := h
  refine ⟨cs.setIfInBounds j (.int .u8 (c.toNat : Int)), fr, ?_, by simpa using h2, by simpa using h3, fun i hi => ?_⟩
  · simp [World.setCell, Array.getElem?_modify, h1]
  · have hi' : i < l.length := by simpa using hi
    by_cases e : j = i
    · subst e
      rw [Array.getElem?_setIfInBounds_self_of_lt (by omega)]
      simp
    · rw [Array.getElem?_setIfInBounds_ne e, h4 i hi']
      simp [List.getElem_set_ne e]
theorem BytesAt.bytes (h : BytesAt w g l) : Lib.Bytes w g 0 (bs l) := by
  intro i hi
  have hi' : i < l.length := by rw [← bs_size]; exact hi
  rw [Nat.zero_add, h.cell i hi']
  rfl
end
def rVal (d : DK) (i : Int) : List UInt8 := if atOf d i = 0 then seen d i.toNat else []
def wCode (d : DK) (i : Int) (s : List UInt8) : Int := if atOf d i ≠ 0 then atOf d i else if s.length ≠ 128 then 1 else if d.fuse = 0 then 90 else 0
def wNext (d : DK) (i : Int) (s : List UInt8) : DK := if atOf d i = 0 ∧ s.length = 128 then writeD d i.toNat s else d
def fCode (d : DK) : Int := if d.down = true then 90 else if d.fuse = 0 then 90 else 0
def fNext (d : DK) : DK := if d.down = true then d else if d.fuse = 0 then opD d else settleD (opD d) (fun _ => true)
structure Fit (d : DK) : Prop where
  fine : ∀ x ∈ d.waits, x.1 < d.stand.length ∧ x.2.length = 128
  all : ∀ s ∈ d.stand, s.length = 128
theorem Fit.op {d : DK} (h : Fit d) : Fit (opD d) := ⟨h.fine, h.all⟩
theorem atOf_zero {d : DK} {i : Int} (h : atOf d i = 0) : d.down = false ∧ 0 ≤ i ∧ i < d.stand.length := by
  unfold atOf at h
  cases hd : d.down
  · rw [hd, if_neg (by simp)] at h
    by_cases hc : i < 0 ∨ (d.stand.length : Int) ≤ i
    · rw [if_pos hc] at h; omega
    · exact ⟨rfl, by omega, by omega⟩
  · rw [hd, if_pos rfl] at h; omega
theorem Fit.write {d : DK} (h : Fit d) (i : Int) (s : List UInt8) : Fit (wNext d i s) := by
  unfold wNext
  split
  · rename_i hc
    obtain ⟨_, h1, h2⟩ := atOf_zero hc.1
    refine ⟨fun x hx => ?_, h.all⟩
    have hx : x ∈ d.waits ++ [(i.toNat, s)] := hx
    rw [List.mem_append] at hx
    rcases hx with hx | hx
    · exact h.fine x hx
    · have hx : x = (i.toNat, s) := by simpa using hx
      subst hx
      exact ⟨by show i.toNat < d.stand.length; omega, hc.2⟩
  · exact h
theorem Fit.settle {d : DK} (h : Fit d) (k : Nat → Bool) : Fit (settleD d k) :=
  ⟨(fun x hx => by cases hx), sk_all (p := fun s => s.length = 128) _ _ _ h.all (fun x hx => (h.fine x hx).2) _ (Nat.le_refl _)⟩
theorem Fit.flush {d : DK} (h : Fit d) : Fit (fNext d) := by
  unfold fNext
  split
  · exact h
  · split
    · exact h.op
    · exact h.op.settle _
theorem Fit.fuse {d : DK} (h : Fit d) (n : Int) : Fit (fuseD d n) := ⟨h.fine, h.all⟩
theorem Fit.new (n : Nat) : Fit (newD (List.replicate n zeroS)) := by
  refine ⟨(fun x hx => by cases hx), fun s hs => ?_⟩
  have := List.eq_of_mem_replicate hs
  subst this; unfold zeroS; rw [List.length_replicate]
structure Alone (W0 w : World) (b sb mb lo : Nat) (d : DK) : Prop where
  disk : DiskAt w b sb mb lo d
  kept : Kept [] W0 w
  hb : W0.heap.size ≤ b
  hsb : W0.heap.size ≤ sb
  hmb : W0.heap.size ≤ mb
  hlo : W0.heap.size ≤ lo
  fit : Fit d
section
variable {W0 w : World} {b sb mb lo : Nat} {d : DK}
theorem Alone.step {w' : World} {d' : DK} (h : Alone W0 w b sb mb lo d) (hD : DiskAt w' b sb mb lo d') (hk : DKept b sb mb lo w w') (hf : Fit d') : Alone W0 w' b sb mb lo d' :=
  ⟨hD, DKept.to_kept hk h.kept h.hb h.hsb h.hmb h.hlo, h.hb, h.hsb, h.hmb, h.hlo, hf⟩
theorem Alone.drew (h : Alone W0 w b sb mb lo d) : Alone W0 w.drew b sb mb lo d := ⟨h.disk, h.kept.drew, h.hb, h.hsb, h.hmb, h.hlo, h.fit⟩
theorem Alone.alloc (h : Alone W0 w b sb mb lo d) (o : Obj) : Alone W0 (w.alloc o) b sb mb lo d :=
  ⟨h.disk.keep ((Kept.refl [] w).alloc o) (fun x hx => by cases hx), h.kept.alloc o, h.hb, h.hsb, h.hmb, h.hlo, h.fit⟩
theorem Alone.keep0 {w' : World} (h : Alone W0 w b sb mb lo d) (k : Kept [] w w') : Alone W0 w' b sb mb lo d :=
  ⟨h.disk.keep k (fun x hx => by cases hx), h.kept.trans k, h.hb, h.hsb, h.hmb, h.hlo, h.fit⟩
theorem Alone.len (h : Alone W0 w b sb mb lo d) : 1 ≤ d.stand.length ∧ d.stand.length ≤ 8192 := by
  obtain ⟨_, _, _, _, _, _, _, _, _, _, _, _, h7, h8, _⟩ := h.disk
  exact ⟨h7, h8⟩
theorem aNew (n : Nat) (w : World) (h1 : 1 ≤ n) (h2 : n ≤ 8192) :
    Calls Tryz.prog 9 #[.int .i64 n] w fun e w' => ∃ b sb mb lo, e = .returned (.tuple #[.pointer (some ⟨b, 0, none⟩), .int .i64 0]) ∧ Alone w w' b sb mb lo (newD (List.replicate n zeroS)) :=
  (dNew n w h1 h2).mono fun e w' ⟨b, sb, mb, lo, he, hD, z1, z2, z3, k⟩ => ⟨b, sb, mb, lo, he, hD, k, z3, z1, z2, (by have := DiskAt.lo_ hD; omega), Fit.new n⟩
theorem Alone.read (h : Alone W0 w b sb mb lo d) (i : Int) : Calls Tryz.prog 62 #[.pointer (some ⟨b, 0, none⟩), .int .i64 i] w fun e w' => e = .returned (.tuple #[.string (bs (rVal d i)), .int .i64 (atOf d i)]) ∧ w = w' := by
  by_cases hz : atOf d i = 0
  · obtain ⟨h1, h2, h3⟩ := atOf_zero hz
    obtain ⟨n, rfl⟩ := Int.eq_ofNat_of_zero_le h2
    refine (dRead b sb mb lo d n w h.disk h1 (by omega)).mono fun e w' ⟨h4, h5⟩ => ⟨?_, h5⟩
    rw [h4]; unfold rVal; rw [if_pos hz, hz]; rfl
  · refine (dRead_no b sb mb lo d i w h.disk hz).mono fun e w' ⟨h4, h5⟩ => ⟨?_, h5⟩
    rw [h4]; unfold rVal; rw [if_neg hz]; rfl
theorem Alone.write (h : Alone W0 w b sb mb lo d) (i : Int) (s : List UInt8) (ho : d.ops < 100000) (hw : d.waits.length ≤ 10000) :
    Calls Tryz.prog 88 #[.pointer (some ⟨b, 0, none⟩), .int .i64 i, .string (bs s)] w fun e w' => e = .returned (.int .i64 (wCode d i s)) ∧ Alone W0 w' b sb mb lo (wNext d i s) ∧ DKept b sb mb lo w w' := by
  by_cases hz : atOf d i = 0
  · by_cases hs : s.length = 128
    · obtain ⟨h1, h2, h3⟩ := atOf_zero hz
      obtain ⟨n, rfl⟩ := Int.eq_ofNat_of_zero_le h2
      have e1 : wNext d (n : Int) s = writeD d n s := by unfold wNext; rw [if_pos ⟨hz, hs⟩]; rfl
      have e2 : wCode d (n : Int) s = if d.fuse = 0 then 90 else 0 := by unfold wCode; rw [if_neg (by omega), if_neg (by omega)]
      have hf := h.fit.write (n : Int) s
      rw [e1] at hf ⊢
      rw [e2]
      exact (dWrite b sb mb lo d n s w h.disk h1 (by omega) hs ho hw).mono fun e w' ⟨h4, h5, h6⟩ => ⟨h4, h.step h5 h6 hf, h6⟩
    · have e1 : wNext d i s = d := by unfold wNext; rw [if_neg (fun hh => hs hh.2)]
      have e2 : wCode d i s = 1 := by unfold wCode; rw [if_neg (by omega), if_pos hs]
      rw [e1, e2]
      exact (dWrite_len b sb mb lo d i (bs s) w h.disk hz (by rw [bs_size]; exact hs)).mono fun e w' ⟨h4, h5⟩ => ⟨h4, by subst h5; exact h, by subst h5; exact DKept.refl _ _ _ _ _⟩
  · have e1 : wNext d i s = d := by unfold wNext; rw [if_neg (fun hh => hz hh.1)]
    have e2 : wCode d i s = atOf d i := by unfold wCode; rw [if_pos hz]
    rw [e1, e2]
    exact (dWrite_no b sb mb lo d i (bs s) w h.disk hz).mono fun e w' ⟨h4, h5⟩ => ⟨h4, by subst h5; exact h, by subst h5; exact DKept.refl _ _ _ _ _⟩
theorem Alone.flush (h : Alone W0 w b sb mb lo d) (ho : d.ops < 100000) (hw : d.waits.length ≤ 10000) :
    Calls Tryz.prog 39 #[.pointer (some ⟨b, 0, none⟩)] w fun e w' => e = .returned (.int .i64 (fCode d)) ∧ Alone W0 w' b sb mb lo (fNext d) ∧ DKept b sb mb lo w w' := by
  have hf := h.fit.flush
  unfold fCode fNext at *
  by_cases hd : d.down = true
  · rw [if_pos hd] at hf ⊢
    rw [if_pos hd]
    exact (dFlush_down b sb mb lo d w h.disk hd).mono fun e w' ⟨h4, h5⟩ => ⟨h4, by subst h5; exact h, by subst h5; exact DKept.refl _ _ _ _ _⟩
  · have hd' : d.down = false := by simpa using hd
    rw [if_neg hd] at hf ⊢
    rw [if_neg hd]
    by_cases h0 : d.fuse = 0
    · rw [if_pos h0] at hf ⊢
      rw [if_pos h0]
      exact (dFlush_cut b sb mb lo d w h.disk hd' h0 ho).mono fun e w' ⟨h4, h5, h6⟩ => ⟨h4, h.step h5 h6 hf, h6⟩
    · rw [if_neg h0] at hf ⊢
      rw [if_neg h0]
      exact (dFlush b sb mb lo d w h.disk hd' h0 ho (fun x hx => (h.fit.fine x hx).1) hw).mono fun e w' ⟨h4, h5, h6⟩ => ⟨h4, h.step h5 h6 hf, h6⟩
theorem Alone.fuse (h : Alone W0 w b sb mb lo d) (n : Int) (hn : (Lit.int .i64 n).wf = true) :
    Calls Tryz.prog 31 #[.pointer (some ⟨b, 0, none⟩), .int .i64 n] w fun e w' => e = .returned (.tuple #[]) ∧ Alone W0 w' b sb mb lo (fuseD d n) ∧ DKept b sb mb lo w w' := by
  have hn2 : n ≤ 9223372036854775807 := by
    simp only [Lit.wf, Bool.and_eq_true, decide_eq_true_eq] at hn
    have := hn.2; exact this
  exact (dFuse b sb mb lo d n w h.disk hn2).mono fun e w' ⟨h4, h5, h6⟩ => by
    have hk : DKept b sb mb lo w w' := DKept.kept h6 (fun x hx => Or.inl (by simpa using hx))
    exact ⟨h4, h.step h5 hk (h.fit.fuse n), hk⟩
end
def BKept (b sb mb lo r : Nat) (w w' : World) : Prop :=
  w'.os = w.os ∧ w'.tape = w.tape ∧ w'.output = w.output ∧ w.heap.size ≤ w'.heap.size ∧ ∀ k, k < w.heap.size → k ≠ b → k ≠ sb → k ≠ mb → k ≠ r → (k < lo ∨ ∀ cs f, w.heap[k]? ≠ some (.cells cs 206 f)) → w'.heap[k]? = w.heap[k]?
theorem BKept.refl (b sb mb lo r : Nat) (w : World) : BKept b sb mb lo r w w := ⟨rfl, rfl, rfl, Nat.le_refl _, fun _ _ _ _ _ _ _ => rfl⟩
theorem BKept.trans {b sb mb lo r : Nat} {a w w' : World} (h : BKept b sb mb lo r a w) (k : BKept b sb mb lo r w w') : BKept b sb mb lo r a w' := by
  obtain ⟨h1, h2, h3, h4, h5⟩ := h
  obtain ⟨k1, k2, k3, k4, k5⟩ := k
  refine ⟨k1.trans h1, k2.trans h2, k3.trans h3, Nat.le_trans h4 k4, fun j hj e1 e2 e3 e5 e4 => ?_⟩
  have := h5 j hj e1 e2 e3 e5 e4
  rw [← this]
  exact k5 j (Nat.lt_of_lt_of_le hj h4) e1 e2 e3 e5 (by rw [this]; exact e4)
theorem DKept.both {b sb mb lo : Nat} {w w' : World} (h : DKept b sb mb lo w w') (r : Nat) : BKept b sb mb lo r w w' :=
  ⟨h.1, h.2.1, h.2.2.1, h.2.2.2.1, fun k hk e1 e2 e3 _ e4 => h.2.2.2.2 k hk e1 e2 e3 e4⟩
theorem Kept.both {b sb mb lo r : Nat} {w w' : World} (h : Kept [r] w w') : BKept b sb mb lo r w w' :=
  ⟨h.os, h.tape, h.output, h.size, fun k hk e1 e2 e3 e5 _ => h.block k hk (by simpa using e5)⟩
structure Both (W0 w : World) (b sb mb lo r rlo : Nat) (d rd : DK) : Prop where
  alone : Alone W0 w b sb mb lo d
  ref : RAt w r rlo rd
  hr : W0.heap.size ≤ r
  hsr : sb < rlo
  rfit : Fit rd
section
variable {W0 w : World} {b sb mb lo r rlo : Nat} {d rd : DK}
theorem Both.of (h : Alone W0 w b sb mb lo d) {w' : World} (hr : RAt w' r w.heap.size rd) (hk : Kept [] w w') (hf : Fit rd) : Both W0 w' b sb mb lo r w.heap.size d rd := by
  refine ⟨h.keep0 hk, hr, ?_, ?_, hf⟩
  · obtain ⟨_, _, _, _, _, _, h2, _⟩ := hr
    have := h.kept.size; omega
  · obtain ⟨_, _, _, os, _⟩ := h.disk
    exact os.lt
theorem RAt.kept0 {w' : World} (h : RAt w r rlo rd) (k : Kept [] w w') : RAt w' r rlo rd := h.kept k (fun x hx => by cases hx)
theorem Both.keep0 {w' : World} (h : Both W0 w b sb mb lo r rlo d rd) (k : Kept [] w w') : Both W0 w' b sb mb lo r rlo d rd :=
  ⟨h.alone.keep0 k, h.ref.kept0 k, h.hr, h.hsr, h.rfit⟩
theorem Both.drew (h : Both W0 w b sb mb lo r rlo d rd) : Both W0 w.drew b sb mb lo r rlo d rd := h.keep0 (Kept.refl [] w).drew
theorem Both.alloc (h : Both W0 w b sb mb lo r rlo d rd) (o : Obj) : Both W0 (w.alloc o) b sb mb lo r rlo d rd := h.keep0 ((Kept.refl [] w).alloc o)
end
end Go.Proofs.YtdkimcnlhmhpgaaGreat
