/- Walk of chapter 9's statement: which images are disks. -/
import Derived.Test.YtdnbddhjdokbfaaG01
import Derived.Test.YtdnbddhjdokbfaaG15
import Derived.Test.YtdnbddhjdokbfaaG18
import Derived.Deep.Slices
import Derived.ChangeSame
import Derived.Deep.Grids
import Derived.ProofKit
import Derived.OpenShut
namespace Go.Proofs.Ytdnbddhjdokbfaa
open Go.RowKit Go.Maps
set_option linter.unusedVariables false
set_option linter.unusedSimpArgs false

theorem cuts_flat (img : List UInt8) (k : Nat) : ((List.range k).map (cutS img)).flatten = img.take (128 * k) := by
  induction k with
  | zero => simp
  | succ k ih =>
    rw [List.range_succ, List.map_append, List.flatten_append, ih]
    have e : 128 * (k + 1) = 128 * k + 128 := by omega
    rw [e, List.take_add]
    simp [cutS]
theorem load_flat (img : List UInt8) (n : Nat) (h : img.length = 128 * n) : (loadTo img n n).flatten = img := by
  unfold loadTo
  rw [Nat.sub_self, List.replicate_zero, List.append_nil, cuts_flat, ← h, List.take_length]
theorem load_get (img : List UInt8) (n i : Nat) (h : i < n) : (loadTo img n n).getD i [] = cutS img i := by
  unfold loadTo
  rw [Nat.sub_self, List.replicate_zero, List.append_nil, List.getD_eq_getElem?_getD]
  simp [h]
theorem load_fine (img : List UInt8) (n : Nat) : ∀ s ∈ loadTo img n n, s.length ≤ 128 := by
  intro s hs
  unfold loadTo at hs
  rw [Nat.sub_self, List.replicate_zero, List.append_nil, List.mem_map] at hs
  obtain ⟨i, _, rfl⟩ := hs
  unfold cutS; rw [List.length_take]; omega
set_option maxRecDepth 100000 in
theorem dLoad_no (s : ByteArray) (w : World) (h : (s.size : Int) % 128 ≠ 0 ∨ s.size = 0) (hs : s.size ≤ 5000) :
    Calls Try.prog 17 #[.string s] w fun e w' => e = .returned (.tuple #[.pointer none, .int .i64 1]) ∧ w = w' := by
  obtain ⟨n, hn⟩ : ∃ n, s.size = n := ⟨_, rfl⟩
  rw [hn] at h hs
  rcases h with h | h
  · have hb : ((n : Int) % 128 == 0) = false := by rw [beq_eq_false_iff_ne]; exact h
    go_enter Try.func17, Try.ntmps17
    go_wp2_with fail
    go_ret2
    exact ⟨rfl, rfl⟩
  · subst h
    go_enter Try.func17, Try.ntmps17
    go_wp2_with fail
    go_ret2
    exact ⟨rfl, rfl⟩
end Go.Proofs.Ytdnbddhjdokbfaa

/- Walk of chapter 9's statement: which images are disks. -/
namespace Go.Proofs.Ytdnbddhjdokbfaa
open Go.RowKit Go.Maps
set_option linter.unusedVariables false
set_option linter.unusedSimpArgs false

end Go.Proofs.Ytdnbddhjdokbfaa

/- A slice of structs that came in: each element's cells, one behind another, read as an element of a list. -/
namespace Go.Proofs.Ytdnbddhjdokbfaa
open Go.ChangeShapes Go.WideShapes Go.ChangeAt Go.RowKit Go.Deep
set_option linter.unusedVariables false
set_option linter.unusedSimpArgs false

/-- the slice v of elements of k cells reads as l; R: these cells are those of an element. -/
def RowsOf {α : Type} (k : Nat) (R : World → List Value → α → Prop) (w : World) (v : Value) (l : List α) (lo hi : Nat) : Prop :=
  (l = [] ∧ ∃ a c, v = .slice a 0 c) ∨
  ∃ b off c, v = .slice (some ⟨b, off, none⟩) l.length c ∧ (∀ i (h : i < l.length), ∃ cs, cs.length = k ∧ R w cs l[i] ∧ ∀ j u, cs[j]? = some u → w.cell? ⟨b, off + (i * k + j), none⟩ = some u) ∧ lo ≤ b ∧ b < hi ∧ hi ≤ w.heap.size ∧ l ≠ [] ∧ l.length ≤ c ∧ c ≤ maxLen
section
variable {α : Type} {k : Nat} {R : World → List Value → α → Prop} {w w' : World} {v : Value} {l : List α} {lo hi : Nat}
theorem RowsOf.kept {S : List Nat} (h : RowsOf k R w v l lo hi) (kk : Kept S w w') (hS : ∀ x ∈ S, x < lo ∨ hi ≤ x) (hR : ∀ cs a, R w cs a → R w' cs a) : RowsOf k R w' v l lo hi := by
  rcases h with h | ⟨b, off, c, h1, h2, h3, h4, h5, h6, h7, h8⟩
  · exact Or.inl h
  · refine Or.inr ⟨b, off, c, h1, fun i hi => ?_, h3, h4, Nat.le_trans h5 kk.size, h6, h7, h8⟩
    have hb : b ∉ S := fun hb => by have := hS b hb; omega
    obtain ⟨cs, e1, e2, e3⟩ := h2 i hi
    refine ⟨cs, e1, hR _ _ e2, fun j u hu => ?_⟩
    rw [kk.cell (by show b < _; omega) hb]
    exact e3 j u hu
theorem RowsOf.shape (h : RowsOf k R w v l lo hi) : ∃ p c, v = .slice p l.length c := by
  rcases h with ⟨rfl, a, c, rfl⟩ | ⟨b, off, c, rfl, _⟩
  · exact ⟨a, c, rfl⟩
  · exact ⟨_, c, rfl⟩
theorem RowsOf.len (h : RowsOf k R w v l lo hi) : l.length ≤ maxLen := by
  rcases h with ⟨rfl, a, c, rfl⟩ | ⟨b, off, c, rfl, _, _, _, _, _, h7, h8⟩
  · exact Nat.zero_le _
  · omega
theorem RowsOf.at_ {p : Option Addr} {n c : Nat} (h : RowsOf k R w (.slice p n c) l lo hi) (i : Nat) (hi' : i < l.length) :
    ∃ b off cs, p = some ⟨b, off, none⟩ ∧ cs.length = k ∧ R w cs l[i] ∧ (∀ j u, cs[j]? = some u → w.cell? ⟨b, off + (i * k + j), none⟩ = some u) ∧ lo ≤ b ∧ b < hi ∧ hi ≤ w.heap.size := by
  rcases h with ⟨rfl, _⟩ | ⟨b, off, c', e, h2, h3, h4, h5, _, h6, h7⟩
  · simp at hi'
  · simp at e
    obtain ⟨e1, rfl, rfl⟩ := e
    obtain ⟨cs, q1, q2, q3⟩ := h2 i hi'
    exact ⟨b, off, cs, e1, q1, q2, q3, h3, h4, h5⟩
end
theorem rows_of_trod {H : Type} {enc : TypeId × Value → H} {P : Program} {w : World} {base : Nat} {held : Bool} {α : Type} [Inhabited α] {k : Nat} {R : World → List Value → α → Prop} {t e : TypeId} {fuel : Nat} {c : Value} {x : DataW H × List MemPlace}
    (ht : P.underlying t = some (.slice e)) (hk : P.cellsOf e = k) (hk0 : 0 < k)
    (hR : ∀ n cs y, DataW.trod enc P w base (fun _ => true) held n e cs = some y → cs.length = k → ∃ a, R w cs a)
    (h : DataW.trod enc P w base (fun _ => true) held fuel t [c] = some x) : ∃ l, RowsOf k R w c l 0 w.heap.size := by
  rcases open_slice ht h with ⟨e1, _⟩ | ⟨a, len, cap, m, n, D, Pl, e1, hb, hl, hm, hmm, _, hx⟩
  · injection e1 with e1
    exact ⟨[], Or.inl ⟨rfl, _, _, e1⟩⟩
  · injection e1 with e1
    subst e1
    simp only [if_true] at hmm
    subst hmm
    rw [hk] at hx
    by_cases h0 : len = 0
    · subst h0; exact ⟨[], Or.inl ⟨rfl, _, _, rfl⟩⟩
    · obtain ⟨q, hq⟩ := choose_lt (α := α × List Value) (n := len) (p := fun i q => q.2.length = k ∧ R w q.2 q.1 ∧ ∀ j, j < k → w.cell? ((a.add (i * k)).add j) = q.2[j]?) (fun i hi => by
        obtain ⟨cs', q1, q2⟩ := hx i (by omega)
        obtain ⟨_, q3, q4⟩ := World.cells?_some q1
        obtain ⟨z, hz⟩ := hR _ _ _ q2 q3
        exact ⟨(z, cs'), q3, hz, q4⟩)
      obtain ⟨b, off, spot⟩ := a
      have hc0 : ∃ u, w.cell? (((⟨b, off, spot⟩ : Addr).add (0 * k)).add 0) = some u := by
        obtain ⟨e1, _, e2⟩ := hq 0 (by omega)
        rw [e2 0 hk0]
        exact ⟨_, List.getElem?_eq_getElem (by omega)⟩
      obtain ⟨u0, hu0⟩ := hc0
      have hspot : spot = none := by simpa [Addr.add] using World.cell?_spot hu0
      subst hspot
      have hblt : b < w.heap.size := by
        rw [Go.WideShapes.add_plain, Go.WideShapes.add_plain] at hu0
        exact World.block_lt_of_cell? _ _ hu0
      refine ⟨(List.range len).map fun i => (q i).1, Or.inr ⟨b, off, m, by simp, fun i hi => ?_, Nat.zero_le _, hblt, Nat.le_refl _, fun e => ?_, by simpa using hl, hm⟩⟩
      · have hi' : i < len := by simpa using hi
        obtain ⟨e1, e2, e3⟩ := hq i hi'
        refine ⟨(q i).2, e1, by simpa using e2, fun j u hu => ?_⟩
        have hj : j < k := by
          have := (List.getElem?_eq_some_iff.1 hu).1; omega
        have := e3 j hj
        rw [Go.WideShapes.add_plain, Go.WideShapes.add_plain, Nat.add_assoc] at this
        rw [this, hu]
      · have := congrArg List.length e
        simp at this; omega
end Go.Proofs.Ytdnbddhjdokbfaa

/- What a walk is told of a list of a disk's calls that came in. -/
namespace Go.Proofs.Ytdnbddhjdokbfaa
open Go.ChangeShapes Go.WideShapes Go.ChangeAt Go.RowKit Go.Deep
set_option linter.unusedVariables false
set_option linter.unusedSimpArgs false

/-- a call. -/
structure DAct where
  kind : Int
  i : Int
  s : List UInt8
  full : Bool
  keep : List Bool
deriving Inhabited
def DAct.fits (a : DAct) : Prop := (Lit.int .i64 a.kind).wf = true ∧ (Lit.int .i64 a.i).wf = true ∧ a.s.length ≤ maxLen ∧ a.keep.length ≤ maxLen
/-- its cells. -/
def ActCells (lo hi : Nat) (w : World) (cs : List Value) (a : DAct) : Prop := ∃ kv, cs = [.int .i64 a.kind, .int .i64 a.i, .string (bs a.s), .bool a.full, kv] ∧ BoolsIn w kv a.keep lo hi ∧ a.fits
def ActsIn (w : World) (v : Value) (l : List DAct) (lo hi : Nat) : Prop := RowsOf 5 (ActCells lo hi) w v l lo hi
set_option maxRecDepth 100000 in
theorem ActsIn.kept {S : List Nat} {w w' : World} {v : Value} {l : List DAct} {lo hi : Nat} (h : ActsIn w v l lo hi) (k : Kept S w w') (hS : ∀ x ∈ S, x < lo ∨ hi ≤ x) : ActsIn w' v l lo hi :=
  RowsOf.kept h k hS (fun cs a ⟨kv, e1, e2, e3⟩ => ⟨kv, e1, e2.kept k hS, e3⟩)
set_option maxRecDepth 100000 in
theorem ActsIn.at_ {w : World} {p : Option Addr} {n c : Nat} {l : List DAct} {lo hi : Nat} (h : ActsIn w (.slice p n c) l lo hi) (i : Nat) (hi' : i < l.length) :
    ∃ b off kv, p = some ⟨b, off, none⟩ ∧ w.cell? ⟨b, off + i * 5, none⟩ = some (.int .i64 l[i].kind) ∧ w.cell? ⟨b, off + i * 5 + 1, none⟩ = some (.int .i64 l[i].i) ∧ w.cell? ⟨b, off + i * 5 + 2, none⟩ = some (.string (bs l[i].s)) ∧ w.cell? ⟨b, off + i * 5 + 3, none⟩ = some (.bool l[i].full) ∧ w.cell? ⟨b, off + i * 5 + 4, none⟩ = some kv ∧ BoolsIn w kv l[i].keep lo hi ∧ l[i].fits ∧ lo ≤ b ∧ b < hi ∧ hi ≤ w.heap.size := by
  obtain ⟨b, off, cs, e1, e2, ⟨kv, rfl, e4, e5⟩, e6, e7⟩ := RowsOf.at_ h i hi'
  exact ⟨b, off, kv, e1, e6 0 _ rfl, e6 1 _ rfl, e6 2 _ rfl, e6 3 _ rfl, e6 4 _ rfl, e4, e5, e7⟩
section
variable {H : Type} {enc : TypeId × Value → H} {w : World} {base : Nat} {held : Bool} {r : Reach} {b0 : Nat}
set_option maxRecDepth 100000 in
theorem bools_of_trod {fuel : Nat} {c : Value} {x : DataW H × List MemPlace} (h : DataW.trod enc Try.prog w base (fun _ => true) held fuel 77 [c] = some x) :
    ∃ l, BoolsIn w c l 0 w.heap.size := by
  rcases Go.Deep.open_bools Try.underlying77 Try.underlying4 (by kernel_rfl) h with ⟨e, _⟩ | ⟨a, len, cap, B, e, _, hl, hm, _, hx⟩
  · injection e with e
    exact ⟨[], Or.inl ⟨rfl, _, _, e⟩⟩
  · injection e with e
    subst e
    by_cases h0 : len = 0
    · subst h0; exact ⟨[], Or.inl ⟨rfl, _, _, rfl⟩⟩
    · obtain ⟨b, off, spot⟩ := a
      have hspot : spot = none := by simpa [Addr.add] using World.cell?_spot (hx 0 (by omega))
      subst hspot
      have hb : b < w.heap.size := by
        have := hx 0 (by omega)
        rw [Go.WideShapes.add_plain] at this
        exact World.block_lt_of_cell? _ _ this
      refine ⟨(List.range len).map B, Or.inr ⟨b, off, cap, by simp, fun i hi => ?_, Nat.zero_le _, hb, Nat.le_refl _, fun e => ?_, by simpa using hl, hm⟩⟩
      · have hi' : i < len := by simpa using hi
        have := hx i (by omega)
        rw [Go.WideShapes.add_plain] at this
        rw [this]
        simp
      · have := congrArg List.length e
        simp at this; omega
set_option maxRecDepth 100000 in
theorem BoolsIn.len {w : World} {v : Value} {l : List Bool} {lo hi : Nat} (h : BoolsIn w v l lo hi) : l.length ≤ maxLen := by
  rcases h with ⟨rfl, a, c, rfl⟩ | ⟨b, off, c, rfl, _, _, _, _, _, h7, h8⟩
  · exact Nat.zero_le _
  · omega
set_option maxRecDepth 100000 in
theorem open_bools_in {v : Value} {d : DataW H} {p : List MemPlace} (hv : Value.okWide Try.prog w r b0 77 v) (h : DataW.Trod enc Try.prog w base (fun _ => true) held 77 v d p) : ∃ l, BoolsIn w v l 0 w.heap.size := by
  obtain ⟨a0, len, cap, rfl⟩ := okWide_slice Try.underlying77 hv
  obtain ⟨fuel, hf⟩ := h
  exact bools_of_trod (by simpa [Value.cells] using hf)
end
end Go.Proofs.Ytdnbddhjdokbfaa

/- Layer 9 (disk): writes on a disk whose power never goes, and what is left of them: plain laws; a write wherever it goes. -/
namespace Go.Proofs.Ytdnbddhjdokbfaa
open Go.RowKit Go.Maps
set_option linter.unusedVariables false
set_option linter.unusedSimpArgs false

theorem getD_of {α : Type} [Inhabited α] (l : List α) (k : Nat) (h : k < l.length) : l.getD k default = l[k] := by
  rw [List.getD_eq_getElem?_getD, List.getElem?_eq_getElem h]; rfl
theorem DiskAt.lo_ {w : World} {b sb mb lo : Nat} {d : DK} (h : DiskAt w b sb mb lo d) : b < lo ∧ lo ≤ w.heap.size ∧ d.stand.length ≤ 8192 := by
  obtain ⟨_, _, _, _, _, _, _, _, _, _, h5, h6, h7, h8, _⟩ := h
  exact ⟨h5, h6, h8⟩
theorem DiskAt.drew {w : World} {b sb mb lo : Nat} {d : DK} (h : DiskAt w b sb mb lo d) : DiskAt w.drew b sb mb lo d := h
theorem DKept.of_drew {b sb mb lo : Nat} {w w' : World} (h : DKept b sb mb lo w.drew w') : DKept b sb mb lo w w' := h
/-- a write on a disk whose power never goes. -/
def putD (d : DK) (i : Int) (s : List UInt8) : DK := if 0 ≤ i ∧ i < d.stand.length then ⟨d.stand, d.waits ++ [(i.toNat, s)], d.fuse, d.ops + 1, d.down⟩ else d
/-- the first k of them. -/
def putN (d : DK) (l : List DAct) : Nat → DK
  | 0 => d
  | k + 1 => putD (putN d l k) (l.getD k default).i (sectorL (l.getD k default).s)
structure PutFacts (d : DK) (l : List DAct) (k : Nat) (e : DK) : Prop where
  stand : e.stand = d.stand
  fuse : e.fuse = -1
  down : e.down = false
  ops : e.ops ≤ d.ops + k
  len : e.waits.length ≤ d.waits.length + k
  each : ∀ x ∈ e.waits, x ∈ d.waits ∨ (x.1 < d.stand.length ∧ ∃ j, j < k ∧ (l.getD j default).i = x.1 ∧ x.2 = sectorL (l.getD j default).s)
theorem putN_facts (d : DK) (l : List DAct) (hf : d.fuse = -1) (hd : d.down = false) (k : Nat) : PutFacts d l k (putN d l k) := by
  induction k with
  | zero => exact ⟨rfl, hf, hd, Nat.le_refl _, Nat.le_refl _, fun x hx => Or.inl hx⟩
  | succ k ih =>
    obtain ⟨h1, h2, h3, h4, h5, h6⟩ := ih
    show PutFacts d l (k + 1) (putD (putN d l k) (l.getD k default).i (sectorL (l.getD k default).s))
    unfold putD
    split
    · rename_i hh
      rw [h1] at hh
      refine ⟨h1, h2, h3, by show _ + 1 ≤ _; omega, by show (List.length (_ ++ _)) ≤ _; rw [List.length_append, List.length_singleton]; omega, fun x hx => ?_⟩
      have hx : x ∈ (putN d l k).waits ++ [((l.getD k default).i.toNat, sectorL (l.getD k default).s)] := hx
      rw [List.mem_append] at hx
      rcases hx with hx | hx
      · rcases h6 x hx with h | ⟨g1, j, g2, g3⟩
        · exact Or.inl h
        · exact Or.inr ⟨g1, j, by omega, g3⟩
      · have hx : x = ((l.getD k default).i.toNat, sectorL (l.getD k default).s) := by simpa using hx
        subst hx
        exact Or.inr ⟨by show (l.getD k default).i.toNat < _; omega, k, by omega, by show _ = (((l.getD k default).i.toNat : Nat) : Int); omega, rfl⟩
    · refine ⟨h1, h2, h3, by omega, by omega, fun x hx => ?_⟩
      rcases h6 x hx with h | ⟨g1, j, g2, g3⟩
      · exact Or.inl h
      · exact Or.inr ⟨g1, j, by omega, g3⟩
theorem dPut (b sb mb lo : Nat) (d : DK) (i : Int) (s : List UInt8) (w : World) (h : DiskAt w b sb mb lo d) (hd : d.down = false) (hf : d.fuse = -1) (hs : s.length = 128) (ho : d.ops < 100000) (hwl : d.waits.length ≤ 10000) :
    Calls Try.prog 38 #[.pointer (some ⟨b, 0, none⟩), .int .i64 i, .string (bs s)] w fun e w' => (∃ x : Int, e = .returned (.int .i64 x)) ∧ DiskAt w' b sb mb lo (putD d i s) ∧ DKept b sb mb lo w w' := by
  by_cases hi : 0 ≤ i ∧ i < d.stand.length
  · obtain ⟨n, rfl⟩ := Int.eq_ofNat_of_zero_le hi.1
    refine (dWrite b sb mb lo d n s w h hd (by omega) hs ho hwl).mono fun e w' ⟨h1, h2, h3⟩ => ⟨⟨_, h1⟩, ?_, h3⟩
    have e1 : putD d (n : Int) s = writeD d n s := by
      unfold putD writeD opD
      rw [if_pos hi, hf, if_neg (by omega), if_neg (by omega)]
      rfl
    rw [e1]; exact h2
  · have hno : atOf d i ≠ 0 := by
      unfold atOf
      rw [hd, if_neg (by simp), if_pos (by omega)]
      omega
    refine (dWrite_no b sb mb lo d i (bs s) w h hno).mono fun e w' ⟨h1, h2⟩ => ⟨⟨_, h1⟩, ?_, ?_⟩
    · subst h2
      unfold putD
      rw [if_neg hi]
      exact h
    · subst h2; exact DKept.refl _ _ _ _ _
/-- what is left of a sector when some writes are settled: what stood, or one of those kept. -/
theorem sk_each (st : List (List UInt8)) (ws : List (Nat × List UInt8)) (keep : Nat → Bool) (n k : Nat) (hk : k < st.length) (hn : n ≤ ws.length) :
    (sk st ws keep n)[k]? = st[k]? ∨ ∃ x ∈ ws, (∃ j, keep j = true) ∧ x.1 = k ∧ (sk st ws keep n)[k]? = some x.2 := by
  induction n with
  | zero => exact Or.inl rfl
  | succ n ih =>
    rw [sk_succ st ws keep n (by omega)]
    split
    · rename_i hkeep
      by_cases e : ws[n].1 = k
      · refine Or.inr ⟨ws[n], List.getElem_mem _, ⟨n, hkeep⟩, e, ?_⟩
        rw [e, List.getElem?_set_self (by rw [sk_len]; exact hk)]
      · rw [List.getElem?_set_ne e]
        exact ih (by omega)
    · exact ih (by omega)
theorem sk_all {p : List UInt8 → Prop} (st : List (List UInt8)) (ws : List (Nat × List UInt8)) (keep : Nat → Bool) (hs : ∀ s ∈ st, p s) (hw : ∀ x ∈ ws, p x.2) (n : Nat) (hn : n ≤ ws.length) : ∀ s ∈ sk st ws keep n, p s := by
  induction n with
  | zero => exact hs
  | succ n ih =>
    rw [sk_succ st ws keep n (by omega)]
    intro s h
    split at h
    · rcases List.mem_or_eq_of_mem_set h with h | h
      · exact ih (by omega) s h
      · subst h; exact hw _ (List.getElem_mem _)
    · exact ih (by omega) s h
theorem flat_len (st : List (List UInt8)) (h : ∀ s ∈ st, s.length = 128) : st.flatten.length = 128 * st.length := by
  induction st with
  | nil => rfl
  | cons a st ih =>
    rw [List.flatten_cons, List.length_append, ih (fun s hs => h s (List.mem_cons_of_mem _ hs)), h a (List.mem_cons_self), List.length_cons]; omega
theorem cut_flat (st : List (List UInt8)) (h : ∀ s ∈ st, s.length = 128) (k : Nat) (hk : k < st.length) : cutS st.flatten k = st[k] := by
  unfold cutS
  induction st generalizing k with
  | nil => simp at hk
  | cons a st ih =>
    have ha := h a (List.mem_cons_self)
    rw [List.flatten_cons]
    cases k with
    | zero =>
      rw [Nat.mul_zero, List.drop_zero, List.take_append_of_le_length (by omega), List.take_of_length_le (by omega)]; rfl
    | succ k =>
      have e : 128 * (k + 1) = a.length + 128 * k := by omega
      rw [e, List.drop_append, List.drop_of_length_le (by omega), List.nil_append]
      have e2 : a.length + 128 * k - a.length = 128 * k := by omega
      rw [e2, ih (fun s hs => h s (List.mem_cons_of_mem _ hs)) k (by simpa using hk)]
      rfl
/-- is a sector as it stood, or as one of the first writes? -/
def fineB (f0 : Bool) (l : List DAct) (k : Nat) (s : List UInt8) : Nat → Bool
  | 0 => f0
  | i + 1 => fineB f0 l k s i || (decide ((l.getD i default).i = k) && decide (s = sectorL (l.getD i default).s))
theorem fineB_true (l : List DAct) (k : Nat) (s : List UInt8) (n : Nat) : fineB true l k s n = true := by
  induction n with
  | zero => rfl
  | succ n ih => unfold fineB; rw [ih]; rfl
theorem fineB_of (f0 : Bool) (l : List DAct) (k : Nat) (s : List UInt8) (n j : Nat) (hj : j < n) (h1 : (l.getD j default).i = k) (h2 : s = sectorL (l.getD j default).s) : fineB f0 l k s n = true := by
  induction n with
  | zero => omega
  | succ n ih =>
    unfold fineB
    by_cases e : j = n
    · subst e; rw [decide_eq_true h1, decide_eq_true h2]; simp
    · rw [ih (by omega)]; rfl
/-- what was flushed stands, or is as a write that waited; if nothing is kept it stands. -/
theorem keeps_fine (D1 : DK) (l2 : List DAct) (n2 : Nat) (kp : List Bool) (h1 : D1.stand.length = 8) (h2 : ∀ s ∈ D1.stand, s.length = 128) (h3 : D1.waits.length = 0) (hF : PutFacts D1 l2 n2 (putN D1 l2 n2)) (k : Nat) (hk : k < 8) :
    (kp.length = 0 → cutS (powerD (putN D1 l2 n2) kp).stand.flatten k = cutS D1.stand.flatten k) ∧
    fineB ((bs (cutS (powerD (putN D1 l2 n2) kp).stand.flatten k)).toList == (bs (cutS D1.stand.flatten k)).toList) l2 k (cutS (powerD (putN D1 l2 n2) kp).stand.flatten k) n2 = true := by
  obtain ⟨f1, f2, f3, f4, f5, f6⟩ := hF
  have hw0 : D1.waits = [] := List.eq_nil_of_length_eq_zero h3
  have hall : ∀ s ∈ (powerD (putN D1 l2 n2) kp).stand, s.length = 128 := by
    refine sk_all (p := fun s => s.length = 128) _ _ _ ?_ ?_ _ (Nat.le_refl _)
    · rw [f1]; exact h2
    · intro x hx
      rcases f6 x hx with h | ⟨_, j, _, _, e⟩
      · rw [hw0] at h; cases h
      · rw [e, sectorL_len]
  have hlen : (powerD (putN D1 l2 n2) kp).stand.length = 8 := by
    show (sk _ _ _ _).length = 8
    rw [sk_len, f1, h1]
  rw [cut_flat _ hall k (by omega), cut_flat _ h2 k (by omega)]
  have hs := sk_each (putN D1 l2 n2).stand (putN D1 l2 n2).waits (kept kp) (putN D1 l2 n2).waits.length k (by rw [f1]; omega) (Nat.le_refl _)
  have e1 : (sk (putN D1 l2 n2).stand (putN D1 l2 n2).waits (kept kp) (putN D1 l2 n2).waits.length)[k]? = some ((powerD (putN D1 l2 n2) kp).stand[k]'(by omega)) := List.getElem?_eq_getElem _
  have e2 : (putN D1 l2 n2).stand[k]? = some (D1.stand[k]'(by omega)) := by rw [f1]; exact List.getElem?_eq_getElem _
  rw [e1, e2] at hs
  generalize (powerD (putN D1 l2 n2) kp).stand[k]'(by omega) = s at *
  rcases hs with hs | ⟨x, hx, ⟨j, hj⟩, hx1, hx2⟩
  · injection hs with hs
    subst hs
    refine ⟨fun _ => rfl, ?_⟩
    rw [show ((bs (D1.stand[k]'(by omega))).toList == (bs (D1.stand[k]'(by omega))).toList) = true by simp]
    exact fineB_true _ _ _ _
  · refine ⟨fun h0 => ?_, ?_⟩
    · have : kp = [] := List.eq_nil_of_length_eq_zero h0
      subst this
      simp [kept] at hj
    · injection hx2 with hx2
      rcases f6 x hx with h | ⟨_, j, g1, g2, g3⟩
      · rw [hw0] at h; cases h
      · exact fineB_of _ _ _ _ _ j g1 (by rw [g2, hx1]) (by rw [hx2, g3])
theorem now_len (D1 : DK) (l2 : List DAct) (n2 : Nat) (kp : List Bool) (h1 : D1.stand.length = 8) (h2 : ∀ s ∈ D1.stand, s.length = 128) (h3 : D1.waits.length = 0) (hF : PutFacts D1 l2 n2 (putN D1 l2 n2)) :
    (∀ s ∈ (powerD (putN D1 l2 n2) kp).stand, s.length = 128) ∧ (powerD (putN D1 l2 n2) kp).stand.flatten.length = 1024 := by
  obtain ⟨f1, f2, f3, f4, f5, f6⟩ := hF
  have hw0 : D1.waits = [] := List.eq_nil_of_length_eq_zero h3
  have hall : ∀ s ∈ (powerD (putN D1 l2 n2) kp).stand, s.length = 128 := by
    refine sk_all (p := fun s => s.length = 128) _ _ _ ?_ ?_ _ (Nat.le_refl _)
    · rw [f1]; exact h2
    · intro x hx
      rcases f6 x hx with h | ⟨_, j, _, _, e⟩
      · rw [hw0] at h; cases h
      · rw [e, sectorL_len]
  have hlen : (powerD (putN D1 l2 n2) kp).stand.length = 8 := by
    show (sk _ _ _ _).length = 8
    rw [sk_len, f1, h1]
  refine ⟨hall, ?_⟩
  rw [flat_len _ hall, hlen]
end Go.Proofs.Ytdnbddhjdokbfaa
