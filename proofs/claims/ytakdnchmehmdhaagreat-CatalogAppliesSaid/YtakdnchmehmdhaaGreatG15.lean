/- Layer 9 (disk): what a disk is in memory; its map of waiting writes: plain laws. -/
import Derived.Test.YtakdnchmehmdhaaGreatProg
import Derived.Test.YtakdnchmehmdhaaGreatShelf
import Derived.Test.YtakdnchmehmdhaaGreatG01
import Derived.Test.YtakdnchmehmdhaaGreatG02
import Derived.Test.YtakdnchmehmdhaaGreatG03
import Derived.Test.YtakdnchmehmdhaaGreatG04
import Derived.WalkKit
import Derived.Maps.OwnSet
import Derived.Maps.Own
import Derived.Laws.MakeOwn
import Derived.Maps.AppendAt
import Derived.Deep.AppendLies
import Derived.RegionTactic
import Derived.OwnWalk
import Derived.Lib.Builder
import Derived.Shelf.Strings.Repeat
import Derived.Lib.ConvBytes
import Derived.Lib.SlBytesRow
import Derived.Deep.Grids
import Derived.ProofKit
import Derived.OpenShut
import Derived.Deep.LoopGhost
import Derived.Deep.RegionWith
import Derived.BigRegion
namespace Go.Proofs.YtakdnchmehmdhaaGreat
open Go.RowKit Go.Maps
set_option linter.unusedVariables false
set_option linter.unusedSimpArgs false

/-- a map reads as a function of sectors. -/
def MapAt (w : World) (mb n : Nat) (f : Nat → Option (List UInt8)) : Prop :=
  ∃ D : DataW Unit, w.ownsMap Tryz.prog 3 (plainElem Tryz.prog 9) mb n D ∧ ∀ i : Nat, i ≤ 8192 → Maps.has D (.int .i64 i) = (f i).isSome ∧ ∀ s, f i = some s → ∀ z, D.atKey (.int .i64 i) z = .lit (.string s)
theorem MapAt.lt {w : World} {mb n : Nat} {f : Nat → Option (List UInt8)} (h : MapAt w mb n f) : mb < w.heap.size := by obtain ⟨D, h, _⟩ := h; exact h.lt
theorem MapAt.made (w : World) : MapAt (w.alloc (.map #[] 0)) w.heap.size 0 (fun _ => none) :=
  ⟨.map [], World.ownsMap_made _ _ _ _, fun i _ => ⟨rfl, fun s h => by cases h⟩⟩
theorem MapAt.block {w w' : World} {mb n : Nat} {f : Nat → Option (List UInt8)} (h : MapAt w mb n f) (hb : w'.heap[mb]? = w.heap[mb]?) : MapAt w' mb n f := by
  obtain ⟨D, ⟨es, clock, h1, h2⟩, h3⟩ := h
  exact ⟨D, ⟨es, clock, hb.trans h1, h2⟩, h3⟩
theorem MapAt.kept {S : List Nat} {w w' : World} {mb n : Nat} {f : Nat → Option (List UInt8)} (h : MapAt w mb n f) (k : Kept S w w') (hS : mb ∉ S) : MapAt w' mb n f :=
  h.block (k.block mb h.lt hS)
theorem MapAt.other {w : World} {mb n : Nat} {f : Nat → Option (List UInt8)} (h : MapAt w mb n f) {p : Addr} (hp : mb ≠ p.block) (u : Value) : MapAt (w.setCell p u) mb n f :=
  h.block (Below.heap_setCell w p u mb hp)
theorem MapAt.alloc {w : World} {mb n : Nat} {f : Nat → Option (List UInt8)} (h : MapAt w mb n f) (o : Obj) : MapAt (w.alloc o) mb n f :=
  h.kept ((Kept.refl [] w).alloc o) (by simp)
/-- behind 'm[i] = s'. -/
theorem MapAt.put {w w' : World} {mb n : Nat} {D : DataW Unit} {f : Nat → Option (List UInt8)} (hD : IsMap D) (hf : ∀ i : Nat, i ≤ 8192 → Maps.has D (.int .i64 i) = (f i).isSome ∧ ∀ s, f i = some s → ∀ z, D.atKey (.int .i64 i) z = .lit (.string s))
    (i : Nat) (hi : i ≤ 8192) (s : List UInt8) (h : w'.ownsMap Tryz.prog 3 (plainElem Tryz.prog 9) mb n (D.put (.int .i64 i) (.lit (.string s)))) : MapAt w' mb n (fun j => if i = j then some s else f j) := by
  refine ⟨_, h, fun j hj => ?_⟩
  by_cases e : i = j
  · subst e
    simp only [↓reduceIte]
    refine ⟨has_put_same hD (by simp [WideAt.IsKeyLit]) _, fun s' hs z => ?_⟩
    injection hs with hs
    subst hs
    exact atKey_put_same hD (by simp [WideAt.IsKeyLit]) _ z
  · simp only [e, ↓reduceIte]
    have hne : (Lit.int .i64 (j : Int)) ≠ .int .i64 (i : Int) := fun hh => by injection hh with _ hh; omega
    rw [has_put_other hne]
    refine ⟨(hf j hj).1, fun s' hs z => ?_⟩
    rw [atKey_put_other hne]
    exact (hf j hj).2 s' hs z

end Go.Proofs.YtakdnchmehmdhaaGreat

/- Walks of layer 9 (disk): a map cleared; which writes are kept. -/
namespace Go.Proofs.YtakdnchmehmdhaaGreat
open Go.RowKit Go.Maps Go.ChangeMaps
set_option linter.unusedVariables false
set_option linter.unusedSimpArgs false

/-- the slice v reads as the bools l. -/
def BoolsIn (w : World) (v : Value) (l : List Bool) (lo hi : Nat) : Prop :=
  (l = [] ∧ ∃ a c, v = .slice a 0 c) ∨
  ∃ b off c, v = .slice (some ⟨b, off, none⟩) l.length c ∧ (∀ i (h : i < l.length), w.cell? ⟨b, off + i, none⟩ = some (.bool l[i])) ∧ lo ≤ b ∧ b < hi ∧ hi ≤ w.heap.size ∧ l ≠ [] ∧ l.length ≤ c ∧ c ≤ maxLen
theorem BoolsIn.kept {S : List Nat} {w w' : World} {v : Value} {l : List Bool} {lo hi : Nat} (h : BoolsIn w v l lo hi) (k : Kept S w w') (hS : ∀ x ∈ S, x < lo ∨ hi ≤ x) : BoolsIn w' v l lo hi := by
  rcases h with h | ⟨b, off, c, h1, h2, h3, h4, h5, h6⟩
  · exact Or.inl h
  · refine Or.inr ⟨b, off, c, h1, fun i hi => ?_, h3, h4, Nat.le_trans h5 k.size, h6⟩
    rw [k.cell (by show b < _; omega) (fun hb => by have := hS b hb; omega)]
    exact h2 i hi
/-- is the i-th kept? -/
def kept (l : List Bool) (i : Nat) : Bool := l.getD i false
end Go.Proofs.YtakdnchmehmdhaaGreat

/- Walks of layer 9 (disk): Flush, Power, Fuse; of nobody's disk too. -/
namespace Go.Proofs.YtakdnchmehmdhaaGreat
open Go.RowKit Go.Maps
set_option linter.unusedVariables false
set_option linter.unusedSimpArgs false

theorem BoolsIn.shape {w : World} {v : Value} {l : List Bool} {lo hi : Nat} (h : BoolsIn w v l lo hi) : ∃ p c, v = .slice p l.length c := by
  rcases h with ⟨rfl, a, c, rfl⟩ | ⟨b, off, c, rfl, _⟩
  · exact ⟨a, c, rfl⟩
  · exact ⟨_, c, rfl⟩
theorem BoolsIn.nil (w : World) : BoolsIn w (.slice none 0 0) [] 0 0 := Or.inl ⟨rfl, _, _, rfl⟩
end Go.Proofs.YtakdnchmehmdhaaGreat

/- What a walk is told of a list of a disk's calls that came in. -/
namespace Go.Proofs.YtakdnchmehmdhaaGreat
open Go.ChangeShapes Go.WideShapes Go.ChangeAt Go.RowKit Go.Deep
set_option linter.unusedVariables false
set_option linter.unusedSimpArgs false

/-- a call. -/
structure DAct where
  kind : Int
  i : Int
  s : List UInt8
  full : Bool
  keep : List Bool
deriving Inhabited
def DAct.fits (a : DAct) : Prop := (Lit.int .i64 a.kind).wf = true ∧ (Lit.int .i64 a.i).wf = true ∧ a.s.length ≤ maxLen ∧ a.keep.length ≤ maxLen
/-- its cells. -/
def ActCells (lo hi : Nat) (w : World) (cs : List Value) (a : DAct) : Prop := ∃ kv, cs = [.int .i64 a.kind, .int .i64 a.i, .string (bs a.s), .bool a.full, kv] ∧ BoolsIn w kv a.keep lo hi ∧ a.fits
def ActsIn (w : World) (v : Value) (l : List DAct) (lo hi : Nat) : Prop := RowsOf 5 (ActCells lo hi) w v l lo hi
set_option maxRecDepth 100000 in
theorem ActsIn.kept {S : List Nat} {w w' : World} {v : Value} {l : List DAct} {lo hi : Nat} (h : ActsIn w v l lo hi) (k : Kept S w w') (hS : ∀ x ∈ S, x < lo ∨ hi ≤ x) : ActsIn w' v l lo hi :=
  RowsOf.kept h k hS (fun cs a ⟨kv, e1, e2, e3⟩ => ⟨kv, e1, e2.kept k hS, e3⟩)
set_option maxRecDepth 100000 in
theorem ActsIn.at_ {w : World} {p : Option Addr} {n c : Nat} {l : List DAct} {lo hi : Nat} (h : ActsIn w (.slice p n c) l lo hi) (i : Nat) (hi' : i < l.length) :
    ∃ b off kv, p = some ⟨b, off, none⟩ ∧ w.cell? ⟨b, off + i * 5, none⟩ = some (.int .i64 l[i].kind) ∧ w.cell? ⟨b, off + i * 5 + 1, none⟩ = some (.int .i64 l[i].i) ∧ w.cell? ⟨b, off + i * 5 + 2, none⟩ = some (.string (bs l[i].s)) ∧ w.cell? ⟨b, off + i * 5 + 3, none⟩ = some (.bool l[i].full) ∧ w.cell? ⟨b, off + i * 5 + 4, none⟩ = some kv ∧ BoolsIn w kv l[i].keep lo hi ∧ l[i].fits ∧ lo ≤ b ∧ b < hi ∧ hi ≤ w.heap.size := by
  obtain ⟨b, off, cs, e1, e2, ⟨kv, rfl, e4, e5⟩, e6, e7⟩ := RowsOf.at_ h i hi'
  exact ⟨b, off, kv, e1, e6 0 _ rfl, e6 1 _ rfl, e6 2 _ rfl, e6 3 _ rfl, e6 4 _ rfl, e4, e5, e7⟩
section
variable {H : Type} {enc : TypeId × Value → H} {w : World} {base : Nat} {held : Bool} {r : Reach} {b0 : Nat}
set_option maxRecDepth 100000 in
theorem BoolsIn.len {w : World} {v : Value} {l : List Bool} {lo hi : Nat} (h : BoolsIn w v l lo hi) : l.length ≤ maxLen := by
  rcases h with ⟨rfl, a, c, rfl⟩ | ⟨b, off, c, rfl, _, _, _, _, _, h7, h8⟩
  · exact Nat.zero_le _
  · omega
end
end Go.Proofs.YtakdnchmehmdhaaGreat

/- Layer 9: what the document's disk is in memory. -/
namespace Go.Proofs.YtakdnchmehmdhaaGreat
open Go.RowKit Go.Maps
set_option linter.unusedVariables false
set_option linter.unusedSimpArgs false

theorem Own.c5 {w : World} {b : Nat} {x0 x1 x2 x3 x4 : Value} {t : TypeId} (h : Own w b #[x0, x1, x2, x3, x4] t) : w.cell? ⟨b, 0, none⟩ = some x0 ∧ w.cell? ⟨b, 1, none⟩ = some x1 ∧ w.cell? ⟨b, 2, none⟩ = some x2 ∧ w.cell? ⟨b, 3, none⟩ = some x3 ∧ w.cell? ⟨b, 4, none⟩ = some x4 :=
  ⟨h.cell 0 (by simp), h.cell 1 (by simp), h.cell 2 (by simp), h.cell 3 (by simp), h.cell 4 (by simp)⟩
theorem Own.z5 {w : World} {b : Nat} {x0 x1 x2 x3 x4 : Value} {t : TypeId} (h : Own w b #[x0, x1, x2, x3, x4] t) : w.frozen? ⟨b, 0, none⟩ = false ∧ w.frozen? ⟨b, 1, none⟩ = false ∧ w.frozen? ⟨b, 2, none⟩ = false ∧ w.frozen? ⟨b, 3, none⟩ = false ∧ w.frozen? ⟨b, 4, none⟩ = false :=
  ⟨h.free 0, h.free 1, h.free 2, h.free 3, h.free 4⟩
end Go.Proofs.YtakdnchmehmdhaaGreat

/- Layer 13 (journal): which two records are the same: both sides. -/
namespace Go.Proofs.YtakdnchmehmdhaaGreat
open Go.RowKit
set_option linter.unusedVariables false
set_option linter.unusedSimpArgs false

def JRec.same (a b : JRec) : Bool := a.kind == b.kind && (a.id == b.id && (a.name == b.name && (a.size == b.size && a.runs == b.runs)))
theorem JRec.four (a b : JRec) : ((a.kind == b.kind) = false ∧ a.same b = false) ∨ ((a.kind == b.kind) = true ∧ (a.id == b.id) = false ∧ a.same b = false) ∨ ((a.kind == b.kind) = true ∧ (a.id == b.id) = true ∧ (a.name == b.name) = false ∧ a.same b = false) ∨ ((a.kind == b.kind) = true ∧ (a.id == b.id) = true ∧ (a.name == b.name) = true ∧ (a.size == b.size) = false ∧ a.same b = false) ∨ ((a.kind == b.kind) = true ∧ (a.id == b.id) = true ∧ (a.name == b.name) = true ∧ (a.size == b.size) = true ∧ a.same b = (a.runs == b.runs)) := by
  unfold JRec.same
  cases a.kind == b.kind <;> cases a.id == b.id <;> cases a.name == b.name <;> cases a.size == b.size <;> simp
/-- the next n bytes; and the reader behind it. -/
def takeR (n : Int) (l : List UInt8) (x : Int) : List UInt8 × List UInt8 × Int :=
  if x ≠ 0 then ([], l, x) else if n < 0 then ([], [], 1) else if (l.length : Int) < n then ([], [], 10) else (l.take n.toNat, l.drop n.toNat, 0)
set_option maxRecDepth 100000 in
theorem packTake (b : Nat) (l : List UInt8) (x n : Int) (w : World) (hR : RdAt w b l x) :
    Calls Tryz.prog 88 #[.pointer (some ⟨b, 0, none⟩), .int .i64 n] w fun r w' => r = .returned (.string (bs (takeR n l x).1)) ∧ RdAt w' b (takeR n l x).2.1 (takeR n l x).2.2 ∧ Kept [b] w w' := by
  have c0 : w.cell? ⟨b, 0, none⟩ = some (.string (bs l)) := Own.cell hR 0 (by simp)
  have c1 : w.cell? ⟨b, 1, none⟩ = some (.int .i64 x) := Own.cell hR 1 (by simp)
  have z0 := Own.free hR 0
  have z1 := Own.free hR 1
  by_cases hx : x = 0
  · have hf := fun e => packFail b l x e w hR
    subst hx
    simp only [keepErr_zero] at hf
    by_cases hn : n < 0
    · have ht : takeR n l 0 = ([], [], 1) := by simp [takeR, hn]
      rw [ht]
      clear ht
      go_enter Tryz.func88, Tryz.ntmps88
      go_wp2_with fail
      refine (hf 1).mono ?_; rintro e w1 ⟨rfl, hR1, hk⟩
      go_wp2_with fail
      go_ret
      exact ⟨rfl, hR1, hk⟩
    · have hn0 : 0 ≤ n := by omega
      have hsz : ((bs l).size : Int) = l.length := by rw [bs_size]
      by_cases hl : (l.length : Int) < n
      · have ht : takeR n l 0 = ([], [], 10) := by simp [takeR, hn, hl]
        rw [ht]
        have hl' : ((bs l).size : Int) < n := by rw [hsz]; exact hl
        clear ht hsz
        go_enter Tryz.func88, Tryz.ntmps88
        go_wp2_with fail
        refine (hf 10).mono ?_; rintro e w1 ⟨rfl, hR1, hk⟩
        go_wp2_with fail
        go_ret
        exact ⟨rfl, hR1, hk⟩
      · have ht : takeR n l 0 = (l.take n.toNat, l.drop n.toNat, 0) := by simp [takeR, hn, hl]
        rw [ht]
        obtain ⟨k, rfl⟩ := Int.eq_ofNat_of_zero_le hn0
        have hl' : (k : Int) ≤ ((bs l).size : Int) := by rw [hsz]; omega
        have hl2 : k ≤ (bs l).size := by omega
        have e1 := Lib.hid (bs_extract l 0 k)
        have e2 := Lib.hid (bs_extract l k (bs l).size)
        clear ht hsz hf
        go_enter Tryz.func88, Tryz.ntmps88
        go_wp2_with fail
        go_ret
        have e1' : (bs l).extract 0 k = bs (l.take k) := by rw [e1.out]; simp
        have e2' : (bs l).extract k (bs l).size = bs (l.drop k) := by rw [e2.out, List.take_of_length_le (by rw [bs_size]; simp)]
        refine ⟨?_, ?_, (Kept.refl _ _).setCell (Or.inl (by simp)) _⟩
        · show Ending.returned (Value.string ((bs l).extract 0 k)) = _
          rw [e1']
        · have h2 := Own.set hR 0 (.string ((bs l).extract k (bs l).size))
          unfold RdAt
          rw [e2'] at h2 ⊢
          simpa using h2
  · have ht : takeR n l x = ([], l, x) := by simp [takeR, hx]
    rw [ht]
    have hd : (x == 0) = false := by simpa using hx
    have hd2 : (x != 0) = true := by simpa using hx
    clear ht
    go_enter Tryz.func88, Tryz.ntmps88
    go_wp2_with fail
    go_ret
    exact ⟨rfl, hR, Kept.refl _ _⟩
/-- the number of bytes, the lowest first. -/
def leL : List UInt8 → Nat
  | [] => 0
  | c :: l => c.toNat + 256 * leL l
theorem leL_lt (l : List UInt8) : leL l < 256 ^ l.length := by
  induction l with
  | nil => simp [leL]
  | cons c l ih =>
    have := c.toNat_lt
    simp only [leL, List.length_cons, Nat.pow_succ]
    omega
theorem leL_snoc (l : List UInt8) (c : UInt8) : leL (l ++ [c]) = leL l + 256 ^ l.length * c.toNat := by
  induction l with
  | nil => simp [leL]
  | cons d l ih =>
    simp only [List.cons_append, leL, ih, List.length_cons, Nat.pow_succ]
    rw [Nat.mul_add, ← Nat.mul_assoc, Nat.mul_comm 256 (256 ^ l.length)]; omega
theorem leL_numL (n k : Nat) : leL (numL n k) = n % 256 ^ k := by
  induction k generalizing n with
  | zero => simp [numL, leL, Nat.mod_one]
  | succ k ih =>
    have e : (UInt8.ofNat n).toNat = n % 256 := by rw [UInt8.toNat_ofNat']
    simp only [numL, leL, ih]
    rw [e, Nat.pow_succ, Nat.mul_comm (256 ^ k) 256, Nat.mod_mul]
def numR (k : Nat) (l : List UInt8) (x : Int) : Nat × List UInt8 × Int := (leL (takeR k l x).1, (takeR k l x).2)
theorem takeR_len (n : Int) (l : List UInt8) (x : Int) : (takeR n l x).1.length ≤ n.toNat := by
  unfold takeR; split
  · simp
  · split
    · simp
    · split
      · simp
      · simp; omega
theorem or_step (t : List UInt8) (j : Nat) (hj : j < t.length) (hl : t.length ≤ 8) (hb : j < (bs t).size) :
    bits .or .u64 (leL (t.take j)) (IntKind.u64.wrap (IntKind.u64.wrap ((bs t)[j].toNat : Int) * 2 ^ (8 * j))) = (leL (t.take (j + 1)) : Int) := by
  have hc : (bs t)[j].toNat < 256 := by have := (bs t)[j].toNat_lt; omega
  have hlt := leL_lt (t.take j)
  have hlj : (t.take j).length = j := by simp; omega
  rw [hlj] at hlt
  have hp : (256 : Nat) ^ j = 2 ^ (8 * j) := by rw [Nat.pow_mul]
  have hpj : (2 : Nat) ^ (8 * j) ≤ 2 ^ 56 := Nat.pow_le_pow_right (by decide) (by omega)
  have hm : (bs t)[j].toNat * 2 ^ (8 * j) < 2 ^ 64 := by
    have := Nat.mul_le_mul (Nat.le_of_lt_succ hc) hpj
    omega
  have hts : t.take (j + 1) = t.take j ++ [t[j]] := by rw [List.take_succ_eq_append_getElem hj]; rfl
  have hg : (bs t)[j] = t[j] := rfl
  have w1 : IntKind.u64.wrap ((bs t)[j].toNat : Int) = ((bs t)[j].toNat : Int) := by simp [IntKind.wrap, IntKind.signed, IntKind.bits]; omega
  have w2 : IntKind.u64.wrap (((bs t)[j].toNat * 2 ^ (8 * j) : Nat) : Int) = (((bs t)[j].toNat * 2 ^ (8 * j) : Nat) : Int) := by
    have h : (((bs t)[j].toNat * 2 ^ (8 * j) : Nat) : Int) < 18446744073709551616 := by omega
    have h0 : (0 : Int) ≤ (((bs t)[j].toNat * 2 ^ (8 * j) : Nat) : Int) := by omega
    generalize (((bs t)[j].toNat * 2 ^ (8 * j) : Nat) : Int) = X at *
    simp [IntKind.wrap, IntKind.signed, IntKind.bits]; omega
  have e : ((bs t)[j].toNat : Int) * 2 ^ (8 * j) = (((bs t)[j].toNat * 2 ^ (8 * j) : Nat) : Int) := by simp
  rw [w1, e, w2, bits_or_u64_nat _ _ (by omega) (by omega)]
  congr 1
  rw [hts, leL_snoc, hlj, hp, Nat.or_comm, Nat.mul_comm (bs t)[j].toNat, ← Nat.two_pow_add_eq_or_of_lt (by omega), hg]
  omega
set_option maxRecDepth 100000 in
theorem packNumber (b k : Nat) (l : List UInt8) (x : Int) (w : World) (hR : RdAt w b l x) (hk : k ≤ 8) :
    Calls Tryz.prog 86 #[.pointer (some ⟨b, 0, none⟩), .int .i64 k] w fun r w' => r = .returned (.int .u64 (numR k l x).1) ∧ RdAt w' b (numR k l x).2.1 (numR k l x).2.2 ∧ Kept [b] w w' := by
  have ht := packTake b l x k w hR
  have htl := takeR_len k l x
  unfold numR
  generalize takeR (k : Int) l x = t at *
  have hlen : t.1.length ≤ 8 := by omega
  have hsz : ((bs t.1).size : Int) = t.1.length := by rw [bs_size]
  have hsz2 : (bs t.1).size = t.1.length := by rw [bs_size]
  go_enter Tryz.func86, Tryz.ntmps86
  go_wp2_with fail
  refine ht.mono ?_; rintro e w1 ⟨rfl, hR1, hk1⟩
  go_wp2_with fail
  go_loop [6, 13] (fun v i => ∃ j : Nat, j ≤ t.1.length ∧ i = .int .i64 j ∧ v = .int .u64 (leL (t.1.take j))) (fun _ i => t.1.length - (intOf i).toNat)
  case atStart => exact ⟨0, Nat.zero_le _, rfl, rfl⟩
  case round =>
    obtain ⟨j, hj, rfl, rfl⟩ := hrel
    by_cases hlt : j < t.1.length
    · have hstep := Lib.hid (or_step t.1 j hlt hlen (by rw [bs_size]; exact hlt))
      go_wp2_with fail
      go_round
      case rel => exact ⟨j + 1, by omega, by go_num, by rw [← hstep.out]⟩
      case measure => simp [intOf]; omega
    · have hfin := Lib.hid (show t.1.take j = t.1 from List.take_of_length_le (by omega))
      go_wp2_with fail
      go_ret
      exact ⟨by show Ending.returned (Value.int .u64 (leL (t.1.take j))) = _; rw [hfin.out], hR1, hk1⟩
theorem numR_lt (k : Nat) (l : List UInt8) (x : Int) : (numR k l x).1 < 256 ^ k := by
  have h1 := leL_lt (takeR k l x).1
  have h2 := takeR_len k l x
  have h3 : (256 : Nat) ^ (takeR k l x).1.length ≤ 256 ^ k := Nat.pow_le_pow_right (by decide) (by omega)
  show leL _ < _
  omega
set_option maxRecDepth 100000 in
theorem rdU8 (b : Nat) (l : List UInt8) (x : Int) (w : World) (hR : RdAt w b l x) :
    Calls Tryz.prog 142 #[.pointer (some ⟨b, 0, none⟩)] w fun r w' => r = .returned (.int .u8 (numR 1 l x).1) ∧ RdAt w' b (numR 1 l x).2.1 (numR 1 l x).2.2 ∧ Kept [b] w w' := by
  have hn : Calls Tryz.prog 86 #[.pointer (some ⟨b, 0, none⟩), .int .i64 1] w fun r w' => r = .returned (.int .u64 (numR 1 l x).1) ∧ RdAt w' b (numR 1 l x).2.1 (numR 1 l x).2.2 ∧ Kept [b] w w' := packNumber b 1 l x w hR (by omega)
  have hb := numR_lt 1 l x
  have hb' : ((numR 1 l x).1 : Int) < 256 := by omega
  clear hb
  generalize numR 1 l x = u at *
  go_enter Tryz.func142, Tryz.ntmps142
  go_wp2_with fail
  refine hn.mono ?_; rintro e w1 ⟨rfl, hR1, hk1⟩
  go_wp2_with fail
  go_ret
  exact ⟨rfl, hR1, hk1⟩
set_option maxRecDepth 100000 in
theorem rdU16 (b : Nat) (l : List UInt8) (x : Int) (w : World) (hR : RdAt w b l x) :
    Calls Tryz.prog 115 #[.pointer (some ⟨b, 0, none⟩)] w fun r w' => r = .returned (.int .u16 (numR 2 l x).1) ∧ RdAt w' b (numR 2 l x).2.1 (numR 2 l x).2.2 ∧ Kept [b] w w' := by
  have hn : Calls Tryz.prog 86 #[.pointer (some ⟨b, 0, none⟩), .int .i64 2] w fun r w' => r = .returned (.int .u64 (numR 2 l x).1) ∧ RdAt w' b (numR 2 l x).2.1 (numR 2 l x).2.2 ∧ Kept [b] w w' := packNumber b 2 l x w hR (by omega)
  have hb := numR_lt 2 l x
  have hb' : ((numR 2 l x).1 : Int) < 65536 := by omega
  clear hb
  generalize numR 2 l x = u at *
  go_enter Tryz.func115, Tryz.ntmps115
  go_wp2_with fail
  refine hn.mono ?_; rintro e w1 ⟨rfl, hR1, hk1⟩
  go_wp2_with fail
  go_ret
  exact ⟨rfl, hR1, hk1⟩
set_option maxRecDepth 100000 in
theorem rdU32 (b : Nat) (l : List UInt8) (x : Int) (w : World) (hR : RdAt w b l x) :
    Calls Tryz.prog 51 #[.pointer (some ⟨b, 0, none⟩)] w fun r w' => r = .returned (.int .u32 (numR 4 l x).1) ∧ RdAt w' b (numR 4 l x).2.1 (numR 4 l x).2.2 ∧ Kept [b] w w' := by
  have hn : Calls Tryz.prog 86 #[.pointer (some ⟨b, 0, none⟩), .int .i64 4] w fun r w' => r = .returned (.int .u64 (numR 4 l x).1) ∧ RdAt w' b (numR 4 l x).2.1 (numR 4 l x).2.2 ∧ Kept [b] w w' := packNumber b 4 l x w hR (by omega)
  have hb := numR_lt 4 l x
  have hb' : ((numR 4 l x).1 : Int) < 4294967296 := by omega
  clear hb
  generalize numR 4 l x = u at *
  go_enter Tryz.func51, Tryz.ntmps51
  go_wp2_with fail
  refine hn.mono ?_; rintro e w1 ⟨rfl, hR1, hk1⟩
  go_wp2_with fail
  go_ret
  exact ⟨rfl, hR1, hk1⟩
/-- a length that is not above a greatest one. -/
def lenR (most : Nat) (l : List UInt8) (x : Int) : Nat × List UInt8 × Int :=
  let u := numR 4 l x
  if most < u.1 then (0, [], keepErr 2 u.2.2) else u
set_option maxRecDepth 100000 in
theorem rdLength (b most : Nat) (l : List UInt8) (x : Int) (w : World) (hR : RdAt w b l x) (hm : most < 1000000000) :
    Calls Tryz.prog 154 #[.pointer (some ⟨b, 0, none⟩), .int .i64 most] w fun r w' => r = .returned (.int .i64 (lenR most l x).1) ∧ RdAt w' b (lenR most l x).2.1 (lenR most l x).2.2 ∧ Kept [b] w w' := by
  have hn : Calls Tryz.prog 86 #[.pointer (some ⟨b, 0, none⟩), .int .i64 4] w fun r w' => r = .returned (.int .u64 (numR 4 l x).1) ∧ RdAt w' b (numR 4 l x).2.1 (numR 4 l x).2.2 ∧ Kept [b] w w' := packNumber b 4 l x w hR (by omega)
  have hb := numR_lt 4 l x
  unfold lenR
  generalize numR 4 l x = u at *
  by_cases hlt : most < u.1
  · rw [if_pos hlt]
    go_enter Tryz.func154, Tryz.ntmps154
    go_wp2_with fail
    refine hn.mono ?_; rintro e w1 ⟨rfl, hR1, hk1⟩
    go_wp2_with fail
    refine (packFail b u.2.1 u.2.2 2 _ hR1).mono ?_; rintro e w2 ⟨rfl, hR2, hk2⟩
    go_wp2_with fail
    go_ret
    exact ⟨rfl, hR2, hk1.trans hk2⟩
  · rw [if_neg hlt]
    go_enter Tryz.func154, Tryz.ntmps154
    go_wp2_with fail
    refine hn.mono ?_; rintro e w1 ⟨rfl, hR1, hk1⟩
    go_wp2_with fail
    go_ret
    exact ⟨rfl, hR1, hk1⟩
/-- the next text. -/
def textR (l : List UInt8) (x : Int) : List UInt8 × List UInt8 × Int :=
  let u := lenR 65536 l x
  takeR u.1 u.2.1 u.2.2
set_option maxRecDepth 100000 in
theorem rdText (b : Nat) (l : List UInt8) (x : Int) (w : World) (hR : RdAt w b l x) :
    Calls Tryz.prog 143 #[.pointer (some ⟨b, 0, none⟩)] w fun r w' => r = .returned (.string (bs (textR l x).1)) ∧ RdAt w' b (textR l x).2.1 (textR l x).2.2 ∧ Kept [b] w w' := by
  have hn : Calls Tryz.prog 154 #[.pointer (some ⟨b, 0, none⟩), .int .i64 65536] w fun r w' => r = .returned (.int .i64 (lenR 65536 l x).1) ∧ RdAt w' b (lenR 65536 l x).2.1 (lenR 65536 l x).2.2 ∧ Kept [b] w w' := rdLength b 65536 l x w hR (by omega)
  unfold textR
  generalize lenR 65536 l x = u at *
  go_enter Tryz.func143, Tryz.ntmps143
  go_wp2_with fail
  refine hn.mono ?_; rintro e w1 ⟨rfl, hR1, hk1⟩
  go_wp2_with fail
  refine (packTake b u.2.1 u.2.2 u.1 _ hR1).mono ?_; rintro e w2 ⟨rfl, hR2, hk2⟩
  go_wp2_with fail
  go_ret
  exact ⟨rfl, hR2, hk1.trans hk2⟩
set_option maxRecDepth 100000 in
theorem rdLeft (b : Nat) (l : List UInt8) (x : Int) (w : World) (hR : RdAt w b l x) :
    Calls Tryz.prog 87 #[.pointer (some ⟨b, 0, none⟩)] w fun r w' => r = .returned (.int .i64 l.length) ∧ w = w' := by
  have c0 : w.cell? ⟨b, 0, none⟩ = some (.string (bs l)) := Own.cell hR 0 (by simp)
  have hz := bs_size l
  go_enter Tryz.func87, Tryz.ntmps87
  go_wp2_with fail
  go_ret
  exact ⟨rfl, rfl⟩
set_option maxRecDepth 100000 in
theorem rdErr (b : Nat) (l : List UInt8) (x : Int) (w : World) (hR : RdAt w b l x) :
    Calls Tryz.prog 90 #[.pointer (some ⟨b, 0, none⟩)] w fun r w' => r = .returned (.int .i64 x) ∧ w = w' := by
  have c1 : w.cell? ⟨b, 1, none⟩ = some (.int .i64 x) := Own.cell hR 1 (by simp)
  go_enter Tryz.func90, Tryz.ntmps90
  go_wp2_with fail
  go_ret
  exact ⟨rfl, rfl⟩
/-- what End tells. -/
def endR (l : List UInt8) (x : Int) : Int := if x = 0 ∧ l ≠ [] then 7 else x
set_option maxRecDepth 100000 in
theorem rdEnd (b : Nat) (l : List UInt8) (x : Int) (w : World) (hR : RdAt w b l x) :
    Calls Tryz.prog 117 #[.pointer (some ⟨b, 0, none⟩)] w fun r w' => r = .returned (.int .i64 (endR l x)) ∧ w = w' := by
  have h1 := rdErr b l x w hR
  have h2 := rdLeft b l x w hR
  by_cases hx : x = 0
  · subst hx
    by_cases hl : l = []
    · subst hl
      have he : endR [] 0 = 0 := by simp [endR]
      rw [he]
      simp only [List.length_nil] at h2
      clear he
      go_enter Tryz.func117, Tryz.ntmps117
      go_wp2_with fail
      refine h1.mono ?_; rintro e w1 ⟨rfl, rfl⟩
      go_wp2_with fail
      refine h2.mono ?_; rintro e w1 ⟨rfl, rfl⟩
      go_wp2_with fail
      refine h1.mono ?_; rintro e w1 ⟨rfl, rfl⟩
      go_wp2_with fail
      go_ret
      exact ⟨rfl, rfl⟩
    · have he : endR l 0 = 7 := by simp [endR, hl]
      have hpos : 0 < l.length := List.length_pos_iff.2 hl
      rw [he]
      clear he hl
      go_enter Tryz.func117, Tryz.ntmps117
      go_wp2_with fail
      refine h1.mono ?_; rintro e w1 ⟨rfl, rfl⟩
      go_wp2_with fail
      refine h2.mono ?_; rintro e w1 ⟨rfl, rfl⟩
      go_wp2_with fail
      go_ret
      exact ⟨rfl, rfl⟩
  · have he : endR l x = x := by simp [endR, hx]
    have hd : (x == 0) = false := by simpa using hx
    rw [he]
    clear he
    go_enter Tryz.func117, Tryz.ntmps117
    go_wp2_with fail
    refine h1.mono ?_; rintro e w1 ⟨rfl, rfl⟩
    go_wp2_with fail
    refine h1.mono ?_; rintro e w1 ⟨rfl, rfl⟩
    go_wp2_with fail
    go_ret
    exact ⟨rfl, rfl⟩
theorem kcell0 {W w1 : World} (h : Kept [] W w1) : ∀ b o, b < W.heap.size → w1.cell? ⟨b, o, none⟩ = W.cell? ⟨b, o, none⟩ := fun b o hb => h.cell (a := ⟨b, o, none⟩) hb (by simp)
theorem conv_one (c : UInt8) (B : Nat) (W : World) (h : W.cell? ⟨B, 0, none⟩ = some (.int .u8 (c.toNat : Int))) : (convert 125 9 (.slice (some ⟨B, 0, none⟩) 1 1)).run Tryz.prog W = .ok (.string (bs [c])) W := by
  have hb : Lib.Bytes W B 0 (bs [c]) := by
    intro i hi
    rw [bs_size] at hi
    have : i = 0 := by simp at hi; exact hi
    subst this
    rw [Nat.zero_add, h]; rfl
  have := Lib.run_convert_whole (P := Tryz.prog) W 125 5 9 Tryz.underlying125 Tryz.underlying5 Tryz.underlying9 B 0 (bs [c]) hb 1
  rw [bs_size] at this
  exact this
set_option maxRecDepth 100000 in
set_option maxHeartbeats 400000 in
theorem rNum (k : Nat) : ∀ (n : Nat) (w : World), n < 18446744073709551616 → k ≤ 8 →
    Calls Tryz.prog 54 #[.int .u64 n, .int .i64 k] w fun e w' => e = .returned (.string (bs (numL n k))) ∧ Kept [] w w' := by
  induction k with
  | zero =>
    intro n w hn hk
    go_enter Tryz.func54, Tryz.ntmps54
    go_wp2_with fail
    go_ret
    exact ⟨rfl, Kept.refl _ _⟩
  | succ k ih =>
    intro n w hn hk
    have H := fun w => ih (n / 256) w (by omega) (by omega)
    have hc0 : ((UInt8.ofNat n).toNat : Int) = (n : Int) % 256 := by rw [UInt8.toNat_ofNat']; rfl
    have e1 : IntKind.u8.wrap ((n : Int).tmod 256) = ((UInt8.ofNat n).toNat : Int) := by
      rw [hc0, Int.tmod_eq_emod_of_nonneg (by omega), IntKind.wrap_u8]; omega
    have e2 : IntKind.u64.wrap ((n : Int) / 256) = ((n / 256 : Nat) : Int) := by rw [IntKind.wrap_u64]; omega
    have e3 : IntKind.i64.wrap (k : Int) = (k : Int) := IntWalk.i64_in _ (by omega)
    have hconv := fun (B : Nat) (W : World) (h : W.cell? ⟨B, 0, none⟩ = some (.int .u8 ((UInt8.ofNat n).toNat : Int))) => conv_one (UInt8.ofNat n) B W h
    have hz : (bs (numL (n / 256) k)).size ≤ 8 := by rw [bs_size, numL_len]; omega
    have hz1 : (bs [UInt8.ofNat n]).size ≤ 1 := by rw [bs_size]; simp
    have hz2 : ¬ ((bs [UInt8.ofNat n]).size + (bs (numL (n / 256) k)).size > 9223372036854775807) := by omega
    have hfin : Hid (bs [UInt8.ofNat n] ++ bs (numL (n / 256) k) = bs (numL n (k + 1))) := by
      show bs [UInt8.ofNat n] ++ bs (numL (n / 256) k) = _
      rw [bs_append]; rfl
    clear hc0
    generalize bs [UInt8.ofNat n] = c0 at *
    generalize ((UInt8.ofNat n).toNat : Int) = c1 at *
    generalize numL n (k + 1) = N at *
    generalize numL (n / 256) k = M at *
    generalize n / 256 = m at *
    clear ih
    go_enter Tryz.func54, Tryz.ntmps54
    go_wp2_with fail
    go_region_with ((go_at_call 54; refine (H _).mono ?_; rintro e w1 ⟨rfl, hk1⟩; have hkc := kcell0 hk1))
    all_goals go_wp2_with fail
    all_goals go_ret
    all_goals refine ⟨by show Ending.returned (Value.string (c0 ++ bs M)) = _; rw [hfin.out], ?_⟩
    all_goals first | exact (((Kept.refl _ _).alloc _).drew).trans hk1 | exact ((Kept.refl _ _).drew.trans hk1).alloc _
set_option maxRecDepth 100000 in
theorem rText (s : ByteArray) (w : World) (hs : s.size < 4294967296) :
    Calls Tryz.prog 118 #[.string s] w fun e w' => e = .returned (.string (bs (textL s.data.toList))) ∧ Kept [] w w' := by
  have h : ∀ w, Calls Tryz.prog 54 #[.int .u64 s.size, .int .i64 4] w fun e w' => e = .returned (.string (bs (numL s.size 4))) ∧ Kept [] w w' := fun w => rNum 4 s.size w (by omega) (by omega)
  have hz : (bs (numL s.size 4)).size ≤ 4 := by rw [bs_size, numL_len]; omega
  have hfin := Lib.hid (bs_append' (numL s.size 4) s)
  go_enter Tryz.func118, Tryz.ntmps118
  go_wp2_with fail
  refine (h _).mono ?_; rintro e w1 ⟨rfl, hk⟩
  go_wp2_with fail
  go_ret
  refine ⟨?_, hk⟩
  show Ending.returned (Value.string (bs (numL s.size 4) ++ s)) = _
  rw [hfin.out, textL, size_data]
end Go.Proofs.YtakdnchmehmdhaaGreat
