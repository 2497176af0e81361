/- -/
import Derived.Test.YtdkimcnlhmhpgaaGreatShelf
import Derived.Test.YtdkimcnlhmhpgaaGreatH01
import Derived.Test.YtdkimcnlhmhpgaaGreatH04
import Derived.Shelf.Strings.Repeat
import Derived.Lib.Builder
import Derived.Lib.ConvBytes
import Derived.Lib.SlBytesRow
import Derived.ProofKit
import Derived.OpenShut
import Derived.SliceStrings
import Derived.Deep.Slices
import Derived.ChangeSame
import Derived.Deep.Grids
import Derived.Laws.OwnMore
import Derived.Laws.AppendOwnNone
import Derived.Maps.AppendAt
import Derived.Laws.BitsAllLaws
import Derived.Deep.RegionLaw
set_option linter.unusedVariables false
set_option linter.unusedSimpArgs false
namespace Go.Proofs.YtdkimcnlhmhpgaaGreat
open Go.RowKit Go.Maps
theorem rep_zero (k : Nat) : Lib.repeatL [0] k = List.replicate k 0 := by
 induction k with
 | zero => rfl
 | succ k ih => rw [Lib.repeatL, ih]; rfl
def zeroS : List UInt8 := List.replicate 128 0
theorem dRep (w : World) : Calls Tryz.prog 34 #[.string { data := #[0] }, .int .i64 128] w fun e w' => e = .returned (.string (bs zeroS)) ∧ Kept [] w w' := by
 have h := Tryz.strings_Repeat { data := #[0] } 128 w (by omega) (by show 1 * 128 ≤ _; omega)
 have e : (⟨(Lib.repeatL (ByteArray.mk #[0]).data.toList 128).toArray⟩ : ByteArray) = bs zeroS := by
  show bs (Lib.repeatL [0] 128) = _
  rw [rep_zero]; rfl
 rw [e] at h
 exact h.mono fun e w' hh => ⟨hh.1, Kept.of_below hh.2⟩
def newD (st : List (List UInt8)) : DK := ⟨st, [], -1, 0, false⟩
theorem dMade (sb : Nat) (st : List (List UInt8)) (w : World) (o : Own w sb (scells st) 9) (h1 : 1 ≤ st.length) (h2 : st.length ≤ 8192) :
  Calls Tryz.prog 35 #[.slice (some ⟨sb, 0, none⟩) st.length st.length] w fun e w' => e = .returned (.pointer (some ⟨w.heap.size + 1, 0, none⟩)) ∧ DiskAt w' (w.heap.size + 1) sb w.heap.size (w.heap.size + 2) (newD st) ∧ Kept [] w w' := by
 have hmm := @run_makeMap Tryz.prog
 have hlt := o.lt
 have hm := (MapAt.made w).alloc (.cells #[.slice (some ⟨sb, 0, none⟩) st.length st.length, .slice none 0 0, .map (some w.heap.size), .int .i64 (-1), .int .i64 0, .bool false] 138)
 have ob := Own.new (w.alloc (.map #[] 0)) #[.slice (some ⟨sb, 0, none⟩) st.length st.length, .slice none 0 0, .map (some w.heap.size), .int .i64 (-1), .int .i64 0, .bool false] 138
 rw [World.size_alloc] at ob
 have os := (o.alloc (.map #[] 0)).alloc (.cells #[.slice (some ⟨sb, 0, none⟩) st.length st.length, .slice none 0 0, .map (some w.heap.size), .int .i64 (-1), .int .i64 0, .bool false] 138)
 go_enter Tryz.func35, Tryz.ntmps35
 go_wp2_with fail
 go_ret
 refine ⟨rfl, ⟨.slice none 0 0, 0, ob, os, World.ownsRow_nil _ _ _ _, hm, Nat.le_refl _, ?_, ?_, ?_, ?_, ?_, h1, h2, ?_, ?_, ?_⟩, ((Kept.refl _ _).alloc _).alloc _⟩
 ·omega
 ·omega
 ·omega
 ·omega
 ·simp
 ·show (-1 : Int) ≤ -1; omega
 ·show (-1 : Int) ≤ 9223372036854775807; omega
 ·exact Nat.zero_le _
def fillTo (n k : Nat) : List (List UInt8) := List.replicate k zeroS ++ List.replicate (n - k) []
theorem fillTo_len (n k : Nat) (h : k ≤ n) : (fillTo n k).length = n := by unfold fillTo; rw [List.length_append, List.length_replicate, List.length_replicate]; omega
theorem fillTo_succ (n k : Nat) (h : k < n) : (fillTo n k).set k zeroS = fillTo n (k + 1) := by
 unfold fillTo
 rw [List.set_append_right _ _ (by simp)]
 have e : n - k = (n - (k + 1)) + 1 := by omega
 rw [e, List.replicate_succ, List.length_replicate, Nat.sub_self, List.set_cons_zero, List.replicate_succ']
 simp
theorem infoStr : ∃ i, Tryz.prog.info? 9 = some i ∧ i.zero = some (.string ⟨#[]⟩) ∧ i.size = 1 ∧ i.bytes = 16 := by
 have hi : (Tryz.prog.info? 9).map (fun i => (i.zero, i.size, i.bytes)) = some (some (.string ⟨#[]⟩), 1, 16) := by kernel_rfl
 obtain ⟨i0, hi0, hz0, hz1, hz2⟩ := info_parts hi
 exact ⟨i0, hi0, hz0, hz1, hz2⟩
theorem run_make_strs (n : Nat) (hn : n ≤ 8192) (w : World) : (Instr.makeSlice 76 (.int .i64 n) (.int .i64 n)).run Tryz.prog w = .ok (.slice (some ⟨w.heap.size, 0, none⟩) n n) (w.alloc (.cells (scells (fillTo n 0)) 9)) := by
 obtain ⟨i0, h1, h2, h3, h4⟩ := infoStr
 rw [run_make_rep (P := Tryz.prog) 76 9 i0 (.string ⟨#[]⟩) Tryz.underlying76 h1 h2 h3 rfl n (by rw [h4]; omega) (by omega) w]
 have e : Array.replicate n (Value.string ⟨#[]⟩) = scells (fillTo n 0) := by
  unfold scells fillTo
  apply Array.toList_inj.1
  simp [bs]
 rw [e]
set_option maxRecDepth 100000 in
set_option maxHeartbeats 1000000 in
theorem dNew (n : Nat) (w : World) (h1 : 1 ≤ n) (h2 : n ≤ 8192) :
  Calls Tryz.prog 9 #[.int .i64 n] w fun e w' => ∃ b sb mb lo, e = .returned (.tuple #[.pointer (some ⟨b, 0, none⟩), .int .i64 0]) ∧ DiskAt w' b sb mb lo (newD (List.replicate n zeroS)) ∧ w.heap.size ≤ sb ∧ w.heap.size ≤ mb ∧ w.heap.size ≤ b ∧ Kept [] w w' := by
 have hmk := run_make_strs n h2
 have o := Own.new w (scells (fillTo n 0)) 9
 have i1 : (1 : Int) ≤ n := by omega
 have i2 : (n : Int) ≤ 8192 := by omega
 go_enter Tryz.func9, Tryz.ntmps9
 go_wp2_with fail
 go_loopw [16] (fun i wr => ∃ k : Nat, k ≤ n ∧ i = .int .i64 k ∧ Own wr w.heap.size (scells (fillTo n k)) 9 ∧ Kept [] w wr) (fun i _ => n - (intOf i).toNat)
 case atStart => exact ⟨0, by omega, rfl, o, (Kept.refl _ _).alloc _⟩
 case round =>
  obtain ⟨k, hk, rfl, os, hK⟩ := hrel
  by_cases hlt : k < n
  ·have HLT := Lib.hid hlt
   go_wp2_with fail
   refine (dRep _).mono ?_; rintro e w1 ⟨rfl, k1⟩
   have os1 := k1.own os (by simp)
   have hsize : k < (scells (fillTo n k)).size := by simp [scells, fillTo_len n k hk]; exact hlt
   obtain ⟨v0, s0⟩ : ∃ v0, w1.cell? ⟨w.heap.size, k, none⟩ = some v0 := ⟨_, os1.cell k hsize⟩
   have zs := os1.free k
   have hfin : Own (w1.setCell ⟨w.heap.size, k, none⟩ (.string (bs zeroS))) w.heap.size (scells (fillTo n (k + 1))) 9 := by
    rw [← fillTo_succ n k hlt, ← scells_set]
    exact os1.set k _
   have hkf := (hK.trans k1).setCell (p := ⟨w.heap.size, k, none⟩) (Or.inr (Nat.le_refl _)) (.string (bs zeroS))
   have HF := Lib.hid hfin
   clear hfin os os1 hsize o
   generalize zeroS = Z at *
   go_wp2_with fail
   go_roundw
   case rel => exact ⟨k + 1, HLT.out, by go_num, HF.out, hkf⟩
   case measure => (have hh := HLT.out; simp [intOf]; omega)
  ·obtain rfl : k = n := by omega
   have e0 : fillTo k k = List.replicate k zeroS := by unfold fillTo; rw [Nat.sub_self]; simp
   rw [e0] at os
   have hmd := dMade w.heap.size (List.replicate k zeroS) wr os (by rw [List.length_replicate]; exact h1) (by rw [List.length_replicate]; exact h2)
   rw [List.length_replicate] at hmd
   have hsz := hK.size
   have HM := Lib.hid hmd
   clear hmd os
   go_wp2_with fail
   refine HM.out.mono ?_; rintro e w2 ⟨rfl, hD, k2⟩
   go_wp2_with fail
   go_ret2
   exact ⟨_, _, _, _, rfl, hD, Nat.le_refl _, hsz, by omega, hK.trans k2⟩
end Go.Proofs.YtdkimcnlhmhpgaaGreat

/- -/
namespace Go.Proofs.YtdkimcnlhmhpgaaGreat
open Go.RowKit
theorem Kept.then_below {a w w' : World} (h : Kept [] a w) (hb : Below a.heap.size w w') : Kept [] a w' :=
 ⟨hb.os.trans h.os, hb.tape.trans h.tape, hb.output.trans h.output, Nat.le_trans h.size hb.size, fun k hk _ => (hb.block k hk).trans (h.block k hk (by simp))⟩
theorem run_make_bytes128 (w : World) : (Instr.makeSlice 61 (.int .i64 128) (.int .i64 128)).run Tryz.prog w = .ok (.slice (some ⟨w.heap.size, 0, none⟩) 128 128) (w.alloc (.cells (Array.replicate 128 (.int .u8 0)) 5)) := by
 kernel_rfl
theorem run_conv128 (w : World) : (convert 61 9 (.slice (some ⟨w.heap.size, 0, none⟩) 128 128)).run Tryz.prog (w.alloc (.cells (Array.replicate 128 (.int .u8 0)) 5)) = .ok (.string (bs zeroS)) (w.alloc (.cells (Array.replicate 128 (.int .u8 0)) 5)) := by
 have ho := Own.new w (Array.replicate 128 (Value.int .u8 0)) 5
 have hb : Lib.Bytes (w.alloc (.cells (Array.replicate 128 (.int .u8 0)) 5)) w.heap.size 0 (bs zeroS) := by
  intro i hi
  have hi2 : i < 128 := by rw [bs_size] at hi; simpa [zeroS] using hi
  rw [Nat.zero_add, ho.cell i (by simp; exact hi2)]
  have hz : i < zeroS.length := by simpa [zeroS] using hi2
  have e0 : zeroS[i] = 0 := by unfold zeroS; exact List.getElem_replicate _
  rw [Array.getElem_replicate]
  refine congrArg some (congrArg (Value.int .u8) ?_)
  show (0 : Int) = ((zeroS[i]'hz).toNat : Int)
  rw [e0]; rfl
 have h := Lib.run_convert_whole (P := Tryz.prog) _ 61 5 9 Tryz.underlying61 Tryz.underlying5 Tryz.underlying9 w.heap.size 0 (bs zeroS) hb 128
 have e : (bs zeroS).size = 128 := by rw [bs_size]; exact List.length_replicate
 rw [e] at h
 exact h
end Go.Proofs.YtdkimcnlhmhpgaaGreat

/- -/
namespace Go.Proofs.YtdkimcnlhmhpgaaGreat
open Go.ChangeShapes Go.WideShapes Go.ChangeAt Go.RowKit Go.Deep
def RowsOf {α : Type} (k : Nat) (R : World → List Value → α → Prop) (w : World) (v : Value) (l : List α) (lo hi : Nat) : Prop :=
 (l = [] ∧ ∃ a c, v = .slice a 0 c) ∨
 ∃ b off c, v = .slice (some ⟨b, off, none⟩) l.length c ∧ (∀ i (h : i < l.length), ∃ cs, cs.length = k ∧ R w cs l[i] ∧ ∀ j u, cs[j]? = some u → w.cell? ⟨b, off + (i * k + j), none⟩ = some u) ∧ lo ≤ b ∧ b < hi ∧ hi ≤ w.heap.size ∧ l ≠ [] ∧ l.length ≤ c ∧ c ≤ maxLen
section
variable {α : Type} {k : Nat} {R : World → List Value → α → Prop} {w w' : World} {v : Value} {l : List α} {lo hi : Nat}
theorem RowsOf.kept {S : List Nat} (h : RowsOf k R w v l lo hi) (kk : Kept S w w') (hS : ∀ x ∈ S, x < lo ∨ hi ≤ x) (hR : ∀ cs a, R w cs a → R w' cs a) : RowsOf k R w' v l lo hi := by
 rcases h with h | ⟨b, off, c, h1, h2, h3, h4, h5, h6, h7, h8⟩
 ·exact Or.inl h
 ·refine Or.inr ⟨b, off, c, h1, fun i hi => ?_, h3, h4, Nat.le_trans h5 kk.size, h6, h7, h8⟩
  have hb : b ∉ S := fun hb => by have := hS b hb; omega
  obtain ⟨cs, e1, e2, e3⟩ := h2 i hi
  refine ⟨cs, e1, hR _ _ e2, fun j u hu => ?_⟩
  rw [kk.cell (by show b < _; omega) hb]
  exact e3 j u hu
theorem RowsOf.shape (h : RowsOf k R w v l lo hi) : ∃ p c, v = .slice p l.length c := by
 rcases h with ⟨rfl, a, c, rfl⟩ | ⟨b, off, c, rfl, _⟩
 ·exact ⟨a, c, rfl⟩
 ·exact ⟨_, c, rfl⟩
theorem RowsOf.len (h : RowsOf k R w v l lo hi) : l.length ≤ maxLen := by
 rcases h with ⟨rfl, a, c, rfl⟩ | ⟨b, off, c, rfl, _, _, _, _, _, h7, h8⟩
 ·exact Nat.zero_le _
 ·omega
theorem RowsOf.at_ {p : Option Addr} {n c : Nat} (h : RowsOf k R w (.slice p n c) l lo hi) (i : Nat) (hi' : i < l.length) :
  ∃ b off cs, p = some ⟨b, off, none⟩ ∧ cs.length = k ∧ R w cs l[i] ∧ (∀ j u, cs[j]? = some u → w.cell? ⟨b, off + (i * k + j), none⟩ = some u) ∧ lo ≤ b ∧ b < hi ∧ hi ≤ w.heap.size := by
 rcases h with ⟨rfl, _⟩ | ⟨b, off, c', e, h2, h3, h4, h5, _, h6, h7⟩
 ·simp at hi'
 ·simp at e
  obtain ⟨e1, rfl, rfl⟩ := e
  obtain ⟨cs, q1, q2, q3⟩ := h2 i hi'
  exact ⟨b, off, cs, e1, q1, q2, q3, h3, h4, h5⟩
end
theorem rows_of_trod {H : Type} {enc : TypeId × Value → H} {P : Program} {w : World} {base : Nat} {held : Bool} {α : Type} [Inhabited α] {k : Nat} {R : World → List Value → α → Prop} {t e : TypeId} {fuel : Nat} {c : Value} {x : DataW H × List MemPlace}
  (ht : P.underlying t = some (.slice e)) (hk : P.cellsOf e = k) (hk0 : 0 < k)
  (hR : ∀ n cs y, DataW.trod enc P w base (fun _ => true) held n e cs = some y → cs.length = k → ∃ a, R w cs a)
  (h : DataW.trod enc P w base (fun _ => true) held fuel t [c] = some x) : ∃ l, RowsOf k R w c l 0 w.heap.size := by
 rcases open_slice ht h with ⟨e1, _⟩ | ⟨a, len, cap, m, n, D, Pl, e1, hb, hl, hm, hmm, _, hx⟩
 ·injection e1 with e1
  exact ⟨[], Or.inl ⟨rfl, _, _, e1⟩⟩
 ·injection e1 with e1
  subst e1
  simp only [if_true] at hmm
  subst hmm
  rw [hk] at hx
  by_cases h0 : len = 0
  ·subst h0; exact ⟨[], Or.inl ⟨rfl, _, _, rfl⟩⟩
  ·obtain ⟨q, hq⟩ := choose_lt (α := α × List Value) (n := len) (p := fun i q => q.2.length = k ∧ R w q.2 q.1 ∧ ∀ j, j < k → w.cell? ((a.add (i * k)).add j) = q.2[j]?) (fun i hi => by
    obtain ⟨cs', q1, q2⟩ := hx i (by omega)
    obtain ⟨_, q3, q4⟩ := World.cells?_some q1
    obtain ⟨z, hz⟩ := hR _ _ _ q2 q3
    exact ⟨(z, cs'), q3, hz, q4⟩)
   obtain ⟨b, off, spot⟩ := a
   have hc0 : ∃ u, w.cell? (((⟨b, off, spot⟩ : Addr).add (0 * k)).add 0) = some u := by
    obtain ⟨e1, _, e2⟩ := hq 0 (by omega)
    rw [e2 0 hk0]
    exact ⟨_, List.getElem?_eq_getElem (by omega)⟩
   obtain ⟨u0, hu0⟩ := hc0
   have hspot : spot = none := by simpa [Addr.add] using World.cell?_spot hu0
   subst hspot
   have hblt : b < w.heap.size := by
    rw [Go.WideShapes.add_plain, Go.WideShapes.add_plain] at hu0
    exact World.block_lt_of_cell? _ _ hu0
   refine ⟨(List.range len).map fun i => (q i).1, Or.inr ⟨b, off, m, by simp, fun i hi => ?_, Nat.zero_le _, hblt, Nat.le_refl _, fun e => ?_, by simpa using hl, hm⟩⟩
   ·have hi' : i < len := by simpa using hi
    obtain ⟨e1, e2, e3⟩ := hq i hi'
    refine ⟨(q i).2, e1, by simpa using e2, fun j u hu => ?_⟩
    have hj : j < k := by
     have := (List.getElem?_eq_some_iff.1 hu).1; omega
    have := e3 j hj
    rw [Go.WideShapes.add_plain, Go.WideShapes.add_plain, Nat.add_assoc] at this
    rw [this, hu]
   ·have := congrArg List.length e
    simp at this; omega
end Go.Proofs.YtdkimcnlhmhpgaaGreat

/- -/
namespace Go.Proofs.YtdkimcnlhmhpgaaGreat
open Go.RowKit Go.Maps
theorem DiskAt.lo_ {w : World} {b sb mb lo : Nat} {d : DK} (h : DiskAt w b sb mb lo d) : b < lo ∧ lo ≤ w.heap.size ∧ d.stand.length ≤ 8192 := by
 obtain ⟨_, _, _, _, _, _, _, _, _, _, h5, h6, h7, h8, _⟩ := h
 exact ⟨h5, h6, h8⟩
theorem sk_all {p : List UInt8 → Prop} (st : List (List UInt8)) (ws : List (Nat × List UInt8)) (keep : Nat → Bool) (hs : ∀ s ∈ st, p s) (hw : ∀ x ∈ ws, p x.2) (n : Nat) (hn : n ≤ ws.length) : ∀ s ∈ sk st ws keep n, p s := by
 induction n with
 | zero => exact hs
 | succ n ih =>
  rw [sk_succ st ws keep n (by omega)]
  intro s h
  split at h
  ·rcases List.mem_or_eq_of_mem_set h with h | h
   ·exact ih (by omega) s h
   ·subst h; exact hw _ (List.getElem_mem _)
  ·exact ih (by omega) s h
end Go.Proofs.YtdkimcnlhmhpgaaGreat

/- -/
namespace Go.Proofs.YtdkimcnlhmhpgaaGreat
open Go.RowKit
theorem grownBy_refl (w : World) (row : Option Nat) : w.grownBy w row := ⟨rfl, rfl, rfl, Nat.le_refl _, fun _ _ _ => rfl⟩
theorem ownsRow_same {w w' : World} {base : Nat} {e : TypeId} {size : Nat} {v : Value} {n : Nat} {xs : List Value} (h : w.ownsRow base e size v n xs)
  (hk : ∀ g cs, base ≤ g → w.heap[g]? = some (.cells cs e (0, 0)) → w'.heap[g]? = w.heap[g]?) : w'.ownsRow base e size v n xs := by
 obtain ⟨h1, h2⟩ := h
 refine ⟨h1, ?_⟩
 rcases h2 with h2 | ⟨g, cap, cur, rfl, hg, hh, r⟩
 ·exact Or.inl h2
 ·exact Or.inr ⟨g, cap, cur, rfl, hg, (hk g cur hg hh).trans hh, r⟩
theorem ownsRow_keptT {S : List Nat} {w w' : World} {base : Nat} {e : TypeId} {size : Nat} {v : Value} {n : Nat} {xs : List Value} (h : w.ownsRow base e size v n xs) (k : Kept S w w')
  (hS : ∀ x ∈ S, base ≤ x → ∀ cs, w.heap[x]? ≠ some (.cells cs e (0, 0))) : w'.ownsRow base e size v n xs :=
 ownsRow_same h (fun g cs hb hg => k.block g (lt_of_block hg) (fun hx => hS g hx hb cs hg))
theorem ownsRow_keptO {r : Nat} {rs : Array Value} {t : TypeId} {w w' : World} {base : Nat} {e : TypeId} {size : Nat} {v : Value} {n : Nat} {xs : List Value} (h : w.ownsRow base e size v n xs) (k : Kept [r] w w') (o : Own w r rs t) (hne : e ≠ t) : w'.ownsRow base e size v n xs :=
 ownsRow_keptT h k (fun x hx _ cs hc => by
  have hx : x = r := by simpa using hx
  subst hx
  have o' : w.heap[x]? = some (.cells rs t (0, 0)) := o
  rw [o'] at hc
  injection hc with hc
  injection hc with _ ht
  exact hne ht.symm)
theorem ownsRow_base {w : World} {base base' : Nat} {e : TypeId} {size : Nat} {v : Value} {n : Nat} {xs : List Value} (h : w.ownsRow base e size v n xs) (hb : base' ≤ base) : w.ownsRow base' e size v n xs := by
 obtain ⟨h1, h2⟩ := h
 refine ⟨h1, ?_⟩
 rcases h2 with h2 | ⟨g, cap, cur, rfl, hg, r⟩
 ·exact Or.inl h2
 ·exact Or.inr ⟨g, cap, cur, rfl, Nat.le_trans hb hg, r⟩
theorem ownsRow_at {w : World} {base : Nat} {e : TypeId} {size : Nat} {v : Value} {n : Nat} {xs : List Value} (h : w.ownsRow base e size v n xs) (hn : 0 < n) :
  ∃ g c, v = .slice (some ⟨g, 0, none⟩) n c ∧ base ≤ g ∧ g < w.heap.size ∧ n ≤ c ∧ c ≤ maxLen ∧ ∀ j u, xs[j]? = some u → w.cell? ⟨g, j, none⟩ = some u := by
 have h' := h
 obtain ⟨hl, ⟨rfl, rfl⟩ | ⟨g, cap, cur, rfl, hb, hg, hnc, hcm, hcs, htake⟩⟩ := h
 ·omega
 ·refine ⟨g, cap, rfl, hb, lt_of_block hg, hnc, hcm, fun j u hj => ?_⟩
  have := World.ownsRow.cells h' (g := g) rfl j u hj
  rwa [Go.WideShapes.add_plain, Nat.zero_add] at this
end Go.Proofs.YtdkimcnlhmhpgaaGreat

/- -/
namespace Go.Proofs.YtdkimcnlhmhpgaaGreat
open Go.RowKit Go.Maps
theorem Own.c5 {w : World} {b : Nat} {x0 x1 x2 x3 x4 : Value} {t : TypeId} (h : Own w b #[x0, x1, x2, x3, x4] t) : w.cell? ⟨b, 0, none⟩ = some x0 ∧ w.cell? ⟨b, 1, none⟩ = some x1 ∧ w.cell? ⟨b, 2, none⟩ = some x2 ∧ w.cell? ⟨b, 3, none⟩ = some x3 ∧ w.cell? ⟨b, 4, none⟩ = some x4 :=
 ⟨h.cell 0 (by simp), h.cell 1 (by simp), h.cell 2 (by simp), h.cell 3 (by simp), h.cell 4 (by simp)⟩
def rVal (d : DK) (i : Int) : List UInt8 := if atOf d i = 0 then seen d i.toNat else []
def wCode (d : DK) (i : Int) (s : List UInt8) : Int := if atOf d i ≠ 0 then atOf d i else if s.length ≠ 128 then 1 else if d.fuse = 0 then 90 else 0
def wNext (d : DK) (i : Int) (s : List UInt8) : DK := if atOf d i = 0 ∧ s.length = 128 then writeD d i.toNat s else d
def fCode (d : DK) : Int := if d.down = true then 90 else if d.fuse = 0 then 90 else 0
def fNext (d : DK) : DK := if d.down = true then d else if d.fuse = 0 then opD d else settleD (opD d) (fun _ => true)
structure Fit (d : DK) : Prop where
 fine : ∀ x ∈ d.waits, x.1 < d.stand.length ∧ x.2.length = 128
 all : ∀ s ∈ d.stand, s.length = 128
theorem Fit.op {d : DK} (h : Fit d) : Fit (opD d) := ⟨h.fine, h.all⟩
theorem atOf_zero {d : DK} {i : Int} (h : atOf d i = 0) : d.down = false ∧ 0 ≤ i ∧ i < d.stand.length := by
 unfold atOf at h
 cases hd : d.down
 ·rw [hd, if_neg (by simp)] at h
  by_cases hc : i < 0 ∨ (d.stand.length : Int) ≤ i
  ·rw [if_pos hc] at h; omega
  ·exact ⟨rfl, by omega, by omega⟩
 ·rw [hd, if_pos rfl] at h; omega
theorem Fit.write {d : DK} (h : Fit d) (i : Int) (s : List UInt8) : Fit (wNext d i s) := by
 unfold wNext
 split
 ·rename_i hc
  obtain ⟨_, h1, h2⟩ := atOf_zero hc.1
  refine ⟨fun x hx => ?_, h.all⟩
  have hx : x ∈ d.waits ++ [(i.toNat, s)] := hx
  rw [List.mem_append] at hx
  rcases hx with hx | hx
  ·exact h.fine x hx
  ·have hx : x = (i.toNat, s) := by simpa using hx
   subst hx
   exact ⟨by show i.toNat < d.stand.length; omega, hc.2⟩
 ·exact h
theorem Fit.settle {d : DK} (h : Fit d) (k : Nat → Bool) : Fit (settleD d k) :=
 ⟨(fun x hx => by cases hx), sk_all (p := fun s => s.length = 128) _ _ _ h.all (fun x hx => (h.fine x hx).2) _ (Nat.le_refl _)⟩
theorem Fit.flush {d : DK} (h : Fit d) : Fit (fNext d) := by
 unfold fNext
 split
 ·exact h
 ·split
  ·exact h.op
  ·exact h.op.settle _
theorem Fit.new (n : Nat) : Fit (newD (List.replicate n zeroS)) := by
 refine ⟨(fun x hx => by cases hx), fun s hs => ?_⟩
 have := List.eq_of_mem_replicate hs
 subst this; unfold zeroS; rw [List.length_replicate]
structure Alone (W0 w : World) (b sb mb lo : Nat) (d : DK) : Prop where
 disk : DiskAt w b sb mb lo d
 kept : Kept [] W0 w
 hb : W0.heap.size ≤ b
 hsb : W0.heap.size ≤ sb
 hmb : W0.heap.size ≤ mb
 hlo : W0.heap.size ≤ lo
 fit : Fit d
section
variable {W0 w : World} {b sb mb lo : Nat} {d : DK}
theorem aNew (n : Nat) (w : World) (h1 : 1 ≤ n) (h2 : n ≤ 8192) :
  Calls Tryz.prog 9 #[.int .i64 n] w fun e w' => ∃ b sb mb lo, e = .returned (.tuple #[.pointer (some ⟨b, 0, none⟩), .int .i64 0]) ∧ Alone w w' b sb mb lo (newD (List.replicate n zeroS)) :=
 (dNew n w h1 h2).mono fun e w' ⟨b, sb, mb, lo, he, hD, z1, z2, z3, k⟩ => ⟨b, sb, mb, lo, he, hD, k, z3, z1, z2, (by have := DiskAt.lo_ hD; omega), Fit.new n⟩
end
def BKept (b sb mb lo r : Nat) (w w' : World) : Prop :=
 w'.os = w.os ∧ w'.tape = w.tape ∧ w'.output = w.output ∧ w.heap.size ≤ w'.heap.size ∧ ∀ k, k < w.heap.size → k ≠ b → k ≠ sb → k ≠ mb → k ≠ r → (k < lo ∨ ∀ cs f, w.heap[k]? ≠ some (.cells cs 206 f)) → w'.heap[k]? = w.heap[k]?
theorem DKept.both {b sb mb lo : Nat} {w w' : World} (h : DKept b sb mb lo w w') (r : Nat) : BKept b sb mb lo r w w' :=
 ⟨h.1, h.2.1, h.2.2.1, h.2.2.2.1, fun k hk e1 e2 e3 _ e4 => h.2.2.2.2 k hk e1 e2 e3 e4⟩
section
variable {W0 w : World} {b sb mb lo r rlo : Nat} {d rd : DK}
end
end Go.Proofs.YtdkimcnlhmhpgaaGreat
