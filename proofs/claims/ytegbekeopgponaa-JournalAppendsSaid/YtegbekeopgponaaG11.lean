/- Walks of layer 9 (disk): texts joined; all that stands. -/
import Derived.Test.YtegbekeopgponaaG04
import Derived.Test.YtegbekeopgponaaG08
import Derived.Test.YtegbekeopgponaaG10
import Derived.Lib.ConvBytes
import Derived.Lib.SlBytesRow
import Derived.Deep.Grids
import Derived.ProofKit
import Derived.OpenShut
namespace Go.Proofs.Ytegbekeopgponaa
open Go.RowKit Go.Maps
set_option linter.unusedVariables false
set_option linter.unusedSimpArgs false

def sumTo (l : List (List UInt8)) (k : Nat) : Nat := ((l.take k).map (·.length)).sum
theorem sumTo_succ (l : List (List UInt8)) (k : Nat) (h : k < l.length) : sumTo l (k + 1) = sumTo l k + l[k].length := by
  unfold sumTo; rw [List.take_succ_eq_append_getElem h, List.map_append, List.sum_append]; simp
theorem sumTo_le (l : List (List UInt8)) (m k : Nat) (hm : ∀ s ∈ l, s.length ≤ m) (hk : k ≤ l.length) : sumTo l k ≤ m * k := by
  induction k with
  | zero => simp [sumTo]
  | succ k ih =>
    rw [sumTo_succ l k (by omega), Nat.mul_succ]
    have := ih (by omega)
    have := hm _ (List.getElem_mem (show k < l.length by omega))
    omega
def catTo (l : List (List UInt8)) (k : Nat) : List UInt8 := (l.take k).flatten
theorem catTo_succ (l : List (List UInt8)) (k : Nat) (h : k < l.length) : catTo l (k + 1) = catTo l k ++ l[k] := by
  unfold catTo; rw [List.take_succ_eq_append_getElem h, List.flatten_append]; simp
theorem catTo_len (l : List (List UInt8)) (k : Nat) : (catTo l k).length = sumTo l k := by
  unfold catTo sumTo; rw [List.length_flatten]
theorem scell {w : World} {sb : Nat} {st : List (List UInt8)} {t : TypeId} (o : Own w sb (scells st) t) (k : Nat) (h : k < st.length) : w.cell? ⟨sb, k, none⟩ = some (.string (bs st[k])) := by
  rw [← scells_get st k h]
  exact o.cell k (by simp [scells]; exact h)
theorem flat_one (st : List (List UInt8)) (h : st.length = 1) : st.flatten = st[0]'(by omega) := by
  obtain ⟨a, rfl⟩ := List.length_eq_one_iff.1 h
  simp
set_option maxRecDepth 100000 in
set_option maxHeartbeats 2000000 in
theorem dJoin (sb : Nat) (st : List (List UInt8)) (w : World) (o : Own w sb (scells st) 9) (h1 : 1 ≤ st.length) (h2 : st.length ≤ 8192) (hm : ∀ s ∈ st, s.length ≤ 128) :
    Calls Try.prog 79 #[.slice (some ⟨sb, 0, none⟩) st.length st.length, .string ⟨#[]⟩] w fun e w' => e = .returned (.string (bs st.flatten)) ∧ Kept [] w w' := by
  have c0 := scell o 0 (by omega)
  by_cases hone : st.length = 1
  · obtain ⟨a, rfl⟩ := List.length_eq_one_iff.1 hone
    have c00 : w.cell? ⟨sb, 0, none⟩ = some (.string (bs a)) := c0
    clear c0
    rw [show [a].flatten = a by simp]
    show Calls Try.prog 79 #[.slice (some ⟨sb, 0, none⟩) 1 1, .string ⟨#[]⟩] w _
    clear o h1 h2 hm hone
    go_enter Try.func79, Try.ntmps79
    go_wp2_with fail
    go_ret
    exact ⟨rfl, Kept.refl _ _⟩
  · have n0 : ((st.length : Int) == 0) = false := by rw [beq_eq_false_iff_ne]; omega
    have n1 : ((st.length : Int) == 1) = false := by rw [beq_eq_false_iff_ne]; omega
    have hS := fun k hk => sumTo_le st 128 k hm hk
    have HS := Lib.hid hS
    have HO := Lib.hid h1
    clear hS
    go_enter Try.func79, Try.ntmps79
    go_wp2_with fail
    go_loop [5, 41] (fun t i => ∃ k : Nat, k ≤ st.length ∧ i = .int .i64 k ∧ t = .int .i64 (sumTo st k)) (fun _ i => st.length - (intOf i).toNat)
    case atStart => exact ⟨0, by omega, rfl, by simp [sumTo]⟩
    case round =>
      obtain ⟨k, hk, rfl, rfl⟩ := hrel
      have hb := HS.out k hk
      by_cases hlt : k < st.length
      · have ck := scell o k hlt
        have hz : (bs st[k]).size ≤ 128 := by rw [bs_size]; exact hm _ (List.getElem_mem hlt)
        have hzz : ((bs st[k]).size : Int) = st[k].length := by rw [bs_size]
        have hsu : Hid (sumTo st (k + 1) = sumTo st k + (bs st[k]).size) := by show _ = _; rw [bs_size]; exact sumTo_succ st k hlt
        have hb2 : (sumTo st k : Int) ≤ 1048576 := by omega
        have hkb : (k : Int) < st.length := by omega
        have HLT := Lib.hid hlt
        clear hb hzz
        generalize bs st[k] = T at *
        generalize sumTo st k = q at *
        generalize hq2 : sumTo st (k + 1) = q2 at *
        have HQ2 := Lib.hid hq2
        clear hq2
        go_wp2_with fail
        go_round
        case rel => exact ⟨k + 1, HLT.out, by go_num, by rw [HQ2.out, hsu.out]; go_num⟩
        case measure => (have hh := HLT.out; simp [intOf]; omega)
      · obtain rfl : k = st.length := by omega
        have hq : sumTo st st.length ≤ 281474976710656 := by omega
        have hq3 := hb
        have ob := Own.new w #[.pointer none, .slice none 0 0] 136
        have hgr := Try.Builder_Grow_fresh w.heap.size w.heap.size (sumTo st st.length) _ (Nat.le_refl _) ob (by simp) hq
        have hcl := catTo_len st
        have hcs := catTo_succ st
        have HCL := Lib.hid hcl
        have HCS := Lib.hid hcs
        have HB := Lib.hid hb
        have i1 : (1 : Int) < st.length := by omega
        clear hb hq3 hcl hcs hq
        generalize sumTo st st.length = q at *
        go_wp2_with fail
        refine hgr.mono ?_; rintro e w1 ⟨rfl, hb1, bl1⟩
        have k1 : Kept [] w w1 := ((Kept.refl [] w).alloc _).then_below bl1
        have hB1 : BuiltAt w1 w.heap.size w.heap.size [] := Or.inr hb1
        have o1 := k1.own o (by simp)
        have c01 := scell o1 0 (by omega)
        have hs1 := k1.size
        clear hgr ob hb1 bl1
        go_wp2_with fail
        refine (built_write w.heap.size w.heap.size [] st[0] w1 hB1 (by have := hm _ (List.getElem_mem (show 0 < st.length by omega)); simp; omega) hs1).mono ?_; rintro e w2 ⟨rfl, hB2, bl2⟩
        have k2 : Kept [] w w2 := k1.then_below bl2
        have hB2' : BuiltAt w2 w.heap.size w.heap.size (catTo st 1) := by
          have := HCS.out 0 (by omega)
          rw [show catTo st 1 = [] ++ st[0] from this]; exact hB2
        clear hB1 hB2 bl2 o1 c01
        go_wp2_with fail
        go_loopw [65] (fun i wr => ∃ k : Nat, k + 1 ≤ st.length ∧ i = .int .i64 k ∧ BuiltAt wr w.heap.size w.heap.size (catTo st (k + 1)) ∧ Kept [] w wr) (fun i _ => st.length - (intOf i).toNat)
        case atStart => exact ⟨0, by omega, rfl, hB2', k2⟩
        case round =>
          obtain ⟨k, hk, rfl, hB, hK⟩ := hrel
          have hs := hK.size
          have hcl : (catTo st (k + 1)).length ≤ 1048576 := by
            rw [HCL.out]; have := HS.out (k + 1) hk; omega
          by_cases hlt : k + 1 < st.length
          · have ck : wr.cell? ⟨sb, 1 + k, none⟩ = some (.string (bs st[k + 1])) := by rw [Nat.add_comm 1 k]; exact scell (hK.own o (by simp)) (k + 1) hlt
            have hz : st[k + 1].length ≤ 128 := hm _ (List.getElem_mem hlt)
            have hcs := HCS.out (k + 1) hlt
            have b1 : (k : Int) < (st.length : Int) - 1 := by omega
            have b2 : (k : Int) < ((st.length - 1 : Nat) : Int) := by omega
            have HLT := Lib.hid hlt
            have HC := Lib.hid hcs
            clear hcs
            generalize st[k + 1] = s at *
            generalize catTo st (k + 1) = C at *
            go_wp2_with fail
            refine (built_write w.heap.size w.heap.size C [] wr hB (by simp; omega) hs).mono ?_; rintro e w4 ⟨rfl, hB4, bl4⟩
            have k4 : Kept [] w w4 := hK.then_below bl4
            have hs4 := k4.size
            rw [List.append_nil] at hB4
            go_wp2_with fail
            refine (built_write w.heap.size w.heap.size C s w4 hB4 (by omega) hs4).mono ?_; rintro e w5 ⟨rfl, hB5, bl5⟩
            have k5 : Kept [] w w5 := k4.then_below bl5
            go_wp2_with fail
            go_roundw
            case rel => exact ⟨k + 1, by have := HLT.out; omega, by go_num, by rw [HC.out]; exact hB5, k5⟩
            case measure => (have hh := HLT.out; simp [intOf]; omega)
          · have e : catTo st (k + 1) = st.flatten := by unfold catTo; rw [show k + 1 = st.length by omega, List.take_length]
            rw [e] at hB
            have b1 : ¬ ((k : Int) < (st.length : Int) - 1) := by omega
            have b2 : ¬ ((k : Int) < ((st.length - 1 : Nat) : Int)) := by omega
            go_wp2_with fail
            refine (built_string w.heap.size w.heap.size st.flatten wr hB hs).mono ?_; rintro e w4 ⟨rfl, bl4⟩
            go_wp2_with fail
            go_ret
            exact ⟨rfl, hK.then_below bl4⟩
end Go.Proofs.Ytegbekeopgponaa

/- 128 bytes made, and read as a text. -/
namespace Go.Proofs.Ytegbekeopgponaa
open Go.RowKit

theorem run_make_bytes128 (w : World) : (Instr.makeSlice 36 (.int .i64 128) (.int .i64 128)).run Try.prog w = .ok (.slice (some ⟨w.heap.size, 0, none⟩) 128 128) (w.alloc (.cells (Array.replicate 128 (.int .u8 0)) 5)) := by
  kernel_rfl
theorem run_conv128 (w : World) : (convert 36 9 (.slice (some ⟨w.heap.size, 0, none⟩) 128 128)).run Try.prog (w.alloc (.cells (Array.replicate 128 (.int .u8 0)) 5)) = .ok (.string (bs zeroS)) (w.alloc (.cells (Array.replicate 128 (.int .u8 0)) 5)) := by
  have ho := Own.new w (Array.replicate 128 (Value.int .u8 0)) 5
  have hb : Lib.Bytes (w.alloc (.cells (Array.replicate 128 (.int .u8 0)) 5)) w.heap.size 0 (bs zeroS) := by
    intro i hi
    have hi2 : i < 128 := by rw [bs_size] at hi; simpa [zeroS] using hi
    rw [Nat.zero_add, ho.cell i (by simp; exact hi2)]
    have hz : i < zeroS.length := by simpa [zeroS] using hi2
    have e0 : zeroS[i] = 0 := by unfold zeroS; exact List.getElem_replicate _
    rw [Array.getElem_replicate]
    refine congrArg some (congrArg (Value.int .u8) ?_)
    show (0 : Int) = ((zeroS[i]'hz).toNat : Int)
    rw [e0]; rfl
  have h := Lib.run_convert_whole (P := Try.prog) _ 36 5 9 Try.underlying36 Try.underlying5 Try.underlying9 w.heap.size 0 (bs zeroS) hb 128
  have e : (bs zeroS).size = 128 := by rw [bs_size]; exact List.length_replicate
  rw [e] at h
  exact h
end Go.Proofs.Ytegbekeopgponaa

/- Walks of layer 9 (disk): the image; the page's example. -/
namespace Go.Proofs.Ytegbekeopgponaa
open Go.RowKit Go.Maps
set_option linter.unusedVariables false
set_option linter.unusedSimpArgs false

set_option maxRecDepth 100000 in
theorem dImage (b sb mb lo : Nat) (d : DK) (w : World) (h : DiskAt w b sb mb lo d) (hm : ∀ s ∈ d.stand, s.length ≤ 128) : Calls Try.prog 35 #[.pointer (some ⟨b, 0, none⟩)] w fun e w' => e = .returned (.string (bs d.stand.flatten)) ∧ Kept [] w w' := by
  obtain ⟨p, c, c0, c1, c2, c3, c4, c5, h1, h2, h3⟩ := h.six
  obtain ⟨wv, n, o, os, _⟩ := h
  have hj := dJoin sb d.stand w os h1 h2 hm
  clear os o
  go_enter Try.func35, Try.ntmps35
  go_wp2_with fail
  refine hj.mono ?_; rintro e w1 ⟨rfl, k1⟩
  go_wp2_with fail
  go_ret
  exact ⟨rfl, k1⟩

theorem DKept.to_kept {b sb mb lo : Nat} {w w1 w' : World} (h : DKept b sb mb lo w1 w') (k : Kept [] w w1) (h1 : w.heap.size ≤ b) (h2 : w.heap.size ≤ sb) (h3 : w.heap.size ≤ mb) (h4 : w.heap.size ≤ lo) : Kept [] w w' := by
  obtain ⟨a1, a2, a3, a4, a5⟩ := h
  exact ⟨a1.trans k.os, a2.trans k.tape, a3.trans k.output, Nat.le_trans k.size a4, fun j hj _ => (a5 j (Nat.lt_of_lt_of_le hj k.size) (by omega) (by omega) (by omega) (Or.inl (by omega))).trans (k.block j hj (by simp))⟩
theorem BoolsIn.nil (w : World) : BoolsIn w (.slice none 0 0) [] 0 0 := Or.inl ⟨rfl, _, _, rfl⟩
end Go.Proofs.Ytegbekeopgponaa

/- Walk of chapter 9's statement: nobody's disk has nothing. -/
namespace Go.Proofs.Ytegbekeopgponaa
open Go.RowKit Go.Maps
set_option linter.unusedVariables false
set_option linter.unusedSimpArgs false

end Go.Proofs.Ytegbekeopgponaa

/- Walks of layer 9 (disk): which images are disks. -/
namespace Go.Proofs.Ytegbekeopgponaa
open Go.RowKit Go.Maps
set_option linter.unusedVariables false
set_option linter.unusedSimpArgs false

/-- may an image be? -/
def mayImg (n : Nat) : Bool := decide (128 ≤ n ∧ n % 128 = 0 ∧ n ≤ 1048576)
end Go.Proofs.Ytegbekeopgponaa

/- Walks of layer 9 (disk): an image loaded. -/
namespace Go.Proofs.Ytegbekeopgponaa
open Go.RowKit Go.Maps
set_option linter.unusedVariables false
set_option linter.unusedSimpArgs false

/-- the i-th sector of an image. -/
def cutS (img : List UInt8) (i : Nat) : List UInt8 := (img.drop (128 * i)).take 128
/-- the first k sectors of n. -/
def loadTo (img : List UInt8) (n k : Nat) : List (List UInt8) := (List.range k).map (cutS img) ++ List.replicate (n - k) []
theorem loadTo_len (img : List UInt8) (n k : Nat) (h : k ≤ n) : (loadTo img n k).length = n := by unfold loadTo; rw [List.length_append, List.length_map, List.length_range, List.length_replicate]; omega
theorem loadTo_succ (img : List UInt8) (n k : Nat) (h : k < n) : (loadTo img n k).set k (cutS img k) = loadTo img n (k + 1) := by
  unfold loadTo
  rw [List.set_append_right _ _ (by simp)]
  have e : n - k = (n - (k + 1)) + 1 := by omega
  rw [e, List.replicate_succ, List.length_map, List.length_range, Nat.sub_self, List.set_cons_zero, List.range_succ, List.map_append]
  simp
theorem extract_cut (img : List UInt8) (k : Nat) : (bs img).extract (128 * k) (128 * k + 128) = bs (cutS img k) := by
  apply ByteArray.ext
  unfold cutS
  simp [bs, ByteArray.data_extract, List.take_drop]
end Go.Proofs.Ytegbekeopgponaa

/- Walk of chapter 9's statement: which images are disks. -/
namespace Go.Proofs.Ytegbekeopgponaa
open Go.RowKit Go.Maps
set_option linter.unusedVariables false
set_option linter.unusedSimpArgs false

theorem cuts_flat (img : List UInt8) (k : Nat) : ((List.range k).map (cutS img)).flatten = img.take (128 * k) := by
  induction k with
  | zero => simp
  | succ k ih =>
    rw [List.range_succ, List.map_append, List.flatten_append, ih]
    have e : 128 * (k + 1) = 128 * k + 128 := by omega
    rw [e, List.take_add]
    simp [cutS]
theorem load_flat (img : List UInt8) (n : Nat) (h : img.length = 128 * n) : (loadTo img n n).flatten = img := by
  unfold loadTo
  rw [Nat.sub_self, List.replicate_zero, List.append_nil, cuts_flat, ← h, List.take_length]
theorem load_get (img : List UInt8) (n i : Nat) (h : i < n) : (loadTo img n n).getD i [] = cutS img i := by
  unfold loadTo
  rw [Nat.sub_self, List.replicate_zero, List.append_nil, List.getD_eq_getElem?_getD]
  simp [h]
theorem load_fine (img : List UInt8) (n : Nat) : ∀ s ∈ loadTo img n n, s.length ≤ 128 := by
  intro s hs
  unfold loadTo at hs
  rw [Nat.sub_self, List.replicate_zero, List.append_nil, List.mem_map] at hs
  obtain ⟨i, _, rfl⟩ := hs
  unfold cutS; rw [List.length_take]; omega
end Go.Proofs.Ytegbekeopgponaa

/- Walk of chapter 9's statement: which images are disks. -/
namespace Go.Proofs.Ytegbekeopgponaa
open Go.RowKit Go.Maps
set_option linter.unusedVariables false
set_option linter.unusedSimpArgs false

end Go.Proofs.Ytegbekeopgponaa

/- What a walk is told of a list of a disk's calls that came in. -/
namespace Go.Proofs.Ytegbekeopgponaa
open Go.ChangeShapes Go.WideShapes Go.ChangeAt Go.RowKit Go.Deep
set_option linter.unusedVariables false
set_option linter.unusedSimpArgs false

/-- a call. -/
structure DAct where
  kind : Int
  i : Int
  s : List UInt8
  full : Bool
  keep : List Bool
deriving Inhabited
def DAct.fits (a : DAct) : Prop := (Lit.int .i64 a.kind).wf = true ∧ (Lit.int .i64 a.i).wf = true ∧ a.s.length ≤ maxLen ∧ a.keep.length ≤ maxLen
/-- its cells. -/
def ActCells (lo hi : Nat) (w : World) (cs : List Value) (a : DAct) : Prop := ∃ kv, cs = [.int .i64 a.kind, .int .i64 a.i, .string (bs a.s), .bool a.full, kv] ∧ BoolsIn w kv a.keep lo hi ∧ a.fits
def ActsIn (w : World) (v : Value) (l : List DAct) (lo hi : Nat) : Prop := RowsOf 5 (ActCells lo hi) w v l lo hi
set_option maxRecDepth 100000 in
theorem ActsIn.kept {S : List Nat} {w w' : World} {v : Value} {l : List DAct} {lo hi : Nat} (h : ActsIn w v l lo hi) (k : Kept S w w') (hS : ∀ x ∈ S, x < lo ∨ hi ≤ x) : ActsIn w' v l lo hi :=
  RowsOf.kept h k hS (fun cs a ⟨kv, e1, e2, e3⟩ => ⟨kv, e1, e2.kept k hS, e3⟩)
set_option maxRecDepth 100000 in
theorem ActsIn.at_ {w : World} {p : Option Addr} {n c : Nat} {l : List DAct} {lo hi : Nat} (h : ActsIn w (.slice p n c) l lo hi) (i : Nat) (hi' : i < l.length) :
    ∃ b off kv, p = some ⟨b, off, none⟩ ∧ w.cell? ⟨b, off + i * 5, none⟩ = some (.int .i64 l[i].kind) ∧ w.cell? ⟨b, off + i * 5 + 1, none⟩ = some (.int .i64 l[i].i) ∧ w.cell? ⟨b, off + i * 5 + 2, none⟩ = some (.string (bs l[i].s)) ∧ w.cell? ⟨b, off + i * 5 + 3, none⟩ = some (.bool l[i].full) ∧ w.cell? ⟨b, off + i * 5 + 4, none⟩ = some kv ∧ BoolsIn w kv l[i].keep lo hi ∧ l[i].fits ∧ lo ≤ b ∧ b < hi ∧ hi ≤ w.heap.size := by
  obtain ⟨b, off, cs, e1, e2, ⟨kv, rfl, e4, e5⟩, e6, e7⟩ := RowsOf.at_ h i hi'
  exact ⟨b, off, kv, e1, e6 0 _ rfl, e6 1 _ rfl, e6 2 _ rfl, e6 3 _ rfl, e6 4 _ rfl, e4, e5, e7⟩
section
variable {H : Type} {enc : TypeId × Value → H} {w : World} {base : Nat} {held : Bool} {r : Reach} {b0 : Nat}
set_option maxRecDepth 100000 in
theorem bools_of_trod {fuel : Nat} {c : Value} {x : DataW H × List MemPlace} (h : DataW.trod enc Try.prog w base (fun _ => true) held fuel 37 [c] = some x) :
    ∃ l, BoolsIn w c l 0 w.heap.size := by
  rcases Go.Deep.open_bools Try.underlying37 Try.underlying4 (by kernel_rfl) h with ⟨e, _⟩ | ⟨a, len, cap, B, e, _, hl, hm, _, hx⟩
  · injection e with e
    exact ⟨[], Or.inl ⟨rfl, _, _, e⟩⟩
  · injection e with e
    subst e
    by_cases h0 : len = 0
    · subst h0; exact ⟨[], Or.inl ⟨rfl, _, _, rfl⟩⟩
    · obtain ⟨b, off, spot⟩ := a
      have hspot : spot = none := by simpa [Addr.add] using World.cell?_spot (hx 0 (by omega))
      subst hspot
      have hb : b < w.heap.size := by
        have := hx 0 (by omega)
        rw [Go.WideShapes.add_plain] at this
        exact World.block_lt_of_cell? _ _ this
      refine ⟨(List.range len).map B, Or.inr ⟨b, off, cap, by simp, fun i hi => ?_, Nat.zero_le _, hb, Nat.le_refl _, fun e => ?_, by simpa using hl, hm⟩⟩
      · have hi' : i < len := by simpa using hi
        have := hx i (by omega)
        rw [Go.WideShapes.add_plain] at this
        rw [this]
        simp
      · have := congrArg List.length e
        simp at this; omega
set_option maxRecDepth 100000 in
theorem BoolsIn.len {w : World} {v : Value} {l : List Bool} {lo hi : Nat} (h : BoolsIn w v l lo hi) : l.length ≤ maxLen := by
  rcases h with ⟨rfl, a, c, rfl⟩ | ⟨b, off, c, rfl, _, _, _, _, _, h7, h8⟩
  · exact Nat.zero_le _
  · omega
set_option maxRecDepth 100000 in
theorem open_bools_in {v : Value} {d : DataW H} {p : List MemPlace} (hv : Value.okWide Try.prog w r b0 37 v) (h : DataW.Trod enc Try.prog w base (fun _ => true) held 37 v d p) : ∃ l, BoolsIn w v l 0 w.heap.size := by
  obtain ⟨a0, len, cap, rfl⟩ := okWide_slice Try.underlying37 hv
  obtain ⟨fuel, hf⟩ := h
  exact bools_of_trod (by simpa [Value.cells] using hf)
end
end Go.Proofs.Ytegbekeopgponaa
