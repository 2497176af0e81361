/- A strings.Builder written. -/
import Derived.Test.YtdnbddhjdokbfaaShelf
import Derived.Test.YtdnbddhjdokbfaaG01
import Derived.Test.YtdnbddhjdokbfaaG17
import Derived.Lib.Builder
import Derived.Lib.ConvBytes
import Derived.Lib.SlBytesRow
namespace Go.Proofs.Ytdnbddhjdokbfaa
open Go.RowKit
set_option linter.unusedVariables false
set_option linter.unusedSimpArgs false

theorem infoB : ∃ j, Try.prog.info? 100 = some j ∧ j.size = 2 := by
  have h : (Try.prog.info? 100).map (·.size) = some 2 := by kernel_rfl
  obtain ⟨j, hj, hjs⟩ := Option.map_eq_some_iff.1 h
  exact ⟨j, hj, hjs⟩

set_option maxRecDepth 100000 in
theorem bCheck_used (b : Nat) (w : World) (h0 : w.cell? ⟨b, 0, none⟩ = some (.pointer (some ⟨b, 0, none⟩))) :
    Calls Try.prog 85 #[.pointer (some ⟨b, 0, none⟩)] w fun e w' => e = .returned (.tuple #[]) ∧ w' = w := by
  obtain ⟨j, hj, _⟩ := infoB
  go_enter Try.func85, Try.ntmps85
  go_wp2
  rw [Lib.run_neq_ptr_same w _ Try.underlying98 hj]
  go_wp2
  go_end0
  exact ⟨rfl, rfl⟩

set_option maxRecDepth 100000 in
theorem bCheck_fresh (b : Nat) (w : World) (h0 : w.cell? ⟨b, 0, none⟩ = some (.pointer none)) (hsh : w.shape? b = some (100, 2)) (hfz : w.frozen? ⟨b, 0, none⟩ = false) :
    Calls Try.prog 85 #[.pointer (some ⟨b, 0, none⟩)] w fun e w' => e = .returned (.tuple #[]) ∧ w' = w.setCell ⟨b, 0, none⟩ (.pointer (some ⟨b, 0, none⟩)) := by
  obtain ⟨j, hj, hjs⟩ := infoB
  have hlies : liesAt Try.prog Try.prog.depth 100 (2 / Try.prog.cellsOf 100) 0 100 1 = true := by kernel_rfl
  go_enter Try.func85, Try.ntmps85
  go_wp2
  rw [Lib.run_to_unsafe w ⟨b, 0, none⟩ Try.underlying98 Try.underlying135 hj (by rw [hjs]; decide) hsh (Nat.zero_lt_succ 1)]
  simp only [Result.andThen]
  rw [Oper.upon_value]
  go_wp2
  rw [run_callFunc_extern Try.func101 (by kernel_rfl) (by kernel_rfl) (by kernel_rfl) (e := Extern.AbiNoEscape.same) (by kernel_rfl)]
  rw [Lib.run_noEscape]
  simp only [Result.andThen]
  rw [Oper.upon_value]
  go_wp2
  rw [Lib.run_from_unsafe w ⟨b, 0, none⟩ Try.underlying135 Try.underlying98 hj hsh hlies]
  simp only [Result.andThen]
  rw [Oper.upon_value]
  go_wp2
  go_end0
  exact ⟨rfl, rfl⟩

theorem bCheck (B b : Nat) (bs : List Value) (w : World) (h : Lib.IsBuilder 100 5 B b bs w) :
    Calls Try.prog 85 #[.pointer (some ⟨b, 0, none⟩)] w fun e w' => e = .returned (.tuple #[]) ∧ (Lib.BuilderAt 100 5 B b (.pointer (some ⟨b, 0, none⟩)) bs w' ∧ Below B w w') := by
  rcases h with h | h
  · refine (bCheck_fresh b w h.cell0 h.shape h.frozen0).mono ?_
    rintro e w' ⟨rfl, rfl⟩
    exact ⟨rfl, h.used _, (Below.refl B w).setCell (p := ⟨b, 0, none⟩) h.1 _⟩
  · refine (bCheck_used b w h.cell0).mono ?_
    rintro e w' ⟨rfl, rfl⟩
    exact ⟨rfl, h, Below.refl B _⟩

set_option maxRecDepth 100000 in
theorem bWrite (B b : Nat) (bs : List Value) (s : ByteArray) (w : World) (h : Lib.IsBuilder 100 5 B b bs w) (hlen : bs.length + s.size ≤ 140737488355328) (hBw : B ≤ w.heap.size) :
    Calls Try.prog 68 #[.pointer (some ⟨b, 0, none⟩), .string s] w fun e w' => e = .returned (.tuple #[.int .i64 s.size, .nilIface]) ∧ (Lib.BuilderAt 100 5 B b (.pointer (some ⟨b, 0, none⟩)) (bs ++ Lib.strCells s) w' ∧ Below B w w') := by
  have hib : (Try.prog.info? 5).map (fun i => (i.zero, i.size, i.bytes)) = some (some (.int .u8 0), 1, 1) := by kernel_rfl
  obtain ⟨i0, hi, hz0, hz1, hz2⟩ := info_parts hib
  go_enter Try.func68, Try.ntmps68
  go_wp2_with fail
  refine (bCheck B b bs _ h).mono ?_
  rintro e w1 ⟨rfl, h1, hb1⟩
  obtain ⟨hB, v, hbk, hown, hne⟩ := h1
  have c0 : w1.cell? ⟨b, 0, none⟩ = some (.pointer (some ⟨b, 0, none⟩)) := by rw [Lib.cell_of_heap hbk]; rfl
  have c1 : w1.cell? ⟨b, 1, none⟩ = some v := by rw [Lib.cell_of_heap hbk]; rfl
  go_wp2_with (at_builtin; refine Lib.wpList_append_own_string _ rfl _ _ 38 9 rfl B 5 i0 Try.underlying38 Try.underlying9 hi hz0 hz1 hz2 _ _ _ rfl hown s rfl ?c3 ?c4 ?c5 ?_)
  case c3 => unfold maxLen; omega
  case c4 => omega
  case c5 => have := hb1.size; omega
  intro v' w2 hown' hgrow _
  have hlt : b < w1.heap.size := lt_of_block hbk
  have hb2 : w2.heap[b]? = some (.cells #[.pointer (some ⟨b, 0, none⟩), v] 100 (0, 0)) := by
    rw [hgrow.block b hlt (fun e => hne e.symm)]
    exact hbk
  have d0 : w2.cell? ⟨b, 0, none⟩ = some (.pointer (some ⟨b, 0, none⟩)) := by rw [Lib.cell_of_heap hb2]; rfl
  have d1 : w2.cell? ⟨b, 1, none⟩ = some v := by rw [Lib.cell_of_heap hb2]; rfl
  have f1 : w2.frozen? ⟨b, 1, none⟩ = false := Lib.frozen_of_heap hb2 1
  obtain ⟨ao, n', cap, rfl⟩ : ∃ ao n' cap, v' = .slice ao n' cap := by
    rcases hown'.2 with ⟨hv, _⟩ | ⟨g, cap, cur, hv, _⟩
    · exact ⟨_, _, _, hv⟩
    · exact ⟨_, _, _, hv⟩
  go_wp2
  go_ret2
  refine ⟨rfl, ?_, ?_⟩
  · exact Lib.BuilderAt.put (T := 100) (e := 5) hB hb2 (bs' := bs ++ Lib.strCells s) (by simpa [Lib.strCells_length] using hown') (by decide)
  · exact (hb1.grown hgrow (by have := hb1.size; omega) (fun k hk => (hown.lt k hk).1)).setCell (p := ⟨b, 1, none⟩) hB _

/-- the builder holds these bytes. -/
def BuiltAt (w : World) (B b : Nat) (l : List UInt8) : Prop := Lib.IsBuilder 100 5 B b (Lib.byteCells l) w
theorem strCells_bs (l : List UInt8) : Lib.strCells (bs l) = Lib.byteCells l := rfl
theorem byteCells_append (a b : List UInt8) : Lib.byteCells a ++ Lib.byteCells b = Lib.byteCells (a ++ b) := by simp [Lib.byteCells]

theorem built_write (B b : Nat) (l m : List UInt8) (w : World) (h : BuiltAt w B b l) (hlen : l.length + m.length ≤ 140737488355328) (hBw : B ≤ w.heap.size) :
    Calls Try.prog 68 #[.pointer (some ⟨b, 0, none⟩), .string (bs m)] w fun e w' => e = .returned (.tuple #[.int .i64 (bs m).size, .nilIface]) ∧ BuiltAt w' B b (l ++ m) ∧ Below B w w' :=
  (bWrite B b (Lib.byteCells l) (bs m) w h (by rw [Lib.byteCells_length, bs_size]; exact hlen) hBw).mono fun e w' ⟨he, h1, h2⟩ => ⟨he, by
    rw [strCells_bs, byteCells_append] at h1; exact Or.inr h1, h2⟩

theorem built_string (B b : Nat) (l : List UInt8) (w : World) (h : BuiltAt w B b l) (hBw : B ≤ w.heap.size) :
    Calls Try.prog 69 #[.pointer (some ⟨b, 0, none⟩)] w fun e w' => e = .returned (.string (bs l)) ∧ Below B w w' := Try.Builder_String_any B b l w h hBw

theorem Kept.then_below {a w w' : World} (h : Kept [] a w) (hb : Below a.heap.size w w') : Kept [] a w' :=
  ⟨hb.os.trans h.os, hb.tape.trans h.tape, hb.output.trans h.output, Nat.le_trans h.size hb.size, fun k hk _ => (hb.block k hk).trans (h.block k hk (by simp))⟩
theorem built_kept {B b : Nat} {l : List UInt8} {w w' : World} (h : BuiltAt w B b l) (k : Kept [] w w') : BuiltAt w' B b l := by
  have key : ∀ p, Lib.BuilderAt 100 5 B b p (Lib.byteCells l) w → Lib.BuilderAt 100 5 B b p (Lib.byteCells l) w' := by
    rintro p ⟨h1, v, h2, h3, h4⟩
    exact ⟨h1, v, (k.block b (lt_of_block h2) (by simp)).trans h2, ownsRow_kept h3 k (by simp), h4⟩
  rcases h with h | h
  · exact Or.inl (key _ h)
  · exact Or.inr (key _ h)
theorem built_new {B b : Nat} {w : World} (hB : B ≤ b) (h : Own w b #[.pointer none, .slice none 0 0] 100) : BuiltAt w B b [] :=
  Or.inl ⟨hB, _, h, World.ownsRow_nil _ _ _ _, by simp [Value.ownBlock]⟩

end Go.Proofs.Ytdnbddhjdokbfaa

/- Walks of layer 9 (disk): texts joined; all that stands. -/
namespace Go.Proofs.Ytdnbddhjdokbfaa
open Go.RowKit Go.Maps
set_option linter.unusedVariables false
set_option linter.unusedSimpArgs false

def sumTo (l : List (List UInt8)) (k : Nat) : Nat := ((l.take k).map (·.length)).sum
theorem sumTo_succ (l : List (List UInt8)) (k : Nat) (h : k < l.length) : sumTo l (k + 1) = sumTo l k + l[k].length := by
  unfold sumTo; rw [List.take_succ_eq_append_getElem h, List.map_append, List.sum_append]; simp
theorem sumTo_le (l : List (List UInt8)) (m k : Nat) (hm : ∀ s ∈ l, s.length ≤ m) (hk : k ≤ l.length) : sumTo l k ≤ m * k := by
  induction k with
  | zero => simp [sumTo]
  | succ k ih =>
    rw [sumTo_succ l k (by omega), Nat.mul_succ]
    have := ih (by omega)
    have := hm _ (List.getElem_mem (show k < l.length by omega))
    omega
def catTo (l : List (List UInt8)) (k : Nat) : List UInt8 := (l.take k).flatten
theorem catTo_succ (l : List (List UInt8)) (k : Nat) (h : k < l.length) : catTo l (k + 1) = catTo l k ++ l[k] := by
  unfold catTo; rw [List.take_succ_eq_append_getElem h, List.flatten_append]; simp
theorem catTo_len (l : List (List UInt8)) (k : Nat) : (catTo l k).length = sumTo l k := by
  unfold catTo sumTo; rw [List.length_flatten]
theorem scell {w : World} {sb : Nat} {st : List (List UInt8)} {t : TypeId} (o : Own w sb (scells st) t) (k : Nat) (h : k < st.length) : w.cell? ⟨sb, k, none⟩ = some (.string (bs st[k])) := by
  rw [← scells_get st k h]
  exact o.cell k (by simp [scells]; exact h)
theorem flat_one (st : List (List UInt8)) (h : st.length = 1) : st.flatten = st[0]'(by omega) := by
  obtain ⟨a, rfl⟩ := List.length_eq_one_iff.1 h
  simp
set_option maxRecDepth 100000 in
set_option maxHeartbeats 2000000 in
theorem dJoin (sb : Nat) (st : List (List UInt8)) (w : World) (o : Own w sb (scells st) 9) (h1 : 1 ≤ st.length) (h2 : st.length ≤ 8192) (hm : ∀ s ∈ st, s.length ≤ 128) :
    Calls Try.prog 47 #[.slice (some ⟨sb, 0, none⟩) st.length st.length, .string ⟨#[]⟩] w fun e w' => e = .returned (.string (bs st.flatten)) ∧ Kept [] w w' := by
  have c0 := scell o 0 (by omega)
  by_cases hone : st.length = 1
  · obtain ⟨a, rfl⟩ := List.length_eq_one_iff.1 hone
    have c00 : w.cell? ⟨sb, 0, none⟩ = some (.string (bs a)) := c0
    clear c0
    rw [show [a].flatten = a by simp]
    show Calls Try.prog 47 #[.slice (some ⟨sb, 0, none⟩) 1 1, .string ⟨#[]⟩] w _
    clear o h1 h2 hm hone
    go_enter Try.func47, Try.ntmps47
    go_wp2_with fail
    go_ret
    exact ⟨rfl, Kept.refl _ _⟩
  · have n0 : ((st.length : Int) == 0) = false := by rw [beq_eq_false_iff_ne]; omega
    have n1 : ((st.length : Int) == 1) = false := by rw [beq_eq_false_iff_ne]; omega
    have hS := fun k hk => sumTo_le st 128 k hm hk
    have HS := Lib.hid hS
    have HO := Lib.hid h1
    clear hS
    go_enter Try.func47, Try.ntmps47
    go_wp2_with fail
    go_loop [5, 41] (fun t i => ∃ k : Nat, k ≤ st.length ∧ i = .int .i64 k ∧ t = .int .i64 (sumTo st k)) (fun _ i => st.length - (intOf i).toNat)
    case atStart => exact ⟨0, by omega, rfl, by simp [sumTo]⟩
    case round =>
      obtain ⟨k, hk, rfl, rfl⟩ := hrel
      have hb := HS.out k hk
      by_cases hlt : k < st.length
      · have ck := scell o k hlt
        have hz : (bs st[k]).size ≤ 128 := by rw [bs_size]; exact hm _ (List.getElem_mem hlt)
        have hzz : ((bs st[k]).size : Int) = st[k].length := by rw [bs_size]
        have hsu : Hid (sumTo st (k + 1) = sumTo st k + (bs st[k]).size) := by show _ = _; rw [bs_size]; exact sumTo_succ st k hlt
        have hb2 : (sumTo st k : Int) ≤ 1048576 := by omega
        have hkb : (k : Int) < st.length := by omega
        have HLT := Lib.hid hlt
        clear hb hzz
        generalize bs st[k] = T at *
        generalize sumTo st k = q at *
        generalize hq2 : sumTo st (k + 1) = q2 at *
        have HQ2 := Lib.hid hq2
        clear hq2
        go_wp2_with fail
        go_round
        case rel => exact ⟨k + 1, HLT.out, by go_num, by rw [HQ2.out, hsu.out]; go_num⟩
        case measure => (have hh := HLT.out; simp [intOf]; omega)
      · obtain rfl : k = st.length := by omega
        have hq : sumTo st st.length ≤ 281474976710656 := by omega
        have hq3 := hb
        have ob := Own.new w #[.pointer none, .slice none 0 0] 100
        have hgr := Try.Builder_Grow_fresh w.heap.size w.heap.size (sumTo st st.length) _ (Nat.le_refl _) ob (by simp) hq
        have hcl := catTo_len st
        have hcs := catTo_succ st
        have HCL := Lib.hid hcl
        have HCS := Lib.hid hcs
        have HB := Lib.hid hb
        have i1 : (1 : Int) < st.length := by omega
        clear hb hq3 hcl hcs hq
        generalize sumTo st st.length = q at *
        go_wp2_with fail
        refine hgr.mono ?_; rintro e w1 ⟨rfl, hb1, bl1⟩
        have k1 : Kept [] w w1 := ((Kept.refl [] w).alloc _).then_below bl1
        have hB1 : BuiltAt w1 w.heap.size w.heap.size [] := Or.inr hb1
        have o1 := k1.own o (by simp)
        have c01 := scell o1 0 (by omega)
        have hs1 := k1.size
        clear hgr ob hb1 bl1
        go_wp2_with fail
        refine (built_write w.heap.size w.heap.size [] st[0] w1 hB1 (by have := hm _ (List.getElem_mem (show 0 < st.length by omega)); simp; omega) hs1).mono ?_; rintro e w2 ⟨rfl, hB2, bl2⟩
        have k2 : Kept [] w w2 := k1.then_below bl2
        have hB2' : BuiltAt w2 w.heap.size w.heap.size (catTo st 1) := by
          have := HCS.out 0 (by omega)
          rw [show catTo st 1 = [] ++ st[0] from this]; exact hB2
        clear hB1 hB2 bl2 o1 c01
        go_wp2_with fail
        go_loopw [65] (fun i wr => ∃ k : Nat, k + 1 ≤ st.length ∧ i = .int .i64 k ∧ BuiltAt wr w.heap.size w.heap.size (catTo st (k + 1)) ∧ Kept [] w wr) (fun i _ => st.length - (intOf i).toNat)
        case atStart => exact ⟨0, by omega, rfl, hB2', k2⟩
        case round =>
          obtain ⟨k, hk, rfl, hB, hK⟩ := hrel
          have hs := hK.size
          have hcl : (catTo st (k + 1)).length ≤ 1048576 := by
            rw [HCL.out]; have := HS.out (k + 1) hk; omega
          by_cases hlt : k + 1 < st.length
          · have ck : wr.cell? ⟨sb, 1 + k, none⟩ = some (.string (bs st[k + 1])) := by rw [Nat.add_comm 1 k]; exact scell (hK.own o (by simp)) (k + 1) hlt
            have hz : st[k + 1].length ≤ 128 := hm _ (List.getElem_mem hlt)
            have hcs := HCS.out (k + 1) hlt
            have b1 : (k : Int) < (st.length : Int) - 1 := by omega
            have b2 : (k : Int) < ((st.length - 1 : Nat) : Int) := by omega
            have HLT := Lib.hid hlt
            have HC := Lib.hid hcs
            clear hcs
            generalize st[k + 1] = s at *
            generalize catTo st (k + 1) = C at *
            go_wp2_with fail
            refine (built_write w.heap.size w.heap.size C [] wr hB (by simp; omega) hs).mono ?_; rintro e w4 ⟨rfl, hB4, bl4⟩
            have k4 : Kept [] w w4 := hK.then_below bl4
            have hs4 := k4.size
            rw [List.append_nil] at hB4
            go_wp2_with fail
            refine (built_write w.heap.size w.heap.size C s w4 hB4 (by omega) hs4).mono ?_; rintro e w5 ⟨rfl, hB5, bl5⟩
            have k5 : Kept [] w w5 := k4.then_below bl5
            go_wp2_with fail
            go_roundw
            case rel => exact ⟨k + 1, by have := HLT.out; omega, by go_num, by rw [HC.out]; exact hB5, k5⟩
            case measure => (have hh := HLT.out; simp [intOf]; omega)
          · have e : catTo st (k + 1) = st.flatten := by unfold catTo; rw [show k + 1 = st.length by omega, List.take_length]
            rw [e] at hB
            have b1 : ¬ ((k : Int) < (st.length : Int) - 1) := by omega
            have b2 : ¬ ((k : Int) < ((st.length - 1 : Nat) : Int)) := by omega
            go_wp2_with fail
            refine (built_string w.heap.size w.heap.size st.flatten wr hB hs).mono ?_; rintro e w4 ⟨rfl, bl4⟩
            go_wp2_with fail
            go_ret
            exact ⟨rfl, hK.then_below bl4⟩
end Go.Proofs.Ytdnbddhjdokbfaa

/- 128 bytes made, and read as a text. -/
namespace Go.Proofs.Ytdnbddhjdokbfaa
open Go.RowKit

theorem run_make_bytes128 (w : World) : (Instr.makeSlice 38 (.int .i64 128) (.int .i64 128)).run Try.prog w = .ok (.slice (some ⟨w.heap.size, 0, none⟩) 128 128) (w.alloc (.cells (Array.replicate 128 (.int .u8 0)) 5)) := by
  kernel_rfl
theorem run_conv128 (w : World) : (convert 38 9 (.slice (some ⟨w.heap.size, 0, none⟩) 128 128)).run Try.prog (w.alloc (.cells (Array.replicate 128 (.int .u8 0)) 5)) = .ok (.string (bs zeroS)) (w.alloc (.cells (Array.replicate 128 (.int .u8 0)) 5)) := by
  have ho := Own.new w (Array.replicate 128 (Value.int .u8 0)) 5
  have hb : Lib.Bytes (w.alloc (.cells (Array.replicate 128 (.int .u8 0)) 5)) w.heap.size 0 (bs zeroS) := by
    intro i hi
    have hi2 : i < 128 := by rw [bs_size] at hi; simpa [zeroS] using hi
    rw [Nat.zero_add, ho.cell i (by simp; exact hi2)]
    have hz : i < zeroS.length := by simpa [zeroS] using hi2
    have e0 : zeroS[i] = 0 := by unfold zeroS; exact List.getElem_replicate _
    rw [Array.getElem_replicate]
    refine congrArg some (congrArg (Value.int .u8) ?_)
    show (0 : Int) = ((zeroS[i]'hz).toNat : Int)
    rw [e0]; rfl
  have h := Lib.run_convert_whole (P := Try.prog) _ 38 5 9 Try.underlying38 Try.underlying5 Try.underlying9 w.heap.size 0 (bs zeroS) hb 128
  have e : (bs zeroS).size = 128 := by rw [bs_size]; exact List.length_replicate
  rw [e] at h
  exact h
end Go.Proofs.Ytdnbddhjdokbfaa

/- Walks of layer 9 (disk): the image; the page's example. -/
namespace Go.Proofs.Ytdnbddhjdokbfaa
open Go.RowKit Go.Maps
set_option linter.unusedVariables false
set_option linter.unusedSimpArgs false

set_option maxRecDepth 100000 in
theorem dImage (b sb mb lo : Nat) (d : DK) (w : World) (h : DiskAt w b sb mb lo d) (hm : ∀ s ∈ d.stand, s.length ≤ 128) : Calls Try.prog 21 #[.pointer (some ⟨b, 0, none⟩)] w fun e w' => e = .returned (.string (bs d.stand.flatten)) ∧ Kept [] w w' := by
  obtain ⟨p, c, c0, c1, c2, c3, c4, c5, h1, h2, h3⟩ := h.six
  obtain ⟨wv, n, o, os, _⟩ := h
  have hj := dJoin sb d.stand w os h1 h2 hm
  clear os o
  go_enter Try.func21, Try.ntmps21
  go_wp2_with fail
  refine hj.mono ?_; rintro e w1 ⟨rfl, k1⟩
  go_wp2_with fail
  go_ret
  exact ⟨rfl, k1⟩

theorem DKept.to_kept {b sb mb lo : Nat} {w w1 w' : World} (h : DKept b sb mb lo w1 w') (k : Kept [] w w1) (h1 : w.heap.size ≤ b) (h2 : w.heap.size ≤ sb) (h3 : w.heap.size ≤ mb) (h4 : w.heap.size ≤ lo) : Kept [] w w' := by
  obtain ⟨a1, a2, a3, a4, a5⟩ := h
  exact ⟨a1.trans k.os, a2.trans k.tape, a3.trans k.output, Nat.le_trans k.size a4, fun j hj _ => (a5 j (Nat.lt_of_lt_of_le hj k.size) (by omega) (by omega) (by omega) (Or.inl (by omega))).trans (k.block j hj (by simp))⟩
theorem BoolsIn.nil (w : World) : BoolsIn w (.slice none 0 0) [] 0 0 := Or.inl ⟨rfl, _, _, rfl⟩
end Go.Proofs.Ytdnbddhjdokbfaa

/- Walk of chapter 9's statement: nobody's disk has nothing. -/
namespace Go.Proofs.Ytdnbddhjdokbfaa
open Go.RowKit Go.Maps
set_option linter.unusedVariables false
set_option linter.unusedSimpArgs false

end Go.Proofs.Ytdnbddhjdokbfaa

/- Walks of layer 9 (disk): which images are disks. -/
namespace Go.Proofs.Ytdnbddhjdokbfaa
open Go.RowKit Go.Maps
set_option linter.unusedVariables false
set_option linter.unusedSimpArgs false

/-- may an image be? -/
def mayImg (n : Nat) : Bool := decide (128 ≤ n ∧ n % 128 = 0 ∧ n ≤ 1048576)
end Go.Proofs.Ytdnbddhjdokbfaa

/- Walks of layer 9 (disk): an image loaded. -/
namespace Go.Proofs.Ytdnbddhjdokbfaa
open Go.RowKit Go.Maps
set_option linter.unusedVariables false
set_option linter.unusedSimpArgs false

/-- the i-th sector of an image. -/
def cutS (img : List UInt8) (i : Nat) : List UInt8 := (img.drop (128 * i)).take 128
/-- the first k sectors of n. -/
def loadTo (img : List UInt8) (n k : Nat) : List (List UInt8) := (List.range k).map (cutS img) ++ List.replicate (n - k) []
theorem loadTo_len (img : List UInt8) (n k : Nat) (h : k ≤ n) : (loadTo img n k).length = n := by unfold loadTo; rw [List.length_append, List.length_map, List.length_range, List.length_replicate]; omega
theorem loadTo_succ (img : List UInt8) (n k : Nat) (h : k < n) : (loadTo img n k).set k (cutS img k) = loadTo img n (k + 1) := by
  unfold loadTo
  rw [List.set_append_right _ _ (by simp)]
  have e : n - k = (n - (k + 1)) + 1 := by omega
  rw [e, List.replicate_succ, List.length_map, List.length_range, Nat.sub_self, List.set_cons_zero, List.range_succ, List.map_append]
  simp
theorem extract_cut (img : List UInt8) (k : Nat) : (bs img).extract (128 * k) (128 * k + 128) = bs (cutS img k) := by
  apply ByteArray.ext
  unfold cutS
  simp [bs, ByteArray.data_extract, List.take_drop]
set_option maxRecDepth 100000 in
set_option maxHeartbeats 1000000 in
theorem dLoad (img : List UInt8) (n : Nat) (w : World) (hl : img.length = 128 * n) (h1 : 1 ≤ n) (h2 : n ≤ 8192) :
    Calls Try.prog 17 #[.string (bs img)] w fun e w' => ∃ b sb mb lo, e = .returned (.tuple #[.pointer (some ⟨b, 0, none⟩), .int .i64 0]) ∧ DiskAt w' b sb mb lo (newD (loadTo img n n)) ∧ w.heap.size ≤ sb ∧ w.heap.size ≤ mb ∧ w.heap.size ≤ b ∧ Kept [] w w' := by
  have hz : (bs img).size = 128 * n := by rw [bs_size, hl]
  have hmk := run_make_strs n h2
  have e0 : fillTo n 0 = loadTo img n 0 := rfl
  rw [e0] at hmk
  have o := Own.new w (scells (loadTo img n 0)) 9
  have i1 : (1 : Int) ≤ n := by omega
  have i2 : (n : Int) ≤ 8192 := by omega
  have hq : ((128 * n : Nat) : Int) = 128 * (n : Int) := by omega
  go_enter Try.func17, Try.ntmps17
  go_wp2_with fail
  go_loopw [26] (fun i wr => ∃ k : Nat, k ≤ n ∧ i = .int .i64 k ∧ Own wr w.heap.size (scells (loadTo img n k)) 9 ∧ Kept [] w wr) (fun i _ => n - (intOf i).toNat)
  case atStart => exact ⟨0, by omega, rfl, o, (Kept.refl _ _).alloc _⟩
  case round =>
    obtain ⟨k, hk, rfl, os, hK⟩ := hrel
    by_cases hlt : k < n
    · have HLT := Lib.hid hlt
      have hsize : k < (scells (loadTo img n k)).size := by simp [scells, loadTo_len img n k hk]; exact hlt
      obtain ⟨v0, s0⟩ : ∃ v0, wr.cell? ⟨w.heap.size, k, none⟩ = some v0 := ⟨_, os.cell k hsize⟩
      have zs := os.free k
      have hfin : Own (wr.setCell ⟨w.heap.size, k, none⟩ (.string (bs (cutS img k)))) w.heap.size (scells (loadTo img n (k + 1))) 9 := by
        rw [← loadTo_succ img n k hlt, ← scells_set]
        exact os.set k _
      have hkf := hK.setCell (p := ⟨w.heap.size, k, none⟩) (Or.inr (Nat.le_refl _)) (.string (bs (cutS img k)))
      have hx := extract_cut img k
      have hx2 : (bs img).extract (128 * k) (128 * (k + 1)) = bs (cutS img k) := hx
      have t1 : (128 * (k : Int)).toNat = 128 * k := by omega
      have t2 : (128 * ((k : Int) + 1)).toNat = 128 * (k + 1) := by omega
      have b1 : 128 * ((k : Int) + 1) ≤ 128 * (n : Int) := by omega
      have b2 : 128 * (k : Int) ≤ 128 * ((k : Int) + 1) := by omega
      have HF := Lib.hid hfin
      clear hfin os hsize o hx
      generalize bs (cutS img k) = C at *
      go_wp2_with fail
      go_roundw
      case rel => exact ⟨k + 1, HLT.out, by go_num, HF.out, hkf⟩
      case measure => (have hh := HLT.out; simp [intOf]; omega)
    · obtain rfl : k = n := by omega
      have hlen := loadTo_len img k k (Nat.le_refl _)
      have hmd := dMade w.heap.size (loadTo img k k) wr os (by rw [hlen]; exact h1) (by rw [hlen]; exact h2)
      rw [hlen] at hmd
      have hsz := hK.size
      have HM := Lib.hid hmd
      clear hmd os
      go_wp2_with fail
      refine HM.out.mono ?_; rintro e w2 ⟨rfl, hD, k2⟩
      go_wp2_with fail
      go_ret2
      exact ⟨_, _, _, _, rfl, hD, Nat.le_refl _, hsz, by omega, hK.trans k2⟩
end Go.Proofs.Ytdnbddhjdokbfaa
