/- Walks of layer 11 (super): which sectors are superblocks'. -/
import Derived.Test.YtpdmnjcklpklnaaR15
import Derived.Deep.RegionLaw
import Derived.Deep.CutBlock
import Derived.Deep.DeepCutAuto
namespace Go.Proofs.Ytpdmnjcklpklnaa
open Go.RowKit
set_option linter.unusedVariables false
set_option linter.unusedSimpArgs false

theorem rdU64' (b k : Nat) (l : List UInt8) (w : World) (hR : RdAt w b (l.drop k) 0) (h : k + 8 ≤ l.length) :
    Calls Try.prog 34 #[.pointer (some ⟨b, 0, none⟩)] w fun e w' => e = .returned (.int .u64 (le l k 8)) ∧ RdAt w' b (l.drop (k + 8)) 0 ∧ Kept [b] w w' := by
  have hu := rdU64 b (l.drop k) 0 w hR
  have e : numR 8 (l.drop k) 0 = (le l k 8, l.drop (k + 8), 0) := by
    unfold numR takeR le
    rw [if_neg (by simp), if_neg (by omega), if_neg (by simp; omega), List.drop_drop]; rfl
  rw [e] at hu
  exact hu
theorem pword' (b k : Nat) (l : List UInt8) (w : World) (hR : RdAt w b (l.drop k) 0) (h : k + 4 ≤ l.length) :
    Calls Try.prog 35 #[.agg #[.pointer (some ⟨b, 0, none⟩)]] w fun e w' => e = .returned (.int .i64 (le l k 4)) ∧ RdAt w' b (l.drop (k + 4)) 0 ∧ Kept [b] w w' := by
  have hu := pword b (l.drop k) w hR (by rw [List.length_drop]; omega)
  rw [List.drop_drop] at hu
  exact hu
theorem phalf' (b k : Nat) (l : List UInt8) (w : World) (hR : RdAt w b (l.drop k) 0) (h : k + 2 ≤ l.length) :
    Calls Try.prog 36 #[.agg #[.pointer (some ⟨b, 0, none⟩)]] w fun e w' => e = .returned (.int .i64 (le l k 2)) ∧ RdAt w' b (l.drop (k + 2)) 0 ∧ Kept [b] w w' := by
  have hu := phalf b (l.drop k) w hR (by rw [List.length_drop]; omega)
  rw [List.drop_drop] at hu
  exact hu
theorem ptake8 (b : Nat) (l : List UInt8) (w : World) (hR : RdAt w b l 0) (h : 8 ≤ l.length) :
    Calls Try.prog 33 #[.pointer (some ⟨b, 0, none⟩), .int .i64 8] w fun e w' => e = .returned (.string (bs (l.take 8))) ∧ RdAt w' b (l.drop 8) 0 ∧ Kept [b] w w' := by
  have hu := packTake b l 0 8 w hR
  have e : takeR 8 l 0 = (l.take 8, l.drop 8, 0) := by
    unfold takeR
    rw [if_neg (by simp), if_neg (by omega), if_neg (by omega)]; rfl
  rw [e] at hu
  exact hu

/-- what stands behind the numbers. -/
def Nums (w wx : World) (b rb o2 : Nat) (v5 : Value) (l : List UInt8) : Prop :=
  ∃ g, v5 = .pointer (some ⟨g, 0, none⟩) ∧ Own wx g #[.int .u64 (le l 8 8), .int .i64 (le l 16 4), .int .i64 (le l 20 4), .int .i64 (le l 24 4), .int .i64 (le l 28 4), .slice none 0 0] 25 ∧ RdAt wx b (l.drop 32) 0 ∧ Own wx rb #[.pointer (some ⟨b, 0, none⟩)] 62 ∧ Own wx o2 #[.int .u64 0, .int .i64 0, .int .i64 0, .int .i64 0, .int .i64 0, .slice none 0 0] 25 ∧ Kept [] w wx ∧ w.heap.size ≤ g ∧ g ≠ b ∧ g ≠ rb ∧ g ≠ o2

theorem nums_new {w w7 : World} {b rb o2 : Nat} {l : List UInt8} (hR : RdAt w7 b (l.drop 32) 0) (hrb : Own w7 rb #[.pointer (some ⟨b, 0, none⟩)] 62) (ho : Own w7 o2 #[.int .u64 0, .int .i64 0, .int .i64 0, .int .i64 0, .int .i64 0, .slice none 0 0] 25) (hk : Kept [] w w7) :
    Nums w (w7.alloc (.cells #[.int .u64 (le l 8 8), .int .i64 (le l 16 4), .int .i64 (le l 20 4), .int .i64 (le l 24 4), .int .i64 (le l 28 4), .slice none 0 0] 25)) b rb o2 (.pointer (some ⟨w7.heap.size, 0, none⟩)) l :=
  ⟨w7.heap.size, rfl, Own.new _ _ _, Own.alloc hR _, hrb.alloc _, ho.alloc _, hk.alloc _, hk.size, by have := Own.lt hR; omega, by have := hrb.lt; omega, by have := ho.lt; omega⟩
theorem nums_set {w w7 : World} {b rb o2 g : Nat} {l : List UInt8} (og : Own w7 g #[.int .u64 0, .int .i64 0, .int .i64 0, .int .i64 0, .int .i64 0, .slice none 0 0] 25) (hR : RdAt w7 b (l.drop 32) 0) (hrb : Own w7 rb #[.pointer (some ⟨b, 0, none⟩)] 62) (ho : Own w7 o2 #[.int .u64 0, .int .i64 0, .int .i64 0, .int .i64 0, .int .i64 0, .slice none 0 0] 25) (hk : Kept [] w w7) (hg : w.heap.size ≤ g) (h1 : g ≠ b) (h2 : g ≠ rb) (h3 : g ≠ o2) :
    Nums w ((((((w7.setCell ⟨g, 0, none⟩ (.int .u64 (le l 8 8))).setCell ⟨g, 1, none⟩ (.int .i64 (le l 16 4))).setCell ⟨g, 2, none⟩ (.int .i64 (le l 20 4))).setCell ⟨g, 3, none⟩ (.int .i64 (le l 24 4))).setCell ⟨g, 4, none⟩ (.int .i64 (le l 28 4))).setCell ⟨g, 5, none⟩ (.slice none 0 0)) b rb o2 (.pointer (some ⟨g, 0, none⟩)) l :=
  ⟨g, rfl, og.set6 _ _ _ _ _ _, Own.other6 hR (Ne.symm h1) _ _ _ _ _ _, hrb.other6 (Ne.symm h2) _ _ _ _ _ _, ho.other6 (Ne.symm h3) _ _ _ _ _ _, hk.set6 (Or.inr hg) _ _ _ _ _ _, hg, h1, h2, h3⟩

set_option maxRecDepth 100000 in
set_option maxHeartbeats 2000000 in
theorem pget_len (l : List UInt8) (w : World) (h : l.length ≠ 128) (hl : l.length ≤ 1000000) :
    Calls Try.prog 15 #[.string (bs l)] w fun e w' => e = .returned (.tuple #[.agg (zeroSB.cells (.slice none 0 0)), .int .i64 110]) ∧ Kept [] w w' := by
  have hz : (bs l).size = l.length := bs_size l
  have o := Own.new w #[.int .u64 0, .int .i64 0, .int .i64 0, .int .i64 0, .int .i64 0, .slice none 0 0] 25
  have hne : ((l.length : Int) == 128) = false := by simp; omega
  obtain ⟨d0, d1, d2, d3, d4, d5⟩ := o.c6
  have z := o.z6
  clear h
  generalize l.length = n at *
  go_enter Try.func15, Try.ntmps15
  go_wp2_with fail
  refine bodyPost_ret (v := .tuple #[.agg #[.int .u64 0, .int .i64 0, .int .i64 0, .int .i64 0, .int .i64 0, .slice none 0 0], .int .i64 110]) ?_ ?_ ?_
  · exact ret_row_tmp Try.results15 rfl rfl o Try.underlying25 rfl (by kernel_rfl)
  · rfl
  · exact ⟨rfl, (Kept.refl _ _).alloc _⟩

set_option maxRecDepth 100000 in
set_option maxHeartbeats 4000000 in
theorem pget_128 (l : List UInt8) (w : World) (h : l.length = 128) :
    Calls Try.prog 15 #[.string (bs l)] w (GetSays (.int .i64 0) (.int .i64 110) l w) := by
  have hz : (bs l).size = 128 := by rw [bs_size, h]
  have o := Own.new w #[.int .u64 0, .int .i64 0, .int .i64 0, .int .i64 0, .int .i64 0, .slice none 0 0] 25
  have hrd := fun w => packRead (bs l) w
  rw [bs_data] at hrd
  have H1 := Lib.hid h
  clear h
  go_enter Try.func15, Try.ntmps15
  go_wp2_with fail
  refine (hrd _).mono ?_; rintro e w1 ⟨rfl, hR, hk1⟩
  have o1 := hk1.own o (by simp)
  have hb1 : w.heap.size + 1 < w1.heap.size := by have := Own.lt hR; simp at this; omega
  have hk2 : Kept [] w w1 := ((Kept.refl _ _).alloc _).trans hk1
  rw [World.size_alloc] at hR
  clear hrd hk1 o
  have orb := Own.new w1 #[.pointer (some ⟨w.heap.size + 1, 0, none⟩)] 62
  have o1' := o1.alloc (.cells #[.pointer (some ⟨w.heap.size + 1, 0, none⟩)] 62)
  have hR' := Own.alloc hR (.cells #[.pointer (some ⟨w.heap.size + 1, 0, none⟩)] 62)
  have hk3 := hk2.alloc (.cells #[.pointer (some ⟨w.heap.size + 1, 0, none⟩)] 62)
  clear o1 hR hk2
  have ht8 := fun w h => ptake8 (w.heap.size + 1) l w h (by rw [H1.out]; omega)
  go_wp2_with fail
  refine (ptake8 _ l _ hR' (by rw [H1.out]; omega)).mono ?_; rintro e w2 ⟨rfl, hR2, hk4⟩
  have o2 := hk4.own o1' (by simp)
  have rb2 := hk4.own orb (by simp; omega)
  have hk5 : Kept [] w w2 := hk3.call hk4 (by simp)
  have hb2 : w1.heap.size < w2.heap.size := rb2.lt
  clear o1' hR' hk3 hk4 orb ht8
  generalize hrb : w1.heap.size = rb at *
  clear hrb
  have c0 : w2.cell? ⟨rb, 0, none⟩ = some (.pointer (some ⟨w.heap.size + 1, 0, none⟩)) := rb2.cell 0 (by simp)
  have hU : ∀ W, RdAt W (w.heap.size + 1) (l.drop 8) 0 → Own W rb #[.pointer (some ⟨w.heap.size + 1, 0, none⟩)] 62 → Calls Try.prog 34 #[.pointer (some ⟨w.heap.size + 1, 0, none⟩)] W fun e w' => e = .returned (.int .u64 (le l 8 8)) ∧ RdAt w' (w.heap.size + 1) (l.drop 16) 0 ∧ Kept [w.heap.size + 1] W w' ∧ Own w' rb #[.pointer (some ⟨w.heap.size + 1, 0, none⟩)] 62 ∧ w'.cell? ⟨rb, 0, none⟩ = some (.pointer (some ⟨w.heap.size + 1, 0, none⟩)) := fun W hr ho =>
    (rdU64' _ 8 l W hr (by rw [H1.out]; omega)).mono fun e w' hh => ⟨hh.1, hh.2.1, hh.2.2, hh.2.2.own ho (by simp; omega), (hh.2.2.own ho (by simp; omega)).cell 0 (by simp)⟩
  have hW : ∀ (k : Nat) W, k + 4 ≤ 128 → RdAt W (w.heap.size + 1) (l.drop k) 0 → Own W rb #[.pointer (some ⟨w.heap.size + 1, 0, none⟩)] 62 → Calls Try.prog 35 #[.agg #[.pointer (some ⟨w.heap.size + 1, 0, none⟩)]] W fun e w' => e = .returned (.int .i64 (le l k 4)) ∧ RdAt w' (w.heap.size + 1) (l.drop (k + 4)) 0 ∧ Kept [w.heap.size + 1] W w' ∧ Own w' rb #[.pointer (some ⟨w.heap.size + 1, 0, none⟩)] 62 ∧ w'.cell? ⟨rb, 0, none⟩ = some (.pointer (some ⟨w.heap.size + 1, 0, none⟩)) := fun k W hk4 hr ho =>
    (pword' _ k l W hr (by rw [H1.out]; omega)).mono fun e w' hh => ⟨hh.1, hh.2.1, hh.2.2, hh.2.2.own ho (by simp; omega), (hh.2.2.own ho (by simp; omega)).cell 0 (by simp)⟩
  have HU := Lib.hid hU
  have HW := Lib.hid hW
  clear hU hW
  go_upto_region 5 with fail
  go_cut [5] (fun v5 wx => Nums w wx (w.heap.size + 1) rb w.heap.size v5 l)
  case first =>
    go_region_held3 (fun w' => w'.cell? ⟨rb, 0, none⟩ = some (.pointer (some ⟨w.heap.size + 1, 0, none⟩))) (first | go_keep | exact ((rb7.other6 hgr _ _ _ _ _ _).cell 0 (by simp)))
      (first
        | (go_at_call 34; ((with_reducible refine (HU.out _ ?_ ?_).mono ?_)); (first | exact hR2 | exact hR2.drew | exact (Own.alloc hR2 _)); (first | exact rb2 | exact rb2.drew | exact (rb2.alloc _)); rintro e w3 ⟨rfl, rr0, kk0, rb3, q0⟩; (first | (have hgr : rb ≠ w2.heap.size := (by have h9 := rb2.lt; omega); have hog : w2.heap.size ∉ [w.heap.size + 1] := (by simp; omega); have og := kk0.own (Own.drew (Own.new w2 #[.int .u64 0, .int .i64 0, .int .i64 0, .int .i64 0, .int .i64 0, .slice none 0 0] 25)) (by simp; omega); obtain ⟨u0, u1, u2, u3, u4, u5⟩ := og.c6; have z6 := og.z6) | skip))
        | (go_at_call 35; ((with_reducible refine (HW.out 16 _ (by omega) ?_ ?_).mono ?_)); (first | exact rr0 | exact (Own.alloc rr0 _)); (first | exact rb3 | exact (rb3.alloc _)); rintro e w4 ⟨rfl, rr1, kk1, rb4, q0⟩; (first | (have og := kk1.own og hog; obtain ⟨u0, u1, u2, u3, u4, u5⟩ := og.c6; have z6 := og.z6) | (have hgr : rb ≠ w3.heap.size := (by have h9 := rb3.lt; omega); have hog : w3.heap.size ∉ [w.heap.size + 1] := (by have h9 := rb3.lt; simp; omega); have og := kk1.own (Own.new w3 #[.int .u64 0, .int .i64 0, .int .i64 0, .int .i64 0, .int .i64 0, .slice none 0 0] 25) (by have h9 := rb3.lt; simp; omega); obtain ⟨u0, u1, u2, u3, u4, u5⟩ := og.c6; have z6 := og.z6) | skip))
        | (go_at_call 35; ((with_reducible refine (HW.out 20 _ (by omega) ?_ ?_).mono ?_)); (first | exact rr1 | exact (Own.alloc rr1 _)); (first | exact rb4 | exact (rb4.alloc _)); rintro e w5 ⟨rfl, rr2, kk2, rb5, q0⟩; (first | (have og := kk2.own og hog; obtain ⟨u0, u1, u2, u3, u4, u5⟩ := og.c6; have z6 := og.z6) | (have hgr : rb ≠ w4.heap.size := (by have h9 := rb4.lt; omega); have hog : w4.heap.size ∉ [w.heap.size + 1] := (by have h9 := rb4.lt; simp; omega); have og := kk2.own (Own.new w4 #[.int .u64 0, .int .i64 0, .int .i64 0, .int .i64 0, .int .i64 0, .slice none 0 0] 25) (by have h9 := rb4.lt; simp; omega); obtain ⟨u0, u1, u2, u3, u4, u5⟩ := og.c6; have z6 := og.z6) | skip))
        | (go_at_call 35; ((with_reducible refine (HW.out 24 _ (by omega) ?_ ?_).mono ?_)); (first | exact rr2 | exact (Own.alloc rr2 _)); (first | exact rb5 | exact (rb5.alloc _)); rintro e w6 ⟨rfl, rr3, kk3, rb6, q0⟩; (first | (have og := kk3.own og hog; obtain ⟨u0, u1, u2, u3, u4, u5⟩ := og.c6; have z6 := og.z6) | (have hgr : rb ≠ w5.heap.size := (by have h9 := rb5.lt; omega); have hog : w5.heap.size ∉ [w.heap.size + 1] := (by have h9 := rb5.lt; simp; omega); have og := kk3.own (Own.new w5 #[.int .u64 0, .int .i64 0, .int .i64 0, .int .i64 0, .int .i64 0, .slice none 0 0] 25) (by have h9 := rb5.lt; simp; omega); obtain ⟨u0, u1, u2, u3, u4, u5⟩ := og.c6; have z6 := og.z6) | skip))
        | (go_at_call 35; ((with_reducible refine (HW.out 28 _ (by omega) ?_ ?_).mono ?_)); (first | exact rr3 | exact (Own.alloc rr3 _)); (first | exact rb6 | exact (rb6.alloc _)); rintro e w7 ⟨rfl, rr4, kk4, rb7, q0⟩; (first | (have og := kk4.own og hog; obtain ⟨u0, u1, u2, u3, u4, u5⟩ := og.c6; have z6 := og.z6) | (have hgr : rb ≠ w6.heap.size := (by have h9 := rb6.lt; omega); have hog : w6.heap.size ∉ [w.heap.size + 1] := (by have h9 := rb6.lt; simp; omega); have og := kk4.own (Own.new w6 #[.int .u64 0, .int .i64 0, .int .i64 0, .int .i64 0, .int .i64 0, .slice none 0 0] 25) (by have h9 := rb6.lt; simp; omega); obtain ⟨u0, u1, u2, u3, u4, u5⟩ := og.c6; have z6 := og.z6) | skip)))
    all_goals go_wp2_with fail
    all_goals go_meet
    all_goals
      have K4 : Kept [w.heap.size + 1] w2 w7 := by
        refine Kept.trans ?_ kk4; (try refine Kept.alloc ?_ _)
        refine Kept.trans ?_ kk3; (try refine Kept.alloc ?_ _)
        refine Kept.trans ?_ kk2; (try refine Kept.alloc ?_ _)
        refine Kept.trans ?_ kk1; (try refine Kept.alloc ?_ _)
        refine Kept.trans ?_ kk0
        repeat' first | exact Kept.refl _ _ | refine Kept.drew ?_ | refine Kept.alloc ?_ _
      have l3 := rb3.lt
      have l4 := rb4.lt
      have l5 := rb5.lt
      have l6 := rb6.lt
      have rr : RdAt w7 (w.heap.size + 1) (l.drop 32) 0 := rr4
      have ho7 := K4.own o2 (by simp)
      have hk7 : Kept [] w w7 := hk5.call K4 (by simp)
      clear K4 rr0 rr1 rr2 rr3 rr4 kk0 kk1 kk2 kk3 kk4 rb3 rb4 rb5 rb6 HU HW hR2 o2 rb2 hk5
      first
        | (with_reducible exact nums_new rr rb7 ho7 hk7)
        | (((with_reducible refine nums_set og rr rb7 ho7 hk7 ?_ ?_ ?_ ?_)) <;> omega)
  case rest =>
    obtain ⟨g, rfl, og, hR, hrb, ho, hK, g1, g2, g3, g4⟩ := hcut
    have cr : wc.cell? ⟨rb, 0, none⟩ = some (.pointer (some ⟨w.heap.size + 1, 0, none⟩)) := hrb.cell 0 (by simp)
    clear HU HW hR2 o2 rb2 hk5
    go_wp2_with fail
    refine (phalf' _ 32 l _ hR (by rw [H1.out]; omega)).mono ?_; rintro e w3 ⟨rfl, hR3, hk3⟩
    have hrb3 := hk3.own hrb (by simp; omega)
    have og3 := hk3.own og (by simp; omega)
    have ho3 := hk3.own ho (by simp)
    have hK3 : Kept [] w w3 := hK.call hk3 (by simp)
    have cr : w3.cell? ⟨rb, 0, none⟩ = some (.pointer (some ⟨w.heap.size + 1, 0, none⟩)) := hrb3.cell 0 (by simp)
    clear hR hk3 hrb og ho hK
    go_wp2_with fail
    refine (phalf' _ 34 l _ hR3 (by rw [H1.out]; omega)).mono ?_; rintro e w4 ⟨rfl, hR4, hk4⟩
    have hrb4 := hk4.own hrb3 (by simp; omega)
    have og4 := hk4.own og3 (by simp; omega)
    have ho4 := hk4.own ho3 (by simp)
    have hK4 : Kept [] w w4 := hK3.call hk4 (by simp)
    have hR5 : RdAt w4 (w.heap.size + 1) (l.drop (36 + 4 * 0)) 0 := hR4
    have hw4 : w.heap.size + 2 ≤ w4.heap.size := by have := hrb4.lt; omega
    have hnl : le l 32 2 < 65536 := le_lt l 32 2
    have hdl := decRuns_len l (le l 32 2)
    have hq : (dec l).seq < 18446744073709551616 := le_lt l 8 8
    have hPy := fun v lo hi W (h : RunsIn W v (dec l).runs lo hi) (hm : (dec l).may) => pput (dec l) v lo hi W h hm hq
    have hPn := fun v lo hi W (h : RunsIn W v (dec l).runs lo hi) (hm : ¬ (dec l).may) => pput_no (dec l) v lo hi W h (by rw [dec_runs_ok, decRuns_len]; omega) hm
    have hsb : isSB l ↔ (le l 32 2 ≤ 16 ∧ (dec l).may ∧ (dec l).sector = l) := by unfold isSB; rw [H1.out]; simp
    have HSB := Lib.hid hsb
    have HPY := Lib.hid hPy
    have HPN := Lib.hid hPn
    have HDL := Lib.hid hdl
    clear hR3 hk4 hrb3 og3 ho3 hK3 cr hR4 hsb hPy hPn hdl hq
    have zo := ho4.z6
    obtain ⟨x0, x1, x2, x3, x4, x5⟩ := ho4.c6
    by_cases h16 : 16 < le l 32 2
    · have HN : Hid (¬ isSB l) := fun hh => by have := (HSB.out.1 hh).1; omega
      clear HSB
      go_wp2_with fail
      refine bodyPost_ret (v := .tuple #[.agg #[.int .u64 0, .int .i64 0, .int .i64 0, .int .i64 0, .int .i64 0, .slice none 0 0], .int .i64 110]) ?_ ?_ ?_
      · exact ret_row_tmp Try.results15 rfl rfl (ho4.set6 _ _ _ _ _ _) Try.underlying25 rfl (by kernel_rfl)
      · rfl
      · exact getSays_no HN.out (hK4.set6 (Or.inr (Nat.le_refl _)) _ _ _ _ _ _)
    · clear x0 x1 x2 x3 x4 x5 zo
      have hn16 : le l 32 2 ≤ 16 := by omega
      clear h16
      go_wp2_with fail
      go_loopw [40] (fun i wr => ∃ (k : Nat) (v : Value), k ≤ le l 32 2 ∧ i = .int .i64 k ∧ RdAt wr (w.heap.size + 1) (l.drop (36 + 4 * k)) 0 ∧ Own wr rb #[.pointer (some ⟨w.heap.size + 1, 0, none⟩)] 62 ∧ Own wr g #[.int .u64 (le l 8 8), .int .i64 (le l 16 4), .int .i64 (le l 20 4), .int .i64 (le l 24 4), .int .i64 (le l 28 4), v] 25 ∧ wr.ownsRow (w.heap.size + 2) 48 2 v k (rcells (decRuns l k)) ∧ Own wr w.heap.size #[.int .u64 0, .int .i64 0, .int .i64 0, .int .i64 0, .int .i64 0, .slice none 0 0] 25 ∧ Kept [] w wr) (fun i _ => le l 32 2 - (intOf i).toNat)
      case atStart => exact ⟨0, _, by omega, rfl, hR5, hrb4, og4, World.ownsRow_nil _ _ _ _, ho4, hK4⟩
      case round =>
        obtain ⟨k, v, hk, rfl, hR, hrb, og, hown, ho, hK⟩ := hrel
        obtain ⟨pv, cv, rfl⟩ := own_shape hown
        by_cases hlt : k < le l 32 2
        · have cr : wr.cell? ⟨rb, 0, none⟩ = some (.pointer (some ⟨w.heap.size + 1, 0, none⟩)) := hrb.cell 0 (by simp)
          have hdr : Hid (decRuns l (k + 1) = decRuns l k ++ [(((le l (36 + 4 * k) 2 : Nat) : Int), ((le l (38 + 4 * k) 2 : Nat) : Int))]) := rfl
          have hk16 : k ≤ 16 := by omega
          obtain ⟨i0, hi0, hz0, hz1, hz2⟩ := infoRun
          clear HSB HPY HPN hR5 hrb4 og4 ho4 hK4
          go_wp2_with fail
          refine (phalf' _ (36 + 4 * k) l _ hR (by rw [H1.out]; omega)).mono ?_; rintro e w3 ⟨rfl, hR3, hk3⟩
          have hrb3 := hk3.own hrb (by simp; omega)
          have og3 := hk3.own og (by simp; omega)
          have ho3 := hk3.own ho (by simp)
          have hK3 : Kept [] w w3 := hK.call hk3 (by simp)
          have hown3 := ownsRow_kept hown hk3 (by simp)
          have cr : w3.cell? ⟨rb, 0, none⟩ = some (.pointer (some ⟨w.heap.size + 1, 0, none⟩)) := hrb3.cell 0 (by simp)
          have cg : w3.cell? ⟨g, 5, none⟩ = some (.slice pv k cv) := Own.cell og3 5 (by simp)
          have hR3' : RdAt w3 (w.heap.size + 1) (l.drop (38 + 4 * k)) 0 := by rw [show 38 + 4 * k = 36 + 4 * k + 2 from by omega]; exact hR3
          clear hR hk3 hrb og ho hK hown hR3
          generalize le l (36 + 4 * k) 2 = n1 at *
          go_wp2_with fail
          have q3 : k + 1 ≤ maxLen := by unfold maxLen; omega
          have q4 : (k + 1) * 16 ≤ 140737488355328 := by omega
          have hH := Lib.hid (show le l (38 + 4 * k) 2 = le l (38 + 4 * k) 2 from rfl)
          have hhalf := fun W h => phalf' (w.heap.size + 1) (38 + 4 * k) l W h (by rw [H1.out]; omega)
          generalize le l (38 + 4 * k) 2 = n2 at *
          have HH := Lib.hid hhalf
          clear hhalf hH
          go_region_law (first
            | (refine step_append_lies _ (by rfl) (.tmp 45) (.tmp 50) 23 (by rfl) (w.heap.size + 2) 48 i0 (.agg #[.int .i64 0, .int .i64 0]) 2 16 Try.underlying23 hi0 hz0 hz1 hz2 rfl (by decide) _ _ _ (by rfl) (World.ownsRow.alloc hown4 _) ⟨w4.heap.size, 0, none⟩ 1 1 [.int .i64 (n1 : Int), .int .i64 (n2 : Int)] (by rfl) rfl (World.news_of_block (heap_alloc_new w4 _)) (by intro u hu; simp at hu; rcases hu with rfl | rfl <;> rfl) (by decide) q3 q4 (by simp; omega) (w4.heap.size + 1) (by simp) ?_; intro g3' cap3 w5 o3 gr3 at3 lt3; have og5 := own_grown (World.ownsRow.alloc hown4 _) gr3 (og4.alloc _) (by decide); have hc5 : w5.cell? ⟨g, 5, none⟩ = some (.slice pv k cv) := Own.cell og5 5 (by simp); have hf5 : w5.frozen? ⟨g, 5, none⟩ = false := og5.free 5)
            | (go_simp; go_at_call 36; ((with_reducible refine (HH.out _ ?_).mono ?_)); (first | exact hR3' | exact Own.drew hR3'); rintro e w4 ⟨rfl, hR4, hk4⟩; have og4 := hk4.own og3.drew (by simp; omega); have hrb4 := hk4.own hrb3.drew (by simp; omega); have ho4 := hk4.own ho3.drew (by simp); have hK4 : Kept [] w w4 := hK3.drew.call hk4 (by simp); have hown4 := ownsRow_kept hown3.drew hk4 (by simp); have hw4 : w.heap.size + 2 ≤ w4.heap.size := (by have := hrb4.lt; omega); have cg4 : w4.cell? ⟨g, 5, none⟩ = some (.slice pv k cv) := Own.cell og4 5 (by simp); have cg4a : ∀ o, (w4.alloc o).cell? ⟨g, 5, none⟩ = some (.slice pv k cv) := fun o => Own.cell (og4.alloc o) 5 (by simp)))
          all_goals go_wp2_with fail
          all_goals
            have hr5 := own_grown (World.ownsRow.alloc hown4 _) gr3 (Own.alloc hR4 _) (by decide)
            have hrb5 := own_grown (World.ownsRow.alloc hown4 _) gr3 (hrb4.alloc _) (by decide)
            have ho5 := own_grown (World.ownsRow.alloc hown4 _) gr3 (ho4.alloc _) (by decide)
            have hK5 : Kept [] w w5 := (hK4.alloc _).grown gr3 (fun j hj => Or.inr (by have := (World.ownsRow.lt hown4 j hj).1; omega))
            have hg6 := og5.set 5 (.slice (some ⟨g3', 0, none⟩) (k + 1) cap3)
            have o6 := ownsRow_other o3 (p := ⟨g, 5, none⟩) (own_row_ne o3 og5 (by decide)) (.slice (some ⟨g3', 0, none⟩) (k + 1) cap3)
            have ec : rcells (decRuns l (k + 1)) = rcells (decRuns l k) ++ [.int .i64 (n1 : Int), .int .i64 (n2 : Int)] := by rw [hdr.out, rcells_snoc]
            rw [← ec] at o6
            clear HH hown4 hown3 gr3 og4 hrb4 ho4 hK4 hk4 hR4 og3 hrb3 ho3 hK3 o3 HDL
            refine ⟨⟨k + 1, _, by omega, rfl, ?_, hrb5.other (p := ⟨g, 5, none⟩) (Ne.symm g3) _, hg6, o6, ho5.other (p := ⟨g, 5, none⟩) (Ne.symm g4) _, hK5.setCell (p := ⟨g, 5, none⟩) (Or.inr g1) _⟩, ?_⟩
            · rw [show 36 + 4 * (k + 1) = 38 + 4 * k + 2 from by omega]
              exact Own.other hr5 (p := ⟨g, 5, none⟩) (Ne.symm g2) _
            · simp [intOf]; omega
        · obtain rfl : k = le l 32 2 := by omega
          have hrun := RunsIn.of_own (l := (dec l).runs) hown
          have hrun2 := hrun.weaken (lo' := w.heap.size) (hi' := wr.heap.size) (by omega) (Nat.le_refl _) (Nat.le_refl _)
          obtain ⟨y0, y1, y2, y3, y4, y5⟩ := og.c6
          obtain ⟨x0, x1, x2, x3, x4, x5⟩ := ho.c6
          have zo := ho.z6
          by_cases hm : (dec l).may
          · have hput := HPY.out (.slice pv (le l 32 2) cv) (w.heap.size + 2) wr.heap.size wr hrun hm
            unfold SB.cells at hput
            by_cases hs : (dec l).sector = l
            · have HS : Hid (isSB l) := HSB.out.2 ⟨hn16, hm, hs⟩
              rw [hs] at hput
              clear HSB HPY HPN hm hs
              go_wp2_with fail
              refine hput.mono ?_; rintro e w5 ⟨rfl, hk5⟩
              have og5 := hk5.own og (by simp)
              have ho5 := hk5.own ho (by simp)
              obtain ⟨y0, y1, y2, y3, y4, y5⟩ := og5.c6
              obtain ⟨x0, x1, x2, x3, x4, x5⟩ := ho5.c6
              have zo := ho5.z6
              go_wp2_with fail
              have hS := (Kept.refl [w.heap.size] w5).set6 (b := w.heap.size) (Or.inl (by simp)) (.int .u64 (le l 8 8)) (.int .i64 (le l 16 4)) (.int .i64 (le l 20 4)) (.int .i64 (le l 24 4)) (.int .i64 (le l 28 4)) (.slice pv (le l 32 2) cv)
              have hrun5 := (hrun.kept0 hk5).kept hS (fun x hx => by simp at hx; omega)
              have hs5 := hk5.size
              refine bodyPost_ret (v := .tuple #[.agg #[.int .u64 (le l 8 8), .int .i64 (le l 16 4), .int .i64 (le l 20 4), .int .i64 (le l 24 4), .int .i64 (le l 28 4), .slice pv (le l 32 2) cv], .int .i64 0]) ?_ ?_ ?_
              · exact ret_row_tmp Try.results15 rfl rfl (ho5.set6 _ _ _ _ _ _) Try.underlying25 rfl (by kernel_rfl)
              · rfl
              · exact ⟨Or.inl ⟨HS.out, _, rfl, hrun5.weaken (by omega) (by simp [World.setCell]; exact hs5) (Nat.le_refl _)⟩, (hK.trans hk5).call hS (fun x hx => by simp at hx; omega)⟩
            · have HN : Hid (¬ isSB l) := fun hh => hs (HSB.out.1 hh).2.2
              have hne : ((bs (dec l).sector).toList == (bs l).toList) = false := by rw [bs_toList, bs_toList]; simpa using hs
              clear HSB HPY HPN hm hs
              generalize (dec l).sector = SE at *
              go_wp2_with fail
              refine hput.mono ?_; rintro e w5 ⟨rfl, hk5⟩
              have og5 := hk5.own og (by simp)
              have ho5 := hk5.own ho (by simp)
              obtain ⟨y0, y1, y2, y3, y4, y5⟩ := og5.c6
              obtain ⟨x0, x1, x2, x3, x4, x5⟩ := ho5.c6
              have zo := ho5.z6
              go_wp2_with fail
              refine bodyPost_ret (v := .tuple #[.agg #[.int .u64 0, .int .i64 0, .int .i64 0, .int .i64 0, .int .i64 0, .slice none 0 0], .int .i64 110]) ?_ ?_ ?_
              · exact ret_row_tmp Try.results15 rfl rfl (ho5.set6 _ _ _ _ _ _) Try.underlying25 rfl (by kernel_rfl)
              · rfl
              · exact getSays_no HN.out ((hK.trans hk5).set6 (Or.inr (Nat.le_refl _)) _ _ _ _ _ _)
          · have HN : Hid (¬ isSB l) := fun hh => hm (HSB.out.1 hh).2.1
            have hput := HPN.out (.slice pv (le l 32 2) cv) (w.heap.size + 2) wr.heap.size wr hrun hm
            unfold SB.cells at hput
            clear HSB HPY HPN hm
            go_wp2_with fail
            refine hput.mono ?_; rintro e w5 ⟨rfl, hk5⟩
            have og5 := hk5.own og (by simp)
            have ho5 := hk5.own ho (by simp)
            obtain ⟨y0, y1, y2, y3, y4, y5⟩ := og5.c6
            obtain ⟨x0, x1, x2, x3, x4, x5⟩ := ho5.c6
            have zo := ho5.z6
            go_wp2_with fail
            refine bodyPost_ret (v := .tuple #[.agg #[.int .u64 0, .int .i64 0, .int .i64 0, .int .i64 0, .int .i64 0, .slice none 0 0], .int .i64 110]) ?_ ?_ ?_
            · exact ret_row_tmp Try.results15 rfl rfl (ho5.set6 _ _ _ _ _ _) Try.underlying25 rfl (by kernel_rfl)
            · rfl
            · exact getSays_no HN.out ((hK.trans hk5).set6 (Or.inr (Nat.le_refl _)) _ _ _ _ _ _)
end Go.Proofs.Ytpdmnjcklpklnaa
