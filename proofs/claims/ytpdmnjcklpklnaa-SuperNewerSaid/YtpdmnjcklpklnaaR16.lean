/- Walks of layer 11 (super), the document's answer: which sectors are superblocks'. -/
import Derived.Test.YtpdmnjcklpklnaaR14
import Derived.Test.YtpdmnjcklpklnaaR15
import Derived.Test.YtpdmnjcklpklnaaR5
import Derived.BigQuiet
namespace Go.Proofs.Ytpdmnjcklpklnaa
open Go.RowKit
set_option linter.unusedVariables false
set_option linter.unusedSimpArgs false

theorem two_bytes (a b : Nat) (ha : a < 256) (hb : b < 256) : wrap64 (wrap64 (a : Int) + wrap64 (256 * wrap64 (b : Int))) = ((a + 256 * b : Nat) : Int) := by
  have e1 : wrap64 (a : Int) = a := IntWalk.wrap64_in _ ⟨by omega, by omega⟩
  have e2 : wrap64 (b : Int) = b := IntWalk.wrap64_in _ ⟨by omega, by omega⟩
  have e3 : wrap64 (256 * (b : Int)) = 256 * b := IntWalk.wrap64_in _ ⟨by omega, by omega⟩
  rw [e1, e2, e3, IntWalk.wrap64_in _ ⟨by omega, by omega⟩]; omega
theorem le_pair (l : List UInt8) (i j : Nat) (h : l.length = 128) (hi : i < (bs l).size) (hj : j < (bs l).size) (hij : j = i + 1) :
    wrap64 (wrap64 ((bs l)[i].toNat : Int) + wrap64 (256 * wrap64 ((bs l)[j].toNat : Int))) = ((le l i 2 : Nat) : Int) := by
  subst hij
  have hz : (bs l).size = 128 := by rw [bs_size, h]
  rw [two_bytes _ _ (bs l)[i].toNat_lt (bs l)[i + 1].toNat_lt, le_two l i (by omega)]
  rfl

set_option maxRecDepth 100000 in
set_option maxHeartbeats 2000000 in
theorem rget_len (l : List UInt8) (w : World) (h : l.length ≠ 128) (hl : l.length ≤ 1000000) :
    Calls Try.prog 17 #[.string (bs l)] w fun e w' => e = .returned (.tuple #[.agg (zeroSB.cells (.slice none 0 0)), .bool false]) ∧ Kept [] w w' := by
  have hz : (bs l).size = l.length := bs_size l
  have o := Own.new w #[.int .u64 0, .int .i64 0, .int .i64 0, .int .i64 0, .int .i64 0, .slice none 0 0] 25
  have hne : ((l.length : Int) == 128) = false := by simp; omega
  obtain ⟨d0, d1, d2, d3, d4, d5⟩ := o.c6
  have z := o.z6
  clear h
  generalize l.length = n at *
  go_enter Try.func17, Try.ntmps17
  go_wp2_with fail
  refine bodyPost_ret (v := .tuple #[.agg #[.int .u64 0, .int .i64 0, .int .i64 0, .int .i64 0, .int .i64 0, .slice none 0 0], .bool false]) ?_ ?_ ?_
  · exact ret_row_tmp Try.results17 rfl rfl o Try.underlying25 rfl (by kernel_rfl)
  · rfl
  · exact ⟨rfl, (Kept.refl _ _).alloc _⟩

set_option maxRecDepth 100000 in
set_option maxHeartbeats 4000000 in
theorem rget_128 (l : List UInt8) (w : World) (h : l.length = 128) :
    Calls Try.prog 17 #[.string (bs l)] w (GetSays (.bool true) (.bool false) l w) := by
  have hz : (bs l).size = 128 := by rw [bs_size, h]
  obtain ⟨o, oR⟩ := own_two w #[.int .u64 0, .int .i64 0, .int .i64 0, .int .i64 0, .int .i64 0, .slice none 0 0] #[.string (bs l), .int .i64 0, .int .i64 0] 25 71
  have hR0 := rrNew oR (by omega)
  have HSB := Lib.hid (isSB_16 h)
  have HDEC : Hid (isSB l → dec l = dec16 l) := fun hh => (dec16_eq hh.2.1).symm
  have H1 := Lib.hid h
  have b8 : le l 8 8 < 18446744073709551616 := le_lt l 8 8
  have b16 : le l 16 4 < 4294967296 := le_lt l 16 4
  have b20 : le l 20 4 < 4294967296 := le_lt l 20 4
  have b24 : le l 24 4 < 4294967296 := le_lt l 24 4
  have b28 : le l 28 4 < 4294967296 := le_lt l 28 4
  have b32 : le l 32 2 < 65536 := le_lt l 32 2
  clear h
  have o8 := fun W hR => rnum' (w.heap.size + 1) 8 8 l W hR (by rw [H1.out]; omega) (by omega)
  have o16 := fun W hR => rnum' (w.heap.size + 1) 16 4 l W hR (by rw [H1.out]; omega) (by omega)
  have o20 := fun W hR => rnum' (w.heap.size + 1) 20 4 l W hR (by rw [H1.out]; omega) (by omega)
  have o24 := fun W hR => rnum' (w.heap.size + 1) 24 4 l W hR (by rw [H1.out]; omega) (by omega)
  have o28 := fun W hR => rnum' (w.heap.size + 1) 28 4 l W hR (by rw [H1.out]; omega) (by omega)
  have o32 := fun W hR => rnum' (w.heap.size + 1) 32 2 l W hR (by rw [H1.out]; omega) (by omega)
  have HD : Hid (dec16 l = ⟨le l 8 8, (le l 16 4 : Nat), (le l 20 4 : Nat), (le l 24 4 : Nat), (le l 28 4 : Nat), decRuns l (min (le l 32 2) 16)⟩) := rfl
  have ht := fun W hR => rtake8 (w.heap.size + 1) l W hR (by rw [H1.out]; omega)
  generalize le l 8 8 = n0 at *
  generalize le l 16 4 = n1 at *
  generalize le l 20 4 = n2 at *
  generalize le l 24 4 = n3 at *
  generalize le l 28 4 = n4 at *
  generalize le l 32 2 = n5 at *
  have O8 := Lib.hid o8
  have O16 := Lib.hid o16
  have O20 := Lib.hid o20
  have O24 := Lib.hid o24
  have O28 := Lib.hid o28
  have O32 := Lib.hid o32
  have HT := Lib.hid ht
  clear o8 o16 o20 o24 o28 o32 ht
  go_enter Try.func17, Try.ntmps17
  go_wp2_with fail
  refine (HT.out _ hR0).mono ?_; rintro e w1 ⟨rfl, hR1, hk1⟩
  have o1 := hk1.own o (by simp)
  have hK1 : Kept [] w w1 := (((Kept.refl _ _).alloc _).alloc _).call hk1 (by simp)
  clear hR0 hk1 o oR
  go_wp2_with fail
  refine (O8.out _ hR1).mono ?_; rintro e w2 ⟨rfl, hR2, hk2⟩
  have o2 := hk2.own o1 (by simp)
  have hK2 : Kept [] w w2 := hK1.call hk2 (by simp)
  have hR3 := RrAt.alloc hR2 (.cells #[.int .u64 n0, .int .i64 0, .int .i64 0, .int .i64 0, .int .i64 0, .slice none 0 0] 25)
  have og3 := Own.new w2 #[.int .u64 n0, .int .i64 0, .int .i64 0, .int .i64 0, .int .i64 0, .slice none 0 0] 25
  have ho3 := o2.alloc (.cells #[.int .u64 n0, .int .i64 0, .int .i64 0, .int .i64 0, .int .i64 0, .slice none 0 0] 25)
  have hK3 := hK2.alloc (.cells #[.int .u64 n0, .int .i64 0, .int .i64 0, .int .i64 0, .int .i64 0, .slice none 0 0] 25)
  have hg1 : w2.heap.size ≠ w.heap.size + 1 := by have := hR2.lt; omega
  have hg2 : w2.heap.size ≠ w.heap.size := by have := o2.lt; omega
  have hg3 : w.heap.size ≤ w2.heap.size := hK2.size
  have hg4 : w.heap.size + 2 ≤ w2.heap.size := by have := hR2.lt; omega
  clear hR1 hR2 hk2 o1 o2 hK1 hK2 H1
  go_wp2_with fail
  refine (O16.out _ hR3).mono ?_; rintro e w4 ⟨rfl, hq4, hk4⟩
  generalize hgg : w2.heap.size = g at *
  clear hgg
  have oq4 := hk4.own og3 (by simp; omega)
  have hoq4 := hk4.own ho3 (by simp)
  have hKq4 : Kept [] w w4 := hK3.call hk4 (by simp)
  obtain ⟨x0, x1, x2, x3, x4, x5⟩ := oq4.c6
  have zx := oq4.z6
  clear hR3 og3 ho3 hK3 hk4
  go_wp2_with fail
  have og4 : Own (w4.setCell ⟨g, 1, none⟩ (.int .i64 n1)) g #[.int .u64 n0, .int .i64 n1, .int .i64 0, .int .i64 0, .int .i64 0, .slice none 0 0] 25 := oq4.set 1 (.int .i64 n1)
  have hR4 := hq4.other (p := ⟨g, 1, none⟩) (Ne.symm hg1) (.int .i64 n1)
  have ho4 := hoq4.other (p := ⟨g, 1, none⟩) (Ne.symm hg2) (.int .i64 n1)
  have hK4 := hKq4.setCell (p := ⟨g, 1, none⟩) (Or.inr hg3) (.int .i64 n1)
  clear hq4 oq4 hoq4 hKq4 x0 x1 x2 x3 x4 x5 zx
  refine (O20.out _ hR4).mono ?_; rintro e w5 ⟨rfl, hq5, hk5⟩
  have oq5 := hk5.own og4 (by simp; omega)
  have hoq5 := hk5.own ho4 (by simp)
  have hKq5 : Kept [] w w5 := hK4.call hk5 (by simp)
  obtain ⟨x0, x1, x2, x3, x4, x5⟩ := oq5.c6
  have zx := oq5.z6
  clear hR4 og4 ho4 hK4 hk5
  go_wp2_with fail
  have og5 : Own (w5.setCell ⟨g, 2, none⟩ (.int .i64 n2)) g #[.int .u64 n0, .int .i64 n1, .int .i64 n2, .int .i64 0, .int .i64 0, .slice none 0 0] 25 := oq5.set 2 (.int .i64 n2)
  have hR5 := hq5.other (p := ⟨g, 2, none⟩) (Ne.symm hg1) (.int .i64 n2)
  have ho5 := hoq5.other (p := ⟨g, 2, none⟩) (Ne.symm hg2) (.int .i64 n2)
  have hK5 := hKq5.setCell (p := ⟨g, 2, none⟩) (Or.inr hg3) (.int .i64 n2)
  clear hq5 oq5 hoq5 hKq5 x0 x1 x2 x3 x4 x5 zx
  refine (O24.out _ hR5).mono ?_; rintro e w6 ⟨rfl, hq6, hk6⟩
  have oq6 := hk6.own og5 (by simp; omega)
  have hoq6 := hk6.own ho5 (by simp)
  have hKq6 : Kept [] w w6 := hK5.call hk6 (by simp)
  obtain ⟨x0, x1, x2, x3, x4, x5⟩ := oq6.c6
  have zx := oq6.z6
  clear hR5 og5 ho5 hK5 hk6
  go_wp2_with fail
  have og6 : Own (w6.setCell ⟨g, 3, none⟩ (.int .i64 n3)) g #[.int .u64 n0, .int .i64 n1, .int .i64 n2, .int .i64 n3, .int .i64 0, .slice none 0 0] 25 := oq6.set 3 (.int .i64 n3)
  have hR6 := hq6.other (p := ⟨g, 3, none⟩) (Ne.symm hg1) (.int .i64 n3)
  have ho6 := hoq6.other (p := ⟨g, 3, none⟩) (Ne.symm hg2) (.int .i64 n3)
  have hK6 := hKq6.setCell (p := ⟨g, 3, none⟩) (Or.inr hg3) (.int .i64 n3)
  clear hq6 oq6 hoq6 hKq6 x0 x1 x2 x3 x4 x5 zx
  refine (O28.out _ hR6).mono ?_; rintro e w7 ⟨rfl, hq7, hk7⟩
  have oq7 := hk7.own og6 (by simp; omega)
  have hoq7 := hk7.own ho6 (by simp)
  have hKq7 : Kept [] w w7 := hK6.call hk7 (by simp)
  obtain ⟨x0, x1, x2, x3, x4, x5⟩ := oq7.c6
  have zx := oq7.z6
  clear hR6 og6 ho6 hK6 hk7
  go_wp2_with fail
  have og7 : Own (w7.setCell ⟨g, 4, none⟩ (.int .i64 n4)) g #[.int .u64 n0, .int .i64 n1, .int .i64 n2, .int .i64 n3, .int .i64 n4, .slice none 0 0] 25 := oq7.set 4 (.int .i64 n4)
  have hR7 := hq7.other (p := ⟨g, 4, none⟩) (Ne.symm hg1) (.int .i64 n4)
  have ho7 := hoq7.other (p := ⟨g, 4, none⟩) (Ne.symm hg2) (.int .i64 n4)
  have hK7 := hKq7.setCell (p := ⟨g, 4, none⟩) (Or.inr hg3) (.int .i64 n4)
  clear hq7 oq7 hoq7 hKq7 x0 x1 x2 x3 x4 x5 zx
  refine (O32.out _ hR7).mono ?_; rintro e w8 ⟨rfl, hR8, hk8⟩
  have og8 := hk8.own og7 (by simp; omega)
  have ho8 := hk8.own ho7 (by simp)
  have hK8 : Kept [] w w8 := hK7.call hk8 (by simp)
  have hw8 : w.heap.size + 2 ≤ w8.heap.size := by have := og8.lt; omega
  clear hR7 og7 ho7 hK7 hk8
  clear O8 O16 O20 O24 O28 O32 HT
  go_wp2_with fail
  go_loopw [7] (fun i wr => ∃ (k : Nat) (v : Value), k ≤ min n5 16 ∧ i = .int .u64 k ∧ Own wr g #[.int .u64 n0, .int .i64 n1, .int .i64 n2, .int .i64 n3, .int .i64 n4, v] 25 ∧ wr.ownsRow (w.heap.size + 2) 48 2 v k (rcells (decRuns l k)) ∧ Own wr w.heap.size #[.int .u64 0, .int .i64 0, .int .i64 0, .int .i64 0, .int .i64 0, .slice none 0 0] 25 ∧ Kept [] w wr) (fun i _ => min n5 16 - (intOf i).toNat)
  case atStart => exact ⟨0, _, by omega, rfl, og8, World.ownsRow_nil _ _ _ _, ho8, hK8⟩
  case round =>
    obtain ⟨k, v, hk, rfl, og, hown, ho, hK⟩ := hrel
    obtain ⟨pv, cv, rfl⟩ := own_shape hown
    by_cases hlt : k < min n5 16
    · have k1 : k < n5 := by omega
      have k2 : k < 16 := by omega
      have hz' : ((bs l).size : Int) = 128 := by rw [hz]; rfl
      have f36 : (36 + 4 * (k : Int)).toNat = 36 + 4 * k := by omega
      have f37 : (37 + 4 * (k : Int)).toNat = 37 + 4 * k := by omega
      have f38 : (38 + 4 * (k : Int)).toNat = 38 + 4 * k := by omega
      have f39 : (39 + 4 * (k : Int)).toNat = 39 + 4 * k := by omega
      have p36 : 36 + 4 * (k : Int) < 128 := by omega
      have q36 : 0 ≤ 36 + 4 * (k : Int) := by omega
      have p37 : 37 + 4 * (k : Int) < 128 := by omega
      have q37 : 0 ≤ 37 + 4 * (k : Int) := by omega
      have p38 : 38 + 4 * (k : Int) < 128 := by omega
      have q38 : 0 ≤ 38 + 4 * (k : Int) := by omega
      have p39 : 39 + 4 * (k : Int) < 128 := by omega
      have q39 : 0 ≤ 39 + 4 * (k : Int) := by omega
      have H36 := Lib.hid (le_pair l (36 + 4 * k) (37 + 4 * k) (by rw [← bs_size]; exact hz) (by rw [hz]; omega) (by rw [hz]; omega) (by omega))
      have H38 := Lib.hid (le_pair l (38 + 4 * k) (39 + 4 * k) (by rw [← bs_size]; exact hz) (by rw [hz]; omega) (by rw [hz]; omega) (by omega))
      have hdr : Hid (decRuns l (k + 1) = decRuns l k ++ [(((le l (36 + 4 * k) 2 : Nat) : Int), ((le l (38 + 4 * k) 2 : Nat) : Int))]) := rfl
      obtain ⟨i0, hi0, hz0, hz1, hz2⟩ := infoRun
      clear HSB HD HDEC og8 ho8 hK8 hlt
      go_wp2_with fail
      go_region
      go_wp2_with fail
      go_region
      have E1 := H36.out
      have E2 := H38.out
      rw [E1, E2]
      clear E1 E2 H36 H38
      generalize le l (36 + 4 * k) 2 = m1 at *
      generalize le l (38 + 4 * k) 2 = m2 at *
      have og3 : Own wr.drew.drew g #[.int .u64 n0, .int .i64 n1, .int .i64 n2, .int .i64 n3, .int .i64 n4, .slice pv k cv] 25 := og
      have hown3 : wr.drew.drew.ownsRow (w.heap.size + 2) 48 2 (.slice pv k cv) k (rcells (decRuns l k)) := hown
      have ho3 : Own wr.drew.drew w.heap.size #[.int .u64 0, .int .i64 0, .int .i64 0, .int .i64 0, .int .i64 0, .slice none 0 0] 25 := ho
      have hK3 : Kept [] w wr.drew.drew := hK.drew.drew
      clear og hown ho hK
      generalize wr.drew.drew = w3 at *
      have hw3 : w.heap.size + 2 ≤ w3.heap.size := by have := og3.lt; omega
      have q3 : k + 1 ≤ maxLen := by unfold maxLen; omega
      have q4 : (k + 1) * 16 ≤ 140737488355328 := by omega
      have cg : w3.cell? ⟨g, 5, none⟩ = some (.slice pv k cv) := Own.cell og3 5 (by simp)
      go_wp2_with (at_builtin; go_must (refine wpList_append_own_at _ rfl (.tmp 78) (.tmp 82) 23 rfl (w.heap.size + 2) 48 i0 (.agg #[.int .i64 0, .int .i64 0]) 2 16 Try.underlying23 hi0 hz0 hz1 hz2 rfl (by decide) _ _ _ rfl (World.ownsRow.alloc hown3 _) ⟨w3.heap.size, 0, none⟩ 1 1 [.int .i64 (m1 : Int), .int .i64 (m2 : Int)] rfl rfl ?c1 ?c2 ?c3 ?c4 ?c5 ?_))
      case c1 => exact World.news_of_block (heap_alloc_new w3 _)
      case c2 => intro u hu; simp at hu; rcases hu with rfl | rfl <;> rfl
      case c3 => exact q3
      case c4 => exact q4
      case c5 => simp; omega
      intro v5 w5 o3 gr3 _ _
      have og5 := own_grown (World.ownsRow.alloc hown3 _) gr3 (og3.alloc _) (by decide)
      have ho5 := own_grown (World.ownsRow.alloc hown3 _) gr3 (ho3.alloc _) (by decide)
      have hK5 : Kept [] w w5 := (hK3.alloc _).grown gr3 (fun j hj => Or.inr (by have := (World.ownsRow.lt hown3 j hj).1; omega))
      have hc5 : w5.cell? ⟨g, 5, none⟩ = some (.slice pv k cv) := Own.cell og5 5 (by simp)
      have hf5 : w5.frozen? ⟨g, 5, none⟩ = false := og5.free 5
      obtain ⟨p5, cv5, rfl⟩ := own_shape o3
      clear hown3 gr3 og3 ho3 hK3
      go_wp2_with fail
      have hg6 := og5.set 5 (.slice p5 (k + 1) cv5)
      have o6 := ownsRow_other o3 (p := ⟨g, 5, none⟩) (own_row_ne o3 og5 (by decide)) (.slice p5 (k + 1) cv5)
      have ec : rcells (decRuns l (k + 1)) = rcells (decRuns l k) ++ [.int .i64 (m1 : Int), .int .i64 (m2 : Int)] := by rw [hdr.out, rcells_snoc]
      rw [← ec] at o6
      go_roundw
      case rel => exact ⟨k + 1, _, by omega, by go_num, hg6, o6, ho5.other (p := ⟨g, 5, none⟩) (Ne.symm hg2) _, hK5.setCell (p := ⟨g, 5, none⟩) (Or.inr hg3) _⟩
      case measure => simp [intOf]; omega
    · obtain rfl : k = min n5 16 := by omega
      have hsb := HSB.out
      have hdec := HDEC.out
      rw [HD.out] at hsb hdec
      have hrun := RunsIn.of_own (l := decRuns l (min n5 16)) hown
      have hl16 : (decRuns l (min n5 16)).length ≤ 16 := by rw [decRuns_len]; omega
      generalize decRuns l (min n5 16) = R at *
      have HSB2 := Lib.hid hsb
      have HDEC2 := Lib.hid hdec
      obtain ⟨y0, y1, y2, y3, y4, y5⟩ := og.c6
      clear HSB HD HDEC og8 ho8 hK8 hsb hdec hown hlt b16 b20 b24 b28 b32
      have hcs : (¬ (((min n5 16 : Nat) : Int) < n5)) ∨ ((((min n5 16 : Nat) : Int) < n5) ∧ ¬ (((min n5 16 : Nat) : Int) < 16)) := by omega
      generalize min n5 16 = m at *
      rcases hcs with hc1 | ⟨hc1, hc2⟩
      all_goals
        by_cases hm : (SB.mk n0 n1 n2 n3 n4 R).may
        · have hmay : Calls Try.prog 11 #[.agg #[.int .u64 (n0 : Int), .int .i64 (n1 : Int), .int .i64 (n2 : Int), .int .i64 (n3 : Int), .int .i64 (n4 : Int), .slice pv m cv]] wr fun e w' => e = .returned (.bool true) ∧ Kept [] wr w' :=
            (rmay (SB.mk n0 n1 n2 n3 n4 R) _ _ _ wr hrun (by show R.length ≤ _; omega)).mono fun e w' hh => ⟨by
              rcases hh.1 with ⟨_, e1⟩ | ⟨e1, _⟩
              · exact e1
              · exact absurd hm e1, hh.2⟩
          have hput : ∀ W, Kept [] wr W → Calls Try.prog 16 #[.agg #[.int .u64 (n0 : Int), .int .i64 (n1 : Int), .int .i64 (n2 : Int), .int .i64 (n3 : Int), .int .i64 (n4 : Int), .slice pv m cv]] W fun e w' => e = .returned (.string (bs (SB.mk n0 n1 n2 n3 n4 R).sector)) ∧ Kept [] W w' :=
            fun W hk => rput (SB.mk n0 n1 n2 n3 n4 R) _ _ _ W (hrun.kept0 hk) hm b8
          by_cases hs : (SB.mk n0 n1 n2 n3 n4 R).sector = l
          · have HS : Hid (isSB l) := HSB2.out.2 ⟨hm, hs⟩
            rw [hs] at hput
            have HP := Lib.hid hput
            clear hput hm hs HSB2
            go_wp2_with fail
            refine hmay.mono ?_; rintro e w4 ⟨rfl, hk4⟩
            have og4 := hk4.own og (by simp)
            obtain ⟨y0, y1, y2, y3, y4, y5⟩ := og4.c6
            go_wp2_with fail
            refine (HP.out _ hk4).mono ?_; rintro e w5 ⟨rfl, hk5⟩
            have og5 := hk5.own og4 (by simp)
            have ho5 := hk5.own (hk4.own ho (by simp)) (by simp)
            obtain ⟨y0, y1, y2, y3, y4, y5⟩ := og5.c6
            obtain ⟨x0, x1, x2, x3, x4, x5⟩ := ho5.c6
            have zo := ho5.z6
            go_wp2_with fail
            have hS := (Kept.refl [w.heap.size] w5).set6 (b := w.heap.size) (Or.inl (by simp)) (.int .u64 n0) (.int .i64 n1) (.int .i64 n2) (.int .i64 n3) (.int .i64 n4) (.slice pv m cv)
            have hrun5 := (hrun.kept0 (hk4.trans hk5)).kept hS (fun x hx => by simp at hx; omega)
            have hs5 := (hk4.trans hk5).size
            refine bodyPost_ret (v := .tuple #[.agg #[.int .u64 n0, .int .i64 n1, .int .i64 n2, .int .i64 n3, .int .i64 n4, .slice pv m cv], .bool true]) ?_ ?_ ?_
            · exact ret_row_tmp Try.results17 rfl rfl (ho5.set6 _ _ _ _ _ _) Try.underlying25 rfl (by kernel_rfl)
            · rfl
            · exact ⟨Or.inl ⟨HS.out, _, by rw [HDEC2.out HS.out]; rfl, by rw [HDEC2.out HS.out]; exact hrun5.weaken (by omega) (by simp [World.setCell]; exact hs5) (Nat.le_refl _)⟩, ((hK.trans hk4).trans hk5).call hS (fun x hx => by simp at hx; omega)⟩
          · have HN : Hid (¬ isSB l) := fun hh => hs (HSB2.out.1 hh).2
            have hne : ((bs (SB.mk n0 n1 n2 n3 n4 R).sector).toList == (bs l).toList) = false := by rw [bs_toList, bs_toList]; simpa using hs
            have HP := Lib.hid hput
            clear hput hm hs HSB2
            generalize (SB.mk n0 n1 n2 n3 n4 R).sector = SE at *
            go_wp2_with fail
            refine hmay.mono ?_; rintro e w4 ⟨rfl, hk4⟩
            have og4 := hk4.own og (by simp)
            obtain ⟨y0, y1, y2, y3, y4, y5⟩ := og4.c6
            go_wp2_with fail
            refine (HP.out _ hk4).mono ?_; rintro e w5 ⟨rfl, hk5⟩
            have ho5 := hk5.own (hk4.own ho (by simp)) (by simp)
            obtain ⟨x0, x1, x2, x3, x4, x5⟩ := ho5.c6
            have zo := ho5.z6
            go_wp2_with fail
            refine bodyPost_ret (v := .tuple #[.agg #[.int .u64 0, .int .i64 0, .int .i64 0, .int .i64 0, .int .i64 0, .slice none 0 0], .bool false]) ?_ ?_ ?_
            · exact ret_row_tmp Try.results17 rfl rfl (ho5.set6 _ _ _ _ _ _) Try.underlying25 rfl (by kernel_rfl)
            · rfl
            · exact getSays_no HN.out (((hK.trans hk4).trans hk5).set6 (Or.inr (Nat.le_refl _)) _ _ _ _ _ _)
        · have HN : Hid (¬ isSB l) := fun hh => hm (HSB2.out.1 hh).1
          have hmay : Calls Try.prog 11 #[.agg #[.int .u64 (n0 : Int), .int .i64 (n1 : Int), .int .i64 (n2 : Int), .int .i64 (n3 : Int), .int .i64 (n4 : Int), .slice pv m cv]] wr fun e w' => e = .returned (.bool false) ∧ Kept [] wr w' :=
            (rmay (SB.mk n0 n1 n2 n3 n4 R) _ _ _ wr hrun (by show R.length ≤ _; omega)).mono fun e w' hh => ⟨by
              rcases hh.1 with ⟨e1, _⟩ | ⟨_, e1⟩
              · exact absurd e1 hm
              · exact e1, hh.2⟩
          clear hm HSB2
          go_wp2_with fail
          refine hmay.mono ?_; rintro e w5 ⟨rfl, hk5⟩
          have ho5 := hk5.own ho (by simp)
          obtain ⟨x0, x1, x2, x3, x4, x5⟩ := ho5.c6
          have zo := ho5.z6
          go_wp2_with fail
          refine bodyPost_ret (v := .tuple #[.agg #[.int .u64 0, .int .i64 0, .int .i64 0, .int .i64 0, .int .i64 0, .slice none 0 0], .bool false]) ?_ ?_ ?_
          · exact ret_row_tmp Try.results17 rfl rfl (ho5.set6 _ _ _ _ _ _) Try.underlying25 rfl (by kernel_rfl)
          · rfl
          · exact getSays_no HN.out ((hK.trans hk5).set6 (Or.inr (Nat.le_refl _)) _ _ _ _ _ _)
end Go.Proofs.Ytpdmnjcklpklnaa
