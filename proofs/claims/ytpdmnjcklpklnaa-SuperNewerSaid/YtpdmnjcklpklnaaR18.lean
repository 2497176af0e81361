/- Walks of layer 11 (super), the document's answer: which of two sectors counts. -/
import Derived.Test.YtpdmnjcklpklnaaR17
namespace Go.Proofs.Ytpdmnjcklpklnaa
open Go.RowKit
set_option linter.unusedVariables false
set_option linter.unusedSimpArgs false

theorem pick_none {ok bad : Value} {a b : List UInt8} {w w' : World} (h0 : ¬ cnt0 a) (h1 : ¬ cnt1 b) (hk : Kept [] w w') : PickSays ok bad a b w (.returned (.tuple #[.agg #[.int .u64 0, .int .i64 0, .int .i64 0, .int .i64 0, .int .i64 0, .slice none 0 0], bad])) w' :=
  ⟨⟨none, _, Or.inl ⟨rfl, h0, h1⟩, rfl, Or.inl ⟨rfl, _, _, rfl⟩⟩, hk⟩
theorem pick_a {ok bad : Value} {a b : List UInt8} {w w' : World} {v : Value} (h0 : cnt0 a) (h : ¬ (cnt1 b ∧ (dec a).seq < (dec b).seq)) (hr : RunsIn w' v (dec a).runs w.heap.size w'.heap.size) (hk : Kept [] w w') : PickSays ok bad a b w (.returned (.tuple #[.agg ((dec a).cells v), ok])) w' :=
  ⟨⟨some a, v, Or.inr (Or.inl ⟨rfl, h0, h⟩), rfl, hr⟩, hk⟩
theorem pick_b {ok bad : Value} {a b : List UInt8} {w w' : World} {v : Value} (h0 : cnt1 b) (h : ¬ (cnt0 a ∧ (dec b).seq < (dec a).seq)) (hr : RunsIn w' v (dec b).runs w.heap.size w'.heap.size) (hk : Kept [] w w') : PickSays ok bad a b w (.returned (.tuple #[.agg ((dec b).cells v), ok])) w' :=
  ⟨⟨some b, v, Or.inr (Or.inr ⟨rfl, h0, h⟩), rfl, hr⟩, hk⟩

set_option maxRecDepth 100000 in
set_option maxHeartbeats 4000000 in
theorem rpick (a b : List UInt8) (w : World) (ha : a.length ≤ 1000000) (hb : b.length ≤ 1000000) :
    Calls Try.prog 19 #[.string (bs a), .string (bs b)] w (PickSays (.bool true) (.bool false) a b w) := by
  have o := Own.new w #[.int .u64 0, .int .i64 0, .int .i64 0, .int .i64 0, .int .i64 0, .slice none 0 0] 25
  have HGA := Lib.hid (fun W => rget a W ha)
  have HGB := Lib.hid (fun W => rget b W hb)
  have HQ : Hid (∀ l, (dec l).seq < 18446744073709551616) := fun l => le_lt l 8 8
  go_enter Try.func19, Try.ntmps19
  go_wp2_with fail
  refine (HGA.out _).mono ?_; rintro e w1 hh
  rcases getSays_any hh with ⟨va, hia, rfl, hra, hk1⟩ | ⟨hia, rfl, hk1⟩
  · obtain ⟨pa, ca, rfl⟩ := hra.shape
    unfold SB.cells
    have hqa := HQ.out a
    have HIA := Lib.hid hia
    clear hia
    generalize hda : dec a = da at *
    have HDA := Lib.hid hda
    clear hda
    have o1 := (hk1.own o (by simp)).alloc (.cells #[.int .u64 da.seq, .int .i64 da.sectors, .int .i64 da.journal, .int .i64 da.used, .int .i64 da.size, .slice pa da.runs.length ca] 25)
    have ox := Own.new w1 #[.int .u64 da.seq, .int .i64 da.sectors, .int .i64 da.journal, .int .i64 da.used, .int .i64 da.size, .slice pa da.runs.length ca] 25
    have hK1 := (((Kept.refl _ w).alloc (.cells #[.int .u64 0, .int .i64 0, .int .i64 0, .int .i64 0, .int .i64 0, .slice none 0 0] 25)).trans hk1).alloc (.cells #[.int .u64 da.seq, .int .i64 da.sectors, .int .i64 da.journal, .int .i64 da.used, .int .i64 da.size, .slice pa da.runs.length ca] 25)
    have hw1 : w.heap.size < w1.heap.size := by have := hk1.size; simp at this; omega
    have hra1 := (RunsIn.kept0 hra ((Kept.refl _ _).alloc (.cells #[.int .u64 da.seq, .int .i64 da.sectors, .int .i64 da.journal, .int .i64 da.used, .int .i64 da.size, .slice pa da.runs.length ca] 25))).weaken (lo' := w.heap.size + 1) (hi' := w1.heap.size) (by simp) (Nat.le_refl _) (by simp)
    clear hra
    clear hk1 o hh
    go_wp2_with fail
    refine (HGB.out _).mono ?_; rintro e w2 hh
    rcases getSays_any hh with ⟨vb, hib, rfl, hrb, hk2⟩ | ⟨hib, rfl, hk2⟩
    · have hw2 := hk2.size
      simp only [World.size_alloc] at hw2
      obtain ⟨pb, cb, rfl⟩ := hrb.shape
      unfold SB.cells
      have hqb := HQ.out b
      have HIB := Lib.hid hib
      clear hib
      generalize hdb : dec b = db at *
      have HDB := Lib.hid hdb
      clear hdb
      have o2 := (hk2.own o1 (by simp)).alloc (.cells #[.int .u64 db.seq, .int .i64 db.sectors, .int .i64 db.journal, .int .i64 db.used, .int .i64 db.size, .slice pb db.runs.length cb] 25)
      have ox2 := (hk2.own ox (by simp)).alloc (.cells #[.int .u64 db.seq, .int .i64 db.sectors, .int .i64 db.journal, .int .i64 db.used, .int .i64 db.size, .slice pb db.runs.length cb] 25)
      have oy := Own.new w2 #[.int .u64 db.seq, .int .i64 db.sectors, .int .i64 db.journal, .int .i64 db.used, .int .i64 db.size, .slice pb db.runs.length cb] 25
      have hK2 := (hK1.trans hk2).alloc (.cells #[.int .u64 db.seq, .int .i64 db.sectors, .int .i64 db.journal, .int .i64 db.used, .int .i64 db.size, .slice pb db.runs.length cb] 25)
      have hra2 := hra1.kept0 (hk2.alloc (.cells #[.int .u64 db.seq, .int .i64 db.sectors, .int .i64 db.journal, .int .i64 db.used, .int .i64 db.size, .slice pb db.runs.length cb] 25))
      have hrb2 := (RunsIn.kept0 hrb ((Kept.refl _ _).alloc (.cells #[.int .u64 db.seq, .int .i64 db.sectors, .int .i64 db.journal, .int .i64 db.used, .int .i64 db.size, .slice pb db.runs.length cb] 25))).weaken (lo' := w.heap.size + 1) (hi' := w2.heap.size) (by simp; omega) (Nat.le_refl _) (by simp)
      obtain ⟨z0, z1, z2, z3, z4, z5⟩ := o2.c6
      have zz := o2.z6
      obtain ⟨x0, x1, x2, x3, x4, x5⟩ := ox2.c6
      obtain ⟨y0, y1, y2, y3, y4, y5⟩ := oy.c6
      clear hh hk2 hra1 hrb HGA HGB HQ
      rcases (by omega : (da.seq : Int) % 2 = 0 ∨ (da.seq : Int) % 2 = 1) with hpa | hpa
      · rcases (by omega : (db.seq : Int) % 2 = 0 ∨ (db.seq : Int) % 2 = 1) with hpb | hpb
        · go_wp2_with fail
          have hS := (Kept.refl [w.heap.size] (w2.alloc (.cells #[.int .u64 db.seq, .int .i64 db.sectors, .int .i64 db.journal, .int .i64 db.used, .int .i64 db.size, .slice pb db.runs.length cb] 25))).set6 (b := w.heap.size) (Or.inl (by simp)) (.int .u64 da.seq) (.int .i64 da.sectors) (.int .i64 da.journal) (.int .i64 da.used) (.int .i64 da.size) (.slice pa da.runs.length ca)
          have hr5 := hra2.kept hS (fun x hx => by simp at hx; omega)
          refine bodyPost_ret (v := .tuple #[.agg #[.int .u64 da.seq, .int .i64 da.sectors, .int .i64 da.journal, .int .i64 da.used, .int .i64 da.size, .slice pa da.runs.length ca], .bool true]) ?_ ?_ ?_
          · exact ret_row_tmp Try.results19 rfl rfl (o2.set6 _ _ _ _ _ _) Try.underlying25 rfl (by kernel_rfl)
          · rfl
          · have hda := HDA.out; have hdb := HDB.out; subst hda; subst hdb; exact pick_a ⟨HIA.out, by omega⟩ (fun hc => by have := hc.1.2; have := hc.2; omega) (hr5.weaken (by omega) (by simp [World.setCell] <;> omega) (Nat.le_refl _)) (hK2.set6 (Or.inr (Nat.le_refl _)) _ _ _ _ _ _)
        · by_cases hl : (db.seq : Int) < da.seq
          · go_wp2_with fail
            have hS := (Kept.refl [w.heap.size] (w2.alloc (.cells #[.int .u64 db.seq, .int .i64 db.sectors, .int .i64 db.journal, .int .i64 db.used, .int .i64 db.size, .slice pb db.runs.length cb] 25))).set6 (b := w.heap.size) (Or.inl (by simp)) (.int .u64 da.seq) (.int .i64 da.sectors) (.int .i64 da.journal) (.int .i64 da.used) (.int .i64 da.size) (.slice pa da.runs.length ca)
            have hr5 := hra2.kept hS (fun x hx => by simp at hx; omega)
            refine bodyPost_ret (v := .tuple #[.agg #[.int .u64 da.seq, .int .i64 da.sectors, .int .i64 da.journal, .int .i64 da.used, .int .i64 da.size, .slice pa da.runs.length ca], .bool true]) ?_ ?_ ?_
            · exact ret_row_tmp Try.results19 rfl rfl (o2.set6 _ _ _ _ _ _) Try.underlying25 rfl (by kernel_rfl)
            · rfl
            · have hda := HDA.out; have hdb := HDB.out; subst hda; subst hdb; exact pick_a ⟨HIA.out, by omega⟩ (fun hc => by have := hc.1.2; have := hc.2; omega) (hr5.weaken (by omega) (by simp [World.setCell] <;> omega) (Nat.le_refl _)) (hK2.set6 (Or.inr (Nat.le_refl _)) _ _ _ _ _ _)
          · go_wp2_with fail
            have hS := (Kept.refl [w.heap.size] (w2.alloc (.cells #[.int .u64 db.seq, .int .i64 db.sectors, .int .i64 db.journal, .int .i64 db.used, .int .i64 db.size, .slice pb db.runs.length cb] 25))).set6 (b := w.heap.size) (Or.inl (by simp)) (.int .u64 db.seq) (.int .i64 db.sectors) (.int .i64 db.journal) (.int .i64 db.used) (.int .i64 db.size) (.slice pb db.runs.length cb)
            have hr5 := hrb2.kept hS (fun x hx => by simp at hx; omega)
            refine bodyPost_ret (v := .tuple #[.agg #[.int .u64 db.seq, .int .i64 db.sectors, .int .i64 db.journal, .int .i64 db.used, .int .i64 db.size, .slice pb db.runs.length cb], .bool true]) ?_ ?_ ?_
            · exact ret_row_tmp Try.results19 rfl rfl (o2.set6 _ _ _ _ _ _) Try.underlying25 rfl (by kernel_rfl)
            · rfl
            · have hda := HDA.out; have hdb := HDB.out; subst hda; subst hdb; exact pick_b ⟨HIB.out, by omega⟩ (fun hc => by have := hc.1.2; have := hc.2; omega) (hr5.weaken (by omega) (by simp [World.setCell] <;> omega) (Nat.le_refl _)) (hK2.set6 (Or.inr (Nat.le_refl _)) _ _ _ _ _ _)
      · rcases (by omega : (db.seq : Int) % 2 = 0 ∨ (db.seq : Int) % 2 = 1) with hpb | hpb
        · go_wp2_with fail
          refine bodyPost_ret (v := .tuple #[.agg #[.int .u64 0, .int .i64 0, .int .i64 0, .int .i64 0, .int .i64 0, .slice none 0 0], .bool false]) ?_ ?_ ?_
          · exact ret_row_tmp Try.results19 rfl rfl (o2.set6 _ _ _ _ _ _) Try.underlying25 rfl (by kernel_rfl)
          · rfl
          · have hda := HDA.out; have hdb := HDB.out; subst hda; subst hdb; exact pick_none (fun hc => by have := hc.2; omega) (fun hc => by have := hc.2; omega) (hK2.set6 (Or.inr (Nat.le_refl _)) _ _ _ _ _ _)
        · go_wp2_with fail
          have hS := (Kept.refl [w.heap.size] (w2.alloc (.cells #[.int .u64 db.seq, .int .i64 db.sectors, .int .i64 db.journal, .int .i64 db.used, .int .i64 db.size, .slice pb db.runs.length cb] 25))).set6 (b := w.heap.size) (Or.inl (by simp)) (.int .u64 db.seq) (.int .i64 db.sectors) (.int .i64 db.journal) (.int .i64 db.used) (.int .i64 db.size) (.slice pb db.runs.length cb)
          have hr5 := hrb2.kept hS (fun x hx => by simp at hx; omega)
          refine bodyPost_ret (v := .tuple #[.agg #[.int .u64 db.seq, .int .i64 db.sectors, .int .i64 db.journal, .int .i64 db.used, .int .i64 db.size, .slice pb db.runs.length cb], .bool true]) ?_ ?_ ?_
          · exact ret_row_tmp Try.results19 rfl rfl (o2.set6 _ _ _ _ _ _) Try.underlying25 rfl (by kernel_rfl)
          · rfl
          · have hda := HDA.out; have hdb := HDB.out; subst hda; subst hdb; exact pick_b ⟨HIB.out, by omega⟩ (fun hc => by have := hc.1.2; have := hc.2; omega) (hr5.weaken (by omega) (by simp [World.setCell] <;> omega) (Nat.le_refl _)) (hK2.set6 (Or.inr (Nat.le_refl _)) _ _ _ _ _ _)
    · have hw2 := hk2.size
      simp only [World.size_alloc] at hw2
      unfold SB.cells zeroSB
      have HIB := Lib.hid hib
      clear hib
      have o2 := (hk2.own o1 (by simp)).alloc (.cells #[.int .u64 0, .int .i64 0, .int .i64 0, .int .i64 0, .int .i64 0, .slice none 0 0] 25)
      have ox2 := (hk2.own ox (by simp)).alloc (.cells #[.int .u64 0, .int .i64 0, .int .i64 0, .int .i64 0, .int .i64 0, .slice none 0 0] 25)
      have oy := Own.new w2 #[.int .u64 0, .int .i64 0, .int .i64 0, .int .i64 0, .int .i64 0, .slice none 0 0] 25
      have hK2 := (hK1.trans hk2).alloc (.cells #[.int .u64 0, .int .i64 0, .int .i64 0, .int .i64 0, .int .i64 0, .slice none 0 0] 25)
      have hra2 := hra1.kept0 (hk2.alloc (.cells #[.int .u64 0, .int .i64 0, .int .i64 0, .int .i64 0, .int .i64 0, .slice none 0 0] 25))
      obtain ⟨z0, z1, z2, z3, z4, z5⟩ := o2.c6
      have zz := o2.z6
      obtain ⟨x0, x1, x2, x3, x4, x5⟩ := ox2.c6
      obtain ⟨y0, y1, y2, y3, y4, y5⟩ := oy.c6
      clear hh hk2 hra1 HGA HGB HQ
      rcases (by omega : (da.seq : Int) % 2 = 0 ∨ (da.seq : Int) % 2 = 1) with hpa | hpa
      · go_wp2_with fail
        have hS := (Kept.refl [w.heap.size] (w2.alloc (.cells #[.int .u64 0, .int .i64 0, .int .i64 0, .int .i64 0, .int .i64 0, .slice none 0 0] 25))).set6 (b := w.heap.size) (Or.inl (by simp)) (.int .u64 da.seq) (.int .i64 da.sectors) (.int .i64 da.journal) (.int .i64 da.used) (.int .i64 da.size) (.slice pa da.runs.length ca)
        have hr5 := hra2.kept hS (fun x hx => by simp at hx; omega)
        refine bodyPost_ret (v := .tuple #[.agg #[.int .u64 da.seq, .int .i64 da.sectors, .int .i64 da.journal, .int .i64 da.used, .int .i64 da.size, .slice pa da.runs.length ca], .bool true]) ?_ ?_ ?_
        · exact ret_row_tmp Try.results19 rfl rfl (o2.set6 _ _ _ _ _ _) Try.underlying25 rfl (by kernel_rfl)
        · rfl
        · have hda := HDA.out; subst hda; exact pick_a ⟨HIA.out, by omega⟩ (fun hc => HIB.out hc.1.1) (hr5.weaken (by omega) (by simp [World.setCell] <;> omega) (Nat.le_refl _)) (hK2.set6 (Or.inr (Nat.le_refl _)) _ _ _ _ _ _)
      · go_wp2_with fail
        refine bodyPost_ret (v := .tuple #[.agg #[.int .u64 0, .int .i64 0, .int .i64 0, .int .i64 0, .int .i64 0, .slice none 0 0], .bool false]) ?_ ?_ ?_
        · exact ret_row_tmp Try.results19 rfl rfl (o2.set6 _ _ _ _ _ _) Try.underlying25 rfl (by kernel_rfl)
        · rfl
        · have hda := HDA.out; subst hda; exact pick_none (fun hc => by have := hc.2; omega) (fun hc => HIB.out hc.1) (hK2.set6 (Or.inr (Nat.le_refl _)) _ _ _ _ _ _)
  · unfold SB.cells zeroSB
    have HIA := Lib.hid hia
    clear hia
    have o1 := (hk1.own o (by simp)).alloc (.cells #[.int .u64 0, .int .i64 0, .int .i64 0, .int .i64 0, .int .i64 0, .slice none 0 0] 25)
    have ox := Own.new w1 #[.int .u64 0, .int .i64 0, .int .i64 0, .int .i64 0, .int .i64 0, .slice none 0 0] 25
    have hK1 := (((Kept.refl _ w).alloc (.cells #[.int .u64 0, .int .i64 0, .int .i64 0, .int .i64 0, .int .i64 0, .slice none 0 0] 25)).trans hk1).alloc (.cells #[.int .u64 0, .int .i64 0, .int .i64 0, .int .i64 0, .int .i64 0, .slice none 0 0] 25)
    have hw1 : w.heap.size < w1.heap.size := by have := hk1.size; simp at this; omega
    clear hk1 o hh
    go_wp2_with fail
    refine (HGB.out _).mono ?_; rintro e w2 hh
    rcases getSays_any hh with ⟨vb, hib, rfl, hrb, hk2⟩ | ⟨hib, rfl, hk2⟩
    · have hw2 := hk2.size
      simp only [World.size_alloc] at hw2
      obtain ⟨pb, cb, rfl⟩ := hrb.shape
      unfold SB.cells
      have hqb := HQ.out b
      have HIB := Lib.hid hib
      clear hib
      generalize hdb : dec b = db at *
      have HDB := Lib.hid hdb
      clear hdb
      have o2 := (hk2.own o1 (by simp)).alloc (.cells #[.int .u64 db.seq, .int .i64 db.sectors, .int .i64 db.journal, .int .i64 db.used, .int .i64 db.size, .slice pb db.runs.length cb] 25)
      have ox2 := (hk2.own ox (by simp)).alloc (.cells #[.int .u64 db.seq, .int .i64 db.sectors, .int .i64 db.journal, .int .i64 db.used, .int .i64 db.size, .slice pb db.runs.length cb] 25)
      have oy := Own.new w2 #[.int .u64 db.seq, .int .i64 db.sectors, .int .i64 db.journal, .int .i64 db.used, .int .i64 db.size, .slice pb db.runs.length cb] 25
      have hK2 := (hK1.trans hk2).alloc (.cells #[.int .u64 db.seq, .int .i64 db.sectors, .int .i64 db.journal, .int .i64 db.used, .int .i64 db.size, .slice pb db.runs.length cb] 25)
      have hrb2 := (RunsIn.kept0 hrb ((Kept.refl _ _).alloc (.cells #[.int .u64 db.seq, .int .i64 db.sectors, .int .i64 db.journal, .int .i64 db.used, .int .i64 db.size, .slice pb db.runs.length cb] 25))).weaken (lo' := w.heap.size + 1) (hi' := w2.heap.size) (by simp; omega) (Nat.le_refl _) (by simp)
      obtain ⟨z0, z1, z2, z3, z4, z5⟩ := o2.c6
      have zz := o2.z6
      obtain ⟨x0, x1, x2, x3, x4, x5⟩ := ox2.c6
      obtain ⟨y0, y1, y2, y3, y4, y5⟩ := oy.c6
      clear hh hk2 hrb HGA HGB HQ
      rcases (by omega : (db.seq : Int) % 2 = 0 ∨ (db.seq : Int) % 2 = 1) with hpb | hpb
      · go_wp2_with fail
        refine bodyPost_ret (v := .tuple #[.agg #[.int .u64 0, .int .i64 0, .int .i64 0, .int .i64 0, .int .i64 0, .slice none 0 0], .bool false]) ?_ ?_ ?_
        · exact ret_row_tmp Try.results19 rfl rfl (o2.set6 _ _ _ _ _ _) Try.underlying25 rfl (by kernel_rfl)
        · rfl
        · have hdb := HDB.out; subst hdb; exact pick_none (fun hc => HIA.out hc.1) (fun hc => by have := hc.2; omega) (hK2.set6 (Or.inr (Nat.le_refl _)) _ _ _ _ _ _)
      · go_wp2_with fail
        have hS := (Kept.refl [w.heap.size] (w2.alloc (.cells #[.int .u64 db.seq, .int .i64 db.sectors, .int .i64 db.journal, .int .i64 db.used, .int .i64 db.size, .slice pb db.runs.length cb] 25))).set6 (b := w.heap.size) (Or.inl (by simp)) (.int .u64 db.seq) (.int .i64 db.sectors) (.int .i64 db.journal) (.int .i64 db.used) (.int .i64 db.size) (.slice pb db.runs.length cb)
        have hr5 := hrb2.kept hS (fun x hx => by simp at hx; omega)
        refine bodyPost_ret (v := .tuple #[.agg #[.int .u64 db.seq, .int .i64 db.sectors, .int .i64 db.journal, .int .i64 db.used, .int .i64 db.size, .slice pb db.runs.length cb], .bool true]) ?_ ?_ ?_
        · exact ret_row_tmp Try.results19 rfl rfl (o2.set6 _ _ _ _ _ _) Try.underlying25 rfl (by kernel_rfl)
        · rfl
        · have hdb := HDB.out; subst hdb; exact pick_b ⟨HIB.out, by omega⟩ (fun hc => HIA.out hc.1.1) (hr5.weaken (by omega) (by simp [World.setCell] <;> omega) (Nat.le_refl _)) (hK2.set6 (Or.inr (Nat.le_refl _)) _ _ _ _ _ _)
    · have hw2 := hk2.size
      simp only [World.size_alloc] at hw2
      unfold SB.cells zeroSB
      have HIB := Lib.hid hib
      clear hib
      have o2 := (hk2.own o1 (by simp)).alloc (.cells #[.int .u64 0, .int .i64 0, .int .i64 0, .int .i64 0, .int .i64 0, .slice none 0 0] 25)
      have ox2 := (hk2.own ox (by simp)).alloc (.cells #[.int .u64 0, .int .i64 0, .int .i64 0, .int .i64 0, .int .i64 0, .slice none 0 0] 25)
      have oy := Own.new w2 #[.int .u64 0, .int .i64 0, .int .i64 0, .int .i64 0, .int .i64 0, .slice none 0 0] 25
      have hK2 := (hK1.trans hk2).alloc (.cells #[.int .u64 0, .int .i64 0, .int .i64 0, .int .i64 0, .int .i64 0, .slice none 0 0] 25)
      obtain ⟨z0, z1, z2, z3, z4, z5⟩ := o2.c6
      have zz := o2.z6
      obtain ⟨x0, x1, x2, x3, x4, x5⟩ := ox2.c6
      obtain ⟨y0, y1, y2, y3, y4, y5⟩ := oy.c6
      clear hh hk2 HGA HGB HQ
      go_wp2_with fail
      refine bodyPost_ret (v := .tuple #[.agg #[.int .u64 0, .int .i64 0, .int .i64 0, .int .i64 0, .int .i64 0, .slice none 0 0], .bool false]) ?_ ?_ ?_
      · exact ret_row_tmp Try.results19 rfl rfl (o2.set6 _ _ _ _ _ _) Try.underlying25 rfl (by kernel_rfl)
      · rfl
      · exact pick_none (fun hc => HIA.out hc.1) (fun hc => HIB.out hc.1) (hK2.set6 (Or.inr (Nat.le_refl _)) _ _ _ _ _ _)
end Go.Proofs.Ytpdmnjcklpklnaa

