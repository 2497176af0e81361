/- Walks of chapter 11's statements: sectors needed; which sectors are superblocks'; which of two counts. -/
import Derived.Test.YtpdmnjcklpklnaaR19
namespace Go.Proofs.Ytpdmnjcklpklnaa
open Go.RowKit
set_option linter.unusedVariables false
set_option linter.unusedSimpArgs false

set_option maxRecDepth 100000 in
set_option maxHeartbeats 1000000 in
theorem needsLaw (a q : Int) (w : World) (ha : (Lit.int .i64 a).wf = true) (hq : (Lit.int .u64 q).wf = true) :
    Calls Try.prog 7 #[.int .i64 a, .int .u64 q] w fun e w' => e = .returned (.bool true) ∧ Below w.heap.size w w' := by
  have hw0 : 0 ≤ q ∧ q ≤ 18446744073709551615 := by
    simp only [Lit.wf, Bool.and_eq_true, decide_eq_true_eq] at hq
    exact ⟨by have := hq.1; exact this, by have := hq.2; exact this⟩
  obtain ⟨n, rfl⟩ := Int.eq_ofNat_of_zero_le hw0.1
  have hs := fun W => pslot n W (by omega)
  have hm : (n : Int) % 2 = ((n % 2 : Nat) : Int) := by omega
  have hm1 : ((n % 2 : Nat) : Int) ≤ 1 := by omega
  generalize n % 2 = m at *
  have hp := fun W => pneed a W ha
  have hr := fun W => rneed a W ha
  generalize need a = t at *
  go_enter Try.func7, Try.ntmps7
  go_wp2_with fail
  refine (hp _).mono ?_; rintro e w' ⟨rfl, rfl⟩
  go_wp2_with fail
  refine (hr _).mono ?_; rintro e w' ⟨rfl, rfl⟩
  go_wp2_with fail
  refine (hs _).mono ?_; rintro e w' ⟨rfl, rfl⟩
  go_wp2_with fail
  refine (awakeS _).mono ?_; rintro e w' ⟨rfl, hk⟩
  go_wp2_with fail
  go_ret
  exact ⟨rfl, hk.below⟩

theorem dec_len (l : List UInt8) : (dec l).runs.length ≤ 1000000 := by
  have h := le_lt l 32 2
  rw [dec_runs_ok, decRuns_len]; omega
theorem pick_len (o : Option (List UInt8)) : (pickSB o).runs.length ≤ 1000000 := by
  cases o
  · exact Nat.zero_le _
  · exact dec_len _

set_option maxRecDepth 100000 in
set_option maxHeartbeats 2000000 in
theorem getsLaw (s : ByteArray) (w : World) (hs : s.size ≤ maxLen) :
    Calls Try.prog 4 #[.string s] w fun e w' => e = .returned (.bool true) ∧ Below w.heap.size w w' := by
  unfold maxLen at hs
  by_cases hl : s.size ≤ 1000
  · rw [← bs_of s] at *
    generalize s.data.toList = l at *
    have hl2 : l.length ≤ 1000000 := by rw [bs_size] at hl; omega
    have hp := fun W => pget l W hl2
    have hr := fun W => rget l W hl2
    have hn := dec_len l
    have hsame := fun va vb lo hi lo' hi' W h h' => rsame (dec l) (dec l) va vb lo hi lo' hi' W h h' hn hn
    have hsame0 := fun W => rsame zeroSB zeroSB (.slice none 0 0) (.slice none 0 0) 0 0 0 0 W (Or.inl ⟨rfl, _, _, rfl⟩) (Or.inl ⟨rfl, _, _, rfl⟩) (by decide) (by decide)
    rw [SB.same_self] at hsame hsame0
    have HP := Lib.hid hp
    have HR := Lib.hid hr
    have HS := Lib.hid hsame
    have HS0 := Lib.hid hsame0
    clear hp hr hsame hsame0 hn
    have hl' : ((bs l).size : Int) ≤ 1000 := by omega
    go_enter Try.func4, Try.ntmps4
    go_wp2_with fail
    refine (HP.out _).mono ?_; rintro e w1 hh
    rcases getSays_any hh with ⟨va, hia, rfl, hra, hk1⟩ | ⟨hia, rfl, hk1⟩
    · obtain ⟨pa, ca, rfl⟩ := hra.shape
      have HIA := Lib.hid hia
      clear hia hh
      unfold SB.cells at *
      have hs2 := HS.out
      unfold SB.cells at hs2
      generalize hd : dec l = d at *
      have ox := Own.new w1 #[.int .u64 d.seq, .int .i64 d.sectors, .int .i64 d.journal, .int .i64 d.used, .int .i64 d.size, .slice pa d.runs.length ca] 25
      have hK1 := hk1.alloc (.cells #[.int .u64 d.seq, .int .i64 d.sectors, .int .i64 d.journal, .int .i64 d.used, .int .i64 d.size, .slice pa d.runs.length ca] 25)
      have hra1 := RunsIn.kept0 hra ((Kept.refl _ _).alloc (.cells #[.int .u64 d.seq, .int .i64 d.sectors, .int .i64 d.journal, .int .i64 d.used, .int .i64 d.size, .slice pa d.runs.length ca] 25))
      have HS2 := Lib.hid hs2
      have HD := Lib.hid hd
      clear hs2 hra hk1 hd
      go_wp2_with fail
      refine (HR.out _).mono ?_; rintro e w2 hh
      rcases getSays_any hh with ⟨vb, hib, rfl, hrb, hk2⟩ | ⟨hib, rfl, hk2⟩
      · obtain ⟨pb, cb, rfl⟩ := hrb.shape
        have hd := HD.out
        unfold SB.cells
        rw [hd] at hrb ⊢
        have oy := Own.new w2 #[.int .u64 d.seq, .int .i64 d.sectors, .int .i64 d.journal, .int .i64 d.used, .int .i64 d.size, .slice pb d.runs.length cb] 25
        have ox2 := (hk2.own ox (by simp)).alloc (.cells #[.int .u64 d.seq, .int .i64 d.sectors, .int .i64 d.journal, .int .i64 d.used, .int .i64 d.size, .slice pb d.runs.length cb] 25)
        have hkk := hk2.alloc (.cells #[.int .u64 d.seq, .int .i64 d.sectors, .int .i64 d.journal, .int .i64 d.used, .int .i64 d.size, .slice pb d.runs.length cb] 25)
        have hra2 := hra1.kept0 hkk
        have hrb2 := RunsIn.kept0 hrb ((Kept.refl _ _).alloc (.cells #[.int .u64 d.seq, .int .i64 d.sectors, .int .i64 d.journal, .int .i64 d.used, .int .i64 d.size, .slice pb d.runs.length cb] 25))
        have hK2 := hK1.trans hkk
        obtain ⟨x0, x1, x2, x3, x4, x5⟩ := ox2.c6
        obtain ⟨y0, y1, y2, y3, y4, y5⟩ := oy.c6
        clear hh hd hrb hk2 hkk
        go_wp2_with fail
        refine (HS2.out _ _ _ _ _ _ _ hra2 hrb2).mono ?_; rintro e w3 ⟨rfl, hk3⟩
        go_wp2_with fail
        refine (awakeS _).mono ?_; rintro e w4 ⟨rfl, hk4⟩
        go_wp2_with fail
        go_ret
        exact ⟨rfl, ((hK2.trans hk3).trans hk4).below⟩
      · exact absurd HIA.out hib
    · have HIA := Lib.hid hia
      clear hia hh
      have hs2 := HS0.out
      unfold SB.cells zeroSB at *
      have ox := Own.new w1 #[.int .u64 0, .int .i64 0, .int .i64 0, .int .i64 0, .int .i64 0, .slice none 0 0] 25
      have hK1 := hk1.alloc (.cells #[.int .u64 0, .int .i64 0, .int .i64 0, .int .i64 0, .int .i64 0, .slice none 0 0] 25)
      have HS2 := Lib.hid hs2
      clear hs2 hk1
      go_wp2_with fail
      refine (HR.out _).mono ?_; rintro e w2 hh
      rcases getSays_any hh with ⟨vb, hib, rfl, hrb, hk2⟩ | ⟨hib, rfl, hk2⟩
      · exact absurd hib HIA.out
      · unfold SB.cells zeroSB
        have oy := Own.new w2 #[.int .u64 0, .int .i64 0, .int .i64 0, .int .i64 0, .int .i64 0, .slice none 0 0] 25
        have ox2 := (hk2.own ox (by simp)).alloc (.cells #[.int .u64 0, .int .i64 0, .int .i64 0, .int .i64 0, .int .i64 0, .slice none 0 0] 25)
        have hK2 := hK1.trans (hk2.alloc (.cells #[.int .u64 0, .int .i64 0, .int .i64 0, .int .i64 0, .int .i64 0, .slice none 0 0] 25))
        obtain ⟨x0, x1, x2, x3, x4, x5⟩ := ox2.c6
        obtain ⟨y0, y1, y2, y3, y4, y5⟩ := oy.c6
        clear hh hk2
        go_wp2_with fail
        refine (HS2.out _).mono ?_; rintro e w3 ⟨rfl, hk3⟩
        go_wp2_with fail
        refine (awakeS _).mono ?_; rintro e w4 ⟨rfl, hk4⟩
        go_wp2_with fail
        go_ret
        exact ⟨rfl, ((hK2.trans hk3).trans hk4).below⟩
  · have hl' : ¬ ((s.size : Int) ≤ 1000) := by omega
    go_enter Try.func4, Try.ntmps4
    go_wp2_with fail
    refine (awakeS _).mono ?_; rintro e w' ⟨rfl, hk⟩
    go_wp2_with fail
    go_ret
    exact ⟨rfl, hk.below⟩
end Go.Proofs.Ytpdmnjcklpklnaa
