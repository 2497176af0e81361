/- Walks of chapter 11's statements: which of two sectors counts. -/
import Derived.Test.YtpdmnjcklpklnaaR20
namespace Go.Proofs.Ytpdmnjcklpklnaa
open Go.RowKit
set_option linter.unusedVariables false
set_option linter.unusedSimpArgs false

set_option maxRecDepth 100000 in
set_option maxHeartbeats 2000000 in
theorem picksLaw (s t : ByteArray) (w : World) (hs : s.size ≤ maxLen) (ht : t.size ≤ maxLen) :
    Calls Try.prog 5 #[.string s, .string t] w fun e w' => e = .returned (.bool true) ∧ Below w.heap.size w w' := by
  unfold maxLen at hs ht
  by_cases hl : s.size ≤ 1000 ∧ t.size ≤ 1000
  · obtain ⟨hl, hm⟩ := hl
    rw [← bs_of s, ← bs_of t] at *
    generalize s.data.toList = a at *
    generalize t.data.toList = b at *
    have ha : a.length ≤ 1000000 := by rw [bs_size] at hl; omega
    have hb : b.length ≤ 1000000 := by rw [bs_size] at hm; omega
    have HP := Lib.hid (fun W => ppick a b W ha hb)
    have HR := Lib.hid (fun W => rpick a b W ha hb)
    have hl' : ((bs a).size : Int) ≤ 1000 := by omega
    have hm' : ((bs b).size : Int) ≤ 1000 := by omega
    clear hl hm hs ht
    go_enter Try.func5, Try.ntmps5
    go_wp2_with fail
    refine (HP.out _).mono ?_; rintro e w1 hh
    obtain ⟨⟨o, va, ho, rfl, hra⟩, hk1⟩ := hh
    obtain ⟨pa, ca, rfl⟩ := hra.shape
    have hn := pick_len o
    have hrr : ∀ W, Calls Try.prog 19 #[.string (bs a), .string (bs b)] W fun e w' => ∃ pb cb, e = .returned (.tuple #[.agg ((pickSB o).cells (.slice pb (pickSB o).runs.length cb)), .bool o.isSome]) ∧ RunsIn w' (.slice pb (pickSB o).runs.length cb) (pickSB o).runs W.heap.size w'.heap.size ∧ Kept [] W w' := fun W => (HR.out W).mono fun e w' h => by
      obtain ⟨⟨o', v', ho', h1, h2⟩, hk⟩ := h
      have := ho'.uniq ho; subst this
      obtain ⟨pb, cb, rfl⟩ := h2.shape
      refine ⟨pb, cb, ?_, h2, hk⟩
      rw [h1]; cases o' <;> rfl
    have hsame := fun va vb lo hi lo' hi' W h h' => rsame (pickSB o) (pickSB o) va vb lo hi lo' hi' W h h' hn hn
    rw [SB.same_self] at hsame
    unfold SB.cells at *
    generalize pickSB o = d at *
    have HRR := Lib.hid hrr
    have HS2 := Lib.hid hsame
    clear hrr hsame hn HP HR ho
    have ox := Own.new w1 #[.int .u64 d.seq, .int .i64 d.sectors, .int .i64 d.journal, .int .i64 d.used, .int .i64 d.size, .slice pa d.runs.length ca] 25
    have hK1 := hk1.alloc (.cells #[.int .u64 d.seq, .int .i64 d.sectors, .int .i64 d.journal, .int .i64 d.used, .int .i64 d.size, .slice pa d.runs.length ca] 25)
    have hra1 := RunsIn.kept0 hra ((Kept.refl _ _).alloc (.cells #[.int .u64 d.seq, .int .i64 d.sectors, .int .i64 d.journal, .int .i64 d.used, .int .i64 d.size, .slice pa d.runs.length ca] 25))
    clear hra hk1
    cases hb : o.isSome
    · rw [hb] at HRR
      simp only [Bool.false_eq_true, if_false]
      clear hb
      go_wp2_with fail
      refine (HRR.out _).mono ?_; rintro e w2 ⟨pb, cb, rfl, hrb, hk2⟩
      have oy := Own.new w2 #[.int .u64 d.seq, .int .i64 d.sectors, .int .i64 d.journal, .int .i64 d.used, .int .i64 d.size, .slice pb d.runs.length cb] 25
      have ox2 := (hk2.own ox (by simp)).alloc (.cells #[.int .u64 d.seq, .int .i64 d.sectors, .int .i64 d.journal, .int .i64 d.used, .int .i64 d.size, .slice pb d.runs.length cb] 25)
      have hkk := hk2.alloc (.cells #[.int .u64 d.seq, .int .i64 d.sectors, .int .i64 d.journal, .int .i64 d.used, .int .i64 d.size, .slice pb d.runs.length cb] 25)
      have hra2 := hra1.kept0 hkk
      have hrb2 := RunsIn.kept0 hrb ((Kept.refl _ _).alloc (.cells #[.int .u64 d.seq, .int .i64 d.sectors, .int .i64 d.journal, .int .i64 d.used, .int .i64 d.size, .slice pb d.runs.length cb] 25))
      have hK2 := hK1.trans hkk
      obtain ⟨x0, x1, x2, x3, x4, x5⟩ := ox2.c6
      obtain ⟨y0, y1, y2, y3, y4, y5⟩ := oy.c6
      clear hrb hk2 hkk
      go_wp2_with fail
      refine (HS2.out _ _ _ _ _ _ _ hra2 hrb2).mono ?_; rintro e w3 ⟨rfl, hk3⟩
      go_wp2_with fail
      refine (awakeS _).mono ?_; rintro e w4 ⟨rfl, hk4⟩
      go_wp2_with fail
      go_ret
      exact ⟨rfl, ((hK2.trans hk3).trans hk4).below⟩
    · rw [hb] at HRR
      simp only [if_true]
      clear hb
      go_wp2_with fail
      refine (HRR.out _).mono ?_; rintro e w2 ⟨pb, cb, rfl, hrb, hk2⟩
      have oy := Own.new w2 #[.int .u64 d.seq, .int .i64 d.sectors, .int .i64 d.journal, .int .i64 d.used, .int .i64 d.size, .slice pb d.runs.length cb] 25
      have ox2 := (hk2.own ox (by simp)).alloc (.cells #[.int .u64 d.seq, .int .i64 d.sectors, .int .i64 d.journal, .int .i64 d.used, .int .i64 d.size, .slice pb d.runs.length cb] 25)
      have hkk := hk2.alloc (.cells #[.int .u64 d.seq, .int .i64 d.sectors, .int .i64 d.journal, .int .i64 d.used, .int .i64 d.size, .slice pb d.runs.length cb] 25)
      have hra2 := hra1.kept0 hkk
      have hrb2 := RunsIn.kept0 hrb ((Kept.refl _ _).alloc (.cells #[.int .u64 d.seq, .int .i64 d.sectors, .int .i64 d.journal, .int .i64 d.used, .int .i64 d.size, .slice pb d.runs.length cb] 25))
      have hK2 := hK1.trans hkk
      obtain ⟨x0, x1, x2, x3, x4, x5⟩ := ox2.c6
      obtain ⟨y0, y1, y2, y3, y4, y5⟩ := oy.c6
      clear hrb hk2 hkk
      go_wp2_with fail
      refine (HS2.out _ _ _ _ _ _ _ hra2 hrb2).mono ?_; rintro e w3 ⟨rfl, hk3⟩
      go_wp2_with fail
      refine (awakeS _).mono ?_; rintro e w4 ⟨rfl, hk4⟩
      go_wp2_with fail
      go_ret
      exact ⟨rfl, ((hK2.trans hk3).trans hk4).below⟩
  · have hl' : ((s.size : Int) ≤ 1000 ∧ ¬ ((t.size : Int) ≤ 1000)) ∨ ¬ ((s.size : Int) ≤ 1000) := by omega
    go_enter Try.func5, Try.ntmps5
    rcases hl' with ⟨h1, h2⟩ | h1
    · go_wp2_with fail
      refine (awakeS _).mono ?_; rintro e w' ⟨rfl, hk⟩
      go_wp2_with fail
      go_ret
      exact ⟨rfl, hk.below⟩
    · go_wp2_with fail
      refine (awakeS _).mono ?_; rintro e w' ⟨rfl, hk⟩
      go_wp2_with fail
      go_ret
      exact ⟨rfl, hk.below⟩
end Go.Proofs.Ytpdmnjcklpklnaa

