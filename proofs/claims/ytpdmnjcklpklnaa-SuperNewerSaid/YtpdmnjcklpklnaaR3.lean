/- Walks of layer 11 (super): which superblocks may be. -/
import Derived.Test.YtpdmnjcklpklnaaR2
namespace Go.Proofs.Ytpdmnjcklpklnaa
open Go.RowKit
set_option linter.unusedVariables false
set_option linter.unusedSimpArgs false

/-- a superblock. -/
structure SB where
  seq : Nat
  sectors : Int
  journal : Int
  used : Int
  size : Int
  runs : List (Int × Int)
/-- its cells, where v is its slice of runs. -/
def SB.cells (s : SB) (v : Value) : Array Value := #[.int .u64 s.seq, .int .i64 s.sectors, .int .i64 s.journal, .int .i64 s.used, .int .i64 s.size, v]
/-- are its numbers such as may be? -/
def SB.numOk (s : SB) : Prop := 1 ≤ s.seq ∧ 4 ≤ s.sectors ∧ s.sectors ≤ 8192 ∧ 1 ≤ s.journal ∧ s.journal ≤ s.sectors - 2 ∧ 0 ≤ s.used ∧ s.used ≤ s.journal * 128 ∧ 0 ≤ s.size ∧ s.size ≤ 1048576 ∧ s.runs.length ≤ 16
/-- may it be? -/
def SB.may (s : SB) : Prop := s.numOk ∧ lies (2 + s.journal) s.sectors s.runs = true ∧ sumLen s.runs = need s.size
def SB.fits (s : SB) : Prop := s.seq < 18446744073709551616 ∧ (Lit.int .i64 s.sectors).wf = true ∧ (Lit.int .i64 s.journal).wf = true ∧ (Lit.int .i64 s.used).wf = true ∧ (Lit.int .i64 s.size).wf = true
theorem SB.num_cases (s : SB) : (¬ s.numOk ∧ ((s.seq < 1) ∨ (1 ≤ s.seq ∧ s.sectors < 4) ∨ (1 ≤ s.seq ∧ 4 ≤ s.sectors ∧ 8192 < s.sectors) ∨
    ((1 ≤ s.seq ∧ 4 ≤ s.sectors ∧ s.sectors ≤ 8192) ∧ ((s.journal < 1) ∨ (1 ≤ s.journal ∧ s.sectors - 2 < s.journal) ∨
    ((1 ≤ s.journal ∧ s.journal ≤ s.sectors - 2) ∧ ((s.used < 0) ∨ (0 ≤ s.used ∧ s.journal * 128 < s.used) ∨
    ((0 ≤ s.used ∧ s.used ≤ s.journal * 128) ∧ ((s.size < 0) ∨ (0 ≤ s.size ∧ 1048576 < s.size) ∨ (0 ≤ s.size ∧ s.size ≤ 1048576 ∧ 16 < s.runs.length))))))))) ∨
    (s.numOk ∧ 1 ≤ s.seq ∧ 4 ≤ s.sectors ∧ s.sectors ≤ 8192 ∧ 1 ≤ s.journal ∧ s.journal ≤ s.sectors - 2 ∧ 0 ≤ s.used ∧ s.used ≤ s.journal * 128 ∧ 0 ≤ s.size ∧ s.size ≤ 1048576 ∧ s.runs.length ≤ 16) := by
  by_cases h : s.numOk
  · exact Or.inr ⟨h, h⟩
  · refine Or.inl ⟨h, ?_⟩
    unfold SB.numOk at h
    omega
theorem need_bd {n : Int} (h0 : 0 ≤ n) (h : n ≤ 1048576) : 0 ≤ need n ∧ need n ≤ 8192 := by
  unfold need; split <;> omega

set_option maxRecDepth 100000 in
set_option maxHeartbeats 1600000 in
theorem pcheck_no (s : SB) (v : Value) (lo hi : Nat) (w : World) (h : RunsIn w v s.runs lo hi) (hno : ¬ s.numOk) (hl : s.runs.length ≤ 1000000) :
    Calls Try.prog 12 #[.agg (s.cells v)] w fun e w' => e = .returned (.int .i64 1) ∧ Kept [] w w' := by
  obtain ⟨p, c, rfl⟩ := h.shape
  have hc := s.num_cases
  obtain ⟨sq, a, b, u, z, l⟩ := s
  simp only [SB.cells] at *
  rcases hc with ⟨_, hc⟩ | ⟨hy, _⟩
  · clear h hno
    rcases hc with g1 | ⟨g1, g2⟩ | ⟨g1, g2, g3⟩ | ⟨⟨g1, g2, g3⟩, g4 | ⟨g4, g5⟩ | ⟨⟨g4, g5⟩, g6 | ⟨g6, g7⟩ | ⟨⟨g6, g7⟩, g8 | ⟨g8, g9⟩ | ⟨g8, g9, g10⟩⟩⟩⟩
    all_goals
      go_enter Try.func12, Try.ntmps12
      go_wp2_with fail
      go_ret
      exact ⟨rfl, (Kept.refl _ _).alloc _⟩
  · exact absurd hy hno

/-- what Check says of a superblock. -/
def CheckSays (s : SB) (w : World) (e : Ending) (w' : World) : Prop := ((s.may ∧ e = .returned (.int .i64 0)) ∨ (¬ s.may ∧ e = .returned (.int .i64 1))) ∧ Kept [] w w'

set_option maxRecDepth 100000 in
set_option maxHeartbeats 1600000 in
theorem pcheck (s : SB) (v : Value) (lo hi : Nat) (w : World) (h : RunsIn w v s.runs lo hi) (hl : s.runs.length ≤ 1000000) :
    Calls Try.prog 12 #[.agg (s.cells v)] w (CheckSays s w) := by
  by_cases hno : s.numOk
  · have hc := s.num_cases
    rcases hc with ⟨hy, _⟩ | ⟨_, g1, g2, g3, g4, g5, g6, g7, g8, g9, g10⟩
    · exact absurd hno hy
    · have hlie := fun w h => plie v s.runs lo hi (2 + s.journal) s.sectors w h hl (by omega) (by omega) (by omega) g3
      have hneed := fun w => pneed s.size w (by simp only [Lit.wf, Bool.and_eq_true, decide_eq_true_eq]; exact ⟨by show (-9223372036854775808 : Int) ≤ _; omega, by show _ ≤ (9223372036854775807 : Int); omega⟩)
      have hyes : lies (2 + s.journal) s.sectors s.runs = true → sumLen s.runs = need s.size → s.may := fun a b => ⟨hno, a, b⟩
      have hn1 : lies (2 + s.journal) s.sectors s.runs = false → ¬ s.may := fun a hm => by rw [hm.2.1] at a; cases a
      have hn2 : sumLen s.runs ≠ need s.size → ¬ s.may := fun a hm => a hm.2.2
      have HY := Lib.hid hyes
      have HN1 := Lib.hid hn1
      have HN2 := Lib.hid hn2
      obtain ⟨p, c, rfl⟩ := h.shape
      clear hyes hn1 hn2 hno
      unfold SB.cells
      generalize s.seq = sq at *
      generalize s.sectors = a at *
      generalize s.journal = b at *
      generalize s.used = u at *
      generalize s.size = z at *
      generalize s.runs = l at *
      have hk0 : ∀ w', Kept [] w w' → RunsIn w' (.slice p l.length c) l lo hi := fun w' hk => h.kept0 hk
      clear h
      have HK := Lib.hid hk0
      clear hk0
      go_enter Try.func12, Try.ntmps12
      have o := Own.new w #[.int .u64 (sq : Int), .int .i64 a, .int .i64 b, .int .i64 u, .int .i64 z, .slice p l.length c] 25
      go_wp2_with fail
      refine (hlie _ (HK.out _ ((Kept.refl _ _).alloc _))).mono ?_; rintro e w1 ⟨rfl, hk⟩
      have o1 := hk.own o (by simp)
      have c4 := o1.cell 4 (by simp)
      simp only [List.getElem_toArray, List.getElem_cons_succ, List.getElem_cons_zero] at c4
      cases hL : lies (2 + b) a l
      · have HX := Lib.hid (HN1.out hL)
        rw [if_neg (by simp)]
        clear hL hlie hneed
        go_wp2_with fail
        go_ret
        exact ⟨Or.inr ⟨HX.out, rfl⟩, ((Kept.refl _ _).alloc _).trans hk⟩
      · rw [if_pos rfl]
        by_cases hq : sumLen l = need z
        · have HX := Lib.hid (HY.out hL hq)
          have hq2 : (sumLen l == need z) = true := by simpa using hq
          clear hL hlie hq
          generalize sumLen l = m at *
          generalize need z = n at *
          go_wp2_with fail
          refine (hneed _).mono ?_; rintro e w2 ⟨rfl, rfl⟩
          go_wp2_with fail
          go_ret
          exact ⟨Or.inl ⟨HX.out, rfl⟩, ((Kept.refl _ _).alloc _).trans hk⟩
        · have HX := Lib.hid (HN2.out hq)
          have hq2 : (sumLen l == need z) = false := by simpa using hq
          clear hL hlie hq
          generalize sumLen l = m at *
          generalize need z = n at *
          go_wp2_with fail
          refine (hneed _).mono ?_; rintro e w2 ⟨rfl, rfl⟩
          go_wp2_with fail
          go_ret
          exact ⟨Or.inr ⟨HX.out, rfl⟩, ((Kept.refl _ _).alloc _).trans hk⟩
  · exact (pcheck_no s v lo hi w h hno hl).mono fun e w' hh => ⟨Or.inr ⟨fun hm => hno hm.1, hh.1⟩, hh.2⟩
end Go.Proofs.Ytpdmnjcklpklnaa
