/- Walks of the reference of layer 11 (super): which superblocks may be. -/
import Derived.Test.YtpdmnjcklpklnaaR4
import Derived.Test.YtpdmnjcklpklnaaMem3
import Derived.IntWalk
import Derived.Deep.RegionHeld3
namespace Go.Proofs.Ytpdmnjcklpklnaa
open Go.RowKit
set_option linter.unusedVariables false
set_option linter.unusedSimpArgs false

/-- what May says of a superblock. -/
def MaySays (s : SB) (w : World) (e : Ending) (w' : World) : Prop := ((s.may ∧ e = .returned (.bool true)) ∨ (¬ s.may ∧ e = .returned (.bool false))) ∧ Kept [] w w'

set_option maxRecDepth 100000 in
set_option maxHeartbeats 4000000 in
theorem rmay (s : SB) (v : Value) (lo hi : Nat) (w : World) (h : RunsIn w v s.runs lo hi) (hl : s.runs.length ≤ 1000000) :
    Calls Try.prog 11 #[.agg (s.cells v)] w (MaySays s w) := by
  by_cases hno : s.numOk
  · have hc := s.num_cases
    rcases hc with ⟨hy, _⟩ | ⟨_, g1, g2, g3, g4, g5, g6, g7, g8, g9, g10⟩
    · exact absurd hno hy
    · have o := Own.new w (s.cells v) 25
      have hR := fun W (hk : Kept [] (w.alloc (.cells (s.cells v) 25)) W) => (rruns v s.runs lo hi (2 + s.journal) s.sectors W (h.kept0 (((Kept.refl _ _).alloc _).trans hk)) hl (by omega) (by omega) (by omega) g3).mono fun e w' hh => (show e = .returned (.bool (lies (2 + s.journal) s.sectors s.runs && decide (s.runs.length ≤ 16))) ∧ Kept [] (w.alloc (.cells (s.cells v) 25)) w' from ⟨hh.1, hk.trans hh.2⟩)
      have hS := fun W (hL : lies (2 + s.journal) s.sectors s.runs = true) (hk : Kept [] (w.alloc (.cells (s.cells v) 25)) W) => rsumlen v s.runs lo hi (2 + s.journal) s.sectors W (h.kept0 (((Kept.refl _ _).alloc _).trans hk)) hl hL (by omega) g3
      have hN := fun w => rneed s.size w (by simp only [Lit.wf, Bool.and_eq_true, decide_eq_true_eq]; exact ⟨by show (-9223372036854775808 : Int) ≤ _; omega, by show _ ≤ (9223372036854775807 : Int); omega⟩)
      have e16 : decide (s.runs.length ≤ 16) = true := decide_eq_true g10
      rw [e16] at hR
      have hyes : lies (2 + s.journal) s.sectors s.runs = true → sumLen s.runs = need s.size → s.may := fun a b => ⟨hno, a, b⟩
      have hn1 : lies (2 + s.journal) s.sectors s.runs = false → ¬ s.may := fun a hm => by rw [hm.2.1] at a; cases a
      have hn2 : sumLen s.runs ≠ need s.size → ¬ s.may := fun a hm => a hm.2.2
      have HY := Lib.hid hyes
      have HN1 := Lib.hid hn1
      have HN2 := Lib.hid hn2
      obtain ⟨p, c, rfl⟩ := h.shape
      clear hyes hn1 hn2 hno e16 h
      unfold SB.cells at *
      generalize s.seq = sq at *
      generalize s.sectors = a at *
      generalize s.journal = b at *
      generalize s.used = u at *
      generalize s.size = z at *
      generalize s.runs = l at *
      have hW0 : Kept [] w (w.alloc (.cells #[.int .u64 (sq : Int), .int .i64 a, .int .i64 b, .int .i64 u, .int .i64 z, .slice p l.length c] 25)) := (Kept.refl _ _).alloc _
      cases hL : lies (2 + b) a l
      · rw [hL] at hR
        have HX := Lib.hid (HN1.out hL)
        have HR := Lib.hid hR
        have hw : IntKind.i64.wrap (2 + b) = 2 + b := IntWalk.i64_in _ (by omega)
        clear hL hS hN hR
        go_enter Try.func11, Try.ntmps11
        go_wp2_with fail
        first | (go_region_with (go_at_call 27; ((with_reducible refine (HR.out _ ?_).mono ?_)); (first | exact Kept.refl _ _ | exact (Kept.refl _ _).drew | exact (Kept.refl _ _).drewN _); rintro e w1 ⟨rfl, hk1⟩; obtain ⟨d0, d1, d2, d3, d4, d5⟩ := (hk1.own o (by simp)).c6)) | fail
        all_goals go_wp2_with fail
        all_goals go_ret
        all_goals exact ⟨Or.inr ⟨HX.out, rfl⟩, hW0.trans (by first | exact hk1 | exact hk1.drew | exact hk1.drewN _)⟩
      · rw [hL] at hR
        have HS := Lib.hid (fun W => hS W hL)
        have HR := Lib.hid hR
        have hw : IntKind.i64.wrap (2 + b) = 2 + b := IntWalk.i64_in _ (by omega)
        obtain ⟨d0, d1, d2, d3, d4, d5⟩ := o.c6
        by_cases hq : sumLen l = need z
        · have HX := Lib.hid (HY.out hL hq)
          have hq2 : (sumLen l == need z) = true := by simpa using hq
          clear hL hS hR hq
          generalize sumLen l = m at *
          generalize need z = n at *
          go_enter Try.func11, Try.ntmps11
          go_wp2_with fail
          go_region_held3 (fun w' => w'.cell? ⟨w.heap.size, 1, none⟩ = some (.int .i64 a) ∧ w'.cell? ⟨w.heap.size, 2, none⟩ = some (.int .i64 b) ∧ w'.cell? ⟨w.heap.size, 4, none⟩ = some (.int .i64 z) ∧ w'.cell? ⟨w.heap.size, 5, none⟩ = some (.slice p l.length c)) (first | go_keep | (refine ⟨?_, ?_, ?_, ?_⟩ <;> assumption))
            (first
              | (go_at_call 27; ((with_reducible refine (HR.out _ ?_).mono ?_)); (first | exact Kept.refl _ _ | exact (Kept.refl _ _).drew | exact (Kept.refl _ _).drewN _); rintro e w1 ⟨rfl, hk1⟩; obtain ⟨d0, d1, d2, d3, d4, d5⟩ := (hk1.own o (by simp)).c6)
              | (go_at_call 28; ((with_reducible refine (HS.out _ ?_).mono ?_)); (first | exact hk1 | exact hk1.drew | exact hk1.drewN _); rintro e w' ⟨rfl, rfl⟩)
              | (go_at_call 23; ((with_reducible refine (hN _).mono ?_)); rintro e w' ⟨rfl, rfl⟩))
          all_goals go_wp2_with fail
          all_goals go_ret
          all_goals exact ⟨Or.inl ⟨HX.out, rfl⟩, hW0.trans (by first | exact hk1 | exact hk1.drew | exact hk1.drewN _)⟩
        · have HX := Lib.hid (HN2.out hq)
          have hq2 : (sumLen l == need z) = false := by simpa using hq
          clear hL hS hR hq
          generalize sumLen l = m at *
          generalize need z = n at *
          go_enter Try.func11, Try.ntmps11
          go_wp2_with fail
          go_region_held3 (fun w' => w'.cell? ⟨w.heap.size, 1, none⟩ = some (.int .i64 a) ∧ w'.cell? ⟨w.heap.size, 2, none⟩ = some (.int .i64 b) ∧ w'.cell? ⟨w.heap.size, 4, none⟩ = some (.int .i64 z) ∧ w'.cell? ⟨w.heap.size, 5, none⟩ = some (.slice p l.length c)) (first | go_keep | (refine ⟨?_, ?_, ?_, ?_⟩ <;> assumption))
            (first
              | (go_at_call 27; ((with_reducible refine (HR.out _ ?_).mono ?_)); (first | exact Kept.refl _ _ | exact (Kept.refl _ _).drew | exact (Kept.refl _ _).drewN _); rintro e w1 ⟨rfl, hk1⟩; obtain ⟨d0, d1, d2, d3, d4, d5⟩ := (hk1.own o (by simp)).c6)
              | (go_at_call 28; ((with_reducible refine (HS.out _ ?_).mono ?_)); (first | exact hk1 | exact hk1.drew | exact hk1.drewN _); rintro e w' ⟨rfl, rfl⟩)
              | (go_at_call 23; ((with_reducible refine (hN _).mono ?_)); rintro e w' ⟨rfl, rfl⟩))
          all_goals go_wp2_with fail
          all_goals go_ret
          all_goals exact ⟨Or.inr ⟨HX.out, rfl⟩, hW0.trans (by first | exact hk1 | exact hk1.drew | exact hk1.drewN _)⟩
  · exact (rmay_no s v lo hi w h hno hl).mono fun e w' hh => ⟨Or.inr ⟨fun hm => hno hm.1, hh.1⟩, hh.2⟩
end Go.Proofs.Ytpdmnjcklpklnaa
