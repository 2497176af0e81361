/- Walks of chapter 11's statements: which superblocks may be; there and back. -/
import Derived.Test.YtpdmnjcklpklnaaR20
import Derived.Deep.RegionHeld3
namespace Go.Proofs.Ytpdmnjcklpklnaa
open Go.RowKit
set_option linter.unusedVariables false
set_option linter.unusedSimpArgs false

set_option maxRecDepth 100000 in
theorem fewS (s : SB) (v : Value) (lo hi : Nat) (w : World) (h : RunsIn w v s.runs lo hi) :
    Calls Try.prog 8 #[.agg (s.cells v)] w fun e w' => e = .returned (.bool (decide ((s.runs.length : Int) ≤ 30))) ∧ Kept [] w w' := by
  obtain ⟨p, c, rfl⟩ := h.shape
  have o := Own.new w (s.cells (.slice p s.runs.length c)) 25
  unfold SB.cells at *
  obtain ⟨d0, d1, d2, d3, d4, d5⟩ := o.c6
  go_enter Try.func8, Try.ntmps8
  go_wp2_with fail
  go_ret
  exact ⟨rfl, (Kept.refl _ _).alloc _⟩

set_option maxRecDepth 100000 in
set_option maxHeartbeats 4000000 in
theorem putsLaw (s : SB) (u : Value) (o : SB) (v : Value) (w : World) (hr : RunsIn w u s.runs 0 w.heap.size) (fs : s.fits) (hr' : RunsIn w v o.runs 0 w.heap.size) (fo : o.fits) :
    Calls Try.prog 3 #[.agg (s.cells u), .agg (o.cells v)] w fun e w' => e = .returned (.bool true) ∧ Below w.heap.size w w' := by
  obtain ⟨p, c, rfl⟩ := hr.shape
  obtain ⟨p2, c2, rfl⟩ := hr'.shape
  have hq : s.seq < 18446744073709551616 := fs.1
  obtain ⟨o1, o2⟩ := own_two w (s.cells (.slice p s.runs.length c)) (o.cells (.slice p2 o.runs.length c2)) 25 25
  unfold SB.cells at *
  have hk0 : Kept [] w ((w.alloc (.cells #[.int .u64 s.seq, .int .i64 s.sectors, .int .i64 s.journal, .int .i64 s.used, .int .i64 s.size, .slice p s.runs.length c] 25)).alloc (.cells #[.int .u64 o.seq, .int .i64 o.sectors, .int .i64 o.journal, .int .i64 o.used, .int .i64 o.size, .slice p2 o.runs.length c2] 25)) := ((Kept.refl _ _).alloc _).alloc _
  have hb : ∀ W, Kept [] ((w.alloc (.cells #[.int .u64 s.seq, .int .i64 s.sectors, .int .i64 s.journal, .int .i64 s.used, .int .i64 s.size, .slice p s.runs.length c] 25)).alloc (.cells #[.int .u64 o.seq, .int .i64 o.sectors, .int .i64 o.journal, .int .i64 o.used, .int .i64 o.size, .slice p2 o.runs.length c2] 25)) W → Below w.heap.size w W := fun W hk => (hk0.trans hk).below
  have hrs : ∀ W, Kept [] ((w.alloc (.cells #[.int .u64 s.seq, .int .i64 s.sectors, .int .i64 s.journal, .int .i64 s.used, .int .i64 s.size, .slice p s.runs.length c] 25)).alloc (.cells #[.int .u64 o.seq, .int .i64 o.sectors, .int .i64 o.journal, .int .i64 o.used, .int .i64 o.size, .slice p2 o.runs.length c2] 25)) W → RunsIn W (.slice p s.runs.length c) s.runs 0 w.heap.size := fun W hk => hr.kept0 (hk0.trans hk)
  have hro : ∀ W, Kept [] ((w.alloc (.cells #[.int .u64 s.seq, .int .i64 s.sectors, .int .i64 s.journal, .int .i64 s.used, .int .i64 s.size, .slice p s.runs.length c] 25)).alloc (.cells #[.int .u64 o.seq, .int .i64 o.sectors, .int .i64 o.journal, .int .i64 o.used, .int .i64 o.size, .slice p2 o.runs.length c2] 25)) W → RunsIn W (.slice p2 o.runs.length c2) o.runs 0 w.heap.size := fun W hk => hr'.kept0 (hk0.trans hk)
  have hS : ∀ W, Kept [] ((w.alloc (.cells #[.int .u64 s.seq, .int .i64 s.sectors, .int .i64 s.journal, .int .i64 s.used, .int .i64 s.size, .slice p s.runs.length c] 25)).alloc (.cells #[.int .u64 o.seq, .int .i64 o.sectors, .int .i64 o.journal, .int .i64 o.used, .int .i64 o.size, .slice p2 o.runs.length c2] 25)) W → W.cell? ⟨w.heap.size, 0, none⟩ = some (.int .u64 s.seq) ∧ W.cell? ⟨w.heap.size, 1, none⟩ = some (.int .i64 s.sectors) ∧ W.cell? ⟨w.heap.size, 2, none⟩ = some (.int .i64 s.journal) ∧ W.cell? ⟨w.heap.size, 3, none⟩ = some (.int .i64 s.used) ∧ W.cell? ⟨w.heap.size, 4, none⟩ = some (.int .i64 s.size) ∧ W.cell? ⟨w.heap.size, 5, none⟩ = some (.slice p s.runs.length c) ∧ W.cell? ⟨w.heap.size + 1, 0, none⟩ = some (.int .u64 o.seq) ∧ W.cell? ⟨w.heap.size + 1, 1, none⟩ = some (.int .i64 o.sectors) ∧ W.cell? ⟨w.heap.size + 1, 2, none⟩ = some (.int .i64 o.journal) ∧ W.cell? ⟨w.heap.size + 1, 3, none⟩ = some (.int .i64 o.used) ∧ W.cell? ⟨w.heap.size + 1, 4, none⟩ = some (.int .i64 o.size) ∧ W.cell? ⟨w.heap.size + 1, 5, none⟩ = some (.slice p2 o.runs.length c2) := fun W hk => by
    obtain ⟨a0, a1, a2, a3, a4, a5⟩ := (hk.own o1 (by simp)).c6
    obtain ⟨b0, b1, b2, b3, b4, b5⟩ := (hk.own o2 (by simp)).c6
    exact ⟨a0, a1, a2, a3, a4, a5, b0, b1, b2, b3, b4, b5⟩
  have hf1 : ∀ W, Kept [] ((w.alloc (.cells #[.int .u64 s.seq, .int .i64 s.sectors, .int .i64 s.journal, .int .i64 s.used, .int .i64 s.size, .slice p s.runs.length c] 25)).alloc (.cells #[.int .u64 o.seq, .int .i64 o.sectors, .int .i64 o.journal, .int .i64 o.used, .int .i64 o.size, .slice p2 o.runs.length c2] 25)) W → Calls Try.prog 8 #[.agg #[.int .u64 s.seq, .int .i64 s.sectors, .int .i64 s.journal, .int .i64 s.used, .int .i64 s.size, .slice p s.runs.length c]] W fun e w' => e = .returned (.bool (decide ((s.runs.length : Int) ≤ 30))) ∧ Kept [] ((w.alloc (.cells #[.int .u64 s.seq, .int .i64 s.sectors, .int .i64 s.journal, .int .i64 s.used, .int .i64 s.size, .slice p s.runs.length c] 25)).alloc (.cells #[.int .u64 o.seq, .int .i64 o.sectors, .int .i64 o.journal, .int .i64 o.used, .int .i64 o.size, .slice p2 o.runs.length c2] 25)) w' := fun W hk => (fewS s _ _ _ W (hrs W hk)).mono fun e w' hh => ⟨hh.1, hk.trans hh.2⟩
  have hf2 : ∀ W, Kept [] ((w.alloc (.cells #[.int .u64 s.seq, .int .i64 s.sectors, .int .i64 s.journal, .int .i64 s.used, .int .i64 s.size, .slice p s.runs.length c] 25)).alloc (.cells #[.int .u64 o.seq, .int .i64 o.sectors, .int .i64 o.journal, .int .i64 o.used, .int .i64 o.size, .slice p2 o.runs.length c2] 25)) W → Calls Try.prog 8 #[.agg #[.int .u64 o.seq, .int .i64 o.sectors, .int .i64 o.journal, .int .i64 o.used, .int .i64 o.size, .slice p2 o.runs.length c2]] W fun e w' => e = .returned (.bool (decide ((o.runs.length : Int) ≤ 30))) ∧ Kept [] ((w.alloc (.cells #[.int .u64 s.seq, .int .i64 s.sectors, .int .i64 s.journal, .int .i64 s.used, .int .i64 s.size, .slice p s.runs.length c] 25)).alloc (.cells #[.int .u64 o.seq, .int .i64 o.sectors, .int .i64 o.journal, .int .i64 o.used, .int .i64 o.size, .slice p2 o.runs.length c2] 25)) w' := fun W hk => (fewS o _ _ _ W (hro W hk)).mono fun e w' hh => ⟨hh.1, hk.trans hh.2⟩
  have haw : ∀ W, Kept [] ((w.alloc (.cells #[.int .u64 s.seq, .int .i64 s.sectors, .int .i64 s.journal, .int .i64 s.used, .int .i64 s.size, .slice p s.runs.length c] 25)).alloc (.cells #[.int .u64 o.seq, .int .i64 o.sectors, .int .i64 o.journal, .int .i64 o.used, .int .i64 o.size, .slice p2 o.runs.length c2] 25)) W → Calls Try.prog 9 #[] W fun e w' => e = .returned (.bool true) ∧ Kept [] ((w.alloc (.cells #[.int .u64 s.seq, .int .i64 s.sectors, .int .i64 s.journal, .int .i64 s.used, .int .i64 s.size, .slice p s.runs.length c] 25)).alloc (.cells #[.int .u64 o.seq, .int .i64 o.sectors, .int .i64 o.journal, .int .i64 o.used, .int .i64 o.size, .slice p2 o.runs.length c2] 25)) w' := fun W hk => (awakeS W).mono fun e w' hh => ⟨hh.1, hk.trans hh.2⟩
  have HB := Lib.hid hb
  have HS := Lib.hid hS
  have HF1 := Lib.hid hf1
  have HF2 := Lib.hid hf2
  have HAW := Lib.hid haw
  have hk00 : Kept [] ((w.alloc (.cells #[.int .u64 s.seq, .int .i64 s.sectors, .int .i64 s.journal, .int .i64 s.used, .int .i64 s.size, .slice p s.runs.length c] 25)).alloc (.cells #[.int .u64 o.seq, .int .i64 o.sectors, .int .i64 o.journal, .int .i64 o.used, .int .i64 o.size, .slice p2 o.runs.length c2] 25)) ((w.alloc (.cells #[.int .u64 s.seq, .int .i64 s.sectors, .int .i64 s.journal, .int .i64 s.used, .int .i64 s.size, .slice p s.runs.length c] 25)).alloc (.cells #[.int .u64 o.seq, .int .i64 o.sectors, .int .i64 o.journal, .int .i64 o.used, .int .i64 o.size, .slice p2 o.runs.length c2] 25)) := Kept.refl _ _
  obtain ⟨x0, x1, x2, x3, x4, x5, y0, y1, y2, y3, y4, y5⟩ := hS _ hk00
  by_cases hl : (s.runs.length : Int) ≤ 30
  · by_cases hm : (o.runs.length : Int) ≤ 30
    · have hsm := fun W hk => (psame s o _ _ _ _ _ _ W (hrs W hk) (hro W hk) (by omega) (by omega)).mono fun e w' hh => (show e = .returned (.bool (s.same o)) ∧ Kept [] ((w.alloc (.cells #[.int .u64 s.seq, .int .i64 s.sectors, .int .i64 s.journal, .int .i64 s.used, .int .i64 s.size, .slice p s.runs.length c] 25)).alloc (.cells #[.int .u64 o.seq, .int .i64 o.sectors, .int .i64 o.journal, .int .i64 o.used, .int .i64 o.size, .slice p2 o.runs.length c2] 25)) w' from ⟨hh.1, hk.trans hh.2⟩)
      have hsr := fun W hk => (rsame s o _ _ _ _ _ _ W (hrs W hk) (hro W hk) (by omega) (by omega)).mono fun e w' hh => (show e = .returned (.bool (s.same o)) ∧ Kept [] ((w.alloc (.cells #[.int .u64 s.seq, .int .i64 s.sectors, .int .i64 s.journal, .int .i64 s.used, .int .i64 s.size, .slice p s.runs.length c] 25)).alloc (.cells #[.int .u64 o.seq, .int .i64 o.sectors, .int .i64 o.journal, .int .i64 o.used, .int .i64 o.size, .slice p2 o.runs.length c2] 25)) w' from ⟨hh.1, hk.trans hh.2⟩)
      have hss := fun W hk => (psame s s _ _ _ _ _ _ W (hrs W hk) (hrs W hk) (by omega) (by omega)).mono fun e w' hh => (show e = .returned (.bool true) ∧ Kept [] ((w.alloc (.cells #[.int .u64 s.seq, .int .i64 s.sectors, .int .i64 s.journal, .int .i64 s.used, .int .i64 s.size, .slice p s.runs.length c] 25)).alloc (.cells #[.int .u64 o.seq, .int .i64 o.sectors, .int .i64 o.journal, .int .i64 o.used, .int .i64 o.size, .slice p2 o.runs.length c2] 25)) w' from ⟨by rw [hh.1, SB.same_self], hk.trans hh.2⟩)
      unfold SB.cells at hsm hsr hss
      have HSM := Lib.hid hsm
      have HSR := Lib.hid hsr
      have HSS := Lib.hid hss
      clear hsm hsr hss
      generalize s.same o = bo at *
      by_cases hmay : s.may
      · have hpu := fun W hk => (pput s _ _ _ W (hrs W hk) hmay hq).mono fun e w' hh => (show e = .returned (.tuple #[.string (bs s.sector), .int .i64 0]) ∧ Kept [] ((w.alloc (.cells #[.int .u64 s.seq, .int .i64 s.sectors, .int .i64 s.journal, .int .i64 s.used, .int .i64 s.size, .slice p s.runs.length c] 25)).alloc (.cells #[.int .u64 o.seq, .int .i64 o.sectors, .int .i64 o.journal, .int .i64 o.used, .int .i64 o.size, .slice p2 o.runs.length c2] 25)) w' from ⟨hh.1, hk.trans hh.2⟩)
        have hrp := fun W hk => (rput s _ _ _ W (hrs W hk) hmay hq).mono fun e w' hh => (show e = .returned (.string (bs s.sector)) ∧ Kept [] W w' from ⟨hh.1, hh.2⟩)
        have hrm := fun W hk => (rmay s _ _ _ W (hrs W hk) (by omega)).mono fun e w' hh => (show e = .returned (.bool true) ∧ Kept [] ((w.alloc (.cells #[.int .u64 s.seq, .int .i64 s.sectors, .int .i64 s.journal, .int .i64 s.used, .int .i64 s.size, .slice p s.runs.length c] 25)).alloc (.cells #[.int .u64 o.seq, .int .i64 o.sectors, .int .i64 o.journal, .int .i64 o.used, .int .i64 o.size, .slice p2 o.runs.length c2] 25)) w' from ⟨by
          rcases hh.1 with ⟨_, e1⟩ | ⟨e1, _⟩
          · exact e1
          · exact absurd hmay e1, hk.trans hh.2⟩)
        have hck := fun W hk => (pcheck s _ _ _ W (hrs W hk) (by omega)).mono fun e w' hh => (show e = .returned (.int .i64 0) ∧ Kept [] ((w.alloc (.cells #[.int .u64 s.seq, .int .i64 s.sectors, .int .i64 s.journal, .int .i64 s.used, .int .i64 s.size, .slice p s.runs.length c] 25)).alloc (.cells #[.int .u64 o.seq, .int .i64 o.sectors, .int .i64 o.journal, .int .i64 o.used, .int .i64 o.size, .slice p2 o.runs.length c2] 25)) w' from ⟨by
          rcases hh.1 with ⟨_, e1⟩ | ⟨e1, _⟩
          · exact e1
          · exact absurd hmay e1, hk.trans hh.2⟩)
        have hge : ∀ W, Kept [] ((w.alloc (.cells #[.int .u64 s.seq, .int .i64 s.sectors, .int .i64 s.journal, .int .i64 s.used, .int .i64 s.size, .slice p s.runs.length c] 25)).alloc (.cells #[.int .u64 o.seq, .int .i64 o.sectors, .int .i64 o.journal, .int .i64 o.used, .int .i64 o.size, .slice p2 o.runs.length c2] 25)) W → Calls Try.prog 15 #[.string (bs s.sector)] W fun e w' => ∃ pg cg, e = .returned (.tuple #[.agg #[.int .u64 s.seq, .int .i64 s.sectors, .int .i64 s.journal, .int .i64 s.used, .int .i64 s.size, .slice pg s.runs.length cg], .int .i64 0]) ∧ RunsIn w' (.slice pg s.runs.length cg) s.runs W.heap.size w'.heap.size ∧ Kept [] ((w.alloc (.cells #[.int .u64 s.seq, .int .i64 s.sectors, .int .i64 s.journal, .int .i64 s.used, .int .i64 s.size, .slice p s.runs.length c] 25)).alloc (.cells #[.int .u64 o.seq, .int .i64 o.sectors, .int .i64 o.journal, .int .i64 o.used, .int .i64 o.size, .slice p2 o.runs.length c2] 25)) w' := fun W hk =>
          (pget s.sector W (by rw [sector_len s hmay.1.2.2.2.2.2.2.2.2.2]; omega)).mono fun e w' hh => by
            rcases getSays_any hh with ⟨v, _, h1, h2, h3⟩ | ⟨h1, _⟩
            · rw [dec_sector s hmay hq] at h1 h2
              obtain ⟨pg, cg, rfl⟩ := h2.shape
              exact ⟨pg, cg, h1, h2, hk.trans h3⟩
            · exact absurd (isSB_sector s hmay hq) h1
        have hlast : ∀ pg cg lo hi W, Kept [] ((w.alloc (.cells #[.int .u64 s.seq, .int .i64 s.sectors, .int .i64 s.journal, .int .i64 s.used, .int .i64 s.size, .slice p s.runs.length c] 25)).alloc (.cells #[.int .u64 o.seq, .int .i64 o.sectors, .int .i64 o.journal, .int .i64 o.used, .int .i64 o.size, .slice p2 o.runs.length c2] 25)) W → RunsIn W (.slice pg s.runs.length cg) s.runs lo hi → Calls Try.prog 14 #[.agg #[.int .u64 s.seq, .int .i64 s.sectors, .int .i64 s.journal, .int .i64 s.used, .int .i64 s.size, .slice pg s.runs.length cg], .agg #[.int .u64 s.seq, .int .i64 s.sectors, .int .i64 s.journal, .int .i64 s.used, .int .i64 s.size, .slice p s.runs.length c]] W fun e w' => e = .returned (.bool true) ∧ Kept [] ((w.alloc (.cells #[.int .u64 s.seq, .int .i64 s.sectors, .int .i64 s.journal, .int .i64 s.used, .int .i64 s.size, .slice p s.runs.length c] 25)).alloc (.cells #[.int .u64 o.seq, .int .i64 o.sectors, .int .i64 o.journal, .int .i64 o.used, .int .i64 o.size, .slice p2 o.runs.length c2] 25)) w' := fun pg cg lo hi W hk hx =>
          (rsame s s _ _ _ _ _ _ W hx (hrs W hk) (by omega) (by omega)).mono fun e w' hh => ⟨by rw [hh.1, SB.same_self], hk.trans hh.2⟩
        unfold SB.cells at hpu hrp hrm hck
        have HPU := Lib.hid hpu
        have HRP := Lib.hid hrp
        have HRM := Lib.hid hrm
        have HCK := Lib.hid hck
        have HGE := Lib.hid hge
        have HLA := Lib.hid hlast
        clear hpu hrp hrm hck hge hlast hrs hro hS hf1 hf2 haw hb hmay fs fo hr hr' hk0 o1 o2 hq
        generalize s.sector = SE at *
        go_enter Try.func3, Try.ntmps3
        go_wp2_with fail
        refine (HF1.out _ hk00).mono ?_; rintro e w1 ⟨rfl, k1⟩
        obtain ⟨x0, x1, x2, x3, x4, x5, y0, y1, y2, y3, y4, y5⟩ := HS.out _ k1
        go_wp2_with fail
        refine (HF2.out _ k1).mono ?_; rintro e w2 ⟨rfl, k2⟩
        obtain ⟨x0, x1, x2, x3, x4, x5, y0, y1, y2, y3, y4, y5⟩ := HS.out _ k2
        go_wp2_with fail
        refine (HPU.out _ k2).mono ?_; rintro e w3 ⟨rfl, k3⟩
        obtain ⟨x0, x1, x2, x3, x4, x5, y0, y1, y2, y3, y4, y5⟩ := HS.out _ k3
        go_wp2_with fail
        refine (HRM.out _ k3).mono ?_; rintro e w4 ⟨rfl, k4⟩
        obtain ⟨x0, x1, x2, x3, x4, x5, y0, y1, y2, y3, y4, y5⟩ := HS.out _ k4
        go_wp2_with fail
        go_region_held3 (fun W => W.cell? ⟨w.heap.size, 0, none⟩ = some (.int .u64 s.seq) ∧ W.cell? ⟨w.heap.size, 1, none⟩ = some (.int .i64 s.sectors) ∧ W.cell? ⟨w.heap.size, 2, none⟩ = some (.int .i64 s.journal) ∧ W.cell? ⟨w.heap.size, 3, none⟩ = some (.int .i64 s.used) ∧ W.cell? ⟨w.heap.size, 4, none⟩ = some (.int .i64 s.size) ∧ W.cell? ⟨w.heap.size, 5, none⟩ = some (.slice p s.runs.length c) ∧ W.cell? ⟨w.heap.size + 1, 0, none⟩ = some (.int .u64 o.seq) ∧ W.cell? ⟨w.heap.size + 1, 1, none⟩ = some (.int .i64 o.sectors) ∧ W.cell? ⟨w.heap.size + 1, 2, none⟩ = some (.int .i64 o.journal) ∧ W.cell? ⟨w.heap.size + 1, 3, none⟩ = some (.int .i64 o.used) ∧ W.cell? ⟨w.heap.size + 1, 4, none⟩ = some (.int .i64 o.size) ∧ W.cell? ⟨w.heap.size + 1, 5, none⟩ = some (.slice p2 o.runs.length c2)) (first | go_keep | exact HS.out _ (by first | assumption | exact Kept.drew (by assumption)))
          (first
            | (go_at_call 12; ((with_reducible refine (HCK.out _ ?_).mono ?_)); (first | assumption | exact Kept.drew (by assumption)); rintro e wa ⟨rfl, ka⟩)
            | (go_at_call 13; ((with_reducible refine (HSM.out _ ?_).mono ?_)); (first | assumption | exact Kept.drew (by assumption)); rintro e wb ⟨rfl, kb⟩)
            | (go_at_call 14; ((with_reducible refine (HSR.out _ ?_).mono ?_)); (first | assumption | exact Kept.drew (by assumption)); rintro e wc ⟨rfl, kc⟩)
            | (go_at_call 13; ((with_reducible refine (HSS.out _ ?_).mono ?_)); (first | assumption | exact Kept.drew (by assumption)); rintro e wd ⟨rfl, kd⟩))
        all_goals
          obtain ⟨x0, x1, x2, x3, x4, x5, y0, y1, y2, y3, y4, y5⟩ := HS.out _ kd
          go_wp2_with fail
          refine (HGE.out _ kd).mono ?_; rintro e w6 ⟨pg, cg, rfl, hrg, k6⟩
          have ou := Own.new w6 #[.int .u64 s.seq, .int .i64 s.sectors, .int .i64 s.journal, .int .i64 s.used, .int .i64 s.size, .slice pg s.runs.length cg] 25
          have k7 := k6.alloc (.cells #[.int .u64 s.seq, .int .i64 s.sectors, .int .i64 s.journal, .int .i64 s.used, .int .i64 s.size, .slice pg s.runs.length cg] 25)
          have hrg7 := hrg.kept0 ((Kept.refl _ _).alloc (.cells #[.int .u64 s.seq, .int .i64 s.sectors, .int .i64 s.journal, .int .i64 s.used, .int .i64 s.size, .slice pg s.runs.length cg] 25))
          obtain ⟨x0, x1, x2, x3, x4, x5, y0, y1, y2, y3, y4, y5⟩ := HS.out _ k7
          go_wp2_with fail
          refine (HRP.out _ k7).mono ?_; rintro e w8 ⟨rfl, kk8⟩
          have k8 := k7.trans kk8
          have hrg8 := hrg7.kept0 kk8
          obtain ⟨z0, z1, z2, z3, z4, z5⟩ := (kk8.own ou (by simp)).c6
          obtain ⟨x0, x1, x2, x3, x4, x5, y0, y1, y2, y3, y4, y5⟩ := HS.out _ k8
          go_wp2_with fail
          refine (HLA.out pg cg _ _ _ k8 hrg8).mono ?_; rintro e w9 ⟨rfl, k9⟩
          go_wp2_with fail
          refine (HAW.out _ k9).mono ?_; rintro e w10 ⟨rfl, kz⟩
          go_wp2_with fail
          go_ret
          exact ⟨rfl, HB.out _ kz⟩
      · have hpu := fun W hk => (pput_no s _ _ _ W (hrs W hk) (by omega) hmay).mono fun e w' hh => (show e = .returned (.tuple #[.string ⟨#[]⟩, .int .i64 1]) ∧ Kept [] ((w.alloc (.cells #[.int .u64 s.seq, .int .i64 s.sectors, .int .i64 s.journal, .int .i64 s.used, .int .i64 s.size, .slice p s.runs.length c] 25)).alloc (.cells #[.int .u64 o.seq, .int .i64 o.sectors, .int .i64 o.journal, .int .i64 o.used, .int .i64 o.size, .slice p2 o.runs.length c2] 25)) w' from ⟨hh.1, hk.trans hh.2⟩)
        have hrm := fun W hk => (rmay s _ _ _ W (hrs W hk) (by omega)).mono fun e w' hh => (show e = .returned (.bool false) ∧ Kept [] ((w.alloc (.cells #[.int .u64 s.seq, .int .i64 s.sectors, .int .i64 s.journal, .int .i64 s.used, .int .i64 s.size, .slice p s.runs.length c] 25)).alloc (.cells #[.int .u64 o.seq, .int .i64 o.sectors, .int .i64 o.journal, .int .i64 o.used, .int .i64 o.size, .slice p2 o.runs.length c2] 25)) w' from ⟨by
          rcases hh.1 with ⟨e1, _⟩ | ⟨_, e1⟩
          · exact absurd e1 hmay
          · exact e1, hk.trans hh.2⟩)
        have hck := fun W hk => (pcheck s _ _ _ W (hrs W hk) (by omega)).mono fun e w' hh => (show e = .returned (.int .i64 1) ∧ Kept [] ((w.alloc (.cells #[.int .u64 s.seq, .int .i64 s.sectors, .int .i64 s.journal, .int .i64 s.used, .int .i64 s.size, .slice p s.runs.length c] 25)).alloc (.cells #[.int .u64 o.seq, .int .i64 o.sectors, .int .i64 o.journal, .int .i64 o.used, .int .i64 o.size, .slice p2 o.runs.length c2] 25)) w' from ⟨by
          rcases hh.1 with ⟨e1, _⟩ | ⟨_, e1⟩
          · exact absurd e1 hmay
          · exact e1, hk.trans hh.2⟩)
        unfold SB.cells at hpu hrm hck
        have HPU := Lib.hid hpu
        have HRM := Lib.hid hrm
        have HCK := Lib.hid hck
        clear hpu hrm hck hrs hro hS hf1 hf2 haw hb hmay fs fo hr hr' hk0 o1 o2 hq
        go_enter Try.func3, Try.ntmps3
        go_wp2_with fail
        refine (HF1.out _ hk00).mono ?_; rintro e w1 ⟨rfl, k1⟩
        obtain ⟨x0, x1, x2, x3, x4, x5, y0, y1, y2, y3, y4, y5⟩ := HS.out _ k1
        go_wp2_with fail
        refine (HF2.out _ k1).mono ?_; rintro e w2 ⟨rfl, k2⟩
        obtain ⟨x0, x1, x2, x3, x4, x5, y0, y1, y2, y3, y4, y5⟩ := HS.out _ k2
        go_wp2_with fail
        refine (HPU.out _ k2).mono ?_; rintro e w3 ⟨rfl, k3⟩
        obtain ⟨x0, x1, x2, x3, x4, x5, y0, y1, y2, y3, y4, y5⟩ := HS.out _ k3
        go_wp2_with fail
        refine (HRM.out _ k3).mono ?_; rintro e w4 ⟨rfl, k4⟩
        obtain ⟨x0, x1, x2, x3, x4, x5, y0, y1, y2, y3, y4, y5⟩ := HS.out _ k4
        go_wp2_with fail
        go_region_held3 (fun W => W.cell? ⟨w.heap.size, 0, none⟩ = some (.int .u64 s.seq) ∧ W.cell? ⟨w.heap.size, 1, none⟩ = some (.int .i64 s.sectors) ∧ W.cell? ⟨w.heap.size, 2, none⟩ = some (.int .i64 s.journal) ∧ W.cell? ⟨w.heap.size, 3, none⟩ = some (.int .i64 s.used) ∧ W.cell? ⟨w.heap.size, 4, none⟩ = some (.int .i64 s.size) ∧ W.cell? ⟨w.heap.size, 5, none⟩ = some (.slice p s.runs.length c) ∧ W.cell? ⟨w.heap.size + 1, 0, none⟩ = some (.int .u64 o.seq) ∧ W.cell? ⟨w.heap.size + 1, 1, none⟩ = some (.int .i64 o.sectors) ∧ W.cell? ⟨w.heap.size + 1, 2, none⟩ = some (.int .i64 o.journal) ∧ W.cell? ⟨w.heap.size + 1, 3, none⟩ = some (.int .i64 o.used) ∧ W.cell? ⟨w.heap.size + 1, 4, none⟩ = some (.int .i64 o.size) ∧ W.cell? ⟨w.heap.size + 1, 5, none⟩ = some (.slice p2 o.runs.length c2)) (first | go_keep | exact HS.out _ (by first | assumption | exact Kept.drew (by assumption)))
          (first
            | (go_at_call 12; ((with_reducible refine (HCK.out _ ?_).mono ?_)); (first | assumption | exact Kept.drew (by assumption)); rintro e wa ⟨rfl, ka⟩)
            | (go_at_call 13; ((with_reducible refine (HSM.out _ ?_).mono ?_)); (first | assumption | exact Kept.drew (by assumption)); rintro e wb ⟨rfl, kb⟩)
            | (go_at_call 14; ((with_reducible refine (HSR.out _ ?_).mono ?_)); (first | assumption | exact Kept.drew (by assumption)); rintro e wc ⟨rfl, kc⟩)
            | (go_at_call 13; ((with_reducible refine (HSS.out _ ?_).mono ?_)); (first | assumption | exact Kept.drew (by assumption)); rintro e wd ⟨rfl, kd⟩))
        all_goals
          obtain ⟨x0, x1, x2, x3, x4, x5, y0, y1, y2, y3, y4, y5⟩ := HS.out _ kd
          go_wp2_with fail
          refine (HCK.out _ kd).mono ?_; rintro e w6 ⟨rfl, k6⟩
          go_wp2_with fail
          refine (HAW.out _ k6).mono ?_; rintro e w10 ⟨rfl, kz⟩
          go_wp2_with fail
          go_ret
          exact ⟨rfl, HB.out _ kz⟩
    · have hf3 := HF2.out
      simp only [decide_eq_false hm] at hf3
      have HF3 := Lib.hid hf3
      clear hf3 hrs hro hS hf1 hf2 haw hb fs fo hr hr' hk0 o1 o2 hq
      go_enter Try.func3, Try.ntmps3
      go_wp2_with fail
      refine (HF1.out _ hk00).mono ?_; rintro e w1 ⟨rfl, k1⟩
      obtain ⟨x0, x1, x2, x3, x4, x5, y0, y1, y2, y3, y4, y5⟩ := HS.out _ k1
      go_wp2_with fail
      refine (HF3.out _ k1).mono ?_; rintro e w2 ⟨rfl, k2⟩
      obtain ⟨x0, x1, x2, x3, x4, x5, y0, y1, y2, y3, y4, y5⟩ := HS.out _ k2
      go_wp2_with fail
      refine (HAW.out _ k2).mono ?_; rintro e w3 ⟨rfl, kz⟩
      go_wp2_with fail
      go_ret
      exact ⟨rfl, HB.out _ kz⟩
  · clear hrs hro hS hf1 hf2 haw hb fs fo hr hr' hk0 o1 o2 hq
    go_enter Try.func3, Try.ntmps3
    go_wp2_with fail
    refine (HF1.out _ hk00).mono ?_; rintro e w1 ⟨rfl, k1⟩
    obtain ⟨x0, x1, x2, x3, x4, x5, y0, y1, y2, y3, y4, y5⟩ := HS.out _ k1
    go_wp2_with fail
    refine (HAW.out _ k1).mono ?_; rintro e w3 ⟨rfl, kz⟩
    go_wp2_with fail
    go_ret
    exact ⟨rfl, HB.out _ kz⟩
end Go.Proofs.Ytpdmnjcklpklnaa

