/- Walks of layer 11 (super): the page's examples. -/
import Derived.Test.YtpdmnjcklpklnaaR18
namespace Go.Proofs.Ytpdmnjcklpklnaa
open Go.RowKit
set_option linter.unusedVariables false
set_option linter.unusedSimpArgs false

/-- the page's superblock. -/
def s5 : SB := ⟨5, 20, 3, 7, 130, [(9, 2)]⟩
theorem s5_may : s5.may := by
  refine ⟨⟨by decide, by decide, by decide, by decide, by decide, by decide, by decide, by decide, by decide, by decide⟩, by decide, by decide⟩
theorem s5_cnt : cnt1 s5.sector := ⟨isSB_sector s5 s5_may (by decide), by rw [dec_sector s5 s5_may (by decide)]; rfl⟩
theorem no_cnt0 : ¬ cnt0 [] := fun h => by have := h.1.1; simp at this
theorem s5_get (W : World) : Calls Try.prog 15 #[.string (bs s5.sector)] W fun e w' => ∃ v, e = .returned (.tuple #[.agg #[.int .u64 5, .int .i64 20, .int .i64 3, .int .i64 7, .int .i64 130, v], .int .i64 0]) ∧ RunsIn w' v s5.runs W.heap.size w'.heap.size ∧ Kept [] W w' :=
  (pget s5.sector W (by rw [sector_len s5 (by decide)]; omega)).mono fun e w' hh => by
    rcases getSays_any hh with ⟨v, _, h1, h2, h3⟩ | ⟨h1, _⟩
    · rw [dec_sector s5 s5_may (by decide)] at h1 h2
      exact ⟨v, h1, h2, h3⟩
    · exact absurd s5_cnt.1 h1
theorem s5_pick (W : World) : Calls Try.prog 18 #[.string ⟨#[]⟩, .string (bs s5.sector)] W fun e w' => ∃ p c, e = .returned (.tuple #[.agg #[.int .u64 5, .int .i64 20, .int .i64 3, .int .i64 7, .int .i64 130, .slice p 1 c], .int .i64 0]) ∧ Kept [] W w' :=
  (ppick [] s5.sector W (by simp) (by rw [sector_len s5 (by decide)]; omega)).mono fun e w' hh => by
    obtain ⟨⟨o, v, h1, h2, h3⟩, hk⟩ := hh
    have ho : o = some s5.sector := h1.uniq (Or.inr (Or.inr ⟨rfl, s5_cnt, fun h => no_cnt0 h.1⟩))
    subst ho
    have e1 : pickSB (some s5.sector) = s5 := dec_sector s5 s5_may (by decide)
    rw [e1] at h2 h3
    obtain ⟨p, c, rfl⟩ := h3.shape
    exact ⟨p, c, h2, hk⟩
theorem s5_next (W : World) (v : Value) (lo hi : Nat) (h : RunsIn W v s5.runs lo hi) : Calls Try.prog 20 #[.agg #[.int .u64 5, .int .i64 20, .int .i64 3, .int .i64 7, .int .i64 130, v]] W fun e w' => ∃ v', e = .returned (.agg #[.int .u64 6, .int .i64 20, .int .i64 3, .int .i64 7, .int .i64 130, v']) ∧ Kept [] W w' :=
  (pnext s5 v lo hi W h (by decide) (by decide)).mono fun e w' hh => by
    obtain ⟨⟨v', h1, _⟩, hk⟩ := hh
    exact ⟨v', h1, hk⟩
theorem s0_check (W : World) : Calls Try.prog 12 #[.agg #[.int .u64 0, .int .i64 0, .int .i64 0, .int .i64 0, .int .i64 0, .slice none 0 0]] W fun e w' => e = .returned (.int .i64 1) ∧ Kept [] W w' :=
  (pcheck zeroSB (.slice none 0 0) 0 0 W (Or.inl ⟨rfl, _, _, rfl⟩) (by decide)).mono fun e w' hh => by
    rcases hh with ⟨⟨h1, _⟩ | ⟨_, h1⟩, hk⟩
    · exact absurd h1.1.1 (by decide)
    · exact ⟨h1, hk⟩
theorem s5_same (W : World) (va vb : Value) (lo hi lo' hi' : Nat) (h : RunsIn W va s5.runs lo hi) (h' : RunsIn W vb s5.runs lo' hi') : Calls Try.prog 13 #[.agg #[.int .u64 5, .int .i64 20, .int .i64 3, .int .i64 7, .int .i64 130, va], .agg #[.int .u64 5, .int .i64 20, .int .i64 3, .int .i64 7, .int .i64 130, vb]] W fun e w' => e = .returned (.bool true) ∧ Kept [] W w' :=
  (psame s5 s5 va vb lo hi lo' hi' W h h' (by decide) (by decide)).mono fun e w' hh => ⟨by rw [hh.1, SB.same_self], hh.2⟩
theorem s5_put (W : World) (v : Value) (lo hi : Nat) (h : RunsIn W v s5.runs lo hi) : Calls Try.prog 10 #[.agg #[.int .u64 5, .int .i64 20, .int .i64 3, .int .i64 7, .int .i64 130, v]] W fun e w' => e = .returned (.tuple #[.string (bs s5.sector), .int .i64 0]) ∧ Kept [] W w' :=
  pput s5 v lo hi W h s5_may (by decide)
theorem need128 (W : World) : Calls Try.prog 22 #[.int .i64 128] W fun e w' => e = .returned (.int .i64 1) ∧ W = w' := pneed 128 W (by decide)
theorem need129 (W : World) : Calls Try.prog 22 #[.int .i64 129] W fun e w' => e = .returned (.int .i64 2) ∧ W = w' := pneed 129 W (by decide)
theorem slot5 (W : World) : Calls Try.prog 21 #[.int .u64 5] W fun e w' => e = .returned (.int .i64 1) ∧ W = w' := pslot 5 W (by decide)

set_option maxRecDepth 100000 in
set_option maxHeartbeats 2000000 in
theorem awakeS (w : World) : Calls Try.prog 9 #[] w fun e w' => e = .returned (.bool true) ∧ Kept [] w w' := by
  obtain ⟨o0, o1⟩ := own_two w #[.int .i64 9, .int .i64 2] #[.int .u64 5, .int .i64 20, .int .i64 3, .int .i64 7, .int .i64 130, .slice (some ⟨w.heap.size, 0, none⟩) 1 1] 48 25
  have hk0 : Kept [] w ((w.alloc (.cells #[.int .i64 9, .int .i64 2] 48)).alloc (.cells #[.int .u64 5, .int .i64 20, .int .i64 3, .int .i64 7, .int .i64 130, .slice (some ⟨w.heap.size, 0, none⟩) 1 1] 25)) := ((Kept.refl _ _).alloc _).alloc _
  have hr0 : RunsIn ((w.alloc (.cells #[.int .i64 9, .int .i64 2] 48)).alloc (.cells #[.int .u64 5, .int .i64 20, .int .i64 3, .int .i64 7, .int .i64 130, .slice (some ⟨w.heap.size, 0, none⟩) 1 1] 25)) (.slice (some ⟨w.heap.size, 0, none⟩) 1 1) s5.runs w.heap.size (w.heap.size + 1) := by
    refine Or.inr ⟨w.heap.size, 0, 1, rfl, fun i hi => ?_, Nat.le_refl _, by omega, by simp, by decide, by decide, by decide⟩
    have : i = 0 := by have : i < 1 := hi; omega
    subst this
    exact ⟨o0.cell 0 (by simp), o0.cell 1 (by simp)⟩
  have hz : (bs s5.sector).size = 128 := by rw [bs_size, sector_len s5 (by decide)]
  have hget := s5_get
  have hpick := s5_pick
  have hput := s5_put
  generalize s5.sector = S at *
  have hfd : ∀ (v : Value) (w : World), (Instr.field 25 (.agg #[.int .u64 6, .int .i64 20, .int .i64 3, .int .i64 7, .int .i64 130, v]) 0).run Try.prog w = .ok (.int .u64 6) w := fun _ _ => by kernel_rfl
  go_enter Try.func9, Try.ntmps9
  obtain ⟨a0, a1, a2, a3, a4, a5⟩ := o1.c6
  go_wp2_with fail
  refine (hput _ _ _ _ hr0).mono ?_; rintro e w1 ⟨rfl, hk1⟩
  have hs1 := hk1.own o1 (by simp)
  have hr1 := hr0.kept0 hk1
  have hK1 := hk0.trans hk1
  clear hput hk1 hr0 hk0 o0 o1 a0 a1 a2 a3 a4 a5
  go_wp2_with fail
  refine (hget _).mono ?_; rintro e w2 ⟨v, rfl, hru, hk2⟩
  obtain ⟨p, c, rfl⟩ := hru.shape
  have e1 : s5.runs.length = 1 := rfl
  rw [e1] at *
  have ou := Own.new w2 #[.int .u64 5, .int .i64 20, .int .i64 3, .int .i64 7, .int .i64 130, .slice p 1 c] 25
  have hs2 := (hk2.own hs1 (by simp)).alloc (.cells #[.int .u64 5, .int .i64 20, .int .i64 3, .int .i64 7, .int .i64 130, .slice p 1 c] 25)
  have hkk := hk2.alloc (.cells #[.int .u64 5, .int .i64 20, .int .i64 3, .int .i64 7, .int .i64 130, .slice p 1 c] 25)
  have hr2 := hr1.kept0 hkk
  have hK2 := hK1.trans hkk
  have hru2 := hru.kept0 ((Kept.refl _ w2).alloc (.cells #[.int .u64 5, .int .i64 20, .int .i64 3, .int .i64 7, .int .i64 130, .slice p 1 c] 25))
  clear hget hk2 hru hr1 hs1 hkk hK1
  go_wp2_with fail
  refine (hpick _).mono ?_; rintro e w3 ⟨p', c', rfl, hk3⟩
  have ov := Own.new w3 #[.int .u64 5, .int .i64 20, .int .i64 3, .int .i64 7, .int .i64 130, .slice p' 1 c'] 25
  have hkk := hk3.alloc (.cells #[.int .u64 5, .int .i64 20, .int .i64 3, .int .i64 7, .int .i64 130, .slice p' 1 c'] 25)
  have hs3 := hkk.own hs2 (by simp)
  have ou3 := hkk.own ou (by simp)
  have hr3 := hr2.kept0 hkk
  have hru3 := hru2.kept0 hkk
  have hK3 := hK2.trans hkk
  obtain ⟨x0, x1, x2, x3, x4, x5⟩ := hs3.c6
  obtain ⟨y0, y1, y2, y3, y4, y5⟩ := ou3.c6
  obtain ⟨z0, z1, z2, z3, z4, z5⟩ := ov.c6
  clear hpick hk3 hr2 hru2 hs2 ou hkk hK2
  go_wp2_with fail
  refine (need128 _).mono ?_; rintro e w' ⟨rfl, rfl⟩
  go_wp2_with fail
  refine (need129 _).mono ?_; rintro e w' ⟨rfl, rfl⟩
  go_wp2_with fail
  refine (slot5 _).mono ?_; rintro e w' ⟨rfl, rfl⟩
  go_wp2_with fail
  refine (s5_same _ _ _ _ _ _ _ hr3 hru3).mono ?_; rintro e w4 ⟨rfl, hk4⟩
  have hs4 := hk4.own hs3 (by simp)
  have ov4 := hk4.own ov (by simp)
  have hr4 := hr3.kept0 hk4
  have hK4 := hK3.trans hk4
  obtain ⟨x0, x1, x2, x3, x4, x5⟩ := hs4.c6
  obtain ⟨z0, z1, z2, z3, z4, z5⟩ := ov4.c6
  go_wp2_with fail
  refine (s5_next _ _ _ _ hr4).mono ?_; rintro e w5 ⟨v', rfl, hk5⟩
  go_wp2_with fail
  refine (s0_check _).mono ?_; rintro e w6 ⟨rfl, hk6⟩
  go_wp2_with fail
  go_ret
  exact ⟨rfl, (hK4.trans hk5).trans hk6⟩
end Go.Proofs.Ytpdmnjcklpklnaa
