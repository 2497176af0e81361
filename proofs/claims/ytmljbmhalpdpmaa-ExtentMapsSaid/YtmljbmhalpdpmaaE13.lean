/- Layer 10 (extent): the page's examples; ExtentLowest's walk. -/
import Derived.Test.YtmljbmhalpdpmaaE12
namespace Go.Proofs.Ytmljbmhalpdpmaa
open Go.RowKit
set_option linter.unusedVariables false
set_option linter.unusedSimpArgs false

theorem plain_ex : plainL [(4, 2), (0, 2), (2, 2)] = [(0, 6)] := by
  refine (canon_eq (p := [(0, 6)]) ⟨by decide, by decide, by decide, trivial⟩ (fun m hm => ?_)).symm
  rw [hasB_iff]
  unfold inS
  simp
  omega
theorem minus_ex : minusL [(0, 10)] [(3, 2)] = [(0, 3), (5, 5)] := by
  refine (canon_eq (p := [(0, 3), (5, 5)]) ⟨by decide, by decide, by decide, by decide, by decide, by decide, trivial⟩ (fun m hm => ?_)).symm
  rw [Bool.and_eq_true, Bool.not_eq_true', ← Bool.not_eq_true, hasB_iff, hasB_iff]
  unfold inS
  simp
  omega
theorem runs_lit1 (w : World) (x n : Int) : RunsIn (w.alloc (.cells #[.int .i64 x, .int .i64 n] 57)) (.slice (some ⟨w.heap.size, 0, none⟩) 1 1) [(x, n)] w.heap.size (w.heap.size + 1) := by
  have hc := (Own.new w #[.int .i64 x, .int .i64 n] 57)
  refine Or.inr ⟨w.heap.size, 0, 1, rfl, fun i hi => ?_, Nat.le_refl _, Nat.lt_succ_self _, by simp, by simp, Nat.le_refl _, by unfold maxLen; omega⟩
  obtain rfl : i = 0 := by simpa using hi
  exact ⟨hc.cell 0 (by simp), hc.cell 1 (by simp)⟩
theorem runs_lit2 (w : World) (x n x2 n2 : Int) : RunsIn (w.alloc (.cells #[.int .i64 x, .int .i64 n, .int .i64 x2, .int .i64 n2] 57)) (.slice (some ⟨w.heap.size, 0, none⟩) 2 2) [(x, n), (x2, n2)] w.heap.size (w.heap.size + 1) := by
  have hc := (Own.new w #[.int .i64 x, .int .i64 n, .int .i64 x2, .int .i64 n2] 57)
  refine Or.inr ⟨w.heap.size, 0, 2, rfl, fun i hi => ?_, Nat.le_refl _, Nat.lt_succ_self _, by simp, by simp, Nat.le_refl _, by unfold maxLen; omega⟩
  rcases (by simp at hi; omega : i = 0 ∨ i = 1) with rfl | rfl
  · exact ⟨hc.cell 0 (by simp), hc.cell 1 (by simp)⟩
  · exact ⟨hc.cell 2 (by simp), hc.cell 3 (by simp)⟩
theorem runs_lit3 (w : World) (x n x2 n2 x3 n3 : Int) : RunsIn (w.alloc (.cells #[.int .i64 x, .int .i64 n, .int .i64 x2, .int .i64 n2, .int .i64 x3, .int .i64 n3] 57)) (.slice (some ⟨w.heap.size, 0, none⟩) 3 3) [(x, n), (x2, n2), (x3, n3)] w.heap.size (w.heap.size + 1) := by
  have hc := (Own.new w #[.int .i64 x, .int .i64 n, .int .i64 x2, .int .i64 n2, .int .i64 x3, .int .i64 n3] 57)
  refine Or.inr ⟨w.heap.size, 0, 3, rfl, fun i hi => ?_, Nat.le_refl _, Nat.lt_succ_self _, by simp, by simp, Nat.le_refl _, by unfold maxLen; omega⟩
  rcases (by simp at hi; omega : i = 0 ∨ i = 1 ∨ i = 2) with rfl | rfl | rfl
  · exact ⟨hc.cell 0 (by simp), hc.cell 1 (by simp)⟩
  · exact ⟨hc.cell 2 (by simp), hc.cell 3 (by simp)⟩
  · exact ⟨hc.cell 4 (by simp), hc.cell 5 (by simp)⟩
theorem wf_small {l : List (Int × Int)} (h : ∀ a ∈ l, 0 ≤ a.1 ∧ a.1 ≤ 8192 ∧ 0 ≤ a.2 ∧ a.2 ≤ 8192) : ∀ a ∈ l, WfRun a := fun a ha => by
  obtain ⟨h1, h2, h3, h4⟩ := h a ha
  exact ⟨by omega, by omega, by omega, by omega⟩
theorem pl_wf {l : List (Int × Int)} {a : Int} (ha : 0 ≤ a) (h : Pl a l) : ∀ x ∈ l, WfRun x := by
  induction l generalizing a with
  | nil => intro x hx; cases hx
  | cons r t ih =>
    obtain ⟨h1, h2, h3, h4⟩ := h
    intro x hx
    rcases List.mem_cons.1 hx with rfl | hx
    · exact ⟨by omega, by omega, by omega, by omega⟩
    · exact ih (by omega) h4 x hx
set_option maxRecDepth 100000 in
set_option maxHeartbeats 2000000 in
theorem xawake (w : World) : Calls Try.prog 13 #[] w fun e w' => e = .returned (.bool true) ∧ Kept [] w w' := by
  have h1 := fun W => xplain _ _ _ _ _ (runs_lit3 W 4 2 0 2 2 2) (by decide) (wf_small (by decide))
  rw [plain_ex] at h1
  unfold GivesR at h1
  have h2 := fun (W : World) => xminus (.slice (some ⟨W.heap.size, 0, none⟩) 1 1) [(0, 10)] _ _ (.slice (some ⟨W.heap.size + 1, 0, none⟩) 1 1) [(3, 2)] (W.heap.size + 1) (W.heap.size + 2) ((W.alloc (.cells #[.int .i64 0, .int .i64 10] 57)).alloc (.cells #[.int .i64 3, .int .i64 2] 57)) ((runs_lit1 W 0 10).kept0 ((Kept.refl _ _).alloc _)) (by have := runs_lit1 (W.alloc (.cells #[.int .i64 0, .int .i64 10] 57)) 3 2; rw [World.size_alloc] at this; exact this) (by decide) (by decide) (wf_small (by decide)) (wf_small (by decide))
  rw [minus_ex] at h2
  unfold GivesR at h2
  go_enter Try.func13, Try.ntmps13
  go_wp2_with fail
  refine (h1 _).mono ?_; rintro e w1 ⟨v1, rfl, r1, k1⟩
  go_wp2_with fail
  refine (h2 _).mono ?_; rintro e w2 ⟨v2, rfl, r2, k2⟩
  have R1 := Lib.hid ((RunsIn.of_own r1).kept0 (((Kept.refl _ _).alloc _).alloc _ |>.trans k2))
  have R2 := Lib.hid (RunsIn.of_own r2)
  go_wp2_with fail
  refine (zsame v1 _ [(0, 6)] _ _ _ _ (w2.alloc (.cells #[.int .i64 0, .int .i64 6] 57)) (R1.out.kept0 ((Kept.refl _ _).alloc _)) (runs_lit1 w2 0 6) (by decide)).mono ?_; rintro e w3 ⟨rfl, k3⟩
  go_wp2_with fail
  refine (zsame v2 _ [(0, 3), (5, 5)] _ _ _ _ (w3.alloc (.cells #[.int .i64 0, .int .i64 3, .int .i64 5, .int .i64 5] 57)) (R2.out.kept0 ((((Kept.refl _ _).alloc _).trans k3).alloc _)) (runs_lit2 w3 0 3 5 5) (by decide)).mono ?_; rintro e w4 ⟨rfl, k4⟩
  have hk : Kept [] w w4 := ((((Kept.refl _ _).alloc _).trans k1).trans ((((Kept.refl _ _).alloc _).alloc _).trans k2)).trans ((((Kept.refl _ _).alloc _).trans k3).trans (((Kept.refl _ _).alloc _).trans k4))
  go_wp2_with fail
  go_ret
  exact ⟨rfl, hk⟩
theorem cnt_low (l : List (Int × Int)) (n : Int) (hn : 0 ≤ n) (k : Nat) : (cntF (lowF l n) k : Int) = min n (cntF (hasB l) k) := by
  induction k with
  | zero => show ((0 : Nat) : Int) = min n ((0 : Nat) : Int); omega
  | succ k ih =>
    rw [cntF, cntF]
    have e := lowF_at l n k
    by_cases hb : hasB l k = true
    · rw [hb, Bool.true_and] at e
      by_cases hlt : (cntF (hasB l) k : Int) < n
      · rw [decide_eq_true hlt] at e
        rw [if_pos e, if_pos hb]; omega
      · rw [decide_eq_false hlt] at e
        rw [e, if_neg (by simp), if_pos hb]; omega
    · have hb' : hasB l k = false := by simpa using hb
      rw [hb', Bool.false_and] at e
      rw [e, if_neg (by simp), if_neg hb]; omega
theorem count_canon (f : Nat → Bool) : countL (canon f) = cntF f 8192 := by
  have h1 := plain_sum (canon f)
  rw [plain_self (canon_pl f), canon_sum] at h1
  omega
theorem low_count {l : List (Int × Int)} {n : Int} (h : lowCode l n = 0) : (countL (lowRes l n) : Int) = n := by
  unfold lowRes
  rw [if_pos h]
  unfold lowCode at h
  by_cases h0 : n < 0
  · rw [if_pos h0] at h; omega
  · rw [if_neg h0] at h
    by_cases h1 : (countL l : Int) < n ∨ 16 < (lowestL l n).length
    · rw [if_pos h1] at h; omega
    · unfold lowestL
      rw [count_canon, cnt_low l n (by omega)]
      have e : countL l = cntF (hasB l) 8192 := rfl
      omega
theorem canon_none {f : Nat → Bool} (h : ∀ m, m < 8192 → f m = false) : canon f = [] := (canon_eq (p := []) trivial (fun m hm => by rw [h m hm]; exact ⟨fun h => absurd h (inS_nil _), fun h => by cases h⟩)).symm
theorem low_within (l : List (Int × Int)) (n : Int) : minusL (lowRes l n) l = [] := by
  unfold minusL
  refine canon_none (fun m hm => ?_)
  unfold lowRes
  split
  · unfold lowestL
    rw [canon_has _ m hm, lowF_at]
    cases hasB l m <;> simp
  · rfl
theorem lowRes_pl (l : List (Int × Int)) (n : Int) : Pl 0 (lowRes l n) := by
  unfold lowRes
  split
  · exact canon_pl _
  · trivial
theorem LowSays.out {l : List (Int × Int)} {n : Int} {w w' : World} {e : Ending} (h : LowSays l n w e w') : ∃ v, e = .returned (.tuple #[v, .int .i64 (lowCode l n)]) ∧ RunsIn w' v (lowRes l n) w.heap.size w'.heap.size ∧ Kept [] w w' := by
  obtain ⟨v, h1, h2, h3⟩ := h
  exact ⟨v, h1, RunsIn.of_own h2, h3⟩
set_option maxRecDepth 100000 in
set_option maxHeartbeats 2000000 in
theorem lowestLaw (v : Value) (l0 : List (Int × Int)) (n : Int) (w : World) (h0 : RunsIn w v l0 0 w.heap.size) (hwf0 : ∀ a ∈ l0, WfRun a) (hn : (Lit.int .i64 n).wf = true) :
    Calls Try.prog 3 #[v, .int .i64 n] w fun e w' => e = .returned (.bool true) ∧ Below w.heap.size w w' := by
  have hn1 : -9223372036854775808 ≤ n ∧ n ≤ 9223372036854775807 := by
    simp only [Lit.wf, Bool.and_eq_true, decide_eq_true_eq] at hn
    exact ⟨by have := hn.1; exact this, by have := hn.2; exact this⟩
  clear hn
  obtain ⟨hn1, hn2⟩ := hn1
  have hfew := xfew v l0 0 w.heap.size w h0
  have hwf : ∀ a ∈ l0.take 30, WfRun a := fun a ha => hwf0 a (List.mem_of_mem_take ha)
  have hlen : (l0.take 30).length ≤ 30 := List.length_take_le _ _
  have hx := fun u W (hk : RunsIn W u (l0.take 30) 0 w.heap.size) => xlowest u (l0.take 30) n 0 w.heap.size W hk (by omega) hwf hn1 hn2
  have hz := fun u W (hk : RunsIn W u (l0.take 30) 0 w.heap.size) => zlowest u (l0.take 30) n 0 w.heap.size W hk (by omega) hwf hn1 hn2
  have hcount := @low_count (l0.take 30) n
  have hwithin := low_within (l0.take 30) n
  have hpl := lowRes_pl (l0.take 30) n
  obtain ⟨p0, c0, rfl⟩ := h0.shape
  clear h0 hwf0
  generalize l0.take 30 = l at *
  generalize l0.length = ll0 at *
  have HX := Lib.hid hx
  have HZ := Lib.hid hz
  have HC := Lib.hid hcount
  have HW := Lib.hid hwithin
  have HPL := Lib.hid hpl
  have HWF := Lib.hid hwf
  clear hx hz hcount hwithin hpl hwf
  go_enter Try.func3, Try.ntmps3
  go_wp2_with fail
  refine hfew.mono ?_; rintro e w0 ⟨⟨v1, rfl, r0⟩, rfl⟩
  have R0 := Lib.hid r0
  clear hfew r0
  go_wp2_with fail
  refine (HX.out _ _ R0.out).mono ?_; rintro e w1 hs1
  obtain ⟨vx, rfl, r1, k1⟩ := hs1.out
  have R1 := Lib.hid r1
  clear hs1 r1
  go_wp2_with fail
  refine (HZ.out _ _ (R0.out.kept0 k1)).mono ?_; rintro e w2 hs2
  obtain ⟨vy, rfl, r2, k2⟩ := hs2.out
  have R2 := Lib.hid r2
  clear hs2 r2
  have hlr := HPL.out.len0
  go_wp2_with fail
  refine (zsame vx vy (lowRes l n) _ _ _ _ w2 (R1.out.kept0 k2) R2.out (by omega)).mono ?_; rintro e w3 ⟨rfl, k3⟩
  obtain ⟨C, hC⟩ : ∃ C, lowCode l n = C := ⟨_, rfl⟩
  have HCC := Lib.hid hC
  rw [hC]
  clear hC
  go_wp2_with fail
  refine (xawake _).mono ?_; rintro e w4 ⟨rfl, k4⟩
  have hk4 : Kept [] w w4 := ((k1.trans k2).trans k3).trans k4
  by_cases hC0 : C = 0
  · subst hC0
    have hcn := HC.out HCC.out
    have hk14 : Kept [] w1 w4 := (k2.trans k3).trans k4
    go_wp2_with fail
    refine (xcount vx (lowRes l n) _ _ w4 (R1.out.kept0 hk14) (by omega) (pl_wf (Int.le_refl _) HPL.out)).mono ?_; rintro e w5 ⟨rfl, k5⟩
    rw [hcn]
    go_wp2_with fail
    refine (xminus vx (lowRes l n) _ _ v1 l _ _ w5 (R1.out.kept0 (hk14.trans k5)) (R0.out.kept0 (hk4.trans k5)) (by omega) (by omega) (pl_wf (Int.le_refl _) HPL.out) HWF.out).mono ?_; rintro e w6 hg
    rw [HW.out] at hg
    obtain ⟨vm, rfl, r6, k6⟩ := hg
    obtain ⟨p6, c6, rfl⟩ := own_shape r6
    clear r6
    have hkk := ((hk4.trans k5).trans k6).below
    go_wp2_with fail
    go_ret
    exact ⟨rfl, hkk⟩
  · have hkk := hk4.below
    go_wp2_with fail
    go_ret
    exact ⟨rfl, hkk⟩
end Go.Proofs.Ytmljbmhalpdpmaa
