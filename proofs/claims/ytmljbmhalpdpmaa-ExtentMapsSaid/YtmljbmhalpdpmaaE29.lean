/- Layer 10 (extent): ExtentBack's walk. -/
import Derived.Test.YtmljbmhalpdpmaaE28
namespace Go.Proofs.Ytmljbmhalpdpmaa
open Go.RowKit
set_option linter.unusedVariables false
set_option linter.unusedSimpArgs false

set_option maxRecDepth 100000 in
set_option maxHeartbeats 4000000 in
theorem backLaw (sn : Int) (v : Value) (l0 : List (Int × Int)) (n k : Int) (w : World) (hs : (Lit.int .u16 sn).wf = true) (h0 : RunsIn w v l0 0 w.heap.size) (hwf0 : ∀ a ∈ l0, WfRun a) (hn : (Lit.int .u16 n).wf = true) (hk : (Lit.int .u16 k).wf = true) :
    Calls Try.prog 8 #[.int .u16 sn, v, .int .u16 n, .int .u16 k] w fun e w' => e = .returned (.bool true) ∧ Below w.heap.size w w' := by
  have bd : ∀ {n : Int}, (Lit.int .u16 n).wf = true → 0 ≤ n ∧ n ≤ 65535 := fun hn => by
    simp only [Lit.wf, Bool.and_eq_true, decide_eq_true_eq] at hn
    exact ⟨by have := hn.1; exact this, by have := hn.2; exact this⟩
  obtain ⟨s1, s2⟩ := bd hs
  obtain ⟨n1, n2⟩ := bd hn
  obtain ⟨k1, k2⟩ := bd hk
  have hfew := fun W (hk : Kept [] w W) => xfew v l0 0 w.heap.size W (h0.kept0 hk)
  have hwf : ∀ a ∈ l0.take 30, WfRun a := fun a ha => hwf0 a (List.mem_of_mem_take ha)
  have hlen : (l0.take 30).length ≤ 30 := List.length_take_le _ _
  obtain ⟨p0, c0, rfl⟩ := h0.shape
  clear h0 hwf0 hs hn hk bd
  generalize l0.take 30 = l at *
  generalize l0.length = ll0 at *
  obtain ⟨z, hz⟩ : ∃ z, sn % 8193 = z := ⟨_, rfl⟩
  have z1 : 0 ≤ z := by omega
  have z2 : z ≤ 8192 := by omega
  have hnew := fun W => mnew 0 z W (by omega) z1 z2
  have HN := Lib.hid hnew
  have HF := Lib.hid hfew
  have HW := Lib.hid hwf
  clear hnew hfew hwf
  go_enter Try.func8, Try.ntmps8
  go_wp2_with fail
  clear hz
  refine (HN.out _).mono ?_; rintro e w1 ⟨⟨b, rfl, hb, hM1⟩, q1⟩
  have M1 := Lib.hid hM1
  clear hM1 HN
  go_wp2_with fail
  refine (HF.out _ q1).mono ?_; rintro e w' ⟨⟨vl, rfl, rl⟩, rfl⟩
  have hh := mhold_any M1.out (within_free _ _ _) vl l _ _ rl (by omega) HW.out (by omega) (by omega) z1 z2
  have HH := Lib.hid hh
  clear hh rl HF
  go_wp2_with fail
  refine HH.out.mono ?_; rintro e w2 ⟨Ch, F, rfl, hWi, hM2, q2⟩
  have M2 := Lib.hid hM2
  have WI := Lib.hid hWi
  have Q2 : Kept [] w w2 := q1.call q2 (fun x hx => Or.inr (by
    have hx : x = b := by simpa using hx
    omega))
  clear hM2 hWi HH
  go_wp2_with fail
  refine (mfree M2.out).mono ?_; rintro e w3 hg; obtain ⟨vo, rfl, ro, q3⟩ := hg.row
  have M3 := Lib.hid (M2.out.kept0 q3)
  have RO := Lib.hid ro
  have Q3 := Q2.trans q3
  obtain ⟨po, co, rfl⟩ := ro.shape
  clear hg ro
  obtain ⟨C1, hC1⟩ : ∃ C, lowCode F n = C := ⟨_, rfl⟩
  obtain ⟨L1, hL1⟩ : ∃ L, lowRes F n = L := ⟨_, rfl⟩
  obtain ⟨F1, hF1⟩ : ∃ G, takeF F n = G := ⟨_, rfl⟩
  obtain ⟨C2, hC2⟩ : ∃ C, lowCode F1 k = C := ⟨_, rfl⟩
  obtain ⟨L2, hL2⟩ : ∃ L, lowRes F1 k = L := ⟨_, rfl⟩
  obtain ⟨F2, hF2⟩ : ∃ G, takeF F1 k = G := ⟨_, rfl⟩
  have hk1 := take_ok M2.out.pl WI.out hC1 hL1 hF1
  have hk2 := take_ok hk1.pl1 hk1.win1 hC2 hL2 hF2
  have hap : C1 = 0 → commonL L1 L2 = [] := fun h => by rw [← hL2]; exact hk1.apart h k
  have T1 := Lib.hid hk1
  have T2 := Lib.hid hk2
  have AP := Lib.hid hap
  have hlF := M2.out.pl.len0
  have hl1 := hk1.plL.len0
  have hl2 := hk2.plL.len0
  have PF := Lib.hid M2.out.pl
  have ht1 := mtakeL M3.out n n1 n2 hC1 hL1 hF1
  have HT1 := Lib.hid ht1
  have ht2 := fun W (h : MapAt W b 0 z F1) => mtakeL h k k1 k2 hC2 hL2 hF2
  have HT2 := Lib.hid ht2
  clear ht1 ht2 hC1 hL1 hF1 hC2 hL2 hF2 hk1 hk2 hap
  go_wp2_with fail
  refine HT1.out.mono ?_; rintro e w4 ⟨⟨va, rfl, ra⟩, hM4, q4⟩
  have M4 := Lib.hid hM4
  have RA := Lib.hid ra
  obtain ⟨pa, ca, rfl⟩ := ra.shape
  have Q4 : Kept [] w w4 := Q3.call q4 (fun x hx => Or.inr (by
    have hx : x = b := by simpa using hx
    omega))
  clear hM4 ra HT1
  go_wp2_with fail
  refine (HT2.out _ M4.out).mono ?_; rintro e w5 ⟨⟨vb, rfl, rb⟩, hM5, q5⟩
  have M5 := Lib.hid hM5
  have RB := Lib.hid rb
  obtain ⟨pb, cb, rfl⟩ := rb.shape
  have Q5 : Kept [] w w5 := Q4.call q5 (fun x hx => Or.inr (by
    have hx : x = b := by simpa using hx
    omega))
  have RA5 := Lib.hid (RA.out.kept q5 M4.out.noRuns)
  have RO5 := Lib.hid (RO.out.kept (q4.trans q5) M3.out.noRuns)
  clear hM5 rb RA RO HT2
  by_cases e1 : C1 = 0
  · subst e1
    obtain ⟨g1, hcA, hjA⟩ := T1.out.yes rfl
    have G1 := Lib.hid g1
    have HCA := Lib.hid hcA
    have HJA := Lib.hid hjA
    clear g1 hcA hjA
    by_cases e2 : C2 = 0
    · subst e2
      obtain ⟨g2, hcB, hjB⟩ := T2.out.yes rfl
      have G2 := Lib.hid g2
      have HCB := Lib.hid hcB
      have HJB := Lib.hid hjB
      clear g2 hcB hjB
      have hco := zcommon _ L1 0 _ _ L2 0 _ w5 RA5.out.in_ RB.out.in_ (by omega) (by omega) (pl_wf (Int.le_refl _) T1.out.plL) (pl_wf (Int.le_refl _) T2.out.plL)
      rw [AP.out rfl] at hco
      have HCO := Lib.hid hco
      clear hco
      go_wp2_with fail
      refine HCO.out.mono ?_; rintro e x1 hg; obtain ⟨vz, rfl, rz, i1⟩ := hg.row
      obtain ⟨pz, cz, rfl⟩ := rz.shape
      clear hg rz
      have hc1 := zcount _ L1 0 _ x1 (RA5.out.kept0 i1).in_ (by omega) (pl_wf (Int.le_refl _) T1.out.plL)
      rw [G1.out] at hc1
      have HC1 := Lib.hid hc1
      clear hc1
      go_wp2_with fail
      refine HC1.out.mono ?_; rintro e x2 ⟨rfl, i2⟩
      have hc2 := zcount _ L2 0 _ x2 (RB.out.kept0 (i1.trans i2)).in_ (by omega) (pl_wf (Int.le_refl _) T2.out.plL)
      rw [G2.out] at hc2
      have HC2 := Lib.hid hc2
      clear hc2
      go_wp2_with fail
      refine HC2.out.mono ?_; rintro e x3 ⟨rfl, i3⟩
      have i03 := (i1.trans i2).trans i3
      have Q6 := Q5.trans i03
      have M6 := Lib.hid (M5.out.kept0 i03)
      have hgb := mgive_ok M6.out _ _ (RB.out.kept0 i03) T2.out.plL T2.out.winL HCB.out HJB.out (by omega) (by omega) z1 z2
      have HGB := Lib.hid hgb
      clear hgb
      go_wp2_with fail
      refine HGB.out.mono ?_; rintro e x4 ⟨rfl, hM7, i4⟩
      have M7 := Lib.hid hM7
      have RA7 := Lib.hid ((RA5.out.kept0 i03).kept i4 M6.out.noRuns)
      have RO7 := Lib.hid ((RO5.out.kept0 i03).kept i4 M6.out.noRuns)
      have Q7 : Kept [] w x4 := Q6.call i4 (fun x hx => Or.inr (by
        have hx : x = b := by simpa using hx
        omega))
      have hga := mgive_ok M7.out _ _ RA7.out T1.out.plL T1.out.winL HCA.out HJA.out (by omega) (by omega) z1 z2
      have HGA := Lib.hid hga
      clear hga hM7
      go_wp2_with fail
      refine HGA.out.mono ?_; rintro e x5 ⟨rfl, hM8, i5⟩
      have M8 := Lib.hid hM8
      have RO8 := Lib.hid (RO7.out.kept i5 M7.out.noRuns)
      have Q8 : Kept [] w x5 := Q7.call i5 (fun x hx => Or.inr (by
        have hx : x = b := by simpa using hx
        omega))
      clear hM8
      go_wp2_with fail
      refine (mfree M8.out).mono ?_; rintro e y1 hg; obtain ⟨vf, rfl, rf, j1⟩ := hg.row
      have RF := Lib.hid rf
      have N1 := Lib.hid (M8.out.kept0 j1)
      have RO1 := Lib.hid (RO8.out.kept0 j1)
      clear hg rf
      go_wp2_with fail
      refine (zsame _ _ F _ _ _ _ y1 RF.out.in_ RO1.out.in_ (by omega)).mono ?_; rintro e y2 ⟨rfl, j2⟩
      go_wp2_with fail
      refine (mroom (N1.out.kept0 j2)).mono ?_; rintro e y3 ⟨rfl, j3⟩
      go_wp2_with fail
      refine (zcount _ F 0 _ y3 (RO1.out.kept0 (j2.trans j3)).in_ (by omega) (pl_wf (Int.le_refl _) PF.out)).mono ?_; rintro e y4 ⟨rfl, j4⟩
      go_wp2_with fail
      refine (xawake _).mono ?_; rintro e y5 ⟨rfl, j5⟩
      have hkk := ((Q8.trans j1).trans ((j2.trans j3).trans (j4.trans j5))).below
      go_wp2_with fail
      go_ret
      exact ⟨rfl, hkk⟩
    · have hE := T2.out.no e2
      rw [hE] at M5
      clear hE
      have hga := mgive_ok M5.out _ _ RA5.out T1.out.plL T1.out.winL HCA.out HJA.out (by omega) (by omega) z1 z2
      have HGA := Lib.hid hga
      clear hga
      go_wp2_with fail
      refine HGA.out.mono ?_; rintro e x5 ⟨rfl, hM8, i5⟩
      have M8 := Lib.hid hM8
      have RO8 := Lib.hid (RO5.out.kept i5 M5.out.noRuns)
      have Q8 : Kept [] w x5 := Q5.call i5 (fun x hx => Or.inr (by
        have hx : x = b := by simpa using hx
        omega))
      clear hM8
      go_wp2_with fail
      refine (mfree M8.out).mono ?_; rintro e y1 hg; obtain ⟨vf, rfl, rf, j1⟩ := hg.row
      have RF := Lib.hid rf
      have N1 := Lib.hid (M8.out.kept0 j1)
      have RO1 := Lib.hid (RO8.out.kept0 j1)
      clear hg rf
      go_wp2_with fail
      refine (zsame _ _ F _ _ _ _ y1 RF.out.in_ RO1.out.in_ (by omega)).mono ?_; rintro e y2 ⟨rfl, j2⟩
      go_wp2_with fail
      refine (mroom (N1.out.kept0 j2)).mono ?_; rintro e y3 ⟨rfl, j3⟩
      go_wp2_with fail
      refine (zcount _ F 0 _ y3 (RO1.out.kept0 (j2.trans j3)).in_ (by omega) (pl_wf (Int.le_refl _) PF.out)).mono ?_; rintro e y4 ⟨rfl, j4⟩
      go_wp2_with fail
      refine (xawake _).mono ?_; rintro e y5 ⟨rfl, j5⟩
      have hkk := ((Q8.trans j1).trans ((j2.trans j3).trans (j4.trans j5))).below
      go_wp2_with fail
      go_ret
      exact ⟨rfl, hkk⟩
  · have hE := T1.out.no e1
    by_cases e2 : C2 = 0
    · subst e2
      obtain ⟨g2, hcB, hjB⟩ := T2.out.yes rfl
      rw [hE] at hjB
      clear hE g2
      have hgb := mgive_ok M5.out _ _ RB.out T2.out.plL T2.out.winL hcB hjB (by omega) (by omega) z1 z2
      have HGB := Lib.hid hgb
      clear hgb hcB hjB
      go_wp2_with fail
      refine HGB.out.mono ?_; rintro e x5 ⟨rfl, hM8, i5⟩
      have M8 := Lib.hid hM8
      have RO8 := Lib.hid (RO5.out.kept i5 M5.out.noRuns)
      have Q8 : Kept [] w x5 := Q5.call i5 (fun x hx => Or.inr (by
        have hx : x = b := by simpa using hx
        omega))
      clear hM8
      go_wp2_with fail
      refine (mfree M8.out).mono ?_; rintro e y1 hg; obtain ⟨vf, rfl, rf, j1⟩ := hg.row
      have RF := Lib.hid rf
      have N1 := Lib.hid (M8.out.kept0 j1)
      have RO1 := Lib.hid (RO8.out.kept0 j1)
      clear hg rf
      go_wp2_with fail
      refine (zsame _ _ F _ _ _ _ y1 RF.out.in_ RO1.out.in_ (by omega)).mono ?_; rintro e y2 ⟨rfl, j2⟩
      go_wp2_with fail
      refine (mroom (N1.out.kept0 j2)).mono ?_; rintro e y3 ⟨rfl, j3⟩
      go_wp2_with fail
      refine (zcount _ F 0 _ y3 (RO1.out.kept0 (j2.trans j3)).in_ (by omega) (pl_wf (Int.le_refl _) PF.out)).mono ?_; rintro e y4 ⟨rfl, j4⟩
      go_wp2_with fail
      refine (xawake _).mono ?_; rintro e y5 ⟨rfl, j5⟩
      have hkk := ((Q8.trans j1).trans ((j2.trans j3).trans (j4.trans j5))).below
      go_wp2_with fail
      go_ret
      exact ⟨rfl, hkk⟩
    · have hE2 := T2.out.no e2
      rw [hE2, hE] at M5
      clear hE hE2
      go_wp2_with fail
      refine (mfree M5.out).mono ?_; rintro e y1 hg; obtain ⟨vf, rfl, rf, j1⟩ := hg.row
      have RF := Lib.hid rf
      have N1 := Lib.hid (M5.out.kept0 j1)
      have RO1 := Lib.hid (RO5.out.kept0 j1)
      clear hg rf
      go_wp2_with fail
      refine (zsame _ _ F _ _ _ _ y1 RF.out.in_ RO1.out.in_ (by omega)).mono ?_; rintro e y2 ⟨rfl, j2⟩
      go_wp2_with fail
      refine (mroom (N1.out.kept0 j2)).mono ?_; rintro e y3 ⟨rfl, j3⟩
      go_wp2_with fail
      refine (zcount _ F 0 _ y3 (RO1.out.kept0 (j2.trans j3)).in_ (by omega) (pl_wf (Int.le_refl _) PF.out)).mono ?_; rintro e y4 ⟨rfl, j4⟩
      go_wp2_with fail
      refine (xawake _).mono ?_; rintro e y5 ⟨rfl, j5⟩
      have hkk := ((Q5.trans j1).trans ((j2.trans j3).trans (j4.trans j5))).below
      go_wp2_with fail
      go_ret
      exact ⟨rfl, hkk⟩
end Go.Proofs.Ytmljbmhalpdpmaa
