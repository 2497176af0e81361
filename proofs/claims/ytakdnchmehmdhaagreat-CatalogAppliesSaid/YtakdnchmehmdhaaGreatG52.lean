/- Layer 49 (catalog): the law Applies. -/
import Derived.Test.YtakdnchmehmdhaaGreatG24
import Derived.Test.YtakdnchmehmdhaaGreatG43
import Derived.Test.YtakdnchmehmdhaaGreatG51
namespace Go.Proofs.YtakdnchmehmdhaaGreat
open Go.RowKit
set_option linter.unusedVariables false
set_option linter.unusedSimpArgs false

theorem recsX_cases : ∀ (l : List JRec) (c : JCat), mayC c → (∀ r ∈ l, 0 ≤ r.id) → ((recsX c l).2 = 0 ∧ mayC (recsX c l).1) ∨ (¬ (recsX c l).2 = 0 ∧ (recsX c l).1 = catNo)
  | [], c, h, _ => Or.inl ⟨rfl, h⟩
  | r :: l, c, h, hid => by
    rw [recsX]
    by_cases h1 : mayR r = true
    · rw [if_pos h1]
      by_cases h2 : (oneX c r).2 = 0
      · rw [if_pos h2]
        exact recsX_cases l _ (one_may h h1 (hid r List.mem_cons_self) h2) (fun q hq => hid q (List.mem_cons_of_mem _ hq))
      · rw [if_neg h2]; exact Or.inr ⟨h2, rfl⟩
    · rw [if_neg h1]; exact Or.inr ⟨by decide, rfl⟩
theorem applyX_cases {c : JCat} {l : List JRec} (hid : ∀ r ∈ l, 0 ≤ r.id) : ((applyX c l).2 = 0 ∧ mayC (applyX c l).1) ∨ (¬ (applyX c l).2 = 0 ∧ (applyX c l).1 = catNo) := by
  unfold applyX
  by_cases h : mayC c
  · rw [if_pos h]; exact recsX_cases l c h hid
  · rw [if_neg h]; exact Or.inr ⟨by decide, rfl⟩
theorem RecsIn.fits' {w : World} {v : Value} {l : List JRec} {lo hi : Nat} (h : RecsIn w v l lo hi) : ∀ r ∈ l, r.fits := fun r hr => by
  obtain ⟨i, hi', rfl⟩ := List.mem_iff_getElem.1 hr
  obtain ⟨p, c, rfl⟩ := RowsOf.shape h
  obtain ⟨_, _, _, _, _, _, _, _, _, _, hf, _⟩ := RecsIn.at_ h i hi'
  exact hf
set_option maxRecDepth 100000 in
set_option maxHeartbeats 8000000 in
theorem appliesLaw (v : Value) (c : JCat) (vl : Value) (l : List JRec) (w : World) (h : CatIn w v c) (hr : RecsIn w vl l 0 w.heap.size) (hwl : ∀ q ∈ l, ∀ a ∈ q.runs, WfRun a) :
    Calls Tryz.prog 5 #[v, vl] w fun e w' => e = .returned (.bool true) ∧ Below w.heap.size w w' := by
  have HAW := Lib.hid zawake
  have HLI : Hid (∀ W, Kept [] w W → Calls Tryz.prog 9 #[v] W (EqSays (lightC c) W)) := Lib.hid (fun W q => zlight v c W (h.kept0 q))
  have HRE : Hid (∀ W, Kept [] w W → Calls Tryz.prog 21 #[vl] W (EqSays (fewR l) W)) := Lib.hid (fun W q => zrecsF vl l _ _ W (hr.kept0 q))
  have HAP : Hid (∀ W, Kept [] w W → lightC c → fewR l → Calls Tryz.prog 22 #[v, vl] W (ApplySays (fun _ => False) (applyX c l) W)) := Lib.hid (fun W q hl hf => zApply v c vl l _ _ W ((h.kept0 q).offS (fun x hx => hx.elim)) (fun x hx => hx.elim) hl.small (hr.kept0 q) hwl (fun r hr' => by have := (hf.2 r hr').1; omega))
  have HQA : Hid (∀ W, Kept [] w W → lightC c → fewR l → Calls Tryz.prog 23 #[v, vl] W (ApplySays (fun _ => False) (applyX c l) W)) := Lib.hid (fun W q hl hf => qApply v c vl l _ _ W ((h.kept0 q).offS (fun x hx => hx.elim)) (fun x hx => hx.elim) hl.small (hr.kept0 q) hwl (fun r hr' => by have := (hf.2 r hr').1; omega))
  have hcs := applyX_cases (c := c) (l := l) (fun r hr' => (bd32 (hr.fits' r hr').2.1).1)
  obtain ⟨⟨N, C⟩, hN⟩ : ∃ N, applyX c l = N := ⟨_, rfl⟩
  rw [hN] at HAP HQA hcs
  simp only at hcs
  have HCS := Lib.hid hcs
  have HSM : Hid (SmallC N) := Lib.hid (by
    rcases hcs with ⟨_, hm⟩ | ⟨_, rfl⟩
    · exact hm.small
    · exact small_catNo)
  have HSAME : Hid (∀ W v u c, CatIn W v c → CatIn W u c → SmallC c → Calls Tryz.prog 15 #[v, u] W fun e w' => e = .returned (.bool true) ∧ Kept [] W w') := Lib.hid (fun W v u c h1 h2 hs => (qcatSame v u c c W h1 h2 hs hs).mono (fun e w' ⟨b, he, hb, k⟩ => ⟨by rw [he, hb.2 rfl], k⟩))
  have HMAY : Hid (∀ W v, CatIn W v N → mayC N → Calls Tryz.prog 12 #[v] W fun e w' => e = .returned (.bool true) ∧ Kept [] W w') := Lib.hid (fun W v h hm => (qmayC v N W h hm.small).mono (fun e w' ⟨b, he, hb, k⟩ => ⟨by rw [he, hb.2 hm], k⟩))
  obtain ⟨pl, cl, rfl⟩ := RowsOf.shape hr
  obtain ⟨vb, vm, vn, rfl, hb, hm, hn, _⟩ := h
  obtain ⟨p1, c1, rfl⟩ := hb.shape
  obtain ⟨p2, c2, rfl⟩ := hm.shape
  obtain ⟨p3, c3, rfl⟩ := hn.shape
  have oA := Own.new w #[.int .u32 c.nextBox, .int .u32 c.nextMan, .slice p1 c.boxes.length c1, .slice p2 c.mans.length c2, .slice p3 c.names.length c3] 25
  have k0 : Kept [] w (w.alloc (.cells #[.int .u32 c.nextBox, .int .u32 c.nextMan, .slice p1 c.boxes.length c1, .slice p2 c.mans.length c2, .slice p3 c.names.length c3] 25)) := (Kept.refl _ _).alloc _
  have HA5 : Hid (∀ W, Kept [] (w.alloc (.cells #[.int .u32 c.nextBox, .int .u32 c.nextMan, .slice p1 c.boxes.length c1, .slice p2 c.mans.length c2, .slice p3 c.names.length c3] 25)) W → W.cell? ⟨w.heap.size, 0, none⟩ = some (.int .u32 c.nextBox) ∧ W.cell? ⟨w.heap.size, 1, none⟩ = some (.int .u32 c.nextMan) ∧ W.cell? ⟨w.heap.size, 2, none⟩ = some (.slice p1 c.boxes.length c1) ∧ W.cell? ⟨w.heap.size, 3, none⟩ = some (.slice p2 c.mans.length c2) ∧ W.cell? ⟨w.heap.size, 4, none⟩ = some (.slice p3 c.names.length c3)) := Lib.hid (fun W q => (q.own oA (by simp)).k5)
  have K0 := Lib.hid k0
  obtain ⟨x0, x1, x2, x3, x4⟩ := HA5.out _ (Kept.refl _ _)
  unfold EqSays at HLI HRE
  unfold ApplySays at HAP HQA
  clear hcs hN hr hwl hb hm hn oA k0
  go_enter Tryz.func5, Tryz.ntmps5
  go_wp2_with fail
  refine (HLI.out _ K0.out).mono ?_; rintro e w1 ⟨b1, rfl, hb1, k1⟩
  have K1 := Lib.hid (K0.out.trans k1)
  have KX1 := Lib.hid k1
  have HB1 := Lib.hid hb1
  clear hb1 k1 x0 x1 x2 x3 x4
  cases b1 with
  | false =>
    go_wp2_with fail
    refine (HAW.out _).mono ?_; rintro e w9 ⟨rfl, k9⟩
    have K9 := Lib.hid (K1.out.trans k9)
    clear k9
    go_wp2_with fail
    go_ret
    exact ⟨rfl, K9.out.below⟩
  | true =>
    go_wp2_with fail
    refine (HRE.out _ K1.out).mono ?_; rintro e w2 ⟨b2, rfl, hb2, k2⟩
    have K2 := Lib.hid (K1.out.trans k2)
    have KX2 := Lib.hid (KX1.out.trans k2)
    have HB2 := Lib.hid hb2
    clear hb2 k2
    cases b2 with
    | false =>
      go_wp2_with fail
      refine (HAW.out _).mono ?_; rintro e w9 ⟨rfl, k9⟩
      have K9 := Lib.hid (K2.out.trans k9)
      clear k9
      go_wp2_with fail
      go_ret
      exact ⟨rfl, K9.out.below⟩
    | true =>
      have HL := Lib.hid (HB1.out.1 (by simp))
      have HF := Lib.hid (HB2.out.1 (by simp))
      obtain ⟨x0, x1, x2, x3, x4⟩ := HA5.out _ KX2.out
      go_wp2_with fail
      refine (HAP.out _ K2.out HL.out HF.out).mono ?_; rintro e w3 ⟨u3, rfl, hu3, k3⟩
      have hc3 := hu3.plain
      obtain ⟨a1, a2, a3, b1, b2, b3, d1, d2, d3, rfl⟩ := hc3.parts
      obtain ⟨w4, hw4⟩ : ∃ w4, w4 = w3.alloc (.cells #[.int .u32 N.nextBox, .int .u32 N.nextMan, .slice a1 a2 a3, .slice b1 b2 b3, .slice d1 d2 d3] 25) := ⟨_, rfl⟩
      have k4 : Kept [] w3 w4 := by rw [hw4]; exact (Kept.refl _ _).alloc _
      have oB : Own w4 w3.heap.size #[.int .u32 N.nextBox, .int .u32 N.nextMan, .slice a1 a2 a3, .slice b1 b2 b3, .slice d1 d2 d3] 25 := by rw [hw4]; exact Own.new _ _ _
      have K4 := Lib.hid (K2.out.trans (k3.trans k4))
      have KX4 := Lib.hid (KX2.out.trans (k3.trans k4))
      have HC4 := Lib.hid (hc3.kept0 k4)
      have OB := Lib.hid oB
      clear hu3 hc3 k3 k4 oB x0 x1 x2 x3 x4
      go_upto_region 4 with fail
      rw [← hw4]
      clear hw4
      generalize w3.heap.size = bb at *
      obtain ⟨x0, x1, x2, x3, x4⟩ := HA5.out _ KX4.out
      go_wp2_with fail
      refine (HQA.out _ K4.out HL.out HF.out).mono ?_; rintro e w5 ⟨u5, rfl, hu5, k5⟩
      have hc5 := hu5.plain
      obtain ⟨a4, a5, a6, b4, b5, b6, d4, d5, d6, rfl⟩ := hc5.parts
      obtain ⟨w6, hw6⟩ : ∃ w6, w6 = w5.alloc (.cells #[.int .u32 N.nextBox, .int .u32 N.nextMan, .slice a4 a5 a6, .slice b4 b5 b6, .slice d4 d5 d6] 25) := ⟨_, rfl⟩
      have k6 : Kept [] w5 w6 := by rw [hw6]; exact (Kept.refl _ _).alloc _
      have oC : Own w6 w5.heap.size #[.int .u32 N.nextBox, .int .u32 N.nextMan, .slice a4 a5 a6, .slice b4 b5 b6, .slice d4 d5 d6] 25 := by rw [hw6]; exact Own.new _ _ _
      have K6 := Lib.hid (K4.out.trans (k5.trans k6))
      have HC6 := Lib.hid (hc5.kept0 k6)
      have HC46 := Lib.hid (HC4.out.kept0 (k5.trans k6))
      have OB6 := Lib.hid ((k5.trans k6).own OB.out (by simp))
      obtain ⟨y0, y1, y2, y3, y4⟩ := OB6.out.k5
      obtain ⟨z0, z1, z2, z3, z4⟩ := oC.k5
      clear hu5 hc5 k5 k6 oC x0 x1 x2 x3 x4
      go_upto_region 5 with fail
      rw [← hw6]
      clear hw6
      generalize w5.heap.size = bc at *
      have hcc : (C == C) = true := by simp
      go_wp2_with fail
      refine (HSAME.out w6 _ _ N HC46.out HC6.out HSM.out).mono ?_; rintro e w7 ⟨rfl, k7⟩
      have K7 := Lib.hid (K6.out.trans k7)
      have HC7 := Lib.hid (HC46.out.kept0 k7)
      obtain ⟨y0, y1, y2, y3, y4⟩ := (k7.own OB6.out (by simp)).k5
      clear k7 z0 z1 z2 z3 z4
      rcases HCS.out with ⟨h0, hm⟩ | ⟨h0, _⟩
      · subst h0
        have HM := Lib.hid hm
        clear hm
        go_wp2_with fail
        refine (HMAY.out _ _ HC7.out HM.out).mono ?_; rintro e w8 ⟨rfl, k8⟩
        have K8 := Lib.hid (K7.out.trans k8)
        clear k8 y0 y1 y2 y3 y4
        go_wp2_with fail
        refine (HAW.out _).mono ?_; rintro e w9 ⟨rfl, k9⟩
        have K9 := Lib.hid (K8.out.trans k9)
        clear k9
        go_wp2_with fail
        go_ret
        exact ⟨rfl, K9.out.below⟩
      · have hcf : (C == 0) = false := by simpa using h0
        have hcn : (C != 0) = true := by simp [bne, hcf]
        clear h0
        go_wp2_with fail
        refine (HAW.out _).mono ?_; rintro e w9 ⟨rfl, k9⟩
        have K9 := Lib.hid (K7.out.trans k9)
        clear k9
        go_wp2_with fail
        go_ret
        exact ⟨rfl, K9.out.below⟩
end Go.Proofs.YtakdnchmehmdhaaGreat
