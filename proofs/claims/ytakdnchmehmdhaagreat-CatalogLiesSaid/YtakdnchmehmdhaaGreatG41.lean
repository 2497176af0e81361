/- Layer 51 (catalog): the law Lies. -/
import Derived.Test.YtakdnchmehmdhaaGreatG38
import Derived.Test.YtakdnchmehmdhaaGreatG39
import Derived.Test.YtakdnchmehmdhaaGreatG40
namespace Go.Proofs.YtakdnchmehmdhaaGreat
open Go.RowKit
set_option linter.unusedVariables false
set_option linter.unusedSimpArgs false

theorem CatIn.wfr {w : World} {v : Value} {c : JCat} (h : CatIn w v c) : ∀ a ∈ runsC c, WfRun a := by
  obtain ⟨vb, vm, vn, rfl, hb, hm, hn, _⟩ := h
  have hf : ∀ {u : Value} {L : List JItem}, ItemsIn w u L → ∀ x ∈ L, ∀ a ∈ x.runs, WfRun a := fun {u L} hi x hx => by
    obtain ⟨vs, hvs, _, hok⟩ := hi
    rw [← hvs] at hx
    obtain ⟨y, hy, rfl⟩ := List.mem_map.1 hx
    exact (hok y hy).2.2
  intro a ha
  unfold runsC at ha
  obtain ⟨q, hq, haq⟩ := List.mem_flatten.1 ha
  obtain ⟨r, hr, rfl⟩ := List.mem_map.1 hq
  unfold catR at hr
  simp only [List.mem_append, List.mem_map] at hr
  rcases hr with (⟨x, hx, rfl⟩ | ⟨x, hx, rfl⟩) | ⟨x, hx, rfl⟩
  · exact hf hb x hx a haq
  · exact hf hm x hx a haq
  · exact hf hn x hx a haq
theorem RunsIn.lenM {w : World} {v : Value} {l : List (Int × Int)} {lo hi : Nat} (h : RunsIn w v l lo hi) : l.length ≤ maxLen := by
  rcases h with ⟨rfl, _⟩ | ⟨b, off, c, _, _, _, _, _, _, h6, h7⟩
  · exact Nat.zero_le _
  · omega
set_option maxRecDepth 100000 in
set_option maxHeartbeats 8000000 in
theorem liesLaw (v : Value) (c : JCat) (sec jr : Int) (vo : Value) (others : List (Int × Int)) (w : World) (h : CatIn w v c) (hsec : (Lit.int .i64 sec).wf = true) (hjr : (Lit.int .i64 jr).wf = true) (ho : RunsIn w vo others 0 w.heap.size) (hwo : ∀ a ∈ others, WfRun a) :
    Calls Tryz.prog 6 #[v, .int .i64 sec, .int .i64 jr, vo] w fun e w' => e = .returned (.bool true) ∧ Below w.heap.size w w' := by
  have HAW := Lib.hid zawake
  have hol : others.length ≤ maxLen := RunsIn.lenM ho
  have hol' : (others.length : Int) ≤ 9223372036854775807 := by unfold maxLen at hol; omega
  have HLI : Hid (∀ W, Kept [] w W → Calls Tryz.prog 9 #[v] W (EqSays (lightC c) W)) := Lib.hid (fun W q => zlight v c W (h.kept0 q))
  have HRU : Hid (∀ W, Kept [] w W → lightC c → Calls Tryz.prog 24 #[v] W (GivesR (runsC c) W)) := Lib.hid (fun W q hl => qcatRuns v c W (h.kept0 q) (by have := hl.len; omega) (by have := hl.runs; omega))
  have HU : Hid (∀ W, Kept [] w W → RunsIn W vo others 0 w.heap.size) := Lib.hid (fun W q => ho.kept0 q)
  have hwf : ∀ a ∈ runsC c ++ others, WfRun a := fun a ha => by
    rcases List.mem_append.1 ha with ha | ha
    · exact h.wfr a ha
    · exact hwo a ha
  obtain ⟨s1, s2⟩ := bd64 hsec
  obtain ⟨j1, j2⟩ := bd64 hjr
  have HZL : Hid (∀ W, Kept [] w W → lightC c → others.length ≤ 20 → (∀ a ∈ runsC c ++ others, a.1 ≤ 1099511627776 ∧ a.2 ≤ 1099511627776 ∧ sec ≤ 1099511627776) → Calls Tryz.prog 26 #[v, .int .i64 sec, .int .i64 jr, vo] W (LiesSays (LiesL sec jr (runsC c ++ others)) W)) := Lib.hid (fun W q hl h20 hb => zlies v c sec jr vo others _ _ W (h.kept0 q) (by have := hl.len; omega) (by have := hl.runs; omega) (ho.kept0 q) (by omega) hwf s1 ⟨j1, j2⟩ hb)
  have HQL : Hid (∀ W u lo hi, RunsIn W u (runsC c ++ others) lo hi → lightC c → others.length ≤ 20 → (∀ a ∈ runsC c ++ others, a.1 ≤ 1099511627776 ∧ a.2 ≤ 1099511627776 ∧ sec ≤ 1099511627776) → Calls Tryz.prog 25 #[u, .int .i64 sec, .int .i64 jr] W (EqSays (LiesL sec jr (runsC c ++ others)) W)) := Lib.hid (fun W u lo hi hu hl h20 hb => qlies u _ sec jr lo hi W hu (by rw [List.length_append]; have := hl.runs; omega) hwf s1 ⟨j1, j2⟩ hb)
  have HLR : Hid (lightC c → (runsC c).length ≤ 720) := Lib.hid (fun hl => hl.runs)
  obtain ⟨po, co, rfl⟩ := ho.shape
  obtain ⟨vb, vm, vn, rfl, hb, hm, hn, _⟩ := h
  obtain ⟨p1, c1, rfl⟩ := hb.shape
  obtain ⟨p2, c2, rfl⟩ := hm.shape
  obtain ⟨p3, c3, rfl⟩ := hn.shape
  have oA := Own.new w #[.int .u32 c.nextBox, .int .u32 c.nextMan, .slice p1 c.boxes.length c1, .slice p2 c.mans.length c2, .slice p3 c.names.length c3] 25
  have k0 : Kept [] w (w.alloc (.cells #[.int .u32 c.nextBox, .int .u32 c.nextMan, .slice p1 c.boxes.length c1, .slice p2 c.mans.length c2, .slice p3 c.names.length c3] 25)) := (Kept.refl _ _).alloc _
  have HA5 : Hid (∀ W, Kept [] (w.alloc (.cells #[.int .u32 c.nextBox, .int .u32 c.nextMan, .slice p1 c.boxes.length c1, .slice p2 c.mans.length c2, .slice p3 c.names.length c3] 25)) W → W.cell? ⟨w.heap.size, 0, none⟩ = some (.int .u32 c.nextBox) ∧ W.cell? ⟨w.heap.size, 1, none⟩ = some (.int .u32 c.nextMan) ∧ W.cell? ⟨w.heap.size, 2, none⟩ = some (.slice p1 c.boxes.length c1) ∧ W.cell? ⟨w.heap.size, 3, none⟩ = some (.slice p2 c.mans.length c2) ∧ W.cell? ⟨w.heap.size, 4, none⟩ = some (.slice p3 c.names.length c3)) := Lib.hid (fun W q => (q.own oA (by simp)).k5)
  have K0 := Lib.hid k0
  obtain ⟨x0, x1, x2, x3, x4⟩ := HA5.out _ (Kept.refl _ _)
  obtain ⟨R, hR⟩ : ∃ R, runsC c = R := ⟨_, rfl⟩
  rw [hR] at HRU HZL HQL HLR
  unfold EqSays at HLI HQL
  unfold GivesR at HRU
  unfold LiesSays at HZL
  clear hb hm hn oA k0 ho hwo hwf hsec hjr hol hR s1 s2 j1 j2
  go_enter Tryz.func6, Tryz.ntmps6
  go_wp2_with fail
  refine (HLI.out _ K0.out).mono ?_; rintro e w1 ⟨b1, rfl, hb1, k1⟩
  have K1 := Lib.hid (K0.out.trans k1)
  have KX1 := Lib.hid k1
  have HB1 := Lib.hid hb1
  clear hb1 k1 x0 x1 x2 x3 x4
  cases b1 with
  | false =>
    go_wp2_with fail
    refine (HAW.out _).mono ?_; rintro e w9 ⟨rfl, k9⟩
    have K9 := Lib.hid (K1.out.trans k9)
    clear k9
    go_wp2_with fail
    go_ret
    exact ⟨rfl, K9.out.below⟩
  | true =>
    have HL := Lib.hid (HB1.out.1 (by simp))
    by_cases g1 : others.length ≤ 20
    · have d1 : decide ((others.length : Int) > 20) = false := by simp; omega
      have d1n : decide (20 < others.length) = false := by simp; omega
      have G1 := Lib.hid g1
      have hrl := HLR.out HL.out
      have HRL := Lib.hid hrl
      obtain ⟨x0, x1, x2, x3, x4⟩ := HA5.out _ KX1.out
      clear g1 hrl
      go_wp2_with fail
      refine (HRU.out _ K1.out HL.out).mono ?_; rintro e w3 ⟨v3, rfl, r3, k3⟩
      have K3 := Lib.hid (K1.out.trans k3)
      have KX3 := Lib.hid (KX1.out.trans k3)
      have ROW3 := Lib.hid (ownsRow_base r3 K1.out.size)
      obtain ⟨p3', c3', rfl⟩ := own_shape r3
      clear r3 k3 x0 x1 x2 x3 x4
      go_wp2_with (at_builtin; go_must (refine wpList_append_runs rfl (.tmp 22) (.tmp 23) rfl w.heap.size _ _ _ rfl ROW3.out _ others 0 w.heap.size rfl (HU.out _ K3.out) (by have := HRL.out; have := G1.out; unfold maxLen; omega) (by have := HRL.out; have := G1.out; omega) K3.out.size ?_))
      intro v6 w6 o6 gr6
      have K6 := Lib.hid (K3.out.grown gr6 (fun q hq => Or.inr (World.ownsRow.lt ROW3.out q hq).1))
      have HX6 : Hid (∀ W, Kept [] w6 W → W.cell? ⟨w.heap.size, 0, none⟩ = some (.int .u32 c.nextBox) ∧ W.cell? ⟨w.heap.size, 1, none⟩ = some (.int .u32 c.nextMan) ∧ W.cell? ⟨w.heap.size, 2, none⟩ = some (.slice p1 c.boxes.length c1) ∧ W.cell? ⟨w.heap.size, 3, none⟩ = some (.slice p2 c.mans.length c2) ∧ W.cell? ⟨w.heap.size, 4, none⟩ = some (.slice p3 c.names.length c3)) := Lib.hid (fun W q => by
        have o3 := KX3.out.own (Own.new w #[.int .u32 c.nextBox, .int .u32 c.nextMan, .slice p1 c.boxes.length c1, .slice p2 c.mans.length c2, .slice p3 c.names.length c3] 25) (by simp)
        have hne := own_row_ne ROW3.out o3 (by decide)
        have o6' : Own w6 w.heap.size #[.int .u32 c.nextBox, .int .u32 c.nextMan, .slice p1 c.boxes.length c1, .slice p2 c.mans.length c2, .slice p3 c.names.length c3] 25 := by
          show w6.heap[w.heap.size]? = _
          rw [gr6.block _ o3.lt (fun e => hne e.symm)]
          exact o3
        exact (q.own o6' (by simp)).k5)
      rw [← rcells_app, ← List.length_append] at o6
      have hl1 : (R ++ others).length ≤ 740 := by rw [List.length_append]; have := HRL.out; have := G1.out; omega
      clear gr6 ROW3 HU HRU
      generalize R ++ others = l at *
      have ROW6 := Lib.hid o6
      obtain ⟨p, cc, rfl⟩ := own_shape o6
      have H := Lib.hid (RunsIn.of_own o6)
      have hl' : (l.length : Int) ≤ 740 := by omega
      have HL1 := Lib.hid hl1
      clear o6 hl1
      go_wp2_with fail
      go_loopw [10] (fun i wr => ∃ k : Nat, k ≤ l.length ∧ i = .int .i64 k ∧ (∀ j (hj : j < l.length), j < k → l[j].1 ≤ 1099511627776 ∧ l[j].2 ≤ 1099511627776 ∧ sec ≤ 1099511627776) ∧ Kept [] w6 wr) (fun i _ => l.length - (intOf i).toNat)
      case atStart => exact ⟨0, Nat.zero_le _, rfl, fun j hj h => absurd h (Nat.not_lt_zero j), Kept.refl _ _⟩
      case round =>
        obtain ⟨k, hk, rfl, hM, hK⟩ := hrel
        rename World => wr
        have HK := Lib.hid hK
        have HKW := Lib.hid (K6.out.trans hK)
        by_cases hlt : k < l.length
        · obtain ⟨b, off, rfl, y0, y1, hb, hlc, hcm⟩ := (H.out.kept0 hK).at_ k hlt
          have hsu : (l[k].1 ≤ 1099511627776 ∧ l[k].2 ≤ 1099511627776 ∧ sec ≤ 1099511627776) → ∀ j (hj : j < l.length), j < k + 1 → l[j].1 ≤ 1099511627776 ∧ l[j].2 ≤ 1099511627776 ∧ sec ≤ 1099511627776 := fun h1 j hj hjk => by
            by_cases e : j = k
            · subst e; exact h1
            · exact hM j hj (by omega)
          have i1 : (k : Int) < l.length := by omega
          have HLT := Lib.hid hlt
          have HSU := Lib.hid hsu
          clear hsu hM hK hk
          generalize l[k]'hlt = X at *
          clear hlt
          obtain ⟨x0, xn⟩ := X
          simp only at y0 y1 HSU
          by_cases g1 : x0 ≤ 1099511627776
          · have e1 : decide (x0 > 1099511627776) = false := by simp; omega
            have e1' : decide (1099511627776 < x0) = false := e1
            by_cases g2 : xn ≤ 1099511627776
            · have e2 : decide (xn > 1099511627776) = false := by simp; omega
              have e2' : decide (1099511627776 < xn) = false := e2
              by_cases g3 : sec ≤ 1099511627776
              · have e3 : decide (sec > 1099511627776) = false := by simp; omega
                have e3' : decide (1099511627776 < sec) = false := e3
                have HS2 := Lib.hid (HSU.out ⟨g1, g2, g3⟩)
                clear g1 g2 g3
                go_wp2_with fail
                go_roundw
                case rel => exact ⟨k + 1, HLT.out, by go_num, HS2.out, HK.out⟩
                case measure => (have hh := HLT.out; simp [intOf]; omega)
              · have e3 : decide (sec > 1099511627776) = true := by simp; omega
                have e3' : decide (1099511627776 < sec) = true := e3
                clear g1 g2 g3
                go_wp2_with fail
                refine (HAW.out _).mono ?_; rintro e w9 ⟨rfl, k9⟩
                have K9 := Lib.hid (HKW.out.trans k9)
                clear k9
                go_wp2_with fail
                go_ret
                exact ⟨rfl, K9.out.below⟩
            · have e2 : decide (xn > 1099511627776) = true := by simp; omega
              have e2' : decide (1099511627776 < xn) = true := e2
              clear g1 g2
              go_wp2_with fail
              refine (HAW.out _).mono ?_; rintro e w9 ⟨rfl, k9⟩
              have K9 := Lib.hid (HKW.out.trans k9)
              clear k9
              go_wp2_with fail
              go_ret
              exact ⟨rfl, K9.out.below⟩
          · have e1 : decide (x0 > 1099511627776) = true := by simp; omega
            have e1' : decide (1099511627776 < x0) = true := e1
            clear g1
            go_wp2_with fail
            refine (HAW.out _).mono ?_; rintro e w9 ⟨rfl, k9⟩
            have K9 := Lib.hid (HKW.out.trans k9)
            clear k9
            go_wp2_with fail
            go_ret
            exact ⟨rfl, K9.out.below⟩
        · obtain rfl : k = l.length := by omega
          have HBIG : Hid (∀ a ∈ l, a.1 ≤ 1099511627776 ∧ a.2 ≤ 1099511627776 ∧ sec ≤ 1099511627776) := Lib.hid (fun a ha => by
            obtain ⟨j, hj, rfl⟩ := List.mem_iff_getElem.1 ha
            exact hM j hj hj)
          have HRI := Lib.hid (H.out.kept0 hK)
          have i1 : ¬ (l.length : Int) < l.length := by omega
          clear hM hlt hk hK
          go_wp2_with fail
          refine (HQL.out _ _ _ _ HRI.out HL.out G1.out HBIG.out).mono ?_; rintro e w7 ⟨bl, rfl, hbl, k7⟩
          have K7 := Lib.hid (HKW.out.trans k7)
          have HBL := Lib.hid hbl
          obtain ⟨x0, x1, x2, x3, x4⟩ := HX6.out w7 (HK.out.trans k7)
          clear k7 hbl
          cases bl with
          | false =>
            go_wp2_with fail
            refine (HZL.out _ K7.out HL.out G1.out HBIG.out).mono ?_; rintro e w8 ⟨C, rfl, hC, k8⟩
            have K8 := Lib.hid (K7.out.trans k8)
            obtain rfl : C = 110 := by
              rcases hC with ⟨_, hh⟩ | ⟨hh, _⟩
              · have := HBL.out.2 hh; cases this
              · exact hh
            clear k8 hC x0 x1 x2 x3 x4
            go_wp2_with fail
            refine (HAW.out _).mono ?_; rintro e w9 ⟨rfl, k9⟩
            have K9 := Lib.hid (K8.out.trans k9)
            clear k9
            go_wp2_with fail
            go_ret
            exact ⟨rfl, K9.out.below⟩
          | true =>
            go_wp2_with fail
            refine (HZL.out _ K7.out HL.out G1.out HBIG.out).mono ?_; rintro e w8 ⟨C, rfl, hC, k8⟩
            have K8 := Lib.hid (K7.out.trans k8)
            obtain rfl : C = 0 := by
              rcases hC with ⟨hh, _⟩ | ⟨_, hh⟩
              · exact hh
              · exact absurd (HBL.out.1 (by simp)) hh
            clear k8 hC x0 x1 x2 x3 x4
            go_wp2_with fail
            refine (HAW.out _).mono ?_; rintro e w9 ⟨rfl, k9⟩
            have K9 := Lib.hid (K8.out.trans k9)
            clear k9
            go_wp2_with fail
            go_ret
            exact ⟨rfl, K9.out.below⟩
    · have d1 : decide ((others.length : Int) > 20) = true := by simp; omega
      have d1n : decide (20 < others.length) = true := by simp; omega
      clear g1
      go_wp2_with fail
      refine (HAW.out _).mono ?_; rintro e w9 ⟨rfl, k9⟩
      have K9 := Lib.hid (K1.out.trans k9)
      clear k9
      go_wp2_with fail
      go_ret
      exact ⟨rfl, K9.out.below⟩
end Go.Proofs.YtakdnchmehmdhaaGreat
