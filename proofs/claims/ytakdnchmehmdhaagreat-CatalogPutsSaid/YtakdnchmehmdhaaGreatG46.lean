/- Layer 53 (catalog): the law Puts. -/
import Derived.Test.YtakdnchmehmdhaaGreatG24
import Derived.Test.YtakdnchmehmdhaaGreatG25
import Derived.Test.YtakdnchmehmdhaaGreatG40
import Derived.Test.YtakdnchmehmdhaaGreatG43
import Derived.Test.YtakdnchmehmdhaaGreatG45
namespace Go.Proofs.YtakdnchmehmdhaaGreat
open Go.RowKit
set_option linter.unusedVariables false
set_option linter.unusedSimpArgs false

theorem eqSays_fun {q : Prop} {b1 b2 : Bool} (h1 : b1 = true ↔ q) (h2 : b2 = true ↔ q) : b2 = b1 := by
  cases b1 <;> cases b2 <;> simp_all
set_option maxRecDepth 100000 in
set_option maxHeartbeats 8000000 in
theorem putsLaw (v : Value) (c : JCat) (u : Value) (o : JCat) (w : World) (h : CatIn w v c) (h' : CatIn w u o) :
    Calls Tryz.prog 3 #[v, u] w fun e w' => e = .returned (.bool true) ∧ Below w.heap.size w w' := by
  have HAW := Lib.hid zawake
  have HLI : Hid (∀ W, Kept [] w W → Calls Tryz.prog 9 #[v] W (EqSays (lightC c) W)) := Lib.hid (fun W q => zlight v c W (h.kept0 q))
  have HLO : Hid (∀ W, Kept [] w W → Calls Tryz.prog 9 #[u] W (EqSays (lightC o) W)) := Lib.hid (fun W q => zlight u o W (h'.kept0 q))
  have HPU : Hid (∀ W, Kept [] w W → lightC c → Calls Tryz.prog 11 #[v] W (CPutSays c W)) := Lib.hid (fun W q hl => zput v c W (h.kept0 q) hl.small (by have := hl.len; omega))
  have HMY : Hid (∀ W, Kept [] w W → lightC c → Calls Tryz.prog 12 #[v] W (EqSays (mayC c) W)) := Lib.hid (fun W q hl => qmayC v c W (h.kept0 q) hl.small)
  have HCK : Hid (∀ W, Kept [] w W → lightC c → Calls Tryz.prog 13 #[v] W (ChkSays c W)) := Lib.hid (fun W q hl => zcheck v c W (h.kept0 q) hl.small)
  have HS1 : Hid (∀ W, Kept [] w W → lightC c → lightC o → Calls Tryz.prog 14 #[v, u] W (EqSays (c = o) W)) := Lib.hid (fun W q hl ho => zsame v u c o W (h.kept0 q) (h'.kept0 q) hl.small ho.small)
  have HS2 : Hid (∀ W, Kept [] w W → lightC c → lightC o → Calls Tryz.prog 15 #[v, u] W (EqSays (c = o) W)) := Lib.hid (fun W q hl ho => qcatSame v u c o W (h.kept0 q) (h'.kept0 q) hl.small ho.small)
  have HS3 : Hid (∀ W, Kept [] w W → lightC c → Calls Tryz.prog 14 #[v, v] W fun e w' => e = .returned (.bool true) ∧ Kept [] W w') := Lib.hid (fun W q hl => (zsame v v c c W (h.kept0 q) (h.kept0 q) hl.small hl.small).mono (fun e w' ⟨b, he, hb, k⟩ => ⟨by rw [he, hb.2 rfl], k⟩))
  have HS4 : Hid (∀ W, Calls Tryz.prog 15 #[.agg #[.int .u32 1, .int .u32 1, .slice none 0 0, .slice none 0 0, .slice none 0 0], .agg #[.int .u32 1, .int .u32 1, .slice none 0 0, .slice none 0 0, .slice none 0 0]] W fun e w' => e = .returned (.bool true) ∧ Kept [] W w') := Lib.hid (fun W => (qcatSame _ _ catE catE W (catE_in W) (catE_in W) small_catE small_catE).mono (fun e w' ⟨b, he, hb, k⟩ => ⟨by rw [he, hb.2 rfl], k⟩))
  have HS5 : Hid (∀ W d, Kept [] w W → lightC c → CatIn W d c → Calls Tryz.prog 15 #[v, d] W fun e w' => e = .returned (.bool true) ∧ Kept [] W w') := Lib.hid (fun W d q hl hd => (qcatSame v d c c W (h.kept0 q) hd hl.small hl.small).mono (fun e w' ⟨b, he, hb, k⟩ => ⟨by rw [he, hb.2 rfl], k⟩))
  have HE1 := Lib.hid zempty
  have HE2 := Lib.hid qempty
  have HGE : Hid (∀ W, mayC c → lightC c → Calls Tryz.prog 18 #[.string (bs (putC c))] W fun e w' => ∃ v, e = .returned (.tuple #[v, .int .i64 0]) ∧ CatIn w' v c ∧ Kept [] W w') := Lib.hid (fun W hm hl => get_put hm h.fit (by rw [catR_len]; have := hl.len; omega))
  have HQP : Hid (∀ W, Kept [] w W → mayC c → lightC c → Calls Tryz.prog 19 #[v] W fun e w' => e = .returned (.string (bs (putC c))) ∧ Kept [] W w') := Lib.hid (fun W q hm hl => qput v c W (h.kept0 q) hm (by have := hl.len; omega))
  obtain ⟨vb, vm, vn, rfl, hb, hm, hn, _⟩ := h
  obtain ⟨p1, c1, rfl⟩ := hb.shape
  obtain ⟨p2, c2, rfl⟩ := hm.shape
  obtain ⟨p3, c3, rfl⟩ := hn.shape
  obtain ⟨ub, um, un, rfl, hb', hm', hn', _⟩ := h'
  obtain ⟨p4, c4, rfl⟩ := hb'.shape
  obtain ⟨p5, c5, rfl⟩ := hm'.shape
  obtain ⟨p6, c6, rfl⟩ := hn'.shape
  obtain ⟨W1, hW1⟩ : ∃ W1, W1 = (w.alloc (.cells #[.int .u32 c.nextBox, .int .u32 c.nextMan, .slice p1 c.boxes.length c1, .slice p2 c.mans.length c2, .slice p3 c.names.length c3] 25)).alloc (.cells #[.int .u32 o.nextBox, .int .u32 o.nextMan, .slice p4 o.boxes.length c4, .slice p5 o.mans.length c5, .slice p6 o.names.length c6] 25) := ⟨_, rfl⟩
  obtain ⟨oA, oB⟩ := own_two w #[.int .u32 c.nextBox, .int .u32 c.nextMan, .slice p1 c.boxes.length c1, .slice p2 c.mans.length c2, .slice p3 c.names.length c3] #[.int .u32 o.nextBox, .int .u32 o.nextMan, .slice p4 o.boxes.length c4, .slice p5 o.mans.length c5, .slice p6 o.names.length c6] 25 25
  have k0 : Kept [] w W1 := by rw [hW1]; exact ((Kept.refl _ _).alloc _).alloc _
  rw [← hW1] at oA oB
  have HA5 : Hid (∀ W, Kept [] W1 W → (W.cell? ⟨w.heap.size, 0, none⟩ = some (.int .u32 c.nextBox) ∧ W.cell? ⟨w.heap.size, 1, none⟩ = some (.int .u32 c.nextMan) ∧ W.cell? ⟨w.heap.size, 2, none⟩ = some (.slice p1 c.boxes.length c1) ∧ W.cell? ⟨w.heap.size, 3, none⟩ = some (.slice p2 c.mans.length c2) ∧ W.cell? ⟨w.heap.size, 4, none⟩ = some (.slice p3 c.names.length c3))) := Lib.hid (fun W q => (q.own oA (by simp)).k5)
  have HO5 : Hid (∀ W, Kept [] W1 W → (W.cell? ⟨w.heap.size + 1, 0, none⟩ = some (.int .u32 o.nextBox) ∧ W.cell? ⟨w.heap.size + 1, 1, none⟩ = some (.int .u32 o.nextMan) ∧ W.cell? ⟨w.heap.size + 1, 2, none⟩ = some (.slice p4 o.boxes.length c4) ∧ W.cell? ⟨w.heap.size + 1, 3, none⟩ = some (.slice p5 o.mans.length c5) ∧ W.cell? ⟨w.heap.size + 1, 4, none⟩ = some (.slice p6 o.names.length c6))) := Lib.hid (fun W q => (q.own oB (by simp)).k5)
  have K0 := Lib.hid k0
  obtain ⟨x0, x1, x2, x3, x4⟩ := HA5.out _ (Kept.refl _ _)
  obtain ⟨y0, y1, y2, y3, y4⟩ := HO5.out _ (Kept.refl _ _)
  unfold EqSays at HLI HLO HMY HS1 HS2
  unfold CPutSays at HPU
  unfold ChkSays at HCK
  clear hb hm hn hb' hm' hn' oA oB k0
  go_enter Tryz.func3, Tryz.ntmps3
  go_upto_region 1 with fail
  rw [← hW1]
  clear hW1
  go_wp2_with fail
  refine (HLI.out _ K0.out).mono ?_; rintro e w1 ⟨b1, rfl, hb1, k1⟩
  have K1 := Lib.hid (K0.out.trans k1)
  have KX1 := Lib.hid k1
  have HB1 := Lib.hid hb1
  clear hb1 k1 x0 x1 x2 x3 x4 y0 y1 y2 y3 y4
  cases b1 with
  | false =>
    go_wp2_with fail
    refine (HAW.out _).mono ?_; rintro e w9 ⟨rfl, k9⟩
    have K9 := Lib.hid (K1.out.trans k9)
    clear k9
    go_wp2_with fail
    go_ret
    exact ⟨rfl, K9.out.below⟩
  | true =>
    have HL := Lib.hid (HB1.out.1 (by simp))
    obtain ⟨y0, y1, y2, y3, y4⟩ := HO5.out _ KX1.out
    go_wp2_with fail
    refine (HLO.out _ K1.out).mono ?_; rintro e w2 ⟨b2, rfl, hb2, k2⟩
    have K2 := Lib.hid (K1.out.trans k2)
    have KX2 := Lib.hid (KX1.out.trans k2)
    have HB2 := Lib.hid hb2
    clear hb2 k2 y0 y1 y2 y3 y4
    cases b2 with
    | false =>
      go_wp2_with fail
      refine (HAW.out _).mono ?_; rintro e w9 ⟨rfl, k9⟩
      have K9 := Lib.hid (K2.out.trans k9)
      clear k9
      go_wp2_with fail
      go_ret
      exact ⟨rfl, K9.out.below⟩
    | true =>
      have HO := Lib.hid (HB2.out.1 (by simp))
      obtain ⟨x0, x1, x2, x3, x4⟩ := HA5.out _ KX2.out
      go_wp2_with fail
      refine (HPU.out _ K2.out HL.out).mono ?_; rintro e w3 ⟨rfl, k3⟩
      have K3 := Lib.hid (K2.out.trans k3)
      have KX3 := Lib.hid (KX2.out.trans k3)
      clear k3 x0 x1 x2 x3 x4
      by_cases hm : mayC c
      · have hpo : putOut c = (putC c, 0) := by unfold putOut; rw [if_pos hm]
        have hck : chkX c = 0 := by unfold chkX; rw [if_pos hm]
        rw [hpo]
        rw [hck] at HCK
        have HM := Lib.hid hm
        clear hpo hck hm
        obtain ⟨x0, x1, x2, x3, x4⟩ := HA5.out _ KX3.out
        go_wp2_with fail
        refine (HMY.out _ K3.out HL.out).mono ?_; rintro e w4 ⟨bm, rfl, hbm, k4⟩
        have K4 := Lib.hid (K3.out.trans k4)
        have KX4 := Lib.hid (KX3.out.trans k4)
        obtain rfl : bm = true := by
          exact hbm.2 HM.out
        clear hbm k4 x0 x1 x2 x3 x4
        go_upto_region 5 with fail
        go_cut [51] from 26 to 51 (fun v51 wx => v51 = .bool false ∧ Kept [] w4 wx)
        case first =>
          refine wp_region_held_drew (S := (fun W => (W.cell? ⟨w.heap.size, 0, none⟩ = some (.int .u32 c.nextBox) ∧ W.cell? ⟨w.heap.size, 1, none⟩ = some (.int .u32 c.nextMan) ∧ W.cell? ⟨w.heap.size, 2, none⟩ = some (.slice p1 c.boxes.length c1) ∧ W.cell? ⟨w.heap.size, 3, none⟩ = some (.slice p2 c.mans.length c2) ∧ W.cell? ⟨w.heap.size, 4, none⟩ = some (.slice p3 c.names.length c3)) ∧ (W.cell? ⟨w.heap.size + 1, 0, none⟩ = some (.int .u32 o.nextBox) ∧ W.cell? ⟨w.heap.size + 1, 1, none⟩ = some (.int .u32 o.nextMan) ∧ W.cell? ⟨w.heap.size + 1, 2, none⟩ = some (.slice p4 o.boxes.length c4) ∧ W.cell? ⟨w.heap.size + 1, 3, none⟩ = some (.slice p5 o.mans.length c5) ∧ W.cell? ⟨w.heap.size + 1, 4, none⟩ = some (.slice p6 o.names.length c6)))) (by kernel_rfl) (by exact ⟨HA5.out _ (KX4.out.trans ((Kept.refl [] w4).drew)), HO5.out _ (KX4.out.trans ((Kept.refl [] w4).drew))⟩) (fun hHeld => ?_)
          refine take_at (i := 0) (d := some 26) (v := ?_) rfl rfl (by kernel_rfl) (by kernel_rfl) (by kernel_rfl) (fun _ _ _ h => h) (Or.inl ⟨by rfl, ?_⟩) (by assumption) ?_
          rotate_left
          · (intro w hSw; (try dsimp only at hSw); go_simp; try with_reducible rfl)
          try simp only [Act.put, List.setIfInBounds_toArray, List.set_cons_zero, List.set_cons_succ]
          refine take_at (i := 3) (d := some 29) (v := ?_) rfl rfl (by kernel_rfl) (by kernel_rfl) (by kernel_rfl) (fun _ _ _ h => h) (Or.inl ⟨by rfl, ?_⟩) (by assumption) ?_
          rotate_left
          · (intro w hSw; (try dsimp only at hSw); go_simp; try with_reducible rfl)
          try simp only [Act.put, List.setIfInBounds_toArray, List.set_cons_zero, List.set_cons_succ]
          refine wpAnyH_ready (rs := [1]) (by kernel_rfl) (by simp) ?_
          refine (AllReadyH.cons rfl (fun K hK => ?_) AllReadyH.nil)
          go_simp
          ((with_reducible refine (HCK.out _ (K4.out.trans ((Kept.refl [] w4).drew)) HL.out).mono ?_)); rintro e w5 ⟨rfl, k5⟩
          have K5 := Lib.hid ((((Kept.refl [] w4).drew)).trans k5)
          clear k5
          go_wp2_with fail
          refine hK.out _ _ ?_ (fun hHeld => ?_)
          · exact ⟨HA5.out _ (KX4.out.trans K5.out), HO5.out _ (KX4.out.trans K5.out)⟩
          clear hK K
          try simp only [Act.put, List.setIfInBounds_toArray, List.set_cons_zero, List.set_cons_succ]
          refine take_at (i := 2) (d := some 28) (v := ?_) rfl rfl (by kernel_rfl) (by kernel_rfl) (by kernel_rfl) (fun _ _ _ h => h) (Or.inl ⟨by rfl, ?_⟩) (by assumption) ?_
          rotate_left
          · (intro w hSw; (try dsimp only at hSw); go_simp; try with_reducible rfl)
          try simp only [Act.put, List.setIfInBounds_toArray, List.set_cons_zero, List.set_cons_succ]
          refine take_at (i := 4) (d := some 30) (v := ?_) rfl rfl (by kernel_rfl) (by kernel_rfl) (by kernel_rfl) (fun _ _ _ h => h) (Or.inl ⟨by rfl, ?_⟩) (by assumption) ?_
          rotate_left
          · (intro w hSw; (try dsimp only at hSw); go_simp; try with_reducible rfl)
          try simp only [Act.put, List.setIfInBounds_toArray, List.set_cons_zero, List.set_cons_succ]
          refine take_at (i := 5) (d := some 31) (v := ?_) rfl rfl (by kernel_rfl) (by kernel_rfl) (by kernel_rfl) (fun _ _ _ h => h) (Or.inl ⟨by rfl, ?_⟩) (by assumption) ?_
          rotate_left
          · (intro w hSw; (try dsimp only at hSw); go_simp; try with_reducible rfl)
          try simp only [Act.put, List.setIfInBounds_toArray, List.set_cons_zero, List.set_cons_succ]
          refine take_at (i := 6) (d := some 32) (v := ?_) rfl rfl (by kernel_rfl) (by kernel_rfl) (by kernel_rfl) (fun _ _ _ h => h) (Or.inl ⟨by rfl, ?_⟩) (by assumption) ?_
          rotate_left
          · (intro w hSw; (try dsimp only at hSw); go_simp; try with_reducible rfl)
          try simp only [Act.put, List.setIfInBounds_toArray, List.set_cons_zero, List.set_cons_succ]
          refine take_at (i := 7) (d := some 33) (v := ?_) rfl rfl (by kernel_rfl) (by kernel_rfl) (by kernel_rfl) (fun _ _ _ h => h) (Or.inl ⟨by rfl, ?_⟩) (by assumption) ?_
          rotate_left
          · (intro w hSw; (try dsimp only at hSw); go_simp; try with_reducible rfl)
          try simp only [Act.put, List.setIfInBounds_toArray, List.set_cons_zero, List.set_cons_succ]
          refine take_at (i := 9) (d := some 35) (v := ?_) rfl rfl (by kernel_rfl) (by kernel_rfl) (by kernel_rfl) (fun _ _ _ h => h) (Or.inl ⟨by rfl, ?_⟩) (by assumption) ?_
          rotate_left
          · (intro w hSw; (try dsimp only at hSw); go_simp; try with_reducible rfl)
          try simp only [Act.put, List.setIfInBounds_toArray, List.set_cons_zero, List.set_cons_succ]
          refine take_at (i := 10) (d := some 36) (v := ?_) rfl rfl (by kernel_rfl) (by kernel_rfl) (by kernel_rfl) (fun _ _ _ h => h) (Or.inl ⟨by rfl, ?_⟩) (by assumption) ?_
          rotate_left
          · (intro w hSw; (try dsimp only at hSw); go_simp; try with_reducible rfl)
          try simp only [Act.put, List.setIfInBounds_toArray, List.set_cons_zero, List.set_cons_succ]
          refine wpAnyH_ready (rs := [8]) (by kernel_rfl) (by simp) ?_
          refine (AllReadyH.cons rfl (fun K hK => ?_) AllReadyH.nil)
          go_simp
          ((with_reducible refine (HS1.out _ (K4.out.trans K5.out) HL.out HO.out).mono ?_)); rintro e w6 ⟨q1, rfl, hq1, k6⟩
          have K6 := Lib.hid ((K5.out).trans k6)
          clear k6
          go_wp2_with fail
          refine hK.out _ _ ?_ (fun hHeld => ?_)
          · exact ⟨HA5.out _ (KX4.out.trans K6.out), HO5.out _ (KX4.out.trans K6.out)⟩
          clear hK K
          try simp only [Act.put, List.setIfInBounds_toArray, List.set_cons_zero, List.set_cons_succ]
          refine wpAnyH_ready (rs := [11]) (by kernel_rfl) (by simp) ?_
          refine (AllReadyH.cons rfl (fun K hK => ?_) AllReadyH.nil)
          go_simp
          ((with_reducible refine (HS2.out _ (K4.out.trans K6.out) HL.out HO.out).mono ?_)); rintro e w7 ⟨q2, rfl, hq2, k7⟩
          have K7 := Lib.hid ((K6.out).trans k7)
          clear k7
          go_wp2_with fail
          obtain rfl : q2 = q1 := eqSays_fun hq1 hq2
          clear hq1 hq2
          refine hK.out _ _ ?_ (fun hHeld => ?_)
          · exact ⟨HA5.out _ (KX4.out.trans K7.out), HO5.out _ (KX4.out.trans K7.out)⟩
          clear hK K
          try simp only [Act.put, List.setIfInBounds_toArray, List.set_cons_zero, List.set_cons_succ]
          refine take_at (i := 12) (d := some 38) (v := ?_) rfl rfl (by kernel_rfl) (by kernel_rfl) (by kernel_rfl) (fun _ _ _ h => h) (Or.inl ⟨by rfl, ?_⟩) (by assumption) ?_
          rotate_left
          · (intro w hSw; (try dsimp only at hSw); go_simp; try with_reducible rfl)
          try simp only [Act.put, List.setIfInBounds_toArray, List.set_cons_zero, List.set_cons_succ]
          refine take_at (i := 13) (d := some 39) (v := ?_) rfl rfl (by kernel_rfl) (by kernel_rfl) (by kernel_rfl) (fun _ _ _ h => h) (Or.inl ⟨by rfl, ?_⟩) (by assumption) ?_
          rotate_left
          · (intro w hSw; (try dsimp only at hSw); go_simp; try with_reducible rfl)
          try simp only [Act.put, List.setIfInBounds_toArray, List.set_cons_zero, List.set_cons_succ]
          refine take_at (i := 14) (d := some 40) (v := ?_) rfl rfl (by kernel_rfl) (by kernel_rfl) (by kernel_rfl) (fun _ _ _ h => h) (Or.inl ⟨by rfl, ?_⟩) (by assumption) ?_
          rotate_left
          · (intro w hSw; (try dsimp only at hSw); go_simp; try with_reducible rfl)
          try simp only [Act.put, List.setIfInBounds_toArray, List.set_cons_zero, List.set_cons_succ]
          refine take_at (i := 15) (d := some 41) (v := ?_) rfl rfl (by kernel_rfl) (by kernel_rfl) (by kernel_rfl) (fun _ _ _ h => h) (Or.inl ⟨by rfl, ?_⟩) (by assumption) ?_
          rotate_left
          · (intro w hSw; (try dsimp only at hSw); go_simp; try with_reducible rfl)
          try simp only [Act.put, List.setIfInBounds_toArray, List.set_cons_zero, List.set_cons_succ]
          refine take_at (i := 16) (d := some 42) (v := ?_) rfl rfl (by kernel_rfl) (by kernel_rfl) (by kernel_rfl) (fun _ _ _ h => h) (Or.inl ⟨by rfl, ?_⟩) (by assumption) ?_
          rotate_left
          · (intro w hSw; (try dsimp only at hSw); go_simp; try with_reducible rfl)
          try simp only [Act.put, List.setIfInBounds_toArray, List.set_cons_zero, List.set_cons_succ]
          refine wpAnyH_ready (rs := [17]) (by kernel_rfl) (by simp) ?_
          refine (AllReadyH.cons rfl (fun K hK => ?_) AllReadyH.nil)
          go_simp
          ((with_reducible refine (HS3.out _ (K4.out.trans K7.out) HL.out).mono ?_)); rintro e w8 ⟨rfl, k8⟩
          have K8 := Lib.hid ((K7.out).trans k8)
          clear k8
          go_wp2_with fail
          refine hK.out _ _ ?_ (fun hHeld => ?_)
          · exact ⟨HA5.out _ (KX4.out.trans K8.out), HO5.out _ (KX4.out.trans K8.out)⟩
          clear hK K
          try simp only [Act.put, List.setIfInBounds_toArray, List.set_cons_zero, List.set_cons_succ]
          refine take_at (i := 18) (d := some 44) (v := ?_) rfl rfl (by kernel_rfl) (by kernel_rfl) (by kernel_rfl) (fun _ _ _ h => h) (Or.inl ⟨by rfl, ?_⟩) (by assumption) ?_
          rotate_left
          · (intro w hSw; (try dsimp only at hSw); go_simp; try with_reducible rfl)
          try simp only [Act.put, List.setIfInBounds_toArray, List.set_cons_zero, List.set_cons_succ]
          refine take_at (i := 19) (d := some 45) (v := ?_) rfl rfl (by kernel_rfl) (by kernel_rfl) (by kernel_rfl) (fun _ _ _ h => h) (Or.inl ⟨by rfl, ?_⟩) (by assumption) ?_
          rotate_left
          · (intro w hSw; (try dsimp only at hSw); go_simp; try with_reducible rfl)
          try simp only [Act.put, List.setIfInBounds_toArray, List.set_cons_zero, List.set_cons_succ]
          refine take_at (i := 20) (d := some 46) (v := ?_) rfl rfl (by kernel_rfl) (by kernel_rfl) (by kernel_rfl) (fun _ _ _ h => h) (Or.inl ⟨by rfl, ?_⟩) (by assumption) ?_
          rotate_left
          · (intro w hSw; (try dsimp only at hSw); go_simp; try with_reducible rfl)
          try simp only [Act.put, List.setIfInBounds_toArray, List.set_cons_zero, List.set_cons_succ]
          refine wpAnyH_ready (rs := [21]) (by kernel_rfl) (by simp) ?_
          refine (AllReadyH.cons rfl (fun K hK => ?_) AllReadyH.nil)
          go_simp
          ((with_reducible refine (HE1.out _).mono ?_)); rintro e w9 ⟨rfl, k9⟩
          have K9 := Lib.hid ((K8.out).trans k9)
          clear k9
          go_wp2_with fail
          refine hK.out _ _ ?_ (fun hHeld => ?_)
          · exact ⟨HA5.out _ (KX4.out.trans K9.out), HO5.out _ (KX4.out.trans K9.out)⟩
          clear hK K
          try simp only [Act.put, List.setIfInBounds_toArray, List.set_cons_zero, List.set_cons_succ]
          refine wpAnyH_ready (rs := [22]) (by kernel_rfl) (by simp) ?_
          refine (AllReadyH.cons rfl (fun K hK => ?_) AllReadyH.nil)
          go_simp
          ((with_reducible refine (HE2.out _).mono ?_)); rintro e w10 ⟨rfl, k10⟩
          have K10 := Lib.hid ((K9.out).trans k10)
          clear k10
          go_wp2_with fail
          refine hK.out _ _ ?_ (fun hHeld => ?_)
          · exact ⟨HA5.out _ (KX4.out.trans K10.out), HO5.out _ (KX4.out.trans K10.out)⟩
          clear hK K
          try simp only [Act.put, List.setIfInBounds_toArray, List.set_cons_zero, List.set_cons_succ]
          refine wpAnyH_ready (rs := [23]) (by kernel_rfl) (by simp) ?_
          refine (AllReadyH.cons rfl (fun K hK => ?_) AllReadyH.nil)
          go_simp
          ((with_reducible refine (HS4.out _).mono ?_)); rintro e w11 ⟨rfl, k11⟩
          have K11 := Lib.hid ((K10.out).trans k11)
          clear k11
          go_wp2_with fail
          refine hK.out _ _ ?_ (fun hHeld => ?_)
          · exact ⟨HA5.out _ (KX4.out.trans K11.out), HO5.out _ (KX4.out.trans K11.out)⟩
          clear hK K
          try simp only [Act.put, List.setIfInBounds_toArray, List.set_cons_zero, List.set_cons_succ]
          refine take_at (i := 24) (d := some 50) (v := ?_) rfl rfl (by kernel_rfl) (by kernel_rfl) (by kernel_rfl) (fun _ _ _ h => h) (Or.inl ⟨by rfl, ?_⟩) (by assumption) ?_
          rotate_left
          · (intro w hSw; (try dsimp only at hSw); go_simp; try with_reducible rfl)
          try simp only [Act.put, List.setIfInBounds_toArray, List.set_cons_zero, List.set_cons_succ]
          refine take_at (i := 25) (d := some 51) (v := ?_) rfl rfl (by kernel_rfl) (by kernel_rfl) (by kernel_rfl) (fun _ _ _ h => h) (Or.inl ⟨by rfl, ?_⟩) (by assumption) ?_
          rotate_left
          · (intro w hSw; (try dsimp only at hSw); go_simp; try with_reducible rfl)
          try simp only [Act.put, List.setIfInBounds_toArray, List.set_cons_zero, List.set_cons_succ]
          refine wpAnyH_done (by kernel_rfl) ?_ _
          try simp only [List.set_cons_succ, List.set_cons_zero]
          go_wp2_with fail
          go_meet
          exact ⟨rfl, K11.out⟩
        case rest =>
          obtain ⟨rfl, hkx⟩ := hcut
          rename World => wx
          have KX := Lib.hid (K4.out.trans hkx)
          have KXX := Lib.hid (KX4.out.trans hkx)
          clear hkx
          obtain ⟨x0, x1, x2, x3, x4⟩ := HA5.out _ KXX.out
          go_wp2_with fail
          refine (HGE.out _ HM.out HL.out).mono ?_; rintro e w5 ⟨d, rfl, hd, k5⟩
          obtain ⟨a1, a2, a3, b1, b2, b3, d1, d2, d3, rfl⟩ := hd.parts
          obtain ⟨w6, hw6⟩ : ∃ w6, w6 = w5.alloc (.cells #[.int .u32 c.nextBox, .int .u32 c.nextMan, .slice a1 a2 a3, .slice b1 b2 b3, .slice d1 d2 d3] 25) := ⟨_, rfl⟩
          have k6 : Kept [] w5 w6 := by rw [hw6]; exact (Kept.refl _ _).alloc _
          have oD : Own w6 w5.heap.size #[.int .u32 c.nextBox, .int .u32 c.nextMan, .slice a1 a2 a3, .slice b1 b2 b3, .slice d1 d2 d3] 25 := by rw [hw6]; exact Own.new _ _ _
          have K6 := Lib.hid (KX.out.trans (k5.trans k6))
          have KX6 := Lib.hid (KXX.out.trans (k5.trans k6))
          have HD := Lib.hid (hd.kept0 k6)
          have OD := Lib.hid oD
          clear hd k5 k6 oD x0 x1 x2 x3 x4
          go_upto_region 10 with fail
          rw [← hw6]
          clear hw6
          generalize w5.heap.size = bd at *
          obtain ⟨x0, x1, x2, x3, x4⟩ := HA5.out _ KX6.out
          go_wp2_with fail
          refine (HQP.out _ K6.out HM.out HL.out).mono ?_; rintro e w7 ⟨rfl, k7⟩
          have K7 := Lib.hid (K6.out.trans k7)
          have HD7 := Lib.hid (HD.out.kept0 k7)
          obtain ⟨y0, y1, y2, y3, y4⟩ := (k7.own OD.out (by simp)).k5
          have KX7 := Lib.hid (KX6.out.trans k7)
          clear k7 x0 x1 x2 x3 x4
          obtain ⟨x0, x1, x2, x3, x4⟩ := HA5.out _ KX7.out
          go_wp2_with fail
          refine (HS5.out _ _ K7.out HL.out HD7.out).mono ?_; rintro e w8 ⟨rfl, k8⟩
          have K8 := Lib.hid (K7.out.trans k8)
          clear k8 x0 x1 x2 x3 x4 y0 y1 y2 y3 y4
          go_wp2_with fail
          refine (HAW.out _).mono ?_; rintro e w9 ⟨rfl, k9⟩
          have K9 := Lib.hid (K8.out.trans k9)
          clear k9
          go_wp2_with fail
          go_ret
          exact ⟨rfl, K9.out.below⟩
      · have hpo : putOut c = ([], 110) := by unfold putOut; rw [if_neg hm]
        have hck : chkX c = 110 := by unfold chkX; rw [if_neg hm]
        rw [hpo]
        simp only [show bs ([] : List UInt8) = ({ data := #[] } : ByteArray) from rfl]
        rw [hck] at HCK
        have HM := Lib.hid hm
        clear hpo hck hm
        obtain ⟨x0, x1, x2, x3, x4⟩ := HA5.out _ KX3.out
        go_wp2_with fail
        refine (HMY.out _ K3.out HL.out).mono ?_; rintro e w4 ⟨bm, rfl, hbm, k4⟩
        have K4 := Lib.hid (K3.out.trans k4)
        have KX4 := Lib.hid (KX3.out.trans k4)
        obtain rfl : bm = false := by
          cases bm; rfl; exact absurd (hbm.1 rfl) HM.out
        clear hbm k4 x0 x1 x2 x3 x4
        go_upto_region 5 with fail
        go_cut [51] from 26 to 51 (fun v51 wx => v51 = .bool false ∧ Kept [] w4 wx)
        case first =>
          refine wp_region_held_drew (S := (fun W => (W.cell? ⟨w.heap.size, 0, none⟩ = some (.int .u32 c.nextBox) ∧ W.cell? ⟨w.heap.size, 1, none⟩ = some (.int .u32 c.nextMan) ∧ W.cell? ⟨w.heap.size, 2, none⟩ = some (.slice p1 c.boxes.length c1) ∧ W.cell? ⟨w.heap.size, 3, none⟩ = some (.slice p2 c.mans.length c2) ∧ W.cell? ⟨w.heap.size, 4, none⟩ = some (.slice p3 c.names.length c3)) ∧ (W.cell? ⟨w.heap.size + 1, 0, none⟩ = some (.int .u32 o.nextBox) ∧ W.cell? ⟨w.heap.size + 1, 1, none⟩ = some (.int .u32 o.nextMan) ∧ W.cell? ⟨w.heap.size + 1, 2, none⟩ = some (.slice p4 o.boxes.length c4) ∧ W.cell? ⟨w.heap.size + 1, 3, none⟩ = some (.slice p5 o.mans.length c5) ∧ W.cell? ⟨w.heap.size + 1, 4, none⟩ = some (.slice p6 o.names.length c6)))) (by kernel_rfl) (by exact ⟨HA5.out _ (KX4.out.trans ((Kept.refl [] w4).drew)), HO5.out _ (KX4.out.trans ((Kept.refl [] w4).drew))⟩) (fun hHeld => ?_)
          refine take_at (i := 0) (d := some 26) (v := ?_) rfl rfl (by kernel_rfl) (by kernel_rfl) (by kernel_rfl) (fun _ _ _ h => h) (Or.inl ⟨by rfl, ?_⟩) (by assumption) ?_
          rotate_left
          · (intro w hSw; (try dsimp only at hSw); go_simp; try with_reducible rfl)
          try simp only [Act.put, List.setIfInBounds_toArray, List.set_cons_zero, List.set_cons_succ]
          refine take_at (i := 3) (d := some 29) (v := ?_) rfl rfl (by kernel_rfl) (by kernel_rfl) (by kernel_rfl) (fun _ _ _ h => h) (Or.inl ⟨by rfl, ?_⟩) (by assumption) ?_
          rotate_left
          · (intro w hSw; (try dsimp only at hSw); go_simp; try with_reducible rfl)
          try simp only [Act.put, List.setIfInBounds_toArray, List.set_cons_zero, List.set_cons_succ]
          refine wpAnyH_ready (rs := [1]) (by kernel_rfl) (by simp) ?_
          refine (AllReadyH.cons rfl (fun K hK => ?_) AllReadyH.nil)
          go_simp
          ((with_reducible refine (HCK.out _ (K4.out.trans ((Kept.refl [] w4).drew)) HL.out).mono ?_)); rintro e w5 ⟨rfl, k5⟩
          have K5 := Lib.hid ((((Kept.refl [] w4).drew)).trans k5)
          clear k5
          go_wp2_with fail
          refine hK.out _ _ ?_ (fun hHeld => ?_)
          · exact ⟨HA5.out _ (KX4.out.trans K5.out), HO5.out _ (KX4.out.trans K5.out)⟩
          clear hK K
          try simp only [Act.put, List.setIfInBounds_toArray, List.set_cons_zero, List.set_cons_succ]
          refine take_at (i := 2) (d := some 28) (v := ?_) rfl rfl (by kernel_rfl) (by kernel_rfl) (by kernel_rfl) (fun _ _ _ h => h) (Or.inl ⟨by rfl, ?_⟩) (by assumption) ?_
          rotate_left
          · (intro w hSw; (try dsimp only at hSw); go_simp; try with_reducible rfl)
          try simp only [Act.put, List.setIfInBounds_toArray, List.set_cons_zero, List.set_cons_succ]
          refine take_at (i := 4) (d := some 30) (v := ?_) rfl rfl (by kernel_rfl) (by kernel_rfl) (by kernel_rfl) (fun _ _ _ h => h) (Or.inl ⟨by rfl, ?_⟩) (by assumption) ?_
          rotate_left
          · (intro w hSw; (try dsimp only at hSw); go_simp; try with_reducible rfl)
          try simp only [Act.put, List.setIfInBounds_toArray, List.set_cons_zero, List.set_cons_succ]
          refine take_at (i := 5) (d := some 31) (v := ?_) rfl rfl (by kernel_rfl) (by kernel_rfl) (by kernel_rfl) (fun _ _ _ h => h) (Or.inl ⟨by rfl, ?_⟩) (by assumption) ?_
          rotate_left
          · (intro w hSw; (try dsimp only at hSw); go_simp; try with_reducible rfl)
          try simp only [Act.put, List.setIfInBounds_toArray, List.set_cons_zero, List.set_cons_succ]
          refine take_at (i := 6) (d := some 32) (v := ?_) rfl rfl (by kernel_rfl) (by kernel_rfl) (by kernel_rfl) (fun _ _ _ h => h) (Or.inl ⟨by rfl, ?_⟩) (by assumption) ?_
          rotate_left
          · (intro w hSw; (try dsimp only at hSw); go_simp; try with_reducible rfl)
          try simp only [Act.put, List.setIfInBounds_toArray, List.set_cons_zero, List.set_cons_succ]
          refine take_at (i := 7) (d := some 33) (v := ?_) rfl rfl (by kernel_rfl) (by kernel_rfl) (by kernel_rfl) (fun _ _ _ h => h) (Or.inl ⟨by rfl, ?_⟩) (by assumption) ?_
          rotate_left
          · (intro w hSw; (try dsimp only at hSw); go_simp; try with_reducible rfl)
          try simp only [Act.put, List.setIfInBounds_toArray, List.set_cons_zero, List.set_cons_succ]
          refine take_at (i := 9) (d := some 35) (v := ?_) rfl rfl (by kernel_rfl) (by kernel_rfl) (by kernel_rfl) (fun _ _ _ h => h) (Or.inl ⟨by rfl, ?_⟩) (by assumption) ?_
          rotate_left
          · (intro w hSw; (try dsimp only at hSw); go_simp; try with_reducible rfl)
          try simp only [Act.put, List.setIfInBounds_toArray, List.set_cons_zero, List.set_cons_succ]
          refine take_at (i := 10) (d := some 36) (v := ?_) rfl rfl (by kernel_rfl) (by kernel_rfl) (by kernel_rfl) (fun _ _ _ h => h) (Or.inl ⟨by rfl, ?_⟩) (by assumption) ?_
          rotate_left
          · (intro w hSw; (try dsimp only at hSw); go_simp; try with_reducible rfl)
          try simp only [Act.put, List.setIfInBounds_toArray, List.set_cons_zero, List.set_cons_succ]
          refine wpAnyH_ready (rs := [8]) (by kernel_rfl) (by simp) ?_
          refine (AllReadyH.cons rfl (fun K hK => ?_) AllReadyH.nil)
          go_simp
          ((with_reducible refine (HS1.out _ (K4.out.trans K5.out) HL.out HO.out).mono ?_)); rintro e w6 ⟨q1, rfl, hq1, k6⟩
          have K6 := Lib.hid ((K5.out).trans k6)
          clear k6
          go_wp2_with fail
          refine hK.out _ _ ?_ (fun hHeld => ?_)
          · exact ⟨HA5.out _ (KX4.out.trans K6.out), HO5.out _ (KX4.out.trans K6.out)⟩
          clear hK K
          try simp only [Act.put, List.setIfInBounds_toArray, List.set_cons_zero, List.set_cons_succ]
          refine wpAnyH_ready (rs := [11]) (by kernel_rfl) (by simp) ?_
          refine (AllReadyH.cons rfl (fun K hK => ?_) AllReadyH.nil)
          go_simp
          ((with_reducible refine (HS2.out _ (K4.out.trans K6.out) HL.out HO.out).mono ?_)); rintro e w7 ⟨q2, rfl, hq2, k7⟩
          have K7 := Lib.hid ((K6.out).trans k7)
          clear k7
          go_wp2_with fail
          obtain rfl : q2 = q1 := eqSays_fun hq1 hq2
          clear hq1 hq2
          refine hK.out _ _ ?_ (fun hHeld => ?_)
          · exact ⟨HA5.out _ (KX4.out.trans K7.out), HO5.out _ (KX4.out.trans K7.out)⟩
          clear hK K
          try simp only [Act.put, List.setIfInBounds_toArray, List.set_cons_zero, List.set_cons_succ]
          refine take_at (i := 12) (d := some 38) (v := ?_) rfl rfl (by kernel_rfl) (by kernel_rfl) (by kernel_rfl) (fun _ _ _ h => h) (Or.inl ⟨by rfl, ?_⟩) (by assumption) ?_
          rotate_left
          · (intro w hSw; (try dsimp only at hSw); go_simp; try with_reducible rfl)
          try simp only [Act.put, List.setIfInBounds_toArray, List.set_cons_zero, List.set_cons_succ]
          refine take_at (i := 13) (d := some 39) (v := ?_) rfl rfl (by kernel_rfl) (by kernel_rfl) (by kernel_rfl) (fun _ _ _ h => h) (Or.inl ⟨by rfl, ?_⟩) (by assumption) ?_
          rotate_left
          · (intro w hSw; (try dsimp only at hSw); go_simp; try with_reducible rfl)
          try simp only [Act.put, List.setIfInBounds_toArray, List.set_cons_zero, List.set_cons_succ]
          refine take_at (i := 14) (d := some 40) (v := ?_) rfl rfl (by kernel_rfl) (by kernel_rfl) (by kernel_rfl) (fun _ _ _ h => h) (Or.inl ⟨by rfl, ?_⟩) (by assumption) ?_
          rotate_left
          · (intro w hSw; (try dsimp only at hSw); go_simp; try with_reducible rfl)
          try simp only [Act.put, List.setIfInBounds_toArray, List.set_cons_zero, List.set_cons_succ]
          refine take_at (i := 15) (d := some 41) (v := ?_) rfl rfl (by kernel_rfl) (by kernel_rfl) (by kernel_rfl) (fun _ _ _ h => h) (Or.inl ⟨by rfl, ?_⟩) (by assumption) ?_
          rotate_left
          · (intro w hSw; (try dsimp only at hSw); go_simp; try with_reducible rfl)
          try simp only [Act.put, List.setIfInBounds_toArray, List.set_cons_zero, List.set_cons_succ]
          refine take_at (i := 16) (d := some 42) (v := ?_) rfl rfl (by kernel_rfl) (by kernel_rfl) (by kernel_rfl) (fun _ _ _ h => h) (Or.inl ⟨by rfl, ?_⟩) (by assumption) ?_
          rotate_left
          · (intro w hSw; (try dsimp only at hSw); go_simp; try with_reducible rfl)
          try simp only [Act.put, List.setIfInBounds_toArray, List.set_cons_zero, List.set_cons_succ]
          refine wpAnyH_ready (rs := [17]) (by kernel_rfl) (by simp) ?_
          refine (AllReadyH.cons rfl (fun K hK => ?_) AllReadyH.nil)
          go_simp
          ((with_reducible refine (HS3.out _ (K4.out.trans K7.out) HL.out).mono ?_)); rintro e w8 ⟨rfl, k8⟩
          have K8 := Lib.hid ((K7.out).trans k8)
          clear k8
          go_wp2_with fail
          refine hK.out _ _ ?_ (fun hHeld => ?_)
          · exact ⟨HA5.out _ (KX4.out.trans K8.out), HO5.out _ (KX4.out.trans K8.out)⟩
          clear hK K
          try simp only [Act.put, List.setIfInBounds_toArray, List.set_cons_zero, List.set_cons_succ]
          refine take_at (i := 18) (d := some 44) (v := ?_) rfl rfl (by kernel_rfl) (by kernel_rfl) (by kernel_rfl) (fun _ _ _ h => h) (Or.inl ⟨by rfl, ?_⟩) (by assumption) ?_
          rotate_left
          · (intro w hSw; (try dsimp only at hSw); go_simp; try with_reducible rfl)
          try simp only [Act.put, List.setIfInBounds_toArray, List.set_cons_zero, List.set_cons_succ]
          refine take_at (i := 19) (d := some 45) (v := ?_) rfl rfl (by kernel_rfl) (by kernel_rfl) (by kernel_rfl) (fun _ _ _ h => h) (Or.inl ⟨by rfl, ?_⟩) (by assumption) ?_
          rotate_left
          · (intro w hSw; (try dsimp only at hSw); go_simp; try with_reducible rfl)
          try simp only [Act.put, List.setIfInBounds_toArray, List.set_cons_zero, List.set_cons_succ]
          refine take_at (i := 20) (d := some 46) (v := ?_) rfl rfl (by kernel_rfl) (by kernel_rfl) (by kernel_rfl) (fun _ _ _ h => h) (Or.inl ⟨by rfl, ?_⟩) (by assumption) ?_
          rotate_left
          · (intro w hSw; (try dsimp only at hSw); go_simp; try with_reducible rfl)
          try simp only [Act.put, List.setIfInBounds_toArray, List.set_cons_zero, List.set_cons_succ]
          refine wpAnyH_ready (rs := [21]) (by kernel_rfl) (by simp) ?_
          refine (AllReadyH.cons rfl (fun K hK => ?_) AllReadyH.nil)
          go_simp
          ((with_reducible refine (HE1.out _).mono ?_)); rintro e w9 ⟨rfl, k9⟩
          have K9 := Lib.hid ((K8.out).trans k9)
          clear k9
          go_wp2_with fail
          refine hK.out _ _ ?_ (fun hHeld => ?_)
          · exact ⟨HA5.out _ (KX4.out.trans K9.out), HO5.out _ (KX4.out.trans K9.out)⟩
          clear hK K
          try simp only [Act.put, List.setIfInBounds_toArray, List.set_cons_zero, List.set_cons_succ]
          refine wpAnyH_ready (rs := [22]) (by kernel_rfl) (by simp) ?_
          refine (AllReadyH.cons rfl (fun K hK => ?_) AllReadyH.nil)
          go_simp
          ((with_reducible refine (HE2.out _).mono ?_)); rintro e w10 ⟨rfl, k10⟩
          have K10 := Lib.hid ((K9.out).trans k10)
          clear k10
          go_wp2_with fail
          refine hK.out _ _ ?_ (fun hHeld => ?_)
          · exact ⟨HA5.out _ (KX4.out.trans K10.out), HO5.out _ (KX4.out.trans K10.out)⟩
          clear hK K
          try simp only [Act.put, List.setIfInBounds_toArray, List.set_cons_zero, List.set_cons_succ]
          refine wpAnyH_ready (rs := [23]) (by kernel_rfl) (by simp) ?_
          refine (AllReadyH.cons rfl (fun K hK => ?_) AllReadyH.nil)
          go_simp
          ((with_reducible refine (HS4.out _).mono ?_)); rintro e w11 ⟨rfl, k11⟩
          have K11 := Lib.hid ((K10.out).trans k11)
          clear k11
          go_wp2_with fail
          refine hK.out _ _ ?_ (fun hHeld => ?_)
          · exact ⟨HA5.out _ (KX4.out.trans K11.out), HO5.out _ (KX4.out.trans K11.out)⟩
          clear hK K
          try simp only [Act.put, List.setIfInBounds_toArray, List.set_cons_zero, List.set_cons_succ]
          refine take_at (i := 24) (d := some 50) (v := ?_) rfl rfl (by kernel_rfl) (by kernel_rfl) (by kernel_rfl) (fun _ _ _ h => h) (Or.inl ⟨by rfl, ?_⟩) (by assumption) ?_
          rotate_left
          · (intro w hSw; (try dsimp only at hSw); go_simp; try with_reducible rfl)
          try simp only [Act.put, List.setIfInBounds_toArray, List.set_cons_zero, List.set_cons_succ]
          refine take_at (i := 25) (d := some 51) (v := ?_) rfl rfl (by kernel_rfl) (by kernel_rfl) (by kernel_rfl) (fun _ _ _ h => h) (Or.inl ⟨by rfl, ?_⟩) (by assumption) ?_
          rotate_left
          · (intro w hSw; (try dsimp only at hSw); go_simp; try with_reducible rfl)
          try simp only [Act.put, List.setIfInBounds_toArray, List.set_cons_zero, List.set_cons_succ]
          refine wpAnyH_done (by kernel_rfl) ?_ _
          try simp only [List.set_cons_succ, List.set_cons_zero]
          go_wp2_with fail
          go_meet
          exact ⟨rfl, K11.out⟩
        case rest =>
          obtain ⟨rfl, hkx⟩ := hcut
          rename World => wx
          have KX := Lib.hid (K4.out.trans hkx)
          have KXX := Lib.hid (KX4.out.trans hkx)
          clear hkx
          obtain ⟨x0, x1, x2, x3, x4⟩ := HA5.out _ KXX.out
          go_wp2_with fail
          refine (HCK.out _ KX.out HL.out).mono ?_; rintro e w5 ⟨rfl, k5⟩
          have K5 := Lib.hid (KX.out.trans k5)
          clear k5 x0 x1 x2 x3 x4
          go_wp2_with fail
          refine (HAW.out _).mono ?_; rintro e w9 ⟨rfl, k9⟩
          have K9 := Lib.hid (K5.out.trans k9)
          clear k9
          go_wp2_with fail
          go_ret
          exact ⟨rfl, K9.out.below⟩
end Go.Proofs.YtakdnchmehmdhaaGreat
