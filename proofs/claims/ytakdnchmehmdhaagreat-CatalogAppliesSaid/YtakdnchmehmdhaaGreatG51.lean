/- Layer 45 (catalog): the document's Apply. -/
import Derived.Test.YtakdnchmehmdhaaGreatG36
import Derived.Test.YtakdnchmehmdhaaGreatG45
import Derived.Test.YtakdnchmehmdhaaGreatG50
namespace Go.Proofs.YtakdnchmehmdhaaGreat
open Go.RowKit
set_option linter.unusedVariables false
set_option linter.unusedSimpArgs false

theorem recsX_code {c : JCat} {l : List JRec} {k : Nat} (h : k < l.length) {C : Int} (hC : (if mayR (l[k]'h) = true then (oneX c (l[k]'h)).2 else 1) = C) :
    (¬ C = 0 → recsX c (l.drop k) = (catNo, C)) ∧ (C = 0 → mayR (l[k]'h) = true ∧ (oneX c (l[k]'h)).2 = 0 ∧ recsX c (l.drop k) = recsX (oneX c (l[k]'h)).1 (l.drop (k + 1))) := by
  cases hm : mayR (l[k]'h) with
  | false =>
    rw [hm, if_neg (by decide)] at hC
    subst hC
    exact ⟨fun _ => recsX_no h hm, fun h0 => absurd h0 (by decide)⟩
  | true =>
    rw [hm, if_pos rfl] at hC
    exact ⟨fun h0 => recsX_bad h hm hC h0, fun h0 => ⟨rfl, by rw [hC, h0], recsX_ok h hm (by rw [hC, h0])⟩⟩
theorem CatOff.more {S T : Nat → Prop} {w : World} {v : Value} {c : JCat} (h : CatOff S w v c) (hT : ∀ x, T x → w.heap.size ≤ x) : CatOff (fun x => S x ∨ T x) w v c := by
  obtain ⟨a, b, d, e, h1, h2, h3, h4⟩ := h
  exact ⟨a, b, d, e, h1.more hT, h2.more hT, h3.more hT, h4⟩
set_option maxRecDepth 100000 in
set_option maxHeartbeats 8000000 in
theorem qApply {S0 : Nat → Prop} (v : Value) (c : JCat) (vl : Value) (l : List JRec) (lo hi : Nat) (w : World) (h : CatOff S0 w v c) (hS0 : ∀ x, S0 x → x < w.heap.size) (hc : SmallC c) (hr : RecsIn w vl l lo hi) (hwl : ∀ r ∈ l, ∀ a ∈ r.runs, WfRun a) (hrl : ∀ r ∈ l, r.runs.length ≤ 1000000) :
    Calls Tryz.prog 23 #[v, vl] w (ApplySays S0 (applyX c l) w) := by
  have HCH : Hid (∀ W, Kept [] w W → Calls Tryz.prog 12 #[v] W (EqSays (mayC c) W)) := Lib.hid (fun W q => qmayC v c W (h.plain.kept0 q) hc)
  have HCAT : Hid (∀ W, Kept [] w W → CatOff (fun x => S0 x ∨ (x = w.heap.size ∨ x = w.heap.size + 1)) W v c) := Lib.hid (fun W q => (h.more (T := fun x => x = w.heap.size ∨ x = w.heap.size + 1) (fun x hx => by omega)).kept0 q)
  obtain ⟨vb, vm, vn, rfl, hb, hm, hn, hwb, hwm⟩ := h
  obtain ⟨p1, c1, rfl⟩ := hb.plain.shape
  obtain ⟨p2, c2, rfl⟩ := hm.plain.shape
  obtain ⟨p3, c3, rfl⟩ := hn.plain.shape
  obtain ⟨pl, cl, rfl⟩ := RowsOf.shape hr
  have hL1 : (l.length : Int) ≤ 9223372036854775807 := by have := RowsOf.len hr; unfold maxLen at this; omega
  have HR := Lib.hid hr
  have HWL := Lib.hid hwl
  have HRL := Lib.hid hrl
  have HS0 := Lib.hid hS0
  obtain ⟨oA, oB⟩ := own_two w #[.int .u32 c.nextBox, .int .u32 c.nextMan, .slice p1 c.boxes.length c1, .slice p2 c.mans.length c2, .slice p3 c.names.length c3] #[.int .u32 0, .int .u32 0, .slice none 0 0, .slice none 0 0, .slice none 0 0] 25 25
  have k0 : Kept [] w ((w.alloc (.cells #[.int .u32 c.nextBox, .int .u32 c.nextMan, .slice p1 c.boxes.length c1, .slice p2 c.mans.length c2, .slice p3 c.names.length c3] 25)).alloc (.cells #[.int .u32 0, .int .u32 0, .slice none 0 0, .slice none 0 0, .slice none 0 0] 25)) := ((Kept.refl _ _).alloc _).alloc _
  have K0 := Lib.hid k0
  have OA := Lib.hid oA
  have OB := Lib.hid oB
  obtain ⟨x0, x1, x2, x3, x4⟩ := oA.k5
  clear hb hm hn hwb hwm hr hwl hrl hS0 oA oB k0 hc
  unfold EqSays at HCH
  go_enter Tryz.func23, Tryz.ntmps23
  go_wp2_with fail
  refine (HCH.out _ K0.out).mono ?_; rintro e w2 ⟨bm, rfl, hbm, k2⟩
  have K2 := Lib.hid (K0.out.trans k2)
  have OA2 := Lib.hid (k2.own OA.out (by simp))
  have OB2 := Lib.hid (k2.own OB.out (by simp))
  have HBM := Lib.hid hbm
  clear hbm k2
  cases bm with
  | false =>
    have HE : Hid (applyX c l = (catNo, 110)) := Lib.hid (by
      have hmc : ¬ mayC c := fun h => by have := HBM.out.2 h; cases this
      unfold applyX; rw [if_neg hmc])
    obtain ⟨y0, y1, y2, y3, y4⟩ := OB2.out.k5
    obtain ⟨g0, g1, g2, g3, g4⟩ := OB2.out.y5
    go_wp2_with fail
    refine bodyPost_ret (v := .tuple #[.agg #[.int .u32 0, .int .u32 0, .slice none 0 0, .slice none 0 0, .slice none 0 0], .int .i64 110]) (ret_row_tmp Tryz.results23 rfl rfl (t := 25) ?_ Tryz.underlying25 rfl (by kernel_rfl)) rfl ?_
    · exact OB2.out.put5 _ _ _ _ _
    · exact applySays_of HE.out (catNo_off _ _) (Kept.set5s K2.out (Or.inr (Nat.le_succ _)) _ _ _ _ _)
  | true =>
    have HMC : Hid (mayC c) := Lib.hid (HBM.out.1 rfl)
    obtain ⟨R, hR⟩ : ∃ R, recsX c l = R := ⟨_, rfl⟩
    have hap : applyX c l = R := by unfold applyX; rw [if_pos HMC.out, hR]
    have HAP := Lib.hid hap
    have HRR := Lib.hid hR
    clear hap hR x0 x1 x2 x3 x4
    go_wp2_with fail
    go_loopw [6] (fun i wr => ∃ k cc vb vm vn, k ≤ l.length ∧ i = .int .i64 (k : Nat) ∧ ApplyAt S0 w l R k cc wr vb vm vn) (fun i _ => l.length - (intOf i).toNat)
    case atStart => exact ⟨0, c, _, _, _, Nat.zero_le _, rfl, ⟨OA2.out, OB2.out, HCAT.out _ K2.out, HMC.out, by rw [List.drop_zero]; exact HRR.out, K2.out⟩⟩
    case round =>
      obtain ⟨k, cc, vb, vm, vn, hk, rfl, hA⟩ := hrel
      rename World => wr
      have HA := Lib.hid hA
      obtain ⟨_, _, ⟨pb, nb, cb, rfl⟩, ⟨pm, nm, cm, rfl⟩, ⟨pn, nn, cn, rfl⟩⟩ := CatOff.parts hA.cat
      by_cases hlt : k < l.length
      · obtain ⟨b, off, kv, rfl, r0, r1, r2, r3, r4, hrun, hfit, hlb, hbh, hih⟩ := RecsIn.at_ (HR.out.kept0 hA.kept) k hlt
        obtain ⟨pr, cr, rfl⟩ := hrun.shape
        have HLT : Hid (k < l.length) := Lib.hid hlt
        have i1 : (k : Int) < l.length := by omega
        have hwr := HWL.out _ (List.getElem_mem hlt)
        have hrr := HRL.out _ (List.getElem_mem hlt)
        obtain ⟨C, hC⟩ : ∃ C, (if mayR (l[k]'hlt) = true then (oneX cc (l[k]'hlt)).2 else 1) = C := ⟨_, rfl⟩
        obtain ⟨hbad, hok⟩ := recsX_code (c := cc) hlt hC
        rw [hA.here] at hbad hok
        have hid0 := (bd32 hfit.2.1).1
        have hbs : off + k * 5 < off + k * 5 + 5 := by omega
        have HREC : Hid (∀ W, Kept [] wr W → (W.cell? ⟨w.heap.size, 0, none⟩ = some (.int .u32 cc.nextBox) ∧ W.cell? ⟨w.heap.size, 1, none⟩ = some (.int .u32 cc.nextMan) ∧ W.cell? ⟨w.heap.size, 2, none⟩ = some (.slice pb nb cb) ∧ W.cell? ⟨w.heap.size, 3, none⟩ = some (.slice pm nm cm) ∧ W.cell? ⟨w.heap.size, 4, none⟩ = some (.slice pn nn cn)) ∧ (W.cell? ⟨b, off + k * 5, none⟩ = some (.int .i64 (l[k]'hlt).kind) ∧ W.cell? ⟨b, off + k * 5 + 1, none⟩ = some (.int .u32 (l[k]'hlt).id) ∧ W.cell? ⟨b, off + k * 5 + 2, none⟩ = some (.string (bs (l[k]'hlt).name)) ∧ W.cell? ⟨b, off + k * 5 + 3, none⟩ = some (.int .i64 (l[k]'hlt).size) ∧ W.cell? ⟨b, off + k * 5 + 4, none⟩ = some (.slice pr (l[k]'hlt).runs.length cr))) := Lib.hid (fun W q => by
          have hbl : b < wr.heap.size := by omega
          exact ⟨(q.own hA.own (by simp)).k5, (q.cell hbl (by simp)).trans r0, (q.cell hbl (by simp)).trans r1, (q.cell hbl (by simp)).trans r2, (q.cell hbl (by simp)).trans r3, (q.cell hbl (by simp)).trans r4⟩)
        have HWH : Hid (w.heap.size + 1 < wr.heap.size) := Lib.hid hA.res.lt
        have hsl : ∀ x, (S0 x ∨ (x = w.heap.size ∨ x = w.heap.size + 1)) → x < wr.heap.size := fun x hx => by
          have h2 := HWH.out
          rcases hx with hx | hx
          · have := HS0.out x hx; have := hA.kept.size; omega
          · omega
        have HOA : Hid (∀ W, Kept [] wr W → Calls Tryz.prog 63 #[.agg #[.int .u32 cc.nextBox, .int .u32 cc.nextMan, .slice pb nb cb, .slice pm nm cm, .slice pn nn cn], .agg ((l[k]'hlt).cells (.slice pr (l[k]'hlt).runs.length cr))] W (QOneSays (fun x => S0 x ∨ (x = w.heap.size ∨ x = w.heap.size + 1)) cc (l[k]'hlt) W)) := Lib.hid (fun W q => qOneC _ cc _ _ W (hA.cat.kept0 q) (fun x hx => Nat.lt_of_lt_of_le (hsl x hx) q.size) hA.may (hrun.kept0 q).upto hfit hwr hrr)
        have HOB : Hid (∀ W, Kept [] wr W → wr.heap.size < W.heap.size → Calls Tryz.prog 63 #[.agg #[.int .u32 cc.nextBox, .int .u32 cc.nextMan, .slice pb nb cb, .slice pm nm cm, .slice pn nn cn], .agg ((l[k]'hlt).cells (.slice pr (l[k]'hlt).runs.length cr))] W (QOneSays (fun x => (S0 x ∨ (x = w.heap.size ∨ x = w.heap.size + 1)) ∨ x = wr.heap.size) cc (l[k]'hlt) W)) := Lib.hid (fun W q hq => qOneC _ cc _ _ W ((hA.cat.more (fun x hx => by omega)).kept0 q) (fun x hx => by rcases hx with hx | hx; exact Nat.lt_of_lt_of_le (hsl x hx) q.size; omega) hA.may (hrun.kept0 q).upto hfit hwr hrr)
        unfold QOneSays at HOA HOB
        rw [hC] at HOA HOB
        unfold JRec.cells at HOA HOB
        have HBAD := Lib.hid hbad
        have HOK : Hid (C = 0 → ∀ c', (mayR (l[k]'hlt) = true → (oneX cc (l[k]'hlt)).2 = 0 → c' = (oneX cc (l[k]'hlt)).1) → mayC c' ∧ R = recsX c' (l.drop (k + 1))) := Lib.hid (fun h0 c' hc' => by
          obtain ⟨o1, o2, o3⟩ := hok h0
          rw [hc' o1 o2]
          exact ⟨one_may hA.may o1 hid0 o2, o3⟩)
        clear hbad hok hC hid0 hrun hfit hwr hrr hA hlb hbh hih hsl r0 r1 r2 r3 r4 hbs
        generalize hrk : l[k]'hlt = rk at *
        clear hlt hrk hk
        obtain ⟨z0, z1, z2, z3, z4⟩ := (HREC.out wr (Kept.refl _ _)).1
        go_upto_region 6 with fail
        go_cut [7, 8] from 19 to 27 (fun v7 v8 wx => ∃ nk c' a1 a2 a3, v7 = .pointer (some ⟨nk, 0, none⟩) ∧ v8 = .int .i64 C ∧ Own wx nk #[.int .u32 c'.nextBox, .int .u32 c'.nextMan, a1, a2, a3] 25 ∧ CatOff (fun x => S0 x ∨ (x = w.heap.size ∨ x = w.heap.size + 1)) wx (.agg #[.int .u32 c'.nextBox, .int .u32 c'.nextMan, a1, a2, a3]) c' ∧ (mayR rk = true → (oneX cc rk).2 = 0 → c' = (oneX cc rk).1) ∧ Kept [] wr wx)
        case first =>
          refine wp_region_held_drew (S := (fun W => (W.cell? ⟨w.heap.size, 0, none⟩ = some (.int .u32 cc.nextBox) ∧ W.cell? ⟨w.heap.size, 1, none⟩ = some (.int .u32 cc.nextMan) ∧ W.cell? ⟨w.heap.size, 2, none⟩ = some (.slice pb nb cb) ∧ W.cell? ⟨w.heap.size, 3, none⟩ = some (.slice pm nm cm) ∧ W.cell? ⟨w.heap.size, 4, none⟩ = some (.slice pn nn cn)) ∧ (W.cell? ⟨b, off + k * 5, none⟩ = some (.int .i64 rk.kind) ∧ W.cell? ⟨b, off + k * 5 + 1, none⟩ = some (.int .u32 rk.id) ∧ W.cell? ⟨b, off + k * 5 + 2, none⟩ = some (.string (bs rk.name)) ∧ W.cell? ⟨b, off + k * 5 + 3, none⟩ = some (.int .i64 rk.size) ∧ W.cell? ⟨b, off + k * 5 + 4, none⟩ = some (.slice pr rk.runs.length cr)))) (by kernel_rfl) (by exact HREC.out _ ((Kept.refl [] wr).drew)) (fun hHeld => ?_)
          refine take_at (i := 0) (d := some 20) (v := ?_) rfl rfl (by kernel_rfl) (by kernel_rfl) (by kernel_rfl) (fun _ _ _ h => h) (Or.inl ⟨by rfl, ?_⟩) (by assumption) ?_
          rotate_left
          · (intro w hSw; (try dsimp only at hSw); go_simp; try with_reducible rfl)
          try simp only [Act.put, List.setIfInBounds_toArray, List.set_cons_zero, List.set_cons_succ]
          refine take_at (i := 1) (d := some 21) (v := ?_) rfl rfl (by kernel_rfl) (by kernel_rfl) (by kernel_rfl) (fun _ _ _ h => h) (Or.inl ⟨by rfl, ?_⟩) (by assumption) ?_
          rotate_left
          · (intro w hSw; (try dsimp only at hSw); go_simp; try with_reducible rfl)
          try simp only [Act.put, List.setIfInBounds_toArray, List.set_cons_zero, List.set_cons_succ]
          refine take_at (i := 2) (d := some 22) (v := ?_) rfl rfl (by kernel_rfl) (by kernel_rfl) (by kernel_rfl) (fun _ _ _ h => h) (Or.inl ⟨by rfl, ?_⟩) (by assumption) ?_
          rotate_left
          · (intro w hSw; (try dsimp only at hSw); go_simp; try with_reducible rfl)
          try simp only [Act.put, List.setIfInBounds_toArray, List.set_cons_zero, List.set_cons_succ]
          refine take_at (i := 3) (d := some 23) (v := ?_) rfl rfl (by kernel_rfl) (by kernel_rfl) (by kernel_rfl) (fun _ _ _ h => h) (Or.inl ⟨by rfl, ?_⟩) (by assumption) ?_
          rotate_left
          · (intro w hSw; (try dsimp only at hSw); go_simp; try with_reducible rfl)
          try simp only [Act.put, List.setIfInBounds_toArray, List.set_cons_zero, List.set_cons_succ]
          refine take_at (i := 4) (d := some 24) (v := ?_) rfl rfl (by kernel_rfl) (by kernel_rfl) (by kernel_rfl) (fun _ _ _ h => h) (Or.inl ⟨by rfl, ?_⟩) (by assumption) ?_
          rotate_left
          · (intro w hSw; (try dsimp only at hSw); go_simp; try with_reducible rfl)
          try simp only [Act.put, List.setIfInBounds_toArray, List.set_cons_zero, List.set_cons_succ]
          refine wpAnyH_ready (rs := [5, 9]) (by kernel_rfl) (by simp) ?_
          refine (AllReadyH.cons rfl (fun K hK => ?_) (AllReadyH.cons rfl (fun K hK => ?_) AllReadyH.nil))
          · go_simp
            ((with_reducible refine (HOA.out _ ((Kept.refl [] wr).drew)).mono ?_)); rintro e w4 ⟨cv, c', rfl, hcv, hc4, k4⟩
            have K4 := Lib.hid ((((Kept.refl [] wr).drew)).trans k4)
            obtain ⟨vb4, vm4, vn4, rfl, hx1, hx2, hx3, hx4⟩ := hcv
            have hcat : CatOff (fun x => S0 x ∨ (x = w.heap.size ∨ x = w.heap.size + 1)) w4 (.agg #[.int .u32 c'.nextBox, .int .u32 c'.nextMan, vb4, vm4, vn4]) c' := ⟨vb4, vm4, vn4, rfl, hx1, hx2, hx3, hx4⟩
            obtain ⟨_, _, ⟨pb4, nb4, cb4, rfl⟩, ⟨pm4, nm4, cm4, rfl⟩, ⟨pn4, nn4, cn4, rfl⟩⟩ := CatOff.parts hcat
            have HCATN := Lib.hid hcat
            have HC4 := Lib.hid hc4
            clear hx1 hx2 hx3 hx4 hcat hc4
            clear k4
            go_wp2_with fail
            refine hK.out _ _ ?_ (fun hHeld => ?_)
            · exact HREC.out _ K4.out
            clear hK K
            try simp only [Act.put, List.setIfInBounds_toArray, List.set_cons_zero, List.set_cons_succ]
            refine take_at (i := 6) (d := some 19) (v := ?_) rfl rfl (by kernel_rfl) (by kernel_rfl) (by kernel_rfl) (fun _ _ _ h => h) (Or.inl ⟨by rfl, ?_⟩) (by assumption) ?_
            rotate_left
            · (intro w hSw; (try dsimp only at hSw); go_simp; try with_reducible rfl)
            try simp only [Act.put, List.setIfInBounds_toArray, List.set_cons_zero, List.set_cons_succ]
            refine take_at (i := 7) (d := some 26) (v := ?_) rfl rfl (by kernel_rfl) (by kernel_rfl) (by kernel_rfl) (fun _ _ _ h => h) (Or.inl ⟨by rfl, ?_⟩) (by assumption) ?_
            rotate_left
            · (intro w hSw; (try dsimp only at hSw); go_simp; try with_reducible rfl)
            try simp only [Act.put, List.setIfInBounds_toArray, List.set_cons_zero, List.set_cons_succ]
            refine take_at (i := 8) (d := some 27) (v := ?_) rfl rfl (by kernel_rfl) (by kernel_rfl) (by kernel_rfl) (fun _ _ _ h => h) (Or.inl ⟨by rfl, ?_⟩) (by assumption) ?_
            rotate_left
            · (intro w hSw; (try dsimp only at hSw); go_simp; try with_reducible rfl)
            try simp only [Act.put, List.setIfInBounds_toArray, List.set_cons_zero, List.set_cons_succ]
            refine wpAnyH_ready (rs := [9]) (by kernel_rfl) (by simp) ?_
            refine (AllReadyH.cons rfl (fun K hK => ?_) AllReadyH.nil)
            go_simp
            refine hK.out _ _ ?_ (fun hHeld => ?_)
            · exact HREC.out _ (K4.out.alloc _)
            clear hK K
            try simp only [Act.put, List.setIfInBounds_toArray, List.set_cons_zero, List.set_cons_succ]
            refine wpAnyH_ready (rs := [10]) (by kernel_rfl) (by simp) ?_
            refine (AllReadyH.cons rfl (fun K hK => ?_) AllReadyH.nil)
            go_simp
            refine hK.out _ _ ?_ (fun hHeld => ?_)
            · exact HREC.out _ (K4.out.alloc _)
            clear hK K
            try simp only [Act.put, List.setIfInBounds_toArray, List.set_cons_zero, List.set_cons_succ]
            refine take_at (i := 11) (d := some 8) (v := ?_) rfl rfl (by kernel_rfl) (by kernel_rfl) (by kernel_rfl) (fun _ _ _ h => h) (Or.inl ⟨by rfl, ?_⟩) (by assumption) ?_
            rotate_left
            · (intro w hSw; (try dsimp only at hSw); go_simp; try with_reducible rfl)
            try simp only [Act.put, List.setIfInBounds_toArray, List.set_cons_zero, List.set_cons_succ]
            refine wpAnyH_done (by kernel_rfl) ?_ _
            try simp only [List.set_cons_succ, List.set_cons_zero]
            go_wp2_with fail
            go_meet
            exact ⟨_, _, _, _, _, rfl, rfl, Own.new _ _ _, HCATN.out.kept0 ((Kept.refl _ _).alloc _), HC4.out, K4.out.alloc _⟩
          · go_simp
            refine hK.out _ _ ?_ (fun hHeld => ?_)
            · exact HREC.out _ (((Kept.refl [] wr).alloc (.cells #[.int .u32 0, .int .u32 0, .slice none 0 0, .slice none 0 0, .slice none 0 0] 25)).drew)
            clear hK K
            try simp only [Act.put, List.setIfInBounds_toArray, List.set_cons_zero, List.set_cons_succ]
            refine wpAnyH_ready (rs := [5]) (by kernel_rfl) (by simp) ?_
            refine (AllReadyH.cons rfl (fun K hK => ?_) AllReadyH.nil)
            go_simp
            ((with_reducible refine (HOB.out _ (((Kept.refl [] wr).alloc (.cells #[.int .u32 0, .int .u32 0, .slice none 0 0, .slice none 0 0, .slice none 0 0] 25)).drew) (by simp)).mono ?_)); rintro e w4 ⟨cv, c', rfl, hcv, hc4, k4⟩
            have K4 := Lib.hid (((((Kept.refl [] wr).alloc (.cells #[.int .u32 0, .int .u32 0, .slice none 0 0, .slice none 0 0, .slice none 0 0] 25)).drew)).trans k4)
            have oN := k4.own ((Own.new wr #[.int .u32 0, .int .u32 0, .slice none 0 0, .slice none 0 0, .slice none 0 0] 25).drew) (by simp)
            have ON := Lib.hid oN
            obtain ⟨vb4, vm4, vn4, rfl, hx1, hx2, hx3, hx4⟩ := hcv
            have hcat : CatOff (fun x => (S0 x ∨ (x = w.heap.size ∨ x = w.heap.size + 1)) ∨ x = wr.heap.size) w4 (.agg #[.int .u32 c'.nextBox, .int .u32 c'.nextMan, vb4, vm4, vn4]) c' := ⟨vb4, vm4, vn4, rfl, hx1, hx2, hx3, hx4⟩
            obtain ⟨_, _, ⟨pb4, nb4, cb4, rfl⟩, ⟨pm4, nm4, cm4, rfl⟩, ⟨pn4, nn4, cn4, rfl⟩⟩ := CatOff.parts hcat
            have HCATN := Lib.hid hcat
            have HC4 := Lib.hid hc4
            clear hx1 hx2 hx3 hx4 hcat hc4
            clear k4 oN
            go_wp2_with fail
            refine hK.out _ _ ?_ (fun hHeld => ?_)
            · exact HREC.out _ K4.out
            clear hK K
            try simp only [Act.put, List.setIfInBounds_toArray, List.set_cons_zero, List.set_cons_succ]
            obtain ⟨y0, y1, y2, y3, y4⟩ := ON.out.k5
            obtain ⟨g0, g1, g2, g3, g4⟩ := ON.out.y5
            refine take_at (i := 6) (d := some 19) (v := ?_) rfl rfl (by kernel_rfl) (by kernel_rfl) (by kernel_rfl) (fun _ _ _ h => h) (Or.inl ⟨by rfl, ?_⟩) (by assumption) ?_
            rotate_left
            · (intro w hSw; (try dsimp only at hSw); go_simp; try with_reducible rfl)
            try simp only [Act.put, List.setIfInBounds_toArray, List.set_cons_zero, List.set_cons_succ]
            refine take_at (i := 7) (d := some 26) (v := ?_) rfl rfl (by kernel_rfl) (by kernel_rfl) (by kernel_rfl) (fun _ _ _ h => h) (Or.inl ⟨by rfl, ?_⟩) (by assumption) ?_
            rotate_left
            · (intro w hSw; (try dsimp only at hSw); go_simp; try with_reducible rfl)
            try simp only [Act.put, List.setIfInBounds_toArray, List.set_cons_zero, List.set_cons_succ]
            refine take_at (i := 8) (d := some 27) (v := ?_) rfl rfl (by kernel_rfl) (by kernel_rfl) (by kernel_rfl) (fun _ _ _ h => h) (Or.inl ⟨by rfl, ?_⟩) (by assumption) ?_
            rotate_left
            · (intro w hSw; (try dsimp only at hSw); go_simp; try with_reducible rfl)
            try simp only [Act.put, List.setIfInBounds_toArray, List.set_cons_zero, List.set_cons_succ]
            refine wpAnyH_ready (rs := [10]) (by kernel_rfl) (by simp) ?_
            refine (AllReadyH.cons rfl (fun K hK => ?_) AllReadyH.nil)
            go_simp
            refine hK.out _ _ ?_ (fun hHeld => ?_)
            · exact HREC.out _ (Kept.set5s K4.out (Or.inr (Nat.le_refl _)) (.int .u32 c'.nextBox) (.int .u32 c'.nextMan) (.slice pb4 nb4 cb4) (.slice pm4 nm4 cm4) (.slice pn4 nn4 cn4))
            clear hK K
            try simp only [Act.put, List.setIfInBounds_toArray, List.set_cons_zero, List.set_cons_succ]
            refine take_at (i := 11) (d := some 8) (v := ?_) rfl rfl (by kernel_rfl) (by kernel_rfl) (by kernel_rfl) (fun _ _ _ h => h) (Or.inl ⟨by rfl, ?_⟩) (by assumption) ?_
            rotate_left
            · (intro w hSw; (try dsimp only at hSw); go_simp; try with_reducible rfl)
            try simp only [Act.put, List.setIfInBounds_toArray, List.set_cons_zero, List.set_cons_succ]
            refine wpAnyH_done (by kernel_rfl) ?_ _
            try simp only [List.set_cons_succ, List.set_cons_zero]
            go_wp2_with fail
            go_meet
            exact ⟨_, _, _, _, _, rfl, rfl, ON.out.put5 _ _ _ _ _, (HCATN.out.keptT (Kept.set5s (Kept.refl [wr.heap.size] _) (Or.inl (by simp)) _ _ _ _ _) (fun x hx => Or.inr (by simpa using hx))).weakenC (fun x hx => Or.inl hx), HC4.out, (Kept.set5s K4.out (Or.inr (Nat.le_refl _)) (.int .u32 c'.nextBox) (.int .u32 c'.nextMan) (.slice pb4 nb4 cb4) (.slice pm4 nm4 cm4) (.slice pn4 nn4 cn4))⟩
        case rest =>
          obtain ⟨nk, c', a1, a2, a3, rfl, rfl, hon, hcat, hc4, hkx⟩ := hcut
          rename World => wx
          obtain ⟨_, _, ⟨pb4, nb4, cb4, rfl⟩, ⟨pm4, nm4, cm4, rfl⟩, ⟨pn4, nn4, cn4, rfl⟩⟩ := CatOff.parts hcat
          have HCATN := Lib.hid hcat
          have HC4 := Lib.hid hc4
          have KX := Lib.hid (HA.out.kept.trans hkx)
          have OC4 := Lib.hid (hkx.own HA.out.own (by simp))
          have OB4 := Lib.hid (hkx.own HA.out.res (by simp))
          obtain ⟨x0, x1, x2, x3, x4⟩ := OC4.out.k5
          obtain ⟨f0, f1, f2, f3, f4⟩ := OC4.out.y5
          obtain ⟨y0, y1, y2, y3, y4⟩ := OB4.out.k5
          obtain ⟨g0, g1, g2, g3, g4⟩ := OB4.out.y5
          obtain ⟨n0, n1, n2, n3, n4⟩ := hon.k5
          clear hcat hc4 hkx hon z0 z1 z2 z3 z4
          by_cases hC : C = 0
          · subst hC
            obtain ⟨hmay, hre⟩ := HOK.out rfl c' HC4.out
            have HM2 := Lib.hid hmay
            have HRE := Lib.hid hre
            clear hmay hre
            go_wp2_with fail
            go_roundw
            case rel =>
              have hkT : Kept [w.heap.size] wx (((((wx.setCell ⟨w.heap.size, 0, none⟩ (.int .u32 c'.nextBox)).setCell ⟨w.heap.size, 1, none⟩ (.int .u32 c'.nextMan)).setCell ⟨w.heap.size, 2, none⟩ (.slice pb4 nb4 cb4)).setCell ⟨w.heap.size, 3, none⟩ (.slice pm4 nm4 cm4)).setCell ⟨w.heap.size, 4, none⟩ (.slice pn4 nn4 cn4)) := Kept.set5s (Kept.refl _ _) (Or.inl (by simp)) _ _ _ _ _
              (try (repeat apply Exists.intro); refine ⟨?_, rfl⟩)
              refine ⟨k + 1, c', _, _, _, HLT.out, by first | rfl | go_num, ⟨OC4.out.put5 _ _ _ _ _, ?_, HCATN.out.keptT hkT (fun x hx => Or.inr (Or.inl (by simpa using hx))), HM2.out, HRE.out.symm, Kept.set5s KX.out (Or.inr (Nat.le_refl _)) _ _ _ _ _⟩⟩
              exact ((((OB4.out.other (p := ⟨w.heap.size, 0, none⟩) (Nat.succ_ne_self _) _).other (p := ⟨w.heap.size, 1, none⟩) (Nat.succ_ne_self _) _).other (p := ⟨w.heap.size, 2, none⟩) (Nat.succ_ne_self _) _).other (p := ⟨w.heap.size, 3, none⟩) (Nat.succ_ne_self _) _).other (p := ⟨w.heap.size, 4, none⟩) (Nat.succ_ne_self _) _
            case measure => (have hh := HLT.out; simp [intOf]; omega)
          · have HE : Hid (applyX c l = (catNo, C)) := Lib.hid (by rw [HAP.out]; exact HBAD.out hC)
            have hcf : (C == 0) = false := by simpa using hC
            have hcn : (C != 0) = true := by simp [bne, hcf]
            clear hC
            go_wp2_with fail
            refine bodyPost_ret (v := .tuple #[.agg #[.int .u32 0, .int .u32 0, .slice none 0 0, .slice none 0 0, .slice none 0 0], .int .i64 C]) (ret_row_tmp Tryz.results23 rfl rfl (t := 25) ?_ Tryz.underlying25 rfl (by kernel_rfl)) rfl ?_
            · exact OB4.out.put5 _ _ _ _ _
            · exact applySays_of HE.out (catNo_off _ _) (Kept.set5s KX.out (Or.inr (Nat.le_succ _)) _ _ _ _ _)
      · obtain rfl : k = l.length := by omega
        have hend : R = (cc, 0) := by
          have := hA.here
          rw [List.drop_length] at this
          exact this.symm
        have HE : Hid (applyX c l = (cc, 0)) := Lib.hid (by rw [HAP.out]; exact hend)
        have i1 : ¬ (l.length : Int) < l.length := by omega
        obtain ⟨x0, x1, x2, x3, x4⟩ := hA.own.k5
        obtain ⟨y0, y1, y2, y3, y4⟩ := hA.res.k5
        obtain ⟨g0, g1, g2, g3, g4⟩ := hA.res.y5
        clear hA hend hk hlt
        go_wp2_with fail
        have hkT : Kept [w.heap.size + 1] wr (((((wr.setCell ⟨w.heap.size + 1, 0, none⟩ (.int .u32 cc.nextBox)).setCell ⟨w.heap.size + 1, 1, none⟩ (.int .u32 cc.nextMan)).setCell ⟨w.heap.size + 1, 2, none⟩ (.slice pb nb cb)).setCell ⟨w.heap.size + 1, 3, none⟩ (.slice pm nm cm)).setCell ⟨w.heap.size + 1, 4, none⟩ (.slice pn nn cn)) := Kept.set5s (Kept.refl _ _) (Or.inl (by simp)) _ _ _ _ _
        have hfinal := HA.out.cat.keptT hkT (fun x hx => Or.inr (Or.inr (by simpa using hx)))
        have hfin2 : CatOff S0 _ _ cc := CatOff.weakenC hfinal (fun x hx => Or.inl hx)
        refine bodyPost_ret (v := .tuple #[.agg #[.int .u32 cc.nextBox, .int .u32 cc.nextMan, .slice pb nb cb, .slice pm nm cm, .slice pn nn cn], .int .i64 0]) (ret_row_tmp Tryz.results23 rfl rfl (t := 25) ?_ Tryz.underlying25 rfl (by kernel_rfl)) rfl ?_
        · exact HA.out.res.put5 _ _ _ _ _
        · exact applySays_of HE.out hfin2 (Kept.set5s HA.out.kept (Or.inr (Nat.le_succ _)) _ _ _ _ _)
end Go.Proofs.YtakdnchmehmdhaaGreat
