/- Layer 10 (extent): the reference's May. -/
import Derived.Test.YtdnbddhjdokbfaaG13
import Derived.Test.YtdnbddhjdokbfaaG26
import Derived.Deep.RegionLaw
import Derived.Deep.RegionHeld3
import Derived.Deep.RegionWith
import Derived.Deep.QuietTactic
import Derived.Deep.CutRange
import Derived.Deep.CutBlock
import Derived.Deep.DeepCutAuto
namespace Go.Proofs.Ytdnbddhjdokbfaa
open Go.RowKit
set_option linter.unusedVariables false
set_option linter.unusedSimpArgs false

def MayXSays (f s : Int) (l : List (Int × Int)) (w : World) (e : Ending) (w' : World) : Prop := ∃ r, e = .returned (.bool r) ∧ (r = true ↔ MayX f s l) ∧ Kept [] w w'
theorem mayXSays_no {f s : Int} {l : List (Int × Int)} {w w' : World} (h : ¬ MayX f s l) (k : Kept [] w w') : MayXSays f s l w (.returned (.bool false)) w' := ⟨false, rfl, ⟨fun q => (by cases q), fun q => absurd q h⟩, k⟩
theorem mayXSays_yes {f s : Int} {l : List (Int × Int)} {w w' : World} (h : MayX f s l) (k : Kept [] w w') : MayXSays f s l w (.returned (.bool true)) w' := ⟨true, rfl, ⟨fun _ => h, fun _ => rfl⟩, k⟩
set_option maxRecDepth 100000 in
set_option maxHeartbeats 4000000 in
theorem zmay (v : Value) (l : List (Int × Int)) (f s : Int) (lo hi : Nat) (w : World) (h : RunsIn w v l lo hi) (hl : l.length ≤ 1000000) (hwf : ∀ a ∈ l, WfRun a) (f1 : -9223372036854775808 ≤ f) (f2 : f ≤ 9223372036854775807) (s1 : -9223372036854775808 ≤ s) (s2 : s ≤ 9223372036854775807) :
    Calls Try.prog 30 #[v, .int .i64 f, .int .i64 s] w (MayXSays f s l w) := by
  obtain ⟨p, c, rfl⟩ := h.shape
  have H := Lib.hid h
  have HWF := Lib.hid hwf
  have hl' : (l.length : Int) ≤ 1000000 := by omega
  clear h hwf
  go_enter Try.func30, Try.ntmps30
  go_wp2_with fail
  go_loopw [7] (fun i wr => ∃ k : Nat, k ≤ l.length ∧ i = .int .i64 k ∧ MayX f s (l.take k) ∧ Kept [] w wr) (fun i _ => l.length - (intOf i).toNat)
  case atStart => exact ⟨0, by omega, rfl, mayX_nil _ _, Kept.refl _ _⟩
  case round =>
    obtain ⟨k, hk, rfl, hM, hK⟩ := hrel
    by_cases hlt : k < l.length
    · obtain ⟨b, off, rfl, c0, c1, hb, hlc, hcm⟩ := (H.out.kept0 hK).at_ k hlt
      have hwk := HWF.out l[k] (List.getElem_mem hlt)
      have hno := @mayX_no1 f s l k hlt
      have hno2 := fun j hj => @mayX_no2 f s l k j hlt hj
      have hsu := mayX_succ hlt hM
      have i1 : (k : Int) < l.length := by omega
      have HLT := Lib.hid hlt
      have HNO := Lib.hid hno
      have HNO2 := Lib.hid hno2
      have HSU := Lib.hid hsu
      have hkw : ∀ j (hj : j < k), WfRun (l[j]'(by omega)) := fun j hj => HWF.out _ (List.getElem_mem _)
      have hkok : ∀ j (hj : j < k), OkX f s (l[j]'(by omega)) := fun j hj => hM.1 _ (by rw [List.mem_take_iff_getElem]; exact ⟨j, by omega, rfl⟩)
      have HKW := Lib.hid hkw
      have HKO := Lib.hid hkok
      clear hno hno2 hsu hM hkw hkok
      generalize l[k] = X at *
      obtain ⟨x0, xn⟩ := X
      have hwk' := hwk
      obtain ⟨w1, w2, w3, w4⟩ := hwk'
      have HWK := Lib.hid hwk
      clear hwk
      simp only at c0 c1 w1 w2 w3 w4
      unfold OkX at HNO HSU
      simp only at HNO HSU
      rcases (by omega : x0 < f ∨ (f ≤ x0 ∧ xn < 1) ∨ (f ≤ x0 ∧ 1 ≤ xn ∧ s ≤ x0) ∨ (f ≤ x0 ∧ 1 ≤ xn ∧ x0 < s ∧ 0 ≤ x0 ∧ s - x0 < xn) ∨ (f ≤ x0 ∧ 1 ≤ xn ∧ x0 < s ∧ x0 < 0 ∧ s < x0 + xn) ∨ ((f ≤ x0 ∧ 1 ≤ xn ∧ x0 < s ∧ 0 ≤ x0 ∧ xn ≤ s - x0) ∨ (f ≤ x0 ∧ 1 ≤ xn ∧ x0 < s ∧ x0 < 0 ∧ x0 + xn ≤ s))) with g1 | ⟨g1, g2⟩ | ⟨g1, g2, g3⟩ | ⟨g1, g2, g3, g4, g5⟩ | ⟨g1, g2, g3, g4, g5⟩ | ⟨g1, g2, g3, g4, g5⟩ | ⟨g1, g2, g3, g4, g5⟩
      iterate 5
        · have hnn := HNO.out (by omega)
          have HN := Lib.hid hnn
          clear hnn
          go_wp2_with fail
          go_ret
          exact mayXSays_no HN.out (hK.alloc _)
      all_goals
        have hok : f ≤ x0 ∧ 1 ≤ xn ∧ x0 < s ∧ x0 + xn ≤ s := by omega
        have HOK := Lib.hid hok
        clear hok
        have o0 := Own.new wr #[.int .i64 x0, .int .i64 xn] 66
        go_wp2_with fail
        obtain ⟨wo, rfl⟩ : ∃ wo : World, wo = wr := ⟨_, rfl⟩
        go_loopw [9] (fun i wx => ∃ m : Nat, m ≤ k ∧ i = .int .i64 m ∧ (∀ j (hj : j < m) (hjl : j < l.length), ApartX (x0, xn) l[j]) ∧ Own wx wo.heap.size #[.int .i64 x0, .int .i64 xn] 66 ∧ Kept [] w wx) (fun i _ => k - (intOf i).toNat)
        case atStart => exact ⟨0, by omega, rfl, fun j hj => absurd hj (by omega), o0, hK.alloc _⟩
        case round =>
          obtain ⟨m, hm, rfl, hap, ho, hK2⟩ := hrel
          by_cases hmk : m < k
          · have hwm := HKW.out m hmk
            have hom := HKO.out m hmk
            have hnm := HNO2.out m hmk
            obtain ⟨b', off', e', d0, d1, _⟩ := (H.out.kept0 hK2).at_ m (by omega)
            injection e' with e'
            injection e' with e1 e2 _
            subst e1 e2
            have hml : m < l.length := by omega
            have ha : ∀ (ha2 : ApartX (x0, xn) (l[m]'hml)), ∀ j (hj : j < m + 1) (hjl : j < l.length), ApartX (x0, xn) l[j] := fun ha2 j hj hjl => by
              by_cases e : j = m
              · subst e; exact ha2
              · exact hap j (by omega) hjl
            have HAP := Lib.hid ha
            have HNM := Lib.hid hnm
            have HMK := Lib.hid hmk
            clear ha hnm hap
            generalize l[m] = Y at *
            obtain ⟨y0, yn⟩ := Y
            have hz1 := fun W => zover x0 xn y0 yn W HWK.out hwm g2
            have hz2 := fun W => zover y0 yn x0 xn W hwm HWK.out hom.2.1
            obtain ⟨q1, q2, q3, q4⟩ := hom
            simp only at d0 d1 q1 q2 q3 q4
            have x0c : wr.cell? ⟨wo.heap.size, 0, none⟩ = some (.int .i64 x0) := ho.cell 0 (by simp)
            have x1c : wr.cell? ⟨wo.heap.size, 1, none⟩ = some (.int .i64 xn) := ho.cell 1 (by simp)
            have i2 : (m : Int) < k := by omega
            have i3 : (m : Int) < l.length := by omega
            have HR0 : ∃ R : Bool, (decide (x0 ≤ y0 ∧ y0 < x0 + xn) || decide (y0 ≤ x0 ∧ x0 < y0 + yn)) = R := ⟨_, rfl⟩
            obtain ⟨R, hR⟩ := HR0
            have HRR := Lib.hid hR
            clear hR
            go_upto_region 10 with fail
            go_cut [81] from 63 to 81 (fun v wx => v = .bool R ∧ Own wx wo.heap.size #[.int .i64 x0, .int .i64 xn] 66 ∧ Kept [] w wx)
            case first =>
              rcases (by omega : (x0 ≤ y0 ∧ y0 < x0 + xn) ∨ ¬ (x0 ≤ y0 ∧ y0 < x0 + xn)) with t1 | t1
              · rw [decide_eq_true t1] at hz1
                have HR : Hid (Value.bool R = .bool true) := Lib.hid (by rw [← HRR.out, decide_eq_true t1]; rfl)
                clear hz2 hwm q1 q2 q3 q4 t1
                refine wp_region_held_drew (S := (fun W => W.cell? ⟨wo.heap.size, 0, none⟩ = some (.int .i64 x0) ∧ W.cell? ⟨wo.heap.size, 1, none⟩ = some (.int .i64 xn) ∧ W.cell? ⟨b, off + m * 2, none⟩ = some (.int .i64 y0) ∧ W.cell? ⟨b, off + m * 2 + 1, none⟩ = some (.int .i64 yn))) (by kernel_rfl) (by go_keep) (fun hHeld => ?_)
                refine take_at (i := 0) (d := some 68) (v := ?_) rfl rfl (by kernel_rfl) (by kernel_rfl) (by kernel_rfl) (fun _ _ _ h => h) (Or.inl ⟨by rfl, ?_⟩) (by assumption) ?_
                rotate_left
                · (intro w hSw; (try dsimp only at hSw); go_simp; try with_reducible rfl)
                try simp only [Act.put, List.setIfInBounds_toArray, List.set_cons_zero, List.set_cons_succ]
                refine take_at (i := 1) (d := some 69) (v := ?_) rfl rfl (by kernel_rfl) (by kernel_rfl) (by kernel_rfl) (fun _ _ _ h => h) (Or.inl ⟨by rfl, ?_⟩) (by assumption) ?_
                rotate_left
                · (intro w hSw; (try dsimp only at hSw); go_simp; try with_reducible rfl)
                try simp only [Act.put, List.setIfInBounds_toArray, List.set_cons_zero, List.set_cons_succ]
                refine take_at (i := 2) (d := some 70) (v := ?_) rfl rfl (by kernel_rfl) (by kernel_rfl) (by kernel_rfl) (fun _ _ _ h => h) (Or.inl ⟨by rfl, ?_⟩) (by assumption) ?_
                rotate_left
                · (intro w hSw; (try dsimp only at hSw); go_simp; try with_reducible rfl)
                try simp only [Act.put, List.setIfInBounds_toArray, List.set_cons_zero, List.set_cons_succ]
                refine take_at (i := 3) (d := some 71) (v := ?_) rfl rfl (by kernel_rfl) (by kernel_rfl) (by kernel_rfl) (fun _ _ _ h => h) (Or.inl ⟨by rfl, ?_⟩) (by assumption) ?_
                rotate_left
                · (intro w hSw; (try dsimp only at hSw); go_simp; try with_reducible rfl)
                try simp only [Act.put, List.setIfInBounds_toArray, List.set_cons_zero, List.set_cons_succ]
                refine take_at (i := 4) (d := some 72) (v := ?_) rfl rfl (by kernel_rfl) (by kernel_rfl) (by kernel_rfl) (fun _ _ _ h => h) (Or.inl ⟨by rfl, ?_⟩) (by assumption) ?_
                rotate_left
                · (intro w hSw; (try dsimp only at hSw); go_simp; try with_reducible rfl)
                try simp only [Act.put, List.setIfInBounds_toArray, List.set_cons_zero, List.set_cons_succ]
                refine wpAnyH_ready (rs := [5]) (by kernel_rfl) (by simp) ?_
                refine AllReadyH.cons rfl (fun K hK => ?_) AllReadyH.nil
                go_simp
                ((with_reducible refine (hz1 _).mono ?_)); rintro e w' ⟨rfl, rfl⟩
                go_wp2_with fail
                refine hK.out _ _ ?_ (fun hHeld2 => ?_)
                · go_keep
                clear hK K hHeld
                skip
                try simp only [Act.put, List.setIfInBounds_toArray, List.set_cons_zero, List.set_cons_succ]
                refine take_at (i := 6) (d := some 74) (v := ?_) rfl rfl (by kernel_rfl) (by kernel_rfl) (by kernel_rfl) (fun _ _ _ h => h) (Or.inl ⟨by rfl, ?_⟩) (by assumption) ?_
                rotate_left
                · (intro w hSw; (try dsimp only at hSw); go_simp; try with_reducible rfl)
                try simp only [Act.put, List.setIfInBounds_toArray, List.set_cons_zero, List.set_cons_succ]
                refine take_at (i := 7) (d := some 75) (v := undef) rfl rfl (by kernel_rfl) (by kernel_rfl) (by kernel_rfl) (fun _ _ _ h => h) (Or.inr ⟨by rfl, rfl⟩) (by assumption) ?_
                try simp only [Act.put, List.setIfInBounds_toArray, List.set_cons_zero, List.set_cons_succ]
                refine take_at (i := 8) (d := some 76) (v := undef) rfl rfl (by kernel_rfl) (by kernel_rfl) (by kernel_rfl) (fun _ _ _ h => h) (Or.inr ⟨by rfl, rfl⟩) (by assumption) ?_
                try simp only [Act.put, List.setIfInBounds_toArray, List.set_cons_zero, List.set_cons_succ]
                refine take_at (i := 9) (d := some 77) (v := undef) rfl rfl (by kernel_rfl) (by kernel_rfl) (by kernel_rfl) (fun _ _ _ h => h) (Or.inr ⟨by rfl, rfl⟩) (by assumption) ?_
                try simp only [Act.put, List.setIfInBounds_toArray, List.set_cons_zero, List.set_cons_succ]
                refine take_at (i := 10) (d := some 78) (v := undef) rfl rfl (by kernel_rfl) (by kernel_rfl) (by kernel_rfl) (fun _ _ _ h => h) (Or.inr ⟨by rfl, rfl⟩) (by assumption) ?_
                try simp only [Act.put, List.setIfInBounds_toArray, List.set_cons_zero, List.set_cons_succ]
                refine take_at (i := 11) (d := some 79) (v := undef) rfl rfl (by kernel_rfl) (by kernel_rfl) (by kernel_rfl) (fun _ _ _ h => h) (Or.inr ⟨by rfl, rfl⟩) (by assumption) ?_
                try simp only [Act.put, List.setIfInBounds_toArray, List.set_cons_zero, List.set_cons_succ]
                refine take_at (i := 12) (d := some 80) (v := undef) rfl rfl (by kernel_rfl) (by kernel_rfl) (by kernel_rfl) (fun _ _ _ h => h) (Or.inr ⟨by rfl, rfl⟩) (by assumption) ?_
                try simp only [Act.put, List.setIfInBounds_toArray, List.set_cons_zero, List.set_cons_succ]
                refine take_at (i := 13) (d := some 81) (v := ?_) rfl rfl (by kernel_rfl) (by kernel_rfl) (by kernel_rfl) (fun _ _ _ h => h) (Or.inl ⟨by rfl, ?_⟩) (by assumption) ?_
                rotate_left
                · (intro w hSw; (try dsimp only at hSw); go_simp; try with_reducible rfl)
                try simp only [Act.put, List.setIfInBounds_toArray, List.set_cons_zero, List.set_cons_succ]
                refine wpAnyH_done (by kernel_rfl) ?_ _
                go_wp2_with fail
                go_meet
                exact ⟨HR.out.symm, (by repeat' first | exact ho | refine Own.alloc ?_ _ | refine Own.drewN ?_ _ | refine Own.drew ?_), (by repeat' first | exact hK2 | refine Kept.alloc ?_ _ | refine Kept.drewN ?_ _ | refine Kept.drew ?_)⟩
              · rw [decide_eq_false t1] at hz1
                obtain ⟨R2, hR2⟩ : ∃ R2 : Bool, decide (y0 ≤ x0 ∧ x0 < y0 + yn) = R2 := ⟨_, rfl⟩
                rw [hR2] at hz2
                have HR : Hid (Value.bool R = .bool R2) := Lib.hid (by rw [← HRR.out, decide_eq_false t1, hR2]; rfl)
                clear hwm q1 q2 q3 q4 t1 hR2
                refine wp_region_held_drew (S := (fun W => W.cell? ⟨wo.heap.size, 0, none⟩ = some (.int .i64 x0) ∧ W.cell? ⟨wo.heap.size, 1, none⟩ = some (.int .i64 xn) ∧ W.cell? ⟨b, off + m * 2, none⟩ = some (.int .i64 y0) ∧ W.cell? ⟨b, off + m * 2 + 1, none⟩ = some (.int .i64 yn))) (by kernel_rfl) (by go_keep) (fun hHeld => ?_)
                refine take_at (i := 0) (d := some 68) (v := ?_) rfl rfl (by kernel_rfl) (by kernel_rfl) (by kernel_rfl) (fun _ _ _ h => h) (Or.inl ⟨by rfl, ?_⟩) (by assumption) ?_
                rotate_left
                · (intro w hSw; (try dsimp only at hSw); go_simp; try with_reducible rfl)
                try simp only [Act.put, List.setIfInBounds_toArray, List.set_cons_zero, List.set_cons_succ]
                refine take_at (i := 1) (d := some 69) (v := ?_) rfl rfl (by kernel_rfl) (by kernel_rfl) (by kernel_rfl) (fun _ _ _ h => h) (Or.inl ⟨by rfl, ?_⟩) (by assumption) ?_
                rotate_left
                · (intro w hSw; (try dsimp only at hSw); go_simp; try with_reducible rfl)
                try simp only [Act.put, List.setIfInBounds_toArray, List.set_cons_zero, List.set_cons_succ]
                refine take_at (i := 2) (d := some 70) (v := ?_) rfl rfl (by kernel_rfl) (by kernel_rfl) (by kernel_rfl) (fun _ _ _ h => h) (Or.inl ⟨by rfl, ?_⟩) (by assumption) ?_
                rotate_left
                · (intro w hSw; (try dsimp only at hSw); go_simp; try with_reducible rfl)
                try simp only [Act.put, List.setIfInBounds_toArray, List.set_cons_zero, List.set_cons_succ]
                refine take_at (i := 3) (d := some 71) (v := ?_) rfl rfl (by kernel_rfl) (by kernel_rfl) (by kernel_rfl) (fun _ _ _ h => h) (Or.inl ⟨by rfl, ?_⟩) (by assumption) ?_
                rotate_left
                · (intro w hSw; (try dsimp only at hSw); go_simp; try with_reducible rfl)
                try simp only [Act.put, List.setIfInBounds_toArray, List.set_cons_zero, List.set_cons_succ]
                refine take_at (i := 4) (d := some 72) (v := ?_) rfl rfl (by kernel_rfl) (by kernel_rfl) (by kernel_rfl) (fun _ _ _ h => h) (Or.inl ⟨by rfl, ?_⟩) (by assumption) ?_
                rotate_left
                · (intro w hSw; (try dsimp only at hSw); go_simp; try with_reducible rfl)
                try simp only [Act.put, List.setIfInBounds_toArray, List.set_cons_zero, List.set_cons_succ]
                refine wpAnyH_ready (rs := [5]) (by kernel_rfl) (by simp) ?_
                refine AllReadyH.cons rfl (fun K hK => ?_) AllReadyH.nil
                go_simp
                ((with_reducible refine (hz1 _).mono ?_)); rintro e w' ⟨rfl, rfl⟩
                go_wp2_with fail
                refine hK.out _ _ ?_ (fun hHeld2 => ?_)
                · go_keep
                clear hK K hHeld
                skip
                try simp only [Act.put, List.setIfInBounds_toArray, List.set_cons_zero, List.set_cons_succ]
                refine take_at (i := 6) (d := some 74) (v := ?_) rfl rfl (by kernel_rfl) (by kernel_rfl) (by kernel_rfl) (fun _ _ _ h => h) (Or.inl ⟨by rfl, ?_⟩) (by assumption) ?_
                rotate_left
                · (intro w hSw; (try dsimp only at hSw); go_simp; try with_reducible rfl)
                try simp only [Act.put, List.setIfInBounds_toArray, List.set_cons_zero, List.set_cons_succ]
                refine take_at (i := 7) (d := some 75) (v := ?_) rfl rfl (by kernel_rfl) (by kernel_rfl) (by kernel_rfl) (fun _ _ _ h => h) (Or.inl ⟨by rfl, ?_⟩) (by assumption) ?_
                rotate_left
                · (intro w hSw; (try dsimp only at hSw); go_simp; try with_reducible rfl)
                try simp only [Act.put, List.setIfInBounds_toArray, List.set_cons_zero, List.set_cons_succ]
                refine take_at (i := 8) (d := some 76) (v := ?_) rfl rfl (by kernel_rfl) (by kernel_rfl) (by kernel_rfl) (fun _ _ _ h => h) (Or.inl ⟨by rfl, ?_⟩) (by assumption) ?_
                rotate_left
                · (intro w hSw; (try dsimp only at hSw); go_simp; try with_reducible rfl)
                try simp only [Act.put, List.setIfInBounds_toArray, List.set_cons_zero, List.set_cons_succ]
                refine take_at (i := 9) (d := some 77) (v := ?_) rfl rfl (by kernel_rfl) (by kernel_rfl) (by kernel_rfl) (fun _ _ _ h => h) (Or.inl ⟨by rfl, ?_⟩) (by assumption) ?_
                rotate_left
                · (intro w hSw; (try dsimp only at hSw); go_simp; try with_reducible rfl)
                try simp only [Act.put, List.setIfInBounds_toArray, List.set_cons_zero, List.set_cons_succ]
                refine take_at (i := 10) (d := some 78) (v := ?_) rfl rfl (by kernel_rfl) (by kernel_rfl) (by kernel_rfl) (fun _ _ _ h => h) (Or.inl ⟨by rfl, ?_⟩) (by assumption) ?_
                rotate_left
                · (intro w hSw; (try dsimp only at hSw); go_simp; try with_reducible rfl)
                try simp only [Act.put, List.setIfInBounds_toArray, List.set_cons_zero, List.set_cons_succ]
                refine take_at (i := 11) (d := some 79) (v := ?_) rfl rfl (by kernel_rfl) (by kernel_rfl) (by kernel_rfl) (fun _ _ _ h => h) (Or.inl ⟨by rfl, ?_⟩) (by assumption) ?_
                rotate_left
                · (intro w hSw; (try dsimp only at hSw); go_simp; try with_reducible rfl)
                try simp only [Act.put, List.setIfInBounds_toArray, List.set_cons_zero, List.set_cons_succ]
                refine wpAnyH_ready (rs := [12]) (by kernel_rfl) (by simp) ?_
                refine AllReadyH.cons rfl (fun K hK => ?_) AllReadyH.nil
                go_simp
                ((with_reducible refine (hz2 _).mono ?_)); rintro e w' ⟨rfl, rfl⟩
                go_wp2_with fail
                refine hK.out _ _ ?_ (fun hHeld3 => ?_)
                · exact ⟨(by repeat' first | exact x0c | refine Lib.cell?_alloc_some _ ?_), (by repeat' first | exact x1c | refine Lib.cell?_alloc_some _ ?_), (by repeat' first | exact d0 | refine Lib.cell?_alloc_some _ ?_), (by repeat' first | exact d1 | refine Lib.cell?_alloc_some _ ?_)⟩
                clear hK K hHeld2
                skip
                try simp only [Act.put, List.setIfInBounds_toArray, List.set_cons_zero, List.set_cons_succ]
                refine take_at (i := 13) (d := some 81) (v := ?_) rfl rfl (by kernel_rfl) (by kernel_rfl) (by kernel_rfl) (fun _ _ _ h => h) (Or.inl ⟨by rfl, ?_⟩) (by assumption) ?_
                rotate_left
                · (intro w hSw; (try dsimp only at hSw); go_simp; try with_reducible rfl)
                try simp only [Act.put, List.setIfInBounds_toArray, List.set_cons_zero, List.set_cons_succ]
                refine wpAnyH_done (by kernel_rfl) ?_ _
                go_wp2_with fail
                go_meet
                exact ⟨HR.out.symm, (by repeat' first | exact ho | refine Own.alloc ?_ _ | refine Own.drewN ?_ _ | refine Own.drew ?_), (by repeat' first | exact hK2 | refine Kept.alloc ?_ _ | refine Kept.drewN ?_ _ | refine Kept.drew ?_)⟩
            case rest =>
              obtain ⟨rfl, ho2, hK3⟩ := hcut
              cases R
              · have hap2 := HAP.out (by
                  have h9 := HRR.out
                  rw [Bool.or_eq_false_iff, decide_eq_false_iff_not, decide_eq_false_iff_not] at h9
                  unfold ApartX; simp only; omega)
                have HA2 := Lib.hid hap2
                clear hap2 hwm q1 q2 q3 q4 HRR
                go_wp2_with fail
                go_roundw
                case rel => exact ⟨m + 1, HMK.out, by go_num, HA2.out, ho2, hK3⟩
                case measure => (have hh := HMK.out; simp [intOf]; omega)
              · have hnn := HNM.out (by
                  have h9 := HRR.out
                  rw [Bool.or_eq_true, decide_eq_true_eq, decide_eq_true_eq] at h9
                  unfold ApartX; simp only; omega)
                have HN := Lib.hid hnn
                clear hnn hwm q1 q2 q3 q4 HRR
                go_wp2_with fail
                go_ret
                exact mayXSays_no HN.out hK3
          · obtain rfl : m = k := by omega
            have hsk := HSU.out HOK.out (fun j hj => hap j hj _)
            have HSK := Lib.hid hsk
            clear hsk hap
            go_wp2_with fail
            go_roundw
            case rel => exact ⟨m + 1, HLT.out, by go_num, HSK.out, hK2⟩
            case measure => (have hh := HLT.out; simp [intOf]; omega)
    · obtain rfl : k = l.length := by omega
      rw [List.take_length] at hM
      have HM := Lib.hid hM
      clear hM
      go_wp2_with fail
      go_ret
      exact mayXSays_yes HM.out hK
end Go.Proofs.Ytdnbddhjdokbfaa
