/- Layer 38 (catalog): the document's Lies. -/
import Derived.Test.YtakdnchmehmdhaaGreatG09
import Derived.Test.YtakdnchmehmdhaaGreatG33
import Derived.BigQuiet
import Derived.IntWalk
namespace Go.Proofs.YtakdnchmehmdhaaGreat
open Go.RowKit
set_option linter.unusedVariables false
set_option linter.unusedSimpArgs false

set_option maxRecDepth 100000 in
set_option maxHeartbeats 8000000 in
theorem qlies (v : Value) (l : List (Int × Int)) (sec jr : Int) (lo hi : Nat) (w : World) (h : RunsIn w v l lo hi) (hl : l.length ≤ 1000000) (hwf : ∀ a ∈ l, WfRun a) (hs : -9223372036854775808 ≤ sec) (hj : -9223372036854775808 ≤ jr ∧ jr ≤ 9223372036854775807) (hbig : ∀ a ∈ l, a.1 ≤ 1099511627776 ∧ a.2 ≤ 1099511627776 ∧ sec ≤ 1099511627776) :
    Calls Tryz.prog 25 #[v, .int .i64 sec, .int .i64 jr] w (EqSays (LiesL sec jr l) w) := by
  obtain ⟨p, c, rfl⟩ := h.shape
  have H := Lib.hid h
  have HWF := Lib.hid hwf
  have HBIG := Lib.hid hbig
  have HSJ := Lib.hid (And.intro hs hj)
  have hl' : (l.length : Int) ≤ 1000000 := by omega
  clear h hwf hbig hs hj
  go_enter Tryz.func25, Tryz.ntmps25
  go_wp2_with fail
  go_loopw [7] (fun i wr => ∃ k : Nat, k ≤ l.length ∧ i = .int .i64 k ∧ LiesL sec jr (l.take k) ∧ Kept [] w wr) (fun i _ => l.length - (intOf i).toNat)
  case atStart => exact ⟨0, by omega, rfl, liesL_nil _ _, Kept.refl _ _⟩
  case round =>
    obtain ⟨k, hk, rfl, hM, hK⟩ := hrel
    rename World => wr
    by_cases hlt : k < l.length
    · obtain ⟨b, off, rfl, c0, c1, hb, hlc, hcm⟩ := (H.out.kept0 hK).at_ k hlt
      have hwk := HWF.out l[k] (List.getElem_mem hlt)
      have hbk := HBIG.out l[k] (List.getElem_mem hlt)
      have hno := @liesL_no1 sec jr l k hlt
      have hno2 := fun j hj => @liesL_no2 sec jr l k j hlt hj
      have hsu := fun h1 h2 => liesL_take_succ hlt hM h1 h2
      have i1 : (k : Int) < l.length := by omega
      have HLT := Lib.hid hlt
      have HNO := Lib.hid hno
      have HNO2 := Lib.hid hno2
      have HSU := Lib.hid hsu
      have hkok : ∀ j (hj : j < k), OkL sec jr (l[j]'(by omega)) := fun j hj => liesL_ok hM (by omega) hj
      have HKO := Lib.hid hkok
      have HK := Lib.hid hK
      clear hno hno2 hsu hM hkok hK
      generalize l[k] = X at *
      obtain ⟨x0, xn⟩ := X
      have hwk' := hwk
      obtain ⟨w1, w2, w3, w4⟩ := hwk'
      have HWK := Lib.hid hwk
      clear hwk
      simp only at c0 c1 w1 w2 w3 w4 hbk
      unfold OkL at HNO HSU
      simp only at HNO HSU
      have hq := HSJ.out
      have E1 : 2 ≤ x0 → IntKind.i64.wrap (x0 - 2) = x0 - 2 := fun _ => IntWalk.i64_in _ (by omega)
      have E2 : 2 ≤ x0 → x0 ≤ sec → IntKind.i64.wrap (sec - x0) = sec - x0 := fun _ _ => IntWalk.i64_in _ (by omega)
      have o0 := Own.new wr #[.int .i64 x0, .int .i64 xn] 48
      have O0 := Lib.hid o0
      clear o0 hq
      rcases (by omega : xn < 1 ∨ (1 ≤ xn ∧ x0 < 2) ∨ (1 ≤ xn ∧ 2 ≤ x0 ∧ x0 - 2 < jr) ∨ (1 ≤ xn ∧ 2 ≤ x0 ∧ jr ≤ x0 - 2 ∧ sec < x0) ∨ (1 ≤ xn ∧ 2 ≤ x0 ∧ jr ≤ x0 - 2 ∧ x0 ≤ sec ∧ sec - x0 < xn) ∨ (1 ≤ xn ∧ 2 ≤ x0 ∧ jr ≤ x0 - 2 ∧ x0 ≤ sec ∧ xn ≤ sec - x0)) with g1 | ⟨g1, g2⟩ | ⟨g1, g2, g3⟩ | ⟨g1, g2, g3, g4⟩ | ⟨g1, g2, g3, g4, g5⟩ | ⟨g1, g2, g3, g4, g5⟩
      · have HN := Lib.hid (HNO.out (by omega))
        have d1 : decide (xn < 1) = true := by simp; omega
        clear E1 E2 g1 w1 w2 w3 w4 hbk
        go_wp2_with fail
        go_ret
        exact eqSays_no HN.out (HK.out.alloc _)
      · have HN := Lib.hid (HNO.out (by omega))
        have d1 : decide (xn < 1) = false := by simp; omega
        have d2 : decide (x0 < 2) = true := by simp; omega
        clear E1 E2 g1 g2 w1 w2 w3 w4 hbk
        go_wp2_with fail
        go_ret
        exact eqSays_no HN.out (HK.out.alloc _)
      · have HN := Lib.hid (HNO.out (by omega))
        have d1 : decide (xn < 1) = false := by simp; omega
        have d2 : decide (x0 < 2) = false := by simp; omega
        have e1 := E1 g2
        have d3 : decide (x0 - 2 < jr) = true := by simp; omega
        clear E1 E2 g1 g2 g3 w1 w2 w3 w4 hbk
        go_wp2_with fail
        go_ret
        exact eqSays_no HN.out (HK.out.alloc _)
      · have HN := Lib.hid (HNO.out (by omega))
        have d1 : decide (xn < 1) = false := by simp; omega
        have d2 : decide (x0 < 2) = false := by simp; omega
        have e1 := E1 g2
        have d3 : decide (x0 - 2 < jr) = false := by simp; omega
        have d4 : decide (sec < x0) = true := by simp; omega
        have d4' : decide (x0 > sec) = true := by simp; omega
        clear E1 E2 g1 g2 g3 g4 w1 w2 w3 w4 hbk
        go_wp2_with fail
        go_ret
        exact eqSays_no HN.out (HK.out.alloc _)
      · have HN := Lib.hid (HNO.out (by omega))
        have d1 : decide (xn < 1) = false := by simp; omega
        have d2 : decide (x0 < 2) = false := by simp; omega
        have e1 := E1 g2
        have d3 : decide (x0 - 2 < jr) = false := by simp; omega
        have e2 := E2 g2 g4
        have d4 : decide (sec < x0) = false := by simp; omega
        have d4' : decide (x0 > sec) = false := by simp; omega
        have d5 : decide (sec - x0 < xn) = true := by simp; omega
        have d5' : decide (xn > sec - x0) = true := by simp; omega
        clear E1 E2 g1 g2 g3 g4 g5 w1 w2 w3 w4 hbk
        go_wp2_with fail
        go_ret
        exact eqSays_no HN.out (HK.out.alloc _)
      · have HOK : Hid (1 ≤ xn ∧ 2 ≤ x0 ∧ jr ≤ x0 - 2 ∧ x0 ≤ sec ∧ xn ≤ sec - x0) := Lib.hid (by omega)
        have d1 : decide (xn < 1) = false := by simp; omega
        have d2 : decide (x0 < 2) = false := by simp; omega
        have e1 := E1 g2
        have d3 : decide (x0 - 2 < jr) = false := by simp; omega
        have e2 := E2 g2 g4
        have d4 : decide (sec < x0) = false := by simp; omega
        have d4' : decide (x0 > sec) = false := by simp; omega
        have d5 : decide (sec - x0 < xn) = false := by simp; omega
        have d5' : decide (xn > sec - x0) = false := by simp; omega
        have hb2 := hbk.2.2
        clear E1 E2 g1 g2 g3 g4 g5 hbk w1 w2 w3 w4
        go_wp2_with fail
        clear d1 d2 d3 d4 d4' d5 d5' e1 e2
        obtain ⟨wo, rfl⟩ : ∃ wo : World, wo = wr := ⟨_, rfl⟩
        go_loopw [9] (fun i wx => ∃ m : Nat, m ≤ k ∧ i = .int .i64 m ∧ (∀ j (hj : j < m) (hjl : j < l.length), ApL (x0, xn) l[j]) ∧ Own wx wo.heap.size #[.int .i64 x0, .int .i64 xn] 48 ∧ Kept [] w wx) (fun i _ => k - (intOf i).toNat)
        case atStart => exact ⟨0, by omega, rfl, fun j hj => absurd hj (by omega), O0.out, HK.out.alloc _⟩
        case round =>
          obtain ⟨m, hm, rfl, hap, ho, hK2⟩ := hrel
          rename World => wx
          by_cases hmk : m < k
          · have hom := HKO.out m hmk
            have hnm := HNO2.out m hmk
            obtain ⟨b', off', e', d0, d1, _⟩ := (H.out.kept0 hK2).at_ m (by have := HLT.out; omega)
            injection e' with e'
            injection e' with e1 e2 _
            subst e1 e2
            have hml : m < l.length := by have := HLT.out; omega
            have ha : ∀ (ha2 : ApL (x0, xn) (l[m]'hml)), ∀ j (hj : j < m + 1) (hjl : j < l.length), ApL (x0, xn) l[j] := fun ha2 j hj hjl => by
              by_cases e : j = m
              · subst e; exact ha2
              · exact hap j (by omega) hjl
            have HAP := Lib.hid ha
            have HNM := Lib.hid hnm
            have HMK := Lib.hid hmk
            have HO := Lib.hid ho
            have HK2 := Lib.hid hK2
            have i2 : (m : Int) < k := by omega
            have i3 : (m : Int) < l.length := by omega
            have x0c : wx.cell? ⟨wo.heap.size, 0, none⟩ = some (.int .i64 x0) := ho.cell 0 (by simp)
            have x1c : wx.cell? ⟨wo.heap.size, 1, none⟩ = some (.int .i64 xn) := ho.cell 1 (by simp)
            clear ha hnm hap ho hK2 hm
            generalize l[m] = Y at *
            obtain ⟨y0, yn⟩ := Y
            unfold OkL at hom
            unfold ApL at HAP HNM
            simp only at d0 d1 hom HAP HNM
            obtain ⟨q1, q2, q3, q4, q5⟩ := hom
            have e1 : IntKind.i64.wrap (y0 + yn) = y0 + yn := IntWalk.i64_in _ (by omega)
            have e2 : IntKind.i64.wrap (x0 + xn) = x0 + xn := by have := HOK.out; exact IntWalk.i64_in _ (by omega)
            rcases (by omega : ¬ x0 < y0 + yn ∨ (x0 < y0 + yn ∧ ¬ y0 < x0 + xn) ∨ (x0 < y0 + yn ∧ y0 < x0 + xn)) with t1 | ⟨t1, t2⟩ | ⟨t1, t2⟩
            · have k1 : decide (x0 < y0 + yn) = false := by simp; omega
              have HA2 := Lib.hid (HAP.out (fun h => by omega))
              clear t1  q1 q2 q3 q4 q5 hb2 HAP HNM
              go_wp2_with fail
              go_quiet (fail)
              go_wp2_with fail
              go_roundw
              case rel => exact ⟨m + 1, HMK.out, by go_num, HA2.out, HO.out.drewN _, HK2.out.drewN _⟩
              case measure => (have hh := HMK.out; simp [intOf]; omega)
            · have k1 : decide (x0 < y0 + yn) = true := by simp; omega
              have k2 : decide (y0 < x0 + xn) = false := by simp; omega
              have HA2 := Lib.hid (HAP.out (fun h => by omega))
              clear t1 t2 q1 q2 q3 q4 q5 hb2 HAP HNM
              go_wp2_with fail
              go_quiet (fail)
              go_wp2_with fail
              go_roundw
              case rel => exact ⟨m + 1, HMK.out, by go_num, HA2.out, HO.out.drewN _, HK2.out.drewN _⟩
              case measure => (have hh := HMK.out; simp [intOf]; omega)
            · have k1 : decide (x0 < y0 + yn) = true := by simp; omega
              have k2 : decide (y0 < x0 + xn) = true := by simp; omega
              have HN := Lib.hid (HNM.out (fun h => h ⟨t1, t2⟩))
              clear t1 t2 q1 q2 q3 q4 q5 hb2 HAP HNM
              go_wp2_with fail
              go_quiet (fail)
              go_wp2_with fail
              go_ret
              exact eqSays_no HN.out (HK2.out.drewN _)
          · obtain rfl : m = k := by omega
            have hsk := HSU.out HOK.out (fun j hj => hap j hj _)
            have HSK := Lib.hid hsk
            have HK2 := Lib.hid hK2
            clear hsk hap hb2 hK2 ho hmk
            go_wp2_with fail
            go_roundw
            case rel => exact ⟨m + 1, HLT.out, by go_num, HSK.out, HK2.out⟩
            case measure => (have hh := HLT.out; simp [intOf]; omega)
    · obtain rfl : k = l.length := by omega
      rw [List.take_length] at hM
      have HM := Lib.hid hM
      have HK := Lib.hid hK
      clear hM hK
      go_wp2_with fail
      go_ret
      exact eqSays_yes HM.out HK.out
end Go.Proofs.YtakdnchmehmdhaaGreat
