/- Layer 39 (catalog): the program's Lies. -/
import Derived.Test.YtakdnchmehmdhaaGreatG08
import Derived.Test.YtakdnchmehmdhaaGreatG09
import Derived.Test.YtakdnchmehmdhaaGreatG25
import Derived.Test.YtakdnchmehmdhaaGreatG33
import Derived.WalkMore
import Derived.BigQuiet
import Derived.IntWalk
namespace Go.Proofs.YtakdnchmehmdhaaGreat
open Go.RowKit Go.Sort Go.Shelf
set_option linter.unusedVariables false
set_option linter.unusedSimpArgs false

theorem rcells_app (a b : List (Int × Int)) : rcells (a ++ b) = rcells a ++ rcells b := by unfold rcells; simp
def LiesSays (q : Prop) (w : World) (e : Ending) (w' : World) : Prop := ∃ C : Int, e = .returned (.int .i64 C) ∧ ((C = 0 ∧ q) ∨ (C = 110 ∧ ¬ q)) ∧ Kept [] w w'
theorem liesSays_no {q : Prop} (h : ¬ q) {w w' : World} (k : Kept [] w w') : LiesSays q w (.returned (.int .i64 110)) w' := ⟨110, rfl, Or.inr ⟨rfl, h⟩, k⟩
theorem liesSays_yes {q : Prop} (h : q) {w w' : World} (k : Kept [] w w') : LiesSays q w (.returned (.int .i64 0)) w' := ⟨0, rfl, Or.inl ⟨rfl, h⟩, k⟩
theorem xorderL (x y : Int × Int) (W : World) : Calls Tryz.prog 65 #[.agg #[.int .i64 x.1, .int .i64 x.2], .agg #[.int .i64 y.1, .int .i64 y.2]] W fun e w' => e = .returned (.int .i64 (cmpI x.1 y.1)) ∧ ∃ q os', w' = grow (W.drewN q) os' := by
  have hcon := fun W' => xcmp x.1 y.1 W'
  generalize cmpI x.1 y.1 = r at hcon ⊢
  go_enter Tryz.func65, Tryz.ntmps65
  go_wp2_with (go_at_call 66; refine (hcon _).mono ?_; rintro e w' ⟨rfl, rfl⟩)
  go_ret
  exact ⟨rfl, 0, _, by rw [alloc_eq_grow, alloc_eq_grow, grow_grow]; rfl⟩
theorem xsortL (base : Nat) (v : Value) (l : List (Int × Int)) (w : World) (h : w.ownsRow base 48 2 v l.length (rcells l)) (hl : l.length ≤ 1000000) :
    Calls Tryz.prog 64 #[v, .func (.func 65) #[] #[]] w (SortSays base v l w) :=
  xsort 65 base v l w h hl (enters_of Tryz.func65 (by kernel_rfl) rfl) xorderL
set_option maxRecDepth 100000 in
set_option maxHeartbeats 8000000 in
theorem zlies (v : Value) (c : JCat) (sec jr : Int) (u : Value) (others : List (Int × Int)) (lo hi : Nat) (w : World) (h : CatIn w v c) (hlen : c.boxes.length + c.mans.length + c.names.length ≤ 1000) (htot : (runsC c).length ≤ 500000) (hu : RunsIn w u others lo hi) (ho : others.length ≤ 100000)
    (hwf : ∀ a ∈ runsC c ++ others, WfRun a) (hs : -9223372036854775808 ≤ sec) (hj : -9223372036854775808 ≤ jr ∧ jr ≤ 9223372036854775807) (hbig : ∀ a ∈ runsC c ++ others, a.1 ≤ 1099511627776 ∧ a.2 ≤ 1099511627776 ∧ sec ≤ 1099511627776) :
    Calls Tryz.prog 26 #[v, .int .i64 sec, .int .i64 jr, u] w (LiesSays (LiesL sec jr (runsC c ++ others)) w) := by
  have HRU : Hid (∀ W, Kept [] w W → Calls Tryz.prog 33 #[v] W (GivesR (runsC c) W)) := Lib.hid (fun W q => zruns v c W (h.kept0 q) hlen (by omega))
  have HU : Hid (∀ W, Kept [] w W → RunsIn W u others lo hi) := Lib.hid (fun W q => hu.kept0 q)
  have HLEN : Hid ((runsC c).length ≤ 500000 ∧ others.length ≤ 100000) := Lib.hid ⟨htot, ho⟩
  have HWF := Lib.hid hwf
  have HBIG := Lib.hid hbig
  have HSJ := Lib.hid (And.intro hs hj)
  obtain ⟨vb, vm, vn, rfl, hb, hm, hn, _⟩ := h
  obtain ⟨p1, c1, rfl⟩ := hb.shape
  obtain ⟨p2, c2, rfl⟩ := hm.shape
  obtain ⟨p3, c3, rfl⟩ := hn.shape
  obtain ⟨pu, cu, rfl⟩ := hu.shape
  obtain ⟨R, hR⟩ : ∃ R, runsC c = R := ⟨_, rfl⟩
  rw [hR] at HRU HLEN HWF HBIG ⊢
  obtain ⟨W1, hW1⟩ : ∃ W1, W1 = w.alloc (.cells #[.int .u32 c.nextBox, .int .u32 c.nextMan, .slice p1 c.boxes.length c1, .slice p2 c.mans.length c2, .slice p3 c.names.length c3] 25) := ⟨_, rfl⟩
  have k1 : Kept [] w W1 := by rw [hW1]; exact (Kept.refl _ _).alloc _
  have oA : Own W1 w.heap.size #[.int .u32 c.nextBox, .int .u32 c.nextMan, .slice p1 c.boxes.length c1, .slice p2 c.mans.length c2, .slice p3 c.names.length c3] 25 := by rw [hW1]; exact Own.new _ _ _
  obtain ⟨z0, z1, z2, z3, z4⟩ := oA.k5
  have KW1 := Lib.hid k1
  have HSORT : Hid (∀ W v' l, l.length ≤ 1000000 → W.ownsRow w.heap.size 48 2 v' l.length (rcells l) → Calls Tryz.prog 64 #[v', .func (.func 65) #[] #[]] W (SortSays w.heap.size v' l W)) := Lib.hid (fun W v' l hl hr => xsortL w.heap.size v' l W hr hl)
  unfold GivesR at HRU
  unfold SortSays at HSORT
  clear hwf hbig hs hj hb hm hn hu ho htot hlen hR k1 oA
  go_enter Tryz.func26, Tryz.ntmps26
  go_wp2_with fail
  go_step3
  go_wp2_with fail
  rw [← hW1]
  clear hW1
  refine (HRU.out _ KW1.out).mono ?_; rintro e w3 ⟨v3, rfl, r3, k3⟩
  have K3 := Lib.hid (KW1.out.trans k3)
  have ROW3 := Lib.hid (ownsRow_base r3 KW1.out.size)
  obtain ⟨p3', c3', rfl⟩ := own_shape r3
  clear r3 k3 z0 z1 z2 z3 z4
  go_wp2_with (at_builtin; go_must (refine wpList_append_runs rfl (.tmp 15) (.tmp 16) rfl w.heap.size _ _ _ rfl ROW3.out _ others lo hi rfl (HU.out _ K3.out) (by have := HLEN.out; unfold maxLen; omega) (by have := HLEN.out; omega) K3.out.size ?_))
  intro v6 w6 o6 gr6
  have K6 := Lib.hid (K3.out.grown gr6 (fun q hq => Or.inr (World.ownsRow.lt ROW3.out q hq).1))
  rw [← rcells_app, ← List.length_append] at o6
  have hl1 : (R ++ others).length ≤ 600000 := by rw [List.length_append]; have := HLEN.out; omega
  clear gr6 ROW3 HU HRU
  generalize R ++ others = l at *
  have ROW6 := Lib.hid o6
  obtain ⟨p, cc, rfl⟩ := own_shape o6
  have H := Lib.hid (RunsIn.of_own o6)
  have hl' : (l.length : Int) ≤ 600000 := by omega
  have HL1 := Lib.hid hl1
  clear o6 hl1
  go_wp2_with fail
  go_step3
  go_wp2_with fail
  go_loopw [10, 20] (fun u i wr => ∃ k : Nat, k ≤ l.length ∧ u = .int .i64 0 ∧ i = .int .i64 k ∧ (∀ j (hj : j < l.length), j < k → OkL sec jr l[j]) ∧ Kept [] w6 wr) (fun _ i _ => l.length - (intOf i).toNat)
  case atStart => exact ⟨0, Nat.zero_le _, rfl, rfl, fun j hj h => absurd h (Nat.not_lt_zero j), Kept.refl _ _⟩
  case round =>
    obtain ⟨k, hk, rfl, rfl, hM, hK⟩ := hrel
    rename World => wr
    by_cases hlt : k < l.length
    · obtain ⟨b, off, rfl, c0, c1, hb, hlc, hcm⟩ := (H.out.kept0 hK).at_ k hlt
      have hwk := HWF.out l[k] (List.getElem_mem hlt)
      have hbk := HBIG.out l[k] (List.getElem_mem hlt)
      have hno := @liesL_no1 sec jr l k hlt
      have hsu : OkL sec jr l[k] → ∀ j (hj : j < l.length), j < k + 1 → OkL sec jr l[j] := fun h1 j hj hjk => by
        by_cases e : j = k
        · subst e; exact h1
        · exact hM j hj (by omega)
      have i1 : (k : Int) < l.length := by omega
      have HLT := Lib.hid hlt
      have HNO := Lib.hid hno
      have HSU := Lib.hid hsu
      have HK := Lib.hid hK
      have HKW := Lib.hid (K6.out.trans hK)
      clear hno hsu hM hK hk
      generalize l[k] = X at *
      obtain ⟨x0, xn⟩ := X
      obtain ⟨w1, w2, w3', w4⟩ := hwk
      simp only at c0 c1 w1 w2 w3' w4 hbk
      unfold OkL at HNO HSU
      simp only at HNO HSU
      have hq := HSJ.out
      have E1 : 2 ≤ x0 → IntKind.i64.wrap (x0 - 2) = x0 - 2 := fun _ => IntWalk.i64_in _ (by omega)
      have E2 : 2 ≤ x0 → x0 ≤ sec → IntKind.i64.wrap (sec - x0) = sec - x0 := fun _ _ => IntWalk.i64_in _ (by omega)
      clear hq
      rcases (by omega : xn < 1 ∨ (1 ≤ xn ∧ x0 < 2) ∨ (1 ≤ xn ∧ 2 ≤ x0 ∧ x0 - 2 < jr) ∨ (1 ≤ xn ∧ 2 ≤ x0 ∧ jr ≤ x0 - 2 ∧ sec < x0) ∨ (1 ≤ xn ∧ 2 ≤ x0 ∧ jr ≤ x0 - 2 ∧ x0 ≤ sec ∧ sec - x0 < xn) ∨ (1 ≤ xn ∧ 2 ≤ x0 ∧ jr ≤ x0 - 2 ∧ x0 ≤ sec ∧ xn ≤ sec - x0)) with g1 | ⟨g1, g2⟩ | ⟨g1, g2, g3⟩ | ⟨g1, g2, g3, g4⟩ | ⟨g1, g2, g3, g4, g5⟩ | ⟨g1, g2, g3, g4, g5⟩
      · have HN := Lib.hid (HNO.out (by omega))
        have d1 : decide (xn < 1) = true := by simp; omega
        clear E1 E2 g1 w1 w2 w3' w4 hbk
        go_wp2_with fail
        rw [Exit.noGoto_ret]
        go_ret
        exact liesSays_no HN.out (HKW.out.alloc _)
      · have HN := Lib.hid (HNO.out (by omega))
        have d1 : decide (xn < 1) = false := by simp; omega
        have d2 : decide (x0 < 2) = true := by simp; omega
        clear E1 E2 g1 g2 w1 w2 w3' w4 hbk
        go_wp2_with fail
        rw [Exit.noGoto_ret]
        go_ret
        exact liesSays_no HN.out (HKW.out.alloc _)
      · have HN := Lib.hid (HNO.out (by omega))
        have d1 : decide (xn < 1) = false := by simp; omega
        have d2 : decide (x0 < 2) = false := by simp; omega
        have e1 := E1 g2
        have d3 : decide (x0 - 2 < jr) = true := by simp; omega
        clear E1 E2 g1 g2 g3 w1 w2 w3' w4 hbk
        go_wp2_with fail
        rw [Exit.noGoto_ret]
        go_ret
        exact liesSays_no HN.out (HKW.out.alloc _)
      · have HN := Lib.hid (HNO.out (by omega))
        have d1 : decide (xn < 1) = false := by simp; omega
        have d2 : decide (x0 < 2) = false := by simp; omega
        have e1 := E1 g2
        have d3 : decide (x0 - 2 < jr) = false := by simp; omega
        have d4 : decide (sec < x0) = true := by simp; omega
        have d4' : decide (x0 > sec) = true := by simp; omega
        clear E1 E2 g1 g2 g3 g4 w1 w2 w3' w4 hbk
        go_wp2_with fail
        rw [Exit.noGoto_ret]
        go_ret
        exact liesSays_no HN.out (HKW.out.alloc _)
      · have HN := Lib.hid (HNO.out (by omega))
        have d1 : decide (xn < 1) = false := by simp; omega
        have d2 : decide (x0 < 2) = false := by simp; omega
        have e1 := E1 g2
        have d3 : decide (x0 - 2 < jr) = false := by simp; omega
        have e2 := E2 g2 g4
        have d4 : decide (sec < x0) = false := by simp; omega
        have d4' : decide (x0 > sec) = false := by simp; omega
        have d5 : decide (sec - x0 < xn) = true := by simp; omega
        have d5' : decide (xn > sec - x0) = true := by simp; omega
        clear E1 E2 g1 g2 g3 g4 g5 w1 w2 w3' w4 hbk
        go_wp2_with fail
        rw [Exit.noGoto_ret]
        go_ret
        exact liesSays_no HN.out (HKW.out.alloc _)
      · have HS2 := Lib.hid (HSU.out (by omega))
        have d1 : decide (xn < 1) = false := by simp; omega
        have d2 : decide (x0 < 2) = false := by simp; omega
        have e1 := E1 g2
        have d3 : decide (x0 - 2 < jr) = false := by simp; omega
        have e2 := E2 g2 g4
        have d4 : decide (sec < x0) = false := by simp; omega
        have d4' : decide (x0 > sec) = false := by simp; omega
        have d5 : decide (sec - x0 < xn) = false := by simp; omega
        have d5' : decide (xn > sec - x0) = false := by simp; omega
        clear E1 E2 g1 g2 g3 g4 g5 w1 w2 w3' w4 hbk
        go_wp2_with fail
        go_roundw
        case rel => exact ⟨k + 1, HLT.out, rfl, by go_num, HS2.out, HK.out.alloc _⟩
        case measure => (have hh := HLT.out; simp [intOf]; omega)
    · obtain rfl : k = l.length := by omega
      have HOK : Hid (∀ a ∈ l, OkL sec jr a) := Lib.hid (fun a ha => by
        obtain ⟨j, hj, rfl⟩ := List.mem_iff_getElem.1 ha
        exact hM j hj hj)
      have HK := Lib.hid hK
      have HKW := Lib.hid (K6.out.trans hK)
      have ROW := Lib.hid (ownsRow_kept ROW6.out hK (by simp))
      have i1 : ¬ (l.length : Int) < l.length := by omega
      clear hM hK hlt hk
      go_wp2_with fail
      refine (HSORT.out _ _ l (by have := HL1.out; omega) ROW.out).mono ?_; rintro e w7 ⟨rfl, l', hperm, hris, hrow, hkt⟩
      have K7 := Lib.hid (kept_row HKW.out (fun g hg => (World.ownsRow.lt ROW.out g hg).1) hkt)
      have hll := hperm.length_eq
      have HQ : Hid (LiesL sec jr l' ↔ LiesL sec jr l) := Lib.hid (liesL_perm hperm)
      have HOK2 : Hid (∀ a ∈ l', OkL sec jr a) := Lib.hid (fun a ha => HOK.out a (hperm.mem_iff.1 ha))
      have HRIS := Lib.hid hris
      have HBIG2 : Hid (∀ a ∈ l', a.1 ≤ 1099511627776 ∧ a.2 ≤ 1099511627776) := Lib.hid (fun a ha => ⟨(HBIG.out a (hperm.mem_iff.1 ha)).1, (HBIG.out a (hperm.mem_iff.1 ha)).2.1⟩)
      have HR7 := Lib.hid (RunsIn.of_own hrow)
      obtain ⟨n, hn⟩ : ∃ n, l.length = n := ⟨_, rfl⟩
      have HLL : Hid (l'.length = n) := Lib.hid (by rw [hll, hn])
      have HLI : Hid (n ≤ 600000) := Lib.hid (by rw [← hn]; exact HL1.out)
      rw [hn] at hl' HR7
      rw [hn]
      clear hperm hris hrow hkt hll ROW HKW H ROW6 hn i1
      go_wp2_with fail
      go_loopw [13] (fun i wr => ∃ m : Nat, 1 ≤ m ∧ i = .int .i64 m ∧ (∀ j (hj : j + 1 < l'.length), j + 1 < m → l'[j].1 + l'[j].2 ≤ l'[j + 1].1) ∧ m ≤ n + 1 ∧ Kept [] w7 wr) (fun i _ => n + 1 - (intOf i).toNat)
      case atStart => exact ⟨1, Nat.le_refl _, rfl, fun j hj h => absurd h (by omega), by omega, Kept.refl _ _⟩
      case round =>
        obtain ⟨m, hm, rfl, hM, hmn, hK⟩ := hrel
        rename World => wr
        by_cases hlt : m < n
        · obtain ⟨q, rfl⟩ : ∃ q, m = q + 1 := ⟨m - 1, by omega⟩
          have hlt' : q + 1 < l'.length := by rw [HLL.out]; exact hlt
          obtain ⟨b, off, rfl, c0, c1, hb, hlc, hcm⟩ := (HR7.out.kept0 hK).at_ (q + 1) hlt'
          obtain ⟨b', off', e', d0, d1, _⟩ := (HR7.out.kept0 hK).at_ q (by omega)
          injection e' with e'
          injection e' with e1 e2 _
          subst e1 e2
          have hno := fun h => mt HQ.out.2 (liesL_next hlt' HRIS.out h)
          have hsu : l'[q].1 + l'[q].2 ≤ l'[q + 1].1 → ∀ j (hj : j + 1 < l'.length), j + 1 < q + 1 + 1 → l'[j].1 + l'[j].2 ≤ l'[j + 1].1 := fun h1 j hj hjk => by
            by_cases e : j = q
            · subst e; exact h1
            · exact hM j hj (by omega)
          have hok0 := HOK2.out l'[q] (List.getElem_mem _)
          have hbg0 := HBIG2.out l'[q] (List.getElem_mem _)
          have HNO := Lib.hid hno
          have HSU := Lib.hid hsu
          have HLT := Lib.hid hlt
          have HK := Lib.hid hK
          have HK7 := Lib.hid (K7.out.trans hK)
          have hi1 : ((q + 1 : Nat) : Int) < n := by omega
          have hi2 : (q : Int) < n := by omega
          have E1 : IntKind.i64.wrap (((q + 1 : Nat) : Int) - 1) = (q : Int) := by have := HLI.out; rw [IntWalk.i64_in _ (by omega)]; omega
          clear hno hsu hM hK hm hmn
          generalize l'[q + 1] = X at *
          generalize l'[q] = Y at *
          obtain ⟨x0, xn⟩ := X
          obtain ⟨y0, yn⟩ := Y
          unfold OkL at hok0
          simp only at c0 c1 d0 d1 hok0 hbg0 HNO HSU
          have E2 : IntKind.i64.wrap (y0 + yn) = y0 + yn := IntWalk.i64_in _ (by omega)
          have HLM : Hid (q + 1 < n) := Lib.hid hlt
          obtain ⟨m, hme⟩ : ∃ m, q + 1 = m := ⟨_, rfl⟩
          have HME := Lib.hid hme
          rw [hme] at c0 c1 hi1 E1 hlt
          rw [hme]
          clear hme hok0 hbg0
          by_cases g1 : x0 < y0 + yn
          · have t1 : decide (x0 < y0 + yn) = true := decide_eq_true g1
            have HN := Lib.hid (HNO.out g1)
            clear g1
            go_wp2_with fail
            go_quiet (fail)
            go_wp2_with fail
            rw [Exit.noGoto_ret]
            go_ret
            exact liesSays_no HN.out (HK7.out.drewN _)
          · have t1 : decide (x0 < y0 + yn) = false := decide_eq_false g1
            have HN := Lib.hid (HSU.out (by omega))
            clear g1
            go_wp2_with fail
            go_quiet (fail)
            go_wp2_with fail
            go_roundw
            case rel => exact ⟨m + 1, by omega, by go_num, by rw [← HME.out]; exact HN.out, by have := HLM.out; have := HME.out; omega, HK.out.drewN _⟩
            case measure => (have hh := HLM.out; have := HME.out; simp [intOf]; omega)
        · have HYES : Hid (LiesL sec jr l) := Lib.hid (HQ.out.1 (liesL_rising HRIS.out HOK2.out (fun j hj => hM j hj (by have := HLL.out; omega))))
          have HK7 := Lib.hid (K7.out.trans hK)
          have i1 : ¬ (m : Int) < n := by omega
          clear hM hK hlt hm hmn
          go_wp2_with fail
          (try rw [Exit.noGoto_ret])
          go_ret
          exact liesSays_yes HYES.out HK7.out
end Go.Proofs.YtakdnchmehmdhaaGreat
