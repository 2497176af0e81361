/- Layer 21 (catalog): records applied, one by one. -/
import Derived.Test.YtakdnchmehmdhaaGreatG14
import Derived.Test.YtakdnchmehmdhaaGreatG19
namespace Go.Proofs.YtakdnchmehmdhaaGreat
open Go.RowKit
set_option linter.unusedVariables false
set_option linter.unusedSimpArgs false

theorem applySays_of {S : Nat → Prop} {L : JCat × Int} {c : JCat} {C : Int} {v : Value} {w w' : World} (h : L = (c, C)) (h1 : CatOff S w' v c) (k : Kept [] w w') : ApplySays S L w (.returned (.tuple #[v, .int .i64 C])) w' := by
  subst h; exact ⟨v, rfl, h1, k⟩
theorem catNo_off (S : Nat → Prop) (w : World) : CatOff S w (.agg #[.int .u32 0, .int .u32 0, .slice none 0 0, .slice none 0 0, .slice none 0 0]) catNo := ⟨_, _, _, rfl, ItemsOff.nil _ _, ItemsOff.nil _ _, ItemsOff.nil _ _, by decide, by decide⟩
theorem recsX_no {c : JCat} {l : List JRec} {k : Nat} (h : k < l.length) (hm : mayR (l[k]'h) = false) : recsX c (l.drop k) = (catNo, 1) := by
  rw [List.drop_eq_getElem_cons h, recsX, if_neg (by rw [hm]; decide)]
theorem recsX_bad {c : JCat} {l : List JRec} {k : Nat} (h : k < l.length) (hm : mayR (l[k]'h) = true) {C : Int} (hC : (oneX c (l[k]'h)).2 = C) (h0 : ¬ C = 0) : recsX c (l.drop k) = (catNo, C) := by
  rw [List.drop_eq_getElem_cons h, recsX, if_pos hm, if_neg (by rw [hC]; exact h0), hC]
theorem recsX_ok {c : JCat} {l : List JRec} {k : Nat} (h : k < l.length) (hm : mayR (l[k]'h) = true) (hC : (oneX c (l[k]'h)).2 = 0) : recsX c (l.drop k) = recsX (oneX c (l[k]'h)).1 (l.drop (k + 1)) := by
  rw [List.drop_eq_getElem_cons h, recsX, if_pos hm, if_pos hC]
theorem CatOff.weakenC {S T : Nat → Prop} {w : World} {v : Value} {c : JCat} (h : CatOff S w v c) (hST : ∀ x, T x → S x) : CatOff T w v c := by
  obtain ⟨a, b, d, e, h1, h2, h3, h4⟩ := h
  exact ⟨a, b, d, e, h1.weaken hST, h2.weaken hST, h3.weaken hST, h4⟩
structure ApplyAt (S0 : Nat → Prop) (w : World) (l : List JRec) (R : JCat × Int) (k : Nat) (cc : JCat) (wr : World) (vb vm vn : Value) : Prop where
  own : Own wr w.heap.size #[.int .u32 cc.nextBox, .int .u32 cc.nextMan, vb, vm, vn] 25
  res : Own wr (w.heap.size + 1) #[.int .u32 0, .int .u32 0, .slice none 0 0, .slice none 0 0, .slice none 0 0] 25
  cat : CatOff (fun x => S0 x ∨ (x = w.heap.size ∨ x = w.heap.size + 1)) wr (.agg #[.int .u32 cc.nextBox, .int .u32 cc.nextMan, vb, vm, vn]) cc
  may : mayC cc
  here : recsX cc (l.drop k) = R
  kept : Kept [] w wr
theorem CatOff.parts {S : Nat → Prop} {w : World} {a b c d e : Value} {cc : JCat} (h : CatOff S w (.agg #[a, b, c, d, e]) cc) : a = .int .u32 cc.nextBox ∧ b = .int .u32 cc.nextMan ∧ SlV c ∧ SlV d ∧ SlV e := by
  obtain ⟨x, y, z, e1, h1, h2, h3, _⟩ := h
  simp at e1
  obtain ⟨rfl, rfl, rfl, rfl, rfl⟩ := e1
  obtain ⟨p1, q1, r1⟩ := h1.plain.shape
  obtain ⟨p2, q2, r2⟩ := h2.plain.shape
  obtain ⟨p3, q3, r3⟩ := h3.plain.shape
  exact ⟨rfl, rfl, ⟨_, _, _, r1⟩, ⟨_, _, _, r2⟩, ⟨_, _, _, r3⟩⟩
set_option maxRecDepth 100000 in
set_option maxHeartbeats 8000000 in
theorem zApply {S0 : Nat → Prop} (v : Value) (c : JCat) (vl : Value) (l : List JRec) (lo hi : Nat) (w : World) (h : CatOff S0 w v c) (hS0 : ∀ x, S0 x → x < w.heap.size) (hc : SmallC c) (hr : RecsIn w vl l lo hi) (hwl : ∀ r ∈ l, ∀ a ∈ r.runs, WfRun a) (hrl : ∀ r ∈ l, r.runs.length ≤ 1000000) :
    Calls Tryz.prog 22 #[v, vl] w (ApplySays S0 (applyX c l) w) := by
  have HCH : Hid (∀ W, Kept [] w W → Calls Tryz.prog 13 #[v] W (ChkSays c W)) := Lib.hid (fun W q => zcheck v c W (h.plain.kept0 q) hc)
  have HCAT : Hid (∀ W, Kept [] w W → CatOff (fun x => S0 x ∨ (x = w.heap.size ∨ x = w.heap.size + 1)) W v c) := Lib.hid (fun W q => by
    obtain ⟨a, b, d, e, h1, h2, h3, h4⟩ := h
    exact CatOff.kept0 ⟨a, b, d, e, h1.more (fun x hx => by omega), h2.more (fun x hx => by omega), h3.more (fun x hx => by omega), h4⟩ q)
  obtain ⟨vb, vm, vn, rfl, hb, hm, hn, hwb, hwm⟩ := h
  obtain ⟨p1, c1, rfl⟩ := hb.plain.shape
  obtain ⟨p2, c2, rfl⟩ := hm.plain.shape
  obtain ⟨p3, c3, rfl⟩ := hn.plain.shape
  obtain ⟨pl, cl, rfl⟩ := RowsOf.shape hr
  have hL1 : (l.length : Int) ≤ 9223372036854775807 := by have := RowsOf.len hr; unfold maxLen at this; omega
  have HR := Lib.hid hr
  have HWL := Lib.hid hwl
  have HRL := Lib.hid hrl
  have HS0 := Lib.hid hS0
  obtain ⟨oA, oB⟩ := own_two w #[.int .u32 c.nextBox, .int .u32 c.nextMan, .slice p1 c.boxes.length c1, .slice p2 c.mans.length c2, .slice p3 c.names.length c3] #[.int .u32 0, .int .u32 0, .slice none 0 0, .slice none 0 0, .slice none 0 0] 25 25
  have k0 : Kept [] w ((w.alloc (.cells #[.int .u32 c.nextBox, .int .u32 c.nextMan, .slice p1 c.boxes.length c1, .slice p2 c.mans.length c2, .slice p3 c.names.length c3] 25)).alloc (.cells #[.int .u32 0, .int .u32 0, .slice none 0 0, .slice none 0 0, .slice none 0 0] 25)) := ((Kept.refl _ _).alloc _).alloc _
  have K0 := Lib.hid k0
  have OA := Lib.hid oA
  have OB := Lib.hid oB
  obtain ⟨x0, x1, x2, x3, x4⟩ := oA.k5
  clear hb hm hn hwb hwm hr hwl hrl hS0 oA oB k0 hc
  unfold ChkSays at HCH
  by_cases hmc : mayC c
  · have hck : chkX c = 0 := by unfold chkX; rw [if_pos hmc]
    have hap : applyX c l = recsX c l := by unfold applyX; rw [if_pos hmc]
    rw [hap]
    rw [hck] at HCH
    have HMC := Lib.hid hmc
    obtain ⟨R, hR⟩ : ∃ R, recsX c l = R := ⟨_, rfl⟩
    rw [hR]
    have HRR := Lib.hid hR
    clear hck hap hmc hR
    go_enter Tryz.func22, Tryz.ntmps22
    go_wp2_with fail
    refine (HCH.out _ K0.out).mono ?_; rintro e w2 ⟨rfl, k2⟩
    have K2 := Lib.hid (K0.out.trans k2)
    have OA2 := Lib.hid (k2.own OA.out (by simp))
    have OB2 := Lib.hid (k2.own OB.out (by simp))
    go_wp2_with fail
    go_loopw [17] (fun i wr => ∃ k cc vb vm vn, k ≤ l.length ∧ i = .int .i64 (k : Nat) ∧ ApplyAt S0 w l R k cc wr vb vm vn) (fun i _ => l.length - (intOf i).toNat)
    case atStart => exact ⟨0, c, _, _, _, Nat.zero_le _, rfl, ⟨OA2.out, OB2.out, HCAT.out _ K2.out, HMC.out, by rw [List.drop_zero]; exact HRR.out, K2.out⟩⟩
    case round =>
      obtain ⟨k, cc, vb, vm, vn, hk, rfl, hA⟩ := hrel
      have HA := Lib.hid hA
      obtain ⟨_, _, ⟨pb, nb, cb, rfl⟩, ⟨pm, nm, cm, rfl⟩, ⟨pn, nn, cn, rfl⟩⟩ := CatOff.parts hA.cat
      obtain ⟨x0, x1, x2, x3, x4⟩ := hA.own.k5
      obtain ⟨y0, y1, y2, y3, y4⟩ := hA.res.k5
      obtain ⟨f0, f1, f2, f3, f4⟩ := hA.own.y5
      obtain ⟨g0, g1, g2, g3, g4⟩ := hA.res.y5
      by_cases hlt : k < l.length
      · obtain ⟨b, off, kv, rfl, r0, r1, r2, r3, r4, hrun, hfit, hlb, hbh, hih⟩ := RecsIn.at_ (HR.out.kept0 hA.kept) k hlt
        obtain ⟨pr, cr, rfl⟩ := hrun.shape
        have HLT : Hid (k < l.length) := hlt
        have i1 : (k : Int) < l.length := by omega
        have hwr := HWL.out _ (List.getElem_mem hlt)
        have hrr := HRL.out _ (List.getElem_mem hlt)
        have hrecsno := fun hm => recsX_no (c := cc) hlt hm
        have hrecsbad := fun hm C hC h0 => recsX_bad (c := cc) hlt hm (C := C) hC h0
        have hrecsok := fun hm hC => recsX_ok (c := cc) hlt hm hC
        rw [hA.here] at hrecsno hrecsbad hrecsok
        have hidm : mayR (l[k]'hlt) = true → 0 ≤ (l[k]'hlt).id := fun _ => (bd32 hfit.2.1).1
        generalize hrk : l[k]'hlt = rk at *
        have HNO := Lib.hid hrecsno
        have HBAD := Lib.hid hrecsbad
        have HOK := Lib.hid hrecsok
        have HID := Lib.hid hidm
        have hjc := fun W (q : Kept [] wr W) => jcheck rk (.slice pr rk.runs.length cr) lo hi W (hrun.kept0 q) hrr hfit
        have HJC := Lib.hid hjc
        have hap : Hid (∀ W, Kept [] wr W → mayR rk = true → Calls Tryz.prog 62 #[.agg #[.int .u32 cc.nextBox, .int .u32 cc.nextMan, .slice pb nb cb, .slice pm nm cm, .slice pn nn cn], .agg (rk.cells (.slice pr rk.runs.length cr))] W (ApplySays (fun x => S0 x ∨ (x = w.heap.size ∨ x = w.heap.size + 1)) (oneX cc rk) W)) := Lib.hid (fun W q hm =>
          zapply _ cc rk _ W (HA.out.cat.kept0 q) (fun x hx => by
            have hsz := q.size
            have h2 := HA.out.res.lt
            rcases hx with hx | hx
            · have := HS0.out x hx; have := HA.out.kept.size; omega
            · omega) HA.out.may (hrun.kept0 q).upto hfit hwr hm)
        unfold JCheck at HJC
        unfold ApplySays at hap
        unfold JRec.cells at HJC hap
        clear hrecsno hrecsbad hrecsok hidm hjc hrun hfit hwr hrr hA hlb hbh hih hlt hrk
        have oR := Own.new wr #[.int .i64 rk.kind, .int .u32 rk.id, .string (bs rk.name), .int .i64 rk.size, .slice pr rk.runs.length cr] 55
        have kR : Kept [] wr (wr.alloc (.cells #[.int .i64 rk.kind, .int .u32 rk.id, .string (bs rk.name), .int .i64 rk.size, .slice pr rk.runs.length cr] 55)) := (Kept.refl _ _).alloc _
        have OR := Lib.hid oR
        have KR := Lib.hid kR
        clear oR kR
        obtain ⟨M, hM⟩ : ∃ M, mayR rk = M := ⟨_, rfl⟩
        rw [hM] at HNO HBAD HOK HID hap HJC
        have HMM := Lib.hid hM
        clear hM
        cases M with
        | false =>
          have HE := Lib.hid (HNO.out rfl)
          go_wp2_with fail
          refine (HJC.out _ KR.out).mono ?_; rintro e w3 ⟨rfl, k3⟩
          have K3 := Lib.hid (HA.out.kept.trans (KR.out.trans k3))
          have O3 := Lib.hid (k3.own (HA.out.res.alloc (.cells #[.int .i64 rk.kind, .int .u32 rk.id, .string (bs rk.name), .int .i64 rk.size, .slice pr rk.runs.length cr] 55)) (by simp))
          obtain ⟨y0, y1, y2, y3, y4⟩ := O3.out.k5
          obtain ⟨g0, g1, g2, g3, g4⟩ := O3.out.y5
          go_wp2_with fail
          refine bodyPost_ret (v := .tuple #[.agg #[.int .u32 0, .int .u32 0, .slice none 0 0, .slice none 0 0, .slice none 0 0], .int .i64 1]) (ret_row_tmp Tryz.results22 rfl rfl (t := 25) ?_ Tryz.underlying25 rfl (by kernel_rfl)) rfl ?_
          · exact O3.out.put5 _ _ _ _ _
          · exact applySays_of HE.out (catNo_off _ _) (Kept.set5s K3.out (Or.inr (Nat.le_succ _)) _ _ _ _ _)
        | true =>
          obtain ⟨⟨N, C⟩, hN⟩ : ∃ N, oneX cc rk = N := ⟨_, rfl⟩
          rw [hN] at hap HBAD HOK
          simp only at hap HBAD HOK
          have HMAY : Hid (C = 0 → mayC N) := Lib.hid (fun hC => by
            have h1 := one_may HA.out.may HMM.out (HID.out rfl) (by rw [hN]; exact hC)
            rw [hN] at h1; exact h1)
          clear hN
          go_wp2_with fail
          refine (HJC.out _ KR.out).mono ?_; rintro e w3 ⟨rfl, k3⟩
          have KR3 := Lib.hid (KR.out.trans k3)
          have OR3 := Lib.hid (k3.own OR.out (by simp))
          have OC3 := Lib.hid (KR3.out.own HA.out.own (by simp))
          have OB3 := Lib.hid (KR3.out.own HA.out.res (by simp))
          obtain ⟨x0, x1, x2, x3, x4⟩ := OC3.out.k5
          obtain ⟨r0, r1, r2, r3, r4⟩ := OR3.out.k5
          go_wp2_with fail
          refine (hap.out _ KR3.out (by simp)).mono ?_; rintro e w4 ⟨cv, rfl, hcv, k4⟩
          obtain ⟨vb4, vm4, vn4, rfl, hx1, hx2, hx3, hx4, hx5⟩ := hcv
          have hcat : CatOff (fun x => S0 x ∨ (x = w.heap.size ∨ x = w.heap.size + 1)) w4 (.agg #[.int .u32 N.nextBox, .int .u32 N.nextMan, vb4, vm4, vn4]) N := ⟨vb4, vm4, vn4, rfl, hx1, hx2, hx3, hx4, hx5⟩
          obtain ⟨_, _, ⟨pb4, nb4, cb4, rfl⟩, ⟨pm4, nm4, cm4, rfl⟩, ⟨pn4, nn4, cn4, rfl⟩⟩ := CatOff.parts hcat
          have HCATN := Lib.hid hcat
          have K4 := Lib.hid (HA.out.kept.trans (KR3.out.trans k4))
          have OC4 := Lib.hid ((k4.own OC3.out (by simp)).alloc (.cells #[.int .u32 N.nextBox, .int .u32 N.nextMan, .slice pb4 nb4 cb4, .slice pm4 nm4 cm4, .slice pn4 nn4 cn4] 25))
          have OB4 := Lib.hid ((k4.own OB3.out (by simp)).alloc (.cells #[.int .u32 N.nextBox, .int .u32 N.nextMan, .slice pb4 nb4 cb4, .slice pm4 nm4 cm4, .slice pn4 nn4 cn4] 25))
          have ON4 := Lib.hid (Own.new w4 #[.int .u32 N.nextBox, .int .u32 N.nextMan, .slice pb4 nb4 cb4, .slice pm4 nm4 cm4, .slice pn4 nn4 cn4] 25)
          obtain ⟨x0, x1, x2, x3, x4⟩ := OC4.out.k5
          obtain ⟨f0, f1, f2, f3, f4⟩ := OC4.out.y5
          obtain ⟨y0, y1, y2, y3, y4⟩ := OB4.out.k5
          obtain ⟨g0, g1, g2, g3, g4⟩ := OB4.out.y5
          obtain ⟨n0, n1, n2, n3, n4⟩ := ON4.out.k5
          clear hx1 hx2 hx3 hx4 hx5 hcat
          by_cases hC : C = 0
          · subst hC
            have HOK2 := Lib.hid (HOK.out (by simp) rfl)
            have HM2 := Lib.hid (HMAY.out rfl)
            go_wp2_with fail
            go_roundw
            case rel =>
              have hkT : Kept [w.heap.size] w4 ((((((w4.alloc (.cells #[.int .u32 N.nextBox, .int .u32 N.nextMan, .slice pb4 nb4 cb4, .slice pm4 nm4 cm4, .slice pn4 nn4 cn4] 25)).setCell ⟨w.heap.size, 0, none⟩ (.int .u32 N.nextBox)).setCell ⟨w.heap.size, 1, none⟩ (.int .u32 N.nextMan)).setCell ⟨w.heap.size, 2, none⟩ (.slice pb4 nb4 cb4)).setCell ⟨w.heap.size, 3, none⟩ (.slice pm4 nm4 cm4)).setCell ⟨w.heap.size, 4, none⟩ (.slice pn4 nn4 cn4)) := Kept.set5s ((Kept.refl _ _).alloc _) (Or.inl (by simp)) _ _ _ _ _
              refine ⟨k + 1, N, _, _, _, HLT.out, by go_num, ⟨OC4.out.put5 _ _ _ _ _, ?_, HCATN.out.keptT hkT (fun x hx => Or.inr (Or.inl (by simpa using hx))), HM2.out, HOK2.out.symm, Kept.set5s (K4.out.alloc _) (Or.inr (Nat.le_refl _)) _ _ _ _ _⟩⟩
              exact ((((OB4.out.other (p := ⟨w.heap.size, 0, none⟩) (Nat.succ_ne_self _) _).other (p := ⟨w.heap.size, 1, none⟩) (Nat.succ_ne_self _) _).other (p := ⟨w.heap.size, 2, none⟩) (Nat.succ_ne_self _) _).other (p := ⟨w.heap.size, 3, none⟩) (Nat.succ_ne_self _) _).other (p := ⟨w.heap.size, 4, none⟩) (Nat.succ_ne_self _) _
            case measure => (have hh := HLT.out; simp [intOf]; omega)
          · have HE := Lib.hid (HBAD.out (by simp) C rfl hC)
            go_wp2_with fail
            refine bodyPost_ret (v := .tuple #[.agg #[.int .u32 0, .int .u32 0, .slice none 0 0, .slice none 0 0, .slice none 0 0], .int .i64 C]) (ret_row_tmp Tryz.results22 rfl rfl (t := 25) ?_ Tryz.underlying25 rfl (by kernel_rfl)) rfl ?_
            · exact OB4.out.put5 _ _ _ _ _
            · exact applySays_of HE.out (catNo_off _ _) (Kept.set5s (K4.out.alloc _) (Or.inr (Nat.le_succ _)) _ _ _ _ _)
      · obtain rfl : k = l.length := by omega
        have hend : R = (cc, 0) := by
          have := hA.here
          rw [List.drop_length] at this
          exact this.symm
        have HE := Lib.hid hend
        have i1 : ¬ (l.length : Int) < l.length := by omega
        clear hA hend
        go_wp2_with fail
        have hkT : Kept [w.heap.size + 1] wr (((((wr.setCell ⟨w.heap.size + 1, 0, none⟩ (.int .u32 cc.nextBox)).setCell ⟨w.heap.size + 1, 1, none⟩ (.int .u32 cc.nextMan)).setCell ⟨w.heap.size + 1, 2, none⟩ (.slice pb nb cb)).setCell ⟨w.heap.size + 1, 3, none⟩ (.slice pm nm cm)).setCell ⟨w.heap.size + 1, 4, none⟩ (.slice pn nn cn)) := Kept.set5s (Kept.refl _ _) (Or.inl (by simp)) _ _ _ _ _
        have hfinal := HA.out.cat.keptT hkT (fun x hx => Or.inr (Or.inr (by simpa using hx)))
        have hfin2 : CatOff S0 _ _ cc := CatOff.weakenC hfinal (fun x hx => Or.inl hx)
        refine bodyPost_ret (v := .tuple #[.agg #[.int .u32 cc.nextBox, .int .u32 cc.nextMan, .slice pb nb cb, .slice pm nm cm, .slice pn nn cn], .int .i64 0]) (ret_row_tmp Tryz.results22 rfl rfl (t := 25) ?_ Tryz.underlying25 rfl (by kernel_rfl)) rfl ?_
        · exact HA.out.res.put5 _ _ _ _ _
        · exact applySays_of HE.out hfin2 (Kept.set5s HA.out.kept (Or.inr (Nat.le_succ _)) _ _ _ _ _)
  · have hck : chkX c = 110 := by unfold chkX; rw [if_neg hmc]
    have hap : applyX c l = (catNo, 110) := by unfold applyX; rw [if_neg hmc]
    rw [hck] at HCH
    have HE := Lib.hid hap
    clear hck hap hmc
    go_enter Tryz.func22, Tryz.ntmps22
    go_wp2_with fail
    refine (HCH.out _ K0.out).mono ?_; rintro e w2 ⟨rfl, k2⟩
    have K2 := Lib.hid (K0.out.trans k2)
    have OB2 := Lib.hid (k2.own OB.out (by simp))
    obtain ⟨y0, y1, y2, y3, y4⟩ := OB2.out.k5
    obtain ⟨g0, g1, g2, g3, g4⟩ := OB2.out.y5
    go_wp2_with fail
    refine bodyPost_ret (v := .tuple #[.agg #[.int .u32 0, .int .u32 0, .slice none 0 0, .slice none 0 0, .slice none 0 0], .int .i64 110]) (ret_row_tmp Tryz.results22 rfl rfl (t := 25) ?_ Tryz.underlying25 rfl (by kernel_rfl)) rfl ?_
    · exact OB2.out.put5 _ _ _ _ _
    · exact applySays_of HE.out (catNo_off _ _) (Kept.set5s K2.out (Or.inr (Nat.le_succ _)) _ _ _ _ _)
end Go.Proofs.YtakdnchmehmdhaaGreat
