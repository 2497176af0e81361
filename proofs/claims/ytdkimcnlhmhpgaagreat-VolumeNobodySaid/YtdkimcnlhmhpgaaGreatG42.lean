/- -/
import Derived.Test.YtdkimcnlhmhpgaaGreatG01
import Derived.Test.YtdkimcnlhmhpgaaGreatG02
import Derived.Test.YtdkimcnlhmhpgaaGreatG04
import Derived.Test.YtdkimcnlhmhpgaaGreatG07
import Derived.Test.YtdkimcnlhmhpgaaGreatG17
import Derived.Test.YtdkimcnlhmhpgaaGreatG21
import Derived.Test.YtdkimcnlhmhpgaaGreatG24
import Derived.Test.YtdkimcnlhmhpgaaGreatG26
import Derived.Test.YtdkimcnlhmhpgaaGreatG27
import Derived.Test.YtdkimcnlhmhpgaaGreatG29
import Derived.Test.YtdkimcnlhmhpgaaGreatG33
import Derived.Test.YtdkimcnlhmhpgaaGreatG34
import Derived.Test.YtdkimcnlhmhpgaaGreatG35
import Derived.Test.YtdkimcnlhmhpgaaGreatG37
import Derived.Test.YtdkimcnlhmhpgaaGreatG40
import Derived.Test.YtdkimcnlhmhpgaaGreatG41
import Derived.Lib.AppendZerosOnto
import Derived.Deep.QuietTactic
import Derived.BigQuiet
import Derived.ProofKit
import Derived.OpenShut
import Derived.WalkMore
import Derived.IntWalk
set_option linter.unusedVariables false
set_option linter.unusedSimpArgs false
namespace Go.Proofs.YtdkimcnlhmhpgaaGreat
open Go.RowKit
theorem applySays_of {S : Nat → Prop} {L : JCat × Int} {c : JCat} {C : Int} {v : Value} {w w' : World} (h : L = (c, C)) (h1 : CatOff S w' v c) (k : Kept [] w w') : ApplySays S L w (.returned (.tuple #[v, .int .i64 C])) w' := by
  subst h; exact ⟨v, rfl, h1, k⟩
theorem catNo_off (S : Nat → Prop) (w : World) : CatOff S w (.agg #[.int .u32 0, .int .u32 0, .slice none 0 0, .slice none 0 0, .slice none 0 0]) catNo := ⟨_, _, _, rfl, ItemsOff.nil _ _, ItemsOff.nil _ _, ItemsOff.nil _ _, by decide, by decide⟩
theorem recsX_no {c : JCat} {l : List JRec} {k : Nat} (h : k < l.length) (hm : mayR (l[k]'h) = false) : recsX c (l.drop k) = (catNo, 1) := by
  rw [List.drop_eq_getElem_cons h, recsX, if_neg (by rw [hm]; decide)]
theorem recsX_bad {c : JCat} {l : List JRec} {k : Nat} (h : k < l.length) (hm : mayR (l[k]'h) = true) {C : Int} (hC : (oneX c (l[k]'h)).2 = C) (h0 : ¬ C = 0) : recsX c (l.drop k) = (catNo, C) := by
  rw [List.drop_eq_getElem_cons h, recsX, if_pos hm, if_neg (by rw [hC]; exact h0), hC]
theorem recsX_ok {c : JCat} {l : List JRec} {k : Nat} (h : k < l.length) (hm : mayR (l[k]'h) = true) (hC : (oneX c (l[k]'h)).2 = 0) : recsX c (l.drop k) = recsX (oneX c (l[k]'h)).1 (l.drop (k + 1)) := by
  rw [List.drop_eq_getElem_cons h, recsX, if_pos hm, if_pos hC]
theorem CatOff.weakenC {S T : Nat → Prop} {w : World} {v : Value} {c : JCat} (h : CatOff S w v c) (hST : ∀ x, T x → S x) : CatOff T w v c := by
  obtain ⟨a, b, d, e, h1, h2, h3, h4⟩ := h
  exact ⟨a, b, d, e, h1.weaken hST, h2.weaken hST, h3.weaken hST, h4⟩
structure ApplyAt (S0 : Nat → Prop) (w : World) (l : List JRec) (R : JCat × Int) (k : Nat) (cc : JCat) (wr : World) (vb vm vn : Value) : Prop where
  own : Own wr w.heap.size #[.int .u32 cc.nextBox, .int .u32 cc.nextMan, vb, vm, vn] 52
  res : Own wr (w.heap.size + 1) #[.int .u32 0, .int .u32 0, .slice none 0 0, .slice none 0 0, .slice none 0 0] 52
  cat : CatOff (fun x => S0 x ∨ (x = w.heap.size ∨ x = w.heap.size + 1)) wr (.agg #[.int .u32 cc.nextBox, .int .u32 cc.nextMan, vb, vm, vn]) cc
  may : mayC cc
  here : recsX cc (l.drop k) = R
  kept : Kept [] w wr
theorem CatOff.parts {S : Nat → Prop} {w : World} {a b c d e : Value} {cc : JCat} (h : CatOff S w (.agg #[a, b, c, d, e]) cc) : a = .int .u32 cc.nextBox ∧ b = .int .u32 cc.nextMan ∧ SlV c ∧ SlV d ∧ SlV e := by
  obtain ⟨x, y, z, e1, h1, h2, h3, _⟩ := h
  simp at e1
  obtain ⟨rfl, rfl, rfl, rfl, rfl⟩ := e1
  obtain ⟨p1, q1, r1⟩ := h1.plain.shape
  obtain ⟨p2, q2, r2⟩ := h2.plain.shape
  obtain ⟨p3, q3, r3⟩ := h3.plain.shape
  exact ⟨rfl, rfl, ⟨_, _, _, r1⟩, ⟨_, _, _, r2⟩, ⟨_, _, _, r3⟩⟩
set_option maxRecDepth 100000 in
set_option maxHeartbeats 8000000 in
theorem zApply {S0 : Nat → Prop} (v : Value) (c : JCat) (vl : Value) (l : List JRec) (lo hi : Nat) (w : World) (h : CatOff S0 w v c) (hS0 : ∀ x, S0 x → x < w.heap.size) (hc : SmallC c) (hr : RecsIn w vl l lo hi) (hwl : ∀ r ∈ l, ∀ a ∈ r.runs, WfRun a) (hrl : ∀ r ∈ l, r.runs.length ≤ 1000000) :
    Calls Tryz.prog 45 #[v, vl] w (ApplySays S0 (applyX c l) w) := by
  have HCH : Hid (∀ W, Kept [] w W → Calls Tryz.prog 97 #[v] W (ChkSays c W)) := Lib.hid (fun W q => zcheck v c W (h.plain.kept0 q) hc)
  have HCAT : Hid (∀ W, Kept [] w W → CatOff (fun x => S0 x ∨ (x = w.heap.size ∨ x = w.heap.size + 1)) W v c) := Lib.hid (fun W q => by
    obtain ⟨a, b, d, e, h1, h2, h3, h4⟩ := h
    exact CatOff.kept0 ⟨a, b, d, e, h1.more (fun x hx => by omega), h2.more (fun x hx => by omega), h3.more (fun x hx => by omega), h4⟩ q)
  obtain ⟨vb, vm, vn, rfl, hb, hm, hn, hwb, hwm⟩ := h
  obtain ⟨p1, c1, rfl⟩ := hb.plain.shape
  obtain ⟨p2, c2, rfl⟩ := hm.plain.shape
  obtain ⟨p3, c3, rfl⟩ := hn.plain.shape
  obtain ⟨pl, cl, rfl⟩ := RowsOf.shape hr
  have hL1 : (l.length : Int) ≤ 9223372036854775807 := by have := RowsOf.len hr; unfold maxLen at this; omega
  have HR := Lib.hid hr
  have HWL := Lib.hid hwl
  have HRL := Lib.hid hrl
  have HS0 := Lib.hid hS0
  obtain ⟨oA, oB⟩ := own_two w #[.int .u32 c.nextBox, .int .u32 c.nextMan, .slice p1 c.boxes.length c1, .slice p2 c.mans.length c2, .slice p3 c.names.length c3] #[.int .u32 0, .int .u32 0, .slice none 0 0, .slice none 0 0, .slice none 0 0] 52 52
  have k0 : Kept [] w ((w.alloc (.cells #[.int .u32 c.nextBox, .int .u32 c.nextMan, .slice p1 c.boxes.length c1, .slice p2 c.mans.length c2, .slice p3 c.names.length c3] 52)).alloc (.cells #[.int .u32 0, .int .u32 0, .slice none 0 0, .slice none 0 0, .slice none 0 0] 52)) := ((Kept.refl _ _).alloc _).alloc _
  have K0 := Lib.hid k0
  have OA := Lib.hid oA
  have OB := Lib.hid oB
  obtain ⟨x0, x1, x2, x3, x4⟩ := oA.k5
  clear hb hm hn hwb hwm hr hwl hrl hS0 oA oB k0 hc
  unfold ChkSays at HCH
  by_cases hmc : mayC c
  · have hck : chkX c = 0 := by unfold chkX; rw [if_pos hmc]
    have hap : applyX c l = recsX c l := by unfold applyX; rw [if_pos hmc]
    rw [hap]
    rw [hck] at HCH
    have HMC := Lib.hid hmc
    obtain ⟨R, hR⟩ : ∃ R, recsX c l = R := ⟨_, rfl⟩
    rw [hR]
    have HRR := Lib.hid hR
    clear hck hap hmc hR
    go_enter Tryz.func45, Tryz.ntmps45
    go_wp2_with fail
    refine (HCH.out _ K0.out).mono ?_; rintro e w2 ⟨rfl, k2⟩
    have K2 := Lib.hid (K0.out.trans k2)
    have OA2 := Lib.hid (k2.own OA.out (by simp))
    have OB2 := Lib.hid (k2.own OB.out (by simp))
    go_wp2_with fail
    go_loopw [17] (fun i wr => ∃ k cc vb vm vn, k ≤ l.length ∧ i = .int .i64 (k : Nat) ∧ ApplyAt S0 w l R k cc wr vb vm vn) (fun i _ => l.length - (intOf i).toNat)
    case atStart => exact ⟨0, c, _, _, _, Nat.zero_le _, rfl, ⟨OA2.out, OB2.out, HCAT.out _ K2.out, HMC.out, by rw [List.drop_zero]; exact HRR.out, K2.out⟩⟩
    case round =>
      obtain ⟨k, cc, vb, vm, vn, hk, rfl, hA⟩ := hrel
      have HA := Lib.hid hA
      obtain ⟨_, _, ⟨pb, nb, cb, rfl⟩, ⟨pm, nm, cm, rfl⟩, ⟨pn, nn, cn, rfl⟩⟩ := CatOff.parts hA.cat
      obtain ⟨x0, x1, x2, x3, x4⟩ := hA.own.k5
      obtain ⟨y0, y1, y2, y3, y4⟩ := hA.res.k5
      obtain ⟨f0, f1, f2, f3, f4⟩ := hA.own.y5
      obtain ⟨g0, g1, g2, g3, g4⟩ := hA.res.y5
      by_cases hlt : k < l.length
      · obtain ⟨b, off, kv, rfl, r0, r1, r2, r3, r4, hrun, hfit, hlb, hbh, hih⟩ := RecsIn.at_ (HR.out.kept0 hA.kept) k hlt
        obtain ⟨pr, cr, rfl⟩ := hrun.shape
        have HLT : Hid (k < l.length) := hlt
        have i1 : (k : Int) < l.length := by omega
        have hwr := HWL.out _ (List.getElem_mem hlt)
        have hrr := HRL.out _ (List.getElem_mem hlt)
        have hrecsno := fun hm => recsX_no (c := cc) hlt hm
        have hrecsbad := fun hm C hC h0 => recsX_bad (c := cc) hlt hm (C := C) hC h0
        have hrecsok := fun hm hC => recsX_ok (c := cc) hlt hm hC
        rw [hA.here] at hrecsno hrecsbad hrecsok
        have hidm : mayR (l[k]'hlt) = true → 0 ≤ (l[k]'hlt).id := fun _ => (bd32 hfit.2.1).1
        generalize hrk : l[k]'hlt = rk at *
        have HNO := Lib.hid hrecsno
        have HBAD := Lib.hid hrecsbad
        have HOK := Lib.hid hrecsok
        have HID := Lib.hid hidm
        have hjc := fun W (q : Kept [] wr W) => jcheck rk (.slice pr rk.runs.length cr) lo hi W (hrun.kept0 q) hrr hfit
        have HJC := Lib.hid hjc
        have hap : Hid (∀ W, Kept [] wr W → mayR rk = true → Calls Tryz.prog 99 #[.agg #[.int .u32 cc.nextBox, .int .u32 cc.nextMan, .slice pb nb cb, .slice pm nm cm, .slice pn nn cn], .agg (rk.cells (.slice pr rk.runs.length cr))] W (ApplySays (fun x => S0 x ∨ (x = w.heap.size ∨ x = w.heap.size + 1)) (oneX cc rk) W)) := Lib.hid (fun W q hm =>
          zapply _ cc rk _ W (HA.out.cat.kept0 q) (fun x hx => by
            have hsz := q.size
            have h2 := HA.out.res.lt
            rcases hx with hx | hx
            · have := HS0.out x hx; have := HA.out.kept.size; omega
            · omega) HA.out.may (hrun.kept0 q).upto hfit hwr hm)
        unfold JCheck at HJC
        unfold ApplySays at hap
        unfold JRec.cells at HJC hap
        clear hrecsno hrecsbad hrecsok hidm hjc hrun hfit hwr hrr hA hlb hbh hih hlt hrk
        have oR := Own.new wr #[.int .i64 rk.kind, .int .u32 rk.id, .string (bs rk.name), .int .i64 rk.size, .slice pr rk.runs.length cr] 102
        have kR : Kept [] wr (wr.alloc (.cells #[.int .i64 rk.kind, .int .u32 rk.id, .string (bs rk.name), .int .i64 rk.size, .slice pr rk.runs.length cr] 102)) := (Kept.refl _ _).alloc _
        have OR := Lib.hid oR
        have KR := Lib.hid kR
        clear oR kR
        obtain ⟨M, hM⟩ : ∃ M, mayR rk = M := ⟨_, rfl⟩
        rw [hM] at HNO HBAD HOK HID hap HJC
        have HMM := Lib.hid hM
        clear hM
        cases M with
        | false =>
          have HE := Lib.hid (HNO.out rfl)
          go_wp2_with fail
          refine (HJC.out _ KR.out).mono ?_; rintro e w3 ⟨rfl, k3⟩
          have K3 := Lib.hid (HA.out.kept.trans (KR.out.trans k3))
          have O3 := Lib.hid (k3.own (HA.out.res.alloc (.cells #[.int .i64 rk.kind, .int .u32 rk.id, .string (bs rk.name), .int .i64 rk.size, .slice pr rk.runs.length cr] 102)) (by simp))
          obtain ⟨y0, y1, y2, y3, y4⟩ := O3.out.k5
          obtain ⟨g0, g1, g2, g3, g4⟩ := O3.out.y5
          go_wp2_with fail
          refine bodyPost_ret (v := .tuple #[.agg #[.int .u32 0, .int .u32 0, .slice none 0 0, .slice none 0 0, .slice none 0 0], .int .i64 1]) (ret_row_tmp Tryz.results45 rfl rfl (t := 52) ?_ Tryz.underlying52 rfl (by kernel_rfl)) rfl ?_
          · exact O3.out.put5 _ _ _ _ _
          · exact applySays_of HE.out (catNo_off _ _) (Kept.set5s K3.out (Or.inr (Nat.le_succ _)) _ _ _ _ _)
        | true =>
          obtain ⟨⟨N, C⟩, hN⟩ : ∃ N, oneX cc rk = N := ⟨_, rfl⟩
          rw [hN] at hap HBAD HOK
          simp only at hap HBAD HOK
          have HMAY : Hid (C = 0 → mayC N) := Lib.hid (fun hC => by
            have h1 := one_may HA.out.may HMM.out (HID.out rfl) (by rw [hN]; exact hC)
            rw [hN] at h1; exact h1)
          clear hN
          go_wp2_with fail
          refine (HJC.out _ KR.out).mono ?_; rintro e w3 ⟨rfl, k3⟩
          have KR3 := Lib.hid (KR.out.trans k3)
          have OR3 := Lib.hid (k3.own OR.out (by simp))
          have OC3 := Lib.hid (KR3.out.own HA.out.own (by simp))
          have OB3 := Lib.hid (KR3.out.own HA.out.res (by simp))
          obtain ⟨x0, x1, x2, x3, x4⟩ := OC3.out.k5
          obtain ⟨r0, r1, r2, r3, r4⟩ := OR3.out.k5
          go_wp2_with fail
          refine (hap.out _ KR3.out (by simp)).mono ?_; rintro e w4 ⟨cv, rfl, hcv, k4⟩
          obtain ⟨vb4, vm4, vn4, rfl, hx1, hx2, hx3, hx4, hx5⟩ := hcv
          have hcat : CatOff (fun x => S0 x ∨ (x = w.heap.size ∨ x = w.heap.size + 1)) w4 (.agg #[.int .u32 N.nextBox, .int .u32 N.nextMan, vb4, vm4, vn4]) N := ⟨vb4, vm4, vn4, rfl, hx1, hx2, hx3, hx4, hx5⟩
          obtain ⟨_, _, ⟨pb4, nb4, cb4, rfl⟩, ⟨pm4, nm4, cm4, rfl⟩, ⟨pn4, nn4, cn4, rfl⟩⟩ := CatOff.parts hcat
          have HCATN := Lib.hid hcat
          have K4 := Lib.hid (HA.out.kept.trans (KR3.out.trans k4))
          have OC4 := Lib.hid ((k4.own OC3.out (by simp)).alloc (.cells #[.int .u32 N.nextBox, .int .u32 N.nextMan, .slice pb4 nb4 cb4, .slice pm4 nm4 cm4, .slice pn4 nn4 cn4] 52))
          have OB4 := Lib.hid ((k4.own OB3.out (by simp)).alloc (.cells #[.int .u32 N.nextBox, .int .u32 N.nextMan, .slice pb4 nb4 cb4, .slice pm4 nm4 cm4, .slice pn4 nn4 cn4] 52))
          have ON4 := Lib.hid (Own.new w4 #[.int .u32 N.nextBox, .int .u32 N.nextMan, .slice pb4 nb4 cb4, .slice pm4 nm4 cm4, .slice pn4 nn4 cn4] 52)
          obtain ⟨x0, x1, x2, x3, x4⟩ := OC4.out.k5
          obtain ⟨f0, f1, f2, f3, f4⟩ := OC4.out.y5
          obtain ⟨y0, y1, y2, y3, y4⟩ := OB4.out.k5
          obtain ⟨g0, g1, g2, g3, g4⟩ := OB4.out.y5
          obtain ⟨n0, n1, n2, n3, n4⟩ := ON4.out.k5
          clear hx1 hx2 hx3 hx4 hx5 hcat
          by_cases hC : C = 0
          · subst hC
            have HOK2 := Lib.hid (HOK.out (by simp) rfl)
            have HM2 := Lib.hid (HMAY.out rfl)
            go_wp2_with fail
            go_roundw
            case rel =>
              have hkT : Kept [w.heap.size] w4 ((((((w4.alloc (.cells #[.int .u32 N.nextBox, .int .u32 N.nextMan, .slice pb4 nb4 cb4, .slice pm4 nm4 cm4, .slice pn4 nn4 cn4] 52)).setCell ⟨w.heap.size, 0, none⟩ (.int .u32 N.nextBox)).setCell ⟨w.heap.size, 1, none⟩ (.int .u32 N.nextMan)).setCell ⟨w.heap.size, 2, none⟩ (.slice pb4 nb4 cb4)).setCell ⟨w.heap.size, 3, none⟩ (.slice pm4 nm4 cm4)).setCell ⟨w.heap.size, 4, none⟩ (.slice pn4 nn4 cn4)) := Kept.set5s ((Kept.refl _ _).alloc _) (Or.inl (by simp)) _ _ _ _ _
              refine ⟨k + 1, N, _, _, _, HLT.out, by go_num, ⟨OC4.out.put5 _ _ _ _ _, ?_, HCATN.out.keptT hkT (fun x hx => Or.inr (Or.inl (by simpa using hx))), HM2.out, HOK2.out.symm, Kept.set5s (K4.out.alloc _) (Or.inr (Nat.le_refl _)) _ _ _ _ _⟩⟩
              exact ((((OB4.out.other (p := ⟨w.heap.size, 0, none⟩) (Nat.succ_ne_self _) _).other (p := ⟨w.heap.size, 1, none⟩) (Nat.succ_ne_self _) _).other (p := ⟨w.heap.size, 2, none⟩) (Nat.succ_ne_self _) _).other (p := ⟨w.heap.size, 3, none⟩) (Nat.succ_ne_self _) _).other (p := ⟨w.heap.size, 4, none⟩) (Nat.succ_ne_self _) _
            case measure => (have hh := HLT.out; simp [intOf]; omega)
          · have HE := Lib.hid (HBAD.out (by simp) C rfl hC)
            go_wp2_with fail
            refine bodyPost_ret (v := .tuple #[.agg #[.int .u32 0, .int .u32 0, .slice none 0 0, .slice none 0 0, .slice none 0 0], .int .i64 C]) (ret_row_tmp Tryz.results45 rfl rfl (t := 52) ?_ Tryz.underlying52 rfl (by kernel_rfl)) rfl ?_
            · exact OB4.out.put5 _ _ _ _ _
            · exact applySays_of HE.out (catNo_off _ _) (Kept.set5s (K4.out.alloc _) (Or.inr (Nat.le_succ _)) _ _ _ _ _)
      · obtain rfl : k = l.length := by omega
        have hend : R = (cc, 0) := by
          have := hA.here
          rw [List.drop_length] at this
          exact this.symm
        have HE := Lib.hid hend
        have i1 : ¬ (l.length : Int) < l.length := by omega
        clear hA hend
        go_wp2_with fail
        have hkT : Kept [w.heap.size + 1] wr (((((wr.setCell ⟨w.heap.size + 1, 0, none⟩ (.int .u32 cc.nextBox)).setCell ⟨w.heap.size + 1, 1, none⟩ (.int .u32 cc.nextMan)).setCell ⟨w.heap.size + 1, 2, none⟩ (.slice pb nb cb)).setCell ⟨w.heap.size + 1, 3, none⟩ (.slice pm nm cm)).setCell ⟨w.heap.size + 1, 4, none⟩ (.slice pn nn cn)) := Kept.set5s (Kept.refl _ _) (Or.inl (by simp)) _ _ _ _ _
        have hfinal := HA.out.cat.keptT hkT (fun x hx => Or.inr (Or.inr (by simpa using hx)))
        have hfin2 : CatOff S0 _ _ cc := CatOff.weakenC hfinal (fun x hx => Or.inl hx)
        refine bodyPost_ret (v := .tuple #[.agg #[.int .u32 cc.nextBox, .int .u32 cc.nextMan, .slice pb nb cb, .slice pm nm cm, .slice pn nn cn], .int .i64 0]) (ret_row_tmp Tryz.results45 rfl rfl (t := 52) ?_ Tryz.underlying52 rfl (by kernel_rfl)) rfl ?_
        · exact HA.out.res.put5 _ _ _ _ _
        · exact applySays_of HE.out hfin2 (Kept.set5s HA.out.kept (Or.inr (Nat.le_succ _)) _ _ _ _ _)
  · have hck : chkX c = 110 := by unfold chkX; rw [if_neg hmc]
    have hap : applyX c l = (catNo, 110) := by unfold applyX; rw [if_neg hmc]
    rw [hck] at HCH
    have HE := Lib.hid hap
    clear hck hap hmc
    go_enter Tryz.func45, Tryz.ntmps45
    go_wp2_with fail
    refine (HCH.out _ K0.out).mono ?_; rintro e w2 ⟨rfl, k2⟩
    have K2 := Lib.hid (K0.out.trans k2)
    have OB2 := Lib.hid (k2.own OB.out (by simp))
    obtain ⟨y0, y1, y2, y3, y4⟩ := OB2.out.k5
    obtain ⟨g0, g1, g2, g3, g4⟩ := OB2.out.y5
    go_wp2_with fail
    refine bodyPost_ret (v := .tuple #[.agg #[.int .u32 0, .int .u32 0, .slice none 0 0, .slice none 0 0, .slice none 0 0], .int .i64 110]) (ret_row_tmp Tryz.results45 rfl rfl (t := 52) ?_ Tryz.underlying52 rfl (by kernel_rfl)) rfl ?_
    · exact OB2.out.put5 _ _ _ _ _
    · exact applySays_of HE.out (catNo_off _ _) (Kept.set5s K2.out (Or.inr (Nat.le_succ _)) _ _ _ _ _)
def FitC (c : JCat) : Prop := (Lit.int .u32 c.nextBox).wf = true ∧ (Lit.int .u32 c.nextMan).wf = true ∧ ∀ r ∈ catR c, r.fits
theorem CatIn.fit {w : World} {v : Value} {c : JCat} (h : CatIn w v c) : FitC c := by
  obtain ⟨vb, vm, vn, rfl, hb, hm, hn, hwb, hwm⟩ := h
  have hf : ∀ {u : Value} {L : List JItem}, ItemsIn w u L → ∀ a ∈ L, a.fits := fun {u L} hi a ha => by
    obtain ⟨vs, hvs, _, hok⟩ := hi
    rw [← hvs] at ha
    obtain ⟨x, hx, rfl⟩ := List.mem_map.1 ha
    exact (hok x hx).2.1
  refine ⟨hwb, hwm, fun r hr => ?_⟩
  unfold catR at hr
  simp only [List.mem_append, List.mem_map] at hr
  rcases hr with (⟨a, ha, rfl⟩ | ⟨a, ha, rfl⟩) | ⟨a, ha, rfl⟩
  · exact JItem.told_fits (hf hb a ha) (by decide)
  · exact JItem.told_fits (hf hm a ha) (by decide)
  · exact JItem.told_fits (hf hn a ha) (by decide)
theorem Grows.cat {w1 w : World} {bx : Nat} {nb nm : Int} {A B C : List JItem} (h : Grows w1 w bx nb nm A B C) (hb : (Lit.int .u32 nb).wf = true) (hm : (Lit.int .u32 nm).wf = true) :
    ∃ va vb vc, (SlV va ∧ SlV vb ∧ SlV vc) ∧ Own w bx #[.int .u32 nb, .int .u32 nm, va, vb, vc] 52 ∧ Kept [bx] w1 w ∧ (∀ w', Kept [] w w' → CatIn w' (.agg #[.int .u32 nb, .int .u32 nm, va, vb, vc]) ⟨nb, nm, A, B, C⟩ ∧ ∀ g cs, Own w' g cs 52 → ∀ a b c d e, CatIn (((((w'.setCell ⟨g, 0, none⟩ a).setCell ⟨g, 1, none⟩ b).setCell ⟨g, 2, none⟩ c).setCell ⟨g, 3, none⟩ d).setCell ⟨g, 4, none⟩ e) (.agg #[.int .u32 nb, .int .u32 nm, va, vb, vc]) ⟨nb, nm, A, B, C⟩) := by
  obtain ⟨va, vb, vc, xs, ys, zs, o, r3, e1, e2, e3, k⟩ := h
  have hc : ∀ W, Row3 w1.heap.size W va vb vc xs ys zs → CatIn W (.agg #[.int .u32 nb, .int .u32 nm, va, vb, vc]) ⟨nb, nm, A, B, C⟩ := fun W r => by
    have i1 := r.in1
    have i2 := r.rot.in1
    have i3 := r.rot.rot.in1
    rw [e1] at i1
    rw [e2] at i2
    rw [e3] at i3
    exact ⟨va, vb, vc, rfl, i1, i2, i3, hb, hm⟩
  have hsl : ∀ {v : Value} {n : Nat} {us : List Value}, w.ownsRow w1.heap.size 113 4 v n us → SlV v := fun h => by
    obtain ⟨p, c, rfl⟩ := own_shape h
    exact ⟨_, _, _, rfl⟩
  refine ⟨va, vb, vc, ⟨hsl r3.ra, hsl r3.rb, hsl r3.rc⟩, o, k, fun w' q => ⟨hc _ (r3.kept0 q), fun g cs og a b c d e => hc _ ?_⟩⟩
  exact (((((r3.kept0 q).set og 0 a).set (og.set 0 a) 1 b).set ((og.set 0 a).set 1 b) 2 c).set (((og.set 0 a).set 1 b).set 2 c) 3 d).set ((((og.set 0 a).set 1 b).set 2 c).set 3 d) 4 e
theorem Grows.kept0 {w1 w w' : World} {bx : Nat} {nb nm : Int} {A B C : List JItem} (h : Grows w1 w bx nb nm A B C) (k : Kept [] w w') : Grows w1 w' bx nb nm A B C := by
  obtain ⟨va, vb, vc, xs, ys, zs, o, r3, e1, e2, e3, kk⟩ := h
  exact ⟨va, vb, vc, xs, ys, zs, k.own o (by simp), r3.kept0 k, e1, e2, e3, kk.trans (k.mono (fun x hx => by cases hx))⟩
theorem TxsNew.at_ {w0 w : World} {v : Value} {ll : List (List JRec)} (h : TxsNew w0 w v ll) (i : Nat) (hi : i < ll.length) :
    ∃ b off kv c, v = .slice (some ⟨b, off, none⟩) ll.length c ∧ ∀ W S, Kept S w W → OffTxs w0 w S → W.cell? ⟨b, off + i, none⟩ = some kv ∧ RecsNew w0 W kv ll[i] := by
  obtain ⟨vs, rfl, h2, h3⟩ := h
  have hi' : i < vs.length := by simpa using hi
  obtain ⟨g, c, rfl, g1, g2, g3, g4, g5⟩ := ownsRow_at h2 (by simp; omega)
  refine ⟨g, 0, vs[i].2, c, rfl, fun W S k hS => ⟨?_, ?_⟩⟩
  · have hr := ownsRow_keptT h2 k (fun x hx hb cs hc => by
      rcases hS x hx with h1 | ⟨cs', t, o, _, _, ht⟩
      · omega
      · exact ht (own_ty o hc))
    obtain ⟨g', c', e, _, _, _, _, g5'⟩ := ownsRow_at hr (by simp; omega)
    injection e with e
    injection e with e
    injection e with e
    subst e
    rw [Nat.zero_add]
    refine g5' i _ ?_
    simp [hi']
  · rw [List.getElem_map]
    exact (h3 _ (List.getElem_mem hi')).kept k hS.recs
def ApL (a b : Int × Int) : Prop := ¬ (a.1 < b.1 + b.2 ∧ b.1 < a.1 + a.2)
theorem ApL.symm {a b : Int × Int} (h : ApL a b) : ApL b a := fun hh => h ⟨hh.2, hh.1⟩
end Go.Proofs.YtdkimcnlhmhpgaaGreat

/- -/
namespace Go.Proofs.YtdkimcnlhmhpgaaGreat
open Go.ChangeShapes Go.WideShapes Go.ChangeAt Go.RowKit Go.Deep
section
variable {H : Type} {enc : TypeId × Value → H} {w : World} {base : Nat} {held : Bool} {r : Reach} {b0 : Nat}
end
def fewI (l : List JItem) : Prop := l.length ≤ 12 ∧ ∀ a ∈ l, a.runs.length ≤ 20 ∧ a.name.length ≤ 100
def lightC (c : JCat) : Prop := fewI c.boxes ∧ fewI c.mans ∧ fewI c.names
theorem fewI.small {l : List JItem} (h : fewI l) : SmallL l := ⟨by have := h.1; omega, fun a ha => by have := (h.2 a ha).1; omega⟩
theorem lightC.small {c : JCat} (h : lightC c) : SmallC c := ⟨h.1.small, h.2.1.small, h.2.2.small⟩
theorem lightC.len {c : JCat} (h : lightC c) : c.boxes.length + c.mans.length + c.names.length ≤ 36 := by have := h.1.1; have := h.2.1.1; have := h.2.2.1; omega
theorem flat_few {l : List JRec} (h : ∀ a ∈ l, a.runs.length ≤ 20) : ((l.map (·.runs)).flatten).length ≤ 20 * l.length := by
  induction l with
  | nil => simp
  | cons a t ih =>
    have h1 := h a List.mem_cons_self
    have h2 := ih (fun r hr => h r (List.mem_cons_of_mem _ hr))
    rw [List.map_cons, List.flatten_cons, List.length_append, List.length_cons]; omega
theorem lightC.rec_ {c : JCat} (h : lightC c) : ∀ r ∈ catR c, r.runs.length ≤ 20 := by
  intro r hr
  unfold catR at hr
  simp only [List.mem_append, List.mem_map] at hr
  rcases hr with (⟨a, ha, rfl⟩ | ⟨a, ha, rfl⟩) | ⟨a, ha, rfl⟩
  · exact (h.1.2 a ha).1
  · exact (h.2.1.2 a ha).1
  · exact (h.2.2.2 a ha).1
theorem lightC.runs {c : JCat} (h : lightC c) : (runsC c).length ≤ 720 := by
  have h1 := flat_few h.rec_
  have h2 : (catR c).length = c.boxes.length + c.mans.length + c.names.length := by unfold catR; simp [Nat.add_assoc]
  have := h.len
  unfold runsC
  omega
end Go.Proofs.YtdkimcnlhmhpgaaGreat

/- -/
namespace Go.Proofs.YtdkimcnlhmhpgaaGreat
open Go.RowKit
theorem CatIn.parts {w : World} {v : Value} {c : JCat} (h : CatIn w v c) : ∃ p1 n1 c1 p2 n2 c2 p3 n3 c3, v = .agg #[.int .u32 c.nextBox, .int .u32 c.nextMan, .slice p1 n1 c1, .slice p2 n2 c2, .slice p3 n3 c3] := by
  obtain ⟨a, b, d, e, h1, h2, h3, _⟩ := h
  obtain ⟨p1, q1, rfl⟩ := h1.shape
  obtain ⟨p2, q2, rfl⟩ := h2.shape
  obtain ⟨p3, q3, rfl⟩ := h3.shape
  exact ⟨_, _, _, _, _, _, _, _, _, e⟩
theorem mayL.small {k : Int} {l : List JItem} {most : Nat} (h : mayL k l most) (hm : most ≤ 1000000) : SmallL l := ⟨Nat.le_trans h.1 hm, fun a ha => by
  have := may_runs (h.2.1 a ha)
  have e : (a.told k).runs = a.runs := rfl
  rw [e] at this; omega⟩
theorem mayC.small {c : JCat} (h : mayC c) : SmallC c := ⟨h.boxes.small (by decide), h.mans.small (by decide), h.names.small (by decide)⟩
end Go.Proofs.YtdkimcnlhmhpgaaGreat
