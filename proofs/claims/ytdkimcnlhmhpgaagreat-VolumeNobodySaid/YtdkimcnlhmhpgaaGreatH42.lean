/- -/
import Derived.Test.YtdkimcnlhmhpgaaGreatH01
import Derived.Test.YtdkimcnlhmhpgaaGreatH04
import Derived.Test.YtdkimcnlhmhpgaaGreatH05
import Derived.Test.YtdkimcnlhmhpgaaGreatH06
import Derived.Test.YtdkimcnlhmhpgaaGreatH09
import Derived.Test.YtdkimcnlhmhpgaaGreatH10
import Derived.Test.YtdkimcnlhmhpgaaGreatH11
import Derived.Test.YtdkimcnlhmhpgaaGreatH14
import Derived.Test.YtdkimcnlhmhpgaaGreatH16
import Derived.Test.YtdkimcnlhmhpgaaGreatH21
import Derived.Test.YtdkimcnlhmhpgaaGreatH25
import Derived.Test.YtdkimcnlhmhpgaaGreatH26
import Derived.Test.YtdkimcnlhmhpgaaGreatH27
import Derived.Test.YtdkimcnlhmhpgaaGreatH30
import Derived.Test.YtdkimcnlhmhpgaaGreatH34
import Derived.Test.YtdkimcnlhmhpgaaGreatH35
import Derived.Test.YtdkimcnlhmhpgaaGreatH36
import Derived.Test.YtdkimcnlhmhpgaaGreatH41
import Derived.Lib.AppendZerosOnto
import Derived.Laws.StructEq
import Derived.Deep.QuietTactic
import Derived.BigQuiet
import Derived.Maps.AppendAt
import Derived.WalkMore
import Derived.ScopeJumps
import Derived.Outline
import Derived.Deep.RegionHeld3
import Derived.ProofKit
import Derived.OpenShut
import Derived.SliceStrings
import Derived.IntWalk
set_option linter.unusedVariables false
set_option linter.unusedSimpArgs false
namespace Go.Proofs.YtdkimcnlhmhpgaaGreat
open Go.RowKit
theorem applySays_of {S : Nat → Prop} {L : JCat × Int} {c : JCat} {C : Int} {v : Value} {w w' : World} (h : L = (c, C)) (h1 : CatOff S w' v c) (k : Kept [] w w') : ApplySays S L w (.returned (.tuple #[v, .int .i64 C])) w' := by
 subst h; exact ⟨v, rfl, h1, k⟩
theorem catNo_off (S : Nat → Prop) (w : World) : CatOff S w (.agg #[.int .u32 0, .int .u32 0, .slice none 0 0, .slice none 0 0, .slice none 0 0]) catNo := ⟨_, _, _, rfl, ItemsOff.nil _ _, ItemsOff.nil _ _, ItemsOff.nil _ _, by decide, by decide⟩
theorem recsX_no {c : JCat} {l : List JRec} {k : Nat} (h : k < l.length) (hm : mayR (l[k]'h) = false) : recsX c (l.drop k) = (catNo, 1) := by
 rw [List.drop_eq_getElem_cons h, recsX, if_neg (by rw [hm]; decide)]
theorem recsX_bad {c : JCat} {l : List JRec} {k : Nat} (h : k < l.length) (hm : mayR (l[k]'h) = true) {C : Int} (hC : (oneX c (l[k]'h)).2 = C) (h0 : ¬ C = 0) : recsX c (l.drop k) = (catNo, C) := by
 rw [List.drop_eq_getElem_cons h, recsX, if_pos hm, if_neg (by rw [hC]; exact h0), hC]
theorem recsX_ok {c : JCat} {l : List JRec} {k : Nat} (h : k < l.length) (hm : mayR (l[k]'h) = true) (hC : (oneX c (l[k]'h)).2 = 0) : recsX c (l.drop k) = recsX (oneX c (l[k]'h)).1 (l.drop (k + 1)) := by
 rw [List.drop_eq_getElem_cons h, recsX, if_pos hm, if_pos hC]
theorem CatOff.weakenC {S T : Nat → Prop} {w : World} {v : Value} {c : JCat} (h : CatOff S w v c) (hST : ∀ x, T x → S x) : CatOff T w v c := by
 obtain ⟨a, b, d, e, h1, h2, h3, h4⟩ := h
 exact ⟨a, b, d, e, h1.weaken hST, h2.weaken hST, h3.weaken hST, h4⟩
structure ApplyAt (S0 : Nat → Prop) (w : World) (l : List JRec) (R : JCat × Int) (k : Nat) (cc : JCat) (wr : World) (vb vm vn : Value) : Prop where
 own : Own wr w.heap.size #[.int .u32 cc.nextBox, .int .u32 cc.nextMan, vb, vm, vn] 52
 res : Own wr (w.heap.size + 1) #[.int .u32 0, .int .u32 0, .slice none 0 0, .slice none 0 0, .slice none 0 0] 52
 cat : CatOff (fun x => S0 x ∨ (x = w.heap.size ∨ x = w.heap.size + 1)) wr (.agg #[.int .u32 cc.nextBox, .int .u32 cc.nextMan, vb, vm, vn]) cc
 may : mayC cc
 here : recsX cc (l.drop k) = R
 kept : Kept [] w wr
theorem CatOff.parts {S : Nat → Prop} {w : World} {a b c d e : Value} {cc : JCat} (h : CatOff S w (.agg #[a, b, c, d, e]) cc) : a = .int .u32 cc.nextBox ∧ b = .int .u32 cc.nextMan ∧ SlV c ∧ SlV d ∧ SlV e := by
 obtain ⟨x, y, z, e1, h1, h2, h3, _⟩ := h
 simp at e1
 obtain ⟨rfl, rfl, rfl, rfl, rfl⟩ := e1
 obtain ⟨p1, q1, r1⟩ := h1.plain.shape
 obtain ⟨p2, q2, r2⟩ := h2.plain.shape
 obtain ⟨p3, q3, r3⟩ := h3.plain.shape
 exact ⟨rfl, rfl, ⟨_, _, _, r1⟩, ⟨_, _, _, r2⟩, ⟨_, _, _, r3⟩⟩
set_option maxRecDepth 100000 in
set_option maxHeartbeats 8000000 in
theorem zApply {S0 : Nat → Prop} (v : Value) (c : JCat) (vl : Value) (l : List JRec) (lo hi : Nat) (w : World) (h : CatOff S0 w v c) (hS0 : ∀ x, S0 x → x < w.heap.size) (hc : SmallC c) (hr : RecsIn w vl l lo hi) (hwl : ∀ r ∈ l, ∀ a ∈ r.runs, WfRun a) (hrl : ∀ r ∈ l, r.runs.length ≤ 1000000) :
  Calls Tryz.prog 45 #[v, vl] w (ApplySays S0 (applyX c l) w) := by
 have HCH : Hid (∀ W, Kept [] w W → Calls Tryz.prog 97 #[v] W (ChkSays c W)) := Lib.hid (fun W q => zcheck v c W (h.plain.kept0 q) hc)
 have HCAT : Hid (∀ W, Kept [] w W → CatOff (fun x => S0 x ∨ (x = w.heap.size ∨ x = w.heap.size + 1)) W v c) := Lib.hid (fun W q => by
  obtain ⟨a, b, d, e, h1, h2, h3, h4⟩ := h
  exact CatOff.kept0 ⟨a, b, d, e, h1.more (fun x hx => by omega), h2.more (fun x hx => by omega), h3.more (fun x hx => by omega), h4⟩ q)
 obtain ⟨vb, vm, vn, rfl, hb, hm, hn, hwb, hwm⟩ := h
 obtain ⟨p1, c1, rfl⟩ := hb.plain.shape
 obtain ⟨p2, c2, rfl⟩ := hm.plain.shape
 obtain ⟨p3, c3, rfl⟩ := hn.plain.shape
 obtain ⟨pl, cl, rfl⟩ := RowsOf.shape hr
 have hL1 : (l.length : Int) ≤ 9223372036854775807 := by have := RowsOf.len hr; unfold maxLen at this; omega
 have HR := Lib.hid hr
 have HWL := Lib.hid hwl
 have HRL := Lib.hid hrl
 have HS0 := Lib.hid hS0
 obtain ⟨oA, oB⟩ := own_two w #[.int .u32 c.nextBox, .int .u32 c.nextMan, .slice p1 c.boxes.length c1, .slice p2 c.mans.length c2, .slice p3 c.names.length c3] #[.int .u32 0, .int .u32 0, .slice none 0 0, .slice none 0 0, .slice none 0 0] 52 52
 have k0 : Kept [] w ((w.alloc (.cells #[.int .u32 c.nextBox, .int .u32 c.nextMan, .slice p1 c.boxes.length c1, .slice p2 c.mans.length c2, .slice p3 c.names.length c3] 52)).alloc (.cells #[.int .u32 0, .int .u32 0, .slice none 0 0, .slice none 0 0, .slice none 0 0] 52)) := ((Kept.refl _ _).alloc _).alloc _
 have K0 := Lib.hid k0
 have OA := Lib.hid oA
 have OB := Lib.hid oB
 obtain ⟨x0, x1, x2, x3, x4⟩ := oA.k5
 clear hb hm hn hwb hwm hr hwl hrl hS0 oA oB k0 hc
 unfold ChkSays at HCH
 by_cases hmc : mayC c
 ·have hck : chkX c = 0 := by unfold chkX; rw [if_pos hmc]
  have hap : applyX c l = recsX c l := by unfold applyX; rw [if_pos hmc]
  rw [hap]
  rw [hck] at HCH
  have HMC := Lib.hid hmc
  obtain ⟨R, hR⟩ : ∃ R, recsX c l = R := ⟨_, rfl⟩
  rw [hR]
  have HRR := Lib.hid hR
  clear hck hap hmc hR
  go_enter Tryz.func45, Tryz.ntmps45
  go_wp2_with fail
  refine (HCH.out _ K0.out).mono ?_; rintro e w2 ⟨rfl, k2⟩
  have K2 := Lib.hid (K0.out.trans k2)
  have OA2 := Lib.hid (k2.own OA.out (by simp))
  have OB2 := Lib.hid (k2.own OB.out (by simp))
  go_wp2_with fail
  go_loopw [17] (fun i wr => ∃ k cc vb vm vn, k ≤ l.length ∧ i = .int .i64 (k : Nat) ∧ ApplyAt S0 w l R k cc wr vb vm vn) (fun i _ => l.length - (intOf i).toNat)
  case atStart => exact ⟨0, c, _, _, _, Nat.zero_le _, rfl, ⟨OA2.out, OB2.out, HCAT.out _ K2.out, HMC.out, by rw [List.drop_zero]; exact HRR.out, K2.out⟩⟩
  case round =>
   obtain ⟨k, cc, vb, vm, vn, hk, rfl, hA⟩ := hrel
   have HA := Lib.hid hA
   obtain ⟨_, _, ⟨pb, nb, cb, rfl⟩, ⟨pm, nm, cm, rfl⟩, ⟨pn, nn, cn, rfl⟩⟩ := CatOff.parts hA.cat
   obtain ⟨x0, x1, x2, x3, x4⟩ := hA.own.k5
   obtain ⟨y0, y1, y2, y3, y4⟩ := hA.res.k5
   obtain ⟨f0, f1, f2, f3, f4⟩ := hA.own.y5
   obtain ⟨g0, g1, g2, g3, g4⟩ := hA.res.y5
   by_cases hlt : k < l.length
   ·obtain ⟨b, off, kv, rfl, r0, r1, r2, r3, r4, hrun, hfit, hlb, hbh, hih⟩ := RecsIn.at_ (HR.out.kept0 hA.kept) k hlt
    obtain ⟨pr, cr, rfl⟩ := hrun.shape
    have HLT : Hid (k < l.length) := hlt
    have i1 : (k : Int) < l.length := by omega
    have hwr := HWL.out _ (List.getElem_mem hlt)
    have hrr := HRL.out _ (List.getElem_mem hlt)
    have hrecsno := fun hm => recsX_no (c := cc) hlt hm
    have hrecsbad := fun hm C hC h0 => recsX_bad (c := cc) hlt hm (C := C) hC h0
    have hrecsok := fun hm hC => recsX_ok (c := cc) hlt hm hC
    rw [hA.here] at hrecsno hrecsbad hrecsok
    have hidm : mayR (l[k]'hlt) = true → 0 ≤ (l[k]'hlt).id := fun _ => (bd32 hfit.2.1).1
    generalize hrk : l[k]'hlt = rk at *
    have HNO := Lib.hid hrecsno
    have HBAD := Lib.hid hrecsbad
    have HOK := Lib.hid hrecsok
    have HID := Lib.hid hidm
    have hjc := fun W (q : Kept [] wr W) => jcheck rk (.slice pr rk.runs.length cr) lo hi W (hrun.kept0 q) hrr hfit
    have HJC := Lib.hid hjc
    have hap : Hid (∀ W, Kept [] wr W → mayR rk = true → Calls Tryz.prog 99 #[.agg #[.int .u32 cc.nextBox, .int .u32 cc.nextMan, .slice pb nb cb, .slice pm nm cm, .slice pn nn cn], .agg (rk.cells (.slice pr rk.runs.length cr))] W (ApplySays (fun x => S0 x ∨ (x = w.heap.size ∨ x = w.heap.size + 1)) (oneX cc rk) W)) := Lib.hid (fun W q hm =>
     zapply _ cc rk _ W (HA.out.cat.kept0 q) (fun x hx => by
      have hsz := q.size
      have h2 := HA.out.res.lt
      rcases hx with hx | hx
      ·have := HS0.out x hx; have := HA.out.kept.size; omega
      ·omega) HA.out.may (hrun.kept0 q).upto hfit hwr hm)
    unfold JCheck at HJC
    unfold ApplySays at hap
    unfold JRec.cells at HJC hap
    clear hrecsno hrecsbad hrecsok hidm hjc hrun hfit hwr hrr hA hlb hbh hih hlt hrk
    have oR := Own.new wr #[.int .i64 rk.kind, .int .u32 rk.id, .string (bs rk.name), .int .i64 rk.size, .slice pr rk.runs.length cr] 102
    have kR : Kept [] wr (wr.alloc (.cells #[.int .i64 rk.kind, .int .u32 rk.id, .string (bs rk.name), .int .i64 rk.size, .slice pr rk.runs.length cr] 102)) := (Kept.refl _ _).alloc _
    have OR := Lib.hid oR
    have KR := Lib.hid kR
    clear oR kR
    obtain ⟨M, hM⟩ : ∃ M, mayR rk = M := ⟨_, rfl⟩
    rw [hM] at HNO HBAD HOK HID hap HJC
    have HMM := Lib.hid hM
    clear hM
    cases M with
    | false =>
     have HE := Lib.hid (HNO.out rfl)
     go_wp2_with fail
     refine (HJC.out _ KR.out).mono ?_; rintro e w3 ⟨rfl, k3⟩
     have K3 := Lib.hid (HA.out.kept.trans (KR.out.trans k3))
     have O3 := Lib.hid (k3.own (HA.out.res.alloc (.cells #[.int .i64 rk.kind, .int .u32 rk.id, .string (bs rk.name), .int .i64 rk.size, .slice pr rk.runs.length cr] 102)) (by simp))
     obtain ⟨y0, y1, y2, y3, y4⟩ := O3.out.k5
     obtain ⟨g0, g1, g2, g3, g4⟩ := O3.out.y5
     go_wp2_with fail
     refine bodyPost_ret (v := .tuple #[.agg #[.int .u32 0, .int .u32 0, .slice none 0 0, .slice none 0 0, .slice none 0 0], .int .i64 1]) (ret_row_tmp Tryz.results45 rfl rfl (t := 52) ?_ Tryz.underlying52 rfl (by kernel_rfl)) rfl ?_
     ·exact O3.out.put5 _ _ _ _ _
     ·exact applySays_of HE.out (catNo_off _ _) (Kept.set5s K3.out (Or.inr (Nat.le_succ _)) _ _ _ _ _)
    | true =>
     obtain ⟨⟨N, C⟩, hN⟩ : ∃ N, oneX cc rk = N := ⟨_, rfl⟩
     rw [hN] at hap HBAD HOK
     simp only at hap HBAD HOK
     have HMAY : Hid (C = 0 → mayC N) := Lib.hid (fun hC => by
      have h1 := one_may HA.out.may HMM.out (HID.out rfl) (by rw [hN]; exact hC)
      rw [hN] at h1; exact h1)
     clear hN
     go_wp2_with fail
     refine (HJC.out _ KR.out).mono ?_; rintro e w3 ⟨rfl, k3⟩
     have KR3 := Lib.hid (KR.out.trans k3)
     have OR3 := Lib.hid (k3.own OR.out (by simp))
     have OC3 := Lib.hid (KR3.out.own HA.out.own (by simp))
     have OB3 := Lib.hid (KR3.out.own HA.out.res (by simp))
     obtain ⟨x0, x1, x2, x3, x4⟩ := OC3.out.k5
     obtain ⟨r0, r1, r2, r3, r4⟩ := OR3.out.k5
     go_wp2_with fail
     refine (hap.out _ KR3.out (by simp)).mono ?_; rintro e w4 ⟨cv, rfl, hcv, k4⟩
     obtain ⟨vb4, vm4, vn4, rfl, hx1, hx2, hx3, hx4, hx5⟩ := hcv
     have hcat : CatOff (fun x => S0 x ∨ (x = w.heap.size ∨ x = w.heap.size + 1)) w4 (.agg #[.int .u32 N.nextBox, .int .u32 N.nextMan, vb4, vm4, vn4]) N := ⟨vb4, vm4, vn4, rfl, hx1, hx2, hx3, hx4, hx5⟩
     obtain ⟨_, _, ⟨pb4, nb4, cb4, rfl⟩, ⟨pm4, nm4, cm4, rfl⟩, ⟨pn4, nn4, cn4, rfl⟩⟩ := CatOff.parts hcat
     have HCATN := Lib.hid hcat
     have K4 := Lib.hid (HA.out.kept.trans (KR3.out.trans k4))
     have OC4 := Lib.hid ((k4.own OC3.out (by simp)).alloc (.cells #[.int .u32 N.nextBox, .int .u32 N.nextMan, .slice pb4 nb4 cb4, .slice pm4 nm4 cm4, .slice pn4 nn4 cn4] 52))
     have OB4 := Lib.hid ((k4.own OB3.out (by simp)).alloc (.cells #[.int .u32 N.nextBox, .int .u32 N.nextMan, .slice pb4 nb4 cb4, .slice pm4 nm4 cm4, .slice pn4 nn4 cn4] 52))
     have ON4 := Lib.hid (Own.new w4 #[.int .u32 N.nextBox, .int .u32 N.nextMan, .slice pb4 nb4 cb4, .slice pm4 nm4 cm4, .slice pn4 nn4 cn4] 52)
     obtain ⟨x0, x1, x2, x3, x4⟩ := OC4.out.k5
     obtain ⟨f0, f1, f2, f3, f4⟩ := OC4.out.y5
     obtain ⟨y0, y1, y2, y3, y4⟩ := OB4.out.k5
     obtain ⟨g0, g1, g2, g3, g4⟩ := OB4.out.y5
     obtain ⟨n0, n1, n2, n3, n4⟩ := ON4.out.k5
     clear hx1 hx2 hx3 hx4 hx5 hcat
     by_cases hC : C = 0
     ·subst hC
      have HOK2 := Lib.hid (HOK.out (by simp) rfl)
      have HM2 := Lib.hid (HMAY.out rfl)
      go_wp2_with fail
      go_roundw
      case rel =>
       have hkT : Kept [w.heap.size] w4 ((((((w4.alloc (.cells #[.int .u32 N.nextBox, .int .u32 N.nextMan, .slice pb4 nb4 cb4, .slice pm4 nm4 cm4, .slice pn4 nn4 cn4] 52)).setCell ⟨w.heap.size, 0, none⟩ (.int .u32 N.nextBox)).setCell ⟨w.heap.size, 1, none⟩ (.int .u32 N.nextMan)).setCell ⟨w.heap.size, 2, none⟩ (.slice pb4 nb4 cb4)).setCell ⟨w.heap.size, 3, none⟩ (.slice pm4 nm4 cm4)).setCell ⟨w.heap.size, 4, none⟩ (.slice pn4 nn4 cn4)) := Kept.set5s ((Kept.refl _ _).alloc _) (Or.inl (by simp)) _ _ _ _ _
       refine ⟨k + 1, N, _, _, _, HLT.out, by go_num, ⟨OC4.out.put5 _ _ _ _ _, ?_, HCATN.out.keptT hkT (fun x hx => Or.inr (Or.inl (by simpa using hx))), HM2.out, HOK2.out.symm, Kept.set5s (K4.out.alloc _) (Or.inr (Nat.le_refl _)) _ _ _ _ _⟩⟩
       exact ((((OB4.out.other (p := ⟨w.heap.size, 0, none⟩) (Nat.succ_ne_self _) _).other (p := ⟨w.heap.size, 1, none⟩) (Nat.succ_ne_self _) _).other (p := ⟨w.heap.size, 2, none⟩) (Nat.succ_ne_self _) _).other (p := ⟨w.heap.size, 3, none⟩) (Nat.succ_ne_self _) _).other (p := ⟨w.heap.size, 4, none⟩) (Nat.succ_ne_self _) _
      case measure => (have hh := HLT.out; simp [intOf]; omega)
     ·have HE := Lib.hid (HBAD.out (by simp) C rfl hC)
      go_wp2_with fail
      refine bodyPost_ret (v := .tuple #[.agg #[.int .u32 0, .int .u32 0, .slice none 0 0, .slice none 0 0, .slice none 0 0], .int .i64 C]) (ret_row_tmp Tryz.results45 rfl rfl (t := 52) ?_ Tryz.underlying52 rfl (by kernel_rfl)) rfl ?_
      ·exact OB4.out.put5 _ _ _ _ _
      ·exact applySays_of HE.out (catNo_off _ _) (Kept.set5s (K4.out.alloc _) (Or.inr (Nat.le_succ _)) _ _ _ _ _)
   ·obtain rfl : k = l.length := by omega
    have hend : R = (cc, 0) := by
     have := hA.here
     rw [List.drop_length] at this
     exact this.symm
    have HE := Lib.hid hend
    have i1 : ¬ (l.length : Int) < l.length := by omega
    clear hA hend
    go_wp2_with fail
    have hkT : Kept [w.heap.size + 1] wr (((((wr.setCell ⟨w.heap.size + 1, 0, none⟩ (.int .u32 cc.nextBox)).setCell ⟨w.heap.size + 1, 1, none⟩ (.int .u32 cc.nextMan)).setCell ⟨w.heap.size + 1, 2, none⟩ (.slice pb nb cb)).setCell ⟨w.heap.size + 1, 3, none⟩ (.slice pm nm cm)).setCell ⟨w.heap.size + 1, 4, none⟩ (.slice pn nn cn)) := Kept.set5s (Kept.refl _ _) (Or.inl (by simp)) _ _ _ _ _
    have hfinal := HA.out.cat.keptT hkT (fun x hx => Or.inr (Or.inr (by simpa using hx)))
    have hfin2 : CatOff S0 _ _ cc := CatOff.weakenC hfinal (fun x hx => Or.inl hx)
    refine bodyPost_ret (v := .tuple #[.agg #[.int .u32 cc.nextBox, .int .u32 cc.nextMan, .slice pb nb cb, .slice pm nm cm, .slice pn nn cn], .int .i64 0]) (ret_row_tmp Tryz.results45 rfl rfl (t := 52) ?_ Tryz.underlying52 rfl (by kernel_rfl)) rfl ?_
    ·exact HA.out.res.put5 _ _ _ _ _
    ·exact applySays_of HE.out hfin2 (Kept.set5s HA.out.kept (Or.inr (Nat.le_succ _)) _ _ _ _ _)
 ·have hck : chkX c = 110 := by unfold chkX; rw [if_neg hmc]
  have hap : applyX c l = (catNo, 110) := by unfold applyX; rw [if_neg hmc]
  rw [hck] at HCH
  have HE := Lib.hid hap
  clear hck hap hmc
  go_enter Tryz.func45, Tryz.ntmps45
  go_wp2_with fail
  refine (HCH.out _ K0.out).mono ?_; rintro e w2 ⟨rfl, k2⟩
  have K2 := Lib.hid (K0.out.trans k2)
  have OB2 := Lib.hid (k2.own OB.out (by simp))
  obtain ⟨y0, y1, y2, y3, y4⟩ := OB2.out.k5
  obtain ⟨g0, g1, g2, g3, g4⟩ := OB2.out.y5
  go_wp2_with fail
  refine bodyPost_ret (v := .tuple #[.agg #[.int .u32 0, .int .u32 0, .slice none 0 0, .slice none 0 0, .slice none 0 0], .int .i64 110]) (ret_row_tmp Tryz.results45 rfl rfl (t := 52) ?_ Tryz.underlying52 rfl (by kernel_rfl)) rfl ?_
  ·exact OB2.out.put5 _ _ _ _ _
  ·exact applySays_of HE.out (catNo_off _ _) (Kept.set5s K2.out (Or.inr (Nat.le_succ _)) _ _ _ _ _)
def FitC (c : JCat) : Prop := (Lit.int .u32 c.nextBox).wf = true ∧ (Lit.int .u32 c.nextMan).wf = true ∧ ∀ r ∈ catR c, r.fits
theorem CatIn.fit {w : World} {v : Value} {c : JCat} (h : CatIn w v c) : FitC c := by
 obtain ⟨vb, vm, vn, rfl, hb, hm, hn, hwb, hwm⟩ := h
 have hf : ∀ {u : Value} {L : List JItem}, ItemsIn w u L → ∀ a ∈ L, a.fits := fun {u L} hi a ha => by
  obtain ⟨vs, hvs, _, hok⟩ := hi
  rw [← hvs] at ha
  obtain ⟨x, hx, rfl⟩ := List.mem_map.1 ha
  exact (hok x hx).2.1
 refine ⟨hwb, hwm, fun r hr => ?_⟩
 unfold catR at hr
 simp only [List.mem_append, List.mem_map] at hr
 rcases hr with (⟨a, ha, rfl⟩ | ⟨a, ha, rfl⟩) | ⟨a, ha, rfl⟩
 ·exact JItem.told_fits (hf hb a ha) (by decide)
 ·exact JItem.told_fits (hf hm a ha) (by decide)
 ·exact JItem.told_fits (hf hn a ha) (by decide)
theorem mayL.small {k : Int} {l : List JItem} {most : Nat} (h : mayL k l most) (hm : most ≤ 1000000) : SmallL l := ⟨Nat.le_trans h.1 hm, fun a ha => by
 have := may_runs (h.2.1 a ha)
 have e : (a.told k).runs = a.runs := rfl
 rw [e] at this; omega⟩
theorem mayC.small {c : JCat} (h : mayC c) : SmallC c := ⟨h.boxes.small (by decide), h.mans.small (by decide), h.names.small (by decide)⟩
def VC.fits (x : VC) : Prop := (Lit.int .i64 x.kind).wf = true ∧ (Lit.int .u32 x.id).wf = true ∧ x.name.length ≤ maxLen ∧ x.bytes.length ≤ 1048576
def ChCells (w : World) (cs : List Value) (x : VC) : Prop := cs = [.int .i64 x.kind, .int .u32 x.id, .string (bs x.name), .string (bs x.bytes)] ∧ x.fits
def ChsIn (w : World) (v : Value) (l : List VC) (lo hi : Nat) : Prop := RowsOf 4 ChCells w v l lo hi
theorem ChsIn.kept {S : List Nat} {w w' : World} {v : Value} {l : List VC} {lo hi : Nat} (h : ChsIn w v l lo hi) (k : Kept S w w') (hS : ∀ x ∈ S, x < lo ∨ hi ≤ x) : ChsIn w' v l lo hi := RowsOf.kept h k hS (fun cs a h => h)
theorem ChsIn.kept0 {w w' : World} {v : Value} {l : List VC} {lo hi : Nat} (h : ChsIn w v l lo hi) (k : Kept [] w w') : ChsIn w' v l lo hi := h.kept k (fun x hx => by cases hx)
theorem ChsIn.at_ {w : World} {p : Option Addr} {n c : Nat} {l : List VC} {lo hi : Nat} (h : ChsIn w (.slice p n c) l lo hi) (i : Nat) (hi' : i < l.length) :
  ∃ b off, p = some ⟨b, off, none⟩ ∧ w.cell? ⟨b, off + i * 4, none⟩ = some (.int .i64 l[i].kind) ∧ w.cell? ⟨b, off + i * 4 + 1, none⟩ = some (.int .u32 l[i].id) ∧ w.cell? ⟨b, off + i * 4 + 2, none⟩ = some (.string (bs l[i].name)) ∧ w.cell? ⟨b, off + i * 4 + 3, none⟩ = some (.string (bs l[i].bytes)) ∧ b < w.heap.size ∧ l[i].fits := by
 obtain ⟨b, off, cs, e1, e2, ⟨rfl, e4⟩, e6, e7, e8, e9⟩ := RowsOf.at_ h i hi'
 exact ⟨b, off, e1, e6 0 _ rfl, e6 1 _ rfl, e6 2 _ rfl, e6 3 _ rfl, by omega, e4⟩
theorem bs_empty (s : List UInt8) : (bs s).toList.isEmpty = s.isEmpty := by
 rw [bs_toList]
theorem news_alloc (w : World) (l : List Value) (t : TypeId) : ∀ (j : Nat) (u : Value), l[j]? = some u → (w.alloc (.cells l.toArray t)).cell? (Addr.add ⟨w.heap.size, 0, none⟩ j) = some u := by
 intro j u hj
 have := World.news_of_block (heap_alloc_new w (.cells l.toArray t))
 exact this j u (by simpa using hj)
theorem rec_fits {x : VC} (h : x.fits) : x.told.fits := ⟨h.1, h.2.1, h.2.2.1, by show (Lit.int .i64 0).wf = true; decide⟩
theorem all_succ (p : VC → Bool) (l : List VC) (k : Nat) (h : k < l.length) : (l.take (k + 1)).all p = ((l.take k).all p && p l[k]) := by
 rw [List.take_succ_eq_append_getElem h, List.all_append]; simp
theorem all_no (p : VC → Bool) (l : List VC) (k : Nat) (h : k < l.length) (hp : p l[k] = false) : l.all p = false := by
 rw [List.all_eq_false]
 exact ⟨_, List.getElem_mem h, by rw [hp]; simp⟩
def WrongSays (C : Int) (w : World) (e : Ending) (w' : World) : Prop := e = .returned (.int .i64 C) ∧ Kept [] w w'
set_option maxRecDepth 100000 in
set_option maxHeartbeats 8000000 in
theorem uwrong {T : List Nat} {w : World} {B b sb mb lo : Nat} {v : VS} (vl : Value) (l : List VC) (lo1 hi1 : Nat) (hV : VolAt T w B b sb mb lo v) (hc : mayC v.c) (hl : ChsIn w vl l lo1 hi1) :
  Calls Tryz.prog 43 #[.pointer (some ⟨B, 0, none⟩), vl] w (WrongSays (wrongX v.c l) w) := by
 obtain ⟨sv, vb, vm, vn, o, hr, hcat⟩ := hV.vol
 have HO : Hid (∀ W, Kept [] w W → Own W B (volCells b v.s sv v.c vb vm vn v.dead) 90) := Lib.hid (fun W k => k.own o (by simp))
 have HAP : Hid (∀ W rv lo2 hi2, Kept [] w W → RecsIn W rv (l.map VC.told) lo2 hi2 → Calls Tryz.prog 45 #[.agg #[.int .u32 v.c.nextBox, .int .u32 v.c.nextMan, vb, vm, vn], rv] W (ApplySays (fun _ => False) (applyX v.c (l.map VC.told)) W)) := Lib.hid (fun W rv lo2 hi2 k hrr =>
  zApply (S0 := fun _ => False) _ v.c rv _ lo2 hi2 W ((CatOff.kept0 hcat k).weakenC (fun x hx => hx.elim)) (fun x hx => hx.elim) hc.small hrr (fun r hr a ha => by
   obtain ⟨x, hx, rfl⟩ := List.mem_map.1 hr
   cases ha) (fun r hr => by
   obtain ⟨x, hx, rfl⟩ := List.mem_map.1 hr
   exact Nat.zero_le _))
 have HL := Lib.hid hl
 obtain ⟨p1, c1, rfl⟩ := RowsOf.shape hl
 have hlm := RowsOf.len hl
 unfold maxLen at hlm
 clear hV hc hl hr hcat
 unfold WrongSays
 by_cases hn : l.length < 1 ∨ 8192 < l.length
 ·have hw : wrongX v.c l = 3 := by unfold wrongX; rw [if_pos hn]
  rw [hw]
  rcases (by omega : (l.length : Int) < 1 ∨ (1 ≤ (l.length : Int) ∧ 8192 < (l.length : Int))) with h1 | ⟨h1, h2⟩
  all_goals
   clear hn
   go_enter Tryz.func43, Tryz.ntmps43
   go_wp2_with fail
   go_ret
   exact ⟨rfl, Kept.refl _ _⟩
 ·have n1 : 1 ≤ (l.length : Int) := by omega
  have n2 : (l.length : Int) ≤ 8192 := by omega
  have HW : Hid (wrongX v.c l = if l.all (fun x => kBlob x.kind || x.bytes.isEmpty) then (applyX v.c (l.map VC.told)).2 else 1) := Lib.hid (by unfold wrongX; rw [if_neg hn])
  clear hn hlm
  generalize wrongX v.c l = WX at *
  generalize hap : applyX v.c (l.map VC.told) = AP at *
  clear hap
  obtain ⟨x0, x1, x2, x3, x4, x5, x6, x7, x8, x9, x10, x11, x12⟩ := o.c13
  clear x0 x1 x2 x3 x4 x5 x6 x12 o
  go_enter Tryz.func43, Tryz.ntmps43
  go_wp2_with fail
  go_loopw [5, 7, 20] (fun rv x i wr => ∃ k : Nat, k ≤ l.length ∧ i = .int .i64 k ∧ (l.take k).all (fun x => kBlob x.kind || x.bytes.isEmpty) = true ∧ RecsNew w wr rv ((l.take k).map VC.told) ∧ Kept [] w wr) (fun _ _ i _ => l.length - (intOf i).toNat)
  case atStart => exact ⟨0, Nat.zero_le _, rfl, rfl, RecsNew.nil _ _, Kept.refl _ _⟩
  case round =>
   obtain ⟨k, hk, rfl, hall, hrecs, hK⟩ := hrel
   by_cases hlt : k < l.length
   ·have i1 : (k : Int) < l.length := by omega
    obtain ⟨bl, ol, rfl, r0, r1, r2, r3, hbl, hfit⟩ := ChsIn.at_ (HL.out.kept0 hK) k hlt
    have hsucc := all_succ (fun x => kBlob x.kind || x.bytes.isEmpty) l k hlt
    have hno := all_no (fun x => kBlob x.kind || x.bytes.isEmpty) l k hlt
    have hmap : (l.take (k + 1)).map VC.told = (l.take k).map VC.told ++ [l[k].told] := by rw [List.take_succ_eq_append_getElem hlt, List.map_append]; rfl
    have hlen : ((l.take k).map VC.told).length = k := by rw [List.length_map, List.length_take]; omega
    rw [hall, Bool.true_and] at hsucc
    have HSUCC := Lib.hid hsucc
    have HNO := Lib.hid hno
    have HMAP := Lib.hid hmap
    have HLEN := Lib.hid hlen
    have HLT := Lib.hid hlt
    have HF := Lib.hid (rec_fits hfit)
    have HK := Lib.hid hK
    have HR := Lib.hid hrecs
    obtain ⟨p6, c6, rfl⟩ := hrecs.shape
    rw [hlen]
    clear hall hsucc hno hmap hlen hfit hrecs hK hk
    generalize hX : l[k] = X at *
    clear hX hlt
    obtain ⟨xk, xi, xn, xb⟩ := X
    simp only at *
    have HCO : Hid (∀ W, Calls Tryz.prog 47 #[.int .i64 xk] W fun e w' => e = .returned (.bool (kBlob xk)) ∧ W = w') := Lib.hid (fun W => ucomes xk W)
    have hbe := bs_empty xb
    have oX := Own.new wr #[.int .i64 xk, .int .u32 xi, .string (bs xn), .string (bs xb)] 34
    obtain ⟨z0, z1, z2, z3⟩ := oX.c4
    have HKX := Lib.hid (HK.out.alloc (.cells #[.int .i64 xk, .int .u32 xi, .string (bs xn), .string (bs xb)] 34))
    have HRX := Lib.hid (HR.out.kept0 ((Kept.refl [] wr).alloc (.cells #[.int .i64 xk, .int .u32 xi, .string (bs xn), .string (bs xb)] 34)))
    have HREC : Hid (∀ W, Calls Tryz.prog 95 #[.agg #[.int .i64 xk, .int .u32 xi, .string (bs xn), .string (bs xb)]] W fun e w' => e = .returned (.agg #[.int .i64 xk, .int .u32 xi, .string (bs xn), .int .i64 0, .slice none 0 0]) ∧ Kept [] W w') := Lib.hid (fun W => urecord ⟨xk, xi, xn, xb⟩ W)
    clear oX
    have HBAD : Hid (kBlob xk = false → xb.isEmpty = false → WX = 1) := Lib.hid (fun h1 h2 => by rw [HW.out, HNO.out (by rw [h1, h2]; rfl)]; rfl)
    have HGOOD : Hid ((kBlob xk || xb.isEmpty) = true → (l.take (k + 1)).all (fun x => kBlob x.kind || x.bytes.isEmpty) = true) := Lib.hid (fun h => by rw [HSUCC.out]; exact h)
    clear HSUCC HNO
    go_wp2_with fail
    refine (HCO.out _).mono ?_; rintro e w2 ⟨rfl, rfl⟩
    generalize kBlob xk = KB at *
    generalize xb.isEmpty = EB at *
    have hgo : Hid ((KB || EB) = true → True) := Lib.hid (fun _ => trivial)
    cases KB <;> cases EB
    case false.false =>
     have HB1 := Lib.hid (HBAD.out rfl rfl)
     go_wp2_with fail
     go_ret
     exact ⟨by rw [HB1.out]; rfl, HKX.out⟩
    all_goals
     have HG := Lib.hid (HGOOD.out rfl)
     clear HBAD HGOOD HCO
     go_wp2_with fail
     refine (HREC.out _).mono ?_; rintro e w3 ⟨rfl, k3⟩
     have HK3 := Lib.hid (HKX.out.trans k3)
     have HR3 := Lib.hid (HRX.out.kept0 k3)
     have hr3 := HRX.out.kept0 k3
     obtain ⟨vs, hvs, hrow, heach⟩ := hr3
     rw [HLEN.out] at hrow
     have HVS := Lib.hid hvs
     have HROW := Lib.hid hrow
     have HEACH := Lib.hid heach
     obtain ⟨i0, q0, q1, q2, q3⟩ := infoRec
     have m3 : k + 1 ≤ maxLen := by have := HLT.out; unfold maxLen; omega
     have m4 : (k + 1) * 64 ≤ 140737488355328 := by have := HLT.out; omega
     have hsz3 : w.heap.size ≤ w3.heap.size := HK3.out.size
     clear k3 hvs hrow heach
     go_wp2_with (at_builtin; go_must (refine wpList_append_own_at _ rfl (.tmp 33) (.tmp 36) 92 rfl w.heap.size 102 i0 (.agg #[.int .i64 0, .int .u32 0, .string { data := #[] }, .int .i64 0, .slice none 0 0]) 5 64 Tryz.underlying92 q0 q1 q2 q3 rfl (by decide) _ _ _ rfl (World.ownsRow.alloc HROW.out _) ⟨w3.heap.size, 0, none⟩ 1 1 [.int .i64 xk, .int .u32 xi, .string (bs xn), .int .i64 0, .slice none 0 0] rfl rfl ?_ ?_ m3 m4 ?_ ?_))
     ·exact news_alloc _ _ _
     ·intro u hu; simp at hu; rcases hu with rfl | rfl | rfl | rfl | rfl <;> rfl
     ·simp <;> omega
     intro v6 w6 o6 gr6 _ _
     have hrow3 := HROW.out
     have hnx : RecsNew w w6 v6 ((l.take (k + 1)).map VC.told) := by
      rw [HMAP.out]
      exact RecsNew.more HVS.out HEACH.out (by rw [HLEN.out]; exact hrow3) (World.ownsRow_nil _ _ _ _) HF.out gr6 (by rw [HLEN.out]; exact o6)
     have hk6 : Kept [] w w6 := (HK3.out.alloc _).grown gr6 (fun q hq => Or.inr (World.ownsRow.lt hrow3 q hq).1)
     have HNX := Lib.hid hnx
     have HK6 := Lib.hid hk6
     clear hnx hk6 hrow3 o6 gr6
     go_wp2_with fail
     go_roundw
     case rel => exact ⟨k + 1, HLT.out, by go_num, HG.out, HNX.out, HK6.out⟩
     case measure => (have hh := HLT.out; simp [intOf] <;> omega)
   ·obtain rfl : k = l.length := by omega
    rw [List.take_length] at hall hrecs
    obtain ⟨p6, c6, rfl⟩ := hrecs.shape
    have HA := Lib.hid (HAP.out wr _ _ _ hK hrecs.in_)
    have HC := Lib.hid (HW.out.trans (by rw [hall]))
    have HK := Lib.hid hK
    have i1 : ¬ ((l.length : Nat) : Int) < l.length := by omega
    obtain ⟨_, _, _, _, _, _, _, a7, a8, a9, a10, a11, _⟩ := (HO.out _ hK).c13
    rw [List.length_map]
    rw [List.length_map] at HA
    unfold ApplySays at HA
    clear hall hrecs hK
    go_wp2_with fail
    refine HA.out.mono ?_; rintro e w4 ⟨vc, rfl, hcat4, k4⟩
    obtain ⟨vb4, vm4, vn4, rfl, j1, j2, j3, _⟩ := hcat4
    obtain ⟨r1, e1, rfl⟩ := j1.plain.shape
    obtain ⟨r2, e2, rfl⟩ := j2.plain.shape
    obtain ⟨r3, e3, rfl⟩ := j3.plain.shape
    clear j1 j2 j3
    have HK4 := Lib.hid (HK.out.trans k4)
    clear k4
    go_wp2_with fail
    go_ret
    exact ⟨by rw [HC.out]; rfl, HK4.out.alloc _⟩
end Go.Proofs.YtdkimcnlhmhpgaaGreat
