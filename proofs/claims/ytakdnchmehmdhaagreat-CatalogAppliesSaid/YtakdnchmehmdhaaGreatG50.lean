/- Layer 44 (catalog): the document's One: one record applied. -/
import Derived.Test.YtakdnchmehmdhaaGreatG14
import Derived.Test.YtakdnchmehmdhaaGreatG29
import Derived.Test.YtakdnchmehmdhaaGreatG49
namespace Go.Proofs.YtakdnchmehmdhaaGreat
open Go.RowKit
set_option linter.unusedVariables false
set_option linter.unusedSimpArgs false

/-- one record applied, as the document tells it: what is left on an error is of no account. -/
def QOneSays (S : Nat → Prop) (c : JCat) (r : JRec) (w : World) (e : Ending) (w' : World) : Prop :=
  ∃ v c', e = .returned (.tuple #[v, .int .i64 (if mayR r = true then (oneX c r).2 else 1)]) ∧ CatOff S w' v c' ∧ (mayR r = true → (oneX c r).2 = 0 → c' = (oneX c r).1) ∧ Kept [] w w'
theorem qoneC_of {S : Nat → Prop} {c c1 c' : JCat} {r : JRec} {C : Int} {v : Value} {w w' : World} (hm : mayR r = true) (hone : oneX c r = (c1, C)) (h : CatOff S w' v c') (hc : C = 0 → c' = c1) (k : Kept [] w w') : QOneSays S c r w (.returned (.tuple #[v, .int .i64 C])) w' :=
  ⟨v, c', by rw [if_pos hm, hone], h, fun _ h0 => by rw [hone] at h0 ⊢; exact hc h0, k⟩
theorem qoneC_bad {S : Nat → Prop} {c c' : JCat} {r : JRec} {v : Value} {w w' : World} (hm : mayR r = false) (h : CatOff S w' v c') (k : Kept [] w w') : QOneSays S c r w (.returned (.tuple #[v, .int .i64 1])) w' :=
  ⟨v, c', by rw [if_neg (by rw [hm]; decide)], h, (fun h1 => absurd h1 (by rw [hm]; decide)), k⟩
set_option maxRecDepth 100000 in
set_option maxHeartbeats 4000000 in
theorem qoneC_no {S0 : Nat → Prop} (v : Value) (c : JCat) (r : JRec) (rv : Value) (w : World) (h : CatOff S0 w v c) (hS0 : ∀ x, S0 x → x < w.heap.size) (hmc : mayC c) (hrr : RunsIn w rv r.runs 0 w.heap.size) (hf : r.fits) (hwf : ∀ a ∈ r.runs, WfRun a) (hrl : r.runs.length ≤ 1000000) (hmr : mayR r = false) :
    Calls Tryz.prog 63 #[v, .agg (r.cells rv)] w (QOneSays S0 c r w) := by
  have HMY : Hid (∀ W, Kept [] w W → Calls Tryz.prog 40 #[.agg (r.cells rv)] W (JMay (mayR r) W)) := Lib.hid (fun W q => qmay r rv _ _ W (hrr.kept0 q) hrl hf)
  obtain ⟨vb, vm, vn, rfl, hb, hm, hn, hwb, hwm⟩ := h
  have HB := Lib.hid (fun W (q : Kept [] w W) => hb.kept0 q)
  have HM := Lib.hid (fun W (q : Kept [] w W) => hm.kept0 q)
  have HN := Lib.hid (fun W (q : Kept [] w W) => hn.kept0 q)
  obtain ⟨p1, c1, rfl⟩ := hb.plain.shape
  obtain ⟨p2, c2, rfl⟩ := hm.plain.shape
  obtain ⟨p3, c3, rfl⟩ := hn.plain.shape
  obtain ⟨pr, cr, rfl⟩ := hrr.shape
  unfold JRec.cells JMay at HMY
  unfold JRec.cells
  have HWB := Lib.hid hwb
  have HWM := Lib.hid hwm
  have HMR := Lib.hid hmr
  obtain ⟨oA, oB, oC⟩ := own_threeC w #[.int .u32 c.nextBox, .int .u32 c.nextMan, .slice p1 c.boxes.length c1, .slice p2 c.mans.length c2, .slice p3 c.names.length c3] #[.int .i64 r.kind, .int .u32 r.id, .string (bs r.name), .int .i64 r.size, .slice pr r.runs.length cr] #[.int .u32 0, .int .u32 0, .slice none 0 0, .slice none 0 0, .slice none 0 0] 25 55 25
  have k0 : Kept [] w (((w.alloc (.cells #[.int .u32 c.nextBox, .int .u32 c.nextMan, .slice p1 c.boxes.length c1, .slice p2 c.mans.length c2, .slice p3 c.names.length c3] 25)).alloc (.cells #[.int .i64 r.kind, .int .u32 r.id, .string (bs r.name), .int .i64 r.size, .slice pr r.runs.length cr] 55)).alloc (.cells #[.int .u32 0, .int .u32 0, .slice none 0 0, .slice none 0 0, .slice none 0 0] 25)) := (((Kept.refl _ _).alloc _).alloc _).alloc _
  have OA := Lib.hid oA
  have OB := Lib.hid oB
  have OC := Lib.hid oC
  have K0 := Lib.hid k0
  rw [HMR.out] at HMY
  clear oA oB oC k0 hb hm hn hrr hf hwf hmr hmc hwb hwm hrl
  go_enter Tryz.func63, Tryz.ntmps63
  go_wp2_with fail
  refine (HMY.out _ K0.out).mono ?_; rintro e w3 ⟨rfl, k3⟩
  have K3 := Lib.hid (K0.out.trans k3)
  have OA3 := Lib.hid (k3.own OA.out (by simp))
  have OB3 := Lib.hid (k3.own OB.out (by simp))
  have OC3 := Lib.hid (k3.own OC.out (by simp))
  have HSZ3 : Hid (w.heap.size + 3 ≤ w3.heap.size) := Lib.hid (by have := k3.size; simp at this; omega)
  obtain ⟨x0, x1, x2, x3, x4⟩ := OA3.out.k5
  obtain ⟨y0, y1, y2, y3, y4⟩ := OB3.out.k5
  obtain ⟨g0, g1, g2, g3, g4⟩ := OC3.out.y5
  obtain ⟨z0, z1, z2, z3, z4⟩ := OC3.out.k5
  go_wp2_with fail
  have hne : w.heap.size + 2 ≠ w.heap.size := by omega
  have oF := Own.put5 OC3.out (.int .u32 c.nextBox) (.int .u32 c.nextMan) (.slice p1 c.boxes.length c1) (.slice p2 c.mans.length c2) (.slice p3 c.names.length c3)
  have kF : Kept [] w (((((w3.setCell ⟨w.heap.size + 2, 0, none⟩ (.int .u32 c.nextBox)).setCell ⟨w.heap.size + 2, 1, none⟩ (.int .u32 c.nextMan)).setCell ⟨w.heap.size + 2, 2, none⟩ (.slice p1 c.boxes.length c1)).setCell ⟨w.heap.size + 2, 3, none⟩ (.slice p2 c.mans.length c2)).setCell ⟨w.heap.size + 2, 4, none⟩ (.slice p3 c.names.length c3)) := Kept.set5s K3.out (Or.inr (by omega)) _ _ _ _ _
  have kT : Kept [w.heap.size, w.heap.size + 2] w3 (((((w3.setCell ⟨w.heap.size + 2, 0, none⟩ (.int .u32 c.nextBox)).setCell ⟨w.heap.size + 2, 1, none⟩ (.int .u32 c.nextMan)).setCell ⟨w.heap.size + 2, 2, none⟩ (.slice p1 c.boxes.length c1)).setCell ⟨w.heap.size + 2, 3, none⟩ (.slice p2 c.mans.length c2)).setCell ⟨w.heap.size + 2, 4, none⟩ (.slice p3 c.names.length c3)) := Kept.set5s (Kept.refl _ _) (Or.inl (by simp)) _ _ _ _ _
  refine bodyPost_ret (v := .tuple #[.agg #[(.int .u32 c.nextBox), (.int .u32 c.nextMan), (.slice p1 c.boxes.length c1), (.slice p2 c.mans.length c2), (.slice p3 c.names.length c3)], .int .i64 1]) (ret_row_tmp Tryz.results63 rfl rfl (t := 25) ?_ Tryz.underlying25 rfl (by kernel_rfl)) rfl ?_
  · exact oF
  · exact qoneC_bad HMR.out ⟨_, _, _, rfl, HB.out _ kF, HM.out _ kF, HN.out _ kF, HWB.out, HWM.out⟩ kF
set_option maxRecDepth 100000 in
set_option maxHeartbeats 4000000 in
theorem qOneC1 {S0 : Nat → Prop} (v : Value) (c : JCat) (r : JRec) (rv : Value) (w : World) (h : CatOff S0 w v c) (hS0 : ∀ x, S0 x → x < w.heap.size) (hmc : mayC c) (hrr : RunsIn w rv r.runs 0 w.heap.size) (hf : r.fits) (hwf : ∀ a ∈ r.runs, WfRun a) (hrl : r.runs.length ≤ 1000000) (hmr : mayR r = true) (hk : r.kind = 1) :
    Calls Tryz.prog 63 #[v, .agg (r.cells rv)] w (QOneSays S0 c r w) := by
  have HMY : Hid (∀ W, Kept [] w W → Calls Tryz.prog 40 #[.agg (r.cells rv)] W (JMay (mayR r) W)) := Lib.hid (fun W q => qmay r rv _ _ W (hrr.kept0 q) hrl hf)
  obtain ⟨vb, vm, vn, rfl, hb, hm, hn, hwb, hwm⟩ := h
  have HB := Lib.hid (fun W (q : Kept [] w W) => hb.kept0 q)
  have HM := Lib.hid (fun W (q : Kept [] w W) => hm.kept0 q)
  have HN := Lib.hid (fun W (q : Kept [] w W) => hn.kept0 q)
  obtain ⟨p1, c1, rfl⟩ := hb.plain.shape
  obtain ⟨p2, c2, rfl⟩ := hm.plain.shape
  obtain ⟨p3, c3, rfl⟩ := hn.plain.shape
  obtain ⟨pr, cr, rfl⟩ := hrr.shape
  unfold JRec.cells JMay at HMY
  unfold JRec.cells
  have HWB := Lib.hid hwb
  have HWM := Lib.hid hwm
  have HMR := Lib.hid hmr
  obtain ⟨oA, oB, oC⟩ := own_threeC w #[.int .u32 c.nextBox, .int .u32 c.nextMan, .slice p1 c.boxes.length c1, .slice p2 c.mans.length c2, .slice p3 c.names.length c3] #[.int .i64 r.kind, .int .u32 r.id, .string (bs r.name), .int .i64 r.size, .slice pr r.runs.length cr] #[.int .u32 0, .int .u32 0, .slice none 0 0, .slice none 0 0, .slice none 0 0] 25 55 25
  have k0 : Kept [] w (((w.alloc (.cells #[.int .u32 c.nextBox, .int .u32 c.nextMan, .slice p1 c.boxes.length c1, .slice p2 c.mans.length c2, .slice p3 c.names.length c3] 25)).alloc (.cells #[.int .i64 r.kind, .int .u32 r.id, .string (bs r.name), .int .i64 r.size, .slice pr r.runs.length cr] 55)).alloc (.cells #[.int .u32 0, .int .u32 0, .slice none 0 0, .slice none 0 0, .slice none 0 0] 25)) := (((Kept.refl _ _).alloc _).alloc _).alloc _
  have hid := may_id hmr
  have hid0 : 0 ≤ r.id := (bd32 hf.2.1).1
  have hnb1 := (bd32 hwb)
  have hnm1 := (bd32 hwm)
  have HID : Hid (0 ≤ r.id ∧ r.id ≤ 4294967294) := Lib.hid ⟨hid0, hid⟩
  have HW1 : Hid ((Lit.int .u32 (r.id + 1)).wf = true) := Lib.hid (wf32 (by omega) (by omega))
  have HWR : Hid (IntKind.u32.wrap (r.id + 1) = r.id + 1) := Lib.hid (wrap32_of (by omega) (by omega))
  obtain ⟨LL, hLL⟩ : ∃ L, comesX c.boxes r.item c.nextBox 2048 false = L := ⟨_, rfl⟩
  obtain ⟨LI, LC⟩ := LL
  have HONE : Hid (oneX c r = ({ c with boxes := LI, nextBox := r.id + 1 }, LC)) := Lib.hid (by
    unfold oneX
    rw [if_pos hk, hLL])
  have HLR : Hid (∃ LR, (if LC = 0 then LI else c.boxes) = LR ∧ (LC = 0 → LI = LR)) := Lib.hid ⟨_, rfl, fun h => by rw [if_pos h]⟩
  obtain ⟨LR, hLR, hLI⟩ := HLR.out
  have HLI := Lib.hid hLI
  have HC : Hid (∀ W, Kept [] w W → w.heap.size + 3 ≤ W.heap.size → Calls Tryz.prog 102 #[.slice p1 c.boxes.length c1, .agg #[.int .i64 r.kind, .int .u32 r.id, .string (bs r.name), .int .i64 r.size, .slice pr r.runs.length cr], .int .u32 c.nextBox, .int .i64 2048] W fun e w' => ∃ v, e = .returned (.tuple #[v, .int .i64 LC]) ∧ ItemsOff (fun x => S0 x ∨ (x = w.heap.size ∨ x = w.heap.size + 2)) w' v LR ∧ Kept [] W w') := Lib.hid (fun W q hsz => by
    have hSW : ∀ x, (S0 x ∨ (x = w.heap.size ∨ x = w.heap.size + 2)) → x < W.heap.size := fun x hx => by
      rcases hx with hx | hx
      · have := hS0 x hx; omega
      · omega
    have hh := qcomes _ _ r _ c.nextBox 2048 W ((hb.more (fun x hx => by omega)).kept0 q) hSW (by have := hmc.boxes.1; omega) hmc.boxes.2.2 (hrr.kept0 q).upto hf hwf hrl (by decide) (by omega) (fun h3 => by first | rfl | omega)
    rw [show decide (r.kind = 2) = false by rw [hk]; rfl, hLL] at hh
    unfold JRec.cells QComesSays at hh
    simp only at hh
    rw [hLR] at hh
    exact hh)
  rw [hk] at HMY HC oA oB oC k0 ⊢
  clear hid hid0 hnb1 hnm1 hLL hLR hLI HLR hS0
  have OA := Lib.hid oA
  have OB := Lib.hid oB
  have OC := Lib.hid oC
  have K0 := Lib.hid k0
  rw [HMR.out] at HMY
  clear oA oB oC k0 hb hm hn hrr hf hwf hmr hmc hwb hwm hrl hk
  go_enter Tryz.func63, Tryz.ntmps63
  go_wp2_with fail
  refine (HMY.out _ K0.out).mono ?_; rintro e w3 ⟨rfl, k3⟩
  have K3 := Lib.hid (K0.out.trans k3)
  have OA3 := Lib.hid (k3.own OA.out (by simp))
  have OB3 := Lib.hid (k3.own OB.out (by simp))
  have OC3 := Lib.hid (k3.own OC.out (by simp))
  have HSZ3 : Hid (w.heap.size + 3 ≤ w3.heap.size) := Lib.hid (by have := k3.size; simp at this; omega)
  obtain ⟨x0, x1, x2, x3, x4⟩ := OA3.out.k5
  obtain ⟨y0, y1, y2, y3, y4⟩ := OB3.out.k5
  go_wp2_with fail
  refine (HC.out _ K3.out HSZ3.out).mono ?_; rintro e w4 ⟨v4, rfl, h4, k4⟩
  have H4 := Lib.hid h4
  have K4 := Lib.hid (K3.out.trans k4)
  obtain ⟨p4, c4, rfl⟩ := h4.plain.shape
  have OA4 := Lib.hid (k4.own OA3.out (by simp))
  have OB4 := Lib.hid (k4.own OB3.out (by simp))
  have OC4 := Lib.hid (k4.own OC3.out (by simp))
  obtain ⟨x0, x1, x2, x3, x4⟩ := OA4.out.k5
  obtain ⟨y0, y1, y2, y3, y4⟩ := OB4.out.k5
  obtain ⟨z0, z1, z2, z3, z4⟩ := OC4.out.k5
  obtain ⟨f0, f1, f2, f3, f4⟩ := OA4.out.y5
  obtain ⟨g0, g1, g2, g3, g4⟩ := OC4.out.y5
  clear h4 k4
  by_cases hc : LC = 0
  · subst hc
    have hw1 := HWR.out
    go_wp2_with fail
    have hne : w.heap.size + 2 ≠ w.heap.size := by omega
    have oF := Own.put5 ((OC4.out.other (p := ⟨w.heap.size, 2, none⟩) hne (.slice p4 LR.length c4)).other (p := ⟨w.heap.size, 0, none⟩) hne (.int .u32 (r.id + 1))) (.int .u32 (r.id + 1)) (.int .u32 c.nextMan) (.slice p4 LR.length c4) (.slice p2 c.mans.length c2) (.slice p3 c.names.length c3)
    have kF : Kept [] w (((((((w4.setCell ⟨w.heap.size, 2, none⟩ (.slice p4 LR.length c4)).setCell ⟨w.heap.size, 0, none⟩ (.int .u32 (r.id + 1))).setCell ⟨w.heap.size + 2, 0, none⟩ (.int .u32 (r.id + 1))).setCell ⟨w.heap.size + 2, 1, none⟩ (.int .u32 c.nextMan)).setCell ⟨w.heap.size + 2, 2, none⟩ (.slice p4 LR.length c4)).setCell ⟨w.heap.size + 2, 3, none⟩ (.slice p2 c.mans.length c2)).setCell ⟨w.heap.size + 2, 4, none⟩ (.slice p3 c.names.length c3)) := Kept.set5s ((K4.out.setCell (p := ⟨w.heap.size, 2, none⟩) (Or.inr (Nat.le_refl _)) (.slice p4 LR.length c4)).setCell (p := ⟨w.heap.size, 0, none⟩) (Or.inr (Nat.le_refl _)) (.int .u32 (r.id + 1))) (Or.inr (by omega)) _ _ _ _ _
    have kT : Kept [w.heap.size, w.heap.size + 2] w4 (((((((w4.setCell ⟨w.heap.size, 2, none⟩ (.slice p4 LR.length c4)).setCell ⟨w.heap.size, 0, none⟩ (.int .u32 (r.id + 1))).setCell ⟨w.heap.size + 2, 0, none⟩ (.int .u32 (r.id + 1))).setCell ⟨w.heap.size + 2, 1, none⟩ (.int .u32 c.nextMan)).setCell ⟨w.heap.size + 2, 2, none⟩ (.slice p4 LR.length c4)).setCell ⟨w.heap.size + 2, 3, none⟩ (.slice p2 c.mans.length c2)).setCell ⟨w.heap.size + 2, 4, none⟩ (.slice p3 c.names.length c3)) := Kept.set5s (((Kept.refl _ _).setCell (p := ⟨w.heap.size, 2, none⟩) (Or.inl (by simp)) (.slice p4 LR.length c4)).setCell (p := ⟨w.heap.size, 0, none⟩) (Or.inl (by simp)) (.int .u32 (r.id + 1))) (Or.inl (by simp)) _ _ _ _ _
    have h5 := (H4.out.keptT kT (fun x hx => by simp at hx; rcases hx with rfl | rfl; exact Or.inr (Or.inl rfl); exact Or.inr (Or.inr rfl))).weaken (T := S0) (fun x hx => Or.inl hx)
    refine bodyPost_ret (v := .tuple #[.agg #[(.int .u32 (r.id + 1)), (.int .u32 c.nextMan), (.slice p4 LR.length c4), (.slice p2 c.mans.length c2), (.slice p3 c.names.length c3)], .int .i64 0]) (ret_row_tmp Tryz.results63 rfl rfl (t := 25) ?_ Tryz.underlying25 rfl (by kernel_rfl)) rfl ?_
    · exact oF
    · exact qoneC_of HMR.out HONE.out (c' := { c with boxes := LR, nextBox := r.id + 1 }) ⟨_, _, _, rfl, h5, HM.out _ kF, HN.out _ kF, HW1.out, HWM.out⟩ (fun _ => by rw [HLI.out (by simp)]) kF
  · have hcf : (LC == 0) = false := by simpa using hc
    have HNC := Lib.hid hc
    clear hc
    go_wp2_with fail
    have hne : w.heap.size + 2 ≠ w.heap.size := by omega
    have oF := Own.put5 (OC4.out.other (p := ⟨w.heap.size, 2, none⟩) hne (.slice p4 LR.length c4)) (.int .u32 c.nextBox) (.int .u32 c.nextMan) (.slice p4 LR.length c4) (.slice p2 c.mans.length c2) (.slice p3 c.names.length c3)
    have kF : Kept [] w ((((((w4.setCell ⟨w.heap.size, 2, none⟩ (.slice p4 LR.length c4)).setCell ⟨w.heap.size + 2, 0, none⟩ (.int .u32 c.nextBox)).setCell ⟨w.heap.size + 2, 1, none⟩ (.int .u32 c.nextMan)).setCell ⟨w.heap.size + 2, 2, none⟩ (.slice p4 LR.length c4)).setCell ⟨w.heap.size + 2, 3, none⟩ (.slice p2 c.mans.length c2)).setCell ⟨w.heap.size + 2, 4, none⟩ (.slice p3 c.names.length c3)) := Kept.set5s (K4.out.setCell (p := ⟨w.heap.size, 2, none⟩) (Or.inr (Nat.le_refl _)) (.slice p4 LR.length c4)) (Or.inr (by omega)) _ _ _ _ _
    have kT : Kept [w.heap.size, w.heap.size + 2] w4 ((((((w4.setCell ⟨w.heap.size, 2, none⟩ (.slice p4 LR.length c4)).setCell ⟨w.heap.size + 2, 0, none⟩ (.int .u32 c.nextBox)).setCell ⟨w.heap.size + 2, 1, none⟩ (.int .u32 c.nextMan)).setCell ⟨w.heap.size + 2, 2, none⟩ (.slice p4 LR.length c4)).setCell ⟨w.heap.size + 2, 3, none⟩ (.slice p2 c.mans.length c2)).setCell ⟨w.heap.size + 2, 4, none⟩ (.slice p3 c.names.length c3)) := Kept.set5s ((Kept.refl _ _).setCell (p := ⟨w.heap.size, 2, none⟩) (Or.inl (by simp)) (.slice p4 LR.length c4)) (Or.inl (by simp)) _ _ _ _ _
    have h5 := (H4.out.keptT kT (fun x hx => by simp at hx; rcases hx with rfl | rfl; exact Or.inr (Or.inl rfl); exact Or.inr (Or.inr rfl))).weaken (T := S0) (fun x hx => Or.inl hx)
    refine bodyPost_ret (v := .tuple #[.agg #[(.int .u32 c.nextBox), (.int .u32 c.nextMan), (.slice p4 LR.length c4), (.slice p2 c.mans.length c2), (.slice p3 c.names.length c3)], .int .i64 LC]) (ret_row_tmp Tryz.results63 rfl rfl (t := 25) ?_ Tryz.underlying25 rfl (by kernel_rfl)) rfl ?_
    · exact oF
    · exact qoneC_of HMR.out HONE.out (c' := { c with boxes := LR }) ⟨_, _, _, rfl, h5, HM.out _ kF, HN.out _ kF, HWB.out, HWM.out⟩ (fun h0 => absurd h0 HNC.out) kF
set_option maxRecDepth 100000 in
set_option maxHeartbeats 4000000 in
theorem qOneC2 {S0 : Nat → Prop} (v : Value) (c : JCat) (r : JRec) (rv : Value) (w : World) (h : CatOff S0 w v c) (hS0 : ∀ x, S0 x → x < w.heap.size) (hmc : mayC c) (hrr : RunsIn w rv r.runs 0 w.heap.size) (hf : r.fits) (hwf : ∀ a ∈ r.runs, WfRun a) (hrl : r.runs.length ≤ 1000000) (hmr : mayR r = true) (hk : r.kind = 2) :
    Calls Tryz.prog 63 #[v, .agg (r.cells rv)] w (QOneSays S0 c r w) := by
  have HMY : Hid (∀ W, Kept [] w W → Calls Tryz.prog 40 #[.agg (r.cells rv)] W (JMay (mayR r) W)) := Lib.hid (fun W q => qmay r rv _ _ W (hrr.kept0 q) hrl hf)
  obtain ⟨vb, vm, vn, rfl, hb, hm, hn, hwb, hwm⟩ := h
  have HB := Lib.hid (fun W (q : Kept [] w W) => hb.kept0 q)
  have HM := Lib.hid (fun W (q : Kept [] w W) => hm.kept0 q)
  have HN := Lib.hid (fun W (q : Kept [] w W) => hn.kept0 q)
  obtain ⟨p1, c1, rfl⟩ := hb.plain.shape
  obtain ⟨p2, c2, rfl⟩ := hm.plain.shape
  obtain ⟨p3, c3, rfl⟩ := hn.plain.shape
  obtain ⟨pr, cr, rfl⟩ := hrr.shape
  unfold JRec.cells JMay at HMY
  unfold JRec.cells
  have HWB := Lib.hid hwb
  have HWM := Lib.hid hwm
  have HMR := Lib.hid hmr
  obtain ⟨oA, oB, oC⟩ := own_threeC w #[.int .u32 c.nextBox, .int .u32 c.nextMan, .slice p1 c.boxes.length c1, .slice p2 c.mans.length c2, .slice p3 c.names.length c3] #[.int .i64 r.kind, .int .u32 r.id, .string (bs r.name), .int .i64 r.size, .slice pr r.runs.length cr] #[.int .u32 0, .int .u32 0, .slice none 0 0, .slice none 0 0, .slice none 0 0] 25 55 25
  have k0 : Kept [] w (((w.alloc (.cells #[.int .u32 c.nextBox, .int .u32 c.nextMan, .slice p1 c.boxes.length c1, .slice p2 c.mans.length c2, .slice p3 c.names.length c3] 25)).alloc (.cells #[.int .i64 r.kind, .int .u32 r.id, .string (bs r.name), .int .i64 r.size, .slice pr r.runs.length cr] 55)).alloc (.cells #[.int .u32 0, .int .u32 0, .slice none 0 0, .slice none 0 0, .slice none 0 0] 25)) := (((Kept.refl _ _).alloc _).alloc _).alloc _
  have hid := may_id hmr
  have hid0 : 0 ≤ r.id := (bd32 hf.2.1).1
  have hnb1 := (bd32 hwb)
  have hnm1 := (bd32 hwm)
  have HID : Hid (0 ≤ r.id ∧ r.id ≤ 4294967294) := Lib.hid ⟨hid0, hid⟩
  have HW1 : Hid ((Lit.int .u32 (r.id + 1)).wf = true) := Lib.hid (wf32 (by omega) (by omega))
  have HWR : Hid (IntKind.u32.wrap (r.id + 1) = r.id + 1) := Lib.hid (wrap32_of (by omega) (by omega))
  obtain ⟨LL, hLL⟩ : ∃ L, comesX c.mans r.item c.nextMan 2048 true = L := ⟨_, rfl⟩
  obtain ⟨LI, LC⟩ := LL
  have HONE : Hid (oneX c r = ({ c with mans := LI, nextMan := max c.nextMan (r.id + 1) }, LC)) := Lib.hid (by
    unfold oneX
    rw [if_neg (show ¬ r.kind = 1 by rw [hk]; decide), if_pos hk, hLL])
  have HLR : Hid (∃ LR, (if LC = 0 then LI else c.mans) = LR ∧ (LC = 0 → LI = LR)) := Lib.hid ⟨_, rfl, fun h => by rw [if_pos h]⟩
  obtain ⟨LR, hLR, hLI⟩ := HLR.out
  have HLI := Lib.hid hLI
  have HC : Hid (∀ W, Kept [] w W → w.heap.size + 3 ≤ W.heap.size → Calls Tryz.prog 102 #[.slice p2 c.mans.length c2, .agg #[.int .i64 r.kind, .int .u32 r.id, .string (bs r.name), .int .i64 r.size, .slice pr r.runs.length cr], .int .u32 c.nextMan, .int .i64 2048] W fun e w' => ∃ v, e = .returned (.tuple #[v, .int .i64 LC]) ∧ ItemsOff (fun x => S0 x ∨ (x = w.heap.size ∨ x = w.heap.size + 2)) w' v LR ∧ Kept [] W w') := Lib.hid (fun W q hsz => by
    have hSW : ∀ x, (S0 x ∨ (x = w.heap.size ∨ x = w.heap.size + 2)) → x < W.heap.size := fun x hx => by
      rcases hx with hx | hx
      · have := hS0 x hx; omega
      · omega
    have hh := qcomes _ _ r _ c.nextMan 2048 W ((hm.more (fun x hx => by omega)).kept0 q) hSW (by have := hmc.mans.1; omega) hmc.mans.2.2 (hrr.kept0 q).upto hf hwf hrl (by decide) (by omega) (fun h3 => by first | rfl | omega)
    rw [show decide (r.kind = 2) = true by rw [hk]; rfl, hLL] at hh
    unfold JRec.cells QComesSays at hh
    simp only at hh
    rw [hLR] at hh
    exact hh)
  rw [hk] at HMY HC oA oB oC k0 ⊢
  clear hid hid0 hnb1 hnm1 hLL hLR hLI HLR hS0
  have OA := Lib.hid oA
  have OB := Lib.hid oB
  have OC := Lib.hid oC
  have K0 := Lib.hid k0
  rw [HMR.out] at HMY
  clear oA oB oC k0 hb hm hn hrr hf hwf hmr hmc hwb hwm hrl hk
  go_enter Tryz.func63, Tryz.ntmps63
  go_wp2_with fail
  refine (HMY.out _ K0.out).mono ?_; rintro e w3 ⟨rfl, k3⟩
  have K3 := Lib.hid (K0.out.trans k3)
  have OA3 := Lib.hid (k3.own OA.out (by simp))
  have OB3 := Lib.hid (k3.own OB.out (by simp))
  have OC3 := Lib.hid (k3.own OC.out (by simp))
  have HSZ3 : Hid (w.heap.size + 3 ≤ w3.heap.size) := Lib.hid (by have := k3.size; simp at this; omega)
  obtain ⟨x0, x1, x2, x3, x4⟩ := OA3.out.k5
  obtain ⟨y0, y1, y2, y3, y4⟩ := OB3.out.k5
  go_wp2_with fail
  refine (HC.out _ K3.out HSZ3.out).mono ?_; rintro e w4 ⟨v4, rfl, h4, k4⟩
  have H4 := Lib.hid h4
  have K4 := Lib.hid (K3.out.trans k4)
  obtain ⟨p4, c4, rfl⟩ := h4.plain.shape
  have OA4 := Lib.hid (k4.own OA3.out (by simp))
  have OB4 := Lib.hid (k4.own OB3.out (by simp))
  have OC4 := Lib.hid (k4.own OC3.out (by simp))
  obtain ⟨x0, x1, x2, x3, x4⟩ := OA4.out.k5
  obtain ⟨y0, y1, y2, y3, y4⟩ := OB4.out.k5
  obtain ⟨z0, z1, z2, z3, z4⟩ := OC4.out.k5
  obtain ⟨f0, f1, f2, f3, f4⟩ := OA4.out.y5
  obtain ⟨g0, g1, g2, g3, g4⟩ := OC4.out.y5
  clear h4 k4
  by_cases hc : LC = 0
  · subst hc
    by_cases hg : c.nextMan ≤ r.id
    · have d1 : decide (r.id ≥ c.nextMan) = true := decide_eq_true hg
      have d1' : decide (c.nextMan ≤ r.id) = true := decide_eq_true hg
      have HMX : Hid (max c.nextMan (r.id + 1) = r.id + 1) := Lib.hid (by omega)
      have hw1 := HWR.out
      clear hg
      go_wp2_with fail
      have hne : w.heap.size + 2 ≠ w.heap.size := by omega
      have oF := Own.put5 ((OC4.out.other (p := ⟨w.heap.size, 3, none⟩) hne (.slice p4 LR.length c4)).other (p := ⟨w.heap.size, 1, none⟩) hne (.int .u32 (r.id + 1))) (.int .u32 c.nextBox) (.int .u32 (r.id + 1)) (.slice p1 c.boxes.length c1) (.slice p4 LR.length c4) (.slice p3 c.names.length c3)
      have kF : Kept [] w (((((((w4.setCell ⟨w.heap.size, 3, none⟩ (.slice p4 LR.length c4)).setCell ⟨w.heap.size, 1, none⟩ (.int .u32 (r.id + 1))).setCell ⟨w.heap.size + 2, 0, none⟩ (.int .u32 c.nextBox)).setCell ⟨w.heap.size + 2, 1, none⟩ (.int .u32 (r.id + 1))).setCell ⟨w.heap.size + 2, 2, none⟩ (.slice p1 c.boxes.length c1)).setCell ⟨w.heap.size + 2, 3, none⟩ (.slice p4 LR.length c4)).setCell ⟨w.heap.size + 2, 4, none⟩ (.slice p3 c.names.length c3)) := Kept.set5s ((K4.out.setCell (p := ⟨w.heap.size, 3, none⟩) (Or.inr (Nat.le_refl _)) (.slice p4 LR.length c4)).setCell (p := ⟨w.heap.size, 1, none⟩) (Or.inr (Nat.le_refl _)) (.int .u32 (r.id + 1))) (Or.inr (by omega)) _ _ _ _ _
      have kT : Kept [w.heap.size, w.heap.size + 2] w4 (((((((w4.setCell ⟨w.heap.size, 3, none⟩ (.slice p4 LR.length c4)).setCell ⟨w.heap.size, 1, none⟩ (.int .u32 (r.id + 1))).setCell ⟨w.heap.size + 2, 0, none⟩ (.int .u32 c.nextBox)).setCell ⟨w.heap.size + 2, 1, none⟩ (.int .u32 (r.id + 1))).setCell ⟨w.heap.size + 2, 2, none⟩ (.slice p1 c.boxes.length c1)).setCell ⟨w.heap.size + 2, 3, none⟩ (.slice p4 LR.length c4)).setCell ⟨w.heap.size + 2, 4, none⟩ (.slice p3 c.names.length c3)) := Kept.set5s (((Kept.refl _ _).setCell (p := ⟨w.heap.size, 3, none⟩) (Or.inl (by simp)) (.slice p4 LR.length c4)).setCell (p := ⟨w.heap.size, 1, none⟩) (Or.inl (by simp)) (.int .u32 (r.id + 1))) (Or.inl (by simp)) _ _ _ _ _
      have h5 := (H4.out.keptT kT (fun x hx => by simp at hx; rcases hx with rfl | rfl; exact Or.inr (Or.inl rfl); exact Or.inr (Or.inr rfl))).weaken (T := S0) (fun x hx => Or.inl hx)
      refine bodyPost_ret (v := .tuple #[.agg #[(.int .u32 c.nextBox), (.int .u32 (r.id + 1)), (.slice p1 c.boxes.length c1), (.slice p4 LR.length c4), (.slice p3 c.names.length c3)], .int .i64 0]) (ret_row_tmp Tryz.results63 rfl rfl (t := 25) ?_ Tryz.underlying25 rfl (by kernel_rfl)) rfl ?_
      · exact oF
      · exact qoneC_of HMR.out HONE.out (c' := { c with mans := LR, nextMan := r.id + 1 }) ⟨_, _, _, rfl, HB.out _ kF, h5, HN.out _ kF, HWB.out, HW1.out⟩ (fun _ => by rw [HLI.out (by simp), HMX.out]) kF
    · have d1 : decide (r.id ≥ c.nextMan) = false := decide_eq_false hg
      have d1' : decide (c.nextMan ≤ r.id) = false := decide_eq_false hg
      have HMX : Hid (max c.nextMan (r.id + 1) = c.nextMan) := Lib.hid (by omega)
      clear hg
      go_wp2_with fail
      have hne : w.heap.size + 2 ≠ w.heap.size := by omega
      have oF := Own.put5 (OC4.out.other (p := ⟨w.heap.size, 3, none⟩) hne (.slice p4 LR.length c4)) (.int .u32 c.nextBox) (.int .u32 c.nextMan) (.slice p1 c.boxes.length c1) (.slice p4 LR.length c4) (.slice p3 c.names.length c3)
      have kF : Kept [] w ((((((w4.setCell ⟨w.heap.size, 3, none⟩ (.slice p4 LR.length c4)).setCell ⟨w.heap.size + 2, 0, none⟩ (.int .u32 c.nextBox)).setCell ⟨w.heap.size + 2, 1, none⟩ (.int .u32 c.nextMan)).setCell ⟨w.heap.size + 2, 2, none⟩ (.slice p1 c.boxes.length c1)).setCell ⟨w.heap.size + 2, 3, none⟩ (.slice p4 LR.length c4)).setCell ⟨w.heap.size + 2, 4, none⟩ (.slice p3 c.names.length c3)) := Kept.set5s (K4.out.setCell (p := ⟨w.heap.size, 3, none⟩) (Or.inr (Nat.le_refl _)) (.slice p4 LR.length c4)) (Or.inr (by omega)) _ _ _ _ _
      have kT : Kept [w.heap.size, w.heap.size + 2] w4 ((((((w4.setCell ⟨w.heap.size, 3, none⟩ (.slice p4 LR.length c4)).setCell ⟨w.heap.size + 2, 0, none⟩ (.int .u32 c.nextBox)).setCell ⟨w.heap.size + 2, 1, none⟩ (.int .u32 c.nextMan)).setCell ⟨w.heap.size + 2, 2, none⟩ (.slice p1 c.boxes.length c1)).setCell ⟨w.heap.size + 2, 3, none⟩ (.slice p4 LR.length c4)).setCell ⟨w.heap.size + 2, 4, none⟩ (.slice p3 c.names.length c3)) := Kept.set5s ((Kept.refl _ _).setCell (p := ⟨w.heap.size, 3, none⟩) (Or.inl (by simp)) (.slice p4 LR.length c4)) (Or.inl (by simp)) _ _ _ _ _
      have h5 := (H4.out.keptT kT (fun x hx => by simp at hx; rcases hx with rfl | rfl; exact Or.inr (Or.inl rfl); exact Or.inr (Or.inr rfl))).weaken (T := S0) (fun x hx => Or.inl hx)
      refine bodyPost_ret (v := .tuple #[.agg #[(.int .u32 c.nextBox), (.int .u32 c.nextMan), (.slice p1 c.boxes.length c1), (.slice p4 LR.length c4), (.slice p3 c.names.length c3)], .int .i64 0]) (ret_row_tmp Tryz.results63 rfl rfl (t := 25) ?_ Tryz.underlying25 rfl (by kernel_rfl)) rfl ?_
      · exact oF
      · exact qoneC_of HMR.out HONE.out (c' := { c with mans := LR }) ⟨_, _, _, rfl, HB.out _ kF, h5, HN.out _ kF, HWB.out, HWM.out⟩ (fun _ => by rw [HLI.out (by simp), HMX.out]) kF
  · have hcf : (LC == 0) = false := by simpa using hc
    have HNC := Lib.hid hc
    clear hc
    go_wp2_with fail
    have hne : w.heap.size + 2 ≠ w.heap.size := by omega
    have oF := Own.put5 (OC4.out.other (p := ⟨w.heap.size, 3, none⟩) hne (.slice p4 LR.length c4)) (.int .u32 c.nextBox) (.int .u32 c.nextMan) (.slice p1 c.boxes.length c1) (.slice p4 LR.length c4) (.slice p3 c.names.length c3)
    have kF : Kept [] w ((((((w4.setCell ⟨w.heap.size, 3, none⟩ (.slice p4 LR.length c4)).setCell ⟨w.heap.size + 2, 0, none⟩ (.int .u32 c.nextBox)).setCell ⟨w.heap.size + 2, 1, none⟩ (.int .u32 c.nextMan)).setCell ⟨w.heap.size + 2, 2, none⟩ (.slice p1 c.boxes.length c1)).setCell ⟨w.heap.size + 2, 3, none⟩ (.slice p4 LR.length c4)).setCell ⟨w.heap.size + 2, 4, none⟩ (.slice p3 c.names.length c3)) := Kept.set5s (K4.out.setCell (p := ⟨w.heap.size, 3, none⟩) (Or.inr (Nat.le_refl _)) (.slice p4 LR.length c4)) (Or.inr (by omega)) _ _ _ _ _
    have kT : Kept [w.heap.size, w.heap.size + 2] w4 ((((((w4.setCell ⟨w.heap.size, 3, none⟩ (.slice p4 LR.length c4)).setCell ⟨w.heap.size + 2, 0, none⟩ (.int .u32 c.nextBox)).setCell ⟨w.heap.size + 2, 1, none⟩ (.int .u32 c.nextMan)).setCell ⟨w.heap.size + 2, 2, none⟩ (.slice p1 c.boxes.length c1)).setCell ⟨w.heap.size + 2, 3, none⟩ (.slice p4 LR.length c4)).setCell ⟨w.heap.size + 2, 4, none⟩ (.slice p3 c.names.length c3)) := Kept.set5s ((Kept.refl _ _).setCell (p := ⟨w.heap.size, 3, none⟩) (Or.inl (by simp)) (.slice p4 LR.length c4)) (Or.inl (by simp)) _ _ _ _ _
    have h5 := (H4.out.keptT kT (fun x hx => by simp at hx; rcases hx with rfl | rfl; exact Or.inr (Or.inl rfl); exact Or.inr (Or.inr rfl))).weaken (T := S0) (fun x hx => Or.inl hx)
    refine bodyPost_ret (v := .tuple #[.agg #[(.int .u32 c.nextBox), (.int .u32 c.nextMan), (.slice p1 c.boxes.length c1), (.slice p4 LR.length c4), (.slice p3 c.names.length c3)], .int .i64 LC]) (ret_row_tmp Tryz.results63 rfl rfl (t := 25) ?_ Tryz.underlying25 rfl (by kernel_rfl)) rfl ?_
    · exact oF
    · exact qoneC_of HMR.out HONE.out (c' := { c with mans := LR }) ⟨_, _, _, rfl, HB.out _ kF, h5, HN.out _ kF, HWB.out, HWM.out⟩ (fun h0 => absurd h0 HNC.out) kF
set_option maxRecDepth 100000 in
set_option maxHeartbeats 4000000 in
theorem qOneC3 {S0 : Nat → Prop} (v : Value) (c : JCat) (r : JRec) (rv : Value) (w : World) (h : CatOff S0 w v c) (hS0 : ∀ x, S0 x → x < w.heap.size) (hmc : mayC c) (hrr : RunsIn w rv r.runs 0 w.heap.size) (hf : r.fits) (hwf : ∀ a ∈ r.runs, WfRun a) (hrl : r.runs.length ≤ 1000000) (hmr : mayR r = true) (hk : r.kind = 3) :
    Calls Tryz.prog 63 #[v, .agg (r.cells rv)] w (QOneSays S0 c r w) := by
  have HMY : Hid (∀ W, Kept [] w W → Calls Tryz.prog 40 #[.agg (r.cells rv)] W (JMay (mayR r) W)) := Lib.hid (fun W q => qmay r rv _ _ W (hrr.kept0 q) hrl hf)
  obtain ⟨vb, vm, vn, rfl, hb, hm, hn, hwb, hwm⟩ := h
  have HB := Lib.hid (fun W (q : Kept [] w W) => hb.kept0 q)
  have HM := Lib.hid (fun W (q : Kept [] w W) => hm.kept0 q)
  have HN := Lib.hid (fun W (q : Kept [] w W) => hn.kept0 q)
  obtain ⟨p1, c1, rfl⟩ := hb.plain.shape
  obtain ⟨p2, c2, rfl⟩ := hm.plain.shape
  obtain ⟨p3, c3, rfl⟩ := hn.plain.shape
  obtain ⟨pr, cr, rfl⟩ := hrr.shape
  unfold JRec.cells JMay at HMY
  unfold JRec.cells
  have HWB := Lib.hid hwb
  have HWM := Lib.hid hwm
  have HMR := Lib.hid hmr
  obtain ⟨oA, oB, oC⟩ := own_threeC w #[.int .u32 c.nextBox, .int .u32 c.nextMan, .slice p1 c.boxes.length c1, .slice p2 c.mans.length c2, .slice p3 c.names.length c3] #[.int .i64 r.kind, .int .u32 r.id, .string (bs r.name), .int .i64 r.size, .slice pr r.runs.length cr] #[.int .u32 0, .int .u32 0, .slice none 0 0, .slice none 0 0, .slice none 0 0] 25 55 25
  have k0 : Kept [] w (((w.alloc (.cells #[.int .u32 c.nextBox, .int .u32 c.nextMan, .slice p1 c.boxes.length c1, .slice p2 c.mans.length c2, .slice p3 c.names.length c3] 25)).alloc (.cells #[.int .i64 r.kind, .int .u32 r.id, .string (bs r.name), .int .i64 r.size, .slice pr r.runs.length cr] 55)).alloc (.cells #[.int .u32 0, .int .u32 0, .slice none 0 0, .slice none 0 0, .slice none 0 0] 25)) := (((Kept.refl _ _).alloc _).alloc _).alloc _
  have hid := may_id hmr
  have hid0 : 0 ≤ r.id := (bd32 hf.2.1).1
  have hnb1 := (bd32 hwb)
  have hnm1 := (bd32 hwm)
  have HID : Hid (0 ≤ r.id ∧ r.id ≤ 4294967294) := Lib.hid ⟨hid0, hid⟩
  have HW1 : Hid ((Lit.int .u32 (r.id + 1)).wf = true) := Lib.hid (wf32 (by omega) (by omega))
  have HWR : Hid (IntKind.u32.wrap (r.id + 1) = r.id + 1) := Lib.hid (wrap32_of (by omega) (by omega))
  obtain ⟨LL, hLL⟩ : ∃ L, comesX c.names r.item 0 256 false = L := ⟨_, rfl⟩
  obtain ⟨LI, LC⟩ := LL
  have HONE : Hid (oneX c r = ({ c with names := LI }, LC)) := Lib.hid (by
    unfold oneX
    rw [if_neg (show ¬ r.kind = 1 by rw [hk]; decide), if_neg (show ¬ r.kind = 2 by rw [hk]; decide), if_pos hk, hLL])
  have HLR : Hid (∃ LR, (if LC = 0 then LI else c.names) = LR ∧ (LC = 0 → LI = LR)) := Lib.hid ⟨_, rfl, fun h => by rw [if_pos h]⟩
  obtain ⟨LR, hLR, hLI⟩ := HLR.out
  have HLI := Lib.hid hLI
  have HC : Hid (∀ W, Kept [] w W → w.heap.size + 3 ≤ W.heap.size → Calls Tryz.prog 102 #[.slice p3 c.names.length c3, .agg #[.int .i64 r.kind, .int .u32 r.id, .string (bs r.name), .int .i64 r.size, .slice pr r.runs.length cr], .int .u32 0, .int .i64 256] W fun e w' => ∃ v, e = .returned (.tuple #[v, .int .i64 LC]) ∧ ItemsOff (fun x => S0 x ∨ (x = w.heap.size ∨ x = w.heap.size + 2)) w' v LR ∧ Kept [] W w') := Lib.hid (fun W q hsz => by
    have hSW : ∀ x, (S0 x ∨ (x = w.heap.size ∨ x = w.heap.size + 2)) → x < W.heap.size := fun x hx => by
      rcases hx with hx | hx
      · have := hS0 x hx; omega
      · omega
    have hh := qcomes _ _ r _ 0 256 W ((hn.more (fun x hx => by omega)).kept0 q) hSW (by have := hmc.names.1; omega) hmc.names.2.2 (hrr.kept0 q).upto hf hwf hrl (by decide) (by omega) (fun h3 => by first | rfl | omega)
    rw [show decide (r.kind = 2) = false by rw [hk]; rfl, hLL] at hh
    unfold JRec.cells QComesSays at hh
    simp only at hh
    rw [hLR] at hh
    exact hh)
  rw [hk] at HMY HC oA oB oC k0 ⊢
  clear hid hid0 hnb1 hnm1 hLL hLR hLI HLR hS0
  have OA := Lib.hid oA
  have OB := Lib.hid oB
  have OC := Lib.hid oC
  have K0 := Lib.hid k0
  rw [HMR.out] at HMY
  clear oA oB oC k0 hb hm hn hrr hf hwf hmr hmc hwb hwm hrl hk
  go_enter Tryz.func63, Tryz.ntmps63
  go_wp2_with fail
  refine (HMY.out _ K0.out).mono ?_; rintro e w3 ⟨rfl, k3⟩
  have K3 := Lib.hid (K0.out.trans k3)
  have OA3 := Lib.hid (k3.own OA.out (by simp))
  have OB3 := Lib.hid (k3.own OB.out (by simp))
  have OC3 := Lib.hid (k3.own OC.out (by simp))
  have HSZ3 : Hid (w.heap.size + 3 ≤ w3.heap.size) := Lib.hid (by have := k3.size; simp at this; omega)
  obtain ⟨x0, x1, x2, x3, x4⟩ := OA3.out.k5
  obtain ⟨y0, y1, y2, y3, y4⟩ := OB3.out.k5
  go_wp2_with fail
  refine (HC.out _ K3.out HSZ3.out).mono ?_; rintro e w4 ⟨v4, rfl, h4, k4⟩
  have H4 := Lib.hid h4
  have K4 := Lib.hid (K3.out.trans k4)
  obtain ⟨p4, c4, rfl⟩ := h4.plain.shape
  have OA4 := Lib.hid (k4.own OA3.out (by simp))
  have OB4 := Lib.hid (k4.own OB3.out (by simp))
  have OC4 := Lib.hid (k4.own OC3.out (by simp))
  obtain ⟨x0, x1, x2, x3, x4⟩ := OA4.out.k5
  obtain ⟨y0, y1, y2, y3, y4⟩ := OB4.out.k5
  obtain ⟨z0, z1, z2, z3, z4⟩ := OC4.out.k5
  obtain ⟨f0, f1, f2, f3, f4⟩ := OA4.out.y5
  obtain ⟨g0, g1, g2, g3, g4⟩ := OC4.out.y5
  clear h4 k4
  go_wp2_with fail
  have hne : w.heap.size + 2 ≠ w.heap.size := by omega
  have oF := Own.put5 (OC4.out.other (p := ⟨w.heap.size, 4, none⟩) hne (.slice p4 LR.length c4)) (.int .u32 c.nextBox) (.int .u32 c.nextMan) (.slice p1 c.boxes.length c1) (.slice p2 c.mans.length c2) (.slice p4 LR.length c4)
  have kF : Kept [] w ((((((w4.setCell ⟨w.heap.size, 4, none⟩ (.slice p4 LR.length c4)).setCell ⟨w.heap.size + 2, 0, none⟩ (.int .u32 c.nextBox)).setCell ⟨w.heap.size + 2, 1, none⟩ (.int .u32 c.nextMan)).setCell ⟨w.heap.size + 2, 2, none⟩ (.slice p1 c.boxes.length c1)).setCell ⟨w.heap.size + 2, 3, none⟩ (.slice p2 c.mans.length c2)).setCell ⟨w.heap.size + 2, 4, none⟩ (.slice p4 LR.length c4)) := Kept.set5s (K4.out.setCell (p := ⟨w.heap.size, 4, none⟩) (Or.inr (Nat.le_refl _)) (.slice p4 LR.length c4)) (Or.inr (by omega)) _ _ _ _ _
  have kT : Kept [w.heap.size, w.heap.size + 2] w4 ((((((w4.setCell ⟨w.heap.size, 4, none⟩ (.slice p4 LR.length c4)).setCell ⟨w.heap.size + 2, 0, none⟩ (.int .u32 c.nextBox)).setCell ⟨w.heap.size + 2, 1, none⟩ (.int .u32 c.nextMan)).setCell ⟨w.heap.size + 2, 2, none⟩ (.slice p1 c.boxes.length c1)).setCell ⟨w.heap.size + 2, 3, none⟩ (.slice p2 c.mans.length c2)).setCell ⟨w.heap.size + 2, 4, none⟩ (.slice p4 LR.length c4)) := Kept.set5s ((Kept.refl _ _).setCell (p := ⟨w.heap.size, 4, none⟩) (Or.inl (by simp)) (.slice p4 LR.length c4)) (Or.inl (by simp)) _ _ _ _ _
  have h5 := (H4.out.keptT kT (fun x hx => by simp at hx; rcases hx with rfl | rfl; exact Or.inr (Or.inl rfl); exact Or.inr (Or.inr rfl))).weaken (T := S0) (fun x hx => Or.inl hx)
  refine bodyPost_ret (v := .tuple #[.agg #[(.int .u32 c.nextBox), (.int .u32 c.nextMan), (.slice p1 c.boxes.length c1), (.slice p2 c.mans.length c2), (.slice p4 LR.length c4)], .int .i64 LC]) (ret_row_tmp Tryz.results63 rfl rfl (t := 25) ?_ Tryz.underlying25 rfl (by kernel_rfl)) rfl ?_
  · exact oF
  · exact qoneC_of HMR.out HONE.out (c' := { c with names := LR }) ⟨_, _, _, rfl, HB.out _ kF, HM.out _ kF, h5, HWB.out, HWM.out⟩ (fun h0 => by rw [HLI.out h0]) kF
set_option maxRecDepth 100000 in
set_option maxHeartbeats 4000000 in
theorem qOneC4 {S0 : Nat → Prop} (v : Value) (c : JCat) (r : JRec) (rv : Value) (w : World) (h : CatOff S0 w v c) (hS0 : ∀ x, S0 x → x < w.heap.size) (hmc : mayC c) (hrr : RunsIn w rv r.runs 0 w.heap.size) (hf : r.fits) (hwf : ∀ a ∈ r.runs, WfRun a) (hrl : r.runs.length ≤ 1000000) (hmr : mayR r = true) (hk : r.kind = 4) :
    Calls Tryz.prog 63 #[v, .agg (r.cells rv)] w (QOneSays S0 c r w) := by
  have HMY : Hid (∀ W, Kept [] w W → Calls Tryz.prog 40 #[.agg (r.cells rv)] W (JMay (mayR r) W)) := Lib.hid (fun W q => qmay r rv _ _ W (hrr.kept0 q) hrl hf)
  obtain ⟨vb, vm, vn, rfl, hb, hm, hn, hwb, hwm⟩ := h
  have HB := Lib.hid (fun W (q : Kept [] w W) => hb.kept0 q)
  have HM := Lib.hid (fun W (q : Kept [] w W) => hm.kept0 q)
  have HN := Lib.hid (fun W (q : Kept [] w W) => hn.kept0 q)
  obtain ⟨p1, c1, rfl⟩ := hb.plain.shape
  obtain ⟨p2, c2, rfl⟩ := hm.plain.shape
  obtain ⟨p3, c3, rfl⟩ := hn.plain.shape
  obtain ⟨pr, cr, rfl⟩ := hrr.shape
  unfold JRec.cells JMay at HMY
  unfold JRec.cells
  have HWB := Lib.hid hwb
  have HWM := Lib.hid hwm
  have HMR := Lib.hid hmr
  obtain ⟨oA, oB, oC⟩ := own_threeC w #[.int .u32 c.nextBox, .int .u32 c.nextMan, .slice p1 c.boxes.length c1, .slice p2 c.mans.length c2, .slice p3 c.names.length c3] #[.int .i64 r.kind, .int .u32 r.id, .string (bs r.name), .int .i64 r.size, .slice pr r.runs.length cr] #[.int .u32 0, .int .u32 0, .slice none 0 0, .slice none 0 0, .slice none 0 0] 25 55 25
  have k0 : Kept [] w (((w.alloc (.cells #[.int .u32 c.nextBox, .int .u32 c.nextMan, .slice p1 c.boxes.length c1, .slice p2 c.mans.length c2, .slice p3 c.names.length c3] 25)).alloc (.cells #[.int .i64 r.kind, .int .u32 r.id, .string (bs r.name), .int .i64 r.size, .slice pr r.runs.length cr] 55)).alloc (.cells #[.int .u32 0, .int .u32 0, .slice none 0 0, .slice none 0 0, .slice none 0 0] 25)) := (((Kept.refl _ _).alloc _).alloc _).alloc _
  have hid := may_id hmr
  have hid0 : 0 ≤ r.id := (bd32 hf.2.1).1
  have hnb1 := (bd32 hwb)
  have hnm1 := (bd32 hwm)
  have HID : Hid (0 ≤ r.id ∧ r.id ≤ 4294967294) := Lib.hid ⟨hid0, hid⟩
  have HW1 : Hid ((Lit.int .u32 (r.id + 1)).wf = true) := Lib.hid (wf32 (by omega) (by omega))
  have HWR : Hid (IntKind.u32.wrap (r.id + 1) = r.id + 1) := Lib.hid (wrap32_of (by omega) (by omega))
  obtain ⟨LL, hLL⟩ : ∃ L, goesX c.boxes r.item = L := ⟨_, rfl⟩
  obtain ⟨LI, LC⟩ := LL
  have HONE : Hid (oneX c r = ({ c with boxes := LI }, LC)) := Lib.hid (by
    unfold oneX
    rw [if_neg (show ¬ r.kind = 1 by rw [hk]; decide), if_neg (show ¬ r.kind = 2 by rw [hk]; decide), if_neg (show ¬ r.kind = 3 by rw [hk]; decide), if_pos hk, hLL])
  have HLR : Hid (∃ LR, (if LC = 0 then LI else c.boxes) = LR ∧ (LC = 0 → LI = LR)) := Lib.hid ⟨_, rfl, fun h => by rw [if_pos h]⟩
  obtain ⟨LR, hLR, hLI⟩ := HLR.out
  have HLI := Lib.hid hLI
  have HC : Hid (∀ W, Kept [] w W → w.heap.size + 3 ≤ W.heap.size → Calls Tryz.prog 103 #[.slice p1 c.boxes.length c1, .agg #[.int .i64 r.kind, .int .u32 r.id, .string (bs r.name), .int .i64 r.size, .slice pr r.runs.length cr]] W fun e w' => ∃ v, e = .returned (.tuple #[v, .int .i64 LC]) ∧ ItemsOff (fun x => S0 x ∨ (x = w.heap.size ∨ x = w.heap.size + 2)) w' v LR ∧ Kept [] W w') := Lib.hid (fun W q hsz => by
    have hSW : ∀ x, (S0 x ∨ (x = w.heap.size ∨ x = w.heap.size + 2)) → x < W.heap.size := fun x hx => by
      rcases hx with hx | hx
      · have := hS0 x hx; omega
      · omega
    have hh := qgoes _ _ r (.slice pr r.runs.length cr) W ((hb.more (fun x hx => by omega)).kept0 q) hSW (by have := hmc.boxes.1; omega) ⟨_, _, _, rfl⟩
    unfold JRec.cells QGoesSays at hh
    rw [hLL] at hh
    simp only at hh
    rw [hLR] at hh
    exact hh)
  rw [hk] at HMY HC oA oB oC k0 ⊢
  clear hid hid0 hnb1 hnm1 hLL hLR hLI HLR hS0
  have OA := Lib.hid oA
  have OB := Lib.hid oB
  have OC := Lib.hid oC
  have K0 := Lib.hid k0
  rw [HMR.out] at HMY
  clear oA oB oC k0 hb hm hn hrr hf hwf hmr hmc hwb hwm hrl hk
  go_enter Tryz.func63, Tryz.ntmps63
  go_wp2_with fail
  refine (HMY.out _ K0.out).mono ?_; rintro e w3 ⟨rfl, k3⟩
  have K3 := Lib.hid (K0.out.trans k3)
  have OA3 := Lib.hid (k3.own OA.out (by simp))
  have OB3 := Lib.hid (k3.own OB.out (by simp))
  have OC3 := Lib.hid (k3.own OC.out (by simp))
  have HSZ3 : Hid (w.heap.size + 3 ≤ w3.heap.size) := Lib.hid (by have := k3.size; simp at this; omega)
  obtain ⟨x0, x1, x2, x3, x4⟩ := OA3.out.k5
  obtain ⟨y0, y1, y2, y3, y4⟩ := OB3.out.k5
  go_wp2_with fail
  refine (HC.out _ K3.out HSZ3.out).mono ?_; rintro e w4 ⟨v4, rfl, h4, k4⟩
  have H4 := Lib.hid h4
  have K4 := Lib.hid (K3.out.trans k4)
  obtain ⟨p4, c4, rfl⟩ := h4.plain.shape
  have OA4 := Lib.hid (k4.own OA3.out (by simp))
  have OB4 := Lib.hid (k4.own OB3.out (by simp))
  have OC4 := Lib.hid (k4.own OC3.out (by simp))
  obtain ⟨x0, x1, x2, x3, x4⟩ := OA4.out.k5
  obtain ⟨y0, y1, y2, y3, y4⟩ := OB4.out.k5
  obtain ⟨z0, z1, z2, z3, z4⟩ := OC4.out.k5
  obtain ⟨f0, f1, f2, f3, f4⟩ := OA4.out.y5
  obtain ⟨g0, g1, g2, g3, g4⟩ := OC4.out.y5
  clear h4 k4
  go_wp2_with fail
  have hne : w.heap.size + 2 ≠ w.heap.size := by omega
  have oF := Own.put5 (OC4.out.other (p := ⟨w.heap.size, 2, none⟩) hne (.slice p4 LR.length c4)) (.int .u32 c.nextBox) (.int .u32 c.nextMan) (.slice p4 LR.length c4) (.slice p2 c.mans.length c2) (.slice p3 c.names.length c3)
  have kF : Kept [] w ((((((w4.setCell ⟨w.heap.size, 2, none⟩ (.slice p4 LR.length c4)).setCell ⟨w.heap.size + 2, 0, none⟩ (.int .u32 c.nextBox)).setCell ⟨w.heap.size + 2, 1, none⟩ (.int .u32 c.nextMan)).setCell ⟨w.heap.size + 2, 2, none⟩ (.slice p4 LR.length c4)).setCell ⟨w.heap.size + 2, 3, none⟩ (.slice p2 c.mans.length c2)).setCell ⟨w.heap.size + 2, 4, none⟩ (.slice p3 c.names.length c3)) := Kept.set5s (K4.out.setCell (p := ⟨w.heap.size, 2, none⟩) (Or.inr (Nat.le_refl _)) (.slice p4 LR.length c4)) (Or.inr (by omega)) _ _ _ _ _
  have kT : Kept [w.heap.size, w.heap.size + 2] w4 ((((((w4.setCell ⟨w.heap.size, 2, none⟩ (.slice p4 LR.length c4)).setCell ⟨w.heap.size + 2, 0, none⟩ (.int .u32 c.nextBox)).setCell ⟨w.heap.size + 2, 1, none⟩ (.int .u32 c.nextMan)).setCell ⟨w.heap.size + 2, 2, none⟩ (.slice p4 LR.length c4)).setCell ⟨w.heap.size + 2, 3, none⟩ (.slice p2 c.mans.length c2)).setCell ⟨w.heap.size + 2, 4, none⟩ (.slice p3 c.names.length c3)) := Kept.set5s ((Kept.refl _ _).setCell (p := ⟨w.heap.size, 2, none⟩) (Or.inl (by simp)) (.slice p4 LR.length c4)) (Or.inl (by simp)) _ _ _ _ _
  have h5 := (H4.out.keptT kT (fun x hx => by simp at hx; rcases hx with rfl | rfl; exact Or.inr (Or.inl rfl); exact Or.inr (Or.inr rfl))).weaken (T := S0) (fun x hx => Or.inl hx)
  refine bodyPost_ret (v := .tuple #[.agg #[(.int .u32 c.nextBox), (.int .u32 c.nextMan), (.slice p4 LR.length c4), (.slice p2 c.mans.length c2), (.slice p3 c.names.length c3)], .int .i64 LC]) (ret_row_tmp Tryz.results63 rfl rfl (t := 25) ?_ Tryz.underlying25 rfl (by kernel_rfl)) rfl ?_
  · exact oF
  · exact qoneC_of HMR.out HONE.out (c' := { c with boxes := LR }) ⟨_, _, _, rfl, h5, HM.out _ kF, HN.out _ kF, HWB.out, HWM.out⟩ (fun h0 => by rw [HLI.out h0]) kF
set_option maxRecDepth 100000 in
set_option maxHeartbeats 4000000 in
theorem qOneC5 {S0 : Nat → Prop} (v : Value) (c : JCat) (r : JRec) (rv : Value) (w : World) (h : CatOff S0 w v c) (hS0 : ∀ x, S0 x → x < w.heap.size) (hmc : mayC c) (hrr : RunsIn w rv r.runs 0 w.heap.size) (hf : r.fits) (hwf : ∀ a ∈ r.runs, WfRun a) (hrl : r.runs.length ≤ 1000000) (hmr : mayR r = true) (hk : r.kind = 5) :
    Calls Tryz.prog 63 #[v, .agg (r.cells rv)] w (QOneSays S0 c r w) := by
  have HMY : Hid (∀ W, Kept [] w W → Calls Tryz.prog 40 #[.agg (r.cells rv)] W (JMay (mayR r) W)) := Lib.hid (fun W q => qmay r rv _ _ W (hrr.kept0 q) hrl hf)
  obtain ⟨vb, vm, vn, rfl, hb, hm, hn, hwb, hwm⟩ := h
  have HB := Lib.hid (fun W (q : Kept [] w W) => hb.kept0 q)
  have HM := Lib.hid (fun W (q : Kept [] w W) => hm.kept0 q)
  have HN := Lib.hid (fun W (q : Kept [] w W) => hn.kept0 q)
  obtain ⟨p1, c1, rfl⟩ := hb.plain.shape
  obtain ⟨p2, c2, rfl⟩ := hm.plain.shape
  obtain ⟨p3, c3, rfl⟩ := hn.plain.shape
  obtain ⟨pr, cr, rfl⟩ := hrr.shape
  unfold JRec.cells JMay at HMY
  unfold JRec.cells
  have HWB := Lib.hid hwb
  have HWM := Lib.hid hwm
  have HMR := Lib.hid hmr
  obtain ⟨oA, oB, oC⟩ := own_threeC w #[.int .u32 c.nextBox, .int .u32 c.nextMan, .slice p1 c.boxes.length c1, .slice p2 c.mans.length c2, .slice p3 c.names.length c3] #[.int .i64 r.kind, .int .u32 r.id, .string (bs r.name), .int .i64 r.size, .slice pr r.runs.length cr] #[.int .u32 0, .int .u32 0, .slice none 0 0, .slice none 0 0, .slice none 0 0] 25 55 25
  have k0 : Kept [] w (((w.alloc (.cells #[.int .u32 c.nextBox, .int .u32 c.nextMan, .slice p1 c.boxes.length c1, .slice p2 c.mans.length c2, .slice p3 c.names.length c3] 25)).alloc (.cells #[.int .i64 r.kind, .int .u32 r.id, .string (bs r.name), .int .i64 r.size, .slice pr r.runs.length cr] 55)).alloc (.cells #[.int .u32 0, .int .u32 0, .slice none 0 0, .slice none 0 0, .slice none 0 0] 25)) := (((Kept.refl _ _).alloc _).alloc _).alloc _
  have hid := may_id hmr
  have hid0 : 0 ≤ r.id := (bd32 hf.2.1).1
  have hnb1 := (bd32 hwb)
  have hnm1 := (bd32 hwm)
  have HID : Hid (0 ≤ r.id ∧ r.id ≤ 4294967294) := Lib.hid ⟨hid0, hid⟩
  have HW1 : Hid ((Lit.int .u32 (r.id + 1)).wf = true) := Lib.hid (wf32 (by omega) (by omega))
  have HWR : Hid (IntKind.u32.wrap (r.id + 1) = r.id + 1) := Lib.hid (wrap32_of (by omega) (by omega))
  obtain ⟨LL, hLL⟩ : ∃ L, goesX c.mans r.item = L := ⟨_, rfl⟩
  obtain ⟨LI, LC⟩ := LL
  have HONE : Hid (oneX c r = ({ c with mans := LI }, LC)) := Lib.hid (by
    unfold oneX
    rw [if_neg (show ¬ r.kind = 1 by rw [hk]; decide), if_neg (show ¬ r.kind = 2 by rw [hk]; decide), if_neg (show ¬ r.kind = 3 by rw [hk]; decide), if_neg (show ¬ r.kind = 4 by rw [hk]; decide), if_pos hk, hLL])
  have HLR : Hid (∃ LR, (if LC = 0 then LI else c.mans) = LR ∧ (LC = 0 → LI = LR)) := Lib.hid ⟨_, rfl, fun h => by rw [if_pos h]⟩
  obtain ⟨LR, hLR, hLI⟩ := HLR.out
  have HLI := Lib.hid hLI
  have HC : Hid (∀ W, Kept [] w W → w.heap.size + 3 ≤ W.heap.size → Calls Tryz.prog 103 #[.slice p2 c.mans.length c2, .agg #[.int .i64 r.kind, .int .u32 r.id, .string (bs r.name), .int .i64 r.size, .slice pr r.runs.length cr]] W fun e w' => ∃ v, e = .returned (.tuple #[v, .int .i64 LC]) ∧ ItemsOff (fun x => S0 x ∨ (x = w.heap.size ∨ x = w.heap.size + 2)) w' v LR ∧ Kept [] W w') := Lib.hid (fun W q hsz => by
    have hSW : ∀ x, (S0 x ∨ (x = w.heap.size ∨ x = w.heap.size + 2)) → x < W.heap.size := fun x hx => by
      rcases hx with hx | hx
      · have := hS0 x hx; omega
      · omega
    have hh := qgoes _ _ r (.slice pr r.runs.length cr) W ((hm.more (fun x hx => by omega)).kept0 q) hSW (by have := hmc.mans.1; omega) ⟨_, _, _, rfl⟩
    unfold JRec.cells QGoesSays at hh
    rw [hLL] at hh
    simp only at hh
    rw [hLR] at hh
    exact hh)
  rw [hk] at HMY HC oA oB oC k0 ⊢
  clear hid hid0 hnb1 hnm1 hLL hLR hLI HLR hS0
  have OA := Lib.hid oA
  have OB := Lib.hid oB
  have OC := Lib.hid oC
  have K0 := Lib.hid k0
  rw [HMR.out] at HMY
  clear oA oB oC k0 hb hm hn hrr hf hwf hmr hmc hwb hwm hrl hk
  go_enter Tryz.func63, Tryz.ntmps63
  go_wp2_with fail
  refine (HMY.out _ K0.out).mono ?_; rintro e w3 ⟨rfl, k3⟩
  have K3 := Lib.hid (K0.out.trans k3)
  have OA3 := Lib.hid (k3.own OA.out (by simp))
  have OB3 := Lib.hid (k3.own OB.out (by simp))
  have OC3 := Lib.hid (k3.own OC.out (by simp))
  have HSZ3 : Hid (w.heap.size + 3 ≤ w3.heap.size) := Lib.hid (by have := k3.size; simp at this; omega)
  obtain ⟨x0, x1, x2, x3, x4⟩ := OA3.out.k5
  obtain ⟨y0, y1, y2, y3, y4⟩ := OB3.out.k5
  go_wp2_with fail
  refine (HC.out _ K3.out HSZ3.out).mono ?_; rintro e w4 ⟨v4, rfl, h4, k4⟩
  have H4 := Lib.hid h4
  have K4 := Lib.hid (K3.out.trans k4)
  obtain ⟨p4, c4, rfl⟩ := h4.plain.shape
  have OA4 := Lib.hid (k4.own OA3.out (by simp))
  have OB4 := Lib.hid (k4.own OB3.out (by simp))
  have OC4 := Lib.hid (k4.own OC3.out (by simp))
  obtain ⟨x0, x1, x2, x3, x4⟩ := OA4.out.k5
  obtain ⟨y0, y1, y2, y3, y4⟩ := OB4.out.k5
  obtain ⟨z0, z1, z2, z3, z4⟩ := OC4.out.k5
  obtain ⟨f0, f1, f2, f3, f4⟩ := OA4.out.y5
  obtain ⟨g0, g1, g2, g3, g4⟩ := OC4.out.y5
  clear h4 k4
  go_wp2_with fail
  have hne : w.heap.size + 2 ≠ w.heap.size := by omega
  have oF := Own.put5 (OC4.out.other (p := ⟨w.heap.size, 3, none⟩) hne (.slice p4 LR.length c4)) (.int .u32 c.nextBox) (.int .u32 c.nextMan) (.slice p1 c.boxes.length c1) (.slice p4 LR.length c4) (.slice p3 c.names.length c3)
  have kF : Kept [] w ((((((w4.setCell ⟨w.heap.size, 3, none⟩ (.slice p4 LR.length c4)).setCell ⟨w.heap.size + 2, 0, none⟩ (.int .u32 c.nextBox)).setCell ⟨w.heap.size + 2, 1, none⟩ (.int .u32 c.nextMan)).setCell ⟨w.heap.size + 2, 2, none⟩ (.slice p1 c.boxes.length c1)).setCell ⟨w.heap.size + 2, 3, none⟩ (.slice p4 LR.length c4)).setCell ⟨w.heap.size + 2, 4, none⟩ (.slice p3 c.names.length c3)) := Kept.set5s (K4.out.setCell (p := ⟨w.heap.size, 3, none⟩) (Or.inr (Nat.le_refl _)) (.slice p4 LR.length c4)) (Or.inr (by omega)) _ _ _ _ _
  have kT : Kept [w.heap.size, w.heap.size + 2] w4 ((((((w4.setCell ⟨w.heap.size, 3, none⟩ (.slice p4 LR.length c4)).setCell ⟨w.heap.size + 2, 0, none⟩ (.int .u32 c.nextBox)).setCell ⟨w.heap.size + 2, 1, none⟩ (.int .u32 c.nextMan)).setCell ⟨w.heap.size + 2, 2, none⟩ (.slice p1 c.boxes.length c1)).setCell ⟨w.heap.size + 2, 3, none⟩ (.slice p4 LR.length c4)).setCell ⟨w.heap.size + 2, 4, none⟩ (.slice p3 c.names.length c3)) := Kept.set5s ((Kept.refl _ _).setCell (p := ⟨w.heap.size, 3, none⟩) (Or.inl (by simp)) (.slice p4 LR.length c4)) (Or.inl (by simp)) _ _ _ _ _
  have h5 := (H4.out.keptT kT (fun x hx => by simp at hx; rcases hx with rfl | rfl; exact Or.inr (Or.inl rfl); exact Or.inr (Or.inr rfl))).weaken (T := S0) (fun x hx => Or.inl hx)
  refine bodyPost_ret (v := .tuple #[.agg #[(.int .u32 c.nextBox), (.int .u32 c.nextMan), (.slice p1 c.boxes.length c1), (.slice p4 LR.length c4), (.slice p3 c.names.length c3)], .int .i64 LC]) (ret_row_tmp Tryz.results63 rfl rfl (t := 25) ?_ Tryz.underlying25 rfl (by kernel_rfl)) rfl ?_
  · exact oF
  · exact qoneC_of HMR.out HONE.out (c' := { c with mans := LR }) ⟨_, _, _, rfl, HB.out _ kF, h5, HN.out _ kF, HWB.out, HWM.out⟩ (fun h0 => by rw [HLI.out h0]) kF
set_option maxRecDepth 100000 in
set_option maxHeartbeats 4000000 in
theorem qOneC6 {S0 : Nat → Prop} (v : Value) (c : JCat) (r : JRec) (rv : Value) (w : World) (h : CatOff S0 w v c) (hS0 : ∀ x, S0 x → x < w.heap.size) (hmc : mayC c) (hrr : RunsIn w rv r.runs 0 w.heap.size) (hf : r.fits) (hwf : ∀ a ∈ r.runs, WfRun a) (hrl : r.runs.length ≤ 1000000) (hmr : mayR r = true) (hk : r.kind = 6) :
    Calls Tryz.prog 63 #[v, .agg (r.cells rv)] w (QOneSays S0 c r w) := by
  have HMY : Hid (∀ W, Kept [] w W → Calls Tryz.prog 40 #[.agg (r.cells rv)] W (JMay (mayR r) W)) := Lib.hid (fun W q => qmay r rv _ _ W (hrr.kept0 q) hrl hf)
  obtain ⟨vb, vm, vn, rfl, hb, hm, hn, hwb, hwm⟩ := h
  have HB := Lib.hid (fun W (q : Kept [] w W) => hb.kept0 q)
  have HM := Lib.hid (fun W (q : Kept [] w W) => hm.kept0 q)
  have HN := Lib.hid (fun W (q : Kept [] w W) => hn.kept0 q)
  obtain ⟨p1, c1, rfl⟩ := hb.plain.shape
  obtain ⟨p2, c2, rfl⟩ := hm.plain.shape
  obtain ⟨p3, c3, rfl⟩ := hn.plain.shape
  obtain ⟨pr, cr, rfl⟩ := hrr.shape
  unfold JRec.cells JMay at HMY
  unfold JRec.cells
  have HWB := Lib.hid hwb
  have HWM := Lib.hid hwm
  have HMR := Lib.hid hmr
  obtain ⟨oA, oB, oC⟩ := own_threeC w #[.int .u32 c.nextBox, .int .u32 c.nextMan, .slice p1 c.boxes.length c1, .slice p2 c.mans.length c2, .slice p3 c.names.length c3] #[.int .i64 r.kind, .int .u32 r.id, .string (bs r.name), .int .i64 r.size, .slice pr r.runs.length cr] #[.int .u32 0, .int .u32 0, .slice none 0 0, .slice none 0 0, .slice none 0 0] 25 55 25
  have k0 : Kept [] w (((w.alloc (.cells #[.int .u32 c.nextBox, .int .u32 c.nextMan, .slice p1 c.boxes.length c1, .slice p2 c.mans.length c2, .slice p3 c.names.length c3] 25)).alloc (.cells #[.int .i64 r.kind, .int .u32 r.id, .string (bs r.name), .int .i64 r.size, .slice pr r.runs.length cr] 55)).alloc (.cells #[.int .u32 0, .int .u32 0, .slice none 0 0, .slice none 0 0, .slice none 0 0] 25)) := (((Kept.refl _ _).alloc _).alloc _).alloc _
  have hid := may_id hmr
  have hid0 : 0 ≤ r.id := (bd32 hf.2.1).1
  have hnb1 := (bd32 hwb)
  have hnm1 := (bd32 hwm)
  have HID : Hid (0 ≤ r.id ∧ r.id ≤ 4294967294) := Lib.hid ⟨hid0, hid⟩
  have HW1 : Hid ((Lit.int .u32 (r.id + 1)).wf = true) := Lib.hid (wf32 (by omega) (by omega))
  have HWR : Hid (IntKind.u32.wrap (r.id + 1) = r.id + 1) := Lib.hid (wrap32_of (by omega) (by omega))
  obtain ⟨LL, hLL⟩ : ∃ L, goesX c.names r.item = L := ⟨_, rfl⟩
  obtain ⟨LI, LC⟩ := LL
  have HONE : Hid (oneX c r = ({ c with names := LI }, LC)) := Lib.hid (by
    unfold oneX
    rw [if_neg (show ¬ r.kind = 1 by rw [hk]; decide), if_neg (show ¬ r.kind = 2 by rw [hk]; decide), if_neg (show ¬ r.kind = 3 by rw [hk]; decide), if_neg (show ¬ r.kind = 4 by rw [hk]; decide), if_neg (show ¬ r.kind = 5 by rw [hk]; decide), hLL])
  have HLR : Hid (∃ LR, (if LC = 0 then LI else c.names) = LR ∧ (LC = 0 → LI = LR)) := Lib.hid ⟨_, rfl, fun h => by rw [if_pos h]⟩
  obtain ⟨LR, hLR, hLI⟩ := HLR.out
  have HLI := Lib.hid hLI
  have HC : Hid (∀ W, Kept [] w W → w.heap.size + 3 ≤ W.heap.size → Calls Tryz.prog 103 #[.slice p3 c.names.length c3, .agg #[.int .i64 r.kind, .int .u32 r.id, .string (bs r.name), .int .i64 r.size, .slice pr r.runs.length cr]] W fun e w' => ∃ v, e = .returned (.tuple #[v, .int .i64 LC]) ∧ ItemsOff (fun x => S0 x ∨ (x = w.heap.size ∨ x = w.heap.size + 2)) w' v LR ∧ Kept [] W w') := Lib.hid (fun W q hsz => by
    have hSW : ∀ x, (S0 x ∨ (x = w.heap.size ∨ x = w.heap.size + 2)) → x < W.heap.size := fun x hx => by
      rcases hx with hx | hx
      · have := hS0 x hx; omega
      · omega
    have hh := qgoes _ _ r (.slice pr r.runs.length cr) W ((hn.more (fun x hx => by omega)).kept0 q) hSW (by have := hmc.names.1; omega) ⟨_, _, _, rfl⟩
    unfold JRec.cells QGoesSays at hh
    rw [hLL] at hh
    simp only at hh
    rw [hLR] at hh
    exact hh)
  rw [hk] at HMY HC oA oB oC k0 ⊢
  clear hid hid0 hnb1 hnm1 hLL hLR hLI HLR hS0
  have OA := Lib.hid oA
  have OB := Lib.hid oB
  have OC := Lib.hid oC
  have K0 := Lib.hid k0
  rw [HMR.out] at HMY
  clear oA oB oC k0 hb hm hn hrr hf hwf hmr hmc hwb hwm hrl hk
  go_enter Tryz.func63, Tryz.ntmps63
  go_wp2_with fail
  refine (HMY.out _ K0.out).mono ?_; rintro e w3 ⟨rfl, k3⟩
  have K3 := Lib.hid (K0.out.trans k3)
  have OA3 := Lib.hid (k3.own OA.out (by simp))
  have OB3 := Lib.hid (k3.own OB.out (by simp))
  have OC3 := Lib.hid (k3.own OC.out (by simp))
  have HSZ3 : Hid (w.heap.size + 3 ≤ w3.heap.size) := Lib.hid (by have := k3.size; simp at this; omega)
  obtain ⟨x0, x1, x2, x3, x4⟩ := OA3.out.k5
  obtain ⟨y0, y1, y2, y3, y4⟩ := OB3.out.k5
  go_wp2_with fail
  refine (HC.out _ K3.out HSZ3.out).mono ?_; rintro e w4 ⟨v4, rfl, h4, k4⟩
  have H4 := Lib.hid h4
  have K4 := Lib.hid (K3.out.trans k4)
  obtain ⟨p4, c4, rfl⟩ := h4.plain.shape
  have OA4 := Lib.hid (k4.own OA3.out (by simp))
  have OB4 := Lib.hid (k4.own OB3.out (by simp))
  have OC4 := Lib.hid (k4.own OC3.out (by simp))
  obtain ⟨x0, x1, x2, x3, x4⟩ := OA4.out.k5
  obtain ⟨y0, y1, y2, y3, y4⟩ := OB4.out.k5
  obtain ⟨z0, z1, z2, z3, z4⟩ := OC4.out.k5
  obtain ⟨f0, f1, f2, f3, f4⟩ := OA4.out.y5
  obtain ⟨g0, g1, g2, g3, g4⟩ := OC4.out.y5
  clear h4 k4
  go_wp2_with fail
  have hne : w.heap.size + 2 ≠ w.heap.size := by omega
  have oF := Own.put5 (OC4.out.other (p := ⟨w.heap.size, 4, none⟩) hne (.slice p4 LR.length c4)) (.int .u32 c.nextBox) (.int .u32 c.nextMan) (.slice p1 c.boxes.length c1) (.slice p2 c.mans.length c2) (.slice p4 LR.length c4)
  have kF : Kept [] w ((((((w4.setCell ⟨w.heap.size, 4, none⟩ (.slice p4 LR.length c4)).setCell ⟨w.heap.size + 2, 0, none⟩ (.int .u32 c.nextBox)).setCell ⟨w.heap.size + 2, 1, none⟩ (.int .u32 c.nextMan)).setCell ⟨w.heap.size + 2, 2, none⟩ (.slice p1 c.boxes.length c1)).setCell ⟨w.heap.size + 2, 3, none⟩ (.slice p2 c.mans.length c2)).setCell ⟨w.heap.size + 2, 4, none⟩ (.slice p4 LR.length c4)) := Kept.set5s (K4.out.setCell (p := ⟨w.heap.size, 4, none⟩) (Or.inr (Nat.le_refl _)) (.slice p4 LR.length c4)) (Or.inr (by omega)) _ _ _ _ _
  have kT : Kept [w.heap.size, w.heap.size + 2] w4 ((((((w4.setCell ⟨w.heap.size, 4, none⟩ (.slice p4 LR.length c4)).setCell ⟨w.heap.size + 2, 0, none⟩ (.int .u32 c.nextBox)).setCell ⟨w.heap.size + 2, 1, none⟩ (.int .u32 c.nextMan)).setCell ⟨w.heap.size + 2, 2, none⟩ (.slice p1 c.boxes.length c1)).setCell ⟨w.heap.size + 2, 3, none⟩ (.slice p2 c.mans.length c2)).setCell ⟨w.heap.size + 2, 4, none⟩ (.slice p4 LR.length c4)) := Kept.set5s ((Kept.refl _ _).setCell (p := ⟨w.heap.size, 4, none⟩) (Or.inl (by simp)) (.slice p4 LR.length c4)) (Or.inl (by simp)) _ _ _ _ _
  have h5 := (H4.out.keptT kT (fun x hx => by simp at hx; rcases hx with rfl | rfl; exact Or.inr (Or.inl rfl); exact Or.inr (Or.inr rfl))).weaken (T := S0) (fun x hx => Or.inl hx)
  refine bodyPost_ret (v := .tuple #[.agg #[(.int .u32 c.nextBox), (.int .u32 c.nextMan), (.slice p1 c.boxes.length c1), (.slice p2 c.mans.length c2), (.slice p4 LR.length c4)], .int .i64 LC]) (ret_row_tmp Tryz.results63 rfl rfl (t := 25) ?_ Tryz.underlying25 rfl (by kernel_rfl)) rfl ?_
  · exact oF
  · exact qoneC_of HMR.out HONE.out (c' := { c with names := LR }) ⟨_, _, _, rfl, HB.out _ kF, HM.out _ kF, h5, HWB.out, HWM.out⟩ (fun h0 => by rw [HLI.out h0]) kF
theorem qOneC {S0 : Nat → Prop} (v : Value) (c : JCat) (r : JRec) (rv : Value) (w : World) (h : CatOff S0 w v c) (hS0 : ∀ x, S0 x → x < w.heap.size) (hmc : mayC c) (hrr : RunsIn w rv r.runs 0 w.heap.size) (hf : r.fits) (hwf : ∀ a ∈ r.runs, WfRun a) (hrl : r.runs.length ≤ 1000000) :
    Calls Tryz.prog 63 #[v, .agg (r.cells rv)] w (QOneSays S0 c r w) := by
  cases hmr : mayR r with
  | false => exact qoneC_no v c r rv w h hS0 hmc hrr hf hwf hrl hmr
  | true =>
    rcases may_kind hmr with hk | hk | hk | hk | hk | hk
    · exact qOneC1 v c r rv w h hS0 hmc hrr hf hwf hrl hmr hk
    · exact qOneC2 v c r rv w h hS0 hmc hrr hf hwf hrl hmr hk
    · exact qOneC3 v c r rv w h hS0 hmc hrr hf hwf hrl hmr hk
    · exact qOneC4 v c r rv w h hS0 hmc hrr hf hwf hrl hmr hk
    · exact qOneC5 v c r rv w h hS0 hmc hrr hf hwf hrl hmr hk
    · exact qOneC6 v c r rv w h hS0 hmc hrr hf hwf hrl hmr hk
end Go.Proofs.YtakdnchmehmdhaaGreat
