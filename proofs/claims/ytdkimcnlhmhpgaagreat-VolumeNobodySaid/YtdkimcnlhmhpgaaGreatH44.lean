/- -/
import Derived.Test.YtdkimcnlhmhpgaaGreatH40
set_option linter.unusedVariables false
set_option linter.unusedSimpArgs false
namespace Go.Proofs.YtdkimcnlhmhpgaaGreat
open Go.RowKit
theorem uset3 {T : List Nat} (gv gr gt : Nat) (s : SB) (rv : Value) (R : List (Int × Int)) (tx : List UInt8) {w : World} {B b sb mb lo : Nat} {v : VS} (hV : VolAt T w B b sb mb lo v)
  (hc : ∀ W, PK [] b sb mb w W → W.cell? ⟨gv, 0, none⟩ = some (.pointer (some ⟨B, 0, none⟩)) ∧ W.cell? ⟨gr, 0, none⟩ = some rv ∧ W.cell? ⟨gt, 0, none⟩ = some (.string (bs tx)))
  (hr : RunsO [] w b sb mb rv R) (hs : s.runs = R) (hpl : Pl 0 R) (htx : tx.length ≤ 1048576)
  (hm : s.may) (hq : s.seq < 18446744073709551616) (ho : v.d.ops ≤ 60000) (hw : v.d.waits.length ≤ 1800) (hn : v.d.stand.length ≤ 5000) (W : World) (k : Kept [] w W) (n gS gD : Nat) (hnn : w.heap.size ≤ n) (hS : w.heap.size ≤ gS) (hDD : w.heap.size ≤ gD)
  (on : Own W n #[.func (.func 114) #[] #[.pointer (some ⟨gv, 0, none⟩), .pointer (some ⟨gr, 0, none⟩), .pointer (some ⟨gt, 0, none⟩)], .func (.func 39) #[.pointer (some ⟨b, 0, none⟩)] #[], .func (.func 92) #[] #[.pointer (some ⟨gS, 0, none⟩), .pointer (some ⟨gD, 0, none⟩)]] 42)
  (oS : Own W gS (s.cells rv) 58) (od : Own W gD #[.pointer (some ⟨b, 0, none⟩)] 23) :
  Calls Tryz.prog 37 #[.slice (some ⟨n, 0, none⟩) 3 3] W fun e w' => e = .returned (.int .i64 (chainD [fun d => putX d R tx, stepF, layD s] v.d).2) ∧ DA w' b sb mb lo (chainD [fun d => putX d R tx, stepF, layD s] v.d).1 ∧ PK [] b sb mb W w' := by
 have hDW := hV.da.keep0 k
 have hkpk := k.pk0 (T := []) (sb := sb) (mb := mb) hV.da.b_lt
 have f0 : OffD [] W b sb mb n := hV.da.off_new (fun x hx => by cases hx) k hnn
 have fS : OffD [] W b sb mb gS := hV.da.off_new (fun x hx => by cases hx) k hS
 have fD : OffD [] W b sb mb gD := hV.da.off_new (fun x hx => by cases hx) k hDD
 have hrW := hr.pk hkpk
 refine uallD [fun d => putX d R tx, stepF, layD s] [(114, #[], #[.pointer (some ⟨gv, 0, none⟩), .pointer (some ⟨gr, 0, none⟩), .pointer (some ⟨gt, 0, none⟩)]), (39, #[.pointer (some ⟨b, 0, none⟩)], #[]), (92, #[], #[.pointer (some ⟨gS, 0, none⟩), .pointer (some ⟨gD, 0, none⟩)])] rfl n 0 3 hDW (by simp) (fun k h => ?_) on.lt f0 (fun k h => ?_) (fun j h W' hW' hk _ => ?_)
 ·match k, h with
  | 0, _ => exact enters_of Tryz.func114 (by kernel_rfl) rfl
  | 1, _ => exact enters_of Tryz.func39 (by kernel_rfl) rfl
  | 2, _ => exact enters_of Tryz.func92 (by kernel_rfl) rfl
 ·match k, h with
  | 0, _ => exact on.cell 0 (by simp)
  | 1, _ => exact on.cell 1 (by simp)
  | 2, _ => exact on.cell 2 (by simp)
 ·have e1 := fw_put v.d R tx
  have e2 := fw_stepF (putX v.d R tx).1
  have e1o := e1.ops
  have e1w := e1.waits
  have e2o := e2.ops
  have e2w := e2.waits
  match j, h with
  | 0, _ =>
   have hV' : VolAt T W' B b sb mb lo v := hV.pk (hkpk.trans hk) hW' (fun x hx => by cases hx) (by simp)
   obtain ⟨⟨l1, h1, hR⟩, _⟩ := hrW.pk hk
   have := (usettle11 gv gr gt rv R tx hV' (fun W'' k2 => hc W'' ((hkpk.trans hk).trans k2)) hR (by have := hpl.len0; omega) (wf_of_pl hpl) htx (by omega) hw)
   exact this.mono fun e w' ⟨a1, a2, a3⟩ => ⟨a1, a2.da, a3⟩
  | 1, _ => exact uflush hW' (by show (putX v.d R tx).1.ops < _; omega) (by show (putX v.d R tx).1.waits.length ≤ _; omega)
  | 2, _ =>
   have := ulaid1 (T := []) gS gD s rv hW' (fun x hx => by cases hx) (hk.own oS fS) (hk.own od fD) (by rw [hs]; exact hrW.pk hk) hm hq (fS.pk hk oS.lt) (fD.pk hk od.lt) (by show (stepF (putX v.d R tx).1).1.ops ≤ _; omega) (by show (stepF (putX v.d R tx).1).1.waits.length ≤ _; omega)
   exact this
set_option maxRecDepth 100000 in
set_option maxHeartbeats 8000000 in
theorem usettle1 {T : List Nat} (gv gt gr gc : Nat) (c : JCat) (cb cm cn : Value) (s : List UInt8) (rv : Value) (R : List (Int × Int)) {w : World} {B b sb mb lo : Nat} {v : VS} (hV : VolAt T w B b sb mb lo v)
  (hc : ∀ W, PK [B] b sb mb w W → W.cell? ⟨gv, 0, none⟩ = some (.pointer (some ⟨B, 0, none⟩)) ∧ W.cell? ⟨gt, 0, none⟩ = some (.string (bs s)) ∧ W.cell? ⟨gr, 0, none⟩ = some rv ∧ W.cell? ⟨gc, 0, none⟩ = some (.int .u32 c.nextBox) ∧ W.cell? ⟨gc, 1, none⟩ = some (.int .u32 c.nextMan) ∧ W.cell? ⟨gc, 2, none⟩ = some cb ∧ W.cell? ⟨gc, 3, none⟩ = some cm ∧ W.cell? ⟨gc, 4, none⟩ = some cn)
  (hcat : CatO T w b sb mb (.agg #[.int .u32 c.nextBox, .int .u32 c.nextMan, cb, cm, cn]) c) (hrun : RunsO T w b sb mb rv R) (hpl : Pl 0 R) (hmb : (baseS v.s s.length R).may) (hm : v.s.may)
  (hq : v.s.seq ≤ 1000000) (hs : s.length ≤ 1048576) (ho : v.d.ops ≤ 50000) (hw : v.d.waits.length ≤ 1800) (hn : v.d.stand.length ≤ 5000) :
  Calls Tryz.prog 113 #[.pointer (some ⟨gv, 0, none⟩), .pointer (some ⟨gt, 0, none⟩), .pointer (some ⟨gr, 0, none⟩), .pointer (some ⟨gc, 0, none⟩)] w fun e w' => e = .returned (.int .i64 (settleX c s R v).2) ∧ VolAt T w' B b sb mb lo (settleX c s R v).1 ∧ PK [B] b sb mb w w' := by
 have hsm := hm.1
 obtain ⟨⟨q1, m1, d1, rfl⟩, ⟨q2, m2, d2, rfl⟩, ⟨q3, m3, d3, rfl⟩⟩ := CatO.shapes hcat
 obtain ⟨sv, vb, vm, vn, o, hr, hcat0⟩ := hV.vol
 obtain ⟨x0, x1, x2, x3, x4, x5, x6, x7, x8, x9, x10, x11, x12⟩ := o.c13
 obtain ⟨⟨lo1, hi1, hrun0⟩, hoff⟩ := hr
 have HN : Hid (∀ W, Kept [] w W → Calls Tryz.prog 108 #[.agg (v.s.cells sv)] W fun e w' => (∃ v', e = .returned (.agg (SB.cells { v.s with seq := v.s.seq + 1 } v')) ∧ RunsIn w' v' v.s.runs W.heap.size w'.heap.size) ∧ Kept [] W w') := Lib.hid (fun W k => pnext v.s sv lo1 hi1 W (hrun0.kept0 k) (by have := hsm; unfold SB.numOk at this; omega) (by omega))
 unfold SB.cells at HN
 simp only at HN
 obtain ⟨q9, hq9⟩ : ∃ q : Int, ((v.s.seq + 1 : Nat) : Int) = q := ⟨_, rfl⟩
 rw [hq9] at HN
 clear x7 x8 x9 x10 x11 x12
 obtain ⟨y0, y1, yr, y2, y3, y4, y5, y6⟩ := hc w (PK.refl _ _ _ _ _)
 obtain ⟨p1, c1, rfl⟩ := hrun0.shape
 obtain ⟨⟨lor, hir, hrr⟩, hroff⟩ := hrun
 obtain ⟨pr, cr, rfl⟩ := hrr.shape
 have HBS : Hid (SB.cells (baseS v.s s.length R) (.slice pr R.length cr) = #[.int .u64 q9, .int .i64 v.s.sectors, .int .i64 v.s.journal, .int .i64 0, .int .i64 (s.length : Int), .slice pr R.length cr]) := Lib.hid (by unfold SB.cells baseS; simp only; rw [hq9])
 have HQ9 := Lib.hid hq9
 have HQ := Lib.hid hq
 have HRR := Lib.hid hrr
 have HROFF := Lib.hid hroff
 have HV := Lib.hid hV
 have HC := Lib.hid hc
 have HCAT := Lib.hid hcat
 have HMB := Lib.hid hmb
 have HPL := Lib.hid hpl
 have HNUM : Hid (v.d.ops ≤ 50000 ∧ v.d.waits.length ≤ 1800 ∧ v.d.stand.length ≤ 5000 ∧ s.length ≤ 1048576) := Lib.hid ⟨ho, hw, hn, hs⟩
 have hB0 : ∀ W, PK [] b sb mb w W → W.cell? ⟨B, 0, none⟩ = some (.pointer (some ⟨b, 0, none⟩)) := fun W k => (k.own o ⟨by simp, hV.off.2⟩).cell 0 (by simp [volCells])
 have HB0 := Lib.hid hB0
 have HX : Hid (settleX c s R v = if (chainD [fun d => putX d R s, stepF, layD (baseS v.s s.length R)] v.d).2 = 0 then (⟨(chainD [fun d => putX d R s, stepF, layD (baseS v.s s.length R)] v.d).1, baseS v.s s.length R, c, v.dead⟩, 0) else (⟨(chainD [fun d => putX d R s, stepF, layD (baseS v.s s.length R)] v.d).1, v.s, v.c, v.dead⟩, (chainD [fun d => putX d R s, stepF, layD (baseS v.s s.length R)] v.d).2)) := Lib.hid rfl
 have hsl : (bs s).size = s.length := bs_size s
 have hsl2 : (s.length : Int) ≤ 1048576 := by omega
 clear hrun0 hoff hcat0 o hq9 hq hrr hroff hV hc hcat hmb hpl hm ho hw hn hs hsm hB0
 go_enter Tryz.func113, Tryz.ntmps113
 go_wp2_with fail
 refine (HN.out _ (Kept.refl _ _)).mono ?_; rintro e w2 ⟨⟨v', rfl, hr2⟩, k2⟩
 obtain ⟨p2, c2, rfl⟩ := hr2.shape
 have hk3 : Kept [] w (w2.alloc (.cells #[.int .u64 q9, .int .i64 v.s.sectors, .int .i64 v.s.journal, .int .i64 v.s.used, .int .i64 v.s.size, .slice p2 v.s.runs.length c2] 58)) := k2.alloc _
 have oS3 := Own.new w2 #[.int .u64 q9, .int .i64 v.s.sectors, .int .i64 v.s.journal, .int .i64 v.s.used, .int .i64 v.s.size, .slice p2 v.s.runs.length c2] 58
 have hgS : w.heap.size ≤ w2.heap.size := k2.size
 have K3 := Lib.hid hk3
 have HOS3 := Lib.hid oS3
 have HGS := Lib.hid hgS
 clear hr2 k2 hk3 oS3 hgS HN
 go_upto_region 2 with fail
 generalize w2.heap.size = gS at *
 generalize w2.alloc (.cells #[.int .u64 q9, .int .i64 v.s.sectors, .int .i64 v.s.journal, .int .i64 v.s.used, .int .i64 v.s.size, .slice p2 v.s.runs.length c2] 58) = w3 at *
 have HB : Hid (b < w.heap.size) := Lib.hid HV.out.b_lt
 have hoffS : OffD T w3 b sb mb gS := HV.out.da.off_new HV.out.hT K3.out HGS.out
 have HOFFS := Lib.hid hoffS
 have HB3 : Hid (b < w3.heap.size) := Lib.hid (Nat.lt_of_lt_of_le HB.out K3.out.size)
 have hbS : b ∉ [gS] := by simp only [List.mem_singleton]; exact fun e => hoffS.2.1 e.symm
 have HBS2 := Lib.hid hbS
 have HPK : Hid (∀ W, Kept [gS] w3 W → PK [] b sb mb w W) := Lib.hid (fun W k => (K3.out.pk0 HB.out).callD k HB.out (fun x hx => by
  obtain rfl : x = gS := by simpa using hx
  exact Or.inr HGS.out) HBS2.out)
 have HS3 : Hid (∀ W, Kept [gS] w3 W → W.cell? ⟨gt, 0, none⟩ = some (.string (bs s)) ∧ W.cell? ⟨gr, 0, none⟩ = some (.slice pr R.length cr)) := Lib.hid (fun W k => by
  obtain ⟨_, c2, c3, _⟩ := HC.out W ((HPK.out W k).mono (by simp))
  exact ⟨c2, c3⟩)
 clear hoffS hbS x0 x1 x2 x3 x4 x5 x6 y0 y1 yr y2 y3 y4 y5 y6
 obtain ⟨y1, y2⟩ := HS3.out w3 (Kept.refl _ _)
 obtain ⟨s0, s1, s2, s3, s4, s5⟩ := HOS3.out.c6
 have f3 := HOS3.out.free 3
 have f4 := HOS3.out.free 4
 have f5 := HOS3.out.free 5
 refine wp_region_held_drew (S := (fun W => W.cell? ⟨gt, 0, none⟩ = some (.string (bs s)) ∧ W.cell? ⟨gr, 0, none⟩ = some (.slice pr R.length cr))) (by kernel_rfl) (by exact HS3.out _ ((Kept.refl [gS] w3).drew)) (fun hHeld => ?_)
 refine take_at (i := 0) (d := some 12) (v := ?_) rfl rfl (by kernel_rfl) (by kernel_rfl) (by kernel_rfl) (fun _ _ _ h => h) (Or.inl ⟨by rfl, ?_⟩) (by assumption) ?_
 rotate_left
 ·(intro w hSw; (try dsimp only at hSw); go_simp; try with_reducible rfl)
 try simp only [Act.put, List.setIfInBounds_toArray, List.set_cons_zero, List.set_cons_succ]
 refine take_at (i := 1) (d := some 13) (v := ?_) rfl rfl (by kernel_rfl) (by kernel_rfl) (by kernel_rfl) (fun _ _ _ h => h) (Or.inl ⟨by rfl, ?_⟩) (by assumption) ?_
 rotate_left
 ·(intro w hSw; (try dsimp only at hSw); go_simp; try with_reducible rfl)
 try simp only [Act.put, List.setIfInBounds_toArray, List.set_cons_zero, List.set_cons_succ]
 refine take_at (i := 2) (d := some 14) (v := ?_) rfl rfl (by kernel_rfl) (by kernel_rfl) (by kernel_rfl) (fun _ _ _ h => h) (Or.inl ⟨by rfl, ?_⟩) (by assumption) ?_
 rotate_left
 ·(intro w hSw; (try dsimp only at hSw); go_simp; try with_reducible rfl)
 try simp only [Act.put, List.setIfInBounds_toArray, List.set_cons_zero, List.set_cons_succ]
 refine take_at (i := 3) (d := some 15) (v := ?_) rfl rfl (by kernel_rfl) (by kernel_rfl) (by kernel_rfl) (fun _ _ _ h => h) (Or.inl ⟨by rfl, ?_⟩) (by assumption) ?_
 rotate_left
 ·(intro w hSw; (try dsimp only at hSw); go_simp; try with_reducible rfl)
 try simp only [Act.put, List.setIfInBounds_toArray, List.set_cons_zero, List.set_cons_succ]
 refine wpAnyH_ready (rs := [4]) (by kernel_rfl) (by simp) ?_
 refine (AllReadyH.cons rfl (fun K hK => ?_) AllReadyH.nil)
 go_simp
 refine hK.out _ _ ?_ (fun hHeld => ?_)
 ·exact HS3.out _ ((Kept.refl [gS] w3).setCell (p := ⟨gS, 3, none⟩) (Or.inl List.mem_cons_self) (.int .i64 0)).drew
 clear hK K
 try simp only [Act.put, List.setIfInBounds_toArray, List.set_cons_zero, List.set_cons_succ]
 refine take_at (i := 5) (d := some 16) (v := ?_) rfl rfl (by kernel_rfl) (by kernel_rfl) (by kernel_rfl) (fun _ _ _ h => h) (Or.inl ⟨by rfl, ?_⟩) (by assumption) ?_
 rotate_left
 ·(intro w hSw; (try dsimp only at hSw); go_simp; try with_reducible rfl)
 try simp only [Act.put, List.setIfInBounds_toArray, List.set_cons_zero, List.set_cons_succ]
 refine wpAnyH_ready (rs := [6]) (by kernel_rfl) (by simp) ?_
 refine (AllReadyH.cons rfl (fun K hK => ?_) AllReadyH.nil)
 go_simp
 refine hK.out _ _ ?_ (fun hHeld => ?_)
 ·exact HS3.out _ (((Kept.refl [gS] w3).setCell (p := ⟨gS, 3, none⟩) (Or.inl List.mem_cons_self) (.int .i64 0)).setCell (p := ⟨gS, 4, none⟩) (Or.inl List.mem_cons_self) (.int .i64 (s.length : Int))).drew
 clear hK K
 try simp only [Act.put, List.setIfInBounds_toArray, List.set_cons_zero, List.set_cons_succ]
 refine take_at (i := 7) (d := some 17) (v := ?_) rfl rfl (by kernel_rfl) (by kernel_rfl) (by kernel_rfl) (fun _ _ _ h => h) (Or.inl ⟨by rfl, ?_⟩) (by assumption) ?_
 rotate_left
 ·(intro w hSw; (try dsimp only at hSw); go_simp; try with_reducible rfl)
 try simp only [Act.put, List.setIfInBounds_toArray, List.set_cons_zero, List.set_cons_succ]
 refine wpAnyH_ready (rs := [8]) (by kernel_rfl) (by simp) ?_
 refine (AllReadyH.cons rfl (fun K hK => ?_) AllReadyH.nil)
 go_simp
 refine hK.out _ _ ?_ (fun hHeld => ?_)
 ·exact HS3.out _ ((((Kept.refl [gS] w3).setCell (p := ⟨gS, 3, none⟩) (Or.inl List.mem_cons_self) (.int .i64 0)).setCell (p := ⟨gS, 4, none⟩) (Or.inl List.mem_cons_self) (.int .i64 (s.length : Int))).setCell (p := ⟨gS, 5, none⟩) (Or.inl List.mem_cons_self) (.slice pr R.length cr)).drew
 clear hK K
 try simp only [Act.put, List.setIfInBounds_toArray, List.set_cons_zero, List.set_cons_succ]
 refine wpAnyH_done (by kernel_rfl) ?_ _
 try simp only [List.set_cons_succ, List.set_cons_zero]
 have oS5 : Own ((((w3.setCell ⟨gS, 3, none⟩ (.int .i64 0)).setCell ⟨gS, 4, none⟩ (.int .i64 (s.length : Int))).setCell ⟨gS, 5, none⟩ (.slice pr R.length cr))).drew gS #[.int .u64 q9, .int .i64 v.s.sectors, .int .i64 v.s.journal, .int .i64 0, .int .i64 (s.length : Int), .slice pr R.length cr] 58 := (((HOS3.out.set 3 _).set 4 _).set 5 _).drew
 have k35 : Kept [gS] w3 ((((w3.setCell ⟨gS, 3, none⟩ (.int .i64 0)).setCell ⟨gS, 4, none⟩ (.int .i64 (s.length : Int))).setCell ⟨gS, 5, none⟩ (.slice pr R.length cr))).drew := ((((Kept.refl [gS] w3).setCell (p := ⟨gS, 3, none⟩) (Or.inl List.mem_cons_self) (.int .i64 0)).setCell (p := ⟨gS, 4, none⟩) (Or.inl List.mem_cons_self) (.int .i64 (s.length : Int))).setCell (p := ⟨gS, 5, none⟩) (Or.inl List.mem_cons_self) (.slice pr R.length cr)).drew
 generalize ((((w3.setCell ⟨gS, 3, none⟩ (.int .i64 0)).setCell ⟨gS, 4, none⟩ (.int .i64 (s.length : Int))).setCell ⟨gS, 5, none⟩ (.slice pr R.length cr))).drew = w5 at *
 have hoffS3 : OffD [] w3 b sb mb gS := ⟨by simp, HOFFS.out.2⟩
 have hDA5 : DA w5 b sb mb lo v.d := ⟨(HV.out.da.keep0 K3.out).disk.keepT k35 hoffS3 HOS3.out (by decide), (HV.out.da).fit⟩
 have hk05 : PK [] b sb mb w w5 := HPK.out w5 k35
 have hV5 : VolAt T w5 B b sb mb lo v := HV.out.pk hk05 hDA5 (fun x hx => by cases hx) (by simp)
 have hrr3 := HRR.out.kept0 K3.out
 have hRO5 : RunsO T w5 b sb mb (.slice pr R.length cr) R := by
  have h3 : RunsO T w3 b sb mb (.slice pr R.length cr) R := RunsO.kept0 ⟨⟨_, _, HRR.out⟩, HROFF.out⟩ K3.out HB.out
  refine ⟨?_, by rw [SD.keptS k35 HB3.out HBS2.out]; exact h3.2⟩
  rcases HRR.out with h | ⟨b1, o1, c1', e1, g2, g3, g4, g5, g6⟩
  ·exact ⟨0, 0, Or.inl h⟩
  ·refine ⟨lor, hir, hrr3.kept k35 (fun x hx => ?_)⟩
   obtain rfl : x = gS := by simpa using hx
   exact Or.inr (Nat.le_trans g5 HGS.out)
 have hoffS5 : OffD T w5 b sb mb gS := ⟨HOFFS.out.1, HOFFS.out.2.1, HOFFS.out.2.2.1, HOFFS.out.2.2.2.1, fun hx => HOFFS.out.2.2.2.2 ((WB.of_cell (k35.cell (a := ⟨b, 1, none⟩) HB3.out HBS2.out)).1 hx)⟩
 have HOFFS5 := Lib.hid hoffS5
 have HOS5 := Lib.hid oS5
 have K05 := Lib.hid hk05
 have HV5 := Lib.hid hV5
 have HRO5 := Lib.hid hRO5
 have HB5 : Hid (b < w5.heap.size) := Lib.hid hDA5.b_lt
 have hall := uset3 gv gr gt (baseS v.s s.length R) (.slice pr R.length cr) R s hV5 (fun W k => by
  obtain ⟨c1, c2, c3, _⟩ := HC.out W ((hk05.trans k).mono (by simp))
  exact ⟨c1, c3, c2⟩) (hRO5.mono (by simp)) rfl HPL.out HNUM.out.2.2.2 HMB.out (by show v.s.seq + 1 < _; have := HQ.out; omega) (by have := HNUM.out.1; omega) HNUM.out.2.1 HNUM.out.2.2.1
 have hl := ulaid b (baseS v.s s.length R) (.slice pr R.length cr)
 rw [HBS.out] at hall hl
 have HALL := Lib.hid hall
 have HL := Lib.hid hl
 have HS5 : Hid (∀ W, PK [] b sb mb w5 W → W.cell? ⟨gv, 0, none⟩ = some (.pointer (some ⟨B, 0, none⟩)) ∧ W.cell? ⟨B, 0, none⟩ = some (.pointer (some ⟨b, 0, none⟩)) ∧ W.cell? ⟨gS, 0, none⟩ = some (.int .u64 q9) ∧ W.cell? ⟨gS, 1, none⟩ = some (.int .i64 v.s.sectors) ∧ W.cell? ⟨gS, 2, none⟩ = some (.int .i64 v.s.journal) ∧ W.cell? ⟨gS, 3, none⟩ = some (.int .i64 0) ∧ W.cell? ⟨gS, 4, none⟩ = some (.int .i64 (s.length : Int)) ∧ W.cell? ⟨gS, 5, none⟩ = some (.slice pr R.length cr)) := Lib.hid (fun W k => by
  have kk := K05.out.trans k
  obtain ⟨c1, _⟩ := HC.out W (kk.mono (by simp))
  obtain ⟨e0, e1, e2, e3, e4, e5⟩ := (k.own HOS5.out ⟨by simp, HOFFS5.out.2⟩).c6
  exact ⟨c1, HB0.out W kk, e0, e1, e2, e3, e4, e5⟩)
 clear oS5 k35 hoffS3 hDA5 hk05 hV5 hrr3 hRO5 hoffS5 hall hl y1 y2 s0 s1 s2 s3 s4 s5 f3 f4 f5
 obtain ⟨y0, y1, y2, y3, y4, y5, y6, y7⟩ := HS5.out w5 (PK.refl _ _ _ _ _)
 generalize hCC : chainD [fun d => putX d R s, stepF, layD (baseS v.s s.length R)] v.d = CC at *
 clear hCC
 go_upto_region 3 with fail
 go_cut [6] from 12 to 31 (fun v6 wx => v6 = .int .i64 CC.2 ∧ DA wx b sb mb lo CC.1 ∧ PK [] b sb mb w5 wx)
 case first =>
  refine wp_region_held_drew (S := (fun W => W.cell? ⟨gv, 0, none⟩ = some (.pointer (some ⟨B, 0, none⟩)) ∧ W.cell? ⟨B, 0, none⟩ = some (.pointer (some ⟨b, 0, none⟩)) ∧ W.cell? ⟨gS, 0, none⟩ = some (.int .u64 q9) ∧ W.cell? ⟨gS, 1, none⟩ = some (.int .i64 v.s.sectors) ∧ W.cell? ⟨gS, 2, none⟩ = some (.int .i64 v.s.journal) ∧ W.cell? ⟨gS, 3, none⟩ = some (.int .i64 0) ∧ W.cell? ⟨gS, 4, none⟩ = some (.int .i64 (s.length : Int)) ∧ W.cell? ⟨gS, 5, none⟩ = some (.slice pr R.length cr))) (by kernel_rfl) (by exact HS5.out _ ((Kept.refl [] w5).drew.pk0 HB5.out)) (fun hHeld => ?_)
  refine take_at (i := 0) (d := some 18) (v := ?_) rfl rfl (by kernel_rfl) (by kernel_rfl) (by kernel_rfl) (fun _ _ _ h => h) (Or.inl ⟨by rfl, ?_⟩) (by assumption) ?_
  rotate_left
  ·(intro w hSw; (try dsimp only at hSw); go_simp; try with_reducible rfl)
  try simp only [Act.put, List.setIfInBounds_toArray, List.set_cons_zero, List.set_cons_succ]
  refine take_at (i := 1) (d := some 19) (v := ?_) rfl rfl (by kernel_rfl) (by kernel_rfl) (by kernel_rfl) (fun _ _ _ h => h) (Or.inl ⟨by rfl, ?_⟩) (by assumption) ?_
  rotate_left
  ·(intro w hSw; (try dsimp only at hSw); go_simp; try with_reducible rfl)
  try simp only [Act.put, List.setIfInBounds_toArray, List.set_cons_zero, List.set_cons_succ]
  refine take_at (i := 2) (d := some 20) (v := ?_) rfl rfl (by kernel_rfl) (by kernel_rfl) (by kernel_rfl) (fun _ _ _ h => h) (Or.inl ⟨by rfl, ?_⟩) (by assumption) ?_
  rotate_left
  ·(intro w hSw; (try dsimp only at hSw); go_simp; try with_reducible rfl)
  try simp only [Act.put, List.setIfInBounds_toArray, List.set_cons_zero, List.set_cons_succ]
  refine take_at (i := 3) (d := some 21) (v := ?_) rfl rfl (by kernel_rfl) (by kernel_rfl) (by kernel_rfl) (fun _ _ _ h => h) (Or.inl ⟨by rfl, ?_⟩) (by assumption) ?_
  rotate_left
  ·(intro w hSw; (try dsimp only at hSw); go_simp; try with_reducible rfl)
  try simp only [Act.put, List.setIfInBounds_toArray, List.set_cons_zero, List.set_cons_succ]
  refine take_at (i := 4) (d := some 22) (v := ?_) rfl rfl (by kernel_rfl) (by kernel_rfl) (by kernel_rfl) (fun _ _ _ h => h) (Or.inl ⟨by rfl, ?_⟩) (by assumption) ?_
  rotate_left
  ·(intro w hSw; (try dsimp only at hSw); go_simp; try with_reducible rfl)
  try simp only [Act.put, List.setIfInBounds_toArray, List.set_cons_zero, List.set_cons_succ]
  refine take_at (i := 5) (d := some 23) (v := ?_) rfl rfl (by kernel_rfl) (by kernel_rfl) (by kernel_rfl) (fun _ _ _ h => h) (Or.inl ⟨by rfl, ?_⟩) (by assumption) ?_
  rotate_left
  ·(intro w hSw; (try dsimp only at hSw); go_simp; try with_reducible rfl)
  try simp only [Act.put, List.setIfInBounds_toArray, List.set_cons_zero, List.set_cons_succ]
  refine take_at (i := 6) (d := some 24) (v := ?_) rfl rfl (by kernel_rfl) (by kernel_rfl) (by kernel_rfl) (fun _ _ _ h => h) (Or.inl ⟨by rfl, ?_⟩) (by assumption) ?_
  rotate_left
  ·(intro w hSw; (try dsimp only at hSw); go_simp; try with_reducible rfl)
  try simp only [Act.put, List.setIfInBounds_toArray, List.set_cons_zero, List.set_cons_succ]
  refine take_at (i := 7) (d := some 25) (v := ?_) rfl rfl (by kernel_rfl) (by kernel_rfl) (by kernel_rfl) (fun _ _ _ h => h) (Or.inl ⟨by rfl, ?_⟩) (by assumption) ?_
  rotate_left
  ·(intro w hSw; (try dsimp only at hSw); go_simp; try with_reducible rfl)
  try simp only [Act.put, List.setIfInBounds_toArray, List.set_cons_zero, List.set_cons_succ]
  refine take_at (i := 8) (d := some 26) (v := ?_) rfl rfl (by kernel_rfl) (by kernel_rfl) (by kernel_rfl) (fun _ _ _ h => h) (Or.inl ⟨by rfl, ?_⟩) (by assumption) ?_
  rotate_left
  ·(intro w hSw; (try dsimp only at hSw); go_simp; try with_reducible rfl)
  try simp only [Act.put, List.setIfInBounds_toArray, List.set_cons_zero, List.set_cons_succ]
  refine take_at (i := 9) (d := some 27) (v := ?_) rfl rfl (by kernel_rfl) (by kernel_rfl) (by kernel_rfl) (fun _ _ _ h => h) (Or.inl ⟨by rfl, ?_⟩) (by assumption) ?_
  rotate_left
  ·(intro w hSw; (try dsimp only at hSw); go_simp; try with_reducible rfl)
  try simp only [Act.put, List.setIfInBounds_toArray, List.set_cons_zero, List.set_cons_succ]
  refine take_at (i := 10) (d := some 28) (v := ?_) rfl rfl (by kernel_rfl) (by kernel_rfl) (by kernel_rfl) (fun _ _ _ h => h) (Or.inl ⟨by rfl, ?_⟩) (by assumption) ?_
  rotate_left
  ·(intro w hSw; (try dsimp only at hSw); go_simp; try with_reducible rfl)
  try simp only [Act.put, List.setIfInBounds_toArray, List.set_cons_zero, List.set_cons_succ]
  refine wpAnyH_ready (rs := [11]) (by kernel_rfl) (by simp) ?_
  refine (AllReadyH.cons rfl (fun K hK => ?_) AllReadyH.nil)
  go_simp
  ((with_reducible refine (HL.out _).mono ?_)); rintro e w6 ⟨rfl, rfl⟩
  go_wp2_with fail
  refine hK.out _ _ ?_ (fun hHeld => ?_)
  ·exact HS5.out _ ((((Kept.refl [] w5).alloc (.cells #[.pointer (some ⟨b, 0, none⟩)] 23)).alloc (.cells #[.int .u64 q9, .int .i64 v.s.sectors, .int .i64 v.s.journal, .int .i64 0, .int .i64 (s.length : Int), .slice pr R.length cr] 58)).drew.pk0 HB5.out)
  clear hK K
  try simp only [Act.put, List.setIfInBounds_toArray, List.set_cons_zero, List.set_cons_succ]
  refine wpAnyH_ready (rs := [12]) (by kernel_rfl) (by simp) ?_
  refine (AllReadyH.cons rfl (fun K hK => ?_) AllReadyH.nil)
  go_simp
  refine hK.out _ _ ?_ (fun hHeld => ?_)
  ·exact HS5.out _ (((((Kept.refl [] w5).alloc (.cells #[.pointer (some ⟨b, 0, none⟩)] 23)).alloc (.cells #[.int .u64 q9, .int .i64 v.s.sectors, .int .i64 v.s.journal, .int .i64 0, .int .i64 (s.length : Int), .slice pr R.length cr] 58)).alloc (.cells #[.func (.func 114) #[] #[.pointer (some ⟨gv, 0, none⟩), .pointer (some ⟨gr, 0, none⟩), .pointer (some ⟨gt, 0, none⟩)], .func (.func 39) #[.pointer (some ⟨b, 0, none⟩)] #[], .func (.func 92) #[] #[.pointer (some ⟨w5.heap.size + 1, 0, none⟩), .pointer (some ⟨w5.heap.size, 0, none⟩)]] 42)).drew.pk0 HB5.out)
  clear hK K
  try simp only [Act.put, List.setIfInBounds_toArray, List.set_cons_zero, List.set_cons_succ]
  obtain ⟨o1, o2, o3⟩ := own_three w5 #[.pointer (some ⟨b, 0, none⟩)] #[.int .u64 q9, .int .i64 v.s.sectors, .int .i64 v.s.journal, .int .i64 0, .int .i64 (s.length : Int), .slice pr R.length cr] #[.func (.func 114) #[] #[.pointer (some ⟨gv, 0, none⟩), .pointer (some ⟨gr, 0, none⟩), .pointer (some ⟨gt, 0, none⟩)], .func (.func 39) #[.pointer (some ⟨b, 0, none⟩)] #[], .func (.func 92) #[] #[.pointer (some ⟨w5.heap.size + 1, 0, none⟩), .pointer (some ⟨w5.heap.size, 0, none⟩)]] 23 58 42
  refine wpAnyH_ready (rs := [13]) (by kernel_rfl) (by simp) ?_
  refine (AllReadyH.cons rfl (fun K hK => ?_) AllReadyH.nil)
  go_simp
  ((with_reducible refine (HALL.out _ (((((Kept.refl [] w5).alloc (.cells #[.pointer (some ⟨b, 0, none⟩)] 23)).alloc (.cells #[.int .u64 q9, .int .i64 v.s.sectors, .int .i64 v.s.journal, .int .i64 0, .int .i64 (s.length : Int), .slice pr R.length cr] 58)).alloc (.cells #[.func (.func 114) #[] #[.pointer (some ⟨gv, 0, none⟩), .pointer (some ⟨gr, 0, none⟩), .pointer (some ⟨gt, 0, none⟩)], .func (.func 39) #[.pointer (some ⟨b, 0, none⟩)] #[], .func (.func 92) #[] #[.pointer (some ⟨w5.heap.size + 1, 0, none⟩), .pointer (some ⟨w5.heap.size, 0, none⟩)]] 42)).drew) _ (w5.heap.size + 1) w5.heap.size (by omega) (by omega) (by omega) o3.drew o2.drew o1.drew).mono ?_)); rintro e w7 ⟨rfl, hD7, k7⟩
  have kk := ((((((Kept.refl [] w5).alloc (.cells #[.pointer (some ⟨b, 0, none⟩)] 23)).alloc (.cells #[.int .u64 q9, .int .i64 v.s.sectors, .int .i64 v.s.journal, .int .i64 0, .int .i64 (s.length : Int), .slice pr R.length cr] 58)).alloc (.cells #[.func (.func 114) #[] #[.pointer (some ⟨gv, 0, none⟩), .pointer (some ⟨gr, 0, none⟩), .pointer (some ⟨gt, 0, none⟩)], .func (.func 39) #[.pointer (some ⟨b, 0, none⟩)] #[], .func (.func 92) #[] #[.pointer (some ⟨w5.heap.size + 1, 0, none⟩), .pointer (some ⟨w5.heap.size, 0, none⟩)]] 42)).drew).pk0 (T := []) (sb := sb) (mb := mb) HB5.out).trans k7
  have KK := Lib.hid kk
  have HD7 := Lib.hid hD7
  clear hD7 kk k7 o1 o2 o3
  go_wp2_with fail
  refine hK.out _ _ ?_ (fun hHeld => ?_)
  ·exact HS5.out _ KK.out
  clear hK K
  try simp only [Act.put, List.setIfInBounds_toArray, List.set_cons_zero, List.set_cons_succ]
  refine take_at (i := 14) (d := some 6) (v := ?_) rfl rfl (by kernel_rfl) (by kernel_rfl) (by kernel_rfl) (fun _ _ _ h => h) (Or.inl ⟨by rfl, ?_⟩) (by assumption) ?_
  rotate_left
  ·(intro w hSw; (try dsimp only at hSw); go_simp; try with_reducible rfl)
  try simp only [Act.put, List.setIfInBounds_toArray, List.set_cons_zero, List.set_cons_succ]
  refine wpAnyH_done (by kernel_rfl) ?_ _
  try simp only [List.set_cons_succ, List.set_cons_zero]
  go_wp2_with fail
  go_meet
  exact ⟨rfl, HD7.out, KK.out⟩
 case rest =>
  obtain ⟨rfl, hD7, k7⟩ := hcut
  rename World => w7
  have hk07 : PK [] b sb mb w w7 := K05.out.trans k7
  have HD7 := Lib.hid hD7
  have K07 := Lib.hid hk07
  have K57 := Lib.hid k7
  have hV7 : VolAt T w7 B b sb mb lo ⟨CC.1, v.s, v.c, v.dead⟩ := HV.out.pk hk07 hD7 (fun x hx => by cases hx) (by simp)
  have HV7 := Lib.hid hV7
  clear hD7 hk07 k7 hV7 y0 y1 y2 y3 y4 y5 y6 y7 HALL HL
  by_cases hC : CC.2 = 0
  ·have e1 : (CC.2 == 0) = true := by rw [hC]; rfl
   have hX3 := HX.out
   rw [if_pos hC] at hX3
   have HX3 := Lib.hid hX3
   have HCZ := Lib.hid hC
   have hS7 : ∀ W, PK [B] b sb mb w7 W → W.cell? ⟨gv, 0, none⟩ = some (.pointer (some ⟨B, 0, none⟩)) ∧ W.cell? ⟨gc, 0, none⟩ = some (.int .u32 c.nextBox) ∧ W.cell? ⟨gc, 1, none⟩ = some (.int .u32 c.nextMan) ∧ W.cell? ⟨gc, 2, none⟩ = some (.slice q1 m1 d1) ∧ W.cell? ⟨gc, 3, none⟩ = some (.slice q2 m2 d2) ∧ W.cell? ⟨gc, 4, none⟩ = some (.slice q3 m3 d3) ∧ W.cell? ⟨gS, 0, none⟩ = some (.int .u64 q9) ∧ W.cell? ⟨gS, 1, none⟩ = some (.int .i64 v.s.sectors) ∧ W.cell? ⟨gS, 2, none⟩ = some (.int .i64 v.s.journal) ∧ W.cell? ⟨gS, 3, none⟩ = some (.int .i64 0) ∧ W.cell? ⟨gS, 4, none⟩ = some (.int .i64 (s.length : Int)) ∧ W.cell? ⟨gS, 5, none⟩ = some (.slice pr R.length cr) := fun W k => by
    have kk := (K07.out.mono (T := [B]) (by simp)).trans k
    obtain ⟨c1, _, _, d0, d1, d2, d3, d4⟩ := HC.out W kk
    obtain ⟨e0, e1, e2, e3, e4, e5⟩ := (((K57.out.mono (T := [B]) (by simp)).trans k).own HOS5.out (HOFFS5.out.toB HV.out.hB)).c6
    exact ⟨c1, d0, d1, d2, d3, d4, e0, e1, e2, e3, e4, e5⟩
   have HS7 := Lib.hid hS7
   have HCAT7 := Lib.hid (HCAT.out.pk (K07.out.mono (T := T) (by simp)))
   have HR7 := Lib.hid (HRO5.out.pk (K57.out.mono (T := T) (by simp)))
   obtain ⟨sv7, vb7, vm7, vn7, o7, _, _⟩ := HV7.out.vol
   unfold volCells at o7
   have O7 := Lib.hid o7
   obtain ⟨y0, y1, y2, y3, y4, y5, y6, y7, y8, y9, y10, y11⟩ := hS7 w7 (PK.refl _ _ _ _ _)
   clear hS7 o7 hC hX3
   go_upto_region 5 with fail
   refine wp_region_held_drew (S := (fun W => W.cell? ⟨gv, 0, none⟩ = some (.pointer (some ⟨B, 0, none⟩)) ∧ W.cell? ⟨gc, 0, none⟩ = some (.int .u32 c.nextBox) ∧ W.cell? ⟨gc, 1, none⟩ = some (.int .u32 c.nextMan) ∧ W.cell? ⟨gc, 2, none⟩ = some (.slice q1 m1 d1) ∧ W.cell? ⟨gc, 3, none⟩ = some (.slice q2 m2 d2) ∧ W.cell? ⟨gc, 4, none⟩ = some (.slice q3 m3 d3) ∧ W.cell? ⟨gS, 0, none⟩ = some (.int .u64 q9) ∧ W.cell? ⟨gS, 1, none⟩ = some (.int .i64 v.s.sectors) ∧ W.cell? ⟨gS, 2, none⟩ = some (.int .i64 v.s.journal) ∧ W.cell? ⟨gS, 3, none⟩ = some (.int .i64 0) ∧ W.cell? ⟨gS, 4, none⟩ = some (.int .i64 (s.length : Int)) ∧ W.cell? ⟨gS, 5, none⟩ = some (.slice pr R.length cr))) (by kernel_rfl) (by exact HS7.out _ (HV7.out.pkB1 (Kept.refl [B] w7).drew)) (fun hHeld => ?_)
   refine take_at (i := 0) (d := some 34) (v := ?_) rfl rfl (by kernel_rfl) (by kernel_rfl) (by kernel_rfl) (fun _ _ _ h => h) (Or.inl ⟨by rfl, ?_⟩) (by assumption) ?_
   rotate_left
   ·(intro w hSw; (try dsimp only at hSw); go_simp; try with_reducible rfl)
   try simp only [Act.put, List.setIfInBounds_toArray, List.set_cons_zero, List.set_cons_succ]
   refine take_at (i := 1) (d := some 35) (v := ?_) rfl rfl (by kernel_rfl) (by kernel_rfl) (by kernel_rfl) (fun _ _ _ h => h) (Or.inl ⟨by rfl, ?_⟩) (by assumption) ?_
   rotate_left
   ·(intro w hSw; (try dsimp only at hSw); go_simp; try with_reducible rfl)
   try simp only [Act.put, List.setIfInBounds_toArray, List.set_cons_zero, List.set_cons_succ]
   refine take_at (i := 2) (d := some 36) (v := ?_) rfl rfl (by kernel_rfl) (by kernel_rfl) (by kernel_rfl) (fun _ _ _ h => h) (Or.inl ⟨by rfl, ?_⟩) (by assumption) ?_
   rotate_left
   ·(intro w hSw; (try dsimp only at hSw); go_simp; try with_reducible rfl)
   try simp only [Act.put, List.setIfInBounds_toArray, List.set_cons_zero, List.set_cons_succ]
   refine take_at (i := 3) (d := some 37) (v := ?_) rfl rfl (by kernel_rfl) (by kernel_rfl) (by kernel_rfl) (fun _ _ _ h => h) (Or.inl ⟨by rfl, ?_⟩) (by assumption) ?_
   rotate_left
   ·(intro w hSw; (try dsimp only at hSw); go_simp; try with_reducible rfl)
   try simp only [Act.put, List.setIfInBounds_toArray, List.set_cons_zero, List.set_cons_succ]
   refine take_at (i := 4) (d := some 38) (v := ?_) rfl rfl (by kernel_rfl) (by kernel_rfl) (by kernel_rfl) (fun _ _ _ h => h) (Or.inl ⟨by rfl, ?_⟩) (by assumption) ?_
   rotate_left
   ·(intro w hSw; (try dsimp only at hSw); go_simp; try with_reducible rfl)
   try simp only [Act.put, List.setIfInBounds_toArray, List.set_cons_zero, List.set_cons_succ]
   refine take_at (i := 5) (d := some 39) (v := ?_) rfl rfl (by kernel_rfl) (by kernel_rfl) (by kernel_rfl) (fun _ _ _ h => h) (Or.inl ⟨by rfl, ?_⟩) (by assumption) ?_
   rotate_left
   ·(intro w hSw; (try dsimp only at hSw); go_simp; try with_reducible rfl)
   try simp only [Act.put, List.setIfInBounds_toArray, List.set_cons_zero, List.set_cons_succ]
   have o8 := O7.out.drew.scat (.int .u32 c.nextBox) (.int .u32 c.nextMan) (.slice q1 m1 d1) (.slice q2 m2 d2) (.slice q3 m3 d3)
   have k8 : Kept [B] w7 (((((w7.drew.setCell ⟨B, 7, none⟩ (.int .u32 c.nextBox)).setCell ⟨B, 8, none⟩ (.int .u32 c.nextMan)).setCell ⟨B, 9, none⟩ (.slice q1 m1 d1)).setCell ⟨B, 10, none⟩ (.slice q2 m2 d2)).setCell ⟨B, 11, none⟩ (.slice q3 m3 d3)) := (((((((Kept.refl [B] w7).drew).setCell (p := ⟨B, 7, none⟩) (Or.inl List.mem_cons_self) (.int .u32 c.nextBox)).setCell (p := ⟨B, 8, none⟩) (Or.inl List.mem_cons_self) (.int .u32 c.nextMan)).setCell (p := ⟨B, 9, none⟩) (Or.inl List.mem_cons_self) (.slice q1 m1 d1)).setCell (p := ⟨B, 10, none⟩) (Or.inl List.mem_cons_self) (.slice q2 m2 d2)).setCell (p := ⟨B, 11, none⟩) (Or.inl List.mem_cons_self) (.slice q3 m3 d3))
   refine wpAnyH_ready (rs := [6]) (by kernel_rfl) (by simp) ?_
   refine (AllReadyH.cons rfl (fun K hK => ?_) AllReadyH.nil)
   refine step_store_mid rfl 52 _ _ rfl B 7 #[.int .u32 c.nextBox, .int .u32 c.nextMan, .slice q1 m1 d1, .slice q2 m2 d2, .slice q3 m3 d3] (by simp [Act.eval, Act.put]) (by simp [Act.eval, Act.put]) (O7.out.drew.there 7 5 (by simp)) (by kernel_rfl) (all_oneCell_toArray (cs := [.int .u32 c.nextBox, .int .u32 c.nextMan, .slice q1 m1 d1, .slice q2 m2 d2, .slice q3 m3 d3]) (by intro u hu; simp at hu; rcases hu with rfl | rfl | rfl | rfl | rfl <;> rfl)) ?_
   rw [setCells_cat]
   generalize (((((w7.drew.setCell ⟨B, 7, none⟩ (.int .u32 c.nextBox)).setCell ⟨B, 8, none⟩ (.int .u32 c.nextMan)).setCell ⟨B, 9, none⟩ (.slice q1 m1 d1)).setCell ⟨B, 10, none⟩ (.slice q2 m2 d2)).setCell ⟨B, 11, none⟩ (.slice q3 m3 d3)) = w8 at *
   have O8 := Lib.hid o8
   have K8 := Lib.hid k8
   clear o8 k8
   refine hK.out _ _ ?_ (fun hHeld => ?_)
   ·exact HS7.out w8 (HV7.out.pkB1 K8.out)
   clear hK K
   try simp only [Act.put, List.setIfInBounds_toArray, List.set_cons_zero, List.set_cons_succ]
   refine take_at (i := 7) (d := some 40) (v := ?_) rfl rfl (by kernel_rfl) (by kernel_rfl) (by kernel_rfl) (fun _ _ _ h => h) (Or.inl ⟨by rfl, ?_⟩) (by assumption) ?_
   rotate_left
   ·(intro w hSw; (try dsimp only at hSw); go_simp; try with_reducible rfl)
   try simp only [Act.put, List.setIfInBounds_toArray, List.set_cons_zero, List.set_cons_succ]
   refine take_at (i := 8) (d := some 41) (v := ?_) rfl rfl (by kernel_rfl) (by kernel_rfl) (by kernel_rfl) (fun _ _ _ h => h) (Or.inl ⟨by rfl, ?_⟩) (by assumption) ?_
   rotate_left
   ·(intro w hSw; (try dsimp only at hSw); go_simp; try with_reducible rfl)
   try simp only [Act.put, List.setIfInBounds_toArray, List.set_cons_zero, List.set_cons_succ]
   have o9 := O8.out.ssup (.int .u64 q9) (.int .i64 v.s.sectors) (.int .i64 v.s.journal) (.int .i64 0) (.int .i64 (s.length : Int)) (.slice pr R.length cr)
   have k9 : Kept [B] w7 ((((((w8.setCell ⟨B, 1, none⟩ (.int .u64 q9)).setCell ⟨B, 2, none⟩ (.int .i64 v.s.sectors)).setCell ⟨B, 3, none⟩ (.int .i64 v.s.journal)).setCell ⟨B, 4, none⟩ (.int .i64 0)).setCell ⟨B, 5, none⟩ (.int .i64 (s.length : Int))).setCell ⟨B, 6, none⟩ (.slice pr R.length cr)) := ((((((K8.out.setCell (p := ⟨B, 1, none⟩) (Or.inl List.mem_cons_self) (.int .u64 q9)).setCell (p := ⟨B, 2, none⟩) (Or.inl List.mem_cons_self) (.int .i64 v.s.sectors)).setCell (p := ⟨B, 3, none⟩) (Or.inl List.mem_cons_self) (.int .i64 v.s.journal)).setCell (p := ⟨B, 4, none⟩) (Or.inl List.mem_cons_self) (.int .i64 0)).setCell (p := ⟨B, 5, none⟩) (Or.inl List.mem_cons_self) (.int .i64 (s.length : Int))).setCell (p := ⟨B, 6, none⟩) (Or.inl List.mem_cons_self) (.slice pr R.length cr))
   refine wpAnyH_ready (rs := [9]) (by kernel_rfl) (by simp) ?_
   refine (AllReadyH.cons rfl (fun K hK => ?_) AllReadyH.nil)
   refine step_store_mid rfl 58 _ _ rfl B 1 #[.int .u64 q9, .int .i64 v.s.sectors, .int .i64 v.s.journal, .int .i64 0, .int .i64 (s.length : Int), .slice pr R.length cr] (by simp [Act.eval, Act.put]) (by simp [Act.eval, Act.put]) (O8.out.there 1 6 (by simp)) (by kernel_rfl) (all_oneCell_toArray (cs := [.int .u64 q9, .int .i64 v.s.sectors, .int .i64 v.s.journal, .int .i64 0, .int .i64 (s.length : Int), .slice pr R.length cr]) (by intro u hu; simp at hu; rcases hu with rfl | rfl | rfl | rfl | rfl | rfl <;> rfl)) ?_
   rw [setCells_sup]
   generalize ((((((w8.setCell ⟨B, 1, none⟩ (.int .u64 q9)).setCell ⟨B, 2, none⟩ (.int .i64 v.s.sectors)).setCell ⟨B, 3, none⟩ (.int .i64 v.s.journal)).setCell ⟨B, 4, none⟩ (.int .i64 0)).setCell ⟨B, 5, none⟩ (.int .i64 (s.length : Int))).setCell ⟨B, 6, none⟩ (.slice pr R.length cr)) = w9 at *
   have O9 := Lib.hid o9
   have K9 := Lib.hid k9
   clear o9 k9
   refine hK.out _ _ ?_ (fun hHeld => ?_)
   ·exact HS7.out w9 (HV7.out.pkB1 K9.out)
   clear hK K
   try simp only [Act.put, List.setIfInBounds_toArray, List.set_cons_zero, List.set_cons_succ]
   have hv9 : VolAt T w9 B b sb mb lo ⟨CC.1, baseS v.s s.length R, c, v.dead⟩ := HV7.out.setV (s := baseS v.s s.length R) (c := c) (dead := v.dead) K9.out (by
    have e : ((baseS v.s s.length R).seq : Int) = q9 := HQ9.out
    unfold volCells
    rw [e]
    exact O9.out) HR7.out HCAT7.out
   have HV9 := Lib.hid hv9
   clear hv9
   refine wpAnyH_done (by kernel_rfl) ?_ _
   try simp only [List.set_cons_succ, List.set_cons_zero]
   go_wp2_with fail
   go_ret
   rw [HX3.out]
   exact ⟨by rw [HCZ.out]; rfl, HV9.out, (K07.out.mono (by simp)).trans (HV7.out.pkB1 K9.out)⟩
  ·have e1 : (CC.2 == 0) = false := by rw [beq_eq_false_iff_ne]; exact hC
   have hX3 := HX.out
   rw [if_neg hC] at hX3
   have HX3 := Lib.hid hX3
   clear hX3 hC
   go_wp2_with fail
   go_ret
   rw [HX3.out]
   exact ⟨rfl, HV7.out, K07.out.mono (by simp)⟩
end Go.Proofs.YtdkimcnlhmhpgaaGreat
