/- -/
import Derived.Test.YtdkimcnlhmhpgaaGreatH10
import Derived.Test.YtdkimcnlhmhpgaaGreatH36
set_option linter.unusedVariables false
set_option linter.unusedSimpArgs false
namespace Go.Proofs.YtdkimcnlhmhpgaaGreat
open Go.RowKit
theorem ucheck {T : List Nat} {w : World} {B b sb mb lo : Nat} {v : VS} (h : VolAt T w B b sb mb lo v) : Calls Tryz.prog 42 #[.pointer (some ⟨B, 0, none⟩)] w fun e w' => e = .returned (.int .i64 (if v.dead = true then 90 else 0)) ∧ w = w' := by
 obtain ⟨sv, vb, vm, vn, o, _, _⟩ := h.vol
 obtain ⟨x0, x1, x2, x3, x4, x5, x6, x7, x8, x9, x10, x11, x12⟩ := o.c13
 clear h o
 cases hd : v.dead
 ·rw [hd] at x12
  clear x1 x2 x3 x4 x5 x6 x7 x8 x9 x10 x11
  rw [if_neg (by simp)]
  go_enter Tryz.func42, Tryz.ntmps42
  go_wp2_with fail
  go_ret
  exact ⟨rfl, rfl⟩
 ·rw [hd] at x12
  clear x1 x2 x3 x4 x5 x6 x7 x8 x9 x10 x11
  rw [if_pos rfl]
  go_enter Tryz.func42, Tryz.ntmps42
  go_wp2_with fail
  go_ret
  exact ⟨rfl, rfl⟩
set_option maxRecDepth 100000 in
theorem utell {T : List Nat} {w : World} {B b sb mb lo : Nat} {v : VS} (h : VolAt T w B b sb mb lo v) (c : Int) (hc : (Lit.int .i64 c).wf = true) : Calls Tryz.prog 51 #[.pointer (some ⟨B, 0, none⟩), .int .i64 c] w fun e w' => e = .returned (.int .i64 c) ∧ VolAt T w' B b sb mb lo (tellX (v, c)).1 ∧ Kept [B] w w' := by
 have HS : Hid (∀ x, x = (v.dead || c == 90) → VolAt T (w.setCell ⟨B, 12, none⟩ (.bool x)) B b sb mb lo (tellX (v, c)).1) := Lib.hid (by
  rintro x rfl
  obtain ⟨sv, vb, vm, vn, o, hr, hcat⟩ := h.vol
  exact h.setV ((Kept.refl [B] w).setCell (p := ⟨B, 12, none⟩) (Or.inl (by simp)) _) (o.s12 _) hr hcat)
 obtain ⟨sv, vb, vm, vn, o, _, _⟩ := h.vol
 obtain ⟨x0, x1, x2, x3, x4, x5, x6, x7, x8, x9, x10, x11, x12⟩ := o.c13
 have z12 := o.free 12
 clear h o x0 x1 x2 x3 x4 x5 x6 x7 x8 x9 x10 x11
 generalize hb90 : (c == 90) = q at *
 generalize tellX (v, c) = R at *
 generalize v.dead = dd at *
 have k1 : Kept [B] w (w.setCell ⟨B, 12, none⟩ (.bool (dd || q))) := (Kept.refl [B] w).setCell (p := ⟨B, 12, none⟩) (Or.inl (by simp)) _
 have K1 := Lib.hid k1
 clear k1
 cases dd <;> cases q
 all_goals
  go_enter Tryz.func51, Tryz.ntmps51
  go_wp2_with fail
  go_ret
  exact ⟨rfl, HS.out _ rfl, K1.out⟩
theorem ucomes (k : Int) (w : World) : Calls Tryz.prog 47 #[.int .i64 k] w fun e w' => e = .returned (.bool (kBlob k)) ∧ w = w' := by
 unfold kBlob
 cases h1 : (k == 1) <;> cases h2 : (k == 2) <;> cases h3 : (k == 3)
 all_goals
  go_enter Tryz.func47, Tryz.ntmps47
  go_wp2_with fail
  go_ret
  exact ⟨rfl, rfl⟩
def VC.cells (x : VC) : Array Value := #[.int .i64 x.kind, .int .u32 x.id, .string (bs x.name), .string (bs x.bytes)]
theorem uallV {T S : List Nat} (fs : List (VS → VS × Int)) (us : List (Nat × Array Value × Array Value)) (hl : us.length = fs.length) (g off c : Nat) {w : World} {B b sb mb lo : Nat} {v : VS} (hV : VolAt T w B b sb mb lo v) (hn : us.length ≤ 1000)
  (hen : ∀ (i : Nat) (h : i < us.length), Enters Tryz.prog us[i].1)
  (hcell : ∀ W, PK S b sb mb w W → ∀ (i : Nat) (h : i < us.length), W.cell? ⟨g, off + i, none⟩ = some (.func (.func us[i].1) us[i].2.1 us[i].2.2))
  (hstep : ∀ (k : Nat) (h : k < us.length) W, VolAt T W B b sb mb lo (stV fs v k) → PK S b sb mb w W → (∀ i (hi : i < k), ((fs[i]'(by omega)) (stV fs v i)).2 = 0) → Calls Tryz.prog us[k].1 (us[k].2.1 ++ us[k].2.2) W fun e W' => e = .returned (.int .i64 ((fs[k]'(hl ▸ h)) (stV fs v k)).2) ∧ VolAt T W' B b sb mb lo ((fs[k]'(hl ▸ h)) (stV fs v k)).1 ∧ PK S b sb mb W W') :
  Calls Tryz.prog 37 #[.slice (some ⟨g, off, none⟩) us.length c] w fun e w' => e = .returned (.int .i64 (chainV fs v).2) ∧ VolAt T w' B b sb mb lo (chainV fs v).1 ∧ PK S b sb mb w w' := by
 refine (uall us (fun k => if h : k < fs.length then (fs[k] (stV fs v k)).2 else 0) (fun k W => VolAt T W B b sb mb lo (stV fs v k) ∧ PK S b sb mb w W) g off c w hn hen ⟨hV, PK.refl _ _ _ _ _⟩ (fun k W hI i h => hcell W hI.2 i h) (fun k h W hI hz => ?_)).mono ?_
 ·have hk : k < fs.length := hl ▸ h
  refine (hstep k h W hI.1 hI.2 (fun i hi => ?_)).mono ?_
  ·have := hz i hi
   rw [dif_pos (by omega)] at this
   exact this
  ·rintro e W' ⟨h1, h2, h3⟩
   rw [dif_pos hk, stV_succ fs v k hk]
   exact ⟨h1, h2, hI.2.trans h3⟩
 ·rintro e w' (⟨k, h1, h2, h3, h4, h5, h6⟩ | ⟨h2, h4, h5, h6⟩)
  ·have hk : k < fs.length := hl ▸ h1
   rw [dif_pos hk] at h3 h4
   rw [stV_succ fs v k hk] at h5
   rw [chainV_stop fs v k hk (fun i hi => by
    have := h2 i hi
    rw [dif_pos (by omega)] at this
    exact this) h3]
   exact ⟨h4, h5, h6⟩
  ·rw [chainV_end fs v (fun i hi => by
    have := h2 i (by omega)
    rw [dif_pos hi] at this
    exact this)]
   rw [hl] at h5
   exact ⟨h4, h5, h6⟩
theorem uflay {T : List Nat} (n gS gD : Nat) (s : SB) (rv : Value) {w : World} {b sb mb lo : Nat} {d : DK} (hD : DA w b sb mb lo d) (hT : ∀ x ∈ T, x < w.heap.size)
  (on : Own w n #[.func (.func 39) #[.pointer (some ⟨b, 0, none⟩)] #[], .func (.func 92) #[] #[.pointer (some ⟨gS, 0, none⟩), .pointer (some ⟨gD, 0, none⟩)]] 42)
  (hS : Own w gS (s.cells rv) 58) (hd : Own w gD #[.pointer (some ⟨b, 0, none⟩)] 23)
  (f0 : OffD T w b sb mb n) (fS : OffD T w b sb mb gS) (fD : OffD T w b sb mb gD) (hr : RunsO T w b sb mb rv s.runs)
  (hm : s.may) (hq : s.seq < 18446744073709551616) (ho : d.ops ≤ 80000) (hw : d.waits.length ≤ 8000) :
  Calls Tryz.prog 37 #[.slice (some ⟨n, 0, none⟩) 2 2] w fun e w' => e = .returned (.int .i64 (chainD [stepF, layD s] d).2) ∧ DA w' b sb mb lo (chainD [stepF, layD s] d).1 ∧ PK T b sb mb w w' := by
 refine uallD [stepF, layD s] [(39, #[.pointer (some ⟨b, 0, none⟩)], #[]), (92, #[], #[.pointer (some ⟨gS, 0, none⟩), .pointer (some ⟨gD, 0, none⟩)])] rfl n 0 2 hD (by simp) (fun k h => ?_) on.lt f0 (fun k h => ?_) (fun k h W hW hk _ => ?_)
 ·match k, h with
  | 0, _ => exact enters_of Tryz.func39 (by kernel_rfl) rfl
  | 1, _ => exact enters_of Tryz.func92 (by kernel_rfl) rfl
 ·match k, h with
  | 0, _ => exact on.cell 0 (by simp)
  | 1, _ => exact on.cell 1 (by simp)
 ·have e3 := stepF_few d
  match k, h with
  | 0, _ => exact uflush hW (by show d.ops < _; omega) (by show d.waits.length ≤ _; omega)
  | 1, _ =>
   have := ulaid1 (T := T) gS gD s rv hW (fun x hx => Nat.lt_of_lt_of_le (hT x hx) hk.size) (hk.own hS fS) (hk.own hd fD) (hr.pk hk) hm hq (fS.pk hk hS.lt) (fD.pk hk hd.lt) (by show (stepF d).1.ops ≤ _; omega) (by show (stepF d).1.waits.length ≤ _; omega)
   exact this
set_option maxRecDepth 100000 in
set_option maxHeartbeats 4000000 in
theorem usettle11 {T : List Nat} (gv gr gt : Nat) (rv : Value) (R : List (Int × Int)) (s : List UInt8) {w : World} {B b sb mb lo lo1 hi1 : Nat} {v : VS} (hV : VolAt T w B b sb mb lo v)
  (hc : ∀ W, PK [] b sb mb w W → W.cell? ⟨gv, 0, none⟩ = some (.pointer (some ⟨B, 0, none⟩)) ∧ W.cell? ⟨gr, 0, none⟩ = some rv ∧ W.cell? ⟨gt, 0, none⟩ = some (.string (bs s)))
  (hR : RunsIn w rv R lo1 hi1) (hl : R.length ≤ 1000000) (hwf : ∀ a ∈ R, WfRun a) (hs : s.length ≤ 1048576) (ho : v.d.ops ≤ 90000) (hw : v.d.waits.length ≤ 1800) :
  Calls Tryz.prog 114 #[.pointer (some ⟨gv, 0, none⟩), .pointer (some ⟨gr, 0, none⟩), .pointer (some ⟨gt, 0, none⟩)] w fun e w' => e = .returned (.int .i64 (onD (fun d => putX d R s) v).2) ∧ VolAt T w' B b sb mb lo (onD (fun d => putX d R s) v).1 ∧ PK [] b sb mb w w' := by
 have HP : Hid (∀ W, Kept [] w W → Calls Tryz.prog 49 #[.pointer (some ⟨b, 0, none⟩), rv, .string (bs s)] W fun e w' => e = .returned (.int .i64 (putX v.d R s).2) ∧ DA w' b sb mb lo (putX v.d R s).1 ∧ PK [] b sb mb W w') := Lib.hid (fun W k => bputP rv R s lo1 hi1 (hV.da.keep0 k) (hR.kept0 k) hl hwf hs ho hw)
 have HS : Hid (∀ W, PK [] b sb mb w W → W.cell? ⟨gv, 0, none⟩ = some (.pointer (some ⟨B, 0, none⟩)) ∧ W.cell? ⟨B, 0, none⟩ = some (.pointer (some ⟨b, 0, none⟩)) ∧ W.cell? ⟨gr, 0, none⟩ = some rv ∧ W.cell? ⟨gt, 0, none⟩ = some (.string (bs s))) := Lib.hid (fun W k => by
  obtain ⟨c1, c2, c3⟩ := hc W k
  obtain ⟨sv, vb, vm, vn, o, _, _⟩ := hV.vol
  exact ⟨c1, (k.own o ⟨by simp, hV.off.2⟩).cell 0 (by simp [volCells]), c2, c3⟩)
 have HV : Hid (∀ W, PK [] b sb mb w W → DA W b sb mb lo (putX v.d R s).1 → VolAt T W B b sb mb lo (onD (fun d => putX d R s) v).1) := Lib.hid (fun W k hD => hV.pk k hD (fun x hx => by cases hx) (by simp))
 have HB := Lib.hid hV.b_lt
 obtain ⟨x0, x1, x2, x3⟩ := HS.out w (PK.refl _ _ _ _ _)
 obtain ⟨p1, c1, rfl⟩ := hR.shape
 clear hV hc hR hl hwf hs ho hw
 simp only [onD] at HV ⊢
 generalize putX v.d R s = F at *
 go_enter Tryz.func114, Tryz.ntmps114
 go_upto_region 1 with fail
 refine wp_region_held_drew (S := (fun W => W.cell? ⟨gv, 0, none⟩ = some (.pointer (some ⟨B, 0, none⟩)) ∧ W.cell? ⟨B, 0, none⟩ = some (.pointer (some ⟨b, 0, none⟩)) ∧ W.cell? ⟨gr, 0, none⟩ = some (.slice p1 R.length c1) ∧ W.cell? ⟨gt, 0, none⟩ = some (.string (bs s)))) (by kernel_rfl) (by exact HS.out _ ((Kept.refl [] w).drew.pk0 HB.out)) (fun hHeld => ?_)
 refine take_at (i := 0) (d := some 4) (v := ?_) rfl rfl (by kernel_rfl) (by kernel_rfl) (by kernel_rfl) (fun _ _ _ h => h) (Or.inl ⟨by rfl, ?_⟩) (by assumption) ?_
 rotate_left
 ·(intro w hSw; (try dsimp only at hSw); go_simp; try with_reducible rfl)
 try simp only [Act.put, List.setIfInBounds_toArray, List.set_cons_zero, List.set_cons_succ]
 refine take_at (i := 1) (d := some 5) (v := ?_) rfl rfl (by kernel_rfl) (by kernel_rfl) (by kernel_rfl) (fun _ _ _ h => h) (Or.inl ⟨by rfl, ?_⟩) (by assumption) ?_
 rotate_left
 ·(intro w hSw; (try dsimp only at hSw); go_simp; try with_reducible rfl)
 try simp only [Act.put, List.setIfInBounds_toArray, List.set_cons_zero, List.set_cons_succ]
 refine take_at (i := 2) (d := some 6) (v := ?_) rfl rfl (by kernel_rfl) (by kernel_rfl) (by kernel_rfl) (fun _ _ _ h => h) (Or.inl ⟨by rfl, ?_⟩) (by assumption) ?_
 rotate_left
 ·(intro w hSw; (try dsimp only at hSw); go_simp; try with_reducible rfl)
 try simp only [Act.put, List.setIfInBounds_toArray, List.set_cons_zero, List.set_cons_succ]
 refine take_at (i := 3) (d := some 7) (v := ?_) rfl rfl (by kernel_rfl) (by kernel_rfl) (by kernel_rfl) (fun _ _ _ h => h) (Or.inl ⟨by rfl, ?_⟩) (by assumption) ?_
 rotate_left
 ·(intro w hSw; (try dsimp only at hSw); go_simp; try with_reducible rfl)
 try simp only [Act.put, List.setIfInBounds_toArray, List.set_cons_zero, List.set_cons_succ]
 refine take_at (i := 4) (d := some 8) (v := ?_) rfl rfl (by kernel_rfl) (by kernel_rfl) (by kernel_rfl) (fun _ _ _ h => h) (Or.inl ⟨by rfl, ?_⟩) (by assumption) ?_
 rotate_left
 ·(intro w hSw; (try dsimp only at hSw); go_simp; try with_reducible rfl)
 try simp only [Act.put, List.setIfInBounds_toArray, List.set_cons_zero, List.set_cons_succ]
 refine take_at (i := 5) (d := some 9) (v := ?_) rfl rfl (by kernel_rfl) (by kernel_rfl) (by kernel_rfl) (fun _ _ _ h => h) (Or.inl ⟨by rfl, ?_⟩) (by assumption) ?_
 rotate_left
 ·(intro w hSw; (try dsimp only at hSw); go_simp; try with_reducible rfl)
 try simp only [Act.put, List.setIfInBounds_toArray, List.set_cons_zero, List.set_cons_succ]
 refine wpAnyH_ready (rs := [6]) (by kernel_rfl) (by simp) ?_
 refine (AllReadyH.cons rfl (fun K hK => ?_) AllReadyH.nil)
 go_simp
 ((with_reducible refine (HP.out _ ((Kept.refl [] w).drew)).mono ?_)); rintro e w2 ⟨rfl, hD2, k2⟩
 have kk := ((Kept.refl [] w).drew.pk0 (T := []) (sb := sb) (mb := mb) HB.out).trans k2
 have KK := Lib.hid kk
 have HD2 := Lib.hid hD2
 clear hD2 kk k2
 go_wp2_with fail
 refine hK.out _ _ ?_ (fun hHeld => ?_)
 ·exact HS.out _ KK.out
 clear hK K
 try simp only [Act.put, List.setIfInBounds_toArray, List.set_cons_zero, List.set_cons_succ]
 refine take_at (i := 7) (d := some 3) (v := ?_) rfl rfl (by kernel_rfl) (by kernel_rfl) (by kernel_rfl) (fun _ _ _ h => h) (Or.inl ⟨by rfl, ?_⟩) (by assumption) ?_
 rotate_left
 ·(intro w hSw; (try dsimp only at hSw); go_simp; try with_reducible rfl)
 try simp only [Act.put, List.setIfInBounds_toArray, List.set_cons_zero, List.set_cons_succ]
 refine wpAnyH_done (by kernel_rfl) ?_ _
 try simp only [List.set_cons_succ, List.set_cons_zero]
 go_wp2_with fail
 go_ret
 exact ⟨rfl, HV.out _ KK.out HD2.out, KK.out⟩
set_option maxRecDepth 100000 in
set_option maxHeartbeats 4000000 in
theorem uchange1 {T : List Nat} (gv gr gi gx rb ro rn rc i : Nat) (rv : Value) (R : List (Int × Int)) (s : List UInt8) {w : World} {B b sb mb lo lo1 hi1 : Nat} {v : VS} (hV : VolAt T w B b sb mb lo v)
  (hc : ∀ W, PK [] b sb mb w W → W.cell? ⟨gv, 0, none⟩ = some (.pointer (some ⟨B, 0, none⟩)) ∧ W.cell? ⟨gr, 0, none⟩ = some (.slice (some ⟨rb, ro, none⟩) rn rc) ∧ W.cell? ⟨gi, 0, none⟩ = some (.int .i64 i) ∧ W.cell? ⟨rb, ro + i * 5 + 4, none⟩ = some rv ∧ W.cell? ⟨gx, 3, none⟩ = some (.string (bs s))) (hi : i < rn) (hrn : rn ≤ 1000000)
  (hR : RunsIn w rv R lo1 hi1) (hl : R.length ≤ 1000000) (hwf : ∀ a ∈ R, WfRun a) (hs : s.length ≤ 1048576) (ho : v.d.ops ≤ 90000) (hw : v.d.waits.length ≤ 1800) :
  Calls Tryz.prog 48 #[.pointer (some ⟨gv, 0, none⟩), .pointer (some ⟨gr, 0, none⟩), .pointer (some ⟨gi, 0, none⟩), .pointer (some ⟨gx, 0, none⟩)] w fun e w' => e = .returned (.int .i64 (onD (fun d => putX d R s) v).2) ∧ VolAt T w' B b sb mb lo (onD (fun d => putX d R s) v).1 ∧ PK [] b sb mb w w' := by
 have HP : Hid (∀ W, Kept [] w W → Calls Tryz.prog 49 #[.pointer (some ⟨b, 0, none⟩), rv, .string (bs s)] W fun e w' => e = .returned (.int .i64 (putX v.d R s).2) ∧ DA w' b sb mb lo (putX v.d R s).1 ∧ PK [] b sb mb W w') := Lib.hid (fun W k => bputP rv R s lo1 hi1 (hV.da.keep0 k) (hR.kept0 k) hl hwf hs ho hw)
 have HS : Hid (∀ W, PK [] b sb mb w W → W.cell? ⟨gv, 0, none⟩ = some (.pointer (some ⟨B, 0, none⟩)) ∧ W.cell? ⟨B, 0, none⟩ = some (.pointer (some ⟨b, 0, none⟩)) ∧ W.cell? ⟨gr, 0, none⟩ = some (.slice (some ⟨rb, ro, none⟩) rn rc) ∧ W.cell? ⟨gi, 0, none⟩ = some (.int .i64 i) ∧ W.cell? ⟨rb, ro + i * 5 + 4, none⟩ = some rv ∧ W.cell? ⟨gx, 3, none⟩ = some (.string (bs s))) := Lib.hid (fun W k => by
  obtain ⟨c1, c2, c3, c4, c5⟩ := hc W k
  obtain ⟨sv, vb, vm, vn, o, _, _⟩ := hV.vol
  exact ⟨c1, (k.own o ⟨by simp, hV.off.2⟩).cell 0 (by simp [volCells]), c2, c3, c4, c5⟩)
 have HV : Hid (∀ W, PK [] b sb mb w W → DA W b sb mb lo (putX v.d R s).1 → VolAt T W B b sb mb lo (onD (fun d => putX d R s) v).1) := Lib.hid (fun W k hD => hV.pk k hD (fun x hx => by cases hx) (by simp))
 have HB := Lib.hid hV.b_lt
 obtain ⟨x0, x1, x2, x3, x4, x5⟩ := HS.out w (PK.refl _ _ _ _ _)
 obtain ⟨p1, c1, rfl⟩ := hR.shape
 have i1 : (i : Int) < rn := by omega
 clear hV hc hR hl hwf hs ho hw
 simp only [onD] at HV ⊢
 generalize putX v.d R s = F at *
 go_enter Tryz.func48, Tryz.ntmps48
 go_upto_region 1 with fail
 refine wp_region_held_drew (S := (fun W => W.cell? ⟨gv, 0, none⟩ = some (.pointer (some ⟨B, 0, none⟩)) ∧ W.cell? ⟨B, 0, none⟩ = some (.pointer (some ⟨b, 0, none⟩)) ∧ W.cell? ⟨gr, 0, none⟩ = some (.slice (some ⟨rb, ro, none⟩) rn rc) ∧ W.cell? ⟨gi, 0, none⟩ = some (.int .i64 i) ∧ W.cell? ⟨rb, ro + i * 5 + 4, none⟩ = some (.slice p1 R.length c1) ∧ W.cell? ⟨gx, 3, none⟩ = some (.string (bs s)))) (by kernel_rfl) (by exact HS.out _ ((Kept.refl [] w).drew.pk0 HB.out)) (fun hHeld => ?_)
 refine take_at (i := 0) (d := some 5) (v := ?_) rfl rfl (by kernel_rfl) (by kernel_rfl) (by kernel_rfl) (fun _ _ _ h => h) (Or.inl ⟨by rfl, ?_⟩) (by assumption) ?_
 rotate_left
 ·(intro w hSw; (try dsimp only at hSw); go_simp; try with_reducible rfl)
 try simp only [Act.put, List.setIfInBounds_toArray, List.set_cons_zero, List.set_cons_succ]
 refine take_at (i := 1) (d := some 6) (v := ?_) rfl rfl (by kernel_rfl) (by kernel_rfl) (by kernel_rfl) (fun _ _ _ h => h) (Or.inl ⟨by rfl, ?_⟩) (by assumption) ?_
 rotate_left
 ·(intro w hSw; (try dsimp only at hSw); go_simp; try with_reducible rfl)
 try simp only [Act.put, List.setIfInBounds_toArray, List.set_cons_zero, List.set_cons_succ]
 refine take_at (i := 2) (d := some 7) (v := ?_) rfl rfl (by kernel_rfl) (by kernel_rfl) (by kernel_rfl) (fun _ _ _ h => h) (Or.inl ⟨by rfl, ?_⟩) (by assumption) ?_
 rotate_left
 ·(intro w hSw; (try dsimp only at hSw); go_simp; try with_reducible rfl)
 try simp only [Act.put, List.setIfInBounds_toArray, List.set_cons_zero, List.set_cons_succ]
 refine take_at (i := 3) (d := some 8) (v := ?_) rfl rfl (by kernel_rfl) (by kernel_rfl) (by kernel_rfl) (fun _ _ _ h => h) (Or.inl ⟨by rfl, ?_⟩) (by assumption) ?_
 rotate_left
 ·(intro w hSw; (try dsimp only at hSw); go_simp; try with_reducible rfl)
 try simp only [Act.put, List.setIfInBounds_toArray, List.set_cons_zero, List.set_cons_succ]
 refine take_at (i := 4) (d := some 9) (v := ?_) rfl rfl (by kernel_rfl) (by kernel_rfl) (by kernel_rfl) (fun _ _ _ h => h) (Or.inl ⟨by rfl, ?_⟩) (by assumption) ?_
 rotate_left
 ·(intro w hSw; (try dsimp only at hSw); go_simp; try with_reducible rfl)
 try simp only [Act.put, List.setIfInBounds_toArray, List.set_cons_zero, List.set_cons_succ]
 refine take_at (i := 5) (d := some 10) (v := ?_) rfl rfl (by kernel_rfl) (by kernel_rfl) (by kernel_rfl) (fun _ _ _ h => h) (Or.inl ⟨by rfl, ?_⟩) (by assumption) ?_
 rotate_left
 ·(intro w hSw; (try dsimp only at hSw); go_simp; try with_reducible rfl)
 try simp only [Act.put, List.setIfInBounds_toArray, List.set_cons_zero, List.set_cons_succ]
 refine take_at (i := 6) (d := some 11) (v := ?_) rfl rfl (by kernel_rfl) (by kernel_rfl) (by kernel_rfl) (fun _ _ _ h => h) (Or.inl ⟨by rfl, ?_⟩) (by assumption) ?_
 rotate_left
 ·(intro w hSw; (try dsimp only at hSw); go_simp; try with_reducible rfl)
 try simp only [Act.put, List.setIfInBounds_toArray, List.set_cons_zero, List.set_cons_succ]
 refine take_at (i := 7) (d := some 12) (v := ?_) rfl rfl (by kernel_rfl) (by kernel_rfl) (by kernel_rfl) (fun _ _ _ h => h) (Or.inl ⟨by rfl, ?_⟩) (by assumption) ?_
 rotate_left
 ·(intro w hSw; (try dsimp only at hSw); go_simp; try with_reducible rfl)
 try simp only [Act.put, List.setIfInBounds_toArray, List.set_cons_zero, List.set_cons_succ]
 refine take_at (i := 8) (d := some 13) (v := ?_) rfl rfl (by kernel_rfl) (by kernel_rfl) (by kernel_rfl) (fun _ _ _ h => h) (Or.inl ⟨by rfl, ?_⟩) (by assumption) ?_
 rotate_left
 ·(intro w hSw; (try dsimp only at hSw); go_simp; try with_reducible rfl)
 try simp only [Act.put, List.setIfInBounds_toArray, List.set_cons_zero, List.set_cons_succ]
 refine take_at (i := 9) (d := some 14) (v := ?_) rfl rfl (by kernel_rfl) (by kernel_rfl) (by kernel_rfl) (fun _ _ _ h => h) (Or.inl ⟨by rfl, ?_⟩) (by assumption) ?_
 rotate_left
 ·(intro w hSw; (try dsimp only at hSw); go_simp; try with_reducible rfl)
 try simp only [Act.put, List.setIfInBounds_toArray, List.set_cons_zero, List.set_cons_succ]
 refine take_at (i := 10) (d := some 15) (v := ?_) rfl rfl (by kernel_rfl) (by kernel_rfl) (by kernel_rfl) (fun _ _ _ h => h) (Or.inl ⟨by rfl, ?_⟩) (by assumption) ?_
 rotate_left
 ·(intro w hSw; (try dsimp only at hSw); go_simp; try with_reducible rfl)
 try simp only [Act.put, List.setIfInBounds_toArray, List.set_cons_zero, List.set_cons_succ]
 refine wpAnyH_ready (rs := [11]) (by kernel_rfl) (by simp) ?_
 refine (AllReadyH.cons rfl (fun K hK => ?_) AllReadyH.nil)
 go_simp
 ((with_reducible refine (HP.out _ ((Kept.refl [] w).drew)).mono ?_)); rintro e w2 ⟨rfl, hD2, k2⟩
 have kk := ((Kept.refl [] w).drew.pk0 (T := []) (sb := sb) (mb := mb) HB.out).trans k2
 have KK := Lib.hid kk
 have HD2 := Lib.hid hD2
 clear hD2 kk k2
 go_wp2_with fail
 refine hK.out _ _ ?_ (fun hHeld => ?_)
 ·exact HS.out _ KK.out
 clear hK K
 try simp only [Act.put, List.setIfInBounds_toArray, List.set_cons_zero, List.set_cons_succ]
 refine take_at (i := 12) (d := some 4) (v := ?_) rfl rfl (by kernel_rfl) (by kernel_rfl) (by kernel_rfl) (fun _ _ _ h => h) (Or.inl ⟨by rfl, ?_⟩) (by assumption) ?_
 rotate_left
 ·(intro w hSw; (try dsimp only at hSw); go_simp; try with_reducible rfl)
 try simp only [Act.put, List.setIfInBounds_toArray, List.set_cons_zero, List.set_cons_succ]
 refine wpAnyH_done (by kernel_rfl) ?_ _
 try simp only [List.set_cons_succ, List.set_cons_zero]
 go_wp2_with fail
 go_ret
 exact ⟨rfl, HV.out _ KK.out HD2.out, KK.out⟩
theorem put_ok (al : List Nat) : ∀ (d : DK) (s : List UInt8), Fit d → d.down = false → d.fuse < 0 → (∀ a ∈ al, a < d.stand.length) → al.Nodup →
  ∃ d', putL al d s = (d', 0) ∧ d'.stand = d.stand ∧ d'.down = false ∧ d'.fuse = d.fuse ∧ Fit d' ∧ d'.ops = d.ops + al.length ∧ d'.waits.length = d.waits.length + al.length ∧ (∀ i, i ∉ al → seen d' i = seen d i) ∧ ∀ i (h : i < al.length), seen d' al[i] = chunk (s.drop (128 * i)) := by
 induction al with
 | nil =>
  intro d s hf hd hfu _ _
  exact ⟨d, rfl, rfl, hd, rfl, hf, rfl, rfl, fun _ _ => rfl, fun i h => absurd h (Nat.not_lt_zero _)⟩
 | cons a t ih =>
  intro d s hf hd hfu hlt hnd
  have ha := hlt a List.mem_cons_self
  obtain ⟨hat, hnt⟩ := List.nodup_cons.1 hnd
  obtain ⟨hc, hn⟩ := write_ok (s := s) hd hfu ha
  have hdn : (writeD d a (chunk s)).down = false := by
   show (if d.fuse = 0 then true else d.down) = false
   rw [if_neg (by omega), hd]
  have hfn : (writeD d a (chunk s)).fuse = d.fuse := by
   show (if 0 < d.fuse then d.fuse - 1 else d.fuse) = d.fuse
   rw [if_neg (by omega)]
  have hfit : Fit (writeD d a (chunk s)) := by rw [← hn]; exact hf.write _ _
  have hops : (writeD d a (chunk s)).ops = d.ops + 1 := rfl
  have hwl : (writeD d a (chunk s)).waits.length = d.waits.length + 1 := by show (d.waits ++ [_]).length = _; rw [List.length_append]; rfl
  obtain ⟨d', e1, e2, e3, e4, e5, eo, ew, e6, e7⟩ := ih (writeD d a (chunk s)) (s.drop 128) hfit hdn (by rw [hfn]; exact hfu) (fun x hx => hlt x (List.mem_cons_of_mem _ hx)) hnt
  refine ⟨d', ?_, e2, e3, e4.trans hfn, e5, by rw [eo, hops, List.length_cons]; omega, by rw [ew, hwl, List.length_cons]; omega, fun i hi => ?_, fun i h => ?_⟩
  ·rw [putL, if_pos hc, hn, e1]
  ·rw [e6 i (fun h => hi (List.mem_cons_of_mem _ h)), seen_write, if_neg (fun h => hi (by subst h; exact List.mem_cons_self))]
  ·cases i with
   | zero =>
    show seen d' a = _
    rw [e6 a hat, seen_write, if_pos rfl]; rfl
   | succ i =>
    have := e7 i (by simpa using h)
    rw [List.drop_drop, show 128 + 128 * i = 128 * (i + 1) from by omega] at this
    exact this
theorem getL_chunks (al : List Nat) : ∀ (d : DK) (s : List UInt8), (∀ i (h : i < al.length), seen d al[i] = chunk (s.drop (128 * i))) → getL d al = chunksL al.length s := by
 induction al with
 | nil => intro d s _; rfl
 | cons a t ih =>
  intro d s h
  have e : getL d (a :: t) = seen d a ++ getL d t := rfl
  have h0 := h 0 (by simp)
  simp only [Nat.mul_zero, List.drop_zero, List.getElem_cons_zero] at h0
  rw [e, List.length_cons, chunksL, h0, ih d (s.drop 128) (fun i hi => by
   have := h (i + 1) (by simpa using hi)
   rw [List.drop_drop, show 128 + 128 * i = 128 * (i + 1) from by omega]
   simpa using this)]
theorem getL_same {d d' : DK} (al : List Nat) (h : ∀ a ∈ al, seen d' a = seen d a) : getL d' al = getL d al := by
 unfold getL
 congr 1
 exact List.map_congr_left h
end Go.Proofs.YtdkimcnlhmhpgaaGreat
