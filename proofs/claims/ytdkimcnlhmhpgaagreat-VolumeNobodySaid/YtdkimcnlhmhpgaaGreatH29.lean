/- -/
import Derived.Test.YtdkimcnlhmhpgaaGreatH10
import Derived.Test.YtdkimcnlhmhpgaaGreatH15
import Derived.Test.YtdkimcnlhmhpgaaGreatH27
import Derived.Test.YtdkimcnlhmhpgaaGreatH28
set_option linter.unusedVariables false
set_option linter.unusedSimpArgs false
namespace Go.Proofs.YtdkimcnlhmhpgaaGreat
open Go.RowKit
theorem uflush {T : List Nat} {w : World} {b sb mb lo : Nat} {d : DK} (hD : DA w b sb mb lo d) (ho : d.ops < 100000) (hw : d.waits.length ≤ 10000) :
  Calls Tryz.prog 39 (#[.pointer (some ⟨b, 0, none⟩)] ++ #[]) w fun e w' => e = .returned (.int .i64 (stepF d).2) ∧ DA w' b sb mb lo (stepF d).1 ∧ PK T b sb mb w w' := by
 rw [Array.append_empty]
 exact (hD.flush ho hw).mono fun e w' ⟨h1, h2, h3⟩ => ⟨h1, h2, h3.mono (by simp)⟩
theorem ulay2 {T : List Nat} (n g1 g2 g3 : Nat) (i : Int) (s : List UInt8) {w : World} {b sb mb lo : Nat} {d : DK} (hD : DA w b sb mb lo d)
  (on : Own w n #[.func (.func 87) #[] #[.pointer (some ⟨g1, 0, none⟩), .pointer (some ⟨g2, 0, none⟩), .pointer (some ⟨g3, 0, none⟩)], .func (.func 39) #[.pointer (some ⟨b, 0, none⟩)] #[]] 42)
  (h1 : Own w g1 #[.pointer (some ⟨b, 0, none⟩)] 23) (h2 : Own w g2 #[.int .i64 i] 3) (h3 : Own w g3 #[.string (bs s)] 9)
  (f0 : OffD T w b sb mb n) (f1 : OffD T w b sb mb g1) (f2 : OffD T w b sb mb g2) (f3 : OffD T w b sb mb g3) (ho : d.ops ≤ 90000) (hw : d.waits.length ≤ 9000) :
  Calls Tryz.prog 37 #[.slice (some ⟨n, 0, none⟩) 2 2] w fun e w' => e = .returned (.int .i64 (chainD [stepW i s, stepF] d).2) ∧ DA w' b sb mb lo (chainD [stepW i s, stepF] d).1 ∧ PK T b sb mb w w' := by
 refine uallD [stepW i s, stepF] [(87, #[], #[.pointer (some ⟨g1, 0, none⟩), .pointer (some ⟨g2, 0, none⟩), .pointer (some ⟨g3, 0, none⟩)]), (39, #[.pointer (some ⟨b, 0, none⟩)], #[])] rfl n 0 2 hD (by simp) (fun k h => ?_) on.lt f0 (fun k h => ?_) (fun k h W hW hk _ => ?_)
 ·match k, h with
  | 0, _ => exact enters_of Tryz.func87 (by kernel_rfl) rfl
  | 1, _ => exact enters_of Tryz.func39 (by kernel_rfl) rfl
 ·match k, h with
  | 0, _ => exact on.cell 0 (by simp)
  | 1, _ => exact on.cell 1 (by simp)
 ·match k, h with
  | 0, _ =>
   have := uwrite1 (T := T) g1 g2 g3 i s hW (hk.own h1 f1) (hk.own h2 f2) (hk.own h3 f3) (by show d.ops < _; omega) (by show d.waits.length ≤ _; omega)
   exact this
  | 1, _ =>
   obtain ⟨e1, e2, _⟩ := wNext_ops d i s
   exact uflush hW (by show (wNext d i s).ops < _; omega) (by show (wNext d i s).waits.length ≤ _; omega)
def layD (s : SB) (d : DK) : DK × Int := chainD [stepW ((s.seq % 2 : Nat) : Int) s.sector, stepF] d
theorem ulaid (b : Nat) (s : SB) (v : Value) (w : World) :
  Calls Tryz.prog 40 #[.pointer (some ⟨b, 0, none⟩), .agg (s.cells v)] w fun e w' => e = .returned (.func (.func 92) #[] #[.pointer (some ⟨w.heap.size + 1, 0, none⟩), .pointer (some ⟨w.heap.size, 0, none⟩)]) ∧ (w.alloc (.cells #[.pointer (some ⟨b, 0, none⟩)] 23)).alloc (.cells (s.cells v) 58) = w' := by
 unfold SB.cells
 go_enter Tryz.func40, Tryz.ntmps40
 go_wp2_with fail
 go_ret
 exact ⟨rfl, rfl⟩
set_option maxRecDepth 100000 in
set_option maxHeartbeats 8000000 in
theorem ulaid1 {T : List Nat} (gS gD : Nat) (s : SB) (v : Value) {w : World} {b sb mb lo : Nat} {d : DK} (hD : DA w b sb mb lo d) (hT : ∀ x ∈ T, x < w.heap.size) (hS : Own w gS (s.cells v) 58) (hd : Own w gD #[.pointer (some ⟨b, 0, none⟩)] 23)
  (hr : RunsO T w b sb mb v s.runs) (hm : s.may) (hq : s.seq < 18446744073709551616) (fS : OffD T w b sb mb gS) (fD : OffD T w b sb mb gD) (ho : d.ops ≤ 90000) (hw : d.waits.length ≤ 9000) :
  Calls Tryz.prog 92 #[.pointer (some ⟨gS, 0, none⟩), .pointer (some ⟨gD, 0, none⟩)] w fun e w' => e = .returned (.int .i64 (layD s d).2) ∧ DA w' b sb mb lo (layD s d).1 ∧ PK T b sb mb w w' := by
 obtain ⟨lo1, hi1, hrun⟩ := hr.1
 have hP := pput s v lo1 hi1 w hrun hm hq
 have hSL := fun W => pslot s.seq W hq
 have hWR := fun W => uwrite b ((s.seq % 2 : Nat) : Int) s.sector W
 unfold layD
 have HA : Hid (∀ W, Kept [] w W → ∀ n g1 g2 g3, w.heap.size ≤ n → w.heap.size ≤ g1 → w.heap.size ≤ g2 → w.heap.size ≤ g3 → Own W n #[.func (.func 87) #[] #[.pointer (some ⟨g1, 0, none⟩), .pointer (some ⟨g2, 0, none⟩), .pointer (some ⟨g3, 0, none⟩)], .func (.func 39) #[.pointer (some ⟨b, 0, none⟩)] #[]] 42 →
   Own W g1 #[.pointer (some ⟨b, 0, none⟩)] 23 → Own W g2 #[.int .i64 ((s.seq % 2 : Nat) : Int)] 3 → Own W g3 #[.string (bs s.sector)] 9 →
   Calls Tryz.prog 37 #[.slice (some ⟨n, 0, none⟩) 2 2] W fun e w' => e = .returned (.int .i64 (chainD [stepW ((s.seq % 2 : Nat) : Int) s.sector, stepF] d).2) ∧ DA w' b sb mb lo (chainD [stepW ((s.seq % 2 : Nat) : Int) s.sector, stepF] d).1 ∧ PK T b sb mb W w') := Lib.hid (fun W k n g1 g2 g3 a0 a1 a2 a3 o0 o1 o2 o3 =>
  ulay2 n g1 g2 g3 _ _ (hD.keep0 k) o0 o1 o2 o3 (hD.off_new hT k a0) (hD.off_new hT k a1) (hD.off_new hT k a2) (hD.off_new hT k a3) ho hw)
 have HOS : Hid (∀ W, PK T b sb mb w W → W.cell? ⟨gD, 0, none⟩ = some (.pointer (some ⟨b, 0, none⟩)) ∧ W.cell? ⟨gS, 0, none⟩ = some (.int .u64 s.seq)) := Lib.hid (fun W k => ⟨(k.own hd fD).cell 0 (by simp), (k.own hS fS).cell 0 (by simp [SB.cells])⟩)
 have HB := Lib.hid hD.b_lt
 have hS0 := hS
 unfold SB.cells at hS hP
 obtain ⟨x0, x1, x2, x3, x4, x5⟩ := hS.c6
 have HX := Lib.hid hS
 have HQ := Lib.hid hq
 have HP := Lib.hid hP
 have HSL := Lib.hid hSL
 have HWR := Lib.hid hWR
 clear hD hT hS hd hr hm hq fS fD ho hw hrun hP hSL hWR hS0
 generalize hch : chainD [stepW ((s.seq % 2 : Nat) : Int) s.sector, stepF] d = CH at *
 clear hch
 generalize hss : s.sector = SS at *
 clear hss
 obtain ⟨sq, se, jr, us, sz, rs⟩ := s
 simp only at *
 generalize hslot : ((sq % 2 : Nat) : Int) = SLT at *
 clear hslot
 go_enter Tryz.func92, Tryz.ntmps92
 go_wp2_with fail
 refine HP.out.mono ?_; rintro e w1 ⟨rfl, k1⟩
 obtain ⟨z1, z2⟩ := HOS.out _ (k1.pk0 HB.out)
 have K1 := Lib.hid k1
 clear k1 x0 x1 x2 x3 x4 x5
 go_upto_region 4 with fail
 go_cut [2] from 13 to 22 (fun v2 wx => v2 = .int .i64 CH.2 ∧ DA wx b sb mb lo CH.1 ∧ PK T b sb mb w wx)
 case first =>
  refine wp_region_held_drew (S := (fun W => W.cell? ⟨gD, 0, none⟩ = some (.pointer (some ⟨b, 0, none⟩)) ∧ W.cell? ⟨gS, 0, none⟩ = some (.int .u64 sq))) (by kernel_rfl) (by exact HOS.out _ ((K1.out.drew).pk0 HB.out)) (fun hHeld => ?_)
  refine take_at (i := 0) (d := some 13) (v := ?_) rfl rfl (by kernel_rfl) (by kernel_rfl) (by kernel_rfl) (fun _ _ _ h => h) (Or.inl ⟨by rfl, ?_⟩) (by assumption) ?_
  rotate_left
  ·(intro w hSw; (try dsimp only at hSw); go_simp; try with_reducible rfl)
  try simp only [Act.put, List.setIfInBounds_toArray, List.set_cons_zero, List.set_cons_succ]
  refine take_at (i := 1) (d := some 14) (v := ?_) rfl rfl (by kernel_rfl) (by kernel_rfl) (by kernel_rfl) (fun _ _ _ h => h) (Or.inl ⟨by rfl, ?_⟩) (by assumption) ?_
  rotate_left
  ·(intro w hSw; (try dsimp only at hSw); go_simp; try with_reducible rfl)
  try simp only [Act.put, List.setIfInBounds_toArray, List.set_cons_zero, List.set_cons_succ]
  refine take_at (i := 2) (d := some 15) (v := ?_) rfl rfl (by kernel_rfl) (by kernel_rfl) (by kernel_rfl) (fun _ _ _ h => h) (Or.inl ⟨by rfl, ?_⟩) (by assumption) ?_
  rotate_left
  ·(intro w hSw; (try dsimp only at hSw); go_simp; try with_reducible rfl)
  try simp only [Act.put, List.setIfInBounds_toArray, List.set_cons_zero, List.set_cons_succ]
  refine take_at (i := 4) (d := some 17) (v := ?_) rfl rfl (by kernel_rfl) (by kernel_rfl) (by kernel_rfl) (fun _ _ _ h => h) (Or.inl ⟨by rfl, ?_⟩) (by assumption) ?_
  rotate_left
  ·(intro w hSw; (try dsimp only at hSw); go_simp; try with_reducible rfl)
  try simp only [Act.put, List.setIfInBounds_toArray, List.set_cons_zero, List.set_cons_succ]
  refine take_at (i := 6) (d := some 19) (v := ?_) rfl rfl (by kernel_rfl) (by kernel_rfl) (by kernel_rfl) (fun _ _ _ h => h) (Or.inl ⟨by rfl, ?_⟩) (by assumption) ?_
  rotate_left
  ·(intro w hSw; (try dsimp only at hSw); go_simp; try with_reducible rfl)
  try simp only [Act.put, List.setIfInBounds_toArray, List.set_cons_zero, List.set_cons_succ]
  refine take_at (i := 7) (d := some 20) (v := ?_) rfl rfl (by kernel_rfl) (by kernel_rfl) (by kernel_rfl) (fun _ _ _ h => h) (Or.inl ⟨by rfl, ?_⟩) (by assumption) ?_
  rotate_left
  ·(intro w hSw; (try dsimp only at hSw); go_simp; try with_reducible rfl)
  try simp only [Act.put, List.setIfInBounds_toArray, List.set_cons_zero, List.set_cons_succ]
  refine wpAnyH_ready (rs := [3]) (by kernel_rfl) (by simp) ?_
  refine (AllReadyH.cons rfl (fun K hK => ?_) AllReadyH.nil)
  go_simp
  ((with_reducible refine (HSL.out _).mono ?_)); rintro e w2 ⟨rfl, rfl⟩
  go_wp2_with fail
  refine hK.out _ _ ?_ (fun hHeld => ?_)
  ·exact HOS.out _ ((K1.out.drew).pk0 HB.out)
  clear hK K
  try simp only [Act.put, List.setIfInBounds_toArray, List.set_cons_zero, List.set_cons_succ]
  refine wpAnyH_ready (rs := [5]) (by kernel_rfl) (by simp) ?_
  refine (AllReadyH.cons rfl (fun K hK => ?_) AllReadyH.nil)
  go_simp
  ((with_reducible refine (HWR.out _).mono ?_)); rintro e w2 ⟨rfl, rfl⟩
  go_wp2_with fail
  refine hK.out _ _ ?_ (fun hHeld => ?_)
  ·exact HOS.out _ ((((K1.out.drew.alloc (.cells #[.pointer (some ⟨b, 0, none⟩)] 23)).alloc (.cells #[.int .i64 SLT] 3)).alloc (.cells #[.string (bs SS)] 9)).pk0 HB.out)
  clear hK K
  try simp only [Act.put, List.setIfInBounds_toArray, List.set_cons_zero, List.set_cons_succ]
  refine wpAnyH_ready (rs := [8]) (by kernel_rfl) (by simp) ?_
  refine (AllReadyH.cons rfl (fun K hK => ?_) AllReadyH.nil)
  go_simp
  refine hK.out _ _ ?_ (fun hHeld => ?_)
  ·exact HOS.out _ ((((((K1.out.alloc (.cells #[.pointer (some ⟨b, 0, none⟩)] 23)).alloc (.cells #[.int .i64 SLT] 3)).alloc (.cells #[.string (bs SS)] 9)).alloc (.cells #[.func (.func 87) #[] #[.pointer (some ⟨w1.heap.size, 0, none⟩), .pointer (some ⟨w1.heap.size + 1, 0, none⟩), .pointer (some ⟨w1.heap.size + 2, 0, none⟩)], .func (.func 39) #[.pointer (some ⟨b, 0, none⟩)] #[]] 42)).drew).pk0 HB.out)
  clear hK K
  try simp only [Act.put, List.setIfInBounds_toArray, List.set_cons_zero, List.set_cons_succ]
  obtain ⟨o1, o2, o3, o4⟩ := own_four w1 #[.pointer (some ⟨b, 0, none⟩)] #[.int .i64 SLT] #[.string (bs SS)] #[.func (.func 87) #[] #[.pointer (some ⟨w1.heap.size, 0, none⟩), .pointer (some ⟨w1.heap.size + 1, 0, none⟩), .pointer (some ⟨w1.heap.size + 2, 0, none⟩)], .func (.func 39) #[.pointer (some ⟨b, 0, none⟩)] #[]] 23 3 9 42
  have hs1 := K1.out.size
  refine wpAnyH_ready (rs := [9]) (by kernel_rfl) (by simp) ?_
  refine (AllReadyH.cons rfl (fun K hK => ?_) AllReadyH.nil)
  go_simp
  ((with_reducible refine (HA.out _ (((((K1.out.alloc (.cells #[.pointer (some ⟨b, 0, none⟩)] 23)).alloc (.cells #[.int .i64 SLT] 3)).alloc (.cells #[.string (bs SS)] 9)).alloc (.cells #[.func (.func 87) #[] #[.pointer (some ⟨w1.heap.size, 0, none⟩), .pointer (some ⟨w1.heap.size + 1, 0, none⟩), .pointer (some ⟨w1.heap.size + 2, 0, none⟩)], .func (.func 39) #[.pointer (some ⟨b, 0, none⟩)] #[]] 42)).drew) _ w1.heap.size (w1.heap.size + 1) (w1.heap.size + 2) (by omega) hs1 (by omega) (by omega) o4.drew o1.drew o2.drew o3.drew).mono ?_)); rintro e w5 ⟨rfl, hD5, k5⟩
  have kk5 := ((((((K1.out.alloc (.cells #[.pointer (some ⟨b, 0, none⟩)] 23)).alloc (.cells #[.int .i64 SLT] 3)).alloc (.cells #[.string (bs SS)] 9)).alloc (.cells #[.func (.func 87) #[] #[.pointer (some ⟨w1.heap.size, 0, none⟩), .pointer (some ⟨w1.heap.size + 1, 0, none⟩), .pointer (some ⟨w1.heap.size + 2, 0, none⟩)], .func (.func 39) #[.pointer (some ⟨b, 0, none⟩)] #[]] 42)).drew).pk0 (T := T) (sb := sb) (mb := mb) HB.out).trans k5
  have KK5 := Lib.hid kk5
  have HD5 := Lib.hid hD5
  clear hD5 kk5 k5 o1 o2 o3 o4
  go_wp2_with fail
  refine hK.out _ _ ?_ (fun hHeld => ?_)
  ·exact HOS.out _ (KK5.out)
  clear hK K
  try simp only [Act.put, List.setIfInBounds_toArray, List.set_cons_zero, List.set_cons_succ]
  refine take_at (i := 10) (d := some 2) (v := ?_) rfl rfl (by kernel_rfl) (by kernel_rfl) (by kernel_rfl) (fun _ _ _ h => h) (Or.inl ⟨by rfl, ?_⟩) (by assumption) ?_
  rotate_left
  ·(intro w hSw; (try dsimp only at hSw); go_simp; try with_reducible rfl)
  try simp only [Act.put, List.setIfInBounds_toArray, List.set_cons_zero, List.set_cons_succ]
  refine wpAnyH_done (by kernel_rfl) ?_ _
  try simp only [List.set_cons_succ, List.set_cons_zero]
  go_wp2_with fail
  go_meet
  exact ⟨rfl, HD5.out, KK5.out⟩
 case rest =>
  obtain ⟨rfl, h1, h2⟩ := hcut
  go_wp2_with fail
  go_ret
  exact ⟨rfl, h1, h2⟩
theorem putL_ops (al : List Nat) : ∀ (d : DK) (s : List UInt8), (putL al d s).1.ops ≤ d.ops + al.length ∧ (putL al d s).1.waits.length ≤ d.waits.length + al.length ∧ (putL al d s).1.stand.length = d.stand.length := by
 induction al with
 | nil => intro d s; exact ⟨Nat.le_refl _, Nat.le_refl _, rfl⟩
 | cons a t ih =>
  intro d s
  have h1 := wNext_ops d a (chunk s)
  unfold putL
  rw [List.length_cons]
  split
  ·have h2 := ih (wNext d a (chunk s)) (s.drop 128)
   exact ⟨by (try dsimp only); omega, by (try dsimp only); omega, by rw [h2.2.2, h1.2.2]⟩
  ·exact ⟨by (try dsimp only); omega, by (try dsimp only); omega, h1.2.2⟩
theorem nodup_le (n : Nat) : ∀ l : List Nat, l.Nodup → (∀ m ∈ l, m < n) → l.length ≤ n := by
 induction n with
 | zero => intro l _ h; cases l with
  | nil => exact Nat.le_refl _
  | cons a t => exact absurd (h a List.mem_cons_self) (by omega)
 | succ n ih =>
  intro l hn h
  have h1 := ih (l.erase n) (hn.erase n) (fun m hm => by
   have h2 := hn.mem_erase_iff.1 hm
   have := h m h2.2
   omega)
  by_cases hm : n ∈ l
  ·have := List.length_erase_of_mem hm
   omega
  ·rw [List.erase_of_not_mem hm] at h1
   omega
theorem fitX_few {l : List (Int × Int)} {n : Nat} {size : Int} (h : FitX l n size) : (secsL l).length ≤ n :=
 nodup_le n _ (secsL_nodup h.2.2.1) (fun m hm => by have := (h.lt hm).1; omega)
theorem putX_ops (d : DK) (l : List (Int × Int)) (s : List UInt8) : (putX d l s).1.ops ≤ d.ops + d.stand.length ∧ (putX d l s).1.waits.length ≤ d.waits.length + d.stand.length ∧ (putX d l s).1.stand.length = d.stand.length := by
 unfold putX
 split
 ·rename_i h
  have hf := fitX_few h
  split
  ·exact ⟨by (try dsimp only); omega, by (try dsimp only); omega, rfl⟩
  ·have := putL_ops (secsL l) d s
   exact ⟨by (try dsimp only); omega, by (try dsimp only); omega, this.2.2⟩
 ·exact ⟨by (try dsimp only); omega, by (try dsimp only); omega, rfl⟩
theorem fNext_ops (d : DK) : (fNext d).ops ≤ d.ops + 1 ∧ (fNext d).waits.length ≤ d.waits.length ∧ (fNext d).stand.length = d.stand.length := by
 unfold fNext
 split
 ·exact ⟨by (try dsimp only); omega, by (try dsimp only); omega, rfl⟩
 ·split
  ·exact ⟨Nat.le_refl _, Nat.le_refl _, rfl⟩
  ·exact ⟨Nat.le_refl _, Nat.zero_le _, settle_len _ _⟩
theorem app_few (n : Nat) : ∀ (d : DK) (a : Nat) (s : List UInt8), s.length ≤ n → (appAll d a s).1.waits.length ≤ d.waits.length + s.length ∧ (appAll d a s).1.ops ≤ d.ops + s.length := by
 induction n with
 | zero =>
  intro d a s hs
  have : s = [] := List.eq_nil_of_length_eq_zero (by omega)
  subst this
  exact ⟨Nat.le_refl _, Nat.le_refl _⟩
 | succ n ih =>
  intro d a s hs
  by_cases h0 : s = []
  ·subst h0
   exact ⟨Nat.le_refl _, Nat.le_refl _⟩
  ·have hl : 0 < s.length := List.length_pos_iff.2 h0
   obtain ⟨w1, w2, _⟩ := wNext_ops d (a : Int) (chunk s)
   rw [appAll_step h0]
   split
   ·have := ih (wNext d a (chunk s)) (a + 1) (s.drop 128) (by rw [List.length_drop]; omega)
    rw [List.length_drop] at this
    omega
   ·simp only
    omega
theorem append_few (d : DK) (j u : Int) (S : List UInt8) : (appendD d j u S).1.waits.length ≤ d.waits.length + 128 + S.length ∧ (appendD d j u S).1.ops ≤ d.ops + 128 + S.length := by
 unfold appendD
 split
 ·simp only; omega
 ·split
  ·simp only; omega
  ·split
   ·simp only; omega
   ·split
    ·simp only; omega
    ·have h := app_few _ d (2 + u.toNat / 128) ((seen d (2 + u.toNat / 128)).take (u.toNat % 128) ++ S) (Nat.le_refl _)
     have h2 : ((seen d (2 + u.toNat / 128)).take (u.toNat % 128)).length ≤ 128 := by rw [List.length_take]; omega
     rw [List.length_append] at h
     omega
end Go.Proofs.YtdkimcnlhmhpgaaGreat
