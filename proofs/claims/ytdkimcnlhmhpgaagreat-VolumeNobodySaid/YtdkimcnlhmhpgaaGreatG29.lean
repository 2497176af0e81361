/- -/
import Derived.Test.YtdkimcnlhmhpgaaGreatG07
import Derived.Test.YtdkimcnlhmhpgaaGreatG12
import Derived.Test.YtdkimcnlhmhpgaaGreatG16
import Derived.Test.YtdkimcnlhmhpgaaGreatG26
import Derived.Test.YtdkimcnlhmhpgaaGreatG27
import Derived.Test.YtdkimcnlhmhpgaaGreatG28
set_option linter.unusedVariables false
set_option linter.unusedSimpArgs false
namespace Go.Proofs.YtdkimcnlhmhpgaaGreat
open Go.RowKit
theorem uflush {T : List Nat} {w : World} {b sb mb lo : Nat} {d : DK} (hD : DA w b sb mb lo d) (ho : d.ops < 100000) (hw : d.waits.length ≤ 10000) :
    Calls Tryz.prog 39 (#[.pointer (some ⟨b, 0, none⟩)] ++ #[]) w fun e w' => e = .returned (.int .i64 (stepF d).2) ∧ DA w' b sb mb lo (stepF d).1 ∧ PK T b sb mb w w' := by
  rw [Array.append_empty]
  exact (hD.flush ho hw).mono fun e w' ⟨h1, h2, h3⟩ => ⟨h1, h2, h3.mono (by simp)⟩
theorem ulay2 {T : List Nat} (n g1 g2 g3 : Nat) (i : Int) (s : List UInt8) {w : World} {b sb mb lo : Nat} {d : DK} (hD : DA w b sb mb lo d)
    (on : Own w n #[.func (.func 87) #[] #[.pointer (some ⟨g1, 0, none⟩), .pointer (some ⟨g2, 0, none⟩), .pointer (some ⟨g3, 0, none⟩)], .func (.func 39) #[.pointer (some ⟨b, 0, none⟩)] #[]] 42)
    (h1 : Own w g1 #[.pointer (some ⟨b, 0, none⟩)] 23) (h2 : Own w g2 #[.int .i64 i] 3) (h3 : Own w g3 #[.string (bs s)] 9)
    (f0 : OffD T w b sb mb n) (f1 : OffD T w b sb mb g1) (f2 : OffD T w b sb mb g2) (f3 : OffD T w b sb mb g3) (ho : d.ops ≤ 90000) (hw : d.waits.length ≤ 9000) :
    Calls Tryz.prog 37 #[.slice (some ⟨n, 0, none⟩) 2 2] w fun e w' => e = .returned (.int .i64 (chainD [stepW i s, stepF] d).2) ∧ DA w' b sb mb lo (chainD [stepW i s, stepF] d).1 ∧ PK T b sb mb w w' := by
  refine uallD [stepW i s, stepF] [(87, #[], #[.pointer (some ⟨g1, 0, none⟩), .pointer (some ⟨g2, 0, none⟩), .pointer (some ⟨g3, 0, none⟩)]), (39, #[.pointer (some ⟨b, 0, none⟩)], #[])] rfl n 0 2 hD (by simp) (fun k h => ?_) on.lt f0 (fun k h => ?_) (fun k h W hW hk _ => ?_)
  · match k, h with
    | 0, _ => exact enters_of Tryz.func87 (by kernel_rfl) rfl
    | 1, _ => exact enters_of Tryz.func39 (by kernel_rfl) rfl
  · match k, h with
    | 0, _ => exact on.cell 0 (by simp)
    | 1, _ => exact on.cell 1 (by simp)
  · match k, h with
    | 0, _ =>
      have := uwrite1 (T := T) g1 g2 g3 i s hW (hk.own h1 f1) (hk.own h2 f2) (hk.own h3 f3) (by show d.ops < _; omega) (by show d.waits.length ≤ _; omega)
      exact this
    | 1, _ =>
      obtain ⟨e1, e2, _⟩ := wNext_ops d i s
      exact uflush hW (by show (wNext d i s).ops < _; omega) (by show (wNext d i s).waits.length ≤ _; omega)
def layD (s : SB) (d : DK) : DK × Int := chainD [stepW ((s.seq % 2 : Nat) : Int) s.sector, stepF] d
theorem ulaid (b : Nat) (s : SB) (v : Value) (w : World) :
    Calls Tryz.prog 40 #[.pointer (some ⟨b, 0, none⟩), .agg (s.cells v)] w fun e w' => e = .returned (.func (.func 92) #[] #[.pointer (some ⟨w.heap.size + 1, 0, none⟩), .pointer (some ⟨w.heap.size, 0, none⟩)]) ∧ (w.alloc (.cells #[.pointer (some ⟨b, 0, none⟩)] 23)).alloc (.cells (s.cells v) 58) = w' := by
  unfold SB.cells
  go_enter Tryz.func40, Tryz.ntmps40
  go_wp2_with fail
  go_ret
  exact ⟨rfl, rfl⟩
set_option maxRecDepth 100000 in
set_option maxHeartbeats 8000000 in
theorem ulaid1 {T : List Nat} (gS gD : Nat) (s : SB) (v : Value) {w : World} {b sb mb lo : Nat} {d : DK} (hD : DA w b sb mb lo d) (hT : ∀ x ∈ T, x < w.heap.size) (hS : Own w gS (s.cells v) 58) (hd : Own w gD #[.pointer (some ⟨b, 0, none⟩)] 23)
    (hr : RunsO T w b sb mb v s.runs) (hm : s.may) (hq : s.seq < 18446744073709551616) (fS : OffD T w b sb mb gS) (fD : OffD T w b sb mb gD) (ho : d.ops ≤ 90000) (hw : d.waits.length ≤ 9000) :
    Calls Tryz.prog 92 #[.pointer (some ⟨gS, 0, none⟩), .pointer (some ⟨gD, 0, none⟩)] w fun e w' => e = .returned (.int .i64 (layD s d).2) ∧ DA w' b sb mb lo (layD s d).1 ∧ PK T b sb mb w w' := by
  obtain ⟨lo1, hi1, hrun⟩ := hr.1
  have hP := pput s v lo1 hi1 w hrun hm hq
  have hSL := fun W => pslot s.seq W hq
  have hWR := fun W => uwrite b ((s.seq % 2 : Nat) : Int) s.sector W
  unfold layD
  have HA : Hid (∀ W, Kept [] w W → ∀ n g1 g2 g3, w.heap.size ≤ n → w.heap.size ≤ g1 → w.heap.size ≤ g2 → w.heap.size ≤ g3 → Own W n #[.func (.func 87) #[] #[.pointer (some ⟨g1, 0, none⟩), .pointer (some ⟨g2, 0, none⟩), .pointer (some ⟨g3, 0, none⟩)], .func (.func 39) #[.pointer (some ⟨b, 0, none⟩)] #[]] 42 →
      Own W g1 #[.pointer (some ⟨b, 0, none⟩)] 23 → Own W g2 #[.int .i64 ((s.seq % 2 : Nat) : Int)] 3 → Own W g3 #[.string (bs s.sector)] 9 →
      Calls Tryz.prog 37 #[.slice (some ⟨n, 0, none⟩) 2 2] W fun e w' => e = .returned (.int .i64 (chainD [stepW ((s.seq % 2 : Nat) : Int) s.sector, stepF] d).2) ∧ DA w' b sb mb lo (chainD [stepW ((s.seq % 2 : Nat) : Int) s.sector, stepF] d).1 ∧ PK T b sb mb W w') := Lib.hid (fun W k n g1 g2 g3 a0 a1 a2 a3 o0 o1 o2 o3 =>
    ulay2 n g1 g2 g3 _ _ (hD.keep0 k) o0 o1 o2 o3 (hD.off_new hT k a0) (hD.off_new hT k a1) (hD.off_new hT k a2) (hD.off_new hT k a3) ho hw)
  have HOS : Hid (∀ W, PK T b sb mb w W → W.cell? ⟨gD, 0, none⟩ = some (.pointer (some ⟨b, 0, none⟩)) ∧ W.cell? ⟨gS, 0, none⟩ = some (.int .u64 s.seq)) := Lib.hid (fun W k => ⟨(k.own hd fD).cell 0 (by simp), (k.own hS fS).cell 0 (by simp [SB.cells])⟩)
  have HB := Lib.hid hD.b_lt
  have hS0 := hS
  unfold SB.cells at hS hP
  obtain ⟨x0, x1, x2, x3, x4, x5⟩ := hS.c6
  have HX := Lib.hid hS
  have HQ := Lib.hid hq
  have HP := Lib.hid hP
  have HSL := Lib.hid hSL
  have HWR := Lib.hid hWR
  clear hD hT hS hd hr hm hq fS fD ho hw hrun hP hSL hWR hS0
  generalize hch : chainD [stepW ((s.seq % 2 : Nat) : Int) s.sector, stepF] d = CH at *
  clear hch
  generalize hss : s.sector = SS at *
  clear hss
  obtain ⟨sq, se, jr, us, sz, rs⟩ := s
  simp only at *
  generalize hslot : ((sq % 2 : Nat) : Int) = SLT at *
  clear hslot
  go_enter Tryz.func92, Tryz.ntmps92
  go_wp2_with fail
  refine HP.out.mono ?_; rintro e w1 ⟨rfl, k1⟩
  obtain ⟨z1, z2⟩ := HOS.out _ (k1.pk0 HB.out)
  have K1 := Lib.hid k1
  clear k1 x0 x1 x2 x3 x4 x5
  go_upto_region 4 with fail
  go_cut [2] from 13 to 22 (fun v2 wx => v2 = .int .i64 CH.2 ∧ DA wx b sb mb lo CH.1 ∧ PK T b sb mb w wx)
  case first =>
    refine wp_region_held_drew (S := (fun W => W.cell? ⟨gD, 0, none⟩ = some (.pointer (some ⟨b, 0, none⟩)) ∧ W.cell? ⟨gS, 0, none⟩ = some (.int .u64 sq))) (by kernel_rfl) (by exact HOS.out _ ((K1.out.drew).pk0 HB.out)) (fun hHeld => ?_)
    refine take_at (i := 0) (d := some 13) (v := ?_) rfl rfl (by kernel_rfl) (by kernel_rfl) (by kernel_rfl) (fun _ _ _ h => h) (Or.inl ⟨by rfl, ?_⟩) (by assumption) ?_
    rotate_left
    · (intro w hSw; (try dsimp only at hSw); go_simp; try with_reducible rfl)
    try simp only [Act.put, List.setIfInBounds_toArray, List.set_cons_zero, List.set_cons_succ]
    refine take_at (i := 1) (d := some 14) (v := ?_) rfl rfl (by kernel_rfl) (by kernel_rfl) (by kernel_rfl) (fun _ _ _ h => h) (Or.inl ⟨by rfl, ?_⟩) (by assumption) ?_
    rotate_left
    · (intro w hSw; (try dsimp only at hSw); go_simp; try with_reducible rfl)
    try simp only [Act.put, List.setIfInBounds_toArray, List.set_cons_zero, List.set_cons_succ]
    refine take_at (i := 2) (d := some 15) (v := ?_) rfl rfl (by kernel_rfl) (by kernel_rfl) (by kernel_rfl) (fun _ _ _ h => h) (Or.inl ⟨by rfl, ?_⟩) (by assumption) ?_
    rotate_left
    · (intro w hSw; (try dsimp only at hSw); go_simp; try with_reducible rfl)
    try simp only [Act.put, List.setIfInBounds_toArray, List.set_cons_zero, List.set_cons_succ]
    refine take_at (i := 4) (d := some 17) (v := ?_) rfl rfl (by kernel_rfl) (by kernel_rfl) (by kernel_rfl) (fun _ _ _ h => h) (Or.inl ⟨by rfl, ?_⟩) (by assumption) ?_
    rotate_left
    · (intro w hSw; (try dsimp only at hSw); go_simp; try with_reducible rfl)
    try simp only [Act.put, List.setIfInBounds_toArray, List.set_cons_zero, List.set_cons_succ]
    refine take_at (i := 6) (d := some 19) (v := ?_) rfl rfl (by kernel_rfl) (by kernel_rfl) (by kernel_rfl) (fun _ _ _ h => h) (Or.inl ⟨by rfl, ?_⟩) (by assumption) ?_
    rotate_left
    · (intro w hSw; (try dsimp only at hSw); go_simp; try with_reducible rfl)
    try simp only [Act.put, List.setIfInBounds_toArray, List.set_cons_zero, List.set_cons_succ]
    refine take_at (i := 7) (d := some 20) (v := ?_) rfl rfl (by kernel_rfl) (by kernel_rfl) (by kernel_rfl) (fun _ _ _ h => h) (Or.inl ⟨by rfl, ?_⟩) (by assumption) ?_
    rotate_left
    · (intro w hSw; (try dsimp only at hSw); go_simp; try with_reducible rfl)
    try simp only [Act.put, List.setIfInBounds_toArray, List.set_cons_zero, List.set_cons_succ]
    refine wpAnyH_ready (rs := [3]) (by kernel_rfl) (by simp) ?_
    refine (AllReadyH.cons rfl (fun K hK => ?_) AllReadyH.nil)
    go_simp
    ((with_reducible refine (HSL.out _).mono ?_)); rintro e w2 ⟨rfl, rfl⟩
    go_wp2_with fail
    refine hK.out _ _ ?_ (fun hHeld => ?_)
    · exact HOS.out _ ((K1.out.drew).pk0 HB.out)
    clear hK K
    try simp only [Act.put, List.setIfInBounds_toArray, List.set_cons_zero, List.set_cons_succ]
    refine wpAnyH_ready (rs := [5]) (by kernel_rfl) (by simp) ?_
    refine (AllReadyH.cons rfl (fun K hK => ?_) AllReadyH.nil)
    go_simp
    ((with_reducible refine (HWR.out _).mono ?_)); rintro e w2 ⟨rfl, rfl⟩
    go_wp2_with fail
    refine hK.out _ _ ?_ (fun hHeld => ?_)
    · exact HOS.out _ ((((K1.out.drew.alloc (.cells #[.pointer (some ⟨b, 0, none⟩)] 23)).alloc (.cells #[.int .i64 SLT] 3)).alloc (.cells #[.string (bs SS)] 9)).pk0 HB.out)
    clear hK K
    try simp only [Act.put, List.setIfInBounds_toArray, List.set_cons_zero, List.set_cons_succ]
    refine wpAnyH_ready (rs := [8]) (by kernel_rfl) (by simp) ?_
    refine (AllReadyH.cons rfl (fun K hK => ?_) AllReadyH.nil)
    go_simp
    refine hK.out _ _ ?_ (fun hHeld => ?_)
    · exact HOS.out _ ((((((K1.out.alloc (.cells #[.pointer (some ⟨b, 0, none⟩)] 23)).alloc (.cells #[.int .i64 SLT] 3)).alloc (.cells #[.string (bs SS)] 9)).alloc (.cells #[.func (.func 87) #[] #[.pointer (some ⟨w1.heap.size, 0, none⟩), .pointer (some ⟨w1.heap.size + 1, 0, none⟩), .pointer (some ⟨w1.heap.size + 2, 0, none⟩)], .func (.func 39) #[.pointer (some ⟨b, 0, none⟩)] #[]] 42)).drew).pk0 HB.out)
    clear hK K
    try simp only [Act.put, List.setIfInBounds_toArray, List.set_cons_zero, List.set_cons_succ]
    obtain ⟨o1, o2, o3, o4⟩ := own_four w1 #[.pointer (some ⟨b, 0, none⟩)] #[.int .i64 SLT] #[.string (bs SS)] #[.func (.func 87) #[] #[.pointer (some ⟨w1.heap.size, 0, none⟩), .pointer (some ⟨w1.heap.size + 1, 0, none⟩), .pointer (some ⟨w1.heap.size + 2, 0, none⟩)], .func (.func 39) #[.pointer (some ⟨b, 0, none⟩)] #[]] 23 3 9 42
    have hs1 := K1.out.size
    refine wpAnyH_ready (rs := [9]) (by kernel_rfl) (by simp) ?_
    refine (AllReadyH.cons rfl (fun K hK => ?_) AllReadyH.nil)
    go_simp
    ((with_reducible refine (HA.out _ (((((K1.out.alloc (.cells #[.pointer (some ⟨b, 0, none⟩)] 23)).alloc (.cells #[.int .i64 SLT] 3)).alloc (.cells #[.string (bs SS)] 9)).alloc (.cells #[.func (.func 87) #[] #[.pointer (some ⟨w1.heap.size, 0, none⟩), .pointer (some ⟨w1.heap.size + 1, 0, none⟩), .pointer (some ⟨w1.heap.size + 2, 0, none⟩)], .func (.func 39) #[.pointer (some ⟨b, 0, none⟩)] #[]] 42)).drew) _ w1.heap.size (w1.heap.size + 1) (w1.heap.size + 2) (by omega) hs1 (by omega) (by omega) o4.drew o1.drew o2.drew o3.drew).mono ?_)); rintro e w5 ⟨rfl, hD5, k5⟩
    have kk5 := ((((((K1.out.alloc (.cells #[.pointer (some ⟨b, 0, none⟩)] 23)).alloc (.cells #[.int .i64 SLT] 3)).alloc (.cells #[.string (bs SS)] 9)).alloc (.cells #[.func (.func 87) #[] #[.pointer (some ⟨w1.heap.size, 0, none⟩), .pointer (some ⟨w1.heap.size + 1, 0, none⟩), .pointer (some ⟨w1.heap.size + 2, 0, none⟩)], .func (.func 39) #[.pointer (some ⟨b, 0, none⟩)] #[]] 42)).drew).pk0 (T := T) (sb := sb) (mb := mb) HB.out).trans k5
    have KK5 := Lib.hid kk5
    have HD5 := Lib.hid hD5
    clear hD5 kk5 k5 o1 o2 o3 o4
    go_wp2_with fail
    refine hK.out _ _ ?_ (fun hHeld => ?_)
    · exact HOS.out _ (KK5.out)
    clear hK K
    try simp only [Act.put, List.setIfInBounds_toArray, List.set_cons_zero, List.set_cons_succ]
    refine take_at (i := 10) (d := some 2) (v := ?_) rfl rfl (by kernel_rfl) (by kernel_rfl) (by kernel_rfl) (fun _ _ _ h => h) (Or.inl ⟨by rfl, ?_⟩) (by assumption) ?_
    rotate_left
    · (intro w hSw; (try dsimp only at hSw); go_simp; try with_reducible rfl)
    try simp only [Act.put, List.setIfInBounds_toArray, List.set_cons_zero, List.set_cons_succ]
    refine wpAnyH_done (by kernel_rfl) ?_ _
    try simp only [List.set_cons_succ, List.set_cons_zero]
    go_wp2_with fail
    go_meet
    exact ⟨rfl, HD5.out, KK5.out⟩
  case rest =>
    obtain ⟨rfl, h1, h2⟩ := hcut
    go_wp2_with fail
    go_ret
    exact ⟨rfl, h1, h2⟩
theorem putL_ops (al : List Nat) : ∀ (d : DK) (s : List UInt8), (putL al d s).1.ops ≤ d.ops + al.length ∧ (putL al d s).1.waits.length ≤ d.waits.length + al.length ∧ (putL al d s).1.stand.length = d.stand.length := by
  induction al with
  | nil => intro d s; exact ⟨Nat.le_refl _, Nat.le_refl _, rfl⟩
  | cons a t ih =>
    intro d s
    have h1 := wNext_ops d a (chunk s)
    unfold putL
    rw [List.length_cons]
    split
    · have h2 := ih (wNext d a (chunk s)) (s.drop 128)
      exact ⟨by (try dsimp only); omega, by (try dsimp only); omega, by rw [h2.2.2, h1.2.2]⟩
    · exact ⟨by (try dsimp only); omega, by (try dsimp only); omega, h1.2.2⟩
theorem nodup_le (n : Nat) : ∀ l : List Nat, l.Nodup → (∀ m ∈ l, m < n) → l.length ≤ n := by
  induction n with
  | zero => intro l _ h; cases l with
    | nil => exact Nat.le_refl _
    | cons a t => exact absurd (h a List.mem_cons_self) (by omega)
  | succ n ih =>
    intro l hn h
    have h1 := ih (l.erase n) (hn.erase n) (fun m hm => by
      have h2 := hn.mem_erase_iff.1 hm
      have := h m h2.2
      omega)
    by_cases hm : n ∈ l
    · have := List.length_erase_of_mem hm
      omega
    · rw [List.erase_of_not_mem hm] at h1
      omega
theorem fitX_few {l : List (Int × Int)} {n : Nat} {size : Int} (h : FitX l n size) : (secsL l).length ≤ n :=
  nodup_le n _ (secsL_nodup h.2.2.1) (fun m hm => by have := (h.lt hm).1; omega)
theorem putX_ops (d : DK) (l : List (Int × Int)) (s : List UInt8) : (putX d l s).1.ops ≤ d.ops + d.stand.length ∧ (putX d l s).1.waits.length ≤ d.waits.length + d.stand.length ∧ (putX d l s).1.stand.length = d.stand.length := by
  unfold putX
  split
  · rename_i h
    have hf := fitX_few h
    split
    · exact ⟨by (try dsimp only); omega, by (try dsimp only); omega, rfl⟩
    · have := putL_ops (secsL l) d s
      exact ⟨by (try dsimp only); omega, by (try dsimp only); omega, this.2.2⟩
  · exact ⟨by (try dsimp only); omega, by (try dsimp only); omega, rfl⟩
theorem fNext_ops (d : DK) : (fNext d).ops ≤ d.ops + 1 ∧ (fNext d).waits.length ≤ d.waits.length ∧ (fNext d).stand.length = d.stand.length := by
  unfold fNext
  split
  · exact ⟨by (try dsimp only); omega, by (try dsimp only); omega, rfl⟩
  · split
    · exact ⟨Nat.le_refl _, Nat.le_refl _, rfl⟩
    · exact ⟨Nat.le_refl _, Nat.zero_le _, settle_len _ _⟩
theorem app_few (n : Nat) : ∀ (d : DK) (a : Nat) (s : List UInt8), s.length ≤ n → (appAll d a s).1.waits.length ≤ d.waits.length + s.length ∧ (appAll d a s).1.ops ≤ d.ops + s.length := by
  induction n with
  | zero =>
    intro d a s hs
    have : s = [] := List.eq_nil_of_length_eq_zero (by omega)
    subst this
    exact ⟨Nat.le_refl _, Nat.le_refl _⟩
  | succ n ih =>
    intro d a s hs
    by_cases h0 : s = []
    · subst h0
      exact ⟨Nat.le_refl _, Nat.le_refl _⟩
    · have hl : 0 < s.length := List.length_pos_iff.2 h0
      obtain ⟨w1, w2, _⟩ := wNext_ops d (a : Int) (chunk s)
      rw [appAll_step h0]
      split
      · have := ih (wNext d a (chunk s)) (a + 1) (s.drop 128) (by rw [List.length_drop]; omega)
        rw [List.length_drop] at this
        omega
      · simp only
        omega
theorem append_few (d : DK) (j u : Int) (S : List UInt8) : (appendD d j u S).1.waits.length ≤ d.waits.length + 128 + S.length ∧ (appendD d j u S).1.ops ≤ d.ops + 128 + S.length := by
  unfold appendD
  split
  · simp only; omega
  · split
    · simp only; omega
    · split
      · simp only; omega
      · split
        · simp only; omega
        · have h := app_few _ d (2 + u.toNat / 128) ((seen d (2 + u.toNat / 128)).take (u.toNat % 128) ++ S) (Nat.le_refl _)
          have h2 : ((seen d (2 + u.toNat / 128)).take (u.toNat % 128)).length ≤ 128 := by rw [List.length_take]; omega
          rw [List.length_append] at h
          omega
def itemNo : JItem := ⟨0, [], 0, []⟩
def findX (p : JItem → Bool) (l : List JItem) : JItem × Bool := match l.find? p with
  | some x => (x, true)
  | none => (itemNo, false)
def FindSays (wb : World) (X : JItem × Bool) (w : World) (e : Ending) (w' : World) : Prop := ∃ kv, e = .returned (.tuple #[.agg (X.1.cells kv), .bool X.2]) ∧ ItemOk wb (X.1, kv) ∧ Kept [] w w'
theorem findX_at {p : JItem → Bool} {l : List JItem} {i : Nat} (hi : i < l.length) (h : p l[i] = true) (h0 : ∀ j (hj : j < l.length), j < i → p l[j] = false) : findX p l = (l[i], true) := by
  have : l.find? p = some l[i] := List.find?_eq_some_iff_getElem.2 ⟨h, i, hi, rfl, fun j hj => by simp [h0 j (by omega) hj]⟩
  unfold findX; rw [this]
theorem findX_no {p : JItem → Bool} {l : List JItem} (h0 : ∀ j (hj : j < l.length), p l[j] = false) : findX p l = (itemNo, false) := by
  have : l.find? p = none := List.find?_eq_none.2 (fun x hx => by
    obtain ⟨j, hj, rfl⟩ := List.mem_iff_getElem.1 hx
    simp [h0 j hj])
  unfold findX; rw [this]
theorem itemNo_ok (w : World) : ItemOk w (itemNo, .slice none 0 0) := ⟨Or.inl ⟨rfl, none, 0, rfl⟩, ⟨by decide, by simp [itemNo, maxLen], by decide⟩, fun r hr => by simp [itemNo] at hr⟩
theorem findSays_of {wb : World} {X : JItem × Bool} {x : JItem} {b : Bool} {kv : Value} {w w' : World} (h : X = (x, b)) (h1 : ItemOk wb (x, kv)) (k : Kept [] w w') : FindSays wb X w (.returned (.tuple #[.agg (x.cells kv), .bool b])) w' := by subst h; exact ⟨kv, rfl, h1, k⟩
theorem Own.put4 {w : World} {b : Nat} {x0 x1 x2 x3 : Value} {t : TypeId} (h : Own w b #[x0, x1, x2, x3] t) (y0 y1 y2 y3 : Value) :
    Own ((((w.setCell ⟨b, 0, none⟩ y0).setCell ⟨b, 1, none⟩ y1).setCell ⟨b, 2, none⟩ y2).setCell ⟨b, 3, none⟩ y3) b #[y0, y1, y2, y3] t := by
  have := (((h.set 0 y0).set 1 y1).set 2 y2).set 3 y3
  simpa using this
set_option maxRecDepth 100000 in
theorem zempty (w : World) : Calls Tryz.prog 41 #[] w fun e w' => e = .returned (.agg #[.int .u32 1, .int .u32 1, .slice none 0 0, .slice none 0 0, .slice none 0 0]) ∧ Kept [] w w' := by
  go_enter Tryz.func41, Tryz.ntmps41
  go_wp2_with fail
  have o := Own.new w #[.int .u32 1, .int .u32 1, .slice none 0 0, .slice none 0 0, .slice none 0 0] 52
  refine bodyPost_ret (v := .agg #[.int .u32 1, .int .u32 1, .slice none 0 0, .slice none 0 0, .slice none 0 0]) (ret_row Tryz.results41 rfl (t := 52) ?_ Tryz.underlying52 rfl (by kernel_rfl)) rfl ⟨rfl, (Kept.refl _ _).alloc _⟩
  exact o
set_option maxRecDepth 100000 in
set_option maxHeartbeats 2000000 in
theorem zindex_name (p : JItem → Bool) (cv : Value) (v : Value) (l : List JItem) (w : World) (h : ItemsIn w v l) (hl : l.length ≤ 1000000)
    (hp : ∀ W, Kept [] w W → ∀ i (hi : i < l.length) kv, ItemOk W (l[i], kv) → Calls Tryz.prog 119 #[.agg (l[i].cells kv), cv] W fun e w' => e = .returned (.bool (p l[i])) ∧ Kept [] W w') :
    Calls Tryz.prog 187 #[v, .func (.func 119) #[] #[cv]] w (IdxZSays p l w) := by
  obtain ⟨pa, ca, rfl⟩ := h.shape
  have H := Lib.hid h
  have HP := Lib.hid hp
  have hl' : (l.length : Int) ≤ 1000000 := by omega
  clear h hp
  go_enter Tryz.func187, Tryz.ntmps187
  go_wp2_with fail
  go_loopw [8] (fun i wr => ∃ k : Nat, k ≤ l.length ∧ i = .int .i64 k ∧ (∀ j (hj : j < l.length), j < k → p l[j] = false) ∧ Kept [] w wr) (fun i _ => l.length - (intOf i).toNat)
  case atStart => exact ⟨0, Nat.zero_le _, rfl, fun j hj h => absurd h (Nat.not_lt_zero j), Kept.refl _ _⟩
  case round =>
    obtain ⟨k, hk, rfl, hno, hK⟩ := hrel
    by_cases hlt : k < l.length
    · obtain ⟨b, off, kv, rfl, hia, hb, hc1, hc2, HA⟩ := H.out.at4 k hlt
      have hcl := HP.out wr hK k hlt kv (hia.kept0 hK)
      obtain ⟨x0, x1, x2, x3⟩ := HA wr hK
      obtain ⟨R, hR⟩ : ∃ R, p (l[k]'hlt) = R := ⟨_, rfl⟩
      rw [hR] at hcl
      unfold JItem.cells at hcl
      have i1 : (k : Int) < l.length := by omega
      have HCL := Lib.hid hcl
      have HRR := Lib.hid hR
      have HNO := Lib.hid hno
      have HKK := Lib.hid hK
      have HLT := Lib.hid hlt
      clear hia hcl hR hno HA hb
      generalize hLA : l[k]'hlt = A at x0 x1 x2 x3 HCL
      clear hLA
      go_wp2_with fail
      refine HCL.out.mono ?_; rintro e w2 ⟨rfl, k2⟩
      have KK := Lib.hid (HKK.out.trans k2)
      cases R with
      | true =>
        go_wp2_with fail
        go_ret
        exact ⟨Or.inl ⟨k, HLT.out, HRR.out, HNO.out, rfl⟩, KK.out⟩
      | false =>
        go_wp2_with fail
        go_roundw
        case rel => exact ⟨k + 1, HLT.out, by go_num, fun j hj hjk => by
          by_cases e : j = k
          · subst e; exact HRR.out
          · exact HNO.out j hj (by omega), KK.out⟩
        case measure => (have h := HLT.out; simp [intOf]; omega)
    · obtain rfl : k = l.length := by omega
      have HNO := Lib.hid hno
      clear hno
      go_wp2_with fail
      go_ret
      exact ⟨Or.inr ⟨fun j hj => HNO.out j hj hj, rfl⟩, hK⟩
set_option maxRecDepth 100000 in
set_option maxHeartbeats 2000000 in
theorem zfirst_name (p : JItem → Bool) (cv : Value) (v : Value) (l : List JItem) (wb w : World) (hwb : Kept [] wb w) (hb0 : ItemsIn wb v l) (hl : l.length ≤ 1000000)
    (hp : ∀ W, Kept [] w W → ∀ i (hi : i < l.length) kv, ItemOk W (l[i], kv) → Calls Tryz.prog 119 #[.agg (l[i].cells kv), cv] W fun e w' => e = .returned (.bool (p l[i])) ∧ Kept [] W w') :
    Calls Tryz.prog 116 #[v, .func (.func 119) #[] #[cv]] w (FindSays wb (findX p l) w) := by
  have h := hb0.kept0 hwb
  have HB0 := Lib.hid hb0
  have HWB := Lib.hid hwb
  have k0 : Kept [] w (w.alloc (.cells #[.int .u32 0, .string { data := #[] }, .int .i64 0, .slice none 0 0] 113)) := (Kept.refl _ _).alloc _
  have o0 := Own.new w #[.int .u32 0, .string { data := #[] }, .int .i64 0, .slice none 0 0] 113
  have hi := zindex_name p cv v l _ (h.kept0 k0) hl (fun W q i hi kv hx => hp W (k0.trans q) i hi kv hx)
  unfold IdxZSays at hi
  obtain ⟨pa, ca, rfl⟩ := h.shape
  have H := Lib.hid h
  have HI := Lib.hid hi
  have K0 := Lib.hid k0
  have O0 := Lib.hid o0
  have hl' : (l.length : Int) ≤ 1000000 := by omega
  clear hi h hp k0 o0 hb0 hwb
  go_enter Tryz.func116, Tryz.ntmps116
  go_wp2_with fail
  refine HI.out.mono ?_; rintro e w2 ⟨hcase, k2⟩
  have K2 := Lib.hid (K0.out.trans k2)
  have O2 := Lib.hid (k2.own O0.out (by simp))
  obtain ⟨x0, x1, x2, x3⟩ := O2.out.c4
  obtain ⟨f0, f1, f2, f3⟩ := O2.out.z4
  rcases hcase with ⟨i, hi, h1, h2, rfl⟩ | ⟨h2, rfl⟩
  · have HE := Lib.hid (findX_at hi h1 h2)
    obtain ⟨b, off, kv, rfl, hia, hb, hc1, hc2, HA⟩ := HB0.out.at4 i hi
    obtain ⟨y0, y1, y2, y3⟩ := HA w2 (HWB.out.trans K2.out)
    obtain ⟨pk, nk, ck, rfl⟩ := hia.slv
    have i1 : (i : Int) < l.length := by omega
    have i2 : (0 : Int) ≤ (i : Int) := by omega
    have HIA := Lib.hid hia
    clear h1 h2 hia HA hb
    generalize l[i]'hi = A at *
    go_wp2_with fail
    refine bodyPost_ret (v := .tuple #[.agg #[.int .u32 A.id, .string (bs A.name), .int .i64 A.size, .slice pk nk ck], .bool true]) (ret_row_tmp Tryz.results116 rfl rfl (t := 113) ?_ Tryz.underlying113 rfl (by kernel_rfl)) rfl ?_
    · exact O2.out.put4 _ _ _ _
    · have hkk : Kept [w.heap.size] w2 ((((w2.setCell ⟨w.heap.size, 0, none⟩ (.int .u32 A.id)).setCell ⟨w.heap.size, 1, none⟩ (.string (bs A.name))).setCell ⟨w.heap.size, 2, none⟩ (.int .i64 A.size)).setCell ⟨w.heap.size, 3, none⟩ (.slice pk nk ck)) := Kept.set4 (Kept.refl _ _) (Or.inl (by simp)) _ _ _ _
      have hko : Kept [] w ((((w2.setCell ⟨w.heap.size, 0, none⟩ (.int .u32 A.id)).setCell ⟨w.heap.size, 1, none⟩ (.string (bs A.name))).setCell ⟨w.heap.size, 2, none⟩ (.int .i64 A.size)).setCell ⟨w.heap.size, 3, none⟩ (.slice pk nk ck)) := Kept.set4 K2.out (Or.inr (Nat.le_refl _)) _ _ _ _
      refine findSays_of (kv := .slice pk nk ck) HE.out HIA.out hko
  · have HE := Lib.hid (findX_no h2)
    clear h2
    go_wp2_with fail
    refine bodyPost_ret (v := .tuple #[.agg #[.int .u32 0, .string { data := #[] }, .int .i64 0, .slice none 0 0], .bool false]) (ret_row_tmp Tryz.results116 rfl rfl (t := 113) ?_ Tryz.underlying113 rfl (by kernel_rfl)) rfl ?_
    · exact O2.out.put4 _ _ _ _
    · exact findSays_of (kv := .slice none 0 0) HE.out (itemNo_ok _) (Kept.set4 K2.out (Or.inr (Nat.le_refl _)) _ _ _ _)
set_option maxRecDepth 100000 in
theorem zpred_name (nm : List UInt8) (kb : Nat) (x : JItem) (xv : Value) (w : World) (hk : w.cell? ⟨kb, 0, none⟩ = some (.string (bs nm))) (hs : SlV xv) :
    Calls Tryz.prog 119 #[.agg (x.cells xv), .pointer (some ⟨kb, 0, none⟩)] w fun e w' => e = .returned (.bool (x.name == nm)) ∧ Kept [] w w' := by
  obtain ⟨p, n, c, rfl⟩ := hs
  have oX := Own.new w (x.cells (.slice p n c)) 113
  have k0 : Kept [] w (w.alloc (.cells (x.cells (.slice p n c)) 113)) := (Kept.refl _ _).alloc _
  have c0 : (w.alloc (.cells (x.cells (.slice p n c)) 113)).cell? ⟨kb, 0, none⟩ = some (.string (bs nm)) := Lib.cell?_alloc_some _ hk
  unfold JItem.cells at oX k0 c0 ⊢
  obtain ⟨x0, x1, x2, x3⟩ := oX.c4
  have K0 := Lib.hid k0
  clear oX k0 hk
  obtain ⟨R, hR⟩ : ∃ R, (x.name == nm) = R := ⟨_, rfl⟩
  obtain ⟨g1, g2⟩ := bsI_forms x.name nm hR
  rw [hR]
  have HR := Lib.hid hR
  go_enter Tryz.func119, Tryz.ntmps119
  go_wp2_with fail
  go_ret
  exact ⟨rfl, K0.out⟩
set_option maxRecDepth 100000 in
set_option maxHeartbeats 2000000 in
theorem zFind_name (nm : List UInt8) (v : Value) (c : JCat) (w : World) (h : CatIn w v c) (hc : SmallC c) :
    Calls Tryz.prog 59 #[v, .string (bs nm)] w (FindSays w (findX (fun x => x.name == nm) c.names) w) := by
  obtain ⟨vb, vm, vn, rfl, hb, hm, hn, _⟩ := h
  obtain ⟨p1, c1, rfl⟩ := hb.shape
  obtain ⟨p2, c2, rfl⟩ := hm.shape
  obtain ⟨p3, c3, rfl⟩ := hn.shape
  obtain ⟨oA, oB, oC⟩ := own_threeC w #[.int .u32 c.nextBox, .int .u32 c.nextMan, .slice p1 c.boxes.length c1, .slice p2 c.mans.length c2, .slice p3 c.names.length c3] #[.string (bs nm)] #[.int .u32 0, .string { data := #[] }, .int .i64 0, .slice none 0 0] 52 9 113
  have k0 : Kept [] w (((w.alloc (.cells #[.int .u32 c.nextBox, .int .u32 c.nextMan, .slice p1 c.boxes.length c1, .slice p2 c.mans.length c2, .slice p3 c.names.length c3] 52)).alloc (.cells #[.string (bs nm)] 9)).alloc (.cells #[.int .u32 0, .string { data := #[] }, .int .i64 0, .slice none 0 0] 113)) := (((Kept.refl _ _).alloc _).alloc _).alloc _
  have hcb := oB.cell 0 (by simp)
  have hf := zfirst_name (fun x => x.name == nm) (.pointer (some ⟨w.heap.size + 1, 0, none⟩)) _ c.names w _ k0 hn hc.2.2.1 (fun W q i hi kv hx => zpred_name _ (w.heap.size + 1) _ kv W ((q.cell (by exact oB.lt) (by simp)).trans hcb) hx.slv)
  unfold FindSays at hf
  have HF := Lib.hid hf
  obtain ⟨x0, x1, x2, x3, x4⟩ := oA.k5
  have OC := Lib.hid oC
  have K0 := Lib.hid k0
  clear hf hcb oA oB oC k0 hb hm hn hc
  generalize findX (fun x => x.name == nm) c.names = X at *
  obtain ⟨X1, X2⟩ := X
  simp only at HF
  go_enter Tryz.func59, Tryz.ntmps59
  go_wp2_with fail
  refine HF.out.mono ?_; rintro e w2 ⟨kv, rfl, hio, k2⟩
  have K2 := Lib.hid (K0.out.trans k2)
  have O2 := Lib.hid (k2.own OC.out (by simp))
  have HIO := Lib.hid hio
  obtain ⟨pk, nk, ck, rfl⟩ := hio.slv
  obtain ⟨x0, x1, x2, x3⟩ := O2.out.c4
  obtain ⟨f0, f1, f2, f3⟩ := O2.out.z4
  clear hio
  unfold JItem.cells
  go_wp2_with fail
  refine bodyPost_ret (v := .tuple #[.agg #[.int .u32 X1.id, .string (bs X1.name), .int .i64 X1.size, .slice pk nk ck], .bool X2]) (ret_row_tmp Tryz.results59 rfl rfl (t := 113) ?_ Tryz.underlying113 rfl (by kernel_rfl)) rfl ?_
  · exact O2.out.put4 _ _ _ _
  · exact ⟨.slice pk nk ck, rfl, HIO.out, Kept.set4 K2.out (Or.inr (by show w.heap.size ≤ w.heap.size + 1 + 1; omega)) _ _ _ _⟩
end Go.Proofs.YtdkimcnlhmhpgaaGreat
