/- -/
import Derived.Test.YtdkimcnlhmhpgaaGreatH17
import Derived.Test.YtdkimcnlhmhpgaaGreatH18
import Derived.Deep.RegionLaw
import Derived.Lib.Walk
import Derived.WalkKit
set_option linter.unusedVariables false
set_option linter.unusedSimpArgs false
namespace Go.Proofs.YtdkimcnlhmhpgaaGreat
open Go.RowKit
def SeekSays (l : List JItem) (x : JItem) (w : World) (e : Ending) (w' : World) : Prop := ∃ q, e = .returned (.tuple #[.int .i64 (posI l x), .bool q]) ∧ (q = true ↔ hasK l x) ∧ Kept [] w w'
theorem seekSays_end {l : List JItem} {x : JItem} (hr : Rise l) {k : Nat} (hk : posI l x = k) (h : l.length ≤ k) {w w' : World} (q : Kept [] w w') : SeekSays l x w (.returned (.tuple #[.int .i64 k, .bool false])) w' :=
 ⟨false, by rw [hk], ⟨fun h' => (by cases h'), fun h' => absurd h' (posI_end hr (by omega))⟩, q⟩
theorem seekSays_at {l : List JItem} {x : JItem} (hr : Rise l) {k : Nat} (hk : posI l x = k) (h : k < l.length) {b : Bool} (hb : b = eqK l[k] x) {w w' : World} (q : Kept [] w w') : SeekSays l x w (.returned (.tuple #[.int .i64 k, .bool b])) w' := by
 subst hk
 exact ⟨b, rfl, by rw [hb]; exact posI_has hr h, q⟩
set_option maxRecDepth 100000 in
set_option maxHeartbeats 2000000 in
theorem zbsearch (v : Value) (l : List JItem) (x : JItem) (xv : Value) (w : World) (h : ItemsIn w v l) (hl : l.length ≤ 1000000) (hr : Rise l) :
  Calls Tryz.prog 269 #[v, .agg (x.cells xv), .func (.func 233) #[] #[]] w (SeekSays l x w) := by
 obtain ⟨p, c, rfl⟩ := h.shape
 have H := Lib.hid h
 have HR := Lib.hid hr
 have hl' : (l.length : Int) ≤ 1000000 := by omega
 have ho := zorder
 have HO := Lib.hid ho
 have hple := posI_le l x
 have HP := Lib.hid hple
 have oX := Own.new w (x.cells xv) 113
 have k0 : Kept [] w (w.alloc (.cells (x.cells xv) 113)) := (Kept.refl _ _).alloc _
 unfold JItem.cells at oX k0 ⊢
 obtain ⟨x0, x1, x2, x3⟩ := oX.c4
 have OX := Lib.hid oX
 have K0 := Lib.hid k0
 clear h hr ho hple oX k0
 go_enter Tryz.func269, Tryz.ntmps269
 go_wp2_with fail
 go_loopw [9, 10] (fun i j wr => ∃ lo hi : Nat, i = .int .i64 lo ∧ j = .int .i64 hi ∧ lo ≤ posI l x ∧ posI l x ≤ hi ∧ hi ≤ l.length ∧ Kept [] w wr ∧ Own wr w.heap.size #[.int .u32 x.id, .string (bs x.name), .int .i64 x.size, xv] 113) (fun i j _ => (intOf j).toNat - (intOf i).toNat)
 case atStart => exact ⟨0, l.length, rfl, rfl, Nat.zero_le _, HP.out, Nat.le_refl _, K0.out, OX.out⟩
 case round =>
  obtain ⟨lo, hi, rfl, rfl, hlo, hhi, hle, hK, oX⟩ := hrel
  by_cases hlt : lo < hi
  ·have i1 : (lo : Int) < hi := by omega
   obtain ⟨m, hm⟩ : ∃ m, (lo + hi) / 2 = m := ⟨_, rfl⟩
   have e1 : ((lo : Int) + hi) / 2 = (m : Int) := by omega
   have hm' : m < l.length := by omega
   have hmb : lo ≤ m ∧ m < hi := by omega
   have i2 : (m : Int) < l.length := by omega
   obtain ⟨b, off, kv, rfl, _, hb, hc1, hc2, HA⟩ := H.out.at4 m hm'
   have hcmp := HO.out (l[m]'hm') x kv xv
   obtain ⟨R, hR⟩ : ∃ R, ordI (l[m]'hm') x = R := ⟨_, rfl⟩
   have hRc : (R < 0 ∧ m < posI l x) ∨ (0 ≤ R ∧ posI l x ≤ m) := by
    rw [← hR]
    by_cases g : m < posI l x
    ·exact Or.inl ⟨ordI_lt.2 ((lt_pos HR.out hm').2 g), g⟩
    ·refine Or.inr ⟨?_, by omega⟩
     have := mt ordI_lt.1 (fun h => g ((lt_pos HR.out hm').1 h))
     omega
   rw [hR] at hcmp
   unfold JItem.cells at hcmp
   have HC := Lib.hid hcmp
   have HRC := Lib.hid hRc
   have HMB := Lib.hid (And.intro hmb hm')
   have HLH := Lib.hid (And.intro hlo (And.intro hhi hle))
   have HKK := Lib.hid hK
   have OX2 := Lib.hid oX
   have HAX : Hid (∀ W, Kept [] w W → Own W w.heap.size #[.int .u32 x.id, .string (bs x.name), .int .i64 x.size, xv] 113 → (W.cell? ⟨b, off + m * 4, none⟩ = some (.int .u32 (l[m]'hm').id) ∧ W.cell? ⟨b, off + m * 4 + 1, none⟩ = some (.string (bs (l[m]'hm').name)) ∧ W.cell? ⟨b, off + m * 4 + 2, none⟩ = some (.int .i64 (l[m]'hm').size) ∧ W.cell? ⟨b, off + m * 4 + 3, none⟩ = some kv) ∧ (W.cell? ⟨w.heap.size, 0, none⟩ = some (.int .u32 x.id) ∧ W.cell? ⟨w.heap.size, 1, none⟩ = some (.string (bs x.name)) ∧ W.cell? ⟨w.heap.size, 2, none⟩ = some (.int .i64 x.size) ∧ W.cell? ⟨w.heap.size, 3, none⟩ = some xv)) := Lib.hid (fun W q o => ⟨HA W q, o.c4⟩)
   clear HA hcmp hRc hR hmb hlo hhi hle hlt hm
   generalize hLA : l[m]'hm' = A at HC HAX
   clear hLA
   obtain ⟨P, hP⟩ : ∃ P, posI l x = P := ⟨_, rfl⟩
   rw [hP] at HRC HLH
   have HPP := Lib.hid hP
   clear hP
   go_wp2_with fail
   refine wp_region_held_drew (S := (fun W => (W.cell? ⟨b, off + m * 4, none⟩ = some (.int .u32 A.id) ∧ W.cell? ⟨b, off + m * 4 + 1, none⟩ = some (.string (bs A.name)) ∧ W.cell? ⟨b, off + m * 4 + 2, none⟩ = some (.int .i64 A.size) ∧ W.cell? ⟨b, off + m * 4 + 3, none⟩ = some kv) ∧ (W.cell? ⟨w.heap.size, 0, none⟩ = some (.int .u32 x.id) ∧ W.cell? ⟨w.heap.size, 1, none⟩ = some (.string (bs x.name)) ∧ W.cell? ⟨w.heap.size, 2, none⟩ = some (.int .i64 x.size) ∧ W.cell? ⟨w.heap.size, 3, none⟩ = some xv))) (by kernel_rfl) (by exact HAX.out _ HKK.out.drew OX2.out.drew) (fun hHeld => ?_)
   refine take_at (i := 0) (d := some 24) (v := ?_) rfl rfl (by kernel_rfl) (by kernel_rfl) (by kernel_rfl) (fun _ _ _ h => h) (Or.inl ⟨by rfl, ?_⟩) (by assumption) ?_
   rotate_left
   ·(intro w hSw; (try dsimp only at hSw); go_simp; try with_reducible rfl)
   try simp only [Act.put, List.setIfInBounds_toArray, List.set_cons_zero, List.set_cons_succ]
   refine take_at (i := 1) (d := some 25) (v := ?_) rfl rfl (by kernel_rfl) (by kernel_rfl) (by kernel_rfl) (fun _ _ _ h => h) (Or.inl ⟨by rfl, ?_⟩) (by assumption) ?_
   rotate_left
   ·(intro w hSw; (try dsimp only at hSw); go_simp; try with_reducible rfl)
   try simp only [Act.put, List.setIfInBounds_toArray, List.set_cons_zero, List.set_cons_succ]
   refine take_at (i := 2) (d := some 26) (v := ?_) rfl rfl (by kernel_rfl) (by kernel_rfl) (by kernel_rfl) (fun _ _ _ h => h) (Or.inl ⟨by rfl, ?_⟩) (by assumption) ?_
   rotate_left
   ·(intro w hSw; (try dsimp only at hSw); go_simp; try with_reducible rfl)
   try simp only [Act.put, List.setIfInBounds_toArray, List.set_cons_zero, List.set_cons_succ]
   refine take_at (i := 3) (d := some 27) (v := ?_) rfl rfl (by kernel_rfl) (by kernel_rfl) (by kernel_rfl) (fun _ _ _ h => h) (Or.inl ⟨by rfl, ?_⟩) (by assumption) ?_
   rotate_left
   ·(intro w hSw; (try dsimp only at hSw); go_simp; try with_reducible rfl)
   try simp only [Act.put, List.setIfInBounds_toArray, List.set_cons_zero, List.set_cons_succ]
   refine take_at (i := 4) (d := some 28) (v := ?_) rfl rfl (by kernel_rfl) (by kernel_rfl) (by kernel_rfl) (fun _ _ _ h => h) (Or.inl ⟨by rfl, ?_⟩) (by assumption) ?_
   rotate_left
   ·(intro w hSw; (try dsimp only at hSw); go_simp; try with_reducible rfl)
   try simp only [Act.put, List.setIfInBounds_toArray, List.set_cons_zero, List.set_cons_succ]
   refine take_at (i := 5) (d := some 29) (v := ?_) rfl rfl (by kernel_rfl) (by kernel_rfl) (by kernel_rfl) (fun _ _ _ h => h) (Or.inl ⟨by rfl, ?_⟩) (by assumption) ?_
   rotate_left
   ·(intro w hSw; (try dsimp only at hSw); go_simp; try with_reducible rfl)
   try simp only [Act.put, List.setIfInBounds_toArray, List.set_cons_zero, List.set_cons_succ]
   refine wpAnyH_ready (rs := [6]) (by kernel_rfl) (by simp) ?_
   refine (AllReadyH.cons rfl (fun K hK => ?_) AllReadyH.nil)
   go_simp
   ((with_reducible refine (HC.out _).mono ?_)); rintro e w2 ⟨rfl, k2⟩
   have KK := Lib.hid (HKK.out.drew.trans k2)
   have O2 := Lib.hid (k2.own OX2.out.drew (by simp))
   go_wp2_with fail
   refine hK.out _ _ ?_ (fun hHeld => ?_)
   ·exact HAX.out _ KK.out O2.out
   clear hK K
   try simp only [Act.put, List.setIfInBounds_toArray, List.set_cons_zero, List.set_cons_succ]
   refine take_at (i := 7) (d := some 31) (v := ?_) rfl rfl (by kernel_rfl) (by kernel_rfl) (by kernel_rfl) (fun _ _ _ h => h) (Or.inl ⟨by rfl, ?_⟩) (by assumption) ?_
   rotate_left
   ·(intro w hSw; (try dsimp only at hSw); go_simp; try with_reducible rfl)
   try simp only [Act.put, List.setIfInBounds_toArray, List.set_cons_zero, List.set_cons_succ]
   refine wpAnyH_done (by kernel_rfl) ?_ _
   rcases HRC.out with ⟨hneg, hp⟩ | ⟨hneg, hp⟩
   ·have hn2 : decide (R < 0) = true := by simp; omega
    have HP2 := Lib.hid hp
    clear hp
    go_wp2_with fail
    go_roundw
    case rel => exact ⟨m + 1, hi, by rfl, rfl, by rw [HPP.out]; exact HP2.out, by rw [HPP.out]; exact HLH.out.2.1, HLH.out.2.2, KK.out, O2.out⟩
    case measure => (have := HMB.out; simp [intOf]; omega)
   ·have hn2 : decide (R < 0) = false := by simp; omega
    have HP2 := Lib.hid hp
    clear hp
    go_wp2_with fail
    go_roundw
    case rel => exact ⟨lo, m, rfl, rfl, by rw [HPP.out]; exact HLH.out.1, by rw [HPP.out]; exact HP2.out, by have := HMB.out; omega, KK.out, O2.out⟩
    case measure => (have := HMB.out; simp [intOf]; omega)
  ·obtain rfl : lo = hi := by omega
   have hpk : posI l x = lo := by omega
   have i1 : ¬ (lo : Int) < lo := by omega
   by_cases hlt2 : lo < l.length
   ·have i2 : (lo : Int) < l.length := by omega
    obtain ⟨b, off, kv, rfl, _, hb, hc1, hc2, HA⟩ := H.out.at4 lo hlt2
    have hcmp := HO.out (l[lo]'hlt2) x kv xv
    obtain ⟨R, hR⟩ : ∃ R, ordI (l[lo]'hlt2) x = R := ⟨_, rfl⟩
    have hRc : (R == 0) = eqK (l[lo]'hlt2) x := by
     rw [← hR]
     cases g : eqK (l[lo]'hlt2) x
     ·have := mt ordI_zero.1 (by rw [g]; decide : ¬ eqK (l[lo]'hlt2) x = true)
      simpa using this
     ·simpa using ordI_zero.2 g
    have hsay := fun W (q : Kept [] w W) => seekSays_at HR.out hpk hlt2 hRc q
    have HSAY := Lib.hid hsay
    rw [hR] at hcmp
    unfold JItem.cells at hcmp
    have HC := Lib.hid hcmp
    have HKK := Lib.hid hK
    have OX2 := Lib.hid oX
    have HAX : Hid (∀ W, Kept [] w W → Own W w.heap.size #[.int .u32 x.id, .string (bs x.name), .int .i64 x.size, xv] 113 → (W.cell? ⟨b, off + lo * 4, none⟩ = some (.int .u32 (l[lo]'hlt2).id) ∧ W.cell? ⟨b, off + lo * 4 + 1, none⟩ = some (.string (bs (l[lo]'hlt2).name)) ∧ W.cell? ⟨b, off + lo * 4 + 2, none⟩ = some (.int .i64 (l[lo]'hlt2).size) ∧ W.cell? ⟨b, off + lo * 4 + 3, none⟩ = some kv) ∧ (W.cell? ⟨w.heap.size, 0, none⟩ = some (.int .u32 x.id) ∧ W.cell? ⟨w.heap.size, 1, none⟩ = some (.string (bs x.name)) ∧ W.cell? ⟨w.heap.size, 2, none⟩ = some (.int .i64 x.size) ∧ W.cell? ⟨w.heap.size, 3, none⟩ = some xv)) := Lib.hid (fun W q o => ⟨HA W q, o.c4⟩)
    clear HA hcmp hR hRc hsay hlo hhi hle hlt
    generalize hLA : l[lo]'hlt2 = A at HC HAX
    clear hLA
    go_wp2_with fail
    refine wp_region_held_drew (S := (fun W => (W.cell? ⟨b, off + lo * 4, none⟩ = some (.int .u32 A.id) ∧ W.cell? ⟨b, off + lo * 4 + 1, none⟩ = some (.string (bs A.name)) ∧ W.cell? ⟨b, off + lo * 4 + 2, none⟩ = some (.int .i64 A.size) ∧ W.cell? ⟨b, off + lo * 4 + 3, none⟩ = some kv) ∧ (W.cell? ⟨w.heap.size, 0, none⟩ = some (.int .u32 x.id) ∧ W.cell? ⟨w.heap.size, 1, none⟩ = some (.string (bs x.name)) ∧ W.cell? ⟨w.heap.size, 2, none⟩ = some (.int .i64 x.size) ∧ W.cell? ⟨w.heap.size, 3, none⟩ = some xv))) (by kernel_rfl) (by exact HAX.out _ HKK.out.drew OX2.out.drew) (fun hHeld => ?_)
    refine take_at (i := 0) (d := some 35) (v := ?_) rfl rfl (by kernel_rfl) (by kernel_rfl) (by kernel_rfl) (fun _ _ _ h => h) (Or.inl ⟨by rfl, ?_⟩) (by assumption) ?_
    rotate_left
    ·(intro w hSw; (try dsimp only at hSw); go_simp; try with_reducible rfl)
    try simp only [Act.put, List.setIfInBounds_toArray, List.set_cons_zero, List.set_cons_succ]
    refine take_at (i := 1) (d := some 36) (v := ?_) rfl rfl (by kernel_rfl) (by kernel_rfl) (by kernel_rfl) (fun _ _ _ h => h) (Or.inl ⟨by rfl, ?_⟩) (by assumption) ?_
    rotate_left
    ·(intro w hSw; (try dsimp only at hSw); go_simp; try with_reducible rfl)
    try simp only [Act.put, List.setIfInBounds_toArray, List.set_cons_zero, List.set_cons_succ]
    refine take_at (i := 2) (d := some 37) (v := ?_) rfl rfl (by kernel_rfl) (by kernel_rfl) (by kernel_rfl) (fun _ _ _ h => h) (Or.inl ⟨by rfl, ?_⟩) (by assumption) ?_
    rotate_left
    ·(intro w hSw; (try dsimp only at hSw); go_simp; try with_reducible rfl)
    try simp only [Act.put, List.setIfInBounds_toArray, List.set_cons_zero, List.set_cons_succ]
    refine take_at (i := 3) (d := some 38) (v := ?_) rfl rfl (by kernel_rfl) (by kernel_rfl) (by kernel_rfl) (fun _ _ _ h => h) (Or.inl ⟨by rfl, ?_⟩) (by assumption) ?_
    rotate_left
    ·(intro w hSw; (try dsimp only at hSw); go_simp; try with_reducible rfl)
    try simp only [Act.put, List.setIfInBounds_toArray, List.set_cons_zero, List.set_cons_succ]
    refine take_at (i := 4) (d := some 39) (v := ?_) rfl rfl (by kernel_rfl) (by kernel_rfl) (by kernel_rfl) (fun _ _ _ h => h) (Or.inl ⟨by rfl, ?_⟩) (by assumption) ?_
    rotate_left
    ·(intro w hSw; (try dsimp only at hSw); go_simp; try with_reducible rfl)
    try simp only [Act.put, List.setIfInBounds_toArray, List.set_cons_zero, List.set_cons_succ]
    refine take_at (i := 5) (d := some 40) (v := ?_) rfl rfl (by kernel_rfl) (by kernel_rfl) (by kernel_rfl) (fun _ _ _ h => h) (Or.inl ⟨by rfl, ?_⟩) (by assumption) ?_
    rotate_left
    ·(intro w hSw; (try dsimp only at hSw); go_simp; try with_reducible rfl)
    try simp only [Act.put, List.setIfInBounds_toArray, List.set_cons_zero, List.set_cons_succ]
    refine take_at (i := 6) (d := some 41) (v := ?_) rfl rfl (by kernel_rfl) (by kernel_rfl) (by kernel_rfl) (fun _ _ _ h => h) (Or.inl ⟨by rfl, ?_⟩) (by assumption) ?_
    rotate_left
    ·(intro w hSw; (try dsimp only at hSw); go_simp; try with_reducible rfl)
    try simp only [Act.put, List.setIfInBounds_toArray, List.set_cons_zero, List.set_cons_succ]
    refine take_at (i := 7) (d := some 42) (v := ?_) rfl rfl (by kernel_rfl) (by kernel_rfl) (by kernel_rfl) (fun _ _ _ h => h) (Or.inl ⟨by rfl, ?_⟩) (by assumption) ?_
    rotate_left
    ·(intro w hSw; (try dsimp only at hSw); go_simp; try with_reducible rfl)
    try simp only [Act.put, List.setIfInBounds_toArray, List.set_cons_zero, List.set_cons_succ]
    refine take_at (i := 8) (d := some 43) (v := ?_) rfl rfl (by kernel_rfl) (by kernel_rfl) (by kernel_rfl) (fun _ _ _ h => h) (Or.inl ⟨by rfl, ?_⟩) (by assumption) ?_
    rotate_left
    ·(intro w hSw; (try dsimp only at hSw); go_simp; try with_reducible rfl)
    try simp only [Act.put, List.setIfInBounds_toArray, List.set_cons_zero, List.set_cons_succ]
    refine take_at (i := 9) (d := some 44) (v := ?_) rfl rfl (by kernel_rfl) (by kernel_rfl) (by kernel_rfl) (fun _ _ _ h => h) (Or.inl ⟨by rfl, ?_⟩) (by assumption) ?_
    rotate_left
    ·(intro w hSw; (try dsimp only at hSw); go_simp; try with_reducible rfl)
    try simp only [Act.put, List.setIfInBounds_toArray, List.set_cons_zero, List.set_cons_succ]
    refine take_at (i := 10) (d := some 45) (v := ?_) rfl rfl (by kernel_rfl) (by kernel_rfl) (by kernel_rfl) (fun _ _ _ h => h) (Or.inl ⟨by rfl, ?_⟩) (by assumption) ?_
    rotate_left
    ·(intro w hSw; (try dsimp only at hSw); go_simp; try with_reducible rfl)
    try simp only [Act.put, List.setIfInBounds_toArray, List.set_cons_zero, List.set_cons_succ]
    refine wpAnyH_ready (rs := [11]) (by kernel_rfl) (by simp) ?_
    refine (AllReadyH.cons rfl (fun K hK => ?_) AllReadyH.nil)
    go_simp
    ((with_reducible refine (HC.out _).mono ?_)); rintro e w2 ⟨rfl, k2⟩
    have KK := Lib.hid (HKK.out.drew.trans k2)
    have O2 := Lib.hid (k2.own OX2.out.drew (by simp))
    go_wp2_with fail
    refine hK.out _ _ ?_ (fun hHeld => ?_)
    ·exact HAX.out _ KK.out O2.out
    clear hK K
    try simp only [Act.put, List.setIfInBounds_toArray, List.set_cons_zero, List.set_cons_succ]
    refine take_at (i := 12) (d := some 47) (v := ?_) rfl rfl (by kernel_rfl) (by kernel_rfl) (by kernel_rfl) (fun _ _ _ h => h) (Or.inl ⟨by rfl, ?_⟩) (by assumption) ?_
    rotate_left
    ·(intro w hSw; (try dsimp only at hSw); go_simp; try with_reducible rfl)
    try simp only [Act.put, List.setIfInBounds_toArray, List.set_cons_zero, List.set_cons_succ]
    refine take_at (i := 13) (d := some 48) (v := ?_) rfl rfl (by kernel_rfl) (by kernel_rfl) (by kernel_rfl) (fun _ _ _ h => h) (Or.inl ⟨by rfl, ?_⟩) (by assumption) ?_
    rotate_left
    ·(intro w hSw; (try dsimp only at hSw); go_simp; try with_reducible rfl)
    try simp only [Act.put, List.setIfInBounds_toArray, List.set_cons_zero, List.set_cons_succ]
    refine take_at (i := 14) (d := some 6) (v := ?_) rfl rfl (by kernel_rfl) (by kernel_rfl) (by kernel_rfl) (fun _ _ _ h => h) (Or.inl ⟨by rfl, ?_⟩) (by assumption) ?_
    rotate_left
    ·(intro w hSw; (try dsimp only at hSw); go_simp; try with_reducible rfl)
    try simp only [Act.put, List.setIfInBounds_toArray, List.set_cons_zero, List.set_cons_succ]
    refine take_at (i := 15) (d := some 7) (v := ?_) rfl rfl (by kernel_rfl) (by kernel_rfl) (by kernel_rfl) (fun _ _ _ h => h) (Or.inl ⟨by rfl, ?_⟩) (by assumption) ?_
    rotate_left
    ·(intro w hSw; (try dsimp only at hSw); go_simp; try with_reducible rfl)
    try simp only [Act.put, List.setIfInBounds_toArray, List.set_cons_zero, List.set_cons_succ]
    refine wpAnyH_done (by kernel_rfl) ?_ _
    go_wp2_with fail
    go_ret2
    exact HSAY.out _ KK.out
   ·have i2 : ¬ (lo : Int) < l.length := by omega
    have HSAY := Lib.hid (seekSays_end HR.out hpk (by omega) hK.drew)
    clear hlo hhi hle hlt
    have HKK := Lib.hid hK
    have i3 : decide ((lo : Int) < l.length) = false := by simp; omega
    go_wp2_with fail
    refine wp_region_held_drew (S := (fun _ => True)) (by kernel_rfl) (by trivial) (fun hHeld => ?_)
    refine take_at (i := 0) (d := some 35) (v := ?_) rfl rfl (by kernel_rfl) (by kernel_rfl) (by kernel_rfl) (fun _ _ _ h => h) (Or.inl ⟨by rfl, ?_⟩) (by assumption) ?_
    rotate_left
    ·(intro w hSw; (try dsimp only at hSw); go_simp; try with_reducible rfl)
    try simp only [Act.put, List.setIfInBounds_toArray, List.set_cons_zero, List.set_cons_succ]
    refine take_at (i := 1) (d := some 36) (v := ?_) rfl rfl (by kernel_rfl) (by kernel_rfl) (by kernel_rfl) (fun _ _ _ h => h) (Or.inl ⟨by rfl, ?_⟩) (by assumption) ?_
    rotate_left
    ·(intro w hSw; (try dsimp only at hSw); go_simp; try with_reducible rfl)
    try simp only [Act.put, List.setIfInBounds_toArray, List.set_cons_zero, List.set_cons_succ]
    refine take_at (i := 2) (d := some 37) (v := ?_) rfl rfl (by kernel_rfl) (by kernel_rfl) (by kernel_rfl) (fun _ _ _ h => h) (Or.inl ⟨by rfl, ?_⟩) (by assumption) ?_
    rotate_left
    ·(intro w hSw; (try dsimp only at hSw); go_simp; try with_reducible rfl)
    try simp only [Act.put, List.setIfInBounds_toArray, List.set_cons_zero, List.set_cons_succ]
    refine take_at (i := 3) (d := some 38) (v := ?_) rfl rfl (by kernel_rfl) (by kernel_rfl) (by kernel_rfl) (fun _ _ _ h => h) (Or.inl ⟨by rfl, ?_⟩) (by assumption) ?_
    rotate_left
    ·(intro w hSw; (try dsimp only at hSw); go_simp; try with_reducible rfl)
    try simp only [Act.put, List.setIfInBounds_toArray, List.set_cons_zero, List.set_cons_succ]
    refine take_at (i := 4) (d := some 39) (v := ?_) rfl rfl (by kernel_rfl) (by kernel_rfl) (by kernel_rfl) (fun _ _ _ h => h) (Or.inl ⟨by rfl, ?_⟩) (by assumption) ?_
    rotate_left
    ·(intro w hSw; (try dsimp only at hSw); go_simp; try with_reducible rfl)
    try simp only [Act.put, List.setIfInBounds_toArray, List.set_cons_zero, List.set_cons_succ]
    refine take_at (i := 5) (d := some 40) (v := undef) rfl rfl (by kernel_rfl) (by kernel_rfl) (by kernel_rfl) (fun _ _ _ h => h) (Or.inr ⟨by rfl, rfl⟩) (by assumption) ?_
    try simp only [Act.put, List.setIfInBounds_toArray, List.set_cons_zero, List.set_cons_succ]
    refine take_at (i := 6) (d := some 41) (v := undef) rfl rfl (by kernel_rfl) (by kernel_rfl) (by kernel_rfl) (fun _ _ _ h => h) (Or.inr ⟨by rfl, rfl⟩) (by assumption) ?_
    try simp only [Act.put, List.setIfInBounds_toArray, List.set_cons_zero, List.set_cons_succ]
    refine take_at (i := 7) (d := some 42) (v := undef) rfl rfl (by kernel_rfl) (by kernel_rfl) (by kernel_rfl) (fun _ _ _ h => h) (Or.inr ⟨by rfl, rfl⟩) (by assumption) ?_
    try simp only [Act.put, List.setIfInBounds_toArray, List.set_cons_zero, List.set_cons_succ]
    refine take_at (i := 8) (d := some 43) (v := undef) rfl rfl (by kernel_rfl) (by kernel_rfl) (by kernel_rfl) (fun _ _ _ h => h) (Or.inr ⟨by rfl, rfl⟩) (by assumption) ?_
    try simp only [Act.put, List.setIfInBounds_toArray, List.set_cons_zero, List.set_cons_succ]
    refine take_at (i := 9) (d := some 44) (v := undef) rfl rfl (by kernel_rfl) (by kernel_rfl) (by kernel_rfl) (fun _ _ _ h => h) (Or.inr ⟨by rfl, rfl⟩) (by assumption) ?_
    try simp only [Act.put, List.setIfInBounds_toArray, List.set_cons_zero, List.set_cons_succ]
    refine take_at (i := 10) (d := some 45) (v := undef) rfl rfl (by kernel_rfl) (by kernel_rfl) (by kernel_rfl) (fun _ _ _ h => h) (Or.inr ⟨by rfl, rfl⟩) (by assumption) ?_
    try simp only [Act.put, List.setIfInBounds_toArray, List.set_cons_zero, List.set_cons_succ]
    refine take_at (i := 11) (d := some 46) (v := undef) rfl rfl (by kernel_rfl) (by kernel_rfl) (by kernel_rfl) (fun _ _ _ h => h) (Or.inr ⟨by rfl, rfl⟩) (by assumption) ?_
    try simp only [Act.put, List.setIfInBounds_toArray, List.set_cons_zero, List.set_cons_succ]
    refine take_at (i := 12) (d := some 47) (v := undef) rfl rfl (by kernel_rfl) (by kernel_rfl) (by kernel_rfl) (fun _ _ _ h => h) (Or.inr ⟨by rfl, rfl⟩) (by assumption) ?_
    try simp only [Act.put, List.setIfInBounds_toArray, List.set_cons_zero, List.set_cons_succ]
    refine take_at (i := 13) (d := some 48) (v := ?_) rfl rfl (by kernel_rfl) (by kernel_rfl) (by kernel_rfl) (fun _ _ _ h => h) (Or.inl ⟨by rfl, ?_⟩) (by assumption) ?_
    rotate_left
    ·(intro w hSw; (try dsimp only at hSw); go_simp; try with_reducible rfl)
    try simp only [Act.put, List.setIfInBounds_toArray, List.set_cons_zero, List.set_cons_succ]
    refine take_at (i := 14) (d := some 6) (v := ?_) rfl rfl (by kernel_rfl) (by kernel_rfl) (by kernel_rfl) (fun _ _ _ h => h) (Or.inl ⟨by rfl, ?_⟩) (by assumption) ?_
    rotate_left
    ·(intro w hSw; (try dsimp only at hSw); go_simp; try with_reducible rfl)
    try simp only [Act.put, List.setIfInBounds_toArray, List.set_cons_zero, List.set_cons_succ]
    refine take_at (i := 15) (d := some 7) (v := ?_) rfl rfl (by kernel_rfl) (by kernel_rfl) (by kernel_rfl) (fun _ _ _ h => h) (Or.inl ⟨by rfl, ?_⟩) (by assumption) ?_
    rotate_left
    ·(intro w hSw; (try dsimp only at hSw); go_simp; try with_reducible rfl)
    try simp only [Act.put, List.setIfInBounds_toArray, List.set_cons_zero, List.set_cons_succ]
    refine wpAnyH_done (by kernel_rfl) ?_ _
    go_wp2_with fail
    go_ret2
    exact HSAY.out
set_option maxRecDepth 100000 in
theorem zseek (v : Value) (l : List JItem) (x : JItem) (xv : Value) (w : World) (h : ItemsIn w v l) (hl : l.length ≤ 1000000) (hr : Rise l) :
  Calls Tryz.prog 234 #[v, .agg (x.cells xv), .func (.func 233) #[] #[]] w (SeekSays l x w) := by
 have hb := fun W (q : Kept [] w W) => zbsearch v l x xv W (h.kept0 q) hl hr
 unfold SeekSays at hb ⊢
 obtain ⟨p, c, rfl⟩ := h.shape
 have HB := Lib.hid hb
 have oX := Own.new w (x.cells xv) 113
 have k0 : Kept [] w (w.alloc (.cells (x.cells xv) 113)) := (Kept.refl _ _).alloc _
 unfold JItem.cells at oX k0 HB ⊢
 obtain ⟨x0, x1, x2, x3⟩ := oX.c4
 have K0 := Lib.hid k0
 clear h hb oX k0 hr hl
 generalize posI l x = P at *
 go_enter Tryz.func234, Tryz.ntmps234
 go_wp2_with fail
 refine (HB.out _ K0.out).mono ?_; rintro e w2 ⟨q, rfl, hq, k2⟩
 have HQ := Lib.hid hq
 clear hq
 go_wp2_with fail
 go_ret2
 exact ⟨q, rfl, HQ.out, K0.out.trans k2⟩
set_option maxRecDepth 100000 in
theorem ztold (k : Int) (x : JItem) (xv : Value) (w : World) (hs : SlV xv) : Calls Tryz.prog 182 #[.int .i64 k, .agg (x.cells xv)] w fun e w' => e = .returned (.agg ((x.told k).cells xv)) ∧ Kept [] w w' := by
 obtain ⟨p, n, c, rfl⟩ := hs
 have oX := Own.new w (x.cells (.slice p n c)) 113
 unfold JItem.cells at oX
 obtain ⟨x0, x1, x2, x3⟩ := oX.c4
 clear oX
 unfold JItem.told JRec.cells JItem.cells
 go_enter Tryz.func182, Tryz.ntmps182
 go_wp2_with fail
 have o2 := Own.new (w.alloc (.cells #[.int .u32 x.id, .string (bs x.name), .int .i64 x.size, .slice p n c] 113)) #[.int .i64 k, .int .u32 x.id, .string (bs x.name), .int .i64 x.size, .slice p n c] 102
 simp only [World.size_alloc] at o2
 refine bodyPost_ret (v := .agg #[.int .i64 k, .int .u32 x.id, .string (bs x.name), .int .i64 x.size, .slice p n c]) (ret_row Tryz.results182 rfl (t := 102) ?_ Tryz.underlying102 rfl (by kernel_rfl)) rfl ⟨rfl, ?_⟩
 ·exact o2
 ·exact ((Kept.refl _ _).alloc _).alloc _
theorem bsI_forms (a b : List UInt8) {x : Bool} (h : (a == b) = x) : (bs a == bs b) = x ∧ ((bs a).toList == (bs b).toList) = x := by
 have h1 : (bs a == bs b) = x := by rw [bs_beq, h]
 exact ⟨h1, by rw [bs_toList, bs_toList, h]⟩
def RowSays (base : Nat) (v : Value) (n : Nat) (xs : List Value) (w : World) (e : Ending) (w' : World) : Prop :=
 ∃ v', e = .returned v' ∧ w'.ownsRow base 113 4 v' n xs ∧ ∀ S, (∀ g, v.ownBlock = some g → g ∈ S) → Kept S w w'
def itemZ : List Value := [.int .u32 0, .string { data := #[] }, .int .i64 0, .slice none 0 0]
theorem run_clear_item (w : World) (ty : TypeId) (b o c k : Nat) (hk : k = 1) (hc : ∀ j, j < 4 → (w.cell? ⟨b, o + j, none⟩).isSome = true) (hf : ∀ j, j < 4 → w.frozen? ⟨b, o + j, none⟩ = false) :
  (Builtin.clear_ #[50] ty #[.slice (some ⟨b, o, none⟩) k c]).run Tryz.prog w = .ok (.tuple #[]) (w.setCells b o itemZ) := by
 subst hk
 obtain ⟨i0, hi0, hz0, hz1, hz2⟩ := infoItem
 have hst := run_storeCells_cells (P := Tryz.prog) b o itemZ 0 w (by simpa [itemZ] using hc) (by simpa [itemZ] using hf) (by intro v hv; simp [itemZ] at hv; rcases hv with rfl | rfl | rfl | rfl <;> rfl)
 rw [Nat.add_zero] at hst
 have hzc : (Builtin.zeroCells (Value.agg #[.int .u32 0, .string { data := #[] }, .int .i64 0, .slice none 0 0]).cells 1).toList = itemZ := by
  simp [Builtin.zeroCells, Value.cells, itemZ, Array.range, List.range, List.range.loop]
 simp [Builtin.clear_, run_underlying Tryz.underlying50, zeroValue, typeInfo, hi0, hz0, hzc, hst]
theorem ownsRow_of {w : World} {base g cap n : Nat} {cur : List Value} (o : Own w g cur.toArray 113) (hb : base ≤ g) (hn : n ≤ cap) (hc : cap ≤ maxLen) (hl : cur.length = cap * 4) : w.ownsRow base 113 4 (.slice (some ⟨g, 0, none⟩) n cap) n (cur.take (n * 4)) := by
 refine ⟨?_, Or.inr ⟨g, cap, cur.toArray, rfl, hb, o, hn, hc, by simpa using hl, rfl⟩⟩
 rw [List.length_take, hl]
 have := Nat.mul_le_mul_right 4 hn
 omega
theorem Own.listC {w : World} {b : Nat} {cur : List Value} {t : TypeId} (h : Own w b cur.toArray t) (j : Nat) (hj : j < cur.length) : w.cell? ⟨b, j, none⟩ = some cur[j] := by
 rw [h.cell j (by simpa using hj)]; simp
set_option maxRecDepth 100000 in
set_option maxHeartbeats 4000000 in
theorem zdelete (base : Nat) (v : Value) (n : Nat) (xs : List Value) (i j : Nat) (w : World) (h : w.ownsRow base 113 4 v n xs) (h1 : ∀ u ∈ xs, u.oneCell' = true) (hi : i < n) (hj : j = i + 1) :
  Calls Tryz.prog 236 #[v, .int .i64 i, .int .i64 j] w (RowSays base v (n - 1) (xs.take (i * 4) ++ xs.drop (j * 4)) w) := by
 rcases h.2 with ⟨_, h0⟩ | ⟨g, cap, cur0, rfl, hb, hg, hnc, hcm, hcs, htake⟩
 ·omega
 ·obtain ⟨cur, rfl⟩ : ∃ cur : List Value, cur0 = cur.toArray := ⟨cur0.toList, by simp⟩
  have o : Own w g cur.toArray 113 := hg
  have hcl : cur.length = cap * 4 := by simpa using hcs
  have htk : cur.take (n * 4) = xs := by simpa using htake
  have hjn : j ≤ n := by omega
  have hxl := h.1
  obtain ⟨i0, hi0, hz0, hz1, hz2⟩ := infoItem
  have hlt : i < j := by omega
  have hcm2 : cap ≤ 9223372036854775807 := hcm
  obtain ⟨news, hnews⟩ : ∃ news, news = xs.drop (j * 4) := ⟨_, rfl⟩
  have hlen : news.length = (n - j) * 4 := by rw [hnews, List.length_drop, hxl]; omega
  have hcell : ∀ t, t < n * 4 → w.cell? ⟨g, t, none⟩ = xs[t]? := fun t ht => by
   have hc4 : t < cur.length := by rw [hcl]; have := Nat.mul_le_mul_right 4 hnc; omega
   rw [o.listC t hc4, ← htk, List.getElem?_take_of_lt ht, List.getElem?_eq_getElem hc4]
  obtain ⟨A, hA, hsrc⟩ : ∃ A : Addr, (if cap = j then some (⟨g, 0, none⟩ : Addr) else some ⟨g, j * 4, none⟩) = some A ∧ Hid (∀ t u, news[t]? = some u → w.drew.cell? (A.add t) = some u) := by
   by_cases hc : cap = j
   ·refine ⟨⟨g, 0, none⟩, by simp [hc], fun t u hu => ?_⟩
    have h0 : news.length = 0 := by rw [hlen]; omega
    rw [List.length_eq_zero_iff.1 h0] at hu
    simp at hu
   ·refine ⟨⟨g, j * 4, none⟩, by simp [hc], fun t u hu => ?_⟩
    have ht : t < (n - j) * 4 := by
     have := (List.getElem?_eq_some_iff.1 hu).1
     rwa [hlen] at this
    rw [hnews, List.getElem?_drop] at hu
    rw [Go.WideShapes.add_plain]
    show w.cell? _ = _
    rw [hcell (j * 4 + t) (by omega)]
    exact hu
  have s1 : Hid (news.length = (n - j) * 4) := hlen
  have s2 : Hid (∀ u ∈ news, u.oneCell' = true) := fun u hu => h1 u (List.mem_of_mem_drop (by rw [hnews] at hu; exact hu))
  have s3 : Hid (∀ t, t < news.length → (w.drew.cell? ⟨g, 0 + i * 4 + t, none⟩).isSome = true ∧ w.drew.frozen? ⟨g, 0 + i * 4 + t, none⟩ = false) := by
   intro t ht
   rw [hlen] at ht
   have hc4 : 0 + i * 4 + t < cur.length := by rw [hcl]; have := Nat.mul_le_mul_right 4 hnc; omega
   exact ⟨by show (w.cell? _).isSome = true; rw [o.listC _ hc4]; rfl, o.free _⟩
  obtain ⟨W1, hW1⟩ : ∃ W1, W1 = w.drew.setCells g (0 + i * 4) news := ⟨_, rfl⟩
  have hfit : i * 4 + news.length ≤ cur.length := by rw [hlen, hcl]; have := Nat.mul_le_mul_right 4 hnc; omega
  have hW1o : Own W1 g (splL cur (i * 4) news).toArray 113 := by rw [hW1, Nat.zero_add]; exact (Own.drew o).setL news (i * 4) hfit
  have hsl : (splL cur (i * 4) news).length = cap * 4 := by rw [splL_len hfit, hcl]
  have hcl2 : ∀ ty, (Builtin.clear_ #[50] ty #[.slice (some ⟨g, (i + (n - j)) * 4, none⟩) (n - (i + (n - j))) (cap - (i + (n - j)))]).run Tryz.prog W1 = .ok (.tuple #[]) (W1.setCells g ((i + (n - j)) * 4) itemZ) := fun ty =>
   run_clear_item W1 ty g _ _ _ (by omega) (fun t ht => by rw [hW1o.listC _ (by rw [hsl]; have := Nat.mul_le_mul_right 4 hnc; omega)]; rfl) (fun t ht => hW1o.free _)
  have hres : Hid ((splL (splL cur (i * 4) news) ((i + (n - j)) * 4) itemZ).take ((n - 1) * 4) = xs.take (i * 4) ++ xs.drop (j * 4)) := by
   show _ = _
   have e1 : (i + (n - j)) * 4 = (n - 1) * 4 := by omega
   have e2 : (n - 1) * 4 = i * 4 + news.length := by rw [hlen]; omega
   rw [e1, splL_low (by rw [hsl]; have := Nat.mul_le_mul_right 4 hnc; omega) (Nat.le_refl _), e2, splL_take hfit, hnews, ← htk, List.take_take]
   rw [Nat.min_eq_left (by omega)]
  have hfin : Hid (∀ W, Own W g (splL (splL cur (i * 4) news) ((i + (n - j)) * 4) itemZ).toArray 113 → W.ownsRow base 113 4 (.slice (some ⟨g, 0, none⟩) (i + (n - j)) cap) (n - 1) (xs.take (i * 4) ++ xs.drop (j * 4))) := by
   intro W oW
   have e1 : i + (n - j) = n - 1 := by omega
   have hfit2 : (i + (n - j)) * 4 + itemZ.length ≤ (splL cur (i * 4) news).length := by rw [hsl]; have := Nat.mul_le_mul_right 4 hnc; show _ + 4 ≤ _; omega
   have := ownsRow_of (base := base) (n := n - 1) (cap := cap) oW hb (by omega) hcm (by rw [splL_len hfit2, hsl])
   rw [hres.out] at this
   rw [e1]
   exact this
  have hKP : Hid (∀ S : List Nat, (∀ g', (Value.slice (some ⟨g, 0, none⟩) n cap).ownBlock = some g' → g' ∈ S) → Kept S w (W1.setCells g ((i + (n - j)) * 4) itemZ)) := by
   intro S hS
   have hgS := hS g (by simp [Value.ownBlock])
   rw [hW1]
   exact kept_setL (Or.inl hgS) _ _ (kept_setL (Or.inl hgS) _ _ (Kept.refl _ _).drew)
  have hO : Hid (Own (W1.setCells g ((i + (n - j)) * 4) itemZ) g (splL (splL cur (i * 4) news) ((i + (n - j)) * 4) itemZ).toArray 113) :=
   hW1o.setL itemZ _ (by rw [hsl]; have := Nat.mul_le_mul_right 4 hnc; show _ + 4 ≤ _; omega)
  have hW : Hid (W1 = w.drew.setCells g (0 + i * 4) news) := hW1
  have hic : i ≤ cap := by omega
  have hjc : j ≤ cap := by omega
  have hi0' : Tryz.prog.info? 113 = some i0 := hi0
  clear hW1 hW1o hcell hnews hlen o hg hcs hcl htake htk hfit hsl h h1 hxl hres hj
  go_enter Tryz.func236, Tryz.ntmps236
  go_wp2_with fail
  go_region_law (refine step_append_room rfl (.tmp 22) (.tmp 25) 50 rfl 113 i0 4 Tryz.underlying50 hi0' hz1 g 0 i cap (by simp [Act.eval, Act.put]) A (n - j) (cap - j) news (by simp [Act.eval, Act.put]) s1.out hsrc.out s2.out (by omega) s3.out ?_; rw [← hW.out])
  go_wp2
  go_ret
  exact ⟨_, rfl, hfin.out _ hO.out, hKP.out⟩
end Go.Proofs.YtdkimcnlhmhpgaaGreat
