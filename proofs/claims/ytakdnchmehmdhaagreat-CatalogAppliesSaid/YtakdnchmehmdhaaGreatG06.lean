/- Layer 21 (catalog): where an item stands, or should. -/
import Derived.Test.YtakdnchmehmdhaaGreatG05
namespace Go.Proofs.YtakdnchmehmdhaaGreat
open Go.RowKit
set_option linter.unusedVariables false
set_option linter.unusedSimpArgs false

/-- where an item stands, or should; does it stand there? -/
def SeekSays (l : List JItem) (x : JItem) (w : World) (e : Ending) (w' : World) : Prop := ∃ q, e = .returned (.tuple #[.int .i64 (posI l x), .bool q]) ∧ (q = true ↔ hasK l x) ∧ Kept [] w w'
theorem seekSays_end {l : List JItem} {x : JItem} (hr : Rise l) {k : Nat} (hk : posI l x = k) (h : l.length ≤ k) {w w' : World} (q : Kept [] w w') : SeekSays l x w (.returned (.tuple #[.int .i64 k, .bool false])) w' :=
  ⟨false, by rw [hk], ⟨fun h' => (by cases h'), fun h' => absurd h' (posI_end hr (by omega))⟩, q⟩
theorem seekSays_at {l : List JItem} {x : JItem} (hr : Rise l) {k : Nat} (hk : posI l x = k) (h : k < l.length) {b : Bool} (hb : b = eqK l[k] x) {w w' : World} (q : Kept [] w w') : SeekSays l x w (.returned (.tuple #[.int .i64 k, .bool b])) w' := by
  subst hk
  exact ⟨b, rfl, by rw [hb]; exact posI_has hr h, q⟩
set_option maxRecDepth 100000 in
set_option maxHeartbeats 2000000 in
theorem zbsearch (v : Value) (l : List JItem) (x : JItem) (xv : Value) (w : World) (h : ItemsIn w v l) (hl : l.length ≤ 1000000) (hr : Rise l) :
    Calls Tryz.prog 146 #[v, .agg (x.cells xv), .func (.func 84) #[] #[]] w (SeekSays l x w) := by
  obtain ⟨p, c, rfl⟩ := h.shape
  have H := Lib.hid h
  have HR := Lib.hid hr
  have hl' : (l.length : Int) ≤ 1000000 := by omega
  have ho := zorder
  have HO := Lib.hid ho
  have hple := posI_le l x
  have HP := Lib.hid hple
  have oX := Own.new w (x.cells xv) 58
  have k0 : Kept [] w (w.alloc (.cells (x.cells xv) 58)) := (Kept.refl _ _).alloc _
  unfold JItem.cells at oX k0 ⊢
  obtain ⟨x0, x1, x2, x3⟩ := oX.c4
  have OX := Lib.hid oX
  have K0 := Lib.hid k0
  clear h hr ho hple oX k0
  go_enter Tryz.func146, Tryz.ntmps146
  go_wp2_with fail
  go_loopw [9, 10] (fun i j wr => ∃ lo hi : Nat, i = .int .i64 lo ∧ j = .int .i64 hi ∧ lo ≤ posI l x ∧ posI l x ≤ hi ∧ hi ≤ l.length ∧ Kept [] w wr ∧ Own wr w.heap.size #[.int .u32 x.id, .string (bs x.name), .int .i64 x.size, xv] 58) (fun i j _ => (intOf j).toNat - (intOf i).toNat)
  case atStart => exact ⟨0, l.length, rfl, rfl, Nat.zero_le _, HP.out, Nat.le_refl _, K0.out, OX.out⟩
  case round =>
    obtain ⟨lo, hi, rfl, rfl, hlo, hhi, hle, hK, oX⟩ := hrel
    by_cases hlt : lo < hi
    · have i1 : (lo : Int) < hi := by omega
      obtain ⟨m, hm⟩ : ∃ m, (lo + hi) / 2 = m := ⟨_, rfl⟩
      have e1 : ((lo : Int) + hi) / 2 = (m : Int) := by omega
      have hm' : m < l.length := by omega
      have hmb : lo ≤ m ∧ m < hi := by omega
      have i2 : (m : Int) < l.length := by omega
      obtain ⟨b, off, kv, rfl, _, hb, hc1, hc2, HA⟩ := H.out.at4 m hm'
      have hcmp := HO.out (l[m]'hm') x kv xv
      obtain ⟨R, hR⟩ : ∃ R, ordI (l[m]'hm') x = R := ⟨_, rfl⟩
      have hRc : (R < 0 ∧ m < posI l x) ∨ (0 ≤ R ∧ posI l x ≤ m) := by
        rw [← hR]
        by_cases g : m < posI l x
        · exact Or.inl ⟨ordI_lt.2 ((lt_pos HR.out hm').2 g), g⟩
        · refine Or.inr ⟨?_, by omega⟩
          have := mt ordI_lt.1 (fun h => g ((lt_pos HR.out hm').1 h))
          omega
      rw [hR] at hcmp
      unfold JItem.cells at hcmp
      have HC := Lib.hid hcmp
      have HRC := Lib.hid hRc
      have HMB := Lib.hid (And.intro hmb hm')
      have HLH := Lib.hid (And.intro hlo (And.intro hhi hle))
      have HKK := Lib.hid hK
      have OX2 := Lib.hid oX
      have HAX : Hid (∀ W, Kept [] w W → Own W w.heap.size #[.int .u32 x.id, .string (bs x.name), .int .i64 x.size, xv] 58 → (W.cell? ⟨b, off + m * 4, none⟩ = some (.int .u32 (l[m]'hm').id) ∧ W.cell? ⟨b, off + m * 4 + 1, none⟩ = some (.string (bs (l[m]'hm').name)) ∧ W.cell? ⟨b, off + m * 4 + 2, none⟩ = some (.int .i64 (l[m]'hm').size) ∧ W.cell? ⟨b, off + m * 4 + 3, none⟩ = some kv) ∧ (W.cell? ⟨w.heap.size, 0, none⟩ = some (.int .u32 x.id) ∧ W.cell? ⟨w.heap.size, 1, none⟩ = some (.string (bs x.name)) ∧ W.cell? ⟨w.heap.size, 2, none⟩ = some (.int .i64 x.size) ∧ W.cell? ⟨w.heap.size, 3, none⟩ = some xv)) := Lib.hid (fun W q o => ⟨HA W q, o.c4⟩)
      clear HA hcmp hRc hR hmb hlo hhi hle hlt hm
      generalize hLA : l[m]'hm' = A at HC HAX
      clear hLA
      obtain ⟨P, hP⟩ : ∃ P, posI l x = P := ⟨_, rfl⟩
      rw [hP] at HRC HLH
      have HPP := Lib.hid hP
      clear hP
      go_wp2_with fail
      refine wp_region_held_drew (S := (fun W => (W.cell? ⟨b, off + m * 4, none⟩ = some (.int .u32 A.id) ∧ W.cell? ⟨b, off + m * 4 + 1, none⟩ = some (.string (bs A.name)) ∧ W.cell? ⟨b, off + m * 4 + 2, none⟩ = some (.int .i64 A.size) ∧ W.cell? ⟨b, off + m * 4 + 3, none⟩ = some kv) ∧ (W.cell? ⟨w.heap.size, 0, none⟩ = some (.int .u32 x.id) ∧ W.cell? ⟨w.heap.size, 1, none⟩ = some (.string (bs x.name)) ∧ W.cell? ⟨w.heap.size, 2, none⟩ = some (.int .i64 x.size) ∧ W.cell? ⟨w.heap.size, 3, none⟩ = some xv))) (by kernel_rfl) (by exact HAX.out _ HKK.out.drew OX2.out.drew) (fun hHeld => ?_)
      refine take_at (i := 0) (d := some 24) (v := ?_) rfl rfl (by kernel_rfl) (by kernel_rfl) (by kernel_rfl) (fun _ _ _ h => h) (Or.inl ⟨by rfl, ?_⟩) (by assumption) ?_
      rotate_left
      · (intro w hSw; (try dsimp only at hSw); go_simp; try with_reducible rfl)
      try simp only [Act.put, List.setIfInBounds_toArray, List.set_cons_zero, List.set_cons_succ]
      refine take_at (i := 1) (d := some 25) (v := ?_) rfl rfl (by kernel_rfl) (by kernel_rfl) (by kernel_rfl) (fun _ _ _ h => h) (Or.inl ⟨by rfl, ?_⟩) (by assumption) ?_
      rotate_left
      · (intro w hSw; (try dsimp only at hSw); go_simp; try with_reducible rfl)
      try simp only [Act.put, List.setIfInBounds_toArray, List.set_cons_zero, List.set_cons_succ]
      refine take_at (i := 2) (d := some 26) (v := ?_) rfl rfl (by kernel_rfl) (by kernel_rfl) (by kernel_rfl) (fun _ _ _ h => h) (Or.inl ⟨by rfl, ?_⟩) (by assumption) ?_
      rotate_left
      · (intro w hSw; (try dsimp only at hSw); go_simp; try with_reducible rfl)
      try simp only [Act.put, List.setIfInBounds_toArray, List.set_cons_zero, List.set_cons_succ]
      refine take_at (i := 3) (d := some 27) (v := ?_) rfl rfl (by kernel_rfl) (by kernel_rfl) (by kernel_rfl) (fun _ _ _ h => h) (Or.inl ⟨by rfl, ?_⟩) (by assumption) ?_
      rotate_left
      · (intro w hSw; (try dsimp only at hSw); go_simp; try with_reducible rfl)
      try simp only [Act.put, List.setIfInBounds_toArray, List.set_cons_zero, List.set_cons_succ]
      refine take_at (i := 4) (d := some 28) (v := ?_) rfl rfl (by kernel_rfl) (by kernel_rfl) (by kernel_rfl) (fun _ _ _ h => h) (Or.inl ⟨by rfl, ?_⟩) (by assumption) ?_
      rotate_left
      · (intro w hSw; (try dsimp only at hSw); go_simp; try with_reducible rfl)
      try simp only [Act.put, List.setIfInBounds_toArray, List.set_cons_zero, List.set_cons_succ]
      refine take_at (i := 5) (d := some 29) (v := ?_) rfl rfl (by kernel_rfl) (by kernel_rfl) (by kernel_rfl) (fun _ _ _ h => h) (Or.inl ⟨by rfl, ?_⟩) (by assumption) ?_
      rotate_left
      · (intro w hSw; (try dsimp only at hSw); go_simp; try with_reducible rfl)
      try simp only [Act.put, List.setIfInBounds_toArray, List.set_cons_zero, List.set_cons_succ]
      refine wpAnyH_ready (rs := [6]) (by kernel_rfl) (by simp) ?_
      refine (AllReadyH.cons rfl (fun K hK => ?_) AllReadyH.nil)
      go_simp
      ((with_reducible refine (HC.out _).mono ?_)); rintro e w2 ⟨rfl, k2⟩
      have KK := Lib.hid (HKK.out.drew.trans k2)
      have O2 := Lib.hid (k2.own OX2.out.drew (by simp))
      go_wp2_with fail
      refine hK.out _ _ ?_ (fun hHeld => ?_)
      · exact HAX.out _ KK.out O2.out
      clear hK K
      try simp only [Act.put, List.setIfInBounds_toArray, List.set_cons_zero, List.set_cons_succ]
      refine take_at (i := 7) (d := some 31) (v := ?_) rfl rfl (by kernel_rfl) (by kernel_rfl) (by kernel_rfl) (fun _ _ _ h => h) (Or.inl ⟨by rfl, ?_⟩) (by assumption) ?_
      rotate_left
      · (intro w hSw; (try dsimp only at hSw); go_simp; try with_reducible rfl)
      try simp only [Act.put, List.setIfInBounds_toArray, List.set_cons_zero, List.set_cons_succ]
      refine wpAnyH_done (by kernel_rfl) ?_ _
      rcases HRC.out with ⟨hneg, hp⟩ | ⟨hneg, hp⟩
      · have hn2 : decide (R < 0) = true := by simp; omega
        have HP2 := Lib.hid hp
        clear hp
        go_wp2_with fail
        go_roundw
        case rel => exact ⟨m + 1, hi, by rfl, rfl, by rw [HPP.out]; exact HP2.out, by rw [HPP.out]; exact HLH.out.2.1, HLH.out.2.2, KK.out, O2.out⟩
        case measure => (have := HMB.out; simp [intOf]; omega)
      · have hn2 : decide (R < 0) = false := by simp; omega
        have HP2 := Lib.hid hp
        clear hp
        go_wp2_with fail
        go_roundw
        case rel => exact ⟨lo, m, rfl, rfl, by rw [HPP.out]; exact HLH.out.1, by rw [HPP.out]; exact HP2.out, by have := HMB.out; omega, KK.out, O2.out⟩
        case measure => (have := HMB.out; simp [intOf]; omega)
    · obtain rfl : lo = hi := by omega
      have hpk : posI l x = lo := by omega
      have i1 : ¬ (lo : Int) < lo := by omega
      by_cases hlt2 : lo < l.length
      · have i2 : (lo : Int) < l.length := by omega
        obtain ⟨b, off, kv, rfl, _, hb, hc1, hc2, HA⟩ := H.out.at4 lo hlt2
        have hcmp := HO.out (l[lo]'hlt2) x kv xv
        obtain ⟨R, hR⟩ : ∃ R, ordI (l[lo]'hlt2) x = R := ⟨_, rfl⟩
        have hRc : (R == 0) = eqK (l[lo]'hlt2) x := by
          rw [← hR]
          cases g : eqK (l[lo]'hlt2) x
          · have := mt ordI_zero.1 (by rw [g]; decide : ¬ eqK (l[lo]'hlt2) x = true)
            simpa using this
          · simpa using ordI_zero.2 g
        have hsay := fun W (q : Kept [] w W) => seekSays_at HR.out hpk hlt2 hRc q
        have HSAY := Lib.hid hsay
        rw [hR] at hcmp
        unfold JItem.cells at hcmp
        have HC := Lib.hid hcmp
        have HKK := Lib.hid hK
        have OX2 := Lib.hid oX
        have HAX : Hid (∀ W, Kept [] w W → Own W w.heap.size #[.int .u32 x.id, .string (bs x.name), .int .i64 x.size, xv] 58 → (W.cell? ⟨b, off + lo * 4, none⟩ = some (.int .u32 (l[lo]'hlt2).id) ∧ W.cell? ⟨b, off + lo * 4 + 1, none⟩ = some (.string (bs (l[lo]'hlt2).name)) ∧ W.cell? ⟨b, off + lo * 4 + 2, none⟩ = some (.int .i64 (l[lo]'hlt2).size) ∧ W.cell? ⟨b, off + lo * 4 + 3, none⟩ = some kv) ∧ (W.cell? ⟨w.heap.size, 0, none⟩ = some (.int .u32 x.id) ∧ W.cell? ⟨w.heap.size, 1, none⟩ = some (.string (bs x.name)) ∧ W.cell? ⟨w.heap.size, 2, none⟩ = some (.int .i64 x.size) ∧ W.cell? ⟨w.heap.size, 3, none⟩ = some xv)) := Lib.hid (fun W q o => ⟨HA W q, o.c4⟩)
        clear HA hcmp hR hRc hsay hlo hhi hle hlt
        generalize hLA : l[lo]'hlt2 = A at HC HAX
        clear hLA
        go_wp2_with fail
        refine wp_region_held_drew (S := (fun W => (W.cell? ⟨b, off + lo * 4, none⟩ = some (.int .u32 A.id) ∧ W.cell? ⟨b, off + lo * 4 + 1, none⟩ = some (.string (bs A.name)) ∧ W.cell? ⟨b, off + lo * 4 + 2, none⟩ = some (.int .i64 A.size) ∧ W.cell? ⟨b, off + lo * 4 + 3, none⟩ = some kv) ∧ (W.cell? ⟨w.heap.size, 0, none⟩ = some (.int .u32 x.id) ∧ W.cell? ⟨w.heap.size, 1, none⟩ = some (.string (bs x.name)) ∧ W.cell? ⟨w.heap.size, 2, none⟩ = some (.int .i64 x.size) ∧ W.cell? ⟨w.heap.size, 3, none⟩ = some xv))) (by kernel_rfl) (by exact HAX.out _ HKK.out.drew OX2.out.drew) (fun hHeld => ?_)
        refine take_at (i := 0) (d := some 35) (v := ?_) rfl rfl (by kernel_rfl) (by kernel_rfl) (by kernel_rfl) (fun _ _ _ h => h) (Or.inl ⟨by rfl, ?_⟩) (by assumption) ?_
        rotate_left
        · (intro w hSw; (try dsimp only at hSw); go_simp; try with_reducible rfl)
        try simp only [Act.put, List.setIfInBounds_toArray, List.set_cons_zero, List.set_cons_succ]
        refine take_at (i := 1) (d := some 36) (v := ?_) rfl rfl (by kernel_rfl) (by kernel_rfl) (by kernel_rfl) (fun _ _ _ h => h) (Or.inl ⟨by rfl, ?_⟩) (by assumption) ?_
        rotate_left
        · (intro w hSw; (try dsimp only at hSw); go_simp; try with_reducible rfl)
        try simp only [Act.put, List.setIfInBounds_toArray, List.set_cons_zero, List.set_cons_succ]
        refine take_at (i := 2) (d := some 37) (v := ?_) rfl rfl (by kernel_rfl) (by kernel_rfl) (by kernel_rfl) (fun _ _ _ h => h) (Or.inl ⟨by rfl, ?_⟩) (by assumption) ?_
        rotate_left
        · (intro w hSw; (try dsimp only at hSw); go_simp; try with_reducible rfl)
        try simp only [Act.put, List.setIfInBounds_toArray, List.set_cons_zero, List.set_cons_succ]
        refine take_at (i := 3) (d := some 38) (v := ?_) rfl rfl (by kernel_rfl) (by kernel_rfl) (by kernel_rfl) (fun _ _ _ h => h) (Or.inl ⟨by rfl, ?_⟩) (by assumption) ?_
        rotate_left
        · (intro w hSw; (try dsimp only at hSw); go_simp; try with_reducible rfl)
        try simp only [Act.put, List.setIfInBounds_toArray, List.set_cons_zero, List.set_cons_succ]
        refine take_at (i := 4) (d := some 39) (v := ?_) rfl rfl (by kernel_rfl) (by kernel_rfl) (by kernel_rfl) (fun _ _ _ h => h) (Or.inl ⟨by rfl, ?_⟩) (by assumption) ?_
        rotate_left
        · (intro w hSw; (try dsimp only at hSw); go_simp; try with_reducible rfl)
        try simp only [Act.put, List.setIfInBounds_toArray, List.set_cons_zero, List.set_cons_succ]
        refine take_at (i := 5) (d := some 40) (v := ?_) rfl rfl (by kernel_rfl) (by kernel_rfl) (by kernel_rfl) (fun _ _ _ h => h) (Or.inl ⟨by rfl, ?_⟩) (by assumption) ?_
        rotate_left
        · (intro w hSw; (try dsimp only at hSw); go_simp; try with_reducible rfl)
        try simp only [Act.put, List.setIfInBounds_toArray, List.set_cons_zero, List.set_cons_succ]
        refine take_at (i := 6) (d := some 41) (v := ?_) rfl rfl (by kernel_rfl) (by kernel_rfl) (by kernel_rfl) (fun _ _ _ h => h) (Or.inl ⟨by rfl, ?_⟩) (by assumption) ?_
        rotate_left
        · (intro w hSw; (try dsimp only at hSw); go_simp; try with_reducible rfl)
        try simp only [Act.put, List.setIfInBounds_toArray, List.set_cons_zero, List.set_cons_succ]
        refine take_at (i := 7) (d := some 42) (v := ?_) rfl rfl (by kernel_rfl) (by kernel_rfl) (by kernel_rfl) (fun _ _ _ h => h) (Or.inl ⟨by rfl, ?_⟩) (by assumption) ?_
        rotate_left
        · (intro w hSw; (try dsimp only at hSw); go_simp; try with_reducible rfl)
        try simp only [Act.put, List.setIfInBounds_toArray, List.set_cons_zero, List.set_cons_succ]
        refine take_at (i := 8) (d := some 43) (v := ?_) rfl rfl (by kernel_rfl) (by kernel_rfl) (by kernel_rfl) (fun _ _ _ h => h) (Or.inl ⟨by rfl, ?_⟩) (by assumption) ?_
        rotate_left
        · (intro w hSw; (try dsimp only at hSw); go_simp; try with_reducible rfl)
        try simp only [Act.put, List.setIfInBounds_toArray, List.set_cons_zero, List.set_cons_succ]
        refine take_at (i := 9) (d := some 44) (v := ?_) rfl rfl (by kernel_rfl) (by kernel_rfl) (by kernel_rfl) (fun _ _ _ h => h) (Or.inl ⟨by rfl, ?_⟩) (by assumption) ?_
        rotate_left
        · (intro w hSw; (try dsimp only at hSw); go_simp; try with_reducible rfl)
        try simp only [Act.put, List.setIfInBounds_toArray, List.set_cons_zero, List.set_cons_succ]
        refine take_at (i := 10) (d := some 45) (v := ?_) rfl rfl (by kernel_rfl) (by kernel_rfl) (by kernel_rfl) (fun _ _ _ h => h) (Or.inl ⟨by rfl, ?_⟩) (by assumption) ?_
        rotate_left
        · (intro w hSw; (try dsimp only at hSw); go_simp; try with_reducible rfl)
        try simp only [Act.put, List.setIfInBounds_toArray, List.set_cons_zero, List.set_cons_succ]
        refine wpAnyH_ready (rs := [11]) (by kernel_rfl) (by simp) ?_
        refine (AllReadyH.cons rfl (fun K hK => ?_) AllReadyH.nil)
        go_simp
        ((with_reducible refine (HC.out _).mono ?_)); rintro e w2 ⟨rfl, k2⟩
        have KK := Lib.hid (HKK.out.drew.trans k2)
        have O2 := Lib.hid (k2.own OX2.out.drew (by simp))
        go_wp2_with fail
        refine hK.out _ _ ?_ (fun hHeld => ?_)
        · exact HAX.out _ KK.out O2.out
        clear hK K
        try simp only [Act.put, List.setIfInBounds_toArray, List.set_cons_zero, List.set_cons_succ]
        refine take_at (i := 12) (d := some 47) (v := ?_) rfl rfl (by kernel_rfl) (by kernel_rfl) (by kernel_rfl) (fun _ _ _ h => h) (Or.inl ⟨by rfl, ?_⟩) (by assumption) ?_
        rotate_left
        · (intro w hSw; (try dsimp only at hSw); go_simp; try with_reducible rfl)
        try simp only [Act.put, List.setIfInBounds_toArray, List.set_cons_zero, List.set_cons_succ]
        refine take_at (i := 13) (d := some 48) (v := ?_) rfl rfl (by kernel_rfl) (by kernel_rfl) (by kernel_rfl) (fun _ _ _ h => h) (Or.inl ⟨by rfl, ?_⟩) (by assumption) ?_
        rotate_left
        · (intro w hSw; (try dsimp only at hSw); go_simp; try with_reducible rfl)
        try simp only [Act.put, List.setIfInBounds_toArray, List.set_cons_zero, List.set_cons_succ]
        refine take_at (i := 14) (d := some 6) (v := ?_) rfl rfl (by kernel_rfl) (by kernel_rfl) (by kernel_rfl) (fun _ _ _ h => h) (Or.inl ⟨by rfl, ?_⟩) (by assumption) ?_
        rotate_left
        · (intro w hSw; (try dsimp only at hSw); go_simp; try with_reducible rfl)
        try simp only [Act.put, List.setIfInBounds_toArray, List.set_cons_zero, List.set_cons_succ]
        refine take_at (i := 15) (d := some 7) (v := ?_) rfl rfl (by kernel_rfl) (by kernel_rfl) (by kernel_rfl) (fun _ _ _ h => h) (Or.inl ⟨by rfl, ?_⟩) (by assumption) ?_
        rotate_left
        · (intro w hSw; (try dsimp only at hSw); go_simp; try with_reducible rfl)
        try simp only [Act.put, List.setIfInBounds_toArray, List.set_cons_zero, List.set_cons_succ]
        refine wpAnyH_done (by kernel_rfl) ?_ _
        go_wp2_with fail
        go_ret2
        exact HSAY.out _ KK.out
      · have i2 : ¬ (lo : Int) < l.length := by omega
        have HSAY := Lib.hid (seekSays_end HR.out hpk (by omega) hK.drew)
        clear hlo hhi hle hlt
        have HKK := Lib.hid hK
        have i3 : decide ((lo : Int) < l.length) = false := by simp; omega
        go_wp2_with fail
        refine wp_region_held_drew (S := (fun _ => True)) (by kernel_rfl) (by trivial) (fun hHeld => ?_)
        refine take_at (i := 0) (d := some 35) (v := ?_) rfl rfl (by kernel_rfl) (by kernel_rfl) (by kernel_rfl) (fun _ _ _ h => h) (Or.inl ⟨by rfl, ?_⟩) (by assumption) ?_
        rotate_left
        · (intro w hSw; (try dsimp only at hSw); go_simp; try with_reducible rfl)
        try simp only [Act.put, List.setIfInBounds_toArray, List.set_cons_zero, List.set_cons_succ]
        refine take_at (i := 1) (d := some 36) (v := ?_) rfl rfl (by kernel_rfl) (by kernel_rfl) (by kernel_rfl) (fun _ _ _ h => h) (Or.inl ⟨by rfl, ?_⟩) (by assumption) ?_
        rotate_left
        · (intro w hSw; (try dsimp only at hSw); go_simp; try with_reducible rfl)
        try simp only [Act.put, List.setIfInBounds_toArray, List.set_cons_zero, List.set_cons_succ]
        refine take_at (i := 2) (d := some 37) (v := ?_) rfl rfl (by kernel_rfl) (by kernel_rfl) (by kernel_rfl) (fun _ _ _ h => h) (Or.inl ⟨by rfl, ?_⟩) (by assumption) ?_
        rotate_left
        · (intro w hSw; (try dsimp only at hSw); go_simp; try with_reducible rfl)
        try simp only [Act.put, List.setIfInBounds_toArray, List.set_cons_zero, List.set_cons_succ]
        refine take_at (i := 3) (d := some 38) (v := ?_) rfl rfl (by kernel_rfl) (by kernel_rfl) (by kernel_rfl) (fun _ _ _ h => h) (Or.inl ⟨by rfl, ?_⟩) (by assumption) ?_
        rotate_left
        · (intro w hSw; (try dsimp only at hSw); go_simp; try with_reducible rfl)
        try simp only [Act.put, List.setIfInBounds_toArray, List.set_cons_zero, List.set_cons_succ]
        refine take_at (i := 4) (d := some 39) (v := ?_) rfl rfl (by kernel_rfl) (by kernel_rfl) (by kernel_rfl) (fun _ _ _ h => h) (Or.inl ⟨by rfl, ?_⟩) (by assumption) ?_
        rotate_left
        · (intro w hSw; (try dsimp only at hSw); go_simp; try with_reducible rfl)
        try simp only [Act.put, List.setIfInBounds_toArray, List.set_cons_zero, List.set_cons_succ]
        refine take_at (i := 5) (d := some 40) (v := undef) rfl rfl (by kernel_rfl) (by kernel_rfl) (by kernel_rfl) (fun _ _ _ h => h) (Or.inr ⟨by rfl, rfl⟩) (by assumption) ?_
        try simp only [Act.put, List.setIfInBounds_toArray, List.set_cons_zero, List.set_cons_succ]
        refine take_at (i := 6) (d := some 41) (v := undef) rfl rfl (by kernel_rfl) (by kernel_rfl) (by kernel_rfl) (fun _ _ _ h => h) (Or.inr ⟨by rfl, rfl⟩) (by assumption) ?_
        try simp only [Act.put, List.setIfInBounds_toArray, List.set_cons_zero, List.set_cons_succ]
        refine take_at (i := 7) (d := some 42) (v := undef) rfl rfl (by kernel_rfl) (by kernel_rfl) (by kernel_rfl) (fun _ _ _ h => h) (Or.inr ⟨by rfl, rfl⟩) (by assumption) ?_
        try simp only [Act.put, List.setIfInBounds_toArray, List.set_cons_zero, List.set_cons_succ]
        refine take_at (i := 8) (d := some 43) (v := undef) rfl rfl (by kernel_rfl) (by kernel_rfl) (by kernel_rfl) (fun _ _ _ h => h) (Or.inr ⟨by rfl, rfl⟩) (by assumption) ?_
        try simp only [Act.put, List.setIfInBounds_toArray, List.set_cons_zero, List.set_cons_succ]
        refine take_at (i := 9) (d := some 44) (v := undef) rfl rfl (by kernel_rfl) (by kernel_rfl) (by kernel_rfl) (fun _ _ _ h => h) (Or.inr ⟨by rfl, rfl⟩) (by assumption) ?_
        try simp only [Act.put, List.setIfInBounds_toArray, List.set_cons_zero, List.set_cons_succ]
        refine take_at (i := 10) (d := some 45) (v := undef) rfl rfl (by kernel_rfl) (by kernel_rfl) (by kernel_rfl) (fun _ _ _ h => h) (Or.inr ⟨by rfl, rfl⟩) (by assumption) ?_
        try simp only [Act.put, List.setIfInBounds_toArray, List.set_cons_zero, List.set_cons_succ]
        refine take_at (i := 11) (d := some 46) (v := undef) rfl rfl (by kernel_rfl) (by kernel_rfl) (by kernel_rfl) (fun _ _ _ h => h) (Or.inr ⟨by rfl, rfl⟩) (by assumption) ?_
        try simp only [Act.put, List.setIfInBounds_toArray, List.set_cons_zero, List.set_cons_succ]
        refine take_at (i := 12) (d := some 47) (v := undef) rfl rfl (by kernel_rfl) (by kernel_rfl) (by kernel_rfl) (fun _ _ _ h => h) (Or.inr ⟨by rfl, rfl⟩) (by assumption) ?_
        try simp only [Act.put, List.setIfInBounds_toArray, List.set_cons_zero, List.set_cons_succ]
        refine take_at (i := 13) (d := some 48) (v := ?_) rfl rfl (by kernel_rfl) (by kernel_rfl) (by kernel_rfl) (fun _ _ _ h => h) (Or.inl ⟨by rfl, ?_⟩) (by assumption) ?_
        rotate_left
        · (intro w hSw; (try dsimp only at hSw); go_simp; try with_reducible rfl)
        try simp only [Act.put, List.setIfInBounds_toArray, List.set_cons_zero, List.set_cons_succ]
        refine take_at (i := 14) (d := some 6) (v := ?_) rfl rfl (by kernel_rfl) (by kernel_rfl) (by kernel_rfl) (fun _ _ _ h => h) (Or.inl ⟨by rfl, ?_⟩) (by assumption) ?_
        rotate_left
        · (intro w hSw; (try dsimp only at hSw); go_simp; try with_reducible rfl)
        try simp only [Act.put, List.setIfInBounds_toArray, List.set_cons_zero, List.set_cons_succ]
        refine take_at (i := 15) (d := some 7) (v := ?_) rfl rfl (by kernel_rfl) (by kernel_rfl) (by kernel_rfl) (fun _ _ _ h => h) (Or.inl ⟨by rfl, ?_⟩) (by assumption) ?_
        rotate_left
        · (intro w hSw; (try dsimp only at hSw); go_simp; try with_reducible rfl)
        try simp only [Act.put, List.setIfInBounds_toArray, List.set_cons_zero, List.set_cons_succ]
        refine wpAnyH_done (by kernel_rfl) ?_ _
        go_wp2_with fail
        go_ret2
        exact HSAY.out
set_option maxRecDepth 100000 in
theorem zseek (v : Value) (l : List JItem) (x : JItem) (xv : Value) (w : World) (h : ItemsIn w v l) (hl : l.length ≤ 1000000) (hr : Rise l) :
    Calls Tryz.prog 123 #[v, .agg (x.cells xv), .func (.func 84) #[] #[]] w (SeekSays l x w) := by
  have hb := fun W (q : Kept [] w W) => zbsearch v l x xv W (h.kept0 q) hl hr
  unfold SeekSays at hb ⊢
  obtain ⟨p, c, rfl⟩ := h.shape
  have HB := Lib.hid hb
  have oX := Own.new w (x.cells xv) 58
  have k0 : Kept [] w (w.alloc (.cells (x.cells xv) 58)) := (Kept.refl _ _).alloc _
  unfold JItem.cells at oX k0 HB ⊢
  obtain ⟨x0, x1, x2, x3⟩ := oX.c4
  have K0 := Lib.hid k0
  clear h hb oX k0 hr hl
  generalize posI l x = P at *
  go_enter Tryz.func123, Tryz.ntmps123
  go_wp2_with fail
  refine (HB.out _ K0.out).mono ?_; rintro e w2 ⟨q, rfl, hq, k2⟩
  have HQ := Lib.hid hq
  clear hq
  go_wp2_with fail
  go_ret2
  exact ⟨q, rfl, HQ.out, K0.out.trans k2⟩
set_option maxRecDepth 100000 in
theorem ztold (k : Int) (x : JItem) (xv : Value) (w : World) (hs : SlV xv) : Calls Tryz.prog 73 #[.int .i64 k, .agg (x.cells xv)] w fun e w' => e = .returned (.agg ((x.told k).cells xv)) ∧ Kept [] w w' := by
  obtain ⟨p, n, c, rfl⟩ := hs
  have oX := Own.new w (x.cells (.slice p n c)) 58
  unfold JItem.cells at oX
  obtain ⟨x0, x1, x2, x3⟩ := oX.c4
  clear oX
  unfold JItem.told JRec.cells JItem.cells
  go_enter Tryz.func73, Tryz.ntmps73
  go_wp2_with fail
  have o2 := Own.new (w.alloc (.cells #[.int .u32 x.id, .string (bs x.name), .int .i64 x.size, .slice p n c] 58)) #[.int .i64 k, .int .u32 x.id, .string (bs x.name), .int .i64 x.size, .slice p n c] 55
  simp only [World.size_alloc] at o2
  refine bodyPost_ret (v := .agg #[.int .i64 k, .int .u32 x.id, .string (bs x.name), .int .i64 x.size, .slice p n c]) (ret_row Tryz.results73 rfl (t := 55) ?_ Tryz.underlying55 rfl (by kernel_rfl)) rfl ⟨rfl, ?_⟩
  · exact o2
  · exact ((Kept.refl _ _).alloc _).alloc _
def JItem.same (a b : JItem) : Bool := a.id == b.id && (a.name == b.name && (a.size == b.size && a.runs == b.runs))
theorem JItem.same_iff {a b : JItem} : a.same b = true ↔ a = b := by
  obtain ⟨a1, a2, a3, a4⟩ := a
  obtain ⟨b1, b2, b3, b4⟩ := b
  unfold JItem.same
  simp
theorem JItem.four (a b : JItem) : ((a.id == b.id) = false ∧ a.same b = false) ∨ ((a.id == b.id) = true ∧ (a.name == b.name) = false ∧ a.same b = false) ∨ ((a.id == b.id) = true ∧ (a.name == b.name) = true ∧ (a.size == b.size) = false ∧ a.same b = false) ∨ ((a.id == b.id) = true ∧ (a.name == b.name) = true ∧ (a.size == b.size) = true ∧ a.same b = (a.runs == b.runs)) := by
  unfold JItem.same
  cases a.id == b.id <;> cases a.name == b.name <;> cases a.size == b.size <;> simp
theorem bsI_forms (a b : List UInt8) {x : Bool} (h : (a == b) = x) : (bs a == bs b) = x ∧ ((bs a).toList == (bs b).toList) = x := by
  have h1 : (bs a == bs b) = x := by rw [bs_beq, h]
  exact ⟨h1, by rw [bs_toList, bs_toList, h]⟩
set_option maxRecDepth 100000 in
set_option maxHeartbeats 4000000 in
theorem zsameItem (a b : JItem) (va vb : Value) (w : World) (h : ItemOk w (a, va)) (h' : ItemOk w (b, vb)) (hl : a.runs.length ≤ 1000000) (hm : b.runs.length ≤ 1000000) :
    Calls Tryz.prog 47 #[.agg (a.cells va), .agg (b.cells vb)] w fun e w' => e = .returned (.bool (a.same b)) ∧ Kept [] w w' := by
  have hc := JItem.four a b
  have hq := fun w' (hk : Kept [] w w') => pequal va vb a.runs b.runs _ _ _ _ w' (h.1.kept0 hk) (h'.1.kept0 hk) hl hm
  have HQ := Lib.hid hq
  obtain ⟨pa, ca, e1⟩ := h.1.shape
  obtain ⟨pb, cb, e2⟩ := h'.1.shape
  simp only at e1 e2
  subst e1 e2
  obtain ⟨aid, an, asz, ar⟩ := a
  obtain ⟨bid, bn, bsz, br⟩ := b
  simp only at hc HQ hl hm
  unfold JItem.cells
  simp only
  generalize JItem.same ⟨aid, an, asz, ar⟩ ⟨bid, bn, bsz, br⟩ = SM at *
  have k0 := ((Kept.refl [] w).alloc (.cells #[.int .u32 aid, .string (bs an), .int .i64 asz, .slice pa ar.length ca] 58)).alloc (.cells #[.int .u32 bid, .string (bs bn), .int .i64 bsz, .slice pb br.length cb] 58)
  obtain ⟨oA, oB⟩ := own_two w #[.int .u32 aid, .string (bs an), .int .i64 asz, .slice pa ar.length ca] #[.int .u32 bid, .string (bs bn), .int .i64 bsz, .slice pb br.length cb] 58 58
  obtain ⟨a0, a1, a2, a3⟩ := oA.c4
  obtain ⟨b0, b1, b2, b3⟩ := oB.c4
  have K0 := Lib.hid k0
  have hq0 := HQ.out _ k0
  have HQ0 := Lib.hid hq0
  clear h h' hq oA oB k0 hq0 HQ
  rcases hc with ⟨h1, rfl⟩ | ⟨h1, h2, rfl⟩ | ⟨h1, h2, h3, rfl⟩ | ⟨h1, h2, h3, rfl⟩
  · skip
    go_enter Tryz.func47, Tryz.ntmps47
    go_wp2_with fail
    go_ret
    exact ⟨rfl, K0.out⟩
  · obtain ⟨g1, g2⟩ := bsI_forms an bn h2
    go_enter Tryz.func47, Tryz.ntmps47
    go_wp2_with fail
    go_ret
    exact ⟨rfl, K0.out⟩
  · obtain ⟨g1, g2⟩ := bsI_forms an bn h2
    go_enter Tryz.func47, Tryz.ntmps47
    go_wp2_with fail
    go_ret
    exact ⟨rfl, K0.out⟩
  · obtain ⟨g1, g2⟩ := bsI_forms an bn h2
    go_enter Tryz.func47, Tryz.ntmps47
    go_wp2_with fail
    refine HQ0.out.mono ?_; rintro e w2 ⟨rfl, k2⟩
    have KK := Lib.hid (K0.out.trans k2)
    go_wp2_with fail
    go_ret
    exact ⟨rfl, KK.out⟩
end Go.Proofs.YtakdnchmehmdhaaGreat
