/- -/
import Derived.Test.YtdkimcnlhmhpgaaGreatH16
import Derived.Test.YtdkimcnlhmhpgaaGreatH17
set_option linter.unusedVariables false
set_option linter.unusedSimpArgs false
namespace Go.Proofs.YtdkimcnlhmhpgaaGreat
open Go.RowKit
def ItemOk (w : World) (x : JItem × Value) : Prop := RunsIn w x.2 x.1.runs 0 w.heap.size ∧ x.1.fits ∧ ∀ r ∈ x.1.runs, WfRun r
theorem RunsIn.upto {w : World} {v : Value} {l : List (Int × Int)} {lo hi : Nat} (h : RunsIn w v l lo hi) : RunsIn w v l 0 w.heap.size := by
 rcases h with h | ⟨b, off, c, h1, h2, h3, h4, h5, h6⟩
 ·exact Or.inl h
 ·exact Or.inr ⟨b, off, c, h1, h2, Nat.zero_le _, Nat.lt_of_lt_of_le h4 h5, Nat.le_refl _, h6⟩
theorem ItemOk.kept0 {w w' : World} {x : JItem × Value} (h : ItemOk w x) (k : Kept [] w w') : ItemOk w' x := ⟨(h.1.kept0 k).upto, h.2⟩
theorem ItemOk.slv {w : World} {x : JItem × Value} (h : ItemOk w x) : SlV x.2 := by
 obtain ⟨p, c, e⟩ := h.1.shape
 exact ⟨p, _, c, e⟩
def ItemsIn (w : World) (v : Value) (l : List JItem) : Prop := ∃ vs : List (JItem × Value), vs.map (·.1) = l ∧ RawIn w v vs.length 4 (icells vs) ∧ ∀ x ∈ vs, ItemOk w x
theorem ItemsIn.kept0 {w w' : World} {v : Value} {l : List JItem} (h : ItemsIn w v l) (k : Kept [] w w') : ItemsIn w' v l := by
 obtain ⟨vs, h1, h2, h3⟩ := h
 exact ⟨vs, h1, h2.kept0 k, fun x hx => (h3 x hx).kept0 k⟩
theorem ItemsIn.shape {w : World} {v : Value} {l : List JItem} (h : ItemsIn w v l) : ∃ p c, v = .slice p l.length c := by
 obtain ⟨vs, rfl, h2, h3⟩ := h
 rw [List.length_map]
 exact h2.shape
theorem ItemsIn.at4 {w : World} {p : Option Addr} {n c : Nat} {l : List JItem} (h : ItemsIn w (.slice p n c) l) (i : Nat) (hi : i < l.length) :
  ∃ b off kv, p = some ⟨b, off, none⟩ ∧ ItemOk w (l[i], kv) ∧ b < w.heap.size ∧ l.length ≤ c ∧ c ≤ maxLen ∧ ∀ W, Kept [] w W → W.cell? ⟨b, off + i * 4, none⟩ = some (.int .u32 l[i].id) ∧ W.cell? ⟨b, off + i * 4 + 1, none⟩ = some (.string (bs l[i].name)) ∧ W.cell? ⟨b, off + i * 4 + 2, none⟩ = some (.int .i64 l[i].size) ∧ W.cell? ⟨b, off + i * 4 + 3, none⟩ = some kv := by
 obtain ⟨vs, rfl, h2, h3⟩ := h
 have hi' : i < vs.length := by simpa using hi
 obtain ⟨p', c', e⟩ := h2.shape
 injection e with e1 e2 e3
 subst e1 e2 e3
 obtain ⟨b, off, e, hc, hb, h6, h7⟩ := h2.at_ (by omega)
 subst e
 obtain ⟨g0, g1, g2, g3⟩ := icells_get vs i hi'
 refine ⟨b, off, vs[i].2, rfl, ?_, hb, by rw [List.length_map]; exact h6, h7, fun W k => ?_⟩
 ·rw [List.getElem_map]; exact h3 _ (List.getElem_mem hi')
 ·rw [List.getElem_map]
  have hk : ∀ j u, (icells vs)[j]? = some u → W.cell? ⟨b, off + j, none⟩ = some u := fun j u hj => (k.cell (by exact hb) (by simp)).trans (hc j u hj)
  exact ⟨hk _ _ g0, hk _ _ g1, hk _ _ g2, hk _ _ g3⟩
theorem lt_pos {l : List JItem} {x : JItem} (h : Rise l) {m : Nat} (hm : m < l.length) : ltI l[m] x = true ↔ m < posI l x := by
 constructor
 ·intro hl
  by_cases g : m < posI l x
  ·exact g
  ·rw [h.ge hm (by omega)] at hl; cases hl
 ·intro g; exact posI_lt g
def RiseSays (l : List JItem) (w : World) (e : Ending) (w' : World) : Prop := ∃ q, e = .returned (.bool q) ∧ (q = true ↔ Rise l) ∧ Kept [] w w'
theorem riseSays_no {l : List JItem} {k : Nat} (hk : k + 1 < l.length) {w w' : World} (h : ltI l[k] l[k + 1] = false) (q : Kept [] w w') : RiseSays l w (.returned (.bool false)) w' :=
 ⟨false, rfl, ⟨fun h' => (by cases h'), fun hr => (by rw [hr.at_ hk (Nat.lt_succ_self k)] at h; cases h)⟩, q⟩
theorem riseSays_yes {l : List JItem} {w w' : World} (h : ∀ k (hk : k + 1 < l.length), ltI l[k] l[k + 1] = true) (q : Kept [] w w') : RiseSays l w (.returned (.bool true)) w' :=
 ⟨true, rfl, ⟨fun _ => rise_step h, fun _ => rfl⟩, q⟩
set_option maxRecDepth 100000 in
set_option maxHeartbeats 2000000 in
theorem zrise (v : Value) (l : List JItem) (w : World) (h : ItemsIn w v l) (hl : l.length ≤ 1000000) :
  Calls Tryz.prog 232 #[v, .func (.func 233) #[] #[]] w (RiseSays l w) := by
 obtain ⟨p, c, rfl⟩ := h.shape
 have H := Lib.hid h
 have hl' : (l.length : Int) ≤ 1000000 := by omega
 have ho := zorder
 have HO := Lib.hid ho
 clear h ho
 go_enter Tryz.func232, Tryz.ntmps232
 go_wp2_with fail
 go_loopw [5] (fun i wr => ∃ k : Nat, 1 ≤ k ∧ i = .int .i64 k ∧ (∀ j (hj : j + 1 < l.length), j + 1 < k → ltI l[j] l[j + 1] = true) ∧ Kept [] w wr ∧ k ≤ 1000001) (fun i _ => l.length + 1 - (intOf i).toNat)
 case atStart => exact ⟨1, Nat.le_refl _, rfl, fun j hj h => (by omega), Kept.refl _ _, by omega⟩
 case round =>
  obtain ⟨k, hk1, rfl, hd, hK, hkm⟩ := hrel
  by_cases hlt : k < l.length
  ·have hst : k < l.length := hlt
   obtain ⟨m, hm⟩ : ∃ m, k = m + 1 := ⟨k - 1, by omega⟩
   have e1 : (k : Int) - 1 = (m : Int) := by omega
   have hm' : m < l.length := by omega
   have w1 : IntKind.i64.wrap (m : Int) = (m : Int) := by rw [IntKind.wrap_i64]; omega
   obtain ⟨b, off, kva, rfl, _, hb, hc1, hc2, HA⟩ := H.out.at4 m hm'
   obtain ⟨b', off', kvb, e, _, _, _, _, HB⟩ := H.out.at4 k hst
   injection e with e
   injection e with e2 e3 _
   subst e2 e3
   have hcmp := HO.out (l[m]'hm') (l[k]'hst) kva kvb
   obtain ⟨R, hR⟩ : ∃ R, ordI (l[m]'hm') (l[k]'hst) = R := ⟨_, rfl⟩
   have hRc : (R < 0 ∧ ltI (l[m]'hm') (l[k]'hst) = true) ∨ (0 ≤ R ∧ ltI (l[m]'hm') (l[k]'hst) = false) := by
    rw [← hR]
    cases g : ltI (l[m]'hm') (l[k]'hst)
    ·exact Or.inr ⟨by have := mt ordI_lt.1 (by rw [g]; decide : ¬ ltI (l[m]'hm') (l[k]'hst) = true); omega, rfl⟩
    ·exact Or.inl ⟨ordI_lt.2 g, rfl⟩
   rw [hR] at hcmp
   have i1 : (m : Int) < l.length := by omega
   have i2 : (k : Int) < l.length := by omega
   have i3 : (0 : Int) ≤ m := by omega
   have HC := Lib.hid hcmp
   have HRC := Lib.hid hRc
   have HD := Lib.hid hd
   have HM := Lib.hid hm
   have HLT := Lib.hid hlt
   have HKK := Lib.hid hK
   have HAB : Hid (∀ W, Kept [] w W → (W.cell? ⟨b, off + m * 4, none⟩ = some (.int .u32 (l[m]'hm').id) ∧ W.cell? ⟨b, off + m * 4 + 1, none⟩ = some (.string (bs (l[m]'hm').name)) ∧ W.cell? ⟨b, off + m * 4 + 2, none⟩ = some (.int .i64 (l[m]'hm').size) ∧ W.cell? ⟨b, off + m * 4 + 3, none⟩ = some kva) ∧ (W.cell? ⟨b, off + k * 4, none⟩ = some (.int .u32 (l[k]'hst).id) ∧ W.cell? ⟨b, off + k * 4 + 1, none⟩ = some (.string (bs (l[k]'hst).name)) ∧ W.cell? ⟨b, off + k * 4 + 2, none⟩ = some (.int .i64 (l[k]'hst).size) ∧ W.cell? ⟨b, off + k * 4 + 3, none⟩ = some kvb)) := Lib.hid (fun W q => ⟨HA W q, HB W q⟩)
   unfold JItem.cells at HC
   clear HA HB hcmp hRc hd hR
   generalize hLA : l[m]'hm' = A at HC HAB HRC
   generalize hLB : l[k]'hst = B at HC HAB HRC
   have HLA := Lib.hid hLA
   have HLB := Lib.hid hLB
   clear hLA hLB hlt hm
   go_wp2_with fail
   refine wp_region_held_drew (S := (fun W => (W.cell? ⟨b, off + m * 4, none⟩ = some (.int .u32 A.id) ∧ W.cell? ⟨b, off + m * 4 + 1, none⟩ = some (.string (bs A.name)) ∧ W.cell? ⟨b, off + m * 4 + 2, none⟩ = some (.int .i64 A.size) ∧ W.cell? ⟨b, off + m * 4 + 3, none⟩ = some kva) ∧ (W.cell? ⟨b, off + k * 4, none⟩ = some (.int .u32 B.id) ∧ W.cell? ⟨b, off + k * 4 + 1, none⟩ = some (.string (bs B.name)) ∧ W.cell? ⟨b, off + k * 4 + 2, none⟩ = some (.int .i64 B.size) ∧ W.cell? ⟨b, off + k * 4 + 3, none⟩ = some kvb))) (by kernel_rfl) (by exact HAB.out _ HKK.out.drew) (fun hHeld => ?_)
   refine take_at (i := 0) (d := some 12) (v := ?_) rfl rfl (by kernel_rfl) (by kernel_rfl) (by kernel_rfl) (fun _ _ _ h => h) (Or.inl ⟨by rfl, ?_⟩) (by assumption) ?_
   rotate_left
   ·(intro w hSw; (try dsimp only at hSw); go_simp; try with_reducible rfl)
   try simp only [Act.put, List.setIfInBounds_toArray, List.set_cons_zero, List.set_cons_succ]
   refine take_at (i := 1) (d := some 13) (v := ?_) rfl rfl (by kernel_rfl) (by kernel_rfl) (by kernel_rfl) (fun _ _ _ h => h) (Or.inl ⟨by rfl, ?_⟩) (by assumption) ?_
   rotate_left
   ·(intro w hSw; (try dsimp only at hSw); go_simp; try with_reducible rfl)
   try simp only [Act.put, List.setIfInBounds_toArray, List.set_cons_zero, List.set_cons_succ]
   refine take_at (i := 2) (d := some 14) (v := ?_) rfl rfl (by kernel_rfl) (by kernel_rfl) (by kernel_rfl) (fun _ _ _ h => h) (Or.inl ⟨by rfl, ?_⟩) (by assumption) ?_
   rotate_left
   ·(intro w hSw; (try dsimp only at hSw); go_simp; try with_reducible rfl)
   try simp only [Act.put, List.setIfInBounds_toArray, List.set_cons_zero, List.set_cons_succ]
   refine take_at (i := 3) (d := some 15) (v := ?_) rfl rfl (by kernel_rfl) (by kernel_rfl) (by kernel_rfl) (fun _ _ _ h => h) (Or.inl ⟨by rfl, ?_⟩) (by assumption) ?_
   rotate_left
   ·(intro w hSw; (try dsimp only at hSw); go_simp; try with_reducible rfl)
   try simp only [Act.put, List.setIfInBounds_toArray, List.set_cons_zero, List.set_cons_succ]
   refine take_at (i := 4) (d := some 16) (v := ?_) rfl rfl (by kernel_rfl) (by kernel_rfl) (by kernel_rfl) (fun _ _ _ h => h) (Or.inl ⟨by rfl, ?_⟩) (by assumption) ?_
   rotate_left
   ·(intro w hSw; (try dsimp only at hSw); go_simp; try with_reducible rfl)
   try simp only [Act.put, List.setIfInBounds_toArray, List.set_cons_zero, List.set_cons_succ]
   refine take_at (i := 5) (d := some 17) (v := ?_) rfl rfl (by kernel_rfl) (by kernel_rfl) (by kernel_rfl) (fun _ _ _ h => h) (Or.inl ⟨by rfl, ?_⟩) (by assumption) ?_
   rotate_left
   ·(intro w hSw; (try dsimp only at hSw); go_simp; try with_reducible rfl)
   try simp only [Act.put, List.setIfInBounds_toArray, List.set_cons_zero, List.set_cons_succ]
   refine take_at (i := 6) (d := some 18) (v := ?_) rfl rfl (by kernel_rfl) (by kernel_rfl) (by kernel_rfl) (fun _ _ _ h => h) (Or.inl ⟨by rfl, ?_⟩) (by assumption) ?_
   rotate_left
   ·(intro w hSw; (try dsimp only at hSw); go_simp; try with_reducible rfl)
   try simp only [Act.put, List.setIfInBounds_toArray, List.set_cons_zero, List.set_cons_succ]
   refine take_at (i := 7) (d := some 19) (v := ?_) rfl rfl (by kernel_rfl) (by kernel_rfl) (by kernel_rfl) (fun _ _ _ h => h) (Or.inl ⟨by rfl, ?_⟩) (by assumption) ?_
   rotate_left
   ·(intro w hSw; (try dsimp only at hSw); go_simp; try with_reducible rfl)
   try simp only [Act.put, List.setIfInBounds_toArray, List.set_cons_zero, List.set_cons_succ]
   refine take_at (i := 8) (d := some 20) (v := ?_) rfl rfl (by kernel_rfl) (by kernel_rfl) (by kernel_rfl) (fun _ _ _ h => h) (Or.inl ⟨by rfl, ?_⟩) (by assumption) ?_
   rotate_left
   ·(intro w hSw; (try dsimp only at hSw); go_simp; try with_reducible rfl)
   try simp only [Act.put, List.setIfInBounds_toArray, List.set_cons_zero, List.set_cons_succ]
   refine take_at (i := 9) (d := some 21) (v := ?_) rfl rfl (by kernel_rfl) (by kernel_rfl) (by kernel_rfl) (fun _ _ _ h => h) (Or.inl ⟨by rfl, ?_⟩) (by assumption) ?_
   rotate_left
   ·(intro w hSw; (try dsimp only at hSw); go_simp; try with_reducible rfl)
   try simp only [Act.put, List.setIfInBounds_toArray, List.set_cons_zero, List.set_cons_succ]
   refine wpAnyH_ready (rs := [10]) (by kernel_rfl) (by simp) ?_
   refine (AllReadyH.cons rfl (fun K hK => ?_) AllReadyH.nil)
   go_simp
   ((with_reducible refine (HC.out _).mono ?_)); rintro e w2 ⟨rfl, k2⟩
   have KK := Lib.hid (HKK.out.drew.trans k2)
   go_wp2_with fail
   refine hK.out _ _ ?_ (fun hHeld => ?_)
   ·exact HAB.out _ KK.out
   clear hK K
   try simp only [Act.put, List.setIfInBounds_toArray, List.set_cons_zero, List.set_cons_succ]
   refine take_at (i := 11) (d := some 23) (v := ?_) rfl rfl (by kernel_rfl) (by kernel_rfl) (by kernel_rfl) (fun _ _ _ h => h) (Or.inl ⟨by rfl, ?_⟩) (by assumption) ?_
   rotate_left
   ·(intro w hSw; (try dsimp only at hSw); go_simp; try with_reducible rfl)
   try simp only [Act.put, List.setIfInBounds_toArray, List.set_cons_zero, List.set_cons_succ]
   refine wpAnyH_done (by kernel_rfl) ?_ _
   rcases HRC.out with ⟨hneg, hlt2⟩ | ⟨hneg, hlt2⟩
   ·have hn2 : decide (0 ≤ R) = false := by simp; omega
    go_wp2_with fail
    go_roundw
    case rel => exact ⟨k + 1, by omega, by rfl, fun j hj hjk => by
     by_cases hj2 : j + 1 < k
     ·exact HD.out j hj hj2
     ·have hjm : j = m := by have := HM.out; omega
      subst hjm
      have e4 := HLB.out
      have e5 := HLA.out
      have hkm2 := HM.out
      subst hkm2
      rw [e4, e5]; exact hlt2, KK.out, by have := HLT.out; omega⟩
    case measure => (have := HLT.out; simp [intOf]; omega)
   ·have hn2 : decide (0 ≤ R) = true := by simp; omega
    go_wp2_with fail
    go_ret
    have hkm2 := HM.out
    subst hkm2
    exact riseSays_no HLT.out (by rw [HLB.out, HLA.out]; exact hlt2) KK.out
  ·have i1 : ¬ (k : Int) < l.length := by omega
   have hd' : ∀ j (hj : j + 1 < l.length), ltI l[j] l[j + 1] = true := fun j hj => hd j hj (by omega)
   have HD := Lib.hid hd'
   clear hd hd'
   go_wp2_with fail
   go_ret
   exact riseSays_yes HD.out hK
end Go.Proofs.YtdkimcnlhmhpgaaGreat
