/- -/
import Derived.Test.YtdkimcnlhmhpgaaGreatShelf
import Derived.Test.YtdkimcnlhmhpgaaGreatShelf3
import Derived.Test.YtdkimcnlhmhpgaaGreatG07
import Derived.Test.YtdkimcnlhmhpgaaGreatG17
import Derived.LoopN
set_option linter.unusedVariables false
set_option linter.unusedSimpArgs false
namespace Go.Proofs.YtdkimcnlhmhpgaaGreat
open Go.RowKit
def cmpU (x y : Int) : Int := if x < y then -1 else if x = y then 0 else 1
set_option maxRecDepth 100000 in
theorem zcmpu (x y : Int) (w : World) : Calls Tryz.prog 267 #[.int .u32 x, .int .u32 y] w fun e w' => e = .returned (.int .i64 (cmpU x y)) ∧ w = w' := by
  have hn : ∀ (x : Int) W, Calls Tryz.prog 290 #[.int .u32 x] W fun e w' => e = .returned (.bool false) ∧ W = w' := fun x W => by
    go_enter Tryz.func290, Tryz.ntmps290
    go_wp2_with fail
    go_ret
    exact ⟨rfl, rfl⟩
  unfold cmpU
  rcases Int.lt_trichotomy x y with h | h | h
  · rw [if_pos h]
    go_enter Tryz.func267, Tryz.ntmps267
    go_wp2_with fail
    refine (hn _ _).mono ?_; rintro e w1 ⟨rfl, rfl⟩
    go_wp2_with fail
    refine (hn _ _).mono ?_; rintro e w1 ⟨rfl, rfl⟩
    go_wp2_with fail
    go_ret
    exact ⟨rfl, rfl⟩
  · subst h
    rw [if_neg (by omega), if_pos rfl]
    go_enter Tryz.func267, Tryz.ntmps267
    go_wp2_with fail
    refine (hn _ _).mono ?_; rintro e w1 ⟨rfl, rfl⟩
    go_wp2_with fail
    refine (hn _ _).mono ?_; rintro e w1 ⟨rfl, rfl⟩
    go_wp2_with fail
    go_ret
    exact ⟨rfl, rfl⟩
  · have h1 : ¬ x < y := by omega
    have h2 : ¬ x = y := by omega
    rw [if_neg h1, if_neg h2]
    go_enter Tryz.func267, Tryz.ntmps267
    go_wp2_with fail
    refine (hn _ _).mono ?_; rintro e w1 ⟨rfl, rfl⟩
    go_wp2_with fail
    refine (hn _ _).mono ?_; rintro e w1 ⟨rfl, rfl⟩
    go_wp2_with fail
    go_ret
    exact ⟨rfl, rfl⟩
set_option maxRecDepth 100000 in
theorem zor (x y : Int) (b : Nat) (w : World) (h0 : w.cell? ⟨b, 0, none⟩ = some (.int .i64 x)) (h1 : w.cell? ⟨b, 1, none⟩ = some (.int .i64 y)) :
    Calls Tryz.prog 266 #[.slice (some ⟨b, 0, none⟩) 2 2] w fun e w' => e = .returned (.int .i64 (if x = 0 then y else x)) ∧ w = w' := by
  by_cases hx : x = 0
  · subst hx
    rw [if_pos rfl]
    by_cases hy : y = 0
    · subst hy
      go_enter Tryz.func266, Tryz.ntmps266
      go_wp2_with fail
      refine wp_loop_rounds 3 ?_
      rw [rounds_succ]
      go_wp2_with fail
      rw [rounds_succ]
      go_wp2_with fail
      rw [rounds_succ]
      go_wp2_with fail
      go_ret
      exact ⟨rfl, rfl⟩
    · go_enter Tryz.func266, Tryz.ntmps266
      go_wp2_with fail
      refine wp_loop_rounds 3 ?_
      rw [rounds_succ]
      go_wp2_with fail
      rw [rounds_succ]
      go_wp2_with fail
      go_ret
      exact ⟨rfl, rfl⟩
  · rw [if_neg hx]
    go_enter Tryz.func266, Tryz.ntmps266
    go_wp2_with fail
    refine wp_loop_rounds 3 ?_
    rw [rounds_succ]
    go_wp2_with fail
    go_ret
    exact ⟨rfl, rfl⟩
theorem ordI_or (a b : JItem) : (if cmpU a.id b.id = 0 then cmpN a.name b.name else cmpU a.id b.id) = ordI a b := by
  unfold cmpU cmpN ordI ltI eqK
  rcases Int.lt_trichotomy a.id b.id with h | h | h
  · rw [if_pos h]; simp [h]
  · rw [h]
    simp
  · have h1 : ¬ a.id < b.id := by omega
    have h2 : ¬ a.id = b.id := by omega
    simp [h1, h2]
set_option maxRecDepth 100000 in
set_option maxHeartbeats 2000000 in
theorem zorder (a b : JItem) (va vb : Value) (w : World) : Calls Tryz.prog 233 #[.agg (a.cells va), .agg (b.cells vb)] w fun e w' => e = .returned (.int .i64 (ordI a b)) ∧ Kept [] w w' := by
  rw [← ordI_or]
  have hc := fun W => zcmpu a.id b.id W
  have hs := fun W => Tryz.strings_Compare (bs a.name) (bs b.name) W
  simp only [bs_data, cmpN_eq] at hs
  unfold JItem.cells
  have k0 := ((Kept.refl [] w).alloc (.cells #[.int .u32 a.id, .string (bs a.name), .int .i64 a.size, va] 113)).alloc (.cells #[.int .u32 b.id, .string (bs b.name), .int .i64 b.size, vb] 113)
  obtain ⟨oA, oB⟩ := own_two w #[.int .u32 a.id, .string (bs a.name), .int .i64 a.size, va] #[.int .u32 b.id, .string (bs b.name), .int .i64 b.size, vb] 113 113
  obtain ⟨a0, a1, a2, a3⟩ := oA.c4
  obtain ⟨b0, b1, b2, b3⟩ := oB.c4
  clear oA oB
  generalize cmpU a.id b.id = C at *
  generalize cmpN a.name b.name = D at *
  have ho := fun b W h0 h1 => zor C D b W h0 h1
  obtain ⟨R, hR⟩ : ∃ R, (if C = 0 then D else C) = R := ⟨_, rfl⟩
  simp only [hR] at ho ⊢
  clear hR
  generalize bs a.name = NA at *
  generalize bs b.name = NB at *
  go_enter Tryz.func233, Tryz.ntmps233
  go_wp2_with fail
  refine wp_region_held_drew (S := (fun W => W.cell? ⟨w.heap.size, 0, none⟩ = some (.int .u32 a.id) ∧ W.cell? ⟨w.heap.size, 1, none⟩ = some (.string NA) ∧ W.cell? ⟨w.heap.size + 1, 0, none⟩ = some (.int .u32 b.id) ∧ W.cell? ⟨w.heap.size + 1, 1, none⟩ = some (.string NB))) (by kernel_rfl) (by go_keep) (fun hHeld => ?_)
  refine take_at (i := 0) (d := some 5) (v := ?_) rfl rfl (by kernel_rfl) (by kernel_rfl) (by kernel_rfl) (fun _ _ _ h => h) (Or.inl ⟨by rfl, ?_⟩) (by assumption) ?_
  rotate_left
  · (intro w hSw; (try dsimp only at hSw); go_simp; try with_reducible rfl)
  try simp only [Act.put, List.setIfInBounds_toArray, List.set_cons_zero, List.set_cons_succ]
  refine take_at (i := 1) (d := some 6) (v := ?_) rfl rfl (by kernel_rfl) (by kernel_rfl) (by kernel_rfl) (fun _ _ _ h => h) (Or.inl ⟨by rfl, ?_⟩) (by assumption) ?_
  rotate_left
  · (intro w hSw; (try dsimp only at hSw); go_simp; try with_reducible rfl)
  try simp only [Act.put, List.setIfInBounds_toArray, List.set_cons_zero, List.set_cons_succ]
  refine take_at (i := 2) (d := some 7) (v := ?_) rfl rfl (by kernel_rfl) (by kernel_rfl) (by kernel_rfl) (fun _ _ _ h => h) (Or.inl ⟨by rfl, ?_⟩) (by assumption) ?_
  rotate_left
  · (intro w hSw; (try dsimp only at hSw); go_simp; try with_reducible rfl)
  try simp only [Act.put, List.setIfInBounds_toArray, List.set_cons_zero, List.set_cons_succ]
  refine take_at (i := 3) (d := some 8) (v := ?_) rfl rfl (by kernel_rfl) (by kernel_rfl) (by kernel_rfl) (fun _ _ _ h => h) (Or.inl ⟨by rfl, ?_⟩) (by assumption) ?_
  rotate_left
  · (intro w hSw; (try dsimp only at hSw); go_simp; try with_reducible rfl)
  try simp only [Act.put, List.setIfInBounds_toArray, List.set_cons_zero, List.set_cons_succ]
  refine take_at (i := 5) (d := some 10) (v := ?_) rfl rfl (by kernel_rfl) (by kernel_rfl) (by kernel_rfl) (fun _ _ _ h => h) (Or.inl ⟨by rfl, ?_⟩) (by assumption) ?_
  rotate_left
  · (intro w hSw; (try dsimp only at hSw); go_simp; try with_reducible rfl)
  try simp only [Act.put, List.setIfInBounds_toArray, List.set_cons_zero, List.set_cons_succ]
  refine take_at (i := 6) (d := some 11) (v := ?_) rfl rfl (by kernel_rfl) (by kernel_rfl) (by kernel_rfl) (fun _ _ _ h => h) (Or.inl ⟨by rfl, ?_⟩) (by assumption) ?_
  rotate_left
  · (intro w hSw; (try dsimp only at hSw); go_simp; try with_reducible rfl)
  try simp only [Act.put, List.setIfInBounds_toArray, List.set_cons_zero, List.set_cons_succ]
  refine take_at (i := 7) (d := some 12) (v := ?_) rfl rfl (by kernel_rfl) (by kernel_rfl) (by kernel_rfl) (fun _ _ _ h => h) (Or.inl ⟨by rfl, ?_⟩) (by assumption) ?_
  rotate_left
  · (intro w hSw; (try dsimp only at hSw); go_simp; try with_reducible rfl)
  try simp only [Act.put, List.setIfInBounds_toArray, List.set_cons_zero, List.set_cons_succ]
  refine take_at (i := 8) (d := some 13) (v := ?_) rfl rfl (by kernel_rfl) (by kernel_rfl) (by kernel_rfl) (fun _ _ _ h => h) (Or.inl ⟨by rfl, ?_⟩) (by assumption) ?_
  rotate_left
  · (intro w hSw; (try dsimp only at hSw); go_simp; try with_reducible rfl)
  try simp only [Act.put, List.setIfInBounds_toArray, List.set_cons_zero, List.set_cons_succ]
  refine wpAnyH_ready (rs := [4]) (by kernel_rfl) (by simp) ?_
  refine (AllReadyH.cons rfl (fun K hK => ?_) AllReadyH.nil)
  go_simp
  ((with_reducible refine (hc _).mono ?_)); rintro e w' ⟨rfl, rfl⟩
  go_wp2_with fail
  refine hK.out _ _ ?_ (fun hHeld => ?_)
  · go_keep
  clear hK K
  try simp only [Act.put, List.setIfInBounds_toArray, List.set_cons_zero, List.set_cons_succ]
  refine wpAnyH_ready (rs := [9]) (by kernel_rfl) (by simp) ?_
  refine (AllReadyH.cons rfl (fun K hK => ?_) AllReadyH.nil)
  go_simp
  ((with_reducible refine (hs _).mono ?_)); rintro e w' ⟨rfl, rfl⟩
  go_wp2_with fail
  refine hK.out _ _ ?_ (fun hHeld => ?_)
  · go_keep
  clear hK K
  try simp only [Act.put, List.setIfInBounds_toArray, List.set_cons_zero, List.set_cons_succ]
  refine wpAnyH_ready (rs := [10]) (by kernel_rfl) (by simp) ?_
  refine (AllReadyH.cons rfl (fun K hK => ?_) AllReadyH.nil)
  go_simp
  refine hK.out _ _ ?_ (fun hHeld => ?_)
  · go_keep
  clear hK K
  try simp only [Act.put, List.setIfInBounds_toArray, List.set_cons_zero, List.set_cons_succ]
  refine wpAnyH_ready (rs := [11]) (by kernel_rfl) (by simp) ?_
  refine (AllReadyH.cons rfl (fun K hK => ?_) AllReadyH.nil)
  go_simp
  ((with_reducible refine (ho _ _ ?_ ?_).mono ?_))
  · go_simp
  · go_simp
  rintro e w' ⟨rfl, rfl⟩
  go_wp2_with fail
  refine hK.out _ _ ?_ (fun hHeld => ?_)
  · go_keep
  clear hK K
  try simp only [Act.put, List.setIfInBounds_toArray, List.set_cons_zero, List.set_cons_succ]
  refine take_at (i := 12) (d := some 4) (v := ?_) rfl rfl (by kernel_rfl) (by kernel_rfl) (by kernel_rfl) (fun _ _ _ h => h) (Or.inl ⟨by rfl, ?_⟩) (by assumption) ?_
  rotate_left
  · (intro w hSw; (try dsimp only at hSw); go_simp; try with_reducible rfl)
  try simp only [Act.put, List.setIfInBounds_toArray, List.set_cons_zero, List.set_cons_succ]
  refine wpAnyH_done (by kernel_rfl) ?_ _
  go_wp2_with fail
  go_ret
  exact ⟨rfl, (k0.drew.alloc _)⟩
def ItemOk (w : World) (x : JItem × Value) : Prop := RunsIn w x.2 x.1.runs 0 w.heap.size ∧ x.1.fits ∧ ∀ r ∈ x.1.runs, WfRun r
theorem RunsIn.upto {w : World} {v : Value} {l : List (Int × Int)} {lo hi : Nat} (h : RunsIn w v l lo hi) : RunsIn w v l 0 w.heap.size := by
  rcases h with h | ⟨b, off, c, h1, h2, h3, h4, h5, h6⟩
  · exact Or.inl h
  · exact Or.inr ⟨b, off, c, h1, h2, Nat.zero_le _, Nat.lt_of_lt_of_le h4 h5, Nat.le_refl _, h6⟩
theorem ItemOk.kept0 {w w' : World} {x : JItem × Value} (h : ItemOk w x) (k : Kept [] w w') : ItemOk w' x := ⟨(h.1.kept0 k).upto, h.2⟩
theorem ItemOk.slv {w : World} {x : JItem × Value} (h : ItemOk w x) : SlV x.2 := by
  obtain ⟨p, c, e⟩ := h.1.shape
  exact ⟨p, _, c, e⟩
def ItemsIn (w : World) (v : Value) (l : List JItem) : Prop := ∃ vs : List (JItem × Value), vs.map (·.1) = l ∧ RawIn w v vs.length 4 (icells vs) ∧ ∀ x ∈ vs, ItemOk w x
theorem ItemsIn.kept0 {w w' : World} {v : Value} {l : List JItem} (h : ItemsIn w v l) (k : Kept [] w w') : ItemsIn w' v l := by
  obtain ⟨vs, h1, h2, h3⟩ := h
  exact ⟨vs, h1, h2.kept0 k, fun x hx => (h3 x hx).kept0 k⟩
theorem ItemsIn.shape {w : World} {v : Value} {l : List JItem} (h : ItemsIn w v l) : ∃ p c, v = .slice p l.length c := by
  obtain ⟨vs, rfl, h2, h3⟩ := h
  rw [List.length_map]
  exact h2.shape
theorem ItemsIn.len {w : World} {v : Value} {l : List JItem} (h : ItemsIn w v l) : l.length ≤ maxLen := by
  obtain ⟨vs, rfl, h2, h3⟩ := h
  rw [List.length_map]
  exact h2.len
theorem ItemsIn.nil (w : World) (a : Option Addr) (c : Nat) : ItemsIn w (.slice a 0 c) [] := ⟨[], rfl, ⟨rfl, Or.inl ⟨rfl, a, c, rfl⟩⟩, fun x hx => by cases hx⟩
theorem ItemsIn.at4 {w : World} {p : Option Addr} {n c : Nat} {l : List JItem} (h : ItemsIn w (.slice p n c) l) (i : Nat) (hi : i < l.length) :
    ∃ b off kv, p = some ⟨b, off, none⟩ ∧ ItemOk w (l[i], kv) ∧ b < w.heap.size ∧ l.length ≤ c ∧ c ≤ maxLen ∧ ∀ W, Kept [] w W → W.cell? ⟨b, off + i * 4, none⟩ = some (.int .u32 l[i].id) ∧ W.cell? ⟨b, off + i * 4 + 1, none⟩ = some (.string (bs l[i].name)) ∧ W.cell? ⟨b, off + i * 4 + 2, none⟩ = some (.int .i64 l[i].size) ∧ W.cell? ⟨b, off + i * 4 + 3, none⟩ = some kv := by
  obtain ⟨vs, rfl, h2, h3⟩ := h
  have hi' : i < vs.length := by simpa using hi
  obtain ⟨p', c', e⟩ := h2.shape
  injection e with e1 e2 e3
  subst e1 e2 e3
  obtain ⟨b, off, e, hc, hb, h6, h7⟩ := h2.at_ (by omega)
  subst e
  obtain ⟨g0, g1, g2, g3⟩ := icells_get vs i hi'
  refine ⟨b, off, vs[i].2, rfl, ?_, hb, by rw [List.length_map]; exact h6, h7, fun W k => ?_⟩
  · rw [List.getElem_map]; exact h3 _ (List.getElem_mem hi')
  · rw [List.getElem_map]
    have hk : ∀ j u, (icells vs)[j]? = some u → W.cell? ⟨b, off + j, none⟩ = some u := fun j u hj => (k.cell (by exact hb) (by simp)).trans (hc j u hj)
    exact ⟨hk _ _ g0, hk _ _ g1, hk _ _ g2, hk _ _ g3⟩
theorem ItemsIn.of_own {w : World} {base : Nat} {v : Value} {vs : List (JItem × Value)} (h : w.ownsRow base 113 4 v vs.length (icells vs)) (h3 : ∀ x ∈ vs, ItemOk w x) : ItemsIn w v (vs.map (·.1)) := ⟨vs, rfl, RawIn.of_own h, h3⟩
theorem lt_pos {l : List JItem} {x : JItem} (h : Rise l) {m : Nat} (hm : m < l.length) : ltI l[m] x = true ↔ m < posI l x := by
  constructor
  · intro hl
    by_cases g : m < posI l x
    · exact g
    · rw [h.ge hm (by omega)] at hl; cases hl
  · intro g; exact posI_lt g
def RiseSays (l : List JItem) (w : World) (e : Ending) (w' : World) : Prop := ∃ q, e = .returned (.bool q) ∧ (q = true ↔ Rise l) ∧ Kept [] w w'
theorem riseSays_no {l : List JItem} {k : Nat} (hk : k + 1 < l.length) {w w' : World} (h : ltI l[k] l[k + 1] = false) (q : Kept [] w w') : RiseSays l w (.returned (.bool false)) w' :=
  ⟨false, rfl, ⟨fun h' => (by cases h'), fun hr => (by rw [hr.at_ hk (Nat.lt_succ_self k)] at h; cases h)⟩, q⟩
theorem riseSays_yes {l : List JItem} {w w' : World} (h : ∀ k (hk : k + 1 < l.length), ltI l[k] l[k + 1] = true) (q : Kept [] w w') : RiseSays l w (.returned (.bool true)) w' :=
  ⟨true, rfl, ⟨fun _ => rise_step h, fun _ => rfl⟩, q⟩
set_option maxRecDepth 100000 in
set_option maxHeartbeats 2000000 in
theorem zrise (v : Value) (l : List JItem) (w : World) (h : ItemsIn w v l) (hl : l.length ≤ 1000000) :
    Calls Tryz.prog 232 #[v, .func (.func 233) #[] #[]] w (RiseSays l w) := by
  obtain ⟨p, c, rfl⟩ := h.shape
  have H := Lib.hid h
  have hl' : (l.length : Int) ≤ 1000000 := by omega
  have ho := zorder
  have HO := Lib.hid ho
  clear h ho
  go_enter Tryz.func232, Tryz.ntmps232
  go_wp2_with fail
  go_loopw [5] (fun i wr => ∃ k : Nat, 1 ≤ k ∧ i = .int .i64 k ∧ (∀ j (hj : j + 1 < l.length), j + 1 < k → ltI l[j] l[j + 1] = true) ∧ Kept [] w wr ∧ k ≤ 1000001) (fun i _ => l.length + 1 - (intOf i).toNat)
  case atStart => exact ⟨1, Nat.le_refl _, rfl, fun j hj h => (by omega), Kept.refl _ _, by omega⟩
  case round =>
    obtain ⟨k, hk1, rfl, hd, hK, hkm⟩ := hrel
    by_cases hlt : k < l.length
    · have hst : k < l.length := hlt
      obtain ⟨m, hm⟩ : ∃ m, k = m + 1 := ⟨k - 1, by omega⟩
      have e1 : (k : Int) - 1 = (m : Int) := by omega
      have hm' : m < l.length := by omega
      have w1 : IntKind.i64.wrap (m : Int) = (m : Int) := by rw [IntKind.wrap_i64]; omega
      obtain ⟨b, off, kva, rfl, _, hb, hc1, hc2, HA⟩ := H.out.at4 m hm'
      obtain ⟨b', off', kvb, e, _, _, _, _, HB⟩ := H.out.at4 k hst
      injection e with e
      injection e with e2 e3 _
      subst e2 e3
      have hcmp := HO.out (l[m]'hm') (l[k]'hst) kva kvb
      obtain ⟨R, hR⟩ : ∃ R, ordI (l[m]'hm') (l[k]'hst) = R := ⟨_, rfl⟩
      have hRc : (R < 0 ∧ ltI (l[m]'hm') (l[k]'hst) = true) ∨ (0 ≤ R ∧ ltI (l[m]'hm') (l[k]'hst) = false) := by
        rw [← hR]
        cases g : ltI (l[m]'hm') (l[k]'hst)
        · exact Or.inr ⟨by have := mt ordI_lt.1 (by rw [g]; decide : ¬ ltI (l[m]'hm') (l[k]'hst) = true); omega, rfl⟩
        · exact Or.inl ⟨ordI_lt.2 g, rfl⟩
      rw [hR] at hcmp
      have i1 : (m : Int) < l.length := by omega
      have i2 : (k : Int) < l.length := by omega
      have i3 : (0 : Int) ≤ m := by omega
      have HC := Lib.hid hcmp
      have HRC := Lib.hid hRc
      have HD := Lib.hid hd
      have HM := Lib.hid hm
      have HLT := Lib.hid hlt
      have HKK := Lib.hid hK
      have HAB : Hid (∀ W, Kept [] w W → (W.cell? ⟨b, off + m * 4, none⟩ = some (.int .u32 (l[m]'hm').id) ∧ W.cell? ⟨b, off + m * 4 + 1, none⟩ = some (.string (bs (l[m]'hm').name)) ∧ W.cell? ⟨b, off + m * 4 + 2, none⟩ = some (.int .i64 (l[m]'hm').size) ∧ W.cell? ⟨b, off + m * 4 + 3, none⟩ = some kva) ∧ (W.cell? ⟨b, off + k * 4, none⟩ = some (.int .u32 (l[k]'hst).id) ∧ W.cell? ⟨b, off + k * 4 + 1, none⟩ = some (.string (bs (l[k]'hst).name)) ∧ W.cell? ⟨b, off + k * 4 + 2, none⟩ = some (.int .i64 (l[k]'hst).size) ∧ W.cell? ⟨b, off + k * 4 + 3, none⟩ = some kvb)) := Lib.hid (fun W q => ⟨HA W q, HB W q⟩)
      unfold JItem.cells at HC
      clear HA HB hcmp hRc hd hR
      generalize hLA : l[m]'hm' = A at HC HAB HRC
      generalize hLB : l[k]'hst = B at HC HAB HRC
      have HLA := Lib.hid hLA
      have HLB := Lib.hid hLB
      clear hLA hLB hlt hm
      go_wp2_with fail
      refine wp_region_held_drew (S := (fun W => (W.cell? ⟨b, off + m * 4, none⟩ = some (.int .u32 A.id) ∧ W.cell? ⟨b, off + m * 4 + 1, none⟩ = some (.string (bs A.name)) ∧ W.cell? ⟨b, off + m * 4 + 2, none⟩ = some (.int .i64 A.size) ∧ W.cell? ⟨b, off + m * 4 + 3, none⟩ = some kva) ∧ (W.cell? ⟨b, off + k * 4, none⟩ = some (.int .u32 B.id) ∧ W.cell? ⟨b, off + k * 4 + 1, none⟩ = some (.string (bs B.name)) ∧ W.cell? ⟨b, off + k * 4 + 2, none⟩ = some (.int .i64 B.size) ∧ W.cell? ⟨b, off + k * 4 + 3, none⟩ = some kvb))) (by kernel_rfl) (by exact HAB.out _ HKK.out.drew) (fun hHeld => ?_)
      refine take_at (i := 0) (d := some 12) (v := ?_) rfl rfl (by kernel_rfl) (by kernel_rfl) (by kernel_rfl) (fun _ _ _ h => h) (Or.inl ⟨by rfl, ?_⟩) (by assumption) ?_
      rotate_left
      · (intro w hSw; (try dsimp only at hSw); go_simp; try with_reducible rfl)
      try simp only [Act.put, List.setIfInBounds_toArray, List.set_cons_zero, List.set_cons_succ]
      refine take_at (i := 1) (d := some 13) (v := ?_) rfl rfl (by kernel_rfl) (by kernel_rfl) (by kernel_rfl) (fun _ _ _ h => h) (Or.inl ⟨by rfl, ?_⟩) (by assumption) ?_
      rotate_left
      · (intro w hSw; (try dsimp only at hSw); go_simp; try with_reducible rfl)
      try simp only [Act.put, List.setIfInBounds_toArray, List.set_cons_zero, List.set_cons_succ]
      refine take_at (i := 2) (d := some 14) (v := ?_) rfl rfl (by kernel_rfl) (by kernel_rfl) (by kernel_rfl) (fun _ _ _ h => h) (Or.inl ⟨by rfl, ?_⟩) (by assumption) ?_
      rotate_left
      · (intro w hSw; (try dsimp only at hSw); go_simp; try with_reducible rfl)
      try simp only [Act.put, List.setIfInBounds_toArray, List.set_cons_zero, List.set_cons_succ]
      refine take_at (i := 3) (d := some 15) (v := ?_) rfl rfl (by kernel_rfl) (by kernel_rfl) (by kernel_rfl) (fun _ _ _ h => h) (Or.inl ⟨by rfl, ?_⟩) (by assumption) ?_
      rotate_left
      · (intro w hSw; (try dsimp only at hSw); go_simp; try with_reducible rfl)
      try simp only [Act.put, List.setIfInBounds_toArray, List.set_cons_zero, List.set_cons_succ]
      refine take_at (i := 4) (d := some 16) (v := ?_) rfl rfl (by kernel_rfl) (by kernel_rfl) (by kernel_rfl) (fun _ _ _ h => h) (Or.inl ⟨by rfl, ?_⟩) (by assumption) ?_
      rotate_left
      · (intro w hSw; (try dsimp only at hSw); go_simp; try with_reducible rfl)
      try simp only [Act.put, List.setIfInBounds_toArray, List.set_cons_zero, List.set_cons_succ]
      refine take_at (i := 5) (d := some 17) (v := ?_) rfl rfl (by kernel_rfl) (by kernel_rfl) (by kernel_rfl) (fun _ _ _ h => h) (Or.inl ⟨by rfl, ?_⟩) (by assumption) ?_
      rotate_left
      · (intro w hSw; (try dsimp only at hSw); go_simp; try with_reducible rfl)
      try simp only [Act.put, List.setIfInBounds_toArray, List.set_cons_zero, List.set_cons_succ]
      refine take_at (i := 6) (d := some 18) (v := ?_) rfl rfl (by kernel_rfl) (by kernel_rfl) (by kernel_rfl) (fun _ _ _ h => h) (Or.inl ⟨by rfl, ?_⟩) (by assumption) ?_
      rotate_left
      · (intro w hSw; (try dsimp only at hSw); go_simp; try with_reducible rfl)
      try simp only [Act.put, List.setIfInBounds_toArray, List.set_cons_zero, List.set_cons_succ]
      refine take_at (i := 7) (d := some 19) (v := ?_) rfl rfl (by kernel_rfl) (by kernel_rfl) (by kernel_rfl) (fun _ _ _ h => h) (Or.inl ⟨by rfl, ?_⟩) (by assumption) ?_
      rotate_left
      · (intro w hSw; (try dsimp only at hSw); go_simp; try with_reducible rfl)
      try simp only [Act.put, List.setIfInBounds_toArray, List.set_cons_zero, List.set_cons_succ]
      refine take_at (i := 8) (d := some 20) (v := ?_) rfl rfl (by kernel_rfl) (by kernel_rfl) (by kernel_rfl) (fun _ _ _ h => h) (Or.inl ⟨by rfl, ?_⟩) (by assumption) ?_
      rotate_left
      · (intro w hSw; (try dsimp only at hSw); go_simp; try with_reducible rfl)
      try simp only [Act.put, List.setIfInBounds_toArray, List.set_cons_zero, List.set_cons_succ]
      refine take_at (i := 9) (d := some 21) (v := ?_) rfl rfl (by kernel_rfl) (by kernel_rfl) (by kernel_rfl) (fun _ _ _ h => h) (Or.inl ⟨by rfl, ?_⟩) (by assumption) ?_
      rotate_left
      · (intro w hSw; (try dsimp only at hSw); go_simp; try with_reducible rfl)
      try simp only [Act.put, List.setIfInBounds_toArray, List.set_cons_zero, List.set_cons_succ]
      refine wpAnyH_ready (rs := [10]) (by kernel_rfl) (by simp) ?_
      refine (AllReadyH.cons rfl (fun K hK => ?_) AllReadyH.nil)
      go_simp
      ((with_reducible refine (HC.out _).mono ?_)); rintro e w2 ⟨rfl, k2⟩
      have KK := Lib.hid (HKK.out.drew.trans k2)
      go_wp2_with fail
      refine hK.out _ _ ?_ (fun hHeld => ?_)
      · exact HAB.out _ KK.out
      clear hK K
      try simp only [Act.put, List.setIfInBounds_toArray, List.set_cons_zero, List.set_cons_succ]
      refine take_at (i := 11) (d := some 23) (v := ?_) rfl rfl (by kernel_rfl) (by kernel_rfl) (by kernel_rfl) (fun _ _ _ h => h) (Or.inl ⟨by rfl, ?_⟩) (by assumption) ?_
      rotate_left
      · (intro w hSw; (try dsimp only at hSw); go_simp; try with_reducible rfl)
      try simp only [Act.put, List.setIfInBounds_toArray, List.set_cons_zero, List.set_cons_succ]
      refine wpAnyH_done (by kernel_rfl) ?_ _
      rcases HRC.out with ⟨hneg, hlt2⟩ | ⟨hneg, hlt2⟩
      · have hn2 : decide (0 ≤ R) = false := by simp; omega
        go_wp2_with fail
        go_roundw
        case rel => exact ⟨k + 1, by omega, by rfl, fun j hj hjk => by
          by_cases hj2 : j + 1 < k
          · exact HD.out j hj hj2
          · have hjm : j = m := by have := HM.out; omega
            subst hjm
            have e4 := HLB.out
            have e5 := HLA.out
            have hkm2 := HM.out
            subst hkm2
            rw [e4, e5]; exact hlt2, KK.out, by have := HLT.out; omega⟩
        case measure => (have := HLT.out; simp [intOf]; omega)
      · have hn2 : decide (0 ≤ R) = true := by simp; omega
        go_wp2_with fail
        go_ret
        have hkm2 := HM.out
        subst hkm2
        exact riseSays_no HLT.out (by rw [HLB.out, HLA.out]; exact hlt2) KK.out
    · have i1 : ¬ (k : Int) < l.length := by omega
      have hd' : ∀ j (hj : j + 1 < l.length), ltI l[j] l[j + 1] = true := fun j hj => hd j hj (by omega)
      have HD := Lib.hid hd'
      clear hd hd'
      go_wp2_with fail
      go_ret
      exact riseSays_yes HD.out hK
end Go.Proofs.YtdkimcnlhmhpgaaGreat
