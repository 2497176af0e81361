/- -/
import Derived.Test.YtdkimcnlhmhpgaaGreatH11
import Derived.Test.YtdkimcnlhmhpgaaGreatH21
import Derived.Test.YtdkimcnlhmhpgaaGreatH24
set_option linter.unusedVariables false
set_option linter.unusedSimpArgs false
namespace Go.Proofs.YtdkimcnlhmhpgaaGreat
open Go.RowKit
theorem Own.other4 {w : World} {b g : Nat} {cs : Array Value} {t : TypeId} (h : Own w b cs t) (hb : b ≠ g) (x y z u : Value) : Own ((((w.setCell ⟨g, 0, none⟩ x).setCell ⟨g, 1, none⟩ y).setCell ⟨g, 2, none⟩ z).setCell ⟨g, 3, none⟩ u) b cs t :=
 (((h.other (p := ⟨g, 0, none⟩) hb x).other (p := ⟨g, 1, none⟩) hb y).other (p := ⟨g, 2, none⟩) hb z).other (p := ⟨g, 3, none⟩) hb u
theorem Kept.set4 {S : List Nat} {w0 w : World} {g : Nat} (h : Kept S w0 w) (hg : g ∈ S ∨ w0.heap.size ≤ g) (x y z u : Value) : Kept S w0 ((((w.setCell ⟨g, 0, none⟩ x).setCell ⟨g, 1, none⟩ y).setCell ⟨g, 2, none⟩ z).setCell ⟨g, 3, none⟩ u) :=
 (((h.setCell (p := ⟨g, 0, none⟩) hg x).setCell (p := ⟨g, 1, none⟩) hg y).setCell (p := ⟨g, 2, none⟩) hg z).setCell (p := ⟨g, 3, none⟩) hg u
def ComesSays (S : Nat → Prop) (L : List JItem × Int) (w : World) (e : Ending) (w' : World) : Prop := ∃ v, e = .returned (.tuple #[v, .int .i64 L.2]) ∧ ItemsOff S w' v L.1 ∧ Kept [] w w'
theorem comesSays_of {S : Nat → Prop} {L : List JItem × Int} {l : List JItem} {C : Int} {v : Value} {w w' : World} (h : L = (l, C)) (h1 : ItemsOff S w' v l) (k : Kept [] w w') : ComesSays S L w (.returned (.tuple #[v, .int .i64 C])) w' := by
 subst h; exact ⟨v, rfl, h1, k⟩
theorem ItemsIn.put_in {S : Nat → Prop} {w w' : World} {base : Nat} {v : Value} {vs : List (JItem × Value)} {x : JItem} {xv : Value} {i : Nat} (hi : i < vs.length) (h : w'.ownsRow base 113 4 v vs.length ((icells vs).take (i * 4) ++ vcells x xv ++ (icells vs).drop ((i + 1) * 4))) (hS : ∀ x, S x → x < base) (h3 : ∀ y ∈ vs, ItemOk w y ∧ OffV S y.2 y.1.runs.length) (hx : ItemOk w' (x, xv) ∧ OffV S xv x.runs.length) (k : Kept [] w w') : ItemsOff S w' v (setI (vs.map (·.1)) i x) := by
 have em : (vs.take i ++ [(x, xv)] ++ vs.drop (i + 1)).map (·.1) = setI (vs.map (·.1)) i x := by
  unfold setI
  rw [List.map_append, List.map_append, List.map_take, List.map_drop]
  simp
 rw [← em]
 refine ItemsOff.of_own (base := base) ?_ hS (fun y hy => ?_)
 ·have e1 : (vs.take i ++ [(x, xv)] ++ vs.drop (i + 1)).length = vs.length := by
   rw [List.length_append, List.length_append, List.length_take, List.length_drop, List.length_singleton]; omega
  rw [e1, icells_append, icells_append, ← icells_take, ← icells_drop]
  exact h
 ·rcases List.mem_append.1 hy with hy | hy
  ·rcases List.mem_append.1 hy with hy | hy
   ·have := h3 y (List.mem_of_mem_take hy); exact ⟨this.1.kept0 k, this.2⟩
   ·have : y = (x, xv) := by simpa using hy
    subst this; exact hx
  ·have := h3 y (List.mem_of_mem_drop hy); exact ⟨this.1.kept0 k, this.2⟩
theorem row_put {w : World} {base g cap n i : Nat} {cur : List Value} (o : Own w g cur.toArray 113) (hb : base ≤ g) (hn : n ≤ cap) (hc : cap ≤ maxLen) (hl : cur.length = cap * 4) (hi : i < n) (a b c d : Value) :
  (w.setCells g (i * 4) [a, b, c, d]).ownsRow base 113 4 (.slice (some ⟨g, 0, none⟩) n cap) n ((cur.take (n * 4)).take (i * 4) ++ [a, b, c, d] ++ (cur.take (n * 4)).drop ((i + 1) * 4)) := by
 have hfit : i * 4 + [a, b, c, d].length ≤ cur.length := by rw [hl]; show _ + 4 ≤ _; omega
 have h1 := ownsRow_of (base := base) (n := n) (cap := cap) (o.setL [a, b, c, d] (i * 4) hfit) hb hn hc (by rw [splL_len hfit, hl])
 have e : (splL cur (i * 4) [a, b, c, d]).take (n * 4) = (cur.take (n * 4)).take (i * 4) ++ [a, b, c, d] ++ (cur.take (n * 4)).drop ((i + 1) * 4) := by
  have hl0 : (cur.take (i * 4)).length = i * 4 := by rw [List.length_take]; omega
  have hn4 : n * 4 = i * 4 + 4 + (n * 4 - (i * 4 + 4)) := by omega
  unfold splL
  rw [List.take_take, Nat.min_eq_left (by omega), ← List.append_assoc, List.take_append, List.take_of_length_le (by rw [List.length_append, hl0]; show _ + 4 ≤ _; omega), List.drop_take]
  congr 1
  rw [List.length_append, hl0, show (i + 1) * 4 = i * 4 + [a, b, c, d].length from by show _ = _ + 4; omega]
 rw [e] at h1
 exact h1
def comesT (q turns : Bool) (l : List JItem) (x : JItem) (next : Int) (most : Nat) : List JItem × Int := if q && turns then (setI l (posI l x) x, 0) else if q || decide (x.id < next) then ([], 252) else if decide (most ≤ l.length) then ([], 240) else (insI l x, 0)
theorem comesT_eq {l : List JItem} {x : JItem} {next : Int} {most : Nat} {turns q : Bool} (hr : Rise l) (hq : q = true ↔ hasK l x) : comesX l x next most turns = comesT q turns l x next most := by
 unfold comesX comesT
 cases q with
 | true =>
  have hh := hq.1 rfl
  cases turns with
  | true => rw [if_pos ⟨hh, rfl⟩, posI_idx hr hh]; rfl
  | false => rw [if_neg (by simp), if_pos (Or.inl hh)]; rfl
 | false =>
  have hh : ¬ hasK l x := fun h => by have := hq.2 h; cases this
  rw [if_neg (by simp [hh])]
  by_cases h1 : x.id < next
  ·rw [if_pos (Or.inr h1)]; simp [h1]
  ·rw [if_neg (by simp [hh, h1])]
   simp [h1]
set_option maxRecDepth 100000 in
set_option maxHeartbeats 8000000 in
theorem zcomes {S : Nat → Prop} (v : Value) (l : List JItem) (r : JRec) (rv : Value) (next : Int) (most : Nat) (turns : Bool) (w : World) (h : ItemsOff S w v l) (hS : ∀ x, S x → x < w.heap.size) (hl : l.length ≤ 100000) (hr : Rise l) (hrr : RunsIn w rv r.runs 0 w.heap.size) (hf : r.fits) (hwf : ∀ a ∈ r.runs, WfRun a) (hrl : r.runs.length ≤ 1000000) (hmo : most ≤ 1000000) :
  Calls Tryz.prog 171 #[v, .agg (r.cells rv), .int .u32 next, .int .i64 most, .bool turns] w (ComesSays S (comesX l r.item next most turns) w) := by
 have HC : Hid (∀ W, Kept [] w W → Calls Tryz.prog 69 #[rv] W (GivesR r.runs W)) := Lib.hid (fun W q => pcloneR rv r.runs _ _ W (hrr.kept0 q) hrl)
 have HOKX : Hid (∀ W u, W.ownsRow w.heap.size 128 2 u r.runs.length (rcells r.runs) → ItemOk W (r.item, u) ∧ OffV S u r.runs.length) := Lib.hid (fun W u ho => ⟨⟨(RunsIn.of_own ho).upto, JRec.item_fits hf, hwf⟩, OffV.row ho hS _⟩)
 have HS : Hid (∀ W u, Kept [] w W → Calls Tryz.prog 234 #[v, .agg (r.item.cells u), .func (.func 233) #[] #[]] W (SeekSays l r.item W)) := Lib.hid (fun W u q => zseek v l r.item u W (h.plain.kept0 q) (by omega) hr)
 have HI : Hid (∀ W u, Kept [] w W → ItemOk W (r.item, u) ∧ OffV S u r.runs.length → Calls Tryz.prog 235 #[v, .agg (r.item.cells u), .func (.func 233) #[] #[]] W (GivesI S (insI l r.item) W)) := Lib.hid (fun W u q hx => zins v l r.item u W (h.kept0 q) (fun x hx => Nat.lt_of_lt_of_le (hS x hx) q.size) hl hr hx)
 have HT : Hid (∀ q : Bool, (q = true ↔ hasK l r.item) → comesX l r.item next most turns = comesT q turns l r.item next most) := Lib.hid (fun q hq => comesT_eq hr hq)
 have HSX := Lib.hid hS
 have HPL : Hid (hasK l r.item → posI l r.item < l.length) := Lib.hid (fun hh => by rw [posI_idx hr hh]; exact hh)
 obtain ⟨vs, hvs, hraw, hok, _⟩ := h
 have hlv : vs.length = l.length := by rw [← hvs, List.length_map]
 have hslv : ∀ y ∈ vs, SlV y.2 := fun y hy => (hok y hy).1.slv
 have HCL : Hid (∀ W, Kept [] w W → Calls Tryz.prog 127 #[v] W fun e w' => ∃ v', e = .returned v' ∧ w'.ownsRow W.heap.size 113 4 v' l.length (icells vs) ∧ Kept [] W w') := Lib.hid (fun W q => by rw [← hlv]; exact zclone v vs.length (icells vs) W (hraw.kept0 q) (icells_one hslv) (by omega))
 obtain ⟨pv, cv, rfl⟩ := hraw.shape
 rw [hlv] at HS HI HCL ⊢
 obtain ⟨prr, crr, rfl⟩ := hrr.shape
 have HPUT : Hid (∀ w' base v' u, (∀ x, S x → x < base) → posI l r.item < l.length → w'.ownsRow base 113 4 v' l.length ((icells vs).take (posI l r.item * 4) ++ vcells r.item u ++ (icells vs).drop ((posI l r.item + 1) * 4)) → ItemOk w' (r.item, u) ∧ OffV S u r.runs.length → Kept [] w w' → ItemsOff S w' v' (setI l (posI l r.item) r.item)) := Lib.hid (fun w' base v' u hSb hp ho hx k => by
  rw [← hvs] at hp ho ⊢
  rw [List.length_map] at hp ho
  exact ItemsIn.put_in hp ho hSb hok hx k)
 have oR := Own.new w (r.cells (.slice prr r.runs.length crr)) 102
 have k0 : Kept [] w (w.alloc (.cells (r.cells (.slice prr r.runs.length crr)) 102)) := (Kept.refl _ _).alloc _
 unfold JRec.cells at oR k0 ⊢
 unfold JItem.cells at HS HI
 have er1 : r.item.id = r.id := rfl
 have er2 : r.item.name = r.name := rfl
 have er3 : r.item.size = r.size := rfl
 rw [er1, er2, er3] at HS HI
 obtain ⟨x0, x1, x2, x3, x4⟩ := oR.k5
 have OR := Lib.hid oR
 have K0 := Lib.hid k0
 have j1 : (l.length : Int) ≤ 1000000 := by omega
 have j2 : (most : Int) ≤ 1000000 := by omega
 clear oR k0 hraw hok hslv hlv hvs hrr hf hwf hr er1 er2 er3 hS
 unfold GivesR at HC
 unfold SeekSays at HS
 unfold GivesI at HI
 go_enter Tryz.func171, Tryz.ntmps171
 go_upto_region 1 with fail
 go_cut [12] from 16 to 25 (fun v12 wx => ∃ xb u, v12 = .pointer (some ⟨xb, 0, none⟩) ∧ Own wx xb #[.int .u32 r.id, .string (bs r.name), .int .i64 r.size, u] 113 ∧ (ItemOk wx (r.item, u) ∧ OffV S u r.runs.length) ∧ Own wx w.heap.size #[.int .i64 r.kind, .int .u32 r.id, .string (bs r.name), .int .i64 r.size, .slice prr r.runs.length crr] 102 ∧ Kept [] w wx ∧ w.heap.size ≤ xb)
 case first =>
  refine wp_region_held_drew (S := (fun W => W.cell? ⟨w.heap.size, 0, none⟩ = some (.int .i64 r.kind) ∧ W.cell? ⟨w.heap.size, 1, none⟩ = some (.int .u32 r.id) ∧ W.cell? ⟨w.heap.size, 2, none⟩ = some (.string (bs r.name)) ∧ W.cell? ⟨w.heap.size, 3, none⟩ = some (.int .i64 r.size) ∧ W.cell? ⟨w.heap.size, 4, none⟩ = some (.slice prr r.runs.length crr))) (by kernel_rfl) (by exact OR.out.drew.k5) (fun hHeld => ?_)
  refine take_at (i := 0) (d := some 16) (v := ?_) rfl rfl (by kernel_rfl) (by kernel_rfl) (by kernel_rfl) (fun _ _ _ h => h) (Or.inl ⟨by rfl, ?_⟩) (by assumption) ?_
  rotate_left
  ·(intro w hSw; (try dsimp only at hSw); go_simp; try with_reducible rfl)
  try simp only [Act.put, List.setIfInBounds_toArray, List.set_cons_zero, List.set_cons_succ]
  refine take_at (i := 1) (d := some 17) (v := ?_) rfl rfl (by kernel_rfl) (by kernel_rfl) (by kernel_rfl) (fun _ _ _ h => h) (Or.inl ⟨by rfl, ?_⟩) (by assumption) ?_
  rotate_left
  ·(intro w hSw; (try dsimp only at hSw); go_simp; try with_reducible rfl)
  try simp only [Act.put, List.setIfInBounds_toArray, List.set_cons_zero, List.set_cons_succ]
  refine take_at (i := 2) (d := some 18) (v := ?_) rfl rfl (by kernel_rfl) (by kernel_rfl) (by kernel_rfl) (fun _ _ _ h => h) (Or.inl ⟨by rfl, ?_⟩) (by assumption) ?_
  rotate_left
  ·(intro w hSw; (try dsimp only at hSw); go_simp; try with_reducible rfl)
  try simp only [Act.put, List.setIfInBounds_toArray, List.set_cons_zero, List.set_cons_succ]
  refine take_at (i := 3) (d := some 19) (v := ?_) rfl rfl (by kernel_rfl) (by kernel_rfl) (by kernel_rfl) (fun _ _ _ h => h) (Or.inl ⟨by rfl, ?_⟩) (by assumption) ?_
  rotate_left
  ·(intro w hSw; (try dsimp only at hSw); go_simp; try with_reducible rfl)
  try simp only [Act.put, List.setIfInBounds_toArray, List.set_cons_zero, List.set_cons_succ]
  refine take_at (i := 4) (d := some 20) (v := ?_) rfl rfl (by kernel_rfl) (by kernel_rfl) (by kernel_rfl) (fun _ _ _ h => h) (Or.inl ⟨by rfl, ?_⟩) (by assumption) ?_
  rotate_left
  ·(intro w hSw; (try dsimp only at hSw); go_simp; try with_reducible rfl)
  try simp only [Act.put, List.setIfInBounds_toArray, List.set_cons_zero, List.set_cons_succ]
  refine take_at (i := 5) (d := some 21) (v := ?_) rfl rfl (by kernel_rfl) (by kernel_rfl) (by kernel_rfl) (fun _ _ _ h => h) (Or.inl ⟨by rfl, ?_⟩) (by assumption) ?_
  rotate_left
  ·(intro w hSw; (try dsimp only at hSw); go_simp; try with_reducible rfl)
  try simp only [Act.put, List.setIfInBounds_toArray, List.set_cons_zero, List.set_cons_succ]
  refine take_at (i := 6) (d := some 22) (v := ?_) rfl rfl (by kernel_rfl) (by kernel_rfl) (by kernel_rfl) (fun _ _ _ h => h) (Or.inl ⟨by rfl, ?_⟩) (by assumption) ?_
  rotate_left
  ·(intro w hSw; (try dsimp only at hSw); go_simp; try with_reducible rfl)
  try simp only [Act.put, List.setIfInBounds_toArray, List.set_cons_zero, List.set_cons_succ]
  refine take_at (i := 7) (d := some 23) (v := ?_) rfl rfl (by kernel_rfl) (by kernel_rfl) (by kernel_rfl) (fun _ _ _ h => h) (Or.inl ⟨by rfl, ?_⟩) (by assumption) ?_
  rotate_left
  ·(intro w hSw; (try dsimp only at hSw); go_simp; try with_reducible rfl)
  try simp only [Act.put, List.setIfInBounds_toArray, List.set_cons_zero, List.set_cons_succ]
  refine wpAnyH_ready (rs := [8, 10]) (by kernel_rfl) (by simp) ?_
  refine (AllReadyH.cons rfl (fun K hK => ?_) (AllReadyH.cons rfl (fun K hK => ?_) AllReadyH.nil))
  ·go_simp
   ((with_reducible refine (HC.out _ K0.out.drew).mono ?_)); rintro e w5 ⟨u5, rfl, r5, k5⟩
   have K5 := Lib.hid ((K0.out.drew).trans k5)
   have o5 := k5.own OR.out.drew (by simp)
   have O5 := Lib.hid o5
   have R5 := Lib.hid r5
   clear r5 o5
   obtain ⟨pu, cu, rfl⟩ := own_shape R5.out
   go_wp2_with fail
   refine hK.out _ _ ?_ (fun hHeld => ?_)
   ·exact O5.out.k5
   clear hK K
   try simp only [Act.put, List.setIfInBounds_toArray, List.set_cons_zero, List.set_cons_succ]
   refine take_at (i := 9) (d := some 25) (v := ?_) rfl rfl (by kernel_rfl) (by kernel_rfl) (by kernel_rfl) (fun _ _ _ h => h) (Or.inl ⟨by rfl, ?_⟩) (by assumption) ?_
   rotate_left
   ·(intro w hSw; (try dsimp only at hSw); go_simp; try with_reducible rfl)
   try simp only [Act.put, List.setIfInBounds_toArray, List.set_cons_zero, List.set_cons_succ]
   refine wpAnyH_ready (rs := [10]) (by kernel_rfl) (by simp) ?_
   refine (AllReadyH.cons rfl (fun K hK => ?_) AllReadyH.nil)
   go_simp
   refine hK.out _ _ ?_ (fun hHeld => ?_)
   ·go_keep
   clear hK K
   try simp only [Act.put, List.setIfInBounds_toArray, List.set_cons_zero, List.set_cons_succ]
   refine wpAnyH_ready (rs := [11]) (by kernel_rfl) (by simp) ?_
   refine (AllReadyH.cons rfl (fun K hK => ?_) AllReadyH.nil)
   go_simp
   refine hK.out _ _ ?_ (fun hHeld => ?_)
   ·go_keep
   clear hK K
   try simp only [Act.put, List.setIfInBounds_toArray, List.set_cons_zero, List.set_cons_succ]
   refine wpAnyH_done (by kernel_rfl) ?_ _
   go_wp2_with fail
   go_meet
   exact ⟨_, _, rfl, Own.new _ _ _, ⟨(HOKX.out _ _ (ownsRow_base R5.out K0.out.size)).1.kept0 ((Kept.refl _ _).alloc _), (HOKX.out _ _ (ownsRow_base R5.out K0.out.size)).2⟩, O5.out.alloc _, K5.out.alloc _, K5.out.size⟩
  ·go_simp
   refine hK.out _ _ ?_ (fun hHeld => ?_)
   ·go_keep
   clear hK K
   try simp only [Act.put, List.setIfInBounds_toArray, List.set_cons_zero, List.set_cons_succ]
   have KB := Lib.hid ((K0.out.alloc (.cells #[.int .u32 0, .string { data := #[] }, .int .i64 0, .slice none 0 0] 113)).drew)
   have OXB := Lib.hid ((Own.new (w.alloc (.cells #[.int .i64 r.kind, .int .u32 r.id, .string (bs r.name), .int .i64 r.size, .slice prr r.runs.length crr] 102)).drew #[.int .u32 0, .string { data := #[] }, .int .i64 0, .slice none 0 0] 113))
   have OB := Lib.hid ((OR.out.alloc (.cells #[.int .u32 0, .string { data := #[] }, .int .i64 0, .slice none 0 0] 113)).drew)
   refine wpAnyH_ready (rs := [8]) (by kernel_rfl) (by simp) ?_
   refine (AllReadyH.cons rfl (fun K hK => ?_) AllReadyH.nil)
   go_simp
   ((with_reducible refine (HC.out _ KB.out).mono ?_)); rintro e w5 ⟨u5, rfl, r5, k5⟩
   have K5 := Lib.hid ((KB.out).trans k5)
   have o5 := k5.own OB.out (by simp)
   have O5 := Lib.hid o5
   have R5 := Lib.hid r5
   clear r5 o5
   obtain ⟨pu, cu, rfl⟩ := own_shape R5.out
   go_wp2_with fail
   refine hK.out _ _ ?_ (fun hHeld => ?_)
   ·exact O5.out.k5
   clear hK K
   try simp only [Act.put, List.setIfInBounds_toArray, List.set_cons_zero, List.set_cons_succ]
   have ox5 := k5.own OXB.out (by simp)
   simp only [World.size_alloc, World.size_drew] at ox5
   have OX5 := Lib.hid ox5
   obtain ⟨z0, z1, z2, z3⟩ := ox5.c4
   obtain ⟨y0, y1, y2, y3⟩ := ox5.z4
   refine take_at (i := 9) (d := some 25) (v := ?_) rfl rfl (by kernel_rfl) (by kernel_rfl) (by kernel_rfl) (fun _ _ _ h => h) (Or.inl ⟨by rfl, ?_⟩) (by assumption) ?_
   rotate_left
   ·(intro w hSw; (try dsimp only at hSw); go_simp; try with_reducible rfl)
   try simp only [Act.put, List.setIfInBounds_toArray, List.set_cons_zero, List.set_cons_succ]
   refine wpAnyH_ready (rs := [11]) (by kernel_rfl) (by simp) ?_
   refine (AllReadyH.cons rfl (fun K hK => ?_) AllReadyH.nil)
   go_simp
   refine hK.out _ _ ?_ (fun hHeld => ?_)
   ·exact (O5.out.other4 (Nat.ne_of_lt (Nat.lt_succ_self _)) _ _ _ _).k5
   clear hK K
   try simp only [Act.put, List.setIfInBounds_toArray, List.set_cons_zero, List.set_cons_succ]
   refine wpAnyH_done (by kernel_rfl) ?_ _
   go_wp2_with fail
   go_meet
   exact ⟨_, _, rfl, OX5.out.set4 _ _ _ _, HOKX.out _ _ (ownsRow_keptO (ownsRow_base R5.out KB.out.size) ((Kept.refl [w.heap.size + 1] w5).set4 (Or.inl (by simp)) _ _ _ _) OX5.out (by decide)), O5.out.other4 (Nat.ne_of_lt (Nat.lt_succ_self _)) _ _ _ _, K5.out.set4 (Or.inr (Nat.le_succ _)) _ _ _ _, Nat.le_succ _⟩
 case rest =>
  obtain ⟨xb, u, rfl, hX, hIO, hR, hK, hxb⟩ := hcut
  have HX := Lib.hid hX
  have HIO := Lib.hid hIO
  have HR := Lib.hid hR
  have HK := Lib.hid hK
  obtain ⟨pu, nu, cu, rfl⟩ : SlV u := hIO.1.slv
  obtain ⟨x0, x1, x2, x3⟩ := hX.c4
  clear hX hIO hR hK
  go_wp2_with fail
  refine (HS.out _ _ HK.out).mono ?_; rintro e w3 ⟨q, rfl, hq, k3⟩
  have HT2 := Lib.hid (HT.out q hq)
  have HP2 : Hid (q = true → posI l r.item < l.length) := Lib.hid (fun hh => HPL.out (hq.1 hh))
  have K3 := Lib.hid (HK.out.trans k3)
  have X3 := Lib.hid (k3.own HX.out (by simp))
  have R3 := Lib.hid (k3.own HR.out (by simp))
  have I3 := Lib.hid (And.intro (HIO.out.1.kept0 k3) HIO.out.2)
  obtain ⟨x0, x1, x2, x3⟩ := X3.out.c4
  obtain ⟨y0, y1, y2, y3, y4⟩ := R3.out.k5
  clear hq HT HPL
  cases q with
  | true =>
   have hp := HP2.out rfl
   cases turns with
   | true =>
    have HE : Hid (comesX l r.item next most true = (setI l (posI l r.item) r.item, 0)) := Lib.hid (by rw [HT2.out]; rfl)
    go_wp2_with fail
    refine (HCL.out _ K3.out).mono ?_; rintro e w4 ⟨v4, rfl, r4, k4⟩
    have K4 := Lib.hid (K3.out.trans k4)
    have X4 := Lib.hid (k4.own X3.out (by simp))
    have I4 := Lib.hid (I3.out.1.kept0 k4)
    obtain ⟨x0, x1, x2, x3⟩ := X4.out.c4
    rcases r4.2 with ⟨_, h0⟩ | ⟨g, cap, cur0, rfl, hb, hg, hnc, hcm, hcs, htake⟩
    ·omega
    ·obtain ⟨cur, rfl⟩ : ∃ cur : List Value, cur0 = cur.toArray := ⟨cur0.toList, by simp⟩
     have o4 : Own w4 g cur.toArray 113 := hg
     have hcl : cur.length = cap * 4 := by simpa using hcs
     have htk : cur.take (l.length * 4) = icells vs := by simpa using htake
     have hput := row_put o4 hb hnc hcm hcl hp (.int .u32 r.id) (.string (bs r.name)) (.int .i64 r.size) (.slice pu nu cu)
     rw [htk] at hput
     have hgx : xb ≠ g := fun e => by
      have h1 := X3.out.lt
      omega
     have hkk : Kept [] w (w4.setCells g (posI l r.item * 4) [.int .u32 r.id, .string (bs r.name), .int .i64 r.size, .slice pu nu cu]) := kept_setL (Or.inr (by have := K3.out.size; omega)) _ _ K4.out
     have hio : ItemOk (w4.setCells g (posI l r.item * 4) [.int .u32 r.id, .string (bs r.name), .int .i64 r.size, .slice pu nu cu]) (r.item, .slice pu nu cu) := by
      have hk4 : Kept [g] w4 (w4.setCells g (posI l r.item * 4) [.int .u32 r.id, .string (bs r.name), .int .i64 r.size, .slice pu nu cu]) := kept_setL (Or.inl (by simp)) _ _ (Kept.refl _ _)
      have h1 : RunsIn w4 (.slice pu nu cu) r.item.runs 0 w3.heap.size := RunsIn.kept0 I3.out.1.1 k4
      exact ⟨(h1.kept hk4 (fun x hx => by
        have : x = g := by simpa using hx
        subst this; exact Or.inr hb)).upto, I3.out.1.2⟩
     have hres := HPUT.out _ w3.heap.size _ (.slice pu nu cu) (fun x hx => Nat.lt_of_lt_of_le (HSX.out x hx) K3.out.size) hp hput ⟨hio, I3.out.2⟩ hkk
     have HRES := Lib.hid hres
     have HKK := Lib.hid hkk
     have hc4 : ∀ j, j < 4 → posI l r.item * 4 + j < cur.length := fun j hj => by omega
     obtain ⟨q0, z0⟩ : ∃ q, w4.cell? ⟨g, posI l r.item * 4, none⟩ = some q := ⟨_, o4.listC (posI l r.item * 4) (by have := hc4 0 (by omega); omega)⟩
     obtain ⟨q1, z1⟩ : ∃ q, w4.cell? ⟨g, posI l r.item * 4 + 1, none⟩ = some q := ⟨_, o4.listC (posI l r.item * 4 + 1) (hc4 1 (by omega))⟩
     obtain ⟨q2, z2⟩ : ∃ q, w4.cell? ⟨g, posI l r.item * 4 + 2, none⟩ = some q := ⟨_, o4.listC (posI l r.item * 4 + 2) (hc4 2 (by omega))⟩
     obtain ⟨q3, z3⟩ : ∃ q, w4.cell? ⟨g, posI l r.item * 4 + 3, none⟩ = some q := ⟨_, o4.listC (posI l r.item * 4 + 3) (hc4 3 (by omega))⟩
     have f0 := o4.free (posI l r.item * 4)
     have f1 := o4.free (posI l r.item * 4 + 1)
     have f2 := o4.free (posI l r.item * 4 + 2)
     have f3 := o4.free (posI l r.item * 4 + 3)
     have i1 : (posI l r.item : Int) < l.length := by omega
     have i2 : (l.length : Int) ≤ cap := by omega
     clear hres hkk hio hput hc4 o4 hg r4 htk htake hcs hcl
     go_wp2_with fail
     go_ret2
     exact comesSays_of HE.out HRES.out HKK.out
   | false =>
    have HE : Hid (comesX l r.item next most false = ([], 252)) := Lib.hid (by rw [HT2.out]; rfl)
    go_wp2_with fail
    go_ret2
    exact comesSays_of HE.out (ItemsOff.nil _ _) K3.out
  | false =>
   by_cases g1 : r.id < next
   ·have HE : Hid (comesX l r.item next most turns = ([], 252)) := Lib.hid (by rw [HT2.out]; unfold comesT; rw [show (decide (r.item.id < next)) = true from decide_eq_true g1]; rfl)
    go_wp2_with fail
    go_ret2
    exact comesSays_of HE.out (ItemsOff.nil _ _) K3.out
   ·by_cases g2 : most ≤ l.length
    ·have HE : Hid (comesX l r.item next most turns = ([], 240)) := Lib.hid (by rw [HT2.out]; unfold comesT; rw [show (decide (r.item.id < next)) = false from decide_eq_false g1, decide_eq_true g2]; rfl)
     have i1 : (most : Int) ≤ l.length := by omega
     go_wp2_with fail
     go_ret2
     exact comesSays_of HE.out (ItemsOff.nil _ _) K3.out
    ·have HE : Hid (comesX l r.item next most turns = (insI l r.item, 0)) := Lib.hid (by rw [HT2.out]; unfold comesT; rw [show (decide (r.item.id < next)) = false from decide_eq_false g1, decide_eq_false g2]; rfl)
     have i1 : ¬ (most : Int) ≤ l.length := by omega
     go_wp2_with fail
     refine (HI.out _ _ K3.out I3.out).mono ?_; rintro e w4 ⟨v4, rfl, h4, k4⟩
     have H4 := Lib.hid h4
     have K4 := Lib.hid (K3.out.trans k4)
     clear h4
     go_wp2_with fail
     go_ret2
     exact comesSays_of HE.out H4.out K4.out
theorem posI_congr {x y : JItem} (h : eqK x y = true) (l : List JItem) : posI l x = posI l y := by
 unfold posI
 congr 2
 funext a
 exact ltI_congr_r h
theorem idxK_congr {x y : JItem} (h : eqK x y = true) (l : List JItem) : idxK l x = idxK l y := by
 unfold idxK
 congr 2
 funext a
 rw [eqK_congr_r h]
theorem hasK_congr {x y : JItem} (h : eqK x y = true) (l : List JItem) : hasK l x ↔ hasK l y := by
 unfold hasK; rw [idxK_congr h]
theorem ItemsIn.del_in {S : Nat → Prop} {w w' : World} {base : Nat} {v : Value} {vs : List (JItem × Value)} {i : Nat} (hi : i < vs.length) (h : w'.ownsRow base 113 4 v (vs.length - 1) ((icells vs).take (i * 4) ++ (icells vs).drop ((i + 1) * 4))) (hS : ∀ x, S x → x < base) (h3 : ∀ y ∈ vs, ItemOk w y ∧ OffV S y.2 y.1.runs.length) (k : Kept [] w w') : ItemsOff S w' v (delI (vs.map (·.1)) i) := by
 have em : (vs.take i ++ vs.drop (i + 1)).map (·.1) = delI (vs.map (·.1)) i := by
  unfold delI
  rw [List.map_append, List.map_take, List.map_drop]
 rw [← em]
 refine ItemsOff.of_own (base := base) ?_ hS (fun y hy => ?_)
 ·have e1 : (vs.take i ++ vs.drop (i + 1)).length = vs.length - 1 := by
   rw [List.length_append, List.length_take, List.length_drop]; omega
  rw [e1, icells_append, ← icells_take, ← icells_drop]
  exact h
 ·rcases List.mem_append.1 hy with hy | hy
  ·have := h3 y (List.mem_of_mem_take hy); exact ⟨this.1.kept0 k, this.2⟩
  ·have := h3 y (List.mem_of_mem_drop hy); exact ⟨this.1.kept0 k, this.2⟩
set_option maxRecDepth 100000 in
set_option maxHeartbeats 4000000 in
theorem zgoes {S : Nat → Prop} (v : Value) (l : List JItem) (r : JRec) (rv : Value) (w : World) (h : ItemsOff S w v l) (hS : ∀ x, S x → x < w.heap.size) (hl : l.length ≤ 100000) (hr : Rise l) (hs : SlV rv) :
  Calls Tryz.prog 172 #[v, .agg (r.cells rv)] w (ComesSays S (goesX l r.item) w) := by
 have hek : eqK (⟨r.id, r.name, 0, []⟩ : JItem) r.item = true := by unfold eqK JRec.item; simp
 have HS : Hid (∀ W, Kept [] w W → Calls Tryz.prog 234 #[v, .agg #[.int .u32 r.id, .string (bs r.name), .int .i64 0, .slice none 0 0], .func (.func 233) #[] #[]] W fun e w' => ∃ q, e = .returned (.tuple #[.int .i64 (posI l r.item), .bool q]) ∧ (q = true ↔ hasK l r.item) ∧ Kept [] W w') := Lib.hid (fun W q => by
  have hh := zseek v l ⟨r.id, r.name, 0, []⟩ (.slice none 0 0) W (h.plain.kept0 q) (by omega) hr
  unfold SeekSays at hh
  rw [posI_congr hek, hasK_congr hek] at hh
  exact hh)
 have HSX := Lib.hid hS
 have HG0 : Hid (¬ hasK l r.item → goesX l r.item = ([], 6)) := Lib.hid (fun hh => by unfold goesX; rw [if_neg hh])
 have HG1 : Hid (hasK l r.item → goesX l r.item = (delI l (posI l r.item), 0) ∧ posI l r.item < l.length) := Lib.hid (fun hh => by
  unfold goesX; rw [if_pos hh, posI_idx hr hh]; exact ⟨rfl, hh⟩)
 obtain ⟨vs, hvs, hraw, hok, _⟩ := h
 have hlv : vs.length = l.length := by rw [← hvs, List.length_map]
 have hslv : ∀ y ∈ vs, SlV y.2 := fun y hy => (hok y hy).1.slv
 have HCL : Hid (∀ W, Kept [] w W → Calls Tryz.prog 127 #[v] W fun e w' => ∃ v', e = .returned v' ∧ w'.ownsRow W.heap.size 113 4 v' l.length (icells vs) ∧ Kept [] W w') := Lib.hid (fun W q => by rw [← hlv]; exact zclone v vs.length (icells vs) W (hraw.kept0 q) (icells_one hslv) (by omega))
 have HD : Hid (∀ W v' base, W.ownsRow base 113 4 v' l.length (icells vs) → posI l r.item < l.length → Calls Tryz.prog 236 #[v', .int .i64 (posI l r.item), .int .i64 ((posI l r.item + 1 : Nat) : Int)] W (RowSays base v' (l.length - 1) ((icells vs).take (posI l r.item * 4) ++ (icells vs).drop ((posI l r.item + 1) * 4)) W)) := Lib.hid (fun W v' base ho hp => zdelete base v' l.length (icells vs) _ _ W ho (icells_one hslv) hp rfl)
 have HIN : Hid (∀ w' base v', (∀ x, S x → x < base) → posI l r.item < l.length → w'.ownsRow base 113 4 v' (l.length - 1) ((icells vs).take (posI l r.item * 4) ++ (icells vs).drop ((posI l r.item + 1) * 4)) → Kept [] w w' → ItemsOff S w' v' (delI l (posI l r.item))) := Lib.hid (fun w' base v' hSb hp ho k => by
  rw [← hvs] at hp ho ⊢
  rw [List.length_map] at hp ho
  exact ItemsIn.del_in hp ho hSb hok k)
 obtain ⟨pv, cv, rfl⟩ := hraw.shape
 rw [hlv] at HS HCL ⊢
 obtain ⟨prr, nrr, crr, rfl⟩ := hs
 have oR := Own.new w (r.cells (.slice prr nrr crr)) 102
 have k0 : Kept [] w (w.alloc (.cells (r.cells (.slice prr nrr crr)) 102)) := (Kept.refl _ _).alloc _
 unfold JRec.cells at oR k0 ⊢
 obtain ⟨x0, x1, x2, x3, x4⟩ := oR.k5
 have K0 := Lib.hid k0
 have j1 : (l.length : Int) ≤ 1000000 := by omega
 clear oR k0 hraw hok hslv hlv hvs hr hek hS
 unfold RowSays at HD
 go_enter Tryz.func172, Tryz.ntmps172
 go_wp2_with fail
 refine (HS.out _ K0.out).mono ?_; rintro e w3 ⟨q, rfl, hq, k3⟩
 have K3 := Lib.hid (K0.out.trans k3)
 have HQ := Lib.hid hq
 clear hq
 cases q with
 | false =>
  have HE := Lib.hid (HG0.out (fun hh => by have := HQ.out.2 hh; cases this))
  go_wp2_with fail
  go_ret2
  exact comesSays_of HE.out (ItemsOff.nil _ _) K3.out
 | true =>
  obtain ⟨he, hp⟩ := HG1.out (HQ.out.1 rfl)
  have HE := Lib.hid he
  have HP := Lib.hid hp
  have hcast : ((posI l r.item : Nat) : Int) + 1 = ((posI l r.item + 1 : Nat) : Int) := by omega
  have hw1 : IntKind.i64.wrap ((posI l r.item + 1 : Nat) : Int) = ((posI l r.item + 1 : Nat) : Int) := by rw [IntKind.wrap_i64]; omega
  clear he hp
  generalize posI l r.item + 1 = P1 at *
  go_wp2_with fail
  refine (HCL.out _ K3.out).mono ?_; rintro e w4 ⟨v4, rfl, r4, k4⟩
  have K4 := Lib.hid (K3.out.trans k4)
  have R4 := Lib.hid r4
  obtain ⟨p4, c4, rfl⟩ := own_shape r4
  clear r4
  go_wp2_with fail
  refine (HD.out _ _ _ R4.out HP.out).mono ?_; rintro e w5 ⟨v5, rfl, r5, hk5⟩
  have hk6 := kept_row K4.out (fun g hg => by have h1 := (World.ownsRow.lt R4.out g hg).1; have h2 := K3.out.size; omega) hk5
  have h5 := HIN.out _ w3.heap.size _ (fun x hx => Nat.lt_of_lt_of_le (HSX.out x hx) K3.out.size) HP.out r5 hk6
  have H5 := Lib.hid h5
  have K6 := Lib.hid hk6
  clear h5 hk6 r5 hk5
  go_wp2_with fail
  go_ret2
  exact comesSays_of HE.out H5.out K6.out
end Go.Proofs.YtdkimcnlhmhpgaaGreat
