/- -/
import Derived.Test.YtdkimcnlhmhpgaaGreatH10
import Derived.Test.YtdkimcnlhmhpgaaGreatH19
import Derived.Test.YtdkimcnlhmhpgaaGreatH20
set_option linter.unusedVariables false
set_option linter.unusedSimpArgs false
namespace Go.Proofs.YtdkimcnlhmhpgaaGreat
open Go.RowKit
def OffV (S : Nat → Prop) (v : Value) (n : Nat) : Prop := ∀ g off sp n' c, v = .slice (some ⟨g, off, sp⟩) n' c → 0 < n → ¬ S g
def ItemsOff (S : Nat → Prop) (w : World) (v : Value) (l : List JItem) : Prop := ∃ vs : List (JItem × Value), vs.map (·.1) = l ∧ RawIn w v vs.length 4 (icells vs) ∧ (∀ x ∈ vs, ItemOk w x ∧ OffV S x.2 x.1.runs.length) ∧ OffV S v vs.length
theorem ItemsOff.plain {S : Nat → Prop} {w : World} {v : Value} {l : List JItem} (h : ItemsOff S w v l) : ItemsIn w v l := by
 obtain ⟨vs, h1, h2, h3, _⟩ := h
 exact ⟨vs, h1, h2, fun x hx => (h3 x hx).1⟩
theorem RunsIn.off {w : World} {v : Value} {l : List (Int × Int)} {lo hi : Nat} {S : Nat → Prop} (h : RunsIn w v l lo hi) (hS : ∀ x, S x → w.heap.size ≤ x) : OffV S v l.length := by
 intro g off sp n c e hn hg
 rcases h with ⟨h, _⟩ | ⟨b, off', c', e', _, _, h4, h5, _⟩
 ·rw [h] at hn; simp at hn
 ·rw [e'] at e
  injection e with e
  injection e with e
  injection e with e
  subst e
  have := hS _ hg
  omega
theorem ItemsOff.kept0 {S : Nat → Prop} {w w' : World} {v : Value} {l : List JItem} (h : ItemsOff S w v l) (k : Kept [] w w') : ItemsOff S w' v l := by
 obtain ⟨vs, h1, h2, h3, h4⟩ := h
 exact ⟨vs, h1, h2.kept0 k, fun x hx => ⟨(h3 x hx).1.kept0 k, (h3 x hx).2⟩, h4⟩
theorem RawIn.keptT {w w' : World} {v : Value} {n k : Nat} {xs : List Value} {S : Nat → Prop} {T : List Nat} (h : RawIn w v n k xs) (q : Kept T w w') (ho : OffV S v n) (hT : ∀ x ∈ T, S x) : RawIn w' v n k xs := by
 refine ⟨h.1, ?_⟩
 rcases h.2 with h2 | ⟨b, off, c, e, h3, h4, h5⟩
 ·exact Or.inl h2
 ·exact Or.inr ⟨b, off, c, e, fun j u hj => (q.cell (by exact h4) (fun hb => ho _ _ _ _ _ e h5.1 (hT _ hb))).trans (h3 j u hj), Nat.lt_of_lt_of_le h4 q.size, h5⟩
theorem RunsIn.keptT {w w' : World} {v : Value} {l : List (Int × Int)} {lo hi : Nat} {S : Nat → Prop} {T : List Nat} (h : RunsIn w v l lo hi) (q : Kept T w w') (ho : OffV S v l.length) (hT : ∀ x ∈ T, S x) : RunsIn w' v l lo hi := by
 rcases h with h | ⟨b, off, c, h1, h2, h3, h4, h5, h6, h7⟩
 ·exact Or.inl h
 ·have hn : 0 < l.length := List.length_pos_iff.2 h6
  have hb : b ∉ T := fun hb => ho _ _ _ _ _ h1 hn (hT _ hb)
  refine Or.inr ⟨b, off, c, h1, fun i hi => ?_, h3, h4, Nat.le_trans h5 q.size, h6, h7⟩
  obtain ⟨x, y⟩ := h2 i hi
  exact ⟨(q.cell (by show b < _; omega) hb).trans x, (q.cell (by show b < _; omega) hb).trans y⟩
theorem ItemsOff.keptT {S : Nat → Prop} {T : List Nat} {w w' : World} {v : Value} {l : List JItem} (h : ItemsOff S w v l) (k : Kept T w w') (hT : ∀ x ∈ T, S x) : ItemsOff S w' v l := by
 obtain ⟨vs, h1, h2, h3, h4⟩ := h
 exact ⟨vs, h1, h2.keptT k h4 hT, fun x hx => ⟨⟨((h3 x hx).1.1.keptT k (h3 x hx).2 hT).upto, (h3 x hx).1.2⟩, (h3 x hx).2⟩, h4⟩
theorem ItemsOff.nil (S : Nat → Prop) (w : World) : ItemsOff S w (.slice none 0 0) [] := ⟨[], rfl, ⟨rfl, Or.inl ⟨rfl, none, 0, rfl⟩⟩, fun x hx => (by cases hx), fun g off sp n c e => (by injection e with e; cases e)⟩
theorem OffV.row {S : Nat → Prop} {w : World} {base : Nat} {e : TypeId} {k n : Nat} {v : Value} {xs : List Value} (h : w.ownsRow base e k v n xs) (hS : ∀ x, S x → x < base) (m : Nat) : OffV S v m := by
 intro g off sp n' c ev _ hg
 have h1 := World.ownsRow.lt h g (by rw [ev]; rcases h.2 with ⟨e1, _⟩ | ⟨g2, cap, cur, e1, _⟩; (rw [e1] at ev; cases ev); (rw [e1] at ev; injection ev with ev; injection ev with ev; injection ev with ev; subst ev; rfl))
 have := hS _ hg
 omega
theorem ItemsOff.of_own {S : Nat → Prop} {w : World} {base : Nat} {v : Value} {vs : List (JItem × Value)} (h : w.ownsRow base 113 4 v vs.length (icells vs)) (hS : ∀ x, S x → x < base) (h3 : ∀ x ∈ vs, ItemOk w x ∧ OffV S x.2 x.1.runs.length) : ItemsOff S w v (vs.map (·.1)) := ⟨vs, rfl, RawIn.of_own h, h3, OffV.row h hS _⟩
def GivesI (S : Nat → Prop) (l : List JItem) (w : World) (e : Ending) (w' : World) : Prop := ∃ v, e = .returned v ∧ ItemsOff S w' v l ∧ Kept [] w w'
def vcells (x : JItem) (xv : Value) : List Value := [.int .u32 x.id, .string (bs x.name), .int .i64 x.size, xv]
theorem vcells_one (x : JItem) {xv : Value} (h : SlV xv) : ∀ u ∈ vcells x xv, u.oneCell' = true := by
 intro u hu
 obtain ⟨p, n, c, rfl⟩ := h
 simp [vcells] at hu
 rcases hu with rfl | rfl | rfl | rfl <;> rfl
theorem map_ins {vs : List (JItem × Value)} {x : JItem} {xv : Value} : (vs.take (posI (vs.map (·.1)) x) ++ [(x, xv)] ++ vs.drop (posI (vs.map (·.1)) x)).map (·.1) = insI (vs.map (·.1)) x := by
 unfold insI
 rw [List.map_append, List.map_append, List.map_take, List.map_drop]
 simp
theorem ItemsIn.set_in {S : Nat → Prop} {w w' : World} {base : Nat} {v : Value} {vs : List (JItem × Value)} {x : JItem} {xv : Value} (h : w'.ownsRow base 113 4 v (vs.length + 1) ((icells vs).take (posI (vs.map (·.1)) x * 4) ++ vcells x xv ++ (icells vs).drop (posI (vs.map (·.1)) x * 4))) (hS : ∀ x, S x → x < base) (h3 : ∀ y ∈ vs, ItemOk w y ∧ OffV S y.2 y.1.runs.length) (hx : ItemOk w (x, xv) ∧ OffV S xv x.runs.length) (k : Kept [] w w') : ItemsOff S w' v (insI (vs.map (·.1)) x) := by
 rw [← map_ins (xv := xv)]
 refine ItemsOff.of_own (base := base) ?_ hS (fun y hy => ?_)
 ·have hle := posI_le (vs.map (·.1)) x
  rw [List.length_map] at hle
  have e1 : (vs.take (posI (vs.map (·.1)) x) ++ [(x, xv)] ++ vs.drop (posI (vs.map (·.1)) x)).length = vs.length + 1 := by
   rw [List.length_append, List.length_append, List.length_take, List.length_drop, List.length_singleton]; omega
  rw [e1, icells_append, icells_append, ← icells_take, ← icells_drop]
  exact h
 ·rcases List.mem_append.1 hy with hy | hy
  ·rcases List.mem_append.1 hy with hy | hy
   ·have := h3 y (List.mem_of_mem_take hy); exact ⟨this.1.kept0 k, this.2⟩
   ·have : y = (x, xv) := by simpa using hy
    subst this; exact ⟨hx.1.kept0 k, hx.2⟩
  ·have := h3 y (List.mem_of_mem_drop hy); exact ⟨this.1.kept0 k, this.2⟩
theorem own_row_kept {W W' : World} {v : Value} {b : Nat} {cs : Array Value} {t : TypeId} (o : Own W b cs t) (h : ∀ g, v.ownBlock = some g → b < g) (hk : ∀ S, (∀ g, v.ownBlock = some g → g ∈ S) → Kept S W W') : Own W' b cs t := by
 cases hb : v.ownBlock with
 | none => exact (hk [] (fun g hg => by rw [hb] at hg; cases hg)).own o (by simp)
 | some g =>
  have := h g hb
  exact (hk [g] (fun g' hg => by rw [hb] at hg; injection hg with hg; simp [hg])).own o (by simp; omega)
theorem kept_row {w W W' : World} {v : Value} (k : Kept [] w W) (h : ∀ g, v.ownBlock = some g → w.heap.size ≤ g) (hk : ∀ S, (∀ g, v.ownBlock = some g → g ∈ S) → Kept S W W') : Kept [] w W' := by
 cases hb : v.ownBlock with
 | none => exact k.call (hk [] (fun g hg => by rw [hb] at hg; cases hg)) (fun x hx => by cases hx)
 | some g =>
  refine k.call (hk [g] (fun g' hg => by rw [hb] at hg; injection hg with hg; simp [hg])) (fun x hx => ?_)
  have : x = g := by simpa using hx
  subst this
  exact Or.inr (h _ hb)
set_option maxRecDepth 100000 in
set_option maxHeartbeats 4000000 in
theorem zins {S : Nat → Prop} (v : Value) (l : List JItem) (x : JItem) (xv : Value) (w : World) (h : ItemsOff S w v l) (hS : ∀ x, S x → x < w.heap.size) (hl : l.length ≤ 100000) (hr : Rise l) (hx : ItemOk w (x, xv) ∧ OffV S xv x.runs.length) :
  Calls Tryz.prog 235 #[v, .agg (x.cells xv), .func (.func 233) #[] #[]] w (GivesI S (insI l x) w) := by
 have hs := fun W (q : Kept [] w W) => zseek v l x xv W (h.plain.kept0 q) (by omega) hr
 unfold SeekSays at hs
 have hple := posI_le l x
 obtain ⟨vs, rfl, hraw, hok, _⟩ := h
 rw [List.length_map] at hl hple
 have hslv : ∀ y ∈ vs, SlV y.2 := fun y hy => (hok y hy).1.slv
 have hcl := fun W (q : Kept [] w W) => zclone v vs.length (icells vs) W (hraw.kept0 q) (icells_one hslv) (by omega)
 obtain ⟨px, nx, cx, rfl⟩ : SlV xv := hx.1.slv
 have hin : Hid (∀ W v' vb, Kept [] w W → W.ownsRow w.heap.size 113 4 v' vs.length (icells vs) → Own W vb #[.int .u32 x.id, .string (bs x.name), .int .i64 x.size, .slice px nx cx] 113 → v'.ownBlock ≠ some vb → Calls Tryz.prog 270 #[v', .int .i64 (posI (vs.map (·.1)) x), .slice (some ⟨vb, 0, none⟩) 1 1] W (RowSays w.heap.size v' (vs.length + 1) ((icells vs).take (posI (vs.map (·.1)) x * 4) ++ vcells x (.slice px nx cx) ++ (icells vs).drop (posI (vs.map (·.1)) x * 4)) W)) :=
  fun W v' vb q hro hov hne => zinsert w.heap.size v' vs.length (icells vs) _ W vb (vcells x (.slice px nx cx)) hro q.size (icells_one hslv) hple (by omega) hov rfl (vcells_one x ⟨_, _, _, rfl⟩) hne
 have hend : Hid (∀ W v', Kept [] w W → W.ownsRow w.heap.size 113 4 v' (vs.length + 1) ((icells vs).take (posI (vs.map (·.1)) x * 4) ++ vcells x (.slice px nx cx) ++ (icells vs).drop (posI (vs.map (·.1)) x * 4)) → GivesI S (insI (vs.map (·.1)) x) w (.returned v') W) := fun W v' q hro => ⟨v', rfl, ItemsIn.set_in hro hS hok hx q, q⟩
 have HS := Lib.hid hs
 have HCL := Lib.hid hcl
 obtain ⟨pv, cv, rfl⟩ := hraw.shape
 unfold RowSays at hin
 have oX := Own.new w (x.cells (.slice px nx cx)) 113
 have k0 : Kept [] w (w.alloc (.cells (x.cells (.slice px nx cx)) 113)) := (Kept.refl _ _).alloc _
 unfold JItem.cells at oX k0 HS ⊢
 obtain ⟨x0, x1, x2, x3⟩ := oX.c4
 have OX := Lib.hid oX
 have K0 := Lib.hid k0
 clear hs hcl hslv hok hx hple hS oX k0 hraw hr
 generalize posI (vs.map (·.1)) x = P at *
 generalize insI (vs.map (·.1)) x = IL at *
 generalize vs.length = L at *
 generalize icells vs = IC at *
 go_enter Tryz.func235, Tryz.ntmps235
 go_wp2_with fail
 refine (HS.out _ K0.out).mono ?_; rintro e w2 ⟨q, rfl, hq, k2⟩
 have K2 := Lib.hid (K0.out.trans k2)
 have o2 := k2.own OX.out (by simp)
 have O2 := Lib.hid o2
 obtain ⟨x0, x1, x2, x3⟩ := o2.c4
 clear hq o2
 go_wp2_with fail
 refine wp_region_held_drew (S := (fun W => W.cell? ⟨w.heap.size, 0, none⟩ = some (.int .u32 x.id) ∧ W.cell? ⟨w.heap.size, 1, none⟩ = some (.string (bs x.name)) ∧ W.cell? ⟨w.heap.size, 2, none⟩ = some (.int .i64 x.size) ∧ W.cell? ⟨w.heap.size, 3, none⟩ = some (.slice px nx cx))) (by kernel_rfl) (by exact O2.out.drew.c4) (fun hHeld => ?_)
 refine take_at (i := 0) (d := some 16) (v := ?_) rfl rfl (by kernel_rfl) (by kernel_rfl) (by kernel_rfl) (fun _ _ _ h => h) (Or.inl ⟨by rfl, ?_⟩) (by assumption) ?_
 rotate_left
 ·(intro w hSw; (try dsimp only at hSw); go_simp; try with_reducible rfl)
 try simp only [Act.put, List.setIfInBounds_toArray, List.set_cons_zero, List.set_cons_succ]
 refine take_at (i := 2) (d := some 18) (v := ?_) rfl rfl (by kernel_rfl) (by kernel_rfl) (by kernel_rfl) (fun _ _ _ h => h) (Or.inl ⟨by rfl, ?_⟩) (by assumption) ?_
 rotate_left
 ·(intro w hSw; (try dsimp only at hSw); go_simp; try with_reducible rfl)
 try simp only [Act.put, List.setIfInBounds_toArray, List.set_cons_zero, List.set_cons_succ]
 refine take_at (i := 3) (d := some 19) (v := ?_) rfl rfl (by kernel_rfl) (by kernel_rfl) (by kernel_rfl) (fun _ _ _ h => h) (Or.inl ⟨by rfl, ?_⟩) (by assumption) ?_
 rotate_left
 ·(intro w hSw; (try dsimp only at hSw); go_simp; try with_reducible rfl)
 try simp only [Act.put, List.setIfInBounds_toArray, List.set_cons_zero, List.set_cons_succ]
 refine wpAnyH_ready (rs := [1, 4]) (by kernel_rfl) (by simp) ?_
 refine (AllReadyH.cons rfl (fun K hK => ?_) (AllReadyH.cons rfl (fun K hK => ?_) AllReadyH.nil))
 ·go_simp
  ((with_reducible refine (HCL.out _ K2.out.drew).mono ?_)); rintro e w5 ⟨v5, rfl, r5, k5⟩
  have K5 := Lib.hid (K2.out.drew.trans k5)
  have o5 := k5.own O2.out.drew (by simp)
  have O5 := Lib.hid o5
  have R5 := Lib.hid r5
  clear r5 o5
  go_wp2_with fail
  refine hK.out _ _ ?_ (fun hHeld => ?_)
  ·exact O5.out.c4
  clear hK K
  try simp only [Act.put, List.setIfInBounds_toArray, List.set_cons_zero, List.set_cons_succ]
  refine wpAnyH_ready (rs := [4]) (by kernel_rfl) (by simp) ?_
  refine (AllReadyH.cons rfl (fun K hK => ?_) AllReadyH.nil)
  go_simp
  refine hK.out _ _ ?_ (fun hHeld => ?_)
  ·go_keep
  clear hK K
  try simp only [Act.put, List.setIfInBounds_toArray, List.set_cons_zero, List.set_cons_succ]
  have hov := Own.new w5 #[.int .u32 x.id, .string (bs x.name), .int .i64 x.size, .slice px nx cx] 113
  have hlt5 := World.ownsRow.lt R5.out
  have hro6 := World.ownsRow.alloc (ownsRow_base R5.out K2.out.size) (.cells #[.int .u32 x.id, .string (bs x.name), .int .i64 x.size, .slice px nx cx] 113)
  have hne : v5.ownBlock ≠ some w5.heap.size := fun e => by have := (hlt5 _ e).2; omega
  have hins := hin.out _ v5 _ (K5.out.alloc _) hro6 hov hne
  have HINS := Lib.hid hins
  have HR6 := Lib.hid (World.ownsRow.lt hro6)
  have HLT6 : Hid (∀ g, v5.ownBlock = some g → w.heap.size < g) := Lib.hid (fun g hg => by have h1 := (hlt5 g hg).1; have h2 := O2.out.lt; simp at h1; omega)
  clear hov hlt5 hro6 hne hins
  refine wpAnyH_ready (rs := [5]) (by kernel_rfl) (by simp) ?_
  refine (AllReadyH.cons rfl (fun K hK => ?_) AllReadyH.nil)
  go_simp
  ((with_reducible refine HINS.out.mono ?_)); rintro e w7 ⟨v7, rfl, hro7, hk7⟩
  have K7 : Hid (Kept [] w w7) := Lib.hid (kept_row (K5.out.alloc _) (fun g hg => (HR6.out g hg).1) hk7)
  go_wp2_with fail
  refine hK.out _ _ ?_ (fun hHeld => ?_)
  ·exact (own_row_kept (O5.out.alloc _) (fun g hg => HLT6.out g hg) hk7).c4
  clear hK K
  try simp only [Act.put, List.setIfInBounds_toArray, List.set_cons_zero, List.set_cons_succ]
  refine take_at (i := 6) (d := some 6) (v := ?_) rfl rfl (by kernel_rfl) (by kernel_rfl) (by kernel_rfl) (fun _ _ _ h => h) (Or.inl ⟨by rfl, ?_⟩) (by assumption) ?_
  rotate_left
  ·(intro w hSw; (try dsimp only at hSw); go_simp; try with_reducible rfl)
  try simp only [Act.put, List.setIfInBounds_toArray, List.set_cons_zero, List.set_cons_succ]
  refine wpAnyH_done (by kernel_rfl) ?_ _
  go_wp2_with fail
  go_ret
  exact hend.out _ _ K7.out hro7
 ·go_simp
  refine hK.out _ _ ?_ (fun hHeld => ?_)
  ·go_keep
  clear hK K
  try simp only [Act.put, List.setIfInBounds_toArray, List.set_cons_zero, List.set_cons_succ]
  have hov := Own.drew (Own.new w2 #[.int .u32 x.id, .string (bs x.name), .int .i64 x.size, .slice px nx cx] 113)
  have HOV := Lib.hid hov
  have KB : Hid (Kept [] w (w2.alloc (.cells #[.int .u32 x.id, .string (bs x.name), .int .i64 x.size, .slice px nx cx] 113)).drew) := Lib.hid ((K2.out.alloc _).drew)
  have OB : Hid (Own (w2.alloc (.cells #[.int .u32 x.id, .string (bs x.name), .int .i64 x.size, .slice px nx cx] 113)).drew w.heap.size #[.int .u32 x.id, .string (bs x.name), .int .i64 x.size, .slice px nx cx] 113) := Lib.hid ((O2.out.alloc _).drew)
  clear hov
  refine wpAnyH_ready (rs := [1]) (by kernel_rfl) (by simp) ?_
  refine (AllReadyH.cons rfl (fun K hK => ?_) AllReadyH.nil)
  go_simp
  ((with_reducible refine (HCL.out _ KB.out).mono ?_)); rintro e w5 ⟨v5, rfl, r5, k5⟩
  have K5 := Lib.hid (KB.out.trans k5)
  have o5 := k5.own OB.out (by simp)
  have O5 := Lib.hid o5
  have hov5 := k5.own HOV.out (by simp)
  have hlt5 := World.ownsRow.lt r5
  have hne : v5.ownBlock ≠ some w2.heap.size := fun e => by have := (hlt5 _ e).1; simp at this; omega
  have hro6 := ownsRow_base r5 KB.out.size
  have hins := hin.out _ v5 _ K5.out hro6 hov5 hne
  have HINS := Lib.hid hins
  have HR6 := Lib.hid (World.ownsRow.lt hro6)
  have HLT6 : Hid (∀ g, v5.ownBlock = some g → w.heap.size < g) := Lib.hid (fun g hg => by have h1 := (hlt5 g hg).1; have h2 := O2.out.lt; simp at h1; omega)
  clear r5 o5 hov5 hlt5 hne hro6 hins
  go_wp2_with fail
  refine hK.out _ _ ?_ (fun hHeld => ?_)
  ·exact O5.out.c4
  clear hK K
  try simp only [Act.put, List.setIfInBounds_toArray, List.set_cons_zero, List.set_cons_succ]
  refine wpAnyH_ready (rs := [5]) (by kernel_rfl) (by simp) ?_
  refine (AllReadyH.cons rfl (fun K hK => ?_) AllReadyH.nil)
  go_simp
  ((with_reducible refine HINS.out.mono ?_)); rintro e w7 ⟨v7, rfl, hro7, hk7⟩
  have K7 : Hid (Kept [] w w7) := Lib.hid (kept_row K5.out (fun g hg => (HR6.out g hg).1) hk7)
  go_wp2_with fail
  refine hK.out _ _ ?_ (fun hHeld => ?_)
  ·exact (own_row_kept O5.out (fun g hg => HLT6.out g hg) hk7).c4
  clear hK K
  try simp only [Act.put, List.setIfInBounds_toArray, List.set_cons_zero, List.set_cons_succ]
  refine take_at (i := 6) (d := some 6) (v := ?_) rfl rfl (by kernel_rfl) (by kernel_rfl) (by kernel_rfl) (fun _ _ _ h => h) (Or.inl ⟨by rfl, ?_⟩) (by assumption) ?_
  rotate_left
  ·(intro w hSw; (try dsimp only at hSw); go_simp; try with_reducible rfl)
  try simp only [Act.put, List.setIfInBounds_toArray, List.set_cons_zero, List.set_cons_succ]
  refine wpAnyH_done (by kernel_rfl) ?_ _
  go_wp2_with fail
  go_ret
  exact hend.out _ _ K7.out hro7
def SmallL (l : List JItem) : Prop := l.length ≤ 1000000 ∧ ∀ a ∈ l, a.runs.length ≤ 1000000
def SmallC (c : JCat) : Prop := SmallL c.boxes ∧ SmallL c.mans ∧ SmallL c.names
def CatIn (w : World) (v : Value) (c : JCat) : Prop := ∃ vb vm vn, v = .agg #[.int .u32 c.nextBox, .int .u32 c.nextMan, vb, vm, vn] ∧ ItemsIn w vb c.boxes ∧ ItemsIn w vm c.mans ∧ ItemsIn w vn c.names ∧ (Lit.int .u32 c.nextBox).wf = true ∧ (Lit.int .u32 c.nextMan).wf = true
theorem CatIn.kept0 {w w' : World} {v : Value} {c : JCat} (h : CatIn w v c) (k : Kept [] w w') : CatIn w' v c := by
 obtain ⟨vb, vm, vn, e, h1, h2, h3, h4⟩ := h
 exact ⟨vb, vm, vn, e, h1.kept0 k, h2.kept0 k, h3.kept0 k, h4⟩
theorem Own.k5 {w : World} {b : Nat} {x0 x1 x2 x3 x4 : Value} {t : TypeId} (h : Own w b #[x0, x1, x2, x3, x4] t) : w.cell? ⟨b, 0, none⟩ = some x0 ∧ w.cell? ⟨b, 1, none⟩ = some x1 ∧ w.cell? ⟨b, 2, none⟩ = some x2 ∧ w.cell? ⟨b, 3, none⟩ = some x3 ∧ w.cell? ⟨b, 4, none⟩ = some x4 :=
 ⟨h.cell 0 (by simp), h.cell 1 (by simp), h.cell 2 (by simp), h.cell 3 (by simp), h.cell 4 (by simp)⟩
def EqSays (q : Prop) (w : World) (e : Ending) (w' : World) : Prop := ∃ b, e = .returned (.bool b) ∧ (b = true ↔ q) ∧ Kept [] w w'
theorem eqSays_no {q : Prop} (h : ¬ q) {w w' : World} (k : Kept [] w w') : EqSays q w (.returned (.bool false)) w' := ⟨false, rfl, ⟨fun h' => (by cases h'), fun h' => absurd h' h⟩, k⟩
theorem eqSays_yes {q : Prop} (h : q) {w w' : World} (k : Kept [] w w') : EqSays q w (.returned (.bool true)) w' := ⟨true, rfl, ⟨fun _ => h, fun _ => rfl⟩, k⟩
end Go.Proofs.YtdkimcnlhmhpgaaGreat
