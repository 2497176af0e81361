/- Layer 21 (catalog): an item put into a list in its place. -/
import Derived.Test.YtakdnchmehmdhaaGreatProg
import Derived.Test.YtakdnchmehmdhaaGreatG01
import Derived.Test.YtakdnchmehmdhaaGreatG03
import Derived.Test.YtakdnchmehmdhaaGreatG04
import Derived.Test.YtakdnchmehmdhaaGreatG06
import Derived.Test.YtakdnchmehmdhaaGreatG07
import Derived.WalkSpells
import Derived.Laws.AppendOwn
import Derived.WalkKit
import Derived.RegionTactic
namespace Go.Proofs.YtakdnchmehmdhaaGreat
open Go.RowKit
set_option linter.unusedVariables false
set_option linter.unusedSimpArgs false

/-- where a slice of some elements lies: not there. -/
def OffV (S : Nat → Prop) (v : Value) (n : Nat) : Prop := ∀ g off sp n' c, v = .slice (some ⟨g, off, sp⟩) n' c → 0 < n → ¬ S g
/-- a slice of items, nothing of which lies in some blocks. -/
def ItemsOff (S : Nat → Prop) (w : World) (v : Value) (l : List JItem) : Prop := ∃ vs : List (JItem × Value), vs.map (·.1) = l ∧ RawIn w v vs.length 4 (icells vs) ∧ (∀ x ∈ vs, ItemOk w x ∧ OffV S x.2 x.1.runs.length) ∧ OffV S v vs.length
theorem ItemsOff.plain {S : Nat → Prop} {w : World} {v : Value} {l : List JItem} (h : ItemsOff S w v l) : ItemsIn w v l := by
  obtain ⟨vs, h1, h2, h3, _⟩ := h
  exact ⟨vs, h1, h2, fun x hx => (h3 x hx).1⟩
theorem RunsIn.off {w : World} {v : Value} {l : List (Int × Int)} {lo hi : Nat} {S : Nat → Prop} (h : RunsIn w v l lo hi) (hS : ∀ x, S x → w.heap.size ≤ x) : OffV S v l.length := by
  intro g off sp n c e hn hg
  rcases h with ⟨h, _⟩ | ⟨b, off', c', e', _, _, h4, h5, _⟩
  · rw [h] at hn; simp at hn
  · rw [e'] at e
    injection e with e
    injection e with e
    injection e with e
    subst e
    have := hS _ hg
    omega
theorem ItemsIn.offS {S : Nat → Prop} {w : World} {v : Value} {l : List JItem} (h : ItemsIn w v l) (hS : ∀ x, S x → w.heap.size ≤ x) : ItemsOff S w v l := by
  obtain ⟨vs, h1, h2, h3⟩ := h
  refine ⟨vs, h1, h2, fun x hx => ⟨h3 x hx, (h3 x hx).1.off hS⟩, fun g off sp n c e hn hg => ?_⟩
  obtain ⟨p, c', e'⟩ := h2.shape
  rw [e'] at h2
  obtain ⟨b, off', e2, _, hb, _⟩ := h2.at_ hn
  rw [e'] at e
  injection e with e
  rw [e2] at e
  injection e with e
  injection e with e
  subst e
  have := hS _ hg
  omega
theorem ItemsOff.kept0 {S : Nat → Prop} {w w' : World} {v : Value} {l : List JItem} (h : ItemsOff S w v l) (k : Kept [] w w') : ItemsOff S w' v l := by
  obtain ⟨vs, h1, h2, h3, h4⟩ := h
  exact ⟨vs, h1, h2.kept0 k, fun x hx => ⟨(h3 x hx).1.kept0 k, (h3 x hx).2⟩, h4⟩
theorem RawIn.keptT {w w' : World} {v : Value} {n k : Nat} {xs : List Value} {S : Nat → Prop} {T : List Nat} (h : RawIn w v n k xs) (q : Kept T w w') (ho : OffV S v n) (hT : ∀ x ∈ T, S x) : RawIn w' v n k xs := by
  refine ⟨h.1, ?_⟩
  rcases h.2 with h2 | ⟨b, off, c, e, h3, h4, h5⟩
  · exact Or.inl h2
  · exact Or.inr ⟨b, off, c, e, fun j u hj => (q.cell (by exact h4) (fun hb => ho _ _ _ _ _ e h5.1 (hT _ hb))).trans (h3 j u hj), Nat.lt_of_lt_of_le h4 q.size, h5⟩
theorem RunsIn.keptT {w w' : World} {v : Value} {l : List (Int × Int)} {lo hi : Nat} {S : Nat → Prop} {T : List Nat} (h : RunsIn w v l lo hi) (q : Kept T w w') (ho : OffV S v l.length) (hT : ∀ x ∈ T, S x) : RunsIn w' v l lo hi := by
  rcases h with h | ⟨b, off, c, h1, h2, h3, h4, h5, h6, h7⟩
  · exact Or.inl h
  · have hn : 0 < l.length := List.length_pos_iff.2 h6
    have hb : b ∉ T := fun hb => ho _ _ _ _ _ h1 hn (hT _ hb)
    refine Or.inr ⟨b, off, c, h1, fun i hi => ?_, h3, h4, Nat.le_trans h5 q.size, h6, h7⟩
    obtain ⟨x, y⟩ := h2 i hi
    exact ⟨(q.cell (by show b < _; omega) hb).trans x, (q.cell (by show b < _; omega) hb).trans y⟩
theorem ItemsOff.keptT {S : Nat → Prop} {T : List Nat} {w w' : World} {v : Value} {l : List JItem} (h : ItemsOff S w v l) (k : Kept T w w') (hT : ∀ x ∈ T, S x) : ItemsOff S w' v l := by
  obtain ⟨vs, h1, h2, h3, h4⟩ := h
  exact ⟨vs, h1, h2.keptT k h4 hT, fun x hx => ⟨⟨((h3 x hx).1.1.keptT k (h3 x hx).2 hT).upto, (h3 x hx).1.2⟩, (h3 x hx).2⟩, h4⟩
theorem ItemsOff.nil (S : Nat → Prop) (w : World) : ItemsOff S w (.slice none 0 0) [] := ⟨[], rfl, ⟨rfl, Or.inl ⟨rfl, none, 0, rfl⟩⟩, fun x hx => (by cases hx), fun g off sp n c e => (by injection e with e; cases e)⟩
theorem OffV.row {S : Nat → Prop} {w : World} {base : Nat} {e : TypeId} {k n : Nat} {v : Value} {xs : List Value} (h : w.ownsRow base e k v n xs) (hS : ∀ x, S x → x < base) (m : Nat) : OffV S v m := by
  intro g off sp n' c ev _ hg
  have h1 := World.ownsRow.lt h g (by rw [ev]; rcases h.2 with ⟨e1, _⟩ | ⟨g2, cap, cur, e1, _⟩; (rw [e1] at ev; cases ev); (rw [e1] at ev; injection ev with ev; injection ev with ev; injection ev with ev; subst ev; rfl))
  have := hS _ hg
  omega
theorem ItemsOff.of_own {S : Nat → Prop} {w : World} {base : Nat} {v : Value} {vs : List (JItem × Value)} (h : w.ownsRow base 58 4 v vs.length (icells vs)) (hS : ∀ x, S x → x < base) (h3 : ∀ x ∈ vs, ItemOk w x ∧ OffV S x.2 x.1.runs.length) : ItemsOff S w v (vs.map (·.1)) := ⟨vs, rfl, RawIn.of_own h, h3, OffV.row h hS _⟩
/-- a list of items of the run's own. -/
def GivesI (S : Nat → Prop) (l : List JItem) (w : World) (e : Ending) (w' : World) : Prop := ∃ v, e = .returned v ∧ ItemsOff S w' v l ∧ Kept [] w w'
def vcells (x : JItem) (xv : Value) : List Value := [.int .u32 x.id, .string (bs x.name), .int .i64 x.size, xv]
theorem vcells_one (x : JItem) {xv : Value} (h : SlV xv) : ∀ u ∈ vcells x xv, u.oneCell' = true := by
  intro u hu
  obtain ⟨p, n, c, rfl⟩ := h
  simp [vcells] at hu
  rcases hu with rfl | rfl | rfl | rfl <;> rfl
theorem map_ins {vs : List (JItem × Value)} {x : JItem} {xv : Value} : (vs.take (posI (vs.map (·.1)) x) ++ [(x, xv)] ++ vs.drop (posI (vs.map (·.1)) x)).map (·.1) = insI (vs.map (·.1)) x := by
  unfold insI
  rw [List.map_append, List.map_append, List.map_take, List.map_drop]
  simp
theorem ItemsIn.set_in {S : Nat → Prop} {w w' : World} {base : Nat} {v : Value} {vs : List (JItem × Value)} {x : JItem} {xv : Value} (h : w'.ownsRow base 58 4 v (vs.length + 1) ((icells vs).take (posI (vs.map (·.1)) x * 4) ++ vcells x xv ++ (icells vs).drop (posI (vs.map (·.1)) x * 4))) (hS : ∀ x, S x → x < base) (h3 : ∀ y ∈ vs, ItemOk w y ∧ OffV S y.2 y.1.runs.length) (hx : ItemOk w (x, xv) ∧ OffV S xv x.runs.length) (k : Kept [] w w') : ItemsOff S w' v (insI (vs.map (·.1)) x) := by
  rw [← map_ins (xv := xv)]
  refine ItemsOff.of_own (base := base) ?_ hS (fun y hy => ?_)
  · have hle := posI_le (vs.map (·.1)) x
    rw [List.length_map] at hle
    have e1 : (vs.take (posI (vs.map (·.1)) x) ++ [(x, xv)] ++ vs.drop (posI (vs.map (·.1)) x)).length = vs.length + 1 := by
      rw [List.length_append, List.length_append, List.length_take, List.length_drop, List.length_singleton]; omega
    rw [e1, icells_append, icells_append, ← icells_take, ← icells_drop]
    exact h
  · rcases List.mem_append.1 hy with hy | hy
    · rcases List.mem_append.1 hy with hy | hy
      · have := h3 y (List.mem_of_mem_take hy); exact ⟨this.1.kept0 k, this.2⟩
      · have : y = (x, xv) := by simpa using hy
        subst this; exact ⟨hx.1.kept0 k, hx.2⟩
    · have := h3 y (List.mem_of_mem_drop hy); exact ⟨this.1.kept0 k, this.2⟩
theorem own_row_kept {W W' : World} {v : Value} {b : Nat} {cs : Array Value} {t : TypeId} (o : Own W b cs t) (h : ∀ g, v.ownBlock = some g → b < g) (hk : ∀ S, (∀ g, v.ownBlock = some g → g ∈ S) → Kept S W W') : Own W' b cs t := by
  cases hb : v.ownBlock with
  | none => exact (hk [] (fun g hg => by rw [hb] at hg; cases hg)).own o (by simp)
  | some g =>
    have := h g hb
    exact (hk [g] (fun g' hg => by rw [hb] at hg; injection hg with hg; simp [hg])).own o (by simp; omega)
theorem kept_row {w W W' : World} {v : Value} (k : Kept [] w W) (h : ∀ g, v.ownBlock = some g → w.heap.size ≤ g) (hk : ∀ S, (∀ g, v.ownBlock = some g → g ∈ S) → Kept S W W') : Kept [] w W' := by
  cases hb : v.ownBlock with
  | none => exact k.call (hk [] (fun g hg => by rw [hb] at hg; cases hg)) (fun x hx => by cases hx)
  | some g =>
    refine k.call (hk [g] (fun g' hg => by rw [hb] at hg; injection hg with hg; simp [hg])) (fun x hx => ?_)
    have : x = g := by simpa using hx
    subst this
    exact Or.inr (h _ hb)
set_option maxRecDepth 100000 in
set_option maxHeartbeats 4000000 in
theorem zins {S : Nat → Prop} (v : Value) (l : List JItem) (x : JItem) (xv : Value) (w : World) (h : ItemsOff S w v l) (hS : ∀ x, S x → x < w.heap.size) (hl : l.length ≤ 100000) (hr : Rise l) (hx : ItemOk w (x, xv) ∧ OffV S xv x.runs.length) :
    Calls Tryz.prog 125 #[v, .agg (x.cells xv), .func (.func 84) #[] #[]] w (GivesI S (insI l x) w) := by
  have hs := fun W (q : Kept [] w W) => zseek v l x xv W (h.plain.kept0 q) (by omega) hr
  unfold SeekSays at hs
  have hple := posI_le l x
  obtain ⟨vs, rfl, hraw, hok, _⟩ := h
  rw [List.length_map] at hl hple
  have hslv : ∀ y ∈ vs, SlV y.2 := fun y hy => (hok y hy).1.slv
  have hcl := fun W (q : Kept [] w W) => zclone v vs.length (icells vs) W (hraw.kept0 q) (icells_one hslv) (by omega)
  obtain ⟨px, nx, cx, rfl⟩ : SlV xv := hx.1.slv
  have hin : Hid (∀ W v' vb, Kept [] w W → W.ownsRow w.heap.size 58 4 v' vs.length (icells vs) → Own W vb #[.int .u32 x.id, .string (bs x.name), .int .i64 x.size, .slice px nx cx] 58 → v'.ownBlock ≠ some vb → Calls Tryz.prog 147 #[v', .int .i64 (posI (vs.map (·.1)) x), .slice (some ⟨vb, 0, none⟩) 1 1] W (RowSays w.heap.size v' (vs.length + 1) ((icells vs).take (posI (vs.map (·.1)) x * 4) ++ vcells x (.slice px nx cx) ++ (icells vs).drop (posI (vs.map (·.1)) x * 4)) W)) :=
    fun W v' vb q hro hov hne => zinsert w.heap.size v' vs.length (icells vs) _ W vb (vcells x (.slice px nx cx)) hro q.size (icells_one hslv) hple (by omega) hov rfl (vcells_one x ⟨_, _, _, rfl⟩) hne
  have hend : Hid (∀ W v', Kept [] w W → W.ownsRow w.heap.size 58 4 v' (vs.length + 1) ((icells vs).take (posI (vs.map (·.1)) x * 4) ++ vcells x (.slice px nx cx) ++ (icells vs).drop (posI (vs.map (·.1)) x * 4)) → GivesI S (insI (vs.map (·.1)) x) w (.returned v') W) := fun W v' q hro => ⟨v', rfl, ItemsIn.set_in hro hS hok hx q, q⟩
  have HS := Lib.hid hs
  have HCL := Lib.hid hcl
  obtain ⟨pv, cv, rfl⟩ := hraw.shape
  unfold RowSays at hin
  have oX := Own.new w (x.cells (.slice px nx cx)) 58
  have k0 : Kept [] w (w.alloc (.cells (x.cells (.slice px nx cx)) 58)) := (Kept.refl _ _).alloc _
  unfold JItem.cells at oX k0 HS ⊢
  obtain ⟨x0, x1, x2, x3⟩ := oX.c4
  have OX := Lib.hid oX
  have K0 := Lib.hid k0
  clear hs hcl hslv hok hx hple hS oX k0 hraw hr
  generalize posI (vs.map (·.1)) x = P at *
  generalize insI (vs.map (·.1)) x = IL at *
  generalize vs.length = L at *
  generalize icells vs = IC at *
  go_enter Tryz.func125, Tryz.ntmps125
  go_wp2_with fail
  refine (HS.out _ K0.out).mono ?_; rintro e w2 ⟨q, rfl, hq, k2⟩
  have K2 := Lib.hid (K0.out.trans k2)
  have o2 := k2.own OX.out (by simp)
  have O2 := Lib.hid o2
  obtain ⟨x0, x1, x2, x3⟩ := o2.c4
  clear hq o2
  go_wp2_with fail
  refine wp_region_held_drew (S := (fun W => W.cell? ⟨w.heap.size, 0, none⟩ = some (.int .u32 x.id) ∧ W.cell? ⟨w.heap.size, 1, none⟩ = some (.string (bs x.name)) ∧ W.cell? ⟨w.heap.size, 2, none⟩ = some (.int .i64 x.size) ∧ W.cell? ⟨w.heap.size, 3, none⟩ = some (.slice px nx cx))) (by kernel_rfl) (by exact O2.out.drew.c4) (fun hHeld => ?_)
  refine take_at (i := 0) (d := some 16) (v := ?_) rfl rfl (by kernel_rfl) (by kernel_rfl) (by kernel_rfl) (fun _ _ _ h => h) (Or.inl ⟨by rfl, ?_⟩) (by assumption) ?_
  rotate_left
  · (intro w hSw; (try dsimp only at hSw); go_simp; try with_reducible rfl)
  try simp only [Act.put, List.setIfInBounds_toArray, List.set_cons_zero, List.set_cons_succ]
  refine take_at (i := 2) (d := some 18) (v := ?_) rfl rfl (by kernel_rfl) (by kernel_rfl) (by kernel_rfl) (fun _ _ _ h => h) (Or.inl ⟨by rfl, ?_⟩) (by assumption) ?_
  rotate_left
  · (intro w hSw; (try dsimp only at hSw); go_simp; try with_reducible rfl)
  try simp only [Act.put, List.setIfInBounds_toArray, List.set_cons_zero, List.set_cons_succ]
  refine take_at (i := 3) (d := some 19) (v := ?_) rfl rfl (by kernel_rfl) (by kernel_rfl) (by kernel_rfl) (fun _ _ _ h => h) (Or.inl ⟨by rfl, ?_⟩) (by assumption) ?_
  rotate_left
  · (intro w hSw; (try dsimp only at hSw); go_simp; try with_reducible rfl)
  try simp only [Act.put, List.setIfInBounds_toArray, List.set_cons_zero, List.set_cons_succ]
  refine wpAnyH_ready (rs := [1, 4]) (by kernel_rfl) (by simp) ?_
  refine (AllReadyH.cons rfl (fun K hK => ?_) (AllReadyH.cons rfl (fun K hK => ?_) AllReadyH.nil))
  · go_simp
    ((with_reducible refine (HCL.out _ K2.out.drew).mono ?_)); rintro e w5 ⟨v5, rfl, r5, k5⟩
    have K5 := Lib.hid (K2.out.drew.trans k5)
    have o5 := k5.own O2.out.drew (by simp)
    have O5 := Lib.hid o5
    have R5 := Lib.hid r5
    clear r5 o5
    go_wp2_with fail
    refine hK.out _ _ ?_ (fun hHeld => ?_)
    · exact O5.out.c4
    clear hK K
    try simp only [Act.put, List.setIfInBounds_toArray, List.set_cons_zero, List.set_cons_succ]
    refine wpAnyH_ready (rs := [4]) (by kernel_rfl) (by simp) ?_
    refine (AllReadyH.cons rfl (fun K hK => ?_) AllReadyH.nil)
    go_simp
    refine hK.out _ _ ?_ (fun hHeld => ?_)
    · go_keep
    clear hK K
    try simp only [Act.put, List.setIfInBounds_toArray, List.set_cons_zero, List.set_cons_succ]
    have hov := Own.new w5 #[.int .u32 x.id, .string (bs x.name), .int .i64 x.size, .slice px nx cx] 58
    have hlt5 := World.ownsRow.lt R5.out
    have hro6 := World.ownsRow.alloc (ownsRow_base R5.out K2.out.size) (.cells #[.int .u32 x.id, .string (bs x.name), .int .i64 x.size, .slice px nx cx] 58)
    have hne : v5.ownBlock ≠ some w5.heap.size := fun e => by have := (hlt5 _ e).2; omega
    have hins := hin.out _ v5 _ (K5.out.alloc _) hro6 hov hne
    have HINS := Lib.hid hins
    have HR6 := Lib.hid (World.ownsRow.lt hro6)
    have HLT6 : Hid (∀ g, v5.ownBlock = some g → w.heap.size < g) := Lib.hid (fun g hg => by have h1 := (hlt5 g hg).1; have h2 := O2.out.lt; simp at h1; omega)
    clear hov hlt5 hro6 hne hins
    refine wpAnyH_ready (rs := [5]) (by kernel_rfl) (by simp) ?_
    refine (AllReadyH.cons rfl (fun K hK => ?_) AllReadyH.nil)
    go_simp
    ((with_reducible refine HINS.out.mono ?_)); rintro e w7 ⟨v7, rfl, hro7, hk7⟩
    have K7 : Hid (Kept [] w w7) := Lib.hid (kept_row (K5.out.alloc _) (fun g hg => (HR6.out g hg).1) hk7)
    go_wp2_with fail
    refine hK.out _ _ ?_ (fun hHeld => ?_)
    · exact (own_row_kept (O5.out.alloc _) (fun g hg => HLT6.out g hg) hk7).c4
    clear hK K
    try simp only [Act.put, List.setIfInBounds_toArray, List.set_cons_zero, List.set_cons_succ]
    refine take_at (i := 6) (d := some 6) (v := ?_) rfl rfl (by kernel_rfl) (by kernel_rfl) (by kernel_rfl) (fun _ _ _ h => h) (Or.inl ⟨by rfl, ?_⟩) (by assumption) ?_
    rotate_left
    · (intro w hSw; (try dsimp only at hSw); go_simp; try with_reducible rfl)
    try simp only [Act.put, List.setIfInBounds_toArray, List.set_cons_zero, List.set_cons_succ]
    refine wpAnyH_done (by kernel_rfl) ?_ _
    go_wp2_with fail
    go_ret
    exact hend.out _ _ K7.out hro7
  · go_simp
    refine hK.out _ _ ?_ (fun hHeld => ?_)
    · go_keep
    clear hK K
    try simp only [Act.put, List.setIfInBounds_toArray, List.set_cons_zero, List.set_cons_succ]
    have hov := Own.drew (Own.new w2 #[.int .u32 x.id, .string (bs x.name), .int .i64 x.size, .slice px nx cx] 58)
    have HOV := Lib.hid hov
    have KB : Hid (Kept [] w (w2.alloc (.cells #[.int .u32 x.id, .string (bs x.name), .int .i64 x.size, .slice px nx cx] 58)).drew) := Lib.hid ((K2.out.alloc _).drew)
    have OB : Hid (Own (w2.alloc (.cells #[.int .u32 x.id, .string (bs x.name), .int .i64 x.size, .slice px nx cx] 58)).drew w.heap.size #[.int .u32 x.id, .string (bs x.name), .int .i64 x.size, .slice px nx cx] 58) := Lib.hid ((O2.out.alloc _).drew)
    clear hov
    refine wpAnyH_ready (rs := [1]) (by kernel_rfl) (by simp) ?_
    refine (AllReadyH.cons rfl (fun K hK => ?_) AllReadyH.nil)
    go_simp
    ((with_reducible refine (HCL.out _ KB.out).mono ?_)); rintro e w5 ⟨v5, rfl, r5, k5⟩
    have K5 := Lib.hid (KB.out.trans k5)
    have o5 := k5.own OB.out (by simp)
    have O5 := Lib.hid o5
    have hov5 := k5.own HOV.out (by simp)
    have hlt5 := World.ownsRow.lt r5
    have hne : v5.ownBlock ≠ some w2.heap.size := fun e => by have := (hlt5 _ e).1; simp at this; omega
    have hro6 := ownsRow_base r5 KB.out.size
    have hins := hin.out _ v5 _ K5.out hro6 hov5 hne
    have HINS := Lib.hid hins
    have HR6 := Lib.hid (World.ownsRow.lt hro6)
    have HLT6 : Hid (∀ g, v5.ownBlock = some g → w.heap.size < g) := Lib.hid (fun g hg => by have h1 := (hlt5 g hg).1; have h2 := O2.out.lt; simp at h1; omega)
    clear r5 o5 hov5 hlt5 hne hro6 hins
    go_wp2_with fail
    refine hK.out _ _ ?_ (fun hHeld => ?_)
    · exact O5.out.c4
    clear hK K
    try simp only [Act.put, List.setIfInBounds_toArray, List.set_cons_zero, List.set_cons_succ]
    refine wpAnyH_ready (rs := [5]) (by kernel_rfl) (by simp) ?_
    refine (AllReadyH.cons rfl (fun K hK => ?_) AllReadyH.nil)
    go_simp
    ((with_reducible refine HINS.out.mono ?_)); rintro e w7 ⟨v7, rfl, hro7, hk7⟩
    have K7 : Hid (Kept [] w w7) := Lib.hid (kept_row K5.out (fun g hg => (HR6.out g hg).1) hk7)
    go_wp2_with fail
    refine hK.out _ _ ?_ (fun hHeld => ?_)
    · exact (own_row_kept O5.out (fun g hg => HLT6.out g hg) hk7).c4
    clear hK K
    try simp only [Act.put, List.setIfInBounds_toArray, List.set_cons_zero, List.set_cons_succ]
    refine take_at (i := 6) (d := some 6) (v := ?_) rfl rfl (by kernel_rfl) (by kernel_rfl) (by kernel_rfl) (fun _ _ _ h => h) (Or.inl ⟨by rfl, ?_⟩) (by assumption) ?_
    rotate_left
    · (intro w hSw; (try dsimp only at hSw); go_simp; try with_reducible rfl)
    try simp only [Act.put, List.setIfInBounds_toArray, List.set_cons_zero, List.set_cons_succ]
    refine wpAnyH_done (by kernel_rfl) ?_ _
    go_wp2_with fail
    go_ret
    exact hend.out _ _ K7.out hro7
/-- a plain list from a sector on: rising, apart by one at least. -/
def Pl : Int → List (Int × Int) → Prop
  | _, [] => True
  | a, r :: t => a ≤ r.1 ∧ 1 ≤ r.2 ∧ r.1 + r.2 ≤ 8192 ∧ Pl (r.1 + r.2 + 1) t
/-- has a list a sector? -/
def inS (l : List (Int × Int)) (k : Int) : Prop := ∃ r ∈ l, r.1 ≤ k ∧ k < r.1 + r.2
theorem inS_nil (k : Int) : ¬ inS [] k := fun ⟨r, hr, _⟩ => by cases hr
theorem inS_cons {r : Int × Int} {l : List (Int × Int)} {k : Int} : inS (r :: l) k ↔ (r.1 ≤ k ∧ k < r.1 + r.2) ∨ inS l k := by
  unfold inS
  constructor
  · rintro ⟨x, hx, h⟩
    rcases List.mem_cons.1 hx with rfl | hx
    · exact Or.inl h
    · exact Or.inr ⟨x, hx, h⟩
  · rintro (h | ⟨x, hx, h⟩)
    · exact ⟨r, List.mem_cons_self, h⟩
    · exact ⟨x, List.mem_cons_of_mem _ hx, h⟩
theorem Pl.mono {a b : Int} {l : List (Int × Int)} (h : Pl a l) (hb : b ≤ a) : Pl b l := by
  cases l with
  | nil => trivial
  | cons r t => exact ⟨by have := h.1; omega, h.2⟩
theorem Pl.ge {a k : Int} {l : List (Int × Int)} (h : Pl a l) (hk : inS l k) : a ≤ k ∧ k < 8192 := by
  induction l generalizing a with
  | nil => exact absurd hk (inS_nil k)
  | cons r t ih =>
    obtain ⟨h1, h2, h3, h4⟩ := h
    rcases inS_cons.1 hk with hk | hk
    · omega
    · have := ih h4 hk; omega
theorem Pl.snoc {a : Int} {l : List (Int × Int)} {r : Int × Int} (h : Pl a l) (ha : a ≤ r.1) (h1 : 1 ≤ r.2) (h2 : r.1 + r.2 ≤ 8192) (hl : ∀ x ∈ l, x.1 + x.2 + 1 ≤ r.1) : Pl a (l ++ [r]) := by
  induction l generalizing a with
  | nil => exact ⟨ha, h1, h2, trivial⟩
  | cons x t ih =>
    obtain ⟨g1, g2, g3, g4⟩ := h
    exact ⟨g1, g2, g3, ih g4 (by have := hl x List.mem_cons_self; omega) (fun y hy => hl y (List.mem_cons_of_mem _ hy))⟩
theorem Pl.drop {a : Int} {l : List (Int × Int)} (h : Pl a l) (i : Nat) : Pl a (l.drop i) := by
  induction i generalizing l a with
  | zero => exact h
  | succ i ih =>
    cases l with
    | nil => trivial
    | cons r t => obtain ⟨h1, h2, h3, h4⟩ := h; exact (ih h4).mono (by omega)
theorem Pl.next {a : Int} {l : List (Int × Int)} (h : Pl a l) (i : Nat) (hi : i < l.length) : Pl (l[i].1 + l[i].2 + 1) (l.drop (i + 1)) := by
  have := h.drop i
  rw [List.drop_eq_getElem_cons hi] at this
  exact this.2.2.2
theorem Pl.len {a : Int} {l : List (Int × Int)} (h : Pl a l) : 2 * (l.length : Int) + min a 8194 ≤ 8194 := by
  induction l generalizing a with
  | nil => simp; omega
  | cons r t ih =>
    obtain ⟨h1, h2, h3, h4⟩ := h
    have := ih h4
    rw [List.length_cons]; omega
/-! ### the plain list of a row of truths -/
/-- has a list a sector? -/
def hasB (l : List (Int × Int)) (k : Nat) : Bool := l.any fun r => decide (r.1 ≤ k) && decide ((k : Int) < r.1 + r.2)
/-- the last run, longer by one. -/
def bump (l : List (Int × Int)) : List (Int × Int) := l.dropLast ++ (match l.getLast? with | some r => [(r.1, r.2 + 1)] | none => [])
/-- the runs of the first k truths. -/
def runsF (f : Nat → Bool) : Nat → List (Int × Int)
  | 0 => []
  | k + 1 => if f k = true then (if k ≠ 0 ∧ f (k - 1) = true then bump (runsF f k) else runsF f k ++ [((k : Int), 1)]) else runsF f k
/-- how many of the first k are true. -/
def cntF (f : Nat → Bool) : Nat → Nat
  | 0 => 0
  | k + 1 => cntF f k + if f k = true then 1 else 0
/-- the plain list of all sectors of which something is true. -/
def canon (f : Nat → Bool) : List (Int × Int) := runsF f 8192
/-! ### what the layer's functions give -/
def countL (l : List (Int × Int)) : Nat := cntF (hasB l) 8192
theorem RunsIn.weaken {w : World} {v : Value} {l : List (Int × Int)} {lo hi lo' hi' : Nat} (h : RunsIn w v l lo hi) (h1 : lo' ≤ lo) (h2 : hi ≤ hi') (h3 : hi' ≤ w.heap.size) : RunsIn w v l lo' hi' := by
  rcases h with h | ⟨b, off, c, e1, e2, e3, e4, e5, e6, e7, e8⟩
  · exact Or.inl h
  · exact Or.inr ⟨b, off, c, e1, e2, by omega, by omega, h3, e6, e7, e8⟩
/-- the cells of runs. -/
def rcells (l : List (Int × Int)) : List Value := (l.map fun r => [Value.int .i64 r.1, Value.int .i64 r.2]).flatten
theorem rcells_len (l : List (Int × Int)) : (rcells l).length = l.length * 2 := by
  induction l with
  | nil => rfl
  | cons a l ih => simp only [rcells, List.map_cons, List.flatten_cons, List.length_append, List.length_cons, List.length_nil] at *; omega
theorem rcells_get (l : List (Int × Int)) (i : Nat) (h : i < l.length) : (rcells l)[i * 2]? = some (.int .i64 l[i].1) ∧ (rcells l)[i * 2 + 1]? = some (.int .i64 l[i].2) := by
  induction l generalizing i with
  | nil => simp at h
  | cons a l ih =>
    cases i with
    | zero => exact ⟨rfl, rfl⟩
    | succ i =>
      have e : rcells (a :: l) = Value.int .i64 a.1 :: Value.int .i64 a.2 :: rcells l := rfl
      rw [e]
      have := ih i (by simpa using h)
      have e1 : (i + 1) * 2 = i * 2 + 1 + 1 := by omega
      have e2 : (i + 1) * 2 + 1 = i * 2 + 1 + 1 + 1 := by omega
      rw [e1, List.getElem?_cons_succ, List.getElem?_cons_succ, List.getElem?_cons_succ, List.getElem?_cons_succ]
      simpa using this
theorem rcells_snoc (l : List (Int × Int)) (r : Int × Int) : rcells (l ++ [r]) = rcells l ++ [.int .i64 r.1, .int .i64 r.2] := by simp [rcells]
theorem rcells_one (l : List (Int × Int)) : ∀ u ∈ rcells l, u.oneCell' = true := by
  intro u hu
  simp only [rcells, List.mem_flatten, List.mem_map] at hu
  obtain ⟨_, ⟨r, _, rfl⟩, hu⟩ := hu
  simp at hu
  rcases hu with rfl | rfl <;> rfl
theorem RunsIn.of_own {w : World} {base : Nat} {v : Value} {n : Nat} {l : List (Int × Int)} (h : w.ownsRow base 48 2 v n (rcells l)) : RunsIn w v l base w.heap.size := by
  obtain ⟨hlen, h⟩ := h
  rw [rcells_len] at hlen
  have hn : l.length = n := by omega
  rcases h with ⟨rfl, rfl⟩ | ⟨g, cap, cur, rfl, hb, hg, hnc, hcm, hcs, htake⟩
  · exact Or.inl ⟨List.eq_nil_of_length_eq_zero hn, _, _, rfl⟩
  · by_cases h0 : n = 0
    · subst h0
      exact Or.inl ⟨List.eq_nil_of_length_eq_zero hn, _, _, rfl⟩
    · refine Or.inr ⟨g, 0, cap, by rw [hn], fun i hi => ?_, hb, lt_of_block hg, Nat.le_refl _, fun h => by rw [h] at hn; simp at hn; omega, by omega, hcm⟩
      obtain ⟨g1, g2⟩ := rcells_get l i hi
      have key : ∀ j u, (rcells l)[j]? = some u → w.cell? ⟨g, 0 + j, none⟩ = some u := fun j u hj => by
        rw [Nat.zero_add, cell_of_row w g j cur 48 (0, 0) hg]
        rw [← htake] at hj
        have hjn : j < n * 2 := by
          rcases Nat.lt_or_ge j (n * 2) with h | h
          · exact h
          · rw [List.getElem?_eq_none (by rw [List.length_take]; omega)] at hj; cases hj
        rw [List.getElem?_take_of_lt hjn] at hj
        simpa using hj
      exact ⟨key _ _ g1, key _ _ g2⟩
theorem infoRun : ∃ i, Tryz.prog.info? 48 = some i ∧ i.zero = some (.agg #[.int .i64 0, .int .i64 0]) ∧ i.size = 2 ∧ i.bytes = 16 := by
  have hi : (Tryz.prog.info? 48).map (fun i => (i.zero, i.size, i.bytes)) = some (some (.agg #[.int .i64 0, .int .i64 0]), 2, 16) := by kernel_rfl
  obtain ⟨i0, hi0, hz0, hz1, hz2⟩ := info_parts hi
  exact ⟨i0, hi0, hz0, hz1, hz2⟩
theorem RunsIn.cells {w : World} {b off n c lo hi : Nat} {l : List (Int × Int)} (h : RunsIn w (.slice (some ⟨b, off, none⟩) n c) l lo hi) : ∀ j u, (rcells l)[j]? = some u → w.cell? ⟨b, off + j, none⟩ = some u := by
  intro j u hj
  have hjl : j < (rcells l).length := by
    rcases Nat.lt_or_ge j (rcells l).length with h | h
    · exact h
    · rw [List.getElem?_eq_none h] at hj; cases hj
  rw [rcells_len] at hjl
  have hi' : j / 2 < l.length := by omega
  obtain ⟨b', off', e, c0, c1, _⟩ := h.at_ (j / 2) hi'
  injection e with e
  injection e with e1 e2 _
  subst e1 e2
  obtain ⟨g1, g2⟩ := rcells_get l (j / 2) hi'
  rcases Nat.mod_two_eq_zero_or_one j with h | h
  · have ej : j / 2 * 2 = j := by omega
    rw [ej] at c0 g1
    rw [c0, ← g1, hj]
  · have ej : j / 2 * 2 + 1 = j := by omega
    rw [Nat.add_assoc, ej] at c1
    rw [ej] at g2
    rw [c1, ← g2, hj]
theorem xnan (x : Int) (w : World) : Calls Tryz.prog 106 #[.int .i64 x] w fun e w' => e = .returned (.bool false) ∧ w = w' := by
  go_enter Tryz.func106, Tryz.ntmps106
  go_wp2_with fail
  go_ret
  exact ⟨rfl, rfl⟩
def cmpI (x y : Int) : Int := if x < y then -1 else if y < x then 1 else 0
theorem xcmp (x y : Int) (w : World) : Calls Tryz.prog 66 #[.int .i64 x, .int .i64 y] w fun e w' => e = .returned (.int .i64 (cmpI x y)) ∧ w = w' := by
  unfold cmpI
  rcases (by omega : x < y ∨ (¬ x < y ∧ y < x) ∨ (¬ x < y ∧ ¬ y < x)) with h1 | ⟨h1, h2⟩ | ⟨h1, h2⟩
  · rw [if_pos h1]
    go_enter Tryz.func66, Tryz.ntmps66
    go_wp2_with (go_at_call 106; refine (xnan _ _).mono ?_; rintro e w' ⟨rfl, rfl⟩)
    go_ret
    exact ⟨rfl, rfl⟩
  · rw [if_neg h1, if_pos h2]
    go_enter Tryz.func66, Tryz.ntmps66
    go_wp2_with (go_at_call 106; refine (xnan _ _).mono ?_; rintro e w' ⟨rfl, rfl⟩)
    go_ret
    exact ⟨rfl, rfl⟩
  · rw [if_neg h1, if_neg h2]
    go_enter Tryz.func66, Tryz.ntmps66
    go_wp2_with (go_at_call 106; refine (xnan _ _).mono ?_; rintro e w' ⟨rfl, rfl⟩)
    go_ret
    exact ⟨rfl, rfl⟩
end Go.Proofs.YtakdnchmehmdhaaGreat
