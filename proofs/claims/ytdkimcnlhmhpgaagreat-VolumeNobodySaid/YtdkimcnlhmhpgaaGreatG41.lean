/- -/
import Derived.Test.YtdkimcnlhmhpgaaGreatG06
import Derived.Test.YtdkimcnlhmhpgaaGreatG07
import Derived.Test.YtdkimcnlhmhpgaaGreatG19
import Derived.Test.YtdkimcnlhmhpgaaGreatG21
import Derived.Test.YtdkimcnlhmhpgaaGreatG25
import Derived.Test.YtdkimcnlhmhpgaaGreatG34
import Derived.Test.YtdkimcnlhmhpgaaGreatG35
import Derived.Test.YtdkimcnlhmhpgaaGreatG36
import Derived.Test.YtdkimcnlhmhpgaaGreatG38
import Derived.Test.YtdkimcnlhmhpgaaGreatG40
import Derived.Maps.AppendAt
import Derived.IntWalk
import Derived.BigQuiet
set_option linter.unusedVariables false
set_option linter.unusedSimpArgs false
namespace Go.Proofs.YtdkimcnlhmhpgaaGreat
open Go.RowKit
theorem row_cells {w : World} {base : Nat} {e : TypeId} {size n g : Nat} {v : Value} {xs : List Value} (h : w.ownsRow base e size v n xs) (hg : v.ownBlock = some g) : ∃ cur, w.heap[g]? = some (.cells cur e (0, 0)) := by
  rcases h.2 with ⟨rfl, _⟩ | ⟨g', cap, cur, rfl, _, hh, _⟩
  · simp [Value.ownBlock] at hg
  · have e1 : g' = g := by simpa [Value.ownBlock] using hg
    subst e1
    exact ⟨cur, hh⟩
def Apart (u v : Value) : Prop := ∀ g, u.ownBlock = some g → v.ownBlock ≠ some g
theorem Apart.symm {u v : Value} (h : Apart u v) : Apart v u := fun g h1 h2 => h g h2 h1
theorem rows_apart {w : World} {base base' : Nat} {e e' : TypeId} {s s' n n' : Nat} {u v : Value} {xs ys : List Value} (h : w.ownsRow base e s u n xs) (h' : w.ownsRow base' e' s' v n' ys) (hne : e ≠ e') : Apart u v := fun g h1 h2 => by
  obtain ⟨c1, q1⟩ := row_cells h h1
  obtain ⟨c2, q2⟩ := row_cells h' h2
  rw [q1] at q2
  injection q2 with q2
  injection q2 with _ ht
  exact hne ht
theorem row_grown {w wa : World} {base : Nat} {e : TypeId} {size n : Nat} {u v : Value} {xs : List Value} (h : w.ownsRow base e size v n xs) (hg : w.grownBy wa u.ownBlock) (ha : Apart v u) : wa.ownsRow base e size v n xs := by
  have hlt := World.ownsRow.lt h
  obtain ⟨h1, h2⟩ := h
  refine ⟨h1, ?_⟩
  rcases h2 with h2 | ⟨g, cap, cur, rfl, hb, hh, r⟩
  · exact Or.inl h2
  · exact Or.inr ⟨g, cap, cur, rfl, hb, (hg.block g (hlt g rfl).2 (fun he => ha g rfl he.symm)).trans hh, r⟩
def OwnItem (base : Nat) (w : World) (x : JItem × Value) : Prop := w.ownsRow base 128 2 x.2 x.1.runs.length (rcells x.1.runs) ∧ x.1.fits ∧ ∀ r ∈ x.1.runs, WfRun r
theorem OwnItem.ok {base : Nat} {w : World} {x : JItem × Value} (h : OwnItem base w x) : ItemOk w x := ⟨(RunsIn.of_own h.1).upto, h.2.1, h.2.2⟩
theorem OwnItem.kept0 {base : Nat} {w w' : World} {x : JItem × Value} (h : OwnItem base w x) (k : Kept [] w w') : OwnItem base w' x := ⟨ownsRow_kept h.1 k (by simp), h.2⟩
structure Row3 (base : Nat) (w : World) (va vb vc : Value) (xs ys zs : List (JItem × Value)) : Prop where
  ra : w.ownsRow base 113 4 va xs.length (icells xs)
  rb : w.ownsRow base 113 4 vb ys.length (icells ys)
  rc : w.ownsRow base 113 4 vc zs.length (icells zs)
  ia : ∀ x ∈ xs, OwnItem base w x
  ib : ∀ x ∈ ys, OwnItem base w x
  ic : ∀ x ∈ zs, OwnItem base w x
  ab : Apart va vb
  ac : Apart va vc
  bc : Apart vb vc
theorem Row3.rot {base : Nat} {w : World} {va vb vc : Value} {xs ys zs : List (JItem × Value)} (h : Row3 base w va vb vc xs ys zs) : Row3 base w vb vc va ys zs xs :=
  ⟨h.rb, h.rc, h.ra, h.ib, h.ic, h.ia, h.bc, h.ab.symm, h.ac.symm⟩
theorem Row3.kept0 {base : Nat} {w w' : World} {va vb vc : Value} {xs ys zs : List (JItem × Value)} (h : Row3 base w va vb vc xs ys zs) (k : Kept [] w w') : Row3 base w' va vb vc xs ys zs :=
  ⟨ownsRow_kept h.ra k (by simp), ownsRow_kept h.rb k (by simp), ownsRow_kept h.rc k (by simp), fun x hx => (h.ia x hx).kept0 k, fun x hx => (h.ib x hx).kept0 k, fun x hx => (h.ic x hx).kept0 k, h.ab, h.ac, h.bc⟩
theorem Row3.set {base : Nat} {w : World} {va vb vc : Value} {xs ys zs : List (JItem × Value)} (h : Row3 base w va vb vc xs ys zs) {g : Nat} {cs : Array Value} (o : Own w g cs 52) (j : Nat) (u : Value) : Row3 base (w.setCell ⟨g, j, none⟩ u) va vb vc xs ys zs :=
  have hit : ∀ x, OwnItem base w x → OwnItem base (w.setCell ⟨g, j, none⟩ u) x := fun x hx => ⟨ownsRow_other hx.1 (own_row_ne hx.1 o (by decide)) u, hx.2⟩
  ⟨ownsRow_other h.ra (own_row_ne h.ra o (by decide)) u, ownsRow_other h.rb (own_row_ne h.rb o (by decide)) u, ownsRow_other h.rc (own_row_ne h.rc o (by decide)) u, fun x hx => hit x (h.ia x hx), fun x hx => hit x (h.ib x hx), fun x hx => hit x (h.ic x hx), h.ab, h.ac, h.bc⟩
theorem Row3.add {base : Nat} {w wa : World} {va va' vb vc : Value} {xs ys zs : List (JItem × Value)} {x : JItem × Value} (h : Row3 base w va vb vc xs ys zs) (hx : OwnItem base w x) (hg : w.grownBy wa va.ownBlock)
    (hr : wa.ownsRow base 113 4 va' (xs.length + 1) (icells xs ++ vcells x.1 x.2)) (hb : va'.ownBlock = va.ownBlock ∨ va'.ownBlock = some w.heap.size) : Row3 base wa va' vb vc (xs ++ [x]) ys zs := by
  have hit : ∀ y, OwnItem base w y → OwnItem base wa y := fun y hy => ⟨row_grown hy.1 hg (rows_apart hy.1 h.ra (by decide)), hy.2⟩
  have hap : ∀ {v : Value} {n : Nat} {ws : List Value}, w.ownsRow base 113 4 v n ws → Apart va v → Apart va' v := fun hv ha g h1 h2 => by
    rcases hb with hb | hb
    · exact ha g (by rw [← hb]; exact h1) h2
    · rw [hb] at h1
      injection h1 with h1
      have := (World.ownsRow.lt hv g h2).2
      omega
  refine ⟨?_, row_grown h.rb hg h.ab.symm, row_grown h.rc hg h.ac.symm, ?_, fun y hy => hit y (h.ib y hy), fun y hy => hit y (h.ic y hy), hap h.rb h.ab, hap h.rc h.ac, h.bc⟩
  · rw [icells_append, List.length_append]
    exact hr
  · intro y hy
    rcases List.mem_append.1 hy with hy | hy
    · exact hit y (h.ia y hy)
    · have : y = x := by simpa using hy
      subst this
      exact hit _ hx
theorem Row3.in1 {base : Nat} {w : World} {va vb vc : Value} {xs ys zs : List (JItem × Value)} (h : Row3 base w va vb vc xs ys zs) : ItemsIn w va (xs.map (·.1)) := ItemsIn.of_own h.ra (fun x hx => (h.ia x hx).ok)
theorem Row3.nil (base : Nat) (w : World) : Row3 base w (.slice none 0 0) (.slice none 0 0) (.slice none 0 0) [] [] [] :=
  have h : Apart (.slice none 0 0) (.slice none 0 0) := fun g hg => by simp [Value.ownBlock] at hg
  ⟨World.ownsRow_nil _ _ _ _, World.ownsRow_nil _ _ _ _, World.ownsRow_nil _ _ _ _, fun x hx => (by cases hx), fun x hx => (by cases hx), fun x hx => (by cases hx), h, h, h⟩
def Grows (w1 w : World) (bx : Nat) (nb nm : Int) (A B C : List JItem) : Prop :=
  ∃ va vb vc xs ys zs, Own w bx #[.int .u32 nb, .int .u32 nm, va, vb, vc] 52 ∧ Row3 w1.heap.size w va vb vc xs ys zs ∧ xs.map (·.1) = A ∧ ys.map (·.1) = B ∧ zs.map (·.1) = C ∧ Kept [bx] w1 w
theorem RawIn.nil (w : World) (p : Option Addr) (c : Nat) : RawIn w (.slice p 0 c) 0 4 [] := ⟨rfl, Or.inl ⟨rfl, p, c, rfl⟩⟩
theorem run_append_runs {w : World} (base : Nat) (v : Value) (n : Nat) (xs : List Value) (hown : w.ownsRow base 128 2 v n xs) (u : Value) (l : List (Int × Int)) (lo hi : Nat) (hsrc : RunsIn w u l lo hi)
    (h63 : n + l.length ≤ maxLen) (hbytes : (n + l.length) * 16 ≤ 140737488355328) (hbase : base ≤ w.heap.size) :
    ∃ v' w', (Builtin.append_ #[56, 56] 56 #[v, u]).run Tryz.prog w = .ok v' w' ∧ w'.ownsRow base 128 2 v' (n + l.length) (xs ++ rcells l) ∧ w.grownBy w' v.ownBlock := by
  obtain ⟨i0, q0, q1, q2, q3⟩ := infoRun
  obtain ⟨p, c, rfl⟩ := hsrc.shape
  cases p with
  | none =>
    have hl0 : l = [] := by
      rcases hsrc with ⟨h, _⟩ | ⟨b, off, c', e, _⟩
      · exact h
      · simp at e
    subst hl0
    have hrun := run_append_none_any (P := Tryz.prog) (w := w) base 56 56 128 i0 2 Tryz.underlying56 q0 v n c xs hown
    exact ⟨v, w, hrun, by simpa [rcells] using hown, grownBy_refl _ _⟩
  | some ad =>
    have hcell : ∀ j u, (rcells l)[j]? = some u → w.cell? (ad.add j) = some u := by
      rcases hsrc with ⟨rfl, _⟩ | ⟨b, off, c', e, h2⟩
      · intro j u hj; simp [rcells] at hj
      · simp at e
        obtain ⟨rfl, rfl⟩ := e
        have hh : RunsIn w (.slice (some ⟨b, off, none⟩) l.length c) l lo hi := Or.inr ⟨b, off, c, rfl, h2⟩
        intro j u hj
        rw [Go.WideShapes.add_plain]
        exact hh.cells j u hj
    obtain ⟨v', w', h1, h2, h3, _, _⟩ := run_append_own_at (P := Tryz.prog) w base 56 56 128 i0 _ 2 16 Tryz.underlying56 q0 q1 q2 q3 rfl (by decide) v n xs hown ad l.length c (rcells l) (rcells_len l) hcell (rcells_one l) h63 hbytes hbase
    exact ⟨v', w', h1, h2, h3⟩
theorem urecord (x : VC) (w : World) : Calls Tryz.prog 95 #[.agg #[.int .i64 x.kind, .int .u32 x.id, .string (bs x.name), .string (bs x.bytes)]] w fun e w' => e = .returned (.agg #[.int .i64 x.kind, .int .u32 x.id, .string (bs x.name), .int .i64 0, .slice none 0 0]) ∧ Kept [] w w' := by
  go_enter Tryz.func95, Tryz.ntmps95
  go_wp2_with fail
  obtain ⟨k, i, n, s⟩ := x
  simp only
  refine bodyPost_ret (v := .agg #[.int .i64 k, .int .u32 i, .string (bs n), .int .i64 0, .slice none 0 0]) (ret_row Tryz.results95 rfl (t := 102) ?_ Tryz.underlying102 rfl (by kernel_rfl)) rfl ⟨rfl, ?_⟩
  · first
      | exact (own_two w _ _ _ _).2
      | (trace_state; sorry)
  · first
      | exact ((Kept.refl _ _).alloc _).alloc _
      | (trace_state; sorry)
theorem cat_wf {w : World} {u : Value} {c : JCat} (h : CatIn w u c) : ∀ a ∈ runsC c, WfRun a := by
  obtain ⟨vb, vm, vn, rfl, hb, hm, hn, _⟩ := h
  have key : ∀ {u : Value} {l : List JItem}, ItemsIn w u l → ∀ x ∈ l, ∀ a ∈ x.runs, WfRun a := by
    intro u l h x hx
    obtain ⟨vs, rfl, _, h3⟩ := h
    obtain ⟨y, hy, rfl⟩ := List.mem_map.1 hx
    exact (h3 y hy).2.2
  intro a ha
  unfold runsC catR at ha
  obtain ⟨l, hl, hal⟩ := List.mem_flatten.1 ha
  obtain ⟨r, hr, rfl⟩ := List.mem_map.1 hl
  simp only [List.mem_append, List.mem_map] at hr
  rcases hr with (⟨x, hx, rfl⟩ | ⟨x, hx, rfl⟩) | ⟨x, hx, rfl⟩
  · exact key hb x hx a hal
  · exact key hm x hx a hal
  · exact key hn x hx a hal
theorem sb_wf {s : SB} (h : s.may) : ∀ a ∈ s.runs, WfRun a := by
  intro a ha
  obtain ⟨k, hk, rfl⟩ := List.mem_iff_getElem.1 ha
  have h1 := lieTo_ok (Nat.le_refl _) h.2.1 k hk
  have h2 := okRun_iff.1 h1
  have h3 := h.1
  unfold SB.numOk at h3
  unfold WfRun
  omega
set_option maxRecDepth 100000 in
set_option maxHeartbeats 8000000 in
theorem uroom {T : List Nat} {w : World} {B b sb mb lo : Nat} {v : VS} (hV : VolAt T w B b sb mb lo v) (hm : v.s.may) (hc : mayC v.c) (hf : v.c.boxes.length + v.c.mans.length + v.c.names.length ≤ 1000) :
    Calls Tryz.prog 56 #[.pointer (some ⟨B, 0, none⟩)] w (GivesR (roomX v) w) := by
  obtain ⟨sv, vb, vm, vn, o, hr, hcat⟩ := hV.vol
  obtain ⟨⟨lo1, hi1, hrun⟩, _⟩ := hr
  have hrl := runsC_len hc
  have hsm := hm.1
  have hwfs := sb_wf hm
  have hwfc := cat_wf hcat.plain
  have HRUNS : Hid (∀ W, Kept [] w W → Calls Tryz.prog 115 #[.agg #[.int .u32 v.c.nextBox, .int .u32 v.c.nextMan, vb, vm, vn]] W (GivesR (runsC v.c) W)) := Lib.hid (fun W k => zcatRuns _ v.c W (hcat.plain.kept0 k) hf (by omega))
  have HB := Lib.hid hV.b_lt
  have HO : Hid (∀ W, Kept [] w W → Own W B (volCells b v.s sv v.c vb vm vn v.dead) 90) := Lib.hid (fun W k => k.own o (by simp))
  have HSR : Hid (∀ W, Kept [] w W → RunsIn W sv v.s.runs lo1 hi1) := Lib.hid (fun W k => hrun.kept0 k)
  unfold SB.numOk at hsm
  have HMI : Hid (∀ W va loa hia vb2 lob hib, RunsIn W va [(2 + v.s.journal, v.s.sectors - (2 + v.s.journal))] loa hia → RunsIn W vb2 (runsC v.c ++ v.s.runs) lob hib → Calls Tryz.prog 96 #[va, vb2] W (GivesR (roomX v) W)) := Lib.hid (fun W va loa hia vb2 lob hib h1 h2 => xminus va _ loa hia vb2 _ lob hib W h1 h2 (by simp) (by rw [List.length_append]; omega) (fun a ha => by
      obtain rfl := List.mem_singleton.1 ha
      unfold WfRun; simp only; omega) (fun a ha => by
      rcases List.mem_append.1 ha with ha | ha
      · exact hwfc a ha
      · exact hwfs a ha))
  have hlenC : (runsC v.c).length ≤ 16000 := by omega
  have hlenS : v.s.runs.length ≤ 16 := by omega
  have j1 : 1 ≤ v.s.journal := by omega
  have j2 : v.s.journal ≤ v.s.sectors - 2 := by omega
  have j3 : v.s.sectors ≤ 8192 := by omega
  have HLC := Lib.hid hlenC
  have HLS := Lib.hid hlenS
  obtain ⟨p1, c1, rfl⟩ := hrun.shape
  obtain ⟨d, s, c, dead⟩ := v
  obtain ⟨sq, se, jr, us, sz, rs⟩ := s
  simp only at *
  obtain ⟨fr, hfr⟩ : ∃ fr, fr = 2 + jr := ⟨_, rfl⟩
  obtain ⟨ln, hln⟩ : ∃ ln, ln = se - fr := ⟨_, rfl⟩
  generalize runsC c = RC at *
  generalize roomX _ = RX at *
  obtain ⟨x0, x1, x2, x3, x4, x5, x6, x7, x8, x9, x10, x11, x12⟩ := o.c13
  clear hV hm hc hf hcat hrun hrl hsm hwfs hwfc hlenC hlenS
  go_enter Tryz.func56, Tryz.ntmps56
  clear x0 x1 x4 x5 x12
  have HCELL : Hid (∀ W, Kept [] w W → W.cell? ⟨B, 2, none⟩ = some (.int .i64 se) ∧ W.cell? ⟨B, 6, none⟩ = some (.slice p1 rs.length c1) ∧ W.cell? ⟨B, 7, none⟩ = some (.int .u32 c.nextBox) ∧ W.cell? ⟨B, 8, none⟩ = some (.int .u32 c.nextMan) ∧ W.cell? ⟨B, 9, none⟩ = some (vb) ∧ W.cell? ⟨B, 10, none⟩ = some (vm) ∧ W.cell? ⟨B, 11, none⟩ = some (vn)) := Lib.hid (fun W k => by
    obtain ⟨_, _, a2, _, _, _, a6, a7, a8, a9, a10, a11, _⟩ := (HO.out W k).c13
    exact ⟨a2, a6, a7, a8, a9, a10, a11⟩)
  clear o
  go_upto_region 2 with fail
  refine wp_region_held_drew (S := (fun W => W.cell? ⟨B, 2, none⟩ = some (.int .i64 se) ∧ W.cell? ⟨B, 6, none⟩ = some (.slice p1 rs.length c1) ∧ W.cell? ⟨B, 7, none⟩ = some (.int .u32 c.nextBox) ∧ W.cell? ⟨B, 8, none⟩ = some (.int .u32 c.nextMan) ∧ W.cell? ⟨B, 9, none⟩ = some (vb) ∧ W.cell? ⟨B, 10, none⟩ = some (vm) ∧ W.cell? ⟨B, 11, none⟩ = some (vn))) (by kernel_rfl) (by exact HCELL.out _ ((Kept.refl [] w).drew)) (fun hHeld => ?_)
  refine take_at (i := 0) (d := some 11) (v := ?_) rfl rfl (by kernel_rfl) (by kernel_rfl) (by kernel_rfl) (fun _ _ _ h => h) (Or.inl ⟨by rfl, ?_⟩) (by assumption) ?_
  rotate_left
  · (intro w hSw; (try dsimp only at hSw); go_simp; try with_reducible rfl)
  try simp only [Act.put, List.setIfInBounds_toArray, List.set_cons_zero, List.set_cons_succ]
  refine take_at (i := 1) (d := some 12) (v := ?_) rfl rfl (by kernel_rfl) (by kernel_rfl) (by kernel_rfl) (fun _ _ _ h => h) (Or.inl ⟨by rfl, ?_⟩) (by assumption) ?_
  rotate_left
  · (intro w hSw; (try dsimp only at hSw); go_simp; try with_reducible rfl)
  try simp only [Act.put, List.setIfInBounds_toArray, List.set_cons_zero, List.set_cons_succ]
  refine take_at (i := 2) (d := some 13) (v := ?_) rfl rfl (by kernel_rfl) (by kernel_rfl) (by kernel_rfl) (fun _ _ _ h => h) (Or.inl ⟨by rfl, ?_⟩) (by assumption) ?_
  rotate_left
  · (intro w hSw; (try dsimp only at hSw); go_simp; try with_reducible rfl)
  try simp only [Act.put, List.setIfInBounds_toArray, List.set_cons_zero, List.set_cons_succ]
  refine take_at (i := 3) (d := some 14) (v := ?_) rfl rfl (by kernel_rfl) (by kernel_rfl) (by kernel_rfl) (fun _ _ _ h => h) (Or.inl ⟨by rfl, ?_⟩) (by assumption) ?_
  rotate_left
  · (intro w hSw; (try dsimp only at hSw); go_simp; try with_reducible rfl)
  try simp only [Act.put, List.setIfInBounds_toArray, List.set_cons_zero, List.set_cons_succ]
  refine take_at (i := 5) (d := some 16) (v := ?_) rfl rfl (by kernel_rfl) (by kernel_rfl) (by kernel_rfl) (fun _ _ _ h => h) (Or.inl ⟨by rfl, ?_⟩) (by assumption) ?_
  rotate_left
  · (intro w hSw; (try dsimp only at hSw); go_simp; try with_reducible rfl)
  try simp only [Act.put, List.setIfInBounds_toArray, List.set_cons_zero, List.set_cons_succ]
  refine take_at (i := 6) (d := some 17) (v := ?_) rfl rfl (by kernel_rfl) (by kernel_rfl) (by kernel_rfl) (fun _ _ _ h => h) (Or.inl ⟨by rfl, ?_⟩) (by assumption) ?_
  rotate_left
  · (intro w hSw; (try dsimp only at hSw); go_simp; try with_reducible rfl)
  try simp only [Act.put, List.setIfInBounds_toArray, List.set_cons_zero, List.set_cons_succ]
  refine take_at (i := 7) (d := some 18) (v := ?_) rfl rfl (by kernel_rfl) (by kernel_rfl) (by kernel_rfl) (fun _ _ _ h => h) (Or.inl ⟨by rfl, ?_⟩) (by assumption) ?_
  rotate_left
  · (intro w hSw; (try dsimp only at hSw); go_simp; try with_reducible rfl)
  try simp only [Act.put, List.setIfInBounds_toArray, List.set_cons_zero, List.set_cons_succ]
  refine take_at (i := 8) (d := some 19) (v := ?_) rfl rfl (by kernel_rfl) (by kernel_rfl) (by kernel_rfl) (fun _ _ _ h => h) (Or.inl ⟨by rfl, ?_⟩) (by assumption) ?_
  rotate_left
  · (intro w hSw; (try dsimp only at hSw); go_simp; try with_reducible rfl)
  try simp only [Act.put, List.setIfInBounds_toArray, List.set_cons_zero, List.set_cons_succ]
  refine take_at (i := 9) (d := some 20) (v := ?_) rfl rfl (by kernel_rfl) (by kernel_rfl) (by kernel_rfl) (fun _ _ _ h => h) (Or.inl ⟨by rfl, ?_⟩) (by assumption) ?_
  rotate_left
  · (intro w hSw; (try dsimp only at hSw); go_simp; try with_reducible rfl)
  try simp only [Act.put, List.setIfInBounds_toArray, List.set_cons_zero, List.set_cons_succ]
  refine wpAnyH_ready (rs := [4]) (by kernel_rfl) (by simp) ?_
  refine (AllReadyH.cons rfl (fun K hK => ?_) AllReadyH.nil)
  go_simp
  ((with_reducible refine (HRUNS.out _ ((Kept.refl [] w).drew)).mono ?_)); rintro e w2 ⟨u, rfl, hown, k2⟩
  have kk := ((Kept.refl [] w).drew).trans k2
  have hown2 : w2.ownsRow w.heap.size 128 2 u RC.length (rcells RC) := ownsRow_base hown (by simp)
  have K2 := Lib.hid kk
  have OWN2 := Lib.hid hown2
  obtain ⟨pu, cu, rfl⟩ := own_shape hown
  clear hown kk k2 hown2
  go_wp2_with fail
  refine hK.out _ _ ?_ (fun hHeld => ?_)
  · exact HCELL.out _ K2.out
  clear hK K
  try simp only [Act.put, List.setIfInBounds_toArray, List.set_cons_zero, List.set_cons_succ]
  obtain ⟨v5, w5, hrun5, hrow5, hgr5⟩ := run_append_runs w.heap.size _ RC.length (rcells RC) OWN2.out (.slice p1 rs.length c1) rs lo1 hi1 (HSR.out _ K2.out) (by have := HLC.out; have := HLS.out; unfold maxLen; omega) (by have := HLC.out; have := HLS.out; omega) K2.out.size
  have K5 := Lib.hid (K2.out.grown hgr5 (fun q hq => Or.inr (World.ownsRow.lt OWN2.out q hq).1))
  obtain ⟨p5, c5, rfl⟩ := own_shape hrow5
  have hrow5' : w5.ownsRow w.heap.size 128 2 (.slice p5 (RC.length + rs.length) c5) (RC ++ rs).length (rcells (RC ++ rs)) := by rw [List.length_append, show rcells (RC ++ rs) = rcells RC ++ rcells rs from by simp [rcells]]; exact hrow5
  have ROW5 := Lib.hid hrow5'
  have HRUN5 := Lib.hid hrun5
  clear hrun5 hrow5 hgr5 hrow5'
  refine wpAnyH_ready (rs := [10]) (by kernel_rfl) (by simp) ?_
  refine (AllReadyH.cons rfl (fun K hK => ?_) AllReadyH.nil)
  refine step_append_runJ rfl _ _ 56 56 rfl _ _ (by simp [Act.eval, Act.put]) (by simp [Act.eval, Act.put]) HRUN5.out ?_
  refine hK.out _ _ ?_ (fun hHeld => ?_)
  · exact HCELL.out _ K5.out
  clear hK K
  try simp only [Act.put, List.setIfInBounds_toArray, List.set_cons_zero, List.set_cons_succ]
  refine take_at (i := 11) (d := some 4) (v := ?_) rfl rfl (by kernel_rfl) (by kernel_rfl) (by kernel_rfl) (fun _ _ _ h => h) (Or.inl ⟨by rfl, ?_⟩) (by assumption) ?_
  rotate_left
  · (intro w hSw; (try dsimp only at hSw); go_simp; try with_reducible rfl)
  try simp only [Act.put, List.setIfInBounds_toArray, List.set_cons_zero, List.set_cons_succ]
  refine wpAnyH_done (by kernel_rfl) ?_ _
  try simp only [List.set_cons_succ, List.set_cons_zero]
  obtain ⟨a2, _⟩ := HCELL.out _ K5.out
  go_wp2_with fail
  with_reducible refine (HMI.out _ _ w5.heap.size (w5.heap.size + 1) _ _ _ (runs_lit1 w5 (2 + jr) (se - (2 + jr))) (RunsIn.of_own (World.ownsRow.alloc ROW5.out _))).mono ?_
  rintro e w6 ⟨u6, rfl, hown6, k6⟩
  have K6 := Lib.hid ((K5.out.alloc (.cells #[.int .i64 (2 + jr), .int .i64 (se - (2 + jr))] 128)).trans k6)
  have OWN6 := Lib.hid (ownsRow_base hown6 (K5.out.alloc (.cells #[.int .i64 (2 + jr), .int .i64 (se - (2 + jr))] 128)).size)
  obtain ⟨p6, c6, rfl⟩ := own_shape hown6
  clear hown6 k6
  go_wp2_with fail
  go_ret
  exact ⟨_, rfl, OWN6.out, K6.out⟩
end Go.Proofs.YtdkimcnlhmhpgaaGreat
