/- -/
import Derived.Test.YtdkimcnlhmhpgaaGreatH37
import Derived.Test.YtdkimcnlhmhpgaaGreatH41
import Derived.Test.YtdkimcnlhmhpgaaGreatH42
set_option linter.unusedVariables false
set_option linter.unusedSimpArgs false
namespace Go.Proofs.YtdkimcnlhmhpgaaGreat
open Go.RowKit
theorem ufree {T : List Nat} {w : World} {B b sb mb lo : Nat} {v : VS} (hV : VolAt T w B b sb mb lo v) (hm : v.s.may) (hc : mayC v.c) (hf : v.c.boxes.length + v.c.mans.length + v.c.names.length ≤ 5000) :
  Calls Tryz.prog 17 #[.pointer (some ⟨B, 0, none⟩)] w fun e w' => e = .returned (.int .i64 (countL (roomX v))) ∧ Kept [] w w' := by
 have HR := Lib.hid (uroom hV hm hc hf)
 have hp : Pl 0 (roomX v) := minus_pl _ _
 have HC : Hid (∀ W u lo1 hi1, RunsIn W u (roomX v) lo1 hi1 → Calls Tryz.prog 65 #[u] W fun e w' => e = .returned (.int .i64 (countL (roomX v))) ∧ Kept [] W w') := Lib.hid (fun W u lo1 hi1 h => xcount u _ lo1 hi1 W h (by have := hp.len0; omega) (wf_of_pl hp))
 obtain ⟨sv, vb, vm, vn, o, _, _⟩ := hV.vol
 obtain ⟨x0, x1, x2, x3, x4, x5, x6, x7, x8, x9, x10, x11, x12⟩ := o.c13
 clear hV hm hc hf hp o x1 x2 x3 x4 x5 x6 x7 x8 x9 x10 x11 x12
 go_enter Tryz.func17, Tryz.ntmps17
 go_wp2_with fail
 refine (HR.out).mono ?_; intro e w2 hg
 obtain ⟨u, rfl, hu, k2⟩ := hg.runs
 have HU := Lib.hid hu
 have K2 := Lib.hid k2
 obtain ⟨p, c, rfl⟩ := hu.shape
 clear hu k2 hg
 go_wp2_with fail
 refine (HC.out _ _ _ _ HU.out).mono ?_; rintro e w3 ⟨rfl, k3⟩
 have K3 := Lib.hid (K2.out.trans k3)
 clear k3
 go_wp2_with fail
 go_ret
 exact ⟨rfl, K3.out⟩
theorem find_mem {p : JItem → Bool} {l : List JItem} {x : JItem} (h : findX p l = (x, true)) : x ∈ l := by
 unfold findX at h
 cases hf : l.find? p with
 | none => rw [hf] at h; cases h
 | some y =>
  rw [hf] at h
  injection h with h _
  subst h
  exact List.mem_of_find?_eq_some hf
theorem runs_not_item {w : World} {v : Value} {l : List (Int × Int)} {lo hi : Nat} {t : TypeId} (h : RunsIn (w.alloc (.cells #[.int .u32 0, .string { data := #[] }, .int .i64 0, .slice none 0 0] t)) v l lo hi) : RunsIn w v l 0 w.heap.size := by
 rcases h with h | ⟨b, off, c, e, h2, h3, h4, h5, h6, h7⟩
 ·exact Or.inl h
 ·have k := (Kept.refl [] w).alloc (.cells #[.int .u32 0, .string { data := #[] }, .int .i64 0, .slice none 0 0] t)
  have hsz : (w.alloc (.cells #[.int .u32 0, .string { data := #[] }, .int .i64 0, .slice none 0 0] t)).heap.size = w.heap.size + 1 := by simp
  by_cases hb : b < w.heap.size
  ·refine Or.inr ⟨b, off, c, e, fun i hi => ?_, Nat.zero_le _, hb, Nat.le_refl _, h6, h7⟩
   rw [← k.cell (a := ⟨b, off + i * 2, none⟩) hb (by simp), ← k.cell (a := ⟨b, off + i * 2 + 1, none⟩) hb (by simp)]
   exact h2 i hi
  ·exfalso
   have hbe : b = w.heap.size := by omega
   subst hbe
   have o := Own.new w #[.int .u32 0, .string { data := #[] }, .int .i64 0, .slice none 0 0] t
   obtain ⟨c0, c1, c2, c3⟩ := o.c4
   have hp : 0 < l.length := List.length_pos_iff.2 h6
   obtain ⟨g0, g1⟩ := h2 0 hp
   rw [Nat.zero_mul, Nat.add_zero] at g0 g1
   match off, g0, g1 with
   | 0, g0, _ => rw [c0] at g0; simp at g0
   | 1, g0, _ => rw [c1] at g0; simp at g0
   | 2, _, g1 => rw [c3] at g1; simp at g1
   | 3, g0, _ => rw [c3] at g0; simp at g0
   | n + 4, g0, _ =>
    have hn : (w.alloc (.cells #[.int .u32 0, .string { data := #[] }, .int .i64 0, .slice none 0 0] t)).cell? ⟨w.heap.size, n + 4, none⟩ = none := by
     have h' : (w.alloc (.cells #[.int .u32 0, .string { data := #[] }, .int .i64 0, .slice none 0 0] t)).heap[w.heap.size]? = some (.cells #[.int .u32 0, .string { data := #[] }, .int .i64 0, .slice none 0 0] t (0, 0)) := o
     unfold World.cell?
     simp only
     rw [h']
     simp
    rw [hn] at g0; cases g0
def VReadSays (T : List Nat) (B b sb mb lo : Nat) (R : List UInt8 × Int × VS) (w : World) (e : Ending) (w' : World) : Prop :=
 e = .returned (.tuple #[.string (bs R.1), .int .i64 R.2.1]) ∧ VolAt T w' B b sb mb lo R.2.2 ∧ Kept [B] w w'
set_option maxRecDepth 100000 in
set_option maxHeartbeats 8000000 in
theorem uread1 {T : List Nat} {w : World} {B b sb mb lo : Nat} {v : VS} (id : Int) (nm : List UInt8) (hV : VolAt T w B b sb mb lo v) (hc : mayC v.c) (hd : v.dead = false) :
  Calls Tryz.prog 15 #[.pointer (some ⟨B, 0, none⟩), .int .i64 1, .int .u32 id, .string (bs nm)] w (VReadSays T B b sb mb lo (readX v 1 id nm) w) := by
 have HCH := Lib.hid (ucheck hV)
 rw [hd, if_neg (by simp)] at HCH
 have hask : askX v.c 1 id nm = findX (fun x => x.id == id) v.c.boxes := by unfold askX; rw [if_pos rfl]
 have hrd : readX v 1 id nm = if (findX (fun x => x.id == id) v.c.boxes).2 = false then ([], 6, v) else (getX v.d (findX (fun x => x.id == id) v.c.boxes).1.runs (findX (fun x => x.id == id) v.c.boxes).1.size, getCode v.d (findX (fun x => x.id == id) v.c.boxes).1.runs (findX (fun x => x.id == id) v.c.boxes).1.size, ⟨v.d, v.s, v.c, getCode v.d (findX (fun x => x.id == id) v.c.boxes).1.runs (findX (fun x => x.id == id) v.c.boxes).1.size == 90⟩) := by
  unfold readX
  rw [if_neg (by rw [hd]; simp), if_neg (by simp), hask]
 obtain ⟨sv, vb, vm, vn, o, _, hcat⟩ := hV.vol
 have HF : Hid (∀ W, Kept [] w W → Calls Tryz.prog 57 #[.agg #[.int .u32 v.c.nextBox, .int .u32 v.c.nextMan, vb, vm, vn], .int .u32 id] W (FindSays W (findX (fun x => x.id == id) v.c.boxes) W)) := Lib.hid (fun W k => zFind_box _ _ v.c W (hcat.plain.kept0 k) hc.small)
 have HO : Hid (∀ W, Kept [] w W → W.cell? ⟨B, 0, none⟩ = some (.pointer (some ⟨b, 0, none⟩))) := Lib.hid (fun W k => (k.own o (by simp)).cell 0 (by simp [volCells]))
 have hlen : ∀ x, findX (fun x => x.id == id) v.c.boxes = (x, true) → x.runs.length ≤ 16 := fun x hx => may_runs (hc.boxes.2.1 x (find_mem hx))
 have HG : Hid (∀ (W : World) (u : Value) (lo1 hi1 : Nat) (x : JItem), Kept [] w W → RunsIn W u x.runs lo1 hi1 → x.fits → (∀ a ∈ x.runs, WfRun a) → x.runs.length ≤ 16 → Calls Tryz.prog 60 #[.pointer (some ⟨b, 0, none⟩), u, .int .i64 x.size] W fun e w' => e = .returned (.tuple #[.string (bs (getX v.d x.runs x.size)), .int .i64 (getCode v.d x.runs x.size)]) ∧ Kept [] W w') := Lib.hid (fun W u lo1 hi1 (x : JItem) k h1 h2 h3 h4 => bgetP u x.runs x.size lo1 hi1 (hV.da.keep0 k) h1 (by omega) h3 h2.2.2)
 have HT : Hid (∀ W c, Kept [] w W → (Lit.int .i64 c).wf = true → Calls Tryz.prog 51 #[.pointer (some ⟨B, 0, none⟩), .int .i64 c] W fun e w' => e = .returned (.int .i64 c) ∧ VolAt T w' B b sb mb lo ⟨v.d, v.s, v.c, c == 90⟩ ∧ Kept [B] W w') := Lib.hid (fun W c k hcw => by
  have h := utell (hV.keep0 k) c hcw
  unfold tellX at h
  rw [hd, Bool.false_or] at h
  exact h)
 have HV := Lib.hid hV
 have HOA : Hid (∀ W, Kept [] w W → W.cell? ⟨B, 0, none⟩ = some (.pointer (some ⟨b, 0, none⟩)) ∧ W.cell? ⟨B, 7, none⟩ = some (.int .u32 v.c.nextBox) ∧ W.cell? ⟨B, 8, none⟩ = some (.int .u32 v.c.nextMan) ∧ W.cell? ⟨B, 9, none⟩ = some vb ∧ W.cell? ⟨B, 10, none⟩ = some vm ∧ W.cell? ⟨B, 11, none⟩ = some vn) := Lib.hid (fun W k => by
  obtain ⟨a0, _, _, _, _, _, _, a7, a8, a9, a10, a11, _⟩ := (k.own o (by simp)).c13
  exact ⟨a0, a7, a8, a9, a10, a11⟩)
 obtain ⟨x0, x7, x8, x9, x10, x11⟩ := HOA.out (w.alloc (.cells #[.int .u32 0, .string { data := #[] }, .int .i64 0, .slice none 0 0] 113)) ((Kept.refl [] w).alloc _)
 rw [hrd]
 have HLEN := Lib.hid hlen
 have HGC : Hid (∀ l n, (Lit.int .i64 (getCode v.d l n)).wf = true) := Lib.hid (fun l n => by unfold getCode; split; split; decide; decide; decide)
 clear hV hc hd hask hrd hcat hlen o
 generalize findX (fun x => x.id == id) v.c.boxes = X at *
 obtain ⟨X, there⟩ := X
 have oXA := Own.new w #[.int .u32 0, .string { data := #[] }, .int .i64 0, .slice none 0 0] 113
 have HOXA := Lib.hid oXA
 clear oXA
 cases there
 ·simp only [if_true]
  go_enter Tryz.func15, Tryz.ntmps15
  go_wp2_with fail
  refine HCH.out.mono ?_; rintro e w2 ⟨rfl, rfl⟩
  go_wp2_with fail
  refine (HF.out _ ?_).mono ?_
  ·exact (Kept.refl _ _).alloc _
  rintro e w3 ⟨kv, rfl, hok, k3⟩
  obtain ⟨pk, ck, ekv⟩ : ∃ p c, kv = .slice p X.runs.length c := hok.1.shape
  subst ekv
  unfold JItem.cells
  have ox := k3.own HOXA.out (by simp)
  obtain ⟨y0, y1, y2, y3⟩ := ox.c4
  obtain ⟨z0, z1, z2, z3⟩ := ox.z4
  have kk := ((Kept.refl [] w).alloc (.cells #[.int .u32 0, .string { data := #[] }, .int .i64 0, .slice none 0 0] 113)).trans k3
  have kf := (((kk.setCell (p := ⟨w.heap.size, 0, none⟩) (Or.inr (Nat.le_refl _)) (.int .u32 X.id)).setCell (p := ⟨w.heap.size, 1, none⟩) (Or.inr (Nat.le_refl _)) (.string (bs X.name))).setCell (p := ⟨w.heap.size, 2, none⟩) (Or.inr (Nat.le_refl _)) (.int .i64 X.size)).setCell (p := ⟨w.heap.size, 3, none⟩) (Or.inr (Nat.le_refl _)) (.slice pk X.runs.length ck)
  have KF := Lib.hid kf
  clear ox kk kf k3 hok
  go_wp2_with fail
  go_ret2
  exact ⟨rfl, HV.out.keep0 KF.out, KF.out.mono (by simp)⟩
 ·simp only [Bool.true_eq_false, if_false]
  have hl16 := HLEN.out X rfl
  have HL16 := Lib.hid hl16
  clear hl16
  go_enter Tryz.func15, Tryz.ntmps15
  go_wp2_with fail
  refine HCH.out.mono ?_; rintro e w2 ⟨rfl, rfl⟩
  go_wp2_with fail
  refine (HF.out _ ?_).mono ?_
  ·exact (Kept.refl _ _).alloc _
  rintro e w3 ⟨kv, rfl, hok, k3⟩
  obtain ⟨pk, ck, ekv⟩ : ∃ p c, kv = .slice p X.runs.length c := hok.1.shape
  subst ekv
  unfold JItem.cells
  have ox := k3.own HOXA.out (by simp)
  obtain ⟨y0, y1, y2, y3⟩ := ox.c4
  obtain ⟨z0, z1, z2, z3⟩ := ox.z4
  have kk := ((Kept.refl [] w).alloc (.cells #[.int .u32 0, .string { data := #[] }, .int .i64 0, .slice none 0 0] 113)).trans k3
  have HKK := Lib.hid kk
  obtain ⟨ok1, ok2, ok3⟩ := hok
  have HOK1 := Lib.hid ok1
  have HOK2 := Lib.hid ok2
  have HOK3 := Lib.hid ok3
  have HOX := Lib.hid ox
  have HK3 := Lib.hid k3
  clear ox kk k3 ok1 ok2 ok3
  go_upto_region 16 with fail
  have kf := (((HKK.out.setCell (p := ⟨w.heap.size, 0, none⟩) (Or.inr (Nat.le_refl _)) (.int .u32 X.id)).setCell (p := ⟨w.heap.size, 1, none⟩) (Or.inr (Nat.le_refl _)) (.string (bs X.name))).setCell (p := ⟨w.heap.size, 2, none⟩) (Or.inr (Nat.le_refl _)) (.int .i64 X.size)).setCell (p := ⟨w.heap.size, 3, none⟩) (Or.inr (Nat.le_refl _)) (.slice pk X.runs.length ck)
  have of : Own ((((w3.setCell ⟨w.heap.size, 0, none⟩ (.int .u32 X.id)).setCell ⟨w.heap.size, 1, none⟩ (.string (bs X.name))).setCell ⟨w.heap.size, 2, none⟩ (.int .i64 X.size)).setCell ⟨w.heap.size, 3, none⟩ (.slice pk X.runs.length ck)) w.heap.size #[.int .u32 X.id, .string (bs X.name), .int .i64 X.size, .slice pk X.runs.length ck] 113 := (((HOX.out.set 0 (.int .u32 X.id)).set 1 (.string (bs X.name))).set 2 (.int .i64 X.size)).set 3 (.slice pk X.runs.length ck)
  generalize ((((w3.setCell ⟨w.heap.size, 0, none⟩ (.int .u32 X.id)).setCell ⟨w.heap.size, 1, none⟩ (.string (bs X.name))).setCell ⟨w.heap.size, 2, none⟩ (.int .i64 X.size)).setCell ⟨w.heap.size, 3, none⟩ (.slice pk X.runs.length ck)) = w4 at *
  have hr4 := (runs_not_item HOK1.out).kept0 kf
  have HR4 := Lib.hid hr4
  have KF := Lib.hid kf
  have HOF := Lib.hid of
  have HS16 : Hid (∀ W, Kept [] w4 W → W.cell? ⟨B, 0, none⟩ = some (.pointer (some ⟨b, 0, none⟩)) ∧ W.cell? ⟨w.heap.size, 2, none⟩ = some (.int .i64 X.size) ∧ W.cell? ⟨w.heap.size, 3, none⟩ = some (.slice pk X.runs.length ck)) := Lib.hid (fun W k => by
   obtain ⟨_, _, e2, e3⟩ := (k.own HOF.out (by simp)).c4
   exact ⟨HO.out W (KF.out.trans k), e2, e3⟩)
  clear of kf hr4 y0 y1 y2 y3 z0 z1 z2 z3 x0 x7 x8 x9 x10 x11
  obtain ⟨y0, y1, y2⟩ := HS16.out w4 (Kept.refl _ _)
  refine wp_region_held_drew (S := (fun W => W.cell? ⟨B, 0, none⟩ = some (.pointer (some ⟨b, 0, none⟩)) ∧ W.cell? ⟨w.heap.size, 2, none⟩ = some (.int .i64 X.size) ∧ W.cell? ⟨w.heap.size, 3, none⟩ = some (.slice pk X.runs.length ck))) (by kernel_rfl) (by exact HS16.out _ ((Kept.refl [] w4).drew)) (fun hHeld => ?_)
  refine take_at (i := 0) (d := some 57) (v := ?_) rfl rfl (by kernel_rfl) (by kernel_rfl) (by kernel_rfl) (fun _ _ _ h => h) (Or.inl ⟨by rfl, ?_⟩) (by assumption) ?_
  rotate_left
  ·(intro w hSw; (try dsimp only at hSw); go_simp; try with_reducible rfl)
  try simp only [Act.put, List.setIfInBounds_toArray, List.set_cons_zero, List.set_cons_succ]
  refine take_at (i := 1) (d := some 58) (v := ?_) rfl rfl (by kernel_rfl) (by kernel_rfl) (by kernel_rfl) (fun _ _ _ h => h) (Or.inl ⟨by rfl, ?_⟩) (by assumption) ?_
  rotate_left
  ·(intro w hSw; (try dsimp only at hSw); go_simp; try with_reducible rfl)
  try simp only [Act.put, List.setIfInBounds_toArray, List.set_cons_zero, List.set_cons_succ]
  refine take_at (i := 2) (d := some 59) (v := ?_) rfl rfl (by kernel_rfl) (by kernel_rfl) (by kernel_rfl) (fun _ _ _ h => h) (Or.inl ⟨by rfl, ?_⟩) (by assumption) ?_
  rotate_left
  ·(intro w hSw; (try dsimp only at hSw); go_simp; try with_reducible rfl)
  try simp only [Act.put, List.setIfInBounds_toArray, List.set_cons_zero, List.set_cons_succ]
  refine take_at (i := 3) (d := some 60) (v := ?_) rfl rfl (by kernel_rfl) (by kernel_rfl) (by kernel_rfl) (fun _ _ _ h => h) (Or.inl ⟨by rfl, ?_⟩) (by assumption) ?_
  rotate_left
  ·(intro w hSw; (try dsimp only at hSw); go_simp; try with_reducible rfl)
  try simp only [Act.put, List.setIfInBounds_toArray, List.set_cons_zero, List.set_cons_succ]
  refine take_at (i := 4) (d := some 61) (v := ?_) rfl rfl (by kernel_rfl) (by kernel_rfl) (by kernel_rfl) (fun _ _ _ h => h) (Or.inl ⟨by rfl, ?_⟩) (by assumption) ?_
  rotate_left
  ·(intro w hSw; (try dsimp only at hSw); go_simp; try with_reducible rfl)
  try simp only [Act.put, List.setIfInBounds_toArray, List.set_cons_zero, List.set_cons_succ]
  refine take_at (i := 5) (d := some 62) (v := ?_) rfl rfl (by kernel_rfl) (by kernel_rfl) (by kernel_rfl) (fun _ _ _ h => h) (Or.inl ⟨by rfl, ?_⟩) (by assumption) ?_
  rotate_left
  ·(intro w hSw; (try dsimp only at hSw); go_simp; try with_reducible rfl)
  try simp only [Act.put, List.setIfInBounds_toArray, List.set_cons_zero, List.set_cons_succ]
  refine take_at (i := 6) (d := some 63) (v := ?_) rfl rfl (by kernel_rfl) (by kernel_rfl) (by kernel_rfl) (fun _ _ _ h => h) (Or.inl ⟨by rfl, ?_⟩) (by assumption) ?_
  rotate_left
  ·(intro w hSw; (try dsimp only at hSw); go_simp; try with_reducible rfl)
  try simp only [Act.put, List.setIfInBounds_toArray, List.set_cons_zero, List.set_cons_succ]
  refine take_at (i := 7) (d := some 64) (v := ?_) rfl rfl (by kernel_rfl) (by kernel_rfl) (by kernel_rfl) (fun _ _ _ h => h) (Or.inl ⟨by rfl, ?_⟩) (by assumption) ?_
  rotate_left
  ·(intro w hSw; (try dsimp only at hSw); go_simp; try with_reducible rfl)
  try simp only [Act.put, List.setIfInBounds_toArray, List.set_cons_zero, List.set_cons_succ]
  refine wpAnyH_ready (rs := [8]) (by kernel_rfl) (by simp) ?_
  refine (AllReadyH.cons rfl (fun K hK => ?_) AllReadyH.nil)
  go_simp
  ((with_reducible refine (HG.out _ _ _ _ X ((KF.out).drew) (HR4.out.kept0 ((Kept.refl [] w4).drew)) HOK2.out HOK3.out HL16.out).mono ?_)); rintro e w5 ⟨rfl, k5⟩
  have kk5 := ((Kept.refl [] w4).drew).trans k5
  have K5 := Lib.hid kk5
  clear kk5 k5
  go_wp2_with fail
  refine hK.out _ _ ?_ (fun hHeld => ?_)
  ·exact HS16.out _ K5.out
  clear hK K
  try simp only [Act.put, List.setIfInBounds_toArray, List.set_cons_zero, List.set_cons_succ]
  refine take_at (i := 9) (d := some 56) (v := ?_) rfl rfl (by kernel_rfl) (by kernel_rfl) (by kernel_rfl) (fun _ _ _ h => h) (Or.inl ⟨by rfl, ?_⟩) (by assumption) ?_
  rotate_left
  ·(intro w hSw; (try dsimp only at hSw); go_simp; try with_reducible rfl)
  try simp only [Act.put, List.setIfInBounds_toArray, List.set_cons_zero, List.set_cons_succ]
  refine take_at (i := 10) (d := some 66) (v := ?_) rfl rfl (by kernel_rfl) (by kernel_rfl) (by kernel_rfl) (fun _ _ _ h => h) (Or.inl ⟨by rfl, ?_⟩) (by assumption) ?_
  rotate_left
  ·(intro w hSw; (try dsimp only at hSw); go_simp; try with_reducible rfl)
  try simp only [Act.put, List.setIfInBounds_toArray, List.set_cons_zero, List.set_cons_succ]
  refine take_at (i := 11) (d := some 67) (v := ?_) rfl rfl (by kernel_rfl) (by kernel_rfl) (by kernel_rfl) (fun _ _ _ h => h) (Or.inl ⟨by rfl, ?_⟩) (by assumption) ?_
  rotate_left
  ·(intro w hSw; (try dsimp only at hSw); go_simp; try with_reducible rfl)
  try simp only [Act.put, List.setIfInBounds_toArray, List.set_cons_zero, List.set_cons_succ]
  refine take_at (i := 12) (d := some 13) (v := ?_) rfl rfl (by kernel_rfl) (by kernel_rfl) (by kernel_rfl) (fun _ _ _ h => h) (Or.inl ⟨by rfl, ?_⟩) (by assumption) ?_
  rotate_left
  ·(intro w hSw; (try dsimp only at hSw); go_simp; try with_reducible rfl)
  try simp only [Act.put, List.setIfInBounds_toArray, List.set_cons_zero, List.set_cons_succ]
  refine take_at (i := 13) (d := some 14) (v := ?_) rfl rfl (by kernel_rfl) (by kernel_rfl) (by kernel_rfl) (fun _ _ _ h => h) (Or.inl ⟨by rfl, ?_⟩) (by assumption) ?_
  rotate_left
  ·(intro w hSw; (try dsimp only at hSw); go_simp; try with_reducible rfl)
  try simp only [Act.put, List.setIfInBounds_toArray, List.set_cons_zero, List.set_cons_succ]
  refine wpAnyH_done (by kernel_rfl) ?_ _
  try simp only [List.set_cons_succ, List.set_cons_zero]
  have KW := Lib.hid (KF.out.trans K5.out)
  have hgc := HGC.out X.runs X.size
  have HT5 := Lib.hid (HT.out w5 _ (KF.out.trans K5.out) hgc)
  clear hgc y0 y1 y2
  generalize getCode v.d X.runs X.size = GC at *
  generalize getX v.d X.runs X.size = GX at *
  go_wp2_with fail
  refine HT5.out.mono ?_; rintro e w6 ⟨rfl, hV6, k6⟩
  have HV6 := Lib.hid hV6
  have K6 := Lib.hid ((KW.out.mono (by simp)).trans k6)
  clear hV6 k6
  go_wp2_with fail
  go_ret2
  exact ⟨rfl, HV6.out, K6.out⟩
set_option maxRecDepth 100000 in
set_option maxHeartbeats 8000000 in
theorem uread2 {T : List Nat} {w : World} {B b sb mb lo : Nat} {v : VS} (id : Int) (nm : List UInt8) (hV : VolAt T w B b sb mb lo v) (hc : mayC v.c) (hd : v.dead = false) :
  Calls Tryz.prog 15 #[.pointer (some ⟨B, 0, none⟩), .int .i64 2, .int .u32 id, .string (bs nm)] w (VReadSays T B b sb mb lo (readX v 2 id nm) w) := by
 have HCH := Lib.hid (ucheck hV)
 rw [hd, if_neg (by simp)] at HCH
 have hask : askX v.c 2 id nm = findX (fun x => x.id == id) v.c.mans := by unfold askX; rw [if_neg (by decide), if_pos rfl]
 have hrd : readX v 2 id nm = if (findX (fun x => x.id == id) v.c.mans).2 = false then ([], 6, v) else (getX v.d (findX (fun x => x.id == id) v.c.mans).1.runs (findX (fun x => x.id == id) v.c.mans).1.size, getCode v.d (findX (fun x => x.id == id) v.c.mans).1.runs (findX (fun x => x.id == id) v.c.mans).1.size, ⟨v.d, v.s, v.c, getCode v.d (findX (fun x => x.id == id) v.c.mans).1.runs (findX (fun x => x.id == id) v.c.mans).1.size == 90⟩) := by
  unfold readX
  rw [if_neg (by rw [hd]; simp), if_neg (by simp), hask]
 obtain ⟨sv, vb, vm, vn, o, _, hcat⟩ := hV.vol
 have HF : Hid (∀ W, Kept [] w W → Calls Tryz.prog 58 #[.agg #[.int .u32 v.c.nextBox, .int .u32 v.c.nextMan, vb, vm, vn], .int .u32 id] W (FindSays W (findX (fun x => x.id == id) v.c.mans) W)) := Lib.hid (fun W k => zFind_man _ _ v.c W (hcat.plain.kept0 k) hc.small)
 have HO : Hid (∀ W, Kept [] w W → W.cell? ⟨B, 0, none⟩ = some (.pointer (some ⟨b, 0, none⟩))) := Lib.hid (fun W k => (k.own o (by simp)).cell 0 (by simp [volCells]))
 have hlen : ∀ x, findX (fun x => x.id == id) v.c.mans = (x, true) → x.runs.length ≤ 16 := fun x hx => may_runs (hc.mans.2.1 x (find_mem hx))
 have HG : Hid (∀ (W : World) (u : Value) (lo1 hi1 : Nat) (x : JItem), Kept [] w W → RunsIn W u x.runs lo1 hi1 → x.fits → (∀ a ∈ x.runs, WfRun a) → x.runs.length ≤ 16 → Calls Tryz.prog 60 #[.pointer (some ⟨b, 0, none⟩), u, .int .i64 x.size] W fun e w' => e = .returned (.tuple #[.string (bs (getX v.d x.runs x.size)), .int .i64 (getCode v.d x.runs x.size)]) ∧ Kept [] W w') := Lib.hid (fun W u lo1 hi1 (x : JItem) k h1 h2 h3 h4 => bgetP u x.runs x.size lo1 hi1 (hV.da.keep0 k) h1 (by omega) h3 h2.2.2)
 have HT : Hid (∀ W c, Kept [] w W → (Lit.int .i64 c).wf = true → Calls Tryz.prog 51 #[.pointer (some ⟨B, 0, none⟩), .int .i64 c] W fun e w' => e = .returned (.int .i64 c) ∧ VolAt T w' B b sb mb lo ⟨v.d, v.s, v.c, c == 90⟩ ∧ Kept [B] W w') := Lib.hid (fun W c k hcw => by
  have h := utell (hV.keep0 k) c hcw
  unfold tellX at h
  rw [hd, Bool.false_or] at h
  exact h)
 have HV := Lib.hid hV
 have HOA : Hid (∀ W, Kept [] w W → W.cell? ⟨B, 0, none⟩ = some (.pointer (some ⟨b, 0, none⟩)) ∧ W.cell? ⟨B, 7, none⟩ = some (.int .u32 v.c.nextBox) ∧ W.cell? ⟨B, 8, none⟩ = some (.int .u32 v.c.nextMan) ∧ W.cell? ⟨B, 9, none⟩ = some vb ∧ W.cell? ⟨B, 10, none⟩ = some vm ∧ W.cell? ⟨B, 11, none⟩ = some vn) := Lib.hid (fun W k => by
  obtain ⟨a0, _, _, _, _, _, _, a7, a8, a9, a10, a11, _⟩ := (k.own o (by simp)).c13
  exact ⟨a0, a7, a8, a9, a10, a11⟩)
 obtain ⟨x0, x7, x8, x9, x10, x11⟩ := HOA.out (w.alloc (.cells #[.int .u32 0, .string { data := #[] }, .int .i64 0, .slice none 0 0] 113)) ((Kept.refl [] w).alloc _)
 rw [hrd]
 have HLEN := Lib.hid hlen
 have HGC : Hid (∀ l n, (Lit.int .i64 (getCode v.d l n)).wf = true) := Lib.hid (fun l n => by unfold getCode; split; split; decide; decide; decide)
 clear hV hc hd hask hrd hcat hlen o
 generalize findX (fun x => x.id == id) v.c.mans = X at *
 obtain ⟨X, there⟩ := X
 have oXA := Own.new w #[.int .u32 0, .string { data := #[] }, .int .i64 0, .slice none 0 0] 113
 have HOXA := Lib.hid oXA
 clear oXA
 cases there
 ·simp only [if_true]
  go_enter Tryz.func15, Tryz.ntmps15
  go_wp2_with fail
  refine HCH.out.mono ?_; rintro e w2 ⟨rfl, rfl⟩
  go_wp2_with fail
  refine (HF.out _ ?_).mono ?_
  ·exact (Kept.refl _ _).alloc _
  rintro e w3 ⟨kv, rfl, hok, k3⟩
  obtain ⟨pk, ck, ekv⟩ : ∃ p c, kv = .slice p X.runs.length c := hok.1.shape
  subst ekv
  unfold JItem.cells
  have ox := k3.own HOXA.out (by simp)
  obtain ⟨y0, y1, y2, y3⟩ := ox.c4
  obtain ⟨z0, z1, z2, z3⟩ := ox.z4
  have kk := ((Kept.refl [] w).alloc (.cells #[.int .u32 0, .string { data := #[] }, .int .i64 0, .slice none 0 0] 113)).trans k3
  have kf := (((kk.setCell (p := ⟨w.heap.size, 0, none⟩) (Or.inr (Nat.le_refl _)) (.int .u32 X.id)).setCell (p := ⟨w.heap.size, 1, none⟩) (Or.inr (Nat.le_refl _)) (.string (bs X.name))).setCell (p := ⟨w.heap.size, 2, none⟩) (Or.inr (Nat.le_refl _)) (.int .i64 X.size)).setCell (p := ⟨w.heap.size, 3, none⟩) (Or.inr (Nat.le_refl _)) (.slice pk X.runs.length ck)
  have KF := Lib.hid kf
  clear ox kk kf k3 hok
  go_wp2_with fail
  go_ret2
  exact ⟨rfl, HV.out.keep0 KF.out, KF.out.mono (by simp)⟩
 ·simp only [Bool.true_eq_false, if_false]
  have hl16 := HLEN.out X rfl
  have HL16 := Lib.hid hl16
  clear hl16
  go_enter Tryz.func15, Tryz.ntmps15
  go_wp2_with fail
  refine HCH.out.mono ?_; rintro e w2 ⟨rfl, rfl⟩
  go_wp2_with fail
  refine (HF.out _ ?_).mono ?_
  ·exact (Kept.refl _ _).alloc _
  rintro e w3 ⟨kv, rfl, hok, k3⟩
  obtain ⟨pk, ck, ekv⟩ : ∃ p c, kv = .slice p X.runs.length c := hok.1.shape
  subst ekv
  unfold JItem.cells
  have ox := k3.own HOXA.out (by simp)
  obtain ⟨y0, y1, y2, y3⟩ := ox.c4
  obtain ⟨z0, z1, z2, z3⟩ := ox.z4
  have kk := ((Kept.refl [] w).alloc (.cells #[.int .u32 0, .string { data := #[] }, .int .i64 0, .slice none 0 0] 113)).trans k3
  have HKK := Lib.hid kk
  obtain ⟨ok1, ok2, ok3⟩ := hok
  have HOK1 := Lib.hid ok1
  have HOK2 := Lib.hid ok2
  have HOK3 := Lib.hid ok3
  have HOX := Lib.hid ox
  have HK3 := Lib.hid k3
  clear ox kk k3 ok1 ok2 ok3
  go_upto_region 16 with fail
  have kf := (((HKK.out.setCell (p := ⟨w.heap.size, 0, none⟩) (Or.inr (Nat.le_refl _)) (.int .u32 X.id)).setCell (p := ⟨w.heap.size, 1, none⟩) (Or.inr (Nat.le_refl _)) (.string (bs X.name))).setCell (p := ⟨w.heap.size, 2, none⟩) (Or.inr (Nat.le_refl _)) (.int .i64 X.size)).setCell (p := ⟨w.heap.size, 3, none⟩) (Or.inr (Nat.le_refl _)) (.slice pk X.runs.length ck)
  have of : Own ((((w3.setCell ⟨w.heap.size, 0, none⟩ (.int .u32 X.id)).setCell ⟨w.heap.size, 1, none⟩ (.string (bs X.name))).setCell ⟨w.heap.size, 2, none⟩ (.int .i64 X.size)).setCell ⟨w.heap.size, 3, none⟩ (.slice pk X.runs.length ck)) w.heap.size #[.int .u32 X.id, .string (bs X.name), .int .i64 X.size, .slice pk X.runs.length ck] 113 := (((HOX.out.set 0 (.int .u32 X.id)).set 1 (.string (bs X.name))).set 2 (.int .i64 X.size)).set 3 (.slice pk X.runs.length ck)
  generalize ((((w3.setCell ⟨w.heap.size, 0, none⟩ (.int .u32 X.id)).setCell ⟨w.heap.size, 1, none⟩ (.string (bs X.name))).setCell ⟨w.heap.size, 2, none⟩ (.int .i64 X.size)).setCell ⟨w.heap.size, 3, none⟩ (.slice pk X.runs.length ck)) = w4 at *
  have hr4 := (runs_not_item HOK1.out).kept0 kf
  have HR4 := Lib.hid hr4
  have KF := Lib.hid kf
  have HOF := Lib.hid of
  have HS16 : Hid (∀ W, Kept [] w4 W → W.cell? ⟨B, 0, none⟩ = some (.pointer (some ⟨b, 0, none⟩)) ∧ W.cell? ⟨w.heap.size, 2, none⟩ = some (.int .i64 X.size) ∧ W.cell? ⟨w.heap.size, 3, none⟩ = some (.slice pk X.runs.length ck)) := Lib.hid (fun W k => by
   obtain ⟨_, _, e2, e3⟩ := (k.own HOF.out (by simp)).c4
   exact ⟨HO.out W (KF.out.trans k), e2, e3⟩)
  clear of kf hr4 y0 y1 y2 y3 z0 z1 z2 z3 x0 x7 x8 x9 x10 x11
  obtain ⟨y0, y1, y2⟩ := HS16.out w4 (Kept.refl _ _)
  refine wp_region_held_drew (S := (fun W => W.cell? ⟨B, 0, none⟩ = some (.pointer (some ⟨b, 0, none⟩)) ∧ W.cell? ⟨w.heap.size, 2, none⟩ = some (.int .i64 X.size) ∧ W.cell? ⟨w.heap.size, 3, none⟩ = some (.slice pk X.runs.length ck))) (by kernel_rfl) (by exact HS16.out _ ((Kept.refl [] w4).drew)) (fun hHeld => ?_)
  refine take_at (i := 0) (d := some 57) (v := ?_) rfl rfl (by kernel_rfl) (by kernel_rfl) (by kernel_rfl) (fun _ _ _ h => h) (Or.inl ⟨by rfl, ?_⟩) (by assumption) ?_
  rotate_left
  ·(intro w hSw; (try dsimp only at hSw); go_simp; try with_reducible rfl)
  try simp only [Act.put, List.setIfInBounds_toArray, List.set_cons_zero, List.set_cons_succ]
  refine take_at (i := 1) (d := some 58) (v := ?_) rfl rfl (by kernel_rfl) (by kernel_rfl) (by kernel_rfl) (fun _ _ _ h => h) (Or.inl ⟨by rfl, ?_⟩) (by assumption) ?_
  rotate_left
  ·(intro w hSw; (try dsimp only at hSw); go_simp; try with_reducible rfl)
  try simp only [Act.put, List.setIfInBounds_toArray, List.set_cons_zero, List.set_cons_succ]
  refine take_at (i := 2) (d := some 59) (v := ?_) rfl rfl (by kernel_rfl) (by kernel_rfl) (by kernel_rfl) (fun _ _ _ h => h) (Or.inl ⟨by rfl, ?_⟩) (by assumption) ?_
  rotate_left
  ·(intro w hSw; (try dsimp only at hSw); go_simp; try with_reducible rfl)
  try simp only [Act.put, List.setIfInBounds_toArray, List.set_cons_zero, List.set_cons_succ]
  refine take_at (i := 3) (d := some 60) (v := ?_) rfl rfl (by kernel_rfl) (by kernel_rfl) (by kernel_rfl) (fun _ _ _ h => h) (Or.inl ⟨by rfl, ?_⟩) (by assumption) ?_
  rotate_left
  ·(intro w hSw; (try dsimp only at hSw); go_simp; try with_reducible rfl)
  try simp only [Act.put, List.setIfInBounds_toArray, List.set_cons_zero, List.set_cons_succ]
  refine take_at (i := 4) (d := some 61) (v := ?_) rfl rfl (by kernel_rfl) (by kernel_rfl) (by kernel_rfl) (fun _ _ _ h => h) (Or.inl ⟨by rfl, ?_⟩) (by assumption) ?_
  rotate_left
  ·(intro w hSw; (try dsimp only at hSw); go_simp; try with_reducible rfl)
  try simp only [Act.put, List.setIfInBounds_toArray, List.set_cons_zero, List.set_cons_succ]
  refine take_at (i := 5) (d := some 62) (v := ?_) rfl rfl (by kernel_rfl) (by kernel_rfl) (by kernel_rfl) (fun _ _ _ h => h) (Or.inl ⟨by rfl, ?_⟩) (by assumption) ?_
  rotate_left
  ·(intro w hSw; (try dsimp only at hSw); go_simp; try with_reducible rfl)
  try simp only [Act.put, List.setIfInBounds_toArray, List.set_cons_zero, List.set_cons_succ]
  refine take_at (i := 6) (d := some 63) (v := ?_) rfl rfl (by kernel_rfl) (by kernel_rfl) (by kernel_rfl) (fun _ _ _ h => h) (Or.inl ⟨by rfl, ?_⟩) (by assumption) ?_
  rotate_left
  ·(intro w hSw; (try dsimp only at hSw); go_simp; try with_reducible rfl)
  try simp only [Act.put, List.setIfInBounds_toArray, List.set_cons_zero, List.set_cons_succ]
  refine take_at (i := 7) (d := some 64) (v := ?_) rfl rfl (by kernel_rfl) (by kernel_rfl) (by kernel_rfl) (fun _ _ _ h => h) (Or.inl ⟨by rfl, ?_⟩) (by assumption) ?_
  rotate_left
  ·(intro w hSw; (try dsimp only at hSw); go_simp; try with_reducible rfl)
  try simp only [Act.put, List.setIfInBounds_toArray, List.set_cons_zero, List.set_cons_succ]
  refine wpAnyH_ready (rs := [8]) (by kernel_rfl) (by simp) ?_
  refine (AllReadyH.cons rfl (fun K hK => ?_) AllReadyH.nil)
  go_simp
  ((with_reducible refine (HG.out _ _ _ _ X ((KF.out).drew) (HR4.out.kept0 ((Kept.refl [] w4).drew)) HOK2.out HOK3.out HL16.out).mono ?_)); rintro e w5 ⟨rfl, k5⟩
  have kk5 := ((Kept.refl [] w4).drew).trans k5
  have K5 := Lib.hid kk5
  clear kk5 k5
  go_wp2_with fail
  refine hK.out _ _ ?_ (fun hHeld => ?_)
  ·exact HS16.out _ K5.out
  clear hK K
  try simp only [Act.put, List.setIfInBounds_toArray, List.set_cons_zero, List.set_cons_succ]
  refine take_at (i := 9) (d := some 56) (v := ?_) rfl rfl (by kernel_rfl) (by kernel_rfl) (by kernel_rfl) (fun _ _ _ h => h) (Or.inl ⟨by rfl, ?_⟩) (by assumption) ?_
  rotate_left
  ·(intro w hSw; (try dsimp only at hSw); go_simp; try with_reducible rfl)
  try simp only [Act.put, List.setIfInBounds_toArray, List.set_cons_zero, List.set_cons_succ]
  refine take_at (i := 10) (d := some 66) (v := ?_) rfl rfl (by kernel_rfl) (by kernel_rfl) (by kernel_rfl) (fun _ _ _ h => h) (Or.inl ⟨by rfl, ?_⟩) (by assumption) ?_
  rotate_left
  ·(intro w hSw; (try dsimp only at hSw); go_simp; try with_reducible rfl)
  try simp only [Act.put, List.setIfInBounds_toArray, List.set_cons_zero, List.set_cons_succ]
  refine take_at (i := 11) (d := some 67) (v := ?_) rfl rfl (by kernel_rfl) (by kernel_rfl) (by kernel_rfl) (fun _ _ _ h => h) (Or.inl ⟨by rfl, ?_⟩) (by assumption) ?_
  rotate_left
  ·(intro w hSw; (try dsimp only at hSw); go_simp; try with_reducible rfl)
  try simp only [Act.put, List.setIfInBounds_toArray, List.set_cons_zero, List.set_cons_succ]
  refine take_at (i := 12) (d := some 13) (v := ?_) rfl rfl (by kernel_rfl) (by kernel_rfl) (by kernel_rfl) (fun _ _ _ h => h) (Or.inl ⟨by rfl, ?_⟩) (by assumption) ?_
  rotate_left
  ·(intro w hSw; (try dsimp only at hSw); go_simp; try with_reducible rfl)
  try simp only [Act.put, List.setIfInBounds_toArray, List.set_cons_zero, List.set_cons_succ]
  refine take_at (i := 13) (d := some 14) (v := ?_) rfl rfl (by kernel_rfl) (by kernel_rfl) (by kernel_rfl) (fun _ _ _ h => h) (Or.inl ⟨by rfl, ?_⟩) (by assumption) ?_
  rotate_left
  ·(intro w hSw; (try dsimp only at hSw); go_simp; try with_reducible rfl)
  try simp only [Act.put, List.setIfInBounds_toArray, List.set_cons_zero, List.set_cons_succ]
  refine wpAnyH_done (by kernel_rfl) ?_ _
  try simp only [List.set_cons_succ, List.set_cons_zero]
  have KW := Lib.hid (KF.out.trans K5.out)
  have hgc := HGC.out X.runs X.size
  have HT5 := Lib.hid (HT.out w5 _ (KF.out.trans K5.out) hgc)
  clear hgc y0 y1 y2
  generalize getCode v.d X.runs X.size = GC at *
  generalize getX v.d X.runs X.size = GX at *
  go_wp2_with fail
  refine HT5.out.mono ?_; rintro e w6 ⟨rfl, hV6, k6⟩
  have HV6 := Lib.hid hV6
  have K6 := Lib.hid ((KW.out.mono (by simp)).trans k6)
  clear hV6 k6
  go_wp2_with fail
  go_ret2
  exact ⟨rfl, HV6.out, K6.out⟩
set_option maxRecDepth 100000 in
set_option maxHeartbeats 8000000 in
theorem uread3 {T : List Nat} {w : World} {B b sb mb lo : Nat} {v : VS} (id : Int) (nm : List UInt8) (hV : VolAt T w B b sb mb lo v) (hc : mayC v.c) (hd : v.dead = false) :
  Calls Tryz.prog 15 #[.pointer (some ⟨B, 0, none⟩), .int .i64 3, .int .u32 id, .string (bs nm)] w (VReadSays T B b sb mb lo (readX v 3 id nm) w) := by
 have HCH := Lib.hid (ucheck hV)
 rw [hd, if_neg (by simp)] at HCH
 have hask : askX v.c 3 id nm = findX (fun x => x.name == nm) v.c.names := by unfold askX; rw [if_neg (by decide), if_neg (by decide)]
 have hrd : readX v 3 id nm = if (findX (fun x => x.name == nm) v.c.names).2 = false then ([], 6, v) else (getX v.d (findX (fun x => x.name == nm) v.c.names).1.runs (findX (fun x => x.name == nm) v.c.names).1.size, getCode v.d (findX (fun x => x.name == nm) v.c.names).1.runs (findX (fun x => x.name == nm) v.c.names).1.size, ⟨v.d, v.s, v.c, getCode v.d (findX (fun x => x.name == nm) v.c.names).1.runs (findX (fun x => x.name == nm) v.c.names).1.size == 90⟩) := by
  unfold readX
  rw [if_neg (by rw [hd]; simp), if_neg (by simp), hask]
 obtain ⟨sv, vb, vm, vn, o, _, hcat⟩ := hV.vol
 have HF : Hid (∀ W, Kept [] w W → Calls Tryz.prog 59 #[.agg #[.int .u32 v.c.nextBox, .int .u32 v.c.nextMan, vb, vm, vn], .string (bs nm)] W (FindSays W (findX (fun x => x.name == nm) v.c.names) W)) := Lib.hid (fun W k => zFind_name _ _ v.c W (hcat.plain.kept0 k) hc.small)
 have HO : Hid (∀ W, Kept [] w W → W.cell? ⟨B, 0, none⟩ = some (.pointer (some ⟨b, 0, none⟩))) := Lib.hid (fun W k => (k.own o (by simp)).cell 0 (by simp [volCells]))
 have hlen : ∀ x, findX (fun x => x.name == nm) v.c.names = (x, true) → x.runs.length ≤ 16 := fun x hx => may_runs (hc.names.2.1 x (find_mem hx))
 have HG : Hid (∀ (W : World) (u : Value) (lo1 hi1 : Nat) (x : JItem), Kept [] w W → RunsIn W u x.runs lo1 hi1 → x.fits → (∀ a ∈ x.runs, WfRun a) → x.runs.length ≤ 16 → Calls Tryz.prog 60 #[.pointer (some ⟨b, 0, none⟩), u, .int .i64 x.size] W fun e w' => e = .returned (.tuple #[.string (bs (getX v.d x.runs x.size)), .int .i64 (getCode v.d x.runs x.size)]) ∧ Kept [] W w') := Lib.hid (fun W u lo1 hi1 (x : JItem) k h1 h2 h3 h4 => bgetP u x.runs x.size lo1 hi1 (hV.da.keep0 k) h1 (by omega) h3 h2.2.2)
 have HT : Hid (∀ W c, Kept [] w W → (Lit.int .i64 c).wf = true → Calls Tryz.prog 51 #[.pointer (some ⟨B, 0, none⟩), .int .i64 c] W fun e w' => e = .returned (.int .i64 c) ∧ VolAt T w' B b sb mb lo ⟨v.d, v.s, v.c, c == 90⟩ ∧ Kept [B] W w') := Lib.hid (fun W c k hcw => by
  have h := utell (hV.keep0 k) c hcw
  unfold tellX at h
  rw [hd, Bool.false_or] at h
  exact h)
 have HV := Lib.hid hV
 have HOA : Hid (∀ W, Kept [] w W → W.cell? ⟨B, 0, none⟩ = some (.pointer (some ⟨b, 0, none⟩)) ∧ W.cell? ⟨B, 7, none⟩ = some (.int .u32 v.c.nextBox) ∧ W.cell? ⟨B, 8, none⟩ = some (.int .u32 v.c.nextMan) ∧ W.cell? ⟨B, 9, none⟩ = some vb ∧ W.cell? ⟨B, 10, none⟩ = some vm ∧ W.cell? ⟨B, 11, none⟩ = some vn) := Lib.hid (fun W k => by
  obtain ⟨a0, _, _, _, _, _, _, a7, a8, a9, a10, a11, _⟩ := (k.own o (by simp)).c13
  exact ⟨a0, a7, a8, a9, a10, a11⟩)
 obtain ⟨x0, x7, x8, x9, x10, x11⟩ := HOA.out (w.alloc (.cells #[.int .u32 0, .string { data := #[] }, .int .i64 0, .slice none 0 0] 113)) ((Kept.refl [] w).alloc _)
 rw [hrd]
 have HLEN := Lib.hid hlen
 have HGC : Hid (∀ l n, (Lit.int .i64 (getCode v.d l n)).wf = true) := Lib.hid (fun l n => by unfold getCode; split; split; decide; decide; decide)
 clear hV hc hd hask hrd hcat hlen o
 generalize findX (fun x => x.name == nm) v.c.names = X at *
 obtain ⟨X, there⟩ := X
 have oXA := Own.new w #[.int .u32 0, .string { data := #[] }, .int .i64 0, .slice none 0 0] 113
 have HOXA := Lib.hid oXA
 clear oXA
 cases there
 ·simp only [if_true]
  go_enter Tryz.func15, Tryz.ntmps15
  go_wp2_with fail
  refine HCH.out.mono ?_; rintro e w2 ⟨rfl, rfl⟩
  go_wp2_with fail
  refine (HF.out _ ?_).mono ?_
  ·exact (Kept.refl _ _).alloc _
  rintro e w3 ⟨kv, rfl, hok, k3⟩
  obtain ⟨pk, ck, ekv⟩ : ∃ p c, kv = .slice p X.runs.length c := hok.1.shape
  subst ekv
  unfold JItem.cells
  have ox := k3.own HOXA.out (by simp)
  obtain ⟨y0, y1, y2, y3⟩ := ox.c4
  obtain ⟨z0, z1, z2, z3⟩ := ox.z4
  have kk := ((Kept.refl [] w).alloc (.cells #[.int .u32 0, .string { data := #[] }, .int .i64 0, .slice none 0 0] 113)).trans k3
  have kf := (((kk.setCell (p := ⟨w.heap.size, 0, none⟩) (Or.inr (Nat.le_refl _)) (.int .u32 X.id)).setCell (p := ⟨w.heap.size, 1, none⟩) (Or.inr (Nat.le_refl _)) (.string (bs X.name))).setCell (p := ⟨w.heap.size, 2, none⟩) (Or.inr (Nat.le_refl _)) (.int .i64 X.size)).setCell (p := ⟨w.heap.size, 3, none⟩) (Or.inr (Nat.le_refl _)) (.slice pk X.runs.length ck)
  have KF := Lib.hid kf
  clear ox kk kf k3 hok
  go_wp2_with fail
  go_ret2
  exact ⟨rfl, HV.out.keep0 KF.out, KF.out.mono (by simp)⟩
 ·simp only [Bool.true_eq_false, if_false]
  have hl16 := HLEN.out X rfl
  have HL16 := Lib.hid hl16
  clear hl16
  go_enter Tryz.func15, Tryz.ntmps15
  go_wp2_with fail
  refine HCH.out.mono ?_; rintro e w2 ⟨rfl, rfl⟩
  go_wp2_with fail
  refine (HF.out _ ?_).mono ?_
  ·exact (Kept.refl _ _).alloc _
  rintro e w3 ⟨kv, rfl, hok, k3⟩
  obtain ⟨pk, ck, ekv⟩ : ∃ p c, kv = .slice p X.runs.length c := hok.1.shape
  subst ekv
  unfold JItem.cells
  have ox := k3.own HOXA.out (by simp)
  obtain ⟨y0, y1, y2, y3⟩ := ox.c4
  obtain ⟨z0, z1, z2, z3⟩ := ox.z4
  have kk := ((Kept.refl [] w).alloc (.cells #[.int .u32 0, .string { data := #[] }, .int .i64 0, .slice none 0 0] 113)).trans k3
  have HKK := Lib.hid kk
  obtain ⟨ok1, ok2, ok3⟩ := hok
  have HOK1 := Lib.hid ok1
  have HOK2 := Lib.hid ok2
  have HOK3 := Lib.hid ok3
  have HOX := Lib.hid ox
  have HK3 := Lib.hid k3
  clear ox kk k3 ok1 ok2 ok3
  go_upto_region 16 with fail
  have kf := (((HKK.out.setCell (p := ⟨w.heap.size, 0, none⟩) (Or.inr (Nat.le_refl _)) (.int .u32 X.id)).setCell (p := ⟨w.heap.size, 1, none⟩) (Or.inr (Nat.le_refl _)) (.string (bs X.name))).setCell (p := ⟨w.heap.size, 2, none⟩) (Or.inr (Nat.le_refl _)) (.int .i64 X.size)).setCell (p := ⟨w.heap.size, 3, none⟩) (Or.inr (Nat.le_refl _)) (.slice pk X.runs.length ck)
  have of : Own ((((w3.setCell ⟨w.heap.size, 0, none⟩ (.int .u32 X.id)).setCell ⟨w.heap.size, 1, none⟩ (.string (bs X.name))).setCell ⟨w.heap.size, 2, none⟩ (.int .i64 X.size)).setCell ⟨w.heap.size, 3, none⟩ (.slice pk X.runs.length ck)) w.heap.size #[.int .u32 X.id, .string (bs X.name), .int .i64 X.size, .slice pk X.runs.length ck] 113 := (((HOX.out.set 0 (.int .u32 X.id)).set 1 (.string (bs X.name))).set 2 (.int .i64 X.size)).set 3 (.slice pk X.runs.length ck)
  generalize ((((w3.setCell ⟨w.heap.size, 0, none⟩ (.int .u32 X.id)).setCell ⟨w.heap.size, 1, none⟩ (.string (bs X.name))).setCell ⟨w.heap.size, 2, none⟩ (.int .i64 X.size)).setCell ⟨w.heap.size, 3, none⟩ (.slice pk X.runs.length ck)) = w4 at *
  have hr4 := (runs_not_item HOK1.out).kept0 kf
  have HR4 := Lib.hid hr4
  have KF := Lib.hid kf
  have HOF := Lib.hid of
  have HS16 : Hid (∀ W, Kept [] w4 W → W.cell? ⟨B, 0, none⟩ = some (.pointer (some ⟨b, 0, none⟩)) ∧ W.cell? ⟨w.heap.size, 2, none⟩ = some (.int .i64 X.size) ∧ W.cell? ⟨w.heap.size, 3, none⟩ = some (.slice pk X.runs.length ck)) := Lib.hid (fun W k => by
   obtain ⟨_, _, e2, e3⟩ := (k.own HOF.out (by simp)).c4
   exact ⟨HO.out W (KF.out.trans k), e2, e3⟩)
  clear of kf hr4 y0 y1 y2 y3 z0 z1 z2 z3 x0 x7 x8 x9 x10 x11
  obtain ⟨y0, y1, y2⟩ := HS16.out w4 (Kept.refl _ _)
  refine wp_region_held_drew (S := (fun W => W.cell? ⟨B, 0, none⟩ = some (.pointer (some ⟨b, 0, none⟩)) ∧ W.cell? ⟨w.heap.size, 2, none⟩ = some (.int .i64 X.size) ∧ W.cell? ⟨w.heap.size, 3, none⟩ = some (.slice pk X.runs.length ck))) (by kernel_rfl) (by exact HS16.out _ ((Kept.refl [] w4).drew)) (fun hHeld => ?_)
  refine take_at (i := 0) (d := some 57) (v := ?_) rfl rfl (by kernel_rfl) (by kernel_rfl) (by kernel_rfl) (fun _ _ _ h => h) (Or.inl ⟨by rfl, ?_⟩) (by assumption) ?_
  rotate_left
  ·(intro w hSw; (try dsimp only at hSw); go_simp; try with_reducible rfl)
  try simp only [Act.put, List.setIfInBounds_toArray, List.set_cons_zero, List.set_cons_succ]
  refine take_at (i := 1) (d := some 58) (v := ?_) rfl rfl (by kernel_rfl) (by kernel_rfl) (by kernel_rfl) (fun _ _ _ h => h) (Or.inl ⟨by rfl, ?_⟩) (by assumption) ?_
  rotate_left
  ·(intro w hSw; (try dsimp only at hSw); go_simp; try with_reducible rfl)
  try simp only [Act.put, List.setIfInBounds_toArray, List.set_cons_zero, List.set_cons_succ]
  refine take_at (i := 2) (d := some 59) (v := ?_) rfl rfl (by kernel_rfl) (by kernel_rfl) (by kernel_rfl) (fun _ _ _ h => h) (Or.inl ⟨by rfl, ?_⟩) (by assumption) ?_
  rotate_left
  ·(intro w hSw; (try dsimp only at hSw); go_simp; try with_reducible rfl)
  try simp only [Act.put, List.setIfInBounds_toArray, List.set_cons_zero, List.set_cons_succ]
  refine take_at (i := 3) (d := some 60) (v := ?_) rfl rfl (by kernel_rfl) (by kernel_rfl) (by kernel_rfl) (fun _ _ _ h => h) (Or.inl ⟨by rfl, ?_⟩) (by assumption) ?_
  rotate_left
  ·(intro w hSw; (try dsimp only at hSw); go_simp; try with_reducible rfl)
  try simp only [Act.put, List.setIfInBounds_toArray, List.set_cons_zero, List.set_cons_succ]
  refine take_at (i := 4) (d := some 61) (v := ?_) rfl rfl (by kernel_rfl) (by kernel_rfl) (by kernel_rfl) (fun _ _ _ h => h) (Or.inl ⟨by rfl, ?_⟩) (by assumption) ?_
  rotate_left
  ·(intro w hSw; (try dsimp only at hSw); go_simp; try with_reducible rfl)
  try simp only [Act.put, List.setIfInBounds_toArray, List.set_cons_zero, List.set_cons_succ]
  refine take_at (i := 5) (d := some 62) (v := ?_) rfl rfl (by kernel_rfl) (by kernel_rfl) (by kernel_rfl) (fun _ _ _ h => h) (Or.inl ⟨by rfl, ?_⟩) (by assumption) ?_
  rotate_left
  ·(intro w hSw; (try dsimp only at hSw); go_simp; try with_reducible rfl)
  try simp only [Act.put, List.setIfInBounds_toArray, List.set_cons_zero, List.set_cons_succ]
  refine take_at (i := 6) (d := some 63) (v := ?_) rfl rfl (by kernel_rfl) (by kernel_rfl) (by kernel_rfl) (fun _ _ _ h => h) (Or.inl ⟨by rfl, ?_⟩) (by assumption) ?_
  rotate_left
  ·(intro w hSw; (try dsimp only at hSw); go_simp; try with_reducible rfl)
  try simp only [Act.put, List.setIfInBounds_toArray, List.set_cons_zero, List.set_cons_succ]
  refine take_at (i := 7) (d := some 64) (v := ?_) rfl rfl (by kernel_rfl) (by kernel_rfl) (by kernel_rfl) (fun _ _ _ h => h) (Or.inl ⟨by rfl, ?_⟩) (by assumption) ?_
  rotate_left
  ·(intro w hSw; (try dsimp only at hSw); go_simp; try with_reducible rfl)
  try simp only [Act.put, List.setIfInBounds_toArray, List.set_cons_zero, List.set_cons_succ]
  refine wpAnyH_ready (rs := [8]) (by kernel_rfl) (by simp) ?_
  refine (AllReadyH.cons rfl (fun K hK => ?_) AllReadyH.nil)
  go_simp
  ((with_reducible refine (HG.out _ _ _ _ X ((KF.out).drew) (HR4.out.kept0 ((Kept.refl [] w4).drew)) HOK2.out HOK3.out HL16.out).mono ?_)); rintro e w5 ⟨rfl, k5⟩
  have kk5 := ((Kept.refl [] w4).drew).trans k5
  have K5 := Lib.hid kk5
  clear kk5 k5
  go_wp2_with fail
  refine hK.out _ _ ?_ (fun hHeld => ?_)
  ·exact HS16.out _ K5.out
  clear hK K
  try simp only [Act.put, List.setIfInBounds_toArray, List.set_cons_zero, List.set_cons_succ]
  refine take_at (i := 9) (d := some 56) (v := ?_) rfl rfl (by kernel_rfl) (by kernel_rfl) (by kernel_rfl) (fun _ _ _ h => h) (Or.inl ⟨by rfl, ?_⟩) (by assumption) ?_
  rotate_left
  ·(intro w hSw; (try dsimp only at hSw); go_simp; try with_reducible rfl)
  try simp only [Act.put, List.setIfInBounds_toArray, List.set_cons_zero, List.set_cons_succ]
  refine take_at (i := 10) (d := some 66) (v := ?_) rfl rfl (by kernel_rfl) (by kernel_rfl) (by kernel_rfl) (fun _ _ _ h => h) (Or.inl ⟨by rfl, ?_⟩) (by assumption) ?_
  rotate_left
  ·(intro w hSw; (try dsimp only at hSw); go_simp; try with_reducible rfl)
  try simp only [Act.put, List.setIfInBounds_toArray, List.set_cons_zero, List.set_cons_succ]
  refine take_at (i := 11) (d := some 67) (v := ?_) rfl rfl (by kernel_rfl) (by kernel_rfl) (by kernel_rfl) (fun _ _ _ h => h) (Or.inl ⟨by rfl, ?_⟩) (by assumption) ?_
  rotate_left
  ·(intro w hSw; (try dsimp only at hSw); go_simp; try with_reducible rfl)
  try simp only [Act.put, List.setIfInBounds_toArray, List.set_cons_zero, List.set_cons_succ]
  refine take_at (i := 12) (d := some 13) (v := ?_) rfl rfl (by kernel_rfl) (by kernel_rfl) (by kernel_rfl) (fun _ _ _ h => h) (Or.inl ⟨by rfl, ?_⟩) (by assumption) ?_
  rotate_left
  ·(intro w hSw; (try dsimp only at hSw); go_simp; try with_reducible rfl)
  try simp only [Act.put, List.setIfInBounds_toArray, List.set_cons_zero, List.set_cons_succ]
  refine take_at (i := 13) (d := some 14) (v := ?_) rfl rfl (by kernel_rfl) (by kernel_rfl) (by kernel_rfl) (fun _ _ _ h => h) (Or.inl ⟨by rfl, ?_⟩) (by assumption) ?_
  rotate_left
  ·(intro w hSw; (try dsimp only at hSw); go_simp; try with_reducible rfl)
  try simp only [Act.put, List.setIfInBounds_toArray, List.set_cons_zero, List.set_cons_succ]
  refine wpAnyH_done (by kernel_rfl) ?_ _
  try simp only [List.set_cons_succ, List.set_cons_zero]
  have KW := Lib.hid (KF.out.trans K5.out)
  have hgc := HGC.out X.runs X.size
  have HT5 := Lib.hid (HT.out w5 _ (KF.out.trans K5.out) hgc)
  clear hgc y0 y1 y2
  generalize getCode v.d X.runs X.size = GC at *
  generalize getX v.d X.runs X.size = GX at *
  go_wp2_with fail
  refine HT5.out.mono ?_; rintro e w6 ⟨rfl, hV6, k6⟩
  have HV6 := Lib.hid hV6
  have K6 := Lib.hid ((KW.out.mono (by simp)).trans k6)
  clear hV6 k6
  go_wp2_with fail
  go_ret2
  exact ⟨rfl, HV6.out, K6.out⟩
end Go.Proofs.YtdkimcnlhmhpgaaGreat
