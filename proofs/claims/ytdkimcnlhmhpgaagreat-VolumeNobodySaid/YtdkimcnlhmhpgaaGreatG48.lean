/- -/
import Derived.Test.YtdkimcnlhmhpgaaGreatG15
import Derived.Test.YtdkimcnlhmhpgaaGreatG40
import Derived.Test.YtdkimcnlhmhpgaaGreatG41
import Derived.Test.YtdkimcnlhmhpgaaGreatG42
import Derived.Test.YtdkimcnlhmhpgaaGreatG46
import Derived.Test.YtdkimcnlhmhpgaaGreatG47
set_option linter.unusedVariables false
set_option linter.unusedSimpArgs false
namespace Go.Proofs.YtdkimcnlhmhpgaaGreat
open Go.RowKit
theorem ufree {T : List Nat} {w : World} {B b sb mb lo : Nat} {v : VS} (hV : VolAt T w B b sb mb lo v) (hm : v.s.may) (hc : mayC v.c) (hf : v.c.boxes.length + v.c.mans.length + v.c.names.length ≤ 1000) :
    Calls Tryz.prog 17 #[.pointer (some ⟨B, 0, none⟩)] w fun e w' => e = .returned (.int .i64 (countL (roomX v))) ∧ Kept [] w w' := by
  have HR := Lib.hid (uroom hV hm hc hf)
  have hp : Pl 0 (roomX v) := minus_pl _ _
  have HC : Hid (∀ W u lo1 hi1, RunsIn W u (roomX v) lo1 hi1 → Calls Tryz.prog 65 #[u] W fun e w' => e = .returned (.int .i64 (countL (roomX v))) ∧ Kept [] W w') := Lib.hid (fun W u lo1 hi1 h => xcount u _ lo1 hi1 W h (by have := hp.len0; omega) (wf_of_pl hp))
  obtain ⟨sv, vb, vm, vn, o, _, _⟩ := hV.vol
  obtain ⟨x0, x1, x2, x3, x4, x5, x6, x7, x8, x9, x10, x11, x12⟩ := o.c13
  clear hV hm hc hf hp o x1 x2 x3 x4 x5 x6 x7 x8 x9 x10 x11 x12
  go_enter Tryz.func17, Tryz.ntmps17
  go_wp2_with fail
  refine (HR.out).mono ?_; intro e w2 hg
  obtain ⟨u, rfl, hu, k2⟩ := hg.runs
  have HU := Lib.hid hu
  have K2 := Lib.hid k2
  obtain ⟨p, c, rfl⟩ := hu.shape
  clear hu k2 hg
  go_wp2_with fail
  refine (HC.out _ _ _ _ HU.out).mono ?_; rintro e w3 ⟨rfl, k3⟩
  have K3 := Lib.hid (K2.out.trans k3)
  clear k3
  go_wp2_with fail
  go_ret
  exact ⟨rfl, K3.out⟩
theorem find_mem {p : JItem → Bool} {l : List JItem} {x : JItem} (h : findX p l = (x, true)) : x ∈ l := by
  unfold findX at h
  cases hf : l.find? p with
  | none => rw [hf] at h; cases h
  | some y =>
    rw [hf] at h
    injection h with h _
    subst h
    exact List.mem_of_find?_eq_some hf
theorem runs_not_item {w : World} {v : Value} {l : List (Int × Int)} {lo hi : Nat} {t : TypeId} (h : RunsIn (w.alloc (.cells #[.int .u32 0, .string { data := #[] }, .int .i64 0, .slice none 0 0] t)) v l lo hi) : RunsIn w v l 0 w.heap.size := by
  rcases h with h | ⟨b, off, c, e, h2, h3, h4, h5, h6, h7⟩
  · exact Or.inl h
  · have k := (Kept.refl [] w).alloc (.cells #[.int .u32 0, .string { data := #[] }, .int .i64 0, .slice none 0 0] t)
    have hsz : (w.alloc (.cells #[.int .u32 0, .string { data := #[] }, .int .i64 0, .slice none 0 0] t)).heap.size = w.heap.size + 1 := by simp
    by_cases hb : b < w.heap.size
    · refine Or.inr ⟨b, off, c, e, fun i hi => ?_, Nat.zero_le _, hb, Nat.le_refl _, h6, h7⟩
      rw [← k.cell (a := ⟨b, off + i * 2, none⟩) hb (by simp), ← k.cell (a := ⟨b, off + i * 2 + 1, none⟩) hb (by simp)]
      exact h2 i hi
    · exfalso
      have hbe : b = w.heap.size := by omega
      subst hbe
      have o := Own.new w #[.int .u32 0, .string { data := #[] }, .int .i64 0, .slice none 0 0] t
      obtain ⟨c0, c1, c2, c3⟩ := o.c4
      have hp : 0 < l.length := List.length_pos_iff.2 h6
      obtain ⟨g0, g1⟩ := h2 0 hp
      rw [Nat.zero_mul, Nat.add_zero] at g0 g1
      match off, g0, g1 with
      | 0, g0, _ => rw [c0] at g0; simp at g0
      | 1, g0, _ => rw [c1] at g0; simp at g0
      | 2, _, g1 => rw [c3] at g1; simp at g1
      | 3, g0, _ => rw [c3] at g0; simp at g0
      | n + 4, g0, _ =>
        have hn : (w.alloc (.cells #[.int .u32 0, .string { data := #[] }, .int .i64 0, .slice none 0 0] t)).cell? ⟨w.heap.size, n + 4, none⟩ = none := by
          have h' : (w.alloc (.cells #[.int .u32 0, .string { data := #[] }, .int .i64 0, .slice none 0 0] t)).heap[w.heap.size]? = some (.cells #[.int .u32 0, .string { data := #[] }, .int .i64 0, .slice none 0 0] t (0, 0)) := o
          unfold World.cell?
          simp only
          rw [h']
          simp
        rw [hn] at g0; cases g0
def VReadSays (T : List Nat) (B b sb mb lo : Nat) (R : List UInt8 × Int × VS) (w : World) (e : Ending) (w' : World) : Prop :=
  e = .returned (.tuple #[.string (bs R.1), .int .i64 R.2.1]) ∧ VolAt T w' B b sb mb lo R.2.2 ∧ Kept [B] w w'
set_option maxRecDepth 100000 in
set_option maxHeartbeats 8000000 in
theorem uread3 {T : List Nat} {w : World} {B b sb mb lo : Nat} {v : VS} (id : Int) (nm : List UInt8) (hV : VolAt T w B b sb mb lo v) (hc : mayC v.c) (hd : v.dead = false) :
    Calls Tryz.prog 15 #[.pointer (some ⟨B, 0, none⟩), .int .i64 3, .int .u32 id, .string (bs nm)] w (VReadSays T B b sb mb lo (readX v 3 id nm) w) := by
  have HCH := Lib.hid (ucheck hV)
  rw [hd, if_neg (by simp)] at HCH
  have hask : askX v.c 3 id nm = findX (fun x => x.name == nm) v.c.names := by unfold askX; rw [if_neg (by decide), if_neg (by decide)]
  have hrd : readX v 3 id nm = if (findX (fun x => x.name == nm) v.c.names).2 = false then ([], 6, v) else (getX v.d (findX (fun x => x.name == nm) v.c.names).1.runs (findX (fun x => x.name == nm) v.c.names).1.size, getCode v.d (findX (fun x => x.name == nm) v.c.names).1.runs (findX (fun x => x.name == nm) v.c.names).1.size, ⟨v.d, v.s, v.c, getCode v.d (findX (fun x => x.name == nm) v.c.names).1.runs (findX (fun x => x.name == nm) v.c.names).1.size == 90⟩) := by
    unfold readX
    rw [if_neg (by rw [hd]; simp), if_neg (by simp), hask]
  obtain ⟨sv, vb, vm, vn, o, _, hcat⟩ := hV.vol
  have HF : Hid (∀ W, Kept [] w W → Calls Tryz.prog 59 #[.agg #[.int .u32 v.c.nextBox, .int .u32 v.c.nextMan, vb, vm, vn], .string (bs nm)] W (FindSays W (findX (fun x => x.name == nm) v.c.names) W)) := Lib.hid (fun W k => zFind_name _ _ v.c W (hcat.plain.kept0 k) hc.small)
  have HO : Hid (∀ W, Kept [] w W → W.cell? ⟨B, 0, none⟩ = some (.pointer (some ⟨b, 0, none⟩))) := Lib.hid (fun W k => (k.own o (by simp)).cell 0 (by simp [volCells]))
  have hlen : ∀ x, findX (fun x => x.name == nm) v.c.names = (x, true) → x.runs.length ≤ 16 := fun x hx => may_runs (hc.names.2.1 x (find_mem hx))
  have HG : Hid (∀ (W : World) (u : Value) (lo1 hi1 : Nat) (x : JItem), Kept [] w W → RunsIn W u x.runs lo1 hi1 → x.fits → (∀ a ∈ x.runs, WfRun a) → x.runs.length ≤ 16 → Calls Tryz.prog 60 #[.pointer (some ⟨b, 0, none⟩), u, .int .i64 x.size] W fun e w' => e = .returned (.tuple #[.string (bs (getX v.d x.runs x.size)), .int .i64 (getCode v.d x.runs x.size)]) ∧ Kept [] W w') := Lib.hid (fun W u lo1 hi1 (x : JItem) k h1 h2 h3 h4 => bgetP u x.runs x.size lo1 hi1 (hV.da.keep0 k) h1 (by omega) h3 h2.2.2)
  have HT : Hid (∀ W c, Kept [] w W → (Lit.int .i64 c).wf = true → Calls Tryz.prog 51 #[.pointer (some ⟨B, 0, none⟩), .int .i64 c] W fun e w' => e = .returned (.int .i64 c) ∧ VolAt T w' B b sb mb lo ⟨v.d, v.s, v.c, c == 90⟩ ∧ Kept [B] W w') := Lib.hid (fun W c k hcw => by
    have h := utell (hV.keep0 k) c hcw
    unfold tellX at h
    rw [hd, Bool.false_or] at h
    exact h)
  have HV := Lib.hid hV
  have HOA : Hid (∀ W, Kept [] w W → W.cell? ⟨B, 0, none⟩ = some (.pointer (some ⟨b, 0, none⟩)) ∧ W.cell? ⟨B, 7, none⟩ = some (.int .u32 v.c.nextBox) ∧ W.cell? ⟨B, 8, none⟩ = some (.int .u32 v.c.nextMan) ∧ W.cell? ⟨B, 9, none⟩ = some vb ∧ W.cell? ⟨B, 10, none⟩ = some vm ∧ W.cell? ⟨B, 11, none⟩ = some vn) := Lib.hid (fun W k => by
    obtain ⟨a0, _, _, _, _, _, _, a7, a8, a9, a10, a11, _⟩ := (k.own o (by simp)).c13
    exact ⟨a0, a7, a8, a9, a10, a11⟩)
  obtain ⟨x0, x7, x8, x9, x10, x11⟩ := HOA.out (w.alloc (.cells #[.int .u32 0, .string { data := #[] }, .int .i64 0, .slice none 0 0] 113)) ((Kept.refl [] w).alloc _)
  rw [hrd]
  have HLEN := Lib.hid hlen
  have HGC : Hid (∀ l n, (Lit.int .i64 (getCode v.d l n)).wf = true) := Lib.hid (fun l n => by unfold getCode; split; split; decide; decide; decide)
  clear hV hc hd hask hrd hcat hlen o
  generalize findX (fun x => x.name == nm) v.c.names = X at *
  obtain ⟨X, there⟩ := X
  have oXA := Own.new w #[.int .u32 0, .string { data := #[] }, .int .i64 0, .slice none 0 0] 113
  have HOXA := Lib.hid oXA
  clear oXA
  cases there
  · simp only [if_true]
    go_enter Tryz.func15, Tryz.ntmps15
    go_wp2_with fail
    refine HCH.out.mono ?_; rintro e w2 ⟨rfl, rfl⟩
    go_wp2_with fail
    refine (HF.out _ ?_).mono ?_
    · exact (Kept.refl _ _).alloc _
    rintro e w3 ⟨kv, rfl, hok, k3⟩
    obtain ⟨pk, ck, ekv⟩ : ∃ p c, kv = .slice p X.runs.length c := hok.1.shape
    subst ekv
    unfold JItem.cells
    have ox := k3.own HOXA.out (by simp)
    obtain ⟨y0, y1, y2, y3⟩ := ox.c4
    obtain ⟨z0, z1, z2, z3⟩ := ox.z4
    have kk := ((Kept.refl [] w).alloc (.cells #[.int .u32 0, .string { data := #[] }, .int .i64 0, .slice none 0 0] 113)).trans k3
    have kf := (((kk.setCell (p := ⟨w.heap.size, 0, none⟩) (Or.inr (Nat.le_refl _)) (.int .u32 X.id)).setCell (p := ⟨w.heap.size, 1, none⟩) (Or.inr (Nat.le_refl _)) (.string (bs X.name))).setCell (p := ⟨w.heap.size, 2, none⟩) (Or.inr (Nat.le_refl _)) (.int .i64 X.size)).setCell (p := ⟨w.heap.size, 3, none⟩) (Or.inr (Nat.le_refl _)) (.slice pk X.runs.length ck)
    have KF := Lib.hid kf
    clear ox kk kf k3 hok
    go_wp2_with fail
    go_ret2
    exact ⟨rfl, HV.out.keep0 KF.out, KF.out.mono (by simp)⟩
  · simp only [Bool.true_eq_false, if_false]
    have hl16 := HLEN.out X rfl
    have HL16 := Lib.hid hl16
    clear hl16
    go_enter Tryz.func15, Tryz.ntmps15
    go_wp2_with fail
    refine HCH.out.mono ?_; rintro e w2 ⟨rfl, rfl⟩
    go_wp2_with fail
    refine (HF.out _ ?_).mono ?_
    · exact (Kept.refl _ _).alloc _
    rintro e w3 ⟨kv, rfl, hok, k3⟩
    obtain ⟨pk, ck, ekv⟩ : ∃ p c, kv = .slice p X.runs.length c := hok.1.shape
    subst ekv
    unfold JItem.cells
    have ox := k3.own HOXA.out (by simp)
    obtain ⟨y0, y1, y2, y3⟩ := ox.c4
    obtain ⟨z0, z1, z2, z3⟩ := ox.z4
    have kk := ((Kept.refl [] w).alloc (.cells #[.int .u32 0, .string { data := #[] }, .int .i64 0, .slice none 0 0] 113)).trans k3
    have HKK := Lib.hid kk
    obtain ⟨ok1, ok2, ok3⟩ := hok
    have HOK1 := Lib.hid ok1
    have HOK2 := Lib.hid ok2
    have HOK3 := Lib.hid ok3
    have HOX := Lib.hid ox
    have HK3 := Lib.hid k3
    clear ox kk k3 ok1 ok2 ok3
    go_upto_region 16 with fail
    have kf := (((HKK.out.setCell (p := ⟨w.heap.size, 0, none⟩) (Or.inr (Nat.le_refl _)) (.int .u32 X.id)).setCell (p := ⟨w.heap.size, 1, none⟩) (Or.inr (Nat.le_refl _)) (.string (bs X.name))).setCell (p := ⟨w.heap.size, 2, none⟩) (Or.inr (Nat.le_refl _)) (.int .i64 X.size)).setCell (p := ⟨w.heap.size, 3, none⟩) (Or.inr (Nat.le_refl _)) (.slice pk X.runs.length ck)
    have of : Own ((((w3.setCell ⟨w.heap.size, 0, none⟩ (.int .u32 X.id)).setCell ⟨w.heap.size, 1, none⟩ (.string (bs X.name))).setCell ⟨w.heap.size, 2, none⟩ (.int .i64 X.size)).setCell ⟨w.heap.size, 3, none⟩ (.slice pk X.runs.length ck)) w.heap.size #[.int .u32 X.id, .string (bs X.name), .int .i64 X.size, .slice pk X.runs.length ck] 113 := (((HOX.out.set 0 (.int .u32 X.id)).set 1 (.string (bs X.name))).set 2 (.int .i64 X.size)).set 3 (.slice pk X.runs.length ck)
    generalize ((((w3.setCell ⟨w.heap.size, 0, none⟩ (.int .u32 X.id)).setCell ⟨w.heap.size, 1, none⟩ (.string (bs X.name))).setCell ⟨w.heap.size, 2, none⟩ (.int .i64 X.size)).setCell ⟨w.heap.size, 3, none⟩ (.slice pk X.runs.length ck)) = w4 at *
    have hr4 := (runs_not_item HOK1.out).kept0 kf
    have HR4 := Lib.hid hr4
    have KF := Lib.hid kf
    have HOF := Lib.hid of
    have HS16 : Hid (∀ W, Kept [] w4 W → W.cell? ⟨B, 0, none⟩ = some (.pointer (some ⟨b, 0, none⟩)) ∧ W.cell? ⟨w.heap.size, 2, none⟩ = some (.int .i64 X.size) ∧ W.cell? ⟨w.heap.size, 3, none⟩ = some (.slice pk X.runs.length ck)) := Lib.hid (fun W k => by
      obtain ⟨_, _, e2, e3⟩ := (k.own HOF.out (by simp)).c4
      exact ⟨HO.out W (KF.out.trans k), e2, e3⟩)
    clear of kf hr4 y0 y1 y2 y3 z0 z1 z2 z3 x0 x7 x8 x9 x10 x11
    obtain ⟨y0, y1, y2⟩ := HS16.out w4 (Kept.refl _ _)
    refine wp_region_held_drew (S := (fun W => W.cell? ⟨B, 0, none⟩ = some (.pointer (some ⟨b, 0, none⟩)) ∧ W.cell? ⟨w.heap.size, 2, none⟩ = some (.int .i64 X.size) ∧ W.cell? ⟨w.heap.size, 3, none⟩ = some (.slice pk X.runs.length ck))) (by kernel_rfl) (by exact HS16.out _ ((Kept.refl [] w4).drew)) (fun hHeld => ?_)
    refine take_at (i := 0) (d := some 57) (v := ?_) rfl rfl (by kernel_rfl) (by kernel_rfl) (by kernel_rfl) (fun _ _ _ h => h) (Or.inl ⟨by rfl, ?_⟩) (by assumption) ?_
    rotate_left
    · (intro w hSw; (try dsimp only at hSw); go_simp; try with_reducible rfl)
    try simp only [Act.put, List.setIfInBounds_toArray, List.set_cons_zero, List.set_cons_succ]
    refine take_at (i := 1) (d := some 58) (v := ?_) rfl rfl (by kernel_rfl) (by kernel_rfl) (by kernel_rfl) (fun _ _ _ h => h) (Or.inl ⟨by rfl, ?_⟩) (by assumption) ?_
    rotate_left
    · (intro w hSw; (try dsimp only at hSw); go_simp; try with_reducible rfl)
    try simp only [Act.put, List.setIfInBounds_toArray, List.set_cons_zero, List.set_cons_succ]
    refine take_at (i := 2) (d := some 59) (v := ?_) rfl rfl (by kernel_rfl) (by kernel_rfl) (by kernel_rfl) (fun _ _ _ h => h) (Or.inl ⟨by rfl, ?_⟩) (by assumption) ?_
    rotate_left
    · (intro w hSw; (try dsimp only at hSw); go_simp; try with_reducible rfl)
    try simp only [Act.put, List.setIfInBounds_toArray, List.set_cons_zero, List.set_cons_succ]
    refine take_at (i := 3) (d := some 60) (v := ?_) rfl rfl (by kernel_rfl) (by kernel_rfl) (by kernel_rfl) (fun _ _ _ h => h) (Or.inl ⟨by rfl, ?_⟩) (by assumption) ?_
    rotate_left
    · (intro w hSw; (try dsimp only at hSw); go_simp; try with_reducible rfl)
    try simp only [Act.put, List.setIfInBounds_toArray, List.set_cons_zero, List.set_cons_succ]
    refine take_at (i := 4) (d := some 61) (v := ?_) rfl rfl (by kernel_rfl) (by kernel_rfl) (by kernel_rfl) (fun _ _ _ h => h) (Or.inl ⟨by rfl, ?_⟩) (by assumption) ?_
    rotate_left
    · (intro w hSw; (try dsimp only at hSw); go_simp; try with_reducible rfl)
    try simp only [Act.put, List.setIfInBounds_toArray, List.set_cons_zero, List.set_cons_succ]
    refine take_at (i := 5) (d := some 62) (v := ?_) rfl rfl (by kernel_rfl) (by kernel_rfl) (by kernel_rfl) (fun _ _ _ h => h) (Or.inl ⟨by rfl, ?_⟩) (by assumption) ?_
    rotate_left
    · (intro w hSw; (try dsimp only at hSw); go_simp; try with_reducible rfl)
    try simp only [Act.put, List.setIfInBounds_toArray, List.set_cons_zero, List.set_cons_succ]
    refine take_at (i := 6) (d := some 63) (v := ?_) rfl rfl (by kernel_rfl) (by kernel_rfl) (by kernel_rfl) (fun _ _ _ h => h) (Or.inl ⟨by rfl, ?_⟩) (by assumption) ?_
    rotate_left
    · (intro w hSw; (try dsimp only at hSw); go_simp; try with_reducible rfl)
    try simp only [Act.put, List.setIfInBounds_toArray, List.set_cons_zero, List.set_cons_succ]
    refine take_at (i := 7) (d := some 64) (v := ?_) rfl rfl (by kernel_rfl) (by kernel_rfl) (by kernel_rfl) (fun _ _ _ h => h) (Or.inl ⟨by rfl, ?_⟩) (by assumption) ?_
    rotate_left
    · (intro w hSw; (try dsimp only at hSw); go_simp; try with_reducible rfl)
    try simp only [Act.put, List.setIfInBounds_toArray, List.set_cons_zero, List.set_cons_succ]
    refine wpAnyH_ready (rs := [8]) (by kernel_rfl) (by simp) ?_
    refine (AllReadyH.cons rfl (fun K hK => ?_) AllReadyH.nil)
    go_simp
    ((with_reducible refine (HG.out _ _ _ _ X ((KF.out).drew) (HR4.out.kept0 ((Kept.refl [] w4).drew)) HOK2.out HOK3.out HL16.out).mono ?_)); rintro e w5 ⟨rfl, k5⟩
    have kk5 := ((Kept.refl [] w4).drew).trans k5
    have K5 := Lib.hid kk5
    clear kk5 k5
    go_wp2_with fail
    refine hK.out _ _ ?_ (fun hHeld => ?_)
    · exact HS16.out _ K5.out
    clear hK K
    try simp only [Act.put, List.setIfInBounds_toArray, List.set_cons_zero, List.set_cons_succ]
    refine take_at (i := 9) (d := some 56) (v := ?_) rfl rfl (by kernel_rfl) (by kernel_rfl) (by kernel_rfl) (fun _ _ _ h => h) (Or.inl ⟨by rfl, ?_⟩) (by assumption) ?_
    rotate_left
    · (intro w hSw; (try dsimp only at hSw); go_simp; try with_reducible rfl)
    try simp only [Act.put, List.setIfInBounds_toArray, List.set_cons_zero, List.set_cons_succ]
    refine take_at (i := 10) (d := some 66) (v := ?_) rfl rfl (by kernel_rfl) (by kernel_rfl) (by kernel_rfl) (fun _ _ _ h => h) (Or.inl ⟨by rfl, ?_⟩) (by assumption) ?_
    rotate_left
    · (intro w hSw; (try dsimp only at hSw); go_simp; try with_reducible rfl)
    try simp only [Act.put, List.setIfInBounds_toArray, List.set_cons_zero, List.set_cons_succ]
    refine take_at (i := 11) (d := some 67) (v := ?_) rfl rfl (by kernel_rfl) (by kernel_rfl) (by kernel_rfl) (fun _ _ _ h => h) (Or.inl ⟨by rfl, ?_⟩) (by assumption) ?_
    rotate_left
    · (intro w hSw; (try dsimp only at hSw); go_simp; try with_reducible rfl)
    try simp only [Act.put, List.setIfInBounds_toArray, List.set_cons_zero, List.set_cons_succ]
    refine take_at (i := 12) (d := some 13) (v := ?_) rfl rfl (by kernel_rfl) (by kernel_rfl) (by kernel_rfl) (fun _ _ _ h => h) (Or.inl ⟨by rfl, ?_⟩) (by assumption) ?_
    rotate_left
    · (intro w hSw; (try dsimp only at hSw); go_simp; try with_reducible rfl)
    try simp only [Act.put, List.setIfInBounds_toArray, List.set_cons_zero, List.set_cons_succ]
    refine take_at (i := 13) (d := some 14) (v := ?_) rfl rfl (by kernel_rfl) (by kernel_rfl) (by kernel_rfl) (fun _ _ _ h => h) (Or.inl ⟨by rfl, ?_⟩) (by assumption) ?_
    rotate_left
    · (intro w hSw; (try dsimp only at hSw); go_simp; try with_reducible rfl)
    try simp only [Act.put, List.setIfInBounds_toArray, List.set_cons_zero, List.set_cons_succ]
    refine wpAnyH_done (by kernel_rfl) ?_ _
    try simp only [List.set_cons_succ, List.set_cons_zero]
    have KW := Lib.hid (KF.out.trans K5.out)
    have hgc := HGC.out X.runs X.size
    have HT5 := Lib.hid (HT.out w5 _ (KF.out.trans K5.out) hgc)
    clear hgc y0 y1 y2
    generalize getCode v.d X.runs X.size = GC at *
    generalize getX v.d X.runs X.size = GX at *
    go_wp2_with fail
    refine HT5.out.mono ?_; rintro e w6 ⟨rfl, hV6, k6⟩
    have HV6 := Lib.hid hV6
    have K6 := Lib.hid ((KW.out.mono (by simp)).trans k6)
    clear hV6 k6
    go_wp2_with fail
    go_ret2
    exact ⟨rfl, HV6.out, K6.out⟩
theorem run_make_bytes200 (w : World) : (Instr.makeSlice 61 (.int .i64 200) (.int .i64 200)).run Tryz.prog w = .ok (.slice (some ⟨w.heap.size, 0, none⟩) 200 200) (w.alloc (.cells (Array.replicate 200 (.int .u8 0)) 5)) := by
  kernel_rfl
theorem run_conv200 (w : World) : (convert 61 9 (.slice (some ⟨w.heap.size, 0, none⟩) 200 200)).run Tryz.prog (w.alloc (.cells (Array.replicate 200 (.int .u8 0)) 5)) = .ok (.string (bs zs200)) (w.alloc (.cells (Array.replicate 200 (.int .u8 0)) 5)) := by
  have ho := Own.new w (Array.replicate 200 (Value.int .u8 0)) 5
  have hb : Lib.Bytes (w.alloc (.cells (Array.replicate 200 (.int .u8 0)) 5)) w.heap.size 0 (bs zs200) := by
    intro i hi
    have hi2 : i < 200 := by rw [bs_size] at hi; unfold zs200 at hi; rw [List.length_replicate] at hi; exact hi
    rw [Nat.zero_add, ho.cell i (by simp; exact hi2)]
    have hz : i < zs200.length := by unfold zs200; rw [List.length_replicate]; exact hi2
    have e0 : zs200[i] = 0 := by unfold zs200; exact List.getElem_replicate _
    rw [Array.getElem_replicate]
    refine congrArg some (congrArg (Value.int .u8) ?_)
    show (0 : Int) = ((zs200[i]'hz).toNat : Int)
    rw [e0]; rfl
  have h := Lib.run_convert_whole (P := Tryz.prog) _ 61 5 9 Tryz.underlying61 Tryz.underlying5 Tryz.underlying9 w.heap.size 0 (bs zs200) hb 200
  have e : (bs zs200).size = 200 := by rw [bs_size]; exact List.length_replicate
  rw [e] at h
  exact h
theorem chs_one {w : World} {g : Nat} {x : VC} (o : Own w g x.cells 34) (h : x.fits) : ChsIn w (.slice (some ⟨g, 0, none⟩) 1 1) [x] g (g + 1) := by
  refine Or.inr ⟨g, 0, 1, rfl, fun i hi => ?_, Nat.le_refl _, Nat.lt_succ_self _, o.lt, by simp, Nat.le_refl _, by unfold maxLen; omega⟩
  obtain rfl : i = 0 := by simpa using hi
  refine ⟨[.int .i64 x.kind, .int .u32 x.id, .string (bs x.name), .string (bs x.bytes)], rfl, ⟨rfl, h⟩, fun j u hj => ?_⟩
  have hj4 : j < 4 := by have := (List.getElem?_eq_some_iff.1 hj).1; simpa using this
  have h2 := (List.getElem?_eq_some_iff.1 hj).2
  rw [Nat.zero_mul, Nat.zero_add, Nat.zero_add, o.cell j (by simpa [VC.cells] using hj4), ← h2]
  rfl
theorem chA_fits : chA.fits := ⟨by decide, by decide, by unfold maxLen; decide, by show (List.replicate 200 (0 : UInt8)).length ≤ 1048576; rw [List.length_replicate]; omega⟩
set_option maxRecDepth 100000 in
set_option maxHeartbeats 8000000 in
theorem uawake (w : World) : Calls Tryz.prog 14 #[] w fun e w' => e = .returned (.bool true) ∧ Kept [] w w' := by
  have hnew := daNew 12 w (by omega) (by omega)
  have hq0 : Quiet (newD (List.replicate 12 zeroS)) := ⟨rfl, by decide, Fit.new 12⟩
  have hlen0 : (newD (List.replicate 12 zeroS)).stand.length = 12 := List.length_replicate
  have ho0 : (newD (List.replicate 12 zeroS)).ops = 0 := rfl
  have hw0 : (newD (List.replicate 12 zeroS)).waits = [] := rfl
  generalize newD (List.replicate 12 zeroS) = d0 at *
  obtain ⟨f1, f2, f3⟩ := fmt_ok hq0 2 (by omega)
  have hopsF : (fmtD 2 d0).1.ops ≤ 100 ∧ (fmtD 2 d0).1.waits.length ≤ 100 := by
    have h := chain_few 2 [stepW 0 zeroS, stepW 1 zeroS, stepF, layD (sb0 d0.stand.length 2)] (fun f hf d => by
      simp only [List.mem_cons, List.not_mem_nil, or_false] at hf
      rcases hf with rfl | rfl | rfl | rfl
      · have := stepW_few 0 zeroS d; exact ⟨by omega, by omega, this.2.2⟩
      · have := stepW_few 1 zeroS d; exact ⟨by omega, by omega, this.2.2⟩
      · have := stepF_few d; exact ⟨by omega, by omega, this.2.2⟩
      · exact layD_few _ d) d0
    have h1 := h.1
    have h2 := h.2.1
    rw [ho0] at h1
    rw [hw0] at h2
    simp only [List.length_cons, List.length_nil] at h1 h2
    exact ⟨by show (fmtD 2 d0).1.ops ≤ 100; unfold fmtD; omega, by show (fmtD 2 d0).1.waits.length ≤ 100; unfold fmtD; omega⟩
  obtain ⟨g1, g2, g3, g4⟩ := change_A f2 (by rw [f3, hlen0])
  have hold : Holds [97] zs200 (changeX ⟨(fmtD 2 d0).1, sb0 12 2, catE, false⟩ [chA]).1 := holds_first (nm := [97]) (data := zs200) (v := ⟨(fmtD 2 d0).1, sb0 12 2, catE, false⟩) f2 rfl rfl (by show (1 : Int) ≤ 2; omega) g1
  have HNEW := Lib.hid hnew
  clear hnew
  go_enter Tryz.func14, Tryz.ntmps14
  go_wp2_with fail
  refine HNEW.out.mono ?_; rintro e w1 ⟨b, sb, mb, lo, rfl, hD, k1, hb, hsb, hmb, hlo⟩
  have hfmt := uformat (T := []) 2 hD (fun x hx => by cases hx) (by decide) (by omega) (by rw [hw0]; simp)
  have HFMT := Lib.hid hfmt
  have HD := Lib.hid hD
  have HK1 := Lib.hid k1
  have HNUM : Hid (w.heap.size ≤ b ∧ w.heap.size ≤ sb ∧ w.heap.size ≤ mb ∧ w.heap.size ≤ lo) := Lib.hid ⟨hb, hsb, hmb, hlo⟩
  have HF1 := Lib.hid f1
  have HF2 := Lib.hid f2
  have HF3 := Lib.hid f3
  have HG1 := Lib.hid g1
  have HG2 := Lib.hid g2
  have HG3 := Lib.hid g3
  have HG4 := Lib.hid g4
  have HHOLD := Lib.hid hold
  have HLEN := Lib.hid hlen0
  have HOPS := Lib.hid hopsF
  clear hfmt hD k1 hb hsb hmb hlo f1 f2 f3 g1 g2 g3 g4 hold hq0 hlen0 ho0 hw0 hopsF HNEW
  go_wp2_with fail
  refine HFMT.out.mono ?_; intro e w2 hs
  rcases hs with ⟨h, _⟩ | ⟨_, hD2, hk2, hs⟩
  · exfalso
    rw [HLEN.out] at h
    omega
  rcases hs with ⟨hc, _⟩ | ⟨_, B, hBge, hoff, hown, rfl⟩
  · exact absurd HF1.out hc
  rw [HLEN.out] at hown
  have hV2 : VolAt [B] w2 B b sb mb lo ⟨(fmtD 2 d0).1, sb0 12 2, catE, false⟩ := ⟨hD2, ⟨_, _, _, _, hown, RunsO.nil none 0, CatO.empty _ _ _ _ _⟩, List.mem_cons_self, fun x hx => by
    obtain rfl : x = B := by simpa using hx
    exact hown.lt, hoff⟩
  have hfr2 := ufree hV2 (sb0_may (by omega) (by omega) (by omega) (by omega)) mayC_E (by show 0 + 0 + 0 ≤ 1000; omega)
  have hc8 : countL (roomX ⟨(fmtD 2 d0).1, sb0 12 2, catE, false⟩) = 8 := by rw [room_0]; exact count_one 4 8 (by omega) (by omega)
  rw [hc8] at hfr2
  have HFR2 := Lib.hid hfr2
  have HV2 := Lib.hid hV2
  have HK2 := Lib.hid hk2
  have HBG := Lib.hid hBge
  clear hD2 hk2 hBge hoff hown hV2 hfr2 hc8
  go_wp2_with fail
  refine HFR2.out.mono ?_; rintro e w3 ⟨rfl, k3⟩
  have HK3 := Lib.hid k3
  have hmk := run_make_bytes200 w3
  have hcv := run_conv200 w3
  clear k3
  have k34 : Kept [] w3 ((w3.alloc (.cells (Array.replicate 200 (.int .u8 0)) 5)).alloc (.cells #[.int .i64 3, .int .u32 0, .string { data := #[97] }, .string (bs zs200)] 34)) := ((Kept.refl _ _).alloc _).alloc _
  have och : Own ((w3.alloc (.cells (Array.replicate 200 (.int .u8 0)) 5)).alloc (.cells #[.int .i64 3, .int .u32 0, .string { data := #[97] }, .string (bs zs200)] 34)) (w3.heap.size + 1) chA.cells 34 := (own_two w3 _ _ _ _).2
  have hV4 := (HV2.out.keep0 HK3.out).keep0 k34
  have hchg := uchange _ [chA] _ _ hV4 ⟨sb0_may (by omega) (by omega) (by omega) (by omega), mayC_E, by show 0 + 0 + 0 ≤ 900; omega, by show 1 ≤ 900; omega, by show (2 : Int) ≤ 30; omega⟩ (chs_one och chA_fits) (by simp) (fun x hx => by
    obtain rfl := List.mem_singleton.1 hx
    exact chA_fits) (by have := HOPS.out.1; show (fmtD 2 d0).1.ops ≤ 35000; omega) (by have := HOPS.out.2; show (fmtD 2 d0).1.waits.length ≤ 700; omega) (by show (fmtD 2 d0).1.stand.length ≤ 100; rw [HF3.out, HLEN.out]; omega)
  have HCHG := Lib.hid hchg
  have HK34 := Lib.hid k34
  clear hchg k34 och hV4
  go_wp2_with fail
  refine HCHG.out.mono ?_; rintro e w5 ⟨rfl, hV5, k5⟩
  rw [HG1.out]
  have hrd := uread3 (T := [B]) 0 [97] hV5 HHOLD.out.cat HHOLD.out.dead
  rw [holds_read HHOLD.out 0] at hrd
  unfold VReadSays at hrd
  have hb97 : bs [97] = { data := #[97] } := rfl
  rw [hb97] at hrd
  simp only at hrd
  have HRD := Lib.hid hrd
  have HK5 := Lib.hid k5
  have HV5 := Lib.hid hV5
  clear hrd k5 hV5 hb97 HCHG
  go_wp2_with fail
  refine HRD.out.mono ?_; rintro e w6 ⟨rfl, hV6, k6⟩
  have hfr6 := ufree hV6 HG3.out HHOLD.out.cat (by have := HG4.out; unfold totC at this; exact this)
  rw [HG2.out] at hfr6
  have hsz : (bs zs200).size = 200 := by rw [bs_size]; exact List.length_replicate
  have HFR6 := Lib.hid hfr6
  have HK6 := Lib.hid (HV5.out.pkB k6)
  have HB6 := Lib.hid hV6.b_lt
  clear hfr6 k6 hV6
  go_wp2_with fail
  refine HFR6.out.mono ?_; rintro e w7 ⟨rfl, k7⟩
  have hpk : PK [B] b sb mb w1 w7 := (((HK2.out.mono (T := [B]) (by simp)).trans ((HK3.out.trans HK34.out).pk0 HV2.out.b_lt)).trans HK5.out).trans (HK6.out.trans (k7.pk0 HB6.out))
  have hfin : Kept [] w w7 := HK1.out.then_below (hpk.kept w.heap.size HK1.out.size (fun x hx => by
    obtain rfl : x = B := by simpa using hx
    exact Nat.le_trans HK1.out.size HBG.out) HNUM.out.1 HNUM.out.2.1 HNUM.out.2.2.1 (fun k hk => Nat.le_trans HNUM.out.2.2.2 (HD.out.disk.wb hk).1))
  have HFIN := Lib.hid hfin
  clear hpk hfin k7
  go_wp2_with fail
  go_ret
  exact ⟨rfl, HFIN.out⟩
set_option maxRecDepth 100000 in
set_option maxHeartbeats 4000000 in
theorem vnobodyLaw (j id : Int) (s : ByteArray) (w : World) (hj : (Lit.int .i64 j).wf = true) (hid : (Lit.int .u32 id).wf = true) (hs : s.size ≤ maxLen) :
    Calls Tryz.prog 4 #[.int .i64 j, .int .u32 id, .string s] w fun e w' => e = .returned (.bool true) ∧ Below w.heap.size w w' := by
  have HF : Hid (∀ W, Calls Tryz.prog 10 #[.pointer none, .int .i64 j] W fun e w' => e = .returned (.tuple #[.pointer none, .int .i64 4]) ∧ W = w') := Lib.hid (fun W => uformat_nil j W hj)
  have HC : Hid (∀ W, Calls Tryz.prog 18 #[.agg #[.int .u32 0, .int .u32 0, .slice none 0 0, .slice none 0 0, .slice none 0 0], .agg #[.int .u32 0, .int .u32 0, .slice none 0 0, .slice none 0 0, .slice none 0 0]] W fun e w' => e = .returned (.bool true) ∧ Kept [] W w') := Lib.hid (fun W => by
    have hc : CatIn W (.agg #[.int .u32 0, .int .u32 0, .slice none 0 0, .slice none 0 0, .slice none 0 0]) ⟨0, 0, [], [], []⟩ := ⟨_, _, _, rfl, (ItemsOff.nil (fun _ => False) W).plain, (ItemsOff.nil (fun _ => False) W).plain, (ItemsOff.nil (fun _ => False) W).plain, by decide, by decide⟩
    have hsm : SmallC ⟨0, 0, [], [], []⟩ := ⟨⟨by simp, fun a ha => by cases ha⟩, ⟨by simp, fun a ha => by cases ha⟩, ⟨by simp, fun a ha => by cases ha⟩⟩
    refine (qcatSame _ _ _ _ W hc hc hsm hsm).mono ?_
    rintro e w' ⟨b, rfl, hb, k⟩
    exact ⟨by rw [hb.2 rfl], k⟩)
  have HS : Hid (∀ W, Calls Tryz.prog 20 #[.agg #[.int .u64 0, .int .i64 0, .int .i64 0, .int .i64 0, .int .i64 0, .slice none 0 0], .agg #[.int .u64 0, .int .i64 0, .int .i64 0, .int .i64 0, .int .i64 0, .slice none 0 0]] W fun e w' => e = .returned (.bool true) ∧ Kept [] W w') := Lib.hid (fun W => rsame ⟨0, 0, 0, 0, 0, []⟩ ⟨0, 0, 0, 0, 0, []⟩ (.slice none 0 0) (.slice none 0 0) 0 0 0 0 W (Or.inl ⟨rfl, _, _, rfl⟩) (Or.inl ⟨rfl, _, _, rfl⟩) (by simp) (by simp))
  clear hs hj hid
  go_enter Tryz.func4, Tryz.ntmps4
  go_wp2_with fail
  refine (HF.out _).mono ?_; rintro e w' ⟨rfl, rfl⟩
  go_wp2_with fail
  refine (umount_nil _).mono ?_; rintro e w' ⟨rfl, rfl⟩
  go_wp2_with fail
  refine (uread_nil _ _ _ _).mono ?_; rintro e w' ⟨rfl, rfl⟩
  go_wp2_with fail
  refine (uchange_nil _ _).mono ?_; rintro e w1 ⟨rfl, k1⟩
  have K1 := Lib.hid ((((Kept.refl [] w).alloc _)).trans k1)
  clear k1
  go_wp2_with fail
  refine (ucheckpoint_nil _).mono ?_; rintro e w' ⟨rfl, rfl⟩
  go_wp2_with fail
  refine (ufree_nil _).mono ?_; rintro e w' ⟨rfl, rfl⟩
  go_wp2_with fail
  refine (ucat_nil _).mono ?_; rintro e w2 ⟨rfl, k2⟩
  have K2 := Lib.hid (K1.out.trans k2)
  clear k2
  go_wp2_with fail
  refine (HC.out _).mono ?_; rintro e w3 ⟨rfl, k3⟩
  have K3 := Lib.hid (K2.out.trans k3)
  clear k3
  go_wp2_with fail
  refine (usuper_nil _).mono ?_; rintro e w4 ⟨rfl, k4⟩
  have K4 := Lib.hid (K3.out.trans k4)
  clear k4
  go_wp2_with fail
  refine (HS.out _).mono ?_; rintro e w5 ⟨rfl, k5⟩
  have K5 := Lib.hid (K4.out.trans k5)
  clear k5
  go_wp2_with fail
  refine (uawake _).mono ?_; rintro e w6 ⟨rfl, k6⟩
  have K6 := Lib.hid (K5.out.trans k6)
  clear k6
  go_wp2_with fail
  go_ret
  exact ⟨rfl, K6.out.below⟩
end Go.Proofs.YtdkimcnlhmhpgaaGreat
