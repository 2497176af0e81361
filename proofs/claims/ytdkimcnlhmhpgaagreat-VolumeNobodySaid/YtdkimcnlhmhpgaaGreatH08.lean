/- -/
import Derived.Test.YtdkimcnlhmhpgaaGreatH07
import Derived.WalkMore
import Derived.ScopeJumps
import Derived.Outline
set_option linter.unusedVariables false
set_option linter.unusedSimpArgs false
namespace Go.Proofs.YtdkimcnlhmhpgaaGreat
open Go.RowKit
theorem wp_scope_jumps2 {P : Program} {a : Act} {w : World} {Q : Exit → Act → World → Prop} {c rest : Code} (l : Nat) (J : Act → World → Prop) (μ : Act → World → Nat) (hf : findLabel c l = some (Code.skip.seq rest))
  (pass : ∀ a w, J a w → rest.wp P (Exit.jump l (fun a' w' => J a' w' ∧ μ a' w' < μ a w) Q) a w)
  (first : (∀ a w, J a w → rest.wp P (Exit.jump l J Q) a w) → c.wp P (Exit.jump l J Q) a w) : (Code.scope c).wp P Q a w :=
 wp_scope_jumps l J μ hf (first (fun a w h => wp_mono (pass a w h) (fun e a' w' he => by
  cases e with
  | goto l' => exact ⟨he.1, he.2.1⟩
  | _ => exact he))) (fun a w h => wp_seq (wp_skip (pass a w h)))
theorem jframe (x0 x1 x2 x3 x4 x5 x6 x7 x8 x9 x10 x11 x12 x13 x14 x15 x16 x17 x18 x19 x20 x21 x22 x23 x24 x25 x26 x27 x28 x29 x30 x31 x32 x33 x34 x35 x36 x37 x38 x39 x40 x41 x42 x43 x44 x45 x46 x47 x48 x49 x50 x51 x52 x53 x54 x55 x56 x57 x58 x59 x60 x61 x62 x63 x64 x65 x66 x67 x68 x69 x70 x71 x72 x73 x74 x75 x76 x77 x78 x79 x80 x81 x82 x83 x84 x85 x86 x87 x88 : Value) : ∃ u : Nat → Value, ({ tmps := #[x0, x1, x2, x3, x4, x5, x6, x7, x8, x9, x10, x11, x12, x13, x14, x15, x16, x17, x18, x19, x20, x21, x22, x23, x24, x25, x26, x27, x28, x29, x30, x31, x32, x33, x34, x35, x36, x37, x38, x39, x40, x41, x42, x43, x44, x45, x46, x47, x48, x49, x50, x51, x52, x53, x54, x55, x56, x57, x58, x59, x60, x61, x62, x63, x64, x65, x66, x67, x68, x69, x70, x71, x72, x73, x74, x75, x76, x77, x78, x79, x80, x81, x82, x83, x84, x85, x86, x87, x88], defers := [] } : Act) = { tmps := #[x0, x1, x2, x3, x4, x5, x6, x7, x8, x9, (u 10), (u 11), (u 12), (u 13), (u 14), (u 15), (u 16), (u 17), (u 18), (u 19), (u 20), (u 21), (u 22), (u 23), (u 24), (u 25), (u 26), (u 27), (u 28), (u 29), (u 30), (u 31), (u 32), (u 33), (u 34), (u 35), (u 36), (u 37), (u 38), (u 39), (u 40), (u 41), (u 42), (u 43), (u 44), (u 45), (u 46), (u 47), (u 48), (u 49), (u 50), (u 51), (u 52), (u 53), (u 54), (u 55), (u 56), (u 57), (u 58), (u 59), (u 60), (u 61), (u 62), (u 63), (u 64), (u 65), (u 66), (u 67), (u 68), (u 69), (u 70), (u 71), (u 72), (u 73), (u 74), (u 75), (u 76), (u 77), (u 78), (u 79), (u 80), (u 81), (u 82), (u 83), (u 84), (u 85), (u 86), (u 87), (u 88)], defers := [] } :=
 ⟨fun n => [x0, x1, x2, x3, x4, x5, x6, x7, x8, x9, x10, x11, x12, x13, x14, x15, x16, x17, x18, x19, x20, x21, x22, x23, x24, x25, x26, x27, x28, x29, x30, x31, x32, x33, x34, x35, x36, x37, x38, x39, x40, x41, x42, x43, x44, x45, x46, x47, x48, x49, x50, x51, x52, x53, x54, x55, x56, x57, x58, x59, x60, x61, x62, x63, x64, x65, x66, x67, x68, x69, x70, x71, x72, x73, x74, x75, x76, x77, x78, x79, x80, x81, x82, x83, x84, x85, x86, x87, x88].getD n undef, rfl⟩
def ComJ (w : World) (x y : List (Int × Int)) (pa : Option Addr) (al ac : Nat) (pb : Option Addr) (bl bc : Nat) (a' : Act) (w' : World) : Prop :=
 ∃ (W : World) (px : Option Addr) (cx : Nat) (py : Option Addr) (cy i k : Nat) (out : List (Int × Int)) (v7 : Value), (∃ u : Nat → Value, a' = { tmps := #[.slice pa al ac, .slice pb bl bc, undef, undef, .slice none 0 0, .slice px x.length cx, .slice py y.length cy, v7, .int .i64 i, .int .i64 k, (u 10), (u 11), (u 12), (u 13), (u 14), (u 15), (u 16), (u 17), (u 18), (u 19), (u 20), (u 21), (u 22), (u 23), (u 24), (u 25), (u 26), (u 27), (u 28), (u 29), (u 30), (u 31), (u 32), (u 33), (u 34), (u 35), (u 36), (u 37), (u 38), (u 39), (u 40), (u 41), (u 42), (u 43), (u 44), (u 45), (u 46), (u 47), (u 48), (u 49), (u 50), (u 51), (u 52), (u 53), (u 54), (u 55), (u 56), (u 57), (u 58), (u 59), (u 60), (u 61), (u 62), (u 63), (u 64), (u 65), (u 66), (u 67), (u 68), (u 69), (u 70), (u 71), (u 72), (u 73), (u 74), (u 75), (u 76), (u 77), (u 78), (u 79), (u 80), (u 81), (u 82), (u 83), (u 84), (u 85), (u 86), (u 87), (u 88)], defers := [] }) ∧ RunsIn W (.slice px x.length cx) x w.heap.size W.heap.size ∧ RunsIn W (.slice py y.length cy) y w.heap.size W.heap.size ∧ Kept [] w W ∧ ComInv x y out i k ∧ w'.ownsRow W.heap.size 128 2 v7 out.length (rcells out) ∧ Kept [] W w'
def ComM (x y : List (Int × Int)) (a' : Act) (_ : World) : Nat := x.length + y.length - (intOf (a'.tmps.getD 8 undef)).toNat - (intOf (a'.tmps.getD 9 undef)).toNat
set_option maxRecDepth 100000 in
set_option maxHeartbeats 4000000 in
theorem xcommon (va : Value) (la : List (Int × Int)) (loa hia : Nat) (vb : Value) (lb : List (Int × Int)) (lob hib : Nat) (w : World) (ha : RunsIn w va la loa hia) (hb : RunsIn w vb lb lob hib) (hla : la.length ≤ 1000000) (hlb : lb.length ≤ 1000000) (hwa : ∀ a ∈ la, WfRun a) (hwb : ∀ a ∈ lb, WfRun a) :
  Calls Tryz.prog 166 #[va, vb] w (GivesR (commonL la lb) w) := by
 have hpa := fun W h => xplain va la loa hia W h hla hwa
 have hpb := fun W h => xplain vb lb lob hib W h hlb hwb
 have HPA := Lib.hid hpa
 have HPB := Lib.hid hpb
 obtain ⟨pa, ac, rfl⟩ := ha.shape
 obtain ⟨pb, bc, rfl⟩ := hb.shape
 obtain ⟨i0, q0, q1, q2, q3⟩ := infoRun
 have HA := Lib.hid ha
 have HB := Lib.hid hb
 have hend := fun out i k => com_end (a := la) (b := lb) (out := out) (i := i) (k := k)
 have hpx : Pl 0 (plainL la) := canon_pl _
 have hpy : Pl 0 (plainL lb) := canon_pl _
 have HEND := Lib.hid hend
 have HPX := Lib.hid hpx
 have HPY := Lib.hid hpy
 have hlx := hpx.len0
 have hly := hpy.len0
 clear hpa hpb ha hb hend hpx hpy hla hlb hwa hwb
 unfold GivesR at HPA HPB ⊢
 generalize plainL la = x at *
 generalize plainL lb = y at *
 generalize la.length = al at *
 generalize lb.length = bl at *
 go_enter Tryz.func166, Tryz.ntmps166
 go_wp2_with fail
 refine wp_scope_jumps2 0 (ComJ w x y pa al ac pb bl bc) (ComM x y) rfl ?_ ?_
 ·rintro a' w' ⟨W, px, cx, py, cy, i, k, out, v7, ⟨u, rfl⟩, hX, hY, hKW, hI, hrow, hK⟩
  have hKK := hKW.trans hK
  have hWs := hKW.size
  have hol := hI.pl.len0
  rcases (by have := hI.hi; have := hI.hk; omega : i = x.length ∨ (i < x.length ∧ k = y.length) ∨ (i < x.length ∧ k < y.length)) with hx | ⟨hx, hy⟩ | ⟨hx, hy⟩
  ·have hout := HEND.out out i k hI (Or.inl hx)
   subst hx
   have HOUT := Lib.hid hout
   have HR := Lib.hid hrow
   clear hout hrow hI
   go_wp2_with fail
   simp only [Exit.jump]
   go_ret
   exact ⟨_, rfl, by rw [← HOUT.out]; exact ownsRow_base HR.out hWs, hKK⟩
  ·have hout := HEND.out out i k hI (Or.inr hy)
   subst hy
   have HOUT := Lib.hid hout
   have HR := Lib.hid hrow
   have i1 : ¬ ((i : Int) = x.length) := by omega
   have i2 : ((i : Int) == x.length) = false := by rw [beq_eq_false_iff_ne]; omega
   clear hout hrow hI
   go_wp2_with fail
   simp only [Exit.jump]
   go_ret
   exact ⟨_, rfl, by rw [← HOUT.out]; exact ownsRow_base HR.out hWs, hKK⟩
  ·obtain ⟨bx, ox, rfl, wa0, wa1, hbx, _, _⟩ := hX.at_ i hx
   obtain ⟨by_, oy, rfl, wb0, wb1, hby, _, _⟩ := hY.at_ k hy
   have i1 : ((i : Int) == x.length) = false := by rw [beq_eq_false_iff_ne]; omega
   have i2 : ((k : Int) == y.length) = false := by rw [beq_eq_false_iff_ne]; omega
   have i3 : (i : Int) < x.length := by omega
   have i4 : (k : Int) < y.length := by omega
   obtain ⟨p1, p2, p3⟩ := pl_at HPX.out hx
   obtain ⟨p4, p5, p6⟩ := pl_at HPY.out hy
   have hst := fun lo hi elo ehi i' k' hik => com_step HPX.out HPY.out hI hx hy lo hi elo ehi i' k' hik
   have HST := Lib.hid hst
   have HXX := Lib.hid hX
   have HYY := Lib.hid hY
   have HLT : Hid (i < x.length ∧ k < y.length) := ⟨hx, hy⟩
   have r3 : out.length + 1 ≤ maxLen := by unfold maxLen; omega
   have r4 : (out.length + 1) * 16 ≤ 140737488355328 := by omega
   clear hst hX hY hI
   generalize x[i].1 = A0 at *
   generalize x[i].2 = An at *
   generalize y[k].1 = B0 at *
   generalize y[k].2 = Bn at *
   clear hx hy
   have WC : Hid (W.cell? ⟨bx, ox + i * 2, none⟩ = some (.int .i64 A0) ∧ W.cell? ⟨bx, ox + i * 2 + 1, none⟩ = some (.int .i64 An)) := ⟨wa0, wa1⟩
   have a0 := (hK.cell (a := ⟨bx, ox + i * 2, none⟩) (by exact hbx) (by simp)).trans wa0
   have a1 := (hK.cell (a := ⟨bx, ox + i * 2 + 1, none⟩) (by exact hbx) (by simp)).trans wa1
   have b0 := (hK.cell (a := ⟨by_, oy + k * 2, none⟩) (by exact hby) (by simp)).trans wb0
   have b1 := (hK.cell (a := ⟨by_, oy + k * 2 + 1, none⟩) (by exact hby) (by simp)).trans wb1
   clear wa0 wa1 wb0 wb1
   obtain ⟨lo, hlo⟩ : ∃ lo, lo = max A0 B0 := ⟨_, rfl⟩
   obtain ⟨hi, hhi⟩ : ∃ hi, hi = min (A0 + An) (B0 + Bn) := ⟨_, rfl⟩
   have hs1 := HST.out lo hi hlo hhi
   have HS1 := Lib.hid hs1
   clear HST hs1
   obtain ⟨p7, c7, rfl⟩ := own_shape hrow
   rcases (by omega : (A0 ≤ B0 ∧ lo = B0) ∨ (B0 < A0 ∧ lo = A0)) with ⟨h1, e1⟩ | ⟨h1, e1⟩
   all_goals rcases (by omega : (A0 + An ≤ B0 + Bn ∧ hi = A0 + An) ∨ (B0 + Bn < A0 + An ∧ hi = B0 + Bn)) with ⟨h2, e2⟩ | ⟨h2, e2⟩
   all_goals clear hlo hhi
   all_goals subst lo
   all_goals subst hi
   ·have hin := HS1.out (i + 1) k (Or.inl ⟨rfl, rfl, rfl⟩)
    have hm1 : max A0 B0 = B0 := by omega
    have hm2 : min (A0 + An) (B0 + Bn) = A0 + An := by omega
    by_cases hlt : B0 < A0 + An
    ·rw [if_pos hlt] at hin
     have HIN := Lib.hid hin
     clear hin HS1
     go_wp2_with fail
     go_quiet (fail)
     go_wp2_with (at_builtin; go_must (refine wpList_append_own_at _ rfl (.tmp 64) (.tmp 70) 56 rfl W.heap.size 128 i0 (.agg #[.int .i64 0, .int .i64 0]) 2 16 Tryz.underlying56 q0 q1 q2 q3 rfl (by decide) _ _ _ rfl (World.ownsRow.alloc (ownsRow_drewN hrow _) _) ⟨w'.heap.size, 0, none⟩ 1 1 [.int .i64 (B0), .int .i64 (A0 + An - B0)] rfl rfl ?_ ?_ r3 r4 ?_ ?_))
     ·exact World.news_of_block (heap_alloc_new (w'.drewN nq) (.cells #[.int .i64 (B0), .int .i64 (A0 + An - B0)] 128))
     ·intro u hu; simp at hu; rcases hu with rfl | rfl <;> rfl
     ·have := hK.size; simp; omega
     intro v6 w6 o6 gr6 _ _
     have k6 : Kept [] W w6 := ((hK.drewN _).alloc _).grown gr6 (fun g hg => Or.inr (World.ownsRow.lt hrow g hg).1)
     have o7 : w6.ownsRow W.heap.size 128 2 v6 (out ++ [(B0, A0 + An - B0)]).length (rcells (out ++ [(B0, A0 + An - B0)])) := by
      rw [rcells_snoc, List.length_append, List.length_singleton]; exact o6
     have HO7 := Lib.hid o7
     have a0 := (k6.cell (a := ⟨bx, ox + i * 2, none⟩) (by exact hbx) (by simp)).trans WC.out.1
     have a1 := (k6.cell (a := ⟨bx, ox + i * 2 + 1, none⟩) (by exact hbx) (by simp)).trans WC.out.2
     obtain ⟨p8, c8, rfl⟩ := own_shape o7
     clear gr6 hrow o6 o7
     go_wp2_with fail
     go_quiet (fail)
     go_wp2_with fail
     go_step3
     refine ⟨rfl, ⟨W, _, cx, _, cy, i + 1, k, _, _, (jframe ..), HXX.out, HYY.out, hKW, HIN.out, ownsRow_drewN HO7.out _, k6.drewN _⟩, ?_⟩
     have hh := HLT.out
     simp [ComM, intOf]; (try omega)
    ·rw [if_neg hlt] at hin
     have HIN := Lib.hid hin
     have HRO := Lib.hid hrow
     clear hin HS1 hrow
     go_wp2_with fail
     go_quiet (fail)
     go_wp2_with fail
     go_quiet (fail)
     go_wp2_with fail
     go_step3
     refine ⟨rfl, ⟨W, _, cx, _, cy, i + 1, k, _, _, (jframe ..), HXX.out, HYY.out, hKW, HIN.out, ownsRow_drewN HRO.out _, hK.drewN _⟩, ?_⟩
     have hh := HLT.out
     simp [ComM, intOf]; (try omega)
   ·have hin := HS1.out i (k + 1) (Or.inr ⟨by omega, rfl, rfl⟩)
    have hm1 : max A0 B0 = B0 := by omega
    have hm2 : min (A0 + An) (B0 + Bn) = B0 + Bn := by omega
    have i5 : (A0 + An == B0 + Bn) = false := by rw [beq_eq_false_iff_ne]; omega
    by_cases hlt : B0 < B0 + Bn
    ·rw [if_pos hlt] at hin
     have HIN := Lib.hid hin
     clear hin HS1
     go_wp2_with fail
     go_quiet (fail)
     go_wp2_with (at_builtin; go_must (refine wpList_append_own_at _ rfl (.tmp 64) (.tmp 70) 56 rfl W.heap.size 128 i0 (.agg #[.int .i64 0, .int .i64 0]) 2 16 Tryz.underlying56 q0 q1 q2 q3 rfl (by decide) _ _ _ rfl (World.ownsRow.alloc (ownsRow_drewN hrow _) _) ⟨w'.heap.size, 0, none⟩ 1 1 [.int .i64 (B0), .int .i64 (B0 + Bn - B0)] rfl rfl ?_ ?_ r3 r4 ?_ ?_))
     ·exact World.news_of_block (heap_alloc_new (w'.drewN nq) (.cells #[.int .i64 (B0), .int .i64 (B0 + Bn - B0)] 128))
     ·intro u hu; simp at hu; rcases hu with rfl | rfl <;> rfl
     ·have := hK.size; simp; omega
     intro v6 w6 o6 gr6 _ _
     have k6 : Kept [] W w6 := ((hK.drewN _).alloc _).grown gr6 (fun g hg => Or.inr (World.ownsRow.lt hrow g hg).1)
     have o7 : w6.ownsRow W.heap.size 128 2 v6 (out ++ [(B0, B0 + Bn - B0)]).length (rcells (out ++ [(B0, B0 + Bn - B0)])) := by
      rw [rcells_snoc, List.length_append, List.length_singleton]; exact o6
     have HO7 := Lib.hid o7
     have a0 := (k6.cell (a := ⟨bx, ox + i * 2, none⟩) (by exact hbx) (by simp)).trans WC.out.1
     have a1 := (k6.cell (a := ⟨bx, ox + i * 2 + 1, none⟩) (by exact hbx) (by simp)).trans WC.out.2
     obtain ⟨p8, c8, rfl⟩ := own_shape o7
     clear gr6 hrow o6 o7
     go_wp2_with fail
     go_quiet (fail)
     go_wp2_with fail
     go_step3
     refine ⟨rfl, ⟨W, _, cx, _, cy, i, k + 1, _, _, (jframe ..), HXX.out, HYY.out, hKW, HIN.out, ownsRow_drewN HO7.out _, k6.drewN _⟩, ?_⟩
     have hh := HLT.out
     simp [ComM, intOf]; (try omega)
    ·exfalso; omega
   ·have hin := HS1.out (i + 1) k (Or.inl ⟨rfl, rfl, rfl⟩)
    have hm1 : max A0 B0 = A0 := by omega
    have hm2 : min (A0 + An) (B0 + Bn) = A0 + An := by omega
    by_cases hlt : A0 < A0 + An
    ·rw [if_pos hlt] at hin
     have HIN := Lib.hid hin
     clear hin HS1
     go_wp2_with fail
     go_quiet (fail)
     go_wp2_with (at_builtin; go_must (refine wpList_append_own_at _ rfl (.tmp 64) (.tmp 70) 56 rfl W.heap.size 128 i0 (.agg #[.int .i64 0, .int .i64 0]) 2 16 Tryz.underlying56 q0 q1 q2 q3 rfl (by decide) _ _ _ rfl (World.ownsRow.alloc (ownsRow_drewN hrow _) _) ⟨w'.heap.size, 0, none⟩ 1 1 [.int .i64 (A0), .int .i64 (A0 + An - A0)] rfl rfl ?_ ?_ r3 r4 ?_ ?_))
     ·exact World.news_of_block (heap_alloc_new (w'.drewN nq) (.cells #[.int .i64 (A0), .int .i64 (A0 + An - A0)] 128))
     ·intro u hu; simp at hu; rcases hu with rfl | rfl <;> rfl
     ·have := hK.size; simp; omega
     intro v6 w6 o6 gr6 _ _
     have k6 : Kept [] W w6 := ((hK.drewN _).alloc _).grown gr6 (fun g hg => Or.inr (World.ownsRow.lt hrow g hg).1)
     have o7 : w6.ownsRow W.heap.size 128 2 v6 (out ++ [(A0, A0 + An - A0)]).length (rcells (out ++ [(A0, A0 + An - A0)])) := by
      rw [rcells_snoc, List.length_append, List.length_singleton]; exact o6
     have HO7 := Lib.hid o7
     have a0 := (k6.cell (a := ⟨bx, ox + i * 2, none⟩) (by exact hbx) (by simp)).trans WC.out.1
     have a1 := (k6.cell (a := ⟨bx, ox + i * 2 + 1, none⟩) (by exact hbx) (by simp)).trans WC.out.2
     obtain ⟨p8, c8, rfl⟩ := own_shape o7
     clear gr6 hrow o6 o7
     go_wp2_with fail
     go_quiet (fail)
     go_wp2_with fail
     go_step3
     refine ⟨rfl, ⟨W, _, cx, _, cy, i + 1, k, _, _, (jframe ..), HXX.out, HYY.out, hKW, HIN.out, ownsRow_drewN HO7.out _, k6.drewN _⟩, ?_⟩
     have hh := HLT.out
     simp [ComM, intOf]; (try omega)
    ·exfalso; omega
   ·have hin := HS1.out i (k + 1) (Or.inr ⟨by omega, rfl, rfl⟩)
    have hm1 : max A0 B0 = A0 := by omega
    have hm2 : min (A0 + An) (B0 + Bn) = B0 + Bn := by omega
    have i5 : (A0 + An == B0 + Bn) = false := by rw [beq_eq_false_iff_ne]; omega
    by_cases hlt : A0 < B0 + Bn
    ·rw [if_pos hlt] at hin
     have HIN := Lib.hid hin
     clear hin HS1
     go_wp2_with fail
     go_quiet (fail)
     go_wp2_with (at_builtin; go_must (refine wpList_append_own_at _ rfl (.tmp 64) (.tmp 70) 56 rfl W.heap.size 128 i0 (.agg #[.int .i64 0, .int .i64 0]) 2 16 Tryz.underlying56 q0 q1 q2 q3 rfl (by decide) _ _ _ rfl (World.ownsRow.alloc (ownsRow_drewN hrow _) _) ⟨w'.heap.size, 0, none⟩ 1 1 [.int .i64 (A0), .int .i64 (B0 + Bn - A0)] rfl rfl ?_ ?_ r3 r4 ?_ ?_))
     ·exact World.news_of_block (heap_alloc_new (w'.drewN nq) (.cells #[.int .i64 (A0), .int .i64 (B0 + Bn - A0)] 128))
     ·intro u hu; simp at hu; rcases hu with rfl | rfl <;> rfl
     ·have := hK.size; simp; omega
     intro v6 w6 o6 gr6 _ _
     have k6 : Kept [] W w6 := ((hK.drewN _).alloc _).grown gr6 (fun g hg => Or.inr (World.ownsRow.lt hrow g hg).1)
     have o7 : w6.ownsRow W.heap.size 128 2 v6 (out ++ [(A0, B0 + Bn - A0)]).length (rcells (out ++ [(A0, B0 + Bn - A0)])) := by
      rw [rcells_snoc, List.length_append, List.length_singleton]; exact o6
     have HO7 := Lib.hid o7
     have a0 := (k6.cell (a := ⟨bx, ox + i * 2, none⟩) (by exact hbx) (by simp)).trans WC.out.1
     have a1 := (k6.cell (a := ⟨bx, ox + i * 2 + 1, none⟩) (by exact hbx) (by simp)).trans WC.out.2
     obtain ⟨p8, c8, rfl⟩ := own_shape o7
     clear gr6 hrow o6 o7
     go_wp2_with fail
     go_quiet (fail)
     go_wp2_with fail
     go_step3
     refine ⟨rfl, ⟨W, _, cx, _, cy, i, k + 1, _, _, (jframe ..), HXX.out, HYY.out, hKW, HIN.out, ownsRow_drewN HO7.out _, k6.drewN _⟩, ?_⟩
     have hh := HLT.out
     simp [ComM, intOf]; (try omega)
    ·rw [if_neg hlt] at hin
     have HIN := Lib.hid hin
     have HRO := Lib.hid hrow
     clear hin HS1 hrow
     go_wp2_with fail
     go_quiet (fail)
     go_wp2_with fail
     go_quiet (fail)
     go_wp2_with fail
     go_step3
     refine ⟨rfl, ⟨W, _, cx, _, cy, i, k + 1, _, _, (jframe ..), HXX.out, HYY.out, hKW, HIN.out, ownsRow_drewN HRO.out _, hK.drewN _⟩, ?_⟩
     have hh := HLT.out
     simp [ComM, intOf]; (try omega)
 ·intro PASS0
  have PASS := Lib.hid PASS0
  clear PASS0
  go_wp2_with fail
  refine (HPA.out _ HA.out).mono ?_; rintro e w1 ⟨v1, rfl, r1, k1⟩
  obtain ⟨px, cx, rfl⟩ := own_shape r1
  have hX1 := RunsIn.of_own r1
  have HX1 := Lib.hid hX1
  clear r1 hX1
  go_wp2_with fail
  refine (HPB.out _ (HB.out.kept0 k1)).mono ?_; rintro e w2 ⟨v2, rfl, r2, k2⟩
  obtain ⟨py, cy, rfl⟩ := own_shape r2
  have hY2 := (RunsIn.of_own r2).weaken (lo' := w.heap.size) (hi' := w2.heap.size) k1.size (Nat.le_refl _) (Nat.le_refl _)
  have hX2 := (HX1.out.kept0 k2).weaken (lo' := w.heap.size) (hi' := w2.heap.size) (Nat.le_refl _) k2.size (Nat.le_refl _)
  have HX2 := Lib.hid hX2
  have HY2 := Lib.hid hY2
  have hKW := k1.trans k2
  clear r2 hY2 hX2 HX1
  go_wp2_with fail
  go_step3
  rename_i hcont
  refine hcont _ _ (PASS.out _ _ ⟨w2, px, cx, py, cy, 0, 0, [], .slice none 0 0, jframe .., HX2.out, HY2.out, hKW, com_start HPX.out HPY.out, World.ownsRow_nil _ _ _ _, Kept.refl _ _⟩)
theorem Pl.sum {a : Int} {l : List (Int × Int)} (h : Pl a l) (ha : a ≤ 8193) : 0 ≤ sumLen l ∧ sumLen l ≤ 8193 - a := by
 induction l generalizing a with
 | nil => simp [sumLen]; omega
 | cons r t ih =>
  obtain ⟨h1, h2, h3, h4⟩ := h
  have := ih h4 (by omega)
  have e : sumLen (r :: t) = r.2 + sumLen t := by simp [sumLen]
  rw [e]; omega
theorem Pl.take {a : Int} {l : List (Int × Int)} (h : Pl a l) (k : Nat) : Pl a (l.take k) := by
 induction k generalizing l a with
 | zero => trivial
 | succ k ih =>
  cases l with
  | nil => trivial
  | cons r t => obtain ⟨h1, h2, h3, h4⟩ := h; exact ⟨h1, h2, h3, ih h4⟩
set_option maxRecDepth 100000 in
set_option maxHeartbeats 1000000 in
theorem xcount (v : Value) (l : List (Int × Int)) (lo hi : Nat) (w : World) (h : RunsIn w v l lo hi) (hl : l.length ≤ 1000000) (hwf : ∀ a ∈ l, WfRun a) :
  Calls Tryz.prog 65 #[v] w fun e w' => e = .returned (.int .i64 (countL l)) ∧ Kept [] w w' := by
 have hp := xplain v l lo hi w h hl hwf
 have hsum := plain_sum l
 have hpl : Pl 0 (plainL l) := canon_pl _
 have hlen := hpl.len0
 obtain ⟨p, c, rfl⟩ := h.shape
 unfold GivesR at hp
 have HP := Lib.hid hp
 have HSUM := Lib.hid hsum
 have HPL := Lib.hid hpl
 clear hp hsum hpl h hwf
 generalize plainL l = x at *
 generalize countL l = n at *
 go_enter Tryz.func65, Tryz.ntmps65
 go_wp2_with fail
 refine HP.out.mono ?_; rintro e w1 ⟨v1, rfl, r1, k1⟩
 obtain ⟨px, cx, rfl⟩ := own_shape r1
 have HX := Lib.hid (RunsIn.of_own r1)
 clear r1
 go_wp2_with fail
 go_loopw [3, 9] (fun s i wr => ∃ k : Nat, k ≤ x.length ∧ i = .int .i64 k ∧ s = .int .i64 (sumLen (x.take k)) ∧ Kept [] w1 wr) (fun _ i _ => x.length - (intOf i).toNat)
 case atStart => exact ⟨0, by omega, rfl, rfl, Kept.refl _ _⟩
 case round =>
  obtain ⟨k, hk, rfl, rfl, hK⟩ := hrel
  by_cases hlt : k < x.length
  ·obtain ⟨b, off, rfl, c0, c1, hb, hlc, hcm⟩ := (HX.out.kept0 hK).at_ k hlt
   have hst := sumLen_take x k hlt
   have hs1 := (HPL.out.take k).sum (by omega)
   have hs2 := (HPL.out.take (k + 1)).sum (by omega)
   rw [hst] at hs2
   have i1 : (k : Int) < x.length := by omega
   have HST := Lib.hid hst
   have HLT := Lib.hid hlt
   obtain ⟨s1, s2⟩ := hs1
   obtain ⟨s3, s4⟩ := hs2
   clear hst
   generalize sumLen (x.take k) = S at *
   go_wp2_with fail
   go_roundw
   case rel => exact ⟨k + 1, HLT.out, by go_num, by rw [HST.out], hK.alloc _⟩
   case measure => (have hh := HLT.out; simp [intOf]; omega)
  ·obtain rfl : k = x.length := by omega
   have e : sumLen (x.take x.length) = (n : Int) := by rw [List.take_length]; exact HSUM.out
   rw [e]
   clear e
   go_wp2_with fail
   go_ret
   exact ⟨rfl, k1.trans hK⟩
def atTo (p : List (Int × Int)) : Nat → Int
 | 0 => 0
 | k + 1 => (p.getD k (0, 0)).1 + (p.getD k (0, 0)).2
def gapsTo (p : List (Int × Int)) : Nat → List (Int × Int)
 | 0 => []
 | k + 1 => gapsTo p k ++ [(atTo p k, (p.getD k (0, 0)).1 - atTo p k)]
theorem gapsTo_len (p : List (Int × Int)) (k : Nat) : (gapsTo p k).length = k := by
 induction k with
 | zero => rfl
 | succ k ih => rw [gapsTo, List.length_append, ih]; rfl
structure GapOk (p : List (Int × Int)) (k : Nat) : Prop where
 lo : 0 ≤ atTo p k ∧ atTo p k ≤ 8192
 next : ∀ h : k < p.length, atTo p k ≤ p[k].1
 is : ∀ j, inS (gapsTo p k) j ↔ 0 ≤ j ∧ j < atTo p k ∧ ¬ inS p j
 behind : ∀ j, atTo p k ≤ j → inS p j → inS (p.drop k) j
 wf : ∀ r ∈ gapsTo p k, 0 ≤ r.1 ∧ r.1 ≤ 8192 ∧ 0 ≤ r.2 ∧ r.2 ≤ 8192
theorem gap_ok {p : List (Int × Int)} (hp : Pl 0 p) (k : Nat) (hk : k ≤ p.length) : GapOk p k := by
 induction k with
 | zero => exact ⟨⟨Int.le_refl _, by show (0 : Int) ≤ 8192; omega⟩, fun h => (pl_at hp h).1, fun j => ⟨fun h => absurd h (inS_nil j), fun ⟨h1, h2, _⟩ => by have h2 : j < 0 := h2; omega⟩, fun j _ h => h, fun r hr => by cases hr⟩
 | succ k ih =>
  have hlt : k < p.length := by omega
  obtain ⟨⟨h1, h2⟩, h3, h4, h5, h6⟩ := ih (by omega)
  have h3 := h3 hlt
  obtain ⟨p1, p2, p3⟩ := pl_at hp hlt
  have eg : p.getD k (0, 0) = p[k] := by rw [List.getD_eq_getElem?_getD, List.getElem?_eq_getElem hlt]; rfl
  have ea : atTo p (k + 1) = p[k].1 + p[k].2 := by rw [atTo, eg]
  have egap : gapsTo p (k + 1) = gapsTo p k ++ [(atTo p k, p[k].1 - atTo p k)] := by rw [gapsTo, eg]
  have dx := fun j => in_drop hlt j
  have gx : ∀ j, inS (p.drop (k + 1)) j → p[k].1 + p[k].2 + 1 ≤ j := fun j hj => ((hp.next k hlt).ge hj).1
  refine ⟨by rw [ea]; omega, fun h => ?_, fun j => ?_, fun j hj hin => ?_, fun r hr => ?_⟩
  ·rw [ea]
   have := drop_ge hp hlt (q := p[k + 1]) (by rw [List.drop_eq_getElem_cons h]; exact List.mem_cons_self)
   omega
  ·rw [egap, inS_append, inS_one, h4, ea]
   constructor
   ·rintro (⟨a, b, c⟩ | ⟨a, b⟩)
    ·exact ⟨a, by omega, c⟩
    ·have a : atTo p k ≤ j := a
     have b : j < atTo p k + (p[k].1 - atTo p k) := b
     refine ⟨by omega, by omega, fun hin => ?_⟩
     rcases (dx j).1 (h5 j a hin) with ⟨q, _⟩ | q
     ·omega
     ·have := gx j q; omega
   ·rintro ⟨a, b, c⟩
    by_cases hj : j < atTo p k
    ·exact Or.inl ⟨a, hj, c⟩
    ·refine Or.inr ⟨by show atTo p k ≤ j; omega, ?_⟩
     show j < atTo p k + (p[k].1 - atTo p k)
     by_cases hq : p[k].1 ≤ j
     ·exact absurd ⟨p[k], List.getElem_mem hlt, hq, b⟩ c
     ·omega
  ·rw [ea] at hj
   rcases (dx j).1 (h5 j (by omega) hin) with ⟨_, q⟩ | q
   ·omega
   ·exact q
  ·rw [egap] at hr
   rcases List.mem_append.1 hr with hr | hr
   ·exact h6 r hr
   ·have hr : r = (atTo p k, p[k].1 - atTo p k) := by simpa using hr
    subst hr
    exact ⟨h1, h2, by show 0 ≤ p[k].1 - atTo p k; omega, by show p[k].1 - atTo p k ≤ 8192; omega⟩
def gapsL (p : List (Int × Int)) : List (Int × Int) := gapsTo p p.length ++ [(atTo p p.length, 8192 - atTo p p.length)]
theorem gaps_has {p : List (Int × Int)} (hp : Pl 0 p) (m : Nat) (hm : m < 8192) : hasB (gapsL p) m = !hasB p m := by
 obtain ⟨⟨h1, h2⟩, _, h4, h5, _⟩ := gap_ok hp p.length (Nat.le_refl _)
 rw [Bool.eq_iff_iff, Bool.not_eq_true', ← Bool.not_eq_true, hasB_iff, hasB_iff]
 unfold gapsL
 rw [inS_append, inS_one, h4]
 constructor
 ·rintro (⟨_, _, c⟩ | ⟨a, b⟩)
  ·exact c
  ·intro hin
   have := h5 m a hin
   rw [List.drop_length] at this
   exact inS_nil _ this
 ·intro c
  by_cases hj : (m : Int) < atTo p p.length
  ·exact Or.inl ⟨by omega, hj, c⟩
  ·refine Or.inr ⟨by show atTo p p.length ≤ m; omega, ?_⟩
   show (m : Int) < atTo p p.length + (8192 - atTo p p.length)
   omega
theorem gaps_wf {p : List (Int × Int)} (hp : Pl 0 p) : ∀ r ∈ gapsL p, WfRun r := by
 obtain ⟨⟨h1, h2⟩, _, _, _, h6⟩ := gap_ok hp p.length (Nat.le_refl _)
 intro r hr
 unfold gapsL at hr
 rcases List.mem_append.1 hr with hr | hr
 ·obtain ⟨a, b, c, d⟩ := h6 r hr
  exact ⟨by omega, by omega, by omega, by omega⟩
 ·have hr : r = (atTo p p.length, 8192 - atTo p p.length) := by simpa using hr
  subst hr
  exact ⟨by show _ ≤ atTo p p.length; omega, by show atTo p p.length ≤ _; omega, by show _ ≤ 8192 - atTo p p.length; omega, by show 8192 - atTo p p.length ≤ _; omega⟩
theorem minus_gaps (la lb : List (Int × Int)) : commonL la (gapsL (plainL lb)) = minusL la lb :=
 canon_congr (fun m hm => by rw [gaps_has (p := plainL lb) (canon_pl _) m hm]; unfold plainL; rw [canon_has _ m hm])
set_option maxRecDepth 100000 in
set_option maxHeartbeats 2000000 in
theorem xminus (va : Value) (la : List (Int × Int)) (loa hia : Nat) (vb : Value) (lb : List (Int × Int)) (lob hib : Nat) (w : World) (ha : RunsIn w va la loa hia) (hb : RunsIn w vb lb lob hib) (hla : la.length ≤ 1000000) (hlb : lb.length ≤ 1000000) (hwa : ∀ a ∈ la, WfRun a) (hwb : ∀ a ∈ lb, WfRun a) :
  Calls Tryz.prog 96 #[va, vb] w (GivesR (minusL la lb) w) := by
 have hp := xplain vb lb lob hib w hb hlb hwb
 have hpl : Pl 0 (plainL lb) := canon_pl _
 have hlen := hpl.len0
 obtain ⟨i0, q0, q1, q2, q3⟩ := infoRun
 have hcom := fun W vg log hig (h1 : RunsIn W va la loa hia) (h2 : RunsIn W vg (gapsL (plainL lb)) log hig) => xcommon va la loa hia vg (gapsL (plainL lb)) log hig W h1 h2 hla (by unfold gapsL; rw [List.length_append, gapsTo_len]; simp; omega) hwa (gaps_wf hpl)
 rw [minus_gaps] at hcom
 obtain ⟨pa, ca, rfl⟩ := ha.shape
 obtain ⟨pb, cb, rfl⟩ := hb.shape
 unfold GivesR at *
 have HP := Lib.hid hp
 have HPL := Lib.hid hpl
 have HCOM := Lib.hid hcom
 have HA := Lib.hid ha
 clear hp hpl hcom ha hb hwa hwb hla hlb
 generalize plainL lb = x at *
 generalize la.length = al at *
 generalize lb.length = bl at *
 generalize minusL la lb = M at *
 go_enter Tryz.func96, Tryz.ntmps96
 go_wp2_with fail
 refine HP.out.mono ?_; rintro e w1 ⟨v1, rfl, r1, k1⟩
 obtain ⟨px, cx, rfl⟩ := own_shape r1
 have HX := Lib.hid (RunsIn.of_own r1)
 have hs1 := k1.size
 clear r1
 go_wp2_with fail
 go_loopw [5, 6, 12] (fun g a i wr => ∃ k : Nat, k ≤ x.length ∧ i = .int .i64 k ∧ a = .int .i64 (atTo x k) ∧ wr.ownsRow w1.heap.size 128 2 g k (rcells (gapsTo x k)) ∧ Kept [] w1 wr) (fun _ _ i _ => x.length - (intOf i).toNat)
 case atStart => exact ⟨0, by omega, rfl, rfl, World.ownsRow_nil _ _ _ _, Kept.refl _ _⟩
 case round =>
  obtain ⟨k, hk, rfl, rfl, hrow, hK⟩ := hrel
  obtain ⟨⟨g1, g2⟩, g3, _⟩ := gap_ok HPL.out k hk
  obtain ⟨p5, c5, rfl⟩ := own_shape hrow
  have hKs := hK.size
  by_cases hlt : k < x.length
  ·obtain ⟨b, off, rfl, c0, c1, hb, hlc, hcm⟩ := (HX.out.kept0 hK).at_ k hlt
   have g3 := g3 hlt
   obtain ⟨y1, y2, y3⟩ := pl_at HPL.out hlt
   have eg : x.getD k (0, 0) = x[k] := by rw [List.getD_eq_getElem?_getD, List.getElem?_eq_getElem hlt]; rfl
   have ea : atTo x (k + 1) = x[k].1 + x[k].2 := by rw [atTo, eg]
   have egap : rcells (gapsTo x (k + 1)) = rcells (gapsTo x k) ++ [.int .i64 (atTo x k), .int .i64 (x[k].1 - atTo x k)] := by rw [gapsTo, eg, rcells_snoc]
   have i1 : (k : Int) < x.length := by omega
   have HEA := Lib.hid ea
   have HEG := Lib.hid egap
   have HLT := Lib.hid hlt
   have r3 : k + 1 ≤ maxLen := by unfold maxLen; omega
   have r4 : (k + 1) * 16 ≤ 140737488355328 := by omega
   clear eg ea egap
   generalize atTo x k = a at *
   generalize x[k].1 = X0 at *
   generalize x[k].2 = Xn at *
   go_wp2_with (at_builtin; go_must (refine wpList_append_own_at _ rfl (.tmp 16) (.tmp 23) 56 rfl w1.heap.size 128 i0 (.agg #[.int .i64 0, .int .i64 0]) 2 16 Tryz.underlying56 q0 q1 q2 q3 rfl (by decide) _ _ _ rfl (World.ownsRow.alloc (World.ownsRow.alloc hrow _) _) ⟨wr.heap.size + 1, 0, none⟩ 1 1 [.int .i64 a, .int .i64 (X0 - a)] rfl rfl ?_ ?_ r3 r4 ?_ ?_))
   ·have hnb : ((wr.alloc (.cells #[.int .i64 X0, .int .i64 Xn] 128)).alloc (.cells #[.int .i64 a, .int .i64 (X0 - a)] 128)).heap[wr.heap.size + 1]? = some (.cells #[.int .i64 a, .int .i64 (X0 - a)] 128 (0, 0)) := by
     have := heap_alloc_new (wr.alloc (.cells #[.int .i64 X0, .int .i64 Xn] 128)) (.cells #[.int .i64 a, .int .i64 (X0 - a)] 128)
     rw [World.size_alloc] at this
     exact this
    exact World.news_of_block hnb
   ·intro u hu; simp at hu; rcases hu with rfl | rfl <;> rfl
   ·simp; omega
   intro v6 w6 o6 gr6 _ _
   have k6 : Kept [] w1 w6 := ((hK.alloc _).alloc _).grown gr6 (fun g hg => Or.inr (World.ownsRow.lt hrow g hg).1)
   have z0 : w6.cell? ⟨wr.heap.size, 0, none⟩ = some (.int .i64 X0) := by
    have hne : (Value.slice p5 k c5).ownBlock ≠ some wr.heap.size := fun e => by
     have := (World.ownsRow.lt hrow _ e).2; omega
    have hb2 := gr6.block wr.heap.size (by simp; omega) (fun e => hne e.symm)
    rw [World.cell?_of_block hb2]
    exact (Own.alloc (Own.new wr #[.int .i64 X0, .int .i64 Xn] 128) _).cell 0 (by simp)
   have z1 : w6.cell? ⟨wr.heap.size, 1, none⟩ = some (.int .i64 Xn) := by
    have hne : (Value.slice p5 k c5).ownBlock ≠ some wr.heap.size := fun e => by
     have := (World.ownsRow.lt hrow _ e).2; omega
    have hb2 := gr6.block wr.heap.size (by simp; omega) (fun e => hne e.symm)
    rw [World.cell?_of_block hb2]
    exact (Own.alloc (Own.new wr #[.int .i64 X0, .int .i64 Xn] 128) _).cell 1 (by simp)
   rw [← HEG.out] at o6
   have HO6 := Lib.hid o6
   clear gr6 hrow o6
   go_wp2_with fail
   go_roundw
   case rel => exact ⟨k + 1, HLT.out, by go_num, by rw [HEA.out], HO6.out, k6⟩
   case measure => (have hh := HLT.out; simp [intOf]; omega)
  ·obtain rfl : k = x.length := by omega
   have r3 : x.length + 1 ≤ maxLen := by unfold maxLen; omega
   have r4 : (x.length + 1) * 16 ≤ 140737488355328 := by omega
   have egap : rcells (gapsL x) = rcells (gapsTo x x.length) ++ [.int .i64 (atTo x x.length), .int .i64 (8192 - atTo x x.length)] := by unfold gapsL; rw [rcells_snoc]
   have elen : (gapsL x).length = x.length + 1 := by unfold gapsL; rw [List.length_append, gapsTo_len]; rfl
   have HEG := Lib.hid egap
   have HEL := Lib.hid elen
   clear egap elen
   generalize atTo x x.length = a at *
   go_wp2_with (at_builtin; go_must (refine wpList_append_own_at _ rfl (.tmp 32) (.tmp 37) 56 rfl w1.heap.size 128 i0 (.agg #[.int .i64 0, .int .i64 0]) 2 16 Tryz.underlying56 q0 q1 q2 q3 rfl (by decide) _ _ _ rfl (World.ownsRow.alloc hrow _) ⟨wr.heap.size, 0, none⟩ 1 1 [.int .i64 a, .int .i64 (8192 - a)] rfl rfl ?_ ?_ r3 r4 ?_ ?_))
   ·exact World.news_of_block (heap_alloc_new wr _)
   ·intro u hu; simp at hu; rcases hu with rfl | rfl <;> rfl
   ·simp; omega
   intro v6 w6 o6 gr6 _ _
   have k6 : Kept [] w1 w6 := (hK.alloc _).grown gr6 (fun g hg => Or.inr (World.ownsRow.lt hrow g hg).1)
   rw [← HEG.out, ← HEL.out] at o6
   have hG := RunsIn.of_own o6
   have hA6 := HA.out.kept0 (k1.trans k6)
   have hc := HCOM.out w6 v6 _ _ hA6 hG
   obtain ⟨p6, c6, rfl⟩ := own_shape o6
   have HC := Lib.hid hc
   have hs6 := (k1.trans k6).size
   clear gr6 hrow o6 hG hc
   go_wp2_with fail
   refine HC.out.mono ?_; rintro e w7 ⟨v7, rfl, o7, k7⟩
   go_wp2_with fail
   go_ret
   exact ⟨_, rfl, ownsRow_base o7 hs6, (k1.trans k6).trans k7⟩
end Go.Proofs.YtdkimcnlhmhpgaaGreat
