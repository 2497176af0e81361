/- Walk of layer 10 (extent): what both of two lists have. -/
import Derived.Test.YtdnbddhjdokbfaaG07
import Derived.Test.YtdnbddhjdokbfaaG08
import Derived.WalkMore
import Derived.ScopeJumps
import Derived.Outline
namespace Go.Proofs.Ytdnbddhjdokbfaa
open Go.RowKit
set_option linter.unusedVariables false
set_option linter.unusedSimpArgs false

/-- a scope in which the run jumps back to one label: the first way may lean on what holds behind the label. -/
theorem wp_scope_jumps2 {P : Program} {a : Act} {w : World} {Q : Exit → Act → World → Prop} {c rest : Code} (l : Nat) (J : Act → World → Prop) (μ : Act → World → Nat) (hf : findLabel c l = some (Code.skip.seq rest))
    (pass : ∀ a w, J a w → rest.wp P (Exit.jump l (fun a' w' => J a' w' ∧ μ a' w' < μ a w) Q) a w)
    (first : (∀ a w, J a w → rest.wp P (Exit.jump l J Q) a w) → c.wp P (Exit.jump l J Q) a w) : (Code.scope c).wp P Q a w :=
  wp_scope_jumps l J μ hf (first (fun a w h => wp_mono (pass a w h) (fun e a' w' he => by
    cases e with
    | goto l' => exact ⟨he.1, he.2.1⟩
    | _ => exact he))) (fun a w h => wp_seq (wp_skip (pass a w h)))

/-- a frame of 89 slots, of which the first ten are told. -/
theorem jframe (x0 x1 x2 x3 x4 x5 x6 x7 x8 x9 x10 x11 x12 x13 x14 x15 x16 x17 x18 x19 x20 x21 x22 x23 x24 x25 x26 x27 x28 x29 x30 x31 x32 x33 x34 x35 x36 x37 x38 x39 x40 x41 x42 x43 x44 x45 x46 x47 x48 x49 x50 x51 x52 x53 x54 x55 x56 x57 x58 x59 x60 x61 x62 x63 x64 x65 x66 x67 x68 x69 x70 x71 x72 x73 x74 x75 x76 x77 x78 x79 x80 x81 x82 x83 x84 x85 x86 x87 x88 : Value) : ∃ u : Nat → Value, ({ tmps := #[x0, x1, x2, x3, x4, x5, x6, x7, x8, x9, x10, x11, x12, x13, x14, x15, x16, x17, x18, x19, x20, x21, x22, x23, x24, x25, x26, x27, x28, x29, x30, x31, x32, x33, x34, x35, x36, x37, x38, x39, x40, x41, x42, x43, x44, x45, x46, x47, x48, x49, x50, x51, x52, x53, x54, x55, x56, x57, x58, x59, x60, x61, x62, x63, x64, x65, x66, x67, x68, x69, x70, x71, x72, x73, x74, x75, x76, x77, x78, x79, x80, x81, x82, x83, x84, x85, x86, x87, x88], defers := [] } : Act) = { tmps := #[x0, x1, x2, x3, x4, x5, x6, x7, x8, x9, (u 10), (u 11), (u 12), (u 13), (u 14), (u 15), (u 16), (u 17), (u 18), (u 19), (u 20), (u 21), (u 22), (u 23), (u 24), (u 25), (u 26), (u 27), (u 28), (u 29), (u 30), (u 31), (u 32), (u 33), (u 34), (u 35), (u 36), (u 37), (u 38), (u 39), (u 40), (u 41), (u 42), (u 43), (u 44), (u 45), (u 46), (u 47), (u 48), (u 49), (u 50), (u 51), (u 52), (u 53), (u 54), (u 55), (u 56), (u 57), (u 58), (u 59), (u 60), (u 61), (u 62), (u 63), (u 64), (u 65), (u 66), (u 67), (u 68), (u 69), (u 70), (u 71), (u 72), (u 73), (u 74), (u 75), (u 76), (u 77), (u 78), (u 79), (u 80), (u 81), (u 82), (u 83), (u 84), (u 85), (u 86), (u 87), (u 88)], defers := [] } :=
  ⟨fun n => [x0, x1, x2, x3, x4, x5, x6, x7, x8, x9, x10, x11, x12, x13, x14, x15, x16, x17, x18, x19, x20, x21, x22, x23, x24, x25, x26, x27, x28, x29, x30, x31, x32, x33, x34, x35, x36, x37, x38, x39, x40, x41, x42, x43, x44, x45, x46, x47, x48, x49, x50, x51, x52, x53, x54, x55, x56, x57, x58, x59, x60, x61, x62, x63, x64, x65, x66, x67, x68, x69, x70, x71, x72, x73, x74, x75, x76, x77, x78, x79, x80, x81, x82, x83, x84, x85, x86, x87, x88].getD n undef, rfl⟩
def ComJ (w : World) (x y : List (Int × Int)) (pa : Option Addr) (al ac : Nat) (pb : Option Addr) (bl bc : Nat) (a' : Act) (w' : World) : Prop :=
  ∃ (W : World) (px : Option Addr) (cx : Nat) (py : Option Addr) (cy i k : Nat) (out : List (Int × Int)) (v7 : Value), (∃ u : Nat → Value, a' = { tmps := #[.slice pa al ac, .slice pb bl bc, undef, undef, .slice none 0 0, .slice px x.length cx, .slice py y.length cy, v7, .int .i64 i, .int .i64 k, (u 10), (u 11), (u 12), (u 13), (u 14), (u 15), (u 16), (u 17), (u 18), (u 19), (u 20), (u 21), (u 22), (u 23), (u 24), (u 25), (u 26), (u 27), (u 28), (u 29), (u 30), (u 31), (u 32), (u 33), (u 34), (u 35), (u 36), (u 37), (u 38), (u 39), (u 40), (u 41), (u 42), (u 43), (u 44), (u 45), (u 46), (u 47), (u 48), (u 49), (u 50), (u 51), (u 52), (u 53), (u 54), (u 55), (u 56), (u 57), (u 58), (u 59), (u 60), (u 61), (u 62), (u 63), (u 64), (u 65), (u 66), (u 67), (u 68), (u 69), (u 70), (u 71), (u 72), (u 73), (u 74), (u 75), (u 76), (u 77), (u 78), (u 79), (u 80), (u 81), (u 82), (u 83), (u 84), (u 85), (u 86), (u 87), (u 88)], defers := [] }) ∧ RunsIn W (.slice px x.length cx) x w.heap.size W.heap.size ∧ RunsIn W (.slice py y.length cy) y w.heap.size W.heap.size ∧ Kept [] w W ∧ ComInv x y out i k ∧ w'.ownsRow W.heap.size 66 2 v7 out.length (rcells out) ∧ Kept [] W w'
def ComM (x y : List (Int × Int)) (a' : Act) (_ : World) : Nat := x.length + y.length - (intOf (a'.tmps.getD 8 undef)).toNat - (intOf (a'.tmps.getD 9 undef)).toNat
set_option maxRecDepth 100000 in
set_option maxHeartbeats 4000000 in
theorem xcommon (va : Value) (la : List (Int × Int)) (loa hia : Nat) (vb : Value) (lb : List (Int × Int)) (lob hib : Nat) (w : World) (ha : RunsIn w va la loa hia) (hb : RunsIn w vb lb lob hib) (hla : la.length ≤ 1000000) (hlb : lb.length ≤ 1000000) (hwa : ∀ a ∈ la, WfRun a) (hwb : ∀ a ∈ lb, WfRun a) :
    Calls Try.prog 40 #[va, vb] w (GivesR (commonL la lb) w) := by
  have hpa := fun W h => xplain va la loa hia W h hla hwa
  have hpb := fun W h => xplain vb lb lob hib W h hlb hwb
  have HPA := Lib.hid hpa
  have HPB := Lib.hid hpb
  obtain ⟨pa, ac, rfl⟩ := ha.shape
  obtain ⟨pb, bc, rfl⟩ := hb.shape
  obtain ⟨i0, q0, q1, q2, q3⟩ := infoRun
  have HA := Lib.hid ha
  have HB := Lib.hid hb
  have hend := fun out i k => com_end (a := la) (b := lb) (out := out) (i := i) (k := k)
  have hpx : Pl 0 (plainL la) := canon_pl _
  have hpy : Pl 0 (plainL lb) := canon_pl _
  have HEND := Lib.hid hend
  have HPX := Lib.hid hpx
  have HPY := Lib.hid hpy
  have hlx := hpx.len0
  have hly := hpy.len0
  clear hpa hpb ha hb hend hpx hpy hla hlb hwa hwb
  unfold GivesR at HPA HPB ⊢
  generalize plainL la = x at *
  generalize plainL lb = y at *
  generalize la.length = al at *
  generalize lb.length = bl at *
  go_enter Try.func40, Try.ntmps40
  go_wp2_with fail
  refine wp_scope_jumps2 0 (ComJ w x y pa al ac pb bl bc) (ComM x y) rfl ?_ ?_
  · rintro a' w' ⟨W, px, cx, py, cy, i, k, out, v7, ⟨u, rfl⟩, hX, hY, hKW, hI, hrow, hK⟩
    have hKK := hKW.trans hK
    have hWs := hKW.size
    have hol := hI.pl.len0
    rcases (by have := hI.hi; have := hI.hk; omega : i = x.length ∨ (i < x.length ∧ k = y.length) ∨ (i < x.length ∧ k < y.length)) with hx | ⟨hx, hy⟩ | ⟨hx, hy⟩
    · have hout := HEND.out out i k hI (Or.inl hx)
      subst hx
      have HOUT := Lib.hid hout
      have HR := Lib.hid hrow
      clear hout hrow hI
      go_wp2_with fail
      simp only [Exit.jump]
      go_ret
      exact ⟨_, rfl, by rw [← HOUT.out]; exact ownsRow_base HR.out hWs, hKK⟩
    · have hout := HEND.out out i k hI (Or.inr hy)
      subst hy
      have HOUT := Lib.hid hout
      have HR := Lib.hid hrow
      have i1 : ¬ ((i : Int) = x.length) := by omega
      have i2 : ((i : Int) == x.length) = false := by rw [beq_eq_false_iff_ne]; omega
      clear hout hrow hI
      go_wp2_with fail
      simp only [Exit.jump]
      go_ret
      exact ⟨_, rfl, by rw [← HOUT.out]; exact ownsRow_base HR.out hWs, hKK⟩
    · obtain ⟨bx, ox, rfl, wa0, wa1, hbx, _, _⟩ := hX.at_ i hx
      obtain ⟨by_, oy, rfl, wb0, wb1, hby, _, _⟩ := hY.at_ k hy
      have i1 : ((i : Int) == x.length) = false := by rw [beq_eq_false_iff_ne]; omega
      have i2 : ((k : Int) == y.length) = false := by rw [beq_eq_false_iff_ne]; omega
      have i3 : (i : Int) < x.length := by omega
      have i4 : (k : Int) < y.length := by omega
      obtain ⟨p1, p2, p3⟩ := pl_at HPX.out hx
      obtain ⟨p4, p5, p6⟩ := pl_at HPY.out hy
      have hst := fun lo hi elo ehi i' k' hik => com_step HPX.out HPY.out hI hx hy lo hi elo ehi i' k' hik
      have HST := Lib.hid hst
      have HXX := Lib.hid hX
      have HYY := Lib.hid hY
      have HLT : Hid (i < x.length ∧ k < y.length) := ⟨hx, hy⟩
      have r3 : out.length + 1 ≤ maxLen := by unfold maxLen; omega
      have r4 : (out.length + 1) * 16 ≤ 140737488355328 := by omega
      clear hst hX hY hI
      generalize x[i].1 = A0 at *
      generalize x[i].2 = An at *
      generalize y[k].1 = B0 at *
      generalize y[k].2 = Bn at *
      clear hx hy
      have WC : Hid (W.cell? ⟨bx, ox + i * 2, none⟩ = some (.int .i64 A0) ∧ W.cell? ⟨bx, ox + i * 2 + 1, none⟩ = some (.int .i64 An)) := ⟨wa0, wa1⟩
      have a0 := (hK.cell (a := ⟨bx, ox + i * 2, none⟩) (by exact hbx) (by simp)).trans wa0
      have a1 := (hK.cell (a := ⟨bx, ox + i * 2 + 1, none⟩) (by exact hbx) (by simp)).trans wa1
      have b0 := (hK.cell (a := ⟨by_, oy + k * 2, none⟩) (by exact hby) (by simp)).trans wb0
      have b1 := (hK.cell (a := ⟨by_, oy + k * 2 + 1, none⟩) (by exact hby) (by simp)).trans wb1
      clear wa0 wa1 wb0 wb1
      obtain ⟨lo, hlo⟩ : ∃ lo, lo = max A0 B0 := ⟨_, rfl⟩
      obtain ⟨hi, hhi⟩ : ∃ hi, hi = min (A0 + An) (B0 + Bn) := ⟨_, rfl⟩
      have hs1 := HST.out lo hi hlo hhi
      have HS1 := Lib.hid hs1
      clear HST hs1
      obtain ⟨p7, c7, rfl⟩ := own_shape hrow
      rcases (by omega : (A0 ≤ B0 ∧ lo = B0) ∨ (B0 < A0 ∧ lo = A0)) with ⟨h1, e1⟩ | ⟨h1, e1⟩
      all_goals rcases (by omega : (A0 + An ≤ B0 + Bn ∧ hi = A0 + An) ∨ (B0 + Bn < A0 + An ∧ hi = B0 + Bn)) with ⟨h2, e2⟩ | ⟨h2, e2⟩
      all_goals clear hlo hhi
      all_goals subst lo
      all_goals subst hi
      · have hin := HS1.out (i + 1) k (Or.inl ⟨rfl, rfl, rfl⟩)
        have hm1 : max A0 B0 = B0 := by omega
        have hm2 : min (A0 + An) (B0 + Bn) = A0 + An := by omega
        by_cases hlt : B0 < A0 + An
        · rw [if_pos hlt] at hin
          have HIN := Lib.hid hin
          clear hin HS1
          go_wp2_with fail
          go_quiet (fail)
          go_wp2_with (at_builtin; go_must (refine wpList_append_own_at _ rfl (.tmp 64) (.tmp 70) 22 rfl W.heap.size 66 i0 (.agg #[.int .i64 0, .int .i64 0]) 2 16 Try.underlying22 q0 q1 q2 q3 rfl (by decide) _ _ _ rfl (World.ownsRow.alloc (ownsRow_drewN hrow _) _) ⟨w'.heap.size, 0, none⟩ 1 1 [.int .i64 (B0), .int .i64 (A0 + An - B0)] rfl rfl ?_ ?_ r3 r4 ?_ ?_))
          · exact World.news_of_block (heap_alloc_new (w'.drewN nq) (.cells #[.int .i64 (B0), .int .i64 (A0 + An - B0)] 66))
          · intro u hu; simp at hu; rcases hu with rfl | rfl <;> rfl
          · have := hK.size; simp; omega
          intro v6 w6 o6 gr6 _ _
          have k6 : Kept [] W w6 := ((hK.drewN _).alloc _).grown gr6 (fun g hg => Or.inr (World.ownsRow.lt hrow g hg).1)
          have o7 : w6.ownsRow W.heap.size 66 2 v6 (out ++ [(B0, A0 + An - B0)]).length (rcells (out ++ [(B0, A0 + An - B0)])) := by
            rw [rcells_snoc, List.length_append, List.length_singleton]; exact o6
          have HO7 := Lib.hid o7
          have a0 := (k6.cell (a := ⟨bx, ox + i * 2, none⟩) (by exact hbx) (by simp)).trans WC.out.1
          have a1 := (k6.cell (a := ⟨bx, ox + i * 2 + 1, none⟩) (by exact hbx) (by simp)).trans WC.out.2
          obtain ⟨p8, c8, rfl⟩ := own_shape o7
          clear gr6 hrow o6 o7
          go_wp2_with fail
          go_quiet (fail)
          go_wp2_with fail
          go_step3
          refine ⟨rfl, ⟨W, _, cx, _, cy, i + 1, k, _, _, (jframe ..), HXX.out, HYY.out, hKW, HIN.out, ownsRow_drewN HO7.out _, k6.drewN _⟩, ?_⟩
          have hh := HLT.out
          simp [ComM, intOf]; (try omega)
        · rw [if_neg hlt] at hin
          have HIN := Lib.hid hin
          have HRO := Lib.hid hrow
          clear hin HS1 hrow
          go_wp2_with fail
          go_quiet (fail)
          go_wp2_with fail
          go_quiet (fail)
          go_wp2_with fail
          go_step3
          refine ⟨rfl, ⟨W, _, cx, _, cy, i + 1, k, _, _, (jframe ..), HXX.out, HYY.out, hKW, HIN.out, ownsRow_drewN HRO.out _, hK.drewN _⟩, ?_⟩
          have hh := HLT.out
          simp [ComM, intOf]; (try omega)
      · have hin := HS1.out i (k + 1) (Or.inr ⟨by omega, rfl, rfl⟩)
        have hm1 : max A0 B0 = B0 := by omega
        have hm2 : min (A0 + An) (B0 + Bn) = B0 + Bn := by omega
        have i5 : (A0 + An == B0 + Bn) = false := by rw [beq_eq_false_iff_ne]; omega
        by_cases hlt : B0 < B0 + Bn
        · rw [if_pos hlt] at hin
          have HIN := Lib.hid hin
          clear hin HS1
          go_wp2_with fail
          go_quiet (fail)
          go_wp2_with (at_builtin; go_must (refine wpList_append_own_at _ rfl (.tmp 64) (.tmp 70) 22 rfl W.heap.size 66 i0 (.agg #[.int .i64 0, .int .i64 0]) 2 16 Try.underlying22 q0 q1 q2 q3 rfl (by decide) _ _ _ rfl (World.ownsRow.alloc (ownsRow_drewN hrow _) _) ⟨w'.heap.size, 0, none⟩ 1 1 [.int .i64 (B0), .int .i64 (B0 + Bn - B0)] rfl rfl ?_ ?_ r3 r4 ?_ ?_))
          · exact World.news_of_block (heap_alloc_new (w'.drewN nq) (.cells #[.int .i64 (B0), .int .i64 (B0 + Bn - B0)] 66))
          · intro u hu; simp at hu; rcases hu with rfl | rfl <;> rfl
          · have := hK.size; simp; omega
          intro v6 w6 o6 gr6 _ _
          have k6 : Kept [] W w6 := ((hK.drewN _).alloc _).grown gr6 (fun g hg => Or.inr (World.ownsRow.lt hrow g hg).1)
          have o7 : w6.ownsRow W.heap.size 66 2 v6 (out ++ [(B0, B0 + Bn - B0)]).length (rcells (out ++ [(B0, B0 + Bn - B0)])) := by
            rw [rcells_snoc, List.length_append, List.length_singleton]; exact o6
          have HO7 := Lib.hid o7
          have a0 := (k6.cell (a := ⟨bx, ox + i * 2, none⟩) (by exact hbx) (by simp)).trans WC.out.1
          have a1 := (k6.cell (a := ⟨bx, ox + i * 2 + 1, none⟩) (by exact hbx) (by simp)).trans WC.out.2
          obtain ⟨p8, c8, rfl⟩ := own_shape o7
          clear gr6 hrow o6 o7
          go_wp2_with fail
          go_quiet (fail)
          go_wp2_with fail
          go_step3
          refine ⟨rfl, ⟨W, _, cx, _, cy, i, k + 1, _, _, (jframe ..), HXX.out, HYY.out, hKW, HIN.out, ownsRow_drewN HO7.out _, k6.drewN _⟩, ?_⟩
          have hh := HLT.out
          simp [ComM, intOf]; (try omega)
        · exfalso; omega
      · have hin := HS1.out (i + 1) k (Or.inl ⟨rfl, rfl, rfl⟩)
        have hm1 : max A0 B0 = A0 := by omega
        have hm2 : min (A0 + An) (B0 + Bn) = A0 + An := by omega
        by_cases hlt : A0 < A0 + An
        · rw [if_pos hlt] at hin
          have HIN := Lib.hid hin
          clear hin HS1
          go_wp2_with fail
          go_quiet (fail)
          go_wp2_with (at_builtin; go_must (refine wpList_append_own_at _ rfl (.tmp 64) (.tmp 70) 22 rfl W.heap.size 66 i0 (.agg #[.int .i64 0, .int .i64 0]) 2 16 Try.underlying22 q0 q1 q2 q3 rfl (by decide) _ _ _ rfl (World.ownsRow.alloc (ownsRow_drewN hrow _) _) ⟨w'.heap.size, 0, none⟩ 1 1 [.int .i64 (A0), .int .i64 (A0 + An - A0)] rfl rfl ?_ ?_ r3 r4 ?_ ?_))
          · exact World.news_of_block (heap_alloc_new (w'.drewN nq) (.cells #[.int .i64 (A0), .int .i64 (A0 + An - A0)] 66))
          · intro u hu; simp at hu; rcases hu with rfl | rfl <;> rfl
          · have := hK.size; simp; omega
          intro v6 w6 o6 gr6 _ _
          have k6 : Kept [] W w6 := ((hK.drewN _).alloc _).grown gr6 (fun g hg => Or.inr (World.ownsRow.lt hrow g hg).1)
          have o7 : w6.ownsRow W.heap.size 66 2 v6 (out ++ [(A0, A0 + An - A0)]).length (rcells (out ++ [(A0, A0 + An - A0)])) := by
            rw [rcells_snoc, List.length_append, List.length_singleton]; exact o6
          have HO7 := Lib.hid o7
          have a0 := (k6.cell (a := ⟨bx, ox + i * 2, none⟩) (by exact hbx) (by simp)).trans WC.out.1
          have a1 := (k6.cell (a := ⟨bx, ox + i * 2 + 1, none⟩) (by exact hbx) (by simp)).trans WC.out.2
          obtain ⟨p8, c8, rfl⟩ := own_shape o7
          clear gr6 hrow o6 o7
          go_wp2_with fail
          go_quiet (fail)
          go_wp2_with fail
          go_step3
          refine ⟨rfl, ⟨W, _, cx, _, cy, i + 1, k, _, _, (jframe ..), HXX.out, HYY.out, hKW, HIN.out, ownsRow_drewN HO7.out _, k6.drewN _⟩, ?_⟩
          have hh := HLT.out
          simp [ComM, intOf]; (try omega)
        · exfalso; omega
      · have hin := HS1.out i (k + 1) (Or.inr ⟨by omega, rfl, rfl⟩)
        have hm1 : max A0 B0 = A0 := by omega
        have hm2 : min (A0 + An) (B0 + Bn) = B0 + Bn := by omega
        have i5 : (A0 + An == B0 + Bn) = false := by rw [beq_eq_false_iff_ne]; omega
        by_cases hlt : A0 < B0 + Bn
        · rw [if_pos hlt] at hin
          have HIN := Lib.hid hin
          clear hin HS1
          go_wp2_with fail
          go_quiet (fail)
          go_wp2_with (at_builtin; go_must (refine wpList_append_own_at _ rfl (.tmp 64) (.tmp 70) 22 rfl W.heap.size 66 i0 (.agg #[.int .i64 0, .int .i64 0]) 2 16 Try.underlying22 q0 q1 q2 q3 rfl (by decide) _ _ _ rfl (World.ownsRow.alloc (ownsRow_drewN hrow _) _) ⟨w'.heap.size, 0, none⟩ 1 1 [.int .i64 (A0), .int .i64 (B0 + Bn - A0)] rfl rfl ?_ ?_ r3 r4 ?_ ?_))
          · exact World.news_of_block (heap_alloc_new (w'.drewN nq) (.cells #[.int .i64 (A0), .int .i64 (B0 + Bn - A0)] 66))
          · intro u hu; simp at hu; rcases hu with rfl | rfl <;> rfl
          · have := hK.size; simp; omega
          intro v6 w6 o6 gr6 _ _
          have k6 : Kept [] W w6 := ((hK.drewN _).alloc _).grown gr6 (fun g hg => Or.inr (World.ownsRow.lt hrow g hg).1)
          have o7 : w6.ownsRow W.heap.size 66 2 v6 (out ++ [(A0, B0 + Bn - A0)]).length (rcells (out ++ [(A0, B0 + Bn - A0)])) := by
            rw [rcells_snoc, List.length_append, List.length_singleton]; exact o6
          have HO7 := Lib.hid o7
          have a0 := (k6.cell (a := ⟨bx, ox + i * 2, none⟩) (by exact hbx) (by simp)).trans WC.out.1
          have a1 := (k6.cell (a := ⟨bx, ox + i * 2 + 1, none⟩) (by exact hbx) (by simp)).trans WC.out.2
          obtain ⟨p8, c8, rfl⟩ := own_shape o7
          clear gr6 hrow o6 o7
          go_wp2_with fail
          go_quiet (fail)
          go_wp2_with fail
          go_step3
          refine ⟨rfl, ⟨W, _, cx, _, cy, i, k + 1, _, _, (jframe ..), HXX.out, HYY.out, hKW, HIN.out, ownsRow_drewN HO7.out _, k6.drewN _⟩, ?_⟩
          have hh := HLT.out
          simp [ComM, intOf]; (try omega)
        · rw [if_neg hlt] at hin
          have HIN := Lib.hid hin
          have HRO := Lib.hid hrow
          clear hin HS1 hrow
          go_wp2_with fail
          go_quiet (fail)
          go_wp2_with fail
          go_quiet (fail)
          go_wp2_with fail
          go_step3
          refine ⟨rfl, ⟨W, _, cx, _, cy, i, k + 1, _, _, (jframe ..), HXX.out, HYY.out, hKW, HIN.out, ownsRow_drewN HRO.out _, hK.drewN _⟩, ?_⟩
          have hh := HLT.out
          simp [ComM, intOf]; (try omega)
  · intro PASS0
    have PASS := Lib.hid PASS0
    clear PASS0
    go_wp2_with fail
    refine (HPA.out _ HA.out).mono ?_; rintro e w1 ⟨v1, rfl, r1, k1⟩
    obtain ⟨px, cx, rfl⟩ := own_shape r1
    have hX1 := RunsIn.of_own r1
    have HX1 := Lib.hid hX1
    clear r1 hX1
    go_wp2_with fail
    refine (HPB.out _ (HB.out.kept0 k1)).mono ?_; rintro e w2 ⟨v2, rfl, r2, k2⟩
    obtain ⟨py, cy, rfl⟩ := own_shape r2
    have hY2 := (RunsIn.of_own r2).weaken (lo' := w.heap.size) (hi' := w2.heap.size) k1.size (Nat.le_refl _) (Nat.le_refl _)
    have hX2 := (HX1.out.kept0 k2).weaken (lo' := w.heap.size) (hi' := w2.heap.size) (Nat.le_refl _) k2.size (Nat.le_refl _)
    have HX2 := Lib.hid hX2
    have HY2 := Lib.hid hY2
    have hKW := k1.trans k2
    clear r2 hY2 hX2 HX1
    go_wp2_with fail
    go_step3
    rename_i hcont
    refine hcont _ _ (PASS.out _ _ ⟨w2, px, cx, py, cy, 0, 0, [], .slice none 0 0, jframe .., HX2.out, HY2.out, hKW, com_start HPX.out HPY.out, World.ownsRow_nil _ _ _ _, Kept.refl _ _⟩)
end Go.Proofs.Ytdnbddhjdokbfaa
