/- The walk of the statement on which numbers are phases. -/
import Derived.Test.YtkghkkfcgegmeaaH14
namespace Go.Proofs.Ytkghkkfcgegmeaa
open Go.RowKit Fl
set_option linter.unusedVariables false
set_option linter.unusedSimpArgs false
attribute [local go_sem] eqC4 eqI4
@[local go_sem] theorem neqI4 (a0 a1 a2 a3 c0 c1 c2 c3 : Int) (w : World) :
    (binOp .neq 50 (.agg #[.int .i64 a0, .int .i64 a1, .int .i64 a2, .int .i64 a3]) (.agg #[.int .i64 c0, .int .i64 c1, .int .i64 c2, .int .i64 c3])).run Try.prog w =
      .ok (.bool (!((a0 == c0) && (a1 == c1) && (a2 == c2) && (a3 == c3)))) w := by
  simp only [binOp]; simp [Op.equal, Op.maxDepth, eqI4]

set_option maxRecDepth 100000 in
set_option maxHeartbeats 8000000 in
theorem back_no (p : P4) (w : World) (hl : p.lt) (hno : p.ok = false) :
    Calls Try.prog 6 #[p.parts] w fun e w' => e = .returned (.bool true) ∧ Below w.heap.size w w' := by
  have h1 := fun w => lfour p w
  have h2 : ∀ w, Calls Try.prog 26 #[p.v] w fun e w' => e = .returned (.tuple #[zero4, .int .i64 7]) ∧ Kept [] w w' := fun w => by have := pback p w hl; rw [hno] at this; exact this
  have h3 : ∀ w, Calls Try.prog 27 #[p.v] w fun e w' => e = .returned (.tuple #[zero8, .bool false]) ∧ Kept [] w w' := fun w => by have := lread p w hl; unfold ReadSays at this; rw [hno] at this; exact this
  have h4 : ∀ w, Calls Try.prog 28 #[p.v] w fun e w' => e = .returned (.bool false) ∧ Kept [] w w' := fun w => by have := pis p w hl; rw [hno] at this; exact this
  have h5 := fun w => lawake34 w
  have H1 := Lib.hid h1
  have H2 := Lib.hid h2
  have H3 := Lib.hid h3
  have H4 := Lib.hid h4
  have H5 := Lib.hid h5
  clear h1 h2 h3 h4 h5 hno hl
  obtain ⟨a0, b0, a1, b1, a2, b2, a3, b3⟩ := p
  simp only [P4.parts, P4.v, zero4, zero8] at *
  go_enter Try.func6, Try.ntmps6
  go_wp2_with fail
  refine (H1.out _).mono ?_; rintro e w1 ⟨rfl, k⟩
  have kk := ((Kept.refl [] w).alloc _).trans k
  clear k
  go_wp2_with fail
  refine (H2.out _).mono ?_; rintro e w2 ⟨rfl, k⟩
  have op := k.own (Own.new w1 _ _) (by simp)
  obtain ⟨p0, p1, p2, p3⟩ := op.c4
  have lp := op.lt
  have kk := (kk.alloc _).trans k
  clear k
  go_wp2_with fail
  refine (H3.out _).mono ?_; rintro e w3 ⟨rfl, k⟩
  clear p0 p1 p2 p3
  have oq := k.own (Own.new w2 _ _) (by simp)
  have op := k.own (op.alloc _) (by simp)
  obtain ⟨p0, p1, p2, p3⟩ := op.c4
  obtain ⟨q0, q1, q2, q3⟩ := oq.c4
  have lp := op.lt
  have lq := oq.lt
  have kk := (kk.alloc _).trans k
  clear k
  go_wp2_with fail
  refine (H4.out _).mono ?_; rintro e w4 ⟨rfl, k⟩
  clear p0 p1 p2 p3 q0 q1 q2 q3
  have oq := k.own (oq.alloc _) (by simp)
  have kk := (kk.alloc _).trans k
  clear k op lp
  go_wp2_with fail
  refine (H5.out _).mono ?_; rintro e w5 ⟨rfl, k⟩
  have oq := k.own oq (by simp)
  obtain ⟨q0, q1, q2, q3⟩ := oq.c4
  have lq := oq.lt
  have kk := kk.trans k
  clear k H1 H2 H3 H4 H5
  go_wp2_with fail
  go_ret
  exact ⟨rfl, kk.below⟩

set_option maxRecDepth 100000 in
set_option maxHeartbeats 1000000 in
theorem back_yes (p : P4) (w : World) (hl : p.lt) (hyes : p.ok = true) :
    Calls Try.prog 6 #[p.parts] w fun e w' => e = .returned (.bool true) ∧ Below w.heap.size w w' := by
  have hz : okW p = true ∧ p.z.ok = true := by simpa [P4.ok] using hyes
  obtain ⟨hisz, hbd⟩ := P4.isZ hl hz.1
  have heq := eq_ok hisz hbd
  rw [hz.2] at heq
  have h1 := fun w => lfour p w
  have h2 : ∀ w, Calls Try.prog 26 #[p.v] w fun e w' => e = .returned (.tuple #[p.z.qv, .int .i64 0]) ∧ Kept [] w w' := fun w => by have := pback p w hl; rw [hyes] at this; exact this
  have h3 : ∀ w, Calls Try.prog 27 #[p.v] w fun e w' => e = .returned (.tuple #[.agg p.z.cells, .bool true]) ∧ Kept [] w w' := fun w => by have := lread p w hl; unfold ReadSays at this; rw [hyes] at this; exact this
  have h4 : ∀ w, Calls Try.prog 28 #[p.v] w fun e w' => e = .returned (.bool true) ∧ Kept [] w w' := fun w => by have := pis p w hl; rw [hyes] at this; exact this
  have h5 := fun w => lawake34 w
  have h6 : ∀ w, Calls Try.prog 30 #[.agg p.z.cells] w fun e w' => e = .returned (.tuple #[p.z.qv, .bool true]) ∧ Kept [] w w' := fun w => by have := rrow p.z w hbd; rw [hz.2] at this; exact this
  have h7 : ∀ v w, IntsAt .i64 w v [p.z.q0, p.z.q1, p.z.q2, p.z.q3] → Calls Try.prog 31 #[v] w fun e w' => e = .returned (.bool (mayL [p.z.q0, p.z.q1, p.z.q2, p.z.q3])) ∧ w = w' := fun v w h => rmay _ v w h
  have h8 : mayL [p.z.q0, p.z.q1, p.z.q2, p.z.q3] = true → ∀ v w, IntsAt .i64 w v [p.z.q0, p.z.q1, p.z.q2, p.z.q3] → Calls Try.prog 32 #[v] w fun e w' => e = .returned (.tuple #[.agg (phB p.z.q0 p.z.q1 p.z.q2 p.z.q3), .int .i64 0]) ∧ Kept [] w w' := fun hm v w h => by
    have := pof _ v w h; unfold OfSays at this; rw [hm] at this
    rw [show (qsum [p.z.q0, p.z.q1, p.z.q2, p.z.q3] [p.z.q0, p.z.q1, p.z.q2, p.z.q3].length).ph = .agg (phB p.z.q0 p.z.q1 p.z.q2 p.z.q3) from by simp [qsum, Q4.bump, Q4.ph]] at this
    exact this
  have hbq := p.z.qbd hbd
  have hwf : ∀ n ∈ [p.z.q0, p.z.q1, p.z.q2, p.z.q3], (Lit.int .i64 n).wf = true := by
    obtain ⟨i0, i1, i2, i3⟩ := hbq
    intro n hn
    simp only [List.mem_cons, List.not_mem_nil, or_false] at hn
    rcases hn with rfl | rfl | rfl | rfl <;> exact WalkArith.wf_i64 (by omega)
  have H1 := Lib.hid h1
  have H2 := Lib.hid h2
  have H3 := Lib.hid h3
  have H4 := Lib.hid h4
  have H5 := Lib.hid h5
  have H6 := Lib.hid h6
  have H7 := Lib.hid h7
  have H8 := Lib.hid h8
  have HE := Lib.hid heq
  have HW := Lib.hid hwf
  clear h1 h2 h3 h4 h5 h6 h7 h8 hyes hl hz hisz hbd heq hbq hwf
  obtain ⟨a0, b0, a1, b1, a2, b2, a3, b3⟩ := p
  generalize P4.z { a0 := a0, b0 := b0, a1 := a1, b1 := b1, a2 := a2, b2 := b2, a3 := a3, b3 := b3 } = z at *
  simp only [P4.parts, P4.v, Z4.qv, Z4.cells, eqB] at *
  generalize z.q0 = r0 at *
  generalize z.q1 = r1 at *
  generalize z.q2 = r2 at *
  generalize z.q3 = r3 at *
  go_enter Try.func6, Try.ntmps6
  go_wp2_with fail
  refine (H1.out _).mono ?_; rintro e w1 ⟨rfl, k⟩
  have kk := ((Kept.refl [] w).alloc _).trans k
  clear k
  go_wp2_with fail
  refine (H2.out _).mono ?_; rintro e w2 ⟨rfl, k⟩
  have op := k.own (Own.new w1 _ _) (by simp)
  obtain ⟨p0, p1, p2, p3⟩ := op.c4
  have lp := op.lt
  have kk := (kk.alloc _).trans k
  clear k
  go_wp2_with fail
  refine (H3.out _).mono ?_; rintro e w3 ⟨rfl, k⟩
  clear p0 p1 p2 p3
  have oq := k.own (Own.new w2 _ _) (by simp)
  have op := k.own (op.alloc _) (by simp)
  obtain ⟨p0, p1, p2, p3⟩ := op.c4
  obtain ⟨q0, q1, q2, q3⟩ := oq.c4
  have lp := op.lt
  have lq := oq.lt
  have kk := (kk.alloc _).trans k
  clear k
  go_wp2_with fail
  refine (H4.out _).mono ?_; rintro e w4 ⟨rfl, k⟩
  clear p0 p1 p2 p3 q0 q1 q2 q3
  have oz := k.own (Own.new w3 _ _) (by simp)
  have oq := k.own (oq.alloc _) (by simp)
  have op := k.own (op.alloc _) (by simp)
  have kk := (kk.alloc _).trans k
  clear k
  go_wp2_with fail
  refine (H5.out _).mono ?_; rintro e w5 ⟨rfl, k⟩
  have oz := k.own oz (by simp)
  have oq := k.own oq (by simp)
  have op := k.own op (by simp)
  obtain ⟨z0, z1, z2, z3, z4, z5, z6, z7⟩ := oz.c8
  have kk := kk.trans k
  clear k
  go_wp2_with fail
  refine (H6.out _).mono ?_; rintro e w6 ⟨rfl, k⟩
  clear z0 z1 z2 z3 z4 z5 z6 z7
  have oq := k.own oq (by simp)
  have op := k.own op (by simp)
  obtain ⟨q0, q1, q2, q3⟩ := oq.c4
  have lq := oq.lt
  have lp := op.lt
  have kk := kk.trans k
  clear k H1 H2 H3 H4 H5 H6 oz
  go_wp2_with fail
  have hin : IntsAt .i64 (w6.alloc (.cells #[.int .i64 r0, .int .i64 r1, .int .i64 r2, .int .i64 r3] 50)) (.slice (some ⟨w6.heap.size, 0, none⟩) 4 4) [r0, r1, r2, r3] := IntsAt.new w6 [r0, r1, r2, r3] 50 HW.out (by simp [maxLen]) (by simp)
  refine (H7.out _ _ hin).mono ?_; rintro e w7 ⟨rfl, rfl⟩
  have h8 := H8.out
  cases hm : mayL [r0, r1, r2, r3]
  · clear H7 H8 h8 hm hin
    go_wp2_with fail
    go_ret
    exact ⟨rfl, (kk.alloc _).below⟩
  · rw [hm] at h8
    have H8 := Lib.hid (h8 rfl)
    have hin2 : IntsAt .i64 ((w6.alloc (.cells #[.int .i64 r0, .int .i64 r1, .int .i64 r2, .int .i64 r3] 50)).alloc (.cells #[.int .i64 r0, .int .i64 r1, .int .i64 r2, .int .i64 r3] 3)) (.slice (some ⟨w6.heap.size + 1, 0, none⟩) 4 4) [r0, r1, r2, r3] := by
      have := IntsAt.new (k := .i64) (w6.alloc (.cells #[.int .i64 r0, .int .i64 r1, .int .i64 r2, .int .i64 r3] 50)) [r0, r1, r2, r3] 3 HW.out (by simp [maxLen]) (by simp)
      simpa using this
    have H9 := Lib.hid hin2
    clear H7 h8 hm hin hin2
    go_wp2_with fail
    refine (H8.out _ _ H9.out).mono ?_; rintro e w8 ⟨rfl, k⟩
    have op := k.own ((op.alloc _).alloc _) (by simp)
    obtain ⟨p0, p1, p2, p3⟩ := op.c4
    have lp := op.lt
    have kk := ((kk.alloc _).alloc _).trans k
    clear k H8 H9 q0 q1 q2 q3 lq
    unfold phB
    have he := HE.out
    simp only [Bool.and_eq_true] at he
    obtain ⟨⟨⟨⟨e0, e1⟩, e2, e3⟩, e4, e5⟩, e6, e7⟩ := he
    go_wp2_with fail
    go_ret
    exact ⟨rfl, (kk.alloc _).below⟩
theorem back_walk (p : P4) (w : World) (hl : p.lt) :
    Calls Try.prog 6 #[p.parts] w fun e w' => e = .returned (.bool true) ∧ Below w.heap.size w w' := by
  cases h : p.ok
  · exact back_no p w hl h
  · exact back_yes p w hl h
end Go.Proofs.Ytkghkkfcgegmeaa
