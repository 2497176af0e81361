/- The walk of the statement on how strong phases are. -/
import Derived.Test.YtkghkkfcgegmeaaH24
import Derived.Test.YtkghkkfcgegmeaaH22
import Derived.Deep.RegionHeld3
namespace Go.Proofs.Ytkghkkfcgegmeaa
open Go.RowKit Fl
set_option linter.unusedVariables false
set_option linter.unusedSimpArgs false
attribute [local go_sem ↓] Go.wp_at_zero Go.wp_at_succ
theorem partF0 (a b c d : Value) (w : World) : (part 36 #[a, b, c, d] 0).run Try.prog w = .ok a w := by kernel_rfl
theorem partF1 (a b c d : Value) (w : World) : (part 36 #[a, b, c, d] 1).run Try.prog w = .ok b w := by kernel_rfl
theorem partF2 (a b c d : Value) (w : World) : (part 36 #[a, b, c, d] 2).run Try.prog w = .ok c w := by kernel_rfl
theorem partF3 (a b c d : Value) (w : World) : (part 36 #[a, b, c, d] 3).run Try.prog w = .ok d w := by kernel_rfl
theorem eqf (d : Nat) (a b : Nat) (w : World) : (Op.equalIn (d + 1) 36 (.float .f64 a) (.float .f64 b)).run Try.prog w = .ok (Op.floatEq .f64 a b) w := by
  simp [Op.equalIn, run_underlying Try.underlying36]
@[local go_sem] theorem eqF4 (a0 a1 a2 a3 c0 c1 c2 c3 : Nat) (w : World) :
    (Op.equalIn 10000 45 (.agg #[.float .f64 a0, .float .f64 a1, .float .f64 a2, .float .f64 a3]) (.agg #[.float .f64 c0, .float .f64 c1, .float .f64 c2, .float .f64 c3])).run Try.prog w =
      .ok (Op.floatEq .f64 a0 c0 && Op.floatEq .f64 a1 c1 && Op.floatEq .f64 a2 c2 && Op.floatEq .f64 a3 c3) w :=
  equalIn_arr4 9999 Try.underlying45 (fun _ => by kernel_rfl) partF0 partF1 partF2 partF3 (eqf 9998 _ _) (eqf 9998 _ _) (eqf 9998 _ _) (eqf 9998 _ _) w
@[local go_sem] theorem neqF4 (a0 a1 a2 a3 c0 c1 c2 c3 : Nat) (w : World) :
    (binOp .neq 45 (.agg #[.float .f64 a0, .float .f64 a1, .float .f64 a2, .float .f64 a3]) (.agg #[.float .f64 c0, .float .f64 c1, .float .f64 c2, .float .f64 c3])).run Try.prog w =
      .ok (.bool (!(Op.floatEq .f64 a0 c0 && Op.floatEq .f64 a1 c1 && Op.floatEq .f64 a2 c2 && Op.floatEq .f64 a3 c3))) w := by
  simp only [binOp]; simp [Op.equal, Op.maxDepth, eqF4]
theorem feq_self_inf {r : Nat} (h : r ≤ INF) : Op.floatEq .f64 r r = true := by
  have := ord_eq h (rfl : r = r); simp [Op.floatEq, this]
theorem bst_le (a b c : Nat) : bst a b c ≤ 3 := by unfold bst; repeat' (first | omega | split)
theorem bst_zero {a b c : Nat} : bst a b c = 0 ↔ a = 0 ∧ b = 0 ∧ c = 0 := by
  unfold bst
  by_cases h : a = 0 ∧ b = 0 ∧ c = 0
  · simp [h]
  · rw [if_neg h]
    constructor
    · intro h2; exfalso; revert h2; repeat' (first | omega | split)
    · intro h2; exact absurd h2 h

set_option maxRecDepth 100000 in
set_option maxHeartbeats 8000000 in
theorem powers_no (p : P4) (w : World) (hl : p.lt) (hno : p.ok = false) :
    Calls Try.prog 10 #[p.parts] w fun e w' => e = .returned (.bool true) ∧ Below w.heap.size w w' := by
  have hz : powP p = W4.zero := by simp [powP, hno]
  have h1 := fun w => lfour p w
  have h2 : ∀ w, Calls Try.prog 27 #[p.v] w fun e w' => e = .returned (.tuple #[zero8, .bool false]) ∧ Kept [] w w' := fun w => by have := lread p w hl; unfold ReadSays at this; rw [hno] at this; exact this
  have h3 : ∀ w, Calls Try.prog 47 #[p.v] w fun e w' => e = .returned W4.zero.v ∧ Kept [] w w' := fun w => by have := ppower p w hl; rw [hz] at this; exact this
  have h4 : ∀ w, Calls Try.prog 48 #[p.v] w fun e w' => e = .returned (.int .i64 0) ∧ Kept [] w w' := fun w => by have := pstrong p w hl; rw [hz] at this; exact this
  have h5 := fun w => lawake34 w
  have f0 : Op.floatEq .f64 0 0 = true := by decide +kernel
  have H1 := Lib.hid h1
  have H2 := Lib.hid h2
  have H3 := Lib.hid h3
  have H4 := Lib.hid h4
  have H5 := Lib.hid h5
  clear h1 h2 h3 h4 h5 hno hl hz
  obtain ⟨a0, b0, a1, b1, a2, b2, a3, b3⟩ := p
  simp only [P4.parts, P4.v, zero8, W4.zero, W4.v] at *
  go_enter Try.func10, Try.ntmps10
  go_wp2_with fail
  refine (H1.out _).mono ?_; rintro e w1 ⟨rfl, k⟩
  have kk := ((Kept.refl [] w).alloc _).trans k
  clear k
  go_wp2_with fail
  refine (H2.out _).mono ?_; rintro e w2 ⟨rfl, k⟩
  have op := k.own (Own.new w1 _ _) (by simp)
  obtain ⟨p0, p1, p2, p3⟩ := op.c4
  have lp := op.lt
  have kk := (kk.alloc _).trans k
  clear k
  go_wp2_with fail
  refine (H3.out _).mono ?_; rintro e w3 ⟨rfl, k⟩
  clear p0 p1 p2 p3
  have op := k.own (op.alloc _) (by simp)
  obtain ⟨p0, p1, p2, p3⟩ := op.c4
  have lp := op.lt
  have kk := (kk.alloc _).trans k
  clear k
  go_wp2_with fail
  refine (H4.out _).mono ?_; rintro e w4 ⟨rfl, k⟩
  clear p0 p1 p2 p3 op lp
  have ow := k.own (Own.new w3 _ _) (by simp)
  obtain ⟨p0, p1, p2, p3⟩ := ow.c4
  have lw := ow.lt
  have kk := (kk.alloc _).trans k
  clear k H1 H2 H3 H4
  go_wp2_with fail
  refine (H5.out _).mono ?_; rintro e w5 ⟨rfl, k⟩
  have kk := kk.trans k
  go_wp2_with fail
  go_ret
  exact ⟨rfl, kk.below⟩

set_option maxRecDepth 100000 in
set_option maxHeartbeats 8000000 in
theorem powers_yes (p : P4) (w : World) (hl : p.lt) (hyes : p.ok = true) :
    Calls Try.prog 10 #[p.parts] w fun e w' => e = .returned (.bool true) ∧ Below w.heap.size w w' := by
  have hbd := (P4.isZ hl (P4.z_ok hyes).1).2
  have hz : powP p = p.z.pow := by simp [powP, hyes]
  have h1 := fun w => lfour p w
  have h2 : ∀ w, Calls Try.prog 27 #[p.v] w fun e w' => e = .returned (.tuple #[.agg p.z.cells, .bool true]) ∧ Kept [] w w' := fun w => by have := lread p w hl; unfold ReadSays at this; rw [hyes] at this; exact this
  have h3 : ∀ w, Calls Try.prog 47 #[p.v] w fun e w' => e = .returned p.z.pow.v ∧ Kept [] w w' := fun w => by have := ppower p w hl; rw [hz] at this; exact this
  have h4 : ∀ w, Calls Try.prog 48 #[p.v] w fun e w' => e = .returned (.int .i64 (bst p.z.pow.w1 p.z.pow.w2 p.z.pow.w3)) ∧ Kept [] w w' := fun w => by have := pstrong p w hl; rw [hz] at this; exact this
  have h5 := fun w => lawake34 w
  have h6 := fun w => rpower p.z w hbd
  have h7 : ∀ w, Calls Try.prog 50 #[.agg p.z.cells] w fun e w' => e = .returned (.int .i64 (bst p.z.pow.w1 p.z.pow.w2 p.z.pow.w3)) ∧ Kept [] w w' := fun w => rstrong p.z w hbd
  obtain ⟨d0, d1, d2, d3⟩ := Z4.pow_bd hbd
  have g0 := feq_self_inf d0
  have g1 := feq_self_inf d1
  have g2 := feq_self_inf d2
  have g3 := feq_self_inf d3
  have hle := bst_le p.z.pow.w1 p.z.pow.w2 p.z.pow.w3
  have hzero := bst_zero (a := p.z.pow.w1) (b := p.z.pow.w2) (c := p.z.pow.w3)
  generalize p.z.pow = W at *
  generalize p.z = z at *
  obtain ⟨s0, s1, s2, s3⟩ := W
  simp only at d0 d1 d2 d3 g0 g1 g2 g3 hle hzero h4 h7
  generalize bst s1 s2 s3 = K at *
  have H1 := Lib.hid h1
  have H2 := Lib.hid h2
  have H3 := Lib.hid h3
  have H4 := Lib.hid h4
  have H5 := Lib.hid h5
  have H6 := Lib.hid h6
  have H7 := Lib.hid h7
  have HZ := Lib.hid hzero
  have D1 := Lib.hid d1
  have D2 := Lib.hid d2
  have D3 := Lib.hid d3
  clear h1 h2 h3 h4 h5 h6 h7 hyes hl hz hbd hzero d0 d1 d2 d3
  obtain ⟨a0, b0, a1, b1, a2, b2, a3, b3⟩ := p
  obtain ⟨x0, x1, x2, x3, x4, x5, x6, x7⟩ := z
  simp only [P4.parts, P4.v, Z4.cells, W4.v] at *
  go_enter Try.func10, Try.ntmps10
  go_wp2_with fail
  refine (H1.out _).mono ?_; rintro e w1 ⟨rfl, k⟩
  have kk := ((Kept.refl [] w).alloc _).trans k
  clear k
  go_wp2_with fail
  refine (H2.out _).mono ?_; rintro e w2 ⟨rfl, k⟩
  have op := k.own (Own.new w1 _ _) (by simp)
  obtain ⟨p0, p1, p2, p3⟩ := op.c4
  have lp := op.lt
  have kk := (kk.alloc _).trans k
  clear k
  go_wp2_with fail
  refine (H3.out _).mono ?_; rintro e w3 ⟨rfl, k⟩
  clear p0 p1 p2 p3
  have ox := k.own (Own.new w2 _ _) (by simp)
  have op := k.own (op.alloc _) (by simp)
  obtain ⟨p0, p1, p2, p3⟩ := op.c4
  have lp := op.lt
  have kk := (kk.alloc _).trans k
  clear k
  go_wp2_with fail
  refine (H4.out _).mono ?_; rintro e w4 ⟨rfl, k⟩
  clear p0 p1 p2 p3 op lp
  have ow := k.own (Own.new w3 _ _) (by simp)
  have ox := k.own (ox.alloc _) (by simp)
  have kk := (kk.alloc _).trans k
  clear k H1 H2 H3 H4
  have lw := ow.lt
  have lx := ox.lt
  have hK : (K : Int) ≤ 3 := by omega
  have hK0 : (0 : Int) ≤ (K : Int) := Int.natCast_nonneg K
  go_wp2_with fail
  go_region_held3 (fun w' => w'.cell? ⟨w3.heap.size, 0, none⟩ = some (.float .f64 s0) ∧ w'.cell? ⟨w3.heap.size, 1, none⟩ = some (.float .f64 s1) ∧ w'.cell? ⟨w3.heap.size, 2, none⟩ = some (.float .f64 s2) ∧ w'.cell? ⟨w3.heap.size, 3, none⟩ = some (.float .f64 s3) ∧ w'.cell? ⟨w2.heap.size, 0, none⟩ = some (.int .i64 x0) ∧ w'.cell? ⟨w2.heap.size, 1, none⟩ = some (.int .i64 x1) ∧ w'.cell? ⟨w2.heap.size, 2, none⟩ = some (.int .i64 x2) ∧ w'.cell? ⟨w2.heap.size, 3, none⟩ = some (.int .i64 x3) ∧ w'.cell? ⟨w2.heap.size, 4, none⟩ = some (.int .i64 x4) ∧ w'.cell? ⟨w2.heap.size, 5, none⟩ = some (.int .i64 x5) ∧ w'.cell? ⟨w2.heap.size, 6, none⟩ = some (.int .i64 x6) ∧ w'.cell? ⟨w2.heap.size, 7, none⟩ = some (.int .i64 x7)) ((refine own_S48 (t := 45) (u := 55) ?_ ?_ <;> (repeat' first | exact owB | exact oxB | exact owA | exact oxA | exact ow | exact ox | refine Own.drew ?_ | refine Own.alloc ?_ _))) (first | (go_at_call 49; refine (H6.out _).mono ?_; rintro e w6 ⟨rfl, k6⟩; have owA := k6.own (b := w3.heap.size) (cs := #[.float .f64 s0, .float .f64 s1, .float .f64 s2, .float .f64 s3]) (t := 45) (by repeat' first | exact owB | exact owA | exact ow | refine Own.drew ?_ | refine Own.alloc ?_ _) (by simp); have oxA := k6.own (b := w2.heap.size) (cs := #[.int .i64 x0, .int .i64 x1, .int .i64 x2, .int .i64 x3, .int .i64 x4, .int .i64 x5, .int .i64 x6, .int .i64 x7]) (t := 55) (by repeat' first | exact oxB | exact oxA | exact ox | refine Own.drew ?_ | refine Own.alloc ?_ _) (by simp); have kkA : Kept [] w w6 := Kept.trans (by repeat' first | exact kkB | exact kkA | exact kk | refine Kept.drew ?_ | refine Kept.alloc ?_ _) k6) | (go_at_call 50; refine (H7.out _).mono ?_; rintro e w7 ⟨rfl, k7⟩; have owB := k7.own (b := w3.heap.size) (cs := #[.float .f64 s0, .float .f64 s1, .float .f64 s2, .float .f64 s3]) (t := 45) (by repeat' first | exact owB | exact owA | exact ow | refine Own.drew ?_ | refine Own.alloc ?_ _) (by simp); have oxB := k7.own (b := w2.heap.size) (cs := #[.int .i64 x0, .int .i64 x1, .int .i64 x2, .int .i64 x3, .int .i64 x4, .int .i64 x5, .int .i64 x6, .int .i64 x7]) (t := 55) (by repeat' first | exact oxB | exact oxA | exact ox | refine Own.drew ?_ | refine Own.alloc ?_ _) (by simp); have kkB : Kept [] w w7 := Kept.trans (by repeat' first | exact kkB | exact kkA | exact kk | refine Kept.drew ?_ | refine Kept.alloc ?_ _) k7))
  clear H6 H7 k6 k7 owA oxA kkA ow ox kk lw lx g0 g1 g2 g3
  obtain ⟨q0, q1, q2, q3⟩ := owB.c4
  have lwB := owB.lt
  have hcase : (FloatKind.f64.format.order s1 0 = some .gt ∧ ((K : Int) == 0) = false) ∨ (FloatKind.f64.format.order s1 0 = some .eq ∧ FloatKind.f64.format.order s2 0 = some .gt ∧ ((K : Int) == 0) = false) ∨ (FloatKind.f64.format.order s1 0 = some .eq ∧ FloatKind.f64.format.order s2 0 = some .eq ∧ FloatKind.f64.format.order s3 0 = some .gt ∧ ((K : Int) == 0) = false) ∨ (FloatKind.f64.format.order s1 0 = some .eq ∧ FloatKind.f64.format.order s2 0 = some .eq ∧ FloatKind.f64.format.order s3 0 = some .eq ∧ ((K : Int) == 0) = true) := by
    have hz := HZ.out
    have hk : ¬ (s1 = 0 ∧ s2 = 0 ∧ s3 = 0) → ((K : Int) == 0) = false := fun h => by
      rw [beq_eq_false_iff_ne]; intro h2; exact h (hz.1 (by omega))
    rcases Nat.eq_zero_or_pos s1 with c1 | c1
    · rcases Nat.eq_zero_or_pos s2 with c2 | c2
      · rcases Nat.eq_zero_or_pos s3 with c3 | c3
        · exact Or.inr (Or.inr (Or.inr ⟨ord_eq D1.out c1, ord_eq D2.out c2, ord_eq D3.out c3, by rw [beq_iff_eq]; have := hz.2 ⟨c1, c2, c3⟩; omega⟩))
        · exact Or.inr (Or.inr (Or.inl ⟨ord_eq D1.out c1, ord_eq D2.out c2, ord_gt D3.out inf0 c3, hk (by omega)⟩))
      · exact Or.inr (Or.inl ⟨ord_eq D1.out c1, ord_gt D2.out inf0 c2, hk (by omega)⟩)
    · exact Or.inl ⟨ord_gt D1.out inf0 c1, hk (by omega)⟩
  clear HZ D1 D2 D3
  rcases hcase with ⟨o1, oK⟩ | ⟨o1, o2, oK⟩ | ⟨o1, o2, o3, oK⟩ | ⟨o1, o2, o3, oK⟩
  all_goals
    go_wp2_with fail
    refine (H5.out _).mono ?_; rintro e w8 ⟨rfl, k⟩
    have kk := kkB.trans k
    go_wp2_with fail
    go_ret
    exact ⟨rfl, kk.below⟩
theorem powers_walk (p : P4) (w : World) (hl : p.lt) :
    Calls Try.prog 10 #[p.parts] w fun e w' => e = .returned (.bool true) ∧ Below w.heap.size w w' := by
  cases h : p.ok
  · exact powers_no p w hl h
  · exact powers_yes p w hl h
end Go.Proofs.Ytkghkkfcgegmeaa
