/- Walks of layer 34 (phase): which phase is the strongest, by the program and by the reference. -/
import Derived.Test.YtkghkkfcgegmeaaH23
import Derived.LoopN
namespace Go.Proofs.Ytkghkkfcgegmeaa
open Go.RowKit Fl
set_option linter.unusedVariables false
set_option linter.unusedSimpArgs false
attribute [local go_sem ↓] Go.wp_at_zero Go.wp_at_succ

/-- which of three is the greatest, the first of such; 0: all are 0. -/
def bst (a b c : Nat) : Nat := if a = 0 ∧ b = 0 ∧ c = 0 then 0 else if b ≤ a ∧ c ≤ a then 1 else if c ≤ b then 2 else 3
theorem ord_lt {r t : Nat} (hr : r ≤ INF) (ht : t ≤ INF) (h : r < t) : FloatKind.f64.format.order r t = some .lt := by
  have := order_pos hr ht; rw [if_pos h] at this; exact this
theorem ord_eq {r t : Nat} (hr : r ≤ INF) (h : r = t) : FloatKind.f64.format.order r t = some .eq := by
  subst h; have := order_pos hr hr; rw [if_neg (Nat.lt_irrefl _), if_pos rfl] at this; exact this
theorem ord_gt {r t : Nat} (hr : r ≤ INF) (ht : t ≤ INF) (h : t < r) : FloatKind.f64.format.order r t = some .gt := by
  have := order_pos hr ht; rw [if_neg (by omega), if_neg (by omega)] at this; exact this
theorem inf0 : 0 ≤ INF := Nat.zero_le _
def StrongSays (a b c : Nat) (w : World) (e : Ending) (w' : World) : Prop := e = .returned (.int .i64 (bst a b c)) ∧ Kept [] w w'
theorem strongSays {a b c : Nat} {w w' : World} {n : Nat} {z : Int} (h : bst a b c = n) (hz : z = (n : Int)) (k : Kept [] w w') : StrongSays a b c w (.returned (.int .i64 z)) w' := ⟨by rw [h, hz], k⟩

set_option maxRecDepth 100000 in
set_option maxHeartbeats 8000000 in
theorem pstrong_gen (a0 b0 a1 b1 a2 b2 a3 b3 w0 w1 w2 w3 : Nat) (H1 : Hid (∀ w, Calls Try.prog 47 #[.agg #[.complex .f64 a0 b0, .complex .f64 a1 b1, .complex .f64 a2 b2, .complex .f64 a3 b3]] w fun e w' => e = .returned (.agg #[.float .f64 w0, .float .f64 w1, .float .f64 w2, .float .f64 w3]) ∧ Kept [] w w')) (hb1 : w1 ≤ INF) (hb2 : w2 ≤ INF) (hb3 : w3 ≤ INF) (w : World) :
    Calls Try.prog 48 #[.agg #[.complex .f64 a0 b0, .complex .f64 a1 b1, .complex .f64 a2 b2, .complex .f64 a3 b3]] w (StrongSays w1 w2 w3 w) := by
  rcases Nat.eq_zero_or_pos w1 with c1 | c1
  · rcases Nat.eq_zero_or_pos w2 with c2 | c2
    · rcases Nat.eq_zero_or_pos w3 with c3 | c3
      · have o0 : FloatKind.f64.format.order w1 0 = some .eq := ord_eq hb1 c1
        have o1 : FloatKind.f64.format.order w2 0 = some .eq := ord_eq hb2 c2
        have o2 : FloatKind.f64.format.order w3 0 = some .eq := ord_eq hb3 c3
        have hbst : bst w1 w2 w3 = 0 := by unfold bst; repeat' (first | rfl | omega | split)
        have HB := Lib.hid hbst
        clear hbst hb1 hb2 hb3 c1 c2 c3
        go_enter Try.func48, Try.ntmps48
        go_wp2_with fail
        refine (H1.out _).mono ?_; rintro e wa ⟨rfl, k⟩
        have kk := ((Kept.refl [] w).alloc _).trans k
        clear k H1
        go_wp2_with fail
        refine wp_loop_rounds 4 ?_
        rw [rounds_succ]
        go_wp2_with fail
        first | go_region | fail
        go_wp2_with fail
        rw [rounds_succ]
        go_wp2_with fail
        first | go_region | fail
        go_wp2_with fail
        rw [rounds_succ]
        go_wp2_with fail
        first | go_region | fail
        go_wp2_with fail
        rw [rounds_succ]
        go_wp2_with fail
        go_ret
        refine strongSays HB.out rfl ?_
        repeat' first | exact kk | refine Kept.alloc ?_ _ | refine Kept.drew ?_
      · have o0 : FloatKind.f64.format.order w1 0 = some .eq := ord_eq hb1 c1
        have o1 : FloatKind.f64.format.order w2 0 = some .eq := ord_eq hb2 c2
        have o2 : FloatKind.f64.format.order w3 0 = some .gt := ord_gt hb3 inf0 c3
        have hbst : bst w1 w2 w3 = 3 := by unfold bst; repeat' (first | rfl | omega | split)
        have HB := Lib.hid hbst
        clear hbst hb1 hb2 hb3 c1 c2 c3
        go_enter Try.func48, Try.ntmps48
        go_wp2_with fail
        refine (H1.out _).mono ?_; rintro e wa ⟨rfl, k⟩
        have kk := ((Kept.refl [] w).alloc _).trans k
        clear k H1
        go_wp2_with fail
        refine wp_loop_rounds 4 ?_
        rw [rounds_succ]
        go_wp2_with fail
        first | go_region | fail
        go_wp2_with fail
        rw [rounds_succ]
        go_wp2_with fail
        first | go_region | fail
        go_wp2_with fail
        rw [rounds_succ]
        go_wp2_with fail
        first | go_region | fail
        go_wp2_with fail
        rw [rounds_succ]
        go_wp2_with fail
        go_ret
        refine strongSays HB.out rfl ?_
        repeat' first | exact kk | refine Kept.alloc ?_ _ | refine Kept.drew ?_
    · rcases Nat.eq_zero_or_pos w3 with c4 | c4
      · have o0 : FloatKind.f64.format.order w1 0 = some .eq := ord_eq hb1 c1
        have o1 : FloatKind.f64.format.order w2 0 = some .gt := ord_gt hb2 inf0 c2
        have o2 : FloatKind.f64.format.order w3 0 = some .eq := ord_eq hb3 c4
        have hbst : bst w1 w2 w3 = 2 := by unfold bst; repeat' (first | rfl | omega | split)
        have HB := Lib.hid hbst
        clear hbst hb1 hb2 hb3 c1 c2 c4
        go_enter Try.func48, Try.ntmps48
        go_wp2_with fail
        refine (H1.out _).mono ?_; rintro e wa ⟨rfl, k⟩
        have kk := ((Kept.refl [] w).alloc _).trans k
        clear k H1
        go_wp2_with fail
        refine wp_loop_rounds 4 ?_
        rw [rounds_succ]
        go_wp2_with fail
        first | go_region | fail
        go_wp2_with fail
        rw [rounds_succ]
        go_wp2_with fail
        first | go_region | fail
        go_wp2_with fail
        rw [rounds_succ]
        go_wp2_with fail
        first | go_region | fail
        go_wp2_with fail
        rw [rounds_succ]
        go_wp2_with fail
        go_ret
        refine strongSays HB.out rfl ?_
        repeat' first | exact kk | refine Kept.alloc ?_ _ | refine Kept.drew ?_
      · rcases Nat.lt_trichotomy w3 w2 with c5 | c5 | c5
        · have o0 : FloatKind.f64.format.order w1 0 = some .eq := ord_eq hb1 c1
          have o1 : FloatKind.f64.format.order w2 0 = some .gt := ord_gt hb2 inf0 c2
          have o2 : FloatKind.f64.format.order w3 0 = some .gt := ord_gt hb3 inf0 c4
          have o3 : FloatKind.f64.format.order w3 w2 = some .lt := ord_lt hb3 hb2 c5
          have hbst : bst w1 w2 w3 = 2 := by unfold bst; repeat' (first | rfl | omega | split)
          have HB := Lib.hid hbst
          clear hbst hb1 hb2 hb3 c1 c2 c4 c5
          go_enter Try.func48, Try.ntmps48
          go_wp2_with fail
          refine (H1.out _).mono ?_; rintro e wa ⟨rfl, k⟩
          have kk := ((Kept.refl [] w).alloc _).trans k
          clear k H1
          go_wp2_with fail
          refine wp_loop_rounds 4 ?_
          rw [rounds_succ]
          go_wp2_with fail
          first | go_region | fail
          go_wp2_with fail
          rw [rounds_succ]
          go_wp2_with fail
          first | go_region | fail
          go_wp2_with fail
          rw [rounds_succ]
          go_wp2_with fail
          first | go_region | fail
          go_wp2_with fail
          rw [rounds_succ]
          go_wp2_with fail
          go_ret
          refine strongSays HB.out rfl ?_
          repeat' first | exact kk | refine Kept.alloc ?_ _ | refine Kept.drew ?_
        · have o0 : FloatKind.f64.format.order w1 0 = some .eq := ord_eq hb1 c1
          have o1 : FloatKind.f64.format.order w2 0 = some .gt := ord_gt hb2 inf0 c2
          have o2 : FloatKind.f64.format.order w3 0 = some .gt := ord_gt hb3 inf0 c4
          have o3 : FloatKind.f64.format.order w3 w2 = some .eq := ord_eq hb3 c5
          have hbst : bst w1 w2 w3 = 2 := by unfold bst; repeat' (first | rfl | omega | split)
          have HB := Lib.hid hbst
          clear hbst hb1 hb2 hb3 c1 c2 c4 c5
          go_enter Try.func48, Try.ntmps48
          go_wp2_with fail
          refine (H1.out _).mono ?_; rintro e wa ⟨rfl, k⟩
          have kk := ((Kept.refl [] w).alloc _).trans k
          clear k H1
          go_wp2_with fail
          refine wp_loop_rounds 4 ?_
          rw [rounds_succ]
          go_wp2_with fail
          first | go_region | fail
          go_wp2_with fail
          rw [rounds_succ]
          go_wp2_with fail
          first | go_region | fail
          go_wp2_with fail
          rw [rounds_succ]
          go_wp2_with fail
          first | go_region | fail
          go_wp2_with fail
          rw [rounds_succ]
          go_wp2_with fail
          go_ret
          refine strongSays HB.out rfl ?_
          repeat' first | exact kk | refine Kept.alloc ?_ _ | refine Kept.drew ?_
        · have o0 : FloatKind.f64.format.order w1 0 = some .eq := ord_eq hb1 c1
          have o1 : FloatKind.f64.format.order w2 0 = some .gt := ord_gt hb2 inf0 c2
          have o2 : FloatKind.f64.format.order w3 0 = some .gt := ord_gt hb3 inf0 c4
          have o3 : FloatKind.f64.format.order w3 w2 = some .gt := ord_gt hb3 hb2 c5
          have hbst : bst w1 w2 w3 = 3 := by unfold bst; repeat' (first | rfl | omega | split)
          have HB := Lib.hid hbst
          clear hbst hb1 hb2 hb3 c1 c2 c4 c5
          go_enter Try.func48, Try.ntmps48
          go_wp2_with fail
          refine (H1.out _).mono ?_; rintro e wa ⟨rfl, k⟩
          have kk := ((Kept.refl [] w).alloc _).trans k
          clear k H1
          go_wp2_with fail
          refine wp_loop_rounds 4 ?_
          rw [rounds_succ]
          go_wp2_with fail
          first | go_region | fail
          go_wp2_with fail
          rw [rounds_succ]
          go_wp2_with fail
          first | go_region | fail
          go_wp2_with fail
          rw [rounds_succ]
          go_wp2_with fail
          first | go_region | fail
          go_wp2_with fail
          rw [rounds_succ]
          go_wp2_with fail
          go_ret
          refine strongSays HB.out rfl ?_
          repeat' first | exact kk | refine Kept.alloc ?_ _ | refine Kept.drew ?_
  · rcases Nat.eq_zero_or_pos w2 with c6 | c6
    · rcases Nat.eq_zero_or_pos w3 with c7 | c7
      · have o0 : FloatKind.f64.format.order w1 0 = some .gt := ord_gt hb1 inf0 c1
        have o1 : FloatKind.f64.format.order w2 0 = some .eq := ord_eq hb2 c6
        have o2 : FloatKind.f64.format.order w3 0 = some .eq := ord_eq hb3 c7
        have hbst : bst w1 w2 w3 = 1 := by unfold bst; repeat' (first | rfl | omega | split)
        have HB := Lib.hid hbst
        clear hbst hb1 hb2 hb3 c1 c6 c7
        go_enter Try.func48, Try.ntmps48
        go_wp2_with fail
        refine (H1.out _).mono ?_; rintro e wa ⟨rfl, k⟩
        have kk := ((Kept.refl [] w).alloc _).trans k
        clear k H1
        go_wp2_with fail
        refine wp_loop_rounds 4 ?_
        rw [rounds_succ]
        go_wp2_with fail
        first | go_region | fail
        go_wp2_with fail
        rw [rounds_succ]
        go_wp2_with fail
        first | go_region | fail
        go_wp2_with fail
        rw [rounds_succ]
        go_wp2_with fail
        first | go_region | fail
        go_wp2_with fail
        rw [rounds_succ]
        go_wp2_with fail
        go_ret
        refine strongSays HB.out rfl ?_
        repeat' first | exact kk | refine Kept.alloc ?_ _ | refine Kept.drew ?_
      · rcases Nat.lt_trichotomy w3 w1 with c8 | c8 | c8
        · have o0 : FloatKind.f64.format.order w1 0 = some .gt := ord_gt hb1 inf0 c1
          have o1 : FloatKind.f64.format.order w2 0 = some .eq := ord_eq hb2 c6
          have o2 : FloatKind.f64.format.order w3 0 = some .gt := ord_gt hb3 inf0 c7
          have o3 : FloatKind.f64.format.order w3 w1 = some .lt := ord_lt hb3 hb1 c8
          have hbst : bst w1 w2 w3 = 1 := by unfold bst; repeat' (first | rfl | omega | split)
          have HB := Lib.hid hbst
          clear hbst hb1 hb2 hb3 c1 c6 c7 c8
          go_enter Try.func48, Try.ntmps48
          go_wp2_with fail
          refine (H1.out _).mono ?_; rintro e wa ⟨rfl, k⟩
          have kk := ((Kept.refl [] w).alloc _).trans k
          clear k H1
          go_wp2_with fail
          refine wp_loop_rounds 4 ?_
          rw [rounds_succ]
          go_wp2_with fail
          first | go_region | fail
          go_wp2_with fail
          rw [rounds_succ]
          go_wp2_with fail
          first | go_region | fail
          go_wp2_with fail
          rw [rounds_succ]
          go_wp2_with fail
          first | go_region | fail
          go_wp2_with fail
          rw [rounds_succ]
          go_wp2_with fail
          go_ret
          refine strongSays HB.out rfl ?_
          repeat' first | exact kk | refine Kept.alloc ?_ _ | refine Kept.drew ?_
        · have o0 : FloatKind.f64.format.order w1 0 = some .gt := ord_gt hb1 inf0 c1
          have o1 : FloatKind.f64.format.order w2 0 = some .eq := ord_eq hb2 c6
          have o2 : FloatKind.f64.format.order w3 0 = some .gt := ord_gt hb3 inf0 c7
          have o3 : FloatKind.f64.format.order w3 w1 = some .eq := ord_eq hb3 c8
          have hbst : bst w1 w2 w3 = 1 := by unfold bst; repeat' (first | rfl | omega | split)
          have HB := Lib.hid hbst
          clear hbst hb1 hb2 hb3 c1 c6 c7 c8
          go_enter Try.func48, Try.ntmps48
          go_wp2_with fail
          refine (H1.out _).mono ?_; rintro e wa ⟨rfl, k⟩
          have kk := ((Kept.refl [] w).alloc _).trans k
          clear k H1
          go_wp2_with fail
          refine wp_loop_rounds 4 ?_
          rw [rounds_succ]
          go_wp2_with fail
          first | go_region | fail
          go_wp2_with fail
          rw [rounds_succ]
          go_wp2_with fail
          first | go_region | fail
          go_wp2_with fail
          rw [rounds_succ]
          go_wp2_with fail
          first | go_region | fail
          go_wp2_with fail
          rw [rounds_succ]
          go_wp2_with fail
          go_ret
          refine strongSays HB.out rfl ?_
          repeat' first | exact kk | refine Kept.alloc ?_ _ | refine Kept.drew ?_
        · have o0 : FloatKind.f64.format.order w1 0 = some .gt := ord_gt hb1 inf0 c1
          have o1 : FloatKind.f64.format.order w2 0 = some .eq := ord_eq hb2 c6
          have o2 : FloatKind.f64.format.order w3 0 = some .gt := ord_gt hb3 inf0 c7
          have o3 : FloatKind.f64.format.order w3 w1 = some .gt := ord_gt hb3 hb1 c8
          have hbst : bst w1 w2 w3 = 3 := by unfold bst; repeat' (first | rfl | omega | split)
          have HB := Lib.hid hbst
          clear hbst hb1 hb2 hb3 c1 c6 c7 c8
          go_enter Try.func48, Try.ntmps48
          go_wp2_with fail
          refine (H1.out _).mono ?_; rintro e wa ⟨rfl, k⟩
          have kk := ((Kept.refl [] w).alloc _).trans k
          clear k H1
          go_wp2_with fail
          refine wp_loop_rounds 4 ?_
          rw [rounds_succ]
          go_wp2_with fail
          first | go_region | fail
          go_wp2_with fail
          rw [rounds_succ]
          go_wp2_with fail
          first | go_region | fail
          go_wp2_with fail
          rw [rounds_succ]
          go_wp2_with fail
          first | go_region | fail
          go_wp2_with fail
          rw [rounds_succ]
          go_wp2_with fail
          go_ret
          refine strongSays HB.out rfl ?_
          repeat' first | exact kk | refine Kept.alloc ?_ _ | refine Kept.drew ?_
    · rcases Nat.lt_trichotomy w2 w1 with c9 | c9 | c9
      · rcases Nat.eq_zero_or_pos w3 with c10 | c10
        · have o0 : FloatKind.f64.format.order w1 0 = some .gt := ord_gt hb1 inf0 c1
          have o1 : FloatKind.f64.format.order w2 0 = some .gt := ord_gt hb2 inf0 c6
          have o2 : FloatKind.f64.format.order w2 w1 = some .lt := ord_lt hb2 hb1 c9
          have o3 : FloatKind.f64.format.order w3 0 = some .eq := ord_eq hb3 c10
          have hbst : bst w1 w2 w3 = 1 := by unfold bst; repeat' (first | rfl | omega | split)
          have HB := Lib.hid hbst
          clear hbst hb1 hb2 hb3 c1 c6 c9 c10
          go_enter Try.func48, Try.ntmps48
          go_wp2_with fail
          refine (H1.out _).mono ?_; rintro e wa ⟨rfl, k⟩
          have kk := ((Kept.refl [] w).alloc _).trans k
          clear k H1
          go_wp2_with fail
          refine wp_loop_rounds 4 ?_
          rw [rounds_succ]
          go_wp2_with fail
          first | go_region | fail
          go_wp2_with fail
          rw [rounds_succ]
          go_wp2_with fail
          first | go_region | fail
          go_wp2_with fail
          rw [rounds_succ]
          go_wp2_with fail
          first | go_region | fail
          go_wp2_with fail
          rw [rounds_succ]
          go_wp2_with fail
          go_ret
          refine strongSays HB.out rfl ?_
          repeat' first | exact kk | refine Kept.alloc ?_ _ | refine Kept.drew ?_
        · rcases Nat.lt_trichotomy w3 w1 with c11 | c11 | c11
          · have o0 : FloatKind.f64.format.order w1 0 = some .gt := ord_gt hb1 inf0 c1
            have o1 : FloatKind.f64.format.order w2 0 = some .gt := ord_gt hb2 inf0 c6
            have o2 : FloatKind.f64.format.order w2 w1 = some .lt := ord_lt hb2 hb1 c9
            have o3 : FloatKind.f64.format.order w3 0 = some .gt := ord_gt hb3 inf0 c10
            have o4 : FloatKind.f64.format.order w3 w1 = some .lt := ord_lt hb3 hb1 c11
            have hbst : bst w1 w2 w3 = 1 := by unfold bst; repeat' (first | rfl | omega | split)
            have HB := Lib.hid hbst
            clear hbst hb1 hb2 hb3 c1 c6 c9 c10 c11
            go_enter Try.func48, Try.ntmps48
            go_wp2_with fail
            refine (H1.out _).mono ?_; rintro e wa ⟨rfl, k⟩
            have kk := ((Kept.refl [] w).alloc _).trans k
            clear k H1
            go_wp2_with fail
            refine wp_loop_rounds 4 ?_
            rw [rounds_succ]
            go_wp2_with fail
            first | go_region | fail
            go_wp2_with fail
            rw [rounds_succ]
            go_wp2_with fail
            first | go_region | fail
            go_wp2_with fail
            rw [rounds_succ]
            go_wp2_with fail
            first | go_region | fail
            go_wp2_with fail
            rw [rounds_succ]
            go_wp2_with fail
            go_ret
            refine strongSays HB.out rfl ?_
            repeat' first | exact kk | refine Kept.alloc ?_ _ | refine Kept.drew ?_
          · have o0 : FloatKind.f64.format.order w1 0 = some .gt := ord_gt hb1 inf0 c1
            have o1 : FloatKind.f64.format.order w2 0 = some .gt := ord_gt hb2 inf0 c6
            have o2 : FloatKind.f64.format.order w2 w1 = some .lt := ord_lt hb2 hb1 c9
            have o3 : FloatKind.f64.format.order w3 0 = some .gt := ord_gt hb3 inf0 c10
            have o4 : FloatKind.f64.format.order w3 w1 = some .eq := ord_eq hb3 c11
            have hbst : bst w1 w2 w3 = 1 := by unfold bst; repeat' (first | rfl | omega | split)
            have HB := Lib.hid hbst
            clear hbst hb1 hb2 hb3 c1 c6 c9 c10 c11
            go_enter Try.func48, Try.ntmps48
            go_wp2_with fail
            refine (H1.out _).mono ?_; rintro e wa ⟨rfl, k⟩
            have kk := ((Kept.refl [] w).alloc _).trans k
            clear k H1
            go_wp2_with fail
            refine wp_loop_rounds 4 ?_
            rw [rounds_succ]
            go_wp2_with fail
            first | go_region | fail
            go_wp2_with fail
            rw [rounds_succ]
            go_wp2_with fail
            first | go_region | fail
            go_wp2_with fail
            rw [rounds_succ]
            go_wp2_with fail
            first | go_region | fail
            go_wp2_with fail
            rw [rounds_succ]
            go_wp2_with fail
            go_ret
            refine strongSays HB.out rfl ?_
            repeat' first | exact kk | refine Kept.alloc ?_ _ | refine Kept.drew ?_
          · have o0 : FloatKind.f64.format.order w1 0 = some .gt := ord_gt hb1 inf0 c1
            have o1 : FloatKind.f64.format.order w2 0 = some .gt := ord_gt hb2 inf0 c6
            have o2 : FloatKind.f64.format.order w2 w1 = some .lt := ord_lt hb2 hb1 c9
            have o3 : FloatKind.f64.format.order w3 0 = some .gt := ord_gt hb3 inf0 c10
            have o4 : FloatKind.f64.format.order w3 w1 = some .gt := ord_gt hb3 hb1 c11
            have hbst : bst w1 w2 w3 = 3 := by unfold bst; repeat' (first | rfl | omega | split)
            have HB := Lib.hid hbst
            clear hbst hb1 hb2 hb3 c1 c6 c9 c10 c11
            go_enter Try.func48, Try.ntmps48
            go_wp2_with fail
            refine (H1.out _).mono ?_; rintro e wa ⟨rfl, k⟩
            have kk := ((Kept.refl [] w).alloc _).trans k
            clear k H1
            go_wp2_with fail
            refine wp_loop_rounds 4 ?_
            rw [rounds_succ]
            go_wp2_with fail
            first | go_region | fail
            go_wp2_with fail
            rw [rounds_succ]
            go_wp2_with fail
            first | go_region | fail
            go_wp2_with fail
            rw [rounds_succ]
            go_wp2_with fail
            first | go_region | fail
            go_wp2_with fail
            rw [rounds_succ]
            go_wp2_with fail
            go_ret
            refine strongSays HB.out rfl ?_
            repeat' first | exact kk | refine Kept.alloc ?_ _ | refine Kept.drew ?_
      · rcases Nat.eq_zero_or_pos w3 with c12 | c12
        · have o0 : FloatKind.f64.format.order w1 0 = some .gt := ord_gt hb1 inf0 c1
          have o1 : FloatKind.f64.format.order w2 0 = some .gt := ord_gt hb2 inf0 c6
          have o2 : FloatKind.f64.format.order w2 w1 = some .eq := ord_eq hb2 c9
          have o3 : FloatKind.f64.format.order w3 0 = some .eq := ord_eq hb3 c12
          have hbst : bst w1 w2 w3 = 1 := by unfold bst; repeat' (first | rfl | omega | split)
          have HB := Lib.hid hbst
          clear hbst hb1 hb2 hb3 c1 c6 c9 c12
          go_enter Try.func48, Try.ntmps48
          go_wp2_with fail
          refine (H1.out _).mono ?_; rintro e wa ⟨rfl, k⟩
          have kk := ((Kept.refl [] w).alloc _).trans k
          clear k H1
          go_wp2_with fail
          refine wp_loop_rounds 4 ?_
          rw [rounds_succ]
          go_wp2_with fail
          first | go_region | fail
          go_wp2_with fail
          rw [rounds_succ]
          go_wp2_with fail
          first | go_region | fail
          go_wp2_with fail
          rw [rounds_succ]
          go_wp2_with fail
          first | go_region | fail
          go_wp2_with fail
          rw [rounds_succ]
          go_wp2_with fail
          go_ret
          refine strongSays HB.out rfl ?_
          repeat' first | exact kk | refine Kept.alloc ?_ _ | refine Kept.drew ?_
        · rcases Nat.lt_trichotomy w3 w1 with c13 | c13 | c13
          · have o0 : FloatKind.f64.format.order w1 0 = some .gt := ord_gt hb1 inf0 c1
            have o1 : FloatKind.f64.format.order w2 0 = some .gt := ord_gt hb2 inf0 c6
            have o2 : FloatKind.f64.format.order w2 w1 = some .eq := ord_eq hb2 c9
            have o3 : FloatKind.f64.format.order w3 0 = some .gt := ord_gt hb3 inf0 c12
            have o4 : FloatKind.f64.format.order w3 w1 = some .lt := ord_lt hb3 hb1 c13
            have hbst : bst w1 w2 w3 = 1 := by unfold bst; repeat' (first | rfl | omega | split)
            have HB := Lib.hid hbst
            clear hbst hb1 hb2 hb3 c1 c6 c9 c12 c13
            go_enter Try.func48, Try.ntmps48
            go_wp2_with fail
            refine (H1.out _).mono ?_; rintro e wa ⟨rfl, k⟩
            have kk := ((Kept.refl [] w).alloc _).trans k
            clear k H1
            go_wp2_with fail
            refine wp_loop_rounds 4 ?_
            rw [rounds_succ]
            go_wp2_with fail
            first | go_region | fail
            go_wp2_with fail
            rw [rounds_succ]
            go_wp2_with fail
            first | go_region | fail
            go_wp2_with fail
            rw [rounds_succ]
            go_wp2_with fail
            first | go_region | fail
            go_wp2_with fail
            rw [rounds_succ]
            go_wp2_with fail
            go_ret
            refine strongSays HB.out rfl ?_
            repeat' first | exact kk | refine Kept.alloc ?_ _ | refine Kept.drew ?_
          · have o0 : FloatKind.f64.format.order w1 0 = some .gt := ord_gt hb1 inf0 c1
            have o1 : FloatKind.f64.format.order w2 0 = some .gt := ord_gt hb2 inf0 c6
            have o2 : FloatKind.f64.format.order w2 w1 = some .eq := ord_eq hb2 c9
            have o3 : FloatKind.f64.format.order w3 0 = some .gt := ord_gt hb3 inf0 c12
            have o4 : FloatKind.f64.format.order w3 w1 = some .eq := ord_eq hb3 c13
            have hbst : bst w1 w2 w3 = 1 := by unfold bst; repeat' (first | rfl | omega | split)
            have HB := Lib.hid hbst
            clear hbst hb1 hb2 hb3 c1 c6 c9 c12 c13
            go_enter Try.func48, Try.ntmps48
            go_wp2_with fail
            refine (H1.out _).mono ?_; rintro e wa ⟨rfl, k⟩
            have kk := ((Kept.refl [] w).alloc _).trans k
            clear k H1
            go_wp2_with fail
            refine wp_loop_rounds 4 ?_
            rw [rounds_succ]
            go_wp2_with fail
            first | go_region | fail
            go_wp2_with fail
            rw [rounds_succ]
            go_wp2_with fail
            first | go_region | fail
            go_wp2_with fail
            rw [rounds_succ]
            go_wp2_with fail
            first | go_region | fail
            go_wp2_with fail
            rw [rounds_succ]
            go_wp2_with fail
            go_ret
            refine strongSays HB.out rfl ?_
            repeat' first | exact kk | refine Kept.alloc ?_ _ | refine Kept.drew ?_
          · have o0 : FloatKind.f64.format.order w1 0 = some .gt := ord_gt hb1 inf0 c1
            have o1 : FloatKind.f64.format.order w2 0 = some .gt := ord_gt hb2 inf0 c6
            have o2 : FloatKind.f64.format.order w2 w1 = some .eq := ord_eq hb2 c9
            have o3 : FloatKind.f64.format.order w3 0 = some .gt := ord_gt hb3 inf0 c12
            have o4 : FloatKind.f64.format.order w3 w1 = some .gt := ord_gt hb3 hb1 c13
            have hbst : bst w1 w2 w3 = 3 := by unfold bst; repeat' (first | rfl | omega | split)
            have HB := Lib.hid hbst
            clear hbst hb1 hb2 hb3 c1 c6 c9 c12 c13
            go_enter Try.func48, Try.ntmps48
            go_wp2_with fail
            refine (H1.out _).mono ?_; rintro e wa ⟨rfl, k⟩
            have kk := ((Kept.refl [] w).alloc _).trans k
            clear k H1
            go_wp2_with fail
            refine wp_loop_rounds 4 ?_
            rw [rounds_succ]
            go_wp2_with fail
            first | go_region | fail
            go_wp2_with fail
            rw [rounds_succ]
            go_wp2_with fail
            first | go_region | fail
            go_wp2_with fail
            rw [rounds_succ]
            go_wp2_with fail
            first | go_region | fail
            go_wp2_with fail
            rw [rounds_succ]
            go_wp2_with fail
            go_ret
            refine strongSays HB.out rfl ?_
            repeat' first | exact kk | refine Kept.alloc ?_ _ | refine Kept.drew ?_
      · rcases Nat.eq_zero_or_pos w3 with c14 | c14
        · have o0 : FloatKind.f64.format.order w1 0 = some .gt := ord_gt hb1 inf0 c1
          have o1 : FloatKind.f64.format.order w2 0 = some .gt := ord_gt hb2 inf0 c6
          have o2 : FloatKind.f64.format.order w2 w1 = some .gt := ord_gt hb2 hb1 c9
          have o3 : FloatKind.f64.format.order w3 0 = some .eq := ord_eq hb3 c14
          have hbst : bst w1 w2 w3 = 2 := by unfold bst; repeat' (first | rfl | omega | split)
          have HB := Lib.hid hbst
          clear hbst hb1 hb2 hb3 c1 c6 c9 c14
          go_enter Try.func48, Try.ntmps48
          go_wp2_with fail
          refine (H1.out _).mono ?_; rintro e wa ⟨rfl, k⟩
          have kk := ((Kept.refl [] w).alloc _).trans k
          clear k H1
          go_wp2_with fail
          refine wp_loop_rounds 4 ?_
          rw [rounds_succ]
          go_wp2_with fail
          first | go_region | fail
          go_wp2_with fail
          rw [rounds_succ]
          go_wp2_with fail
          first | go_region | fail
          go_wp2_with fail
          rw [rounds_succ]
          go_wp2_with fail
          first | go_region | fail
          go_wp2_with fail
          rw [rounds_succ]
          go_wp2_with fail
          go_ret
          refine strongSays HB.out rfl ?_
          repeat' first | exact kk | refine Kept.alloc ?_ _ | refine Kept.drew ?_
        · rcases Nat.lt_trichotomy w3 w2 with c15 | c15 | c15
          · have o0 : FloatKind.f64.format.order w1 0 = some .gt := ord_gt hb1 inf0 c1
            have o1 : FloatKind.f64.format.order w2 0 = some .gt := ord_gt hb2 inf0 c6
            have o2 : FloatKind.f64.format.order w2 w1 = some .gt := ord_gt hb2 hb1 c9
            have o3 : FloatKind.f64.format.order w3 0 = some .gt := ord_gt hb3 inf0 c14
            have o4 : FloatKind.f64.format.order w3 w2 = some .lt := ord_lt hb3 hb2 c15
            have hbst : bst w1 w2 w3 = 2 := by unfold bst; repeat' (first | rfl | omega | split)
            have HB := Lib.hid hbst
            clear hbst hb1 hb2 hb3 c1 c6 c9 c14 c15
            go_enter Try.func48, Try.ntmps48
            go_wp2_with fail
            refine (H1.out _).mono ?_; rintro e wa ⟨rfl, k⟩
            have kk := ((Kept.refl [] w).alloc _).trans k
            clear k H1
            go_wp2_with fail
            refine wp_loop_rounds 4 ?_
            rw [rounds_succ]
            go_wp2_with fail
            first | go_region | fail
            go_wp2_with fail
            rw [rounds_succ]
            go_wp2_with fail
            first | go_region | fail
            go_wp2_with fail
            rw [rounds_succ]
            go_wp2_with fail
            first | go_region | fail
            go_wp2_with fail
            rw [rounds_succ]
            go_wp2_with fail
            go_ret
            refine strongSays HB.out rfl ?_
            repeat' first | exact kk | refine Kept.alloc ?_ _ | refine Kept.drew ?_
          · have o0 : FloatKind.f64.format.order w1 0 = some .gt := ord_gt hb1 inf0 c1
            have o1 : FloatKind.f64.format.order w2 0 = some .gt := ord_gt hb2 inf0 c6
            have o2 : FloatKind.f64.format.order w2 w1 = some .gt := ord_gt hb2 hb1 c9
            have o3 : FloatKind.f64.format.order w3 0 = some .gt := ord_gt hb3 inf0 c14
            have o4 : FloatKind.f64.format.order w3 w2 = some .eq := ord_eq hb3 c15
            have hbst : bst w1 w2 w3 = 2 := by unfold bst; repeat' (first | rfl | omega | split)
            have HB := Lib.hid hbst
            clear hbst hb1 hb2 hb3 c1 c6 c9 c14 c15
            go_enter Try.func48, Try.ntmps48
            go_wp2_with fail
            refine (H1.out _).mono ?_; rintro e wa ⟨rfl, k⟩
            have kk := ((Kept.refl [] w).alloc _).trans k
            clear k H1
            go_wp2_with fail
            refine wp_loop_rounds 4 ?_
            rw [rounds_succ]
            go_wp2_with fail
            first | go_region | fail
            go_wp2_with fail
            rw [rounds_succ]
            go_wp2_with fail
            first | go_region | fail
            go_wp2_with fail
            rw [rounds_succ]
            go_wp2_with fail
            first | go_region | fail
            go_wp2_with fail
            rw [rounds_succ]
            go_wp2_with fail
            go_ret
            refine strongSays HB.out rfl ?_
            repeat' first | exact kk | refine Kept.alloc ?_ _ | refine Kept.drew ?_
          · have o0 : FloatKind.f64.format.order w1 0 = some .gt := ord_gt hb1 inf0 c1
            have o1 : FloatKind.f64.format.order w2 0 = some .gt := ord_gt hb2 inf0 c6
            have o2 : FloatKind.f64.format.order w2 w1 = some .gt := ord_gt hb2 hb1 c9
            have o3 : FloatKind.f64.format.order w3 0 = some .gt := ord_gt hb3 inf0 c14
            have o4 : FloatKind.f64.format.order w3 w2 = some .gt := ord_gt hb3 hb2 c15
            have hbst : bst w1 w2 w3 = 3 := by unfold bst; repeat' (first | rfl | omega | split)
            have HB := Lib.hid hbst
            clear hbst hb1 hb2 hb3 c1 c6 c9 c14 c15
            go_enter Try.func48, Try.ntmps48
            go_wp2_with fail
            refine (H1.out _).mono ?_; rintro e wa ⟨rfl, k⟩
            have kk := ((Kept.refl [] w).alloc _).trans k
            clear k H1
            go_wp2_with fail
            refine wp_loop_rounds 4 ?_
            rw [rounds_succ]
            go_wp2_with fail
            first | go_region | fail
            go_wp2_with fail
            rw [rounds_succ]
            go_wp2_with fail
            first | go_region | fail
            go_wp2_with fail
            rw [rounds_succ]
            go_wp2_with fail
            first | go_region | fail
            go_wp2_with fail
            rw [rounds_succ]
            go_wp2_with fail
            go_ret
            refine strongSays HB.out rfl ?_
            repeat' first | exact kk | refine Kept.alloc ?_ _ | refine Kept.drew ?_

set_option maxRecDepth 100000 in
set_option maxHeartbeats 8000000 in
theorem rstrong_gen (n0 m0 n1 m1 n2 m2 n3 m3 : Int) (w0 w1 w2 w3 : Nat) (H1 : Hid (∀ w, Calls Try.prog 49 #[.agg #[.int .i64 n0, .int .i64 m0, .int .i64 n1, .int .i64 m1, .int .i64 n2, .int .i64 m2, .int .i64 n3, .int .i64 m3]] w fun e w' => e = .returned (.agg #[.float .f64 w0, .float .f64 w1, .float .f64 w2, .float .f64 w3]) ∧ Kept [] w w')) (hb1 : w1 ≤ INF) (hb2 : w2 ≤ INF) (hb3 : w3 ≤ INF) (w : World) :
    Calls Try.prog 50 #[.agg #[.int .i64 n0, .int .i64 m0, .int .i64 n1, .int .i64 m1, .int .i64 n2, .int .i64 m2, .int .i64 n3, .int .i64 m3]] w (StrongSays w1 w2 w3 w) := by
  rcases Nat.eq_zero_or_pos w3 with c1 | c1
  · rcases Nat.eq_zero_or_pos w2 with c2 | c2
    · rcases Nat.eq_zero_or_pos w1 with c3 | c3
      · have o0 : FloatKind.f64.format.order w3 0 = some .eq := ord_eq hb3 c1
        have o1 : FloatKind.f64.format.order w2 0 = some .eq := ord_eq hb2 c2
        have o2 : FloatKind.f64.format.order w1 0 = some .eq := ord_eq hb1 c3
        have hbst : bst w1 w2 w3 = 0 := by unfold bst; repeat' (first | rfl | omega | split)
        have HB := Lib.hid hbst
        clear hbst hb1 hb2 hb3 c1 c2 c3
        go_enter Try.func50, Try.ntmps50
        go_wp2_with fail
        refine (H1.out _).mono ?_; rintro e wa ⟨rfl, k⟩
        have kk := ((Kept.refl [] w).alloc _).trans k
        clear k H1
        go_wp2_with fail
        refine wp_loop_rounds 4 ?_
        rw [rounds_succ]
        go_wp2_with fail
        first | go_region | fail
        go_wp2_with fail
        rw [rounds_succ]
        go_wp2_with fail
        first | go_region | fail
        go_wp2_with fail
        rw [rounds_succ]
        go_wp2_with fail
        first | go_region | fail
        go_wp2_with fail
        rw [rounds_succ]
        go_wp2_with fail
        go_ret
        refine strongSays HB.out rfl ?_
        repeat' first | exact kk | refine Kept.alloc ?_ _ | refine Kept.drew ?_
      · have o0 : FloatKind.f64.format.order w3 0 = some .eq := ord_eq hb3 c1
        have o1 : FloatKind.f64.format.order w2 0 = some .eq := ord_eq hb2 c2
        have o2 : FloatKind.f64.format.order w1 0 = some .gt := ord_gt hb1 inf0 c3
        have hbst : bst w1 w2 w3 = 1 := by unfold bst; repeat' (first | rfl | omega | split)
        have HB := Lib.hid hbst
        clear hbst hb1 hb2 hb3 c1 c2 c3
        go_enter Try.func50, Try.ntmps50
        go_wp2_with fail
        refine (H1.out _).mono ?_; rintro e wa ⟨rfl, k⟩
        have kk := ((Kept.refl [] w).alloc _).trans k
        clear k H1
        go_wp2_with fail
        refine wp_loop_rounds 4 ?_
        rw [rounds_succ]
        go_wp2_with fail
        first | go_region | fail
        go_wp2_with fail
        rw [rounds_succ]
        go_wp2_with fail
        first | go_region | fail
        go_wp2_with fail
        rw [rounds_succ]
        go_wp2_with fail
        first | go_region | fail
        go_wp2_with fail
        rw [rounds_succ]
        go_wp2_with fail
        go_ret
        refine strongSays HB.out rfl ?_
        repeat' first | exact kk | refine Kept.alloc ?_ _ | refine Kept.drew ?_
    · rcases Nat.eq_zero_or_pos w1 with c4 | c4
      · have o0 : FloatKind.f64.format.order w3 0 = some .eq := ord_eq hb3 c1
        have o1 : FloatKind.f64.format.order w2 0 = some .gt := ord_gt hb2 inf0 c2
        have o2 : FloatKind.f64.format.order w1 0 = some .eq := ord_eq hb1 c4
        have hbst : bst w1 w2 w3 = 2 := by unfold bst; repeat' (first | rfl | omega | split)
        have HB := Lib.hid hbst
        clear hbst hb1 hb2 hb3 c1 c2 c4
        go_enter Try.func50, Try.ntmps50
        go_wp2_with fail
        refine (H1.out _).mono ?_; rintro e wa ⟨rfl, k⟩
        have kk := ((Kept.refl [] w).alloc _).trans k
        clear k H1
        go_wp2_with fail
        refine wp_loop_rounds 4 ?_
        rw [rounds_succ]
        go_wp2_with fail
        first | go_region | fail
        go_wp2_with fail
        rw [rounds_succ]
        go_wp2_with fail
        first | go_region | fail
        go_wp2_with fail
        rw [rounds_succ]
        go_wp2_with fail
        first | go_region | fail
        go_wp2_with fail
        rw [rounds_succ]
        go_wp2_with fail
        go_ret
        refine strongSays HB.out rfl ?_
        repeat' first | exact kk | refine Kept.alloc ?_ _ | refine Kept.drew ?_
      · rcases Nat.lt_trichotomy w1 w2 with c5 | c5 | c5
        · have o0 : FloatKind.f64.format.order w3 0 = some .eq := ord_eq hb3 c1
          have o1 : FloatKind.f64.format.order w2 0 = some .gt := ord_gt hb2 inf0 c2
          have o2 : FloatKind.f64.format.order w1 0 = some .gt := ord_gt hb1 inf0 c4
          have o3 : FloatKind.f64.format.order w1 w2 = some .lt := ord_lt hb1 hb2 c5
          have hbst : bst w1 w2 w3 = 2 := by unfold bst; repeat' (first | rfl | omega | split)
          have HB := Lib.hid hbst
          clear hbst hb1 hb2 hb3 c1 c2 c4 c5
          go_enter Try.func50, Try.ntmps50
          go_wp2_with fail
          refine (H1.out _).mono ?_; rintro e wa ⟨rfl, k⟩
          have kk := ((Kept.refl [] w).alloc _).trans k
          clear k H1
          go_wp2_with fail
          refine wp_loop_rounds 4 ?_
          rw [rounds_succ]
          go_wp2_with fail
          first | go_region | fail
          go_wp2_with fail
          rw [rounds_succ]
          go_wp2_with fail
          first | go_region | fail
          go_wp2_with fail
          rw [rounds_succ]
          go_wp2_with fail
          first | go_region | fail
          go_wp2_with fail
          rw [rounds_succ]
          go_wp2_with fail
          go_ret
          refine strongSays HB.out rfl ?_
          repeat' first | exact kk | refine Kept.alloc ?_ _ | refine Kept.drew ?_
        · have o0 : FloatKind.f64.format.order w3 0 = some .eq := ord_eq hb3 c1
          have o1 : FloatKind.f64.format.order w2 0 = some .gt := ord_gt hb2 inf0 c2
          have o2 : FloatKind.f64.format.order w1 0 = some .gt := ord_gt hb1 inf0 c4
          have o3 : FloatKind.f64.format.order w1 w2 = some .eq := ord_eq hb1 c5
          have hbst : bst w1 w2 w3 = 1 := by unfold bst; repeat' (first | rfl | omega | split)
          have HB := Lib.hid hbst
          clear hbst hb1 hb2 hb3 c1 c2 c4 c5
          go_enter Try.func50, Try.ntmps50
          go_wp2_with fail
          refine (H1.out _).mono ?_; rintro e wa ⟨rfl, k⟩
          have kk := ((Kept.refl [] w).alloc _).trans k
          clear k H1
          go_wp2_with fail
          refine wp_loop_rounds 4 ?_
          rw [rounds_succ]
          go_wp2_with fail
          first | go_region | fail
          go_wp2_with fail
          rw [rounds_succ]
          go_wp2_with fail
          first | go_region | fail
          go_wp2_with fail
          rw [rounds_succ]
          go_wp2_with fail
          first | go_region | fail
          go_wp2_with fail
          rw [rounds_succ]
          go_wp2_with fail
          go_ret
          refine strongSays HB.out rfl ?_
          repeat' first | exact kk | refine Kept.alloc ?_ _ | refine Kept.drew ?_
        · have o0 : FloatKind.f64.format.order w3 0 = some .eq := ord_eq hb3 c1
          have o1 : FloatKind.f64.format.order w2 0 = some .gt := ord_gt hb2 inf0 c2
          have o2 : FloatKind.f64.format.order w1 0 = some .gt := ord_gt hb1 inf0 c4
          have o3 : FloatKind.f64.format.order w1 w2 = some .gt := ord_gt hb1 hb2 c5
          have hbst : bst w1 w2 w3 = 1 := by unfold bst; repeat' (first | rfl | omega | split)
          have HB := Lib.hid hbst
          clear hbst hb1 hb2 hb3 c1 c2 c4 c5
          go_enter Try.func50, Try.ntmps50
          go_wp2_with fail
          refine (H1.out _).mono ?_; rintro e wa ⟨rfl, k⟩
          have kk := ((Kept.refl [] w).alloc _).trans k
          clear k H1
          go_wp2_with fail
          refine wp_loop_rounds 4 ?_
          rw [rounds_succ]
          go_wp2_with fail
          first | go_region | fail
          go_wp2_with fail
          rw [rounds_succ]
          go_wp2_with fail
          first | go_region | fail
          go_wp2_with fail
          rw [rounds_succ]
          go_wp2_with fail
          first | go_region | fail
          go_wp2_with fail
          rw [rounds_succ]
          go_wp2_with fail
          go_ret
          refine strongSays HB.out rfl ?_
          repeat' first | exact kk | refine Kept.alloc ?_ _ | refine Kept.drew ?_
  · rcases Nat.eq_zero_or_pos w2 with c6 | c6
    · rcases Nat.eq_zero_or_pos w1 with c7 | c7
      · have o0 : FloatKind.f64.format.order w3 0 = some .gt := ord_gt hb3 inf0 c1
        have o1 : FloatKind.f64.format.order w2 0 = some .eq := ord_eq hb2 c6
        have o2 : FloatKind.f64.format.order w1 0 = some .eq := ord_eq hb1 c7
        have hbst : bst w1 w2 w3 = 3 := by unfold bst; repeat' (first | rfl | omega | split)
        have HB := Lib.hid hbst
        clear hbst hb1 hb2 hb3 c1 c6 c7
        go_enter Try.func50, Try.ntmps50
        go_wp2_with fail
        refine (H1.out _).mono ?_; rintro e wa ⟨rfl, k⟩
        have kk := ((Kept.refl [] w).alloc _).trans k
        clear k H1
        go_wp2_with fail
        refine wp_loop_rounds 4 ?_
        rw [rounds_succ]
        go_wp2_with fail
        first | go_region | fail
        go_wp2_with fail
        rw [rounds_succ]
        go_wp2_with fail
        first | go_region | fail
        go_wp2_with fail
        rw [rounds_succ]
        go_wp2_with fail
        first | go_region | fail
        go_wp2_with fail
        rw [rounds_succ]
        go_wp2_with fail
        go_ret
        refine strongSays HB.out rfl ?_
        repeat' first | exact kk | refine Kept.alloc ?_ _ | refine Kept.drew ?_
      · rcases Nat.lt_trichotomy w1 w3 with c8 | c8 | c8
        · have o0 : FloatKind.f64.format.order w3 0 = some .gt := ord_gt hb3 inf0 c1
          have o1 : FloatKind.f64.format.order w2 0 = some .eq := ord_eq hb2 c6
          have o2 : FloatKind.f64.format.order w1 0 = some .gt := ord_gt hb1 inf0 c7
          have o3 : FloatKind.f64.format.order w1 w3 = some .lt := ord_lt hb1 hb3 c8
          have hbst : bst w1 w2 w3 = 3 := by unfold bst; repeat' (first | rfl | omega | split)
          have HB := Lib.hid hbst
          clear hbst hb1 hb2 hb3 c1 c6 c7 c8
          go_enter Try.func50, Try.ntmps50
          go_wp2_with fail
          refine (H1.out _).mono ?_; rintro e wa ⟨rfl, k⟩
          have kk := ((Kept.refl [] w).alloc _).trans k
          clear k H1
          go_wp2_with fail
          refine wp_loop_rounds 4 ?_
          rw [rounds_succ]
          go_wp2_with fail
          first | go_region | fail
          go_wp2_with fail
          rw [rounds_succ]
          go_wp2_with fail
          first | go_region | fail
          go_wp2_with fail
          rw [rounds_succ]
          go_wp2_with fail
          first | go_region | fail
          go_wp2_with fail
          rw [rounds_succ]
          go_wp2_with fail
          go_ret
          refine strongSays HB.out rfl ?_
          repeat' first | exact kk | refine Kept.alloc ?_ _ | refine Kept.drew ?_
        · have o0 : FloatKind.f64.format.order w3 0 = some .gt := ord_gt hb3 inf0 c1
          have o1 : FloatKind.f64.format.order w2 0 = some .eq := ord_eq hb2 c6
          have o2 : FloatKind.f64.format.order w1 0 = some .gt := ord_gt hb1 inf0 c7
          have o3 : FloatKind.f64.format.order w1 w3 = some .eq := ord_eq hb1 c8
          have hbst : bst w1 w2 w3 = 1 := by unfold bst; repeat' (first | rfl | omega | split)
          have HB := Lib.hid hbst
          clear hbst hb1 hb2 hb3 c1 c6 c7 c8
          go_enter Try.func50, Try.ntmps50
          go_wp2_with fail
          refine (H1.out _).mono ?_; rintro e wa ⟨rfl, k⟩
          have kk := ((Kept.refl [] w).alloc _).trans k
          clear k H1
          go_wp2_with fail
          refine wp_loop_rounds 4 ?_
          rw [rounds_succ]
          go_wp2_with fail
          first | go_region | fail
          go_wp2_with fail
          rw [rounds_succ]
          go_wp2_with fail
          first | go_region | fail
          go_wp2_with fail
          rw [rounds_succ]
          go_wp2_with fail
          first | go_region | fail
          go_wp2_with fail
          rw [rounds_succ]
          go_wp2_with fail
          go_ret
          refine strongSays HB.out rfl ?_
          repeat' first | exact kk | refine Kept.alloc ?_ _ | refine Kept.drew ?_
        · have o0 : FloatKind.f64.format.order w3 0 = some .gt := ord_gt hb3 inf0 c1
          have o1 : FloatKind.f64.format.order w2 0 = some .eq := ord_eq hb2 c6
          have o2 : FloatKind.f64.format.order w1 0 = some .gt := ord_gt hb1 inf0 c7
          have o3 : FloatKind.f64.format.order w1 w3 = some .gt := ord_gt hb1 hb3 c8
          have hbst : bst w1 w2 w3 = 1 := by unfold bst; repeat' (first | rfl | omega | split)
          have HB := Lib.hid hbst
          clear hbst hb1 hb2 hb3 c1 c6 c7 c8
          go_enter Try.func50, Try.ntmps50
          go_wp2_with fail
          refine (H1.out _).mono ?_; rintro e wa ⟨rfl, k⟩
          have kk := ((Kept.refl [] w).alloc _).trans k
          clear k H1
          go_wp2_with fail
          refine wp_loop_rounds 4 ?_
          rw [rounds_succ]
          go_wp2_with fail
          first | go_region | fail
          go_wp2_with fail
          rw [rounds_succ]
          go_wp2_with fail
          first | go_region | fail
          go_wp2_with fail
          rw [rounds_succ]
          go_wp2_with fail
          first | go_region | fail
          go_wp2_with fail
          rw [rounds_succ]
          go_wp2_with fail
          go_ret
          refine strongSays HB.out rfl ?_
          repeat' first | exact kk | refine Kept.alloc ?_ _ | refine Kept.drew ?_
    · rcases Nat.lt_trichotomy w2 w3 with c9 | c9 | c9
      · rcases Nat.eq_zero_or_pos w1 with c10 | c10
        · have o0 : FloatKind.f64.format.order w3 0 = some .gt := ord_gt hb3 inf0 c1
          have o1 : FloatKind.f64.format.order w2 0 = some .gt := ord_gt hb2 inf0 c6
          have o2 : FloatKind.f64.format.order w2 w3 = some .lt := ord_lt hb2 hb3 c9
          have o3 : FloatKind.f64.format.order w1 0 = some .eq := ord_eq hb1 c10
          have hbst : bst w1 w2 w3 = 3 := by unfold bst; repeat' (first | rfl | omega | split)
          have HB := Lib.hid hbst
          clear hbst hb1 hb2 hb3 c1 c6 c9 c10
          go_enter Try.func50, Try.ntmps50
          go_wp2_with fail
          refine (H1.out _).mono ?_; rintro e wa ⟨rfl, k⟩
          have kk := ((Kept.refl [] w).alloc _).trans k
          clear k H1
          go_wp2_with fail
          refine wp_loop_rounds 4 ?_
          rw [rounds_succ]
          go_wp2_with fail
          first | go_region | fail
          go_wp2_with fail
          rw [rounds_succ]
          go_wp2_with fail
          first | go_region | fail
          go_wp2_with fail
          rw [rounds_succ]
          go_wp2_with fail
          first | go_region | fail
          go_wp2_with fail
          rw [rounds_succ]
          go_wp2_with fail
          go_ret
          refine strongSays HB.out rfl ?_
          repeat' first | exact kk | refine Kept.alloc ?_ _ | refine Kept.drew ?_
        · rcases Nat.lt_trichotomy w1 w3 with c11 | c11 | c11
          · have o0 : FloatKind.f64.format.order w3 0 = some .gt := ord_gt hb3 inf0 c1
            have o1 : FloatKind.f64.format.order w2 0 = some .gt := ord_gt hb2 inf0 c6
            have o2 : FloatKind.f64.format.order w2 w3 = some .lt := ord_lt hb2 hb3 c9
            have o3 : FloatKind.f64.format.order w1 0 = some .gt := ord_gt hb1 inf0 c10
            have o4 : FloatKind.f64.format.order w1 w3 = some .lt := ord_lt hb1 hb3 c11
            have hbst : bst w1 w2 w3 = 3 := by unfold bst; repeat' (first | rfl | omega | split)
            have HB := Lib.hid hbst
            clear hbst hb1 hb2 hb3 c1 c6 c9 c10 c11
            go_enter Try.func50, Try.ntmps50
            go_wp2_with fail
            refine (H1.out _).mono ?_; rintro e wa ⟨rfl, k⟩
            have kk := ((Kept.refl [] w).alloc _).trans k
            clear k H1
            go_wp2_with fail
            refine wp_loop_rounds 4 ?_
            rw [rounds_succ]
            go_wp2_with fail
            first | go_region | fail
            go_wp2_with fail
            rw [rounds_succ]
            go_wp2_with fail
            first | go_region | fail
            go_wp2_with fail
            rw [rounds_succ]
            go_wp2_with fail
            first | go_region | fail
            go_wp2_with fail
            rw [rounds_succ]
            go_wp2_with fail
            go_ret
            refine strongSays HB.out rfl ?_
            repeat' first | exact kk | refine Kept.alloc ?_ _ | refine Kept.drew ?_
          · have o0 : FloatKind.f64.format.order w3 0 = some .gt := ord_gt hb3 inf0 c1
            have o1 : FloatKind.f64.format.order w2 0 = some .gt := ord_gt hb2 inf0 c6
            have o2 : FloatKind.f64.format.order w2 w3 = some .lt := ord_lt hb2 hb3 c9
            have o3 : FloatKind.f64.format.order w1 0 = some .gt := ord_gt hb1 inf0 c10
            have o4 : FloatKind.f64.format.order w1 w3 = some .eq := ord_eq hb1 c11
            have hbst : bst w1 w2 w3 = 1 := by unfold bst; repeat' (first | rfl | omega | split)
            have HB := Lib.hid hbst
            clear hbst hb1 hb2 hb3 c1 c6 c9 c10 c11
            go_enter Try.func50, Try.ntmps50
            go_wp2_with fail
            refine (H1.out _).mono ?_; rintro e wa ⟨rfl, k⟩
            have kk := ((Kept.refl [] w).alloc _).trans k
            clear k H1
            go_wp2_with fail
            refine wp_loop_rounds 4 ?_
            rw [rounds_succ]
            go_wp2_with fail
            first | go_region | fail
            go_wp2_with fail
            rw [rounds_succ]
            go_wp2_with fail
            first | go_region | fail
            go_wp2_with fail
            rw [rounds_succ]
            go_wp2_with fail
            first | go_region | fail
            go_wp2_with fail
            rw [rounds_succ]
            go_wp2_with fail
            go_ret
            refine strongSays HB.out rfl ?_
            repeat' first | exact kk | refine Kept.alloc ?_ _ | refine Kept.drew ?_
          · have o0 : FloatKind.f64.format.order w3 0 = some .gt := ord_gt hb3 inf0 c1
            have o1 : FloatKind.f64.format.order w2 0 = some .gt := ord_gt hb2 inf0 c6
            have o2 : FloatKind.f64.format.order w2 w3 = some .lt := ord_lt hb2 hb3 c9
            have o3 : FloatKind.f64.format.order w1 0 = some .gt := ord_gt hb1 inf0 c10
            have o4 : FloatKind.f64.format.order w1 w3 = some .gt := ord_gt hb1 hb3 c11
            have hbst : bst w1 w2 w3 = 1 := by unfold bst; repeat' (first | rfl | omega | split)
            have HB := Lib.hid hbst
            clear hbst hb1 hb2 hb3 c1 c6 c9 c10 c11
            go_enter Try.func50, Try.ntmps50
            go_wp2_with fail
            refine (H1.out _).mono ?_; rintro e wa ⟨rfl, k⟩
            have kk := ((Kept.refl [] w).alloc _).trans k
            clear k H1
            go_wp2_with fail
            refine wp_loop_rounds 4 ?_
            rw [rounds_succ]
            go_wp2_with fail
            first | go_region | fail
            go_wp2_with fail
            rw [rounds_succ]
            go_wp2_with fail
            first | go_region | fail
            go_wp2_with fail
            rw [rounds_succ]
            go_wp2_with fail
            first | go_region | fail
            go_wp2_with fail
            rw [rounds_succ]
            go_wp2_with fail
            go_ret
            refine strongSays HB.out rfl ?_
            repeat' first | exact kk | refine Kept.alloc ?_ _ | refine Kept.drew ?_
      · rcases Nat.eq_zero_or_pos w1 with c12 | c12
        · have o0 : FloatKind.f64.format.order w3 0 = some .gt := ord_gt hb3 inf0 c1
          have o1 : FloatKind.f64.format.order w2 0 = some .gt := ord_gt hb2 inf0 c6
          have o2 : FloatKind.f64.format.order w2 w3 = some .eq := ord_eq hb2 c9
          have o3 : FloatKind.f64.format.order w1 0 = some .eq := ord_eq hb1 c12
          have hbst : bst w1 w2 w3 = 2 := by unfold bst; repeat' (first | rfl | omega | split)
          have HB := Lib.hid hbst
          clear hbst hb1 hb2 hb3 c1 c6 c9 c12
          go_enter Try.func50, Try.ntmps50
          go_wp2_with fail
          refine (H1.out _).mono ?_; rintro e wa ⟨rfl, k⟩
          have kk := ((Kept.refl [] w).alloc _).trans k
          clear k H1
          go_wp2_with fail
          refine wp_loop_rounds 4 ?_
          rw [rounds_succ]
          go_wp2_with fail
          first | go_region | fail
          go_wp2_with fail
          rw [rounds_succ]
          go_wp2_with fail
          first | go_region | fail
          go_wp2_with fail
          rw [rounds_succ]
          go_wp2_with fail
          first | go_region | fail
          go_wp2_with fail
          rw [rounds_succ]
          go_wp2_with fail
          go_ret
          refine strongSays HB.out rfl ?_
          repeat' first | exact kk | refine Kept.alloc ?_ _ | refine Kept.drew ?_
        · rcases Nat.lt_trichotomy w1 w2 with c13 | c13 | c13
          · have o0 : FloatKind.f64.format.order w3 0 = some .gt := ord_gt hb3 inf0 c1
            have o1 : FloatKind.f64.format.order w2 0 = some .gt := ord_gt hb2 inf0 c6
            have o2 : FloatKind.f64.format.order w2 w3 = some .eq := ord_eq hb2 c9
            have o3 : FloatKind.f64.format.order w1 0 = some .gt := ord_gt hb1 inf0 c12
            have o4 : FloatKind.f64.format.order w1 w2 = some .lt := ord_lt hb1 hb2 c13
            have hbst : bst w1 w2 w3 = 2 := by unfold bst; repeat' (first | rfl | omega | split)
            have HB := Lib.hid hbst
            clear hbst hb1 hb2 hb3 c1 c6 c9 c12 c13
            go_enter Try.func50, Try.ntmps50
            go_wp2_with fail
            refine (H1.out _).mono ?_; rintro e wa ⟨rfl, k⟩
            have kk := ((Kept.refl [] w).alloc _).trans k
            clear k H1
            go_wp2_with fail
            refine wp_loop_rounds 4 ?_
            rw [rounds_succ]
            go_wp2_with fail
            first | go_region | fail
            go_wp2_with fail
            rw [rounds_succ]
            go_wp2_with fail
            first | go_region | fail
            go_wp2_with fail
            rw [rounds_succ]
            go_wp2_with fail
            first | go_region | fail
            go_wp2_with fail
            rw [rounds_succ]
            go_wp2_with fail
            go_ret
            refine strongSays HB.out rfl ?_
            repeat' first | exact kk | refine Kept.alloc ?_ _ | refine Kept.drew ?_
          · have o0 : FloatKind.f64.format.order w3 0 = some .gt := ord_gt hb3 inf0 c1
            have o1 : FloatKind.f64.format.order w2 0 = some .gt := ord_gt hb2 inf0 c6
            have o2 : FloatKind.f64.format.order w2 w3 = some .eq := ord_eq hb2 c9
            have o3 : FloatKind.f64.format.order w1 0 = some .gt := ord_gt hb1 inf0 c12
            have o4 : FloatKind.f64.format.order w1 w2 = some .eq := ord_eq hb1 c13
            have hbst : bst w1 w2 w3 = 1 := by unfold bst; repeat' (first | rfl | omega | split)
            have HB := Lib.hid hbst
            clear hbst hb1 hb2 hb3 c1 c6 c9 c12 c13
            go_enter Try.func50, Try.ntmps50
            go_wp2_with fail
            refine (H1.out _).mono ?_; rintro e wa ⟨rfl, k⟩
            have kk := ((Kept.refl [] w).alloc _).trans k
            clear k H1
            go_wp2_with fail
            refine wp_loop_rounds 4 ?_
            rw [rounds_succ]
            go_wp2_with fail
            first | go_region | fail
            go_wp2_with fail
            rw [rounds_succ]
            go_wp2_with fail
            first | go_region | fail
            go_wp2_with fail
            rw [rounds_succ]
            go_wp2_with fail
            first | go_region | fail
            go_wp2_with fail
            rw [rounds_succ]
            go_wp2_with fail
            go_ret
            refine strongSays HB.out rfl ?_
            repeat' first | exact kk | refine Kept.alloc ?_ _ | refine Kept.drew ?_
          · have o0 : FloatKind.f64.format.order w3 0 = some .gt := ord_gt hb3 inf0 c1
            have o1 : FloatKind.f64.format.order w2 0 = some .gt := ord_gt hb2 inf0 c6
            have o2 : FloatKind.f64.format.order w2 w3 = some .eq := ord_eq hb2 c9
            have o3 : FloatKind.f64.format.order w1 0 = some .gt := ord_gt hb1 inf0 c12
            have o4 : FloatKind.f64.format.order w1 w2 = some .gt := ord_gt hb1 hb2 c13
            have hbst : bst w1 w2 w3 = 1 := by unfold bst; repeat' (first | rfl | omega | split)
            have HB := Lib.hid hbst
            clear hbst hb1 hb2 hb3 c1 c6 c9 c12 c13
            go_enter Try.func50, Try.ntmps50
            go_wp2_with fail
            refine (H1.out _).mono ?_; rintro e wa ⟨rfl, k⟩
            have kk := ((Kept.refl [] w).alloc _).trans k
            clear k H1
            go_wp2_with fail
            refine wp_loop_rounds 4 ?_
            rw [rounds_succ]
            go_wp2_with fail
            first | go_region | fail
            go_wp2_with fail
            rw [rounds_succ]
            go_wp2_with fail
            first | go_region | fail
            go_wp2_with fail
            rw [rounds_succ]
            go_wp2_with fail
            first | go_region | fail
            go_wp2_with fail
            rw [rounds_succ]
            go_wp2_with fail
            go_ret
            refine strongSays HB.out rfl ?_
            repeat' first | exact kk | refine Kept.alloc ?_ _ | refine Kept.drew ?_
      · rcases Nat.eq_zero_or_pos w1 with c14 | c14
        · have o0 : FloatKind.f64.format.order w3 0 = some .gt := ord_gt hb3 inf0 c1
          have o1 : FloatKind.f64.format.order w2 0 = some .gt := ord_gt hb2 inf0 c6
          have o2 : FloatKind.f64.format.order w2 w3 = some .gt := ord_gt hb2 hb3 c9
          have o3 : FloatKind.f64.format.order w1 0 = some .eq := ord_eq hb1 c14
          have hbst : bst w1 w2 w3 = 2 := by unfold bst; repeat' (first | rfl | omega | split)
          have HB := Lib.hid hbst
          clear hbst hb1 hb2 hb3 c1 c6 c9 c14
          go_enter Try.func50, Try.ntmps50
          go_wp2_with fail
          refine (H1.out _).mono ?_; rintro e wa ⟨rfl, k⟩
          have kk := ((Kept.refl [] w).alloc _).trans k
          clear k H1
          go_wp2_with fail
          refine wp_loop_rounds 4 ?_
          rw [rounds_succ]
          go_wp2_with fail
          first | go_region | fail
          go_wp2_with fail
          rw [rounds_succ]
          go_wp2_with fail
          first | go_region | fail
          go_wp2_with fail
          rw [rounds_succ]
          go_wp2_with fail
          first | go_region | fail
          go_wp2_with fail
          rw [rounds_succ]
          go_wp2_with fail
          go_ret
          refine strongSays HB.out rfl ?_
          repeat' first | exact kk | refine Kept.alloc ?_ _ | refine Kept.drew ?_
        · rcases Nat.lt_trichotomy w1 w2 with c15 | c15 | c15
          · have o0 : FloatKind.f64.format.order w3 0 = some .gt := ord_gt hb3 inf0 c1
            have o1 : FloatKind.f64.format.order w2 0 = some .gt := ord_gt hb2 inf0 c6
            have o2 : FloatKind.f64.format.order w2 w3 = some .gt := ord_gt hb2 hb3 c9
            have o3 : FloatKind.f64.format.order w1 0 = some .gt := ord_gt hb1 inf0 c14
            have o4 : FloatKind.f64.format.order w1 w2 = some .lt := ord_lt hb1 hb2 c15
            have hbst : bst w1 w2 w3 = 2 := by unfold bst; repeat' (first | rfl | omega | split)
            have HB := Lib.hid hbst
            clear hbst hb1 hb2 hb3 c1 c6 c9 c14 c15
            go_enter Try.func50, Try.ntmps50
            go_wp2_with fail
            refine (H1.out _).mono ?_; rintro e wa ⟨rfl, k⟩
            have kk := ((Kept.refl [] w).alloc _).trans k
            clear k H1
            go_wp2_with fail
            refine wp_loop_rounds 4 ?_
            rw [rounds_succ]
            go_wp2_with fail
            first | go_region | fail
            go_wp2_with fail
            rw [rounds_succ]
            go_wp2_with fail
            first | go_region | fail
            go_wp2_with fail
            rw [rounds_succ]
            go_wp2_with fail
            first | go_region | fail
            go_wp2_with fail
            rw [rounds_succ]
            go_wp2_with fail
            go_ret
            refine strongSays HB.out rfl ?_
            repeat' first | exact kk | refine Kept.alloc ?_ _ | refine Kept.drew ?_
          · have o0 : FloatKind.f64.format.order w3 0 = some .gt := ord_gt hb3 inf0 c1
            have o1 : FloatKind.f64.format.order w2 0 = some .gt := ord_gt hb2 inf0 c6
            have o2 : FloatKind.f64.format.order w2 w3 = some .gt := ord_gt hb2 hb3 c9
            have o3 : FloatKind.f64.format.order w1 0 = some .gt := ord_gt hb1 inf0 c14
            have o4 : FloatKind.f64.format.order w1 w2 = some .eq := ord_eq hb1 c15
            have hbst : bst w1 w2 w3 = 1 := by unfold bst; repeat' (first | rfl | omega | split)
            have HB := Lib.hid hbst
            clear hbst hb1 hb2 hb3 c1 c6 c9 c14 c15
            go_enter Try.func50, Try.ntmps50
            go_wp2_with fail
            refine (H1.out _).mono ?_; rintro e wa ⟨rfl, k⟩
            have kk := ((Kept.refl [] w).alloc _).trans k
            clear k H1
            go_wp2_with fail
            refine wp_loop_rounds 4 ?_
            rw [rounds_succ]
            go_wp2_with fail
            first | go_region | fail
            go_wp2_with fail
            rw [rounds_succ]
            go_wp2_with fail
            first | go_region | fail
            go_wp2_with fail
            rw [rounds_succ]
            go_wp2_with fail
            first | go_region | fail
            go_wp2_with fail
            rw [rounds_succ]
            go_wp2_with fail
            go_ret
            refine strongSays HB.out rfl ?_
            repeat' first | exact kk | refine Kept.alloc ?_ _ | refine Kept.drew ?_
          · have o0 : FloatKind.f64.format.order w3 0 = some .gt := ord_gt hb3 inf0 c1
            have o1 : FloatKind.f64.format.order w2 0 = some .gt := ord_gt hb2 inf0 c6
            have o2 : FloatKind.f64.format.order w2 w3 = some .gt := ord_gt hb2 hb3 c9
            have o3 : FloatKind.f64.format.order w1 0 = some .gt := ord_gt hb1 inf0 c14
            have o4 : FloatKind.f64.format.order w1 w2 = some .gt := ord_gt hb1 hb2 c15
            have hbst : bst w1 w2 w3 = 1 := by unfold bst; repeat' (first | rfl | omega | split)
            have HB := Lib.hid hbst
            clear hbst hb1 hb2 hb3 c1 c6 c9 c14 c15
            go_enter Try.func50, Try.ntmps50
            go_wp2_with fail
            refine (H1.out _).mono ?_; rintro e wa ⟨rfl, k⟩
            have kk := ((Kept.refl [] w).alloc _).trans k
            clear k H1
            go_wp2_with fail
            refine wp_loop_rounds 4 ?_
            rw [rounds_succ]
            go_wp2_with fail
            first | go_region | fail
            go_wp2_with fail
            rw [rounds_succ]
            go_wp2_with fail
            first | go_region | fail
            go_wp2_with fail
            rw [rounds_succ]
            go_wp2_with fail
            first | go_region | fail
            go_wp2_with fail
            rw [rounds_succ]
            go_wp2_with fail
            go_ret
            refine strongSays HB.out rfl ?_
            repeat' first | exact kk | refine Kept.alloc ?_ _ | refine Kept.drew ?_

theorem pstrong (p : P4) (w : World) (hp : p.lt) :
    Calls Try.prog 48 #[p.v] w (StrongSays (powP p).w1 (powP p).w2 (powP p).w3 w) := by
  obtain ⟨h0, h1, h2, h3⟩ := powP_bd hp
  have H : Hid (∀ w, Calls Try.prog 47 #[p.v] w fun e w' => e = .returned (powP p).v ∧ Kept [] w w') := fun w => ppower p w hp
  exact pstrong_gen _ _ _ _ _ _ _ _ (powP p).w0 _ _ _ H h1 h2 h3 w
theorem rstrong (z : Z4) (w : World) (hb : z.Bd) :
    Calls Try.prog 50 #[.agg z.cells] w (StrongSays z.pow.w1 z.pow.w2 z.pow.w3 w) := by
  obtain ⟨h0, h1, h2, h3⟩ := Z4.pow_bd hb
  have H : Hid (∀ w, Calls Try.prog 49 #[.agg z.cells] w fun e w' => e = .returned z.pow.v ∧ Kept [] w w') := fun w => rpower z w hb
  exact rstrong_gen _ _ _ _ _ _ _ _ z.pow.w0 _ _ _ H h1 h2 h3 w
end Go.Proofs.Ytkghkkfcgegmeaa
