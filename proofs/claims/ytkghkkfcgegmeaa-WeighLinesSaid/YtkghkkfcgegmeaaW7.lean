/- For any two numbers and any count: numbers turned, and joined: the walk of WeighTurns. No condition. -/
import Derived.Test.YtkghkkfcgegmeaaW6
namespace Go.Proofs.Ytkghkkfcgegmeaa
open Go.RowKit Fl
set_option linter.unusedVariables false
set_option linter.unusedSimpArgs false

set_option maxRecDepth 100000 in
theorem rjoin_any (y z : Int × Int) (n : Int) (w : World) (hy : Bd (2 ^ 53) y) (hz : Bd (2 ^ 53) z) :
    Calls Try.prog 24 #[.agg #[.int .i64 y.1, .int .i64 y.2], .int .i64 n, .agg #[.int .i64 z.1, .int .i64 z.2]] w fun e w' => e = .returned (.agg #[.int .i64 (join y n z).1, .int .i64 (join y n z).2]) ∧ Below w.heap.size w w' := by
  have ht := fun w => rturn_any z n w hz
  obtain ⟨r1, r2⟩ := rot_bd hz (quarter n)
  obtain ⟨y1, y2⟩ := hy
  have hj : join y n z = (y.1 + (rot (quarter n) z).1, y.2 + (rot (quarter n) z).2) := rfl
  rw [hj]
  generalize rot (quarter n) z = u at *
  clear hj
  obtain ⟨o0, o1, o2⟩ := own_three w #[.int .i64 y.1, .int .i64 y.2] #[.int .i64 z.1, .int .i64 z.2] #[.int .i64 0, .int .i64 0] 31 31 31
  go_enter Try.func24, Try.ntmps24
  go_wp2_with fail
  refine (ht _).mono ?_; rintro e w1 ⟨rfl, hb⟩
  have p0 := o0.past hb
  have p2 := o2.past hb
  have c0 : w1.cell? ⟨w.heap.size, 0, none⟩ = some (.int .i64 y.1) := p0.cell 0 (by simp)
  have c1 : w1.cell? ⟨w.heap.size, 1, none⟩ = some (.int .i64 y.2) := p0.cell 1 (by simp)
  have d0 : w1.cell? ⟨w.heap.size + 2, 0, none⟩ = some (.int .i64 0) := p2.cell 0 (by simp)
  have d1 : w1.cell? ⟨w.heap.size + 2, 1, none⟩ = some (.int .i64 0) := p2.cell 1 (by simp)
  have f0 := p2.free 0
  have f1 := p2.free 1
  have hs : w.heap.size + 2 < w1.heap.size := p2.lt
  have hs0 : w.heap.size < w1.heap.size := p0.lt
  have hbb : Below w.heap.size w w1 := Below.call ((((Below.refl _ _).alloc (Nat.le_refl _) _).alloc (by simp) _).alloc (by simp; omega) _) hb (by simp; omega)
  clear p0 p2 o0 o1 o2 hb
  go_wp2_with fail
  have d0' : w1.cell? ⟨w.heap.size + 1 + 1, 0, none⟩ = some (.int .i64 0) := d0
  have d1' : w1.cell? ⟨w.heap.size + 1 + 1, 1, none⟩ = some (.int .i64 0) := d1
  have hs' : w.heap.size + 1 + 1 < w1.heap.size := hs
  refine bodyPost_ret (v := .agg #[.int .i64 (y.1 + u.1), .int .i64 (y.2 + u.2)]) (by simp [results, Try.results24, go_sem, d0', d1', hs']) rfl ⟨rfl, ((hbb.setCell (by simp; omega) _).setCell (by simp; omega) _).alloc (by simp; omega) _⟩

theorem eqF0' (a : Int) (ha : a.natAbs < 2 ^ 60) : (FloatKind.f64.format.order (F a) 0 == some .eq) = decide (a = 0) := by
  by_cases h : a = 0
  · subst h; rw [F0]; decide +kernel
  · obtain ⟨_, s, m, i, e1, e2, _, _⟩ := F_finite a ha
    have := order_zero e1 (e2 h)
    rw [F0] at this
    show (Ieee.double.order (F a) 0 == some .eq) = _
    rw [this]; simp [h]
theorem eqFF (a : Int) (ha : a.natAbs < 2 ^ 60) : (FloatKind.f64.format.order (F a) (F a) == some .eq) = true := by
  obtain ⟨_, s, m, i, e1, _, _, _⟩ := F_finite a ha
  exact order_self e1

set_option maxRecDepth 100000 in
theorem lplain_big (a b : Int) (w : World) (ha : a.natAbs < 2 ^ 60) (hb : b.natAbs < 2 ^ 60) :
    Calls Try.prog 19 #[.complex .f64 (F a) (F b)] w fun e w' => e = .returned (.bool true) ∧ w = w' := by
  have hs : ∀ w, Calls Try.prog 60 #[.float .f64 0] w fun e w' => e = .returned (.bool false) ∧ w = w' := fun w => by have h := signbit_any 0 w; rwa [show decide (wrap64 ((0 : Nat) : Int) < 0) = false from by simp [wrap64]] at h
  have e1 := eqF0' a ha
  have e2 := eqF0' b hb
  have key : ∀ x y : Nat, ((FloatKind.f64.format.order x 0 == some .eq) = true ∧ x = 0 ∨ (FloatKind.f64.format.order x 0 == some .eq) = false) → ((FloatKind.f64.format.order y 0 == some .eq) = true ∧ y = 0 ∨ (FloatKind.f64.format.order y 0 == some .eq) = false) →
      Calls Try.prog 19 #[.complex .f64 x y] w fun e w' => e = .returned (.bool true) ∧ w = w' := by
    intro x y h1 h2
    rcases h1 with ⟨h1, rfl⟩ | h1 <;> rcases h2 with ⟨h2, rfl⟩ | h2 <;> clear e1 e2 ha hb <;>
    · go_enter Try.func19, Try.ntmps19
      go_wp2_with (go_at_call 60; refine (hs _).mono ?_; rintro e w' ⟨rfl, rfl⟩)
      go_ret
      exact ⟨rfl, rfl⟩
  refine key (F a) (F b) ?_ ?_
  · by_cases h : a = 0
    · subst h; exact Or.inl ⟨by rw [e1]; rfl, F0⟩
    · exact Or.inr (by rw [e1]; simp [h])
  · by_cases h : b = 0
    · subst h; exact Or.inl ⟨by rw [e2]; rfl, F0⟩
    · exact Or.inr (by rw [e2]; simp [h])

/-- Join of any two weights, its sum rounded. -/
theorem join_any (a b c d : Nat) (y z : Int × Int) (n : Int) (w : World) (hn : (Lit.int .i64 n).wf = true) (h : CW a b y) (hy : Bd (2 ^ 53) y) (k : CW c d z) (hz : Bd (2 ^ 53) z) :
    Calls Try.prog 20 #[.complex .f64 a b, .int .i64 n, .complex .f64 c d] w fun e w' => e = .returned (.complex .f64 (F (join y n z).1) (F (join y n z).2)) ∧ w = w' := by
  have hr := rot_bd hz (quarter n)
  have hf := CW_F hr
  obtain ⟨p, e1, f1⟩ := add_plain h.1 hf.1 hy.1 hr.1
  obtain ⟨q, e2, f2⟩ := add_plain h.2 hf.2 hy.2 hr.2
  rw [F0] at f1 f2
  exact join_bits a b c d y z n w hn h hy k hz p q _ _ (by simp [cSumBits, e1, e2]) f1 f2

theorem trW {a b : Nat} {z : Int × Int} (h : CW a b z) (hz : Bd (2 ^ 53) z) : tr a = z.1 ∧ tr b = z.2 ∧ wh53 a = true ∧ wh53 b = true := by
  have := may_true h hz
  simp only [mayB, Bool.and_eq_true] at this
  exact ⟨tr_FW h.1 hz.1, tr_FW h.2 hz.2, this.1, this.2⟩

theorem parts_W {a b : Nat} {z : Int × Int} (h : CW a b z) (hz : Bd (2 ^ 53) z) (w : World) :
    Calls Try.prog 21 #[.complex .f64 a b] w fun e w' => e = .returned (.tuple #[.agg #[.int .i64 z.1, .int .i64 z.2], .bool true]) ∧ Below w.heap.size w w' := by
  obtain ⟨h1, h2, h3, h4⟩ := trW h hz
  have := parts_yes a b w h3 h4
  rwa [h1, h2] at this

set_option maxRecDepth 100000 in
theorem turns_yy (a b c d : Nat) (y z : Int × Int) (n : Int) (w : World) (hn : (Lit.int .i64 n).wf = true) (h : CW a b y) (hy : Bd (2 ^ 53) y) (k : CW c d z) (hz : Bd (2 ^ 53) z) :
    Calls Try.prog 5 #[.agg #[.float .f64 a, .float .f64 b], .agg #[.float .f64 c, .float .f64 d], .int .i64 n] w fun e w' => e = .returned (.bool true) ∧ Below w.heap.size w w' := by
  have p1 := fun w => parts_W h hy w
  have p2 := fun w => parts_W k hz w
  have t1 := fun w => turn_FW a b y n w hn h hy
  have j1 := fun w => join_any a b c d y z n w hn h hy k hz
  have hr := rot_bd hy (quarter n)
  have hr2 := rot_bd hz (quarter n)
  have l1 := fun w => lplain_big (rot (quarter n) y).1 (rot (quarter n) y).2 w (Nat.lt_of_le_of_lt hr.1 (by decide)) (Nat.lt_of_le_of_lt hr.2 (by decide))
  have hj1 : (join y n z).1.natAbs < 2 ^ 60 := by have := hy.1; have := hr2.1; simp only [join]; omega
  have hj2 : (join y n z).2.natAbs < 2 ^ 60 := by have := hy.2; have := hr2.2; simp only [join]; omega
  have l2 := fun w => lplain_big (join y n z).1 (join y n z).2 w hj1 hj2
  have rt := fun w => rturn_any y n w hy
  have rj := fun w => rjoin_any y z n w hy hz
  have n1 := fun w => num_any (rot (quarter n) y).1 (rot (quarter n) y).2 w
  have n2 := fun w => num_any (join y n z).1 (join y n z).2 w
  have q1 := eqFF (rot (quarter n) y).1 (Nat.lt_of_le_of_lt hr.1 (by decide))
  have q2 := eqFF (rot (quarter n) y).2 (Nat.lt_of_le_of_lt hr.2 (by decide))
  have q3 := eqFF _ hj1
  have q4 := eqFF _ hj2
  generalize rot (quarter n) y = u at *
  generalize join y n z = v at *
  clear hj1 hj2 hr hr2 h hy k hz hn
  go_enter Try.func5, Try.ntmps5
  go_wp2_with fail
  go_region
  go_wp2_with fail
  refine (p1 _).mono ?_; rintro e w1 ⟨rfl, hb1⟩
  have bel : Below w.heap.size w w1 := Below.call ((((Below.refl _ _).alloc (Nat.le_refl _) _).alloc (by simp) _).drew) hb1 (by simp; omega)
  clear hb1
  go_wp2_with fail
  refine (p2 _).mono ?_; rintro e w2 ⟨rfl, hb2⟩
  have oA := (Own.new w1 #[.int .i64 y.1, .int .i64 y.2] 31).past hb2
  have bel2 := Below.call (bel.alloc bel.size _) hb2 (by have := bel.size; simp; omega)
  have hs1 : w1.heap.size < w2.heap.size := oA.lt
  have ca0 : w2.cell? ⟨w1.heap.size, 0, none⟩ = some (.int .i64 y.1) := oA.cell 0 (by simp)
  have ca1 : w2.cell? ⟨w1.heap.size, 1, none⟩ = some (.int .i64 y.2) := oA.cell 1 (by simp)
  clear hb2 bel
  go_wp2_with fail
  refine (t1 _).mono ?_; rintro e w' ⟨rfl, rfl⟩
  go_wp2_with fail
  refine (j1 _).mono ?_; rintro e w' ⟨rfl, rfl⟩
  go_wp2_with fail
  refine (l1 _).mono ?_; rintro e w' ⟨rfl, rfl⟩
  go_wp2_with fail
  refine (l2 _).mono ?_; rintro e w' ⟨rfl, rfl⟩
  go_wp2_with fail
  refine (awake_any _).mono ?_; rintro e w' ⟨rfl, rfl⟩
  go_wp2_with fail
  refine (rt _).mono ?_; rintro e w3 ⟨rfl, hb3⟩
  go_wp2_with fail
  refine (n1 _).mono ?_; rintro e w4 ⟨rfl, hb4⟩
  have oA4 := ((oA.alloc _).past hb3).past hb4
  have oB4 := ((Own.new w2 #[.int .i64 z.1, .int .i64 z.2] 31).past hb3).past hb4
  have da0 : w4.cell? ⟨w1.heap.size, 0, none⟩ = some (.int .i64 y.1) := oA4.cell 0 (by simp)
  have da1 : w4.cell? ⟨w1.heap.size, 1, none⟩ = some (.int .i64 y.2) := oA4.cell 1 (by simp)
  have db0 : w4.cell? ⟨w2.heap.size, 0, none⟩ = some (.int .i64 z.1) := oB4.cell 0 (by simp)
  have db1 : w4.cell? ⟨w2.heap.size, 1, none⟩ = some (.int .i64 z.2) := oB4.cell 1 (by simp)
  have bel3 := Below.call (bel2.alloc bel2.size _) hb3 (by have := bel2.size; simp; omega)
  have bel4 := Below.call bel3 hb4 bel3.size
  clear hb3 hb4 bel3 bel2 oA4 oB4 oA ca0 ca1
  go_wp2_with fail
  refine (rj _).mono ?_; rintro e w5 ⟨rfl, hb5⟩
  go_wp2_with fail
  refine (n2 _).mono ?_; rintro e w6 ⟨rfl, hb6⟩
  have bel5 := Below.call bel4 hb5 bel4.size
  have bel6 := Below.call bel5 hb6 bel5.size
  clear hb5 hb6 bel5
  go_wp2_with fail
  go_ret
  exact ⟨rfl, bel6⟩

theorem n0_b : (FloatKind.f64.format.order 0 0 == some .eq) = true := by decide +kernel
theorem lplain_0 (w : World) : Calls Try.prog 19 #[.complex .f64 0 0] w fun e w' => e = .returned (.bool true) ∧ w = w' := by
  have := lplain_big 0 0 w (by decide) (by decide)
  rwa [F0] at this

set_option maxRecDepth 100000 in
theorem turns_yn (a b c d : Nat) (y : Int × Int) (n : Int) (w : World) (hn : (Lit.int .i64 n).wf = true) (h : CW a b y) (hy : Bd (2 ^ 53) y) (k : mayB c d = false) :
    Calls Try.prog 5 #[.agg #[.float .f64 a, .float .f64 b], .agg #[.float .f64 c, .float .f64 d], .int .i64 n] w fun e w' => e = .returned (.bool true) ∧ Below w.heap.size w w' := by
  have p1 := fun w => parts_W h hy w
  have p2 := fun w => parts_no c d w k
  have t1 := fun w => turn_FW a b y n w hn h hy
  have j1 := fun w => join_no a b c d n w (by rw [k]; simp)
  have hr := rot_bd hy (quarter n)
  have l1 := fun w => lplain_big (rot (quarter n) y).1 (rot (quarter n) y).2 w (Nat.lt_of_le_of_lt hr.1 (by decide)) (Nat.lt_of_le_of_lt hr.2 (by decide))
  have l2 := fun w => lplain_0 w
  have rt := fun w => rturn_any y n w hy
  have n1 := fun w => num_any (rot (quarter n) y).1 (rot (quarter n) y).2 w
  have q1 := eqFF (rot (quarter n) y).1 (Nat.lt_of_le_of_lt hr.1 (by decide))
  have q2 := eqFF (rot (quarter n) y).2 (Nat.lt_of_le_of_lt hr.2 (by decide))
  have q3 := n0_b
  generalize rot (quarter n) y = u at *
  clear hr h hy k hn
  go_enter Try.func5, Try.ntmps5
  go_wp2_with fail
  go_region
  go_wp2_with fail
  refine (p1 _).mono ?_; rintro e w1 ⟨rfl, hb1⟩
  have bel : Below w.heap.size w w1 := Below.call ((((Below.refl _ _).alloc (Nat.le_refl _) _).alloc (by simp) _).drew) hb1 (by simp; omega)
  clear hb1
  go_wp2_with fail
  refine (p2 _).mono ?_; rintro e w2 ⟨rfl, hb2⟩
  have oA := (Own.new w1 #[.int .i64 y.1, .int .i64 y.2] 31).past hb2
  have bel2 := Below.call (bel.alloc bel.size _) hb2 (by have := bel.size; simp; omega)
  have hs1 : w1.heap.size < w2.heap.size := oA.lt
  have ca0 : w2.cell? ⟨w1.heap.size, 0, none⟩ = some (.int .i64 y.1) := oA.cell 0 (by simp)
  have ca1 : w2.cell? ⟨w1.heap.size, 1, none⟩ = some (.int .i64 y.2) := oA.cell 1 (by simp)
  clear hb2 bel
  go_wp2_with fail
  refine (t1 _).mono ?_; rintro e w' ⟨rfl, rfl⟩
  go_wp2_with fail
  refine (j1 _).mono ?_; rintro e w' ⟨rfl, rfl⟩
  go_wp2_with fail
  refine (l1 _).mono ?_; rintro e w' ⟨rfl, rfl⟩
  go_wp2_with fail
  refine (l2 _).mono ?_; rintro e w' ⟨rfl, rfl⟩
  go_wp2_with fail
  refine (awake_any _).mono ?_; rintro e w' ⟨rfl, rfl⟩
  go_wp2_with fail
  refine (rt _).mono ?_; rintro e w3 ⟨rfl, hb3⟩
  go_wp2_with fail
  refine (n1 _).mono ?_; rintro e w4 ⟨rfl, hb4⟩
  have bel3 := Below.call (bel2.alloc bel2.size _) hb3 (by have := bel2.size; simp; omega)
  have bel4 := Below.call bel3 hb4 bel3.size
  clear hb3 hb4 bel3 bel2 oA ca0 ca1
  go_wp2_with fail
  go_ret
  exact ⟨rfl, bel4⟩

set_option maxRecDepth 100000 in
theorem turns_n (a b c d : Nat) (n : Int) (w : World) (h : mayB a b = false) (v : Value) (ok : Bool) (hp2 : ∀ w, Calls Try.prog 21 #[.complex .f64 c d] w fun e w' => (∃ p q : Int, e = .returned (.tuple #[.agg #[.int .i64 p, .int .i64 q], .bool ok])) ∧ Below w.heap.size w w') :
    Calls Try.prog 5 #[.agg #[.float .f64 a, .float .f64 b], .agg #[.float .f64 c, .float .f64 d], .int .i64 n] w fun e w' => e = .returned (.bool true) ∧ Below w.heap.size w w' := by
  have p1 := fun w => parts_no a b w h
  have t1 := fun w => turn_no a b n w h
  have j1 := fun w => join_no a b c d n w (by rw [h]; simp)
  have l2 := fun w => lplain_0 w
  have q3 := n0_b
  have HP := Lib.hid hp2
  clear h hp2
  go_enter Try.func5, Try.ntmps5
  go_wp2_with fail
  go_region
  go_wp2_with fail
  refine (p1 _).mono ?_; rintro e w1 ⟨rfl, hb1⟩
  have bel : Below w.heap.size w w1 := Below.call ((((Below.refl _ _).alloc (Nat.le_refl _) _).alloc (by simp) _).drew) hb1 (by simp; omega)
  clear hb1
  go_wp2_with fail
  refine (HP.out _).mono ?_; rintro e w2 ⟨⟨p, q, rfl⟩, hb2⟩
  have bel2 := Below.call (bel.alloc bel.size _) hb2 (by have := bel.size; simp; omega)
  clear hb2 bel
  go_wp2_with fail
  refine (t1 _).mono ?_; rintro e w' ⟨rfl, rfl⟩
  go_wp2_with fail
  refine (j1 _).mono ?_; rintro e w' ⟨rfl, rfl⟩
  go_wp2_with fail
  refine (l2 _).mono ?_; rintro e w' ⟨rfl, rfl⟩
  go_wp2_with fail
  refine (l2 _).mono ?_; rintro e w' ⟨rfl, rfl⟩
  go_wp2_with fail
  refine (awake_any _).mono ?_; rintro e w' ⟨rfl, rfl⟩
  go_wp2_with fail
  go_ret
  exact ⟨rfl, bel2.alloc bel2.size _⟩

theorem turns_walk (a b c d : Nat) (n : Int) (w : World) (ha : (Lit.float .f64 a).wf = true) (hb : (Lit.float .f64 b).wf = true) (hc : (Lit.float .f64 c).wf = true) (hd : (Lit.float .f64 d).wf = true) (hn : (Lit.int .i64 n).wf = true) :
    Calls Try.prog 5 #[.agg #[.float .f64 a, .float .f64 b], .agg #[.float .f64 c, .float .f64 d], .int .i64 n] w fun e w' => e = .returned (.bool true) ∧ Below w.heap.size w w' := by
  have lt : ∀ x, (Lit.float .f64 x).wf = true → x < 2 ^ 64 := fun x hx => by simpa [Lit.wf] using hx
  cases h1 : mayB a b
  · cases h2 : mayB c d
    · exact turns_n a b c d n w h1 (.bool true) false (fun w => (parts_no c d w h2).mono fun _ _ ⟨he, hb⟩ => ⟨⟨_, _, he⟩, hb⟩)
    · obtain ⟨z, k, hz⟩ := may_of (lt c hc) (lt d hd) h2
      exact turns_n a b c d n w h1 (.bool true) true (fun w => (parts_W k hz w).mono fun _ _ ⟨he, hb⟩ => ⟨⟨_, _, he⟩, hb⟩)
  · obtain ⟨y, h, hy⟩ := may_of (lt a ha) (lt b hb) h1
    cases h2 : mayB c d
    · exact turns_yn a b c d y n w hn h hy h2
    · obtain ⟨z, k, hz⟩ := may_of (lt c hc) (lt d hd) h2
      exact turns_yy a b c d y z n w hn h hy k hz
end Go.Proofs.Ytkghkkfcgegmeaa
