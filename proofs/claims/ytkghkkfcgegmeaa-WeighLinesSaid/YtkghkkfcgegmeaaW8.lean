/- For any number and any two parts: which numbers are weights, with which parts; the weight of any parts: the walk of WeighParts. No condition. -/
import Derived.Test.YtkghkkfcgegmeaaW7
namespace Go.Proofs.Ytkghkkfcgegmeaa
open Go.RowKit Fl
set_option linter.unusedVariables false
set_option linter.unusedSimpArgs false

set_option maxRecDepth 100000 in
theorem wparts_no (a b : Nat) (w : World) (h : mayB a b = false) :
    Calls Try.prog 33 #[.complex .f64 a b] w fun e w' => e = .returned (.tuple #[.int .i64 0, .int .i64 0, .int .i64 1]) ∧ w = w' := by
  have hm : ∀ w, Calls Try.prog 61 #[.complex .f64 a b] w fun e w' => e = .returned (.bool false) ∧ w = w' := fun w => by rw [← h]; exact may_any a b w
  clear h
  go_enter Try.func33, Try.ntmps33
  go_wp2_with (go_at_call 61; refine (hm _).mono ?_; rintro e w' ⟨rfl, rfl⟩)
  go_ret3
  exact ⟨rfl, rfl⟩

theorem conv_FW {x : Nat} {n : Int} (h : FW x n) (hn : n.natAbs ≤ 2 ^ 53) (w : World) : (convert 36 3 (.float .f64 x)).run Try.prog w = .ok (.int .i64 n) w := by
  refine run_convert_float_int w _ _ .f64 .i64 x n (by rw [Try.underlying36]; rfl) Try.underlying3 ?_
  unfold floatToIntVal
  rw [toInt_FW h hn]
  have e1 : IntKind.i64.min = -9223372036854775808 := by decide
  have e2 : IntKind.i64.max = 9223372036854775807 := by decide
  simp only [e1, e2]
  rw [if_pos (by omega)]

set_option maxRecDepth 100000 in
theorem wparts_W (a b : Nat) (z : Int × Int) (w : World) (h : CW a b z) (hz : Bd (2 ^ 53) z) :
    Calls Try.prog 33 #[.complex .f64 a b] w fun e w' => e = .returned (.tuple #[.int .i64 z.1, .int .i64 z.2, .int .i64 0]) ∧ w = w' := by
  have hm : ∀ w, Calls Try.prog 61 #[.complex .f64 a b] w fun e w' => e = .returned (.bool true) ∧ w = w' := fun w => by rw [← may_true h hz]; exact may_any a b w
  have c1 := conv_FW h.1 hz.1
  have c2 := conv_FW h.2 hz.2
  clear h hz
  go_enter Try.func33, Try.ntmps33
  go_wp2_with (go_at_call 61; refine (hm _).mono ?_; rintro e w' ⟨rfl, rfl⟩)
  go_ret3
  exact ⟨rfl, rfl⟩

/-- are the parts in range? -/
def InR (p q : Int) : Prop := (-9007199254740992 ≤ p ∧ p ≤ 9007199254740992) ∧ (-9007199254740992 ≤ q ∧ q ≤ 9007199254740992)

set_option maxRecDepth 100000 in
theorem wmake_yes (p q : Int) (w : World) (h : InR p q) :
    Calls Try.prog 34 #[.int .i64 p, .int .i64 q] w fun e w' => e = .returned (.tuple #[.complex .f64 (F p) (F q), .int .i64 0]) ∧ w = w' := by
  obtain ⟨⟨h1, h2⟩, h3, h4⟩ := h
  have m1 : max p q ≤ 9007199254740992 := by omega
  have m2 : -9007199254740992 ≤ min p q := by omega
  go_enter Try.func34, Try.ntmps34
  go_wp2
  go_ret2
  exact ⟨rfl, rfl⟩

set_option maxRecDepth 100000 in
theorem wmake_no (p q : Int) (w : World) (h : ¬ InR p q) :
    Calls Try.prog 34 #[.int .i64 p, .int .i64 q] w fun e w' => e = .returned (.tuple #[.complex .f64 0 0, .int .i64 5]) ∧ w = w' := by
  by_cases m1 : (9007199254740992 : Int) < max p q
  · clear h
    go_enter Try.func34, Try.ntmps34
    go_wp2
    go_ret2
    exact ⟨rfl, rfl⟩
  · have m2 : min p q < -9007199254740992 := by unfold InR at h; omega
    have m3 : max p q ≤ 9007199254740992 := by omega
    clear h m1
    go_enter Try.func34, Try.ntmps34
    go_wp2
    go_ret2
    exact ⟨rfl, rfl⟩

set_option maxRecDepth 100000 in
theorem rmay_yes (p q : Int) (w : World) (h : InR p q) :
    Calls Try.prog 35 #[.agg #[.int .i64 p, .int .i64 q]] w fun e w' => e = .returned (.bool true) ∧ Below w.heap.size w w' := by
  obtain ⟨⟨h1, h2⟩, h3, h4⟩ := h
  go_enter Try.func35, Try.ntmps35
  go_wp2
  go_ret
  exact ⟨by simp [h1, h2, h3, h4], (Below.refl _ _).alloc (Nat.le_refl _) _⟩

set_option maxRecDepth 100000 in
theorem rmay_no (p q : Int) (w : World) (h : ¬ InR p q) :
    Calls Try.prog 35 #[.agg #[.int .i64 p, .int .i64 q]] w fun e w' => e = .returned (.bool false) ∧ Below w.heap.size w w' := by
  have hb : (decide (-9007199254740992 ≤ p) && decide (p ≤ 9007199254740992) && decide (-9007199254740992 ≤ q) && decide (q ≤ 9007199254740992)) = false := by
    rw [Bool.eq_false_iff]; intro hh; simp at hh; exact h ⟨hh.1.1, hh.1.2, hh.2⟩
  clear h
  cases e1 : decide (-9007199254740992 ≤ p) <;> cases e2 : decide (p ≤ 9007199254740992) <;> cases e3 : decide (-9007199254740992 ≤ q) <;> cases e4 : decide (q ≤ 9007199254740992) <;> simp [e1, e2, e3, e4] at hb <;>
  · go_enter Try.func35, Try.ntmps35
    go_wp2
    go_ret
    exact ⟨rfl, (Below.refl _ _).alloc (Nat.le_refl _) _⟩

set_option maxRecDepth 100000 in
theorem wp_yy (a b : Nat) (z : Int × Int) (p q : Int) (w : World) (h : CW a b z) (hz : Bd (2 ^ 53) z) (hr : InR p q) :
    Calls Try.prog 7 #[.agg #[.float .f64 a, .float .f64 b], .int .i64 p, .int .i64 q] w fun e w' => e = .returned (.bool true) ∧ Below w.heap.size w w' := by
  have p1 := fun w => wparts_W a b z w h hz
  have p2 := fun w => parts_W h hz w
  have m1 := fun w => wmake_yes p q w hr
  have y1 := fun w => rmay_yes p q w hr
  have hr' : Bd (2 ^ 53) (p, q) := by unfold InR at hr; unfold Bd; simp; omega
  have g1 := fun w => wparts_W (F p) (F q) (p, q) w (CW_F hr') hr'
  have l1 := fun w => lplain_F p q w hr'.1 hr'.2
  have e1 : ((p : Int) == p) = true := by simp
  have e2 : ((q : Int) == q) = true := by simp
  clear hr hr' h hz
  go_enter Try.func7, Try.ntmps7
  go_wp2_with fail
  refine (p1 _).mono ?_; rintro e w' ⟨rfl, rfl⟩
  go_wp2_with fail
  refine (p2 _).mono ?_; rintro e w1 ⟨rfl, hb1⟩
  have bel : Below w.heap.size w w1 := Below.call ((Below.refl _ _).alloc (Nat.le_refl _) _) hb1 (by simp)
  clear hb1
  go_wp2_with fail
  refine (m1 _).mono ?_; rintro e w' ⟨rfl, rfl⟩
  go_wp2_with fail
  refine (awake_any _).mono ?_; rintro e w' ⟨rfl, rfl⟩
  go_wp2_with fail
  refine (y1 _).mono ?_; rintro e w2 ⟨rfl, hb2⟩
  have bel2 : Below w.heap.size w w2 := Below.call ((bel.alloc bel.size _).alloc (by have := bel.size; simp; omega) _) hb2 (by have := bel.size; simp; omega)
  clear hb2
  go_wp2_with fail
  refine (g1 _).mono ?_; rintro e w' ⟨rfl, rfl⟩
  go_wp2_with fail
  refine (l1 _).mono ?_; rintro e w' ⟨rfl, rfl⟩
  go_wp2_with fail
  go_ret
  exact ⟨rfl, bel2⟩

set_option maxRecDepth 100000 in
theorem wp_yn (a b : Nat) (z : Int × Int) (p q : Int) (w : World) (h : CW a b z) (hz : Bd (2 ^ 53) z) (hr : ¬ InR p q) :
    Calls Try.prog 7 #[.agg #[.float .f64 a, .float .f64 b], .int .i64 p, .int .i64 q] w fun e w' => e = .returned (.bool true) ∧ Below w.heap.size w w' := by
  have p1 := fun w => wparts_W a b z w h hz
  have p2 := fun w => parts_W h hz w
  have m1 := fun w => wmake_no p q w hr
  have y1 := fun w => rmay_no p q w hr
  have q3 := n0_b
  clear hr h hz
  go_enter Try.func7, Try.ntmps7
  go_wp2_with fail
  refine (p1 _).mono ?_; rintro e w' ⟨rfl, rfl⟩
  go_wp2_with fail
  refine (p2 _).mono ?_; rintro e w1 ⟨rfl, hb1⟩
  have bel : Below w.heap.size w w1 := Below.call ((Below.refl _ _).alloc (Nat.le_refl _) _) hb1 (by simp)
  clear hb1
  go_wp2_with fail
  refine (m1 _).mono ?_; rintro e w' ⟨rfl, rfl⟩
  go_wp2_with fail
  refine (awake_any _).mono ?_; rintro e w' ⟨rfl, rfl⟩
  go_wp2_with fail
  refine (y1 _).mono ?_; rintro e w2 ⟨rfl, hb2⟩
  have bel2 : Below w.heap.size w w2 := Below.call ((bel.alloc bel.size _).alloc (by have := bel.size; simp; omega) _) hb2 (by have := bel.size; simp; omega)
  clear hb2
  go_wp2_with fail
  go_ret
  exact ⟨rfl, bel2⟩

set_option maxRecDepth 100000 in
theorem wp_ny (a b : Nat) (p q : Int) (w : World) (h : mayB a b = false) (hr : InR p q) :
    Calls Try.prog 7 #[.agg #[.float .f64 a, .float .f64 b], .int .i64 p, .int .i64 q] w fun e w' => e = .returned (.bool true) ∧ Below w.heap.size w w' := by
  have p1 := fun w => wparts_no a b w h
  have p2 := fun w => parts_no a b w h
  have m1 := fun w => wmake_yes p q w hr
  have y1 := fun w => rmay_yes p q w hr
  have hr' : Bd (2 ^ 53) (p, q) := by unfold InR at hr; unfold Bd; simp; omega
  have g1 := fun w => wparts_W (F p) (F q) (p, q) w (CW_F hr') hr'
  have l1 := fun w => lplain_F p q w hr'.1 hr'.2
  have e1 : ((p : Int) == p) = true := by simp
  have e2 : ((q : Int) == q) = true := by simp
  clear hr hr' h
  go_enter Try.func7, Try.ntmps7
  go_wp2_with fail
  refine (p1 _).mono ?_; rintro e w' ⟨rfl, rfl⟩
  go_wp2_with fail
  refine (p2 _).mono ?_; rintro e w1 ⟨rfl, hb1⟩
  have bel : Below w.heap.size w w1 := Below.call ((Below.refl _ _).alloc (Nat.le_refl _) _) hb1 (by simp)
  clear hb1
  go_wp2_with fail
  refine (m1 _).mono ?_; rintro e w' ⟨rfl, rfl⟩
  go_wp2_with fail
  refine (awake_any _).mono ?_; rintro e w' ⟨rfl, rfl⟩
  go_wp2_with fail
  refine (y1 _).mono ?_; rintro e w2 ⟨rfl, hb2⟩
  have bel2 : Below w.heap.size w w2 := Below.call ((bel.alloc bel.size _).alloc (by have := bel.size; simp; omega) _) hb2 (by have := bel.size; simp; omega)
  clear hb2
  go_wp2_with fail
  refine (g1 _).mono ?_; rintro e w' ⟨rfl, rfl⟩
  go_wp2_with fail
  refine (l1 _).mono ?_; rintro e w' ⟨rfl, rfl⟩
  go_wp2_with fail
  go_ret
  exact ⟨rfl, bel2⟩

set_option maxRecDepth 100000 in
theorem wp_nn (a b : Nat) (p q : Int) (w : World) (h : mayB a b = false) (hr : ¬ InR p q) :
    Calls Try.prog 7 #[.agg #[.float .f64 a, .float .f64 b], .int .i64 p, .int .i64 q] w fun e w' => e = .returned (.bool true) ∧ Below w.heap.size w w' := by
  have p1 := fun w => wparts_no a b w h
  have p2 := fun w => parts_no a b w h
  have m1 := fun w => wmake_no p q w hr
  have y1 := fun w => rmay_no p q w hr
  have q3 := n0_b
  clear hr h
  go_enter Try.func7, Try.ntmps7
  go_wp2_with fail
  refine (p1 _).mono ?_; rintro e w' ⟨rfl, rfl⟩
  go_wp2_with fail
  refine (p2 _).mono ?_; rintro e w1 ⟨rfl, hb1⟩
  have bel : Below w.heap.size w w1 := Below.call ((Below.refl _ _).alloc (Nat.le_refl _) _) hb1 (by simp)
  clear hb1
  go_wp2_with fail
  refine (m1 _).mono ?_; rintro e w' ⟨rfl, rfl⟩
  go_wp2_with fail
  refine (awake_any _).mono ?_; rintro e w' ⟨rfl, rfl⟩
  go_wp2_with fail
  refine (y1 _).mono ?_; rintro e w2 ⟨rfl, hb2⟩
  have bel2 : Below w.heap.size w w2 := Below.call ((bel.alloc bel.size _).alloc (by have := bel.size; simp; omega) _) hb2 (by have := bel.size; simp; omega)
  clear hb2
  go_wp2_with fail
  go_ret
  exact ⟨rfl, bel2⟩

theorem wparts_walk (a b : Nat) (p q : Int) (w : World) (ha : (Lit.float .f64 a).wf = true) (hb : (Lit.float .f64 b).wf = true) (_ : (Lit.int .i64 p).wf = true) (_ : (Lit.int .i64 q).wf = true) :
    Calls Try.prog 7 #[.agg #[.float .f64 a, .float .f64 b], .int .i64 p, .int .i64 q] w fun e w' => e = .returned (.bool true) ∧ Below w.heap.size w w' := by
  have lt : ∀ x, (Lit.float .f64 x).wf = true → x < 2 ^ 64 := fun x hx => by simpa [Lit.wf] using hx
  by_cases hr : InR p q
  · cases h1 : mayB a b
    · exact wp_ny a b p q w h1 hr
    · obtain ⟨y, h, hy⟩ := may_of (lt a ha) (lt b hb) h1
      exact wp_yy a b y p q w h hy hr
  · cases h1 : mayB a b
    · exact wp_nn a b p q w h1 hr
    · obtain ⟨y, h, hy⟩ := may_of (lt a ha) (lt b hb) h1
      exact wp_yn a b y p q w h hy hr
end Go.Proofs.Ytkghkkfcgegmeaa
