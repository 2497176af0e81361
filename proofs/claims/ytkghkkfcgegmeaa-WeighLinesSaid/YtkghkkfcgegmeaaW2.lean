/- Walks of layer 4 (weigh): Turn, Join, and the law's small functions. -/
import Derived.Test.YtkghkkfcgegmeaaW1
import Derived.Lib.Hide
namespace Go.Proofs.Ytkghkkfcgegmeaa
open Go.RowKit Fl
set_option linter.unusedVariables false
set_option linter.unusedSimpArgs false

@[local go_sem] theorem unary_neg_float (k : FloatKind) (b : Nat) : Op.unary .neg (.float k b) = pure (.float k (Op.negFloat k b)) := rfl

/-- turned so many times. -/
def rot : Nat → Int × Int → Int × Int
  | 0, z => z
  | k + 1, z => (-(rot k z).2, (rot k z).1)

/-- both parts are at most so great. -/
def Bd (M : Nat) (z : Int × Int) : Prop := z.1.natAbs ≤ M ∧ z.2.natAbs ≤ M
instance (M : Nat) (z : Int × Int) : Decidable (Bd M z) := by unfold Bd; infer_instance
theorem rot_bd {M : Nat} {z : Int × Int} (h : Bd M z) (k : Nat) : Bd M (rot k z) := by
  induction k with
  | zero => exact h
  | succ k ih => obtain ⟨a, b⟩ := ih; exact ⟨by simp only [rot]; omega, by simp only [rot]; omega⟩
/-- a complex number's parts are whole. -/
def CW (a b : Nat) (z : Int × Int) : Prop := FW a z.1 ∧ FW b z.2

def quarter (n : Int) : Nat := (n % 4).toNat
theorem quarter_lt (n : Int) : quarter n < 4 := by unfold quarter; omega
theorem tmod_bd (n : Int) : -3 ≤ n.tmod 4 ∧ n.tmod 4 ≤ 3 := by
  have h1 := Int.lt_tmod_of_pos n (b := 4) (by decide)
  have h2 := Int.tmod_lt_of_pos n (b := 4) (by decide)
  omega
theorem quarter_go (n : Int) : (n.tmod 4 + 4) % 4 = (quarter n : Int) := by
  unfold quarter
  have := Int.mul_tdiv_add_tmod n 4
  omega

set_option maxRecDepth 100000 in
theorem turn_FW (a b : Nat) (z : Int × Int) (n : Int) (w : World) (hn : (Lit.int .i64 n).wf = true) (h : CW a b z) (hz : Bd (2 ^ 53) z) :
    Calls Try.prog 22 #[.complex .f64 a b, .int .i64 n] w fun e w' => e = .returned (.complex .f64 (F (rot (quarter n) z).1) (F (rot (quarter n) z).2)) ∧ w = w' := by
  have hm : ∀ w, Calls Try.prog 61 #[.complex .f64 a b] w fun e w' => e = .returned (.bool true) ∧ w = w' := fun w => by
    have e : mayB a b = true := by
      have h1 := wh_FW (M := 9007199254740992) (by decide) hz.1 h.1
      have h2 := wh_FW (M := 9007199254740992) (by decide) hz.2 h.2
      simp only [mayB, wh53, h1, h2]; rfl
    rw [← e]; exact may_any a b w
  obtain ⟨hq1, hq2⟩ := tmod_bd n
  have hq' := quarter_go n
  have hq4 := quarter_lt n
  generalize quarter n = q at *
  have hq := Lib.hid hq'
  clear hq'
  go_enter Try.func22, Try.ntmps22
  go_wp2_with (go_at_call 61; refine (hm _).mono ?_; rintro e w' ⟨rfl, rfl⟩)
  rw [hq.out]
  go_loop [0, 12] (fun x i => ∃ k c d : Nat, k ≤ q ∧ i = .int .i64 k ∧ x = .complex .f64 c d ∧ CW c d (rot k z)) (fun _ i => q - (intOf i).toNat)
  case atStart => exact ⟨0, a, b, Nat.zero_le _, rfl, rfl, h⟩
  case round =>
    obtain ⟨k, c, d, hk, rfl, rfl, hc⟩ := hrel
    by_cases hlt : k < q
    · go_wp2_with fail
      go_round
      case rel => exact ⟨k + 1, _, _, by omega, by go_num, rfl, neg_FW hc.2 (rot_bd hz k).2, hc.1⟩
      case measure => simp [intOf]; omega
    · obtain rfl : k = q := by omega
      have hp := fun w => wplain_FW hc.1 hc.2 (rot_bd hz k).1 (rot_bd hz k).2 w
      go_wp2_with (go_at_call 59; refine (hp _).mono ?_; rintro e w' ⟨rfl, rfl⟩)
      go_ret
      exact ⟨rfl, rfl⟩

set_option maxRecDepth 100000 in
theorem turn_no (a b : Nat) (n : Int) (w : World) (h : mayB a b = false) :
    Calls Try.prog 22 #[.complex .f64 a b, .int .i64 n] w fun e w' => e = .returned (.complex .f64 0 0) ∧ w = w' := by
  have hm : ∀ w, Calls Try.prog 61 #[.complex .f64 a b] w fun e w' => e = .returned (.bool false) ∧ w = w' := fun w => by rw [← h]; exact may_any a b w
  clear h
  go_enter Try.func22, Try.ntmps22
  go_wp2_with (go_at_call 61; refine (hm _).mono ?_; rintro e w' ⟨rfl, rfl⟩)
  go_ret
  exact ⟨rfl, rfl⟩

theorem may_true {a b : Nat} {z : Int × Int} (h : CW a b z) (hz : Bd (2 ^ 53) z) : mayB a b = true := by
  have h1 := wh_FW (M := 9007199254740992) (by decide) hz.1 h.1
  have h2 := wh_FW (M := 9007199254740992) (by decide) hz.2 h.2
  simp only [mayB, wh53, h1, h2]; rfl

theorem may_of {a b : Nat} (ha : a < 2 ^ 64) (hb : b < 2 ^ 64) (h : mayB a b = true) : ∃ z, CW a b z ∧ Bd (2 ^ 53) z := by
  simp only [mayB, wh53, Bool.and_eq_true] at h
  obtain ⟨p, h1, h2⟩ := wh_true (M := 9007199254740992) (by decide) ha h.1
  obtain ⟨q, h3, h4⟩ := wh_true (M := 9007199254740992) (by decide) hb h.2
  exact ⟨(p, q), ⟨h2, h4⟩, ⟨h1, h3⟩⟩

/-- the sum of a, and b turned: as long as it is not too great a number. -/
theorem CW_F {z : Int × Int} (hz : Bd (2 ^ 53) z) : CW (F z.1) (F z.2) z := ⟨FW_F hz.1, FW_F hz.2⟩

set_option maxRecDepth 100000 in
theorem join_no (a b c d : Nat) (n : Int) (w : World) (h : (mayB a b && mayB c d) = false) :
    Calls Try.prog 20 #[.complex .f64 a b, .int .i64 n, .complex .f64 c d] w fun e w' => e = .returned (.complex .f64 0 0) ∧ w = w' := by
  cases h1 : mayB a b
  · have hm : ∀ w, Calls Try.prog 61 #[.complex .f64 a b] w fun e w' => e = .returned (.bool false) ∧ w = w' := fun w => by rw [← h1]; exact may_any a b w
    clear h h1
    go_enter Try.func20, Try.ntmps20
    go_wp2_with (go_at_call 61; refine (hm _).mono ?_; rintro e w' ⟨rfl, rfl⟩)
    go_ret
    exact ⟨rfl, rfl⟩
  · have h2 : mayB c d = false := by rw [h1] at h; simpa using h
    have hm : ∀ w, Calls Try.prog 61 #[.complex .f64 a b] w fun e w' => e = .returned (.bool true) ∧ w = w' := fun w => by rw [← h1]; exact may_any a b w
    have hm2 : ∀ w, Calls Try.prog 61 #[.complex .f64 c d] w fun e w' => e = .returned (.bool false) ∧ w = w' := fun w => by rw [← h2]; exact may_any c d w
    clear h h1 h2
    go_enter Try.func20, Try.ntmps20
    go_wp2_with fail
    refine (hm _).mono ?_; rintro e w' ⟨rfl, rfl⟩
    go_wp2_with fail
    refine (hm2 _).mono ?_; rintro e w' ⟨rfl, rfl⟩
    go_wp2_with fail
    go_ret
    exact ⟨rfl, rfl⟩

/-- Join of two that may be: part by part, rounded. -/
theorem join_bits (a b c d : Nat) (y z : Int × Int) (n : Int) (w : World) (hn : (Lit.int .i64 n).wf = true) (h : CW a b y) (hy : Bd (2 ^ 53) y) (k : CW c d z) (hz : Bd (2 ^ 53) z)
    (p q r s : Nat) (e1 : cSumBits .add .f64 a b (F (rot (quarter n) z).1) (F (rot (quarter n) z).2) = some (p, q)) (e2 : floatBits .add .f64 p 0 = some r) (e3 : floatBits .add .f64 q 0 = some s) :
    Calls Try.prog 20 #[.complex .f64 a b, .int .i64 n, .complex .f64 c d] w fun e w' => e = .returned (.complex .f64 r s) ∧ w = w' := by
  have h1 := may_true h hy
  have h2 := may_true k hz
  have hm : ∀ w, Calls Try.prog 61 #[.complex .f64 a b] w fun e w' => e = .returned (.bool true) ∧ w = w' := fun w => by rw [← h1]; exact may_any a b w
  have hm2 : ∀ w, Calls Try.prog 61 #[.complex .f64 c d] w fun e w' => e = .returned (.bool true) ∧ w = w' := fun w => by rw [← h2]; exact may_any c d w
  have ht := fun w => turn_FW c d z n w hn k hz
  have hs := fun t w => run_complex_sum (P := Try.prog) w .add (Or.inl rfl) t _ _ _ _ _ _ _ e1
  have hp := fun w => wplain_any p q r s w e2 e3
  clear h1 h2 e1 e2 e3
  go_enter Try.func20, Try.ntmps20
  go_wp2_with fail
  refine (hm _).mono ?_; rintro e w' ⟨rfl, rfl⟩
  go_wp2_with fail
  refine (hm2 _).mono ?_; rintro e w' ⟨rfl, rfl⟩
  go_wp2_with fail
  refine (ht _).mono ?_; rintro e w' ⟨rfl, rfl⟩
  go_wp2_with fail
  refine (hp _).mono ?_; rintro e w' ⟨rfl, rfl⟩
  go_wp2_with fail
  go_ret
  exact ⟨rfl, rfl⟩

/-- Join where the sum is not too great. -/
def join (y : Int × Int) (n : Int) (z : Int × Int) : Int × Int := (y.1 + (rot (quarter n) z).1, y.2 + (rot (quarter n) z).2)
theorem join_FW (a b c d : Nat) (y z : Int × Int) (n : Int) (w : World) (hn : (Lit.int .i64 n).wf = true) (h : CW a b y) (hy : Bd (2 ^ 53) y) (k : CW c d z) (hz : Bd (2 ^ 53) z) (hj : Bd (2 ^ 53) (join y n z)) :
    Calls Try.prog 20 #[.complex .f64 a b, .int .i64 n, .complex .f64 c d] w fun e w' => e = .returned (.complex .f64 (F (join y n z).1) (F (join y n z).2)) ∧ w = w' := by
  have hr := rot_bd hz (quarter n)
  have hf := CW_F hr
  obtain ⟨p, q, e1, f1, f2⟩ := csum_FW h.1 h.2 hf.1 hf.2 hy.1 hy.2 hr.1 hr.2 hj.1 hj.2
  exact join_bits a b c d y z n w hn h hy k hz p q _ _ e1 (by have := add_zero_FW f1 hj.1; rwa [F0] at this) (by have := add_zero_FW f2 hj.2; rwa [F0] at this)

set_option maxRecDepth 100000 in
theorem cut_any (s : ByteArray) (w : World) :
    Calls Try.prog 14 #[.string s] w fun e w' => (e = .returned (.string (if 2000 < s.size then s.extract 0 2000 else s))) ∧ w = w' := by
  by_cases h : (2000 : Int) < s.size
  · have h' : 2000 < s.size := by omega
    rw [if_pos h']
    go_enter Try.func14, Try.ntmps14
    go_wp2
    go_ret
    exact ⟨rfl, rfl⟩
  · have h' : ¬ 2000 < s.size := by omega
    rw [if_neg h']
    go_enter Try.func14, Try.ntmps14
    go_wp2
    go_ret
    exact ⟨rfl, rfl⟩

theorem Fm2 : F (-2) = 13835058055282163712 := by decide +kernel
theorem F2 : F 2 = 4611686018427387904 := by decide +kernel
theorem eqF (a b : Int) (ha : a.natAbs ≤ 2 ^ 53) (hb : b.natAbs ≤ 2 ^ 53) : (FloatKind.f64.format.order (F a) (F b) == some .eq) = decide (a = b) := by
  have := order_FW (FW_F ha) (FW_F hb) ha hb
  show (Ieee.double.order (F a) (F b) == some .eq) = _
  rw [this, compare_int]
  by_cases h1 : a < b
  · have : a ≠ b := by omega
    simp [h1, this]
  · by_cases h2 : a = b
    · simp [h2]
    · simp [h1, h2]

set_option maxRecDepth 100000 in
theorem awake_any (w : World) : Calls Try.prog 16 #[] w fun e w' => e = .returned (.bool true) ∧ w = w' := by
  have h1 : ∀ w, Calls Try.prog 15 #[.string { data := #[1, 2, 3] }] w fun e w' => e = .returned (.complex .f64 13835058055282163712 4611686018427387904) ∧ w = w' := fun w => by
    have h := of_any { data := #[1, 2, 3] } w (by decide)
    have e : wgt 0 (ByteArray.mk #[1, 2, 3]).data.toList = (-2, 2) := by decide
    rw [e] at h
    simp only [Fm2, F2] at h
    exact h
  have h2 : ∀ w, Calls Try.prog 20 #[.complex .f64 4607182418800017408 0, .int .i64 1, .complex .f64 4611686018427387904 0] w fun e w' => e = .returned (.complex .f64 4607182418800017408 4611686018427387904) ∧ w = w' := fun w => by
    have h := join_FW (F 1) (F 0) (F 2) (F 0) (1, 0) (2, 0) 1 w (by decide) (CW_F (z := (1, 0)) (by decide)) (by decide) (CW_F (z := (2, 0)) (by decide)) (by decide) (by decide)
    have e : join (1, 0) 1 (2, 0) = (1, 2) := by decide
    rw [e] at h
    simp only [F0, F1, F2] at h
    exact h
  have e1 : (FloatKind.f64.format.order 13835058055282163712 13835058055282163712 == some .eq) = true := by rw [← Fm2]; exact (eqF _ _ (by decide) (by decide)).trans (by decide)
  have e2 : (FloatKind.f64.format.order 4611686018427387904 4611686018427387904 == some .eq) = true := by rw [← F2]; exact (eqF _ _ (by decide) (by decide)).trans (by decide)
  have e3 : (FloatKind.f64.format.order 4607182418800017408 4607182418800017408 == some .eq) = true := by rw [← F1]; exact (eqF _ _ (by decide) (by decide)).trans (by decide)
  go_enter Try.func16, Try.ntmps16
  go_wp2_with fail
  refine (h1 _).mono ?_; rintro e w' ⟨rfl, rfl⟩
  go_wp2_with fail
  refine (h2 _).mono ?_; rintro e w' ⟨rfl, rfl⟩
  go_wp2_with fail
  go_ret
  exact ⟨rfl, rfl⟩
end Go.Proofs.Ytkghkkfcgegmeaa
