/- Walks of layer 4 (weigh) and of its reference: the small functions. -/
import Derived.Test.YtkghkkfcgegmeaaRows
import Derived.WalkKit
import Derived.WalkSpells
import Derived.WalkLawsBesides
import Derived.Test.YtkghkkfcgegmeaaFlt
namespace Go.Proofs.Ytkghkkfcgegmeaa
open Go.RowKit Fl

/-- is a float a whole number of at most that size? -/
def tr (x : Nat) : Int := ((FloatKind.f64.decode x).toInt .zero).getD 0
def wh (M : Nat) (x : Nat) : Bool := geB (Ieee.double.order x (F (-(M : Int)))) && leB (Ieee.double.order x (F M)) && (Ieee.double.order (F (tr x)) x == some .eq)

theorem F53n : (14069245235905429504 : Nat) = F (-9007199254740992) := by decide +kernel
theorem F53 : (4845873199050653696 : Nat) = F 9007199254740992 := by decide +kernel

theorem wh_true {M x : Nat} (hM : M ≤ 2 ^ 53) (hx : x < 2 ^ 64) (h : wh M x = true) : ∃ n : Int, n.natAbs ≤ M ∧ FW x n := by
  simp only [wh, Bool.and_eq_true] at h
  obtain ⟨⟨h1, h2⟩, h3⟩ := h
  obtain ⟨t, ht, hb⟩ := toInt_between hM h1 h2
  have e : tr x = t := by simp [tr, ht]
  rw [e] at h3
  exact ⟨t, hb, FW_of_order hx (by omega) (Or.inl (by simpa using h3))⟩

theorem tr_FW {x : Nat} {n : Int} (hx : FW x n) (hn : n.natAbs ≤ 2 ^ 53) : tr x = n := by
  simp [tr, toInt_FW hx hn]

theorem wh_FW {M x : Nat} (hM : M ≤ 2 ^ 53) {n : Int} (hn : n.natAbs ≤ M) (hx : FW x n) : wh M x = true := by
  have h2 : n.natAbs ≤ 2 ^ 53 := by omega
  simp only [wh, Bool.and_eq_true]
  rw [tr_FW hx h2, order_FW hx (FW_F (by omega)) h2 (by omega), order_FW hx (FW_F (by omega)) h2 (by omega), order_FW (FW_F h2) hx h2 h2]
  refine ⟨⟨?_, ?_⟩, ?_⟩
  · rw [compare_int]; split
    · omega
    · split <;> simp [geB]
  · rw [compare_int]; split
    · simp [leB]
    · split
      · simp [leB]
      · omega
  · rw [compare_int]; simp

def wh53 (x : Nat) : Bool := wh 9007199254740992 x
theorem ret_bool {a b : Bool} (h : a = b) : Ending.returned (.bool a) = .returned (.bool b) := by rw [h]

theorem wh53_eq (x : Nat) : wh53 x = ((FloatKind.f64.format.order x 14069245235905429504 == some .gt || FloatKind.f64.format.order x 14069245235905429504 == some .eq) && (FloatKind.f64.format.order x 4845873199050653696 == some .lt || FloatKind.f64.format.order x 4845873199050653696 == some .eq) && (FloatKind.f64.format.order (floatOfInt .f64 (tr x)) x == some .eq)) := by
  rw [F53n, F53]; rfl

theorem ge_of {o : Option Ordering} (h : o = some .gt ∨ o = some .eq) : geB o = true := by rcases h with h | h <;> simp [geB, h]
theorem le_of {o : Option Ordering} (h : o = some .lt ∨ o = some .eq) : leB o = true := by rcases h with h | h <;> simp [leB, h]
theorem conv_of {M : Nat} (hM : M ≤ 2 ^ 53) {x : Nat} (h1 : geB (Ieee.double.order x (F (-(M : Int)))) = true) (h2 : leB (Ieee.double.order x (F M)) = true) : floatToIntVal .f64 x .i64 = some (tr x) := by
  obtain ⟨t, ht, hb⟩ := toInt_between hM h1 h2
  have e : tr x = t := by simp [tr, ht]
  rw [e]
  unfold floatToIntVal
  rw [ht]
  have : IntKind.i64.min ≤ t ∧ t ≤ IntKind.i64.max := by
    have e1 : IntKind.i64.min = -9223372036854775808 := by decide
    have e2 : IntKind.i64.max = 9223372036854775807 := by decide
    rw [e1, e2]; omega
  simp only [this, and_self, if_true]

set_option maxRecDepth 100000 in
theorem whole_any (x : Nat) (w : World) :
    Calls Try.prog 73 #[.float .f64 x] w fun e w' => e = .returned (.bool (wh53 x)) ∧ w = w' := by
  by_cases h1 : (FloatKind.f64.format.order x 14069245235905429504 = some .gt ∨ FloatKind.f64.format.order x 14069245235905429504 = some .eq)
  · by_cases h2 : (FloatKind.f64.format.order x 4845873199050653696 = some .lt ∨ FloatKind.f64.format.order x 4845873199050653696 = some .eq)
    · have hc : ∀ w, (convert 36 3 (.float .f64 x)).run Try.prog w = .ok (.int .i64 (tr x)) w := fun w => run_convert_float_int w _ _ .f64 .i64 x (tr x) (by rw [Try.underlying36]; rfl) Try.underlying3 (conv_of (M := 9007199254740992) (by decide) (by have h := h1; rw [F53n] at h; exact ge_of h) (by have h := h2; rw [F53] at h; exact le_of h))
      go_enter Try.func73, Try.ntmps73
      go_wp2
      go_ret
      exact ⟨ret_bool (by rw [wh53_eq]), rfl⟩
    · go_enter Try.func73, Try.ntmps73
      go_wp2
      go_ret
      exact ⟨ret_bool (by rw [wh53_eq]; simp [h2]), rfl⟩
  · go_enter Try.func73, Try.ntmps73
    go_wp2
    go_ret
    exact ⟨ret_bool (by rw [wh53_eq]; simp [h1]), rfl⟩

def mayB (a b : Nat) : Bool := wh53 a && wh53 b
set_option maxRecDepth 100000 in
theorem may_any (a b : Nat) (w : World) :
    Calls Try.prog 61 #[.complex .f64 a b] w fun e w' => e = .returned (.bool (mayB a b)) ∧ w = w' := by
  cases h1 : wh53 a
  · have c1 : ∀ w, Calls Try.prog 73 #[.float .f64 a] w fun e w' => e = .returned (.bool false) ∧ w = w' := fun w => by rw [← h1]; exact whole_any a w
    have H : Hid (wh53 a = false) := h1
    clear h1
    go_enter Try.func61, Try.ntmps61
    go_wp2_with (go_at_call 73; refine (c1 _).mono ?_; rintro e w' ⟨rfl, rfl⟩)
    go_ret
    exact ⟨ret_bool (by simp [mayB, H.out]), rfl⟩
  · have c1 : ∀ w, Calls Try.prog 73 #[.float .f64 a] w fun e w' => e = .returned (.bool true) ∧ w = w' := fun w => by rw [← h1]; exact whole_any a w
    have H : Hid (wh53 a = true) := h1
    clear h1
    go_enter Try.func61, Try.ntmps61
    go_wp2_with fail
    refine (c1 _).mono ?_; rintro e w' ⟨rfl, rfl⟩
    go_wp2_with fail
    refine (whole_any b _).mono ?_; rintro e w' ⟨rfl, rfl⟩
    go_wp2_with fail
    go_ret
    exact ⟨ret_bool (by simp [mayB, H.out]), rfl⟩

set_option maxRecDepth 100000 in
theorem wplain_any (a b r s : Nat) (w : World) (h1 : floatBits .add .f64 a 0 = some r) (h2 : floatBits .add .f64 b 0 = some s) :
    Calls Try.prog 59 #[.complex .f64 a b] w fun e w' => e = .returned (.complex .f64 r s) ∧ w = w' := by
  have c1 := fun t w => run_float_arith (P := Try.prog) w .add t .f64 a 0 r h1
  have c2 := fun t w => run_float_arith (P := Try.prog) w .add t .f64 b 0 s h2
  go_enter Try.func59, Try.ntmps59
  go_wp2
  go_ret
  exact ⟨rfl, rfl⟩


/-- the units 1, i, -1, -i, whatever the signs of their noughts. -/
def unit (k : Nat) : Int × Int := if k % 4 = 0 then (1, 0) else if k % 4 = 1 then (0, 1) else if k % 4 = 2 then (-1, 0) else (0, -1)

/-- the weight of bytes, from a place on. -/
def wgt : Nat → List UInt8 → Int × Int
  | _, [] => (0, 0)
  | k, c :: l => ((c.toNat : Int) * (unit k).1 + (wgt (k + 1) l).1, (c.toNat : Int) * (unit k).2 + (wgt (k + 1) l).2)

theorem wgt_snoc (k : Nat) (l : List UInt8) (c : UInt8) : wgt k (l ++ [c]) = ((wgt k l).1 + (c.toNat : Int) * (unit (k + l.length)).1, (wgt k l).2 + (c.toNat : Int) * (unit (k + l.length)).2) := by
  induction l generalizing k with
  | nil => simp [wgt]
  | cons d l ih =>
    simp only [List.cons_append, wgt, ih, List.length_cons]
    rw [show k + 1 + l.length = k + (l.length + 1) from by omega]
    ext <;> simp <;> omega

theorem unit_bd (k : Nat) : (unit k).1.natAbs ≤ 1 ∧ (unit k).2.natAbs ≤ 1 := by
  unfold unit; split
  · decide
  · split
    · decide
    · split <;> decide

theorem wgt_bd (k : Nat) (l : List UInt8) : (wgt k l).1.natAbs ≤ 255 * l.length ∧ (wgt k l).2.natAbs ≤ 255 * l.length := by
  induction l generalizing k with
  | nil => simp [wgt]
  | cons c l ih =>
    have h1 := ih (k + 1)
    have h2 := unit_bd k
    have hc : c.toNat ≤ 255 := by have := c.toNat_lt; omega
    simp only [wgt, List.length_cons]
    have a1 : ((c.toNat : Int) * (unit k).1).natAbs ≤ 255 := by
      rw [Int.natAbs_mul]
      have := Nat.mul_le_mul hc h2.1
      simpa using this
    have a2 : ((c.toNat : Int) * (unit k).2).natAbs ≤ 255 := by
      rw [Int.natAbs_mul]
      have := Nat.mul_le_mul hc h2.2
      simpa using this
    omega

theorem unit_succ (k : Nat) : unit (k + 1) = (-(unit k).2, (unit k).1) := by
  unfold unit
  have h : k % 4 = 0 ∨ k % 4 = 1 ∨ k % 4 = 2 ∨ k % 4 = 3 := by omega
  rcases h with h | h | h | h
  · have h' : (k + 1) % 4 = 1 := by omega
    simp [h, h']
  · have h' : (k + 1) % 4 = 2 := by omega
    simp [h, h']
  · have h' : (k + 1) % 4 = 3 := by omega
    simp [h, h']
  · have h' : (k + 1) % 4 = 0 := by omega
    simp [h, h']

theorem cmul_FW {a b c d : Nat} {p q r s : Int} (ha : FW a p) (hb : FW b q) (hc : FW c r) (hd : FW d s)
    (h1 : p.natAbs ≤ 2 ^ 25) (h2 : q.natAbs ≤ 2 ^ 25) (h3 : r.natAbs ≤ 2 ^ 25) (h4 : s.natAbs ≤ 2 ^ 25) :
    ∃ e f, cMulBits a b c d = some (e, f) ∧ FW e (p * r - q * s) ∧ FW f (p * s + q * r) := by
  have bd : ∀ x y : Int, x.natAbs ≤ 2 ^ 25 → y.natAbs ≤ 2 ^ 25 → (x * y).natAbs ≤ 2 ^ 50 := fun x y hx hy => by
    rw [Int.natAbs_mul]; exact Nat.le_trans (Nat.mul_le_mul hx hy) (by decide)
  have b1 := bd p r h1 h3
  have b2 := bd q s h2 h4
  have b3 := bd p s h1 h4
  have b4 := bd q r h2 h3
  obtain ⟨x1, e1, f1⟩ := mul_FW ha hc (by omega) (by omega) (by omega)
  obtain ⟨x2, e2, f2⟩ := mul_FW hb hd (by omega) (by omega) (by omega)
  obtain ⟨x3, e3, f3⟩ := sub_FW f1 f2 (by omega) (by omega) (by omega)
  obtain ⟨x4, e4, f4⟩ := mul_FW ha hd (by omega) (by omega) (by omega)
  obtain ⟨x5, e5, f5⟩ := mul_FW hb hc (by omega) (by omega) (by omega)
  obtain ⟨x6, e6, f6⟩ := add_FW f4 f5 (by omega) (by omega) (by omega)
  exact ⟨x3, x6, by simp [cMulBits, e1, e2, e3, e4, e5, e6], f3, f6⟩

theorem csum_FW {a b c d : Nat} {p q r s : Int} (ha : FW a p) (hb : FW b q) (hc : FW c r) (hd : FW d s)
    (h1 : p.natAbs ≤ 2 ^ 53) (h2 : q.natAbs ≤ 2 ^ 53) (h3 : r.natAbs ≤ 2 ^ 53) (h4 : s.natAbs ≤ 2 ^ 53) (h5 : (p + r).natAbs ≤ 2 ^ 53) (h6 : (q + s).natAbs ≤ 2 ^ 53) :
    ∃ e f, cSumBits .add .f64 a b c d = some (e, f) ∧ FW e (p + r) ∧ FW f (q + s) := by
  obtain ⟨x1, e1, f1⟩ := add_FW ha hc h1 h3 h5
  obtain ⟨x2, e2, f2⟩ := add_FW hb hd h2 h4 h6
  exact ⟨x1, x2, by simp [cSumBits, e1, e2], f1, f2⟩

theorem F0 : F 0 = 0 := by decide +kernel
theorem F1 : F 1 = 4607182418800017408 := by decide +kernel

/-- weigh.plain of whole numbers. -/
theorem wplain_FW {a b : Nat} {p q : Int} (ha : FW a p) (hb : FW b q) (h1 : p.natAbs ≤ 2 ^ 53) (h2 : q.natAbs ≤ 2 ^ 53) (w : World) :
    Calls Try.prog 59 #[.complex .f64 a b] w fun e w' => e = .returned (.complex .f64 (F p) (F q)) ∧ w = w' :=
  wplain_any a b _ _ w (by have := add_zero_FW ha h1; rwa [F0] at this) (by have := add_zero_FW hb h2; rwa [F0] at this)


/-- what holds at each jump back. -/
def OfAt (s : ByteArray) (k : Nat) (a b c d : Nat) : Prop :=
  k ≤ s.size ∧ FW a (wgt 0 (s.data.toList.take k)).1 ∧ FW b (wgt 0 (s.data.toList.take k)).2 ∧ FW c (unit k).1 ∧ FW d (unit k).2

theorem ofAt_done {s : ByteArray} {a b c d : Nat} (hs : s.size ≤ 1000000) (h : OfAt s s.size a b c d) (w : World) :
    Calls Try.prog 59 #[.complex .f64 a b] w fun e w' => e = .returned (.complex .f64 (F (wgt 0 s.data.toList).1) (F (wgt 0 s.data.toList).2)) ∧ w = w' := by
  obtain ⟨_, ha, hb, _, _⟩ := h
  rw [List.take_of_length_le (by simp)] at ha hb
  have hbd := wgt_bd 0 s.data.toList
  have hl : s.data.toList.length = s.size := by simp
  exact wplain_FW ha hb (by omega) (by omega) w

theorem ofAt_step {s : ByteArray} {k a b c d : Nat} (hs : s.size ≤ 1000000) (h : OfAt s k a b c d) (hk : k < s.size) :
    ∃ e f x y g h', cMulBits (floatOfInt .f64 (s[k].toNat : Int)) 0 c d = some (e, f) ∧ cSumBits .add .f64 a b e f = some (x, y) ∧ cMulBits c d 0 4607182418800017408 = some (g, h') ∧ OfAt s (k + 1) x y g h' := by
  obtain ⟨h0, ha, hb, hc, hd⟩ := h
  have hub := unit_bd k
  have hbyte : (s[k].toNat : Int).natAbs ≤ 255 := by have := s[k].toNat_lt; omega
  have hF : FW (floatOfInt .f64 (s[k].toNat : Int)) (s[k].toNat : Int) := FW_F (by omega)
  have hz : FW 0 0 := by have := FW_F (n := 0) (by decide); rwa [F0] at this
  have h1 : FW 4607182418800017408 1 := by have := FW_F (n := 1) (by decide); rwa [F1] at this
  obtain ⟨e, f, e1, fe, ff⟩ := cmul_FW hF hz hc hd (by omega) (by decide) (by omega) (by omega)
  have hbd := wgt_bd 0 (s.data.toList.take k)
  have hl : (s.data.toList.take k).length = k := by simp; omega
  rw [hl] at hbd
  have hm1 : ((s[k].toNat : Int) * (unit k).1).natAbs ≤ 255 := by
    rw [Int.natAbs_mul]; have := Nat.mul_le_mul hbyte hub.1; simpa using this
  have hm2 : ((s[k].toNat : Int) * (unit k).2).natAbs ≤ 255 := by
    rw [Int.natAbs_mul]; have := Nat.mul_le_mul hbyte hub.2; simpa using this
  rw [Int.zero_mul, Int.sub_zero] at fe
  rw [Int.zero_mul, Int.add_zero] at ff
  obtain ⟨x, y, e2, fx, fy⟩ := csum_FW ha hb fe ff (by omega) (by omega) (by omega) (by omega) (by omega) (by omega)
  obtain ⟨g, h', e3, fg, fh⟩ := cmul_FW hc hd hz h1 (by omega) (by omega) (by decide) (by decide)
  have hts : s.data.toList.take (k + 1) = s.data.toList.take k ++ [s[k]] := by
    rw [List.take_succ_eq_append_getElem (by simpa using hk)]; rfl
  refine ⟨e, f, x, y, g, h', e1, e2, e3, by omega, ?_, ?_, ?_, ?_⟩
  · rw [hts, wgt_snoc, hl, Nat.zero_add]; exact fx
  · rw [hts, wgt_snoc, hl, Nat.zero_add]; exact fy
  · rw [unit_succ]; simpa using fg
  · rw [unit_succ]; simpa using fh

set_option maxRecDepth 100000 in
theorem of_any (s : ByteArray) (w : World) (hs : s.size ≤ 1000000) :
    Calls Try.prog 15 #[.string s] w fun e w' => e = .returned (.complex .f64 (F (wgt 0 s.data.toList).1) (F (wgt 0 s.data.toList).2)) ∧ w = w' := by
  go_enter Try.func15, Try.ntmps15
  go_wp2_with fail
  refine wp_scope_jumps 0 (fun a' w' => w = w' ∧ ∃ (k a b c d : Nat) (u6 u7 u8 u9 u10 u11 u12 u13 u14 u15 u16 u17 u18 u19 u20 u21 u22 u23 u24 : Value), a' = { tmps := #[.string s, undef, .complex .f64 0 0, .complex .f64 a b, .complex .f64 c d, .int .i64 k, u6, u7, u8, u9, u10, u11, u12, u13, u14, u15, u16, u17, u18, u19, u20, u21, u22, u23, u24], defers := [] } ∧ OfAt s k a b c d) (fun a' _ => s.size - (intOf (a'.tmps.getD 5 undef)).toNat) rfl ?_ ?_
  · have hO : OfAt s 0 0 0 4607182418800017408 0 := by
      have hz : FW 0 0 := by have := FW_F (n := 0) (by decide); rwa [F0] at this
      have h1 : FW 4607182418800017408 1 := by have := FW_F (n := 1) (by decide); rwa [F1] at this
      exact ⟨Nat.zero_le _, by simpa [wgt] using hz, by simpa [wgt] using hz, by simpa [unit] using h1, by simpa [unit] using hz⟩
    by_cases h0 : s.size = 0
    · have hO' : OfAt s s.size 0 0 4607182418800017408 0 := by rw [h0]; exact hO
      have H := ofAt_done hs hO'
      have hb : ((0 : Int) == (s.size : Int)) = true := by simp [h0]
      clear h0 hO hO'
      go_wp2_with fail
      go_step3
      go_wp2_with fail
      refine (H _).mono ?_
      rintro e w' ⟨rfl, rfl⟩
      go_wp2_with fail
      simp only [Exit.jump]
      go_ret
      exact ⟨rfl, rfl⟩
    · have hlt : 0 < s.size := by omega
      obtain ⟨e, f, x, y, g, h', e1, e2, e3, hN⟩ := ofAt_step hs hO hlt
      have c1 := fun t w => run_complex_mul (P := Try.prog) w t _ _ _ _ _ _ e1
      have c2 := fun t w => run_complex_sum (P := Try.prog) w .add (Or.inl rfl) t _ _ _ _ _ _ _ e2
      have c3 := fun t w => run_complex_mul (P := Try.prog) w t _ _ _ _ _ _ e3
      have hb : ((0 : Int) == (s.size : Int)) = false := by simp; omega
      clear h0 hO e1 e2 e3
      go_wp2_with fail
      go_step3
      go_wp2_with fail
      go_step3
      exact ⟨rfl, rfl, 1, x, y, g, h', _, _, _, _, _, _, _, _, _, _, _, _, _, _, _, _, _, _, _, rfl, hN⟩
  · rintro a' w' ⟨rfl, k, a, b, c, d, u6, u7, u8, u9, u10, u11, u12, u13, u14, u15, u16, u17, u18, u19, u20, u21, u22, u23, u24, rfl, hO⟩
    by_cases h0 : k = s.size
    · have hO' : OfAt s s.size a b c d := by rw [← h0]; exact hO
      have H := ofAt_done hs hO'
      have hb : ((k : Int) == (s.size : Int)) = true := by simp [h0]
      clear h0 hO hO'
      go_wp2_with fail
      refine (H _).mono ?_
      rintro e w' ⟨rfl, rfl⟩
      go_wp2_with fail
      simp only [Exit.jump]
      go_ret
      exact ⟨rfl, rfl⟩
    · have hk := hO.1
      have hlt : k < s.size := by omega
      obtain ⟨e, f, x, y, g, h', e1, e2, e3, hN⟩ := ofAt_step hs hO hlt
      have c1 := fun t w => run_complex_mul (P := Try.prog) w t _ _ _ _ _ _ e1
      have c2 := fun t w => run_complex_sum (P := Try.prog) w .add (Or.inl rfl) t _ _ _ _ _ _ _ e2
      have c3 := fun t w => run_complex_mul (P := Try.prog) w t _ _ _ _ _ _ e3
      have hb : ((k : Int) == (s.size : Int)) = false := by simp; omega
      clear h0 hO e1 e2 e3
      go_wp2_with fail
      go_step3
      exact ⟨rfl, ⟨rfl, k + 1, x, y, g, h', _, _, _, _, _, _, _, _, _, _, _, _, _, _, _, _, _, _, _, rfl, hN⟩, by simp [intOf]; omega⟩
end Go.Proofs.Ytkghkkfcgegmeaa
