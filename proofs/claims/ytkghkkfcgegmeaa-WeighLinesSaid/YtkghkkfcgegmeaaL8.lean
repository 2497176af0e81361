/- Walks of layer 4 (weigh): weights of texts. -/
import Derived.Test.YtkghkkfcgegmeaaL7
namespace Go.Proofs.Ytkghkkfcgegmeaa
open Go.RowKit Fl
set_option linter.unusedVariables false
set_option linter.unusedSimpArgs false

/-- what Parse says of a text. -/
def WSays (l : List UInt8) (w : World) (e : Ending) (w' : World) : Prop :=
  ((∃ z : Int × Int, Bd (2 ^ 53) z ∧ txt z = l ∧ e = .returned (.tuple #[.complex .f64 (F z.1) (F z.2), .int .i64 0])) ∨ ((∀ z : Int × Int, Bd (2 ^ 53) z → txt z ≠ l) ∧ e = .returned (.tuple #[.complex .f64 0 0, .int .i64 7]))) ∧ Kept [] w w'
theorem wsays_no {l : List UInt8} {w w' : World} (h : ∀ z : Int × Int, Bd (2 ^ 53) z → txt z ≠ l) (hk : Kept [] w w') : WSays l w (.returned (.tuple #[.complex .f64 0 0, .int .i64 7])) w' := ⟨Or.inr ⟨h, rfl⟩, hk⟩
theorem no_short {l : List UInt8} (h : (pre (r0 l)).length = 0 ∨ (r1 l).length < 3) : ∀ z : Int × Int, Bd (2 ^ 53) z → txt z ≠ l := by
  rintro z hz rfl
  rw [txt_pre z hz, txt_r1 z hz] at h
  have h1 := digs_len z.1.natAbs hz.1
  have h2 := tail1_len z.2 hz.2
  omega
theorem no_cand {l : List UInt8} (h : Bd (2 ^ 53) (cand l) → txt (cand l) ≠ l) : ∀ z : Int × Int, Bd (2 ^ 53) z → txt z ≠ l := by
  rintro z hz rfl
  rw [txt_cand z hz] at h
  exact h hz rfl
theorem pre_le (l : List UInt8) : (pre l).length ≤ l.length := by
  unfold pre
  have h1 := (List.takeWhile_sublist isD (l := l.take 17)).length_le
  have h2 := List.length_take_le 17 l
  have h3 : (l.take 17).length ≤ l.length := by rw [List.length_take]; omega
  omega
theorem pre_val (l : List UInt8) : val (pre l) < 10 ^ 17 := by
  have hk : (pre l).length ≤ 17 := by
    unfold pre
    have h1 := (List.takeWhile_sublist isD (l := l.take 17)).length_le
    rw [List.length_take] at h1; omega
  have h : val ((pre l).take (pre l).length) < 10 ^ (pre l).length := val_bd (Nat.le_refl _) (fun c hc => by
    rw [List.take_length] at hc
    unfold pre at hc
    exact (List.all_eq_true.1 (List.all_takeWhile)) c hc)
  rw [List.take_length] at h
  exact Nat.lt_of_lt_of_le h (Nat.pow_le_pow_right (by decide) hk)
theorem r0_len (l : List UInt8) : (r0 l).length ≤ l.length := by unfold r0; split <;> simp
theorem r1_len (l : List UInt8) : (r1 l).length = (r0 l).length - (pre (r0 l)).length := by unfold r1; simp
theorem r1_bs (l : List UInt8) : (bs (r0 l)).extract (pre (r0 l)).length (bs (r0 l)).size = bs (r1 l) := by
  rw [bs_extract, bs_size, List.take_of_length_le (by simp)]; rfl
theorem tail_bs (l : List UInt8) : (bs l).extract 1 (bs l).size = bs l.tail := by
  rw [bs_extract, bs_size, List.take_of_length_le (by simp), List.drop_one]


/-- how a text begins: with a minus, or not. -/
def HeadIs (S R0 : ByteArray) (neg : Bool) : Prop :=
  (S.size = 0 ∧ R0 = S ∧ neg = false) ∨ (∃ h : 0 < S.size, ((S[0]'h).toNat : Int) = 45 ∧ neg = true ∧ S.extract 1 S.size = R0) ∨ (∃ h : 0 < S.size, (((S[0]'h).toNat : Int) == 45) = false ∧ neg = false ∧ R0 = S)
theorem headIs (l : List UInt8) : HeadIs (bs l) (bs (r0 l)) (negB l) := by
  cases l with
  | nil => exact Or.inl ⟨rfl, rfl, rfl⟩
  | cons a b =>
    have hp : 0 < (bs (a :: b)).size := by rw [bs_size]; simp
    have hg : (bs (a :: b))[0]'hp = a := rfl
    by_cases ha : a = 45
    · subst ha
      exact Or.inr (Or.inl ⟨hp, by rw [hg]; rfl, rfl, tail_bs _⟩)
    · have hn : negB (a :: b) = false := by unfold negB; simpa using ha
      refine Or.inr (Or.inr ⟨hp, ?_, hn, by unfold r0; rw [hn]; rfl⟩)
      rw [hg]
      have : a.toNat ≠ 45 := fun h => ha (UInt8.toNat_inj.1 h)
      simp; omega

set_option maxRecDepth 100000 in
set_option maxHeartbeats 800000 in
theorem wparse_short (S R0 R1 : ByteArray) (neg : Bool) (n k : Nat) (w : World) (hS : HeadIs S R0 neg) (hz0 : S.size ≤ 1000) (hz : R0.size ≤ 1000) (hz1 : R1.size ≤ 1000)
    (n0 : ∀ w, Calls Try.prog 69 #[.string R0] w fun e w' => e = .returned (.tuple #[.int .i64 n, .int .i64 k]) ∧ w = w')
    (x1 : R0.extract k R0.size = R1) (hk : k ≤ R0.size) (hn : n < 100000000000000000) (hs : k = 0 ∨ 0 < k ∧ R1.size < 3) :
    Calls Try.prog 56 #[.string S] w fun e w' => e = .returned (.tuple #[.complex .f64 0 0, .int .i64 7]) ∧ Kept [] w w' := by
  rcases hS with ⟨h1, rfl, rfl⟩ | ⟨h1, h2, rfl, h3⟩ | ⟨h1, h2, rfl, rfl⟩ <;> rcases hs with rfl | ⟨s1, s2⟩
  all_goals
    go_enter Try.func56, Try.ntmps56
    go_wp2_with fail
    refine (n0 _).mono ?_; rintro e w1 ⟨rfl, rfl⟩
    go_wp2_with fail
    go_region
    all_goals go_wp2_with fail
    all_goals go_ret2
    all_goals exact ⟨rfl, by first | exact Kept.refl _ _ | exact (Kept.refl _ _).drew⟩

set_option maxRecDepth 100000 in
set_option maxHeartbeats 800000 in
theorem wparse_range (S R0 R1 R2 : ByteArray) (neg sg : Bool) (n k m j : Nat) (w : World) (hS : HeadIs S R0 neg) (hz0 : S.size ≤ 1000) (hz : R0.size ≤ 1000) (hz1 : R1.size ≤ 1000) (hz2 : R2.size ≤ 1000)
    (n0 : ∀ w, Calls Try.prog 69 #[.string R0] w fun e w' => e = .returned (.tuple #[.int .i64 n, .int .i64 k]) ∧ w = w')
    (n1 : ∀ w, Calls Try.prog 69 #[.string R2] w fun e w' => e = .returned (.tuple #[.int .i64 m, .int .i64 j]) ∧ w = w')
    (x1 : R0.extract k R0.size = R1) (x2 : R1.extract 1 R1.size = R2) (hk : k ≤ R0.size) (hk0 : 0 < k) (h3 : 3 ≤ R1.size) (hn : n < 100000000000000000) (hm : m < 100000000000000000)
    (hsg : (sg = true ∧ ((R1[0]'(by omega)).toNat : Int) = 45) ∨ (sg = false ∧ (((R1[0]'(by omega)).toNat : Int) == 45) = false))
    (mk : ∀ w, Calls Try.prog 34 #[.int .i64 (sgn neg n), .int .i64 (sgn sg m)] w fun e w' => e = .returned (.tuple #[.complex .f64 0 0, .int .i64 5]) ∧ w = w') :
    Calls Try.prog 56 #[.string S] w fun e w' => e = .returned (.tuple #[.complex .f64 0 0, .int .i64 7]) ∧ Kept [] w w' := by
  rcases hS with ⟨h1, rfl, rfl⟩ | ⟨h1, h2, rfl, h4⟩ | ⟨h1, h2, rfl, rfl⟩
  · omega
  all_goals have b1 : ((k : Int) == 0) = false := by simp; omega
  all_goals have b2 : decide ((R1.size : Int) < 3) = false := decide_eq_false (by omega)
  all_goals rcases hsg with ⟨rfl, g1⟩ | ⟨rfl, g1⟩
  all_goals
    simp only [sgn, if_true, if_false, Bool.false_eq_true] at mk
    go_enter Try.func56, Try.ntmps56
    go_wp2_with fail
    refine (n0 _).mono ?_; rintro e w1 ⟨rfl, rfl⟩
    go_wp2_with fail
    go_region
  all_goals
    go_wp2_with fail
    refine (n1 _).mono ?_; rintro e w1 ⟨rfl, rfl⟩
    go_wp2_with fail
    refine (mk _).mono ?_; rintro e w1 ⟨rfl, rfl⟩
    go_wp2_with fail
    go_ret2
    exact ⟨rfl, (Kept.refl _ _).drew⟩

set_option maxRecDepth 100000 in
set_option maxHeartbeats 800000 in
theorem wparse_other (S R0 R1 R2 : ByteArray) (neg sg : Bool) (n k m j : Nat) (w : World) (hS : HeadIs S R0 neg) (hz0 : S.size ≤ 1000) (hz : R0.size ≤ 1000) (hz1 : R1.size ≤ 1000) (hz2 : R2.size ≤ 1000)
    (n0 : ∀ w, Calls Try.prog 69 #[.string R0] w fun e w' => e = .returned (.tuple #[.int .i64 n, .int .i64 k]) ∧ w = w')
    (n1 : ∀ w, Calls Try.prog 69 #[.string R2] w fun e w' => e = .returned (.tuple #[.int .i64 m, .int .i64 j]) ∧ w = w')
    (x1 : R0.extract k R0.size = R1) (x2 : R1.extract 1 R1.size = R2) (hk : k ≤ R0.size) (hk0 : 0 < k) (h3 : 3 ≤ R1.size) (hn : n < 100000000000000000) (hm : m < 100000000000000000)
    (hsg : (sg = true ∧ ((R1[0]'(by omega)).toNat : Int) = 45) ∨ (sg = false ∧ (((R1[0]'(by omega)).toNat : Int) == 45) = false))
    (a b : Nat) (mk : ∀ w, Calls Try.prog 34 #[.int .i64 (sgn neg n), .int .i64 (sgn sg m)] w fun e w' => e = .returned (.tuple #[.complex .f64 a b, .int .i64 0]) ∧ w = w')
    (T : ByteArray) (ht : ∀ w, Calls Try.prog 55 #[.complex .f64 a b] w fun e w' => e = .returned (.string T) ∧ Kept [] w w') (hT : (T.toList == S.toList) = false) :
    Calls Try.prog 56 #[.string S] w fun e w' => e = .returned (.tuple #[.complex .f64 0 0, .int .i64 7]) ∧ Kept [] w w' := by
  rcases hS with ⟨h1, rfl, rfl⟩ | ⟨h1, h2, rfl, h4⟩ | ⟨h1, h2, rfl, rfl⟩
  · omega
  all_goals have b1 : ((k : Int) == 0) = false := by simp; omega
  all_goals have b2 : decide ((R1.size : Int) < 3) = false := decide_eq_false (by omega)
  all_goals rcases hsg with ⟨rfl, g1⟩ | ⟨rfl, g1⟩
  all_goals
    simp only [sgn, if_true, if_false, Bool.false_eq_true] at mk
    go_enter Try.func56, Try.ntmps56
    go_wp2_with fail
    refine (n0 _).mono ?_; rintro e w1 ⟨rfl, rfl⟩
    go_wp2_with fail
    go_region
  all_goals
    go_wp2_with fail
    refine (n1 _).mono ?_; rintro e w1 ⟨rfl, rfl⟩
    go_wp2_with fail
    refine (mk _).mono ?_; rintro e w1 ⟨rfl, rfl⟩
    go_wp2_with fail
    refine (ht _).mono ?_; rintro e w2 ⟨rfl, hk2⟩
    go_wp2_with fail
    go_ret2
    exact ⟨rfl, (Kept.refl _ _).drew.trans hk2⟩

set_option maxRecDepth 100000 in
set_option maxHeartbeats 800000 in
theorem wparse_same (S R0 R1 R2 : ByteArray) (neg sg : Bool) (n k m j : Nat) (w : World) (hS : HeadIs S R0 neg) (hz0 : S.size ≤ 1000) (hz : R0.size ≤ 1000) (hz1 : R1.size ≤ 1000) (hz2 : R2.size ≤ 1000)
    (n0 : ∀ w, Calls Try.prog 69 #[.string R0] w fun e w' => e = .returned (.tuple #[.int .i64 n, .int .i64 k]) ∧ w = w')
    (n1 : ∀ w, Calls Try.prog 69 #[.string R2] w fun e w' => e = .returned (.tuple #[.int .i64 m, .int .i64 j]) ∧ w = w')
    (x1 : R0.extract k R0.size = R1) (x2 : R1.extract 1 R1.size = R2) (hk : k ≤ R0.size) (hk0 : 0 < k) (h3 : 3 ≤ R1.size) (hn : n < 100000000000000000) (hm : m < 100000000000000000)
    (hsg : (sg = true ∧ ((R1[0]'(by omega)).toNat : Int) = 45) ∨ (sg = false ∧ (((R1[0]'(by omega)).toNat : Int) == 45) = false))
    (a b : Nat) (mk : ∀ w, Calls Try.prog 34 #[.int .i64 (sgn neg n), .int .i64 (sgn sg m)] w fun e w' => e = .returned (.tuple #[.complex .f64 a b, .int .i64 0]) ∧ w = w')
    (ht : ∀ w, Calls Try.prog 55 #[.complex .f64 a b] w fun e w' => e = .returned (.string S) ∧ Kept [] w w') :
    Calls Try.prog 56 #[.string S] w fun e w' => e = .returned (.tuple #[.complex .f64 a b, .int .i64 0]) ∧ Kept [] w w' := by
  rcases hS with ⟨h1, rfl, rfl⟩ | ⟨h1, h2, rfl, h4⟩ | ⟨h1, h2, rfl, rfl⟩
  · omega
  all_goals have b1 : ((k : Int) == 0) = false := by simp; omega
  all_goals have b2 : decide ((R1.size : Int) < 3) = false := decide_eq_false (by omega)
  all_goals rcases hsg with ⟨rfl, g1⟩ | ⟨rfl, g1⟩
  all_goals
    simp only [sgn, if_true, if_false, Bool.false_eq_true] at mk
    go_enter Try.func56, Try.ntmps56
    go_wp2_with fail
    refine (n0 _).mono ?_; rintro e w1 ⟨rfl, rfl⟩
    go_wp2_with fail
    go_region
  all_goals
    go_wp2_with fail
    refine (n1 _).mono ?_; rintro e w1 ⟨rfl, rfl⟩
    go_wp2_with fail
    refine (mk _).mono ?_; rintro e w1 ⟨rfl, rfl⟩
    go_wp2_with fail
    refine (ht _).mono ?_; rintro e w2 ⟨rfl, hk2⟩
    go_wp2_with fail
    go_ret2
    exact ⟨rfl, (Kept.refl _ _).drew.trans hk2⟩

theorem F0_eq : F 0 = 0 := by decide +kernel
/-- the weight that a text says. -/
def IsW (l : List UInt8) (y : Int × Int) (ec : Int) : Prop := (Bd (2 ^ 53) y ∧ txt y = l ∧ ec = 0) ∨ ((∀ z : Int × Int, Bd (2 ^ 53) z → txt z ≠ l) ∧ y = (0, 0) ∧ ec = 7)
theorem isW_of (l : List UInt8) : ∃ y ec, IsW l y ec ∧ Bd (2 ^ 53) y := by
  by_cases h : ∃ z : Int × Int, Bd (2 ^ 53) z ∧ txt z = l
  · obtain ⟨z, h1, h2⟩ := h
    exact ⟨z, 0, Or.inl ⟨h1, h2, rfl⟩, h1⟩
  · exact ⟨(0, 0), 7, Or.inr ⟨fun z h1 h2 => h ⟨z, h1, h2⟩, rfl, rfl⟩, by unfold Bd; simp⟩

theorem wparse (l : List UInt8) (y : Int × Int) (ec : Int) (w : World) (hl : l.length ≤ 1000) (h : IsW l y ec) :
    Calls Try.prog 56 #[.string (bs l)] w fun e w' => e = .returned (.tuple #[.complex .f64 (F y.1) (F y.2), .int .i64 ec]) ∧ Kept [] w w' := by
  have q0 := r0_len l
  have q1 := r1_len l
  have q2 := pre_le (r0 l)
  have n0 := fun w => wnumber (bs (r0 l)) w (by unfold maxLen; rw [bs_size]; omega)
  have n1 := fun w => wnumber (bs (r1 l).tail) w (by unfold maxLen; rw [bs_size, List.length_tail]; omega)
  unfold NumSays at n0 n1
  rw [bs_data] at n0 n1
  by_cases hsh : (pre (r0 l)).length = 0 ∨ (r1 l).length < 3
  · rcases h with ⟨h1, h2, _⟩ | ⟨h1, rfl, rfl⟩
    · exact absurd h2 (no_short hsh y h1)
    · rw [show ((0, 0) : Int × Int).1 = 0 from rfl, show ((0, 0) : Int × Int).2 = 0 from rfl, F0_eq]
      exact wparse_short (bs l) (bs (r0 l)) (bs (r1 l)) (negB l) _ _ w (headIs l) (by rw [bs_size]; omega) (by rw [bs_size]; omega) (by rw [bs_size]; omega) n0 (r1_bs l) (by rw [bs_size]; omega) (pre_val _) (by rw [bs_size]; omega)
  · have z1 : (bs (r1 l)).size = (r1 l).length := bs_size _
    have h3 : 3 ≤ (bs (r1 l)).size := by omega
    have hsg : (negB (r1 l) = true ∧ (((bs (r1 l))[0]'(by omega)).toNat : Int) = 45) ∨ (negB (r1 l) = false ∧ ((((bs (r1 l))[0]'(by omega)).toNat : Int) == 45) = false) := by
      rcases headIs (r1 l) with ⟨h4, _⟩ | ⟨h4, h5, h6, _⟩ | ⟨h4, h5, h6, _⟩
      · omega
      · exact Or.inl ⟨h6, h5⟩
      · exact Or.inr ⟨h6, h5⟩
    have key := @wparse_range (bs l) (bs (r0 l)) (bs (r1 l)) (bs (r1 l).tail) (negB l) (negB (r1 l)) (val (pre (r0 l))) (pre (r0 l)).length (val (pre (r1 l).tail)) (pre (r1 l).tail).length w (headIs l) (by rw [bs_size]; omega) (by rw [bs_size]; omega) (by rw [bs_size]; omega) (by rw [bs_size, List.length_tail]; omega) n0 n1 (r1_bs l) (tail_bs _) (by rw [bs_size]; omega) (by omega) h3 (pre_val _) (pre_val _) hsg
    by_cases hr : InR (cand l).1 (cand l).2
    · have hb : Bd (2 ^ 53) (cand l) := by unfold InR at hr; unfold Bd; omega
      have hmk := fun w => wmake_yes (cand l).1 (cand l).2 w hr
      have htx := fun w => wtext (F (cand l).1) (F (cand l).2) (cand l) w (CW_of _ hb) hb
      by_cases hT : txt (cand l) = l
      · have e : y = cand l ∧ ec = 0 := by
          rcases h with ⟨h1, h2, h3⟩ | ⟨h1, _⟩
          · exact ⟨txt_inj h1 hb (h2.trans hT.symm), h3⟩
          · exact absurd hT (h1 _ hb)
        obtain ⟨rfl, rfl⟩ := e
        rw [hT] at htx
        exact @wparse_same (bs l) (bs (r0 l)) (bs (r1 l)) (bs (r1 l).tail) (negB l) (negB (r1 l)) (val (pre (r0 l))) (pre (r0 l)).length (val (pre (r1 l).tail)) (pre (r1 l).tail).length w (headIs l) (by rw [bs_size]; omega) (by rw [bs_size]; omega) (by rw [bs_size]; omega) (by rw [bs_size, List.length_tail]; omega) n0 n1 (r1_bs l) (tail_bs _) (by rw [bs_size]; omega) (by omega) h3 (pre_val _) (pre_val _) hsg _ _ hmk htx
      · have e : y = (0, 0) ∧ ec = 7 := by
          rcases h with ⟨h1, h2, h3⟩ | ⟨_, h2, h3⟩
          · subst h2; exact absurd (by rw [txt_cand y h1]) hT
          · exact ⟨h2, h3⟩
        obtain ⟨rfl, rfl⟩ := e
        rw [show ((0, 0) : Int × Int).1 = 0 from rfl, show ((0, 0) : Int × Int).2 = 0 from rfl, F0_eq]
        exact @wparse_other (bs l) (bs (r0 l)) (bs (r1 l)) (bs (r1 l).tail) (negB l) (negB (r1 l)) (val (pre (r0 l))) (pre (r0 l)).length (val (pre (r1 l).tail)) (pre (r1 l).tail).length w (headIs l) (by rw [bs_size]; omega) (by rw [bs_size]; omega) (by rw [bs_size]; omega) (by rw [bs_size, List.length_tail]; omega) n0 n1 (r1_bs l) (tail_bs _) (by rw [bs_size]; omega) (by omega) h3 (pre_val _) (pre_val _) hsg _ _ hmk (bs (txt (cand l))) htx (by rw [bs_toList, bs_toList]; simpa using hT)
    · have e : y = (0, 0) ∧ ec = 7 := by
        rcases h with ⟨h1, h2, h3⟩ | ⟨_, h2, h3⟩
        · subst h2
          rw [txt_cand y h1] at hr
          exact absurd (by unfold Bd at h1; unfold InR; omega) hr
        · exact ⟨h2, h3⟩
      obtain ⟨rfl, rfl⟩ := e
      rw [show ((0, 0) : Int × Int).1 = 0 from rfl, show ((0, 0) : Int × Int).2 = 0 from rfl, F0_eq]
      exact key (fun w => wmake_no _ _ w hr)
end Go.Proofs.Ytkghkkfcgegmeaa
