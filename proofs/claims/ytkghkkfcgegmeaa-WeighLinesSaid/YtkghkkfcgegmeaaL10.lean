/- For any number and any text: a weight's text, parsed again, and which texts are weights: the walk of WeighLines. No condition. -/
import Derived.Test.YtkghkkfcgegmeaaL9
namespace Go.Proofs.Ytkghkkfcgegmeaa
open Go.RowKit Fl
set_option linter.unusedVariables false
set_option linter.unusedSimpArgs false

/-- the text of which not more than 60 bytes are looked at. -/
def Cut60 (s t : ByteArray) : Prop := (60 < s.size ∧ s.extract 0 60 = t) ∨ (s.size ≤ 60 ∧ t = s)

set_option maxRecDepth 100000 in
set_option maxHeartbeats 800000 in
theorem lines_no (a b : Nat) (s t : ByteArray) (y : Int × Int) (ec : Int) (w : World) (hs : s.size ≤ maxLen) (hc : Cut60 s t) (h : mayB a b = false) (hy : Bd (2 ^ 53) y)
    (hP : ∀ w, Calls Try.prog 56 #[.string t] w fun e w' => e = .returned (.tuple #[.complex .f64 (F y.1) (F y.2), .int .i64 ec]) ∧ Kept [] w w')
    (hR : ∀ w, Calls Try.prog 57 #[.string t] w fun e w' => e = .returned (.tuple #[.agg #[.int .i64 y.1, .int .i64 y.2], .int .i64 ec]) ∧ Kept [] w w') :
    Calls Try.prog 13 #[.agg #[.float .f64 a, .float .f64 b], .string s] w fun e w' => e = .returned (.bool true) ∧ Kept [] w w' := by
  unfold maxLen at hs
  have p2 := fun w => parts_no a b w h
  have t1 := fun w => wtext_no a b w h
  have hq : (bs [63]).toList = [63] := bs_toList _
  have q1 := eqFF y.1 (by have := hy.1; omega)
  have q2 := eqFF y.2 (by have := hy.2; omega)
  have l1 := fun w => lplain_F y.1 y.2 w hy.1 hy.2
  obtain ⟨p, q⟩ := y
  simp only at q1 q2 l1 hP hR
  clear h hy
  rcases hc with ⟨c1, c2⟩ | ⟨c1, rfl⟩
  all_goals
    go_enter Try.func13, Try.ntmps13
    go_wp2_with fail
    refine (p2 _).mono ?_; rintro e w1 ⟨rfl, hb1⟩
    have k1 := ((Kept.refl [] _).alloc _).trans (Kept.of_below hb1)
    clear hb1
    go_wp2_with fail
    refine (t1 _).mono ?_; rintro e w2 ⟨rfl, k2⟩
    go_wp2_with fail
    refine (hP _).mono ?_; rintro e w3 ⟨rfl, k3⟩
    go_wp2_with fail
    refine (hR _).mono ?_; rintro e w4 ⟨rfl, k4⟩
    go_wp2_with fail
    refine (num_any _ _ _).mono ?_; rintro e w5 ⟨rfl, hb5⟩
    have k5 := ((Kept.refl [] _).alloc _).trans (Kept.of_below hb5)
    clear hb5
    go_wp2_with fail
    refine (l1 _).mono ?_; rintro e w' ⟨rfl, rfl⟩
    go_wp2_with fail
    refine (awake_any _).mono ?_; rintro e w' ⟨rfl, rfl⟩
    go_wp2_with fail
    go_ret
    exact ⟨rfl, ((((k1.alloc _).trans k2).trans k3).trans k4).trans k5⟩

set_option maxRecDepth 100000 in
set_option maxHeartbeats 800000 in
theorem lines_yes (a b : Nat) (z : Int × Int) (s t T : ByteArray) (y : Int × Int) (ec : Int) (w : World) (hs : s.size ≤ maxLen) (hc : Cut60 s t) (h : CW a b z) (hz : Bd (2 ^ 53) z) (hy : Bd (2 ^ 53) y)
    (hT : ∀ w, Calls Try.prog 55 #[.complex .f64 a b] w fun e w' => e = .returned (.string T) ∧ Kept [] w w')
    (hT2 : ∀ w, Calls Try.prog 58 #[.agg #[.int .i64 z.1, .int .i64 z.2]] w fun e w' => e = .returned (.string T) ∧ Kept [] w w')
    (hP2 : ∀ w, Calls Try.prog 56 #[.string T] w fun e w' => e = .returned (.tuple #[.complex .f64 (F z.1) (F z.2), .int .i64 0]) ∧ Kept [] w w')
    (hP : ∀ w, Calls Try.prog 56 #[.string t] w fun e w' => e = .returned (.tuple #[.complex .f64 (F y.1) (F y.2), .int .i64 ec]) ∧ Kept [] w w')
    (hR : ∀ w, Calls Try.prog 57 #[.string t] w fun e w' => e = .returned (.tuple #[.agg #[.int .i64 y.1, .int .i64 y.2], .int .i64 ec]) ∧ Kept [] w w') :
    Calls Try.prog 13 #[.agg #[.float .f64 a, .float .f64 b], .string s] w fun e w' => e = .returned (.bool true) ∧ Kept [] w w' := by
  unfold maxLen at hs
  have p2 := fun w => parts_W h hz w
  have q1 := eqFF y.1 (by have := hy.1; omega)
  have q2 := eqFF y.2 (by have := hy.2; omega)
  have q3 := eqFF z.1 (by have := hz.1; omega)
  have q4 := eqFF z.2 (by have := hz.2; omega)
  have l1 := fun w => lplain_F y.1 y.2 w hy.1 hy.2
  obtain ⟨p, q⟩ := y
  obtain ⟨u, v⟩ := z
  simp only at q1 q2 q3 q4 l1 hP hR hT2 hP2 p2
  clear h hy hz
  rcases hc with ⟨c1, c2⟩ | ⟨c1, rfl⟩
  all_goals
    go_enter Try.func13, Try.ntmps13
    go_wp2_with fail
    refine (p2 _).mono ?_; rintro e w1 ⟨rfl, hb1⟩
    have k1 := ((Kept.refl [] _).alloc _).trans (Kept.of_below hb1)
    clear hb1
    have o1 := Own.new w1 #[.int .i64 u, .int .i64 v] 31
    go_wp2_with fail
    refine (hT _).mono ?_; rintro e w2 ⟨rfl, k2⟩
    go_wp2_with fail
    refine (hP _).mono ?_; rintro e w3 ⟨rfl, k3⟩
    go_wp2_with fail
    refine (hR _).mono ?_; rintro e w4 ⟨rfl, k4⟩
    go_wp2_with fail
    refine (num_any _ _ _).mono ?_; rintro e w5 ⟨rfl, hb5⟩
    have k5 := ((Kept.refl [] _).alloc _).trans (Kept.of_below hb5)
    clear hb5
    go_wp2_with fail
    refine (l1 _).mono ?_; rintro e w' ⟨rfl, rfl⟩
    go_wp2_with fail
    refine (awake_any _).mono ?_; rintro e w' ⟨rfl, rfl⟩
    go_wp2_with fail
    refine (hP2 _).mono ?_; rintro e w6 ⟨rfl, k6⟩
    have kk := (((k2.trans k3).trans k4).trans k5).trans k6
    have o6 := kk.own o1 (by simp)
    have d1 := o6.c2
    go_wp2_with fail
    refine (hT2 _).mono ?_; rintro e w7 ⟨rfl, k7⟩
    have d2 := (k7.own o6 (by simp)).c2
    go_wp2_with fail
    refine (num_any _ _ _).mono ?_; rintro e w8 ⟨rfl, hb8⟩
    go_wp2_with fail
    go_ret
    exact ⟨rfl, (((k1.alloc _).trans kk).trans k7).trans (Kept.of_below hb8)⟩

theorem lines_walk (a b : Nat) (s : ByteArray) (w : World) (ha : (Lit.float .f64 a).wf = true) (hb : (Lit.float .f64 b).wf = true) (hs : s.size ≤ maxLen) :
    Calls Try.prog 13 #[.agg #[.float .f64 a, .float .f64 b], .string s] w fun e w' => e = .returned (.bool true) ∧ Below w.heap.size w w' := by
  have lt : ∀ x, (Lit.float .f64 x).wf = true → x < 2 ^ 64 := fun x hx => by simpa [Lit.wf] using hx
  obtain ⟨l, hl, hc⟩ : ∃ l : List UInt8, l.length ≤ 60 ∧ Cut60 s (bs l) := by
    by_cases h : 60 < s.size
    · refine ⟨(s.extract 0 60).data.toList, ?_, Or.inl ⟨h, (bs_of _).symm⟩⟩
      have : (s.extract 0 60).size = 60 := by rw [ByteArray.size_extract]; omega
      simpa using Nat.le_of_eq this
    · exact ⟨s.data.toList, by simpa using (by omega : s.size ≤ 60), Or.inr ⟨by omega, bs_of _⟩⟩
  obtain ⟨y, ec, hy, hyb⟩ := isW_of l
  have hP := fun w => wparse l y ec w (by omega) hy
  have hR := fun w => rparse l y ec w (by omega) hy
  cases h1 : mayB a b
  · exact (lines_no a b s (bs l) y ec w hs hc h1 hyb hP hR).mono fun e w' h => ⟨h.1, h.2.below⟩
  · obtain ⟨z, h, hz⟩ := may_of (lt a ha) (lt b hb) h1
    exact (lines_yes a b z s (bs l) (bs (txt z)) y ec w hs hc h hz hyb (fun w => wtext a b z w h hz) (fun w => rtext z w hz) (fun w => wparse (txt z) z 0 w (by have := txt_len z hz; omega) (Or.inl ⟨hz, rfl, rfl⟩)) hP hR).mono fun e w' h => ⟨h.1, h.2.below⟩
end Go.Proofs.Ytkghkkfcgegmeaa
