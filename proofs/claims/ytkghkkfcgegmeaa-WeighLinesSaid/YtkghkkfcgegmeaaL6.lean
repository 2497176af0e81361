/- Walks of layer 4 (weigh): weights as texts. -/
import Derived.Test.YtkghkkfcgegmeaaL4
import Derived.Test.YtkghkkfcgegmeaaL5
import Derived.Test.YtkghkkfcgegmeaaW8
namespace Go.Proofs.Ytkghkkfcgegmeaa
open Go.RowKit Fl
set_option linter.unusedVariables false
set_option linter.unusedSimpArgs false

theorem bs_cat (a b : List UInt8) (l : List UInt8) (h : a ++ b = l) : Hid (bs a ++ bs b = bs l) := by
  show bs a ++ bs b = bs l
  rw [bs_append, h]
theorem CW_of (z : Int × Int) (hz : Bd (2 ^ 53) z) : CW (F z.1) (F z.2) z := CW_F hz

set_option maxRecDepth 100000 in
set_option maxHeartbeats 400000 in
theorem wtext (a b : Nat) (z : Int × Int) (w : World) (hc : CW a b z) (hz : Bd (2 ^ 53) z) :
    Calls Try.prog 55 #[.complex .f64 a b] w fun e w' => e = .returned (.string (bs (txt z))) ∧ Kept [] w w' := by
  have hp := fun w => wparts_W a b z w hc hz
  have hd1 := fun w => wdigits z.1.natAbs w hz.1
  have hd2 := fun w => wdigits z.2.natAbs w hz.2
  obtain ⟨p, q⟩ := z
  obtain ⟨h1, h2⟩ := hz
  simp only at h1 h2 hp hd1 hd2
  have l1 := digs_len p.natAbs h1
  have l2 := digs_len q.natAbs h2
  have x1 : max p (-p) = (p.natAbs : Int) := by omega
  have b1 : -9007199254740992 ≤ p ∧ p ≤ 9007199254740992 := by omega
  have b2 : -9007199254740992 ≤ q ∧ q ≤ 9007199254740992 := by omega
  have hfin : Hid (((if p < 0 then bs [45] else bs []) ++ bs (digs p.natAbs)) ++ (if q < 0 then bs [45] else bs [43]) ++ bs (digs q.natAbs) ++ bs [105] = bs (txt (p, q))) := by
    show _ = _
    unfold txt tail1
    by_cases hp : p < 0 <;> by_cases hq : q < 0 <;> simp only [hp, hq, if_true, if_false, bs_append] <;> congr 1 <;> simp
  have s1 := bs_size (digs p.natAbs)
  have s2 := bs_size (digs q.natAbs)
  generalize bs (txt (p, q)) = R at *
  generalize bs (digs p.natAbs) = D1 at *
  generalize bs (digs q.natAbs) = D2 at *
  have e1 : -q = (q.natAbs : Int) ∨ q = (q.natAbs : Int) := by omega
  by_cases hp0 : p < 0 <;> by_cases hq0 : q < 0
  all_goals first | have x2 : -q = (q.natAbs : Int) := by omega | (have x2 : (q.natAbs : Int) = q := (by omega); simp only [x2] at hd2)
  all_goals first | rw [if_pos hp0, if_pos hq0] at hfin | rw [if_pos hp0, if_neg hq0] at hfin | rw [if_neg hp0, if_pos hq0] at hfin | rw [if_neg hp0, if_neg hq0] at hfin
  all_goals
    go_enter Try.func55, Try.ntmps55
    go_wp2_with (go_at_call 33; refine (hp _).mono ?_; rintro e w1 ⟨rfl, rfl⟩)
    refine (hd1 _).mono ?_; rintro e w1 ⟨rfl, hk1⟩
    go_wp2_with fail
    refine (hd2 _).mono ?_; rintro e w2 ⟨rfl, hk2⟩
    go_wp2_with fail
    go_ret
    exact ⟨by rw [← hfin.out]; rfl, hk1.trans hk2⟩

set_option maxRecDepth 100000 in
theorem wtext_no (a b : Nat) (w : World) (h : mayB a b = false) :
    Calls Try.prog 55 #[.complex .f64 a b] w fun e w' => e = .returned (.string (bs [63])) ∧ Kept [] w w' := by
  have hp := fun w => wparts_no a b w h
  go_enter Try.func55, Try.ntmps55
  go_wp2_with (go_at_call 33; refine (hp _).mono ?_; rintro e w1 ⟨rfl, rfl⟩)
  go_ret
  exact ⟨rfl, Kept.refl _ _⟩

set_option maxRecDepth 100000 in
set_option maxHeartbeats 400000 in
theorem rtext (z : Int × Int) (w : World) (hz : Bd (2 ^ 53) z) :
    Calls Try.prog 58 #[.agg #[.int .i64 z.1, .int .i64 z.2]] w fun e w' => e = .returned (.string (bs (txt z))) ∧ Kept [] w w' := by
  have hd1 := fun w => rnumber04 z.1.natAbs w hz.1
  have hd2 := fun w => rnumber04 z.2.natAbs w hz.2
  obtain ⟨p, q⟩ := z
  obtain ⟨h1, h2⟩ := hz
  simp only at h1 h2 hd1 hd2
  have l1 := digs_len p.natAbs h1
  have l2 := digs_len q.natAbs h2
  have b1 : -9007199254740992 ≤ p ∧ p ≤ 9007199254740992 := by omega
  have b2 : -9007199254740992 ≤ q ∧ q ≤ 9007199254740992 := by omega
  have hfin : Hid (((if p < 0 then bs [45] ++ bs (digs p.natAbs) else bs (digs p.natAbs))) ++ (if q < 0 then bs [45] else bs [43]) ++ bs (digs q.natAbs) ++ bs [105] = bs (txt (p, q))) := by
    show _ = _
    unfold txt tail1
    by_cases hp : p < 0 <;> by_cases hq : q < 0 <;> simp only [hp, hq, if_true, if_false, bs_append] <;> congr 1 <;> simp
  have s1 := bs_size (digs p.natAbs)
  have s2 := bs_size (digs q.natAbs)
  generalize bs (txt (p, q)) = R at *
  generalize bs (digs p.natAbs) = D1 at *
  generalize bs (digs q.natAbs) = D2 at *
  have o := Own.new w #[.int .i64 p, .int .i64 q] 31
  have c0 := o.c2.1
  have c1 := o.c2.2
  by_cases hp0 : p < 0 <;> by_cases hq0 : q < 0
  all_goals first | have x2 : -q = (q.natAbs : Int) := by omega | (have x2 : (q.natAbs : Int) = q := (by omega); simp only [x2] at hd2)
  all_goals first | have x1 : -p = (p.natAbs : Int) := by omega | (have x1 : (p.natAbs : Int) = p := (by omega); simp only [x1] at hd1)
  all_goals first | rw [if_pos hp0, if_pos hq0] at hfin | rw [if_pos hp0, if_neg hq0] at hfin | rw [if_neg hp0, if_pos hq0] at hfin | rw [if_neg hp0, if_neg hq0] at hfin
  all_goals
    go_enter Try.func58, Try.ntmps58
    go_wp2_with fail
    refine (hd1 _).mono ?_; rintro e w1 ⟨rfl, hk1⟩
    have c1 := (hk1.own o (by simp)).c2.2
    go_wp2_with fail
    refine (hd2 _).mono ?_; rintro e w2 ⟨rfl, hk2⟩
    go_wp2_with fail
    go_ret
    exact ⟨by rw [← hfin.out]; rfl, (((Kept.refl _ _).alloc _).trans hk1).trans hk2⟩
end Go.Proofs.Ytkghkkfcgegmeaa
