/- Walks of layer 34 (phase): a row's phases, whether it is even, which rows may be. -/
import Derived.Test.YtkghkkfcgegmeaaH11
namespace Go.Proofs.Ytkghkkfcgegmeaa
open Go.RowKit Fl
set_option linter.unusedVariables false
set_option linter.unusedSimpArgs false

def zeroC : Value := .agg #[.complex .f64 0 0, .complex .f64 0 0, .complex .f64 0 0, .complex .f64 0 0]
/-- the phases of the quarters, as values. -/
def Q4.ph (q : Q4) : Value := .agg (phB q.q0 q.q1 q.q2 q.q3)
/-- what Of says of a row. -/
def OfSays (l : List Int) (w : World) (e : Ending) (w' : World) : Prop := e = .returned (.tuple #[if mayL l then (qsum l l.length).ph else zeroC, .int .i64 (if mayL l then 0 else 1)]) ∧ Kept [] w w'
theorem ofSays_no {l : List Int} {w w' : World} (h : mayL l = false) (k : Kept [] w w') : OfSays l w (.returned (.tuple #[zeroC, .int .i64 1])) w' := ⟨by rw [h]; rfl, k⟩
theorem ofSays_yes {l : List Int} {w w' : World} (h : mayL l = true) (k : Kept [] w w') : OfSays l w (.returned (.tuple #[(qsum l l.length).ph, .int .i64 0])) w' := ⟨by rw [h]; rfl, k⟩
theorem qsum_bd46 {l : List Int} (h : mayL l = true) : (qsum l l.length).bd (2 ^ 43) := by
  simp only [mayL, Bool.and_eq_true, decide_eq_true_eq] at h
  obtain ⟨h1, h2⟩ := h
  have := qsum_bd (l := l) (k := l.length) (fun i hi => by rw [getD_of hi]; exact List.all_eq_true.1 h2 _ (List.getElem_mem hi))
  obtain ⟨a, b, c, d⟩ := this
  unfold Q4.bd
  omega

set_option maxRecDepth 100000 in
set_option maxHeartbeats 4000000 in
theorem pof (l : List Int) (v : Value) (w : World) (h : IntsAt .i64 w v l) :
    Calls Try.prog 32 #[v] w (OfSays l w) := by
  have hq := fun w (h : IntsAt .i64 w v l) => pquarters l v w h
  have H := Lib.hid hq
  have hph : mayL l = true → ∀ w, Calls Try.prog 64 #[(qsum l l.length).v] w fun e w' => e = .returned (qsum l l.length).ph ∧ Kept [] w w' := fun hm w => by
    obtain ⟨a, b, c, d⟩ := qsum_bd46 hm
    exact pphases _ _ _ _ w (by omega) (by omega) (by omega) (by omega)
  have H2 := Lib.hid hph
  have h1 : IntsAt .i64 (w.alloc (.cells #[.complex .f64 0 0, .complex .f64 0 0, .complex .f64 0 0, .complex .f64 0 0] 48)) v l := h.kept ((Kept.refl _ _).alloc _)
  have H3 := Lib.hid h1
  clear hq hph h h1
  go_enter Try.func32, Try.ntmps32
  go_wp2_with fail
  refine (H.out _ H3.out).mono ?_; rintro e w1 ⟨rfl, k1⟩
  have o1 := k1.own (Own.new w _ _) (by simp)
  have kk := ((Kept.refl [] w).alloc _).trans k1
  have l1 := o1.lt
  clear k1 H H3
  cases hm : mayL l
  · have H := Lib.hid hm
    clear hm
    simp only [Bool.false_eq_true, if_false, Q4.zero, Q4.v]
    go_wp2_with (refine wpList_store_row rfl _ _ _ rfl _ _ rfl rfl _ _ (o1.alloc _) (by kernel_rfl) rfl (by kernel_rfl) ?_)
    refine bodyPost_ret (v := .tuple #[zeroC, .int .i64 1]) ?_ ?_ ?_
    · exact ret_row_tmp Try.results32 rfl rfl ((o1.alloc _).setRow _) Try.underlying48 rfl (by kernel_rfl)
    · rfl
    · exact ofSays_no H.out ((kk.alloc _).setRow (Or.inr (Nat.le_refl _)) _)
  · have h2 := H2.out hm
    have H := Lib.hid hm
    clear hm H2
    have HQ : ∃ q, q = qsum l l.length := ⟨_, rfl⟩
    simp only [if_true, Q4.v] at h2 ⊢
    go_wp2_with fail
    refine (h2 _).mono ?_; rintro e w2 ⟨rfl, k2⟩
    have o2 := k2.own (o1.alloc _) (by simp)
    have l2 := o2.lt
    have kk2 := (kk.alloc _).trans k2
    clear k2 kk h2 o1
    unfold Q4.ph
    go_wp2_with (refine wpList_store_row rfl _ _ _ rfl _ _ rfl rfl _ _ o2 (by kernel_rfl) rfl (by kernel_rfl) ?_)
    refine bodyPost_ret (v := .tuple #[(qsum l l.length).ph, .int .i64 0]) ?_ ?_ ?_
    · exact ret_row_tmp Try.results32 rfl rfl (o2.setRow _) Try.underlying48 rfl (by kernel_rfl)
    · rfl
    · exact ofSays_yes H.out (kk2.setRow (Or.inr (Nat.le_refl _)) _)
end Go.Proofs.Ytkghkkfcgegmeaa
