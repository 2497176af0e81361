/- Walks of the statements of layer 34: four complex numbers by their parts, and what they are read as. -/
import Derived.Test.YtkghkkfcgegmeaaH9
import Derived.Deep.RegionHeld3
import Derived.Deep.DrawnRows
namespace Go.Proofs.Ytkghkkfcgegmeaa
open Go.RowKit Fl
set_option linter.unusedVariables false
set_option linter.unusedSimpArgs false
attribute [local go_sem ↓] Go.wp_at_zero Go.wp_at_succ

def P4.parts (p : P4) : Value := .agg #[.float .f64 p.a0, .float .f64 p.a1, .float .f64 p.a2, .float .f64 p.a3, .float .f64 p.b0, .float .f64 p.b1, .float .f64 p.b2, .float .f64 p.b3]

set_option maxRecDepth 100000 in
set_option maxHeartbeats 4000000 in
theorem lfour (p : P4) (w : World) :
    Calls Try.prog 25 #[p.parts] w fun e w' => e = .returned p.v ∧ Kept [] w w' := by
  obtain ⟨a0, b0, a1, b1, a2, b2, a3, b3⟩ := p
  simp only [P4.parts, P4.v]
  go_enter Try.func25, Try.ntmps25
  go_wp2_with fail
  refine wp_loop_rounds 5 ?_
  rw [rounds_succ]
  go_wp2_with fail
  go_region
  go_wp2_with fail
  rw [rounds_succ]
  go_wp2_with fail
  go_region
  go_wp2_with fail
  rw [rounds_succ]
  go_wp2_with fail
  go_region
  go_wp2_with fail
  rw [rounds_succ]
  go_wp2_with fail
  go_region
  go_wp2_with fail
  rw [rounds_succ]
  go_wp2_with fail
  refine bodyPost_ret (v := .agg #[.complex .f64 a0 b0, .complex .f64 a1 b1, .complex .f64 a2 b2, .complex .f64 a3 b3]) (by simp [results, Try.results25, go_sem]) rfl ⟨rfl, ?_⟩
  repeat' first | exact Kept.refl _ _ | refine Kept.drew ?_ | refine Kept.drewN ?_ _ | refine Kept.alloc ?_ _ | (refine Kept.setCell ?_ (Or.inr ?_) _; rotate_left; (first | (simp; done) | omega | (simp; omega)))

set_option maxRecDepth 100000 in
set_option maxHeartbeats 4000000 in
theorem lread (p : P4) (w : World) (hl : p.lt) :
    Calls Try.prog 27 #[p.v] w (ReadSays p w) := by
  have hr := fun w => rread p w hl
  clear hl
  obtain ⟨a0, b0, a1, b1, a2, b2, a3, b3⟩ := p
  simp only [P4.v, P4.re, P4.im] at *
  have H := Lib.hid hr
  clear hr
  go_enter Try.func27, Try.ntmps27
  go_wp2_with fail
  refine wp_loop_rounds 5 ?_
  rw [rounds_succ]
  go_wp2_with fail
  rw [rounds_succ]
  go_wp2_with fail
  rw [rounds_succ]
  go_wp2_with fail
  rw [rounds_succ]
  go_wp2_with fail
  rw [rounds_succ]
  go_wp2_with fail
  refine (H.out _).mono ?_; rintro e w2 ⟨rfl, kk⟩
  clear H
  have o2 := kk.own (own_four w _ _ _ _ _ _ _ _).2.1 (by simp)
  have l2 := o2.lt
  have kw : Kept [] w w2 := ((((Kept.refl _ _).alloc _).alloc _).alloc _).alloc _ |>.trans kk
  clear kk
  cases hz : P4.ok { a0 := a0, b0 := b0, a1 := a1, b1 := b1, a2 := a2, b2 := b2, a3 := a3, b3 := b3 }
  · rw [if_neg (by simp)]
    unfold zero8
    have H := Lib.hid hz
    clear hz
    go_wp2_with (refine wpList_store_row rfl _ _ _ rfl _ _ rfl rfl _ _ o2 (by kernel_rfl) rfl (by kernel_rfl) ?_)
    refine bodyPost_ret (v := .tuple #[zero8, .bool false]) ?_ ?_ ?_
    · exact ret_row_tmp Try.results27 rfl rfl (o2.setRow _) Try.underlying55 rfl (by kernel_rfl)
    · rfl
    · refine readSays_no H.out (kw.setRow (Or.inr ?_) _); omega
  · rw [if_pos rfl]
    have H := Lib.hid hz
    clear hz
    go_wp2_with (refine wpList_store_row rfl _ _ _ rfl _ _ rfl rfl _ _ o2 (by kernel_rfl) rfl (by kernel_rfl) ?_)
    refine bodyPost_ret (v := .tuple #[.agg (P4.z { a0 := a0, b0 := b0, a1 := a1, b1 := b1, a2 := a2, b2 := b2, a3 := a3, b3 := b3 }).cells, .bool true]) ?_ ?_ ?_
    · exact ret_row_tmp Try.results27 rfl rfl (o2.setRow _) Try.underlying55 rfl (by kernel_rfl)
    · rfl
    · refine readSays_yes H.out (kw.setRow (Or.inr ?_) _); omega
end Go.Proofs.Ytkghkkfcgegmeaa
