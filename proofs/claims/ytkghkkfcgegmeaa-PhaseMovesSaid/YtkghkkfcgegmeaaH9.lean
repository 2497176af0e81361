/- Walks of layer 34 (phase): what Back, Is and the reference's Read tell of any four numbers. -/
import Derived.Test.YtkghkkfcgegmeaaH8
import Derived.Test.YtkghkkfcgegmeaaMem2
import Derived.LoopN
namespace Go.Proofs.Ytkghkkfcgegmeaa
open Go.RowKit Fl
set_option linter.unusedVariables false
set_option linter.unusedSimpArgs false

/-- all bits are bits. -/
def P4.lt (p : P4) : Prop := p.a0 < 2 ^ 64 ∧ p.b0 < 2 ^ 64 ∧ p.a1 < 2 ^ 64 ∧ p.b1 < 2 ^ 64 ∧ p.a2 < 2 ^ 64 ∧ p.b2 < 2 ^ 64 ∧ p.a3 < 2 ^ 64 ∧ p.b3 < 2 ^ 64
/-- the whole numbers that they are, where they are. -/
def P4.z (p : P4) : Z4 := ⟨tr p.a0, tr p.b0, tr p.a1, tr p.b1, tr p.a2, tr p.b2, tr p.a3, tr p.b3⟩
/-- are they phases? -/
def P4.ok (p : P4) : Bool := okW p && p.z.ok
theorem P4.isZ {p : P4} (hl : p.lt) (h : okW p = true) : IsZ p p.z ∧ p.z.Bd := by
  obtain ⟨z, hz, hb⟩ := isZ_of hl h
  have e : p.z = z := by
    obtain ⟨f0, g0, f1, g1, f2, g2, f3, g3⟩ := hz
    obtain ⟨d0, c0, d1, c1, d2, c2, d3, c3⟩ := hb
    obtain ⟨n0, m0, n1, m1, n2, m2, n3, m3⟩ := z
    simp only [P4.z, Z4.mk.injEq]
    simp only at d0 c0 d1 c1 d2 c2 d3 c3
    exact ⟨tr_FW f0 (by omega), tr_FW g0 (by omega), tr_FW f1 (by omega), tr_FW g1 (by omega), tr_FW f2 (by omega), tr_FW g2 (by omega), tr_FW f3 (by omega), tr_FW g3 (by omega)⟩
  rw [e]; exact ⟨hz, hb⟩

theorem pback (p : P4) (w : World) (hl : p.lt) :
    Calls Try.prog 26 #[p.v] w fun e w' => e = .returned (.tuple #[if p.ok then p.z.qv else zero4, .int .i64 (if p.ok then 0 else 7)]) ∧ Kept [] w w' := by
  cases h : okW p
  · have e : p.ok = false := by simp [P4.ok, h]
    rw [e]; exact pback_no p w h
  · have e : p.ok = p.z.ok := by simp [P4.ok, h]
    rw [e]; obtain ⟨hz, hb⟩ := P4.isZ hl h; exact pback_yes p p.z w hz hb
theorem pis (p : P4) (w : World) (hl : p.lt) :
    Calls Try.prog 28 #[p.v] w fun e w' => e = .returned (.bool p.ok) ∧ Kept [] w w' := by
  cases h : okW p
  · have e : p.ok = false := by simp [P4.ok, h]
    rw [e]; exact pis_no p w h
  · have e : p.ok = p.z.ok := by simp [P4.ok, h]
    rw [e]; obtain ⟨hz, hb⟩ := P4.isZ hl h; exact pis_yes p p.z w hz hb
theorem rwhole45 (x : Nat) (w : World) :
    Calls Try.prog 74 #[.float .f64 x] w fun e w' => e = .returned (.tuple #[.int .i64 (if wh45 x then tr x else 0), .bool (wh45 x)]) ∧ w = w' := by
  cases h : wh45 x
  · exact rwhole45_no x w h
  · exact rwhole45_yes x w h

def P4.re (p : P4) : Value := .agg #[.float .f64 p.a0, .float .f64 p.a1, .float .f64 p.a2, .float .f64 p.a3]
def P4.im (p : P4) : Value := .agg #[.float .f64 p.b0, .float .f64 p.b1, .float .f64 p.b2, .float .f64 p.b3]
def zero8 : Value := .agg #[.int .i64 0, .int .i64 0, .int .i64 0, .int .i64 0, .int .i64 0, .int .i64 0, .int .i64 0, .int .i64 0]

/-- what Read says of four numbers. -/
def ReadSays (p : P4) (w : World) (e : Ending) (w' : World) : Prop := e = .returned (.tuple #[if p.ok then .agg p.z.cells else zero8, .bool p.ok]) ∧ Kept [] w w'
theorem readSays_no {p : P4} {w w' : World} (h : p.ok = false) (k : Kept [] w w') : ReadSays p w (.returned (.tuple #[zero8, .bool false])) w' := ⟨by rw [h]; rfl, k⟩
theorem readSays_yes {p : P4} {w w' : World} (h : p.ok = true) (k : Kept [] w w') : ReadSays p w (.returned (.tuple #[.agg p.z.cells, .bool true])) w' := ⟨by rw [h]; rfl, k⟩
/-- what the reference's whole hands back. -/
def wval (x : Nat) : Int := if wh45 x then tr x else 0
theorem wval_yes {x : Nat} (h : wh45 x = true) : wval x = tr x := by simp [wval, h]

set_option maxRecDepth 100000 in
set_option maxHeartbeats 4000000 in
theorem rread (p : P4) (w : World) (hl : p.lt) :
    Calls Try.prog 65 #[p.re, p.im] w (ReadSays p w) := by
  have hno : okW p = false → p.ok = false := fun h => by simp [P4.ok, h]
  have hyes : okW p = true → p.ok = p.z.ok := fun h => by simp [P4.ok, h]
  have hrow : okW p = true → ∀ w, Calls Try.prog 30 #[.agg p.z.cells] w fun e w' => e = .returned (.tuple #[if p.z.ok then p.z.qv else zero4, .bool p.z.ok]) ∧ Kept [] w w' := fun h w => rrow p.z w (P4.isZ hl h).2
  unfold P4.re P4.im
  have hw : ∀ x w, Calls Try.prog 74 #[.float .f64 x] w fun e w' => e = .returned (.tuple #[.int .i64 (wval x), .bool (wh45 x)]) ∧ w = w' := fun x w => rwhole45 x w
  have H1 := Lib.hid hno
  have H2 := Lib.hid hyes
  have H3 := Lib.hid hrow
  clear hno hyes hrow hl
  obtain ⟨a0, b0, a1, b1, a2, b2, a3, b3⟩ := p
  go_enter Try.func65, Try.ntmps65
  go_wp2_with fail
  refine wp_loop_rounds 5 ?_
  rw [rounds_succ]
  go_wp2_with fail
  refine (hw _ _).mono ?_; rintro e w' ⟨rfl, rfl⟩
  go_wp2_with fail
  refine (hw _ _).mono ?_; rintro e w' ⟨rfl, rfl⟩
  cases c0 : wh45 a0
  · go_wp2_with fail
    refine bodyPost_ret (v := .tuple #[zero8, .bool false]) (by simp [results, Try.results65, go_sem, zero8]) rfl (readSays_no (H1.out (by simp [okW, wc, c0])) ?_)
    repeat' first | exact Kept.refl _ _ | refine Kept.alloc ?_ _ | (refine Kept.setCell ?_ (Or.inr (by simp)) _)
  cases d0 : wh45 b0
  · go_wp2_with fail
    refine bodyPost_ret (v := .tuple #[zero8, .bool false]) (by simp [results, Try.results65, go_sem, zero8]) rfl (readSays_no (H1.out (by simp [okW, wc, d0])) ?_)
    repeat' first | exact Kept.refl _ _ | refine Kept.alloc ?_ _ | (refine Kept.setCell ?_ (Or.inr (by simp)) _)
  go_wp2_with fail
  rw [rounds_succ]
  go_wp2_with fail
  refine (hw _ _).mono ?_; rintro e w' ⟨rfl, rfl⟩
  go_wp2_with fail
  refine (hw _ _).mono ?_; rintro e w' ⟨rfl, rfl⟩
  cases c1 : wh45 a1
  · go_wp2_with fail
    refine bodyPost_ret (v := .tuple #[zero8, .bool false]) (by simp [results, Try.results65, go_sem, zero8]) rfl (readSays_no (H1.out (by simp [okW, wc, c1])) ?_)
    repeat' first | exact Kept.refl _ _ | refine Kept.alloc ?_ _ | (refine Kept.setCell ?_ (Or.inr (by simp)) _)
  cases d1 : wh45 b1
  · go_wp2_with fail
    refine bodyPost_ret (v := .tuple #[zero8, .bool false]) (by simp [results, Try.results65, go_sem, zero8]) rfl (readSays_no (H1.out (by simp [okW, wc, d1])) ?_)
    repeat' first | exact Kept.refl _ _ | refine Kept.alloc ?_ _ | (refine Kept.setCell ?_ (Or.inr (by simp)) _)
  go_wp2_with fail
  rw [rounds_succ]
  go_wp2_with fail
  refine (hw _ _).mono ?_; rintro e w' ⟨rfl, rfl⟩
  go_wp2_with fail
  refine (hw _ _).mono ?_; rintro e w' ⟨rfl, rfl⟩
  cases c2 : wh45 a2
  · go_wp2_with fail
    refine bodyPost_ret (v := .tuple #[zero8, .bool false]) (by simp [results, Try.results65, go_sem, zero8]) rfl (readSays_no (H1.out (by simp [okW, wc, c2])) ?_)
    repeat' first | exact Kept.refl _ _ | refine Kept.alloc ?_ _ | (refine Kept.setCell ?_ (Or.inr (by simp)) _)
  cases d2 : wh45 b2
  · go_wp2_with fail
    refine bodyPost_ret (v := .tuple #[zero8, .bool false]) (by simp [results, Try.results65, go_sem, zero8]) rfl (readSays_no (H1.out (by simp [okW, wc, d2])) ?_)
    repeat' first | exact Kept.refl _ _ | refine Kept.alloc ?_ _ | (refine Kept.setCell ?_ (Or.inr (by simp)) _)
  go_wp2_with fail
  rw [rounds_succ]
  go_wp2_with fail
  refine (hw _ _).mono ?_; rintro e w' ⟨rfl, rfl⟩
  go_wp2_with fail
  refine (hw _ _).mono ?_; rintro e w' ⟨rfl, rfl⟩
  cases c3 : wh45 a3
  · go_wp2_with fail
    refine bodyPost_ret (v := .tuple #[zero8, .bool false]) (by simp [results, Try.results65, go_sem, zero8]) rfl (readSays_no (H1.out (by simp [okW, wc, c3])) ?_)
    repeat' first | exact Kept.refl _ _ | refine Kept.alloc ?_ _ | (refine Kept.setCell ?_ (Or.inr (by simp)) _)
  cases d3 : wh45 b3
  · go_wp2_with fail
    refine bodyPost_ret (v := .tuple #[zero8, .bool false]) (by simp [results, Try.results65, go_sem, zero8]) rfl (readSays_no (H1.out (by simp [okW, wc, d3])) ?_)
    repeat' first | exact Kept.refl _ _ | refine Kept.alloc ?_ _ | (refine Kept.setCell ?_ (Or.inr (by simp)) _)
  go_wp2_with fail
  rw [rounds_succ]
  go_wp2_with fail
  have hok : okW { a0 := a0, b0 := b0, a1 := a1, b1 := b1, a2 := a2, b2 := b2, a3 := a3, b3 := b3 } = true := by simp [okW, wc, c0, c1, c2, c3, d0, d1, d2, d3]
  rw [wval_yes c0, wval_yes c1, wval_yes c2, wval_yes c3, wval_yes d0, wval_yes d1, wval_yes d2, wval_yes d3]
  have h3 := H3.out hok
  simp only [zero4, Z4.qv] at h3
  have h2 := H2.out hok
  clear H1 H2 H3 hok hw c0 c1 c2 c3 d0 d1 d2 d3
  refine (h3 _).mono ?_; rintro e w2 ⟨rfl, kk⟩
  clear h3
  have hkc := kcell0 kk
  have o3 := kk.own (own_four w _ _ _ _ _ _ _ _).2.2.2 (by simp)
  have o2 := kk.own (own_four w _ _ _ _ _ _ _ _).2.2.1 (by simp)
  have l3 := o3.lt
  have l2 := o2.lt
  have kw : Kept [] w w2 := ((((Kept.refl _ _).alloc _).alloc _).alloc _).alloc _ |>.trans kk
  clear kk hkc
  cases hz : P4.ok { a0 := a0, b0 := b0, a1 := a1, b1 := b1, a2 := a2, b2 := b2, a3 := a3, b3 := b3 }
  · rw [hz] at h2
    rw [← h2]
    clear h2
    go_wp2_with (refine wpList_store_row rfl _ _ _ rfl _ _ rfl rfl _ _ (o2.alloc _) (by kernel_rfl) rfl (by kernel_rfl) ?_)
    refine bodyPost_ret (v := .tuple #[zero8, .bool false]) ?_ ?_ ?_
    · exact ret_row_tmp Try.results65 rfl rfl ((o2.alloc _).setRow _) Try.underlying55 rfl (by kernel_rfl)
    · rfl
    · refine readSays_no hz ((kw.alloc _).setRow (Or.inr ?_) _); omega
  · rw [hz] at h2
    rw [← h2]
    clear h2
    go_wp2_with (first | (refine wpList_load_row rfl _ _ rfl _ rfl _ _ _ _ (o3.alloc _) Try.underlying55 rfl (by kernel_rfl) ?_) | (refine wpList_store_row rfl _ _ _ rfl _ _ rfl rfl _ _ (o2.alloc _) (by kernel_rfl) rfl (by kernel_rfl) ?_))
    refine bodyPost_ret (v := .tuple #[.agg (P4.z { a0 := a0, b0 := b0, a1 := a1, b1 := b1, a2 := a2, b2 := b2, a3 := a3, b3 := b3 }).cells, .bool true]) ?_ ?_ ?_
    · exact ret_row_tmp Try.results65 rfl rfl ((o2.alloc _).setRow _) Try.underlying55 rfl (by kernel_rfl)
    · rfl
    · refine readSays_yes hz ((kw.alloc _).setRow (Or.inr ?_) _); omega
end Go.Proofs.Ytkghkkfcgegmeaa
