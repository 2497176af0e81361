/- Walks of layer 34 (phase): the reference's Row, walked. -/
import Derived.Test.YtkghkkfcgegmeaaH6
namespace Go.Proofs.Ytkghkkfcgegmeaa
open Go.RowKit Fl
set_option linter.unusedVariables false
set_option linter.unusedSimpArgs false

/-- the numbers that are found, so many. -/
def Z4.out (z : Z4) : Nat → Array Value
  | 0 => #[.int .i64 0, .int .i64 0, .int .i64 0, .int .i64 0]
  | 1 => #[.int .i64 ((z.T 0 4).1.tdiv 4), .int .i64 0, .int .i64 0, .int .i64 0]
  | 2 => #[.int .i64 ((z.T 0 4).1.tdiv 4), .int .i64 ((z.T 1 4).1.tdiv 4), .int .i64 0, .int .i64 0]
  | 3 => #[.int .i64 ((z.T 0 4).1.tdiv 4), .int .i64 ((z.T 1 4).1.tdiv 4), .int .i64 ((z.T 2 4).1.tdiv 4), .int .i64 0]
  | _ => #[.int .i64 ((z.T 0 4).1.tdiv 4), .int .i64 ((z.T 1 4).1.tdiv 4), .int .i64 ((z.T 2 4).1.tdiv 4), .int .i64 ((z.T 3 4).1.tdiv 4)]
/-- what stands while Row goes. -/
structure RowAt (z : Z4) (w wr : World) (n : Nat) : Prop where
  p : Own wr w.heap.size z.cells 55
  r : Own wr (w.heap.size + 1) #[.int .i64 0, .int .i64 0, .int .i64 0, .int .i64 0] 50
  o : Own wr (w.heap.size + 2) (z.out n) 50
  k : Kept [] w wr

theorem RowAt.kept {z : Z4} {w wr w' : World} {n : Nat} (h : RowAt z w wr n) (k : Kept [] wr w') : RowAt z w w' n :=
  ⟨k.own h.p (by simp), k.own h.r (by simp), k.own h.o (by simp), h.k.trans k⟩
theorem RowAt.other {z : Z4} {w wr : World} {n : Nat} (h : RowAt z w wr n) {a : Addr} (ha : w.heap.size + 3 ≤ a.block) (u : Value) : RowAt z w (wr.setCell a u) n :=
  ⟨h.p.other (by omega) u, h.r.other (by omega) u, h.o.other (by omega) u, h.k.setCell (Or.inr (by omega)) u⟩

set_option maxRecDepth 100000 in
set_option maxHeartbeats 4000000 in
theorem rrow (z : Z4) (w : World) (hb : z.Bd) :
    Calls Try.prog 30 #[.agg z.cells] w fun e w' => e = .returned (.tuple #[if z.ok then z.qv else zero4, .bool z.ok]) ∧ Kept [] w w' := by
  have ht := fun n k => z.T_bd hb n k
  have hat := fun k => z.at_bd hb k
  go_enter Try.func30, Try.ntmps30
  unfold Z4.cells
  go_wp2_with fail
  have h0 : RowAt z w (((w.alloc (.cells z.cells 55)).alloc (.cells #[.int .i64 0, .int .i64 0, .int .i64 0, .int .i64 0] 50)).alloc (.cells #[.int .i64 0, .int .i64 0, .int .i64 0, .int .i64 0] 50)) 0 :=
    ⟨(own_three w _ _ _ _ _ _).1, (own_three w _ _ _ _ _ _).2.1, (own_three w _ _ _ _ _ _).2.2, (((Kept.refl _ _).alloc _).alloc _).alloc _⟩
  go_loopw [5, 6, 7, 8] (fun i s k t wr => ∃ n : Nat, n ≤ 4 ∧ i = .int .i64 n ∧ RowAt z w wr n ∧ Aside (∀ j, j < n → z.okR j)) (fun i _ _ _ _ => 4 - (intOf i).toNat)
  case atStart => exact ⟨0, by omega, rfl, h0, fun j hj => absurd hj (Nat.not_lt_zero _)⟩
  case round =>
    obtain ⟨n, hn, rfl, hR, hall⟩ := hrel
    clear h0
    have hn5 : n = 0 ∨ n = 1 ∨ n = 2 ∨ n = 3 ∨ n = 4 := by omega
    rcases hn5 with rfl | rfl | rfl | rfl | rfl
    · rw [show ((0 : Nat) : Int) = (0 : Int) from rfl]
      go_wp2_with fail
      have hs0 := Own.new wr #[.int .i64 0, .int .i64 0] 54
      have hR1 := hR.kept ((Kept.refl [] wr).alloc (.cells #[.int .i64 0, .int .i64 0] 54))
      have hsz : w.heap.size + 3 ≤ wr.heap.size := by have := hR.o.lt; omega
      clear hR
      obtain ⟨b6, hb6⟩ : ∃ b6, wr.heap.size = b6 := ⟨_, rfl⟩
      rw [hb6] at hs0 hsz ⊢
      generalize wr.alloc (.cells #[.int .i64 0, .int .i64 0] 54) = wr1 at *
      clear hb6
      go_loopw [7, 8] (fun k t w2 => ∃ j : Nat, j ≤ 4 ∧ k = .int .i64 j ∧ RowAt z w w2 0 ∧ Own w2 b6 #[.int .i64 (z.T 0 j).1, .int .i64 (z.T 0 j).2] 54) (fun k _ _ => 4 - (intOf k).toNat)
      case atStart => exact ⟨0, by omega, rfl, hR1, hs0⟩
      case round =>
        obtain ⟨j, hj, rfl, hR2, hs2⟩ := hrel
        clear hR1 hs0
        have hj5 : j = 0 ∨ j = 1 ∨ j = 2 ∨ j = 3 ∨ j = 4 := by omega
        rcases hj5 with rfl | rfl | rfl | rfl | rfl
        · have p0 : wr.cell? ⟨w.heap.size, 0, none⟩ = some (.int .i64 z.n0) := hR2.p.cell 0 (by simp [Z4.cells])
          have p1 : wr.cell? ⟨w.heap.size, 1, none⟩ = some (.int .i64 z.m0) := hR2.p.cell 1 (by simp [Z4.cells])
          have ct : ∀ w, Calls Try.prog 66 #[.agg #[.int .i64 z.n0, .int .i64 z.m0], .int .i64 0] w fun e w' => e = .returned (.agg #[.int .i64 (turnZ (0 % 4) (z.n0, z.m0)).1, .int .i64 (turnZ (0 % 4) (z.n0, z.m0)).2]) ∧ Kept [] w w' := fun w => rturn 0 z.n0 z.m0 w (by decide) (by have := hb.f0; omega) (by have := hb.g0; omega)
          have E1 : Hid ((z.T 0 0).1 + (turnZ (0 % 4) (z.n0, z.m0)).1 = (z.T 0 1).1) := rfl
          have E2 : Hid ((z.T 0 0).2 + (turnZ (0 % 4) (z.n0, z.m0)).2 = (z.T 0 1).2) := rfl
          have u1 := turnZ_bd (k := 0 % 4) hb.f0 hb.g0
          have t1 := ht 0 0
          obtain ⟨u1, u2⟩ := u1
          obtain ⟨t1, t2⟩ := t1
          generalize turnZ (0 % 4) (z.n0, z.m0) = uv at *
          generalize (z.T 0 0).1 = y1 at *
          generalize (z.T 0 0).2 = y2 at *
          have y1b : -140737488355328 ≤ y1 ∧ y1 ≤ 140737488355328 := by omega
          have y2b : -140737488355328 ≤ y2 ∧ y2 ≤ 140737488355328 := by omega
          have v1b : -140737488355328 ≤ uv.1 ∧ uv.1 ≤ 140737488355328 := by omega
          have v2b : -140737488355328 ≤ uv.2 ∧ uv.2 ≤ 140737488355328 := by omega
          obtain ⟨y1a, y1b⟩ := y1b
          obtain ⟨y2a, y2b⟩ := y2b
          obtain ⟨v1a, v1b⟩ := v1b
          obtain ⟨v2a, v2b⟩ := v2b
          clear u1 u2 t1 t2
          go_wp2_with fail
          refine (ct _).mono ?_; rintro e w3 ⟨rfl, k3⟩
          have hs3 := k3.own hs2 (by simp)
          have hR3 := hR2.kept k3
          clear p0 p1 hs2 hR2 k3
          have s0 : w3.cell? ⟨b6, 0, none⟩ = some (.int .i64 y1) := hs3.cell 0 (by simp)
          have s1 : w3.cell? ⟨b6, 1, none⟩ = some (.int .i64 y2) := hs3.cell 1 (by simp)
          have z0 := hs3.free 0
          have z1 := hs3.free 1
          have hb3 := hs3.lt
          go_wp2_with fail
          go_roundw
          case rel =>
            refine ⟨1, by omega, rfl, ((hR3.other (a := ⟨b6, 0, none⟩) hsz _).other (a := ⟨b6, 1, none⟩) hsz _).kept ((Kept.refl [] _).alloc _), ?_⟩
            have h5 := ((hs3.set 0 (.int .i64 (y1 + uv.1))).set 1 (.int .i64 (y2 + uv.2))).alloc (.cells #[.int .i64 uv.1, .int .i64 uv.2] 54)
            rw [← E1.out, ← E2.out]
            simpa using h5
          case measure => simp [intOf]
        · have p0 : wr.cell? ⟨w.heap.size, 2, none⟩ = some (.int .i64 z.n1) := hR2.p.cell 2 (by simp [Z4.cells])
          have p1 : wr.cell? ⟨w.heap.size, 3, none⟩ = some (.int .i64 z.m1) := hR2.p.cell 3 (by simp [Z4.cells])
          have ct : ∀ w, Calls Try.prog 66 #[.agg #[.int .i64 z.n1, .int .i64 z.m1], .int .i64 0] w fun e w' => e = .returned (.agg #[.int .i64 (turnZ (0 % 4) (z.n1, z.m1)).1, .int .i64 (turnZ (0 % 4) (z.n1, z.m1)).2]) ∧ Kept [] w w' := fun w => rturn 0 z.n1 z.m1 w (by decide) (by have := hb.f1; omega) (by have := hb.g1; omega)
          have E1 : Hid ((z.T 0 1).1 + (turnZ (0 % 4) (z.n1, z.m1)).1 = (z.T 0 2).1) := rfl
          have E2 : Hid ((z.T 0 1).2 + (turnZ (0 % 4) (z.n1, z.m1)).2 = (z.T 0 2).2) := rfl
          have u1 := turnZ_bd (k := 0 % 4) hb.f1 hb.g1
          have t1 := ht 0 1
          obtain ⟨u1, u2⟩ := u1
          obtain ⟨t1, t2⟩ := t1
          generalize turnZ (0 % 4) (z.n1, z.m1) = uv at *
          generalize (z.T 0 1).1 = y1 at *
          generalize (z.T 0 1).2 = y2 at *
          have y1b : -140737488355328 ≤ y1 ∧ y1 ≤ 140737488355328 := by omega
          have y2b : -140737488355328 ≤ y2 ∧ y2 ≤ 140737488355328 := by omega
          have v1b : -140737488355328 ≤ uv.1 ∧ uv.1 ≤ 140737488355328 := by omega
          have v2b : -140737488355328 ≤ uv.2 ∧ uv.2 ≤ 140737488355328 := by omega
          obtain ⟨y1a, y1b⟩ := y1b
          obtain ⟨y2a, y2b⟩ := y2b
          obtain ⟨v1a, v1b⟩ := v1b
          obtain ⟨v2a, v2b⟩ := v2b
          clear u1 u2 t1 t2
          go_wp2_with fail
          refine (ct _).mono ?_; rintro e w3 ⟨rfl, k3⟩
          have hs3 := k3.own hs2 (by simp)
          have hR3 := hR2.kept k3
          clear p0 p1 hs2 hR2 k3
          have s0 : w3.cell? ⟨b6, 0, none⟩ = some (.int .i64 y1) := hs3.cell 0 (by simp)
          have s1 : w3.cell? ⟨b6, 1, none⟩ = some (.int .i64 y2) := hs3.cell 1 (by simp)
          have z0 := hs3.free 0
          have z1 := hs3.free 1
          have hb3 := hs3.lt
          go_wp2_with fail
          go_roundw
          case rel =>
            refine ⟨2, by omega, rfl, ((hR3.other (a := ⟨b6, 0, none⟩) hsz _).other (a := ⟨b6, 1, none⟩) hsz _).kept ((Kept.refl [] _).alloc _), ?_⟩
            have h5 := ((hs3.set 0 (.int .i64 (y1 + uv.1))).set 1 (.int .i64 (y2 + uv.2))).alloc (.cells #[.int .i64 uv.1, .int .i64 uv.2] 54)
            rw [← E1.out, ← E2.out]
            simpa using h5
          case measure => simp [intOf]
        · have p0 : wr.cell? ⟨w.heap.size, 4, none⟩ = some (.int .i64 z.n2) := hR2.p.cell 4 (by simp [Z4.cells])
          have p1 : wr.cell? ⟨w.heap.size, 5, none⟩ = some (.int .i64 z.m2) := hR2.p.cell 5 (by simp [Z4.cells])
          have ct : ∀ w, Calls Try.prog 66 #[.agg #[.int .i64 z.n2, .int .i64 z.m2], .int .i64 0] w fun e w' => e = .returned (.agg #[.int .i64 (turnZ (0 % 4) (z.n2, z.m2)).1, .int .i64 (turnZ (0 % 4) (z.n2, z.m2)).2]) ∧ Kept [] w w' := fun w => rturn 0 z.n2 z.m2 w (by decide) (by have := hb.f2; omega) (by have := hb.g2; omega)
          have E1 : Hid ((z.T 0 2).1 + (turnZ (0 % 4) (z.n2, z.m2)).1 = (z.T 0 3).1) := rfl
          have E2 : Hid ((z.T 0 2).2 + (turnZ (0 % 4) (z.n2, z.m2)).2 = (z.T 0 3).2) := rfl
          have u1 := turnZ_bd (k := 0 % 4) hb.f2 hb.g2
          have t1 := ht 0 2
          obtain ⟨u1, u2⟩ := u1
          obtain ⟨t1, t2⟩ := t1
          generalize turnZ (0 % 4) (z.n2, z.m2) = uv at *
          generalize (z.T 0 2).1 = y1 at *
          generalize (z.T 0 2).2 = y2 at *
          have y1b : -140737488355328 ≤ y1 ∧ y1 ≤ 140737488355328 := by omega
          have y2b : -140737488355328 ≤ y2 ∧ y2 ≤ 140737488355328 := by omega
          have v1b : -140737488355328 ≤ uv.1 ∧ uv.1 ≤ 140737488355328 := by omega
          have v2b : -140737488355328 ≤ uv.2 ∧ uv.2 ≤ 140737488355328 := by omega
          obtain ⟨y1a, y1b⟩ := y1b
          obtain ⟨y2a, y2b⟩ := y2b
          obtain ⟨v1a, v1b⟩ := v1b
          obtain ⟨v2a, v2b⟩ := v2b
          clear u1 u2 t1 t2
          go_wp2_with fail
          refine (ct _).mono ?_; rintro e w3 ⟨rfl, k3⟩
          have hs3 := k3.own hs2 (by simp)
          have hR3 := hR2.kept k3
          clear p0 p1 hs2 hR2 k3
          have s0 : w3.cell? ⟨b6, 0, none⟩ = some (.int .i64 y1) := hs3.cell 0 (by simp)
          have s1 : w3.cell? ⟨b6, 1, none⟩ = some (.int .i64 y2) := hs3.cell 1 (by simp)
          have z0 := hs3.free 0
          have z1 := hs3.free 1
          have hb3 := hs3.lt
          go_wp2_with fail
          go_roundw
          case rel =>
            refine ⟨3, by omega, rfl, ((hR3.other (a := ⟨b6, 0, none⟩) hsz _).other (a := ⟨b6, 1, none⟩) hsz _).kept ((Kept.refl [] _).alloc _), ?_⟩
            have h5 := ((hs3.set 0 (.int .i64 (y1 + uv.1))).set 1 (.int .i64 (y2 + uv.2))).alloc (.cells #[.int .i64 uv.1, .int .i64 uv.2] 54)
            rw [← E1.out, ← E2.out]
            simpa using h5
          case measure => simp [intOf]
        · have p0 : wr.cell? ⟨w.heap.size, 6, none⟩ = some (.int .i64 z.n3) := hR2.p.cell 6 (by simp [Z4.cells])
          have p1 : wr.cell? ⟨w.heap.size, 7, none⟩ = some (.int .i64 z.m3) := hR2.p.cell 7 (by simp [Z4.cells])
          have ct : ∀ w, Calls Try.prog 66 #[.agg #[.int .i64 z.n3, .int .i64 z.m3], .int .i64 0] w fun e w' => e = .returned (.agg #[.int .i64 (turnZ (0 % 4) (z.n3, z.m3)).1, .int .i64 (turnZ (0 % 4) (z.n3, z.m3)).2]) ∧ Kept [] w w' := fun w => rturn 0 z.n3 z.m3 w (by decide) (by have := hb.f3; omega) (by have := hb.g3; omega)
          have E1 : Hid ((z.T 0 3).1 + (turnZ (0 % 4) (z.n3, z.m3)).1 = (z.T 0 4).1) := rfl
          have E2 : Hid ((z.T 0 3).2 + (turnZ (0 % 4) (z.n3, z.m3)).2 = (z.T 0 4).2) := rfl
          have u1 := turnZ_bd (k := 0 % 4) hb.f3 hb.g3
          have t1 := ht 0 3
          obtain ⟨u1, u2⟩ := u1
          obtain ⟨t1, t2⟩ := t1
          generalize turnZ (0 % 4) (z.n3, z.m3) = uv at *
          generalize (z.T 0 3).1 = y1 at *
          generalize (z.T 0 3).2 = y2 at *
          have y1b : -140737488355328 ≤ y1 ∧ y1 ≤ 140737488355328 := by omega
          have y2b : -140737488355328 ≤ y2 ∧ y2 ≤ 140737488355328 := by omega
          have v1b : -140737488355328 ≤ uv.1 ∧ uv.1 ≤ 140737488355328 := by omega
          have v2b : -140737488355328 ≤ uv.2 ∧ uv.2 ≤ 140737488355328 := by omega
          obtain ⟨y1a, y1b⟩ := y1b
          obtain ⟨y2a, y2b⟩ := y2b
          obtain ⟨v1a, v1b⟩ := v1b
          obtain ⟨v2a, v2b⟩ := v2b
          clear u1 u2 t1 t2
          go_wp2_with fail
          refine (ct _).mono ?_; rintro e w3 ⟨rfl, k3⟩
          have hs3 := k3.own hs2 (by simp)
          have hR3 := hR2.kept k3
          clear p0 p1 hs2 hR2 k3
          have s0 : w3.cell? ⟨b6, 0, none⟩ = some (.int .i64 y1) := hs3.cell 0 (by simp)
          have s1 : w3.cell? ⟨b6, 1, none⟩ = some (.int .i64 y2) := hs3.cell 1 (by simp)
          have z0 := hs3.free 0
          have z1 := hs3.free 1
          have hb3 := hs3.lt
          go_wp2_with fail
          go_roundw
          case rel =>
            refine ⟨4, by omega, rfl, ((hR3.other (a := ⟨b6, 0, none⟩) hsz _).other (a := ⟨b6, 1, none⟩) hsz _).kept ((Kept.refl [] _).alloc _), ?_⟩
            have h5 := ((hs3.set 0 (.int .i64 (y1 + uv.1))).set 1 (.int .i64 (y2 + uv.2))).alloc (.cells #[.int .i64 uv.1, .int .i64 uv.2] 54)
            rw [← E1.out, ← E2.out]
            simpa using h5
          case measure => simp [intOf]
        · have s0 := hs2.cell 0 (by simp)
          have s1 := hs2.cell 1 (by simp)
          have r0 := hR2.r.cell 0 (by simp)
          have r1 := hR2.r.cell 1 (by simp)
          have r2 := hR2.r.cell 2 (by simp)
          have r3 := hR2.r.cell 3 (by simp)
          have rz0 := hR2.r.free 0
          have rz1 := hR2.r.free 1
          have rz2 := hR2.r.free 2
          have rz3 := hR2.r.free 3
          have oz := hR2.o.free 0
          have oc : wr.cell? ⟨w.heap.size + 2, 0, none⟩ = some (.int .i64 0) := hR2.o.cell 0 (by simp [Z4.out])
          have tb1 : -140737488355328 ≤ (z.T 0 4).1 ∧ (z.T 0 4).1 ≤ 140737488355328 := by have := (ht 0 4).1; omega
          obtain ⟨tb1, tb2⟩ := tb1
          by_cases c1 : (z.T 0 4).1.tmod 4 = 0
          · have d1 : ((z.T 0 4).1.tmod 4 != 0) = false := by simpa using c1
            by_cases c2 : (z.T 0 4).2 = 0
            · have d2 : ((z.T 0 4).2 != 0) = false := by simpa using c2
              have hall2 : Aside (∀ j, j < 1 → z.okR j) := fun j hj => by
                by_cases e : j = 0
                · subst e; exact ⟨c1, c2⟩
                · exact hall j (by omega)
              have ho : RowAt z w (wr.setCell ⟨w.heap.size + 2, 0, none⟩ (.int .i64 ((z.T 0 4).1.tdiv 4))) 1 := by
                refine ⟨hR2.p.other (by simp) _, hR2.r.other (by simp) _, ?_, hR2.k.setCell (Or.inr (by simp)) _⟩
                have := hR2.o.set 0 (.int .i64 ((z.T 0 4).1.tdiv 4))
                simpa [Z4.out] using this
              clear hall c1 c2
              go_wp2_with fail
              go_roundw
              case rel => exact ⟨1, by omega, rfl, ho, hall2⟩
              case measure => simp [intOf]
            · have d2 : ((z.T 0 4).2 != 0) = true := by simpa using c2
              have hz : z.ok = false := by
                cases h : z.ok
                · rfl
                · obtain ⟨k0, k1, k2, k3⟩ := z.ok_iff.1 h
                  exact absurd k0.2 c2
              clear hall c1 c2
              go_wp2_with fail
              all_goals refine bodyPost_ret (v := .tuple #[zero4, .bool false]) (by simp [results, Try.results30, go_sem, zero4, r0, r1, r2, r3]) rfl ⟨by first | rfl | (rw [hz]; rfl), ?_⟩
              all_goals refine ((((hR2.k.setCell (Or.inr ?_) _).setCell (Or.inr ?_) _).setCell (Or.inr ?_) _).setCell (Or.inr ?_) _)
              all_goals exact Nat.le_succ _
          · have d1 : ((z.T 0 4).1.tmod 4 != 0) = true := by simpa using c1
            have hz : z.ok = false := by
              cases h : z.ok
              · rfl
              · obtain ⟨k0, k1, k2, k3⟩ := z.ok_iff.1 h
                exact absurd k0.1 c1
            clear hall c1
            go_wp2_with fail
            all_goals refine bodyPost_ret (v := .tuple #[zero4, .bool false]) (by simp [results, Try.results30, go_sem, zero4, r0, r1, r2, r3]) rfl ⟨by first | rfl | (rw [hz]; rfl), ?_⟩
            all_goals refine ((((hR2.k.setCell (Or.inr ?_) _).setCell (Or.inr ?_) _).setCell (Or.inr ?_) _).setCell (Or.inr ?_) _)
            all_goals exact Nat.le_succ _
    · rw [show ((1 : Nat) : Int) = (1 : Int) from rfl]
      go_wp2_with fail
      have hs0 := Own.new wr #[.int .i64 0, .int .i64 0] 54
      have hR1 := hR.kept ((Kept.refl [] wr).alloc (.cells #[.int .i64 0, .int .i64 0] 54))
      have hsz : w.heap.size + 3 ≤ wr.heap.size := by have := hR.o.lt; omega
      clear hR
      obtain ⟨b6, hb6⟩ : ∃ b6, wr.heap.size = b6 := ⟨_, rfl⟩
      rw [hb6] at hs0 hsz ⊢
      generalize wr.alloc (.cells #[.int .i64 0, .int .i64 0] 54) = wr1 at *
      clear hb6
      go_loopw [7, 8] (fun k t w2 => ∃ j : Nat, j ≤ 4 ∧ k = .int .i64 j ∧ RowAt z w w2 1 ∧ Own w2 b6 #[.int .i64 (z.T 1 j).1, .int .i64 (z.T 1 j).2] 54) (fun k _ _ => 4 - (intOf k).toNat)
      case atStart => exact ⟨0, by omega, rfl, hR1, hs0⟩
      case round =>
        obtain ⟨j, hj, rfl, hR2, hs2⟩ := hrel
        clear hR1 hs0
        have hj5 : j = 0 ∨ j = 1 ∨ j = 2 ∨ j = 3 ∨ j = 4 := by omega
        rcases hj5 with rfl | rfl | rfl | rfl | rfl
        · have p0 : wr.cell? ⟨w.heap.size, 0, none⟩ = some (.int .i64 z.n0) := hR2.p.cell 0 (by simp [Z4.cells])
          have p1 : wr.cell? ⟨w.heap.size, 1, none⟩ = some (.int .i64 z.m0) := hR2.p.cell 1 (by simp [Z4.cells])
          have ct : ∀ w, Calls Try.prog 66 #[.agg #[.int .i64 z.n0, .int .i64 z.m0], .int .i64 0] w fun e w' => e = .returned (.agg #[.int .i64 (turnZ (0 % 4) (z.n0, z.m0)).1, .int .i64 (turnZ (0 % 4) (z.n0, z.m0)).2]) ∧ Kept [] w w' := fun w => rturn 0 z.n0 z.m0 w (by decide) (by have := hb.f0; omega) (by have := hb.g0; omega)
          have E1 : Hid ((z.T 1 0).1 + (turnZ (0 % 4) (z.n0, z.m0)).1 = (z.T 1 1).1) := rfl
          have E2 : Hid ((z.T 1 0).2 + (turnZ (0 % 4) (z.n0, z.m0)).2 = (z.T 1 1).2) := rfl
          have u1 := turnZ_bd (k := 0 % 4) hb.f0 hb.g0
          have t1 := ht 1 0
          obtain ⟨u1, u2⟩ := u1
          obtain ⟨t1, t2⟩ := t1
          generalize turnZ (0 % 4) (z.n0, z.m0) = uv at *
          generalize (z.T 1 0).1 = y1 at *
          generalize (z.T 1 0).2 = y2 at *
          have y1b : -140737488355328 ≤ y1 ∧ y1 ≤ 140737488355328 := by omega
          have y2b : -140737488355328 ≤ y2 ∧ y2 ≤ 140737488355328 := by omega
          have v1b : -140737488355328 ≤ uv.1 ∧ uv.1 ≤ 140737488355328 := by omega
          have v2b : -140737488355328 ≤ uv.2 ∧ uv.2 ≤ 140737488355328 := by omega
          obtain ⟨y1a, y1b⟩ := y1b
          obtain ⟨y2a, y2b⟩ := y2b
          obtain ⟨v1a, v1b⟩ := v1b
          obtain ⟨v2a, v2b⟩ := v2b
          clear u1 u2 t1 t2
          go_wp2_with fail
          refine (ct _).mono ?_; rintro e w3 ⟨rfl, k3⟩
          have hs3 := k3.own hs2 (by simp)
          have hR3 := hR2.kept k3
          clear p0 p1 hs2 hR2 k3
          have s0 : w3.cell? ⟨b6, 0, none⟩ = some (.int .i64 y1) := hs3.cell 0 (by simp)
          have s1 : w3.cell? ⟨b6, 1, none⟩ = some (.int .i64 y2) := hs3.cell 1 (by simp)
          have z0 := hs3.free 0
          have z1 := hs3.free 1
          have hb3 := hs3.lt
          go_wp2_with fail
          go_roundw
          case rel =>
            refine ⟨1, by omega, rfl, ((hR3.other (a := ⟨b6, 0, none⟩) hsz _).other (a := ⟨b6, 1, none⟩) hsz _).kept ((Kept.refl [] _).alloc _), ?_⟩
            have h5 := ((hs3.set 0 (.int .i64 (y1 + uv.1))).set 1 (.int .i64 (y2 + uv.2))).alloc (.cells #[.int .i64 uv.1, .int .i64 uv.2] 54)
            rw [← E1.out, ← E2.out]
            simpa using h5
          case measure => simp [intOf]
        · have p0 : wr.cell? ⟨w.heap.size, 2, none⟩ = some (.int .i64 z.n1) := hR2.p.cell 2 (by simp [Z4.cells])
          have p1 : wr.cell? ⟨w.heap.size, 3, none⟩ = some (.int .i64 z.m1) := hR2.p.cell 3 (by simp [Z4.cells])
          have ct : ∀ w, Calls Try.prog 66 #[.agg #[.int .i64 z.n1, .int .i64 z.m1], .int .i64 3] w fun e w' => e = .returned (.agg #[.int .i64 (turnZ (3 % 4) (z.n1, z.m1)).1, .int .i64 (turnZ (3 % 4) (z.n1, z.m1)).2]) ∧ Kept [] w w' := fun w => rturn 3 z.n1 z.m1 w (by decide) (by have := hb.f1; omega) (by have := hb.g1; omega)
          have E1 : Hid ((z.T 1 1).1 + (turnZ (3 % 4) (z.n1, z.m1)).1 = (z.T 1 2).1) := rfl
          have E2 : Hid ((z.T 1 1).2 + (turnZ (3 % 4) (z.n1, z.m1)).2 = (z.T 1 2).2) := rfl
          have u1 := turnZ_bd (k := 3 % 4) hb.f1 hb.g1
          have t1 := ht 1 1
          obtain ⟨u1, u2⟩ := u1
          obtain ⟨t1, t2⟩ := t1
          generalize turnZ (3 % 4) (z.n1, z.m1) = uv at *
          generalize (z.T 1 1).1 = y1 at *
          generalize (z.T 1 1).2 = y2 at *
          have y1b : -140737488355328 ≤ y1 ∧ y1 ≤ 140737488355328 := by omega
          have y2b : -140737488355328 ≤ y2 ∧ y2 ≤ 140737488355328 := by omega
          have v1b : -140737488355328 ≤ uv.1 ∧ uv.1 ≤ 140737488355328 := by omega
          have v2b : -140737488355328 ≤ uv.2 ∧ uv.2 ≤ 140737488355328 := by omega
          obtain ⟨y1a, y1b⟩ := y1b
          obtain ⟨y2a, y2b⟩ := y2b
          obtain ⟨v1a, v1b⟩ := v1b
          obtain ⟨v2a, v2b⟩ := v2b
          clear u1 u2 t1 t2
          go_wp2_with fail
          refine (ct _).mono ?_; rintro e w3 ⟨rfl, k3⟩
          have hs3 := k3.own hs2 (by simp)
          have hR3 := hR2.kept k3
          clear p0 p1 hs2 hR2 k3
          have s0 : w3.cell? ⟨b6, 0, none⟩ = some (.int .i64 y1) := hs3.cell 0 (by simp)
          have s1 : w3.cell? ⟨b6, 1, none⟩ = some (.int .i64 y2) := hs3.cell 1 (by simp)
          have z0 := hs3.free 0
          have z1 := hs3.free 1
          have hb3 := hs3.lt
          go_wp2_with fail
          go_roundw
          case rel =>
            refine ⟨2, by omega, rfl, ((hR3.other (a := ⟨b6, 0, none⟩) hsz _).other (a := ⟨b6, 1, none⟩) hsz _).kept ((Kept.refl [] _).alloc _), ?_⟩
            have h5 := ((hs3.set 0 (.int .i64 (y1 + uv.1))).set 1 (.int .i64 (y2 + uv.2))).alloc (.cells #[.int .i64 uv.1, .int .i64 uv.2] 54)
            rw [← E1.out, ← E2.out]
            simpa using h5
          case measure => simp [intOf]
        · have p0 : wr.cell? ⟨w.heap.size, 4, none⟩ = some (.int .i64 z.n2) := hR2.p.cell 4 (by simp [Z4.cells])
          have p1 : wr.cell? ⟨w.heap.size, 5, none⟩ = some (.int .i64 z.m2) := hR2.p.cell 5 (by simp [Z4.cells])
          have ct : ∀ w, Calls Try.prog 66 #[.agg #[.int .i64 z.n2, .int .i64 z.m2], .int .i64 6] w fun e w' => e = .returned (.agg #[.int .i64 (turnZ (6 % 4) (z.n2, z.m2)).1, .int .i64 (turnZ (6 % 4) (z.n2, z.m2)).2]) ∧ Kept [] w w' := fun w => rturn 6 z.n2 z.m2 w (by decide) (by have := hb.f2; omega) (by have := hb.g2; omega)
          have E1 : Hid ((z.T 1 2).1 + (turnZ (6 % 4) (z.n2, z.m2)).1 = (z.T 1 3).1) := rfl
          have E2 : Hid ((z.T 1 2).2 + (turnZ (6 % 4) (z.n2, z.m2)).2 = (z.T 1 3).2) := rfl
          have u1 := turnZ_bd (k := 6 % 4) hb.f2 hb.g2
          have t1 := ht 1 2
          obtain ⟨u1, u2⟩ := u1
          obtain ⟨t1, t2⟩ := t1
          generalize turnZ (6 % 4) (z.n2, z.m2) = uv at *
          generalize (z.T 1 2).1 = y1 at *
          generalize (z.T 1 2).2 = y2 at *
          have y1b : -140737488355328 ≤ y1 ∧ y1 ≤ 140737488355328 := by omega
          have y2b : -140737488355328 ≤ y2 ∧ y2 ≤ 140737488355328 := by omega
          have v1b : -140737488355328 ≤ uv.1 ∧ uv.1 ≤ 140737488355328 := by omega
          have v2b : -140737488355328 ≤ uv.2 ∧ uv.2 ≤ 140737488355328 := by omega
          obtain ⟨y1a, y1b⟩ := y1b
          obtain ⟨y2a, y2b⟩ := y2b
          obtain ⟨v1a, v1b⟩ := v1b
          obtain ⟨v2a, v2b⟩ := v2b
          clear u1 u2 t1 t2
          go_wp2_with fail
          refine (ct _).mono ?_; rintro e w3 ⟨rfl, k3⟩
          have hs3 := k3.own hs2 (by simp)
          have hR3 := hR2.kept k3
          clear p0 p1 hs2 hR2 k3
          have s0 : w3.cell? ⟨b6, 0, none⟩ = some (.int .i64 y1) := hs3.cell 0 (by simp)
          have s1 : w3.cell? ⟨b6, 1, none⟩ = some (.int .i64 y2) := hs3.cell 1 (by simp)
          have z0 := hs3.free 0
          have z1 := hs3.free 1
          have hb3 := hs3.lt
          go_wp2_with fail
          go_roundw
          case rel =>
            refine ⟨3, by omega, rfl, ((hR3.other (a := ⟨b6, 0, none⟩) hsz _).other (a := ⟨b6, 1, none⟩) hsz _).kept ((Kept.refl [] _).alloc _), ?_⟩
            have h5 := ((hs3.set 0 (.int .i64 (y1 + uv.1))).set 1 (.int .i64 (y2 + uv.2))).alloc (.cells #[.int .i64 uv.1, .int .i64 uv.2] 54)
            rw [← E1.out, ← E2.out]
            simpa using h5
          case measure => simp [intOf]
        · have p0 : wr.cell? ⟨w.heap.size, 6, none⟩ = some (.int .i64 z.n3) := hR2.p.cell 6 (by simp [Z4.cells])
          have p1 : wr.cell? ⟨w.heap.size, 7, none⟩ = some (.int .i64 z.m3) := hR2.p.cell 7 (by simp [Z4.cells])
          have ct : ∀ w, Calls Try.prog 66 #[.agg #[.int .i64 z.n3, .int .i64 z.m3], .int .i64 9] w fun e w' => e = .returned (.agg #[.int .i64 (turnZ (9 % 4) (z.n3, z.m3)).1, .int .i64 (turnZ (9 % 4) (z.n3, z.m3)).2]) ∧ Kept [] w w' := fun w => rturn 9 z.n3 z.m3 w (by decide) (by have := hb.f3; omega) (by have := hb.g3; omega)
          have E1 : Hid ((z.T 1 3).1 + (turnZ (9 % 4) (z.n3, z.m3)).1 = (z.T 1 4).1) := rfl
          have E2 : Hid ((z.T 1 3).2 + (turnZ (9 % 4) (z.n3, z.m3)).2 = (z.T 1 4).2) := rfl
          have u1 := turnZ_bd (k := 9 % 4) hb.f3 hb.g3
          have t1 := ht 1 3
          obtain ⟨u1, u2⟩ := u1
          obtain ⟨t1, t2⟩ := t1
          generalize turnZ (9 % 4) (z.n3, z.m3) = uv at *
          generalize (z.T 1 3).1 = y1 at *
          generalize (z.T 1 3).2 = y2 at *
          have y1b : -140737488355328 ≤ y1 ∧ y1 ≤ 140737488355328 := by omega
          have y2b : -140737488355328 ≤ y2 ∧ y2 ≤ 140737488355328 := by omega
          have v1b : -140737488355328 ≤ uv.1 ∧ uv.1 ≤ 140737488355328 := by omega
          have v2b : -140737488355328 ≤ uv.2 ∧ uv.2 ≤ 140737488355328 := by omega
          obtain ⟨y1a, y1b⟩ := y1b
          obtain ⟨y2a, y2b⟩ := y2b
          obtain ⟨v1a, v1b⟩ := v1b
          obtain ⟨v2a, v2b⟩ := v2b
          clear u1 u2 t1 t2
          go_wp2_with fail
          refine (ct _).mono ?_; rintro e w3 ⟨rfl, k3⟩
          have hs3 := k3.own hs2 (by simp)
          have hR3 := hR2.kept k3
          clear p0 p1 hs2 hR2 k3
          have s0 : w3.cell? ⟨b6, 0, none⟩ = some (.int .i64 y1) := hs3.cell 0 (by simp)
          have s1 : w3.cell? ⟨b6, 1, none⟩ = some (.int .i64 y2) := hs3.cell 1 (by simp)
          have z0 := hs3.free 0
          have z1 := hs3.free 1
          have hb3 := hs3.lt
          go_wp2_with fail
          go_roundw
          case rel =>
            refine ⟨4, by omega, rfl, ((hR3.other (a := ⟨b6, 0, none⟩) hsz _).other (a := ⟨b6, 1, none⟩) hsz _).kept ((Kept.refl [] _).alloc _), ?_⟩
            have h5 := ((hs3.set 0 (.int .i64 (y1 + uv.1))).set 1 (.int .i64 (y2 + uv.2))).alloc (.cells #[.int .i64 uv.1, .int .i64 uv.2] 54)
            rw [← E1.out, ← E2.out]
            simpa using h5
          case measure => simp [intOf]
        · have s0 := hs2.cell 0 (by simp)
          have s1 := hs2.cell 1 (by simp)
          have r0 := hR2.r.cell 0 (by simp)
          have r1 := hR2.r.cell 1 (by simp)
          have r2 := hR2.r.cell 2 (by simp)
          have r3 := hR2.r.cell 3 (by simp)
          have rz0 := hR2.r.free 0
          have rz1 := hR2.r.free 1
          have rz2 := hR2.r.free 2
          have rz3 := hR2.r.free 3
          have oz := hR2.o.free 1
          have oc : wr.cell? ⟨w.heap.size + 2, 1, none⟩ = some (.int .i64 0) := hR2.o.cell 1 (by simp [Z4.out])
          have tb1 : -140737488355328 ≤ (z.T 1 4).1 ∧ (z.T 1 4).1 ≤ 140737488355328 := by have := (ht 1 4).1; omega
          obtain ⟨tb1, tb2⟩ := tb1
          by_cases c1 : (z.T 1 4).1.tmod 4 = 0
          · have d1 : ((z.T 1 4).1.tmod 4 != 0) = false := by simpa using c1
            by_cases c2 : (z.T 1 4).2 = 0
            · have d2 : ((z.T 1 4).2 != 0) = false := by simpa using c2
              have hall2 : Aside (∀ j, j < 2 → z.okR j) := fun j hj => by
                by_cases e : j = 1
                · subst e; exact ⟨c1, c2⟩
                · exact hall j (by omega)
              have ho : RowAt z w (wr.setCell ⟨w.heap.size + 2, 1, none⟩ (.int .i64 ((z.T 1 4).1.tdiv 4))) 2 := by
                refine ⟨hR2.p.other (by simp) _, hR2.r.other (by simp) _, ?_, hR2.k.setCell (Or.inr (by simp)) _⟩
                have := hR2.o.set 1 (.int .i64 ((z.T 1 4).1.tdiv 4))
                simpa [Z4.out] using this
              clear hall c1 c2
              go_wp2_with fail
              go_roundw
              case rel => exact ⟨2, by omega, rfl, ho, hall2⟩
              case measure => simp [intOf]
            · have d2 : ((z.T 1 4).2 != 0) = true := by simpa using c2
              have hz : z.ok = false := by
                cases h : z.ok
                · rfl
                · obtain ⟨k0, k1, k2, k3⟩ := z.ok_iff.1 h
                  exact absurd k1.2 c2
              clear hall c1 c2
              go_wp2_with fail
              all_goals refine bodyPost_ret (v := .tuple #[zero4, .bool false]) (by simp [results, Try.results30, go_sem, zero4, r0, r1, r2, r3]) rfl ⟨by first | rfl | (rw [hz]; rfl), ?_⟩
              all_goals refine ((((hR2.k.setCell (Or.inr ?_) _).setCell (Or.inr ?_) _).setCell (Or.inr ?_) _).setCell (Or.inr ?_) _)
              all_goals exact Nat.le_succ _
          · have d1 : ((z.T 1 4).1.tmod 4 != 0) = true := by simpa using c1
            have hz : z.ok = false := by
              cases h : z.ok
              · rfl
              · obtain ⟨k0, k1, k2, k3⟩ := z.ok_iff.1 h
                exact absurd k1.1 c1
            clear hall c1
            go_wp2_with fail
            all_goals refine bodyPost_ret (v := .tuple #[zero4, .bool false]) (by simp [results, Try.results30, go_sem, zero4, r0, r1, r2, r3]) rfl ⟨by first | rfl | (rw [hz]; rfl), ?_⟩
            all_goals refine ((((hR2.k.setCell (Or.inr ?_) _).setCell (Or.inr ?_) _).setCell (Or.inr ?_) _).setCell (Or.inr ?_) _)
            all_goals exact Nat.le_succ _
    · rw [show ((2 : Nat) : Int) = (2 : Int) from rfl]
      go_wp2_with fail
      have hs0 := Own.new wr #[.int .i64 0, .int .i64 0] 54
      have hR1 := hR.kept ((Kept.refl [] wr).alloc (.cells #[.int .i64 0, .int .i64 0] 54))
      have hsz : w.heap.size + 3 ≤ wr.heap.size := by have := hR.o.lt; omega
      clear hR
      obtain ⟨b6, hb6⟩ : ∃ b6, wr.heap.size = b6 := ⟨_, rfl⟩
      rw [hb6] at hs0 hsz ⊢
      generalize wr.alloc (.cells #[.int .i64 0, .int .i64 0] 54) = wr1 at *
      clear hb6
      go_loopw [7, 8] (fun k t w2 => ∃ j : Nat, j ≤ 4 ∧ k = .int .i64 j ∧ RowAt z w w2 2 ∧ Own w2 b6 #[.int .i64 (z.T 2 j).1, .int .i64 (z.T 2 j).2] 54) (fun k _ _ => 4 - (intOf k).toNat)
      case atStart => exact ⟨0, by omega, rfl, hR1, hs0⟩
      case round =>
        obtain ⟨j, hj, rfl, hR2, hs2⟩ := hrel
        clear hR1 hs0
        have hj5 : j = 0 ∨ j = 1 ∨ j = 2 ∨ j = 3 ∨ j = 4 := by omega
        rcases hj5 with rfl | rfl | rfl | rfl | rfl
        · have p0 : wr.cell? ⟨w.heap.size, 0, none⟩ = some (.int .i64 z.n0) := hR2.p.cell 0 (by simp [Z4.cells])
          have p1 : wr.cell? ⟨w.heap.size, 1, none⟩ = some (.int .i64 z.m0) := hR2.p.cell 1 (by simp [Z4.cells])
          have ct : ∀ w, Calls Try.prog 66 #[.agg #[.int .i64 z.n0, .int .i64 z.m0], .int .i64 0] w fun e w' => e = .returned (.agg #[.int .i64 (turnZ (0 % 4) (z.n0, z.m0)).1, .int .i64 (turnZ (0 % 4) (z.n0, z.m0)).2]) ∧ Kept [] w w' := fun w => rturn 0 z.n0 z.m0 w (by decide) (by have := hb.f0; omega) (by have := hb.g0; omega)
          have E1 : Hid ((z.T 2 0).1 + (turnZ (0 % 4) (z.n0, z.m0)).1 = (z.T 2 1).1) := rfl
          have E2 : Hid ((z.T 2 0).2 + (turnZ (0 % 4) (z.n0, z.m0)).2 = (z.T 2 1).2) := rfl
          have u1 := turnZ_bd (k := 0 % 4) hb.f0 hb.g0
          have t1 := ht 2 0
          obtain ⟨u1, u2⟩ := u1
          obtain ⟨t1, t2⟩ := t1
          generalize turnZ (0 % 4) (z.n0, z.m0) = uv at *
          generalize (z.T 2 0).1 = y1 at *
          generalize (z.T 2 0).2 = y2 at *
          have y1b : -140737488355328 ≤ y1 ∧ y1 ≤ 140737488355328 := by omega
          have y2b : -140737488355328 ≤ y2 ∧ y2 ≤ 140737488355328 := by omega
          have v1b : -140737488355328 ≤ uv.1 ∧ uv.1 ≤ 140737488355328 := by omega
          have v2b : -140737488355328 ≤ uv.2 ∧ uv.2 ≤ 140737488355328 := by omega
          obtain ⟨y1a, y1b⟩ := y1b
          obtain ⟨y2a, y2b⟩ := y2b
          obtain ⟨v1a, v1b⟩ := v1b
          obtain ⟨v2a, v2b⟩ := v2b
          clear u1 u2 t1 t2
          go_wp2_with fail
          refine (ct _).mono ?_; rintro e w3 ⟨rfl, k3⟩
          have hs3 := k3.own hs2 (by simp)
          have hR3 := hR2.kept k3
          clear p0 p1 hs2 hR2 k3
          have s0 : w3.cell? ⟨b6, 0, none⟩ = some (.int .i64 y1) := hs3.cell 0 (by simp)
          have s1 : w3.cell? ⟨b6, 1, none⟩ = some (.int .i64 y2) := hs3.cell 1 (by simp)
          have z0 := hs3.free 0
          have z1 := hs3.free 1
          have hb3 := hs3.lt
          go_wp2_with fail
          go_roundw
          case rel =>
            refine ⟨1, by omega, rfl, ((hR3.other (a := ⟨b6, 0, none⟩) hsz _).other (a := ⟨b6, 1, none⟩) hsz _).kept ((Kept.refl [] _).alloc _), ?_⟩
            have h5 := ((hs3.set 0 (.int .i64 (y1 + uv.1))).set 1 (.int .i64 (y2 + uv.2))).alloc (.cells #[.int .i64 uv.1, .int .i64 uv.2] 54)
            rw [← E1.out, ← E2.out]
            simpa using h5
          case measure => simp [intOf]
        · have p0 : wr.cell? ⟨w.heap.size, 2, none⟩ = some (.int .i64 z.n1) := hR2.p.cell 2 (by simp [Z4.cells])
          have p1 : wr.cell? ⟨w.heap.size, 3, none⟩ = some (.int .i64 z.m1) := hR2.p.cell 3 (by simp [Z4.cells])
          have ct : ∀ w, Calls Try.prog 66 #[.agg #[.int .i64 z.n1, .int .i64 z.m1], .int .i64 6] w fun e w' => e = .returned (.agg #[.int .i64 (turnZ (6 % 4) (z.n1, z.m1)).1, .int .i64 (turnZ (6 % 4) (z.n1, z.m1)).2]) ∧ Kept [] w w' := fun w => rturn 6 z.n1 z.m1 w (by decide) (by have := hb.f1; omega) (by have := hb.g1; omega)
          have E1 : Hid ((z.T 2 1).1 + (turnZ (6 % 4) (z.n1, z.m1)).1 = (z.T 2 2).1) := rfl
          have E2 : Hid ((z.T 2 1).2 + (turnZ (6 % 4) (z.n1, z.m1)).2 = (z.T 2 2).2) := rfl
          have u1 := turnZ_bd (k := 6 % 4) hb.f1 hb.g1
          have t1 := ht 2 1
          obtain ⟨u1, u2⟩ := u1
          obtain ⟨t1, t2⟩ := t1
          generalize turnZ (6 % 4) (z.n1, z.m1) = uv at *
          generalize (z.T 2 1).1 = y1 at *
          generalize (z.T 2 1).2 = y2 at *
          have y1b : -140737488355328 ≤ y1 ∧ y1 ≤ 140737488355328 := by omega
          have y2b : -140737488355328 ≤ y2 ∧ y2 ≤ 140737488355328 := by omega
          have v1b : -140737488355328 ≤ uv.1 ∧ uv.1 ≤ 140737488355328 := by omega
          have v2b : -140737488355328 ≤ uv.2 ∧ uv.2 ≤ 140737488355328 := by omega
          obtain ⟨y1a, y1b⟩ := y1b
          obtain ⟨y2a, y2b⟩ := y2b
          obtain ⟨v1a, v1b⟩ := v1b
          obtain ⟨v2a, v2b⟩ := v2b
          clear u1 u2 t1 t2
          go_wp2_with fail
          refine (ct _).mono ?_; rintro e w3 ⟨rfl, k3⟩
          have hs3 := k3.own hs2 (by simp)
          have hR3 := hR2.kept k3
          clear p0 p1 hs2 hR2 k3
          have s0 : w3.cell? ⟨b6, 0, none⟩ = some (.int .i64 y1) := hs3.cell 0 (by simp)
          have s1 : w3.cell? ⟨b6, 1, none⟩ = some (.int .i64 y2) := hs3.cell 1 (by simp)
          have z0 := hs3.free 0
          have z1 := hs3.free 1
          have hb3 := hs3.lt
          go_wp2_with fail
          go_roundw
          case rel =>
            refine ⟨2, by omega, rfl, ((hR3.other (a := ⟨b6, 0, none⟩) hsz _).other (a := ⟨b6, 1, none⟩) hsz _).kept ((Kept.refl [] _).alloc _), ?_⟩
            have h5 := ((hs3.set 0 (.int .i64 (y1 + uv.1))).set 1 (.int .i64 (y2 + uv.2))).alloc (.cells #[.int .i64 uv.1, .int .i64 uv.2] 54)
            rw [← E1.out, ← E2.out]
            simpa using h5
          case measure => simp [intOf]
        · have p0 : wr.cell? ⟨w.heap.size, 4, none⟩ = some (.int .i64 z.n2) := hR2.p.cell 4 (by simp [Z4.cells])
          have p1 : wr.cell? ⟨w.heap.size, 5, none⟩ = some (.int .i64 z.m2) := hR2.p.cell 5 (by simp [Z4.cells])
          have ct : ∀ w, Calls Try.prog 66 #[.agg #[.int .i64 z.n2, .int .i64 z.m2], .int .i64 12] w fun e w' => e = .returned (.agg #[.int .i64 (turnZ (12 % 4) (z.n2, z.m2)).1, .int .i64 (turnZ (12 % 4) (z.n2, z.m2)).2]) ∧ Kept [] w w' := fun w => rturn 12 z.n2 z.m2 w (by decide) (by have := hb.f2; omega) (by have := hb.g2; omega)
          have E1 : Hid ((z.T 2 2).1 + (turnZ (12 % 4) (z.n2, z.m2)).1 = (z.T 2 3).1) := rfl
          have E2 : Hid ((z.T 2 2).2 + (turnZ (12 % 4) (z.n2, z.m2)).2 = (z.T 2 3).2) := rfl
          have u1 := turnZ_bd (k := 12 % 4) hb.f2 hb.g2
          have t1 := ht 2 2
          obtain ⟨u1, u2⟩ := u1
          obtain ⟨t1, t2⟩ := t1
          generalize turnZ (12 % 4) (z.n2, z.m2) = uv at *
          generalize (z.T 2 2).1 = y1 at *
          generalize (z.T 2 2).2 = y2 at *
          have y1b : -140737488355328 ≤ y1 ∧ y1 ≤ 140737488355328 := by omega
          have y2b : -140737488355328 ≤ y2 ∧ y2 ≤ 140737488355328 := by omega
          have v1b : -140737488355328 ≤ uv.1 ∧ uv.1 ≤ 140737488355328 := by omega
          have v2b : -140737488355328 ≤ uv.2 ∧ uv.2 ≤ 140737488355328 := by omega
          obtain ⟨y1a, y1b⟩ := y1b
          obtain ⟨y2a, y2b⟩ := y2b
          obtain ⟨v1a, v1b⟩ := v1b
          obtain ⟨v2a, v2b⟩ := v2b
          clear u1 u2 t1 t2
          go_wp2_with fail
          refine (ct _).mono ?_; rintro e w3 ⟨rfl, k3⟩
          have hs3 := k3.own hs2 (by simp)
          have hR3 := hR2.kept k3
          clear p0 p1 hs2 hR2 k3
          have s0 : w3.cell? ⟨b6, 0, none⟩ = some (.int .i64 y1) := hs3.cell 0 (by simp)
          have s1 : w3.cell? ⟨b6, 1, none⟩ = some (.int .i64 y2) := hs3.cell 1 (by simp)
          have z0 := hs3.free 0
          have z1 := hs3.free 1
          have hb3 := hs3.lt
          go_wp2_with fail
          go_roundw
          case rel =>
            refine ⟨3, by omega, rfl, ((hR3.other (a := ⟨b6, 0, none⟩) hsz _).other (a := ⟨b6, 1, none⟩) hsz _).kept ((Kept.refl [] _).alloc _), ?_⟩
            have h5 := ((hs3.set 0 (.int .i64 (y1 + uv.1))).set 1 (.int .i64 (y2 + uv.2))).alloc (.cells #[.int .i64 uv.1, .int .i64 uv.2] 54)
            rw [← E1.out, ← E2.out]
            simpa using h5
          case measure => simp [intOf]
        · have p0 : wr.cell? ⟨w.heap.size, 6, none⟩ = some (.int .i64 z.n3) := hR2.p.cell 6 (by simp [Z4.cells])
          have p1 : wr.cell? ⟨w.heap.size, 7, none⟩ = some (.int .i64 z.m3) := hR2.p.cell 7 (by simp [Z4.cells])
          have ct : ∀ w, Calls Try.prog 66 #[.agg #[.int .i64 z.n3, .int .i64 z.m3], .int .i64 18] w fun e w' => e = .returned (.agg #[.int .i64 (turnZ (18 % 4) (z.n3, z.m3)).1, .int .i64 (turnZ (18 % 4) (z.n3, z.m3)).2]) ∧ Kept [] w w' := fun w => rturn 18 z.n3 z.m3 w (by decide) (by have := hb.f3; omega) (by have := hb.g3; omega)
          have E1 : Hid ((z.T 2 3).1 + (turnZ (18 % 4) (z.n3, z.m3)).1 = (z.T 2 4).1) := rfl
          have E2 : Hid ((z.T 2 3).2 + (turnZ (18 % 4) (z.n3, z.m3)).2 = (z.T 2 4).2) := rfl
          have u1 := turnZ_bd (k := 18 % 4) hb.f3 hb.g3
          have t1 := ht 2 3
          obtain ⟨u1, u2⟩ := u1
          obtain ⟨t1, t2⟩ := t1
          generalize turnZ (18 % 4) (z.n3, z.m3) = uv at *
          generalize (z.T 2 3).1 = y1 at *
          generalize (z.T 2 3).2 = y2 at *
          have y1b : -140737488355328 ≤ y1 ∧ y1 ≤ 140737488355328 := by omega
          have y2b : -140737488355328 ≤ y2 ∧ y2 ≤ 140737488355328 := by omega
          have v1b : -140737488355328 ≤ uv.1 ∧ uv.1 ≤ 140737488355328 := by omega
          have v2b : -140737488355328 ≤ uv.2 ∧ uv.2 ≤ 140737488355328 := by omega
          obtain ⟨y1a, y1b⟩ := y1b
          obtain ⟨y2a, y2b⟩ := y2b
          obtain ⟨v1a, v1b⟩ := v1b
          obtain ⟨v2a, v2b⟩ := v2b
          clear u1 u2 t1 t2
          go_wp2_with fail
          refine (ct _).mono ?_; rintro e w3 ⟨rfl, k3⟩
          have hs3 := k3.own hs2 (by simp)
          have hR3 := hR2.kept k3
          clear p0 p1 hs2 hR2 k3
          have s0 : w3.cell? ⟨b6, 0, none⟩ = some (.int .i64 y1) := hs3.cell 0 (by simp)
          have s1 : w3.cell? ⟨b6, 1, none⟩ = some (.int .i64 y2) := hs3.cell 1 (by simp)
          have z0 := hs3.free 0
          have z1 := hs3.free 1
          have hb3 := hs3.lt
          go_wp2_with fail
          go_roundw
          case rel =>
            refine ⟨4, by omega, rfl, ((hR3.other (a := ⟨b6, 0, none⟩) hsz _).other (a := ⟨b6, 1, none⟩) hsz _).kept ((Kept.refl [] _).alloc _), ?_⟩
            have h5 := ((hs3.set 0 (.int .i64 (y1 + uv.1))).set 1 (.int .i64 (y2 + uv.2))).alloc (.cells #[.int .i64 uv.1, .int .i64 uv.2] 54)
            rw [← E1.out, ← E2.out]
            simpa using h5
          case measure => simp [intOf]
        · have s0 := hs2.cell 0 (by simp)
          have s1 := hs2.cell 1 (by simp)
          have r0 := hR2.r.cell 0 (by simp)
          have r1 := hR2.r.cell 1 (by simp)
          have r2 := hR2.r.cell 2 (by simp)
          have r3 := hR2.r.cell 3 (by simp)
          have rz0 := hR2.r.free 0
          have rz1 := hR2.r.free 1
          have rz2 := hR2.r.free 2
          have rz3 := hR2.r.free 3
          have oz := hR2.o.free 2
          have oc : wr.cell? ⟨w.heap.size + 2, 2, none⟩ = some (.int .i64 0) := hR2.o.cell 2 (by simp [Z4.out])
          have tb1 : -140737488355328 ≤ (z.T 2 4).1 ∧ (z.T 2 4).1 ≤ 140737488355328 := by have := (ht 2 4).1; omega
          obtain ⟨tb1, tb2⟩ := tb1
          by_cases c1 : (z.T 2 4).1.tmod 4 = 0
          · have d1 : ((z.T 2 4).1.tmod 4 != 0) = false := by simpa using c1
            by_cases c2 : (z.T 2 4).2 = 0
            · have d2 : ((z.T 2 4).2 != 0) = false := by simpa using c2
              have hall2 : Aside (∀ j, j < 3 → z.okR j) := fun j hj => by
                by_cases e : j = 2
                · subst e; exact ⟨c1, c2⟩
                · exact hall j (by omega)
              have ho : RowAt z w (wr.setCell ⟨w.heap.size + 2, 2, none⟩ (.int .i64 ((z.T 2 4).1.tdiv 4))) 3 := by
                refine ⟨hR2.p.other (by simp) _, hR2.r.other (by simp) _, ?_, hR2.k.setCell (Or.inr (by simp)) _⟩
                have := hR2.o.set 2 (.int .i64 ((z.T 2 4).1.tdiv 4))
                simpa [Z4.out] using this
              clear hall c1 c2
              go_wp2_with fail
              go_roundw
              case rel => exact ⟨3, by omega, rfl, ho, hall2⟩
              case measure => simp [intOf]
            · have d2 : ((z.T 2 4).2 != 0) = true := by simpa using c2
              have hz : z.ok = false := by
                cases h : z.ok
                · rfl
                · obtain ⟨k0, k1, k2, k3⟩ := z.ok_iff.1 h
                  exact absurd k2.2 c2
              clear hall c1 c2
              go_wp2_with fail
              all_goals refine bodyPost_ret (v := .tuple #[zero4, .bool false]) (by simp [results, Try.results30, go_sem, zero4, r0, r1, r2, r3]) rfl ⟨by first | rfl | (rw [hz]; rfl), ?_⟩
              all_goals refine ((((hR2.k.setCell (Or.inr ?_) _).setCell (Or.inr ?_) _).setCell (Or.inr ?_) _).setCell (Or.inr ?_) _)
              all_goals exact Nat.le_succ _
          · have d1 : ((z.T 2 4).1.tmod 4 != 0) = true := by simpa using c1
            have hz : z.ok = false := by
              cases h : z.ok
              · rfl
              · obtain ⟨k0, k1, k2, k3⟩ := z.ok_iff.1 h
                exact absurd k2.1 c1
            clear hall c1
            go_wp2_with fail
            all_goals refine bodyPost_ret (v := .tuple #[zero4, .bool false]) (by simp [results, Try.results30, go_sem, zero4, r0, r1, r2, r3]) rfl ⟨by first | rfl | (rw [hz]; rfl), ?_⟩
            all_goals refine ((((hR2.k.setCell (Or.inr ?_) _).setCell (Or.inr ?_) _).setCell (Or.inr ?_) _).setCell (Or.inr ?_) _)
            all_goals exact Nat.le_succ _
    · rw [show ((3 : Nat) : Int) = (3 : Int) from rfl]
      go_wp2_with fail
      have hs0 := Own.new wr #[.int .i64 0, .int .i64 0] 54
      have hR1 := hR.kept ((Kept.refl [] wr).alloc (.cells #[.int .i64 0, .int .i64 0] 54))
      have hsz : w.heap.size + 3 ≤ wr.heap.size := by have := hR.o.lt; omega
      clear hR
      obtain ⟨b6, hb6⟩ : ∃ b6, wr.heap.size = b6 := ⟨_, rfl⟩
      rw [hb6] at hs0 hsz ⊢
      generalize wr.alloc (.cells #[.int .i64 0, .int .i64 0] 54) = wr1 at *
      clear hb6
      go_loopw [7, 8] (fun k t w2 => ∃ j : Nat, j ≤ 4 ∧ k = .int .i64 j ∧ RowAt z w w2 3 ∧ Own w2 b6 #[.int .i64 (z.T 3 j).1, .int .i64 (z.T 3 j).2] 54) (fun k _ _ => 4 - (intOf k).toNat)
      case atStart => exact ⟨0, by omega, rfl, hR1, hs0⟩
      case round =>
        obtain ⟨j, hj, rfl, hR2, hs2⟩ := hrel
        clear hR1 hs0
        have hj5 : j = 0 ∨ j = 1 ∨ j = 2 ∨ j = 3 ∨ j = 4 := by omega
        rcases hj5 with rfl | rfl | rfl | rfl | rfl
        · have p0 : wr.cell? ⟨w.heap.size, 0, none⟩ = some (.int .i64 z.n0) := hR2.p.cell 0 (by simp [Z4.cells])
          have p1 : wr.cell? ⟨w.heap.size, 1, none⟩ = some (.int .i64 z.m0) := hR2.p.cell 1 (by simp [Z4.cells])
          have ct : ∀ w, Calls Try.prog 66 #[.agg #[.int .i64 z.n0, .int .i64 z.m0], .int .i64 0] w fun e w' => e = .returned (.agg #[.int .i64 (turnZ (0 % 4) (z.n0, z.m0)).1, .int .i64 (turnZ (0 % 4) (z.n0, z.m0)).2]) ∧ Kept [] w w' := fun w => rturn 0 z.n0 z.m0 w (by decide) (by have := hb.f0; omega) (by have := hb.g0; omega)
          have E1 : Hid ((z.T 3 0).1 + (turnZ (0 % 4) (z.n0, z.m0)).1 = (z.T 3 1).1) := rfl
          have E2 : Hid ((z.T 3 0).2 + (turnZ (0 % 4) (z.n0, z.m0)).2 = (z.T 3 1).2) := rfl
          have u1 := turnZ_bd (k := 0 % 4) hb.f0 hb.g0
          have t1 := ht 3 0
          obtain ⟨u1, u2⟩ := u1
          obtain ⟨t1, t2⟩ := t1
          generalize turnZ (0 % 4) (z.n0, z.m0) = uv at *
          generalize (z.T 3 0).1 = y1 at *
          generalize (z.T 3 0).2 = y2 at *
          have y1b : -140737488355328 ≤ y1 ∧ y1 ≤ 140737488355328 := by omega
          have y2b : -140737488355328 ≤ y2 ∧ y2 ≤ 140737488355328 := by omega
          have v1b : -140737488355328 ≤ uv.1 ∧ uv.1 ≤ 140737488355328 := by omega
          have v2b : -140737488355328 ≤ uv.2 ∧ uv.2 ≤ 140737488355328 := by omega
          obtain ⟨y1a, y1b⟩ := y1b
          obtain ⟨y2a, y2b⟩ := y2b
          obtain ⟨v1a, v1b⟩ := v1b
          obtain ⟨v2a, v2b⟩ := v2b
          clear u1 u2 t1 t2
          go_wp2_with fail
          refine (ct _).mono ?_; rintro e w3 ⟨rfl, k3⟩
          have hs3 := k3.own hs2 (by simp)
          have hR3 := hR2.kept k3
          clear p0 p1 hs2 hR2 k3
          have s0 : w3.cell? ⟨b6, 0, none⟩ = some (.int .i64 y1) := hs3.cell 0 (by simp)
          have s1 : w3.cell? ⟨b6, 1, none⟩ = some (.int .i64 y2) := hs3.cell 1 (by simp)
          have z0 := hs3.free 0
          have z1 := hs3.free 1
          have hb3 := hs3.lt
          go_wp2_with fail
          go_roundw
          case rel =>
            refine ⟨1, by omega, rfl, ((hR3.other (a := ⟨b6, 0, none⟩) hsz _).other (a := ⟨b6, 1, none⟩) hsz _).kept ((Kept.refl [] _).alloc _), ?_⟩
            have h5 := ((hs3.set 0 (.int .i64 (y1 + uv.1))).set 1 (.int .i64 (y2 + uv.2))).alloc (.cells #[.int .i64 uv.1, .int .i64 uv.2] 54)
            rw [← E1.out, ← E2.out]
            simpa using h5
          case measure => simp [intOf]
        · have p0 : wr.cell? ⟨w.heap.size, 2, none⟩ = some (.int .i64 z.n1) := hR2.p.cell 2 (by simp [Z4.cells])
          have p1 : wr.cell? ⟨w.heap.size, 3, none⟩ = some (.int .i64 z.m1) := hR2.p.cell 3 (by simp [Z4.cells])
          have ct : ∀ w, Calls Try.prog 66 #[.agg #[.int .i64 z.n1, .int .i64 z.m1], .int .i64 9] w fun e w' => e = .returned (.agg #[.int .i64 (turnZ (9 % 4) (z.n1, z.m1)).1, .int .i64 (turnZ (9 % 4) (z.n1, z.m1)).2]) ∧ Kept [] w w' := fun w => rturn 9 z.n1 z.m1 w (by decide) (by have := hb.f1; omega) (by have := hb.g1; omega)
          have E1 : Hid ((z.T 3 1).1 + (turnZ (9 % 4) (z.n1, z.m1)).1 = (z.T 3 2).1) := rfl
          have E2 : Hid ((z.T 3 1).2 + (turnZ (9 % 4) (z.n1, z.m1)).2 = (z.T 3 2).2) := rfl
          have u1 := turnZ_bd (k := 9 % 4) hb.f1 hb.g1
          have t1 := ht 3 1
          obtain ⟨u1, u2⟩ := u1
          obtain ⟨t1, t2⟩ := t1
          generalize turnZ (9 % 4) (z.n1, z.m1) = uv at *
          generalize (z.T 3 1).1 = y1 at *
          generalize (z.T 3 1).2 = y2 at *
          have y1b : -140737488355328 ≤ y1 ∧ y1 ≤ 140737488355328 := by omega
          have y2b : -140737488355328 ≤ y2 ∧ y2 ≤ 140737488355328 := by omega
          have v1b : -140737488355328 ≤ uv.1 ∧ uv.1 ≤ 140737488355328 := by omega
          have v2b : -140737488355328 ≤ uv.2 ∧ uv.2 ≤ 140737488355328 := by omega
          obtain ⟨y1a, y1b⟩ := y1b
          obtain ⟨y2a, y2b⟩ := y2b
          obtain ⟨v1a, v1b⟩ := v1b
          obtain ⟨v2a, v2b⟩ := v2b
          clear u1 u2 t1 t2
          go_wp2_with fail
          refine (ct _).mono ?_; rintro e w3 ⟨rfl, k3⟩
          have hs3 := k3.own hs2 (by simp)
          have hR3 := hR2.kept k3
          clear p0 p1 hs2 hR2 k3
          have s0 : w3.cell? ⟨b6, 0, none⟩ = some (.int .i64 y1) := hs3.cell 0 (by simp)
          have s1 : w3.cell? ⟨b6, 1, none⟩ = some (.int .i64 y2) := hs3.cell 1 (by simp)
          have z0 := hs3.free 0
          have z1 := hs3.free 1
          have hb3 := hs3.lt
          go_wp2_with fail
          go_roundw
          case rel =>
            refine ⟨2, by omega, rfl, ((hR3.other (a := ⟨b6, 0, none⟩) hsz _).other (a := ⟨b6, 1, none⟩) hsz _).kept ((Kept.refl [] _).alloc _), ?_⟩
            have h5 := ((hs3.set 0 (.int .i64 (y1 + uv.1))).set 1 (.int .i64 (y2 + uv.2))).alloc (.cells #[.int .i64 uv.1, .int .i64 uv.2] 54)
            rw [← E1.out, ← E2.out]
            simpa using h5
          case measure => simp [intOf]
        · have p0 : wr.cell? ⟨w.heap.size, 4, none⟩ = some (.int .i64 z.n2) := hR2.p.cell 4 (by simp [Z4.cells])
          have p1 : wr.cell? ⟨w.heap.size, 5, none⟩ = some (.int .i64 z.m2) := hR2.p.cell 5 (by simp [Z4.cells])
          have ct : ∀ w, Calls Try.prog 66 #[.agg #[.int .i64 z.n2, .int .i64 z.m2], .int .i64 18] w fun e w' => e = .returned (.agg #[.int .i64 (turnZ (18 % 4) (z.n2, z.m2)).1, .int .i64 (turnZ (18 % 4) (z.n2, z.m2)).2]) ∧ Kept [] w w' := fun w => rturn 18 z.n2 z.m2 w (by decide) (by have := hb.f2; omega) (by have := hb.g2; omega)
          have E1 : Hid ((z.T 3 2).1 + (turnZ (18 % 4) (z.n2, z.m2)).1 = (z.T 3 3).1) := rfl
          have E2 : Hid ((z.T 3 2).2 + (turnZ (18 % 4) (z.n2, z.m2)).2 = (z.T 3 3).2) := rfl
          have u1 := turnZ_bd (k := 18 % 4) hb.f2 hb.g2
          have t1 := ht 3 2
          obtain ⟨u1, u2⟩ := u1
          obtain ⟨t1, t2⟩ := t1
          generalize turnZ (18 % 4) (z.n2, z.m2) = uv at *
          generalize (z.T 3 2).1 = y1 at *
          generalize (z.T 3 2).2 = y2 at *
          have y1b : -140737488355328 ≤ y1 ∧ y1 ≤ 140737488355328 := by omega
          have y2b : -140737488355328 ≤ y2 ∧ y2 ≤ 140737488355328 := by omega
          have v1b : -140737488355328 ≤ uv.1 ∧ uv.1 ≤ 140737488355328 := by omega
          have v2b : -140737488355328 ≤ uv.2 ∧ uv.2 ≤ 140737488355328 := by omega
          obtain ⟨y1a, y1b⟩ := y1b
          obtain ⟨y2a, y2b⟩ := y2b
          obtain ⟨v1a, v1b⟩ := v1b
          obtain ⟨v2a, v2b⟩ := v2b
          clear u1 u2 t1 t2
          go_wp2_with fail
          refine (ct _).mono ?_; rintro e w3 ⟨rfl, k3⟩
          have hs3 := k3.own hs2 (by simp)
          have hR3 := hR2.kept k3
          clear p0 p1 hs2 hR2 k3
          have s0 : w3.cell? ⟨b6, 0, none⟩ = some (.int .i64 y1) := hs3.cell 0 (by simp)
          have s1 : w3.cell? ⟨b6, 1, none⟩ = some (.int .i64 y2) := hs3.cell 1 (by simp)
          have z0 := hs3.free 0
          have z1 := hs3.free 1
          have hb3 := hs3.lt
          go_wp2_with fail
          go_roundw
          case rel =>
            refine ⟨3, by omega, rfl, ((hR3.other (a := ⟨b6, 0, none⟩) hsz _).other (a := ⟨b6, 1, none⟩) hsz _).kept ((Kept.refl [] _).alloc _), ?_⟩
            have h5 := ((hs3.set 0 (.int .i64 (y1 + uv.1))).set 1 (.int .i64 (y2 + uv.2))).alloc (.cells #[.int .i64 uv.1, .int .i64 uv.2] 54)
            rw [← E1.out, ← E2.out]
            simpa using h5
          case measure => simp [intOf]
        · have p0 : wr.cell? ⟨w.heap.size, 6, none⟩ = some (.int .i64 z.n3) := hR2.p.cell 6 (by simp [Z4.cells])
          have p1 : wr.cell? ⟨w.heap.size, 7, none⟩ = some (.int .i64 z.m3) := hR2.p.cell 7 (by simp [Z4.cells])
          have ct : ∀ w, Calls Try.prog 66 #[.agg #[.int .i64 z.n3, .int .i64 z.m3], .int .i64 27] w fun e w' => e = .returned (.agg #[.int .i64 (turnZ (27 % 4) (z.n3, z.m3)).1, .int .i64 (turnZ (27 % 4) (z.n3, z.m3)).2]) ∧ Kept [] w w' := fun w => rturn 27 z.n3 z.m3 w (by decide) (by have := hb.f3; omega) (by have := hb.g3; omega)
          have E1 : Hid ((z.T 3 3).1 + (turnZ (27 % 4) (z.n3, z.m3)).1 = (z.T 3 4).1) := rfl
          have E2 : Hid ((z.T 3 3).2 + (turnZ (27 % 4) (z.n3, z.m3)).2 = (z.T 3 4).2) := rfl
          have u1 := turnZ_bd (k := 27 % 4) hb.f3 hb.g3
          have t1 := ht 3 3
          obtain ⟨u1, u2⟩ := u1
          obtain ⟨t1, t2⟩ := t1
          generalize turnZ (27 % 4) (z.n3, z.m3) = uv at *
          generalize (z.T 3 3).1 = y1 at *
          generalize (z.T 3 3).2 = y2 at *
          have y1b : -140737488355328 ≤ y1 ∧ y1 ≤ 140737488355328 := by omega
          have y2b : -140737488355328 ≤ y2 ∧ y2 ≤ 140737488355328 := by omega
          have v1b : -140737488355328 ≤ uv.1 ∧ uv.1 ≤ 140737488355328 := by omega
          have v2b : -140737488355328 ≤ uv.2 ∧ uv.2 ≤ 140737488355328 := by omega
          obtain ⟨y1a, y1b⟩ := y1b
          obtain ⟨y2a, y2b⟩ := y2b
          obtain ⟨v1a, v1b⟩ := v1b
          obtain ⟨v2a, v2b⟩ := v2b
          clear u1 u2 t1 t2
          go_wp2_with fail
          refine (ct _).mono ?_; rintro e w3 ⟨rfl, k3⟩
          have hs3 := k3.own hs2 (by simp)
          have hR3 := hR2.kept k3
          clear p0 p1 hs2 hR2 k3
          have s0 : w3.cell? ⟨b6, 0, none⟩ = some (.int .i64 y1) := hs3.cell 0 (by simp)
          have s1 : w3.cell? ⟨b6, 1, none⟩ = some (.int .i64 y2) := hs3.cell 1 (by simp)
          have z0 := hs3.free 0
          have z1 := hs3.free 1
          have hb3 := hs3.lt
          go_wp2_with fail
          go_roundw
          case rel =>
            refine ⟨4, by omega, rfl, ((hR3.other (a := ⟨b6, 0, none⟩) hsz _).other (a := ⟨b6, 1, none⟩) hsz _).kept ((Kept.refl [] _).alloc _), ?_⟩
            have h5 := ((hs3.set 0 (.int .i64 (y1 + uv.1))).set 1 (.int .i64 (y2 + uv.2))).alloc (.cells #[.int .i64 uv.1, .int .i64 uv.2] 54)
            rw [← E1.out, ← E2.out]
            simpa using h5
          case measure => simp [intOf]
        · have s0 := hs2.cell 0 (by simp)
          have s1 := hs2.cell 1 (by simp)
          have r0 := hR2.r.cell 0 (by simp)
          have r1 := hR2.r.cell 1 (by simp)
          have r2 := hR2.r.cell 2 (by simp)
          have r3 := hR2.r.cell 3 (by simp)
          have rz0 := hR2.r.free 0
          have rz1 := hR2.r.free 1
          have rz2 := hR2.r.free 2
          have rz3 := hR2.r.free 3
          have oz := hR2.o.free 3
          have oc : wr.cell? ⟨w.heap.size + 2, 3, none⟩ = some (.int .i64 0) := hR2.o.cell 3 (by simp [Z4.out])
          have tb1 : -140737488355328 ≤ (z.T 3 4).1 ∧ (z.T 3 4).1 ≤ 140737488355328 := by have := (ht 3 4).1; omega
          obtain ⟨tb1, tb2⟩ := tb1
          by_cases c1 : (z.T 3 4).1.tmod 4 = 0
          · have d1 : ((z.T 3 4).1.tmod 4 != 0) = false := by simpa using c1
            by_cases c2 : (z.T 3 4).2 = 0
            · have d2 : ((z.T 3 4).2 != 0) = false := by simpa using c2
              have hall2 : Aside (∀ j, j < 4 → z.okR j) := fun j hj => by
                by_cases e : j = 3
                · subst e; exact ⟨c1, c2⟩
                · exact hall j (by omega)
              have ho : RowAt z w (wr.setCell ⟨w.heap.size + 2, 3, none⟩ (.int .i64 ((z.T 3 4).1.tdiv 4))) 4 := by
                refine ⟨hR2.p.other (by simp) _, hR2.r.other (by simp) _, ?_, hR2.k.setCell (Or.inr (by simp)) _⟩
                have := hR2.o.set 3 (.int .i64 ((z.T 3 4).1.tdiv 4))
                simpa [Z4.out] using this
              clear hall c1 c2
              go_wp2_with fail
              go_roundw
              case rel => exact ⟨4, by omega, rfl, ho, hall2⟩
              case measure => simp [intOf]
            · have d2 : ((z.T 3 4).2 != 0) = true := by simpa using c2
              have hz : z.ok = false := by
                cases h : z.ok
                · rfl
                · obtain ⟨k0, k1, k2, k3⟩ := z.ok_iff.1 h
                  exact absurd k3.2 c2
              clear hall c1 c2
              go_wp2_with fail
              all_goals refine bodyPost_ret (v := .tuple #[zero4, .bool false]) (by simp [results, Try.results30, go_sem, zero4, r0, r1, r2, r3]) rfl ⟨by first | rfl | (rw [hz]; rfl), ?_⟩
              all_goals refine ((((hR2.k.setCell (Or.inr ?_) _).setCell (Or.inr ?_) _).setCell (Or.inr ?_) _).setCell (Or.inr ?_) _)
              all_goals exact Nat.le_succ _
          · have d1 : ((z.T 3 4).1.tmod 4 != 0) = true := by simpa using c1
            have hz : z.ok = false := by
              cases h : z.ok
              · rfl
              · obtain ⟨k0, k1, k2, k3⟩ := z.ok_iff.1 h
                exact absurd k3.1 c1
            clear hall c1
            go_wp2_with fail
            all_goals refine bodyPost_ret (v := .tuple #[zero4, .bool false]) (by simp [results, Try.results30, go_sem, zero4, r0, r1, r2, r3]) rfl ⟨by first | rfl | (rw [hz]; rfl), ?_⟩
            all_goals refine ((((hR2.k.setCell (Or.inr ?_) _).setCell (Or.inr ?_) _).setCell (Or.inr ?_) _).setCell (Or.inr ?_) _)
            all_goals exact Nat.le_succ _
    · have hz : z.ok = true := z.ok_iff.2 ⟨hall 0 (by omega), hall 1 (by omega), hall 2 (by omega), hall 3 (by omega)⟩
      obtain ⟨q0, q1, q2, q3⟩ := z.ok_q hz
      have o0 := hR.o.cell 0 (by simp [Z4.out])
      have o1 := hR.o.cell 1 (by simp [Z4.out])
      have o2 := hR.o.cell 2 (by simp [Z4.out])
      have o3 := hR.o.cell 3 (by simp [Z4.out])
      have r0 := hR.r.cell 0 (by simp)
      have r1 := hR.r.cell 1 (by simp)
      have r2 := hR.r.cell 2 (by simp)
      have r3 := hR.r.cell 3 (by simp)
      have rz0 := hR.r.free 0
      have rz1 := hR.r.free 1
      have rz2 := hR.r.free 2
      have rz3 := hR.r.free 3
      simp only [Z4.out] at o0 o1 o2 o3
      simp [q0, q1, q2, q3] at o0 o1 o2 o3
      clear q0 q1 q2 q3 hall
      go_wp2_with fail
      refine bodyPost_ret (v := .tuple #[z.qv, .bool true]) (by simp [results, Try.results30, go_sem, Z4.qv, r0, r1, r2, r3]) rfl ⟨by first | rfl | (rw [hz]; rfl), ?_⟩
      refine ((((hR.k.setCell (Or.inr ?_) _).setCell (Or.inr ?_) _).setCell (Or.inr ?_) _).setCell (Or.inr ?_) _)
      all_goals exact Nat.le_succ _
end Go.Proofs.Ytkghkkfcgegmeaa
