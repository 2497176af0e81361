/- Walks of layer 34 (phase): the reference's phases of a row, number by number. -/
import Derived.Test.YtkghkkfcgegmeaaH16
namespace Go.Proofs.Ytkghkkfcgegmeaa
open Go.RowKit Fl
set_option linter.unusedVariables false
set_option linter.unusedSimpArgs false

/-- the k-th phase of four sums. -/
def Q4.phat (q : Q4) : Nat → Int × Int
  | 0 => (q.q0 + q.q2 + (q.q1 + q.q3), 0)
  | 1 => (q.q0 - q.q2, q.q1 - q.q3)
  | 2 => (q.q0 + q.q2 - (q.q1 + q.q3), 0)
  | _ => (q.q0 - q.q2, -(q.q1 - q.q3))
theorem phat_step (q : Q4) (j k : Nat) (x : Int) (hj : j < 4) (hk : k < 4) : (q.bump j x).phat k = ((q.phat k).1 + (turnZ (k * j % 4) (x, 0)).1, (q.phat k).2 + (turnZ (k * j % 4) (x, 0)).2) := by
  have hj4 : j = 0 ∨ j = 1 ∨ j = 2 ∨ j = 3 := by omega
  have hk4 : k = 0 ∨ k = 1 ∨ k = 2 ∨ k = 3 := by omega
  rcases hj4 with rfl | rfl | rfl | rfl <;> rcases hk4 with rfl | rfl | rfl | rfl <;> simp [Q4.bump, Q4.phat, turnZ] <;> omega
theorem phat_bd {q : Q4} {M : Nat} (h : q.bd M) (k : Nat) : (q.phat k).1.natAbs ≤ 4 * M ∧ (q.phat k).2.natAbs ≤ 4 * M := by
  obtain ⟨a, b, c, d⟩ := h
  unfold Q4.phat
  split <;> simp only <;> omega
/-- the phases of four sums as whole numbers. -/
def Q4.z (q : Q4) : Z4 := ⟨(q.phat 0).1, (q.phat 0).2, (q.phat 1).1, (q.phat 1).2, (q.phat 2).1, (q.phat 2).2, (q.phat 3).1, (q.phat 3).2⟩
def cell8 (a b c d e f g h : Int) : Array Value := #[.int .i64 a, .int .i64 b, .int .i64 c, .int .i64 d, .int .i64 e, .int .i64 f, .int .i64 g, .int .i64 h]
/-- the phases found, so many whole, and the next one over the first n numbers. -/
def ofCells (l : List Int) (k n : Nat) : Array Value :=
  let q := qsum l l.length
  let r := qsum l n
  match k with
  | 0 => cell8 (r.phat 0).1 (r.phat 0).2 0 0 0 0 0 0
  | 1 => cell8 (q.phat 0).1 (q.phat 0).2 (r.phat 1).1 (r.phat 1).2 0 0 0 0
  | 2 => cell8 (q.phat 0).1 (q.phat 0).2 (q.phat 1).1 (q.phat 1).2 (r.phat 2).1 (r.phat 2).2 0 0
  | _ => cell8 (q.phat 0).1 (q.phat 0).2 (q.phat 1).1 (q.phat 1).2 (q.phat 2).1 (q.phat 2).2 (r.phat 3).1 (r.phat 3).2
theorem ofCells_next (l : List Int) (k : Nat) (hk : k < 3) : ofCells l k l.length = ofCells l (k + 1) 0 := by
  have h3 : k = 0 ∨ k = 1 ∨ k = 2 := by omega
  rcases h3 with rfl | rfl | rfl <;> simp [ofCells, qsum, Q4.phat]
theorem ofCells_end (l : List Int) : ofCells l 3 l.length = (qsum l l.length).z.cells := rfl
def cells0 : Array Value := cell8 0 0 0 0 0 0 0 0
theorem ofCells_start (l : List Int) : ofCells l 0 0 = cells0 := by simp [ofCells, cells0, qsum, Q4.phat]

def ROfSays (l : List Int) (w : World) (e : Ending) (w' : World) : Prop := e = .returned (.agg (qsum l l.length).z.cells) ∧ Kept [] w w'

set_option maxRecDepth 100000 in
set_option maxHeartbeats 8000000 in
theorem rof (l : List Int) (v : Value) (w : World) (h : IntsAt .i64 w v l) (hm : mayL l = true) :
    Calls Try.prog 40 #[v] w (ROfSays l w) := by
  obtain ⟨a, c, b, off, rfl, hlen, hab, hcell⟩ := h.any
  clear h
  simp only [mayL, Bool.and_eq_true, decide_eq_true_eq] at hm
  obtain ⟨hlen2, hin⟩ := hm
  have hin2 : Aside (∀ i, i < l.length → inR (l.getD i 0) = true) := fun i hi => by
    rw [getD_of hi]; exact List.all_eq_true.1 hin _ (List.getElem_mem hi)
  have hcell2 : Aside (∀ i (h : i < l.length), w.cell? ⟨b, off + i, none⟩ = some (.int .i64 l[i])) := hcell
  have hab2 : Aside (0 < l.length → a = some ⟨b, off, none⟩ ∧ b < w.heap.size) := hab
  clear hin hcell hab
  go_enter Try.func40, Try.ntmps40
  go_wp2_with fail
  have hS : Own ((w.alloc (.cells cells0 55)).alloc (.cells cells0 55)) w.heap.size cells0 55 ∧ Own ((w.alloc (.cells cells0 55)).alloc (.cells cells0 55)) (w.heap.size + 1) (ofCells l 0 0) 55 ∧ Kept [] w ((w.alloc (.cells cells0 55)).alloc (.cells cells0 55)) := by
    rw [ofCells_start]; exact ⟨(own_two w _ _ _ _).1, (own_two w _ _ _ _).2, ((Kept.refl _ _).alloc _).alloc _⟩
  simp only [cells0, cell8] at hS
  obtain ⟨s1, s2, s3⟩ := hS
  generalize (w.alloc (.cells #[.int .i64 0, .int .i64 0, .int .i64 0, .int .i64 0, .int .i64 0, .int .i64 0, .int .i64 0, .int .i64 0] 55)).alloc (.cells #[.int .i64 0, .int .i64 0, .int .i64 0, .int .i64 0, .int .i64 0, .int .i64 0, .int .i64 0, .int .i64 0] 55) = ws at *
  refine wp_loop_rounds 5 ?_
  rw [rounds_succ]
  go_wp2_with fail
  go_loopw [5] (fun i wr => ∃ n : Nat, n ≤ l.length ∧ i = .int .i64 n ∧ Own wr w.heap.size cells0 55 ∧ Own wr (w.heap.size + 1) (ofCells l 0 n) 55 ∧ Kept [] w wr) (fun i _ => l.length - (intOf i).toNat)
  case atStart => exact ⟨0, Nat.zero_le _, rfl, s1, s2, s3⟩
  clear s1 s2 s3
  case round =>
    obtain ⟨n, hn, rfl, ho, hq, hkk⟩ := hrel
    by_cases hlt : n < l.length
    · obtain ⟨rfl, hbw⟩ := hab2 (by omega)
      have hc : wr.cell? ⟨b, off + n, none⟩ = some (.int .i64 (l.getD n 0)) := by
        rw [hkk.cell (by exact hbw) (by simp), hcell2 n hlt, getD_of hlt]
      obtain ⟨hx1, hx2⟩ := inR_iff.1 (hin2 n hlt)
      have hph := phat_bd (qsum_bd (l := l) (k := n) (fun i hi => hin2 i (by omega))) 0
      have hstep : Hid ((qsum l (n + 1)).phat 0 = (((qsum l n).phat 0).1 + (turnZ (0 * (n % 4) % 4) (l.getD n 0, 0)).1, ((qsum l n).phat 0).2 + (turnZ (0 * (n % 4) % 4) (l.getD n 0, 0)).2)) := phat_step (qsum l n) (n % 4) 0 (l.getD n 0) (by omega) (by decide)
      have ct : Hid (∀ w, Calls Try.prog 66 #[.agg #[.int .i64 (l.getD n 0), .int .i64 0], .int .i64 (0)] w fun e w' => e = .returned (.agg #[.int .i64 (turnZ (0 * (n % 4) % 4) (l.getD n 0, 0)).1, .int .i64 (turnZ (0 * (n % 4) % 4) (l.getD n 0, 0)).2]) ∧ Kept [] w w') := fun w => by
        have := rturn (0 * (n % 4)) (l.getD n 0) 0 w (by omega) (by omega) (by decide)
        rwa [show (((0 * (n % 4) : Nat)) : Int) = 0 from by omega] at this
      have hu := turnZ_bd (k := 0 * (n % 4) % 4) (a := l.getD n 0) (b := 0) (by omega) (by decide)
      have hnx : Hid (ofCells l 0 (n + 1) = (let q := qsum l l.length; let r := (qsum l (n + 1)).phat 0; cell8 r.1 r.2 0 0 0 0 0 0)) := rfl
      simp only [ofCells, cell8] at hq
      generalize qsum l l.length = Q at *
      generalize (qsum l n).phat 0 = y at *
      generalize turnZ (0 * (n % 4) % 4) (l.getD n 0, 0) = u at *
      generalize l.getD n 0 = x at *
      obtain ⟨y1, y2⟩ := y
      obtain ⟨u1, u2⟩ := u
      simp only at hph hu hstep ct hq
      have c1 : -70368744177664 ≤ y1 ∧ y1 ≤ 70368744177664 := by omega
      have c2 : -70368744177664 ≤ y2 ∧ y2 ≤ 70368744177664 := by omega
      have c3 : -70368744177664 ≤ u1 ∧ u1 ≤ 70368744177664 := by omega
      have c4 : -70368744177664 ≤ u2 ∧ u2 ≤ 70368744177664 := by omega
      have e1 : IntKind.i64.wrap (y1 + u1) = y1 + u1 := IntWalk.i64_in _ (by omega)
      have e2 : IntKind.i64.wrap (y2 + u2) = y2 + u2 := IntWalk.i64_in _ (by omega)
      have E1 := Lib.hid e1
      have E2 := Lib.hid e2
      obtain ⟨c1, d1⟩ := c1
      obtain ⟨c2, d2⟩ := c2
      obtain ⟨c3, d3⟩ := c3
      obtain ⟨c4, d4⟩ := c4
      clear e1 e2 hph hu
      go_wp2_with fail
      refine (ct.out _).mono ?_; rintro e w3 ⟨rfl, k3⟩
      have oq := k3.own hq (by simp)
      have oo := k3.own ho (by simp)
      have kk3 := hkk.trans k3
      clear k3 ct hc hq ho hkk
      have lq := oq.lt
      have lo := oo.lt
      obtain ⟨x0, x1, x2, x3, x4, x5, x6, x7⟩ := oq.c8
      have z0 := oq.free 0
      have z1 := oq.free 1
      go_wp2_with fail
      have e1 := E1.out
      have e2 := E2.out
      go_region
      clear e1 e2
      all_goals
        go_wp2_with fail
        go_roundw
        case rel =>
          refine ⟨n + 1, by omega, by go_num, ?_, ?_, ?_⟩
          · refine Own.drew (Own.alloc (Own.other (Own.other oo ?_ _) ?_ _) _) <;> simp
          · rw [hnx.out, hstep.out]
            refine Own.drew ?_
            have := ((oq.set 0 (.int .i64 (y1 + u1))).set 1 (.int .i64 (y2 + u2))).alloc (.cells #[.int .i64 u1, .int .i64 u2] 54)
            simpa [cell8] using this
          · refine Kept.drew (Kept.alloc (Kept.setCell (Kept.setCell kk3 (Or.inr ?_) _) (Or.inr ?_) _) _) <;> simp
        case measure => simp [intOf]; omega
    · obtain rfl : n = l.length := by omega
      go_wp2_with fail
      have s1 := ho
      have s3 := hkk
      have s2 : Own wr (w.heap.size + 1) (ofCells l 1 0) 55 := by rw [← ofCells_next l 0 (by decide)]; exact hq
      clear ho hkk hq hlt hn
      generalize wr = ws2 at *
      rw [rounds_succ]
      go_wp2_with fail
      go_loopw [5] (fun i wr => ∃ n : Nat, n ≤ l.length ∧ i = .int .i64 n ∧ Own wr w.heap.size cells0 55 ∧ Own wr (w.heap.size + 1) (ofCells l 1 n) 55 ∧ Kept [] w wr) (fun i _ => l.length - (intOf i).toNat)
      case atStart => exact ⟨0, Nat.zero_le _, rfl, s1, s2, s3⟩
      clear s1 s2 s3
      case round =>
        obtain ⟨n, hn, rfl, ho, hq, hkk⟩ := hrel
        by_cases hlt : n < l.length
        · obtain ⟨rfl, hbw⟩ := hab2 (by omega)
          have hc : wr.cell? ⟨b, off + n, none⟩ = some (.int .i64 (l.getD n 0)) := by
            rw [hkk.cell (by exact hbw) (by simp), hcell2 n hlt, getD_of hlt]
          obtain ⟨hx1, hx2⟩ := inR_iff.1 (hin2 n hlt)
          have hph := phat_bd (qsum_bd (l := l) (k := n) (fun i hi => hin2 i (by omega))) 1
          have hstep : Hid ((qsum l (n + 1)).phat 1 = (((qsum l n).phat 1).1 + (turnZ (1 * (n % 4) % 4) (l.getD n 0, 0)).1, ((qsum l n).phat 1).2 + (turnZ (1 * (n % 4) % 4) (l.getD n 0, 0)).2)) := phat_step (qsum l n) (n % 4) 1 (l.getD n 0) (by omega) (by decide)
          have ct : Hid (∀ w, Calls Try.prog 66 #[.agg #[.int .i64 (l.getD n 0), .int .i64 0], .int .i64 ((n : Int) % 4)] w fun e w' => e = .returned (.agg #[.int .i64 (turnZ (1 * (n % 4) % 4) (l.getD n 0, 0)).1, .int .i64 (turnZ (1 * (n % 4) % 4) (l.getD n 0, 0)).2]) ∧ Kept [] w w') := fun w => by
            have := rturn (1 * (n % 4)) (l.getD n 0) 0 w (by omega) (by omega) (by decide)
            rwa [show (((1 * (n % 4) : Nat)) : Int) = (n : Int) % 4 from by omega] at this
          have hu := turnZ_bd (k := 1 * (n % 4) % 4) (a := l.getD n 0) (b := 0) (by omega) (by decide)
          have hnx : Hid (ofCells l 1 (n + 1) = (let q := qsum l l.length; let r := (qsum l (n + 1)).phat 1; cell8 (q.phat 0).1 (q.phat 0).2 r.1 r.2 0 0 0 0)) := rfl
          simp only [ofCells, cell8] at hq
          generalize qsum l l.length = Q at *
          generalize (qsum l n).phat 1 = y at *
          generalize turnZ (1 * (n % 4) % 4) (l.getD n 0, 0) = u at *
          generalize l.getD n 0 = x at *
          obtain ⟨y1, y2⟩ := y
          obtain ⟨u1, u2⟩ := u
          simp only at hph hu hstep ct hq
          have c1 : -70368744177664 ≤ y1 ∧ y1 ≤ 70368744177664 := by omega
          have c2 : -70368744177664 ≤ y2 ∧ y2 ≤ 70368744177664 := by omega
          have c3 : -70368744177664 ≤ u1 ∧ u1 ≤ 70368744177664 := by omega
          have c4 : -70368744177664 ≤ u2 ∧ u2 ≤ 70368744177664 := by omega
          have e1 : IntKind.i64.wrap (y1 + u1) = y1 + u1 := IntWalk.i64_in _ (by omega)
          have e2 : IntKind.i64.wrap (y2 + u2) = y2 + u2 := IntWalk.i64_in _ (by omega)
          have E1 := Lib.hid e1
          have E2 := Lib.hid e2
          obtain ⟨c1, d1⟩ := c1
          obtain ⟨c2, d2⟩ := c2
          obtain ⟨c3, d3⟩ := c3
          obtain ⟨c4, d4⟩ := c4
          clear e1 e2 hph hu
          go_wp2_with fail
          refine (ct.out _).mono ?_; rintro e w3 ⟨rfl, k3⟩
          have oq := k3.own hq (by simp)
          have oo := k3.own ho (by simp)
          have kk3 := hkk.trans k3
          clear k3 ct hc hq ho hkk
          have lq := oq.lt
          have lo := oo.lt
          obtain ⟨x0, x1, x2, x3, x4, x5, x6, x7⟩ := oq.c8
          have z0 := oq.free 2
          have z1 := oq.free 3
          go_wp2_with fail
          have e1 := E1.out
          have e2 := E2.out
          go_region
          clear e1 e2
          all_goals
            go_wp2_with fail
            go_roundw
            case rel =>
              refine ⟨n + 1, by omega, by go_num, ?_, ?_, ?_⟩
              · refine Own.drew (Own.alloc (Own.other (Own.other oo ?_ _) ?_ _) _) <;> simp
              · rw [hnx.out, hstep.out]
                refine Own.drew ?_
                have := ((oq.set 2 (.int .i64 (y1 + u1))).set 3 (.int .i64 (y2 + u2))).alloc (.cells #[.int .i64 u1, .int .i64 u2] 54)
                simpa [cell8] using this
              · refine Kept.drew (Kept.alloc (Kept.setCell (Kept.setCell kk3 (Or.inr ?_) _) (Or.inr ?_) _) _) <;> simp
            case measure => simp [intOf]; omega
        · obtain rfl : n = l.length := by omega
          go_wp2_with fail
          have s1 := ho
          have s3 := hkk
          have s2 : Own wr (w.heap.size + 1) (ofCells l 2 0) 55 := by rw [← ofCells_next l 1 (by decide)]; exact hq
          clear ho hkk hq hlt hn
          generalize wr = ws2 at *
          rw [rounds_succ]
          go_wp2_with fail
          go_loopw [5] (fun i wr => ∃ n : Nat, n ≤ l.length ∧ i = .int .i64 n ∧ Own wr w.heap.size cells0 55 ∧ Own wr (w.heap.size + 1) (ofCells l 2 n) 55 ∧ Kept [] w wr) (fun i _ => l.length - (intOf i).toNat)
          case atStart => exact ⟨0, Nat.zero_le _, rfl, s1, s2, s3⟩
          clear s1 s2 s3
          case round =>
            obtain ⟨n, hn, rfl, ho, hq, hkk⟩ := hrel
            by_cases hlt : n < l.length
            · obtain ⟨rfl, hbw⟩ := hab2 (by omega)
              have hc : wr.cell? ⟨b, off + n, none⟩ = some (.int .i64 (l.getD n 0)) := by
                rw [hkk.cell (by exact hbw) (by simp), hcell2 n hlt, getD_of hlt]
              obtain ⟨hx1, hx2⟩ := inR_iff.1 (hin2 n hlt)
              have hph := phat_bd (qsum_bd (l := l) (k := n) (fun i hi => hin2 i (by omega))) 2
              have hstep : Hid ((qsum l (n + 1)).phat 2 = (((qsum l n).phat 2).1 + (turnZ (2 * (n % 4) % 4) (l.getD n 0, 0)).1, ((qsum l n).phat 2).2 + (turnZ (2 * (n % 4) % 4) (l.getD n 0, 0)).2)) := phat_step (qsum l n) (n % 4) 2 (l.getD n 0) (by omega) (by decide)
              have ct : Hid (∀ w, Calls Try.prog 66 #[.agg #[.int .i64 (l.getD n 0), .int .i64 0], .int .i64 (2 * ((n : Int) % 4))] w fun e w' => e = .returned (.agg #[.int .i64 (turnZ (2 * (n % 4) % 4) (l.getD n 0, 0)).1, .int .i64 (turnZ (2 * (n % 4) % 4) (l.getD n 0, 0)).2]) ∧ Kept [] w w') := fun w => by
                have := rturn (2 * (n % 4)) (l.getD n 0) 0 w (by omega) (by omega) (by decide)
                rwa [show (((2 * (n % 4) : Nat)) : Int) = 2 * ((n : Int) % 4) from by omega] at this
              have hu := turnZ_bd (k := 2 * (n % 4) % 4) (a := l.getD n 0) (b := 0) (by omega) (by decide)
              have hnx : Hid (ofCells l 2 (n + 1) = (let q := qsum l l.length; let r := (qsum l (n + 1)).phat 2; cell8 (q.phat 0).1 (q.phat 0).2 (q.phat 1).1 (q.phat 1).2 r.1 r.2 0 0)) := rfl
              simp only [ofCells, cell8] at hq
              generalize qsum l l.length = Q at *
              generalize (qsum l n).phat 2 = y at *
              generalize turnZ (2 * (n % 4) % 4) (l.getD n 0, 0) = u at *
              generalize l.getD n 0 = x at *
              obtain ⟨y1, y2⟩ := y
              obtain ⟨u1, u2⟩ := u
              simp only at hph hu hstep ct hq
              have c1 : -70368744177664 ≤ y1 ∧ y1 ≤ 70368744177664 := by omega
              have c2 : -70368744177664 ≤ y2 ∧ y2 ≤ 70368744177664 := by omega
              have c3 : -70368744177664 ≤ u1 ∧ u1 ≤ 70368744177664 := by omega
              have c4 : -70368744177664 ≤ u2 ∧ u2 ≤ 70368744177664 := by omega
              have e1 : IntKind.i64.wrap (y1 + u1) = y1 + u1 := IntWalk.i64_in _ (by omega)
              have e2 : IntKind.i64.wrap (y2 + u2) = y2 + u2 := IntWalk.i64_in _ (by omega)
              have E1 := Lib.hid e1
              have E2 := Lib.hid e2
              obtain ⟨c1, d1⟩ := c1
              obtain ⟨c2, d2⟩ := c2
              obtain ⟨c3, d3⟩ := c3
              obtain ⟨c4, d4⟩ := c4
              clear e1 e2 hph hu
              go_wp2_with fail
              refine (ct.out _).mono ?_; rintro e w3 ⟨rfl, k3⟩
              have oq := k3.own hq (by simp)
              have oo := k3.own ho (by simp)
              have kk3 := hkk.trans k3
              clear k3 ct hc hq ho hkk
              have lq := oq.lt
              have lo := oo.lt
              obtain ⟨x0, x1, x2, x3, x4, x5, x6, x7⟩ := oq.c8
              have z0 := oq.free 4
              have z1 := oq.free 5
              go_wp2_with fail
              have e1 := E1.out
              have e2 := E2.out
              go_region
              clear e1 e2
              all_goals
                go_wp2_with fail
                go_roundw
                case rel =>
                  refine ⟨n + 1, by omega, by go_num, ?_, ?_, ?_⟩
                  · refine Own.drew (Own.alloc (Own.other (Own.other oo ?_ _) ?_ _) _) <;> simp
                  · rw [hnx.out, hstep.out]
                    refine Own.drew ?_
                    have := ((oq.set 4 (.int .i64 (y1 + u1))).set 5 (.int .i64 (y2 + u2))).alloc (.cells #[.int .i64 u1, .int .i64 u2] 54)
                    simpa [cell8] using this
                  · refine Kept.drew (Kept.alloc (Kept.setCell (Kept.setCell kk3 (Or.inr ?_) _) (Or.inr ?_) _) _) <;> simp
                case measure => simp [intOf]; omega
            · obtain rfl : n = l.length := by omega
              go_wp2_with fail
              have s1 := ho
              have s3 := hkk
              have s2 : Own wr (w.heap.size + 1) (ofCells l 3 0) 55 := by rw [← ofCells_next l 2 (by decide)]; exact hq
              clear ho hkk hq hlt hn
              generalize wr = ws2 at *
              rw [rounds_succ]
              go_wp2_with fail
              go_loopw [5] (fun i wr => ∃ n : Nat, n ≤ l.length ∧ i = .int .i64 n ∧ Own wr w.heap.size cells0 55 ∧ Own wr (w.heap.size + 1) (ofCells l 3 n) 55 ∧ Kept [] w wr) (fun i _ => l.length - (intOf i).toNat)
              case atStart => exact ⟨0, Nat.zero_le _, rfl, s1, s2, s3⟩
              clear s1 s2 s3
              case round =>
                obtain ⟨n, hn, rfl, ho, hq, hkk⟩ := hrel
                by_cases hlt : n < l.length
                · obtain ⟨rfl, hbw⟩ := hab2 (by omega)
                  have hc : wr.cell? ⟨b, off + n, none⟩ = some (.int .i64 (l.getD n 0)) := by
                    rw [hkk.cell (by exact hbw) (by simp), hcell2 n hlt, getD_of hlt]
                  obtain ⟨hx1, hx2⟩ := inR_iff.1 (hin2 n hlt)
                  have hph := phat_bd (qsum_bd (l := l) (k := n) (fun i hi => hin2 i (by omega))) 3
                  have hstep : Hid ((qsum l (n + 1)).phat 3 = (((qsum l n).phat 3).1 + (turnZ (3 * (n % 4) % 4) (l.getD n 0, 0)).1, ((qsum l n).phat 3).2 + (turnZ (3 * (n % 4) % 4) (l.getD n 0, 0)).2)) := phat_step (qsum l n) (n % 4) 3 (l.getD n 0) (by omega) (by decide)
                  have ct : Hid (∀ w, Calls Try.prog 66 #[.agg #[.int .i64 (l.getD n 0), .int .i64 0], .int .i64 (3 * ((n : Int) % 4))] w fun e w' => e = .returned (.agg #[.int .i64 (turnZ (3 * (n % 4) % 4) (l.getD n 0, 0)).1, .int .i64 (turnZ (3 * (n % 4) % 4) (l.getD n 0, 0)).2]) ∧ Kept [] w w') := fun w => by
                    have := rturn (3 * (n % 4)) (l.getD n 0) 0 w (by omega) (by omega) (by decide)
                    rwa [show (((3 * (n % 4) : Nat)) : Int) = 3 * ((n : Int) % 4) from by omega] at this
                  have hu := turnZ_bd (k := 3 * (n % 4) % 4) (a := l.getD n 0) (b := 0) (by omega) (by decide)
                  have hnx : Hid (ofCells l 3 (n + 1) = (let q := qsum l l.length; let r := (qsum l (n + 1)).phat 3; cell8 (q.phat 0).1 (q.phat 0).2 (q.phat 1).1 (q.phat 1).2 (q.phat 2).1 (q.phat 2).2 r.1 r.2)) := rfl
                  simp only [ofCells, cell8] at hq
                  generalize qsum l l.length = Q at *
                  generalize (qsum l n).phat 3 = y at *
                  generalize turnZ (3 * (n % 4) % 4) (l.getD n 0, 0) = u at *
                  generalize l.getD n 0 = x at *
                  obtain ⟨y1, y2⟩ := y
                  obtain ⟨u1, u2⟩ := u
                  simp only at hph hu hstep ct hq
                  have c1 : -70368744177664 ≤ y1 ∧ y1 ≤ 70368744177664 := by omega
                  have c2 : -70368744177664 ≤ y2 ∧ y2 ≤ 70368744177664 := by omega
                  have c3 : -70368744177664 ≤ u1 ∧ u1 ≤ 70368744177664 := by omega
                  have c4 : -70368744177664 ≤ u2 ∧ u2 ≤ 70368744177664 := by omega
                  have e1 : IntKind.i64.wrap (y1 + u1) = y1 + u1 := IntWalk.i64_in _ (by omega)
                  have e2 : IntKind.i64.wrap (y2 + u2) = y2 + u2 := IntWalk.i64_in _ (by omega)
                  have E1 := Lib.hid e1
                  have E2 := Lib.hid e2
                  obtain ⟨c1, d1⟩ := c1
                  obtain ⟨c2, d2⟩ := c2
                  obtain ⟨c3, d3⟩ := c3
                  obtain ⟨c4, d4⟩ := c4
                  clear e1 e2 hph hu
                  go_wp2_with fail
                  refine (ct.out _).mono ?_; rintro e w3 ⟨rfl, k3⟩
                  have oq := k3.own hq (by simp)
                  have oo := k3.own ho (by simp)
                  have kk3 := hkk.trans k3
                  clear k3 ct hc hq ho hkk
                  have lq := oq.lt
                  have lo := oo.lt
                  obtain ⟨x0, x1, x2, x3, x4, x5, x6, x7⟩ := oq.c8
                  have z0 := oq.free 6
                  have z1 := oq.free 7
                  go_wp2_with fail
                  have e1 := E1.out
                  have e2 := E2.out
                  go_region
                  clear e1 e2
                  all_goals
                    go_wp2_with fail
                    go_roundw
                    case rel =>
                      refine ⟨n + 1, by omega, by go_num, ?_, ?_, ?_⟩
                      · refine Own.drew (Own.alloc (Own.other (Own.other oo ?_ _) ?_ _) _) <;> simp
                      · rw [hnx.out, hstep.out]
                        refine Own.drew ?_
                        have := ((oq.set 6 (.int .i64 (y1 + u1))).set 7 (.int .i64 (y2 + u2))).alloc (.cells #[.int .i64 u1, .int .i64 u2] 54)
                        simpa [cell8] using this
                      · refine Kept.drew (Kept.alloc (Kept.setCell (Kept.setCell kk3 (Or.inr ?_) _) (Or.inr ?_) _) _) <;> simp
                    case measure => simp [intOf]; omega
                · obtain rfl : n = l.length := by omega
                  go_wp2_with fail
                  rw [rounds_succ]
                  simp only [ofCells_end, Z4.cells] at hq
                  have E : (qsum l l.length).z.cells = (qsum l l.length).z.cells := rfl
                  clear hin2 hcell2 hab2
                  go_wp2_with (first | (refine wpList_load_row rfl _ _ rfl _ rfl _ _ _ _ hq Try.underlying55 rfl (by kernel_rfl) ?_) | (refine wpList_store_row rfl _ _ _ rfl _ _ rfl rfl _ _ ho (by kernel_rfl) rfl (by kernel_rfl) ?_))
                  refine bodyPost_ret (v := .agg (qsum l l.length).z.cells) ?_ ?_ ?_
                  · exact ret_row Try.results40 rfl (ho.setRow _) Try.underlying55 rfl (by kernel_rfl)
                  · rfl
                  · refine ⟨rfl, hkk.setRow (Or.inr ?_) _⟩; omega
end Go.Proofs.Ytkghkkfcgegmeaa
