/- Walks of layer 34 (phase): the sums of a row's quarters, by the program and by the reference. -/
import Derived.Test.YtkghkkfcgegmeaaH10
import Derived.Test.YtkghkkfcgegmeaaIn
namespace Go.Proofs.Ytkghkkfcgegmeaa
open Go.RowKit Fl
set_option linter.unusedVariables false
set_option linter.unusedSimpArgs false

/-- a list of integers in one form, empty or not. -/
theorem IntsAt.any {k : IntKind} {w : World} {v : Value} {l : List Int} (h : IntsAt k w v l) :
    ∃ a c b off, v = .slice a l.length c ∧ l.length ≤ maxLen ∧ (0 < l.length → a = some ⟨b, off, none⟩ ∧ b < w.heap.size) ∧ (∀ i (h : i < l.length), w.cell? ⟨b, off + i, none⟩ = some (.int k l[i])) := by
  obtain ⟨_, ⟨rfl, a, c, rfl⟩ | ⟨b, off, c, rfl, h1, h2, h3, h4, h5⟩⟩ := h
  · exact ⟨a, c, 0, 0, rfl, Nat.zero_le _, fun h => absurd h (Nat.lt_irrefl _), fun i hi => absurd hi (Nat.not_lt_zero _)⟩
  · exact ⟨_, c, b, off, rfl, by omega, fun _ => ⟨rfl, h4⟩, h3⟩
theorem IntsAt.kept {k : IntKind} {w w' : World} {v : Value} {l : List Int} (h : IntsAt k w v l) (hk : Kept [] w w') : IntsAt k w' v l := by
  obtain ⟨h0, h | ⟨b, off, c, rfl, h1, h2, h3, h4, h5⟩⟩ := h
  · exact ⟨h0, Or.inl h⟩
  · exact ⟨h0, Or.inr ⟨b, off, c, rfl, h1, h2, fun i hi => by rw [hk.cell (by exact h4) (by simp)]; exact h3 i hi, by have := hk.size; omega, h5⟩⟩

/-- four numbers. -/
structure Q4 where
  (q0 q1 q2 q3 : Int)
def Q4.bump (q : Q4) (j : Nat) (x : Int) : Q4 :=
  if j = 0 then ⟨q.q0 + x, q.q1, q.q2, q.q3⟩ else if j = 1 then ⟨q.q0, q.q1 + x, q.q2, q.q3⟩ else if j = 2 then ⟨q.q0, q.q1, q.q2 + x, q.q3⟩ else ⟨q.q0, q.q1, q.q2, q.q3 + x⟩
/-- the sums of the first k numbers, by place modulo 4. -/
def qsum (l : List Int) : Nat → Q4
  | 0 => ⟨0, 0, 0, 0⟩
  | k + 1 => (qsum l k).bump (k % 4) (l.getD k 0)
def Q4.bd (q : Q4) (M : Nat) : Prop := q.q0.natAbs ≤ M ∧ q.q1.natAbs ≤ M ∧ q.q2.natAbs ≤ M ∧ q.q3.natAbs ≤ M
theorem Q4.bump_bd {q : Q4} {M N : Nat} (h : q.bd M) {j : Nat} {x : Int} (hx : x.natAbs ≤ N) : (q.bump j x).bd (M + N) := by
  obtain ⟨a, b, c, d⟩ := h
  unfold Q4.bump Q4.bd
  split
  · simp only; omega
  · split
    · simp only; omega
    · split
      · simp only; omega
      · simp only; omega
def inR (x : Int) : Bool := decide (-2147483648 ≤ x) && decide (x ≤ 2147483648)
theorem inR_iff {x : Int} : inR x = true ↔ -2147483648 ≤ x ∧ x ≤ 2147483648 := by simp [inR]
theorem qsum_bd {l : List Int} {k : Nat} (h : ∀ i, i < k → inR (l.getD i 0) = true) : (qsum l k).bd (k * 2147483648) := by
  induction k with
  | zero => simp [qsum, Q4.bd]
  | succ k ih =>
    have h1 := ih (fun i hi => h i (by omega))
    have h2 := inR_iff.1 (h k (by omega))
    have := Q4.bump_bd h1 (j := k % 4) (x := l.getD k 0) (N := 2147483648) (by omega)
    rw [qsum, Nat.succ_mul]; exact this
/-- may a row be? -/
def mayL (l : List Int) : Bool := decide (l.length ≤ 4096) && l.all inR
def Q4.v (q : Q4) : Value := .agg #[.int .i64 q.q0, .int .i64 q.q1, .int .i64 q.q2, .int .i64 q.q3]
def Q4.cells (q : Q4) : Array Value := #[.int .i64 q.q0, .int .i64 q.q1, .int .i64 q.q2, .int .i64 q.q3]
def Q4.zero : Q4 := ⟨0, 0, 0, 0⟩
theorem getD_of {l : List Int} {k : Nat} (h : k < l.length) : l.getD k 0 = l[k] := by simp [List.getD, h]
theorem mayL_all {l : List Int} (h : ∀ i, i < l.length → inR (l.getD i 0) = true) : l.all inR = true := by
  rw [List.all_eq_true]
  intro x hx
  obtain ⟨i, hi, rfl⟩ := List.mem_iff_getElem.1 hx
  have := h i hi
  rwa [getD_of hi] at this
theorem mayL_bad {l : List Int} {k : Nat} (hk : k < l.length) (h : inR (l.getD k 0) = false) : mayL l = false := by
  have : l.all inR = false := by
    rw [Bool.eq_false_iff]; intro h2
    rw [List.all_eq_true] at h2
    have := h2 l[k] (List.getElem_mem hk)
    rw [getD_of hk] at h; rw [h] at this; cases this
  simp [mayL, this]

/-- what Quarters says of a row. -/
def QuartersSays (l : List Int) (w : World) (e : Ending) (w' : World) : Prop := e = .returned (.tuple #[(if mayL l then qsum l l.length else Q4.zero).v, .int .i64 (if mayL l then 0 else 1)]) ∧ Kept [] w w'
theorem quartersSays_no {l : List Int} {w w' : World} (h : mayL l = false) (k : Kept [] w w') : QuartersSays l w (.returned (.tuple #[Q4.zero.v, .int .i64 1])) w' := ⟨by rw [h]; rfl, k⟩
theorem quartersSays_yes {l : List Int} {w w' : World} (h : mayL l = true) (k : Kept [] w w') : QuartersSays l w (.returned (.tuple #[(qsum l l.length).v, .int .i64 0])) w' := ⟨by rw [h]; rfl, k⟩

set_option maxRecDepth 100000 in
set_option maxHeartbeats 4000000 in
theorem pquarters (l : List Int) (v : Value) (w : World) (h : IntsAt .i64 w v l) :
    Calls Try.prog 37 #[v] w (QuartersSays l w) := by
  obtain ⟨a, c, b, off, rfl, hlen, hab, hcell⟩ := h.any
  clear h
  unfold maxLen at hlen
  by_cases hbig : 4096 < l.length
  · have hm : mayL l = false := by simp [mayL]; omega
    have H := Lib.hid hm
    clear hm hcell hab
    go_enter Try.func37, Try.ntmps37
    go_wp2_with fail
    refine bodyPost_ret (v := .tuple #[Q4.zero.v, .int .i64 1]) (by simp [results, Try.results37, go_sem, Q4.zero, Q4.v]) rfl (quartersSays_no H.out ?_)
    exact (((Kept.refl _ _).alloc _).alloc _)
  · go_enter Try.func37, Try.ntmps37
    go_wp2_with fail
    have hR0 : Own ((w.alloc (.cells #[.int .i64 0, .int .i64 0, .int .i64 0, .int .i64 0] 50)).alloc (.cells #[.int .i64 0, .int .i64 0, .int .i64 0, .int .i64 0] 50)) w.heap.size Q4.zero.cells 50 ∧ Own ((w.alloc (.cells #[.int .i64 0, .int .i64 0, .int .i64 0, .int .i64 0] 50)).alloc (.cells #[.int .i64 0, .int .i64 0, .int .i64 0, .int .i64 0] 50)) (w.heap.size + 1) (qsum l 0).cells 50 := own_two w _ _ _ _
    have hall0 : Aside (∀ i, i < 0 → inR (l.getD i 0) = true) := fun i hi => absurd hi (Nat.not_lt_zero _)
    go_loopw [13] (fun i wr => ∃ k : Nat, k ≤ l.length ∧ i = .int .i64 k ∧ Own wr w.heap.size Q4.zero.cells 50 ∧ Own wr (w.heap.size + 1) (qsum l k).cells 50 ∧ Kept [] w wr ∧ Aside (∀ i, i < k → inR (l.getD i 0) = true)) (fun i _ => l.length - (intOf i).toNat)
    case atStart => exact ⟨0, Nat.zero_le _, rfl, hR0.1, hR0.2, (((Kept.refl _ _).alloc _).alloc _), hall0⟩
    case round =>
      obtain ⟨k, hk, rfl, ho, hq, hkk, hall⟩ := hrel
      clear hR0 hall0
      have hb3 := qsum_bd hall
      have lq := hq.lt
      have lo := ho.lt
      by_cases hlt : k < l.length
      · obtain ⟨rfl, hbw⟩ := hab (by omega)
        have hc : wr.cell? ⟨b, off + k, none⟩ = some (.int .i64 (l.getD k 0)) := by
          rw [hkk.cell (by exact hbw) (by simp), hcell k hlt, getD_of hlt]
        cases hin : inR (l.getD k 0)
        · have H := Lib.hid (mayL_bad hlt hin)
          have hno : ¬ (-2147483648 ≤ l.getD k 0 ∧ l.getD k 0 ≤ 2147483648) := fun h => by rw [inR_iff.2 h] at hin; cases hin
          clear hin hall hb3 hcell hq
          generalize l.getD k 0 = x at *
          go_wp2_with (refine wpList_store_row rfl _ _ _ rfl _ _ rfl rfl _ _ ho (by kernel_rfl) rfl (by kernel_rfl) ?_)
          all_goals
            refine bodyPost_ret (v := .tuple #[Q4.zero.v, .int .i64 1]) ?_ ?_ ?_
            · exact ret_row_tmp Try.results37 rfl rfl (ho.setRow _) Try.underlying50 rfl (by kernel_rfl)
            · rfl
            · refine quartersSays_no H.out (hkk.setRow (Or.inr ?_) _); omega
        · obtain ⟨hx1, hx2⟩ := inR_iff.1 hin
          have hall2 : Aside (∀ i, i < k + 1 → inR (l.getD i 0) = true) := fun i hi => by
            by_cases e : i = k
            · subst e; exact hin
            · exact hall i (by omega)
          clear hall hcell hin
          have hQ : Hid (qsum l (k + 1) = (qsum l k).bump (k % 4) (l.getD k 0)) := rfl
          generalize l.getD k 0 = x at *
          generalize qsum l k = q at *
          obtain ⟨q0, q1, q2, q3⟩ := q
          simp only [Q4.bd] at hb3
          obtain ⟨b0, b1, b2, b3⟩ := hb3
          have c0 : -8796093022208 ≤ q0 ∧ q0 ≤ 8796093022208 := by omega
          have c1 : -8796093022208 ≤ q1 ∧ q1 ≤ 8796093022208 := by omega
          have c2 : -8796093022208 ≤ q2 ∧ q2 ≤ 8796093022208 := by omega
          have c3 : -8796093022208 ≤ q3 ∧ q3 ≤ 8796093022208 := by omega
          clear b0 b1 b2 b3
          obtain ⟨c0, d0⟩ := c0
          obtain ⟨c1, d1⟩ := c1
          obtain ⟨c2, d2⟩ := c2
          obtain ⟨c3, d3⟩ := c3
          obtain ⟨x0, x1, x2, x3⟩ := hq.c4
          obtain ⟨z0, z1, z2, z3⟩ := hq.z4
          have hm4 : k % 4 = 0 ∨ k % 4 = 1 ∨ k % 4 = 2 ∨ k % 4 = 3 := by omega
          rcases hm4 with hm | hm | hm | hm
          · have hm1 : ((k : Int)) % 4 = 0 := by omega
            have Hm := Lib.hid hm
            clear hm
            go_wp2_with fail
            go_roundw
            case rel =>
              refine ⟨k + 1, by omega, by go_num, ho.other (by simp) _, ?_, hkk.setCell (Or.inr (by simp)) _, hall2⟩
              rw [hQ.out, Hm.out]
              have := hq.set 0 (.int .i64 (q0 + x))
              simpa [Q4.bump, Q4.cells] using this
            case measure => simp [intOf]; omega
          · have hm1 : ((k : Int)) % 4 = 1 := by omega
            have Hm := Lib.hid hm
            clear hm
            go_wp2_with fail
            go_roundw
            case rel =>
              refine ⟨k + 1, by omega, by go_num, ho.other (by simp) _, ?_, hkk.setCell (Or.inr (by simp)) _, hall2⟩
              rw [hQ.out, Hm.out]
              have := hq.set 1 (.int .i64 (q1 + x))
              simpa [Q4.bump, Q4.cells] using this
            case measure => simp [intOf]; omega
          · have hm1 : ((k : Int)) % 4 = 2 := by omega
            have Hm := Lib.hid hm
            clear hm
            go_wp2_with fail
            go_roundw
            case rel =>
              refine ⟨k + 1, by omega, by go_num, ho.other (by simp) _, ?_, hkk.setCell (Or.inr (by simp)) _, hall2⟩
              rw [hQ.out, Hm.out]
              have := hq.set 2 (.int .i64 (q2 + x))
              simpa [Q4.bump, Q4.cells] using this
            case measure => simp [intOf]; omega
          · have hm1 : ((k : Int)) % 4 = 3 := by omega
            have Hm := Lib.hid hm
            clear hm
            go_wp2_with fail
            go_roundw
            case rel =>
              refine ⟨k + 1, by omega, by go_num, ho.other (by simp) _, ?_, hkk.setCell (Or.inr (by simp)) _, hall2⟩
              rw [hQ.out, Hm.out]
              have := hq.set 3 (.int .i64 (q3 + x))
              simpa [Q4.bump, Q4.cells] using this
            case measure => simp [intOf]; omega
      · obtain rfl : k = l.length := by omega
        have hm : mayL l = true := by simp only [mayL, mayL_all hall, Bool.and_true]; simp; omega
        have H := Lib.hid hm
        clear hm hall hcell hab hb3
        go_wp2_with (first | (refine wpList_load_row rfl _ _ rfl _ rfl _ _ _ _ hq Try.underlying50 rfl (by kernel_rfl) ?_) | (refine wpList_store_row rfl _ _ _ rfl _ _ rfl rfl _ _ ho (by kernel_rfl) rfl (by kernel_rfl) ?_))
        refine bodyPost_ret (v := .tuple #[(qsum l l.length).v, .int .i64 0]) ?_ ?_ ?_
        · exact ret_row_tmp Try.results37 rfl rfl (ho.setRow _) Try.underlying50 rfl (by kernel_rfl)
        · rfl
        · refine quartersSays_yes H.out (hkk.setRow (Or.inr ?_) _); omega

/-- what the reference's Quarters says of a row that may be. -/
def RQuartersSays (l : List Int) (w : World) (e : Ending) (w' : World) : Prop := e = .returned (qsum l l.length).v ∧ Kept [] w w'
set_option maxRecDepth 100000 in
set_option maxHeartbeats 4000000 in
theorem rquarters (l : List Int) (v : Value) (w : World) (h : IntsAt .i64 w v l) (hm : mayL l = true) :
    Calls Try.prog 42 #[v] w (RQuartersSays l w) := by
  obtain ⟨a, c, b, off, rfl, hlen, hab, hcell⟩ := h.any
  clear h
  simp only [mayL, Bool.and_eq_true, decide_eq_true_eq] at hm
  obtain ⟨hlen2, hin⟩ := hm
  have hin2 : Aside (∀ i, i < l.length → inR (l.getD i 0) = true) := fun i hi => by
    rw [getD_of hi]; exact List.all_eq_true.1 hin _ (List.getElem_mem hi)
  clear hin
  go_enter Try.func42, Try.ntmps42
  go_wp2_with fail
  go_loopw [4] (fun i wr => ∃ k : Nat, k ≤ l.length ∧ i = .int .i64 k ∧ Own wr w.heap.size Q4.zero.cells 50 ∧ Own wr (w.heap.size + 1) (qsum l k).cells 50 ∧ Kept [] w wr) (fun i _ => l.length - (intOf i).toNat)
  case atStart => exact ⟨0, Nat.zero_le _, rfl, (own_two w _ _ _ _).1, (own_two w _ _ _ _).2, (((Kept.refl _ _).alloc _).alloc _)⟩
  case round =>
    obtain ⟨k, hk, rfl, ho, hq, hkk⟩ := hrel
    have hall : ∀ i, i < k → inR (l.getD i 0) = true := fun i hi => hin2 i (by omega)
    have hb3 := qsum_bd hall
    clear hall
    have lq := hq.lt
    have lo := ho.lt
    by_cases hlt : k < l.length
    · obtain ⟨rfl, hbw⟩ := hab (by omega)
      have hc : wr.cell? ⟨b, off + k, none⟩ = some (.int .i64 (l.getD k 0)) := by
        rw [hkk.cell (by exact hbw) (by simp), hcell k hlt, getD_of hlt]
      obtain ⟨hx1, hx2⟩ := inR_iff.1 (hin2 k hlt)
      clear hcell hin2
      have hQ : Hid (qsum l (k + 1) = (qsum l k).bump (k % 4) (l.getD k 0)) := rfl
      generalize l.getD k 0 = x at *
      generalize qsum l k = q at *
      obtain ⟨q0, q1, q2, q3⟩ := q
      simp only [Q4.bd] at hb3
      obtain ⟨b0, b1, b2, b3⟩ := hb3
      have c0 : -8796093022208 ≤ q0 ∧ q0 ≤ 8796093022208 := by omega
      have c1 : -8796093022208 ≤ q1 ∧ q1 ≤ 8796093022208 := by omega
      have c2 : -8796093022208 ≤ q2 ∧ q2 ≤ 8796093022208 := by omega
      have c3 : -8796093022208 ≤ q3 ∧ q3 ≤ 8796093022208 := by omega
      have e0 : IntKind.i64.wrap (q0 + x) = q0 + x := IntWalk.i64_in _ (by omega)
      have e1 : IntKind.i64.wrap (q1 + x) = q1 + x := IntWalk.i64_in _ (by omega)
      have e2 : IntKind.i64.wrap (q2 + x) = q2 + x := IntWalk.i64_in _ (by omega)
      have e3 : IntKind.i64.wrap (q3 + x) = q3 + x := IntWalk.i64_in _ (by omega)
      have kn : (0 : Int) ≤ (k : Int) := Int.natCast_nonneg k
      have kl : (k : Int) < (l.length : Int) := by omega
      clear b0 b1 b2 b3 c0 c1 c2 c3
      obtain ⟨x0, x1, x2, x3⟩ := hq.c4
      obtain ⟨z0, z1, z2, z3⟩ := hq.z4
      have hm4 : k % 4 = 0 ∨ k % 4 = 1 ∨ k % 4 = 2 ∨ k % 4 = 3 := by omega
      rcases hm4 with hm | hm | hm | hm
      · have hm2 : ((k : Int)).tmod 4 = 0 := by rw [Int.tmod_eq_emod_of_nonneg (by omega)]; omega
        have hm1 : ((k : Int)) % 4 = 0 := by omega
        have Hm := Lib.hid hm
        clear hm
        go_wp2_with fail
        go_region
        go_wp2_with fail
        go_roundw
        case rel =>
          refine ⟨k + 1, by omega, by go_num, (ho.other (by simp) _), ?_, (hkk.setCell (Or.inr (by simp)) _).drew⟩
          rw [hQ.out, Hm.out]
          refine Own.drew ?_
          have := (hq.set 0 (.int .i64 (q0 + x)))
          simpa [Q4.bump, Q4.cells] using this
        case measure => simp [intOf]; omega
      · have hm2 : ((k : Int)).tmod 4 = 1 := by rw [Int.tmod_eq_emod_of_nonneg (by omega)]; omega
        have hm1 : ((k : Int)) % 4 = 1 := by omega
        have Hm := Lib.hid hm
        clear hm
        go_wp2_with fail
        go_region
        go_wp2_with fail
        go_roundw
        case rel =>
          refine ⟨k + 1, by omega, by go_num, (ho.other (by simp) _), ?_, (hkk.setCell (Or.inr (by simp)) _).drew⟩
          rw [hQ.out, Hm.out]
          refine Own.drew ?_
          have := (hq.set 1 (.int .i64 (q1 + x)))
          simpa [Q4.bump, Q4.cells] using this
        case measure => simp [intOf]; omega
      · have hm2 : ((k : Int)).tmod 4 = 2 := by rw [Int.tmod_eq_emod_of_nonneg (by omega)]; omega
        have hm1 : ((k : Int)) % 4 = 2 := by omega
        have Hm := Lib.hid hm
        clear hm
        go_wp2_with fail
        go_region
        go_wp2_with fail
        go_roundw
        case rel =>
          refine ⟨k + 1, by omega, by go_num, (ho.other (by simp) _), ?_, (hkk.setCell (Or.inr (by simp)) _).drew⟩
          rw [hQ.out, Hm.out]
          refine Own.drew ?_
          have := (hq.set 2 (.int .i64 (q2 + x)))
          simpa [Q4.bump, Q4.cells] using this
        case measure => simp [intOf]; omega
      · have hm2 : ((k : Int)).tmod 4 = 3 := by rw [Int.tmod_eq_emod_of_nonneg (by omega)]; omega
        have hm1 : ((k : Int)) % 4 = 3 := by omega
        have Hm := Lib.hid hm
        clear hm
        go_wp2_with fail
        go_region
        go_wp2_with fail
        go_roundw
        case rel =>
          refine ⟨k + 1, by omega, by go_num, (ho.other (by simp) _), ?_, (hkk.setCell (Or.inr (by simp)) _).drew⟩
          rw [hQ.out, Hm.out]
          refine Own.drew ?_
          have := (hq.set 3 (.int .i64 (q3 + x)))
          simpa [Q4.bump, Q4.cells] using this
        case measure => simp [intOf]; omega
    · obtain rfl : k = l.length := by omega
      clear hcell hab hb3 hin2
      go_wp2_with (first | (refine wpList_load_row rfl _ _ rfl _ rfl _ _ _ _ hq Try.underlying50 rfl (by kernel_rfl) ?_) | (refine wpList_store_row rfl _ _ _ rfl _ _ rfl rfl _ _ ho (by kernel_rfl) rfl (by kernel_rfl) ?_))
      refine bodyPost_ret (v := (qsum l l.length).v) ?_ ?_ ?_
      · exact ret_row Try.results42 rfl (ho.setRow _) Try.underlying50 rfl (by kernel_rfl)
      · rfl
      · refine ⟨rfl, hkk.setRow (Or.inr ?_) _⟩; omega
end Go.Proofs.Ytkghkkfcgegmeaa
