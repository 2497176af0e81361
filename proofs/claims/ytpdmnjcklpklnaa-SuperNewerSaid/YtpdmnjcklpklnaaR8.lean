/- Walks of layer 11 (super): the same runs, the same superblock. -/
import Derived.Test.YtpdmnjcklpklnaaR3
import Derived.Test.YtpdmnjcklpklnaaMem3
import Derived.Laws.StructEq
import Derived.Deep.QuietTactic
import Derived.BigQuiet
namespace Go.Proofs.Ytpdmnjcklpklnaa
open Go.RowKit
set_option linter.unusedVariables false
set_option linter.unusedSimpArgs false

theorem runs_ne_len {l m : List (Int × Int)} (h : l.length ≠ m.length) : (l == m) = false := by
  rw [beq_eq_false_iff_ne]; intro e; rw [e] at h; exact h rfl
theorem runs_ne_at {l m : List (Int × Int)} (k : Nat) (h1 : k < l.length) (h2 : k < m.length) (h : l[k] ≠ m[k]) : (l == m) = false := by
  rw [beq_eq_false_iff_ne]; intro e; subst e; exact h rfl
theorem runs_eq {l m : List (Int × Int)} (hl : l.length = m.length) (h : l.take l.length = m.take l.length) : (l == m) = true := by
  rw [beq_iff_eq]; rw [List.take_length] at h; rw [h, hl, List.take_length]

set_option maxRecDepth 100000 in
set_option maxHeartbeats 1000000 in
theorem rsameruns (va vb : Value) (l m : List (Int × Int)) (lo hi lo' hi' : Nat) (w : World) (h : RunsIn w va l lo hi) (h' : RunsIn w vb m lo' hi') (hl : l.length ≤ 1000000) (hm : m.length ≤ 1000000) :
    Calls Try.prog 31 #[va, vb] w fun e w' => e = .returned (.bool (l == m)) ∧ Kept [] w w' := by
  obtain ⟨p, c, rfl⟩ := h.shape
  obtain ⟨p', c', rfl⟩ := h'.shape
  by_cases hne : l.length = m.length
  · have hq : ((l.length : Int) == (m.length : Int)) = true := by simp; omega
    have HQ := Lib.hid hne
    clear hne
    go_enter Try.func31, Try.ntmps31
    go_wp2_with fail
    go_loopw [5] (fun i wr => ∃ k : Nat, k ≤ l.length ∧ i = .int .i64 k ∧ Aside (l.take k = m.take k) ∧ Kept [] w wr) (fun i _ => l.length - (intOf i).toNat)
    case atStart => exact ⟨0, by omega, rfl, by simp [Aside], Kept.refl _ _⟩
    case round =>
      obtain ⟨k, hk, rfl, hA, hK⟩ := hrel
      by_cases hlt : k < l.length
      · have hlm : k < m.length := by have := HQ.out; omega
        obtain ⟨b, off, rfl, c0, c1, hb, hlc, hcm⟩ := (h.kept0 hK).at_ k hlt
        obtain ⟨b', off', rfl, c0', c1', hb', hlc', hcm'⟩ := (h'.kept0 hK).at_ k hlm
        have i1 : (k : Int) < l.length := by omega
        have i2 : (k : Int) < m.length := by omega
        have hno : l[k] ≠ m[k] → (l == m) = false := runs_ne_at k hlt hlm
        have hst : l[k] = m[k] → Aside (l.take (k + 1) = m.take (k + 1)) := fun e => by
          show _ = _
          rw [List.take_succ_eq_append_getElem hlt, List.take_succ_eq_append_getElem hlm, hA.out, e]
        generalize l[k] = a at *
        generalize m[k] = a' at *
        by_cases e1 : a.1 = a'.1
        · by_cases e2 : a.2 = a'.2
          · have e3 : a = a' := Prod.ext e1 e2
            have HT := hst e3
            subst e3
            clear hno hst e1 e2 hA
            go_wp2_with fail
            go_region
            all_goals go_wp2_with fail
            all_goals go_roundw
            case rel => exact ⟨k + 1, by omega, by go_num, HT, hK.drew⟩
            case measure => simp [intOf]; omega
          · have HN : Hid ((l == m) = false) := hno (fun e => e2 (by rw [e]))
            clear hno hst hA
            rw [← e1] at c0'
            clear e1
            go_wp2_with fail
            go_region
            all_goals go_wp2_with fail
            all_goals go_ret
            all_goals exact ⟨by rw [HN.out]; rfl, hK.drew⟩
        · have HN : Hid ((l == m) = false) := hno (fun e => e1 (by rw [e]))
          clear hno hst hA
          go_wp2_with fail
          go_region
          all_goals go_wp2_with fail
          all_goals go_ret
          all_goals exact ⟨by rw [HN.out]; rfl, hK.drew⟩
      · obtain rfl : k = l.length := by omega
        have HY : Hid ((l == m) = true) := runs_eq HQ.out hA.out
        clear hA
        go_wp2_with fail
        go_ret
        exact ⟨by rw [HY.out]; rfl, hK⟩
  · have hq : ((l.length : Int) == (m.length : Int)) = false := by simp; omega
    have HN : Hid ((l == m) = false) := runs_ne_len hne
    clear hne
    go_enter Try.func31, Try.ntmps31
    go_wp2_with fail
    go_ret
    exact ⟨by rw [HN.out]; rfl, Kept.refl _ _⟩
set_option maxRecDepth 100000 in
set_option maxHeartbeats 1000000 in
theorem pequal (va vb : Value) (l m : List (Int × Int)) (lo hi lo' hi' : Nat) (w : World) (h : RunsIn w va l lo hi) (h' : RunsIn w vb m lo' hi') (hl : l.length ≤ 1000000) (hm : m.length ≤ 1000000) :
    Calls Try.prog 30 #[va, vb] w fun e w' => e = .returned (.bool (l == m)) ∧ Kept [] w w' := by
  obtain ⟨p, c, rfl⟩ := h.shape
  obtain ⟨p', c', rfl⟩ := h'.shape
  by_cases hne : l.length = m.length
  · have hq : ((l.length : Int) == (m.length : Int)) = true := by simp; omega
    have HQ := Lib.hid hne
    clear hne
    go_enter Try.func30, Try.ntmps30
    go_wp2_with fail
    go_loopw [13] (fun i wr => ∃ k : Nat, k ≤ l.length ∧ i = .int .i64 k ∧ Aside (l.take k = m.take k) ∧ Kept [] w wr) (fun i _ => l.length - (intOf i).toNat)
    case atStart => exact ⟨0, by omega, rfl, by simp [Aside], Kept.refl _ _⟩
    case round =>
      obtain ⟨k, hk, rfl, hA, hK⟩ := hrel
      by_cases hlt : k < l.length
      · have hlm : k < m.length := by have := HQ.out; omega
        obtain ⟨b, off, rfl, c0, c1, hb, hlc, hcm⟩ := (h.kept0 hK).at_ k hlt
        obtain ⟨b', off', rfl, c0', c1', hb', hlc', hcm'⟩ := (h'.kept0 hK).at_ k hlm
        have i1 : (k : Int) < l.length := by omega
        have i2 : (k : Int) < m.length := by omega
        have hno : l[k] ≠ m[k] → (l == m) = false := runs_ne_at k hlt hlm
        have hst : l[k] = m[k] → Aside (l.take (k + 1) = m.take (k + 1)) := fun e => by
          show _ = _
          rw [List.take_succ_eq_append_getElem hlt, List.take_succ_eq_append_getElem hlm, hA.out, e]
        generalize l[k] = a at *
        generalize m[k] = a' at *
        by_cases e1 : a.1 = a'.1
        · by_cases e2 : a.2 = a'.2
          · have e3 : a = a' := Prod.ext e1 e2
            have HT := hst e3
            subst e3
            clear hno hst e1 e2 hA
            go_wp2_with fail
            go_region
            all_goals go_wp2_with fail
            all_goals go_roundw
            case rel => exact ⟨k + 1, by omega, by go_num, HT, hK.drew⟩
            case measure => simp [intOf]; omega
          · have HN : Hid ((l == m) = false) := hno (fun e => e2 (by rw [e]))
            clear hno hst hA
            rw [← e1] at c0'
            clear e1
            go_wp2_with fail
            go_region
            all_goals go_wp2_with fail
            all_goals go_ret
            all_goals exact ⟨by rw [HN.out]; rfl, hK.drew⟩
        · have HN : Hid ((l == m) = false) := hno (fun e => e1 (by rw [e]))
          clear hno hst hA
          go_wp2_with fail
          go_region
          all_goals go_wp2_with fail
          all_goals go_ret
          all_goals exact ⟨by rw [HN.out]; rfl, hK.drew⟩
      · obtain rfl : k = l.length := by omega
        have HY : Hid ((l == m) = true) := runs_eq HQ.out hA.out
        clear hA
        go_wp2_with fail
        go_ret
        exact ⟨by rw [HY.out]; rfl, hK⟩
  · have hq : ((l.length : Int) == (m.length : Int)) = false := by simp; omega
    have HN : Hid ((l == m) = false) := runs_ne_len hne
    clear hne
    go_enter Try.func30, Try.ntmps30
    go_wp2_with fail
    go_ret
    exact ⟨by rw [HN.out]; rfl, Kept.refl _ _⟩

/-- the same superblock? -/
def SB.same (a b : SB) : Bool := a.seq == b.seq && a.sectors == b.sectors && a.journal == b.journal && a.used == b.used && a.size == b.size && a.runs == b.runs
theorem seq_beq (a b : Nat) : ((a : Int) == (b : Int)) = (a == b) := by
  rw [Bool.eq_iff_iff, beq_iff_eq, beq_iff_eq]; omega
theorem SB.num5 (a b : SB) : (((a.seq : Int) == (b.seq : Int)) = false ∧ a.same b = false) ∨ (((a.seq : Int) == (b.seq : Int)) = true ∧ (a.sectors == b.sectors) = false ∧ a.same b = false) ∨
    (((a.seq : Int) == (b.seq : Int)) = true ∧ (a.sectors == b.sectors) = true ∧ (a.journal == b.journal) = false ∧ a.same b = false) ∨
    (((a.seq : Int) == (b.seq : Int)) = true ∧ (a.sectors == b.sectors) = true ∧ (a.journal == b.journal) = true ∧ (a.used == b.used) = false ∧ a.same b = false) ∨
    (((a.seq : Int) == (b.seq : Int)) = true ∧ (a.sectors == b.sectors) = true ∧ (a.journal == b.journal) = true ∧ (a.used == b.used) = true ∧ (a.size == b.size) = false ∧ a.same b = false) ∨
    (((a.seq : Int) == (b.seq : Int)) = true ∧ (a.sectors == b.sectors) = true ∧ (a.journal == b.journal) = true ∧ (a.used == b.used) = true ∧ (a.size == b.size) = true ∧ a.same b = (a.runs == b.runs)) := by
  unfold SB.same
  rw [seq_beq]
  cases a.seq == b.seq <;> cases a.sectors == b.sectors <;> cases a.journal == b.journal <;> cases a.used == b.used <;> cases a.size == b.size <;> simp

set_option maxRecDepth 100000 in
set_option maxHeartbeats 2000000 in
theorem psame (a b : SB) (va vb : Value) (lo hi lo' hi' : Nat) (w : World) (h : RunsIn w va a.runs lo hi) (h' : RunsIn w vb b.runs lo' hi') (hl : a.runs.length ≤ 1000000) (hm : b.runs.length ≤ 1000000) :
    Calls Try.prog 13 #[.agg (a.cells va), .agg (b.cells vb)] w fun e w' => e = .returned (.bool (a.same b)) ∧ Kept [] w w' := by
  have hc := SB.num5 a b
  have hq := fun w' (hk : Kept [] w w') => pequal va vb a.runs b.runs lo hi lo' hi' w' (h.kept0 hk) (h'.kept0 hk) hl hm
  have HQ := Lib.hid hq
  obtain ⟨p, c, rfl⟩ := h.shape
  obtain ⟨p', c', rfl⟩ := h'.shape
  clear hq h h'
  have hrun : (a.runs == b.runs) = false → a.same b = false := fun hh => by unfold SB.same; rw [hh, Bool.and_false]
  have HR := Lib.hid hrun
  clear hrun
  obtain ⟨o1, o2⟩ := own_two w (a.cells (.slice p a.runs.length c)) (b.cells (.slice p' b.runs.length c')) 25 25
  unfold SB.cells at *
  cases hrn : (a.runs == b.runs)
  · rw [hrn] at HQ
    have HX := Lib.hid (HR.out hrn)
    clear hc hrn
    go_enter Try.func13, Try.ntmps13
    go_wp2_with fail
    refine (HQ.out _ (((Kept.refl _ _).alloc _).alloc _)).mono ?_; rintro e w1 ⟨rfl, hk⟩
    go_wp2_with fail
    go_ret
    exact ⟨by rw [HX.out]; rfl, (((Kept.refl _ _).alloc _).alloc _).trans hk⟩
  · rw [hrn] at HQ hc
    clear hrn HR
    rcases hc with ⟨e1, hx⟩ | ⟨e1, e2, hx⟩ | ⟨e1, e2, e3, hx⟩ | ⟨e1, e2, e3, e4, hx⟩ | ⟨e1, e2, e3, e4, e5, hx⟩ | ⟨e1, e2, e3, e4, e5, hx⟩
    all_goals
      have HX := Lib.hid hx
      clear hx
      go_enter Try.func13, Try.ntmps13
      go_wp2_with fail
      refine (HQ.out _ (((Kept.refl _ _).alloc _).alloc _)).mono ?_; rintro e w1 ⟨rfl, hk⟩
      obtain ⟨c0, c1, c2, c3, c4, c5⟩ := (hk.own o1 (by simp)).c6
      obtain ⟨d0, d1, d2, d3, d4, d5⟩ := (hk.own o2 (by simp)).c6
      go_wp2_with fail
      go_ret
      exact ⟨by rw [HX.out]; rfl, (((Kept.refl _ _).alloc _).alloc _).trans hk⟩

set_option maxRecDepth 100000 in
set_option maxHeartbeats 2000000 in
theorem rsame (a b : SB) (va vb : Value) (lo hi lo' hi' : Nat) (w : World) (h : RunsIn w va a.runs lo hi) (h' : RunsIn w vb b.runs lo' hi') (hl : a.runs.length ≤ 1000000) (hm : b.runs.length ≤ 1000000) :
    Calls Try.prog 14 #[.agg (a.cells va), .agg (b.cells vb)] w fun e w' => e = .returned (.bool (a.same b)) ∧ Kept [] w w' := by
  have hc := SB.num5 a b
  have hq := fun w' (hk : Kept [] w w') => rsameruns va vb a.runs b.runs lo hi lo' hi' w' (h.kept0 hk) (h'.kept0 hk) hl hm
  have HQ := Lib.hid hq
  obtain ⟨p, c, rfl⟩ := h.shape
  obtain ⟨p', c', rfl⟩ := h'.shape
  clear hq h h'
  obtain ⟨o1, o2⟩ := own_two w (a.cells (.slice p a.runs.length c)) (b.cells (.slice p' b.runs.length c')) 25 25
  unfold SB.cells at *
  rcases hc with ⟨e1, hx⟩ | ⟨e1, e2, hx⟩ | ⟨e1, e2, e3, hx⟩ | ⟨e1, e2, e3, e4, hx⟩ | ⟨e1, e2, e3, e4, e5, hx⟩ | ⟨e1, e2, e3, e4, e5, hx⟩
  case inr.inr.inr.inr.inr =>
    have HX := Lib.hid hx
    clear hx
    go_enter Try.func14, Try.ntmps14
    go_wp2_with fail
    refine (HQ.out _ (((Kept.refl _ _).alloc _).alloc _)).mono ?_; rintro e w1 ⟨rfl, hk⟩
    go_wp2_with fail
    go_ret
    exact ⟨by rw [HX.out]; rfl, (((Kept.refl _ _).alloc _).alloc _).trans hk⟩
  all_goals
    have HX := Lib.hid hx
    clear hx
    go_enter Try.func14, Try.ntmps14
    go_wp2_with fail
    go_ret
    exact ⟨by rw [HX.out]; rfl, ((Kept.refl _ _).alloc _).alloc _⟩
end Go.Proofs.Ytpdmnjcklpklnaa
