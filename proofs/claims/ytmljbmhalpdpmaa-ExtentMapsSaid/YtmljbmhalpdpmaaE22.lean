/- Layer 10 (extent): whether a list has a sector: the program's Has and the reference's. -/
import Derived.Test.YtmljbmhalpdpmaaE18
namespace Go.Proofs.Ytmljbmhalpdpmaa
open Go.RowKit
set_option linter.unusedVariables false
set_option linter.unusedSimpArgs false

/-- is a sector one of a run's? -/
def inRun (r : Int × Int) (k : Int) : Bool := decide (r.1 ≤ k) && decide (k < r.1 + r.2)
theorem inRun_iff {r : Int × Int} {k : Int} : inRun r k = true ↔ r.1 ≤ k ∧ k < r.1 + r.2 := by unfold inRun; simp
set_option maxRecDepth 100000 in
set_option maxHeartbeats 1000000 in
theorem xhas1 (x n k : Int) (b : Nat) (w : World) (hx : 0 ≤ x) (hn : 0 ≤ n) (hxn : x + n ≤ 8192) (hc : w.cell? ⟨b, 0, none⟩ = some (.int .i64 k)) :
    Calls Try.prog 49 #[.agg #[.int .i64 x, .int .i64 n], .pointer (some ⟨b, 0, none⟩)] w fun e w' => e = .returned (.bool (inRun (x, n) k)) ∧ w.alloc (.cells #[.int .i64 x, .int .i64 n] 57) = w' := by
  have hb : b < w.heap.size := World.block_lt_of_cell? _ _ hc
  rcases (by omega : k < x ∨ (x ≤ k ∧ k < x + n) ∨ (x ≤ k ∧ x + n ≤ k)) with h | ⟨h, h2⟩ | ⟨h, h2⟩
  · have e : inRun (x, n) k = false := by unfold inRun; simp; omega
    rw [e]; clear e
    go_enter Try.func49, Try.ntmps49
    go_wp2_with fail
    go_ret
    exact ⟨rfl, rfl⟩
  · have e : inRun (x, n) k = true := by unfold inRun; simp; omega
    rw [e]; clear e
    go_enter Try.func49, Try.ntmps49
    go_wp2_with fail
    go_ret
    exact ⟨rfl, rfl⟩
  · have e : inRun (x, n) k = false := by unfold inRun; simp; omega
    rw [e]; clear e
    go_enter Try.func49, Try.ntmps49
    go_wp2_with fail
    go_ret
    exact ⟨by have e : decide (k < x + n) = false := decide_eq_false (by omega)
              rw [← e]; rfl, rfl⟩
/-- what the search tells. -/
def IdxSays (l : List (Int × Int)) (k : Int) (w : World) (e : Ending) (w' : World) : Prop := ∃ r : Int, e = .returned (.int .i64 r) ∧ -1 ≤ r ∧ r ≤ 8192 ∧ (0 ≤ r ↔ inS l k) ∧ Kept [] w w'
theorem idxSays_yes {l : List (Int × Int)} {k : Int} {w w' : World} {m : Nat} (hm : m < l.length) (hl : l.length ≤ 8192) (h : inRun l[m] k = true) (hk : Kept [] w w') : IdxSays l k w (.returned (.int .i64 m)) w' :=
  ⟨m, rfl, by omega, by omega, ⟨fun _ => ⟨l[m], List.getElem_mem hm, inRun_iff.1 h⟩, fun _ => by omega⟩, hk⟩
theorem idxSays_no {l : List (Int × Int)} {k : Int} {w w' : World} (h : ∀ j (hj : j < l.length), inRun l[j] k = false) (hk : Kept [] w w') : IdxSays l k w (.returned (.int .i64 (-1))) w' :=
  ⟨-1, rfl, by omega, by omega, ⟨fun q => by omega, fun ⟨r, hr, h1⟩ => by
    obtain ⟨j, hj, rfl⟩ := List.mem_iff_getElem.1 hr
    have := h j hj
    rw [inRun_iff.2 h1] at this
    cases this⟩, hk⟩
set_option maxRecDepth 100000 in
set_option maxHeartbeats 2000000 in
theorem xindex (v : Value) (l : List (Int × Int)) (k : Int) (b : Nat) (lo hi : Nat) (w : World) (h : RunsIn w v l lo hi) (hpl : Pl 0 l) (hc : w.cell? ⟨b, 0, none⟩ = some (.int .i64 k)) :
    Calls Try.prog 56 #[v, .func (.func 49) #[] #[.pointer (some ⟨b, 0, none⟩)]] w (IdxSays l k w) := by
  have hb : b < w.heap.size := World.block_lt_of_cell? _ _ hc
  have hlen := hpl.len0
  obtain ⟨p, c, rfl⟩ := h.shape
  have H := Lib.hid h
  have HPL := Lib.hid hpl
  have HC := Lib.hid hc
  have hl' : (l.length : Int) ≤ 8192 := by omega
  clear h hpl hc
  go_enter Try.func56, Try.ntmps56
  go_wp2_with fail
  go_loopw [8] (fun i wr => ∃ m : Nat, m ≤ l.length ∧ i = .int .i64 m ∧ (∀ j (hj : j < l.length), j < m → inRun l[j] k = false) ∧ Kept [] w wr) (fun i _ => l.length - (intOf i).toNat)
  case atStart => exact ⟨0, by omega, rfl, fun j _ hj => absurd hj (by omega), Kept.refl _ _⟩
  case round =>
    obtain ⟨m, hm, rfl, hno, hK⟩ := hrel
    by_cases hlt : m < l.length
    · obtain ⟨b', off, rfl, c0, c1, hb', hlc, hcm⟩ := (H.out.kept0 hK).at_ m hlt
      obtain ⟨p1, p2, p3⟩ := HPL.out.mem (List.getElem_mem hlt)
      have hcell := (hK.cell (a := ⟨b, 0, none⟩) hb (by simp)).trans HC.out
      have hx := xhas1 l[m].1 l[m].2 k b wr p1 (by omega) p3 hcell
      have hsu : inRun l[m] k = false → ∀ j (hj : j < l.length), j < m + 1 → inRun l[j] k = false := fun h j hj hjm => by
        by_cases e : j = m
        · subst e; exact h
        · exact hno j hj (by omega)
      have hye : inRun l[m] k = true → IdxSays l k w (.returned (.int .i64 m)) (wr.alloc (.cells #[.int .i64 l[m].1, .int .i64 l[m].2] 57)) := fun h => idxSays_yes hlt (by omega) h (hK.alloc _)
      have i1 : (m : Int) < l.length := by omega
      have HX := Lib.hid hx
      have HSU := Lib.hid hsu
      have HYE := Lib.hid hye
      have HLT := Lib.hid hlt
      clear hx hsu hye hno hcell
      clear p1 p2 p3
      generalize l[m] = X at *
      obtain ⟨x0, xn⟩ := X
      simp only at c0 c1 HX HSU HYE
      generalize inRun (x0, xn) k = R at *
      cases R
      · have hs2 := HSU.out rfl
        have HS2 := Lib.hid hs2
        clear hs2 HSU HYE
        go_wp2_with fail
        refine HX.out.mono ?_; rintro e w5 ⟨rfl, rfl⟩
        go_wp2_with fail
        go_roundw
        case rel => exact ⟨m + 1, HLT.out, by go_num, HS2.out, hK.alloc _⟩
        case measure => (have hh := HLT.out; simp [intOf]; omega)
      · have hs2 := HYE.out rfl
        have HS2 := Lib.hid hs2
        clear hs2 HSU HYE
        go_wp2_with fail
        refine HX.out.mono ?_; rintro e w5 ⟨rfl, rfl⟩
        go_wp2_with fail
        go_ret
        exact HS2.out
    · obtain rfl : m = l.length := by omega
      have hs2 := idxSays_no (l := l) (k := k) (fun j hj => hno j hj hj) hK
      have HS2 := Lib.hid hs2
      clear hs2 hno
      go_wp2_with fail
      go_ret
      exact HS2.out
/-- has a list a sector, whichever number? -/
def hasI (l : List (Int × Int)) (k : Int) : Bool := decide (0 ≤ k) && (decide (k < 8192) && hasB l k.toNat)
theorem hasI_iff {l : List (Int × Int)} {k : Int} : hasI l k = true ↔ inS (plainL l) k := by
  unfold hasI plainL
  rw [canon_is]
  constructor
  · intro h
    simp only [Bool.and_eq_true, decide_eq_true_eq] at h
    exact ⟨k.toNat, by omega, by omega, h.2.2⟩
  · rintro ⟨m, rfl, h1, h2⟩
    simp only [Bool.and_eq_true, decide_eq_true_eq]
    exact ⟨by omega, by omega, by simpa using h2⟩
set_option maxRecDepth 100000 in
set_option maxHeartbeats 1000000 in
theorem xcontains (v : Value) (l : List (Int × Int)) (k : Int) (b : Nat) (lo hi : Nat) (w : World) (h : RunsIn w v (plainL l) lo hi) (hc : w.cell? ⟨b, 0, none⟩ = some (.int .i64 k)) :
    Calls Try.prog 48 #[v, .func (.func 49) #[] #[.pointer (some ⟨b, 0, none⟩)]] w fun e w' => e = .returned (.bool (hasI l k)) ∧ Kept [] w w' := by
  have hx := xindex v (plainL l) k b lo hi w h (canon_pl _) hc
  have hi : hasI l k = true ↔ inS (plainL l) k := hasI_iff
  have HX := Lib.hid hx
  have HI := Lib.hid hi
  obtain ⟨p, c, rfl⟩ := h.shape
  clear hx h hc hi
  generalize hasI l k = R at *
  go_enter Try.func48, Try.ntmps48
  go_wp2_with fail
  refine HX.out.mono ?_; rintro e w1 ⟨r, rfl, r1, r2, hr, k1⟩
  have hR : decide (0 ≤ r) = R := by
    rw [Bool.eq_iff_iff, HI.out, ← hr]; simp
  have HR := Lib.hid hR
  clear hr hR
  go_wp2_with fail
  go_ret
  exact ⟨by rw [← HR.out]; rfl, k1⟩
set_option maxRecDepth 100000 in
set_option maxHeartbeats 1000000 in
theorem xhas (v : Value) (l : List (Int × Int)) (k : Int) (lo hi : Nat) (w : World) (h : RunsIn w v l lo hi) (hl : l.length ≤ 1000000) (hwf : ∀ a ∈ l, WfRun a) :
    Calls Try.prog 25 #[v, .int .i64 k] w fun e w' => e = .returned (.bool (hasI l k)) ∧ Kept [] w w' := by
  have hmf : ∀ (fn : Fn) (first cap : Array Value) (w : World), (Instr.makeFunc fn first cap).run Try.prog w = .ok (.func fn first cap) w := fun _ _ _ _ => rfl
  have hp := xplain v l lo hi (w.alloc (.cells #[.int .i64 k] 3)) (h.kept0 ((Kept.refl _ _).alloc _)) hl hwf
  have hcon := fun u W lo' hi' hr hc => xcontains u l k w.heap.size lo' hi' W hr hc
  have o0 := Own.new w #[.int .i64 k] 3
  have HP := Lib.hid hp
  have HCON := Lib.hid hcon
  obtain ⟨p, c, rfl⟩ := h.shape
  clear hp hcon h hwf
  unfold GivesR at HP
  go_enter Try.func25, Try.ntmps25
  go_wp2_with fail
  refine HP.out.mono ?_; rintro e w1 ⟨v1, rfl, r1, k1⟩
  have hc1 : w1.cell? ⟨w.heap.size, 0, none⟩ = some (.int .i64 k) := (k1.own o0 (by simp)).cell 0 (by simp)
  have hcc := HCON.out v1 w1 _ _ (RunsIn.of_own r1) hc1
  have HCC := Lib.hid hcc
  obtain ⟨p1, c1, rfl⟩ := own_shape r1
  clear hcc r1 HCON HP
  go_wp2_with fail
  refine HCC.out.mono ?_; rintro e w2 ⟨rfl, k2⟩
  go_wp2_with fail
  go_ret
  exact ⟨rfl, (((Kept.refl _ _).alloc _).trans k1).trans k2⟩
set_option maxRecDepth 100000 in
set_option maxHeartbeats 1000000 in
theorem zhas (v : Value) (l : List (Int × Int)) (k : Int) (lo hi : Nat) (w : World) (h : RunsIn w v l lo hi) (hl : l.length ≤ 1000000) (hwf : ∀ a ∈ l, WfRun a) :
    Calls Try.prog 26 #[v, .int .i64 k] w fun e w' => e = .returned (.bool (hasI l k)) ∧ Kept [] w w' := by
  have hz := zrow v l lo hi w h hl hwf
  obtain ⟨p, c, rfl⟩ := h.shape
  have HZ := Lib.hid hz
  clear hz h hwf
  unfold hasI
  rcases (by omega : k < 0 ∨ (0 ≤ k ∧ 8192 ≤ k) ∨ (0 ≤ k ∧ k < 8192)) with h | ⟨h, h2⟩ | ⟨h, h2⟩
  · rw [decide_eq_false (by omega : ¬ 0 ≤ k), Bool.false_and]
    go_enter Try.func26, Try.ntmps26
    go_wp2_with fail
    go_ret
    exact ⟨rfl, Kept.refl _ _⟩
  · rw [decide_eq_false (by omega : ¬ k < 8192), Bool.false_and, Bool.and_false]
    go_enter Try.func26, Try.ntmps26
    go_wp2_with fail
    go_ret
    exact ⟨rfl, Kept.refl _ _⟩
  · obtain ⟨m, rfl⟩ := Int.eq_ofNat_of_zero_le h
    rw [decide_eq_true h, decide_eq_true h2, Bool.true_and, Bool.true_and, Int.toNat_natCast]
    generalize hasB l = F at *
    go_enter Try.func26, Try.ntmps26
    go_wp2_with fail
    refine HZ.out.mono ?_; rintro e w1 ⟨rfl, r1, k1⟩
    have hm8 : m < 8192 := by omega
    have hc1 := Rw.cell r1 m hm8
    clear r1
    go_wp2_with fail
    go_ret
    exact ⟨rfl, k1⟩
end Go.Proofs.Ytmljbmhalpdpmaa
