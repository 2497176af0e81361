/- Walks of layer 4 (weigh): digits as numbers. -/
import Derived.Test.YtkghkkfcgegmeaaL1
import Derived.Test.YtkghkkfcgegmeaaMem2
import Derived.Test.YtkghkkfcgegmeaaW2
import Derived.Deep.LoopGhost
namespace Go.Proofs.Ytkghkkfcgegmeaa
open Go.RowKit
set_option linter.unusedVariables false
set_option linter.unusedSimpArgs false

theorem isD_snoc {l : List UInt8} {k : Nat} (hk : k < l.length) (h : ∀ c ∈ l.take k, isD c = true) (hc : isD l[k] = true) : ∀ c ∈ l.take (k + 1), isD c = true := by
  intro c hm
  rw [List.take_succ_eq_append_getElem hk, List.mem_append] at hm
  rcases hm with hm | hm
  · exact h c hm
  · simp at hm; rw [hm]; exact hc
theorem val_take_succ {l : List UInt8} {k : Nat} (hk : k < l.length) : val (l.take (k + 1)) = 10 * val (l.take k) + (l[k].toNat - 48) := by
  rw [List.take_succ_eq_append_getElem hk, val_snoc]
theorem val_bd {l : List UInt8} {k : Nat} (hk : k ≤ l.length) (h : ∀ c ∈ l.take k, isD c = true) : val (l.take k) < 10 ^ k := by
  induction k with
  | zero => simp [val]
  | succ k ih =>
    have h1 := ih (by omega) (fun c hc => h c (by rw [List.take_succ_eq_append_getElem (by omega)]; exact List.mem_append_left _ hc))
    have h2 := isD_iff.1 (h l[k] (by rw [List.take_succ_eq_append_getElem (by omega)]; exact List.mem_append_right _ (List.mem_singleton.2 rfl)))
    rw [val_take_succ (by omega), Nat.pow_succ]; omega
/-- what number says of a text. -/
def NumSays (l : List UInt8) (w : World) (e : Ending) (w' : World) : Prop := e = .returned (.tuple #[.int .i64 (val (pre l)), .int .i64 (pre l).length]) ∧ w = w'
theorem numSays {l : List UInt8} {w : World} {k : Nat} (hk : k ≤ l.length) (h : pre l = l.take k) : NumSays l w (.returned (.tuple #[.int .i64 (val (l.take k)), .int .i64 k])) w :=
  ⟨by rw [h, List.length_take, Nat.min_eq_left hk], rfl⟩

set_option maxRecDepth 100000 in
set_option maxHeartbeats 4000000 in
theorem wnumber (s : ByteArray) (w : World) (hs : s.size ≤ maxLen) :
    Calls Try.prog 69 #[.string s] w (NumSays s.data.toList w) := by
  unfold maxLen at hs
  have hsl : s.data.toList.length = s.size := by simp
  have HSL := Lib.hid hsl
  clear hsl
  go_enter Try.func69, Try.ntmps69
  go_wp2_with fail
  go_loop [4, 5] (fun n i => ∃ k : Nat, k ≤ s.size ∧ k ≤ 17 ∧ i = .int .i64 k ∧ n = .int .i64 (val (s.data.toList.take k)) ∧ Aside (∀ c ∈ s.data.toList.take k, isD c = true)) (fun _ i => 17 - (intOf i).toNat)
  case atStart => exact ⟨0, by omega, by omega, rfl, rfl, fun c hc => by simp at hc⟩
  case round =>
    obtain ⟨k, hk, h17, rfl, rfl, hall⟩ := hrel
    have hb := val_bd (by rw [HSL.out]; exact hk) hall
    have hb2 : val (s.data.toList.take k) < 10 ^ 17 := Nat.lt_of_lt_of_le hb (Nat.pow_le_pow_right (by decide) h17)
    have hb3 : val (s.data.toList.take k) < 100000000000000000 := hb2
    clear hb hb2
    by_cases hlt : k < s.size ∧ k < 17
    · obtain ⟨h1, h2⟩ := hlt
      have hg : s.data.toList[k]'(by rw [HSL.out]; exact h1) = s[k] := rfl
      cases hd : isD s[k]
      · have hpre : pre s.data.toList = s.data.toList.take k := pre_of (by rw [HSL.out]; exact hk) h17 hall (Or.inr (Or.inr ⟨by rw [HSL.out]; exact h1, by rw [hg]; exact hd⟩))
        have HP := Lib.hid hpre
        have hno : ¬ (48 ≤ (s[k].toNat : Int) ∧ (s[k].toNat : Int) ≤ 57) := fun h => by
          have : isD s[k] = true := isD_iff.2 ⟨by omega, by omega⟩
          rw [hd] at this; cases this
        clear hpre hall hd hg
        go_wp2_with fail
        all_goals
          go_ret2
          exact numSays (by rw [HSL.out]; exact hk) HP.out
      · have hdd := isD_iff.1 hd
        have hall2 : Aside (∀ c ∈ s.data.toList.take (k + 1), isD c = true) := isD_snoc (by rw [HSL.out]; exact h1) hall (by rw [hg]; exact hd)
        have hv : Hid (val (s.data.toList.take (k + 1)) = 10 * val (s.data.toList.take k) + (s[k].toNat - 48)) := val_take_succ (by rw [HSL.out]; exact h1)
        clear hall hd hg
        have d1 : 48 ≤ (s[k].toNat : Int) := by omega
        have d2 : (s[k].toNat : Int) ≤ 57 := by omega
        clear hdd
        generalize val (s.data.toList.take k) = v at *
        go_wp2_with fail
        go_round
        case rel => exact ⟨k + 1, by omega, by omega, by go_num, by rw [hv.out]; congr 1; omega, hall2⟩
        case measure => simp [intOf]; omega
    · have hpre : pre s.data.toList = s.data.toList.take k := pre_of (by rw [HSL.out]; exact hk) h17 hall (by
        rcases (show k = 17 ∨ k = s.size by omega) with h | h
        · exact Or.inl h
        · exact Or.inr (Or.inl (by rw [HSL.out]; exact h)))
      have HP := Lib.hid hpre
      clear hpre hall
      go_wp2_with fail
      all_goals
        go_ret2
        exact numSays (by rw [HSL.out]; exact hk) HP.out
end Go.Proofs.Ytkghkkfcgegmeaa
