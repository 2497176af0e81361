/- Walks of layer 4 (weigh): the reference's size. -/
import Derived.Test.YtkghkkfcgegmeaaL6
namespace Go.Proofs.Ytkghkkfcgegmeaa
open Go.RowKit Fl
set_option linter.unusedVariables false
set_option linter.unusedSimpArgs false

/-- what size says of a text. -/
def SizeSays (l : List UInt8) (w : World) (e : Ending) (w' : World) : Prop :=
  (∃ (m : Nat) (ok : Bool), e = .returned (.tuple #[.int .i64 m, .bool ok]) ∧ m < 10000000000000000 ∧ (ok = true → m ≤ 2 ^ 53) ∧ (∀ n, n ≤ 2 ^ 53 → l = digs n → m = n ∧ ok = true)) ∧ w = w'
theorem size_no {l : List UInt8} {w : World} (h : ∀ n, n ≤ 2 ^ 53 → l ≠ digs n) : SizeSays l w (.returned (.tuple #[.int .i64 0, .bool false])) w :=
  ⟨⟨0, false, rfl, by omega, fun h => (by cases h), fun n hn e => absurd e (h n hn)⟩, rfl⟩
theorem digs_nonought (n : Nat) (hn : n ≤ 2 ^ 53) (h : 1 < (digs n).length) (h0 : 0 < (digs n).length) : (digs n)[0].toNat ≠ 48 := by
  by_cases h10 : n < 10
  · have : digs n = [dg n] := by unfold digs; rw [digsF, if_pos h10]; rfl
    rw [this] at h; simp at h
  · obtain ⟨c, t, e, hc⟩ := digsF_head 20 n (by omega) (by omega)
    have : digs n = c :: t := e
    simp only [this]
    exact hc

set_option maxRecDepth 100000 in
set_option maxHeartbeats 400000 in
theorem rsize (s : ByteArray) (w : World) (hs : s.size ≤ maxLen) :
    Calls Try.prog 70 #[.string s] w (SizeSays s.data.toList w) := by
  unfold maxLen at hs
  have hsl : s.data.toList.length = s.size := by simp
  have HSL := Lib.hid hsl
  clear hsl
  by_cases hl : s.size < 1 ∨ 16 < s.size
  · have hno : Hid (∀ n, n ≤ 2 ^ 53 → s.data.toList ≠ digs n) := fun n hn e => by
      have := digs_len n hn
      rw [← e, HSL.out] at this; omega
    rcases hl with h | h
    all_goals
      go_enter Try.func70, Try.ntmps70
      go_wp2_with fail
      go_ret2
      exact size_no hno.out
  · have h1 : 1 ≤ s.size := by omega
    have h16 : s.size ≤ 16 := by omega
    clear hl
    by_cases hz : 1 < s.size ∧ (s[0]'(by omega)).toNat = 48
    · obtain ⟨hz1, hz2⟩ := hz
      have hno : Hid (∀ n, n ≤ 2 ^ 53 → s.data.toList ≠ digs n) := fun n hn e => by
        refine digs_nonought n hn (by rw [← e, HSL.out]; exact hz1) (by rw [← e, HSL.out]; omega) ?_
        simp only [← e]
        exact hz2
      have hz3 : ((s[0]'(by omega)).toNat : Int) = 48 := by omega
      clear hz2
      go_enter Try.func70, Try.ntmps70
      go_wp2_with fail
      go_ret2
      exact size_no hno.out
    · have hz2 : s.size ≤ 1 ∨ (1 < s.size ∧ (((s[0]'(by omega)).toNat : Int) == 48) = false) := by
        by_cases h : 1 < s.size
        · refine Or.inr ⟨h, ?_⟩
          have : (s[0]'(by omega)).toNat ≠ 48 := fun e => hz ⟨h, e⟩
          simp; omega
        · exact Or.inl (by omega)
      clear hz
      rcases hz2 with h | ⟨h, h0⟩
      all_goals
        go_enter Try.func70, Try.ntmps70
        go_wp2_with fail
        go_loop [4, 5] (fun n i => ∃ k : Nat, k ≤ s.size ∧ i = .int .i64 k ∧ n = .int .i64 (val (s.data.toList.take k)) ∧ Aside (∀ c ∈ s.data.toList.take k, isD c = true)) (fun _ i => s.size - (intOf i).toNat)
        case atStart => exact ⟨0, by omega, rfl, rfl, fun c hc => by simp at hc⟩
        case round =>
          obtain ⟨k, hk, rfl, rfl, hall⟩ := hrel
          have hb := val_bd (by rw [HSL.out]; exact hk) hall
          have hb2 : val (s.data.toList.take k) < 10 ^ 16 := Nat.lt_of_lt_of_le hb (Nat.pow_le_pow_right (by decide) (by omega))
          have hb3 : val (s.data.toList.take k) < 10000000000000000 := hb2
          clear hb hb2
          by_cases hlt : k < s.size
          · have hg : s.data.toList[k]'(by rw [HSL.out]; exact hlt) = s[k] := rfl
            cases hd : isD s[k]
            · have hno : Hid (∀ n, n ≤ 2 ^ 53 → s.data.toList ≠ digs n) := fun n hn e => by
                have h2 := digsF_isD 20 n s[k] (by rw [show digsF 20 n = s.data.toList from e.symm, ← hg]; exact List.getElem_mem _)
                rw [hd] at h2; cases h2
              have hno2 : (s[k].toNat : Int) < 48 ∨ 57 < (s[k].toNat : Int) := by
                rcases Nat.lt_or_ge s[k].toNat 48 with h2 | h2
                · exact Or.inl (by omega)
                · rcases Nat.lt_or_ge 57 s[k].toNat with h3 | h3
                  · exact Or.inr (by omega)
                  · have := isD_iff.2 ⟨h2, h3⟩; rw [hd] at this; cases this
              clear hall hd hg
              go_wp2_with fail
              all_goals
                go_ret2
                exact size_no hno.out
            · have hdd := isD_iff.1 hd
              have hall2 : Aside (∀ c ∈ s.data.toList.take (k + 1), isD c = true) := isD_snoc (by rw [HSL.out]; exact hlt) hall (by rw [hg]; exact hd)
              have hv : Hid (val (s.data.toList.take (k + 1)) = 10 * val (s.data.toList.take k) + (s[k].toNat - 48)) := val_take_succ (by rw [HSL.out]; exact hlt)
              clear hall hd hg
              have d1 : 48 ≤ (s[k].toNat : Int) := by omega
              have d2 : (s[k].toNat : Int) ≤ 57 := by omega
              clear hdd
              generalize val (s.data.toList.take k) = v at *
              go_wp2_with fail
              go_round
              case rel => exact ⟨k + 1, by omega, by go_num, by rw [hv.out]; congr 1; omega, hall2⟩
              case measure => simp [intOf]; omega
          · obtain rfl : k = s.size := by omega
            have hw : s.data.toList.take s.size = s.data.toList := List.take_of_length_le (by rw [HSL.out]; exact Nat.le_refl _)
            have HW := Lib.hid hw
            clear hw hall
            have hfin : SizeSays s.data.toList w (.returned (.tuple #[.int .i64 (val (s.data.toList.take s.size)), .bool (decide ((val (s.data.toList.take s.size) : Int) ≤ 9007199254740992))])) w := by
              refine ⟨⟨_, _, rfl, hb3, fun h => by have := of_decide_eq_true h; omega, fun n hn e => ?_⟩, rfl⟩
              have e2 : val (s.data.toList.take s.size) = n := by rw [HW.out, e, digs_val n hn]
              rw [e2]
              exact ⟨rfl, decide_eq_true (by omega)⟩
            have HFIN := Lib.hid hfin
            clear hfin
            go_wp2_with fail
            go_ret2
            exact HFIN.out
end Go.Proofs.Ytkghkkfcgegmeaa
