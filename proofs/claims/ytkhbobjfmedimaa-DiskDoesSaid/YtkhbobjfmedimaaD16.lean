/- Walk of chapter 9's statement: which images are disks. -/
import Derived.Test.YtkhbobjfmedimaaD15
namespace Go.Proofs.Ytkhbobjfmedimaa
open Go.RowKit Go.Maps
set_option linter.unusedVariables false
set_option linter.unusedSimpArgs false

set_option maxRecDepth 100000 in
set_option maxHeartbeats 2000000 in
theorem loadsLaw (s : ByteArray) (w : World) (hs : s.size ≤ maxLen) :
    Calls Try.prog 4 #[.string s] w fun e w' => e = .returned (.bool true) ∧ Below w.heap.size w w' := by
  unfold maxLen at hs
  by_cases hl : s.size ≤ 5000
  · have hl' : (s.size : Int) ≤ 5000 := by omega
    have hmay := fun W => rMay s W
    by_cases hm : 128 ≤ s.size ∧ s.size % 128 = 0
    · have e : mayImg s.size = true := by unfold mayImg; exact decide_eq_true ⟨hm.1, hm.2, by omega⟩
      rw [e] at hmay
      obtain ⟨n, hn⟩ : ∃ n, s.size = 128 * n := ⟨s.size / 128, by omega⟩
      have h1 : 1 ≤ n := by omega
      have h2 : n ≤ 39 := by omega
      clear e hm hs hl
      rw [← bs_of s] at *
      generalize s.data.toList = img at *
      have hlen : img.length = 128 * n := by rw [← bs_size]; exact hn
      have hload := fun W => dLoad img n W hlen h1 (by omega)
      have hflat := load_flat img n hlen
      have hfl := loadTo_len img n n (Nat.le_refl _)
      have i2 : (n : Int) ≤ 39 := by omega
      have HLO := Lib.hid hload
      have HM := Lib.hid hmay
      clear hload hmay
      go_enter Try.func4, Try.ntmps4
      go_wp2_with fail
      refine (HLO.out _).mono ?_; rintro e w1 ⟨b, sb, mb, lo, rfl, d1, _, _, _, k1⟩
      have him := dImage b sb mb lo _ w1 d1 (load_fine img n)
      rw [show (newD (loadTo img n n)).stand.flatten = img from hflat] at him
      go_wp2_with fail
      refine (HM.out _).mono ?_; rintro e w' ⟨rfl, rfl⟩
      go_wp2_with fail
      refine him.mono ?_; rintro e w2 ⟨rfl, k2⟩
      have d2 := d1.keep k2 (fun x hx => by cases hx)
      have hK := k1.trans k2
      have HW : Hid (Calls Try.prog 16 #[.pointer (some ⟨b, 0, none⟩)] w2 fun e w' => e = .returned (.int .i64 0) ∧ w2 = w') := dWaits b sb mb lo _ w2 d2
      have HO : Hid (Calls Try.prog 17 #[.pointer (some ⟨b, 0, none⟩)] w2 fun e w' => e = .returned (.int .i64 0) ∧ w2 = w') := dOps b sb mb lo _ w2 d2
      have HD : Hid (Calls Try.prog 18 #[.pointer (some ⟨b, 0, none⟩)] w2 fun e w' => e = .returned (.bool false) ∧ w2 = w') := dDown b sb mb lo _ w2 d2
      have hln := dLen b sb mb lo _ w2 d2
      rw [show (newD (loadTo img n n)).stand.length = n from hfl] at hln
      have HLN := Lib.hid hln
      have HR : Hid (∀ i, i < n → Calls Try.prog 20 #[.pointer (some ⟨b, 0, none⟩), .int .i64 i] w2 fun e w' => e = .returned (.tuple #[.string (bs (cutS img i)), .int .i64 0]) ∧ w2 = w') := fun i hi => (dRead b sb mb lo _ i w2 d2 rfl (by show i < (loadTo img n n).length; rw [hfl]; exact hi)).mono fun e w' hh => ⟨by
        rw [hh.1]
        have e2 : seen (newD (loadTo img n n)) i = cutS img i := load_get img n i hi
        rw [e2], hh.2⟩
      have hq : ((128 * n : Nat) : Int) = 128 * (n : Int) := by omega
      clear him hln k1 k2 d1 d2 hflat hfl HLO HM
      go_wp2_with fail
      refine HW.out.mono ?_; rintro e w' ⟨rfl, rfl⟩
      go_wp2_with fail
      refine HO.out.mono ?_; rintro e w' ⟨rfl, rfl⟩
      go_wp2_with fail
      refine HD.out.mono ?_; rintro e w' ⟨rfl, rfl⟩
      go_wp2_with fail
      go_loop [5] (fun i => ∃ k : Nat, k ≤ n ∧ i = .int .i64 k) (fun i => n - (intOf i).toNat)
      case atStart => exact ⟨0, by omega, rfl⟩
      case round =>
        obtain ⟨k, hk, rfl⟩ := hrel
        by_cases hlt : k < n
        · have hrd := HR.out k hlt
          have hx := extract_cut img k
          have hx2 : (bs img).extract (k * 128) (k * 128 + 128) = bs (cutS img k) := by rw [Nat.mul_comm]; exact hx
          have t1 : ((k : Int) * 128).toNat = k * 128 := by omega
          have t2 : ((k : Int) * 128 + 128).toNat = k * 128 + 128 := by omega
          have b1 : (k : Int) * 128 + 128 ≤ 128 * (n : Int) := by omega
          have b3 : (k : Int) < n := by omega
          have b4 : (k : Int) < 40 := by omega
          have HLT := Lib.hid hlt
          clear hx hlt
          generalize bs (cutS img k) = C at *
          go_wp2_with fail
          refine HLN.out.mono ?_; rintro e w' ⟨rfl, rfl⟩
          go_wp2_with fail
          refine hrd.mono ?_; rintro e w' ⟨rfl, rfl⟩
          go_wp2_with fail
          go_round
          case rel => exact ⟨k + 1, HLT.out, by go_num⟩
          case measure => (have hh := HLT.out; simp [intOf]; omega)
        · obtain rfl : k = n := by omega
          go_wp2_with fail
          refine HLN.out.mono ?_; rintro e w' ⟨rfl, rfl⟩
          go_wp2_with fail
          refine HLN.out.mono ?_; rintro e w' ⟨rfl, rfl⟩
          go_wp2_with fail
          refine (awakeD _).mono ?_; rintro e w9 ⟨rfl, kz⟩
          go_wp2_with fail
          go_ret
          exact ⟨rfl, (hK.trans kz).below⟩
    · have e : mayImg s.size = false := by unfold mayImg; exact decide_eq_false (fun hh => hm ⟨hh.1, hh.2.1⟩)
      rw [e] at hmay
      have hno := fun W => dLoad_no s W (by omega) hl
      clear e hm hs hl
      go_enter Try.func4, Try.ntmps4
      go_wp2_with fail
      refine (hno _).mono ?_; rintro e w' ⟨rfl, rfl⟩
      go_wp2_with fail
      refine (hmay _).mono ?_; rintro e w' ⟨rfl, rfl⟩
      go_wp2_with fail
      refine (awakeD _).mono ?_; rintro e w9 ⟨rfl, kz⟩
      go_wp2_with fail
      go_ret
      exact ⟨rfl, kz.below⟩
  · have hl' : ¬ ((s.size : Int) ≤ 5000) := by omega
    go_enter Try.func4, Try.ntmps4
    go_wp2_with fail
    refine (awakeD _).mono ?_; rintro e w9 ⟨rfl, kz⟩
    go_wp2_with fail
    go_ret
    exact ⟨rfl, kz.below⟩
end Go.Proofs.Ytkhbobjfmedimaa
