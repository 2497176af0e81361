/- Walks of layer 11 (super): needs; whether runs lie apart. -/
import Derived.Test.YtpdmnjcklpklnaaR1
import Derived.Test.YtpdmnjcklpklnaaMem2
import Derived.Test.YtpdmnjcklpklnaaP1
namespace Go.Proofs.Ytpdmnjcklpklnaa
open Go.RowKit
set_option linter.unusedVariables false
set_option linter.unusedSimpArgs false

theorem bd64 {n : Int} (h : (Lit.int .i64 n).wf = true) : -9223372036854775808 ≤ n ∧ n ≤ 9223372036854775807 := by
  simp only [Lit.wf, Bool.and_eq_true, decide_eq_true_eq] at h
  exact h
/-- how many sectors so many bytes need. -/
def need (n : Int) : Int := if n < 1 then 0 else (n - 1) / 128 + 1

set_option maxRecDepth 100000 in
theorem pneed (n : Int) (w : World) (hn : (Lit.int .i64 n).wf = true) :
    Calls Try.prog 22 #[.int .i64 n] w fun e w' => e = .returned (.int .i64 (need n)) ∧ w = w' := by
  have hb := bd64 hn
  unfold need
  by_cases h : n < 1
  · rw [if_pos h]
    go_enter Try.func22, Try.ntmps22
    go_wp2_with fail
    go_ret
    exact ⟨rfl, rfl⟩
  · rw [if_neg h]
    go_enter Try.func22, Try.ntmps22
    go_wp2_with fail
    go_ret
    exact ⟨rfl, rfl⟩

/-- what lie says of runs. -/
def LieSays (f s : Int) (l : List (Int × Int)) (w : World) (e : Ending) (w' : World) : Prop := e = .returned (if lies f s l then .tuple #[.int .i64 (sumLen l), .bool true] else .tuple #[.int .i64 0, .bool false]) ∧ Kept [] w w'
theorem lieSays_no {f s : Int} {l : List (Int × Int)} {w w' : World} (h : lies f s l = false) (hk : Kept [] w w') : LieSays f s l w (.returned (.tuple #[.int .i64 0, .bool false])) w' := by
  refine ⟨?_, hk⟩; rw [h]; rfl
theorem lieSays_yes {f s : Int} {l : List (Int × Int)} {w w' : World} (h : lies f s l = true) (hk : Kept [] w w') : LieSays f s l w (.returned (.tuple #[.int .i64 (sumLen l), .bool true])) w' := by
  refine ⟨?_, hk⟩; rw [h]; rfl
theorem okRun_cases {f s : Int} {a : Int × Int} : (okRun f s a = false ∧ (a.1 < f ∨ (f ≤ a.1 ∧ a.2 < 1) ∨ (f ≤ a.1 ∧ 1 ≤ a.2 ∧ s < a.1) ∨ (f ≤ a.1 ∧ 1 ≤ a.2 ∧ a.1 ≤ s ∧ s - a.1 < a.2))) ∨ (okRun f s a = true ∧ f ≤ a.1 ∧ 1 ≤ a.2 ∧ a.1 ≤ s ∧ a.2 ≤ s - a.1) := by
  cases h : okRun f s a
  · refine Or.inl ⟨rfl, ?_⟩
    have h' : ¬ (f ≤ a.1 ∧ 1 ≤ a.2 ∧ a.1 ≤ s ∧ a.2 ≤ s - a.1) := fun hh => by rw [okRun_iff.2 hh] at h; cases h
    omega
  · exact Or.inr ⟨rfl, okRun_iff.1 h⟩
theorem apart_cases {a b : Int × Int} : (apart a b = false ∧ a.1 < b.1 + b.2 ∧ b.1 < a.1 + a.2) ∨ (apart a b = true ∧ (b.1 + b.2 ≤ a.1 ∨ (a.1 < b.1 + b.2 ∧ a.1 + a.2 ≤ b.1))) := by
  cases h : apart a b
  · refine Or.inl ⟨rfl, ?_⟩
    have h' : ¬ (a.1 + a.2 ≤ b.1 ∨ b.1 + b.2 ≤ a.1) := fun hh => by rw [apart_iff.2 hh] at h; cases h
    omega
  · have := apart_iff.1 h
    exact Or.inr ⟨rfl, by omega⟩

set_option maxRecDepth 100000 in
set_option maxHeartbeats 1600000 in
theorem plie (v : Value) (l : List (Int × Int)) (lo hi : Nat) (f s : Int) (w : World) (h : RunsIn w v l lo hi) (hl : l.length ≤ 1000000) (hf : 0 ≤ f) (hf2 : f ≤ 100000) (hs : 0 ≤ s) (hs2 : s ≤ 8192) :
    Calls Try.prog 29 #[v, .int .i64 f, .int .i64 s] w (LieSays f s l w) := by
  obtain ⟨p, c, rfl⟩ := h.shape
  go_enter Try.func29, Try.ntmps29
  go_wp2_with fail
  go_loopw [8, 15] (fun a i wr => ∃ k : Nat, k ≤ l.length ∧ i = .int .i64 k ∧ a = .int .i64 (sumLen (l.take k)) ∧ Aside (lieTo f s l k = true) ∧ Kept [] w wr) (fun _ i _ => l.length - (intOf i).toNat)
  case atStart => exact ⟨0, by omega, rfl, by simp [sumLen], rfl, Kept.refl _ _⟩
  case round =>
    obtain ⟨k, hk, rfl, rfl, hL, hK⟩ := hrel
    by_cases hlt : k < l.length
    · obtain ⟨b, off, rfl, c0, c1, hb, hlc, hcm⟩ := (h.kept0 hK).at_ k hlt
      unfold maxLen at hcm
      have hno := lies_no f s l k hlt
      have hall : Aside (∀ m, (l.take m).all (apart l[k]) = true → m = k → okRun f s l[k] = true → lieTo f s l (k + 1) = true) := fun m h1 h2 h3 => by
        subst h2; rw [lieTo_succ f s l m hlt, hL.out, h3, h1]; rfl
      have hsum : Hid (sumLen (l.take (k + 1)) = sumLen (l.take k) + l[k].2) := sumLen_take l k hlt
      have hbd := sumLen_bd (Nat.le_of_lt hlt) hL.out hf hs2
      have hks : (8192 : Int) * k ≤ 8192000000 := by omega
      have hnoap := all_take_no l[k] l
      rcases @okRun_cases f s l[k] with ⟨h0, hbad⟩ | ⟨h0, g1, g2, g3, g4⟩
      · have HN : Hid (lies f s l = false) := hno (by rw [h0]; rfl)
        clear hno hall hsum h0 hnoap
        generalize l[k] = a at *
        generalize sumLen (l.take k) = sm at *
        rcases hbad with g1 | ⟨g1, g2⟩ | ⟨g1, g2, g3⟩ | ⟨g1, g2, g3, g4⟩
        all_goals
          go_wp2_with fail
          go_ret2
          exact lieSays_no HN.out (hK.alloc _)
      · have hno2 : Hid ((l.take k).all (apart l[k]) = false → lies f s l = false) := fun hh => hno (by rw [hh, Bool.and_false])
        have H0 := Lib.hid h0
        have HA := Lib.hid hnoap
        have hstep := fun m hm => all_take_succ l[k] l m hm
        have HST := Lib.hid hstep
        have hokl := lieTo_ok (Nat.le_of_lt hlt) hL.out
        have HOK := Lib.hid hokl
        clear hno h0 hnoap hstep hokl
        generalize l[k] = a at *
        generalize sumLen (l.take k) = sm at *
        go_wp2_with fail
        obtain ⟨wo, rfl⟩ : ∃ wo : World, wo = wr := ⟨_, rfl⟩
        go_loopw [48] (fun i wr => ∃ m : Nat, m ≤ k ∧ i = .int .i64 m ∧ Aside ((l.take m).all (apart a) = true) ∧ Kept [] w wr ∧ Own wr wo.heap.size #[.int .i64 a.1, .int .i64 a.2] 48) (fun i _ => k - (intOf i).toNat)
        case atStart => exact ⟨0, by omega, rfl, rfl, hK.alloc _, Own.new _ _ _⟩
        case round =>
          obtain ⟨m, hm, rfl, hAP, hK2, ho⟩ := hrel
          obtain ⟨d0, d1⟩ := ho.c2
          have hlt3 := ho.lt
          by_cases hmk : m < k
          · obtain ⟨b', off', hbe, e0, e1, hb2, -, -⟩ := (h.kept0 hK2).at_ m (by omega)
            injection hbe with hbe
            injection hbe with hbe1 hbe2 _
            subst hbe1 hbe2
            have hob := okRun_iff.1 (HOK.out m hmk)
            have hst2 := HST.out m (by omega)
            have hap2 := HA.out m k (by omega) hmk
            have HST2 := Lib.hid hst2
            have HAP2 := Lib.hid hap2
            have hc := @apart_cases a l[m]
            clear hst2 hap2
            generalize l[m] = bb at *
            obtain ⟨q1, q2, q3, q4⟩ := hob
            rcases hc with ⟨r0, r1, r2⟩ | ⟨r0, r1⟩
            · have HN : Hid (lies f s l = false) := hno2.out (HAP2.out r0)
              clear r0 c0 c1
              go_wp2_with fail
              go_ret2
              exact lieSays_no HN.out (hK2.alloc _)
            · have R0 := Lib.hid r0
              clear r0 c0 c1
              rcases r1 with r1 | ⟨r1, r2⟩
              all_goals
                go_wp2_with fail
                go_roundw
                case rel => exact ⟨m + 1, by omega, by go_num, by rw [HST2.out, hAP.out, R0.out]; rfl, hK2.alloc _, ho.alloc _⟩
                case measure => simp [intOf]; omega
          · have hmk2 : m = k := by omega
            have HL : Aside (lieTo f s l (k + 1) = true) := hall.out m hAP.out hmk2 H0.out
            clear hAP c0 c1
            have hge : (k : Int) ≤ m := by omega
            clear hmk2 hmk
            go_wp2_with fail
            go_roundw
            case rel => exact ⟨k + 1, by omega, by go_num, by rw [hsum.out], HL, hK2⟩
            case measure => simp [intOf]; omega
    · obtain rfl : k = l.length := by omega
      have HY : Hid (lies f s l = true) := hL.out
      have HS : Hid (sumLen (l.take l.length) = sumLen l) := by show _ = _; rw [List.take_length]
      clear hL
      generalize sumLen (l.take l.length) = sm at *
      go_wp2_with fail
      go_ret2
      rw [HS.out]
      exact lieSays_yes HY.out hK
end Go.Proofs.Ytpdmnjcklpklnaa
