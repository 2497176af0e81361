/- Walks of layer 10 (extent): how many sectors; what the first of two lists has alone. -/
import Derived.Test.YtdnbddhjdokbfaaG09
namespace Go.Proofs.Ytdnbddhjdokbfaa
open Go.RowKit
set_option linter.unusedVariables false
set_option linter.unusedSimpArgs false

theorem Pl.sum {a : Int} {l : List (Int × Int)} (h : Pl a l) (ha : a ≤ 8193) : 0 ≤ sumLen l ∧ sumLen l ≤ 8193 - a := by
  induction l generalizing a with
  | nil => simp [sumLen]; omega
  | cons r t ih =>
    obtain ⟨h1, h2, h3, h4⟩ := h
    have := ih h4 (by omega)
    have e : sumLen (r :: t) = r.2 + sumLen t := by simp [sumLen]
    rw [e]; omega
theorem Pl.take {a : Int} {l : List (Int × Int)} (h : Pl a l) (k : Nat) : Pl a (l.take k) := by
  induction k generalizing l a with
  | zero => trivial
  | succ k ih =>
    cases l with
    | nil => trivial
    | cons r t => obtain ⟨h1, h2, h3, h4⟩ := h; exact ⟨h1, h2, h3, ih h4⟩
set_option maxRecDepth 100000 in
set_option maxHeartbeats 1000000 in
theorem xcount (v : Value) (l : List (Int × Int)) (lo hi : Nat) (w : World) (h : RunsIn w v l lo hi) (hl : l.length ≤ 1000000) (hwf : ∀ a ∈ l, WfRun a) :
    Calls Try.prog 32 #[v] w fun e w' => e = .returned (.int .i64 (countL l)) ∧ Kept [] w w' := by
  have hp := xplain v l lo hi w h hl hwf
  have hsum := plain_sum l
  have hpl : Pl 0 (plainL l) := canon_pl _
  have hlen := hpl.len0
  obtain ⟨p, c, rfl⟩ := h.shape
  unfold GivesR at hp
  have HP := Lib.hid hp
  have HSUM := Lib.hid hsum
  have HPL := Lib.hid hpl
  clear hp hsum hpl h hwf
  generalize plainL l = x at *
  generalize countL l = n at *
  go_enter Try.func32, Try.ntmps32
  go_wp2_with fail
  refine HP.out.mono ?_; rintro e w1 ⟨v1, rfl, r1, k1⟩
  obtain ⟨px, cx, rfl⟩ := own_shape r1
  have HX := Lib.hid (RunsIn.of_own r1)
  clear r1
  go_wp2_with fail
  go_loopw [3, 9] (fun s i wr => ∃ k : Nat, k ≤ x.length ∧ i = .int .i64 k ∧ s = .int .i64 (sumLen (x.take k)) ∧ Kept [] w1 wr) (fun _ i _ => x.length - (intOf i).toNat)
  case atStart => exact ⟨0, by omega, rfl, rfl, Kept.refl _ _⟩
  case round =>
    obtain ⟨k, hk, rfl, rfl, hK⟩ := hrel
    by_cases hlt : k < x.length
    · obtain ⟨b, off, rfl, c0, c1, hb, hlc, hcm⟩ := (HX.out.kept0 hK).at_ k hlt
      have hst := sumLen_take x k hlt
      have hs1 := (HPL.out.take k).sum (by omega)
      have hs2 := (HPL.out.take (k + 1)).sum (by omega)
      rw [hst] at hs2
      have i1 : (k : Int) < x.length := by omega
      have HST := Lib.hid hst
      have HLT := Lib.hid hlt
      obtain ⟨s1, s2⟩ := hs1
      obtain ⟨s3, s4⟩ := hs2
      clear hst
      generalize sumLen (x.take k) = S at *
      go_wp2_with fail
      go_roundw
      case rel => exact ⟨k + 1, HLT.out, by go_num, by rw [HST.out], hK.alloc _⟩
      case measure => (have hh := HLT.out; simp [intOf]; omega)
    · obtain rfl : k = x.length := by omega
      have e : sumLen (x.take x.length) = (n : Int) := by rw [List.take_length]; exact HSUM.out
      rw [e]
      clear e
      go_wp2_with fail
      go_ret
      exact ⟨rfl, k1.trans hK⟩
/-- the gaps ahead of the first so many runs, and where the next one begins. -/
def atTo (p : List (Int × Int)) : Nat → Int
  | 0 => 0
  | k + 1 => (p.getD k (0, 0)).1 + (p.getD k (0, 0)).2
def gapsTo (p : List (Int × Int)) : Nat → List (Int × Int)
  | 0 => []
  | k + 1 => gapsTo p k ++ [(atTo p k, (p.getD k (0, 0)).1 - atTo p k)]
theorem gapsTo_len (p : List (Int × Int)) (k : Nat) : (gapsTo p k).length = k := by
  induction k with
  | zero => rfl
  | succ k ih => rw [gapsTo, List.length_append, ih]; rfl
structure GapOk (p : List (Int × Int)) (k : Nat) : Prop where
  lo : 0 ≤ atTo p k ∧ atTo p k ≤ 8192
  next : ∀ h : k < p.length, atTo p k ≤ p[k].1
  is : ∀ j, inS (gapsTo p k) j ↔ 0 ≤ j ∧ j < atTo p k ∧ ¬ inS p j
  behind : ∀ j, atTo p k ≤ j → inS p j → inS (p.drop k) j
  wf : ∀ r ∈ gapsTo p k, 0 ≤ r.1 ∧ r.1 ≤ 8192 ∧ 0 ≤ r.2 ∧ r.2 ≤ 8192
theorem gap_ok {p : List (Int × Int)} (hp : Pl 0 p) (k : Nat) (hk : k ≤ p.length) : GapOk p k := by
  induction k with
  | zero => exact ⟨⟨Int.le_refl _, by show (0 : Int) ≤ 8192; omega⟩, fun h => (pl_at hp h).1, fun j => ⟨fun h => absurd h (inS_nil j), fun ⟨h1, h2, _⟩ => by have h2 : j < 0 := h2; omega⟩, fun j _ h => h, fun r hr => by cases hr⟩
  | succ k ih =>
    have hlt : k < p.length := by omega
    obtain ⟨⟨h1, h2⟩, h3, h4, h5, h6⟩ := ih (by omega)
    have h3 := h3 hlt
    obtain ⟨p1, p2, p3⟩ := pl_at hp hlt
    have eg : p.getD k (0, 0) = p[k] := by rw [List.getD_eq_getElem?_getD, List.getElem?_eq_getElem hlt]; rfl
    have ea : atTo p (k + 1) = p[k].1 + p[k].2 := by rw [atTo, eg]
    have egap : gapsTo p (k + 1) = gapsTo p k ++ [(atTo p k, p[k].1 - atTo p k)] := by rw [gapsTo, eg]
    have dx := fun j => in_drop hlt j
    have gx : ∀ j, inS (p.drop (k + 1)) j → p[k].1 + p[k].2 + 1 ≤ j := fun j hj => ((hp.next k hlt).ge hj).1
    refine ⟨by rw [ea]; omega, fun h => ?_, fun j => ?_, fun j hj hin => ?_, fun r hr => ?_⟩
    · rw [ea]
      have := drop_ge hp hlt (q := p[k + 1]) (by rw [List.drop_eq_getElem_cons h]; exact List.mem_cons_self)
      omega
    · rw [egap, inS_append, inS_one, h4, ea]
      constructor
      · rintro (⟨a, b, c⟩ | ⟨a, b⟩)
        · exact ⟨a, by omega, c⟩
        · have a : atTo p k ≤ j := a
          have b : j < atTo p k + (p[k].1 - atTo p k) := b
          refine ⟨by omega, by omega, fun hin => ?_⟩
          rcases (dx j).1 (h5 j a hin) with ⟨q, _⟩ | q
          · omega
          · have := gx j q; omega
      · rintro ⟨a, b, c⟩
        by_cases hj : j < atTo p k
        · exact Or.inl ⟨a, hj, c⟩
        · refine Or.inr ⟨by show atTo p k ≤ j; omega, ?_⟩
          show j < atTo p k + (p[k].1 - atTo p k)
          by_cases hq : p[k].1 ≤ j
          · exact absurd ⟨p[k], List.getElem_mem hlt, hq, b⟩ c
          · omega
    · rw [ea] at hj
      rcases (dx j).1 (h5 j (by omega) hin) with ⟨_, q⟩ | q
      · omega
      · exact q
    · rw [egap] at hr
      rcases List.mem_append.1 hr with hr | hr
      · exact h6 r hr
      · have hr : r = (atTo p k, p[k].1 - atTo p k) := by simpa using hr
        subst hr
        exact ⟨h1, h2, by show 0 ≤ p[k].1 - atTo p k; omega, by show p[k].1 - atTo p k ≤ 8192; omega⟩
/-- all gaps. -/
def gapsL (p : List (Int × Int)) : List (Int × Int) := gapsTo p p.length ++ [(atTo p p.length, 8192 - atTo p p.length)]
theorem gaps_has {p : List (Int × Int)} (hp : Pl 0 p) (m : Nat) (hm : m < 8192) : hasB (gapsL p) m = !hasB p m := by
  obtain ⟨⟨h1, h2⟩, _, h4, h5, _⟩ := gap_ok hp p.length (Nat.le_refl _)
  rw [Bool.eq_iff_iff, Bool.not_eq_true', ← Bool.not_eq_true, hasB_iff, hasB_iff]
  unfold gapsL
  rw [inS_append, inS_one, h4]
  constructor
  · rintro (⟨_, _, c⟩ | ⟨a, b⟩)
    · exact c
    · intro hin
      have := h5 m a hin
      rw [List.drop_length] at this
      exact inS_nil _ this
  · intro c
    by_cases hj : (m : Int) < atTo p p.length
    · exact Or.inl ⟨by omega, hj, c⟩
    · refine Or.inr ⟨by show atTo p p.length ≤ m; omega, ?_⟩
      show (m : Int) < atTo p p.length + (8192 - atTo p p.length)
      omega
theorem gaps_wf {p : List (Int × Int)} (hp : Pl 0 p) : ∀ r ∈ gapsL p, WfRun r := by
  obtain ⟨⟨h1, h2⟩, _, _, _, h6⟩ := gap_ok hp p.length (Nat.le_refl _)
  intro r hr
  unfold gapsL at hr
  rcases List.mem_append.1 hr with hr | hr
  · obtain ⟨a, b, c, d⟩ := h6 r hr
    exact ⟨by omega, by omega, by omega, by omega⟩
  · have hr : r = (atTo p p.length, 8192 - atTo p p.length) := by simpa using hr
    subst hr
    exact ⟨by show _ ≤ atTo p p.length; omega, by show atTo p p.length ≤ _; omega, by show _ ≤ 8192 - atTo p p.length; omega, by show 8192 - atTo p p.length ≤ _; omega⟩
theorem minus_gaps (la lb : List (Int × Int)) : commonL la (gapsL (plainL lb)) = minusL la lb :=
  canon_congr (fun m hm => by rw [gaps_has (p := plainL lb) (canon_pl _) m hm]; unfold plainL; rw [canon_has _ m hm])
end Go.Proofs.Ytdnbddhjdokbfaa
