/- Layer 10 (extent): a map made; ExtentBack's walk. -/
import Derived.Test.YtmljbmhalpdpmaaE24
import Derived.Test.YtmljbmhalpdpmaaE26
import Derived.Test.YtmljbmhalpdpmaaE25
namespace Go.Proofs.Ytmljbmhalpdpmaa
open Go.RowKit
set_option linter.unusedVariables false
set_option linter.unusedSimpArgs false

theorem plain_free (f s : Int) : plainL [(f, s - f)] = freeL f s [] := by
  unfold plainL freeL minusL
  exact canon_congr (fun m hm => by simp [hasB])
set_option maxRecDepth 100000 in
set_option maxHeartbeats 1000000 in
theorem mnew (f s : Int) (w : World) (f1 : 0 ≤ f) (fs : f ≤ s) (s2 : s ≤ 8192) :
    Calls Try.prog 33 #[.int .i64 f, .int .i64 s] w fun e w' => (∃ b, e = .returned (.tuple #[.pointer (some ⟨b, 0, none⟩), .int .i64 0]) ∧ w.heap.size ≤ b ∧ MapAt w' b f s (freeL f s [])) ∧ Kept [] w w' := by
  have hl := runs_lit1 w f (s - f)
  have hp := xplain _ _ _ _ _ hl (by simp) (fun a ha => by
    have ha : a = (f, s - f) := by simpa using ha
    subst ha
    exact ⟨by show _ ≤ f; omega, by show f ≤ _; omega, by show _ ≤ s - f; omega, by show s - f ≤ _; omega⟩)
  rw [plain_free] at hp
  unfold GivesR at hp
  have HP := Lib.hid hp
  have hpl := free_pl f s []
  have HPL := Lib.hid hpl
  clear hp hl hpl
  generalize freeL f s [] = F at *
  go_enter Try.func33, Try.ntmps33
  go_wp2_with fail
  refine HP.out.mono ?_; rintro e w1 ⟨v1, rfl, r1, k1⟩
  have hr : RunsRow w1 v1 F := ⟨_, r1⟩
  have hr2 := hr.kept0 ((Kept.refl _ _).alloc (.cells #[.bool true, .int .i64 f, .int .i64 s, v1] 71))
  have om := Own.new w1 #[.bool true, .int .i64 f, .int .i64 s, v1] 71
  have hM : MapAt (w1.alloc (.cells #[.bool true, .int .i64 f, .int .i64 s, v1] 71)) w1.heap.size f s F := ⟨⟨v1, om, hr2⟩, HPL.out⟩
  have HM := Lib.hid hM
  have hk := ((Kept.refl [] w).alloc (.cells #[.int .i64 f, .int .i64 (s - f)] 57)).trans k1
  have hsz := hk.size
  obtain ⟨p1, q1, rfl⟩ := own_shape r1
  clear hr hr2 r1 om hM
  go_wp2_with fail
  go_ret2
  exact ⟨⟨_, rfl, hsz, HM.out⟩, hk.alloc _⟩
/-- all sectors of a list lie so. -/
def Within (f s : Int) (F : List (Int × Int)) : Prop := ∀ m : Nat, m < 8192 → hasB F m = true → f ≤ m ∧ (m : Int) < s
theorem within_free (f s : Int) (T : List (Int × Int)) : Within f s (freeL f s T) := fun m hm h => by
  unfold freeL minusL at h
  rw [canon_has _ m hm, Bool.and_eq_true, hasB_iff, inS_one] at h
  have h1 : f ≤ (m : Int) := h.1.1
  have h2 : (m : Int) < f + (s - f) := h.1.2
  omega
theorem within_minus {f s : Int} {F : List (Int × Int)} (h : Within f s F) (l : List (Int × Int)) : Within f s (minusL F l) := fun m hm hh => by
  unfold minusL at hh
  rw [canon_has _ m hm, Bool.and_eq_true] at hh
  exact h m hm hh.1
theorem within_low {f s : Int} {F : List (Int × Int)} (h : Within f s F) (n : Int) : Within f s (lowRes F n) := fun m hm hh => by
  unfold lowRes at hh
  split at hh
  · unfold lowestL at hh
    rw [canon_has _ m hm, lowF_at, Bool.and_eq_true] at hh
    exact h m hm hh.1
  · simp [hasB] at hh
theorem within_take {f s : Int} {F : List (Int × Int)} (h : Within f s F) (n : Int) : Within f s (takeF F n) := by
  unfold takeF
  split
  · exact within_minus h _
  · exact h
theorem within_may {f s : Int} {L : List (Int × Int)} (hp : Pl 0 L) (h : Within f s L) : MayX f s L := by
  have hm := pl_may hp (Int.le_refl _)
  refine ⟨fun a ha => ?_, hm.2⟩
  obtain ⟨h1, h2, h3⟩ := hp.mem ha
  have g1 := h a.1.toNat (by omega) (hasB_iff.2 ⟨a, ha, by omega, by omega⟩)
  have g2 := h (a.1 + a.2 - 1).toNat (by omega) (hasB_iff.2 ⟨a, ha, by omega, by omega⟩)
  exact ⟨by omega, h2, by omega, by omega⟩
theorem low_has {F : List (Int × Int)} (n : Int) {m : Nat} (hm : m < 8192) (h : hasB (lowRes F n) m = true) : hasB F m = true := by
  unfold lowRes at h
  split at h
  · unfold lowestL at h
    rw [canon_has _ m hm, lowF_at, Bool.and_eq_true] at h
    exact h.1
  · simp [hasB] at h
theorem back_none {F L : List (Int × Int)} : commonL L (minusL F L) = [] := canon_none (fun m hm => by unfold minusL; rw [canon_has _ m hm]; cases hasB F m <;> cases hasB L m <;> rfl)
theorem back_all {F : List (Int × Int)} (hF : Pl 0 F) (n : Int) : joinL (minusL F (lowRes F n)) (lowRes F n) = F := by
  refine (canon_eq hF (fun m hm => ?_)).symm
  rw [← hasB_iff]
  unfold minusL
  rw [canon_has _ m hm]
  have h := low_has (F := F) n hm
  generalize hasB F m = x at *
  generalize hasB (lowRes F n) m = y at *
  cases x <;> cases y <;> simp at *
theorem apart_takes {F : List (Int × Int)} (n k : Int) : commonL (lowRes F n) (lowRes (minusL F (lowRes F n)) k) = [] := canon_none (fun m hm => by
  have h := low_has (F := minusL F (lowRes F n)) k hm
  have e : hasB (minusL F (lowRes F n)) m = (hasB F m && !hasB (lowRes F n) m) := by unfold minusL; rw [canon_has _ m hm]
  rw [e] at h
  generalize hasB F m = x at *
  generalize hasB (lowRes F n) m = y at *
  generalize hasB (lowRes (minusL F (lowRes F n)) k) m = z at *
  cases x <;> cases y <;> cases z <;> simp at *)
/-- what a Take leaves. -/
structure TakeOk (f s : Int) (F : List (Int × Int)) (n C : Int) (L F1 : List (Int × Int)) : Prop where
  plL : Pl 0 L
  winL : Within f s L
  pl1 : Pl 0 F1
  win1 : Within f s F1
  yes : C = 0 → (countL L : Int) = n ∧ commonL L F1 = [] ∧ joinL F1 L = F
  no : C ≠ 0 → F1 = F
  out : C = 0 → ∀ m, m < 8192 → hasB F1 m = true → hasB L m = false
theorem take_ok {f s : Int} {F : List (Int × Int)} {n C : Int} {L F1 : List (Int × Int)} (hp : Pl 0 F) (hW : Within f s F) (h1 : lowCode F n = C) (h2 : lowRes F n = L) (h3 : takeF F n = F1) : TakeOk f s F n C L F1 := by
  subst h1 h2 h3
  refine ⟨lowRes_pl F n, within_low hW n, ?_, within_take hW n, fun hC => ?_, fun hC => by unfold takeF; rw [if_neg hC], fun hC m hm => ?_⟩
  · unfold takeF
    split
    · exact canon_pl _
    · exact hp
  · have hT : takeF F n = minusL F (lowRes F n) := by unfold takeF; rw [if_pos hC]
    rw [hT]
    exact ⟨low_count hC, back_none, back_all hp n⟩
  · have hT : takeF F n = minusL F (lowRes F n) := by unfold takeF; rw [if_pos hC]
    rw [hT]
    unfold minusL
    rw [canon_has _ m hm]
    cases hasB F m <;> cases hasB (lowRes F n) m <;> simp
theorem TakeOk.apart {f s : Int} {F : List (Int × Int)} {n C : Int} {L F1 : List (Int × Int)} (h : TakeOk f s F n C L F1) (hC : C = 0) (k : Int) : commonL L (lowRes F1 k) = [] := canon_none (fun m hm => by
  have h1 := low_has (F := F1) k hm
  have h2 := h.out hC m hm
  generalize hasB (lowRes F1 k) m = z at *
  cases z
  · simp
  · rw [h2 (h1 rfl)]; rfl)
theorem mtakeL {w : World} {b : Nat} {f s : Int} {F : List (Int × Int)} (h : MapAt w b f s F) (n : Int) (hn1 : 0 ≤ n) (hn2 : n ≤ 65535) {C : Int} {L F1 : List (Int × Int)} (h1 : lowCode F n = C) (h2 : lowRes F n = L) (h3 : takeF F n = F1) :
    Calls Try.prog 28 #[.pointer (some ⟨b, 0, none⟩), .int .i64 n] w fun e w' => (∃ v, e = .returned (.tuple #[v, .int .i64 C]) ∧ RunsRow w' v L) ∧ MapAt w' b f s F1 ∧ Kept [b] w w' := by
  subst h1 h2 h3
  exact (mtake h n (by omega) (by omega)).mono fun e w' ⟨v, g1, g2, g3, g4⟩ => ⟨⟨v, g1, g2⟩, g3, g4⟩
theorem mgive_ok {w : World} {b : Nat} {f s : Int} {F G : List (Int × Int)} (h : MapAt w b f s F) (v : Value) (l : List (Int × Int)) (hr : RunsRow w v l) (hp : Pl 0 l) (hw : Within f s l) (hc : commonL l F = []) (hj : joinL F l = G) (f1 : 0 ≤ f) (f2 : f ≤ 8192) (s1 : 0 ≤ s) (s2 : s ≤ 8192) :
    Calls Try.prog 30 #[.pointer (some ⟨b, 0, none⟩), v] w fun e w' => e = .returned (.int .i64 0) ∧ MapAt w' b f s G ∧ Kept [b] w w' := by
  have hlen := hp.len0
  refine (mgive h v l 0 w.heap.size hr.in_ (by omega) (pl_wf (Int.le_refl _) hp) (by omega) (by omega) (by omega) (by omega)).mono fun e w' hh => ?_
  obtain ⟨C, F', rfl, hI, hM, hk⟩ := hh
  rcases hI with ⟨h1, _⟩ | ⟨_, h2, _⟩ | ⟨_, _, rfl, rfl⟩
  · exact absurd (within_may hp hw) h1
  · exact absurd hc h2
  · rw [hj] at hM; exact ⟨rfl, hM, hk⟩
theorem mhold_any {w : World} {b : Nat} {f s : Int} {F : List (Int × Int)} (h : MapAt w b f s F) (hW : Within f s F) (v : Value) (l : List (Int × Int)) (lo hi : Nat) (hr : RunsIn w v l lo hi) (hl : l.length ≤ 100000) (hwl : ∀ a ∈ l, WfRun a) (f1 : 0 ≤ f) (f2 : f ≤ 8192) (s1 : 0 ≤ s) (s2 : s ≤ 8192) :
    Calls Try.prog 29 #[.pointer (some ⟨b, 0, none⟩), v] w fun e w' => ∃ C F', e = .returned (.int .i64 C) ∧ Within f s F' ∧ MapAt w' b f s F' ∧ Kept [b] w w' :=
  (mhold h v l lo hi hr hl hwl (by omega) (by omega) (by omega) (by omega)).mono fun e w' ⟨C, F', h1, h2, h3, h4⟩ => ⟨C, F', h1, by
    rcases h2 with ⟨_, _, rfl⟩ | ⟨_, _, _, rfl⟩ | ⟨_, _, _, rfl⟩
    · exact hW
    · exact hW
    · exact within_minus hW _, h3, h4⟩
theorem GivesR.row {p : List (Int × Int)} {w w' : World} {e : Ending} (h : GivesR p w e w') : ∃ v, e = .returned v ∧ RunsRow w' v p ∧ Kept [] w w' := by
  obtain ⟨v, h1, h2, h3⟩ := h; exact ⟨v, h1, ⟨_, h2⟩, h3⟩
end Go.Proofs.Ytmljbmhalpdpmaa
