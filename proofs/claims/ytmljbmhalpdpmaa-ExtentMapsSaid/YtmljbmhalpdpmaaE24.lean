/- Layer 10 (extent): the map's Hold and Give. -/
import Derived.Test.YtmljbmhalpdpmaaE23
import Derived.Deep.RegionHeld3
namespace Go.Proofs.Ytmljbmhalpdpmaa
open Go.RowKit
set_option linter.unusedVariables false
set_option linter.unusedSimpArgs false

theorem mayIs {f z : Int} {l : List (Int × Int)} {w : World} {v : Value} (h : Calls Try.prog 22 #[v, .int .i64 f, .int .i64 z] w (MaySays f z l w)) (hm : MayX f z l) : Calls Try.prog 22 #[v, .int .i64 f, .int .i64 z] w fun e w' => e = .returned (.bool true) ∧ Kept [] w w' :=
  h.mono fun e w' ⟨r, h1, h2, h3⟩ => ⟨by rw [h1, h2.2 hm], h3⟩
theorem mayNo {f z : Int} {l : List (Int × Int)} {w : World} {v : Value} (h : Calls Try.prog 22 #[v, .int .i64 f, .int .i64 z] w (MaySays f z l w)) (hm : ¬ MayX f z l) : Calls Try.prog 22 #[v, .int .i64 f, .int .i64 z] w fun e w' => e = .returned (.bool false) ∧ Kept [] w w' :=
  h.mono fun e w' ⟨r, h1, h2, h3⟩ => ⟨by
    cases r with
    | false => exact h1
    | true => exact absurd (h2.1 rfl) hm, h3⟩

/-- what Hold tells, and what is free then. -/
def HoldIs (f s : Int) (l F : List (Int × Int)) (C : Int) (F' : List (Int × Int)) : Prop :=
  (¬ MayX f s l ∧ C = 1 ∧ F' = F) ∨ (MayX f s l ∧ minusL l F ≠ [] ∧ C = 100 ∧ F' = F) ∨ (MayX f s l ∧ minusL l F = [] ∧ C = 0 ∧ F' = minusL F l)
def HoldSays (b : Nat) (f s : Int) (l F : List (Int × Int)) (w : World) (e : Ending) (w' : World) : Prop :=
  ∃ C F', e = .returned (.int .i64 C) ∧ HoldIs f s l F C F' ∧ MapAt w' b f s F' ∧ Kept [b] w w'
set_option maxRecDepth 100000 in
set_option maxHeartbeats 2000000 in
theorem mhold {w : World} {b : Nat} {f s : Int} {F : List (Int × Int)} (h : MapAt w b f s F) (v : Value) (l : List (Int × Int)) (lo hi : Nat) (hr : RunsIn w v l lo hi) (hl : l.length ≤ 100000) (hwl : ∀ a ∈ l, WfRun a) (f1 : -9223372036854775808 ≤ f) (f2 : f ≤ 9223372036854775807) (s1 : -9223372036854775808 ≤ s) (s2 : s ≤ 9223372036854775807) :
    Calls Try.prog 29 #[.pointer (some ⟨b, 0, none⟩), v] w (HoldSays b f s l F w) := by
  obtain ⟨vF, o, rF⟩ := h.cells
  have hlen := h.pl.len0
  have hwf := pl_wf (Int.le_refl _) h.pl
  have hmay := fun W (k : Kept [] w W) => xmay v l f s lo hi W (hr.kept0 k) (by omega) hwl f1 f2 s1 s2
  have hA := fun W (k : Kept [] w W) => xminus v l lo hi vF F 0 W.heap.size W (hr.kept0 k) (rF.kept0 k).in_ (by omega) (by omega) hwl hwf
  have hB := fun W (k : Kept [] w W) => xminus vF F 0 W.heap.size v l lo hi W (rF.kept0 k).in_ (hr.kept0 k) (by omega) (by omega) hwf hwl
  have hplB : Pl 0 (minusL F l) := canon_pl _
  obtain ⟨c0, c1, c2, c3⟩ := o.c4
  have hm := mok b w c0
  have hbw := o.lt
  obtain ⟨p, c, rfl⟩ := rF.shape
  obtain ⟨pl, cl, rfl⟩ := hr.shape
  have HM := Lib.hid hm
  have HA := Lib.hid hA
  have HB := Lib.hid hB
  have HO := Lib.hid o
  have HH := Lib.hid h
  have HPB := Lib.hid hplB
  unfold GivesR at HA HB
  clear hm hA hB rF hr hwl hwf h hplB
  unfold HoldSays
  by_cases hM : MayX f s l
  · have hy := fun W k => mayIs (hmay W k) hM
    have HY := Lib.hid hy
    by_cases hN : minusL l F = []
    · have hI : HoldIs f s l F 0 (minusL F l) := Or.inr (Or.inr ⟨hM, hN, rfl, rfl⟩)
      have HI := Lib.hid hI
      rw [hN] at HA
      clear hy hmay hM hN hI
      generalize minusL F l = T at *
      generalize minusL l F = Z at *
      go_enter Try.func29, Try.ntmps29
      go_wp2_with fail
      refine HM.out.mono ?_; rintro e w' ⟨rfl, rfl⟩
      go_wp2_with fail
      go_region_held3 (fun W => W.cell? ⟨b, 1, none⟩ = some (.int .i64 f) ∧ W.cell? ⟨b, 2, none⟩ = some (.int .i64 s)) (go_keep)
        (first | (go_at_call 22; ((with_reducible refine (HY.out _ (Kept.drew (Kept.refl _ _))).mono ?_)); rintro e w1 ⟨rfl, k1⟩; have o1 := k1.own (Own.drew HO.out) (by simp); obtain ⟨d0, d1, d2, d3⟩ := o1.c4))
      have k01 := (Kept.drew (Kept.refl [] w)).trans k1
      have hA1 := HA.out w1 k01
      have HA1 := Lib.hid hA1
      clear hA1 HA HY
      go_wp2_with fail
      refine HA1.out.mono ?_; rintro e w2 ⟨v2, rfl, r2, k2⟩
      obtain ⟨p2, q2, rfl⟩ := own_shape r2
      have k02 := k01.trans k2
      have o2 := k2.own o1 (by simp)
      obtain ⟨e0, e1, e2, e3⟩ := o2.c4
      have hB2 := HB.out w2 k02
      have HB2 := Lib.hid hB2
      clear hB2 HB r2
      go_wp2_with fail
      refine HB2.out.mono ?_; rintro e w3 ⟨v3, rfl, r3, k3⟩
      have o3 := k3.own o2 (by simp)
      have z3 := o3.free 3
      obtain ⟨g0, g1, g2, g3⟩ := o3.c4
      have k03 := k02.trans k3
      have hs2 := k02.size
      have hR3 : RunsRow w3 v3 T := ⟨_, r3⟩
      have hms := MapAt.set o3 hR3 HPB.out
      have HMS := Lib.hid hms
      have hkk : Kept [b] w (w3.setCell ⟨b, 3, none⟩ v3) := (k03.mono (by simp)).setCell (p := ⟨b, 3, none⟩) (Or.inl (by simp)) v3
      have hbw3 := o3.lt
      obtain ⟨p3, q3, rfl⟩ := own_shape r3
      clear r3 o3 hms hR3
      go_wp2_with fail
      go_ret
      exact ⟨_, _, rfl, HI.out, HMS.out, hkk⟩
    · have hI : HoldIs f s l F 100 F := Or.inr (Or.inl ⟨hM, hN, rfl, rfl⟩)
      have hpos : 0 < (minusL l F).length := List.length_pos_iff.2 hN
      have HI := Lib.hid hI
      clear hy hmay hM hN hI
      generalize minusL l F = Z at *
      have hpos' : (0 : Int) < Z.length := by omega
      go_enter Try.func29, Try.ntmps29
      go_wp2_with fail
      refine HM.out.mono ?_; rintro e w' ⟨rfl, rfl⟩
      go_wp2_with fail
      go_region_held3 (fun W => W.cell? ⟨b, 1, none⟩ = some (.int .i64 f) ∧ W.cell? ⟨b, 2, none⟩ = some (.int .i64 s)) (go_keep)
        (first | (go_at_call 22; ((with_reducible refine (HY.out _ (Kept.drew (Kept.refl _ _))).mono ?_)); rintro e w1 ⟨rfl, k1⟩; have o1 := k1.own (Own.drew HO.out) (by simp); obtain ⟨d0, d1, d2, d3⟩ := o1.c4))
      have k01 := (Kept.drew (Kept.refl [] w)).trans k1
      have hA1 := HA.out w1 k01
      have HA1 := Lib.hid hA1
      clear hA1 HA HY
      go_wp2_with fail
      refine HA1.out.mono ?_; rintro e w2 ⟨v2, rfl, r2, k2⟩
      obtain ⟨p2, q2, rfl⟩ := own_shape r2
      have k02 := k01.trans k2
      clear HB r2
      go_wp2_with fail
      go_ret
      exact ⟨_, _, rfl, HI.out, HH.out.kept0 k02, k02.mono (by simp)⟩
  · have hy := fun W k => mayNo (hmay W k) hM
    have HY := Lib.hid hy
    have hI : HoldIs f s l F 1 F := Or.inl ⟨hM, rfl, rfl⟩
    have HI := Lib.hid hI
    clear hy hmay hM hI
    go_enter Try.func29, Try.ntmps29
    go_wp2_with fail
    refine HM.out.mono ?_; rintro e w' ⟨rfl, rfl⟩
    go_wp2_with fail
    go_region_held3 (fun W => W.cell? ⟨b, 1, none⟩ = some (.int .i64 f) ∧ W.cell? ⟨b, 2, none⟩ = some (.int .i64 s)) (go_keep)
      (first | (go_at_call 22; ((with_reducible refine (HY.out _ (Kept.drew (Kept.refl _ _))).mono ?_)); rintro e w1 ⟨rfl, k1⟩; have o1 := k1.own (Own.drew HO.out) (by simp); obtain ⟨d0, d1, d2, d3⟩ := o1.c4))
    have k01 := (Kept.drew (Kept.refl [] w)).trans k1
    go_wp2_with fail
    go_ret
    exact ⟨_, _, rfl, HI.out, HH.out.kept0 k01, k01.mono (by simp)⟩

/-- what Give tells, and what is free then. -/
def GiveIs (f s : Int) (l F : List (Int × Int)) (C : Int) (F' : List (Int × Int)) : Prop :=
  (¬ MayX f s l ∧ C = 1 ∧ F' = F) ∨ (MayX f s l ∧ commonL l F ≠ [] ∧ C = 6 ∧ F' = F) ∨ (MayX f s l ∧ commonL l F = [] ∧ C = 0 ∧ F' = joinL F l)
def GiveSays (b : Nat) (f s : Int) (l F : List (Int × Int)) (w : World) (e : Ending) (w' : World) : Prop :=
  ∃ C F', e = .returned (.int .i64 C) ∧ GiveIs f s l F C F' ∧ MapAt w' b f s F' ∧ Kept [b] w w'
set_option maxRecDepth 100000 in
set_option maxHeartbeats 2000000 in
theorem mgive {w : World} {b : Nat} {f s : Int} {F : List (Int × Int)} (h : MapAt w b f s F) (v : Value) (l : List (Int × Int)) (lo hi : Nat) (hr : RunsIn w v l lo hi) (hl : l.length ≤ 100000) (hwl : ∀ a ∈ l, WfRun a) (f1 : -9223372036854775808 ≤ f) (f2 : f ≤ 9223372036854775807) (s1 : -9223372036854775808 ≤ s) (s2 : s ≤ 9223372036854775807) :
    Calls Try.prog 30 #[.pointer (some ⟨b, 0, none⟩), v] w (GiveSays b f s l F w) := by
  obtain ⟨vF, o, rF⟩ := h.cells
  have hlen := h.pl.len0
  have hwf := pl_wf (Int.le_refl _) h.pl
  have hmay := fun W (k : Kept [] w W) => xmay v l f s lo hi W (hr.kept0 k) (by omega) hwl f1 f2 s1 s2
  have hA := fun W (k : Kept [] w W) => xcommon v l lo hi vF F 0 W.heap.size W (hr.kept0 k) (rF.kept0 k).in_ (by omega) (by omega) hwl hwf
  have hB := fun W (k : Kept [] w W) => xjoin vF F 0 W.heap.size v l lo hi W (rF.kept0 k).in_ (hr.kept0 k) (by omega) (by omega) hwf hwl
  have hplB : Pl 0 (joinL F l) := canon_pl _
  obtain ⟨c0, c1, c2, c3⟩ := o.c4
  have hm := mok b w c0
  have hbw := o.lt
  obtain ⟨p, c, rfl⟩ := rF.shape
  obtain ⟨pl, cl, rfl⟩ := hr.shape
  have HM := Lib.hid hm
  have HA := Lib.hid hA
  have HB := Lib.hid hB
  have HO := Lib.hid o
  have HH := Lib.hid h
  have HPB := Lib.hid hplB
  unfold GivesR at HA HB
  clear hm hA hB rF hr hwl hwf h hplB
  unfold GiveSays
  by_cases hM : MayX f s l
  · have hy := fun W k => mayIs (hmay W k) hM
    have HY := Lib.hid hy
    by_cases hN : commonL l F = []
    · have hI : GiveIs f s l F 0 (joinL F l) := Or.inr (Or.inr ⟨hM, hN, rfl, rfl⟩)
      have HI := Lib.hid hI
      rw [hN] at HA
      clear hy hmay hM hN hI
      generalize joinL F l = T at *
      generalize commonL l F = Z at *
      go_enter Try.func30, Try.ntmps30
      go_wp2_with fail
      refine HM.out.mono ?_; rintro e w' ⟨rfl, rfl⟩
      go_wp2_with fail
      go_region_held3 (fun W => W.cell? ⟨b, 1, none⟩ = some (.int .i64 f) ∧ W.cell? ⟨b, 2, none⟩ = some (.int .i64 s)) (go_keep)
        (first | (go_at_call 22; ((with_reducible refine (HY.out _ (Kept.drew (Kept.refl _ _))).mono ?_)); rintro e w1 ⟨rfl, k1⟩; have o1 := k1.own (Own.drew HO.out) (by simp); obtain ⟨d0, d1, d2, d3⟩ := o1.c4))
      have k01 := (Kept.drew (Kept.refl [] w)).trans k1
      have hA1 := HA.out w1 k01
      have HA1 := Lib.hid hA1
      clear hA1 HA HY
      go_wp2_with fail
      refine HA1.out.mono ?_; rintro e w2 ⟨v2, rfl, r2, k2⟩
      obtain ⟨p2, q2, rfl⟩ := own_shape r2
      have k02 := k01.trans k2
      have o2 := k2.own o1 (by simp)
      obtain ⟨e0, e1, e2, e3⟩ := o2.c4
      have hB2 := HB.out w2 k02
      have HB2 := Lib.hid hB2
      clear hB2 HB r2
      go_wp2_with fail
      refine HB2.out.mono ?_; rintro e w3 ⟨v3, rfl, r3, k3⟩
      have o3 := k3.own o2 (by simp)
      have z3 := o3.free 3
      obtain ⟨g0, g1, g2, g3⟩ := o3.c4
      have k03 := k02.trans k3
      have hs2 := k02.size
      have hR3 : RunsRow w3 v3 T := ⟨_, r3⟩
      have hms := MapAt.set o3 hR3 HPB.out
      have HMS := Lib.hid hms
      have hkk : Kept [b] w (w3.setCell ⟨b, 3, none⟩ v3) := (k03.mono (by simp)).setCell (p := ⟨b, 3, none⟩) (Or.inl (by simp)) v3
      have hbw3 := o3.lt
      obtain ⟨p3, q3, rfl⟩ := own_shape r3
      clear r3 o3 hms hR3
      go_wp2_with fail
      go_ret
      exact ⟨_, _, rfl, HI.out, HMS.out, hkk⟩
    · have hI : GiveIs f s l F 6 F := Or.inr (Or.inl ⟨hM, hN, rfl, rfl⟩)
      have hpos : 0 < (commonL l F).length := List.length_pos_iff.2 hN
      have HI := Lib.hid hI
      clear hy hmay hM hN hI
      generalize commonL l F = Z at *
      have hpos' : (0 : Int) < Z.length := by omega
      go_enter Try.func30, Try.ntmps30
      go_wp2_with fail
      refine HM.out.mono ?_; rintro e w' ⟨rfl, rfl⟩
      go_wp2_with fail
      go_region_held3 (fun W => W.cell? ⟨b, 1, none⟩ = some (.int .i64 f) ∧ W.cell? ⟨b, 2, none⟩ = some (.int .i64 s)) (go_keep)
        (first | (go_at_call 22; ((with_reducible refine (HY.out _ (Kept.drew (Kept.refl _ _))).mono ?_)); rintro e w1 ⟨rfl, k1⟩; have o1 := k1.own (Own.drew HO.out) (by simp); obtain ⟨d0, d1, d2, d3⟩ := o1.c4))
      have k01 := (Kept.drew (Kept.refl [] w)).trans k1
      have hA1 := HA.out w1 k01
      have HA1 := Lib.hid hA1
      clear hA1 HA HY
      go_wp2_with fail
      refine HA1.out.mono ?_; rintro e w2 ⟨v2, rfl, r2, k2⟩
      obtain ⟨p2, q2, rfl⟩ := own_shape r2
      have k02 := k01.trans k2
      clear HB r2
      go_wp2_with fail
      go_ret
      exact ⟨_, _, rfl, HI.out, HH.out.kept0 k02, k02.mono (by simp)⟩
  · have hy := fun W k => mayNo (hmay W k) hM
    have HY := Lib.hid hy
    have hI : GiveIs f s l F 1 F := Or.inl ⟨hM, rfl, rfl⟩
    have HI := Lib.hid hI
    clear hy hmay hM hI
    go_enter Try.func30, Try.ntmps30
    go_wp2_with fail
    refine HM.out.mono ?_; rintro e w' ⟨rfl, rfl⟩
    go_wp2_with fail
    go_region_held3 (fun W => W.cell? ⟨b, 1, none⟩ = some (.int .i64 f) ∧ W.cell? ⟨b, 2, none⟩ = some (.int .i64 s)) (go_keep)
      (first | (go_at_call 22; ((with_reducible refine (HY.out _ (Kept.drew (Kept.refl _ _))).mono ?_)); rintro e w1 ⟨rfl, k1⟩; have o1 := k1.own (Own.drew HO.out) (by simp); obtain ⟨d0, d1, d2, d3⟩ := o1.c4))
    have k01 := (Kept.drew (Kept.refl [] w)).trans k1
    go_wp2_with fail
    go_ret
    exact ⟨_, _, rfl, HI.out, HH.out.kept0 k01, k01.mono (by simp)⟩
end Go.Proofs.Ytmljbmhalpdpmaa
