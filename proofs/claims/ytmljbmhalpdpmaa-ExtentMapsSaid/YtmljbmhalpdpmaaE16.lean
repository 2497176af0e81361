/- Layer 10 (extent): Join, on both sides; the reference's Plain. -/
import Derived.Test.YtmljbmhalpdpmaaE15
namespace Go.Proofs.Ytmljbmhalpdpmaa
open Go.RowKit
set_option linter.unusedVariables false
set_option linter.unusedSimpArgs false

theorem wf_append {la lb : List (Int × Int)} (h1 : ∀ a ∈ la, WfRun a) (h2 : ∀ a ∈ lb, WfRun a) : ∀ a ∈ la ++ lb, WfRun a := fun a ha => (List.mem_append.1 ha).elim (h1 a) (h2 a)
set_option maxRecDepth 100000 in
set_option maxHeartbeats 2000000 in
theorem xjoin (va : Value) (la : List (Int × Int)) (loa hia : Nat) (vb : Value) (lb : List (Int × Int)) (lob hib : Nat) (w : World) (ha : RunsIn w va la loa hia) (hb : RunsIn w vb lb lob hib) (hla : la.length ≤ 400000) (hlb : lb.length ≤ 400000) (hwa : ∀ a ∈ la, WfRun a) (hwb : ∀ a ∈ lb, WfRun a) :
    Calls Try.prog 16 #[va, vb] w (GivesR (joinL la lb) w) := by
  obtain ⟨pa, ca, rfl⟩ := ha.shape
  obtain ⟨pb, cb, rfl⟩ := hb.shape
  have hc := pconcat w.heap.size _ la loa hia _ lb lob hib (w.alloc (.cells #[.slice pa la.length ca, .slice pb lb.length cb] 22)) (ha.kept0 ((Kept.refl _ _).alloc _)) (hb.kept0 ((Kept.refl _ _).alloc _)) (by omega) (by omega) ((Own.new w #[.slice pa la.length ca, .slice pb lb.length cb] 22).cell 0 (by simp)) ((Own.new w #[.slice pa la.length ca, .slice pb lb.length cb] 22).cell 1 (by simp)) (by simp)
  have hp := fun W v (h : RunsIn W v (la ++ lb) w.heap.size W.heap.size) => xplain v (la ++ lb) w.heap.size W.heap.size W h (by rw [List.length_append]; omega) (wf_append hwa hwb)
  rw [plain_append] at hp
  unfold GivesR at *
  have HP := Lib.hid hp
  have HC := Lib.hid hc
  clear hp hc ha hb hwa hwb
  generalize la.length = na at *
  generalize lb.length = nb at *
  go_enter Try.func16, Try.ntmps16
  go_wp2_with fail
  refine HC.out.mono ?_; rintro e w1 ⟨v1, rfl, r1, k1⟩
  have hk1 : Kept [] w w1 := ((Kept.refl _ _).alloc _).trans k1
  have R1 := Lib.hid (RunsIn.weaken (RunsIn.of_own r1) (lo' := w.heap.size) (by simp) (Nat.le_refl _) (Nat.le_refl _))
  obtain ⟨p1, c1, rfl⟩ := own_shape r1
  clear r1
  go_wp2_with fail
  refine (HP.out _ _ R1.out).mono ?_; rintro e w2 ⟨v2, rfl, r2, k2⟩
  have hk2 := hk1.trans k2
  have hro := ownsRow_base r2 hk1.size
  have HRO := Lib.hid hro
  obtain ⟨p2, c2, rfl⟩ := own_shape r2
  clear r2 hro
  go_wp2_with fail
  go_ret
  exact ⟨_, rfl, HRO.out, hk2⟩
set_option maxRecDepth 100000 in
theorem zplain (v : Value) (l : List (Int × Int)) (lo hi : Nat) (w : World) (h : RunsIn w v l lo hi) (hl : l.length ≤ 1000000) (hwf : ∀ a ∈ l, WfRun a) :
    Calls Try.prog 27 #[v] w (GivesR (plainL l) w) := by
  have hp := zrow v l lo hi w h hl hwf
  obtain ⟨p, c, rfl⟩ := h.shape
  clear h hwf
  have HP := Lib.hid hp
  clear hp
  unfold GivesR plainL
  go_enter Try.func27, Try.ntmps27
  go_wp2_with fail
  refine HP.out.mono ?_; rintro e w1 ⟨rfl, r1, k1⟩
  have hr := zruns _ _ _ r1
  unfold GivesR at hr
  have HR := Lib.hid hr
  clear r1 hr
  go_wp2_with fail
  refine HR.out.mono ?_; rintro e w2 ⟨v2, rfl, r2, k2⟩
  have hk2 := k1.trans k2
  have hro := ownsRow_base r2 k1.size
  have HRO := Lib.hid hro
  obtain ⟨p2, c2, rfl⟩ := own_shape r2
  clear r2 hro
  go_wp2_with fail
  go_ret
  exact ⟨_, rfl, HRO.out, hk2⟩
set_option maxRecDepth 100000 in
set_option maxHeartbeats 2000000 in
theorem zjoin (va : Value) (la : List (Int × Int)) (loa hia : Nat) (vb : Value) (lb : List (Int × Int)) (lob hib : Nat) (w : World) (ha : RunsIn w va la loa hia) (hb : RunsIn w vb lb lob hib) (hla : la.length ≤ 400000) (hlb : lb.length ≤ 400000) (hwa : ∀ a ∈ la, WfRun a) (hwb : ∀ a ∈ lb, WfRun a) :
    Calls Try.prog 18 #[va, vb] w (GivesR (joinL la lb) w) := by
  obtain ⟨pa, ca, rfl⟩ := ha.shape
  obtain ⟨pb, cb, rfl⟩ := hb.shape
  have hp := fun W v (h : RunsIn W v (la ++ lb) w.heap.size W.heap.size) => zplain v (la ++ lb) w.heap.size W.heap.size W h (by rw [List.length_append]; omega) (wf_append hwa hwb)
  rw [plain_append] at hp
  unfold GivesR at *
  have HP := Lib.hid hp
  have HA := Lib.hid ha
  have HB := Lib.hid hb
  clear hp hwa hwb ha hb
  obtain ⟨na, hna⟩ : ∃ na : Nat, la.length = na := ⟨_, rfl⟩
  obtain ⟨nb, hnb⟩ : ∃ nb : Nat, lb.length = nb := ⟨_, rfl⟩
  rw [hna] at HA hla ⊢
  rw [hnb] at HB hlb ⊢
  have HNA := Lib.hid hna
  have HNB := Lib.hid hnb
  clear hna hnb
  have r0 := ownsRow_empty w w.heap.size 57 2 (Nat.le_refl _)
  have k0 : Kept [] w (w.alloc (.cells #[] 57)) := (Kept.refl _ _).alloc _
  have A0 := HA.out.kept0 k0
  go_enter Try.func18, Try.ntmps18
  go_wp2_with (at_builtin; go_must (refine wpList_append_runs rfl (.tmp 5) (.tmp 6) rfl w.heap.size _ 0 [] rfl r0 _ la _ _ rfl A0 (by have := HNA.out; unfold maxLen; omega) (by have := HNA.out; omega) (by simp) ?_))
  intro v2 w2 r2 gr2
  have k2 : Kept [] w w2 := k0.grown gr2 (fun g hg => Or.inr (World.ownsRow.lt r0 g hg).1)
  have B2 := HB.out.kept0 k2
  have hs2 := k2.size
  try rw [HNA.out] at r2
  try rw [Nat.zero_add] at r2
  obtain ⟨p2, q2, rfl⟩ := own_shape r2
  clear gr2 A0
  go_wp2_with (at_builtin; go_must (refine wpList_append_runs rfl (.tmp 7) (.tmp 8) rfl w.heap.size _ na _ rfl r2 _ lb _ _ rfl B2 (by have := HNB.out; unfold maxLen; omega) (by have := HNB.out; omega) (by omega) ?_))
  intro v3 w3 r3 gr3
  have k3 : Kept [] w w3 := k2.grown gr3 (fun g hg => Or.inr (World.ownsRow.lt r2 g hg).1)
  have hr3 : w3.ownsRow w.heap.size 57 2 v3 (na + nb) (rcells (la ++ lb)) := by
    rw [HNB.out] at r3
    have e : ([] ++ rcells la) ++ rcells lb = rcells (la ++ lb) := by simp [rcells]
    rw [← e]
    exact r3
  have R3 := Lib.hid (RunsIn.of_own hr3)
  obtain ⟨p3, q3, rfl⟩ := own_shape hr3
  clear r3 gr3 hr3 r2 r0
  go_wp2_with fail
  refine (HP.out _ _ R3.out).mono ?_; rintro e w4 ⟨v4, rfl, r4, k4⟩
  have hk4 := k3.trans k4
  have hro := ownsRow_base r4 k3.size
  have HRO := Lib.hid hro
  obtain ⟨p4, c4, rfl⟩ := own_shape r4
  clear r4 hro
  go_wp2_with fail
  go_ret
  exact ⟨_, rfl, HRO.out, hk4⟩
end Go.Proofs.Ytmljbmhalpdpmaa
