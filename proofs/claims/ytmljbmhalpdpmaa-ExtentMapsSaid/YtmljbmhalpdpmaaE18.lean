/- Layer 10 (extent): ExtentSets's walk. -/
import Derived.Test.YtmljbmhalpdpmaaE17
namespace Go.Proofs.Ytmljbmhalpdpmaa
open Go.RowKit
set_option linter.unusedVariables false
set_option linter.unusedSimpArgs false

theorem sets_join (a b : List (Int × Int)) : joinL (minusL a b) (commonL a b) = plainL a :=
  canon_congr (fun m hm => by unfold minusL commonL; rw [canon_has _ m hm, canon_has _ m hm]; cases hasB a m <;> cases hasB b m <;> rfl)
theorem sets_none (a b : List (Int × Int)) : commonL (minusL a b) (commonL a b) = [] :=
  canon_none (fun m hm => by unfold minusL commonL; rw [canon_has _ m hm, canon_has _ m hm]; cases hasB a m <;> cases hasB b m <;> rfl)
theorem sets_self (a : List (Int × Int)) : joinL a a = plainL a := canon_congr (fun m hm => by cases hasB a m <;> rfl)
theorem cnt_part (f g : Nat → Bool) (k : Nat) : cntF (fun m => f m && !g m) k + cntF (fun m => f m && g m) k = cntF f k := by
  induction k with
  | zero => rfl
  | succ k ih =>
    rw [cntF, cntF, cntF]
    cases f k <;> cases g k <;> simp <;> omega
theorem sets_count (a b : List (Int × Int)) : countL (minusL a b) + countL (commonL a b) = countL a := by
  unfold minusL commonL
  rw [count_canon, count_canon]
  exact cnt_part _ _ _
theorem GivesR.out {p : List (Int × Int)} {w w' : World} {e : Ending} (h : GivesR p w e w') : ∃ v, e = .returned v ∧ RunsIn w' v p w.heap.size w'.heap.size ∧ Kept [] w w' := h.runs
theorem len_pl {f : Nat → Bool} : (canon f).length ≤ 8192 := by have := (canon_pl f).len0; omega
theorem wf_canon (f : Nat → Bool) : ∀ x ∈ canon f, WfRun x := pl_wf (Int.le_refl _) (canon_pl f)
set_option maxRecDepth 100000 in
set_option maxHeartbeats 4000000 in
theorem setsLaw (va : Value) (l0 : List (Int × Int)) (vb : Value) (m0 : List (Int × Int)) (w : World) (h0 : RunsIn w va l0 0 w.heap.size) (hwf0 : ∀ a ∈ l0, WfRun a) (h1 : RunsIn w vb m0 0 w.heap.size) (hwf1 : ∀ a ∈ m0, WfRun a) :
    Calls Try.prog 4 #[va, vb] w fun e w' => e = .returned (.bool true) ∧ Below w.heap.size w w' := by
  have hfa := xfew va l0 0 w.heap.size w h0
  have hfb := xfew vb m0 0 w.heap.size w h1
  have hwa : ∀ a ∈ l0.take 30, WfRun a := fun a ha => hwf0 a (List.mem_of_mem_take ha)
  have hwb : ∀ a ∈ m0.take 30, WfRun a := fun a ha => hwf1 a (List.mem_of_mem_take ha)
  have hla : (l0.take 30).length ≤ 30 := List.length_take_le _ _
  have hlb : (m0.take 30).length ≤ 30 := List.length_take_le _ _
  obtain ⟨p0, c0, rfl⟩ := h0.shape
  obtain ⟨p1, c1, rfl⟩ := h1.shape
  clear h0 h1 hwf0 hwf1
  generalize l0.take 30 = a at *
  generalize m0.take 30 = b at *
  generalize l0.length = n0 at *
  generalize m0.length = n1 at *
  have hjL : (joinL a b).length ≤ 8192 := len_pl
  have hmL : (minusL a b).length ≤ 8192 := len_pl
  have hcL : (commonL a b).length ≤ 8192 := len_pl
  have hpL : (plainL a).length ≤ 8192 := len_pl
  have hmW : ∀ x ∈ minusL a b, WfRun x := wf_canon _
  have hcW : ∀ x ∈ commonL a b, WfRun x := wf_canon _
  have e1 := sets_join a b
  have e2 := sets_none a b
  have e3 := sets_self a
  have e4 := sets_count a b
  have hcb : countL a ≤ 8192 := cntF_le _ _
  have kit : (∀ W v u lo hi lo' hi', RunsIn W v a lo hi → RunsIn W u b lo' hi' → Calls Try.prog 16 #[v, u] W (GivesR (joinL a b) W) ∧ Calls Try.prog 15 #[v, u] W (GivesR (minusL a b) W) ∧ Calls Try.prog 17 #[v, u] W (GivesR (commonL a b) W) ∧ Calls Try.prog 18 #[v, u] W (GivesR (joinL a b) W) ∧ Calls Try.prog 19 #[v, u] W (GivesR (minusL a b) W) ∧ Calls Try.prog 20 #[v, u] W (GivesR (commonL a b) W)) := fun W v u lo hi lo' hi' hv hu =>
    ⟨xjoin v a lo hi u b lo' hi' W hv hu (by omega) (by omega) hwa hwb, xminus v a lo hi u b lo' hi' W hv hu (by omega) (by omega) hwa hwb, xcommon v a lo hi u b lo' hi' W hv hu (by omega) (by omega) hwa hwb,
     zjoin v a lo hi u b lo' hi' W hv hu (by omega) (by omega) hwa hwb, zminus v a lo hi u b lo' hi' W hv hu (by omega) (by omega) hwa hwb, zcommon v a lo hi u b lo' hi' W hv hu (by omega) (by omega) hwa hwb⟩
  have kit2 : (∀ W v lo hi, RunsIn W v a lo hi → Calls Try.prog 21 #[v] W (GivesR (plainL a) W) ∧ Calls Try.prog 16 #[v, v] W (GivesR (plainL a) W) ∧ Calls Try.prog 14 #[v] W fun e w' => e = .returned (.int .i64 (countL a)) ∧ Kept [] W w') := fun W v lo hi hv =>
    ⟨xplain v a lo hi W hv (by omega) hwa, by have := xjoin v a lo hi v a lo hi W hv hv (by omega) (by omega) hwa hwa; rw [e3] at this; exact this, xcount v a lo hi W hv (by omega) hwa⟩
  have kit3 : (∀ W v u lo hi lo' hi', RunsIn W v (minusL a b) lo hi → RunsIn W u (commonL a b) lo' hi' → Calls Try.prog 16 #[v, u] W (GivesR (plainL a) W) ∧ Calls Try.prog 17 #[v, u] W (GivesR [] W) ∧ (Calls Try.prog 14 #[v] W fun e w' => e = .returned (.int .i64 (countL (minusL a b))) ∧ Kept [] W w') ∧ (Calls Try.prog 14 #[u] W fun e w' => e = .returned (.int .i64 (countL (commonL a b))) ∧ Kept [] W w')) := fun W v u lo hi lo' hi' hv hu =>
    ⟨by have := xjoin v _ lo hi u _ lo' hi' W hv hu (by omega) (by omega) hmW hcW; rw [e1] at this; exact this, by have := xcommon v _ lo hi u _ lo' hi' W hv hu (by omega) (by omega) hmW hcW; rw [e2] at this; exact this, xcount v _ lo hi W hv (by omega) hmW, xcount u _ lo' hi' W hu (by omega) hcW⟩
  have hsum : (countL (minusL a b) : Int) + countL (commonL a b) = countL a := by omega
  have K1 := Lib.hid kit
  have K2 := Lib.hid kit2
  have K3 := Lib.hid kit3
  clear kit kit2 kit3 e1 e2 e3 hmW hcW hwa hwb
  generalize joinL a b = J at *
  generalize minusL a b = M at *
  generalize commonL a b = C at *
  generalize plainL a = P at *
  generalize countL a = na at *
  generalize countL M = nm at *
  generalize countL C = nc at *
  go_enter Try.func4, Try.ntmps4
  go_wp2_with fail
  refine hfa.mono ?_; rintro e w' ⟨⟨v0, rfl, r0⟩, rfl⟩
  go_wp2_with fail
  refine hfb.mono ?_; rintro e w' ⟨⟨v1, rfl, r1⟩, rfl⟩
  have A := Lib.hid r0
  have B := Lib.hid r1
  clear hfa hfb r0 r1
  go_wp2_with fail
  refine (K1.out _ _ _ _ _ _ _ A.out B.out).1.mono ?_; rintro e w1 hg; obtain ⟨vj, rfl, rj, k1⟩ := hg.out
  have RJ := Lib.hid rj
  clear hg rj
  go_wp2_with fail
  refine (K1.out _ _ _ _ _ _ _ (A.out.kept0 k1) (B.out.kept0 k1)).2.1.mono ?_; rintro e w2 hg; obtain ⟨vm, rfl, rm, k2⟩ := hg.out
  have RM := Lib.hid rm
  have k02 := k1.trans k2
  clear hg rm
  go_wp2_with fail
  refine (K1.out _ _ _ _ _ _ _ (A.out.kept0 k02) (B.out.kept0 k02)).2.2.1.mono ?_; rintro e w3 hg; obtain ⟨vc, rfl, rc, k3⟩ := hg.out
  have RC := Lib.hid rc
  have k03 := k02.trans k3
  have k23 := k2.trans k3
  clear hg rc
  go_wp2_with fail
  refine (K1.out _ _ _ _ _ _ _ (A.out.kept0 k03) (B.out.kept0 k03)).2.2.2.1.mono ?_; rintro e w4 hg; obtain ⟨vj2, rfl, rj2, k4⟩ := hg.out
  have RJ2 := Lib.hid rj2
  have k04 := k03.trans k4
  clear hg rj2
  go_wp2_with fail
  refine (zsame _ _ J _ _ _ _ w4 (RJ.out.kept0 (k23.trans k4)) RJ2.out (by omega)).mono ?_; rintro e w5 ⟨rfl, k5⟩
  have k05 := k04.trans k5
  go_wp2_with fail
  refine (K1.out _ _ _ _ _ _ _ (A.out.kept0 k05) (B.out.kept0 k05)).2.2.2.2.1.mono ?_; rintro e w6 hg; obtain ⟨vm2, rfl, rm2, k6⟩ := hg.out
  have RM2 := Lib.hid rm2
  have k06 := k05.trans k6
  have k36 := (k4.trans k5).trans k6
  clear hg rm2
  go_wp2_with fail
  refine (zsame _ _ M _ _ _ _ w6 (RM.out.kept0 (k3.trans k36)) RM2.out (by omega)).mono ?_; rintro e w7 ⟨rfl, k7⟩
  have k07 := k06.trans k7
  go_wp2_with fail
  refine (K1.out _ _ _ _ _ _ _ (A.out.kept0 k07) (B.out.kept0 k07)).2.2.2.2.2.mono ?_; rintro e w8 hg; obtain ⟨vc2, rfl, rc2, k8⟩ := hg.out
  have RC2 := Lib.hid rc2
  have k08 := k07.trans k8
  have k38 := (k36.trans k7).trans k8
  clear hg rc2
  go_wp2_with fail
  refine (zsame _ _ C _ _ _ _ w8 (RC.out.kept0 k38) RC2.out (by omega)).mono ?_; rintro e w9 ⟨rfl, k9⟩
  go_wp2_with fail
  refine (xawake _).mono ?_; rintro e w10 ⟨rfl, k10⟩
  have k010 := (k08.trans k9).trans k10
  have k310 := (k38.trans k9).trans k10
  go_wp2_with fail
  refine (K2.out _ _ _ _ (A.out.kept0 k010)).1.mono ?_; rintro e w11 hg; obtain ⟨vp, rfl, rp, k11⟩ := hg.out
  have RP := Lib.hid rp
  have k011 := k010.trans k11
  have k311 := k310.trans k11
  clear hg rp
  go_wp2_with fail
  refine (K3.out _ _ _ _ _ _ _ (RM.out.kept0 (k3.trans k311)) (RC.out.kept0 k311)).1.mono ?_; rintro e w12 hg; obtain ⟨vq, rfl, rq, k12⟩ := hg.out
  have RQ := Lib.hid rq
  have k012 := k011.trans k12
  have k312 := k311.trans k12
  clear hg rq
  go_wp2_with fail
  refine (zsame _ _ P _ _ _ _ w12 RQ.out (RP.out.kept0 k12) (by omega)).mono ?_; rintro e w13 ⟨rfl, k13⟩
  have k013 := k012.trans k13
  have k313 := k312.trans k13
  go_wp2_with fail
  refine (K3.out _ _ _ _ _ _ _ (RM.out.kept0 (k3.trans k313)) (RC.out.kept0 k313)).2.1.mono ?_; rintro e w14 hg; obtain ⟨vz, rfl, rz, k14⟩ := hg.out
  obtain ⟨pz, cz, rfl⟩ := rz.shape
  have k014 := k013.trans k14
  have k314 := k313.trans k14
  clear hg rz
  go_wp2_with fail
  refine (K2.out _ _ _ _ (A.out.kept0 k014)).2.1.mono ?_; rintro e w15 hg; obtain ⟨vs, rfl, rs, k15⟩ := hg.out
  have RS := Lib.hid rs
  have k015 := k014.trans k15
  have k315 := k314.trans k15
  clear hg rs
  go_wp2_with fail
  refine (zsame _ _ P _ _ _ _ w15 RS.out (RP.out.kept0 (((k12.trans k13).trans k14).trans k15)) (by omega)).mono ?_; rintro e w16 ⟨rfl, k16⟩
  have k016 := k015.trans k16
  have k316 := k315.trans k16
  go_wp2_with fail
  refine (K3.out _ _ _ _ _ _ _ (RM.out.kept0 (k3.trans k316)) (RC.out.kept0 k316)).2.2.1.mono ?_; rintro e w17 ⟨rfl, k17⟩
  have k017 := k016.trans k17
  have k317 := k316.trans k17
  go_wp2_with fail
  refine (K3.out _ _ _ _ _ _ _ (RM.out.kept0 (k3.trans k317)) (RC.out.kept0 k317)).2.2.2.mono ?_; rintro e w18 ⟨rfl, k18⟩
  have k018 := k017.trans k18
  go_wp2_with fail
  refine (K2.out _ _ _ _ (A.out.kept0 k018)).2.2.mono ?_; rintro e w19 ⟨rfl, k19⟩
  have hkk := (k018.trans k19).below
  go_wp2_with fail
  go_ret
  exact ⟨rfl, hkk⟩
end Go.Proofs.Ytmljbmhalpdpmaa
