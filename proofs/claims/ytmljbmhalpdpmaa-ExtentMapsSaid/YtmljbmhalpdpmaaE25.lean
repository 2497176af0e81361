/- Layer 10 (extent): ExtentTells's walk. -/
import Derived.Test.YtmljbmhalpdpmaaE21
import Derived.Test.YtmljbmhalpdpmaaE22
namespace Go.Proofs.Ytmljbmhalpdpmaa
open Go.RowKit
set_option linter.unusedVariables false
set_option linter.unusedSimpArgs false

theorem pl_may {a : Int} {l : List (Int × Int)} (h : Pl a l) (ha : 0 ≤ a) : MayX 0 8192 l := by
  refine ⟨fun x hx => ?_, ?_⟩
  · have := h.mem hx
    exact ⟨by omega, this.2.1, by omega, this.2.2⟩
  · induction l generalizing a with
    | nil => exact List.Pairwise.nil
    | cons r t ih =>
      obtain ⟨h1, h2, h3, h4⟩ := h
      refine List.Pairwise.cons (fun x hx => ?_) (ih h4 (by omega))
      have := h4.mem hx
      exact Or.inl (by omega)
theorem boolOf (p : Prop) : ∃ B : Bool, B = true ↔ p := ⟨@decide p (Classical.propDecidable p), by simp⟩
theorem MaySays.val {f z : Int} {l : List (Int × Int)} {w w' : World} {e : Ending} (h : MaySays f z l w e w') {B : Bool} (hB : B = true ↔ MayX f z l) : e = .returned (.bool B) ∧ Kept [] w w' := by
  obtain ⟨r, h1, h2, h3⟩ := h
  have e : r = B := by rw [Bool.eq_iff_iff, h2, hB]
  exact ⟨by rw [h1, e], h3⟩
set_option maxRecDepth 100000 in
set_option maxHeartbeats 4000000 in
theorem tellsLaw (v : Value) (l0 : List (Int × Int)) (f z k : Int) (w : World) (h0 : RunsIn w v l0 0 w.heap.size) (hwf0 : ∀ a ∈ l0, WfRun a) (hf : (Lit.int .i64 f).wf = true) (hz : (Lit.int .i64 z).wf = true) (hk : (Lit.int .i64 k).wf = true) :
    Calls Try.prog 5 #[v, .int .i64 f, .int .i64 z, .int .i64 k] w fun e w' => e = .returned (.bool true) ∧ Below w.heap.size w w' := by
  have bd : ∀ {n : Int}, (Lit.int .i64 n).wf = true → -9223372036854775808 ≤ n ∧ n ≤ 9223372036854775807 := fun hn => by
    simp only [Lit.wf, Bool.and_eq_true, decide_eq_true_eq] at hn
    exact ⟨by have := hn.1; exact this, by have := hn.2; exact this⟩
  obtain ⟨f1, f2⟩ := bd hf
  obtain ⟨z1, z2⟩ := bd hz
  obtain ⟨k1, k2⟩ := bd hk
  clear hf hz hk bd
  have hfew := xfew v l0 0 w.heap.size w h0
  have hwf : ∀ a ∈ l0.take 30, WfRun a := fun a ha => hwf0 a (List.mem_of_mem_take ha)
  have hlen : (l0.take 30).length ≤ 30 := List.length_take_le _ _
  obtain ⟨p0, c0, rfl⟩ := h0.shape
  clear h0 hwf0
  generalize l0.take 30 = l at *
  generalize l0.length = n0 at *
  have hpl : Pl 0 (plainL l) := canon_pl _
  have hpL : (plainL l).length ≤ 8192 := len_pl
  have hpW : ∀ x ∈ plainL l, WfRun x := wf_canon _
  have hself := plain_self hpl
  have hcnt : countL (plainL l) = countL l := count_canon _
  have hmp : MayX 0 8192 (plainL l) := pl_may hpl (Int.le_refl _)
  obtain ⟨B, hB⟩ := boolOf (MayX f z l)
  have kit : (∀ W u lo hi, RunsIn W u l lo hi → Calls Try.prog 21 #[u] W (GivesR (plainL l) W) ∧ (Calls Try.prog 22 #[u, .int .i64 f, .int .i64 z] W fun e w' => e = .returned (.bool B) ∧ Kept [] W w') ∧ (Calls Try.prog 23 #[u, .int .i64 f, .int .i64 z] W fun e w' => e = .returned (.bool B) ∧ Kept [] W w') ∧ (Calls Try.prog 14 #[u] W fun e w' => e = .returned (.int .i64 (countL l)) ∧ Kept [] W w') ∧ (Calls Try.prog 24 #[u] W fun e w' => e = .returned (.int .i64 (countL l)) ∧ Kept [] W w') ∧ (Calls Try.prog 25 #[u, .int .i64 k] W fun e w' => e = .returned (.bool (hasI l k)) ∧ Kept [] W w') ∧ (Calls Try.prog 26 #[u, .int .i64 k] W fun e w' => e = .returned (.bool (hasI l k)) ∧ Kept [] W w') ∧ Calls Try.prog 27 #[u] W (GivesR (plainL l) W)) := fun W u lo hi hu =>
    ⟨xplain u l lo hi W hu (by omega) hwf, (xmay u l f z lo hi W hu (by omega) hwf f1 f2 z1 z2).mono fun _ _ h => h.val hB, (zmay u l f z lo hi W hu (by omega) hwf f1 f2 z1 z2).mono fun _ _ h => h.val hB, xcount u l lo hi W hu (by omega) hwf, zcount u l lo hi W hu (by omega) hwf, xhas u l k lo hi W hu (by omega) hwf, zhas u l k lo hi W hu (by omega) hwf, zplain u l lo hi W hu (by omega) hwf⟩
  have kit2 : (∀ W u lo hi, RunsIn W u (plainL l) lo hi → (Calls Try.prog 23 #[u, .int .i64 0, .int .i64 8192] W fun e w' => e = .returned (.bool true) ∧ Kept [] W w') ∧ Calls Try.prog 21 #[u] W (GivesR (plainL l) W) ∧ (Calls Try.prog 14 #[u] W fun e w' => e = .returned (.int .i64 (countL l)) ∧ Kept [] W w')) := fun W u lo hi hu =>
    ⟨(zmay u _ 0 8192 lo hi W hu (by omega) hpW (by omega) (by omega) (by omega) (by omega)).mono fun _ _ h => h.val (by simp [hmp]), by have := xplain u _ lo hi W hu (by omega) hpW; rw [hself] at this; exact this, by have := xcount u _ lo hi W hu (by omega) hpW; rw [hcnt] at this; exact this⟩
  have hcb : countL l ≤ 8192 := cntF_le _ _
  have K1 := Lib.hid kit
  have K2 := Lib.hid kit2
  clear kit kit2 hwf hpW hself hcnt hmp hB hpl
  generalize plainL l = P at *
  generalize countL l = nc at *
  generalize hasI l k = H at *
  go_enter Try.func5, Try.ntmps5
  go_wp2_with fail
  refine hfew.mono ?_; rintro e w' ⟨⟨v0, rfl, r0⟩, rfl⟩
  have R := Lib.hid r0
  clear hfew r0
  go_wp2_with fail
  refine (K1.out _ _ _ _ R.out).1.mono ?_; rintro e w1 hg; obtain ⟨vp, rfl, rp, k1⟩ := hg.out
  have RP := Lib.hid rp
  clear hg rp
  go_wp2_with fail
  refine (K1.out _ _ _ _ (R.out.kept0 k1)).2.1.mono ?_; rintro e w2 ⟨rfl, k2⟩
  have k02 := k1.trans k2
  go_wp2_with fail
  refine (K1.out _ _ _ _ (R.out.kept0 k02)).2.2.1.mono ?_; rintro e w3 ⟨rfl, k3⟩
  have k03 := k02.trans k3
  have k13 := k2.trans k3
  go_wp2_with fail
  refine (K1.out _ _ _ _ (R.out.kept0 k03)).2.2.2.1.mono ?_; rintro e w4 ⟨rfl, k4⟩
  have k04 := k03.trans k4
  have k14 := k13.trans k4
  go_wp2_with fail
  refine (K1.out _ _ _ _ (R.out.kept0 k04)).2.2.2.2.1.mono ?_; rintro e w5 ⟨rfl, k5⟩
  have k05 := k04.trans k5
  have k15 := k14.trans k5
  go_wp2_with fail
  refine (K1.out _ _ _ _ (R.out.kept0 k05)).2.2.2.2.2.1.mono ?_; rintro e w6 ⟨rfl, k6⟩
  have k06 := k05.trans k6
  have k16 := k15.trans k6
  go_wp2_with fail
  refine (K1.out _ _ _ _ (R.out.kept0 k06)).2.2.2.2.2.2.1.mono ?_; rintro e w7 ⟨rfl, k7⟩
  have k07 := k06.trans k7
  have k17 := k16.trans k7
  go_wp2_with fail
  refine (xawake _).mono ?_; rintro e w8 ⟨rfl, k8⟩
  have k08 := k07.trans k8
  have k18 := k17.trans k8
  go_wp2_with fail
  refine (K1.out _ _ _ _ (R.out.kept0 k08)).2.2.2.2.2.2.2.mono ?_; rintro e w9 hg; obtain ⟨vq, rfl, rq, k9⟩ := hg.out
  have RQ := Lib.hid rq
  have k09 := k08.trans k9
  have k19 := k18.trans k9
  clear hg rq
  go_wp2_with fail
  refine (zsame _ _ P _ _ _ _ w9 (RP.out.kept0 k19) RQ.out (by omega)).mono ?_; rintro e w10 ⟨rfl, k10⟩
  have k010 := k09.trans k10
  have k110 := k19.trans k10
  go_wp2_with fail
  refine (K2.out _ _ _ _ (RP.out.kept0 k110)).1.mono ?_; rintro e w11 ⟨rfl, k11⟩
  have k011 := k010.trans k11
  have k111 := k110.trans k11
  go_wp2_with fail
  refine (K2.out _ _ _ _ (RP.out.kept0 k111)).2.1.mono ?_; rintro e w12 hg; obtain ⟨vs, rfl, rs, k12⟩ := hg.out
  have RS := Lib.hid rs
  have k012 := k011.trans k12
  have k112 := k111.trans k12
  clear hg rs
  go_wp2_with fail
  refine (zsame _ _ P _ _ _ _ w12 RS.out (RP.out.kept0 k112) (by omega)).mono ?_; rintro e w13 ⟨rfl, k13'⟩
  have k013 := k012.trans k13'
  have k113 := k112.trans k13'
  go_wp2_with fail
  refine (K2.out _ _ _ _ (RP.out.kept0 k113)).2.2.mono ?_; rintro e w14 ⟨rfl, k14'⟩
  have k014 := k013.trans k14'
  go_wp2_with fail
  refine (K1.out _ _ _ _ (R.out.kept0 k014)).2.2.2.1.mono ?_; rintro e w15 ⟨rfl, k15'⟩
  have hkk := (k014.trans k15').below
  go_wp2_with fail
  go_ret
  exact ⟨rfl, hkk⟩
end Go.Proofs.Ytmljbmhalpdpmaa
