/- Layer 10 (extent): the reference's map: Free, Take, Hold, Give. -/
import Derived.Test.YtmljbmhalpdpmaaE23
import Derived.Test.YtmljbmhalpdpmaaE18
import Derived.Laws.ResultCell
namespace Go.Proofs.Ytmljbmhalpdpmaa
open Go.RowKit
set_option linter.unusedVariables false
set_option linter.unusedSimpArgs false

theorem Own.c3 {w : World} {b : Nat} {x0 x1 x2 : Value} {t : TypeId} (h : Own w b #[x0, x1, x2] t) : w.cell? ⟨b, 0, none⟩ = some x0 ∧ w.cell? ⟨b, 1, none⟩ = some x1 ∧ w.cell? ⟨b, 2, none⟩ = some x2 :=
  ⟨h.cell 0 (by simp), h.cell 1 (by simp), h.cell 2 (by simp)⟩
theorem Own.z3 {w : World} {b : Nat} {x0 x1 x2 : Value} {t : TypeId} (h : Own w b #[x0, x1, x2] t) : w.frozen? ⟨b, 0, none⟩ = false ∧ w.frozen? ⟨b, 1, none⟩ = false ∧ w.frozen? ⟨b, 2, none⟩ = false :=
  ⟨h.free 0, h.free 1, h.free 2⟩
theorem Own.set3 {w : World} {b : Nat} {x0 x1 x2 : Value} {t : TypeId} (h : Own w b #[x0, x1, x2] t) (y0 y1 y2 : Value) :
    Own (((w.setCell ⟨b, 0, none⟩ y0).setCell ⟨b, 1, none⟩ y1).setCell ⟨b, 2, none⟩ y2) b #[y0, y1, y2] t := by
  have := ((h.set 0 y0).set 1 y1).set 2 y2
  simpa using this
theorem Kept.set3 {S : List Nat} {a w : World} {b : Nat} (h : Kept S a w) (hp : b ∈ S ∨ a.heap.size ≤ b) (y0 y1 y2 : Value) : Kept S a (((w.setCell ⟨b, 0, none⟩ y0).setCell ⟨b, 1, none⟩ y1).setCell ⟨b, 2, none⟩ y2) :=
  ((h.setCell (p := ⟨b, 0, none⟩) hp _).setCell (p := ⟨b, 1, none⟩) hp _).setCell (p := ⟨b, 2, none⟩) hp _
theorem Own.other3 {w : World} {b g : Nat} {cs : Array Value} {t : TypeId} (h : Own w g cs t) (hp : g ≠ b) (y0 y1 y2 : Value) : Own (((w.setCell ⟨b, 0, none⟩ y0).setCell ⟨b, 1, none⟩ y1).setCell ⟨b, 2, none⟩ y2) g cs t :=
  ((h.other (p := ⟨b, 0, none⟩) hp _).other (p := ⟨b, 1, none⟩) hp _).other (p := ⟨b, 2, none⟩) hp _
/-- a result that lies in a block of the call's own, and two in slots. -/
theorem ret_row_tmp2 {P : Program} {fn : Func} {p u u2 : Tmp} {ty : TypeId} (h : fn.results = #[.cell p ty, .tmp u, .tmp u2]) {tmps : Array Value} {w : World} {g : Nat} {t : TypeId} {cs : Array Value} {d : TypeDesc} {x x2 : Value}
    (hp : tmps.getD p undef = .pointer (some ⟨g, 0, none⟩)) (hx : tmps.getD u undef = x) (hx2 : tmps.getD u2 undef = x2) (o : Own w g cs t) (hu : P.underlying ty = some d) (hd : (match d with | .struct _ | .array _ _ => true | _ => false) = true) (hi : (P.info? ty).map (·.size) = some cs.size) :
    (results fn tmps).run P w = .ok (.tuple #[.agg cs, x, x2]) w := by
  have hp' : tmps[p]?.getD undef = .pointer (some ⟨g, 0, none⟩) := by simpa using hp
  have hx' : tmps[u]?.getD undef = x := by simpa using hx
  have hx2' : tmps[u2]?.getD undef = x2 := by simpa using hx2
  simp [results, h, hp', hx', hx2', asAddr, Sem.run_bind, Result.andThen, run_loadVar_row w g t ty cs (0, 0) d o hu hd hi]
/-- what is free of a reference's map. -/
def freeL (f s : Int) (T : List (Int × Int)) : List (Int × Int) := minusL [(f, s - f)] T
theorem free_pl (f s : Int) (T : List (Int × Int)) : Pl 0 (freeL f s T) := by
  unfold freeL minusL
  exact canon_pl _
theorem boolIs (p : Prop) : ∃ B : Bool, B = true ↔ p := ⟨@decide p (Classical.propDecidable p), by simp⟩
set_option maxRecDepth 100000 in
set_option maxHeartbeats 1000000 in
theorem zfree (f s : Int) (v : Value) (T : List (Int × Int)) (lo hi : Nat) (w : World) (h : RunsIn w v T lo hi) (hT : T.length ≤ 100000) (hwT : ∀ a ∈ T, WfRun a) (f1 : 0 ≤ f) (fs : f ≤ s) (s2 : s ≤ 8192) :
    Calls Try.prog 37 #[.agg #[.int .i64 f, .int .i64 s, v]] w (GivesR (freeL f s T) w) := by
  obtain ⟨p, c, rfl⟩ := h.shape
  have k0 : Kept [] w ((w.alloc (.cells #[.int .i64 f, .int .i64 s, .slice p T.length c] 44)).alloc (.cells #[.int .i64 f, .int .i64 (s - f)] 57)) := ((Kept.refl _ _).alloc _).alloc _
  have hl := runs_lit1 (w.alloc (.cells #[.int .i64 f, .int .i64 s, .slice p T.length c] 44)) f (s - f)
  rw [World.size_alloc] at hl
  have hz := zminus _ _ _ _ _ T lo hi _ hl (h.kept0 k0) (by simp) (by omega) (fun a ha => by
    have ha : a = (f, s - f) := by simpa using ha
    subst ha
    exact ⟨by show _ ≤ f; omega, by show f ≤ _; omega, by show _ ≤ s - f; omega, by show s - f ≤ _; omega⟩) hwT
  have HZ := Lib.hid hz
  have o0 := (Own.new w #[.int .i64 f, .int .i64 s, .slice p T.length c] 44)
  obtain ⟨c0, c1, c2⟩ := o0.c3
  clear hz hl h hwT
  unfold GivesR at *
  unfold freeL
  go_enter Try.func37, Try.ntmps37
  go_wp2_with fail
  refine HZ.out.mono ?_; rintro e w1 ⟨v1, rfl, r1, k1⟩
  have hro := ownsRow_base (base' := w.heap.size) r1 (by simp; omega)
  have HRO := Lib.hid hro
  obtain ⟨p1, q1, rfl⟩ := own_shape r1
  clear r1 hro
  go_wp2_with fail
  go_ret
  exact ⟨_, rfl, HRO.out, k0.trans k1⟩
def takeT (f s : Int) (T : List (Int × Int)) (n : Int) : List (Int × Int) := if lowCode (freeL f s T) n = 0 then joinL T (lowRes (freeL f s T) n) else T
def TakeSaysR (f s : Int) (T : List (Int × Int)) (n : Int) (w : World) (e : Ending) (w' : World) : Prop :=
  ∃ v u, e = .returned (.tuple #[.agg #[.int .i64 f, .int .i64 s, v], u, .int .i64 (lowCode (freeL f s T) n)]) ∧ RunsRow w' v (takeT f s T n) ∧ RunsRow w' u (lowRes (freeL f s T) n) ∧ Kept [] w w'
set_option maxRecDepth 100000 in
set_option maxHeartbeats 2000000 in
theorem ztake (f s : Int) (v : Value) (T : List (Int × Int)) (n : Int) (w : World) (h : RunsRow w v T) (hpT : Pl 0 T) (f1 : 0 ≤ f) (fs : f ≤ s) (s2 : s ≤ 8192) (hn1 : -9223372036854775808 ≤ n) (hn2 : n ≤ 9223372036854775807) :
    Calls Try.prog 34 #[.agg #[.int .i64 f, .int .i64 s, v], .int .i64 n] w (TakeSaysR f s T n w) := by
  obtain ⟨p, c, rfl⟩ := h.shape
  have hlT := hpT.len0
  have hwT := pl_wf (Int.le_refl _) hpT
  have k0 : Kept [] w ((w.alloc (.cells #[.int .i64 f, .int .i64 s, .slice p T.length c] 44)).alloc (.cells #[.int .i64 0, .int .i64 0, .slice none 0 0] 44)) := ((Kept.refl _ _).alloc _).alloc _
  have hfr := zfree f s _ T 0 _ _ (h.kept0 k0).in_ (by omega) hwT f1 fs s2
  have hpF := free_pl f s T
  have hlF := hpF.len0
  have hlow := fun u W lo hi (r : RunsIn W u (freeL f s T) lo hi) => zlowest u (freeL f s T) n lo hi W r (by omega) (pl_wf (Int.le_refl _) hpF) hn1 hn2
  have hlr := lowRes_pl (freeL f s T) n
  have hlr2 := hlr.len0
  have hjo := fun W u lo' hi' (k : Kept [] w W) (r : RunsIn W u (lowRes (freeL f s T) n) lo' hi') => zjoin _ T 0 _ u (lowRes (freeL f s T) n) lo' hi' W (h.kept0 k).in_ r (by omega) (by omega) hwT (pl_wf (Int.le_refl _) hlr)
  have e1 : lowCode (freeL f s T) n ≠ 0 → takeT f s T n = T ∧ lowRes (freeL f s T) n = [] := fun hc => ⟨by unfold takeT; rw [if_neg hc], by unfold lowRes; rw [if_neg hc]⟩
  have e2 : lowCode (freeL f s T) n = 0 → takeT f s T n = joinL T (lowRes (freeL f s T) n) := fun hc => by unfold takeT; rw [if_pos hc]
  have o0 := (own_two w #[.int .i64 f, .int .i64 s, .slice p T.length c] #[.int .i64 0, .int .i64 0, .slice none 0 0] 44 44)
  have HF := Lib.hid hfr
  have HL := Lib.hid hlow
  have HJ := Lib.hid hjo
  have HE1 := Lib.hid e1
  have HE2 := Lib.hid e2
  have HH := Lib.hid h
  have HO := Lib.hid o0
  clear hfr hlow hjo e1 e2 h o0 hpF hlr hpT hwT
  unfold TakeSaysR
  unfold GivesR at *
  unfold LowSays at HL
  generalize takeT f s T n = T' at *
  generalize lowRes (freeL f s T) n = L at *
  generalize lowCode (freeL f s T) n = C at *
  generalize freeL f s T = F at *
  go_enter Try.func34, Try.ntmps34
  go_wp2_with fail
  refine HF.out.mono ?_; rintro e w1 ⟨v1, rfl, r1, k1⟩
  have hl1 := HL.out _ _ _ _ (RunsIn.of_own r1)
  have HL1 := Lib.hid hl1
  obtain ⟨p1, q1, rfl⟩ := own_shape r1
  clear r1 hl1 HL HF
  go_wp2_with fail
  refine HL1.out.mono ?_; rintro e w2 ⟨v2, rfl, r2, k2⟩
  have k02 := (k0.trans k1).trans k2
  have oa := (k1.trans k2).own HO.out.1 (by simp)
  have ob := (k1.trans k2).own HO.out.2 (by simp)
  have hs1 := (k0.trans k1).size
  have hs2 := k02.size
  obtain ⟨c0, c1, c2⟩ := oa.c3
  obtain ⟨y0, y1, y2⟩ := ob.c3
  obtain ⟨z0, z1, z2⟩ := ob.z3
  obtain ⟨x0, x1, x2⟩ := oa.z3
  have hsa := oa.lt
  have hsb := ob.lt
  by_cases hC : C = 0
  · have h2 := HE2.out hC
    have H2 := Lib.hid h2
    subst hC
    have hj := HJ.out _ _ _ _ k02 (RunsIn.of_own r2)
    have HJJ := Lib.hid hj
    have hr2 : RunsRow w2 v2 L := ⟨_, r2⟩
    have R2 := Lib.hid hr2
    have OA := Lib.hid oa
    have OB := Lib.hid ob
    obtain ⟨p2, q2, rfl⟩ := own_shape r2
    clear h2 hj HJ r2 hr2 oa ob y0 y1 y2 z0 z1 z2 x0 x1 x2 hsa hsb
    go_wp2_with fail
    refine HJJ.out.mono ?_; rintro e w3 ⟨v3, rfl, r3, k3⟩
    have k03 := k02.trans k3
    have oa := k3.own OA.out (by simp)
    have ob := k3.own OB.out (by simp)
    have hs3 := k03.size
    obtain ⟨c0, c1, c2⟩ := oa.c3
    obtain ⟨y0, y1, y2⟩ := ob.c3
    obtain ⟨z0, z1, z2⟩ := ob.z3
    obtain ⟨x0, x1, x2⟩ := oa.z3
    have hsa := oa.lt
    have hsb := ob.lt
    have ka : Kept [] w (w3.setCell ⟨w.heap.size, 2, none⟩ v3) := k03.setCell (p := ⟨w.heap.size, 2, none⟩) (Or.inr (Nat.le_refl _)) v3
    have kb := ka.set3 (b := w.heap.size + 1) (Or.inr (by omega)) (.int .i64 f) (.int .i64 s) v3
    have k3b : Kept [w.heap.size, w.heap.size + 1] w3 ((((w3.setCell ⟨w.heap.size, 2, none⟩ v3).setCell ⟨w.heap.size + 1, 0, none⟩ (.int .i64 f)).setCell ⟨w.heap.size + 1, 1, none⟩ (.int .i64 s)).setCell ⟨w.heap.size + 1, 2, none⟩ v3) := ((Kept.refl _ w3).setCell (p := ⟨w.heap.size, 2, none⟩) (Or.inl (by simp)) v3).set3 (b := w.heap.size + 1) (Or.inl (by simp)) (.int .i64 f) (.int .i64 s) v3
    have of := (ob.other (p := ⟨w.heap.size, 2, none⟩) (by show w.heap.size + 1 ≠ w.heap.size; omega) v3).set3 (.int .i64 f) (.int .i64 s) v3
    have hNR : NoRuns w3 [w.heap.size, w.heap.size + 1] := fun x hx => by
      have hx : x = w.heap.size ∨ x = w.heap.size + 1 := by simpa using hx
      rcases hx with rfl | rfl
      · exact ⟨_, _, oa, by decide⟩
      · exact ⟨_, _, ob, by decide⟩
    have hR3' : RunsRow w3 v3 (joinL T L) := ⟨_, r3⟩
    have hR3 := hR3'.kept k3b hNR
    have hR2 := (R2.out.kept0 k3).kept k3b hNR
    have HR3 := Lib.hid hR3
    have HR2 := Lib.hid hR2
    have OF := Lib.hid of
    have KB := Lib.hid kb
    obtain ⟨p3, q3, rfl⟩ := own_shape r3
    clear r3 hR3 hR3' hR2 of kb k3b ka hNR oa ob
    go_wp2_with fail
    refine bodyPost_ret (v := .tuple #[.agg #[.int .i64 f, .int .i64 s, .slice p3 (joinL T L).length q3], .slice p2 L.length q2, .int .i64 0]) ?_ ?_ ?_
    · exact ret_row_tmp2 Try.results34 rfl rfl rfl OF.out Try.underlying44 rfl (by kernel_rfl)
    · rfl
    · exact ⟨_, _, rfl, by rw [H2.out]; exact HR3.out, HR2.out, KB.out⟩
  · obtain ⟨h2, h3⟩ := HE1.out hC
    have H2 := Lib.hid h2
    have H3 := Lib.hid h3
    have kb := k02.set3 (b := w.heap.size + 1) (Or.inr (by omega)) (.int .i64 f) (.int .i64 s) (.slice p T.length c)
    have of := ob.set3 (.int .i64 f) (.int .i64 s) (.slice p T.length c)
    have hR := HH.out.kept0 kb
    have HR := Lib.hid hR
    have OF := Lib.hid of
    have KB := Lib.hid kb
    obtain ⟨p2, q2, rfl⟩ := own_shape r2
    clear h2 h3 HJ r2 oa ob hR kb of
    go_wp2_with fail
    refine bodyPost_ret (v := .tuple #[.agg #[.int .i64 f, .int .i64 s, .slice p T.length c], .slice none 0 0, .int .i64 C]) ?_ ?_ ?_
    · exact ret_row_tmp2 Try.results34 rfl rfl rfl OF.out Try.underlying44 rfl (by kernel_rfl)
    · rfl
    · exact ⟨_, _, rfl, by rw [H2.out]; exact HR.out, by rw [H3.out]; exact RunsRow.none _ 0, KB.out⟩

def HoldIsR (f s : Int) (l T : List (Int × Int)) (C : Int) (T' : List (Int × Int)) : Prop :=
  (¬ MayX f s l ∧ C = 1 ∧ T' = T) ∨ (MayX f s l ∧ countL (commonL T l) ≠ 0 ∧ C = 100 ∧ T' = T) ∨ (MayX f s l ∧ countL (commonL T l) = 0 ∧ C = 0 ∧ T' = joinL T l)
def HoldSaysR (f s : Int) (l T : List (Int × Int)) (w : World) (e : Ending) (w' : World) : Prop :=
  ∃ v C T', e = .returned (.tuple #[.agg #[.int .i64 f, .int .i64 s, v], .int .i64 C]) ∧ HoldIsR f s l T C T' ∧ RunsRow w' v T' ∧ Kept [] w w'
set_option maxRecDepth 100000 in
set_option maxHeartbeats 2000000 in
theorem zhold (f s : Int) (v : Value) (T : List (Int × Int)) (u : Value) (l : List (Int × Int)) (lo2 hi2 : Nat) (w : World) (h : RunsRow w v T) (hpT : Pl 0 T) (hr : RunsIn w u l lo2 hi2) (hl : l.length ≤ 100000) (hwl : ∀ a ∈ l, WfRun a) (f1 : 0 ≤ f) (fs : f ≤ s) (s2 : s ≤ 8192) :
    Calls Try.prog 35 #[.agg #[.int .i64 f, .int .i64 s, v], u] w (HoldSaysR f s l T w) := by
  obtain ⟨p, c, rfl⟩ := h.shape
  obtain ⟨pl, cl, rfl⟩ := hr.shape
  have hlT := hpT.len0
  have hwT := pl_wf (Int.le_refl _) hpT
  have k0 : Kept [] w ((w.alloc (.cells #[.int .i64 f, .int .i64 s, .slice p T.length c] 44)).alloc (.cells #[.int .i64 0, .int .i64 0, .slice none 0 0] 44)) := ((Kept.refl _ _).alloc _).alloc _
  have hmay := zmay _ l f s lo2 hi2 _ (hr.kept0 k0) (by omega) hwl (by omega) (by omega) (by omega) (by omega)
  have hA := fun W (k : Kept [] w W) => zcommon _ T 0 _ _ l lo2 hi2 W (h.kept0 k).in_ (hr.kept0 k) (by omega) (by omega) hwT hwl
  have hB := fun W (k : Kept [] w W) => zjoin _ T 0 _ _ l lo2 hi2 W (h.kept0 k).in_ (hr.kept0 k) (by omega) (by omega) hwT hwl
  have hcA := fun W u lo hi (r : RunsIn W u (commonL T l) lo hi) => zcount u (commonL T l) lo hi W r (by have : (commonL T l).length ≤ 8192 := len_pl; omega) (wf_canon _)
  have o0 := (own_two w #[.int .i64 f, .int .i64 s, .slice p T.length c] #[.int .i64 0, .int .i64 0, .slice none 0 0] 44 44)
  have HA := Lib.hid hA
  have HB := Lib.hid hB
  have HCA := Lib.hid hcA
  have HH := Lib.hid h
  have HO := Lib.hid o0
  obtain ⟨B, hB2⟩ := boolIs (MayX f s l)
  have hmay2 : Calls Try.prog 23 #[.slice pl l.length cl, .int .i64 f, .int .i64 s] _ fun e w' => e = .returned (.bool B) ∧ Kept [] _ w' := hmay.mono fun e w' ⟨r, h1, h2, h3⟩ => ⟨by rw [h1, show r = B by rw [Bool.eq_iff_iff, h2, hB2]], h3⟩
  have HM := Lib.hid hmay2
  have HB2 := Lib.hid hB2
  clear hA hB hcA h o0 hmay hmay2 hB2 hwT hwl hr hpT
  unfold HoldSaysR
  unfold GivesR at *
  cases B
  · have hI : HoldIsR f s l T 1 T := Or.inl ⟨(fun q => absurd (HB2.out.2 q) (by simp)), rfl, rfl⟩
    have HI := Lib.hid hI
    clear hI
    go_enter Try.func35, Try.ntmps35
    go_wp2_with fail
    refine HM.out.mono ?_; rintro e w1 ⟨rfl, k1⟩
    have k01 := k0.trans k1
    have oa := k1.own HO.out.1 (by simp)
    have ob := k1.own HO.out.2 (by simp)
    obtain ⟨c0, c1, c2⟩ := oa.c3
    obtain ⟨y0, y1, y2⟩ := ob.c3
    obtain ⟨z0, z1, z2⟩ := ob.z3
    have hsa := oa.lt
    have hsb := ob.lt
    have kb := k01.set3 (b := w.heap.size + 1) (Or.inr (by omega)) (.int .i64 f) (.int .i64 s) (.slice p T.length c)
    have of := ob.set3 (.int .i64 f) (.int .i64 s) (.slice p T.length c)
    have hR := HH.out.kept0 kb
    have HR := Lib.hid hR
    have OF := Lib.hid of
    have KB := Lib.hid kb
    clear oa ob hR kb of HA HB HCA
    go_wp2_with fail
    refine bodyPost_ret (v := .tuple #[.agg #[.int .i64 f, .int .i64 s, .slice p T.length c], .int .i64 1]) ?_ ?_ ?_
    · exact ret_row_tmp Try.results35 rfl rfl OF.out Try.underlying44 rfl (by kernel_rfl)
    · rfl
    · exact ⟨_, _, _, rfl, HI.out, HR.out, KB.out⟩
  · have hM : MayX f s l := HB2.out.1 rfl
    have hI0 : countL (commonL T l) = 0 → HoldIsR f s l T 0 (joinL T l) := fun hn => Or.inr (Or.inr ⟨hM, hn, rfl, rfl⟩)
    have hI1 : countL (commonL T l) ≠ 0 → HoldIsR f s l T 100 T := fun hn => Or.inr (Or.inl ⟨hM, hn, rfl, rfl⟩)
    have HI0 := Lib.hid hI0
    have HI1 := Lib.hid hI1
    have hcb : countL (commonL T l) ≤ 8192 := cntF_le _ _
    clear hI0 hI1 hM
    generalize joinL T l = T' at *
    generalize countL (commonL T l) = ca at *
    generalize commonL T l = Z at *
    go_enter Try.func35, Try.ntmps35
    go_wp2_with fail
    refine HM.out.mono ?_; rintro e w1 ⟨rfl, k1⟩
    have k01 := k0.trans k1
    have oa := k1.own HO.out.1 (by simp)
    obtain ⟨c0, c1, c2⟩ := oa.c3
    have hA1 := HA.out _ k01
    have HA1 := Lib.hid hA1
    clear hA1 oa
    go_wp2_with fail
    refine HA1.out.mono ?_; rintro e w2 ⟨v2, rfl, r2, k2⟩
    have k02 := k01.trans k2
    have hc2 := HCA.out _ _ _ _ (RunsIn.of_own r2)
    have HC2 := Lib.hid hc2
    obtain ⟨p2, q2, rfl⟩ := own_shape r2
    clear hc2 r2 HCA HA HA1 c0 c1 c2
    go_wp2_with fail
    refine HC2.out.mono ?_; rintro e w3 ⟨rfl, k3⟩
    have k03 := k02.trans k3
    have k13 := (k1.trans k2).trans k3
    have oa := k13.own HO.out.1 (by simp)
    have ob := k13.own HO.out.2 (by simp)
    obtain ⟨c0, c1, c2⟩ := oa.c3
    obtain ⟨y0, y1, y2⟩ := ob.c3
    obtain ⟨z0, z1, z2⟩ := ob.z3
    have hsa := oa.lt
    have hsb := ob.lt
    by_cases hz : ca = 0
    · have hI := HI0.out hz
      have HI := Lib.hid hI
      subst hz
      have hB3 := HB.out _ k03
      have HB3 := Lib.hid hB3
      have OA := Lib.hid oa
      have OB := Lib.hid ob
      clear hI hB3 HB y0 y1 y2 z0 z1 z2 oa ob hsa hsb
      go_wp2_with fail
      refine HB3.out.mono ?_; rintro e w4 ⟨v4, rfl, r4, k4⟩
      have k04 := k03.trans k4
      have oa := k4.own OA.out (by simp)
      have ob := k4.own OB.out (by simp)
      have hs3 := k03.size
      obtain ⟨d0, d1, d2⟩ := oa.c3
      obtain ⟨y0, y1, y2⟩ := ob.c3
      obtain ⟨z0, z1, z2⟩ := ob.z3
      obtain ⟨x0, x1, x2⟩ := oa.z3
      have hsa := oa.lt
      have hsb := ob.lt
      have ka : Kept [] w (w4.setCell ⟨w.heap.size, 2, none⟩ v4) := k04.setCell (p := ⟨w.heap.size, 2, none⟩) (Or.inr (Nat.le_refl _)) v4
      have kb := ka.set3 (b := w.heap.size + 1) (Or.inr (by omega)) (.int .i64 f) (.int .i64 s) v4
      have k3b : Kept [w.heap.size, w.heap.size + 1] w4 ((((w4.setCell ⟨w.heap.size, 2, none⟩ v4).setCell ⟨w.heap.size + 1, 0, none⟩ (.int .i64 f)).setCell ⟨w.heap.size + 1, 1, none⟩ (.int .i64 s)).setCell ⟨w.heap.size + 1, 2, none⟩ v4) := ((Kept.refl _ w4).setCell (p := ⟨w.heap.size, 2, none⟩) (Or.inl (by simp)) v4).set3 (b := w.heap.size + 1) (Or.inl (by simp)) (.int .i64 f) (.int .i64 s) v4
      have of := (ob.other (p := ⟨w.heap.size, 2, none⟩) (by show w.heap.size + 1 ≠ w.heap.size; omega) v4).set3 (.int .i64 f) (.int .i64 s) v4
      have hNR : NoRuns w4 [w.heap.size, w.heap.size + 1] := fun x hx => by
        have hx : x = w.heap.size ∨ x = w.heap.size + 1 := by simpa using hx
        rcases hx with rfl | rfl
        · exact ⟨_, _, oa, by decide⟩
        · exact ⟨_, _, ob, by decide⟩
      have hR4' : RunsRow w4 v4 T' := ⟨_, r4⟩
      have hR4 := hR4'.kept k3b hNR
      have HR4 := Lib.hid hR4
      have OF := Lib.hid of
      have KB := Lib.hid kb
      obtain ⟨p4, q4, rfl⟩ := own_shape r4
      clear r4 hR4 hR4' of kb k3b ka oa ob c0 c1 c2 hNR
      go_wp2_with fail
      refine bodyPost_ret (v := .tuple #[.agg #[.int .i64 f, .int .i64 s, .slice p4 T'.length q4], .int .i64 0]) ?_ ?_ ?_
      · exact ret_row_tmp Try.results35 rfl rfl OF.out Try.underlying44 rfl (by kernel_rfl)
      · rfl
      · exact ⟨_, _, _, rfl, HI.out, HR4.out, KB.out⟩
    · have hI := HI1.out hz
      have HI := Lib.hid hI
      have hpos : (0 : Int) < (ca : Int) := by omega
      have kb := k03.set3 (b := w.heap.size + 1) (Or.inr (by omega)) (.int .i64 f) (.int .i64 s) (.slice p T.length c)
      have of := ob.set3 (.int .i64 f) (.int .i64 s) (.slice p T.length c)
      have hR := HH.out.kept0 kb
      have HR := Lib.hid hR
      have OF := Lib.hid of
      have KB := Lib.hid kb
      clear oa ob hR kb of HB hI hz
      go_wp2_with fail
      refine bodyPost_ret (v := .tuple #[.agg #[.int .i64 f, .int .i64 s, .slice p T.length c], .int .i64 100]) ?_ ?_ ?_
      · exact ret_row_tmp Try.results35 rfl rfl OF.out Try.underlying44 rfl (by kernel_rfl)
      · rfl
      · exact ⟨_, _, _, rfl, HI.out, HR.out, KB.out⟩

def GiveIsR (f s : Int) (l T : List (Int × Int)) (C : Int) (T' : List (Int × Int)) : Prop :=
  (¬ MayX f s l ∧ C = 1 ∧ T' = T) ∨ (MayX f s l ∧ countL (minusL l T) ≠ 0 ∧ C = 6 ∧ T' = T) ∨ (MayX f s l ∧ countL (minusL l T) = 0 ∧ C = 0 ∧ T' = minusL T l)
def GiveSaysR (f s : Int) (l T : List (Int × Int)) (w : World) (e : Ending) (w' : World) : Prop :=
  ∃ v C T', e = .returned (.tuple #[.agg #[.int .i64 f, .int .i64 s, v], .int .i64 C]) ∧ GiveIsR f s l T C T' ∧ RunsRow w' v T' ∧ Kept [] w w'
set_option maxRecDepth 100000 in
set_option maxHeartbeats 2000000 in
theorem zgive (f s : Int) (v : Value) (T : List (Int × Int)) (u : Value) (l : List (Int × Int)) (lo2 hi2 : Nat) (w : World) (h : RunsRow w v T) (hpT : Pl 0 T) (hr : RunsIn w u l lo2 hi2) (hl : l.length ≤ 100000) (hwl : ∀ a ∈ l, WfRun a) (f1 : 0 ≤ f) (fs : f ≤ s) (s2 : s ≤ 8192) :
    Calls Try.prog 36 #[.agg #[.int .i64 f, .int .i64 s, v], u] w (GiveSaysR f s l T w) := by
  obtain ⟨p, c, rfl⟩ := h.shape
  obtain ⟨pl, cl, rfl⟩ := hr.shape
  have hlT := hpT.len0
  have hwT := pl_wf (Int.le_refl _) hpT
  have k0 : Kept [] w ((w.alloc (.cells #[.int .i64 f, .int .i64 s, .slice p T.length c] 44)).alloc (.cells #[.int .i64 0, .int .i64 0, .slice none 0 0] 44)) := ((Kept.refl _ _).alloc _).alloc _
  have hmay := zmay _ l f s lo2 hi2 _ (hr.kept0 k0) (by omega) hwl (by omega) (by omega) (by omega) (by omega)
  have hA := fun W (k : Kept [] w W) => zminus _ l lo2 hi2 _ T 0 _ W (hr.kept0 k) (h.kept0 k).in_ (by omega) (by omega) hwl hwT
  have hB := fun W (k : Kept [] w W) => zminus _ T 0 _ _ l lo2 hi2 W (h.kept0 k).in_ (hr.kept0 k) (by omega) (by omega) hwT hwl
  have hcA := fun W u lo hi (r : RunsIn W u (minusL l T) lo hi) => zcount u (minusL l T) lo hi W r (by have : (minusL l T).length ≤ 8192 := len_pl; omega) (wf_canon _)
  have o0 := (own_two w #[.int .i64 f, .int .i64 s, .slice p T.length c] #[.int .i64 0, .int .i64 0, .slice none 0 0] 44 44)
  have HA := Lib.hid hA
  have HB := Lib.hid hB
  have HCA := Lib.hid hcA
  have HH := Lib.hid h
  have HO := Lib.hid o0
  obtain ⟨B, hB2⟩ := boolIs (MayX f s l)
  have hmay2 : Calls Try.prog 23 #[.slice pl l.length cl, .int .i64 f, .int .i64 s] _ fun e w' => e = .returned (.bool B) ∧ Kept [] _ w' := hmay.mono fun e w' ⟨r, h1, h2, h3⟩ => ⟨by rw [h1, show r = B by rw [Bool.eq_iff_iff, h2, hB2]], h3⟩
  have HM := Lib.hid hmay2
  have HB2 := Lib.hid hB2
  clear hA hB hcA h o0 hmay hmay2 hB2 hwT hwl hr hpT
  unfold GiveSaysR
  unfold GivesR at *
  cases B
  · have hI : GiveIsR f s l T 1 T := Or.inl ⟨(fun q => absurd (HB2.out.2 q) (by simp)), rfl, rfl⟩
    have HI := Lib.hid hI
    clear hI
    go_enter Try.func36, Try.ntmps36
    go_wp2_with fail
    refine HM.out.mono ?_; rintro e w1 ⟨rfl, k1⟩
    have k01 := k0.trans k1
    have oa := k1.own HO.out.1 (by simp)
    have ob := k1.own HO.out.2 (by simp)
    obtain ⟨c0, c1, c2⟩ := oa.c3
    obtain ⟨y0, y1, y2⟩ := ob.c3
    obtain ⟨z0, z1, z2⟩ := ob.z3
    have hsa := oa.lt
    have hsb := ob.lt
    have kb := k01.set3 (b := w.heap.size + 1) (Or.inr (by omega)) (.int .i64 f) (.int .i64 s) (.slice p T.length c)
    have of := ob.set3 (.int .i64 f) (.int .i64 s) (.slice p T.length c)
    have hR := HH.out.kept0 kb
    have HR := Lib.hid hR
    have OF := Lib.hid of
    have KB := Lib.hid kb
    clear oa ob hR kb of HA HB HCA
    go_wp2_with fail
    refine bodyPost_ret (v := .tuple #[.agg #[.int .i64 f, .int .i64 s, .slice p T.length c], .int .i64 1]) ?_ ?_ ?_
    · exact ret_row_tmp Try.results36 rfl rfl OF.out Try.underlying44 rfl (by kernel_rfl)
    · rfl
    · exact ⟨_, _, _, rfl, HI.out, HR.out, KB.out⟩
  · have hM : MayX f s l := HB2.out.1 rfl
    have hI0 : countL (minusL l T) = 0 → GiveIsR f s l T 0 (minusL T l) := fun hn => Or.inr (Or.inr ⟨hM, hn, rfl, rfl⟩)
    have hI1 : countL (minusL l T) ≠ 0 → GiveIsR f s l T 6 T := fun hn => Or.inr (Or.inl ⟨hM, hn, rfl, rfl⟩)
    have HI0 := Lib.hid hI0
    have HI1 := Lib.hid hI1
    have hcb : countL (minusL l T) ≤ 8192 := cntF_le _ _
    clear hI0 hI1 hM
    generalize minusL T l = T' at *
    generalize countL (minusL l T) = ca at *
    generalize minusL l T = Z at *
    go_enter Try.func36, Try.ntmps36
    go_wp2_with fail
    refine HM.out.mono ?_; rintro e w1 ⟨rfl, k1⟩
    have k01 := k0.trans k1
    have oa := k1.own HO.out.1 (by simp)
    obtain ⟨c0, c1, c2⟩ := oa.c3
    have hA1 := HA.out _ k01
    have HA1 := Lib.hid hA1
    clear hA1 oa
    go_wp2_with fail
    refine HA1.out.mono ?_; rintro e w2 ⟨v2, rfl, r2, k2⟩
    have k02 := k01.trans k2
    have hc2 := HCA.out _ _ _ _ (RunsIn.of_own r2)
    have HC2 := Lib.hid hc2
    obtain ⟨p2, q2, rfl⟩ := own_shape r2
    clear hc2 r2 HCA HA HA1 c0 c1 c2
    go_wp2_with fail
    refine HC2.out.mono ?_; rintro e w3 ⟨rfl, k3⟩
    have k03 := k02.trans k3
    have k13 := (k1.trans k2).trans k3
    have oa := k13.own HO.out.1 (by simp)
    have ob := k13.own HO.out.2 (by simp)
    obtain ⟨c0, c1, c2⟩ := oa.c3
    obtain ⟨y0, y1, y2⟩ := ob.c3
    obtain ⟨z0, z1, z2⟩ := ob.z3
    have hsa := oa.lt
    have hsb := ob.lt
    by_cases hz : ca = 0
    · have hI := HI0.out hz
      have HI := Lib.hid hI
      subst hz
      have hB3 := HB.out _ k03
      have HB3 := Lib.hid hB3
      have OA := Lib.hid oa
      have OB := Lib.hid ob
      clear hI hB3 HB y0 y1 y2 z0 z1 z2 oa ob hsa hsb
      go_wp2_with fail
      refine HB3.out.mono ?_; rintro e w4 ⟨v4, rfl, r4, k4⟩
      have k04 := k03.trans k4
      have oa := k4.own OA.out (by simp)
      have ob := k4.own OB.out (by simp)
      have hs3 := k03.size
      obtain ⟨d0, d1, d2⟩ := oa.c3
      obtain ⟨y0, y1, y2⟩ := ob.c3
      obtain ⟨z0, z1, z2⟩ := ob.z3
      obtain ⟨x0, x1, x2⟩ := oa.z3
      have hsa := oa.lt
      have hsb := ob.lt
      have ka : Kept [] w (w4.setCell ⟨w.heap.size, 2, none⟩ v4) := k04.setCell (p := ⟨w.heap.size, 2, none⟩) (Or.inr (Nat.le_refl _)) v4
      have kb := ka.set3 (b := w.heap.size + 1) (Or.inr (by omega)) (.int .i64 f) (.int .i64 s) v4
      have k3b : Kept [w.heap.size, w.heap.size + 1] w4 ((((w4.setCell ⟨w.heap.size, 2, none⟩ v4).setCell ⟨w.heap.size + 1, 0, none⟩ (.int .i64 f)).setCell ⟨w.heap.size + 1, 1, none⟩ (.int .i64 s)).setCell ⟨w.heap.size + 1, 2, none⟩ v4) := ((Kept.refl _ w4).setCell (p := ⟨w.heap.size, 2, none⟩) (Or.inl (by simp)) v4).set3 (b := w.heap.size + 1) (Or.inl (by simp)) (.int .i64 f) (.int .i64 s) v4
      have of := (ob.other (p := ⟨w.heap.size, 2, none⟩) (by show w.heap.size + 1 ≠ w.heap.size; omega) v4).set3 (.int .i64 f) (.int .i64 s) v4
      have hNR : NoRuns w4 [w.heap.size, w.heap.size + 1] := fun x hx => by
        have hx : x = w.heap.size ∨ x = w.heap.size + 1 := by simpa using hx
        rcases hx with rfl | rfl
        · exact ⟨_, _, oa, by decide⟩
        · exact ⟨_, _, ob, by decide⟩
      have hR4' : RunsRow w4 v4 T' := ⟨_, r4⟩
      have hR4 := hR4'.kept k3b hNR
      have HR4 := Lib.hid hR4
      have OF := Lib.hid of
      have KB := Lib.hid kb
      obtain ⟨p4, q4, rfl⟩ := own_shape r4
      clear r4 hR4 hR4' of kb k3b ka oa ob c0 c1 c2 hNR
      go_wp2_with fail
      refine bodyPost_ret (v := .tuple #[.agg #[.int .i64 f, .int .i64 s, .slice p4 T'.length q4], .int .i64 0]) ?_ ?_ ?_
      · exact ret_row_tmp Try.results36 rfl rfl OF.out Try.underlying44 rfl (by kernel_rfl)
      · rfl
      · exact ⟨_, _, _, rfl, HI.out, HR4.out, KB.out⟩
    · have hI := HI1.out hz
      have HI := Lib.hid hI
      have hpos : (0 : Int) < (ca : Int) := by omega
      have kb := k03.set3 (b := w.heap.size + 1) (Or.inr (by omega)) (.int .i64 f) (.int .i64 s) (.slice p T.length c)
      have of := ob.set3 (.int .i64 f) (.int .i64 s) (.slice p T.length c)
      have hR := HH.out.kept0 kb
      have HR := Lib.hid hR
      have OF := Lib.hid of
      have KB := Lib.hid kb
      clear oa ob hR kb of HB hI hz
      go_wp2_with fail
      refine bodyPost_ret (v := .tuple #[.agg #[.int .i64 f, .int .i64 s, .slice p T.length c], .int .i64 6]) ?_ ?_ ?_
      · exact ret_row_tmp Try.results36 rfl rfl OF.out Try.underlying44 rfl (by kernel_rfl)
      · rfl
      · exact ⟨_, _, _, rfl, HI.out, HR.out, KB.out⟩
end Go.Proofs.Ytmljbmhalpdpmaa
