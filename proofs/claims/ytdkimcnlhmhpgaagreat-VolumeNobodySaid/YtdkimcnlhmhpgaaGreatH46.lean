/- -/
import Derived.Test.YtdkimcnlhmhpgaaGreatH34
import Derived.Test.YtdkimcnlhmhpgaaGreatH41
import Derived.Test.YtdkimcnlhmhpgaaGreatH42
import Derived.Test.YtdkimcnlhmhpgaaGreatH43
import Derived.Test.YtdkimcnlhmhpgaaGreatH45
set_option linter.unusedVariables false
set_option linter.unusedSimpArgs false
namespace Go.Proofs.YtdkimcnlhmhpgaaGreat
open Go.RowKit
def ChangeSays (T : List Nat) (B b sb mb lo : Nat) (R : VS × Int) (w : World) (e : Ending) (w' : World) : Prop := e = .returned (.int .i64 R.2) ∧ VolAt T w' B b sb mb lo R.1 ∧ PK [B] b sb mb w w'
theorem setCells_cat0 (w : World) (B : Nat) (a1 a2 a3 a4 a5 : Value) : w.setCells B 0 (#[a1, a2, a3, a4, a5] : Array Value).toList = (((((w.setCell ⟨B, 0, none⟩ a1).setCell ⟨B, 1, none⟩ a2).setCell ⟨B, 2, none⟩ a3).setCell ⟨B, 3, none⟩ a4).setCell ⟨B, 4, none⟩ a5) := rfl
theorem infoFn : ∃ i, Tryz.prog.info? 42 = some i ∧ i.zero = some .nilFunc ∧ i.size = 1 ∧ i.bytes = 8 := by
 have hi : (Tryz.prog.info? 42).map (fun i => (i.zero, i.size, i.bytes)) = some (some .nilFunc, 1, 8) := by kernel_rfl
 obtain ⟨i0, hi0, hz0, hz1, hz2⟩ := info_parts hi
 exact ⟨i0, hi0, hz0, hz1, hz2⟩
theorem StepsAt.more {w0 W W' : World} {l : List VC} {k : Nat} {qs : List SQ} (h : StepsAt w0 W l k qs) (hk : k < l.length) (hb : kBlob l[k].kind = true) {gi gx : Nat} (h1 : w0.heap.size ≤ gi) (h2 : w0.heap.size ≤ gx) (hW : ∀ g cs t, Own W g cs t → (t = 3 ∨ t = 34) → Own W' g cs t)
  (oi : Own W' gi #[.int .i64 k] 3) (ox : Own W' gx l[k].cells 34) : StepsAt w0 W' l (k + 1) (qs ++ [((k, l[k]), (gi, gx))]) := by
 refine ⟨?_, fun q hq => ?_⟩
 ·rw [List.map_append, h.idx, idxs_succ l k hk, if_pos hb]
  rfl
 ·rcases List.mem_append.1 hq with hq | hq
  ·obtain ⟨a1, a2, a3, a4⟩ := h.own q hq
   exact ⟨a1, a2, hW _ _ _ a3 (Or.inl rfl), hW _ _ _ a4 (Or.inr rfl)⟩
  ·obtain rfl := List.mem_singleton.1 hq
   exact ⟨h1, h2, oi, ox⟩
theorem StepsAt.less {w0 W W' : World} {l : List VC} {k : Nat} {qs : List SQ} (h : StepsAt w0 W l k qs) (hk : k < l.length) (hb : kBlob l[k].kind = false) (kk : Kept [] W W') : StepsAt w0 W' l (k + 1) qs := by
 have h2 := h.kept kk
 exact ⟨by rw [h.idx, idxs_succ l k hk, if_neg (by rw [hb]; simp), List.append_nil], h2.own⟩
theorem StepsAt.qlen {w0 W : World} {l : List VC} {k : Nat} {qs : List SQ} (h : StepsAt w0 W l k qs) : qs.length ≤ k := by
 have := congrArg List.length h.idx
 rw [List.length_map] at this
 rw [this]; exact idxs_len _ _
theorem own_five (w : World) (A B C D E : Array Value) (s t u v x : TypeId) : Own (((((w.alloc (.cells A s)).alloc (.cells B t)).alloc (.cells C u)).alloc (.cells D v)).alloc (.cells E x)) w.heap.size A s ∧ Own (((((w.alloc (.cells A s)).alloc (.cells B t)).alloc (.cells C u)).alloc (.cells D v)).alloc (.cells E x)) (w.heap.size + 1) B t ∧ Own (((((w.alloc (.cells A s)).alloc (.cells B t)).alloc (.cells C u)).alloc (.cells D v)).alloc (.cells E x)) (w.heap.size + 2) C u ∧ Own (((((w.alloc (.cells A s)).alloc (.cells B t)).alloc (.cells C u)).alloc (.cells D v)).alloc (.cells E x)) (w.heap.size + 3) D v ∧ Own (((((w.alloc (.cells A s)).alloc (.cells B t)).alloc (.cells C u)).alloc (.cells D v)).alloc (.cells E x)) (w.heap.size + 4) E x := by
 obtain ⟨o1, o2, o3, o4⟩ := own_four w A B C D s t u v
 have o5 := Own.new ((((w.alloc (.cells A s)).alloc (.cells B t)).alloc (.cells C u)).alloc (.cells D v)) E x
 simp only [World.size_alloc] at o5
 exact ⟨o1.alloc _, o2.alloc _, o3.alloc _, o4.alloc _, o5⟩
theorem news_own {w : World} {g : Nat} {l : List Value} {t : TypeId} (o : Own w g l.toArray t) : ∀ (j : Nat) (u : Value), l[j]? = some u → w.cell? (Addr.add ⟨g, 0, none⟩ j) = some u := by
 intro j u hj
 obtain ⟨h, rfl⟩ := List.getElem?_eq_some_iff.1 hj
 rw [Addr.add_mid, Nat.zero_add]
 have := o.cell j (by simpa using h)
 simpa using this
theorem putC_len {w : World} {u : Value} {c : JCat} (h : CatIn w u c) (hm : mayC c) (ht : totC c ≤ 1000) : (putOut c).1.length ≤ 1000000 := by
 have hl := catR_len c
 have hb := bodyL_len (l := catR c) (fun r hr => rec_ok (catR_may hm r hr) ((h.fit).2.2 r hr))
 unfold totC at ht
 unfold putOut
 rw [if_pos hm]
 show (putC c).length ≤ _
 unfold putC sealL bodyC headC
 simp only [List.length_append, numL_len, List.length_cons, List.length_nil]
 split
 ·simp <;> omega
 ·unfold txL
  simp only [List.length_append, numL_len]
  omega
def StepRel (w w7 : World) (gr : Nat) (l : List VC) (sv kv : Value) (wr : World) : Prop := ∃ (k : Nat) (qs : List SQ), k ≤ l.length ∧ kv = .int .i64 k ∧ wr.ownsRow w7.heap.size 42 1 sv qs.length ((qs.map (sqU w.heap.size gr)).map fnV) ∧ StepsAt w wr l k qs ∧ Kept [] w7 wr
theorem changeX_dead {v : VS} (l : List VC) (h : v.dead = true) : changeX v l = (v, 90) := by unfold changeX; rw [if_pos h]
theorem changeX_wrong {v : VS} {l : List VC} (h : v.dead = false) (h1 : wrongX v.c l ≠ 0) : changeX v l = (v, wrongX v.c l) := by unfold changeX; rw [if_neg (by rw [h]; simp), if_pos h1]
theorem changeX_full {v : VS} {l : List VC} (h : v.dead = false) (h1 : wrongX v.c l = 0) (h2 : ¬ planOk (roomX v) l) : changeX v l = (v, 100) := by unfold changeX; rw [if_neg (by rw [h]; simp), if_neg (by rw [h1]; simp), if_pos h2]
theorem changeX_apply {v : VS} {l : List VC} (h : v.dead = false) (h1 : wrongX v.c l = 0) (h2 : planOk (roomX v) l) (h3 : (applyX v.c (planAt (roomX v) l l.length).1).2 ≠ 0) : changeX v l = (v, (applyX v.c (planAt (roomX v) l l.length).1).2) := by
 unfold changeX; rw [if_neg (by rw [h]; simp), if_neg (by rw [h1]; simp), if_neg (by simpa using h2), if_pos h3]
theorem changeX_tx {v : VS} {l : List VC} (h : v.dead = false) (h1 : wrongX v.c l = 0) (h2 : planOk (roomX v) l) (h3 : (applyX v.c (planAt (roomX v) l l.length).1).2 = 0) (h4 : txCode (planAt (roomX v) l l.length).1 ≠ 0) : changeX v l = (v, txCode (planAt (roomX v) l l.length).1) := by
 unfold changeX; rw [if_neg (by rw [h]; simp), if_neg (by rw [h1]; simp), if_neg (by simpa using h2), if_neg (by rw [h3]; simp), if_pos h4]
theorem changeX_append {v : VS} {l : List VC} (h : v.dead = false) (h1 : wrongX v.c l = 0) (h2 : planOk (roomX v) l) (h3 : (applyX v.c (planAt (roomX v) l l.length).1).2 = 0) (h4 : txCode (planAt (roomX v) l l.length).1 = 0) (h5 : ((txOut (planAt (roomX v) l l.length).1).length : Int) ≤ v.s.journal * 128 - v.s.used) :
  changeX v l = tellX (chainV (putsX l (planAt (roomX v) l l.length).1 ++ [onD stepF, appendX (applyX v.c (planAt (roomX v) l l.length).1).1 (txOut (planAt (roomX v) l l.length).1)]) v) := by
 unfold changeX; rw [if_neg (by rw [h]; simp), if_neg (by rw [h1]; simp), if_neg (by simpa using h2), if_neg (by rw [h3]; simp), if_neg (by rw [h4]; simp), if_pos h5]
theorem changeX_put {v : VS} {l : List VC} (h : v.dead = false) (h1 : wrongX v.c l = 0) (h2 : planOk (roomX v) l) (h3 : (applyX v.c (planAt (roomX v) l l.length).1).2 = 0) (h4 : txCode (planAt (roomX v) l l.length).1 = 0) (h5 : ¬ ((txOut (planAt (roomX v) l l.length).1).length : Int) ≤ v.s.journal * 128 - v.s.used) (h6 : (putOut (applyX v.c (planAt (roomX v) l l.length).1).1).2 ≠ 0) :
  changeX v l = (v, (putOut (applyX v.c (planAt (roomX v) l l.length).1).1).2) := by
 unfold changeX; rw [if_neg (by rw [h]; simp), if_neg (by rw [h1]; simp), if_neg (by simpa using h2), if_neg (by rw [h3]; simp), if_neg (by rw [h4]; simp), if_neg h5, if_pos h6]
theorem changeX_low {v : VS} {l : List VC} (h : v.dead = false) (h1 : wrongX v.c l = 0) (h2 : planOk (roomX v) l) (h3 : (applyX v.c (planAt (roomX v) l l.length).1).2 = 0) (h4 : txCode (planAt (roomX v) l l.length).1 = 0) (h5 : ¬ ((txOut (planAt (roomX v) l l.length).1).length : Int) ≤ v.s.journal * 128 - v.s.used) (h6 : (putOut (applyX v.c (planAt (roomX v) l l.length).1).1).2 = 0) (h7 : lowCode (planAt (roomX v) l l.length).2 (need (putOut (applyX v.c (planAt (roomX v) l l.length).1).1).1.length) ≠ 0) :
  changeX v l = (v, 100) := by
 unfold changeX; rw [if_neg (by rw [h]; simp), if_neg (by rw [h1]; simp), if_neg (by simpa using h2), if_neg (by rw [h3]; simp), if_neg (by rw [h4]; simp), if_neg h5, if_neg (by rw [h6]; simp), if_pos h7]
theorem changeX_settle {v : VS} {l : List VC} (h : v.dead = false) (h1 : wrongX v.c l = 0) (h2 : planOk (roomX v) l) (h3 : (applyX v.c (planAt (roomX v) l l.length).1).2 = 0) (h4 : txCode (planAt (roomX v) l l.length).1 = 0) (h5 : ¬ ((txOut (planAt (roomX v) l l.length).1).length : Int) ≤ v.s.journal * 128 - v.s.used) (h6 : (putOut (applyX v.c (planAt (roomX v) l l.length).1).1).2 = 0) (h7 : lowCode (planAt (roomX v) l l.length).2 (need (putOut (applyX v.c (planAt (roomX v) l l.length).1).1).1.length) = 0) :
  changeX v l = tellX (chainV (putsX l (planAt (roomX v) l l.length).1 ++ [settleX (applyX v.c (planAt (roomX v) l l.length).1).1 (putOut (applyX v.c (planAt (roomX v) l l.length).1).1).1 (lowestL (planAt (roomX v) l l.length).2 (need (putOut (applyX v.c (planAt (roomX v) l l.length).1).1).1.length))]) v) := by
 unfold changeX; rw [if_neg (by rw [h]; simp), if_neg (by rw [h1]; simp), if_neg (by simpa using h2), if_neg (by rw [h3]; simp), if_neg (by rw [h4]; simp), if_neg h5, if_neg (by rw [h6]; simp), if_neg (by rw [h7]; simp)]
set_option maxRecDepth 100000 in
set_option maxHeartbeats 16000000 in
theorem uchange {T : List Nat} {w : World} {B b sb mb lo : Nat} {v : VS} (vl : Value) (l : List VC) (lo1 hi1 : Nat) (hV : VolAt T w B b sb mb lo v) (hF : VFit 900 v) (hl : ChsIn w vl l lo1 hi1) (hl8 : l.length ≤ 8) (hfits : ∀ x ∈ l, x.fits) (ho : v.d.ops ≤ 35000) (hw : v.d.waits.length ≤ 700) (hn : v.d.stand.length ≤ 100) :
  Calls Tryz.prog 11 #[.pointer (some ⟨B, 0, none⟩), vl] w (ChangeSays T B b sb mb lo (changeX v l) w) := by
 obtain ⟨hm, hcm, hfew, hseq, hjr⟩ := hF
 have hsm := hm.1
 obtain ⟨sv, vb, vm, vn, o, hr, hcat⟩ := hV.vol
 obtain ⟨RM, hRM⟩ : ∃ R, roomX v = R := ⟨_, rfl⟩
 obtain ⟨P, hP⟩ : ∃ P, planAt RM l l.length = P := ⟨_, rfl⟩
 obtain ⟨AP, hAP⟩ : ∃ A, applyX v.c P.1 = A := ⟨_, rfl⟩
 have hplR : Pl 0 RM := by rw [← hRM]; exact minus_pl _ _
 have hplP : Pl 0 P.2 := by rw [← hP]; exact plan_pl hplR l l.length (Nat.le_refl _)
 have hPr : ∀ r ∈ P.1, Pl 0 r.runs := fun r hr => by rw [← hP] at hr; exact (plan_runs RM l l.length (Nat.le_refl _) r hr).1
 have hPlen : P.1.length = l.length := by rw [← hP]; exact planAt_len RM l _ (Nat.le_refl _)
 have hids : ∀ r ∈ P.1, 0 ≤ r.id := fun r hr => by rw [← hP] at hr; exact plan_ids RM l (fun x hx => (bd32 (hfits x hx).2.1).1) r hr
 have hAPm : AP.2 = 0 → mayC AP.1 := fun h => by
  have e : applyX v.c P.1 = recsX v.c P.1 := by unfold applyX; rw [if_pos hcm]
  rw [← hAP, e] at h ⊢
  exact recs_may hcm hids h
 have hAPt : totC AP.1 ≤ 908 := by
  rw [← hAP]
  have := apply_tot P.1 v.c
  unfold totC at this ⊢
  omega
 have HCH : Hid (∀ W, Kept [] w W → Calls Tryz.prog 42 #[.pointer (some ⟨B, 0, none⟩)] W fun e w' => e = .returned (.int .i64 (if v.dead = true then 90 else 0)) ∧ W = w') := Lib.hid (fun W k => ucheck (hV.keep0 k))
 have HWR : Hid (∀ W, Kept [] w W → Calls Tryz.prog 43 #[.pointer (some ⟨B, 0, none⟩), vl] W (WrongSays (wrongX v.c l) W)) := Lib.hid (fun W k => uwrong vl l lo1 hi1 (hV.keep0 k) hcm (hl.kept0 k))
 have HPL : Hid (∀ W, Kept [] w W → Calls Tryz.prog 44 #[.pointer (some ⟨B, 0, none⟩), vl] W (PlanSays RM l W)) := Lib.hid (fun W k => by rw [← hRM]; exact uplan vl l lo1 hi1 (hV.keep0 k) hm hcm (by omega) (hl.kept0 k) (by omega))
 have HAPP : Hid (∀ W rv lo2 hi2, Kept [] w W → RecsIn W rv P.1 lo2 hi2 → Calls Tryz.prog 45 #[.agg #[.int .u32 v.c.nextBox, .int .u32 v.c.nextMan, vb, vm, vn], rv] W (ApplySays (SD T w b sb mb) AP W)) := Lib.hid (fun W rv lo2 hi2 k hrr => by
  rw [← hAP]
  exact zApply (S0 := SD T w b sb mb) _ v.c rv P.1 lo2 hi2 W (CatOff.kept0 hcat k) (fun x hx => Nat.lt_of_lt_of_le (hV.da.sd_lt hV.hT x hx) k.size) hcm.small hrr (fun r hr => wf_of_pl (hPr r hr)) (fun r hr => by have := (hPr r hr).len0; omega))
 have HAPP2 : Hid (∀ W rv lo2 hi2 g, Kept [] w W → w.heap.size ≤ g → g < W.heap.size → RecsIn W rv P.1 lo2 hi2 → Calls Tryz.prog 45 #[.agg #[.int .u32 v.c.nextBox, .int .u32 v.c.nextMan, vb, vm, vn], rv] W (ApplySays (fun x => SD T w b sb mb x ∨ x = g) AP W)) := Lib.hid (fun W rv lo2 hi2 g k hg hgW hrr => by
  rw [← hAP]
  exact zApply (S0 := fun x => SD T w b sb mb x ∨ x = g) _ v.c rv P.1 lo2 hi2 W (CatOff.kept0 (CatOff.more (T := fun x => x = g) hcat (fun x hx => by subst hx; exact hg)) k) (fun x hx => (by
   rcases hx with hx | rfl
   ·exact Nat.lt_of_lt_of_le (hV.da.sd_lt hV.hT x hx) k.size
   ·exact hgW)) hcm.small hrr (fun r hr => wf_of_pl (hPr r hr)) (fun r hr => by have := (hPr r hr).len0; omega))
 have HTX : Hid (∀ W rv lo2 hi2, RecsIn W rv P.1 lo2 hi2 → Calls Tryz.prog 46 #[rv] W (TxSays P.1 W)) := Lib.hid (fun W rv lo2 hi2 h => jtx rv P.1 lo2 hi2 W h (by omega) (fun r hr => by have := (hPr r hr).len0; omega))
 have HPUT : Hid (∀ W u, AP.2 = 0 → CatIn W u AP.1 → Calls Tryz.prog 52 #[u] W (CPutSays AP.1 W)) := Lib.hid (fun W u h0 h => zput u AP.1 W h (hAPm h0).small (by unfold totC at hAPt; omega))
 have HLOW : Hid (∀ W u (n : Nat) lo2 hi2, n ≤ 1000000000 → RunsIn W u P.2 lo2 hi2 → Calls Tryz.prog 53 #[u, .int .i64 (need n)] W (LowSays P.2 (need n) W)) := Lib.hid (fun W u n lo2 hi2 hn h => xlowest u P.2 _ lo2 hi2 W h (by have := hplP.len0; omega) (wf_of_pl hplP) (by have := need_nn (n : Int); omega) (by unfold need; split <;> omega))
 have HV := Lib.hid hV
 have HAPT : Hid (totC AP.1 ≤ 1000) := Lib.hid (by omega)
 have HL := Lib.hid hl
 have HM := Lib.hid hm
 have HNUM : Hid (v.d.ops ≤ 35000 ∧ v.d.waits.length ≤ 700 ∧ v.d.stand.length ≤ 100 ∧ l.length ≤ 8 ∧ v.s.seq ≤ 900 ∧ v.s.journal ≤ 30) := Lib.hid ⟨ho, hw, hn, hl8, hseq, hjr⟩
 have HFT := Lib.hid hfits
 have HPLP := Lib.hid hplP
 have HPR := Lib.hid hPr
 have HPLEN := Lib.hid hPlen
 have HAPM := Lib.hid hAPm
 have HRM := Lib.hid hRM
 have HP := Lib.hid hP
 have HAP := Lib.hid hAP
 have HSM := Lib.hid hsm
 obtain ⟨p1, c1, rfl⟩ := RowsOf.shape hl
 have HO : Hid (∀ W, Kept [] w W → Own W B (volCells b v.s sv v.c vb vm vn v.dead) 90) := Lib.hid (fun W k => k.own o (by simp))
 have ogv := Own.new w #[.pointer (some ⟨B, 0, none⟩)] 27
 have k1 : Kept [] w (w.alloc (.cells #[.pointer (some ⟨B, 0, none⟩)] 27)) := (Kept.refl _ _).alloc _
 have HK1 := Lib.hid k1
 have HGV := Lib.hid ogv
 clear hm hcm hfew hseq hjr hsm hr hcat hplR hplP hPr hPlen hids hAPm hAPt hV hl hl8 hfits ho hw hn hRM hP hAP o ogv k1
 unfold ChangeSays
 cases hd : v.dead
 case true =>
  have hX := changeX_dead l hd
  have HX := Lib.hid hX
  rw [hd, if_pos rfl] at HCH
  clear hX hd
  go_enter Tryz.func11, Tryz.ntmps11
  go_wp2_with fail
  refine (HCH.out _ HK1.out).mono ?_; rintro e w2 ⟨rfl, rfl⟩
  go_wp2_with fail
  go_ret
  rw [HX.out]
  exact ⟨rfl, HV.out.keep0 HK1.out, HK1.out.pk0 HV.out.b_lt⟩
 case false =>
  rw [hd, if_neg (by simp)] at HCH
  have HD := Lib.hid hd
  go_enter Tryz.func11, Tryz.ntmps11
  go_wp2_with fail
  refine (HCH.out _ HK1.out).mono ?_; rintro e w2 ⟨rfl, rfl⟩
  have y0 := HGV.out.cell 0 (by simp)
  simp only [List.getElem_toArray, List.getElem_cons_zero] at y0
  go_upto_region 4 with fail
  generalize w.alloc (.cells #[.pointer (some ⟨B, 0, none⟩)] 27) = w1 at *
  have HGC : Hid (∀ W, Kept [] w1 W → W.cell? ⟨w.heap.size, 0, none⟩ = some (.pointer (some ⟨B, 0, none⟩))) := Lib.hid (fun W k => (k.own HGV.out (by simp)).cell 0 (by simp))
  go_wp2_with fail
  refine (HWR.out _ HK1.out).mono ?_; rintro e w2 ⟨rfl, k2⟩
  have HK2 := Lib.hid k2
  have y0 := HGC.out w2 k2
  clear k2
  by_cases hwx : wrongX v.c l = 0
  case neg =>
   have HX := Lib.hid (changeX_wrong (l := l) hd hwx)
   have e0 : (wrongX v.c l == 0) = false := by rw [beq_eq_false_iff_ne]; exact hwx
   clear hwx hd
   go_wp2_with fail
   go_ret
   rw [HX.out]
   exact ⟨rfl, HV.out.keep0 (HK1.out.trans HK2.out), (HK1.out.trans HK2.out).pk0 HV.out.b_lt⟩
  case pos =>
   have HWX := Lib.hid hwx
   rw [hwx]
   clear hwx hd
   go_wp2_with fail
   refine (HPL.out w2 (HK1.out.trans HK2.out)).mono ?_; rintro e w3 ⟨h3, k3⟩
   have HK3 := Lib.hid (HK2.out.trans k3)
   have y0 := HGC.out w3 (HK2.out.trans k3)
   clear k3
   rcases h3 with ⟨hok, rv, lv, rfl, hrecs, hleft⟩ | ⟨hno, C, hC0, hCw, rfl⟩
   case inr =>
    have HX := Lib.hid (changeX_full (l := l) HD.out HWX.out (by rw [HRM.out]; exact hno))
    have e0 : (C == 0) = false := by rw [beq_eq_false_iff_ne]; exact hC0
    clear hno hC0 hCw
    go_wp2_with fail
    go_ret
    rw [HX.out]
    exact ⟨rfl, HV.out.keep0 ((HK1.out.trans HK3.out).alloc _), ((HK1.out.trans HK3.out).alloc _).pk0 HV.out.b_lt⟩
   case inl =>
    rw [HP.out] at hrecs hleft
    have HOK := Lib.hid hok
    obtain ⟨pR, cR, rfl⟩ := hrecs.shape
    obtain ⟨pL, cL, rfl⟩ := own_shape hleft
    have ogr := Own.new w3 #[.slice pR P.1.length cR] 92
    have HRC := Lib.hid (hrecs.kept0 ((Kept.refl [] w3).alloc (.cells #[.slice pR P.1.length cR] 92)))
    have HLF := Lib.hid (World.ownsRow.alloc hleft (.cells #[.slice pR P.1.length cR] 92))
    have k4 := HK3.out.alloc (.cells #[.slice pR P.1.length cR] 92)
    have HK4 := Lib.hid k4
    have HGR := Lib.hid ogr
    have HSZ3 : Hid (w1.heap.size ≤ w3.heap.size) := Lib.hid HK3.out.size
    clear hok hrecs hleft ogr k4
    go_upto_region 10 with fail
    have HGRS : Hid (w.heap.size ≤ w3.heap.size) := Lib.hid (Nat.le_trans HK1.out.size HSZ3.out)
    have hgrlt := HGR.out.lt
    generalize hgr : w3.heap.size = gr at *
    generalize w3.alloc (.cells #[.slice pR P.1.length cR] 92) = w4 at *
    have HGRL := Lib.hid hgrlt
    clear hgr hgrlt
    have HS10 : Hid (∀ W, Kept [] w4 W → W.cell? ⟨w.heap.size, 0, none⟩ = some (.pointer (some ⟨B, 0, none⟩)) ∧ W.cell? ⟨gr, 0, none⟩ = some (.slice pR P.1.length cR) ∧ W.cell? ⟨B, 7, none⟩ = some (.int .u32 v.c.nextBox) ∧ W.cell? ⟨B, 8, none⟩ = some (.int .u32 v.c.nextMan) ∧ W.cell? ⟨B, 9, none⟩ = some vb ∧ W.cell? ⟨B, 10, none⟩ = some vm ∧ W.cell? ⟨B, 11, none⟩ = some vn) := Lib.hid (fun W k => by
     obtain ⟨a0, _, _, _, _, _, _, a7, a8, a9, a10, a11, _⟩ := (HO.out W ((HK1.out.trans HK4.out).trans k)).c13
     exact ⟨HGC.out W (HK4.out.trans k), (k.own HGR.out (by simp)).cell 0 (by simp), a7, a8, a9, a10, a11⟩)
    clear y0
    obtain ⟨y0, y1, y2, y3, y4, y5, y6⟩ := HS10.out w4 (Kept.refl _ _)
    go_cut [9, 10] from 37 to 45 (fun v9 v10 wx => v9 = .int .i64 AP.2 ∧ ∃ gc x2 x3 x4, v10 = .pointer (some ⟨gc, 0, none⟩) ∧ w.heap.size ≤ gc ∧ Own wx gc #[.int .u32 AP.1.nextBox, .int .u32 AP.1.nextMan, x2, x3, x4] 52 ∧ CatO T wx b sb mb (.agg #[.int .u32 AP.1.nextBox, .int .u32 AP.1.nextMan, x2, x3, x4]) AP.1 ∧ Kept [] w4 wx)
    case first =>
     refine wp_region_held_drew (S := (fun W => W.cell? ⟨w.heap.size, 0, none⟩ = some (.pointer (some ⟨B, 0, none⟩)) ∧ W.cell? ⟨gr, 0, none⟩ = some (.slice pR P.1.length cR) ∧ W.cell? ⟨B, 7, none⟩ = some (.int .u32 v.c.nextBox) ∧ W.cell? ⟨B, 8, none⟩ = some (.int .u32 v.c.nextMan) ∧ W.cell? ⟨B, 9, none⟩ = some vb ∧ W.cell? ⟨B, 10, none⟩ = some vm ∧ W.cell? ⟨B, 11, none⟩ = some vn)) (by kernel_rfl) (by exact HS10.out _ ((Kept.refl [] w4).drew)) (fun hHeld => ?_)
     refine take_at (i := 0) (d := some 38) (v := ?_) rfl rfl (by kernel_rfl) (by kernel_rfl) (by kernel_rfl) (fun _ _ _ h => h) (Or.inl ⟨by rfl, ?_⟩) (by assumption) ?_
     rotate_left
     ·(intro w hSw; (try dsimp only at hSw); go_simp; try with_reducible rfl)
     try simp only [Act.put, List.setIfInBounds_toArray, List.set_cons_zero, List.set_cons_succ]
     refine take_at (i := 1) (d := some 39) (v := ?_) rfl rfl (by kernel_rfl) (by kernel_rfl) (by kernel_rfl) (fun _ _ _ h => h) (Or.inl ⟨by rfl, ?_⟩) (by assumption) ?_
     rotate_left
     ·(intro w hSw; (try dsimp only at hSw); go_simp; try with_reducible rfl)
     try simp only [Act.put, List.setIfInBounds_toArray, List.set_cons_zero, List.set_cons_succ]
     refine take_at (i := 2) (d := some 40) (v := ?_) rfl rfl (by kernel_rfl) (by kernel_rfl) (by kernel_rfl) (fun _ _ _ h => h) (Or.inl ⟨by rfl, ?_⟩) (by assumption) ?_
     rotate_left
     ·(intro w hSw; (try dsimp only at hSw); go_simp; try with_reducible rfl)
     try simp only [Act.put, List.setIfInBounds_toArray, List.set_cons_zero, List.set_cons_succ]
     refine take_at (i := 3) (d := some 41) (v := ?_) rfl rfl (by kernel_rfl) (by kernel_rfl) (by kernel_rfl) (fun _ _ _ h => h) (Or.inl ⟨by rfl, ?_⟩) (by assumption) ?_
     rotate_left
     ·(intro w hSw; (try dsimp only at hSw); go_simp; try with_reducible rfl)
     try simp only [Act.put, List.setIfInBounds_toArray, List.set_cons_zero, List.set_cons_succ]
     refine take_at (i := 4) (d := some 42) (v := ?_) rfl rfl (by kernel_rfl) (by kernel_rfl) (by kernel_rfl) (fun _ _ _ h => h) (Or.inl ⟨by rfl, ?_⟩) (by assumption) ?_
     rotate_left
     ·(intro w hSw; (try dsimp only at hSw); go_simp; try with_reducible rfl)
     try simp only [Act.put, List.setIfInBounds_toArray, List.set_cons_zero, List.set_cons_succ]
     refine wpAnyH_ready (rs := [5, 9]) (by kernel_rfl) (by simp) ?_
     refine (AllReadyH.cons rfl (fun K hK => ?_) (AllReadyH.cons rfl (fun K hK => ?_) AllReadyH.nil))
     ·skip
      go_simp
      ((with_reducible refine (HAPP.out _ _ _ _ (((HK1.out.trans HK4.out)).drew) (HRC.out.in_.kept0 ((Kept.refl [] w4).drew))).mono ?_)); rintro e w5 ⟨vc, rfl, hcat5, k5⟩
      have kk5 : Kept [] w4 w5 := ((Kept.refl [] w4).drew).trans k5
      have hcato : CatO T w5 b sb mb vc AP.1 := CatOff.cato hcat5 ((HK1.out.trans HK4.out).trans kk5) HV.out.b_lt
      obtain ⟨vb5, vm5, vn5, rfl, _⟩ := hcat5
      obtain ⟨⟨r1, m1, d1, rfl⟩, ⟨r2, m2, d2, rfl⟩, ⟨r3, m3, d3, rfl⟩⟩ := CatO.shapes hcato
      have HCATO := Lib.hid hcato
      have HK45 := Lib.hid kk5
      clear kk5 k5 hcato
      go_wp2_with fail
      refine hK.out _ _ ?_ (fun hHeld => ?_)
      ·exact HS10.out _ HK45.out
      clear hK K
      try simp only [Act.put, List.setIfInBounds_toArray, List.set_cons_zero, List.set_cons_succ]
      refine take_at (i := 6) (d := some 37) (v := ?_) rfl rfl (by kernel_rfl) (by kernel_rfl) (by kernel_rfl) (fun _ _ _ h => h) (Or.inl ⟨by rfl, ?_⟩) (by assumption) ?_
      rotate_left
      ·(intro w hSw; (try dsimp only at hSw); go_simp; try with_reducible rfl)
      try simp only [Act.put, List.setIfInBounds_toArray, List.set_cons_zero, List.set_cons_succ]
      refine take_at (i := 7) (d := some 44) (v := ?_) rfl rfl (by kernel_rfl) (by kernel_rfl) (by kernel_rfl) (fun _ _ _ h => h) (Or.inl ⟨by rfl, ?_⟩) (by assumption) ?_
      rotate_left
      ·(intro w hSw; (try dsimp only at hSw); go_simp; try with_reducible rfl)
      try simp only [Act.put, List.setIfInBounds_toArray, List.set_cons_zero, List.set_cons_succ]
      refine take_at (i := 8) (d := some 45) (v := ?_) rfl rfl (by kernel_rfl) (by kernel_rfl) (by kernel_rfl) (fun _ _ _ h => h) (Or.inl ⟨by rfl, ?_⟩) (by assumption) ?_
      rotate_left
      ·(intro w hSw; (try dsimp only at hSw); go_simp; try with_reducible rfl)
      try simp only [Act.put, List.setIfInBounds_toArray, List.set_cons_zero, List.set_cons_succ]
      have oz := Own.new w5 #[.int .u32 0, .int .u32 0, .slice none 0 0, .slice none 0 0, .slice none 0 0] 52
      have o6 := oz.put5 (.int .u32 AP.1.nextBox) (.int .u32 AP.1.nextMan) (.slice r1 m1 d1) (.slice r2 m2 d2) (.slice r3 m3 d3)
      have k6 : Kept [] w4 ((((((w5.alloc (.cells #[.int .u32 0, .int .u32 0, .slice none 0 0, .slice none 0 0, .slice none 0 0] 52)).setCell ⟨w5.heap.size, 0, none⟩ (.int .u32 AP.1.nextBox)).setCell ⟨w5.heap.size, 1, none⟩ (.int .u32 AP.1.nextMan)).setCell ⟨w5.heap.size, 2, none⟩ (.slice r1 m1 d1)).setCell ⟨w5.heap.size, 3, none⟩ (.slice r2 m2 d2)).setCell ⟨w5.heap.size, 4, none⟩ (.slice r3 m3 d3)) := ((((((HK45.out.alloc (.cells #[.int .u32 0, .int .u32 0, .slice none 0 0, .slice none 0 0, .slice none 0 0] 52)).setCell (p := ⟨w5.heap.size, 0, none⟩) (Or.inr HK45.out.size) (.int .u32 AP.1.nextBox)).setCell (p := ⟨w5.heap.size, 1, none⟩) (Or.inr HK45.out.size) (.int .u32 AP.1.nextMan)).setCell (p := ⟨w5.heap.size, 2, none⟩) (Or.inr HK45.out.size) (.slice r1 m1 d1)).setCell (p := ⟨w5.heap.size, 3, none⟩) (Or.inr HK45.out.size) (.slice r2 m2 d2)).setCell (p := ⟨w5.heap.size, 4, none⟩) (Or.inr HK45.out.size) (.slice r3 m3 d3))
      have k56 : Kept [] w5 ((((((w5.alloc (.cells #[.int .u32 0, .int .u32 0, .slice none 0 0, .slice none 0 0, .slice none 0 0] 52)).setCell ⟨w5.heap.size, 0, none⟩ (.int .u32 AP.1.nextBox)).setCell ⟨w5.heap.size, 1, none⟩ (.int .u32 AP.1.nextMan)).setCell ⟨w5.heap.size, 2, none⟩ (.slice r1 m1 d1)).setCell ⟨w5.heap.size, 3, none⟩ (.slice r2 m2 d2)).setCell ⟨w5.heap.size, 4, none⟩ (.slice r3 m3 d3)) := (((((((Kept.refl [] w5).alloc (.cells #[.int .u32 0, .int .u32 0, .slice none 0 0, .slice none 0 0, .slice none 0 0] 52)).setCell (p := ⟨w5.heap.size, 0, none⟩) (Or.inr (Nat.le_refl _)) (.int .u32 AP.1.nextBox)).setCell (p := ⟨w5.heap.size, 1, none⟩) (Or.inr (Nat.le_refl _)) (.int .u32 AP.1.nextMan)).setCell (p := ⟨w5.heap.size, 2, none⟩) (Or.inr (Nat.le_refl _)) (.slice r1 m1 d1)).setCell (p := ⟨w5.heap.size, 3, none⟩) (Or.inr (Nat.le_refl _)) (.slice r2 m2 d2)).setCell (p := ⟨w5.heap.size, 4, none⟩) (Or.inr (Nat.le_refl _)) (.slice r3 m3 d3))
      have HOZ := Lib.hid oz
      have HK56 := Lib.hid k56
      have hgl : w.heap.size ≤ w5.heap.size := Nat.le_trans (HK1.out.trans HK4.out).size HK45.out.size
      have HGL := Lib.hid hgl
      clear oz k56 hgl
      refine wpAnyH_ready (rs := [9]) (by kernel_rfl) (by simp) ?_
      refine (AllReadyH.cons rfl (fun K hK => ?_) AllReadyH.nil)
      go_simp
      refine hK.out _ _ ?_ (fun hHeld => ?_)
      ·exact HS10.out _ (HK45.out.alloc (.cells #[.int .u32 0, .int .u32 0, .slice none 0 0, .slice none 0 0, .slice none 0 0] 52))
      clear hK K
      try simp only [Act.put, List.setIfInBounds_toArray, List.set_cons_zero, List.set_cons_succ]
      refine wpAnyH_ready (rs := [10]) (by kernel_rfl) (by simp) ?_
      refine (AllReadyH.cons rfl (fun K hK => ?_) AllReadyH.nil)
      refine step_store_mid rfl 52 _ _ rfl w5.heap.size 0 #[.int .u32 AP.1.nextBox, .int .u32 AP.1.nextMan, .slice r1 m1 d1, .slice r2 m2 d2, .slice r3 m3 d3] (by simp [Act.eval, Act.put]) (by simp [Act.eval, Act.put]) (HOZ.out.there 0 5 (by simp)) (by kernel_rfl) (all_oneCell_toArray (cs := [.int .u32 AP.1.nextBox, .int .u32 AP.1.nextMan, .slice r1 m1 d1, .slice r2 m2 d2, .slice r3 m3 d3]) (by intro u hu; simp at hu; rcases hu with rfl | rfl | rfl | rfl | rfl <;> rfl)) ?_
      rw [setCells_cat0]
      clear HOZ
      generalize ((((((w5.alloc (.cells #[.int .u32 0, .int .u32 0, .slice none 0 0, .slice none 0 0, .slice none 0 0] 52)).setCell ⟨w5.heap.size, 0, none⟩ (.int .u32 AP.1.nextBox)).setCell ⟨w5.heap.size, 1, none⟩ (.int .u32 AP.1.nextMan)).setCell ⟨w5.heap.size, 2, none⟩ (.slice r1 m1 d1)).setCell ⟨w5.heap.size, 3, none⟩ (.slice r2 m2 d2)).setCell ⟨w5.heap.size, 4, none⟩ (.slice r3 m3 d3)) = w6 at *
      have HGCAT := Lib.hid o6
      have HK6 := Lib.hid k6
      clear o6 k6
      refine hK.out _ _ ?_ (fun hHeld => ?_)
      ·exact HS10.out _ HK6.out
      clear hK K
      try simp only [Act.put, List.setIfInBounds_toArray, List.set_cons_zero, List.set_cons_succ]
      refine take_at (i := 11) (d := some 9) (v := ?_) rfl rfl (by kernel_rfl) (by kernel_rfl) (by kernel_rfl) (fun _ _ _ h => h) (Or.inl ⟨by rfl, ?_⟩) (by assumption) ?_
      rotate_left
      ·(intro w hSw; (try dsimp only at hSw); go_simp; try with_reducible rfl)
      try simp only [Act.put, List.setIfInBounds_toArray, List.set_cons_zero, List.set_cons_succ]
      refine wpAnyH_done (by kernel_rfl) ?_ _
      try simp only [List.set_cons_succ, List.set_cons_zero]
      go_wp2_with fail
      go_meet
      exact ⟨rfl, _, _, _, _, rfl, HGL.out, HGCAT.out, HCATO.out.kept0 HK56.out (Nat.lt_of_lt_of_le HV.out.b_lt (Nat.le_trans (HK1.out.trans HK4.out).size HK45.out.size)), HK6.out⟩
     ·skip
      have HZ : Hid (Own (w4.alloc (.cells #[.int .u32 0, .int .u32 0, .slice none 0 0, .slice none 0 0, .slice none 0 0] 52)) w4.heap.size #[.int .u32 0, .int .u32 0, .slice none 0 0, .slice none 0 0, .slice none 0 0] 52) := Lib.hid (Own.new _ _ _)
      go_simp
      refine hK.out _ _ ?_ (fun hHeld => ?_)
      ·first | exact HS10.out _ ((Kept.refl [] w4).alloc (.cells #[.int .u32 0, .int .u32 0, .slice none 0 0, .slice none 0 0, .slice none 0 0] 52)).drew | exact HS10.out _ ((Kept.refl [] w4).drew.alloc (.cells #[.int .u32 0, .int .u32 0, .slice none 0 0, .slice none 0 0, .slice none 0 0] 52))
      clear hK K
      try simp only [Act.put, List.setIfInBounds_toArray, List.set_cons_zero, List.set_cons_succ]
      refine wpAnyH_ready (rs := [5]) (by kernel_rfl) (by simp) ?_
      refine (AllReadyH.cons rfl (fun K hK => ?_) AllReadyH.nil)
      go_simp
      ((with_reducible refine (HAPP2.out _ _ _ _ w4.heap.size (by first | exact ((HK1.out.trans HK4.out).alloc _).drew | exact ((HK1.out.trans HK4.out).drew).alloc _) (HK1.out.trans HK4.out).size (by simp) (by first | exact HRC.out.in_.kept0 (((Kept.refl [] w4).alloc _).drew) | exact HRC.out.in_.kept0 (((Kept.refl [] w4).drew).alloc _))).mono ?_)); rintro e w5 ⟨vc, rfl, hcat5, k5⟩
      have kk5 : Kept [] w4 w5 := by first | exact (((Kept.refl [] w4).alloc _).drew).trans k5 | exact (((Kept.refl [] w4).drew).alloc _).trans k5
      have oz5 : Own w5 w4.heap.size #[.int .u32 0, .int .u32 0, .slice none 0 0, .slice none 0 0, .slice none 0 0] 52 := by first | exact k5.own HZ.out.drew (by simp) | exact k5.own (Own.new w4.drew #[.int .u32 0, .int .u32 0, .slice none 0 0, .slice none 0 0, .slice none 0 0] 52) (by simp)
      have hcato : CatO T w5 b sb mb vc AP.1 := CatOff.cato (hcat5.weakenC (fun x hx => Or.inl hx)) ((HK1.out.trans HK4.out).trans kk5) HV.out.b_lt
      have HCAT5 := Lib.hid hcat5
      obtain ⟨vb5, vm5, vn5, rfl, _⟩ := hcat5
      obtain ⟨⟨r1, m1, d1, rfl⟩, ⟨r2, m2, d2, rfl⟩, ⟨r3, m3, d3, rfl⟩⟩ := CatO.shapes hcato
      have HCATO := Lib.hid hcato
      have HK45 := Lib.hid kk5
      have HOZ := Lib.hid oz5
      clear kk5 k5 hcato oz5
      go_wp2_with fail
      refine hK.out _ _ ?_ (fun hHeld => ?_)
      ·exact HS10.out _ HK45.out
      clear hK K
      try simp only [Act.put, List.setIfInBounds_toArray, List.set_cons_zero, List.set_cons_succ]
      refine take_at (i := 6) (d := some 37) (v := ?_) rfl rfl (by kernel_rfl) (by kernel_rfl) (by kernel_rfl) (fun _ _ _ h => h) (Or.inl ⟨by rfl, ?_⟩) (by assumption) ?_
      rotate_left
      ·(intro w hSw; (try dsimp only at hSw); go_simp; try with_reducible rfl)
      try simp only [Act.put, List.setIfInBounds_toArray, List.set_cons_zero, List.set_cons_succ]
      refine take_at (i := 7) (d := some 44) (v := ?_) rfl rfl (by kernel_rfl) (by kernel_rfl) (by kernel_rfl) (fun _ _ _ h => h) (Or.inl ⟨by rfl, ?_⟩) (by assumption) ?_
      rotate_left
      ·(intro w hSw; (try dsimp only at hSw); go_simp; try with_reducible rfl)
      try simp only [Act.put, List.setIfInBounds_toArray, List.set_cons_zero, List.set_cons_succ]
      refine take_at (i := 8) (d := some 45) (v := ?_) rfl rfl (by kernel_rfl) (by kernel_rfl) (by kernel_rfl) (fun _ _ _ h => h) (Or.inl ⟨by rfl, ?_⟩) (by assumption) ?_
      rotate_left
      ·(intro w hSw; (try dsimp only at hSw); go_simp; try with_reducible rfl)
      try simp only [Act.put, List.setIfInBounds_toArray, List.set_cons_zero, List.set_cons_succ]
      have o6 := HOZ.out.put5 (.int .u32 AP.1.nextBox) (.int .u32 AP.1.nextMan) (.slice r1 m1 d1) (.slice r2 m2 d2) (.slice r3 m3 d3)
      have k6 : Kept [] w4 (((((w5.setCell ⟨w4.heap.size, 0, none⟩ (.int .u32 AP.1.nextBox)).setCell ⟨w4.heap.size, 1, none⟩ (.int .u32 AP.1.nextMan)).setCell ⟨w4.heap.size, 2, none⟩ (.slice r1 m1 d1)).setCell ⟨w4.heap.size, 3, none⟩ (.slice r2 m2 d2)).setCell ⟨w4.heap.size, 4, none⟩ (.slice r3 m3 d3)) := (((((HK45.out.setCell (p := ⟨w4.heap.size, 0, none⟩) (Or.inr (Nat.le_refl _)) (.int .u32 AP.1.nextBox)).setCell (p := ⟨w4.heap.size, 1, none⟩) (Or.inr (Nat.le_refl _)) (.int .u32 AP.1.nextMan)).setCell (p := ⟨w4.heap.size, 2, none⟩) (Or.inr (Nat.le_refl _)) (.slice r1 m1 d1)).setCell (p := ⟨w4.heap.size, 3, none⟩) (Or.inr (Nat.le_refl _)) (.slice r2 m2 d2)).setCell (p := ⟨w4.heap.size, 4, none⟩) (Or.inr (Nat.le_refl _)) (.slice r3 m3 d3))
      have k56 : Kept [w4.heap.size] w5 (((((w5.setCell ⟨w4.heap.size, 0, none⟩ (.int .u32 AP.1.nextBox)).setCell ⟨w4.heap.size, 1, none⟩ (.int .u32 AP.1.nextMan)).setCell ⟨w4.heap.size, 2, none⟩ (.slice r1 m1 d1)).setCell ⟨w4.heap.size, 3, none⟩ (.slice r2 m2 d2)).setCell ⟨w4.heap.size, 4, none⟩ (.slice r3 m3 d3)) := ((((((Kept.refl [w4.heap.size] w5).setCell (p := ⟨w4.heap.size, 0, none⟩) (Or.inl List.mem_cons_self) (.int .u32 AP.1.nextBox)).setCell (p := ⟨w4.heap.size, 1, none⟩) (Or.inl List.mem_cons_self) (.int .u32 AP.1.nextMan)).setCell (p := ⟨w4.heap.size, 2, none⟩) (Or.inl List.mem_cons_self) (.slice r1 m1 d1)).setCell (p := ⟨w4.heap.size, 3, none⟩) (Or.inl List.mem_cons_self) (.slice r2 m2 d2)).setCell (p := ⟨w4.heap.size, 4, none⟩) (Or.inl List.mem_cons_self) (.slice r3 m3 d3))
      have HK56 := Lib.hid k56
      clear k56
      refine wpAnyH_ready (rs := [10]) (by kernel_rfl) (by simp) ?_
      refine (AllReadyH.cons rfl (fun K hK => ?_) AllReadyH.nil)
      refine step_store_mid rfl 52 _ _ rfl w4.heap.size 0 #[.int .u32 AP.1.nextBox, .int .u32 AP.1.nextMan, .slice r1 m1 d1, .slice r2 m2 d2, .slice r3 m3 d3] (by simp [Act.eval, Act.put]) (by simp [Act.eval, Act.put]) (HOZ.out.there 0 5 (by simp)) (by kernel_rfl) (all_oneCell_toArray (cs := [.int .u32 AP.1.nextBox, .int .u32 AP.1.nextMan, .slice r1 m1 d1, .slice r2 m2 d2, .slice r3 m3 d3]) (by intro u hu; simp at hu; rcases hu with rfl | rfl | rfl | rfl | rfl <;> rfl)) ?_
      rw [setCells_cat0]
      clear HOZ
      generalize (((((w5.setCell ⟨w4.heap.size, 0, none⟩ (.int .u32 AP.1.nextBox)).setCell ⟨w4.heap.size, 1, none⟩ (.int .u32 AP.1.nextMan)).setCell ⟨w4.heap.size, 2, none⟩ (.slice r1 m1 d1)).setCell ⟨w4.heap.size, 3, none⟩ (.slice r2 m2 d2)).setCell ⟨w4.heap.size, 4, none⟩ (.slice r3 m3 d3)) = w6 at *
      have HGCAT := Lib.hid o6
      have HK6 := Lib.hid k6
      clear o6 k6
      refine hK.out _ _ ?_ (fun hHeld => ?_)
      ·exact HS10.out _ HK6.out
      clear hK K
      try simp only [Act.put, List.setIfInBounds_toArray, List.set_cons_zero, List.set_cons_succ]
      refine take_at (i := 11) (d := some 9) (v := ?_) rfl rfl (by kernel_rfl) (by kernel_rfl) (by kernel_rfl) (fun _ _ _ h => h) (Or.inl ⟨by rfl, ?_⟩) (by assumption) ?_
      rotate_left
      ·(intro w hSw; (try dsimp only at hSw); go_simp; try with_reducible rfl)
      try simp only [Act.put, List.setIfInBounds_toArray, List.set_cons_zero, List.set_cons_succ]
      refine wpAnyH_done (by kernel_rfl) ?_ _
      try simp only [List.set_cons_succ, List.set_cons_zero]
      have hcat6 := HCAT5.out.keptT HK56.out (fun x hx => by
       obtain rfl : x = w4.heap.size := by simpa using hx
       exact Or.inr rfl)
      have HCAT6 : Hid (CatO T w6 b sb mb (.agg #[.int .u32 AP.1.nextBox, .int .u32 AP.1.nextMan, .slice r1 m1 d1, .slice r2 m2 d2, .slice r3 m3 d3]) AP.1) := Lib.hid (CatOff.cato (hcat6.weakenC (fun x hx => Or.inl hx)) ((HK1.out.trans HK4.out).trans HK6.out) HV.out.b_lt)
      clear hcat6
      go_wp2_with fail
      go_meet
      exact ⟨rfl, _, _, _, _, rfl, (HK1.out.trans HK4.out).size, HGCAT.out, HCAT6.out, HK6.out⟩
    case rest =>
     obtain ⟨rfl, gc, x2, x3, x4, rfl, hgcl, hgcat, hcato, hk6⟩ := hcut
     rename World => w6
     obtain ⟨⟨r1, m1, d1, rfl⟩, ⟨r2, m2, d2, rfl⟩, ⟨r3, m3, d3, rfl⟩⟩ := CatO.shapes hcato
     have HGCL := Lib.hid hgcl
     have HGCAT := Lib.hid hgcat
     have HCATO := Lib.hid hcato
     have HK6 := Lib.hid hk6
     clear hgcl hgcat hcato hk6 y0 y1 y2 y3 y4 y5 y6
     obtain ⟨y0, y1, y2, y3, y4, y5, y6⟩ := HS10.out w6 HK6.out
     by_cases hap : AP.2 = 0
     case neg =>
      have HX := Lib.hid (changeX_apply (l := l) HD.out HWX.out (by rw [HRM.out]; exact HOK.out) (by rw [HRM.out, HP.out, HAP.out]; exact hap))
      have e0 : (AP.2 == 0) = false := by rw [beq_eq_false_iff_ne]; exact hap
      clear hap
      go_wp2_with fail
      go_ret
      rw [HX.out, HRM.out, HP.out, HAP.out]
      exact ⟨rfl, HV.out.keep0 ((HK1.out.trans HK4.out).trans HK6.out), ((HK1.out.trans HK4.out).trans HK6.out).pk0 HV.out.b_lt⟩
     case pos =>
      have HAP0 := Lib.hid hap
      have e0 : (AP.2 == 0) = true := by rw [hap]; rfl
      clear hap
      have HTX6 := Lib.hid (HTX.out w6 _ _ _ (HRC.out.in_.kept0 HK6.out))
      unfold TxSays at HTX6
      obtain ⟨TXO, hTXO⟩ : ∃ x, txOut P.1 = x := ⟨_, rfl⟩
      obtain ⟨TXC, hTXC⟩ : ∃ x, txCode P.1 = x := ⟨_, rfl⟩
      rw [hTXO, hTXC] at HTX6
      have HTXO := Lib.hid hTXO
      have HTXC := Lib.hid hTXC
      clear hTXO hTXC
      go_wp2_with fail
      refine HTX6.out.mono ?_; rintro e w7 ⟨rfl, k7⟩
      have HK7 := Lib.hid (HK6.out.trans k7)
      have HCATO7 := Lib.hid (HCATO.out.kept0 k7 (Nat.lt_of_lt_of_le HV.out.b_lt ((HK1.out.trans HK4.out).trans HK6.out).size))
      have HGCAT7 := Lib.hid (k7.own HGCAT.out (by simp))
      clear k7 y0 y1 y2 y3 y4 y5 y6
      by_cases htx : TXC = 0
      case neg =>
       have HX := Lib.hid (changeX_tx (l := l) HD.out HWX.out (by rw [HRM.out]; exact HOK.out) (by rw [HRM.out, HP.out, HAP.out]; exact HAP0.out) (by rw [HRM.out, HP.out, HTXC.out]; exact htx))
       have e1 : (TXC == 0) = false := by rw [beq_eq_false_iff_ne]; exact htx
       clear htx
       go_wp2_with fail
       go_ret
       rw [HX.out, HRM.out, HP.out, HTXC.out]
       exact ⟨rfl, HV.out.keep0 ((HK1.out.trans HK4.out).trans HK7.out), ((HK1.out.trans HK4.out).trans HK7.out).pk0 HV.out.b_lt⟩
      case pos =>
       subst htx
       have HTX0 := HTXC
       have hl8 : (l.length : Int) ≤ 8 := by have := HNUM.out.2.2.2.1; omega
       go_wp2_with fail
       go_loopw [12, 13, 14, 59] (fun sv iv xv kv wr => StepRel w w7 gr l sv kv wr) (fun _ _ _ kv _ => l.length - (intOf kv).toNat)
       case atStart => exact ⟨0, [], Nat.zero_le _, rfl, World.ownsRow_nil _ _ _ _, ⟨rfl, fun q hq => by cases hq⟩, Kept.refl _ _⟩
       case round =>
        obtain ⟨k, qs, hk, rfl, hrow, hst, hK⟩ := hrel
        obtain ⟨pS, cS, rfl⟩ := own_shape hrow
        by_cases hlt : k < l.length
        ·have i1 : (k : Int) < l.length := by omega
         obtain ⟨bl, ol, rfl, r0, r1, r2, r3, hbl, hfit⟩ := ChsIn.at_ (HL.out.kept0 (((HK1.out.trans HK4.out).trans HK7.out).trans hK)) k hlt
         have HKA := Lib.hid hK
         have HROW := Lib.hid hrow
         have HST := Lib.hid hst
         have HLT := Lib.hid hlt
         have hql := hst.qlen
         have HQL := Lib.hid hql
         have HWS : Hid (w.heap.size ≤ wr.heap.size) := Lib.hid (((HK1.out.trans HK4.out).trans HK7.out).trans hK).size
         have HY : Hid (∀ W, Kept [] wr W → W.cell? ⟨w.heap.size, 0, none⟩ = some (.pointer (some ⟨B, 0, none⟩))) := Lib.hid (fun W k => HGC.out W (((HK4.out.trans HK7.out).trans hK).trans k))
         obtain ⟨o1, o2⟩ := own_two wr #[.int .i64 (k : Int)] #[.int .i64 (l[k]'hlt).kind, .int .u32 (l[k]'hlt).id, .string (bs (l[k]'hlt).name), .string (bs (l[k]'hlt).bytes)] 3 34
         have k2 : Kept [] wr ((wr.alloc (.cells #[.int .i64 (k : Int)] 3)).alloc (.cells #[.int .i64 (l[k]'hlt).kind, .int .u32 (l[k]'hlt).id, .string (bs (l[k]'hlt).name), .string (bs (l[k]'hlt).bytes)] 34)) := ((Kept.refl _ _).alloc _).alloc _
         have HCO : Hid (∀ W, Calls Tryz.prog 47 #[.int .i64 (l[k]'hlt).kind] W fun e w' => e = .returned (.bool (kBlob (l[k]'hlt).kind)) ∧ W = w') := Lib.hid (fun W => ucomes _ W)
         have HMORE : Hid (∀ W', kBlob (l[k]'hlt).kind = true → (∀ g cs t, Own wr g cs t → (t = 3 ∨ t = 34) → Own W' g cs t) → Own W' wr.heap.size #[.int .i64 (k : Int)] 3 → Own W' (wr.heap.size + 1) #[.int .i64 (l[k]'hlt).kind, .int .u32 (l[k]'hlt).id, .string (bs (l[k]'hlt).name), .string (bs (l[k]'hlt).bytes)] 34 → StepsAt w W' l (k + 1) (qs ++ [((k, l[k]'hlt), (wr.heap.size, wr.heap.size + 1))])) := Lib.hid (fun W' hb hW oi ox => hst.more hlt hb HWS.out (by have := HWS.out; omega) hW oi ox)
         have HLESS : Hid (∀ W', kBlob (l[k]'hlt).kind = false → Kept [] wr W' → StepsAt w W' l (k + 1) qs) := Lib.hid (fun W' hb kk => hst.less hlt hb kk)
         clear hrow hst hK hk hql hfit
         generalize hX : l[k]'hlt = X at *
         clear hX hlt
         obtain ⟨xk, xi, xn, xb⟩ := X
         simp only at *
         obtain ⟨z0, z1, z2, z3⟩ := o2.c4
         have z4 := o1.cell 0 (by simp)
         simp only [List.getElem_toArray, List.getElem_cons_zero] at z4
         have HO1 := Lib.hid o1
         have HO2 := Lib.hid o2
         have HK2' := Lib.hid k2
         clear o1 o2 k2
         go_wp2_with fail
         refine (HCO.out _).mono ?_; rintro e w8 ⟨rfl, rfl⟩
         cases hkb : kBlob xk
         ·have HL1 := Lib.hid (HLESS.out _ hkb HK2'.out)
          have HR1 := Lib.hid (World.ownsRow.alloc (World.ownsRow.alloc HROW.out (.cells #[.int .i64 (k : Int)] 3)) (.cells #[.int .i64 xk, .int .u32 xi, .string (bs xn), .string (bs xb)] 34))
          clear hkb
          go_wp2_with fail
          go_roundw
          case rel => exact ⟨k + 1, qs, HLT.out, by go_num, HR1.out, HL1.out, HKA.out.trans HK2'.out⟩
          case measure => (have hh := HLT.out; simp [intOf] <;> omega)
         ·have HKB := Lib.hid hkb
          obtain ⟨i0, q0, q1, q2, q3⟩ := infoFn
          have m3 : qs.length + 1 ≤ maxLen := by have := HQL.out; have := HLT.out; unfold maxLen; omega
          have m4 : (qs.length + 1) * 8 ≤ 140737488355328 := by have := HQL.out; have := HLT.out; omega
          have hrow2 := World.ownsRow.alloc (World.ownsRow.alloc HROW.out (.cells #[.int .i64 (k : Int)] 3)) (.cells #[.int .i64 xk, .int .u32 xi, .string (bs xn), .string (bs xb)] 34)
          have HROW2 := Lib.hid hrow2
          clear hkb hrow2
          have hszw : w7.heap.size ≤ ((wr.alloc (.cells #[.int .i64 (k : Int)] 3)).alloc (.cells #[.int .i64 xk, .int .u32 xi, .string (bs xn), .string (bs xb)] 34)).heap.size := Nat.le_trans HKA.out.size HK2'.out.size
          generalize hw9 : ((wr.alloc (.cells #[.int .i64 (k : Int)] 3)).alloc (.cells #[.int .i64 xk, .int .u32 xi, .string (bs xn), .string (bs xb)] 34)) = w9 at *
          clear hw9
          go_wp2_with (at_builtin; go_must (refine wpList_append_own_at _ rfl (.tmp 67) (.tmp 69) 98 rfl w7.heap.size 42 i0 .nilFunc 1 8 Tryz.underlying98 q0 q1 q2 q3 rfl (by decide) _ _ _ rfl (World.ownsRow.alloc HROW2.out _) ⟨w9.heap.size, 0, none⟩ 1 1 [.func (.func 48) #[] #[.pointer (some ⟨w.heap.size, 0, none⟩), .pointer (some ⟨gr, 0, none⟩), .pointer (some ⟨wr.heap.size, 0, none⟩), .pointer (some ⟨wr.heap.size + 1, 0, none⟩)]] rfl rfl ?_ ?_ m3 m4 ?_ ?_))
          ·exact news_alloc _ _ _
          ·intro u hu; simp at hu; subst hu; rfl
          ·simp <;> omega
          intro v6 w10 o6 gr6 _ _
          have hrow9 := World.ownsRow.alloc HROW2.out (.cells #[.func (.func 48) #[] #[.pointer (some ⟨w.heap.size, 0, none⟩), .pointer (some ⟨gr, 0, none⟩), .pointer (some ⟨wr.heap.size, 0, none⟩), .pointer (some ⟨wr.heap.size + 1, 0, none⟩)]] 42)
          have hk10 : Kept [] w7 w10 := ((HKA.out.trans HK2'.out).alloc _).grown gr6 (fun q hq => Or.inr (World.ownsRow.lt hrow9 q hq).1)
          have hW9 : ∀ g cs t, Own w9 g cs t → (t = 3 ∨ t = 34) → Own w10 g cs t := fun g cs t og ht => (gr6.block g (og.alloc _).lt (fun e => own_row_ne hrow9 (og.alloc _) (by rcases ht with rfl | rfl <;> decide) e.symm)).trans (og.alloc _)
          have hst10 := HMORE.out w10 HKB.out (fun g cs t og ht => hW9 g cs t (HK2'.out.own og (by simp)) ht) (hW9 _ _ _ HO1.out (Or.inl rfl)) (hW9 _ _ _ HO2.out (Or.inr rfl))
          have HST10 := Lib.hid hst10
          have HK10 := Lib.hid hk10
          have HROW10 := Lib.hid o6
          clear hrow9 hk10 hW9 hst10 o6 gr6
          go_wp2_with fail
          go_roundw
          case rel => exact ⟨k + 1, _, HLT.out, by go_num, by rw [List.length_append, List.map_append, List.map_append, List.map_map]; exact HROW10.out, HST10.out, HK10.out⟩
          case measure => (have hh := HLT.out; simp [intOf] <;> omega)
        ·obtain rfl : k = l.length := by omega
         have i1 : ¬ ((l.length : Nat) : Int) < l.length := by omega
         have HKA := Lib.hid hK
         have HROW := Lib.hid hrow
         have HQL := Lib.hid hst.qlen
         have HCTX : Hid (∀ W, Kept [] w7 W → StepsAt w W l l.length qs → StepsCtx T w W B b sb mb lo w.heap.size gr v l P.1 qs) := Lib.hid (fun W k hs => ⟨HV.out, ((HK1.out.trans HK4.out).trans HK7.out).trans k, ⟨Nat.le_refl _, ((HK4.out.trans HK7.out).trans k).own HGV.out (by simp)⟩, ⟨_, HGRS.out, (HK7.out.trans k).own HGR.out (by simp), (HRC.out.base (HK1.out.trans HK2.out).size).kept0 (HK7.out.trans k)⟩, hs, HPLEN.out, HPR.out, by have := HNUM.out.2.2.2.1; omega, fun x hx => (HFT.out x hx).2.2.2⟩)
         have HST := Lib.hid hst
         have hS23 : ∀ W, Kept [] w7 W → W.cell? ⟨w.heap.size, 0, none⟩ = some (.pointer (some ⟨B, 0, none⟩)) ∧ W.cell? ⟨B, 0, none⟩ = some (.pointer (some ⟨b, 0, none⟩)) ∧ W.cell? ⟨B, 3, none⟩ = some (.int .i64 v.s.journal) ∧ W.cell? ⟨B, 4, none⟩ = some (.int .i64 v.s.used) ∧ W.cell? ⟨gc, 0, none⟩ = some (.int .u32 AP.1.nextBox) ∧ W.cell? ⟨gc, 1, none⟩ = some (.int .u32 AP.1.nextMan) ∧ W.cell? ⟨gc, 2, none⟩ = some (.slice r1 m1 d1) ∧ W.cell? ⟨gc, 3, none⟩ = some (.slice r2 m2 d2) ∧ W.cell? ⟨gc, 4, none⟩ = some (.slice r3 m3 d3) := fun W k => by
          obtain ⟨a0, _, _, a3, a4, _⟩ := (HO.out W (((HK1.out.trans HK4.out).trans HK7.out).trans k)).c13
          obtain ⟨e0, e1, e2, e3, e4⟩ := (k.own HGCAT7.out (by simp)).k5
          exact ⟨HGC.out W ((HK4.out.trans HK7.out).trans k), a0, a3, a4, e0, e1, e2, e3, e4⟩
         have HS23 := Lib.hid hS23
         obtain ⟨y0, y1, y2, y3, y4, y5, y6, y7, y8⟩ := hS23 wr HKA.out
         have hj1 : 1 ≤ v.s.journal := by have := HSM.out; unfold SB.numOk at this; omega
         have hj2 : v.s.journal ≤ 30 := HNUM.out.2.2.2.2.2
         have hu1 : 0 ≤ v.s.used := by have := HSM.out; unfold SB.numOk at this; omega
         have hu2 : v.s.used ≤ v.s.journal * 128 := by have := HSM.out; unfold SB.numOk at this; omega
         have hsz : (bs TXO).size = TXO.length := bs_size TXO
         clear hK hrow hst hS23
         go_upto_region 23 with fail
         refine wp_region_held_drew (S := (fun W => W.cell? ⟨w.heap.size, 0, none⟩ = some (.pointer (some ⟨B, 0, none⟩)) ∧ W.cell? ⟨B, 0, none⟩ = some (.pointer (some ⟨b, 0, none⟩)) ∧ W.cell? ⟨B, 3, none⟩ = some (.int .i64 v.s.journal) ∧ W.cell? ⟨B, 4, none⟩ = some (.int .i64 v.s.used) ∧ W.cell? ⟨gc, 0, none⟩ = some (.int .u32 AP.1.nextBox) ∧ W.cell? ⟨gc, 1, none⟩ = some (.int .u32 AP.1.nextMan) ∧ W.cell? ⟨gc, 2, none⟩ = some (.slice r1 m1 d1) ∧ W.cell? ⟨gc, 3, none⟩ = some (.slice r2 m2 d2) ∧ W.cell? ⟨gc, 4, none⟩ = some (.slice r3 m3 d3))) (by kernel_rfl) (by exact HS23.out _ (HKA.out.drew)) (fun hHeld => ?_)
         refine take_at (i := 0) (d := some 72) (v := ?_) rfl rfl (by kernel_rfl) (by kernel_rfl) (by kernel_rfl) (fun _ _ _ h => h) (Or.inl ⟨by rfl, ?_⟩) (by assumption) ?_
         rotate_left
         ·(intro w hSw; (try dsimp only at hSw); go_simp; try with_reducible rfl)
         try simp only [Act.put, List.setIfInBounds_toArray, List.set_cons_zero, List.set_cons_succ]
         refine take_at (i := 1) (d := some 73) (v := ?_) rfl rfl (by kernel_rfl) (by kernel_rfl) (by kernel_rfl) (fun _ _ _ h => h) (Or.inl ⟨by rfl, ?_⟩) (by assumption) ?_
         rotate_left
         ·(intro w hSw; (try dsimp only at hSw); go_simp; try with_reducible rfl)
         try simp only [Act.put, List.setIfInBounds_toArray, List.set_cons_zero, List.set_cons_succ]
         refine take_at (i := 2) (d := some 74) (v := ?_) rfl rfl (by kernel_rfl) (by kernel_rfl) (by kernel_rfl) (fun _ _ _ h => h) (Or.inl ⟨by rfl, ?_⟩) (by assumption) ?_
         rotate_left
         ·(intro w hSw; (try dsimp only at hSw); go_simp; try with_reducible rfl)
         try simp only [Act.put, List.setIfInBounds_toArray, List.set_cons_zero, List.set_cons_succ]
         refine take_at (i := 3) (d := some 75) (v := ?_) rfl rfl (by kernel_rfl) (by kernel_rfl) (by kernel_rfl) (fun _ _ _ h => h) (Or.inl ⟨by rfl, ?_⟩) (by assumption) ?_
         rotate_left
         ·(intro w hSw; (try dsimp only at hSw); go_simp; try with_reducible rfl)
         try simp only [Act.put, List.setIfInBounds_toArray, List.set_cons_zero, List.set_cons_succ]
         refine take_at (i := 4) (d := some 76) (v := ?_) rfl rfl (by kernel_rfl) (by kernel_rfl) (by kernel_rfl) (fun _ _ _ h => h) (Or.inl ⟨by rfl, ?_⟩) (by assumption) ?_
         rotate_left
         ·(intro w hSw; (try dsimp only at hSw); go_simp; try with_reducible rfl)
         try simp only [Act.put, List.setIfInBounds_toArray, List.set_cons_zero, List.set_cons_succ]
         refine take_at (i := 5) (d := some 77) (v := ?_) rfl rfl (by kernel_rfl) (by kernel_rfl) (by kernel_rfl) (fun _ _ _ h => h) (Or.inl ⟨by rfl, ?_⟩) (by assumption) ?_
         rotate_left
         ·(intro w hSw; (try dsimp only at hSw); go_simp; try with_reducible rfl)
         try simp only [Act.put, List.setIfInBounds_toArray, List.set_cons_zero, List.set_cons_succ]
         refine take_at (i := 6) (d := some 78) (v := ?_) rfl rfl (by kernel_rfl) (by kernel_rfl) (by kernel_rfl) (fun _ _ _ h => h) (Or.inl ⟨by rfl, ?_⟩) (by assumption) ?_
         rotate_left
         ·(intro w hSw; (try dsimp only at hSw); go_simp; try with_reducible rfl)
         try simp only [Act.put, List.setIfInBounds_toArray, List.set_cons_zero, List.set_cons_succ]
         refine take_at (i := 7) (d := some 79) (v := ?_) rfl rfl (by kernel_rfl) (by kernel_rfl) (by kernel_rfl) (fun _ _ _ h => h) (Or.inl ⟨by rfl, ?_⟩) (by assumption) ?_
         rotate_left
         ·(intro w hSw; (try dsimp only at hSw); go_simp; try with_reducible rfl)
         try simp only [Act.put, List.setIfInBounds_toArray, List.set_cons_zero, List.set_cons_succ]
         refine take_at (i := 8) (d := some 80) (v := ?_) rfl rfl (by kernel_rfl) (by kernel_rfl) (by kernel_rfl) (fun _ _ _ h => h) (Or.inl ⟨by rfl, ?_⟩) (by assumption) ?_
         rotate_left
         ·(intro w hSw; (try dsimp only at hSw); go_simp; try with_reducible rfl)
         try simp only [Act.put, List.setIfInBounds_toArray, List.set_cons_zero, List.set_cons_succ]
         refine take_at (i := 9) (d := some 81) (v := ?_) rfl rfl (by kernel_rfl) (by kernel_rfl) (by kernel_rfl) (fun _ _ _ h => h) (Or.inl ⟨by rfl, ?_⟩) (by assumption) ?_
         rotate_left
         ·(intro w hSw; (try dsimp only at hSw); go_simp; try with_reducible rfl)
         try simp only [Act.put, List.setIfInBounds_toArray, List.set_cons_zero, List.set_cons_succ]
         refine take_at (i := 10) (d := some 82) (v := ?_) rfl rfl (by kernel_rfl) (by kernel_rfl) (by kernel_rfl) (fun _ _ _ h => h) (Or.inl ⟨by rfl, ?_⟩) (by assumption) ?_
         rotate_left
         ·(intro w hSw; (try dsimp only at hSw); go_simp; try with_reducible rfl)
         try simp only [Act.put, List.setIfInBounds_toArray, List.set_cons_zero, List.set_cons_succ]
         refine take_at (i := 11) (d := some 83) (v := ?_) rfl rfl (by kernel_rfl) (by kernel_rfl) (by kernel_rfl) (fun _ _ _ h => h) (Or.inl ⟨by rfl, ?_⟩) (by assumption) ?_
         rotate_left
         ·(intro w hSw; (try dsimp only at hSw); go_simp; try with_reducible rfl)
         try simp only [Act.put, List.setIfInBounds_toArray, List.set_cons_zero, List.set_cons_succ]
         refine take_at (i := 12) (d := some 84) (v := ?_) rfl rfl (by kernel_rfl) (by kernel_rfl) (by kernel_rfl) (fun _ _ _ h => h) (Or.inl ⟨by rfl, ?_⟩) (by assumption) ?_
         rotate_left
         ·(intro w hSw; (try dsimp only at hSw); go_simp; try with_reducible rfl)
         try simp only [Act.put, List.setIfInBounds_toArray, List.set_cons_zero, List.set_cons_succ]
         refine take_at (i := 13) (d := some 85) (v := ?_) rfl rfl (by kernel_rfl) (by kernel_rfl) (by kernel_rfl) (fun _ _ _ h => h) (Or.inl ⟨by rfl, ?_⟩) (by assumption) ?_
         rotate_left
         ·(intro w hSw; (try dsimp only at hSw); go_simp; try with_reducible rfl)
         try simp only [Act.put, List.setIfInBounds_toArray, List.set_cons_zero, List.set_cons_succ]
         refine take_at (i := 14) (d := some 86) (v := ?_) rfl rfl (by kernel_rfl) (by kernel_rfl) (by kernel_rfl) (fun _ _ _ h => h) (Or.inl ⟨by rfl, ?_⟩) (by assumption) ?_
         rotate_left
         ·(intro w hSw; (try dsimp only at hSw); go_simp; try with_reducible rfl)
         try simp only [Act.put, List.setIfInBounds_toArray, List.set_cons_zero, List.set_cons_succ]
         refine wpAnyH_done (by kernel_rfl) ?_ _
         try simp only [List.set_cons_succ, List.set_cons_zero]
         have kd : Kept [] w7 wr.drew := HKA.out.drew
         have hrd : wr.drew.ownsRow w7.heap.size 42 1 (.slice pS qs.length cS) qs.length ((qs.map (sqU w.heap.size gr)).map fnV) := ownsRow_kept HROW.out ((Kept.refl [] wr).drew) (fun x hx => by cases hx)
         have hsd : StepsAt w wr.drew l l.length qs := HST.out.kept ((Kept.refl [] wr).drew)
         have hq900 : v.s.seq ≤ 1000000 := by have := HNUM.out.2.2.2.2.1; omega
         generalize wr.drew = wd at *
         have HKD := Lib.hid kd
         have HRD := Lib.hid hrd
         have HSD := Lib.hid hsd
         have HQ9 := Lib.hid hq900
         clear kd hrd hsd hq900 HROW HST y0 y1 y2 y3 y4 y5 y6 y7 y8 hHeld
         obtain ⟨y0, y1, y2, y3, y4, y5, y6, y7, y8⟩ := HS23.out wd HKD.out
         have HWRP : Hid (IntKind.i64.wrap (IntKind.i64.wrap (v.s.journal * 128) - v.s.used) = v.s.journal * 128 - v.s.used) := Lib.hid (by rw [IntWalk.i64_in (v.s.journal * 128) (by omega), IntWalk.i64_in _ (by omega)])
         by_cases h5 : (TXO.length : Int) ≤ v.s.journal * 128 - v.s.used
         case pos =>
          have HX := Lib.hid (changeX_append (l := l) HD.out HWX.out (by rw [HRM.out]; exact HOK.out) (by rw [HRM.out, HP.out, HAP.out]; exact HAP0.out) (by rw [HRM.out, HP.out]; exact HTXC.out) (by rw [HRM.out, HP.out, HTXO.out]; exact h5))
          rw [HRM.out, HP.out, HAP.out, HTXO.out] at HX
          have HAF : Hid (∀ W, Calls Tryz.prog 50 #[.pointer (some ⟨B, 0, none⟩), .agg #[.int .u32 AP.1.nextBox, .int .u32 AP.1.nextMan, .slice r1 m1 d1, .slice r2 m2 d2, .slice r3 m3 d3], .string (bs TXO)] W fun e w' => e = .returned (.func (.func 107) #[] #[.pointer (some ⟨W.heap.size, 0, none⟩), .pointer (some ⟨W.heap.size + 2, 0, none⟩), .pointer (some ⟨W.heap.size + 1, 0, none⟩)]) ∧ ((W.alloc (.cells #[.pointer (some ⟨B, 0, none⟩)] 27)).alloc (.cells #[.int .u32 AP.1.nextBox, .int .u32 AP.1.nextMan, .slice r1 m1 d1, .slice r2 m2 d2, .slice r3 m3 d3] 52)).alloc (.cells #[.string (bs TXO)] 9) = w') := Lib.hid (fun W => uappendf B _ _ _ _ _ TXO W)
          have HTL : Hid (TXO.length ≤ 4000) := Lib.hid (by omega)
          have h5w : (TXO.length : Int) ≤ IntKind.i64.wrap (IntKind.i64.wrap (v.s.journal * 128) - v.s.used) := by rw [HWRP.out]; exact h5
          have HSZX := Lib.hid hsz
          clear hj1 hj2 hu1 hu2 hsz
          go_upto_region 24 with fail
          clear h5w
          refine wp_region_held_drew (S := (fun W => W.cell? ⟨w.heap.size, 0, none⟩ = some (.pointer (some ⟨B, 0, none⟩)) ∧ W.cell? ⟨B, 0, none⟩ = some (.pointer (some ⟨b, 0, none⟩)) ∧ W.cell? ⟨B, 3, none⟩ = some (.int .i64 v.s.journal) ∧ W.cell? ⟨B, 4, none⟩ = some (.int .i64 v.s.used) ∧ W.cell? ⟨gc, 0, none⟩ = some (.int .u32 AP.1.nextBox) ∧ W.cell? ⟨gc, 1, none⟩ = some (.int .u32 AP.1.nextMan) ∧ W.cell? ⟨gc, 2, none⟩ = some (.slice r1 m1 d1) ∧ W.cell? ⟨gc, 3, none⟩ = some (.slice r2 m2 d2) ∧ W.cell? ⟨gc, 4, none⟩ = some (.slice r3 m3 d3))) (by kernel_rfl) (by exact HS23.out _ (HKD.out.drew)) (fun hHeld => ?_)
          refine take_at (i := 0) (d := some 87) (v := ?_) rfl rfl (by kernel_rfl) (by kernel_rfl) (by kernel_rfl) (fun _ _ _ h => h) (Or.inl ⟨by rfl, ?_⟩) (by assumption) ?_
          rotate_left
          ·(intro w hSw; (try dsimp only at hSw); go_simp; try with_reducible rfl)
          try simp only [Act.put, List.setIfInBounds_toArray, List.set_cons_zero, List.set_cons_succ]
          refine take_at (i := 1) (d := some 88) (v := ?_) rfl rfl (by kernel_rfl) (by kernel_rfl) (by kernel_rfl) (fun _ _ _ h => h) (Or.inl ⟨by rfl, ?_⟩) (by assumption) ?_
          rotate_left
          ·(intro w hSw; (try dsimp only at hSw); go_simp; try with_reducible rfl)
          try simp only [Act.put, List.setIfInBounds_toArray, List.set_cons_zero, List.set_cons_succ]
          refine take_at (i := 2) (d := some 89) (v := ?_) rfl rfl (by kernel_rfl) (by kernel_rfl) (by kernel_rfl) (fun _ _ _ h => h) (Or.inl ⟨by rfl, ?_⟩) (by assumption) ?_
          rotate_left
          ·(intro w hSw; (try dsimp only at hSw); go_simp; try with_reducible rfl)
          try simp only [Act.put, List.setIfInBounds_toArray, List.set_cons_zero, List.set_cons_succ]
          refine take_at (i := 3) (d := some 90) (v := ?_) rfl rfl (by kernel_rfl) (by kernel_rfl) (by kernel_rfl) (fun _ _ _ h => h) (Or.inl ⟨by rfl, ?_⟩) (by assumption) ?_
          rotate_left
          ·(intro w hSw; (try dsimp only at hSw); go_simp; try with_reducible rfl)
          try simp only [Act.put, List.setIfInBounds_toArray, List.set_cons_zero, List.set_cons_succ]
          refine take_at (i := 4) (d := some 91) (v := ?_) rfl rfl (by kernel_rfl) (by kernel_rfl) (by kernel_rfl) (fun _ _ _ h => h) (Or.inl ⟨by rfl, ?_⟩) (by assumption) ?_
          rotate_left
          ·(intro w hSw; (try dsimp only at hSw); go_simp; try with_reducible rfl)
          try simp only [Act.put, List.setIfInBounds_toArray, List.set_cons_zero, List.set_cons_succ]
          refine take_at (i := 5) (d := some 92) (v := ?_) rfl rfl (by kernel_rfl) (by kernel_rfl) (by kernel_rfl) (fun _ _ _ h => h) (Or.inl ⟨by rfl, ?_⟩) (by assumption) ?_
          rotate_left
          ·(intro w hSw; (try dsimp only at hSw); go_simp; try with_reducible rfl)
          try simp only [Act.put, List.setIfInBounds_toArray, List.set_cons_zero, List.set_cons_succ]
          refine take_at (i := 6) (d := some 93) (v := ?_) rfl rfl (by kernel_rfl) (by kernel_rfl) (by kernel_rfl) (fun _ _ _ h => h) (Or.inl ⟨by rfl, ?_⟩) (by assumption) ?_
          rotate_left
          ·(intro w hSw; (try dsimp only at hSw); go_simp; try with_reducible rfl)
          try simp only [Act.put, List.setIfInBounds_toArray, List.set_cons_zero, List.set_cons_succ]
          refine take_at (i := 7) (d := some 94) (v := ?_) rfl rfl (by kernel_rfl) (by kernel_rfl) (by kernel_rfl) (fun _ _ _ h => h) (Or.inl ⟨by rfl, ?_⟩) (by assumption) ?_
          rotate_left
          ·(intro w hSw; (try dsimp only at hSw); go_simp; try with_reducible rfl)
          try simp only [Act.put, List.setIfInBounds_toArray, List.set_cons_zero, List.set_cons_succ]
          refine take_at (i := 8) (d := some 95) (v := ?_) rfl rfl (by kernel_rfl) (by kernel_rfl) (by kernel_rfl) (fun _ _ _ h => h) (Or.inl ⟨by rfl, ?_⟩) (by assumption) ?_
          rotate_left
          ·(intro w hSw; (try dsimp only at hSw); go_simp; try with_reducible rfl)
          try simp only [Act.put, List.setIfInBounds_toArray, List.set_cons_zero, List.set_cons_succ]
          refine wpAnyH_ready (rs := [9]) (by kernel_rfl) (by simp) ?_
          refine (AllReadyH.cons rfl (fun K hK => ?_) AllReadyH.nil)
          go_simp
          ((with_reducible refine (HAF.out _).mono ?_)); rintro e w8 ⟨rfl, rfl⟩
          go_wp2_with fail
          refine hK.out _ _ ?_ (fun hHeld => ?_)
          ·exact HS23.out _ ((((HKD.out.alloc (.cells #[.pointer (some ⟨B, 0, none⟩)] 27)).alloc (.cells #[.int .u32 AP.1.nextBox, .int .u32 AP.1.nextMan, .slice r1 m1 d1, .slice r2 m2 d2, .slice r3 m3 d3] 52)).alloc (.cells #[.string (bs TXO)] 9)).drew)
          clear hK K
          try simp only [Act.put, List.setIfInBounds_toArray, List.set_cons_zero, List.set_cons_succ]
          refine wpAnyH_ready (rs := [10]) (by kernel_rfl) (by simp) ?_
          refine (AllReadyH.cons rfl (fun K hK => ?_) AllReadyH.nil)
          go_simp
          refine hK.out _ _ ?_ (fun hHeld => ?_)
          ·exact HS23.out _ (((((HKD.out.alloc (.cells #[.pointer (some ⟨B, 0, none⟩)] 27)).alloc (.cells #[.int .u32 AP.1.nextBox, .int .u32 AP.1.nextMan, .slice r1 m1 d1, .slice r2 m2 d2, .slice r3 m3 d3] 52)).alloc (.cells #[.string (bs TXO)] 9)).alloc (.cells #[.func (.func 39) #[.pointer (some ⟨b, 0, none⟩)] #[], .func (.func 107) #[] #[.pointer (some ⟨wd.heap.size, 0, none⟩), .pointer (some ⟨wd.heap.size + 2, 0, none⟩), .pointer (some ⟨wd.heap.size + 1, 0, none⟩)]] 42)).drew)
          clear hK K
          try simp only [Act.put, List.setIfInBounds_toArray, List.set_cons_zero, List.set_cons_succ]
          obtain ⟨o1, o2, o3, o4⟩ := own_four wd #[.pointer (some ⟨B, 0, none⟩)] #[.int .u32 AP.1.nextBox, .int .u32 AP.1.nextMan, .slice r1 m1 d1, .slice r2 m2 d2, .slice r3 m3 d3] #[.string (bs TXO)] #[.func (.func 39) #[.pointer (some ⟨b, 0, none⟩)] #[], .func (.func 107) #[] #[.pointer (some ⟨wd.heap.size, 0, none⟩), .pointer (some ⟨wd.heap.size + 2, 0, none⟩), .pointer (some ⟨wd.heap.size + 1, 0, none⟩)]] 27 52 9 42
          have hrow10 : ((((wd.alloc (.cells #[.pointer (some ⟨B, 0, none⟩)] 27)).alloc (.cells #[.int .u32 AP.1.nextBox, .int .u32 AP.1.nextMan, .slice r1 m1 d1, .slice r2 m2 d2, .slice r3 m3 d3] 52)).alloc (.cells #[.string (bs TXO)] 9)).alloc (.cells #[.func (.func 39) #[.pointer (some ⟨b, 0, none⟩)] #[], .func (.func 107) #[] #[.pointer (some ⟨wd.heap.size, 0, none⟩), .pointer (some ⟨wd.heap.size + 2, 0, none⟩), .pointer (some ⟨wd.heap.size + 1, 0, none⟩)]] 42)).drew.ownsRow w7.heap.size 42 1 (.slice pS qs.length cS) qs.length ((qs.map (sqU w.heap.size gr)).map fnV) := ownsRow_kept HRD.out ((((((Kept.refl [] wd).alloc (.cells #[.pointer (some ⟨B, 0, none⟩)] 27)).alloc (.cells #[.int .u32 AP.1.nextBox, .int .u32 AP.1.nextMan, .slice r1 m1 d1, .slice r2 m2 d2, .slice r3 m3 d3] 52)).alloc (.cells #[.string (bs TXO)] 9)).alloc (.cells #[.func (.func 39) #[.pointer (some ⟨b, 0, none⟩)] #[], .func (.func 107) #[] #[.pointer (some ⟨wd.heap.size, 0, none⟩), .pointer (some ⟨wd.heap.size + 2, 0, none⟩), .pointer (some ⟨wd.heap.size + 1, 0, none⟩)]] 42)).drew) (fun x hx => by cases hx)
          have k10 : Kept [] wd ((((wd.alloc (.cells #[.pointer (some ⟨B, 0, none⟩)] 27)).alloc (.cells #[.int .u32 AP.1.nextBox, .int .u32 AP.1.nextMan, .slice r1 m1 d1, .slice r2 m2 d2, .slice r3 m3 d3] 52)).alloc (.cells #[.string (bs TXO)] 9)).alloc (.cells #[.func (.func 39) #[.pointer (some ⟨b, 0, none⟩)] #[], .func (.func 107) #[] #[.pointer (some ⟨wd.heap.size, 0, none⟩), .pointer (some ⟨wd.heap.size + 2, 0, none⟩), .pointer (some ⟨wd.heap.size + 1, 0, none⟩)]] 42)).drew := (((((Kept.refl [] wd).alloc (.cells #[.pointer (some ⟨B, 0, none⟩)] 27)).alloc (.cells #[.int .u32 AP.1.nextBox, .int .u32 AP.1.nextMan, .slice r1 m1 d1, .slice r2 m2 d2, .slice r3 m3 d3] 52)).alloc (.cells #[.string (bs TXO)] 9)).alloc (.cells #[.func (.func 39) #[.pointer (some ⟨b, 0, none⟩)] #[], .func (.func 107) #[] #[.pointer (some ⟨wd.heap.size, 0, none⟩), .pointer (some ⟨wd.heap.size + 2, 0, none⟩), .pointer (some ⟨wd.heap.size + 1, 0, none⟩)]] 42)).drew
          have o1d := o1.drew
          have o2d := o2.drew
          have o3d := o3.drew
          have o4d := o4.drew
          clear o1 o2 o3 o4
          generalize ((((wd.alloc (.cells #[.pointer (some ⟨B, 0, none⟩)] 27)).alloc (.cells #[.int .u32 AP.1.nextBox, .int .u32 AP.1.nextMan, .slice r1 m1 d1, .slice r2 m2 d2, .slice r3 m3 d3] 52)).alloc (.cells #[.string (bs TXO)] 9)).alloc (.cells #[.func (.func 39) #[.pointer (some ⟨b, 0, none⟩)] #[], .func (.func 107) #[] #[.pointer (some ⟨wd.heap.size, 0, none⟩), .pointer (some ⟨wd.heap.size + 2, 0, none⟩), .pointer (some ⟨wd.heap.size + 1, 0, none⟩)]] 42)).drew = w10 at *
          obtain ⟨i0, q0, q1, q2, q3⟩ := infoFn
          have hbase : w7.heap.size ≤ w10.heap.size := Nat.le_trans HKD.out.size k10.size
          obtain ⟨v5, w11, hrun, hrow11, hgr, _, _⟩ := run_append_own_at (P := Tryz.prog) w10 w7.heap.size 98 98 42 i0 .nilFunc 1 8 Tryz.underlying98 q0 q1 q2 q3 rfl (by decide) _ qs.length _ hrow10 ⟨wd.heap.size + 3, 0, none⟩ 2 2 [.func (.func 39) #[.pointer (some ⟨b, 0, none⟩)] #[], .func (.func 107) #[] #[.pointer (some ⟨wd.heap.size, 0, none⟩), .pointer (some ⟨wd.heap.size + 2, 0, none⟩), .pointer (some ⟨wd.heap.size + 1, 0, none⟩)]] rfl (news_own o4d) (by intro u hu; simp at hu; rcases hu with rfl | rfl <;> rfl) (by have := HQL.out; have := HNUM.out.2.2.2.1; unfold maxLen; omega) (by have := HQL.out; have := HNUM.out.2.2.2.1; omega) hbase
          have hW11 : ∀ g cs t, Own w10 g cs t → 42 ≠ t → Own w11 g cs t := fun g cs t og hne => (hgr.block g og.lt (fun e => own_row_ne hrow10 og hne e.symm)).trans og
          have k711 : Kept [] w7 w11 := (HKD.out.trans k10).grown hgr (fun q hq => Or.inr (World.ownsRow.lt hrow10 q hq).1)
          have hst11 : StepsAt w w11 l l.length qs := ⟨HSD.out.idx, fun q hq => by
           obtain ⟨a1, a2, a3, a4⟩ := HSD.out.own q hq
           exact ⟨a1, a2, hW11 _ _ _ (k10.own a3 (by simp)) (by decide), hW11 _ _ _ (k10.own a4 (by simp)) (by decide)⟩⟩
          have hszw : w.heap.size ≤ wd.heap.size := (((HK1.out.trans HK4.out).trans HK7.out).trans HKD.out).size
          have hcat11 := HCATO7.out.kept0 k711 (Nat.lt_of_lt_of_le HV.out.b_lt ((HK1.out.trans HK4.out).trans HK7.out).size)
          have k011 : Kept [] w w11 := ((HK1.out.trans HK4.out).trans HK7.out).trans k711
          obtain ⟨p5, c5, rfl⟩ := own_shape hrow11
          have HALL : Hid (∀ W, Kept [] w11 W → Calls Tryz.prog 37 #[.slice p5 (qs.length + 2) c5] W fun e w' => e = .returned (.int .i64 (chainV (putsX l P.1 ++ [onD stepF, appendX AP.1 TXO]) v).2) ∧ VolAt T w' B b sb mb lo (chainV (putsX l P.1 ++ [onD stepF, appendX AP.1 TXO]) v).1 ∧ PK [B] b sb mb W w') := Lib.hid (fun W k => uallA (HCTX.out W (k711.trans k) (hst11.kept k)) AP.1 _ _ _ TXO wd.heap.size (wd.heap.size + 2) (wd.heap.size + 1) _ (ownsRow_base (ownsRow_kept hrow11 k (fun x hx => by cases hx)) ((HK1.out.trans HK4.out).trans HK7.out).size) hszw (by omega) (by omega) (k.own (hW11 _ _ _ o1d (by decide)) (by simp)) (k.own (hW11 _ _ _ o3d (by decide)) (by simp)) (k.own (hW11 _ _ _ o2d (by decide)) (by simp)) (hcat11.kept0 k (Nat.lt_of_lt_of_le HV.out.b_lt k011.size)) HM.out HQ9.out HTL.out HNUM.out.1 HNUM.out.2.1 HNUM.out.2.2.1 HV.out.da.len.1 HNUM.out.2.2.2.1)
          have HRUN := Lib.hid hrun
          have K711 := Lib.hid k711
          have K011 := Lib.hid k011
          have HGV11 : Hid (∀ W, PK [B] b sb mb w11 W → W.cell? ⟨w.heap.size, 0, none⟩ = some (.pointer (some ⟨B, 0, none⟩))) := Lib.hid (fun W k => (k.own (((HK4.out.trans HK7.out).trans k711).own HGV.out (by simp)) ((HV.out.da.off_new HV.out.hT k011 (Nat.le_refl _)).toB HV.out.hB)).cell 0 (by simp))
          have HB11 : Hid (b < w11.heap.size) := Lib.hid (Nat.lt_of_lt_of_le HV.out.b_lt k011.size)
          clear hrun hrow11 hgr hW11 k711 hst11 hszw hcat11 k011 hrow10 k10 hbase o1d o2d o3d o4d
          refine wpAnyH_ready (rs := [11]) (by kernel_rfl) (by simp) ?_
          refine (AllReadyH.cons rfl (fun K hK => ?_) AllReadyH.nil)
          refine step_append_runJ rfl _ _ 98 98 rfl _ _ (by simp [Act.eval, Act.put]) (by simp [Act.eval, Act.put]) HRUN.out ?_
          refine hK.out _ _ ?_ (fun hHeld => ?_)
          ·exact HS23.out _ K711.out
          clear hK K
          try simp only [Act.put, List.setIfInBounds_toArray, List.set_cons_zero, List.set_cons_succ]
          refine take_at (i := 12) (d := some 12) (v := ?_) rfl rfl (by kernel_rfl) (by kernel_rfl) (by kernel_rfl) (fun _ _ _ h => h) (Or.inl ⟨by rfl, ?_⟩) (by assumption) ?_
          rotate_left
          ·(intro w hSw; (try dsimp only at hSw); go_simp; try with_reducible rfl)
          try simp only [Act.put, List.setIfInBounds_toArray, List.set_cons_zero, List.set_cons_succ]
          refine wpAnyH_done (by kernel_rfl) ?_ _
          try simp only [List.set_cons_succ, List.set_cons_zero]
          clear y0 y1 y2 y3 y4 y5 y6 y7 y8
          generalize chainV (putsX l P.1 ++ [onD stepF, appendX AP.1 TXO]) v = CH at *
          have y0 := HGV11.out w11 (PK.refl _ _ _ _ _)
          go_upto_region 25 with fail
          refine wp_region_held_drew (S := (fun W => W.cell? ⟨w.heap.size, 0, none⟩ = some (.pointer (some ⟨B, 0, none⟩)))) (by kernel_rfl) (by exact HGV11.out _ ((Kept.refl [] w11).drew.pk0 HB11.out)) (fun hHeld => ?_)
          refine take_at (i := 0) (d := some 99) (v := ?_) rfl rfl (by kernel_rfl) (by kernel_rfl) (by kernel_rfl) (fun _ _ _ h => h) (Or.inl ⟨by rfl, ?_⟩) (by assumption) ?_
          rotate_left
          ·(intro w hSw; (try dsimp only at hSw); go_simp; try with_reducible rfl)
          try simp only [Act.put, List.setIfInBounds_toArray, List.set_cons_zero, List.set_cons_succ]
          refine take_at (i := 1) (d := some 100) (v := ?_) rfl rfl (by kernel_rfl) (by kernel_rfl) (by kernel_rfl) (fun _ _ _ h => h) (Or.inl ⟨by rfl, ?_⟩) (by assumption) ?_
          rotate_left
          ·(intro w hSw; (try dsimp only at hSw); go_simp; try with_reducible rfl)
          try simp only [Act.put, List.setIfInBounds_toArray, List.set_cons_zero, List.set_cons_succ]
          refine wpAnyH_ready (rs := [2]) (by kernel_rfl) (by simp) ?_
          refine (AllReadyH.cons rfl (fun K hK => ?_) AllReadyH.nil)
          go_simp
          ((with_reducible refine (HALL.out _ ((Kept.refl [] w11).drew)).mono ?_)); rintro e w12 ⟨rfl, hV12, k12⟩
          have kk12 := ((Kept.refl [] w11).drew.pk0 (T := [B]) (sb := sb) (mb := mb) HB11.out).trans k12
          have K12 := Lib.hid kk12
          have HV12 := Lib.hid hV12
          have HTELL : Hid (∀ W, Kept [] w12 W → Calls Tryz.prog 51 #[.pointer (some ⟨B, 0, none⟩), .int .i64 CH.2] W fun e w' => e = .returned (.int .i64 CH.2) ∧ VolAt T w' B b sb mb lo (tellX CH).1 ∧ Kept [B] W w') := Lib.hid (fun W k => utell0 (hV12.keep0 k) CH.2)
          clear kk12 k12 hV12
          go_wp2_with fail
          refine hK.out _ _ ?_ (fun hHeld => ?_)
          ·exact HGV11.out _ K12.out
          clear hK K
          try simp only [Act.put, List.setIfInBounds_toArray, List.set_cons_zero, List.set_cons_succ]
          refine wpAnyH_ready (rs := [3]) (by kernel_rfl) (by simp) ?_
          refine (AllReadyH.cons rfl (fun K hK => ?_) AllReadyH.nil)
          go_simp
          ((with_reducible refine (HTELL.out _ (by first | exact Kept.refl _ _ | exact (Kept.refl _ _).drew)).mono ?_)); rintro e w13 ⟨rfl, hV13, k13⟩
          have HV13 := Lib.hid hV13
          have K13 : Hid (PK [B] b sb mb w11 w13) := Lib.hid (K12.out.trans (by first | exact HV12.out.pkB1 k13 | exact HV12.out.pkB1 ((Kept.refl [B] w12).drew.trans k13)))
          clear k13 hV13
          go_wp2_with fail
          refine hK.out _ _ ?_ (fun hHeld => ?_)
          ·exact HGV11.out _ K13.out
          clear hK K
          try simp only [Act.put, List.setIfInBounds_toArray, List.set_cons_zero, List.set_cons_succ]
          refine take_at (i := 4) (d := some 4) (v := ?_) rfl rfl (by kernel_rfl) (by kernel_rfl) (by kernel_rfl) (fun _ _ _ h => h) (Or.inl ⟨by rfl, ?_⟩) (by assumption) ?_
          rotate_left
          ·(intro w hSw; (try dsimp only at hSw); go_simp; try with_reducible rfl)
          try simp only [Act.put, List.setIfInBounds_toArray, List.set_cons_zero, List.set_cons_succ]
          refine wpAnyH_done (by kernel_rfl) ?_ _
          try simp only [List.set_cons_succ, List.set_cons_zero]
          go_wp2_with fail
          go_ret
          rw [HX.out]
          exact ⟨rfl, HV13.out, (K011.out.pk0 HV.out.b_lt).trans K13.out⟩
         case neg =>
          have h5w : IntKind.i64.wrap (IntKind.i64.wrap (v.s.journal * 128) - v.s.used) < (TXO.length : Int) := by rw [HWRP.out]; omega
          obtain ⟨PO, hPO⟩ : ∃ x, putOut AP.1 = x := ⟨_, rfl⟩
          have hpt := HPUT.out wd (.agg #[.int .u32 AP.1.nextBox, .int .u32 AP.1.nextMan, .slice r1 m1 d1, .slice r2 m2 d2, .slice r3 m3 d3]) HAP0.out (HCATO7.out.plain.kept0 HKD.out)
          unfold CPutSays at hpt
          rw [hPO] at hpt
          have hpl6 : PO.1.length ≤ 1000000 := by rw [← hPO]; exact putC_len HCATO7.out.plain (HAPM.out HAP0.out) HAPT.out
          have HPT := Lib.hid hpt
          have HPO := Lib.hid hPO
          have HPL6 := Lib.hid hpl6
          have hpl7 : (PO.1.length : Int) ≤ 1000000 := by omega
          have hszP : (bs PO.1).size = PO.1.length := bs_size _
          have HH5 := Lib.hid h5
          clear hPO hpt hpl6 h5 hj1 hj2 hu1 hu2 hsz
          go_wp2_with fail
          refine HPT.out.mono ?_; rintro e w8 ⟨rfl, k8⟩
          have HK8 := Lib.hid (HKD.out.trans k8)
          have HRD8 := Lib.hid (ownsRow_kept HRD.out k8 (fun x hx => by cases hx))
          have HSD8 := Lib.hid (HSD.out.kept k8)
          clear k8 h5w y0 y1 y2 y3 y4 y5 y6 y7 y8
          obtain ⟨y0, y1, y2, y3, y4, y5, y6, y7, y8⟩ := HS23.out w8 HK8.out
          by_cases hp : PO.2 = 0
          case neg =>
           have HX := Lib.hid (changeX_put (l := l) HD.out HWX.out (by rw [HRM.out]; exact HOK.out) (by rw [HRM.out, HP.out, HAP.out]; exact HAP0.out) (by rw [HRM.out, HP.out]; exact HTXC.out) (by rw [HRM.out, HP.out, HTXO.out]; have := HH5.out; omega) (by rw [HRM.out, HP.out, HAP.out, HPO.out]; exact hp))
           rw [HRM.out, HP.out, HAP.out, HPO.out] at HX
           have e1 : (PO.2 == 0) = false := by rw [beq_eq_false_iff_ne]; exact hp
           clear hp
           go_wp2_with fail
           go_ret
           rw [HX.out]
           exact ⟨rfl, HV.out.keep0 (((HK1.out.trans HK4.out).trans HK7.out).trans HK8.out), (((HK1.out.trans HK4.out).trans HK7.out).trans HK8.out).pk0 HV.out.b_lt⟩
          case pos =>
           have HP0 := Lib.hid hp
           have e1 : (PO.2 == 0) = true := by rw [hp]; rfl
           have HNEED : Hid (∀ W, Calls Tryz.prog 54 #[.int .i64 PO.1.length] W fun e w' => e = .returned (.int .i64 (need PO.1.length)) ∧ W = w') := Lib.hid (fun W => pneed _ W (wf64 (by omega) (by omega)))
           have hnd0 := need_nn (PO.1.length : Int)
           have hLC : lowCode P.2 (need (PO.1.length : Int)) = 0 ∨ lowCode P.2 (need (PO.1.length : Int)) = 100 := by unfold lowCode; rw [if_neg (by omega)]; split; exact Or.inr rfl; exact Or.inl rfl
           have HLF8 := Lib.hid (ownsRow_kept HLF.out (HK7.out.trans HK8.out) (fun x hx => by cases hx))
           clear hp hnd0
           go_wp2_with fail
           refine (HNEED.out _).mono ?_; rintro e w9 ⟨rfl, rfl⟩
           go_wp2_with fail
           refine (HLOW.out _ _ PO.1.length _ _ (by have := HPL6.out; omega) (RunsIn.of_own HLF8.out)).mono ?_; rintro e w9 ⟨u9, rfl, hrow9, k9⟩
           have HK9 := Lib.hid (HK8.out.trans k9)
           have HRD9 := Lib.hid (ownsRow_kept HRD8.out k9 (fun x hx => by cases hx))
           have HSD9 := Lib.hid (HSD8.out.kept k9)
           have HROW9 := Lib.hid hrow9
           have HSZ8 : Hid (w.heap.size ≤ w8.heap.size) := Lib.hid (((HK1.out.trans HK4.out).trans HK7.out).trans HK8.out).size
           clear k9
           rcases hLC with hlc | hlc
           case inr =>
            have HX := Lib.hid (changeX_low (l := l) HD.out HWX.out (by rw [HRM.out]; exact HOK.out) (by rw [HRM.out, HP.out, HAP.out]; exact HAP0.out) (by rw [HRM.out, HP.out]; exact HTXC.out) (by rw [HRM.out, HP.out, HTXO.out]; have := HH5.out; omega) (by rw [HRM.out, HP.out, HAP.out, HPO.out]; exact HP0.out) (by rw [HRM.out, HP.out, HAP.out, HPO.out, hlc]; decide))
            rw [hlc]
            obtain ⟨pU, cU, rfl⟩ := own_shape hrow9
            clear hlc hrow9
            go_wp2_with fail
            go_ret
            rw [HX.out]
            exact ⟨rfl, HV.out.keep0 (((HK1.out.trans HK4.out).trans HK7.out).trans HK9.out), (((HK1.out.trans HK4.out).trans HK7.out).trans HK9.out).pk0 HV.out.b_lt⟩
           case inl =>
            have HX := Lib.hid (changeX_settle (l := l) HD.out HWX.out (by rw [HRM.out]; exact HOK.out) (by rw [HRM.out, HP.out, HAP.out]; exact HAP0.out) (by rw [HRM.out, HP.out]; exact HTXC.out) (by rw [HRM.out, HP.out, HTXO.out]; have := HH5.out; omega) (by rw [HRM.out, HP.out, HAP.out, HPO.out]; exact HP0.out) (by rw [HRM.out, HP.out, HAP.out, HPO.out, hlc]))
            rw [HRM.out, HP.out, HAP.out, HPO.out] at HX
            have hmb : (baseS v.s PO.1.length (lowestL P.2 (need (PO.1.length : Int)))).may := baseS_may HM.out hlc (fun k hk => by
             have h1 := plan_left RM l l.length (Nat.le_refl _) k (by rw [HP.out]; exact hk)
             rw [← HRM.out] at h1
             have h2 := room_has h1
             exact ⟨h2.1, h2.2.1⟩)
            have HMB := Lib.hid hmb
            have hlr : lowRes P.2 (need (PO.1.length : Int)) = (lowestL P.2 (need (PO.1.length : Int))) := by unfold lowRes; rw [if_pos hlc]
            rw [hlr] at hrow9 HROW9
            rw [hlc]
            obtain ⟨pU, cU, rfl⟩ := own_shape hrow9
            have HSF : Hid (∀ W, Calls Tryz.prog 55 #[.pointer (some ⟨B, 0, none⟩), .agg #[.int .u32 AP.1.nextBox, .int .u32 AP.1.nextMan, .slice r1 m1 d1, .slice r2 m2 d2, .slice r3 m3 d3], .string (bs PO.1), .slice pU (lowestL P.2 (need (PO.1.length : Int))).length cU] W fun e w' => e = .returned (.func (.func 113) #[] #[.pointer (some ⟨W.heap.size, 0, none⟩), .pointer (some ⟨W.heap.size + 2, 0, none⟩), .pointer (some ⟨W.heap.size + 3, 0, none⟩), .pointer (some ⟨W.heap.size + 1, 0, none⟩)]) ∧ (((W.alloc (.cells #[.pointer (some ⟨B, 0, none⟩)] 27)).alloc (.cells #[.int .u32 AP.1.nextBox, .int .u32 AP.1.nextMan, .slice r1 m1 d1, .slice r2 m2 d2, .slice r3 m3 d3] 52)).alloc (.cells #[.string (bs PO.1)] 9)).alloc (.cells #[.slice pU (lowestL P.2 (need (PO.1.length : Int))).length cU] 56) = w') := Lib.hid (fun W => usettlef B _ _ _ _ _ pU _ cU PO.1 W)
            have HB7 : Hid (b < w7.heap.size) := Lib.hid (Nat.lt_of_lt_of_le HV.out.b_lt ((HK1.out.trans HK4.out).trans HK7.out).size)
            have HS32 : Hid (∀ W, PK [B] b sb mb w7 W → W.cell? ⟨w.heap.size, 0, none⟩ = some (.pointer (some ⟨B, 0, none⟩)) ∧ W.cell? ⟨gc, 0, none⟩ = some (.int .u32 AP.1.nextBox) ∧ W.cell? ⟨gc, 1, none⟩ = some (.int .u32 AP.1.nextMan) ∧ W.cell? ⟨gc, 2, none⟩ = some (.slice r1 m1 d1) ∧ W.cell? ⟨gc, 3, none⟩ = some (.slice r2 m2 d2) ∧ W.cell? ⟨gc, 4, none⟩ = some (.slice r3 m3 d3)) := Lib.hid (fun W k => by
             have kk := (((HK1.out.trans HK4.out).trans HK7.out).pk0 (T := [B]) (sb := sb) (mb := mb) HV.out.b_lt)
             obtain ⟨e0, e1, e2, e3, e4⟩ := (k.own HGCAT7.out ((HV.out.da.off_new HV.out.hT ((HK1.out.trans HK4.out).trans HK7.out) HGCL.out).toB HV.out.hB)).k5
             exact ⟨(k.own ((HK4.out.trans HK7.out).own HGV.out (by simp)) ((HV.out.da.off_new HV.out.hT ((HK1.out.trans HK4.out).trans HK7.out) (Nat.le_refl _)).toB HV.out.hB)).cell 0 (by simp), e0, e1, e2, e3, e4⟩)
            clear hlc hrow9 hmb hlr y0 y1 y2 y3 y4 y5 y6 y7 y8
            obtain ⟨y0, y1, y2, y3, y4, y5⟩ := HS32.out w9 (HK9.out.pk0 HB7.out)
            go_upto_region 32 with fail
            refine wp_region_held_drew (S := (fun W => W.cell? ⟨w.heap.size, 0, none⟩ = some (.pointer (some ⟨B, 0, none⟩)) ∧ W.cell? ⟨gc, 0, none⟩ = some (.int .u32 AP.1.nextBox) ∧ W.cell? ⟨gc, 1, none⟩ = some (.int .u32 AP.1.nextMan) ∧ W.cell? ⟨gc, 2, none⟩ = some (.slice r1 m1 d1) ∧ W.cell? ⟨gc, 3, none⟩ = some (.slice r2 m2 d2) ∧ W.cell? ⟨gc, 4, none⟩ = some (.slice r3 m3 d3))) (by kernel_rfl) (by exact HS32.out _ ((HK9.out.drew).pk0 HB7.out)) (fun hHeld => ?_)
            refine take_at (i := 0) (d := some 121) (v := ?_) rfl rfl (by kernel_rfl) (by kernel_rfl) (by kernel_rfl) (fun _ _ _ h => h) (Or.inl ⟨by rfl, ?_⟩) (by assumption) ?_
            rotate_left
            ·(intro w hSw; (try dsimp only at hSw); go_simp; try with_reducible rfl)
            try simp only [Act.put, List.setIfInBounds_toArray, List.set_cons_zero, List.set_cons_succ]
            refine take_at (i := 1) (d := some 122) (v := ?_) rfl rfl (by kernel_rfl) (by kernel_rfl) (by kernel_rfl) (fun _ _ _ h => h) (Or.inl ⟨by rfl, ?_⟩) (by assumption) ?_
            rotate_left
            ·(intro w hSw; (try dsimp only at hSw); go_simp; try with_reducible rfl)
            try simp only [Act.put, List.setIfInBounds_toArray, List.set_cons_zero, List.set_cons_succ]
            refine take_at (i := 2) (d := some 123) (v := ?_) rfl rfl (by kernel_rfl) (by kernel_rfl) (by kernel_rfl) (fun _ _ _ h => h) (Or.inl ⟨by rfl, ?_⟩) (by assumption) ?_
            rotate_left
            ·(intro w hSw; (try dsimp only at hSw); go_simp; try with_reducible rfl)
            try simp only [Act.put, List.setIfInBounds_toArray, List.set_cons_zero, List.set_cons_succ]
            refine take_at (i := 3) (d := some 124) (v := ?_) rfl rfl (by kernel_rfl) (by kernel_rfl) (by kernel_rfl) (fun _ _ _ h => h) (Or.inl ⟨by rfl, ?_⟩) (by assumption) ?_
            rotate_left
            ·(intro w hSw; (try dsimp only at hSw); go_simp; try with_reducible rfl)
            try simp only [Act.put, List.setIfInBounds_toArray, List.set_cons_zero, List.set_cons_succ]
            refine take_at (i := 4) (d := some 125) (v := ?_) rfl rfl (by kernel_rfl) (by kernel_rfl) (by kernel_rfl) (fun _ _ _ h => h) (Or.inl ⟨by rfl, ?_⟩) (by assumption) ?_
            rotate_left
            ·(intro w hSw; (try dsimp only at hSw); go_simp; try with_reducible rfl)
            try simp only [Act.put, List.setIfInBounds_toArray, List.set_cons_zero, List.set_cons_succ]
            refine take_at (i := 5) (d := some 126) (v := ?_) rfl rfl (by kernel_rfl) (by kernel_rfl) (by kernel_rfl) (fun _ _ _ h => h) (Or.inl ⟨by rfl, ?_⟩) (by assumption) ?_
            rotate_left
            ·(intro w hSw; (try dsimp only at hSw); go_simp; try with_reducible rfl)
            try simp only [Act.put, List.setIfInBounds_toArray, List.set_cons_zero, List.set_cons_succ]
            refine wpAnyH_ready (rs := [6]) (by kernel_rfl) (by simp) ?_
            refine (AllReadyH.cons rfl (fun K hK => ?_) AllReadyH.nil)
            go_simp
            ((with_reducible refine (HSF.out _).mono ?_)); rintro e w10 ⟨rfl, rfl⟩
            go_wp2_with fail
            refine hK.out _ _ ?_ (fun hHeld => ?_)
            ·exact HS32.out _ ((((((HK9.out.alloc (.cells #[.pointer (some ⟨B, 0, none⟩)] 27)).alloc (.cells #[.int .u32 AP.1.nextBox, .int .u32 AP.1.nextMan, .slice r1 m1 d1, .slice r2 m2 d2, .slice r3 m3 d3] 52)).alloc (.cells #[.string (bs PO.1)] 9)).alloc (.cells #[.slice pU (lowestL P.2 (need (PO.1.length : Int))).length cU] 56)).drew).pk0 HB7.out)
            clear hK K
            try simp only [Act.put, List.setIfInBounds_toArray, List.set_cons_zero, List.set_cons_succ]
            refine wpAnyH_ready (rs := [7]) (by kernel_rfl) (by simp) ?_
            refine (AllReadyH.cons rfl (fun K hK => ?_) AllReadyH.nil)
            go_simp
            refine hK.out _ _ ?_ (fun hHeld => ?_)
            ·exact HS32.out _ (((((((HK9.out.alloc (.cells #[.pointer (some ⟨B, 0, none⟩)] 27)).alloc (.cells #[.int .u32 AP.1.nextBox, .int .u32 AP.1.nextMan, .slice r1 m1 d1, .slice r2 m2 d2, .slice r3 m3 d3] 52)).alloc (.cells #[.string (bs PO.1)] 9)).alloc (.cells #[.slice pU (lowestL P.2 (need (PO.1.length : Int))).length cU] 56)).alloc (.cells #[.func (.func 113) #[] #[.pointer (some ⟨w9.heap.size, 0, none⟩), .pointer (some ⟨w9.heap.size + 2, 0, none⟩), .pointer (some ⟨w9.heap.size + 3, 0, none⟩), .pointer (some ⟨w9.heap.size + 1, 0, none⟩)]] 42)).drew).pk0 HB7.out)
            clear hK K
            try simp only [Act.put, List.setIfInBounds_toArray, List.set_cons_zero, List.set_cons_succ]
            obtain ⟨o1, o2, o3, o4, o5⟩ := own_five w9 #[.pointer (some ⟨B, 0, none⟩)] #[.int .u32 AP.1.nextBox, .int .u32 AP.1.nextMan, .slice r1 m1 d1, .slice r2 m2 d2, .slice r3 m3 d3] #[.string (bs PO.1)] #[.slice pU (lowestL P.2 (need (PO.1.length : Int))).length cU] #[.func (.func 113) #[] #[.pointer (some ⟨w9.heap.size, 0, none⟩), .pointer (some ⟨w9.heap.size + 2, 0, none⟩), .pointer (some ⟨w9.heap.size + 3, 0, none⟩), .pointer (some ⟨w9.heap.size + 1, 0, none⟩)]] 27 52 9 56 42
            have hrow10 : (((((w9.alloc (.cells #[.pointer (some ⟨B, 0, none⟩)] 27)).alloc (.cells #[.int .u32 AP.1.nextBox, .int .u32 AP.1.nextMan, .slice r1 m1 d1, .slice r2 m2 d2, .slice r3 m3 d3] 52)).alloc (.cells #[.string (bs PO.1)] 9)).alloc (.cells #[.slice pU (lowestL P.2 (need (PO.1.length : Int))).length cU] 56)).alloc (.cells #[.func (.func 113) #[] #[.pointer (some ⟨w9.heap.size, 0, none⟩), .pointer (some ⟨w9.heap.size + 2, 0, none⟩), .pointer (some ⟨w9.heap.size + 3, 0, none⟩), .pointer (some ⟨w9.heap.size + 1, 0, none⟩)]] 42)).drew.ownsRow w7.heap.size 42 1 (.slice pS qs.length cS) qs.length ((qs.map (sqU w.heap.size gr)).map fnV) := ownsRow_kept HRD9.out (((((((Kept.refl [] w9).alloc (.cells #[.pointer (some ⟨B, 0, none⟩)] 27)).alloc (.cells #[.int .u32 AP.1.nextBox, .int .u32 AP.1.nextMan, .slice r1 m1 d1, .slice r2 m2 d2, .slice r3 m3 d3] 52)).alloc (.cells #[.string (bs PO.1)] 9)).alloc (.cells #[.slice pU (lowestL P.2 (need (PO.1.length : Int))).length cU] 56)).alloc (.cells #[.func (.func 113) #[] #[.pointer (some ⟨w9.heap.size, 0, none⟩), .pointer (some ⟨w9.heap.size + 2, 0, none⟩), .pointer (some ⟨w9.heap.size + 3, 0, none⟩), .pointer (some ⟨w9.heap.size + 1, 0, none⟩)]] 42)).drew) (fun x hx => by cases hx)
            have k10 : Kept [] w9 (((((w9.alloc (.cells #[.pointer (some ⟨B, 0, none⟩)] 27)).alloc (.cells #[.int .u32 AP.1.nextBox, .int .u32 AP.1.nextMan, .slice r1 m1 d1, .slice r2 m2 d2, .slice r3 m3 d3] 52)).alloc (.cells #[.string (bs PO.1)] 9)).alloc (.cells #[.slice pU (lowestL P.2 (need (PO.1.length : Int))).length cU] 56)).alloc (.cells #[.func (.func 113) #[] #[.pointer (some ⟨w9.heap.size, 0, none⟩), .pointer (some ⟨w9.heap.size + 2, 0, none⟩), .pointer (some ⟨w9.heap.size + 3, 0, none⟩), .pointer (some ⟨w9.heap.size + 1, 0, none⟩)]] 42)).drew := ((((((Kept.refl [] w9).alloc (.cells #[.pointer (some ⟨B, 0, none⟩)] 27)).alloc (.cells #[.int .u32 AP.1.nextBox, .int .u32 AP.1.nextMan, .slice r1 m1 d1, .slice r2 m2 d2, .slice r3 m3 d3] 52)).alloc (.cells #[.string (bs PO.1)] 9)).alloc (.cells #[.slice pU (lowestL P.2 (need (PO.1.length : Int))).length cU] 56)).alloc (.cells #[.func (.func 113) #[] #[.pointer (some ⟨w9.heap.size, 0, none⟩), .pointer (some ⟨w9.heap.size + 2, 0, none⟩), .pointer (some ⟨w9.heap.size + 3, 0, none⟩), .pointer (some ⟨w9.heap.size + 1, 0, none⟩)]] 42)).drew
            have o1d := o1.drew
            have o2d := o2.drew
            have o3d := o3.drew
            have o4d := o4.drew
            have o5d := o5.drew
            clear o1 o2 o3 o4 o5
            generalize (((((w9.alloc (.cells #[.pointer (some ⟨B, 0, none⟩)] 27)).alloc (.cells #[.int .u32 AP.1.nextBox, .int .u32 AP.1.nextMan, .slice r1 m1 d1, .slice r2 m2 d2, .slice r3 m3 d3] 52)).alloc (.cells #[.string (bs PO.1)] 9)).alloc (.cells #[.slice pU (lowestL P.2 (need (PO.1.length : Int))).length cU] 56)).alloc (.cells #[.func (.func 113) #[] #[.pointer (some ⟨w9.heap.size, 0, none⟩), .pointer (some ⟨w9.heap.size + 2, 0, none⟩), .pointer (some ⟨w9.heap.size + 3, 0, none⟩), .pointer (some ⟨w9.heap.size + 1, 0, none⟩)]] 42)).drew = w10 at *
            obtain ⟨i0, q0, q1, q2, q3⟩ := infoFn
            have hbase : w7.heap.size ≤ w10.heap.size := Nat.le_trans HK9.out.size k10.size
            obtain ⟨v5, w11, hrun, hrow11, hgr, _, _⟩ := run_append_own_at (P := Tryz.prog) w10 w7.heap.size 98 98 42 i0 .nilFunc 1 8 Tryz.underlying98 q0 q1 q2 q3 rfl (by decide) _ qs.length _ hrow10 ⟨w9.heap.size + 4, 0, none⟩ 1 1 [.func (.func 113) #[] #[.pointer (some ⟨w9.heap.size, 0, none⟩), .pointer (some ⟨w9.heap.size + 2, 0, none⟩), .pointer (some ⟨w9.heap.size + 3, 0, none⟩), .pointer (some ⟨w9.heap.size + 1, 0, none⟩)]] rfl (news_own o5d) (by intro u hu; simp at hu; subst hu; rfl) (by have := HQL.out; have := HNUM.out.2.2.2.1; unfold maxLen; omega) (by have := HQL.out; have := HNUM.out.2.2.2.1; omega) hbase
            have hW11 : ∀ g cs t, Own w10 g cs t → 42 ≠ t → Own w11 g cs t := fun g cs t og hne => (hgr.block g og.lt (fun e => own_row_ne hrow10 og hne e.symm)).trans og
            have k711 : Kept [] w7 w11 := (HK9.out.trans k10).grown hgr (fun q hq => Or.inr (World.ownsRow.lt hrow10 q hq).1)
            have hst11 : StepsAt w w11 l l.length qs := ⟨HSD9.out.idx, fun q hq => by
             obtain ⟨a1, a2, a3, a4⟩ := HSD9.out.own q hq
             exact ⟨a1, a2, hW11 _ _ _ (k10.own a3 (by simp)) (by decide), hW11 _ _ _ (k10.own a4 (by simp)) (by decide)⟩⟩
            have hszw : w.heap.size ≤ w9.heap.size := (((HK1.out.trans HK4.out).trans HK7.out).trans HK9.out).size
            have hcat11 := HCATO7.out.kept0 k711 (Nat.lt_of_lt_of_le HV.out.b_lt ((HK1.out.trans HK4.out).trans HK7.out).size)
            have k011 : Kept [] w w11 := ((HK1.out.trans HK4.out).trans HK7.out).trans k711
            obtain ⟨p5, c5, rfl⟩ := own_shape hrow11
            have hrr11 : w11.ownsRow w8.heap.size 128 2 (.slice pU (lowestL P.2 (need (PO.1.length : Int))).length cU) (lowestL P.2 (need (PO.1.length : Int))).length (rcells (lowestL P.2 (need (PO.1.length : Int)))) := ownsRow_same (ownsRow_kept HROW9.out k10 (fun x hx => by cases hx)) (fun g cs hb hc => hgr.block g (lt_of_block hc) (fun e => own_row_ne hrow10 (show Own _ g cs 128 from hc) (by decide) e.symm))
            have hro11 : RunsO T w11 b sb mb (.slice pU (lowestL P.2 (need (PO.1.length : Int))).length cU) (lowestL P.2 (need (PO.1.length : Int))) := (RunsIn.of_own hrr11).new HV.out.da HV.out.hT k011 HSZ8.out
            have HALL : Hid (∀ W, Kept [] w11 W → Calls Tryz.prog 37 #[.slice p5 (qs.length + 1) c5] W fun e w' => e = .returned (.int .i64 (chainV (putsX l P.1 ++ [settleX AP.1 PO.1 (lowestL P.2 (need (PO.1.length : Int)))]) v).2) ∧ VolAt T w' B b sb mb lo (chainV (putsX l P.1 ++ [settleX AP.1 PO.1 (lowestL P.2 (need (PO.1.length : Int)))]) v).1 ∧ PK [B] b sb mb W w') := Lib.hid (fun W k => uallS (HCTX.out W (k711.trans k) (hst11.kept k)) AP.1 _ _ _ PO.1 (lowestL P.2 (need (PO.1.length : Int))) (.slice pU (lowestL P.2 (need (PO.1.length : Int))).length cU) w9.heap.size (w9.heap.size + 2) (w9.heap.size + 3) (w9.heap.size + 1) _ (ownsRow_base (ownsRow_kept hrow11 k (fun x hx => by cases hx)) ((HK1.out.trans HK4.out).trans HK7.out).size) hszw (by omega) (by omega) (by omega) (k.own (hW11 _ _ _ o1d (by decide)) (by simp)) (k.own (hW11 _ _ _ o3d (by decide)) (by simp)) (k.own (hW11 _ _ _ o4d (by decide)) (by simp)) (k.own (hW11 _ _ _ o2d (by decide)) (by simp)) (hcat11.kept0 k (Nat.lt_of_lt_of_le HV.out.b_lt k011.size)) (hro11.kept0 k (Nat.lt_of_lt_of_le HV.out.b_lt k011.size)) (low_pl _ _) HMB.out HM.out HQ9.out (by have := HPL6.out; omega) HNUM.out.1 HNUM.out.2.1 HNUM.out.2.2.1 HNUM.out.2.2.2.1)
            clear hrr11 hro11
            have HRUN := Lib.hid hrun
            have K711 := Lib.hid k711
            have K011 := Lib.hid k011
            have HGV11 : Hid (∀ W, PK [B] b sb mb w11 W → W.cell? ⟨w.heap.size, 0, none⟩ = some (.pointer (some ⟨B, 0, none⟩))) := Lib.hid (fun W k => (k.own (((HK4.out.trans HK7.out).trans k711).own HGV.out (by simp)) ((HV.out.da.off_new HV.out.hT k011 (Nat.le_refl _)).toB HV.out.hB)).cell 0 (by simp))
            have HB11 : Hid (b < w11.heap.size) := Lib.hid (Nat.lt_of_lt_of_le HV.out.b_lt k011.size)
            clear hrun hrow11 hgr hW11 k711 hst11 hszw hcat11 k011 hrow10 k10 hbase o1d o2d o3d o4d o5d
            refine wpAnyH_ready (rs := [8]) (by kernel_rfl) (by simp) ?_
            refine (AllReadyH.cons rfl (fun K hK => ?_) AllReadyH.nil)
            refine step_append_runJ rfl _ _ 98 98 rfl _ _ (by simp [Act.eval, Act.put]) (by simp [Act.eval, Act.put]) HRUN.out ?_
            refine hK.out _ _ ?_ (fun hHeld => ?_)
            ·exact HS32.out _ (K711.out.pk0 HB7.out)
            clear hK K
            try simp only [Act.put, List.setIfInBounds_toArray, List.set_cons_zero, List.set_cons_succ]
            generalize chainV (putsX l P.1 ++ [settleX AP.1 PO.1 (lowestL P.2 (need (PO.1.length : Int)))]) v = CH at *
            refine wpAnyH_ready (rs := [9]) (by kernel_rfl) (by simp) ?_
            refine (AllReadyH.cons rfl (fun K hK => ?_) AllReadyH.nil)
            go_simp
            ((with_reducible refine (HALL.out _ (by first | exact Kept.refl _ _ | exact (Kept.refl [] w11).drew)).mono ?_)); rintro e w12 ⟨rfl, hV12, k12⟩
            have kk12 : PK [B] b sb mb w11 w12 := by first | exact k12 | exact ((Kept.refl [] w11).drew.pk0 HB11.out).trans k12
            have K12 := Lib.hid kk12
            have HV12 := Lib.hid hV12
            have HTELL : Hid (∀ W, Kept [] w12 W → Calls Tryz.prog 51 #[.pointer (some ⟨B, 0, none⟩), .int .i64 CH.2] W fun e w' => e = .returned (.int .i64 CH.2) ∧ VolAt T w' B b sb mb lo (tellX CH).1 ∧ Kept [B] W w') := Lib.hid (fun W k => utell0 (hV12.keep0 k) CH.2)
            clear kk12 k12 hV12
            go_wp2_with fail
            refine hK.out _ _ ?_ (fun hHeld => ?_)
            ·exact HS32.out _ ((K711.out.pk0 HB7.out).trans K12.out)
            clear hK K
            try simp only [Act.put, List.setIfInBounds_toArray, List.set_cons_zero, List.set_cons_succ]
            refine wpAnyH_ready (rs := [10]) (by kernel_rfl) (by simp) ?_
            refine (AllReadyH.cons rfl (fun K hK => ?_) AllReadyH.nil)
            go_simp
            ((with_reducible refine (HTELL.out _ (by first | exact Kept.refl _ _ | exact (Kept.refl _ _).drew)).mono ?_)); rintro e w13 ⟨rfl, hV13, k13⟩
            have HV13 := Lib.hid hV13
            have K13 : Hid (PK [B] b sb mb w11 w13) := Lib.hid (K12.out.trans (by first | exact HV12.out.pkB1 k13 | exact HV12.out.pkB1 ((Kept.refl [B] w12).drew.trans k13)))
            clear k13 hV13
            go_wp2_with fail
            refine hK.out _ _ ?_ (fun hHeld => ?_)
            ·exact HS32.out _ ((K711.out.pk0 HB7.out).trans K13.out)
            clear hK K
            try simp only [Act.put, List.setIfInBounds_toArray, List.set_cons_zero, List.set_cons_succ]
            refine take_at (i := 11) (d := some 4) (v := ?_) rfl rfl (by kernel_rfl) (by kernel_rfl) (by kernel_rfl) (fun _ _ _ h => h) (Or.inl ⟨by rfl, ?_⟩) (by assumption) ?_
            rotate_left
            ·(intro w hSw; (try dsimp only at hSw); go_simp; try with_reducible rfl)
            try simp only [Act.put, List.setIfInBounds_toArray, List.set_cons_zero, List.set_cons_succ]
            refine wpAnyH_done (by kernel_rfl) ?_ _
            try simp only [List.set_cons_succ, List.set_cons_zero]
            go_wp2_with fail
            go_ret
            rw [HX.out]
            exact ⟨rfl, HV13.out, (K011.out.pk0 HV.out.b_lt).trans K13.out⟩
end Go.Proofs.YtdkimcnlhmhpgaaGreat
