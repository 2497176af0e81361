/- Layer 47 (catalog): the page's example. -/
import Derived.Test.YtakdnchmehmdhaaGreatG33
import Derived.Test.YtakdnchmehmdhaaGreatG34
import Derived.Test.YtakdnchmehmdhaaGreatG35
import Derived.Test.YtakdnchmehmdhaaGreatG36
import Derived.Test.YtakdnchmehmdhaaGreatG37
namespace Go.Proofs.YtakdnchmehmdhaaGreat
open Go.RowKit
set_option linter.unusedVariables false
set_option linter.unusedSimpArgs false

def xA : JRec := ⟨1, 5, [], 1, [(7, 1)]⟩
def xI : JItem := ⟨5, [], 1, [(7, 1)]⟩
def rA3 : JRec := ⟨1, 3, [], 0, []⟩
def catA : JCat := ⟨6, 1, [xI], [], []⟩
theorem xA_may : mayR xA = true := by decide
theorem rA3_may : mayR rA3 = true := by decide
theorem xA_fits : xA.fits := ⟨by decide, by decide, Nat.zero_le _, by decide⟩
theorem rA3_fits : rA3.fits := ⟨by decide, by decide, Nat.zero_le _, by decide⟩
theorem catE_may : mayC catE := ⟨⟨by decide, fun a ha => (by cases ha), List.Pairwise.nil⟩, ⟨by decide, fun a ha => (by cases ha)⟩, ⟨by decide, fun a ha => (by cases ha), List.Pairwise.nil⟩, ⟨by decide, fun a ha => (by cases ha)⟩, ⟨by decide, fun a ha => (by cases ha), List.Pairwise.nil⟩⟩
theorem in_catA {a : JItem} (ha : a ∈ catA.boxes) : a = xI := by
  have : a ∈ [xI] := ha
  simpa using this
theorem catA_may : mayC catA := ⟨⟨by decide, fun a ha => by rw [in_catA ha]; decide, List.pairwise_singleton _ _⟩, ⟨by decide, fun a ha => by rw [in_catA ha]; decide⟩, ⟨by decide, fun a ha => (by cases ha), List.Pairwise.nil⟩, ⟨by decide, fun a ha => (by cases ha)⟩, ⟨by decide, fun a ha => (by cases ha), List.Pairwise.nil⟩⟩
theorem hasK_nil (x : JItem) : ¬ hasK [] x := fun h => by unfold hasK at h; simp at h
theorem comesX_new {x : JItem} {next : Int} {most : Nat} (h1 : ¬ x.id < next) (h2 : 0 < most) : comesX [] x next most false = ([x], 0) := by
  unfold comesX
  rw [if_neg (fun h => hasK_nil x h.1), if_neg (fun h => h.elim (hasK_nil x) h1), if_neg (by simp; omega)]
  rfl
theorem oneX_xA : oneX catE xA = (catA, 0) := by
  have h := comesX_new (x := xA.item) (next := catE.nextBox) (most := 2048) (by decide) (by decide)
  unfold oneX
  rw [if_pos (show xA.kind = 1 from rfl)]
  have h' : comesX catE.boxes xA.item catE.nextBox 2048 false = ([xA.item], 0) := h
  rw [h']
  rfl
theorem applyX_xA : applyX catE [xA] = (catA, 0) := by
  unfold applyX
  rw [if_pos catE_may, recsX, if_pos xA_may, oneX_xA, if_pos rfl]
  rfl
theorem applyX_r3 : applyX catA [rA3] = (catNo, 252) := by
  unfold applyX
  rw [if_pos catA_may, recsX, if_pos rA3_may]
  have h : (oneX catA rA3).2 = 252 := by
    unfold oneX
    rw [if_pos (show rA3.kind = 1 from rfl)]
    simp only
    unfold comesX
    rw [if_neg (by simp), if_pos (Or.inr (by decide))]
  rw [h, if_neg (by decide)]
theorem catNo_not : ¬ mayC catNo := fun h => by have := h.nb.1; exact absurd this (by decide)
theorem chk_catNo : chkX catNo = 110 := by unfold chkX; rw [if_neg catNo_not]
theorem runsC_catA : runsC catA = [(7, 1)] := rfl
theorem lies_yes : LiesL 9 2 [(7, 1)] := ⟨fun a ha => by
  have : a = (7, 1) := by simpa using ha
  subst this
  unfold OkL; decide, List.pairwise_singleton _ _⟩
theorem lies_not : ¬ LiesL 9 6 [(7, 1)] := fun h => by
  have := h.1 (7, 1) (by simp)
  unfold OkL at this
  simp at this
theorem small_catA : SmallC catA := ⟨⟨by decide, fun a ha => by rw [in_catA ha]; decide⟩, ⟨by decide, fun a ha => (by cases ha)⟩, ⟨by decide, fun a ha => (by cases ha)⟩⟩
theorem small_catE : SmallC catE := ⟨⟨by decide, fun a ha => (by cases ha)⟩, ⟨by decide, fun a ha => (by cases ha)⟩, ⟨by decide, fun a ha => (by cases ha)⟩⟩
theorem catE_in (w : World) : CatIn w (.agg #[.int .u32 1, .int .u32 1, .slice none 0 0, .slice none 0 0, .slice none 0 0]) catE := ⟨_, _, _, rfl, ItemsIn.nil _ _ _, ItemsIn.nil _ _ _, ItemsIn.nil _ _ _, by decide, by decide⟩
theorem catNo_in (w : World) : CatIn w (.agg #[.int .u32 0, .int .u32 0, .slice none 0 0, .slice none 0 0, .slice none 0 0]) catNo := ⟨_, _, _, rfl, ItemsIn.nil _ _ _, ItemsIn.nil _ _ _, ItemsIn.nil _ _ _, by decide, by decide⟩
/-- one record in a block of its own. -/
theorem rec_in1 {w : World} {b : Nat} {r : JRec} {kv : Value} (o : Own w b #[.int .i64 r.kind, .int .u32 r.id, .string (bs r.name), .int .i64 r.size, kv] 55) (hr : RunsIn w kv r.runs 0 w.heap.size) (hf : r.fits) : RecsIn w (.slice (some ⟨b, 0, none⟩) 1 1) [r] 0 w.heap.size := by
  refine Or.inr ⟨b, 0, 1, rfl, fun i hi => ?_, Nat.zero_le _, o.lt, Nat.le_refl _, by simp, by simp, by unfold maxLen; omega⟩
  have hi0 : i = 0 := by simpa using hi
  subst hi0
  refine ⟨[.int .i64 r.kind, .int .u32 r.id, .string (bs r.name), .int .i64 r.size, kv], rfl, ⟨kv, rfl, hr, hf⟩, fun j u hj => ?_⟩
  have hj5 : j < 5 := by have := (List.getElem?_eq_some_iff.1 hj).1; simpa using this
  rw [Nat.zero_mul, Nat.zero_add, Nat.zero_add, o.cell j (by simpa using hj5)]
  have h2 := (List.getElem?_eq_some_iff.1 hj).2
  rw [← h2]; rfl
theorem run_in1 {w : World} {b : Nat} {x : Int × Int} (o : Own w b #[.int .i64 x.1, .int .i64 x.2] 48) : RunsIn w (.slice (some ⟨b, 0, none⟩) 1 1) [x] 0 w.heap.size := by
  refine Or.inr ⟨b, 0, 1, rfl, fun i hi => ?_, Nat.zero_le _, o.lt, Nat.le_refl _, by simp, by simp, by unfold maxLen; omega⟩
  have hi0 : i = 0 := by simpa using hi
  subst hi0
  exact ⟨o.cell 0 (by simp), o.cell 1 (by simp)⟩
theorem xA_call (w1 : World) :
    Calls Tryz.prog 22 #[.agg #[.int .u32 1, .int .u32 1, .slice none 0 0, .slice none 0 0, .slice none 0 0], .slice (some ⟨w1.heap.size + 1, 0, none⟩) 1 1] ((w1.alloc (.cells #[.int .i64 7, .int .i64 1] 48)).alloc (.cells #[.int .i64 1, .int .u32 5, .string { data := #[] }, .int .i64 1, .slice (some ⟨w1.heap.size, 0, none⟩) 1 1] 55)) (ApplySays (fun _ => False) (catA, 0) ((w1.alloc (.cells #[.int .i64 7, .int .i64 1] 48)).alloc (.cells #[.int .i64 1, .int .u32 5, .string { data := #[] }, .int .i64 1, .slice (some ⟨w1.heap.size, 0, none⟩) 1 1] 55))) := by
  rw [← applyX_xA]
  have o1 := (Own.new w1 #[.int .i64 7, .int .i64 1] 48).alloc (.cells #[.int .i64 1, .int .u32 5, .string { data := #[] }, .int .i64 1, .slice (some ⟨w1.heap.size, 0, none⟩) 1 1] 55)
  have o2 := Own.new (w1.alloc (.cells #[.int .i64 7, .int .i64 1] 48)) #[.int .i64 1, .int .u32 5, .string { data := #[] }, .int .i64 1, .slice (some ⟨w1.heap.size, 0, none⟩) 1 1] 55
  rw [World.size_alloc] at o2
  exact zApply _ catE _ [xA] 0 _ _ ((catE_in _).offS (fun x hx => hx.elim)) (fun x hx => hx.elim) small_catE (rec_in1 (r := xA) o2 (run_in1 (x := (7, 1)) o1) xA_fits) (fun r hr a ha => by
    have : r = xA := by simpa using hr
    subst this
    have : a = (7, 1) := by
      have ha' : a ∈ [((7, 1) : Int × Int)] := ha
      simpa using ha'
    subst this
    unfold WfRun; decide) (fun r hr => by
    have : r = xA := by simpa using hr
    subst this; decide)
theorem r3_call (w : World) (cv : Value) (h : CatIn w cv catA) :
    Calls Tryz.prog 22 #[cv, .slice (some ⟨w.heap.size, 0, none⟩) 1 1] (w.alloc (.cells #[.int .i64 1, .int .u32 3, .string { data := #[] }, .int .i64 0, .slice none 0 0] 55)) fun e w' => ∃ v, e = .returned (.tuple #[v, .int .i64 252]) ∧ CatIn w' v catNo ∧ Kept [] w w' := by
  have o := Own.new w #[.int .i64 1, .int .u32 3, .string { data := #[] }, .int .i64 0, .slice none 0 0] 55
  have k : Kept [] w (w.alloc (.cells #[.int .i64 1, .int .u32 3, .string { data := #[] }, .int .i64 0, .slice none 0 0] 55)) := (Kept.refl _ _).alloc _
  have hh := zApply (S0 := fun _ => False) cv catA _ [rA3] 0 _ _ ((h.kept0 k).offS (fun x hx => hx.elim)) (fun x hx => hx.elim) small_catA (rec_in1 (r := rA3) o (Or.inl ⟨rfl, none, 0, rfl⟩) rA3_fits) (fun r hr a ha => by
    have : r = rA3 := by simpa using hr
    subst this; cases ha) (fun r hr => by
    have : r = rA3 := by simpa using hr
    subst this; decide)
  rw [applyX_r3] at hh
  exact hh.mono fun e w' ⟨v, he, hv, kk⟩ => ⟨v, he, hv.plain, k.trans kk⟩
theorem CatIn.parts {w : World} {v : Value} {c : JCat} (h : CatIn w v c) : ∃ p1 n1 c1 p2 n2 c2 p3 n3 c3, v = .agg #[.int .u32 c.nextBox, .int .u32 c.nextMan, .slice p1 n1 c1, .slice p2 n2 c2, .slice p3 n3 c3] := by
  obtain ⟨a, b, d, e, h1, h2, h3, _⟩ := h
  obtain ⟨p1, q1, rfl⟩ := h1.shape
  obtain ⟨p2, q2, rfl⟩ := h2.shape
  obtain ⟨p3, q3, rfl⟩ := h3.shape
  exact ⟨_, _, _, _, _, _, _, _, _, e⟩
theorem putOut_catA : putOut catA = (putC catA, 0) := by unfold putOut; rw [if_pos catA_may]
theorem put_short {c : JCat} (h : mayC c) (hf : FitC c) (hl : (catR c).length ≤ 1000) : (putC c).length ≤ 1000000 := by
  have h1 := recs_len (l := catR c) (fun r hr => rec_ok (catR_may h r hr) (hf.2.2 r hr))
  have h2 : (tailC c).length ≤ 200 * (catR c).length + 10 := by
    unfold tailC
    split
    · simp
    · unfold txL bodyL
      simp only [List.length_append, numL_len]
      omega
  have h3 := headC_len c.nextBox.toNat c.nextMan.toNat
  unfold putC sealL
  rw [bodyC_eq]
  simp only [List.length_append, numL_len]
  omega
/-- what is put, got again. -/
theorem get_put {c : JCat} {w : World} (h : mayC c) (hf : FitC c) (hl : (catR c).length ≤ 1000) :
    Calls Tryz.prog 18 #[.string (bs (putC c))] w fun e w' => ∃ v, e = .returned (.tuple #[v, .int .i64 0]) ∧ CatIn w' v c ∧ Kept [] w w' := by
  have hg := zget (putC c) w (put_short h hf hl) (fun t ls ho hr l hls => by
    obtain ⟨_, _, rfl, _⟩ := get_one h hf rfl ho hr
    unfold lsC at hls
    split at hls
    · cases hls
    · have : l = catR c := by simpa using hls
      subst this; exact hl)
  refine hg.mono fun e w' ⟨hh, k⟩ => ?_
  rcases hh with ⟨d, v, m1, m2, m3, m4, he⟩ | ⟨hn, _⟩
  · have : d = c := putC_inj m1 m2 h hf m3
    subst this
    exact ⟨v, he, m4, k⟩
  · exact absurd rfl (hn c h hf)
theorem fit_catA : FitC catA := ⟨by decide, by decide, fun r hr => by
  have : r ∈ [xA] := hr
  have : r = xA := by simpa using this
  subst this; exact xA_fits⟩
set_option maxRecDepth 100000 in
set_option maxHeartbeats 8000000 in
theorem zawake (w : World) : Calls Tryz.prog 10 #[] w fun e w' => e = .returned (.bool true) ∧ Kept [] w w' := by
  have HE := Lib.hid zempty
  have HX := Lib.hid xA_call
  have HR3 := Lib.hid r3_call
  unfold ApplySays at HX
  have HPUT : Hid (∀ W v, CatIn W v catA → Calls Tryz.prog 11 #[v] W fun e w' => e = .returned (.tuple #[.string (bs (putC catA)), .int .i64 0]) ∧ Kept [] W w') := Lib.hid (fun W v h => by
    have := zput v catA W h small_catA (by decide)
    unfold CPutSays at this
    rw [putOut_catA] at this
    exact this)
  have HGET : Hid (∀ W, Calls Tryz.prog 18 #[.string (bs (putC catA))] W fun e w' => ∃ v, e = .returned (.tuple #[v, .int .i64 0]) ∧ CatIn w' v catA ∧ Kept [] W w') := Lib.hid (fun W => get_put catA_may fit_catA (by decide))
  have HBOX : Hid (∀ W v, CatIn W v catA → Calls Tryz.prog 28 #[v, .int .u32 5] W fun e w' => ∃ p n c, e = .returned (.tuple #[.agg #[.int .u32 5, .string { data := #[] }, .int .i64 1, .slice p n c], .bool true]) ∧ Kept [] W w') := Lib.hid (fun W v h => (zFind_box 5 v catA W h small_catA).mono (fun e w' ⟨kv, he, hk, k⟩ => by
    have hf : findX (fun x : JItem => x.id == 5) catA.boxes = (xI, true) := rfl
    rw [hf] at he hk
    obtain ⟨p, n, c, rfl⟩ := hk.slv
    exact ⟨p, n, c, he, k⟩))
  have HSAME : Hid (∀ W v u, CatIn W v catA → CatIn W u catA → Calls Tryz.prog 14 #[v, u] W fun e w' => e = .returned (.bool true) ∧ Kept [] W w') := Lib.hid (fun W v u h1 h2 => (zsame v u catA catA W h1 h2 small_catA small_catA).mono (fun e w' ⟨b, he, hb, k⟩ => ⟨by rw [he, hb.2 rfl], k⟩))
  have HRUNS : Hid (∀ W v, CatIn W v catA → Calls Tryz.prog 33 #[v] W fun e w' => ∃ p c, e = .returned (.slice p 1 c) ∧ Kept [] W w') := Lib.hid (fun W v h => (zruns v catA W h (by decide) (by decide)).mono (fun e w' ⟨u, he, hr, k⟩ => by
    obtain ⟨p, c, rfl⟩ := own_shape hr
    exact ⟨p, c, he, k⟩))
  have hwf1 : ∀ a ∈ runsC catA ++ [], WfRun a := fun a ha => by
    have ha' : a ∈ [((7, 1) : Int × Int)] := by simpa [runsC_catA] using ha
    have : a = (7, 1) := by simpa using ha'
    subst this; unfold WfRun; decide
  have hbg1 : ∀ a ∈ runsC catA ++ [], a.1 ≤ 1099511627776 ∧ a.2 ≤ 1099511627776 ∧ (9 : Int) ≤ 1099511627776 := fun a ha => by
    have ha' : a ∈ [((7, 1) : Int × Int)] := by simpa [runsC_catA] using ha
    have : a = (7, 1) := by simpa using ha'
    subst this; decide
  have HLY : Hid (∀ W v, CatIn W v catA → Calls Tryz.prog 26 #[v, .int .i64 9, .int .i64 2, .slice none 0 0] W fun e w' => e = .returned (.int .i64 0) ∧ Kept [] W w') := Lib.hid (fun W v h => (zlies v catA 9 2 _ [] 0 0 W h (by decide) (by decide) (Or.inl ⟨rfl, none, 0, rfl⟩) (by decide) hwf1 (by decide) (by decide) hbg1).mono (fun e w' ⟨C, he, hc, k⟩ => by
    rcases hc with ⟨rfl, _⟩ | ⟨_, hn⟩
    · exact ⟨he, k⟩
    · exact absurd lies_yes hn))
  have HLN : Hid (∀ W v, CatIn W v catA → Calls Tryz.prog 26 #[v, .int .i64 9, .int .i64 6, .slice none 0 0] W fun e w' => e = .returned (.int .i64 110) ∧ Kept [] W w') := Lib.hid (fun W v h => (zlies v catA 9 6 _ [] 0 0 W h (by decide) (by decide) (Or.inl ⟨rfl, none, 0, rfl⟩) (by decide) hwf1 (by decide) (by decide) hbg1).mono (fun e w' ⟨C, he, hc, k⟩ => by
    rcases hc with ⟨_, hn⟩ | ⟨rfl, _⟩
    · exact absurd hn lies_not
    · exact ⟨he, k⟩))
  have HCHK : Hid (∀ W, Calls Tryz.prog 13 #[.agg #[.int .u32 0, .int .u32 0, .slice none 0 0, .slice none 0 0, .slice none 0 0]] W fun e w' => e = .returned (.int .i64 110) ∧ Kept [] W w') := Lib.hid (fun W => by
    have := zcheck _ catNo W (catNo_in W) ⟨⟨by decide, fun a ha => (by cases ha)⟩, ⟨by decide, fun a ha => (by cases ha)⟩, ⟨by decide, fun a ha => (by cases ha)⟩⟩
    unfold ChkSays at this
    rw [chk_catNo] at this
    exact this)
  clear hwf1 hbg1
  go_enter Tryz.func10, Tryz.ntmps10
  go_wp2_with fail
  refine (HE.out _).mono ?_; rintro e w1 ⟨rfl, k1⟩
  have K1 := Lib.hid k1
  clear k1
  go_wp2_with fail
  refine (HX.out w1).mono ?_; rintro e w2 ⟨cv, rfl, hcv, k2⟩
  have K2 := Lib.hid (K1.out.trans ((((Kept.refl [] w1).alloc (.cells #[.int .i64 7, .int .i64 1] 48)).alloc (.cells #[.int .i64 1, .int .u32 5, .string { data := #[] }, .int .i64 1, .slice (some ⟨w1.heap.size, 0, none⟩) 1 1] 55)).trans k2))
  have hc2 := hcv.plain
  obtain ⟨p1, n1, c1, p2, n2, c2, p3, n3, c3, rfl⟩ := hc2.parts
  have HC2 := Lib.hid hc2
  have eb : catA.nextBox = 6 := rfl
  have em : catA.nextMan = 1 := rfl
  rw [eb, em] at HC2 ⊢
  clear hcv hc2 k2 eb em
  obtain ⟨w3, hw3⟩ : ∃ w3, w3 = w2.alloc (.cells #[.int .u32 6, .int .u32 1, .slice p1 n1 c1, .slice p2 n2 c2, .slice p3 n3 c3] 25) := ⟨_, rfl⟩
  have k3 : Kept [] w2 w3 := by rw [hw3]; exact (Kept.refl _ _).alloc _
  have oA : Own w3 w2.heap.size #[.int .u32 6, .int .u32 1, .slice p1 n1 c1, .slice p2 n2 c2, .slice p3 n3 c3] 25 := by rw [hw3]; exact Own.new _ _ _
  have HC3 := Lib.hid (HC2.out.kept0 k3)
  have K3 := Lib.hid (K2.out.trans k3)
  have HA5 : Hid (∀ W, Kept [] w3 W → W.cell? ⟨w2.heap.size, 0, none⟩ = some (.int .u32 6) ∧ W.cell? ⟨w2.heap.size, 1, none⟩ = some (.int .u32 1) ∧ W.cell? ⟨w2.heap.size, 2, none⟩ = some (.slice p1 n1 c1) ∧ W.cell? ⟨w2.heap.size, 3, none⟩ = some (.slice p2 n2 c2) ∧ W.cell? ⟨w2.heap.size, 4, none⟩ = some (.slice p3 n3 c3)) := Lib.hid (fun W q => (q.own oA (by simp)).k5)
  clear k3 oA
  go_upto_region 2 with fail
  rw [← hw3]
  clear hw3
  generalize w2.heap.size = ba at *
  obtain ⟨x0, x1, x2, x3, x4⟩ := HA5.out w3 (Kept.refl _ _)
  go_wp2_with fail
  refine (HR3.out w3 _ HC3.out).mono ?_; rintro e w4 ⟨v4, rfl, hv4, k4⟩
  obtain ⟨s1, m1, d1, s2, m2, d2, s3, m3, d3, rfl⟩ := hv4.parts
  have K4 := Lib.hid (k4.alloc (.cells #[.int .u32 catNo.nextBox, .int .u32 catNo.nextMan, .slice s1 m1 d1, .slice s2 m2 d2, .slice s3 m3 d3] 25))
  clear hv4 k4 x0 x1 x2 x3 x4
  obtain ⟨x0, x1, x2, x3, x4⟩ := HA5.out _ K4.out
  go_upto_region 3 with fail
  obtain ⟨w5, hw5⟩ : ∃ w5, w5 = w4.alloc (.cells #[.int .u32 catNo.nextBox, .int .u32 catNo.nextMan, .slice s1 m1 d1, .slice s2 m2 d2, .slice s3 m3 d3] 25) := ⟨_, rfl⟩
  rw [← hw5] at K4 x0 x1 x2 x3 x4 ⊢
  clear hw5
  go_wp2_with fail
  refine (HPUT.out w5 _ (HC3.out.kept0 K4.out)).mono ?_; rintro e w6 ⟨rfl, k6⟩
  have K6 := Lib.hid (K4.out.trans k6)
  clear k6 x0 x1 x2 x3 x4 K4
  go_wp2_with fail
  refine (HGET.out w6).mono ?_; rintro e w7 ⟨v7, rfl, hv7, k7⟩
  obtain ⟨s7, m7, d7, s8, m8, d8, s9, m9, d9, rfl⟩ := hv7.parts
  have HV7 := Lib.hid hv7
  have K7 := Lib.hid (K6.out.trans k7)
  clear hv7 k7 K6
  obtain ⟨w8, hw8⟩ : ∃ w8, w8 = w7.alloc (.cells #[.int .u32 catA.nextBox, .int .u32 catA.nextMan, .slice s7 m7 d7, .slice s8 m8 d8, .slice s9 m9 d9] 25) := ⟨_, rfl⟩
  have k8 : Kept [] w7 w8 := by rw [hw8]; exact (Kept.refl _ _).alloc _
  have oB : Own w8 w7.heap.size #[.int .u32 catA.nextBox, .int .u32 catA.nextMan, .slice s7 m7 d7, .slice s8 m8 d8, .slice s9 m9 d9] 25 := by rw [hw8]; exact Own.new _ _ _
  have HB5 : Hid (∀ W, Kept [] w8 W → W.cell? ⟨w7.heap.size, 0, none⟩ = some (.int .u32 catA.nextBox) ∧ W.cell? ⟨w7.heap.size, 1, none⟩ = some (.int .u32 catA.nextMan) ∧ W.cell? ⟨w7.heap.size, 2, none⟩ = some (.slice s7 m7 d7) ∧ W.cell? ⟨w7.heap.size, 3, none⟩ = some (.slice s8 m8 d8) ∧ W.cell? ⟨w7.heap.size, 4, none⟩ = some (.slice s9 m9 d9)) := Lib.hid (fun W q => (q.own oB (by simp)).k5)
  have HV8 := Lib.hid (HV7.out.kept0 k8)
  have K8 := Lib.hid (K7.out.trans k8)
  clear k8 oB HV7 K7
  go_upto_region 5 with fail
  rw [← hw8]
  clear hw8
  generalize w7.heap.size = bb at *
  obtain ⟨x0, x1, x2, x3, x4⟩ := HA5.out w8 K8.out
  go_wp2_with fail
  refine (HBOX.out w8 _ (HC3.out.kept0 K8.out)).mono ?_; rintro e w9 ⟨px, nx, cx, rfl, k9⟩
  have K9 := Lib.hid (k9.alloc (.cells #[.int .u32 5, .string { data := #[] }, .int .i64 1, .slice px nx cx] 58))
  have oI := Own.new w9 #[.int .u32 5, .string { data := #[] }, .int .i64 1, .slice px nx cx] 58
  obtain ⟨wa, hwa⟩ : ∃ wa, wa = w9.alloc (.cells #[.int .u32 5, .string { data := #[] }, .int .i64 1, .slice px nx cx] 58) := ⟨_, rfl⟩
  clear k9 x0 x1 x2 x3 x4
  go_upto_region 6 with fail
  rw [← hwa] at K9 oI ⊢
  clear hwa
  have OI := Lib.hid oI
  have KA := Lib.hid (K8.out.trans K9.out)
  obtain ⟨x0, x1, x2, x3, x4⟩ := HA5.out wa KA.out
  obtain ⟨y0, y1, y2, y3, y4⟩ := HB5.out wa K9.out
  obtain ⟨t0, t1, t2, t3⟩ := oI.c4
  clear oI
  go_wp2_with fail
  refine (HSAME.out wa _ _ (HC3.out.kept0 KA.out) (HV8.out.kept0 K9.out)).mono ?_; rintro e wb ⟨rfl, kb⟩
  have KB := Lib.hid (KA.out.trans kb)
  obtain ⟨t0, t1, t2, t3⟩ := (kb.own OI.out (by simp)).c4
  obtain ⟨x0, x1, x2, x3, x4⟩ := HA5.out wb KB.out
  clear kb y0 y1 y2 y3 y4
  go_wp2_with fail
  refine (HRUNS.out wb _ (HC3.out.kept0 KB.out)).mono ?_; rintro e wc ⟨pr, cr, rfl, kc⟩
  have KC := Lib.hid (KB.out.trans kc)
  obtain ⟨x0, x1, x2, x3, x4⟩ := HA5.out wc KC.out
  clear kc t0 t1 t2 t3
  go_wp2_with fail
  refine (HLY.out wc _ (HC3.out.kept0 KC.out)).mono ?_; rintro e wd ⟨rfl, kd⟩
  have KD := Lib.hid (KC.out.trans kd)
  obtain ⟨x0, x1, x2, x3, x4⟩ := HA5.out wd KD.out
  clear kd
  go_wp2_with fail
  refine (HLN.out wd _ (HC3.out.kept0 KD.out)).mono ?_; rintro e we ⟨rfl, ke⟩
  have KE := Lib.hid (KD.out.trans ke)
  clear ke
  go_wp2_with fail
  refine (HCHK.out we).mono ?_; rintro e wf ⟨rfl, kf⟩
  have KF := Lib.hid (KE.out.trans kf)
  clear kf
  go_wp2_with fail
  go_ret
  exact ⟨rfl, K3.out.trans KF.out⟩
end Go.Proofs.YtakdnchmehmdhaaGreat
