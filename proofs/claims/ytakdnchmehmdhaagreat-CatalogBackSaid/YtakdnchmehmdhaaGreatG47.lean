/- Layer 50 (catalog): the law Back. -/
import Derived.Test.YtakdnchmehmdhaaGreatG23
import Derived.Test.YtakdnchmehmdhaaGreatG24
import Derived.Test.YtakdnchmehmdhaaGreatG43
import Derived.Test.YtakdnchmehmdhaaGreatG45
namespace Go.Proofs.YtakdnchmehmdhaaGreat
open Go.RowKit
set_option linter.unusedVariables false
set_option linter.unusedSimpArgs false

theorem eqK_self (x : JItem) : eqK x x = true := eqK_iff.2 ⟨rfl, rfl⟩
theorem idxK_ins {l : List JItem} {x : JItem} (hn : ¬ hasK l x) : idxK (insI l x) x = posI l x := by
  have hp := posI_le l x
  have hl := insI_len l x
  refine idxK_eq (by omega) (fun j hj => ?_) (fun h => ?_)
  · have e : (insI l x)[j]'(by omega) = l[j]'(by omega) := by
      unfold insI
      rw [List.getElem_append_left (by rw [List.length_take]; omega), List.getElem_take]
    rw [e]
    cases he : eqK (l[j]'(by omega)) x
    · rfl
    · exact absurd (hasK_iff.2 ⟨_, List.getElem_mem (by omega), he⟩) hn
  · have e : (insI l x)[posI l x]? = some x := by
      unfold insI
      rw [List.getElem?_append_right (by rw [List.length_take]; omega)]
      have : posI l x - (l.take (posI l x)).length = 0 := by rw [List.length_take]; omega
      rw [this]; rfl
    rw [List.getElem?_eq_getElem h] at e
    injection e with e
    rw [e]; exact eqK_self x
theorem del_ins {l : List JItem} {x : JItem} : delI (insI l x) (posI l x) = l := by
  have hp := posI_le l x
  have hl : (l.take (posI l x)).length = posI l x := by rw [List.length_take]; omega
  unfold delI insI
  rw [List.take_append_of_le_length (by omega), List.take_of_length_le (by omega), List.drop_append, hl, List.drop_of_length_le (by omega)]
  have : posI l x + 1 - posI l x = 1 := by omega
  rw [this]
  simp
theorem hasK_ins (l : List JItem) (x : JItem) : hasK (insI l x) x := hasK_iff.2 ⟨x, by unfold insI; simp, eqK_self x⟩
theorem goes_ins {l : List JItem} {x : JItem} (hn : ¬ hasK l x) : goesX (insI l x) x = (l, 0) := by
  unfold goesX
  rw [if_pos (hasK_ins l x), idxK_ins hn, del_ins]
theorem comes_ins {l : List JItem} {x : JItem} {next : Int} {most : Nat} (hn : ¬ hasK l x) (h1 : ¬ x.id < next) (h2 : l.length < most) : comesX l x next most false = (insI l x, 0) := by
  unfold comesX
  rw [if_neg (fun h => hn h.1), if_neg (fun h => h.elim hn h1), if_neg (by omega)]
def backL (id : Int) (s : List UInt8) : List JRec := [⟨3, 0, s, 0, []⟩, ⟨1, id, [], 0, []⟩, ⟨6, 0, s, 0, []⟩, ⟨4, id, [], 0, []⟩]
theorem back_may {id : Int} {s : List UInt8} (h1 : 1 ≤ id) (h2 : id ≤ 4294967294) (h3 : 1 ≤ s.length) (h4 : s.length ≤ 48) : ∀ r ∈ backL id s, mayR r = true := by
  have hs : s.isEmpty = false := by cases s with | nil => simp at h3 | cons a t => rfl
  have hid : (decide (id ≠ 0)) = true := decide_eq_true (by omega)
  have hid2 : decide (id ≤ 4294967294) = true := decide_eq_true h2
  have hpl : plB [] 0 = true := by decide
  have hl : decide (s.length ≤ 48) = true := decide_eq_true h4
  intro r hr
  unfold backL at hr
  simp only [List.mem_cons, List.mem_nil_iff, or_false] at hr
  rcases hr with rfl | rfl | rfl | rfl
  · unfold mayR mayG
    simp [hs, h4, hpl, kId, kName, kBlob]
  · unfold mayR mayG
    simp [h2, hpl, kId, kName, kBlob]
    try omega
  · unfold mayR mayG
    simp [hs, h4, hpl, kId, kName, kBlob]
  · unfold mayR mayG
    simp [h2, hpl, kId, kName, kBlob]
    try omega
theorem back_plain {c : JCat} {s : List UInt8} (hm : mayC c) (hl : lightC c) (h2 : c.nextBox ≤ 4294967294) (h3 : 1 ≤ s.length) (h4 : s.length ≤ 48) (hn : ¬ hasK c.names ⟨0, s, 0, []⟩) : applyX c (backL c.nextBox s) = ({ c with nextBox := c.nextBox + 1 }, 0) := by
  have h1 := hm.nb.1
  have hb : ¬ hasK c.boxes ⟨c.nextBox, [], 0, []⟩ := fun hh => by
    obtain ⟨y, hy, he⟩ := hasK_iff.1 hh
    have h5 := hm.nb.2 y hy
    have h6 := (eqK_iff.1 he).1
    have h7 : y.id = c.nextBox := h6
    omega
  have hmr := back_may (s := s) h1 h2 h3 h4
  unfold backL at hmr ⊢
  have m1 := hmr _ (by simp : (⟨3, 0, s, 0, []⟩ : JRec) ∈ _)
  have m2 := hmr _ (by simp : (⟨1, c.nextBox, [], 0, []⟩ : JRec) ∈ _)
  have m3 := hmr _ (by simp : (⟨6, 0, s, 0, []⟩ : JRec) ∈ _)
  have m4 := hmr _ (by simp : (⟨4, c.nextBox, [], 0, []⟩ : JRec) ∈ _)
  obtain ⟨nb, nm, LB, LM, LN⟩ := c
  simp only at *
  have o1 : oneX ⟨nb, nm, LB, LM, LN⟩ ⟨3, 0, s, 0, []⟩ = (⟨nb, nm, LB, LM, insI LN ⟨0, s, 0, []⟩⟩, 0) := by
    have h := comes_ins (next := 0) (most := 256) hn (by simp) (by have := hl.2.2.1; simp only at this; omega)
    unfold oneX
    rw [if_neg (by simp), if_neg (by simp), if_pos rfl]
    simp only [JRec.item]
    rw [h]
  have o2 : oneX ⟨nb, nm, LB, LM, insI LN ⟨0, s, 0, []⟩⟩ ⟨1, nb, [], 0, []⟩ = (⟨nb + 1, nm, insI LB ⟨nb, [], 0, []⟩, LM, insI LN ⟨0, s, 0, []⟩⟩, 0) := by
    have h := comes_ins (next := nb) (most := 2048) hb (by simp) (by have := hl.1.1; simp only at this; omega)
    unfold oneX
    rw [if_pos rfl]
    simp only [JRec.item]
    rw [h]
  have o3 : oneX ⟨nb + 1, nm, insI LB ⟨nb, [], 0, []⟩, LM, insI LN ⟨0, s, 0, []⟩⟩ ⟨6, 0, s, 0, []⟩ = (⟨nb + 1, nm, insI LB ⟨nb, [], 0, []⟩, LM, LN⟩, 0) := by
    unfold oneX
    rw [if_neg (by simp), if_neg (by simp), if_neg (by simp), if_neg (by simp), if_neg (by simp)]
    simp only [JRec.item]
    rw [goes_ins hn]
  have o4 : oneX ⟨nb + 1, nm, insI LB ⟨nb, [], 0, []⟩, LM, LN⟩ ⟨4, nb, [], 0, []⟩ = (⟨nb + 1, nm, LB, LM, LN⟩, 0) := by
    unfold oneX
    rw [if_neg (by simp), if_neg (by simp), if_neg (by simp), if_pos rfl]
    simp only [JRec.item]
    rw [goes_ins hb]
  unfold applyX
  rw [if_pos hm, recsX, if_pos m1, o1, if_pos rfl, recsX, if_pos m2, o2, if_pos rfl, recsX, if_pos m3, o3, if_pos rfl, recsX, if_pos m4, o4, if_pos rfl]
  rfl
/-- records without runs in a block of their own. -/
theorem recs_in {w : World} {b : Nat} {l : List JRec} (o : Own w b (reccells (l.map fun r => (r, .slice none 0 0))).toArray 55) (h0 : l ≠ []) (hr : ∀ r ∈ l, r.runs = []) (hf : ∀ r ∈ l, r.fits) (hl : l.length ≤ maxLen) : RecsIn w (.slice (some ⟨b, 0, none⟩) l.length l.length) l 0 w.heap.size := by
  refine Or.inr ⟨b, 0, l.length, rfl, fun i hi => ?_, Nat.zero_le _, o.lt, Nat.le_refl _, h0, Nat.le_refl _, hl⟩
  refine ⟨[.int .i64 l[i].kind, .int .u32 l[i].id, .string (bs l[i].name), .int .i64 l[i].size, .slice none 0 0], rfl, ⟨.slice none 0 0, rfl, Or.inl ⟨hr _ (List.getElem_mem hi), none, 0, rfl⟩, hf _ (List.getElem_mem hi)⟩, fun j u hj => ?_⟩
  have hg := reccells_get (l.map fun r => (r, .slice none 0 0)) i (by simpa using hi) j u (by simpa using hj)
  obtain ⟨h1, h2⟩ := List.getElem?_eq_some_iff.1 hg
  rw [Nat.zero_add, o.cell (i * 5 + j) (by simpa using h1)]
  simp [h2]
set_option maxRecDepth 100000 in
set_option maxHeartbeats 8000000 in
theorem backLaw (v : Value) (c : JCat) (a : ByteArray) (w : World) (h : CatIn w v c) (ha : a.size ≤ maxLen) :
    Calls Tryz.prog 7 #[v, .string a] w fun e w' => e = .returned (.bool true) ∧ Below w.heap.size w w' := by
  have HAW := Lib.hid zawake
  obtain ⟨s, rfl⟩ : ∃ s, a = bs s := ⟨a.data.toList, (bs_of a).symm⟩
  rw [bs_size] at ha
  have hz : ((bs s).size : Int) = s.length := by rw [bs_size]
  have hz2 : (bs s).size = s.length := bs_size s
  have hal : (s.length : Int) ≤ 9223372036854775807 := by unfold maxLen at ha; omega
  have HLI : Hid (∀ W, Kept [] w W → Calls Tryz.prog 9 #[v] W (EqSays (lightC c) W)) := Lib.hid (fun W q => zlight v c W (h.kept0 q))
  have HMY : Hid (∀ W, Kept [] w W → lightC c → Calls Tryz.prog 12 #[v] W (EqSays (mayC c) W)) := Lib.hid (fun W q hl => qmayC v c W (h.kept0 q) hl.small)
  have HCI : Hid (∀ W, Kept [] w W → CatIn W v c) := Lib.hid (fun W q => h.kept0 q)
  have HAP : Hid (∀ W, Kept [] w W → mayC c → lightC c → c.nextBox ≤ 4294967294 → 1 ≤ s.length → s.length ≤ 48 → ¬ hasK c.names ⟨0, s, 0, []⟩ → Calls Tryz.prog 22 #[v, .slice (some ⟨W.heap.size, 0, none⟩) 4 4] (W.alloc (.cells #[.int .i64 3, .int .u32 0, .string (bs s), .int .i64 0, .slice none 0 0, .int .i64 1, .int .u32 c.nextBox, .string { data := #[] }, .int .i64 0, .slice none 0 0, .int .i64 6, .int .u32 0, .string (bs s), .int .i64 0, .slice none 0 0, .int .i64 4, .int .u32 c.nextBox, .string { data := #[] }, .int .i64 0, .slice none 0 0] 55)) fun e w' => ∃ u, e = .returned (.tuple #[u, .int .i64 0]) ∧ CatIn w' u { c with nextBox := c.nextBox + 1 } ∧ Kept [] W w') := Lib.hid (fun W q hm hl h2 h3 h4 hn => by
    have k : Kept [] W (W.alloc (.cells #[.int .i64 3, .int .u32 0, .string (bs s), .int .i64 0, .slice none 0 0, .int .i64 1, .int .u32 c.nextBox, .string { data := #[] }, .int .i64 0, .slice none 0 0, .int .i64 6, .int .u32 0, .string (bs s), .int .i64 0, .slice none 0 0, .int .i64 4, .int .u32 c.nextBox, .string { data := #[] }, .int .i64 0, .slice none 0 0] 55)) := (Kept.refl _ _).alloc _
    have o : Own (W.alloc (.cells #[.int .i64 3, .int .u32 0, .string (bs s), .int .i64 0, .slice none 0 0, .int .i64 1, .int .u32 c.nextBox, .string { data := #[] }, .int .i64 0, .slice none 0 0, .int .i64 6, .int .u32 0, .string (bs s), .int .i64 0, .slice none 0 0, .int .i64 4, .int .u32 c.nextBox, .string { data := #[] }, .int .i64 0, .slice none 0 0] 55)) W.heap.size (reccells ((backL c.nextBox s).map fun r => (r, .slice none 0 0))).toArray 55 := Own.new _ _ _
    have hnb := (bd32 h.fit.1)
    have hin := recs_in o (by unfold backL; simp) (fun r hr => by
      unfold backL at hr
      simp only [List.mem_cons, List.mem_nil_iff, or_false] at hr
      rcases hr with rfl | rfl | rfl | rfl <;> rfl) (fun r hr => by
      unfold backL at hr
      simp only [List.mem_cons, List.mem_nil_iff, or_false] at hr
      rcases hr with rfl | rfl | rfl | rfl
      · exact ⟨show (Lit.int .i64 3).wf = true by decide, show (Lit.int .u32 0).wf = true by decide, ha, show (Lit.int .i64 0).wf = true by decide⟩
      · exact ⟨show (Lit.int .i64 1).wf = true by decide, h.fit.1, by simp, show (Lit.int .i64 0).wf = true by decide⟩
      · exact ⟨show (Lit.int .i64 6).wf = true by decide, show (Lit.int .u32 0).wf = true by decide, ha, show (Lit.int .i64 0).wf = true by decide⟩
      · exact ⟨show (Lit.int .i64 4).wf = true by decide, h.fit.1, by simp, show (Lit.int .i64 0).wf = true by decide⟩) (by unfold backL maxLen; simp)
    have hh := zApply (S0 := fun _ => False) v c _ (backL c.nextBox s) _ _ _ (((h.kept0 q).kept0 k).offS (fun x hx => hx.elim)) (fun x hx => hx.elim) hl.small hin (fun r hr x hx => by
      have : r.runs = [] := by
        unfold backL at hr
        simp only [List.mem_cons, List.mem_nil_iff, or_false] at hr
        rcases hr with rfl | rfl | rfl | rfl <;> rfl
      rw [this] at hx; cases hx) (fun r hr => by
      have : r.runs = [] := by
        unfold backL at hr
        simp only [List.mem_cons, List.mem_nil_iff, or_false] at hr
        rcases hr with rfl | rfl | rfl | rfl <;> rfl
      rw [this]; simp)
    rw [back_plain hm hl h2 h3 h4 hn] at hh
    exact hh.mono (fun e w' ⟨u, he, hu, kk⟩ => ⟨u, he, hu.plain, k.trans kk⟩))
  have HSAME : Hid (∀ W u, Kept [] w W → lightC c → CatIn W u c → Calls Tryz.prog 15 #[v, u] W fun e w' => e = .returned (.bool true) ∧ Kept [] W w') := Lib.hid (fun W u q hl h2 => (qcatSame v u c c W (h.kept0 q) h2 hl.small hl.small).mono (fun e w' ⟨b, he, hb, k⟩ => ⟨by rw [he, hb.2 rfl], k⟩))
  have HFIT := Lib.hid h.fit
  obtain ⟨vb, vm, vn, rfl, hb, hm, hn, _⟩ := h
  have HAT : Hid (∀ W, Kept [] w W → lightC c → Calls Tryz.prog 27 #[vn, .int .u32 0, .string (bs s)] W (QAtSays c.names ⟨0, s, 0, []⟩ W)) := Lib.hid (fun W q hl => qat vn c.names ⟨0, s, 0, []⟩ W (hn.kept0 q) (by have := hl.2.2.1; omega))
  obtain ⟨p1, c1, rfl⟩ := hb.shape
  obtain ⟨p2, c2, rfl⟩ := hm.shape
  obtain ⟨p3, c3, rfl⟩ := hn.shape
  have oA := Own.new w #[.int .u32 c.nextBox, .int .u32 c.nextMan, .slice p1 c.boxes.length c1, .slice p2 c.mans.length c2, .slice p3 c.names.length c3] 25
  have k0 : Kept [] w (w.alloc (.cells #[.int .u32 c.nextBox, .int .u32 c.nextMan, .slice p1 c.boxes.length c1, .slice p2 c.mans.length c2, .slice p3 c.names.length c3] 25)) := (Kept.refl _ _).alloc _
  have HA5 : Hid (∀ W, Kept [] (w.alloc (.cells #[.int .u32 c.nextBox, .int .u32 c.nextMan, .slice p1 c.boxes.length c1, .slice p2 c.mans.length c2, .slice p3 c.names.length c3] 25)) W → W.cell? ⟨w.heap.size, 0, none⟩ = some (.int .u32 c.nextBox) ∧ W.cell? ⟨w.heap.size, 1, none⟩ = some (.int .u32 c.nextMan) ∧ W.cell? ⟨w.heap.size, 2, none⟩ = some (.slice p1 c.boxes.length c1) ∧ W.cell? ⟨w.heap.size, 3, none⟩ = some (.slice p2 c.mans.length c2) ∧ W.cell? ⟨w.heap.size, 4, none⟩ = some (.slice p3 c.names.length c3)) := Lib.hid (fun W q => (q.own oA (by simp)).k5)
  have K0 := Lib.hid k0
  obtain ⟨x0, x1, x2, x3, x4⟩ := HA5.out _ (Kept.refl _ _)
  unfold EqSays at HLI HMY
  unfold QAtSays at HAT
  clear hb hm hn oA k0 ha
  go_enter Tryz.func7, Tryz.ntmps7
  go_wp2_with fail
  refine (HLI.out _ K0.out).mono ?_; rintro e w1 ⟨b1, rfl, hb1, k1⟩
  have K1 := Lib.hid (K0.out.trans k1)
  have KX1 := Lib.hid k1
  have HB1 := Lib.hid hb1
  clear hb1 k1 x0 x1 x2 x3 x4
  cases b1 with
  | false =>
    go_wp2_with fail
    refine (HAW.out _).mono ?_; rintro e w9 ⟨rfl, k9⟩
    have K9 := Lib.hid (K1.out.trans k9)
    clear k9
    go_wp2_with fail
    go_ret
    exact ⟨rfl, K9.out.below⟩
  | true =>
    have HL := Lib.hid (HB1.out.1 (by simp))
    obtain ⟨x0, x1, x2, x3, x4⟩ := HA5.out _ KX1.out
    go_wp2_with fail
    refine (HMY.out _ K1.out HL.out).mono ?_; rintro e w2 ⟨b2, rfl, hb2, k2⟩
    have K2 := Lib.hid (K1.out.trans k2)
    have KX2 := Lib.hid (KX1.out.trans k2)
    have HB2 := Lib.hid hb2
    clear hb2 k2 x0 x1 x2 x3 x4
    cases b2 with
    | false =>
      go_wp2_with fail
      refine (HAW.out _).mono ?_; rintro e w9 ⟨rfl, k9⟩
      have K9 := Lib.hid (K2.out.trans k9)
      clear k9
      go_wp2_with fail
      go_ret
      exact ⟨rfl, K9.out.below⟩
    | true =>
      have HM := Lib.hid (HB2.out.1 (by simp))
      by_cases g1 : 1 ≤ s.length
      · have d1 : decide ((s.length : Int) < 1) = false := by simp; omega
        by_cases g2 : s.length ≤ 48
        · have d2 : decide ((s.length : Int) > 48) = false := by simp; omega
          have d2n : decide (48 < s.length) = false := by simp; omega
          by_cases g3 : c.nextBox ≤ 4294967294
          · have d3 : decide (c.nextBox > 4294967294) = false := by simp; omega
            have d3' : decide (4294967294 < c.nextBox) = false := d3
            have HWN : Hid (IntKind.u32.wrap (c.nextBox + 1) = c.nextBox + 1) := Lib.hid (wrap32_of (by have := (bd32 HFIT.out.1).1; omega) (by omega))
            have G := Lib.hid (And.intro g1 (And.intro g2 g3))
            obtain ⟨x0, x1, x2, x3, x4⟩ := HA5.out _ KX2.out
            clear g1 g2 g3
            go_wp2_with fail
            refine (HAT.out _ K2.out HL.out).mono ?_; rintro e w3 ⟨rfl, k3⟩
            have K3 := Lib.hid (K2.out.trans k3)
            have KX3 := Lib.hid (KX2.out.trans k3)
            clear k3 x0 x1 x2 x3 x4
            by_cases hk : hasK c.names ⟨0, s, 0, []⟩
            · have hat : atI c.names ⟨0, s, 0, []⟩ = (idxK c.names ⟨0, s, 0, []⟩ : Int) := by unfold atI; exact if_pos hk
              rw [hat]
              clear hat hk
              generalize idxK c.names ⟨0, s, 0, []⟩ = ii
              have d4 : decide ((ii : Int) ≥ 0) = true := by simp
              go_wp2_with fail
              refine (HAW.out _).mono ?_; rintro e w9 ⟨rfl, k9⟩
              have K9 := Lib.hid (K3.out.trans k9)
              clear k9
              go_wp2_with fail
              go_ret
              exact ⟨rfl, K9.out.below⟩
            · have hat : atI c.names ⟨0, s, 0, []⟩ = -1 := by unfold atI; exact if_neg hk
              rw [hat]
              have HK := Lib.hid hk
              clear hat hk
              obtain ⟨x0, x1, x2, x3, x4⟩ := HA5.out _ KX3.out
              go_wp2_with fail
              refine (HAP.out _ K3.out HM.out HL.out G.out.2.2 G.out.1 G.out.2.1 HK.out).mono ?_; rintro e w4 ⟨u, rfl, hu, k4⟩
              obtain ⟨a1, a2, a3, b1, b2, b3, d1, d2, d3, rfl⟩ := hu.parts
              simp only at hu ⊢
              obtain ⟨w5, hw5⟩ : ∃ w5, w5 = w4.alloc (.cells #[.int .u32 (c.nextBox + 1), .int .u32 c.nextMan, .slice a1 a2 a3, .slice b1 b2 b3, .slice d1 d2 d3] 25) := ⟨_, rfl⟩
              have k5 : Kept [] w4 w5 := by rw [hw5]; exact (Kept.refl _ _).alloc _
              have oB : Own w5 w4.heap.size #[.int .u32 (c.nextBox + 1), .int .u32 c.nextMan, .slice a1 a2 a3, .slice b1 b2 b3, .slice d1 d2 d3] 25 := by rw [hw5]; exact Own.new _ _ _
              have K5 := Lib.hid (K3.out.trans (k4.trans k5))
              have KX5 := Lib.hid (KX3.out.trans (k4.trans k5))
              have kS : Kept [] w4 (w5.setCell ⟨w4.heap.size, 0, none⟩ (.int .u32 c.nextBox)) := k5.setCell (p := ⟨w4.heap.size, 0, none⟩) (Or.inr (Nat.le_refl _)) _
              have KS := Lib.hid (K3.out.trans (k4.trans kS))
              have KXS := Lib.hid (KX3.out.trans (k4.trans kS))
              have oS := oB.set 0 (.int .u32 c.nextBox)
              have hcS : CatIn (w5.setCell ⟨w4.heap.size, 0, none⟩ (.int .u32 c.nextBox)) (.agg #[.int .u32 c.nextBox, .int .u32 c.nextMan, .slice a1 a2 a3, .slice b1 b2 b3, .slice d1 d2 d3]) c := by
                obtain ⟨q1, q2, q3, qe, i1, i2, i3, i4, i5⟩ := hu.kept0 kS
                simp at qe
                obtain ⟨rfl, rfl, rfl⟩ := qe
                exact ⟨_, _, _, rfl, i1, i2, i3, HFIT.out.1, i5⟩
              have HCS := Lib.hid hcS
              have OB := Lib.hid oB
              have OS : Hid (Own (w5.setCell ⟨w4.heap.size, 0, none⟩ (.int .u32 c.nextBox)) w4.heap.size #[.int .u32 c.nextBox, .int .u32 c.nextMan, .slice a1 a2 a3, .slice b1 b2 b3, .slice d1 d2 d3] 25) := Lib.hid (by simpa using oS)
              clear hu k4 k5 kS oB oS hcS x0 x1 x2 x3 x4
              go_upto_region 7 with fail
              rw [← hw5]
              clear hw5
              generalize w4.heap.size = bb at *
              obtain ⟨y0, y1, y2, y3, y4⟩ := OB.out.k5
              obtain ⟨f0, f1, f2, f3, f4⟩ := OB.out.y5
              obtain ⟨s0, s1, s2, s3, s4⟩ := OS.out.k5
              obtain ⟨x0, x1, x2, x3, x4⟩ := HA5.out _ KXS.out
              have hcc : ((c.nextBox + 1) == (c.nextBox + 1)) = true := by simp
              have hwn := HWN.out
              go_wp2_with fail
              refine (HSAME.out _ _ KS.out HL.out HCS.out).mono ?_; rintro e w7 ⟨rfl, k7⟩
              have K7 := Lib.hid (KS.out.trans k7)
              clear k7 y0 y1 y2 y3 y4 f0 f1 f2 f3 f4 s0 s1 s2 s3 s4 x0 x1 x2 x3 x4 hwn
              go_wp2_with fail
              refine (HAW.out _).mono ?_; rintro e w9 ⟨rfl, k9⟩
              have K9 := Lib.hid (K7.out.trans k9)
              clear k9
              go_wp2_with fail
              go_ret
              exact ⟨rfl, K9.out.below⟩
          · have d3 : decide (c.nextBox > 4294967294) = true := by simp; omega
            have d3' : decide (4294967294 < c.nextBox) = true := d3
            obtain ⟨x0, x1, x2, x3, x4⟩ := HA5.out _ KX2.out
            clear g1 g2 g3
            go_wp2_with fail
            refine (HAW.out _).mono ?_; rintro e w9 ⟨rfl, k9⟩
            have K9 := Lib.hid (K2.out.trans k9)
            clear k9
            go_wp2_with fail
            go_ret
            exact ⟨rfl, K9.out.below⟩
        · have d2 : decide ((s.length : Int) > 48) = true := by simp; omega
          have d2n : decide (48 < s.length) = true := by simp; omega
          clear g1 g2
          go_wp2_with fail
          refine (HAW.out _).mono ?_; rintro e w9 ⟨rfl, k9⟩
          have K9 := Lib.hid (K2.out.trans k9)
          clear k9
          go_wp2_with fail
          go_ret
          exact ⟨rfl, K9.out.below⟩
      · have d1 : decide ((s.length : Int) < 1) = true := by simp; omega
        clear g1
        go_wp2_with fail
        refine (HAW.out _).mono ?_; rintro e w9 ⟨rfl, k9⟩
        have K9 := Lib.hid (K2.out.trans k9)
        clear k9
        go_wp2_with fail
        go_ret
        exact ⟨rfl, K9.out.below⟩
end Go.Proofs.YtakdnchmehmdhaaGreat
