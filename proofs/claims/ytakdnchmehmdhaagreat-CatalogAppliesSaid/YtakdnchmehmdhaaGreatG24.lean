/- Layer 26 (catalog): the document's sameItems and Same. -/
import Derived.Test.YtakdnchmehmdhaaGreatG23
namespace Go.Proofs.YtakdnchmehmdhaaGreat
open Go.RowKit
set_option linter.unusedVariables false
set_option linter.unusedSimpArgs false

set_option maxRecDepth 100000 in
set_option maxHeartbeats 4000000 in
theorem qsameItems (va vb : Value) (l m : List JItem) (w : World) (h : ItemsIn w va l) (h' : ItemsIn w vb m) (hl : SmallL l) (hm : SmallL m) :
    Calls Tryz.prog 48 #[va, vb] w (EqSays (l = m) w) := by
  obtain ⟨pa, ca, rfl⟩ := h.shape
  obtain ⟨pb, cb, rfl⟩ := h'.shape
  have H := Lib.hid h
  have H2 := Lib.hid h'
  have HL := Lib.hid hl
  have HM := Lib.hid hm
  have j1 : (l.length : Int) ≤ 1000000 := by have := hl.1; omega
  have j2 : (m.length : Int) ≤ 1000000 := by have := hm.1; omega
  have hsm := qsameItem
  have HSM := Lib.hid hsm
  clear h h' hl hm hsm
  by_cases hne : l.length = m.length
  · have hne3 : Hid (l.length = m.length) := Lib.hid hne
    rw [← hne]
    clear hne j2
    go_enter Tryz.func48, Tryz.ntmps48
    go_wp2_with fail
    go_loopw [5] (fun i wr => ∃ k : Nat, k ≤ l.length ∧ i = .int .i64 k ∧ l.take k = m.take k ∧ Kept [] w wr) (fun i _ => l.length - (intOf i).toNat)
    case atStart => exact ⟨0, Nat.zero_le _, rfl, rfl, Kept.refl _ _⟩
    case round =>
      obtain ⟨k, hk, rfl, htk, hK⟩ := hrel
      by_cases hlt : k < l.length
      · have hlt2 : k < m.length := by have := hne3.out; omega
        obtain ⟨b, off, kva, rfl, hia, hb, hc1, hc2, HA⟩ := H.out.at4 k hlt
        obtain ⟨b', off', kvb, rfl, hib, hb', hc1', hc2', HB⟩ := H2.out.at4 k hlt2
        have hsame := fun W (q : Kept [] w W) => HSM.out (l[k]'hlt) (m[k]'hlt2) kva kvb W (hia.kept0 q) (hib.kept0 q) (HL.out.2 _ (List.getElem_mem hlt)) (HM.out.2 _ (List.getElem_mem hlt2))
        obtain ⟨p1, n1, c1, rfl⟩ := hia.slv
        obtain ⟨p2, n2, c2, rfl⟩ := hib.slv
        obtain ⟨S, hS⟩ : ∃ S, JItem.same (l[k]'hlt) (m[k]'hlt2) = S := ⟨_, rfl⟩
        have hSe : S = true ↔ l[k]'hlt = m[k]'hlt2 := by rw [← hS]; exact JItem.same_iff
        simp only [hS] at hsame
        have i1 : (k : Int) < l.length := by omega
        unfold JItem.cells at hsame
        have HSA := Lib.hid hsame
        have HSE := Lib.hid hSe
        have HTK := Lib.hid htk
        have HKK := Lib.hid hK
        have HA2 := Lib.hid HA
        have HB2 := Lib.hid HB
        clear hia hib hsame hS hSe htk hK HA HB hb hb'
        generalize hLA : l[k]'hlt = A at *
        generalize hLB : m[k]'hlt2 = B at *
        have HLA := Lib.hid hLA
        have HLB := Lib.hid hLB
        have HLT := Lib.hid (And.intro hlt hlt2)
        clear hLA hLB
        go_wp2_with fail
        refine wp_region_held_drew (S := (fun W => W.cell? ⟨b, off + k * 4, none⟩ = some (.int .u32 A.id) ∧ W.cell? ⟨b, off + k * 4 + 1, none⟩ = some (.string (bs A.name)) ∧ W.cell? ⟨b, off + k * 4 + 2, none⟩ = some (.int .i64 A.size) ∧ W.cell? ⟨b, off + k * 4 + 3, none⟩ = some (.slice p1 n1 c1) ∧ W.cell? ⟨b', off' + k * 4, none⟩ = some (.int .u32 B.id) ∧ W.cell? ⟨b', off' + k * 4 + 1, none⟩ = some (.string (bs B.name)) ∧ W.cell? ⟨b', off' + k * 4 + 2, none⟩ = some (.int .i64 B.size) ∧ W.cell? ⟨b', off' + k * 4 + 3, none⟩ = some (.slice p2 n2 c2))) (by kernel_rfl) (by (obtain ⟨x0, x1, x2, x3⟩ := HA2.out _ HKK.out.drew; obtain ⟨y0, y1, y2, y3⟩ := HB2.out _ HKK.out.drew; exact ⟨x0, x1, x2, x3, y0, y1, y2, y3⟩)) (fun hHeld => ?_)
        refine take_at (i := 0) (d := some 17) (v := ?_) rfl rfl (by kernel_rfl) (by kernel_rfl) (by kernel_rfl) (fun _ _ _ h => h) (Or.inl ⟨by rfl, ?_⟩) (by assumption) ?_
        rotate_left
        · (intro w hSw; (try dsimp only at hSw); go_simp; try with_reducible rfl)
        try simp only [Act.put, List.setIfInBounds_toArray, List.set_cons_zero, List.set_cons_succ]
        refine take_at (i := 1) (d := some 18) (v := ?_) rfl rfl (by kernel_rfl) (by kernel_rfl) (by kernel_rfl) (fun _ _ _ h => h) (Or.inl ⟨by rfl, ?_⟩) (by assumption) ?_
        rotate_left
        · (intro w hSw; (try dsimp only at hSw); go_simp; try with_reducible rfl)
        try simp only [Act.put, List.setIfInBounds_toArray, List.set_cons_zero, List.set_cons_succ]
        refine take_at (i := 2) (d := some 19) (v := ?_) rfl rfl (by kernel_rfl) (by kernel_rfl) (by kernel_rfl) (fun _ _ _ h => h) (Or.inl ⟨by rfl, ?_⟩) (by assumption) ?_
        rotate_left
        · (intro w hSw; (try dsimp only at hSw); go_simp; try with_reducible rfl)
        try simp only [Act.put, List.setIfInBounds_toArray, List.set_cons_zero, List.set_cons_succ]
        refine take_at (i := 3) (d := some 20) (v := ?_) rfl rfl (by kernel_rfl) (by kernel_rfl) (by kernel_rfl) (fun _ _ _ h => h) (Or.inl ⟨by rfl, ?_⟩) (by assumption) ?_
        rotate_left
        · (intro w hSw; (try dsimp only at hSw); go_simp; try with_reducible rfl)
        try simp only [Act.put, List.setIfInBounds_toArray, List.set_cons_zero, List.set_cons_succ]
        refine take_at (i := 4) (d := some 21) (v := ?_) rfl rfl (by kernel_rfl) (by kernel_rfl) (by kernel_rfl) (fun _ _ _ h => h) (Or.inl ⟨by rfl, ?_⟩) (by assumption) ?_
        rotate_left
        · (intro w hSw; (try dsimp only at hSw); go_simp; try with_reducible rfl)
        try simp only [Act.put, List.setIfInBounds_toArray, List.set_cons_zero, List.set_cons_succ]
        refine take_at (i := 5) (d := some 22) (v := ?_) rfl rfl (by kernel_rfl) (by kernel_rfl) (by kernel_rfl) (fun _ _ _ h => h) (Or.inl ⟨by rfl, ?_⟩) (by assumption) ?_
        rotate_left
        · (intro w hSw; (try dsimp only at hSw); go_simp; try with_reducible rfl)
        try simp only [Act.put, List.setIfInBounds_toArray, List.set_cons_zero, List.set_cons_succ]
        refine take_at (i := 6) (d := some 23) (v := ?_) rfl rfl (by kernel_rfl) (by kernel_rfl) (by kernel_rfl) (fun _ _ _ h => h) (Or.inl ⟨by rfl, ?_⟩) (by assumption) ?_
        rotate_left
        · (intro w hSw; (try dsimp only at hSw); go_simp; try with_reducible rfl)
        try simp only [Act.put, List.setIfInBounds_toArray, List.set_cons_zero, List.set_cons_succ]
        refine take_at (i := 7) (d := some 24) (v := ?_) rfl rfl (by kernel_rfl) (by kernel_rfl) (by kernel_rfl) (fun _ _ _ h => h) (Or.inl ⟨by rfl, ?_⟩) (by assumption) ?_
        rotate_left
        · (intro w hSw; (try dsimp only at hSw); go_simp; try with_reducible rfl)
        try simp only [Act.put, List.setIfInBounds_toArray, List.set_cons_zero, List.set_cons_succ]
        refine wpAnyH_ready (rs := [8]) (by kernel_rfl) (by simp) ?_
        refine (AllReadyH.cons rfl (fun K hK => ?_) AllReadyH.nil)
        go_simp
        ((with_reducible refine (HSA.out _ HKK.out.drew).mono ?_)); rintro e w2 ⟨rfl, k2⟩
        have KK := Lib.hid (HKK.out.drew.trans k2)
        go_wp2_with fail
        refine hK.out _ _ ?_ (fun hHeld => ?_)
        · (obtain ⟨x0, x1, x2, x3⟩ := HA2.out _ KK.out; obtain ⟨y0, y1, y2, y3⟩ := HB2.out _ KK.out; exact ⟨x0, x1, x2, x3, y0, y1, y2, y3⟩)
        clear hK K
        try simp only [Act.put, List.setIfInBounds_toArray, List.set_cons_zero, List.set_cons_succ]
        refine take_at (i := 9) (d := some 26) (v := ?_) rfl rfl (by kernel_rfl) (by kernel_rfl) (by kernel_rfl) (fun _ _ _ h => h) (Or.inl ⟨by rfl, ?_⟩) (by assumption) ?_
        rotate_left
        · (intro w hSw; (try dsimp only at hSw); go_simp; try with_reducible rfl)
        try simp only [Act.put, List.setIfInBounds_toArray, List.set_cons_zero, List.set_cons_succ]
        refine wpAnyH_done (by kernel_rfl) ?_ _
        cases S with
        | true =>
          go_wp2_with fail
          go_roundw
          case rel => exact ⟨k + 1, HLT.out.1, by go_num, take_same HLT.out.1 HLT.out.2 HTK.out (by rw [HLA.out, HLB.out]; exact HSE.out.1 (by simp)), KK.out⟩
          case measure => (have h := HLT.out.1; simp [intOf]; omega)
        | false =>
          go_wp2_with fail
          go_ret
          exact eqSays_no (fun e => by subst e; have h1 := HLA.out; have h2 := HLB.out; rw [h1] at h2; have := HSE.out.2 h2; cases this) KK.out
      · obtain rfl : k = l.length := by omega
        have he : l = m := by
          rw [List.take_length, hne3.out, List.take_length] at htk
          exact htk
        have HE := Lib.hid he
        have i1 : ¬ (l.length : Int) < l.length := by omega
        clear htk he
        go_wp2_with fail
        go_ret
        exact eqSays_yes HE.out hK
  · have hne2 : ¬ (l.length : Int) = m.length := by omega
    have HNE := Lib.hid hne
    clear hne
    go_enter Tryz.func48, Tryz.ntmps48
    go_wp2_with fail
    go_ret
    exact eqSays_no (fun e => HNE.out (by rw [e])) (Kept.refl _ _)
set_option maxRecDepth 100000 in
set_option maxHeartbeats 4000000 in
theorem qcatSame (va vb : Value) (a b : JCat) (w : World) (h : CatIn w va a) (h' : CatIn w vb b) (hl : SmallC a) (hm : SmallC b) :
    Calls Tryz.prog 15 #[va, vb] w (EqSays (a = b) w) := by
  have hc := JCat.six a b
  obtain ⟨b1, m1, n1, rfl, hb1, hm1, hn1, _⟩ := h
  obtain ⟨b2, m2, n2, rfl, hb2, hm2, hn2, _⟩ := h'
  have HB : Hid (∀ W, Kept [] w W → Calls Tryz.prog 48 #[b1, b2] W (EqSays (a.boxes = b.boxes) W)) := Lib.hid (fun W q => qsameItems _ _ _ _ W (hb1.kept0 q) (hb2.kept0 q) hl.1 hm.1)
  have HM : Hid (∀ W, Kept [] w W → Calls Tryz.prog 48 #[m1, m2] W (EqSays (a.mans = b.mans) W)) := Lib.hid (fun W q => qsameItems _ _ _ _ W (hm1.kept0 q) (hm2.kept0 q) hl.2.1 hm.2.1)
  have HN : Hid (∀ W, Kept [] w W → Calls Tryz.prog 48 #[n1, n2] W (EqSays (a.names = b.names) W)) := Lib.hid (fun W q => qsameItems _ _ _ _ W (hn1.kept0 q) (hn2.kept0 q) hl.2.2 hm.2.2)
  obtain ⟨p1, c1, rfl⟩ := hb1.shape
  obtain ⟨p2, c2, rfl⟩ := hm1.shape
  obtain ⟨p3, c3, rfl⟩ := hn1.shape
  obtain ⟨q1, d1, rfl⟩ := hb2.shape
  obtain ⟨q2, d2, rfl⟩ := hm2.shape
  obtain ⟨q3, d3, rfl⟩ := hn2.shape
  unfold EqSays at HB HM HN
  clear hb1 hm1 hn1 hb2 hm2 hn2 hl hm
  obtain ⟨Q, hQ⟩ : ∃ Q : Prop, (a = b) = Q := ⟨_, rfl⟩
  obtain ⟨QB, hQB⟩ : ∃ Q : Prop, (a.boxes = b.boxes) = Q := ⟨_, rfl⟩
  obtain ⟨QM, hQM⟩ : ∃ Q : Prop, (a.mans = b.mans) = Q := ⟨_, rfl⟩
  obtain ⟨QN, hQN⟩ : ∃ Q : Prop, (a.names = b.names) = Q := ⟨_, rfl⟩
  have HQ0 : Hid (((a.nextBox == b.nextBox) = false ∧ ¬ Q) ∨ ((a.nextBox == b.nextBox) = true ∧ (a.nextMan == b.nextMan) = false ∧ ¬ Q) ∨ ((a.nextBox == b.nextBox) = true ∧ (a.nextMan == b.nextMan) = true ∧ (Q ↔ QB ∧ QM ∧ QN))) := by
    rw [← hQ, ← hQB, ← hQM, ← hQN]; exact hc
  rw [hQ]
  rw [hQB] at HB
  rw [hQM] at HM
  rw [hQN] at HN
  clear hc hQ hQB hQM hQN
  generalize a.nextBox = nb at *
  generalize a.nextMan = nm at *
  generalize b.nextBox = nb2 at *
  generalize b.nextMan = nm2 at *
  generalize a.boxes.length = l1 at *
  generalize a.mans.length = l2 at *
  generalize a.names.length = l3 at *
  generalize b.boxes.length = l4 at *
  generalize b.mans.length = l5 at *
  generalize b.names.length = l6 at *
  obtain ⟨oA, oB⟩ := own_two w #[.int .u32 nb, .int .u32 nm, .slice p1 l1 c1, .slice p2 l2 c2, .slice p3 l3 c3] #[.int .u32 nb2, .int .u32 nm2, .slice q1 l4 d1, .slice q2 l5 d2, .slice q3 l6 d3] 25 25
  have k0 := ((Kept.refl [] w).alloc (.cells #[.int .u32 nb, .int .u32 nm, .slice p1 l1 c1, .slice p2 l2 c2, .slice p3 l3 c3] 25)).alloc (.cells #[.int .u32 nb2, .int .u32 nm2, .slice q1 l4 d1, .slice q2 l5 d2, .slice q3 l6 d3] 25)
  have K0 := Lib.hid k0
  obtain ⟨x0, x1, x2, x3, x4⟩ := oA.k5
  obtain ⟨y0, y1, y2, y3, y4⟩ := oB.k5
  have OA := Lib.hid oA
  have OB := Lib.hid oB
  clear k0 oA oB
  rcases HQ0.out with ⟨h1, h2⟩ | ⟨h1, h3, h2⟩ | ⟨h1, h3, h2⟩
  · have HN2 := Lib.hid h2
    clear h2 HQ0
    go_enter Tryz.func15, Tryz.ntmps15
    go_wp2_with fail
    go_ret
    exact eqSays_no HN2.out K0.out
  · have HN2 := Lib.hid h2
    clear h2 HQ0
    go_enter Tryz.func15, Tryz.ntmps15
    go_wp2_with fail
    go_ret
    exact eqSays_no HN2.out K0.out
  · have HQ2 := Lib.hid h2
    clear h2 HQ0
    go_enter Tryz.func15, Tryz.ntmps15
    go_wp2_with fail
    refine (HB.out _ K0.out).mono ?_; rintro e w2 ⟨r1, rfl, e1, k2⟩
    have K2 := Lib.hid (K0.out.trans k2)
    have E1 := Lib.hid e1
    have oA2 := k2.own OA.out (by simp)
    have oB2 := k2.own OB.out (by simp)
    obtain ⟨x0, x1, x2, x3, x4⟩ := oA2.k5
    obtain ⟨y0, y1, y2, y3, y4⟩ := oB2.k5
    have OA2 := Lib.hid oA2
    have OB2 := Lib.hid oB2
    clear e1 oA2 oB2
    cases r1 with
    | false =>
      go_wp2_with fail
      go_ret
      exact eqSays_no (fun q => by have := E1.out.2 (HQ2.out.1 q).1; cases this) K2.out
    | true =>
      go_wp2_with fail
      refine (HM.out _ K2.out).mono ?_; rintro e w3 ⟨r2, rfl, e2, k3⟩
      have K3 := Lib.hid (K2.out.trans k3)
      have E2 := Lib.hid e2
      have oA3 := k3.own OA2.out (by simp)
      have oB3 := k3.own OB2.out (by simp)
      obtain ⟨x0, x1, x2, x3, x4⟩ := oA3.k5
      obtain ⟨y0, y1, y2, y3, y4⟩ := oB3.k5
      clear e2 oA3 oB3
      cases r2 with
      | false =>
        go_wp2_with fail
        go_ret
        exact eqSays_no (fun q => by have := E2.out.2 (HQ2.out.1 q).2.1; cases this) K3.out
      | true =>
        go_wp2_with fail
        refine (HN.out _ K3.out).mono ?_; rintro e w4 ⟨r3, rfl, e3, k4⟩
        have K4 := Lib.hid (K3.out.trans k4)
        have E3 := Lib.hid e3
        clear e3
        go_wp2_with fail
        go_ret
        exact ⟨r3, rfl, ⟨fun q => HQ2.out.2 ⟨E1.out.1 (by simp), E2.out.1 (by simp), E3.out.1 q⟩, fun q => E3.out.2 (HQ2.out.1 q).2.2⟩, K4.out⟩
/-- a row of records of the run's own, whose runs came in. -/
def RecsRow (w0 w : World) (v : Value) (l : List JRec) : Prop :=
  ∃ vs, vs.map (·.1) = l ∧ w.ownsRow w0.heap.size 55 5 v vs.length (reccells vs) ∧ (∀ x ∈ vs, RunsIn w0 x.2 x.1.runs 0 w0.heap.size ∧ x.1.fits) ∧ Kept [] w0 w
theorem RecsRow.nil (w : World) : RecsRow w w (.slice none 0 0) [] := ⟨[], rfl, World.ownsRow_nil _ _ _ _, fun x hx => (by cases hx), Kept.refl _ _⟩
theorem RecsRow.val {w0 w : World} {v : Value} {l : List JRec} (h : RecsRow w0 w v l) : RecsIn w v l 0 w.heap.size := by
  obtain ⟨vs, rfl, h3, h4, h5⟩ := h
  by_cases h0 : vs = []
  · subst h0
    obtain ⟨p, c, rfl⟩ := own_shape h3
    exact Or.inl ⟨rfl, p, c, rfl⟩
  · have hp : 0 < vs.length := List.length_pos_iff.2 h0
    obtain ⟨g, c, rfl, g1, g2, g3, g4, g5⟩ := ownsRow_at h3 (by simpa using hp)
    refine Or.inr ⟨g, 0, c, by simp, fun i hi => ?_, Nat.zero_le _, g2, Nat.le_refl _, fun e => h0 (List.map_eq_nil_iff.1 e), by simpa using g3, g4⟩
    have hi' : i < vs.length := by simpa using hi
    obtain ⟨q1, q2⟩ := h4 _ (List.getElem_mem hi')
    refine ⟨[Value.int .i64 vs[i].1.kind, Value.int .u32 vs[i].1.id, Value.string (bs vs[i].1.name), Value.int .i64 vs[i].1.size, vs[i].2], rfl, ⟨vs[i].2, by rw [List.getElem_map], by rw [List.getElem_map]; exact (q1.kept0 h5).upto, by rw [List.getElem_map]; exact q2⟩, fun j u hj => ?_⟩
    rw [Nat.zero_add]
    exact g5 _ _ (reccells_get vs i hi' j u hj)
theorem RecsRow.snoc {w0 w w6 : World} {v6 kv : Value} {vs : List (JRec × Value)} {r : JRec} (hvr : ∀ x ∈ vs, RunsIn w0 x.2 x.1.runs 0 w0.heap.size ∧ x.1.fits) (hn : RunsIn w0 kv r.runs 0 w0.heap.size ∧ r.fits)
    (ho : w6.ownsRow w0.heap.size 55 5 v6 (vs.length + 1) (reccells vs ++ [Value.int .i64 r.kind, Value.int .u32 r.id, Value.string (bs r.name), Value.int .i64 r.size, kv])) (k : Kept [] w0 w6) {L : List JRec} (hL : vs.map (·.1) = L) : RecsRow w0 w6 v6 (L ++ [r]) := by
  refine ⟨vs ++ [(r, kv)], by rw [List.map_append, hL]; rfl, ?_, ?_, k⟩
  · rw [reccells_snoc, List.length_append, List.length_singleton]; exact ho
  · intro x hx
    rcases List.mem_append.1 hx with hx | hx
    · exact hvr x hx
    · have : x = (r, kv) := by simpa using hx
      subst this; exact hn
set_option maxRecDepth 100000 in
set_option maxHeartbeats 8000000 in
theorem qcatRecs (v : Value) (c : JCat) (w : World) (h : CatIn w v c) (hlen : c.boxes.length + c.mans.length + c.names.length ≤ 100000) :
    Calls Tryz.prog 55 #[v] w (RecsSays c w) := by
  obtain ⟨i0, q0, q1, q2, q3⟩ := infoRec
  obtain ⟨vb, vm, vn, rfl, hb, hm, hn, _⟩ := h
  obtain ⟨W1, hW1⟩ : ∃ W1, W1 = w.alloc (.cells #[.int .u32 c.nextBox, .int .u32 c.nextMan, vb, vm, vn] 25) := ⟨_, rfl⟩
  have k1 : Kept [] w W1 := by rw [hW1]; exact (Kept.refl _ _).alloc _
  have oA : Own W1 w.heap.size #[.int .u32 c.nextBox, .int .u32 c.nextMan, vb, vm, vn] 25 := by rw [hW1]; exact Own.new _ _ _
  have H2 := Lib.hid (hb.kept0 k1)
  have H3 := Lib.hid (hm.kept0 k1)
  have H4 := Lib.hid (hn.kept0 k1)
  obtain ⟨p2, c2, rfl⟩ := hb.shape
  obtain ⟨p3, c3, rfl⟩ := hm.shape
  obtain ⟨p4, c4, rfl⟩ := hn.shape
  have HCELL : Hid (∀ W, Kept [] W1 W → W.cell? ⟨w.heap.size, 2, none⟩ = some (.slice p2 c.boxes.length c2) ∧ W.cell? ⟨w.heap.size, 3, none⟩ = some (.slice p3 c.mans.length c3) ∧ W.cell? ⟨w.heap.size, 4, none⟩ = some (.slice p4 c.names.length c4)) := Lib.hid (fun W q => by
    obtain ⟨_, _, x2, x3, x4⟩ := (q.own oA (by simp)).k5
    exact ⟨x2, x3, x4⟩)
  have HS1 : Hid (w.heap.size ≤ W1.heap.size) := Lib.hid k1.size
  have KW1 := Lib.hid k1
  have HC : Hid ((([] ++ c.boxes.map (·.told 1)) ++ c.mans.map (·.told 2)) ++ c.names.map (·.told 3) = catR c) := Lib.hid (by unfold catR; simp)
  have HLEN := Lib.hid hlen
  have g1 : (c.boxes.length : Int) ≤ 100000 := by omega
  have g2 : (c.mans.length : Int) ≤ 100000 := by omega
  have g3 : (c.names.length : Int) ≤ 100000 := by omega
  clear hb hm hn hlen k1 oA
  unfold RecsSays
  generalize catR c = CR at *
  obtain ⟨nb, nm, LB, LM, LN⟩ := c
  simp only at HCELL H2 H3 H4 HC HLEN g1 g2 g3 hW1 ⊢
  go_enter Tryz.func55, Tryz.ntmps55
  go_wp2_with fail
  rw [← hW1]
  clear hW1
  have R0 : Hid (RecsRow W1 W1 (.slice none 0 0) []) := Lib.hid (RecsRow.nil W1)
  have wA : Kept [] W1 W1 := Kept.refl _ _
  go_loopw [3, 4] (fun u i wr => ∃ j : Nat, j ≤ LB.length ∧ i = .int .i64 j ∧ RecsRow W1 wr u (([] : List JRec) ++ (LB.take j).map (·.told 1))) (fun _ i _ => LB.length - (intOf i).toNat)
  case atStart => exact ⟨0, Nat.zero_le _, rfl, by simpa using R0.out⟩
  case round =>
    obtain ⟨j, hj, rfl, hR⟩ := hrel
    rename World => wr
    by_cases hlt : j < LB.length
    · have i1 : (j : Int) < LB.length := by omega
      obtain ⟨b, off, kv, rfl, hia, hb, hc1, hc2, HIA⟩ := H2.out.at4 j hlt
      have htk := told_take (k := 1) hlt
      obtain ⟨vs, hvs, hrow, hvr, hK⟩ := hR
      obtain ⟨y0, y1, y2, y3⟩ := HIA wr hK
      obtain ⟨x2, x3, x4⟩ := HCELL.out wr hK
      have htold := fun W => qtold 1 (LB[j]'hlt) kv W hia.slv
      have hnew : RunsIn W1 kv ((LB[j]'hlt).told 1).runs 0 W1.heap.size ∧ ((LB[j]'hlt).told 1).fits := ⟨hia.1, JItem.told_fits hia.2.1 (by decide)⟩
      obtain ⟨pk, nk, ck, rfl⟩ := hia.slv
      have hvl : vs.length ≤ 100000 := by
        have := congrArg List.length hvs
        simp only [List.length_map, List.length_append, List.length_take, List.length_nil] at this
        have := HLEN.out
        omega
      have HSN : Hid (∀ w6 v6, w6.ownsRow W1.heap.size 55 5 v6 (vs.length + 1) (reccells vs ++ [Value.int .i64 1, Value.int .u32 (LB[j]'hlt).id, Value.string (bs (LB[j]'hlt).name), Value.int .i64 (LB[j]'hlt).size, .slice pk nk ck]) → Kept [] W1 w6 → RecsRow W1 w6 v6 (([] : List JRec) ++ (LB.take (j + 1)).map (·.told 1))) := Lib.hid (fun w6 v6 ho k => by
        rw [htk, ← List.append_assoc]
        exact RecsRow.snoc (w := w6) hvr hnew ho k hvs)
      have HT := Lib.hid htold
      unfold JItem.told JRec.cells JItem.cells at HT
      have ROW := Lib.hid hrow
      have HK := Lib.hid hK
      have HLT := Lib.hid hlt
      obtain ⟨pv, cv, rfl⟩ := own_shape hrow
      have HVL := Lib.hid hvl
      clear hvr hnew hvs htk htold hia HIA hb hrow hK hvl
      generalize hLA : LB[j]'hlt = A at *
      clear hLA
      generalize hVN : vs.length = vn at *
      go_wp2_with fail
      refine (HT.out _).mono ?_; rintro e w3 ⟨rfl, k3⟩
      have ROW3 := Lib.hid (ownsRow_kept ROW.out k3 (by simp))
      have K3 := Lib.hid (HK.out.trans k3)
      have r3 : vn + 1 ≤ maxLen := by have := HVL.out; unfold maxLen; omega
      have r4 : (vn + 1) * 64 ≤ 140737488355328 := by have := HVL.out; omega
      clear k3
      go_wp2_with (at_builtin; go_must (refine wpList_append_own_at _ rfl (.tmp 14) (.tmp 21) 40 rfl W1.heap.size 55 i0 (.agg #[.int .i64 0, .int .u32 0, .string { data := #[] }, .int .i64 0, .slice none 0 0]) 5 64 Tryz.underlying40 q0 q1 q2 q3 rfl (by decide) _ _ _ rfl (World.ownsRow.alloc ROW3.out _) ⟨w3.heap.size, 0, none⟩ 1 1 [.int .i64 1, .int .u32 A.id, .string (bs A.name), .int .i64 A.size, .slice pk nk ck] rfl rfl ?_ ?_ r3 r4 ?_ ?_))
      · exact World.news_of_block (heap_alloc_new w3 _)
      · intro u hu; simp at hu; rcases hu with rfl | rfl | rfl | rfl | rfl <;> rfl
      · have := K3.out.size; simp; omega
      intro v6 w6 o6 gr6 _ _
      have hk6 := (K3.out.alloc (.cells #[.int .i64 1, .int .u32 A.id, .string (bs A.name), .int .i64 A.size, .slice pk nk ck] 55)).grown gr6 (fun q hq => Or.inr (World.ownsRow.lt ROW3.out q hq).1)
      have HNX := Lib.hid (HSN.out _ _ o6 hk6)
      obtain ⟨p6, c6, rfl⟩ := own_shape o6
      clear o6 gr6 hk6 HSN
      go_wp2_with fail
      go_roundw
      case rel => exact ⟨j + 1, HLT.out, by first | rfl | go_num, HNX.out⟩
      case measure => (have hh := HLT.out; simp [intOf]; omega)
    · obtain rfl : j = LB.length := by omega
      rw [List.take_length] at hR
      have R1 := Lib.hid hR
      have i1 : ¬ (LB.length : Int) < LB.length := by omega
      obtain ⟨vs, hvs, hrow, hvr, hK⟩ := hR
      have K1 := Lib.hid hK
      obtain ⟨x2, x3, x4⟩ := HCELL.out wr hK
      obtain ⟨pv, cv, rfl⟩ := own_shape hrow
      generalize vs.length = vn at *
      clear hvs hrow hvr hK hlt hj
      go_wp2_with fail
      clear x2 x3 x4 i1
      go_loopw [3, 5] (fun u i wr => ∃ j : Nat, j ≤ LM.length ∧ i = .int .i64 j ∧ RecsRow W1 wr u ((([] : List JRec) ++ LB.map (·.told 1)) ++ (LM.take j).map (·.told 2))) (fun _ i _ => LM.length - (intOf i).toNat)
      case atStart => exact ⟨0, Nat.zero_le _, rfl, by simpa using R1.out⟩
      case round =>
        obtain ⟨j, hj, rfl, hR⟩ := hrel
        rename World => wr
        by_cases hlt : j < LM.length
        · have i1 : (j : Int) < LM.length := by omega
          obtain ⟨b, off, kv, rfl, hia, hb, hc1, hc2, HIA⟩ := H3.out.at4 j hlt
          have htk := told_take (k := 2) hlt
          obtain ⟨vs, hvs, hrow, hvr, hK⟩ := hR
          obtain ⟨y0, y1, y2, y3⟩ := HIA wr hK
          obtain ⟨x2, x3, x4⟩ := HCELL.out wr hK
          have htold := fun W => qtold 2 (LM[j]'hlt) kv W hia.slv
          have hnew : RunsIn W1 kv ((LM[j]'hlt).told 2).runs 0 W1.heap.size ∧ ((LM[j]'hlt).told 2).fits := ⟨hia.1, JItem.told_fits hia.2.1 (by decide)⟩
          obtain ⟨pk, nk, ck, rfl⟩ := hia.slv
          have hvl : vs.length ≤ 100000 := by
            have := congrArg List.length hvs
            simp only [List.length_map, List.length_append, List.length_take, List.length_nil] at this
            have := HLEN.out
            omega
          have HSN : Hid (∀ w6 v6, w6.ownsRow W1.heap.size 55 5 v6 (vs.length + 1) (reccells vs ++ [Value.int .i64 2, Value.int .u32 (LM[j]'hlt).id, Value.string (bs (LM[j]'hlt).name), Value.int .i64 (LM[j]'hlt).size, .slice pk nk ck]) → Kept [] W1 w6 → RecsRow W1 w6 v6 ((([] : List JRec) ++ LB.map (·.told 1)) ++ (LM.take (j + 1)).map (·.told 2))) := Lib.hid (fun w6 v6 ho k => by
            rw [htk, ← List.append_assoc]
            exact RecsRow.snoc (w := w6) hvr hnew ho k hvs)
          have HT := Lib.hid htold
          unfold JItem.told JRec.cells JItem.cells at HT
          have ROW := Lib.hid hrow
          have HK := Lib.hid hK
          have HLT := Lib.hid hlt
          obtain ⟨pv, cv, rfl⟩ := own_shape hrow
          have HVL := Lib.hid hvl
          clear hvr hnew hvs htk htold hia HIA hb hrow hK hvl
          generalize hLA : LM[j]'hlt = A at *
          clear hLA
          generalize hVN : vs.length = vn at *
          go_wp2_with fail
          refine (HT.out _).mono ?_; rintro e w3 ⟨rfl, k3⟩
          have ROW3 := Lib.hid (ownsRow_kept ROW.out k3 (by simp))
          have K3 := Lib.hid (HK.out.trans k3)
          have r3 : vn + 1 ≤ maxLen := by have := HVL.out; unfold maxLen; omega
          have r4 : (vn + 1) * 64 ≤ 140737488355328 := by have := HVL.out; omega
          clear k3
          go_wp2_with (at_builtin; go_must (refine wpList_append_own_at _ rfl (.tmp 30) (.tmp 37) 40 rfl W1.heap.size 55 i0 (.agg #[.int .i64 0, .int .u32 0, .string { data := #[] }, .int .i64 0, .slice none 0 0]) 5 64 Tryz.underlying40 q0 q1 q2 q3 rfl (by decide) _ _ _ rfl (World.ownsRow.alloc ROW3.out _) ⟨w3.heap.size, 0, none⟩ 1 1 [.int .i64 2, .int .u32 A.id, .string (bs A.name), .int .i64 A.size, .slice pk nk ck] rfl rfl ?_ ?_ r3 r4 ?_ ?_))
          · exact World.news_of_block (heap_alloc_new w3 _)
          · intro u hu; simp at hu; rcases hu with rfl | rfl | rfl | rfl | rfl <;> rfl
          · have := K3.out.size; simp; omega
          intro v6 w6 o6 gr6 _ _
          have hk6 := (K3.out.alloc (.cells #[.int .i64 2, .int .u32 A.id, .string (bs A.name), .int .i64 A.size, .slice pk nk ck] 55)).grown gr6 (fun q hq => Or.inr (World.ownsRow.lt ROW3.out q hq).1)
          have HNX := Lib.hid (HSN.out _ _ o6 hk6)
          obtain ⟨p6, c6, rfl⟩ := own_shape o6
          clear o6 gr6 hk6 HSN
          go_wp2_with fail
          go_roundw
          case rel => exact ⟨j + 1, HLT.out, by first | rfl | go_num, HNX.out⟩
          case measure => (have hh := HLT.out; simp [intOf]; omega)
        · obtain rfl : j = LM.length := by omega
          rw [List.take_length] at hR
          have R2 := Lib.hid hR
          have i1 : ¬ (LM.length : Int) < LM.length := by omega
          obtain ⟨vs, hvs, hrow, hvr, hK⟩ := hR
          have K2 := Lib.hid hK
          obtain ⟨x2, x3, x4⟩ := HCELL.out wr hK
          obtain ⟨pv, cv, rfl⟩ := own_shape hrow
          generalize vs.length = vn at *
          clear hvs hrow hvr hK hlt hj
          go_wp2_with fail
          clear x2 x3 x4 i1
          go_loopw [3, 6] (fun u i wr => ∃ j : Nat, j ≤ LN.length ∧ i = .int .i64 j ∧ RecsRow W1 wr u (((([] : List JRec) ++ LB.map (·.told 1)) ++ LM.map (·.told 2)) ++ (LN.take j).map (·.told 3))) (fun _ i _ => LN.length - (intOf i).toNat)
          case atStart => exact ⟨0, Nat.zero_le _, rfl, by simpa using R2.out⟩
          case round =>
            obtain ⟨j, hj, rfl, hR⟩ := hrel
            rename World => wr
            by_cases hlt : j < LN.length
            · have i1 : (j : Int) < LN.length := by omega
              obtain ⟨b, off, kv, rfl, hia, hb, hc1, hc2, HIA⟩ := H4.out.at4 j hlt
              have htk := told_take (k := 3) hlt
              obtain ⟨vs, hvs, hrow, hvr, hK⟩ := hR
              obtain ⟨y0, y1, y2, y3⟩ := HIA wr hK
              obtain ⟨x2, x3, x4⟩ := HCELL.out wr hK
              have htold := fun W => qtold 3 (LN[j]'hlt) kv W hia.slv
              have hnew : RunsIn W1 kv ((LN[j]'hlt).told 3).runs 0 W1.heap.size ∧ ((LN[j]'hlt).told 3).fits := ⟨hia.1, JItem.told_fits hia.2.1 (by decide)⟩
              obtain ⟨pk, nk, ck, rfl⟩ := hia.slv
              have hvl : vs.length ≤ 100000 := by
                have := congrArg List.length hvs
                simp only [List.length_map, List.length_append, List.length_take, List.length_nil] at this
                have := HLEN.out
                omega
              have HSN : Hid (∀ w6 v6, w6.ownsRow W1.heap.size 55 5 v6 (vs.length + 1) (reccells vs ++ [Value.int .i64 3, Value.int .u32 (LN[j]'hlt).id, Value.string (bs (LN[j]'hlt).name), Value.int .i64 (LN[j]'hlt).size, .slice pk nk ck]) → Kept [] W1 w6 → RecsRow W1 w6 v6 (((([] : List JRec) ++ LB.map (·.told 1)) ++ LM.map (·.told 2)) ++ (LN.take (j + 1)).map (·.told 3))) := Lib.hid (fun w6 v6 ho k => by
                rw [htk, ← List.append_assoc]
                exact RecsRow.snoc (w := w6) hvr hnew ho k hvs)
              have HT := Lib.hid htold
              unfold JItem.told JRec.cells JItem.cells at HT
              have ROW := Lib.hid hrow
              have HK := Lib.hid hK
              have HLT := Lib.hid hlt
              obtain ⟨pv, cv, rfl⟩ := own_shape hrow
              have HVL := Lib.hid hvl
              clear hvr hnew hvs htk htold hia HIA hb hrow hK hvl
              generalize hLA : LN[j]'hlt = A at *
              clear hLA
              generalize hVN : vs.length = vn at *
              go_wp2_with fail
              refine (HT.out _).mono ?_; rintro e w3 ⟨rfl, k3⟩
              have ROW3 := Lib.hid (ownsRow_kept ROW.out k3 (by simp))
              have K3 := Lib.hid (HK.out.trans k3)
              have r3 : vn + 1 ≤ maxLen := by have := HVL.out; unfold maxLen; omega
              have r4 : (vn + 1) * 64 ≤ 140737488355328 := by have := HVL.out; omega
              clear k3
              go_wp2_with (at_builtin; go_must (refine wpList_append_own_at _ rfl (.tmp 46) (.tmp 53) 40 rfl W1.heap.size 55 i0 (.agg #[.int .i64 0, .int .u32 0, .string { data := #[] }, .int .i64 0, .slice none 0 0]) 5 64 Tryz.underlying40 q0 q1 q2 q3 rfl (by decide) _ _ _ rfl (World.ownsRow.alloc ROW3.out _) ⟨w3.heap.size, 0, none⟩ 1 1 [.int .i64 3, .int .u32 A.id, .string (bs A.name), .int .i64 A.size, .slice pk nk ck] rfl rfl ?_ ?_ r3 r4 ?_ ?_))
              · exact World.news_of_block (heap_alloc_new w3 _)
              · intro u hu; simp at hu; rcases hu with rfl | rfl | rfl | rfl | rfl <;> rfl
              · have := K3.out.size; simp; omega
              intro v6 w6 o6 gr6 _ _
              have hk6 := (K3.out.alloc (.cells #[.int .i64 3, .int .u32 A.id, .string (bs A.name), .int .i64 A.size, .slice pk nk ck] 55)).grown gr6 (fun q hq => Or.inr (World.ownsRow.lt ROW3.out q hq).1)
              have HNX := Lib.hid (HSN.out _ _ o6 hk6)
              obtain ⟨p6, c6, rfl⟩ := own_shape o6
              clear o6 gr6 hk6 HSN
              go_wp2_with fail
              go_roundw
              case rel => exact ⟨j + 1, HLT.out, by first | rfl | go_num, HNX.out⟩
              case measure => (have hh := HLT.out; simp [intOf]; omega)
            · obtain rfl : j = LN.length := by omega
              rw [List.take_length] at hR
              have R3 := Lib.hid hR
              have i1 : ¬ (LN.length : Int) < LN.length := by omega
              obtain ⟨vs, hvs, hrow, hvr, hK⟩ := hR
              have K3 := Lib.hid hK
              obtain ⟨x2, x3, x4⟩ := HCELL.out wr hK
              obtain ⟨pv, cv, rfl⟩ := own_shape hrow
              generalize vs.length = vn at *
              clear hvs hrow hvr hK hlt hj
              go_wp2_with fail
              go_ret
              have hf := R3.out
              rw [HC.out] at hf
              exact ⟨_, rfl, hf.val, KW1.out.trans K3.out⟩
end Go.Proofs.YtakdnchmehmdhaaGreat
