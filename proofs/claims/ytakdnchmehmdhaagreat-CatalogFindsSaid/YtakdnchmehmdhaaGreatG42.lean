/- Layer 52 (catalog): the law Finds. -/
import Derived.Test.YtakdnchmehmdhaaGreatG02
import Derived.Test.YtakdnchmehmdhaaGreatG23
import Derived.Test.YtakdnchmehmdhaaGreatG38
import Derived.Test.YtakdnchmehmdhaaGreatG40
namespace Go.Proofs.YtakdnchmehmdhaaGreat
open Go.RowKit
set_option linter.unusedVariables false
set_option linter.unusedSimpArgs false

theorem JItem.same_self (a : JItem) : a.same a = true := JItem.same_iff.2 rfl
set_option maxRecDepth 100000 in
set_option maxHeartbeats 4000000 in
theorem zfound (v : Value) (l : List JItem) (id : Int) (x : JItem) (xv : Value) (is : Bool) (w : World) (h : ItemsIn w v l) (hx : ItemOk w (x, xv)) (hl : SmallL l) (hX : findX (fun a => a.id == id) l = (x, is)) (hxr : x.runs.length ≤ 1000000) :
    Calls Tryz.prog 31 #[v, .int .u32 id, .agg (x.cells xv), .bool is] w fun e w' => e = .returned (.bool true) ∧ Kept [] w w' := by
  obtain ⟨pv, cv, rfl⟩ := h.shape
  obtain ⟨px, nx, cx, rfl⟩ := hx.slv
  obtain ⟨W1, hW1⟩ : ∃ W1, W1 = w.alloc (.cells (x.cells (.slice px nx cx)) 58) := ⟨_, rfl⟩
  have k1 : Kept [] w W1 := by rw [hW1]; exact (Kept.refl _ _).alloc _
  have oX : Own W1 w.heap.size (x.cells (.slice px nx cx)) 58 := by rw [hW1]; exact Own.new _ _ _
  have HSAME : Hid (∀ W a kv, Kept [] w W → ItemOk W (a, kv) → a.runs.length ≤ 1000000 → x = a → Calls Tryz.prog 34 #[.agg (x.cells (.slice px nx cx)), .agg (a.cells kv)] W fun e w' => e = .returned (.bool true) ∧ Kept [] W w') := Lib.hid (fun W a kv q ha hr e => by
    subst e
    have := qsameItem x x _ _ W (hx.kept0 q) ha hxr hr
    rw [JItem.same_self] at this
    exact this)
  unfold JItem.cells at oX hW1 HSAME ⊢
  have HXC : Hid (∀ W, Kept [] W1 W → W.cell? ⟨w.heap.size, 0, none⟩ = some (.int .u32 x.id) ∧ W.cell? ⟨w.heap.size, 1, none⟩ = some (.string (bs x.name)) ∧ W.cell? ⟨w.heap.size, 2, none⟩ = some (.int .i64 x.size) ∧ W.cell? ⟨w.heap.size, 3, none⟩ = some (.slice px nx cx)) := Lib.hid (fun W q => (q.own oX (by simp)).c4)
  have H := Lib.hid (h.kept0 k1)
  have KW1 := Lib.hid k1
  have HFX := Lib.hid hX
  have HSM := Lib.hid hl
  have j1 : (l.length : Int) ≤ 1000000 := by have := hl.1; omega
  clear h hx hl hX hxr k1 oX
  go_enter Tryz.func31, Tryz.ntmps31
  go_wp2_with fail
  rw [← hW1]
  clear hW1
  go_loopw [9] (fun i wr => ∃ k : Nat, k ≤ l.length ∧ i = .int .i64 k ∧ (∀ j (hj : j < l.length), j < k → (l[j].id == id) = false) ∧ Kept [] W1 wr) (fun i _ => l.length - (intOf i).toNat)
  case atStart => exact ⟨0, Nat.zero_le _, rfl, fun j hj h => absurd h (Nat.not_lt_zero j), Kept.refl _ _⟩
  case round =>
    obtain ⟨k, hk, rfl, hlo, hK⟩ := hrel
    rename World => wr
    have HK := Lib.hid hK
    by_cases hlt : k < l.length
    · have i1 : (k : Int) < l.length := by omega
      obtain ⟨b, off, kv, rfl, hia, hb, hc1, hc2, HIA⟩ := H.out.at4 k hlt
      obtain ⟨y0, y1, y2, y3⟩ := HIA wr hK
      have HIAH := Lib.hid HIA
      have HIO : Hid (∀ W, Kept [] W1 W → ItemOk W (l[k]'hlt, kv)) := Lib.hid (fun W q => hia.kept0 q)
      have HRL : Hid ((l[k]'hlt).runs.length ≤ 1000000) := Lib.hid (HSM.out.2 _ (List.getElem_mem hlt))
      have HYES : Hid (((l[k]'hlt).id == id) = true → x = (l[k]'hlt) ∧ is = true) := Lib.hid (fun he => by
        have := findX_at (p := fun a : JItem => a.id == id) hlt he (fun j hj hjk => hlo j hj hjk)
        rw [HFX.out] at this
        injection this with e1 e2
        exact ⟨e1, e2⟩)
      have HNX : Hid (((l[k]'hlt).id == id) = false → ∀ j (hj : j < l.length), j < k + 1 → (l[j].id == id) = false) := Lib.hid (fun he j hj hjk => by
        by_cases e : j = k
        · subst e; exact he
        · exact hlo j hj (by omega))
      have HLT := Lib.hid hlt
      obtain ⟨pk, nk, ck, rfl⟩ := hia.slv
      clear hia HIA hb hlo hK hk
      generalize l[k]'hlt = A at *
      clear hlt
      obtain ⟨q, hq⟩ : ∃ q, (A.id == id) = q := ⟨_, rfl⟩
      cases q with
      | false =>
        have HN := Lib.hid (HNX.out hq)
        go_wp2_with fail
        go_roundw
        case rel => exact ⟨k + 1, HLT.out, by go_num, HN.out, HK.out⟩
        case measure => (have hh := HLT.out; simp [intOf]; omega)
      | true =>
        obtain ⟨hxa, rfl⟩ := HYES.out hq
        have HXA := Lib.hid hxa
        clear hxa HNX HYES
        go_wp2_with fail
        refine wp_region_held_drew (S := (fun W => (W.cell? ⟨w.heap.size, 0, none⟩ = some (.int .u32 x.id) ∧ W.cell? ⟨w.heap.size, 1, none⟩ = some (.string (bs x.name)) ∧ W.cell? ⟨w.heap.size, 2, none⟩ = some (.int .i64 x.size) ∧ W.cell? ⟨w.heap.size, 3, none⟩ = some (.slice px nx cx)) ∧ (W.cell? ⟨b, off + k * 4, none⟩ = some (.int .u32 A.id) ∧ W.cell? ⟨b, off + k * 4 + 1, none⟩ = some (.string (bs A.name)) ∧ W.cell? ⟨b, off + k * 4 + 2, none⟩ = some (.int .i64 A.size) ∧ W.cell? ⟨b, off + k * 4 + 3, none⟩ = some (.slice pk nk ck)))) (by kernel_rfl) (by exact ⟨HXC.out _ HK.out.drew, HIAH.out _ HK.out.drew⟩) (fun hHeld => ?_)
        refine take_at (i := 0) (d := some 23) (v := ?_) rfl rfl (by kernel_rfl) (by kernel_rfl) (by kernel_rfl) (fun _ _ _ h => h) (Or.inl ⟨by rfl, ?_⟩) (by assumption) ?_
        rotate_left
        · (intro w hSw; (try dsimp only at hSw); go_simp; try with_reducible rfl)
        try simp only [Act.put, List.setIfInBounds_toArray, List.set_cons_zero, List.set_cons_succ]
        refine take_at (i := 1) (d := some 24) (v := ?_) rfl rfl (by kernel_rfl) (by kernel_rfl) (by kernel_rfl) (fun _ _ _ h => h) (Or.inl ⟨by rfl, ?_⟩) (by assumption) ?_
        rotate_left
        · (intro w hSw; (try dsimp only at hSw); go_simp; try with_reducible rfl)
        try simp only [Act.put, List.setIfInBounds_toArray, List.set_cons_zero, List.set_cons_succ]
        refine take_at (i := 2) (d := some 25) (v := ?_) rfl rfl (by kernel_rfl) (by kernel_rfl) (by kernel_rfl) (fun _ _ _ h => h) (Or.inl ⟨by rfl, ?_⟩) (by assumption) ?_
        rotate_left
        · (intro w hSw; (try dsimp only at hSw); go_simp; try with_reducible rfl)
        try simp only [Act.put, List.setIfInBounds_toArray, List.set_cons_zero, List.set_cons_succ]
        refine take_at (i := 3) (d := some 26) (v := ?_) rfl rfl (by kernel_rfl) (by kernel_rfl) (by kernel_rfl) (fun _ _ _ h => h) (Or.inl ⟨by rfl, ?_⟩) (by assumption) ?_
        rotate_left
        · (intro w hSw; (try dsimp only at hSw); go_simp; try with_reducible rfl)
        try simp only [Act.put, List.setIfInBounds_toArray, List.set_cons_zero, List.set_cons_succ]
        refine take_at (i := 4) (d := some 27) (v := ?_) rfl rfl (by kernel_rfl) (by kernel_rfl) (by kernel_rfl) (fun _ _ _ h => h) (Or.inl ⟨by rfl, ?_⟩) (by assumption) ?_
        rotate_left
        · (intro w hSw; (try dsimp only at hSw); go_simp; try with_reducible rfl)
        try simp only [Act.put, List.setIfInBounds_toArray, List.set_cons_zero, List.set_cons_succ]
        refine take_at (i := 5) (d := some 28) (v := ?_) rfl rfl (by kernel_rfl) (by kernel_rfl) (by kernel_rfl) (fun _ _ _ h => h) (Or.inl ⟨by rfl, ?_⟩) (by assumption) ?_
        rotate_left
        · (intro w hSw; (try dsimp only at hSw); go_simp; try with_reducible rfl)
        try simp only [Act.put, List.setIfInBounds_toArray, List.set_cons_zero, List.set_cons_succ]
        refine take_at (i := 6) (d := some 29) (v := ?_) rfl rfl (by kernel_rfl) (by kernel_rfl) (by kernel_rfl) (fun _ _ _ h => h) (Or.inl ⟨by rfl, ?_⟩) (by assumption) ?_
        rotate_left
        · (intro w hSw; (try dsimp only at hSw); go_simp; try with_reducible rfl)
        try simp only [Act.put, List.setIfInBounds_toArray, List.set_cons_zero, List.set_cons_succ]
        refine wpAnyH_ready (rs := [7]) (by kernel_rfl) (by simp) ?_
        refine (AllReadyH.cons rfl (fun K hK => ?_) AllReadyH.nil)
        go_simp
        ((with_reducible refine (HSAME.out _ A _ (KW1.out.trans HK.out.drew) (HIO.out _ HK.out.drew) HRL.out HXA.out).mono ?_)); rintro e w3 ⟨rfl, k3⟩
        have K3 := Lib.hid (HK.out.drew.trans k3)
        clear k3
        go_wp2_with fail
        refine hK.out _ _ ?_ (fun hHeld => ?_)
        · exact ⟨HXC.out _ K3.out, HIAH.out _ K3.out⟩
        clear hK K
        try simp only [Act.put, List.setIfInBounds_toArray, List.set_cons_zero, List.set_cons_succ]
        refine take_at (i := 8) (d := some 31) (v := ?_) rfl rfl (by kernel_rfl) (by kernel_rfl) (by kernel_rfl) (fun _ _ _ h => h) (Or.inl ⟨by rfl, ?_⟩) (by assumption) ?_
        rotate_left
        · (intro w hSw; (try dsimp only at hSw); go_simp; try with_reducible rfl)
        try simp only [Act.put, List.setIfInBounds_toArray, List.set_cons_zero, List.set_cons_succ]
        refine take_at (i := 9) (d := some 8) (v := ?_) rfl rfl (by kernel_rfl) (by kernel_rfl) (by kernel_rfl) (fun _ _ _ h => h) (Or.inl ⟨by rfl, ?_⟩) (by assumption) ?_
        rotate_left
        · (intro w hSw; (try dsimp only at hSw); go_simp; try with_reducible rfl)
        try simp only [Act.put, List.setIfInBounds_toArray, List.set_cons_zero, List.set_cons_succ]
        refine wpAnyH_done (by kernel_rfl) ?_ _
        try simp only [List.set_cons_succ, List.set_cons_zero]
        go_wp2_with fail
        go_ret
        exact ⟨rfl, KW1.out.trans K3.out⟩
    · obtain rfl : k = l.length := by omega
      have i1 : ¬ (l.length : Int) < l.length := by omega
      have hno := findX_no (p := fun a : JItem => a.id == id) (l := l) (fun j hj => hlo j hj hj)
      rw [HFX.out] at hno
      injection hno with e1 e2
      subst e2
      have HXA : Hid (x = itemNo) := Lib.hid e1
      obtain ⟨y0, y1, y2, y3⟩ := HXC.out wr hK
      have hsm := HSAME.out wr itemNo (.slice none 0 0) (KW1.out.trans hK) (itemNo_ok wr) (by decide) e1
      have HSM2 := Lib.hid hsm
      clear hlo hK hk hlt e1 hsm
      go_wp2_with fail
      refine (HSM2.out).mono ?_; rintro e w3 ⟨rfl, k3⟩
      have K3 := Lib.hid (HK.out.trans k3)
      clear k3
      go_wp2_with fail
      go_ret
      exact ⟨rfl, KW1.out.trans K3.out⟩
set_option maxRecDepth 100000 in
set_option maxHeartbeats 8000000 in
theorem findsLaw (v : Value) (c : JCat) (id : Int) (a : ByteArray) (w : World) (h : CatIn w v c) (hid : (Lit.int .u32 id).wf = true) (ha : a.size ≤ maxLen) :
    Calls Tryz.prog 8 #[v, .int .u32 id, .string a] w fun e w' => e = .returned (.bool true) ∧ Below w.heap.size w w' := by
  have HAW := Lib.hid zawake
  obtain ⟨s, rfl⟩ : ∃ s, a = bs s := ⟨a.data.toList, (bs_of a).symm⟩
  have HLI : Hid (∀ W, Kept [] w W → Calls Tryz.prog 9 #[v] W (EqSays (lightC c) W)) := Lib.hid (fun W q => zlight v c W (h.kept0 q))
  obtain ⟨⟨xb, isb⟩, hXB⟩ : ∃ X, findX (fun a : JItem => a.id == id) c.boxes = X := ⟨_, rfl⟩
  obtain ⟨⟨xm, ism⟩, hXM⟩ : ∃ X, findX (fun a : JItem => a.id == id) c.mans = X := ⟨_, rfl⟩
  obtain ⟨⟨xn, isn⟩, hXN⟩ : ∃ X, findX (fun a : JItem => a.name == s) c.names = X := ⟨_, rfl⟩
  have hfr : ∀ {p : JItem → Bool} {l : List JItem} {X : JItem} {b : Bool}, findX p l = (X, b) → fewI l → X.runs.length ≤ 20 := fun {p l X b} e hf => by
    unfold findX at e
    split at e
    · rename_i y hy
      injection e with e1 _
      subst e1
      exact (hf.2 _ (List.mem_of_find?_eq_some hy)).1
    · injection e with e1 _
      subst e1; simp [itemNo]
  have HB1 : Hid (∀ W, Kept [] w W → lightC c → Calls Tryz.prog 28 #[v, .int .u32 id] W (FindSays W (xb, isb) W)) := Lib.hid (fun W q hl => by rw [← hXB]; exact zFind_box id v c W (h.kept0 q) hl.small)
  have HB2 : Hid (∀ W, Kept [] w W → lightC c → Calls Tryz.prog 29 #[v, .int .u32 id] W (FindSays W (xm, ism) W)) := Lib.hid (fun W q hl => by rw [← hXM]; exact zFind_man id v c W (h.kept0 q) hl.small)
  have HB3 : Hid (∀ W, Kept [] w W → lightC c → Calls Tryz.prog 30 #[v, .string (bs s)] W (FindSays W (xn, isn) W)) := Lib.hid (fun W q hl => by rw [← hXN]; exact zFind_name s v c W (h.kept0 q) hl.small)
  have HR1 : Hid (∀ W, Kept [] w W → lightC c → Calls Tryz.prog 33 #[v] W (GivesR (runsC c) W)) := Lib.hid (fun W q hl => zruns v c W (h.kept0 q) (by have := hl.len; omega) (by have := hl.runs; omega))
  have HR2 : Hid (∀ W, Kept [] w W → lightC c → Calls Tryz.prog 24 #[v] W (GivesR (runsC c) W)) := Lib.hid (fun W q hl => qcatRuns v c W (h.kept0 q) (by have := hl.len; omega) (by have := hl.runs; omega))
  have HSR : Hid (∀ W va vb lo hi lo' hi', RunsIn W va (runsC c) lo hi → RunsIn W vb (runsC c) lo' hi' → lightC c → Calls Tryz.prog 32 #[va, vb] W fun e w' => e = .returned (.bool true) ∧ Kept [] W w') := Lib.hid (fun W va vb lo hi lo' hi' h1 h2 hl => by
    have := rsameruns va vb (runsC c) (runsC c) _ _ _ _ W h1 h2 (by have := hl.runs; omega) (by have := hl.runs; omega)
    rw [show ((runsC c) == (runsC c)) = true by simp] at this
    exact this)
  obtain ⟨vb, vm, vn, rfl, hb, hm, hn, _⟩ := h
  have HF1 : Hid (∀ W kv, Kept [] w W → lightC c → ItemOk W (xb, kv) → Calls Tryz.prog 31 #[vb, .int .u32 id, .agg (xb.cells kv), .bool isb] W fun e w' => e = .returned (.bool true) ∧ Kept [] W w') := Lib.hid (fun W kv q hl hk => zfound vb c.boxes id xb kv isb W (hb.kept0 q) hk hl.1.small hXB (by have := hfr hXB hl.1; omega))
  have HF2 : Hid (∀ W kv, Kept [] w W → lightC c → ItemOk W (xm, kv) → Calls Tryz.prog 31 #[vm, .int .u32 id, .agg (xm.cells kv), .bool ism] W fun e w' => e = .returned (.bool true) ∧ Kept [] W w') := Lib.hid (fun W kv q hl hk => zfound vm c.mans id xm kv ism W (hm.kept0 q) hk hl.2.1.small hXM (by have := hfr hXM hl.2.1; omega))
  have HN0 : Hid (∀ W, Kept [] w W → ItemsIn W vn c.names) := Lib.hid (fun W q => hn.kept0 q)
  have HXN := Lib.hid hXN
  have HNR : Hid (lightC c → xn.runs.length ≤ 1000000) := Lib.hid (fun hl => by have := hfr hXN hl.2.2; omega)
  have HSI : Hid (∀ W ka b kb, ItemOk W (xn, ka) → ItemOk W (b, kb) → xn.runs.length ≤ 1000000 → b.runs.length ≤ 1000000 → xn = b → Calls Tryz.prog 34 #[.agg (xn.cells ka), .agg (b.cells kb)] W fun e w' => e = .returned (.bool true) ∧ Kept [] W w') := Lib.hid (fun W ka b kb h1 h2 r1 r2 e => by
    subst e
    have := qsameItem xn xn _ _ W h1 h2 r1 r2
    rw [JItem.same_self] at this
    exact this)
  obtain ⟨p1, c1, rfl⟩ := hb.shape
  obtain ⟨p2, c2, rfl⟩ := hm.shape
  obtain ⟨p3, c3, rfl⟩ := hn.shape
  have oA := Own.new w #[.int .u32 c.nextBox, .int .u32 c.nextMan, .slice p1 c.boxes.length c1, .slice p2 c.mans.length c2, .slice p3 c.names.length c3] 25
  have k0 : Kept [] w (w.alloc (.cells #[.int .u32 c.nextBox, .int .u32 c.nextMan, .slice p1 c.boxes.length c1, .slice p2 c.mans.length c2, .slice p3 c.names.length c3] 25)) := (Kept.refl _ _).alloc _
  have HA5 : Hid (∀ W, Kept [] (w.alloc (.cells #[.int .u32 c.nextBox, .int .u32 c.nextMan, .slice p1 c.boxes.length c1, .slice p2 c.mans.length c2, .slice p3 c.names.length c3] 25)) W → W.cell? ⟨w.heap.size, 0, none⟩ = some (.int .u32 c.nextBox) ∧ W.cell? ⟨w.heap.size, 1, none⟩ = some (.int .u32 c.nextMan) ∧ W.cell? ⟨w.heap.size, 2, none⟩ = some (.slice p1 c.boxes.length c1) ∧ W.cell? ⟨w.heap.size, 3, none⟩ = some (.slice p2 c.mans.length c2) ∧ W.cell? ⟨w.heap.size, 4, none⟩ = some (.slice p3 c.names.length c3)) := Lib.hid (fun W q => (q.own oA (by simp)).k5)
  have K0 := Lib.hid k0
  have j1 : c.names.length ≤ maxLen := hn.len
  have j1' : (c.names.length : Int) ≤ 9223372036854775807 := by unfold maxLen at j1; omega
  obtain ⟨x0, x1, x2, x3, x4⟩ := HA5.out _ (Kept.refl _ _)
  unfold EqSays at HLI
  unfold FindSays at HB1 HB2 HB3
  unfold GivesR at HR1 HR2
  clear hb hm hn oA k0 ha hid hXB hXM hXN hfr j1
  go_enter Tryz.func8, Tryz.ntmps8
  go_wp2_with fail
  refine (HLI.out _ K0.out).mono ?_; rintro e w1 ⟨b1, rfl, hb1, k1⟩
  have K1 := Lib.hid (K0.out.trans k1)
  have KX1 := Lib.hid k1
  have HBB := Lib.hid hb1
  clear hb1 k1 x0 x1 x2 x3 x4
  cases b1 with
  | false =>
    go_wp2_with fail
    refine (HAW.out _).mono ?_; rintro e w9 ⟨rfl, k9⟩
    have K9 := Lib.hid (K1.out.trans k9)
    clear k9
    go_wp2_with fail
    go_ret
    exact ⟨rfl, K9.out.below⟩
  | true =>
    have HL := Lib.hid (HBB.out.1 (by simp))
    obtain ⟨x0, x1, x2, x3, x4⟩ := HA5.out _ KX1.out
    go_wp2_with fail
    refine (HB1.out _ K1.out HL.out).mono ?_; rintro e w2a ⟨kv2, rfl, hok2, k2⟩
    obtain ⟨q2, m2, e2, rfl⟩ : SlV kv2 := hok2.slv
    unfold JItem.cells
    obtain ⟨w2, hw2⟩ : ∃ w2, w2 = w2a.alloc (.cells #[.int .u32 xb.id, .string (bs xb.name), .int .i64 xb.size, .slice q2 m2 e2] 58) := ⟨_, rfl⟩
    have ka2 : Kept [] w2a w2 := by rw [hw2]; exact (Kept.refl _ _).alloc _
    have o2 : Own w2 w2a.heap.size #[.int .u32 xb.id, .string (bs xb.name), .int .i64 xb.size, .slice q2 m2 e2] 58 := by rw [hw2]; exact Own.new _ _ _
    have K2 := Lib.hid (K1.out.trans (k2.trans ka2))
    have KX2 := Lib.hid (KX1.out.trans (k2.trans ka2))
    have OK2 : Hid (∀ W, Kept [] w2 W → ItemOk W (xb, .slice q2 m2 e2)) := Lib.hid (fun W q => (hok2.kept0 (k2.trans ka2)).kept0 q)
    have HC2 : Hid (∀ W, Kept [] w2 W → W.cell? ⟨w2a.heap.size, 0, none⟩ = some (.int .u32 xb.id) ∧ W.cell? ⟨w2a.heap.size, 1, none⟩ = some (.string (bs xb.name)) ∧ W.cell? ⟨w2a.heap.size, 2, none⟩ = some (.int .i64 xb.size) ∧ W.cell? ⟨w2a.heap.size, 3, none⟩ = some (.slice q2 m2 e2)) := Lib.hid (fun W q => (q.own o2 (by simp)).c4)
    have KL2 := Lib.hid (k2.trans ka2)
    clear hok2 k2 ka2 o2 x0 x1 x2 x3 x4
    go_upto_region 4 with fail
    rw [← hw2]
    clear hw2
    generalize w2a.heap.size = bx2 at *
    obtain ⟨x0, x1, x2, x3, x4⟩ := HA5.out _ KX2.out
    go_wp2_with fail
    refine (HB2.out _ K2.out HL.out).mono ?_; rintro e w3a ⟨kv3, rfl, hok3, k3⟩
    obtain ⟨q3, m3, e3, rfl⟩ : SlV kv3 := hok3.slv
    unfold JItem.cells
    obtain ⟨w3, hw3⟩ : ∃ w3, w3 = w3a.alloc (.cells #[.int .u32 xm.id, .string (bs xm.name), .int .i64 xm.size, .slice q3 m3 e3] 58) := ⟨_, rfl⟩
    have ka3 : Kept [] w3a w3 := by rw [hw3]; exact (Kept.refl _ _).alloc _
    have o3 : Own w3 w3a.heap.size #[.int .u32 xm.id, .string (bs xm.name), .int .i64 xm.size, .slice q3 m3 e3] 58 := by rw [hw3]; exact Own.new _ _ _
    have K3 := Lib.hid (K2.out.trans (k3.trans ka3))
    have KX3 := Lib.hid (KX2.out.trans (k3.trans ka3))
    have OK3 : Hid (∀ W, Kept [] w3 W → ItemOk W (xm, .slice q3 m3 e3)) := Lib.hid (fun W q => (hok3.kept0 (k3.trans ka3)).kept0 q)
    have HC3 : Hid (∀ W, Kept [] w3 W → W.cell? ⟨w3a.heap.size, 0, none⟩ = some (.int .u32 xm.id) ∧ W.cell? ⟨w3a.heap.size, 1, none⟩ = some (.string (bs xm.name)) ∧ W.cell? ⟨w3a.heap.size, 2, none⟩ = some (.int .i64 xm.size) ∧ W.cell? ⟨w3a.heap.size, 3, none⟩ = some (.slice q3 m3 e3)) := Lib.hid (fun W q => (q.own o3 (by simp)).c4)
    have KL3 := Lib.hid (k3.trans ka3)
    clear hok3 k3 ka3 o3 x0 x1 x2 x3 x4
    go_upto_region 5 with fail
    rw [← hw3]
    clear hw3
    generalize w3a.heap.size = bx3 at *
    obtain ⟨x0, x1, x2, x3, x4⟩ := HA5.out _ KX3.out
    go_wp2_with fail
    refine (HB3.out _ K3.out HL.out).mono ?_; rintro e w4a ⟨kv4, rfl, hok4, k4⟩
    obtain ⟨q4, m4, e4, rfl⟩ : SlV kv4 := hok4.slv
    unfold JItem.cells
    obtain ⟨w4, hw4⟩ : ∃ w4, w4 = w4a.alloc (.cells #[.int .u32 xn.id, .string (bs xn.name), .int .i64 xn.size, .slice q4 m4 e4] 58) := ⟨_, rfl⟩
    have ka4 : Kept [] w4a w4 := by rw [hw4]; exact (Kept.refl _ _).alloc _
    have o4 : Own w4 w4a.heap.size #[.int .u32 xn.id, .string (bs xn.name), .int .i64 xn.size, .slice q4 m4 e4] 58 := by rw [hw4]; exact Own.new _ _ _
    have K4 := Lib.hid (K3.out.trans (k4.trans ka4))
    have KX4 := Lib.hid (KX3.out.trans (k4.trans ka4))
    have OK4 : Hid (∀ W, Kept [] w4 W → ItemOk W (xn, .slice q4 m4 e4)) := Lib.hid (fun W q => (hok4.kept0 (k4.trans ka4)).kept0 q)
    have HC4 : Hid (∀ W, Kept [] w4 W → W.cell? ⟨w4a.heap.size, 0, none⟩ = some (.int .u32 xn.id) ∧ W.cell? ⟨w4a.heap.size, 1, none⟩ = some (.string (bs xn.name)) ∧ W.cell? ⟨w4a.heap.size, 2, none⟩ = some (.int .i64 xn.size) ∧ W.cell? ⟨w4a.heap.size, 3, none⟩ = some (.slice q4 m4 e4)) := Lib.hid (fun W q => (q.own o4 (by simp)).c4)
    have KL4 := Lib.hid (k4.trans ka4)
    clear hok4 k4 ka4 o4 x0 x1 x2 x3 x4
    go_upto_region 6 with fail
    rw [← hw4]
    clear hw4
    generalize w4a.heap.size = bx4 at *
    have HI2 : Hid (∀ W, Kept [] w4 W → W.cell? ⟨bx2, 0, none⟩ = some (.int .u32 xb.id) ∧ W.cell? ⟨bx2, 1, none⟩ = some (.string (bs xb.name)) ∧ W.cell? ⟨bx2, 2, none⟩ = some (.int .i64 xb.size) ∧ W.cell? ⟨bx2, 3, none⟩ = some (.slice q2 m2 e2)) := Lib.hid (fun W q => HC2.out W ((KL3.out.trans KL4.out).trans q))
    have HI3 : Hid (∀ W, Kept [] w4 W → W.cell? ⟨bx3, 0, none⟩ = some (.int .u32 xm.id) ∧ W.cell? ⟨bx3, 1, none⟩ = some (.string (bs xm.name)) ∧ W.cell? ⟨bx3, 2, none⟩ = some (.int .i64 xm.size) ∧ W.cell? ⟨bx3, 3, none⟩ = some (.slice q3 m3 e3)) := Lib.hid (fun W q => HC3.out W (KL4.out.trans q))
    have HI4 := HC4
    have HP2 : Hid (∀ W, Kept [] w4 W → ItemOk W (xb, .slice q2 m2 e2)) := Lib.hid (fun W q => OK2.out W ((KL3.out.trans KL4.out).trans q))
    have HP3 : Hid (∀ W, Kept [] w4 W → ItemOk W (xm, .slice q3 m3 e3)) := Lib.hid (fun W q => OK3.out W (KL4.out.trans q))
    have HP4 := OK4
    unfold JItem.cells at HF1 HF2 HSI
    go_cut [59] from 36 to 59 (fun v59 wx => v59 = .bool false ∧ Kept [] w4 wx)
    case first =>
      refine wp_region_held_drew (S := (fun W => (W.cell? ⟨w.heap.size, 0, none⟩ = some (.int .u32 c.nextBox) ∧ W.cell? ⟨w.heap.size, 1, none⟩ = some (.int .u32 c.nextMan) ∧ W.cell? ⟨w.heap.size, 2, none⟩ = some (.slice p1 c.boxes.length c1) ∧ W.cell? ⟨w.heap.size, 3, none⟩ = some (.slice p2 c.mans.length c2) ∧ W.cell? ⟨w.heap.size, 4, none⟩ = some (.slice p3 c.names.length c3)) ∧ (W.cell? ⟨bx2, 0, none⟩ = some (.int .u32 xb.id) ∧ W.cell? ⟨bx2, 1, none⟩ = some (.string (bs xb.name)) ∧ W.cell? ⟨bx2, 2, none⟩ = some (.int .i64 xb.size) ∧ W.cell? ⟨bx2, 3, none⟩ = some (.slice q2 m2 e2)) ∧ (W.cell? ⟨bx3, 0, none⟩ = some (.int .u32 xm.id) ∧ W.cell? ⟨bx3, 1, none⟩ = some (.string (bs xm.name)) ∧ W.cell? ⟨bx3, 2, none⟩ = some (.int .i64 xm.size) ∧ W.cell? ⟨bx3, 3, none⟩ = some (.slice q3 m3 e3)))) (by kernel_rfl) (by exact ⟨HA5.out _ (KX4.out.trans ((Kept.refl [] w4).drew)), HI2.out _ ((Kept.refl [] w4).drew), HI3.out _ ((Kept.refl [] w4).drew)⟩) (fun hHeld => ?_)
      refine take_at (i := 0) (d := some 36) (v := ?_) rfl rfl (by kernel_rfl) (by kernel_rfl) (by kernel_rfl) (fun _ _ _ h => h) (Or.inl ⟨by rfl, ?_⟩) (by assumption) ?_
      rotate_left
      · (intro w hSw; (try dsimp only at hSw); go_simp; try with_reducible rfl)
      try simp only [Act.put, List.setIfInBounds_toArray, List.set_cons_zero, List.set_cons_succ]
      refine take_at (i := 1) (d := some 37) (v := ?_) rfl rfl (by kernel_rfl) (by kernel_rfl) (by kernel_rfl) (fun _ _ _ h => h) (Or.inl ⟨by rfl, ?_⟩) (by assumption) ?_
      rotate_left
      · (intro w hSw; (try dsimp only at hSw); go_simp; try with_reducible rfl)
      try simp only [Act.put, List.setIfInBounds_toArray, List.set_cons_zero, List.set_cons_succ]
      refine take_at (i := 2) (d := some 38) (v := ?_) rfl rfl (by kernel_rfl) (by kernel_rfl) (by kernel_rfl) (fun _ _ _ h => h) (Or.inl ⟨by rfl, ?_⟩) (by assumption) ?_
      rotate_left
      · (intro w hSw; (try dsimp only at hSw); go_simp; try with_reducible rfl)
      try simp only [Act.put, List.setIfInBounds_toArray, List.set_cons_zero, List.set_cons_succ]
      refine take_at (i := 3) (d := some 39) (v := ?_) rfl rfl (by kernel_rfl) (by kernel_rfl) (by kernel_rfl) (fun _ _ _ h => h) (Or.inl ⟨by rfl, ?_⟩) (by assumption) ?_
      rotate_left
      · (intro w hSw; (try dsimp only at hSw); go_simp; try with_reducible rfl)
      try simp only [Act.put, List.setIfInBounds_toArray, List.set_cons_zero, List.set_cons_succ]
      refine take_at (i := 4) (d := some 40) (v := ?_) rfl rfl (by kernel_rfl) (by kernel_rfl) (by kernel_rfl) (fun _ _ _ h => h) (Or.inl ⟨by rfl, ?_⟩) (by assumption) ?_
      rotate_left
      · (intro w hSw; (try dsimp only at hSw); go_simp; try with_reducible rfl)
      try simp only [Act.put, List.setIfInBounds_toArray, List.set_cons_zero, List.set_cons_succ]
      refine wpAnyH_ready (rs := [5]) (by kernel_rfl) (by simp) ?_
      refine (AllReadyH.cons rfl (fun K hK => ?_) AllReadyH.nil)
      go_simp
      ((with_reducible refine (HF1.out _ _ (K4.out.trans ((Kept.refl [] w4).drew)) HL.out (HP2.out _ ((Kept.refl [] w4).drew))).mono ?_)); rintro e w5 ⟨rfl, k5⟩
      have K5 := Lib.hid ((((Kept.refl [] w4).drew)).trans k5)
      clear k5
      go_wp2_with fail
      refine hK.out _ _ ?_ (fun hHeld => ?_)
      · exact ⟨HA5.out _ (KX4.out.trans K5.out), HI2.out _ K5.out, HI3.out _ K5.out⟩
      clear hK K
      try simp only [Act.put, List.setIfInBounds_toArray, List.set_cons_zero, List.set_cons_succ]
      refine take_at (i := 6) (d := some 42) (v := ?_) rfl rfl (by kernel_rfl) (by kernel_rfl) (by kernel_rfl) (fun _ _ _ h => h) (Or.inl ⟨by rfl, ?_⟩) (by assumption) ?_
      rotate_left
      · (intro w hSw; (try dsimp only at hSw); go_simp; try with_reducible rfl)
      try simp only [Act.put, List.setIfInBounds_toArray, List.set_cons_zero, List.set_cons_succ]
      refine take_at (i := 7) (d := some 43) (v := ?_) rfl rfl (by kernel_rfl) (by kernel_rfl) (by kernel_rfl) (fun _ _ _ h => h) (Or.inl ⟨by rfl, ?_⟩) (by assumption) ?_
      rotate_left
      · (intro w hSw; (try dsimp only at hSw); go_simp; try with_reducible rfl)
      try simp only [Act.put, List.setIfInBounds_toArray, List.set_cons_zero, List.set_cons_succ]
      refine take_at (i := 8) (d := some 44) (v := ?_) rfl rfl (by kernel_rfl) (by kernel_rfl) (by kernel_rfl) (fun _ _ _ h => h) (Or.inl ⟨by rfl, ?_⟩) (by assumption) ?_
      rotate_left
      · (intro w hSw; (try dsimp only at hSw); go_simp; try with_reducible rfl)
      try simp only [Act.put, List.setIfInBounds_toArray, List.set_cons_zero, List.set_cons_succ]
      refine take_at (i := 9) (d := some 45) (v := ?_) rfl rfl (by kernel_rfl) (by kernel_rfl) (by kernel_rfl) (fun _ _ _ h => h) (Or.inl ⟨by rfl, ?_⟩) (by assumption) ?_
      rotate_left
      · (intro w hSw; (try dsimp only at hSw); go_simp; try with_reducible rfl)
      try simp only [Act.put, List.setIfInBounds_toArray, List.set_cons_zero, List.set_cons_succ]
      refine take_at (i := 10) (d := some 46) (v := ?_) rfl rfl (by kernel_rfl) (by kernel_rfl) (by kernel_rfl) (fun _ _ _ h => h) (Or.inl ⟨by rfl, ?_⟩) (by assumption) ?_
      rotate_left
      · (intro w hSw; (try dsimp only at hSw); go_simp; try with_reducible rfl)
      try simp only [Act.put, List.setIfInBounds_toArray, List.set_cons_zero, List.set_cons_succ]
      refine take_at (i := 11) (d := some 47) (v := ?_) rfl rfl (by kernel_rfl) (by kernel_rfl) (by kernel_rfl) (fun _ _ _ h => h) (Or.inl ⟨by rfl, ?_⟩) (by assumption) ?_
      rotate_left
      · (intro w hSw; (try dsimp only at hSw); go_simp; try with_reducible rfl)
      try simp only [Act.put, List.setIfInBounds_toArray, List.set_cons_zero, List.set_cons_succ]
      refine take_at (i := 12) (d := some 48) (v := ?_) rfl rfl (by kernel_rfl) (by kernel_rfl) (by kernel_rfl) (fun _ _ _ h => h) (Or.inl ⟨by rfl, ?_⟩) (by assumption) ?_
      rotate_left
      · (intro w hSw; (try dsimp only at hSw); go_simp; try with_reducible rfl)
      try simp only [Act.put, List.setIfInBounds_toArray, List.set_cons_zero, List.set_cons_succ]
      refine wpAnyH_ready (rs := [13]) (by kernel_rfl) (by simp) ?_
      refine (AllReadyH.cons rfl (fun K hK => ?_) AllReadyH.nil)
      go_simp
      ((with_reducible refine (HF2.out _ _ (K4.out.trans K5.out) HL.out (HP3.out _ K5.out)).mono ?_)); rintro e w6 ⟨rfl, k6⟩
      have K6 := Lib.hid ((K5.out).trans k6)
      clear k6
      go_wp2_with fail
      refine hK.out _ _ ?_ (fun hHeld => ?_)
      · exact ⟨HA5.out _ (KX4.out.trans K6.out), HI2.out _ K6.out, HI3.out _ K6.out⟩
      clear hK K
      try simp only [Act.put, List.setIfInBounds_toArray, List.set_cons_zero, List.set_cons_succ]
      refine take_at (i := 14) (d := some 50) (v := ?_) rfl rfl (by kernel_rfl) (by kernel_rfl) (by kernel_rfl) (fun _ _ _ h => h) (Or.inl ⟨by rfl, ?_⟩) (by assumption) ?_
      rotate_left
      · (intro w hSw; (try dsimp only at hSw); go_simp; try with_reducible rfl)
      try simp only [Act.put, List.setIfInBounds_toArray, List.set_cons_zero, List.set_cons_succ]
      refine take_at (i := 15) (d := some 51) (v := ?_) rfl rfl (by kernel_rfl) (by kernel_rfl) (by kernel_rfl) (fun _ _ _ h => h) (Or.inl ⟨by rfl, ?_⟩) (by assumption) ?_
      rotate_left
      · (intro w hSw; (try dsimp only at hSw); go_simp; try with_reducible rfl)
      try simp only [Act.put, List.setIfInBounds_toArray, List.set_cons_zero, List.set_cons_succ]
      refine take_at (i := 16) (d := some 52) (v := ?_) rfl rfl (by kernel_rfl) (by kernel_rfl) (by kernel_rfl) (fun _ _ _ h => h) (Or.inl ⟨by rfl, ?_⟩) (by assumption) ?_
      rotate_left
      · (intro w hSw; (try dsimp only at hSw); go_simp; try with_reducible rfl)
      try simp only [Act.put, List.setIfInBounds_toArray, List.set_cons_zero, List.set_cons_succ]
      refine take_at (i := 17) (d := some 53) (v := ?_) rfl rfl (by kernel_rfl) (by kernel_rfl) (by kernel_rfl) (fun _ _ _ h => h) (Or.inl ⟨by rfl, ?_⟩) (by assumption) ?_
      rotate_left
      · (intro w hSw; (try dsimp only at hSw); go_simp; try with_reducible rfl)
      try simp only [Act.put, List.setIfInBounds_toArray, List.set_cons_zero, List.set_cons_succ]
      refine take_at (i := 19) (d := some 55) (v := ?_) rfl rfl (by kernel_rfl) (by kernel_rfl) (by kernel_rfl) (fun _ _ _ h => h) (Or.inl ⟨by rfl, ?_⟩) (by assumption) ?_
      rotate_left
      · (intro w hSw; (try dsimp only at hSw); go_simp; try with_reducible rfl)
      try simp only [Act.put, List.setIfInBounds_toArray, List.set_cons_zero, List.set_cons_succ]
      refine wpAnyH_ready (rs := [18]) (by kernel_rfl) (by simp) ?_
      refine (AllReadyH.cons rfl (fun K hK => ?_) AllReadyH.nil)
      go_simp
      ((with_reducible refine (HR1.out _ (K4.out.trans K6.out) HL.out).mono ?_)); rintro e w7 ⟨u7, rfl, hr7, k7⟩
      have K7 := Lib.hid ((K6.out).trans k7)
      have KL7 := Lib.hid k7
      have RI7 := Lib.hid (RunsIn.of_own hr7)
      obtain ⟨pr7, cr7, rfl⟩ := own_shape hr7
      clear k7 hr7
      go_wp2_with fail
      refine hK.out _ _ ?_ (fun hHeld => ?_)
      · exact ⟨HA5.out _ (KX4.out.trans K7.out), HI2.out _ K7.out, HI3.out _ K7.out⟩
      clear hK K
      try simp only [Act.put, List.setIfInBounds_toArray, List.set_cons_zero, List.set_cons_succ]
      refine wpAnyH_ready (rs := [20]) (by kernel_rfl) (by simp) ?_
      refine (AllReadyH.cons rfl (fun K hK => ?_) AllReadyH.nil)
      go_simp
      ((with_reducible refine (HR2.out _ (K4.out.trans K7.out) HL.out).mono ?_)); rintro e w8 ⟨u8, rfl, hr8, k8⟩
      have K8 := Lib.hid ((K7.out).trans k8)
      have KL8 := Lib.hid k8
      have RI8 := Lib.hid (RunsIn.of_own hr8)
      obtain ⟨pr8, cr8, rfl⟩ := own_shape hr8
      clear k8 hr8
      go_wp2_with fail
      refine hK.out _ _ ?_ (fun hHeld => ?_)
      · exact ⟨HA5.out _ (KX4.out.trans K8.out), HI2.out _ K8.out, HI3.out _ K8.out⟩
      clear hK K
      try simp only [Act.put, List.setIfInBounds_toArray, List.set_cons_zero, List.set_cons_succ]
      refine wpAnyH_ready (rs := [21]) (by kernel_rfl) (by simp) ?_
      refine (AllReadyH.cons rfl (fun K hK => ?_) AllReadyH.nil)
      go_simp
      ((with_reducible refine (HSR.out _ _ _ _ _ _ _ (RI7.out.kept0 KL8.out) RI8.out HL.out).mono ?_)); rintro e w9 ⟨rfl, k9⟩
      have K9 := Lib.hid ((K8.out).trans k9)
      clear k9
      go_wp2_with fail
      refine hK.out _ _ ?_ (fun hHeld => ?_)
      · exact ⟨HA5.out _ (KX4.out.trans K9.out), HI2.out _ K9.out, HI3.out _ K9.out⟩
      clear hK K
      try simp only [Act.put, List.setIfInBounds_toArray, List.set_cons_zero, List.set_cons_succ]
      refine take_at (i := 22) (d := some 58) (v := ?_) rfl rfl (by kernel_rfl) (by kernel_rfl) (by kernel_rfl) (fun _ _ _ h => h) (Or.inl ⟨by rfl, ?_⟩) (by assumption) ?_
      rotate_left
      · (intro w hSw; (try dsimp only at hSw); go_simp; try with_reducible rfl)
      try simp only [Act.put, List.setIfInBounds_toArray, List.set_cons_zero, List.set_cons_succ]
      refine take_at (i := 23) (d := some 59) (v := ?_) rfl rfl (by kernel_rfl) (by kernel_rfl) (by kernel_rfl) (fun _ _ _ h => h) (Or.inl ⟨by rfl, ?_⟩) (by assumption) ?_
      rotate_left
      · (intro w hSw; (try dsimp only at hSw); go_simp; try with_reducible rfl)
      try simp only [Act.put, List.setIfInBounds_toArray, List.set_cons_zero, List.set_cons_succ]
      refine wpAnyH_done (by kernel_rfl) ?_ _
      try simp only [List.set_cons_succ, List.set_cons_zero]
      go_wp2_with fail
      go_meet
      exact ⟨rfl, K9.out⟩
    case rest =>
      obtain ⟨rfl, hkx⟩ := hcut
      rename World => wx
      have KX := Lib.hid hkx
      clear hkx
      have hs2 : (bs s).size = s.length := bs_size s
      go_wp2_with fail
      go_loopw [13] (fun i wr => ∃ k : Nat, k ≤ c.names.length ∧ i = .int .i64 k ∧ (∀ j (hj : j < c.names.length), j < k → (c.names[j].name == s) = false) ∧ Kept [] w4 wr) (fun i _ => c.names.length - (intOf i).toNat)
      case atStart => exact ⟨0, Nat.zero_le _, rfl, fun j hj h => absurd h (Nat.not_lt_zero j), KX.out⟩
      case round =>
        obtain ⟨k, hk, rfl, hlo, hK⟩ := hrel
        rename World => wr
        have HK := Lib.hid hK
        have HKW := Lib.hid (K4.out.trans hK)
        obtain ⟨x0, x1, x2, x3, x4⟩ := HA5.out wr (KX4.out.trans hK)
        by_cases hlt : k < c.names.length
        · have i1 : (k : Int) < c.names.length := by omega
          obtain ⟨b, off, kv, rfl, hia, hb, hc1, hc2, HIA⟩ := (HN0.out wr (K4.out.trans hK)).at4 k hlt
          obtain ⟨y0, y1, y2, y3⟩ := HIA wr (Kept.refl _ _)
          have HIAH := Lib.hid HIA
          have HIO : Hid (∀ W, Kept [] wr W → ItemOk W (c.names[k]'hlt, kv)) := Lib.hid (fun W q => hia.kept0 q)
          have HRL : Hid ((c.names[k]'hlt).runs.length ≤ 1000000) := Lib.hid (by have := (HL.out.2.2.2 _ (List.getElem_mem hlt)).1; omega)
          have HYES : Hid (((c.names[k]'hlt).name == s) = true → xn = (c.names[k]'hlt) ∧ isn = true) := Lib.hid (fun he => by
            have := findX_at (p := fun a : JItem => a.name == s) hlt he (fun j hj hjk => hlo j hj hjk)
            rw [HXN.out] at this
            injection this with e1 e2
            exact ⟨e1, e2⟩)
          have HNX : Hid (((c.names[k]'hlt).name == s) = false → ∀ j (hj : j < c.names.length), j < k + 1 → (c.names[j].name == s) = false) := Lib.hid (fun he j hj hjk => by
            by_cases e : j = k
            · subst e; exact he
            · exact hlo j hj (by omega))
          have HLT := Lib.hid hlt
          obtain ⟨pk, nk, ck, rfl⟩ := hia.slv
          clear hia HIA hb hlo hK hk
          generalize c.names[k]'hlt = A at *
          clear hlt
          obtain ⟨q, hq⟩ : ∃ q, (A.name == s) = q := ⟨_, rfl⟩
          have hq2 : ((bs A.name).toList == (bs s).toList) = q := by rw [bs_toList, bs_toList]; exact hq
          cases q with
          | false =>
            have HN := Lib.hid (HNX.out hq)
            go_wp2_with fail
            go_roundw
            case rel => exact ⟨k + 1, HLT.out, by go_num, HN.out, HK.out⟩
            case measure => (have hh := HLT.out; simp [intOf]; omega)
          | true =>
            obtain ⟨hxa, rfl⟩ := HYES.out hq
            have HXA := Lib.hid hxa
            clear hxa HNX HYES
            go_wp2_with fail
            refine wp_region_held_drew (S := (fun W => (W.cell? ⟨w.heap.size, 0, none⟩ = some (.int .u32 c.nextBox) ∧ W.cell? ⟨w.heap.size, 1, none⟩ = some (.int .u32 c.nextMan) ∧ W.cell? ⟨w.heap.size, 2, none⟩ = some (.slice p1 c.boxes.length c1) ∧ W.cell? ⟨w.heap.size, 3, none⟩ = some (.slice p2 c.mans.length c2) ∧ W.cell? ⟨w.heap.size, 4, none⟩ = some (.slice (some ⟨b, off, none⟩) c.names.length c3)) ∧ (W.cell? ⟨bx4, 0, none⟩ = some (.int .u32 xn.id) ∧ W.cell? ⟨bx4, 1, none⟩ = some (.string (bs xn.name)) ∧ W.cell? ⟨bx4, 2, none⟩ = some (.int .i64 xn.size) ∧ W.cell? ⟨bx4, 3, none⟩ = some (.slice q4 m4 e4)) ∧ (W.cell? ⟨b, off + k * 4, none⟩ = some (.int .u32 A.id) ∧ W.cell? ⟨b, off + k * 4 + 1, none⟩ = some (.string (bs A.name)) ∧ W.cell? ⟨b, off + k * 4 + 2, none⟩ = some (.int .i64 A.size) ∧ W.cell? ⟨b, off + k * 4 + 3, none⟩ = some (.slice pk nk ck)))) (by kernel_rfl) (by exact ⟨HA5.out _ (KX4.out.trans (HK.out.trans ((Kept.refl [] wr).drew))), HI4.out _ (HK.out.trans ((Kept.refl [] wr).drew)), HIAH.out _ ((Kept.refl [] wr).drew)⟩) (fun hHeld => ?_)
            refine take_at (i := 0) (d := some 75) (v := ?_) rfl rfl (by kernel_rfl) (by kernel_rfl) (by kernel_rfl) (fun _ _ _ h => h) (Or.inl ⟨by rfl, ?_⟩) (by assumption) ?_
            rotate_left
            · (intro w hSw; (try dsimp only at hSw); go_simp; try with_reducible rfl)
            try simp only [Act.put, List.setIfInBounds_toArray, List.set_cons_zero, List.set_cons_succ]
            refine take_at (i := 1) (d := some 76) (v := ?_) rfl rfl (by kernel_rfl) (by kernel_rfl) (by kernel_rfl) (fun _ _ _ h => h) (Or.inl ⟨by rfl, ?_⟩) (by assumption) ?_
            rotate_left
            · (intro w hSw; (try dsimp only at hSw); go_simp; try with_reducible rfl)
            try simp only [Act.put, List.setIfInBounds_toArray, List.set_cons_zero, List.set_cons_succ]
            refine take_at (i := 2) (d := some 77) (v := ?_) rfl rfl (by kernel_rfl) (by kernel_rfl) (by kernel_rfl) (fun _ _ _ h => h) (Or.inl ⟨by rfl, ?_⟩) (by assumption) ?_
            rotate_left
            · (intro w hSw; (try dsimp only at hSw); go_simp; try with_reducible rfl)
            try simp only [Act.put, List.setIfInBounds_toArray, List.set_cons_zero, List.set_cons_succ]
            refine take_at (i := 3) (d := some 78) (v := ?_) rfl rfl (by kernel_rfl) (by kernel_rfl) (by kernel_rfl) (fun _ _ _ h => h) (Or.inl ⟨by rfl, ?_⟩) (by assumption) ?_
            rotate_left
            · (intro w hSw; (try dsimp only at hSw); go_simp; try with_reducible rfl)
            try simp only [Act.put, List.setIfInBounds_toArray, List.set_cons_zero, List.set_cons_succ]
            refine take_at (i := 4) (d := some 79) (v := ?_) rfl rfl (by kernel_rfl) (by kernel_rfl) (by kernel_rfl) (fun _ _ _ h => h) (Or.inl ⟨by rfl, ?_⟩) (by assumption) ?_
            rotate_left
            · (intro w hSw; (try dsimp only at hSw); go_simp; try with_reducible rfl)
            try simp only [Act.put, List.setIfInBounds_toArray, List.set_cons_zero, List.set_cons_succ]
            refine take_at (i := 5) (d := some 80) (v := ?_) rfl rfl (by kernel_rfl) (by kernel_rfl) (by kernel_rfl) (fun _ _ _ h => h) (Or.inl ⟨by rfl, ?_⟩) (by assumption) ?_
            rotate_left
            · (intro w hSw; (try dsimp only at hSw); go_simp; try with_reducible rfl)
            try simp only [Act.put, List.setIfInBounds_toArray, List.set_cons_zero, List.set_cons_succ]
            refine take_at (i := 6) (d := some 81) (v := ?_) rfl rfl (by kernel_rfl) (by kernel_rfl) (by kernel_rfl) (fun _ _ _ h => h) (Or.inl ⟨by rfl, ?_⟩) (by assumption) ?_
            rotate_left
            · (intro w hSw; (try dsimp only at hSw); go_simp; try with_reducible rfl)
            try simp only [Act.put, List.setIfInBounds_toArray, List.set_cons_zero, List.set_cons_succ]
            refine take_at (i := 7) (d := some 82) (v := ?_) rfl rfl (by kernel_rfl) (by kernel_rfl) (by kernel_rfl) (fun _ _ _ h => h) (Or.inl ⟨by rfl, ?_⟩) (by assumption) ?_
            rotate_left
            · (intro w hSw; (try dsimp only at hSw); go_simp; try with_reducible rfl)
            try simp only [Act.put, List.setIfInBounds_toArray, List.set_cons_zero, List.set_cons_succ]
            refine wpAnyH_ready (rs := [8]) (by kernel_rfl) (by simp) ?_
            refine (AllReadyH.cons rfl (fun K hK => ?_) AllReadyH.nil)
            go_simp
            ((with_reducible refine (HSI.out _ _ A _ (HP4.out _ (HK.out.trans ((Kept.refl [] wr).drew))) (HIO.out _ ((Kept.refl [] wr).drew)) (HNR.out HL.out) HRL.out HXA.out).mono ?_)); rintro e w7 ⟨rfl, k7⟩
            have K7 := Lib.hid ((((Kept.refl [] wr).drew)).trans k7)
            clear k7
            go_wp2_with fail
            refine hK.out _ _ ?_ (fun hHeld => ?_)
            · exact ⟨HA5.out _ (KX4.out.trans (HK.out.trans K7.out)), HI4.out _ (HK.out.trans K7.out), HIAH.out _ K7.out⟩
            clear hK K
            try simp only [Act.put, List.setIfInBounds_toArray, List.set_cons_zero, List.set_cons_succ]
            refine take_at (i := 9) (d := some 84) (v := ?_) rfl rfl (by kernel_rfl) (by kernel_rfl) (by kernel_rfl) (fun _ _ _ h => h) (Or.inl ⟨by rfl, ?_⟩) (by assumption) ?_
            rotate_left
            · (intro w hSw; (try dsimp only at hSw); go_simp; try with_reducible rfl)
            try simp only [Act.put, List.setIfInBounds_toArray, List.set_cons_zero, List.set_cons_succ]
            refine take_at (i := 10) (d := some 85) (v := ?_) rfl rfl (by kernel_rfl) (by kernel_rfl) (by kernel_rfl) (fun _ _ _ h => h) (Or.inl ⟨by rfl, ?_⟩) (by assumption) ?_
            rotate_left
            · (intro w hSw; (try dsimp only at hSw); go_simp; try with_reducible rfl)
            try simp only [Act.put, List.setIfInBounds_toArray, List.set_cons_zero, List.set_cons_succ]
            refine wpAnyH_ready (rs := [11]) (by kernel_rfl) (by simp) ?_
            refine (AllReadyH.cons rfl (fun K hK => ?_) AllReadyH.nil)
            go_simp
            ((with_reducible refine (HAW.out _).mono ?_)); rintro e w8 ⟨rfl, k8⟩
            have K8 := Lib.hid (K7.out.trans k8)
            clear k8
            go_wp2_with fail
            refine hK.out _ _ ?_ (fun hHeld => ?_)
            · exact ⟨HA5.out _ (KX4.out.trans (HK.out.trans K8.out)), HI4.out _ (HK.out.trans K8.out), HIAH.out _ K8.out⟩
            clear hK K
            try simp only [Act.put, List.setIfInBounds_toArray, List.set_cons_zero, List.set_cons_succ]
            refine take_at (i := 12) (d := some 87) (v := ?_) rfl rfl (by kernel_rfl) (by kernel_rfl) (by kernel_rfl) (fun _ _ _ h => h) (Or.inl ⟨by rfl, ?_⟩) (by assumption) ?_
            rotate_left
            · (intro w hSw; (try dsimp only at hSw); go_simp; try with_reducible rfl)
            try simp only [Act.put, List.setIfInBounds_toArray, List.set_cons_zero, List.set_cons_succ]
            refine take_at (i := 13) (d := some 6) (v := ?_) rfl rfl (by kernel_rfl) (by kernel_rfl) (by kernel_rfl) (fun _ _ _ h => h) (Or.inl ⟨by rfl, ?_⟩) (by assumption) ?_
            rotate_left
            · (intro w hSw; (try dsimp only at hSw); go_simp; try with_reducible rfl)
            try simp only [Act.put, List.setIfInBounds_toArray, List.set_cons_zero, List.set_cons_succ]
            refine wpAnyH_done (by kernel_rfl) ?_ _
            try simp only [List.set_cons_succ, List.set_cons_zero]
            go_wp2_with fail
            go_ret
            exact ⟨rfl, (HKW.out.trans K8.out).below⟩
        · obtain rfl : k = c.names.length := by omega
          have i1 : ¬ (c.names.length : Int) < c.names.length := by omega
          have hno := findX_no (p := fun a : JItem => a.name == s) (l := c.names) (fun j hj => hlo j hj hj)
          rw [HXN.out] at hno
          injection hno with e1 e2
          subst e2
          have hsi := HSI.out wr _ itemNo (.slice none 0 0) (HP4.out wr hK) (itemNo_ok wr) (HNR.out HL.out) (by decide) e1
          have HSX := Lib.hid hsi
          obtain ⟨y0, y1, y2, y3⟩ := HI4.out wr hK
          clear hlo hK hk hlt e1 hsi
          go_wp2_with fail
          refine (HSX.out).mono ?_; rintro e w7 ⟨rfl, k7⟩
          have K7 := Lib.hid (HKW.out.trans k7)
          clear k7
          go_wp2_with fail
          refine (HAW.out _).mono ?_; rintro e w9 ⟨rfl, k9⟩
          have K9 := Lib.hid (K7.out.trans k9)
          clear k9
          go_wp2_with fail
          go_ret
          exact ⟨rfl, K9.out.below⟩
end Go.Proofs.YtakdnchmehmdhaaGreat
