/- Layer 12 (blob): BlobPlays's walk. -/
import Derived.Test.YtdnbddhjdokbfaaG26
import Derived.Test.YtdnbddhjdokbfaaG36
import Derived.Test.YtdnbddhjdokbfaaG41
import Derived.Test.YtdnbddhjdokbfaaG42
namespace Go.Proofs.Ytdnbddhjdokbfaa
open Go.RowKit Go.Shelf Go.Maps
set_option linter.unusedVariables false
set_option linter.unusedSimpArgs false

theorem bdoes (W0 w : World) (b sb mb lo r rlo : Nat) (d : DK) (a : BAct) (rv tv : Value) (h : Both W0 w b sb mb lo r rlo (nrm d) d)
    (hr : RunsIn W0 rv a.runs 0 W0.heap.size) (ht : RunsIn W0 tv a.dst 0 W0.heap.size) (hf : a.fits) (ho : d.ops ≤ 2000) (hw : d.waits.length ≤ 1700) :
    Calls Try.prog 25 #[.pointer (some ⟨b, 0, none⟩), .pointer (some ⟨r, 0, none⟩), .agg #[.int .u8 a.kind, rv, tv, .int .i64 a.size, .int .u8 a.byte, .int .i64 a.fuse]] w (BSays W0 b sb mb lo r rlo (bNext d a)) := by
  obtain ⟨kind, runs, dst, size, byte, fuse⟩ := a
  obtain ⟨f1, f2, f3, f4, f5, f6⟩ := hf
  simp only at *
  have u8 : ∀ x : Int, (Lit.int .u8 x).wf = true → 0 ≤ x ∧ x ≤ 255 := fun x hx => by
    simp only [Lit.wf, Bool.and_eq_true, decide_eq_true_eq] at hx
    exact ⟨hx.1, hx.2⟩
  obtain ⟨kn, rfl⟩ := Int.eq_ofNat_of_zero_le (u8 _ f1).1
  obtain ⟨bn, rfl⟩ := Int.eq_ofNat_of_zero_le (u8 _ f5).1
  have hb := (u8 _ f5).2
  obtain ⟨c, hc, hc2⟩ : ∃ c : UInt8, UInt8.ofNat ((bn : Int).toNat) = c ∧ (bn : Int) = (c.toNat : Int) := ⟨_, rfl, by rw [Int.toNat_natCast, UInt8.toNat_ofNat', Nat.mod_eq_of_lt (by omega)]⟩
  have hbn : ∀ d, bNext d ⟨(kn : Int), runs, dst, size, (bn : Int), fuse⟩ = bNext d ⟨(kn : Int), runs, dst, size, (c.toNat : Int), fuse⟩ := fun d => by rw [hc2]
  rw [hbn, hc2]
  have hcc : UInt8.ofNat ((c.toNat : Int).toNat) = c := by rw [Int.toNat_natCast]; exact UInt8.ofNat_toNat
  unfold bNext BAct.text
  simp only [hcc]
  have h6 : (kn : Int) % 6 = 0 ∨ (kn : Int) % 6 = 1 ∨ (kn : Int) % 6 = 2 ∨ (kn : Int) % 6 = 3 ∨ (kn : Int) % 6 = 4 ∨ (kn : Int) % 6 = 5 := by omega
  by_cases hfu : 0 ≤ fuse
  · rw [if_pos hfu]
    rcases h6 with hk | hk | hk | hk | hk | hk
    · rw [if_pos (Or.inl hk)]
      exact bdo_put0_y W0 w b sb mb lo r rlo d kn runs dst rv tv size fuse c h hr f2 ht f3 f4 f6 hfu hk ho hw
    · rw [if_pos (Or.inr hk)]
      exact bdo_put1_y W0 w b sb mb lo r rlo d kn runs dst rv tv size fuse c h hr f2 ht f3 f4 f6 hfu hk ho hw
    · rw [if_neg (by omega), if_pos hk]
      exact bdo_get2_y W0 w b sb mb lo r rlo d kn runs dst rv tv size fuse c h hr f2 ht f3 f4 f6 hfu hk ho hw
    · rw [if_neg (by omega), if_neg (by omega), if_pos hk]
      exact bdo_copy3_y W0 w b sb mb lo r rlo d kn runs dst rv tv size fuse c h hr f2 ht f3 f4 f6 hfu hk ho hw
    · rw [if_neg (by omega), if_neg (by omega), if_neg (by omega), if_pos hk]
      exact bdo_flush4_y W0 w b sb mb lo r rlo d kn runs dst rv tv size fuse c h hr f2 ht f3 f4 f6 hfu hk ho hw
    · rw [if_neg (by omega), if_neg (by omega), if_neg (by omega), if_neg (by omega)]
      exact bdo_power5_y W0 w b sb mb lo r rlo d kn runs dst rv tv size fuse c h hr f2 ht f3 f4 f6 hfu hk ho hw
  · rw [if_neg hfu]
    have hfu' : fuse < 0 := by omega
    rcases h6 with hk | hk | hk | hk | hk | hk
    · rw [if_pos (Or.inl hk)]
      exact bdo_put0_n W0 w b sb mb lo r rlo d kn runs dst rv tv size fuse c h hr f2 ht f3 f4 f6 hfu' hk ho hw
    · rw [if_pos (Or.inr hk)]
      exact bdo_put1_n W0 w b sb mb lo r rlo d kn runs dst rv tv size fuse c h hr f2 ht f3 f4 f6 hfu' hk ho hw
    · rw [if_neg (by omega), if_pos hk]
      exact bdo_get2_n W0 w b sb mb lo r rlo d kn runs dst rv tv size fuse c h hr f2 ht f3 f4 f6 hfu' hk ho hw
    · rw [if_neg (by omega), if_neg (by omega), if_pos hk]
      exact bdo_copy3_n W0 w b sb mb lo r rlo d kn runs dst rv tv size fuse c h hr f2 ht f3 f4 f6 hfu' hk ho hw
    · rw [if_neg (by omega), if_neg (by omega), if_neg (by omega), if_pos hk]
      exact bdo_flush4_n W0 w b sb mb lo r rlo d kn runs dst rv tv size fuse c h hr f2 ht f3 f4 f6 hfu' hk ho hw
    · rw [if_neg (by omega), if_neg (by omega), if_neg (by omega), if_neg (by omega)]
      exact bdo_power5_n W0 w b sb mb lo r rlo d kn runs dst rv tv size fuse c h hr f2 ht f3 f4 f6 hfu' hk ho hw
set_option maxRecDepth 100000 in
set_option maxHeartbeats 8000000 in
theorem blobPlaysLaw (sectors : Int) (v1 : Value) (l : List BAct) (w : World) (hs : (Lit.int .u8 sectors).wf = true) (ha : BActsIn w v1 l 0 w.heap.size) :
    Calls Try.prog 6 #[.int .u8 sectors, v1] w fun e w' => e = .returned (.bool true) ∧ Below w.heap.size w w' := by
  obtain ⟨p1, c1, rfl⟩ := RowsOf.shape ha
  have hL1 : (l.length : Int) ≤ 9223372036854775807 := by have := RowsOf.len ha; unfold maxLen at this; omega
  obtain ⟨m, rfl⟩ : ∃ m : Nat, sectors = (m : Int) := by
    simp only [Lit.wf, Bool.and_eq_true, decide_eq_true_eq] at hs
    have h1 : (0 : Int) ≤ sectors := hs.1
    exact ⟨sectors.toNat, by omega⟩
  obtain ⟨q, hq⟩ : ∃ q : Nat, m % 40 = q := ⟨_, rfl⟩
  have hq2 : (m : Int) % 40 = (q : Int) := by omega
  obtain ⟨n, hn⟩ : ∃ n : Nat, 1 + q = n := ⟨_, rfl⟩
  have hn2 : (1 : Int) + (q : Int) = (n : Int) := by omega
  have HN : Hid (1 ≤ n ∧ n ≤ 40 ∧ q < 40) := ⟨by omega, by omega, by omega⟩
  have hnew := fun W => aNew n W (by omega) (by omega)
  have hqn := fun W => qNew n W (by omega) (by omega)
  have HNEW := Lib.hid hnew
  have HQ := Lib.hid hqn
  have HA := Lib.hid ha
  have hqr : (q : Int) < 40 := by omega
  clear hnew hqn ha hs hq hn
  go_enter Try.func6, Try.ntmps6
  go_wp2_with fail
  refine (HNEW.out _).mono ?_; rintro e w1 ⟨b, sb, mb, lo, rfl, A1⟩
  have A1h := Lib.hid A1
  clear A1
  go_wp2_with fail
  refine (HQ.out _).mono ?_; rintro e w2 ⟨rfl, R2, k2⟩
  have hB := Both.of A1h.out R2 k2 (Fit.new n)
  have hB2 : Both w w2 b sb mb lo w1.heap.size w1.heap.size (nrm (newD (List.replicate n zeroS))) (newD (List.replicate n zeroS)) := hB
  have HB := Lib.hid hB2
  have HOP : Hid ((newD (List.replicate n zeroS)).ops = 0 ∧ (newD (List.replicate n zeroS)).waits.length = 0 ∧ (newD (List.replicate n zeroS)).stand.length = n) := ⟨rfl, rfl, by show (List.replicate n zeroS).length = n; simp⟩
  clear hB hB2 R2 k2
  generalize newD (List.replicate n zeroS) = D0 at *
  generalize w1.heap.size = r at *
  go_wp2_with fail
  go_loopw [9] (fun i wr => ∃ (k : Nat) (d : DK), k ≤ 16 ∧ k ≤ l.length ∧ i = .int .i64 k ∧ Both w wr b sb mb lo r r (nrm d) d ∧ d.ops ≤ 41 * k ∧ d.waits.length ≤ 40 * k ∧ d.stand.length = n) (fun i _ => 16 - (intOf i).toNat)
  case atStart => exact ⟨0, D0, by omega, by omega, rfl, HB.out, by have := HOP.out; omega, by have := HOP.out; omega, HOP.out.2.2⟩
  case round =>
    obtain ⟨k, d, hk1, hk2, rfl, hBo, hop, hwt, hst⟩ := hrel
    have HBO := Lib.hid hBo
    rcases (by omega : (k < l.length ∧ k < 16) ∨ (l.length ≤ k) ∨ (k < l.length ∧ 16 ≤ k)) with ⟨g1, g2⟩ | g1 | ⟨g1, g2⟩
    · obtain ⟨ab, off, rv, tv, rfl, y, hr, ht, hfits, _, hab, _⟩ := HA.out.at_ k g1
      generalize l[k] = ak at y hr ht hfits
      have hdo := fun W (hW : Both w W b sb mb lo r r (nrm d) d) => bdoes w W b sb mb lo r r d ak rv tv hW hr ht hfits (by omega) (by omega)
      have hbd := bNext_ops d ak
      have HBD : Hid ((bNext d ak).ops ≤ 41 * (k + 1) ∧ (bNext d ak).waits.length ≤ 40 * (k + 1) ∧ (bNext d ak).stand.length = n) := ⟨by have := HN.out; omega, by have := HN.out; omega, by omega⟩
      have hcs : ∀ W, Kept [] w W → W.cell? ⟨ab, off + k * 6, none⟩ = some (.int .u8 ak.kind) ∧ W.cell? ⟨ab, off + k * 6 + 1, none⟩ = some rv ∧ W.cell? ⟨ab, off + k * 6 + 2, none⟩ = some tv ∧ W.cell? ⟨ab, off + k * 6 + 3, none⟩ = some (.int .i64 ak.size) ∧ W.cell? ⟨ab, off + k * 6 + 4, none⟩ = some (.int .u8 ak.byte) ∧ W.cell? ⟨ab, off + k * 6 + 5, none⟩ = some (.int .i64 ak.fuse) := fun W q =>
        ⟨(q.cell (by exact hab) (by simp)).trans y.1, (q.cell (by exact hab) (by simp)).trans y.2.1, (q.cell (by exact hab) (by simp)).trans y.2.2.1, (q.cell (by exact hab) (by simp)).trans y.2.2.2.1, (q.cell (by exact hab) (by simp)).trans y.2.2.2.2.1, (q.cell (by exact hab) (by simp)).trans y.2.2.2.2.2⟩
      obtain ⟨pr, cr, rfl⟩ := hr.shape
      obtain ⟨pt, ct, rfl⟩ := ht.shape
      have him : ∀ W, Both w W b sb mb lo r r (nrm (bNext d ak)) (bNext d ak) → Calls Try.prog 21 #[.pointer (some ⟨b, 0, none⟩)] W fun e w' => e = .returned (.string (bs (bNext d ak).stand.flatten)) ∧ Both w w' b sb mb lo r r (nrm (bNext d ak)) (bNext d ak) ∧ Kept [] W w' := fun W hW => hW.dImage
      have hqi : ∀ W, Both w W b sb mb lo r r (nrm (bNext d ak)) (bNext d ak) → Calls Try.prog 26 #[.pointer (some ⟨r, 0, none⟩)] W fun e w' => e = .returned (.string (bs (bNext d ak).stand.flatten)) ∧ W = w' := fun W hW => hW.qImage
      have hdn : ∀ W, Both w W b sb mb lo r r (nrm (bNext d ak)) (bNext d ak) → Calls Try.prog 27 #[.pointer (some ⟨b, 0, none⟩)] W fun e w' => e = .returned (.bool (bNext d ak).down) ∧ W = w' := fun W hW => dDown b sb mb lo (nrm (bNext d ak)) W hW.alone.disk
      have hwts : ∀ W, Both w W b sb mb lo r r (nrm (bNext d ak)) (bNext d ak) → Calls Try.prog 28 #[.pointer (some ⟨b, 0, none⟩)] W fun e w' => e = .returned (.int .i64 (bNext d ak).waits.length) ∧ W = w' := fun W hW => dWaits b sb mb lo (nrm (bNext d ak)) W hW.alone.disk
      have hrc : ∀ W, Both w W b sb mb lo r r (nrm (bNext d ak)) (bNext d ak) → ∃ p c, W.cell? ⟨r, 1, none⟩ = some (.slice p (bNext d ak).waits.length c) ∧ W.cell? ⟨r, 4, none⟩ = some (.bool (bNext d ak).down) := fun W hW => by
        obtain ⟨p, c, p', c', u0, u1, u2, u3, u4, _⟩ := hW.ref.five
        exact ⟨p', c', u1, u4⟩
      have i2 : (k : Int) < l.length := by omega
      have i3 : (k : Int) < 16 := by omega
      have HDO := Lib.hid hdo
      have HCS := Lib.hid hcs
      have HIM := Lib.hid him
      have HQI := Lib.hid hqi
      have HDN := Lib.hid hdn
      have HWTS := Lib.hid hwts
      have HRC := Lib.hid hrc
      have HG : Hid (k < 16 ∧ k < l.length) := ⟨g2, g1⟩
      have hrw := hBo.lt.2.2.2
      unfold BSays at HDO
      clear hdo hcs him hqi hdn hwts hrc hbd y hr ht hfits g1 g2 hk1 hk2
      generalize bNext d ak = Y at *
      generalize ak.kind = a0 at *
      generalize ak.size = a3 at *
      generalize ak.byte = a4 at *
      generalize ak.fuse = a5 at *
      generalize ak.runs.length = n1 at *
      generalize ak.dst.length = n2 at *
      generalize Y.down = YD at *
      generalize Y.waits.length = YW at HWTS HRC
      generalize bs Y.stand.flatten = YI at *
      obtain ⟨y0, y1, y2, y3, y4, y5⟩ := HCS.out _ hBo.alone.kept.drew
      have hBd := hBo.drew
      clear hBo
      go_upto_region 9 with fail
      refine wp_region_held_drew (S := (fun W => W.cell? ⟨ab, off + k * 6, none⟩ = some (.int .u8 a0) ∧ W.cell? ⟨ab, off + k * 6 + 1, none⟩ = some (.slice pr n1 cr) ∧ W.cell? ⟨ab, off + k * 6 + 2, none⟩ = some (.slice pt n2 ct) ∧ W.cell? ⟨ab, off + k * 6 + 3, none⟩ = some (.int .i64 a3) ∧ W.cell? ⟨ab, off + k * 6 + 4, none⟩ = some (.int .u8 a4) ∧ W.cell? ⟨ab, off + k * 6 + 5, none⟩ = some (.int .i64 a5))) (by kernel_rfl) (by exact ⟨y0, y1, y2, y3, y4, y5⟩) (fun hHeld => ?_)
      refine take_at (i := 0) (d := some 37) (v := ?_) rfl rfl (by kernel_rfl) (by kernel_rfl) (by kernel_rfl) (fun _ _ _ h => h) (Or.inl ⟨by rfl, ?_⟩) (by assumption) ?_
      rotate_left
      · (intro w hSw; (try dsimp only at hSw); go_simp; try with_reducible rfl)
      try simp only [Act.put, List.setIfInBounds_toArray, List.set_cons_zero, List.set_cons_succ]
      refine take_at (i := 1) (d := some 38) (v := ?_) rfl rfl (by kernel_rfl) (by kernel_rfl) (by kernel_rfl) (fun _ _ _ h => h) (Or.inl ⟨by rfl, ?_⟩) (by assumption) ?_
      rotate_left
      · (intro w hSw; (try dsimp only at hSw); go_simp; try with_reducible rfl)
      try simp only [Act.put, List.setIfInBounds_toArray, List.set_cons_zero, List.set_cons_succ]
      refine take_at (i := 2) (d := some 39) (v := ?_) rfl rfl (by kernel_rfl) (by kernel_rfl) (by kernel_rfl) (fun _ _ _ h => h) (Or.inl ⟨by rfl, ?_⟩) (by assumption) ?_
      rotate_left
      · (intro w hSw; (try dsimp only at hSw); go_simp; try with_reducible rfl)
      try simp only [Act.put, List.setIfInBounds_toArray, List.set_cons_zero, List.set_cons_succ]
      refine take_at (i := 3) (d := some 40) (v := ?_) rfl rfl (by kernel_rfl) (by kernel_rfl) (by kernel_rfl) (fun _ _ _ h => h) (Or.inl ⟨by rfl, ?_⟩) (by assumption) ?_
      rotate_left
      · (intro w hSw; (try dsimp only at hSw); go_simp; try with_reducible rfl)
      try simp only [Act.put, List.setIfInBounds_toArray, List.set_cons_zero, List.set_cons_succ]
      refine take_at (i := 4) (d := some 41) (v := ?_) rfl rfl (by kernel_rfl) (by kernel_rfl) (by kernel_rfl) (fun _ _ _ h => h) (Or.inl ⟨by rfl, ?_⟩) (by assumption) ?_
      rotate_left
      · (intro w hSw; (try dsimp only at hSw); go_simp; try with_reducible rfl)
      try simp only [Act.put, List.setIfInBounds_toArray, List.set_cons_zero, List.set_cons_succ]
      refine take_at (i := 5) (d := some 42) (v := ?_) rfl rfl (by kernel_rfl) (by kernel_rfl) (by kernel_rfl) (fun _ _ _ h => h) (Or.inl ⟨by rfl, ?_⟩) (by assumption) ?_
      rotate_left
      · (intro w hSw; (try dsimp only at hSw); go_simp; try with_reducible rfl)
      try simp only [Act.put, List.setIfInBounds_toArray, List.set_cons_zero, List.set_cons_succ]
      refine wpAnyH_ready (rs := [6]) (by kernel_rfl) (by simp) ?_
      refine (AllReadyH.cons rfl (fun K hK => ?_) AllReadyH.nil)
      go_simp
      ((with_reducible refine (HDO.out _ hBd).mono ?_)); rintro e w3 ⟨rfl, hB3⟩
      obtain ⟨z0, z1, z2, z3, z4, z5⟩ := HCS.out _ hB3.alone.kept
      obtain ⟨px, cx, z6, z7⟩ := HRC.out _ hB3
      go_wp2_with fail
      refine hK.out _ _ ?_ (fun hHeld => ?_)
      · exact ⟨z0, z1, z2, z3, z4, z5⟩
      clear hK K
      try simp only [Act.put, List.setIfInBounds_toArray, List.set_cons_zero, List.set_cons_succ]
      refine wpAnyH_mono (S2 := (fun W => (W.cell? ⟨ab, off + k * 6, none⟩ = some (.int .u8 a0) ∧ W.cell? ⟨ab, off + k * 6 + 1, none⟩ = some (.slice pr n1 cr) ∧ W.cell? ⟨ab, off + k * 6 + 2, none⟩ = some (.slice pt n2 ct) ∧ W.cell? ⟨ab, off + k * 6 + 3, none⟩ = some (.int .i64 a3) ∧ W.cell? ⟨ab, off + k * 6 + 4, none⟩ = some (.int .u8 a4) ∧ W.cell? ⟨ab, off + k * 6 + 5, none⟩ = some (.int .i64 a5)) ∧ W.cell? ⟨r, 1, none⟩ = some (.slice px YW cx) ∧ W.cell? ⟨r, 4, none⟩ = some (.bool YD))) (fun _ h => h.1) _ _ _ _ ?_
      have hS2 : (fun W => (W.cell? ⟨ab, off + k * 6, none⟩ = some (.int .u8 a0) ∧ W.cell? ⟨ab, off + k * 6 + 1, none⟩ = some (.slice pr n1 cr) ∧ W.cell? ⟨ab, off + k * 6 + 2, none⟩ = some (.slice pt n2 ct) ∧ W.cell? ⟨ab, off + k * 6 + 3, none⟩ = some (.int .i64 a3) ∧ W.cell? ⟨ab, off + k * 6 + 4, none⟩ = some (.int .u8 a4) ∧ W.cell? ⟨ab, off + k * 6 + 5, none⟩ = some (.int .i64 a5)) ∧ W.cell? ⟨r, 1, none⟩ = some (.slice px YW cx) ∧ W.cell? ⟨r, 4, none⟩ = some (.bool YD)) w3 := ⟨⟨z0, z1, z2, z3, z4, z5⟩, z6, z7⟩
      clear hHeld
      refine take_at (i := 7) (d := some 44) (v := ?_) rfl rfl (by kernel_rfl) (by kernel_rfl) (by kernel_rfl) (fun _ _ _ h => h) (Or.inl ⟨by rfl, ?_⟩) (by assumption) ?_
      rotate_left
      · (intro w hSw; (try dsimp only at hSw); go_simp; try with_reducible rfl)
      try simp only [Act.put, List.setIfInBounds_toArray, List.set_cons_zero, List.set_cons_succ]
      refine take_at (i := 8) (d := some 45) (v := ?_) rfl rfl (by kernel_rfl) (by kernel_rfl) (by kernel_rfl) (fun _ _ _ h => h) (Or.inl ⟨by rfl, ?_⟩) (by assumption) ?_
      rotate_left
      · (intro w hSw; (try dsimp only at hSw); go_simp; try with_reducible rfl)
      try simp only [Act.put, List.setIfInBounds_toArray, List.set_cons_zero, List.set_cons_succ]
      refine take_at (i := 9) (d := some 46) (v := ?_) rfl rfl (by kernel_rfl) (by kernel_rfl) (by kernel_rfl) (fun _ _ _ h => h) (Or.inl ⟨by rfl, ?_⟩) (by assumption) ?_
      rotate_left
      · (intro w hSw; (try dsimp only at hSw); go_simp; try with_reducible rfl)
      try simp only [Act.put, List.setIfInBounds_toArray, List.set_cons_zero, List.set_cons_succ]
      refine take_at (i := 11) (d := some 48) (v := ?_) rfl rfl (by kernel_rfl) (by kernel_rfl) (by kernel_rfl) (fun _ _ _ h => h) (Or.inl ⟨by rfl, ?_⟩) (by assumption) ?_
      rotate_left
      · (intro w hSw; (try dsimp only at hSw); go_simp; try with_reducible rfl)
      try simp only [Act.put, List.setIfInBounds_toArray, List.set_cons_zero, List.set_cons_succ]
      refine wpAnyH_ready (rs := [10]) (by kernel_rfl) (by simp) ?_
      refine (AllReadyH.cons rfl (fun K hK => ?_) AllReadyH.nil)
      go_simp
      ((with_reducible refine (HIM.out _ hB3).mono ?_)); rintro e w4 ⟨rfl, hB4, k4⟩
      have hS4 : (fun W => (W.cell? ⟨ab, off + k * 6, none⟩ = some (.int .u8 a0) ∧ W.cell? ⟨ab, off + k * 6 + 1, none⟩ = some (.slice pr n1 cr) ∧ W.cell? ⟨ab, off + k * 6 + 2, none⟩ = some (.slice pt n2 ct) ∧ W.cell? ⟨ab, off + k * 6 + 3, none⟩ = some (.int .i64 a3) ∧ W.cell? ⟨ab, off + k * 6 + 4, none⟩ = some (.int .u8 a4) ∧ W.cell? ⟨ab, off + k * 6 + 5, none⟩ = some (.int .i64 a5)) ∧ W.cell? ⟨r, 1, none⟩ = some (.slice px YW cx) ∧ W.cell? ⟨r, 4, none⟩ = some (.bool YD)) w4 := by
        obtain ⟨⟨t0, t1, t2, t3, t4, t5⟩, t6, t7⟩ := hS2
        have hab4 := hB3.alone.kept.size
        have hr4 := hB3.lt.2.2.2
        exact ⟨HCS.out _ hB4.alone.kept, (k4.cell (a := ⟨r, 1, none⟩) (by exact hr4) (by simp)).trans t6, (k4.cell (a := ⟨r, 4, none⟩) (by exact hr4) (by simp)).trans t7⟩
      go_wp2_with fail
      refine hK.out _ _ ?_ (fun hHeld => ?_)
      · exact hS4
      clear hK K
      try simp only [Act.put, List.setIfInBounds_toArray, List.set_cons_zero, List.set_cons_succ]
      refine wpAnyH_ready (rs := [12]) (by kernel_rfl) (by simp) ?_
      refine (AllReadyH.cons rfl (fun K hK => ?_) AllReadyH.nil)
      go_simp
      ((with_reducible refine (HQI.out _ hB4).mono ?_)); rintro e w' ⟨rfl, rfl⟩
      go_wp2_with fail
      refine hK.out _ _ ?_ (fun hHeld => ?_)
      · exact hS4
      clear hK K
      try simp only [Act.put, List.setIfInBounds_toArray, List.set_cons_zero, List.set_cons_succ]
      refine take_at (i := 13) (d := some 50) (v := ?_) rfl rfl (by kernel_rfl) (by kernel_rfl) (by kernel_rfl) (fun _ _ _ h => h) (Or.inl ⟨by rfl, ?_⟩) (by assumption) ?_
      rotate_left
      · (intro w hSw; (try dsimp only at hSw); go_simp; try with_reducible rfl)
      try simp only [Act.put, List.setIfInBounds_toArray, List.set_cons_zero, List.set_cons_succ]
      refine take_at (i := 14) (d := some 51) (v := ?_) rfl rfl (by kernel_rfl) (by kernel_rfl) (by kernel_rfl) (fun _ _ _ h => h) (Or.inl ⟨by rfl, ?_⟩) (by assumption) ?_
      rotate_left
      · (intro w hSw; (try dsimp only at hSw); go_simp; try with_reducible rfl)
      try simp only [Act.put, List.setIfInBounds_toArray, List.set_cons_zero, List.set_cons_succ]
      refine take_at (i := 15) (d := some 52) (v := ?_) rfl rfl (by kernel_rfl) (by kernel_rfl) (by kernel_rfl) (fun _ _ _ h => h) (Or.inl ⟨by rfl, ?_⟩) (by assumption) ?_
      rotate_left
      · (intro w hSw; (try dsimp only at hSw); go_simp; try with_reducible rfl)
      try simp only [Act.put, List.setIfInBounds_toArray, List.set_cons_zero, List.set_cons_succ]
      refine take_at (i := 16) (d := some 53) (v := ?_) rfl rfl (by kernel_rfl) (by kernel_rfl) (by kernel_rfl) (fun _ _ _ h => h) (Or.inl ⟨by rfl, ?_⟩) (by assumption) ?_
      rotate_left
      · (intro w hSw; (try dsimp only at hSw); go_simp; try with_reducible rfl)
      try simp only [Act.put, List.setIfInBounds_toArray, List.set_cons_zero, List.set_cons_succ]
      refine take_at (i := 18) (d := some 55) (v := ?_) rfl rfl (by kernel_rfl) (by kernel_rfl) (by kernel_rfl) (fun _ _ _ h => h) (Or.inl ⟨by rfl, ?_⟩) (by assumption) ?_
      rotate_left
      · (intro w hSw; (try dsimp only at hSw); go_simp; try with_reducible rfl)
      try simp only [Act.put, List.setIfInBounds_toArray, List.set_cons_zero, List.set_cons_succ]
      refine take_at (i := 19) (d := some 56) (v := ?_) rfl rfl (by kernel_rfl) (by kernel_rfl) (by kernel_rfl) (fun _ _ _ h => h) (Or.inl ⟨by rfl, ?_⟩) (by assumption) ?_
      rotate_left
      · (intro w hSw; (try dsimp only at hSw); go_simp; try with_reducible rfl)
      try simp only [Act.put, List.setIfInBounds_toArray, List.set_cons_zero, List.set_cons_succ]
      refine take_at (i := 20) (d := some 57) (v := ?_) rfl rfl (by kernel_rfl) (by kernel_rfl) (by kernel_rfl) (fun _ _ _ h => h) (Or.inl ⟨by rfl, ?_⟩) (by assumption) ?_
      rotate_left
      · (intro w hSw; (try dsimp only at hSw); go_simp; try with_reducible rfl)
      try simp only [Act.put, List.setIfInBounds_toArray, List.set_cons_zero, List.set_cons_succ]
      refine take_at (i := 21) (d := some 58) (v := ?_) rfl rfl (by kernel_rfl) (by kernel_rfl) (by kernel_rfl) (fun _ _ _ h => h) (Or.inl ⟨by rfl, ?_⟩) (by assumption) ?_
      rotate_left
      · (intro w hSw; (try dsimp only at hSw); go_simp; try with_reducible rfl)
      try simp only [Act.put, List.setIfInBounds_toArray, List.set_cons_zero, List.set_cons_succ]
      refine wpAnyH_ready (rs := [17]) (by kernel_rfl) (by simp) ?_
      refine (AllReadyH.cons rfl (fun K hK => ?_) AllReadyH.nil)
      go_simp
      ((with_reducible refine (HDN.out _ hB4).mono ?_)); rintro e w' ⟨rfl, rfl⟩
      go_wp2_with fail
      refine hK.out _ _ ?_ (fun hHeld => ?_)
      · exact hS4
      clear hK K
      try simp only [Act.put, List.setIfInBounds_toArray, List.set_cons_zero, List.set_cons_succ]
      refine take_at (i := 22) (d := some 59) (v := ?_) rfl rfl (by kernel_rfl) (by kernel_rfl) (by kernel_rfl) (fun _ _ _ h => h) (Or.inl ⟨by rfl, ?_⟩) (by assumption) ?_
      rotate_left
      · (intro w hSw; (try dsimp only at hSw); go_simp; try with_reducible rfl)
      try simp only [Act.put, List.setIfInBounds_toArray, List.set_cons_zero, List.set_cons_succ]
      refine take_at (i := 23) (d := some 60) (v := ?_) rfl rfl (by kernel_rfl) (by kernel_rfl) (by kernel_rfl) (fun _ _ _ h => h) (Or.inl ⟨by rfl, ?_⟩) (by assumption) ?_
      rotate_left
      · (intro w hSw; (try dsimp only at hSw); go_simp; try with_reducible rfl)
      try simp only [Act.put, List.setIfInBounds_toArray, List.set_cons_zero, List.set_cons_succ]
      refine take_at (i := 24) (d := some 61) (v := ?_) rfl rfl (by kernel_rfl) (by kernel_rfl) (by kernel_rfl) (fun _ _ _ h => h) (Or.inl ⟨by rfl, ?_⟩) (by assumption) ?_
      rotate_left
      · (intro w hSw; (try dsimp only at hSw); go_simp; try with_reducible rfl)
      try simp only [Act.put, List.setIfInBounds_toArray, List.set_cons_zero, List.set_cons_succ]
      refine take_at (i := 25) (d := some 62) (v := ?_) rfl rfl (by kernel_rfl) (by kernel_rfl) (by kernel_rfl) (fun _ _ _ h => h) (Or.inl ⟨by rfl, ?_⟩) (by assumption) ?_
      rotate_left
      · (intro w hSw; (try dsimp only at hSw); go_simp; try with_reducible rfl)
      try simp only [Act.put, List.setIfInBounds_toArray, List.set_cons_zero, List.set_cons_succ]
      refine take_at (i := 27) (d := some 64) (v := ?_) rfl rfl (by kernel_rfl) (by kernel_rfl) (by kernel_rfl) (fun _ _ _ h => h) (Or.inl ⟨by rfl, ?_⟩) (by assumption) ?_
      rotate_left
      · (intro w hSw; (try dsimp only at hSw); go_simp; try with_reducible rfl)
      try simp only [Act.put, List.setIfInBounds_toArray, List.set_cons_zero, List.set_cons_succ]
      refine take_at (i := 28) (d := some 65) (v := ?_) rfl rfl (by kernel_rfl) (by kernel_rfl) (by kernel_rfl) (fun _ _ _ h => h) (Or.inl ⟨by rfl, ?_⟩) (by assumption) ?_
      rotate_left
      · (intro w hSw; (try dsimp only at hSw); go_simp; try with_reducible rfl)
      try simp only [Act.put, List.setIfInBounds_toArray, List.set_cons_zero, List.set_cons_succ]
      refine take_at (i := 29) (d := some 66) (v := ?_) rfl rfl (by kernel_rfl) (by kernel_rfl) (by kernel_rfl) (fun _ _ _ h => h) (Or.inl ⟨by rfl, ?_⟩) (by assumption) ?_
      rotate_left
      · (intro w hSw; (try dsimp only at hSw); go_simp; try with_reducible rfl)
      try simp only [Act.put, List.setIfInBounds_toArray, List.set_cons_zero, List.set_cons_succ]
      refine take_at (i := 30) (d := some 67) (v := ?_) rfl rfl (by kernel_rfl) (by kernel_rfl) (by kernel_rfl) (fun _ _ _ h => h) (Or.inl ⟨by rfl, ?_⟩) (by assumption) ?_
      rotate_left
      · (intro w hSw; (try dsimp only at hSw); go_simp; try with_reducible rfl)
      try simp only [Act.put, List.setIfInBounds_toArray, List.set_cons_zero, List.set_cons_succ]
      refine take_at (i := 31) (d := some 68) (v := ?_) rfl rfl (by kernel_rfl) (by kernel_rfl) (by kernel_rfl) (fun _ _ _ h => h) (Or.inl ⟨by rfl, ?_⟩) (by assumption) ?_
      rotate_left
      · (intro w hSw; (try dsimp only at hSw); go_simp; try with_reducible rfl)
      try simp only [Act.put, List.setIfInBounds_toArray, List.set_cons_zero, List.set_cons_succ]
      refine wpAnyH_ready (rs := [26]) (by kernel_rfl) (by simp) ?_
      refine (AllReadyH.cons rfl (fun K hK => ?_) AllReadyH.nil)
      go_simp
      ((with_reducible refine (HWTS.out _ hB4).mono ?_)); rintro e w' ⟨rfl, rfl⟩
      go_wp2_with fail
      refine hK.out _ _ ?_ (fun hHeld => ?_)
      · exact hS4
      clear hK K
      try simp only [Act.put, List.setIfInBounds_toArray, List.set_cons_zero, List.set_cons_succ]
      refine take_at (i := 32) (d := some 69) (v := ?_) rfl rfl (by kernel_rfl) (by kernel_rfl) (by kernel_rfl) (fun _ _ _ h => h) (Or.inl ⟨by rfl, ?_⟩) (by assumption) ?_
      rotate_left
      · (intro w hSw; (try dsimp only at hSw); go_simp; try with_reducible rfl)
      try simp only [Act.put, List.setIfInBounds_toArray, List.set_cons_zero, List.set_cons_succ]
      refine take_at (i := 33) (d := some 70) (v := ?_) rfl rfl (by kernel_rfl) (by kernel_rfl) (by kernel_rfl) (fun _ _ _ h => h) (Or.inl ⟨by rfl, ?_⟩) (by assumption) ?_
      rotate_left
      · (intro w hSw; (try dsimp only at hSw); go_simp; try with_reducible rfl)
      try simp only [Act.put, List.setIfInBounds_toArray, List.set_cons_zero, List.set_cons_succ]
      refine wpAnyH_done (by kernel_rfl) ?_ _
      have HB4 := Lib.hid hB4
      clear hB3 hB4 k4 hS2 hS4 hBd
      go_wp2_with fail
      go_roundw
      case rel => exact ⟨k + 1, Y, by have := HG.out; omega, by have := HG.out; omega, by go_num, HB4.out, HBD.out.1, HBD.out.2.1, HBD.out.2.2⟩
      case measure => (have := HG.out; simp [intOf]; omega)
    · have i2 : ¬ ((k : Int) < l.length) := by omega
      clear hBo
      go_wp2_with fail
      refine (awakeV _).mono ?_; rintro e w9 ⟨rfl, kz⟩
      go_wp2_with fail
      go_ret
      exact ⟨rfl, (HBO.out.alone.kept.trans kz).below⟩
    · have i2 : (k : Int) < l.length := by omega
      have i3 : ¬ ((k : Int) < 16) := by omega
      clear hBo
      go_wp2_with fail
      refine (awakeV _).mono ?_; rintro e w9 ⟨rfl, kz⟩
      go_wp2_with fail
      go_ret
      exact ⟨rfl, (HBO.out.alone.kept.trans kz).below⟩
end Go.Proofs.Ytdnbddhjdokbfaa
