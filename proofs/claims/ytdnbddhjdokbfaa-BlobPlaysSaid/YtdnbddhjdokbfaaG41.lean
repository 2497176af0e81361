/- Layer 12 (blob): an act, done to both disks. -/
import Derived.Test.YtdnbddhjdokbfaaG35
import Derived.Test.YtdnbddhjdokbfaaG36
import Derived.Test.YtdnbddhjdokbfaaG40
import Derived.Deep.RegionHeld3
namespace Go.Proofs.Ytdnbddhjdokbfaa
open Go.RowKit Go.Shelf
set_option linter.unusedVariables false
set_option linter.unusedSimpArgs false

set_option maxRecDepth 100000 in
set_option maxHeartbeats 2000000 in
theorem bfew2 (v : Value) (l : List (Int × Int)) (lo hi : Nat) (w : World) (h : RunsIn w v l lo hi) :
    ∃ p c, (∀ W, RunsIn W v l lo hi → RunsIn W (.slice p (l.take 20).length c) (l.take 20) lo hi) ∧ ∀ W, RunsIn W v l lo hi → Calls Try.prog 7 #[v] W fun e w' => e = .returned (.slice p (l.take 20).length c) ∧ W = w' := by
  obtain ⟨p, c, rfl⟩ := h.shape
  by_cases hl : l.length ≤ 20
  · rw [List.take_of_length_le hl]
    refine ⟨p, c, fun W q => q, fun W q => ?_⟩
    have hl' : (l.length : Int) ≤ 20 := by omega
    clear h q
    generalize l.length = ll at *
    go_enter Try.func7, Try.ntmps7
    go_wp2_with fail
    go_ret
    exact ⟨rfl, rfl⟩
  · have ht : (l.take 20).length = 20 := by rw [List.length_take]; omega
    rw [ht]
    refine ⟨p, c, fun W q => q.take 20 (by omega) (by omega), fun W q => ?_⟩
    have hl' : 20 < (l.length : Int) := by omega
    have hc := q.lenle (fun e => by rw [e] at hl; simp at hl)
    have hcm : 20 ≤ c := by omega
    have hcm' : (20 : Int) ≤ (c : Int) := by omega
    clear h q ht
    generalize l.length = ll at *
    go_enter Try.func7, Try.ntmps7
    go_wp2_with fail
    go_ret
    exact ⟨rfl, rfl⟩
def BSays (W0 : World) (b sb mb lo r rlo : Nat) (N : DK) (e : Ending) (w' : World) : Prop := e = .returned (.bool true) ∧ Both W0 w' b sb mb lo r rlo (nrm N) N
theorem Own.b6 {w : World} {g : Nat} {x0 x1 x2 x3 x4 x5 : Value} {t : TypeId} (h : Own w g #[x0, x1, x2, x3, x4, x5] t) : w.cell? ⟨g, 0, none⟩ = some x0 ∧ w.cell? ⟨g, 1, none⟩ = some x1 ∧ w.cell? ⟨g, 2, none⟩ = some x2 ∧ w.cell? ⟨g, 3, none⟩ = some x3 ∧ w.cell? ⟨g, 4, none⟩ = some x4 ∧ w.cell? ⟨g, 5, none⟩ = some x5 :=
  ⟨h.cell 0 (by simp), h.cell 1 (by simp), h.cell 2 (by simp), h.cell 3 (by simp), h.cell 4 (by simp), h.cell 5 (by simp)⟩
set_option maxRecDepth 100000 in
set_option maxHeartbeats 4000000 in
theorem bdo_put0_n (W0 w : World) (b sb mb lo r rlo : Nat) (d : DK) (kn : Nat) (runs dst : List (Int × Int)) (rv tv : Value) (size fuse : Int) (c : UInt8) (h : Both W0 w b sb mb lo r rlo (nrm d) d)
    (hr : RunsIn W0 rv runs 0 W0.heap.size) (hrw : ∀ a ∈ runs, WfRun a) (ht : RunsIn W0 tv dst 0 W0.heap.size) (htw : ∀ a ∈ dst, WfRun a) (hsz : (Lit.int .i64 size).wf = true) (hfw : (Lit.int .i64 fuse).wf = true)
    (hf : fuse < 0) (hk : (kn : Int) % 6 = 0) (ho : d.ops ≤ 2000) (hw : d.waits.length ≤ 1700) :
    Calls Try.prog 25 #[.pointer (some ⟨b, 0, none⟩), .pointer (some ⟨r, 0, none⟩), .agg #[.int .u8 (kn : Int), rv, tv, .int .i64 size, .int .u8 (c.toNat : Int), .int .i64 fuse]] w (BSays W0 b sb mb lo r rlo (putX d (runs.take 20) (fillB (min (max size 0) 3000).toNat c)).1) := by
  obtain ⟨pr, cr, rfl⟩ := hr.shape
  obtain ⟨pt, ct, rfl⟩ := ht.shape
  obtain ⟨p1, c1, hr1, hc1⟩ := bfew2 _ runs _ _ _ hr
  obtain ⟨p2, c2, hr2, hc2⟩ := bfew2 _ dst _ _ _ ht
  have HF1 := Lib.hid (fun W (q : Kept [] W0 W) => hc1 W (hr.kept0 q))
  have HF2 := Lib.hid (fun W (q : Kept [] W0 W) => hc2 W (ht.kept0 q))
  have HR1 := Lib.hid (fun W (q : Kept [] W0 W) => hr1 W (hr.kept0 q))
  have HR2 := Lib.hid (fun W (q : Kept [] W0 W) => hr2 W (ht.kept0 q))
  have HW1 : Hid (∀ a ∈ runs.take 20, WfRun a) := Lib.hid (fun a ha => hrw a (List.mem_of_mem_take ha))
  have HW2 : Hid (∀ a ∈ dst.take 20, WfRun a) := Lib.hid (fun a ha => htw a (List.mem_of_mem_take ha))
  have HL1 : Hid ((runs.take 20).length ≤ 1000000) := Lib.hid (by have := List.length_take_le 20 runs; omega)
  have HL2 : Hid ((dst.take 20).length ≤ 1000000) := Lib.hid (by have := List.length_take_le 20 dst; omega)
  generalize runs.take 20 = L1 at *
  generalize dst.take 20 = L2 at *
  have HSZ := Lib.hid hsz
  have hA := h.alloc (.cells #[.int .u8 (kn : Int), .slice pr runs.length cr, .slice pt dst.length ct, .int .i64 size, .int .u8 (c.toNat : Int), .int .i64 fuse] 55)
  have ob := Own.new w #[.int .u8 (kn : Int), .slice pr runs.length cr, .slice pt dst.length ct, .int .i64 size, .int .u8 (c.toNat : Int), .int .i64 fuse] 55
  obtain ⟨l1, l2, l3, l4⟩ := h.lt
  have hw0 : w.heap.size ≤ (w.alloc (.cells #[.int .u8 (kn : Int), .slice pr runs.length cr, .slice pt dst.length ct, .int .i64 size, .int .u8 (c.toNat : Int), .int .i64 fuse] 55)).heap.size := by simp
  obtain ⟨q0, q1, q2, q3, q4, q5⟩ := ob.b6
  have HA := Lib.hid hA
  have OB := Lib.hid ob
  have HLIM : Hid (b < w.heap.size ∧ sb < w.heap.size ∧ mb < w.heap.size ∧ r < w.heap.size) := ⟨l1, l2, l3, l4⟩
  have HSB : Hid (W0.heap.size ≤ sb) := h.alone.hsb
  unfold BSays
  have BD : Hid (d.ops ≤ 2000 ∧ d.waits.length ≤ 1700) := ⟨ho, hw⟩
  have hfill := fun W => vfill size c W HSZ.out
  obtain ⟨T, hT⟩ : ∃ T, fillB (min (max size 0) 3000).toNat c = T := ⟨_, rfl⟩
  have hTl : T.length ≤ 3000 := by rw [← hT]; unfold fillB; rw [tabL_len]; omega
  rw [hT] at hfill ⊢
  obtain ⟨Y, C, hY⟩ : ∃ Y C, putX d L1 T = (Y, C) := ⟨_, _, rfl⟩
  have hput : ∀ W, Both W0 W b sb mb lo r rlo (nrm d) d → w.heap.size ≤ W.heap.size → Calls Try.prog 15 #[.pointer (some ⟨b, 0, none⟩), .slice p1 L1.length c1, .string (bs T)] W fun e w' => e = .returned (.int .i64 C) ∧ Both W0 w' b sb mb lo r rlo (nrm Y) d ∧ AsideW w.heap.size W w' := fun W hW hs => by
    have hh := bput (bothB W0 b sb mb lo r rlo w.heap.size d HLIM.out.1 HLIM.out.2.1 HLIM.out.2.2.1 HLIM.out.2.2.2) (nrm d) _ L1 T _ _ W hW hs (HR1.out W hW.alone.kept) HL1.out HW1.out (by omega) (by show d.ops ≤ 90000; have := BD.out.1; omega) (by show d.waits.length ≤ 1800; have := BD.out.2; omega)
    unfold PutSays at hh
    rw [putX_nrm, hY] at hh
    exact hh
  have hqut : ∀ W, Both W0 W b sb mb lo r rlo (nrm Y) d → w.heap.size ≤ W.heap.size → Calls Try.prog 52 #[.pointer (some ⟨r, 0, none⟩), .slice p1 L1.length c1, .string (bs T)] W fun e w' => e = .returned (.int .i64 C) ∧ Both W0 w' b sb mb lo r rlo (nrm Y) Y ∧ AsideW w.heap.size W w' := fun W hW hs => by
    have hh := qput (bothQB W0 b sb mb lo r rlo w.heap.size (nrm Y) HLIM.out.1 HLIM.out.2.1 HLIM.out.2.2.1 HLIM.out.2.2.2) d _ L1 T _ _ W hW hs (HR1.out W hW.alone.kept) HL1.out HW1.out (by omega) (by have := BD.out.1; omega) (by have := BD.out.2; omega)
    unfold PutSays at hh
    rw [hY] at hh
    exact hh
  have HP := Lib.hid hput
  have HQ := Lib.hid hqut
  have HFI := Lib.hid hfill
  rw [hY]
  clear hput hqut hfill hY hT hTl
  clear hr ht hr1 hc1 hr2 hc2 hrw htw hsz hfw hA ob ho hw h
  go_enter Try.func25, Try.ntmps25
  have HX := Lib.hid HA.out
  have OX := Lib.hid OB.out
  have hsx := hw0
  obtain ⟨x0, x1, x2, x3, x4, x5⟩ := OB.out.b6
  clear HA OB
  go_upto_region 4 with fail
  clear q0 q1 q2 q3 q4 q5
  generalize w.alloc (.cells #[.int .u8 (kn : Int), .slice pr runs.length cr, .slice pt dst.length ct, .int .i64 size, .int .u8 (c.toNat : Int), .int .i64 fuse] 55) = X at *
  go_wp2_with fail
  refine (HFI.out _).mono ?_; rintro e w3 ⟨rfl, k3⟩
  have hB3 := HX.out.keep0 k3
  have o3 := k3.own OX.out (by simp)
  have hs3 : w.heap.size ≤ w3.heap.size := Nat.le_trans hsx k3.size
  obtain ⟨y0, y1, y2, y3, y4, y5⟩ := o3.b6
  have HB3 := Lib.hid hB3
  have O3 := Lib.hid o3
  clear hB3 o3 HFI
  generalize bs T = TB at *
  go_wp2_with fail
  go_region_held3 (fun w' => w'.cell? ⟨w.heap.size, 0, none⟩ = some (.int .u8 (kn : Int)) ∧ w'.cell? ⟨w.heap.size, 1, none⟩ = some (.slice pr runs.length cr) ∧ w'.cell? ⟨w.heap.size, 2, none⟩ = some (.slice pt dst.length ct) ∧ w'.cell? ⟨w.heap.size, 3, none⟩ = some (.int .i64 size) ∧ w'.cell? ⟨w.heap.size, 4, none⟩ = some (.int .u8 (c.toNat : Int)) ∧ w'.cell? ⟨w.heap.size, 5, none⟩ = some (.int .i64 fuse)) (go_keep)
    (first
      | (go_at_call 7; ((with_reducible refine (HF1.out _ ?_).mono ?_)); (first | exact HB3.out.alone.kept.drew | exact hB4.alone.kept | exact hB4.alone.kept.drew); rintro e w' ⟨rfl, rfl⟩)
      | (go_at_call 15; ((with_reducible refine (HP.out _ ?_ ?_).mono ?_)); (exact HB3.out.drew); (exact hs3); rintro e w4 ⟨rfl, hB4, a4⟩; have o4 := a4.own (Own.drew O3.out) (Nat.le_refl _) (by decide); have hs4 : w.heap.size ≤ w4.heap.size := Nat.le_trans hs3 a4.1; obtain ⟨u0, u1, u2, u3, u4, u5⟩ := o4.b6)
      | (go_at_call 52; ((with_reducible refine (HQ.out _ ?_ ?_).mono ?_)); (exact hB4); (exact hs4); rintro e w5 ⟨rfl, hB5, a5⟩; have o5 := a5.own o4 (Nat.le_refl _) (by decide); obtain ⟨s0, s1, s2, s3, s4, s5⟩ := o5.b6))
  all_goals go_wp2_with fail
  all_goals go_ret
  all_goals exact ⟨rfl, hB5⟩
set_option maxRecDepth 100000 in
set_option maxHeartbeats 4000000 in
theorem bdo_put0_y (W0 w : World) (b sb mb lo r rlo : Nat) (d : DK) (kn : Nat) (runs dst : List (Int × Int)) (rv tv : Value) (size fuse : Int) (c : UInt8) (h : Both W0 w b sb mb lo r rlo (nrm d) d)
    (hr : RunsIn W0 rv runs 0 W0.heap.size) (hrw : ∀ a ∈ runs, WfRun a) (ht : RunsIn W0 tv dst 0 W0.heap.size) (htw : ∀ a ∈ dst, WfRun a) (hsz : (Lit.int .i64 size).wf = true) (hfw : (Lit.int .i64 fuse).wf = true)
    (hf : 0 ≤ fuse) (hk : (kn : Int) % 6 = 0) (ho : d.ops ≤ 2000) (hw : d.waits.length ≤ 1700) :
    Calls Try.prog 25 #[.pointer (some ⟨b, 0, none⟩), .pointer (some ⟨r, 0, none⟩), .agg #[.int .u8 (kn : Int), rv, tv, .int .i64 size, .int .u8 (c.toNat : Int), .int .i64 fuse]] w (BSays W0 b sb mb lo r rlo (putX (fuseR d fuse) (runs.take 20) (fillB (min (max size 0) 3000).toNat c)).1) := by
  obtain ⟨pr, cr, rfl⟩ := hr.shape
  obtain ⟨pt, ct, rfl⟩ := ht.shape
  obtain ⟨p1, c1, hr1, hc1⟩ := bfew2 _ runs _ _ _ hr
  obtain ⟨p2, c2, hr2, hc2⟩ := bfew2 _ dst _ _ _ ht
  have HF1 := Lib.hid (fun W (q : Kept [] W0 W) => hc1 W (hr.kept0 q))
  have HF2 := Lib.hid (fun W (q : Kept [] W0 W) => hc2 W (ht.kept0 q))
  have HR1 := Lib.hid (fun W (q : Kept [] W0 W) => hr1 W (hr.kept0 q))
  have HR2 := Lib.hid (fun W (q : Kept [] W0 W) => hr2 W (ht.kept0 q))
  have HW1 : Hid (∀ a ∈ runs.take 20, WfRun a) := Lib.hid (fun a ha => hrw a (List.mem_of_mem_take ha))
  have HW2 : Hid (∀ a ∈ dst.take 20, WfRun a) := Lib.hid (fun a ha => htw a (List.mem_of_mem_take ha))
  have HL1 : Hid ((runs.take 20).length ≤ 1000000) := Lib.hid (by have := List.length_take_le 20 runs; omega)
  have HL2 : Hid ((dst.take 20).length ≤ 1000000) := Lib.hid (by have := List.length_take_le 20 dst; omega)
  generalize runs.take 20 = L1 at *
  generalize dst.take 20 = L2 at *
  have HSZ := Lib.hid hsz
  have hA := h.alloc (.cells #[.int .u8 (kn : Int), .slice pr runs.length cr, .slice pt dst.length ct, .int .i64 size, .int .u8 (c.toNat : Int), .int .i64 fuse] 55)
  have ob := Own.new w #[.int .u8 (kn : Int), .slice pr runs.length cr, .slice pt dst.length ct, .int .i64 size, .int .u8 (c.toNat : Int), .int .i64 fuse] 55
  obtain ⟨l1, l2, l3, l4⟩ := h.lt
  have hw0 : w.heap.size ≤ (w.alloc (.cells #[.int .u8 (kn : Int), .slice pr runs.length cr, .slice pt dst.length ct, .int .i64 size, .int .u8 (c.toNat : Int), .int .i64 fuse] 55)).heap.size := by simp
  obtain ⟨q0, q1, q2, q3, q4, q5⟩ := ob.b6
  have HA := Lib.hid hA
  have OB := Lib.hid ob
  have HLIM : Hid (b < w.heap.size ∧ sb < w.heap.size ∧ mb < w.heap.size ∧ r < w.heap.size) := ⟨l1, l2, l3, l4⟩
  have HSB : Hid (W0.heap.size ≤ sb) := h.alone.hsb
  unfold BSays
  obtain ⟨D, hD⟩ : ∃ D, fuseR d fuse = D := ⟨_, rfl⟩
  have BD : Hid (D.ops ≤ 2000 ∧ D.waits.length ≤ 1700) := Lib.hid (by rw [← hD]; exact ⟨ho, hw⟩)
  have HFW := Lib.hid hfw
  have hfu := hA.dFuse fuse hfw
  have efu : fuseD (nrm d) fuse = nrm (fuseR d fuse) := fuse_nrm d fuse
  rw [efu, hD] at hfu
  rw [hD]
  have HFU := Lib.hid hfu
  have HDQ := Lib.hid hD
  clear hfu efu hD
  have hfill := fun W => vfill size c W HSZ.out
  obtain ⟨T, hT⟩ : ∃ T, fillB (min (max size 0) 3000).toNat c = T := ⟨_, rfl⟩
  have hTl : T.length ≤ 3000 := by rw [← hT]; unfold fillB; rw [tabL_len]; omega
  rw [hT] at hfill ⊢
  obtain ⟨Y, C, hY⟩ : ∃ Y C, putX D L1 T = (Y, C) := ⟨_, _, rfl⟩
  have hput : ∀ W, Both W0 W b sb mb lo r rlo (nrm D) D → w.heap.size ≤ W.heap.size → Calls Try.prog 15 #[.pointer (some ⟨b, 0, none⟩), .slice p1 L1.length c1, .string (bs T)] W fun e w' => e = .returned (.int .i64 C) ∧ Both W0 w' b sb mb lo r rlo (nrm Y) D ∧ AsideW w.heap.size W w' := fun W hW hs => by
    have hh := bput (bothB W0 b sb mb lo r rlo w.heap.size D HLIM.out.1 HLIM.out.2.1 HLIM.out.2.2.1 HLIM.out.2.2.2) (nrm D) _ L1 T _ _ W hW hs (HR1.out W hW.alone.kept) HL1.out HW1.out (by omega) (by show D.ops ≤ 90000; have := BD.out.1; omega) (by show D.waits.length ≤ 1800; have := BD.out.2; omega)
    unfold PutSays at hh
    rw [putX_nrm, hY] at hh
    exact hh
  have hqut : ∀ W, Both W0 W b sb mb lo r rlo (nrm Y) D → w.heap.size ≤ W.heap.size → Calls Try.prog 52 #[.pointer (some ⟨r, 0, none⟩), .slice p1 L1.length c1, .string (bs T)] W fun e w' => e = .returned (.int .i64 C) ∧ Both W0 w' b sb mb lo r rlo (nrm Y) Y ∧ AsideW w.heap.size W w' := fun W hW hs => by
    have hh := qput (bothQB W0 b sb mb lo r rlo w.heap.size (nrm Y) HLIM.out.1 HLIM.out.2.1 HLIM.out.2.2.1 HLIM.out.2.2.2) D _ L1 T _ _ W hW hs (HR1.out W hW.alone.kept) HL1.out HW1.out (by omega) (by have := BD.out.1; omega) (by have := BD.out.2; omega)
    unfold PutSays at hh
    rw [hY] at hh
    exact hh
  have HP := Lib.hid hput
  have HQ := Lib.hid hqut
  have HFI := Lib.hid hfill
  rw [hY]
  clear hput hqut hfill hY hT hTl
  clear hr ht hr1 hc1 hr2 hc2 hrw htw hsz hfw hA ob ho hw h
  go_enter Try.func25, Try.ntmps25
  go_wp2_with fail
  refine HFU.out.mono ?_; rintro e w2 ⟨rfl, hB2, k2⟩
  have ob2 := k2.own OB.out l1 l2 l3 l4 (by decide)
  have hw2 : w.heap.size ≤ w2.heap.size := by have := ob2.lt; omega
  obtain ⟨q0, q1, q2, q3, q4, q5⟩ := ob2.b6
  obtain ⟨v0, v1, orr⟩ := hB2.ref.own
  have z2 := orr.free 2
  have y2 := orr.cell 2 (by simp)
  have hB3 := hB2.fuseR fuse HFW.out
  rw [HDQ.out] at hB3
  have ob3 := ob2.other (p := ⟨r, 2, none⟩) (by show w.heap.size ≠ r; omega) (.int .i64 fuse)
  simp only [List.getElem_toArray, List.getElem_cons_succ, List.getElem_cons_zero] at y2
  have HX := Lib.hid hB3
  have OX := Lib.hid ob3
  have hsx : w.heap.size ≤ (w2.setCell ⟨r, 2, none⟩ (.int .i64 fuse)).heap.size := by rw [World.size_setCell]; exact hw2
  obtain ⟨x0, x1, x2, x3, x4, x5⟩ := ob3.b6
  clear hB2 k2 ob2 orr hB3 ob3 HFU HDQ
  go_upto_region 4 with fail
  clear q0 q1 q2 q3 q4 q5 y2 z2
  generalize w2.setCell ⟨r, 2, none⟩ (.int .i64 fuse) = X at *
  go_wp2_with fail
  refine (HFI.out _).mono ?_; rintro e w3 ⟨rfl, k3⟩
  have hB3 := HX.out.keep0 k3
  have o3 := k3.own OX.out (by simp)
  have hs3 : w.heap.size ≤ w3.heap.size := Nat.le_trans hsx k3.size
  obtain ⟨y0, y1, y2, y3, y4, y5⟩ := o3.b6
  have HB3 := Lib.hid hB3
  have O3 := Lib.hid o3
  clear hB3 o3 HFI
  generalize bs T = TB at *
  go_wp2_with fail
  go_region_held3 (fun w' => w'.cell? ⟨w.heap.size, 0, none⟩ = some (.int .u8 (kn : Int)) ∧ w'.cell? ⟨w.heap.size, 1, none⟩ = some (.slice pr runs.length cr) ∧ w'.cell? ⟨w.heap.size, 2, none⟩ = some (.slice pt dst.length ct) ∧ w'.cell? ⟨w.heap.size, 3, none⟩ = some (.int .i64 size) ∧ w'.cell? ⟨w.heap.size, 4, none⟩ = some (.int .u8 (c.toNat : Int)) ∧ w'.cell? ⟨w.heap.size, 5, none⟩ = some (.int .i64 fuse)) (go_keep)
    (first
      | (go_at_call 7; ((with_reducible refine (HF1.out _ ?_).mono ?_)); (first | exact HB3.out.alone.kept.drew | exact hB4.alone.kept | exact hB4.alone.kept.drew); rintro e w' ⟨rfl, rfl⟩)
      | (go_at_call 15; ((with_reducible refine (HP.out _ ?_ ?_).mono ?_)); (exact HB3.out.drew); (exact hs3); rintro e w4 ⟨rfl, hB4, a4⟩; have o4 := a4.own (Own.drew O3.out) (Nat.le_refl _) (by decide); have hs4 : w.heap.size ≤ w4.heap.size := Nat.le_trans hs3 a4.1; obtain ⟨u0, u1, u2, u3, u4, u5⟩ := o4.b6)
      | (go_at_call 52; ((with_reducible refine (HQ.out _ ?_ ?_).mono ?_)); (exact hB4); (exact hs4); rintro e w5 ⟨rfl, hB5, a5⟩; have o5 := a5.own o4 (Nat.le_refl _) (by decide); obtain ⟨s0, s1, s2, s3, s4, s5⟩ := o5.b6))
  all_goals go_wp2_with fail
  all_goals go_ret
  all_goals exact ⟨rfl, hB5⟩
set_option maxRecDepth 100000 in
set_option maxHeartbeats 4000000 in
theorem bdo_put1_n (W0 w : World) (b sb mb lo r rlo : Nat) (d : DK) (kn : Nat) (runs dst : List (Int × Int)) (rv tv : Value) (size fuse : Int) (c : UInt8) (h : Both W0 w b sb mb lo r rlo (nrm d) d)
    (hr : RunsIn W0 rv runs 0 W0.heap.size) (hrw : ∀ a ∈ runs, WfRun a) (ht : RunsIn W0 tv dst 0 W0.heap.size) (htw : ∀ a ∈ dst, WfRun a) (hsz : (Lit.int .i64 size).wf = true) (hfw : (Lit.int .i64 fuse).wf = true)
    (hf : fuse < 0) (hk : (kn : Int) % 6 = 1) (ho : d.ops ≤ 2000) (hw : d.waits.length ≤ 1700) :
    Calls Try.prog 25 #[.pointer (some ⟨b, 0, none⟩), .pointer (some ⟨r, 0, none⟩), .agg #[.int .u8 (kn : Int), rv, tv, .int .i64 size, .int .u8 (c.toNat : Int), .int .i64 fuse]] w (BSays W0 b sb mb lo r rlo (putX d (runs.take 20) (fillB (min (max size 0) 3000).toNat c)).1) := by
  obtain ⟨pr, cr, rfl⟩ := hr.shape
  obtain ⟨pt, ct, rfl⟩ := ht.shape
  obtain ⟨p1, c1, hr1, hc1⟩ := bfew2 _ runs _ _ _ hr
  obtain ⟨p2, c2, hr2, hc2⟩ := bfew2 _ dst _ _ _ ht
  have HF1 := Lib.hid (fun W (q : Kept [] W0 W) => hc1 W (hr.kept0 q))
  have HF2 := Lib.hid (fun W (q : Kept [] W0 W) => hc2 W (ht.kept0 q))
  have HR1 := Lib.hid (fun W (q : Kept [] W0 W) => hr1 W (hr.kept0 q))
  have HR2 := Lib.hid (fun W (q : Kept [] W0 W) => hr2 W (ht.kept0 q))
  have HW1 : Hid (∀ a ∈ runs.take 20, WfRun a) := Lib.hid (fun a ha => hrw a (List.mem_of_mem_take ha))
  have HW2 : Hid (∀ a ∈ dst.take 20, WfRun a) := Lib.hid (fun a ha => htw a (List.mem_of_mem_take ha))
  have HL1 : Hid ((runs.take 20).length ≤ 1000000) := Lib.hid (by have := List.length_take_le 20 runs; omega)
  have HL2 : Hid ((dst.take 20).length ≤ 1000000) := Lib.hid (by have := List.length_take_le 20 dst; omega)
  generalize runs.take 20 = L1 at *
  generalize dst.take 20 = L2 at *
  have HSZ := Lib.hid hsz
  have hA := h.alloc (.cells #[.int .u8 (kn : Int), .slice pr runs.length cr, .slice pt dst.length ct, .int .i64 size, .int .u8 (c.toNat : Int), .int .i64 fuse] 55)
  have ob := Own.new w #[.int .u8 (kn : Int), .slice pr runs.length cr, .slice pt dst.length ct, .int .i64 size, .int .u8 (c.toNat : Int), .int .i64 fuse] 55
  obtain ⟨l1, l2, l3, l4⟩ := h.lt
  have hw0 : w.heap.size ≤ (w.alloc (.cells #[.int .u8 (kn : Int), .slice pr runs.length cr, .slice pt dst.length ct, .int .i64 size, .int .u8 (c.toNat : Int), .int .i64 fuse] 55)).heap.size := by simp
  obtain ⟨q0, q1, q2, q3, q4, q5⟩ := ob.b6
  have HA := Lib.hid hA
  have OB := Lib.hid ob
  have HLIM : Hid (b < w.heap.size ∧ sb < w.heap.size ∧ mb < w.heap.size ∧ r < w.heap.size) := ⟨l1, l2, l3, l4⟩
  have HSB : Hid (W0.heap.size ≤ sb) := h.alone.hsb
  unfold BSays
  have BD : Hid (d.ops ≤ 2000 ∧ d.waits.length ≤ 1700) := ⟨ho, hw⟩
  have hfill := fun W => vfill size c W HSZ.out
  obtain ⟨T, hT⟩ : ∃ T, fillB (min (max size 0) 3000).toNat c = T := ⟨_, rfl⟩
  have hTl : T.length ≤ 3000 := by rw [← hT]; unfold fillB; rw [tabL_len]; omega
  rw [hT] at hfill ⊢
  obtain ⟨Y, C, hY⟩ : ∃ Y C, putX d L1 T = (Y, C) := ⟨_, _, rfl⟩
  have hput : ∀ W, Both W0 W b sb mb lo r rlo (nrm d) d → w.heap.size ≤ W.heap.size → Calls Try.prog 15 #[.pointer (some ⟨b, 0, none⟩), .slice p1 L1.length c1, .string (bs T)] W fun e w' => e = .returned (.int .i64 C) ∧ Both W0 w' b sb mb lo r rlo (nrm Y) d ∧ AsideW w.heap.size W w' := fun W hW hs => by
    have hh := bput (bothB W0 b sb mb lo r rlo w.heap.size d HLIM.out.1 HLIM.out.2.1 HLIM.out.2.2.1 HLIM.out.2.2.2) (nrm d) _ L1 T _ _ W hW hs (HR1.out W hW.alone.kept) HL1.out HW1.out (by omega) (by show d.ops ≤ 90000; have := BD.out.1; omega) (by show d.waits.length ≤ 1800; have := BD.out.2; omega)
    unfold PutSays at hh
    rw [putX_nrm, hY] at hh
    exact hh
  have hqut : ∀ W, Both W0 W b sb mb lo r rlo (nrm Y) d → w.heap.size ≤ W.heap.size → Calls Try.prog 52 #[.pointer (some ⟨r, 0, none⟩), .slice p1 L1.length c1, .string (bs T)] W fun e w' => e = .returned (.int .i64 C) ∧ Both W0 w' b sb mb lo r rlo (nrm Y) Y ∧ AsideW w.heap.size W w' := fun W hW hs => by
    have hh := qput (bothQB W0 b sb mb lo r rlo w.heap.size (nrm Y) HLIM.out.1 HLIM.out.2.1 HLIM.out.2.2.1 HLIM.out.2.2.2) d _ L1 T _ _ W hW hs (HR1.out W hW.alone.kept) HL1.out HW1.out (by omega) (by have := BD.out.1; omega) (by have := BD.out.2; omega)
    unfold PutSays at hh
    rw [hY] at hh
    exact hh
  have HP := Lib.hid hput
  have HQ := Lib.hid hqut
  have HFI := Lib.hid hfill
  rw [hY]
  clear hput hqut hfill hY hT hTl
  clear hr ht hr1 hc1 hr2 hc2 hrw htw hsz hfw hA ob ho hw h
  go_enter Try.func25, Try.ntmps25
  have HX := Lib.hid HA.out
  have OX := Lib.hid OB.out
  have hsx := hw0
  obtain ⟨x0, x1, x2, x3, x4, x5⟩ := OB.out.b6
  clear HA OB
  go_upto_region 4 with fail
  clear q0 q1 q2 q3 q4 q5
  generalize w.alloc (.cells #[.int .u8 (kn : Int), .slice pr runs.length cr, .slice pt dst.length ct, .int .i64 size, .int .u8 (c.toNat : Int), .int .i64 fuse] 55) = X at *
  go_wp2_with fail
  refine (HFI.out _).mono ?_; rintro e w3 ⟨rfl, k3⟩
  have hB3 := HX.out.keep0 k3
  have o3 := k3.own OX.out (by simp)
  have hs3 : w.heap.size ≤ w3.heap.size := Nat.le_trans hsx k3.size
  obtain ⟨y0, y1, y2, y3, y4, y5⟩ := o3.b6
  have HB3 := Lib.hid hB3
  have O3 := Lib.hid o3
  clear hB3 o3 HFI
  generalize bs T = TB at *
  go_wp2_with fail
  go_region_held3 (fun w' => w'.cell? ⟨w.heap.size, 0, none⟩ = some (.int .u8 (kn : Int)) ∧ w'.cell? ⟨w.heap.size, 1, none⟩ = some (.slice pr runs.length cr) ∧ w'.cell? ⟨w.heap.size, 2, none⟩ = some (.slice pt dst.length ct) ∧ w'.cell? ⟨w.heap.size, 3, none⟩ = some (.int .i64 size) ∧ w'.cell? ⟨w.heap.size, 4, none⟩ = some (.int .u8 (c.toNat : Int)) ∧ w'.cell? ⟨w.heap.size, 5, none⟩ = some (.int .i64 fuse)) (go_keep)
    (first
      | (go_at_call 7; ((with_reducible refine (HF1.out _ ?_).mono ?_)); (first | exact HB3.out.alone.kept.drew | exact hB4.alone.kept | exact hB4.alone.kept.drew); rintro e w' ⟨rfl, rfl⟩)
      | (go_at_call 15; ((with_reducible refine (HP.out _ ?_ ?_).mono ?_)); (exact HB3.out.drew); (exact hs3); rintro e w4 ⟨rfl, hB4, a4⟩; have o4 := a4.own (Own.drew O3.out) (Nat.le_refl _) (by decide); have hs4 : w.heap.size ≤ w4.heap.size := Nat.le_trans hs3 a4.1; obtain ⟨u0, u1, u2, u3, u4, u5⟩ := o4.b6)
      | (go_at_call 52; ((with_reducible refine (HQ.out _ ?_ ?_).mono ?_)); (exact hB4); (exact hs4); rintro e w5 ⟨rfl, hB5, a5⟩; have o5 := a5.own o4 (Nat.le_refl _) (by decide); obtain ⟨s0, s1, s2, s3, s4, s5⟩ := o5.b6))
  all_goals go_wp2_with fail
  all_goals go_ret
  all_goals exact ⟨rfl, hB5⟩
set_option maxRecDepth 100000 in
set_option maxHeartbeats 4000000 in
theorem bdo_put1_y (W0 w : World) (b sb mb lo r rlo : Nat) (d : DK) (kn : Nat) (runs dst : List (Int × Int)) (rv tv : Value) (size fuse : Int) (c : UInt8) (h : Both W0 w b sb mb lo r rlo (nrm d) d)
    (hr : RunsIn W0 rv runs 0 W0.heap.size) (hrw : ∀ a ∈ runs, WfRun a) (ht : RunsIn W0 tv dst 0 W0.heap.size) (htw : ∀ a ∈ dst, WfRun a) (hsz : (Lit.int .i64 size).wf = true) (hfw : (Lit.int .i64 fuse).wf = true)
    (hf : 0 ≤ fuse) (hk : (kn : Int) % 6 = 1) (ho : d.ops ≤ 2000) (hw : d.waits.length ≤ 1700) :
    Calls Try.prog 25 #[.pointer (some ⟨b, 0, none⟩), .pointer (some ⟨r, 0, none⟩), .agg #[.int .u8 (kn : Int), rv, tv, .int .i64 size, .int .u8 (c.toNat : Int), .int .i64 fuse]] w (BSays W0 b sb mb lo r rlo (putX (fuseR d fuse) (runs.take 20) (fillB (min (max size 0) 3000).toNat c)).1) := by
  obtain ⟨pr, cr, rfl⟩ := hr.shape
  obtain ⟨pt, ct, rfl⟩ := ht.shape
  obtain ⟨p1, c1, hr1, hc1⟩ := bfew2 _ runs _ _ _ hr
  obtain ⟨p2, c2, hr2, hc2⟩ := bfew2 _ dst _ _ _ ht
  have HF1 := Lib.hid (fun W (q : Kept [] W0 W) => hc1 W (hr.kept0 q))
  have HF2 := Lib.hid (fun W (q : Kept [] W0 W) => hc2 W (ht.kept0 q))
  have HR1 := Lib.hid (fun W (q : Kept [] W0 W) => hr1 W (hr.kept0 q))
  have HR2 := Lib.hid (fun W (q : Kept [] W0 W) => hr2 W (ht.kept0 q))
  have HW1 : Hid (∀ a ∈ runs.take 20, WfRun a) := Lib.hid (fun a ha => hrw a (List.mem_of_mem_take ha))
  have HW2 : Hid (∀ a ∈ dst.take 20, WfRun a) := Lib.hid (fun a ha => htw a (List.mem_of_mem_take ha))
  have HL1 : Hid ((runs.take 20).length ≤ 1000000) := Lib.hid (by have := List.length_take_le 20 runs; omega)
  have HL2 : Hid ((dst.take 20).length ≤ 1000000) := Lib.hid (by have := List.length_take_le 20 dst; omega)
  generalize runs.take 20 = L1 at *
  generalize dst.take 20 = L2 at *
  have HSZ := Lib.hid hsz
  have hA := h.alloc (.cells #[.int .u8 (kn : Int), .slice pr runs.length cr, .slice pt dst.length ct, .int .i64 size, .int .u8 (c.toNat : Int), .int .i64 fuse] 55)
  have ob := Own.new w #[.int .u8 (kn : Int), .slice pr runs.length cr, .slice pt dst.length ct, .int .i64 size, .int .u8 (c.toNat : Int), .int .i64 fuse] 55
  obtain ⟨l1, l2, l3, l4⟩ := h.lt
  have hw0 : w.heap.size ≤ (w.alloc (.cells #[.int .u8 (kn : Int), .slice pr runs.length cr, .slice pt dst.length ct, .int .i64 size, .int .u8 (c.toNat : Int), .int .i64 fuse] 55)).heap.size := by simp
  obtain ⟨q0, q1, q2, q3, q4, q5⟩ := ob.b6
  have HA := Lib.hid hA
  have OB := Lib.hid ob
  have HLIM : Hid (b < w.heap.size ∧ sb < w.heap.size ∧ mb < w.heap.size ∧ r < w.heap.size) := ⟨l1, l2, l3, l4⟩
  have HSB : Hid (W0.heap.size ≤ sb) := h.alone.hsb
  unfold BSays
  obtain ⟨D, hD⟩ : ∃ D, fuseR d fuse = D := ⟨_, rfl⟩
  have BD : Hid (D.ops ≤ 2000 ∧ D.waits.length ≤ 1700) := Lib.hid (by rw [← hD]; exact ⟨ho, hw⟩)
  have HFW := Lib.hid hfw
  have hfu := hA.dFuse fuse hfw
  have efu : fuseD (nrm d) fuse = nrm (fuseR d fuse) := fuse_nrm d fuse
  rw [efu, hD] at hfu
  rw [hD]
  have HFU := Lib.hid hfu
  have HDQ := Lib.hid hD
  clear hfu efu hD
  have hfill := fun W => vfill size c W HSZ.out
  obtain ⟨T, hT⟩ : ∃ T, fillB (min (max size 0) 3000).toNat c = T := ⟨_, rfl⟩
  have hTl : T.length ≤ 3000 := by rw [← hT]; unfold fillB; rw [tabL_len]; omega
  rw [hT] at hfill ⊢
  obtain ⟨Y, C, hY⟩ : ∃ Y C, putX D L1 T = (Y, C) := ⟨_, _, rfl⟩
  have hput : ∀ W, Both W0 W b sb mb lo r rlo (nrm D) D → w.heap.size ≤ W.heap.size → Calls Try.prog 15 #[.pointer (some ⟨b, 0, none⟩), .slice p1 L1.length c1, .string (bs T)] W fun e w' => e = .returned (.int .i64 C) ∧ Both W0 w' b sb mb lo r rlo (nrm Y) D ∧ AsideW w.heap.size W w' := fun W hW hs => by
    have hh := bput (bothB W0 b sb mb lo r rlo w.heap.size D HLIM.out.1 HLIM.out.2.1 HLIM.out.2.2.1 HLIM.out.2.2.2) (nrm D) _ L1 T _ _ W hW hs (HR1.out W hW.alone.kept) HL1.out HW1.out (by omega) (by show D.ops ≤ 90000; have := BD.out.1; omega) (by show D.waits.length ≤ 1800; have := BD.out.2; omega)
    unfold PutSays at hh
    rw [putX_nrm, hY] at hh
    exact hh
  have hqut : ∀ W, Both W0 W b sb mb lo r rlo (nrm Y) D → w.heap.size ≤ W.heap.size → Calls Try.prog 52 #[.pointer (some ⟨r, 0, none⟩), .slice p1 L1.length c1, .string (bs T)] W fun e w' => e = .returned (.int .i64 C) ∧ Both W0 w' b sb mb lo r rlo (nrm Y) Y ∧ AsideW w.heap.size W w' := fun W hW hs => by
    have hh := qput (bothQB W0 b sb mb lo r rlo w.heap.size (nrm Y) HLIM.out.1 HLIM.out.2.1 HLIM.out.2.2.1 HLIM.out.2.2.2) D _ L1 T _ _ W hW hs (HR1.out W hW.alone.kept) HL1.out HW1.out (by omega) (by have := BD.out.1; omega) (by have := BD.out.2; omega)
    unfold PutSays at hh
    rw [hY] at hh
    exact hh
  have HP := Lib.hid hput
  have HQ := Lib.hid hqut
  have HFI := Lib.hid hfill
  rw [hY]
  clear hput hqut hfill hY hT hTl
  clear hr ht hr1 hc1 hr2 hc2 hrw htw hsz hfw hA ob ho hw h
  go_enter Try.func25, Try.ntmps25
  go_wp2_with fail
  refine HFU.out.mono ?_; rintro e w2 ⟨rfl, hB2, k2⟩
  have ob2 := k2.own OB.out l1 l2 l3 l4 (by decide)
  have hw2 : w.heap.size ≤ w2.heap.size := by have := ob2.lt; omega
  obtain ⟨q0, q1, q2, q3, q4, q5⟩ := ob2.b6
  obtain ⟨v0, v1, orr⟩ := hB2.ref.own
  have z2 := orr.free 2
  have y2 := orr.cell 2 (by simp)
  have hB3 := hB2.fuseR fuse HFW.out
  rw [HDQ.out] at hB3
  have ob3 := ob2.other (p := ⟨r, 2, none⟩) (by show w.heap.size ≠ r; omega) (.int .i64 fuse)
  simp only [List.getElem_toArray, List.getElem_cons_succ, List.getElem_cons_zero] at y2
  have HX := Lib.hid hB3
  have OX := Lib.hid ob3
  have hsx : w.heap.size ≤ (w2.setCell ⟨r, 2, none⟩ (.int .i64 fuse)).heap.size := by rw [World.size_setCell]; exact hw2
  obtain ⟨x0, x1, x2, x3, x4, x5⟩ := ob3.b6
  clear hB2 k2 ob2 orr hB3 ob3 HFU HDQ
  go_upto_region 4 with fail
  clear q0 q1 q2 q3 q4 q5 y2 z2
  generalize w2.setCell ⟨r, 2, none⟩ (.int .i64 fuse) = X at *
  go_wp2_with fail
  refine (HFI.out _).mono ?_; rintro e w3 ⟨rfl, k3⟩
  have hB3 := HX.out.keep0 k3
  have o3 := k3.own OX.out (by simp)
  have hs3 : w.heap.size ≤ w3.heap.size := Nat.le_trans hsx k3.size
  obtain ⟨y0, y1, y2, y3, y4, y5⟩ := o3.b6
  have HB3 := Lib.hid hB3
  have O3 := Lib.hid o3
  clear hB3 o3 HFI
  generalize bs T = TB at *
  go_wp2_with fail
  go_region_held3 (fun w' => w'.cell? ⟨w.heap.size, 0, none⟩ = some (.int .u8 (kn : Int)) ∧ w'.cell? ⟨w.heap.size, 1, none⟩ = some (.slice pr runs.length cr) ∧ w'.cell? ⟨w.heap.size, 2, none⟩ = some (.slice pt dst.length ct) ∧ w'.cell? ⟨w.heap.size, 3, none⟩ = some (.int .i64 size) ∧ w'.cell? ⟨w.heap.size, 4, none⟩ = some (.int .u8 (c.toNat : Int)) ∧ w'.cell? ⟨w.heap.size, 5, none⟩ = some (.int .i64 fuse)) (go_keep)
    (first
      | (go_at_call 7; ((with_reducible refine (HF1.out _ ?_).mono ?_)); (first | exact HB3.out.alone.kept.drew | exact hB4.alone.kept | exact hB4.alone.kept.drew); rintro e w' ⟨rfl, rfl⟩)
      | (go_at_call 15; ((with_reducible refine (HP.out _ ?_ ?_).mono ?_)); (exact HB3.out.drew); (exact hs3); rintro e w4 ⟨rfl, hB4, a4⟩; have o4 := a4.own (Own.drew O3.out) (Nat.le_refl _) (by decide); have hs4 : w.heap.size ≤ w4.heap.size := Nat.le_trans hs3 a4.1; obtain ⟨u0, u1, u2, u3, u4, u5⟩ := o4.b6)
      | (go_at_call 52; ((with_reducible refine (HQ.out _ ?_ ?_).mono ?_)); (exact hB4); (exact hs4); rintro e w5 ⟨rfl, hB5, a5⟩; have o5 := a5.own o4 (Nat.le_refl _) (by decide); obtain ⟨s0, s1, s2, s3, s4, s5⟩ := o5.b6))
  all_goals go_wp2_with fail
  all_goals go_ret
  all_goals exact ⟨rfl, hB5⟩
set_option maxRecDepth 100000 in
set_option maxHeartbeats 4000000 in
theorem bdo_get2_n (W0 w : World) (b sb mb lo r rlo : Nat) (d : DK) (kn : Nat) (runs dst : List (Int × Int)) (rv tv : Value) (size fuse : Int) (c : UInt8) (h : Both W0 w b sb mb lo r rlo (nrm d) d)
    (hr : RunsIn W0 rv runs 0 W0.heap.size) (hrw : ∀ a ∈ runs, WfRun a) (ht : RunsIn W0 tv dst 0 W0.heap.size) (htw : ∀ a ∈ dst, WfRun a) (hsz : (Lit.int .i64 size).wf = true) (hfw : (Lit.int .i64 fuse).wf = true)
    (hf : fuse < 0) (hk : (kn : Int) % 6 = 2) (ho : d.ops ≤ 2000) (hw : d.waits.length ≤ 1700) :
    Calls Try.prog 25 #[.pointer (some ⟨b, 0, none⟩), .pointer (some ⟨r, 0, none⟩), .agg #[.int .u8 (kn : Int), rv, tv, .int .i64 size, .int .u8 (c.toNat : Int), .int .i64 fuse]] w (BSays W0 b sb mb lo r rlo d) := by
  obtain ⟨pr, cr, rfl⟩ := hr.shape
  obtain ⟨pt, ct, rfl⟩ := ht.shape
  obtain ⟨p1, c1, hr1, hc1⟩ := bfew2 _ runs _ _ _ hr
  obtain ⟨p2, c2, hr2, hc2⟩ := bfew2 _ dst _ _ _ ht
  have HF1 := Lib.hid (fun W (q : Kept [] W0 W) => hc1 W (hr.kept0 q))
  have HF2 := Lib.hid (fun W (q : Kept [] W0 W) => hc2 W (ht.kept0 q))
  have HR1 := Lib.hid (fun W (q : Kept [] W0 W) => hr1 W (hr.kept0 q))
  have HR2 := Lib.hid (fun W (q : Kept [] W0 W) => hr2 W (ht.kept0 q))
  have HW1 : Hid (∀ a ∈ runs.take 20, WfRun a) := Lib.hid (fun a ha => hrw a (List.mem_of_mem_take ha))
  have HW2 : Hid (∀ a ∈ dst.take 20, WfRun a) := Lib.hid (fun a ha => htw a (List.mem_of_mem_take ha))
  have HL1 : Hid ((runs.take 20).length ≤ 1000000) := Lib.hid (by have := List.length_take_le 20 runs; omega)
  have HL2 : Hid ((dst.take 20).length ≤ 1000000) := Lib.hid (by have := List.length_take_le 20 dst; omega)
  generalize runs.take 20 = L1 at *
  generalize dst.take 20 = L2 at *
  have HSZ := Lib.hid hsz
  have hA := h.alloc (.cells #[.int .u8 (kn : Int), .slice pr runs.length cr, .slice pt dst.length ct, .int .i64 size, .int .u8 (c.toNat : Int), .int .i64 fuse] 55)
  have ob := Own.new w #[.int .u8 (kn : Int), .slice pr runs.length cr, .slice pt dst.length ct, .int .i64 size, .int .u8 (c.toNat : Int), .int .i64 fuse] 55
  obtain ⟨l1, l2, l3, l4⟩ := h.lt
  have hw0 : w.heap.size ≤ (w.alloc (.cells #[.int .u8 (kn : Int), .slice pr runs.length cr, .slice pt dst.length ct, .int .i64 size, .int .u8 (c.toNat : Int), .int .i64 fuse] 55)).heap.size := by simp
  obtain ⟨q0, q1, q2, q3, q4, q5⟩ := ob.b6
  have HA := Lib.hid hA
  have OB := Lib.hid ob
  have HLIM : Hid (b < w.heap.size ∧ sb < w.heap.size ∧ mb < w.heap.size ∧ r < w.heap.size) := ⟨l1, l2, l3, l4⟩
  have HSB : Hid (W0.heap.size ≤ sb) := h.alone.hsb
  unfold BSays
  have BD : Hid (d.ops ≤ 2000 ∧ d.waits.length ≤ 1700) := ⟨ho, hw⟩
  obtain ⟨G, hG⟩ : ∃ G, bs (getX d L1 size) = G := ⟨_, rfl⟩
  obtain ⟨C, hC⟩ : ∃ C, getCode d L1 size = C := ⟨_, rfl⟩
  have hget : ∀ W, Both W0 W b sb mb lo r rlo (nrm d) d → Calls Try.prog 14 #[.pointer (some ⟨b, 0, none⟩), .slice p1 L1.length c1, .int .i64 size] W fun e w' => e = .returned (.tuple #[.string G, .int .i64 C]) ∧ Kept [] W w' := fun W hW => by
    have hh := bget (bothOps W0 b sb mb lo r rlo d) (nrm d) _ L1 size _ _ W hW (HR1.out W hW.alone.kept) HL1.out HW1.out HSZ.out
    unfold GetSays at hh
    rw [getX_nrm, getCode_nrm, hG, hC] at hh
    exact hh
  have hqet : ∀ W, Both W0 W b sb mb lo r rlo (nrm d) d → Calls Try.prog 53 #[.pointer (some ⟨r, 0, none⟩), .slice p1 L1.length c1, .int .i64 size] W fun e w' => e = .returned (.tuple #[.string G, .int .i64 C]) ∧ Kept [] W w' := fun W hW => by
    have hh := qget (bothQB W0 b sb mb lo r rlo w.heap.size (nrm d) HLIM.out.1 HLIM.out.2.1 HLIM.out.2.2.1 HLIM.out.2.2.2) d _ L1 size _ _ W hW (HR1.out W hW.alone.kept) HL1.out HW1.out HSZ.out
    unfold GetSays at hh
    rw [hG, hC] at hh
    exact hh
  have HP := Lib.hid hget
  have HQ := Lib.hid hqet
  clear hget hqet hG hC
  clear hr ht hr1 hc1 hr2 hc2 hrw htw hsz hfw hA ob ho hw h
  go_enter Try.func25, Try.ntmps25
  have HX := Lib.hid HA.out
  have OX := Lib.hid OB.out
  have hsx := hw0
  obtain ⟨x0, x1, x2, x3, x4, x5⟩ := OB.out.b6
  clear HA OB
  go_upto_region 4 with fail
  clear q0 q1 q2 q3 q4 q5
  generalize w.alloc (.cells #[.int .u8 (kn : Int), .slice pr runs.length cr, .slice pt dst.length ct, .int .i64 size, .int .u8 (c.toNat : Int), .int .i64 fuse] 55) = X at *
  go_wp2_with fail
  go_region_held3 (fun w' => w'.cell? ⟨w.heap.size, 0, none⟩ = some (.int .u8 (kn : Int)) ∧ w'.cell? ⟨w.heap.size, 1, none⟩ = some (.slice pr runs.length cr) ∧ w'.cell? ⟨w.heap.size, 2, none⟩ = some (.slice pt dst.length ct) ∧ w'.cell? ⟨w.heap.size, 3, none⟩ = some (.int .i64 size) ∧ w'.cell? ⟨w.heap.size, 4, none⟩ = some (.int .u8 (c.toNat : Int)) ∧ w'.cell? ⟨w.heap.size, 5, none⟩ = some (.int .i64 fuse)) (go_keep)
    (first
      | (go_at_call 7; ((with_reducible refine (HF1.out _ ?_).mono ?_)); (exact HX.out.alone.kept.drew); rintro e w' ⟨rfl, rfl⟩)
      | (go_at_call 14; ((with_reducible refine (HP.out _ ?_).mono ?_)); (exact HX.out.drew); rintro e w4 ⟨rfl, k4⟩; have hB4 := HX.out.drew.keep0 k4; have o4 := k4.own (Own.drew OX.out) (by simp); obtain ⟨u0, u1, u2, u3, u4, u5⟩ := o4.b6))
  all_goals go_wp2_with fail
  all_goals go_region_held3 (fun w' => w'.cell? ⟨w.heap.size, 0, none⟩ = some (.int .u8 (kn : Int)) ∧ w'.cell? ⟨w.heap.size, 1, none⟩ = some (.slice pr runs.length cr) ∧ w'.cell? ⟨w.heap.size, 2, none⟩ = some (.slice pt dst.length ct) ∧ w'.cell? ⟨w.heap.size, 3, none⟩ = some (.int .i64 size) ∧ w'.cell? ⟨w.heap.size, 4, none⟩ = some (.int .u8 (c.toNat : Int)) ∧ w'.cell? ⟨w.heap.size, 5, none⟩ = some (.int .i64 fuse)) (go_keep)
    (first
      | (go_at_call 7; ((with_reducible refine (HF1.out _ ?_).mono ?_)); (exact hB4.alone.kept.drew); rintro e w' ⟨rfl, rfl⟩)
      | (go_at_call 53; ((with_reducible refine (HQ.out _ ?_).mono ?_)); (exact hB4.drew); rintro e w5 ⟨rfl, k5⟩; have hB5 := hB4.drew.keep0 k5; have o5 := k5.own (Own.drew o4) (by simp); obtain ⟨s0, s1, s2, s3, s4, s5⟩ := o5.b6))
  all_goals go_wp2_with fail
  all_goals go_ret
  all_goals exact ⟨rfl, hB5⟩
set_option maxRecDepth 100000 in
set_option maxHeartbeats 4000000 in
theorem bdo_get2_y (W0 w : World) (b sb mb lo r rlo : Nat) (d : DK) (kn : Nat) (runs dst : List (Int × Int)) (rv tv : Value) (size fuse : Int) (c : UInt8) (h : Both W0 w b sb mb lo r rlo (nrm d) d)
    (hr : RunsIn W0 rv runs 0 W0.heap.size) (hrw : ∀ a ∈ runs, WfRun a) (ht : RunsIn W0 tv dst 0 W0.heap.size) (htw : ∀ a ∈ dst, WfRun a) (hsz : (Lit.int .i64 size).wf = true) (hfw : (Lit.int .i64 fuse).wf = true)
    (hf : 0 ≤ fuse) (hk : (kn : Int) % 6 = 2) (ho : d.ops ≤ 2000) (hw : d.waits.length ≤ 1700) :
    Calls Try.prog 25 #[.pointer (some ⟨b, 0, none⟩), .pointer (some ⟨r, 0, none⟩), .agg #[.int .u8 (kn : Int), rv, tv, .int .i64 size, .int .u8 (c.toNat : Int), .int .i64 fuse]] w (BSays W0 b sb mb lo r rlo (fuseR d fuse)) := by
  obtain ⟨pr, cr, rfl⟩ := hr.shape
  obtain ⟨pt, ct, rfl⟩ := ht.shape
  obtain ⟨p1, c1, hr1, hc1⟩ := bfew2 _ runs _ _ _ hr
  obtain ⟨p2, c2, hr2, hc2⟩ := bfew2 _ dst _ _ _ ht
  have HF1 := Lib.hid (fun W (q : Kept [] W0 W) => hc1 W (hr.kept0 q))
  have HF2 := Lib.hid (fun W (q : Kept [] W0 W) => hc2 W (ht.kept0 q))
  have HR1 := Lib.hid (fun W (q : Kept [] W0 W) => hr1 W (hr.kept0 q))
  have HR2 := Lib.hid (fun W (q : Kept [] W0 W) => hr2 W (ht.kept0 q))
  have HW1 : Hid (∀ a ∈ runs.take 20, WfRun a) := Lib.hid (fun a ha => hrw a (List.mem_of_mem_take ha))
  have HW2 : Hid (∀ a ∈ dst.take 20, WfRun a) := Lib.hid (fun a ha => htw a (List.mem_of_mem_take ha))
  have HL1 : Hid ((runs.take 20).length ≤ 1000000) := Lib.hid (by have := List.length_take_le 20 runs; omega)
  have HL2 : Hid ((dst.take 20).length ≤ 1000000) := Lib.hid (by have := List.length_take_le 20 dst; omega)
  generalize runs.take 20 = L1 at *
  generalize dst.take 20 = L2 at *
  have HSZ := Lib.hid hsz
  have hA := h.alloc (.cells #[.int .u8 (kn : Int), .slice pr runs.length cr, .slice pt dst.length ct, .int .i64 size, .int .u8 (c.toNat : Int), .int .i64 fuse] 55)
  have ob := Own.new w #[.int .u8 (kn : Int), .slice pr runs.length cr, .slice pt dst.length ct, .int .i64 size, .int .u8 (c.toNat : Int), .int .i64 fuse] 55
  obtain ⟨l1, l2, l3, l4⟩ := h.lt
  have hw0 : w.heap.size ≤ (w.alloc (.cells #[.int .u8 (kn : Int), .slice pr runs.length cr, .slice pt dst.length ct, .int .i64 size, .int .u8 (c.toNat : Int), .int .i64 fuse] 55)).heap.size := by simp
  obtain ⟨q0, q1, q2, q3, q4, q5⟩ := ob.b6
  have HA := Lib.hid hA
  have OB := Lib.hid ob
  have HLIM : Hid (b < w.heap.size ∧ sb < w.heap.size ∧ mb < w.heap.size ∧ r < w.heap.size) := ⟨l1, l2, l3, l4⟩
  have HSB : Hid (W0.heap.size ≤ sb) := h.alone.hsb
  unfold BSays
  obtain ⟨D, hD⟩ : ∃ D, fuseR d fuse = D := ⟨_, rfl⟩
  have BD : Hid (D.ops ≤ 2000 ∧ D.waits.length ≤ 1700) := Lib.hid (by rw [← hD]; exact ⟨ho, hw⟩)
  have HFW := Lib.hid hfw
  have hfu := hA.dFuse fuse hfw
  have efu : fuseD (nrm d) fuse = nrm (fuseR d fuse) := fuse_nrm d fuse
  rw [efu, hD] at hfu
  rw [hD]
  have HFU := Lib.hid hfu
  have HDQ := Lib.hid hD
  clear hfu efu hD
  obtain ⟨G, hG⟩ : ∃ G, bs (getX D L1 size) = G := ⟨_, rfl⟩
  obtain ⟨C, hC⟩ : ∃ C, getCode D L1 size = C := ⟨_, rfl⟩
  have hget : ∀ W, Both W0 W b sb mb lo r rlo (nrm D) D → Calls Try.prog 14 #[.pointer (some ⟨b, 0, none⟩), .slice p1 L1.length c1, .int .i64 size] W fun e w' => e = .returned (.tuple #[.string G, .int .i64 C]) ∧ Kept [] W w' := fun W hW => by
    have hh := bget (bothOps W0 b sb mb lo r rlo D) (nrm D) _ L1 size _ _ W hW (HR1.out W hW.alone.kept) HL1.out HW1.out HSZ.out
    unfold GetSays at hh
    rw [getX_nrm, getCode_nrm, hG, hC] at hh
    exact hh
  have hqet : ∀ W, Both W0 W b sb mb lo r rlo (nrm D) D → Calls Try.prog 53 #[.pointer (some ⟨r, 0, none⟩), .slice p1 L1.length c1, .int .i64 size] W fun e w' => e = .returned (.tuple #[.string G, .int .i64 C]) ∧ Kept [] W w' := fun W hW => by
    have hh := qget (bothQB W0 b sb mb lo r rlo w.heap.size (nrm D) HLIM.out.1 HLIM.out.2.1 HLIM.out.2.2.1 HLIM.out.2.2.2) D _ L1 size _ _ W hW (HR1.out W hW.alone.kept) HL1.out HW1.out HSZ.out
    unfold GetSays at hh
    rw [hG, hC] at hh
    exact hh
  have HP := Lib.hid hget
  have HQ := Lib.hid hqet
  clear hget hqet hG hC
  clear hr ht hr1 hc1 hr2 hc2 hrw htw hsz hfw hA ob ho hw h
  go_enter Try.func25, Try.ntmps25
  go_wp2_with fail
  refine HFU.out.mono ?_; rintro e w2 ⟨rfl, hB2, k2⟩
  have ob2 := k2.own OB.out l1 l2 l3 l4 (by decide)
  have hw2 : w.heap.size ≤ w2.heap.size := by have := ob2.lt; omega
  obtain ⟨q0, q1, q2, q3, q4, q5⟩ := ob2.b6
  obtain ⟨v0, v1, orr⟩ := hB2.ref.own
  have z2 := orr.free 2
  have y2 := orr.cell 2 (by simp)
  have hB3 := hB2.fuseR fuse HFW.out
  rw [HDQ.out] at hB3
  have ob3 := ob2.other (p := ⟨r, 2, none⟩) (by show w.heap.size ≠ r; omega) (.int .i64 fuse)
  simp only [List.getElem_toArray, List.getElem_cons_succ, List.getElem_cons_zero] at y2
  have HX := Lib.hid hB3
  have OX := Lib.hid ob3
  have hsx : w.heap.size ≤ (w2.setCell ⟨r, 2, none⟩ (.int .i64 fuse)).heap.size := by rw [World.size_setCell]; exact hw2
  obtain ⟨x0, x1, x2, x3, x4, x5⟩ := ob3.b6
  clear hB2 k2 ob2 orr hB3 ob3 HFU HDQ
  go_upto_region 4 with fail
  clear q0 q1 q2 q3 q4 q5 y2 z2
  generalize w2.setCell ⟨r, 2, none⟩ (.int .i64 fuse) = X at *
  go_wp2_with fail
  go_region_held3 (fun w' => w'.cell? ⟨w.heap.size, 0, none⟩ = some (.int .u8 (kn : Int)) ∧ w'.cell? ⟨w.heap.size, 1, none⟩ = some (.slice pr runs.length cr) ∧ w'.cell? ⟨w.heap.size, 2, none⟩ = some (.slice pt dst.length ct) ∧ w'.cell? ⟨w.heap.size, 3, none⟩ = some (.int .i64 size) ∧ w'.cell? ⟨w.heap.size, 4, none⟩ = some (.int .u8 (c.toNat : Int)) ∧ w'.cell? ⟨w.heap.size, 5, none⟩ = some (.int .i64 fuse)) (go_keep)
    (first
      | (go_at_call 7; ((with_reducible refine (HF1.out _ ?_).mono ?_)); (exact HX.out.alone.kept.drew); rintro e w' ⟨rfl, rfl⟩)
      | (go_at_call 14; ((with_reducible refine (HP.out _ ?_).mono ?_)); (exact HX.out.drew); rintro e w4 ⟨rfl, k4⟩; have hB4 := HX.out.drew.keep0 k4; have o4 := k4.own (Own.drew OX.out) (by simp); obtain ⟨u0, u1, u2, u3, u4, u5⟩ := o4.b6))
  all_goals go_wp2_with fail
  all_goals go_region_held3 (fun w' => w'.cell? ⟨w.heap.size, 0, none⟩ = some (.int .u8 (kn : Int)) ∧ w'.cell? ⟨w.heap.size, 1, none⟩ = some (.slice pr runs.length cr) ∧ w'.cell? ⟨w.heap.size, 2, none⟩ = some (.slice pt dst.length ct) ∧ w'.cell? ⟨w.heap.size, 3, none⟩ = some (.int .i64 size) ∧ w'.cell? ⟨w.heap.size, 4, none⟩ = some (.int .u8 (c.toNat : Int)) ∧ w'.cell? ⟨w.heap.size, 5, none⟩ = some (.int .i64 fuse)) (go_keep)
    (first
      | (go_at_call 7; ((with_reducible refine (HF1.out _ ?_).mono ?_)); (exact hB4.alone.kept.drew); rintro e w' ⟨rfl, rfl⟩)
      | (go_at_call 53; ((with_reducible refine (HQ.out _ ?_).mono ?_)); (exact hB4.drew); rintro e w5 ⟨rfl, k5⟩; have hB5 := hB4.drew.keep0 k5; have o5 := k5.own (Own.drew o4) (by simp); obtain ⟨s0, s1, s2, s3, s4, s5⟩ := o5.b6))
  all_goals go_wp2_with fail
  all_goals go_ret
  all_goals exact ⟨rfl, hB5⟩
set_option maxRecDepth 100000 in
set_option maxHeartbeats 4000000 in
theorem bdo_copy3_n (W0 w : World) (b sb mb lo r rlo : Nat) (d : DK) (kn : Nat) (runs dst : List (Int × Int)) (rv tv : Value) (size fuse : Int) (c : UInt8) (h : Both W0 w b sb mb lo r rlo (nrm d) d)
    (hr : RunsIn W0 rv runs 0 W0.heap.size) (hrw : ∀ a ∈ runs, WfRun a) (ht : RunsIn W0 tv dst 0 W0.heap.size) (htw : ∀ a ∈ dst, WfRun a) (hsz : (Lit.int .i64 size).wf = true) (hfw : (Lit.int .i64 fuse).wf = true)
    (hf : fuse < 0) (hk : (kn : Int) % 6 = 3) (ho : d.ops ≤ 2000) (hw : d.waits.length ≤ 1700) :
    Calls Try.prog 25 #[.pointer (some ⟨b, 0, none⟩), .pointer (some ⟨r, 0, none⟩), .agg #[.int .u8 (kn : Int), rv, tv, .int .i64 size, .int .u8 (c.toNat : Int), .int .i64 fuse]] w (BSays W0 b sb mb lo r rlo (copyX d (runs.take 20) (dst.take 20) size).1) := by
  obtain ⟨pr, cr, rfl⟩ := hr.shape
  obtain ⟨pt, ct, rfl⟩ := ht.shape
  obtain ⟨p1, c1, hr1, hc1⟩ := bfew2 _ runs _ _ _ hr
  obtain ⟨p2, c2, hr2, hc2⟩ := bfew2 _ dst _ _ _ ht
  have HF1 := Lib.hid (fun W (q : Kept [] W0 W) => hc1 W (hr.kept0 q))
  have HF2 := Lib.hid (fun W (q : Kept [] W0 W) => hc2 W (ht.kept0 q))
  have HR1 := Lib.hid (fun W (q : Kept [] W0 W) => hr1 W (hr.kept0 q))
  have HR2 := Lib.hid (fun W (q : Kept [] W0 W) => hr2 W (ht.kept0 q))
  have HW1 : Hid (∀ a ∈ runs.take 20, WfRun a) := Lib.hid (fun a ha => hrw a (List.mem_of_mem_take ha))
  have HW2 : Hid (∀ a ∈ dst.take 20, WfRun a) := Lib.hid (fun a ha => htw a (List.mem_of_mem_take ha))
  have HL1 : Hid ((runs.take 20).length ≤ 1000000) := Lib.hid (by have := List.length_take_le 20 runs; omega)
  have HL2 : Hid ((dst.take 20).length ≤ 1000000) := Lib.hid (by have := List.length_take_le 20 dst; omega)
  generalize runs.take 20 = L1 at *
  generalize dst.take 20 = L2 at *
  have HSZ := Lib.hid hsz
  have hA := h.alloc (.cells #[.int .u8 (kn : Int), .slice pr runs.length cr, .slice pt dst.length ct, .int .i64 size, .int .u8 (c.toNat : Int), .int .i64 fuse] 55)
  have ob := Own.new w #[.int .u8 (kn : Int), .slice pr runs.length cr, .slice pt dst.length ct, .int .i64 size, .int .u8 (c.toNat : Int), .int .i64 fuse] 55
  obtain ⟨l1, l2, l3, l4⟩ := h.lt
  have hw0 : w.heap.size ≤ (w.alloc (.cells #[.int .u8 (kn : Int), .slice pr runs.length cr, .slice pt dst.length ct, .int .i64 size, .int .u8 (c.toNat : Int), .int .i64 fuse] 55)).heap.size := by simp
  obtain ⟨q0, q1, q2, q3, q4, q5⟩ := ob.b6
  have HA := Lib.hid hA
  have OB := Lib.hid ob
  have HLIM : Hid (b < w.heap.size ∧ sb < w.heap.size ∧ mb < w.heap.size ∧ r < w.heap.size) := ⟨l1, l2, l3, l4⟩
  have HSB : Hid (W0.heap.size ≤ sb) := h.alone.hsb
  unfold BSays
  have BD : Hid (d.ops ≤ 2000 ∧ d.waits.length ≤ 1700) := ⟨ho, hw⟩
  obtain ⟨Y, C, hY⟩ : ∃ Y C, copyX d L1 L2 size = (Y, C) := ⟨_, _, rfl⟩
  have hput : ∀ W, Both W0 W b sb mb lo r rlo (nrm d) d → w.heap.size ≤ W.heap.size → Calls Try.prog 16 #[.pointer (some ⟨b, 0, none⟩), .slice p1 L1.length c1, .slice p2 L2.length c2, .int .i64 size] W fun e w' => e = .returned (.int .i64 C) ∧ Both W0 w' b sb mb lo r rlo (nrm Y) d ∧ AsideW w.heap.size W w' := fun W hW hs => by
    have hh := bcopy (bothB W0 b sb mb lo r rlo w.heap.size d HLIM.out.1 HLIM.out.2.1 HLIM.out.2.2.1 HLIM.out.2.2.2) (nrm d) _ L1 _ _ _ L2 _ _ size W hW hs (HR1.out W hW.alone.kept) (HR2.out W hW.alone.kept) HL1.out HL2.out HW1.out HW2.out HSZ.out (by show d.ops ≤ 90000; have := BD.out.1; omega) (by show d.waits.length ≤ 1800; have := BD.out.2; omega)
    unfold CopySays at hh
    rw [copyX_nrm, hY] at hh
    exact hh
  have hqut : ∀ W, Both W0 W b sb mb lo r rlo (nrm Y) d → w.heap.size ≤ W.heap.size → Calls Try.prog 54 #[.pointer (some ⟨r, 0, none⟩), .slice p1 L1.length c1, .slice p2 L2.length c2, .int .i64 size] W fun e w' => e = .returned (.int .i64 C) ∧ Both W0 w' b sb mb lo r rlo (nrm Y) Y ∧ AsideW w.heap.size W w' := fun W hW hs => by
    have hh := qcopy (bothQB W0 b sb mb lo r rlo w.heap.size (nrm Y) HLIM.out.1 HLIM.out.2.1 HLIM.out.2.2.1 HLIM.out.2.2.2) d _ L1 _ _ _ L2 _ _ size W hW hs (HR1.out W hW.alone.kept) (HR2.out W hW.alone.kept) HL1.out HL2.out HW1.out HW2.out HSZ.out (by have := BD.out.1; omega) (by have := BD.out.2; omega)
    unfold CopySays at hh
    rw [hY] at hh
    exact hh
  have HP := Lib.hid hput
  have HQ := Lib.hid hqut
  rw [hY]
  clear hput hqut hY
  clear hr ht hr1 hc1 hr2 hc2 hrw htw hsz hfw hA ob ho hw h
  go_enter Try.func25, Try.ntmps25
  have HX := Lib.hid HA.out
  have OX := Lib.hid OB.out
  have hsx := hw0
  obtain ⟨x0, x1, x2, x3, x4, x5⟩ := OB.out.b6
  clear HA OB
  go_upto_region 4 with fail
  clear q0 q1 q2 q3 q4 q5
  generalize w.alloc (.cells #[.int .u8 (kn : Int), .slice pr runs.length cr, .slice pt dst.length ct, .int .i64 size, .int .u8 (c.toNat : Int), .int .i64 fuse] 55) = X at *
  go_wp2_with fail
  go_region_held3 (fun w' => w'.cell? ⟨w.heap.size, 0, none⟩ = some (.int .u8 (kn : Int)) ∧ w'.cell? ⟨w.heap.size, 1, none⟩ = some (.slice pr runs.length cr) ∧ w'.cell? ⟨w.heap.size, 2, none⟩ = some (.slice pt dst.length ct) ∧ w'.cell? ⟨w.heap.size, 3, none⟩ = some (.int .i64 size) ∧ w'.cell? ⟨w.heap.size, 4, none⟩ = some (.int .u8 (c.toNat : Int)) ∧ w'.cell? ⟨w.heap.size, 5, none⟩ = some (.int .i64 fuse)) (go_keep)
    (first
      | (go_at_call 7; (first | ((with_reducible refine (HF1.out _ ?_).mono ?_); (first | exact HX.out.alone.kept.drew | exact hB4.alone.kept | exact hB4.alone.kept.drew); rintro e w' ⟨rfl, rfl⟩) | ((with_reducible refine (HF2.out _ ?_).mono ?_); (first | exact HX.out.alone.kept.drew | exact hB4.alone.kept | exact hB4.alone.kept.drew); rintro e w' ⟨rfl, rfl⟩)))
      | (go_at_call 16; ((with_reducible refine (HP.out _ ?_ ?_).mono ?_)); (exact HX.out.drew); (exact hsx); rintro e w4 ⟨rfl, hB4, a4⟩; have o4 := a4.own (Own.drew OX.out) (Nat.le_refl _) (by decide); have hs4 : w.heap.size ≤ w4.heap.size := Nat.le_trans hsx a4.1; obtain ⟨u0, u1, u2, u3, u4, u5⟩ := o4.b6)
      | (go_at_call 54; ((with_reducible refine (HQ.out _ ?_ ?_).mono ?_)); (exact hB4); (exact hs4); rintro e w5 ⟨rfl, hB5, a5⟩; have o5 := a5.own o4 (Nat.le_refl _) (by decide); obtain ⟨s0, s1, s2, s3, s4, s5⟩ := o5.b6))
  all_goals go_wp2_with fail
  all_goals go_ret
  all_goals exact ⟨rfl, hB5⟩
set_option maxRecDepth 100000 in
set_option maxHeartbeats 4000000 in
theorem bdo_copy3_y (W0 w : World) (b sb mb lo r rlo : Nat) (d : DK) (kn : Nat) (runs dst : List (Int × Int)) (rv tv : Value) (size fuse : Int) (c : UInt8) (h : Both W0 w b sb mb lo r rlo (nrm d) d)
    (hr : RunsIn W0 rv runs 0 W0.heap.size) (hrw : ∀ a ∈ runs, WfRun a) (ht : RunsIn W0 tv dst 0 W0.heap.size) (htw : ∀ a ∈ dst, WfRun a) (hsz : (Lit.int .i64 size).wf = true) (hfw : (Lit.int .i64 fuse).wf = true)
    (hf : 0 ≤ fuse) (hk : (kn : Int) % 6 = 3) (ho : d.ops ≤ 2000) (hw : d.waits.length ≤ 1700) :
    Calls Try.prog 25 #[.pointer (some ⟨b, 0, none⟩), .pointer (some ⟨r, 0, none⟩), .agg #[.int .u8 (kn : Int), rv, tv, .int .i64 size, .int .u8 (c.toNat : Int), .int .i64 fuse]] w (BSays W0 b sb mb lo r rlo (copyX (fuseR d fuse) (runs.take 20) (dst.take 20) size).1) := by
  obtain ⟨pr, cr, rfl⟩ := hr.shape
  obtain ⟨pt, ct, rfl⟩ := ht.shape
  obtain ⟨p1, c1, hr1, hc1⟩ := bfew2 _ runs _ _ _ hr
  obtain ⟨p2, c2, hr2, hc2⟩ := bfew2 _ dst _ _ _ ht
  have HF1 := Lib.hid (fun W (q : Kept [] W0 W) => hc1 W (hr.kept0 q))
  have HF2 := Lib.hid (fun W (q : Kept [] W0 W) => hc2 W (ht.kept0 q))
  have HR1 := Lib.hid (fun W (q : Kept [] W0 W) => hr1 W (hr.kept0 q))
  have HR2 := Lib.hid (fun W (q : Kept [] W0 W) => hr2 W (ht.kept0 q))
  have HW1 : Hid (∀ a ∈ runs.take 20, WfRun a) := Lib.hid (fun a ha => hrw a (List.mem_of_mem_take ha))
  have HW2 : Hid (∀ a ∈ dst.take 20, WfRun a) := Lib.hid (fun a ha => htw a (List.mem_of_mem_take ha))
  have HL1 : Hid ((runs.take 20).length ≤ 1000000) := Lib.hid (by have := List.length_take_le 20 runs; omega)
  have HL2 : Hid ((dst.take 20).length ≤ 1000000) := Lib.hid (by have := List.length_take_le 20 dst; omega)
  generalize runs.take 20 = L1 at *
  generalize dst.take 20 = L2 at *
  have HSZ := Lib.hid hsz
  have hA := h.alloc (.cells #[.int .u8 (kn : Int), .slice pr runs.length cr, .slice pt dst.length ct, .int .i64 size, .int .u8 (c.toNat : Int), .int .i64 fuse] 55)
  have ob := Own.new w #[.int .u8 (kn : Int), .slice pr runs.length cr, .slice pt dst.length ct, .int .i64 size, .int .u8 (c.toNat : Int), .int .i64 fuse] 55
  obtain ⟨l1, l2, l3, l4⟩ := h.lt
  have hw0 : w.heap.size ≤ (w.alloc (.cells #[.int .u8 (kn : Int), .slice pr runs.length cr, .slice pt dst.length ct, .int .i64 size, .int .u8 (c.toNat : Int), .int .i64 fuse] 55)).heap.size := by simp
  obtain ⟨q0, q1, q2, q3, q4, q5⟩ := ob.b6
  have HA := Lib.hid hA
  have OB := Lib.hid ob
  have HLIM : Hid (b < w.heap.size ∧ sb < w.heap.size ∧ mb < w.heap.size ∧ r < w.heap.size) := ⟨l1, l2, l3, l4⟩
  have HSB : Hid (W0.heap.size ≤ sb) := h.alone.hsb
  unfold BSays
  obtain ⟨D, hD⟩ : ∃ D, fuseR d fuse = D := ⟨_, rfl⟩
  have BD : Hid (D.ops ≤ 2000 ∧ D.waits.length ≤ 1700) := Lib.hid (by rw [← hD]; exact ⟨ho, hw⟩)
  have HFW := Lib.hid hfw
  have hfu := hA.dFuse fuse hfw
  have efu : fuseD (nrm d) fuse = nrm (fuseR d fuse) := fuse_nrm d fuse
  rw [efu, hD] at hfu
  rw [hD]
  have HFU := Lib.hid hfu
  have HDQ := Lib.hid hD
  clear hfu efu hD
  obtain ⟨Y, C, hY⟩ : ∃ Y C, copyX D L1 L2 size = (Y, C) := ⟨_, _, rfl⟩
  have hput : ∀ W, Both W0 W b sb mb lo r rlo (nrm D) D → w.heap.size ≤ W.heap.size → Calls Try.prog 16 #[.pointer (some ⟨b, 0, none⟩), .slice p1 L1.length c1, .slice p2 L2.length c2, .int .i64 size] W fun e w' => e = .returned (.int .i64 C) ∧ Both W0 w' b sb mb lo r rlo (nrm Y) D ∧ AsideW w.heap.size W w' := fun W hW hs => by
    have hh := bcopy (bothB W0 b sb mb lo r rlo w.heap.size D HLIM.out.1 HLIM.out.2.1 HLIM.out.2.2.1 HLIM.out.2.2.2) (nrm D) _ L1 _ _ _ L2 _ _ size W hW hs (HR1.out W hW.alone.kept) (HR2.out W hW.alone.kept) HL1.out HL2.out HW1.out HW2.out HSZ.out (by show D.ops ≤ 90000; have := BD.out.1; omega) (by show D.waits.length ≤ 1800; have := BD.out.2; omega)
    unfold CopySays at hh
    rw [copyX_nrm, hY] at hh
    exact hh
  have hqut : ∀ W, Both W0 W b sb mb lo r rlo (nrm Y) D → w.heap.size ≤ W.heap.size → Calls Try.prog 54 #[.pointer (some ⟨r, 0, none⟩), .slice p1 L1.length c1, .slice p2 L2.length c2, .int .i64 size] W fun e w' => e = .returned (.int .i64 C) ∧ Both W0 w' b sb mb lo r rlo (nrm Y) Y ∧ AsideW w.heap.size W w' := fun W hW hs => by
    have hh := qcopy (bothQB W0 b sb mb lo r rlo w.heap.size (nrm Y) HLIM.out.1 HLIM.out.2.1 HLIM.out.2.2.1 HLIM.out.2.2.2) D _ L1 _ _ _ L2 _ _ size W hW hs (HR1.out W hW.alone.kept) (HR2.out W hW.alone.kept) HL1.out HL2.out HW1.out HW2.out HSZ.out (by have := BD.out.1; omega) (by have := BD.out.2; omega)
    unfold CopySays at hh
    rw [hY] at hh
    exact hh
  have HP := Lib.hid hput
  have HQ := Lib.hid hqut
  rw [hY]
  clear hput hqut hY
  clear hr ht hr1 hc1 hr2 hc2 hrw htw hsz hfw hA ob ho hw h
  go_enter Try.func25, Try.ntmps25
  go_wp2_with fail
  refine HFU.out.mono ?_; rintro e w2 ⟨rfl, hB2, k2⟩
  have ob2 := k2.own OB.out l1 l2 l3 l4 (by decide)
  have hw2 : w.heap.size ≤ w2.heap.size := by have := ob2.lt; omega
  obtain ⟨q0, q1, q2, q3, q4, q5⟩ := ob2.b6
  obtain ⟨v0, v1, orr⟩ := hB2.ref.own
  have z2 := orr.free 2
  have y2 := orr.cell 2 (by simp)
  have hB3 := hB2.fuseR fuse HFW.out
  rw [HDQ.out] at hB3
  have ob3 := ob2.other (p := ⟨r, 2, none⟩) (by show w.heap.size ≠ r; omega) (.int .i64 fuse)
  simp only [List.getElem_toArray, List.getElem_cons_succ, List.getElem_cons_zero] at y2
  have HX := Lib.hid hB3
  have OX := Lib.hid ob3
  have hsx : w.heap.size ≤ (w2.setCell ⟨r, 2, none⟩ (.int .i64 fuse)).heap.size := by rw [World.size_setCell]; exact hw2
  obtain ⟨x0, x1, x2, x3, x4, x5⟩ := ob3.b6
  clear hB2 k2 ob2 orr hB3 ob3 HFU HDQ
  go_upto_region 4 with fail
  clear q0 q1 q2 q3 q4 q5 y2 z2
  generalize w2.setCell ⟨r, 2, none⟩ (.int .i64 fuse) = X at *
  go_wp2_with fail
  go_region_held3 (fun w' => w'.cell? ⟨w.heap.size, 0, none⟩ = some (.int .u8 (kn : Int)) ∧ w'.cell? ⟨w.heap.size, 1, none⟩ = some (.slice pr runs.length cr) ∧ w'.cell? ⟨w.heap.size, 2, none⟩ = some (.slice pt dst.length ct) ∧ w'.cell? ⟨w.heap.size, 3, none⟩ = some (.int .i64 size) ∧ w'.cell? ⟨w.heap.size, 4, none⟩ = some (.int .u8 (c.toNat : Int)) ∧ w'.cell? ⟨w.heap.size, 5, none⟩ = some (.int .i64 fuse)) (go_keep)
    (first
      | (go_at_call 7; (first | ((with_reducible refine (HF1.out _ ?_).mono ?_); (first | exact HX.out.alone.kept.drew | exact hB4.alone.kept | exact hB4.alone.kept.drew); rintro e w' ⟨rfl, rfl⟩) | ((with_reducible refine (HF2.out _ ?_).mono ?_); (first | exact HX.out.alone.kept.drew | exact hB4.alone.kept | exact hB4.alone.kept.drew); rintro e w' ⟨rfl, rfl⟩)))
      | (go_at_call 16; ((with_reducible refine (HP.out _ ?_ ?_).mono ?_)); (exact HX.out.drew); (exact hsx); rintro e w4 ⟨rfl, hB4, a4⟩; have o4 := a4.own (Own.drew OX.out) (Nat.le_refl _) (by decide); have hs4 : w.heap.size ≤ w4.heap.size := Nat.le_trans hsx a4.1; obtain ⟨u0, u1, u2, u3, u4, u5⟩ := o4.b6)
      | (go_at_call 54; ((with_reducible refine (HQ.out _ ?_ ?_).mono ?_)); (exact hB4); (exact hs4); rintro e w5 ⟨rfl, hB5, a5⟩; have o5 := a5.own o4 (Nat.le_refl _) (by decide); obtain ⟨s0, s1, s2, s3, s4, s5⟩ := o5.b6))
  all_goals go_wp2_with fail
  all_goals go_ret
  all_goals exact ⟨rfl, hB5⟩
set_option maxRecDepth 100000 in
set_option maxHeartbeats 4000000 in
theorem bdo_flush4_n (W0 w : World) (b sb mb lo r rlo : Nat) (d : DK) (kn : Nat) (runs dst : List (Int × Int)) (rv tv : Value) (size fuse : Int) (c : UInt8) (h : Both W0 w b sb mb lo r rlo (nrm d) d)
    (hr : RunsIn W0 rv runs 0 W0.heap.size) (hrw : ∀ a ∈ runs, WfRun a) (ht : RunsIn W0 tv dst 0 W0.heap.size) (htw : ∀ a ∈ dst, WfRun a) (hsz : (Lit.int .i64 size).wf = true) (hfw : (Lit.int .i64 fuse).wf = true)
    (hf : fuse < 0) (hk : (kn : Int) % 6 = 4) (ho : d.ops ≤ 2000) (hw : d.waits.length ≤ 1700) :
    Calls Try.prog 25 #[.pointer (some ⟨b, 0, none⟩), .pointer (some ⟨r, 0, none⟩), .agg #[.int .u8 (kn : Int), rv, tv, .int .i64 size, .int .u8 (c.toNat : Int), .int .i64 fuse]] w (BSays W0 b sb mb lo r rlo (fNext d)) := by
  obtain ⟨pr, cr, rfl⟩ := hr.shape
  obtain ⟨pt, ct, rfl⟩ := ht.shape
  obtain ⟨p1, c1, hr1, hc1⟩ := bfew2 _ runs _ _ _ hr
  obtain ⟨p2, c2, hr2, hc2⟩ := bfew2 _ dst _ _ _ ht
  have HF1 := Lib.hid (fun W (q : Kept [] W0 W) => hc1 W (hr.kept0 q))
  have HF2 := Lib.hid (fun W (q : Kept [] W0 W) => hc2 W (ht.kept0 q))
  have HR1 := Lib.hid (fun W (q : Kept [] W0 W) => hr1 W (hr.kept0 q))
  have HR2 := Lib.hid (fun W (q : Kept [] W0 W) => hr2 W (ht.kept0 q))
  have HW1 : Hid (∀ a ∈ runs.take 20, WfRun a) := Lib.hid (fun a ha => hrw a (List.mem_of_mem_take ha))
  have HW2 : Hid (∀ a ∈ dst.take 20, WfRun a) := Lib.hid (fun a ha => htw a (List.mem_of_mem_take ha))
  have HL1 : Hid ((runs.take 20).length ≤ 1000000) := Lib.hid (by have := List.length_take_le 20 runs; omega)
  have HL2 : Hid ((dst.take 20).length ≤ 1000000) := Lib.hid (by have := List.length_take_le 20 dst; omega)
  generalize runs.take 20 = L1 at *
  generalize dst.take 20 = L2 at *
  have HSZ := Lib.hid hsz
  have hA := h.alloc (.cells #[.int .u8 (kn : Int), .slice pr runs.length cr, .slice pt dst.length ct, .int .i64 size, .int .u8 (c.toNat : Int), .int .i64 fuse] 55)
  have ob := Own.new w #[.int .u8 (kn : Int), .slice pr runs.length cr, .slice pt dst.length ct, .int .i64 size, .int .u8 (c.toNat : Int), .int .i64 fuse] 55
  obtain ⟨l1, l2, l3, l4⟩ := h.lt
  have hw0 : w.heap.size ≤ (w.alloc (.cells #[.int .u8 (kn : Int), .slice pr runs.length cr, .slice pt dst.length ct, .int .i64 size, .int .u8 (c.toNat : Int), .int .i64 fuse] 55)).heap.size := by simp
  obtain ⟨q0, q1, q2, q3, q4, q5⟩ := ob.b6
  have HA := Lib.hid hA
  have OB := Lib.hid ob
  have HLIM : Hid (b < w.heap.size ∧ sb < w.heap.size ∧ mb < w.heap.size ∧ r < w.heap.size) := ⟨l1, l2, l3, l4⟩
  have HSB : Hid (W0.heap.size ≤ sb) := h.alone.hsb
  unfold BSays
  have BD : Hid (d.ops ≤ 2000 ∧ d.waits.length ≤ 1700) := ⟨ho, hw⟩
  have hdr : ∀ X, Both W0 X b sb mb lo r rlo (nrm d) d → Calls Try.prog 19 #[.pointer (some ⟨b, 0, none⟩)] X fun e w2 => e = .returned (.int .i64 (fCode d)) ∧ Both W0 w2 b sb mb lo r rlo (nrm (fNext d)) d ∧ BKept b sb mb lo r X w2 := fun X hX => by
    have hh := hX.dFlush (by show d.ops < 100000; have := BD.out.1; omega) (by show d.waits.length ≤ 10000; have := BD.out.2; omega)
    rw [fCode_nrm, fNext_nrm] at hh
    exact hh
  have hqr : ∀ w', Both W0 w' b sb mb lo r rlo (nrm (fNext d)) d → Calls Try.prog 55 #[.pointer (some ⟨r, 0, none⟩)] w' fun e w2 => e = .returned (.int .i64 (fCode d)) ∧ Both W0 w2 b sb mb lo r rlo (nrm (fNext d)) (fNext d) ∧ BKept b sb mb lo r w' w2 := fun w' h' => h'.qFlush (by have := BD.out.1; omega)
  have HD := Lib.hid hdr
  have HQ := Lib.hid hqr
  clear hdr hqr
  generalize fNext d = Y at *
  generalize fCode d = C at *
  clear hr ht hr1 hc1 hr2 hc2 hrw htw hsz hfw hA ob ho hw h
  go_enter Try.func25, Try.ntmps25
  have HX := Lib.hid HA.out
  have OX := Lib.hid OB.out
  have hsx := hw0
  obtain ⟨x0, x1, x2, x3, x4, x5⟩ := OB.out.b6
  clear HA OB
  go_upto_region 4 with fail
  clear q0 q1 q2 q3 q4 q5
  generalize w.alloc (.cells #[.int .u8 (kn : Int), .slice pr runs.length cr, .slice pt dst.length ct, .int .i64 size, .int .u8 (c.toNat : Int), .int .i64 fuse] 55) = X at *
  have HD3 := Lib.hid (HD.out _ HX.out)
  clear HD
  go_wp2_with fail
  refine HD3.out.mono ?_; rintro e w3 ⟨rfl, hB3, _⟩
  have HQ3 := Lib.hid (HQ.out _ hB3)
  clear hB3 HQ
  go_wp2_with fail
  refine HQ3.out.mono ?_; rintro e w4 ⟨rfl, hB4, _⟩
  have HB4 := Lib.hid hB4
  clear hB4
  go_wp2_with fail
  go_ret
  exact ⟨rfl, HB4.out⟩
set_option maxRecDepth 100000 in
set_option maxHeartbeats 4000000 in
theorem bdo_flush4_y (W0 w : World) (b sb mb lo r rlo : Nat) (d : DK) (kn : Nat) (runs dst : List (Int × Int)) (rv tv : Value) (size fuse : Int) (c : UInt8) (h : Both W0 w b sb mb lo r rlo (nrm d) d)
    (hr : RunsIn W0 rv runs 0 W0.heap.size) (hrw : ∀ a ∈ runs, WfRun a) (ht : RunsIn W0 tv dst 0 W0.heap.size) (htw : ∀ a ∈ dst, WfRun a) (hsz : (Lit.int .i64 size).wf = true) (hfw : (Lit.int .i64 fuse).wf = true)
    (hf : 0 ≤ fuse) (hk : (kn : Int) % 6 = 4) (ho : d.ops ≤ 2000) (hw : d.waits.length ≤ 1700) :
    Calls Try.prog 25 #[.pointer (some ⟨b, 0, none⟩), .pointer (some ⟨r, 0, none⟩), .agg #[.int .u8 (kn : Int), rv, tv, .int .i64 size, .int .u8 (c.toNat : Int), .int .i64 fuse]] w (BSays W0 b sb mb lo r rlo (fNext (fuseR d fuse))) := by
  obtain ⟨pr, cr, rfl⟩ := hr.shape
  obtain ⟨pt, ct, rfl⟩ := ht.shape
  obtain ⟨p1, c1, hr1, hc1⟩ := bfew2 _ runs _ _ _ hr
  obtain ⟨p2, c2, hr2, hc2⟩ := bfew2 _ dst _ _ _ ht
  have HF1 := Lib.hid (fun W (q : Kept [] W0 W) => hc1 W (hr.kept0 q))
  have HF2 := Lib.hid (fun W (q : Kept [] W0 W) => hc2 W (ht.kept0 q))
  have HR1 := Lib.hid (fun W (q : Kept [] W0 W) => hr1 W (hr.kept0 q))
  have HR2 := Lib.hid (fun W (q : Kept [] W0 W) => hr2 W (ht.kept0 q))
  have HW1 : Hid (∀ a ∈ runs.take 20, WfRun a) := Lib.hid (fun a ha => hrw a (List.mem_of_mem_take ha))
  have HW2 : Hid (∀ a ∈ dst.take 20, WfRun a) := Lib.hid (fun a ha => htw a (List.mem_of_mem_take ha))
  have HL1 : Hid ((runs.take 20).length ≤ 1000000) := Lib.hid (by have := List.length_take_le 20 runs; omega)
  have HL2 : Hid ((dst.take 20).length ≤ 1000000) := Lib.hid (by have := List.length_take_le 20 dst; omega)
  generalize runs.take 20 = L1 at *
  generalize dst.take 20 = L2 at *
  have HSZ := Lib.hid hsz
  have hA := h.alloc (.cells #[.int .u8 (kn : Int), .slice pr runs.length cr, .slice pt dst.length ct, .int .i64 size, .int .u8 (c.toNat : Int), .int .i64 fuse] 55)
  have ob := Own.new w #[.int .u8 (kn : Int), .slice pr runs.length cr, .slice pt dst.length ct, .int .i64 size, .int .u8 (c.toNat : Int), .int .i64 fuse] 55
  obtain ⟨l1, l2, l3, l4⟩ := h.lt
  have hw0 : w.heap.size ≤ (w.alloc (.cells #[.int .u8 (kn : Int), .slice pr runs.length cr, .slice pt dst.length ct, .int .i64 size, .int .u8 (c.toNat : Int), .int .i64 fuse] 55)).heap.size := by simp
  obtain ⟨q0, q1, q2, q3, q4, q5⟩ := ob.b6
  have HA := Lib.hid hA
  have OB := Lib.hid ob
  have HLIM : Hid (b < w.heap.size ∧ sb < w.heap.size ∧ mb < w.heap.size ∧ r < w.heap.size) := ⟨l1, l2, l3, l4⟩
  have HSB : Hid (W0.heap.size ≤ sb) := h.alone.hsb
  unfold BSays
  obtain ⟨D, hD⟩ : ∃ D, fuseR d fuse = D := ⟨_, rfl⟩
  have BD : Hid (D.ops ≤ 2000 ∧ D.waits.length ≤ 1700) := Lib.hid (by rw [← hD]; exact ⟨ho, hw⟩)
  have HFW := Lib.hid hfw
  have hfu := hA.dFuse fuse hfw
  have efu : fuseD (nrm d) fuse = nrm (fuseR d fuse) := fuse_nrm d fuse
  rw [efu, hD] at hfu
  rw [hD]
  have HFU := Lib.hid hfu
  have HDQ := Lib.hid hD
  clear hfu efu hD
  have hdr : ∀ X, Both W0 X b sb mb lo r rlo (nrm D) D → Calls Try.prog 19 #[.pointer (some ⟨b, 0, none⟩)] X fun e w2 => e = .returned (.int .i64 (fCode D)) ∧ Both W0 w2 b sb mb lo r rlo (nrm (fNext D)) D ∧ BKept b sb mb lo r X w2 := fun X hX => by
    have hh := hX.dFlush (by show D.ops < 100000; have := BD.out.1; omega) (by show D.waits.length ≤ 10000; have := BD.out.2; omega)
    rw [fCode_nrm, fNext_nrm] at hh
    exact hh
  have hqr : ∀ w', Both W0 w' b sb mb lo r rlo (nrm (fNext D)) D → Calls Try.prog 55 #[.pointer (some ⟨r, 0, none⟩)] w' fun e w2 => e = .returned (.int .i64 (fCode D)) ∧ Both W0 w2 b sb mb lo r rlo (nrm (fNext D)) (fNext D) ∧ BKept b sb mb lo r w' w2 := fun w' h' => h'.qFlush (by have := BD.out.1; omega)
  have HD := Lib.hid hdr
  have HQ := Lib.hid hqr
  clear hdr hqr
  generalize fNext D = Y at *
  generalize fCode D = C at *
  clear hr ht hr1 hc1 hr2 hc2 hrw htw hsz hfw hA ob ho hw h
  go_enter Try.func25, Try.ntmps25
  go_wp2_with fail
  refine HFU.out.mono ?_; rintro e w2 ⟨rfl, hB2, k2⟩
  have ob2 := k2.own OB.out l1 l2 l3 l4 (by decide)
  have hw2 : w.heap.size ≤ w2.heap.size := by have := ob2.lt; omega
  obtain ⟨q0, q1, q2, q3, q4, q5⟩ := ob2.b6
  obtain ⟨v0, v1, orr⟩ := hB2.ref.own
  have z2 := orr.free 2
  have y2 := orr.cell 2 (by simp)
  have hB3 := hB2.fuseR fuse HFW.out
  rw [HDQ.out] at hB3
  have ob3 := ob2.other (p := ⟨r, 2, none⟩) (by show w.heap.size ≠ r; omega) (.int .i64 fuse)
  simp only [List.getElem_toArray, List.getElem_cons_succ, List.getElem_cons_zero] at y2
  have HX := Lib.hid hB3
  have OX := Lib.hid ob3
  have hsx : w.heap.size ≤ (w2.setCell ⟨r, 2, none⟩ (.int .i64 fuse)).heap.size := by rw [World.size_setCell]; exact hw2
  obtain ⟨x0, x1, x2, x3, x4, x5⟩ := ob3.b6
  clear hB2 k2 ob2 orr hB3 ob3 HFU HDQ
  go_upto_region 4 with fail
  clear q0 q1 q2 q3 q4 q5 y2 z2
  generalize w2.setCell ⟨r, 2, none⟩ (.int .i64 fuse) = X at *
  have HD3 := Lib.hid (HD.out _ HX.out)
  clear HD
  go_wp2_with fail
  refine HD3.out.mono ?_; rintro e w3 ⟨rfl, hB3, _⟩
  have HQ3 := Lib.hid (HQ.out _ hB3)
  clear hB3 HQ
  go_wp2_with fail
  refine HQ3.out.mono ?_; rintro e w4 ⟨rfl, hB4, _⟩
  have HB4 := Lib.hid hB4
  clear hB4
  go_wp2_with fail
  go_ret
  exact ⟨rfl, HB4.out⟩
set_option maxRecDepth 100000 in
set_option maxHeartbeats 4000000 in
theorem bdo_power5_n (W0 w : World) (b sb mb lo r rlo : Nat) (d : DK) (kn : Nat) (runs dst : List (Int × Int)) (rv tv : Value) (size fuse : Int) (c : UInt8) (h : Both W0 w b sb mb lo r rlo (nrm d) d)
    (hr : RunsIn W0 rv runs 0 W0.heap.size) (hrw : ∀ a ∈ runs, WfRun a) (ht : RunsIn W0 tv dst 0 W0.heap.size) (htw : ∀ a ∈ dst, WfRun a) (hsz : (Lit.int .i64 size).wf = true) (hfw : (Lit.int .i64 fuse).wf = true)
    (hf : fuse < 0) (hk : (kn : Int) % 6 = 5) (ho : d.ops ≤ 2000) (hw : d.waits.length ≤ 1700) :
    Calls Try.prog 25 #[.pointer (some ⟨b, 0, none⟩), .pointer (some ⟨r, 0, none⟩), .agg #[.int .u8 (kn : Int), rv, tv, .int .i64 size, .int .u8 (c.toNat : Int), .int .i64 fuse]] w (BSays W0 b sb mb lo r rlo (powerD d [])) := by
  obtain ⟨pr, cr, rfl⟩ := hr.shape
  obtain ⟨pt, ct, rfl⟩ := ht.shape
  obtain ⟨p1, c1, hr1, hc1⟩ := bfew2 _ runs _ _ _ hr
  obtain ⟨p2, c2, hr2, hc2⟩ := bfew2 _ dst _ _ _ ht
  have HF1 := Lib.hid (fun W (q : Kept [] W0 W) => hc1 W (hr.kept0 q))
  have HF2 := Lib.hid (fun W (q : Kept [] W0 W) => hc2 W (ht.kept0 q))
  have HR1 := Lib.hid (fun W (q : Kept [] W0 W) => hr1 W (hr.kept0 q))
  have HR2 := Lib.hid (fun W (q : Kept [] W0 W) => hr2 W (ht.kept0 q))
  have HW1 : Hid (∀ a ∈ runs.take 20, WfRun a) := Lib.hid (fun a ha => hrw a (List.mem_of_mem_take ha))
  have HW2 : Hid (∀ a ∈ dst.take 20, WfRun a) := Lib.hid (fun a ha => htw a (List.mem_of_mem_take ha))
  have HL1 : Hid ((runs.take 20).length ≤ 1000000) := Lib.hid (by have := List.length_take_le 20 runs; omega)
  have HL2 : Hid ((dst.take 20).length ≤ 1000000) := Lib.hid (by have := List.length_take_le 20 dst; omega)
  generalize runs.take 20 = L1 at *
  generalize dst.take 20 = L2 at *
  have HSZ := Lib.hid hsz
  have hA := h.alloc (.cells #[.int .u8 (kn : Int), .slice pr runs.length cr, .slice pt dst.length ct, .int .i64 size, .int .u8 (c.toNat : Int), .int .i64 fuse] 55)
  have ob := Own.new w #[.int .u8 (kn : Int), .slice pr runs.length cr, .slice pt dst.length ct, .int .i64 size, .int .u8 (c.toNat : Int), .int .i64 fuse] 55
  obtain ⟨l1, l2, l3, l4⟩ := h.lt
  have hw0 : w.heap.size ≤ (w.alloc (.cells #[.int .u8 (kn : Int), .slice pr runs.length cr, .slice pt dst.length ct, .int .i64 size, .int .u8 (c.toNat : Int), .int .i64 fuse] 55)).heap.size := by simp
  obtain ⟨q0, q1, q2, q3, q4, q5⟩ := ob.b6
  have HA := Lib.hid hA
  have OB := Lib.hid ob
  have HLIM : Hid (b < w.heap.size ∧ sb < w.heap.size ∧ mb < w.heap.size ∧ r < w.heap.size) := ⟨l1, l2, l3, l4⟩
  have HSB : Hid (W0.heap.size ≤ sb) := h.alone.hsb
  unfold BSays
  have BD : Hid (d.ops ≤ 2000 ∧ d.waits.length ≤ 1700) := ⟨ho, hw⟩
  have hdr : ∀ X, Both W0 X b sb mb lo r rlo (nrm d) d → Calls Try.prog 20 #[.pointer (some ⟨b, 0, none⟩), .slice none 0 0] X fun e w2 => e = .returned (.tuple #[]) ∧ Both W0 w2 b sb mb lo r rlo (nrm (powerD d [])) d ∧ BKept b sb mb lo r X w2 := fun X hX => by
    have hh := hX.dPower (.slice none 0 0) [] 0 0 (Or.inl ⟨rfl, none, 0, rfl⟩) (Or.inr (Nat.zero_le _)) (by show d.waits.length ≤ 10000; have := BD.out.2; omega)
    rw [powerD_nrm] at hh
    exact hh
  have hqr : ∀ w', Both W0 w' b sb mb lo r rlo (nrm (powerD d [])) d → Calls Try.prog 56 #[.pointer (some ⟨r, 0, none⟩), .slice none 0 0] w' fun e w2 => e = .returned (.tuple #[]) ∧ Both W0 w2 b sb mb lo r rlo (nrm (powerD d [])) (powerD d []) ∧ BKept b sb mb lo r w' w2 := fun w' h' => h'.qPower _ [] 0 0 (Or.inl ⟨rfl, none, 0, rfl⟩)
  have HD := Lib.hid hdr
  have HQ := Lib.hid hqr
  clear hdr hqr
  generalize powerD d [] = Y at *
  clear hr ht hr1 hc1 hr2 hc2 hrw htw hsz hfw hA ob ho hw h
  go_enter Try.func25, Try.ntmps25
  have HX := Lib.hid HA.out
  have OX := Lib.hid OB.out
  have hsx := hw0
  obtain ⟨x0, x1, x2, x3, x4, x5⟩ := OB.out.b6
  clear HA OB
  go_upto_region 4 with fail
  clear q0 q1 q2 q3 q4 q5
  generalize w.alloc (.cells #[.int .u8 (kn : Int), .slice pr runs.length cr, .slice pt dst.length ct, .int .i64 size, .int .u8 (c.toNat : Int), .int .i64 fuse] 55) = X at *
  have HD3 := Lib.hid (HD.out _ HX.out)
  clear HD
  go_wp2_with fail
  refine HD3.out.mono ?_; rintro e w3 ⟨rfl, hB3, _⟩
  have HQ3 := Lib.hid (HQ.out _ hB3)
  clear hB3 HQ
  go_wp2_with fail
  refine HQ3.out.mono ?_; rintro e w4 ⟨rfl, hB4, _⟩
  have HB4 := Lib.hid hB4
  clear hB4
  go_wp2_with fail
  go_ret
  exact ⟨rfl, HB4.out⟩
set_option maxRecDepth 100000 in
set_option maxHeartbeats 4000000 in
theorem bdo_power5_y (W0 w : World) (b sb mb lo r rlo : Nat) (d : DK) (kn : Nat) (runs dst : List (Int × Int)) (rv tv : Value) (size fuse : Int) (c : UInt8) (h : Both W0 w b sb mb lo r rlo (nrm d) d)
    (hr : RunsIn W0 rv runs 0 W0.heap.size) (hrw : ∀ a ∈ runs, WfRun a) (ht : RunsIn W0 tv dst 0 W0.heap.size) (htw : ∀ a ∈ dst, WfRun a) (hsz : (Lit.int .i64 size).wf = true) (hfw : (Lit.int .i64 fuse).wf = true)
    (hf : 0 ≤ fuse) (hk : (kn : Int) % 6 = 5) (ho : d.ops ≤ 2000) (hw : d.waits.length ≤ 1700) :
    Calls Try.prog 25 #[.pointer (some ⟨b, 0, none⟩), .pointer (some ⟨r, 0, none⟩), .agg #[.int .u8 (kn : Int), rv, tv, .int .i64 size, .int .u8 (c.toNat : Int), .int .i64 fuse]] w (BSays W0 b sb mb lo r rlo (powerD (fuseR d fuse) [])) := by
  obtain ⟨pr, cr, rfl⟩ := hr.shape
  obtain ⟨pt, ct, rfl⟩ := ht.shape
  obtain ⟨p1, c1, hr1, hc1⟩ := bfew2 _ runs _ _ _ hr
  obtain ⟨p2, c2, hr2, hc2⟩ := bfew2 _ dst _ _ _ ht
  have HF1 := Lib.hid (fun W (q : Kept [] W0 W) => hc1 W (hr.kept0 q))
  have HF2 := Lib.hid (fun W (q : Kept [] W0 W) => hc2 W (ht.kept0 q))
  have HR1 := Lib.hid (fun W (q : Kept [] W0 W) => hr1 W (hr.kept0 q))
  have HR2 := Lib.hid (fun W (q : Kept [] W0 W) => hr2 W (ht.kept0 q))
  have HW1 : Hid (∀ a ∈ runs.take 20, WfRun a) := Lib.hid (fun a ha => hrw a (List.mem_of_mem_take ha))
  have HW2 : Hid (∀ a ∈ dst.take 20, WfRun a) := Lib.hid (fun a ha => htw a (List.mem_of_mem_take ha))
  have HL1 : Hid ((runs.take 20).length ≤ 1000000) := Lib.hid (by have := List.length_take_le 20 runs; omega)
  have HL2 : Hid ((dst.take 20).length ≤ 1000000) := Lib.hid (by have := List.length_take_le 20 dst; omega)
  generalize runs.take 20 = L1 at *
  generalize dst.take 20 = L2 at *
  have HSZ := Lib.hid hsz
  have hA := h.alloc (.cells #[.int .u8 (kn : Int), .slice pr runs.length cr, .slice pt dst.length ct, .int .i64 size, .int .u8 (c.toNat : Int), .int .i64 fuse] 55)
  have ob := Own.new w #[.int .u8 (kn : Int), .slice pr runs.length cr, .slice pt dst.length ct, .int .i64 size, .int .u8 (c.toNat : Int), .int .i64 fuse] 55
  obtain ⟨l1, l2, l3, l4⟩ := h.lt
  have hw0 : w.heap.size ≤ (w.alloc (.cells #[.int .u8 (kn : Int), .slice pr runs.length cr, .slice pt dst.length ct, .int .i64 size, .int .u8 (c.toNat : Int), .int .i64 fuse] 55)).heap.size := by simp
  obtain ⟨q0, q1, q2, q3, q4, q5⟩ := ob.b6
  have HA := Lib.hid hA
  have OB := Lib.hid ob
  have HLIM : Hid (b < w.heap.size ∧ sb < w.heap.size ∧ mb < w.heap.size ∧ r < w.heap.size) := ⟨l1, l2, l3, l4⟩
  have HSB : Hid (W0.heap.size ≤ sb) := h.alone.hsb
  unfold BSays
  obtain ⟨D, hD⟩ : ∃ D, fuseR d fuse = D := ⟨_, rfl⟩
  have BD : Hid (D.ops ≤ 2000 ∧ D.waits.length ≤ 1700) := Lib.hid (by rw [← hD]; exact ⟨ho, hw⟩)
  have HFW := Lib.hid hfw
  have hfu := hA.dFuse fuse hfw
  have efu : fuseD (nrm d) fuse = nrm (fuseR d fuse) := fuse_nrm d fuse
  rw [efu, hD] at hfu
  rw [hD]
  have HFU := Lib.hid hfu
  have HDQ := Lib.hid hD
  clear hfu efu hD
  have hdr : ∀ X, Both W0 X b sb mb lo r rlo (nrm D) D → Calls Try.prog 20 #[.pointer (some ⟨b, 0, none⟩), .slice none 0 0] X fun e w2 => e = .returned (.tuple #[]) ∧ Both W0 w2 b sb mb lo r rlo (nrm (powerD D [])) D ∧ BKept b sb mb lo r X w2 := fun X hX => by
    have hh := hX.dPower (.slice none 0 0) [] 0 0 (Or.inl ⟨rfl, none, 0, rfl⟩) (Or.inr (Nat.zero_le _)) (by show D.waits.length ≤ 10000; have := BD.out.2; omega)
    rw [powerD_nrm] at hh
    exact hh
  have hqr : ∀ w', Both W0 w' b sb mb lo r rlo (nrm (powerD D [])) D → Calls Try.prog 56 #[.pointer (some ⟨r, 0, none⟩), .slice none 0 0] w' fun e w2 => e = .returned (.tuple #[]) ∧ Both W0 w2 b sb mb lo r rlo (nrm (powerD D [])) (powerD D []) ∧ BKept b sb mb lo r w' w2 := fun w' h' => h'.qPower _ [] 0 0 (Or.inl ⟨rfl, none, 0, rfl⟩)
  have HD := Lib.hid hdr
  have HQ := Lib.hid hqr
  clear hdr hqr
  generalize powerD D [] = Y at *
  clear hr ht hr1 hc1 hr2 hc2 hrw htw hsz hfw hA ob ho hw h
  go_enter Try.func25, Try.ntmps25
  go_wp2_with fail
  refine HFU.out.mono ?_; rintro e w2 ⟨rfl, hB2, k2⟩
  have ob2 := k2.own OB.out l1 l2 l3 l4 (by decide)
  have hw2 : w.heap.size ≤ w2.heap.size := by have := ob2.lt; omega
  obtain ⟨q0, q1, q2, q3, q4, q5⟩ := ob2.b6
  obtain ⟨v0, v1, orr⟩ := hB2.ref.own
  have z2 := orr.free 2
  have y2 := orr.cell 2 (by simp)
  have hB3 := hB2.fuseR fuse HFW.out
  rw [HDQ.out] at hB3
  have ob3 := ob2.other (p := ⟨r, 2, none⟩) (by show w.heap.size ≠ r; omega) (.int .i64 fuse)
  simp only [List.getElem_toArray, List.getElem_cons_succ, List.getElem_cons_zero] at y2
  have HX := Lib.hid hB3
  have OX := Lib.hid ob3
  have hsx : w.heap.size ≤ (w2.setCell ⟨r, 2, none⟩ (.int .i64 fuse)).heap.size := by rw [World.size_setCell]; exact hw2
  obtain ⟨x0, x1, x2, x3, x4, x5⟩ := ob3.b6
  clear hB2 k2 ob2 orr hB3 ob3 HFU HDQ
  go_upto_region 4 with fail
  clear q0 q1 q2 q3 q4 q5 y2 z2
  generalize w2.setCell ⟨r, 2, none⟩ (.int .i64 fuse) = X at *
  have HD3 := Lib.hid (HD.out _ HX.out)
  clear HD
  go_wp2_with fail
  refine HD3.out.mono ?_; rintro e w3 ⟨rfl, hB3, _⟩
  have HQ3 := Lib.hid (HQ.out _ hB3)
  clear hB3 HQ
  go_wp2_with fail
  refine HQ3.out.mono ?_; rintro e w4 ⟨rfl, hB4, _⟩
  have HB4 := Lib.hid hB4
  clear hB4
  go_wp2_with fail
  go_ret
  exact ⟨rfl, HB4.out⟩
end Go.Proofs.Ytdnbddhjdokbfaa
