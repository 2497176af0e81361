/- Layer 23 (catalog): sort: a record's item put behind the row where it belongs. -/
import Derived.Test.YtakdnchmehmdhaaGreatG13
import Derived.Test.YtakdnchmehmdhaaGreatG23
import Derived.Test.YtakdnchmehmdhaaGreatG26
namespace Go.Proofs.YtakdnchmehmdhaaGreat
open Go.RowKit
set_option linter.unusedVariables false
set_option linter.unusedSimpArgs false

def sortK (k n : Int) (x : JItem) (L : List JItem) : List JItem := if k = n then L ++ [x] else L
def CSortSays (r : JRec) (w1 : World) (bx : Nat) (nb nm : Int) (A B C : List JItem) (e : Ending) (w' : World) : Prop :=
  e = .returned (.bool (decide (r.kind = 1 ∨ r.kind = 2 ∨ r.kind = 3))) ∧ Grows w1 w' bx nb nm (sortK r.kind 1 r.item A) (sortK r.kind 2 r.item B) (sortK r.kind 3 r.item C)
set_option maxRecDepth 100000 in
set_option maxHeartbeats 8000000 in
theorem zsort1 (r : JRec) (rv : Value) (w1 w : World) (bx : Nat) (nb nm : Int) (A B C : List JItem) (lo hi : Nat) (hG : Grows w1 w bx nb nm A B C) (hbx : bx < w1.heap.size) (hrr : RunsIn w rv r.runs lo hi) (hf : r.fits) (hwf : ∀ a ∈ r.runs, WfRun a) (hrl : r.runs.length ≤ 1000000) (hlen : A.length + B.length + C.length ≤ 100000) (hk : r.kind = 1) :
    Calls Tryz.prog 53 #[.pointer (some ⟨bx, 0, none⟩), .agg (r.cells rv)] w (CSortSays r w1 bx nb nm A B C) := by
  obtain ⟨i0, hi0, hz0, hz1, hz2⟩ := infoItem
  have HC : Hid (∀ W, Kept [] w W → Calls Tryz.prog 91 #[rv] W (GivesR r.runs W)) := Lib.hid (fun W q => pcloneR rv r.runs _ _ W (hrr.kept0 q) hrl)
  obtain ⟨va, vb, vc, xs, ys, zs, oB, r3, e1, e2, e3, kW⟩ := hG
  obtain ⟨pa, ca, rfl⟩ := own_shape r3.ra
  obtain ⟨pb, cb, rfl⟩ := own_shape r3.rb
  obtain ⟨pc, cc, rfl⟩ := own_shape r3.rc
  obtain ⟨prr, crr, rfl⟩ := hrr.shape
  have HLN : Hid (xs.length ≤ 100000 ∧ ys.length ≤ 100000 ∧ zs.length ≤ 100000) := Lib.hid (by
    have h1 := congrArg List.length e1
    have h2 := congrArg List.length e2
    have h3 := congrArg List.length e3
    rw [List.length_map] at h1 h2 h3
    omega)
  have HIT : Hid (∀ W u, W.ownsRow w1.heap.size 48 2 u r.runs.length (rcells r.runs) → OwnItem w1.heap.size W (r.item, u)) := Lib.hid (fun W u ho => ⟨ho, JRec.item_fits hf, hwf⟩)
  have HE := Lib.hid (And.intro e1 (And.intro e2 e3))
  have KW := Lib.hid kW
  have OBX := Lib.hid oB
  have ROW := Lib.hid r3
  have HBX : Hid (bx < w1.heap.size ∧ w1.heap.size ≤ w.heap.size) := Lib.hid ⟨hbx, kW.size⟩
  have oR := Own.new w (r.cells (.slice prr r.runs.length crr)) 55
  have k0 : Kept [] w (w.alloc (.cells (r.cells (.slice prr r.runs.length crr)) 55)) := (Kept.refl _ _).alloc _
  unfold JRec.cells at oR k0 ⊢
  unfold GivesR at HC
  have OR := Lib.hid oR
  have K0 := Lib.hid k0
  have HK := Lib.hid hk
  clear oR k0 hrr hf hwf e1 e2 e3 kW oB r3 hbx hk hlen hrl
  go_enter Tryz.func53, Tryz.ntmps53
  go_upto_region 1 with fail
  go_cut [5] from 6 to 15 (fun v5 wx => ∃ xb pu cu, v5 = .pointer (some ⟨xb, 0, none⟩) ∧ Own wx xb #[.int .u32 r.id, .string (bs r.name), .int .i64 r.size, .slice pu r.runs.length cu] 58 ∧ wx.ownsRow w.heap.size 48 2 (.slice pu r.runs.length cu) r.runs.length (rcells r.runs) ∧ Own wx w.heap.size #[.int .i64 r.kind, .int .u32 r.id, .string (bs r.name), .int .i64 r.size, .slice prr r.runs.length crr] 55 ∧ Kept [] w wx ∧ w.heap.size ≤ xb)
  case first =>
    refine wp_region_held_drew (S := (fun W => W.cell? ⟨w.heap.size, 0, none⟩ = some (.int .i64 r.kind) ∧ W.cell? ⟨w.heap.size, 1, none⟩ = some (.int .u32 r.id) ∧ W.cell? ⟨w.heap.size, 2, none⟩ = some (.string (bs r.name)) ∧ W.cell? ⟨w.heap.size, 3, none⟩ = some (.int .i64 r.size) ∧ W.cell? ⟨w.heap.size, 4, none⟩ = some (.slice prr r.runs.length crr))) (by kernel_rfl) (by exact OR.out.drew.k5) (fun hHeld => ?_)
    refine take_at (i := 0) (d := some 6) (v := ?_) rfl rfl (by kernel_rfl) (by kernel_rfl) (by kernel_rfl) (fun _ _ _ h => h) (Or.inl ⟨by rfl, ?_⟩) (by assumption) ?_
    rotate_left
    · (intro w hSw; (try dsimp only at hSw); go_simp; try with_reducible rfl)
    try simp only [Act.put, List.setIfInBounds_toArray, List.set_cons_zero, List.set_cons_succ]
    refine take_at (i := 1) (d := some 7) (v := ?_) rfl rfl (by kernel_rfl) (by kernel_rfl) (by kernel_rfl) (fun _ _ _ h => h) (Or.inl ⟨by rfl, ?_⟩) (by assumption) ?_
    rotate_left
    · (intro w hSw; (try dsimp only at hSw); go_simp; try with_reducible rfl)
    try simp only [Act.put, List.setIfInBounds_toArray, List.set_cons_zero, List.set_cons_succ]
    refine take_at (i := 2) (d := some 8) (v := ?_) rfl rfl (by kernel_rfl) (by kernel_rfl) (by kernel_rfl) (fun _ _ _ h => h) (Or.inl ⟨by rfl, ?_⟩) (by assumption) ?_
    rotate_left
    · (intro w hSw; (try dsimp only at hSw); go_simp; try with_reducible rfl)
    try simp only [Act.put, List.setIfInBounds_toArray, List.set_cons_zero, List.set_cons_succ]
    refine take_at (i := 3) (d := some 9) (v := ?_) rfl rfl (by kernel_rfl) (by kernel_rfl) (by kernel_rfl) (fun _ _ _ h => h) (Or.inl ⟨by rfl, ?_⟩) (by assumption) ?_
    rotate_left
    · (intro w hSw; (try dsimp only at hSw); go_simp; try with_reducible rfl)
    try simp only [Act.put, List.setIfInBounds_toArray, List.set_cons_zero, List.set_cons_succ]
    refine take_at (i := 4) (d := some 10) (v := ?_) rfl rfl (by kernel_rfl) (by kernel_rfl) (by kernel_rfl) (fun _ _ _ h => h) (Or.inl ⟨by rfl, ?_⟩) (by assumption) ?_
    rotate_left
    · (intro w hSw; (try dsimp only at hSw); go_simp; try with_reducible rfl)
    try simp only [Act.put, List.setIfInBounds_toArray, List.set_cons_zero, List.set_cons_succ]
    refine take_at (i := 5) (d := some 11) (v := ?_) rfl rfl (by kernel_rfl) (by kernel_rfl) (by kernel_rfl) (fun _ _ _ h => h) (Or.inl ⟨by rfl, ?_⟩) (by assumption) ?_
    rotate_left
    · (intro w hSw; (try dsimp only at hSw); go_simp; try with_reducible rfl)
    try simp only [Act.put, List.setIfInBounds_toArray, List.set_cons_zero, List.set_cons_succ]
    refine take_at (i := 6) (d := some 12) (v := ?_) rfl rfl (by kernel_rfl) (by kernel_rfl) (by kernel_rfl) (fun _ _ _ h => h) (Or.inl ⟨by rfl, ?_⟩) (by assumption) ?_
    rotate_left
    · (intro w hSw; (try dsimp only at hSw); go_simp; try with_reducible rfl)
    try simp only [Act.put, List.setIfInBounds_toArray, List.set_cons_zero, List.set_cons_succ]
    refine take_at (i := 7) (d := some 13) (v := ?_) rfl rfl (by kernel_rfl) (by kernel_rfl) (by kernel_rfl) (fun _ _ _ h => h) (Or.inl ⟨by rfl, ?_⟩) (by assumption) ?_
    rotate_left
    · (intro w hSw; (try dsimp only at hSw); go_simp; try with_reducible rfl)
    try simp only [Act.put, List.setIfInBounds_toArray, List.set_cons_zero, List.set_cons_succ]
    refine wpAnyH_ready (rs := [8, 10]) (by kernel_rfl) (by simp) ?_
    refine (AllReadyH.cons rfl (fun K hK => ?_) (AllReadyH.cons rfl (fun K hK => ?_) AllReadyH.nil))
    · go_simp
      ((with_reducible refine (HC.out _ K0.out.drew).mono ?_)); rintro e w5 ⟨u5, rfl, r5, k5⟩
      have K5 := Lib.hid ((K0.out.drew).trans k5)
      have o5 := k5.own OR.out.drew (by simp)
      have O5 := Lib.hid o5
      have R5 := Lib.hid r5
      clear r5 o5
      obtain ⟨pu, cu, rfl⟩ := own_shape R5.out
      go_wp2_with fail
      refine hK.out _ _ ?_ (fun hHeld => ?_)
      · exact O5.out.k5
      clear hK K
      try simp only [Act.put, List.setIfInBounds_toArray, List.set_cons_zero, List.set_cons_succ]
      refine take_at (i := 9) (d := some 15) (v := ?_) rfl rfl (by kernel_rfl) (by kernel_rfl) (by kernel_rfl) (fun _ _ _ h => h) (Or.inl ⟨by rfl, ?_⟩) (by assumption) ?_
      rotate_left
      · (intro w hSw; (try dsimp only at hSw); go_simp; try with_reducible rfl)
      try simp only [Act.put, List.setIfInBounds_toArray, List.set_cons_zero, List.set_cons_succ]
      refine wpAnyH_ready (rs := [10]) (by kernel_rfl) (by simp) ?_
      refine (AllReadyH.cons rfl (fun K hK => ?_) AllReadyH.nil)
      go_simp
      refine hK.out _ _ ?_ (fun hHeld => ?_)
      · go_keep
      clear hK K
      try simp only [Act.put, List.setIfInBounds_toArray, List.set_cons_zero, List.set_cons_succ]
      refine wpAnyH_ready (rs := [11]) (by kernel_rfl) (by simp) ?_
      refine (AllReadyH.cons rfl (fun K hK => ?_) AllReadyH.nil)
      go_simp
      refine hK.out _ _ ?_ (fun hHeld => ?_)
      · go_keep
      clear hK K
      try simp only [Act.put, List.setIfInBounds_toArray, List.set_cons_zero, List.set_cons_succ]
      refine wpAnyH_done (by kernel_rfl) ?_ _
      go_wp2_with fail
      go_meet
      exact ⟨_, _, _, rfl, Own.new _ _ _, ownsRow_kept (ownsRow_base R5.out K0.out.size) ((Kept.refl [] w5).alloc _) (by simp), O5.out.alloc _, K5.out.alloc _, K5.out.size⟩
    · go_simp
      refine hK.out _ _ ?_ (fun hHeld => ?_)
      · go_keep
      clear hK K
      try simp only [Act.put, List.setIfInBounds_toArray, List.set_cons_zero, List.set_cons_succ]
      have KB := Lib.hid ((K0.out.alloc (.cells #[.int .u32 0, .string { data := #[] }, .int .i64 0, .slice none 0 0] 58)).drew)
      have OXB := Lib.hid ((Own.new (w.alloc (.cells #[.int .i64 r.kind, .int .u32 r.id, .string (bs r.name), .int .i64 r.size, .slice prr r.runs.length crr] 55)).drew #[.int .u32 0, .string { data := #[] }, .int .i64 0, .slice none 0 0] 58))
      have OB := Lib.hid ((OR.out.alloc (.cells #[.int .u32 0, .string { data := #[] }, .int .i64 0, .slice none 0 0] 58)).drew)
      refine wpAnyH_ready (rs := [8]) (by kernel_rfl) (by simp) ?_
      refine (AllReadyH.cons rfl (fun K hK => ?_) AllReadyH.nil)
      go_simp
      ((with_reducible refine (HC.out _ KB.out).mono ?_)); rintro e w5 ⟨u5, rfl, r5, k5⟩
      have K5 := Lib.hid ((KB.out).trans k5)
      have o5 := k5.own OB.out (by simp)
      have O5 := Lib.hid o5
      have R5 := Lib.hid r5
      clear r5 o5
      obtain ⟨pu, cu, rfl⟩ := own_shape R5.out
      go_wp2_with fail
      refine hK.out _ _ ?_ (fun hHeld => ?_)
      · exact O5.out.k5
      clear hK K
      try simp only [Act.put, List.setIfInBounds_toArray, List.set_cons_zero, List.set_cons_succ]
      have ox5 := k5.own OXB.out (by simp)
      simp only [World.size_alloc, World.size_drew] at ox5
      have OX5 := Lib.hid ox5
      obtain ⟨z0, z1, z2, z3⟩ := ox5.c4
      obtain ⟨y0, y1, y2, y3⟩ := ox5.z4
      refine take_at (i := 9) (d := some 15) (v := ?_) rfl rfl (by kernel_rfl) (by kernel_rfl) (by kernel_rfl) (fun _ _ _ h => h) (Or.inl ⟨by rfl, ?_⟩) (by assumption) ?_
      rotate_left
      · (intro w hSw; (try dsimp only at hSw); go_simp; try with_reducible rfl)
      try simp only [Act.put, List.setIfInBounds_toArray, List.set_cons_zero, List.set_cons_succ]
      refine wpAnyH_ready (rs := [11]) (by kernel_rfl) (by simp) ?_
      refine (AllReadyH.cons rfl (fun K hK => ?_) AllReadyH.nil)
      go_simp
      refine hK.out _ _ ?_ (fun hHeld => ?_)
      · exact (O5.out.other4 (Nat.ne_of_lt (Nat.lt_succ_self _)) _ _ _ _).k5
      clear hK K
      try simp only [Act.put, List.setIfInBounds_toArray, List.set_cons_zero, List.set_cons_succ]
      refine wpAnyH_done (by kernel_rfl) ?_ _
      go_wp2_with fail
      go_meet
      exact ⟨_, _, _, rfl, OX5.out.set4 _ _ _ _, ownsRow_keptO (ownsRow_base R5.out KB.out.size) ((Kept.refl [w.heap.size + 1] w5).set4 (Or.inl (by simp)) _ _ _ _) OX5.out (by decide), O5.out.other4 (Nat.ne_of_lt (Nat.lt_succ_self _)) _ _ _ _, K5.out.set4 (Or.inr (Nat.le_succ _)) _ _ _ _, Nat.le_succ _⟩
  case rest =>
    obtain ⟨xb, pu, cu, rfl, hX, hU, hR, hK, hxb⟩ := hcut
    rename World => wx
    have X := Lib.hid hX
    have OB := Lib.hid (hK.own OBX.out (by simp))
    have RW := Lib.hid (ROW.out.kept0 hK)
    have IT := Lib.hid (HIT.out _ _ (ownsRow_base hU HBX.out.2))
    have KX := Lib.hid (KW.out.trans (hK.mono (by simp)))
    have HXR : Hid ((Value.slice pa xs.length ca).ownBlock ≠ some xb) := Lib.hid (fun e => by
      have h1 := (World.ownsRow.lt ROW.out.ra xb e).2
      omega)
    have HNE : Hid (xb ≠ bx) := Lib.hid (fun e => by have := HBX.out; omega)
    obtain ⟨y0, y1, y2, y3, y4⟩ := hR.k5
    clear hX hU hR hK hxb
    rw [HK.out] at y0
    go_wp2_with fail
    refine wp_region_held_drew (S := (fun W => W.cell? ⟨xb, 0, none⟩ = some (.int .u32 r.id) ∧ W.cell? ⟨xb, 1, none⟩ = some (.string (bs r.name)) ∧ W.cell? ⟨xb, 2, none⟩ = some (.int .i64 r.size) ∧ W.cell? ⟨xb, 3, none⟩ = some (.slice pu r.runs.length cu))) (by kernel_rfl) (by exact X.out.drew.c4) (fun hHeld => ?_)
    have bq := OB.out.drew.cell 2 (by simp)
    simp only [List.getElem_toArray, List.getElem_cons_zero, List.getElem_cons_succ] at bq
    refine take_at (i := 0) (d := some 20) (v := ?_) rfl rfl (by kernel_rfl) (by kernel_rfl) (by kernel_rfl) (fun _ _ _ h => h) (Or.inl ⟨by rfl, ?_⟩) (by assumption) ?_
    rotate_left
    · (intro w hSw; (try dsimp only at hSw); go_simp; try with_reducible rfl)
    try simp only [Act.put, List.setIfInBounds_toArray, List.set_cons_zero, List.set_cons_succ]
    refine take_at (i := 1) (d := some 21) (v := ?_) rfl rfl (by kernel_rfl) (by kernel_rfl) (by kernel_rfl) (fun _ _ _ h => h) (Or.inl ⟨by rfl, ?_⟩) (by assumption) ?_
    rotate_left
    · (intro w hSw; (try dsimp only at hSw); go_simp; try with_reducible rfl)
    try simp only [Act.put, List.setIfInBounds_toArray, List.set_cons_zero, List.set_cons_succ]
    refine take_at (i := 2) (d := some 22) (v := ?_) rfl rfl (by kernel_rfl) (by kernel_rfl) (by kernel_rfl) (fun _ _ _ h => h) (Or.inl ⟨by rfl, ?_⟩) (by assumption) ?_
    rotate_left
    · (intro w hSw; (try dsimp only at hSw); go_simp; try with_reducible rfl)
    try simp only [Act.put, List.setIfInBounds_toArray, List.set_cons_zero, List.set_cons_succ]
    refine take_at (i := 3) (d := some 23) (v := ?_) rfl rfl (by kernel_rfl) (by kernel_rfl) (by kernel_rfl) (fun _ _ _ h => h) (Or.inl ⟨by rfl, ?_⟩) (by assumption) ?_
    rotate_left
    · (intro w hSw; (try dsimp only at hSw); go_simp; try with_reducible rfl)
    try simp only [Act.put, List.setIfInBounds_toArray, List.set_cons_zero, List.set_cons_succ]
    refine take_at (i := 5) (d := some 25) (v := ?_) rfl rfl (by kernel_rfl) (by kernel_rfl) (by kernel_rfl) (fun _ _ _ h => h) (Or.inl ⟨by rfl, ?_⟩) (by assumption) ?_
    rotate_left
    · (intro w hSw; (try dsimp only at hSw); go_simp; try with_reducible rfl)
    try simp only [Act.put, List.setIfInBounds_toArray, List.set_cons_zero, List.set_cons_succ]
    refine wpAnyH_ready (rs := [4, 6]) (by kernel_rfl) (by simp) ?_
    refine (AllReadyH.cons rfl (fun K hK => ?_) (AllReadyH.cons rfl (fun K hK => ?_) AllReadyH.nil))
    · skip
      go_simp
      refine hK.out _ _ ?_ (fun hHeld => ?_)
      · exact X.out.drew.c4
      clear hK K
      try simp only [Act.put, List.setIfInBounds_toArray, List.set_cons_zero, List.set_cons_succ]
      refine wpAnyH_ready (rs := [6]) (by kernel_rfl) (by simp) ?_
      refine (AllReadyH.cons rfl (fun K hK => ?_) AllReadyH.nil)
      go_simp
      have ka : Kept [] wx (wx.drew.alloc (.cells #[.int .u32 r.id, .string (bs r.name), .int .i64 r.size, .slice pu r.runs.length cu] 58)) := (Kept.refl [] wx).drew.alloc _
      have OBa := Lib.hid (ka.own OB.out (by simp))
      have Xa := Lib.hid (ka.own X.out (by simp))
      have RWa := Lib.hid (RW.out.kept0 ka)
      have ITa := Lib.hid (IT.out.kept0 ka)
      have KXa := Lib.hid (KX.out.trans (ka.mono (by simp)))
      clear ka
      refine hK.out _ _ ?_ (fun hHeld => ?_)
      · exact Xa.out.c4
      clear hK K
      try simp only [Act.put, List.setIfInBounds_toArray, List.set_cons_zero, List.set_cons_succ]
      have hsrc := Own.new wx.drew #[.int .u32 r.id, .string (bs r.name), .int .i64 r.size, .slice pu r.runs.length cu] 58
      obtain ⟨v5, w5, hrun, hrow5, hgrow5, _, hblk5⟩ := run_append_own_at (P := Tryz.prog) (wx.drew.alloc (.cells #[.int .u32 r.id, .string (bs r.name), .int .i64 r.size, .slice pu r.runs.length cu] 58)) w1.heap.size 23 23 58 i0 _ 4 56 Tryz.underlying23 hi0 hz0 hz1 hz2 rfl (by decide) _ xs.length (icells xs) RWa.out.ra ⟨wx.drew.heap.size, 0, none⟩ 1 1 [.int .u32 r.id, .string (bs r.name), .int .i64 r.size, .slice pu r.runs.length cu] rfl (fun q u hq => by
          have hq5 := (List.getElem?_eq_some_iff.1 hq).1
          rw [Go.WideShapes.add_plain, Nat.zero_add, hsrc.cell q (by simpa using hq5)]
          rw [← hq]; simp [List.getElem?_eq_getElem hq5]) (by intro u hu; simp at hu; rcases hu with rfl | rfl | rfl | rfl <;> rfl) (by have := HLN.out.1; unfold maxLen; omega) (by have := HLN.out.1; omega) (by have := KXa.out.size; omega)
      have radd := (RWa.out.add ITa.out hgrow5 hrow5 hblk5)
      obtain ⟨p5, c5, rfl⟩ := own_shape hrow5
      obtain ⟨T, hT⟩ : ∃ T : List Nat, T = ((Value.slice pa xs.length ca).ownBlock).toList := ⟨_, rfl⟩
      have hTb : bx ∉ T := fun hb => by
        rw [hT, Option.mem_toList] at hb
        exact own_row_ne RWa.out.ra OBa.out (by decide) hb
      have hTi : ∀ xc, T = xc → True := fun _ _ => trivial
      have kT5 : Kept T _ w5 := (Kept.refl T _).grown hgrow5 (fun q hq => Or.inl (by rw [hT, Option.mem_toList]; exact hq))
      have OB5 := Lib.hid (kT5.own OBa.out hTb)
      have R5 := Lib.hid radd
      have K5 := Lib.hid (KXa.out.grown hgrow5 (fun q hq => Or.inr (World.ownsRow.lt RWa.out.ra q hq).1))
      have X5 : Hid (Own w5 xb #[.int .u32 r.id, .string (bs r.name), .int .i64 r.size, .slice pu r.runs.length cu] 58) := Lib.hid (kT5.own Xa.out (fun hb => by
        rw [hT, Option.mem_toList] at hb
        exact HXR.out hb))
      have HRUN := Lib.hid hrun
      clear hrow5 hgrow5 hT hTb hTi kT5 hsrc hrun radd hblk5
      refine wpAnyH_ready (rs := [7]) (by kernel_rfl) (by simp) ?_
      refine (AllReadyH.cons rfl (fun K hK => ?_) AllReadyH.nil)
      refine step_append_runJ rfl _ _ 23 23 rfl _ _ (by simp [Act.eval, Act.put]) (by simp [Act.eval, Act.put]) HRUN.out ?_
      refine hK.out _ _ ?_ (fun hHeld => ?_)
      · exact X5.out.c4
      clear hK K
      try simp only [Act.put, List.setIfInBounds_toArray, List.set_cons_zero, List.set_cons_succ]
      refine take_at (i := 8) (d := some 28) (v := ?_) rfl rfl (by kernel_rfl) (by kernel_rfl) (by kernel_rfl) (fun _ _ _ h => h) (Or.inl ⟨by rfl, ?_⟩) (by assumption) ?_
      rotate_left
      · (intro w hSw; (try dsimp only at hSw); go_simp; try with_reducible rfl)
      try simp only [Act.put, List.setIfInBounds_toArray, List.set_cons_zero, List.set_cons_succ]
      refine take_at (i := 9) (d := some 29) (v := ?_) rfl rfl (by kernel_rfl) (by kernel_rfl) (by kernel_rfl) (fun _ _ _ h => h) (Or.inl ⟨by rfl, ?_⟩) (by assumption) ?_
      rotate_left
      · (intro w hSw; (try dsimp only at hSw); go_simp; try with_reducible rfl)
      try simp only [Act.put, List.setIfInBounds_toArray, List.set_cons_zero, List.set_cons_succ]
      have b0 := OB5.out.cell 2 (by simp)
      simp only [List.getElem_toArray, List.getElem_cons_zero, List.getElem_cons_succ] at b0
      have z0 := OB5.out.free 2
      refine wpAnyH_ready (rs := [10]) (by kernel_rfl) (by simp) ?_
      refine (AllReadyH.cons rfl (fun K hK => ?_) AllReadyH.nil)
      go_simp
      refine hK.out _ _ ?_ (fun hHeld => ?_)
      · exact (X5.out.other (p := ⟨bx, 2, none⟩) HNE.out _).c4
      clear hK K
      try simp only [Act.put, List.setIfInBounds_toArray, List.set_cons_zero, List.set_cons_succ]
      refine wpAnyH_done (by kernel_rfl) ?_ _
      go_wp2_with fail
      go_ret
      unfold CSortSays sortK
      rw [HK.out]
      refine ⟨rfl, _, _, _, (xs ++ [(r.item, .slice pu r.runs.length cu)]), ys, zs, OB5.out.set 2 _, R5.out.set OB5.out 2 _, ?_, ?_, ?_, K5.out.setCell (p := ⟨bx, 2, none⟩) (Or.inl (by simp)) _⟩
      · rw [List.map_append, HE.out.1]; rfl
      · exact HE.out.2.1
      · exact HE.out.2.2
    · skip
      go_simp
      have ka : Kept [] wx (wx.drew.alloc (.cells #[.int .u32 r.id, .string (bs r.name), .int .i64 r.size, .slice pu r.runs.length cu] 58)) := (Kept.refl [] wx).drew.alloc _
      have OBa := Lib.hid (ka.own OB.out (by simp))
      have Xa := Lib.hid (ka.own X.out (by simp))
      have RWa := Lib.hid (RW.out.kept0 ka)
      have ITa := Lib.hid (IT.out.kept0 ka)
      have KXa := Lib.hid (KX.out.trans (ka.mono (by simp)))
      clear ka
      refine hK.out _ _ ?_ (fun hHeld => ?_)
      · exact Xa.out.c4
      clear hK K
      try simp only [Act.put, List.setIfInBounds_toArray, List.set_cons_zero, List.set_cons_succ]
      have bq2 := (OB.out.alloc (.cells #[.int .u32 r.id, .string (bs r.name), .int .i64 r.size, .slice pu r.runs.length cu] 58)).drew.cell 2 (by simp)
      simp only [List.getElem_toArray, List.getElem_cons_zero, List.getElem_cons_succ] at bq2
      refine wpAnyH_ready (rs := [4]) (by kernel_rfl) (by simp) ?_
      refine (AllReadyH.cons rfl (fun K hK => ?_) AllReadyH.nil)
      go_simp
      refine hK.out _ _ ?_ (fun hHeld => ?_)
      · exact Xa.out.c4
      clear hK K
      try simp only [Act.put, List.setIfInBounds_toArray, List.set_cons_zero, List.set_cons_succ]
      have hsrc := Own.new wx.drew #[.int .u32 r.id, .string (bs r.name), .int .i64 r.size, .slice pu r.runs.length cu] 58
      obtain ⟨v5, w5, hrun, hrow5, hgrow5, _, hblk5⟩ := run_append_own_at (P := Tryz.prog) (wx.drew.alloc (.cells #[.int .u32 r.id, .string (bs r.name), .int .i64 r.size, .slice pu r.runs.length cu] 58)) w1.heap.size 23 23 58 i0 _ 4 56 Tryz.underlying23 hi0 hz0 hz1 hz2 rfl (by decide) _ xs.length (icells xs) RWa.out.ra ⟨wx.drew.heap.size, 0, none⟩ 1 1 [.int .u32 r.id, .string (bs r.name), .int .i64 r.size, .slice pu r.runs.length cu] rfl (fun q u hq => by
          have hq5 := (List.getElem?_eq_some_iff.1 hq).1
          rw [Go.WideShapes.add_plain, Nat.zero_add, hsrc.cell q (by simpa using hq5)]
          rw [← hq]; simp [List.getElem?_eq_getElem hq5]) (by intro u hu; simp at hu; rcases hu with rfl | rfl | rfl | rfl <;> rfl) (by have := HLN.out.1; unfold maxLen; omega) (by have := HLN.out.1; omega) (by have := KXa.out.size; omega)
      have radd := (RWa.out.add ITa.out hgrow5 hrow5 hblk5)
      obtain ⟨p5, c5, rfl⟩ := own_shape hrow5
      obtain ⟨T, hT⟩ : ∃ T : List Nat, T = ((Value.slice pa xs.length ca).ownBlock).toList := ⟨_, rfl⟩
      have hTb : bx ∉ T := fun hb => by
        rw [hT, Option.mem_toList] at hb
        exact own_row_ne RWa.out.ra OBa.out (by decide) hb
      have hTi : ∀ xc, T = xc → True := fun _ _ => trivial
      have kT5 : Kept T _ w5 := (Kept.refl T _).grown hgrow5 (fun q hq => Or.inl (by rw [hT, Option.mem_toList]; exact hq))
      have OB5 := Lib.hid (kT5.own OBa.out hTb)
      have R5 := Lib.hid radd
      have K5 := Lib.hid (KXa.out.grown hgrow5 (fun q hq => Or.inr (World.ownsRow.lt RWa.out.ra q hq).1))
      have X5 : Hid (Own w5 xb #[.int .u32 r.id, .string (bs r.name), .int .i64 r.size, .slice pu r.runs.length cu] 58) := Lib.hid (kT5.own Xa.out (fun hb => by
        rw [hT, Option.mem_toList] at hb
        exact HXR.out hb))
      have HRUN := Lib.hid hrun
      clear hrow5 hgrow5 hT hTb hTi kT5 hsrc hrun radd hblk5
      refine wpAnyH_ready (rs := [7]) (by kernel_rfl) (by simp) ?_
      refine (AllReadyH.cons rfl (fun K hK => ?_) AllReadyH.nil)
      refine step_append_runJ rfl _ _ 23 23 rfl _ _ (by simp [Act.eval, Act.put]) (by simp [Act.eval, Act.put]) HRUN.out ?_
      refine hK.out _ _ ?_ (fun hHeld => ?_)
      · exact X5.out.c4
      clear hK K
      try simp only [Act.put, List.setIfInBounds_toArray, List.set_cons_zero, List.set_cons_succ]
      refine take_at (i := 8) (d := some 28) (v := ?_) rfl rfl (by kernel_rfl) (by kernel_rfl) (by kernel_rfl) (fun _ _ _ h => h) (Or.inl ⟨by rfl, ?_⟩) (by assumption) ?_
      rotate_left
      · (intro w hSw; (try dsimp only at hSw); go_simp; try with_reducible rfl)
      try simp only [Act.put, List.setIfInBounds_toArray, List.set_cons_zero, List.set_cons_succ]
      refine take_at (i := 9) (d := some 29) (v := ?_) rfl rfl (by kernel_rfl) (by kernel_rfl) (by kernel_rfl) (fun _ _ _ h => h) (Or.inl ⟨by rfl, ?_⟩) (by assumption) ?_
      rotate_left
      · (intro w hSw; (try dsimp only at hSw); go_simp; try with_reducible rfl)
      try simp only [Act.put, List.setIfInBounds_toArray, List.set_cons_zero, List.set_cons_succ]
      have b0 := OB5.out.cell 2 (by simp)
      simp only [List.getElem_toArray, List.getElem_cons_zero, List.getElem_cons_succ] at b0
      have z0 := OB5.out.free 2
      refine wpAnyH_ready (rs := [10]) (by kernel_rfl) (by simp) ?_
      refine (AllReadyH.cons rfl (fun K hK => ?_) AllReadyH.nil)
      go_simp
      refine hK.out _ _ ?_ (fun hHeld => ?_)
      · exact (X5.out.other (p := ⟨bx, 2, none⟩) HNE.out _).c4
      clear hK K
      try simp only [Act.put, List.setIfInBounds_toArray, List.set_cons_zero, List.set_cons_succ]
      refine wpAnyH_done (by kernel_rfl) ?_ _
      go_wp2_with fail
      go_ret
      unfold CSortSays sortK
      rw [HK.out]
      refine ⟨rfl, _, _, _, (xs ++ [(r.item, .slice pu r.runs.length cu)]), ys, zs, OB5.out.set 2 _, R5.out.set OB5.out 2 _, ?_, ?_, ?_, K5.out.setCell (p := ⟨bx, 2, none⟩) (Or.inl (by simp)) _⟩
      · rw [List.map_append, HE.out.1]; rfl
      · exact HE.out.2.1
      · exact HE.out.2.2
set_option maxRecDepth 100000 in
set_option maxHeartbeats 8000000 in
theorem zsort2 (r : JRec) (rv : Value) (w1 w : World) (bx : Nat) (nb nm : Int) (A B C : List JItem) (lo hi : Nat) (hG : Grows w1 w bx nb nm A B C) (hbx : bx < w1.heap.size) (hrr : RunsIn w rv r.runs lo hi) (hf : r.fits) (hwf : ∀ a ∈ r.runs, WfRun a) (hrl : r.runs.length ≤ 1000000) (hlen : A.length + B.length + C.length ≤ 100000) (hk : r.kind = 2) :
    Calls Tryz.prog 53 #[.pointer (some ⟨bx, 0, none⟩), .agg (r.cells rv)] w (CSortSays r w1 bx nb nm A B C) := by
  obtain ⟨i0, hi0, hz0, hz1, hz2⟩ := infoItem
  have HC : Hid (∀ W, Kept [] w W → Calls Tryz.prog 91 #[rv] W (GivesR r.runs W)) := Lib.hid (fun W q => pcloneR rv r.runs _ _ W (hrr.kept0 q) hrl)
  obtain ⟨va, vb, vc, xs, ys, zs, oB, r3, e1, e2, e3, kW⟩ := hG
  obtain ⟨pa, ca, rfl⟩ := own_shape r3.ra
  obtain ⟨pb, cb, rfl⟩ := own_shape r3.rb
  obtain ⟨pc, cc, rfl⟩ := own_shape r3.rc
  obtain ⟨prr, crr, rfl⟩ := hrr.shape
  have HLN : Hid (xs.length ≤ 100000 ∧ ys.length ≤ 100000 ∧ zs.length ≤ 100000) := Lib.hid (by
    have h1 := congrArg List.length e1
    have h2 := congrArg List.length e2
    have h3 := congrArg List.length e3
    rw [List.length_map] at h1 h2 h3
    omega)
  have HIT : Hid (∀ W u, W.ownsRow w1.heap.size 48 2 u r.runs.length (rcells r.runs) → OwnItem w1.heap.size W (r.item, u)) := Lib.hid (fun W u ho => ⟨ho, JRec.item_fits hf, hwf⟩)
  have HE := Lib.hid (And.intro e1 (And.intro e2 e3))
  have KW := Lib.hid kW
  have OBX := Lib.hid oB
  have ROW := Lib.hid r3
  have HBX : Hid (bx < w1.heap.size ∧ w1.heap.size ≤ w.heap.size) := Lib.hid ⟨hbx, kW.size⟩
  have oR := Own.new w (r.cells (.slice prr r.runs.length crr)) 55
  have k0 : Kept [] w (w.alloc (.cells (r.cells (.slice prr r.runs.length crr)) 55)) := (Kept.refl _ _).alloc _
  unfold JRec.cells at oR k0 ⊢
  unfold GivesR at HC
  have OR := Lib.hid oR
  have K0 := Lib.hid k0
  have HK := Lib.hid hk
  clear oR k0 hrr hf hwf e1 e2 e3 kW oB r3 hbx hk hlen hrl
  go_enter Tryz.func53, Tryz.ntmps53
  go_upto_region 1 with fail
  go_cut [5] from 6 to 15 (fun v5 wx => ∃ xb pu cu, v5 = .pointer (some ⟨xb, 0, none⟩) ∧ Own wx xb #[.int .u32 r.id, .string (bs r.name), .int .i64 r.size, .slice pu r.runs.length cu] 58 ∧ wx.ownsRow w.heap.size 48 2 (.slice pu r.runs.length cu) r.runs.length (rcells r.runs) ∧ Own wx w.heap.size #[.int .i64 r.kind, .int .u32 r.id, .string (bs r.name), .int .i64 r.size, .slice prr r.runs.length crr] 55 ∧ Kept [] w wx ∧ w.heap.size ≤ xb)
  case first =>
    refine wp_region_held_drew (S := (fun W => W.cell? ⟨w.heap.size, 0, none⟩ = some (.int .i64 r.kind) ∧ W.cell? ⟨w.heap.size, 1, none⟩ = some (.int .u32 r.id) ∧ W.cell? ⟨w.heap.size, 2, none⟩ = some (.string (bs r.name)) ∧ W.cell? ⟨w.heap.size, 3, none⟩ = some (.int .i64 r.size) ∧ W.cell? ⟨w.heap.size, 4, none⟩ = some (.slice prr r.runs.length crr))) (by kernel_rfl) (by exact OR.out.drew.k5) (fun hHeld => ?_)
    refine take_at (i := 0) (d := some 6) (v := ?_) rfl rfl (by kernel_rfl) (by kernel_rfl) (by kernel_rfl) (fun _ _ _ h => h) (Or.inl ⟨by rfl, ?_⟩) (by assumption) ?_
    rotate_left
    · (intro w hSw; (try dsimp only at hSw); go_simp; try with_reducible rfl)
    try simp only [Act.put, List.setIfInBounds_toArray, List.set_cons_zero, List.set_cons_succ]
    refine take_at (i := 1) (d := some 7) (v := ?_) rfl rfl (by kernel_rfl) (by kernel_rfl) (by kernel_rfl) (fun _ _ _ h => h) (Or.inl ⟨by rfl, ?_⟩) (by assumption) ?_
    rotate_left
    · (intro w hSw; (try dsimp only at hSw); go_simp; try with_reducible rfl)
    try simp only [Act.put, List.setIfInBounds_toArray, List.set_cons_zero, List.set_cons_succ]
    refine take_at (i := 2) (d := some 8) (v := ?_) rfl rfl (by kernel_rfl) (by kernel_rfl) (by kernel_rfl) (fun _ _ _ h => h) (Or.inl ⟨by rfl, ?_⟩) (by assumption) ?_
    rotate_left
    · (intro w hSw; (try dsimp only at hSw); go_simp; try with_reducible rfl)
    try simp only [Act.put, List.setIfInBounds_toArray, List.set_cons_zero, List.set_cons_succ]
    refine take_at (i := 3) (d := some 9) (v := ?_) rfl rfl (by kernel_rfl) (by kernel_rfl) (by kernel_rfl) (fun _ _ _ h => h) (Or.inl ⟨by rfl, ?_⟩) (by assumption) ?_
    rotate_left
    · (intro w hSw; (try dsimp only at hSw); go_simp; try with_reducible rfl)
    try simp only [Act.put, List.setIfInBounds_toArray, List.set_cons_zero, List.set_cons_succ]
    refine take_at (i := 4) (d := some 10) (v := ?_) rfl rfl (by kernel_rfl) (by kernel_rfl) (by kernel_rfl) (fun _ _ _ h => h) (Or.inl ⟨by rfl, ?_⟩) (by assumption) ?_
    rotate_left
    · (intro w hSw; (try dsimp only at hSw); go_simp; try with_reducible rfl)
    try simp only [Act.put, List.setIfInBounds_toArray, List.set_cons_zero, List.set_cons_succ]
    refine take_at (i := 5) (d := some 11) (v := ?_) rfl rfl (by kernel_rfl) (by kernel_rfl) (by kernel_rfl) (fun _ _ _ h => h) (Or.inl ⟨by rfl, ?_⟩) (by assumption) ?_
    rotate_left
    · (intro w hSw; (try dsimp only at hSw); go_simp; try with_reducible rfl)
    try simp only [Act.put, List.setIfInBounds_toArray, List.set_cons_zero, List.set_cons_succ]
    refine take_at (i := 6) (d := some 12) (v := ?_) rfl rfl (by kernel_rfl) (by kernel_rfl) (by kernel_rfl) (fun _ _ _ h => h) (Or.inl ⟨by rfl, ?_⟩) (by assumption) ?_
    rotate_left
    · (intro w hSw; (try dsimp only at hSw); go_simp; try with_reducible rfl)
    try simp only [Act.put, List.setIfInBounds_toArray, List.set_cons_zero, List.set_cons_succ]
    refine take_at (i := 7) (d := some 13) (v := ?_) rfl rfl (by kernel_rfl) (by kernel_rfl) (by kernel_rfl) (fun _ _ _ h => h) (Or.inl ⟨by rfl, ?_⟩) (by assumption) ?_
    rotate_left
    · (intro w hSw; (try dsimp only at hSw); go_simp; try with_reducible rfl)
    try simp only [Act.put, List.setIfInBounds_toArray, List.set_cons_zero, List.set_cons_succ]
    refine wpAnyH_ready (rs := [8, 10]) (by kernel_rfl) (by simp) ?_
    refine (AllReadyH.cons rfl (fun K hK => ?_) (AllReadyH.cons rfl (fun K hK => ?_) AllReadyH.nil))
    · go_simp
      ((with_reducible refine (HC.out _ K0.out.drew).mono ?_)); rintro e w5 ⟨u5, rfl, r5, k5⟩
      have K5 := Lib.hid ((K0.out.drew).trans k5)
      have o5 := k5.own OR.out.drew (by simp)
      have O5 := Lib.hid o5
      have R5 := Lib.hid r5
      clear r5 o5
      obtain ⟨pu, cu, rfl⟩ := own_shape R5.out
      go_wp2_with fail
      refine hK.out _ _ ?_ (fun hHeld => ?_)
      · exact O5.out.k5
      clear hK K
      try simp only [Act.put, List.setIfInBounds_toArray, List.set_cons_zero, List.set_cons_succ]
      refine take_at (i := 9) (d := some 15) (v := ?_) rfl rfl (by kernel_rfl) (by kernel_rfl) (by kernel_rfl) (fun _ _ _ h => h) (Or.inl ⟨by rfl, ?_⟩) (by assumption) ?_
      rotate_left
      · (intro w hSw; (try dsimp only at hSw); go_simp; try with_reducible rfl)
      try simp only [Act.put, List.setIfInBounds_toArray, List.set_cons_zero, List.set_cons_succ]
      refine wpAnyH_ready (rs := [10]) (by kernel_rfl) (by simp) ?_
      refine (AllReadyH.cons rfl (fun K hK => ?_) AllReadyH.nil)
      go_simp
      refine hK.out _ _ ?_ (fun hHeld => ?_)
      · go_keep
      clear hK K
      try simp only [Act.put, List.setIfInBounds_toArray, List.set_cons_zero, List.set_cons_succ]
      refine wpAnyH_ready (rs := [11]) (by kernel_rfl) (by simp) ?_
      refine (AllReadyH.cons rfl (fun K hK => ?_) AllReadyH.nil)
      go_simp
      refine hK.out _ _ ?_ (fun hHeld => ?_)
      · go_keep
      clear hK K
      try simp only [Act.put, List.setIfInBounds_toArray, List.set_cons_zero, List.set_cons_succ]
      refine wpAnyH_done (by kernel_rfl) ?_ _
      go_wp2_with fail
      go_meet
      exact ⟨_, _, _, rfl, Own.new _ _ _, ownsRow_kept (ownsRow_base R5.out K0.out.size) ((Kept.refl [] w5).alloc _) (by simp), O5.out.alloc _, K5.out.alloc _, K5.out.size⟩
    · go_simp
      refine hK.out _ _ ?_ (fun hHeld => ?_)
      · go_keep
      clear hK K
      try simp only [Act.put, List.setIfInBounds_toArray, List.set_cons_zero, List.set_cons_succ]
      have KB := Lib.hid ((K0.out.alloc (.cells #[.int .u32 0, .string { data := #[] }, .int .i64 0, .slice none 0 0] 58)).drew)
      have OXB := Lib.hid ((Own.new (w.alloc (.cells #[.int .i64 r.kind, .int .u32 r.id, .string (bs r.name), .int .i64 r.size, .slice prr r.runs.length crr] 55)).drew #[.int .u32 0, .string { data := #[] }, .int .i64 0, .slice none 0 0] 58))
      have OB := Lib.hid ((OR.out.alloc (.cells #[.int .u32 0, .string { data := #[] }, .int .i64 0, .slice none 0 0] 58)).drew)
      refine wpAnyH_ready (rs := [8]) (by kernel_rfl) (by simp) ?_
      refine (AllReadyH.cons rfl (fun K hK => ?_) AllReadyH.nil)
      go_simp
      ((with_reducible refine (HC.out _ KB.out).mono ?_)); rintro e w5 ⟨u5, rfl, r5, k5⟩
      have K5 := Lib.hid ((KB.out).trans k5)
      have o5 := k5.own OB.out (by simp)
      have O5 := Lib.hid o5
      have R5 := Lib.hid r5
      clear r5 o5
      obtain ⟨pu, cu, rfl⟩ := own_shape R5.out
      go_wp2_with fail
      refine hK.out _ _ ?_ (fun hHeld => ?_)
      · exact O5.out.k5
      clear hK K
      try simp only [Act.put, List.setIfInBounds_toArray, List.set_cons_zero, List.set_cons_succ]
      have ox5 := k5.own OXB.out (by simp)
      simp only [World.size_alloc, World.size_drew] at ox5
      have OX5 := Lib.hid ox5
      obtain ⟨z0, z1, z2, z3⟩ := ox5.c4
      obtain ⟨y0, y1, y2, y3⟩ := ox5.z4
      refine take_at (i := 9) (d := some 15) (v := ?_) rfl rfl (by kernel_rfl) (by kernel_rfl) (by kernel_rfl) (fun _ _ _ h => h) (Or.inl ⟨by rfl, ?_⟩) (by assumption) ?_
      rotate_left
      · (intro w hSw; (try dsimp only at hSw); go_simp; try with_reducible rfl)
      try simp only [Act.put, List.setIfInBounds_toArray, List.set_cons_zero, List.set_cons_succ]
      refine wpAnyH_ready (rs := [11]) (by kernel_rfl) (by simp) ?_
      refine (AllReadyH.cons rfl (fun K hK => ?_) AllReadyH.nil)
      go_simp
      refine hK.out _ _ ?_ (fun hHeld => ?_)
      · exact (O5.out.other4 (Nat.ne_of_lt (Nat.lt_succ_self _)) _ _ _ _).k5
      clear hK K
      try simp only [Act.put, List.setIfInBounds_toArray, List.set_cons_zero, List.set_cons_succ]
      refine wpAnyH_done (by kernel_rfl) ?_ _
      go_wp2_with fail
      go_meet
      exact ⟨_, _, _, rfl, OX5.out.set4 _ _ _ _, ownsRow_keptO (ownsRow_base R5.out KB.out.size) ((Kept.refl [w.heap.size + 1] w5).set4 (Or.inl (by simp)) _ _ _ _) OX5.out (by decide), O5.out.other4 (Nat.ne_of_lt (Nat.lt_succ_self _)) _ _ _ _, K5.out.set4 (Or.inr (Nat.le_succ _)) _ _ _ _, Nat.le_succ _⟩
  case rest =>
    obtain ⟨xb, pu, cu, rfl, hX, hU, hR, hK, hxb⟩ := hcut
    rename World => wx
    have X := Lib.hid hX
    have OB := Lib.hid (hK.own OBX.out (by simp))
    have RW := Lib.hid (ROW.out.kept0 hK)
    have IT := Lib.hid (HIT.out _ _ (ownsRow_base hU HBX.out.2))
    have KX := Lib.hid (KW.out.trans (hK.mono (by simp)))
    have HXR : Hid ((Value.slice pb ys.length cb).ownBlock ≠ some xb) := Lib.hid (fun e => by
      have h1 := (World.ownsRow.lt ROW.out.rot.ra xb e).2
      omega)
    have HNE : Hid (xb ≠ bx) := Lib.hid (fun e => by have := HBX.out; omega)
    obtain ⟨y0, y1, y2, y3, y4⟩ := hR.k5
    clear hX hU hR hK hxb
    rw [HK.out] at y0
    go_wp2_with fail
    refine wp_region_held_drew (S := (fun W => W.cell? ⟨xb, 0, none⟩ = some (.int .u32 r.id) ∧ W.cell? ⟨xb, 1, none⟩ = some (.string (bs r.name)) ∧ W.cell? ⟨xb, 2, none⟩ = some (.int .i64 r.size) ∧ W.cell? ⟨xb, 3, none⟩ = some (.slice pu r.runs.length cu))) (by kernel_rfl) (by exact X.out.drew.c4) (fun hHeld => ?_)
    have bq := OB.out.drew.cell 3 (by simp)
    simp only [List.getElem_toArray, List.getElem_cons_zero, List.getElem_cons_succ] at bq
    refine take_at (i := 0) (d := some 32) (v := ?_) rfl rfl (by kernel_rfl) (by kernel_rfl) (by kernel_rfl) (fun _ _ _ h => h) (Or.inl ⟨by rfl, ?_⟩) (by assumption) ?_
    rotate_left
    · (intro w hSw; (try dsimp only at hSw); go_simp; try with_reducible rfl)
    try simp only [Act.put, List.setIfInBounds_toArray, List.set_cons_zero, List.set_cons_succ]
    refine take_at (i := 1) (d := some 33) (v := ?_) rfl rfl (by kernel_rfl) (by kernel_rfl) (by kernel_rfl) (fun _ _ _ h => h) (Or.inl ⟨by rfl, ?_⟩) (by assumption) ?_
    rotate_left
    · (intro w hSw; (try dsimp only at hSw); go_simp; try with_reducible rfl)
    try simp only [Act.put, List.setIfInBounds_toArray, List.set_cons_zero, List.set_cons_succ]
    refine take_at (i := 2) (d := some 34) (v := ?_) rfl rfl (by kernel_rfl) (by kernel_rfl) (by kernel_rfl) (fun _ _ _ h => h) (Or.inl ⟨by rfl, ?_⟩) (by assumption) ?_
    rotate_left
    · (intro w hSw; (try dsimp only at hSw); go_simp; try with_reducible rfl)
    try simp only [Act.put, List.setIfInBounds_toArray, List.set_cons_zero, List.set_cons_succ]
    refine take_at (i := 3) (d := some 35) (v := ?_) rfl rfl (by kernel_rfl) (by kernel_rfl) (by kernel_rfl) (fun _ _ _ h => h) (Or.inl ⟨by rfl, ?_⟩) (by assumption) ?_
    rotate_left
    · (intro w hSw; (try dsimp only at hSw); go_simp; try with_reducible rfl)
    try simp only [Act.put, List.setIfInBounds_toArray, List.set_cons_zero, List.set_cons_succ]
    refine take_at (i := 5) (d := some 37) (v := ?_) rfl rfl (by kernel_rfl) (by kernel_rfl) (by kernel_rfl) (fun _ _ _ h => h) (Or.inl ⟨by rfl, ?_⟩) (by assumption) ?_
    rotate_left
    · (intro w hSw; (try dsimp only at hSw); go_simp; try with_reducible rfl)
    try simp only [Act.put, List.setIfInBounds_toArray, List.set_cons_zero, List.set_cons_succ]
    refine wpAnyH_ready (rs := [4, 6]) (by kernel_rfl) (by simp) ?_
    refine (AllReadyH.cons rfl (fun K hK => ?_) (AllReadyH.cons rfl (fun K hK => ?_) AllReadyH.nil))
    · skip
      go_simp
      refine hK.out _ _ ?_ (fun hHeld => ?_)
      · exact X.out.drew.c4
      clear hK K
      try simp only [Act.put, List.setIfInBounds_toArray, List.set_cons_zero, List.set_cons_succ]
      refine wpAnyH_ready (rs := [6]) (by kernel_rfl) (by simp) ?_
      refine (AllReadyH.cons rfl (fun K hK => ?_) AllReadyH.nil)
      go_simp
      have ka : Kept [] wx (wx.drew.alloc (.cells #[.int .u32 r.id, .string (bs r.name), .int .i64 r.size, .slice pu r.runs.length cu] 58)) := (Kept.refl [] wx).drew.alloc _
      have OBa := Lib.hid (ka.own OB.out (by simp))
      have Xa := Lib.hid (ka.own X.out (by simp))
      have RWa := Lib.hid (RW.out.kept0 ka)
      have ITa := Lib.hid (IT.out.kept0 ka)
      have KXa := Lib.hid (KX.out.trans (ka.mono (by simp)))
      clear ka
      refine hK.out _ _ ?_ (fun hHeld => ?_)
      · exact Xa.out.c4
      clear hK K
      try simp only [Act.put, List.setIfInBounds_toArray, List.set_cons_zero, List.set_cons_succ]
      have hsrc := Own.new wx.drew #[.int .u32 r.id, .string (bs r.name), .int .i64 r.size, .slice pu r.runs.length cu] 58
      obtain ⟨v5, w5, hrun, hrow5, hgrow5, _, hblk5⟩ := run_append_own_at (P := Tryz.prog) (wx.drew.alloc (.cells #[.int .u32 r.id, .string (bs r.name), .int .i64 r.size, .slice pu r.runs.length cu] 58)) w1.heap.size 23 23 58 i0 _ 4 56 Tryz.underlying23 hi0 hz0 hz1 hz2 rfl (by decide) _ ys.length (icells ys) RWa.out.rot.ra ⟨wx.drew.heap.size, 0, none⟩ 1 1 [.int .u32 r.id, .string (bs r.name), .int .i64 r.size, .slice pu r.runs.length cu] rfl (fun q u hq => by
          have hq5 := (List.getElem?_eq_some_iff.1 hq).1
          rw [Go.WideShapes.add_plain, Nat.zero_add, hsrc.cell q (by simpa using hq5)]
          rw [← hq]; simp [List.getElem?_eq_getElem hq5]) (by intro u hu; simp at hu; rcases hu with rfl | rfl | rfl | rfl <;> rfl) (by have := HLN.out.2.1; unfold maxLen; omega) (by have := HLN.out.2.1; omega) (by have := KXa.out.size; omega)
      have radd := (RWa.out.rot.add ITa.out hgrow5 hrow5 hblk5).rot.rot
      obtain ⟨p5, c5, rfl⟩ := own_shape hrow5
      obtain ⟨T, hT⟩ : ∃ T : List Nat, T = ((Value.slice pb ys.length cb).ownBlock).toList := ⟨_, rfl⟩
      have hTb : bx ∉ T := fun hb => by
        rw [hT, Option.mem_toList] at hb
        exact own_row_ne RWa.out.rot.ra OBa.out (by decide) hb
      have hTi : ∀ xc, T = xc → True := fun _ _ => trivial
      have kT5 : Kept T _ w5 := (Kept.refl T _).grown hgrow5 (fun q hq => Or.inl (by rw [hT, Option.mem_toList]; exact hq))
      have OB5 := Lib.hid (kT5.own OBa.out hTb)
      have R5 := Lib.hid radd
      have K5 := Lib.hid (KXa.out.grown hgrow5 (fun q hq => Or.inr (World.ownsRow.lt RWa.out.rot.ra q hq).1))
      have X5 : Hid (Own w5 xb #[.int .u32 r.id, .string (bs r.name), .int .i64 r.size, .slice pu r.runs.length cu] 58) := Lib.hid (kT5.own Xa.out (fun hb => by
        rw [hT, Option.mem_toList] at hb
        exact HXR.out hb))
      have HRUN := Lib.hid hrun
      clear hrow5 hgrow5 hT hTb hTi kT5 hsrc hrun radd hblk5
      refine wpAnyH_ready (rs := [7]) (by kernel_rfl) (by simp) ?_
      refine (AllReadyH.cons rfl (fun K hK => ?_) AllReadyH.nil)
      refine step_append_runJ rfl _ _ 23 23 rfl _ _ (by simp [Act.eval, Act.put]) (by simp [Act.eval, Act.put]) HRUN.out ?_
      refine hK.out _ _ ?_ (fun hHeld => ?_)
      · exact X5.out.c4
      clear hK K
      try simp only [Act.put, List.setIfInBounds_toArray, List.set_cons_zero, List.set_cons_succ]
      refine take_at (i := 8) (d := some 40) (v := ?_) rfl rfl (by kernel_rfl) (by kernel_rfl) (by kernel_rfl) (fun _ _ _ h => h) (Or.inl ⟨by rfl, ?_⟩) (by assumption) ?_
      rotate_left
      · (intro w hSw; (try dsimp only at hSw); go_simp; try with_reducible rfl)
      try simp only [Act.put, List.setIfInBounds_toArray, List.set_cons_zero, List.set_cons_succ]
      refine take_at (i := 9) (d := some 41) (v := ?_) rfl rfl (by kernel_rfl) (by kernel_rfl) (by kernel_rfl) (fun _ _ _ h => h) (Or.inl ⟨by rfl, ?_⟩) (by assumption) ?_
      rotate_left
      · (intro w hSw; (try dsimp only at hSw); go_simp; try with_reducible rfl)
      try simp only [Act.put, List.setIfInBounds_toArray, List.set_cons_zero, List.set_cons_succ]
      have b0 := OB5.out.cell 3 (by simp)
      simp only [List.getElem_toArray, List.getElem_cons_zero, List.getElem_cons_succ] at b0
      have z0 := OB5.out.free 3
      refine wpAnyH_ready (rs := [10]) (by kernel_rfl) (by simp) ?_
      refine (AllReadyH.cons rfl (fun K hK => ?_) AllReadyH.nil)
      go_simp
      refine hK.out _ _ ?_ (fun hHeld => ?_)
      · exact (X5.out.other (p := ⟨bx, 3, none⟩) HNE.out _).c4
      clear hK K
      try simp only [Act.put, List.setIfInBounds_toArray, List.set_cons_zero, List.set_cons_succ]
      refine wpAnyH_done (by kernel_rfl) ?_ _
      go_wp2_with fail
      go_ret
      unfold CSortSays sortK
      rw [HK.out]
      refine ⟨rfl, _, _, _, xs, (ys ++ [(r.item, .slice pu r.runs.length cu)]), zs, OB5.out.set 3 _, R5.out.set OB5.out 3 _, ?_, ?_, ?_, K5.out.setCell (p := ⟨bx, 3, none⟩) (Or.inl (by simp)) _⟩
      · exact HE.out.1
      · rw [List.map_append, HE.out.2.1]; rfl
      · exact HE.out.2.2
    · skip
      go_simp
      have ka : Kept [] wx (wx.drew.alloc (.cells #[.int .u32 r.id, .string (bs r.name), .int .i64 r.size, .slice pu r.runs.length cu] 58)) := (Kept.refl [] wx).drew.alloc _
      have OBa := Lib.hid (ka.own OB.out (by simp))
      have Xa := Lib.hid (ka.own X.out (by simp))
      have RWa := Lib.hid (RW.out.kept0 ka)
      have ITa := Lib.hid (IT.out.kept0 ka)
      have KXa := Lib.hid (KX.out.trans (ka.mono (by simp)))
      clear ka
      refine hK.out _ _ ?_ (fun hHeld => ?_)
      · exact Xa.out.c4
      clear hK K
      try simp only [Act.put, List.setIfInBounds_toArray, List.set_cons_zero, List.set_cons_succ]
      have bq2 := (OB.out.alloc (.cells #[.int .u32 r.id, .string (bs r.name), .int .i64 r.size, .slice pu r.runs.length cu] 58)).drew.cell 3 (by simp)
      simp only [List.getElem_toArray, List.getElem_cons_zero, List.getElem_cons_succ] at bq2
      refine wpAnyH_ready (rs := [4]) (by kernel_rfl) (by simp) ?_
      refine (AllReadyH.cons rfl (fun K hK => ?_) AllReadyH.nil)
      go_simp
      refine hK.out _ _ ?_ (fun hHeld => ?_)
      · exact Xa.out.c4
      clear hK K
      try simp only [Act.put, List.setIfInBounds_toArray, List.set_cons_zero, List.set_cons_succ]
      have hsrc := Own.new wx.drew #[.int .u32 r.id, .string (bs r.name), .int .i64 r.size, .slice pu r.runs.length cu] 58
      obtain ⟨v5, w5, hrun, hrow5, hgrow5, _, hblk5⟩ := run_append_own_at (P := Tryz.prog) (wx.drew.alloc (.cells #[.int .u32 r.id, .string (bs r.name), .int .i64 r.size, .slice pu r.runs.length cu] 58)) w1.heap.size 23 23 58 i0 _ 4 56 Tryz.underlying23 hi0 hz0 hz1 hz2 rfl (by decide) _ ys.length (icells ys) RWa.out.rot.ra ⟨wx.drew.heap.size, 0, none⟩ 1 1 [.int .u32 r.id, .string (bs r.name), .int .i64 r.size, .slice pu r.runs.length cu] rfl (fun q u hq => by
          have hq5 := (List.getElem?_eq_some_iff.1 hq).1
          rw [Go.WideShapes.add_plain, Nat.zero_add, hsrc.cell q (by simpa using hq5)]
          rw [← hq]; simp [List.getElem?_eq_getElem hq5]) (by intro u hu; simp at hu; rcases hu with rfl | rfl | rfl | rfl <;> rfl) (by have := HLN.out.2.1; unfold maxLen; omega) (by have := HLN.out.2.1; omega) (by have := KXa.out.size; omega)
      have radd := (RWa.out.rot.add ITa.out hgrow5 hrow5 hblk5).rot.rot
      obtain ⟨p5, c5, rfl⟩ := own_shape hrow5
      obtain ⟨T, hT⟩ : ∃ T : List Nat, T = ((Value.slice pb ys.length cb).ownBlock).toList := ⟨_, rfl⟩
      have hTb : bx ∉ T := fun hb => by
        rw [hT, Option.mem_toList] at hb
        exact own_row_ne RWa.out.rot.ra OBa.out (by decide) hb
      have hTi : ∀ xc, T = xc → True := fun _ _ => trivial
      have kT5 : Kept T _ w5 := (Kept.refl T _).grown hgrow5 (fun q hq => Or.inl (by rw [hT, Option.mem_toList]; exact hq))
      have OB5 := Lib.hid (kT5.own OBa.out hTb)
      have R5 := Lib.hid radd
      have K5 := Lib.hid (KXa.out.grown hgrow5 (fun q hq => Or.inr (World.ownsRow.lt RWa.out.rot.ra q hq).1))
      have X5 : Hid (Own w5 xb #[.int .u32 r.id, .string (bs r.name), .int .i64 r.size, .slice pu r.runs.length cu] 58) := Lib.hid (kT5.own Xa.out (fun hb => by
        rw [hT, Option.mem_toList] at hb
        exact HXR.out hb))
      have HRUN := Lib.hid hrun
      clear hrow5 hgrow5 hT hTb hTi kT5 hsrc hrun radd hblk5
      refine wpAnyH_ready (rs := [7]) (by kernel_rfl) (by simp) ?_
      refine (AllReadyH.cons rfl (fun K hK => ?_) AllReadyH.nil)
      refine step_append_runJ rfl _ _ 23 23 rfl _ _ (by simp [Act.eval, Act.put]) (by simp [Act.eval, Act.put]) HRUN.out ?_
      refine hK.out _ _ ?_ (fun hHeld => ?_)
      · exact X5.out.c4
      clear hK K
      try simp only [Act.put, List.setIfInBounds_toArray, List.set_cons_zero, List.set_cons_succ]
      refine take_at (i := 8) (d := some 40) (v := ?_) rfl rfl (by kernel_rfl) (by kernel_rfl) (by kernel_rfl) (fun _ _ _ h => h) (Or.inl ⟨by rfl, ?_⟩) (by assumption) ?_
      rotate_left
      · (intro w hSw; (try dsimp only at hSw); go_simp; try with_reducible rfl)
      try simp only [Act.put, List.setIfInBounds_toArray, List.set_cons_zero, List.set_cons_succ]
      refine take_at (i := 9) (d := some 41) (v := ?_) rfl rfl (by kernel_rfl) (by kernel_rfl) (by kernel_rfl) (fun _ _ _ h => h) (Or.inl ⟨by rfl, ?_⟩) (by assumption) ?_
      rotate_left
      · (intro w hSw; (try dsimp only at hSw); go_simp; try with_reducible rfl)
      try simp only [Act.put, List.setIfInBounds_toArray, List.set_cons_zero, List.set_cons_succ]
      have b0 := OB5.out.cell 3 (by simp)
      simp only [List.getElem_toArray, List.getElem_cons_zero, List.getElem_cons_succ] at b0
      have z0 := OB5.out.free 3
      refine wpAnyH_ready (rs := [10]) (by kernel_rfl) (by simp) ?_
      refine (AllReadyH.cons rfl (fun K hK => ?_) AllReadyH.nil)
      go_simp
      refine hK.out _ _ ?_ (fun hHeld => ?_)
      · exact (X5.out.other (p := ⟨bx, 3, none⟩) HNE.out _).c4
      clear hK K
      try simp only [Act.put, List.setIfInBounds_toArray, List.set_cons_zero, List.set_cons_succ]
      refine wpAnyH_done (by kernel_rfl) ?_ _
      go_wp2_with fail
      go_ret
      unfold CSortSays sortK
      rw [HK.out]
      refine ⟨rfl, _, _, _, xs, (ys ++ [(r.item, .slice pu r.runs.length cu)]), zs, OB5.out.set 3 _, R5.out.set OB5.out 3 _, ?_, ?_, ?_, K5.out.setCell (p := ⟨bx, 3, none⟩) (Or.inl (by simp)) _⟩
      · exact HE.out.1
      · rw [List.map_append, HE.out.2.1]; rfl
      · exact HE.out.2.2
set_option maxRecDepth 100000 in
set_option maxHeartbeats 8000000 in
theorem zsort3 (r : JRec) (rv : Value) (w1 w : World) (bx : Nat) (nb nm : Int) (A B C : List JItem) (lo hi : Nat) (hG : Grows w1 w bx nb nm A B C) (hbx : bx < w1.heap.size) (hrr : RunsIn w rv r.runs lo hi) (hf : r.fits) (hwf : ∀ a ∈ r.runs, WfRun a) (hrl : r.runs.length ≤ 1000000) (hlen : A.length + B.length + C.length ≤ 100000) (hk : r.kind = 3) :
    Calls Tryz.prog 53 #[.pointer (some ⟨bx, 0, none⟩), .agg (r.cells rv)] w (CSortSays r w1 bx nb nm A B C) := by
  obtain ⟨i0, hi0, hz0, hz1, hz2⟩ := infoItem
  have HC : Hid (∀ W, Kept [] w W → Calls Tryz.prog 91 #[rv] W (GivesR r.runs W)) := Lib.hid (fun W q => pcloneR rv r.runs _ _ W (hrr.kept0 q) hrl)
  obtain ⟨va, vb, vc, xs, ys, zs, oB, r3, e1, e2, e3, kW⟩ := hG
  obtain ⟨pa, ca, rfl⟩ := own_shape r3.ra
  obtain ⟨pb, cb, rfl⟩ := own_shape r3.rb
  obtain ⟨pc, cc, rfl⟩ := own_shape r3.rc
  obtain ⟨prr, crr, rfl⟩ := hrr.shape
  have HLN : Hid (xs.length ≤ 100000 ∧ ys.length ≤ 100000 ∧ zs.length ≤ 100000) := Lib.hid (by
    have h1 := congrArg List.length e1
    have h2 := congrArg List.length e2
    have h3 := congrArg List.length e3
    rw [List.length_map] at h1 h2 h3
    omega)
  have HIT : Hid (∀ W u, W.ownsRow w1.heap.size 48 2 u r.runs.length (rcells r.runs) → OwnItem w1.heap.size W (r.item, u)) := Lib.hid (fun W u ho => ⟨ho, JRec.item_fits hf, hwf⟩)
  have HE := Lib.hid (And.intro e1 (And.intro e2 e3))
  have KW := Lib.hid kW
  have OBX := Lib.hid oB
  have ROW := Lib.hid r3
  have HBX : Hid (bx < w1.heap.size ∧ w1.heap.size ≤ w.heap.size) := Lib.hid ⟨hbx, kW.size⟩
  have oR := Own.new w (r.cells (.slice prr r.runs.length crr)) 55
  have k0 : Kept [] w (w.alloc (.cells (r.cells (.slice prr r.runs.length crr)) 55)) := (Kept.refl _ _).alloc _
  unfold JRec.cells at oR k0 ⊢
  unfold GivesR at HC
  have OR := Lib.hid oR
  have K0 := Lib.hid k0
  have HK := Lib.hid hk
  clear oR k0 hrr hf hwf e1 e2 e3 kW oB r3 hbx hk hlen hrl
  go_enter Tryz.func53, Tryz.ntmps53
  go_upto_region 1 with fail
  go_cut [5] from 6 to 15 (fun v5 wx => ∃ xb pu cu, v5 = .pointer (some ⟨xb, 0, none⟩) ∧ Own wx xb #[.int .u32 r.id, .string (bs r.name), .int .i64 r.size, .slice pu r.runs.length cu] 58 ∧ wx.ownsRow w.heap.size 48 2 (.slice pu r.runs.length cu) r.runs.length (rcells r.runs) ∧ Own wx w.heap.size #[.int .i64 r.kind, .int .u32 r.id, .string (bs r.name), .int .i64 r.size, .slice prr r.runs.length crr] 55 ∧ Kept [] w wx ∧ w.heap.size ≤ xb)
  case first =>
    refine wp_region_held_drew (S := (fun W => W.cell? ⟨w.heap.size, 0, none⟩ = some (.int .i64 r.kind) ∧ W.cell? ⟨w.heap.size, 1, none⟩ = some (.int .u32 r.id) ∧ W.cell? ⟨w.heap.size, 2, none⟩ = some (.string (bs r.name)) ∧ W.cell? ⟨w.heap.size, 3, none⟩ = some (.int .i64 r.size) ∧ W.cell? ⟨w.heap.size, 4, none⟩ = some (.slice prr r.runs.length crr))) (by kernel_rfl) (by exact OR.out.drew.k5) (fun hHeld => ?_)
    refine take_at (i := 0) (d := some 6) (v := ?_) rfl rfl (by kernel_rfl) (by kernel_rfl) (by kernel_rfl) (fun _ _ _ h => h) (Or.inl ⟨by rfl, ?_⟩) (by assumption) ?_
    rotate_left
    · (intro w hSw; (try dsimp only at hSw); go_simp; try with_reducible rfl)
    try simp only [Act.put, List.setIfInBounds_toArray, List.set_cons_zero, List.set_cons_succ]
    refine take_at (i := 1) (d := some 7) (v := ?_) rfl rfl (by kernel_rfl) (by kernel_rfl) (by kernel_rfl) (fun _ _ _ h => h) (Or.inl ⟨by rfl, ?_⟩) (by assumption) ?_
    rotate_left
    · (intro w hSw; (try dsimp only at hSw); go_simp; try with_reducible rfl)
    try simp only [Act.put, List.setIfInBounds_toArray, List.set_cons_zero, List.set_cons_succ]
    refine take_at (i := 2) (d := some 8) (v := ?_) rfl rfl (by kernel_rfl) (by kernel_rfl) (by kernel_rfl) (fun _ _ _ h => h) (Or.inl ⟨by rfl, ?_⟩) (by assumption) ?_
    rotate_left
    · (intro w hSw; (try dsimp only at hSw); go_simp; try with_reducible rfl)
    try simp only [Act.put, List.setIfInBounds_toArray, List.set_cons_zero, List.set_cons_succ]
    refine take_at (i := 3) (d := some 9) (v := ?_) rfl rfl (by kernel_rfl) (by kernel_rfl) (by kernel_rfl) (fun _ _ _ h => h) (Or.inl ⟨by rfl, ?_⟩) (by assumption) ?_
    rotate_left
    · (intro w hSw; (try dsimp only at hSw); go_simp; try with_reducible rfl)
    try simp only [Act.put, List.setIfInBounds_toArray, List.set_cons_zero, List.set_cons_succ]
    refine take_at (i := 4) (d := some 10) (v := ?_) rfl rfl (by kernel_rfl) (by kernel_rfl) (by kernel_rfl) (fun _ _ _ h => h) (Or.inl ⟨by rfl, ?_⟩) (by assumption) ?_
    rotate_left
    · (intro w hSw; (try dsimp only at hSw); go_simp; try with_reducible rfl)
    try simp only [Act.put, List.setIfInBounds_toArray, List.set_cons_zero, List.set_cons_succ]
    refine take_at (i := 5) (d := some 11) (v := ?_) rfl rfl (by kernel_rfl) (by kernel_rfl) (by kernel_rfl) (fun _ _ _ h => h) (Or.inl ⟨by rfl, ?_⟩) (by assumption) ?_
    rotate_left
    · (intro w hSw; (try dsimp only at hSw); go_simp; try with_reducible rfl)
    try simp only [Act.put, List.setIfInBounds_toArray, List.set_cons_zero, List.set_cons_succ]
    refine take_at (i := 6) (d := some 12) (v := ?_) rfl rfl (by kernel_rfl) (by kernel_rfl) (by kernel_rfl) (fun _ _ _ h => h) (Or.inl ⟨by rfl, ?_⟩) (by assumption) ?_
    rotate_left
    · (intro w hSw; (try dsimp only at hSw); go_simp; try with_reducible rfl)
    try simp only [Act.put, List.setIfInBounds_toArray, List.set_cons_zero, List.set_cons_succ]
    refine take_at (i := 7) (d := some 13) (v := ?_) rfl rfl (by kernel_rfl) (by kernel_rfl) (by kernel_rfl) (fun _ _ _ h => h) (Or.inl ⟨by rfl, ?_⟩) (by assumption) ?_
    rotate_left
    · (intro w hSw; (try dsimp only at hSw); go_simp; try with_reducible rfl)
    try simp only [Act.put, List.setIfInBounds_toArray, List.set_cons_zero, List.set_cons_succ]
    refine wpAnyH_ready (rs := [8, 10]) (by kernel_rfl) (by simp) ?_
    refine (AllReadyH.cons rfl (fun K hK => ?_) (AllReadyH.cons rfl (fun K hK => ?_) AllReadyH.nil))
    · go_simp
      ((with_reducible refine (HC.out _ K0.out.drew).mono ?_)); rintro e w5 ⟨u5, rfl, r5, k5⟩
      have K5 := Lib.hid ((K0.out.drew).trans k5)
      have o5 := k5.own OR.out.drew (by simp)
      have O5 := Lib.hid o5
      have R5 := Lib.hid r5
      clear r5 o5
      obtain ⟨pu, cu, rfl⟩ := own_shape R5.out
      go_wp2_with fail
      refine hK.out _ _ ?_ (fun hHeld => ?_)
      · exact O5.out.k5
      clear hK K
      try simp only [Act.put, List.setIfInBounds_toArray, List.set_cons_zero, List.set_cons_succ]
      refine take_at (i := 9) (d := some 15) (v := ?_) rfl rfl (by kernel_rfl) (by kernel_rfl) (by kernel_rfl) (fun _ _ _ h => h) (Or.inl ⟨by rfl, ?_⟩) (by assumption) ?_
      rotate_left
      · (intro w hSw; (try dsimp only at hSw); go_simp; try with_reducible rfl)
      try simp only [Act.put, List.setIfInBounds_toArray, List.set_cons_zero, List.set_cons_succ]
      refine wpAnyH_ready (rs := [10]) (by kernel_rfl) (by simp) ?_
      refine (AllReadyH.cons rfl (fun K hK => ?_) AllReadyH.nil)
      go_simp
      refine hK.out _ _ ?_ (fun hHeld => ?_)
      · go_keep
      clear hK K
      try simp only [Act.put, List.setIfInBounds_toArray, List.set_cons_zero, List.set_cons_succ]
      refine wpAnyH_ready (rs := [11]) (by kernel_rfl) (by simp) ?_
      refine (AllReadyH.cons rfl (fun K hK => ?_) AllReadyH.nil)
      go_simp
      refine hK.out _ _ ?_ (fun hHeld => ?_)
      · go_keep
      clear hK K
      try simp only [Act.put, List.setIfInBounds_toArray, List.set_cons_zero, List.set_cons_succ]
      refine wpAnyH_done (by kernel_rfl) ?_ _
      go_wp2_with fail
      go_meet
      exact ⟨_, _, _, rfl, Own.new _ _ _, ownsRow_kept (ownsRow_base R5.out K0.out.size) ((Kept.refl [] w5).alloc _) (by simp), O5.out.alloc _, K5.out.alloc _, K5.out.size⟩
    · go_simp
      refine hK.out _ _ ?_ (fun hHeld => ?_)
      · go_keep
      clear hK K
      try simp only [Act.put, List.setIfInBounds_toArray, List.set_cons_zero, List.set_cons_succ]
      have KB := Lib.hid ((K0.out.alloc (.cells #[.int .u32 0, .string { data := #[] }, .int .i64 0, .slice none 0 0] 58)).drew)
      have OXB := Lib.hid ((Own.new (w.alloc (.cells #[.int .i64 r.kind, .int .u32 r.id, .string (bs r.name), .int .i64 r.size, .slice prr r.runs.length crr] 55)).drew #[.int .u32 0, .string { data := #[] }, .int .i64 0, .slice none 0 0] 58))
      have OB := Lib.hid ((OR.out.alloc (.cells #[.int .u32 0, .string { data := #[] }, .int .i64 0, .slice none 0 0] 58)).drew)
      refine wpAnyH_ready (rs := [8]) (by kernel_rfl) (by simp) ?_
      refine (AllReadyH.cons rfl (fun K hK => ?_) AllReadyH.nil)
      go_simp
      ((with_reducible refine (HC.out _ KB.out).mono ?_)); rintro e w5 ⟨u5, rfl, r5, k5⟩
      have K5 := Lib.hid ((KB.out).trans k5)
      have o5 := k5.own OB.out (by simp)
      have O5 := Lib.hid o5
      have R5 := Lib.hid r5
      clear r5 o5
      obtain ⟨pu, cu, rfl⟩ := own_shape R5.out
      go_wp2_with fail
      refine hK.out _ _ ?_ (fun hHeld => ?_)
      · exact O5.out.k5
      clear hK K
      try simp only [Act.put, List.setIfInBounds_toArray, List.set_cons_zero, List.set_cons_succ]
      have ox5 := k5.own OXB.out (by simp)
      simp only [World.size_alloc, World.size_drew] at ox5
      have OX5 := Lib.hid ox5
      obtain ⟨z0, z1, z2, z3⟩ := ox5.c4
      obtain ⟨y0, y1, y2, y3⟩ := ox5.z4
      refine take_at (i := 9) (d := some 15) (v := ?_) rfl rfl (by kernel_rfl) (by kernel_rfl) (by kernel_rfl) (fun _ _ _ h => h) (Or.inl ⟨by rfl, ?_⟩) (by assumption) ?_
      rotate_left
      · (intro w hSw; (try dsimp only at hSw); go_simp; try with_reducible rfl)
      try simp only [Act.put, List.setIfInBounds_toArray, List.set_cons_zero, List.set_cons_succ]
      refine wpAnyH_ready (rs := [11]) (by kernel_rfl) (by simp) ?_
      refine (AllReadyH.cons rfl (fun K hK => ?_) AllReadyH.nil)
      go_simp
      refine hK.out _ _ ?_ (fun hHeld => ?_)
      · exact (O5.out.other4 (Nat.ne_of_lt (Nat.lt_succ_self _)) _ _ _ _).k5
      clear hK K
      try simp only [Act.put, List.setIfInBounds_toArray, List.set_cons_zero, List.set_cons_succ]
      refine wpAnyH_done (by kernel_rfl) ?_ _
      go_wp2_with fail
      go_meet
      exact ⟨_, _, _, rfl, OX5.out.set4 _ _ _ _, ownsRow_keptO (ownsRow_base R5.out KB.out.size) ((Kept.refl [w.heap.size + 1] w5).set4 (Or.inl (by simp)) _ _ _ _) OX5.out (by decide), O5.out.other4 (Nat.ne_of_lt (Nat.lt_succ_self _)) _ _ _ _, K5.out.set4 (Or.inr (Nat.le_succ _)) _ _ _ _, Nat.le_succ _⟩
  case rest =>
    obtain ⟨xb, pu, cu, rfl, hX, hU, hR, hK, hxb⟩ := hcut
    rename World => wx
    have X := Lib.hid hX
    have OB := Lib.hid (hK.own OBX.out (by simp))
    have RW := Lib.hid (ROW.out.kept0 hK)
    have IT := Lib.hid (HIT.out _ _ (ownsRow_base hU HBX.out.2))
    have KX := Lib.hid (KW.out.trans (hK.mono (by simp)))
    have HXR : Hid ((Value.slice pc zs.length cc).ownBlock ≠ some xb) := Lib.hid (fun e => by
      have h1 := (World.ownsRow.lt ROW.out.rot.rot.ra xb e).2
      omega)
    have HNE : Hid (xb ≠ bx) := Lib.hid (fun e => by have := HBX.out; omega)
    obtain ⟨y0, y1, y2, y3, y4⟩ := hR.k5
    clear hX hU hR hK hxb
    rw [HK.out] at y0
    go_wp2_with fail
    refine wp_region_held_drew (S := (fun W => W.cell? ⟨xb, 0, none⟩ = some (.int .u32 r.id) ∧ W.cell? ⟨xb, 1, none⟩ = some (.string (bs r.name)) ∧ W.cell? ⟨xb, 2, none⟩ = some (.int .i64 r.size) ∧ W.cell? ⟨xb, 3, none⟩ = some (.slice pu r.runs.length cu))) (by kernel_rfl) (by exact X.out.drew.c4) (fun hHeld => ?_)
    have bq := OB.out.drew.cell 4 (by simp)
    simp only [List.getElem_toArray, List.getElem_cons_zero, List.getElem_cons_succ] at bq
    refine take_at (i := 0) (d := some 44) (v := ?_) rfl rfl (by kernel_rfl) (by kernel_rfl) (by kernel_rfl) (fun _ _ _ h => h) (Or.inl ⟨by rfl, ?_⟩) (by assumption) ?_
    rotate_left
    · (intro w hSw; (try dsimp only at hSw); go_simp; try with_reducible rfl)
    try simp only [Act.put, List.setIfInBounds_toArray, List.set_cons_zero, List.set_cons_succ]
    refine take_at (i := 1) (d := some 45) (v := ?_) rfl rfl (by kernel_rfl) (by kernel_rfl) (by kernel_rfl) (fun _ _ _ h => h) (Or.inl ⟨by rfl, ?_⟩) (by assumption) ?_
    rotate_left
    · (intro w hSw; (try dsimp only at hSw); go_simp; try with_reducible rfl)
    try simp only [Act.put, List.setIfInBounds_toArray, List.set_cons_zero, List.set_cons_succ]
    refine take_at (i := 2) (d := some 46) (v := ?_) rfl rfl (by kernel_rfl) (by kernel_rfl) (by kernel_rfl) (fun _ _ _ h => h) (Or.inl ⟨by rfl, ?_⟩) (by assumption) ?_
    rotate_left
    · (intro w hSw; (try dsimp only at hSw); go_simp; try with_reducible rfl)
    try simp only [Act.put, List.setIfInBounds_toArray, List.set_cons_zero, List.set_cons_succ]
    refine take_at (i := 3) (d := some 47) (v := ?_) rfl rfl (by kernel_rfl) (by kernel_rfl) (by kernel_rfl) (fun _ _ _ h => h) (Or.inl ⟨by rfl, ?_⟩) (by assumption) ?_
    rotate_left
    · (intro w hSw; (try dsimp only at hSw); go_simp; try with_reducible rfl)
    try simp only [Act.put, List.setIfInBounds_toArray, List.set_cons_zero, List.set_cons_succ]
    refine take_at (i := 5) (d := some 49) (v := ?_) rfl rfl (by kernel_rfl) (by kernel_rfl) (by kernel_rfl) (fun _ _ _ h => h) (Or.inl ⟨by rfl, ?_⟩) (by assumption) ?_
    rotate_left
    · (intro w hSw; (try dsimp only at hSw); go_simp; try with_reducible rfl)
    try simp only [Act.put, List.setIfInBounds_toArray, List.set_cons_zero, List.set_cons_succ]
    refine wpAnyH_ready (rs := [4, 6]) (by kernel_rfl) (by simp) ?_
    refine (AllReadyH.cons rfl (fun K hK => ?_) (AllReadyH.cons rfl (fun K hK => ?_) AllReadyH.nil))
    · skip
      go_simp
      refine hK.out _ _ ?_ (fun hHeld => ?_)
      · exact X.out.drew.c4
      clear hK K
      try simp only [Act.put, List.setIfInBounds_toArray, List.set_cons_zero, List.set_cons_succ]
      refine wpAnyH_ready (rs := [6]) (by kernel_rfl) (by simp) ?_
      refine (AllReadyH.cons rfl (fun K hK => ?_) AllReadyH.nil)
      go_simp
      have ka : Kept [] wx (wx.drew.alloc (.cells #[.int .u32 r.id, .string (bs r.name), .int .i64 r.size, .slice pu r.runs.length cu] 58)) := (Kept.refl [] wx).drew.alloc _
      have OBa := Lib.hid (ka.own OB.out (by simp))
      have Xa := Lib.hid (ka.own X.out (by simp))
      have RWa := Lib.hid (RW.out.kept0 ka)
      have ITa := Lib.hid (IT.out.kept0 ka)
      have KXa := Lib.hid (KX.out.trans (ka.mono (by simp)))
      clear ka
      refine hK.out _ _ ?_ (fun hHeld => ?_)
      · exact Xa.out.c4
      clear hK K
      try simp only [Act.put, List.setIfInBounds_toArray, List.set_cons_zero, List.set_cons_succ]
      have hsrc := Own.new wx.drew #[.int .u32 r.id, .string (bs r.name), .int .i64 r.size, .slice pu r.runs.length cu] 58
      obtain ⟨v5, w5, hrun, hrow5, hgrow5, _, hblk5⟩ := run_append_own_at (P := Tryz.prog) (wx.drew.alloc (.cells #[.int .u32 r.id, .string (bs r.name), .int .i64 r.size, .slice pu r.runs.length cu] 58)) w1.heap.size 23 23 58 i0 _ 4 56 Tryz.underlying23 hi0 hz0 hz1 hz2 rfl (by decide) _ zs.length (icells zs) RWa.out.rot.rot.ra ⟨wx.drew.heap.size, 0, none⟩ 1 1 [.int .u32 r.id, .string (bs r.name), .int .i64 r.size, .slice pu r.runs.length cu] rfl (fun q u hq => by
          have hq5 := (List.getElem?_eq_some_iff.1 hq).1
          rw [Go.WideShapes.add_plain, Nat.zero_add, hsrc.cell q (by simpa using hq5)]
          rw [← hq]; simp [List.getElem?_eq_getElem hq5]) (by intro u hu; simp at hu; rcases hu with rfl | rfl | rfl | rfl <;> rfl) (by have := HLN.out.2.2; unfold maxLen; omega) (by have := HLN.out.2.2; omega) (by have := KXa.out.size; omega)
      have radd := (RWa.out.rot.rot.add ITa.out hgrow5 hrow5 hblk5).rot
      obtain ⟨p5, c5, rfl⟩ := own_shape hrow5
      obtain ⟨T, hT⟩ : ∃ T : List Nat, T = ((Value.slice pc zs.length cc).ownBlock).toList := ⟨_, rfl⟩
      have hTb : bx ∉ T := fun hb => by
        rw [hT, Option.mem_toList] at hb
        exact own_row_ne RWa.out.rot.rot.ra OBa.out (by decide) hb
      have hTi : ∀ xc, T = xc → True := fun _ _ => trivial
      have kT5 : Kept T _ w5 := (Kept.refl T _).grown hgrow5 (fun q hq => Or.inl (by rw [hT, Option.mem_toList]; exact hq))
      have OB5 := Lib.hid (kT5.own OBa.out hTb)
      have R5 := Lib.hid radd
      have K5 := Lib.hid (KXa.out.grown hgrow5 (fun q hq => Or.inr (World.ownsRow.lt RWa.out.rot.rot.ra q hq).1))
      have X5 : Hid (Own w5 xb #[.int .u32 r.id, .string (bs r.name), .int .i64 r.size, .slice pu r.runs.length cu] 58) := Lib.hid (kT5.own Xa.out (fun hb => by
        rw [hT, Option.mem_toList] at hb
        exact HXR.out hb))
      have HRUN := Lib.hid hrun
      clear hrow5 hgrow5 hT hTb hTi kT5 hsrc hrun radd hblk5
      refine wpAnyH_ready (rs := [7]) (by kernel_rfl) (by simp) ?_
      refine (AllReadyH.cons rfl (fun K hK => ?_) AllReadyH.nil)
      refine step_append_runJ rfl _ _ 23 23 rfl _ _ (by simp [Act.eval, Act.put]) (by simp [Act.eval, Act.put]) HRUN.out ?_
      refine hK.out _ _ ?_ (fun hHeld => ?_)
      · exact X5.out.c4
      clear hK K
      try simp only [Act.put, List.setIfInBounds_toArray, List.set_cons_zero, List.set_cons_succ]
      refine take_at (i := 8) (d := some 52) (v := ?_) rfl rfl (by kernel_rfl) (by kernel_rfl) (by kernel_rfl) (fun _ _ _ h => h) (Or.inl ⟨by rfl, ?_⟩) (by assumption) ?_
      rotate_left
      · (intro w hSw; (try dsimp only at hSw); go_simp; try with_reducible rfl)
      try simp only [Act.put, List.setIfInBounds_toArray, List.set_cons_zero, List.set_cons_succ]
      refine take_at (i := 9) (d := some 53) (v := ?_) rfl rfl (by kernel_rfl) (by kernel_rfl) (by kernel_rfl) (fun _ _ _ h => h) (Or.inl ⟨by rfl, ?_⟩) (by assumption) ?_
      rotate_left
      · (intro w hSw; (try dsimp only at hSw); go_simp; try with_reducible rfl)
      try simp only [Act.put, List.setIfInBounds_toArray, List.set_cons_zero, List.set_cons_succ]
      have b0 := OB5.out.cell 4 (by simp)
      simp only [List.getElem_toArray, List.getElem_cons_zero, List.getElem_cons_succ] at b0
      have z0 := OB5.out.free 4
      refine wpAnyH_ready (rs := [10]) (by kernel_rfl) (by simp) ?_
      refine (AllReadyH.cons rfl (fun K hK => ?_) AllReadyH.nil)
      go_simp
      refine hK.out _ _ ?_ (fun hHeld => ?_)
      · exact (X5.out.other (p := ⟨bx, 4, none⟩) HNE.out _).c4
      clear hK K
      try simp only [Act.put, List.setIfInBounds_toArray, List.set_cons_zero, List.set_cons_succ]
      refine wpAnyH_done (by kernel_rfl) ?_ _
      go_wp2_with fail
      go_ret
      unfold CSortSays sortK
      rw [HK.out]
      refine ⟨rfl, _, _, _, xs, ys, (zs ++ [(r.item, .slice pu r.runs.length cu)]), OB5.out.set 4 _, R5.out.set OB5.out 4 _, ?_, ?_, ?_, K5.out.setCell (p := ⟨bx, 4, none⟩) (Or.inl (by simp)) _⟩
      · exact HE.out.1
      · exact HE.out.2.1
      · rw [List.map_append, HE.out.2.2]; rfl
    · skip
      go_simp
      have ka : Kept [] wx (wx.drew.alloc (.cells #[.int .u32 r.id, .string (bs r.name), .int .i64 r.size, .slice pu r.runs.length cu] 58)) := (Kept.refl [] wx).drew.alloc _
      have OBa := Lib.hid (ka.own OB.out (by simp))
      have Xa := Lib.hid (ka.own X.out (by simp))
      have RWa := Lib.hid (RW.out.kept0 ka)
      have ITa := Lib.hid (IT.out.kept0 ka)
      have KXa := Lib.hid (KX.out.trans (ka.mono (by simp)))
      clear ka
      refine hK.out _ _ ?_ (fun hHeld => ?_)
      · exact Xa.out.c4
      clear hK K
      try simp only [Act.put, List.setIfInBounds_toArray, List.set_cons_zero, List.set_cons_succ]
      have bq2 := (OB.out.alloc (.cells #[.int .u32 r.id, .string (bs r.name), .int .i64 r.size, .slice pu r.runs.length cu] 58)).drew.cell 4 (by simp)
      simp only [List.getElem_toArray, List.getElem_cons_zero, List.getElem_cons_succ] at bq2
      refine wpAnyH_ready (rs := [4]) (by kernel_rfl) (by simp) ?_
      refine (AllReadyH.cons rfl (fun K hK => ?_) AllReadyH.nil)
      go_simp
      refine hK.out _ _ ?_ (fun hHeld => ?_)
      · exact Xa.out.c4
      clear hK K
      try simp only [Act.put, List.setIfInBounds_toArray, List.set_cons_zero, List.set_cons_succ]
      have hsrc := Own.new wx.drew #[.int .u32 r.id, .string (bs r.name), .int .i64 r.size, .slice pu r.runs.length cu] 58
      obtain ⟨v5, w5, hrun, hrow5, hgrow5, _, hblk5⟩ := run_append_own_at (P := Tryz.prog) (wx.drew.alloc (.cells #[.int .u32 r.id, .string (bs r.name), .int .i64 r.size, .slice pu r.runs.length cu] 58)) w1.heap.size 23 23 58 i0 _ 4 56 Tryz.underlying23 hi0 hz0 hz1 hz2 rfl (by decide) _ zs.length (icells zs) RWa.out.rot.rot.ra ⟨wx.drew.heap.size, 0, none⟩ 1 1 [.int .u32 r.id, .string (bs r.name), .int .i64 r.size, .slice pu r.runs.length cu] rfl (fun q u hq => by
          have hq5 := (List.getElem?_eq_some_iff.1 hq).1
          rw [Go.WideShapes.add_plain, Nat.zero_add, hsrc.cell q (by simpa using hq5)]
          rw [← hq]; simp [List.getElem?_eq_getElem hq5]) (by intro u hu; simp at hu; rcases hu with rfl | rfl | rfl | rfl <;> rfl) (by have := HLN.out.2.2; unfold maxLen; omega) (by have := HLN.out.2.2; omega) (by have := KXa.out.size; omega)
      have radd := (RWa.out.rot.rot.add ITa.out hgrow5 hrow5 hblk5).rot
      obtain ⟨p5, c5, rfl⟩ := own_shape hrow5
      obtain ⟨T, hT⟩ : ∃ T : List Nat, T = ((Value.slice pc zs.length cc).ownBlock).toList := ⟨_, rfl⟩
      have hTb : bx ∉ T := fun hb => by
        rw [hT, Option.mem_toList] at hb
        exact own_row_ne RWa.out.rot.rot.ra OBa.out (by decide) hb
      have hTi : ∀ xc, T = xc → True := fun _ _ => trivial
      have kT5 : Kept T _ w5 := (Kept.refl T _).grown hgrow5 (fun q hq => Or.inl (by rw [hT, Option.mem_toList]; exact hq))
      have OB5 := Lib.hid (kT5.own OBa.out hTb)
      have R5 := Lib.hid radd
      have K5 := Lib.hid (KXa.out.grown hgrow5 (fun q hq => Or.inr (World.ownsRow.lt RWa.out.rot.rot.ra q hq).1))
      have X5 : Hid (Own w5 xb #[.int .u32 r.id, .string (bs r.name), .int .i64 r.size, .slice pu r.runs.length cu] 58) := Lib.hid (kT5.own Xa.out (fun hb => by
        rw [hT, Option.mem_toList] at hb
        exact HXR.out hb))
      have HRUN := Lib.hid hrun
      clear hrow5 hgrow5 hT hTb hTi kT5 hsrc hrun radd hblk5
      refine wpAnyH_ready (rs := [7]) (by kernel_rfl) (by simp) ?_
      refine (AllReadyH.cons rfl (fun K hK => ?_) AllReadyH.nil)
      refine step_append_runJ rfl _ _ 23 23 rfl _ _ (by simp [Act.eval, Act.put]) (by simp [Act.eval, Act.put]) HRUN.out ?_
      refine hK.out _ _ ?_ (fun hHeld => ?_)
      · exact X5.out.c4
      clear hK K
      try simp only [Act.put, List.setIfInBounds_toArray, List.set_cons_zero, List.set_cons_succ]
      refine take_at (i := 8) (d := some 52) (v := ?_) rfl rfl (by kernel_rfl) (by kernel_rfl) (by kernel_rfl) (fun _ _ _ h => h) (Or.inl ⟨by rfl, ?_⟩) (by assumption) ?_
      rotate_left
      · (intro w hSw; (try dsimp only at hSw); go_simp; try with_reducible rfl)
      try simp only [Act.put, List.setIfInBounds_toArray, List.set_cons_zero, List.set_cons_succ]
      refine take_at (i := 9) (d := some 53) (v := ?_) rfl rfl (by kernel_rfl) (by kernel_rfl) (by kernel_rfl) (fun _ _ _ h => h) (Or.inl ⟨by rfl, ?_⟩) (by assumption) ?_
      rotate_left
      · (intro w hSw; (try dsimp only at hSw); go_simp; try with_reducible rfl)
      try simp only [Act.put, List.setIfInBounds_toArray, List.set_cons_zero, List.set_cons_succ]
      have b0 := OB5.out.cell 4 (by simp)
      simp only [List.getElem_toArray, List.getElem_cons_zero, List.getElem_cons_succ] at b0
      have z0 := OB5.out.free 4
      refine wpAnyH_ready (rs := [10]) (by kernel_rfl) (by simp) ?_
      refine (AllReadyH.cons rfl (fun K hK => ?_) AllReadyH.nil)
      go_simp
      refine hK.out _ _ ?_ (fun hHeld => ?_)
      · exact (X5.out.other (p := ⟨bx, 4, none⟩) HNE.out _).c4
      clear hK K
      try simp only [Act.put, List.setIfInBounds_toArray, List.set_cons_zero, List.set_cons_succ]
      refine wpAnyH_done (by kernel_rfl) ?_ _
      go_wp2_with fail
      go_ret
      unfold CSortSays sortK
      rw [HK.out]
      refine ⟨rfl, _, _, _, xs, ys, (zs ++ [(r.item, .slice pu r.runs.length cu)]), OB5.out.set 4 _, R5.out.set OB5.out 4 _, ?_, ?_, ?_, K5.out.setCell (p := ⟨bx, 4, none⟩) (Or.inl (by simp)) _⟩
      · exact HE.out.1
      · exact HE.out.2.1
      · rw [List.map_append, HE.out.2.2]; rfl
set_option maxRecDepth 100000 in
set_option maxHeartbeats 8000000 in
theorem zsort0 (r : JRec) (rv : Value) (w1 w : World) (bx : Nat) (nb nm : Int) (A B C : List JItem) (lo hi : Nat) (hG : Grows w1 w bx nb nm A B C) (hbx : bx < w1.heap.size) (hrr : RunsIn w rv r.runs lo hi) (hf : r.fits) (hwf : ∀ a ∈ r.runs, WfRun a) (hrl : r.runs.length ≤ 1000000) (hlen : A.length + B.length + C.length ≤ 100000) (hk : ¬ r.kind = 1 ∧ ¬ r.kind = 2 ∧ ¬ r.kind = 3) :
    Calls Tryz.prog 53 #[.pointer (some ⟨bx, 0, none⟩), .agg (r.cells rv)] w (CSortSays r w1 bx nb nm A B C) := by
  obtain ⟨i0, hi0, hz0, hz1, hz2⟩ := infoItem
  have HC : Hid (∀ W, Kept [] w W → Calls Tryz.prog 91 #[rv] W (GivesR r.runs W)) := Lib.hid (fun W q => pcloneR rv r.runs _ _ W (hrr.kept0 q) hrl)
  obtain ⟨va, vb, vc, xs, ys, zs, oB, r3, e1, e2, e3, kW⟩ := hG
  obtain ⟨pa, ca, rfl⟩ := own_shape r3.ra
  obtain ⟨pb, cb, rfl⟩ := own_shape r3.rb
  obtain ⟨pc, cc, rfl⟩ := own_shape r3.rc
  obtain ⟨prr, crr, rfl⟩ := hrr.shape
  have HLN : Hid (xs.length ≤ 100000 ∧ ys.length ≤ 100000 ∧ zs.length ≤ 100000) := Lib.hid (by
    have h1 := congrArg List.length e1
    have h2 := congrArg List.length e2
    have h3 := congrArg List.length e3
    rw [List.length_map] at h1 h2 h3
    omega)
  have HIT : Hid (∀ W u, W.ownsRow w1.heap.size 48 2 u r.runs.length (rcells r.runs) → OwnItem w1.heap.size W (r.item, u)) := Lib.hid (fun W u ho => ⟨ho, JRec.item_fits hf, hwf⟩)
  have HE := Lib.hid (And.intro e1 (And.intro e2 e3))
  have KW := Lib.hid kW
  have OBX := Lib.hid oB
  have ROW := Lib.hid r3
  have HBX : Hid (bx < w1.heap.size ∧ w1.heap.size ≤ w.heap.size) := Lib.hid ⟨hbx, kW.size⟩
  have oR := Own.new w (r.cells (.slice prr r.runs.length crr)) 55
  have k0 : Kept [] w (w.alloc (.cells (r.cells (.slice prr r.runs.length crr)) 55)) := (Kept.refl _ _).alloc _
  unfold JRec.cells at oR k0 ⊢
  unfold GivesR at HC
  have OR := Lib.hid oR
  have K0 := Lib.hid k0
  have HK := Lib.hid hk
  clear oR k0 hrr hf hwf e1 e2 e3 kW oB r3 hbx hk hlen hrl
  go_enter Tryz.func53, Tryz.ntmps53
  go_upto_region 1 with fail
  go_cut [5] from 6 to 15 (fun v5 wx => ∃ xb pu cu, v5 = .pointer (some ⟨xb, 0, none⟩) ∧ Own wx xb #[.int .u32 r.id, .string (bs r.name), .int .i64 r.size, .slice pu r.runs.length cu] 58 ∧ wx.ownsRow w.heap.size 48 2 (.slice pu r.runs.length cu) r.runs.length (rcells r.runs) ∧ Own wx w.heap.size #[.int .i64 r.kind, .int .u32 r.id, .string (bs r.name), .int .i64 r.size, .slice prr r.runs.length crr] 55 ∧ Kept [] w wx ∧ w.heap.size ≤ xb)
  case first =>
    refine wp_region_held_drew (S := (fun W => W.cell? ⟨w.heap.size, 0, none⟩ = some (.int .i64 r.kind) ∧ W.cell? ⟨w.heap.size, 1, none⟩ = some (.int .u32 r.id) ∧ W.cell? ⟨w.heap.size, 2, none⟩ = some (.string (bs r.name)) ∧ W.cell? ⟨w.heap.size, 3, none⟩ = some (.int .i64 r.size) ∧ W.cell? ⟨w.heap.size, 4, none⟩ = some (.slice prr r.runs.length crr))) (by kernel_rfl) (by exact OR.out.drew.k5) (fun hHeld => ?_)
    refine take_at (i := 0) (d := some 6) (v := ?_) rfl rfl (by kernel_rfl) (by kernel_rfl) (by kernel_rfl) (fun _ _ _ h => h) (Or.inl ⟨by rfl, ?_⟩) (by assumption) ?_
    rotate_left
    · (intro w hSw; (try dsimp only at hSw); go_simp; try with_reducible rfl)
    try simp only [Act.put, List.setIfInBounds_toArray, List.set_cons_zero, List.set_cons_succ]
    refine take_at (i := 1) (d := some 7) (v := ?_) rfl rfl (by kernel_rfl) (by kernel_rfl) (by kernel_rfl) (fun _ _ _ h => h) (Or.inl ⟨by rfl, ?_⟩) (by assumption) ?_
    rotate_left
    · (intro w hSw; (try dsimp only at hSw); go_simp; try with_reducible rfl)
    try simp only [Act.put, List.setIfInBounds_toArray, List.set_cons_zero, List.set_cons_succ]
    refine take_at (i := 2) (d := some 8) (v := ?_) rfl rfl (by kernel_rfl) (by kernel_rfl) (by kernel_rfl) (fun _ _ _ h => h) (Or.inl ⟨by rfl, ?_⟩) (by assumption) ?_
    rotate_left
    · (intro w hSw; (try dsimp only at hSw); go_simp; try with_reducible rfl)
    try simp only [Act.put, List.setIfInBounds_toArray, List.set_cons_zero, List.set_cons_succ]
    refine take_at (i := 3) (d := some 9) (v := ?_) rfl rfl (by kernel_rfl) (by kernel_rfl) (by kernel_rfl) (fun _ _ _ h => h) (Or.inl ⟨by rfl, ?_⟩) (by assumption) ?_
    rotate_left
    · (intro w hSw; (try dsimp only at hSw); go_simp; try with_reducible rfl)
    try simp only [Act.put, List.setIfInBounds_toArray, List.set_cons_zero, List.set_cons_succ]
    refine take_at (i := 4) (d := some 10) (v := ?_) rfl rfl (by kernel_rfl) (by kernel_rfl) (by kernel_rfl) (fun _ _ _ h => h) (Or.inl ⟨by rfl, ?_⟩) (by assumption) ?_
    rotate_left
    · (intro w hSw; (try dsimp only at hSw); go_simp; try with_reducible rfl)
    try simp only [Act.put, List.setIfInBounds_toArray, List.set_cons_zero, List.set_cons_succ]
    refine take_at (i := 5) (d := some 11) (v := ?_) rfl rfl (by kernel_rfl) (by kernel_rfl) (by kernel_rfl) (fun _ _ _ h => h) (Or.inl ⟨by rfl, ?_⟩) (by assumption) ?_
    rotate_left
    · (intro w hSw; (try dsimp only at hSw); go_simp; try with_reducible rfl)
    try simp only [Act.put, List.setIfInBounds_toArray, List.set_cons_zero, List.set_cons_succ]
    refine take_at (i := 6) (d := some 12) (v := ?_) rfl rfl (by kernel_rfl) (by kernel_rfl) (by kernel_rfl) (fun _ _ _ h => h) (Or.inl ⟨by rfl, ?_⟩) (by assumption) ?_
    rotate_left
    · (intro w hSw; (try dsimp only at hSw); go_simp; try with_reducible rfl)
    try simp only [Act.put, List.setIfInBounds_toArray, List.set_cons_zero, List.set_cons_succ]
    refine take_at (i := 7) (d := some 13) (v := ?_) rfl rfl (by kernel_rfl) (by kernel_rfl) (by kernel_rfl) (fun _ _ _ h => h) (Or.inl ⟨by rfl, ?_⟩) (by assumption) ?_
    rotate_left
    · (intro w hSw; (try dsimp only at hSw); go_simp; try with_reducible rfl)
    try simp only [Act.put, List.setIfInBounds_toArray, List.set_cons_zero, List.set_cons_succ]
    refine wpAnyH_ready (rs := [8, 10]) (by kernel_rfl) (by simp) ?_
    refine (AllReadyH.cons rfl (fun K hK => ?_) (AllReadyH.cons rfl (fun K hK => ?_) AllReadyH.nil))
    · go_simp
      ((with_reducible refine (HC.out _ K0.out.drew).mono ?_)); rintro e w5 ⟨u5, rfl, r5, k5⟩
      have K5 := Lib.hid ((K0.out.drew).trans k5)
      have o5 := k5.own OR.out.drew (by simp)
      have O5 := Lib.hid o5
      have R5 := Lib.hid r5
      clear r5 o5
      obtain ⟨pu, cu, rfl⟩ := own_shape R5.out
      go_wp2_with fail
      refine hK.out _ _ ?_ (fun hHeld => ?_)
      · exact O5.out.k5
      clear hK K
      try simp only [Act.put, List.setIfInBounds_toArray, List.set_cons_zero, List.set_cons_succ]
      refine take_at (i := 9) (d := some 15) (v := ?_) rfl rfl (by kernel_rfl) (by kernel_rfl) (by kernel_rfl) (fun _ _ _ h => h) (Or.inl ⟨by rfl, ?_⟩) (by assumption) ?_
      rotate_left
      · (intro w hSw; (try dsimp only at hSw); go_simp; try with_reducible rfl)
      try simp only [Act.put, List.setIfInBounds_toArray, List.set_cons_zero, List.set_cons_succ]
      refine wpAnyH_ready (rs := [10]) (by kernel_rfl) (by simp) ?_
      refine (AllReadyH.cons rfl (fun K hK => ?_) AllReadyH.nil)
      go_simp
      refine hK.out _ _ ?_ (fun hHeld => ?_)
      · go_keep
      clear hK K
      try simp only [Act.put, List.setIfInBounds_toArray, List.set_cons_zero, List.set_cons_succ]
      refine wpAnyH_ready (rs := [11]) (by kernel_rfl) (by simp) ?_
      refine (AllReadyH.cons rfl (fun K hK => ?_) AllReadyH.nil)
      go_simp
      refine hK.out _ _ ?_ (fun hHeld => ?_)
      · go_keep
      clear hK K
      try simp only [Act.put, List.setIfInBounds_toArray, List.set_cons_zero, List.set_cons_succ]
      refine wpAnyH_done (by kernel_rfl) ?_ _
      go_wp2_with fail
      go_meet
      exact ⟨_, _, _, rfl, Own.new _ _ _, ownsRow_kept (ownsRow_base R5.out K0.out.size) ((Kept.refl [] w5).alloc _) (by simp), O5.out.alloc _, K5.out.alloc _, K5.out.size⟩
    · go_simp
      refine hK.out _ _ ?_ (fun hHeld => ?_)
      · go_keep
      clear hK K
      try simp only [Act.put, List.setIfInBounds_toArray, List.set_cons_zero, List.set_cons_succ]
      have KB := Lib.hid ((K0.out.alloc (.cells #[.int .u32 0, .string { data := #[] }, .int .i64 0, .slice none 0 0] 58)).drew)
      have OXB := Lib.hid ((Own.new (w.alloc (.cells #[.int .i64 r.kind, .int .u32 r.id, .string (bs r.name), .int .i64 r.size, .slice prr r.runs.length crr] 55)).drew #[.int .u32 0, .string { data := #[] }, .int .i64 0, .slice none 0 0] 58))
      have OB := Lib.hid ((OR.out.alloc (.cells #[.int .u32 0, .string { data := #[] }, .int .i64 0, .slice none 0 0] 58)).drew)
      refine wpAnyH_ready (rs := [8]) (by kernel_rfl) (by simp) ?_
      refine (AllReadyH.cons rfl (fun K hK => ?_) AllReadyH.nil)
      go_simp
      ((with_reducible refine (HC.out _ KB.out).mono ?_)); rintro e w5 ⟨u5, rfl, r5, k5⟩
      have K5 := Lib.hid ((KB.out).trans k5)
      have o5 := k5.own OB.out (by simp)
      have O5 := Lib.hid o5
      have R5 := Lib.hid r5
      clear r5 o5
      obtain ⟨pu, cu, rfl⟩ := own_shape R5.out
      go_wp2_with fail
      refine hK.out _ _ ?_ (fun hHeld => ?_)
      · exact O5.out.k5
      clear hK K
      try simp only [Act.put, List.setIfInBounds_toArray, List.set_cons_zero, List.set_cons_succ]
      have ox5 := k5.own OXB.out (by simp)
      simp only [World.size_alloc, World.size_drew] at ox5
      have OX5 := Lib.hid ox5
      obtain ⟨z0, z1, z2, z3⟩ := ox5.c4
      obtain ⟨y0, y1, y2, y3⟩ := ox5.z4
      refine take_at (i := 9) (d := some 15) (v := ?_) rfl rfl (by kernel_rfl) (by kernel_rfl) (by kernel_rfl) (fun _ _ _ h => h) (Or.inl ⟨by rfl, ?_⟩) (by assumption) ?_
      rotate_left
      · (intro w hSw; (try dsimp only at hSw); go_simp; try with_reducible rfl)
      try simp only [Act.put, List.setIfInBounds_toArray, List.set_cons_zero, List.set_cons_succ]
      refine wpAnyH_ready (rs := [11]) (by kernel_rfl) (by simp) ?_
      refine (AllReadyH.cons rfl (fun K hK => ?_) AllReadyH.nil)
      go_simp
      refine hK.out _ _ ?_ (fun hHeld => ?_)
      · exact (O5.out.other4 (Nat.ne_of_lt (Nat.lt_succ_self _)) _ _ _ _).k5
      clear hK K
      try simp only [Act.put, List.setIfInBounds_toArray, List.set_cons_zero, List.set_cons_succ]
      refine wpAnyH_done (by kernel_rfl) ?_ _
      go_wp2_with fail
      go_meet
      exact ⟨_, _, _, rfl, OX5.out.set4 _ _ _ _, ownsRow_keptO (ownsRow_base R5.out KB.out.size) ((Kept.refl [w.heap.size + 1] w5).set4 (Or.inl (by simp)) _ _ _ _) OX5.out (by decide), O5.out.other4 (Nat.ne_of_lt (Nat.lt_succ_self _)) _ _ _ _, K5.out.set4 (Or.inr (Nat.le_succ _)) _ _ _ _, Nat.le_succ _⟩
  case rest =>
    obtain ⟨xb, pu, cu, rfl, hX, hU, hR, hK, hxb⟩ := hcut
    rename World => wx
    have X := Lib.hid hX
    have OB := Lib.hid (hK.own OBX.out (by simp))
    have RW := Lib.hid (ROW.out.kept0 hK)
    have IT := Lib.hid (HIT.out _ _ (ownsRow_base hU HBX.out.2))
    have KX := Lib.hid (KW.out.trans (hK.mono (by simp)))
    have HNE : Hid (xb ≠ bx) := Lib.hid (fun e => by have := HBX.out; omega)
    obtain ⟨y0, y1, y2, y3, y4⟩ := hR.k5
    clear hX hU hR hK hxb
    obtain ⟨h1, h2, h3⟩ := HK.out
    have g1 : (r.kind == 1) = false := by simpa using h1
    have g2 : (r.kind == 2) = false := by simpa using h2
    have g3 : (r.kind == 3) = false := by simpa using h3
    go_wp2_with fail
    go_ret
    unfold CSortSays sortK
    rw [if_neg HK.out.1, if_neg HK.out.2.1, if_neg HK.out.2.2]
    refine ⟨by simp [HK.out.1, HK.out.2.1, HK.out.2.2], _, _, _, xs, ys, zs, OB.out, RW.out, HE.out.1, HE.out.2.1, HE.out.2.2, KX.out⟩
theorem zsort (r : JRec) (rv : Value) (w1 w : World) (bx : Nat) (nb nm : Int) (A B C : List JItem) (lo hi : Nat) (hG : Grows w1 w bx nb nm A B C) (hbx : bx < w1.heap.size) (hrr : RunsIn w rv r.runs lo hi) (hf : r.fits) (hwf : ∀ a ∈ r.runs, WfRun a) (hrl : r.runs.length ≤ 1000000) (hlen : A.length + B.length + C.length ≤ 100000) :
    Calls Tryz.prog 53 #[.pointer (some ⟨bx, 0, none⟩), .agg (r.cells rv)] w (CSortSays r w1 bx nb nm A B C) := by
  by_cases h1 : r.kind = 1
  · exact zsort1 r rv w1 w bx nb nm A B C lo hi hG hbx hrr hf hwf hrl hlen h1
  by_cases h2 : r.kind = 2
  · exact zsort2 r rv w1 w bx nb nm A B C lo hi hG hbx hrr hf hwf hrl hlen h2
  by_cases h3 : r.kind = 3
  · exact zsort3 r rv w1 w bx nb nm A B C lo hi hG hbx hrr hf hwf hrl hlen h3
  exact zsort0 r rv w1 w bx nb nm A B C lo hi hG hbx hrr hf hwf hrl hlen ⟨h1, h2, h3⟩
end Go.Proofs.YtakdnchmehmdhaaGreat
